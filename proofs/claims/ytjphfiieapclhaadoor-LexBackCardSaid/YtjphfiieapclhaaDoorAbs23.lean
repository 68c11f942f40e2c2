/- The layer Abs, part 23: what an operation asks, worked out by reduction alone. -/
import Derived.Test.YtjphfiieapclhaaDoorAbs22
namespace Go.Abs

/-- A call: what is asked of it. -/
structure CallF (X : Ctx) (f : Nat) (args : List AV) (σ : St) (Q : AV → St → Prop) : Prop where
  ev : EvF X f args σ Q
/-- A loop: what is asked of it. -/
structure LoopF (X : Ctx) (live : List Nat) (c : AC) (e : Env) (σ : St) (Q : Out → Env → St → Prop) : Prop where
  ev : EvL X live c e σ Q

def wBinI (op : BinOp) (k : IntKind) (a b : Int) (Q : AV → Prop) : Prop := match op with
  | .add => wInt k (a + b) Q
  | .sub => wInt k (a - b) Q
  | .mul => wInt k (a * b) Q
  | .quo => b ≠ 0 ∧ wInt k (a.tdiv b) Q
  | .rem => b ≠ 0 ∧ Q (.i k (a.tmod b))
  | .eql => fc (.b (decide (a = b))) Q
  | .neq => fc (.b (!decide (a = b))) Q
  | .lss => fc (.b (decide (a < b))) Q
  | .leq => fc (.b (decide (a ≤ b))) Q
  | .gtr => fc (.b (decide (b < a))) Q
  | .geq => fc (.b (decide (b ≤ a))) Q
  | op => om (aBits op k a b) Q
theorem wBinI_ok {op : BinOp} {k : IntKind} {a b : Int} {Q : AV → Prop} (h : wBinI op k a b Q) : opt (aInt op k a b) Q := by
  cases op <;> simp only [wBinI] at h
  all_goals first
    | (obtain ⟨r, rfl, h⟩ := h; exact ⟨_, rfl, h⟩)
    | (obtain ⟨h1, r, rfl, h⟩ := h; exact ⟨_, by simp only [aInt]; rw [if_neg h1], h⟩)
    | (obtain ⟨h1, h⟩ := h; exact ⟨_, by simp only [aInt]; rw [if_neg h1], h⟩)
    | (have h := fc_ok _ _ h; exact ⟨_, rfl, h⟩)
    | exact om_opt h
def wShift (op : BinOp) (k : IntKind) (a b : Int) (Q : AV → Prop) : Prop := match op with
  | .shl => 0 ≤ b ∧ wInt k (a * 2 ^ (min b.toNat k.bits)) Q
  | .shr => 0 ≤ b ∧ Q (.i k (a.fdiv (2 ^ (min b.toNat k.bits))))
  | _ => False
theorem wShift_ok {op : BinOp} {k : IntKind} {a b : Int} {Q : AV → Prop} (h : wShift op k a b Q) : opt (aShift op k a b) Q := by
  cases op <;> simp only [wShift] at h
  · obtain ⟨h1, r, rfl, h⟩ := h; exact ⟨_, by simp only [aShift]; rw [if_neg (by omega)], h⟩
  · obtain ⟨h1, h⟩ := h; exact ⟨_, by simp only [aShift]; rw [if_neg (by omega)], h⟩
def wBinS (op : BinOp) (a b : List UInt8) (Q : AV → Prop) : Prop := match op with
  | .add => a.length + b.length ≤ 9223372036854775807 ∧ Q (.s (a ++ b))
  | .eql => fc (.b (a == b)) Q
  | .neq => fc (.b (!(a == b))) Q
  | op => om (aStr op a b) Q
theorem wBinS_ok {op : BinOp} {a b : List UInt8} {Q : AV → Prop} (h : wBinS op a b Q) : opt (aStr op a b) Q := by
  cases op <;> simp only [wBinS] at h
  all_goals first
    | (obtain ⟨h1, h⟩ := h; exact ⟨_, by simp only [aStr]; rw [if_pos h1], h⟩)
    | (have h := fc_ok _ _ h; exact ⟨_, rfl, h⟩)
    | exact om_opt h
def wEq (τ : Tys) (t : Nat) (x y : AV) (n : Bool) (Q : AV → Prop) : Prop := om (eqT τ 20 t x y) fun r => fc (.b (bif n then !r else r)) Q
def wBin (τ : Tys) (op : BinOp) (t : Nat) (x y : AV) (c : Bool) (Q : AV → Prop) : Prop := match op, x, y with
  | .shl, .i k a, .i _ b => wShift .shl k a b Q
  | .shr, .i k a, .i _ b => wShift .shr k a b Q
  | op, .i k a, .i k' b => cB (decide (k = k')) (wBinI op k a b Q) False
  | op, .s a, .s b => wBinS op a b Q
  | .eql, .ic0, .ic0 => cB c (wEq τ t .ic0 .ic0 false Q) False
  | .neq, .ic0, .ic0 => cB c (wEq τ t .ic0 .ic0 true Q) False
  | .eql, .ag xs, .ag ys => om (τ t) fun T => cB T.guarded False (wEq τ t (.ag xs) (.ag ys) false Q)
  | .neq, .ag xs, .ag ys => om (τ t) fun T => cB T.guarded False (wEq τ t (.ag xs) (.ag ys) true Q)
  | .eql, x, y => wEq τ t x y false Q
  | .neq, x, y => wEq τ t x y true Q
  | _, _, _ => False
theorem cB_t {t : Bool} {A : Prop} (h : cB t A False) : t = true ∧ A := by cases t; exact h.elim; exact ⟨rfl, h⟩
theorem cB_f {t : Bool} {A : Prop} (h : cB t False A) : t = false ∧ A := by cases t; exact ⟨rfl, h⟩; exact h.elim
theorem om_some {α : Type} {o : Option α} {Q : α → Prop} (h : om o Q) : ∃ a, o = some a ∧ Q a := om_opt h
theorem wEq_ok {τ : Tys} {P : Program} (hτ : τ.Ok P) {t : Nat} {x y : AV} {Q : AV → Prop} (h : wEq τ t x y false Q) : opt ((aEq P 20 t x y).map .b) Q := by
  obtain ⟨b, hb, h⟩ := om_some h
  exact ⟨_, by rw [eqT_ok hτ _ _ _ _ _ hb]; rfl, fc_ok _ _ h⟩
theorem wNe_ok {τ : Tys} {P : Program} (hτ : τ.Ok P) {t : Nat} {x y : AV} {Q : AV → Prop} (h : wEq τ t x y true Q) : opt ((aEq P 20 t x y).map fun r => .b !r) Q := by
  obtain ⟨b, hb, h⟩ := om_some h
  exact ⟨_, by rw [eqT_ok hτ _ _ _ _ _ hb]; rfl, fc_ok _ _ h⟩
theorem wBin_ok {τ : Tys} {P : Program} (hτ : τ.Ok P) {op : BinOp} {t : Nat} {x y : AV} {c : Bool} {Q : AV → Prop} (h : wBin τ op t x y c Q) : opt (aBin P op t x y c) Q := by
  unfold wBin at h
  split at h
  · exact wShift_ok h
  · exact wShift_ok h
  · rename_i op k a k' b h1 h2
    obtain ⟨hk, h⟩ := cB_t h
    have hk := of_decide_eq_true hk
    have := wBinI_ok h
    subst hk
    cases op
    all_goals first
      | exact (h1 rfl).elim
      | exact (h2 rfl).elim
      | (simp only [aBin, if_true]; exact this)
  · have := wBinS_ok h
    have e : ∀ o a b, aBin P o t (.s a) (.s b) c = aStr o a b := by intro o a b; unfold aBin; cases o <;> rfl
    rw [e]; exact this
  · obtain ⟨rfl, h⟩ := cB_t h
    have := wEq_ok hτ h
    simpa [aBin] using this
  · obtain ⟨rfl, h⟩ := cB_t h
    have := wNe_ok hτ h
    simpa [aBin] using this
  · obtain ⟨T, hT, h⟩ := om_some h
    obtain ⟨hg, h⟩ := cB_f h
    have := wEq_ok hτ h
    simpa [aBin, hτ _ _ hT, hg] using this
  · obtain ⟨T, hT, h⟩ := om_some h
    obtain ⟨hg, h⟩ := cB_f h
    have := wNe_ok hτ h
    simpa [aBin, hτ _ _ hT, hg] using this
  · rename_i x y h1 h2 h3 h4
    have := wEq_ok hτ h
    unfold aBin
    split
    all_goals first
      | exact this
      | (exfalso; exact h1 _ _ _ _ rfl rfl)
      | (exfalso; exact h1 _ _ _ _ rfl rfl rfl)
      | (exfalso; exact h2 _ _ rfl rfl)
      | (exfalso; exact h3 rfl rfl)
      | (exfalso; exact h4 _ _ rfl rfl)
      | (exfalso; simp_all; done)
      | simp_all
  · rename_i x y h1 h2 h3 h4
    have := wNe_ok hτ h
    unfold aBin
    split
    all_goals first
      | exact this
      | (exfalso; exact h1 _ _ _ _ rfl rfl)
      | (exfalso; exact h1 _ _ _ _ rfl rfl rfl)
      | (exfalso; exact h2 _ _ rfl rfl)
      | (exfalso; exact h3 rfl rfl)
      | (exfalso; exact h4 _ _ rfl rfl)
      | (exfalso; simp_all; done)
      | simp_all
  · exact h.elim

def isU8 (τ : Tys) (e : Nat) : Bool := match τ e with
  | some ⟨.int .u8, _, _, _, _, _, _⟩ => true
  | _ => false
theorem isU8_ok {τ : Tys} {P : Program} (hτ : τ.Ok P) {e : Nat} (h : isU8 τ e = true) : ∃ a b c d f g, tyOf P e = some ⟨.int .u8, a, b, c, d, f, g⟩ := by
  unfold isU8 at h
  split at h
  · rename_i a b c d f g he; exact ⟨_, _, _, _, _, _, hτ _ _ he⟩
  · cases h
/-- Bounds of a slice expression over so many. -/
def wBnd (n : Nat) (lo hi : Option AV) (K : Nat → Nat → Prop) : Prop := match lo, hi with
  | none, none => K 0 n
  | some (.i _ i), none => ∃ a : Nat, i = a ∧ a ≤ n ∧ K a n
  | none, some (.i _ j) => ∃ b : Nat, j = b ∧ b ≤ n ∧ K 0 b
  | some (.i _ i), some (.i _ j) => ∃ a b : Nat, i = a ∧ j = b ∧ a ≤ b ∧ b ≤ n ∧ K a b
  | _, _ => False
theorem wBnd_ok {n : Nat} {lo hi : Option AV} {K : Nat → Nat → Prop} (h : wBnd n lo hi K) : ∃ a b, aBounds n n lo hi = some (a, b) ∧ a ≤ b ∧ b ≤ n ∧ K a b := by
  unfold wBnd at h
  split at h
  · exact ⟨0, n, by simp [aBounds, aHi, aLo], Nat.zero_le _, Nat.le_refl _, h⟩
  · obtain ⟨a, rfl, h1, h⟩ := h
    refine ⟨a, n, ?_, h1, Nat.le_refl _, h⟩
    simp only [aBounds, aHi, aLo, Option.bind_some]; rw [if_pos (by omega)]; simp
  · obtain ⟨b, rfl, h1, h⟩ := h
    refine ⟨0, b, ?_, Nat.zero_le _, h1, h⟩
    simp only [aBounds, aHi]; rw [if_pos (by omega)]; simp [aLo]
  · obtain ⟨a, b, rfl, rfl, h1, h2, h⟩ := h
    refine ⟨a, b, ?_, h1, h2, h⟩
    simp only [aBounds, aHi]; rw [if_pos (by omega)]; simp only [Option.bind_some, aLo]; rw [if_pos (by omega)]; simp
  · exact h.elim
def wSlcS (x : List UInt8) (lo hi : Option AV) (Q : AV → Prop) : Prop := match lo, hi with
  | none, none => Q (.s x)
  | some (.i _ i), none => ∃ a : Nat, i = a ∧ a ≤ x.length ∧ Q (.s (x.drop a))
  | none, some (.i _ j) => ∃ b : Nat, j = b ∧ b ≤ x.length ∧ Q (.s (x.take b))
  | some (.i _ i), some (.i _ j) => ∃ a b : Nat, i = a ∧ j = b ∧ a ≤ b ∧ b ≤ x.length ∧ Q (.s ((x.drop a).take (b - a)))
  | _, _ => False
theorem wSlcS_ok {x : List UInt8} {lo hi : Option AV} {Q : AV → Prop} (h : wSlcS x lo hi Q) : opt ((aBounds x.length x.length lo hi).map fun r => AV.s ((x.drop r.1).take (r.2 - r.1))) Q := by
  have key : wBnd x.length lo hi fun a b => Q (.s ((x.drop a).take (b - a))) := by
    unfold wSlcS at h
    unfold wBnd
    split at h
    · simpa using h
    · obtain ⟨a, h1, h2, h⟩ := h
      refine ⟨a, h1, h2, ?_⟩
      simp only
      rw [List.take_of_length_le (by simp)]; exact h
    · simpa using h
    · exact h
    · exact h.elim
  obtain ⟨a, b, h1, _, _, h⟩ := wBnd_ok key
  exact ⟨_, by rw [h1]; rfl, h⟩
def wSlc (τ : Tys) (t : Nat) (x : AV) (lo hi : Option AV) (σ : St) (Q : AV → Prop) : Prop :=
  om (τ t) fun T => match T.d, x with
  | .str, .s x => wSlcS x lo hi Q
  | .slice e, .sl0 => cB (Nat.blt 0 (szT τ e)) (om (aBounds 0 0 lo hi) fun _ => Q .sl0) False
  | .slice e, .sl o g off n z => cB (Nat.beq (szT τ e) z && Nat.blt 0 z) (wBnd n lo hi fun a b => Q (.sl o g (off + a * z) (b - a) z)) False
  | .arr n e, .p o g off => cB (Nat.blt 0 (szT τ e)) (om (cellsAt σ o g) fun cs => cB (Nat.ble (off + n * szT τ e) cs.length) (wBnd n lo hi fun a b => Q (.sl o g (off + a * szT τ e) (b - a) (szT τ e))) False) False
  | _, _ => False
theorem blt_lt {a b : Nat} (h : Nat.blt a b = true) : a < b := by unfold Nat.blt at h; exact Nat.le_of_ble_eq_true h
theorem wSlc_ok {τ : Tys} {P : Program} (hτ : τ.Ok P) {t : Nat} {x : AV} {lo hi : Option AV} {σ : St} {Q : AV → Prop} (h : wSlc τ t x lo hi σ Q) : opt (aSlc P t x lo hi σ) Q := by
  obtain ⟨⟨d, s, b, z, c, hd, g⟩, hT, h⟩ := om_some h
  unfold aSlc
  rw [hτ _ _ hT]
  simp only at h ⊢
  split at h
  · exact wSlcS_ok h
  · obtain ⟨h1, h⟩ := cB_t h
    obtain ⟨r, h2, h⟩ := om_some h
    have h1 := blt_lt h1
    simp only
    rw [if_pos (by rw [szT_ok hτ h1]; exact h1), h2]
    exact ⟨_, rfl, h⟩
  · obtain ⟨h1, h⟩ := cB_t h
    rw [Bool.and_eq_true] at h1
    have h2 := Nat.eq_of_beq_eq_true h1.1
    have h3 := blt_lt h1.2
    obtain ⟨a, b, h4, _, _, h⟩ := wBnd_ok h
    simp only
    rw [if_pos ⟨by rw [szT_ok hτ (by omega)]; exact h2, h3⟩, h4]
    exact ⟨_, rfl, h⟩
  · obtain ⟨h1, h⟩ := cB_t h
    obtain ⟨cs, h2, h⟩ := om_some h
    obtain ⟨h3, h⟩ := cB_t h
    have h1 := blt_lt h1
    have h3 := Nat.le_of_ble_eq_true h3
    obtain ⟨a, b, h4, _, _, h⟩ := wBnd_ok h
    have hz := szT_ok hτ h1
    simp only
    rw [hz, if_pos h1, h2, Option.bind_some, if_pos h3, h4]
    exact ⟨_, rfl, h⟩
  · exact h.elim

def wIad (τ : Tys) (t : Nat) (x i : AV) (Q : AV → Prop) : Prop := om (τ t) fun T => match T.d, x, i with
  | .arr n e, .p o g off, .i _ j => cB (Nat.blt 0 (szT τ e)) (∃ m : Nat, j = m ∧ m < n ∧ Q (.p o g (off + m * szT τ e))) False
  | .slice e, .sl o g off n z, .i _ j => cB (Nat.beq (szT τ e) z && Nat.blt 0 z) (∃ m : Nat, j = m ∧ m < n ∧ Q (.p o g (off + m * z))) False
  | _, _, _ => False
theorem wIad_ok {τ : Tys} {P : Program} (hτ : τ.Ok P) {t : Nat} {x i : AV} {Q : AV → Prop} (h : wIad τ t x i Q) : opt (aIad P t x i) Q := by
  obtain ⟨⟨d, s, b, z, c, hd, g⟩, hT, h⟩ := om_some h
  unfold aIad
  rw [hτ _ _ hT]
  simp only at h
  split at h
  · obtain ⟨h1, h⟩ := cB_t h
    obtain ⟨m, rfl, h2, h⟩ := h
    have h1 := blt_lt h1
    have hz := szT_ok hτ h1
    simp only
    rw [hz, if_pos ⟨h1, by omega, by omega⟩]
    exact ⟨_, rfl, by simpa using h⟩
  · obtain ⟨h1, h⟩ := cB_t h
    obtain ⟨m, rfl, h2, h⟩ := h
    rw [Bool.and_eq_true] at h1
    have h3 := Nat.eq_of_beq_eq_true h1.1
    have h4 := blt_lt h1.2
    simp only
    rw [if_pos ⟨by rw [szT_ok hτ (by omega)]; exact h3, h4, by omega, by omega⟩]
    exact ⟨_, rfl, by simpa using h⟩
  · exact h.elim
def wIdx (τ : Tys) (t : Nat) (x i : AV) (Q : AV → Prop) : Prop := om (τ t) fun T => match T.d, x, i with
  | .arr n e, .ag cs, .i _ j => ∃ m : Nat, j = m ∧ m < n ∧ om (τ e) fun E => om (partOf E cs (m * E.size)) fun v => fc v Q
  | .str, .s x, .i _ j => ∃ (m : Nat) (c : UInt8), j = m ∧ x[m]? = some c ∧ Q (.i .u8 c.toNat)
  | _, _, _ => False
theorem wIdx_ok {τ : Tys} {P : Program} (hτ : τ.Ok P) {t : Nat} {x i : AV} {Q : AV → Prop} (h : wIdx τ t x i Q) : opt (aIdx P t x i) Q := by
  obtain ⟨⟨d, s, b, z, c, hd, g⟩, hT, h⟩ := om_some h
  unfold aIdx
  rw [hτ _ _ hT]
  simp only at h
  split at h
  · obtain ⟨m, rfl, h2, h⟩ := h
    obtain ⟨E, hE, h⟩ := om_some h
    obtain ⟨v, hv, h⟩ := om_some h
    simp only
    rw [if_pos ⟨by omega, by omega⟩, hτ _ _ hE]
    exact ⟨v, by simpa using hv, fc_ok _ _ h⟩
  · obtain ⟨m, c, rfl, h2, h⟩ := h
    simp only
    rw [if_pos (by omega)]
    exact ⟨_, by rw [Int.toNat_natCast, h2]; rfl, h⟩
  · exact h.elim
def wLen (τ : Tys) (t : Nat) (x : AV) (Q : AV → Prop) : Prop := om (τ t) fun T => match T.d, x with
  | .str, .s x => Q (.i .i64 x.length)
  | .arr n _, _ => Q (.i .i64 n)
  | .slice _, .sl0 => Q (.i .i64 0)
  | .slice _, .sl _ _ _ n _ => Q (.i .i64 n)
  | _, _ => False
theorem wLen_ok {τ : Tys} {P : Program} (hτ : τ.Ok P) {t : Nat} {x : AV} {Q : AV → Prop} (h : wLen τ t x Q) : opt (aLen P t x) Q := by
  obtain ⟨⟨d, s, b, z, c, hd, g⟩, hT, h⟩ := om_some h
  unfold aLen
  rw [hτ _ _ hT]
  simp only at h
  split at h
  all_goals first
    | exact h.elim
    | exact ⟨_, rfl, h⟩
def wFad (τ : Tys) (t : Nat) (x : AV) (f : Nat) (Q : AV → Prop) : Prop := om (τ t) fun T => match T.d, x with
  | .st fs, .p o g off => om fs[f]? fun r => cB (Nat.blt 0 (szT τ r.2.1)) (Q (.p o g (off + r.1))) False
  | _, _ => False
theorem wFad_ok {τ : Tys} {P : Program} (hτ : τ.Ok P) {t : Nat} {x : AV} {f : Nat} {Q : AV → Prop} (h : wFad τ t x f Q) : opt (aFad P t x f) Q := by
  obtain ⟨⟨d, s, b, z, c, hd, g⟩, hT, h⟩ := om_some h
  unfold aFad
  rw [hτ _ _ hT]
  simp only at h
  split at h
  · obtain ⟨r, hr, h⟩ := om_some h
    obtain ⟨h1, h⟩ := cB_t h
    have h1 := blt_lt h1
    simp only
    rw [hr, Option.bind_some, if_pos (by rw [szT_ok hτ h1]; exact h1)]
    exact ⟨_, rfl, h⟩
  · exact h.elim
def wFld (τ : Tys) (t : Nat) (x : AV) (f : Nat) (Q : AV → Prop) : Prop := om (τ t) fun T => match T.d, x with
  | .st fs, .ag cs => om fs[f]? fun r => om (τ r.2.1) fun F => om (partOf F cs r.1) fun v => fc v Q
  | _, _ => False
theorem wFld_ok {τ : Tys} {P : Program} (hτ : τ.Ok P) {t : Nat} {x : AV} {f : Nat} {Q : AV → Prop} (h : wFld τ t x f Q) : opt (aFld P t x f) Q := by
  obtain ⟨⟨d, s, b, z, c, hd, g⟩, hT, h⟩ := om_some h
  unfold aFld
  rw [hτ _ _ hT]
  simp only at h
  split at h
  · obtain ⟨r, hr, h⟩ := om_some h
    obtain ⟨F, hF, h⟩ := om_some h
    obtain ⟨v, hv, h⟩ := om_some h
    simp only
    rw [hr, Option.bind_some, hτ _ _ hF]
    exact ⟨v, hv, fc_ok _ _ h⟩
  · exact h.elim
/-- Are all fields' types known? -/
def allT (τ : Tys) : List (Nat × Nat × Bool) → Bool
  | [] => true
  | f :: fs => match τ f.2.1 with
    | some _ => allT τ fs
    | none => false
theorem allT_ok {τ : Tys} {P : Program} (hτ : τ.Ok P) : ∀ fs, allT τ fs = true → fs.all (fun f => (tyOf P f.2.1).isSome) = true
  | [], _ => rfl
  | f :: fs, h => by
    simp only [allT] at h
    split at h
    · rename_i T hT; simp only [List.all_cons, hτ _ _ hT, Option.isSome_some, Bool.true_and]; exact allT_ok hτ fs h
    · cases h
theorem fillA_le {p q : Nat → Option (Nat × Nat)} (hp : ∀ i r, p i = some r → q i = some r) : ∀ (l : List (Nat × AV)) (cells r : List AV), fillA p cells l = some r → fillA q cells l = some r
  | [], _, _, h => h
  | (i, v) :: l, cells, r, h => by
    simp only [fillA] at h ⊢
    split at h
    · cases h
    · rename_i off size he
      rw [hp _ _ he]
      simp only
      split at h
      · rename_i hc; rw [if_pos hc]; exact fillA_le hp l _ r h
      · cases h
def wBuild (τ : Tys) (t : Nat) (ps : List (Nat × AV)) (Q : AV → Prop) : Prop := om (τ t) fun T => match T.d with
  | .st fs => cB (allT τ fs) (om (fillA (fun i => (fs[i]?).bind fun f => (τ f.2.1).map fun F => (f.1, F.size)) T.zero.cells ps) fun cs => fqs cs fun cs => Q (.ag cs)) False
  | .arr _ e => om (τ e) fun E => om (fillA (fun i => some (i * E.size, E.size)) T.zero.cells ps) fun cs => fqs cs fun cs => Q (.ag cs)
  | _ => False
theorem wBuild_ok {τ : Tys} {P : Program} (hτ : τ.Ok P) {t : Nat} {ps : List (Nat × AV)} {Q : AV → Prop} (h : wBuild τ t ps Q) : opt (aBuild P t ps) Q := by
  obtain ⟨⟨d, s, b, z, c, hd, g⟩, hT, h⟩ := om_some h
  unfold aBuild
  rw [hτ _ _ hT]
  simp only at h ⊢
  split at h
  · rename_i fs
    obtain ⟨h1, h⟩ := cB_t h
    obtain ⟨cs, h2, h⟩ := om_some h
    simp only
    rw [if_pos (allT_ok hτ fs h1)]
    have h3 := fillA_le (q := fun i => (fs[i]?).bind fun f => (tyOf P f.2.1).map fun F => (f.1, F.size)) (fun i r hi => by
      rw [Option.bind_eq_some_iff] at hi ⊢
      obtain ⟨f, hf, hi⟩ := hi
      rw [Option.map_eq_some_iff] at hi
      obtain ⟨F, hF, rfl⟩ := hi
      exact ⟨f, hf, by rw [hτ _ _ hF]; rfl⟩) _ _ _ h2
    rw [h3]
    exact ⟨_, rfl, fqs_ok _ _ h⟩
  · obtain ⟨E, hE, h⟩ := om_some h
    obtain ⟨cs, h2, h⟩ := om_some h
    simp only
    rw [hτ _ _ hE]
    simp only
    rw [h2]
    exact ⟨_, rfl, fqs_ok _ _ h⟩
  · exact h.elim
end Go.Abs
