/- The layer Abs, part 31: the second evaluator's operations. -/
import Derived.Test.YtjphfiieapclhaaDoorAbs30
namespace Go.Abs

noncomputable def bC {α : Type} (b : Bool) (x y : α) : α := Bool.rec (motive := fun _ => α) y x b
theorem bC_t {α : Type} (x y : α) : bC true x y = x := rfl
theorem bC_f {α : Type} (x y : α) : bC false x y = y := rfl
theorem bC_and {b x : Bool} (h : bC b x false = true) : b = true ∧ x = true := by cases b; cases h; exact ⟨rfl, h⟩
theorem bC_some {α : Type} {b : Bool} {x : Option α} {v : α} (h : bC b x none = some v) : b = true ∧ x = some v := by cases b; cases h; exact ⟨rfl, h⟩

abbrev KR := AV → FS → Bool
def kV (s : FS) (K : KR) (v : AV) : Bool := K v s
noncomputable def outV (o : Option AV) (s : FS) (K : KR) : Bool := Option.rec (motive := fun _ => Bool) false (fun v => fV v (kV s K)) o
theorem outV_ok {o : Option AV} {s : FS} {K : KR} (h : outV o s K = true) : ∃ v, o = some v ∧ K v s = true := by
  cases o with
  | none => cases h
  | some v => have h' : fV v (kV s K) = true := h; rw [fV_eq] at h'; exact ⟨v, rfl, h'⟩

/-- What an operation comes to. -/
def To (o : Option (AV × St)) (K : KR) : Prop := ∃ v σ' s', o = some (v, σ') ∧ FS.Is s' σ' ∧ K v s' = true

section
variable {P : Program} {s : FS} {σ : St} {K : KR}

/-! #### New objects -/
def kNew (s : FS) (v : AV) (K : KR) (s' : FS) : Bool := K v s'
noncomputable def fNew (e : Nat) (a : FA) (v : AV) (s : FS) (K : KR) : Bool := s.new ⟨nat_lit 0, false, .cells e a⟩ (kNew s v K)
noncomputable def fNewL (e : Nat) (cs : List AV) (v : AV) (s : FS) (K : KR) : Bool := fVs cs fun cs => fN cs.length fun n => fNew e ⟨n, cs, .lf⟩ v s K
theorem fNew_ok (h : s.Is σ) {e : Nat} {a : FA} {cs : List AV} (ha : a.Is cs) {v : AV} (hk : fNew e a v s K = true) : ∃ s', s'.Is (newCells e cs σ) ∧ K v s' = true := by
  obtain ⟨s', h1, h2⟩ := FS.new_ok h (f := ⟨0, false, .cells e a⟩) (a := ⟨0, false, .cells e cs⟩) ⟨rfl, rfl, rfl, ha⟩ hk
  exact ⟨s', h2, h1⟩
theorem fNewL_ok (h : s.Is σ) {e : Nat} {cs : List AV} {v : AV} (hk : fNewL e cs v s K = true) : ∃ s', s'.Is (newCells e cs σ) ∧ K v s' = true := by
  unfold fNewL at hk
  rw [fVs_eq, fN_eq] at hk
  exact fNew_ok h (FA.of_is cs) hk
/-- A reference to the next object. -/
noncomputable def pNew (s : FS) : AV := .p s.n (nat_lit 0) (nat_lit 0)
theorem pNew_eq (h : s.Is σ) : pNew s = .p σ.length 0 0 := by rw [h.1]; rfl

/-! #### Loads and stores -/
noncomputable def fLoadC (T : AT) (a : FA) (off : Nat) : Option AV := bC T.d.agg (bC (Nat.ble (Nat.add off T.size) a.n) (some (.ag (a.rng T.size off))) none) (bC (Nat.blt off a.n) (some (a.get off)) none)
noncomputable def objP (C : Nat → FA → Nat → Option AV) (f : FO) (g : Nat) : Option AV := match f with
  | ⟨g', _, .cells e a⟩ => bC (Nat.beq g g') (C e a g) none
  | _ => none
noncomputable def fLoadO (T : AT) (s : FS) (o g off : Nat) : Option AV := Option.rec (motive := fun _ => Option AV) none (fun f => objP (fun _ a _ => fLoadC T a off) f g) (s.t.get o)
noncomputable def fLoad (T : Option AT) (x : AV) (s : FS) : Option AV := match T, x with
  | some T, .p o g off => fLoadO T s o g off
  | _, _ => none
theorem objP_ok (h : s.Is σ) {C : Nat → FA → Nat → Option AV} {o g : Nat} {v : AV} (hk : Option.rec (motive := fun _ => Option AV) none (fun f => objP C f g) (s.t.get o) = some v) : ∃ ro e a cs, s.t.get o = some ⟨g, ro, .cells e a⟩ ∧ σ[o]? = some ⟨g, ro, .cells e cs⟩ ∧ a.Is cs ∧ C e a g = some v := by
  cases ho : s.t.get o with
  | none => rw [ho] at hk; cases hk
  | some f =>
    rw [ho] at hk
    have hk' : objP C f g = some v := hk
    unfold objP at hk'
    split at hk'
    · rename_i g' ro e a
      obtain ⟨h1, h2⟩ := bC_some hk'
      have hg := Nat.eq_of_beq_eq_true h1
      subst hg
      obtain ⟨cs, q1, q2⟩ := FS.cells_at h ho
      exact ⟨ro, e, a, cs, rfl, q1, q2, h2⟩
    · cases hk'
theorem cellsAt_some {o g e : Nat} {ro : Bool} {cs : List AV} (h : σ[o]? = some ⟨g, ro, .cells e cs⟩) : cellsAt σ o g = some cs := by
  unfold cellsAt; rw [h]; simp
theorem fLoad_ok (h : s.Is σ) {T : Option AT} {x v : AV} (hk : fLoad T x s = some v) : aLoad T x σ = some v := by
  unfold fLoad at hk
  split at hk
  · rename_i T o g off
    obtain ⟨ro, e, a, cs, h1, h2, h3, h4⟩ := objP_ok h hk
    simp only [aLoad]
    rw [cellsAt_some h2]
    simp only [Option.bind_some, partOf]
    unfold fLoadC at h4
    have hl := h3.1
    cases ha : T.d.agg with
    | true =>
      rw [ha, bC_t] at h4
      obtain ⟨q1, q2⟩ := bC_some h4
      have q1 := Nat.le_of_ble_eq_true q1
      have q1' : off + T.size ≤ a.n := q1
      rw [if_pos rfl, if_pos (by omega), ← FA.rng_eq h3 _ _ q1']
      exact q2
    | false =>
      rw [ha, bC_f] at h4
      obtain ⟨q1, q2⟩ := bC_some h4
      have q1 : off < a.n := Nat.le_of_ble_eq_true q1
      rw [if_neg (by simp), h3.2 off q1]
      exact q2
  · cases hk
noncomputable def fStoreC (ys : List AV) (z : Nat) (s : FS) (o off e : Nat) (a : FA) (g : Nat) (K : KR) : Bool :=
  bC (Nat.ble (Nat.add off z) a.n) (FA.puts ys a off fun a' => s.put o ⟨g, false, .cells e a'⟩ fun s' => K (.tu []) s') false
noncomputable def objK (C : Nat → FA → Nat → Bool) (f : FO) (g : Nat) : Bool := match f with
  | ⟨g', false, .cells e a⟩ => bC (Nat.beq g g') (C e a g') false
  | _ => false
theorem objK_ok (h : s.Is σ) {C : Nat → FA → Nat → Bool} {o g : Nat} (hk : Option.rec (motive := fun _ => Bool) false (fun f => objK C f g) (s.t.get o) = true) : ∃ e a cs, s.t.get o = some ⟨g, false, .cells e a⟩ ∧ σ[o]? = some ⟨g, false, .cells e cs⟩ ∧ a.Is cs ∧ C e a g = true := by
  cases ho : s.t.get o with
  | none => rw [ho] at hk; cases hk
  | some f =>
    rw [ho] at hk
    have hk' : objK C f g = true := hk
    unfold objK at hk'
    split at hk'
    · rename_i g' e a
      obtain ⟨h1, h2⟩ := bC_and hk'
      have hg := Nat.eq_of_beq_eq_true h1
      subst hg
      obtain ⟨cs, q1, q2⟩ := FS.cells_at h ho
      exact ⟨e, a, cs, rfl, q1, q2, h2⟩
    · cases hk'
theorem lt_of_at {o : Nat} {a : AO} (h : σ[o]? = some a) : o < σ.length := (List.getElem?_eq_some_iff.1 h).1
noncomputable def fStore (T : Option AT) (x y : AV) (s : FS) (K : KR) : Bool := match T, x with
  | some T, .p o g off => bC (Nat.beq y.cells.length T.size) (bC (y.cells.all AV.one) (Option.rec (motive := fun _ => Bool) false (fun f => objK (fun e a g => fStoreC y.cells T.size s o off e a g K) f g) (s.t.get o)) false) false
  | _, _ => false
theorem fStore_ok (h : s.Is σ) {T : Option AT} {x y : AV} (hk : fStore T x y s K = true) : To ((aStore T x y σ).map (AV.tu [], ·)) K := by
  unfold fStore at hk
  split at hk
  · rename_i T o g off
    obtain ⟨k1, hk⟩ := bC_and hk
    obtain ⟨k2, hk⟩ := bC_and hk
    have k1 := Nat.eq_of_beq_eq_true k1
    obtain ⟨e, a, cs, h1, h2, h3, h4⟩ := objK_ok h hk
    unfold fStoreC at h4
    obtain ⟨k3, h4⟩ := bC_and h4
    have k3 : off + T.size ≤ a.n := Nat.le_of_ble_eq_true k3
    have hl := h3.1
    obtain ⟨a', q1, q2, q3⟩ := FA.puts_ok y.cells h3 (by omega) h4
    obtain ⟨s', r1, r2⟩ := FS.put_ok h (lt_of_at h2) (f := ⟨g, false, .cells e a'⟩) (a := ⟨g, false, .cells e (setCells cs off y.cells)⟩) ⟨rfl, rfl, rfl, q3⟩ q1
    refine ⟨_, _, s', ?_, r2, r1⟩
    simp only [aStore, h2]
    rw [if_pos (by refine ⟨?_, ?_, k1, k2, ?_⟩ <;> first | trivial | omega)]; rfl
  · cases hk

/-! #### Slices, strings -/
noncomputable def fSlcA (P : Program) (n e : Nat) (o g off : Nat) (lo hi : Option AV) (s : FS) : Option AV :=
  bC (Nat.blt 0 (P.cellsOf e)) (Option.rec (motive := fun _ => Option AV) none (fun f => objP (fun _ a _ => bC (Nat.ble (off + n * P.cellsOf e) a.n) ((aBounds n n lo hi).map fun r => .sl o g (off + r.1 * P.cellsOf e) (r.2 - r.1) (P.cellsOf e)) none) f g) (s.t.get o)) none
/-- The rest of a string. -/
noncomputable def fDrop (x : List UInt8) (l : Int) : Option AV := match l with
  | .ofNat l => bC (Nat.ble l x.length) (some (.s (x.drop l))) none
  | _ => none
noncomputable def fSlc (P : Program) (t : Nat) (x : AV) (lo hi : Option AV) (s : FS) : Option AV :=
  match tyOf P t with
  | none => none
  | some T => match T.d, x with
    | .arr n e, .p o g off => fSlcA P n e o g off lo hi s
    | .str, .s x => match lo, hi with
      | some (.i _ l), none => fDrop x l
      | lo, hi => (aBounds x.length x.length lo hi).map fun r => .s ((x.drop r.1).take (r.2 - r.1))
    | _, _ => aSlc P t x lo hi []
theorem aSlc_nil {t : Nat} {x v : AV} {lo hi : Option AV} (hh : aSlc P t x lo hi [] = some v) : aSlc P t x lo hi σ = some v := by
  unfold aSlc at hh ⊢
  cases hT : tyOf P t with
  | none => rw [hT] at hh; cases hh
  | some T =>
    rw [hT] at hh
    simp only at hh ⊢
    cases hd : T.d <;> simp only [hd] at hh ⊢ <;> cases x <;> (try simp only at hh ⊢) <;> first | exact hh | cases hh | skip
    split at hh
    · simp [cellsAt] at hh
    · cases hh
theorem fSlc_ok (h : s.Is σ) {t : Nat} {x v : AV} {lo hi : Option AV} (hk : fSlc P t x lo hi s = some v) : aSlc P t x lo hi σ = some v := by
  unfold fSlc at hk
  unfold aSlc
  split at hk
  · cases hk
  · rename_i T hT
    simp only [hT]
    split at hk
    · rename_i n e o g off hd
      simp only [hd]
      unfold fSlcA at hk
      obtain ⟨k1, hk⟩ := bC_some hk
      have k1 : 0 < P.cellsOf e := Nat.le_of_ble_eq_true k1
      obtain ⟨ro, e', a, cs, h1, h2, h3, h4⟩ := objP_ok h hk
      obtain ⟨k2, h4⟩ := bC_some h4
      have k2 : off + n * P.cellsOf e ≤ a.n := Nat.le_of_ble_eq_true k2
      have hl := h3.1
      rw [if_pos k1, cellsAt_some h2]
      simp only [Option.bind_some]
      rw [if_pos (by omega)]
      exact h4
    · rename_i x hd
      simp only [hd]
      split at hk
      · rename_i k l
        unfold fDrop at hk
        split at hk
        · rename_i l
          obtain ⟨k1, hk⟩ := bC_some hk
          have k1 : l ≤ x.length := Nat.le_of_ble_eq_true k1
          cases hk
          have : aBounds x.length x.length (some (.i k (Int.ofNat l))) none = some (l, x.length) := by
            simp only [aBounds, aHi, Option.bind_some, aLo]
            rw [if_pos ⟨Int.natCast_nonneg l, by simp; omega⟩]
            simp
          rw [this]
          simp only [Option.map_some]
          rw [List.take_of_length_le (by simp)]
        · cases hk
      · exact hk
    · have hh : aSlc P t _ lo hi [] = some v := hk
      have := aSlc_nil (σ := σ) hh
      unfold aSlc at this
      simpa only [hT] using this

/-! #### Conversions -/
noncomputable def isB (o : Option AT) : Bool := match o with
  | some ⟨.int .u8, _, _, _, _, _, _⟩ => true
  | _ => false
noncomputable def fBytes (n off : Nat) (s : FS) (o g : Nat) : Option AV := Option.rec (motive := fun _ => Option AV) none (fun f => objP (fun _ a _ => bC (Nat.ble (Nat.add off n) a.n) ((bytesOf (a.rng n off)).map AV.s) none) f g) (s.t.get o)
noncomputable def fConv (P : Program) (s d : Nat) (x : AV) (S : FS) (K : KR) : Bool :=
  match tyOf P s, tyOf P d with
  | some S', some D => match S'.d, D.d, x with
    | _, .int k, .i _ n => outV (some (.i k (k.wrap n))) S K
    | _, .str, .i _ n => outV (some (.s (Utf8.encode n).data.toList)) S K
    | .str, .str, .s x => outV (some (.s x)) S K
    | .str, .slice e, .s x => bC (isB (tyOf P e)) (fN x.length fun n => fNewL e (x.map fun b => .i .u8 b.toNat) (.sl S.n (nat_lit 0) (nat_lit 0) n (nat_lit 1)) S K) false
    | .slice e, .str, .sl0 => bC (isB (tyOf P e)) (outV (some (.s [])) S K) false
    | .slice e, .str, .sl o g off n z => bC (isB (tyOf P e)) (bC (Nat.beq z (nat_lit 1)) (outV (fBytes n off S o g) S K) false) false
    | _, _, _ => false
  | _, _ => false
theorem isB_ok {o : Option AT} (h : isB o = true) : ∃ a b c d e f, o = some ⟨.int .u8, a, b, c, d, e, f⟩ := by
  unfold isB at h
  split at h
  · exact ⟨_, _, _, _, _, _, rfl⟩
  · cases h
theorem fConv_ok (h : s.Is σ) {a b : Nat} {x : AV} (hk : fConv P a b x s K = true) : To (aConv P a b x σ) K := by
  unfold fConv at hk
  unfold aConv
  split at hk
  · rename_i S D hS hD
    simp only [hS, hD]
    split at hk
    · rename_i hd; simp only [hd]
      obtain ⟨v, h1, h2⟩ := outV_ok hk; cases h1
      exact ⟨_, _, s, rfl, h, h2⟩
    · rename_i hd; simp only [hd]
      obtain ⟨v, h1, h2⟩ := outV_ok hk; cases h1
      exact ⟨_, _, s, rfl, h, h2⟩
    · rename_i hs hd; simp only [hs, hd]
      obtain ⟨v, h1, h2⟩ := outV_ok hk; cases h1
      exact ⟨_, _, s, rfl, h, h2⟩
    · rename_i e x hs hd; simp only [hs, hd]
      obtain ⟨k1, hk⟩ := bC_and hk
      obtain ⟨_, _, _, _, _, _, he⟩ := isB_ok k1
      rw [fN_eq] at hk
      obtain ⟨s', h1, h2⟩ := fNewL_ok h hk
      simp only [he]
      exact ⟨_, _, s', by (rw [h.1]; try rfl), h1, h2⟩
    · rename_i e hs hd; simp only [hs, hd]
      obtain ⟨k1, hk⟩ := bC_and hk
      obtain ⟨_, _, _, _, _, _, he⟩ := isB_ok k1
      obtain ⟨v, h1, h2⟩ := outV_ok hk; cases h1
      simp only [he]
      exact ⟨_, _, s, rfl, h, h2⟩
    · rename_i e o g off n z hs hd; simp only [hs, hd]
      obtain ⟨k1, hk⟩ := bC_and hk
      obtain ⟨_, _, _, _, _, _, he⟩ := isB_ok k1
      obtain ⟨k2, hk⟩ := bC_and hk
      have k2 := Nat.eq_of_beq_eq_true k2
      obtain ⟨v, h1, h2⟩ := outV_ok hk
      obtain ⟨ro, e', a, cs, q1, q2, q3, q4⟩ := objP_ok h h1
      obtain ⟨q5, q4⟩ := bC_some q4
      have q5 : off + n ≤ a.n := Nat.le_of_ble_eq_true q5
      have hl := q3.1
      simp only [he]
      rw [if_pos k2, cellsAt_some q2]
      simp only [Option.bind_some]
      rw [if_pos (by omega), ← FA.rng_eq q3 _ _ q5]
      rw [Option.map_eq_some_iff] at q4
      obtain ⟨bs, r1, rfl⟩ := q4
      rw [r1]
      exact ⟨_, _, s, rfl, h, h2⟩
    · cases hk
  · cases hk

/-! #### Appends, copies, new slices -/
noncomputable def fSrc (z : Nat) (x : AV) (s : FS) : Option (Nat × List AV) := match x with
  | .sl0 => some (nat_lit 0, [])
  | .sl o g off n z' => bC (Nat.beq z' z) (match s.t.get o with
    | some ⟨g', _, .cells _ a⟩ => bC (Nat.beq g g') (bC (Nat.ble (off + n * z) a.n) (some (n, a.rng (n * z) off)) none) none
    | _ => none) none
  | .s b => bC (Nat.beq z (nat_lit 1)) (some (b.length, b.map fun c => .i .u8 c.toNat)) none
  | _ => none
theorem fSrc_ok (h : s.Is σ) {z : Nat} {x : AV} {r : Nat × List AV} (hk : fSrc z x s = some r) : srcCells z x σ = some r := by
  unfold fSrc at hk
  unfold srcCells
  split at hk
  · exact hk
  · rename_i o g off n z'
    obtain ⟨k1, hk⟩ := bC_some hk
    have k1 := Nat.eq_of_beq_eq_true k1
    split at hk
    · rename_i g' ro e a ho
      obtain ⟨k2, hk2⟩ := bC_some hk
      have k2 := Nat.eq_of_beq_eq_true k2
      obtain ⟨k3, hk3⟩ := bC_some hk2
      have k3 : off + n * z ≤ a.n := Nat.le_of_ble_eq_true k3
      subst k2
      obtain ⟨cs, q1, q2⟩ := FS.cells_at h ho
      have hl := q2.1
      simp only
      rw [if_pos k1, cellsAt_some q1]
      simp only [Option.bind_some]
      rw [if_pos (by omega), ← FA.rng_eq q2 _ _ k3]
      exact hk3
    · cases hk
  · obtain ⟨k1, hk⟩ := bC_some hk
    have k1 := Nat.eq_of_beq_eq_true k1
    simp only
    rw [if_pos k1]; exact hk
  · cases hk
/-- Behind an object's first cells. -/
noncomputable def fAppO (E : AT) (e n m : Nat) (ys : List AV) (o off : Nat) (s : FS) (K : KR) (e' : Nat) (a : FA) (g : Nat) : Bool :=
  bC (Nat.beq e' e) (bC (Nat.ble (off + n * E.size) a.n) (bC (Nat.ble ((n + m) * E.bytes) (nat_lit 140737488355328)) (
    bC (Nat.beq off (nat_lit 0)) (bC ((a.rng (n * E.size) (nat_lit 0)).all AV.one) (fN (n * E.size) fun q => a.app q ys fun a' => s.put o ⟨Nat.succ g, false, .cells e a'⟩ fun s' => outV (some (.sl o (Nat.succ g) (nat_lit 0) (n + m) E.size)) s' K) false)
      (bC ((a.rng (n * E.size) off).all AV.one) (fVs (a.rng (n * E.size) off ++ ys) fun cs => fN cs.length fun l => s.put o ⟨Nat.succ g, false, .cells e ⟨l, cs, .lf⟩⟩ fun s' => outV (some (.sl o (Nat.succ g) (nat_lit 0) (n + m) E.size)) s' K) false)
    ) false) false) false
noncomputable def fAppTo (E : AT) (e : Nat) (x : AV) (m : Nat) (ys : List AV) (s : FS) (K : KR) : Bool := match x with
  | .sl0 => bC (Nat.ble (m * E.bytes) (nat_lit 140737488355328)) (fNewL e ys (.sl s.n (nat_lit 0) (nat_lit 0) m E.size) s K) false
  | .sl o g off n z => bC (Nat.beq z E.size) (Option.rec (motive := fun _ => Bool) false (fun f => objK (fAppO E e n m ys o off s K) f g) (s.t.get o)) false
  | _ => false
noncomputable def fApp (P : Program) (t : Nat) (x y : AV) (s : FS) (K : KR) : Bool :=
  match tyOf P t with
  | some ⟨.slice e, _, _, _, _, _, _⟩ => match tyOf P e with
    | some E => bC (Nat.blt (nat_lit 0) E.size && Nat.beq E.zero.cells.length E.size && Nat.blt (nat_lit 0) E.bytes)
        (match fSrc E.size y s with
          | some (m, ys) => bC (Nat.beq m (nat_lit 0)) (match x with | .sl0 => K .sl0 s | .sl o g off n z => K (.sl o g off n z) s | _ => false)
            (bC (ys.all AV.one) (fVs ys fun ys => fN m fun m => fAppTo E e x m ys s K) false)
          | none => false) false
    | none => false
  | _ => false
theorem fAppO_ok (h : s.Is σ) {E : AT} {e n m : Nat} {ys : List AV} {o off : Nat} {e' g : Nat} {a : FA} {cs : List AV} (ho : σ[o]? = some ⟨g, false, .cells e' cs⟩) (ha : a.Is cs) (hk : fAppO E e n m ys o off s K e' a g = true) :
    e' = e ∧ off + n * E.size ≤ cs.length ∧ (n + m) * E.bytes ≤ 140737488355328 ∧ ((cs.drop off).take (n * E.size)).all AV.one = true ∧
      ∃ s', s'.Is (σ.set o ⟨g + 1, false, .cells e (((cs.drop off).take (n * E.size)) ++ ys)⟩) ∧ K (.sl o (g + 1) 0 (n + m) E.size) s' = true := by
  unfold fAppO at hk
  obtain ⟨k1, hk⟩ := bC_and hk
  obtain ⟨k2, hk⟩ := bC_and hk
  obtain ⟨k3, hk⟩ := bC_and hk
  have k1 := Nat.eq_of_beq_eq_true k1
  have k2 : off + n * E.size ≤ a.n := Nat.le_of_ble_eq_true k2
  have k3 := Nat.le_of_ble_eq_true k3
  have hl := ha.1
  refine ⟨k1, by omega, k3, ?_⟩
  cases h0 : Nat.beq off (nat_lit 0) with
  | true =>
    rw [h0, bC_t] at hk
    obtain ⟨k4, hk4⟩ := bC_and hk
    have h0 := Nat.eq_of_beq_eq_true h0
    subst h0
    rw [FA.rng_eq ha _ _ k2] at k4
    refine ⟨k4, ?_⟩
    rw [fN_eq] at hk4
    obtain ⟨a', q1, q2⟩ := FA.app_ok ha (m := n * E.size) (by omega) hk4
    rw [List.drop_zero]
    obtain ⟨s', r1, r2⟩ := FS.put_ok h (lt_of_at ho) (f := ⟨Nat.succ g, false, .cells e a'⟩) (a := ⟨g + 1, false, .cells e (cs.take (n * E.size) ++ ys)⟩) ⟨rfl, rfl, rfl, q2⟩ q1
    obtain ⟨v, t1, t2⟩ := outV_ok r1
    cases t1
    exact ⟨s', r2, t2⟩
  | false =>
    rw [h0, bC_f] at hk
    obtain ⟨k4, hk⟩ := bC_and hk
    rw [FA.rng_eq ha _ _ k2] at k4
    refine ⟨k4, ?_⟩
    rw [fVs_eq, fN_eq, FA.rng_eq ha _ _ k2] at hk
    obtain ⟨s', r1, r2⟩ := FS.put_ok h (lt_of_at ho) (f := ⟨Nat.succ g, false, .cells e (FA.of (((cs.drop off).take (n * E.size)) ++ ys))⟩) (a := ⟨g + 1, false, .cells e (((cs.drop off).take (n * E.size)) ++ ys)⟩) ⟨rfl, rfl, rfl, FA.of_is _⟩ hk
    obtain ⟨v, t1, t2⟩ := outV_ok r1
    cases t1
    exact ⟨s', r2, t2⟩
theorem fApp_ok (h : s.Is σ) {t : Nat} {x y : AV} (hk : fApp P t x y s K = true) : To (aApp P t x y σ) K := by
  unfold fApp at hk
  unfold aApp
  split at hk
  · rename_i e _ _ _ _ _ _ hT
    simp only [hT]
    split at hk
    · rename_i E hE
      simp only [hE]
      obtain ⟨k1, hk⟩ := bC_and hk
      simp only [Bool.and_eq_true] at k1
      obtain ⟨⟨k1, k2⟩, k3⟩ := k1
      rw [if_pos ⟨Nat.le_of_ble_eq_true k1, Nat.eq_of_beq_eq_true k2, Nat.le_of_ble_eq_true k3⟩]
      split at hk
      · rename_i m ys hsrc
        rw [fSrc_ok h hsrc]
        simp only [Option.bind_some]
        cases hm : Nat.beq m (nat_lit 0) with
        | true =>
          rw [hm, bC_t] at hk
          rw [if_pos (Nat.eq_of_beq_eq_true hm)]
          split at hk
          · exact ⟨_, _, s, rfl, h, hk⟩
          · exact ⟨_, _, s, rfl, h, hk⟩
          · cases hk
        | false =>
          rw [hm, bC_f] at hk
          rw [if_neg (Nat.ne_of_beq_eq_false hm)]
          obtain ⟨k4, hk⟩ := bC_and hk
          rw [if_pos k4]
          rw [fVs_eq, fN_eq] at hk
          unfold fAppTo at hk
          split at hk
          · obtain ⟨k5, hk⟩ := bC_and hk
            obtain ⟨s', q1, q2⟩ := fNewL_ok h hk
            simp only
            rw [if_pos (Nat.le_of_ble_eq_true k5)]
            exact ⟨_, _, s', by (rw [h.1]; try rfl), q1, q2⟩
          · rename_i o g off n z
            obtain ⟨k5, hk⟩ := bC_and hk
            have k5 := Nat.eq_of_beq_eq_true k5
            obtain ⟨e', a, cs, h1, h2, h3, h4⟩ := objK_ok h hk
            obtain ⟨r1, r2, r3, r4, s', r5, r6⟩ := fAppO_ok h h2 h3 h4
            simp only [h2]
            rw [k5, if_pos (by refine ⟨?_, ?_, r1, r2, r3, r4⟩ <;> first | trivial | rfl)]
            exact ⟨_, _, s', rfl, r5, r6⟩
          · cases hk
      · cases hk
    · cases hk
  · cases hk
noncomputable def fMks (P : Program) (t : Nat) (l c : AV) (s : FS) (K : KR) : Bool :=
  match tyOf P t, l, c with
  | some ⟨.slice e, _, _, _, _, _, _⟩, .i _ l, .i _ c => match tyOf P e with
    | some E => if 0 < E.size ∧ E.zero.cells.length = E.size ∧ 0 ≤ l ∧ l ≤ c ∧ c ≤ 9223372036854775807 ∧ E.bytes * c ≤ 140737488355328 then
        fVs E.zero.cells fun z => fN (c.toNat * z.length) fun n => fN l.toNat fun l => fN E.size fun es => fNew e ⟨n, z, .lf⟩ (.sl s.n (nat_lit 0) (nat_lit 0) l es) s K else false
    | none => false
  | _, _, _ => false
theorem fMks_ok (h : s.Is σ) {t : Nat} {l c : AV} (hk : fMks P t l c s K = true) : To (aMks P t l c σ) K := by
  unfold fMks at hk
  unfold aMks
  split at hk
  · rename_i e _ _ _ _ _ _ k1 l k2 c hT
    simp only [hT]
    split at hk
    · rename_i E hE
      simp only [hE]
      split at hk
      · rename_i hc
        rw [if_pos hc]
        rw [fVs_eq, fN_eq, fN_eq, fN_eq] at hk
        obtain ⟨s', q1, q2⟩ := fNew_ok h (FA.rep_is E.zero.cells c.toNat) hk
        exact ⟨_, _, s', by (rw [h.1]; try rfl), q1, q2⟩
      · cases hk
    · cases hk
  · cases hk
noncomputable def fBsl (P : Program) (t len : Nat) (ps : List (Nat × AV)) (s : FS) (K : KR) : Bool :=
  match tyOf P t with
  | some ⟨.slice e, _, _, _, _, _, _⟩ => match tyOf P e with
    | some E => if 0 < E.size ∧ E.zero.cells.length = E.size ∧ len * E.size ≤ 16777216 then
        (match fillA (fun i => some (i * E.size, E.size)) (repl E.zero.cells len) ps with
          | some cs => fN E.size fun es => fNewL e cs (.sl s.n (nat_lit 0) (nat_lit 0) len es) s K
          | none => false)
      else false
    | none => false
  | _ => false
theorem fBsl_ok (h : s.Is σ) {t n : Nat} {ps : List (Nat × AV)} (hk : fBsl P t n ps s K = true) : To (aBsl P t n ps σ) K := by
  unfold fBsl at hk
  unfold aBsl
  split at hk
  · rename_i e _ _ _ _ _ _ hT
    simp only [hT]
    split at hk
    · rename_i E hE
      simp only [hE]
      split at hk
      · rename_i hc
        rw [if_pos hc]
        split at hk
        · rename_i cs hcs
          rw [hcs]
          rw [fN_eq] at hk
          obtain ⟨s', q1, q2⟩ := fNewL_ok h hk
          exact ⟨_, _, s', by (rw [h.1]; try rfl), q1, q2⟩
        · cases hk
      · cases hk
    · cases hk
  · cases hk
noncomputable def fCopy (P : Program) (t : Nat) (x y : AV) (s : FS) (K : KR) : Bool :=
  match tyOf P t, x with
  | some ⟨.slice e, _, _, _, _, _, _⟩, .sl o g off n z => match tyOf P e with
    | some E => bC (Nat.beq z E.size) (match fSrc z y s with
      | some (m, ys) => Option.rec (motive := fun _ => Bool) false (fun f => objK (fun e' a g' => bC (Nat.ble (off + n * z) a.n && ys.all AV.one) (fN (min m n) fun q => fVs (ys.take (q * z)) fun zs => bC (Nat.ble (off + zs.length) a.n) (FA.puts zs a off fun a' => s.put o ⟨g', false, .cells e' a'⟩ fun s' => K (.i .i64 (.ofNat q)) s') false) false) f g) (s.t.get o)
      | none => false) false
    | none => false
  | _, _ => false
theorem fCopy_ok (h : s.Is σ) {t : Nat} {x y : AV} (hk : fCopy P t x y s K = true) : To (aCopy P t x y σ) K := by
  unfold fCopy at hk
  unfold aCopy
  split at hk
  · rename_i e _ _ _ _ _ _ o g off n z hT
    simp only [hT]
    split at hk
    · rename_i E hE
      simp only [hE]
      obtain ⟨k1, hk⟩ := bC_and hk
      rw [if_pos (Nat.eq_of_beq_eq_true k1)]
      split at hk
      · rename_i m ys hsrc
        rw [fSrc_ok h hsrc]
        simp only [Option.bind_some]
        obtain ⟨e', a, cs, h1, h2, h3, h4⟩ := objK_ok h hk
        obtain ⟨k2, h4⟩ := bC_and h4
        simp only [Bool.and_eq_true] at k2
        obtain ⟨k2, k3⟩ := k2
        have k2 : off + n * z ≤ a.n := Nat.le_of_ble_eq_true k2
        have hl := h3.1
        rw [fN_eq, fVs_eq] at h4
        obtain ⟨k4, h4⟩ := bC_and h4
        have k4 := Nat.le_of_ble_eq_true k4
        obtain ⟨a', q1, q2, q3⟩ := FA.puts_ok _ h3 k4 h4
        obtain ⟨s', r1, r2⟩ := FS.put_ok h (lt_of_at h2) (f := ⟨g, false, .cells e' a'⟩) (a := ⟨g, false, .cells e' (setCells cs off (ys.take (min m n * z)))⟩) ⟨rfl, rfl, rfl, q3⟩ q1
        simp only [h2]
        rw [if_pos ⟨trivial, by omega, k3⟩]
        have e : (Int.ofNat (min m n)) = min (m : Int) (n : Int) := by show ((min m n : Nat) : Int) = _; omega
        rw [e] at r1
        exact ⟨_, _, s', rfl, r2, r1⟩
      · cases hk
    · cases hk
  · cases hk

/-! #### Strings gone through -/
noncomputable def fRng (P : Program) (t : Nat) (x : AV) (s : FS) (K : KR) : Bool := match tyOf P t, x with
  | some ⟨.str, _, _, _, _, _, _⟩, .s x => s.new ⟨nat_lit 0, false, .iter x (nat_lit 0)⟩ (kNew s (pNew s) K)
  | _, _ => false
theorem fRng_ok (h : s.Is σ) {t : Nat} {x : AV} (hk : fRng P t x s K = true) : To (aRng P t x σ) K := by
  unfold fRng at hk
  unfold aRng
  split at hk
  · rename_i x hT
    simp only [hT]
    obtain ⟨s', h1, h2⟩ := FS.new_ok h (f := ⟨0, false, .iter x 0⟩) (a := ⟨0, false, .iter x 0⟩) ⟨rfl, rfl, rfl, rfl⟩ hk
    have h1' : K (pNew s) s' = true := h1
    rw [pNew_eq h] at h1'
    exact ⟨_, _, s', rfl, h2, h1'⟩
  · cases hk
noncomputable def fNxt (x : AV) (s : FS) (K : KR) : Bool := match x with
  | .p o g 0 => match s.t.get o with
    | some ⟨g', false, .iter l pos⟩ => bC (Nat.beq g g') (bC (Nat.blt pos l.length)
        (fN (pos + (Utf8.decode ⟨l.toArray⟩ pos).2) fun pos' => s.put o ⟨g', false, .iter l pos'⟩ fun s' => outV (some (.tu [.b true, .i .i64 pos, .i .i32 (Utf8.decode ⟨l.toArray⟩ pos).1])) s' K)
        (outV (some (.tu [.b false])) s K)) false
    | _ => false
  | _ => false
theorem fNxt_ok (h : s.Is σ) {x : AV} (hk : fNxt x s K = true) : To (aNxt x σ) K := by
  unfold fNxt at hk
  unfold aNxt
  split at hk
  · rename_i o g
    split at hk
    · rename_i g' l pos ho
      obtain ⟨k1, hk⟩ := bC_and hk
      have k1 := Nat.eq_of_beq_eq_true k1
      subst k1
      obtain ⟨⟨g2, ro2, k2⟩, h1, h2, h3, h4⟩ := h.2 _ _ ho
      simp only at h2 h3 h4
      subst h2; subst h3
      cases k2 with
      | cells _ _ => exact h4.elim
      | maps _ => exact h4.elim
      | dead => exact h4.elim
      | iter l2 pos2 =>
        obtain ⟨rfl, rfl⟩ := h4
        simp only [h1]
        rw [if_pos ⟨trivial, trivial⟩]
        cases hp : Nat.blt pos l.length with
        | true =>
          rw [hp, bC_t] at hk
          have hp : pos < l.length := Nat.le_of_ble_eq_true hp
          rw [if_pos hp]
          rw [fN_eq] at hk
          obtain ⟨s', r1, r2⟩ := FS.put_ok h (lt_of_at h1) (f := ⟨g, false, .iter l (pos + (Utf8.decode ⟨l.toArray⟩ pos).2)⟩) (a := ⟨g, false, .iter l (pos + (Utf8.decode ⟨l.toArray⟩ pos).2)⟩) ⟨rfl, rfl, rfl, rfl⟩ hk
          obtain ⟨v, t1, t2⟩ := outV_ok r1
          cases t1
          exact ⟨_, _, s', rfl, r2, t2⟩
        | false =>
          rw [hp, bC_f] at hk
          have hp : ¬ pos < l.length := fun hl => by
            have := Nat.ble_eq_true_of_le hl
            rw [show Nat.blt pos l.length = Nat.ble (pos + 1) l.length from rfl, this] at hp; cases hp
          rw [if_neg hp]
          obtain ⟨v, t1, t2⟩ := outV_ok hk
          cases t1
          exact ⟨_, _, s, rfl, h, t2⟩
    · cases hk
  · cases hk
end
end Go.Abs
