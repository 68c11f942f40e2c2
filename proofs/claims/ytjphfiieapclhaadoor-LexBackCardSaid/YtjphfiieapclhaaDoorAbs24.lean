/- The layer Abs, part 24: what an operation asks (the ones that write), and any operation. -/
import Derived.Test.YtjphfiieapclhaaDoorAbs23
namespace Go.Abs

section
variable (τ : Tys) (lit : Bool)
def wUn (op : UnOp) (x : AV) (Q : AV → Prop) : Prop := match op, x with
  | .neg, .i k n => wInt k (0 - n) Q
  | .xor, .i k n => om (aBits .xor k (if k.signed then -1 else k.max) n) Q
  | .not, .b p => fc (.b !p) Q
  | _, _ => False
def wConv (s d : Nat) (x : AV) (σ : St) (Q : AV → St → Prop) : Prop := om (τ s) fun S => om (τ d) fun D => match S.d, D.d, x with
  | _, .int k, .i _ n => wInt k n fun v => Q v σ
  | _, .str, .i _ n => Q (.s (Utf8.encode n).data.toList) σ
  | .str, .str, .s x => Q (.s x) σ
  | .str, .slice e, .s x => cB (isU8 τ e) (lenK lit σ fun m => frz lit (newCells e (x.map fun b => .i .u8 b.toNat) σ) fun σ' => Q (.sl m 0 0 x.length 1) σ') False
  | .slice e, .str, .sl0 => cB (isU8 τ e) (Q (.s []) σ) False
  | .slice e, .str, .sl o g off n z => cB (isU8 τ e && Nat.beq z 1) (om (cellsAt σ o g) fun cs => ∃ b, off + n ≤ cs.length ∧ bytesOf ((cs.drop off).take n) = some b ∧ Q (.s b) σ) False
  | _, _, _ => False
def wBsl (t len : Nat) (ps : List (Nat × AV)) (σ : St) (Q : AV → St → Prop) : Prop := om (τ t) fun T => match T.d with
  | .slice e => om (τ e) fun E => cB (Nat.blt 0 E.size && Nat.beq E.zero.cells.length E.size && Nat.ble (len * E.size) 16777216)
      (om (fillA (fun i => some (i * E.size, E.size)) (repl E.zero.cells len) ps) fun cs => fqs cs fun cs => lenK lit σ fun m => frz lit (newCells e cs σ) fun σ' => Q (.sl m 0 0 len E.size) σ') False
  | _ => False
def wMks (t : Nat) (l c : AV) (σ : St) (Q : AV → St → Prop) : Prop := om (τ t) fun T => match T.d, l, c with
  | .slice e, .i _ l, .i _ c => om (τ e) fun E => cB (Nat.blt 0 E.size && Nat.beq E.zero.cells.length E.size)
      (∃ l' c' : Nat, l = l' ∧ c = c' ∧ l' ≤ c' ∧ c' ≤ 9223372036854775807 ∧ E.bytes * c' ≤ 140737488355328 ∧ lenK lit σ fun m => frz lit (newCells e (repl E.zero.cells c') σ) fun σ' => Q (.sl m 0 0 l' E.size) σ') False
  | _, _, _ => False
def wRng (t : Nat) (x : AV) (σ : St) (Q : AV → St → Prop) : Prop := om (τ t) fun T => match T.d, x with
  | .str, .s x => lenK lit σ fun m => frz lit (σ ++ [⟨0, false, .iter x 0⟩]) fun σ' => Q (.p m 0 0) σ'
  | _, _ => False
def iterAt (σ : St) (o g : Nat) : Option (List UInt8 × Nat) := match σ[o]? with
  | some ⟨g', ro, .iter s pos⟩ => bif Nat.beq g g' && !ro then some (s, pos) else none
  | _ => none
def wNxt (x : AV) (σ : St) (Q : AV → St → Prop) : Prop := match x with
  | .p o g off => cB (Nat.beq off 0) (om (iterAt σ o g) fun r =>
      cB (decide (r.2 < r.1.length)) (frz lit (σ.set o ⟨g, false, .iter r.1 (r.2 + (Utf8.decode ⟨r.1.toArray⟩ r.2).2)⟩) fun σ' => Q (.tu [.b true, .i .i64 r.2, .i .i32 (Utf8.decode ⟨r.1.toArray⟩ r.2).1]) σ') (Q (.tu [.b false]) σ)) False
  | _ => False
/-- The object that is appended to. -/
def ownAt (σ : St) (o g e : Nat) : Option (List AV) := match σ[o]? with
  | some ⟨g', ro, .cells e' cs⟩ => bif Nat.beq g g' && !ro && Nat.beq e' e then some cs else none
  | _ => none
theorem ownAt_ok {σ : St} {o g e : Nat} {cs : List AV} (h : ownAt σ o g e = some cs) : σ[o]? = some ⟨g, false, .cells e cs⟩ := by
  unfold ownAt at h
  split at h
  · rename_i g' ro e' cs' ho
    cases hb : (Nat.beq g g' && !ro && Nat.beq e' e) with
    | false => rw [hb] at h; cases h
    | true =>
      rw [hb] at h
      cases h
      simp only [Bool.and_eq_true, Bool.not_eq_true'] at hb
      rw [ho, Nat.eq_of_beq_eq_true hb.1.1, Nat.eq_of_beq_eq_true hb.2, hb.1.2]
  · cases h
def isIfc : AD → Bool
  | .ifc _ => true
  | _ => false
def wApp (t : Nat) (x y : AV) (σ : St) (Q : AV → St → Prop) : Prop := om (τ t) fun T => match T.d with
  | .slice e => om (τ e) fun E => cB (Nat.blt 0 E.size && Nat.beq E.zero.cells.length E.size && Nat.blt 0 E.bytes)
      (om (srcCells E.size y σ) fun src => cB (Nat.beq src.1 0) (match x with | .sl0 => Q .sl0 σ | .sl o g off n z => Q (.sl o g off n z) σ | _ => False)
        (cB (src.2.all AV.one)
          (match x with
          | .sl0 => src.1 * E.bytes ≤ 140737488355328 ∧ fqs src.2 fun l => lenK lit σ fun m => frz lit (newCells e l σ) fun σ' => Q (.sl m 0 0 src.1 E.size) σ'
          | .sl o g off n z => om (ownAt σ o g e) fun cs => z = E.size ∧ off + n * z ≤ cs.length ∧ (n + src.1) * E.bytes ≤ 140737488355328 ∧ ((cs.drop off).take (n * z)).all AV.one = true ∧
              frz lit (σ.set o ⟨g + 1, false, .cells e (((cs.drop off).take (n * z)) ++ src.2)⟩) fun σ' => Q (.sl o (g + 1) 0 (n + src.1) z) σ'
          | _ => False) False)) False
  | _ => False
/-- Has a type all the methods of an interface type: what is asked of it. -/
structure HasF (P : Program) (t I : Nat) (Q : Bool → Prop) : Prop where
  ev : om (hasAll P t I) Q
theorem HasF.of {P : Program} {t I : Nat} {b : Bool} {Q : Bool → Prop} (h : hasAll P t I = some b) (q : Q b) : HasF P t I Q := ⟨by rw [h]; exact q⟩
def wTas (P : Program) (x : AV) (t : Nat) (ok : Bool) (Q : AV → Prop) : Prop := om (τ t) fun T => cB (isIfc T.d) (match x with
  | .ic0 => cB ok (Q (.tu [T.zero, .b false])) False
  | .ic t' v => HasF P t' t fun b => cB b (cB ok (Q (.tu [.ic t' v, .b true])) (Q (.ic t' v))) (cB ok (Q (.tu [T.zero, .b false])) False)
  | _ => False) (match x with
  | .ic0 => cB ok (Q (.tu [T.zero, .b false])) False
  | .ic t' v => cB (Nat.beq t' t) (cB ok (Q (.tu [v, .b true])) (fc v Q)) (cB ok (Q (.tu [T.zero, .b false])) False)
  | _ => False)
end

/-- An append: what is asked of it. -/
structure AppF (τ : Tys) (lit : Bool) (t : Nat) (x y : AV) (σ : St) (Q : AV → St → Prop) : Prop where
  ev : wApp τ lit t x y σ Q
/-- Any operation. -/
def wOp (X : Ctx) (τ : Tys) (lit : Bool) (ρ : Opd → AV) (op : AOp) (σ : St) (Q : AV → St → Prop) : Prop := match op with
  | .mv x => fc (ρ x) fun v => Q v σ
  | .pick c a b => match ρ c with
    | .b t => cB t (cB (ρ a).cnd (fc (ρ a).val fun v => Q v σ) False) (cB (ρ b).cnd (fc (ρ b).val fun v => Q v σ) False)
    | _ => False
  | .alloc t => om (τ t) fun T => lenK lit σ fun m => frz lit (newCells t T.zero.cells σ) fun σ' => Q (.p m 0 0) σ'
  | .box t x => fq (ρ x) fun v => match v with
    | .u => False
    | .tu _ => False
    | .cd _ _ => False
    | v => lenK lit σ fun m => frz lit (newCells t v.cells σ) fun σ' => Q (.p m 0 0) σ'
  | .build t ps => wBuild τ t (ps.map fun q => (q.1, ρ q.2)) fun v => Q v σ
  | .bsl t n ps => wBsl τ lit t n (ps.map fun q => (q.1, ρ q.2)) σ Q
  | .load t x => om (aLoad (τ t) (ρ x) σ) fun v => fc v fun v => Q v σ
  | .store t x y => om (aStore (τ t) (ρ x) (ρ y) σ) fun σ' => frz lit σ' fun σ' => Q (.tu []) σ'
  | .nilck x => om (aNil (ρ x)) fun v => Q v σ
  | .bin op t x y => wBin τ op t (ρ x) (ρ y) (x.isC || y.isC) fun v => Q v σ
  | .un op x => wUn op (ρ x) fun v => Q v σ
  | .conv s d x => wConv τ lit s d (ρ x) σ Q
  | .mki t x => om (τ t) fun T => match T.d with
    | .ifc _ => False
    | _ => fc (ρ x) fun v => Q (.ic t v) σ
  | .mkf f a c => fqs (a.map ρ) fun a => fqs (c.map ρ) fun c => Q (.fn f a c) σ
  | .mks t l c => wMks τ lit t (ρ l) (ρ c) σ Q
  | .slc t x l h => wSlc τ t (ρ x) (l.map ρ) (h.map ρ) σ fun v => Q v σ
  | .fad t x f => wFad τ t (ρ x) f fun v => Q v σ
  | .fld t x f => wFld τ t (ρ x) f fun v => Q v σ
  | .iad t x i => wIad τ t (ρ x) (ρ i) fun v => Q v σ
  | .idx t x i => wIdx τ t (ρ x) (ρ i) fun v => Q v σ
  | .rng t x => wRng τ lit t (ρ x) σ Q
  | .nxt x => wNxt lit (ρ x) σ Q
  | .tas x _ t ok => wTas τ X.P (ρ x) t ok fun v => Q v σ
  | .ext x i => match ρ x with
    | .tu vs => om vs[i]? fun v => fc v fun v => Q v σ
    | _ => False
  | .call f args => match ρ f with
    | .fn f first cap => match f with
      | .func k => fqs (first ++ args.map ρ ++ cap) fun l => CallF X k l σ fun v σ' => fc v fun v => Q v σ'
      | _ => False
    | _ => False
  | .inv x m args => match ρ x with
    | .ic t v => match X.meth t m v with
      | some k => fqs (k.2 :: args.map ρ) fun l => CallF X k.1 l σ fun v σ' => fc v fun v => Q v σ'
      | none => False
    | _ => False
  | .len t x => wLen τ t (ρ x) fun v => Q v σ
  | .app t _ x y => fq (ρ x) fun x => fq (ρ y) fun y => AppF τ lit t x y σ Q
  | .copy t x y => om (aCopy X.P t (ρ x) (ρ y) σ) fun r => frz lit r.2 fun σ' => Q r.1 σ'
  | .mn mx xs => om (aMn mx (xs.map ρ)) fun v => fc v fun v => Q v σ
  | .mkm t r => om (aMkm X.P t (r.map ρ) σ) fun r => frz lit r.2 fun σ' => Q r.1 σ'
  | .lku t x k ok => om (aLku X.P t (ρ x) (ρ k) ok σ) fun v => fc v fun v => Q v σ
  | .mup t m k v => om (aMup X.P t (ρ m) (ρ k) (ρ v) σ) fun σ' => frz lit σ' fun σ' => Q (.tu []) σ'
  | .del t m k => om (aDel X.P t (ρ m) (ρ k) σ) fun σ' => frz lit σ' fun σ' => Q (.tu []) σ'
  | .mln t x => om (aMln X.P t (ρ x) σ) fun v => fc v fun v => Q v σ
  | .sl3 t x l h m => om (aSl3 X.P t (ρ x) (l.map ρ) (ρ h) (ρ m)) fun v => fc v fun v => Q v σ
  | .pnc _ => False

section
variable {X : Ctx} {τ : Tys} (hτ : τ.Ok X.P) {lit : Bool} {σ : St} {Q : AV → St → Prop}
theorem wUn_ok {op : UnOp} {x : AV} {Q : AV → Prop} (h : wUn op x Q) : opt (aUn op x) Q := by
  unfold wUn at h
  split at h
  · obtain ⟨r, rfl, h⟩ := h; exact ⟨_, rfl, h⟩
  · exact om_opt h
  · exact ⟨_, rfl, fc_ok _ _ h⟩
  · exact h.elim
include hτ
theorem wConv_ok {s d : Nat} {x : AV} (h : wConv τ lit s d x σ Q) : opt (aConv X.P s d x σ) fun r => Q r.1 r.2 := by
  obtain ⟨⟨d1, s1, b1, z1, c1, hd1, g1⟩, hS, h⟩ := om_some h
  obtain ⟨⟨d2, s2, b2, z2, c2, hd2, g2⟩, hD, h⟩ := om_some h
  unfold aConv
  rw [hτ _ _ hS, hτ _ _ hD]
  simp only at h ⊢
  split at h
  · obtain ⟨r, rfl, h⟩ := h; exact ⟨_, rfl, h⟩
  · exact ⟨_, rfl, h⟩
  · exact ⟨_, rfl, h⟩
  · obtain ⟨h1, h⟩ := cB_t h
    obtain ⟨a, b, c, d, f, g, he⟩ := isU8_ok hτ h1
    simp only [he]
    exact ⟨_, rfl, frz_ok _ _ _ (lenK_ok _ _ _ h)⟩
  · obtain ⟨h1, h⟩ := cB_t h
    obtain ⟨a, b, c, d, f, g, he⟩ := isU8_ok hτ h1
    simp only [he]
    exact ⟨_, rfl, h⟩
  · obtain ⟨h1, h⟩ := cB_t h
    rw [Bool.and_eq_true] at h1
    have hz := Nat.eq_of_beq_eq_true h1.2
    obtain ⟨a, b, c, d, f, g, he⟩ := isU8_ok hτ h1.1
    obtain ⟨cs, hc, b', h2, h3, h⟩ := om_some h
    simp only [he]
    rw [if_pos hz, hc, Option.bind_some, if_pos h2, h3]
    exact ⟨_, rfl, h⟩
  · exact h.elim
theorem wBsl_ok {t n : Nat} {ps : List (Nat × AV)} (h : wBsl τ lit t n ps σ Q) : opt (aBsl X.P t n ps σ) fun r => Q r.1 r.2 := by
  obtain ⟨⟨d1, s1, b1, z1, c1, hd1, g1⟩, hT, h⟩ := om_some h
  unfold aBsl
  simp only at h
  split at h
  · rw [hτ _ _ hT]
    obtain ⟨E, hE, h⟩ := om_some h
    obtain ⟨h1, h⟩ := cB_t h
    rw [Bool.and_eq_true, Bool.and_eq_true] at h1
    obtain ⟨cs, hc, h⟩ := om_some h
    simp only [hτ _ _ hE]
    rw [if_pos ⟨blt_lt h1.1.1, Nat.eq_of_beq_eq_true h1.1.2, Nat.le_of_ble_eq_true h1.2⟩, hc]
    exact ⟨_, rfl, frz_ok _ _ _ (lenK_ok _ _ _ (fqs_ok _ _ h))⟩
  · exact h.elim
theorem wMks_ok {t : Nat} {l c : AV} (h : wMks τ lit t l c σ Q) : opt (aMks X.P t l c σ) fun r => Q r.1 r.2 := by
  obtain ⟨⟨d1, s1, b1, z1, c1, hd1, g1⟩, hT, h⟩ := om_some h
  unfold aMks
  rw [hτ _ _ hT]
  simp only at h
  split at h
  · obtain ⟨E, hE, h⟩ := om_some h
    obtain ⟨h1, h⟩ := cB_t h
    rw [Bool.and_eq_true] at h1
    obtain ⟨l', c', rfl, rfl, h2, h3, h4, h⟩ := h
    simp only [hτ _ _ hE]
    rw [if_pos ⟨blt_lt h1.1, Nat.eq_of_beq_eq_true h1.2, by omega, by omega, by omega, by omega⟩]
    exact ⟨_, rfl, frz_ok _ _ _ (lenK_ok _ _ _ h)⟩
  · exact h.elim
theorem wRng_ok {t : Nat} {x : AV} (h : wRng τ lit t x σ Q) : opt (aRng X.P t x σ) fun r => Q r.1 r.2 := by
  obtain ⟨⟨d1, s1, b1, z1, c1, hd1, g1⟩, hT, h⟩ := om_some h
  unfold aRng
  rw [hτ _ _ hT]
  simp only at h
  split at h
  · exact ⟨_, rfl, frz_ok _ _ _ (lenK_ok _ _ _ h)⟩
  · exact h.elim
omit hτ in
theorem wNxt_ok {x : AV} (h : wNxt lit x σ Q) : opt (aNxt x σ) fun r => Q r.1 r.2 := by
  unfold wNxt at h
  split at h
  · obtain ⟨h1, h⟩ := cB_t h
    obtain rfl := Nat.eq_of_beq_eq_true h1
    obtain ⟨⟨s, pos⟩, hi, h⟩ := om_some h
    unfold iterAt at hi
    split at hi
    · rename_i g' ro s' pos' ho
      cases hb : (Nat.beq _ g' && !ro) with
      | false => rw [hb] at hi; cases hi
      | true =>
        rw [hb] at hi
        cases hi
        simp only [Bool.and_eq_true, Bool.not_eq_true'] at hb
        have hg := Nat.eq_of_beq_eq_true hb.1
        subst hg
        unfold aNxt
        simp only [ho]
        rw [if_pos ⟨trivial, hb.2⟩]
        simp only at h
        by_cases hp : pos < s.length
        · rw [decide_eq_true hp] at h
          rw [if_pos hp]
          exact ⟨_, rfl, frz_ok _ _ _ h⟩
        · rw [decide_eq_false hp] at h
          rw [if_neg hp]
          exact ⟨_, rfl, h⟩
    · cases hi
  · exact h.elim
theorem wApp_ok {t : Nat} {x y : AV} (h : wApp τ lit t x y σ Q) : opt (aApp X.P t x y σ) fun r => Q r.1 r.2 := by
  obtain ⟨⟨d1, s1, b1, z1, c1, hd1, g1⟩, hT, h⟩ := om_some h
  unfold aApp
  simp only at h
  split at h
  · rw [hτ _ _ hT]
    obtain ⟨E, hE, h⟩ := om_some h
    obtain ⟨h1, h⟩ := cB_t h
    rw [Bool.and_eq_true, Bool.and_eq_true] at h1
    obtain ⟨src, hs, h⟩ := om_some h
    simp only [hτ _ _ hE]
    rw [if_pos ⟨blt_lt h1.1.1, Nat.eq_of_beq_eq_true h1.1.2, blt_lt h1.2⟩, hs, Option.bind_some]
    cases h0 : Nat.beq src.1 0 with
    | true =>
      rw [h0] at h
      rw [if_pos (Nat.eq_of_beq_eq_true h0)]
      simp only [cB] at h
      split at h
      · exact ⟨_, rfl, h⟩
      · exact ⟨_, rfl, h⟩
      · exact h.elim
    | false =>
      rw [h0] at h
      rw [if_neg (fun e => by rw [e] at h0; cases h0)]
      obtain ⟨h2, h⟩ := cB_t h
      rw [if_pos h2]
      split at h
      · obtain ⟨h3, h⟩ := h
        simp only
        rw [if_pos h3]
        exact ⟨_, rfl, frz_ok _ _ _ (lenK_ok _ _ _ (fqs_ok _ _ h))⟩
      · obtain ⟨cs, hc, h3, h4, h5, h6, h⟩ := om_some h
        have ho := ownAt_ok hc
        simp only [ho]
        rw [if_pos ⟨trivial, h3, trivial, h4, h5, h6⟩]
        exact ⟨_, rfl, frz_ok _ _ _ h⟩
      · exact h.elim
  · exact h.elim
theorem wTas_ok {x : AV} {t : Nat} {ok : Bool} {Q : AV → Prop} (h : wTas τ X.P x t ok Q) : opt (aTas X.P x t ok) Q := by
  obtain ⟨⟨d1, s1, b1, z1, c1, hd1, g1⟩, hT, h⟩ := om_some h
  unfold aTas
  rw [hτ _ _ hT]
  simp only at h
  cases x with
  | ic0 =>
    have key : ok = true ∧ Q (.tu [z1, .b false]) := by
      cases hi : isIfc d1 <;> (rw [hi] at h; exact cB_t h)
    obtain ⟨rfl, h⟩ := key
    cases d1 <;> exact ⟨_, rfl, h⟩
  | ic t' v =>
    simp only at h
    cases hi : isIfc d1 with
    | true =>
      rw [hi] at h
      cases d1 with
      | ifc ms =>
        obtain ⟨b, hb, h⟩ := om_some h.ev
        simp only [hb]
        cases b with
        | true => cases ok <;> exact ⟨_, rfl, h⟩
        | false => obtain ⟨rfl, h⟩ := cB_t h; exact ⟨_, rfl, h⟩
      | _ => cases hi
    | false =>
      rw [hi] at h
      have key : opt (if t' = t then some (if ok then AV.tu [v, .b true] else v) else if ok then some (.tu [z1, .b false]) else none) Q := by
        cases hb : Nat.beq t' t with
        | true =>
          rw [hb] at h
          rw [if_pos (Nat.eq_of_beq_eq_true hb)]
          cases ok with
          | true => exact ⟨_, rfl, h⟩
          | false => exact ⟨_, rfl, fc_ok _ _ h⟩
        | false =>
          rw [hb] at h
          rw [if_neg (fun e => by rw [e, Nat.beq_refl] at hb; cases hb)]
          obtain ⟨rfl, h⟩ := cB_t h
          exact ⟨_, rfl, h⟩
      cases d1 <;> first | (cases hi; done) | exact key
  | _ => cases hi : isIfc d1 <;> (rw [hi] at h; exact h.elim)
theorem aLoad_ok {t : Nat} {x v : AV} (h : aLoad (τ t) x σ = some v) : aLoad (tyOf X.P t) x σ = some v := by
  cases ht : τ t with
  | none => rw [ht] at h; simp [aLoad] at h
  | some T => rw [hτ _ _ ht, ← ht]; exact h
theorem aStore_ok {t : Nat} {x y : AV} {σ' : St} (h : aStore (τ t) x y σ = some σ') : aStore (tyOf X.P t) x y σ = some σ' := by
  cases ht : τ t with
  | none => rw [ht] at h; simp [aStore] at h
  | some T => rw [hτ _ _ ht, ← ht]; exact h
theorem wOp_ok {ρ : Opd → AV} {op : AOp} (h : wOp X τ lit ρ op σ Q) : actV X ρ op σ Q := by
  cases op with
  | call f args =>
    rw [actV_call]
    simp only [wOp] at h
    split at h
    · rename_i f' first cap hf
      split at h
      · rename_i k
        rw [hf]
        have h := fqs_ok _ _ h
        exact EvF_mono h.ev fun v s q => fc_ok _ _ q
      · exact h.elim
    · exact h.elim
  | inv x m args =>
    rw [actV_inv]
    simp only [wOp] at h
    split at h
    · rename_i t v hx
      split at h
      · rename_i k hk
        rw [hx]
        have h := fqs_ok _ _ h
        exact ⟨k, hk, EvF_mono h.ev fun v s q => fc_ok _ _ q⟩
      · exact h.elim
    · exact h.elim
  | pnc x => exact h.elim
  | mv x => rw [actV_op rfl]; simp only [wOp] at h; exact ⟨_, rfl, fc_ok _ _ h⟩
  | pick c a b =>
    rw [actV_op rfl]
    simp only [wOp] at h
    split at h
    · rename_i t hc
      simp only [aOp]
      rw [opt_map]
      unfold aPick
      rw [hc]
      cases t with
      | true =>
        obtain ⟨h1, h⟩ := cB_t h
        simp only [impB_of_true, h1, Bool.not_true, impB_of_false, Bool.and_self, if_true]
        refine ⟨_, rfl, ?_⟩
        have h := fc_ok _ _ h
        have e : merge true (ρ a).val (ρ b).val = (ρ a).val := by
          unfold merge
          split
          · rename_i p q e1 e2; rw [e1]; simp [bsel]
          · simp
        rw [e]; exact h
      | false =>
        obtain ⟨h1, h⟩ := cB_t h
        simp only [impB_of_false, h1, Bool.not_false, impB_of_true, Bool.and_self, if_true]
        refine ⟨_, rfl, ?_⟩
        have h := fc_ok _ _ h
        have e : merge false (ρ a).val (ρ b).val = (ρ b).val := by
          unfold merge
          split
          · rename_i p q e1 e2; rw [e2]; simp [bsel]
          · simp
        rw [e]; exact h
    · exact h.elim
  | alloc t =>
    rw [actV_op rfl]
    obtain ⟨T, hT, h⟩ := om_some h
    simp only [aOp]
    rw [hτ _ _ hT]
    exact ⟨_, rfl, frz_ok _ _ _ (lenK_ok _ _ _ h)⟩
  | box t x =>
    rw [actV_op rfl]
    simp only [wOp] at h
    have h := fq_ok _ _ h
    simp only [aOp]
    split at h
    · exact h.elim
    · exact h.elim
    · exact h.elim
    · rename_i h1 h2 h3
      have h := frz_ok _ _ _ (lenK_ok _ _ _ h)
      split
      · rename_i e; exact (h1 e).elim
      · rename_i e; exact (h2 _ e).elim
      · rename_i e; exact (h3 _ _ e).elim
      · exact ⟨_, rfl, h⟩
  | build t ps => rw [actV_op rfl]; simp only [aOp]; rw [opt_map]; exact wBuild_ok hτ h
  | bsl t n ps => rw [actV_op rfl]; exact wBsl_ok hτ h
  | load t x =>
    rw [actV_op rfl]
    obtain ⟨v, hv, h⟩ := om_some h
    simp only [aOp]
    rw [opt_map]
    exact ⟨v, aLoad_ok hτ hv, fc_ok _ _ h⟩
  | store t x y =>
    rw [actV_op rfl]
    obtain ⟨s, hs, h⟩ := om_some h
    simp only [aOp]
    rw [opt_map]
    exact ⟨s, aStore_ok hτ hs, frz_ok _ _ _ h⟩
  | nilck x =>
    rw [actV_op rfl]
    simp only [aOp]
    rw [opt_map]
    exact om_opt h
  | bin op t x y => rw [actV_op rfl]; simp only [aOp]; rw [opt_map]; exact wBin_ok hτ h
  | un op x => rw [actV_op rfl]; simp only [aOp]; rw [opt_map]; exact wUn_ok h
  | conv s d x => rw [actV_op rfl]; exact wConv_ok hτ h
  | mki t x =>
    rw [actV_op rfl]
    obtain ⟨⟨d1, s1, b1, z1, c1, hd1, g1⟩, hT, h⟩ := om_some h
    simp only [aOp]
    rw [hτ _ _ hT]
    simp only at h
    split at h
    · exact h.elim
    · rename_i hn
      have h := fc_ok _ _ h
      split
      · rename_i e; cases e; exact (hn _ rfl).elim
      · exact ⟨_, rfl, h⟩
      · rename_i e; cases e
  | mkf f a c =>
    rw [actV_op rfl]
    simp only [wOp] at h
    have h := fqs_ok _ _ (fqs_ok _ _ h)
    exact ⟨_, rfl, h⟩
  | mks t l c => rw [actV_op rfl]; exact wMks_ok hτ h
  | slc t x l hh => rw [actV_op rfl]; simp only [aOp]; rw [opt_map]; exact wSlc_ok hτ h
  | fad t x f => rw [actV_op rfl]; simp only [aOp]; rw [opt_map]; exact wFad_ok hτ h
  | fld t x f => rw [actV_op rfl]; simp only [aOp]; rw [opt_map]; exact wFld_ok hτ h
  | iad t x i => rw [actV_op rfl]; simp only [aOp]; rw [opt_map]; exact wIad_ok hτ h
  | idx t x i => rw [actV_op rfl]; simp only [aOp]; rw [opt_map]; exact wIdx_ok hτ h
  | rng t x => rw [actV_op rfl]; exact wRng_ok hτ h
  | nxt x => rw [actV_op rfl]; exact wNxt_ok h
  | tas x _ t ok => rw [actV_op rfl]; simp only [aOp]; rw [opt_map]; exact wTas_ok hτ h
  | ext x i =>
    rw [actV_op rfl]
    simp only [wOp] at h
    simp only [aOp]
    split at h
    · rename_i vs hx
      obtain ⟨v, hv, h⟩ := om_some h
      rw [hx]
      simp only
      rw [opt_map]
      exact ⟨v, hv, fc_ok _ _ h⟩
    · exact h.elim
  | len t x => rw [actV_op rfl]; simp only [aOp]; rw [opt_map]; exact wLen_ok hτ h
  | app t s x y =>
    rw [actV_op rfl]
    simp only [wOp] at h
    exact wApp_ok hτ (fq_ok _ _ (fq_ok _ _ h)).ev
  | mkm t r =>
    rw [actV_op rfl]
    obtain ⟨q, hq, h⟩ := om_some h
    exact ⟨q, hq, frz_ok _ _ _ h⟩
  | lku t x k ok =>
    rw [actV_op rfl]
    obtain ⟨v, hv, h⟩ := om_some h
    simp only [aOp]
    rw [opt_map]
    exact ⟨v, hv, fc_ok _ _ h⟩
  | mup t m k v =>
    rw [actV_op rfl]
    obtain ⟨q, hq, h⟩ := om_some h
    simp only [aOp]
    rw [opt_map]
    exact ⟨q, hq, frz_ok _ _ _ h⟩
  | del t m k =>
    rw [actV_op rfl]
    obtain ⟨q, hq, h⟩ := om_some h
    simp only [aOp]
    rw [opt_map]
    exact ⟨q, hq, frz_ok _ _ _ h⟩
  | sl3 t x l hh m =>
    rw [actV_op rfl]
    obtain ⟨v, hv, h⟩ := om_some h
    simp only [aOp]
    rw [opt_map]
    exact ⟨v, hv, fc_ok _ _ h⟩
  | mln t x =>
    rw [actV_op rfl]
    obtain ⟨v, hv, h⟩ := om_some h
    simp only [aOp]
    rw [opt_map]
    exact ⟨v, hv, fc_ok _ _ h⟩
  | copy t x y =>
    rw [actV_op rfl]
    obtain ⟨r, hr, h⟩ := om_some h
    exact ⟨r, hr, frz_ok _ _ _ h⟩
  | mn mx xs =>
    rw [actV_op rfl]
    obtain ⟨r, hr, h⟩ := om_some h
    simp only [aOp]
    rw [opt_map]
    exact ⟨r, hr, fc_ok _ _ h⟩
end
end Go.Abs
