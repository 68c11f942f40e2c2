/- The layer Abs, part 22: what an evaluation asks, worked out by reduction alone: operations. -/
import Derived.Test.YtjphfiieapclhaaDoorAbs21
namespace Go.Abs

/-! ### Types, as a tree -/
inductive BT where
  | nil
  | leaf (t : Nat) (T : AT)
  | node (m : Nat) (l r : BT)
def BT.get : BT → Nat → Option AT
  | .nil, _ => none
  | .leaf t T, n => bif Nat.beq t n then some T else none
  | .node m l r, n => bif Nat.blt n m then l.get n else r.get n
def BT.toList : BT → List (Nat × AT)
  | .nil => []
  | .leaf t T => [(t, T)]
  | .node _ l r => l.toList ++ r.toList
theorem BT.get_mem : ∀ (b : BT) (n : Nat) (T : AT), b.get n = some T → (n, T) ∈ b.toList
  | .nil, _, _, h => by cases h
  | .leaf t T, n, T', h => by
    simp only [BT.get] at h
    cases hb : Nat.beq t n with
    | true => rw [hb] at h; cases h; rw [Nat.eq_of_beq_eq_true hb]; exact List.mem_singleton.2 rfl
    | false => rw [hb] at h; cases h
  | .node m l r, n, T, h => by
    simp only [BT.get] at h
    cases hb : Nat.blt n m with
    | true => rw [hb] at h; exact List.mem_append_left _ (BT.get_mem l n T h)
    | false => rw [hb] at h; exact List.mem_append_right _ (BT.get_mem r n T h)
abbrev Tys := Nat → Option AT
def Tys.Ok (τ : Tys) (P : Program) : Prop := ∀ t T, τ t = some T → tyOf P t = some T
theorem BT.ok {b : BT} {P : Program} (h : b.toList.map (fun p => tyOf P p.1) = b.toList.map (fun p => some p.2)) : Tys.Ok b.get P := by
  intro t T ht
  have hm := BT.get_mem b t T ht
  have := List.map_inj_left.1 h _ hm
  exact this
def szT (τ : Tys) (t : Nat) : Nat := match τ t with | some T => T.size | none => 0
theorem cells_tyOf {P : Program} {t : Nat} {T : AT} (h : tyOf P t = some T) : P.cellsOf t = T.size := by
  unfold tyOf at h
  split at h
  · rename_i i d hi _
    split at h
    · cases h; simp [Program.cellsOf, hi]
    · cases h
  · cases h
section
variable {τ : Tys} {P : Program} (hτ : τ.Ok P)
include hτ
theorem szT_ok {t : Nat} (h : 0 < szT τ t) : P.cellsOf t = szT τ t := by
  unfold szT at h ⊢
  cases ht : τ t with
  | none => rw [ht] at h; exact absurd h (Nat.lt_irrefl 0)
  | some T => simp only; exact cells_tyOf (hτ t T ht)
end

/-! ### Forms that reduce -/
def cB (t : Bool) (A B : Prop) : Prop := match t with | true => A | false => B
theorem cB_true {A B : Prop} (h : A) : cB true A B := h
theorem cB_mk {t : Bool} {A B : Prop} (h1 : t = true → A) (h2 : t = false → B) : cB t A B := by cases t; exact h2 rfl; exact h1 rfl
theorem cB_false {A : Prop} {t : Bool} (h : cB t A False) : t = true ∧ A := by cases t; exact h.elim; exact ⟨rfl, h⟩
def om {α : Type} (o : Option α) (Q : α → Prop) : Prop := match o with | some a => Q a | none => False
theorem om_opt {α : Type} {o : Option α} {Q : α → Prop} (h : om o Q) : opt o Q := by
  cases o with
  | none => exact h.elim
  | some a => exact ⟨a, rfl, h⟩
mutual
/-- A value as it is, its cells looked at. -/
def fq (v : AV) (Q : AV → Prop) : Prop := match v with
  | .u => Q .u
  | .b t => Q (.b t)
  | .i k n => Q (.i k n)
  | .s x => Q (.s x)
  | .p0 => Q .p0
  | .p o g off => Q (.p o g off)
  | .sl0 => Q .sl0
  | .sl o g off n z => Q (.sl o g off n z)
  | .fn f a c => Q (.fn f a c)
  | .fn0 => Q .fn0
  | .ic t v => Q (.ic t v)
  | .ic0 => Q .ic0
  | .ag cs => fqs cs fun cs => Q (.ag cs)
  | .tu cs => fqs cs fun cs => Q (.tu cs)
  | .mp0 => Q .mp0
  | .mp o g => Q (.mp o g)
  | .cd c v => Q (.cd c v)
def fqs (l : List AV) (Q : List AV → Prop) : Prop := match l with
  | [] => Q []
  | v :: l => fq v fun v => fqs l fun l => Q (v :: l)
end
mutual
theorem fq_ok : ∀ (v : AV) (Q : AV → Prop), fq v Q → Q v := by
  intro v Q h
  match v with
  | .u | .b _ | .i _ _ | .s _ | .p0 | .p _ _ _ | .sl0 | .sl _ _ _ _ _ | .fn _ _ _ | .fn0 | .ic _ _ | .ic0 | .mp0 | .mp _ _ | .cd _ _ => simpa only [fq] using h
  | .ag cs => simp only [fq] at h; exact fqs_ok cs _ h
  | .tu cs => simp only [fq] at h; exact fqs_ok cs _ h
theorem fqs_ok : ∀ (l : List AV) (Q : List AV → Prop), fqs l Q → Q l := by
  intro l Q h
  match l with
  | [] => simpa only [fqs] using h
  | v :: l => simp only [fqs] at h; exact fqs_ok l _ (fq_ok v _ h)
end
/-- A value; a bool's two ways are parted. -/
def fc (v : AV) (Q : AV → Prop) : Prop := match v with
  | .b t => cB t (Q (.b true)) (Q (.b false))
  | v => fq v Q
theorem fc_ok (v : AV) (Q : AV → Prop) (h : fc v Q) : Q v := by
  cases v with
  | b t => cases t <;> exact h
  | _ => exact fq_ok _ _ h
def nums : List Nat := [0, 1, 2, 3, 4, 5, 6, 7, 8, 9, 10, 11, 12, 13, 14, 15, 16, 17, 18, 19, 20, 21, 22, 23, 24, 25, 26, 27, 28, 29, 30, 31, 32, 33, 34, 35, 36, 37, 38, 39, 40, 41, 42, 43, 44, 45, 46, 47, 48, 49, 50, 51, 52, 53, 54, 55, 56, 57, 58, 59, 60, 61, 62, 63]
def lenZ {α : Type} : List α → List Nat → (Nat → Prop) → Prop
  | [], k :: _, Q => Q k
  | _ :: l, _ :: ks, Q => lenZ l ks Q
  | _, [], _ => False
theorem lenZ_range {α : Type} : ∀ (l : List α) (s m : Nat) (Q : Nat → Prop), lenZ l (List.range' s m) Q → Q (s + l.length)
  | [], s, 0, Q, h => h.elim
  | [], s, m + 1, Q, h => h
  | _ :: l, s, 0, Q, h => h.elim
  | _ :: l, s, m + 1, Q, h => by
    have := lenZ_range l (s + 1) m Q (by simpa only [List.range'_succ, lenZ] using h)
    simpa [Nat.add_comm, Nat.add_left_comm, Nat.add_assoc] using this
/-- How long a store is. -/
def lenK (lit : Bool) (σ : St) (Q : Nat → Prop) : Prop := match lit with | true => lenZ σ nums Q | false => Q σ.length
theorem lenK_ok (lit : Bool) (σ : St) (Q : Nat → Prop) (h : lenK lit σ Q) : Q σ.length := by
  cases lit with
  | false => exact h
  | true =>
    have e : nums = List.range' 0 64 := by decide
    have h' : lenZ σ nums Q := h
    rw [e] at h'
    simpa using lenZ_range σ 0 64 Q h'
def frL (σ : St) (Q : St → Prop) : Prop := match σ with
  | [] => Q []
  | a :: r => match a with
    | ⟨g, ro, k⟩ => match k with
      | .cells e cs => frL r fun r => Q (⟨g, ro, .cells e cs⟩ :: r)
      | .iter s p => frL r fun r => Q (⟨g, ro, .iter s p⟩ :: r)
      | .maps m => frL r fun r => Q (⟨g, ro, .maps m⟩ :: r)
      | .dead => frL r fun r => Q (⟨g, ro, .dead⟩ :: r)
theorem frL_ok : ∀ (σ : St) (Q : St → Prop), frL σ Q → Q σ
  | [], Q, h => by simpa only [frL] using h
  | ⟨g, ro, .cells e cs⟩ :: r, Q, h => frL_ok r _ (by simpa only [frL] using h)
  | ⟨g, ro, .iter s p⟩ :: r, Q, h => frL_ok r _ (by simpa only [frL] using h)
  | ⟨g, ro, .maps m⟩ :: r, Q, h => frL_ok r _ (by simpa only [frL] using h)
  | ⟨g, ro, .dead⟩ :: r, Q, h => frL_ok r _ (by simpa only [frL] using h)
def frz (lit : Bool) (σ : St) (Q : St → Prop) : Prop := match lit with | true => frL σ Q | false => Q σ
theorem frz_ok (lit : Bool) (σ : St) (Q : St → Prop) (h : frz lit σ Q) : Q σ := by
  cases lit with
  | false => exact h
  | true => exact frL_ok σ Q h
/-- A number of a kind. -/
def wInt (k : IntKind) (n : Int) (Q : AV → Prop) : Prop := ∃ r, k.wrap n = r ∧ Q (.i k r)

/-! ### Equality -/
def eqFsT (τ : Tys) (eq : Nat → AV → AV → Option Bool) : List (Nat × Nat × Bool) → List AV → List AV → Option Bool
  | [], _, _ => some true
  | f :: fs, xs, ys =>
    if f.2.2 then eqFsT τ eq fs xs ys else
    match τ f.2.1 with
    | none => none
    | some F =>
      match partOf F xs f.1, partOf F ys f.1 with
      | some x, some y => match eq f.2.1 x y with
        | some b => match fs with
          | [] => some b
          | fs => match eqFsT τ eq fs xs ys with
            | some c => some (b && c)
            | none => none
        | none => none
      | _, _ => none
def eqT (τ : Tys) : Nat → Nat → AV → AV → Option Bool
  | 0, _, _, _ => none
  | d + 1, t, x, y =>
    match τ t with
    | none => none
    | some T =>
    match T.d, x, y with
    | .bool, .b p, .b q => some (p == q)
    | .int _, .i k p, .i k' q => if k = k' then some (decide (p = q)) else none
    | .str, .s p, .s q => some (p == q)
    | .ptr _, .p0, .p0 => some true
    | .ptr _, .p0, .p _ _ _ => some false
    | .ptr _, .p _ _ _, .p0 => some false
    | .ptr e, .p o g off, .p o' g' off' => if o = o' ∧ g = g' ∧ 0 < szT τ e then some (off == off') else none
    | .slice _, .sl0, .sl0 => some true
    | .slice _, .sl0, .sl _ _ _ _ _ => some false
    | .slice _, .sl _ _ _ _ _, .sl0 => some false
    | .fn, .fn0, .fn0 => some true
    | .fn, .fn0, .fn _ _ _ => some false
    | .fn, .fn _ _ _, .fn0 => some false
    | .map _ _, .mp0, .mp0 => some true
    | .map _ _, .mp0, .mp _ _ => some false
    | .map _ _, .mp _ _, .mp0 => some false
    | .ifc _, .ic0, .ic0 => some true
    | .ifc _, .ic0, .ic _ _ => some false
    | .ifc _, .ic _ _, .ic0 => some false
    | .ifc _, .ic t p, .ic t' q => if t = t' then (match τ t with | some T => if T.cmp then eqT τ d t p q else none | none => none) else some false
    | .st fs, .ag xs, .ag ys => if T.held then none else eqFsT τ (eqT τ d) fs xs ys
    | _, _, _ => none
section
variable {τ : Tys} {P : Program} (hτ : τ.Ok P)
include hτ
theorem eqFsT_ok {eq eq' : Nat → AV → AV → Option Bool} (he : ∀ t x y b, eq t x y = some b → eq' t x y = some b) : ∀ (fs : List (Nat × Nat × Bool)) (xs ys : List AV) (b : Bool), eqFsT τ eq fs xs ys = some b → aEqFs P eq' fs xs ys = some b
  | [], _, _, b, h => by simpa only [eqFsT, aEqFs] using h
  | f :: fs, xs, ys, b, h => by
    unfold eqFsT at h
    unfold aEqFs
    split at h
    · rename_i hf; rw [if_pos hf]; exact eqFsT_ok he fs xs ys b h
    · rename_i hf; rw [if_neg hf]
      split at h
      · cases h
      · rename_i F hF
        rw [hτ _ _ hF]
        split at h
        · rename_i x y hx hy
          simp only [hx, hy]
          split at h
          · rename_i b1 hb1
            rw [he _ _ _ _ hb1]
            split at h
            · cases h; cases b <;> rfl
            · split at h
              · rename_i b2 hb2
                cases h
                cases b1 with
                | true => simp only [Bool.true_and]; exact eqFsT_ok he _ xs ys b2 hb2
                | false => rfl
              · cases h
          · cases h
        · cases h
theorem eqT_ok : ∀ (d t : Nat) (x y : AV) (b : Bool), eqT τ d t x y = some b → aEq P d t x y = some b
  | 0, _, _, _, b, h => by cases h
  | d + 1, t, x, y, b, h => by
    unfold eqT at h
    split at h
    · cases h
    · rename_i T hT
      unfold aEq
      rw [hτ _ _ hT]
      simp only
      split at h <;> (rename_i hd; simp only [hd])
      all_goals first
        | exact h
        | cases h
        | skip
      · split at h
        · rename_i hk
          obtain ⟨h1, h2, h3⟩ := hk
          have h4 := h3
          rw [← szT_ok hτ h3] at h4
          rw [if_pos ⟨h1, h2, h4⟩]; exact h
        · cases h
      · split at h
        · rename_i ht
          rw [if_pos ht]
          split at h
          · rename_i T' hT'
            split at h
            · rename_i hc
              rw [hτ _ _ hT', if_pos (by simpa using hc)]
              exact eqT_ok d _ _ _ b h
            · cases h
          · cases h
        · rename_i ht; rw [if_neg ht]; exact h
      · split at h
        · cases h
        · rename_i hh; rw [if_neg hh]; exact eqFsT_ok hτ (fun t x y b => eqT_ok d t x y b) _ _ _ b h
end
end Go.Abs
