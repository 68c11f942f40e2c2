/- Texts of this claim, joined: Abs26, Cx, Abs28, FnA, FnB, FnC, FnD, FnE. -/
import Derived.Test.YtkfcbgmamfnajaaGreatDoorM07
import Derived.Test.YtkfcbgmamfnajaaGreatDoorM06
import Derived.Handed
import Derived.LaidLaws
set_option linter.unusedVariables false
set_option linter.unusedSimpArgs false
/- The layer Abs, part 26: what was shown over the package-level variables alone holds over any store that begins with them. -/
namespace Go.Abs

mutual
/-- It names only the first objects. -/
def AV.under (n : Nat) : AV → Bool
  | .p o _ _ => Nat.blt o n
  | .sl o _ _ _ _ => Nat.blt o n
  | .mp o _ => Nat.blt o n
  | .fn _ a c => AV.unders n a && AV.unders n c
  | .ic _ v => v.under n
  | .cd _ v => v.under n
  | .ag a => AV.unders n a
  | .tu a => AV.unders n a
  | _ => true
def AV.unders (n : Nat) : List AV → Bool
  | [] => true
  | a :: l => a.under n && AV.unders n l
end
mutual
theorem VRel.under {μ μ' : Mu} {w : World} {n : Nat} (hm : ∀ o g, o < n → μ' o g = μ o g) : ∀ (a : AV) (v : Value), a.under n = true → VRel μ w a v → VRel μ' w a v := by
  intro a v hf h
  match a with
  | .u => trivial
  | .b _ | .i _ _ | .s _ | .p0 | .sl0 | .fn0 | .ic0 | .mp0 => simpa [VRel] using h
  | .p o g off =>
    obtain ⟨b, δ, h1, h2⟩ := h
    exact ⟨b, δ, by rw [hm o g (blt_lt (by simpa [AV.under] using hf))]; exact h1, h2⟩
  | .sl o g off n z =>
    obtain ⟨b, δ, off', c, e, m, h1, h2⟩ := h
    exact ⟨b, δ, off', c, e, m, by rw [hm o g (blt_lt (by simpa [AV.under] using hf))]; exact h1, h2⟩
  | .mp o g =>
    obtain ⟨b, h1, h2⟩ := h
    exact ⟨b, by rw [hm o g (blt_lt (by simpa [AV.under] using hf))]; exact h1, h2⟩
  | .fn f xs ys =>
    simp only [AV.under, Bool.and_eq_true] at hf
    obtain ⟨a, c, h1, h2, h3⟩ := h
    exact ⟨a, c, h1, VRels.under hm _ _ hf.1 h2, VRels.under hm _ _ hf.2 h3⟩
  | .ic t x => obtain ⟨y, h1, h2⟩ := h; exact ⟨y, h1, VRel.under hm _ _ (by simpa [AV.under] using hf) h2⟩
  | .ag xs => obtain ⟨y, h1, h2⟩ := h; exact ⟨y, h1, VRels.under hm _ _ (by simpa [AV.under] using hf) h2⟩
  | .tu xs => obtain ⟨y, h1, h2⟩ := h; exact ⟨y, h1, VRels.under hm _ _ (by simpa [AV.under] using hf) h2⟩
  | .cd c x =>
    cases c with
    | true => simp only [VRel, if_true] at h ⊢; exact VRel.under hm _ _ (by simpa [AV.under] using hf) h
    | false => simpa [VRel] using h
theorem VRels.under {μ μ' : Mu} {w : World} {n : Nat} (hm : ∀ o g, o < n → μ' o g = μ o g) : ∀ (l : List AV) (v : List Value), AV.unders n l = true → VRels μ w l v → VRels μ' w l v := by
  intro l v hf h
  match l with
  | [] => simpa [VRels] using h
  | x :: xs =>
    simp only [AV.unders, Bool.and_eq_true] at hf
    obtain ⟨y, ys, h1, h2, h3⟩ := h
    exact ⟨y, ys, h1, VRel.under hm _ _ hf.1 h2, VRels.under hm _ _ hf.2 h3⟩
end
theorem unders_mem {n : Nat} : ∀ {l : List AV} {c : AV}, AV.unders n l = true → c ∈ l → c.under n = true
  | a :: l, c, h, hc => by
    simp only [AV.unders, Bool.and_eq_true] at h
    rcases List.mem_cons.1 hc with rfl | hc
    · exact h.1
    · exact unders_mem h.2 hc

/-- A store of package-level variables: none may be written, and what they hold names only such. -/
def okGlob (G : Nat) (σ : St) : Bool := Nat.beq σ.length G && σ.all fun a => match a.k with
  | .cells _ cs => a.ro && AV.unders G cs
  | .dead => true
  | _ => false
def cutMu (G : Nat) (μ : Mu) : Mu := fun o g => if o < G then μ o g else none
section
variable {G : Nat} {G0 σ : St} {μ : Mu} {w : World}
theorem glob_at (ht : σ.take G0.length = G0) {o : Nat} (ho : o < G0.length) : σ[o]? = G0[o]? := by
  have h := congrArg (fun l => l[o]?) ht
  simpa [List.getElem?_take, ho] using h
theorem okGlob_len (h : okGlob G G0 = true) : G0.length = G := by
  simp only [okGlob, Bool.and_eq_true] at h; exact Nat.eq_of_beq_eq_true h.1
theorem okGlob_at (h : okGlob G G0 = true) {o : Nat} {a : AO} (ho : G0[o]? = some a) (hl : a.k.live = true) : a.ro = true ∧ ∃ e cs, a.k = .cells e cs ∧ AV.unders G cs = true := by
  simp only [okGlob, Bool.and_eq_true, List.all_eq_true] at h
  have := h.2 a (List.mem_of_getElem? ho)
  obtain ⟨g, ro, k⟩ := a
  cases k with
  | cells e cs => simp only [Bool.and_eq_true] at this; exact ⟨this.1, e, cs, rfl, this.2⟩
  | dead => cases hl
  | iter _ _ => cases this
  | maps _ => cases this
theorem Sim.cut (hs : Sim G μ σ w) (hG : okGlob G G0 = true) (ht : σ.take G0.length = G0) : Sim G (cutMu G μ) G0 w := by
  have hlen := okGlob_len hG
  have hmu : ∀ o g, o < G → cutMu G μ o g = μ o g := fun o g h => by unfold cutMu; rw [if_pos h]
  have hlt : ∀ {o : Nat} {a : AO}, G0[o]? = some a → o < G := fun h => by
    have := (List.getElem?_eq_some_iff.1 h).1; omega
  refine ⟨fun o a ho hl => ?_, fun o o' a a' b δ δ' ho ho' hr hl hl' h1 h2 => ?_, fun o g x hx => ?_, fun o g b δ hb => ?_, fun g hg => ?_, fun o b δ hb => ?_, fun g e cs hg ho => hs.full g e cs hg (by rw [glob_at ht (by omega)]; exact ho)⟩
  · obtain ⟨hr, e, cs, hk, hb⟩ := okGlob_at hG ho hl
    have ho' : σ[o]? = some a := by rw [glob_at ht (by have := hlt ho; omega)]; exact ho
    obtain ⟨b, δ, h1, h2⟩ := hs.obj o a ho' hl
    refine ⟨b, δ, by rw [hmu _ _ (hlt ho)]; exact h1, ?_⟩
    unfold ORel at h2 ⊢
    rw [hk] at h2 ⊢
    obtain ⟨ccs, fr, q1, q2, q3, q4⟩ := h2
    refine ⟨ccs, fr, q1, q2, fun j c hj => ?_, q4⟩
    obtain ⟨v, r1, r2⟩ := q3 j c hj
    exact ⟨v, r1, VRel.under hmu c v (unders_mem hb (List.mem_of_getElem? hj)) r2⟩
  · rw [(okGlob_at hG ho hl).1] at hr; cases hr
  · unfold cutMu at hx
    split at hx
    · rename_i h
      obtain ⟨a, h1, h2⟩ := hs.dom o g x hx
      exact ⟨a, by rw [← glob_at ht (by omega)]; exact h1, h2⟩
    · cases hx
  · unfold cutMu at hb
    split at hb
    · exact hs.blk o g b δ hb
    · cases hb
  · rw [hmu _ _ hg]; exact hs.glob g hg
  · unfold cutMu at hb
    split at hb
    · exact hs.low _ _ _ hb
    · cases hb
/-- A function of plain values, that leaves nothing behind. -/
theorem lift_pure {X : Ctx} (hX : X.Sound G) (hG : okGlob G G0 = true) {f : Nat} {args : List AV} {v : AV} (h : CallF X f args G0 fun a s => a = v ∧ s = G0) (hfa : AV.flats args = true) (hfv : v.flat = true)
    (ht : σ.take G0.length = G0) (hs : Sim G μ σ w) {cargs : Array Value} (hr : VRels μ w args cargs.toList) : Does X.P f cargs w (After G μ σ w v σ) := by
  refine (h.ev.does hX (hs.cut hG ht) (VRels.flat _ _ hfa hr)).mono fun e w' ha => ?_
  obtain ⟨r, σ', ⟨rfl, rfl⟩, u, μ1, rfl, hu, hst⟩ := ha
  have hb := hst.below fun o a ho hr hl => by rw [(okGlob_at hG ho hl).1] at hr; cases hr
  exact ⟨u, μ, rfl, VRel.flat _ _ hfv hu, Step.of_below hs hb⟩
end

/-- A function's law: what it comes to at plain values. -/
structure Law (X : Ctx) (G0 : St) where
  f : Nat
  g : List AV → Option AV
  ok : ∀ args v, g args = some v → AV.flats args = true ∧ v.flat = true ∧ CallF X f args G0 fun a s => a = v ∧ s = G0
def lawAt {X : Ctx} {G0 : St} (f : Nat) : List (Law X G0) → Option (Law X G0)
  | [] => none
  | l :: ls => if l.f = f then some l else lawAt f ls
theorem lawAt_f {X : Ctx} {G0 : St} {f : Nat} : ∀ {l : List (Law X G0)} {a : Law X G0}, lawAt f l = some a → a.f = f
  | b :: l, a, h => by
    simp only [lawAt] at h
    split at h
    · rename_i hb; cases h; exact hb
    · exact lawAt_f h
/-- A context that knows these laws. -/
@[reducible] def Ctx.knows (X : Ctx) (G0 : St) (l : List (Law X G0)) : Ctx := ⟨X.P, X.fns, fun f => match lawAt f l with
  | some a => some fun args σ => if stEqv (σ.take G0.length) G0 then (a.g args).map (·, σ) else none
  | none => X.prim f, X.meth⟩
theorem Ctx.knows_sound {X : Ctx} {G : Nat} {G0 : St} (hX : X.Sound G) (hG : okGlob G G0 = true) (l : List (Law X G0)) : (X.knows G0 l).Sound G where
  draws := hX.draws
  fns := fun f F hp hf => hX.fns f F (by
    have hp' : (match lawAt f l with
      | some a => some fun (args : List AV) (σ : St) => if stEqv (σ.take G0.length) G0 then (a.g args).map (·, σ) else none
      | none => X.prim f) = none := hp
    split at hp'
    · cases hp'
    · exact hp') hf
  ok := {
    meth := hX.ok.meth
    prim := by
      intro f g hf args σ r σ' hg μ w cargs hs hr
      have hf' : (match lawAt f l with
        | some a => some fun (args : List AV) (σ : St) => if stEqv (σ.take G0.length) G0 then (a.g args).map (·, σ) else none
        | none => X.prim f) = some g := hf
      split at hf'
      · rename_i a ha
        obtain rfl := lawAt_f ha
        cases hf'
        simp only at hg
        split at hg
        · rename_i he
          rw [Option.map_eq_some_iff] at hg
          obtain ⟨v, hv, hg⟩ := hg
          cases hg
          obtain ⟨h1, h2, h3⟩ := a.ok args r hv
          exact lift_pure hX hG h3 h1 h2 (stEqv_eq _ _ he) hs hr
        · cases hg
      · exact hX.ok.prim f g hf' args σ r σ' hg μ w cargs hs hr }
theorem CallF.law {X : Ctx} {G0 : St} {l : List (Law X G0)} {f : Nat} {args : List AV} {σ : St} {Q : AV → St → Prop} (a : Law X G0) (ha : lawAt f l = some a) {v : AV} (hv : a.g args = some v) (ht : σ.take G0.length = G0) (q : Q v σ) : CallF (X.knows G0 l) f args σ Q := by
  constructor
  rw [EvF_prim (g := fun args σ => if stEqv (σ.take G0.length) G0 then (a.g args).map (·, σ) else none) (by simp only [Ctx.knows, ha])]
  exact ⟨(v, σ), by simp [ht, hv], q⟩
theorem aStore_at {τ : Tys} {t o g off e : Nat} {T : AT} {σ : St} {cs : List AV} {y : AV} (hT : τ t = some T) (ho : σ[o]? = some ⟨g, false, .cells e cs⟩) (hl : y.cells.length = T.size) (h1 : y.cells.all AV.one = true) (hc : off + T.size ≤ cs.length) :
    aStore (τ t) (.p o g off) y σ = some (σ.set o ⟨g, false, .cells e (setCells cs off y.cells)⟩) := by
  rw [hT]
  simp only [aStore, ho]
  rw [if_pos ⟨trivial, trivial, hl, h1, hc⟩]
theorem aStore_to {τ : Tys} {t o g off e : Nat} {T : AT} {σ : St} {cs : List AV} {y : AV} (cs' : List AV) (hT : τ t = some T) (ho : σ[o]? = some ⟨g, false, .cells e cs⟩) (hl : y.cells.length = T.size) (h1 : y.cells.all AV.one = true) (hc : off + T.size ≤ cs.length) (hs : setCells cs off y.cells = cs') :
    aStore (τ t) (.p o g off) y σ = some (σ.set o ⟨g, false, .cells e cs'⟩) := by
  rw [← hs]; exact aStore_at hT ho hl h1 hc
theorem cellsAt_of {σ : St} {o g e : Nat} {ro : Bool} {cs : List AV} (ho : σ[o]? = some ⟨g, ro, .cells e cs⟩) : cellsAt σ o g = some cs := by simp [cellsAt, ho]
theorem get_new (e : Nat) (cs : List AV) (σ : St) : (newCells e cs σ)[σ.length]? = some ⟨0, false, .cells e cs⟩ := by simp [newCells]
theorem get_old {e : Nat} {cs : List AV} {σ : St} {o : Nat} (h : o < σ.length) : (newCells e cs σ)[o]? = σ[o]? := by rw [newCells, List.getElem?_append_left h]
theorem get_set {σ : St} {o : Nat} (a : AO) (h : o < σ.length) : (σ.set o a)[o]? = some a := by simp [h]
theorem len_new (e : Nat) (cs : List AV) (σ : St) : (newCells e cs σ).length = σ.length + 1 := by simp [newCells]
theorem cellsAt_new (e : Nat) (cs : List AV) (σ : St) : cellsAt (newCells e cs σ) σ.length 0 = some cs := by simp [cellsAt, newCells]
theorem take_new (e : Nat) (cs : List AV) (σ : St) (n : Nat) (h : n ≤ σ.length) : (newCells e cs σ).take n = σ.take n := by simp [newCells, List.take_append, Nat.sub_eq_zero_of_le h]
/-- A store that has all that another has, and more. -/
structure Ext (σ σ' : St) : Prop where
  len : σ.length ≤ σ'.length
  old : ∀ i, i < σ.length → σ'[i]? = σ[i]?
theorem Ext.refl (σ : St) : Ext σ σ := ⟨Nat.le_refl _, fun _ _ => rfl⟩
theorem Ext.trans {a b c : St} (h : Ext a b) (k : Ext b c) : Ext a c := ⟨Nat.le_trans h.len k.len, fun i hi => by rw [k.old i (Nat.lt_of_lt_of_le hi h.len), h.old i hi]⟩
theorem Ext.new {σ σ' : St} (h : Ext σ σ') (e : Nat) (cs : List AV) : Ext σ (newCells e cs σ') := ⟨by rw [len_new]; have := h.len; omega, fun i hi => by rw [get_old (by have := h.len; omega), h.old i hi]⟩
theorem Ext.set {σ σ' : St} (h : Ext σ σ') {o : Nat} (ho : σ.length ≤ o) (a : AO) : Ext σ (σ'.set o a) := ⟨by rw [List.length_set]; exact h.len, fun i hi => by rw [List.getElem?_set_ne (by omega), h.old i hi]⟩
theorem Ext.take {σ σ' : St} (h : Ext σ σ') : σ'.take σ.length = σ := by
  apply List.ext_getElem?
  intro i
  rw [List.getElem?_take]
  split
  · rename_i hi; exact h.old i hi
  · rename_i hi; exact (List.getElem?_eq_none (by omega)).symm
theorem Ext.get {σ σ' : St} (h : Ext σ σ') {o : Nat} {a : AO} (ho : σ[o]? = some a) : σ'[o]? = some a := by rw [h.old o (List.getElem?_eq_some_iff.1 ho).1]; exact ho
theorem lt_at {σ : St} {o : Nat} {a : AO} (h : σ[o]? = some a) : o < σ.length := (List.getElem?_eq_some_iff.1 h).1
theorem at_new {σ : St} {o : Nat} {a : AO} (h : σ[o]? = some a) (e : Nat) (cs : List AV) : (newCells e cs σ)[o]? = some a := by rw [get_old (lt_at h)]; exact h
theorem at_ne {σ : St} {o o' : Nat} {a : AO} (h : σ[o]? = some a) (hn : o' ≠ o) (b : AO) : (σ.set o' b)[o]? = some a := by rw [List.getElem?_set_ne hn]; exact h
theorem at_set {σ : St} {o : Nat} {a : AO} (h : σ[o]? = some a) (b : AO) : (σ.set o b)[o]? = some b := get_set b (lt_at h)
theorem ownAt_of {σ : St} {o g e : Nat} {cs : List AV} (h : σ[o]? = some ⟨g, false, .cells e cs⟩) : ownAt σ o g e = some cs := by simp [ownAt, h]
theorem srcCells_at {σ : St} {o g off n z e : Nat} {ro : Bool} {cs : List AV} (h : σ[o]? = some ⟨g, ro, .cells e cs⟩) (hl : off + n * z ≤ cs.length) : srcCells z (.sl o g off n z) σ = some (n, (cs.drop off).take (n * z)) := by
  simp [srcCells, cellsAt, h, hl]
theorem om_of {α : Type} {o : Option α} {v : α} {Q : α → Prop} (h : o = some v) (q : Q v) : om o Q := by rw [h]; exact q
theorem aLoad_at {τ : Tys} {t o g off : Nat} {T : AT} {σ : St} {cs : List AV} {v : AV} (hT : τ t = some T) (ha : T.d.agg = false) (ho : cellsAt σ o g = some cs) (hc : cs[off]? = some v) : aLoad (τ t) (.p o g off) σ = some v := by
  rw [hT]
  simp only [aLoad, ho, Option.bind_some, partOf, ha]
  exact hc
theorem aLoad_ag {τ : Tys} {t o g off : Nat} {T : AT} {σ : St} {cs : List AV} (hT : τ t = some T) (ha : T.d.agg = true) (ho : cellsAt σ o g = some cs) (hc : off + T.size ≤ cs.length) : aLoad (τ t) (.p o g off) σ = some (.ag ((cs.drop off).take T.size)) := by
  rw [hT]
  simp only [aLoad, ho, Option.bind_some, partOf, ha, if_true, hc]
end Go.Abs
/- The package-level variables, as far as they matter; operations and their fields. -/
namespace Go.Abs.YtkfcbgmamfnajaaGreatDoor
open Go.Proofs

def opRows : List (List UInt8 × List UInt8) := [([], []), ([108, 105], [97, 105]), ([108, 117, 105], [97, 106]), ([97, 100, 100], [97, 98, 99]), ([115, 117, 98], [97, 98, 99]), ([109, 117, 108], [97, 98, 99]), ([100, 105, 118], [97, 98, 99]), ([114, 101, 109], [97, 98, 99]), ([97, 110, 100], [97, 98, 99]), ([111, 114], [97, 98, 99]), ([120, 111, 114], [97, 98, 99]), ([115, 104, 108], [97, 98, 99]), ([115, 104, 114], [97, 98, 99]), ([108, 116], [97, 98, 99]), ([108, 116, 117], [97, 98, 99]), ([101, 113], [97, 98, 99]), ([97, 100, 100, 105], [97, 98, 105]), ([108, 98], [97, 98, 105]), ([108, 104], [97, 98, 105]), ([108, 119], [97, 98, 105]), ([115, 98], [97, 98, 105]), ([115, 104], [97, 98, 105]), ([115, 119], [97, 98, 105]), ([108, 99], [97, 98, 105]), ([115, 99], [97, 98, 105]), ([98, 101, 113], [97, 98, 105]), ([98, 110, 101], [97, 98, 105]), ([98, 108, 116], [97, 98, 105]), ([98, 103, 101], [97, 98, 105]), ([106, 97, 108], [97, 106]), ([106, 97, 108, 114], [97, 98]), ([109, 111, 118, 101], [97, 98]), ([105, 110, 99], [97, 98, 99]), ([105, 110, 99, 105], [97, 98, 105]), ([97, 100, 100, 114], [97, 98, 99]), ([115, 101, 116], [97, 98, 99]), ([101, 120, 97, 99, 116], [97, 98, 99]), ([97, 110, 100, 115], [97, 98, 99]), ([115, 101, 97, 108], [97, 98, 99]), ([111, 112, 101, 110], [97, 98, 99]), ([98, 117, 105, 108, 100], [97, 98, 99]), ([99, 108, 101, 97, 114], [97, 98]), ([103, 97, 100, 100, 114], [97, 98]), ([103, 98, 97, 115, 101], [97, 98]), ([103, 108, 101, 110], [97, 98]), ([103, 112, 101, 114, 109], [97, 98]), ([103, 116, 121, 112, 101], [97, 98]), ([103, 116, 97, 103], [97, 98]), ([105, 115, 105, 110, 116], [97, 98]), ([112, 99], [97, 106]), ([99, 97, 108, 108], [97, 98]), ([114, 101, 116], []), ([101, 99, 97, 108, 108], [105]), ([116, 114, 97, 112], [])]
def nameOf (op : Nat) : List UInt8 := (opRows.getD op ([], [])).1
def formOf (op : Nat) : List UInt8 := (opRows.getD op ([], [])).2
def cellsOfRow (r : List UInt8 × List UInt8) : List AV := [.s r.1, .s r.2]
def rowC : List AV := opRows.flatMap cellsOfRow
/-- Whether the row lists errors.errorType: m is odd; what MaxLen holds: m's half. -/
def et0 (m : Int) : List AV := match decide (m % 2 = 1) with
  | true => [.ic 165 (.ag [.p 10 0 33])]
  | false => [.u]
def G0 (m : Int) : St := [⟨0, true, .cells 132 (et0 m)⟩, ⟨0, true, .cells 146 rowC⟩, ⟨0, true, .cells 3 [.i .i64 (m / 2)]⟩, ⟨0, true, .cells 182 pow10C⟩, ⟨0, true, .dead⟩, ⟨0, true, .dead⟩,
  ⟨0, true, .cells 33 [.ic 206 .u]⟩, ⟨0, true, .cells 33 [.ic 206 .u]⟩, ⟨0, true, .dead⟩, ⟨0, true, .dead⟩, ⟨0, true, .dead⟩]
theorem okG0 (m : Int) : okGlob 11 (G0 m) = true := by
  unfold G0 et0
  cases decide (m % 2 = 1) <;> rfl
theorem row_take : ∀ (l : List (List UInt8 × List UInt8)) (i : Nat), i < l.length → ((l.flatMap cellsOfRow).drop (i * 2)).take 2 = [.s (l.getD i ([], [])).1, .s (l.getD i ([], [])).2]
  | [], i, h => by simp at h
  | r :: l, 0, _ => rfl
  | r :: l, i + 1, h => by
    have ih := row_take l i (by simpa using h)
    have e : (i + 1) * 2 = i * 2 + 1 + 1 := by omega
    rw [e]
    simpa [List.flatMap_cons, cellsOfRow] using ih
theorem rowC_take {i : Nat} (h : i < 54) : (rowC.drop (i * 2)).take 2 = [.s (nameOf i), .s (formOf i)] := row_take opRows i h
theorem rowC_len : rowC.length = 108 := by rfl
/-- What an operation's fields may be. -/
theorem form_cases (op : Nat) : formOf op = [] ∨ formOf op = [105] ∨ formOf op = [97, 98] ∨ formOf op = [97, 105] ∨ formOf op = [97, 106] ∨ formOf op = [97, 98, 99] ∨ formOf op = [97, 98, 105] := by
  have h : ∀ r ∈ ([], []) :: opRows, r.2 = [] ∨ r.2 = [105] ∨ r.2 = [97, 98] ∨ r.2 = [97, 105] ∨ r.2 = [97, 106] ∨ r.2 = [97, 98, 99] ∨ r.2 = [97, 98, 105] := by decide
  refine h _ ?_
  rw [List.getD_eq_getElem?_getD]
  cases hq : opRows[op]? with
  | none => exact List.mem_cons_self
  | some r => exact List.mem_cons_of_mem _ (List.mem_of_getElem? hq)
theorem name_beyond {op : Nat} (h : 54 ≤ op) : nameOf op = [] ∧ formOf op = [] := by
  have : opRows.getD op ([], []) = ([], []) := by
    rw [List.getD_eq_getElem?_getD, List.getElem?_eq_none (by exact h)]; rfl
  unfold nameOf formOf; rw [this]; exact ⟨rfl, rfl⟩
/-- A prim known, at a call. -/
theorem CallF.prim {X : Ctx} {f : Nat} {g : List AV → St → Option (AV × St)} {args : List AV} {σ σ' : St} {v : AV} {Q : AV → St → Prop} (hp : X.prim f = some g) (hg : g args σ = some (v, σ')) (q : Q v σ') : CallF X f args σ Q := by
  constructor
  rw [EvF_prim hp]
  exact ⟨(v, σ'), hg, q⟩
theorem CallF.under {X : Ctx} {G0 : St} {l : List (Law X G0)} {f : Nat} {g : List AV → St → Option (AV × St)} {args : List AV} {σ : St} {Q : AV → St → Prop} (hn : lawAt f l = none) (hp : X.prim f = some g) (h : CallF X f args σ Q) : CallF (X.knows G0 l) f args σ Q := by
  constructor
  have h1 := h.ev
  rw [EvF_prim hp] at h1
  rw [EvF_prim (g := g) (by simp only [Ctx.knows, hn]; exact hp)]
  exact h1
end Go.Abs.YtkfcbgmamfnajaaGreatDoor
/- The layer Abs, part 28: from a world that a call starts in to the layer's store, and back to a row. -/
namespace Go.Abs
open Go.RowKit Go.ChangeShapes

/-- 'returnsInHanded_of_change_and', the start's shape handed on. -/
theorem returns_shaped {H : Type} {enc : TypeId × Value → H} {a : Assume} {C : Checked} {os : Os} {f : FuncId} {fn : Func} {s : ChangeSpec} {conds : List PathCond} {apart fresh handsOn again : Bool} {X : World → Array Value → Prop}
    (hX : ∀ (w w' : World) (args : Array Value), w.heap = w'.heap → X w args → X w' args)
    (own : ownKnob C.prog.godebug = none) (started : os.Started) (noInit : C.prog.inits.idxOf? f = none) (hfn : C.prog.funcs[f]? = some fn)
    (witness : ∃ (w : World) (tape : Tape) (i : Input), w.os = os ∧ (w.forCall tape i).Shaped C.prog ∧ i.vars = [] ∧ Input.okWide C.prog (w.forCall tape i) .any w.heap.size f i ∧
      ((s.pre enc C.prog fn conds apart (w.forCall tape i).memory i.args ∧ X (w.forCall tape i).memory i.args) ∧ sizedMet enc C.prog fn (OpenSpec.ofChange s) apart (w.forCall tape i).memory i.args) ∧ a.holds C.prog (lone (Frame.enter C.prog f i.args .normal) [] (w.forCall tape i)))
    (contract : ∀ (W : World) (base : Nat) (args : Array Value) (ds gs : List (DataW H)) (before : List MemPlace), W.ShapedOpen C.prog →
      (∀ (j : Nat) t v, fn.params[j]? = some t → args[j]? = some v → Value.okWide C.prog W .any base t v) →
      DataW.Whole enc C.prog fn.params.toList s.vars apart W args.toList ds gs before → X W args →
      Calls C.prog f args W fun e W' => ∃ v, e = .returned v ∧ s.post enc C.prog fn apart fresh handsOn again W args v W') :
    ReturnsInHanded a C os f .any (fun w args => (s.pre enc C.prog fn conds apart w args ∧ X w args) ∧ sizedMet enc C.prog fn (OpenSpec.ofChange s) apart w args) (s.post enc C.prog fn apart fresh handsOn again) := by
  refine returnsInHanded_of_calls own started noInit witness ?_
  intro w tape i _ hsh _ hok hpre _
  obtain ⟨_, _, _, fn', hfn', _, _, _, _, hval⟩ := hok
  have e : fn' = fn := Option.some.inj (hfn'.symm.trans hfn)
  subst e
  obtain ⟨⟨⟨ds, gs, before, hw, _⟩, hx⟩, _⟩ := hpre
  have hw' := DataW.Whole.of_heap (w' := w.forCall tape i) (by rfl) hw
  refine (contract (w.forCall tape i) w.heap.size i.args ds gs before hsh hval hw' (hX _ _ _ (by rfl) hx)).mono fun e W' ⟨v, he, hp⟩ => ?_
  subst he
  exact ChangeSpec.post_blind hp

/-- A listed variable's cells. -/
theorem laid_reads {P : Program} {w : World} : ∀ {l : List (String × DataW Unit)} {ps : List MemPlace}, DataW.LaidVars P w l ps → ∀ n d, (n, d) ∈ l → ∃ g t cs fuel p, P.globalNamed n = some g ∧ (P.globals[g]?).map (·.type) = some t ∧ w.var? P n = some cs ∧ DataW.trod (fun _ => ()) P w 0 (fun _ => true) false fuel t cs.toList = some (d, p)
  | [], _, _, _, _, hm => by cases hm
  | (n', d') :: r, ps, h, n, d, hm => by
    obtain ⟨g, t, cs, fuel, p, q, h1, h2, h3, h4, h5, _⟩ := h
    rcases List.mem_cons.1 hm with e | e
    · cases e
      exact ⟨g, t, cs, fuel, p, h1, h2, h3, h4⟩
    · exact laid_reads h5 n d e
theorem var_heap {P : Program} {w : World} {n : String} {g : Nat} {cs : Array Value} (hg : P.globalNamed n = some g) (h : w.var? P n = some cs) : ∃ t fr, w.heap[g]? = some (.cells cs t fr) := by
  simp only [World.var?, hg, Option.bind_some] at h
  split at h
  · rename_i cs' t fr hh; cases h; exact ⟨t, fr, hh⟩
  · cases h
/-- What the start's shape tells of a variable's block. -/
theorem shape_row {P : Program} {w : World} (h : w.ShapedOpen P) {g t : Nat} (hg : g < P.globals.size) (hr : (((begin P (fun _ _ => 0) default).world.heap[g]?).bind Obj.row?).map (·.2) = some t) : ∃ cs fr, w.heap[g]? = some (.cells cs t fr) := by
  rw [Option.map_eq_some_iff] at hr
  obtain ⟨⟨zero, t'⟩, h1, rfl⟩ := hr
  obtain ⟨cs, h2, _⟩ := h.1 g zero t' hg h1
  exact ⟨cs, _, h2⟩
theorem shape_last {P : Program} {w : World} (h : w.ShapedOpen P) {k : Nat} (h1 : P.globals.size ≤ k) (h2 : k < (begin P (fun _ _ => 0) default).world.heap.size) : k < w.heap.size := by
  obtain ⟨o, o0, h3, _⟩ := h.2 k h1 h2
  exact (Array.getElem?_eq_some_iff.1 h3).1
/-- What a call tells of the world, where nothing old could be written. -/
theorem after_below {G : Nat} {μ : Mu} {σ σ' : St} {w w' : World} {r : AV} {e : Ending} (hG : okGlob G σ = true) (h : After G μ σ w r σ' e w') : ∃ v μ', e = .returned v ∧ VRel μ' w' r v ∧ Below w.heap.size w w' := by
  obtain ⟨v, μ', h1, h2, h3⟩ := h
  exact ⟨v, μ', h1, h2, h3.below fun o a ho hr hl => by rw [(okGlob_at hG ho hl).1] at hr; cases hr⟩
/-- Where the package-level variables lie. -/
def mu0 (G : Nat) : Mu := fun o g => if o < G ∧ g = 0 then some (o, 0) else none
end Go.Abs
/- Operations' names and fields, as functions. -/
namespace Go.Abs.YtkfcbgmamfnajaaGreatDoor
open Go.Proofs
set_option maxRecDepth 4000

def nameI (op : Int) : List UInt8 := if op < 0 then [] else nameOf op.toNat
def formI (op : Int) : List UInt8 := if op < 0 then [] else formOf op.toNat
theorem of_to (m op : Int) : CallF XB 77 [.i .i64 op] (G0 m) fun v s => v = .ag [.s (nameI op), .s (formI op)] ∧ s = G0 m := by
  unfold nameI formI
  refine CallF.body (F := F77) tyB_ok (lit := true) rfl rfl (Nat.le_of_ble_eq_true rfl) ?_
  conv => whnf
  by_cases h0 : op < 0
  · rw [decide_eq_true h0, if_pos h0, if_pos h0]
    conv => whnf
    exact Fin.flat rfl rfl ⟨rfl, rfl⟩
  · rw [decide_eq_false h0, if_neg h0, if_neg h0]
    conv => whnf
    by_cases h1 : 53 < op
    · rw [decide_eq_true h1, (name_beyond (op := op.toNat) (by omega)).1, (name_beyond (op := op.toNat) (by omega)).2]
      conv => whnf
      exact Fin.flat rfl rfl ⟨rfl, rfl⟩
    · rw [decide_eq_false h1]
      conv => whnf
      refine ⟨op.toNat, by omega, by omega, ?_⟩
      conv => whnf
      have h2 := rowC_take (i := op.toNat) (by omega)
      refine om_of (v := .ag [.s (nameOf op.toNat), .s (formOf op.toNat)]) (Eq.trans (aLoad_ag (T := yT113) (o := 1) (g := 0) (off := 0 + op.toNat * 2) (cs := rowC) rfl rfl rfl (by rw [rowC_len]; show 0 + op.toNat * 2 + 2 ≤ 108; omega)) ?_) ?_
      · show some (AV.ag ((rowC.drop (0 + op.toNat * 2)).take 2)) = _
        rw [Nat.zero_add, h2]
      · conv => whnf
        exact Fin.flat rfl rfl ⟨rfl, rfl⟩
theorem name_to (m op : Int) : CallF XB 32 [.i .i64 op] (G0 m) fun v s => v = .s (nameI op) ∧ s = G0 m := by
  refine CallF.body (F := F32) tyB_ok (lit := true) rfl rfl (Nat.le_of_ble_eq_true rfl) ?_
  conv => whnf
  refine CallF.to (of_to m op) ?_
  conv => whnf
  exact Fin.flat rfl rfl ⟨rfl, rfl⟩
theorem form_to (m op : Int) : CallF XB 33 [.i .i64 op] (G0 m) fun v s => v = .s (formI op) ∧ s = G0 m := by
  refine CallF.body (F := F33) tyB_ok (lit := true) rfl rfl (Nat.le_of_ble_eq_true rfl) ?_
  conv => whnf
  refine CallF.to (of_to m op) ?_
  conv => whnf
  exact Fin.flat rfl rfl ⟨rfl, rfl⟩
end Go.Abs.YtkfcbgmamfnajaaGreatDoor
/- The operation of a name. -/
namespace Go.Abs.YtkfcbgmamfnajaaGreatDoor
open Go.Proofs
set_option maxRecDepth 4000

def opFrom (n : List UInt8) : List (List UInt8 × List UInt8) → Nat → Nat
  | [], _ => 0
  | r :: l, k => if r.1 = n ∧ n ≠ [] then k else opFrom n l (k + 1)
def opOf (n : List UInt8) : Nat := opFrom n opRows 0
set_option maxHeartbeats 16000000 in
theorem op_loop (m : Int) (n : List UInt8) (Q : Out → Env → St → Prop) (h1 : opOf n = 0 → ∀ e' σ', Ext (G0 m) σ' → Q (.exit 0) e' σ') (h2 : ∀ e' σ', get e' 2 = .i .i64 (opOf n) → Ext (G0 m) σ' → Q .ret e' σ') :
    ∀ (l : List (List UInt8 × List UInt8)) (k : Nat) (σ : St), opRows.drop k = l → opFrom n l k = opOf n → k ≤ 54 → Ext (G0 m) σ → LoopF XB [0, 5, 6] c66L0 [(0, .s n), (5, .ag rowC), (6, .i .i64 k)] σ Q := by
  intro l
  induction l with
  | nil =>
    intro k σ hl ho hk hx
    have hk54 : 54 ≤ k := by
      have := congrArg List.length hl
      rw [List.length_drop] at this
      have e : opRows.length = 54 := rfl
      simp [e] at this; omega
    refine LoopF.round tyB_ok (lit := false) ?_
    conv => whnf
    rw [decide_eq_false (by omega)]
    conv => whnf
    exact h1 ho.symm _ _ hx
  | cons r l ih =>
    intro k σ hl ho hk hx
    have e : opRows.length = 54 := rfl
    have hk54 : k < 54 := by
      have := congrArg List.length hl
      rw [List.length_drop, e] at this
      simp at this; omega
    have hr : opRows.getD k ([], []) = r := by
      rw [List.getD_eq_getElem?_getD]
      have := congrArg (fun x => x[0]?) hl
      simp at this
      rw [this]; rfl
    have hl' : opRows.drop (k + 1) = l := by
      have := congrArg List.tail hl
      simpa using this
    have h3 := rowC_take hk54
    unfold nameOf formOf at h3
    rw [hr] at h3
    refine LoopF.round tyB_ok (lit := false) ?_
    conv => whnf
    rw [decide_eq_true (by omega)]
    conv => whnf
    refine ⟨k, rfl, hk54, om_of (v := yT113) rfl (om_of (v := .ag [.s r.1, .s r.2]) ?_ ?_)⟩
    · show partOf yT113 rowC (k * 2) = _
      unfold partOf
      rw [if_pos (show yT113.d.agg = true from rfl)]
      show (if k * 2 + 2 ≤ rowC.length then some (AV.ag ((rowC.drop (k * 2)).take 2)) else none) = _
      rw [rowC_len, if_pos (by omega), h3]
    conv => whnf
    refine om_of (aStore_to (o := σ.length) (g := 0) (off := 0) (e := 113) (T := yT113) (cs := yT113.zero.cells) (σ := newCells 113 yT113.zero.cells σ) (y := .ag [.s r.1, .s r.2]) [.s r.1, .s r.2] rfl (get_new _ _ _) rfl rfl (Nat.le_of_ble_eq_true rfl) rfl) ?_
    conv => whnf
    have hg : ((newCells 113 yT113.zero.cells σ).set σ.length ⟨0, false, .cells 113 [.s r.1, .s r.2]⟩)[σ.length]? = some ⟨0, false, .cells 113 [.s r.1, .s r.2]⟩ := at_set (get_new _ _ _) _
    have hx' : Ext (G0 m) ((newCells 113 yT113.zero.cells σ).set σ.length ⟨0, false, .cells 113 [.s r.1, .s r.2]⟩) := (hx.new _ _).set hx.len _
    refine om_of (aLoad_at (T := yT9) rfl rfl (cellsAt_of hg) rfl) ?_
    conv => whnf
    have hw1 : IntKind.i64.wrap ((k : Int) + 1) = (k + 1 : Nat) := by rw [wrap_i64 (by omega) (by omega)]; omega
    have hnext : opFrom n l (k + 1) = opOf n → LoopF XB [0, 5, 6] c66L0 [(0, .s n), (5, .ag rowC), (6, .i .i64 (k + 1 : Nat))] ((newCells 113 yT113.zero.cells σ).set σ.length ⟨0, false, .cells 113 [.s r.1, .s r.2]⟩) Q := fun h => ih (k + 1) _ hl' h (by omega) hx'
    unfold opFrom at ho
    cases hn1 : r.1 == n with
    | true =>
      have hn1' := eq_of_beq hn1
      conv => whnf
      cases hn2 : n == [] with
      | true =>
        have hn2' := eq_of_beq hn2
        conv => whnf
        rw [if_neg (fun h => h.2 hn2')] at ho
        refine ⟨_, hw1, ?_⟩
        conv => whnf
        exact hnext ho
      | false =>
        have hn2' : n ≠ [] := fun h => by rw [h] at hn2; cases hn2
        conv => whnf
        rw [if_pos ⟨hn1', hn2'⟩] at ho
        exact h2 _ _ (by rw [← ho]; rfl) hx'
    | false =>
      conv => whnf
      have hn1' : r.1 ≠ n := fun h => by rw [h] at hn1; simp at hn1
      rw [if_neg (fun h => hn1' h.1)] at ho
      refine ⟨_, hw1, ?_⟩
      conv => whnf
      exact hnext ho
theorem op_to (m : Int) (n : List UInt8) : CallF XB 66 [.s n] (G0 m) fun v s => v = .i .i64 (opOf n) ∧ s = G0 m := by
  refine CallF.body (F := F66) tyB_ok (lit := true) rfl rfl (Nat.le_of_ble_eq_true rfl) ?_
  conv => whnf
  refine op_loop m n _ (fun h e' σ' hx => ?_) (fun e' σ' he hx => ?_) opRows 0 (G0 m) rfl rfl (by omega) (Ext.refl _)
  · conv => whnf
    exact Fin.flat rfl hx.take ⟨by rw [h]; rfl, rfl⟩
  · conv => whnf
    rw [he]
    conv => whnf
    exact Fin.flat rfl hx.take ⟨rfl, rfl⟩
end Go.Abs.YtkfcbgmamfnajaaGreatDoor
/- Instructions as words. -/
namespace Go.Abs.YtkfcbgmamfnajaaGreatDoor
open Go.Proofs
set_option maxRecDepth 4000

def lawName (m : Int) : Law XB (G0 m) := ⟨32, fun | [.i .i64 op] => some (.s (nameI op)) | _ => none, fun args v h => by
  split at h
  · cases h; exact ⟨rfl, rfl, name_to m _⟩
  · cases h⟩
def lawForm (m : Int) : Law XB (G0 m) := ⟨33, fun | [.i .i64 op] => some (.s (formI op)) | _ => none, fun args v h => by
  split at h
  · cases h; exact ⟨rfl, rfl, form_to m _⟩
  · cases h⟩
def lawOp (m : Int) : Law XB (G0 m) := ⟨66, fun | [.s n] => some (.i .i64 (opOf n)) | _ => none, fun args v h => by
  split at h
  · cases h; exact ⟨rfl, rfl, op_to m _⟩
  · cases h⟩
@[reducible] noncomputable def X1 (m : Int) : Ctx := XB.knows (G0 m) [lawName m, lawForm m, lawOp m]
theorem X1_sound (m : Int) : (X1 m).Sound 11 := XB.knows_sound XB_sound (okG0 m) _

def insV (op a b c i : Int) : AV := .ag [.i .i64 op, .i .i64 a, .i .i64 b, .i .i64 c, .i .i64 i]
/-- The store while an instruction is put together. -/
def SE (m : Int) (f : List AV) (w : Int) (wr : Bool) (l : List UInt8) (p : Nat) : St := G0 m ++ [⟨0, false, .cells 45 f⟩, ⟨0, false, .cells 22 [.i .u32 w]⟩, ⟨0, false, .cells 4 [.b wr]⟩, ⟨0, false, .iter l p⟩]
def andU (x y : Int) : Int := IntKind.u32.wrap (BitVec.ofInt 32 x &&& BitVec.ofInt 32 y).toNat
def orU (x y : Int) : Int := IntKind.u32.wrap (BitVec.ofInt 32 x ||| BitVec.ofInt 32 y).toNat
def putW (at_ : Nat) (mask w v : Int) : Int := orU w (IntKind.u32.wrap (andU (IntKind.u32.wrap v) mask * 2 ^ at_))
theorem put_a (m op a b c i w : Int) (wr : Bool) (l : List UInt8) (p : Nat) (Q : AV → St → Prop)
    (q : Q (.tu []) (SE m [.i .i64 op, .i .i64 0, .i .i64 b, .i .i64 c, .i .i64 i] (putW 20 15 w a) (wr || decide (a < 0) || decide (16 ≤ a)) l p)) :
    CallF (X1 m) 74 [.p 11 0 1, .i .i64 20, .i .i64 4, .b false, .p 13 0 0, .p 12 0 0] (SE m [.i .i64 op, .i .i64 a, .i .i64 b, .i .i64 c, .i .i64 i] w wr l p) Q := by
  refine CallF.body (F := F74) tyB_ok (lit := true) rfl rfl (Nat.le_of_ble_eq_true rfl) ?_
  conv => whnf
  refine ⟨by decide, 16, by decide, ?_⟩
  conv => whnf
  cases wr
  · conv => whnf
    cases h1 : decide (a < 0)
    · conv => whnf
      cases h2 : decide (16 ≤ a)
      · rw [h1, h2] at q
        conv => whnf
        refine ⟨by decide, 16, by decide, ?_⟩
        conv => whnf
        refine ⟨15, by decide, ?_⟩
        conv => whnf
        refine ⟨_, rfl, ?_⟩
        conv => whnf
        refine ⟨rfl, ?_⟩
        conv => whnf
        refine ⟨by decide, _, rfl, ?_⟩
        conv => whnf
        exact Fin.same rfl q
      · rw [h1, h2] at q
        conv => whnf
        refine ⟨by decide, 16, by decide, ?_⟩
        conv => whnf
        refine ⟨15, by decide, ?_⟩
        conv => whnf
        refine ⟨_, rfl, ?_⟩
        conv => whnf
        refine ⟨rfl, ?_⟩
        conv => whnf
        refine ⟨by decide, _, rfl, ?_⟩
        conv => whnf
        exact Fin.same rfl q
    · rw [h1] at q
      conv => whnf
      refine ⟨by decide, 16, by decide, ?_⟩
      conv => whnf
      refine ⟨15, by decide, ?_⟩
      conv => whnf
      refine ⟨_, rfl, ?_⟩
      conv => whnf
      refine ⟨rfl, ?_⟩
      conv => whnf
      refine ⟨by decide, _, rfl, ?_⟩
      conv => whnf
      exact Fin.same rfl q
  · conv => whnf
    refine ⟨by decide, 16, by decide, ?_⟩
    conv => whnf
    refine ⟨15, by decide, ?_⟩
    conv => whnf
    refine ⟨_, rfl, ?_⟩
    conv => whnf
    refine ⟨rfl, ?_⟩
    conv => whnf
    refine ⟨by decide, _, rfl, ?_⟩
    conv => whnf
    exact Fin.same rfl q
theorem put_b (m op a b c i w : Int) (wr : Bool) (l : List UInt8) (p : Nat) (Q : AV → St → Prop)
    (q : Q (.tu []) (SE m [.i .i64 op, .i .i64 a, .i .i64 0, .i .i64 c, .i .i64 i] (putW 16 15 w b) (wr || decide (b < 0) || decide (16 ≤ b)) l p)) :
    CallF (X1 m) 74 [.p 11 0 2, .i .i64 16, .i .i64 4, .b false, .p 13 0 0, .p 12 0 0] (SE m [.i .i64 op, .i .i64 a, .i .i64 b, .i .i64 c, .i .i64 i] w wr l p) Q := by
  refine CallF.body (F := F74) tyB_ok (lit := true) rfl rfl (Nat.le_of_ble_eq_true rfl) ?_
  conv => whnf
  refine ⟨by decide, 16, by decide, ?_⟩
  conv => whnf
  cases wr
  · conv => whnf
    cases h1 : decide (b < 0)
    · conv => whnf
      cases h2 : decide (16 ≤ b)
      · rw [h1, h2] at q
        conv => whnf
        refine ⟨by decide, 16, by decide, ?_⟩
        conv => whnf
        refine ⟨15, by decide, ?_⟩
        conv => whnf
        refine ⟨_, rfl, ?_⟩
        conv => whnf
        refine ⟨rfl, ?_⟩
        conv => whnf
        refine ⟨by decide, _, rfl, ?_⟩
        conv => whnf
        exact Fin.same rfl q
      · rw [h1, h2] at q
        conv => whnf
        refine ⟨by decide, 16, by decide, ?_⟩
        conv => whnf
        refine ⟨15, by decide, ?_⟩
        conv => whnf
        refine ⟨_, rfl, ?_⟩
        conv => whnf
        refine ⟨rfl, ?_⟩
        conv => whnf
        refine ⟨by decide, _, rfl, ?_⟩
        conv => whnf
        exact Fin.same rfl q
    · rw [h1] at q
      conv => whnf
      refine ⟨by decide, 16, by decide, ?_⟩
      conv => whnf
      refine ⟨15, by decide, ?_⟩
      conv => whnf
      refine ⟨_, rfl, ?_⟩
      conv => whnf
      refine ⟨rfl, ?_⟩
      conv => whnf
      refine ⟨by decide, _, rfl, ?_⟩
      conv => whnf
      exact Fin.same rfl q
  · conv => whnf
    refine ⟨by decide, 16, by decide, ?_⟩
    conv => whnf
    refine ⟨15, by decide, ?_⟩
    conv => whnf
    refine ⟨_, rfl, ?_⟩
    conv => whnf
    refine ⟨rfl, ?_⟩
    conv => whnf
    refine ⟨by decide, _, rfl, ?_⟩
    conv => whnf
    exact Fin.same rfl q
theorem put_c (m op a b c i w : Int) (wr : Bool) (l : List UInt8) (p : Nat) (Q : AV → St → Prop)
    (q : Q (.tu []) (SE m [.i .i64 op, .i .i64 a, .i .i64 b, .i .i64 0, .i .i64 i] (putW 12 15 w c) (wr || decide (c < 0) || decide (16 ≤ c)) l p)) :
    CallF (X1 m) 74 [.p 11 0 3, .i .i64 12, .i .i64 4, .b false, .p 13 0 0, .p 12 0 0] (SE m [.i .i64 op, .i .i64 a, .i .i64 b, .i .i64 c, .i .i64 i] w wr l p) Q := by
  refine CallF.body (F := F74) tyB_ok (lit := true) rfl rfl (Nat.le_of_ble_eq_true rfl) ?_
  conv => whnf
  refine ⟨by decide, 16, by decide, ?_⟩
  conv => whnf
  cases wr
  · conv => whnf
    cases h1 : decide (c < 0)
    · conv => whnf
      cases h2 : decide (16 ≤ c)
      · rw [h1, h2] at q
        conv => whnf
        refine ⟨by decide, 16, by decide, ?_⟩
        conv => whnf
        refine ⟨15, by decide, ?_⟩
        conv => whnf
        refine ⟨_, rfl, ?_⟩
        conv => whnf
        refine ⟨rfl, ?_⟩
        conv => whnf
        refine ⟨by decide, _, rfl, ?_⟩
        conv => whnf
        exact Fin.same rfl q
      · rw [h1, h2] at q
        conv => whnf
        refine ⟨by decide, 16, by decide, ?_⟩
        conv => whnf
        refine ⟨15, by decide, ?_⟩
        conv => whnf
        refine ⟨_, rfl, ?_⟩
        conv => whnf
        refine ⟨rfl, ?_⟩
        conv => whnf
        refine ⟨by decide, _, rfl, ?_⟩
        conv => whnf
        exact Fin.same rfl q
    · rw [h1] at q
      conv => whnf
      refine ⟨by decide, 16, by decide, ?_⟩
      conv => whnf
      refine ⟨15, by decide, ?_⟩
      conv => whnf
      refine ⟨_, rfl, ?_⟩
      conv => whnf
      refine ⟨rfl, ?_⟩
      conv => whnf
      refine ⟨by decide, _, rfl, ?_⟩
      conv => whnf
      exact Fin.same rfl q
  · conv => whnf
    refine ⟨by decide, 16, by decide, ?_⟩
    conv => whnf
    refine ⟨15, by decide, ?_⟩
    conv => whnf
    refine ⟨_, rfl, ?_⟩
    conv => whnf
    refine ⟨rfl, ?_⟩
    conv => whnf
    refine ⟨by decide, _, rfl, ?_⟩
    conv => whnf
    exact Fin.same rfl q
theorem put_i (m op a b c i w : Int) (wr : Bool) (l : List UInt8) (p : Nat) (Q : AV → St → Prop)
    (q : Q (.tu []) (SE m [.i .i64 op, .i .i64 a, .i .i64 b, .i .i64 c, .i .i64 0] (putW 0 4095 w i) (wr || decide (i < (-2048)) || decide (2048 ≤ i)) l p)) :
    CallF (X1 m) 74 [.p 11 0 4, .i .i64 0, .i .i64 12, .b true, .p 13 0 0, .p 12 0 0] (SE m [.i .i64 op, .i .i64 a, .i .i64 b, .i .i64 c, .i .i64 i] w wr l p) Q := by
  refine CallF.body (F := F74) tyB_ok (lit := true) rfl rfl (Nat.le_of_ble_eq_true rfl) ?_
  conv => whnf
  refine ⟨by decide, 4096, by decide, ?_⟩
  conv => whnf
  refine ⟨11, by decide, ?_⟩
  conv => whnf
  refine ⟨by decide, -2048, by decide, ?_⟩
  conv => whnf
  refine ⟨11, by decide, ?_⟩
  conv => whnf
  refine ⟨by decide, 2048, by decide, ?_⟩
  conv => whnf
  cases wr
  · conv => whnf
    cases h1 : decide (i < (-2048))
    · conv => whnf
      cases h2 : decide (2048 ≤ i)
      · rw [h1, h2] at q
        conv => whnf
        refine ⟨by decide, 4096, by decide, ?_⟩
        conv => whnf
        refine ⟨4095, by decide, ?_⟩
        conv => whnf
        refine ⟨_, rfl, ?_⟩
        conv => whnf
        refine ⟨rfl, ?_⟩
        conv => whnf
        refine ⟨by decide, _, rfl, ?_⟩
        conv => whnf
        exact Fin.same rfl q
      · rw [h1, h2] at q
        conv => whnf
        refine ⟨by decide, 4096, by decide, ?_⟩
        conv => whnf
        refine ⟨4095, by decide, ?_⟩
        conv => whnf
        refine ⟨_, rfl, ?_⟩
        conv => whnf
        refine ⟨rfl, ?_⟩
        conv => whnf
        refine ⟨by decide, _, rfl, ?_⟩
        conv => whnf
        exact Fin.same rfl q
    · rw [h1] at q
      conv => whnf
      refine ⟨by decide, 4096, by decide, ?_⟩
      conv => whnf
      refine ⟨4095, by decide, ?_⟩
      conv => whnf
      refine ⟨_, rfl, ?_⟩
      conv => whnf
      refine ⟨rfl, ?_⟩
      conv => whnf
      refine ⟨by decide, _, rfl, ?_⟩
      conv => whnf
      exact Fin.same rfl q
  · conv => whnf
    refine ⟨by decide, 4096, by decide, ?_⟩
    conv => whnf
    refine ⟨4095, by decide, ?_⟩
    conv => whnf
    refine ⟨_, rfl, ?_⟩
    conv => whnf
    refine ⟨rfl, ?_⟩
    conv => whnf
    refine ⟨by decide, _, rfl, ?_⟩
    conv => whnf
    exact Fin.same rfl q
theorem put_j (m op a b c i w : Int) (wr : Bool) (l : List UInt8) (p : Nat) (Q : AV → St → Prop)
    (q : Q (.tu []) (SE m [.i .i64 op, .i .i64 a, .i .i64 b, .i .i64 c, .i .i64 0] (putW 0 1048575 w i) (wr || decide (i < (-524288)) || decide (524288 ≤ i)) l p)) :
    CallF (X1 m) 74 [.p 11 0 4, .i .i64 0, .i .i64 20, .b true, .p 13 0 0, .p 12 0 0] (SE m [.i .i64 op, .i .i64 a, .i .i64 b, .i .i64 c, .i .i64 i] w wr l p) Q := by
  refine CallF.body (F := F74) tyB_ok (lit := true) rfl rfl (Nat.le_of_ble_eq_true rfl) ?_
  conv => whnf
  refine ⟨by decide, 1048576, by decide, ?_⟩
  conv => whnf
  refine ⟨19, by decide, ?_⟩
  conv => whnf
  refine ⟨by decide, -524288, by decide, ?_⟩
  conv => whnf
  refine ⟨19, by decide, ?_⟩
  conv => whnf
  refine ⟨by decide, 524288, by decide, ?_⟩
  conv => whnf
  cases wr
  · conv => whnf
    cases h1 : decide (i < (-524288))
    · conv => whnf
      cases h2 : decide (524288 ≤ i)
      · rw [h1, h2] at q
        conv => whnf
        refine ⟨by decide, 1048576, by decide, ?_⟩
        conv => whnf
        refine ⟨1048575, by decide, ?_⟩
        conv => whnf
        refine ⟨_, rfl, ?_⟩
        conv => whnf
        refine ⟨rfl, ?_⟩
        conv => whnf
        refine ⟨by decide, _, rfl, ?_⟩
        conv => whnf
        exact Fin.same rfl q
      · rw [h1, h2] at q
        conv => whnf
        refine ⟨by decide, 1048576, by decide, ?_⟩
        conv => whnf
        refine ⟨1048575, by decide, ?_⟩
        conv => whnf
        refine ⟨_, rfl, ?_⟩
        conv => whnf
        refine ⟨rfl, ?_⟩
        conv => whnf
        refine ⟨by decide, _, rfl, ?_⟩
        conv => whnf
        exact Fin.same rfl q
    · rw [h1] at q
      conv => whnf
      refine ⟨by decide, 1048576, by decide, ?_⟩
      conv => whnf
      refine ⟨1048575, by decide, ?_⟩
      conv => whnf
      refine ⟨_, rfl, ?_⟩
      conv => whnf
      refine ⟨rfl, ?_⟩
      conv => whnf
      refine ⟨by decide, _, rfl, ?_⟩
      conv => whnf
      exact Fin.same rfl q
  · conv => whnf
    refine ⟨by decide, 1048576, by decide, ?_⟩
    conv => whnf
    refine ⟨1048575, by decide, ?_⟩
    conv => whnf
    refine ⟨_, rfl, ?_⟩
    conv => whnf
    refine ⟨rfl, ?_⟩
    conv => whnf
    refine ⟨by decide, _, rfl, ?_⟩
    conv => whnf
    exact Fin.same rfl q
end Go.Abs.YtkfcbgmamfnajaaGreatDoor
/- isa.Encode. -/
namespace Go.Abs.YtkfcbgmamfnajaaGreatDoor
open Go.Proofs
set_option maxRecDepth 4000

structure ES where
  w : Int
  wr : Bool
  a : Int
  b : Int
  c : Int
  i : Int
def eStep (s : ES) (ch : UInt8) : ES :=
  if ch = 97 then ⟨putW 20 15 s.w s.a, s.wr || decide (s.a < 0) || decide (16 ≤ s.a), 0, s.b, s.c, s.i⟩
  else if ch = 98 then ⟨putW 16 15 s.w s.b, s.wr || decide (s.b < 0) || decide (16 ≤ s.b), s.a, 0, s.c, s.i⟩
  else if ch = 99 then ⟨putW 12 15 s.w s.c, s.wr || decide (s.c < 0) || decide (16 ≤ s.c), s.a, s.b, 0, s.i⟩
  else if ch = 105 then ⟨putW 0 4095 s.w s.i, s.wr || decide (s.i < -2048) || decide (2048 ≤ s.i), s.a, s.b, s.c, 0⟩
  else if ch = 106 then ⟨putW 0 1048575 s.w s.i, s.wr || decide (s.i < -524288) || decide (524288 ≤ s.i), s.a, s.b, s.c, 0⟩
  else s
def w0 (op : Int) : Int := IntKind.u32.wrap (IntKind.u32.wrap op * 2 ^ 24)
def encF (s : ES) : Int × Int := if s.wr then (0, 2) else if s.a = 0 ∧ s.b = 0 ∧ s.c = 0 ∧ s.i = 0 then (s.w, 0) else (0, 2)
def encP (op a b c i : Int) : Int × Int := if nameI op = [] then (0, 2) else encF ((formI op).foldl eStep ⟨w0 op, false, a, b, c, i⟩)

theorem get_byte (t : List UInt8) (k : Nat) : (⟨t.toArray⟩ : ByteArray).get! k = t.getD k default := by
  show (t.toArray)[k]! = _
  simp only [List.getD, getElem!_def, List.getElem?_toArray]
  cases t[k]? <;> rfl
theorem decode_ascii (t : List UInt8) (k : Nat) (c : UInt8) (h : t[k]? = some c) (hc : c.toNat < 128) : Utf8.decode ⟨t.toArray⟩ k = (c.toNat, 1) := by
  have h0 : ((⟨t.toArray⟩ : ByteArray).get! (k + 0)).toNat = c.toNat := by rw [get_byte, Nat.add_zero]; simp [List.getD, h]
  unfold Utf8.decode
  simp only [h0]
  rw [if_pos (show c.toNat < 0x80 from hc)]
def envE (op : Int) : Env := [(1, .p 11 0 0), (4, .p 12 0 0), (5, .p 13 0 0), (6, .fn (.func 74) [] [.p 13 0 0, .p 12 0 0]), (7, .i .i64 op), (23, .p 14 0 0)]
def SS (m op : Int) (s : ES) (l : List UInt8) (p : Nat) : St := SE m [.i .i64 op, .i .i64 s.a, .i .i64 s.b, .i .i64 s.c, .i .i64 s.i] s.w s.wr l p
theorem enc_loop (m op : Int) (l : List UInt8) (hl : l.length ≤ 100) (hch : ∀ ch ∈ l, ch = 97 ∨ ch = 98 ∨ ch = 99 ∨ ch = 105 ∨ ch = 106) (Q : Out → Env → St → Prop) : ∀ (r : List UInt8) (p : Nat) (s : ES), l.drop p = r → p ≤ l.length →
    (∀ e', get e' 1 = .p 11 0 0 → get e' 4 = .p 12 0 0 → get e' 5 = .p 13 0 0 → get e' 7 = .i .i64 op → Q (.exit 0) e' (SS m op (r.foldl eStep s) l l.length)) → LoopF (X1 m) [1, 4, 5, 6, 7, 23] c29L0 (envE op) (SS m op s l p) Q := by
  intro r
  induction r with
  | nil =>
    intro p s hd hp q
    have hpl : p = l.length := by
      have := congrArg List.length hd
      simp at this; omega
    subst hpl
    refine LoopF.round tyB_ok (lit := true) ?_
    conv => whnf
    rw [decide_eq_false (by show ¬ l.length < l.length; omega)]
    conv => whnf
    exact q _ rfl rfl rfl rfl
  | cons ch r ih =>
    intro p s hd hp q
    have hpl : p < l.length := by
      have := congrArg List.length hd
      simp at this; omega
    have hc : l[p]? = some ch := by
      have := congrArg (fun x => x[0]?) hd
      simpa using this
    have hd' : l.drop (p + 1) = r := by
      have := congrArg List.tail hd
      simpa using this
    have hm := hch ch (List.mem_of_getElem? hc)
    have ih' := ih (p + 1) (eStep s ch) hd' hpl q
    have hdec : Utf8.decode ⟨l.toArray⟩ p = (ch.toNat, 1) := decode_ascii l p ch hc (by rcases hm with rfl | rfl | rfl | rfl | rfl <;> decide)
    refine LoopF.round tyB_ok (lit := true) ?_
    conv => whnf
    rw [decide_eq_true (by show p < l.length; omega)]
    conv => whnf
    rw [hdec]
    rcases hm with rfl | rfl | rfl | rfl | rfl
    · conv => whnf
      exact put_a m _ _ _ _ _ _ _ _ _ _ ih'
    · conv => whnf
      exact put_b m _ _ _ _ _ _ _ _ _ _ ih'
    · conv => whnf
      exact put_c m _ _ _ _ _ _ _ _ _ _ ih'
    · conv => whnf
      exact put_i m _ _ _ _ _ _ _ _ _ _ ih'
    · conv => whnf
      exact put_j m _ _ _ _ _ _ _ _ _ _ ih'
theorem form_small (op : Int) : (formI op).length ≤ 100 ∧ ∀ ch ∈ formI op, ch = 97 ∨ ch = 98 ∨ ch = 99 ∨ ch = 105 ∨ ch = 106 := by
  unfold formI
  split
  · exact ⟨by decide, fun ch h => by cases h⟩
  · rcases form_cases op.toNat with h | h | h | h | h | h | h <;> rw [h] <;> exact ⟨by decide, by decide⟩
theorem enc_to (m op a b c i : Int) : CallF (X1 m) 29 [insV op a b c i] (G0 m) fun v s => v = .tu [.i .u32 (encP op a b c i).1, .i .i64 (encP op a b c i).2] ∧ s = G0 m := by
  refine CallF.body (F := F29) tyB_ok (lit := true) rfl rfl (Nat.le_of_ble_eq_true rfl) ?_
  conv => whnf
  refine CallF.law (lawName m) rfl rfl rfl ?_
  conv => whnf
  unfold encP
  cases hn : nameI op == [] with
  | true =>
    rw [if_pos (eq_of_beq hn)]
    conv => whnf
    exact Fin.flat rfl rfl ⟨rfl, rfl⟩
  | false =>
    rw [if_neg (fun h => by rw [h] at hn; cases hn)]
    conv => whnf
    refine ⟨_, rfl, ?_⟩
    conv => whnf
    refine ⟨by decide, _, rfl, ?_⟩
    conv => whnf
    refine CallF.law (lawForm m) rfl rfl rfl ?_
    conv => whnf
    obtain ⟨hl, hch⟩ := form_small op
    generalize formI op = l at hl hch ⊢
    refine enc_loop m op l hl hch _ l 0 ⟨w0 op, false, a, b, c, i⟩ rfl (Nat.zero_le _) (fun e' g1 g4 g5 g7 => ?_)
    generalize l.foldl eStep ⟨w0 op, false, a, b, c, i⟩ = s
    obtain ⟨w, wr, a, b, c, i⟩ := s
    conv => whnf
    rw [g1]
    conv => whnf
    rw [g4]
    conv => whnf
    rw [g5]
    conv => whnf
    rw [g7]
    conv => whnf
    cases wr
    · conv => whnf
      split
      · rename_i hx
        have hz : ¬ (a = 0 ∧ b = 0 ∧ c = 0 ∧ i = 0) := by
          rintro ⟨rfl, rfl, rfl, rfl⟩
          simp at hx
        conv => whnf
        refine Fin.flat rfl rfl ⟨?_, rfl⟩
        unfold encF
        rw [if_neg (by simp), if_neg hz]
      · rename_i hx
        have hz : a = 0 ∧ b = 0 ∧ c = 0 ∧ i = 0 := by simpa using hx
        conv => whnf
        refine Fin.flat rfl rfl ⟨?_, rfl⟩
        unfold encF
        rw [if_neg (by simp), if_pos hz]
    · conv => whnf
      exact Fin.flat rfl rfl ⟨rfl, rfl⟩
end Go.Abs.YtkfcbgmamfnajaaGreatDoor
/- isa.Decode. -/
namespace Go.Abs.YtkfcbgmamfnajaaGreatDoor
open Go.Proofs
set_option maxRecDepth 4000

def lawEnc (m : Int) : Law (X1 m) (G0 m) := ⟨29, fun | [.ag [.i .i64 op, .i .i64 a, .i .i64 b, .i .i64 c, .i .i64 i]] => some (.tu [.i .u32 (encP op a b c i).1, .i .i64 (encP op a b c i).2]) | _ => none, fun args v h => by
  split at h
  · cases h; exact ⟨rfl, rfl, enc_to m _ _ _ _ _⟩
  · cases h⟩
@[reducible] noncomputable def X2 (m : Int) : Ctx := (X1 m).knows (G0 m) [lawEnc m]
theorem X2_sound (m : Int) : (X2 m).Sound 11 := Ctx.knows_sound (X1_sound m) (okG0 m) _

def SD (m : Int) (w : Int) (f : List AV) (l : List UInt8) (p : Nat) : St := G0 m ++ [⟨0, false, .cells 22 [.i .u32 w]⟩, ⟨0, false, .cells 45 [.i .i64 0, .i .i64 0, .i .i64 0, .i .i64 0, .i .i64 0]⟩, ⟨0, false, .cells 45 f⟩, ⟨0, false, .cells 93 [.fn (.func 54) [] [.p 11 0 0]]⟩, ⟨0, false, .iter l p⟩]
def tk (w : Int) (at_ mask : Int) : Int := IntKind.i64.wrap (andU (w.fdiv (2 ^ at_.toNat)) mask)
def sg (w : Int) (bits mask : Int) : Int := IntKind.i64.wrap (tk w 0 mask - IntKind.i64.wrap (tk w (bits - 1) 1 * 2 ^ bits.toNat))
theorem take_a (m w : Int) (f : List AV) (l : List UInt8) (p : Nat) (Q : AV → St → Prop) (q : Q (.i .i64 (tk w 20 15)) (SD m w f l p)) :
    CallF (X2 m) 54 [.i .i64 20, .i .i64 4, .p 11 0 0] (SD m w f l p) Q := by
  refine CallF.body (F := F54) tyB_ok (lit := true) rfl rfl (Nat.le_of_ble_eq_true rfl) ?_
  conv => whnf
  refine ⟨by decide, ?_⟩
  conv => whnf
  refine ⟨by decide, 16, by decide, ?_⟩
  conv => whnf
  refine ⟨15, by decide, ?_⟩
  conv => whnf
  refine ⟨_, rfl, ?_⟩
  conv => whnf
  exact Fin.flat rfl rfl q
theorem take_b (m w : Int) (f : List AV) (l : List UInt8) (p : Nat) (Q : AV → St → Prop) (q : Q (.i .i64 (tk w 16 15)) (SD m w f l p)) :
    CallF (X2 m) 54 [.i .i64 16, .i .i64 4, .p 11 0 0] (SD m w f l p) Q := by
  refine CallF.body (F := F54) tyB_ok (lit := true) rfl rfl (Nat.le_of_ble_eq_true rfl) ?_
  conv => whnf
  refine ⟨by decide, ?_⟩
  conv => whnf
  refine ⟨by decide, 16, by decide, ?_⟩
  conv => whnf
  refine ⟨15, by decide, ?_⟩
  conv => whnf
  refine ⟨_, rfl, ?_⟩
  conv => whnf
  exact Fin.flat rfl rfl q
theorem take_c (m w : Int) (f : List AV) (l : List UInt8) (p : Nat) (Q : AV → St → Prop) (q : Q (.i .i64 (tk w 12 15)) (SD m w f l p)) :
    CallF (X2 m) 54 [.i .i64 12, .i .i64 4, .p 11 0 0] (SD m w f l p) Q := by
  refine CallF.body (F := F54) tyB_ok (lit := true) rfl rfl (Nat.le_of_ble_eq_true rfl) ?_
  conv => whnf
  refine ⟨by decide, ?_⟩
  conv => whnf
  refine ⟨by decide, 16, by decide, ?_⟩
  conv => whnf
  refine ⟨15, by decide, ?_⟩
  conv => whnf
  refine ⟨_, rfl, ?_⟩
  conv => whnf
  exact Fin.flat rfl rfl q
theorem take_0l (m w : Int) (f : List AV) (l : List UInt8) (p : Nat) (Q : AV → St → Prop) (q : Q (.i .i64 (tk w 0 4095)) (SD m w f l p)) :
    CallF (X2 m) 54 [.i .i64 0, .i .i64 12, .p 11 0 0] (SD m w f l p) Q := by
  refine CallF.body (F := F54) tyB_ok (lit := true) rfl rfl (Nat.le_of_ble_eq_true rfl) ?_
  conv => whnf
  refine ⟨by decide, ?_⟩
  conv => whnf
  refine ⟨by decide, 4096, by decide, ?_⟩
  conv => whnf
  refine ⟨4095, by decide, ?_⟩
  conv => whnf
  refine ⟨_, rfl, ?_⟩
  conv => whnf
  exact Fin.flat rfl rfl q
theorem take_0h (m w : Int) (f : List AV) (l : List UInt8) (p : Nat) (Q : AV → St → Prop) (q : Q (.i .i64 (tk w 0 1048575)) (SD m w f l p)) :
    CallF (X2 m) 54 [.i .i64 0, .i .i64 20, .p 11 0 0] (SD m w f l p) Q := by
  refine CallF.body (F := F54) tyB_ok (lit := true) rfl rfl (Nat.le_of_ble_eq_true rfl) ?_
  conv => whnf
  refine ⟨by decide, ?_⟩
  conv => whnf
  refine ⟨by decide, 1048576, by decide, ?_⟩
  conv => whnf
  refine ⟨1048575, by decide, ?_⟩
  conv => whnf
  refine ⟨_, rfl, ?_⟩
  conv => whnf
  exact Fin.flat rfl rfl q
theorem take_sl (m w : Int) (f : List AV) (l : List UInt8) (p : Nat) (Q : AV → St → Prop) (q : Q (.i .i64 (tk w 11 1)) (SD m w f l p)) :
    CallF (X2 m) 54 [.i .i64 11, .i .i64 1, .p 11 0 0] (SD m w f l p) Q := by
  refine CallF.body (F := F54) tyB_ok (lit := true) rfl rfl (Nat.le_of_ble_eq_true rfl) ?_
  conv => whnf
  refine ⟨by decide, ?_⟩
  conv => whnf
  refine ⟨by decide, 2, by decide, ?_⟩
  conv => whnf
  refine ⟨1, by decide, ?_⟩
  conv => whnf
  refine ⟨_, rfl, ?_⟩
  conv => whnf
  exact Fin.flat rfl rfl q
theorem take_sh (m w : Int) (f : List AV) (l : List UInt8) (p : Nat) (Q : AV → St → Prop) (q : Q (.i .i64 (tk w 19 1)) (SD m w f l p)) :
    CallF (X2 m) 54 [.i .i64 19, .i .i64 1, .p 11 0 0] (SD m w f l p) Q := by
  refine CallF.body (F := F54) tyB_ok (lit := true) rfl rfl (Nat.le_of_ble_eq_true rfl) ?_
  conv => whnf
  refine ⟨by decide, ?_⟩
  conv => whnf
  refine ⟨by decide, 2, by decide, ?_⟩
  conv => whnf
  refine ⟨1, by decide, ?_⟩
  conv => whnf
  refine ⟨_, rfl, ?_⟩
  conv => whnf
  exact Fin.flat rfl rfl q
theorem sign_l (m w : Int) (f : List AV) (l : List UInt8) (p : Nat) (Q : AV → St → Prop) (q : Q (.i .i64 (sg w 12 4095)) (SD m w f l p)) :
    CallF (X2 m) 55 [.i .i64 12, .p 14 0 0] (SD m w f l p) Q := by
  refine CallF.body (F := F55) tyB_ok (lit := true) rfl rfl (Nat.le_of_ble_eq_true rfl) ?_
  conv => whnf
  refine ⟨11, by decide, ?_⟩
  conv => whnf
  refine take_0l m w f l p _ ?_
  conv => whnf
  refine ⟨rfl, ?_⟩
  conv => whnf
  refine take_sl m w f l p _ ?_
  conv => whnf
  refine ⟨by decide, _, rfl, ?_⟩
  conv => whnf
  refine ⟨_, rfl, ?_⟩
  conv => whnf
  exact Fin.flat rfl rfl q
theorem sign_h (m w : Int) (f : List AV) (l : List UInt8) (p : Nat) (Q : AV → St → Prop) (q : Q (.i .i64 (sg w 20 1048575)) (SD m w f l p)) :
    CallF (X2 m) 55 [.i .i64 20, .p 14 0 0] (SD m w f l p) Q := by
  refine CallF.body (F := F55) tyB_ok (lit := true) rfl rfl (Nat.le_of_ble_eq_true rfl) ?_
  conv => whnf
  refine ⟨19, by decide, ?_⟩
  conv => whnf
  refine take_0h m w f l p _ ?_
  conv => whnf
  refine ⟨rfl, ?_⟩
  conv => whnf
  refine take_sh m w f l p _ ?_
  conv => whnf
  refine ⟨by decide, _, rfl, ?_⟩
  conv => whnf
  refine ⟨_, rfl, ?_⟩
  conv => whnf
  exact Fin.flat rfl rfl q
structure DS where
  a : Int
  b : Int
  c : Int
  i : Int
def dStep (w : Int) (s : DS) (ch : UInt8) : DS :=
  if ch = 97 then { s with a := tk w 20 15 } else if ch = 98 then { s with b := tk w 16 15 } else if ch = 99 then { s with c := tk w 12 15 }
  else if ch = 105 then { s with i := sg w 12 4095 } else if ch = 106 then { s with i := sg w 20 1048575 } else s
def envD : Env := [(1, .p 11 0 0), (2, .p 12 0 0), (3, .p 13 0 0), (4, .p 14 0 0), (5, .fn (.func 55) [] [.p 14 0 0]), (19, .p 15 0 0)]
def TD (m w op : Int) (s : DS) (l : List UInt8) (p : Nat) : St := SD m w [.i .i64 op, .i .i64 s.a, .i .i64 s.b, .i .i64 s.c, .i .i64 s.i] l p
theorem dec_loop (m w op : Int) (l : List UInt8) (hl : l.length ≤ 100) (hch : ∀ ch ∈ l, ch = 97 ∨ ch = 98 ∨ ch = 99 ∨ ch = 105 ∨ ch = 106) (Q : Out → Env → St → Prop) : ∀ (r : List UInt8) (p : Nat) (s : DS), l.drop p = r → p ≤ l.length →
    (∀ e', get e' 1000000 = .u → get e' 1 = .p 11 0 0 → get e' 2 = .p 12 0 0 → get e' 3 = .p 13 0 0 → Q (.exit 0) e' (TD m w op (r.foldl (dStep w) s) l l.length)) → LoopF (X2 m) [1, 2, 3, 4, 5, 19] c22L0 envD (TD m w op s l p) Q := by
  intro r
  induction r with
  | nil =>
    intro p s hd hp q
    have hpl : p = l.length := by
      have := congrArg List.length hd
      simp at this; omega
    subst hpl
    refine LoopF.round tyB_ok (lit := true) ?_
    conv => whnf
    rw [decide_eq_false (by show ¬ l.length < l.length; omega)]
    conv => whnf
    exact q _ rfl rfl rfl rfl
  | cons ch r ih =>
    intro p s hd hp q
    have hpl : p < l.length := by
      have := congrArg List.length hd
      simp at this; omega
    have hc : l[p]? = some ch := by
      have := congrArg (fun x => x[0]?) hd
      simpa using this
    have hd' : l.drop (p + 1) = r := by
      have := congrArg List.tail hd
      simpa using this
    have hm := hch ch (List.mem_of_getElem? hc)
    have ih' := ih (p + 1) (dStep w s ch) hd' hpl q
    have hdec : Utf8.decode ⟨l.toArray⟩ p = (ch.toNat, 1) := decode_ascii l p ch hc (by rcases hm with rfl | rfl | rfl | rfl | rfl <;> decide)
    refine LoopF.round tyB_ok (lit := true) ?_
    conv => whnf
    rw [decide_eq_true (by show p < l.length; omega)]
    conv => whnf
    rw [hdec]
    rcases hm with rfl | rfl | rfl | rfl | rfl
    · conv => whnf
      refine take_a m w [.i .i64 op, .i .i64 s.a, .i .i64 s.b, .i .i64 s.c, .i .i64 s.i] l (p + 1) _ ?_
      conv => whnf
      exact ih'
    · conv => whnf
      refine take_b m w [.i .i64 op, .i .i64 s.a, .i .i64 s.b, .i .i64 s.c, .i .i64 s.i] l (p + 1) _ ?_
      conv => whnf
      exact ih'
    · conv => whnf
      refine take_c m w [.i .i64 op, .i .i64 s.a, .i .i64 s.b, .i .i64 s.c, .i .i64 s.i] l (p + 1) _ ?_
      conv => whnf
      exact ih'
    · conv => whnf
      refine sign_l m w [.i .i64 op, .i .i64 s.a, .i .i64 s.b, .i .i64 s.c, .i .i64 s.i] l (p + 1) _ ?_
      conv => whnf
      exact ih'
    · conv => whnf
      refine sign_h m w [.i .i64 op, .i .i64 s.a, .i .i64 s.b, .i .i64 s.c, .i .i64 s.i] l (p + 1) _ ?_
      conv => whnf
      exact ih'
def decO (w : Int) : Int := IntKind.i64.wrap (w.fdiv (2 ^ 24))
def decS (w : Int) : DS := (formI (decO w)).foldl (dStep w) ⟨0, 0, 0, 0⟩
/-- What isa.Decode tells: an operation and its fields; of what is no instruction: nothing. -/
def decP (w : Int) : Int × DS := if (encP (decO w) (decS w).a (decS w).b (decS w).c (decS w).i).2 = 0 ∧ (encP (decO w) (decS w).a (decS w).b (decS w).c (decS w).i).1 = w then (decO w, decS w) else (0, ⟨0, 0, 0, 0⟩)
def insO (x : Int × DS) : AV := .ag [.i .i64 x.1, .i .i64 x.2.a, .i .i64 x.2.b, .i .i64 x.2.c, .i .i64 x.2.i]
theorem dec_to (m w : Int) : CallF (X2 m) 22 [.i .u32 w] (G0 m) fun v s => v = insO (decP w) ∧ s = G0 m := by
  refine CallF.body (F := F22) tyB_ok (lit := true) rfl rfl (Nat.le_of_ble_eq_true rfl) ?_
  conv => whnf
  refine ⟨by decide, ?_⟩
  conv => whnf
  refine ⟨_, rfl, ?_⟩
  conv => whnf
  refine CallF.under rfl rfl (CallF.law (lawForm m) rfl rfl rfl ?_)
  conv => whnf
  obtain ⟨hl, hch⟩ := form_small (decO w)
  have hS : decS w = (formI (decO w)).foldl (dStep w) ⟨0, 0, 0, 0⟩ := rfl
  have hP : decP w = if (encP (decO w) (decS w).a (decS w).b (decS w).c (decS w).i).2 = 0 ∧ (encP (decO w) (decS w).a (decS w).b (decS w).c (decS w).i).1 = w then (decO w, decS w) else (0, ⟨0, 0, 0, 0⟩) := rfl
  rw [hP]
  show LoopF (X2 m) [1, 2, 3, 4, 5, 19] c22L0 envD (TD m w (decO w) ⟨0, 0, 0, 0⟩ (formI (decO w)) 0) _
  refine dec_loop m w (decO w) (formI (decO w)) hl hch _ (formI (decO w)) 0 ⟨0, 0, 0, 0⟩ rfl (Nat.zero_le _) (fun e' g0 g1 g2 g3 => ?_)
  rw [← hS]
  generalize decS w = s
  generalize formI (decO w) = l
  obtain ⟨a, b, c, i⟩ := s
  conv => whnf
  rw [g0]
  conv => whnf
  rw [g1]
  conv => whnf
  rw [g2]
  conv => whnf
  rw [g3]
  conv => whnf
  refine CallF.law (lawEnc m) rfl rfl rfl ?_
  conv => whnf
  generalize encP (decO w) a b c i = x
  obtain ⟨xw, xe⟩ := x
  cases he : decide (xe = 0) with
  | false =>
    conv => whnf
    rw [if_neg (fun h => by rw [decide_eq_true h.1] at he; cases he)]
    exact Fin.flat rfl rfl ⟨rfl, rfl⟩
  | true =>
    conv => whnf
    cases hw : decide (xw = w) with
    | false =>
      conv => whnf
      rw [if_neg (fun h => by rw [decide_eq_true h.2] at hw; cases hw)]
      exact Fin.flat rfl rfl ⟨rfl, rfl⟩
    | true =>
      conv => whnf
      rw [if_pos ⟨of_decide_eq_true he, of_decide_eq_true hw⟩]
      exact Fin.flat rfl rfl ⟨rfl, rfl⟩
end Go.Abs.YtkfcbgmamfnajaaGreatDoor
