/- Texts of this claim, joined: Abs26, Abs38, Bld, Sa, Cx, Abs28. -/
import Derived.Test.YtobmjhfgmhfocaaGreatDoorM09
import Derived.Test.YtobmjhfgmhfocaaGreatDoorM06
import Derived.Test.YtobmjhfgmhfocaaGreatDoorProg
import Derived.WalkKit
import Derived.Lib.Builder
import Derived.Lib.Walk
import Derived.Laws.Externs
import Derived.Shelf.Strings.BuilderX
import Derived.Shelf.RegionOpenPlain
import Derived.Lib.Strings
import Derived.Lib.Slices
import Derived.Lib.AppendStr
import Derived.Lib.UnsafeStr
import Derived.Lib.MakeNoZero
import Derived.Laws.IdiomCopy
import Derived.Laws.BitsLemmas
import Derived.Test.YtobmjhfgmhfocaaGreatDoorM08
import Derived.Handed
import Derived.LaidLaws
set_option linter.unusedVariables false
set_option linter.unusedSimpArgs false
/- The layer Abs, part 26: what was shown over the package-level variables alone holds over any store that begins with them. -/
namespace Go.Abs

mutual
/-- It names only the first objects. -/
def AV.under (n : Nat) : AV → Bool
  | .p o _ _ => Nat.blt o n
  | .sl o _ _ _ _ => Nat.blt o n
  | .mp o _ => Nat.blt o n
  | .fn _ a c => AV.unders n a && AV.unders n c
  | .ic _ v => v.under n
  | .cd _ v => v.under n
  | .ag a => AV.unders n a
  | .tu a => AV.unders n a
  | _ => true
def AV.unders (n : Nat) : List AV → Bool
  | [] => true
  | a :: l => a.under n && AV.unders n l
end
mutual
theorem VRel.under {μ μ' : Mu} {w : World} {n : Nat} (hm : ∀ o g, o < n → μ' o g = μ o g) : ∀ (a : AV) (v : Value), a.under n = true → VRel μ w a v → VRel μ' w a v := by
  intro a v hf h
  match a with
  | .u => trivial
  | .b _ | .i _ _ | .s _ | .p0 | .sl0 | .fn0 | .ic0 | .mp0 => simpa [VRel] using h
  | .p o g off =>
    obtain ⟨b, δ, h1, h2⟩ := h
    exact ⟨b, δ, by rw [hm o g (blt_lt (by simpa [AV.under] using hf))]; exact h1, h2⟩
  | .sl o g off n z =>
    obtain ⟨b, δ, off', c, e, m, h1, h2⟩ := h
    exact ⟨b, δ, off', c, e, m, by rw [hm o g (blt_lt (by simpa [AV.under] using hf))]; exact h1, h2⟩
  | .mp o g =>
    obtain ⟨b, h1, h2⟩ := h
    exact ⟨b, by rw [hm o g (blt_lt (by simpa [AV.under] using hf))]; exact h1, h2⟩
  | .fn f xs ys =>
    simp only [AV.under, Bool.and_eq_true] at hf
    obtain ⟨a, c, h1, h2, h3⟩ := h
    exact ⟨a, c, h1, VRels.under hm _ _ hf.1 h2, VRels.under hm _ _ hf.2 h3⟩
  | .ic t x => obtain ⟨y, h1, h2⟩ := h; exact ⟨y, h1, VRel.under hm _ _ (by simpa [AV.under] using hf) h2⟩
  | .ag xs => obtain ⟨y, h1, h2⟩ := h; exact ⟨y, h1, VRels.under hm _ _ (by simpa [AV.under] using hf) h2⟩
  | .tu xs => obtain ⟨y, h1, h2⟩ := h; exact ⟨y, h1, VRels.under hm _ _ (by simpa [AV.under] using hf) h2⟩
  | .cd c x =>
    cases c with
    | true => simp only [VRel, if_true] at h ⊢; exact VRel.under hm _ _ (by simpa [AV.under] using hf) h
    | false => simpa [VRel] using h
theorem VRels.under {μ μ' : Mu} {w : World} {n : Nat} (hm : ∀ o g, o < n → μ' o g = μ o g) : ∀ (l : List AV) (v : List Value), AV.unders n l = true → VRels μ w l v → VRels μ' w l v := by
  intro l v hf h
  match l with
  | [] => simpa [VRels] using h
  | x :: xs =>
    simp only [AV.unders, Bool.and_eq_true] at hf
    obtain ⟨y, ys, h1, h2, h3⟩ := h
    exact ⟨y, ys, h1, VRel.under hm _ _ hf.1 h2, VRels.under hm _ _ hf.2 h3⟩
end
theorem unders_mem {n : Nat} : ∀ {l : List AV} {c : AV}, AV.unders n l = true → c ∈ l → c.under n = true
  | a :: l, c, h, hc => by
    simp only [AV.unders, Bool.and_eq_true] at h
    rcases List.mem_cons.1 hc with rfl | hc
    · exact h.1
    · exact unders_mem h.2 hc

/-- A store of package-level variables: none may be written, and what they hold names only such. -/
def okGlob (G : Nat) (σ : St) : Bool := Nat.beq σ.length G && σ.all fun a => match a.k with
  | .cells _ cs => a.ro && AV.unders G cs
  | .dead => true
  | _ => false
def cutMu (G : Nat) (μ : Mu) : Mu := fun o g => if o < G then μ o g else none
section
variable {G : Nat} {G0 σ : St} {μ : Mu} {w : World}
theorem glob_at (ht : σ.take G0.length = G0) {o : Nat} (ho : o < G0.length) : σ[o]? = G0[o]? := by
  have h := congrArg (fun l => l[o]?) ht
  simpa [List.getElem?_take, ho] using h
theorem okGlob_len (h : okGlob G G0 = true) : G0.length = G := by
  simp only [okGlob, Bool.and_eq_true] at h; exact Nat.eq_of_beq_eq_true h.1
theorem okGlob_at (h : okGlob G G0 = true) {o : Nat} {a : AO} (ho : G0[o]? = some a) (hl : a.k.live = true) : a.ro = true ∧ ∃ e cs, a.k = .cells e cs ∧ AV.unders G cs = true := by
  simp only [okGlob, Bool.and_eq_true, List.all_eq_true] at h
  have := h.2 a (List.mem_of_getElem? ho)
  obtain ⟨g, ro, k⟩ := a
  cases k with
  | cells e cs => simp only [Bool.and_eq_true] at this; exact ⟨this.1, e, cs, rfl, this.2⟩
  | dead => cases hl
  | iter _ _ => cases this
  | maps _ => cases this
  | froz _ _ => cases this
theorem Sim.cut (hs : Sim G μ σ w) (hG : okGlob G G0 = true) (ht : σ.take G0.length = G0) : Sim G (cutMu G μ) G0 w := by
  have hlen := okGlob_len hG
  have hmu : ∀ o g, o < G → cutMu G μ o g = μ o g := fun o g h => by unfold cutMu; rw [if_pos h]
  have hlt : ∀ {o : Nat} {a : AO}, G0[o]? = some a → o < G := fun h => by
    have := (List.getElem?_eq_some_iff.1 h).1; omega
  refine ⟨fun o a ho hl => ?_, fun o o' a a' b δ δ' ho ho' hr hl hl' h1 h2 => ?_, fun o g x hx => ?_, fun o g b δ hb => ?_, fun g hg => ?_, fun o b δ hb => ?_, fun g e cs hg ho => hs.full g e cs hg (by rw [glob_at ht (by omega)]; exact ho)⟩
  · obtain ⟨hr, e, cs, hk, hb⟩ := okGlob_at hG ho hl
    have ho' : σ[o]? = some a := by rw [glob_at ht (by have := hlt ho; omega)]; exact ho
    obtain ⟨b, δ, h1, h2⟩ := hs.obj o a ho' hl
    refine ⟨b, δ, by rw [hmu _ _ (hlt ho)]; exact h1, ?_⟩
    unfold ORel at h2 ⊢
    rw [hk] at h2 ⊢
    obtain ⟨ccs, fr, q1, q2, q3, q4⟩ := h2
    refine ⟨ccs, fr, q1, q2, fun j c hj => ?_, q4⟩
    obtain ⟨v, r1, r2⟩ := q3 j c hj
    exact ⟨v, r1, VRel.under hmu c v (unders_mem hb (List.mem_of_getElem? hj)) r2⟩
  · rw [(okGlob_at hG ho hl).1] at hr; cases hr
  · unfold cutMu at hx
    split at hx
    · rename_i h
      obtain ⟨a, h1, h2⟩ := hs.dom o g x hx
      exact ⟨a, by rw [← glob_at ht (by omega)]; exact h1, h2⟩
    · cases hx
  · unfold cutMu at hb
    split at hb
    · exact hs.blk o g b δ hb
    · cases hb
  · rw [hmu _ _ hg]; exact hs.glob g hg
  · unfold cutMu at hb
    split at hb
    · exact hs.low _ _ _ hb
    · cases hb
/-- A function of plain values, that leaves nothing behind. -/
theorem lift_pure {X : Ctx} (hX : X.Sound G) (hG : okGlob G G0 = true) {f : Nat} {args : List AV} {v : AV} (h : CallF X f args G0 fun a s => a = v ∧ s = G0) (hfa : AV.flats args = true) (hfv : v.flat = true)
    (ht : σ.take G0.length = G0) (hs : Sim G μ σ w) {cargs : Array Value} (hr : VRels μ w args cargs.toList) : Does X.P f cargs w (After G μ σ w v σ) := by
  refine (h.ev.does hX (hs.cut hG ht) (VRels.flat _ _ hfa hr)).mono fun e w' ha => ?_
  obtain ⟨r, σ', ⟨rfl, rfl⟩, u, μ1, rfl, hu, hst⟩ := ha
  have hb := hst.below fun o a ho hr hl => by rw [(okGlob_at hG ho hl).1] at hr; cases hr
  exact ⟨u, μ, rfl, VRel.flat _ _ hfv hu, Step.of_below hs hb⟩
end

/-- A function's law: what it comes to at plain values. -/
structure Law (X : Ctx) (G0 : St) where
  f : Nat
  g : List AV → Option AV
  ok : ∀ args v, g args = some v → AV.flats args = true ∧ v.flat = true ∧ CallF X f args G0 fun a s => a = v ∧ s = G0
def lawAt {X : Ctx} {G0 : St} (f : Nat) : List (Law X G0) → Option (Law X G0)
  | [] => none
  | l :: ls => if l.f = f then some l else lawAt f ls
theorem lawAt_f {X : Ctx} {G0 : St} {f : Nat} : ∀ {l : List (Law X G0)} {a : Law X G0}, lawAt f l = some a → a.f = f
  | b :: l, a, h => by
    simp only [lawAt] at h
    split at h
    · rename_i hb; cases h; exact hb
    · exact lawAt_f h
/-- A context that knows these laws. -/
@[reducible] def Ctx.knows (X : Ctx) (G0 : St) (l : List (Law X G0)) : Ctx := ⟨X.P, X.fns, fun f => match lawAt f l with
  | some a => some fun args σ => if stEqv (σ.take G0.length) G0 then (a.g args).map (·, σ) else none
  | none => X.prim f, X.meth, X.dk⟩
theorem Ctx.knows_sound {X : Ctx} {G : Nat} {G0 : St} (hX : X.Sound G) (hG : okGlob G G0 = true) (l : List (Law X G0)) (hdk : ∀ f, X.dk f = true → lawAt f l = none := by first | exact fun _ h => absurd h Bool.false_ne_true | exact fun f h => by obtain rfl := Nat.eq_of_beq_eq_true h; rfl) : (X.knows G0 l).Sound G where
  draws := hX.draws
  dks := fun f h => ⟨by show (match lawAt f l with | some a => some _ | none => X.prim f) = none; rw [hdk f h]; exact (hX.dks f h).1, (hX.dks f h).2⟩
  fns := fun f F hp hf => hX.fns f F (by
    have hp' : (match lawAt f l with
      | some a => some fun (args : List AV) (σ : St) => if stEqv (σ.take G0.length) G0 then (a.g args).map (·, σ) else none
      | none => X.prim f) = none := hp
    split at hp'
    · cases hp'
    · exact hp') hf
  ok := {
    meth := hX.ok.meth
    prim := by
      intro f g hf args σ r σ' hg μ w cargs hs hr
      have hf' : (match lawAt f l with
        | some a => some fun (args : List AV) (σ : St) => if stEqv (σ.take G0.length) G0 then (a.g args).map (·, σ) else none
        | none => X.prim f) = some g := hf
      split at hf'
      · rename_i a ha
        obtain rfl := lawAt_f ha
        cases hf'
        simp only at hg
        split at hg
        · rename_i he
          rw [Option.map_eq_some_iff] at hg
          obtain ⟨v, hv, hg⟩ := hg
          cases hg
          obtain ⟨h1, h2, h3⟩ := a.ok args r hv
          exact lift_pure hX hG h3 h1 h2 (stEqv_eq _ _ he) hs hr
        · cases hg
      · exact hX.ok.prim f g hf' args σ r σ' hg μ w cargs hs hr }
theorem CallF.law {X : Ctx} {G0 : St} {l : List (Law X G0)} {f : Nat} {args : List AV} {σ : St} {Q : AV → St → Prop} (a : Law X G0) (ha : lawAt f l = some a) {v : AV} (hv : a.g args = some v) (ht : σ.take G0.length = G0) (q : Q v σ) : CallF (X.knows G0 l) f args σ Q := by
  constructor
  rw [EvF_prim (g := fun args σ => if stEqv (σ.take G0.length) G0 then (a.g args).map (·, σ) else none) (by simp only [Ctx.knows, ha])]
  exact ⟨(v, σ), by simp [ht, hv], q⟩
theorem aStore_at {τ : Tys} {t o g off e : Nat} {T : AT} {σ : St} {cs : List AV} {y : AV} (hT : τ t = some T) (ho : σ[o]? = some ⟨g, false, .cells e cs⟩) (hl : y.cells.length = T.size) (h1 : y.cells.all AV.one = true) (hc : off + T.size ≤ cs.length) :
    aStore (τ t) (.p o g off) y σ = some (σ.set o ⟨g, false, .cells e (setCells cs off y.cells)⟩) := by
  rw [hT]
  simp only [aStore, ho]
  rw [if_pos ⟨trivial, trivial, hl, h1, hc⟩]
theorem aStore_to {τ : Tys} {t o g off e : Nat} {T : AT} {σ : St} {cs : List AV} {y : AV} (cs' : List AV) (hT : τ t = some T) (ho : σ[o]? = some ⟨g, false, .cells e cs⟩) (hl : y.cells.length = T.size) (h1 : y.cells.all AV.one = true) (hc : off + T.size ≤ cs.length) (hs : setCells cs off y.cells = cs') :
    aStore (τ t) (.p o g off) y σ = some (σ.set o ⟨g, false, .cells e cs'⟩) := by
  rw [← hs]; exact aStore_at hT ho hl h1 hc
theorem cellsAt_of {σ : St} {o g e : Nat} {ro : Bool} {cs : List AV} (ho : σ[o]? = some ⟨g, ro, .cells e cs⟩) : cellsAt σ o g = some cs := by simp [cellsAt, ho]
theorem get_new (e : Nat) (cs : List AV) (σ : St) : (newCells e cs σ)[σ.length]? = some ⟨0, false, .cells e cs⟩ := by simp [newCells]
theorem get_old {e : Nat} {cs : List AV} {σ : St} {o : Nat} (h : o < σ.length) : (newCells e cs σ)[o]? = σ[o]? := by rw [newCells, List.getElem?_append_left h]
theorem get_set {σ : St} {o : Nat} (a : AO) (h : o < σ.length) : (σ.set o a)[o]? = some a := by simp [h]
theorem len_new (e : Nat) (cs : List AV) (σ : St) : (newCells e cs σ).length = σ.length + 1 := by simp [newCells]
theorem cellsAt_new (e : Nat) (cs : List AV) (σ : St) : cellsAt (newCells e cs σ) σ.length 0 = some cs := by simp [cellsAt, newCells]
theorem take_new (e : Nat) (cs : List AV) (σ : St) (n : Nat) (h : n ≤ σ.length) : (newCells e cs σ).take n = σ.take n := by simp [newCells, List.take_append, Nat.sub_eq_zero_of_le h]
/-- A store that has all that another has, and more. -/
structure Ext (σ σ' : St) : Prop where
  len : σ.length ≤ σ'.length
  old : ∀ i, i < σ.length → σ'[i]? = σ[i]?
theorem Ext.refl (σ : St) : Ext σ σ := ⟨Nat.le_refl _, fun _ _ => rfl⟩
theorem Ext.trans {a b c : St} (h : Ext a b) (k : Ext b c) : Ext a c := ⟨Nat.le_trans h.len k.len, fun i hi => by rw [k.old i (Nat.lt_of_lt_of_le hi h.len), h.old i hi]⟩
theorem Ext.new {σ σ' : St} (h : Ext σ σ') (e : Nat) (cs : List AV) : Ext σ (newCells e cs σ') := ⟨by rw [len_new]; have := h.len; omega, fun i hi => by rw [get_old (by have := h.len; omega), h.old i hi]⟩
theorem Ext.set {σ σ' : St} (h : Ext σ σ') {o : Nat} (ho : σ.length ≤ o) (a : AO) : Ext σ (σ'.set o a) := ⟨by rw [List.length_set]; exact h.len, fun i hi => by rw [List.getElem?_set_ne (by omega), h.old i hi]⟩
theorem Ext.take {σ σ' : St} (h : Ext σ σ') : σ'.take σ.length = σ := by
  apply List.ext_getElem?
  intro i
  rw [List.getElem?_take]
  split
  · rename_i hi; exact h.old i hi
  · rename_i hi; exact (List.getElem?_eq_none (by omega)).symm
theorem Ext.get {σ σ' : St} (h : Ext σ σ') {o : Nat} {a : AO} (ho : σ[o]? = some a) : σ'[o]? = some a := by rw [h.old o (List.getElem?_eq_some_iff.1 ho).1]; exact ho
theorem lt_at {σ : St} {o : Nat} {a : AO} (h : σ[o]? = some a) : o < σ.length := (List.getElem?_eq_some_iff.1 h).1
theorem at_new {σ : St} {o : Nat} {a : AO} (h : σ[o]? = some a) (e : Nat) (cs : List AV) : (newCells e cs σ)[o]? = some a := by rw [get_old (lt_at h)]; exact h
theorem at_ne {σ : St} {o o' : Nat} {a : AO} (h : σ[o]? = some a) (hn : o' ≠ o) (b : AO) : (σ.set o' b)[o]? = some a := by rw [List.getElem?_set_ne hn]; exact h
theorem at_set {σ : St} {o : Nat} {a : AO} (h : σ[o]? = some a) (b : AO) : (σ.set o b)[o]? = some b := get_set b (lt_at h)
theorem ownAt_of {σ : St} {o g e : Nat} {cs : List AV} (h : σ[o]? = some ⟨g, false, .cells e cs⟩) : ownAt σ o g e = some cs := by simp [ownAt, h]
theorem srcCells_at {σ : St} {o g off n z e : Nat} {ro : Bool} {cs : List AV} (h : σ[o]? = some ⟨g, ro, .cells e cs⟩) (hl : off + n * z ≤ cs.length) : srcCells z (.sl o g off n z) σ = some (n, (cs.drop off).take (n * z)) := by
  simp [srcCells, cellsAt, h, hl]
theorem om_of {α : Type} {o : Option α} {v : α} {Q : α → Prop} (h : o = some v) (q : Q v) : om o Q := by rw [h]; exact q
theorem aLoad_at {τ : Tys} {t o g off : Nat} {T : AT} {σ : St} {cs : List AV} {v : AV} (hT : τ t = some T) (ha : T.d.agg = false) (ho : cellsAt σ o g = some cs) (hc : cs[off]? = some v) : aLoad (τ t) (.p o g off) σ = some v := by
  rw [hT]
  simp only [aLoad, ho, Option.bind_some, partOf, ha]
  exact hc
theorem aLoad_ag {τ : Tys} {t o g off : Nat} {T : AT} {σ : St} {cs : List AV} (hT : τ t = some T) (ha : T.d.agg = true) (ho : cellsAt σ o g = some cs) (hc : off + T.size ≤ cs.length) : aLoad (τ t) (.p o g off) σ = some (.ag ((cs.drop off).take T.size)) := by
  rw [hT]
  simp only [aLoad, ho, Option.bind_some, partOf, ha, if_true, hc]
end Go.Abs
/- The layer Abs, part 38: a context with one more function known by a contract. -/
namespace Go.Abs
@[reducible] def Ctx.add (X : Ctx) (f0 : Nat) (g : List AV → St → Option (AV × St)) : Ctx := ⟨X.P, X.fns, fun f => match Nat.beq f f0 with | true => some g | false => X.prim f, X.meth, X.dk⟩
theorem Ctx.add_sound {X : Ctx} {G : Nat} (hX : X.Sound G) (f0 : Nat) (g0 : List AV → St → Option (AV × St)) (hg0 : ∀ (args : List AV) (σ : St) (r : AV) (σ' : St), g0 args σ = some (r, σ') → ∀ (μ : Mu) (w : World) (cargs : Array Value), Sim G μ σ w → VRels μ w args cargs.toList → Does X.P f0 cargs w (After G μ σ w r σ')) (hdk : ∀ f, X.dk f = true → Nat.beq f f0 = false := by first | exact fun _ h => absurd h Bool.false_ne_true | exact fun f h => by obtain rfl := Nat.eq_of_beq_eq_true h; rfl) : (X.add f0 g0).Sound G where
  draws := hX.draws
  dks := fun f h => ⟨by show (match Nat.beq f f0 with | true => some g0 | false => X.prim f) = none; rw [hdk f h]; exact (hX.dks f h).1, (hX.dks f h).2⟩
  fns := fun f F hp hf => hX.fns f F (by
    have hp' : (match Nat.beq f f0 with | true => some g0 | false => X.prim f) = none := hp
    split at hp'
    · cases hp'
    · exact hp') hf
  ok := {
    meth := hX.ok.meth
    prim := by
      intro f g hf args σ r σ' hg μ w cargs hs hr
      have hf' : (match Nat.beq f f0 with | true => some g0 | false => X.prim f) = some g := hf
      split at hf'
      · rename_i he
        obtain rfl := Nat.eq_of_beq_eq_true he
        cases hf'
        exact hg0 args σ r σ' hg μ w cargs hs hr
      · exact hX.ok.prim f g hf' args σ r σ' hg μ w cargs hs hr }
end Go.Abs
/- (*strings.Builder).copyCheck, after the kit's shelf (Derived/Shelf/Strings/Builder1), its numbers turned to this translation. -/
set_option maxRecDepth 100000
namespace Go.Abs.YtobmjhfgmhfocaaGreatDoor
open Go.Proofs Go.RowKit Go.Extern

theorem uB : Tryz.prog.underlying 88 = some (.pointer 90) := by kernel_rfl
theorem uU : Tryz.prog.underlying 142 = some .unsafePointer := by kernel_rfl
theorem iB0 : (Tryz.prog.info? 90).map (·.size) = some 2 := by kernel_rfl
theorem iB : ∃ j, Tryz.prog.info? 90 = some j ∧ j.size = 2 := by
  obtain ⟨j, h1, h2⟩ := Option.map_eq_some_iff.1 iB0
  exact ⟨j, h1, h2⟩
theorem liesN (n : Nat) : liesAt Tryz.prog Tryz.prog.depth 92 (n + 1) 0 90 1 = true := by kernel_rfl
theorem liesB {m : Nat} (hm : 4 ≤ m) : liesAt Tryz.prog Tryz.prog.depth 92 (m / Tryz.prog.cellsOf 92) 0 90 1 = true := by
  have h2 : Tryz.prog.cellsOf 92 = 4 := by kernel_rfl
  rw [h2]
  obtain ⟨n, hn⟩ : ∃ n, m / 4 = n + 1 := ⟨m / 4 - 1, by omega⟩
  rw [hn]; exact liesN n

theorem copyCheck_used (b : Nat) (w : World) (h0 : w.cell? ⟨b, 0, none⟩ = some (.pointer (some ⟨b, 0, none⟩))) :
    Calls Tryz.prog 137 #[.pointer (some ⟨b, 0, none⟩)] w fun e w' => e = .returned (.tuple #[]) ∧ w' = w := by
  obtain ⟨j, hj, _⟩ := iB
  go_enter Tryz.func137, Tryz.ntmps137
  go_wp2
  rw [Lib.run_neq_ptr_same w _ uB hj]
  go_wp2
  go_end0
  exact ⟨rfl, rfl⟩

theorem copyCheck_fresh (b m : Nat) (hm : 4 ≤ m) (w : World) (h0 : w.cell? ⟨b, 0, none⟩ = some (.pointer none)) (hsh : w.shape? b = some (92, m)) (hfz : w.frozen? ⟨b, 0, none⟩ = false) :
    Calls Tryz.prog 137 #[.pointer (some ⟨b, 0, none⟩)] w fun e w' => e = .returned (.tuple #[]) ∧ w' = w.setCell ⟨b, 0, none⟩ (.pointer (some ⟨b, 0, none⟩)) := by
  obtain ⟨j, hj, hjs⟩ := iB
  go_enter Tryz.func137, Tryz.ntmps137
  go_wp2
  rw [Lib.run_to_unsafe w ⟨b, 0, none⟩ uB uU hj (by rw [hjs]; decide) hsh (show 0 < m by omega)]
  simp only [Result.andThen]
  rw [Oper.upon_value]
  go_wp2
  rw [run_callFunc_extern Tryz.func157 (by kernel_rfl) (by kernel_rfl) (by kernel_rfl) (e := Extern.AbiNoEscape.same) (by kernel_rfl)]
  rw [Lib.run_noEscape]
  simp only [Result.andThen]
  rw [Oper.upon_value]
  go_wp2
  rw [Lib.run_from_unsafe w ⟨b, 0, none⟩ uU uB hj hsh (liesB hm)]
  simp only [Result.andThen]
  rw [Oper.upon_value]
  go_wp2
  go_end0
  exact ⟨rfl, rfl⟩
/-- In a row of bytes, n of them lie side by side from any place on. -/
theorem liesAt_off {P : Program} {e : TypeId} (hc : P.cellsOf e = 1) (count off n : Nat) (hn : off + n ≤ count) : liesAt P P.depth e count off e n = true := by
  have hd : P.depth = (2 * (P.types.size + Made.depth) + 1) + 1 := rfl
  rw [hd]
  simp only [liesAt, Bool.or_eq_true]
  left
  rw [hd]
  simp [rowAt, hc, hn, sameLayout, Nat.mod_one]
/-- unsafe.String at any place of a row of bytes. -/
theorem run_unsafeString_off {P : Program} (w : World) (pt it ty e : TypeId) (hp : P.underlying pt = some (.pointer e)) (hc : P.cellsOf e = 1) (g off cells : Nat) (hsh : w.shape? g = some (e, cells)) (l : List UInt8) (h0 : l ≠ []) (hn : off + l.length ≤ cells) (h63 : l.length ≤ 9223372036854775807)
    (hcell : ∀ j x, l[j]? = some x → w.cell? ((⟨g, off, none⟩ : Addr).add j) = some (.int .u8 x.toNat)) :
    (Builtin.unsafeString_ #[pt, it] ty #[.pointer (some ⟨g, off, none⟩), .int .i64 l.length]).run P w = .ok (.string ⟨l.toArray⟩) (w.freeze ⟨g, off, none⟩ l.length) := by
  have hl : l.length ≠ 0 := by simpa using h0
  have hlb := Lib.run_loadBytes (P := P) w l ⟨g, off, none⟩ .empty hcell
  have hlies := liesAt_off (P := P) hc (cells / P.cellsOf e) off l.length (by rw [hc]; simpa using hn)
  have h63' : ¬ (9223372036854775807 : Int) < (l.length : Int) := by omega
  obtain ⟨s1, s2, s3, hdef⟩ : ∃ s1 s2 s3 : String, Builtin.unsafeString_ #[pt, it] ty #[.pointer (some ⟨g, off, none⟩), .int .i64 l.length] =
      (do
        let n ← asInt (.int .i64 l.length)
        if n < 0 then runtimePanic (.error s1)
        if n > IntKind.i64.max then unsupported (.unsafePointer s2)
        if n = 0 then pure (.string .empty)
        else if ← variablesAt ⟨g, off, none⟩ (← elemOf pt) n.toNat then do
          let s ← loadBytes ⟨g, off, none⟩ .empty n.toNat
          freeze ⟨g, off, none⟩ n.toNat
          pure (.string s)
        else unsupported (.unsafePointer s3)) := ⟨_, _, _, rfl⟩
  have hmax : IntKind.i64.max = 9223372036854775807 := rfl
  have hneg : ¬ (l.length : Int) < 0 := by omega
  rw [hdef]
  simp [asInt, asIntOf, hmax, h63', hneg, hl, variablesAt, hsh, elemOf, run_underlying hp, hlies, hlb]
set_option maxHeartbeats 2000000 in
theorem string_row (b g off cap m : Nat) (l : List UInt8) (w : World) (h1 : w.cell? ⟨b, 1, none⟩ = some (.slice (some ⟨g, off, none⟩) l.length cap)) (h0 : l ≠ []) (hsh : w.shape? g = some (5, m)) (hlm : off + l.length ≤ m) (hc : l.length ≤ cap) (h63 : l.length ≤ 9223372036854775807)
    (hcells : ∀ j x, l[j]? = some x → w.cell? ⟨g, off + j, none⟩ = some (.int .u8 (x.toNat : Int))) :
    Calls Tryz.prog 31 #[.pointer (some ⟨b, 0, none⟩)] w fun e w' => e = .returned (.string ⟨l.toArray⟩) ∧ w' = w.drew.freeze ⟨g, off, none⟩ l.length := by
  have hl0 : l.length ≠ 0 := by simpa using h0
  have c1 : w.drew.cell? ⟨b, 1, none⟩ = some (.slice (some ⟨g, off, none⟩) l.length cap) := h1
  have hSD : (Builtin.unsafeSliceData_ #[39] 130 #[.slice (some ⟨g, off, none⟩) l.length cap]).run Tryz.prog w.drew = .ok (.pointer (some ⟨g, off, none⟩)) w.drew :=
    Lib.run_unsafeSliceData_row _ _ _ _ _ _ (by omega)
  have hUS : (Builtin.unsafeString_ #[130, 3] 9 #[.pointer (some ⟨g, off, none⟩), .int .i64 l.length]).run Tryz.prog w.drew = .ok (.string ⟨l.toArray⟩) (w.drew.freeze ⟨g, off, none⟩ l.length) := by
    refine run_unsafeString_off w.drew 130 3 9 5 Tryz.underlying130 (by kernel_rfl) g off m hsh l h0 hlm h63 ?_
    intro j x hx
    have := hcells j x hx
    have e : ((⟨g, off, none⟩ : Addr).add j) = ⟨g, off + j, none⟩ := by
      unfold Addr.add
      by_cases h : j = 0
      · subst h; simp
      · simp [h]
    rw [e]; exact this
  have mixed : Tryz.prog.follows Departure.mixedOrders = true := by kernel_rfl
  go_enter Tryz.func31, Tryz.ntmps31
  go_wp2
  go_region_o
  all_goals (go_wp2; go_ret; exact ⟨rfl, rfl⟩)
set_option maxHeartbeats 2000000 in
theorem string_nil (b : Nat) (w : World) (h1 : w.cell? ⟨b, 1, none⟩ = some (.slice none 0 0)) :
    Calls Tryz.prog 31 #[.pointer (some ⟨b, 0, none⟩)] w fun e w' => e = .returned (.string .empty) ∧ w' = w.drew := by
  have c1 : w.drew.cell? ⟨b, 1, none⟩ = some (.slice none 0 0) := h1
  have hSD : (Builtin.unsafeSliceData_ #[39] 130 #[.slice none 0 0]).run Tryz.prog w.drew = .ok (.pointer none) w.drew :=
    Lib.run_unsafeSliceData_nil _ _ _ _ _
  have hUS : (Builtin.unsafeString_ #[130, 3] 9 #[.pointer none, .int .i64 0]).run Tryz.prog w.drew = .ok (.string .empty) w.drew :=
    Lib.run_unsafeString_none _ _ _ _ _
  have mixed : Tryz.prog.follows Departure.mixedOrders = true := by kernel_rfl
  go_enter Tryz.func31, Tryz.ntmps31
  go_wp2
  go_region_o
  all_goals (go_wp2; go_ret; exact ⟨rfl, rfl⟩)
end Go.Abs.YtobmjhfgmhfocaaGreatDoor
/- The builder's parts that are known by contract: copyCheck, String. -/
namespace Go.Abs.YtobmjhfgmhfocaaGreatDoor
open Go.Proofs
set_option maxRecDepth 4000
def byteC (l : List UInt8) : List AV := l.map fun x => .i .u8 x.toNat
theorem bytesOf_byteC : ∀ l : List UInt8, bytesOf (byteC l) = some l
  | [] => rfl
  | x :: l => by
    show (bytesOf (byteC l)).map (UInt8.ofNat ((x.toNat : Int)).toNat :: ·) = _
    rw [bytesOf_byteC l]; simp
def pCC : List AV → St → Option (AV × St)
  | [.p o 0 0], σ => (match (σ[o]? : Option AO) with
    | some ⟨0, false, .cells 92 [.p0, y, d, bb]⟩ => some (.tu [], σ.set o ⟨0, false, .cells 92 [.p o 0 0, y, d, bb]⟩)
    | some ⟨0, false, .cells 92 [.p o2 0 0, _, _, _]⟩ => if o2 = o then some (.tu [], σ) else none
    | _ => none)
  | _, _ => none
theorem shape_of {w : World} {b e : Nat} {ccs : Array Value} {fr : Nat × Nat} (h : w.heap[b]? = some (.cells ccs e fr)) : w.shape? b = some (e, ccs.size) := by unfold World.shape?; rw [h]
theorem pCC_ok (args : List AV) (σ : St) (r : AV) (σ' : St) (h : pCC args σ = some (r, σ')) (μ : Mu) (w : World) (cargs : Array Value) (hs : Sim 11 μ σ w) (hr : VRels μ w args cargs.toList) : Does Tryz.prog 137 cargs w (After 11 μ σ w r σ') := by
  have hen := enters_mk Tryz.func137 (by kernel_rfl) (by kernel_rfl)
  unfold pCC at h
  split at h
  · rename_i o
    obtain ⟨v, rfl, b, δ, hb, rfl⟩ := vrels_one hr
    obtain rfl := hs.low _ _ _ hb
    split at h
    · rename_i y d bb ho
      cases h
      obtain ⟨ccs, fr, q1, q2, q3, q4⟩ := hs.cells ho hb
      have q2' : 0 + 4 ≤ ccs.size := q2
      obtain ⟨v0, r1, r2⟩ := q3 0 .p0 rfl
      simp only [VRel] at r2
      subst r2
      have hcell : w.cell? ⟨b, 0, none⟩ = some (.pointer none) := by rw [cell_of_heap q1]; simpa using r1
      have hfz : w.frozen? ⟨b, 0, none⟩ = false := by
        have := q4 rfl 0 (by omega)
        simp only [World.frozen?, q1]
        simpa using this
      refine Does.of_calls hen ((copyCheck_fresh b ccs.size (by omega) w hcell (shape_of q1) hfz).mono fun e w' he => ?_)
      obtain ⟨rfl, rfl⟩ := he
      obtain ⟨w2, k1, k2⟩ := Step.store (P := Tryz.prog) hs ho hb (ys := [.p o 0 0]) (vs := [.pointer (some ⟨b, 0, none⟩)]) (off := 0) ⟨_, _, rfl, ⟨b, 0, hb, rfl⟩, rfl⟩ (by simp [Value.oneCell']) (by simp)
      have hw2 : w2 = w.setCell ⟨b, 0, none⟩ (.pointer (some ⟨b, 0, none⟩)) := by
        have hrun : (storeCells ⟨b, 0, none⟩ [.pointer (some ⟨b, 0, none⟩)]).run Tryz.prog w = .ok () (w.setCell ⟨b, 0, none⟩ (.pointer (some ⟨b, 0, none⟩))) := by
          simp only [storeCells, Addr.add]
          simp
          rw [run_store Tryz.prog w ⟨b, 0, none⟩ _ _ (by rfl)]
          simp [hcell, hfz]
        rw [hrun] at k1
        cases k1; rfl
      subst hw2
      exact ⟨_, μ, rfl, ⟨#[], rfl, rfl⟩, k2⟩
    · rename_i o2 y d bb ho
      split at h
      · rename_i heq
        subst heq
        cases h
        obtain ⟨ccs, fr, q1, q2, q3, q4⟩ := hs.cells ho hb
        obtain ⟨v0, r1, r2⟩ := q3 0 (.p o2 0 0) rfl
        obtain ⟨b', δ', hb', rfl⟩ := r2
        rw [hb] at hb'; cases hb'
        have hcell : w.cell? ⟨b, 0, none⟩ = some (.pointer (some ⟨b, 0, none⟩)) := by rw [cell_of_heap q1]; simpa using r1
        refine Does.of_calls hen ((copyCheck_used b w hcell).mono fun e w' he => ?_)
        obtain ⟨rfl, rfl⟩ := he
        exact ⟨_, μ, rfl, ⟨#[], rfl, rfl⟩, Step.refl hs⟩
      · cases h
    · cases h
  · cases h
def pStr : List AV → St → Option (AV × St)
  | [.p o 0 0], σ => (match (σ[o]? : Option AO) with
    | some ⟨0, false, .cells 92 [_, .sl0, _, _]⟩ => some (.s [], σ)
    | some ⟨0, false, .cells 92 [_, .sl o2 g2 0 n 1, _, _]⟩ => (match (σ[o2]? : Option AO) with
      | some ⟨g3, false, .cells 5 cs⟩ => if g3 = g2 ∧ n ≤ cs.length ∧ 0 < n ∧ n ≤ 4294967296 then (match bytesOf (cs.take n) with
        | some l => if AV.eqvs (cs.take n) (byteC l) = true then some (.s l, σ.set o2 ⟨g2, false, .froz 5 l⟩) else none
        | none => none) else none
      | some ⟨g3, false, .froz 5 l⟩ => if g3 = g2 ∧ l.length = n ∧ 0 < n ∧ n ≤ 4294967296 then some (.s l, σ) else none
      | _ => none)
    | _ => none)
  | _, _ => none
theorem shape_freeze (w : World) (a : Addr) (n b e m : Nat) (h : w.shape? b = some (e, m)) : (w.freeze a n).shape? b = some (e, m) := by
  unfold World.freeze
  split
  · exact h
  · unfold World.shape? at h ⊢
    simp only [Array.getElem?_modify]
    by_cases hab : a.block = b
    · rw [if_pos hab]
      cases hb : w.heap[b]? with
      | none => rw [hb] at h; cases h
      | some x =>
        rw [hb] at h
        cases x with
        | cells c el fr => obtain ⟨lo, hi⟩ := fr; simp only [Option.some.injEq, Prod.mk.injEq] at h; simp only [Option.map_eq_map, Option.map_some, Option.some.injEq, Prod.mk.injEq]; exact h
        | _ => cases h
    · rw [if_neg hab]; exact h
theorem str_step {μ : Mu} {σ : St} {w : World} (hs : Sim 11 μ σ w) {o2 : Nat} {a : AO} (ho2 : σ[o2]? = some a) (hro : a.ro = false) (hl : a.k.live = true) {b2 δ2 e : Nat} (hb2 : μ o2 a.g = some (b2, δ2)) {ccs : Array Value} {fr : Nat × Nat} (p1 : w.heap[b2]? = some (.cells ccs e fr)) {l : List UInt8} (hle : δ2 + l.length ≤ ccs.size)
    (hx : ∀ (j : Nat) x, l[j]? = some x → ccs[δ2 + j]? = some (Value.int .u8 x.toNat)) (k : Nat) : Step 11 μ σ w μ (σ.set o2 ⟨a.g, false, .froz e l⟩) (w.drew.freeze ⟨b2, δ2, none⟩ k) := by
  have hd := Step.drew hs
  refine hd.trans ?_
  have hsz : (w.drew.freeze ⟨b2, δ2, none⟩ k).heap.size = w.drew.heap.size := by
    unfold World.freeze; split <;> simp
  have hp : w.drew.heap[b2]? = some (.cells ccs e fr) := p1
  refine Step.write (μ' := μ) hd.sim ho2 hro hl rfl b2 δ2 b2 δ2 hb2 (Nat.le_refl _) (Mu.le_refl μ) hb2 (fun _ _ _ h => .inl h) (fun b e m h => shape_freeze _ _ _ b e m h) ?_ ?_ ?_ (by rw [hsz]; exact Nat.le_refl _) (by rw [hsz]; exact lt_of_heap p1) (.inl rfl) (fun k _ hk => ?_) ?_
  · unfold World.freeze; split <;> rfl
  · unfold World.freeze; split <;> rfl
  · unfold World.freeze; split <;> rfl
  · unfold World.freeze
    split
    · rfl
    · simp only [Array.getElem?_modify]
      rw [if_neg (fun h => hk h.symm)]; rfl
  · show ∃ ccs fr, (w.drew.freeze ⟨b2, δ2, none⟩ k).heap[b2]? = some (.cells ccs e fr) ∧ _
    unfold World.freeze
    split
    · exact ⟨ccs, fr, hp, hle, hx⟩
    · simp only [Array.getElem?_modify, if_true, hp, Option.map_eq_map, Option.map_some]
      obtain ⟨lo, hi⟩ := fr
      exact ⟨ccs, _, rfl, hle, hx⟩
theorem set_self {σ : St} {o : Nat} {a : AO} (h : σ[o]? = some a) : σ.set o a = σ := by
  apply List.ext_getElem?
  intro i
  rw [List.getElem?_set]
  split
  · rename_i e; subst e
    rw [h]
    split
    · rfl
    · rename_i hn; rw [List.getElem?_eq_none (by omega)] at h; cases h
  · rfl
theorem pStr_ok (args : List AV) (σ : St) (r : AV) (σ' : St) (h : pStr args σ = some (r, σ')) (μ : Mu) (w : World) (cargs : Array Value) (hs : Sim 11 μ σ w) (hr : VRels μ w args cargs.toList) : Does Tryz.prog 31 cargs w (After 11 μ σ w r σ') := by
  have hen := enters_mk Tryz.func31 (by kernel_rfl) (by kernel_rfl)
  unfold pStr at h
  split at h
  · rename_i o
    obtain ⟨v, rfl, b, δ, hb, rfl⟩ := vrels_one hr
    obtain rfl := hs.low _ _ _ hb
    split at h
    · rename_i y d bb ho
      cases h
      obtain ⟨ccs, fr, q1, q2, q3, q4⟩ := hs.cells ho hb
      obtain ⟨v0, r1, r2⟩ := q3 1 .sl0 rfl
      simp only [VRel] at r2
      subst r2
      have hcell : w.cell? ⟨b, 1, none⟩ = some (.slice none 0 0) := by rw [cell_of_heap q1]; simpa using r1
      refine Does.of_calls hen ((string_nil b w hcell).mono fun e w' he => ?_)
      obtain ⟨rfl, rfl⟩ := he
      exact ⟨_, μ, rfl, rfl, Step.drew hs⟩
    · rename_i y o2 g2 n d bb ho
      split at h
      · rename_i g3 cs ho2
        split at h
        · rename_i hc
          obtain ⟨rfl, hn, h0, h32⟩ := hc
          split at h
          · rename_i l hl
            split at h
            · rename_i heq
              cases h
              have heq := AV.eqvs_eq _ _ heq
              have hll : l.length = n := by
                have := congrArg List.length heq
                rw [List.length_take] at this
                unfold byteC at this
                rw [List.length_map] at this; omega
              obtain ⟨ccs, fr, q1, q2, q3, q4⟩ := hs.cells ho hb
              obtain ⟨v0, r1, r2⟩ := q3 1 (.sl o2 g3 0 n 1) rfl
              obtain ⟨b2, δ2, off', c, e, m, hb2, rfl, hnc, hoff, hsh, hm⟩ := r2
              have hoff : off' = δ2 := by rcases hoff with h | ⟨h, _⟩ <;> omega
              subst hoff
              obtain ⟨ccs2, fr2, p1, p2, p3, p4⟩ := hs.cells ho2 hb2
              have hsh2 := shape_of p1
              rw [hsh] at hsh2; cases hsh2
              have hcell : w.cell? ⟨b, 1, none⟩ = some (.slice (some ⟨b2, off', none⟩) l.length c) := by rw [cell_of_heap q1, hll]; simpa using r1
              have hx : ∀ (j : Nat) x, l[j]? = some x → ccs2[off' + j]? = some (Value.int .u8 x.toNat) := fun j x hj => by
                have hjl : j < n := by rw [← hll]; exact (List.getElem?_eq_some_iff.1 hj).1
                have hcj : cs[j]? = some (.i .u8 x.toNat) := by
                  have h1 : (cs.take n)[j]? = some (.i .u8 x.toNat) := by
                    rw [heq]; unfold byteC; rw [List.getElem?_map, hj]; rfl
                  rw [List.getElem?_take, if_pos hjl] at h1
                  exact h1
                obtain ⟨y, s1, s2⟩ := p3 _ _ hcj
                simp only [VRel] at s2
                rw [s1, s2]
              refine Does.of_calls hen ((string_row b b2 off' c ccs2.size l w hcell (by intro hh; rw [hh] at hll; simp at hll; omega) hsh (by omega) (by omega) (by omega) (fun j x hj => by rw [cell_of_heap p1]; exact hx j x hj)).mono fun e w' he => ?_)
              obtain ⟨rfl, rfl⟩ := he
              exact ⟨_, μ, rfl, rfl, str_step hs ho2 rfl rfl hb2 p1 (by omega) hx _⟩
            · cases h
          · cases h
        · cases h
      · rename_i g3 l ho2
        split at h
        · rename_i hc
          obtain ⟨rfl, hll, h0, h32⟩ := hc
          cases h
          obtain ⟨ccs, fr, q1, q2, q3, q4⟩ := hs.cells ho hb
          obtain ⟨v0, r1, r2⟩ := q3 1 (.sl o2 g3 0 n 1) rfl
          obtain ⟨b2, δ2, off', c, e, m, hb2, rfl, hnc, hoff, hsh, hm⟩ := r2
          have hoff : off' = δ2 := by rcases hoff with h | ⟨h, _⟩ <;> omega
          subst hoff
          obtain ⟨b3, δ3, hb3, hrel⟩ := hs.obj _ _ ho2 rfl
          rw [show μ o2 g3 = some (b2, off') from hb2] at hb3
          cases hb3
          obtain ⟨ccs2, fr2, p1, p2, hx⟩ := hrel
          have hsh2 := shape_of p1
          rw [hsh] at hsh2; cases hsh2
          have hcell : w.cell? ⟨b, 1, none⟩ = some (.slice (some ⟨b2, off', none⟩) l.length c) := by rw [cell_of_heap q1, hll]; simpa using r1
          refine Does.of_calls hen ((string_row b b2 off' c ccs2.size l w hcell (by intro hh; rw [hh] at hll; simp at hll; omega) hsh (by omega) (by omega) (by omega) (fun j x hj => by rw [cell_of_heap p1]; exact hx j x hj)).mono fun e w' he => ?_)
          obtain ⟨rfl, rfl⟩ := he
          have hst := str_step hs ho2 rfl rfl hb2 p1 p2 hx l.length
          rw [set_self ho2] at hst
          exact ⟨_, μ, rfl, rfl, hst⟩
        · cases h
      · cases h
    · cases h
  · cases h
end Go.Abs.YtobmjhfgmhfocaaGreatDoor
/- The package-level variables, as far as they matter; a context that knows strings.Fields at this program's two texts. -/
namespace Go.Abs.YtobmjhfgmhfocaaGreatDoor
open Go.Proofs

def asciiSp : List AV := [.i .u8 0, .i .u8 0, .i .u8 0, .i .u8 0, .i .u8 0, .i .u8 0, .i .u8 0, .i .u8 0, .i .u8 0, .i .u8 1, .i .u8 1, .i .u8 1, .i .u8 1, .i .u8 1, .i .u8 0, .i .u8 0, .i .u8 0, .i .u8 0, .i .u8 0, .i .u8 0, .i .u8 0, .i .u8 0, .i .u8 0, .i .u8 0, .i .u8 0, .i .u8 0, .i .u8 0, .i .u8 0, .i .u8 0, .i .u8 0, .i .u8 0, .i .u8 0, .i .u8 1, .i .u8 0, .i .u8 0, .i .u8 0, .i .u8 0, .i .u8 0, .i .u8 0, .i .u8 0, .i .u8 0, .i .u8 0, .i .u8 0, .i .u8 0, .i .u8 0, .i .u8 0, .i .u8 0, .i .u8 0, .i .u8 0, .i .u8 0, .i .u8 0, .i .u8 0, .i .u8 0, .i .u8 0, .i .u8 0, .i .u8 0, .i .u8 0, .i .u8 0, .i .u8 0, .i .u8 0, .i .u8 0, .i .u8 0, .i .u8 0, .i .u8 0, .i .u8 0, .i .u8 0, .i .u8 0, .i .u8 0, .i .u8 0, .i .u8 0, .i .u8 0, .i .u8 0, .i .u8 0, .i .u8 0, .i .u8 0, .i .u8 0, .i .u8 0, .i .u8 0, .i .u8 0, .i .u8 0, .i .u8 0, .i .u8 0, .i .u8 0, .i .u8 0, .i .u8 0, .i .u8 0, .i .u8 0, .i .u8 0, .i .u8 0, .i .u8 0, .i .u8 0, .i .u8 0, .i .u8 0, .i .u8 0, .i .u8 0, .i .u8 0, .i .u8 0, .i .u8 0, .i .u8 0, .i .u8 0, .i .u8 0, .i .u8 0, .i .u8 0, .i .u8 0, .i .u8 0, .i .u8 0, .i .u8 0, .i .u8 0, .i .u8 0, .i .u8 0, .i .u8 0, .i .u8 0, .i .u8 0, .i .u8 0, .i .u8 0, .i .u8 0, .i .u8 0, .i .u8 0, .i .u8 0, .i .u8 0, .i .u8 0, .i .u8 0, .i .u8 0, .i .u8 0, .i .u8 0, .i .u8 0, .i .u8 0, .i .u8 0, .i .u8 0, .i .u8 0, .i .u8 0, .i .u8 0, .i .u8 0, .i .u8 0, .i .u8 0, .i .u8 0, .i .u8 0, .i .u8 0, .i .u8 0, .i .u8 0, .i .u8 0, .i .u8 0, .i .u8 0, .i .u8 0, .i .u8 0, .i .u8 0, .i .u8 0, .i .u8 0, .i .u8 0, .i .u8 0, .i .u8 0, .i .u8 0, .i .u8 0, .i .u8 0, .i .u8 0, .i .u8 0, .i .u8 0, .i .u8 0, .i .u8 0, .i .u8 0, .i .u8 0, .i .u8 0, .i .u8 0, .i .u8 0, .i .u8 0, .i .u8 0, .i .u8 0, .i .u8 0, .i .u8 0, .i .u8 0, .i .u8 0, .i .u8 0, .i .u8 0, .i .u8 0, .i .u8 0, .i .u8 0, .i .u8 0, .i .u8 0, .i .u8 0, .i .u8 0, .i .u8 0, .i .u8 0, .i .u8 0, .i .u8 0, .i .u8 0, .i .u8 0, .i .u8 0, .i .u8 0, .i .u8 0, .i .u8 0, .i .u8 0, .i .u8 0, .i .u8 0, .i .u8 0, .i .u8 0, .i .u8 0, .i .u8 0, .i .u8 0, .i .u8 0, .i .u8 0, .i .u8 0, .i .u8 0, .i .u8 0, .i .u8 0, .i .u8 0, .i .u8 0, .i .u8 0, .i .u8 0, .i .u8 0, .i .u8 0, .i .u8 0, .i .u8 0, .i .u8 0, .i .u8 0, .i .u8 0, .i .u8 0, .i .u8 0, .i .u8 0, .i .u8 0, .i .u8 0, .i .u8 0, .i .u8 0, .i .u8 0, .i .u8 0, .i .u8 0, .i .u8 0, .i .u8 0, .i .u8 0, .i .u8 0, .i .u8 0, .i .u8 0, .i .u8 0, .i .u8 0, .i .u8 0, .i .u8 0, .i .u8 0, .i .u8 0, .i .u8 0, .i .u8 0, .i .u8 0, .i .u8 0, .i .u8 0, .i .u8 0, .i .u8 0, .i .u8 0, .i .u8 0, .i .u8 0, .i .u8 0, .i .u8 0, .i .u8 0, .i .u8 0, .i .u8 0, .i .u8 0, .i .u8 0, .i .u8 0, .i .u8 0]
def dead : AO := ⟨0, true, .dead⟩
/-- The package-level variables, as far as they matter. -/
def G0 : St := [⟨0, true, .cells 148 [.ic 180 (.ag [.p 10 0 36])]⟩, ⟨0, true, .cells 170 asciiSp⟩, dead, dead, dead, ⟨0, true, .cells 36 [.ic 230 .u]⟩, ⟨0, true, .cells 250 pow10C⟩, dead, dead, dead, dead]
theorem okG0 : okGlob 11 G0 = true := by decide +kernel
@[reducible] noncomputable def X0 : Ctx := (XB.add 137 pCC).add 31 pStr
theorem X0_sound : X0.Sound 11 := Ctx.add_sound (Ctx.add_sound XB_sound _ _ pCC_ok) _ _ pStr_ok
end Go.Abs.YtobmjhfgmhfocaaGreatDoor
/- The layer Abs, part 28: from a world that a call starts in to the layer's store, and back to a row. -/
namespace Go.Abs
open Go.RowKit Go.ChangeShapes

/-- 'returnsInHanded_of_change_and', the start's shape handed on. -/
theorem returns_shaped {H : Type} {enc : TypeId × Value → H} {a : Assume} {C : Checked} {os : Os} {f : FuncId} {fn : Func} {s : ChangeSpec} {conds : List PathCond} {apart fresh handsOn again : Bool} {X : World → Array Value → Prop}
    (hX : ∀ (w w' : World) (args : Array Value), w.heap = w'.heap → X w args → X w' args)
    (own : ownKnob C.prog.godebug = none) (started : os.Started) (noInit : C.prog.inits.idxOf? f = none) (hfn : C.prog.funcs[f]? = some fn)
    (witness : ∃ (w : World) (tape : Tape) (i : Input), w.os = os ∧ (w.forCall tape i).Shaped C.prog ∧ i.vars = [] ∧ Input.okWide C.prog (w.forCall tape i) .any w.heap.size f i ∧
      ((s.pre enc C.prog fn conds apart (w.forCall tape i).memory i.args ∧ X (w.forCall tape i).memory i.args) ∧ sizedMet enc C.prog fn (OpenSpec.ofChange s) apart (w.forCall tape i).memory i.args) ∧ a.holds C.prog (lone (Frame.enter C.prog f i.args .normal) [] (w.forCall tape i)))
    (contract : ∀ (W : World) (base : Nat) (args : Array Value) (ds gs : List (DataW H)) (before : List MemPlace), W.ShapedOpen C.prog →
      (∀ (j : Nat) t v, fn.params[j]? = some t → args[j]? = some v → Value.okWide C.prog W .any base t v) →
      DataW.Whole enc C.prog fn.params.toList s.vars apart W args.toList ds gs before → X W args →
      Calls C.prog f args W fun e W' => ∃ v, e = .returned v ∧ s.post enc C.prog fn apart fresh handsOn again W args v W') :
    ReturnsInHanded a C os f .any (fun w args => (s.pre enc C.prog fn conds apart w args ∧ X w args) ∧ sizedMet enc C.prog fn (OpenSpec.ofChange s) apart w args) (s.post enc C.prog fn apart fresh handsOn again) := by
  refine returnsInHanded_of_calls own started noInit witness ?_
  intro w tape i _ hsh _ hok hpre _
  obtain ⟨_, _, _, fn', hfn', _, _, _, _, hval⟩ := hok
  have e : fn' = fn := Option.some.inj (hfn'.symm.trans hfn)
  subst e
  obtain ⟨⟨⟨ds, gs, before, hw, _⟩, hx⟩, _⟩ := hpre
  have hw' := DataW.Whole.of_heap (w' := w.forCall tape i) (by rfl) hw
  refine (contract (w.forCall tape i) w.heap.size i.args ds gs before hsh hval hw' (hX _ _ _ (by rfl) hx)).mono fun e W' ⟨v, he, hp⟩ => ?_
  subst he
  exact ChangeSpec.post_blind hp

/-- A listed variable's cells. -/
theorem laid_reads {P : Program} {w : World} : ∀ {l : List (String × DataW Unit)} {ps : List MemPlace}, DataW.LaidVars P w l ps → ∀ n d, (n, d) ∈ l → ∃ g t cs fuel p, P.globalNamed n = some g ∧ (P.globals[g]?).map (·.type) = some t ∧ w.var? P n = some cs ∧ DataW.trod (fun _ => ()) P w 0 (fun _ => true) false fuel t cs.toList = some (d, p)
  | [], _, _, _, _, hm => by cases hm
  | (n', d') :: r, ps, h, n, d, hm => by
    obtain ⟨g, t, cs, fuel, p, q, h1, h2, h3, h4, h5, _⟩ := h
    rcases List.mem_cons.1 hm with e | e
    · cases e
      exact ⟨g, t, cs, fuel, p, h1, h2, h3, h4⟩
    · exact laid_reads h5 n d e
theorem var_heap {P : Program} {w : World} {n : String} {g : Nat} {cs : Array Value} (hg : P.globalNamed n = some g) (h : w.var? P n = some cs) : ∃ t fr, w.heap[g]? = some (.cells cs t fr) := by
  simp only [World.var?, hg, Option.bind_some] at h
  split at h
  · rename_i cs' t fr hh; cases h; exact ⟨t, fr, hh⟩
  · cases h
/-- What the start's shape tells of a variable's block. -/
theorem shape_row {P : Program} {w : World} (h : w.ShapedOpen P) {g t : Nat} (hg : g < P.globals.size) (hr : (((begin P (fun _ _ => 0) default).world.heap[g]?).bind Obj.row?).map (·.2) = some t) : ∃ cs fr, w.heap[g]? = some (.cells cs t fr) := by
  rw [Option.map_eq_some_iff] at hr
  obtain ⟨⟨zero, t'⟩, h1, rfl⟩ := hr
  obtain ⟨cs, h2, _⟩ := h.1 g zero t' hg h1
  exact ⟨cs, _, h2⟩
theorem shape_last {P : Program} {w : World} (h : w.ShapedOpen P) {k : Nat} (h1 : P.globals.size ≤ k) (h2 : k < (begin P (fun _ _ => 0) default).world.heap.size) : k < w.heap.size := by
  obtain ⟨o, o0, h3, _⟩ := h.2 k h1 h2
  exact (Array.getElem?_eq_some_iff.1 h3).1
/-- What a call tells of the world, where nothing old could be written. -/
theorem after_below {G : Nat} {μ : Mu} {σ σ' : St} {w w' : World} {r : AV} {e : Ending} (hG : okGlob G σ = true) (h : After G μ σ w r σ' e w') : ∃ v μ', e = .returned v ∧ VRel μ' w' r v ∧ Below w.heap.size w w' := by
  obtain ⟨v, μ', h1, h2, h3⟩ := h
  exact ⟨v, μ', h1, h2, h3.below fun o a ho hr hl => by rw [(okGlob_at hG ho hl).1] at hr; cases hr⟩
/-- Where the package-level variables lie. -/
def mu0 (G : Nat) : Mu := fun o g => if o < G ∧ g = 0 then some (o, 0) else none
end Go.Abs
