/- The layer Abs, part 26: what was shown over the package-level variables alone holds over any store that begins with them. -/
import Derived.Test.YtjphfiieapclhaaDoorAbs25
namespace Go.Abs

mutual
/-- It names only the first objects. -/
def AV.under (n : Nat) : AV → Bool
  | .p o _ _ => Nat.blt o n
  | .sl o _ _ _ _ => Nat.blt o n
  | .mp o _ => Nat.blt o n
  | .fn _ a c => AV.unders n a && AV.unders n c
  | .ic _ v => v.under n
  | .cd _ v => v.under n
  | .ag a => AV.unders n a
  | .tu a => AV.unders n a
  | _ => true
def AV.unders (n : Nat) : List AV → Bool
  | [] => true
  | a :: l => a.under n && AV.unders n l
end
mutual
theorem VRel.under {μ μ' : Mu} {w : World} {n : Nat} (hm : ∀ o g, o < n → μ' o g = μ o g) : ∀ (a : AV) (v : Value), a.under n = true → VRel μ w a v → VRel μ' w a v := by
  intro a v hf h
  match a with
  | .u => trivial
  | .b _ | .i _ _ | .s _ | .p0 | .sl0 | .fn0 | .ic0 | .mp0 => simpa [VRel] using h
  | .p o g off =>
    obtain ⟨b, δ, h1, h2⟩ := h
    exact ⟨b, δ, by rw [hm o g (blt_lt (by simpa [AV.under] using hf))]; exact h1, h2⟩
  | .sl o g off n z =>
    obtain ⟨b, δ, off', c, e, m, h1, h2⟩ := h
    exact ⟨b, δ, off', c, e, m, by rw [hm o g (blt_lt (by simpa [AV.under] using hf))]; exact h1, h2⟩
  | .mp o g =>
    obtain ⟨b, h1, h2⟩ := h
    exact ⟨b, by rw [hm o g (blt_lt (by simpa [AV.under] using hf))]; exact h1, h2⟩
  | .fn f xs ys =>
    simp only [AV.under, Bool.and_eq_true] at hf
    obtain ⟨a, c, h1, h2, h3⟩ := h
    exact ⟨a, c, h1, VRels.under hm _ _ hf.1 h2, VRels.under hm _ _ hf.2 h3⟩
  | .ic t x => obtain ⟨y, h1, h2⟩ := h; exact ⟨y, h1, VRel.under hm _ _ (by simpa [AV.under] using hf) h2⟩
  | .ag xs => obtain ⟨y, h1, h2⟩ := h; exact ⟨y, h1, VRels.under hm _ _ (by simpa [AV.under] using hf) h2⟩
  | .tu xs => obtain ⟨y, h1, h2⟩ := h; exact ⟨y, h1, VRels.under hm _ _ (by simpa [AV.under] using hf) h2⟩
  | .cd c x =>
    cases c with
    | true => simp only [VRel, if_true] at h ⊢; exact VRel.under hm _ _ (by simpa [AV.under] using hf) h
    | false => simpa [VRel] using h
theorem VRels.under {μ μ' : Mu} {w : World} {n : Nat} (hm : ∀ o g, o < n → μ' o g = μ o g) : ∀ (l : List AV) (v : List Value), AV.unders n l = true → VRels μ w l v → VRels μ' w l v := by
  intro l v hf h
  match l with
  | [] => simpa [VRels] using h
  | x :: xs =>
    simp only [AV.unders, Bool.and_eq_true] at hf
    obtain ⟨y, ys, h1, h2, h3⟩ := h
    exact ⟨y, ys, h1, VRel.under hm _ _ hf.1 h2, VRels.under hm _ _ hf.2 h3⟩
end
theorem unders_mem {n : Nat} : ∀ {l : List AV} {c : AV}, AV.unders n l = true → c ∈ l → c.under n = true
  | a :: l, c, h, hc => by
    simp only [AV.unders, Bool.and_eq_true] at h
    rcases List.mem_cons.1 hc with rfl | hc
    · exact h.1
    · exact unders_mem h.2 hc

/-- A store of package-level variables: none may be written, and what they hold names only such. -/
def okGlob (G : Nat) (σ : St) : Bool := Nat.beq σ.length G && σ.all fun a => match a.k with
  | .cells _ cs => a.ro && AV.unders G cs
  | .dead => true
  | _ => false
def cutMu (G : Nat) (μ : Mu) : Mu := fun o g => if o < G then μ o g else none
section
variable {G : Nat} {G0 σ : St} {μ : Mu} {w : World}
theorem glob_at (ht : σ.take G0.length = G0) {o : Nat} (ho : o < G0.length) : σ[o]? = G0[o]? := by
  have h := congrArg (fun l => l[o]?) ht
  simpa [List.getElem?_take, ho] using h
theorem okGlob_len (h : okGlob G G0 = true) : G0.length = G := by
  simp only [okGlob, Bool.and_eq_true] at h; exact Nat.eq_of_beq_eq_true h.1
theorem okGlob_at (h : okGlob G G0 = true) {o : Nat} {a : AO} (ho : G0[o]? = some a) (hl : a.k.live = true) : a.ro = true ∧ ∃ e cs, a.k = .cells e cs ∧ AV.unders G cs = true := by
  simp only [okGlob, Bool.and_eq_true, List.all_eq_true] at h
  have := h.2 a (List.mem_of_getElem? ho)
  obtain ⟨g, ro, k⟩ := a
  cases k with
  | cells e cs => simp only [Bool.and_eq_true] at this; exact ⟨this.1, e, cs, rfl, this.2⟩
  | dead => cases hl
  | iter _ _ => cases this
  | maps _ => cases this
theorem Sim.cut (hs : Sim G μ σ w) (hG : okGlob G G0 = true) (ht : σ.take G0.length = G0) : Sim G (cutMu G μ) G0 w := by
  have hlen := okGlob_len hG
  have hmu : ∀ o g, o < G → cutMu G μ o g = μ o g := fun o g h => by unfold cutMu; rw [if_pos h]
  have hlt : ∀ {o : Nat} {a : AO}, G0[o]? = some a → o < G := fun h => by
    have := (List.getElem?_eq_some_iff.1 h).1; omega
  refine ⟨fun o a ho hl => ?_, fun o o' a a' b δ δ' ho ho' hr hl hl' h1 h2 => ?_, fun o g x hx => ?_, fun o g b δ hb => ?_, fun g hg => ?_⟩
  · obtain ⟨hr, e, cs, hk, hb⟩ := okGlob_at hG ho hl
    have ho' : σ[o]? = some a := by rw [glob_at ht (by have := hlt ho; omega)]; exact ho
    obtain ⟨b, δ, h1, h2⟩ := hs.obj o a ho' hl
    refine ⟨b, δ, by rw [hmu _ _ (hlt ho)]; exact h1, ?_⟩
    unfold ORel at h2 ⊢
    rw [hk] at h2 ⊢
    obtain ⟨ccs, fr, q1, q2, q3, q4⟩ := h2
    refine ⟨ccs, fr, q1, q2, fun j c hj => ?_, q4⟩
    obtain ⟨v, r1, r2⟩ := q3 j c hj
    exact ⟨v, r1, VRel.under hmu c v (unders_mem hb (List.mem_of_getElem? hj)) r2⟩
  · rw [(okGlob_at hG ho hl).1] at hr; cases hr
  · unfold cutMu at hx
    split at hx
    · rename_i h
      obtain ⟨a, h1, h2⟩ := hs.dom o g x hx
      exact ⟨a, by rw [← glob_at ht (by omega)]; exact h1, h2⟩
    · cases hx
  · unfold cutMu at hb
    split at hb
    · exact hs.blk o g b δ hb
    · cases hb
  · rw [hmu _ _ hg]; exact hs.glob g hg
/-- A function of plain values, that leaves nothing behind. -/
theorem lift_pure {X : Ctx} (hX : X.Sound G) (hG : okGlob G G0 = true) {f : Nat} {args : List AV} {v : AV} (h : CallF X f args G0 fun a s => a = v ∧ s = G0) (hfa : AV.flats args = true) (hfv : v.flat = true)
    (ht : σ.take G0.length = G0) (hs : Sim G μ σ w) {cargs : Array Value} (hr : VRels μ w args cargs.toList) : Does X.P f cargs w (After G μ σ w v σ) := by
  refine (h.ev.does hX (hs.cut hG ht) (VRels.flat _ _ hfa hr)).mono fun e w' ha => ?_
  obtain ⟨r, σ', ⟨rfl, rfl⟩, u, μ1, rfl, hu, hst⟩ := ha
  have hb := hst.below fun o a ho hr hl => by rw [(okGlob_at hG ho hl).1] at hr; cases hr
  exact ⟨u, μ, rfl, VRel.flat _ _ hfv hu, Step.of_below hs hb⟩
end

/-- A function's law: what it comes to at plain values. -/
structure Law (X : Ctx) (G0 : St) where
  f : Nat
  g : List AV → Option AV
  ok : ∀ args v, g args = some v → AV.flats args = true ∧ v.flat = true ∧ CallF X f args G0 fun a s => a = v ∧ s = G0
def lawAt {X : Ctx} {G0 : St} (f : Nat) : List (Law X G0) → Option (Law X G0)
  | [] => none
  | l :: ls => if l.f = f then some l else lawAt f ls
theorem lawAt_f {X : Ctx} {G0 : St} {f : Nat} : ∀ {l : List (Law X G0)} {a : Law X G0}, lawAt f l = some a → a.f = f
  | b :: l, a, h => by
    simp only [lawAt] at h
    split at h
    · rename_i hb; cases h; exact hb
    · exact lawAt_f h
/-- A context that knows these laws. -/
@[reducible] def Ctx.knows (X : Ctx) (G0 : St) (l : List (Law X G0)) : Ctx := ⟨X.P, X.fns, fun f => match lawAt f l with
  | some a => some fun args σ => if stEqv (σ.take G0.length) G0 then (a.g args).map (·, σ) else none
  | none => X.prim f, X.meth⟩
theorem Ctx.knows_sound {X : Ctx} {G : Nat} {G0 : St} (hX : X.Sound G) (hG : okGlob G G0 = true) (l : List (Law X G0)) : (X.knows G0 l).Sound G where
  draws := hX.draws
  fns := fun f F hp hf => hX.fns f F (by
    have hp' : (match lawAt f l with
      | some a => some fun (args : List AV) (σ : St) => if stEqv (σ.take G0.length) G0 then (a.g args).map (·, σ) else none
      | none => X.prim f) = none := hp
    split at hp'
    · cases hp'
    · exact hp') hf
  ok := {
    meth := hX.ok.meth
    prim := by
      intro f g hf args σ r σ' hg μ w cargs hs hr
      have hf' : (match lawAt f l with
        | some a => some fun (args : List AV) (σ : St) => if stEqv (σ.take G0.length) G0 then (a.g args).map (·, σ) else none
        | none => X.prim f) = some g := hf
      split at hf'
      · rename_i a ha
        obtain rfl := lawAt_f ha
        cases hf'
        simp only at hg
        split at hg
        · rename_i he
          rw [Option.map_eq_some_iff] at hg
          obtain ⟨v, hv, hg⟩ := hg
          cases hg
          obtain ⟨h1, h2, h3⟩ := a.ok args r hv
          exact lift_pure hX hG h3 h1 h2 (stEqv_eq _ _ he) hs hr
        · cases hg
      · exact hX.ok.prim f g hf' args σ r σ' hg μ w cargs hs hr }
theorem CallF.law {X : Ctx} {G0 : St} {l : List (Law X G0)} {f : Nat} {args : List AV} {σ : St} {Q : AV → St → Prop} (a : Law X G0) (ha : lawAt f l = some a) {v : AV} (hv : a.g args = some v) (ht : σ.take G0.length = G0) (q : Q v σ) : CallF (X.knows G0 l) f args σ Q := by
  constructor
  rw [EvF_prim (g := fun args σ => if stEqv (σ.take G0.length) G0 then (a.g args).map (·, σ) else none) (by simp only [Ctx.knows, ha])]
  exact ⟨(v, σ), by simp [ht, hv], q⟩
theorem aStore_at {τ : Tys} {t o g off e : Nat} {T : AT} {σ : St} {cs : List AV} {y : AV} (hT : τ t = some T) (ho : σ[o]? = some ⟨g, false, .cells e cs⟩) (hl : y.cells.length = T.size) (h1 : y.cells.all AV.one = true) (hc : off + T.size ≤ cs.length) :
    aStore (τ t) (.p o g off) y σ = some (σ.set o ⟨g, false, .cells e (setCells cs off y.cells)⟩) := by
  rw [hT]
  simp only [aStore, ho]
  rw [if_pos ⟨trivial, trivial, hl, h1, hc⟩]
theorem aStore_to {τ : Tys} {t o g off e : Nat} {T : AT} {σ : St} {cs : List AV} {y : AV} (cs' : List AV) (hT : τ t = some T) (ho : σ[o]? = some ⟨g, false, .cells e cs⟩) (hl : y.cells.length = T.size) (h1 : y.cells.all AV.one = true) (hc : off + T.size ≤ cs.length) (hs : setCells cs off y.cells = cs') :
    aStore (τ t) (.p o g off) y σ = some (σ.set o ⟨g, false, .cells e cs'⟩) := by
  rw [← hs]; exact aStore_at hT ho hl h1 hc
theorem cellsAt_of {σ : St} {o g e : Nat} {ro : Bool} {cs : List AV} (ho : σ[o]? = some ⟨g, ro, .cells e cs⟩) : cellsAt σ o g = some cs := by simp [cellsAt, ho]
theorem get_new (e : Nat) (cs : List AV) (σ : St) : (newCells e cs σ)[σ.length]? = some ⟨0, false, .cells e cs⟩ := by simp [newCells]
theorem get_old {e : Nat} {cs : List AV} {σ : St} {o : Nat} (h : o < σ.length) : (newCells e cs σ)[o]? = σ[o]? := by rw [newCells, List.getElem?_append_left h]
theorem get_set {σ : St} {o : Nat} (a : AO) (h : o < σ.length) : (σ.set o a)[o]? = some a := by simp [h]
theorem len_new (e : Nat) (cs : List AV) (σ : St) : (newCells e cs σ).length = σ.length + 1 := by simp [newCells]
theorem cellsAt_new (e : Nat) (cs : List AV) (σ : St) : cellsAt (newCells e cs σ) σ.length 0 = some cs := by simp [cellsAt, newCells]
theorem take_new (e : Nat) (cs : List AV) (σ : St) (n : Nat) (h : n ≤ σ.length) : (newCells e cs σ).take n = σ.take n := by simp [newCells, List.take_append, Nat.sub_eq_zero_of_le h]
/-- A store that has all that another has, and more. -/
structure Ext (σ σ' : St) : Prop where
  len : σ.length ≤ σ'.length
  old : ∀ i, i < σ.length → σ'[i]? = σ[i]?
theorem Ext.refl (σ : St) : Ext σ σ := ⟨Nat.le_refl _, fun _ _ => rfl⟩
theorem Ext.trans {a b c : St} (h : Ext a b) (k : Ext b c) : Ext a c := ⟨Nat.le_trans h.len k.len, fun i hi => by rw [k.old i (Nat.lt_of_lt_of_le hi h.len), h.old i hi]⟩
theorem Ext.new {σ σ' : St} (h : Ext σ σ') (e : Nat) (cs : List AV) : Ext σ (newCells e cs σ') := ⟨by rw [len_new]; have := h.len; omega, fun i hi => by rw [get_old (by have := h.len; omega), h.old i hi]⟩
theorem Ext.set {σ σ' : St} (h : Ext σ σ') {o : Nat} (ho : σ.length ≤ o) (a : AO) : Ext σ (σ'.set o a) := ⟨by rw [List.length_set]; exact h.len, fun i hi => by rw [List.getElem?_set_ne (by omega), h.old i hi]⟩
theorem Ext.take {σ σ' : St} (h : Ext σ σ') : σ'.take σ.length = σ := by
  apply List.ext_getElem?
  intro i
  rw [List.getElem?_take]
  split
  · rename_i hi; exact h.old i hi
  · rename_i hi; exact (List.getElem?_eq_none (by omega)).symm
theorem Ext.get {σ σ' : St} (h : Ext σ σ') {o : Nat} {a : AO} (ho : σ[o]? = some a) : σ'[o]? = some a := by rw [h.old o (List.getElem?_eq_some_iff.1 ho).1]; exact ho
theorem lt_at {σ : St} {o : Nat} {a : AO} (h : σ[o]? = some a) : o < σ.length := (List.getElem?_eq_some_iff.1 h).1
theorem at_new {σ : St} {o : Nat} {a : AO} (h : σ[o]? = some a) (e : Nat) (cs : List AV) : (newCells e cs σ)[o]? = some a := by rw [get_old (lt_at h)]; exact h
theorem at_ne {σ : St} {o o' : Nat} {a : AO} (h : σ[o]? = some a) (hn : o' ≠ o) (b : AO) : (σ.set o' b)[o]? = some a := by rw [List.getElem?_set_ne hn]; exact h
theorem at_set {σ : St} {o : Nat} {a : AO} (h : σ[o]? = some a) (b : AO) : (σ.set o b)[o]? = some b := get_set b (lt_at h)
theorem ownAt_of {σ : St} {o g e : Nat} {cs : List AV} (h : σ[o]? = some ⟨g, false, .cells e cs⟩) : ownAt σ o g e = some cs := by simp [ownAt, h]
theorem srcCells_at {σ : St} {o g off n z e : Nat} {ro : Bool} {cs : List AV} (h : σ[o]? = some ⟨g, ro, .cells e cs⟩) (hl : off + n * z ≤ cs.length) : srcCells z (.sl o g off n z) σ = some (n, (cs.drop off).take (n * z)) := by
  simp [srcCells, cellsAt, h, hl]
theorem om_of {α : Type} {o : Option α} {v : α} {Q : α → Prop} (h : o = some v) (q : Q v) : om o Q := by rw [h]; exact q
theorem aLoad_at {τ : Tys} {t o g off : Nat} {T : AT} {σ : St} {cs : List AV} {v : AV} (hT : τ t = some T) (ha : T.d.agg = false) (ho : cellsAt σ o g = some cs) (hc : cs[off]? = some v) : aLoad (τ t) (.p o g off) σ = some v := by
  rw [hT]
  simp only [aLoad, ho, Option.bind_some, partOf, ha]
  exact hc
theorem aLoad_ag {τ : Tys} {t o g off : Nat} {T : AT} {σ : St} {cs : List AV} (hT : τ t = some T) (ha : T.d.agg = true) (ho : cellsAt σ o g = some cs) (hc : off + T.size ≤ cs.length) : aLoad (τ t) (.p o g off) σ = some (.ag ((cs.drop off).take T.size)) := by
  rw [hT]
  simp only [aLoad, ho, Option.bind_some, partOf, ha, if_true, hc]
end Go.Abs
