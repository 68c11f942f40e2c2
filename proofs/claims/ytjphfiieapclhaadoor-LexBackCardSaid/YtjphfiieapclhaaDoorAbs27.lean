/- The layer Abs, part 27: what was shown over the package-level variables alone, of a function that makes one object, holds over any store that begins with them. -/
import Derived.Test.YtjphfiieapclhaaDoorAbs26
namespace Go.Abs

/-- A result that names one new object. -/
structure Fresh where
  r : Nat → Nat → AV
  e : Nat
  cs : List AV
def Fresh.Good (R : Fresh) : Prop := ∀ (μ1 μ2 : Mu) (w : World) (o g N : Nat) (v : Value), μ2 N 0 = μ1 o g → VRel μ1 w (R.r o g) v → VRel μ2 w (R.r N 0) v
theorem good_sl (n z e : Nat) (cs : List AV) : Fresh.Good ⟨fun o g => .sl o g 0 n z, e, cs⟩ := by
  intro μ1 μ2 w o g N v h hv
  obtain ⟨b, δ, off', c, e', m, h1, h2⟩ := hv
  exact ⟨b, δ, off', c, e', m, by rw [h]; exact h1, h2⟩

section
variable {G : Nat} {G0 σ : St} {μ : Mu} {w : World}
theorem lift_fresh {X : Ctx} (hX : X.Sound G) (hG : okGlob G G0 = true) {f : Nat} {args : List AV} {R : Fresh} (h : CallF X f args G0 fun a s => ∃ o g, a = R.r o g ∧ s[o]? = some ⟨g, false, .cells R.e R.cs⟩) (hfa : AV.flats args = true) (hfc : AV.flats R.cs = true) (hgood : R.Good)
    (ht : σ.take G0.length = G0) (hs : Sim G μ σ w) {cargs : Array Value} (hr : VRels μ w args cargs.toList) : Does X.P f cargs w (After G μ σ w (R.r σ.length 0) (newCells R.e R.cs σ)) := by
  refine (h.ev.does hX (hs.cut hG ht) (VRels.flat _ _ hfa hr)).mono fun e w' ha => ?_
  obtain ⟨r, s, ⟨o, g, rfl, ho⟩, u, μ1, rfl, hu, hst⟩ := ha
  have hnr : ∀ (o : Nat) (a : AO), G0[o]? = some a → a.ro = false → a.k.live = true → False := fun o a ho hr hl => by rw [(okGlob_at hG ho hl).1] at hr; cases hr
  have hb := hst.below hnr
  have hsb := Step.of_below hs hb
  obtain ⟨b, δ, hb1, hb2⟩ := hst.sim.obj o _ ho rfl
  have hbw : w.heap.size ≤ b := by
    rcases Nat.lt_or_ge b w.heap.size with hlt | hge
    · obtain ⟨o2, a2, δ2, q1, q2, q3, _⟩ := hst.prov o _ b δ ho rfl rfl hb1 hlt
      exact (hnr o2 a2 q1 q2 q3).elim
    · exact hge
  have hbw' := hst.sim.blk _ _ _ _ hb1
  have hGl : G ≤ σ.length := by
    have := congrArg List.length ht
    rw [okGlob_len hG, List.length_take] at this; omega
  have hnew : ∀ g', μ σ.length g' = none := by
    intro g'
    cases hm : μ σ.length g' with
    | none => rfl
    | some x =>
      obtain ⟨a, h1, _⟩ := hs.dom _ _ _ hm
      rw [List.getElem?_eq_none (Nat.le_refl _)] at h1; cases h1
  let μ2 : Mu := fun o' g' => if o' = σ.length ∧ g' = 0 then some (b, δ) else μ o' g'
  have hμ2 : ∀ o' g', o' ≠ σ.length → μ2 o' g' = μ o' g' := fun o' g' hne => if_neg fun e => hne e.1
  have hμN : μ2 σ.length 0 = some (b, δ) := if_pos ⟨rfl, rfl⟩
  have hle : μ.le μ2 := fun o' g' x hx => by
    rcases Nat.decEq o' σ.length with hne | heq
    · rw [hμ2 o' g' hne]; exact hx
    · rw [heq, hnew] at hx; cases hx
  have hold : ∀ {o' : Nat} {a : AO}, (newCells R.e R.cs σ)[o']? = some a → (o' < σ.length ∧ σ[o']? = some a) ∨ (o' = σ.length ∧ a = ⟨0, false, .cells R.e R.cs⟩) := by
    intro o' a h
    rcases Nat.lt_trichotomy o' σ.length with hl | he | hg
    · rw [get_old hl] at h; exact .inl ⟨hl, h⟩
    · subst he; rw [get_new] at h; cases h; exact .inr ⟨rfl, rfl⟩
    · rw [List.getElem?_eq_none (by rw [len_new]; omega)] at h; cases h
  refine ⟨u, μ2, rfl, hgood μ1 μ2 w' o g _ u (by rw [hμN, hb1]) hu, ⟨⟨fun o' a ho' hl => ?_, fun o1 o2 a1 a2 b' δ1 δ2 h1 h2 hro hl1 hl2 hm1 hm2 => ?_, fun o' g' x hx => ?_, fun o' g' b' δ' hb' => ?_, fun g' hg' => ?_⟩, hle, hsb.wext, hsb.os, hsb.tape, hsb.output, hsb.size, fun b' hb' _ => hb.block b' hb', fun o' a b' δ' ho' hro hl hm hlt => ?_⟩⟩
  · rcases hold ho' with ⟨hlt, h⟩ | ⟨rfl, rfl⟩
    · obtain ⟨b', δ', q1, q2⟩ := hsb.sim.obj o' a h hl
      exact ⟨b', δ', hle _ _ _ q1, ORel.mono hle (WExt.refl _) rfl q2⟩
    · refine ⟨b, δ, hμN, ?_⟩
      obtain ⟨ccs, fr, q1, q2, q3, q4⟩ := hb2
      refine ⟨ccs, fr, q1, q2, fun j c hj => ?_, q4⟩
      obtain ⟨v, r1, r2⟩ := q3 j c hj
      refine ⟨v, r1, VRel.flat c v ?_ r2⟩
      have hmem := List.mem_of_getElem? hj
      clear hj r2
      have : ∀ (l : List AV), AV.flats l = true → c ∈ l → c.flat = true := by
        intro l
        induction l with
        | nil => intro _ h; cases h
        | cons x l ih =>
          intro h hm
          simp only [AV.flats, Bool.and_eq_true] at h
          rcases List.mem_cons.1 hm with rfl | hm
          · exact h.1
          · exact ih h.2 hm
      exact this _ hfc hmem
  · rcases hold h1 with ⟨l1, q1⟩ | ⟨rfl, rfl⟩
    · rw [hμ2 _ _ (by omega)] at hm1
      rcases hold h2 with ⟨l2, q2⟩ | ⟨rfl, rfl⟩
      · rw [hμ2 _ _ (by omega)] at hm2
        exact hs.inj o1 o2 a1 a2 b' δ1 δ2 q1 q2 hro hl1 hl2 hm1 hm2
      · have e1 : some (b, δ) = some (b', δ2) := hμN.symm.trans hm2
        cases e1
        have := hs.blk _ _ _ _ hm1; omega
    · have e1 : some (b, δ) = some (b', δ1) := hμN.symm.trans hm1
      cases e1
      rcases hold h2 with ⟨l2, q2⟩ | ⟨rfl, rfl⟩
      · rw [hμ2 _ _ (by omega)] at hm2
        have := hs.blk _ _ _ _ hm2; omega
      · rfl
  · rcases Nat.decEq o' σ.length with hne | heq
    · rw [hμ2 o' g' hne] at hx
      obtain ⟨a, q1, q2⟩ := hs.dom _ _ _ hx
      exact ⟨a, at_new q1 _ _, q2⟩
    · subst heq
      refine ⟨_, get_new _ _ _, ?_⟩
      have : g' = 0 := by
        rcases Nat.decEq g' 0 with hne | h0
        · have e1 : μ2 σ.length g' = μ σ.length g' := if_neg fun e => hne e.2
          rw [e1, hnew] at hx; cases hx
        · exact h0
      omega
  · rcases Nat.decEq o' σ.length with hne | heq
    · rw [hμ2 o' g' hne] at hb'
      exact Nat.lt_of_lt_of_le (hs.blk _ _ _ _ hb') hb.size
    · subst heq
      rcases Nat.decEq g' 0 with hne | h0
      · have e1 : μ2 σ.length g' = μ σ.length g' := if_neg fun e => hne e.2
        rw [e1, hnew] at hb'; cases hb'
      · subst h0
        rw [hμN] at hb'; cases hb'; exact hbw'
  · rw [hμ2 _ _ (by omega)]; exact hs.glob g' hg'
  · rcases hold ho' with ⟨hl', q⟩ | ⟨rfl, rfl⟩
    · rw [hμ2 _ _ (by omega)] at hm
      exact ⟨o', a, δ', q, hro, hl, hm⟩
    · have e1 : some (b, δ) = some (b', δ') := hμN.symm.trans hm
      cases e1
      omega
end

/-- A function's law: the one object that it makes, at plain values. -/
structure LawF (X : Ctx) (G0 : St) where
  f : Nat
  g : List AV → Option Fresh
  ok : ∀ args R, g args = some R → AV.flats args = true ∧ AV.flats R.cs = true ∧ R.Good ∧ CallF X f args G0 fun a s => ∃ o g, a = R.r o g ∧ s[o]? = some ⟨g, false, .cells R.e R.cs⟩
def lawFAt {X : Ctx} {G0 : St} (f : Nat) : List (LawF X G0) → Option (LawF X G0)
  | [] => none
  | l :: ls => if l.f = f then some l else lawFAt f ls
theorem lawFAt_f {X : Ctx} {G0 : St} {f : Nat} : ∀ {l : List (LawF X G0)} {a : LawF X G0}, lawFAt f l = some a → a.f = f
  | b :: l, a, h => by
    simp only [lawFAt] at h
    split at h
    · rename_i hb; cases h; exact hb
    · exact lawFAt_f h
/-- A context that knows these laws. -/
@[reducible] def Ctx.makes (X : Ctx) (G0 : St) (l : List (LawF X G0)) : Ctx := ⟨X.P, X.fns, fun f => match lawFAt f l with
  | some a => some fun args σ => if stEqv (σ.take G0.length) G0 then (a.g args).map fun R => (R.r σ.length 0, newCells R.e R.cs σ) else none
  | none => X.prim f, X.meth⟩
theorem Ctx.makes_sound {X : Ctx} {G : Nat} {G0 : St} (hX : X.Sound G) (hG : okGlob G G0 = true) (l : List (LawF X G0)) : (X.makes G0 l).Sound G where
  draws := hX.draws
  fns := fun f F hp hf => hX.fns f F (by
    have hp' : (match lawFAt f l with
      | some a => some fun (args : List AV) (σ : St) => if stEqv (σ.take G0.length) G0 then (a.g args).map fun R => (R.r σ.length 0, newCells R.e R.cs σ) else none
      | none => X.prim f) = none := hp
    split at hp'
    · cases hp'
    · exact hp') hf
  ok := {
    meth := hX.ok.meth
    prim := by
      intro f g hf args σ r σ' hg μ w cargs hs hr
      have hf' : (match lawFAt f l with
        | some a => some fun (args : List AV) (σ : St) => if stEqv (σ.take G0.length) G0 then (a.g args).map fun R => (R.r σ.length 0, newCells R.e R.cs σ) else none
        | none => X.prim f) = some g := hf
      split at hf'
      · rename_i a ha
        obtain rfl := lawFAt_f ha
        cases hf'
        simp only at hg
        split at hg
        · rename_i he
          rw [Option.map_eq_some_iff] at hg
          obtain ⟨R, hR, hg⟩ := hg
          cases hg
          obtain ⟨h1, h2, h3, h4⟩ := a.ok args R hR
          exact lift_fresh hX hG h4 h1 h2 h3 (stEqv_eq _ _ he) hs hr
        · cases hg
      · exact hX.ok.prim f g hf' args σ r σ' hg μ w cargs hs hr }
theorem CallF.made {X : Ctx} {G0 : St} {l : List (LawF X G0)} {f : Nat} {args : List AV} {σ : St} {Q : AV → St → Prop} (a : LawF X G0) (ha : lawFAt f l = some a) {R : Fresh} (hv : a.g args = some R) (ht : σ.take G0.length = G0) (q : Q (R.r σ.length 0) (newCells R.e R.cs σ)) : CallF (X.makes G0 l) f args σ Q := by
  constructor
  rw [EvF_prim (g := fun args σ => if stEqv (σ.take G0.length) G0 then (a.g args).map fun R => (R.r σ.length 0, newCells R.e R.cs σ) else none) (by simp only [Ctx.makes, ha])]
  exact ⟨(_, _), by simp [ht, hv]; rfl, q⟩
end Go.Abs
