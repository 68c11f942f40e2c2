/- The layer Abs, part 29: a caller's own cells as one more object of the store, only to be read. -/
import Derived.Test.YtjphfiieapclhaaDoorAbs28
namespace Go.Abs
open Go.RowKit Go.ChangeShapes
variable {G : Nat} {σ : St} {μ : Mu} {w : World}

theorem Sim.addRo (hs : Sim G μ σ w) (hro : ∀ (o : Nat) (a : AO), σ[o]? = some a → a.ro = false → a.k.live = true → False) {b δ e : Nat} {cs : List AV} {ccs : Array Value} {fr : Nat × Nat}
    (hb : w.heap[b]? = some (.cells ccs e fr)) (hl : δ + cs.length ≤ ccs.size) (hc : ∀ (j : Nat) c, cs[j]? = some c → ∃ v, ccs[δ + j]? = some v ∧ VRel μ w c v) :
    ∃ μ', Sim G μ' (σ ++ [⟨0, true, .cells e cs⟩]) w ∧ μ' σ.length 0 = some (b, δ) ∧ μ.le μ' := by
  have hnew : ∀ g', μ σ.length g' = none := by
    intro g'
    cases hm : μ σ.length g' with
    | none => rfl
    | some x =>
      obtain ⟨a, h1, _⟩ := hs.dom _ _ _ hm
      rw [List.getElem?_eq_none (Nat.le_refl _)] at h1; cases h1
  let μ2 : Mu := fun o' g' => if o' = σ.length ∧ g' = 0 then some (b, δ) else μ o' g'
  have hμ2 : ∀ o' g', o' ≠ σ.length → μ2 o' g' = μ o' g' := fun o' g' hne => if_neg fun e => hne e.1
  have hμN : μ2 σ.length 0 = some (b, δ) := if_pos ⟨rfl, rfl⟩
  have hle : μ.le μ2 := fun o' g' x hx => by
    rcases Nat.decEq o' σ.length with hne | heq
    · rw [hμ2 o' g' hne]; exact hx
    · rw [heq, hnew] at hx; cases hx
  have hold : ∀ {o' : Nat} {a : AO}, (σ ++ [⟨0, true, .cells e cs⟩])[o']? = some a → (o' < σ.length ∧ σ[o']? = some a) ∨ (o' = σ.length ∧ a = ⟨0, true, .cells e cs⟩) := by
    intro o' a h
    rcases Nat.lt_trichotomy o' σ.length with hl | he | hg
    · rw [List.getElem?_append_left hl] at h; exact .inl ⟨hl, h⟩
    · subst he; simp at h; exact .inr ⟨rfl, h.symm⟩
    · rw [List.getElem?_eq_none (by simp; omega)] at h; cases h
  refine ⟨μ2, ⟨fun o' a ho' hl' => ?_, fun o1 o2 a1 a2 b' δ1 δ2 h1 _ hr hl1 _ _ _ => ?_, fun o' g' x hx => ?_, fun o' g' b' δ' hb' => ?_, fun g' hg' => hle _ _ _ (hs.glob g' hg')⟩, hμN, hle⟩
  · rcases hold ho' with ⟨hlt, h⟩ | ⟨rfl, rfl⟩
    · obtain ⟨b', δ', q1, q2⟩ := hs.obj o' a h hl'
      exact ⟨b', δ', hle _ _ _ q1, ORel.mono hle (WExt.refl _) rfl q2⟩
    · refine ⟨b, δ, hμN, ccs, fr, hb, hl, fun j c hj => ?_, fun h => by cases h⟩
      obtain ⟨v, r1, r2⟩ := hc j c hj
      exact ⟨v, r1, VRel.mono hle (WExt.refl _) c v r2⟩
  · rcases hold h1 with ⟨_, q⟩ | ⟨rfl, rfl⟩
    · exact (hro _ _ q hr hl1).elim
    · cases hr
  · rcases Nat.decEq o' σ.length with hne | heq
    · rw [hμ2 o' g' hne] at hx
      obtain ⟨a, q1, q2⟩ := hs.dom _ _ _ hx
      exact ⟨a, by rw [List.getElem?_append_left (List.getElem?_eq_some_iff.1 q1).1]; exact q1, q2⟩
    · subst heq
      refine ⟨⟨0, true, .cells e cs⟩, by simp, ?_⟩
      have : g' = 0 := by
        rcases Nat.decEq g' 0 with hne | h0
        · have e1 : μ2 σ.length g' = μ σ.length g' := if_neg fun e => hne e.2
          rw [e1, hnew] at hx; cases hx
        · exact h0
      omega
  · rcases Nat.decEq o' σ.length with hne | heq
    · rw [hμ2 o' g' hne] at hb'
      exact hs.blk _ _ _ _ hb'
    · subst heq
      rcases Nat.decEq g' 0 with hne | h0
      · have e1 : μ2 σ.length g' = μ σ.length g' := if_neg fun e => hne e.2
        rw [e1, hnew] at hb'; cases hb'
      · subst h0
        rw [hμN] at hb'; cases hb'
        exact (Array.getElem?_eq_some_iff.1 hb).1
/-- What a call tells of the world, where the store lets nothing old be written. -/
theorem after_below_ro {σ' : St} {w' : World} {r : AV} {e : Ending} (hro : ∀ (o : Nat) (a : AO), σ[o]? = some a → a.ro = false → a.k.live = true → False) (h : After G μ σ w r σ' e w') : ∃ v μ', e = .returned v ∧ VRel μ' w' r v ∧ Below w.heap.size w w' := by
  obtain ⟨v, μ', h1, h2, h3⟩ := h
  exact ⟨v, μ', h1, h2, h3.below fun o a ho hr hl => hro o a ho hr hl⟩
end Go.Abs
