/- The layer Abs, part 20: contracts of the kit's as steps of the layer. -/
import Derived.Test.YtjphfiieapclhaaDoorAbs19
import Derived.Below
namespace Go.Abs
open Go.RowKit

section
variable {P : Program} {G : Nat} {μ μ' : Mu} {σ σ' : St} {w w' : World}

theorem Does.of_calls {f : Nat} {cargs : Array Value} {R : Ending → World → Prop} (he : Enters P f) (h : Calls P f cargs w R) : Does P f cargs w R := .inl ⟨he cargs w, h⟩
theorem Does.of_value {f : Nat} {cargs : Array Value} {R : Ending → World → Prop} {v : Value} (h : (callFunc f cargs).run P w = .ok (.value v) w') (hr : R (.returned v) w') : Does P f cargs w R := .inr ⟨v, w', h, hr⟩

theorem below_wext (h : Below w.heap.size w w') : WExt w w' := by
  intro b e m hs
  have hb : b < w.heap.size := by
    rcases Nat.lt_or_ge b w.heap.size with hl | hl
    · exact hl
    · simp [World.shape?, Array.getElem?_eq_none hl] at hs
  unfold World.shape? at hs ⊢
  rw [h.block b hb]; exact hs

/-- Of what was there nothing has turned. -/
theorem Step.of_below (hs : Sim G μ σ w) (h : Below w.heap.size w w') : Step G μ σ w μ σ w' :=
  ⟨⟨fun o a ho hl => by
      obtain ⟨b, δ, h1, h2⟩ := hs.obj o a ho hl
      exact ⟨b, δ, h1, ORel.mono (Mu.le_refl μ) (below_wext h) (h.block b (hs.blk o _ b δ h1)) h2⟩, hs.inj, hs.dom, fun o g b δ q => Nat.lt_of_lt_of_le (hs.blk o g b δ q) h.size, hs.glob⟩,
    Mu.le_refl μ, below_wext h, h.os, h.tape, h.output, h.size, fun b hb _ => h.block b hb, fun o a b δ h1 h2 h3 h4 _ => ⟨o, a, δ, h1, h2, h3, h4⟩⟩

/-- Whatever was writable before is all that may have turned. -/
theorem Step.below (h : Step G μ σ w μ' σ' w') (hro : ∀ (o : Nat) a, σ[o]? = some a → a.ro = false → a.k.live = true → False) : Below w.heap.size w w' :=
  ⟨h.os, h.tape, h.output, h.size, fun b hb => h.frame b hb fun o a δ h1 h2 h3 _ => hro o a h1 h2 h3⟩

theorem vrels_one {a : AV} {c : Array Value} (h : VRels μ w [a] c.toList) : ∃ v, c = #[v] ∧ VRel μ w a v := by
  obtain ⟨v, vs, h1, h2, h3⟩ := h
  simp only [VRels] at h3
  subst h3
  exact ⟨v, Array.ext' h1, h2⟩
theorem vrels_two {a b : AV} {c : Array Value} (h : VRels μ w [a, b] c.toList) : ∃ v u, c = #[v, u] ∧ VRel μ w a v ∧ VRel μ w b u := by
  obtain ⟨v, vs, h1, h2, u, us, h3, h4, h5⟩ := h
  simp only [VRels] at h5
  subst h5; subst h3
  exact ⟨v, u, Array.ext' h1, h2, h4⟩
theorem vrels_three {a b d : AV} {c : Array Value} (h : VRels μ w [a, b, d] c.toList) : ∃ v u t, c = #[v, u, t] ∧ VRel μ w a v ∧ VRel μ w b u ∧ VRel μ w d t := by
  obtain ⟨v, vs, h1, h2, u, us, h3, h4, t, ts, h5, h6, h7⟩ := h
  simp only [VRels] at h7
  subst h7; subst h5; subst h3
  exact ⟨v, u, t, Array.ext' h1, h2, h4, h6⟩

/-- The first cell of an object. -/
theorem Sim.cell {o g e : Nat} {ro : Bool} {a : AV} {rest : List AV} {b δ : Nat} (hs : Sim G μ σ w) (ho : σ[o]? = some ⟨g, ro, .cells e (a :: rest)⟩) (hb : μ o g = some (b, δ)) : ∃ v, w.cell? ⟨b, δ, none⟩ = some v ∧ VRel μ w a v := by
  obtain ⟨b', δ', h1, h2⟩ := hs.obj o _ ho rfl
  rw [hb] at h1; cases h1
  obtain ⟨ccs, fr, q1, q2, q3, q4⟩ := h2
  obtain ⟨v, r1, r2⟩ := q3 0 a rfl
  refine ⟨v, ?_, r2⟩
  rw [cell_of_heap q1]
  simpa using r1
end
end Go.Abs
