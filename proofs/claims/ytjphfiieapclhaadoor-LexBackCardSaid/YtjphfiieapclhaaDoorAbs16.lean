/- The layer Abs, part 16: what the checks of a region's table come to. -/
import Derived.Test.YtjphfiieapclhaaDoorAbs15
namespace Go.Abs
/-! ### What the checks come to -/
structure Tab (P : Program) (G N : Nat) (ops : Array Oper) (T : List DI) : Prop where
  all : ∀ i < ops.size, ∃ (p : Nat) (t : DI), T[p]? = some t ∧ t.i = i
  at' : ∀ (p : Nat) (t : DI), T[p]? = some t → ∃ o, ops[t.i]? = some o ∧ okAI P G N ops o t.a = true
  edge : ∀ (p : Nat) (t : DI), T[p]? = some t → ∀ j ∈ bindsOf ops t.i, ∃ (q : Nat) (b : DI), q < p ∧ T[q]? = some b ∧ b.i = j
  anc : ∀ (p : Nat) (t : DI), T[p]? = some t → ∀ j ∈ t.anc, j ∈ bindsOf ops t.i ∨ ∃ (q : Nat) (b : DI), q < p ∧ T[q]? = some b ∧ b.i ∈ bindsOf ops t.i ∧ j ∈ b.anc
  ne : ∀ (q : Nat) (b : DI) (p : Nat) (a : DI), q < p → T[q]? = some b → T[p]? = some a → b.i ≠ a.i
  dst : ∀ (q : Nat) (b : DI) (p : Nat) (a : DI), q < p → T[q]? = some b → T[p]? = some a → ∀ x, b.a.d = some x → a.a.d ≠ some x
  raw : ∀ (q : Nat) (b : DI) (p : Nat) (a : DI), q < p → T[q]? = some b → T[p]? = some a → ∀ x, b.a.d = some x → x ∈ a.a.slots → b.i ∈ a.anc
  war : ∀ (q : Nat) (b : DI) (p : Nat) (a : DI), q < p → T[q]? = some b → T[p]? = some a → ∀ x, a.a.d = some x → x ∈ b.a.slots → b.i ∈ a.anc
  eff : ∀ (q : Nat) (b : DI) (p : Nat) (a : DI), q < p → T[q]? = some b → T[p]? = some a → b.a.op.pure = false → a.a.op.still = false → b.i ∈ a.anc
  again : ∀ (q : Nat) (b : DI) (p : Nat) (a : DI), q < p → T[q]? = some b → T[p]? = some a → a.a.op.pure = false → b.a.op.pure = true → b.a.op.still = false → b.i ∉ a.anc →
    ∃ b' ∈ a.again, (∃ o, ops[b.i]? = some o ∧ okAI P G N ops o b' = true) ∧ b'.op.pure = true ∧ ∀ x ∈ b'.slots, x ∈ b.a.slots ∧ ∀ (r : Nat) (c : DI), q ≤ r → r < p → T[r]? = some c → c.a.d ≠ some x

theorem okAt_spec {P : Program} {G N : Nat} {ops : Array Oper} {i : Nat} {a : AI} (h : okAt P G N ops i a = true) : ∃ o, ops[i]? = some o ∧ okAI P G N ops o a = true := by
  unfold okAt at h
  split at h
  · rename_i o ho; exact ⟨o, ho, h⟩
  · cases h

theorem mem_take {α : Type} {l : List α} {p : Nat} {x : α} (h : x ∈ l.take p) : ∃ q, q < p ∧ l[q]? = some x := by
  obtain ⟨q, hq⟩ := List.getElem?_of_mem h
  rw [List.getElem?_take] at hq
  split at hq
  · exact ⟨q, by assumption, hq⟩
  · cases hq

theorem okTab_spec {P : Program} {G N : Nat} {ops : Array Oper} {T : List DI} (h : okTab P G N ops T = true) : Tab P G N ops T := by
  simp only [okTab, Bool.and_eq_true, List.all_eq_true, List.mem_range, List.any_eq_true, beq_iff_eq] at h
  obtain ⟨h1, h2⟩ := h
  have one : ∀ (p : Nat) (t : DI), T[p]? = some t → oneOk P G N ops T p t = true := by
    intro p t ht
    have := h2 p (lt_of_get ht)
    rw [ht] at this
    simp only [Bool.and_eq_true] at this
    exact this.1
  have pair : ∀ (q : Nat) (b : DI) (p : Nat) (a : DI), q < p → T[q]? = some b → T[p]? = some a → pairOk P G N ops T q b p a = true := by
    intro q b p a hqp hb ha
    have := h2 p (lt_of_get ha)
    rw [ha] at this
    simp only [Bool.and_eq_true, List.all_eq_true, List.mem_range] at this
    have := this.2 q hqp
    rw [hb] at this
    exact this
  refine ⟨?_, ?_, ?_, ?_, ?_, ?_, ?_, ?_, ?_, ?_⟩
  · intro i hi
    obtain ⟨t, ht, hti⟩ := h1 i hi
    obtain ⟨p, hp⟩ := List.getElem?_of_mem ht
    exact ⟨p, t, hp, hti⟩
  · intro p t ht
    have := one p t ht
    simp only [oneOk, Bool.and_eq_true] at this
    exact okAt_spec this.1.1
  · intro p t ht j hj
    have := one p t ht
    simp only [oneOk, Bool.and_eq_true, List.all_eq_true, List.any_eq_true, beq_iff_eq] at this
    obtain ⟨b, hb, hbj⟩ := this.1.2 j hj
    obtain ⟨q, hq, hqb⟩ := mem_take hb
    exact ⟨q, b, hq, hqb, hbj⟩
  · intro p t ht j hj
    have := one p t ht
    simp only [oneOk, Bool.and_eq_true, List.all_eq_true, List.any_eq_true, beq_iff_eq, Bool.or_eq_true, List.contains_iff_mem] at this
    rcases this.2 j hj with h | ⟨b, hb, hbj⟩
    · exact .inl h
    · obtain ⟨q, hq, hqb⟩ := mem_take hb
      exact .inr ⟨q, b, hq, hqb, hbj.1, hbj.2⟩
  · intro q b p a hqp hb ha
    have := pair q b p a hqp hb ha
    simp only [pairOk, Bool.and_eq_true, bne_iff_ne] at this
    exact this.1.1.1.1
  · intro q b p a hqp hb ha x hx
    have := pair q b p a hqp hb ha
    simp only [pairOk, Bool.and_eq_true, hx, bne_iff_ne] at this
    exact this.1.1.1.2.1
  · intro q b p a hqp hb ha x hx hs
    have := pair q b p a hqp hb ha
    simp only [pairOk, Bool.and_eq_true, hx, Bool.or_eq_true, Bool.not_eq_true', List.contains_iff_mem] at this
    rcases this.1.1.1.2.2 with h | h
    · rw [List.contains_eq_mem] at h; simp at h; exact absurd hs h
    · exact h
  · intro q b p a hqp hb ha x hx hs
    have := pair q b p a hqp hb ha
    simp only [pairOk, Bool.and_eq_true, hx, Bool.or_eq_true, Bool.not_eq_true', List.contains_iff_mem] at this
    rcases this.1.1.2 with h | h
    · rw [List.contains_eq_mem] at h; simp at h; exact absurd hs h
    · exact h
  · intro q b p a hqp hb ha hx hs
    have := pair q b p a hqp hb ha
    simp only [pairOk, Bool.and_eq_true, hx, hs, Bool.or_eq_true, List.contains_iff_mem, Bool.false_eq_true, false_or] at this
    exact this.1.2
  · intro q b p a hqp hb ha hx hs1 hs hn
    have := pair q b p a hqp hb ha
    simp only [pairOk, Bool.and_eq_true, hx, hs, hs1, Bool.or_eq_true, List.contains_iff_mem, Bool.false_eq_true, false_or, Bool.not_true, or_false, hn, List.any_eq_true, List.all_eq_true, bne_iff_ne] at this
    obtain ⟨b', hb', ⟨h3, h4⟩, h5⟩ := this.2
    refine ⟨b', hb', okAt_spec h3, h4, fun x hx => ⟨(h5 x hx).1, fun r c hr hrp hc => (h5 x hx).2 c ?_⟩⟩
    refine List.mem_of_getElem? (i := r - q) ?_
    rw [List.getElem?_drop, List.getElem?_take, if_pos (by omega), show q + (r - q) = r by omega]
    exact hc
end Go.Abs
