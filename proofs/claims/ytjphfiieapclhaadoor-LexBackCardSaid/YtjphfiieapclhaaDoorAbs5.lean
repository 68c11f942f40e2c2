/- The layer Abs, part 5: the model's operations do what the evaluator says: memory, types, parts. -/
import Derived.Test.YtjphfiieapclhaaDoorAbs4
import Derived.Laws.IdiomCopy
import Derived.Laws.Cells
import Derived.ChangeKeysEq
namespace Go.Abs

theorem Addr.add_none (b o n : Nat) : (⟨b, o, none⟩ : Addr).add n = ⟨b, o + n, none⟩ := by unfold Addr.add; split <;> simp_all

theorem Result.andThen_ok' {α β : Type} (a : α) (w : World) (f : α → World → Result β) : (Result.ok a w).andThen f = f a w := rfl

section
variable {P : Program} {μ : Mu} {w : World}

theorem avOf1_rel (v : Value) : VRel μ w (avOf1 v) v := by
  unfold avOf1
  split <;> simp [VRel]
theorem avOf_rel (v : Value) : VRel μ w (avOf v) v := by
  unfold avOf
  split
  · rename_i cs
    refine ⟨cs, rfl, ?_⟩
    have : ∀ l : List Value, VRels μ w (l.map avOf1) l := by
      intro l
      induction l with
      | nil => simp [VRels]
      | cons x xs ih => exact ⟨x, xs, rfl, avOf1_rel x, ih⟩
    exact this cs.toList
  · exact avOf1_rel _

theorem AV.one_oneCell {a : AV} {v : Value} (h : VRel μ w a v) (ha : a.one = true) : v.oneCell' = true ∧ v.cells = #[v] := by
  cases a <;> simp only [AV.one, Bool.false_eq_true] at ha <;> simp only [VRel] at h
  all_goals first
    | (subst h; exact ⟨rfl, rfl⟩)
    | (obtain ⟨_, _, _, rfl⟩ := h; exact ⟨rfl, rfl⟩)
    | (obtain ⟨_, _, _, _, _, _, _, rfl, _⟩ := h; exact ⟨rfl, rfl⟩)
    | (obtain ⟨_, _, rfl, _⟩ := h; exact ⟨rfl, rfl⟩)
    | (obtain ⟨_, rfl, _⟩ := h; exact ⟨rfl, rfl⟩)
    | (obtain ⟨_, _, rfl⟩ := h; exact ⟨rfl, rfl⟩)
theorem VRel.cells {a : AV} {v : Value} (h : VRel μ w a v) (ha : a.one = true ∨ ∃ cs, a = .ag cs) : VRels μ w a.cells v.cells.toList := by
  rcases ha with ha | ⟨cs, rfl⟩
  · obtain ⟨_, h2⟩ := AV.one_oneCell h ha
    have hc : a.cells = [a] := by cases a <;> first | rfl | simp [AV.one] at ha
    rw [hc, h2]
    exact ⟨v, [], rfl, h, rfl⟩
  · obtain ⟨a, rfl, h2⟩ := h
    exact h2
theorem AV.cells_one {a : AV} (h : a.cells.all AV.one = true) : a.one = true ∨ ∃ cs, a = .ag cs := by
  cases a <;> first | exact .inr ⟨_, rfl⟩ | (left; simpa [AV.cells] using h)
theorem VRels.ones {xs : List AV} {vs : List Value} (h : VRels μ w xs vs) (ho : xs.all AV.one = true) : ∀ v ∈ vs, v.oneCell' = true := by
  induction xs generalizing vs with
  | nil => simp only [VRels] at h; subst h; simp
  | cons x xs ih =>
    obtain ⟨y, ys, rfl, h2, h3⟩ := h
    simp only [List.all_cons, Bool.and_eq_true] at ho
    intro v hv
    rcases List.mem_cons.1 hv with rfl | hv
    · exact (AV.one_oneCell h2 ho.1).1
    · exact ih h3 ho.2 v hv

/-! ### Types -/
theorem ty_info {t : Nat} {T : AT} (h : tyOf P t = some T) : ∃ i d z, P.info? t = some i ∧ P.underlying t = some d ∧ i.zero = some z ∧ adOf d = T.d ∧ i.size = T.size ∧ i.bytes = T.bytes ∧ avOf z = T.zero ∧ i.comparable = T.cmp ∧ P.stoodInHeld t = T.held ∧ P.eqGuardType P.depth t = T.guarded := by
  unfold tyOf at h
  split at h
  · rename_i i d h1 h2
    split at h
    · rename_i z h3
      cases h
      exact ⟨i, d, z, h1, h2, h3, rfl, rfl, rfl, rfl, rfl, rfl, rfl⟩
    · cases h
  · cases h
theorem run_und {t : Nat} {d : TypeDesc} (h : P.underlying t = some d) : (underlying t).run P w = .ok d w := by simp [underlying, h]
theorem run_info {t : Nat} {i : TypeInfo} (h : P.info? t = some i) : (typeInfo t).run P w = .ok i w := by simp [typeInfo, h]
theorem run_size {t : Nat} {T : AT} (h : tyOf P t = some T) : (sizeOf t).run P w = .ok T.size w := by
  obtain ⟨i, d, z, h1, _, _, _, h2, _⟩ := ty_info h
  simp [sizeOf, run_info h1, h2]
theorem cellsOf_ty {t : Nat} {T : AT} (h : tyOf P t = some T) : P.cellsOf t = T.size := by
  obtain ⟨i, d, z, h1, _, _, _, h2, _⟩ := ty_info h
  simp [Program.cellsOf, h1, h2]
theorem run_agg {t : Nat} {T : AT} (h : tyOf P t = some T) : (isAgg t).run P w = .ok T.d.agg w := by
  obtain ⟨i, d, z, h1, h2, _, h3, _⟩ := ty_info h
  rw [← h3]
  cases d <;> simp [isAgg, run_und h2, adOf, AD.agg]
theorem run_zero {t : Nat} {T : AT} (h : tyOf P t = some T) : ∃ z, (zeroValue t).run P w = .ok z w ∧ avOf z = T.zero := by
  obtain ⟨i, d, z, h1, h2, h3, _, _, _, h4, _⟩ := ty_info h
  exact ⟨z, by simp [zeroValue, run_info h1, h3], h4⟩

theorem run_part {t : Nat} {T : AT} (h : tyOf P t = some T) {cs : List AV} {ccs : Array Value} (hr : VRels μ w cs ccs.toList) {off : Nat} {a : AV} (hp : partOf T cs off = some a) :
    ∃ v, (part t ccs off).run P w = .ok v w ∧ VRel μ w a v := by
  unfold partOf at hp
  split at hp
  · rename_i hagg
    split at hp
    · cases hp
      refine ⟨.agg (ccs.extract off (off + T.size)), by simp [part, run_agg h, run_size h, hagg], _, rfl, ?_⟩
      have := (hr.drop off).take T.size
      simpa [List.take_drop, Nat.add_comm] using this
    · cases hp
  · rename_i hagg
    obtain ⟨y, h1, h2⟩ := hr.get off a hp
    refine ⟨y, ?_, h2⟩
    have : ccs[off]? = some y := by simpa using h1
    simp [part, run_agg h, hagg, this]
end

/-! ### Cells -/
theorem cell_of_heap {w : World} {b j : Nat} {ccs : Array Value} {e : Nat} {fr : Nat × Nat} (h : w.heap[b]? = some (.cells ccs e fr)) : w.cell? ⟨b, j, none⟩ = ccs[j]? := by
  simp [World.cell?, h]

theorem cellsAt_obj {σ : St} {o g : Nat} {cs : List AV} (h : cellsAt σ o g = some cs) : ∃ ro e, σ[o]? = some ⟨g, ro, .cells e cs⟩ := by
  unfold cellsAt at h
  split at h
  · rename_i g' ro e cs' ho
    split at h
    · rename_i hg; subst hg; cases h; exact ⟨ro, e, ho⟩
    · cases h
  · cases h

section
variable {P : Program} {G : Nat} {μ : Mu} {σ : St} {w : World}

theorem Sim.cells (hs : Sim G μ σ w) {o g b δ : Nat} {ro : Bool} {e : Nat} {cs : List AV} (ho : σ[o]? = some ⟨g, ro, .cells e cs⟩) (hb : μ o g = some (b, δ)) :
    ∃ ccs fr, w.heap[b]? = some (.cells ccs e fr) ∧ δ + cs.length ≤ ccs.size ∧ (∀ (j : Nat) c, cs[j]? = some c → ∃ v, ccs[δ + j]? = some v ∧ VRel μ w c v) ∧
      (ro = false → ∀ j, j < ccs.size → ¬ (fr.1 ≤ j ∧ j < fr.2)) := by
  obtain ⟨b', δ', h1, h2⟩ := hs.obj o _ ho rfl
  rw [hb] at h1; cases h1
  exact h2

/-- The model's cells from a place on. -/
theorem cells_sub {cs : List AV} {ccs : Array Value} {δ : Nat} (hl : δ + cs.length ≤ ccs.size) (h : ∀ (j : Nat) c, cs[j]? = some c → ∃ v, ccs[δ + j]? = some v ∧ VRel μ w c v) (off n : Nat) (hn : off + n ≤ cs.length) :
    VRels μ w ((cs.drop off).take n) ((ccs.toList.drop (δ + off)).take n) := by
  refine VRels.of_get (by simp; omega) (fun j c hj => ?_)
  rw [List.getElem?_take] at hj ⊢
  split at hj
  · rename_i hlt
    rw [List.getElem?_drop] at hj
    obtain ⟨v, h1, h2⟩ := h (off + j) c hj
    refine ⟨v, ?_, h2⟩
    simp [hlt, ← h1, Nat.add_assoc]
  · cases hj

theorem run_loadVar {t : Nat} {T : AT} (ht : tyOf P t = some T) (hs : Sim G μ σ w) {o g off b δ : Nat} {cs : List AV} {a : AV} (hc : cellsAt σ o g = some cs) (hp : partOf T cs off = some a) (hb : μ o g = some (b, δ)) :
    ∃ v, (loadVar t ⟨b, δ + off, none⟩).run P w = .ok v w ∧ VRel μ w a v := by
  obtain ⟨ro, e, ho⟩ := cellsAt_obj hc
  obtain ⟨ccs, fr, h1, h2, h3, h4⟩ := hs.cells ho hb
  unfold partOf at hp
  split at hp
  · rename_i hagg
    split at hp
    · rename_i hle
      cases hp
      have hsub := cells_sub h2 h3 off T.size hle
      have hlen : ((ccs.toList.drop (δ + off)).take T.size).length = T.size := by simp; omega
      have hl := run_loadCells_list (P := P) w ⟨b, δ + off, none⟩ ((ccs.toList.drop (δ + off)).take T.size) (fun j v hj => by
        rw [Addr.add_none, cell_of_heap h1]
        rw [List.getElem?_take] at hj
        split at hj
        · rw [List.getElem?_drop] at hj; simpa using hj
        · cases hj)
      rw [hlen] at hl
      exact ⟨.agg (List.take T.size (List.drop (δ + off) ccs.toList)).toArray, by simp [loadVar, run_agg ht, hagg, run_size ht, hl], _, rfl, by simpa using hsub⟩
    · cases hp
  · rename_i hagg
    obtain ⟨v, q1, q2⟩ := h3 off a hp
    refine ⟨v, ?_, q2⟩
    have : w.cell? ⟨b, δ + off, none⟩ = some v := by rw [cell_of_heap h1]; exact q1
    simp [loadVar, run_agg ht, hagg, this]

/-- A list of values written from a place on. -/
def setVals (ccs : Array Value) (off : Nat) : List Value → Array Value
  | [] => ccs
  | v :: vs => setVals (ccs.setIfInBounds off v) (off + 1) vs
theorem setVals_size (ccs : Array Value) (off : Nat) (vs : List Value) : (setVals ccs off vs).size = ccs.size := by
  induction vs generalizing ccs off with
  | nil => rfl
  | cons v vs ih => rw [setVals, ih]; simp
theorem setCells_length (cs : List AV) (off : Nat) (ys : List AV) : (setCells cs off ys).length = cs.length := by
  induction ys generalizing cs off with
  | nil => rfl
  | cons v vs ih => rw [setCells, ih]; simp
theorem heap_setCells {b e : Nat} {fr : Nat × Nat} : ∀ (vs : List Value) (off : Nat) (w : World) (ccs : Array Value), w.heap[b]? = some (.cells ccs e fr) →
    w.setCells b off vs = { w with heap := w.heap.setIfInBounds b (.cells (setVals ccs off vs) e fr) }
  | [], off, w, ccs, h => by
    simp only [World.setCells, setVals]
    have : w.heap.setIfInBounds b (.cells ccs e fr) = w.heap := by
      apply Array.ext_getElem?
      intro i
      rw [Array.getElem?_setIfInBounds]
      split
      · rename_i he; subst he; rw [if_pos (lt_of_heap h), h]
      · rfl
    rw [this]
  | v :: vs, off, w, ccs, h => by
    have hs : w.setCell ⟨b, off, none⟩ v = { w with heap := w.heap.setIfInBounds b (.cells (ccs.setIfInBounds off v) e fr) } := by
      unfold World.setCell
      congr 1
      apply Array.ext_getElem?
      intro i
      rw [Array.getElem?_setIfInBounds, Array.getElem?_modify]
      split
      · rename_i he; subst he; rw [h]; simp [lt_of_heap h]
      · rfl
    rw [World.setCells, hs, heap_setCells (e := e) (fr := fr) vs (off + 1) _ (ccs.setIfInBounds off v) (by show (w.heap.setIfInBounds b _)[b]? = _; rw [Array.getElem?_setIfInBounds]; simp [lt_of_heap h])]
    simp [setVals]

theorem setCells_rel {ys : List AV} {vs : List Value} (hr : VRels μ w ys vs) : ∀ {cs : List AV} {ccs : Array Value} {δ off : Nat}, δ + cs.length ≤ ccs.size → (∀ (j : Nat) c, cs[j]? = some c → ∃ v, ccs[δ + j]? = some v ∧ VRel μ w c v) →
    (∀ (j : Nat) c, (setCells cs off ys)[j]? = some c → ∃ v, (setVals ccs (δ + off) vs)[δ + j]? = some v ∧ VRel μ w c v) := by
  induction ys generalizing vs with
  | nil =>
    intro cs ccs δ off hl h
    simp only [VRels] at hr; subst hr
    exact h
  | cons y ys ih =>
    obtain ⟨v, vs', rfl, hv, hvs⟩ := hr
    intro cs ccs δ off hl h
    simp only [setCells, setVals]
    rw [Nat.add_assoc]
    refine ih hvs (by simpa using hl) (fun j c hj => ?_)
    rw [Array.getElem?_setIfInBounds]
    by_cases he : j = off
    · subst he
      have hlt : j < cs.length := by
        rcases Nat.lt_or_ge j cs.length with h' | h'
        · exact h'
        · rw [List.getElem?_eq_none (by simpa using h')] at hj; cases hj
      rw [List.getElem?_set_self hlt] at hj
      cases hj
      exact ⟨v, by rw [if_pos rfl, if_pos (by omega)], hv⟩
    · rw [List.getElem?_set_ne (fun h => he h.symm)] at hj
      obtain ⟨u, q1, q2⟩ := h j c hj
      exact ⟨u, by rw [if_neg (by omega)]; exact q1, q2⟩

/-- What is written into an object. -/
theorem Step.store (hs : Sim G μ σ w) {o g off b δ e : Nat} {cs ys : List AV} {vs : List Value} (ho : σ[o]? = some ⟨g, false, .cells e cs⟩) (hb : μ o g = some (b, δ)) (hr : VRels μ w ys vs) (h1 : ∀ v ∈ vs, v.oneCell' = true) (hle : off + ys.length ≤ cs.length) :
    ∃ w', (storeCells ⟨b, δ + off, none⟩ vs).run P w = .ok () w' ∧ Step G μ σ w μ (σ.set o ⟨g, false, .cells e (setCells cs off ys)⟩) w' := by
  obtain ⟨ccs, fr, q1, q2, q3, q4⟩ := hs.cells ho hb
  have hlen := hr.length
  have hrun := run_storeCells_cells (P := P) b (δ + off) vs 0 w (fun j hj => by
      rw [cell_of_heap q1, Option.isSome_iff_exists]; exact ⟨ccs[δ + off + 0 + j]'(by omega), by simp⟩)
    (fun j hj => by
      have := q4 rfl (δ + off + 0 + j) (by omega)
      simp only [World.frozen?, q1]
      simpa using this) h1
  rw [Nat.add_zero, heap_setCells vs _ w ccs q1] at hrun
  refine ⟨_, hrun, ?_⟩
  have hlt := lt_of_heap q1
  have hw : WExt w { w with heap := w.heap.setIfInBounds b (.cells (setVals ccs (δ + off) vs) e fr) } := by
    intro b' e' m h
    unfold World.shape? at h ⊢
    show (match (w.heap.setIfInBounds b _)[b']? with | some (.cells c elem _) => some (elem, c.size) | _ => none) = _
    rw [Array.getElem?_setIfInBounds]
    by_cases he : b = b'
    · subst he
      rw [q1] at h
      simpa [hlt, setVals_size] using h
    · rw [if_neg he]; exact h
  refine Step.write hs ho rfl rfl rfl b δ b δ hb (Nat.le_refl _) (Mu.le_refl μ) hb (fun _ _ _ h => .inl h) hw rfl rfl rfl (by simp) (by simpa using hlt) (.inl rfl)
    (fun k _ hk => by show (w.heap.setIfInBounds b _)[k]? = _; rw [Array.getElem?_setIfInBounds, if_neg (fun h => hk h.symm)]) ?_
  refine ⟨setVals ccs (δ + off) vs, fr, ?_, ?_, ?_, ?_⟩
  · show (w.heap.setIfInBounds b _)[b]? = _
    rw [Array.getElem?_setIfInBounds, if_pos rfl, if_pos hlt]
  · rw [setVals_size, setCells_length]; exact q2
  · intro j c hj
    obtain ⟨v, p1, p2⟩ := setCells_rel hr (off := off) q2 q3 j c hj
    exact ⟨v, p1, VRel.mono (Mu.le_refl μ) hw _ _ p2⟩
  · intro _ j hj
    rw [setVals_size] at hj
    exact q4 rfl j hj

/-- A new row of cells. -/
theorem Step.row (hs : Sim G μ σ w) (e : Nat) (cs : List AV) (ccs : Array Value) (hr : VRels μ w cs ccs.toList) :
    Step G μ σ w (μ.upd σ.length 0 (w.heap.size, 0)) (newCells e cs σ) { w with heap := w.heap.push (.cells ccs e) } := by
  refine Step.alloc hs ⟨0, false, .cells e cs⟩ (.cells ccs e) rfl (fun μ' w' hm hw hh => ⟨ccs, (0, 0), hh, ?_, ?_, ?_⟩)
  · have := hr.length; simp at this; omega
  · intro j c hj
    obtain ⟨v, q1, q2⟩ := hr.get j c hj
    exact ⟨v, by simpa using q1, VRel.mono hm hw _ _ q2⟩
  · intro _ j _ h; omega
end
end Go.Abs
