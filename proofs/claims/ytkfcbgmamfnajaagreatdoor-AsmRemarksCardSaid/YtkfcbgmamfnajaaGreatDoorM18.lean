/- A caller's words, as one more object of the store. -/
import Derived.Test.YtkfcbgmamfnajaaGreatDoorM16
import Derived.Test.YtkfcbgmamfnajaaGreatDoorM14
import Derived.Test.YtkfcbgmamfnajaaGreatDoorM09
set_option linter.unusedVariables false
set_option linter.unusedSimpArgs false
namespace Go.Proofs.YtkfcbgmamfnajaaGreatDoor
open Go Go.ChangeShapes Go.WideShapes Go.ChangeAt Go.ChangeMaps Go.RowKit Go.Abs Go.Abs.YtkfcbgmamfnajaaGreatDoor
set_option maxRecDepth 100000
theorem laidOut : laidOutB Tryz.prog = true := by kernel_rfl
theorem cells_u32 : Tryz.prog.cellsOf 22 = 1 := by kernel_rfl
theorem rowAt_le {P : Program} {fits : TypeId → Bool} : ∀ (d : Nat) (e count off n : Nat), rowAt P fits d e count off n = true → off ≤ count * P.cellsOf e := by
  intro d e count off n h
  cases d with
  | zero => simp [rowAt] at h
  | succ d =>
    unfold rowAt at h
    simp only at h
    split at h
    · cases h
    · rename_i hs
      have hpos : 0 < P.cellsOf e := by omega
      have hdm := Nat.div_add_mod off (P.cellsOf e)
      have hml := Nat.mod_lt off hpos
      rw [Bool.or_eq_true, Bool.and_eq_true, Bool.and_eq_true, Bool.and_eq_true] at h
      rcases h with ⟨⟨h1, h2⟩, _⟩ | ⟨h1, _⟩
      · have h1 : off % P.cellsOf e = 0 := by simpa using h1
        have h2 : off / P.cellsOf e + n ≤ count := by simpa using h2
        have h3 : off / P.cellsOf e ≤ count := by omega
        have := Nat.mul_le_mul_right (P.cellsOf e) h3
        have hc := Nat.mul_comm (P.cellsOf e) (off / P.cellsOf e)
        omega
      · have h2 : off / P.cellsOf e + 1 ≤ count := Nat.succ_le_of_lt (by simpa using h1)
        have := Nat.mul_le_mul_right (P.cellsOf e) h2
        have hc := Nat.mul_comm (P.cellsOf e) (off / P.cellsOf e)
        rw [Nat.add_mul, Nat.one_mul] at this
        omega
theorem liesAt_le {P : Program} : ∀ (d : Nat) (e count off u n : Nat), liesAt P d e count off u n = true → off ≤ count * P.cellsOf e
  | 0, e, count, off, u, n, h => by simp [liesAt] at h
  | d + 1, e, count, off, u, n, h => by
    unfold liesAt at h
    rw [Bool.or_eq_true] at h
    rcases h with h | h
    · exact rowAt_le _ _ _ _ _ h
    · split at h
      · exact liesAt_le d _ _ _ _ _ h
      · cases h
/-- The caller's words, in the store. -/
theorem words_in {H : Type} {enc : TypeId × Value → H} {W : World} {m : Int} {μ0 : Mu} (hst : Sim 11 μ0 (G0 m) W) {a0 : Option Addr} {len cap : Nat} {d : DataW H} {ps : List MemPlace} (hv : Value.okWide Tryz.prog W .any 0 28 (.slice a0 len cap)) {fuel : Nat}
    (hf : DataW.trod enc Tryz.prog W 0 (fun _ => true) true fuel 28 (Value.cells (.slice a0 len cap)).toList = some (d, ps)) :
    ∃ σ0 μ vb, (∀ (o : Nat) (a : AO), σ0[o]? = some a → a.ro = false → a.k.live = true → False) ∧ Sim 11 μ σ0 W ∧ VRel μ W vb (.slice a0 len cap) ∧ μ0.le μ ∧ ((vb = .sl0 ∧ σ0 = G0 m) ∨ ∃ e ws, W32 ws ∧ vb = .sl 11 1 0 ws.length 1 ∧ σ0 = S1 m e (wordsC ws)) := by
  rcases open_ints Tryz.underlying28 Tryz.underlying22 cells_u32 hf with ⟨hcs, hx⟩ | ⟨a, len', cap', zs, hcs, _, hl, hm, hz, hx, hcell, hwz⟩
  · simp [Value.cells] at hcs
    obtain ⟨rfl, rfl, rfl⟩ := hcs
    exact ⟨G0 m, μ0, .sl0, okGlob_ro (okG0 m), hst, rfl, Mu.le_refl _, .inl ⟨rfl, rfl⟩⟩
  · simp [Value.cells] at hcs
    obtain ⟨rfl, rfl, rfl⟩ := hcs
    simp only [if_true] at hz
    have hok : len ≤ cap ∧ (cap : Int) ≤ IntKind.i64.max ∧ W.has Tryz.prog .any 0 a 22 cap := by
      have hv' := hv
      unfold Value.okWide at hv'
      rw [Tryz.underlying28] at hv'
      simp only [Cell.okWide, Cell.ok, Tryz.underlying28] at hv'
      exact hv'
    obtain ⟨_, _, _, hspot, row, cells, hshape, hlies⟩ := hok
    obtain ⟨b, off, spot⟩ := a
    simp only at hspot hshape hlies
    subst hspot
    have hoff : off ≤ cells := by
      have h1 := liesAt_le _ _ _ _ _ _ hlies
      have h2 := Nat.div_mul_le_self cells (Tryz.prog.cellsOf row)
      omega
    obtain ⟨ccs, fr, hb, hsz⟩ : ∃ ccs fr, W.heap[b]? = some (.cells ccs row fr) ∧ ccs.size = cells := by
      unfold World.shape? at hshape
      split at hshape
      · rename_i c e f hh
        cases hshape
        exact ⟨c, f, hh, rfl⟩
      · cases hshape
    have cj : ∀ j, j < zs.length → W.cell? ⟨b, off + j, none⟩ = some (.int .u32 (zs.getD j 0)) := fun j hj => by rw [← add_plain]; exact hcell j hj
    have cj2 : ∀ j, j < zs.length → ccs[off + j]? = some (.int .u32 (zs.getD j 0)) := fun j hj => by
      have := cj j hj
      rw [cell_of_heap hb] at this
      exact this
    have hall : off + cap ≤ cells := by
      rcases Nat.eq_zero_or_pos cap with h0 | h0
      · omega
      · have := cj2 (cap - 1) (by omega)
        have := (Array.getElem?_eq_some_iff.1 this).1
        omega
    have hz32 : ∀ z ∈ zs, 0 ≤ z ∧ z < 4294967296 := fun z hz' => by
      have h5 := hwz z hz'
      have e1 : IntKind.u32.min = 0 := rfl
      have e2 : IntKind.u32.max = 4294967295 := rfl
      have h6 : 0 ≤ z ∧ z ≤ 4294967295 := by simpa [Lit.wf, e1, e2] using h5
      omega
    have hbl : (zs.take len).length = len := by simp; omega
    have hcells : ∀ (j : Nat) c, (wordsC (zs.take len))[j]? = some c → ∃ v, ccs[off + j]? = some v ∧ VRel μ0 W c v := by
      intro j c hj
      have hj' : j < len := by
        have := (List.getElem?_eq_some_iff.1 hj).1
        rw [wordsC_len, hbl] at this; exact this
      have hzj : zs[j]? = some zs[j] := List.getElem?_eq_getElem (by omega)
      have hc : c = .i .u32 zs[j] := by
        unfold wordsC at hj
        rw [List.getElem?_map, List.getElem?_take, if_pos hj', hzj] at hj
        exact (Option.some.inj hj).symm
      refine ⟨_, cj2 j (by omega), ?_⟩
      rw [hc]
      simp only [VRel, List.getD, hzj, Option.getD_some]
    obtain ⟨μ', hs', hm', hle⟩ := hst.addRo (okGlob_ro (okG0 m)) (e := row) (cs := wordsC (zs.take len)) hb (by rw [wordsC_len, hbl]; omega) hcells
    refine ⟨_, μ', .sl 11 1 0 (zs.take len).length 1, ?_, hs', ?_, hle, .inr ⟨row, zs.take len, fun w hw => hz32 w (List.mem_of_mem_take hw), rfl, rfl⟩⟩
    · intro o a ho hr hl'
      rcases Nat.lt_trichotomy o (G0 m).length with hlt | he | hgt
      · rw [List.getElem?_append_left hlt] at ho; exact okGlob_ro (okG0 m) o a ho hr hl'
      · subst he; simp at ho; subst ho; cases hr
      · rw [List.getElem?_eq_none (by simp; omega)] at ho; cases ho
    · exact ⟨b, off, off, cap, row, cells, hm', by rw [hbl], by omega, .inl rfl, hshape, by omega⟩
end Go.Proofs.YtkfcbgmamfnajaaGreatDoor
