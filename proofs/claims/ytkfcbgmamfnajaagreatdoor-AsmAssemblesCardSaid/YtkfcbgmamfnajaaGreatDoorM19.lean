/- The start, where errors.errorType is listed too. -/
import Derived.Test.YtkfcbgmamfnajaaGreatDoorM17
set_option linter.unusedVariables false
set_option linter.unusedSimpArgs false
namespace Go.Proofs.YtkfcbgmamfnajaaGreatDoor
open Go Go.ChangeShapes Go.WideShapes Go.ChangeAt Go.RowKit Go.Abs Go.Abs.YtkfcbgmamfnajaaGreatDoor
set_option maxRecDepth 100000
theorem gEt : Tryz.prog.globalNamed "errors.errorType" = some 0 := by kernel_rfl
theorem rt : (Tryz.prog.cutTypes.find? (·.1 == "internal/reflectlite.rtype")).map (·.2) = some 165 := by kernel_rfl
theorem psize : Tryz.prog.types.size = 234 := by kernel_rfl
theorem oneRow : ((List.range 234).filter fun t => Tryz.prog.rowNamed t [101, 114, 114, 111, 114]) = [33] := by kernel_rfl
/-- A read-only object told once more. -/
theorem Sim.reread {G : Nat} {μ : Mu} {σ : St} {w : World} (hs : Sim G μ σ w) {o g e : Nat} {cs cs' : List AV} (ho : σ[o]? = some ⟨g, true, .cells e cs⟩) (hl : cs'.length = cs.length) {b δ : Nat} (hb : μ o g = some (b, δ))
    (hc : ∀ (ccs : Array Value) fr, w.heap[b]? = some (.cells ccs e fr) → ∀ (j : Nat) c, cs'[j]? = some c → ∃ v, ccs[δ + j]? = some v ∧ VRel μ w c v) : Sim G μ (σ.set o ⟨g, true, .cells e cs'⟩) w := by
  refine ⟨fun o1 a1 h1 hl1 => ?_, fun o1 o2 a1 a2 b1 δ1 δ2 h1 h2 hr hl1 hl2 q1 q2 => ?_, fun o1 g1 x q => ?_, hs.blk, hs.glob, hs.low, fun g1 e1 cs1 hg1 h1 => ?_⟩
  · rcases set_get h1 with ⟨rfl, rfl⟩ | ⟨_, h1'⟩
    · obtain ⟨ccs, fr, q1, q2, _, _⟩ := hs.cells ho hb
      exact ⟨b, δ, hb, ccs, fr, q1, by rw [hl]; exact q2, hc ccs fr q1, fun h => by cases h⟩
    · exact hs.obj o1 a1 h1' hl1
  · rcases set_get h1 with ⟨rfl, rfl⟩ | ⟨_, h1'⟩
    · cases hr
    · rcases set_get h2 with ⟨rfl, rfl⟩ | ⟨_, h2'⟩
      · exact hs.inj o1 o2 a1 _ b1 δ1 δ2 h1' ho hr hl1 rfl q1 q2
      · exact hs.inj o1 o2 a1 a2 b1 δ1 δ2 h1' h2' hr hl1 hl2 q1 q2
  · obtain ⟨a1, h1, h2⟩ := hs.dom _ _ _ q
    by_cases he : o1 = o
    · subst he
      rw [ho] at h1; cases h1
      exact ⟨_, at_set ho _, h2⟩
    · exact ⟨a1, by rw [List.getElem?_set_ne (fun h => he h.symm)]; exact h1, h2⟩
  · rcases set_get h1 with ⟨rfl, h3⟩ | ⟨_, h1'⟩
    · cases h3
      have := hs.full g1 e cs hg1 ho
      rw [this, hl]
    · exact hs.full g1 e1 cs1 hg1 h1'
def etV : Value := .iface 165 (.agg #[.pointer (some ⟨10, 33, none⟩)])
theorem start_sim1 {W : World} (hsh : W.ShapedOpen Tryz.prog) (h : Start W) (het : W.var? Tryz.prog "errors.errorType" = some #[etV]) : ∃ m, m % 2 = 1 ∧ Sim 11 (mu0 11) (G0 m) W := by
  obtain ⟨m, hs⟩ := start_sim hsh h
  by_cases hm : m % 2 = 1
  · exact ⟨m, hm, hs⟩
  · refine ⟨m + 1, by omega, ?_⟩
    have hmu : ∀ o, o < 11 → mu0 11 o 0 = some (o, 0) := fun o ho => if_pos ⟨ho, rfl⟩
    have e1 : et0 (m + 1) = [.ic 165 (.ag [.p 10 0 33])] := by unfold et0; rw [decide_eq_true (by omega)]
    have e0 : et0 m = [.u] := by unfold et0; rw [decide_eq_false hm]
    have e2 : G0 (m + 1) = (G0 m).set 0 ⟨0, true, .cells 132 [.ic 165 (.ag [.p 10 0 33])]⟩ := by
      unfold G0
      rw [e1, show (m + 1) / 2 = m / 2 by omega]; rfl
    rw [e2]
    refine Sim.reread hs (o := 0) (cs := et0 m) rfl (by rw [e0]; rfl) (hmu 0 (by decide)) (fun ccs fr hh j c hj => ?_)
    obtain ⟨t1, f1, hw⟩ := var_heap gEt het
    rw [hh] at hw
    injection Option.some.inj hw with ha hb hc
    subst ha
    match j, hj with
    | 0, hj => cases hj; exact ⟨etV, rfl, _, rfl, _, rfl, _, [], rfl, ⟨10, 0, hmu 10 (by decide), rfl⟩, rfl⟩
theorem et_mk {W : World} (hh : handlesMet Tryz.prog [("errors.errorType", Rows.laid_errors_errorType)] W) : W.var? Tryz.prog "errors.errorType" = some #[etV] := by
  obtain ⟨name, u, ty, e1, e2, e3, e4, e5⟩ := hh _ (List.mem_singleton.2 rfl)
  have en : name = [101, 114, 114, 111, 114] := (Option.some.inj e1).symm
  subst en
  obtain rfl := Option.some.inj (rt.symm.trans e2)
  have hm : ty ∈ (List.range 234).filter fun t => Tryz.prog.rowNamed t [101, 114, 114, 111, 114] := List.mem_filter.2 ⟨List.mem_range.2 (by rw [← psize]; exact e3), e4⟩
  rw [oneRow] at hm
  obtain rfl := List.mem_singleton.1 hm
  have hh : typeHandle Tryz.prog 33 = .pointer (some ⟨10, 33, none⟩) := by kernel_rfl
  rw [hh] at e5
  exact e5
theorem known_met (os : Os) (args : Array Value) : laidMetH Tryz.prog Rows.asmKnownRow.laid ((w0 os).forCall (fun _ _ => 0) ⟨#[], args, []⟩).memory :=
  laidMetH_of_parts3 (fuel := 8) (laidMet_of_run' 8 (by kernel_rfl) (by kernel_rfl)) (by kernel_rfl) (by kernel_rfl)
end Go.Proofs.YtkfcbgmamfnajaaGreatDoor
