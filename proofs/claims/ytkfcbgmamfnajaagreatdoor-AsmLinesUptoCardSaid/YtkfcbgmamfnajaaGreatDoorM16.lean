/- AsmLines: for every text of at most 1048576 values and letters, the word of a text, or that it is none, is as the document says. The row's own conditions: the listed package-level variables start as the program's text lays them (the card ties them); the bound on what is read. -/
import Derived.Test.YtkfcbgmamfnajaaGreatDoorM15
import Derived.Test.YtkfcbgmamfnajaaGreatDoorM13
import Derived.Test.YtkfcbgmamfnajaaGreatDoorCards
import Derived.Test.YtkfcbgmamfnajaaGreatDoorTie
import Derived.SevenTiedAt
import Derived.Deep.DeepHandedRow
import Derived.Deep.DeepWitnessRowRef
set_option linter.unusedVariables false
set_option linter.unusedSimpArgs false
namespace Go.Proofs.YtkfcbgmamfnajaaGreatDoor
open Go Go.ChangeShapes Go.WideShapes Go.ChangeAt Go.ChangeMaps Go.RowKit Go.Abs Go.Abs.YtkfcbgmamfnajaaGreatDoor
set_option maxRecDepth 100000

theorem lines_start {W : World} (h : laidMetH Tryz.prog Rows.asmLinesUptoRow.laid W) : Start W :=
  start_mk (show laidMet Tryz.prog Rows.asmLinesUptoRow.laid W from h) (by simp [Rows.asmLinesUptoRow]) (by simp [Rows.asmLinesUptoRow]) (by simp [Rows.asmLinesUptoRow]) (by simp [Rows.asmLinesUptoRow])
theorem str_eq (s : ByteArray) : (⟨s.data.toList.toArray⟩ : ByteArray) = s := by cases s; rfl
theorem lines_reads (os : Os) {H : Type} (enc : TypeId × Value → H) : ∃ places, DataW.whole enc Tryz.prog ((w0 os).forCall (fun _ _ => 0) ⟨#[], #[.string ⟨#[]⟩], []⟩).memory Tryz.f3.params.toList Rows.asmLinesSpec.vars false #[Value.string ⟨#[]⟩].toList 8 = some ([.lit (.string [])], [], places) :=
  ⟨[], by kernel_rfl⟩
theorem bulk_str {H : Type} (l : List UInt8) (h : Rows.uptoSmall H [DataW.lit (.string l)] = true) : l.length ≤ 1048576 := by
  have h2 := of_decide_eq_true h
  simp only [Rows.uptoBulkAll, Rows.uptoBulk] at h2
  omega
theorem lines_lifted (os : Os) (started : os.Started) (H : Type) (enc : TypeId × Value → H) (F : Stop.Interp) :
    ReturnsInHanded {} Tryz.checked os 3 .any ((Rows.OpenSpec.upto Rows.asmLinesSpec).preRow enc Tryz.prog Tryz.f3 Rows.asmLinesUptoRow.domain false Rows.asmLinesUptoRow.laid) (((Rows.OpenSpec.upto Rows.asmLinesSpec).at F).post enc Tryz.prog Tryz.f3 false true false false) := by
  obtain ⟨places, hx⟩ := lines_reads os enc
  refine returnsInHanded_of_row (C := Tryz.checked) (s := Rows.OpenSpec.upto Rows.asmLinesSpec) own started (by kernel_rfl) Tryz.func3
    (witness_row_atRef (enc := enc) (C := Tryz.checked) false (w0 os) #[.string ⟨#[]⟩] rfl (by kernel_rfl) (by kernel_rfl) (by kernel_rfl)
      (OpenSpec.preRow_of_cond 8 hx (by kernel_rfl) (fun k hk => by cases hk; kernel_rfl) (by kernel_rfl) (lines_met os _))) ?_
  intro W base args ds gs before hval0 hW _ hcond _ hL hsh _
  have hval : ∀ (j : Nat) t v, Tryz.f3.params[j]? = some t → args[j]? = some v → Value.okWide Tryz.prog W .any base t v := hval0
  have hW' := hW
  obtain ⟨p, q, hA0, hV, rfl, hfz, hnd⟩ := hW
  have hA : DataW.TrodAll enc Tryz.prog W 0 (fun _ => true) true Tryz.f3.params.toList args.toList ds p := hA0
  rw [Tryz.params3] at hA hval
  obtain ⟨v0, d0, rfl, rfl, h0⟩ := trodAll_one hA
  obtain ⟨rfl, rfl⟩ := trodVars_none hV
  obtain ⟨s, rfl, rfl, rfl, hs⟩ := open_string Tryz.underlying9 (hval 0 9 v0 rfl rfl) h0
  have hb := bulk_str s.data.toList (hcond _ rfl)
  obtain ⟨m, hst⟩ := start_sim hsh (lines_start hL)
  have hen : Enters Tryz.prog 3 := enters_mk Tryz.func3 (by kernel_rfl) (by kernel_rfl)
  refine ((lines_to m s.data.toList (by omega)).ev.calls (X19_sound m) hen hst (cargs := #[.string s]) ⟨_, [], rfl, by simp [VRel], rfl⟩).mono fun e W' ha => ?_
  obtain ⟨r, σ', rfl, haf⟩ := ha
  obtain ⟨v, μ', rfl, hv, hbel⟩ := after_below (okG0 m) haf
  simp only [VRel] at hv
  subst hv
  refine ⟨_, rfl, _, _, _, [], [], [], hW', ?_, ?_, rfl, hbel.frame _, fun h => by cases h⟩
  · exact trodAll_mk1 (shut_bool Tryz.underlying4 true)
  · exact trodAll_mk1 (shut_string Tryz.underlying9 hs)
theorem lines_holds : Rows.AsmLinesUptoSaid :=
  OpenClaim.holds_of_cond 3 Tryz.f3 rfl rfl rfl rfl rfl rfl rfl ⟨rfl, rfl, rfl, rfl, rfl⟩ rfl rfl rfl rfl rfl (by kernel_rfl) Tryz.func3 (by kernel_rfl)
    (of_decide_eq_true (by kernel_rfl)) (by unfold Func.isWrapper; first | (rw [if_pos (by decide +kernel)]; kernel_rfl) | (rw [if_neg (by decide +kernel)]; exact ⟨rfl, rfl⟩))
    (fun os started H enc _ F => by rw [OpenClaim.pre_eq_preRow]; exact lines_lifted os started H enc F)
theorem lines_card : Rows.AsmLinesUptoCardSaid :=
  Claim7.holds_tied_plain_at .later [] _ _ _ _
    lines_holds (fun _ h => by cases h) (by kernel_rfl) (fun _ h => by cases h) asmLinesUpto_row_tie rfl ⟨rfl, rfl⟩ (by kernel_rfl) rfl
    (fun f fn hf hfn => by
      obtain rfl : f = 3 := Option.some.inj ((show Tryz.prog.funcNamed "fallow/fallowlaw08.AsmLines" = some 3 by kernel_rfl).symm.trans hf) |>.symm
      obtain rfl : fn = Tryz.f3 := (Option.some.inj (Tryz.func3.symm.trans hfn)).symm
      exact ⟨by kernel_rfl, fun j t ht => by
        rw [Tryz.params3] at ht
        have hm : t ∈ [9] := by simpa using Array.mem_of_getElem? ht
        have hall : ([9].all fun u => !Tryz.prog.wantsStandIn u) = true := by kernel_rfl
        exact (show Tryz.prog.wantsStandIn t = false by simpa using List.all_eq_true.1 hall t hm)⟩)
    (by kernel_rfl)
#print axioms lines_card
end Go.Proofs.YtkfcbgmamfnajaaGreatDoor
