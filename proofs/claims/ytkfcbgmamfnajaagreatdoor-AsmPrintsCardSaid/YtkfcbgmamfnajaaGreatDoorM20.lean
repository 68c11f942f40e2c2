/- AsmPrints: for any words (of which the first hundred are taken), each word's text, and the text of all, are as the document says. The row's own conditions: the listed package-level variables start as the program's text lays them (the card ties them). -/
import Derived.Test.YtkfcbgmamfnajaaGreatDoorM17
import Derived.Test.YtkfcbgmamfnajaaGreatDoorM18
import Derived.Test.YtkfcbgmamfnajaaGreatDoorCards
import Derived.Test.YtkfcbgmamfnajaaGreatDoorTie
import Derived.SevenTiedAt
set_option linter.unusedVariables false
set_option linter.unusedSimpArgs false
namespace Go.Proofs.YtkfcbgmamfnajaaGreatDoor
open Go Go.ChangeShapes Go.WideShapes Go.ChangeAt Go.ChangeMaps Go.RowKit Go.Abs Go.Abs.YtkfcbgmamfnajaaGreatDoor
set_option maxRecDepth 100000

theorem prints_start {W : World} (h : laidMetH Tryz.prog Rows.asmPrintsRow.laid W) : Start W :=
  start_mk (show laidMet Tryz.prog Rows.asmPrintsRow.laid W from h) (by simp [Rows.asmPrintsRow]) (by simp [Rows.asmPrintsRow]) (by simp [Rows.asmPrintsRow]) (by simp [Rows.asmPrintsRow])
theorem prints_lifted (os : Os) (started : os.Started) (H : Type) (enc : TypeId × Value → H) :
    ReturnsInHanded {} Tryz.checked os 4 .any (fun w args => (Rows.asmPrintsSpec.pre enc Tryz.prog Tryz.f4 [] false w args ∧ laidMetH Tryz.prog Rows.asmPrintsRow.laid w) ∧ sizedMet enc Tryz.prog Tryz.f4 (OpenSpec.ofChange Rows.asmPrintsSpec) false w args)
      (Rows.asmPrintsSpec.post enc Tryz.prog Tryz.f4 false true false false) := by
  refine returns_shaped (C := Tryz.checked) (X := fun w _ => laidMetH Tryz.prog Rows.asmPrintsRow.laid w) (fun _ _ _ hh h => h.of_heap hh) own started (by kernel_rfl) Tryz.func4
    (ChangeSpec.witness_shaped (enc := enc) (C := Tryz.checked) (os := os) (X := fun w _ => laidMetH Tryz.prog Rows.asmPrintsRow.laid w) false (w0 os) #[.slice none 0 0] 8 rfl (World.shaped_of_RefB (by kernel_rfl) (by kernel_rfl)) (by kernel_rfl) (by kernel_rfl) (by kernel_rfl) (lines_met os _)) ?_
  intro W base args ds gs before hsh hval0 hW hL
  have hval : ∀ (j : Nat) t v, Tryz.f4.params[j]? = some t → args[j]? = some v → Value.okWide Tryz.prog W .any base t v := hval0
  have hW' := hW
  obtain ⟨p, q, hA0, hV, rfl, hfz, hnd⟩ := hW
  have hA : DataW.TrodAll enc Tryz.prog W 0 (fun _ => true) true Tryz.f4.params.toList args.toList ds p := hA0
  rw [Tryz.params4] at hA hval
  obtain ⟨v1, d1, rfl, rfl, h1⟩ := trodAll_one hA
  obtain ⟨rfl, rfl⟩ := trodVars_none hV
  have hv1 := hval 0 28 v1 rfl rfl
  obtain ⟨a0, len, cap, rfl⟩ := okWide_slice Tryz.underlying28 hv1
  have h1k := h1
  obtain ⟨fuel, hf⟩ := h1
  have hlt : ∀ x ∈ p, x.block < W.heap.size := fun x hx => hW'.lt x (by simp [hx])
  have hargs : ∀ (W' : World), Below W.heap.size W W' → DataW.Trod enc Tryz.prog W' 0 (fun b => decide (b < W.heap.size)) true 28 (.slice a0 len cap) d1 p :=
    fun W' hn => Below.trod laidOut (by kernel_rfl) (of_decide_eq_true (by kernel_rfl)) h1k hn hlt
  obtain ⟨m, hst⟩ := start_sim hsh (prints_start hL)
  obtain ⟨σ0, μ, vb, hro, hsim, hvr, _, hcase⟩ := words_in hst hv1 hf
  have hen : Enters Tryz.prog 4 := enters_mk Tryz.func4 (by kernel_rfl) (by kernel_rfl)
  have hcall : CallF (X22 m) 4 [vb] σ0 fun v _ => v = .b true := by
    rcases hcase with ⟨rfl, rfl⟩ | ⟨e, ws, hw, rfl, rfl⟩
    · exact prints0_to m
    · exact prints_to m e ws hw
  refine (hcall.ev.calls (X22_sound m) hen hsim (cargs := #[.slice a0 len cap]) ⟨_, [], rfl, hvr, rfl⟩).mono fun e W' ha => ?_
  obtain ⟨r, σ', rfl, haf⟩ := ha
  obtain ⟨v, μ', rfl, hv, hb⟩ := after_below_ro hro haf
  simp only [VRel] at hv
  subst hv
  refine ⟨_, rfl, _, _, _, [], p, [], hW', ?_, ?_, rfl, hb.frame _, fun h => by cases h⟩
  · exact trodAll_mk1 (shut_bool Tryz.underlying4 true)
  · exact trodAll_mk1 (hargs _ hb)
theorem prints_holds : Rows.AsmPrintsSaid :=
  OpenClaim.holds_of_wide 4 Tryz.f4 rfl rfl rfl rfl rfl rfl rfl ⟨rfl, rfl, rfl, rfl, rfl⟩ rfl rfl rfl rfl rfl (by kernel_rfl) Tryz.func4 (by kernel_rfl)
    (of_decide_eq_true (by kernel_rfl)) (by unfold Func.isWrapper; first | (rw [if_pos (by decide +kernel)]; kernel_rfl) | (rw [if_neg (by decide +kernel)]; exact ⟨rfl, rfl⟩))
    (fun os started H enc _ => prints_lifted os started H enc)
theorem prints_card : Rows.AsmPrintsCardSaid :=
  Claim7.holds_tied_plain_at .later [] Rows.asmPrintsCard.laidKinds true Rows.asmPrintsCard.stood.harness true
    prints_holds (fun _ h => by cases h) (by kernel_rfl) (fun _ h => by cases h) asmPrints_row_tie rfl ⟨rfl, rfl⟩ (by kernel_rfl) rfl
    (fun f fn hf hfn => by
      obtain rfl : f = 4 := Option.some.inj ((show Tryz.prog.funcNamed "fallow/fallowlaw08.AsmPrints" = some 4 by kernel_rfl).symm.trans hf) |>.symm
      obtain rfl : fn = Tryz.f4 := (Option.some.inj (Tryz.func4.symm.trans hfn)).symm
      exact ⟨by kernel_rfl, fun j t ht => by
        rw [Tryz.params4] at ht
        have hm : t ∈ [28] := by simpa using Array.mem_of_getElem? ht
        have hall : ([28].all fun u => !Tryz.prog.wantsStandIn u) = true := by kernel_rfl
        exact (show Tryz.prog.wantsStandIn t = false by simpa using List.all_eq_true.1 hall t hm)⟩)
    (by kernel_rfl)
#print axioms prints_card
end Go.Proofs.YtkfcbgmamfnajaaGreatDoor
