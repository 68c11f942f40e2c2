/- AsmAssembles: for every text the words of a source, or what is wrong, and where, are as the document says. The row's own conditions: the listed package-level variables start as the program's text lays them (the card ties them). -/
import Derived.Test.YtkfcbgmamfnajaaGreatDoorM19
import Derived.Test.YtkfcbgmamfnajaaGreatDoorM23
import Derived.Test.YtkfcbgmamfnajaaGreatDoorCards
import Derived.Test.YtkfcbgmamfnajaaGreatDoorTie
import Derived.SevenTiedAt
set_option linter.unusedVariables false
set_option linter.unusedSimpArgs false
namespace Go.Proofs.YtkfcbgmamfnajaaGreatDoor
open Go Go.ChangeShapes Go.WideShapes Go.ChangeAt Go.ChangeMaps Go.RowKit Go.Abs Go.Abs.YtkfcbgmamfnajaaGreatDoor
set_option maxRecDepth 100000

def plainL : List (String × DataW Unit) := [("math/bits.deBruijn32tab", Rows.laid_math_bits_deBruijn32tab), ("math/bits.deBruijn64tab", Rows.laid_math_bits_deBruijn64tab), ("internal/strconv.uint64pow10", Rows.laid_internal_strconv_uint64pow10), ("unicode/utf8.acceptRanges", Rows.laid_unicode_utf8_acceptRanges), ("strconv.ErrRange", Rows.laid_strconv_ErrRange), ("strconv.ErrSyntax", Rows.laid_strconv_ErrSyntax), ("fallow/isa.rows", Rows.laid_fallow_isa_rows), ("unicode/utf8.first", Rows.laid_unicode_utf8_first)]
theorem assembles_start {W : World} (h : laidMetH Tryz.prog Rows.asmAssemblesRow.laid W) : Start W ∧ W.var? Tryz.prog "errors.errorType" = some #[etV] := by
  have h' : laidMet Tryz.prog plainL W ∧ handlesMet Tryz.prog [("errors.errorType", Rows.laid_errors_errorType)] W := h
  exact ⟨start_mk h'.1 (by simp [plainL]) (by simp [plainL]) (by simp [plainL]) (by simp [plainL]), et_mk h'.2⟩
theorem assembles_met (os : Os) (args : Array Value) : laidMetH Tryz.prog Rows.asmAssemblesRow.laid ((w0 os).forCall (fun _ _ => 0) ⟨#[], args, []⟩).memory :=
  laidMetH_of_parts3 (fuel := 8) (laidMet_of_run' 8 (by kernel_rfl) (by kernel_rfl)) (by kernel_rfl) (by kernel_rfl)
theorem assembles_lifted (os : Os) (started : os.Started) (H : Type) (enc : TypeId × Value → H) :
    ReturnsInHanded {} Tryz.checked os 8 .any (fun w args => (Rows.asmAssemblesSpec.pre enc Tryz.prog Tryz.f8 [] false w args ∧ laidMetH Tryz.prog Rows.asmAssemblesRow.laid w) ∧ sizedMet enc Tryz.prog Tryz.f8 (OpenSpec.ofChange Rows.asmAssemblesSpec) false w args)
      (Rows.asmAssemblesSpec.post enc Tryz.prog Tryz.f8 false true false false) := by
  refine returns_shaped (C := Tryz.checked) (X := fun w _ => laidMetH Tryz.prog Rows.asmAssemblesRow.laid w) (fun _ _ _ hh h => h.of_heap hh) own started (by kernel_rfl) Tryz.func8
    (ChangeSpec.witness_shaped (enc := enc) (C := Tryz.checked) (os := os) (X := fun w _ => laidMetH Tryz.prog Rows.asmAssemblesRow.laid w) false (w0 os) #[.string ⟨#[]⟩] 8 rfl (World.shaped_of_RefB (by kernel_rfl) (by kernel_rfl)) (by kernel_rfl) (by kernel_rfl) (by kernel_rfl) (assembles_met os _)) ?_
  intro W base args ds gs before hsh hval0 hW hL
  have hval : ∀ (j : Nat) t v, Tryz.f8.params[j]? = some t → args[j]? = some v → Value.okWide Tryz.prog W .any base t v := hval0
  have hW' := hW
  obtain ⟨p, q, hA0, hV, rfl, hfz, hnd⟩ := hW
  have hA : DataW.TrodAll enc Tryz.prog W 0 (fun _ => true) true Tryz.f8.params.toList args.toList ds p := hA0
  rw [Tryz.params8] at hA hval
  obtain ⟨v0, d0, rfl, rfl, h0⟩ := trodAll_one hA
  obtain ⟨rfl, rfl⟩ := trodVars_none hV
  obtain ⟨s, rfl, rfl, rfl, hs⟩ := open_string Tryz.underlying9 (hval 0 9 v0 rfl rfl) h0
  obtain ⟨h1, h2⟩ := assembles_start hL
  obtain ⟨m, hm, hst⟩ := start_sim1 hsh h1 h2
  have hen : Enters Tryz.prog 8 := enters_mk Tryz.func8 (by kernel_rfl) (by kernel_rfl)
  refine ((assembles_to hm s.data.toList).ev.calls (X24_sound m) hen hst (cargs := #[.string s]) ⟨_, [], rfl, by simp [VRel], rfl⟩).mono fun e W' ha => ?_
  obtain ⟨r, σ', rfl, haf⟩ := ha
  obtain ⟨v, μ', rfl, hv, hb⟩ := after_below (okG0 m) haf
  simp only [VRel] at hv
  subst hv
  refine ⟨_, rfl, _, _, _, [], [], [], hW', ?_, ?_, rfl, hb.frame _, fun h => by cases h⟩
  · exact trodAll_mk1 (shut_bool Tryz.underlying4 true)
  · exact trodAll_mk1 (shut_string Tryz.underlying9 hs)
theorem assembles_holds : Rows.AsmAssemblesSaid :=
  OpenClaim.holds_of_wide 8 Tryz.f8 rfl rfl rfl rfl rfl rfl rfl ⟨rfl, rfl, rfl, rfl, rfl⟩ rfl rfl rfl rfl rfl (by kernel_rfl) Tryz.func8 (by kernel_rfl)
    (of_decide_eq_true (by kernel_rfl)) (by unfold Func.isWrapper; first | (rw [if_pos (by decide +kernel)]; kernel_rfl) | (rw [if_neg (by decide +kernel)]; exact ⟨rfl, rfl⟩))
    (fun os started H enc _ => assembles_lifted os started H enc)
theorem assembles_card : Rows.AsmAssemblesCardSaid :=
  Claim7.holds_tied_plain_at .later [] Rows.asmAssemblesCard.laidKinds true Rows.asmAssemblesCard.stood.harness true
    assembles_holds (fun _ h => by cases h) (by kernel_rfl) (fun _ h => by cases h) asmAssembles_row_tie rfl ⟨rfl, rfl⟩ (by kernel_rfl) rfl
    (fun f fn hf hfn => by
      obtain rfl : f = 8 := Option.some.inj ((show Tryz.prog.funcNamed "fallow/fallowlaw08.AsmAssembles" = some 8 by kernel_rfl).symm.trans hf) |>.symm
      obtain rfl : fn = Tryz.f8 := (Option.some.inj (Tryz.func8.symm.trans hfn)).symm
      exact ⟨by kernel_rfl, fun j t ht => by
        rw [Tryz.params8] at ht
        have hm : t ∈ [9] := by simpa using Array.mem_of_getElem? ht
        have hall : ([9].all fun u => !Tryz.prog.wantsStandIn u) = true := by kernel_rfl
        exact (show Tryz.prog.wantsStandIn t = false by simpa using List.all_eq_true.1 hall t hm)⟩)
    (by kernel_rfl)
#print axioms assembles_card
end Go.Proofs.YtkfcbgmamfnajaaGreatDoor
