/- AsmKnown: the chapter's examples and limits of the assembler: the closed statement is true. The row's own conditions: the listed package-level variables start as the program's text lays them (the card ties them). -/
import Derived.Test.YtkfcbgmamfnajaaGreatDoorM19
import Derived.Test.YtkfcbgmamfnajaaGreatDoorM15
import Derived.Test.YtkfcbgmamfnajaaGreatDoorCards
import Derived.Test.YtkfcbgmamfnajaaGreatDoorTie
import Derived.SevenTiedAt
set_option linter.unusedVariables false
set_option linter.unusedSimpArgs false
namespace Go.Proofs.YtkfcbgmamfnajaaGreatDoor
open Go Go.ChangeShapes Go.WideShapes Go.ChangeAt Go.ChangeMaps Go.RowKit Go.Abs Go.Abs.YtkfcbgmamfnajaaGreatDoor
set_option maxRecDepth 100000
def plainL : List (String × DataW Unit) := [("math/bits.deBruijn32tab", Rows.laid_math_bits_deBruijn32tab), ("math/bits.deBruijn64tab", Rows.laid_math_bits_deBruijn64tab), ("internal/strconv.uint64pow10", Rows.laid_internal_strconv_uint64pow10), ("unicode/utf8.acceptRanges", Rows.laid_unicode_utf8_acceptRanges), ("strconv.ErrRange", Rows.laid_strconv_ErrRange), ("strconv.ErrSyntax", Rows.laid_strconv_ErrSyntax), ("fallow/isa.rows", Rows.laid_fallow_isa_rows), ("unicode/utf8.first", Rows.laid_unicode_utf8_first)]
theorem known_start {W : World} (h : laidMetH Tryz.prog Rows.asmKnownRow.laid W) : Start W ∧ W.var? Tryz.prog "errors.errorType" = some #[etV] := by
  have h' : laidMet Tryz.prog plainL W ∧ handlesMet Tryz.prog [("errors.errorType", Rows.laid_errors_errorType)] W := h
  exact ⟨start_mk h'.1 (by simp [plainL]) (by simp [plainL]) (by simp [plainL]) (by simp [plainL]), et_mk h'.2⟩
theorem known_lifted (os : Os) (started : os.Started) (H : Type) (enc : TypeId × Value → H) :
    ReturnsInHanded {} Tryz.checked os 9 .any (fun w args => (Rows.asmKnownSpec.pre enc Tryz.prog Tryz.f9 [] false w args ∧ laidMetH Tryz.prog Rows.asmKnownRow.laid w) ∧ sizedMet enc Tryz.prog Tryz.f9 (OpenSpec.ofChange Rows.asmKnownSpec) false w args)
      (Rows.asmKnownSpec.post enc Tryz.prog Tryz.f9 false true false false) := by
  refine returns_shaped (C := Tryz.checked) (X := fun w _ => laidMetH Tryz.prog Rows.asmKnownRow.laid w) (fun _ _ _ hh h => h.of_heap hh) own started (by kernel_rfl) Tryz.func9
    (ChangeSpec.witness_shaped (enc := enc) (C := Tryz.checked) (os := os) (X := fun w _ => laidMetH Tryz.prog Rows.asmKnownRow.laid w) false (w0 os) #[] 8 rfl (World.shaped_of_RefB (by kernel_rfl) (by kernel_rfl)) (by kernel_rfl) (by kernel_rfl) (by kernel_rfl) (known_met os _)) ?_
  intro W base args ds gs before hsh hval0 hW hL
  have hW' := hW
  obtain ⟨p, q, hA0, hV, rfl, hfz, hnd⟩ := hW
  have hA : DataW.TrodAll enc Tryz.prog W 0 (fun _ => true) true Tryz.f9.params.toList args.toList ds p := hA0
  rw [Tryz.params9] at hA
  obtain ⟨rfl, rfl, rfl⟩ := trodAll_none hA
  obtain ⟨rfl, rfl⟩ := trodVars_none hV
  obtain ⟨h1, h2⟩ := known_start hL
  obtain ⟨m, hm, hst⟩ := start_sim1 hsh h1 h2
  have hen : Enters Tryz.prog 9 := enters_mk Tryz.func9 (by kernel_rfl) (by kernel_rfl)
  refine ((known_to m hm).ev.calls (X23_sound m) hen hst (cargs := #[]) rfl).mono fun e W' ha => ?_
  obtain ⟨r, σ', rfl, haf⟩ := ha
  obtain ⟨v, μ', rfl, hv, hb⟩ := after_below (okG0 m) haf
  simp only [VRel] at hv
  subst hv
  refine ⟨_, rfl, _, _, _, [], [], [], hW', ?_, ?_, rfl, hb.frame _, fun h => by cases h⟩
  · exact trodAll_mk1 (shut_bool Tryz.underlying4 true)
  · exact trodAll_mk0
theorem known_holds : Rows.AsmKnownSaid :=
  OpenClaim.holds_of_wide 9 Tryz.f9 rfl rfl rfl rfl rfl rfl rfl ⟨rfl, rfl, rfl, rfl, rfl⟩ rfl rfl rfl rfl rfl (by kernel_rfl) Tryz.func9 (by kernel_rfl)
    (of_decide_eq_true (by kernel_rfl)) (by unfold Func.isWrapper; first | (rw [if_pos (by decide +kernel)]; kernel_rfl) | (rw [if_neg (by decide +kernel)]; exact ⟨rfl, rfl⟩))
    (fun os started H enc _ => known_lifted os started H enc)
theorem known_card : Rows.AsmKnownCardSaid :=
  Claim7.holds_tied_plain_at .later [] Rows.asmKnownCard.laidKinds true Rows.asmKnownCard.stood.harness true
    known_holds (fun _ h => by cases h) (by kernel_rfl) (fun _ h => by cases h) asmKnown_row_tie rfl ⟨rfl, rfl⟩ (by kernel_rfl) rfl
    (fun f fn hf hfn => by
      obtain rfl : f = 9 := Option.some.inj ((show Tryz.prog.funcNamed "fallow/fallowlaw08.AsmKnown" = some 9 by kernel_rfl).symm.trans hf) |>.symm
      obtain rfl : fn = Tryz.f9 := (Option.some.inj (Tryz.func9.symm.trans hfn)).symm
      exact ⟨by kernel_rfl, fun j t ht => by
        rw [Tryz.params9] at ht
        simp at ht⟩)
    (by kernel_rfl)
#print axioms known_card
end Go.Proofs.YtkfcbgmamfnajaaGreatDoor
