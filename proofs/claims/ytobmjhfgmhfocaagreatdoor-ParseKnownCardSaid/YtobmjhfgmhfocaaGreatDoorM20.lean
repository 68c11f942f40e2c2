/- ParseKnown: the chapter's examples of the parser and the printer: the closed statement is true, by a run of the program that the kernel works out. The row's own conditions: the listed package-level variables start as the program's text lays them (the card ties them). -/
import Derived.Test.YtobmjhfgmhfocaaGreatDoorM12
import Derived.Test.YtobmjhfgmhfocaaGreatDoorM19
import Derived.Test.YtobmjhfgmhfocaaGreatDoorCards
import Derived.Test.YtobmjhfgmhfocaaGreatDoorTie
import Derived.SevenTiedAt
set_option linter.unusedVariables false
set_option linter.unusedSimpArgs false
namespace Go.Proofs.YtobmjhfgmhfocaaGreatDoor
open Go Go.ChangeShapes Go.WideShapes Go.ChangeAt Go.ChangeMaps Go.RowKit Go.Abs Go.Abs.YtobmjhfgmhfocaaGreatDoor
set_option maxRecDepth 100000

theorem known_start {W : World} (h : laidMetH Tryz.prog Rows.parseKnownRow.laid W) : Start W := by
  have h' : laidMet Tryz.prog [("math/bits.deBruijn32tab", Rows.laid_math_bits_deBruijn32tab), ("math/bits.deBruijn64tab", Rows.laid_math_bits_deBruijn64tab), ("internal/strconv.uint64pow10", Rows.laid_internal_strconv_uint64pow10), ("strconv.ErrRange", Rows.laid_strconv_ErrRange), ("strconv.ErrSyntax", Rows.laid_strconv_ErrSyntax), ("unicode.White_Space", Rows.laid_unicode_White_Space), ("strings.asciiSpace", Rows.laid_strings_asciiSpace)] W ∧ handlesMet Tryz.prog [("errors.errorType", Rows.laid_errors_errorType)] W := h
  exact start_mk h'.1 h'.2 (by simp) (by simp) (by simp)
theorem known_lifted (os : Os) (started : os.Started) (H : Type) (enc : TypeId × Value → H) :
    ReturnsInHanded {} Tryz.checked os 10 .any (fun w args => (Rows.parseKnownSpec.pre enc Tryz.prog Tryz.f10 [] false w args ∧ laidMetH Tryz.prog Rows.parseKnownRow.laid w) ∧ sizedMet enc Tryz.prog Tryz.f10 (OpenSpec.ofChange Rows.parseKnownSpec) false w args)
      (Rows.parseKnownSpec.post enc Tryz.prog Tryz.f10 false true false false) := by
  refine returns_shaped (C := Tryz.checked) (X := fun w _ => laidMetH Tryz.prog Rows.parseKnownRow.laid w) (fun _ _ _ hh h => h.of_heap hh) own started (by kernel_rfl) Tryz.func10
    (ChangeSpec.witness_shaped (enc := enc) (C := Tryz.checked) (os := os) (X := fun w _ => laidMetH Tryz.prog Rows.parseKnownRow.laid w) false (World.doorLaid Tryz.prog 400 os) #[] 8 rfl (World.shaped_of_RefB (by kernel_rfl) (by kernel_rfl)) (by kernel_rfl) (by kernel_rfl) (by kernel_rfl) (reads_met os _)) ?_
  intro W base args ds gs before hsh hval0 hW hL
  have hW' := hW
  obtain ⟨p, q, hA0, hV, rfl, hfz, hnd⟩ := hW
  have hA : DataW.TrodAll enc Tryz.prog W 0 (fun _ => true) true Tryz.f10.params.toList args.toList ds p := hA0
  rw [Tryz.params10] at hA
  obtain ⟨rfl, rfl, rfl⟩ := trodAll_none hA
  obtain ⟨rfl, rfl⟩ := trodVars_none hV
  have hst := start_sim hsh (known_start hL)
  have hen : Enters Tryz.prog 10 := enters_mk Tryz.func10 (by kernel_rfl) (by kernel_rfl)
  refine (((gTop_does X0_sound TT_ok known_run hst (cargs := #[]) rfl).calls hen)).mono fun e W' ha => ?_
  obtain ⟨r, σ', hr, haf⟩ := ha
  have hr := isTrue_ok hr
  rw [hr] at haf
  obtain ⟨v, μ', rfl, hv, hb⟩ := after_below okG0 haf
  simp only [VRel] at hv
  subst hv
  refine ⟨_, rfl, _, _, _, [], [], [], hW', ?_, ?_, rfl, hb.frame _, fun h => by cases h⟩
  · exact trodAll_mk1 (shut_bool Tryz.underlying4 true)
  · exact trodAll_mk0
theorem known_holds : Rows.ParseKnownSaid :=
  OpenClaim.holds_of_wide 10 Tryz.f10 rfl rfl rfl rfl rfl rfl rfl ⟨rfl, rfl, rfl, rfl, rfl⟩ rfl rfl rfl rfl rfl (by kernel_rfl) Tryz.func10 (by kernel_rfl)
    (of_decide_eq_true (by kernel_rfl)) (by unfold Func.isWrapper; first | (rw [if_pos (by decide +kernel)]; kernel_rfl) | (rw [if_neg (by decide +kernel)]; exact ⟨rfl, rfl⟩))
    (fun os started H enc _ => known_lifted os started H enc)
theorem known_card : Rows.ParseKnownCardSaid :=
  Claim7.holds_tied_plain_at .later [] Rows.parseKnownCard.laidKinds true Rows.parseKnownCard.stood.harness true
    known_holds (fun _ h => by cases h) (by kernel_rfl) (fun _ h => by cases h) parseKnown_row_tie rfl ⟨rfl, rfl⟩ (by kernel_rfl) rfl
    (fun f fn hf hfn => by
      obtain rfl : f = 10 := Option.some.inj ((show Tryz.prog.funcNamed "fallow/fallowlaw24.ParseKnown" = some 10 by kernel_rfl).symm.trans hf) |>.symm
      obtain rfl : fn = Tryz.f10 := (Option.some.inj (Tryz.func10.symm.trans hfn)).symm
      exact ⟨by kernel_rfl, fun j t ht => by
        rw [Tryz.params10] at ht
        simp at ht⟩)
    (by kernel_rfl)
#print axioms known_card
end Go.Proofs.YtobmjhfgmhfocaaGreatDoor
