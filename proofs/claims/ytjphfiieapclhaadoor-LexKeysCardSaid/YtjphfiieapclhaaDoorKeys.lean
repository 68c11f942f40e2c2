/- LexKeys: each key word is read as one word of its own kind, and with a letter behind as a name. The row's own conditions: the listed package-level variables start as the program's text lays them (the card ties them). -/
import Derived.Test.YtjphfiieapclhaaDoorRmB
import Derived.Test.YtjphfiieapclhaaDoorCards
import Derived.Test.YtjphfiieapclhaaDoorTie
import Derived.SevenTiedAt
namespace Go.Proofs.YtjphfiieapclhaaDoor
open Go Go.ChangeShapes Go.WideShapes Go.ChangeAt Go.ChangeMaps Go.RowKit Go.Abs Go.Abs.YtjphfiieapclhaaDoor
set_option maxRecDepth 100000

theorem keys_start {W : World} (h : laidMetH Tryd.prog Rows.lexKeysRow.laid W) : Start W := by
  have h' : laidMet Tryd.prog [("math/bits.deBruijn32tab", Rows.laid_math_bits_deBruijn32tab), ("math/bits.deBruijn64tab", Rows.laid_math_bits_deBruijn64tab), ("internal/strconv.uint64pow10", Rows.laid_internal_strconv_uint64pow10), ("strconv.ErrRange", Rows.laid_strconv_ErrRange), ("strconv.ErrSyntax", Rows.laid_strconv_ErrSyntax), ("unicode.White_Space", Rows.laid_unicode_White_Space), ("strings.asciiSpace", Rows.laid_strings_asciiSpace)] W := h
  exact start_mk h' (by simp) (by simp)
theorem keys_lifted (os : Os) (started : os.Started) (H : Type) (enc : TypeId × Value → H) :
    ReturnsInHanded {} Tryd.checked os 3 .any (fun w args => (Rows.lexKeysSpec.pre enc Tryd.prog Tryd.f3 [] false w args ∧ laidMetH Tryd.prog Rows.lexKeysRow.laid w) ∧ sizedMet enc Tryd.prog Tryd.f3 (OpenSpec.ofChange Rows.lexKeysSpec) false w args)
      (Rows.lexKeysSpec.post enc Tryd.prog Tryd.f3 false true false false) := by
  refine returns_shaped (C := Tryd.checked) (X := fun w _ => laidMetH Tryd.prog Rows.lexKeysRow.laid w) (fun _ _ _ hh h => h.of_heap hh) own started (by kernel_rfl) Tryd.func3
    (ChangeSpec.witness_shaped (enc := enc) (C := Tryd.checked) (os := os) (X := fun w _ => laidMetH Tryd.prog Rows.lexKeysRow.laid w) false (World.doorLaid Tryd.prog 400 os) #[.int .u8 0] 8 rfl (World.shaped_of_RefB (by kernel_rfl) (by kernel_rfl)) (by kernel_rfl) (by kernel_rfl) (by kernel_rfl) (keys_met os _)) ?_
  intro W base args ds gs before hsh hval0 hW hL
  have hval : ∀ (j : Nat) t v, Tryd.f3.params[j]? = some t → args[j]? = some v → Value.okWide Tryd.prog W .any base t v := hval0
  have hW' := hW
  obtain ⟨p, q, hA0, hV, rfl, hfz, hnd⟩ := hW
  have hA : DataW.TrodAll enc Tryd.prog W 0 (fun _ => true) true Tryd.f3.params.toList args.toList ds p := hA0
  rw [Tryd.params3] at hA hval
  obtain ⟨v0, d0, rfl, rfl, h0⟩ := trodAll_one hA
  obtain ⟨rfl, rfl⟩ := trodVars_none hV
  obtain ⟨m, rfl, rfl, rfl, hm⟩ := open_int Tryd.underlying5 (hval 0 5 v0 rfl rfl) h0
  obtain ⟨n, hn, rfl⟩ : ∃ n : Nat, n < 256 ∧ m = (n : Int) := by
    have h2 : (decide ((0 : Int) ≤ m) && decide (m ≤ 255)) = true := hm
    rw [Bool.and_eq_true, decide_eq_true_eq, decide_eq_true_eq] at h2
    exact ⟨m.toNat, by omega, by omega⟩
  have hst := start_sim hsh (keys_start hL)
  have hen : Enters Tryd.prog 3 := enters_mk Tryd.func3 (by kernel_rfl) (by kernel_rfl)
  refine ((lawKeys_to n hn G0 rfl).ev.calls X_sound hen hst (cargs := #[.int .u8 n]) ⟨_, [], rfl, rfl, rfl⟩).mono fun e W' ha => ?_
  obtain ⟨r, σ', ⟨rfl, rfl⟩, haf⟩ := ha
  obtain ⟨v, μ', rfl, hv, hb⟩ := after_below okG0 haf
  simp only [VRel] at hv
  subst hv
  refine ⟨_, rfl, _, _, _, [], [], [], hW', ?_, ?_, rfl, hb.frame _, fun h => by cases h⟩
  · exact trodAll_mk1 (shut_bool Tryd.underlying4 true)
  · exact trodAll_mk1 (shut_int Tryd.underlying5 hm)
theorem keys_holds : Rows.LexKeysSaid :=
  OpenClaim.holds_of_wide 3 Tryd.f3 rfl rfl rfl rfl rfl rfl rfl ⟨rfl, rfl, rfl, rfl, rfl⟩ rfl rfl rfl rfl rfl (by kernel_rfl) Tryd.func3 (by kernel_rfl)
    (of_decide_eq_true (by kernel_rfl)) (by unfold Func.isWrapper; first | (rw [if_pos (by decide +kernel)]; kernel_rfl) | (rw [if_neg (by decide +kernel)]; exact ⟨rfl, rfl⟩))
    (fun os started H enc _ => keys_lifted os started H enc)
theorem keys_card : Rows.LexKeysCardSaid :=
  Claim7.holds_tied_plain_at .later [] Rows.lexKeysCard.laidKinds true Rows.lexKeysCard.stood.harness true
    keys_holds (fun _ h => by cases h) (by kernel_rfl) (fun _ h => by cases h) lexKeys_row_tie rfl ⟨rfl, rfl⟩ (by kernel_rfl) rfl
    (fun f fn hf hfn => by
      obtain rfl : f = 3 := Option.some.inj ((show Tryd.prog.funcNamed "fallow/fallowlaw23.LexKeys" = some 3 by kernel_rfl).symm.trans hf) |>.symm
      obtain rfl : fn = Tryd.f3 := (Option.some.inj (Tryd.func3.symm.trans hfn)).symm
      exact ⟨by kernel_rfl, fun j t ht => by
        rw [Tryd.params3] at ht
        have hm : t ∈ [5] := by simpa using Array.mem_of_getElem? ht
        have hall : ([5].all fun u => !Tryd.prog.wantsStandIn u) = true := by kernel_rfl
        exact (show Tryd.prog.wantsStandIn t = false by simpa using List.all_eq_true.1 hall t hm)⟩)
    (by kernel_rfl)
#print axioms keys_card
end Go.Proofs.YtjphfiieapclhaaDoor
