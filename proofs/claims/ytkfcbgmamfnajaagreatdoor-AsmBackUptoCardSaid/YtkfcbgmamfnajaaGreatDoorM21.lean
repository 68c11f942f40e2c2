/- AsmBack: for any words (of which the first hundred are taken) and every text, where the values and letters are 1048576 at most in all: each word's text is read as that word, the words' texts are assembled to these words, and a text is a word's text or is refused. The row's own conditions: the listed package-level variables start as the program's text lays them (the card ties them); the bound on what is read. -/
import Derived.Test.YtkfcbgmamfnajaaGreatDoorM17
import Derived.Test.YtkfcbgmamfnajaaGreatDoorM18
import Derived.Test.YtkfcbgmamfnajaaGreatDoorM15
import Derived.Test.YtkfcbgmamfnajaaGreatDoorCards
import Derived.Test.YtkfcbgmamfnajaaGreatDoorTie
import Derived.SevenTiedAt
import Derived.Deep.DeepHandedRow
import Derived.Deep.DeepWitnessRowRef
set_option linter.unusedVariables false
set_option linter.unusedSimpArgs false
namespace Go.Proofs.YtkfcbgmamfnajaaGreatDoor
open Go Go.ChangeShapes Go.WideShapes Go.ChangeAt Go.ChangeMaps Go.RowKit Go.Abs Go.Abs.YtkfcbgmamfnajaaGreatDoor
set_option maxRecDepth 100000

theorem back_start {W : World} (h : laidMetH Tryz.prog Rows.asmBackUptoRow.laid W) : Start W :=
  start_mk (show laidMet Tryz.prog Rows.asmBackUptoRow.laid W from h) (by simp [Rows.asmBackUptoRow]) (by simp [Rows.asmBackUptoRow]) (by simp [Rows.asmBackUptoRow]) (by simp [Rows.asmBackUptoRow])
theorem back_reads (os : Os) {H : Type} (enc : TypeId × Value → H) : ∃ places, DataW.whole enc Tryz.prog ((w0 os).forCall (fun _ _ => 0) ⟨#[], #[.slice none 0 0, .string ⟨#[]⟩], []⟩).memory Tryz.f5.params.toList Rows.asmBackSpec.vars false #[Value.slice none 0 0, Value.string ⟨#[]⟩].toList 8 = some ([.nil, .lit (.string [])], [], places) :=
  ⟨[], by kernel_rfl⟩
theorem bulk_back {H : Type} (d : DataW H) (l : List UInt8) (h : Rows.uptoSmall H [d, DataW.lit (.string l)] = true) : l.length ≤ 1048576 := by
  have h2 := of_decide_eq_true h
  simp only [Rows.uptoBulkAll, Rows.uptoBulk] at h2
  omega
theorem back_lifted (os : Os) (started : os.Started) (H : Type) (enc : TypeId × Value → H) (F : Stop.Interp) :
    ReturnsInHanded {} Tryz.checked os 5 .any ((Rows.OpenSpec.upto Rows.asmBackSpec).preRow enc Tryz.prog Tryz.f5 Rows.asmBackUptoRow.domain false Rows.asmBackUptoRow.laid) (((Rows.OpenSpec.upto Rows.asmBackSpec).at F).post enc Tryz.prog Tryz.f5 false true false false) := by
  obtain ⟨places, hx⟩ := back_reads os enc
  refine returnsInHanded_of_row (C := Tryz.checked) (s := Rows.OpenSpec.upto Rows.asmBackSpec) own started (by kernel_rfl) Tryz.func5
    (witness_row_atRef (enc := enc) (C := Tryz.checked) false (w0 os) #[.slice none 0 0, .string ⟨#[]⟩] rfl (by kernel_rfl) (by kernel_rfl) (by kernel_rfl)
      (OpenSpec.preRow_of_cond 8 hx (by kernel_rfl) (fun k hk => by cases hk; kernel_rfl) (by kernel_rfl) (lines_met os _))) ?_
  intro W base args ds gs before hval0 hW _ hcond _ hL hsh _
  have hval : ∀ (j : Nat) t v, Tryz.f5.params[j]? = some t → args[j]? = some v → Value.okWide Tryz.prog W .any base t v := hval0
  have hW' := hW
  obtain ⟨p, q, hA0, hV, rfl, hfz, hnd⟩ := hW
  have hA : DataW.TrodAll enc Tryz.prog W 0 (fun _ => true) true Tryz.f5.params.toList args.toList ds p := hA0
  rw [Tryz.params5] at hA hval
  obtain ⟨v1, v0, d1, d0, p1, p0, rfl, rfl, rfl, h1, h0⟩ := trodAll_two hA
  obtain ⟨rfl, rfl⟩ := trodVars_none hV
  obtain ⟨s, rfl, rfl, rfl, hs⟩ := open_string Tryz.underlying9 (hval 1 9 v0 rfl rfl) h0
  have hb := bulk_back d1 s.data.toList (hcond _ rfl)
  have hv1 := hval 0 28 v1 rfl rfl
  obtain ⟨a0, len, cap, rfl⟩ := okWide_slice Tryz.underlying28 hv1
  have h1k := h1
  obtain ⟨fuel, hf⟩ := h1
  have hlt : ∀ x ∈ p1, x.block < W.heap.size := fun x hx => hW'.lt x (by simp [hx])
  have hargs : ∀ (W' : World), Below W.heap.size W W' → DataW.Trod enc Tryz.prog W' 0 (fun b => decide (b < W.heap.size)) true 28 (.slice a0 len cap) d1 p1 :=
    fun W' hn => Below.trod laidOut (by kernel_rfl) (of_decide_eq_true (by kernel_rfl)) h1k hn hlt
  obtain ⟨m, hst⟩ := start_sim hsh (back_start hL)
  obtain ⟨σ0, μ, vb, hro, hsim, hvr, _, hcase⟩ := words_in hst hv1 hf
  have hen : Enters Tryz.prog 5 := enters_mk Tryz.func5 (by kernel_rfl) (by kernel_rfl)
  have hcall : CallF (X23 m) 5 [vb, .s s.data.toList] σ0 fun v _ => v = .b true := by
    rcases hcase with ⟨rfl, rfl⟩ | ⟨e, ws, hw, rfl, rfl⟩
    · exact back0_to m _ (by omega)
    · exact back_to m e ws hw _ (by omega)
  refine (hcall.ev.calls (X23_sound m) hen hsim (cargs := #[.slice a0 len cap, .string s]) ⟨_, [_], rfl, hvr, _, [], rfl, by simp [VRel], rfl⟩).mono fun e W' ha => ?_
  obtain ⟨r, σ', rfl, haf⟩ := ha
  obtain ⟨v, μ', rfl, hv, hbel⟩ := after_below_ro hro haf
  simp only [VRel] at hv
  subst hv
  refine ⟨_, rfl, _, _, _, [], p1 ++ [], [], hW', ?_, ?_, rfl, hbel.frame _, fun h => by cases h⟩
  · exact trodAll_mk1 (shut_bool Tryz.underlying4 true)
  · exact trodAll_mk2 (hargs _ hbel) (shut_string Tryz.underlying9 hs)
theorem back_holds : Rows.AsmBackUptoSaid :=
  OpenClaim.holds_of_cond 5 Tryz.f5 rfl rfl rfl rfl rfl rfl rfl ⟨rfl, rfl, rfl, rfl, rfl⟩ rfl rfl rfl rfl rfl (by kernel_rfl) Tryz.func5 (by kernel_rfl)
    (of_decide_eq_true (by kernel_rfl)) (by unfold Func.isWrapper; first | (rw [if_pos (by decide +kernel)]; kernel_rfl) | (rw [if_neg (by decide +kernel)]; exact ⟨rfl, rfl⟩))
    (fun os started H enc _ F => by rw [OpenClaim.pre_eq_preRow]; exact back_lifted os started H enc F)
theorem back_card : Rows.AsmBackUptoCardSaid :=
  Claim7.holds_tied_plain_at .later [] _ _ _ _
    back_holds (fun _ h => by cases h) (by kernel_rfl) (fun _ h => by cases h) asmBackUpto_row_tie rfl ⟨rfl, rfl⟩ (by kernel_rfl) rfl
    (fun f fn hf hfn => by
      obtain rfl : f = 5 := Option.some.inj ((show Tryz.prog.funcNamed "fallow/fallowlaw08.AsmBack" = some 5 by kernel_rfl).symm.trans hf) |>.symm
      obtain rfl : fn = Tryz.f5 := (Option.some.inj (Tryz.func5.symm.trans hfn)).symm
      exact ⟨by kernel_rfl, fun j t ht => by
        rw [Tryz.params5] at ht
        have hm : t ∈ [28, 9] := by simpa using Array.mem_of_getElem? ht
        have hall : ([28, 9].all fun u => !Tryz.prog.wantsStandIn u) = true := by kernel_rfl
        exact (show Tryz.prog.wantsStandIn t = false by simpa using List.all_eq_true.1 hall t hm)⟩)
    (by kernel_rfl)
#print axioms back_card
end Go.Proofs.YtkfcbgmamfnajaaGreatDoor
