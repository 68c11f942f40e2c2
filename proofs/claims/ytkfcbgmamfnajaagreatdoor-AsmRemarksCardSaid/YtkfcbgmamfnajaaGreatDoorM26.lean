/- AsmRemarks: for any words (of which the first thirty are taken), every remark (of which the first hundred letters are taken, and none with a line feed) and any kinds, remarks, empty lines, blanks, and labels that nobody names change no word. The row's own conditions: the listed package-level variables start as the program's text lays them (the card ties them). -/
import Derived.Test.YtkfcbgmamfnajaaGreatDoorM17
import Derived.Test.YtkfcbgmamfnajaaGreatDoorM25
import Derived.Test.YtkfcbgmamfnajaaGreatDoorCards
import Derived.Test.YtkfcbgmamfnajaaGreatDoorTie
import Derived.SevenTiedAt
set_option linter.unusedVariables false
set_option linter.unusedSimpArgs false
namespace Go.Proofs.YtkfcbgmamfnajaaGreatDoor
open Go Go.ChangeShapes Go.WideShapes Go.ChangeAt Go.ChangeMaps Go.RowKit Go.Abs Go.Abs.YtkfcbgmamfnajaaGreatDoor
set_option maxRecDepth 100000

theorem remarks_start {W : World} (h : laidMetH Tryz.prog Rows.asmRemarksRow.laid W) : Start W :=
  start_mk (show laidMet Tryz.prog Rows.asmRemarksRow.laid W from h) (by simp [Rows.asmRemarksRow]) (by simp [Rows.asmRemarksRow]) (by simp [Rows.asmRemarksRow]) (by simp [Rows.asmRemarksRow])
theorem remarks_lifted (os : Os) (started : os.Started) (H : Type) (enc : TypeId × Value → H) :
    ReturnsInHanded {} Tryz.checked os 6 .any (fun w args => (Rows.asmRemarksSpec.pre enc Tryz.prog Tryz.f6 [] false w args ∧ laidMetH Tryz.prog Rows.asmRemarksRow.laid w) ∧ sizedMet enc Tryz.prog Tryz.f6 (OpenSpec.ofChange Rows.asmRemarksSpec) false w args)
      (Rows.asmRemarksSpec.post enc Tryz.prog Tryz.f6 false true false false) := by
  refine returns_shaped (C := Tryz.checked) (X := fun w _ => laidMetH Tryz.prog Rows.asmRemarksRow.laid w) (fun _ _ _ hh h => h.of_heap hh) own started (by kernel_rfl) Tryz.func6
    (ChangeSpec.witness_shaped (enc := enc) (C := Tryz.checked) (os := os) (X := fun w _ => laidMetH Tryz.prog Rows.asmRemarksRow.laid w) false (w0 os) #[.slice none 0 0, .string ⟨#[]⟩, .slice none 0 0] 8 rfl (World.shaped_of_RefB (by kernel_rfl) (by kernel_rfl)) (by kernel_rfl) (by kernel_rfl) (by kernel_rfl) (lines_met os _)) ?_
  intro W base args ds gs before hsh hval0 hW hL
  have hval : ∀ (j : Nat) t v, Tryz.f6.params[j]? = some t → args[j]? = some v → Value.okWide Tryz.prog W .any base t v := hval0
  have hW' := hW
  obtain ⟨p, q, hA0, hV, rfl, hfz, hnd⟩ := hW
  have hA : DataW.TrodAll enc Tryz.prog W 0 (fun _ => true) true Tryz.f6.params.toList args.toList ds p := hA0
  rw [Tryz.params6] at hA hval
  obtain ⟨v1, v0, v2, d1, d0, d2, p1, p0, p2, rfl, rfl, rfl, h1, h0, h2⟩ := trodAll_three hA
  obtain ⟨rfl, rfl⟩ := trodVars_none hV
  obtain ⟨s, rfl, rfl, rfl, hs⟩ := open_string Tryz.underlying9 (hval 1 9 v0 rfl rfl) h0
  have hv1 := hval 0 28 v1 rfl rfl
  have hv2 := hval 2 38 v2 rfl rfl
  obtain ⟨a0, len, cap, rfl⟩ := okWide_slice Tryz.underlying28 hv1
  obtain ⟨a2, len2, cap2, rfl⟩ := okWide_slice Tryz.underlying38 hv2
  have h1k := h1
  have h2k := h2
  obtain ⟨fuel, hf⟩ := h1
  obtain ⟨fuel2, hf2⟩ := h2
  have hlt : ∀ x ∈ p1, x.block < W.heap.size := fun x hx => hW'.lt x (by simp [hx])
  have hlt2 : ∀ x ∈ p2, x.block < W.heap.size := fun x hx => hW'.lt x (by simp [hx])
  have hargs : ∀ (W' : World), Below W.heap.size W W' → DataW.Trod enc Tryz.prog W' 0 (fun b => decide (b < W.heap.size)) true 28 (.slice a0 len cap) d1 p1 :=
    fun W' hn => Below.trod laidOut (by kernel_rfl) (of_decide_eq_true (by kernel_rfl)) h1k hn hlt
  have hargs2 : ∀ (W' : World), Below W.heap.size W W' → DataW.Trod enc Tryz.prog W' 0 (fun b => decide (b < W.heap.size)) true 38 (.slice a2 len2 cap2) d2 p2 :=
    fun W' hn => Below.trod laidOut (by kernel_rfl) (of_decide_eq_true (by kernel_rfl)) h2k hn hlt2
  obtain ⟨m, hst⟩ := start_sim hsh (remarks_start hL)
  obtain ⟨σ0, μ, vb, hro, hsim, hvr, _, hcase⟩ := words_in hst hv1 hf
  obtain ⟨σ1, μ1, kb, hro1, hsim1, hvr1, hle1, hx1, ns, hk⟩ := bytes_in hro hsim hv2 hf2
  have hen : Enters Tryz.prog 6 := enters_mk Tryz.func6 (by kernel_rfl) (by kernel_rfl)
  have hcall : CallF (X23 m) 6 [vb, .s s.data.toList, kb] σ1 fun v _ => v = .b true := by
    rcases hcase with ⟨rfl, rfl⟩ | ⟨e, ws, hw, rfl, rfl⟩
    · exact remarks_to m σ1 hx1 .sl0 kb [] ns _ (fun w h => by cases h) (.inl ⟨rfl, rfl⟩) hk
    · have h11 : (S1 m e (wordsC ws))[11]? = some ⟨1, true, .cells e (wordsC ws)⟩ := rfl
      have hxx : Ext (G0 m) (S1 m e (wordsC ws)) := ⟨Nat.le_of_ble_eq_true rfl, fun i hi => List.getElem?_append_left hi⟩
      exact remarks_to m σ1 ⟨by have := hx1.len; have := hxx.len; omega, fun i hi => by rw [hx1.old i (by have := hxx.len; omega)]; exact hxx.old i hi⟩ _ kb ws ns _ hw (.inr ⟨11, 1, true, e, rfl, hx1.get h11⟩) hk
  have hvr2 : VRel μ1 W vb (.slice a0 len cap) := VRel.mono hle1 (WExt.refl _) _ _ hvr
  refine (hcall.ev.calls (X23_sound m) hen hsim1 (cargs := #[.slice a0 len cap, .string s, .slice a2 len2 cap2]) ⟨_, [_, _], rfl, hvr2, _, [_], rfl, by simp [VRel], _, [], rfl, hvr1, rfl⟩).mono fun e W' ha => ?_
  obtain ⟨r, σ', rfl, haf⟩ := ha
  obtain ⟨v, μ', rfl, hv, hb⟩ := after_below_ro hro1 haf
  simp only [VRel] at hv
  subst hv
  refine ⟨_, rfl, _, _, _, [], p1 ++ [] ++ p2, [], hW', ?_, ?_, rfl, hb.frame _, fun h => by cases h⟩
  · exact trodAll_mk1 (shut_bool Tryz.underlying4 true)
  · rw [List.append_assoc]
    exact trodAll_mk3 (hargs _ hb) (shut_string Tryz.underlying9 hs) (hargs2 _ hb)
theorem remarks_holds : Rows.AsmRemarksSaid :=
  OpenClaim.holds_of_wide 6 Tryz.f6 rfl rfl rfl rfl rfl rfl rfl ⟨rfl, rfl, rfl, rfl, rfl⟩ rfl rfl rfl rfl rfl (by kernel_rfl) Tryz.func6 (by kernel_rfl)
    (of_decide_eq_true (by kernel_rfl)) (by unfold Func.isWrapper; first | (rw [if_pos (by decide +kernel)]; kernel_rfl) | (rw [if_neg (by decide +kernel)]; exact ⟨rfl, rfl⟩))
    (fun os started H enc _ => remarks_lifted os started H enc)
theorem remarks_card : Rows.AsmRemarksCardSaid :=
  Claim7.holds_tied_plain_at .later [] Rows.asmRemarksCard.laidKinds true Rows.asmRemarksCard.stood.harness true
    remarks_holds (fun _ h => by cases h) (by kernel_rfl) (fun _ h => by cases h) asmRemarks_row_tie rfl ⟨rfl, rfl⟩ (by kernel_rfl) rfl
    (fun f fn hf hfn => by
      obtain rfl : f = 6 := Option.some.inj ((show Tryz.prog.funcNamed "fallow/fallowlaw08.AsmRemarks" = some 6 by kernel_rfl).symm.trans hf) |>.symm
      obtain rfl : fn = Tryz.f6 := (Option.some.inj (Tryz.func6.symm.trans hfn)).symm
      exact ⟨by kernel_rfl, fun j t ht => by
        rw [Tryz.params6] at ht
        have hm : t ∈ [28, 9, 38] := by simpa using Array.mem_of_getElem? ht
        have hall : ([28, 9, 38].all fun u => !Tryz.prog.wantsStandIn u) = true := by kernel_rfl
        exact (show Tryz.prog.wantsStandIn t = false by simpa using List.all_eq_true.1 hall t hm)⟩)
    (by kernel_rfl)
#print axioms remarks_card
end Go.Proofs.YtkfcbgmamfnajaaGreatDoor
