/- LexBack: the words of any text, with blanks, remarks or line feeds between them, are the same words, each on its line. The row's own conditions: the listed package-level variables start as the program's text lays them (the card ties them). -/
import Derived.Test.YtjphfiieapclhaaDoorRmB
import Derived.Test.YtjphfiieapclhaaDoorFnM
import Derived.Test.YtjphfiieapclhaaDoorAbs29
import Derived.Test.YtjphfiieapclhaaDoorCards
import Derived.Test.YtjphfiieapclhaaDoorTie
import Derived.SevenTiedAt
namespace Go.Proofs.YtjphfiieapclhaaDoor
open Go Go.ChangeShapes Go.WideShapes Go.ChangeAt Go.ChangeMaps Go.RowKit Go.Abs Go.Abs.YtjphfiieapclhaaDoor
set_option maxRecDepth 100000

theorem back_start {W : World} (h : laidMetH Tryd.prog Rows.lexBackRow.laid W) : Start W := by
  have h' : laidMet Tryd.prog [("math/bits.deBruijn32tab", Rows.laid_math_bits_deBruijn32tab), ("math/bits.deBruijn64tab", Rows.laid_math_bits_deBruijn64tab), ("internal/strconv.uint64pow10", Rows.laid_internal_strconv_uint64pow10), ("strconv.ErrRange", Rows.laid_strconv_ErrRange), ("strconv.ErrSyntax", Rows.laid_strconv_ErrSyntax), ("unicode.White_Space", Rows.laid_unicode_White_Space), ("strings.asciiSpace", Rows.laid_strings_asciiSpace)] W := h
  exact start_mk h' (by simp) (by simp)
theorem laidOut : laidOutB Tryd.prog = true := by kernel_rfl
theorem cells_u8 : Tryd.prog.cellsOf 5 = 1 := by kernel_rfl
theorem rowAt_le {P : Program} {fits : TypeId → Bool} : ∀ (d : Nat) (e count off n : Nat), rowAt P fits d e count off n = true → off ≤ count * P.cellsOf e := by
  intro d e count off n h
  cases d with
  | zero => simp [rowAt] at h
  | succ d =>
    unfold rowAt at h
    simp only at h
    split at h
    · cases h
    · rename_i hs
      have hpos : 0 < P.cellsOf e := by omega
      have hdm := Nat.div_add_mod off (P.cellsOf e)
      have hml := Nat.mod_lt off hpos
      rw [Bool.or_eq_true, Bool.and_eq_true, Bool.and_eq_true, Bool.and_eq_true] at h
      rcases h with ⟨⟨h1, h2⟩, _⟩ | ⟨h1, _⟩
      · have h1 : off % P.cellsOf e = 0 := by simpa using h1
        have h2 : off / P.cellsOf e + n ≤ count := by simpa using h2
        have h3 : off / P.cellsOf e ≤ count := by omega
        have := Nat.mul_le_mul_right (P.cellsOf e) h3
        have hc := Nat.mul_comm (P.cellsOf e) (off / P.cellsOf e)
        omega
      · have h2 : off / P.cellsOf e + 1 ≤ count := Nat.succ_le_of_lt (by simpa using h1)
        have := Nat.mul_le_mul_right (P.cellsOf e) h2
        have hc := Nat.mul_comm (P.cellsOf e) (off / P.cellsOf e)
        rw [Nat.add_mul, Nat.one_mul] at this
        omega
theorem liesAt_le {P : Program} : ∀ (d : Nat) (e count off u n : Nat), liesAt P d e count off u n = true → off ≤ count * P.cellsOf e
  | 0, e, count, off, u, n, h => by simp [liesAt] at h
  | d + 1, e, count, off, u, n, h => by
    unfold liesAt at h
    rw [Bool.or_eq_true] at h
    rcases h with h | h
    · exact rowAt_le _ _ _ _ _ h
    · split at h
      · exact liesAt_le d _ _ _ _ _ h
      · cases h
theorem G0_ro : ∀ (o : Nat) (a : AO), G0[o]? = some a → a.ro = false → a.k.live = true → False := fun o a h hr hl => by
  have : ∀ b ∈ G0, b.ro = true := by decide +kernel
  rw [this a (List.mem_of_getElem? h)] at hr; cases hr
/-- The caller's bytes, in the store. -/
theorem bytes_in {H : Type} {enc : TypeId × Value → H} {W : World} (hsh : W.ShapedOpen Tryd.prog) (hL : Start W) {a0 : Option Addr} {len cap : Nat} {d : DataW H} {ps : List MemPlace} (hv : Value.okWide Tryd.prog W .any 0 33 (.slice a0 len cap)) {fuel : Nat}
    (hf : DataW.trod enc Tryd.prog W 0 (fun _ => true) true fuel 33 (Value.cells (.slice a0 len cap)).toList = some (d, ps)) :
    ∃ bs vb σ0 μ, bs.length ≤ 9223372036854775807 ∧ σ0.take G0.length = G0 ∧ (∀ (o : Nat) (a : AO), σ0[o]? = some a → a.ro = false → a.k.live = true → False) ∧ Sim 11 μ σ0 W ∧ BetAt σ0 vb bs ∧ VRel μ W vb (.slice a0 len cap) := by
  have hst := start_sim hsh hL
  rcases open_ints Tryd.underlying33 Tryd.underlying5 cells_u8 hf with ⟨hcs, hx⟩ | ⟨a, len', cap', zs, hcs, _, hl, hm, hz, hx, hcell, hwz⟩
  · simp [Value.cells] at hcs
    obtain ⟨rfl, rfl, rfl⟩ := hcs
    exact ⟨[], .sl0, G0, _, by simp, by rw [List.take_length], G0_ro, hst, .inl ⟨rfl, rfl⟩, rfl⟩
  · simp [Value.cells] at hcs
    obtain ⟨rfl, rfl, rfl⟩ := hcs
    simp only [if_true] at hz
    have hok : len ≤ cap ∧ (cap : Int) ≤ IntKind.i64.max ∧ W.has Tryd.prog .any 0 a 5 cap := by
      have hv' := hv
      unfold Value.okWide at hv'
      rw [Tryd.underlying33] at hv'
      simp only [Cell.okWide, Cell.ok, Tryd.underlying33] at hv'
      exact hv'
    obtain ⟨_, _, _, hspot, row, cells, hshape, hlies⟩ := hok
    obtain ⟨b, off, spot⟩ := a
    simp only at hspot hshape hlies
    subst hspot
    have hoff : off ≤ cells := by
      have h1 := liesAt_le _ _ _ _ _ _ hlies
      have h2 := Nat.div_mul_le_self cells (Tryd.prog.cellsOf row)
      omega
    obtain ⟨ccs, fr, hb, hsz⟩ : ∃ ccs fr, W.heap[b]? = some (.cells ccs row fr) ∧ ccs.size = cells := by
      unfold World.shape? at hshape
      split at hshape
      · rename_i c e f hh
        cases hshape
        exact ⟨c, f, hh, rfl⟩
      · cases hshape
    have cj : ∀ j, j < zs.length → W.cell? ⟨b, off + j, none⟩ = some (.int .u8 (zs.getD j 0)) := fun j hj => by rw [← add_plain]; exact hcell j hj
    have cj2 : ∀ j, j < zs.length → ccs[off + j]? = some (.int .u8 (zs.getD j 0)) := fun j hj => by
      have := cj j hj
      rw [cell_of_heap hb] at this
      exact this
    have hall : off + cap ≤ cells := by
      rcases Nat.eq_zero_or_pos cap with h0 | h0
      · omega
      · have := cj2 (cap - 1) (by omega)
        have := (Array.getElem?_eq_some_iff.1 this).1
        omega
    have hz255 : ∀ z ∈ zs, 0 ≤ z ∧ z ≤ 255 := fun z hz' => by
      have h5 := hwz z hz'
      have e1 : IntKind.u8.min = 0 := rfl
      have e2 : IntKind.u8.max = 255 := rfl
      simpa [Lit.wf, e1, e2] using h5
    let bs : List UInt8 := (zs.take len).map fun z => UInt8.ofNat z.toNat
    have hbl : bs.length = len := by simp [bs]; omega
    have hcells : ∀ (j : Nat) c, (bs.map byV)[j]? = some c → ∃ v, ccs[off + j]? = some v ∧ VRel (mu0 11) W c v := by
      intro j c hj
      have hj' : j < len := by
        have := (List.getElem?_eq_some_iff.1 hj).1
        rw [List.length_map, hbl] at this; exact this
      have hzj : zs[j]? = some zs[j] := List.getElem?_eq_getElem (by omega)
      have h2 := hz255 zs[j] (List.getElem_mem _)
      have hc : c = .i .u8 zs[j] := by
        simp only [bs, List.map_map, List.getElem?_map, List.getElem?_take, hj', if_true, hzj, Option.map_some, Option.some.injEq, Function.comp] at hj
        rw [← hj]
        simp only [byV, AV.i.injEq, true_and]
        rw [UInt8.toNat_ofNat']
        omega
      refine ⟨_, cj2 j (by omega), ?_⟩
      rw [hc]
      simp only [VRel, List.getD, hzj, Option.getD_some]
    obtain ⟨μ', hs', hm', hle⟩ := hst.addRo G0_ro (e := row) (cs := bs.map byV) hb (by rw [List.length_map, hbl]; omega) hcells
    refine ⟨bs, .sl G0.length 0 0 bs.length 1, _, μ', by rw [hbl]; unfold maxLen at hm; omega, by rw [List.take_left], ?_, hs', .inr ⟨G0.length, true, row, rfl, by simp⟩, ?_⟩
    · intro o a ho hr hl'
      rcases Nat.lt_trichotomy o G0.length with hlt | he | hgt
      · rw [List.getElem?_append_left hlt] at ho; exact G0_ro o a ho hr hl'
      · subst he; simp at ho; subst ho; cases hr
      · rw [List.getElem?_eq_none (by simp; omega)] at ho; cases ho
    · refine ⟨b, off, off, cap, row, cells, hm', by rw [hbl], by omega, .inl rfl, hshape, by omega⟩
theorem back_lifted (os : Os) (started : os.Started) (H : Type) (enc : TypeId × Value → H) :
    ReturnsInHanded {} Tryd.checked os 4 .any (fun w args => (Rows.lexBackSpec.pre enc Tryd.prog Tryd.f4 [] false w args ∧ laidMetH Tryd.prog Rows.lexBackRow.laid w) ∧ sizedMet enc Tryd.prog Tryd.f4 (OpenSpec.ofChange Rows.lexBackSpec) false w args)
      (Rows.lexBackSpec.post enc Tryd.prog Tryd.f4 false true false false) := by
  refine returns_shaped (C := Tryd.checked) (X := fun w _ => laidMetH Tryd.prog Rows.lexBackRow.laid w) (fun _ _ _ hh h => h.of_heap hh) own started (by kernel_rfl) Tryd.func4
    (ChangeSpec.witness_shaped (enc := enc) (C := Tryd.checked) (os := os) (X := fun w _ => laidMetH Tryd.prog Rows.lexBackRow.laid w) false (World.doorLaid Tryd.prog 400 os) #[.string ⟨#[]⟩, .slice none 0 0] 8 rfl (World.shaped_of_RefB (by kernel_rfl) (by kernel_rfl)) (by kernel_rfl) (by kernel_rfl) (by kernel_rfl) (keys_met os _)) ?_
  intro W base args ds gs before hsh hval0 hW hL
  have hval : ∀ (j : Nat) t v, Tryd.f4.params[j]? = some t → args[j]? = some v → Value.okWide Tryd.prog W .any base t v := hval0
  have hW' := hW
  obtain ⟨p, q, hA0, hV, rfl, hfz, hnd⟩ := hW
  have hA : DataW.TrodAll enc Tryd.prog W 0 (fun _ => true) true Tryd.f4.params.toList args.toList ds p := hA0
  rw [Tryd.params4] at hA hval
  obtain ⟨v0, v1, d0, d1, p0, p1, rfl, rfl, rfl, h0, h1⟩ := trodAll_two hA
  obtain ⟨rfl, rfl⟩ := trodVars_none hV
  obtain ⟨s, rfl, rfl, rfl, hs⟩ := open_string Tryd.underlying9 (hval 0 9 v0 rfl rfl) h0
  have hv1 := hval 1 33 v1 rfl rfl
  obtain ⟨a0, len, cap, rfl⟩ := okWide_slice Tryd.underlying33 hv1
  have h1k := h1
  obtain ⟨fuel, hf⟩ := h1
  have hlt : ∀ x ∈ p1, x.block < W.heap.size := fun x hx => hW'.lt x (by simp [hx])
  have hargs : ∀ (W' : World), Below W.heap.size W W' → DataW.Trod enc Tryd.prog W' 0 (fun b => decide (b < W.heap.size)) true 33 (.slice a0 len cap) d1 p1 :=
    fun W' hn => Below.trod laidOut (by kernel_rfl) (of_decide_eq_true (by kernel_rfl)) h1k hn hlt
  obtain ⟨bs, vb, σ0, μ, hbs, ht, hro, hsim, hbet, hvr⟩ := bytes_in hsh (back_start hL) hv1 hf
  have hen : Enters Tryd.prog 4 := enters_mk Tryd.func4 (by kernel_rfl) (by kernel_rfl)
  refine ((lawBack_to s.data.toList (by rw [Array.length_toList]; exact hs) bs hbs σ0 ht vb hbet).ev.calls X_sound hen hsim (cargs := #[.string s, .slice a0 len cap]) ⟨_, [_], rfl, by simp [VRel], _, [], rfl, hvr, rfl⟩).mono fun e W' ha => ?_
  obtain ⟨r, σ', ⟨rfl, rfl⟩, haf⟩ := ha
  obtain ⟨v, μ', rfl, hv, hb⟩ := after_below_ro hro haf
  simp only [VRel] at hv
  subst hv
  refine ⟨_, rfl, _, _, _, [], [] ++ p1, [], hW', ?_, ?_, rfl, hb.frame _, fun h => by cases h⟩
  · exact trodAll_mk1 (shut_bool Tryd.underlying4 true)
  · exact trodAll_mk2 (shut_string Tryd.underlying9 hs) (hargs _ hb)
theorem back_holds : Rows.LexBackSaid :=
  OpenClaim.holds_of_wide 4 Tryd.f4 rfl rfl rfl rfl rfl rfl rfl ⟨rfl, rfl, rfl, rfl, rfl⟩ rfl rfl rfl rfl rfl (by kernel_rfl) Tryd.func4 (by kernel_rfl)
    (of_decide_eq_true (by kernel_rfl)) (by unfold Func.isWrapper; first | (rw [if_pos (by decide +kernel)]; kernel_rfl) | (rw [if_neg (by decide +kernel)]; exact ⟨rfl, rfl⟩))
    (fun os started H enc _ => back_lifted os started H enc)
theorem back_card : Rows.LexBackCardSaid :=
  Claim7.holds_tied_plain_at .later [] Rows.lexBackCard.laidKinds true Rows.lexBackCard.stood.harness true
    back_holds (fun _ h => by cases h) (by kernel_rfl) (fun _ h => by cases h) lexBack_row_tie rfl ⟨rfl, rfl⟩ (by kernel_rfl) rfl
    (fun f fn hf hfn => by
      obtain rfl : f = 4 := Option.some.inj ((show Tryd.prog.funcNamed "fallow/fallowlaw23.LexBack" = some 4 by kernel_rfl).symm.trans hf) |>.symm
      obtain rfl : fn = Tryd.f4 := (Option.some.inj (Tryd.func4.symm.trans hfn)).symm
      exact ⟨by kernel_rfl, fun j t ht => by
        rw [Tryd.params4] at ht
        have hm : t ∈ [9, 33] := by simpa using Array.mem_of_getElem? ht
        have hall : ([9, 33].all fun u => !Tryd.prog.wantsStandIn u) = true := by kernel_rfl
        exact (show Tryd.prog.wantsStandIn t = false by simpa using List.all_eq_true.1 hall t hm)⟩)
    (by kernel_rfl)
#print axioms back_card
end Go.Proofs.YtjphfiieapclhaaDoor
