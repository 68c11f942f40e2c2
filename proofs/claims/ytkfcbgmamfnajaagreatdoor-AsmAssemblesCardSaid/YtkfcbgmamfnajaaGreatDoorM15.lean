/- Texts of this claim, joined: BaA, BaB, Td, KnA, KnB. -/
import Derived.Test.YtkfcbgmamfnajaaGreatDoorM14
import Derived.Test.YtkfcbgmamfnajaaGreatDoorM09
set_option linter.unusedVariables false
set_option linter.unusedSimpArgs false
/- asm.Assemble as a law; lists of words that are alike; AsmBack over the abstract store. -/
namespace Go.Abs.YtkfcbgmamfnajaaGreatDoor
open Go.Proofs
set_option maxRecDepth 4000
def asmG : List AV → Option MR
  | [.s t] => (match asmP t with
    | .ok [] => some (.flat (.tu [.sl0, .ic0]))
    | .ok (w :: ws) => some (.new ⟨fun o g => .tu [.sl o g 0 (w :: ws).length 1, .ic0], 22, wordsC (w :: ws)⟩)
    | .bad c k => some (.new ⟨fun o g => .tu [.sl0, .ic 48 (.p o g 0)], 54, [.i .i64 c, .i .i64 k]⟩))
  | _ => none
def lawAsm (m : Int) : LawM (X18 m) (G0 m) where
  f := 17
  g := asmG
  okF := fun args v h => by
    unfold asmG at h
    split at h
    · rename_i t
      split at h
      · rename_i hA
        cases h
        refine ⟨rfl, rfl, asm_to m t _ (fun ws out σ' hA2 _ ho hem => ?_) (fun c k o' σ' hA2 _ _ _ => ?_)⟩
        · rw [hA] at hA2; cases hA2
          rw [hem rfl]
        · rw [hA] at hA2; cases hA2
      · cases h
      · cases h
    · cases h
  okN := fun args R h => by
    unfold asmG at h
    split at h
    · rename_i t
      split at h
      · cases h
      · rename_i w ws hA
        cases h
        refine ⟨rfl, wordsC_flat _, good_sl_tu _ _ _ _, asm_to m t _ (fun ws' out σ' hA2 _ ho _ => ?_) (fun c k o' σ' hA2 _ _ _ => ?_)⟩
        · rw [hA] at hA2; cases hA2
          rcases ho.2 with ⟨hz, _⟩ | ⟨o1, g1, _, rfl, hob⟩
          · cases hz
          · exact ⟨o1, g1, rfl, hob⟩
        · rw [hA] at hA2; cases hA2
      · rename_i c k hA
        cases h
        refine ⟨rfl, rfl, good_p_tu _ _ _, asm_to m t _ (fun ws' out σ' hA2 _ ho _ => ?_) (fun c' k' o' σ' hA2 _ _ hob => ?_)⟩
        · rw [hA] at hA2; cases hA2
        · rw [hA] at hA2; cases hA2
          exact ⟨o', 0, rfl, hob⟩
    · cases h
@[reducible] noncomputable def Y18 (m : Int) : Ctx := (X18 m).makes (G0 m) (lawAsm m)
theorem Y18_sound (m : Int) : (Y18 m).Sound 11 := Ctx.makes_sound (X18_sound m) (okG0 m) _
@[reducible] noncomputable def X23 (m : Int) : Ctx := (X22 m).add 17 (lawAsm m).run
theorem X23_sound (m : Int) : (X23 m).Sound 11 := Ctx.add_sound (X22_sound m) _ _ fun args σ r σ' hg μ w cargs hs hr => (Y18_sound m).ok.prim 17 (lawAsm m).run rfl args σ r σ' hg μ w cargs hs hr
theorem c23_asm_ok {m : Int} {t : List UInt8} {ws : List Int} {σ : St} {Q : AV → St → Prop} (hA : asmP t = .ok ws) (hne : ws ≠ []) (ht : σ.take 11 = G0 m) (q : Q (.tu [.sl σ.length 1 0 ws.length 1, .ic0]) (addOne 22 (wordsC ws) σ)) : CallF (X23 m) 17 [.s t] σ Q := by
  cases ws with
  | nil => exact (hne rfl).elim
  | cons w ws =>
    refine CallF.lift (X := Y18 m) rfl rfl (CallF.madeN (lawAsm m) rfl (R := ⟨fun o g => .tu [.sl o g 0 (w :: ws).length 1, .ic0], 22, wordsC (w :: ws)⟩) ?_ ht q)
    show asmG [.s t] = _
    simp only [asmG, hA]
theorem c23_asm_nil {m : Int} {t : List UInt8} {σ : St} {Q : AV → St → Prop} (hA : asmP t = .ok []) (ht : σ.take 11 = G0 m) (q : Q (.tu [.sl0, .ic0]) σ) : CallF (X23 m) 17 [.s t] σ Q := by
  refine CallF.lift (X := Y18 m) rfl rfl (CallF.madeF (lawAsm m) rfl (v := .tu [.sl0, .ic0]) ?_ ht q)
  show asmG [.s t] = _
  simp only [asmG, hA]
theorem c23_asm_bad {m c : Int} {k : Nat} {t : List UInt8} {σ : St} {Q : AV → St → Prop} (hA : asmP t = .bad c k) (ht : σ.take 11 = G0 m) (q : Q (.tu [.sl0, .ic 48 (.p σ.length 1 0)]) (addOne 54 [.i .i64 c, .i .i64 k] σ)) : CallF (X23 m) 17 [.s t] σ Q := by
  refine CallF.lift (X := Y18 m) rfl rfl (CallF.madeN (lawAsm m) rfl (R := ⟨fun o g => .tu [.sl0, .ic 48 (.p o g 0)], 54, [.i .i64 c, .i .i64 k]⟩) ?_ ht q)
  show asmG [.s t] = _
  simp only [asmG, hA]
/-- A slice of these words. -/
def WdAt (σ : St) (a : AV) (ws : List Int) : Prop := (ws = [] ∧ a = .sl0) ∨ ∃ o g ro e t, a = .sl o g 0 ws.length 1 ∧ σ[o]? = some ⟨g, ro, .cells e (wordsC ws ++ t)⟩
theorem WdAt.ext {σ σ' : St} {a : AV} {ws : List Int} (h : WdAt σ a ws) (x : Ext σ σ') : WdAt σ' a ws := by
  rcases h with h | ⟨o, g, ro, e, t, h1, h2⟩
  · exact .inl h
  · exact .inr ⟨o, g, ro, e, t, h1, x.get h2⟩
theorem words_loop (m : Int) (ws : List Int) (σ : St) (o g o2 g2 : Nat) {ro ro2 : Bool} {e e2 : Nat} {t t2 : List AV} (h1 : σ[o]? = some ⟨g, ro, .cells e (wordsC ws ++ t)⟩) (h2 : σ[o2]? = some ⟨g2, ro2, .cells e2 (wordsC ws ++ t2)⟩) (hn : ws.length ≤ 4294967296) (Q : Out → Env → St → Prop) (q : ∀ e', Q (.exit 0) e' σ) :
    ∀ (j k : Nat), k + j = ws.length → LoopF (X23 m) [0, 1, 5] c18L0 [(0, .sl o g 0 ws.length 1), (1, .sl o2 g2 0 ws.length 1), (5, .i .i64 k)] σ Q
  | 0, k, hk => by
    refine LoopF.round tyB_ok (lit := false) ?_
    conv => whnf
    rw [decide_eq_false (show ¬ ((k : Nat) : Int) < (ws.length : Int) by omega)]
    conv => whnf
    exact q _
  | j + 1, k, hk => by
    have hlt : k < ws.length := by omega
    have hat : ∀ t : List AV, (wordsC ws ++ t)[0 + k * 1]? = some (.i .u32 ws[k]) := fun t => by
      rw [show 0 + k * 1 = k by omega, List.getElem?_append_left (by rw [wordsC_len]; exact hlt)]; exact wordsC_at hlt
    refine LoopF.round tyB_ok (lit := false) ?_
    conv => whnf
    rw [decide_eq_true (show ((k : Nat) : Int) < (ws.length : Int) by omega)]
    conv => whnf
    refine ⟨k, rfl, hlt, ?_⟩
    conv => whnf
    refine om_of (v := AV.i .u32 ws[k]) (aLoad_at (T := yT22) rfl rfl (cellsAt_of h1) (hat _)) ?_
    conv => whnf
    refine ⟨k, rfl, hlt, ?_⟩
    conv => whnf
    refine om_of (v := AV.i .u32 ws[k]) (aLoad_at (T := yT22) rfl rfl (cellsAt_of h2) (hat _)) ?_
    generalize ws[k] = x
    conv => whnf
    rw [show decide (x = x) = true from decide_eq_true rfl]
    conv => whnf
    refine ⟨((k + 1 : Nat) : Int), (wrap_i64 (by omega) (by omega)).trans (by omega), ?_⟩
    conv => whnf
    exact words_loop m ws σ o g o2 g2 h1 h2 hn Q q j (k + 1) (by omega)
theorem words_same {m : Int} {ws : List Int} {σ : St} {a b : AV} (ha : WdAt σ a ws) (hb : WdAt σ b ws) (hn : ws.length ≤ 4294967296) {Q : AV → St → Prop} (q : Q (.b true) σ) : CallF (X23 m) 18 [a, b] σ Q := by
  refine CallF.body (F := F18) tyB_ok (lit := false) rfl rfl (Nat.le_of_ble_eq_true rfl) ?_
  rcases ha with ⟨rfl, rfl⟩ | ⟨o, g, ro, e, t, rfl, h1⟩ <;> rcases hb with ⟨h, rfl⟩ | ⟨o2, g2, ro2, e2, t2, rfl, h2⟩
  · conv => whnf
    refine LoopF.round tyB_ok (lit := false) ?_
    conv => whnf
    exact Fin.flat rfl (by rw [List.take_length]) q
  · conv => whnf
    refine LoopF.round tyB_ok (lit := false) ?_
    conv => whnf
    exact Fin.flat rfl (by rw [List.take_length]) q
  · subst h
    conv => whnf
    refine LoopF.round tyB_ok (lit := false) ?_
    conv => whnf
    exact Fin.flat rfl (by rw [List.take_length]) q
  · conv => whnf
    rw [show decide (((ws.length : Nat) : Int) = (ws.length : Int)) = true from decide_eq_true rfl]
    conv => whnf
    refine words_loop m ws σ o g o2 g2 h1 h2 hn _ (fun e' => ?_) ws.length 0 (by omega)
    conv => whnf
    exact Fin.flat rfl (by rw [List.take_length]) q
end Go.Abs.YtkfcbgmamfnajaaGreatDoor
/- AsmBack over the abstract store. -/
namespace Go.Abs.YtkfcbgmamfnajaaGreatDoor
open Go.Proofs
set_option maxRecDepth 4000
theorem line_cases (l : List UInt8) : lineP l = (0, 4) ∨ ∃ w, lineP l = (w, 0) ∧ printP w = l ∧ 0 ≤ w ∧ w < 4294967296 := by
  unfold lineP
  split
  · exact .inl rfl
  · split
    · rename_i h
      obtain ⟨_, _, h3⟩ := h
      exact .inr ⟨_, rfl, h3, readT_bounds _⟩
    · exact .inl rfl
theorem c23_line {m : Int} {l : List UInt8} {σ : St} {Q : AV → St → Prop} (hl : l.length ≤ 4294967296) (ht : σ.take 11 = G0 m) (q : Q (.tu [.i .u32 (lineP l).1, .i .i64 (lineP l).2]) σ) : CallF (X23 m) 10 [.s l] σ Q :=
  CallF.lift (X := X18 m) rfl rfl (c18_line hl ht q)
theorem c23_print {m w : Int} {σ : St} {Q : AV → St → Prop} (hw : 0 ≤ w ∧ w < 4294967296) (ht : σ.take 11 = G0 m) (q : Q (.s (printP w)) σ) : CallF (X23 m) 13 [.i .u32 w] σ Q :=
  CallF.lift (X := X18 m) rfl rfl (c18_print hw ht q)
theorem c23_works {m : Int} {σ : St} {Q : AV → St → Prop} (ht : σ.take 11 = G0 m) (q : Q (.b true) σ) : CallF (X23 m) 12 [] σ Q :=
  CallF.lift (X := X22 m) rfl rfl (c22_works ht q)
theorem back_loop (m : Int) (e : Nat) (ws : List Int) (s : List UInt8) (hw : W32 ws) (b : Nat) (hb : b ≤ ws.length) (hb1 : b ≤ 100) (Q : Out → Env → St → Prop) (q : Q (.exit 0) [(22, .b false), (21, .i .i64 b), (20, .sl 11 1 0 b 1), (19, .i .i64 b), (0, .sl 11 1 0 b 1), (1, .s s), (5, .i .i64 b)] (S1 m e (wordsC ws))) :
    ∀ (j k : Nat), k + j = b → LoopF (X23 m) [0, 1, 5] c5L0 [(0, .sl 11 1 0 b 1), (1, .s s), (5, .i .i64 k)] (S1 m e (wordsC ws)) Q
  | 0, k, hk => by
    refine LoopF.round tyB_ok (lit := true) ?_
    conv => whnf
    rw [decide_eq_false (show ¬ ((k : Nat) : Int) < (b : Int) by omega)]
    conv => whnf
    obtain rfl : k = b := by omega
    exact q
  | j + 1, k, hk => by
    have hlt : k < b := by omega
    have hlw : k < ws.length := by omega
    have hload : aLoad (tyB.get 22) (.p 11 1 (0 + k * 1)) (S1 m e (wordsC ws)) = some (.i .u32 ws[k]) :=
      aLoad_at (T := yT22) rfl rfl (cellsAt_of (show (S1 m e (wordsC ws))[11]? = some ⟨1, true, .cells e (wordsC ws)⟩ from rfl)) (by rw [show 0 + k * 1 = k by omega]; exact wordsC_at hlw)
    have hwk := hw _ (List.getElem_mem hlw)
    generalize ws[k] = w at hload hwk
    refine LoopF.round tyB_ok (lit := true) ?_
    conv => whnf
    rw [decide_eq_true (show ((k : Nat) : Int) < (b : Int) by omega)]
    conv => whnf
    refine ⟨k, rfl, hlt, ?_⟩
    conv => whnf
    refine om_of hload ?_
    conv => whnf
    refine c23_print hwk rfl ?_
    have hpl := print_len w hwk.1 hwk.2
    have hlp := line_print hwk.1 hwk.2
    generalize printP w = p at hpl hlp
    conv => whnf
    refine c23_line (by omega) rfl ?_
    rw [hlp]
    conv => whnf
    refine ⟨k, rfl, hlt, ?_⟩
    conv => whnf
    refine om_of hload ?_
    conv => whnf
    rw [show decide (w = w) = true from decide_eq_true rfl]
    conv => whnf
    refine ⟨((k + 1 : Nat) : Int), (wrap_i64 (by omega) (by omega)).trans (by omega), ?_⟩
    conv => whnf
    exact back_loop m e ws s hw b hb hb1 Q q j (k + 1) (by omega)
theorem back_to (m : Int) (e : Nat) (ws : List Int) (hw : W32 ws) (s : List UInt8) (hs : s.length ≤ 4294967296) : CallF (X23 m) 5 [.sl 11 1 0 ws.length 1, .s s] (S1 m e (wordsC ws)) fun v _ => v = .b true := by
  refine CallF.body (F := F5) tyB_ok (lit := true) rfl rfl (Nat.le_of_ble_eq_true rfl) ?_
  conv => whnf
  refine c23_works rfl ?_
  conv => whnf
  refine ⟨min ws.length 100, by show (if false = true then _ else min (ws.length : Int) 100) = _; rw [if_neg (by decide)]; omega, Nat.min_le_left _ _, ?_⟩
  have hb := Nat.min_le_left ws.length 100
  have hb1 := Nat.min_le_right ws.length 100
  generalize min ws.length 100 = b at hb hb1
  conv => whnf
  refine back_loop m e ws s hw b hb hb1 _ ?_ b 0 (by omega)
  have hw2 : W32 (ws.take b) := fun w h => hw w (List.mem_of_mem_take h)
  have hl2 : (ws.take b).length = b := by rw [List.length_take]; omega
  have hA := asm_dis (ws.take b) hw2 (by omega)
  have hdl := dis_len (ws.take b) hw2
  have hsp : wordsC ws = wordsC (ws.take b) ++ wordsC (ws.drop b) := by
    unfold wordsC; rw [← List.map_append, List.take_append_drop]
  have hli := line_cases s
  conv => whnf
  refine CallF.lift (X := X22 m) rfl rfl (c22_dis (show (S1 m e (wordsC ws))[11]? = some ⟨1, true, .cells e (wordsC ws)⟩ from rfl) hw hb hb1 rfl ?_)
  generalize disP (ws.take b) = t at hA hdl
  conv => whnf
  by_cases hn : ws.take b = []
  · rw [hn] at hA
    have hb0 : b = 0 := by rw [hn] at hl2; exact hl2.symm
    refine c23_asm_nil hA rfl ?_
    conv => whnf
    refine words_same (ws := []) (.inl ⟨rfl, rfl⟩) (.inr ⟨11, 1, true, e, wordsC ws, by rw [hb0]; rfl, rfl⟩) (by decide) ?_
    conv => whnf
    refine c23_line hs rfl ?_
    rcases hli with h | ⟨w, h, hp, hw3⟩
    · rw [h]
      conv => whnf
      exact Fin.flat rfl rfl rfl
    · rw [h]
      conv => whnf
      refine c23_print hw3 rfl ?_
      rw [hp]
      conv => whnf
      rw [show (s == s) = true from beq_self_eq_true s]
      conv => whnf
      exact Fin.flat rfl rfl rfl
  · refine c23_asm_ok hA hn rfl ?_
    conv => whnf
    refine words_same (ws := ws.take b) (.inr ⟨12, 1, false, 22, [], rfl, by rw [List.append_nil]; rfl⟩) (.inr ⟨11, 1, true, e, wordsC (ws.drop b), by rw [hl2], by rw [← hsp]; rfl⟩) (by omega) ?_
    conv => whnf
    refine c23_line hs rfl ?_
    rcases hli with h | ⟨w, h, hp, hw3⟩
    · rw [h]
      conv => whnf
      exact Fin.flat rfl rfl rfl
    · rw [h]
      conv => whnf
      refine c23_print hw3 rfl ?_
      rw [hp]
      conv => whnf
      rw [show (s == s) = true from beq_self_eq_true s]
      conv => whnf
      exact Fin.flat rfl rfl rfl
theorem back0_to (m : Int) (s : List UInt8) (hs : s.length ≤ 4294967296) : CallF (X23 m) 5 [.sl0, .s s] (G0 m) fun v _ => v = .b true := by
  have hli := line_cases s
  refine CallF.body (F := F5) tyB_ok (lit := true) rfl rfl (Nat.le_of_ble_eq_true rfl) ?_
  conv => whnf
  refine c23_works rfl ?_
  conv => whnf
  refine LoopF.round tyB_ok (lit := true) ?_
  conv => whnf
  refine CallF.lift (X := X21 m) rfl rfl (CallF.lawQ0 (lawDis m) rfl rfl ?_)
  conv => whnf
  refine c23_asm_nil (asm_dis [] (fun w h => by cases h) (by decide)) rfl ?_
  conv => whnf
  refine words_same (ws := []) (.inl ⟨rfl, rfl⟩) (.inl ⟨rfl, rfl⟩) (by decide) ?_
  conv => whnf
  refine c23_line hs rfl ?_
  rcases hli with h | ⟨w, h, hp, hw3⟩
  · rw [h]
    conv => whnf
    exact Fin.flat rfl rfl rfl
  · rw [h]
    conv => whnf
    refine c23_print hw3 rfl ?_
    rw [hp]
    conv => whnf
    rw [show (s == s) = true from beq_self_eq_true s]
    conv => whnf
    exact Fin.flat rfl rfl rfl
end Go.Abs.YtkfcbgmamfnajaaGreatDoor
/- An error is that fault, just. -/
namespace Go.Abs.YtkfcbgmamfnajaaGreatDoor
open Go.Proofs
set_option maxRecDepth 4000
theorem has_is : hasAll Tryz.prog 48 177 = some false := by kernel_rfl
theorem has_unwrap : hasAll Tryz.prog 48 172 = some true := by kernel_rfl
theorem as_to {m : Int} (hm : m % 2 = 1) {σ : St} (hg : σ.take 11 = G0 m) (o g off o2 : Nat) (h2 : σ[o2]? = some ⟨0, false, .cells 48 [.p0]⟩) (Q : AV → St → Prop) (q : Q (.b true) (σ.set o2 ⟨0, false, .cells 48 [.p o g off]⟩)) :
    CallF (X23 m) 61 [.ic 48 (.p o g off), .ic 100 (.p o2 0 0)] σ Q := by
  have h5 : σ[0]? = some ⟨0, true, .cells 132 [.ic 165 (.ag [.p 10 0 33])]⟩ := by
    rw [glob_at (G0 := G0 m) hg (show 0 < 11 by decide)]
    show some (AO.mk 0 true (.cells 132 (et0 m))) = _
    unfold et0
    rw [decide_eq_true hm]
  have hs : aStore (tyOf Tryz.prog 48) (.p o2 0 0) (.p o g off) σ = some (σ.set o2 ⟨0, false, .cells 48 [.p o g off]⟩) := by
    have := aStore_to (τ := tyB.get) (t := 48) (T := yT48) (y := .p o g off) (off := 0) [.p o g off] rfl h2 rfl rfl (Nat.le_of_ble_eq_true rfl) rfl
    exact aStore_ok (X := X23 m) tyB_ok this
  refine CallF.prim (g := pAs) rfl ?_ q
  unfold pAs
  simp only
  rw [h5]
  show (aStore (tyOf Tryz.prog 48) (.p o2 0 0) (.p o g off) σ).map (fun x => (AV.b true, x)) = _
  rw [hs]; rfl
theorem unwrap_to {m : Int} {σ : St} {o g : Nat} {ro : Bool} {e l : Int} (h : σ[o]? = some ⟨g, ro, .cells 54 [.i .i64 e, .i .i64 l]⟩) : CallF (X23 m) 175 [.p o g 0] σ fun v s => v = .ic 23 (.i .i64 e) ∧ s = σ := by
  refine CallF.body (F := F175) tyB_ok (lit := false) rfl rfl (Nat.le_of_ble_eq_true rfl) ?_
  conv => whnf
  refine om_of (aLoad_at (T := yT23) rfl rfl (cellsAt_of h) rfl) ?_
  conv => whnf
  exact Fin.flat rfl List.take_length ⟨rfl, rfl⟩
set_option maxHeartbeats 4000000 in
theorem is_to {m : Int} {σ : St} {o g : Nat} {ro : Bool} {e l : Int} (h : σ[o]? = some ⟨g, ro, .cells 54 [.i .i64 e, .i .i64 l]⟩) : CallF (X23 m) 98 [.ic 48 (.p o g 0), .ic 23 (.i .i64 e), .b true] σ fun v s => v = .b true ∧ s = σ := by
  refine CallF.body (F := F98) tyB_ok (lit := false) rfl rfl (Nat.le_of_ble_eq_true rfl) ?_
  conv => whnf
  refine LoopF.round tyB_ok (lit := false) ?_
  conv => whnf
  refine HasF.of has_is ?_
  conv => whnf
  refine HasF.of has_unwrap ?_
  conv => whnf
  refine CallF.to (unwrap_to h) ?_
  conv => whnf
  refine LoopF.round tyB_ok (lit := false) ?_
  conv => whnf
  split
  · conv => whnf
    exact Fin.flat rfl List.take_length ⟨rfl, rfl⟩
  · rename_i h; exfalso; simp at h
theorem Is_to {m : Int} {σ : St} {o g : Nat} {ro : Bool} {e l : Int} (h : σ[o]? = some ⟨g, ro, .cells 54 [.i .i64 e, .i .i64 l]⟩) : CallF (X23 m) 62 [.ic 48 (.p o g 0), .ic 23 (.i .i64 e)] σ fun v s => v = .b true ∧ s = σ := by
  refine CallF.body (F := F62) tyB_ok (lit := false) rfl rfl (Nat.le_of_ble_eq_true rfl) ?_
  conv => whnf
  refine CallF.prim (g := pTypeOf) rfl rfl ?_
  conv => whnf
  refine CallF.prim (g := pComparable) rfl rfl ?_
  conv => whnf
  refine CallF.to (is_to h) ?_
  conv => whnf
  exact Fin.flat rfl List.take_length ⟨rfl, rfl⟩
theorem told_nil (m : Int) (σ : St) : CallF (X23 m) 24 [.ic0, .p0] σ fun v s => v = .b true ∧ s = σ := by
  refine CallF.body (F := F24) tyB_ok (lit := false) rfl rfl (Nat.le_of_ble_eq_true rfl) ?_
  conv => whnf
  exact Fin.flat rfl List.take_length ⟨rfl, rfl⟩
theorem told_same {m : Int} (hm : m % 2 = 1) {σ : St} (hg : σ.take 11 = G0 m) {o g o2 g2 : Nat} {ro ro2 : Bool} {e l : Int} (h : σ[o]? = some ⟨g, ro, .cells 54 [.i .i64 e, .i .i64 l]⟩) (h2 : σ[o2]? = some ⟨g2, ro2, .cells 54 [.i .i64 e, .i .i64 l]⟩) :
    CallF (X23 m) 24 [.ic 48 (.p o g 0), .p o2 g2 0] σ fun v s => v = .b true ∧ s = σ := by
  refine CallF.body (F := F24) tyB_ok (lit := false) rfl rfl (Nat.le_of_ble_eq_true rfl) ?_
  conv => whnf
  have hx := (Ext.refl σ).new 48 [.p0]
  have hx2 : Ext σ _ := hx.set (o := σ.length) (Nat.le_refl _) ⟨0, false, .cells 48 [.p o g 0]⟩
  have hp := at_set (get_new 48 [.p0] σ) ⟨0, false, .cells 48 [.p o g 0]⟩
  have hf := hx2.get h
  have hb := hx2.get h2
  have hgn : (newCells 48 [.p0] σ).take 11 = G0 m := by
    rw [take_new _ _ _ _ (by have := congrArg List.length hg; rw [List.length_take] at this; have h11 : (G0 m).length = 11 := rfl; omega)]; exact hg
  refine as_to hm hgn _ _ _ _ (get_new _ _ _) _ ?_
  conv => whnf
  refine om_of (aLoad_at (T := yT48) rfl rfl (cellsAt_of hp) rfl) ?_
  conv => whnf
  refine om_of (aLoad_at (T := yT23) rfl rfl (cellsAt_of hf) rfl) ?_
  conv => whnf
  refine om_of (aLoad_at (T := yT23) rfl rfl (cellsAt_of hb) rfl) ?_
  conv => whnf
  rw [decide_eq_true rfl]
  conv => whnf
  refine om_of (aLoad_at (T := yT48) rfl rfl (cellsAt_of hp) rfl) ?_
  conv => whnf
  refine om_of (aLoad_at (T := yT3) rfl rfl (cellsAt_of hf) rfl) ?_
  conv => whnf
  refine om_of (aLoad_at (T := yT3) rfl rfl (cellsAt_of hb) rfl) ?_
  conv => whnf
  rw [decide_eq_true rfl]
  conv => whnf
  refine om_of (aLoad_at (T := yT23) rfl rfl (cellsAt_of hb) rfl) ?_
  conv => whnf
  refine CallF.to (Is_to hf) ?_
  conv => whnf
  exact Fin.flat rfl hx2.take ⟨rfl, rfl⟩
end Go.Abs.YtkfcbgmamfnajaaGreatDoor
/- AsmKnown: what closed texts come to, in plain. -/
namespace Go.Abs.YtkfcbgmamfnajaaGreatDoor
open Go.Proofs Go.Lib
set_option maxRecDepth 100000
theorem line_is {l : List UInt8} (h : (readR (wordsOf l)).is = false) : lineP l = (0, 4) := by
  have h1 := (read_rel (wordsOf l)).1
  unfold lineP
  split
  · rfl
  · rw [if_neg]
    rintro ⟨h2, _⟩
    rw [h1, h] at h2; cases h2
theorem line_lab {l : List UInt8} (h : (readR (wordsOf l)).lab ≠ []) : lineP l = (0, 4) := by
  have h1 := read_rel (wordsOf l)
  unfold lineP
  split
  · rfl
  · rw [if_neg]
    rintro ⟨h2, h3, _⟩
    rw [h1.2 (by rw [← h1.1]; exact h2)] at h3
    exact h h3
theorem line_join {l : List UInt8} (h : join (wordsOf l) [32] ≠ l) : lineP l = (0, 4) := by
  rcases line_cases l with h1 | ⟨w, h1, h2, h3, h4⟩
  · exact h1
  · exfalso
    apply h
    obtain ⟨e1, _⟩ := read_print h3 h4
    rw [h2] at e1
    rw [e1, ← print_join, h2]
theorem lk0 : lineP [108, 105, 32, 32, 99, 51, 32, 45, 55] = (0, 4) := line_join (by decide)
theorem lk1 : lineP [108, 105, 32, 99, 49, 54, 32, 48] = (0, 4) := line_is (by rfl)
theorem lk2 : lineP [108, 105, 32, 99, 51, 32, 45, 48, 55] = (0, 4) := line_is (by rfl)
theorem lk3 : lineP [119, 111, 114, 100, 32, 48, 49] = (0, 4) := line_is (by rfl)
theorem lk4 : lineP [] = (0, 4) := rfl
theorem lk5 : lineP [32, 114, 101, 116] = (0, 4) := line_join (by decide)
theorem lk6 : lineP [114, 101, 116, 32] = (0, 4) := line_join (by decide)
theorem lk7 : lineP [108, 105, 32, 99, 51] = (0, 4) := line_is (by rfl)
theorem lk8 : lineP [108, 105, 32, 99, 51, 32, 50, 48, 52, 56] = (0, 4) := line_is (by rfl)
theorem lk9 : lineP [108, 105, 32, 99, 51, 32, 45, 48] = (0, 4) := line_is (by rfl)
theorem lk10 : lineP [98, 101, 113, 32, 99, 48, 32, 99, 48, 32, 111, 110] = (0, 4) := line_lab (by rw [show (readR (wordsOf [98, 101, 113, 32, 99, 48, 32, 99, 48, 32, 111, 110])).lab = [111, 110] from rfl]; decide)
theorem lk11 : lineP [119, 111, 114, 100, 32, 52, 50, 57, 52, 57, 54, 55, 50, 57, 54] = (0, 4) := line_is (by rfl)
theorem lk12 : lineP [97, 100, 100, 32, 99, 49, 32, 99, 50, 32, 99, 51, 32, 99, 52] = (0, 4) := line_is (by rfl)
theorem lk13 : lineP [76, 105, 32, 99, 51, 32, 49] = (0, 4) := line_is (by rfl)
theorem lk14 : lineP [119, 111, 114, 100, 32, 49, 57, 57, 50, 50, 57, 52, 52] = (0, 4) := by
  rcases line_cases [119, 111, 114, 100, 32, 49, 57, 57, 50, 50, 57, 52, 52] with h1 | ⟨w, h1, h2, h3, h4⟩
  · exact h1
  · exfalso
    obtain ⟨e1, _, _, e4⟩ := read_print h3 h4
    rw [h2] at e1
    rw [← e1] at e4
    have hw : w = 19922944 := by
      rw [← e4]; rfl
    subst hw
    have hd : decP 19922944 = (1, ⟨3, 0, 0, 0⟩) := dec_enc (by rfl)
    unfold printW at e1
    rw [hd, if_neg (by decide)] at e1
    have h5 := congrArg List.head? e1
    revert h5
    show some [119, 111, 114, 100] = some (nameI 1) → False
    decide
theorem ak0 : asmP [98, 101, 113, 32, 99, 48, 32, 99, 48, 32, 111, 110] = .bad 9 0 := by rw [asm_eq]; rfl
theorem ak1 : asmP [97, 58, 10, 97, 58] = .bad 11 1 := by rw [asm_eq]; rfl
theorem ak2 : asmP [98] = .bad 4 0 := by rw [asm_eq]; rfl
theorem ak3 : asmP [] = .ok [] := by rw [asm_eq]; rfl
theorem ak7 : asmP [108, 105, 32, 99, 49, 32, 120, 10] = .bad 4 0 := by rw [asm_eq]; rfl
theorem ak8 : asmP [57, 97, 58] = .bad 4 0 := by rw [asm_eq]; rfl
theorem ak9 : asmP [119, 111, 114, 100, 32, 53] = .ok [5] := by rw [asm_eq]; rfl
theorem ak10 : asmP [108, 105, 32, 99, 49, 32, 48, 55] = .bad 4 0 := by rw [asm_eq]; rfl
theorem ak11 : asmP [109, 111, 118, 101, 32, 99, 48, 49, 32, 99, 50] = .bad 4 0 := by rw [asm_eq]; rfl
theorem rep_len (l : List UInt8) : ∀ n, (repeatL l n).length = n * l.length
  | 0 => by simp [repeatL]
  | n + 1 => by
    have e : repeatL l (n + 1) = l ++ repeatL l n := rfl
    rw [e, List.length_append, rep_len l n, Nat.add_mul, Nat.one_mul]; omega
theorem ak4 : asmP (repeatL [10] 32769) = .bad 3 0 := by
  unfold asmP
  rw [if_pos (by rw [rep_len]; decide)]
def retL : List UInt8 := [114, 101, 116]
def retX : RT := readR (wordsOf retL)
theorem ret_step (k : Nat) (s : AS) : stepR retL k s = if 4096 ≤ s.I.length then .bad 3 else .st ⟨s.L, s.I ++ [(retX, k)]⟩ := by
  have e : wordsOf (retL.takeWhile (· ≠ 59)) = [retL] := by rfl
  unfold stepR
  rw [e, if_neg (by simp)]
  unfold takeR
  rw [show isLab [retL] = false from rfl, if_neg (by decide), if_neg (by rw [show (readR [retL]).is = true from rfl]; decide)]
  rfl
theorem rep_lines : ∀ n, linesOf (repeatL (retL ++ [10]) n) = List.replicate n retL ++ [[]]
  | 0 => rfl
  | n + 1 => by
    have e : repeatL (retL ++ [10]) (n + 1) = retL ++ 10 :: repeatL (retL ++ [10]) n := by
      show (retL ++ [10]) ++ repeatL (retL ++ [10]) n = _
      rw [List.append_assoc]; rfl
    rw [e]
    unfold linesOf
    rw [linesGo_app _ [] _ (by rfl)]
    have := rep_lines n
    unfold linesOf at this
    rw [this, List.replicate_succ]; rfl
theorem rep_asm : ∀ (n k : Nat) (s : AS) (I : List (RT × Nat)), s.I = I → I.length + n ≤ 4096 → (∀ p ∈ I, p.1 = retX) → ∃ I', I'.length = I.length + n ∧ (∀ p ∈ I', p.1 = retX) ∧ ∀ t, asmLR (List.replicate n retL ++ t) k s = asmLR t (k + n) ⟨s.L, I'⟩
  | 0, k, s, I, h, _, hI => ⟨I, by simp, hI, fun t => by subst h; rfl⟩
  | n + 1, k, s, I, h, hn, hI => by
    subst h
    obtain ⟨I', h1, h2, h3⟩ := rep_asm n (k + 1) ⟨s.L, s.I ++ [(retX, k)]⟩ _ rfl (by simp; omega) (fun p hp => by
      rcases List.mem_append.1 hp with hp | hp
      · exact hI p hp
      · rw [List.mem_singleton.1 hp])
    refine ⟨I', by rw [h1]; simp; omega, h2, fun t => ?_⟩
    have h4 := h3 t
    rw [List.replicate_succ]
    show (match stepR retL k s with | .st s' => asmLR (List.replicate n retL ++ t) (k + 1) s' | .bad c => .bad c k) = _
    rw [ret_step, if_neg (by omega)]
    show asmLR (List.replicate n retL ++ t) (k + 1) _ = _
    rw [h4, Nat.add_assoc, Nat.add_comm 1 n]
theorem ak5 : asmP (repeatL [114, 101, 116, 10] 4097) = .bad 3 4096 := by
  rw [asm_eq]
  unfold asmR
  rw [if_neg (by rw [rep_len]; decide), show ([114, 101, 116, 10] : List UInt8) = retL ++ [10] from rfl, rep_lines]
  obtain ⟨I', h1, _, h3⟩ := rep_asm 4096 0 ⟨[], []⟩ [] rfl (by decide) (by simp)
  have e : List.replicate 4097 retL ++ [[]] = List.replicate 4096 retL ++ (retL :: [[]]) := by
    rw [show 4097 = 4096 + 1 from rfl, List.replicate_succ', List.append_assoc]; rfl
  rw [e, h3]
  have hs := ret_step (0 + 4096) ⟨[], I'⟩
  rw [if_pos (by rw [h1]; decide)] at hs
  show (match (match stepR retL (0 + 4096) ⟨[], I'⟩ with | .st s' => asmLR [[]] (0 + 4096 + 1) s' | .bad c => .bad c (0 + 4096)) with | .bad c k => ZR.bad c k | .st s => resR s.L s.I 0 []) = _
  rw [hs]
theorem ak6 : ∃ ws, asmP (repeatL [114, 101, 116, 10] 4096) = .ok ws ∧ ws.length = 4096 := by
  rw [asm_eq]
  unfold asmR
  rw [if_neg (by rw [rep_len]; decide), show ([114, 101, 116, 10] : List UInt8) = retL ++ [10] from rfl, rep_lines]
  obtain ⟨I', h1, h2, h3⟩ := rep_asm 4096 0 ⟨[], []⟩ [] rfl (by decide) (by simp)
  rw [h3]
  have hr := res_prints [] I' 0 [] (fun p hp => by rw [h2 p hp]; rfl)
  refine ⟨[] ++ I'.map (·.1.w), hr, ?_⟩
  rw [List.nil_append, List.length_map, h1]; rfl
end Go.Abs.YtkfcbgmamfnajaaGreatDoor
/- AsmKnown over the abstract store. -/
namespace Go.Abs.YtkfcbgmamfnajaaGreatDoor
open Go.Proofs
set_option maxRecDepth 100000
theorem c23_rep {m : Int} {l : List UInt8} {n : Nat} {σ : St} {Q : AV → St → Prop} (h : n ≤ 100000) (hl : l.length ≤ 100) (q : Q (.s (Lib.repeatL l n)) σ) : CallF (X23 m) 21 [.s l, .i .i64 n] σ Q := by
  refine CallF.prim (g := pRepeat) rfl ?_ q
  have h2 : l.length * n ≤ 100 * 100000 := Nat.mul_le_mul hl h
  simp only [pRepeat]
  rw [if_pos ⟨by omega, by omega, by rw [Int.toNat_natCast]; omega⟩, Int.toNat_natCast]
def lkT : List (List UInt8) := [[108, 105, 32, 32, 99, 51, 32, 45, 55], [108, 105, 32, 99, 49, 54, 32, 48], [108, 105, 32, 99, 51, 32, 45, 48, 55], [119, 111, 114, 100, 32, 48, 49], [], [32, 114, 101, 116], [114, 101, 116, 32], [108, 105, 32, 99, 51], [108, 105, 32, 99, 51, 32, 50, 48, 52, 56], [108, 105, 32, 99, 51, 32, 45, 48], [98, 101, 113, 32, 99, 48, 32, 99, 48, 32, 111, 110], [119, 111, 114, 100, 32, 52, 50, 57, 52, 57, 54, 55, 50, 57, 54], [97, 100, 100, 32, 99, 49, 32, 99, 50, 32, 99, 51, 32, 99, 52], [76, 105, 32, 99, 51, 32, 49], [119, 111, 114, 100, 32, 49, 57, 57, 50, 50, 57, 52, 52]]
theorem lk_all : ∀ (k : Nat) (s : List UInt8), lkT[k]? = some s → lineP s = (0, 4) ∧ s.length ≤ 100 := by
  intro k s h
  match k, h with
  | 0, h => cases h; exact ⟨lk0, by decide⟩
  | 1, h => cases h; exact ⟨lk1, by decide⟩
  | 2, h => cases h; exact ⟨lk2, by decide⟩
  | 3, h => cases h; exact ⟨lk3, by decide⟩
  | 4, h => cases h; exact ⟨lk4, by decide⟩
  | 5, h => cases h; exact ⟨lk5, by decide⟩
  | 6, h => cases h; exact ⟨lk6, by decide⟩
  | 7, h => cases h; exact ⟨lk7, by decide⟩
  | 8, h => cases h; exact ⟨lk8, by decide⟩
  | 9, h => cases h; exact ⟨lk9, by decide⟩
  | 10, h => cases h; exact ⟨lk10, by decide⟩
  | 11, h => cases h; exact ⟨lk11, by decide⟩
  | 12, h => cases h; exact ⟨lk12, by decide⟩
  | 13, h => cases h; exact ⟨lk13, by decide⟩
  | 14, h => cases h; exact ⟨lk14, by decide⟩
theorem known_loop (m : Int) (σ : St) (ht : σ.take 11 = G0 m) (h11 : σ[11]? = some ⟨0, false, .cells 9 (strsC lkT)⟩) (Q : Out → Env → St → Prop) (q : Q (.exit 0) [(32, .b false), (29, .sl 11 0 0 15 1), (30, .i .i64 ((15 : Nat) : Int)), (31, .i .i64 ((15 : Nat) : Int))] σ) :
    ∀ (j k : Nat), k + j = 15 → LoopF (X23 m) [29, 30, 31] c9L0 [(29, .sl 11 0 0 15 1), (30, .i .i64 ((15 : Nat) : Int)), (31, .i .i64 k)] σ Q
  | 0, k, hk => by
    obtain rfl : k = 15 := by omega
    refine LoopF.round tyB_ok (lit := false) ?_
    conv => whnf
    exact q
  | j + 1, k, hk => by
    have hlt : k < 15 := by omega
    obtain ⟨s, hs⟩ : ∃ s, lkT[k]? = some s := ⟨lkT[k]'hlt, List.getElem?_eq_getElem hlt⟩
    obtain ⟨hl, hsl⟩ := lk_all k s hs
    refine LoopF.round tyB_ok (lit := false) ?_
    conv => whnf
    rw [decide_eq_true (show ((k : Nat) : Int) < ((15 : Nat) : Int) by omega)]
    conv => whnf
    refine ⟨k, rfl, hlt, ?_⟩
    conv => whnf
    refine om_of (v := AV.s s) (aLoad_at (T := yT9) rfl rfl (cellsAt_of h11) (by rw [show 0 + k * 1 = k by omega]; unfold strsC; rw [List.getElem?_map, hs]; rfl)) ?_
    conv => whnf
    refine c23_line (by omega) ht ?_
    rw [hl]
    conv => whnf
    refine ⟨((k + 1 : Nat) : Int), (wrap_i64 (by omega) (by omega)).trans (by omega), ?_⟩
    conv => whnf
    exact known_loop m σ ht h11 Q q j (k + 1) (by omega)
/-- Assemble's law, the store hidden. -/
theorem asm_badX {m c : Int} {k n : Nat} {t : List UInt8} {σ : St} {Q : AV → St → Prop} (hA : asmP t = .bad c k) (hx : Ext (G0 m) σ) (hn : σ.length = n) (q : ∀ σ', Ext (G0 m) σ' → Ext σ σ' → σ'.length = n + 1 → σ'[n]? = some ⟨1, false, .cells 54 [.i .i64 c, .i .i64 k]⟩ → Q (.tu [.sl0, .ic 48 (.p n 1 0)]) σ') : CallF (X23 m) 17 [.s t] σ Q := by
  subst hn
  exact c23_asm_bad hA hx.take (q _ (hx.one _ _) ((Ext.refl _).one _ _) (addOne_len _ _ _) (addOne_new _ _ _))
theorem asm_okX {m : Int} {n L : Nat} {t : List UInt8} {ws : List Int} {σ : St} {Q : AV → St → Prop} (hA : asmP t = .ok ws) (hL : ws.length = L) (h0 : 0 < L) (hx : Ext (G0 m) σ) (hn : σ.length = n) (q : ∀ σ', Ext (G0 m) σ' → Ext σ σ' → σ'.length = n + 1 → σ'[n]? = some ⟨1, false, .cells 22 (wordsC ws)⟩ → Q (.tu [.sl n 1 0 L 1, .ic0]) σ') : CallF (X23 m) 17 [.s t] σ Q := by
  subst hn
  subst hL
  exact c23_asm_ok hA (by intro h; rw [h] at h0; cases h0) hx.take (q _ (hx.one _ _) ((Ext.refl _).one _ _) (addOne_len _ _ _) (addOne_new _ _ _))
theorem toldX {m : Int} (hm : m % 2 = 1) {σ : St} (hx : Ext (G0 m) σ) {n n2 : Nat} {e l : Int} (h : σ[n]? = some ⟨1, false, .cells 54 [.i .i64 e, .i .i64 l]⟩) (hn : σ.length = n2) {Q : AV → St → Prop} (q : ∀ σ', Ext (G0 m) σ' → Ext σ σ' → σ'.length = n2 + 1 → Q (.b true) σ') : CallF (X23 m) 24 [.ic 48 (.p n 1 0), .p σ.length 0 0] (newCells 54 [.i .i64 e, .i .i64 l] σ) Q := by
  subst hn
  refine CallF.to (told_same hm (hx.new _ _).take (at_new h _ _) (get_new _ _ _)) ?_
  exact q _ (hx.new _ _) ((Ext.refl _).new _ _) (len_new _ _ _)
theorem known_to (m : Int) (hm : m % 2 = 1) : CallF (X23 m) 9 [] (G0 m) fun v _ => v = .b true := by
  refine CallF.body (F := F9) tyB_ok (lit := false) rfl rfl (Nat.le_of_ble_eq_true rfl) ?_
  conv => whnf
  have x := (Ext.refl (G0 m)).new 9 (strsC lkT)
  have hn : (newCells 9 (strsC lkT) (G0 m)).length = 12 := rfl
  have h11 : (newCells 9 (strsC lkT) (G0 m))[11]? = some ⟨0, false, .cells 9 (strsC lkT)⟩ := rfl
  refine known_loop m (newCells 9 (strsC lkT) (G0 m)) x.take h11 _ ?_ 15 0 rfl
  generalize newCells 9 (strsC lkT) (G0 m) = σ0 at x hn
  conv => whnf
  refine asm_badX ak0 x hn fun σ1 x x1 hn ha => ?_
  conv => whnf
  refine asm_badX ak1 x hn fun σ2 x x2 hn hb => ?_
  replace ha := x2.get ha
  conv => whnf
  refine asm_badX ak2 x hn fun σ3 x x3 hn hc => ?_
  replace ha := x3.get ha
  replace hb := x3.get hb
  conv => whnf
  refine c23_asm_nil ak3 x.take ?_
  conv => whnf
  refine c23_rep (n := 32769) (by decide) (by decide) ?_
  have h4 := ak4
  generalize Lib.repeatL [10] 32769 = t4 at h4
  conv => whnf
  refine asm_badX h4 x hn fun σ4 x x4 hn hf => ?_
  replace ha := x4.get ha
  replace hb := x4.get hb
  replace hc := x4.get hc
  conv => whnf
  refine c23_rep (n := 4097) (by decide) (by decide) ?_
  have h5 := ak5
  generalize Lib.repeatL [114, 101, 116, 10] 4097 = t5 at h5
  conv => whnf
  refine asm_badX h5 x hn fun σ5 x x5 hn hg => ?_
  replace ha := x5.get ha
  replace hb := x5.get hb
  replace hc := x5.get hc
  replace hf := x5.get hf
  conv => whnf
  refine c23_rep (n := 4096) (by decide) (by decide) ?_
  obtain ⟨ws6, h6, hl6⟩ := ak6
  generalize Lib.repeatL [114, 101, 116, 10] 4096 = t6 at h6
  conv => whnf
  refine asm_okX h6 hl6 (by decide) x hn fun σ6 x x6 hn hh => ?_
  replace ha := x6.get ha
  replace hb := x6.get hb
  replace hc := x6.get hc
  replace hf := x6.get hf
  replace hg := x6.get hg
  conv => whnf
  refine asm_badX ak7 x hn fun σ7 x x7 hn hk => ?_
  replace ha := x7.get ha
  replace hb := x7.get hb
  replace hc := x7.get hc
  replace hf := x7.get hf
  replace hg := x7.get hg
  replace hh := x7.get hh
  conv => whnf
  refine asm_badX ak8 x hn fun σ8 x x8 hn hm8 => ?_
  replace ha := x8.get ha
  replace hb := x8.get hb
  replace hc := x8.get hc
  replace hf := x8.get hf
  replace hg := x8.get hg
  replace hh := x8.get hh
  replace hk := x8.get hk
  conv => whnf
  refine asm_okX ak9 rfl (by decide) x hn fun σ9 x x9 hn hn9 => ?_
  replace ha := x9.get ha
  replace hb := x9.get hb
  replace hc := x9.get hc
  replace hf := x9.get hf
  replace hg := x9.get hg
  replace hh := x9.get hh
  replace hk := x9.get hk
  replace hm8 := x9.get hm8
  conv => whnf
  refine asm_badX ak10 x hn fun σ10 x x10 hn hp => ?_
  replace ha := x10.get ha
  replace hb := x10.get hb
  replace hc := x10.get hc
  replace hf := x10.get hf
  replace hg := x10.get hg
  replace hh := x10.get hh
  replace hk := x10.get hk
  replace hm8 := x10.get hm8
  replace hn9 := x10.get hn9
  conv => whnf
  refine asm_badX ak11 x hn fun σ11 x x11 hn hq => ?_
  replace ha := x11.get ha
  replace hb := x11.get hb
  replace hc := x11.get hc
  replace hf := x11.get hf
  replace hg := x11.get hg
  replace hh := x11.get hh
  replace hk := x11.get hk
  replace hm8 := x11.get hm8
  replace hn9 := x11.get hn9
  replace hp := x11.get hp
  conv => whnf
  refine c23_works x.take ?_
  conv => whnf
  refine toldX hm x ha hn fun σ12 x x12 hn => ?_
  replace ha := x12.get ha
  replace hb := x12.get hb
  replace hc := x12.get hc
  replace hf := x12.get hf
  replace hg := x12.get hg
  replace hh := x12.get hh
  replace hk := x12.get hk
  replace hm8 := x12.get hm8
  replace hn9 := x12.get hn9
  replace hp := x12.get hp
  replace hq := x12.get hq
  conv => whnf
  refine toldX hm x hb hn fun σ13 x x13 hn => ?_
  replace ha := x13.get ha
  replace hb := x13.get hb
  replace hc := x13.get hc
  replace hf := x13.get hf
  replace hg := x13.get hg
  replace hh := x13.get hh
  replace hk := x13.get hk
  replace hm8 := x13.get hm8
  replace hn9 := x13.get hn9
  replace hp := x13.get hp
  replace hq := x13.get hq
  conv => whnf
  refine toldX hm x hc hn fun σ14 x x14 hn => ?_
  replace ha := x14.get ha
  replace hb := x14.get hb
  replace hc := x14.get hc
  replace hf := x14.get hf
  replace hg := x14.get hg
  replace hh := x14.get hh
  replace hk := x14.get hk
  replace hm8 := x14.get hm8
  replace hn9 := x14.get hn9
  replace hp := x14.get hp
  replace hq := x14.get hq
  conv => whnf
  refine toldX hm x hf hn fun σ15 x x15 hn => ?_
  replace ha := x15.get ha
  replace hb := x15.get hb
  replace hc := x15.get hc
  replace hf := x15.get hf
  replace hg := x15.get hg
  replace hh := x15.get hh
  replace hk := x15.get hk
  replace hm8 := x15.get hm8
  replace hn9 := x15.get hn9
  replace hp := x15.get hp
  replace hq := x15.get hq
  conv => whnf
  refine toldX hm x hg hn fun σ16 x x16 hn => ?_
  replace ha := x16.get ha
  replace hb := x16.get hb
  replace hc := x16.get hc
  replace hf := x16.get hf
  replace hg := x16.get hg
  replace hh := x16.get hh
  replace hk := x16.get hk
  replace hm8 := x16.get hm8
  replace hn9 := x16.get hn9
  replace hp := x16.get hp
  replace hq := x16.get hq
  conv => whnf
  refine toldX hm x hk hn fun σ17 x x17 hn => ?_
  replace ha := x17.get ha
  replace hb := x17.get hb
  replace hc := x17.get hc
  replace hf := x17.get hf
  replace hg := x17.get hg
  replace hh := x17.get hh
  replace hk := x17.get hk
  replace hm8 := x17.get hm8
  replace hn9 := x17.get hn9
  replace hp := x17.get hp
  replace hq := x17.get hq
  conv => whnf
  refine toldX hm x hm8 hn fun σ18 x x18 hn => ?_
  replace ha := x18.get ha
  replace hb := x18.get hb
  replace hc := x18.get hc
  replace hf := x18.get hf
  replace hg := x18.get hg
  replace hh := x18.get hh
  replace hk := x18.get hk
  replace hm8 := x18.get hm8
  replace hn9 := x18.get hn9
  replace hp := x18.get hp
  replace hq := x18.get hq
  conv => whnf
  refine words_same (σ := newCells 22 [AV.i .u32 5] σ18) (ws := [5]) (.inr ⟨_, 1, false, 22, [], rfl, (at_new hn9 _ _).trans (by rw [List.append_nil])⟩) (.inr ⟨_, 0, false, 22, [], rfl, get_new _ _ _⟩) (by decide) ?_
  have x19 := (Ext.refl σ18).new 22 [AV.i .u32 5]
  have hn2 := (len_new 22 [AV.i .u32 5] σ18).trans (congrArg (· + 1) hn)
  replace x := x.new 22 [AV.i .u32 5]
  generalize newCells 22 [AV.i .u32 5] σ18 = σ19 at x x19 hn2 ⊢
  replace hn := hn2
  replace ha := x19.get ha
  replace hb := x19.get hb
  replace hc := x19.get hc
  replace hf := x19.get hf
  replace hg := x19.get hg
  replace hh := x19.get hh
  replace hk := x19.get hk
  replace hm8 := x19.get hm8
  replace hn9 := x19.get hn9
  replace hp := x19.get hp
  replace hq := x19.get hq
  conv => whnf
  refine toldX hm x hp hn fun σ20 x x20 hn => ?_
  replace ha := x20.get ha
  replace hb := x20.get hb
  replace hc := x20.get hc
  replace hf := x20.get hf
  replace hg := x20.get hg
  replace hh := x20.get hh
  replace hk := x20.get hk
  replace hm8 := x20.get hm8
  replace hn9 := x20.get hn9
  replace hp := x20.get hp
  replace hq := x20.get hq
  conv => whnf
  refine toldX hm x hq hn fun σ21 x x21 hn => ?_
  replace ha := x21.get ha
  replace hb := x21.get hb
  replace hc := x21.get hc
  replace hf := x21.get hf
  replace hg := x21.get hg
  replace hh := x21.get hh
  replace hk := x21.get hk
  replace hm8 := x21.get hm8
  replace hn9 := x21.get hn9
  replace hp := x21.get hp
  replace hq := x21.get hq
  conv => whnf
  exact Fin.flat rfl x.take rfl
end Go.Abs.YtkfcbgmamfnajaaGreatDoor
