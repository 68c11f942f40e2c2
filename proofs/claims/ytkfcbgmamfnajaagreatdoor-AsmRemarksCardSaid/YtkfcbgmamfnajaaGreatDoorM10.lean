/- Texts of this claim, joined: RfA, RfB, RfC. -/
import Derived.Test.YtkfcbgmamfnajaaGreatDoorM09
set_option linter.unusedVariables false
set_option linter.unusedSimpArgs false
/- The document's isa: names and fields of operations. -/
namespace Go.Abs.YtkfcbgmamfnajaaGreatDoor
open Go.Proofs
set_option maxRecDepth 4000
@[reducible] noncomputable def X8 (m : Int) : Ctx := (X7 m).knows (G0 m) [lawLine m]
theorem X8_sound (m : Int) : (X8 m).Sound 11 := Ctx.knows_sound (X7_sound m) (okG0 m) _
theorem opRows_len : opRows.length = 54 := by rfl
theorem nameI_off {op : Int} (h : ¬ (1 ≤ op ∧ op ≤ 53)) : nameI op = [] ∧ formI op = [] := by
  unfold nameI formI
  by_cases h0 : op < 0
  · rw [if_pos h0, if_pos h0]; exact ⟨rfl, rfl⟩
  · rw [if_neg h0, if_neg h0]
    by_cases h1 : op = 0
    · subst h1; exact ⟨rfl, rfl⟩
    · exact name_beyond (by omega)
set_option maxHeartbeats 4000000 in
theorem rname_to (m op : Int) : CallF (X8 m) 37 [.i .i64 op] (G0 m) fun v s => v = .s (nameI op) ∧ s = G0 m := by
  by_cases h : 1 ≤ op ∧ op ≤ 53
  · obtain ⟨k, rfl⟩ : ∃ k : Nat, op = k := ⟨op.toNat, by omega⟩
    have hk : k < 54 := by omega
    match k, hk with
    | 0, _ =>
      refine CallF.body (F := F37) tyB_ok (lit := true) rfl rfl (Nat.le_of_ble_eq_true rfl) ?_
      conv => whnf
      exact Fin.flat rfl rfl ⟨rfl, rfl⟩
    | 1, _ =>
      refine CallF.body (F := F37) tyB_ok (lit := true) rfl rfl (Nat.le_of_ble_eq_true rfl) ?_
      conv => whnf
      exact Fin.flat rfl rfl ⟨rfl, rfl⟩
    | 2, _ =>
      refine CallF.body (F := F37) tyB_ok (lit := true) rfl rfl (Nat.le_of_ble_eq_true rfl) ?_
      conv => whnf
      exact Fin.flat rfl rfl ⟨rfl, rfl⟩
    | 3, _ =>
      refine CallF.body (F := F37) tyB_ok (lit := true) rfl rfl (Nat.le_of_ble_eq_true rfl) ?_
      conv => whnf
      exact Fin.flat rfl rfl ⟨rfl, rfl⟩
    | 4, _ =>
      refine CallF.body (F := F37) tyB_ok (lit := true) rfl rfl (Nat.le_of_ble_eq_true rfl) ?_
      conv => whnf
      exact Fin.flat rfl rfl ⟨rfl, rfl⟩
    | 5, _ =>
      refine CallF.body (F := F37) tyB_ok (lit := true) rfl rfl (Nat.le_of_ble_eq_true rfl) ?_
      conv => whnf
      exact Fin.flat rfl rfl ⟨rfl, rfl⟩
    | 6, _ =>
      refine CallF.body (F := F37) tyB_ok (lit := true) rfl rfl (Nat.le_of_ble_eq_true rfl) ?_
      conv => whnf
      exact Fin.flat rfl rfl ⟨rfl, rfl⟩
    | 7, _ =>
      refine CallF.body (F := F37) tyB_ok (lit := true) rfl rfl (Nat.le_of_ble_eq_true rfl) ?_
      conv => whnf
      exact Fin.flat rfl rfl ⟨rfl, rfl⟩
    | 8, _ =>
      refine CallF.body (F := F37) tyB_ok (lit := true) rfl rfl (Nat.le_of_ble_eq_true rfl) ?_
      conv => whnf
      exact Fin.flat rfl rfl ⟨rfl, rfl⟩
    | 9, _ =>
      refine CallF.body (F := F37) tyB_ok (lit := true) rfl rfl (Nat.le_of_ble_eq_true rfl) ?_
      conv => whnf
      exact Fin.flat rfl rfl ⟨rfl, rfl⟩
    | 10, _ =>
      refine CallF.body (F := F37) tyB_ok (lit := true) rfl rfl (Nat.le_of_ble_eq_true rfl) ?_
      conv => whnf
      exact Fin.flat rfl rfl ⟨rfl, rfl⟩
    | 11, _ =>
      refine CallF.body (F := F37) tyB_ok (lit := true) rfl rfl (Nat.le_of_ble_eq_true rfl) ?_
      conv => whnf
      exact Fin.flat rfl rfl ⟨rfl, rfl⟩
    | 12, _ =>
      refine CallF.body (F := F37) tyB_ok (lit := true) rfl rfl (Nat.le_of_ble_eq_true rfl) ?_
      conv => whnf
      exact Fin.flat rfl rfl ⟨rfl, rfl⟩
    | 13, _ =>
      refine CallF.body (F := F37) tyB_ok (lit := true) rfl rfl (Nat.le_of_ble_eq_true rfl) ?_
      conv => whnf
      exact Fin.flat rfl rfl ⟨rfl, rfl⟩
    | 14, _ =>
      refine CallF.body (F := F37) tyB_ok (lit := true) rfl rfl (Nat.le_of_ble_eq_true rfl) ?_
      conv => whnf
      exact Fin.flat rfl rfl ⟨rfl, rfl⟩
    | 15, _ =>
      refine CallF.body (F := F37) tyB_ok (lit := true) rfl rfl (Nat.le_of_ble_eq_true rfl) ?_
      conv => whnf
      exact Fin.flat rfl rfl ⟨rfl, rfl⟩
    | 16, _ =>
      refine CallF.body (F := F37) tyB_ok (lit := true) rfl rfl (Nat.le_of_ble_eq_true rfl) ?_
      conv => whnf
      exact Fin.flat rfl rfl ⟨rfl, rfl⟩
    | 17, _ =>
      refine CallF.body (F := F37) tyB_ok (lit := true) rfl rfl (Nat.le_of_ble_eq_true rfl) ?_
      conv => whnf
      exact Fin.flat rfl rfl ⟨rfl, rfl⟩
    | 18, _ =>
      refine CallF.body (F := F37) tyB_ok (lit := true) rfl rfl (Nat.le_of_ble_eq_true rfl) ?_
      conv => whnf
      exact Fin.flat rfl rfl ⟨rfl, rfl⟩
    | 19, _ =>
      refine CallF.body (F := F37) tyB_ok (lit := true) rfl rfl (Nat.le_of_ble_eq_true rfl) ?_
      conv => whnf
      exact Fin.flat rfl rfl ⟨rfl, rfl⟩
    | 20, _ =>
      refine CallF.body (F := F37) tyB_ok (lit := true) rfl rfl (Nat.le_of_ble_eq_true rfl) ?_
      conv => whnf
      exact Fin.flat rfl rfl ⟨rfl, rfl⟩
    | 21, _ =>
      refine CallF.body (F := F37) tyB_ok (lit := true) rfl rfl (Nat.le_of_ble_eq_true rfl) ?_
      conv => whnf
      exact Fin.flat rfl rfl ⟨rfl, rfl⟩
    | 22, _ =>
      refine CallF.body (F := F37) tyB_ok (lit := true) rfl rfl (Nat.le_of_ble_eq_true rfl) ?_
      conv => whnf
      exact Fin.flat rfl rfl ⟨rfl, rfl⟩
    | 23, _ =>
      refine CallF.body (F := F37) tyB_ok (lit := true) rfl rfl (Nat.le_of_ble_eq_true rfl) ?_
      conv => whnf
      exact Fin.flat rfl rfl ⟨rfl, rfl⟩
    | 24, _ =>
      refine CallF.body (F := F37) tyB_ok (lit := true) rfl rfl (Nat.le_of_ble_eq_true rfl) ?_
      conv => whnf
      exact Fin.flat rfl rfl ⟨rfl, rfl⟩
    | 25, _ =>
      refine CallF.body (F := F37) tyB_ok (lit := true) rfl rfl (Nat.le_of_ble_eq_true rfl) ?_
      conv => whnf
      exact Fin.flat rfl rfl ⟨rfl, rfl⟩
    | 26, _ =>
      refine CallF.body (F := F37) tyB_ok (lit := true) rfl rfl (Nat.le_of_ble_eq_true rfl) ?_
      conv => whnf
      exact Fin.flat rfl rfl ⟨rfl, rfl⟩
    | 27, _ =>
      refine CallF.body (F := F37) tyB_ok (lit := true) rfl rfl (Nat.le_of_ble_eq_true rfl) ?_
      conv => whnf
      exact Fin.flat rfl rfl ⟨rfl, rfl⟩
    | 28, _ =>
      refine CallF.body (F := F37) tyB_ok (lit := true) rfl rfl (Nat.le_of_ble_eq_true rfl) ?_
      conv => whnf
      exact Fin.flat rfl rfl ⟨rfl, rfl⟩
    | 29, _ =>
      refine CallF.body (F := F37) tyB_ok (lit := true) rfl rfl (Nat.le_of_ble_eq_true rfl) ?_
      conv => whnf
      exact Fin.flat rfl rfl ⟨rfl, rfl⟩
    | 30, _ =>
      refine CallF.body (F := F37) tyB_ok (lit := true) rfl rfl (Nat.le_of_ble_eq_true rfl) ?_
      conv => whnf
      exact Fin.flat rfl rfl ⟨rfl, rfl⟩
    | 31, _ =>
      refine CallF.body (F := F37) tyB_ok (lit := true) rfl rfl (Nat.le_of_ble_eq_true rfl) ?_
      conv => whnf
      exact Fin.flat rfl rfl ⟨rfl, rfl⟩
    | 32, _ =>
      refine CallF.body (F := F37) tyB_ok (lit := true) rfl rfl (Nat.le_of_ble_eq_true rfl) ?_
      conv => whnf
      exact Fin.flat rfl rfl ⟨rfl, rfl⟩
    | 33, _ =>
      refine CallF.body (F := F37) tyB_ok (lit := true) rfl rfl (Nat.le_of_ble_eq_true rfl) ?_
      conv => whnf
      exact Fin.flat rfl rfl ⟨rfl, rfl⟩
    | 34, _ =>
      refine CallF.body (F := F37) tyB_ok (lit := true) rfl rfl (Nat.le_of_ble_eq_true rfl) ?_
      conv => whnf
      exact Fin.flat rfl rfl ⟨rfl, rfl⟩
    | 35, _ =>
      refine CallF.body (F := F37) tyB_ok (lit := true) rfl rfl (Nat.le_of_ble_eq_true rfl) ?_
      conv => whnf
      exact Fin.flat rfl rfl ⟨rfl, rfl⟩
    | 36, _ =>
      refine CallF.body (F := F37) tyB_ok (lit := true) rfl rfl (Nat.le_of_ble_eq_true rfl) ?_
      conv => whnf
      exact Fin.flat rfl rfl ⟨rfl, rfl⟩
    | 37, _ =>
      refine CallF.body (F := F37) tyB_ok (lit := true) rfl rfl (Nat.le_of_ble_eq_true rfl) ?_
      conv => whnf
      exact Fin.flat rfl rfl ⟨rfl, rfl⟩
    | 38, _ =>
      refine CallF.body (F := F37) tyB_ok (lit := true) rfl rfl (Nat.le_of_ble_eq_true rfl) ?_
      conv => whnf
      exact Fin.flat rfl rfl ⟨rfl, rfl⟩
    | 39, _ =>
      refine CallF.body (F := F37) tyB_ok (lit := true) rfl rfl (Nat.le_of_ble_eq_true rfl) ?_
      conv => whnf
      exact Fin.flat rfl rfl ⟨rfl, rfl⟩
    | 40, _ =>
      refine CallF.body (F := F37) tyB_ok (lit := true) rfl rfl (Nat.le_of_ble_eq_true rfl) ?_
      conv => whnf
      exact Fin.flat rfl rfl ⟨rfl, rfl⟩
    | 41, _ =>
      refine CallF.body (F := F37) tyB_ok (lit := true) rfl rfl (Nat.le_of_ble_eq_true rfl) ?_
      conv => whnf
      exact Fin.flat rfl rfl ⟨rfl, rfl⟩
    | 42, _ =>
      refine CallF.body (F := F37) tyB_ok (lit := true) rfl rfl (Nat.le_of_ble_eq_true rfl) ?_
      conv => whnf
      exact Fin.flat rfl rfl ⟨rfl, rfl⟩
    | 43, _ =>
      refine CallF.body (F := F37) tyB_ok (lit := true) rfl rfl (Nat.le_of_ble_eq_true rfl) ?_
      conv => whnf
      exact Fin.flat rfl rfl ⟨rfl, rfl⟩
    | 44, _ =>
      refine CallF.body (F := F37) tyB_ok (lit := true) rfl rfl (Nat.le_of_ble_eq_true rfl) ?_
      conv => whnf
      exact Fin.flat rfl rfl ⟨rfl, rfl⟩
    | 45, _ =>
      refine CallF.body (F := F37) tyB_ok (lit := true) rfl rfl (Nat.le_of_ble_eq_true rfl) ?_
      conv => whnf
      exact Fin.flat rfl rfl ⟨rfl, rfl⟩
    | 46, _ =>
      refine CallF.body (F := F37) tyB_ok (lit := true) rfl rfl (Nat.le_of_ble_eq_true rfl) ?_
      conv => whnf
      exact Fin.flat rfl rfl ⟨rfl, rfl⟩
    | 47, _ =>
      refine CallF.body (F := F37) tyB_ok (lit := true) rfl rfl (Nat.le_of_ble_eq_true rfl) ?_
      conv => whnf
      exact Fin.flat rfl rfl ⟨rfl, rfl⟩
    | 48, _ =>
      refine CallF.body (F := F37) tyB_ok (lit := true) rfl rfl (Nat.le_of_ble_eq_true rfl) ?_
      conv => whnf
      exact Fin.flat rfl rfl ⟨rfl, rfl⟩
    | 49, _ =>
      refine CallF.body (F := F37) tyB_ok (lit := true) rfl rfl (Nat.le_of_ble_eq_true rfl) ?_
      conv => whnf
      exact Fin.flat rfl rfl ⟨rfl, rfl⟩
    | 50, _ =>
      refine CallF.body (F := F37) tyB_ok (lit := true) rfl rfl (Nat.le_of_ble_eq_true rfl) ?_
      conv => whnf
      exact Fin.flat rfl rfl ⟨rfl, rfl⟩
    | 51, _ =>
      refine CallF.body (F := F37) tyB_ok (lit := true) rfl rfl (Nat.le_of_ble_eq_true rfl) ?_
      conv => whnf
      exact Fin.flat rfl rfl ⟨rfl, rfl⟩
    | 52, _ =>
      refine CallF.body (F := F37) tyB_ok (lit := true) rfl rfl (Nat.le_of_ble_eq_true rfl) ?_
      conv => whnf
      exact Fin.flat rfl rfl ⟨rfl, rfl⟩
    | 53, _ =>
      refine CallF.body (F := F37) tyB_ok (lit := true) rfl rfl (Nat.le_of_ble_eq_true rfl) ?_
      conv => whnf
      exact Fin.flat rfl rfl ⟨rfl, rfl⟩
    | k + 54, hk => omega
  · rw [(nameI_off h).1]
    refine CallF.body (F := F37) tyB_ok (lit := true) rfl rfl (Nat.le_of_ble_eq_true rfl) ?_
    conv => whnf
    repeat (rw [decide_eq_false (by omega)]; conv => whnf)
    exact Fin.flat rfl rfl ⟨rfl, rfl⟩
set_option maxHeartbeats 4000000 in
theorem rform_to (m op : Int) : CallF (X8 m) 38 [.i .i64 op] (G0 m) fun v s => v = .s (formI op) ∧ s = G0 m := by
  by_cases h : 1 ≤ op ∧ op ≤ 53
  · obtain ⟨k, rfl⟩ : ∃ k : Nat, op = k := ⟨op.toNat, by omega⟩
    have hk : k < 54 := by omega
    match k, hk with
    | 0, _ =>
      refine CallF.body (F := F38) tyB_ok (lit := true) rfl rfl (Nat.le_of_ble_eq_true rfl) ?_
      conv => whnf
      exact Fin.flat rfl rfl ⟨rfl, rfl⟩
    | 1, _ =>
      refine CallF.body (F := F38) tyB_ok (lit := true) rfl rfl (Nat.le_of_ble_eq_true rfl) ?_
      conv => whnf
      exact Fin.flat rfl rfl ⟨rfl, rfl⟩
    | 2, _ =>
      refine CallF.body (F := F38) tyB_ok (lit := true) rfl rfl (Nat.le_of_ble_eq_true rfl) ?_
      conv => whnf
      exact Fin.flat rfl rfl ⟨rfl, rfl⟩
    | 3, _ =>
      refine CallF.body (F := F38) tyB_ok (lit := true) rfl rfl (Nat.le_of_ble_eq_true rfl) ?_
      conv => whnf
      exact Fin.flat rfl rfl ⟨rfl, rfl⟩
    | 4, _ =>
      refine CallF.body (F := F38) tyB_ok (lit := true) rfl rfl (Nat.le_of_ble_eq_true rfl) ?_
      conv => whnf
      exact Fin.flat rfl rfl ⟨rfl, rfl⟩
    | 5, _ =>
      refine CallF.body (F := F38) tyB_ok (lit := true) rfl rfl (Nat.le_of_ble_eq_true rfl) ?_
      conv => whnf
      exact Fin.flat rfl rfl ⟨rfl, rfl⟩
    | 6, _ =>
      refine CallF.body (F := F38) tyB_ok (lit := true) rfl rfl (Nat.le_of_ble_eq_true rfl) ?_
      conv => whnf
      exact Fin.flat rfl rfl ⟨rfl, rfl⟩
    | 7, _ =>
      refine CallF.body (F := F38) tyB_ok (lit := true) rfl rfl (Nat.le_of_ble_eq_true rfl) ?_
      conv => whnf
      exact Fin.flat rfl rfl ⟨rfl, rfl⟩
    | 8, _ =>
      refine CallF.body (F := F38) tyB_ok (lit := true) rfl rfl (Nat.le_of_ble_eq_true rfl) ?_
      conv => whnf
      exact Fin.flat rfl rfl ⟨rfl, rfl⟩
    | 9, _ =>
      refine CallF.body (F := F38) tyB_ok (lit := true) rfl rfl (Nat.le_of_ble_eq_true rfl) ?_
      conv => whnf
      exact Fin.flat rfl rfl ⟨rfl, rfl⟩
    | 10, _ =>
      refine CallF.body (F := F38) tyB_ok (lit := true) rfl rfl (Nat.le_of_ble_eq_true rfl) ?_
      conv => whnf
      exact Fin.flat rfl rfl ⟨rfl, rfl⟩
    | 11, _ =>
      refine CallF.body (F := F38) tyB_ok (lit := true) rfl rfl (Nat.le_of_ble_eq_true rfl) ?_
      conv => whnf
      exact Fin.flat rfl rfl ⟨rfl, rfl⟩
    | 12, _ =>
      refine CallF.body (F := F38) tyB_ok (lit := true) rfl rfl (Nat.le_of_ble_eq_true rfl) ?_
      conv => whnf
      exact Fin.flat rfl rfl ⟨rfl, rfl⟩
    | 13, _ =>
      refine CallF.body (F := F38) tyB_ok (lit := true) rfl rfl (Nat.le_of_ble_eq_true rfl) ?_
      conv => whnf
      exact Fin.flat rfl rfl ⟨rfl, rfl⟩
    | 14, _ =>
      refine CallF.body (F := F38) tyB_ok (lit := true) rfl rfl (Nat.le_of_ble_eq_true rfl) ?_
      conv => whnf
      exact Fin.flat rfl rfl ⟨rfl, rfl⟩
    | 15, _ =>
      refine CallF.body (F := F38) tyB_ok (lit := true) rfl rfl (Nat.le_of_ble_eq_true rfl) ?_
      conv => whnf
      exact Fin.flat rfl rfl ⟨rfl, rfl⟩
    | 16, _ =>
      refine CallF.body (F := F38) tyB_ok (lit := true) rfl rfl (Nat.le_of_ble_eq_true rfl) ?_
      conv => whnf
      exact Fin.flat rfl rfl ⟨rfl, rfl⟩
    | 17, _ =>
      refine CallF.body (F := F38) tyB_ok (lit := true) rfl rfl (Nat.le_of_ble_eq_true rfl) ?_
      conv => whnf
      exact Fin.flat rfl rfl ⟨rfl, rfl⟩
    | 18, _ =>
      refine CallF.body (F := F38) tyB_ok (lit := true) rfl rfl (Nat.le_of_ble_eq_true rfl) ?_
      conv => whnf
      exact Fin.flat rfl rfl ⟨rfl, rfl⟩
    | 19, _ =>
      refine CallF.body (F := F38) tyB_ok (lit := true) rfl rfl (Nat.le_of_ble_eq_true rfl) ?_
      conv => whnf
      exact Fin.flat rfl rfl ⟨rfl, rfl⟩
    | 20, _ =>
      refine CallF.body (F := F38) tyB_ok (lit := true) rfl rfl (Nat.le_of_ble_eq_true rfl) ?_
      conv => whnf
      exact Fin.flat rfl rfl ⟨rfl, rfl⟩
    | 21, _ =>
      refine CallF.body (F := F38) tyB_ok (lit := true) rfl rfl (Nat.le_of_ble_eq_true rfl) ?_
      conv => whnf
      exact Fin.flat rfl rfl ⟨rfl, rfl⟩
    | 22, _ =>
      refine CallF.body (F := F38) tyB_ok (lit := true) rfl rfl (Nat.le_of_ble_eq_true rfl) ?_
      conv => whnf
      exact Fin.flat rfl rfl ⟨rfl, rfl⟩
    | 23, _ =>
      refine CallF.body (F := F38) tyB_ok (lit := true) rfl rfl (Nat.le_of_ble_eq_true rfl) ?_
      conv => whnf
      exact Fin.flat rfl rfl ⟨rfl, rfl⟩
    | 24, _ =>
      refine CallF.body (F := F38) tyB_ok (lit := true) rfl rfl (Nat.le_of_ble_eq_true rfl) ?_
      conv => whnf
      exact Fin.flat rfl rfl ⟨rfl, rfl⟩
    | 25, _ =>
      refine CallF.body (F := F38) tyB_ok (lit := true) rfl rfl (Nat.le_of_ble_eq_true rfl) ?_
      conv => whnf
      exact Fin.flat rfl rfl ⟨rfl, rfl⟩
    | 26, _ =>
      refine CallF.body (F := F38) tyB_ok (lit := true) rfl rfl (Nat.le_of_ble_eq_true rfl) ?_
      conv => whnf
      exact Fin.flat rfl rfl ⟨rfl, rfl⟩
    | 27, _ =>
      refine CallF.body (F := F38) tyB_ok (lit := true) rfl rfl (Nat.le_of_ble_eq_true rfl) ?_
      conv => whnf
      exact Fin.flat rfl rfl ⟨rfl, rfl⟩
    | 28, _ =>
      refine CallF.body (F := F38) tyB_ok (lit := true) rfl rfl (Nat.le_of_ble_eq_true rfl) ?_
      conv => whnf
      exact Fin.flat rfl rfl ⟨rfl, rfl⟩
    | 29, _ =>
      refine CallF.body (F := F38) tyB_ok (lit := true) rfl rfl (Nat.le_of_ble_eq_true rfl) ?_
      conv => whnf
      exact Fin.flat rfl rfl ⟨rfl, rfl⟩
    | 30, _ =>
      refine CallF.body (F := F38) tyB_ok (lit := true) rfl rfl (Nat.le_of_ble_eq_true rfl) ?_
      conv => whnf
      exact Fin.flat rfl rfl ⟨rfl, rfl⟩
    | 31, _ =>
      refine CallF.body (F := F38) tyB_ok (lit := true) rfl rfl (Nat.le_of_ble_eq_true rfl) ?_
      conv => whnf
      exact Fin.flat rfl rfl ⟨rfl, rfl⟩
    | 32, _ =>
      refine CallF.body (F := F38) tyB_ok (lit := true) rfl rfl (Nat.le_of_ble_eq_true rfl) ?_
      conv => whnf
      exact Fin.flat rfl rfl ⟨rfl, rfl⟩
    | 33, _ =>
      refine CallF.body (F := F38) tyB_ok (lit := true) rfl rfl (Nat.le_of_ble_eq_true rfl) ?_
      conv => whnf
      exact Fin.flat rfl rfl ⟨rfl, rfl⟩
    | 34, _ =>
      refine CallF.body (F := F38) tyB_ok (lit := true) rfl rfl (Nat.le_of_ble_eq_true rfl) ?_
      conv => whnf
      exact Fin.flat rfl rfl ⟨rfl, rfl⟩
    | 35, _ =>
      refine CallF.body (F := F38) tyB_ok (lit := true) rfl rfl (Nat.le_of_ble_eq_true rfl) ?_
      conv => whnf
      exact Fin.flat rfl rfl ⟨rfl, rfl⟩
    | 36, _ =>
      refine CallF.body (F := F38) tyB_ok (lit := true) rfl rfl (Nat.le_of_ble_eq_true rfl) ?_
      conv => whnf
      exact Fin.flat rfl rfl ⟨rfl, rfl⟩
    | 37, _ =>
      refine CallF.body (F := F38) tyB_ok (lit := true) rfl rfl (Nat.le_of_ble_eq_true rfl) ?_
      conv => whnf
      exact Fin.flat rfl rfl ⟨rfl, rfl⟩
    | 38, _ =>
      refine CallF.body (F := F38) tyB_ok (lit := true) rfl rfl (Nat.le_of_ble_eq_true rfl) ?_
      conv => whnf
      exact Fin.flat rfl rfl ⟨rfl, rfl⟩
    | 39, _ =>
      refine CallF.body (F := F38) tyB_ok (lit := true) rfl rfl (Nat.le_of_ble_eq_true rfl) ?_
      conv => whnf
      exact Fin.flat rfl rfl ⟨rfl, rfl⟩
    | 40, _ =>
      refine CallF.body (F := F38) tyB_ok (lit := true) rfl rfl (Nat.le_of_ble_eq_true rfl) ?_
      conv => whnf
      exact Fin.flat rfl rfl ⟨rfl, rfl⟩
    | 41, _ =>
      refine CallF.body (F := F38) tyB_ok (lit := true) rfl rfl (Nat.le_of_ble_eq_true rfl) ?_
      conv => whnf
      exact Fin.flat rfl rfl ⟨rfl, rfl⟩
    | 42, _ =>
      refine CallF.body (F := F38) tyB_ok (lit := true) rfl rfl (Nat.le_of_ble_eq_true rfl) ?_
      conv => whnf
      exact Fin.flat rfl rfl ⟨rfl, rfl⟩
    | 43, _ =>
      refine CallF.body (F := F38) tyB_ok (lit := true) rfl rfl (Nat.le_of_ble_eq_true rfl) ?_
      conv => whnf
      exact Fin.flat rfl rfl ⟨rfl, rfl⟩
    | 44, _ =>
      refine CallF.body (F := F38) tyB_ok (lit := true) rfl rfl (Nat.le_of_ble_eq_true rfl) ?_
      conv => whnf
      exact Fin.flat rfl rfl ⟨rfl, rfl⟩
    | 45, _ =>
      refine CallF.body (F := F38) tyB_ok (lit := true) rfl rfl (Nat.le_of_ble_eq_true rfl) ?_
      conv => whnf
      exact Fin.flat rfl rfl ⟨rfl, rfl⟩
    | 46, _ =>
      refine CallF.body (F := F38) tyB_ok (lit := true) rfl rfl (Nat.le_of_ble_eq_true rfl) ?_
      conv => whnf
      exact Fin.flat rfl rfl ⟨rfl, rfl⟩
    | 47, _ =>
      refine CallF.body (F := F38) tyB_ok (lit := true) rfl rfl (Nat.le_of_ble_eq_true rfl) ?_
      conv => whnf
      exact Fin.flat rfl rfl ⟨rfl, rfl⟩
    | 48, _ =>
      refine CallF.body (F := F38) tyB_ok (lit := true) rfl rfl (Nat.le_of_ble_eq_true rfl) ?_
      conv => whnf
      exact Fin.flat rfl rfl ⟨rfl, rfl⟩
    | 49, _ =>
      refine CallF.body (F := F38) tyB_ok (lit := true) rfl rfl (Nat.le_of_ble_eq_true rfl) ?_
      conv => whnf
      exact Fin.flat rfl rfl ⟨rfl, rfl⟩
    | 50, _ =>
      refine CallF.body (F := F38) tyB_ok (lit := true) rfl rfl (Nat.le_of_ble_eq_true rfl) ?_
      conv => whnf
      exact Fin.flat rfl rfl ⟨rfl, rfl⟩
    | 51, _ =>
      refine CallF.body (F := F38) tyB_ok (lit := true) rfl rfl (Nat.le_of_ble_eq_true rfl) ?_
      conv => whnf
      exact Fin.flat rfl rfl ⟨rfl, rfl⟩
    | 52, _ =>
      refine CallF.body (F := F38) tyB_ok (lit := true) rfl rfl (Nat.le_of_ble_eq_true rfl) ?_
      conv => whnf
      exact Fin.flat rfl rfl ⟨rfl, rfl⟩
    | 53, _ =>
      refine CallF.body (F := F38) tyB_ok (lit := true) rfl rfl (Nat.le_of_ble_eq_true rfl) ?_
      conv => whnf
      exact Fin.flat rfl rfl ⟨rfl, rfl⟩
    | k + 54, hk => omega
  · rw [(nameI_off h).2]
    refine CallF.body (F := F38) tyB_ok (lit := true) rfl rfl (Nat.le_of_ble_eq_true rfl) ?_
    conv => whnf
    repeat (rw [decide_eq_false (by omega)]; conv => whnf)
    exact Fin.flat rfl rfl ⟨rfl, rfl⟩
def lawRName (m : Int) : Law (X8 m) (G0 m) := ⟨37, fun | [.i .i64 op] => some (.s (nameI op)) | _ => none, fun args v h => by
  split at h
  · cases h; exact ⟨rfl, rfl, rname_to m _⟩
  · cases h⟩
def lawRForm (m : Int) : Law (X8 m) (G0 m) := ⟨38, fun | [.i .i64 op] => some (.s (formI op)) | _ => none, fun args v h => by
  split at h
  · cases h; exact ⟨rfl, rfl, rform_to m _⟩
  · cases h⟩
end Go.Abs.YtkfcbgmamfnajaaGreatDoor
/- The document's isa: operations by name; may it be; the word. -/
namespace Go.Abs.YtkfcbgmamfnajaaGreatDoor
open Go.Proofs
set_option maxRecDepth 4000
@[reducible] noncomputable def X9 (m : Int) : Ctx := (X8 m).knows (G0 m) [lawRName m, lawRForm m]
theorem X9_sound (m : Int) : (X9 m).Sound 11 := Ctx.knows_sound (X8_sound m) (okG0 m) _
theorem opFrom_one (n : List UInt8) : opFrom n (opRows.drop 1) 1 = opOf n := by
  by_cases h : n = []
  · subst h; rfl
  · unfold opOf
    show _ = opFrom n (([], []) :: opRows.drop 1) 0
    unfold opFrom
    rw [if_neg (fun e => h e.1.symm)]
    rfl
theorem nameI_ne {k : Nat} (h : 1 ≤ k) (h2 : k < 54) : nameI k ≠ [] := by
  have hall : ∀ r ∈ opRows.drop 1, r.1 ≠ [] := by decide
  unfold nameI nameOf
  rw [if_neg (by omega), Int.toNat_natCast, List.getD_eq_getElem?_getD, List.getElem?_eq_getElem (by rw [opRows_len]; omega)]
  obtain ⟨j, rfl⟩ : ∃ j, k = j + 1 := ⟨k - 1, by omega⟩
  refine hall _ (List.mem_iff_getElem.2 ⟨j, by rw [List.length_drop, opRows_len]; omega, ?_⟩)
  simp only [List.getElem_drop, Nat.add_comm 1 j]
  rfl
theorem rop_loop (m : Int) (n : List UInt8) (Q : Out → Env → St → Prop) (h1 : opOf n = 0 → ∀ e', Q (.exit 0) e' (G0 m)) (h2 : ∀ e', get e' 2 = .i .i64 (opOf n) → Q .ret e' (G0 m)) :
    ∀ (j k : Nat), k + j = 54 → 1 ≤ k → opFrom n (opRows.drop k) k = opOf n → LoopF (X9 m) [0, 3] c70L0 [(0, .s n), (3, .i .i64 k)] (G0 m) Q
  | 0, k, hk, h0, ho => by
    refine LoopF.round tyB_ok (lit := true) ?_
    conv => whnf
    rw [show decide (((k : Nat) : Int) ≤ 53) = false from decide_eq_false (by omega)]
    conv => whnf
    refine h1 ?_ _
    rw [← ho, List.drop_eq_nil_of_le (by rw [opRows_len]; omega)]; rfl
  | j + 1, k, hk, h0, ho => by
    refine LoopF.round tyB_ok (lit := true) ?_
    conv => whnf
    rw [show decide (((k : Nat) : Int) ≤ 53) = true from decide_eq_true (by omega)]
    conv => whnf
    refine CallF.law (lawRName m) rfl rfl rfl ?_
    conv => whnf
    have hr : opRows.drop k = (nameI k, formI k) :: opRows.drop (k + 1) := by
      rw [List.drop_eq_getElem_cons (by rw [opRows_len]; omega)]
      congr 1
      unfold nameI formI nameOf formOf
      rw [if_neg (by omega), if_neg (by omega), Int.toNat_natCast, List.getD_eq_getElem?_getD, List.getElem?_eq_getElem (by rw [opRows_len]; omega)]
      rfl
    rw [hr] at ho
    unfold opFrom at ho
    cases hq : nameI k == n with
    | true =>
      have he : nameI k = n := by simpa using hq
      rw [if_pos ⟨he, by rw [← he]; exact nameI_ne h0 (by omega)⟩] at ho
      conv => whnf
      exact h2 _ (by rw [← ho]; rfl)
    | false =>
      have he : ¬ nameI k = n := by simpa using hq
      rw [if_neg (fun e => he e.1)] at ho
      conv => whnf
      refine ⟨_, wrap_i64 (by omega) (by omega), ?_⟩
      conv => whnf
      exact rop_loop m n Q h1 h2 j (k + 1) (by omega) (by omega) ho
theorem rop_to (m : Int) (n : List UInt8) : CallF (X9 m) 70 [.s n] (G0 m) fun v s => v = .i .i64 (opOf n) ∧ s = G0 m := by
  refine CallF.body (F := F70) tyB_ok (lit := true) rfl rfl (Nat.le_of_ble_eq_true rfl) ?_
  conv => whnf
  refine rop_loop m n _ (fun h e' => ?_) (fun e' he => ?_) 53 1 rfl (by decide) (opFrom_one n)
  · rw [h]
    conv => whnf
    exact Fin.flat rfl rfl ⟨rfl, rfl⟩
  · conv => whnf
    rw [he]
    conv => whnf
    exact Fin.flat rfl rfl ⟨rfl, rfl⟩
def hasP (l : List UInt8) (c : Int) : Bool := l.any fun x => decide ((x.toNat : Int) = c)
theorem has_loop (m c : Int) (l : List UInt8) (hl : l.length ≤ 1000) (Q : Out → Env → St → Prop) (h1 : hasP l c = false → ∀ e', Q (.exit 0) e' (G0 m)) (h2 : hasP l c = true → ∀ e', get e' 4 = .b true → Q .ret e' (G0 m)) :
    ∀ (j k : Nat), k + j = l.length → hasP (l.drop k) c = hasP l c → LoopF (X9 m) [0, 1, 5] c79L0 [(0, .s l), (1, .i .u8 c), (5, .i .i64 k)] (G0 m) Q
  | 0, k, hk, ho => by
    refine LoopF.round tyB_ok (lit := true) ?_
    conv => whnf
    rw [show decide (((k : Nat) : Int) < (l.length : Int)) = false from decide_eq_false (by omega)]
    conv => whnf
    refine h1 ?_ _
    rw [← ho, List.drop_eq_nil_of_le (by omega)]; rfl
  | j + 1, k, hk, ho => by
    refine LoopF.round tyB_ok (lit := true) ?_
    conv => whnf
    rw [show decide (((k : Nat) : Int) < (l.length : Int)) = true from decide_eq_true (by omega)]
    conv => whnf
    have hlt : k < l.length := by omega
    have hr : l.drop k = l[k] :: l.drop (k + 1) := List.drop_eq_getElem_cons hlt
    rw [hr] at ho
    refine ⟨k, l[k], rfl, List.getElem?_eq_getElem hlt, ?_⟩
    conv => whnf
    cases hq : decide (((l[k]).toNat : Int) = c) with
    | true =>
      conv => whnf
      refine h2 ?_ _ rfl
      rw [← ho]
      unfold hasP; rw [List.any_cons, hq]; rfl
    | false =>
      conv => whnf
      refine ⟨_, wrap_i64 (by omega) (by omega), ?_⟩
      conv => whnf
      refine has_loop m c l hl Q h1 h2 j (k + 1) (by omega) ?_
      rw [← ho]
      unfold hasP; rw [List.any_cons, hq]; rfl
theorem has_to (m c : Int) (l : List UInt8) (hl : l.length ≤ 1000) : CallF (X9 m) 79 [.s l, .i .u8 c] (G0 m) fun v s => v = .b (hasP l c) ∧ s = G0 m := by
  refine CallF.body (F := F79) tyB_ok (lit := true) rfl rfl (Nat.le_of_ble_eq_true rfl) ?_
  conv => whnf
  refine has_loop m c l hl _ (fun h e' => ?_) (fun h e' he => ?_) l.length 0 (by omega) rfl
  · rw [h]
    conv => whnf
    exact Fin.flat rfl rfl ⟨rfl, rfl⟩
  · rw [h]
    conv => whnf
    rw [he]
    conv => whnf
    exact Fin.flat rfl rfl ⟨rfl, rfl⟩
def lawHas (m : Int) : Law (X9 m) (G0 m) := ⟨79, fun | [.s l, .i .u8 c] => if l.length ≤ 1000 then some (.b (hasP l c)) else none | _ => none, fun args v h => by
  split at h
  · split at h
    · rename_i hl; cases h; exact ⟨rfl, rfl, has_to m _ _ hl⟩
    · cases h
  · cases h⟩
def lawROp (m : Int) : Law (X9 m) (G0 m) := ⟨70, fun | [.s l] => some (.i .i64 (opOf l)) | _ => none, fun args v h => by
  split at h
  · cases h; exact ⟨rfl, rfl, rop_to m _⟩
  · cases h⟩
@[reducible] noncomputable def X10 (m : Int) : Ctx := (X9 m).knows (G0 m) [lawHas m, lawROp m]
theorem X10_sound (m : Int) : (X10 m).Sound 11 := Ctx.knows_sound (X9_sound m) (okG0 m) _
theorem c10_has {m c : Int} {l : List UInt8} {σ : St} {Q : AV → St → Prop} (hl : l.length ≤ 1000) (ht : σ.take 11 = G0 m) (q : Q (.b (hasP l c)) σ) : CallF (X10 m) 79 [.s l, .i .u8 c] σ Q :=
  CallF.law (lawHas m) rfl (if_pos hl) ht q
def fieldR (l : List UInt8) (c v : Int) : Bool := if hasP l c then decide (0 ≤ v) && decide (v ≤ 15) else decide (v = 0)
theorem field_to (m c v : Int) (l : List UInt8) (hl : l.length ≤ 1000) : CallF (X10 m) 125 [.s l, .i .u8 c, .i .i64 v] (G0 m) fun r s => r = .b (fieldR l c v) ∧ s = G0 m := by
  refine CallF.body (F := F125) tyB_ok (lit := true) rfl rfl (Nat.le_of_ble_eq_true rfl) ?_
  conv => whnf
  refine c10_has hl rfl ?_
  unfold fieldR
  cases hasP l c with
  | false =>
    conv => whnf
    cases h0 : decide (v = 0) with
    | true => conv => whnf
              exact Fin.flat rfl rfl ⟨by rw [if_neg (by decide)], rfl⟩
    | false => conv => whnf
               exact Fin.flat rfl rfl ⟨by rw [if_neg (by decide)], rfl⟩
  | true =>
    conv => whnf
    cases h0 : decide (0 ≤ v) with
    | false => conv => whnf
               exact Fin.flat rfl rfl ⟨by rw [if_pos rfl]; rfl, rfl⟩
    | true =>
      conv => whnf
      cases h1 : decide (v ≤ 15) with
      | true => conv => whnf
                exact Fin.flat rfl rfl ⟨by rw [if_pos rfl]; rfl, rfl⟩
      | false => conv => whnf
                 exact Fin.flat rfl rfl ⟨by rw [if_pos rfl]; rfl, rfl⟩
end Go.Abs.YtkfcbgmamfnajaaGreatDoor
/- The document's isa: may an instruction be; its word. -/
namespace Go.Abs.YtkfcbgmamfnajaaGreatDoor
open Go.Proofs
set_option maxRecDepth 4000
def lawField (m : Int) : Law (X10 m) (G0 m) := ⟨125, fun | [.s l, .i .u8 c, .i .i64 v] => if l.length ≤ 1000 then some (.b (fieldR l c v)) else none | _ => none, fun args v h => by
  split at h
  · split at h
    · rename_i hl; cases h; exact ⟨rfl, rfl, field_to m _ _ _ hl⟩
    · cases h
  · cases h⟩
@[reducible] noncomputable def X11 (m : Int) : Ctx := (X10 m).knows (G0 m) [lawField m]
theorem X11_sound (m : Int) : (X11 m).Sound 11 := Ctx.knows_sound (X10_sound m) (okG0 m) _
theorem c11_field {m c v : Int} {l : List UInt8} {σ : St} {Q : AV → St → Prop} (hl : l.length ≤ 1000) (ht : σ.take 11 = G0 m) (q : Q (.b (fieldR l c v)) σ) : CallF (X11 m) 125 [.s l, .i .u8 c, .i .i64 v] σ Q :=
  CallF.law (lawField m) rfl (if_pos hl) ht q
theorem c11_has {m c : Int} {l : List UInt8} {σ : St} {Q : AV → St → Prop} (hl : l.length ≤ 1000) (ht : σ.take 11 = G0 m) (q : Q (.b (hasP l c)) σ) : CallF (X11 m) 79 [.s l, .i .u8 c] σ Q :=
  CallF.under rfl rfl (CallF.law (lawHas m) rfl (if_pos hl) ht q)
theorem c11_form {m op : Int} {σ : St} {Q : AV → St → Prop} (ht : σ.take 11 = G0 m) (q : Q (.s (formI op)) σ) : CallF (X11 m) 38 [.i .i64 op] σ Q :=
  CallF.under rfl rfl (CallF.under rfl rfl (CallF.law (lawRForm m) rfl rfl ht q))
def mayF (f : List UInt8) (a b c i : Int) : Bool :=
  bif fieldR f 97 a then bif fieldR f 98 b then bif fieldR f 99 c then
    (bif hasP f 106 then decide (-524288 ≤ i) && decide (i ≤ 524287) else bif hasP f 105 then decide (-2048 ≤ i) && decide (i ≤ 2047) else decide (i = 0))
  else false else false else false
def mayR (op a b c i : Int) : Bool := bif decide (op < 1) then false else bif decide (53 < op) then false else mayF (formI op) a b c i
theorem may_to (m op a b c i : Int) : CallF (X11 m) 92 [.ag [.i .i64 op, .i .i64 a, .i .i64 b, .i .i64 c, .i .i64 i]] (G0 m) fun r s => r = .b (mayR op a b c i) ∧ s = G0 m := by
  refine CallF.body (F := F92) tyB_ok (lit := true) rfl rfl (Nat.le_of_ble_eq_true rfl) ?_
  unfold mayR
  conv => whnf
  cases h0 : decide (op < 1) with
  | true => conv => whnf
            exact Fin.flat rfl rfl ⟨rfl, rfl⟩
  | false =>
  conv => whnf
  cases h1 : decide (53 < op) with
  | true => conv => whnf
            exact Fin.flat rfl rfl ⟨rfl, rfl⟩
  | false =>
  conv => whnf
  refine c11_form rfl ?_
  have hl := (form_small op).1
  generalize formI op = f at hl ⊢
  unfold mayF
  conv => whnf
  refine c11_field (by omega) rfl ?_
  cases h2 : fieldR f 97 a with
  | false => conv => whnf
             exact Fin.flat rfl rfl ⟨rfl, rfl⟩
  | true =>
  conv => whnf
  refine c11_field (by omega) rfl ?_
  cases h3 : fieldR f 98 b with
  | false => conv => whnf
             exact Fin.flat rfl rfl ⟨rfl, rfl⟩
  | true =>
  conv => whnf
  refine c11_field (by omega) rfl ?_
  cases h4 : fieldR f 99 c with
  | false => conv => whnf
             exact Fin.flat rfl rfl ⟨rfl, rfl⟩
  | true =>
  conv => whnf
  refine c11_has (by omega) rfl ?_
  cases h5 : hasP f 106 with
  | true =>
    conv => whnf
    cases h6 : decide (-524288 ≤ i) with
    | false => conv => whnf
               exact Fin.flat rfl rfl ⟨rfl, rfl⟩
    | true =>
    conv => whnf
    cases h7 : decide (i ≤ 524287) with
    | false => conv => whnf
               exact Fin.flat rfl rfl ⟨rfl, rfl⟩
    | true => conv => whnf
              exact Fin.flat rfl rfl ⟨rfl, rfl⟩
  | false =>
  conv => whnf
  refine c11_has (by omega) rfl ?_
  cases h8 : hasP f 105 with
  | true =>
    conv => whnf
    cases h6 : decide (-2048 ≤ i) with
    | false => conv => whnf
               exact Fin.flat rfl rfl ⟨rfl, rfl⟩
    | true =>
    conv => whnf
    cases h7 : decide (i ≤ 2047) with
    | false => conv => whnf
               exact Fin.flat rfl rfl ⟨rfl, rfl⟩
    | true => conv => whnf
              exact Fin.flat rfl rfl ⟨rfl, rfl⟩
  | false =>
    conv => whnf
    cases h6 : decide (i = 0) with
    | false => conv => whnf
               exact Fin.flat rfl rfl ⟨rfl, rfl⟩
    | true => conv => whnf
              exact Fin.flat rfl rfl ⟨rfl, rfl⟩
def lawMay (m : Int) : Law (X11 m) (G0 m) := ⟨92, fun | [.ag [.i .i64 op, .i .i64 a, .i .i64 b, .i .i64 c, .i .i64 i]] => some (.b (mayR op a b c i)) | _ => none, fun args v h => by
  split at h
  · cases h; exact ⟨rfl, rfl, may_to m _ _ _ _ _⟩
  · cases h⟩
@[reducible] noncomputable def X12 (m : Int) : Ctx := (X11 m).knows (G0 m) [lawMay m]
theorem X12_sound (m : Int) : (X12 m).Sound 11 := Ctx.knows_sound (X11_sound m) (okG0 m) _
def U (x : Int) : Int := IntKind.u32.wrap x
def immR (op i : Int) : Int := bif decide (i < 0) then (bif hasP (formI op) 106 then IntKind.i64.wrap (i + 1048576) else IntKind.i64.wrap (i + 4096)) else i
def sumR (op a b c : Int) : Int := U (U (U (U (U op * 16777216) + U (U a * 1048576)) + U (U b * 65536)) + U (U c * 4096))
def encR (op a b c i : Int) : Int × Int := bif mayR op a b c i then (U (sumR op a b c + U (immR op i)), 0) else (0, 2)
theorem c12_form {m op : Int} {σ : St} {Q : AV → St → Prop} (ht : σ.take 11 = G0 m) (q : Q (.s (formI op)) σ) : CallF (X12 m) 38 [.i .i64 op] σ Q :=
  CallF.under rfl rfl (CallF.under rfl rfl (CallF.under rfl rfl (CallF.law (lawRForm m) rfl rfl ht q)))
theorem c12_has {m c : Int} {l : List UInt8} {σ : St} {Q : AV → St → Prop} (hl : l.length ≤ 1000) (ht : σ.take 11 = G0 m) (q : Q (.b (hasP l c)) σ) : CallF (X12 m) 79 [.s l, .i .u8 c] σ Q :=
  CallF.under rfl rfl (CallF.under rfl rfl (CallF.law (lawHas m) rfl (if_pos hl) ht q))
theorem renc_to (m op a b c i : Int) : CallF (X12 m) 60 [.ag [.i .i64 op, .i .i64 a, .i .i64 b, .i .i64 c, .i .i64 i]] (G0 m) fun r s => r = .tu [.i .u32 (encR op a b c i).1, .i .i64 (encR op a b c i).2] ∧ s = G0 m := by
  refine CallF.body (F := F60) tyB_ok (lit := true) rfl rfl (Nat.le_of_ble_eq_true rfl) ?_
  unfold encR
  conv => whnf
  refine CallF.law (lawMay m) rfl rfl rfl ?_
  cases h0 : mayR op a b c i with
  | false => conv => whnf
             exact Fin.flat rfl rfl ⟨rfl, rfl⟩
  | true =>
  conv => whnf
  iterate 11 (refine ⟨_, rfl, ?_⟩; conv => whnf)
  unfold immR
  cases h1 : decide (i < 0) with
  | false =>
    conv => whnf
    rw [h1]
    conv => whnf
    iterate 2 (refine ⟨_, rfl, ?_⟩; conv => whnf)
    exact Fin.flat rfl rfl ⟨rfl, rfl⟩
  | true =>
    conv => whnf
    refine c12_form rfl ?_
    conv => whnf
    refine c12_has (Nat.le_trans (form_small op).1 (by decide)) rfl ?_
    cases h2 : hasP (formI op) 106 with
    | true =>
      conv => whnf
      iterate 3 (refine ⟨_, rfl, ?_⟩; conv => whnf)
      exact Fin.flat rfl rfl ⟨rfl, rfl⟩
    | false =>
      conv => whnf
      rw [h1]
      conv => whnf
      iterate 3 (refine ⟨_, rfl, ?_⟩; conv => whnf)
      exact Fin.flat rfl rfl ⟨rfl, rfl⟩
def lawREnc (m : Int) : Law (X12 m) (G0 m) := ⟨60, fun | [.ag [.i .i64 op, .i .i64 a, .i .i64 b, .i .i64 c, .i .i64 i]] => some (.tu [.i .u32 (encR op a b c i).1, .i .i64 (encR op a b c i).2]) | _ => none, fun args v h => by
  split at h
  · cases h; exact ⟨rfl, rfl, renc_to m _ _ _ _ _⟩
  · cases h⟩
@[reducible] noncomputable def X13 (m : Int) : Ctx := (X12 m).knows (G0 m) [lawREnc m]
theorem X13_sound (m : Int) : (X13 m).Sound 11 := Ctx.knows_sound (X12_sound m) (okG0 m) _
theorem c13_form {m op : Int} {σ : St} {Q : AV → St → Prop} (ht : σ.take 11 = G0 m) (q : Q (.s (formI op)) σ) : CallF (X13 m) 38 [.i .i64 op] σ Q :=
  CallF.under rfl rfl (CallF.under rfl rfl (CallF.under rfl rfl (CallF.under rfl rfl (CallF.law (lawRForm m) rfl rfl ht q))))
theorem c13_has {m c : Int} {l : List UInt8} {σ : St} {Q : AV → St → Prop} (hl : l.length ≤ 1000) (ht : σ.take 11 = G0 m) (q : Q (.b (hasP l c)) σ) : CallF (X13 m) 79 [.s l, .i .u8 c] σ Q :=
  CallF.under rfl rfl (CallF.under rfl rfl (CallF.under rfl rfl (CallF.law (lawHas m) rfl (if_pos hl) ht q)))
theorem q32 {w : Int} (k : Nat) (h0 : 0 ≤ w) (h1 : w < 4294967296) (hk : 0 < k) : IntKind.u32.wrap (w.tdiv k) = w / k := by
  rw [Int.tdiv_eq_ediv_of_nonneg h0]
  have h2 : w / k ≤ w := Int.ediv_le_self _ h0
  have : 0 ≤ w / (k : Int) := Int.ediv_nonneg h0 (by omega)
  exact wrap_u32 this (by omega)
theorem r64 {w : Int} (k : Nat) (h0 : 0 ≤ w) (h1 : w < 4294967296) (hk : 0 < k) : IntKind.i64.wrap (w.tmod k) = w % k := by
  rw [Int.tmod_eq_emod_of_nonneg h0]
  obtain ⟨n, rfl⟩ := Int.eq_ofNat_of_zero_le h0
  have h2 : ((n : Int) % (k : Int)) = ((n % k : Nat) : Int) := rfl
  rw [h2]
  have := Nat.mod_le n k
  exact wrap_i64 (by omega) (by omega)
def dOp (w : Int) : Int := w / 16777216
def dA (w : Int) : Int := w / 1048576 % 16
def dB (w : Int) : Int := w / 65536 % 16
def dC (w : Int) : Int := w / 4096 % 16
def dJ (w : Int) : Int := bif decide (524288 ≤ w % 1048576) then w % 1048576 - 1048576 else w % 1048576
def dI (w : Int) : Int := bif decide (2048 ≤ w % 4096) then w % 4096 - 4096 else w % 4096
def decC (w : Int) : DS := bif hasP (formI (dOp w)) 106 then ⟨dA w, 0, 0, dJ w⟩ else ⟨dA w, dB w, dC w, dI w⟩
def decK (w : Int) (d : DS) : Int × DS := bif !decide ((encR (dOp w) d.a d.b d.c d.i).2 = 0) then (0, ⟨0, 0, 0, 0⟩) else bif !decide ((encR (dOp w) d.a d.b d.c d.i).1 = w) then (0, ⟨0, 0, 0, 0⟩) else (dOp w, d)
def decR (w : Int) : Int × DS := decK w (decC w)
theorem div_b {w : Int} (k : Nat) (h0 : 0 ≤ w) (h1 : w < 4294967296) (hk : 0 < k) : 0 ≤ w / (k : Int) ∧ w / (k : Int) < 4294967296 := by
  have : w / k ≤ w := Int.ediv_le_self _ h0
  have : 0 ≤ w / (k : Int) := Int.ediv_nonneg h0 (by omega)
  omega
theorem rdec_to (m w : Int) (h0 : 0 ≤ w) (h1 : w < 4294967296) : CallF (X13 m) 35 [.i .u32 w] (G0 m) fun r s => r = insO (decR w) ∧ s = G0 m := by
  refine CallF.body (F := F35) tyB_ok (lit := true) rfl rfl (Nat.le_of_ble_eq_true rfl) ?_
  conv => whnf
  have b24 := div_b 16777216 h0 h1 (by decide)
  have b20 := div_b 1048576 h0 h1 (by decide)
  have b16 := div_b 65536 h0 h1 (by decide)
  have b12 := div_b 4096 h0 h1 (by decide)
  refine ⟨by decide, dOp w, q32 16777216 h0 h1 (by decide), ?_⟩
  conv => whnf
  refine ⟨dOp w, wrap_i64 (by unfold dOp; omega) (by unfold dOp; omega), ?_⟩
  conv => whnf
  refine c13_form rfl ?_
  have hl := (form_small (dOp w)).1
  conv => whnf
  refine ⟨by decide, w / 1048576, q32 1048576 h0 h1 (by decide), ?_⟩
  conv => whnf
  refine ⟨by decide, dA w, r64 16 b20.1 b20.2 (by decide), ?_⟩
  conv => whnf
  refine c13_has (by omega) rfl ?_
  unfold decR decC
  cases hj : hasP (formI (dOp w)) 106 with
  | true =>
    conv => whnf
    refine ⟨by decide, w % 1048576, r64 1048576 h0 h1 (by decide), ?_⟩
    conv => whnf
    unfold dJ
    cases hs : decide (524288 ≤ w % 1048576) with
    | true =>
      conv => whnf
      refine ⟨w % 1048576 - 1048576, wrap_i64 (by omega) (by omega), ?_⟩
      conv => whnf
      refine CallF.law (lawREnc m) rfl rfl rfl ?_
      conv => whnf
      cases h5 : decide ((encR (dOp w) (dA w) (0) (0) (w % 1048576 - 1048576)).2 = 0) with
      | false =>
        conv => whnf
        refine Fin.flat rfl rfl ⟨?_, rfl⟩
        show insO (0, ⟨0, 0, 0, 0⟩) = insO (decK w ⟨dA w, 0, 0, w % 1048576 - 1048576⟩)
        unfold decK; rw [h5]; rfl
      | true =>
        conv => whnf
        cases h6 : decide ((encR (dOp w) (dA w) (0) (0) (w % 1048576 - 1048576)).1 = w) with
        | false =>
          conv => whnf
          refine Fin.flat rfl rfl ⟨?_, rfl⟩
          show insO (0, ⟨0, 0, 0, 0⟩) = insO (decK w ⟨dA w, 0, 0, w % 1048576 - 1048576⟩)
          unfold decK; rw [h5, h6]; rfl
        | true =>
          conv => whnf
          refine Fin.flat rfl rfl ⟨?_, rfl⟩
          show insO (dOp w, ⟨dA w, 0, 0, w % 1048576 - 1048576⟩) = insO (decK w ⟨dA w, 0, 0, w % 1048576 - 1048576⟩)
          unfold decK; rw [h5, h6]; rfl
    | false =>
      conv => whnf
      refine CallF.law (lawREnc m) rfl rfl rfl ?_
      conv => whnf
      cases h5 : decide ((encR (dOp w) (dA w) (0) (0) (w % 1048576)).2 = 0) with
      | false =>
        conv => whnf
        refine Fin.flat rfl rfl ⟨?_, rfl⟩
        show insO (0, ⟨0, 0, 0, 0⟩) = insO (decK w ⟨dA w, 0, 0, w % 1048576⟩)
        unfold decK; rw [h5]; rfl
      | true =>
        conv => whnf
        cases h6 : decide ((encR (dOp w) (dA w) (0) (0) (w % 1048576)).1 = w) with
        | false =>
          conv => whnf
          refine Fin.flat rfl rfl ⟨?_, rfl⟩
          show insO (0, ⟨0, 0, 0, 0⟩) = insO (decK w ⟨dA w, 0, 0, w % 1048576⟩)
          unfold decK; rw [h5, h6]; rfl
        | true =>
          conv => whnf
          refine Fin.flat rfl rfl ⟨?_, rfl⟩
          show insO (dOp w, ⟨dA w, 0, 0, w % 1048576⟩) = insO (decK w ⟨dA w, 0, 0, w % 1048576⟩)
          unfold decK; rw [h5, h6]; rfl
  | false =>
    conv => whnf
    refine ⟨by decide, w / 65536, q32 65536 h0 h1 (by decide), ?_⟩
    conv => whnf
    refine ⟨by decide, dB w, r64 16 b16.1 b16.2 (by decide), ?_⟩
    conv => whnf
    refine ⟨by decide, w / 4096, q32 4096 h0 h1 (by decide), ?_⟩
    conv => whnf
    refine ⟨by decide, dC w, r64 16 b12.1 b12.2 (by decide), ?_⟩
    conv => whnf
    refine ⟨by decide, w % 4096, r64 4096 h0 h1 (by decide), ?_⟩
    conv => whnf
    unfold dI
    cases hs : decide (2048 ≤ w % 4096) with
    | true =>
      conv => whnf
      refine ⟨w % 4096 - 4096, wrap_i64 (by omega) (by omega), ?_⟩
      conv => whnf
      refine CallF.law (lawREnc m) rfl rfl rfl ?_
      conv => whnf
      cases h5 : decide ((encR (dOp w) (dA w) (dB w) (dC w) (w % 4096 - 4096)).2 = 0) with
      | false =>
        conv => whnf
        refine Fin.flat rfl rfl ⟨?_, rfl⟩
        show insO (0, ⟨0, 0, 0, 0⟩) = insO (decK w ⟨dA w, dB w, dC w, w % 4096 - 4096⟩)
        unfold decK; rw [h5]; rfl
      | true =>
        conv => whnf
        cases h6 : decide ((encR (dOp w) (dA w) (dB w) (dC w) (w % 4096 - 4096)).1 = w) with
        | false =>
          conv => whnf
          refine Fin.flat rfl rfl ⟨?_, rfl⟩
          show insO (0, ⟨0, 0, 0, 0⟩) = insO (decK w ⟨dA w, dB w, dC w, w % 4096 - 4096⟩)
          unfold decK; rw [h5, h6]; rfl
        | true =>
          conv => whnf
          refine Fin.flat rfl rfl ⟨?_, rfl⟩
          show insO (dOp w, ⟨dA w, dB w, dC w, w % 4096 - 4096⟩) = insO (decK w ⟨dA w, dB w, dC w, w % 4096 - 4096⟩)
          unfold decK; rw [h5, h6]; rfl
    | false =>
      conv => whnf
      refine CallF.law (lawREnc m) rfl rfl rfl ?_
      conv => whnf
      cases h5 : decide ((encR (dOp w) (dA w) (dB w) (dC w) (w % 4096)).2 = 0) with
      | false =>
        conv => whnf
        refine Fin.flat rfl rfl ⟨?_, rfl⟩
        show insO (0, ⟨0, 0, 0, 0⟩) = insO (decK w ⟨dA w, dB w, dC w, w % 4096⟩)
        unfold decK; rw [h5]; rfl
      | true =>
        conv => whnf
        cases h6 : decide ((encR (dOp w) (dA w) (dB w) (dC w) (w % 4096)).1 = w) with
        | false =>
          conv => whnf
          refine Fin.flat rfl rfl ⟨?_, rfl⟩
          show insO (0, ⟨0, 0, 0, 0⟩) = insO (decK w ⟨dA w, dB w, dC w, w % 4096⟩)
          unfold decK; rw [h5, h6]; rfl
        | true =>
          conv => whnf
          refine Fin.flat rfl rfl ⟨?_, rfl⟩
          show insO (dOp w, ⟨dA w, dB w, dC w, w % 4096⟩) = insO (decK w ⟨dA w, dB w, dC w, w % 4096⟩)
          unfold decK; rw [h5, h6]; rfl
def lawRDec (m : Int) : Law (X13 m) (G0 m) := ⟨35, fun | [.i .u32 w] => if 0 ≤ w ∧ w < 4294967296 then some (insO (decR w)) else none | _ => none, fun args v h => by
  split at h
  · split at h
    · rename_i hl; cases h; exact ⟨rfl, rfl, rdec_to m _ hl.1 hl.2⟩
    · cases h
  · cases h⟩
end Go.Abs.YtkfcbgmamfnajaaGreatDoor
