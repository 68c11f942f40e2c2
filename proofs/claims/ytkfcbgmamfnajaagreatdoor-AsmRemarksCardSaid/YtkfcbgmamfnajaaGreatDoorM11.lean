/- Texts of this claim, joined: Pl, Pm, Dg, RfD, RfE, RfF. -/
import Derived.Test.YtkfcbgmamfnajaaGreatDoorM10
import Derived.Test.YtkfcbgmamfnajaaGreatDoorM05
import Derived.Lib.ItoaMem
import Derived.Lib.Walk
import Derived.WalkKit
import Derived.BigCall
import Derived.BigGuard
import Derived.Deep.RegionHeld
import Derived.Test.YtkfcbgmamfnajaaGreatDoorM07
set_option linter.unusedVariables false
set_option linter.unusedSimpArgs false
/- The program's words and fields are the document's. -/
namespace Go.Abs.YtkfcbgmamfnajaaGreatDoor
open Go.Proofs
set_option maxRecDepth 4000

theorem U_id {x : Int} (h0 : 0 ≤ x) (h1 : x < 4294967296) : U x = x := wrap_u32 h0 (by omega)
theorem sumR_eq {op a b c : Int} (ho : 0 ≤ op ∧ op < 256) (ha : 0 ≤ a ∧ a ≤ 15) (hb : 0 ≤ b ∧ b ≤ 15) (hc : 0 ≤ c ∧ c ≤ 15) : sumR op a b c = op * 16777216 + a * 1048576 + b * 65536 + c * 4096 := by
  unfold sumR
  rw [U_id (x := op) (by omega) (by omega), U_id (x := a) (by omega) (by omega), U_id (x := b) (by omega) (by omega), U_id (x := c) (by omega) (by omega),
    U_id (x := op * 16777216) (by omega) (by omega), U_id (x := a * 1048576) (by omega) (by omega), U_id (x := b * 65536) (by omega) (by omega), U_id (x := c * 4096) (by omega) (by omega),
    U_id (x := op * 16777216 + a * 1048576) (by omega) (by omega), U_id (x := op * 16777216 + a * 1048576 + b * 65536) (by omega) (by omega), U_id (by omega) (by omega)]
theorem may_ (a b c i : Int) : (mayF [] a b c i = true) ↔ (a = 0 ∧ b = 0 ∧ c = 0 ∧ i = 0) := by
  simp [mayF, fieldR, hasP]
theorem may_i (a b c i : Int) : (mayF [105] a b c i = true) ↔ (a = 0 ∧ b = 0 ∧ c = 0 ∧ -2048 ≤ i ∧ i ≤ 2047) := by
  simp [mayF, fieldR, hasP]
theorem may_ab (a b c i : Int) : (mayF [97, 98] a b c i = true) ↔ ((0 ≤ a ∧ a ≤ 15) ∧ (0 ≤ b ∧ b ≤ 15) ∧ c = 0 ∧ i = 0) := by
  simp [mayF, fieldR, hasP]
theorem may_ai (a b c i : Int) : (mayF [97, 105] a b c i = true) ↔ ((0 ≤ a ∧ a ≤ 15) ∧ b = 0 ∧ c = 0 ∧ -2048 ≤ i ∧ i ≤ 2047) := by
  simp [mayF, fieldR, hasP]
theorem may_aj (a b c i : Int) : (mayF [97, 106] a b c i = true) ↔ ((0 ≤ a ∧ a ≤ 15) ∧ b = 0 ∧ c = 0 ∧ -524288 ≤ i ∧ i ≤ 524287) := by
  simp [mayF, fieldR, hasP]
theorem may_abc (a b c i : Int) : (mayF [97, 98, 99] a b c i = true) ↔ ((0 ≤ a ∧ a ≤ 15) ∧ (0 ≤ b ∧ b ≤ 15) ∧ (0 ≤ c ∧ c ≤ 15) ∧ i = 0) := by
  simp [mayF, fieldR, hasP]
theorem may_abi (a b c i : Int) : (mayF [97, 98, 105] a b c i = true) ↔ ((0 ≤ a ∧ a ≤ 15) ∧ (0 ≤ b ∧ b ≤ 15) ∧ c = 0 ∧ -2048 ≤ i ∧ i ≤ 2047) := by
  simp [mayF, fieldR, hasP]
theorem mayR_in {op a b c i : Int} (h : 1 ≤ op ∧ op ≤ 53) : mayR op a b c i = mayF (formI op) a b c i := by
  unfold mayR
  rw [decide_eq_false (by omega), decide_eq_false (by omega)]; rfl
theorem encR_no {op a b c i : Int} (h : mayR op a b c i = false) : encR op a b c i = (0, 2) := by
  unfold encR; rw [h]; rfl
/-- The number's part of a word. -/
def immQ (f : List UInt8) (i : Int) : Int := if f.contains 106 then i % 1048576 else i % 4096
theorem may_bounds {f : List UInt8} {a b c i : Int} (hf : f = [] ∨ f = [105] ∨ f = [97, 98] ∨ f = [97, 105] ∨ f = [97, 106] ∨ f = [97, 98, 99] ∨ f = [97, 98, 105]) (h : mayF f a b c i = true) :
    (0 ≤ a ∧ a ≤ 15) ∧ (0 ≤ b ∧ b ≤ 15) ∧ (0 ≤ c ∧ c ≤ 15) ∧ -524288 ≤ i ∧ i ≤ 524287 ∧ (f.contains 106 = true → b = 0 ∧ c = 0) ∧ (f.contains 106 = false → -2048 ≤ i ∧ i ≤ 2047) := by
  rcases hf with rfl | rfl | rfl | rfl | rfl | rfl | rfl
  · have := (may_ a b c i).1 h; exact ⟨by omega, by omega, by omega, by omega, by omega, fun e => absurd e (by decide), fun e => by omega⟩
  · have := (may_i a b c i).1 h; exact ⟨by omega, by omega, by omega, by omega, by omega, fun e => absurd e (by decide), fun e => by omega⟩
  · have := (may_ab a b c i).1 h; exact ⟨by omega, by omega, by omega, by omega, by omega, fun e => absurd e (by decide), fun e => by omega⟩
  · have := (may_ai a b c i).1 h; exact ⟨by omega, by omega, by omega, by omega, by omega, fun e => absurd e (by decide), fun e => by omega⟩
  · have := (may_aj a b c i).1 h; exact ⟨by omega, by omega, by omega, by omega, by omega, fun e => by omega, fun e => absurd e (by decide)⟩
  · have := (may_abc a b c i).1 h; exact ⟨by omega, by omega, by omega, by omega, by omega, fun e => absurd e (by decide), fun e => by omega⟩
  · have := (may_abi a b c i).1 h; exact ⟨by omega, by omega, by omega, by omega, by omega, fun e => absurd e (by decide), fun e => by omega⟩
theorem formI_cases (op : Int) : formI op = [] ∨ formI op = [105] ∨ formI op = [97, 98] ∨ formI op = [97, 105] ∨ formI op = [97, 106] ∨ formI op = [97, 98, 99] ∨ formI op = [97, 98, 105] := by
  unfold formI
  split
  · exact .inl rfl
  · exact form_cases _
theorem has_contains (f : List UInt8) (c : UInt8) : hasP f c.toNat = f.contains c := by
  unfold hasP
  induction f with
  | nil => rfl
  | cons x f ih =>
    rw [List.any_cons, List.contains_cons, ih]
    congr 1
    by_cases h : x = c
    · subst h; simp
    · rw [decide_eq_false (fun e => h (UInt8.toNat_inj.1 (by omega)))]
      have : (c == x) = false := by simpa using fun e => h e.symm
      rw [this]
theorem encR_yes {op a b c i : Int} (h : 1 ≤ op ∧ op ≤ 53) (hm : mayF (formI op) a b c i = true) : encR op a b c i = (op * 16777216 + a * 1048576 + b * 65536 + c * 4096 + immQ (formI op) i, 0) := by
  obtain ⟨ha, hb, hc, hi1, hi2, hj, hn⟩ := may_bounds (formI_cases op) hm
  unfold encR
  rw [mayR_in h, hm, sumR_eq (by omega) ha hb hc]
  have hh : hasP (formI op) 106 = (formI op).contains 106 := has_contains _ 106
  unfold immR immQ
  rw [hh]
  cases hq : (formI op).contains 106 with
  | true =>
    have := hj hq
    by_cases h0 : i < 0
    · rw [decide_eq_true h0, if_pos rfl]
      show (U (_ + U (IntKind.i64.wrap (i + 1048576))), (0:Int)) = _
      rw [wrap_i64 (by omega) (by omega), U_id (x := i + 1048576) (by omega) (by omega), U_id (by omega) (by omega)]
      congr 1; omega
    · rw [decide_eq_false h0, if_pos rfl]
      show (U (_ + U i), (0:Int)) = _
      rw [U_id (x := i) (by omega) (by omega), U_id (by omega) (by omega)]
      congr 1; omega
  | false =>
    have := hn hq
    by_cases h0 : i < 0
    · rw [decide_eq_true h0, if_neg (by decide)]
      show (U (_ + U (IntKind.i64.wrap (i + 4096))), (0:Int)) = _
      rw [wrap_i64 (by omega) (by omega), U_id (x := i + 4096) (by omega) (by omega), U_id (by omega) (by omega)]
      congr 1; omega
    · rw [decide_eq_false h0, if_neg (by decide)]
      show (U (_ + U i), (0:Int)) = _
      rw [U_id (x := i) (by omega) (by omega), U_id (by omega) (by omega)]
      congr 1; omega
theorem U_mod (x : Int) : IntKind.u32.wrap x = x % 4294967296 := by
  simp only [IntKind.wrap, IntKind.signed, IntKind.bits, Bool.false_and]
  simp
theorem ofInt_nat (x : Int) : (BitVec.ofInt 32 x).toNat = (x % 4294967296).toNat := by
  rw [BitVec.toNat_ofInt]; rfl
theorem andU_mask (x : Int) (k : Nat) (hk : k ≤ 32) (mask : Int) (hm : mask = ((2 ^ k - 1 : Nat) : Int)) : andU x mask = x % 4294967296 % ((2 ^ k : Nat) : Int) := by
  have hp : 2 ^ k ≤ 4294967296 := Nat.pow_le_pow_right (n := 2) (by decide) hk
  have hp0 : 0 < 2 ^ k := Nat.pow_pos (by decide)
  unfold andU
  rw [BitVec.toNat_and, ofInt_nat, ofInt_nat, hm]
  have e1 : (((2 ^ k - 1 : Nat) : Int) % 4294967296).toNat = 2 ^ k - 1 := by omega
  rw [e1, Nat.and_two_pow_sub_one_eq_mod, U_mod]
  have e2 : (x % 4294967296).toNat < 4294967296 := by omega
  obtain ⟨n, hn⟩ : ∃ n : Nat, x % 4294967296 = n := ⟨(x % 4294967296).toNat, by omega⟩
  rw [hn, Int.toNat_natCast]
  have e3 : ((n : Int) % ((2 ^ k : Nat) : Int)) = ((n % 2 ^ k : Nat) : Int) := rfl
  rw [e3]
  have := Nat.mod_lt n hp0
  omega
theorem orU_add (w y : Int) (j q : Nat) (hw : w = ((2 ^ j * q : Nat) : Int)) (hw2 : w < 4294967296) (hy : 0 ≤ y) (hy2 : y < ((2 ^ j : Nat) : Int)) (hs : w + y < 4294967296) : orU w y = w + y := by
  unfold orU
  have h0 : 0 ≤ w := by omega
  rw [BitVec.toNat_or, ofInt_nat, ofInt_nat, U_mod]
  obtain ⟨n, rfl⟩ : ∃ n : Nat, y = n := ⟨y.toNat, by omega⟩
  have e1 : (w % 4294967296).toNat = 2 ^ j * q := by omega
  have e2 : ((n : Int) % 4294967296).toNat = n := by omega
  rw [e1, e2, ← Nat.two_pow_add_eq_or_of_lt (by omega)]
  omega
theorem putW_add (at_ k : Nat) (mask w v : Int) (q : Nat) (hk : k ≤ 32) (hm : mask = ((2 ^ k - 1 : Nat) : Int)) (hw : w = ((2 ^ (at_ + k) * q : Nat) : Int)) (hak : at_ + k ≤ 32) (hw2 : w < 4294967296) (hs : w + v % 4294967296 % ((2 ^ k : Nat) : Int) * ((2 ^ at_ : Nat) : Int) < 4294967296) : putW at_ mask w v = w + v % 4294967296 % ((2 ^ k : Nat) : Int) * ((2 ^ at_ : Nat) : Int) := by
  have hp0 : 0 < 2 ^ k := Nat.pow_pos (by decide)
  have hq0 : 0 < 2 ^ at_ := Nat.pow_pos (by decide)
  unfold putW
  rw [andU_mask _ k hk mask hm, U_mod v, Int.emod_emod_of_dvd _ (Int.dvd_refl _)]
  obtain ⟨n, hn⟩ : ∃ n : Nat, v % 4294967296 = n := ⟨(v % 4294967296).toNat, by omega⟩
  rw [hn] at hs ⊢
  have e3 : ((n : Int) % ((2 ^ k : Nat) : Int)) = ((n % 2 ^ k : Nat) : Int) := rfl
  rw [e3] at hs ⊢
  have hlt := Nat.mod_lt n hp0
  generalize n % 2 ^ k = r at hs hlt ⊢
  have e4 : ((r : Int) * ((2 ^ at_ : Nat) : Int)) = ((r * 2 ^ at_ : Nat) : Int) := by simp
  have hlt2 : r * 2 ^ at_ < 2 ^ (at_ + k) := by
    rw [Nat.pow_add, Nat.mul_comm (2 ^ at_)]
    exact Nat.mul_lt_mul_of_pos_right hlt hq0
  have e5 : ((2:Int) ^ at_) = ((2 ^ at_ : Nat) : Int) := by simp
  rw [e5, e4] 
  rw [e4] at hs
  have e6 : IntKind.u32.wrap ((r * 2 ^ at_ : Nat) : Int) = ((r * 2 ^ at_ : Nat) : Int) := by rw [U_mod]; omega
  rw [e6]
  exact orU_add w _ (at_ + k) q hw hw2 (by omega) (by omega) hs
theorem put20 {w v : Int} (h0 : 0 ≤ w) (h1 : w < 4294967296) (hd : w % 16777216 = 0) : putW 20 15 w v = w + v % 16 * 1048576 := by
  have hv : v % 4294967296 % 16 = v % 16 := by omega
  have := putW_add 20 4 15 w v (w / 16777216).toNat (by decide) (by decide) (by show w = ((16777216 * (w / 16777216).toNat : Nat) : Int); omega) (by decide) h1 (by show w + v % 4294967296 % 16 * 1048576 < 4294967296; omega)
  rw [this]
  show w + v % 4294967296 % 16 * 1048576 = _
  rw [hv]
theorem put16 {w v : Int} (h0 : 0 ≤ w) (h1 : w < 4294967296) (hd : w % 1048576 = 0) : putW 16 15 w v = w + v % 16 * 65536 := by
  have hv : v % 4294967296 % 16 = v % 16 := by omega
  have := putW_add 16 4 15 w v (w / 1048576).toNat (by decide) (by decide) (by show w = ((1048576 * (w / 1048576).toNat : Nat) : Int); omega) (by decide) h1 (by show w + v % 4294967296 % 16 * 65536 < 4294967296; omega)
  rw [this]
  show w + v % 4294967296 % 16 * 65536 = _
  rw [hv]
theorem put12 {w v : Int} (h0 : 0 ≤ w) (h1 : w < 4294967296) (hd : w % 65536 = 0) : putW 12 15 w v = w + v % 16 * 4096 := by
  have hv : v % 4294967296 % 16 = v % 16 := by omega
  have := putW_add 12 4 15 w v (w / 65536).toNat (by decide) (by decide) (by show w = ((65536 * (w / 65536).toNat : Nat) : Int); omega) (by decide) h1 (by show w + v % 4294967296 % 16 * 4096 < 4294967296; omega)
  rw [this]
  show w + v % 4294967296 % 16 * 4096 = _
  rw [hv]
theorem put0 {w v : Int} (h0 : 0 ≤ w) (h1 : w < 4294967296) (hd : w % 4096 = 0) : putW 0 4095 w v = w + v % 4096 * 1 := by
  have hv : v % 4294967296 % 4096 = v % 4096 := by omega
  have := putW_add 0 12 4095 w v (w / 4096).toNat (by decide) (by decide) (by show w = ((4096 * (w / 4096).toNat : Nat) : Int); omega) (by decide) h1 (by show w + v % 4294967296 % 4096 * 1 < 4294967296; omega)
  rw [this]
  show w + v % 4294967296 % 4096 * 1 = _
  rw [hv]
theorem put0j {w v : Int} (h0 : 0 ≤ w) (h1 : w < 4294967296) (hd : w % 1048576 = 0) : putW 0 1048575 w v = w + v % 1048576 * 1 := by
  have hv : v % 4294967296 % 1048576 = v % 1048576 := by omega
  have := putW_add 0 20 1048575 w v (w / 1048576).toNat (by decide) (by decide) (by show w = ((1048576 * (w / 1048576).toNat : Nat) : Int); omega) (by decide) h1 (by show w + v % 4294967296 % 1048576 * 1 < 4294967296; omega)
  rw [this]
  show w + v % 4294967296 % 1048576 * 1 = _
  rw [hv]
theorem w0_eq {op : Int} (h : 1 ≤ op ∧ op ≤ 53) : w0 op = op * 16777216 := by
  unfold w0
  rw [U_mod op, U_mod]
  show op % 4294967296 * 16777216 % 4294967296 = _
  omega
theorem encF_no {w a b c i : Int} {wr : Bool} (h : wr = true ∨ ¬ (a = 0 ∧ b = 0 ∧ c = 0 ∧ i = 0)) : encF ⟨w, wr, a, b, c, i⟩ = (0, 2) := by
  unfold encF
  cases wr with
  | true => rfl
  | false =>
    rw [if_neg (fun e => Bool.noConfusion e), if_neg (by rcases h with h | h; cases h; exact h)]
theorem encF_yes {w x a b c i : Int} {wr : Bool} (h : wr = false) (ha : a = 0 ∧ b = 0 ∧ c = 0 ∧ i = 0) (hx : w = x) : encF ⟨w, wr, a, b, c, i⟩ = (x, 0) := by
  unfold encF
  rw [h, if_neg (fun e => Bool.noConfusion e), if_pos ha, hx]
theorem enc_eq (op a b c i : Int) : encP op a b c i = encR op a b c i := by
  by_cases h : 1 ≤ op ∧ op ≤ 53
  · have hn : nameI op ≠ [] := by
      obtain ⟨k, rfl⟩ : ∃ k : Nat, op = k := ⟨op.toNat, by omega⟩
      exact nameI_ne (by omega) (by omega)
    unfold encP
    rw [if_neg hn, w0_eq h]
    have hw : ∃ w, op * 16777216 = w ∧ 0 ≤ w ∧ w < 4294967296 ∧ w % 16777216 = 0 ∧ w ≤ 4278190080 := ⟨_, rfl, by omega, by omega, by omega, by omega⟩
    obtain ⟨w, hw, w1, w2, w3, w4⟩ := hw
    rw [hw]
    rcases formI_cases op with hf | hf | hf | hf | hf | hf | hf
    · by_cases hm : mayF (formI op) a b c i = true
      · rw [encR_yes h hm, hw]
        rw [hf] at hm ⊢
        have hc := (may_ a b c i).1 hm
        show encF ⟨w, false, a, b, c, i⟩ = _
        refine encF_yes ?_ ⟨by omega, by omega, by omega, by omega⟩ ?_
        · simp only [Bool.false_or, Bool.or_eq_false_iff, decide_eq_false_iff_not]
        · show w = w + a * 1048576 + b * 65536 + c * 4096 + immQ [] i
          unfold immQ
          rw [if_neg (by decide)]
          omega
      · have hmr : mayR op a b c i = false := by rw [mayR_in h]; simpa using hm
        rw [encR_no hmr]
        rw [hf] at hm ⊢
        have hc : ¬ _ := fun e => hm ((may_ a b c i).2 e)
        show encF ⟨w, false, a, b, c, i⟩ = _
        refine encF_no (.inr ?_)
        omega
    · by_cases hm : mayF (formI op) a b c i = true
      · rw [encR_yes h hm, hw]
        rw [hf] at hm ⊢
        have hc := (may_i a b c i).1 hm
        show encF ⟨putW 0 4095 (w) i, false || decide (i < -2048) || decide (2048 ≤ i), a, b, c, 0⟩ = _
        refine encF_yes ?_ ⟨by omega, by omega, by omega, by omega⟩ ?_
        · simp only [Bool.false_or, Bool.or_eq_false_iff, decide_eq_false_iff_not]
          omega
        · show putW 0 4095 (w) i = w + a * 1048576 + b * 65536 + c * 4096 + immQ [105] i
          unfold immQ
          rw [if_neg (by decide)]
          rw [put0 (by omega) (by omega) (by omega)]; omega
      · have hmr : mayR op a b c i = false := by rw [mayR_in h]; simpa using hm
        rw [encR_no hmr]
        rw [hf] at hm ⊢
        have hc : ¬ _ := fun e => hm ((may_i a b c i).2 e)
        show encF ⟨putW 0 4095 (w) i, false || decide (i < -2048) || decide (2048 ≤ i), a, b, c, 0⟩ = _
        refine encF_no ?_
        simp only [Bool.false_or, Bool.or_eq_true, decide_eq_true_eq]
        omega
    · by_cases hm : mayF (formI op) a b c i = true
      · rw [encR_yes h hm, hw]
        rw [hf] at hm ⊢
        have hc := (may_ab a b c i).1 hm
        show encF ⟨putW 16 15 (putW 20 15 (w) a) b, false || decide (a < 0) || decide (16 ≤ a) || decide (b < 0) || decide (16 ≤ b), 0, 0, c, i⟩ = _
        refine encF_yes ?_ ⟨by omega, by omega, by omega, by omega⟩ ?_
        · simp only [Bool.false_or, Bool.or_eq_false_iff, decide_eq_false_iff_not]
          omega
        · show putW 16 15 (putW 20 15 (w) a) b = w + a * 1048576 + b * 65536 + c * 4096 + immQ [97, 98] i
          unfold immQ
          rw [if_neg (by decide)]
          rw [put20 (by omega) (by omega) (by omega), put16 (by omega) (by omega) (by omega)]; omega
      · have hmr : mayR op a b c i = false := by rw [mayR_in h]; simpa using hm
        rw [encR_no hmr]
        rw [hf] at hm ⊢
        have hc : ¬ _ := fun e => hm ((may_ab a b c i).2 e)
        show encF ⟨putW 16 15 (putW 20 15 (w) a) b, false || decide (a < 0) || decide (16 ≤ a) || decide (b < 0) || decide (16 ≤ b), 0, 0, c, i⟩ = _
        refine encF_no ?_
        simp only [Bool.false_or, Bool.or_eq_true, decide_eq_true_eq]
        omega
    · by_cases hm : mayF (formI op) a b c i = true
      · rw [encR_yes h hm, hw]
        rw [hf] at hm ⊢
        have hc := (may_ai a b c i).1 hm
        show encF ⟨putW 0 4095 (putW 20 15 (w) a) i, false || decide (a < 0) || decide (16 ≤ a) || decide (i < -2048) || decide (2048 ≤ i), 0, b, c, 0⟩ = _
        refine encF_yes ?_ ⟨by omega, by omega, by omega, by omega⟩ ?_
        · simp only [Bool.false_or, Bool.or_eq_false_iff, decide_eq_false_iff_not]
          omega
        · show putW 0 4095 (putW 20 15 (w) a) i = w + a * 1048576 + b * 65536 + c * 4096 + immQ [97, 105] i
          unfold immQ
          rw [if_neg (by decide)]
          rw [put20 (by omega) (by omega) (by omega), put0 (by omega) (by omega) (by omega)]; omega
      · have hmr : mayR op a b c i = false := by rw [mayR_in h]; simpa using hm
        rw [encR_no hmr]
        rw [hf] at hm ⊢
        have hc : ¬ _ := fun e => hm ((may_ai a b c i).2 e)
        show encF ⟨putW 0 4095 (putW 20 15 (w) a) i, false || decide (a < 0) || decide (16 ≤ a) || decide (i < -2048) || decide (2048 ≤ i), 0, b, c, 0⟩ = _
        refine encF_no ?_
        simp only [Bool.false_or, Bool.or_eq_true, decide_eq_true_eq]
        omega
    · by_cases hm : mayF (formI op) a b c i = true
      · rw [encR_yes h hm, hw]
        rw [hf] at hm ⊢
        have hc := (may_aj a b c i).1 hm
        show encF ⟨putW 0 1048575 (putW 20 15 (w) a) i, false || decide (a < 0) || decide (16 ≤ a) || decide (i < -524288) || decide (524288 ≤ i), 0, b, c, 0⟩ = _
        refine encF_yes ?_ ⟨by omega, by omega, by omega, by omega⟩ ?_
        · simp only [Bool.false_or, Bool.or_eq_false_iff, decide_eq_false_iff_not]
          omega
        · show putW 0 1048575 (putW 20 15 (w) a) i = w + a * 1048576 + b * 65536 + c * 4096 + immQ [97, 106] i
          unfold immQ
          rw [if_pos (by decide)]
          rw [put20 (by omega) (by omega) (by omega), put0j (by omega) (by omega) (by omega)]; omega
      · have hmr : mayR op a b c i = false := by rw [mayR_in h]; simpa using hm
        rw [encR_no hmr]
        rw [hf] at hm ⊢
        have hc : ¬ _ := fun e => hm ((may_aj a b c i).2 e)
        show encF ⟨putW 0 1048575 (putW 20 15 (w) a) i, false || decide (a < 0) || decide (16 ≤ a) || decide (i < -524288) || decide (524288 ≤ i), 0, b, c, 0⟩ = _
        refine encF_no ?_
        simp only [Bool.false_or, Bool.or_eq_true, decide_eq_true_eq]
        omega
    · by_cases hm : mayF (formI op) a b c i = true
      · rw [encR_yes h hm, hw]
        rw [hf] at hm ⊢
        have hc := (may_abc a b c i).1 hm
        show encF ⟨putW 12 15 (putW 16 15 (putW 20 15 (w) a) b) c, false || decide (a < 0) || decide (16 ≤ a) || decide (b < 0) || decide (16 ≤ b) || decide (c < 0) || decide (16 ≤ c), 0, 0, 0, i⟩ = _
        refine encF_yes ?_ ⟨by omega, by omega, by omega, by omega⟩ ?_
        · simp only [Bool.false_or, Bool.or_eq_false_iff, decide_eq_false_iff_not]
          omega
        · show putW 12 15 (putW 16 15 (putW 20 15 (w) a) b) c = w + a * 1048576 + b * 65536 + c * 4096 + immQ [97, 98, 99] i
          unfold immQ
          rw [if_neg (by decide)]
          rw [put20 (by omega) (by omega) (by omega), put16 (by omega) (by omega) (by omega), put12 (by omega) (by omega) (by omega)]; omega
      · have hmr : mayR op a b c i = false := by rw [mayR_in h]; simpa using hm
        rw [encR_no hmr]
        rw [hf] at hm ⊢
        have hc : ¬ _ := fun e => hm ((may_abc a b c i).2 e)
        show encF ⟨putW 12 15 (putW 16 15 (putW 20 15 (w) a) b) c, false || decide (a < 0) || decide (16 ≤ a) || decide (b < 0) || decide (16 ≤ b) || decide (c < 0) || decide (16 ≤ c), 0, 0, 0, i⟩ = _
        refine encF_no ?_
        simp only [Bool.false_or, Bool.or_eq_true, decide_eq_true_eq]
        omega
    · by_cases hm : mayF (formI op) a b c i = true
      · rw [encR_yes h hm, hw]
        rw [hf] at hm ⊢
        have hc := (may_abi a b c i).1 hm
        show encF ⟨putW 0 4095 (putW 16 15 (putW 20 15 (w) a) b) i, false || decide (a < 0) || decide (16 ≤ a) || decide (b < 0) || decide (16 ≤ b) || decide (i < -2048) || decide (2048 ≤ i), 0, 0, c, 0⟩ = _
        refine encF_yes ?_ ⟨by omega, by omega, by omega, by omega⟩ ?_
        · simp only [Bool.false_or, Bool.or_eq_false_iff, decide_eq_false_iff_not]
          omega
        · show putW 0 4095 (putW 16 15 (putW 20 15 (w) a) b) i = w + a * 1048576 + b * 65536 + c * 4096 + immQ [97, 98, 105] i
          unfold immQ
          rw [if_neg (by decide)]
          rw [put20 (by omega) (by omega) (by omega), put16 (by omega) (by omega) (by omega), put0 (by omega) (by omega) (by omega)]; omega
      · have hmr : mayR op a b c i = false := by rw [mayR_in h]; simpa using hm
        rw [encR_no hmr]
        rw [hf] at hm ⊢
        have hc : ¬ _ := fun e => hm ((may_abi a b c i).2 e)
        show encF ⟨putW 0 4095 (putW 16 15 (putW 20 15 (w) a) b) i, false || decide (a < 0) || decide (16 ≤ a) || decide (b < 0) || decide (16 ≤ b) || decide (i < -2048) || decide (2048 ≤ i), 0, 0, c, 0⟩ = _
        refine encF_no ?_
        simp only [Bool.false_or, Bool.or_eq_true, decide_eq_true_eq]
        omega
  · have hr : encR op a b c i = (0, 2) := encR_no (by
      unfold mayR
      by_cases h1 : op < 1
      · rw [decide_eq_true h1]; rfl
      · rw [decide_eq_false h1, decide_eq_true (by omega)]; rfl)
    unfold encP
    rw [if_pos (nameI_off h).1, hr]
end Go.Abs.YtkfcbgmamfnajaaGreatDoor
/- What the program takes from a word is what the document takes. -/
namespace Go.Abs.YtkfcbgmamfnajaaGreatDoor
open Go.Proofs
set_option maxRecDepth 4000

theorem fdiv_eq {w : Int} (h : 0 ≤ w) (k : Nat) : w.fdiv (2 ^ k) = w / ((2 ^ k : Nat) : Int) := by
  have : ((2:Int) ^ k) = ((2 ^ k : Nat) : Int) := by simp
  rw [this, Int.fdiv_eq_ediv_of_nonneg _ (Int.natCast_nonneg _)]
theorem tk_eq {w : Int} (h0 : 0 ≤ w) (h1 : w < 4294967296) (at_ k : Nat) (mask : Int) (hk : k ≤ 32) (hm : mask = ((2 ^ k - 1 : Nat) : Int)) : tk w at_ mask = w / ((2 ^ at_ : Nat) : Int) % ((2 ^ k : Nat) : Int) := by
  have hp0 : 0 < 2 ^ k := Nat.pow_pos (by decide)
  have hq0 : 0 < 2 ^ at_ := Nat.pow_pos (by decide)
  unfold tk
  rw [Int.toNat_natCast, fdiv_eq h0, andU_mask _ k hk mask hm]
  have hd := div_b (2 ^ at_) h0 h1 hq0
  generalize w / ((2 ^ at_ : Nat) : Int) = x at hd ⊢
  have e1 : x % 4294967296 = x := by omega
  rw [e1]
  obtain ⟨n, rfl⟩ : ∃ n : Nat, x = n := ⟨x.toNat, by omega⟩
  have e3 : ((n : Int) % ((2 ^ k : Nat) : Int)) = ((n % 2 ^ k : Nat) : Int) := rfl
  rw [e3]
  have := Nat.mod_le n (2 ^ k)
  exact wrap_i64 (by omega) (by omega)
variable {w : Int}
theorem tkA (h0 : 0 ≤ w) (h1 : w < 4294967296) : tk w 20 15 = dA w := tk_eq h0 h1 20 4 15 (by decide) rfl
theorem tkB (h0 : 0 ≤ w) (h1 : w < 4294967296) : tk w 16 15 = dB w := tk_eq h0 h1 16 4 15 (by decide) rfl
theorem tkC (h0 : 0 ≤ w) (h1 : w < 4294967296) : tk w 12 15 = dC w := tk_eq h0 h1 12 4 15 (by decide) rfl
theorem sgI (h0 : 0 ≤ w) (h1 : w < 4294967296) : sg w 12 4095 = dI w := by
  have e1 : tk w 0 4095 = w / 1 % 4096 := tk_eq h0 h1 0 12 4095 (by decide) rfl
  have e2 : tk w (12 - 1) 1 = w / 2048 % 2 := tk_eq h0 h1 11 1 1 (by decide) rfl
  unfold sg dI
  rw [e1, e2]
  show IntKind.i64.wrap (w / 1 % 4096 - IntKind.i64.wrap (w / 2048 % 2 * 4096)) = _
  rw [wrap_i64 (n := w / 2048 % 2 * 4096) (by omega) (by omega), wrap_i64 (by omega) (by omega)]
  by_cases hs : 2048 ≤ w % 4096
  · rw [decide_eq_true hs]; show _ = w % 4096 - 4096; omega
  · rw [decide_eq_false hs]; show _ = w % 4096; omega
theorem sgJ (h0 : 0 ≤ w) (h1 : w < 4294967296) : sg w 20 1048575 = dJ w := by
  have e1 : tk w 0 1048575 = w / 1 % 1048576 := tk_eq h0 h1 0 20 1048575 (by decide) rfl
  have e2 : tk w (20 - 1) 1 = w / 524288 % 2 := tk_eq h0 h1 19 1 1 (by decide) rfl
  unfold sg dJ
  rw [e1, e2]
  show IntKind.i64.wrap (w / 1 % 1048576 - IntKind.i64.wrap (w / 524288 % 2 * 1048576)) = _
  rw [wrap_i64 (n := w / 524288 % 2 * 1048576) (by omega) (by omega), wrap_i64 (by omega) (by omega)]
  by_cases hs : 524288 ≤ w % 1048576
  · rw [decide_eq_true hs]; show _ = w % 1048576 - 1048576; omega
  · rw [decide_eq_false hs]; show _ = w % 1048576; omega
theorem decO_eq (h0 : 0 ≤ w) (h1 : w < 4294967296) : decO w = dOp w := by
  unfold decO dOp
  have := fdiv_eq h0 24
  rw [this]
  show IntKind.i64.wrap (w / 16777216) = _
  exact wrap_i64 (by omega) (by omega)
theorem dJ_eq (i : Int) (hi : -524288 ≤ i ∧ i ≤ 524287) (h : w % 1048576 = i % 1048576) : dJ w = i := by
  unfold dJ
  by_cases hs : 524288 ≤ w % 1048576
  · rw [decide_eq_true hs]; show w % 1048576 - 1048576 = _; omega
  · rw [decide_eq_false hs]; show w % 1048576 = _; omega
theorem dI_eq (i : Int) (hi : -2048 ≤ i ∧ i ≤ 2047) (h : w % 4096 = i % 4096) : dI w = i := by
  unfold dI
  by_cases hs : 2048 ≤ w % 4096
  · rw [decide_eq_true hs]; show w % 4096 - 4096 = _; omega
  · rw [decide_eq_false hs]; show w % 4096 = _; omega
/-- A word tells its fields. -/
theorem enc_uniq {op a b c i : Int} (h : encR op a b c i = (w, 0)) : (0 ≤ w ∧ w < 4294967296) ∧ (1 ≤ op ∧ op ≤ 53) ∧ op = dOp w ∧ decS w = ⟨a, b, c, i⟩ ∧ decC w = ⟨a, b, c, i⟩ := by
  have hmr : mayR op a b c i = true := by
    cases hq : mayR op a b c i with
    | true => rfl
    | false => rw [encR_no hq] at h; cases h
  have hop : 1 ≤ op ∧ op ≤ 53 := by
    unfold mayR at hmr
    by_cases h1 : op < 1
    · rw [decide_eq_true h1] at hmr; cases hmr
    · by_cases h2 : 53 < op
      · rw [decide_eq_false h1, decide_eq_true h2] at hmr; cases hmr
      · omega
  rw [mayR_in hop] at hmr
  rw [encR_yes hop hmr] at h
  have hw := (Prod.mk.inj h).1
  obtain ⟨ba, bb, bc, bi1, bi2, bj, bn⟩ := may_bounds (formI_cases op) hmr
  have hq : (0 ≤ w ∧ w < 4294967296) ∧ op = dOp w := by
    unfold dOp immQ at *
    by_cases hj : (formI op).contains 106 = true
    · rw [if_pos hj] at hw
      have := bj hj
      omega
    · rw [if_neg hj] at hw; omega
  obtain ⟨⟨w0, w1⟩, ho⟩ := hq
  refine ⟨⟨w0, w1⟩, hop, ho, ?_⟩
  have hS : decS w = (formI op).foldl (dStep w) ⟨0, 0, 0, 0⟩ := by unfold decS; rw [decO_eq w0 w1, ← ho]
  have hC : decC w = bif hasP (formI op) 106 then ⟨dA w, 0, 0, dJ w⟩ else ⟨dA w, dB w, dC w, dI w⟩ := by unfold decC; rw [← ho]
  rw [hS, hC]
  clear hS hC bj bn h ho
  rcases formI_cases op with hf | hf | hf | hf | hf | hf | hf
  · rw [hf] at hmr hw ⊢
    have hc := (may_ a b c i).1 hmr
    have hw2 : op * 16777216 + a * 1048576 + b * 65536 + c * 4096 + i % 4096 = w := hw
    have gA : dA w = a := by unfold dA; omega
    have gB : dB w = b := by unfold dB; omega
    have gC : dC w = c := by unfold dC; omega
    have gI : dI w = i := dI_eq i (by omega) (by omega)
    refine ⟨?_, ?_⟩
    · show (⟨0, 0, 0, 0⟩ : DS) = _
      rw [show a = 0 by omega, show b = 0 by omega, show c = 0 by omega, show i = 0 by omega]
    · show (⟨dA w, dB w, dC w, dI w⟩ : DS) = _
      rw [gA, gB, gC, gI]
  · rw [hf] at hmr hw ⊢
    have hc := (may_i a b c i).1 hmr
    have hw2 : op * 16777216 + a * 1048576 + b * 65536 + c * 4096 + i % 4096 = w := hw
    have gA : dA w = a := by unfold dA; omega
    have gB : dB w = b := by unfold dB; omega
    have gC : dC w = c := by unfold dC; omega
    have gI : dI w = i := dI_eq i (by omega) (by omega)
    refine ⟨?_, ?_⟩
    · show (⟨0, 0, 0, sg w 12 4095⟩ : DS) = _
      rw [sgI w0 w1, gI]
      rw [show a = 0 by omega, show b = 0 by omega, show c = 0 by omega]
    · show (⟨dA w, dB w, dC w, dI w⟩ : DS) = _
      rw [gA, gB, gC, gI]
  · rw [hf] at hmr hw ⊢
    have hc := (may_ab a b c i).1 hmr
    have hw2 : op * 16777216 + a * 1048576 + b * 65536 + c * 4096 + i % 4096 = w := hw
    have gA : dA w = a := by unfold dA; omega
    have gB : dB w = b := by unfold dB; omega
    have gC : dC w = c := by unfold dC; omega
    have gI : dI w = i := dI_eq i (by omega) (by omega)
    refine ⟨?_, ?_⟩
    · show (⟨tk w 20 15, tk w 16 15, 0, 0⟩ : DS) = _
      rw [tkA w0 w1, gA, tkB w0 w1, gB]
      rw [show c = 0 by omega, show i = 0 by omega]
    · show (⟨dA w, dB w, dC w, dI w⟩ : DS) = _
      rw [gA, gB, gC, gI]
  · rw [hf] at hmr hw ⊢
    have hc := (may_ai a b c i).1 hmr
    have hw2 : op * 16777216 + a * 1048576 + b * 65536 + c * 4096 + i % 4096 = w := hw
    have gA : dA w = a := by unfold dA; omega
    have gB : dB w = b := by unfold dB; omega
    have gC : dC w = c := by unfold dC; omega
    have gI : dI w = i := dI_eq i (by omega) (by omega)
    refine ⟨?_, ?_⟩
    · show (⟨tk w 20 15, 0, 0, sg w 12 4095⟩ : DS) = _
      rw [tkA w0 w1, gA, sgI w0 w1, gI]
      rw [show b = 0 by omega, show c = 0 by omega]
    · show (⟨dA w, dB w, dC w, dI w⟩ : DS) = _
      rw [gA, gB, gC, gI]
  · rw [hf] at hmr hw ⊢
    have hc := (may_aj a b c i).1 hmr
    have hw2 : op * 16777216 + a * 1048576 + b * 65536 + c * 4096 + i % 1048576 = w := hw
    have gA : dA w = a := by unfold dA; omega
    have gJ : dJ w = i := dJ_eq i (by omega) (by omega)
    refine ⟨?_, ?_⟩
    · show (⟨tk w 20 15, 0, 0, sg w 20 1048575⟩ : DS) = _
      rw [tkA w0 w1, gA, sgJ w0 w1, gJ]
      rw [show b = 0 by omega, show c = 0 by omega]
    · show (⟨dA w, 0, 0, dJ w⟩ : DS) = _
      rw [gA, gJ, show b = 0 by omega, show c = 0 by omega]
  · rw [hf] at hmr hw ⊢
    have hc := (may_abc a b c i).1 hmr
    have hw2 : op * 16777216 + a * 1048576 + b * 65536 + c * 4096 + i % 4096 = w := hw
    have gA : dA w = a := by unfold dA; omega
    have gB : dB w = b := by unfold dB; omega
    have gC : dC w = c := by unfold dC; omega
    have gI : dI w = i := dI_eq i (by omega) (by omega)
    refine ⟨?_, ?_⟩
    · show (⟨tk w 20 15, tk w 16 15, tk w 12 15, 0⟩ : DS) = _
      rw [tkA w0 w1, gA, tkB w0 w1, gB, tkC w0 w1, gC]
      rw [show i = 0 by omega]
    · show (⟨dA w, dB w, dC w, dI w⟩ : DS) = _
      rw [gA, gB, gC, gI]
  · rw [hf] at hmr hw ⊢
    have hc := (may_abi a b c i).1 hmr
    have hw2 : op * 16777216 + a * 1048576 + b * 65536 + c * 4096 + i % 4096 = w := hw
    have gA : dA w = a := by unfold dA; omega
    have gB : dB w = b := by unfold dB; omega
    have gC : dC w = c := by unfold dC; omega
    have gI : dI w = i := dI_eq i (by omega) (by omega)
    refine ⟨?_, ?_⟩
    · show (⟨tk w 20 15, tk w 16 15, 0, sg w 12 4095⟩ : DS) = _
      rw [tkA w0 w1, gA, tkB w0 w1, gB, sgI w0 w1, gI]
      rw [show c = 0 by omega]
    · show (⟨dA w, dB w, dC w, dI w⟩ : DS) = _
      rw [gA, gB, gC, gI]
theorem dec_eq (h0 : 0 ≤ w) (h1 : w < 4294967296) : decP w = decR w := by
  have hP : decP w = if encR (dOp w) (decS w).a (decS w).b (decS w).c (decS w).i = (w, 0) then (dOp w, decS w) else (0, ⟨0, 0, 0, 0⟩) := by
    unfold decP
    rw [decO_eq h0 h1, enc_eq]
    by_cases h : encR (dOp w) (decS w).a (decS w).b (decS w).c (decS w).i = (w, 0)
    · rw [if_pos h, if_pos (by rw [h]; exact ⟨rfl, rfl⟩)]
    · rw [if_neg h, if_neg (fun e => h (Prod.ext e.2 e.1))]
  have hR : decR w = if encR (dOp w) (decC w).a (decC w).b (decC w).c (decC w).i = (w, 0) then (dOp w, decC w) else (0, ⟨0, 0, 0, 0⟩) := by
    unfold decR decK
    generalize encR (dOp w) (decC w).a (decC w).b (decC w).c (decC w).i = e
    obtain ⟨e1, e2⟩ := e
    by_cases g2 : e2 = 0
    · by_cases g1 : e1 = w
      · rw [if_pos (by rw [g1, g2]), decide_eq_true g2, decide_eq_true g1]; rfl
      · rw [if_neg (fun e => g1 (Prod.mk.inj e).1), decide_eq_true g2, decide_eq_false g1]; rfl
    · rw [if_neg (fun e => g2 (Prod.mk.inj e).2), decide_eq_false g2]; rfl
  rw [hP, hR]
  by_cases gS : encR (dOp w) (decS w).a (decS w).b (decS w).c (decS w).i = (w, 0)
  · have hC := (enc_uniq gS).2.2.2.2
    rw [if_pos gS, hC, if_pos gS]
  · rw [if_neg gS, if_neg]
    intro gC
    have hS := (enc_uniq gC).2.2.2.1
    rw [hS] at gS
    exact gS gC
/-- What a word's fields are told from. -/
theorem dec_enc {op a b c i : Int} (h : encR op a b c i = (w, 0)) : decP w = (op, ⟨a, b, c, i⟩) := by
  obtain ⟨⟨w0, w1⟩, hop, ho, hS, hC⟩ := enc_uniq h
  unfold decP
  rw [decO_eq w0 w1, enc_eq, hS, ← ho, if_pos (by rw [h]; exact ⟨rfl, rfl⟩)]
theorem enc_dec (h0 : 0 ≤ w) (h1 : w < 4294967296) (h : (decP w).1 ≠ 0) : encP (decP w).1 (decP w).2.a (decP w).2.b (decP w).2.c (decP w).2.i = (w, 0) := by
  unfold decP at h ⊢
  split at h
  · rename_i hc
    rw [if_pos hc]
    exact Prod.ext hc.2 hc.1
  · exact (h rfl).elim
end Go.Abs.YtkfcbgmamfnajaaGreatDoor
/- fallowref08.digits: its region draws the order of a call and a new slice: walked by the kit's tactic. -/
set_option maxRecDepth 100000
namespace Go.Abs.YtkfcbgmamfnajaaGreatDoor
open Go.Abs Go.Proofs Go.RowKit Go.Sort Go.Lib
theorem one_string (W : World) (b : Nat) (x : UInt8) (h : W.cell? ⟨b, 0, none⟩ = some (.int .u8 (x.toNat : Int))) :
    (convert 38 9 (.slice (some ⟨b, 0, none⟩) 1 1)).run Tryz.prog W = .ok (.string ⟨#[x]⟩) W := by
  have h1 := run_convert_bytes_back (P := Tryz.prog) W 38 9 5 ⟨b, 0, none⟩ 1 [x] Tryz.underlying38 Tryz.underlying5 Tryz.underlying9 (fun j hj => by
    have hj0 : j = 0 := by simp at hj; exact hj
    subst hj0
    exact h)
  exact h1
theorem digits_to (u : Nat) (hu : u < 18446744073709551616) : ∀ (w : World),
    Calls Tryz.prog 36 #[.int .u64 u] w fun e w' => e = .returned (.string ⟨(Lib.decDigits u).toArray⟩) ∧ ∃ k os, w' = grow (w.drewN k) os := by
  intro w
  by_cases hb : u < 10
  · have hd : Lib.decDigits u = [UInt8.ofNat (48 + u)] := by rw [Lib.decDigits, dif_pos hb]
    have h8 : ((UInt8.ofNat (48 + u)).toNat : Int) = 48 + (u : Int) := by
      rw [UInt8.toNat_ofNat']; omega
    have hcv : (convert 38 9 (.slice (some ⟨w.heap.size, 0, none⟩) 1 1)).run Tryz.prog (w.alloc (.cells #[.int .u8 (48 + (u : Int))] 5)) = .ok (.string ⟨(Lib.decDigits u).toArray⟩) (w.alloc (.cells #[.int .u8 (48 + (u : Int))] 5)) := by
      rw [hd]
      exact one_string _ _ _ (by rw [h8, World.cell?_alloc_new]; rfl)
    clear hd h8
    generalize (⟨(Lib.decDigits u).toArray⟩ : ByteArray) = S at hcv ⊢
    go_enter Tryz.func36, Tryz.ntmps36
    go_wp2
    go_ret
    refine ⟨rfl, 0, #[.cells #[.int .u8 (48 + (u : Int))] 5], ?_⟩
    rw [alloc_eq_grow]; rfl
  · have ih := digits_to (u / 10) (by omega)
    have e10 : ((u / 10 : Nat) : Int) = (u : Int) / 10 := by omega
    have ew : IntKind.u64.wrap ((u : Int) / 10) = ((u / 10 : Nat) : Int) := by rw [wrap_u64 (by omega) (by omega)]; omega
    have e48 : IntKind.u8.wrap (IntKind.u64.wrap (48 + (u : Int).tmod 10)) = 48 + (u : Int) % 10 := by
      rw [Int.tmod_eq_emod_of_nonneg (by omega), wrap_u64 (by omega) (by omega), wrap_u8 (by omega) (by omega)]
    rw [← ew] at ih
    have hcv : ∀ (W : World) (b : Nat), W.cell? ⟨b, 0, none⟩ = some (.int .u8 (IntKind.u8.wrap (IntKind.u64.wrap (48 + (u : Int).tmod 10)))) → (convert 38 9 (.slice (some ⟨b, 0, none⟩) 1 1)).run Tryz.prog W = .ok (.string ⟨#[UInt8.ofNat (48 + u % 10)]⟩) W := by
      intro W b h
      refine one_string _ _ _ ?_
      rw [h, e48]
      have : ((UInt8.ofNat (48 + u % 10)).toNat : Int) = 48 + (u : Int) % 10 := by rw [UInt8.toNat_ofNat']; omega
      rw [this]
    have hap : (⟨(Lib.decDigits u).toArray⟩ : ByteArray) = ⟨(Lib.decDigits (u / 10)).toArray⟩ ++ ⟨#[UInt8.ofNat (48 + u % 10)]⟩ := by
      rw [dec_step hb]; apply ByteArray.ext; simp [ByteArray.data_append]
    have hsz : ((⟨(Lib.decDigits (u / 10)).toArray⟩ : ByteArray).size : Int) ≤ 20 := by
      show (((Lib.decDigits (u / 10)).toArray.size : Nat) : Int) ≤ 20
      rw [List.size_toArray, Lib.decDigits_length]
      have := Lib.numDigits_eq (u / 10) (by omega) (by omega); split at this <;> omega
    rw [hap]
    clear hap e10 ew e48
    generalize (⟨(Lib.decDigits (u / 10)).toArray⟩ : ByteArray) = S at ih hsz ⊢
    generalize UInt8.ofNat (48 + u % 10) = x at hcv ⊢
    have hcw : ∀ (k : Nat) (os : Array Obj), (convert 38 9 (.slice (some ⟨w.heap.size, 0, none⟩) 1 1)).run Tryz.prog (Go.Sort.grow ((w.alloc (.cells #[.int .u8 (IntKind.u8.wrap (IntKind.u64.wrap (48 + (u : Int).tmod 10)))] 5)).drewN k) os) = .ok (.string ⟨#[x]⟩) (Go.Sort.grow ((w.alloc (.cells #[.int .u8 (IntKind.u8.wrap (IntKind.u64.wrap (48 + (u : Int).tmod 10)))] 5)).drewN k) os) := fun k os => hcv _ _ (by
      rw [Go.Sort.cell?_grow _ _ _ (by show w.heap.size < (w.alloc _).heap.size; simp), World.cell?_drewN, World.cell?_alloc_new]; rfl)
    go_enter Tryz.func36, Tryz.ntmps36
    go_wp2
    go_region_held (fun w' => True) (trivial) (first | (go_at_call 36; refine (ih _).mono ?_; rintro e w' ⟨rfl, k, os, rfl⟩))
    all_goals try omega
    all_goals go_wp2
    all_goals go_ret
    all_goals first
    | exact ⟨rfl, 1 + k, _, by rw [alloc_eq_grow, grow_grow]⟩
    | exact ⟨rfl, 1 + k, #[.cells #[.int .u8 (48 + (u : Int) % 10)] 5] ++ os, by rw [alloc_eq_grow]; exact grow_grow (w.drewN (1 + k)) _ os⟩
end Go.Abs.YtkfcbgmamfnajaaGreatDoor
/- The document's asm: numbers. -/
namespace Go.Abs
@[reducible] def Ctx.add (X : Ctx) (f0 : Nat) (g : List AV → St → Option (AV × St)) : Ctx := ⟨X.P, X.fns, fun f => match Nat.beq f f0 with | true => some g | false => X.prim f, X.meth⟩
theorem Ctx.add_sound {X : Ctx} {G : Nat} (hX : X.Sound G) (f0 : Nat) (g0 : List AV → St → Option (AV × St)) (hg0 : ∀ (args : List AV) (σ : St) (r : AV) (σ' : St), g0 args σ = some (r, σ') → ∀ (μ : Mu) (w : World) (cargs : Array Value), Sim G μ σ w → VRels μ w args cargs.toList → Does X.P f0 cargs w (After G μ σ w r σ')) : (X.add f0 g0).Sound G where
  draws := hX.draws
  fns := fun f F hp hf => hX.fns f F (by
    have hp' : (match Nat.beq f f0 with | true => some g0 | false => X.prim f) = none := hp
    split at hp'
    · cases hp'
    · exact hp') hf
  ok := {
    meth := hX.ok.meth
    prim := by
      intro f g hf args σ r σ' hg μ w cargs hs hr
      have hf' : (match Nat.beq f f0 with | true => some g0 | false => X.prim f) = some g := hf
      split at hf'
      · rename_i he
        obtain rfl := Nat.eq_of_beq_eq_true he
        cases hf'
        exact hg0 args σ r σ' hg μ w cargs hs hr
      · exact hX.ok.prim f g hf' args σ r σ' hg μ w cargs hs hr }
end Go.Abs
namespace Go.Abs.YtkfcbgmamfnajaaGreatDoor
open Go.Proofs
set_option maxRecDepth 4000
theorem CallF.underA {X : Ctx} {f0 : Nat} {g0 : List AV → St → Option (AV × St)} {f : Nat} {g : List AV → St → Option (AV × St)} {args : List AV} {σ : St} {Q : AV → St → Prop} (hn : Nat.beq f f0 = false) (hp : X.prim f = some g) (h : CallF X f args σ Q) : CallF (X.add f0 g0) f args σ Q := by
  constructor
  have h1 := h.ev
  rw [EvF_prim hp] at h1
  rw [EvF_prim (g := g) (by simp only [Ctx.add, hn]; exact hp)]
  exact h1
def pDigits : List AV → St → Option (AV × St)
  | [.i .u64 n], σ => if 0 ≤ n ∧ n < 18446744073709551616 then some (.s (Lib.decDigits n.toNat), σ) else none
  | _, _ => none
theorem pDigits_ok (args : List AV) (σ : St) (r : AV) (σ' : St) (h : pDigits args σ = some (r, σ')) (μ : Mu) (w : World) (cargs : Array Value) (hs : Sim 11 μ σ w) (hr : VRels μ w args cargs.toList) : Does Tryz.prog 36 cargs w (After 11 μ σ w r σ') := by
  unfold pDigits at h
  split at h
  · rename_i n
    split at h
    · rename_i hc
      cases h
      obtain ⟨v, rfl, h1⟩ := vrels_one hr
      simp only [VRel] at h1
      subst h1
      obtain ⟨k, rfl⟩ : ∃ k : Nat, n = k := ⟨n.toNat, by omega⟩
      exact flat_below (enters_mk Tryz.func36 (by kernel_rfl) (by kernel_rfl)) hs (fun _ => rfl) ((digits_to k (by omega) w).mono fun e w' q => by
          obtain ⟨rfl, k, os, rfl⟩ := q; exact ⟨rfl, grown_below k os⟩)
    · cases h
  · cases h
@[reducible] noncomputable def X14 (m : Int) : Ctx := ((X13 m).knows (G0 m) [lawRDec m]).add 36 pDigits
theorem X14_sound (m : Int) : (X14 m).Sound 11 := Ctx.add_sound (Ctx.knows_sound (X13_sound m) (okG0 m) _) _ _ pDigits_ok
theorem c14_digits {m : Int} {n : Nat} {σ : St} {Q : AV → St → Prop} (h : n < 18446744073709551616) (q : Q (.s (Lib.decDigits n)) σ) : CallF (X14 m) 36 [.i .u64 n] σ Q :=
  CallF.prim (g := pDigits) rfl (by simp only [pDigits]; rw [if_pos ⟨by omega, by omega⟩, Int.toNat_natCast]) q
end Go.Abs.YtkfcbgmamfnajaaGreatDoor
/- The document's asm: numbers, registers, names, as texts. -/
namespace Go.Abs.YtkfcbgmamfnajaaGreatDoor
open Go.Proofs
set_option maxRecDepth 4000
theorem signed_to (m n : Int) (h1 : -1099511627776 ≤ n) (h2 : n ≤ 1099511627776) : CallF (X14 m) 39 [.i .i64 n] (G0 m) fun r s => r = .s (Lib.itoa n) ∧ s = G0 m := by
  refine CallF.body (F := F39) tyB_ok (lit := true) rfl rfl (Nat.le_of_ble_eq_true rfl) ?_
  conv => whnf
  by_cases h0 : n < 0
  · rw [decide_eq_true h0]
    conv => whnf
    refine ⟨_, wrap_i64 (by omega) (by omega), ?_⟩
    conv => whnf
    obtain ⟨k, hk⟩ : ∃ k : Nat, 0 - n = k := ⟨(0 - n).toNat, by omega⟩
    refine ⟨(k : Int), by rw [hk]; exact wrap_u64 (by omega) (by omega), ?_⟩
    conv => whnf
    refine c14_digits (by omega) ?_
    conv => whnf
    have hl : (Lib.decDigits k).length ≤ 20 := by
      rw [Lib.decDigits_length]
      have := Lib.numDigits_eq k (by omega) (by omega); split at this <;> omega
    refine ⟨by show 1 + (Lib.decDigits k).length ≤ _; omega, ?_⟩
    conv => whnf
    refine Fin.flat rfl rfl ⟨?_, rfl⟩
    unfold Lib.itoa
    rw [if_pos h0, show n.natAbs = k by omega]; rfl
  · rw [decide_eq_false h0]
    conv => whnf
    obtain ⟨k, rfl⟩ : ∃ k : Nat, n = k := ⟨n.toNat, by omega⟩
    refine ⟨(k : Int), wrap_u64 (by omega) (by omega), ?_⟩
    conv => whnf
    refine c14_digits (by omega) ?_
    conv => whnf
    refine Fin.flat rfl rfl ⟨?_, rfl⟩
    unfold Lib.itoa
    rw [if_neg h0]; rfl
theorem isDg_iff (c : UInt8) : isDg c = (!decide ((c.toNat : Int) < 48) && !decide ((57 : Int) < c.toNat)) := by
  unfold isDg
  by_cases h1 : (c.toNat : Int) < 48
  · rw [decide_eq_true h1, decide_eq_false (by omega)]; rfl
  · by_cases h2 : (57 : Int) < c.toNat
    · rw [decide_eq_true h2, decide_eq_false (by omega), decide_eq_false h1]; rfl
    · rw [decide_eq_true (by omega), decide_eq_false h2, decide_eq_false h1]; rfl
theorem val_loop (m : Int) (s : List UInt8) (limit : Int) (hs : s.length ≤ 10) (Q : Out → Env → St → Prop) (hbad : s.all isDg = false → ∀ e', get e' 4 = .i .u64 0 → get e' 5 = .b false → Q .ret e' (G0 m)) (hok : s.all isDg = true → ∀ e', get e' 1 = .i .u64 limit → get e' 6 = .i .u64 (valD 0 s : Nat) → Q (.exit 0) e' (G0 m)) :
    ∀ (j k n : Nat), k + j = s.length → n < 10 ^ k → (s.drop k).all isDg = s.all isDg → valD n (s.drop k) = valD 0 s → LoopF (X14 m) [0, 1, 6, 7] c69L0 [(0, .s s), (1, .i .u64 limit), (6, .i .u64 n), (7, .i .i64 k)] (G0 m) Q
  | 0, k, n, hk, hn, ha, hv => by
    have hk' : k = s.length := by omega
    subst hk'
    rw [List.drop_length] at ha hv
    refine LoopF.round tyB_ok (lit := true) ?_
    conv => whnf
    rw [decide_eq_false (show ¬ ((s.length : Nat) : Int) < (s.length : Int) by omega)]
    conv => whnf
    rw [valD_nil] at hv
    subst hv
    exact hok ha.symm _ rfl rfl
  | j + 1, k, n, hk, hn, ha, hv => by
    have hlt : k < s.length := by omega
    have hp : 10 ^ k ≤ 10 ^ 9 := Nat.pow_le_pow_right (by decide) (by omega)
    have hp9 : (10 : Nat) ^ 9 = 1000000000 := by decide
    have hp1 : 10 ^ (k + 1) = 10 ^ k * 10 := Nat.pow_succ 10 k
    rw [List.drop_eq_getElem_cons hlt] at ha hv
    rw [valD_cons] at hv
    rw [List.all_cons, isDg_iff] at ha
    refine LoopF.round tyB_ok (lit := true) ?_
    conv => whnf
    rw [decide_eq_true (show ((k : Nat) : Int) < (s.length : Int) by omega)]
    conv => whnf
    refine ⟨k, s[k], rfl, List.getElem?_eq_getElem hlt, ?_⟩
    conv => whnf
    have hc256 : (s[k]).toNat < 256 := (s[k]).toNat_lt
    cases h1 : decide (((s[k]).toNat : Int) < 48) with
    | true =>
      rw [h1] at ha
      conv => whnf
      exact hbad (by rw [← ha]; rfl) _ rfl rfl
    | false =>
      conv => whnf
      refine ⟨k, s[k], rfl, List.getElem?_eq_getElem hlt, ?_⟩
      conv => whnf
      cases h2 : decide ((57 : Int) < (s[k]).toNat) with
      | true =>
        rw [h1, h2] at ha
        conv => whnf
        exact hbad (by rw [← ha]; rfl) _ rfl rfl
      | false =>
        rw [h1, h2] at ha
        have h1' := of_decide_eq_false h1
        have h2' := of_decide_eq_false h2
        conv => whnf
        refine ⟨_, wrap_u64 (by omega) (by omega), ?_⟩
        conv => whnf
        refine ⟨k, s[k], rfl, List.getElem?_eq_getElem hlt, ?_⟩
        conv => whnf
        refine ⟨_, wrap_u8 (by omega) (by omega), ?_⟩
        conv => whnf
        refine ⟨_, wrap_u64 (by omega) (by omega), ?_⟩
        conv => whnf
        refine ⟨((10 * n + ((s[k]).toNat - 48) : Nat) : Int), (wrap_u64 (by omega) (by omega)).trans (by omega), ?_⟩
        conv => whnf
        refine ⟨((k + 1 : Nat) : Int), (wrap_i64 (by omega) (by omega)).trans (by omega), ?_⟩
        conv => whnf
        exact val_loop m s limit hs Q hbad hok j (k + 1) (10 * n + ((s[k]).toNat - 48)) (by omega) (by omega) (by rw [← ha]; rfl) hv
def valI (x : Nat × Bool) : AV := .tu [.i .u64 x.1, .b x.2]
theorem value_to (m : Int) (s : List UInt8) (limit : Nat) (hs : s.length ≤ 281474976710656) : CallF (X14 m) 69 [.s s, .i .u64 limit] (G0 m) fun r σ => r = valI (valueR s limit) ∧ σ = G0 m := by
  refine CallF.body (F := F69) tyB_ok (lit := true) rfl rfl (Nat.le_of_ble_eq_true rfl) ?_
  rcases s with _ | ⟨c, t⟩
  · conv => whnf
    exact Fin.flat rfl rfl ⟨rfl, rfl⟩
  conv => whnf
  have hlen : (c :: t).length = t.length + 1 := rfl
  by_cases h1 : 10 < (c :: t).length
  · rw [decide_eq_true (show (10 : Int) < ((c :: t).length : Int) by omega)]
    conv => whnf
    refine Fin.flat rfl rfl ⟨?_, rfl⟩
    unfold valueR
    rw [if_pos (.inr (.inl h1))]; rfl
  rw [decide_eq_false (show ¬ (10 : Int) < ((c :: t).length : Int) by omega)]
  conv => whnf
  by_cases h2 : 1 < (c :: t).length
  · rw [decide_eq_true (show (1 : Int) < ((c :: t).length : Int) by omega)]
    conv => whnf
    refine ⟨0, c, rfl, rfl, ?_⟩
    conv => whnf
    by_cases h3 : c = 48
    · subst h3
      conv => whnf
      refine Fin.flat rfl rfl ⟨?_, rfl⟩
      unfold valueR
      rw [if_pos (.inr (.inr ⟨h2, rfl⟩))]; rfl
    · rw [decide_eq_false (show ¬ ((c.toNat : Nat) : Int) = 48 from fun e => h3 (UInt8.toNat_inj.1 (by show c.toNat = 48; omega)))]
      conv => whnf
      have hnot : ¬ (c :: t = [] ∨ 10 < (c :: t).length ∨ (1 < (c :: t).length ∧ (c :: t).head? = some 48)) := by
        rintro (h | h | ⟨_, h⟩)
        · cases h
        · exact h1 h
        · exact h3 (Option.some.inj h)
      refine val_loop m (c :: t) limit (by omega) _ (fun ha e' g4 g5 => ?_) (fun ha e' g1 g6 => ?_) (c :: t).length 0 0 (by omega) (by decide) rfl rfl
      · conv => whnf
        rw [g4]
        conv => whnf
        rw [g5]
        conv => whnf
        refine Fin.flat rfl rfl ⟨?_, rfl⟩
        unfold valueR
        rw [if_neg hnot, if_neg (by rw [ha]; decide)]; rfl
      · have hv : valueR (c :: t) limit = (valD 0 (c :: t), decide (valD 0 (c :: t) < limit)) := by
          unfold valueR
          rw [if_neg hnot, if_pos ha]
        rw [hv]
        conv => whnf
        rw [g1]
        conv => whnf
        rw [g6]
        conv => whnf
        have hcast : decide (((valD 0 (c :: t) : Nat) : Int) < (limit : Int)) = decide (valD 0 (c :: t) < limit) := by
          by_cases hh : valD 0 (c :: t) < limit
          · rw [decide_eq_true hh, decide_eq_true (by omega)]
          · rw [decide_eq_false hh, decide_eq_false (by omega)]
        rw [hcast]
        cases decide (valD 0 (c :: t) < limit) with
        | true => conv => whnf
                  exact Fin.flat rfl rfl ⟨rfl, rfl⟩
        | false => conv => whnf
                   exact Fin.flat rfl rfl ⟨rfl, rfl⟩
  · rw [decide_eq_false (show ¬ (1 : Int) < ((c :: t).length : Int) by omega)]
    conv => whnf
    have hnot : ¬ (c :: t = [] ∨ 10 < (c :: t).length ∨ (1 < (c :: t).length ∧ (c :: t).head? = some 48)) := by
      rintro (h | h | ⟨h, _⟩)
      · cases h
      · exact h1 h
      · exact h2 h
    refine val_loop m (c :: t) limit (by omega) _ (fun ha e' g4 g5 => ?_) (fun ha e' g1 g6 => ?_) (c :: t).length 0 0 (by omega) (by decide) rfl rfl
    · conv => whnf
      rw [g4]
      conv => whnf
      rw [g5]
      conv => whnf
      refine Fin.flat rfl rfl ⟨?_, rfl⟩
      unfold valueR
      rw [if_neg hnot, if_neg (by rw [ha]; decide)]; rfl
    · have hv : valueR (c :: t) limit = (valD 0 (c :: t), decide (valD 0 (c :: t) < limit)) := by
        unfold valueR
        rw [if_neg hnot, if_pos ha]
      rw [hv]
      conv => whnf
      rw [g1]
      conv => whnf
      rw [g6]
      conv => whnf
      have hcast : decide (((valD 0 (c :: t) : Nat) : Int) < (limit : Int)) = decide (valD 0 (c :: t) < limit) := by
        by_cases hh : valD 0 (c :: t) < limit
        · rw [decide_eq_true hh, decide_eq_true (by omega)]
        · rw [decide_eq_false hh, decide_eq_false (by omega)]
      rw [hcast]
      cases decide (valD 0 (c :: t) < limit) with
      | true => conv => whnf
                exact Fin.flat rfl rfl ⟨rfl, rfl⟩
      | false => conv => whnf
                 exact Fin.flat rfl rfl ⟨rfl, rfl⟩
def lawSigned (m : Int) : Law (X14 m) (G0 m) := ⟨39, fun | [.i .i64 n] => if -1099511627776 ≤ n ∧ n ≤ 1099511627776 then some (.s (Lib.itoa n)) else none | _ => none, fun args v h => by
  split at h
  · split at h
    · rename_i hl; cases h; exact ⟨rfl, rfl, signed_to m _ hl.1 hl.2⟩
    · cases h
  · cases h⟩
def lawValue (m : Int) : Law (X14 m) (G0 m) := ⟨69, fun | [.s l, .i .u64 (Int.ofNat n)] => if l.length ≤ 281474976710656 then some (valI (valueR l n)) else none | _ => none, fun args v h => by
  split at h
  · split at h
    · rename_i hl; cases h; exact ⟨rfl, rfl, value_to m _ _ hl⟩
    · cases h
  · cases h⟩
@[reducible] noncomputable def X15 (m : Int) : Ctx := (X14 m).knows (G0 m) [lawSigned m, lawValue m]
theorem X15_sound (m : Int) : (X15 m).Sound 11 := Ctx.knows_sound (X14_sound m) (okG0 m) _
theorem c15_value {m : Int} {l : List UInt8} {n : Nat} {σ : St} {Q : AV → St → Prop} (hl : l.length ≤ 281474976710656) (ht : σ.take 11 = G0 m) (q : Q (valI (valueR l n)) σ) : CallF (X15 m) 69 [.s l, .i .u64 n] σ Q :=
  CallF.law (lawValue m) rfl (if_pos hl) ht q
theorem value_small (l : List UInt8) (limit : Nat) : (valueR l limit).1 < 10000000000 := by
  unfold valueR
  split
  · decide
  · rename_i h
    split
    · rename_i hd
      have key : ∀ (l : List UInt8) (acc : Nat), l.all isDg = true → valD acc l < (acc + 1) * 10 ^ l.length := by
        intro l
        induction l with
        | nil => intro acc _; rw [valD_nil]; simp
        | cons c l ih =>
          intro acc hd
          rw [List.all_cons, Bool.and_eq_true] at hd
          rw [valD_cons, List.length_cons, Nat.pow_succ]
          have h1 := ih (10 * acc + (c.toNat - 48)) hd.2
          have h2 : c.toNat ≤ 57 := by have := hd.1; unfold isDg at this; have := of_decide_eq_true this; omega
          have h3 : (10 * acc + (c.toNat - 48) + 1) * 10 ^ l.length ≤ ((acc + 1) * 10) * 10 ^ l.length := Nat.mul_le_mul_right _ (by omega)
          have h4 : ((acc + 1) * 10) * 10 ^ l.length = (acc + 1) * (10 ^ l.length * 10) := by rw [Nat.mul_assoc, Nat.mul_comm 10]
          omega
      have h1 := key l 0 hd
      have h2 : l.length ≤ 10 := by have := fun e => h (.inr (.inl e)); omega
      have h3 : 10 ^ l.length ≤ 10 ^ 10 := Nat.pow_le_pow_right (by decide) h2
      have h4 : (10 : Nat) ^ 10 = 10000000000 := by decide
      show valD 0 l < _
      omega
    · decide
def regR (l : List UInt8) : Nat × Bool := if l.length < 2 ∨ l.head? ≠ some 99 then (0, false) else valueR l.tail 16
theorem rreg_to (m : Int) (s : List UInt8) (hs : s.length ≤ 281474976710656) : CallF (X15 m) 71 [.s s] (G0 m) fun r σ => r = .tu [.i .i64 (regR s).1, .b (regR s).2] ∧ σ = G0 m := by
  refine CallF.body (F := F71) tyB_ok (lit := true) rfl rfl (Nat.le_of_ble_eq_true rfl) ?_
  rcases s with _ | ⟨c, t⟩
  · conv => whnf
    exact Fin.flat rfl rfl ⟨rfl, rfl⟩
  conv => whnf
  have hlen : (c :: t).length = t.length + 1 := rfl
  by_cases h1 : (c :: t).length < 2
  · rw [decide_eq_true (show ((c :: t).length : Int) < 2 by omega)]
    conv => whnf
    refine Fin.flat rfl rfl ⟨?_, rfl⟩
    unfold regR; rw [if_pos (.inl h1)]; rfl
  rw [decide_eq_false (show ¬ ((c :: t).length : Int) < 2 by omega)]
  conv => whnf
  refine ⟨0, c, rfl, rfl, ?_⟩
  conv => whnf
  by_cases h2 : c = 99
  · subst h2
    have hR : regR (99 :: t) = valueR t 16 := by unfold regR; rw [if_neg (by rintro (h | h); exact h1 h; exact h rfl)]; rfl
    rw [hR]
    conv => whnf
    refine ⟨1, rfl, by omega, ?_⟩
    conv => whnf
    refine c15_value (l := t) (n := 16) (by omega) rfl ?_
    have hv := value_small t 16
    generalize valueR t 16 = x at hv ⊢
    obtain ⟨x, b⟩ := x
    simp only at hv
    cases b
    all_goals
      conv => whnf
      refine ⟨(x : Int), wrap_i64 (by omega) (by omega), ?_⟩
      conv => whnf
      exact Fin.flat rfl rfl ⟨rfl, rfl⟩
  · rw [decide_eq_false (show ¬ ((c.toNat : Nat) : Int) = 99 from fun e => h2 (UInt8.toNat_inj.1 (by show c.toNat = 99; omega)))]
    conv => whnf
    refine Fin.flat rfl rfl ⟨?_, rfl⟩
    unfold regR; rw [if_pos (.inr (fun e => h2 (Option.some.inj e)))]; rfl
theorem rnum_to (m : Int) (s : List UInt8) (hs : s.length ≤ 281474976710656) : CallF (X15 m) 72 [.s s] (G0 m) fun r σ => r = .tu [.i .i64 (numberR s).1, .b (numberR s).2] ∧ σ = G0 m := by
  refine CallF.body (F := F72) tyB_ok (lit := true) rfl rfl (Nat.le_of_ble_eq_true rfl) ?_
  rcases s with _ | ⟨c, t⟩
  · conv => whnf
    refine c15_value (l := []) (n := 4294967296) hs rfl ?_
    conv => whnf
    refine ⟨0, rfl, ?_⟩
    conv => whnf
    exact Fin.flat rfl rfl ⟨rfl, rfl⟩
  conv => whnf
  have hlen : (c :: t).length = t.length + 1 := rfl
  by_cases h1 : 1 < (c :: t).length
  · rw [decide_eq_true (show (1 : Int) < ((c :: t).length : Int) by omega)]
    conv => whnf
    refine ⟨0, c, rfl, rfl, ?_⟩
    conv => whnf
    by_cases h2 : c = 45
    · subst h2
      have hR : numberR (45 :: t) = (-((valueR t 4294967296).1 : Int), (valueR t 4294967296).2 && decide (0 < (valueR t 4294967296).1)) := by unfold numberR; rw [if_pos ⟨h1, rfl⟩]; rfl
      rw [hR]
      conv => whnf
      refine ⟨1, rfl, by omega, ?_⟩
      conv => whnf
      refine c15_value (l := t) (n := 4294967296) (by omega) rfl ?_
      have hv := value_small t 4294967296
      generalize valueR t 4294967296 = x at hv ⊢
      obtain ⟨x, b⟩ := x
      simp only at hv
      have hcast : decide ((0 : Int) < (x : Int)) = decide (0 < x) := by
        by_cases hh : 0 < x
        · rw [decide_eq_true hh, decide_eq_true (by omega)]
        · rw [decide_eq_false hh, decide_eq_false (by omega)]
      have hneg : (0 : Int) - x = -(x : Int) := by omega
      cases b with
      | false =>
        conv => whnf
        refine ⟨(x : Int), wrap_i64 (by omega) (by omega), ?_⟩
        conv => whnf
        refine ⟨-(x : Int), (wrap_i64 (by omega) (by omega)).trans hneg, ?_⟩
        conv => whnf
        exact Fin.flat rfl rfl ⟨rfl, rfl⟩
      | true =>
        conv => whnf
        refine ⟨(x : Int), wrap_i64 (by omega) (by omega), ?_⟩
        conv => whnf
        refine ⟨-(x : Int), (wrap_i64 (by omega) (by omega)).trans hneg, ?_⟩
        conv => whnf
        rw [hcast]
        cases decide (0 < x) with
        | true => conv => whnf
                  exact Fin.flat rfl rfl ⟨rfl, rfl⟩
        | false => conv => whnf
                   exact Fin.flat rfl rfl ⟨rfl, rfl⟩
    · rw [decide_eq_false (show ¬ ((c.toNat : Nat) : Int) = 45 from fun e => h2 (UInt8.toNat_inj.1 (by show c.toNat = 45; omega)))]
      conv => whnf
      have hno : ¬ (1 < (c :: t).length ∧ (c :: t).head? = some 45) := fun e => h2 (Option.some.inj e.2)
      refine c15_value (l := c :: t) (n := 4294967296) hs rfl ?_
      have hv := value_small (c :: t) 4294967296
      have hR : numberR (c :: t) = (((valueR (c :: t) 4294967296).1 : Int), (valueR (c :: t) 4294967296).2) := by unfold numberR; rw [if_neg hno]
      rw [hR]
      generalize valueR (c :: t) 4294967296 = x at hv ⊢
      obtain ⟨x, b⟩ := x
      simp only at hv
      cases b
      all_goals
        conv => whnf
        refine ⟨(x : Int), wrap_i64 (by omega) (by omega), ?_⟩
        conv => whnf
        exact Fin.flat rfl rfl ⟨rfl, rfl⟩
  · rw [decide_eq_false (show ¬ (1 : Int) < ((c :: t).length : Int) by omega)]
    conv => whnf
    have hno : ¬ (1 < (c :: t).length ∧ (c :: t).head? = some 45) := fun e => h1 e.1
    refine c15_value (l := c :: t) (n := 4294967296) hs rfl ?_
    have hv := value_small (c :: t) 4294967296
    have hR : numberR (c :: t) = (((valueR (c :: t) 4294967296).1 : Int), (valueR (c :: t) 4294967296).2) := by unfold numberR; rw [if_neg hno]
    rw [hR]
    generalize valueR (c :: t) 4294967296 = x at hv ⊢
    obtain ⟨x, b⟩ := x
    simp only at hv
    cases b
    all_goals
      conv => whnf
      refine ⟨(x : Int), wrap_i64 (by omega) (by omega), ?_⟩
      conv => whnf
      exact Fin.flat rfl rfl ⟨rfl, rfl⟩
theorem rjumps_to (m op : Int) : CallF (X15 m) 73 [.i .i64 op] (G0 m) fun v s => v = .b (jumpB op) ∧ s = G0 m := by
  refine CallF.body (F := F73) tyB_ok (lit := true) rfl rfl (Nat.le_of_ble_eq_true rfl) ?_
  unfold jumpB
  conv => whnf
  cases h0 : decide (op = 25) with
  | true => conv => whnf
            exact Fin.flat rfl rfl ⟨rfl, rfl⟩
  | false =>
  conv => whnf
  cases h1 : decide (op = 26) with
  | true => conv => whnf
            exact Fin.flat rfl rfl ⟨rfl, rfl⟩
  | false =>
  conv => whnf
  cases h2 : decide (op = 27) with
  | true => conv => whnf
            exact Fin.flat rfl rfl ⟨rfl, rfl⟩
  | false =>
  conv => whnf
  cases h3 : decide (op = 28) with
  | true => conv => whnf
            exact Fin.flat rfl rfl ⟨rfl, rfl⟩
  | false =>
  conv => whnf
  cases h4 : decide (op = 29) with
  | true => conv => whnf
            exact Fin.flat rfl rfl ⟨rfl, rfl⟩
  | false =>
  conv => whnf
  exact Fin.flat rfl rfl ⟨rfl, rfl⟩
theorem nameC_eq (c : UInt8) : nameC c = ((decide ((97 : Int) ≤ c.toNat) && decide ((c.toNat : Int) ≤ 122)) || (decide ((48 : Int) ≤ c.toNat) && decide ((c.toNat : Int) ≤ 57)) || decide ((c.toNat : Int) = 95)) := by
  have := u8_all (P := fun c => nameC c == ((decide ((97 : Int) ≤ c.toNat) && decide ((c.toNat : Int) ≤ 122)) || (decide ((48 : Int) ≤ c.toNat) && decide ((c.toNat : Int) ≤ 57)) || decide ((c.toNat : Int) = 95))) (by decide +kernel) c
  simpa using this
theorem digitC_eq (c : UInt8) : digitC c = (decide ((48 : Int) ≤ c.toNat) && decide ((c.toNat : Int) ≤ 57)) := by
  have := u8_all (P := fun c => digitC c == (decide ((48 : Int) ≤ c.toNat) && decide ((c.toNat : Int) ≤ 57))) (by decide +kernel) c
  simpa using this
theorem rname_loop (m : Int) (s : List UInt8) (hs : s.length ≤ 32) (Q : Out → Env → St → Prop) (hbad : s.all nameC = false → ∀ e', get e' 2 = .b false → Q .ret e' (G0 m)) (hok : s.all nameC = true → ∀ e', Q (.exit 0) e' (G0 m)) :
    ∀ (j k : Nat), k + j = s.length → (s.drop k).all nameC = s.all nameC → LoopF (X15 m) [0, 3] c58L0 [(0, .s s), (3, .i .i64 k)] (G0 m) Q
  | 0, k, hk, ha => by
    have hk' : k = s.length := by omega
    subst hk'
    rw [List.drop_length] at ha
    refine LoopF.round tyB_ok (lit := true) ?_
    conv => whnf
    rw [decide_eq_false (show ¬ ((s.length : Nat) : Int) < (s.length : Int) by omega)]
    conv => whnf
    exact hok ha.symm _
  | j + 1, k, hk, ha => by
    have hlt : k < s.length := by omega
    rw [List.drop_eq_getElem_cons hlt, List.all_cons, nameC_eq] at ha
    refine LoopF.round tyB_ok (lit := true) ?_
    conv => whnf
    rw [decide_eq_true (show ((k : Nat) : Int) < (s.length : Int) by omega)]
    conv => whnf
    refine ⟨k, s[k], rfl, List.getElem?_eq_getElem hlt, ?_⟩
    conv => whnf
    have hgo : (s.drop (k + 1)).all nameC = s.all nameC → ∃ r, IntKind.i64.wrap ((k : Int) + 1) = r ∧ LoopF (X15 m) [0, 3] c58L0 [(0, .s s), (3, .i .i64 r)] (G0 m) Q := fun h =>
      ⟨((k + 1 : Nat) : Int), (wrap_i64 (by omega) (by omega)).trans (by omega), rname_loop m s hs Q hbad hok j (k + 1) (by omega) h⟩
    cases h1 : decide ((97 : Int) ≤ (s[k]).toNat) <;> cases h2 : decide (((s[k]).toNat : Int) ≤ 122) <;> cases h3 : decide ((48 : Int) ≤ (s[k]).toNat) <;> cases h4 : decide (((s[k]).toNat : Int) ≤ 57) <;> cases h5 : decide (((s[k]).toNat : Int) = 95)
    all_goals
      rw [h1, h2, h3, h4, h5] at ha
      try rw [h1]
      conv => whnf
      try (rw [h2]; conv => whnf)
      try (rw [h3]; conv => whnf)
      try (rw [h4]; conv => whnf)
      try (rw [h5]; conv => whnf)
      first
      | exact hbad (by rw [← ha]; rfl) _ rfl
      | exact hgo (by rw [← ha]; rfl)
end Go.Abs.YtkfcbgmamfnajaaGreatDoor
/- The document's asm: a word's text. -/
namespace Go.Abs.YtkfcbgmamfnajaaGreatDoor
open Go.Proofs
set_option maxRecDepth 4000
theorem rlab_to (m : Int) (s : List UInt8) (hs : s.length ≤ 281474976710656) : CallF (X15 m) 58 [.s s] (G0 m) fun r σ => r = .b (nameL s) ∧ σ = G0 m := by
  refine CallF.body (F := F58) tyB_ok (lit := true) rfl rfl (Nat.le_of_ble_eq_true rfl) ?_
  rcases s with _ | ⟨c, t⟩
  · conv => whnf
    exact Fin.flat rfl rfl ⟨rfl, rfl⟩
  conv => whnf
  have hlen : (c :: t).length = t.length + 1 := rfl
  have hone : decide (1 ≤ (c :: t).length) = true := decide_eq_true (by omega)
  by_cases h1 : 32 < (c :: t).length
  · rw [decide_eq_true (show (32 : Int) < ((c :: t).length : Int) by omega)]
    conv => whnf
    refine Fin.flat rfl rfl ⟨?_, rfl⟩
    unfold nameL
    rw [decide_eq_false (show ¬ (c :: t).length ≤ 32 by omega), Bool.and_false]; rfl
  rw [decide_eq_false (show ¬ (32 : Int) < ((c :: t).length : Int) by omega)]
  conv => whnf
  refine ⟨0, c, rfl, rfl, ?_⟩
  conv => whnf
  cases h2 : decide ((48 : Int) ≤ c.toNat) with
  | false =>
    conv => whnf
    have hd : digitC c = false := by rw [digitC_eq, h2]; rfl
    have hv : nameL (c :: t) = (c :: t).all nameC := by
      unfold nameL
      rw [hone, decide_eq_true (show (c :: t).length ≤ 32 by omega), show (c :: t).headD 0 = c from rfl, hd]
      simp
    rw [hv]
    refine rname_loop m (c :: t) (by omega) _ (fun ha e' g => ?_) (fun ha e' => ?_) (c :: t).length 0 (by omega) rfl
    · conv => whnf
      rw [g]
      conv => whnf
      exact Fin.flat rfl rfl ⟨by rw [ha], rfl⟩
    · conv => whnf
      exact Fin.flat rfl rfl ⟨by rw [ha], rfl⟩
  | true =>
    conv => whnf
    refine ⟨0, c, rfl, rfl, ?_⟩
    conv => whnf
    cases h3 : decide ((c.toNat : Int) ≤ 57) with
    | true =>
      conv => whnf
      have hd : digitC c = true := by rw [digitC_eq, h2, h3]; rfl
      refine Fin.flat rfl rfl ⟨?_, rfl⟩
      unfold nameL
      rw [show (c :: t).headD 0 = c from rfl, hd]; simp
    | false =>
      conv => whnf
      have hd : digitC c = false := by rw [digitC_eq, h2, h3]; rfl
      have hv : nameL (c :: t) = (c :: t).all nameC := by
        unfold nameL
        rw [hone, decide_eq_true (show (c :: t).length ≤ 32 by omega), show (c :: t).headD 0 = c from rfl, hd]
        simp
      rw [hv]
      refine rname_loop m (c :: t) (by omega) _ (fun ha e' g => ?_) (fun ha e' => ?_) (c :: t).length 0 (by omega) rfl
      · conv => whnf
        rw [g]
        conv => whnf
        exact Fin.flat rfl rfl ⟨by rw [ha], rfl⟩
      · conv => whnf
        exact Fin.flat rfl rfl ⟨by rw [ha], rfl⟩
def lawRReg (m : Int) : Law (X15 m) (G0 m) := ⟨71, fun | [.s l] => if l.length ≤ 281474976710656 then some (.tu [.i .i64 (regR l).1, .b (regR l).2]) else none | _ => none, fun args v h => by
  split at h
  · split at h
    · rename_i hl; cases h; exact ⟨rfl, rfl, rreg_to m _ hl⟩
    · cases h
  · cases h⟩
def lawRNum (m : Int) : Law (X15 m) (G0 m) := ⟨72, fun | [.s l] => if l.length ≤ 281474976710656 then some (.tu [.i .i64 (numberR l).1, .b (numberR l).2]) else none | _ => none, fun args v h => by
  split at h
  · split at h
    · rename_i hl; cases h; exact ⟨rfl, rfl, rnum_to m _ hl⟩
    · cases h
  · cases h⟩
def lawRLab (m : Int) : Law (X15 m) (G0 m) := ⟨58, fun | [.s l] => if l.length ≤ 281474976710656 then some (.b (nameL l)) else none | _ => none, fun args v h => by
  split at h
  · split at h
    · rename_i hl; cases h; exact ⟨rfl, rfl, rlab_to m _ hl⟩
    · cases h
  · cases h⟩
def lawRJumps (m : Int) : Law (X15 m) (G0 m) := ⟨73, fun | [.i .i64 op] => some (.b (jumpB op)) | _ => none, fun args v h => by
  split at h
  · cases h; exact ⟨rfl, rfl, rjumps_to m _⟩
  · cases h⟩
@[reducible] noncomputable def X16 (m : Int) : Ctx := (X15 m).knows (G0 m) [lawRReg m, lawRNum m, lawRLab m, lawRJumps m]
theorem X16_sound (m : Int) : (X16 m).Sound 11 := Ctx.knows_sound (X15_sound m) (okG0 m) _
theorem c16_dec {m w : Int} {σ : St} {Q : AV → St → Prop} (hw : 0 ≤ w ∧ w < 4294967296) (ht : σ.take 11 = G0 m) (q : Q (insO (decR w)) σ) : CallF (X16 m) 35 [.i .u32 w] σ Q :=
  CallF.under rfl rfl (CallF.under rfl rfl (CallF.underA rfl rfl (CallF.law (lawRDec m) rfl (if_pos hw) ht q)))
theorem c16_enc {m op a b c i : Int} {σ : St} {Q : AV → St → Prop} (ht : σ.take 11 = G0 m) (q : Q (.tu [.i .u32 (encR op a b c i).1, .i .i64 (encR op a b c i).2]) σ) : CallF (X16 m) 60 [.ag [.i .i64 op, .i .i64 a, .i .i64 b, .i .i64 c, .i .i64 i]] σ Q :=
  CallF.under rfl rfl (CallF.under rfl rfl (CallF.underA rfl rfl (CallF.under rfl rfl (CallF.law (lawREnc m) rfl rfl ht q))))
theorem c16_name {m op : Int} {σ : St} {Q : AV → St → Prop} (ht : σ.take 11 = G0 m) (q : Q (.s (nameI op)) σ) : CallF (X16 m) 37 [.i .i64 op] σ Q :=
  CallF.under rfl rfl (CallF.under rfl rfl (CallF.underA rfl rfl (CallF.under rfl rfl (CallF.under rfl rfl (CallF.under rfl rfl (CallF.under rfl rfl (CallF.under rfl rfl (CallF.law (lawRName m) rfl rfl ht q))))))))
theorem c16_form {m op : Int} {σ : St} {Q : AV → St → Prop} (ht : σ.take 11 = G0 m) (q : Q (.s (formI op)) σ) : CallF (X16 m) 38 [.i .i64 op] σ Q :=
  CallF.under rfl rfl (CallF.under rfl rfl (CallF.underA rfl rfl (CallF.under rfl rfl (CallF.under rfl rfl (CallF.under rfl rfl (CallF.under rfl rfl (CallF.under rfl rfl (CallF.law (lawRForm m) rfl rfl ht q))))))))
theorem c16_op {m : Int} {l : List UInt8} {σ : St} {Q : AV → St → Prop} (ht : σ.take 11 = G0 m) (q : Q (.i .i64 (opOf l)) σ) : CallF (X16 m) 70 [.s l] σ Q :=
  CallF.under rfl rfl (CallF.under rfl rfl (CallF.underA rfl rfl (CallF.under rfl rfl (CallF.under rfl rfl (CallF.under rfl rfl (CallF.under rfl rfl (CallF.law (lawROp m) rfl rfl ht q)))))))
theorem c16_digits {m : Int} {n : Nat} {σ : St} {Q : AV → St → Prop} (h : n < 18446744073709551616) (q : Q (.s (Lib.decDigits n)) σ) : CallF (X16 m) 36 [.i .u64 n] σ Q :=
  CallF.prim (g := pDigits) rfl (by simp only [pDigits]; rw [if_pos ⟨by omega, by omega⟩, Int.toNat_natCast]) q
theorem c16_signed {m n : Int} {σ : St} {Q : AV → St → Prop} (hn : -1099511627776 ≤ n ∧ n ≤ 1099511627776) (ht : σ.take 11 = G0 m) (q : Q (.s (Lib.itoa n)) σ) : CallF (X16 m) 39 [.i .i64 n] σ Q :=
  CallF.under rfl rfl (CallF.law (lawSigned m) rfl (if_pos hn) ht q)
theorem c16_value {m : Int} {l : List UInt8} {n : Nat} {σ : St} {Q : AV → St → Prop} (hl : l.length ≤ 281474976710656) (ht : σ.take 11 = G0 m) (q : Q (valI (valueR l n)) σ) : CallF (X16 m) 69 [.s l, .i .u64 n] σ Q :=
  CallF.under rfl rfl (CallF.law (lawValue m) rfl (if_pos hl) ht q)
def tailP (d : DS) (l : List UInt8) : List UInt8 := l.flatMap fun ch => 32 :: fieldT d ch
def PS (m op : Int) (d : DS) : St := G0 m ++ [⟨0, false, .cells 45 (cellsI op d)⟩]
def okDS (d : DS) : Prop := (0 ≤ d.a ∧ d.a ≤ 15) ∧ (0 ≤ d.b ∧ d.b ≤ 15) ∧ (0 ≤ d.c ∧ d.c ≤ 15) ∧ -524288 ≤ d.i ∧ d.i ≤ 524287
theorem itoa_nat (k : Nat) : Lib.itoa (k : Int) = Lib.decDigits k := by unfold Lib.itoa; rw [if_neg (by omega)]; rfl
theorem itoa_len {n : Int} (h : -1099511627776 ≤ n ∧ n ≤ 1099511627776) : (Lib.itoa n).length ≤ 21 := Lib.itoa_length_le n (by omega) (by omega)
theorem rprint_loop (m op : Int) (d : DS) (hd : okDS d) (l R : List UInt8) (hl : l.length ≤ 3) (hm : ∀ ch ∈ l, ch = 97 ∨ ch = 98 ∨ ch = 99 ∨ ch = 105 ∨ ch = 106) (Q : Out → Env → St → Prop) (q : ∀ e', get e' 4 = .s R → Q (.exit 0) e' (PS m op d)) :
    ∀ (j k : Nat) (acc : List UInt8), k + j = l.length → acc.length ≤ 100 + 30 * k → acc ++ tailP d (l.drop k) = R → LoopF (X16 m) [3, 4, 5, 6] c14L0 [(3, .p 11 0 0), (4, .s acc), (5, .s l), (6, .i .i64 k)] (PS m op d) Q
  | 0, k, acc, hk, ha, hR => by
    have hk' : k = l.length := by omega
    subst hk'
    rw [List.drop_length] at hR
    refine LoopF.round tyB_ok (lit := true) ?_
    conv => whnf
    rw [decide_eq_false (show ¬ ((l.length : Nat) : Int) < (l.length : Int) by omega)]
    conv => whnf
    exact q _ (by rw [← hR]; show AV.s acc = AV.s (acc ++ []); rw [List.append_nil])
  | j + 1, k, acc, hk, ha, hR => by
    have hlt : k < l.length := by omega
    have hmk := hm _ (List.getElem_mem hlt)
    rw [List.drop_eq_getElem_cons hlt] at hR
    have hR2 : (acc ++ 32 :: fieldT d l[k]) ++ tailP d (l.drop (k + 1)) = R := by rw [← hR]; unfold tailP; rw [List.flatMap_cons, ← List.append_assoc]
    have hc : l[k]? = some l[k] := List.getElem?_eq_getElem hlt
    obtain ⟨ba, bb, bc, bi⟩ := hd
    refine LoopF.round tyB_ok (lit := true) ?_
    conv => whnf
    rw [decide_eq_true (show ((k : Nat) : Int) < (l.length : Int) by omega)]
    conv => whnf
    refine ⟨k, l[k], rfl, hc, ?_⟩
    generalize l[k] = ch at hmk hR2
    rcases hmk with rfl | rfl | rfl | rfl | rfl
    · conv => whnf
      refine ⟨by show acc.length + 2 ≤ _; omega, ?_⟩
      conv => whnf
      obtain ⟨n, hn⟩ : ∃ n : Nat, d.a = n := ⟨d.a.toNat, by omega⟩
      refine ⟨(n : Int), by rw [hn]; exact wrap_u64 (by omega) (by omega), ?_⟩
      conv => whnf
      refine c16_digits (by omega) ?_
      conv => whnf
      have h20 : (Lib.itoa (n : Int)).length ≤ 21 := itoa_len (by omega)
      rw [itoa_nat] at h20
      refine ⟨by show (acc ++ [32, 99]).length + (Lib.decDigits n).length ≤ _; rw [List.length_append]; simp only [List.length_cons, List.length_nil]; omega, ?_⟩
      conv => whnf
      refine ⟨((k + 1 : Nat) : Int), (wrap_i64 (by omega) (by omega)).trans (by omega), ?_⟩
      conv => whnf
      exact rprint_loop m op d ⟨ba, bb, bc, bi⟩ l R hl hm Q q j (k + 1) _ (by omega) (by rw [List.length_append, List.length_append]; simp only [List.length_cons, List.length_nil]; omega) (by rw [← hR2]; show (acc ++ [32, 99] ++ Lib.decDigits n) ++ _ = (acc ++ 32 :: 99 :: Lib.itoa d.a) ++ _; rw [hn, itoa_nat]; simp)
    · conv => whnf
      refine ⟨by show acc.length + 2 ≤ _; omega, ?_⟩
      conv => whnf
      obtain ⟨n, hn⟩ : ∃ n : Nat, d.b = n := ⟨d.b.toNat, by omega⟩
      refine ⟨(n : Int), by rw [hn]; exact wrap_u64 (by omega) (by omega), ?_⟩
      conv => whnf
      refine c16_digits (by omega) ?_
      conv => whnf
      have h20 : (Lib.itoa (n : Int)).length ≤ 21 := itoa_len (by omega)
      rw [itoa_nat] at h20
      refine ⟨by show (acc ++ [32, 99]).length + (Lib.decDigits n).length ≤ _; rw [List.length_append]; simp only [List.length_cons, List.length_nil]; omega, ?_⟩
      conv => whnf
      refine ⟨((k + 1 : Nat) : Int), (wrap_i64 (by omega) (by omega)).trans (by omega), ?_⟩
      conv => whnf
      exact rprint_loop m op d ⟨ba, bb, bc, bi⟩ l R hl hm Q q j (k + 1) _ (by omega) (by rw [List.length_append, List.length_append]; simp only [List.length_cons, List.length_nil]; omega) (by rw [← hR2]; show (acc ++ [32, 99] ++ Lib.decDigits n) ++ _ = (acc ++ 32 :: 99 :: Lib.itoa d.b) ++ _; rw [hn, itoa_nat]; simp)
    · conv => whnf
      refine ⟨by show acc.length + 2 ≤ _; omega, ?_⟩
      conv => whnf
      obtain ⟨n, hn⟩ : ∃ n : Nat, d.c = n := ⟨d.c.toNat, by omega⟩
      refine ⟨(n : Int), by rw [hn]; exact wrap_u64 (by omega) (by omega), ?_⟩
      conv => whnf
      refine c16_digits (by omega) ?_
      conv => whnf
      have h20 : (Lib.itoa (n : Int)).length ≤ 21 := itoa_len (by omega)
      rw [itoa_nat] at h20
      refine ⟨by show (acc ++ [32, 99]).length + (Lib.decDigits n).length ≤ _; rw [List.length_append]; simp only [List.length_cons, List.length_nil]; omega, ?_⟩
      conv => whnf
      refine ⟨((k + 1 : Nat) : Int), (wrap_i64 (by omega) (by omega)).trans (by omega), ?_⟩
      conv => whnf
      exact rprint_loop m op d ⟨ba, bb, bc, bi⟩ l R hl hm Q q j (k + 1) _ (by omega) (by rw [List.length_append, List.length_append]; simp only [List.length_cons, List.length_nil]; omega) (by rw [← hR2]; show (acc ++ [32, 99] ++ Lib.decDigits n) ++ _ = (acc ++ 32 :: 99 :: Lib.itoa d.c) ++ _; rw [hn, itoa_nat]; simp)
    · conv => whnf
      refine ⟨by show acc.length + 1 ≤ _; omega, ?_⟩
      conv => whnf
      refine c16_signed (by omega) rfl ?_
      conv => whnf
      have h20 : (Lib.itoa d.i).length ≤ 21 := itoa_len (by omega)
      refine ⟨by show (acc ++ [32]).length + (Lib.itoa d.i).length ≤ _; rw [List.length_append]; simp only [List.length_cons, List.length_nil]; omega, ?_⟩
      conv => whnf
      refine ⟨((k + 1 : Nat) : Int), (wrap_i64 (by omega) (by omega)).trans (by omega), ?_⟩
      conv => whnf
      exact rprint_loop m op d ⟨ba, bb, bc, bi⟩ l R hl hm Q q j (k + 1) _ (by omega) (by rw [List.length_append, List.length_append]; simp only [List.length_cons, List.length_nil]; omega) (by rw [← hR2]; show (acc ++ [32] ++ Lib.itoa d.i) ++ _ = (acc ++ 32 :: Lib.itoa d.i) ++ _; simp)
    · conv => whnf
      refine ⟨by show acc.length + 1 ≤ _; omega, ?_⟩
      conv => whnf
      refine c16_signed (by omega) rfl ?_
      conv => whnf
      have h20 : (Lib.itoa d.i).length ≤ 21 := itoa_len (by omega)
      refine ⟨by show (acc ++ [32]).length + (Lib.itoa d.i).length ≤ _; rw [List.length_append]; simp only [List.length_cons, List.length_nil]; omega, ?_⟩
      conv => whnf
      refine ⟨((k + 1 : Nat) : Int), (wrap_i64 (by omega) (by omega)).trans (by omega), ?_⟩
      conv => whnf
      exact rprint_loop m op d ⟨ba, bb, bc, bi⟩ l R hl hm Q q j (k + 1) _ (by omega) (by rw [List.length_append, List.length_append]; simp only [List.length_cons, List.length_nil]; omega) (by rw [← hR2]; show (acc ++ [32] ++ Lib.itoa d.i) ++ _ = (acc ++ 32 :: Lib.itoa d.i) ++ _; simp)
theorem join_tail (d : DS) (nm : List UInt8) (l : List UInt8) : Lib.join (nm :: l.map (fieldT d)) [32] = nm ++ tailP d l := by
  rw [Lib.join_cons]
  congr 1
  induction l with
  | nil => rfl
  | cons ch l ih =>
    show Lib.joinTail [32] (fieldT d ch :: l.map (fieldT d)) = _
    have e : ∀ y r, Lib.joinTail [32] (y :: r) = ([32] ++ y) ++ Lib.joinTail [32] r := fun y r => by simp [Lib.joinTail]
    rw [e, ih]
    unfold tailP
    rw [List.flatMap_cons]; rfl
theorem decR_ok {w : Int} (h0 : 0 ≤ w) (h1 : w < 4294967296) : okDS (decR w).2 := by
  rw [← dec_eq h0 h1]
  by_cases h : (decP w).1 = 0
  · have : (decP w).2 = ⟨0, 0, 0, 0⟩ ∨ (decP w).1 ≠ 0 := by
      unfold decP
      split
      · rename_i hc
        right
        have h2 : encR (decO w) (decS w).a (decS w).b (decS w).c (decS w).i = (w, 0) := by rw [← enc_eq]; exact Prod.ext hc.2 hc.1
        have := (enc_uniq h2).2.1
        show decO w ≠ 0
        omega
      · left; rfl
    rcases this with h2 | h2
    · rw [h2]; exact ⟨by decide, by decide, by decide, by decide, by decide⟩
    · exact (h2 h).elim
  · have h2 := enc_dec h0 h1 h
    rw [enc_eq] at h2
    obtain ⟨_, hop, _, _, _⟩ := enc_uniq h2
    have hmr : mayF (formI (decP w).1) (decP w).2.a (decP w).2.b (decP w).2.c (decP w).2.i = true := by
      cases hq : mayF (formI (decP w).1) (decP w).2.a (decP w).2.b (decP w).2.c (decP w).2.i with
      | true => rfl
      | false => rw [encR_no (by rw [mayR_in hop, hq])] at h2; cases h2
    obtain ⟨ba, bb, bc, bi1, bi2, _, _⟩ := may_bounds (formI_cases _) hmr
    exact ⟨ba, bb, bc, bi1, bi2⟩
theorem rprint_to (m w : Int) (h0 : 0 ≤ w) (h1 : w < 4294967296) : CallF (X16 m) 14 [.i .u32 w] (G0 m) fun v s => v = .s (printP w) ∧ s = G0 m := by
  refine CallF.body (F := F14) tyB_ok (lit := true) rfl rfl (Nat.le_of_ble_eq_true rfl) ?_
  conv => whnf
  refine c16_dec ⟨h0, h1⟩ rfl ?_
  unfold printP
  rw [dec_eq h0 h1]
  have hok := decR_ok h0 h1
  generalize decR w = x at hok ⊢
  obtain ⟨op, d⟩ := x
  simp only at hok ⊢
  conv => whnf
  by_cases ho : op = 0
  · rw [if_pos ho, show decide ((op, d).fst = 0) = true from decide_eq_true ho]
    conv => whnf
    obtain ⟨k, rfl⟩ : ∃ k : Nat, w = k := ⟨w.toNat, by omega⟩
    refine ⟨(k : Int), wrap_u64 (by omega) (by omega), ?_⟩
    conv => whnf
    refine c16_digits (by omega) ?_
    conv => whnf
    have hdl := dec_len (n := k) (by omega)
    refine ⟨by show 5 + (Lib.decDigits k).length ≤ _; omega, ?_⟩
    conv => whnf
    refine Fin.flat rfl rfl ⟨?_, rfl⟩
    rw [Int.toNat_natCast, Lib.join_cons]
    have e : ∀ y r, Lib.joinTail [32] (y :: r) = ([32] ++ y) ++ Lib.joinTail [32] r := fun y r => by simp [Lib.joinTail]
    rw [e]
    show AV.s ([119, 111, 114, 100, 32] ++ Lib.decDigits k) = AV.s ([119, 111, 114, 100] ++ (([32] ++ Lib.decDigits k) ++ Lib.joinTail [32] []))
    rw [show Lib.joinTail [32] [] = [] from rfl, List.append_nil]; rfl
  · rw [if_neg ho, show decide ((op, d).fst = 0) = false from decide_eq_false ho]
    conv => whnf
    refine c16_name rfl ?_
    conv => whnf
    refine c16_form rfl ?_
    conv => whnf
    have hfl := form_len op
    obtain ⟨_, hch⟩ := form_small op
    have hnl := name_len op
    rw [join_tail]
    generalize nameI op = nm at hnl ⊢
    generalize formI op = l at hfl hch ⊢
    refine rprint_loop m op d hok l (nm ++ tailP d l) hfl hch _ (fun e' g4 => ?_) l.length 0 nm (by omega) (by omega) rfl
    conv => whnf
    rw [show Opd.ev e' (.t 4) = _ from g4]
    conv => whnf
    exact Fin.flat rfl rfl ⟨rfl, rfl⟩
end Go.Abs.YtkfcbgmamfnajaaGreatDoor
