/- The lexer's small functions: what each comes to. -/
import Derived.Test.YtjphfiieapclhaaDoorCxB
namespace Go.Abs.YtjphfiieapclhaaDoor
open Go.Proofs
set_option maxRecDepth 4000

theorem digit_to (c : Int) (σ : St) : CallF X 45 [.i .u8 c] σ fun v s => v = .b (isDigit c) ∧ s = σ := by
  refine CallF.body (F := F45) tyB_ok (lit := false) rfl rfl (Nat.le_of_ble_eq_true rfl) ?_
  repeat' ((conv => whnf); split)
  all_goals (conv => whnf)
  all_goals exact Fin.flat rfl (List.take_length) ⟨by grind [isDigit], rfl⟩
theorem letter_to (c : Int) (σ : St) : CallF X 44 [.i .u8 c] σ fun v s => v = .b (isLetter c) ∧ s = σ := by
  refine CallF.body (F := F44) tyB_ok (lit := false) rfl rfl (Nat.le_of_ble_eq_true rfl) ?_
  repeat' ((conv => whnf); split)
  all_goals (conv => whnf)
  all_goals exact Fin.flat rfl (List.take_length) ⟨by grind [isLetter], rfl⟩
theorem begins_to (t s : List UInt8) (n : Nat) (j : Int) (hj : j = n) (σ : St) (h1 : n ≤ t.length) (h2 : t.length ≤ 100000) (h3 : s.length ≤ 10) :
    CallF X 43 [.s t, .i .i64 j, .s s] σ fun v s' => v = .b (s.isPrefixOf (t.drop n)) ∧ s' = σ := by
  subst hj
  have hw : IntKind.i64.wrap ((n : Int) + s.length) = n + s.length := wrap_i64 (by omega) (by omega)
  refine CallF.body (F := F43) tyB_ok (lit := false) rfl rfl (Nat.le_of_ble_eq_true rfl) ?_
  conv => whnf
  refine ⟨_, hw, ?_⟩
  conv => whnf
  split
  · rename_i h
    have h := of_decide_eq_true h
    have e1 : s.isPrefixOf (t.drop n) = ((t.drop n).take (n + s.length - n) == s) := by
      rw [Bool.eq_iff_iff, List.isPrefixOf_iff_prefix, List.prefix_iff_eq_take, beq_iff_eq, show n + s.length - n = s.length by omega]
      exact eq_comm
    rw [e1]
    conv => whnf
    refine ⟨_, hw, ?_⟩
    conv => whnf
    refine ⟨n, n + s.length, rfl, by omega, by omega, by omega, ?_⟩
    conv => whnf
    split <;> (conv => whnf)
    · rename_i h4; exact Fin.flat rfl List.take_length ⟨by rw [h4], rfl⟩
    · rename_i h4; exact Fin.flat rfl List.take_length ⟨by rw [h4], rfl⟩
  · rename_i h
    have h := of_decide_eq_false h
    have e1 : s.isPrefixOf (t.drop n) = false := by
      rw [Bool.eq_false_iff]
      intro hp
      have := (List.isPrefixOf_iff_prefix.1 hp).length_le
      simp at this
      omega
    conv => whnf
    exact Fin.flat rfl List.take_length ⟨by rw [e1], rfl⟩

/-- How many bytes of blanks or remark are at the front. -/
def blankLen (u : List UInt8) : Nat := match u with
  | [] => 0
  | c :: _ => if isBlank c.toNat then 1 else if [47, 47].isPrefixOf u then run (· != 10) u else 0
theorem drop_cons {t : List UInt8} {n : Nat} {c : UInt8} (h : t[n]? = some c) : t.drop n = c :: t.drop (n + 1) := by
  obtain ⟨hn, rfl⟩ := List.getElem?_eq_some_iff.1 h
  rw [← List.getElem_cons_drop hn]
theorem blank_loop (t : List UInt8) (n : Nat) (ht : t.length ≤ 100000) (σ : St) (Q : Out → Env → St → Prop) : ∀ (k m : Nat), n + m + k = t.length →
    (∀ e', get e' 6 = .i .i64 ((m + run (· != 10) (t.drop (n + m)) : Nat) : Int) → Q (.exit 0) e' σ) →
    LoopF X [0, 1, 6] c29L0 [(0, .s t), (1, .i .i64 n), (6, .i .i64 m)] σ Q := by
  intro k
  induction k with
  | zero =>
    intro m hm hq
    have hw : IntKind.i64.wrap ((n : Int) + m) = n + m := wrap_i64 (by omega) (by omega)
    refine LoopF.round tyB_ok (lit := false) ?_
    conv => whnf
    refine ⟨_, hw, ?_⟩
    rw [show ((n : Int) + m) = t.length by omega]
    conv => whnf
    rw [decide_eq_false (by omega)]
    conv => whnf
    refine hq _ ?_
    rw [List.drop_of_length_le (by omega)]
    rfl
  | succ k ih =>
    intro m hm hq
    have hw : IntKind.i64.wrap ((n : Int) + m) = n + m := wrap_i64 (by omega) (by omega)
    have hw1 : IntKind.i64.wrap ((m : Int) + 1) = (m + 1 : Nat) := by rw [wrap_i64 (by omega) (by omega)]; omega
    obtain ⟨c, hc⟩ : ∃ c, t[n + m]? = some c := ⟨_, List.getElem?_eq_getElem (by omega)⟩
    have hd := drop_cons hc
    refine LoopF.round tyB_ok (lit := false) ?_
    conv => whnf
    refine ⟨_, hw, ?_⟩
    conv => whnf
    rw [decide_eq_true (by omega)]
    conv => whnf
    refine ⟨_, hw, ?_⟩
    conv => whnf
    refine ⟨n + m, c, by omega, hc, ?_⟩
    conv => whnf
    split
    · rename_i h
      conv => whnf
      refine ⟨_, hw1, ?_⟩
      conv => whnf
      refine ih (m + 1) (by omega) fun e' he => hq e' ?_
      rw [he, hd]
      have h' : ((c.toNat : Int) != 10) = true := by simpa using h
      simp only [run, h', if_true, show n + (m + 1) = n + m + 1 by omega]
      congr 1; omega
    · rename_i h
      conv => whnf
      refine hq _ ?_
      rw [hd]
      have h' : ((c.toNat : Int) != 10) = false := by simpa using h
      simp only [run, h']
      rfl
theorem blank_to (t : List UInt8) (n : Nat) (j : Int) (hj : j = n) (ht : t.length ≤ 100000) (hn : n < t.length) (σ : St) :
    CallF X 29 [.s t, .i .i64 j] σ fun v s => v = .i .i64 (blankLen (t.drop n)) ∧ s = σ := by
  subst hj
  obtain ⟨c, hc⟩ : ∃ c, t[n]? = some c := ⟨_, List.getElem?_eq_getElem hn⟩
  have hd := drop_cons hc
  refine CallF.body (F := F29) tyB_ok (lit := false) rfl rfl (Nat.le_of_ble_eq_true rfl) ?_
  conv => whnf
  refine ⟨n, c, rfl, hc, ?_⟩
  by_cases hb : isBlank c.toNat = true
  · have e1 : blankLen (t.drop n) = 1 := by rw [hd]; simp [blankLen, hb]
    rw [e1]
    repeat' ((conv => whnf); split)
    all_goals (conv => whnf)
    all_goals first
      | exact Fin.flat rfl List.take_length ⟨rfl, rfl⟩
      | (exfalso; simp_all [isBlank]; done)
  · have e1 : blankLen (t.drop n) = if [47, 47].isPrefixOf (t.drop n) then run (· != 10) (t.drop n) else 0 := by rw [hd]; simp [blankLen, hb]
    repeat' ((conv => whnf); split)
    all_goals (conv => whnf)
    all_goals first
      | (exfalso; simp_all [isBlank]; done)
      | skip
    refine CallF.to (begins_to t [47, 47] n n rfl σ (by omega) ht (by simp)) ?_
    conv => whnf
    cases h : [47, 47].isPrefixOf (t.drop n) with
    | true =>
      conv => whnf
      refine blank_loop t n ht σ _ (t.length - n) 0 (by omega) fun e' he => ?_
      conv => whnf
      rw [show Opd.ev e' (.t 6) = _ from he]
      conv => whnf
      exact Fin.flat rfl List.take_length ⟨by rw [e1, h]; simp, rfl⟩
    | false =>
      conv => whnf
      exact Fin.flat rfl List.take_length ⟨by rw [e1, h]; simp, rfl⟩

/-- Is a row of digits a number of 32 bits? -/
def numOk : Nat → List UInt8 → Bool
  | _, [] => true
  | v, c :: r => if 4294967296 ≤ 10 * v + (c.toNat - 48) then false else numOk (10 * v + (c.toNat - 48)) r
theorem number_loop (t : List UInt8) (hd : ∀ c ∈ t, isDigit c.toNat = true) (ht : t.length ≤ 100000) (σ : St) (Q : Out → Env → St → Prop) : ∀ (k m v : Nat), m + k = t.length → v < 4294967296 →
    (numOk v (t.drop m) = true → ∀ e', Q (.exit 0) e' σ) → (numOk v (t.drop m) = false → ∀ e', get e' 2 = .b false → Q .ret e' σ) →
    LoopF X [0, 3, 4] c47L0 [(0, .s t), (3, .i .u64 v), (4, .i .i64 m)] σ Q := by
  intro k
  induction k with
  | zero =>
    intro m v hm hv h1 h2
    refine LoopF.round tyB_ok (lit := false) ?_
    conv => whnf
    rw [decide_eq_false (by omega)]
    conv => whnf
    exact h1 (by rw [List.drop_of_length_le (by omega)]; rfl) _
  | succ k ih =>
    intro m v hm hv h1 h2
    obtain ⟨c, hc⟩ : ∃ c, t[m]? = some c := ⟨_, List.getElem?_eq_getElem (by omega)⟩
    have hdr := drop_cons hc
    have hdig := hd c (List.mem_of_getElem? hc)
    simp only [isDigit, Bool.and_eq_true, decide_eq_true_eq] at hdig
    have hw1 : IntKind.i64.wrap ((m : Int) + 1) = (m + 1 : Nat) := by rw [wrap_i64 (by omega) (by omega)]; omega
    refine LoopF.round tyB_ok (lit := false) ?_
    conv => whnf
    rw [decide_eq_true (by omega)]
    conv => whnf
    refine ⟨10 * v, wrap_u64 (by omega) (by omega), ?_⟩
    conv => whnf
    refine ⟨m, c, rfl, hc, ?_⟩
    conv => whnf
    refine ⟨_, wrap_u8 (n := c.toNat - 48) (by omega) (by omega), ?_⟩
    conv => whnf
    refine ⟨_, wrap_u64 (n := (c.toNat : Int) - 48) (by omega) (by omega), ?_⟩
    conv => whnf
    refine ⟨((10 * v + (c.toNat - 48) : Nat) : Int), by rw [wrap_u64 (by omega) (by omega)]; omega, ?_⟩
    conv => whnf
    by_cases hb : 4294967296 ≤ 10 * v + (c.toNat - 48)
    · rw [decide_eq_true (by omega)]
      conv => whnf
      exact h2 (by rw [hdr]; simp [numOk, hb]) _ rfl
    · rw [decide_eq_false (by omega)]
      conv => whnf
      refine ⟨_, hw1, ?_⟩
      conv => whnf
      have e1 : numOk v (t.drop m) = numOk (10 * v + (c.toNat - 48)) (t.drop (m + 1)) := by rw [hdr]; simp [numOk, hb]
      exact ih (m + 1) _ (by omega) (by omega) (by rw [← e1]; exact h1) (by rw [← e1]; exact h2)
theorem number_to (t : List UInt8) (hd : ∀ c ∈ t, isDigit c.toNat = true) (ht : t.length ≤ 100000) (σ : St) : CallF X 47 [.s t] σ fun v s => v = .b (numOk 0 t) ∧ s = σ := by
  refine CallF.body (F := F47) tyB_ok (lit := false) rfl rfl (Nat.le_of_ble_eq_true rfl) ?_
  conv => whnf
  refine number_loop t hd ht σ _ t.length 0 0 (by omega) (by omega) (fun h e' => ?_) (fun h e' he => ?_)
  · conv => whnf
    rw [List.drop_zero] at h
    exact Fin.flat rfl List.take_length ⟨by rw [h], rfl⟩
  · conv => whnf
    rw [he]
    conv => whnf
    rw [List.drop_zero] at h
    exact Fin.flat rfl List.take_length ⟨by rw [h], rfl⟩
end Go.Abs.YtjphfiieapclhaaDoor
