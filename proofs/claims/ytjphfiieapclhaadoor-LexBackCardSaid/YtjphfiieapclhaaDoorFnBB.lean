/- The document's lexer: a word. -/
import Derived.Test.YtjphfiieapclhaaDoorFnAB
namespace Go.Abs.YtjphfiieapclhaaDoor
open Go.Proofs
set_option maxRecDepth 4000

theorem key_loop (s : List UInt8) (o g : Nat) (l : List (List UInt8)) (σ : St) (ho : cellsAt σ o g = some (l.map .s)) (hl : l.length ≤ 100) (Q : Out → Env → St → Prop) : ∀ (k m : Nat), m + k = l.length →
    ((l.drop m).contains s = false → ∀ e', Q (.exit 0) e' σ) → ((l.drop m).contains s = true → ∀ e', get e' 2 = .b true → Q .ret e' σ) →
    LoopF X [0, 3, 4] c46L0 [(0, .s s), (3, .sl o g 0 l.length 1), (4, .i .i64 m)] σ Q := by
  intro k
  induction k with
  | zero =>
    intro m hm h1 h2
    refine LoopF.round tyB_ok (lit := false) ?_
    conv => whnf
    rw [decide_eq_false (by omega)]
    conv => whnf
    exact h1 (by rw [List.drop_of_length_le (by omega)]; rfl) _
  | succ k ih =>
    intro m hm h1 h2
    obtain ⟨c, hc⟩ : ∃ c, l[m]? = some c := ⟨_, List.getElem?_eq_getElem (by omega)⟩
    have hdr : l.drop m = c :: l.drop (m + 1) := by
      obtain ⟨hn, rfl⟩ := List.getElem?_eq_some_iff.1 hc
      rw [← List.getElem_cons_drop hn]
    have hw1 : IntKind.i64.wrap ((m : Int) + 1) = (m + 1 : Nat) := by rw [wrap_i64 (by omega) (by omega)]; omega
    refine LoopF.round tyB_ok (lit := false) ?_
    conv => whnf
    rw [decide_eq_true (by omega)]
    conv => whnf
    refine ⟨m, rfl, by omega, ?_⟩
    conv => whnf
    refine om_of (v := .s c) (aLoad_at (T := yT9) rfl rfl ho (by simp [hc])) ?_
    conv => whnf
    cases h : c == s with
    | true =>
      conv => whnf
      exact h2 (by rw [hdr]; simp_all) _ rfl
    | false =>
      conv => whnf
      refine ⟨_, hw1, ?_⟩
      conv => whnf
      have e1 : (l.drop m).contains s = (l.drop (m + 1)).contains s := by
        rw [hdr, List.contains_cons]
        have : (s == c) = false := by rw [beq_eq_false_iff_ne] at h ⊢; exact fun e => h e.symm
        rw [this]; simp
      exact ih (m + 1) (by omega) (by rw [← e1]; exact h1) (by rw [← e1]; exact h2)
theorem rkeys_to (σ : St) (Q : AV → St → Prop) (h : Q (.sl σ.length 0 0 12 1) (newCells 9 (keys.map .s) σ)) : CallF X 9 [] σ Q := by
  refine CallF.body (F := F9) tyB_ok (lit := false) rfl rfl (Nat.le_of_ble_eq_true rfl) ?_
  conv => whnf
  exact Fin.ref rfl h
theorem key_to (s : List UInt8) (σ : St) : CallF X 46 [.s s] σ fun v s' => v = .b (keys.contains s) ∧ s' = σ := by
  refine CallF.body (F := F46) tyB_ok (lit := false) rfl rfl (Nat.le_of_ble_eq_true rfl) ?_
  conv => whnf
  refine rkeys_to σ _ ?_
  conv => whnf
  refine key_loop s _ _ keys _ (cellsAt_new _ _ σ) (by decide) _ 12 0 rfl (fun h e' => ?_) (fun h e' he => ?_)
  · conv => whnf
    exact Fin.flat rfl (by rw [take_new _ _ _ _ (Nat.le_refl _), List.take_length]) ⟨by rw [List.drop_zero] at h; rw [h], rfl⟩
  · conv => whnf
    rw [he]
    conv => whnf
    exact Fin.flat rfl (by rw [take_new _ _ _ _ (Nat.le_refl _), List.take_length]) ⟨by rw [List.drop_zero] at h; rw [h], rfl⟩

def signs : List (List UInt8) := twos ++ [[40], [41], [123], [125], [91], [93], [44], [59], [58], [61], [60], [62], [43], [45], [124], [94], [38], [42], [47], [37], [33]]
theorem signs_to (σ : St) (Q : AV → St → Prop) (h : Q (.sl σ.length 0 0 29 1) (newCells 9 (signs.map .s) σ)) : CallF X 48 [] σ Q := by
  refine CallF.body (F := F48) tyB_ok (lit := false) rfl rfl (Nat.le_of_ble_eq_true rfl) ?_
  conv => whnf
  exact Fin.ref rfl h
theorem sign_loop (t : List UInt8) (n : Nat) (ht : t.length ≤ 100000) (hn : n ≤ t.length) (r o g : Nat) (l : List (List UInt8)) (σ : St) (ho : cellsAt σ o g = some (l.map .s)) (hl : l.length ≤ 100) (hw : ∀ w ∈ l, w.length ≤ 10)
    (hr : ∃ e, σ[r]? = some ⟨0, false, .cells e [.i .i64 0, .s [], .i .i64 0]⟩) (Q : Out → Env → St → Prop) : ∀ (k m : Nat), m + k = l.length →
    ((l.drop m).find? (·.isPrefixOf (t.drop n)) = none → ∀ e', get e' 4 = .p r 0 0 → Q (.exit 4) e' σ) →
    (∀ w, (l.drop m).find? (·.isPrefixOf (t.drop n)) = some w → ∀ e' e, σ[r]? = some ⟨0, false, .cells e [.i .i64 0, .s [], .i .i64 0]⟩ → get e' 4 = .p r 0 0 → get e' 5 = .i .i64 0 → Q .ret e' (σ.set r ⟨0, false, .cells e [.i .i64 3, .s w, .i .i64 0]⟩)) →
    LoopF X [0, 1, 4, 10, 11] c30L2 [(0, .s t), (1, .i .i64 n), (4, .p r 0 0), (10, .sl o g 0 l.length 1), (11, .i .i64 m)] σ Q := by
  intro k
  induction k with
  | zero =>
    intro m hm h1 h2
    refine LoopF.round tyB_ok (lit := false) ?_
    conv => whnf
    rw [decide_eq_false (by omega)]
    conv => whnf
    exact h1 (by rw [show l.drop m = [] from List.drop_of_length_le (by omega)]; rfl) _ rfl
  | succ k ih =>
    intro m hm h1 h2
    obtain ⟨c, hc⟩ : ∃ c, l[m]? = some c := ⟨_, List.getElem?_eq_getElem (by omega)⟩
    have hdr : l.drop m = c :: l.drop (m + 1) := by
      obtain ⟨hn, rfl⟩ := List.getElem?_eq_some_iff.1 hc
      rw [← List.getElem_cons_drop hn]
    have hw1 : IntKind.i64.wrap ((m : Int) + 1) = (m + 1 : Nat) := by rw [wrap_i64 (by omega) (by omega)]; omega
    refine LoopF.round tyB_ok (lit := false) ?_
    conv => whnf
    rw [decide_eq_true (by omega)]
    conv => whnf
    refine ⟨m, rfl, by omega, ?_⟩
    conv => whnf
    refine om_of (v := .s c) (aLoad_at (T := yT9) rfl rfl ho (by simp [hc])) ?_
    conv => whnf
    refine CallF.to (begins_to t c n n rfl σ hn ht (hw c (List.mem_of_getElem? hc))) ?_
    conv => whnf
    cases h : c.isPrefixOf (t.drop n) with
    | true =>
      conv => whnf
      refine ⟨m, rfl, by omega, ?_⟩
      conv => whnf
      refine om_of (v := .s c) (aLoad_at (T := yT9) rfl rfl ho (by simp [hc])) ?_
      conv => whnf
      obtain ⟨e, he⟩ := hr
      refine om_of (aStore_at (T := yT30) rfl he rfl rfl (by decide)) ?_
      conv => whnf
      exact h2 c (by rw [hdr]; simp [h]) _ e he rfl rfl
    | false =>
      conv => whnf
      refine ⟨_, hw1, ?_⟩
      conv => whnf
      have e1 : (l.drop m).find? (·.isPrefixOf (t.drop n)) = (l.drop (m + 1)).find? (·.isPrefixOf (t.drop n)) := by
        rw [hdr, List.find?_cons]; simp [h]
      exact ih (m + 1) (by omega) (by rw [← e1]; exact h1) (by rw [← e1]; exact h2)
theorem wordL0 (t : List UInt8) (n : Nat) (ht : t.length ≤ 100000) (r : Nat) (σ : St) (Q : Out → Env → St → Prop) : ∀ (k m : Nat), n + m + k = t.length →
    (∀ e', get e' 0 = .s t → get e' 1 = .i .i64 n → get e' 4 = .p r 0 0 → get e' 7 = .i .i64 ((m + run isWord (t.drop (n + m)) : Nat) : Int) → Q (.exit 0) e' σ) →
    LoopF X [0, 1, 4, 7] c30L0 [(0, .s t), (1, .i .i64 n), (4, .p r 0 0), (7, .i .i64 m)] σ Q := by
  intro k
  induction k with
  | zero =>
    intro m hm hq
    have hw : IntKind.i64.wrap ((n : Int) + m) = n + m := wrap_i64 (by omega) (by omega)
    refine LoopF.round tyB_ok (lit := false) ?_
    conv => whnf
    refine ⟨_, hw, ?_⟩
    conv => whnf
    rw [decide_eq_false (by omega)]
    conv => whnf
    refine hq _ rfl rfl rfl ?_
    rw [List.drop_of_length_le (by omega)]
    rfl
  | succ k ih =>
    intro m hm hq
    have hw : IntKind.i64.wrap ((n : Int) + m) = n + m := wrap_i64 (by omega) (by omega)
    have hw1 : IntKind.i64.wrap ((m : Int) + 1) = (m + 1 : Nat) := by rw [wrap_i64 (by omega) (by omega)]; omega
    obtain ⟨c, hc⟩ : ∃ c, t[n + m]? = some c := ⟨_, List.getElem?_eq_getElem (by omega)⟩
    have hd := drop_cons hc
    refine LoopF.round tyB_ok (lit := false) ?_
    conv => whnf
    refine ⟨_, hw, ?_⟩
    conv => whnf
    rw [decide_eq_true (by omega)]
    conv => whnf
    refine ⟨_, hw, ?_⟩
    conv => whnf
    refine ⟨n + m, c, by omega, hc, ?_⟩
    conv => whnf
    refine CallF.to (letter_to c.toNat σ) ?_
    conv => whnf
    cases hl : isLetter c.toNat with
    | true =>
      conv => whnf
      refine ⟨_, hw1, ?_⟩
      conv => whnf
      refine ih (m + 1) (by omega) ?_
      have e1 : run isWord (t.drop (n + m)) = run isWord (t.drop (n + (m + 1))) + 1 := by rw [hd]; simp [run, isWord, hl]; rfl
      rw [show m + 1 + run isWord (t.drop (n + (m + 1))) = m + run isWord (t.drop (n + m)) by omega]
      exact hq
    | false =>
      conv => whnf
      refine ⟨_, hw, ?_⟩
      conv => whnf
      refine ⟨n + m, c, by omega, hc, ?_⟩
      conv => whnf
      refine CallF.to (digit_to c.toNat σ) ?_
      conv => whnf
      cases hg : isDigit c.toNat with
      | true =>
        conv => whnf
        refine ⟨_, hw1, ?_⟩
        conv => whnf
        refine ih (m + 1) (by omega) ?_
        have e1 : run isWord (t.drop (n + m)) = run isWord (t.drop (n + (m + 1))) + 1 := by rw [hd]; simp [run, isWord, hl, hg]; rfl
        rw [show m + 1 + run isWord (t.drop (n + (m + 1))) = m + run isWord (t.drop (n + m)) by omega]
        exact hq
      | false =>
        conv => whnf
        refine hq _ rfl rfl rfl ?_
        have e1 : run isWord (t.drop (n + m)) = 0 := by rw [hd]; simp [run, isWord, hl, hg]
        rw [e1]; rfl
theorem wordL1 (t : List UInt8) (n : Nat) (b : Int) (ht : t.length ≤ 100000) (r : Nat) (σ : St) (Q : Out → Env → St → Prop) : ∀ (k m : Nat), n + m + k = t.length →
    (∀ e', get e' 0 = .s t → get e' 1 = .i .i64 n → get e' 4 = .p r 0 0 → get e' 6 = .i .u8 b → get e' 7 = .i .i64 ((m + run isDigit (t.drop (n + m)) : Nat) : Int) → Q (.exit 2) e' σ) →
    LoopF X [0, 1, 4, 6, 7] c30L1 [(0, .s t), (1, .i .i64 n), (4, .p r 0 0), (6, .i .u8 b), (7, .i .i64 m)] σ Q := by
  intro k
  induction k with
  | zero =>
    intro m hm hq
    have hw : IntKind.i64.wrap ((n : Int) + m) = n + m := wrap_i64 (by omega) (by omega)
    refine LoopF.round tyB_ok (lit := false) ?_
    conv => whnf
    refine ⟨_, hw, ?_⟩
    conv => whnf
    rw [decide_eq_false (by omega)]
    conv => whnf
    refine hq _ rfl rfl rfl rfl ?_
    rw [List.drop_of_length_le (by omega)]
    rfl
  | succ k ih =>
    intro m hm hq
    have hw : IntKind.i64.wrap ((n : Int) + m) = n + m := wrap_i64 (by omega) (by omega)
    have hw1 : IntKind.i64.wrap ((m : Int) + 1) = (m + 1 : Nat) := by rw [wrap_i64 (by omega) (by omega)]; omega
    obtain ⟨c, hc⟩ : ∃ c, t[n + m]? = some c := ⟨_, List.getElem?_eq_getElem (by omega)⟩
    have hd := drop_cons hc
    refine LoopF.round tyB_ok (lit := false) ?_
    conv => whnf
    refine ⟨_, hw, ?_⟩
    conv => whnf
    rw [decide_eq_true (by omega)]
    conv => whnf
    refine ⟨_, hw, ?_⟩
    conv => whnf
    refine ⟨n + m, c, by omega, hc, ?_⟩
    conv => whnf
    refine CallF.to (digit_to c.toNat σ) ?_
    conv => whnf
    cases hg : isDigit c.toNat with
    | true =>
      conv => whnf
      refine ⟨_, hw1, ?_⟩
      conv => whnf
      refine ih (m + 1) (by omega) ?_
      have e1 : run isDigit (t.drop (n + m)) = run isDigit (t.drop (n + (m + 1))) + 1 := by rw [hd]; simp [run, hg]; rfl
      rw [show m + 1 + run isDigit (t.drop (n + (m + 1))) = m + run isDigit (t.drop (n + m)) by omega]
      exact hq
    | false =>
      conv => whnf
      refine hq _ rfl rfl rfl rfl ?_
      have e1 : run isDigit (t.drop (n + m)) = 0 := by rw [hd]; simp [run, hg]
      rw [e1]; rfl
end Go.Abs.YtjphfiieapclhaaDoor
