/- The document's lexer: a word, whole. -/
import Derived.Test.YtjphfiieapclhaaDoorFnBB
namespace Go.Abs.YtjphfiieapclhaaDoor
open Go.Proofs
set_option maxRecDepth 4000

theorem indexByte_nonneg : ∀ (l : List UInt8) (c : UInt8), (0 ≤ Lib.indexByte l c) ↔ c ∈ l
  | [], c => by simp [Lib.indexByte]
  | b :: l, c => by
    have ih := indexByte_nonneg l c
    have hg := Lib.indexByte_ge l c
    unfold Lib.indexByte
    by_cases h : b = c
    · simp [h]
    · have h' : (b == c) = false := by simpa using h
      rw [h']
      simp only [Bool.false_eq_true, if_false, List.mem_cons]
      have hne : ¬ c = b := fun e => h e.symm
      simp only [hne, false_or]
      by_cases h2 : Lib.indexByte l c = -1
      · simp only [h2, beq_self_eq_true, if_true]
        rw [← ih, h2]
      · have h3 : (Lib.indexByte l c == -1) = false := by simpa using h2
        rw [h3]
        simp only [Bool.false_eq_true, if_false]
        rw [← ih]
        omega
theorem wrap_byte (c : UInt8) : (IntKind.u8.wrap (c.toNat : Int)).toNat.toUInt8 = c := by
  rw [wrap_u8 (by omega) (by have := c.toNat_lt; omega)]
  simp
theorem isOne_mem (c : UInt8) : isOne c.toNat = ones.contains c := by
  unfold isOne
  rw [wrap_byte, Bool.eq_iff_iff]
  simp only [Bool.and_eq_true, decide_eq_true_eq, indexByte_nonneg, List.contains_iff_mem]
  refine ⟨fun h => h.1, fun h => ⟨h, ?_⟩⟩
  have : ∀ d ∈ ones, (d.toNat : Int) < 128 := by decide
  exact this c h
theorem find_ones (c : UInt8) (r : List UInt8) : ∀ l : List UInt8, (l.map fun x => [x]).find? (·.isPrefixOf (c :: r)) = if l.contains c then some [c] else none
  | [] => rfl
  | x :: l => by
    simp only [List.map_cons, List.find?_cons, List.isPrefixOf, List.contains_cons]
    by_cases h : x = c
    · subst h; simp
    · have h1 : (x == c) = false := by simpa using h
      have h2 : (c == x) = false := by simpa using fun e => h e.symm
      simp only [h1, h2, Bool.false_and, Bool.false_or]
      exact find_ones c r l
theorem find_twos (c d : UInt8) (r : List UInt8) (l : List (List UInt8)) (hl : ∀ w ∈ l, w.length = 2) : l.find? (·.isPrefixOf (c :: d :: r)) = if l.contains [c, d] then some [c, d] else none := by
  induction l with
  | nil => rfl
  | cons w l ih =>
    have ih := ih fun w hw => hl w (List.mem_cons_of_mem _ hw)
    have h2 := hl w (List.mem_cons_self ..)
    match w, h2 with
    | [a, b], _ =>
      rw [List.find?_cons, List.contains_cons, ih]
      by_cases h : a = c ∧ b = d
      · obtain ⟨rfl, rfl⟩ := h; simp [List.isPrefixOf]
      · have h1 : ([a, b].isPrefixOf (c :: d :: r)) = false := by
          simp only [List.isPrefixOf, Bool.and_true, Bool.and_eq_false_iff, beq_eq_false_iff_ne]
          by_cases h3 : a = c
          · exact .inr fun h4 => h ⟨h3, h4⟩
          · exact .inl h3
        have h2 : ([c, d] == [a, b]) = false := by
          rw [beq_eq_false_iff_ne]; intro e; cases e; exact h ⟨rfl, rfl⟩
        rw [h1, h2, Bool.false_or]
theorem step_sign (c : UInt8) (r : List UInt8) (hb : blankLen (c :: r) = 0) (h1 : isLetter c.toNat = false) (h2 : isDigit c.toNat = false) :
    step (c :: r) = match signs.find? (·.isPrefixOf (c :: r)) with | some w => .tok 3 w.length | none => .err 9 := by
  have hbl : isBlank c.toNat = false := by
    cases h : isBlank c.toNat with
    | false => rfl
    | true => simp [blankLen, h] at hb
  have hr : [47, 47].isPrefixOf (c :: r) = false := by
    cases h : [47, 47].isPrefixOf (c :: r) with
    | false => rfl
    | true =>
      have hc : c = 47 := by simp [List.isPrefixOf] at h; exact h.1.symm
      subst hc
      simp only [blankLen, hbl, h, Bool.false_eq_true, if_false, if_true] at hb
      have := run_pos (p := (· != 10)) r (c := 47) (by decide)
      omega
  have hs : signs.find? (·.isPrefixOf (c :: r)) = (twos.find? (·.isPrefixOf (c :: r))).or (if ones.contains c then some [c] else none) := by
    rw [← find_ones c r ones]
    exact List.find?_append
  unfold step
  rw [hr, hs]
  simp only [hbl, h1, h2, Bool.false_eq_true, if_false, isOne_mem]
  cases r with
  | nil =>
    have e1 : twos.find? (·.isPrefixOf [c]) = none := by simp [twos, List.isPrefixOf]
    have e2 : twos.contains ([c].take 2) = false := by
      have : ∀ w ∈ twos, w.length = 2 := by decide
      cases h : twos.contains ([c].take 2) with
      | false => rfl
      | true => have := this _ (List.contains_iff_mem.1 h); simp at this
    rw [e1, e2]
    by_cases h : ones.contains c = true
    · rw [h]; rfl
    · have h : ones.contains c = false := by simpa using h
      rw [h]; rfl
  | cons d r =>
    rw [find_twos c d r twos (by decide)]
    have e0 : (c :: d :: r).take 2 = [c, d] := rfl
    rw [e0]
    by_cases h : twos.contains [c, d] = true
    · have hc : ones.contains c = true := by
        have : ∀ w ∈ twos, ∀ a ∈ w.head?, ones.contains a = true := by decide
        exact this _ (List.contains_iff_mem.1 h) c rfl
      rw [if_pos hc, if_pos h, if_pos h]; rfl
    · rw [if_neg h, if_neg h]
      by_cases h : ones.contains c = true
      · rw [if_pos h, if_pos h]; rfl
      · rw [if_neg h, if_neg h]; rfl
theorem parseM_num : ∀ (l : List UInt8) (v : Nat), (∀ c ∈ l, isDigit c.toNat = true) → v < 4294967296 → (match Lib.parseUintM 4294967295 v l with | .ok _ => false | _ => true) = !numOk v l
  | [], v, _, _ => by simp [Lib.parseUintM, numOk]
  | c :: r, v, hd, hv => by
    have h1 := hd c (List.mem_cons_self ..)
    simp only [isDigit, Bool.and_eq_true, decide_eq_true_eq] at h1
    unfold Lib.parseUintM numOk
    rw [if_pos (by omega), if_neg (by omega)]
    by_cases h : 4294967296 ≤ 10 * v + (c.toNat - 48)
    · rw [if_pos (by omega), if_pos h]; rfl
    · rw [if_neg (by omega), if_neg h, show v * 10 + (c.toNat - 48) = 10 * v + (c.toNat - 48) by omega]
      exact parseM_num r _ (fun c hc => hd c (List.mem_cons_of_mem _ hc)) (by omega)
theorem tooBig_num {l : List UInt8} (hd : ∀ c ∈ l, isDigit c.toNat = true) (hn : l ≠ []) : tooBig l = !numOk 0 l := by
  unfold tooBig Lib.parseUintB
  rw [if_neg hn]
  exact parseM_num l 0 hd (by omega)
theorem run_all (p : Int → Bool) : ∀ (l : List UInt8), ∀ c ∈ l.take (run p l), p c.toNat = true
  | [], c, h => by simp at h
  | b :: l, c, h => by
    unfold run at h
    split at h
    · rename_i hb
      simp only [List.take_succ_cons, List.mem_cons] at h
      rcases h with rfl | h
      · exact hb
      · exact run_all p l c h
    · simp at h
def tokV (k : Int) (s : List UInt8) (l : Int) : List AV := [.i .i64 k, .s s, .i .i64 l]
/-- What 'word' answers. -/
def wordV (u : List UInt8) : Stp → AV
  | .tok k m => .tu [.ag (tokV k (u.take m) 0), .i .i64 0]
  | .err e => .tu [.ag (tokV 0 [] 0), .i .i64 e]
  | .skip _ _ => .u

theorem get_run (p : Int → Bool) (t : List UInt8) (n m : Nat) (c : UInt8) (h : t[n + m]? = some c) : decide (0 < run p (t.drop (n + m))) = p c.toNat := by
  rw [drop_cons h]
  cases hp : p c.toNat with
  | true => simp [run, hp]
  | false => simp [run, hp]
theorem word_to (t : List UInt8) (n : Nat) (j : Int) (hj : j = n) (ht : t.length ≤ 100000) (hn : n < t.length) (hb : blankLen (t.drop n) = 0) (σ : St) :
    CallF X 30 [.s t, .i .i64 j] σ fun v s => v = wordV (t.drop n) (step (t.drop n)) ∧ s = σ := by
  subst hj
  obtain ⟨c, hc⟩ : ∃ c, t[n]? = some c := ⟨_, List.getElem?_eq_getElem hn⟩
  have hd := drop_cons hc
  have hfl : ∀ (e : Nat) (cs cs' : List AV), ((newCells e cs σ).set σ.length ⟨0, false, .cells e cs'⟩).take σ.length = σ := by
    intro e cs cs'; rw [List.take_set_of_le (Nat.le_refl _), take_new _ _ _ _ (Nat.le_refl _), List.take_length]
  have hbl : isBlank c.toNat = false := by
    cases h : isBlank c.toNat with
    | false => rfl
    | true => rw [hd] at hb; simp [blankLen, h] at hb
  have hr : [47, 47].isPrefixOf (t.drop n) = false := by
    cases h : [47, 47].isPrefixOf (t.drop n) with
    | false => rfl
    | true =>
      rw [hd] at h hb
      have hc : c = 47 := by simp [List.isPrefixOf] at h; exact h.1.symm
      subst hc
      simp only [blankLen, hbl, h, Bool.false_eq_true, if_false, if_true] at hb
      have := run_pos (p := (· != 10)) (t.drop (n + 1)) (c := 47) (by decide)
      omega
  refine CallF.body (F := F30) tyB_ok (lit := false) rfl rfl (Nat.le_of_ble_eq_true rfl) ?_
  conv => whnf
  refine ⟨n, c, rfl, hc, ?_⟩
  conv => whnf
  refine CallF.to (letter_to c.toNat _) ?_
  conv => whnf
  cases hl : isLetter c.toNat with
  | true =>
    have hrl := run_le isWord (t.drop n)
    simp only [List.length_drop] at hrl
    have hstep : step (t.drop n) = if 32 < run isWord (t.drop n) then .err 9 else if keys.contains ((t.drop n).take (run isWord (t.drop n))) then .tok 4 (run isWord (t.drop n)) else .tok 1 (run isWord (t.drop n)) := by
      unfold step
      rw [hr, hd]
      simp only [hbl, hl, Bool.false_eq_true, if_false, if_true]
    conv => whnf
    refine wordL0 t n ht _ _ _ (t.length - n) 0 (by omega) fun e' h0 h1 h4 h7 => ?_
    rw [Nat.add_zero, Nat.zero_add] at h7
    conv => whnf
    rw [h0]; conv => whnf
    rw [h1]; conv => whnf
    rw [h4]; conv => whnf
    rw [h7]; conv => whnf
    refine ⟨_, wrap_i64 (n := (n : Int) + run isWord (t.drop n)) (by omega) (by omega), ?_⟩
    conv => whnf
    refine ⟨n, n + run isWord (t.drop n), rfl, by omega, by omega, by omega, ?_⟩
    have e0 : n + run isWord (t.drop n) - n = run isWord (t.drop n) := by omega
    rw [e0]
    conv => whnf
    by_cases h32 : 32 < run isWord (t.drop n)
    · rw [decide_eq_true (by omega)]
      conv => whnf
      refine om_of (aStore_at (T := yT30) rfl (get_new _ _ _) rfl rfl (by decide)) ?_
      conv => whnf
      refine om_of (aLoad_ag (T := yT30) rfl rfl (cellsAt_of (get_set _ (by rw [len_new]; omega))) (Nat.le_of_ble_eq_true rfl)) ?_
      conv => whnf
      refine Fin.flat rfl (hfl _ _ _) ⟨?_, rfl⟩
      rw [hstep, if_pos h32]; rfl
    · rw [decide_eq_false (by omega)]
      conv => whnf
      refine CallF.to (key_to _ _) ?_
      conv => whnf
      cases hk : keys.contains ((t.drop n).take (run isWord (t.drop n))) with
      | true =>
        conv => whnf
        refine om_of (aStore_at (T := yT30) rfl (get_new _ _ _) rfl rfl (by decide)) ?_
        conv => whnf
        refine om_of (aLoad_ag (T := yT30) rfl rfl (cellsAt_of (get_set _ (by rw [len_new]; omega))) (Nat.le_of_ble_eq_true rfl)) ?_
        conv => whnf
        refine Fin.flat rfl (hfl _ _ _) ⟨?_, rfl⟩
        rw [hstep, if_neg h32, if_pos hk]; rfl
      | false =>
        conv => whnf
        refine om_of (aStore_at (T := yT30) rfl (get_new _ _ _) rfl rfl (by decide)) ?_
        conv => whnf
        refine om_of (aLoad_ag (T := yT30) rfl rfl (cellsAt_of (get_set _ (by rw [len_new]; omega))) (Nat.le_of_ble_eq_true rfl)) ?_
        conv => whnf
        refine Fin.flat rfl (hfl _ _ _) ⟨?_, rfl⟩
        rw [hstep, if_neg h32, if_neg (by rw [hk]; exact Bool.false_ne_true)]; rfl
  | false =>
    conv => whnf
    refine CallF.to (digit_to c.toNat _) ?_
    conv => whnf
    cases hg : isDigit c.toNat with
    | true =>
      have hrl := run_le isDigit (t.drop n)
      simp only [List.length_drop] at hrl
      have hstep : step (t.drop n) = if (c.toNat = 48 ∧ 1 < run isDigit (t.drop n)) ∨ 0 < run isLetter ((t.drop n).drop (run isDigit (t.drop n))) then .err 9
          else if tooBig ((t.drop n).take (run isDigit (t.drop n))) then .err 3 else .tok 2 (run isDigit (t.drop n)) := by
        unfold step
        rw [hr, hd]
        simp only [hbl, hl, hg, Bool.false_eq_true, if_false, if_true]
      have hpos : 0 < run isDigit (t.drop n) := by rw [hd]; exact run_pos _ hg
      have hall := run_all isDigit (t.drop n)
      have hbig := tooBig_num hall (by rw [hd]; intro e; have := congrArg List.length e; simp [List.length_take] at this; rw [← hd] at this; omega)
      conv => whnf
      refine wordL1 t n _ ht _ _ _ (t.length - n) 0 (by omega) fun e' h0 h1 h4 h6 h7 => ?_
      rw [Nat.add_zero, Nat.zero_add] at h7
      generalize hm : run isDigit (t.drop n) = m at *
      conv => whnf
      rw [h0]; conv => whnf
      rw [h1]; conv => whnf
      rw [h4]; conv => whnf
      rw [h6]; conv => whnf
      rw [h7]; conv => whnf
      refine ⟨_, wrap_i64 (n := (n : Int) + m) (by omega) (by omega), ?_⟩
      conv => whnf
      refine ⟨n, n + m, rfl, by omega, by omega, by omega, ?_⟩
      have e0 : n + m - n = m := by omega
      rw [e0]
      have hbad : (c.toNat = 48 ∧ 1 < m) ∨ 0 < run isLetter ((t.drop n).drop m) → step (t.drop n) = .err 9 := fun h => by rw [hstep, if_pos h]
      have hgood : ¬ ((c.toNat = 48 ∧ 1 < m) ∨ 0 < run isLetter ((t.drop n).drop m)) → step (t.drop n) = if numOk 0 ((t.drop n).take m) then .tok 2 m else .err 3 := fun h => by
        rw [hstep, if_neg h, hbig]
        cases numOk 0 ((t.drop n).take m) <;> rfl
      conv => whnf
      by_cases hA : 1 < m
      · rw [decide_eq_true (show (1 : Int) < m by omega)]
        conv => whnf
        by_cases hB : c.toNat = 48
        · rw [decide_eq_true (show (c.toNat : Int) = 48 by omega)]
          conv => whnf
          refine om_of (aStore_at (T := yT30) rfl (get_new _ _ _) rfl rfl (by decide)) ?_
          conv => whnf
          refine om_of (aLoad_ag (T := yT30) rfl rfl (cellsAt_of (get_set _ (by rw [len_new]; omega))) (Nat.le_of_ble_eq_true rfl)) ?_
          conv => whnf
          refine Fin.flat rfl (hfl _ _ _) ⟨?_, rfl⟩
          rw [hbad (.inl ⟨hB, hA⟩)]; rfl
        · rw [decide_eq_false (show ¬ (c.toNat : Int) = 48 by omega)]
          have NAB : ¬ (c.toNat = 48 ∧ 1 < m) := fun h => hB h.1
          conv => whnf
          refine ⟨_, wrap_i64 (n := (n : Int) + m) (by omega) (by omega), ?_⟩
          conv => whnf
          by_cases hlen : n + m < t.length
          · rw [decide_eq_true (by omega)]
            obtain ⟨d, hdd⟩ : ∃ d, t[n + m]? = some d := ⟨_, List.getElem?_eq_getElem hlen⟩
            have hrun := get_run isLetter t n m d hdd
            rw [← List.drop_drop] at hrun
            conv => whnf
            refine ⟨_, wrap_i64 (n := (n : Int) + m) (by omega) (by omega), ?_⟩
            conv => whnf
            refine ⟨n + m, d, by omega, hdd, ?_⟩
            conv => whnf
            refine CallF.to (letter_to d.toNat _) ?_
            conv => whnf
            cases hlet : isLetter d.toNat with
            | true =>
              rw [hlet] at hrun
              conv => whnf
              refine om_of (aStore_at (T := yT30) rfl (get_new _ _ _) rfl rfl (by decide)) ?_
              conv => whnf
              refine om_of (aLoad_ag (T := yT30) rfl rfl (cellsAt_of (get_set _ (by rw [len_new]; omega))) (Nat.le_of_ble_eq_true rfl)) ?_
              conv => whnf
              refine Fin.flat rfl (hfl _ _ _) ⟨?_, rfl⟩
              rw [hbad (.inr (of_decide_eq_true hrun))]; rfl
            | false =>
              rw [hlet] at hrun
              have hrun := of_decide_eq_false hrun
              have HG := not_or.2 ⟨NAB, hrun⟩
              conv => whnf
              refine CallF.to (number_to _ hall (by simp [List.length_take]; omega) _) ?_
              conv => whnf
              cases hk : numOk 0 ((t.drop n).take m) with
              | true =>
                conv => whnf
                refine om_of (aStore_at (T := yT30) rfl (get_new _ _ _) rfl rfl (by decide)) ?_
                conv => whnf
                refine om_of (aLoad_ag (T := yT30) rfl rfl (cellsAt_of (get_set _ (by rw [len_new]; omega))) (Nat.le_of_ble_eq_true rfl)) ?_
                conv => whnf
                refine Fin.flat rfl (hfl _ _ _) ⟨?_, rfl⟩
                rw [hgood HG, if_pos hk]; rfl
              | false =>
                conv => whnf
                refine om_of (aStore_at (T := yT30) rfl (get_new _ _ _) rfl rfl (by decide)) ?_
                conv => whnf
                refine om_of (aLoad_ag (T := yT30) rfl rfl (cellsAt_of (get_set _ (by rw [len_new]; omega))) (Nat.le_of_ble_eq_true rfl)) ?_
                conv => whnf
                refine Fin.flat rfl (hfl _ _ _) ⟨?_, rfl⟩
                rw [hgood HG, if_neg (by rw [hk]; exact Bool.false_ne_true)]; rfl
          · rw [decide_eq_false (by omega)]
            have hrun : ¬ 0 < run isLetter ((t.drop n).drop m) := by rw [List.drop_of_length_le (by simp; omega)]; simp [run]
            have HG := not_or.2 ⟨NAB, hrun⟩
            conv => whnf
            refine CallF.to (number_to _ hall (by simp [List.length_take]; omega) _) ?_
            conv => whnf
            cases hk : numOk 0 ((t.drop n).take m) with
            | true =>
              conv => whnf
              refine om_of (aStore_at (T := yT30) rfl (get_new _ _ _) rfl rfl (by decide)) ?_
              conv => whnf
              refine om_of (aLoad_ag (T := yT30) rfl rfl (cellsAt_of (get_set _ (by rw [len_new]; omega))) (Nat.le_of_ble_eq_true rfl)) ?_
              conv => whnf
              refine Fin.flat rfl (hfl _ _ _) ⟨?_, rfl⟩
              rw [hgood HG, if_pos hk]; rfl
            | false =>
              conv => whnf
              refine om_of (aStore_at (T := yT30) rfl (get_new _ _ _) rfl rfl (by decide)) ?_
              conv => whnf
              refine om_of (aLoad_ag (T := yT30) rfl rfl (cellsAt_of (get_set _ (by rw [len_new]; omega))) (Nat.le_of_ble_eq_true rfl)) ?_
              conv => whnf
              refine Fin.flat rfl (hfl _ _ _) ⟨?_, rfl⟩
              rw [hgood HG, if_neg (by rw [hk]; exact Bool.false_ne_true)]; rfl
      · rw [decide_eq_false (show ¬ (1 : Int) < m by omega)]
        have NAB : ¬ (c.toNat = 48 ∧ 1 < m) := fun h => hA h.2
        conv => whnf
        refine ⟨_, wrap_i64 (n := (n : Int) + m) (by omega) (by omega), ?_⟩
        conv => whnf
        by_cases hlen : n + m < t.length
        · rw [decide_eq_true (by omega)]
          obtain ⟨d, hdd⟩ : ∃ d, t[n + m]? = some d := ⟨_, List.getElem?_eq_getElem hlen⟩
          have hrun := get_run isLetter t n m d hdd
          rw [← List.drop_drop] at hrun
          conv => whnf
          refine ⟨_, wrap_i64 (n := (n : Int) + m) (by omega) (by omega), ?_⟩
          conv => whnf
          refine ⟨n + m, d, by omega, hdd, ?_⟩
          conv => whnf
          refine CallF.to (letter_to d.toNat _) ?_
          conv => whnf
          cases hlet : isLetter d.toNat with
          | true =>
            rw [hlet] at hrun
            conv => whnf
            refine om_of (aStore_at (T := yT30) rfl (get_new _ _ _) rfl rfl (by decide)) ?_
            conv => whnf
            refine om_of (aLoad_ag (T := yT30) rfl rfl (cellsAt_of (get_set _ (by rw [len_new]; omega))) (Nat.le_of_ble_eq_true rfl)) ?_
            conv => whnf
            refine Fin.flat rfl (hfl _ _ _) ⟨?_, rfl⟩
            rw [hbad (.inr (of_decide_eq_true hrun))]; rfl
          | false =>
            rw [hlet] at hrun
            have hrun := of_decide_eq_false hrun
            have HG := not_or.2 ⟨NAB, hrun⟩
            conv => whnf
            refine CallF.to (number_to _ hall (by simp [List.length_take]; omega) _) ?_
            conv => whnf
            cases hk : numOk 0 ((t.drop n).take m) with
            | true =>
              conv => whnf
              refine om_of (aStore_at (T := yT30) rfl (get_new _ _ _) rfl rfl (by decide)) ?_
              conv => whnf
              refine om_of (aLoad_ag (T := yT30) rfl rfl (cellsAt_of (get_set _ (by rw [len_new]; omega))) (Nat.le_of_ble_eq_true rfl)) ?_
              conv => whnf
              refine Fin.flat rfl (hfl _ _ _) ⟨?_, rfl⟩
              rw [hgood HG, if_pos hk]; rfl
            | false =>
              conv => whnf
              refine om_of (aStore_at (T := yT30) rfl (get_new _ _ _) rfl rfl (by decide)) ?_
              conv => whnf
              refine om_of (aLoad_ag (T := yT30) rfl rfl (cellsAt_of (get_set _ (by rw [len_new]; omega))) (Nat.le_of_ble_eq_true rfl)) ?_
              conv => whnf
              refine Fin.flat rfl (hfl _ _ _) ⟨?_, rfl⟩
              rw [hgood HG, if_neg (by rw [hk]; exact Bool.false_ne_true)]; rfl
        · rw [decide_eq_false (by omega)]
          have hrun : ¬ 0 < run isLetter ((t.drop n).drop m) := by rw [List.drop_of_length_le (by simp; omega)]; simp [run]
          have HG := not_or.2 ⟨NAB, hrun⟩
          conv => whnf
          refine CallF.to (number_to _ hall (by simp [List.length_take]; omega) _) ?_
          conv => whnf
          cases hk : numOk 0 ((t.drop n).take m) with
          | true =>
            conv => whnf
            refine om_of (aStore_at (T := yT30) rfl (get_new _ _ _) rfl rfl (by decide)) ?_
            conv => whnf
            refine om_of (aLoad_ag (T := yT30) rfl rfl (cellsAt_of (get_set _ (by rw [len_new]; omega))) (Nat.le_of_ble_eq_true rfl)) ?_
            conv => whnf
            refine Fin.flat rfl (hfl _ _ _) ⟨?_, rfl⟩
            rw [hgood HG, if_pos hk]; rfl
          | false =>
            conv => whnf
            refine om_of (aStore_at (T := yT30) rfl (get_new _ _ _) rfl rfl (by decide)) ?_
            conv => whnf
            refine om_of (aLoad_ag (T := yT30) rfl rfl (cellsAt_of (get_set _ (by rw [len_new]; omega))) (Nat.le_of_ble_eq_true rfl)) ?_
            conv => whnf
            refine Fin.flat rfl (hfl _ _ _) ⟨?_, rfl⟩
            rw [hgood HG, if_neg (by rw [hk]; exact Bool.false_ne_true)]; rfl
    | false =>
      have hss : step (t.drop n) = match signs.find? (·.isPrefixOf (t.drop n)) with | some w => .tok 3 w.length | none => .err 9 := by
        rw [hd] at hb ⊢; exact step_sign c _ hb hl hg
      conv => whnf
      refine signs_to _ _ ?_
      conv => whnf
      refine sign_loop t n ht (by omega) σ.length _ _ signs _ (cellsAt_new _ _ _) (by decide) (by decide) ⟨_, by rw [get_old (by rw [len_new]; omega)]; exact get_new _ _ _⟩ _ 29 0 rfl (fun h e' h4 => ?_) (fun w h e' e he h4 h5 => ?_)
      · conv => whnf
        rw [h4]
        conv => whnf
        refine om_of (aStore_at (T := yT30) rfl (by rw [get_old (by rw [len_new]; omega)]; exact get_new _ _ _) rfl rfl (by decide)) ?_
        conv => whnf
        refine om_of (aLoad_ag (T := yT30) rfl rfl (cellsAt_of (get_set _ (by rw [len_new, len_new]; omega))) (Nat.le_of_ble_eq_true rfl)) ?_
        conv => whnf
        refine Fin.flat rfl ?_ ⟨?_, rfl⟩
        · rw [List.take_set_of_le (Nat.le_refl _), take_new _ _ _ _ (by rw [len_new]; omega), take_new _ _ _ _ (Nat.le_refl _), List.take_length]
        · rw [List.drop_zero] at h
          rw [hss, h]; rfl
      · conv => whnf
        rw [h4]
        conv => whnf
        refine om_of (aLoad_ag (T := yT30) rfl rfl (cellsAt_of (get_set _ (by rw [len_new, len_new]; omega))) (Nat.le_of_ble_eq_true rfl)) ?_
        conv => whnf
        rw [h5]
        conv => whnf
        refine Fin.flat rfl ?_ ⟨?_, rfl⟩
        · rw [List.take_set_of_le (Nat.le_refl _), take_new _ _ _ _ (by rw [len_new]; omega), take_new _ _ _ _ (Nat.le_refl _), List.take_length]
        · rw [List.drop_zero] at h
          rw [hss, h]
          have hw := List.find?_some h
          have hw := List.isPrefixOf_iff_prefix.1 hw
          rw [List.prefix_iff_eq_take] at hw
          simp only [wordV]
          rw [← hw]; rfl
end Go.Abs.YtjphfiieapclhaaDoor
