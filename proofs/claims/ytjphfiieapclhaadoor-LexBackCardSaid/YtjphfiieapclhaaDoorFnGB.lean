/- The lexer: all words of a text. -/
import Derived.Test.YtjphfiieapclhaaDoorFnFB
namespace Go.Abs.YtjphfiieapclhaaDoor
open Go.Proofs
set_option maxRecDepth 4000

theorem extGlobs {σ σ' : St} (h : Ext σ σ') (hg : σ.take G0.length = G0) : σ'.take G0.length = G0 := by
  have hl : G0.length ≤ σ.length := by have := congrArg List.length hg; rw [List.length_take] at this; omega
  apply List.ext_getElem?
  intro i
  rw [List.getElem?_take]
  split
  · rename_i hi; rw [h.old i (by omega)]; exact glob_at hg hi
  · rename_i hi; exact (List.getElem?_eq_none (by omega)).symm
theorem indexByte_run (s : List UInt8) : Lib.indexByte s 10 = if run (· != 10) s < s.length then (run (· != 10) s : Int) else -1 := by
  induction s with
  | nil => rfl
  | cons c s ih =>
    unfold Lib.indexByte
    by_cases h : c = 10
    · subst h
      simp [run]
    · have h1 : (c == 10) = false := by simpa using h
      have h2 : ((c.toNat : Int) != 10) = true := by
        have : c.toNat ≠ 10 := fun e => h (UInt8.toNat_inj.1 e)
        simp; omega
      rw [h1]
      simp only [Bool.false_eq_true, if_false, run, h2, if_true, List.length_cons, Nat.add_lt_add_iff_right]
      rw [ih]
      by_cases hr : run (· != 10) s < s.length
      · simp only [hr, if_true]
        have : ((run (· != 10) s : Int) == -1) = false := by simp <;> omega
        rw [this]; simp
      · simp only [hr, if_false]; simp

/-- Where the lexer stands: what is left, the line, the words so far. -/
structure LS (σ σ1 : St) (s : List UInt8) (l : Nat) (acc : List Tok) : Prop where
  x : Ext σ σ1
  b : σ1[σ.length]? = some ⟨0, false, .cells 9 [.s s]⟩
  o : ∃ out, σ1[σ.length + 1]? = some ⟨0, false, .cells 24 [out]⟩ ∧ OutAt (σ.length + 3) σ1 out acc
  n : σ1[σ.length + 2]? = some ⟨0, false, .cells 3 [.i .i64 l]⟩
section
variable {σ σ1 : St} {s : List UInt8} {l : Nat} {acc : List Tok}
theorem LS.new (h : LS σ σ1 s l acc) (e : Nat) (cs : List AV) : LS σ (newCells e cs σ1) s l acc := by
  obtain ⟨out, h1, h2⟩ := h.o
  exact ⟨h.x.new _ _, at_new h.b _ _, ⟨out, at_new h1 _ _, h2.new _ _⟩, at_new h.n _ _⟩
theorem LS.text (h : LS σ σ1 s l acc) (s' : List UInt8) : LS σ (σ1.set σ.length ⟨0, false, .cells 9 [.s s']⟩) s' l acc := by
  obtain ⟨out, h1, h2⟩ := h.o
  exact ⟨h.x.set (Nat.le_refl _) _, at_set h.b _, ⟨out, at_ne h1 (by omega) _, h2.lt _ (by omega)⟩, at_ne h.n (by omega) _⟩
theorem LS.line (h : LS σ σ1 s l acc) (l' : Nat) : LS σ (σ1.set (σ.length + 2) ⟨0, false, .cells 3 [.i .i64 l']⟩) s l' acc := by
  obtain ⟨out, h1, h2⟩ := h.o
  exact ⟨h.x.set (by omega) _, at_ne h.b (by omega) _, ⟨out, at_ne h1 (by omega) _, h2.lt _ (by omega)⟩, at_set h.n _⟩
end
theorem cut_to {σ σ1 : St} {s : List UInt8} {l : Nat} {acc : List Tok} (h : LS σ σ1 s l acc) (hacc : acc.length ≤ 100000) (kd n : Nat) (hn : 0 < n) (hs : n ≤ s.length) {Q : AV → St → Prop}
    (q : ∀ σ', LS σ σ' (s.drop n) l (acc ++ [⟨kd, s.take n, l⟩]) → Q (.tu []) σ') : CallF X 17 [.i .i64 kd, .i .i64 n, .p (σ.length + 1) 0 0, .p σ.length 0 0, .p (σ.length + 2) 0 0] σ1 Q := by
  obtain ⟨out, h1, h2⟩ := h.o
  refine CallF.body (F := F17) tyB_ok (lit := false) rfl rfl (Nat.le_of_ble_eq_true rfl) ?_
  rcases h2.cases with rfl | ⟨o1, g1, rfl⟩
  all_goals
    conv => whnf
    refine om_of (aLoad_at (T := yT24) rfl rfl (cellsAt_of h1) rfl) ?_
    conv => whnf
    refine om_of (aLoad_at (T := yT9) rfl rfl (cellsAt_of h.b) rfl) ?_
    conv => whnf
    refine ⟨n, rfl, hs, ?_⟩
    conv => whnf
    refine om_of (aLoad_at (T := yT3) rfl rfl (cellsAt_of h.n) rfl) ?_
    conv => whnf
    refine ⟨om_of (aLoad_at (T := yT24) rfl rfl (cellsAt_of (at_new h1 _ _)) rfl) rfl, ?_⟩
    conv => whnf
    refine app_tok (A := σ.length + 3) (tk := ⟨kd, s.take n, l⟩) (h2.new _ _) hacc (get_new _ _ _) (by rw [len_new]; have := lt_at h.n; omega) fun out2 σ5 ho5 hk5 hl5 _ => ?_
    have hb5 : σ5[σ.length]? = some ⟨0, false, .cells 9 [.s s]⟩ := by rw [hk5 _ (by omega)]; exact at_new h.b _ _
    obtain ⟨w5, ho5'⟩ : ∃ w5, σ5[σ.length + 1]? = some ⟨0, false, .cells 24 [w5]⟩ := ⟨_, by rw [hk5 _ (by omega)]; exact at_new h1 _ _⟩
    have hn5 : σ5[σ.length + 2]? = some ⟨0, false, .cells 3 [.i .i64 l]⟩ := by rw [hk5 _ (by omega)]; exact at_new h.n _ _
    have hx5 : Ext σ σ5 := ⟨by omega, fun i hi => by rw [hk5 i (by omega)]; exact (h.x.new _ _).old i hi⟩
    have fin : ∀ σ6, σ6 = (σ5.set (σ.length + 1) ⟨0, false, .cells 24 [out2]⟩).set σ.length ⟨0, false, .cells 9 [.s (s.drop n)]⟩ → Fin σ1 (.tu []) σ6 Q := by
      intro σ6 e6
      subst e6
      refine Fin.ne (fun e => ?_) (q _ ⟨(hx5.set (by omega) _).set (Nat.le_refl _) _, at_set (at_ne hb5 (by omega) _) _, ⟨out2, at_ne (at_set ho5' _) (by omega) _, (ho5.lt _ (by omega)).lt _ (by omega)⟩, at_ne (at_ne hn5 (by omega) _) (by omega) _⟩)
      have e1 := congrArg (fun l => l[σ.length]?) e
      have hlt := lt_at h.b
      simp only [List.getElem?_take] at e1
      rw [if_pos hlt, h.b, at_set (at_ne hb5 (by omega) _)] at e1
      have e2 : s.drop n = s := by simpa using e1
      have e3 := congrArg List.length e2
      rw [List.length_drop] at e3; omega
    rcases ho5.cases with rfl | ⟨o3, g3, rfl⟩
    all_goals
      conv => whnf
      refine om_of (aStore_to (T := yT24) [_] rfl ho5' rfl rfl (Nat.le_of_ble_eq_true rfl) rfl) ?_
      conv => whnf
      refine om_of (aLoad_at (T := yT9) rfl rfl (cellsAt_of (at_ne hb5 (by omega) _)) rfl) ?_
      conv => whnf
      refine ⟨n, rfl, hs, ?_⟩
      conv => whnf
      refine om_of (aStore_to (T := yT9) [.s (s.drop n)] rfl (at_ne hb5 (by omega) _) rfl rfl (Nat.le_of_ble_eq_true rfl) rfl) ?_
      conv => whnf
      exact fin _ rfl

theorem runWord : (fun c : Int => [2, 3].contains (kindOf c)) = isWord := by
  funext c
  unfold kindOf isWord
  by_cases hb : isBlank c = true
  · have h1 : isLetter c = false := by simp [isBlank] at hb; simp [isLetter]; omega
    have h2 : isDigit c = false := by simp [isBlank] at hb; simp [isDigit]; omega
    simp [hb, h1, h2]
  · cases h1 : isLetter c <;> cases h2 : isDigit c <;> cases h3 : isOne c <;> simp [hb]
theorem runDigit : (fun c : Int => [3].contains (kindOf c)) = isDigit := by
  funext c
  unfold kindOf
  by_cases hb : isBlank c = true
  · have h2 : isDigit c = false := by simp [isBlank] at hb; simp [isDigit]; omega
    simp [hb, h2]
  · cases h1 : isLetter c <;> cases h2 : isDigit c <;> cases h3 : isOne c <;> simp [hb]
    all_goals (exfalso; simp [isLetter] at h1; simp [isDigit] at h2; omega)
theorem runLetter : (fun c : Int => [2].contains (kindOf c)) = isLetter := by
  funext c
  unfold kindOf
  by_cases hb : isBlank c = true
  · have h2 : isLetter c = false := by simp [isBlank] at hb; simp [isLetter]; omega
    simp [hb, h2]
  · cases h1 : isLetter c <;> cases h2 : isDigit c <;> cases h3 : isOne c <;> simp [hb]
theorem longWord (t : List UInt8) (ht : t.length ≤ 100000) (σ : St) : CallF X 21 [.s t, .sl σ.length 0 0 2 1] (newCells 53 [.i .i64 2, .i .i64 3] σ) fun v s => v = .i .i64 (run isWord t) ∧ s = newCells 53 [.i .i64 2, .i .i64 3] σ := by
  have := long_to t ht [2, 3] (by decide) (by decide) σ.length 0 _ (cellsAt_new 53 [.i .i64 2, .i .i64 3] σ)
  rw [runWord] at this; exact this
theorem longDigit (t : List UInt8) (ht : t.length ≤ 100000) (σ : St) : CallF X 21 [.s t, .sl σ.length 0 0 1 1] (newCells 53 [.i .i64 3] σ) fun v s => v = .i .i64 (run isDigit t) ∧ s = newCells 53 [.i .i64 3] σ := by
  have := long_to t ht [3] (by decide) (by decide) σ.length 0 _ (cellsAt_new 53 [.i .i64 3] σ)
  rw [runDigit] at this; exact this
theorem longLetter (t : List UInt8) (ht : t.length ≤ 100000) (σ : St) : CallF X 21 [.s t, .sl σ.length 0 0 1 1] (newCells 53 [.i .i64 2] σ) fun v s => v = .i .i64 (run isLetter t) ∧ s = newCells 53 [.i .i64 2] σ := by
  have := long_to t ht [2] (by decide) (by decide) σ.length 0 _ (cellsAt_new 53 [.i .i64 2] σ)
  rw [runLetter] at this; exact this
/-- strconv.ParseUint at a row of digits: whether there is an error. -/
def noNum : Lib.NumEnd Nat → Bool
  | .ok _ => false
  | .range => false
  | _ => true
theorem parseM_no : ∀ (l : List UInt8) (M v : Nat), (∀ c ∈ l, isDigit c.toNat = true) → noNum (Lib.parseUintM M v l) = false
  | [], M, v, _ => by simp [Lib.parseUintM, noNum]
  | c :: r, M, v, hd => by
    have h1 := hd c (List.mem_cons_self ..)
    simp only [isDigit, Bool.and_eq_true, decide_eq_true_eq] at h1
    unfold Lib.parseUintM
    rw [if_pos (by omega)]
    split
    · rfl
    · split
      · rfl
      · exact parseM_no r M _ fun c hc => hd c (List.mem_cons_of_mem _ hc)
theorem parse_to (l : List UInt8) (hd : ∀ c ∈ l, isDigit c.toNat = true) (hn : l ≠ []) (hl : l.length ≤ 100000) (σ : St) (hg : σ.take G0.length = G0) (Q : AV → St → Prop)
    (h1 : tooBig l = false → ∀ u : Nat, Q (.tu [.i .u64 u, .ic0]) σ) (h2 : tooBig l = true → Q (.tu [.i .u64 4294967295, .ic 109 .u]) σ) :
    CallF X 23 [.s l, .i .i64 10, .i .i64 32] σ Q := by
  refine CallF.of ?_
  rw [EvF_prim (g := pParseUint) rfl]
  have hp : noNum (Lib.parseUintB 32 l) = false := by unfold Lib.parseUintB; rw [if_neg hn]; exact parseM_no l _ _ hd
  have h5 : σ[5]? = G0[5]? := glob_at hg (by decide)
  unfold pParseUint
  simp only
  rw [if_pos (by omega)]
  unfold tooBig at h1 h2
  generalize Lib.parseUintB 32 l = r at hp h1 h2
  cases r
  · exact ⟨_, rfl, h1 rfl _⟩
  · cases hp
  · simp only
    rw [h5]
    exact ⟨_, rfl, h2 rfl⟩

set_option maxHeartbeats 4000000 in
theorem ltok_loop (σ : St) (hg : σ.take G0.length = G0) (Q : Out → Env → St → Prop) : ∀ (k : Nat) (s : List UInt8) (l : Nat) (acc : List Tok) (σ1 : St), s.length ≤ k → l + k ≤ 32768 → acc.length + k ≤ 32768 → LS σ σ1 s l acc →
    (∀ acc' l' e' σ' s', lexG k s l acc = .done acc' l' → acc'.length ≤ 32768 → LS σ σ' s' l' acc' → get e' 4 = .p (σ.length + 1) 0 0 → get e' 5 = .p (σ.length + 2) 0 0 → get e' 7 = .i .i64 0 → Q (.exit 0) e' σ') →
    (∀ e l' e' σ' s' acc', lexG k s l acc = .bad e l' → (e = 3 ∨ e = 9) → LS σ σ' s' l' acc' → get e' 4 = .p (σ.length + 1) 0 0 → get e' 5 = .p (σ.length + 2) 0 0 → get e' 7 = .i .i64 e → Q (.exit 0) e' σ') →
    LoopF X [1, 4, 5, 6, 7] c10L0 [(1, .p σ.length 0 0), (4, .p (σ.length + 1) 0 0), (5, .p (σ.length + 2) 0 0), (6, .fn (.func 17) [] [.p (σ.length + 1) 0 0, .p σ.length 0 0, .p (σ.length + 2) 0 0]), (7, .i .i64 0)] σ1 Q := by
  intro k
  induction k with
  | zero =>
    intro s l acc σ1 hk hl hacc h h1 h2
    obtain rfl : s = [] := List.length_eq_zero_iff.1 (by omega)
    refine LoopF.round tyB_ok (lit := false) ?_
    conv => whnf
    refine om_of (aLoad_at (T := yT9) rfl rfl (cellsAt_of h.b) rfl) ?_
    conv => whnf
    exact h1 acc l _ σ1 [] rfl (by omega) h rfl rfl rfl
  | succ k ih =>
    intro s l acc σ1 hk hl hacc h h1 h2
    cases s with
    | nil =>
      refine LoopF.round tyB_ok (lit := false) ?_
      conv => whnf
      refine om_of (aLoad_at (T := yT9) rfl rfl (cellsAt_of h.b) rfl) ?_
      conv => whnf
      exact h1 acc l _ σ1 [] rfl (by omega) h rfl rfl rfl
    | cons c r =>
      generalize hs : c :: r = s at *
      have hlen : s.length = r.length + 1 := by rw [← hs]; rfl
      have h0 : s[0]? = some c := by rw [← hs]; rfl
      have hfit := step_fits c r
      rw [hs] at hfit
      have hG : lexG (k + 1) s l acc = match step s with
          | .skip k' nl => lexG k (s.drop k') (l + nl) acc
          | .tok kd m => lexG k (s.drop m) l (acc ++ [⟨kd, s.take m, l⟩])
          | .err e => .bad e l := by
        rw [← hs]; rfl
      rw [hG] at h1 h2
      have hgl := extGlobs h.x hg
      refine LoopF.round tyB_ok (lit := false) ?_
      conv => whnf
      refine om_of (aLoad_at (T := yT9) rfl rfl (cellsAt_of h.b) rfl) ?_
      conv => whnf
      rw [decide_eq_true (by omega)]
      conv => whnf
      refine om_of (aLoad_at (T := yT9) rfl rfl (cellsAt_of h.b) rfl) ?_
      conv => whnf
      refine CallF.to (prefix_to s [47, 47] σ1) ?_
      cases hp : [47, 47].isPrefixOf s with
      | true =>
        have hst : step s = .skip (run (· != 10) s) 0 := by unfold step; rw [hp]; rfl
        rw [hst] at h1 h2 hfit
        simp only [Stp.fits, Nat.add_zero] at hfit h1 h2
        have goal : ∀ σ2, σ2 = σ1.set σ.length ⟨0, false, .cells 9 [.s (s.drop (run (· != 10) s))]⟩ → LoopF X [1, 4, 5, 6, 7] c10L0 [(1, .p σ.length 0 0), (4, .p (σ.length + 1) 0 0), (5, .p (σ.length + 2) 0 0), (6, .fn (.func 17) [] [.p (σ.length + 1) 0 0, .p σ.length 0 0, .p (σ.length + 2) 0 0]), (7, .i .i64 0)] σ2 Q := by
          intro σ2 e
          subst e
          exact ih _ l acc _ (by rw [List.length_drop]; omega) (by omega) (by omega) (h.text _) h1 h2
        conv => whnf
        refine om_of (aLoad_at (T := yT9) rfl rfl (cellsAt_of h.b) rfl) ?_
        conv => whnf
        refine indexByte_to _ _ _ _ ?_
        rw [show ((10 : Int).toNat.toUInt8) = 10 from rfl, indexByte_run]
        by_cases hr : run (· != 10) s < s.length
        · rw [if_pos hr]
          conv => whnf
          refine om_of (aLoad_at (T := yT9) rfl rfl (cellsAt_of h.b) rfl) ?_
          conv => whnf
          refine ⟨run (· != 10) s, rfl, by omega, ?_⟩
          conv => whnf
          refine om_of (aStore_to (T := yT9) [.s (s.drop (run (· != 10) s))] rfl h.b rfl rfl (Nat.le_of_ble_eq_true rfl) rfl) ?_
          conv => whnf
          exact goal _ rfl
        · rw [if_neg hr]
          have hre : s.length = run (· != 10) s := by omega
          conv => whnf
          refine om_of (aLoad_at (T := yT9) rfl rfl (cellsAt_of h.b) rfl) ?_
          conv => whnf
          refine om_of (aLoad_at (T := yT9) rfl rfl (cellsAt_of h.b) rfl) ?_
          conv => whnf
          refine ⟨run (· != 10) s, by rw [hre], by omega, ?_⟩
          conv => whnf
          refine om_of (aStore_to (T := yT9) [.s (s.drop (run (· != 10) s))] rfl h.b rfl rfl (Nat.le_of_ble_eq_true rfl) rfl) ?_
          conv => whnf
          exact goal _ rfl
      | false =>
        conv => whnf
        refine om_of (aLoad_at (T := yT9) rfl rfl (cellsAt_of h.b) rfl) ?_
        conv => whnf
        refine ⟨0, c, rfl, h0, ?_⟩
        conv => whnf
        refine ⟨_, wrap_i32 (by omega) (by have := c.toNat_lt; omega), ?_⟩
        conv => whnf
        refine CallF.to (of_to c.toNat (by have := c.toNat_lt; omega) σ1) ?_
        cases hb : isBlank c.toNat with
        | true =>
          have hst : step s = .skip 1 (if c.toNat = 10 then 1 else 0) := by
            unfold step; rw [hp, ← hs]; simp only [hb, Bool.false_eq_true, if_false, if_true]
          rw [hst] at h1 h2
          simp only at h1 h2
          rw [show kindOf c.toNat = 1 by unfold kindOf; rw [hb]; rfl]
          conv => whnf
          refine om_of (aLoad_at (T := yT9) rfl rfl (cellsAt_of h.b) rfl) ?_
          conv => whnf
          refine ⟨0, c, rfl, h0, ?_⟩
          conv => whnf
          by_cases h10 : c.toNat = 10
          · rw [decide_eq_true (show (c.toNat : Int) = 10 by omega)]
            rw [if_pos h10] at h1 h2
            conv => whnf
            refine om_of (aLoad_at (T := yT3) rfl rfl (cellsAt_of h.n) rfl) ?_
            conv => whnf
            refine ⟨((l + 1 : Nat) : Int), wrap_i64 (by omega) (by omega), ?_⟩
            conv => whnf
            refine om_of (aStore_to (T := yT3) [.i .i64 ((l + 1 : Nat) : Int)] rfl h.n rfl rfl (Nat.le_of_ble_eq_true rfl) rfl) ?_
            conv => whnf
            refine om_of (aLoad_at (T := yT9) rfl rfl (cellsAt_of (h.line (l + 1)).b) rfl) ?_
            conv => whnf
            refine ⟨1, rfl, by omega, ?_⟩
            conv => whnf
            refine om_of (aStore_to (T := yT9) [.s (s.drop 1)] rfl (h.line (l + 1)).b rfl rfl (Nat.le_of_ble_eq_true rfl) rfl) ?_
            conv => whnf
            exact ih _ (l + 1) acc _ (by rw [List.length_drop]; omega) (by omega) (by omega) ((h.line (l + 1)).text _) h1 h2
          · rw [decide_eq_false (show ¬ (c.toNat : Int) = 10 by omega)]
            rw [if_neg h10] at h1 h2
            conv => whnf
            refine om_of (aLoad_at (T := yT9) rfl rfl (cellsAt_of h.b) rfl) ?_
            conv => whnf
            refine ⟨1, rfl, by omega, ?_⟩
            conv => whnf
            refine om_of (aStore_to (T := yT9) [.s (s.drop 1)] rfl h.b rfl rfl (Nat.le_of_ble_eq_true rfl) rfl) ?_
            conv => whnf
            exact ih _ l acc _ (by rw [List.length_drop]; omega) (by omega) (by omega) (h.text _) h1 h2
        | false =>
          cases hl1 : isLetter c.toNat with
          | true =>
            have hst : step s = if 32 < run isWord s then .err 9 else if keys.contains (s.take (run isWord s)) then .tok 4 (run isWord s) else .tok 1 (run isWord s) := by
              unfold step; rw [hp, ← hs]; simp only [hb, hl1, Bool.false_eq_true, if_false, if_true]
            have hrl := run_le isWord s
            have hrp : 0 < run isWord s := by rw [← hs]; exact run_pos _ (by simp [isWord, hl1])
            rw [show kindOf c.toNat = 2 by unfold kindOf; rw [hb, hl1]; rfl]
            conv => whnf
            refine om_of (aLoad_at (T := yT9) rfl rfl (cellsAt_of h.b) rfl) ?_
            conv => whnf
            refine CallF.to (longWord s (by omega) σ1) ?_
            conv => whnf
            have h' := h.new 53 [.i .i64 2, .i .i64 3]
            have hg' := extGlobs h'.x hg
            by_cases h32 : 32 < run isWord s
            · rw [decide_eq_true (by omega)]
              conv => whnf
              rw [hst, if_pos h32] at h2
              exact h2 9 l _ _ s acc rfl (.inr rfl) h' rfl rfl rfl
            · rw [decide_eq_false (by omega)]
              conv => whnf
              refine om_of (aLoad_at (T := yT9) rfl rfl (cellsAt_of h'.b) rfl) ?_
              conv => whnf
              refine ⟨run isWord s, rfl, hrl, ?_⟩
              conv => whnf
              refine lkeys_to _ _ hg' ?_
              conv => whnf
              have h'' := h'.new 9 (keys.map .s)
              refine ⟨om_of (aLoad_at (T := yT9) rfl rfl (cellsAt_of h''.b) rfl) rfl, ⟨run isWord s, rfl, hrl, rfl⟩, ?_⟩
              conv => whnf
              refine CallF.to (strC_to _ _ _ keys _ (cellsAt_new _ _ _) (by decide)) ?_
              cases hk : keys.contains (s.take (run isWord s)) with
              | true =>
                rw [hst, if_neg h32, if_pos hk] at h1 h2
                conv => whnf
                refine cut_to h'' (by omega) 4 (run isWord s) hrp hrl fun σ3 h3 => ?_
                conv => whnf
                exact ih _ l _ σ3 (by rw [List.length_drop]; omega) (by omega) (by simp; omega) h3 h1 h2
              | false =>
                rw [hst, if_neg h32, if_neg (by rw [hk]; exact Bool.false_ne_true)] at h1 h2
                conv => whnf
                refine cut_to h'' (by omega) 1 (run isWord s) hrp hrl fun σ3 h3 => ?_
                conv => whnf
                exact ih _ l _ σ3 (by rw [List.length_drop]; omega) (by omega) (by simp; omega) h3 h1 h2
          | false =>
            cases hg1 : isDigit c.toNat with
            | true =>
              have hst : step s = if (c.toNat = 48 ∧ 1 < run isDigit s) ∨ 0 < run isLetter (s.drop (run isDigit s)) then .err 9
                  else if tooBig (s.take (run isDigit s)) then .err 3 else .tok 2 (run isDigit s) := by
                unfold step; rw [hp, ← hs]; simp only [hb, hl1, hg1, Bool.false_eq_true, if_false, if_true]
              have hrl := run_le isDigit s
              have hrp : 0 < run isDigit s := by rw [← hs]; exact run_pos _ hg1
              have hne : s.take (run isDigit s) ≠ [] := fun e => by have := congrArg List.length e; rw [List.length_take, List.length_nil] at this; omega
              rw [show kindOf c.toNat = 3 by unfold kindOf; rw [hb, hl1, hg1]; rfl]
              conv => whnf
              refine om_of (aLoad_at (T := yT9) rfl rfl (cellsAt_of h.b) rfl) ?_
              conv => whnf
              refine CallF.to (longDigit s (by omega) σ1) ?_
              conv => whnf
              have h' := h.new 53 [.i .i64 3]
              refine om_of (aLoad_at (T := yT9) rfl rfl (cellsAt_of h'.b) rfl) ?_
              conv => whnf
              refine ⟨0, c, rfl, h0, ?_⟩
              conv => whnf
              by_cases hA : c.toNat = 48
              · rw [decide_eq_true (show (c.toNat : Int) = 48 by omega)]
                conv => whnf
                by_cases hB : 1 < run isDigit s
                · rw [decide_eq_true (by omega)]
                  conv => whnf
                  rw [hst, if_pos (.inl ⟨hA, hB⟩)] at h2
                  exact h2 9 l _ _ s acc rfl (.inr rfl) h' rfl rfl rfl
                · rw [decide_eq_false (by omega)]
                  conv => whnf
                  refine om_of (aLoad_at (T := yT9) rfl rfl (cellsAt_of h'.b) rfl) ?_
                  conv => whnf
                  refine ⟨run isDigit s, rfl, hrl, ?_⟩
                  conv => whnf
                  refine CallF.to (longLetter _ (by rw [List.length_drop]; omega) _) ?_
                  conv => whnf
                  have h'' := h'.new 53 [.i .i64 2]
                  by_cases hC : 0 < run isLetter (s.drop (run isDigit s))
                  · rw [decide_eq_true (by omega)]
                    conv => whnf
                    rw [hst, if_pos (.inr hC)] at h2
                    exact h2 9 l _ _ s acc rfl (.inr rfl) h'' rfl rfl rfl
                  · rw [decide_eq_false (by omega)]
                    rw [hst, if_neg (not_or.2 ⟨fun h => hB h.2, hC⟩)] at h1 h2
                    conv => whnf
                    refine om_of (aLoad_at (T := yT9) rfl rfl (cellsAt_of h''.b) rfl) ?_
                    conv => whnf
                    refine ⟨run isDigit s, rfl, hrl, ?_⟩
                    conv => whnf
                    refine parse_to _ (run_all isDigit s) hne (by rw [List.length_take]; omega) _ (extGlobs (LS.x h'') hg) _ (fun hbig u => ?_) (fun hbig => ?_)
                    · conv => whnf
                      rw [if_neg (by rw [hbig]; exact Bool.false_ne_true)] at h1 h2
                      refine cut_to h'' (by omega) 2 (run isDigit s) hrp hrl fun σ3 h3 => ?_
                      conv => whnf
                      exact ih _ l _ σ3 (by rw [List.length_drop]; omega) (by omega) (by simp; omega) h3 h1 h2
                    · conv => whnf
                      rw [if_pos hbig] at h1 h2
                      exact h2 3 l _ _ s acc rfl (.inl rfl) h'' rfl rfl rfl
              · rw [decide_eq_false (show ¬ (c.toNat : Int) = 48 by omega)]
                conv => whnf
                refine om_of (aLoad_at (T := yT9) rfl rfl (cellsAt_of h'.b) rfl) ?_
                conv => whnf
                refine ⟨run isDigit s, rfl, hrl, ?_⟩
                conv => whnf
                refine CallF.to (longLetter _ (by rw [List.length_drop]; omega) _) ?_
                conv => whnf
                have h'' := h'.new 53 [.i .i64 2]
                by_cases hC : 0 < run isLetter (s.drop (run isDigit s))
                · rw [decide_eq_true (by omega)]
                  conv => whnf
                  rw [hst, if_pos (.inr hC)] at h2
                  exact h2 9 l _ _ s acc rfl (.inr rfl) h'' rfl rfl rfl
                · rw [decide_eq_false (by omega)]
                  rw [hst, if_neg (not_or.2 ⟨fun h => hA h.1, hC⟩)] at h1 h2
                  conv => whnf
                  refine om_of (aLoad_at (T := yT9) rfl rfl (cellsAt_of h''.b) rfl) ?_
                  conv => whnf
                  refine ⟨run isDigit s, rfl, hrl, ?_⟩
                  conv => whnf
                  refine parse_to _ (run_all isDigit s) hne (by rw [List.length_take]; omega) _ (extGlobs (LS.x h'') hg) _ (fun hbig u => ?_) (fun hbig => ?_)
                  · conv => whnf
                    rw [if_neg (by rw [hbig]; exact Bool.false_ne_true)] at h1 h2
                    refine cut_to h'' (by omega) 2 (run isDigit s) hrp hrl fun σ3 h3 => ?_
                    conv => whnf
                    exact ih _ l _ σ3 (by rw [List.length_drop]; omega) (by omega) (by simp; omega) h3 h1 h2
                  · conv => whnf
                    rw [if_pos hbig] at h1 h2
                    exact h2 3 l _ _ s acc rfl (.inl rfl) h'' rfl rfl rfl
            | false =>
              cases ho1 : isOne c.toNat with
              | true =>
                have hst : step s = if twos.contains (s.take 2) then .tok 3 2 else .tok 3 1 := by
                  unfold step; rw [hp, ← hs]; simp only [hb, hl1, hg1, ho1, Bool.false_eq_true, if_false, if_true]
                rw [show kindOf c.toNat = 4 by unfold kindOf; rw [hb, hl1, hg1, ho1]; rfl]
                conv => whnf
                refine om_of (aLoad_at (T := yT9) rfl rfl (cellsAt_of h.b) rfl) ?_
                conv => whnf
                refine CallF.to (two_to s σ1 hgl) ?_
                cases hk : twos.contains (s.take 2) with
                | true =>
                  rw [hst, if_pos hk] at h1 h2 hfit
                  simp only [Stp.fits] at hfit
                  conv => whnf
                  refine cut_to h (by omega) 3 2 (by omega) hfit.2.1 fun σ3 h3 => ?_
                  conv => whnf
                  exact ih _ l _ σ3 (by rw [List.length_drop]; omega) (by omega) (by simp; omega) h3 h1 h2
                | false =>
                  rw [hst, if_neg (by rw [hk]; exact Bool.false_ne_true)] at h1 h2
                  conv => whnf
                  refine cut_to h (by omega) 3 1 (by omega) (by omega) fun σ3 h3 => ?_
                  conv => whnf
                  exact ih _ l _ σ3 (by rw [List.length_drop]; omega) (by omega) (by simp; omega) h3 h1 h2
              | false =>
                have hst : step s = .err 9 := by
                  unfold step; rw [hp, ← hs]; simp only [hb, hl1, hg1, ho1, Bool.false_eq_true, if_false]
                rw [show kindOf c.toNat = 0 by unfold kindOf; rw [hb, hl1, hg1, ho1]; rfl]
                conv => whnf
                rw [hst] at h2
                exact h2 9 l _ _ s acc rfl (.inr rfl) h rfl rfl rfl
end Go.Abs.YtjphfiieapclhaaDoor
