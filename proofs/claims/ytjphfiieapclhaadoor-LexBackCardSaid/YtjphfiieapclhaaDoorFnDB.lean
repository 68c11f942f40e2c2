/- The document's lexer: all words of a text. -/
import Derived.Test.YtjphfiieapclhaaDoorFnCB
namespace Go.Abs.YtjphfiieapclhaaDoor
open Go.Proofs
set_option maxRecDepth 4000

def toksV (l : List Tok) : List AV := l.flatMap fun t => tokV t.k t.s t.l
theorem toksV_len : ∀ l : List Tok, (toksV l).length = l.length * 3
  | [] => rfl
  | t :: l => by have := toksV_len l; simp only [toksV, List.flatMap_cons, List.length_append, List.length_cons] at this ⊢; rw [this]; simp [tokV]; omega
theorem toksV_one : ∀ l : List Tok, (toksV l).all AV.one = true
  | [] => rfl
  | t :: l => by have := toksV_one l; simp only [toksV, List.flatMap_cons, List.all_append] at this ⊢; rw [this]; simp [tokV, AV.one]
theorem toksV_snoc (l : List Tok) (t : Tok) : toksV (l ++ [t]) = toksV l ++ tokV t.k t.s t.l := by simp [toksV, List.flatMap_append]
theorem toksV_all (l : List Tok) : ((toksV l).drop 0).take (l.length * 3) = toksV l := by rw [List.drop_zero, List.take_of_length_le (by rw [toksV_len]; omega)]
/-- A list of words, as it lies. -/
def OutAt (A : Nat) (σ : St) (out : AV) (acc : List Tok) : Prop := (acc = [] ∧ out = .sl0) ∨ ∃ o g, A ≤ o ∧ out = .sl o g 0 acc.length 3 ∧ σ[o]? = some ⟨g, false, .cells 30 (toksV acc)⟩
theorem OutAt.new {A : Nat} {σ : St} {out : AV} {acc : List Tok} (h : OutAt A σ out acc) (e : Nat) (cs : List AV) : OutAt A (newCells e cs σ) out acc := by
  rcases h with h | ⟨o, g, h1, h2, h3⟩
  · exact .inl h
  · exact .inr ⟨o, g, h1, h2, at_new h3 e cs⟩
theorem OutAt.lt {A : Nat} {σ : St} {out : AV} {acc : List Tok} (h : OutAt A σ out acc) {i : Nat} (a : AO) (hi : i < A) : OutAt A (σ.set i a) out acc := by
  rcases h with h | ⟨o, g, h1, h2, h3⟩
  · exact .inl h
  · exact .inr ⟨o, g, h1, h2, at_ne h3 (by omega) a⟩
theorem OutAt.ge {A : Nat} {σ σ' : St} {out : AV} {acc : List Tok} (h : OutAt A σ out acc) (he : Ext σ σ') : OutAt A σ' out acc := by
  rcases h with h | ⟨o, g, h1, h2, h3⟩
  · exact .inl h
  · exact .inr ⟨o, g, h1, h2, he.get h3⟩
theorem OutAt.cases {A : Nat} {σ : St} {v : AV} {acc : List Tok} (h : OutAt A σ v acc) : v = .sl0 ∨ ∃ o g, v = .sl o g 0 acc.length 3 := by
  rcases h with ⟨_, rfl⟩ | ⟨o, g, _, rfl, _⟩
  · exact .inl rfl
  · exact .inr ⟨o, g, rfl⟩
/-- One more word is appended. -/
theorem app_tok {A : Nat} {σ : St} {out : AV} {acc : List Tok} (h : OutAt A σ out acc) (tk : Tok) (hl : acc.length ≤ 100000) {C : Nat} (hC : σ[C]? = some ⟨0, false, .cells 30 (tokV tk.k tk.s tk.l)⟩) (hA : A ≤ σ.length) {Q : AV → St → Prop}
    (q : ∀ out' σ', OutAt A σ' out' (acc ++ [tk]) → (∀ i, i < A → σ'[i]? = σ[i]?) → A ≤ σ'.length → (∀ i, i < σ.length → (∀ o g n z, out = .sl o g 0 n z → i ≠ o) → σ'[i]? = σ[i]?) → Q out' σ') :
    AppF tyB.get false 24 out (.sl C 0 0 1 3) σ Q := by
  constructor
  refine om_of (v := yT24) rfl ?_
  refine om_of (v := yT30) rfl ?_
  refine om_of (srcCells_at hC (Nat.le_of_ble_eq_true rfl)) ?_
  rcases h with ⟨rfl, rfl⟩ | ⟨o, g, h1, rfl, h3⟩
  · refine ⟨Nat.le_of_ble_eq_true rfl, ?_⟩
    refine q _ _ (.inr ⟨σ.length, 0, hA, rfl, ?_⟩) (fun i hi => get_old (by omega)) (by rw [len_new]; omega) (fun i hi _ => get_old hi)
    rw [get_new]; rfl
  · refine om_of (ownAt_of h3) ?_
    refine ⟨rfl, by rw [toksV_len]; omega, ?_, by rw [toksV_all]; exact toksV_one acc, ?_⟩
    · show (acc.length + 1) * 32 ≤ _; omega
    refine q _ _ (.inr ⟨o, g + 1, h1, by simp, ?_⟩) (fun i hi => by rw [List.getElem?_set_ne (by omega)]) (by rw [List.length_set]; exact hA) (fun i hi hne => by rw [List.getElem?_set_ne (fun e => hne o g _ _ rfl e.symm)])
    rw [at_set h3, toksV_all, toksV_snoc]; rfl

theorem step_blank (c : UInt8) (r : List UInt8) (h : 0 < blankLen (c :: r)) : step (c :: r) = .skip (blankLen (c :: r)) (if c.toNat = 10 then 1 else 0) := by
  unfold blankLen at h ⊢
  unfold step
  simp only at h ⊢
  split at h
  · rename_i hb
    have hr : [47, 47].isPrefixOf (c :: r) = false := by
      cases hp : [47, 47].isPrefixOf (c :: r) with
      | false => rfl
      | true =>
        have hc : c = 47 := by simp [List.isPrefixOf] at hp; exact hp.1.symm
        subst hc; simp [isBlank] at hb
    rw [hr]; simp [hb]
  · rename_i hb
    split at h
    · rename_i hp
      have hc : c = 47 := by simp [List.isPrefixOf] at hp; exact hp.1.symm
      rw [hp]; subst hc; simp [isBlank]
    · omega
theorem step_word (c : UInt8) (r : List UInt8) (h : blankLen (c :: r) = 0) : ∀ n nl, step (c :: r) ≠ .skip n nl := by
  intro n nl
  have hbl : isBlank c.toNat = false := by
    cases hb : isBlank c.toNat with
    | false => rfl
    | true => simp [blankLen, hb] at h
  have hr : [47, 47].isPrefixOf (c :: r) = false := by
    cases hp : [47, 47].isPrefixOf (c :: r) with
    | false => rfl
    | true =>
      have hc : c = 47 := by simp [List.isPrefixOf] at hp; exact hp.1.symm
      subst hc
      simp only [blankLen, hbl, hp, Bool.false_eq_true, if_false, if_true] at h
      have := run_pos (p := (· != 10)) r (c := 47) (by decide)
      omega
  unfold step
  rw [hr]
  simp only [hbl, Bool.false_eq_true, if_false]
  repeat' split
  all_goals (intro e; cases e)

theorem rtok_loop (t : List UInt8) (ht : t.length ≤ 32768) (σ : St) (Q : Out → Env → St → Prop) : ∀ (k n l : Nat) (acc : List Tok) (out : AV) (σ1 : St), n ≤ t.length → t.length ≤ n + k → l ≤ n → acc.length ≤ n → Ext σ σ1 → σ1[σ.length]? = some ⟨0, false, .cells 43 [.i .i64 0, .i .i64 0]⟩ → OutAt (σ.length + 1) σ1 out acc →
    (∀ acc' l' e' σ' out', lexG k (t.drop n) l acc = .done acc' l' → acc'.length ≤ t.length → Ext σ σ' → σ'[σ.length]? = some ⟨0, false, .cells 43 [.i .i64 0, .i .i64 0]⟩ → OutAt (σ.length + 1) σ' out' acc' → get e' 3 = .p σ.length 0 0 → get e' 4 = out' → get e' 5 = .i .i64 l' → Q (.exit 0) e' σ') →
    (∀ e l' e' σ', lexG k (t.drop n) l acc = .bad e l' → Ext σ σ' → σ'[σ.length]? = some ⟨0, false, .cells 43 [.i .i64 e, .i .i64 l']⟩ → get e' 3 = .p σ.length 0 0 → get e' 2 = .sl0 → Q .ret e' σ') →
    LoopF X [0, 3, 4, 5, 6] c13L0 [(0, .s t), (3, .p σ.length 0 0), (4, out), (5, .i .i64 l), (6, .i .i64 n)] σ1 Q := by
  intro k
  induction k with
  | zero =>
    intro n l acc out σ1 hn hk hl hacc hx hf ho h1 h2
    have hd : t.drop n = [] := List.drop_of_length_le (by omega)
    rcases ho.cases with rfl | ⟨o1, g1, rfl⟩
    all_goals
      refine LoopF.round tyB_ok (lit := false) ?_
      conv => whnf
      rw [decide_eq_false (by omega)]
      conv => whnf
      exact h1 acc l _ σ1 _ (by rw [hd]; rfl) (by omega) hx hf ho rfl rfl rfl
  | succ k ih =>
    intro n l acc out σ1 hn hk hl hacc hx hf ho h1 h2
    by_cases hlt : n < t.length
    · obtain ⟨c, hc⟩ : ∃ c, t[n]? = some c := ⟨_, List.getElem?_eq_getElem hlt⟩
      have hd := drop_cons hc
      have hfit := step_fits c (t.drop (n + 1))
      have hlen := congrArg List.length hd
      simp only [List.length_drop, List.length_cons] at hlen
      have hG : lexG (k + 1) (t.drop n) l acc = match step (t.drop n) with
          | .skip k' nl => lexG k (t.drop (n + k')) (l + nl) acc
          | .tok kd m => lexG k (t.drop (n + m)) l (acc ++ [⟨kd, (t.drop n).take m, l⟩])
          | .err e => .bad e l := by
        rw [hd]
        simp only [lexG]
        rw [← hd]
        cases step (t.drop n) <;> simp [List.drop_drop]
      rw [hG] at h1 h2
      rcases ho.cases with rfl | ⟨o1, g1, rfl⟩
      all_goals
        refine LoopF.round tyB_ok (lit := false) ?_
        conv => whnf
        rw [decide_eq_true (by omega)]
        conv => whnf
        refine CallF.to (blank_to t n n rfl (by omega) hlt σ1) ?_
        conv => whnf
        by_cases hb : 0 < blankLen (t.drop n)
        · have hs := step_blank c (t.drop (n + 1)) (by rw [← hd]; exact hb)
          rw [← hd] at hs hfit
          rw [hs] at h1 h2 hfit
          simp only [Stp.fits] at hfit h1 h2
          rw [decide_eq_true (by omega)]
          conv => whnf
          refine ⟨n, c, rfl, hc, ?_⟩
          conv => whnf
          have hlb := hfit.2.1
          rw [List.length_drop] at hlb
          by_cases h10 : c.toNat = 10
          · rw [decide_eq_true (show (c.toNat : Int) = 10 by omega)]
            conv => whnf
            refine ⟨((l + 1 : Nat) : Int), wrap_i64 (by omega) (by omega), ?_⟩
            conv => whnf
            refine ⟨((n + blankLen (t.drop n) : Nat) : Int), wrap_i64 (by omega) (by omega), ?_⟩
            conv => whnf
            rw [if_pos h10] at h1 h2
            exact ih (n + blankLen (t.drop n)) (l + 1) acc _ σ1 (by omega) (by omega) (by omega) (by omega) hx hf ho h1 h2
          · rw [decide_eq_false (show ¬ (c.toNat : Int) = 10 by omega)]
            conv => whnf
            refine ⟨((n + blankLen (t.drop n) : Nat) : Int), wrap_i64 (by omega) (by omega), ?_⟩
            conv => whnf
            rw [if_neg h10] at h1 h2
            exact ih (n + blankLen (t.drop n)) l acc _ σ1 (by omega) (by omega) (by omega) (by omega) hx hf ho h1 h2
        · have hb0 : blankLen (t.drop n) = 0 := by omega
          have hns := step_word c (t.drop (n + 1)) (by rw [← hd]; exact hb0)
          rw [← hd] at hns hfit
          rw [decide_eq_false (by omega)]
          conv => whnf
          refine CallF.to (word_to t n n rfl (by omega) hlt hb0 σ1) ?_
          cases hs : step (t.drop n) with
          | skip a b => exact (hns a b hs).elim
          | err e =>
            rw [hs] at h1 h2 hfit
            simp only [Stp.fits] at hfit
            conv => whnf
            refine om_of (aStore_at (T := yT30) rfl (get_new _ _ _) rfl rfl (by decide)) ?_
            conv => whnf
            rw [decide_eq_false (by omega)]
            conv => whnf
            refine om_of (aStore_at (T := yT43) rfl (at_ne (at_new hf _ _) (by have := lt_at hf; omega) _) rfl rfl (by decide)) ?_
            conv => whnf
            refine h2 e l _ _ rfl (((hx.new _ _).set (by have := hx.len; omega) _).set (Nat.le_refl _) _) (at_set (at_ne (at_new hf _ _) (by have := lt_at hf; omega) _) _) rfl rfl
          | tok kd m =>
            rw [hs] at h1 h2 hfit
            simp only [Stp.fits] at hfit
            have hlb := hfit.2.1
            rw [List.length_drop] at hlb
            have hfl := lt_at hf
            conv => whnf
            refine om_of (aStore_to (T := yT30) (tokV kd ((t.drop n).take m) 0) rfl (get_new _ _ _) rfl rfl (by decide) rfl) ?_
            conv => whnf
            have hB1 := at_set (get_new 30 yT30.zero.cells σ1) ⟨0, false, .cells 30 (tokV kd ((t.drop n).take m) 0)⟩
            have hx1 := ((Ext.refl σ1).new 30 yT30.zero.cells).set (Nat.le_refl _) ⟨0, false, .cells 30 (tokV kd ((t.drop n).take m) 0)⟩
            refine om_of (aStore_to (T := yT3) (tokV kd ((t.drop n).take m) l) rfl hB1 rfl rfl (Nat.le_of_ble_eq_true rfl) rfl) ?_
            conv => whnf
            have hB2 := at_set hB1 ⟨0, false, .cells 30 (tokV kd ((t.drop n).take m) l)⟩
            have hx2 := hx1.set (Nat.le_refl _) ⟨0, false, .cells 30 (tokV kd ((t.drop n).take m) l)⟩
            refine om_of (aLoad_ag (T := yT30) rfl rfl (cellsAt_of hB2) (Nat.le_of_ble_eq_true rfl)) ?_
            conv => whnf
            refine app_tok (A := σ.length + 1) (tk := ⟨kd, (t.drop n).take m, l⟩) ((ho.ge hx2).new _ _) (by omega) (get_new _ _ _) (by rw [len_new]; have := hx2.len; omega) fun out2 σ5 ho5 hk5 hl5 hn5 => ?_
            have hx5 : Ext σ σ5 := ⟨by omega, fun i hi => by rw [hk5 i (by omega)]; exact ((hx.trans hx2).new _ _).old i hi⟩
            have hf5 : σ5[σ.length]? = some ⟨0, false, .cells 43 [.i .i64 0, .i .i64 0]⟩ := by rw [hk5 _ (by omega)]; exact at_new (hx2.get hf) _ _
            have hB5 : σ5[σ1.length]? = some ⟨0, false, .cells 30 (tokV kd ((t.drop n).take m) l)⟩ := by
              rw [hn5 _ (by rw [len_new]; exact Nat.lt_succ_of_lt (lt_at hB2)) (fun o g n z e h => ?_)]
              · exact at_new hB2 _ _
              · rcases ho with ⟨_, e1⟩ | ⟨o', g', _, e1, e2⟩
                · cases e1.symm.trans e
                · cases e1.symm.trans e; have := lt_at e2; omega
            rcases ho5.cases with rfl | ⟨o2, g2, rfl⟩
            all_goals
              conv => whnf
              refine om_of (v := .s ((t.drop n).take m)) (aLoad_at (T := yT9) rfl rfl (cellsAt_of hB5) rfl) ?_
              conv => whnf
              refine ⟨((n + m : Nat) : Int), by rw [wrap_i64 (by simp only [List.length_take, List.length_drop]; omega) (by simp only [List.length_take, List.length_drop]; omega)]; simp only [List.length_take, List.length_drop]; omega, ?_⟩
              conv => whnf
              exact ih (n + m) l _ _ σ5 (by omega) (by omega) (by omega) (by simp; omega) hx5 hf5 ho5 h1 h2
    · have hd : t.drop n = [] := List.drop_of_length_le (by omega)
      rcases ho.cases with rfl | ⟨o1, g1, rfl⟩
      all_goals
        refine LoopF.round tyB_ok (lit := false) ?_
        conv => whnf
        rw [decide_eq_false (by omega)]
        conv => whnf
        exact h1 acc l _ σ1 _ (by rw [hd]; rfl) (by omega) hx hf ho rfl rfl rfl
theorem rtok_to (t : List UInt8) (σ : St) (Q : AV → St → Prop)
    (h1 : ∀ l out σ', lexS t = .toks l → l.length ≤ 40000 → Ext σ σ' → OutAt (σ.length + 1) σ' out l → Q (.tu [out, .ag [.i .i64 0, .i .i64 0]]) σ')
    (h2 : ∀ e l, lexS t = .bad e l → Q (.tu [.sl0, .ag [.i .i64 e, .i .i64 l]]) σ) : CallF X 13 [.s t] σ Q := by
  refine CallF.body (F := F13) tyB_ok (lit := false) rfl rfl (Nat.le_of_ble_eq_true rfl) ?_
  conv => whnf
  by_cases hl : 32768 < t.length
  · rw [decide_eq_true (by omega)]
    conv => whnf
    refine om_of (aStore_to (T := yT43) [.i .i64 3, .i .i64 0] rfl (get_new _ _ _) rfl rfl (by decide) rfl) ?_
    conv => whnf
    refine om_of (aLoad_ag (T := yT43) rfl rfl (cellsAt_of (at_set (get_new _ _ _) _)) (Nat.le_of_ble_eq_true rfl)) ?_
    conv => whnf
    exact Fin.flat rfl (((Ext.refl σ).new _ _).set (Nat.le_refl _) _).take (h2 3 0 (by simp [lexS, hl]))
  · rw [decide_eq_false (by omega)]
    have hS : lexS t = (lexG t.length (t.drop 0) 0 []).fin := by rw [List.drop_zero]; simp [lexS, hl]
    rw [hS] at h1 h2
    conv => whnf
    refine rtok_loop t (by omega) σ _ t.length 0 0 [] .sl0 _ (by omega) (by omega) (by omega) (by simp) ((Ext.refl σ).new _ _) (get_new _ _ _) (.inl ⟨rfl, rfl⟩) (fun acc' l' e' σ' out' h hacc hx hf ho h3 h4 h5 => ?_) (fun e l' e' σ' h hx hf h3 h2' => ?_)
    · rw [h] at h1
      subst h4
      rcases ho.cases with h4 | ⟨o2, g2, h4⟩
      all_goals
        rw [h4] at ho
        conv => whnf
        rw [h3]; conv => whnf
        rw [h4]; conv => whnf
        rw [h5]; conv => whnf
        refine app_tok (A := σ.length + 1) (tk := ⟨5, [], l'⟩) (ho.new _ _) (by omega) (get_new _ _ _) (by rw [len_new]; have := lt_at hf; omega) fun out2 σ5 ho5 hk5 hl5 _ => ?_
        have hf5 : σ5[σ.length]? = some ⟨0, false, .cells 43 [.i .i64 0, .i .i64 0]⟩ := by rw [hk5 _ (by omega)]; exact at_new hf _ _
        have hx5 : Ext σ σ5 := ⟨by omega, fun i hi => by rw [hk5 i (by omega)]; exact (hx.new _ _).old i hi⟩
        have q1 := h1 _ out2 (σ5.set σ.length ⟨0, false, .cells 43 [.i .i64 0, .i .i64 0]⟩) rfl (by simp; omega) (hx5.set (Nat.le_refl _) _) (ho5.lt _ (by omega))
        rcases ho5.cases with rfl | ⟨o3, g3, rfl⟩
        all_goals
          conv => whnf
          refine om_of (aStore_to (T := yT43) [.i .i64 0, .i .i64 0] rfl hf5 rfl rfl (by decide) rfl) ?_
          conv => whnf
          refine om_of (aLoad_ag (T := yT43) rfl rfl (cellsAt_of (at_set hf5 _)) (Nat.le_of_ble_eq_true rfl)) ?_
          conv => whnf
          first
            | exact Fin.ref rfl q1
            | (exfalso; rcases ho5 with ⟨h6, _⟩ | ⟨o, g, _, h6, _⟩
               · simp at h6
               · cases h6)
    · rw [h] at h2
      conv => whnf
      rw [h2']
      conv => whnf
      rw [h3]
      conv => whnf
      refine om_of (aLoad_ag (T := yT43) rfl rfl (cellsAt_of hf) (Nat.le_of_ble_eq_true rfl)) ?_
      conv => whnf
      exact Fin.flat rfl hx.take (h2 e l' rfl)
end Go.Abs.YtjphfiieapclhaaDoor
