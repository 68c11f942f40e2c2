/- Two lists of words are the same; an error is that fault. -/
import Derived.Test.YtjphfiieapclhaaDoorFnHB
namespace Go.Abs.YtjphfiieapclhaaDoor
open Go.Proofs
set_option maxRecDepth 4000

theorem toksV_at : ∀ (l : List Tok) (m : Nat) (t : Tok), l[m]? = some t → ((toksV l).drop (m * 3)).take 3 = tokV t.k t.s t.l
  | [], m, t, h => by simp at h
  | a :: l, 0, t, h => by simp at h; subst h; simp [toksV, tokV]
  | a :: l, m + 1, t, h => by
    have := toksV_at l m t (by simpa using h)
    rw [← this]
    simp only [toksV, List.flatMap_cons]
    rw [show (m + 1) * 3 = (tokV a.k a.s a.l).length + m * 3 by simp [tokV]; omega, ← List.drop_drop, List.drop_left]
theorem load_tok {σ : St} {o g : Nat} {ro : Bool} {l : List Tok} (h : σ[o]? = some ⟨g, ro, .cells 30 (toksV l)⟩) {m : Nat} {t : Tok} (ht : l[m]? = some t) : aLoad (tyB.get 30) (.p o g (0 + m * 3)) σ = some (.ag (tokV t.k t.s t.l)) := by
  have hm := (List.getElem?_eq_some_iff.1 ht).1
  rw [aLoad_ag (τ := tyB.get) (T := yT30) rfl rfl (cellsAt_of h) (by rw [toksV_len]; show 0 + m * 3 + 3 ≤ _; omega)]
  rw [Nat.zero_add]
  exact congrArg (fun x => some (AV.ag x)) (toksV_at l m t ht)
theorem same_loop (o1 g1 o2 g2 : Nat) (l : List Tok) (σ : St) (ro1 ro2 : Bool) (h1 : σ[o1]? = some ⟨g1, ro1, .cells 30 (toksV l)⟩) (h2 : σ[o2]? = some ⟨g2, ro2, .cells 30 (toksV l)⟩) (hl : l.length ≤ 100000) (Q : Out → Env → St → Prop) (q : ∀ e', Q (.exit 0) e' σ) : ∀ (k m : Nat), m + k = l.length →
    LoopF X [0, 1, 5] c14L0 [(0, .sl o1 g1 0 l.length 3), (1, .sl o2 g2 0 l.length 3), (5, .i .i64 m)] σ Q := by
  intro k
  induction k with
  | zero =>
    intro m hm
    refine LoopF.round tyB_ok (lit := false) ?_
    conv => whnf
    rw [decide_eq_false (by omega)]
    conv => whnf
    exact q _
  | succ k ih =>
    intro m hm
    obtain ⟨t, ht⟩ : ∃ t, l[m]? = some t := ⟨_, List.getElem?_eq_getElem (by omega)⟩
    refine LoopF.round tyB_ok (lit := false) ?_
    conv => whnf
    rw [decide_eq_true (by omega)]
    conv => whnf
    refine ⟨m, rfl, by omega, ?_⟩
    conv => whnf
    refine om_of (load_tok h1 ht) ?_
    conv => whnf
    refine ⟨m, rfl, by omega, ?_⟩
    conv => whnf
    refine om_of (load_tok h2 ht) ?_
    conv => whnf
    split
    · rename_i h; exfalso; simp at h
    · conv => whnf
      refine ⟨((m + 1 : Nat) : Int), wrap_i64 (by omega) (by omega), ?_⟩
      conv => whnf
      exact ih (m + 1) (by omega)
theorem same_to {A B : Nat} {σ : St} {a b : AV} {l : List Tok} (ha : OutAt A σ a l) (hb : OutAt B σ b l) (hl : l.length ≤ 100000) : CallF X 14 [a, b] σ fun v s => v = .b true ∧ s = σ := by
  refine CallF.body (F := F14) tyB_ok (lit := false) rfl rfl (Nat.le_of_ble_eq_true rfl) ?_
  rcases ha with ⟨rfl, rfl⟩ | ⟨o1, g1, _, rfl, h1⟩
  · rcases hb with ⟨_, rfl⟩ | ⟨o2, g2, _, rfl, h2⟩
    · conv => whnf
      refine LoopF.round tyB_ok (lit := false) ?_
      conv => whnf
      exact Fin.flat rfl List.take_length ⟨rfl, rfl⟩
    · conv => whnf
      refine LoopF.round tyB_ok (lit := false) ?_
      conv => whnf
      exact Fin.flat rfl List.take_length ⟨rfl, rfl⟩
  · rcases hb with ⟨rfl, rfl⟩ | ⟨o2, g2, _, rfl, h2⟩
    · conv => whnf
      refine LoopF.round tyB_ok (lit := false) ?_
      conv => whnf
      exact Fin.flat rfl List.take_length ⟨rfl, rfl⟩
    · conv => whnf
      rw [decide_eq_true rfl]
      conv => whnf
      refine same_loop o1 g1 o2 g2 l σ false false h1 h2 hl _ (fun e' => ?_) l.length 0 (by omega)
      conv => whnf
      exact Fin.flat rfl List.take_length ⟨rfl, rfl⟩
theorem works_to (σ : St) (hg : σ.take G0.length = G0) : CallF X 11 [] σ fun v s => v = .b true ∧ s = σ := by
  refine CallF.body (F := F11) tyB_ok (lit := false) rfl rfl (Nat.le_of_ble_eq_true rfl) ?_
  conv => whnf
  refine ltok_to _ σ hg _ (fun l out σ' hl _ hx ho => ?_) (fun e l o σ' hl hx ho h => ?_)
  · have e1 : l = [⟨1, [120], 0⟩, ⟨3, [61], 0⟩, ⟨1, [97], 0⟩, ⟨3, [60, 60], 0⟩, ⟨2, [50], 0⟩, ⟨3, [59], 0⟩, ⟨5, [], 0⟩] := by
      rw [lex_1] at hl; cases hl; rfl
    subst e1
    rcases ho with ⟨h, _⟩ | ⟨o, g, _, rfl, h⟩
    · cases h
    · conv => whnf
      refine ⟨0, rfl, by decide, ?_⟩
      conv => whnf
      refine om_of (load_tok h (m := 0) rfl) ?_
      conv => whnf
      refine ⟨3, rfl, by decide, ?_⟩
      conv => whnf
      refine om_of (load_tok h (m := 3) rfl) ?_
      conv => whnf
      refine ⟨4, rfl, by decide, ?_⟩
      conv => whnf
      refine om_of (load_tok h (m := 4) rfl) ?_
      conv => whnf
      refine ⟨6, rfl, by decide, ?_⟩
      conv => whnf
      refine om_of (load_tok h (m := 6) rfl) ?_
      conv => whnf
      exact Fin.flat rfl hx.take ⟨rfl, rfl⟩
  · rw [lex_1] at hl; cases hl
end Go.Abs.YtjphfiieapclhaaDoor
