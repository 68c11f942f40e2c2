/- The keys: LexKeys over the abstract store. -/
import Derived.Test.YtjphfiieapclhaaDoorFnIB
namespace Go.Abs.YtjphfiieapclhaaDoor
open Go.Proofs
set_option maxRecDepth 4000

theorem keys_lex : ∀ k ∈ keys, lexS (k ++ [32] ++ k ++ [115]) = .toks [⟨4, k, 0⟩, ⟨1, k ++ [115], 0⟩, ⟨5, [], 0⟩] ∧ k.length ≤ 10 := by decide +kernel
theorem keys_loop (n : Int) (o1 o2 : Nat) (σ : St) (h1 : cellsAt σ o1 0 = some (keys.map .s)) (h2 : cellsAt σ o2 0 = some (keys.map .s)) (Q : Out → Env → St → Prop)
    (q : ∀ e', get e' 0 = .i .u8 n → get e' 3 = .sl o1 0 0 12 1 → get e' 4 = .sl o2 0 0 12 1 → Q (.exit 0) e' σ) : ∀ (k m : Nat), m + k = 12 →
    LoopF X [0, 3, 4, 5] c3L0 [(0, .i .u8 n), (3, .sl o1 0 0 12 1), (4, .sl o2 0 0 12 1), (5, .i .i64 m)] σ Q := by
  intro k
  induction k with
  | zero =>
    intro m hm
    refine LoopF.round tyB_ok (lit := false) ?_
    conv => whnf
    rw [decide_eq_false (by show ¬ (m : Int) < (12 : Nat); omega)]
    conv => whnf
    exact q _ rfl rfl rfl
  | succ k ih =>
    intro m hm
    have hlt : m < keys.length := by show m < 12; omega
    obtain ⟨w, hw⟩ : ∃ w, keys[m]? = some w := ⟨_, List.getElem?_eq_getElem hlt⟩
    refine LoopF.round tyB_ok (lit := false) ?_
    conv => whnf
    rw [decide_eq_true (by show (m : Int) < (12 : Nat); omega)]
    conv => whnf
    refine ⟨m, rfl, by omega, ?_⟩
    conv => whnf
    refine om_of (v := .s w) (aLoad_at (T := yT9) rfl rfl h1 (by simp [hw])) ?_
    conv => whnf
    refine ⟨m, rfl, by omega, ?_⟩
    conv => whnf
    refine om_of (v := .s w) (aLoad_at (T := yT9) rfl rfl h2 (by simp [hw])) ?_
    conv => whnf
    split
    · rename_i h; exfalso; simp at h
    · conv => whnf
      refine ⟨((m + 1 : Nat) : Int), wrap_i64 (by omega) (by omega), ?_⟩
      conv => whnf
      exact ih (m + 1) (by omega)
theorem lawKeys_to (n : Nat) (hn : n < 256) (σ : St) (hg : σ.take G0.length = G0) : CallF X 3 [.i .u8 n] σ fun v s => v = .b true ∧ s = σ := by
  refine CallF.body (F := F3) tyB_ok (lit := false) rfl rfl (Nat.le_of_ble_eq_true rfl) ?_
  conv => whnf
  refine lkeys_to σ _ hg ?_
  conv => whnf
  refine rkeys_to _ _ ?_
  conv => whnf
  have h1 : cellsAt (newCells 9 (keys.map .s) (newCells 9 (keys.map .s) σ)) σ.length 0 = some (keys.map .s) := cellsAt_of (at_new (get_new _ _ _) _ _)
  have hx := ((Ext.refl σ).new 9 (keys.map .s)).new 9 (keys.map .s)
  have hlt : n % 12 < keys.length := Nat.mod_lt _ (by decide)
  obtain ⟨w, hw⟩ : ∃ w, keys[n % 12]? = some w := ⟨_, List.getElem?_eq_getElem hlt⟩
  obtain ⟨hlex, hwl⟩ := keys_lex w (List.mem_of_getElem? hw)
  refine keys_loop n _ _ _ h1 (cellsAt_new _ _ _) _ (fun e' h0 h3 h4 => ?_) 12 0 rfl
  conv => whnf
  rw [h0]; conv => whnf
  rw [h3]; conv => whnf
  rw [h4]; conv => whnf
  refine ⟨n, wrap_i64 (by omega) (by omega), ?_⟩
  conv => whnf
  refine ⟨by decide, ?_⟩
  conv => whnf
  refine ⟨n % 12, by show (n : Int).tmod 12 = _; rw [Int.tmod_eq_emod_of_nonneg (by omega)]; omega, by omega, ?_⟩
  conv => whnf
  refine om_of (v := .s w) (aLoad_at (T := yT9) rfl rfl h1 (by simp [hw])) ?_
  conv => whnf
  refine ⟨by show w.length + 1 ≤ _; omega, ?_⟩
  conv => whnf
  refine ⟨by simp; omega, ?_⟩
  conv => whnf
  refine ⟨by simp; omega, ?_⟩
  conv => whnf
  refine ltok_to _ _ (extGlobs hx hg) _ (fun l out σ' hl _ hx2 ho => ?_) (fun e l o σ' hl hx ho h => ?_)
  · rw [hlex] at hl
    cases hl
    rcases ho with ⟨h, _⟩ | ⟨o, g, _, rfl, h⟩
    · cases h
    · conv => whnf
      refine ⟨0, rfl, Nat.le_of_ble_eq_true rfl, ?_⟩
      conv => whnf
      refine om_of (load_tok h (m := 0) rfl) ?_
      conv => whnf
      split
      · conv => whnf
        refine ⟨1, rfl, Nat.le_of_ble_eq_true rfl, ?_⟩
        conv => whnf
        refine om_of (load_tok h (m := 1) rfl) ?_
        conv => whnf
        refine ⟨by show w.length + 1 ≤ _; omega, ?_⟩
        conv => whnf
        split
        · conv => whnf
          refine CallF.to (works_to _ (extGlobs (hx.trans hx2) hg)) ?_
          conv => whnf
          exact Fin.flat rfl (hx.trans hx2).take ⟨rfl, rfl⟩
        · rename_i h; exfalso; simp at h
      · rename_i h; exfalso; simp at h
  · rw [hlex] at hl; cases hl
end Go.Abs.YtjphfiieapclhaaDoor
