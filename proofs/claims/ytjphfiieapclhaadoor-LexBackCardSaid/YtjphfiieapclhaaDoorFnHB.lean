/- The lexer, as a function. -/
import Derived.Test.YtjphfiieapclhaaDoorFnGB
namespace Go.Abs.YtjphfiieapclhaaDoor
open Go.Proofs
set_option maxRecDepth 4000

theorem ltok_to (t : List UInt8) (σ : St) (hg : σ.take G0.length = G0) (Q : AV → St → Prop)
    (h1 : ∀ l out σ', lexS t = .toks l → l.length ≤ 40000 → Ext σ σ' → OutAt σ.length σ' out l → Q (.tu [out, .ic0]) σ')
    (h2 : ∀ e l o σ', lexS t = .bad e l → Ext σ σ' → σ.length ≤ o → σ'[o]? = some ⟨0, false, .cells 41 [.i .i64 e, .i .i64 l]⟩ → Q (.tu [.sl0, .ic 36 (.p o 0 0)]) σ') :
    CallF X 10 [.s t] σ Q := by
  refine CallF.body (F := F10) tyB_ok (lit := false) rfl rfl (Nat.le_of_ble_eq_true rfl) ?_
  conv => whnf
  refine om_of (aLoad_at (T := yT9) rfl rfl (cellsAt_of (get_new _ _ _)) rfl) ?_
  conv => whnf
  by_cases hl : 32768 < t.length
  · rw [decide_eq_true (by omega)]
    conv => whnf
    refine Fin.ref rfl (h2 3 0 _ _ (by simp [lexS, hl]) (((Ext.refl σ).new _ _).new _ _) ?_ ?_)
    · rw [len_new]; omega
    · exact get_new _ _ _
  · rw [decide_eq_false (by omega)]
    have hS : lexS t = (lexG t.length t 0 []).fin := by simp [lexS, hl]
    rw [hS] at h1 h2
    conv => whnf
    refine om_of (aStore_to (T := yT3) [.i .i64 0] rfl (get_new _ _ _) rfl rfl (Nat.le_of_ble_eq_true rfl) rfl) ?_
    conv => whnf
    have e1 : (newCells 9 [.s t] σ).length = σ.length + 1 := len_new _ _ _
    have e2 : (newCells 24 [.sl0] (newCells 9 [.s t] σ)).length = σ.length + 2 := by rw [len_new, e1]
    have hls : LS σ ((newCells 3 [.i .i64 0] (newCells 24 [.sl0] (newCells 9 [.s t] σ))).set (σ.length + 2) ⟨0, false, .cells 3 [.i .i64 (0 : Nat)]⟩) t 0 [] := by
      refine LS.line (l := 0) ⟨(((Ext.refl σ).new _ _).new _ _).new _ _, at_new (at_new (get_new _ _ _) _ _) _ _, ⟨.sl0, ?_, .inl ⟨rfl, rfl⟩⟩, ?_⟩ 0
      · refine at_new ?_ _ _
        have := get_new 24 [.sl0] (newCells 9 [.s t] σ)
        rw [e1] at this; exact this
      · have := get_new 3 [.i .i64 0] (newCells 24 [.sl0] (newCells 9 [.s t] σ))
        rw [e2] at this; exact this
    show LoopF X [1, 4, 5, 6, 7] c10L0 [(1, .p σ.length 0 0), (4, .p (newCells 9 [.s t] σ).length 0 0), (5, .p (newCells 24 [.sl0] (newCells 9 [.s t] σ)).length 0 0), (6, .fn (.func 17) [] [.p (newCells 9 [.s t] σ).length 0 0, .p σ.length 0 0, .p (newCells 24 [.sl0] (newCells 9 [.s t] σ)).length 0 0]), (7, .i .i64 0)]
      ((newCells 3 [.i .i64 0] (newCells 24 [.sl0] (newCells 9 [.s t] σ))).set (newCells 24 [.sl0] (newCells 9 [.s t] σ)).length ⟨0, false, .cells 3 [.i .i64 (0 : Nat)]⟩) _
    rw [e1, e2]
    refine ltok_loop σ hg _ t.length t 0 [] _ (Nat.le_refl _) (by omega) (by simp; omega) hls (fun acc' l' e' σ' s' hG hacc h h4 h5 h7 => ?_) (fun e l' e' σ' s' acc' hG he h h4 h5 h7 => ?_)
    · rw [hG] at h1
      obtain ⟨out, ho1, ho2⟩ := h.o
      conv => whnf
      rw [show Opd.ev e' (.t 7) = _ from h7]
      conv => whnf
      conv in (get _ 4) => change get e' 4
      rw [h4]
      conv => whnf
      conv in (get _ 5) => change get e' 5
      rw [h5]
      rcases ho2.cases with rfl | ⟨o1, g1, rfl⟩
      all_goals
        conv => whnf
        refine om_of (aLoad_at (T := yT24) rfl rfl (cellsAt_of ho1) rfl) ?_
        conv => whnf
        refine om_of (aLoad_at (T := yT3) rfl rfl (cellsAt_of h.n) rfl) ?_
        conv => whnf
        refine app_tok (A := σ.length + 3) (tk := ⟨5, [], l'⟩) (ho2.new _ _) (by omega) (get_new _ _ _) (by rw [len_new]; have := lt_at h.n; omega) fun out2 σ5 ho5 hk5 hl5 _ => ?_
        have hx5 : Ext σ σ5 := ⟨by omega, fun i hi => by rw [hk5 i (by omega)]; exact (h.x.new _ _).old i hi⟩
        have hoo : OutAt σ.length σ5 out2 (acc' ++ [⟨5, [], l'⟩]) := by
          rcases ho5 with h | ⟨o, g, q1, q2⟩
          · exact .inl h
          · exact .inr ⟨o, g, by omega, q2⟩
        have q1 := h1 _ out2 σ5 rfl (by simp; omega) hx5 hoo
        rcases ho5.cases with rfl | ⟨o3, g3, rfl⟩
        all_goals
          conv => whnf
          first
            | exact Fin.ref rfl q1
            | (exfalso; rcases ho5 with ⟨h6, _⟩ | ⟨o, g, _, h6, _⟩
               · simp at h6
               · cases h6)
    · rw [hG] at h2
      conv => whnf
      rw [show Opd.ev e' (.t 7) = _ from h7]
      conv => whnf
      rw [decide_eq_false (show ¬ (e : Int) = 0 by omega)]
      conv => whnf
      conv in (get _ 5) => change get e' 5
      rw [h5]
      conv => whnf
      conv in (get _ 7) => change get e' 7
      rw [h7]
      conv => whnf
      refine om_of (aLoad_at (T := yT3) rfl rfl (cellsAt_of h.n) rfl) ?_
      conv => whnf
      exact Fin.ref rfl (h2 e l' _ _ rfl (h.x.new _ _) h.x.len (get_new _ _ _))
end Go.Abs.YtjphfiieapclhaaDoor
