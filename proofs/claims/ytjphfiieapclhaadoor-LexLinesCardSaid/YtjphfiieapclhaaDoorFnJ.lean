/- An error is that fault; a few words. -/
import Derived.Test.YtjphfiieapclhaaDoorFnI
namespace Go.Abs.YtjphfiieapclhaaDoor
open Go.Proofs
set_option maxRecDepth 4000

theorem has_is : hasAll Tryd.prog 36 112 = some false := by kernel_rfl
theorem has_unwrap : hasAll Tryd.prog 36 92 = some true := by kernel_rfl

theorem as_nil_to (x : AV) (σ : St) (Q : AV → St → Prop) (q : Q (.b false) σ) : CallF X 12 [.ic0, x] σ Q := by
  refine CallF.of ?_
  rw [EvF_prim (g := pAs) rfl]
  exact ⟨_, rfl, q⟩
theorem as_to {σ : St} (hg : σ.take G0.length = G0) (o g off o2 : Nat) (h2 : σ[o2]? = some ⟨0, false, .cells 36 [.p0]⟩) (Q : AV → St → Prop) (q : Q (.b true) (σ.set o2 ⟨0, false, .cells 36 [.p o g off]⟩)) :
    CallF X 12 [.ic 36 (.p o g off), .ic 38 (.p o2 0 0)] σ Q := by
  refine CallF.of ?_
  rw [EvF_prim (g := pAs) rfl]
  have h5 : σ[0]? = G0[0]? := glob_at hg (by decide)
  have hs : aStore (tyOf Tryd.prog 36) (.p o2 0 0) (.p o g off) σ = some (σ.set o2 ⟨0, false, .cells 36 [.p o g off]⟩) := by
    have := aStore_to (τ := tyB.get) (t := 36) (T := yT36) (y := .p o g off) (off := 0) [.p o g off] rfl h2 rfl rfl (Nat.le_of_ble_eq_true rfl) rfl
    exact aStore_ok (X := X) tyB_ok this
  unfold pAs
  simp only
  rw [h5]
  exact ⟨_, by show (aStore (tyOf Tryd.prog 36) (.p o2 0 0) (.p o g off) σ).map (fun x => (AV.b true, x)) = _; rw [hs]; rfl, q⟩
theorem typeOf_to (v : AV) (σ : St) (Q : AV → St → Prop) (q : Q (.ic 84 (.ag [.p 10 0 39])) σ) : CallF X 40 [.ic 39 v] σ Q := by
  refine CallF.of ?_
  rw [EvF_prim (g := pTypeOf) rfl]
  exact ⟨_, rfl, q⟩
theorem comparable_to (σ : St) (Q : AV → St → Prop) (q : Q (.b true) σ) : CallF X 102 [.ag [.p 10 0 39]] σ Q := by
  refine CallF.of ?_
  rw [EvF_prim (g := pComparable) rfl]
  exact ⟨_, rfl, q⟩
theorem unwrap_to {σ : St} {o g : Nat} {ro : Bool} {e l : Int} (h : σ[o]? = some ⟨g, ro, .cells 41 [.i .i64 e, .i .i64 l]⟩) : CallF X 95 [.p o g 0] σ fun v s => v = .ic 39 (.i .i64 e) ∧ s = σ := by
  refine CallF.body (F := F95) tyB_ok (lit := false) rfl rfl (Nat.le_of_ble_eq_true rfl) ?_
  conv => whnf
  refine om_of (aLoad_at (T := yT39) rfl rfl (cellsAt_of h) rfl) ?_
  conv => whnf
  exact Fin.flat rfl List.take_length ⟨rfl, rfl⟩
set_option maxHeartbeats 4000000 in
theorem is_to {σ : St} {o g : Nat} {ro : Bool} {e l : Int} (h : σ[o]? = some ⟨g, ro, .cells 41 [.i .i64 e, .i .i64 l]⟩) : CallF X 49 [.ic 36 (.p o g 0), .ic 39 (.i .i64 e), .b true] σ fun v s => v = .b true ∧ s = σ := by
  refine CallF.body (F := F49) tyB_ok (lit := false) rfl rfl (Nat.le_of_ble_eq_true rfl) ?_
  conv => whnf
  refine LoopF.round tyB_ok (lit := false) ?_
  conv => whnf
  refine HasF.of has_is ?_
  conv => whnf
  refine HasF.of has_unwrap ?_
  conv => whnf
  refine CallF.to (unwrap_to h) ?_
  conv => whnf
  refine LoopF.round tyB_ok (lit := false) ?_
  conv => whnf
  split
  · conv => whnf
    exact Fin.flat rfl List.take_length ⟨rfl, rfl⟩
  · rename_i h; exfalso; simp at h
theorem Is_to {σ : St} {o g : Nat} {ro : Bool} {e l : Int} (h : σ[o]? = some ⟨g, ro, .cells 41 [.i .i64 e, .i .i64 l]⟩) : CallF X 31 [.ic 36 (.p o g 0), .ic 39 (.i .i64 e)] σ fun v s => v = .b true ∧ s = σ := by
  refine CallF.body (F := F31) tyB_ok (lit := false) rfl rfl (Nat.le_of_ble_eq_true rfl) ?_
  conv => whnf
  refine typeOf_to _ _ _ ?_
  conv => whnf
  refine comparable_to _ _ ?_
  conv => whnf
  refine CallF.to (is_to h) ?_
  conv => whnf
  exact Fin.flat rfl List.take_length ⟨rfl, rfl⟩
theorem fault_ok (σ : St) : CallF X 15 [.ic0, .ag [.i .i64 0, .i .i64 0]] σ fun v s => v = .b true ∧ s = σ := by
  refine CallF.body (F := F15) tyB_ok (lit := false) rfl rfl (Nat.le_of_ble_eq_true rfl) ?_
  conv => whnf
  refine om_of (aLoad_at (T := yT39) rfl rfl (cellsAt_of (get_new _ _ _)) rfl) ?_
  conv => whnf
  exact Fin.flat rfl ((Ext.refl σ).new _ _).take ⟨rfl, rfl⟩
theorem fault_bad {σ : St} (hg : σ.take G0.length = G0) {o g : Nat} {ro : Bool} {e l : Int} (h : σ[o]? = some ⟨g, ro, .cells 41 [.i .i64 e, .i .i64 l]⟩) (he : e ≠ 0) : CallF X 15 [.ic 36 (.p o g 0), .ag [.i .i64 e, .i .i64 l]] σ fun v s => v = .b true ∧ s = σ := by
  refine CallF.body (F := F15) tyB_ok (lit := false) rfl rfl (Nat.le_of_ble_eq_true rfl) ?_
  conv => whnf
  refine om_of (aLoad_at (T := yT39) rfl rfl (cellsAt_of (get_new _ _ _)) rfl) ?_
  conv => whnf
  rw [decide_eq_false he]
  conv => whnf
  have hx := ((Ext.refl σ).new 43 [.i .i64 e, .i .i64 l]).new 36 [.p0]
  have hx2 : Ext σ _ := hx.set (o := σ.length + 1) (by omega) ⟨0, false, .cells 36 [.p o g 0]⟩
  have e1 : (newCells 43 [.i .i64 e, .i .i64 l] σ).length = σ.length + 1 := len_new _ _ _
  have hb := at_ne (at_new (get_new 43 [.i .i64 e, .i .i64 l] σ) 36 [.p0]) (o' := σ.length + 1) (by omega) ⟨0, false, .cells 36 [.p o g 0]⟩
  have hp := at_set (get_new 36 [.p0] (newCells 43 [.i .i64 e, .i .i64 l] σ)) ⟨0, false, .cells 36 [.p o g 0]⟩
  rw [← e1] at hx2 hb
  have hf := hx2.get h
  refine as_to (extGlobs hx hg) _ _ _ _ (get_new _ _ _) _ ?_
  conv => whnf
  refine om_of (aLoad_at (T := yT36) rfl rfl (cellsAt_of hp) rfl) ?_
  conv => whnf
  refine om_of (aLoad_at (T := yT36) rfl rfl (cellsAt_of hp) rfl) ?_
  conv => whnf
  refine om_of (aLoad_at (T := yT39) rfl rfl (cellsAt_of hf) rfl) ?_
  conv => whnf
  refine om_of (aLoad_at (T := yT39) rfl rfl (cellsAt_of hb) rfl) ?_
  conv => whnf
  rw [decide_eq_true rfl]
  conv => whnf
  refine om_of (aLoad_at (T := yT36) rfl rfl (cellsAt_of hp) rfl) ?_
  conv => whnf
  refine om_of (aLoad_at (T := yT3) rfl rfl (cellsAt_of hf) rfl) ?_
  conv => whnf
  refine om_of (aLoad_at (T := yT3) rfl rfl (cellsAt_of hb) rfl) ?_
  conv => whnf
  rw [decide_eq_true rfl]
  conv => whnf
  refine om_of (aLoad_at (T := yT39) rfl rfl (cellsAt_of hb) rfl) ?_
  conv => whnf
  refine CallF.to (Is_to hf) ?_
  conv => whnf
  exact Fin.flat rfl hx2.take ⟨rfl, rfl⟩
theorem lexG_bad : ∀ (k : Nat) (s : List UInt8) (l : Nat) (acc : List Tok) {e l' : Nat}, lexG k s l acc = .bad e l' → e = 9 ∨ e = 3
  | 0, [], l, acc, e, l', h => by cases h
  | 0, _ :: _, l, acc, e, l', h => by cases h
  | k + 1, [], l, acc, e, l', h => by cases h
  | k + 1, c :: r, l, acc, e, l', h => by
    have hf := step_fits c r
    simp only [lexG] at h
    split at h
    · exact lexG_bad k _ _ _ h
    · exact lexG_bad k _ _ _ h
    · rename_i e' hs
      cases h
      rw [hs] at hf
      exact hf
theorem lexS_bad {t : List UInt8} {e l : Nat} (h : lexS t = .bad e l) : e = 9 ∨ e = 3 := by
  unfold lexS at h
  split at h
  · cases h; exact .inr rfl
  · cases hr : lexG t.length t 0 [] with
    | done a b => rw [hr] at h; cases h
    | bad a b => rw [hr] at h; cases h; exact lexG_bad _ _ _ _ hr
theorem reads_to (t : List UInt8) (σ : St) (hg : σ.take G0.length = G0) : CallF X 7 [.s t] σ fun v s => v = .b true ∧ s = σ := by
  refine CallF.body (F := F7) tyB_ok (lit := false) rfl rfl (Nat.le_of_ble_eq_true rfl) ?_
  conv => whnf
  refine ltok_to _ σ hg _ (fun l out σ' hl hll hx ho => ?_) (fun e l o σ' hl hx ho h => ?_)
  · have hg' := extGlobs hx hg
    rcases ho.cases with rfl | ⟨o1, g1, rfl⟩
    all_goals
      conv => whnf
      refine rtok_to _ σ' _ (fun l2 out2 σ2 hl2 _ hx2 ho2 => ?_) (fun e l2 hl2 => ?_)
      · obtain rfl : l = l2 := by rw [hl] at hl2; cases hl2; rfl
        have ho' := ho.ge hx2
        have e0 := at_set (get_new 43 [.i .i64 0, .i .i64 0] σ2) ⟨0, false, .cells 43 [.i .i64 0, .i .i64 0]⟩
        have hx3 := (((Ext.refl σ2).new 43 [.i .i64 0, .i .i64 0]).set (Nat.le_refl _) ⟨0, false, .cells 43 [.i .i64 0, .i .i64 0]⟩)
        rcases ho2.cases with rfl | ⟨o2, g2, rfl⟩
        all_goals
          conv => whnf
          refine om_of (aStore_to (T := yT43) [.i .i64 0, .i .i64 0] rfl (get_new _ _ _) rfl rfl (by decide) rfl) ?_
          conv => whnf
          refine CallF.to (same_to (ho'.ge hx3) (ho2.ge hx3) (by omega)) ?_
          conv => whnf
          refine om_of (aLoad_ag (T := yT43) rfl rfl (cellsAt_of e0) (Nat.le_of_ble_eq_true rfl)) ?_
          conv => whnf
          refine CallF.to (fault_ok _) ?_
          conv => whnf
          refine CallF.to (works_to _ (extGlobs ((hx.trans hx2).trans hx3) hg)) ?_
          conv => whnf
          exact Fin.flat rfl ((hx.trans hx2).trans hx3).take ⟨rfl, rfl⟩
      · rw [hl] at hl2; cases hl2
  · have he : (e : Int) ≠ 0 := by
      rcases lexS_bad hl with rfl | rfl <;> decide
    conv => whnf
    refine rtok_to _ σ' _ (fun l2 out2 σ2 hl2 _ hx2 ho2 => ?_) (fun e2 l2 hl2 => ?_)
    · rw [hl] at hl2; cases hl2
    · rw [hl] at hl2; cases hl2
      conv => whnf
      have e0 := at_set (get_new 43 [.i .i64 0, .i .i64 0] σ') ⟨0, false, .cells 43 [.i .i64 e, .i .i64 l]⟩
      have hx3 := (((Ext.refl σ').new 43 [.i .i64 0, .i .i64 0]).set (Nat.le_refl _) ⟨0, false, .cells 43 [.i .i64 e, .i .i64 l]⟩)
      refine om_of (aStore_to (T := yT43) [.i .i64 e, .i .i64 l] rfl (get_new _ _ _) rfl rfl (by decide) rfl) ?_
      conv => whnf
      refine CallF.to (same_to (A := 0) (B := 0) (l := []) (.inl ⟨rfl, rfl⟩) (.inl ⟨rfl, rfl⟩) (by decide)) ?_
      conv => whnf
      refine om_of (aLoad_ag (T := yT43) rfl rfl (cellsAt_of e0) (Nat.le_of_ble_eq_true rfl)) ?_
      conv => whnf
      refine CallF.to (fault_bad (extGlobs (hx.trans hx3) hg) (hx3.get h) he) ?_
      conv => whnf
      refine CallF.to (works_to _ (extGlobs (hx.trans hx3) hg)) ?_
      conv => whnf
      exact Fin.flat rfl (hx.trans hx3).take ⟨rfl, rfl⟩
end Go.Abs.YtjphfiieapclhaaDoor
