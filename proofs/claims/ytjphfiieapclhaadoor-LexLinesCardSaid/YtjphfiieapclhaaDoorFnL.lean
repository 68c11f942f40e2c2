/- LexLines over the abstract store. -/
import Derived.Test.YtjphfiieapclhaaDoorFnJ
import Derived.Test.YtjphfiieapclhaaDoorLy
namespace Go.Abs.YtjphfiieapclhaaDoor
open Go.Proofs
set_option maxRecDepth 4000

theorem ahead_loop (t : List UInt8) (n N : Nat) (hN : N = n % 100) (hn : n < 256) (σ : St) (Q : Out → Env → St → Prop)
    (q : ∀ e', get e' 0 = .s t → get e' 1 = .i .u8 n → get e' 5 = .s (aheadT N) → Q (.exit 0) e' σ) : ∀ (k i : Nat), i + k = N →
    LoopF X [0, 1, 5, 6] c5L0 [(0, .s t), (1, .i .u8 n), (5, .s (aheadT i)), (6, .i .i64 i)] σ Q := by
  have hr : (n : Int).tmod 100 = (N : Nat) := by rw [Int.tmod_eq_emod_of_nonneg (by omega)]; omega
  have hNb : N < 100 := by omega
  intro k
  induction k with
  | zero =>
    intro i hi
    obtain rfl : i = N := by omega
    refine LoopF.round tyB_ok (lit := false) ?_
    conv => whnf
    refine ⟨by decide, ?_⟩
    rw [hr]
    conv => whnf
    refine ⟨i, wrap_i64 (by omega) (by omega), ?_⟩
    conv => whnf
    rw [decide_eq_false (by omega)]
    conv => whnf
    exact q _ rfl rfl rfl
  | succ k ih =>
    intro i hi
    have hl := aheadT_len i
    refine LoopF.round tyB_ok (lit := false) ?_
    conv => whnf
    refine ⟨by decide, ?_⟩
    rw [hr]
    conv => whnf
    refine ⟨N, wrap_i64 (by omega) (by omega), ?_⟩
    conv => whnf
    rw [decide_eq_true (by omega)]
    conv => whnf
    refine ⟨by decide, ?_⟩
    have hi2 : (i : Int).tmod 2 = ((i % 2 : Nat) : Int) := by rw [Int.tmod_eq_emod_of_nonneg (by omega)]; omega
    rw [hi2]
    conv => whnf
    by_cases h2 : i % 2 = 0
    · rw [decide_eq_true (by omega)]
      conv => whnf
      refine ⟨by simp; omega, ?_⟩
      conv => whnf
      refine ⟨((i + 1 : Nat) : Int), wrap_i64 (by omega) (by omega), ?_⟩
      conv => whnf
      have e1 : aheadT i ++ [10] = aheadT (i + 1) := by simp [aheadT, piece, h2]
      rw [e1]
      exact ih (i + 1) (by omega)
    · rw [decide_eq_false (by omega)]
      conv => whnf
      refine ⟨by simp; omega, ?_⟩
      conv => whnf
      refine ⟨((i + 1 : Nat) : Int), wrap_i64 (by omega) (by omega), ?_⟩
      conv => whnf
      have e1 : aheadT i ++ [32, 47, 47, 32, 114, 101, 109, 97, 114, 107, 10] = aheadT (i + 1) := by simp [aheadT, piece, h2]
      rw [e1]
      exact ih (i + 1) (by omega)
theorem lines_loop (t ah : List UInt8) (n N : Nat) (hN : N = n % 100) (hn : n < 256) (o1 g1 o2 g2 : Nat) (a : List Tok) (hal : a.length ≤ 40000) (hline : ∀ z ∈ a, z.l ≤ 2000) (σ : St) (h1 : σ[o1]? = some ⟨g1, false, .cells 30 (toksV a)⟩) (h2 : σ[o2]? = some ⟨g2, false, .cells 30 (toksV (a.map (Tok.down N)))⟩) (Q : Out → Env → St → Prop)
    (q : ∀ e' σ', Ext σ σ' → get e' 0 = .s t → get e' 1 = .i .u8 n → get e' 5 = .s ah → get e' 7 = .sl o1 g1 0 a.length 3 → Q (.exit 2) e' σ') : ∀ (k m : Nat) (σ1 : St), m + k = a.length → Ext σ σ1 →
    LoopF X [0, 1, 5, 7, 9, 10] c5L1 [(0, .s t), (1, .i .u8 n), (5, .s ah), (7, .sl o1 g1 0 a.length 3), (9, .sl o2 g2 0 a.length 3), (10, .i .i64 m)] σ1 Q := by
  have hr : (n : Int).tmod 100 = (N : Nat) := by rw [Int.tmod_eq_emod_of_nonneg (by omega)]; omega
  intro k
  induction k with
  | zero =>
    intro m σ1 hm hx
    refine LoopF.round tyB_ok (lit := false) ?_
    conv => whnf
    rw [decide_eq_false (by omega)]
    conv => whnf
    exact q _ _ hx rfl rfl rfl rfl
  | succ k ih =>
    intro m σ1 hm hx
    obtain ⟨z, hz⟩ : ∃ z, a[m]? = some z := ⟨_, List.getElem?_eq_getElem (by omega)⟩
    have hz2 : (a.map (Tok.down N))[m]? = some (z.down N) := by rw [List.getElem?_map, hz]; rfl
    have hzl := hline z (List.mem_of_getElem? hz)
    refine LoopF.round tyB_ok (lit := false) ?_
    conv => whnf
    rw [decide_eq_true (by omega)]
    conv => whnf
    refine ⟨m, rfl, by omega, ?_⟩
    conv => whnf
    refine om_of (load_tok (hx.get h1) hz) ?_
    conv => whnf
    refine om_of (aStore_to (T := yT30) (tokV z.k z.s z.l) rfl (get_new _ _ _) rfl rfl (by decide) rfl) ?_
    conv => whnf
    have hB := at_set (get_new 30 yT30.zero.cells σ1) ⟨0, false, .cells 30 (tokV z.k z.s z.l)⟩
    have hxB := ((hx.new 30 yT30.zero.cells).set (o := σ1.length) (by have := hx.len; omega) ⟨0, false, .cells 30 (tokV z.k z.s z.l)⟩)
    refine om_of (aLoad_at (T := yT3) rfl rfl (cellsAt_of hB) rfl) ?_
    conv => whnf
    refine ⟨by decide, ?_⟩
    rw [hr]
    conv => whnf
    refine ⟨N, wrap_i64 (by omega) (by omega), ?_⟩
    conv => whnf
    refine ⟨((z.l + N : Nat) : Int), wrap_i64 (by omega) (by omega), ?_⟩
    conv => whnf
    refine om_of (aStore_to (T := yT3) (tokV z.k z.s (z.l + N : Nat)) rfl hB rfl rfl (Nat.le_of_ble_eq_true rfl) rfl) ?_
    conv => whnf
    have hB2 := at_set hB ⟨0, false, .cells 30 (tokV z.k z.s (z.l + N : Nat))⟩
    have hxC := hxB.set (o := σ1.length) (by have := hx.len; omega) ⟨0, false, .cells 30 (tokV z.k z.s (z.l + N : Nat))⟩
    refine ⟨m, rfl, by omega, ?_⟩
    conv => whnf
    refine om_of (load_tok (hxC.get h2) hz2) ?_
    conv => whnf
    refine om_of (aLoad_ag (T := yT30) rfl rfl (cellsAt_of hB2) (Nat.le_of_ble_eq_true rfl)) ?_
    conv => whnf
    split
    · rename_i h; exfalso; simp [Tok.down] at h
    · conv => whnf
      refine ⟨((m + 1 : Nat) : Int), wrap_i64 (by omega) (by omega), ?_⟩
      conv => whnf
      exact ih (m + 1) _ (by omega) hxC
theorem toksV_cell {l : List Tok} {m : Nat} {t : Tok} (h : l[m]? = some t) (j : Nat) (hj : j < 3) : (toksV l)[0 + m * 3 + j]? = (tokV t.k t.s t.l)[j]? := by
  have := congrArg (fun x => x[j]?) (toksV_at l m t h)
  simp only [List.getElem?_take, List.getElem?_drop, hj, if_true] at this
  rw [Nat.zero_add]; exact this
theorem lawLines_to (t : List UInt8) (ht : t.length ≤ 9223372036854775807) (n : Nat) (hn : n < 256) (σ : St) (hg : σ.take G0.length = G0) : CallF X 5 [.s t, .i .u8 n] σ fun v s => v = .b true ∧ s = σ := by
  have hr : (n : Int).tmod 100 = ((n % 100 : Nat) : Int) := by rw [Int.tmod_eq_emod_of_nonneg (by omega)]; omega
  have hal := aheadT_len (n % 100)
  refine CallF.body (F := F5) tyB_ok (lit := false) rfl rfl (Nat.le_of_ble_eq_true rfl) ?_
  conv => whnf
  refine ⟨min t.length 2000, by (show (if (t.length : Int) ≤ 2000 then (t.length : Int) else 2000) = _); split <;> omega, by omega, ?_⟩
  generalize ht' : t.take (min t.length 2000) = u
  have hu : u.length ≤ 2000 := by rw [← ht', List.length_take]; omega
  conv => whnf
  refine ahead_loop u n (n % 100) rfl hn σ _ (fun e' h0 h1 h5 => ?_) (n % 100) 0 (by omega)
  conv => whnf
  rw [h0]; conv => whnf
  rw [h1]; conv => whnf
  rw [h5]; conv => whnf
  refine ltok_to u σ hg _ (fun a out σ1 hla hal2 hx1 ho1 => ?_) (fun e l o σ1 hl hx ho h => ?_)
  · obtain ⟨z, hz, hbad⟩ := lines_behind hla hu (n % 100) (by omega)
    have hdown := lines_ahead hla hu (n % 100) (by omega)
    have hline : ∀ z ∈ a, z.l ≤ 2000 := fun z hz => by have := lexS_line hla z hz; omega
    have hzm : z ∈ a := List.mem_of_getLast? hz
    have hzl := hline z hzm
    have hlast : a[a.length - 1]? = some z := by rw [← hz, List.getLast?_eq_getElem?]
    have hne : a ≠ [] := fun e => by rw [e] at hz; cases hz
    have hpos : 0 < a.length := List.length_pos_iff.2 hne
    rcases ho1 with ⟨e, _⟩ | ⟨o1, g1, hge1, rfl, hs1⟩
    · exact (hne e).elim
    conv => whnf
    refine ⟨by omega, ?_⟩
    conv => whnf
    refine ltok_to _ σ1 (extGlobs hx1 hg) _ (fun b out2 σ2 hlb hbl hx2 ho2 => ?_) (fun e l o σ2 hl hx ho h => ?_)
    · rw [hdown] at hlb
      cases hlb
      rcases ho2 with ⟨e, _⟩ | ⟨o2, g2, hge2, rfl, hs2⟩
      · rw [List.map_eq_nil_iff] at e; exact (hne e).elim
      rw [List.length_map]
      conv => whnf
      rw [decide_eq_true rfl]
      conv => whnf
      rw [decide_eq_false (by omega)]
      conv => whnf
      refine lines_loop u (aheadT (n % 100)) n (n % 100) rfl hn o1 g1 o2 g2 a (by omega) hline σ2 (hx2.get hs1) hs2 _ (fun e2 σ3 hx3 k0 k1 k5 k7 => ?_) a.length 0 σ2 (by omega) (Ext.refl _)
      conv => whnf
      rw [k0]; conv => whnf
      rw [k1]; conv => whnf
      rw [k5]; conv => whnf
      rw [k7]; conv => whnf
      refine ⟨by omega, ?_⟩
      conv => whnf
      refine ⟨by rw [List.length_append]; simp only [List.length_cons, List.length_nil]; omega, ?_⟩
      conv => whnf
      have hx03 := (hx1.trans hx2).trans hx3
      refine ltok_to _ σ3 (extGlobs hx03 hg) _ (fun c out3 σ4 hlc _ hx4 ho4 => ?_) (fun e l o σ4 hl hx4 ho h => ?_)
      · rw [hbad] at hlc; cases hlc
      · rw [hbad] at hl
        cases hl
        conv => whnf
        have hx04 := hx03.trans hx4
        have hxF := (Ext.refl σ4).new 36 [.p0]
        have hF : (newCells 36 [.p0] σ4)[σ4.length]? = some ⟨0, false, .cells 36 [.p0]⟩ := get_new _ _ _
        refine as_to (extGlobs (hx04.trans hxF) hg) _ _ _ _ hF _ ?_
        have hp := at_set hF ⟨0, false, .cells 36 [.p o 0 0]⟩
        have hx5 := (hx04.trans hxF).set (o := σ4.length) hx04.len ⟨0, false, .cells 36 [.p o 0 0]⟩
        have hf := at_ne (at_new h 36 [.p0]) (o' := σ4.length) (by have := lt_at h; omega) ⟨0, false, .cells 36 [.p o 0 0]⟩
        have ha := at_ne (at_new (hx4.get (hx3.get (hx2.get hs1))) 36 [.p0]) (o' := σ4.length) (by have := lt_at (hx4.get (hx3.get (hx2.get hs1))); omega) ⟨0, false, .cells 36 [.p o 0 0]⟩
        have hzc := toksV_cell hlast 2 (by decide)
        conv => whnf
        refine om_of (aLoad_at (T := yT36) rfl rfl (cellsAt_of hp) rfl) ?_
        conv => whnf
        refine om_of (aLoad_at (T := yT36) rfl rfl (cellsAt_of hp) rfl) ?_
        conv => whnf
        refine om_of (aLoad_at (T := yT39) rfl rfl (cellsAt_of hf) rfl) ?_
        conv => whnf
        refine om_of (aLoad_at (T := yT36) rfl rfl (cellsAt_of hp) rfl) ?_
        conv => whnf
        refine om_of (aLoad_at (T := yT3) rfl rfl (cellsAt_of hf) rfl) ?_
        conv => whnf
        refine ⟨((a.length - 1 : Nat) : Int), by rw [wrap_i64 (by omega) (by omega)]; omega, ?_⟩
        conv => whnf
        refine ⟨a.length - 1, rfl, by omega, ?_⟩
        conv => whnf
        refine om_of (aLoad_at (T := yT3) rfl rfl (cellsAt_of ha) hzc) ?_
        conv => whnf
        refine ⟨by decide, ?_⟩
        rw [hr]
        conv => whnf
        refine ⟨((n % 100 : Nat) : Int), wrap_i64 (by omega) (by omega), ?_⟩
        conv => whnf
        refine ⟨om_of (aLoad_at (T := yT36) rfl rfl (cellsAt_of hp) rfl) rfl, om_of (aLoad_at (T := yT3) rfl rfl (cellsAt_of hf) rfl) rfl, om_of (aLoad_at (T := yT3) rfl rfl (cellsAt_of ha) hzc) rfl, ?_⟩
        conv => whnf
        refine ⟨((z.l + n % 100 : Nat) : Int), wrap_i64 (by omega) (by omega), ?_⟩
        conv => whnf
        refine ⟨((z.l + n % 100 + 1 : Nat) : Int), wrap_i64 (by omega) (by omega), ?_⟩
        conv => whnf
        rw [decide_eq_true rfl]
        conv => whnf
        refine CallF.to (works_to _ (extGlobs hx5 hg)) ?_
        conv => whnf
        exact Fin.flat rfl hx5.take ⟨rfl, rfl⟩
    · rw [hdown] at hl; cases hl
  · conv => whnf
    refine CallF.to (works_to _ (extGlobs hx hg)) ?_
    conv => whnf
    exact Fin.flat rfl hx.take ⟨rfl, rfl⟩
end Go.Abs.YtjphfiieapclhaaDoor
