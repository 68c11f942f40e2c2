/- What stands between the words does not matter: LexBack over the abstract store. -/
import Derived.Test.YtjphfiieapclhaaDoorFnIB
import Derived.Test.YtjphfiieapclhaaDoorLz
namespace Go.Abs.YtjphfiieapclhaaDoor
open Go.Proofs
set_option maxRecDepth 4000

/-- A list of one-cell values, as it lies. -/
def SeqAt (e A : Nat) (σ : St) (out : AV) (cs : List AV) : Prop := (cs = [] ∧ out = .sl0) ∨ ∃ o g, A ≤ o ∧ out = .sl o g 0 cs.length 1 ∧ σ[o]? = some ⟨g, false, .cells e cs⟩
theorem SeqAt.same {e A : Nat} {σ σ' : St} {out : AV} {cs : List AV} (h : SeqAt e A σ out cs) (k : ∀ o g n z, out = .sl o g 0 n z → σ'[o]? = σ[o]?) : SeqAt e A σ' out cs := by
  rcases h with h | ⟨o, g, h1, h2, h3⟩
  · exact .inl h
  · exact .inr ⟨o, g, h1, h2, by rw [k o g _ _ h2]; exact h3⟩
theorem SeqAt.new {e A : Nat} {σ : St} {out : AV} {cs : List AV} (h : SeqAt e A σ out cs) (e' : Nat) (cs' : List AV) : SeqAt e A (newCells e' cs' σ) out cs := by
  rcases h with h | ⟨o, g, h1, h2, h3⟩
  · exact .inl h
  · exact .inr ⟨o, g, h1, h2, at_new h3 e' cs'⟩
theorem SeqAt.cases {e A : Nat} {σ : St} {v : AV} {cs : List AV} (h : SeqAt e A σ v cs) : v = .sl0 ∨ ∃ o g, v = .sl o g 0 cs.length 1 := by
  rcases h with ⟨_, rfl⟩ | ⟨o, g, _, rfl, _⟩
  · exact .inl rfl
  · exact .inr ⟨o, g, rfl⟩
/-- More is appended. -/
theorem app_seq {e t A : Nat} {T E : AT} (hT : tyB.get t = some T) (hd : T.d = .slice e) (hE : tyB.get e = some E) (hz : E.size = 1) (hz2 : E.zero.cells.length = 1) (hb : Nat.blt 0 E.bytes = true) (hb8 : E.bytes ≤ 8)
    {σ : St} {out : AV} {cs : List AV} (h : SeqAt e A σ out cs) {y : AV} {ys : List AV} (hy : srcCells 1 y σ = some (ys.length, ys)) (hl : cs.length + ys.length ≤ 1000000) (h1 : cs.all AV.one = true) (h2 : ys.all AV.one = true) (hq : ∀ Q : List AV → Prop, Q ys → fqs ys Q) (hA : A ≤ σ.length) {Q : AV → St → Prop}
    (q : ∀ out' σ', SeqAt e A σ' out' (cs ++ ys) → σ.length ≤ σ'.length → (∀ i, i < σ.length → (∀ o g n z, out = .sl o g 0 n z → i ≠ o) → σ'[i]? = σ[i]?) → (∀ o g n z, out' = .sl o g 0 n z → σ.length ≤ o ∨ ∃ g' n' z', out = .sl o g' 0 n' z') → Q out' σ') :
    AppF tyB.get false t out y σ Q := by
  constructor
  refine om_of hT ?_
  rw [hd]
  refine om_of hE ?_
  rw [hz, hz2]
  have hbl : (Nat.blt 0 1 && Nat.beq 1 1 && Nat.blt 0 E.bytes) = true := by rw [hb]; rfl
  rw [hbl]
  refine om_of hy ?_
  cases ys with
  | nil =>
    rcases h with ⟨rfl, rfl⟩ | ⟨o, g, k1, rfl, k3⟩
    · exact q _ _ (.inl ⟨rfl, rfl⟩) (Nat.le_refl _) (fun _ _ _ => rfl) (fun o g n z h => by cases h)
    · exact q _ _ (.inr ⟨o, g, k1, by simp, by simpa using k3⟩) (Nat.le_refl _) (fun _ _ _ => rfl) (fun o' g' n z h => by cases h; exact .inr ⟨_, _, _, rfl⟩)
  | cons y0 ys =>
    show cB (Nat.beq (ys.length + 1) 0) _ _
    conv => whnf
    rw [h2]
    conv => whnf
    rcases h with ⟨rfl, rfl⟩ | ⟨o, g, k1, rfl, k3⟩
    · conv => whnf
      refine ⟨?_, ?_⟩
      · have : (ys.length + 1) * E.bytes ≤ (ys.length + 1) * 8 := Nat.mul_le_mul_left _ hb8
        simp only [List.length_cons, List.length_nil] at hl ⊢; omega
      refine hq _ ?_
      conv => whnf
      refine q _ _ (.inr ⟨σ.length, 0, hA, rfl, ?_⟩) (by rw [len_new]; omega) (fun i hi _ => get_old hi) (fun o g n z h => by cases h; exact .inl (Nat.le_refl _))
      exact get_new _ _ _
    · conv => whnf
      refine om_of (ownAt_of k3) ?_
      refine ⟨rfl, by omega, ?_, ?_, ?_⟩
      · have : (cs.length + (ys.length + 1)) * E.bytes ≤ (cs.length + (ys.length + 1)) * 8 := Nat.mul_le_mul_left _ hb8
        simp only [List.length_cons] at hl ⊢; omega
      · rw [List.drop_zero, List.take_of_length_le (by omega)]; exact h1
      · conv => whnf
        refine q _ _ (.inr ⟨o, g + 1, k1, by simp, ?_⟩) (by rw [List.length_set]; omega) (fun i hi hne => by rw [List.getElem?_set_ne (fun e => hne o g _ _ rfl e.symm)]) (fun o' g' n z h => by cases h; exact .inr ⟨_, _, _, rfl⟩)
        rw [at_set k3, List.drop_zero, List.take_of_length_le (by omega)]
/-- The same, with the store that it began with, and the lists of other values, as they were. -/
theorem app_seq' {e t : Nat} {σ0 : St} {T E : AT} (hT : tyB.get t = some T) (hd : T.d = .slice e) (hE : tyB.get e = some E) (hz : E.size = 1) (hz2 : E.zero.cells.length = 1) (hb : Nat.blt 0 E.bytes = true) (hb8 : E.bytes ≤ 8)
    {σ : St} {out : AV} {cs : List AV} (hx : Ext σ0 σ) (h : SeqAt e σ0.length σ out cs) {y : AV} {ys : List AV} (hy : srcCells 1 y σ = some (ys.length, ys)) (hl : cs.length + ys.length ≤ 1000000) (h1 : cs.all AV.one = true) (h2 : ys.all AV.one = true) (hq : ∀ Q : List AV → Prop, Q ys → fqs ys Q) {Q : AV → St → Prop}
    (q : ∀ out' σ', SeqAt e σ0.length σ' out' (cs ++ ys) → Ext σ0 σ' → (∀ e2 v cs2, e2 ≠ e → SeqAt e2 σ0.length σ v cs2 → SeqAt e2 σ0.length σ' v cs2) → Q out' σ') :
    AppF tyB.get false t out y σ Q := by
  refine app_seq hT hd hE hz hz2 hb hb8 h hy hl h1 h2 hq hx.len fun out' σ' k1 k2 k3 _ => q _ _ k1 ⟨Nat.le_trans hx.len k2, fun i hi => ?_⟩ fun e2 v cs2 he hv => ?_
  · rw [k3 i (Nat.lt_of_lt_of_le hi hx.len) fun o g n z ho => ?_, hx.old i hi]
    rcases h with ⟨_, rfl⟩ | ⟨o1, g1, ho1, rfl, _⟩
    · cases ho
    · cases ho; omega
  · rcases hv with hv | ⟨o, g, ho, rfl, hc⟩
    · exact .inl hv
    · refine .inr ⟨o, g, ho, rfl, ?_⟩
      rw [k3 o (lt_at hc) fun o1 g1 n z ho1 e => ?_]; exact hc
      subst e
      rcases h with ⟨_, rfl⟩ | ⟨o2, g2, _, rfl, hc2⟩
      · cases ho1
      · cases ho1
        rw [hc] at hc2
        cases hc2
        exact he rfl
def byV (b : UInt8) : AV := .i .u8 b.toNat
def nV (n : Nat) : AV := .i .i64 n
theorem byV_one (l : List UInt8) : (l.map byV).all AV.one = true := by induction l <;> simp_all [byV, AV.one]
theorem nV_one (l : List Nat) : (l.map nV).all AV.one = true := by induction l <;> simp_all [nV, AV.one]
theorem byV_fqs (l : List UInt8) (Q : List AV → Prop) (q : Q (l.map byV)) : fqs (l.map byV) Q := by
  induction l generalizing Q with
  | nil => exact q
  | cons b l ih => exact ih _ q
theorem app_bytes {σ0 σ : St} {out : AV} {bs : List UInt8} (hx : Ext σ0 σ) (h : SeqAt 5 σ0.length σ out (bs.map byV)) {y : AV} {cs : List UInt8} (hy : srcCells 1 y σ = some (cs.length, cs.map byV)) (hl : bs.length + cs.length ≤ 1000000) {Q : AV → St → Prop}
    (q : ∀ out' σ', SeqAt 5 σ0.length σ' out' ((bs ++ cs).map byV) → Ext σ0 σ' → (∀ v cs2, SeqAt 3 σ0.length σ v cs2 → SeqAt 3 σ0.length σ' v cs2) → Q out' σ') : AppF tyB.get false 33 out y σ Q :=
  app_seq' (T := yT33) (E := yT5) rfl rfl rfl rfl rfl rfl (by decide) hx h (by rw [List.length_map]; exact hy) (by simpa using hl) (byV_one _) (byV_one _) (byV_fqs _) fun out' σ' k1 k2 k3 => q out' σ' (by rw [List.map_append]; exact k1) k2 fun v cs2 hv => k3 _ v cs2 (by decide) hv
theorem app_int {σ0 σ : St} {out : AV} {ns : List Nat} (hx : Ext σ0 σ) (h : SeqAt 3 σ0.length σ out (ns.map nV)) {y : AV} {n : Nat} (hy : srcCells 1 y σ = some (1, [nV n])) (hl : ns.length ≤ 100000) {Q : AV → St → Prop}
    (q : ∀ out' σ', SeqAt 3 σ0.length σ' out' ((ns ++ [n]).map nV) → Ext σ0 σ' → (∀ v cs2, SeqAt 5 σ0.length σ v cs2 → SeqAt 5 σ0.length σ' v cs2) → Q out' σ') : AppF tyB.get false 34 out y σ Q :=
  app_seq' (T := yT34) (E := yT3) rfl rfl rfl rfl rfl rfl (by decide) hx h (ys := [nV n]) hy (by simp; omega) (nV_one _) (nV_one [n]) (fun Q q => q) fun out' σ' k1 k2 k3 => q out' σ' (by rw [List.map_append]; exact k1) k2 fun v cs2 hv => k3 _ v cs2 (by decide) hv
/-- Which of the four stands behind word i. -/
def betw (bs : List UInt8) (i : Nat) : Nat := match bs[i % bs.length]? with
  | some b => b.toNat % 4
  | none => 0
def BetAt (σ : St) (v : AV) (bs : List UInt8) : Prop := (bs = [] ∧ v = .sl0) ∨ ∃ o ro e, v = .sl o 0 0 bs.length 1 ∧ σ[o]? = some ⟨0, ro, .cells e (bs.map byV)⟩
theorem take_snoc {a : List Tok} {m : Nat} {z : Tok} (h : a[m]? = some z) : a.take (m + 1) = a.take m ++ [z] := by rw [List.take_add_one, h]; rfl
theorem wt_take : ∀ (a : List Tok) (m : Nat), wt (a.take m) ≤ wt a
  | [], m => by simp
  | t :: a, 0 => by simp [wt]
  | t :: a, m + 1 => by have := wt_take a m; simp only [List.take_succ_cons, wt]; omega
theorem toksV_cell {l : List Tok} {m : Nat} {t : Tok} (h : l[m]? = some t) (j : Nat) (hj : j < 3) : (toksV l)[0 + m * 3 + j]? = (tokV t.k t.s t.l)[j]? := by
  have := congrArg (fun x => x[j]?) (toksV_at l m t h)
  simp only [List.getElem?_take, List.getElem?_drop, hj, if_true] at this
  rw [Nat.zero_add]; exact this
set_option maxHeartbeats 8000000 in
theorem back_loop (a : List Tok) (hal : wt a ≤ 30000) (bs : List UInt8) (hbs : bs.length ≤ 9223372036854775807) (σ : St) (vb : AV) (hb : BetAt σ vb bs) (o1 g1 : Nat) (ro1 : Bool) (h1 : σ[o1]? = some ⟨g1, ro1, .cells 30 (toksV a)⟩) (Q : Out → Env → St → Prop)
    (q : ∀ e' σ' v7 v9, Ext σ σ' → get e' 5 = .sl o1 g1 0 a.length 3 → get e' 7 = v7 → get e' 8 = .i .i64 (backN (betw bs) 0 0 a) → get e' 9 = v9 →
      SeqAt 5 σ.length σ' v7 ((backT (betw bs) 0 a).map byV) → SeqAt 3 σ.length σ' v9 (((List.range a.length).map fun j => backN (betw bs) 0 0 (a.take j)).map nV) → Q (.exit 0) e' σ') : ∀ (k m : Nat) (σ1 : St) (v7 v9 : AV), m + k = a.length → Ext σ σ1 →
    SeqAt 5 σ.length σ1 v7 ((backT (betw bs) 0 (a.take m)).map byV) → SeqAt 3 σ.length σ1 v9 (((List.range m).map fun j => backN (betw bs) 0 0 (a.take j)).map nV) →
    LoopF X [1, 5, 7, 8, 9, 10] c4L0 [(1, vb), (5, .sl o1 g1 0 a.length 3), (7, v7), (8, .i .i64 (backN (betw bs) 0 0 (a.take m))), (9, v9), (10, .i .i64 m)] σ1 Q := by
  have hlen := wt_len a
  intro k
  induction k with
  | zero =>
    intro m σ1 v7 v9 hm hx h7 h9
    rw [List.take_of_length_le (by omega)] at h7 ⊢
    obtain rfl : m = a.length := by omega
    rcases hb with ⟨rfl, rfl⟩ | ⟨ob, rob, eb, rfl, hob⟩ <;> rcases h7.cases with rfl | ⟨o7, g7, rfl⟩ <;> rcases h9.cases with rfl | ⟨o9, g9, rfl⟩ <;>
    · refine LoopF.round tyB_ok (lit := false) ?_
      conv => whnf
      rw [decide_eq_false (by omega)]
      conv => whnf
      exact q _ _ _ _ hx rfl rfl rfl rfl h7 h9
  | succ k ih =>
    intro m σ1 v7 v9 hm hx h7 h9
    obtain ⟨z, hz⟩ : ∃ z, a[m]? = some z := ⟨_, List.getElem?_eq_getElem (by omega)⟩
    have hcell := toksV_cell hz 1 (by decide)
    have hw := backT_len (betw bs) 0 (a.take m)
    have hts : (a.take m).length = m := by rw [List.length_take]; omega
    have hwz : wt (a.take m) + z.s.length + 12 ≤ 30000 := by
      have := wt_take a (m + 1)
      rw [take_snoc hz, wt_app] at this; simp only [wt] at this; omega
    have hT : backT (betw bs) 0 (a.take (m + 1)) = backT (betw bs) 0 (a.take m) ++ z.s ++ sepT (betw bs m) := by rw [take_snoc hz, backT_snoc, hts, Nat.zero_add]
    have hN : backN (betw bs) 0 0 (a.take (m + 1)) = backN (betw bs) 0 0 (a.take m) + sepL (betw bs m) := by rw [take_snoc hz, backN_snoc, hts, Nat.zero_add]
    have hNb := backN_le (betw bs) (a.take m) 0 0
    have fin : ∀ (σ3 : St) (v7' v9' : AV) (L : Nat), Ext σ σ3 → SeqAt 5 σ.length σ3 v7' (((backT (betw bs) 0 (a.take m) ++ z.s) ++ sepT (betw bs m)).map byV) →
        SeqAt 3 σ.length σ3 v9' (((List.range m).map (fun j => backN (betw bs) 0 0 (a.take j)) ++ [backN (betw bs) 0 0 (a.take m)]).map nV) → L = backN (betw bs) 0 0 (a.take m) + sepL (betw bs m) →
        LoopF X [1, 5, 7, 8, 9, 10] c4L0 [(1, vb), (5, .sl o1 g1 0 a.length 3), (7, v7'), (8, .i .i64 L), (9, v9'), (10, .i .i64 (m + 1 : Nat))] σ3 Q := by
      intro σ3 v7' v9' L hx3 k7 k9 hL
      have := ih (m + 1) σ3 v7' v9' (by omega) hx3 (by rw [hT]; exact k7) (by rw [List.range_succ, List.map_append]; exact k9)
      rw [hN, ← hL] at this
      exact this
    obtain ⟨N, hNv⟩ : ∃ N, backN (betw bs) 0 0 (a.take m) = N := ⟨_, rfl⟩
    rw [hNv] at fin hNb ⊢
    have h9' : SeqAt 3 σ.length σ1 v9 (((List.range m).map fun j => backN (betw bs) 0 0 (a.take j)).map nV) := h9
    rcases hb with ⟨rfl, rfl⟩ | ⟨ob, rob, eb, rfl, hob⟩
    · rcases h7.cases with rfl | ⟨o7, g7, rfl⟩ <;> rcases h9.cases with rfl | ⟨o9, g9, rfl⟩
      all_goals
        refine LoopF.round tyB_ok (lit := false) ?_
        conv => whnf
        rw [decide_eq_true (by omega)]
        conv => whnf
        refine app_int (hx.new 3 [nV N]) (h9.new _ _) (srcCells_at (get_new _ _ _) (Nat.le_of_ble_eq_true rfl)) (by simp; omega) fun v9' σ2 k9 hx2 hk2 => ?_
        have k7 := hk2 _ _ (h7.new _ _)
        rcases k9.cases with rfl | ⟨o9', g9', rfl⟩
        · rcases k9 with ⟨e, _⟩ | ⟨_, _, _, e, _⟩
          · simp at e
          · cases e
        conv => whnf
        refine ⟨m, rfl, by omega, ?_⟩
        conv => whnf
        refine om_of (aLoad_at (T := yT9) rfl rfl (cellsAt_of (hx2.get h1)) hcell) ?_
        conv => whnf
        refine app_bytes hx2 k7 (y := .s z.s) (cs := z.s) rfl (by omega) fun v7' σ3 k7' hx3 hk3 => ?_
        have k9' := hk3 _ _ k9
        have k7l : (backT (betw []) 0 (a.take m) ++ z.s).length ≤ 30000 := by rw [List.length_append]; omega
        rcases k7'.cases with rfl | ⟨o7', g7', rfl⟩
      all_goals
        conv => whnf
        have hk0 : betw [] m = 0 := rfl
        refine app_bytes (hx3.new 5 [byV 32]) (k7'.new _ _) (cs := [32]) (srcCells_at (get_new _ _ _) (Nat.le_of_ble_eq_true rfl)) (by simp only [List.length_cons, List.length_nil]; omega) fun v7'' σ4 k7'' hx4 hk4 => ?_
        have k9'' := hk4 _ _ (k9'.new _ _)
        have hsep : sepT (betw [] m) = [32] := by rw [hk0]; rfl
        have hsl : sepL (betw [] m) = 0 := by rw [hk0]; rfl
        rcases k7''.cases with rfl | ⟨o7'', g7'', rfl⟩
        all_goals
          conv => whnf
          refine ⟨((m + 1 : Nat) : Int), wrap_i64 (by omega) (by omega), ?_⟩
          conv => whnf
          exact fin _ _ _ _ hx4 (by rw [hsep]; exact k7'') k9'' (by omega)
    · rcases Nat.eq_zero_or_pos bs.length with hz0 | hpos
      · rcases h7.cases with rfl | ⟨o7, g7, rfl⟩ <;> rcases h9.cases with rfl | ⟨o9, g9, rfl⟩
        all_goals
          refine LoopF.round tyB_ok (lit := false) ?_
          conv => whnf
          rw [decide_eq_true (by omega)]
          conv => whnf
          refine app_int (hx.new 3 [nV N]) (h9.new _ _) (srcCells_at (get_new _ _ _) (Nat.le_of_ble_eq_true rfl)) (by simp; omega) fun v9' σ2 k9 hx2 hk2 => ?_
          have k7 := hk2 _ _ (h7.new _ _)
          rcases k9.cases with rfl | ⟨o9', g9', rfl⟩
          · rcases k9 with ⟨e, _⟩ | ⟨_, _, _, e, _⟩
            · simp at e
            · cases e
          conv => whnf
          refine ⟨m, rfl, by omega, ?_⟩
          conv => whnf
          refine om_of (aLoad_at (T := yT9) rfl rfl (cellsAt_of (hx2.get h1)) hcell) ?_
          conv => whnf
          refine app_bytes hx2 k7 (y := .s z.s) (cs := z.s) rfl (by omega) fun v7' σ3 k7' hx3 hk3 => ?_
          have k9' := hk3 _ _ k9
          have k7l : (backT (betw bs) 0 (a.take m) ++ z.s).length ≤ 30000 := by rw [List.length_append]; omega
          rcases k7'.cases with rfl | ⟨o7', g7', rfl⟩
        all_goals
          conv => whnf
          rw [decide_eq_false (by omega)]
          conv => whnf
          have hk0 : betw bs m = 0 := by rw [List.length_eq_zero_iff.1 hz0]; rfl
          refine app_bytes (hx3.new 5 [byV 32]) (k7'.new _ _) (cs := [32]) (srcCells_at (get_new _ _ _) (Nat.le_of_ble_eq_true rfl)) (by simp only [List.length_cons, List.length_nil]; omega) fun v7'' σ4 k7'' hx4 hk4 => ?_
          have k9'' := hk4 _ _ (k9'.new _ _)
          have hsep : sepT (betw bs m) = [32] := by rw [hk0]; rfl
          have hsl : sepL (betw bs m) = 0 := by rw [hk0]; rfl
          rcases k7''.cases with rfl | ⟨o7'', g7'', rfl⟩
          all_goals
            conv => whnf
            refine ⟨((m + 1 : Nat) : Int), wrap_i64 (by omega) (by omega), ?_⟩
            conv => whnf
            exact fin _ _ _ _ hx4 (by rw [hsep]; exact k7'') k9'' (by omega)
      · rcases h7.cases with rfl | ⟨o7, g7, rfl⟩ <;> rcases h9.cases with rfl | ⟨o9, g9, rfl⟩
        all_goals
          refine LoopF.round tyB_ok (lit := false) ?_
          conv => whnf
          rw [decide_eq_true (by omega)]
          conv => whnf
          refine app_int (hx.new 3 [nV N]) (h9.new _ _) (srcCells_at (get_new _ _ _) (Nat.le_of_ble_eq_true rfl)) (by simp; omega) fun v9' σ2 k9 hx2 hk2 => ?_
          have k7 := hk2 _ _ (h7.new _ _)
          rcases k9.cases with rfl | ⟨o9', g9', rfl⟩
          · rcases k9 with ⟨e, _⟩ | ⟨_, _, _, e, _⟩
            · simp at e
            · cases e
          conv => whnf
          refine ⟨m, rfl, by omega, ?_⟩
          conv => whnf
          refine om_of (aLoad_at (T := yT9) rfl rfl (cellsAt_of (hx2.get h1)) hcell) ?_
          conv => whnf
          refine app_bytes hx2 k7 (y := .s z.s) (cs := z.s) rfl (by omega) fun v7' σ3 k7' hx3 hk3 => ?_
          have k9' := hk3 _ _ k9
          have k7l : (backT (betw bs) 0 (a.take m) ++ z.s).length ≤ 30000 := by rw [List.length_append]; omega
          rcases k7'.cases with rfl | ⟨o7', g7', rfl⟩
        all_goals
          conv => whnf
          rw [decide_eq_true (by omega)]
          conv => whnf
          have hml := Nat.mod_lt m hpos
          refine ⟨by omega, ?_⟩
          have er : (m : Int).tmod (bs.length : Int) = ((m % bs.length : Nat) : Int) := by rw [Int.tmod_eq_emod_of_nonneg (by omega)]; omega
          conv => whnf
          refine ⟨m % bs.length, er, hml, ?_⟩
          conv => whnf
          obtain ⟨y, hy⟩ : ∃ y, bs[m % bs.length]? = some y := ⟨_, List.getElem?_eq_getElem hml⟩
          have hby : betw bs m = y.toNat % 4 := by unfold betw; rw [hy]
          have hyc : (bs.map byV)[0 + m % bs.length * 1]? = some (byV y) := by rw [Nat.zero_add, Nat.mul_one, List.getElem?_map, hy]; rfl
          refine om_of (aLoad_at (T := yT5) rfl rfl (cellsAt_of (hx3.get hob)) hyc) ?_
          conv => whnf
          refine ⟨by decide, ?_⟩
          have e4 : (y.toNat : Int).tmod 4 = ((y.toNat % 4 : Nat) : Int) := by rw [Int.tmod_eq_emod_of_nonneg (by omega)]; omega
          rw [e4]
          conv => whnf
          have hk : y.toNat % 4 = 0 ∨ y.toNat % 4 = 1 ∨ y.toNat % 4 = 2 ∨ y.toNat % 4 = 3 := by omega
          rcases hk with hk | hk | hk | hk
          · rw [decide_eq_true (by omega)]
            conv => whnf
            have hk0 : betw bs m = 0 := by omega
            refine app_bytes (hx3.new 5 [byV 32]) (k7'.new _ _) (cs := [32]) (srcCells_at (get_new _ _ _) (Nat.le_of_ble_eq_true rfl)) (by simp only [List.length_cons, List.length_nil]; omega) fun v7'' σ4 k7'' hx4 hk4 => ?_
            have k9'' := hk4 _ _ (k9'.new _ _)
            have hsep : sepT (betw bs m) = [32] := by rw [hk0]; rfl
            have hsl : sepL (betw bs m) = 0 := by rw [hk0]; rfl
            rcases k7''.cases with rfl | ⟨o7'', g7'', rfl⟩
            all_goals
              conv => whnf
              refine ⟨((m + 1 : Nat) : Int), wrap_i64 (by omega) (by omega), ?_⟩
              conv => whnf
              exact fin _ _ _ _ hx4 (by rw [hsep]; exact k7'') k9'' (by omega)
          · rw [decide_eq_false (by omega)]
            conv => whnf
            rw [decide_eq_true (by omega)]
            conv => whnf
            have hk0 : betw bs m = 1 := by omega
            refine app_bytes (hx3.new 5 [byV 10]) (k7'.new _ _) (cs := [10]) (srcCells_at (get_new _ _ _) (Nat.le_of_ble_eq_true rfl)) (by simp only [List.length_cons, List.length_nil]; omega) fun v7'' σ4 k7'' hx4 hk4 => ?_
            have k9'' := hk4 _ _ (k9'.new _ _)
            have hsep : sepT (betw bs m) = [10] := by rw [hk0]; rfl
            have hsl : sepL (betw bs m) = 1 := by rw [hk0]; rfl
            rcases k7''.cases with rfl | ⟨o7'', g7'', rfl⟩
            all_goals
              conv => whnf
              refine ⟨((N + 1 : Nat) : Int), wrap_i64 (by omega) (by omega), ?_⟩
              conv => whnf
              refine ⟨((m + 1 : Nat) : Int), wrap_i64 (by omega) (by omega), ?_⟩
              conv => whnf
              exact fin _ _ _ _ hx4 (by rw [hsep]; exact k7'') k9'' (by omega)
          · rw [decide_eq_false (by omega)]
            conv => whnf
            rw [decide_eq_false (by omega)]
            conv => whnf
            rw [decide_eq_true (by omega)]
            conv => whnf
            have hk0 : betw bs m = 2 := by omega
            refine app_bytes hx3 k7' (y := .s [32, 47, 47, 32, 120, 32, 43, 32, 49, 32, 36, 10]) (cs := [32, 47, 47, 32, 120, 32, 43, 32, 49, 32, 36, 10]) rfl (by simp only [List.length_cons, List.length_nil]; omega) fun v7'' σ4 k7'' hx4 hk4 => ?_
            have k9'' := hk4 _ _ k9'
            have hsep : sepT (betw bs m) = [32, 47, 47, 32, 120, 32, 43, 32, 49, 32, 36, 10] := by rw [hk0]; rfl
            have hsl : sepL (betw bs m) = 1 := by rw [hk0]; rfl
            rcases k7''.cases with rfl | ⟨o7'', g7'', rfl⟩
            all_goals
              conv => whnf
              refine ⟨((N + 1 : Nat) : Int), wrap_i64 (by omega) (by omega), ?_⟩
              conv => whnf
              refine ⟨((m + 1 : Nat) : Int), wrap_i64 (by omega) (by omega), ?_⟩
              conv => whnf
              exact fin _ _ _ _ hx4 (by rw [hsep]; exact k7'') k9'' (by omega)
          · rw [decide_eq_false (by omega)]
            conv => whnf
            rw [decide_eq_false (by omega)]
            conv => whnf
            rw [decide_eq_false (by omega)]
            conv => whnf
            have hk0 : betw bs m = 3 := by omega
            refine app_bytes hx3 k7' (y := .s [9, 13, 32]) (cs := [9, 13, 32]) rfl (by simp only [List.length_cons, List.length_nil]; omega) fun v7'' σ4 k7'' hx4 hk4 => ?_
            have k9'' := hk4 _ _ k9'
            have hsep : sepT (betw bs m) = [9, 13, 32] := by rw [hk0]; rfl
            have hsl : sepL (betw bs m) = 0 := by rw [hk0]; rfl
            rcases k7''.cases with rfl | ⟨o7'', g7'', rfl⟩
            all_goals
              conv => whnf
              refine ⟨((m + 1 : Nat) : Int), wrap_i64 (by omega) (by omega), ?_⟩
              conv => whnf
              exact fin _ _ _ _ hx4 (by rw [hsep]; exact k7'') k9'' (by omega)
theorem BetAt.mono {σ σ' : St} {v : AV} {bs : List UInt8} (h : BetAt σ v bs) (hx : Ext σ σ') : BetAt σ' v bs := by
  rcases h with h | ⟨o, ro, e, h1, h2⟩
  · exact .inl h
  · exact .inr ⟨o, ro, e, h1, hx.get h2⟩
set_option maxHeartbeats 8000000 in
theorem cmp_loop (a c : List Tok) (ns : List Nat) (L : Nat) (hL : L ≤ 40000) (hns : ns.length = a.length) (hal : a.length ≤ 40000) (hcl : c.length = a.length) (h : ∀ (m : Nat) (z : Tok), a[m]? = some z → ∃ n : Nat, ns[m]? = some n ∧ n ≤ 40000 ∧ c[m]? = some (⟨z.k, z.s, if m = a.length - 1 then L else n⟩ : Tok))
    (o1 g1 o2 g2 o9 g9 : Nat) (σ : St) (h1 : σ[o1]? = some ⟨g1, false, .cells 30 (toksV a)⟩) (h2 : σ[o2]? = some ⟨g2, false, .cells 30 (toksV c)⟩) (h9 : σ[o9]? = some ⟨g9, false, .cells 3 (ns.map nV)⟩) (Q : Out → Env → St → Prop)
    (q : ∀ e', Q (.exit 3) e' σ) : ∀ (k m : Nat), m + k = a.length →
    LoopF X [5, 8, 9, 12, 13] c4L1 [(5, .sl o1 g1 0 a.length 3), (8, .i .i64 L), (9, .sl o9 g9 0 ns.length 1), (12, .sl o2 g2 0 c.length 3), (13, .i .i64 m)] σ Q := by
  intro k
  induction k with
  | zero =>
    intro m hm
    refine LoopF.round tyB_ok (lit := false) ?_
    conv => whnf
    rw [decide_eq_false (by omega)]
    conv => whnf
    exact q _
  | succ k ih =>
    intro m hm
    obtain ⟨z, hz⟩ : ∃ z, a[m]? = some z := ⟨_, List.getElem?_eq_getElem (by omega)⟩
    obtain ⟨n, hn, hn2, hc⟩ := h m z hz
    have hncell : (ns.map nV)[0 + m * 1]? = some (nV n) := by rw [Nat.zero_add, Nat.mul_one, List.getElem?_map, hn]; rfl
    have a0 := toksV_cell hz 0 (by decide)
    have a1 := toksV_cell hz 1 (by decide)
    have c0 := toksV_cell hc 0 (by decide)
    have c1 := toksV_cell hc 1 (by decide)
    have c2 := toksV_cell hc 2 (by decide)
    refine LoopF.round tyB_ok (lit := false) ?_
    conv => whnf
    rw [decide_eq_true (by omega)]
    conv => whnf
    refine ⟨m, rfl, by omega, ?_⟩
    conv => whnf
    refine om_of (aLoad_at (T := yT3) rfl rfl (cellsAt_of h9) hncell) ?_
    conv => whnf
    refine ⟨((a.length - 1 : Nat) : Int), by rw [wrap_i64 (by omega) (by omega)]; omega, ?_⟩
    conv => whnf
    by_cases hml : m = a.length - 1
    · rw [if_pos hml] at c0 c1 c2
      rw [decide_eq_true (by omega)]
      conv => whnf
      refine ⟨m, rfl, by omega, ?_⟩
      conv => whnf
      refine om_of (aLoad_at (T := yT3) rfl rfl (cellsAt_of h2) c0) ?_
      conv => whnf
      refine ⟨m, rfl, by omega, ?_⟩
      conv => whnf
      refine om_of (aLoad_at (T := yT3) rfl rfl (cellsAt_of h1) a0) ?_
      conv => whnf
      rw [decide_eq_true rfl]
      conv => whnf
      refine ⟨m, rfl, by omega, ?_⟩
      conv => whnf
      refine om_of (aLoad_at (T := yT9) rfl rfl (cellsAt_of h2) c1) ?_
      conv => whnf
      refine ⟨m, rfl, by omega, ?_⟩
      conv => whnf
      refine om_of (aLoad_at (T := yT9) rfl rfl (cellsAt_of h1) a1) ?_
      conv => whnf
      rw [show ((⟨z.k, z.s, L⟩ : Tok).s == z.s) = true from beq_self_eq_true _]
      conv => whnf
      refine ⟨m, rfl, by omega, ?_⟩
      conv => whnf
      refine om_of (aLoad_at (T := yT3) rfl rfl (cellsAt_of h2) c2) ?_
      conv => whnf
      rw [decide_eq_true rfl]
      conv => whnf
      refine ⟨((m + 1 : Nat) : Int), wrap_i64 (by omega) (by omega), ?_⟩
      conv => whnf
      exact ih (m + 1) (by omega)
    · rw [if_neg hml] at c0 c1 c2
      rw [decide_eq_false (by omega)]
      conv => whnf
      refine ⟨m, rfl, by omega, ?_⟩
      conv => whnf
      refine om_of (aLoad_at (T := yT3) rfl rfl (cellsAt_of h2) c0) ?_
      conv => whnf
      refine ⟨m, rfl, by omega, ?_⟩
      conv => whnf
      refine om_of (aLoad_at (T := yT3) rfl rfl (cellsAt_of h1) a0) ?_
      conv => whnf
      rw [decide_eq_true rfl]
      conv => whnf
      refine ⟨m, rfl, by omega, ?_⟩
      conv => whnf
      refine om_of (aLoad_at (T := yT9) rfl rfl (cellsAt_of h2) c1) ?_
      conv => whnf
      refine ⟨m, rfl, by omega, ?_⟩
      conv => whnf
      refine om_of (aLoad_at (T := yT9) rfl rfl (cellsAt_of h1) a1) ?_
      conv => whnf
      rw [show ((⟨z.k, z.s, n⟩ : Tok).s == z.s) = true from beq_self_eq_true _]
      conv => whnf
      refine ⟨m, rfl, by omega, ?_⟩
      conv => whnf
      refine om_of (aLoad_at (T := yT3) rfl rfl (cellsAt_of h2) c2) ?_
      conv => whnf
      rw [decide_eq_true rfl]
      conv => whnf
      refine ⟨((m + 1 : Nat) : Int), wrap_i64 (by omega) (by omega), ?_⟩
      conv => whnf
      exact ih (m + 1) (by omega)
theorem bytesOf_byV : ∀ l : List UInt8, bytesOf (l.map byV) = some l
  | [] => rfl
  | b :: l => by
    have hb : ((b.toNat : Int).toNat).toUInt8 = b := by simp
    simp [bytesOf, byV, bytesOf_byV l, hb]
    done
theorem backT_all (ks : Nat → Nat) (a : List Tok) : a.length ≤ (backT ks 0 a).length := by
  have : ∀ (a : List Tok) (i : Nat), a.length ≤ (backT ks i a).length := by
    intro a
    induction a with
    | nil => intro i; exact Nat.le_refl _
    | cons t a ih =>
      intro i
      have h1 := ih (i + 1)
      obtain ⟨b, x, hb, _⟩ := sepT_head (ks i)
      simp only [backT, List.length_append, hb, List.length_cons]; omega
  exact this a 0
/-- Word by word, what is read again stands to what was read. -/
theorem back_each (ks : Nat → Nat) (b : List Tok) (n : Nat) : ∀ (m : Nat) (z : Tok), (b ++ [⟨5, [], n⟩])[m]? = some z → ∃ x : Nat, ((List.range (b ++ [(⟨5, [], n⟩ : Tok)]).length).map fun j => backN ks 0 0 ((b ++ [(⟨5, [], n⟩ : Tok)]).take j))[m]? = some x ∧ x ≤ m ∧
    (backL ks 0 0 b ++ [(⟨5, [], backN ks 0 0 (b ++ [(⟨5, [], n⟩ : Tok)])⟩ : Tok)])[m]? = some (⟨z.k, z.s, if m = (b ++ [(⟨5, [], n⟩ : Tok)]).length - 1 then backN ks 0 0 (b ++ [(⟨5, [], n⟩ : Tok)]) else x⟩ : Tok) := by
  intro m z hz
  have hm := (List.getElem?_eq_some_iff.1 hz).1
  have hlen : (b ++ [(⟨5, [], n⟩ : Tok)]).length = b.length + 1 := by simp
  rw [hlen] at hm ⊢
  refine ⟨backN ks 0 0 ((b ++ [(⟨5, [], n⟩ : Tok)]).take m), ?_, ?_, ?_⟩
  · rw [List.getElem?_map, List.getElem?_range hm]; rfl
  · have := backN_le ks ((b ++ [(⟨5, [], n⟩ : Tok)]).take m) 0 0
    rw [List.length_take] at this; omega
  · rcases Nat.lt_or_ge m b.length with hlt | hge
    · rw [List.getElem?_append_left hlt] at hz
      rw [List.getElem?_append_left (by rw [backL_len]; exact hlt), if_neg (by omega), List.take_append_of_le_length (by omega)]
      exact backL_at ks b 0 0 m z hz
    · obtain rfl : m = b.length := by omega
      rw [List.getElem?_append_right (Nat.le_refl _), Nat.sub_self] at hz
      rw [List.getElem?_append_right (by rw [backL_len]; exact Nat.le_refl _), backL_len, Nat.sub_self, if_pos (by omega)]
      cases hz
      rfl
set_option maxHeartbeats 8000000 in
theorem lawBack_to (t : List UInt8) (ht : t.length ≤ 9223372036854775807) (bs : List UInt8) (hbs : bs.length ≤ 9223372036854775807) (σ : St) (hg : σ.take G0.length = G0) (vb : AV) (hb : BetAt σ vb bs) : CallF X 4 [.s t, vb] σ fun v s => v = .b true ∧ s = σ := by
  have hvb : vb = .sl0 ∨ ∃ o, vb = .sl o 0 0 bs.length 1 := by
    rcases hb with ⟨_, rfl⟩ | ⟨o, ro, e, rfl, _⟩
    · exact .inl rfl
    · exact .inr ⟨o, rfl⟩
  rcases hvb with rfl | ⟨ob, rfl⟩
  all_goals
    refine CallF.body (F := F4) tyB_ok (lit := false) rfl rfl (Nat.le_of_ble_eq_true rfl) ?_
    conv => whnf
    refine ⟨min t.length 2000, by (show (if (t.length : Int) ≤ 2000 then (t.length : Int) else 2000) = _); split <;> omega, by omega, ?_⟩
    generalize ht' : t.take (min t.length 2000) = u
    have hu : u.length ≤ 2000 := by rw [← ht', List.length_take]; omega
    conv => whnf
    refine ltok_to u σ hg _ (fun a out σ1 hla hal2 hx1 ho1 => ?_) (fun e l o σ1 hl hx ho h => ?_)
    · obtain ⟨b, n, rfl⟩ := lexS_end hla
      have hwt := lexS_wt hla
      have hbl := backT_len (betw bs) 0 (b ++ [⟨5, [], n⟩])
      have hback := back_lex (betw bs) hla hu (by omega)
      have hN := backN_le (betw bs) (b ++ [⟨5, [], n⟩]) 0 0
      rcases ho1 with ⟨e, _⟩ | ⟨o1, g1, hge1, rfl, hs1⟩
      · simp at e
      conv => whnf
      refine back_loop (b ++ [⟨5, [], n⟩]) (by omega) bs hbs σ1 _ (hb.mono hx1) o1 g1 false hs1 _ (fun e' σ2 v7 v9 hx2 h5 h7 h8 h9 k7 k9 => ?_) (b ++ [(⟨5, [], n⟩ : Tok)]).length 0 σ1 .sl0 .sl0 (by omega) (Ext.refl _) (.inl ⟨rfl, rfl⟩) (.inl ⟨rfl, rfl⟩)
      have hpos : 0 < (b ++ [(⟨5, [], n⟩ : Tok)]).length := by simp
      have hap := backT_all (betw bs) (b ++ [⟨5, [], n⟩])
      rcases k7 with ⟨e0, _⟩ | ⟨o7, g7, hge7, rfl, k7⟩
      · rw [List.map_eq_nil_iff] at e0; rw [e0] at hap; simp at hap
      rcases k9 with ⟨e0, _⟩ | ⟨o9, g9, hge9, rfl, k9⟩
      · rw [List.map_eq_nil_iff, List.map_eq_nil_iff] at e0; simp at e0
      have h9' : get e' 9 = .sl o9 g9 0 ((List.range (b ++ [(⟨5, [], n⟩ : Tok)]).length).map fun j => backN (betw bs) 0 0 ((b ++ [(⟨5, [], n⟩ : Tok)]).take j)).length 1 := by rw [h9, List.length_map]
      have hcl : (backL (betw bs) 0 0 b ++ [(⟨5, [], backN (betw bs) 0 0 (b ++ [⟨5, [], n⟩])⟩ : Tok)]).length = (b ++ [(⟨5, [], n⟩ : Tok)]).length := by simp [backL_len]
      have hx02 := hx1.trans hx2
      conv => whnf
      rw [h5]; conv => whnf
      rw [h7]; conv => whnf
      rw [h8]; conv => whnf
      rw [h9']; conv => whnf
      refine om_of (cellsAt_of k7) ⟨backT (betw bs) 0 (b ++ [⟨5, [], n⟩]), by simp, by rw [List.drop_zero, List.take_of_length_le (Nat.le_refl _), bytesOf_byV], ?_⟩
      conv => whnf
      refine ltok_to _ σ2 (extGlobs hx02 hg) _ (fun c out3 σ4 hlc _ hx4 ho4 => ?_) (fun e l o σ4 hl hx4 ho h => ?_)
      · rw [hback] at hlc
        cases hlc
        rcases ho4 with ⟨e, _⟩ | ⟨o3, g3, hge3, rfl, hs3⟩
        · simp at e
        conv => whnf
        rw [decide_eq_true (by rw [hcl])]
        conv => whnf
        refine cmp_loop (b ++ [⟨5, [], n⟩]) _ _ (backN (betw bs) 0 0 (b ++ [⟨5, [], n⟩])) (by omega) (by simp) hal2 hcl (fun m z hz => by
          obtain ⟨x, q1, q2, q3⟩ := back_each (betw bs) b n m z hz
          have := (List.getElem?_eq_some_iff.1 hz).1
          exact ⟨x, q1, by omega, q3⟩) o1 g1 o3 g3 o9 g9 σ4 (hx4.get (hx2.get hs1)) hs3 (hx4.get k9) _ (fun e2 => ?_) (b ++ [(⟨5, [], n⟩ : Tok)]).length 0 (by omega)
        conv => whnf
        have hx04 := hx02.trans hx4
        refine CallF.to (works_to _ (extGlobs hx04 hg)) ?_
        conv => whnf
        exact Fin.flat rfl hx04.take ⟨rfl, rfl⟩
      · rw [hback] at hl; cases hl
    · conv => whnf
      refine CallF.to (works_to _ (extGlobs hx hg)) ?_
      conv => whnf
      exact Fin.flat rfl hx.take ⟨rfl, rfl⟩
end Go.Abs.YtjphfiieapclhaaDoor
