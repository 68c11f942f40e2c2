/- Texts of this claim, joined: RaA, RaB, RaC, RaD, RaE. -/
import Derived.Test.YtkfcbgmamfnajaaGreatDoorM13
import Derived.Test.YtkfcbgmamfnajaaGreatDoorM09
import Derived.Test.YtkfcbgmamfnajaaGreatDoorM15
set_option linter.unusedVariables false
set_option linter.unusedSimpArgs false
/- The document's Assemble: slices that grow, lines, remarks, labels. -/
namespace Go.Abs.YtkfcbgmamfnajaaGreatDoor
open Go.Proofs
set_option maxRecDepth 4000
/-- Where what an append gives lies. -/
def Org (σ : St) (out out' : AV) : Prop := ∀ o g n z, out' = .sl o g 0 n z → σ.length ≤ o ∨ ∃ g' n' z', out = .sl o g' 0 n' z'
/-- Not the same object. -/
def Dis (a b : AV) : Prop := ∀ o g n z o' g' n' z', a = .sl o g 0 n z → b = .sl o' g' 0 n' z' → o ≠ o'
theorem Dis.symm {a b : AV} (h : Dis a b) : Dis b a := fun _ _ _ _ _ _ _ _ h1 h2 e => h _ _ _ _ _ _ _ _ h2 h1 e.symm
theorem SqAt.dis {e z e' z' A A' n n' : Nat} {σ : St} {v v' : AV} {cs cs' : List AV} (h : SqAt e z A σ v n cs) (h' : SqAt e' z' A' σ v' n' cs') (hne : e ≠ e') : Dis v v' := by
  intro o g k y o' g' k' y' e1 e2 heq
  subst heq
  rcases h.2 with ⟨_, q⟩ | ⟨o1, g1, _, q, r⟩
  · rw [q] at e1; cases e1
  · rcases h'.2 with ⟨_, q'⟩ | ⟨o2, g2, _, q', r'⟩
    · rw [q'] at e2; cases e2
    · rw [q] at e1; cases e1
      rw [q'] at e2; cases e2
      rw [r] at r'
      have h3 := Option.some.inj r'
      injection h3 with _ _ e3
      injection e3 with e3 _
      exact hne e3
theorem SqAt.kept {e z A A' n : Nat} {σ σ' : St} {v out : AV} {cs : List AV} (h : SqAt e z A σ v n cs) (k : Kept A' out σ σ') (hd : Dis v out) : SqAt e z A σ' v n cs := by
  refine ⟨h.1, ?_⟩
  rcases h.2 with q | ⟨o, g, h1, h2, h3⟩
  · exact .inl q
  · exact .inr ⟨o, g, h1, h2, by rw [k.ne o (lt_at h3) (fun o' g' n' z' e => hd _ _ _ _ _ _ _ _ h2 e)]; exact h3⟩
theorem SqAt.dis_org {e z A n : Nat} {σ : St} {out out' b : AV} {cs : List AV} (hb : SqAt e z A σ b n cs) (hd : Dis out b) (ho : Org σ out out') : Dis out' b := by
  intro o g k y o' g' k' y' e1 e2 heq
  subst heq
  rcases ho _ _ _ _ e1 with h | ⟨g3, n3, z3, e3⟩
  · rcases hb.2 with ⟨_, q⟩ | ⟨o1, g1, _, q, r⟩
    · rw [q] at e2; cases e2
    · rw [q] at e2; cases e2
      have := lt_at r; omega
  · exact hd _ _ _ _ _ _ _ _ e3 e2 rfl
/-- An item of the document. -/
def ritL (x : RT) : List AV := [.i .u32 x.w, .i .i64 x.op, .i .i64 x.d.a, .i .i64 x.d.b, .i .i64 x.d.c, .i .i64 x.d.i, .s x.lab]
theorem app_rstr {A : Nat} {σ : St} {out : AV} {n : Nat} {cs : List AV} (h : SqAt 9 1 A σ out n cs) (w : List UInt8) {C : Nat} (hC : σ[C]? = some ⟨0, false, .cells 9 [AV.s w]⟩) (hl : n ≤ 4294967296) (hA : A ≤ σ.length) {Q : AV → St → Prop}
    (q : ∀ o g σ', SqAt 9 1 A σ' (.sl o g 0 (n + 1) 1) (n + 1) (cs ++ [AV.s w]) → Kept A out σ σ' → Org σ out (.sl o g 0 (n + 1) 1) → Q (.sl o g 0 (n + 1) 1) σ') :
    AppF tyB.get false 52 out (.sl C 0 0 1 1) σ Q := by
  obtain ⟨⟨hc, hone⟩, h⟩ := h
  have hcs : (cs ++ [AV.s w]).length = (n + 1) * 1 := by rw [List.length_append, hc]; try (show n * 1 + 1 = _; omega)
  have hca : (cs ++ [AV.s w]).all AV.one = true := by rw [List.all_append, hone]; try rfl
  constructor
  refine om_of (v := yT52) rfl ?_
  refine om_of (v := yT9) rfl ?_
  refine om_of (srcCells_at hC (Nat.le_of_ble_eq_true rfl)) ?_
  rcases h with ⟨rfl, rfl⟩ | ⟨o, g, q1, rfl, q3⟩
  · have hnil : cs = [] := List.eq_nil_of_length_eq_zero (by simp [hc])
    subst hnil
    refine ⟨Nat.le_of_ble_eq_true rfl, ?_⟩
    refine q _ _ _ ⟨⟨hcs, hca⟩, .inr ⟨σ.length, 0, hA, rfl, ?_⟩⟩ ⟨fun i hi => get_old (by omega), by rw [len_new]; omega, fun i hi _ => get_old hi⟩ (fun o g n z e => by cases e; exact .inl (Nat.le_refl _))
    rw [get_new]; rfl
  · refine om_of (ownAt_of q3) ?_
    have hdt : (cs.drop 0).take (n * 1) = cs := by rw [List.drop_zero, List.take_of_length_le (by omega)]
    refine ⟨rfl, by show 0 + n * 1 ≤ _; omega, ?_, by show (List.take (n * 1) (List.drop 0 cs)).all AV.one = true; rw [hdt]; exact hone, ?_⟩
    · show (n + 1) * 16 ≤ _; omega
    refine q _ _ _ ⟨⟨hcs, hca⟩, .inr ⟨o, g + 1, q1, rfl, ?_⟩⟩ ⟨fun i hi => by rw [List.getElem?_set_ne (by omega)], by rw [List.length_set]; exact Nat.le_refl _, fun i hi hne => by rw [List.getElem?_set_ne (fun e => hne o g _ _ rfl e.symm)]⟩ (fun o' g' n' z' e => by cases e; exact .inr ⟨_, _, _, rfl⟩)
    rw [at_set q3]
    show some (AO.mk (g + 1) false (.cells 9 (List.take (n * 1) (List.drop 0 cs) ++ [AV.s w]))) = _
    rw [hdt]

theorem app_rint {A : Nat} {σ : St} {out : AV} {n : Nat} {cs : List AV} (h : SqAt 3 1 A σ out n cs) (w : Int) {C : Nat} (hC : σ[C]? = some ⟨0, false, .cells 3 [AV.i .i64 w]⟩) (hl : n ≤ 4294967296) (hA : A ≤ σ.length) {Q : AV → St → Prop}
    (q : ∀ o g σ', SqAt 3 1 A σ' (.sl o g 0 (n + 1) 1) (n + 1) (cs ++ [AV.i .i64 w]) → Kept A out σ σ' → Org σ out (.sl o g 0 (n + 1) 1) → Q (.sl o g 0 (n + 1) 1) σ') :
    AppF tyB.get false 96 out (.sl C 0 0 1 1) σ Q := by
  obtain ⟨⟨hc, hone⟩, h⟩ := h
  have hcs : (cs ++ [AV.i .i64 w]).length = (n + 1) * 1 := by rw [List.length_append, hc]; try (show n * 1 + 1 = _; omega)
  have hca : (cs ++ [AV.i .i64 w]).all AV.one = true := by rw [List.all_append, hone]; try rfl
  constructor
  refine om_of (v := yT96) rfl ?_
  refine om_of (v := yT3) rfl ?_
  refine om_of (srcCells_at hC (Nat.le_of_ble_eq_true rfl)) ?_
  rcases h with ⟨rfl, rfl⟩ | ⟨o, g, q1, rfl, q3⟩
  · have hnil : cs = [] := List.eq_nil_of_length_eq_zero (by simp [hc])
    subst hnil
    refine ⟨Nat.le_of_ble_eq_true rfl, ?_⟩
    refine q _ _ _ ⟨⟨hcs, hca⟩, .inr ⟨σ.length, 0, hA, rfl, ?_⟩⟩ ⟨fun i hi => get_old (by omega), by rw [len_new]; omega, fun i hi _ => get_old hi⟩ (fun o g n z e => by cases e; exact .inl (Nat.le_refl _))
    rw [get_new]; rfl
  · refine om_of (ownAt_of q3) ?_
    have hdt : (cs.drop 0).take (n * 1) = cs := by rw [List.drop_zero, List.take_of_length_le (by omega)]
    refine ⟨rfl, by show 0 + n * 1 ≤ _; omega, ?_, by show (List.take (n * 1) (List.drop 0 cs)).all AV.one = true; rw [hdt]; exact hone, ?_⟩
    · show (n + 1) * 8 ≤ _; omega
    refine q _ _ _ ⟨⟨hcs, hca⟩, .inr ⟨o, g + 1, q1, rfl, ?_⟩⟩ ⟨fun i hi => by rw [List.getElem?_set_ne (by omega)], by rw [List.length_set]; exact Nat.le_refl _, fun i hi hne => by rw [List.getElem?_set_ne (fun e => hne o g _ _ rfl e.symm)]⟩ (fun o' g' n' z' e => by cases e; exact .inr ⟨_, _, _, rfl⟩)
    rw [at_set q3]
    show some (AO.mk (g + 1) false (.cells 3 (List.take (n * 1) (List.drop 0 cs) ++ [AV.i .i64 w]))) = _
    rw [hdt]

theorem app_rwd {A : Nat} {σ : St} {out : AV} {n : Nat} {cs : List AV} (h : SqAt 22 1 A σ out n cs) (w : Int) {C : Nat} (hC : σ[C]? = some ⟨0, false, .cells 22 [AV.i .u32 w]⟩) (hl : n ≤ 4294967296) (hA : A ≤ σ.length) {Q : AV → St → Prop}
    (q : ∀ o g σ', SqAt 22 1 A σ' (.sl o g 0 (n + 1) 1) (n + 1) (cs ++ [AV.i .u32 w]) → Kept A out σ σ' → Org σ out (.sl o g 0 (n + 1) 1) → Q (.sl o g 0 (n + 1) 1) σ') :
    AppF tyB.get false 28 out (.sl C 0 0 1 1) σ Q := by
  obtain ⟨⟨hc, hone⟩, h⟩ := h
  have hcs : (cs ++ [AV.i .u32 w]).length = (n + 1) * 1 := by rw [List.length_append, hc]; try (show n * 1 + 1 = _; omega)
  have hca : (cs ++ [AV.i .u32 w]).all AV.one = true := by rw [List.all_append, hone]; try rfl
  constructor
  refine om_of (v := yT28) rfl ?_
  refine om_of (v := yT22) rfl ?_
  refine om_of (srcCells_at hC (Nat.le_of_ble_eq_true rfl)) ?_
  rcases h with ⟨rfl, rfl⟩ | ⟨o, g, q1, rfl, q3⟩
  · have hnil : cs = [] := List.eq_nil_of_length_eq_zero (by simp [hc])
    subst hnil
    refine ⟨Nat.le_of_ble_eq_true rfl, ?_⟩
    refine q _ _ _ ⟨⟨hcs, hca⟩, .inr ⟨σ.length, 0, hA, rfl, ?_⟩⟩ ⟨fun i hi => get_old (by omega), by rw [len_new]; omega, fun i hi _ => get_old hi⟩ (fun o g n z e => by cases e; exact .inl (Nat.le_refl _))
    rw [get_new]; rfl
  · refine om_of (ownAt_of q3) ?_
    have hdt : (cs.drop 0).take (n * 1) = cs := by rw [List.drop_zero, List.take_of_length_le (by omega)]
    refine ⟨rfl, by show 0 + n * 1 ≤ _; omega, ?_, by show (List.take (n * 1) (List.drop 0 cs)).all AV.one = true; rw [hdt]; exact hone, ?_⟩
    · show (n + 1) * 4 ≤ _; omega
    refine q _ _ _ ⟨⟨hcs, hca⟩, .inr ⟨o, g + 1, q1, rfl, ?_⟩⟩ ⟨fun i hi => by rw [List.getElem?_set_ne (by omega)], by rw [List.length_set]; exact Nat.le_refl _, fun i hi hne => by rw [List.getElem?_set_ne (fun e => hne o g _ _ rfl e.symm)]⟩ (fun o' g' n' z' e => by cases e; exact .inr ⟨_, _, _, rfl⟩)
    rw [at_set q3]
    show some (AO.mk (g + 1) false (.cells 22 (List.take (n * 1) (List.drop 0 cs) ++ [AV.i .u32 w]))) = _
    rw [hdt]

theorem app_rit {A : Nat} {σ : St} {out : AV} {n : Nat} {cs : List AV} (h : SqAt 61 7 A σ out n cs) (x : RT) {C : Nat} (hC : σ[C]? = some ⟨0, false, .cells 61 (ritL x)⟩) (hl : n ≤ 4294967296) (hA : A ≤ σ.length) {Q : AV → St → Prop}
    (q : ∀ o g σ', SqAt 61 7 A σ' (.sl o g 0 (n + 1) 7) (n + 1) (cs ++ (ritL x)) → Kept A out σ σ' → Org σ out (.sl o g 0 (n + 1) 7) → Q (.sl o g 0 (n + 1) 7) σ') :
    AppF tyB.get false 95 out (.sl C 0 0 1 7) σ Q := by
  obtain ⟨⟨hc, hone⟩, h⟩ := h
  have hcs : (cs ++ (ritL x)).length = (n + 1) * 7 := by rw [List.length_append, hc]; try (show n * 7 + 7 = _; omega)
  have hca : (cs ++ (ritL x)).all AV.one = true := by rw [List.all_append, hone]; try rfl
  constructor
  refine om_of (v := yT95) rfl ?_
  refine om_of (v := yT61) rfl ?_
  refine om_of (srcCells_at hC (Nat.le_of_ble_eq_true rfl)) ?_
  rcases h with ⟨rfl, rfl⟩ | ⟨o, g, q1, rfl, q3⟩
  · have hnil : cs = [] := List.eq_nil_of_length_eq_zero (by simp [hc])
    subst hnil
    refine ⟨Nat.le_of_ble_eq_true rfl, ?_⟩
    refine q _ _ _ ⟨⟨hcs, hca⟩, .inr ⟨σ.length, 0, hA, rfl, ?_⟩⟩ ⟨fun i hi => get_old (by omega), by rw [len_new]; omega, fun i hi _ => get_old hi⟩ (fun o g n z e => by cases e; exact .inl (Nat.le_refl _))
    rw [get_new]; rfl
  · refine om_of (ownAt_of q3) ?_
    have hdt : (cs.drop 0).take (n * 7) = cs := by rw [List.drop_zero, List.take_of_length_le (by omega)]
    refine ⟨rfl, by show 0 + n * 7 ≤ _; omega, ?_, by show (List.take (n * 7) (List.drop 0 cs)).all AV.one = true; rw [hdt]; exact hone, ?_⟩
    · show (n + 1) * 64 ≤ _; omega
    refine q _ _ _ ⟨⟨hcs, hca⟩, .inr ⟨o, g + 1, q1, rfl, ?_⟩⟩ ⟨fun i hi => by rw [List.getElem?_set_ne (by omega)], by rw [List.length_set]; exact Nat.le_refl _, fun i hi hne => by rw [List.getElem?_set_ne (fun e => hne o g _ _ rfl e.symm)]⟩ (fun o' g' n' z' e => by cases e; exact .inr ⟨_, _, _, rfl⟩)
    rw [at_set q3]
    show some (AO.mk (g + 1) false (.cells 61 (List.take (n * 7) (List.drop 0 cs) ++ (ritL x)))) = _
    rw [hdt]

theorem Ext.kept {σ0 σ σ' : St} {A : Nat} {out : AV} (x : Ext σ0 σ) (k : Kept A out σ σ') (hA : σ0.length ≤ A) : Ext σ0 σ' := ⟨by have := k.len; have := x.len; omega, fun i hi => by rw [k.low i (by omega)]; exact x.old i hi⟩
theorem rlines_loop (m : Int) (t : List UInt8) (ht : t.length ≤ 4294967296) (σ : St) (Q : Out → Env → St → Prop)
    (q : ∀ acc f out σ', acc ++ [t.drop f] = linesOf t → acc.length ≤ t.length → f ≤ t.length → SqAt 9 1 σ.length σ' out acc.length (acc.map AV.s) → Ext σ σ' → ∀ e', get e' 0 = .s t → get e' 3 = out → get e' 4 = .i .i64 (f : Int) → Q (.exit 0) e' σ') :
    ∀ (j k : Nat) (acc : List (List UInt8)) (f : Nat) (out : AV) (σ' : St), k + j = t.length → acc.length ≤ k → f ≤ k → acc ++ linesGo ((t.drop f).take (k - f)) (t.drop k) = linesOf t → SqAt 9 1 σ.length σ' out acc.length (acc.map AV.s) → Ext σ σ' →
    LoopF (X17 m) [0, 3, 4, 5] c56L0 [(0, .s t), (3, out), (4, .i .i64 (f : Int)), (5, .i .i64 (k : Int))] σ' Q
  | 0, k, acc, f, out, σ', hk, ha, hf, hw, ho, hx => by
    have hk' : k = t.length := by omega
    subst hk'
    have hw2 : acc ++ [t.drop f] = linesOf t := by
      rw [← hw, List.drop_length, List.take_of_length_le (by rw [List.length_drop]; exact Nat.le_refl _)]; rfl
    rcases ho.cases with rfl | ⟨o1, g1, rfl⟩
    all_goals
      refine LoopF.round tyB_ok (lit := false) ?_
      conv => whnf
      rw [decide_eq_false (show ¬ ((t.length : Nat) : Int) < (t.length : Int) by omega)]
      conv => whnf
      exact q acc f _ σ' hw2 ha hf ho hx _ rfl rfl rfl
  | j + 1, k, acc, f, out, σ', hk, ha, hf, hw, ho, hx => by
    have hlt : k < t.length := by omega
    have hc : t[k]? = some t[k] := List.getElem?_eq_getElem hlt
    have hd : t.drop k = t[k] :: t.drop (k + 1) := List.drop_eq_getElem_cons hlt
    have htk : (t.drop f).take (k + 1 - f) = (t.drop f).take (k - f) ++ [t[k]] := by
      rw [show k + 1 - f = (k - f) + 1 by omega, List.take_add_one, List.getElem?_drop, show f + (k - f) = k by omega, hc]; rfl
    rw [hd] at hw
    generalize t[k] = c at hc hw htk
    have hlen := hx.len
    by_cases h10 : c = 10
    · subst h10
      have hw1 : linesGo ((t.drop f).take (k - f)) (10 :: t.drop (k + 1)) = (t.drop f).take (k - f) :: linesGo [] (t.drop (k + 1)) := by
        show (if (10 : UInt8) = 10 then _ else _) = _
        rw [if_pos rfl]
      rw [hw1] at hw
      have hw3 : (acc ++ [(t.drop f).take (k - f)]) ++ linesGo ((t.drop (k + 1)).take (k + 1 - (k + 1))) (t.drop (k + 1)) = linesOf t := by
        rw [← hw, Nat.sub_self, List.take_zero, List.append_assoc]; rfl
      rcases ho.cases with rfl | ⟨o1, g1, rfl⟩
      all_goals
        refine LoopF.round tyB_ok (lit := false) ?_
        conv => whnf
        rw [decide_eq_true (show ((k : Nat) : Int) < (t.length : Int) by omega)]
        conv => whnf
        refine ⟨k, 10, rfl, hc, ?_⟩
        conv => whnf
        refine ⟨f, k, rfl, rfl, hf, by omega, ?_⟩
        conv => whnf
        refine app_rstr (ho.new _ _) ((t.drop f).take (k - f)) (get_new _ _ _) (by omega) (by rw [len_new]; omega) fun o3 g3 σ2 ho2 hk2 _ => ?_
        have hx2 := Ext.kept (hx.new _ _) hk2 (Nat.le_refl _)
        have ho3 : SqAt 9 1 σ.length σ2 (.sl o3 g3 0 (acc.length + 1) 1) (acc ++ [(t.drop f).take (k - f)]).length ((acc ++ [(t.drop f).take (k - f)]).map AV.s) := by
          rw [List.length_append, List.map_append]; exact ho2
        conv => whnf
        refine ⟨((k + 1 : Nat) : Int), (wrap_i64 (by omega) (by omega)).trans (by omega), ?_⟩
        conv => whnf
        refine ⟨((k + 1 : Nat) : Int), (wrap_i64 (by omega) (by omega)).trans (by omega), ?_⟩
        conv => whnf
        exact rlines_loop m t ht σ Q q j (k + 1) (acc ++ [(t.drop f).take (k - f)]) (k + 1) _ σ2 (by omega) (by rw [List.length_append]; simp; omega) (Nat.le_refl _) hw3 ho3 hx2
    · have hw2 : acc ++ linesGo ((t.drop f).take (k + 1 - f)) (t.drop (k + 1)) = linesOf t := by
        rw [← hw, htk]; show _ = acc ++ (if c = 10 then _ else linesGo ((t.drop f).take (k - f) ++ [c]) (t.drop (k + 1))); rw [if_neg h10]
      rcases ho.cases with rfl | ⟨o1, g1, rfl⟩
      all_goals
        refine LoopF.round tyB_ok (lit := false) ?_
        conv => whnf
        rw [decide_eq_true (show ((k : Nat) : Int) < (t.length : Int) by omega)]
        conv => whnf
        refine ⟨k, c, rfl, hc, ?_⟩
        conv => whnf
        rw [decide_eq_false (show ¬ ((c.toNat : Nat) : Int) = 10 from fun e => h10 (UInt8.toNat_inj.1 (by show c.toNat = 10; omega)))]
        conv => whnf
        refine ⟨((k + 1 : Nat) : Int), (wrap_i64 (by omega) (by omega)).trans (by omega), ?_⟩
        conv => whnf
        exact rlines_loop m t ht σ Q q j (k + 1) acc f _ σ' (by omega) (by omega) (by omega) hw2 ho hx
theorem rlines_to (m : Int) (t : List UInt8) (ht : t.length ≤ 4294967296) (σ : St) (Q : AV → St → Prop) (q : ∀ o g σ', SqAt 9 1 σ.length σ' (.sl o g 0 (linesOf t).length 1) (linesOf t).length ((linesOf t).map AV.s) → Ext σ σ' → Q (.sl o g 0 (linesOf t).length 1) σ') : CallF (X17 m) 56 [.s t] σ Q := by
  refine CallF.body (F := F56) tyB_ok (lit := false) rfl rfl (Nat.le_of_ble_eq_true rfl) ?_
  conv => whnf
  refine rlines_loop m t ht σ _ (fun acc f out σ' hw ha hf ho hx e' h0 h3 h4 => ?_) t.length 0 [] 0 .sl0 σ (by omega) (by simp) (Nat.le_refl _) (by simp [linesOf]) (SqAt.nil _ _ _ _) (Ext.refl _)
  have hlen := hx.len
  have hL : acc.length + 1 = (linesOf t).length := by rw [← hw, List.length_append]; rfl
  have hM : acc.map AV.s ++ [AV.s (t.drop f)] = (linesOf t).map AV.s := by rw [← hw, List.map_append]; rfl
  conv => whnf
  rw [h0]
  conv => whnf
  rw [h3]
  rcases ho.cases with rfl | ⟨o1, g1, rfl⟩
  all_goals
    conv => whnf
    rw [h4]
    conv => whnf
    refine ⟨f, rfl, hf, ?_⟩
    conv => whnf
    refine app_rstr (ho.new _ _) (t.drop f) (get_new _ _ _) (by omega) (by rw [len_new]; omega) fun o3 g3 σ2 ho2 hk2 _ => ?_
    have hx2 := Ext.kept (hx.new _ _) hk2 (Nat.le_refl _)
    rw [hL, hM] at ho2
    rw [hL]
    conv => whnf
    exact Fin.ref rfl (q _ _ _ ho2 hx2)
theorem rremark_loop (m : Int) (l : List UInt8) (hl : l.length ≤ 4294967296) (σ : St) (Q : Out → Env → St → Prop)
    (q1 : ∀ e', l.takeWhile (· ≠ 59) = l → get e' 0 = .s l → Q (.exit 0) e' σ)
    (q2 : ∀ e', get e' 2 = .s (l.takeWhile (· ≠ 59)) → Q .ret e' σ) :
    ∀ (j k : Nat), k + j = l.length → l.takeWhile (· ≠ 59) = l.take k ++ (l.drop k).takeWhile (· ≠ 59) → LoopF (X17 m) [0, 3] c57L0 [(0, .s l), (3, .i .i64 (k : Int))] σ Q
  | 0, k, hk, hw => by
    have hk' : k = l.length := by omega
    subst hk'
    rw [List.take_length, List.drop_length, List.takeWhile_nil, List.append_nil] at hw
    refine LoopF.round tyB_ok (lit := false) ?_
    conv => whnf
    rw [decide_eq_false (show ¬ ((l.length : Nat) : Int) < (l.length : Int) by omega)]
    conv => whnf
    exact q1 _ hw rfl
  | j + 1, k, hk, hw => by
    have hlt : k < l.length := by omega
    have hc : l[k]? = some l[k] := List.getElem?_eq_getElem hlt
    have hd : l.drop k = l[k] :: l.drop (k + 1) := List.drop_eq_getElem_cons hlt
    have htk : l.take (k + 1) = l.take k ++ [l[k]] := by rw [List.take_add_one, hc]; rfl
    rw [hd] at hw
    generalize l[k] = c at hc hw htk
    by_cases h59 : c = 59
    · subst h59
      rw [List.takeWhile_cons, if_neg (by decide), List.append_nil] at hw
      refine LoopF.round tyB_ok (lit := false) ?_
      conv => whnf
      rw [decide_eq_true (show ((k : Nat) : Int) < (l.length : Int) by omega)]
      conv => whnf
      refine ⟨k, 59, rfl, hc, ?_⟩
      conv => whnf
      refine ⟨k, rfl, by omega, ?_⟩
      conv => whnf
      exact q2 _ (congrArg AV.s hw.symm)
    · rw [List.takeWhile_cons, if_pos (by simpa using h59)] at hw
      refine LoopF.round tyB_ok (lit := false) ?_
      conv => whnf
      rw [decide_eq_true (show ((k : Nat) : Int) < (l.length : Int) by omega)]
      conv => whnf
      refine ⟨k, c, rfl, hc, ?_⟩
      conv => whnf
      rw [decide_eq_false (show ¬ ((c.toNat : Nat) : Int) = 59 from fun e => h59 (UInt8.toNat_inj.1 (by show c.toNat = 59; omega)))]
      conv => whnf
      refine ⟨((k + 1 : Nat) : Int), (wrap_i64 (by omega) (by omega)).trans (by omega), ?_⟩
      conv => whnf
      exact rremark_loop m l hl σ Q q1 q2 j (k + 1) (by omega) (by rw [hw, htk, List.append_assoc]; rfl)
theorem rremark_to (m : Int) (l : List UInt8) (hl : l.length ≤ 4294967296) (σ : St) : CallF (X17 m) 57 [.s l] σ fun v s => v = .s (l.takeWhile (· ≠ 59)) ∧ s = σ := by
  refine CallF.body (F := F57) tyB_ok (lit := false) rfl rfl (Nat.le_of_ble_eq_true rfl) ?_
  conv => whnf
  refine rremark_loop m l hl σ _ (fun e' hw h0 => ?_) (fun e' h2 => ?_) l.length 0 (by omega) rfl
  · conv => whnf
    rw [show Opd.ev e' (.t 0) = _ from h0]
    conv => whnf
    exact Fin.flat rfl List.take_length ⟨by rw [hw], rfl⟩
  · conv => whnf
    rw [h2]
    conv => whnf
    exact Fin.flat rfl List.take_length ⟨rfl, rfl⟩
/-- A label's place among labels, or -1. -/
def findZ (x : List UInt8) : List (List UInt8) → Nat → Int
  | [], _ => -1
  | y :: l, k => if y = x then k else findZ x l (k + 1)
theorem rfind_loop (m : Int) (ns : List (List UInt8)) (x : List UInt8) (hl : ns.length ≤ 4294967296) (σ : St) (o g : Nat) {ro : Bool} (h : σ[o]? = some ⟨g, ro, .cells 9 (ns.map AV.s)⟩) (Q : Out → Env → St → Prop)
    (q1 : ∀ e', findZ x ns 0 = -1 → Q (.exit 0) e' σ)
    (q2 : ∀ e', get e' 4 = .i .i64 (findZ x ns 0) → Q .ret e' σ) :
    ∀ (j k : Nat), k + j = ns.length → findZ x ns 0 = findZ x (ns.drop k) k → LoopF (X17 m) [0, 1, 5] c59L0 [(0, .sl o g 0 ns.length 1), (1, .s x), (5, .i .i64 (k : Int))] σ Q
  | 0, k, hk, hw => by
    have hk' : k = ns.length := by omega
    subst hk'
    rw [List.drop_length] at hw
    refine LoopF.round tyB_ok (lit := false) ?_
    conv => whnf
    rw [decide_eq_false (show ¬ ((ns.length : Nat) : Int) < (ns.length : Int) by omega)]
    conv => whnf
    exact q1 _ hw
  | j + 1, k, hk, hw => by
    have hlt : k < ns.length := by omega
    have hd : ns.drop k = ns[k] :: ns.drop (k + 1) := List.drop_eq_getElem_cons hlt
    have hat : (ns.map AV.s)[0 + k * 1]? = some (AV.s ns[k]) := by rw [show 0 + k * 1 = k by omega, List.getElem?_map, List.getElem?_eq_getElem hlt]; rfl
    rw [hd] at hw
    generalize ns[k] = y at hat hw
    have hw2 : findZ x ns 0 = if y = x then (k : Int) else findZ x (ns.drop (k + 1)) (k + 1) := hw
    by_cases hy : y = x
    · rw [if_pos hy] at hw2
      refine LoopF.round tyB_ok (lit := false) ?_
      conv => whnf
      rw [decide_eq_true (show ((k : Nat) : Int) < (ns.length : Int) by omega)]
      conv => whnf
      refine ⟨k, rfl, hlt, ?_⟩
      conv => whnf
      refine om_of (v := AV.s y) (aLoad_at (T := yT9) rfl rfl (cellsAt_of h) hat) ?_
      conv => whnf
      rw [show (y == x) = true from beq_iff_eq.2 hy]
      conv => whnf
      exact q2 _ (by rw [hw2]; rfl)
    · rw [if_neg hy] at hw2
      refine LoopF.round tyB_ok (lit := false) ?_
      conv => whnf
      rw [decide_eq_true (show ((k : Nat) : Int) < (ns.length : Int) by omega)]
      conv => whnf
      refine ⟨k, rfl, hlt, ?_⟩
      conv => whnf
      refine om_of (v := AV.s y) (aLoad_at (T := yT9) rfl rfl (cellsAt_of h) hat) ?_
      conv => whnf
      rw [show (y == x) = false from beq_eq_false_iff_ne.2 hy]
      conv => whnf
      refine ⟨((k + 1 : Nat) : Int), (wrap_i64 (by omega) (by omega)).trans (by omega), ?_⟩
      conv => whnf
      exact rfind_loop m ns x hl σ o g h Q q1 q2 j (k + 1) (by omega) hw2
theorem rfind_to (m : Int) {A : Nat} {σ : St} {nm : AV} {n : Nat} {cs : List AV} (ns : List (List UInt8)) (x : List UInt8) (hl : ns.length ≤ 4294967296) (h : SqAt 9 1 A σ nm n cs) (hn : n = ns.length) (hcs : cs = ns.map AV.s) : CallF (X17 m) 59 [nm, .s x] σ fun v s => v = .i .i64 (findZ x ns 0) ∧ s = σ := by
  subst hn
  subst hcs
  refine CallF.body (F := F59) tyB_ok (lit := false) rfl rfl (Nat.le_of_ble_eq_true rfl) ?_
  rcases h.2 with ⟨hz, rfl⟩ | ⟨o, g, _, rfl, hob⟩
  · have hnil : ns = [] := List.eq_nil_of_length_eq_zero hz
    subst hnil
    conv => whnf
    refine LoopF.round tyB_ok (lit := false) ?_
    conv => whnf
    exact Fin.flat rfl List.take_length ⟨rfl, rfl⟩
  · conv => whnf
    refine rfind_loop m ns x hl σ o g hob _ (fun e' hw => ?_) (fun e' h4 => ?_) ns.length 0 (by omega) rfl
    · conv => whnf
      exact Fin.flat rfl List.take_length ⟨by rw [hw], rfl⟩
    · conv => whnf
      rw [h4]
      conv => whnf
      exact Fin.flat rfl List.take_length ⟨rfl, rfl⟩
end Go.Abs.YtkfcbgmamfnajaaGreatDoor
/- The document's Assemble: what its first loop holds. -/
namespace Go.Abs.YtkfcbgmamfnajaaGreatDoor
open Go.Proofs
set_option maxRecDepth 4000
def ritsC (I : List RT) : List AV := I.flatMap ritL
theorem ritsC_len (I : List RT) : (ritsC I).length = I.length * 7 := by
  induction I with
  | nil => rfl
  | cons p I ih => unfold ritsC at *; rw [List.flatMap_cons, List.length_append, ih, List.length_cons]; show 7 + _ = _; omega
theorem ritsC_app (I : List RT) (x : RT) : ritsC (I ++ [x]) = ritsC I ++ ritL x := by unfold ritsC; rw [List.flatMap_append]; simp
theorem ritsC_at (I : List RT) (k : Nat) (p : RT) (h : I[k]? = some p) : ((ritsC I).drop (k * 7)).take 7 = ritL p := by
  induction I generalizing k with
  | nil => simp at h
  | cons q I ih =>
    have e : ritsC (q :: I) = ritL q ++ ritsC I := by unfold ritsC; rw [List.flatMap_cons]
    rw [e]
    cases k with
    | zero =>
      simp at h; subst h
      rw [Nat.zero_mul, List.drop_zero, List.take_append_of_le_length (show 7 ≤ (ritL q).length from Nat.le_refl _)]; rfl
    | succ k =>
      rw [List.getElem?_cons_succ] at h
      rw [show (k + 1) * 7 = (ritL q).length + k * 7 by show _ = 7 + _; omega, ← List.drop_drop, List.drop_left]
      exact ih k h
def intsC (l : List Nat) : List AV := l.map fun (n : Nat) => .i .i64 (n : Int)
structure RAS (m : Int) (ls : List (List UInt8)) (lo lg A : Nat) (I : List RT) (T : List Nat) (N : List (List UInt8)) (P : List Nat) (σ : St) (it at_ nm pl : AV) : Prop where
  x : Ext (G0 m) σ
  hlo : lo < A
  g11 : 11 ≤ A
  len : A ≤ σ.length
  hls : σ[lo]? = some ⟨lg, false, .cells 9 (ls.map AV.s)⟩
  hit : SqAt 61 7 A σ it I.length (ritsC I)
  hat : SqAt 3 1 A σ at_ T.length (intsC T)
  hnm : SqAt 9 1 A σ nm N.length (N.map AV.s)
  hpl : SqAt 3 1 A σ pl P.length (intsC P)
  hd : Dis at_ pl
  z1 : it = .sl0 ↔ I = []
  z2 : at_ = .sl0 ↔ T = []
  z3 : nm = .sl0 ↔ N = []
  z4 : pl = .sl0 ↔ P = []
section
variable {m : Int} {ls : List (List UInt8)} {lo lg A : Nat} {I : List RT} {T : List Nat} {N : List (List UInt8)} {P : List Nat} {σ σ' : St} {it at_ nm pl : AV}
theorem RAS.ext (h : RAS m ls lo lg A I T N P σ it at_ nm pl) (x : Ext σ σ') : RAS m ls lo lg A I T N P σ' it at_ nm pl :=
  ⟨⟨by have := h.x.len; have := x.len; omega, fun i hi => by rw [x.old i (by have := h.x.len; omega)]; exact h.x.old i hi⟩, h.hlo, h.g11, by have := h.len; have := x.len; omega, x.get h.hls, h.hit.ext x, h.hat.ext x, h.hnm.ext x, h.hpl.ext x, h.hd, h.z1, h.z2, h.z3, h.z4⟩
theorem RAS.new (h : RAS m ls lo lg A I T N P σ it at_ nm pl) (e : Nat) (cs : List AV) : RAS m ls lo lg A I T N P (newCells e cs σ) it at_ nm pl := h.ext ((Ext.refl σ).new _ _)
theorem RAS.base (h : RAS m ls lo lg A I T N P σ it at_ nm pl) {out : AV} (k : Kept A out σ σ') : Ext (G0 m) σ' ∧ A ≤ σ'.length ∧ σ'[lo]? = some ⟨lg, false, .cells 9 (ls.map AV.s)⟩ :=
  ⟨Ext.kept h.x k (by have := h.g11; show 11 ≤ A; exact this), by have := h.len; have := k.len; omega, by rw [k.low lo h.hlo]; exact h.hls⟩
theorem ne_iff {α : Type} {v : AV} {l : List α} {x : α} (h : v ≠ .sl0) : v = .sl0 ↔ l ++ [x] = [] := ⟨fun e => (h e).elim, fun e => by simp at e⟩
theorem RAS.setIt (h : RAS m ls lo lg A I T N P σ it at_ nm pl) {x : RT} {it' : AV} (hne : it' ≠ .sl0) (k : Kept A it σ σ') (q : SqAt 61 7 A σ' it' (I.length + 1) (ritsC I ++ ritL x)) : RAS m ls lo lg A (I ++ [x]) T N P σ' it' at_ nm pl := by
  obtain ⟨b1, b2, b3⟩ := h.base k
  exact ⟨b1, h.hlo, h.g11, b2, b3, by rw [List.length_append, ritsC_app]; exact q, h.hat.kept k (h.hat.dis h.hit (by decide)), h.hnm.kept k (h.hnm.dis h.hit (by decide)), h.hpl.kept k (h.hpl.dis h.hit (by decide)), h.hd, ne_iff hne, h.z2, h.z3, h.z4⟩
theorem RAS.setAt (h : RAS m ls lo lg A I T N P σ it at_ nm pl) {x : Nat} {at' : AV} (hne : at' ≠ .sl0) (k : Kept A at_ σ σ') (q : SqAt 3 1 A σ' at' (T.length + 1) (intsC T ++ [.i .i64 (x : Int)])) (o : Org σ at_ at') : RAS m ls lo lg A I (T ++ [x]) N P σ' it at' nm pl := by
  obtain ⟨b1, b2, b3⟩ := h.base k
  exact ⟨b1, h.hlo, h.g11, b2, b3, h.hit.kept k (h.hit.dis h.hat (by decide)), by rw [List.length_append, show intsC (T ++ [x]) = intsC T ++ [.i .i64 (x : Int)] by unfold intsC; rw [List.map_append]; rfl]; exact q, h.hnm.kept k (h.hnm.dis h.hat (by decide)), h.hpl.kept k h.hd.symm, h.hpl.dis_org h.hd o, h.z1, ne_iff hne, h.z3, h.z4⟩
theorem RAS.setNm (h : RAS m ls lo lg A I T N P σ it at_ nm pl) {x : List UInt8} {nm' : AV} (hne : nm' ≠ .sl0) (k : Kept A nm σ σ') (q : SqAt 9 1 A σ' nm' (N.length + 1) (N.map AV.s ++ [.s x])) : RAS m ls lo lg A I T (N ++ [x]) P σ' it at_ nm' pl := by
  obtain ⟨b1, b2, b3⟩ := h.base k
  exact ⟨b1, h.hlo, h.g11, b2, b3, h.hit.kept k (h.hit.dis h.hnm (by decide)), h.hat.kept k (h.hat.dis h.hnm (by decide)), by rw [List.length_append, List.map_append]; exact q, h.hpl.kept k (h.hpl.dis h.hnm (by decide)), h.hd, h.z1, h.z2, ne_iff hne, h.z4⟩
theorem RAS.setPl (h : RAS m ls lo lg A I T N P σ it at_ nm pl) {x : Nat} {pl' : AV} (hne : pl' ≠ .sl0) (k : Kept A pl σ σ') (q : SqAt 3 1 A σ' pl' (P.length + 1) (intsC P ++ [.i .i64 (x : Int)])) (o : Org σ pl pl') : RAS m ls lo lg A I T N (P ++ [x]) σ' it at_ nm pl' := by
  obtain ⟨b1, b2, b3⟩ := h.base k
  exact ⟨b1, h.hlo, h.g11, b2, b3, h.hit.kept k (h.hit.dis h.hpl (by decide)), h.hat.kept k h.hd, h.hnm.kept k (h.hnm.dis h.hpl (by decide)), by rw [List.length_append, show intsC (P ++ [x]) = intsC P ++ [.i .i64 (x : Int)] by unfold intsC; rw [List.map_append]; rfl]; exact q, (h.hat.dis_org h.hd.symm o).symm, h.z1, h.z2, h.z3, ne_iff hne⟩
end
/-! What a label is. -/
theorem suffix_last (w : List UInt8) (h : w ≠ []) : Lib.hasSuffix w [58] = (w[w.length - 1]? == some 58) := by
  obtain ⟨t, c, rfl⟩ : ∃ t c, w = t ++ [c] := ⟨w.dropLast, w.getLast h, (List.dropLast_concat_getLast h).symm⟩
  have h1 : (t ++ [c])[(t ++ [c]).length - 1]? = some c := by simp
  rw [h1]
  unfold Lib.hasSuffix
  cases hc : (some c == some (58 : UInt8)) with
  | true =>
    have : c = 58 := by simpa using hc
    subst this
    rw [List.isSuffixOf_iff_suffix]
    exact ⟨t, rfl⟩
  | false =>
    rw [Bool.eq_false_iff]
    intro hs
    rw [List.isSuffixOf_iff_suffix] at hs
    obtain ⟨u, hu⟩ := hs
    have := congrArg List.getLast? hu
    simp at this
    rw [this] at hc
    simp at hc
theorem labN_take (w : List UInt8) (h : Lib.hasSuffix w [58] = true) : labN w = w.take (w.length - 1) := by
  unfold labN Lib.trimSuffix
  rw [if_pos h]; rfl
/-- Names and places, as pairs. -/
theorem find_look (n : List UInt8) : ∀ (L : List (List UInt8 × Nat)) (k : Nat), (lookL n L = none ∧ findZ n (L.map (·.1)) k = -1) ∨ ∃ p j, lookL n L = some p ∧ findZ n (L.map (·.1)) k = ((k + j : Nat) : Int) ∧ (L.map (·.2))[j]? = some p
  | [], k => .inl ⟨rfl, rfl⟩
  | q :: L, k => by
    by_cases h : q.1 = n
    · right
      refine ⟨q.2, 0, ?_, ?_, rfl⟩
      · unfold lookL; rw [if_pos h]
      · show (if q.1 = n then (k : Int) else _) = _
        rw [if_pos h]; rfl
    · have e1 : lookL n (q :: L) = lookL n L := by show (if q.1 = n then _ else _) = _; rw [if_neg h]
      have e2 : findZ n ((q :: L).map (·.1)) k = findZ n (L.map (·.1)) (k + 1) := by show (if q.1 = n then _ else _) = _; rw [if_neg h]
      rw [e1, e2]
      rcases find_look n L (k + 1) with h1 | ⟨p, j, h1, h2, h3⟩
      · exact .inl h1
      · exact .inr ⟨p, j + 1, h1, by rw [h2]; congr 1; omega, h3⟩
end Go.Abs.YtkfcbgmamfnajaaGreatDoor
/- The document's Assemble: its first loop. -/
namespace Go.Abs.YtkfcbgmamfnajaaGreatDoor
open Go.Proofs
set_option maxRecDepth 4000
theorem c17_name {m : Int} {l : List UInt8} {σ : St} {Q : AV → St → Prop} (hl : l.length ≤ 281474976710656) (ht : σ.take 11 = G0 m) (q : Q (.b (nameL l)) σ) : CallF (X17 m) 58 [.s l] σ Q :=
  CallF.underR rfl rfl (y16_lab hl ht q)
theorem c17_renc {m op a b c i : Int} {σ : St} {Q : AV → St → Prop} (ht : σ.take 11 = G0 m) (q : Q (.tu [.i .u32 (encR op a b c i).1, .i .i64 (encR op a b c i).2]) σ) : CallF (X17 m) 60 [.ag [.i .i64 op, .i .i64 a, .i .i64 b, .i .i64 c, .i .i64 i]] σ Q :=
  CallF.underR rfl rfl (y16_enc ht q)
/-- State as pairs. -/
abbrev RSs (m : Int) (ls : List (List UInt8)) (lo lg A : Nat) (s : AS) (σ : St) (it at_ nm pl : AV) : Prop := RAS m ls lo lg A (s.I.map (·.1)) (s.I.map (·.2)) (s.L.map (·.1)) (s.L.map (·.2)) σ it at_ nm pl
theorem RAS.partI {m : Int} {ls : List (List UInt8)} {lo lg A : Nat} {s : AS} {σ : St} {it at_ nm pl : AV} (h : RSs m ls lo lg A s σ it at_ nm pl) : (it = .sl0 ∧ at_ = .sl0 ∧ s.I = []) ∨ ∃ o1 g1 o2 g2, it = .sl o1 g1 0 (s.I.map (·.1)).length 7 ∧ at_ = .sl o2 g2 0 (s.I.map (·.2)).length 1 ∧ s.I ≠ [] := by
  by_cases h0 : s.I = []
  · exact .inl ⟨h.z1.2 (by rw [h0]; rfl), h.z2.2 (by rw [h0]; rfl), h0⟩
  · right
    rcases h.hit.cases with e | ⟨o1, g1, e⟩
    · exact (h0 (List.map_eq_nil_iff.1 (h.z1.1 e))).elim
    · rcases h.hat.cases with e2 | ⟨o2, g2, e2⟩
      · exact (h0 (List.map_eq_nil_iff.1 (h.z2.1 e2))).elim
      · exact ⟨o1, g1, o2, g2, e, e2, h0⟩
theorem RAS.partL {m : Int} {ls : List (List UInt8)} {lo lg A : Nat} {s : AS} {σ : St} {it at_ nm pl : AV} (h : RSs m ls lo lg A s σ it at_ nm pl) : (nm = .sl0 ∧ pl = .sl0 ∧ s.L = []) ∨ ∃ o1 g1 o2 g2, nm = .sl o1 g1 0 (s.L.map (·.1)).length 1 ∧ pl = .sl o2 g2 0 (s.L.map (·.2)).length 1 ∧ s.L ≠ [] := by
  by_cases h0 : s.L = []
  · exact .inl ⟨h.z3.2 (by rw [h0]; rfl), h.z4.2 (by rw [h0]; rfl), h0⟩
  · right
    rcases h.hnm.cases with e | ⟨o1, g1, e⟩
    · exact (h0 (List.map_eq_nil_iff.1 (h.z3.1 e))).elim
    · rcases h.hpl.cases with e2 | ⟨o2, g2, e2⟩
      · exact (h0 (List.map_eq_nil_iff.1 (h.z4.1 e2))).elim
      · exact ⟨o1, g1, o2, g2, e, e2, h0⟩
theorem RAS.pushI {m : Int} {ls : List (List UInt8)} {lo lg A : Nat} {s : AS} {σ : St} {it at_ nm pl : AV} {x : RT} {k : Nat} (h : RAS m ls lo lg A (s.I.map (·.1) ++ [x]) (s.I.map (·.2) ++ [k]) (s.L.map (·.1)) (s.L.map (·.2)) σ it at_ nm pl) : RSs m ls lo lg A ⟨s.L, s.I ++ [(x, k)]⟩ σ it at_ nm pl := by
  simp only [RSs, List.map_append, List.map_cons, List.map_nil]
  exact h
theorem RAS.pushL {m : Int} {ls : List (List UInt8)} {lo lg A : Nat} {s : AS} {σ : St} {it at_ nm pl : AV} {x : List UInt8} {k : Nat} (h : RAS m ls lo lg A (s.I.map (·.1)) (s.I.map (·.2)) (s.L.map (·.1) ++ [x]) (s.L.map (·.2) ++ [k]) σ it at_ nm pl) : RSs m ls lo lg A ⟨s.L ++ [(x, k)], s.I⟩ σ it at_ nm pl := by
  simp only [RSs, List.map_append, List.map_cons, List.map_nil]
  exact h
theorem RAS.pushL' {m : Int} {ls : List (List UInt8)} {lo lg A : Nat} {s : AS} {σ : St} {it at_ nm pl : AV} {x : List UInt8} {n : Nat} (h : RAS m ls lo lg A (s.I.map (·.1)) (s.I.map (·.2)) (s.L.map (·.1) ++ [x]) (s.L.map (·.2) ++ [n]) σ it at_ nm pl) (hn : n = s.I.length) : RSs m ls lo lg A ⟨s.L ++ [(x, s.I.length)], s.I⟩ σ it at_ nm pl := by
  subst hn
  exact h.pushL
def rloopEnv (it at_ nm pl : AV) (lo lg n k : Nat) : Env := [(4, it), (5, at_), (6, nm), (7, pl), (8, .sl lo lg 0 n 1), (9, .i .i64 k)]
theorem isLab_one (w : List UInt8) (h : w ≠ []) : isLab [w] = (w[w.length - 1]? == some 58 && nameL (w.take (w.length - 1))) := by
  show (Lib.hasSuffix w [58] && nameL (labN w)) = _
  rw [suffix_last w h]
  cases hc : (w[w.length - 1]? == some 58) with
  | false => rfl
  | true => rw [labN_take w (by rw [suffix_last w h]; exact hc)]
theorem stepR_words (l : List UInt8) (k : Nat) (s : AS) : stepR l k s = if wordsOf (l.takeWhile (· ≠ 59)) = [] then .st s else takeR (wordsOf (l.takeWhile (· ≠ 59))) k s := rfl
set_option maxHeartbeats 4000000 in
theorem ras_loop (m : Int) (ls : List (List UInt8)) (hls : ls.length ≤ 100000) (hll : ∀ l ∈ ls, l.length ≤ 100000) (lo lg A : Nat) (Q : Out → Env → St → Prop)
    (q1 : ∀ e' s' σ' it at_ nm pl, asmLR ls 0 ⟨[], []⟩ = .st s' → s'.I.length ≤ 4096 → RSs m ls lo lg A s' σ' it at_ nm pl → get e' 4 = it → get e' 5 = at_ → get e' 6 = nm → get e' 7 = pl → Q (.exit 0) e' σ')
    (q2 : ∀ e' c k σ' o', asmLR ls 0 ⟨[], []⟩ = .bad c k → Ext (G0 m) σ' → 11 ≤ o' → σ'[o']? = some ⟨0, false, .cells 54 [.i .i64 c, .i .i64 k]⟩ → get e' 2 = .sl0 → get e' 3 = .p o' 0 0 → Q .ret e' σ') :
    ∀ (j k : Nat) (s : AS) (σ : St) (it at_ nm pl : AV), k + j = ls.length → asmLR (ls.drop k) k s = asmLR ls 0 ⟨[], []⟩ → s.I.length ≤ 4096 → s.L.length ≤ k → RSs m ls lo lg A s σ it at_ nm pl → LoopF (X17 m) [4, 5, 6, 7, 8, 9] c23L0 (rloopEnv it at_ nm pl lo lg ls.length k) σ Q
  | 0, k, s, σ, it, at_, nm, pl, hk, hA, hI, hL, hr => by
    have hk' : k = ls.length := by omega
    subst hk'
    rw [List.drop_length] at hA
    rcases hr.partI with ⟨rfl, rfl, hI0⟩ | ⟨o1, g1, o2, g2, rfl, rfl, hI0⟩ <;> rcases hr.partL with ⟨rfl, rfl, hL0⟩ | ⟨o3, g3, o4, g4, rfl, rfl, hL0⟩
    all_goals
      refine LoopF.round tyB_ok (lit := false) ?_
      conv => whnf
      rw [decide_eq_false (show ¬ ((ls.length : Nat) : Int) < (ls.length : Int) by omega)]
      conv => whnf
      exact q1 _ s σ _ _ _ _ hA.symm hI hr rfl rfl rfl rfl
  | j + 1, k, s, σ, it, at_, nm, pl, hk, hA, hI, hL, hr => by
    have hlt : k < ls.length := by omega
    have hd : ls.drop k = ls[k] :: ls.drop (k + 1) := List.drop_eq_getElem_cons hlt
    have hc : (ls.map AV.s)[k]? = some (AV.s ls[k]) := by rw [List.getElem?_map, List.getElem?_eq_getElem hlt]; rfl
    have hl := hll ls[k] (List.getElem_mem hlt)
    rw [hd] at hA
    generalize ls[k] = l at hA hc hl
    have hA2 : asmLR (l :: ls.drop (k + 1)) k s = match stepR l k s with
      | .st s' => asmLR (ls.drop (k + 1)) (k + 1) s'
      | .bad c => .bad c k := rfl
    rw [hA2, stepR_words] at hA
    have htl : (l.takeWhile (· ≠ 59)).length ≤ 100000 := Nat.le_trans (List.Sublist.length_le (List.takeWhile_sublist _)) hl
    have hlenx := hr.x.len
    have hlenA := hr.len
    have h11 := hr.g11
    have hnx := fun (s' : AS) (σ' : St) (it' at' nm' pl' : AV) (h1 : asmLR (ls.drop (k + 1)) (k + 1) s' = asmLR ls 0 ⟨[], []⟩) (h2 : s'.I.length ≤ 4096) (h3 : s'.L.length ≤ k + 1) (h4 : RSs m ls lo lg A s' σ' it' at' nm' pl') => ras_loop m ls hls hll lo lg A Q q1 q2 j (k + 1) s' σ' it' at' nm' pl' (by omega) h1 h2 h3 h4
    rcases hr.partI with ⟨rfl, rfl, hI0⟩ | ⟨o1, g1, o2, g2, rfl, rfl, hI0⟩ <;> rcases hr.partL with ⟨rfl, rfl, hL0⟩ | ⟨o3, g3, o4, g4, rfl, rfl, hL0⟩
    all_goals
      refine LoopF.round tyB_ok (lit := false) ?_
      conv => whnf
      rw [decide_eq_true (show ((k : Nat) : Int) < (ls.length : Int) by omega)]
      conv => whnf
      refine ⟨k, rfl, by omega, ?_⟩
      conv => whnf
      refine om_of (v := AV.s l) (aLoad_at (T := yT9) rfl rfl (cellsAt_of hr.hls) (by rw [Nat.zero_add, Nat.mul_one]; exact hc)) ?_
      conv => whnf
      refine CallF.to (rremark_to m l (by omega) σ) ?_
      conv => whnf
      refine rwords_to m _ (by omega) σ _ fun out σ1 ho hx => ?_
      have hsh := words_short (l := l.takeWhile (· ≠ 59)) (by omega)
      have hwl := (wordsOf_len (l.takeWhile (· ≠ 59))).1
      have hwn := fun w (h : w ∈ wordsOf (l.takeWhile (· ≠ 59))) => wordsOf_ne h
      generalize wordsOf (l.takeWhile (· ≠ 59)) = ws at hA hsh hwl hwn ho ⊢
      have hr1 := hr.ext hx
      have hx1 := hr1.x.take
      rcases ho.2 with ⟨hz, rfl⟩ | ⟨ow, gw, hAw, rfl, how⟩
      · have hws : ws = [] := List.eq_nil_of_length_eq_zero hz
        rw [if_pos hws] at hA
        conv => whnf
        refine ⟨((k + 1 : Nat) : Int), (wrap_i64 (by omega) (by omega)).trans (by omega), ?_⟩
        conv => whnf
        exact hnx s σ1 _ _ _ _ hA hI (by omega) hr1
      · by_cases hws : ws = []
        · rw [if_pos hws] at hA
          conv => whnf
          rw [show decide (((ws.length : Nat) : Int) = 0) = true from decide_eq_true (by rw [hws]; rfl)]
          conv => whnf
          refine ⟨((k + 1 : Nat) : Int), (wrap_i64 (by omega) (by omega)).trans (by omega), ?_⟩
          conv => whnf
          exact hnx s σ1 _ _ _ _ hA hI (by omega) hr1
        rw [if_neg hws] at hA
        have hwp : 0 < ws.length := List.length_pos_iff.2 hws
        conv => whnf
        rw [show decide (((ws.length : Nat) : Int) = 0) = false from decide_eq_false (by omega)]
        conv => whnf
        obtain ⟨w0, rest, rfl⟩ : ∃ w0 rest, ws = w0 :: rest := by cases ws with | nil => exact (hws rfl).elim | cons a b => exact ⟨a, b, rfl⟩
        have hw0 : w0 ≠ [] := hwn w0 (by simp)
        have hp0 : 0 < w0.length := List.length_pos_iff.2 hw0
        have hsh2 := hsh
        simp only [shortB, Bool.and_eq_true, decide_eq_true_eq, List.all_eq_true] at hsh2
        have hl0 := hsh2.2 w0 (by simp)
        refine ⟨0, rfl, hwp, ?_⟩
        conv => whnf
        refine om_of (v := AV.s w0) (aLoad_at (T := yT9) rfl rfl (cellsAt_of how) rfl) ?_
        conv => whnf
        rcases rest with _ | ⟨w1, rest⟩
        · have hlast : w0[w0.length - 1]? = some w0[w0.length - 1] := List.getElem?_eq_getElem (by omega)
          have hlab0 := isLab_one w0 hw0
          rw [hlast] at hlab0
          generalize w0[w0.length - 1] = c at hlast hlab0
          rw [show decide ((([w0] : List (List UInt8)).length : Int) = 1) = true from rfl]
          conv => whnf
          refine ⟨0, rfl, Nat.succ_pos _, ?_⟩
          conv => whnf
          refine om_of (v := AV.s w0) (aLoad_at (T := yT9) rfl rfl (cellsAt_of how) rfl) ?_
          conv => whnf
          refine ⟨((w0.length - 1 : Nat) : Int), (wrap_i64 (by omega) (by omega)).trans (by omega), ?_⟩
          conv => whnf
          refine ⟨w0.length - 1, c, rfl, hlast, ?_⟩
          conv => whnf
          by_cases h58 : c = 58
          · subst h58
            rw [show decide ((((58 : UInt8).toNat : Nat) : Int) = 58) = true from rfl]
            conv => whnf
            refine ⟨0, rfl, Nat.succ_pos _, ?_⟩
            conv => whnf
            refine om_of (v := AV.s w0) (aLoad_at (T := yT9) rfl rfl (cellsAt_of how) rfl) ?_
            conv => whnf
            refine ⟨((w0.length - 1 : Nat) : Int), (wrap_i64 (by omega) (by omega)).trans (by omega), ?_⟩
            conv => whnf
            refine ⟨w0.length - 1, rfl, by omega, ?_⟩
            conv => whnf
            have hlt0 : (w0.take (w0.length - 1)).length ≤ 281474976710656 := by rw [List.length_take]; omega
            refine c17_name hlt0 hx1 ?_
            cases hnm : nameL (w0.take (w0.length - 1)) with
            | true =>
              have hlab : isLab [w0] = true := by rw [hlab0, hnm]; rfl
              have hT : takeR [w0] k s = match lookL (w0.take (w0.length - 1)) s.L with
                | some _ => .bad 11
                | none => .st ⟨s.L ++ [(w0.take (w0.length - 1), s.I.length)], s.I⟩ := by
                unfold takeR; rw [if_pos hlab, show labN ([w0].headD []) = w0.take (w0.length - 1) from labN_take w0 (by rw [suffix_last w0 hw0, hlast]; rfl)]
                cases lookL (w0.take (w0.length - 1)) s.L <;> rfl
              rw [hT] at hA
              generalize hxd : w0.take (w0.length - 1) = x at hA hlt0 hnm
              conv => whnf
              refine ⟨0, rfl, Nat.succ_pos _, ?_⟩
              conv => whnf
              refine om_of (v := AV.s w0) (aLoad_at (T := yT9) rfl rfl (cellsAt_of how) rfl) ?_
              conv => whnf
              refine ⟨((w0.length - 1 : Nat) : Int), (wrap_i64 (by omega) (by omega)).trans (by omega), ?_⟩
              conv => whnf
              refine ⟨w0.length - 1, rfl, by omega, ?_⟩
              conv => whnf
              rw [hxd]
              refine CallF.to (rfind_to m (s.L.map (·.1)) x (by rw [List.length_map]; omega) hr1.hnm rfl rfl) ?_
              conv => whnf
              rcases find_look x s.L 0 with ⟨hf1, hf2⟩ | ⟨p, jj, hf1, hf2, hf3⟩
              · rw [hf1] at hA
                rw [hf2, show decide ((0 : Int) ≤ -1) = false from rfl]
                conv => whnf
                refine ⟨0, rfl, Nat.succ_pos _, ?_⟩
                conv => whnf
                refine om_of (v := AV.s w0) (aLoad_at (T := yT9) rfl rfl (cellsAt_of how) rfl) ?_
                conv => whnf
                refine ⟨((w0.length - 1 : Nat) : Int), (wrap_i64 (by omega) (by omega)).trans (by omega), ?_⟩
                conv => whnf
                refine ⟨w0.length - 1, rfl, by omega, ?_⟩
                conv => whnf
                rw [hxd]
                have hr4 := hr1.new 9 [AV.s x]
                refine app_rstr hr4.hnm x (get_new _ _ _) (by rw [List.length_map]; omega) hr4.len fun o5 g5 σ4 ho4 hk4 _ => ?_
                have hr5 := fun cs => (hr4.setNm (by simp) hk4 ho4).new 3 cs
                conv => whnf
                first
                  | (refine app_rint (hr5 _).hpl (((s.I.map (·.1)).length : Nat) : Int) (get_new _ _ _) (by rw [List.length_map]; omega) (hr5 _).len fun o6 g6 σ5 ho5 hk5 hg5 => ?_
                     have hr6 := (hr5 _).setPl (by simp) hk5 ho5 hg5
                     conv => whnf
                     refine ⟨((k + 1 : Nat) : Int), (wrap_i64 (by omega) (by omega)).trans (by omega), ?_⟩
                     conv => whnf
                     exact hnx ⟨s.L ++ [(x, s.I.length)], s.I⟩ _ _ _ _ _ hA hI (by rw [List.length_append]; simp; omega) (hr6.pushL' (List.length_map _)))
                  | (refine app_rint (hr5 _).hpl ((0 : Nat) : Int) (get_new _ _ _) (by rw [List.length_map]; omega) (hr5 _).len fun o6 g6 σ5 ho5 hk5 hg5 => ?_
                     have hr6 := (hr5 _).setPl (by simp) hk5 ho5 hg5
                     conv => whnf
                     refine ⟨((k + 1 : Nat) : Int), (wrap_i64 (by omega) (by omega)).trans (by omega), ?_⟩
                     conv => whnf
                     exact hnx ⟨s.L ++ [(x, s.I.length)], s.I⟩ _ _ _ _ _ hA hI (by rw [List.length_append]; simp; omega) (hr6.pushL' (by rw [hI0]; rfl)))
              · rw [hf1] at hA
                rw [hf2, decide_eq_true (show (0 : Int) ≤ ((0 + jj : Nat) : Int) by omega)]
                conv => whnf
                exact q2 _ 11 k _ _ hA.symm (hr1.x.new _ _) (by have := hr1.len; omega) (get_new _ _ _) rfl rfl
            | false =>
              have hlab : isLab [w0] = false := by rw [hlab0, hnm]; rfl
              conv => whnf
              refine c17_read (t := []) (by rw [List.append_nil]; exact how) hws rfl hsh hx1 ?_
              have hT : takeR [w0] k s = if (readR [w0]).is = false then .bad 4 else if 4096 ≤ s.I.length then .bad 3 else .st ⟨s.L, s.I ++ [(readR [w0], k)]⟩ := by
                unfold takeR; rw [hlab]; rfl
              rw [hT] at hA
              generalize readR [w0] = x at hA ⊢
              obtain ⟨op, d, w, lab, is⟩ := x
              have hr2 := hr1.new 61 yT61.zero.cells
              have hr3 : RSs m ls lo lg A s ((newCells 61 yT61.zero.cells σ1).set σ1.length ⟨0, false, .cells 61 (ritL ⟨op, d, w, lab, is⟩)⟩) _ _ _ _ :=
                hr1.ext ⟨by rw [List.length_set, len_new]; omega, fun i hi => by rw [List.getElem?_set_ne (by omega), get_old hi]⟩
              have hob3 : ((newCells 61 yT61.zero.cells σ1).set σ1.length ⟨0, false, .cells 61 (ritL ⟨op, d, w, lab, is⟩)⟩)[σ1.length]? = some ⟨0, false, .cells 61 (ritL ⟨op, d, w, lab, is⟩)⟩ := at_set (get_new _ _ _) _
              have hst : aStore (tyB.get 61) (.p σ1.length 0 0) (.ag (ritL ⟨op, d, w, lab, is⟩)) (newCells 61 yT61.zero.cells σ1) = some ((newCells 61 yT61.zero.cells σ1).set σ1.length ⟨0, false, .cells 61 (ritL ⟨op, d, w, lab, is⟩)⟩) :=
                aStore_to (T := yT61) (cs := yT61.zero.cells) (ritL ⟨op, d, w, lab, is⟩) rfl (get_new _ _ _) rfl rfl (Nat.le_of_ble_eq_true rfl) rfl
              generalize (newCells 61 yT61.zero.cells σ1).set σ1.length ⟨0, false, .cells 61 (ritL ⟨op, d, w, lab, is⟩)⟩ = σ3 at hr3 hob3 hst
              cases is with
              | false =>
                conv => whnf
                refine om_of hst ?_
                conv => whnf
                exact q2 _ 4 k _ _ hA.symm (hr3.x.new _ _) (by have := hr3.len; omega) (get_new _ _ _) rfl rfl
              | true =>
                rw [if_neg (fun e => Bool.noConfusion e)] at hA
                conv => whnf
                refine om_of hst ?_
                conv => whnf
                by_cases h4 : 4096 ≤ s.I.length
                · rw [if_pos h4] at hA
                  first
                    | (exfalso; rw [hI0] at h4; simp at h4; done)
                    | (rw [decide_eq_true (show (4096 : Int) ≤ ((s.I.map (·.1)).length : Int) by rw [List.length_map]; omega)]
                       conv => whnf
                       exact q2 _ 3 k _ _ hA.symm (hr3.x.new _ _) (by have := hr3.len; omega) (get_new _ _ _) rfl rfl)
                · rw [if_neg h4] at hA
                  try (rw [decide_eq_false (show ¬ (4096 : Int) ≤ ((s.I.map (·.1)).length : Int) by rw [List.length_map]; omega)]; conv => whnf)
                  refine om_of (v := AV.ag (ritL ⟨op, d, w, lab, true⟩)) (aLoad_ag (T := yT61) rfl rfl (cellsAt_of hob3) (Nat.le_of_ble_eq_true rfl)) ?_
                  conv => whnf
                  have hr4 := hr3.new 61 (ritL ⟨op, d, w, lab, true⟩)
                  refine app_rit hr4.hit ⟨op, d, w, lab, true⟩ (get_new _ _ _) (by rw [List.length_map]; omega) hr4.len fun o5 g5 σ4 ho4 hk4 _ => ?_
                  have hr5 := (hr4.setIt (by simp) hk4 ho4).new 3 [AV.i .i64 k]
                  conv => whnf
                  refine app_rint hr5.hat k (get_new _ _ _) (by rw [List.length_map]; omega) hr5.len fun o6 g6 σ5 ho5 hk5 hg5 => ?_
                  have hr6 := hr5.setAt (by simp) hk5 ho5 hg5
                  conv => whnf
                  refine ⟨((k + 1 : Nat) : Int), (wrap_i64 (by omega) (by omega)).trans (by omega), ?_⟩
                  conv => whnf
                  exact hnx ⟨s.L, s.I ++ [(⟨op, d, w, lab, true⟩, k)]⟩ _ _ _ _ _ hA (by rw [List.length_append]; simp; omega) (by show s.L.length ≤ k + 1; omega) hr6.pushI
          · have hlab : isLab [w0] = false := by rw [hlab0, show (some c == some (58 : UInt8)) = false by simpa using h58]; rfl
            rw [decide_eq_false (show ¬ ((c.toNat : Nat) : Int) = 58 from fun e => h58 (UInt8.toNat_inj.1 (by show c.toNat = 58; omega)))]
            conv => whnf
            refine c17_read (t := []) (by rw [List.append_nil]; exact how) hws rfl hsh hx1 ?_
            have hT : takeR [w0] k s = if (readR [w0]).is = false then .bad 4 else if 4096 ≤ s.I.length then .bad 3 else .st ⟨s.L, s.I ++ [(readR [w0], k)]⟩ := by
              unfold takeR; rw [hlab]; rfl
            rw [hT] at hA
            generalize readR [w0] = x at hA ⊢
            obtain ⟨op, d, w, lab, is⟩ := x
            have hr2 := hr1.new 61 yT61.zero.cells
            have hr3 : RSs m ls lo lg A s ((newCells 61 yT61.zero.cells σ1).set σ1.length ⟨0, false, .cells 61 (ritL ⟨op, d, w, lab, is⟩)⟩) _ _ _ _ :=
              hr1.ext ⟨by rw [List.length_set, len_new]; omega, fun i hi => by rw [List.getElem?_set_ne (by omega), get_old hi]⟩
            have hob3 : ((newCells 61 yT61.zero.cells σ1).set σ1.length ⟨0, false, .cells 61 (ritL ⟨op, d, w, lab, is⟩)⟩)[σ1.length]? = some ⟨0, false, .cells 61 (ritL ⟨op, d, w, lab, is⟩)⟩ := at_set (get_new _ _ _) _
            have hst : aStore (tyB.get 61) (.p σ1.length 0 0) (.ag (ritL ⟨op, d, w, lab, is⟩)) (newCells 61 yT61.zero.cells σ1) = some ((newCells 61 yT61.zero.cells σ1).set σ1.length ⟨0, false, .cells 61 (ritL ⟨op, d, w, lab, is⟩)⟩) :=
              aStore_to (T := yT61) (cs := yT61.zero.cells) (ritL ⟨op, d, w, lab, is⟩) rfl (get_new _ _ _) rfl rfl (Nat.le_of_ble_eq_true rfl) rfl
            generalize (newCells 61 yT61.zero.cells σ1).set σ1.length ⟨0, false, .cells 61 (ritL ⟨op, d, w, lab, is⟩)⟩ = σ3 at hr3 hob3 hst
            cases is with
            | false =>
              conv => whnf
              refine om_of hst ?_
              conv => whnf
              exact q2 _ 4 k _ _ hA.symm (hr3.x.new _ _) (by have := hr3.len; omega) (get_new _ _ _) rfl rfl
            | true =>
              rw [if_neg (fun e => Bool.noConfusion e)] at hA
              conv => whnf
              refine om_of hst ?_
              conv => whnf
              by_cases h4 : 4096 ≤ s.I.length
              · rw [if_pos h4] at hA
                first
                  | (exfalso; rw [hI0] at h4; simp at h4; done)
                  | (rw [decide_eq_true (show (4096 : Int) ≤ ((s.I.map (·.1)).length : Int) by rw [List.length_map]; omega)]
                     conv => whnf
                     exact q2 _ 3 k _ _ hA.symm (hr3.x.new _ _) (by have := hr3.len; omega) (get_new _ _ _) rfl rfl)
              · rw [if_neg h4] at hA
                try (rw [decide_eq_false (show ¬ (4096 : Int) ≤ ((s.I.map (·.1)).length : Int) by rw [List.length_map]; omega)]; conv => whnf)
                refine om_of (v := AV.ag (ritL ⟨op, d, w, lab, true⟩)) (aLoad_ag (T := yT61) rfl rfl (cellsAt_of hob3) (Nat.le_of_ble_eq_true rfl)) ?_
                conv => whnf
                have hr4 := hr3.new 61 (ritL ⟨op, d, w, lab, true⟩)
                refine app_rit hr4.hit ⟨op, d, w, lab, true⟩ (get_new _ _ _) (by rw [List.length_map]; omega) hr4.len fun o5 g5 σ4 ho4 hk4 _ => ?_
                have hr5 := (hr4.setIt (by simp) hk4 ho4).new 3 [AV.i .i64 k]
                conv => whnf
                refine app_rint hr5.hat k (get_new _ _ _) (by rw [List.length_map]; omega) hr5.len fun o6 g6 σ5 ho5 hk5 hg5 => ?_
                have hr6 := hr5.setAt (by simp) hk5 ho5 hg5
                conv => whnf
                refine ⟨((k + 1 : Nat) : Int), (wrap_i64 (by omega) (by omega)).trans (by omega), ?_⟩
                conv => whnf
                exact hnx ⟨s.L, s.I ++ [(⟨op, d, w, lab, true⟩, k)]⟩ _ _ _ _ _ hA (by rw [List.length_append]; simp; omega) (by show s.L.length ≤ k + 1; omega) hr6.pushI
        · have hlab : isLab (w0 :: w1 :: rest) = false := rfl
          rw [show decide (((w0 :: w1 :: rest).length : Int) = 1) = false from decide_eq_false (by simp only [List.length_cons]; omega)]
          conv => whnf
          refine c17_read (t := []) (by rw [List.append_nil]; exact how) hws rfl hsh hx1 ?_
          have hT : takeR (w0 :: w1 :: rest) k s = if (readR (w0 :: w1 :: rest)).is = false then .bad 4 else if 4096 ≤ s.I.length then .bad 3 else .st ⟨s.L, s.I ++ [(readR (w0 :: w1 :: rest), k)]⟩ := by
            unfold takeR; rw [hlab]; rfl
          rw [hT] at hA
          generalize readR (w0 :: w1 :: rest) = x at hA ⊢
          obtain ⟨op, d, w, lab, is⟩ := x
          have hr2 := hr1.new 61 yT61.zero.cells
          have hr3 : RSs m ls lo lg A s ((newCells 61 yT61.zero.cells σ1).set σ1.length ⟨0, false, .cells 61 (ritL ⟨op, d, w, lab, is⟩)⟩) _ _ _ _ :=
            hr1.ext ⟨by rw [List.length_set, len_new]; omega, fun i hi => by rw [List.getElem?_set_ne (by omega), get_old hi]⟩
          have hob3 : ((newCells 61 yT61.zero.cells σ1).set σ1.length ⟨0, false, .cells 61 (ritL ⟨op, d, w, lab, is⟩)⟩)[σ1.length]? = some ⟨0, false, .cells 61 (ritL ⟨op, d, w, lab, is⟩)⟩ := at_set (get_new _ _ _) _
          have hst : aStore (tyB.get 61) (.p σ1.length 0 0) (.ag (ritL ⟨op, d, w, lab, is⟩)) (newCells 61 yT61.zero.cells σ1) = some ((newCells 61 yT61.zero.cells σ1).set σ1.length ⟨0, false, .cells 61 (ritL ⟨op, d, w, lab, is⟩)⟩) :=
            aStore_to (T := yT61) (cs := yT61.zero.cells) (ritL ⟨op, d, w, lab, is⟩) rfl (get_new _ _ _) rfl rfl (Nat.le_of_ble_eq_true rfl) rfl
          generalize (newCells 61 yT61.zero.cells σ1).set σ1.length ⟨0, false, .cells 61 (ritL ⟨op, d, w, lab, is⟩)⟩ = σ3 at hr3 hob3 hst
          cases is with
          | false =>
            conv => whnf
            refine om_of hst ?_
            conv => whnf
            exact q2 _ 4 k _ _ hA.symm (hr3.x.new _ _) (by have := hr3.len; omega) (get_new _ _ _) rfl rfl
          | true =>
            rw [if_neg (fun e => Bool.noConfusion e)] at hA
            conv => whnf
            refine om_of hst ?_
            conv => whnf
            by_cases h4 : 4096 ≤ s.I.length
            · rw [if_pos h4] at hA
              first
                | (exfalso; rw [hI0] at h4; simp at h4; done)
                | (rw [decide_eq_true (show (4096 : Int) ≤ ((s.I.map (·.1)).length : Int) by rw [List.length_map]; omega)]
                   conv => whnf
                   exact q2 _ 3 k _ _ hA.symm (hr3.x.new _ _) (by have := hr3.len; omega) (get_new _ _ _) rfl rfl)
            · rw [if_neg h4] at hA
              try (rw [decide_eq_false (show ¬ (4096 : Int) ≤ ((s.I.map (·.1)).length : Int) by rw [List.length_map]; omega)]; conv => whnf)
              refine om_of (v := AV.ag (ritL ⟨op, d, w, lab, true⟩)) (aLoad_ag (T := yT61) rfl rfl (cellsAt_of hob3) (Nat.le_of_ble_eq_true rfl)) ?_
              conv => whnf
              have hr4 := hr3.new 61 (ritL ⟨op, d, w, lab, true⟩)
              refine app_rit hr4.hit ⟨op, d, w, lab, true⟩ (get_new _ _ _) (by rw [List.length_map]; omega) hr4.len fun o5 g5 σ4 ho4 hk4 _ => ?_
              have hr5 := (hr4.setIt (by simp) hk4 ho4).new 3 [AV.i .i64 k]
              conv => whnf
              refine app_rint hr5.hat k (get_new _ _ _) (by rw [List.length_map]; omega) hr5.len fun o6 g6 σ5 ho5 hk5 hg5 => ?_
              have hr6 := hr5.setAt (by simp) hk5 ho5 hg5
              conv => whnf
              refine ⟨((k + 1 : Nat) : Int), (wrap_i64 (by omega) (by omega)).trans (by omega), ?_⟩
              conv => whnf
              exact hnx ⟨s.L, s.I ++ [(⟨op, d, w, lab, true⟩, k)]⟩ _ _ _ _ _ hA (by rw [List.length_append]; simp; omega) (by show s.L.length ≤ k + 1; omega) hr6.pushI
end Go.Abs.YtkfcbgmamfnajaaGreatDoor
/- The document's Assemble: labels put in; the whole. -/
namespace Go.Abs.YtkfcbgmamfnajaaGreatDoor
open Go.Proofs
set_option maxRecDepth 4000
def rresEnv (it at_ nm pl out : AV) (k : Nat) : Env := [(4, it), (5, at_), (6, nm), (7, pl), (14, out), (15, .i .i64 (k : Int))]
theorem intsC_at {l : List Nat} {k n : Nat} (h : l[k]? = some n) : (intsC l)[0 + k * 1]? = some (.i .i64 (n : Int)) := by
  unfold intsC
  rw [show 0 + k * 1 = k by omega, List.getElem?_map, h]; rfl
theorem resR_cons (L : List (List UInt8 × Nat)) (x : RT) (line : Nat) (I : List (RT × Nat)) (k : Nat) (acc : List Int) : resR L ((x, line) :: I) k acc = match wordR L x k with
  | .ok w => resR L I (k + 1) (acc ++ [w])
  | .bad c => .bad c line := rfl
set_option maxHeartbeats 4000000 in
theorem rres_loop (m : Int) (ls : List (List UInt8)) (lo lg A : Nat) (s : AS) (hI : s.I.length ≤ 4096) (hLs : s.L.length ≤ 100000) (hL : smallL s.L) (it at_ nm pl : AV) (Q : Out → Env → St → Prop)
    (q1 : ∀ e' ws σ' out', resR s.L s.I 0 [] = .ok ws → Ext (G0 m) σ' → SqAt 22 1 A σ' out' ws.length (wordsC ws) → get e' 14 = out' → (ws = [] → out' = .sl0) → Q (.exit 2) e' σ')
    (q2 : ∀ e' c k σ' o', resR s.L s.I 0 [] = .bad c k → Ext (G0 m) σ' → 11 ≤ o' → σ'[o']? = some ⟨0, false, .cells 54 [.i .i64 c, .i .i64 k]⟩ → get e' 2 = .sl0 → get e' 3 = .p o' 0 0 → Q .ret e' σ') :
    ∀ (j k : Nat) (acc : List Int) (σ : St) (out : AV), k + j = s.I.length → acc.length = k → resR s.L (s.I.drop k) k acc = resR s.L s.I 0 [] → RSs m ls lo lg A s σ it at_ nm pl → SqAt 22 1 A σ out acc.length (wordsC acc) → (acc = [] → out = .sl0) → LoopF (X17 m) [4, 5, 6, 7, 14, 15] c23L1 (rresEnv it at_ nm pl out k) σ Q
  | 0, k, acc, σ, out, hk, hacc, hA, hr, ho, hem => by
    have hk' : k = s.I.length := by omega
    rw [hk', List.drop_length] at hA
    subst hk'
    rcases ho.cases with rfl | ⟨o9, g9, rfl⟩ <;> rcases hr.partI with ⟨rfl, rfl, hI0⟩ | ⟨o1, g1, o2, g2, rfl, rfl, hI0⟩ <;> rcases hr.partL with ⟨rfl, rfl, hL0⟩ | ⟨o3, g3, o4, g4, rfl, rfl, hL0⟩
    all_goals
      refine LoopF.round tyB_ok (lit := false) ?_
      conv => whnf
      try (rw [decide_eq_false (show ¬ ((s.I.length : Nat) : Int) < ((s.I.map (·.1)).length : Int) by rw [List.length_map]; omega)]; conv => whnf)
      exact q1 _ acc σ _ hA.symm hr.x ho rfl hem
  | j + 1, k, acc, σ, out, hk, hacc, hA, hr, ho, hem => by
    have hlt : k < s.I.length := by omega
    have hd : s.I.drop k = s.I[k] :: s.I.drop (k + 1) := List.drop_eq_getElem_cons hlt
    have hget : s.I[k]? = some s.I[k] := List.getElem?_eq_getElem hlt
    rw [hd] at hA
    generalize s.I[k] = p at hA hget
    obtain ⟨⟨op, d, w, lab, is⟩, line⟩ := p
    rw [resR_cons] at hA
    have hat := ritsC_at (s.I.map (·.1)) k ⟨op, d, w, lab, is⟩ (by rw [List.getElem?_map, hget]; rfl)
    have hline := intsC_at (l := s.I.map (·.2)) (k := k) (n := line) (by rw [List.getElem?_map, hget]; rfl)
    have hlenI := ritsC_len (s.I.map (·.1))
    have hlx := hr.x.len
    have hlA := hr.len
    have h11 := hr.g11
    have hkk : k = acc.length := hacc.symm
    -- the item's own copy
    have hx1 : Ext σ ((newCells 61 yT61.zero.cells σ).set σ.length ⟨0, false, .cells 61 (ritL ⟨op, d, w, lab, is⟩)⟩) := ((Ext.refl σ).new _ _).set (Nat.le_refl _) _
    have hob1 : ((newCells 61 yT61.zero.cells σ).set σ.length ⟨0, false, .cells 61 (ritL ⟨op, d, w, lab, is⟩)⟩)[σ.length]? = some ⟨0, false, .cells 61 (ritL ⟨op, d, w, lab, is⟩)⟩ := at_set (get_new _ _ _) _
    have hst1 : aStore (tyB.get 61) (.p σ.length 0 0) (.ag (ritL ⟨op, d, w, lab, is⟩)) (newCells 61 yT61.zero.cells σ) = some ((newCells 61 yT61.zero.cells σ).set σ.length ⟨0, false, .cells 61 (ritL ⟨op, d, w, lab, is⟩)⟩) :=
      aStore_to (T := yT61) (cs := yT61.zero.cells) (ritL ⟨op, d, w, lab, is⟩) rfl (get_new _ _ _) rfl rfl (Nat.le_of_ble_eq_true rfl) rfl
    generalize (newCells 61 yT61.zero.cells σ).set σ.length ⟨0, false, .cells 61 (ritL ⟨op, d, w, lab, is⟩)⟩ = σ1 at hx1 hob1 hst1
    -- what the append does
    have hgo : ∀ (w2 : Int) (σ2 : St) (Q' : AV → St → Prop), Ext σ σ2 →
        (∀ o5 g5 σ3, RSs m ls lo lg A s σ3 it at_ nm pl → SqAt 22 1 A σ3 (.sl o5 g5 0 (acc ++ [w2]).length 1) (acc ++ [w2]).length (wordsC (acc ++ [w2])) → Q' (.sl o5 g5 0 (acc.length + 1) 1) σ3) →
        AppF tyB.get false 28 out (.sl σ2.length 0 0 1 1) (newCells 22 [AV.i .u32 w2] σ2) Q' := fun w2 σ2 Q' hx2 kk => by
      have hr3 := (hr.ext hx2).new 22 [AV.i .u32 w2]
      have ho3 := (ho.ext hx2).new 22 [AV.i .u32 w2]
      refine app_rwd ho3 w2 (get_new _ _ _) (by omega) hr3.len fun o5 g5 σ3 ho4 hk4 hg4 => ?_
      obtain ⟨b1, b2, b3⟩ := hr3.base hk4
      have hwc : wordsC (acc ++ [w2]) = wordsC acc ++ [AV.i .u32 w2] := by unfold wordsC; rw [List.map_append]; rfl
      exact kk o5 g5 σ3 ⟨b1, hr3.hlo, hr3.g11, b2, b3, hr3.hit.kept hk4 (hr3.hit.dis ho3 (by decide)), hr3.hat.kept hk4 (hr3.hat.dis ho3 (by decide)), hr3.hnm.kept hk4 (hr3.hnm.dis ho3 (by decide)), hr3.hpl.kept hk4 (hr3.hpl.dis ho3 (by decide)), hr3.hd, hr3.z1, hr3.z2, hr3.z3, hr3.z4⟩ (by rw [hwc, List.length_append]; exact ho4)
    have hnx := fun (w2 : Int) (σ3 : St) (o5 g5 : Nat) (h1 : resR s.L (s.I.drop (k + 1)) (k + 1) (acc ++ [w2]) = resR s.L s.I 0 []) (h2 : RSs m ls lo lg A s σ3 it at_ nm pl) (h3 : SqAt 22 1 A σ3 (.sl o5 g5 0 (acc ++ [w2]).length 1) (acc ++ [w2]).length (wordsC (acc ++ [w2]))) =>
      rres_loop m ls lo lg A s hI hLs hL it at_ nm pl Q q1 q2 j (k + 1) (acc ++ [w2]) σ3 _ (by omega) (by rw [List.length_append]; simp; omega) h1 h2 h3 (fun h => by simp at h)
    have hit := hr.hit
    have hatI := hr.hat
    rcases hr.hit.2 with ⟨hz, _⟩ | ⟨o1, g1, hA1, rfl, hobi⟩
    · rw [List.length_map] at hz; omega
    rcases hr.hat.2 with ⟨hz, _⟩ | ⟨o2, g2, hA2, rfl, hoba⟩
    · rw [List.length_map] at hz; omega
    rcases ho.cases with rfl | ⟨o9, g9, rfl⟩ <;> rcases hr.partL with ⟨rfl, rfl, hL0⟩ | ⟨o3, g3, o4, g4, rfl, rfl, hL0⟩
    all_goals
      refine LoopF.round tyB_ok (lit := false) ?_
      conv => whnf
      rw [decide_eq_true (show ((k : Nat) : Int) < ((s.I.map (·.1)).length : Int) by rw [List.length_map]; omega)]
      conv => whnf
      refine ⟨k, rfl, by rw [List.length_map]; exact hlt, ?_⟩
      conv => whnf
      refine om_of (v := AV.ag (ritL ⟨op, d, w, lab, is⟩)) ((aLoad_ag (T := yT61) rfl rfl (cellsAt_of hobi) (by show 0 + k * 7 + 7 ≤ _; rw [hlenI, List.length_map]; omega)).trans (by show some (AV.ag (((ritsC (s.I.map (·.1))).drop (0 + k * 7)).take 7)) = _; rw [Nat.zero_add, hat])) ?_
      conv => whnf
      refine om_of hst1 ?_
      conv => whnf
      refine om_of (v := AV.s lab) (aLoad_at (T := yT9) rfl rfl (cellsAt_of hob1) rfl) ?_
      rcases lab with _ | ⟨lc, lt⟩
      · conv => whnf
        refine om_of (v := AV.i .u32 w) (aLoad_at (T := yT22) rfl rfl (cellsAt_of hob1) rfl) ?_
        conv => whnf
        refine hgo w σ1 _ hx1 fun o5 g5 σ3 hr3 ho3 => ?_
        conv => whnf
        refine ⟨((k + 1 : Nat) : Int), (wrap_i64 (by omega) (by omega)).trans (by omega), ?_⟩
        conv => whnf
        rw [show acc.length + 1 = (acc ++ [w]).length by rw [List.length_append]; rfl]
        exact hnx w σ3 o5 g5 hA hr3 ho3
      · unfold wordR at hA
        rw [if_neg (fun e => by cases e)] at hA
        have hr1 := hr.ext hx1
        conv => whnf
        refine om_of (v := AV.s (lc :: lt)) (aLoad_at (T := yT9) rfl rfl (cellsAt_of hob1) rfl) ?_
        conv => whnf
        refine CallF.to (rfind_to m (s.L.map (·.1)) (lc :: lt) (by rw [List.length_map]; omega) hr1.hnm rfl rfl) ?_
        conv => whnf
        rcases find_look (lc :: lt) s.L 0 with ⟨hf1, hf2⟩ | ⟨p, jj, hf1, hf2, hf3⟩
        · rw [show lookL (RT.mk op d w (lc :: lt) is).lab s.L = none from hf1] at hA
          rw [hf2, show decide ((-1 : Int) < 0) = true from rfl]
          conv => whnf
          refine ⟨k, rfl, by rw [List.length_map]; exact hlt, ?_⟩
          conv => whnf
          refine om_of (v := AV.i .i64 line) (aLoad_at (T := yT3) rfl rfl (cellsAt_of (hx1.get hoba)) hline) ?_
          conv => whnf
          exact q2 _ 9 line _ _ hA.symm (hr1.x.new _ _) (by have := hr1.len; omega) (get_new _ _ _) rfl rfl
        · rw [show lookL (RT.mk op d w (lc :: lt) is).lab s.L = some p from hf1] at hA
          have hjl : jj < s.L.length := by have := (List.getElem?_eq_some_iff.1 hf3).1; simpa using this
          rw [hf2, decide_eq_false (show ¬ ((0 + jj : Nat) : Int) < 0 by omega)]
          conv => whnf
          rcases hr1.hpl.2 with ⟨hz, _⟩ | ⟨oq, gq, _, hq, hobp⟩
          · rw [List.length_map] at hz; omega
          cases hq
          all_goals
            refine ⟨0 + jj, rfl, by rw [List.length_map]; omega, ?_⟩
            conv => whnf
            refine om_of (v := AV.i .i64 p) (aLoad_at (T := yT3) rfl rfl (cellsAt_of hobp) (by rw [Nat.zero_add jj]; exact intsC_at hf3)) ?_
            conv => whnf
            have hpl := hL _ _ hf1
            refine ⟨(p : Int) - k, wrap_i64 (by omega) (by omega), ?_⟩
            conv => whnf
            have hst2 : aStore (tyB.get 3) (.p σ.length 0 5) (.i .i64 ((p : Int) - k)) σ1 = some (σ1.set σ.length ⟨0, false, .cells 61 (ritL ⟨op, { d with i := (p : Int) - k }, w, lc :: lt, is⟩)⟩) :=
              aStore_to (T := yT3) (cs := ritL ⟨op, d, w, lc :: lt, is⟩) (ritL ⟨op, { d with i := (p : Int) - k }, w, lc :: lt, is⟩) rfl hob1 rfl rfl (Nat.le_of_ble_eq_true rfl) rfl
            refine om_of hst2 ?_
            have hx2 : Ext σ (σ1.set σ.length ⟨0, false, .cells 61 (ritL ⟨op, { d with i := (p : Int) - k }, w, lc :: lt, is⟩)⟩) := hx1.set (Nat.le_refl _) _
            have hob2 : (σ1.set σ.length ⟨0, false, .cells 61 (ritL ⟨op, { d with i := (p : Int) - k }, w, lc :: lt, is⟩)⟩)[σ.length]? = some ⟨0, false, .cells 61 (ritL ⟨op, { d with i := (p : Int) - k }, w, lc :: lt, is⟩)⟩ := at_set hob1 _
            generalize σ1.set σ.length ⟨0, false, .cells 61 (ritL ⟨op, { d with i := (p : Int) - k }, w, lc :: lt, is⟩)⟩ = σ2 at hx2 hob2 ⊢
            have hr2 := hr.ext hx2
            conv => whnf
            refine om_of (v := AV.ag [.i .i64 op, .i .i64 d.a, .i .i64 d.b, .i .i64 d.c, .i .i64 ((p : Int) - k)]) (aLoad_ag (T := yT45) rfl rfl (cellsAt_of hob2) (Nat.le_of_ble_eq_true rfl)) ?_
            conv => whnf
            refine c17_renc hr2.x.take ?_
            have hA3 : (match (if (encR op d.a d.b d.c ((p : Int) - k)).2 = 0 then WR.ok (encR op d.a d.b d.c ((p : Int) - k)).1 else .bad 3) with
              | .ok w => resR s.L (s.I.drop (k + 1)) (k + 1) (acc ++ [w])
              | .bad c => ZR.bad c line) = resR s.L s.I 0 [] := hA
            generalize encR op d.a d.b d.c ((p : Int) - k) = en at hA3 ⊢
            obtain ⟨ew, ee⟩ := en
            conv => whnf
            by_cases hee : ee = 0
            · rw [if_pos hee] at hA3
              subst hee
              conv => whnf
              have hst3 : aStore (tyB.get 22) (.p σ.length 0 0) (.i .u32 ew) σ2 = some (σ2.set σ.length ⟨0, false, .cells 61 (ritL ⟨op, { d with i := (p : Int) - k }, ew, lc :: lt, is⟩)⟩) :=
                aStore_to (T := yT22) (cs := ritL ⟨op, { d with i := (p : Int) - k }, w, lc :: lt, is⟩) (ritL ⟨op, { d with i := (p : Int) - k }, ew, lc :: lt, is⟩) rfl hob2 rfl rfl (Nat.le_of_ble_eq_true rfl) rfl
              refine om_of hst3 ?_
              have hx3 : Ext σ (σ2.set σ.length ⟨0, false, .cells 61 (ritL ⟨op, { d with i := (p : Int) - k }, ew, lc :: lt, is⟩)⟩) := hx2.set (Nat.le_refl _) _
              have hob3 : (σ2.set σ.length ⟨0, false, .cells 61 (ritL ⟨op, { d with i := (p : Int) - k }, ew, lc :: lt, is⟩)⟩)[σ.length]? = some ⟨0, false, .cells 61 (ritL ⟨op, { d with i := (p : Int) - k }, ew, lc :: lt, is⟩)⟩ := at_set hob2 _
              generalize σ2.set σ.length ⟨0, false, .cells 61 (ritL ⟨op, { d with i := (p : Int) - k }, ew, lc :: lt, is⟩)⟩ = σ3 at hx3 hob3 ⊢
              conv => whnf
              refine om_of (v := AV.i .u32 ew) (aLoad_at (T := yT22) rfl rfl (cellsAt_of hob3) rfl) ?_
              conv => whnf
              refine hgo ew σ3 _ hx3 fun o5 g5 σ4 hr4 ho4 => ?_
              conv => whnf
              refine ⟨((k + 1 : Nat) : Int), (wrap_i64 (by omega) (by omega)).trans (by omega), ?_⟩
              conv => whnf
              rw [show acc.length + 1 = (acc ++ [ew]).length by rw [List.length_append]; rfl]
              exact hnx ew σ4 o5 g5 hA3 hr4 ho4
            · rw [if_neg hee] at hA3
              rw [show decide (ee = 0) = false from decide_eq_false hee]
              conv => whnf
              refine ⟨k, rfl, by rw [List.length_map]; exact hlt, ?_⟩
              conv => whnf
              refine om_of (v := AV.i .i64 line) (aLoad_at (T := yT3) rfl rfl (cellsAt_of (hx2.get hoba)) hline) ?_
              conv => whnf
              exact q2 _ 3 line _ _ hA3.symm (hr2.x.new _ _) (by have := hr2.len; omega) (get_new _ _ _) rfl rfl
end Go.Abs.YtkfcbgmamfnajaaGreatDoor
/- The document's Assemble, whole, as a law; AsmAssembles over the abstract store. -/
namespace Go.Abs.YtkfcbgmamfnajaaGreatDoor
open Go.Proofs
set_option maxRecDepth 4000
theorem asmLR_len : ∀ (ls : List (List UInt8)) (k : Nat) (s s' : AS), asmLR ls k s = .st s' → s'.L.length ≤ s.L.length + ls.length
  | [], k, s, s', h => by cases h; exact Nat.le_add_right _ _
  | l :: ls, k, s, s', h => by
    have h2 : (match stepR l k s with
      | .st s' => asmLR ls (k + 1) s'
      | .bad c => .bad c k) = AL.st s' := h
    cases hq : stepR l k s with
    | bad c => rw [hq] at h2; cases h2
    | st s1 =>
      rw [hq] at h2
      have h3 := asmLR_len ls (k + 1) s1 s' h2
      have h4 : s1.L.length ≤ s.L.length + 1 := by
        unfold stepR at hq
        split at hq
        · cases hq; omega
        · unfold takeR at hq
          split at hq
          · split at hq
            · cases hq
            · cases hq; simp
          · split at hq
            · cases hq
            · split at hq
              · cases hq
              · cases hq; simp
      rw [List.length_cons]; omega
theorem ras_to (m : Int) (t : List UInt8) (Q : AV → St → Prop)
    (q1 : ∀ ws out σ', asmR t = .ok ws → Ext (G0 m) σ' → SqAt 22 1 11 σ' out ws.length (wordsC ws) → (ws = [] → out = .sl0) → Q (.tu [out, .p0]) σ')
    (q2 : ∀ c k o' σ', asmR t = .bad c k → Ext (G0 m) σ' → 11 ≤ o' → σ'[o']? = some ⟨0, false, .cells 54 [.i .i64 c, .i .i64 k]⟩ → Q (.tu [.sl0, .p o' 0 0]) σ') :
    CallF (X17 m) 23 [.s t] (G0 m) Q := by
  refine CallF.body (F := F23) tyB_ok (lit := false) rfl rfl (Nat.le_of_ble_eq_true rfl) ?_
  conv => whnf
  by_cases hl : 32768 < t.length
  · have hA : asmR t = .bad 3 0 := by unfold asmR; rw [if_pos hl]
    rw [decide_eq_true (show (32768 : Int) < (t.length : Int) by omega)]
    conv => whnf
    exact Fin.ref rfl (q2 3 0 _ _ hA ((Ext.refl _).new _ _) (Nat.le_refl _) (get_new _ _ _))
  · have hA : asmR t = match asmLR (linesOf t) 0 ⟨[], []⟩ with
      | .bad c k => .bad c k
      | .st s => resR s.L s.I 0 [] := by unfold asmR; rw [if_neg hl]; cases asmLR (linesOf t) 0 ⟨[], []⟩ <;> rfl
    rw [hA] at q1 q2
    rw [decide_eq_false (show ¬ (32768 : Int) < (t.length : Int) by omega)]
    conv => whnf
    refine rlines_to m t (by omega) (G0 m) _ fun o g σ ho hx => ?_
    obtain ⟨hn, hll⟩ := linesOf_len t
    rcases ho.2 with ⟨_, hq⟩ | ⟨o1, g1, hA1, hq, hob⟩
    · cases hq
    cases hq
    generalize linesOf t = ls at hn hll q1 q2 ho hob ⊢
    have h11 : (G0 m).length = 11 := rfl
    have hxl := hx.len
    have hr0 : RSs m ls o g σ.length ⟨[], []⟩ σ .sl0 .sl0 .sl0 .sl0 := ⟨hx, lt_at hob, by omega, Nat.le_refl _, hob, SqAt.nil _ _ _ _, SqAt.nil _ _ _ _, SqAt.nil _ _ _ _, SqAt.nil _ _ _ _, (fun _ _ _ _ _ _ _ _ e => by cases e), ⟨fun _ => rfl, fun _ => rfl⟩, ⟨fun _ => rfl, fun _ => rfl⟩, ⟨fun _ => rfl, fun _ => rfl⟩, ⟨fun _ => rfl, fun _ => rfl⟩⟩
    conv => whnf
    show LoopF (X17 m) [4, 5, 6, 7, 8, 9] c23L0 (rloopEnv .sl0 .sl0 .sl0 .sl0 o g ls.length (0 : Nat)) σ _
    refine ras_loop m ls (by omega) (fun l hm => by have := hll l hm; omega) o g σ.length _ (fun e' s' σ' it' at' nm' pl' hR hI' hr' g4 g5 g6 g7 => ?_) (fun e' c k σ' o' hR hx' ho' hob' g2 g3 => ?_) ls.length 0 ⟨[], []⟩ σ .sl0 .sl0 .sl0 .sl0 (by omega) rfl (by simp) (by simp) hr0
    · rw [hR] at q1 q2
      have hsm := (asmL_small ls 0 ⟨[], []⟩ s' (by rw [asmL_eq]; exact hR) (by simp) (by simp)).2
      have hL : smallL s'.L := fun n p h => by obtain ⟨q, h1, h2⟩ := look_mem h; have := hsm q h1; omega
      have hLs := asmLR_len ls 0 ⟨[], []⟩ s' hR
      have hgo := fun (Q' : Out → Env → St → Prop) w1 w2 => rres_loop m ls o g σ.length s' hI' (by simp at hLs; omega) hL it' at' nm' pl' Q' w1 w2 s'.I.length 0 [] σ' .sl0 (by omega) rfl rfl hr' (SqAt.nil _ _ _ _) (fun _ => rfl)
      have hg : ∀ (n : Nat) (a b : AV), n < 14 → get (put (some 15) a (put (some 14) b e')) n = get e' n := fun n a b h => by rw [get_put_ne (by simp; omega), get_put_ne (by simp; omega)]
      conv => whnf
      rw [show get (put (some 15) _ (put (some 14) _ e')) 4 = _ from (hg 4 _ _ (by decide)).trans g4]
      rcases hr'.partI with ⟨rfl, rfl, hI0⟩ | ⟨o1, g1, o2, g2, rfl, rfl, hI0⟩ <;> rcases hr'.partL with ⟨rfl, rfl, hL0⟩ | ⟨o3, g3, o4, g4', rfl, rfl, hL0⟩
      all_goals
        conv => whnf
        rw [show get (put (some 15) _ (put (some 14) _ e')) 5 = _ from (hg 5 _ _ (by decide)).trans g5]
        conv => whnf
        rw [show get (put (some 15) _ (put (some 14) _ e')) 6 = _ from (hg 6 _ _ (by decide)).trans g6]
        conv => whnf
        rw [show get (put (some 15) _ (put (some 14) _ e')) 7 = _ from (hg 7 _ _ (by decide)).trans g7]
        conv => whnf
        refine hgo _ (fun e2 ws σ2 out2 hR2 hx2 hos2 h14 hem2 => ?_) (fun e2 c k σ2 o2 hR2 hx2 ho2 hob2 h2 h3 => ?_)
        · conv => whnf
          first | rw [h14] | rw [show Opd.ev e2 (.t 14) = _ from h14]
          rcases hos2.2 with ⟨hz2, rfl⟩ | ⟨o5, g5, hA5, rfl, hob5⟩
          · conv => whnf
            exact Fin.flat rfl hx2.take (q1 ws _ _ hR2 (Ext.refl _) ⟨hos2.1, .inl ⟨hz2, rfl⟩⟩ (fun _ => rfl))
          · conv => whnf
            exact Fin.ref rfl (q1 ws _ _ hR2 hx2 ⟨hos2.1, .inr ⟨o5, g5, by omega, rfl, hob5⟩⟩ hem2)
        · conv => whnf
          rw [h2]
          conv => whnf
          rw [h3]
          conv => whnf
          exact Fin.ref rfl (q2 c k _ _ hR2 hx2 ho2 hob2)
    · rw [hR] at q2
      conv => whnf
      rw [g2]
      conv => whnf
      rw [g3]
      conv => whnf
      exact Fin.ref rfl (q2 c k _ _ rfl hx' ho' hob')
def rasmG : List AV → Option MR
  | [.s t] => (match asmR t with
    | .ok [] => some (.flat (.tu [.sl0, .p0]))
    | .ok (w :: ws) => some (.new ⟨fun o g => .tu [.sl o g 0 (w :: ws).length 1, .p0], 22, wordsC (w :: ws)⟩)
    | .bad c k => some (.new ⟨fun o g => .tu [.sl0, .p o g 0], 54, [.i .i64 c, .i .i64 k]⟩))
  | _ => none
def lawRAsm (m : Int) : LawM (X17 m) (G0 m) where
  f := 23
  g := rasmG
  okF := fun args v h => by
    unfold rasmG at h
    split at h
    · rename_i t
      split at h
      · rename_i hA
        cases h
        refine ⟨rfl, rfl, ras_to m t _ (fun ws out σ' hA2 _ ho hem => ?_) (fun c k o' σ' hA2 _ _ _ => ?_)⟩
        · rw [hA] at hA2; cases hA2
          rw [hem rfl]
        · rw [hA] at hA2; cases hA2
      · cases h
      · cases h
    · cases h
  okN := fun args R h => by
    unfold rasmG at h
    split at h
    · rename_i t
      split at h
      · cases h
      · rename_i w ws hA
        cases h
        refine ⟨rfl, wordsC_flat _, good_sl_p0 _ _ _ _, ras_to m t _ (fun ws' out σ' hA2 _ ho _ => ?_) (fun c k o' σ' hA2 _ _ _ => ?_)⟩
        · rw [hA] at hA2; cases hA2
          rcases ho.2 with ⟨hz, _⟩ | ⟨o1, g1, _, rfl, hob⟩
          · cases hz
          · exact ⟨o1, g1, rfl, hob⟩
        · rw [hA] at hA2; cases hA2
      · rename_i c k hA
        cases h
        refine ⟨rfl, rfl, good_pp_tu _ _, ras_to m t _ (fun ws' out σ' hA2 _ ho _ => ?_) (fun c' k' o' σ' hA2 _ _ hob => ?_)⟩
        · rw [hA] at hA2; cases hA2
        · rw [hA] at hA2; cases hA2
          exact ⟨o', 0, rfl, hob⟩
    · cases h
@[reducible] noncomputable def Y17 (m : Int) : Ctx := (X17 m).makes (G0 m) (lawRAsm m)
theorem Y17_sound (m : Int) : (Y17 m).Sound 11 := Ctx.makes_sound (X17_sound m) (okG0 m) _
@[reducible] noncomputable def X24 (m : Int) : Ctx := (X23 m).add 23 (lawRAsm m).run
theorem X24_sound (m : Int) : (X24 m).Sound 11 := Ctx.add_sound (X23_sound m) _ _ fun args σ r σ' hg μ w cargs hs hr => (Y17_sound m).ok.prim 23 (lawRAsm m).run rfl args σ r σ' hg μ w cargs hs hr
theorem c24_ras {m : Int} {t : List UInt8} {σ : St} {Q : AV → St → Prop} (ht : σ.take 11 = G0 m) (q : match asmR t with
    | .ok [] => Q (.tu [.sl0, .p0]) σ
    | .ok (w :: ws) => Q (.tu [.sl σ.length 1 0 (w :: ws).length 1, .p0]) (addOne 22 (wordsC (w :: ws)) σ)
    | .bad c k => Q (.tu [.sl0, .p σ.length 1 0]) (addOne 54 [.i .i64 c, .i .i64 k] σ)) : CallF (X24 m) 23 [.s t] σ Q := by
  cases hA : asmR t with
  | ok ws =>
    rw [hA] at q
    cases ws with
    | nil =>
      refine CallF.lift (X := Y17 m) rfl rfl (CallF.madeF (lawRAsm m) rfl (v := .tu [.sl0, .p0]) ?_ ht q)
      show rasmG [.s t] = _
      simp only [rasmG, hA]
    | cons w ws =>
      refine CallF.lift (X := Y17 m) rfl rfl (CallF.madeN (lawRAsm m) rfl (R := ⟨fun o g => .tu [.sl o g 0 (w :: ws).length 1, .p0], 22, wordsC (w :: ws)⟩) ?_ ht q)
      show rasmG [.s t] = _
      simp only [rasmG, hA]
  | bad c k =>
    rw [hA] at q
    refine CallF.lift (X := Y17 m) rfl rfl (CallF.madeN (lawRAsm m) rfl (R := ⟨fun o g => .tu [.sl0, .p o g 0], 54, [.i .i64 c, .i .i64 k]⟩) ?_ ht q)
    show rasmG [.s t] = _
    simp only [rasmG, hA]
theorem words_loop4 (m : Int) (ws : List Int) (σ : St) (o g o2 g2 : Nat) {ro ro2 : Bool} {e e2 : Nat} {t t2 : List AV} (h1 : σ[o]? = some ⟨g, ro, .cells e (wordsC ws ++ t)⟩) (h2 : σ[o2]? = some ⟨g2, ro2, .cells e2 (wordsC ws ++ t2)⟩) (hn : ws.length ≤ 4294967296) (Q : Out → Env → St → Prop) (q : ∀ e', Q (.exit 0) e' σ) :
    ∀ (j k : Nat), k + j = ws.length → LoopF (X24 m) [0, 1, 5] c18L0 [(0, .sl o g 0 ws.length 1), (1, .sl o2 g2 0 ws.length 1), (5, .i .i64 k)] σ Q
  | 0, k, hk => by
    refine LoopF.round tyB_ok (lit := false) ?_
    conv => whnf
    rw [decide_eq_false (show ¬ ((k : Nat) : Int) < (ws.length : Int) by omega)]
    conv => whnf
    exact q _
  | j + 1, k, hk => by
    have hlt : k < ws.length := by omega
    have hat : ∀ t : List AV, (wordsC ws ++ t)[0 + k * 1]? = some (.i .u32 ws[k]) := fun t => by
      rw [show 0 + k * 1 = k by omega, List.getElem?_append_left (by rw [wordsC_len]; exact hlt)]; exact wordsC_at hlt
    refine LoopF.round tyB_ok (lit := false) ?_
    conv => whnf
    rw [decide_eq_true (show ((k : Nat) : Int) < (ws.length : Int) by omega)]
    conv => whnf
    refine ⟨k, rfl, hlt, ?_⟩
    conv => whnf
    refine om_of (v := AV.i .u32 ws[k]) (aLoad_at (T := yT22) rfl rfl (cellsAt_of h1) (hat _)) ?_
    conv => whnf
    refine ⟨k, rfl, hlt, ?_⟩
    conv => whnf
    refine om_of (v := AV.i .u32 ws[k]) (aLoad_at (T := yT22) rfl rfl (cellsAt_of h2) (hat _)) ?_
    generalize ws[k] = x
    conv => whnf
    rw [show decide (x = x) = true from decide_eq_true rfl]
    conv => whnf
    refine ⟨((k + 1 : Nat) : Int), (wrap_i64 (by omega) (by omega)).trans (by omega), ?_⟩
    conv => whnf
    exact words_loop4 m ws σ o g o2 g2 h1 h2 hn Q q j (k + 1) (by omega)
theorem words_same4 {m : Int} {ws : List Int} {σ : St} {a b : AV} (ha : WdAt σ a ws) (hb : WdAt σ b ws) (hn : ws.length ≤ 4294967296) {Q : AV → St → Prop} (q : Q (.b true) σ) : CallF (X24 m) 18 [a, b] σ Q := by
  refine CallF.body (F := F18) tyB_ok (lit := false) rfl rfl (Nat.le_of_ble_eq_true rfl) ?_
  rcases ha with ⟨rfl, rfl⟩ | ⟨o, g, ro, e, t, rfl, h1⟩ <;> rcases hb with ⟨h, rfl⟩ | ⟨o2, g2, ro2, e2, t2, rfl, h2⟩
  · conv => whnf
    refine LoopF.round tyB_ok (lit := false) ?_
    conv => whnf
    exact Fin.flat rfl (by rw [List.take_length]) q
  · conv => whnf
    refine LoopF.round tyB_ok (lit := false) ?_
    conv => whnf
    exact Fin.flat rfl (by rw [List.take_length]) q
  · subst h
    conv => whnf
    refine LoopF.round tyB_ok (lit := false) ?_
    conv => whnf
    exact Fin.flat rfl (by rw [List.take_length]) q
  · conv => whnf
    rw [show decide (((ws.length : Nat) : Int) = (ws.length : Int)) = true from decide_eq_true rfl]
    conv => whnf
    refine words_loop4 m ws σ o g o2 g2 h1 h2 hn _ (fun e' => ?_) ws.length 0 (by omega)
    conv => whnf
    exact Fin.flat rfl (by rw [List.take_length]) q
theorem as_to4 {m : Int} (hm : m % 2 = 1) {σ : St} (hg : σ.take 11 = G0 m) (o g off o2 : Nat) (h2 : σ[o2]? = some ⟨0, false, .cells 48 [.p0]⟩) (Q : AV → St → Prop) (q : Q (.b true) (σ.set o2 ⟨0, false, .cells 48 [.p o g off]⟩)) :
    CallF (X24 m) 61 [.ic 48 (.p o g off), .ic 100 (.p o2 0 0)] σ Q := by
  have h5 : σ[0]? = some ⟨0, true, .cells 132 [.ic 165 (.ag [.p 10 0 33])]⟩ := by
    rw [glob_at (G0 := G0 m) hg (show 0 < 11 by decide)]
    show some (AO.mk 0 true (.cells 132 (et0 m))) = _
    unfold et0
    rw [decide_eq_true hm]
  have hs : aStore (tyOf Tryz.prog 48) (.p o2 0 0) (.p o g off) σ = some (σ.set o2 ⟨0, false, .cells 48 [.p o g off]⟩) := by
    have := aStore_to (τ := tyB.get) (t := 48) (T := yT48) (y := .p o g off) (off := 0) [.p o g off] rfl h2 rfl rfl (Nat.le_of_ble_eq_true rfl) rfl
    exact aStore_ok (X := X24 m) tyB_ok this
  refine CallF.prim (g := pAs) rfl ?_ q
  unfold pAs
  simp only
  rw [h5]
  show (aStore (tyOf Tryz.prog 48) (.p o2 0 0) (.p o g off) σ).map (fun x => (AV.b true, x)) = _
  rw [hs]; rfl
theorem unwrap_to4 {m : Int} {σ : St} {o g : Nat} {ro : Bool} {e l : Int} (h : σ[o]? = some ⟨g, ro, .cells 54 [.i .i64 e, .i .i64 l]⟩) : CallF (X24 m) 175 [.p o g 0] σ fun v s => v = .ic 23 (.i .i64 e) ∧ s = σ := by
  refine CallF.body (F := F175) tyB_ok (lit := false) rfl rfl (Nat.le_of_ble_eq_true rfl) ?_
  conv => whnf
  refine om_of (aLoad_at (T := yT23) rfl rfl (cellsAt_of h) rfl) ?_
  conv => whnf
  exact Fin.flat rfl List.take_length ⟨rfl, rfl⟩
set_option maxHeartbeats 4000000 in
theorem is_to4 {m : Int} {σ : St} {o g : Nat} {ro : Bool} {e l : Int} (h : σ[o]? = some ⟨g, ro, .cells 54 [.i .i64 e, .i .i64 l]⟩) : CallF (X24 m) 98 [.ic 48 (.p o g 0), .ic 23 (.i .i64 e), .b true] σ fun v s => v = .b true ∧ s = σ := by
  refine CallF.body (F := F98) tyB_ok (lit := false) rfl rfl (Nat.le_of_ble_eq_true rfl) ?_
  conv => whnf
  refine LoopF.round tyB_ok (lit := false) ?_
  conv => whnf
  refine HasF.of has_is ?_
  conv => whnf
  refine HasF.of has_unwrap ?_
  conv => whnf
  refine CallF.to (unwrap_to4 h) ?_
  conv => whnf
  refine LoopF.round tyB_ok (lit := false) ?_
  conv => whnf
  split
  · conv => whnf
    exact Fin.flat rfl List.take_length ⟨rfl, rfl⟩
  · rename_i h; exfalso; simp at h
theorem Is_to4 {m : Int} {σ : St} {o g : Nat} {ro : Bool} {e l : Int} (h : σ[o]? = some ⟨g, ro, .cells 54 [.i .i64 e, .i .i64 l]⟩) : CallF (X24 m) 62 [.ic 48 (.p o g 0), .ic 23 (.i .i64 e)] σ fun v s => v = .b true ∧ s = σ := by
  refine CallF.body (F := F62) tyB_ok (lit := false) rfl rfl (Nat.le_of_ble_eq_true rfl) ?_
  conv => whnf
  refine CallF.prim (g := pTypeOf) rfl rfl ?_
  conv => whnf
  refine CallF.prim (g := pComparable) rfl rfl ?_
  conv => whnf
  refine CallF.to (is_to4 h) ?_
  conv => whnf
  exact Fin.flat rfl List.take_length ⟨rfl, rfl⟩
theorem told_nil4 (m : Int) (σ : St) : CallF (X24 m) 24 [.ic0, .p0] σ fun v s => v = .b true ∧ s = σ := by
  refine CallF.body (F := F24) tyB_ok (lit := false) rfl rfl (Nat.le_of_ble_eq_true rfl) ?_
  conv => whnf
  exact Fin.flat rfl List.take_length ⟨rfl, rfl⟩
theorem told_same4 {m : Int} (hm : m % 2 = 1) {σ : St} (hg : σ.take 11 = G0 m) {o g o2 g2 : Nat} {ro ro2 : Bool} {e l : Int} (h : σ[o]? = some ⟨g, ro, .cells 54 [.i .i64 e, .i .i64 l]⟩) (h2 : σ[o2]? = some ⟨g2, ro2, .cells 54 [.i .i64 e, .i .i64 l]⟩) :
    CallF (X24 m) 24 [.ic 48 (.p o g 0), .p o2 g2 0] σ fun v s => v = .b true ∧ s = σ := by
  refine CallF.body (F := F24) tyB_ok (lit := false) rfl rfl (Nat.le_of_ble_eq_true rfl) ?_
  conv => whnf
  have hx := (Ext.refl σ).new 48 [.p0]
  have hx2 : Ext σ _ := hx.set (o := σ.length) (Nat.le_refl _) ⟨0, false, .cells 48 [.p o g 0]⟩
  have hp := at_set (get_new 48 [.p0] σ) ⟨0, false, .cells 48 [.p o g 0]⟩
  have hf := hx2.get h
  have hb := hx2.get h2
  have hgn : (newCells 48 [.p0] σ).take 11 = G0 m := by
    rw [take_new _ _ _ _ (by have := congrArg List.length hg; rw [List.length_take] at this; have h11 : (G0 m).length = 11 := rfl; omega)]; exact hg
  refine as_to4 hm hgn _ _ _ _ (get_new _ _ _) _ ?_
  conv => whnf
  refine om_of (aLoad_at (T := yT48) rfl rfl (cellsAt_of hp) rfl) ?_
  conv => whnf
  refine om_of (aLoad_at (T := yT23) rfl rfl (cellsAt_of hf) rfl) ?_
  conv => whnf
  refine om_of (aLoad_at (T := yT23) rfl rfl (cellsAt_of hb) rfl) ?_
  conv => whnf
  rw [decide_eq_true rfl]
  conv => whnf
  refine om_of (aLoad_at (T := yT48) rfl rfl (cellsAt_of hp) rfl) ?_
  conv => whnf
  refine om_of (aLoad_at (T := yT3) rfl rfl (cellsAt_of hf) rfl) ?_
  conv => whnf
  refine om_of (aLoad_at (T := yT3) rfl rfl (cellsAt_of hb) rfl) ?_
  conv => whnf
  rw [decide_eq_true rfl]
  conv => whnf
  refine om_of (aLoad_at (T := yT23) rfl rfl (cellsAt_of hb) rfl) ?_
  conv => whnf
  refine CallF.to (Is_to4 hf) ?_
  conv => whnf
  exact Fin.flat rfl hx2.take ⟨rfl, rfl⟩
theorem c24_works {m : Int} {σ : St} {Q : AV → St → Prop} (ht : σ.take 11 = G0 m) (q : Q (.b true) σ) : CallF (X24 m) 12 [] σ Q :=
  CallF.lift (X := X22 m) rfl rfl (c22_works ht q)
theorem resR_len (L : List (List UInt8 × Nat)) : ∀ (I : List (RT × Nat)) (k : Nat) (acc ws : List Int), resR L I k acc = .ok ws → ws.length ≤ acc.length + I.length
  | [], k, acc, ws, h => by cases h; exact Nat.le_add_right _ _
  | p :: I, k, acc, ws, h => by
    have h2 : (match wordR L p.1 k with
      | .ok w => resR L I (k + 1) (acc ++ [w])
      | .bad c => .bad c p.2) = ZR.ok ws := h
    cases hq : wordR L p.1 k with
    | bad c => rw [hq] at h2; cases h2
    | ok w =>
      rw [hq] at h2
      have := resR_len L I (k + 1) _ ws h2
      rw [List.length_append] at this
      rw [List.length_cons]
      simp at this
      omega
theorem asmR_len {t : List UInt8} {ws : List Int} (h : asmR t = .ok ws) : ws.length ≤ 4096 := by
  unfold asmR at h
  split at h
  · cases h
  · split at h
    · cases h
    · rename_i s hs
      have := (asmL_small (linesOf t) 0 ⟨[], []⟩ s (by rw [asmL_eq]; exact hs) (by simp) (by simp)).1
      have h2 := resR_len _ _ _ _ _ h
      simp at h2
      omega
theorem assembles_to {m : Int} (hm : m % 2 = 1) (t : List UInt8) : CallF (X24 m) 8 [.s t] (G0 m) fun v _ => v = .b true := by
  refine CallF.body (F := F8) tyB_ok (lit := true) rfl rfl (Nat.le_of_ble_eq_true rfl) ?_
  conv => whnf
  have hE := asm_eq t
  cases hA : asmR t with
  | ok ws =>
    rw [hA] at hE
    have hlen := asmR_len hA
    cases ws with
    | nil =>
      refine CallF.lift (X := X23 m) rfl rfl (c23_asm_nil hE rfl ?_)
      conv => whnf
      refine c24_ras rfl ?_
      rw [hA]
      conv => whnf
      refine words_same4 (ws := []) (.inl ⟨rfl, rfl⟩) (.inl ⟨rfl, rfl⟩) (by decide) ?_
      conv => whnf
      refine CallF.to (told_nil4 m _) ?_
      conv => whnf
      refine c24_works rfl ?_
      conv => whnf
      exact Fin.flat rfl rfl rfl
    | cons w ws =>
      refine CallF.lift (X := X23 m) rfl rfl (c23_asm_ok hE (by simp) rfl ?_)
      conv => whnf
      refine c24_ras rfl ?_
      rw [hA]
      conv => whnf
      refine words_same4 (ws := w :: ws) (.inr ⟨11, 1, false, 22, [], rfl, by rw [List.append_nil]; rfl⟩) (.inr ⟨12, 1, false, 22, [], rfl, by rw [List.append_nil]; rfl⟩) (by omega) ?_
      conv => whnf
      refine CallF.to (told_nil4 m _) ?_
      conv => whnf
      refine c24_works rfl ?_
      conv => whnf
      exact Fin.flat rfl rfl rfl
  | bad c k =>
    rw [hA] at hE
    refine CallF.lift (X := X23 m) rfl rfl (c23_asm_bad hE rfl ?_)
    conv => whnf
    refine c24_ras rfl ?_
    rw [hA]
    conv => whnf
    refine words_same4 (ws := []) (.inl ⟨rfl, rfl⟩) (.inl ⟨rfl, rfl⟩) (by decide) ?_
    conv => whnf
    refine CallF.to (told_same4 hm rfl (o := 11) (g := 1) (o2 := 12) (g2 := 1) (ro := false) (ro2 := false) (e := c) (l := k) rfl rfl) ?_
    conv => whnf
    refine c24_works rfl ?_
    conv => whnf
    exact Fin.flat rfl rfl rfl
end Go.Abs.YtkfcbgmamfnajaaGreatDoor
