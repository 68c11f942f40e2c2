/- The lexer: how many bytes are of some kinds; a sign of two bytes. -/
import Derived.Test.YtjphfiieapclhaaDoorFnEB
namespace Go.Abs.YtjphfiieapclhaaDoor
open Go.Proofs
set_option maxRecDepth 4000

theorem get_byte (t : List UInt8) (k : Nat) : (⟨t.toArray⟩ : ByteArray).get! k = t.getD k default := by
  show (t.toArray)[k]! = _
  simp only [List.getD, getElem!_def, List.getElem?_toArray]
  cases t[k]? <;> rfl
/-- A byte below 128 is its own letter; another begins none that is below 128. -/
theorem decode_byte (t : List UInt8) (k : Nat) (c : UInt8) (h : t[k]? = some c) :
    (c.toNat < 128 → Utf8.decode ⟨t.toArray⟩ k = (c.toNat, 1)) ∧ (128 ≤ c.toNat → 128 ≤ (Utf8.decode ⟨t.toArray⟩ k).1 ∧ (Utf8.decode ⟨t.toArray⟩ k).1 ≤ 1114111) := by
  have h0 : ((⟨t.toArray⟩ : ByteArray).get! (k + 0)).toNat = c.toNat := by rw [get_byte, Nat.add_zero]; simp [List.getD, h]
  constructor
  · intro hc
    unfold Utf8.decode
    simp only [h0]
    rw [if_pos (show c.toNat < 0x80 from hc)]
  · intro hc
    unfold Utf8.decode
    simp only [h0]
    rw [if_neg (show ¬ c.toNat < 0x80 by omega)]
    have e1 : ∀ x, x < 256 → (c.toNat % 32) * 64 + x % 64 ≤ 2047 := by intro x _; omega
    split
    · split
      · exact ⟨by assumption, by show _ ≤ 1114111; omega⟩
      · exact ⟨by decide, by decide⟩
    · split
      · split
        · rename_i h5
          rw [Bool.and_eq_true, decide_eq_true_eq] at h5
          exact ⟨Nat.le_trans (by decide) h5.1, by show _ ≤ 1114111; omega⟩
        · exact ⟨by decide, by decide⟩
      · split
        · split
          · rename_i h5
            rw [Bool.and_eq_true, decide_eq_true_eq] at h5
            refine ⟨Nat.le_trans (by decide) h5.1, ?_⟩
            have := h5.2
            simp only [Utf8.valid, Bool.or_eq_true, Bool.and_eq_true, decide_eq_true_eq] at this
            show _ ≤ 1114111
            omega
          · exact ⟨by decide, by decide⟩
        · exact ⟨by decide, by decide⟩
theorem kind_far (c : Int) (h : 128 ≤ c) : kindOf c = 0 := by
  have h1 : isBlank c = false := by simp [isBlank]; omega
  have h2 : isLetter c = false := by simp [isLetter]; omega
  have h3 : isDigit c = false := by simp [isDigit]; omega
  have h4 : isOne c = false := by simp only [isOne, Bool.and_eq_false_iff]; exact .inr (decide_eq_false (by omega))
  simp [kindOf, h1, h2, h3, h4]
theorem iterAt_of {σ : St} {o : Nat} {s : List UInt8} {p : Nat} (h : σ[o]? = some ⟨0, false, .iter s p⟩) : iterAt σ o 0 = some (s, p) := by simp [iterAt, h]
theorem long_loop (t : List UInt8) (ht : t.length ≤ 100000) (ks : List Int) (hks : ks.length ≤ 100) (h0 : ks.contains 0 = false) (o g : Nat) (σ : St) (ho : cellsAt σ o g = some (ks.map (.i .i64))) (Q : Out → Env → St → Prop) : ∀ (k m : Nat) (σ1 : St), m + k = t.length → Ext σ σ1 → σ1[σ.length]? = some ⟨0, false, .iter t m⟩ →
    (run (fun c => ks.contains (kindOf c)) (t.drop m) = k → ∀ e' σ', Ext σ σ' → get e' 0 = .s t → Q (.exit 0) e' σ') →
    (run (fun c => ks.contains (kindOf c)) (t.drop m) < k → ∀ e' σ', Ext σ σ' → get e' 4 = .i .i64 ((m + run (fun c => ks.contains (kindOf c)) (t.drop m) : Nat) : Int) → Q .ret e' σ') →
    LoopF X [0, 1, 8] c21L0 [(0, .s t), (1, .sl o g 0 ks.length 1), (8, .p σ.length 0 0)] σ1 Q := by
  intro k
  induction k with
  | zero =>
    intro m σ1 hm hx hi h1 h2
    refine LoopF.round tyB_ok (lit := false) ?_
    conv => whnf
    refine om_of (iterAt_of hi) ?_
    conv => whnf
    rw [decide_eq_false (by show ¬ m < t.length; omega)]
    conv => whnf
    exact h1 (by rw [List.drop_of_length_le (by omega)]; rfl) _ _ hx rfl
  | succ k ih =>
    intro m σ1 hm hx hi h1 h2
    obtain ⟨c, hc⟩ : ∃ c, t[m]? = some c := ⟨_, List.getElem?_eq_getElem (by omega)⟩
    have hd := drop_cons hc
    obtain ⟨hlow, hhigh⟩ := decode_byte t m c hc
    refine LoopF.round tyB_ok (lit := false) ?_
    conv => whnf
    refine om_of (iterAt_of hi) ?_
    conv => whnf
    rw [decide_eq_true (by show m < t.length; omega)]
    conv => whnf
    have hx2 : ∀ a, Ext σ (σ1.set σ.length a) := fun a => hx.set (Nat.le_refl _) a
    have hcs : ∀ a, cellsAt (σ1.set σ.length a) o g = some (ks.map (.i .i64)) := by
      intro a
      have hol : o < σ.length := by
        unfold cellsAt at ho
        rcases Nat.lt_or_ge o σ.length with h | h
        · exact h
        · rw [List.getElem?_eq_none h] at ho; cases ho
      unfold cellsAt at ho ⊢
      rw [(hx2 a).old o hol]; exact ho
    by_cases hlt : c.toNat < 128
    · rw [show Utf8.decode ⟨t.toArray⟩ m = (c.toNat, 1) from hlow hlt]
      conv => whnf
      refine CallF.to (of_to c.toNat (by omega) _) ?_
      conv => whnf
      refine CallF.to (kindC_to (kindOf c.toNat) o g ks _ (hcs _) hks) ?_
      conv => whnf
      cases hk : ks.contains (kindOf c.toNat) with
      | true =>
        have e1 : run (fun c => ks.contains (kindOf c)) (t.drop m) = run (fun c => ks.contains (kindOf c)) (t.drop (m + 1)) + 1 := by
          rw [hd]; simp only [run, hk, if_true]
        conv => whnf
        refine ih (m + 1) _ (by omega) (hx2 _) (at_set hi _) (fun h => h1 (by omega)) (fun h e' σ' hx' h' => h2 (by omega) e' σ' hx' ?_)
        rw [h', e1, show m + 1 + run (fun c => ks.contains (kindOf c)) (t.drop (m + 1)) = m + (run (fun c => ks.contains (kindOf c)) (t.drop (m + 1)) + 1) by omega]
      | false =>
        have e1 : run (fun c => ks.contains (kindOf c)) (t.drop m) = 0 := by
          rw [hd]; simp only [run, hk]; rfl
        conv => whnf
        exact h2 (by omega) _ _ (hx2 _) (by rw [e1]; rfl)
    · have hh := hhigh (by omega)
      generalize Utf8.decode ⟨t.toArray⟩ m = dd at hh ⊢
      obtain ⟨r, d⟩ := dd
      have hk0 : kindOf (c.toNat : Int) = 0 := kind_far _ (by omega)
      have e1 : run (fun c => ks.contains (kindOf c)) (t.drop m) = 0 := by
        rw [hd]; simp only [run, hk0, h0]; rfl
      conv => whnf
      refine CallF.to (of_to (r : Nat) ⟨by omega, by have := hh.2; simp only at this; omega⟩ _) ?_
      rw [kind_far (r : Nat) (by have := hh.1; simp only at this; omega)]
      conv => whnf
      refine CallF.to (kindC_to 0 o g ks _ (hcs _) hks) ?_
      rw [h0]
      conv => whnf
      exact h2 (by omega) _ _ (hx2 _) (by rw [e1]; rfl)
theorem long_to (t : List UInt8) (ht : t.length ≤ 100000) (ks : List Int) (hks : ks.length ≤ 100) (h0 : ks.contains 0 = false) (o g : Nat) (σ : St) (ho : cellsAt σ o g = some (ks.map (.i .i64))) :
    CallF X 21 [.s t, .sl o g 0 ks.length 1] σ fun v s => v = .i .i64 (run (fun c => ks.contains (kindOf c)) t) ∧ s = σ := by
  have hrl := run_le (fun c => ks.contains (kindOf c)) t
  refine CallF.body (F := F21) tyB_ok (lit := false) rfl rfl (Nat.le_of_ble_eq_true rfl) ?_
  conv => whnf
  refine long_loop t ht ks hks h0 o g σ ho _ t.length 0 _ (by omega) ⟨by simp, fun i hi => by rw [List.getElem?_append_left hi]⟩ (by simp) (fun h e' σ' hx h' => ?_) (fun h e' σ' hx h' => ?_)
  · conv => whnf
    rw [h']
    conv => whnf
    rw [List.drop_zero] at h
    exact Fin.flat rfl hx.take ⟨by rw [h], rfl⟩
  · conv => whnf
    rw [h']
    conv => whnf
    rw [List.drop_zero, Nat.zero_add]
    exact Fin.flat rfl hx.take ⟨rfl, rfl⟩
theorem two_to (s : List UInt8) (σ : St) (ht : σ.take G0.length = G0) : CallF X 24 [.s s] σ fun v s' => v = .b (twos.contains (s.take 2)) ∧ s' = σ := by
  refine CallF.body (F := F24) tyB_ok (lit := false) rfl rfl (Nat.le_of_ble_eq_true rfl) ?_
  conv => whnf
  by_cases h : 2 ≤ s.length
  · rw [decide_eq_true (by omega)]
    conv => whnf
    refine ⟨2, rfl, h, ?_⟩
    conv => whnf
    refine fields_twos_to σ _ ht ?_
    conv => whnf
    refine ⟨⟨2, rfl, h, rfl⟩, ?_⟩
    conv => whnf
    refine CallF.to (strC_to (s.take 2) _ _ twos _ (cellsAt_new _ _ _) (by decide)) ?_
    cases hc : twos.contains (s.take 2) with
    | true =>
      conv => whnf
      exact Fin.flat rfl ((Ext.refl σ).new _ _).take ⟨rfl, rfl⟩
    | false =>
      conv => whnf
      exact Fin.flat rfl ((Ext.refl σ).new _ _).take ⟨rfl, rfl⟩
  · have e1 : twos.contains (s.take 2) = false := by
      have : ∀ w ∈ twos, w.length = 2 := by decide
      cases hc : twos.contains (s.take 2) with
      | false => rfl
      | true => have := this _ (List.contains_iff_mem.1 hc); simp at this; omega
    rw [e1, decide_eq_false (by omega)]
    conv => whnf
    refine ⟨rfl, ?_⟩
    conv => whnf
    exact Fin.flat rfl List.take_length ⟨rfl, rfl⟩
theorem lkeys_to (σ : St) (Q : AV → St → Prop) (ht : σ.take G0.length = G0) (q : Q (.sl σ.length 0 0 12 1) (newCells 9 (keys.map .s) σ)) : CallF X 8 [] σ Q := by
  refine CallF.body (F := F8) tyB_ok (lit := false) rfl rfl (Nat.le_of_ble_eq_true rfl) ?_
  conv => whnf
  refine fields_keys_to σ _ ht ?_
  conv => whnf
  exact Fin.ref rfl q
end Go.Abs.YtjphfiieapclhaaDoor
