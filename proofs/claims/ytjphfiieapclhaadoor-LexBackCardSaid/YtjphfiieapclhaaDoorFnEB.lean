/- The lexer: lists that hold something; how many bytes are of some kinds. -/
import Derived.Test.YtjphfiieapclhaaDoorFnDB
namespace Go.Abs.YtjphfiieapclhaaDoor
open Go.Proofs
set_option maxRecDepth 4000

theorem strI_loop (x : List UInt8) (o g : Nat) (l : List (List UInt8)) (σ : St) (ho : cellsAt σ o g = some (l.map (AV.s))) (hl : l.length ≤ 100) (Q : Out → Env → St → Prop) : ∀ (k m : Nat), m + k = l.length →
    ((l.drop m).contains x = false → ∀ e', Q (.exit 0) e' σ) → ((l.drop m).contains x = true → ∀ e' r, get e' 4 = .i .i64 r → 0 ≤ r → Q .ret e' σ) →
    LoopF X [0, 1, 7, 8] c37L0 [(0, .sl o g 0 l.length 1), (1, AV.s x), (7, .i .i64 l.length), (8, .i .i64 m)] σ Q := by
  intro k
  induction k with
  | zero =>
    intro m hm h1 h2
    refine LoopF.round tyB_ok (lit := false) ?_
    conv => whnf
    rw [decide_eq_false (by omega)]
    conv => whnf
    exact h1 (by rw [show l.drop m = [] from List.drop_of_length_le (by omega)]; rfl) _
  | succ k ih =>
    intro m hm h1 h2
    obtain ⟨c, hc⟩ : ∃ c, l[m]? = some c := ⟨_, List.getElem?_eq_getElem (by omega)⟩
    have hdr : l.drop m = c :: l.drop (m + 1) := by
      obtain ⟨hn, rfl⟩ := List.getElem?_eq_some_iff.1 hc
      rw [← List.getElem_cons_drop hn]
    have hw1 : IntKind.i64.wrap ((m : Int) + 1) = (m + 1 : Nat) := by rw [wrap_i64 (by omega) (by omega)]; omega
    refine LoopF.round tyB_ok (lit := false) ?_
    conv => whnf
    rw [decide_eq_true (by omega)]
    conv => whnf
    refine ⟨m, rfl, by omega, ?_⟩
    conv => whnf
    refine om_of (v := AV.s c) (aLoad_at (T := yT9) rfl rfl ho (by simp [hc])) ?_
    conv => whnf
    cases h : (x == c) with
    | true =>
      conv => whnf
      exact h2 (by rw [hdr, List.contains_cons]; simp_all) _ m rfl (by omega)
    | false =>
      conv => whnf
      refine ⟨_, hw1, ?_⟩
      conv => whnf
      have e1 : (l.drop m).contains x = (l.drop (m + 1)).contains x := by
        rw [hdr, List.contains_cons]
        have : (x == c) = false := by simpa using h
        rw [this]; simp
      exact ih (m + 1) (by omega) (by rw [← e1]; exact h1) (by rw [← e1]; exact h2)
theorem strI_to (x : List UInt8) (o g : Nat) (l : List (List UInt8)) (σ : St) (ho : cellsAt σ o g = some (l.map (AV.s))) (hl : l.length ≤ 100) :
    CallF X 37 [.sl o g 0 l.length 1, AV.s x] σ fun v s => ∃ r, v = .i .i64 r ∧ s = σ ∧ decide (0 ≤ r) = l.contains x := by
  refine CallF.body (F := F37) tyB_ok (lit := false) rfl rfl (Nat.le_of_ble_eq_true rfl) ?_
  conv => whnf
  refine strI_loop x o g l σ ho hl _ l.length 0 (by omega) (fun h e' => ?_) (fun h e' r he hr => ?_)
  · conv => whnf
    rw [List.drop_zero] at h
    exact Fin.flat rfl List.take_length ⟨-1, rfl, rfl, by rw [h]; rfl⟩
  · conv => whnf
    rw [he]
    conv => whnf
    rw [List.drop_zero] at h
    exact Fin.flat rfl List.take_length ⟨r, rfl, rfl, by rw [h]; exact decide_eq_true hr⟩
theorem strC_to (x : List UInt8) (o g : Nat) (l : List (List UInt8)) (σ : St) (ho : cellsAt σ o g = some (l.map (AV.s))) (hl : l.length ≤ 100) :
    CallF X 22 [.sl o g 0 l.length 1, AV.s x] σ fun v s => v = .b (l.contains x) ∧ s = σ := by
  refine CallF.body (F := F22) tyB_ok (lit := false) rfl rfl (Nat.le_of_ble_eq_true rfl) ?_
  conv => whnf
  refine (strI_to x o g l σ ho hl).mono ?_
  rintro v s ⟨r, rfl, rfl, hr⟩
  conv => whnf
  rw [hr]
  cases h : l.contains x with
  | true => conv => whnf
            exact Fin.flat rfl List.take_length ⟨rfl, rfl⟩
  | false => conv => whnf
             exact Fin.flat rfl List.take_length ⟨rfl, rfl⟩
theorem kindI_loop (x : Int) (o g : Nat) (l : List (Int)) (σ : St) (ho : cellsAt σ o g = some (l.map (AV.i .i64))) (hl : l.length ≤ 100) (Q : Out → Env → St → Prop) : ∀ (k m : Nat), m + k = l.length →
    ((l.drop m).contains x = false → ∀ e', Q (.exit 0) e' σ) → ((l.drop m).contains x = true → ∀ e' r, get e' 4 = .i .i64 r → 0 ≤ r → Q .ret e' σ) →
    LoopF X [0, 1, 7, 8] c52L0 [(0, .sl o g 0 l.length 1), (1, AV.i .i64 x), (7, .i .i64 l.length), (8, .i .i64 m)] σ Q := by
  intro k
  induction k with
  | zero =>
    intro m hm h1 h2
    refine LoopF.round tyB_ok (lit := false) ?_
    conv => whnf
    rw [decide_eq_false (by omega)]
    conv => whnf
    exact h1 (by rw [show l.drop m = [] from List.drop_of_length_le (by omega)]; rfl) _
  | succ k ih =>
    intro m hm h1 h2
    obtain ⟨c, hc⟩ : ∃ c, l[m]? = some c := ⟨_, List.getElem?_eq_getElem (by omega)⟩
    have hdr : l.drop m = c :: l.drop (m + 1) := by
      obtain ⟨hn, rfl⟩ := List.getElem?_eq_some_iff.1 hc
      rw [← List.getElem_cons_drop hn]
    have hw1 : IntKind.i64.wrap ((m : Int) + 1) = (m + 1 : Nat) := by rw [wrap_i64 (by omega) (by omega)]; omega
    refine LoopF.round tyB_ok (lit := false) ?_
    conv => whnf
    rw [decide_eq_true (by omega)]
    conv => whnf
    refine ⟨m, rfl, by omega, ?_⟩
    conv => whnf
    refine om_of (v := AV.i .i64 c) (aLoad_at (T := yT53) rfl rfl ho (by simp [hc])) ?_
    conv => whnf
    cases h : (decide (x = c)) with
    | true =>
      conv => whnf
      exact h2 (by rw [hdr, List.contains_cons]; simp_all) _ m rfl (by omega)
    | false =>
      conv => whnf
      refine ⟨_, hw1, ?_⟩
      conv => whnf
      have e1 : (l.drop m).contains x = (l.drop (m + 1)).contains x := by
        rw [hdr, List.contains_cons]
        have : (x == c) = false := by simpa using h
        rw [this]; simp
      exact ih (m + 1) (by omega) (by rw [← e1]; exact h1) (by rw [← e1]; exact h2)
theorem kindI_to (x : Int) (o g : Nat) (l : List (Int)) (σ : St) (ho : cellsAt σ o g = some (l.map (AV.i .i64))) (hl : l.length ≤ 100) :
    CallF X 52 [.sl o g 0 l.length 1, AV.i .i64 x] σ fun v s => ∃ r, v = .i .i64 r ∧ s = σ ∧ decide (0 ≤ r) = l.contains x := by
  refine CallF.body (F := F52) tyB_ok (lit := false) rfl rfl (Nat.le_of_ble_eq_true rfl) ?_
  conv => whnf
  refine kindI_loop x o g l σ ho hl _ l.length 0 (by omega) (fun h e' => ?_) (fun h e' r he hr => ?_)
  · conv => whnf
    rw [List.drop_zero] at h
    exact Fin.flat rfl List.take_length ⟨-1, rfl, rfl, by rw [h]; rfl⟩
  · conv => whnf
    rw [he]
    conv => whnf
    rw [List.drop_zero] at h
    exact Fin.flat rfl List.take_length ⟨r, rfl, rfl, by rw [h]; exact decide_eq_true hr⟩
theorem kindC_to (x : Int) (o g : Nat) (l : List (Int)) (σ : St) (ho : cellsAt σ o g = some (l.map (AV.i .i64))) (hl : l.length ≤ 100) :
    CallF X 36 [.sl o g 0 l.length 1, AV.i .i64 x] σ fun v s => v = .b (l.contains x) ∧ s = σ := by
  refine CallF.body (F := F36) tyB_ok (lit := false) rfl rfl (Nat.le_of_ble_eq_true rfl) ?_
  conv => whnf
  refine (kindI_to x o g l σ ho hl).mono ?_
  rintro v s ⟨r, rfl, rfl, hr⟩
  conv => whnf
  rw [hr]
  cases h : l.contains x with
  | true => conv => whnf
            exact Fin.flat rfl List.take_length ⟨rfl, rfl⟩
  | false => conv => whnf
             exact Fin.flat rfl List.take_length ⟨rfl, rfl⟩

theorem indexByte_to (l : List UInt8) (c : Int) (σ : St) (Q : AV → St → Prop) (q : Q (.i .i64 (Lib.indexByte l c.toNat.toUInt8)) σ) : CallF X 19 [.s l, .i .u8 c] σ Q := by
  refine CallF.of ?_
  rw [EvF_prim (g := pIndexByte) rfl]
  exact ⟨_, rfl, q⟩
theorem prefix2_to (s w : List UInt8) (σ : St) : CallF X 34 [.s s, .s w] σ fun v s' => v = .b (w.isPrefixOf s) ∧ s' = σ := by
  refine CallF.body (F := F34) tyB_ok (lit := false) rfl rfl (Nat.le_of_ble_eq_true rfl) ?_
  conv => whnf
  by_cases h : w.length ≤ s.length
  · have e1 : w.isPrefixOf s = (s.take w.length == w) := by
      rw [Bool.eq_iff_iff, List.isPrefixOf_iff_prefix, List.prefix_iff_eq_take, beq_iff_eq]
      exact eq_comm
    rw [decide_eq_true (by omega)]
    conv => whnf
    refine ⟨w.length, rfl, h, ?_⟩
    conv => whnf
    rw [e1]
    cases h : s.take w.length == w with
    | true =>
      conv => whnf
      exact Fin.flat rfl List.take_length ⟨rfl, rfl⟩
    | false =>
      conv => whnf
      exact Fin.flat rfl List.take_length ⟨rfl, rfl⟩
  · have e1 : w.isPrefixOf s = false := by
      rw [Bool.eq_false_iff]
      intro hp
      exact h (List.isPrefixOf_iff_prefix.1 hp).length_le
    rw [decide_eq_false (by omega)]
    conv => whnf
    exact Fin.flat rfl List.take_length ⟨by rw [e1], rfl⟩
theorem prefix_to (s w : List UInt8) (σ : St) : CallF X 18 [.s s, .s w] σ fun v s' => v = .b (w.isPrefixOf s) ∧ s' = σ := by
  refine CallF.body (F := F18) tyB_ok (lit := false) rfl rfl (Nat.le_of_ble_eq_true rfl) ?_
  conv => whnf
  refine CallF.to (prefix2_to s w σ) ?_
  conv => whnf
  cases w.isPrefixOf s with
  | true =>
    conv => whnf
    exact Fin.flat rfl List.take_length ⟨rfl, rfl⟩
  | false =>
    conv => whnf
    exact Fin.flat rfl List.take_length ⟨rfl, rfl⟩
set_option maxHeartbeats 4000000 in
theorem of_to (c : Int) (h : 0 ≤ c ∧ c ≤ 1114111) (σ : St) : CallF X 20 [.i .i32 c] σ fun v s => v = .i .i64 (kindOf c) ∧ s = σ := by
  refine CallF.body (F := F20) tyB_ok (lit := false) rfl rfl (Nat.le_of_ble_eq_true rfl) ?_
  cases hb : isBlank c with
  | true =>
    have e1 : kindOf c = 1 := by unfold kindOf; rw [hb]; rfl
    rw [e1]
    repeat' ((conv => whnf); split)
    all_goals (conv => whnf)
    all_goals first
      | exact Fin.flat rfl List.take_length ⟨rfl, rfl⟩
      | (exfalso; simp_all [isBlank]; done)
  | false =>
    have b0 := hb
    simp only [isBlank, Bool.or_eq_false_iff, beq_eq_false_iff_ne] at b0
    obtain ⟨⟨⟨b1, b2⟩, b3⟩, b4⟩ := b0
    conv => whnf
    rw [decide_eq_false b1]
    conv => whnf
    rw [decide_eq_false b2]
    conv => whnf
    rw [decide_eq_false b3]
    conv => whnf
    rw [decide_eq_false b4]
    have e1 : kindOf c = if isLetter c then 2 else if isDigit c then 3 else if isOne c then 4 else 0 := by unfold kindOf; rw [hb]; rfl
    generalize kindOf c = kd at e1 ⊢
    repeat' ((conv => whnf); split)
    all_goals (conv => whnf)
    all_goals first
      | exact Fin.flat rfl List.take_length ⟨by congr 1; rw [e1]; grind [isLetter, isDigit], rfl⟩
      | skip
    all_goals
      refine ⟨_, rfl, ?_⟩
      conv => whnf
      refine indexByte_to _ _ _ _ ?_
      repeat' ((conv => whnf); split)
    all_goals (conv => whnf)
    all_goals exact Fin.flat rfl List.take_length ⟨by congr 1; rw [e1]; grind [isLetter, isDigit, isOne, ones], rfl⟩
end Go.Abs.YtjphfiieapclhaaDoor
