/- Texts of this claim, joined: Rk, Rl, Sk. -/
import Derived.Test.YtkfcbgmamfnajaaGreatDoorM15
import Derived.Test.YtkfcbgmamfnajaaGreatDoorM18
set_option linter.unusedVariables false
set_option linter.unusedSimpArgs false
/- AsmRemarks, in plain: what its text is assembled to. -/
namespace Go.Abs.YtkfcbgmamfnajaaGreatDoor
open Go.Proofs Go.Lib
set_option maxRecDepth 10000
def rep3 (l : List UInt8) : List UInt8 := l.flatMap fun c => if c = 32 then [32, 32, 32] else [c]
theorem rep3_app (a b : List UInt8) : rep3 (a ++ b) = rep3 a ++ rep3 b := by unfold rep3; rw [List.flatMap_append]
theorem rep3_not {l : List UInt8} (h : l.contains 32 = false) : rep3 l = l := by
  induction l with
  | nil => rfl
  | cons c l ih =>
    rw [List.contains_cons, Bool.or_eq_false_iff] at h
    have hc : c ≠ 32 := fun e => by rw [e] at h; simp at h
    show (if c = 32 then [32, 32, 32] else [c]) ++ rep3 l = _
    rw [if_neg hc, ih h.2]; rfl
theorem rep3_len (l : List UInt8) : (rep3 l).length ≤ 3 * l.length := by
  induction l with
  | nil => exact Nat.zero_le _
  | cons c l ih =>
    have e : (rep3 (c :: l)).length = (if c = 32 then [32, 32, 32] else [c] : List UInt8).length + (rep3 l).length := by
      show ((if c = 32 then [32, 32, 32] else [c]) ++ rep3 l).length = _
      rw [List.length_append]
    rw [e, List.length_cons]
    split <;> simp <;> omega
theorem replaceK_one : ∀ (k : Nat) (s : List UInt8), s.count 32 = k → replaceK [32] [32, 32, 32] k s = rep3 s
  | 0, s, h => by
    have hc : s.contains 32 = false := by
      rw [Bool.eq_false_iff]
      intro hc
      exact absurd h (Nat.pos_iff_ne_zero.1 (List.count_pos_iff.2 (List.contains_iff_mem.1 hc)))
    rw [rep3_not hc]; rfl
  | k + 1, s, h => by
    have hc : s.contains 32 = true := List.contains_iff_mem.2 (List.count_pos_iff.1 (by omega))
    have hs := split_at 32 s hc
    rw [replaceK_hit _ _ k s (s.takeWhile (· ≠ 32)).length (by rw [index_one, if_pos hc])]
    have e : s.count 32 = (s.takeWhile (· ≠ 32) ++ 32 :: s.drop ((s.takeWhile (· ≠ 32)).length + 1)).count 32 := by rw [← hs]
    rw [List.count_append, List.count_cons_self, count_take] at e
    have ih := replaceK_one k (s.drop ((s.takeWhile (· ≠ 32)).length + 1)) (by omega)
    show s.take _ ++ [32, 32, 32] ++ replaceK [32] [32, 32, 32] k (s.drop ((s.takeWhile (· ≠ 32)).length + 1)) = _
    rw [ih]
    have e2 : rep3 s = rep3 (s.takeWhile (· ≠ 32) ++ 32 :: s.drop ((s.takeWhile (· ≠ 32)).length + 1)) := by rw [← hs]
    have e3 : s.take (s.takeWhile (· ≠ 32)).length = (s.takeWhile (· ≠ 32) ++ 32 :: s.drop ((s.takeWhile (· ≠ 32)).length + 1)).take (s.takeWhile (· ≠ 32)).length := by rw [← hs]
    rw [e2, rep3_app, rep3_not (take_not 32 s), e3, List.take_left', List.append_assoc]
    · rfl
    · rfl
theorem replace_rep3 (s : List UInt8) : replaceAll s [32] [32, 32, 32] = rep3 s := by
  unfold replaceAll replace
  rw [if_neg (by decide)]
  unfold replaceNum
  rw [if_pos (.inl (by decide))]
  unfold count
  rw [countFrom_one 32 _ s (by omega)]
  exact replaceK_one _ s rfl
theorem words_rep3 : ∀ (l cur : List UInt8), wordsGo cur (rep3 l) = wordsGo cur l
  | [], _ => rfl
  | c :: l, cur => by
    by_cases hc : c = 32
    · subst hc
      have e : rep3 (32 :: l) = 32 :: 32 :: 32 :: rep3 l := rfl
      rw [e]
      by_cases h : cur = []
      · subst h
        show wordsGo [] (rep3 l) = wordsGo [] l
        exact words_rep3 l []
      · have e1 : ∀ x, wordsGo cur (32 :: x) = cur :: wordsGo [] x := fun x => by
          show (if (32 : UInt8) = 32 then (if cur = [] then wordsGo [] x else cur :: wordsGo [] x) else _) = _
          rw [if_pos rfl, if_neg h]
        rw [e1, e1]
        show cur :: wordsGo [] (rep3 l) = _
        rw [words_rep3 l []]
    · have e : rep3 (c :: l) = c :: rep3 l := by show (if c = 32 then [32, 32, 32] else [c]) ++ rep3 l = _; rw [if_neg hc]; rfl
      rw [e]
      have e1 : ∀ x, wordsGo cur (c :: x) = wordsGo (cur ++ [c]) x := fun x => by
        show (if c = 32 then _ else wordsGo (cur ++ [c]) x) = _
        rw [if_neg hc]
      rw [e1, e1, words_rep3 l _]
theorem words_end : ∀ (l cur : List UInt8), wordsGo cur (l ++ [32]) = wordsGo cur l
  | [], cur => by
    show (if (32 : UInt8) = 32 then (if cur = [] then wordsGo [] [] else cur :: wordsGo [] []) else _) = (if cur = [] then [] else [cur])
    rw [if_pos rfl]; rfl
  | c :: l, cur => by
    show (if c = 32 then (if cur = [] then wordsGo [] (l ++ [32]) else cur :: wordsGo [] (l ++ [32])) else wordsGo (cur ++ [c]) (l ++ [32])) = (if c = 32 then (if cur = [] then wordsGo [] l else cur :: wordsGo [] l) else wordsGo (cur ++ [c]) l)
    rw [words_end l [], words_end l (cur ++ [c])]
theorem take_all59 {l : List UInt8} (h : l.all plainC = true) (r : List UInt8) : (l ++ 59 :: r).takeWhile (· ≠ 59) = l := by
  induction l with
  | nil => rfl
  | cons c l ih =>
    rw [List.all_cons, Bool.and_eq_true] at h
    have hc := h.1
    unfold plainC at hc
    simp only [Bool.and_eq_true, bne_iff_ne] at hc
    rw [List.cons_append, List.takeWhile_cons, if_pos (by simpa using hc.2), ih h.2]
theorem rep3_plain {l : List UInt8} (h : l.all plainC = true) : (rep3 l).all plainC = true := by
  rw [List.all_eq_true] at h ⊢
  intro c hc
  unfold rep3 at hc
  rw [List.mem_flatMap] at hc
  obtain ⟨d, hd, hcd⟩ := hc
  split at hcd
  · have : c = 32 := by simpa using hcd
    rw [this]; rfl
  · have : c = d := by simpa using hcd
    rw [this]; exact h d hd
/-- What is asked of a line. -/
structure KB where
  b1 : Bool
  b2 : Bool
  b4 : Bool
  b8 : Bool
def labT (j : Nat) : List UInt8 := [108, UInt8.ofNat (97 + j % 26), UInt8.ofNat (97 + j / 26)]
def lnS (w : Int) (b1 : Bool) : List UInt8 := bif b1 then [32, 32] ++ rep3 (printP w) ++ [32] else printP w
def ln2 (w : Int) (b1 b2 : Bool) (r : List UInt8) : List UInt8 := bif b2 then lnS w b1 ++ [59] ++ r else lnS w b1
def ln4 (w : Int) (b1 b2 b4 : Bool) (r : List UInt8) : List UInt8 := bif b4 then [10, 59] ++ r ++ [10] ++ ln2 w b1 b2 r else ln2 w b1 b2 r
def ln8 (j : Nat) (w : Int) (k : KB) (r : List UInt8) : List UInt8 := bif k.b8 then [32] ++ labT j ++ [58, 32, 59] ++ r ++ [10] ++ ln4 w k.b1 k.b2 k.b4 r else ln4 w k.b1 k.b2 k.b4 r
def remT (r : List UInt8) : Nat → List (Int × KB) → List UInt8
  | _, [] => []
  | j, p :: P => ln8 j p.1 p.2 r ++ 10 :: remT r (j + 1) P
def pcL (j : Nat) (w : Int) (k : KB) (r : List UInt8) : List (List UInt8) := (bif k.b8 then [[32] ++ labT j ++ [58, 32] ++ 59 :: r] else []) ++ (bif k.b4 then [[], 59 :: r] else []) ++ [ln2 w k.b1 k.b2 r]
def remL (r : List UInt8) : Nat → List (Int × KB) → List (List UInt8)
  | _, [] => []
  | j, p :: P => pcL j p.1 p.2 r ++ remL r (j + 1) P
theorem lnS_plain (w : Int) (b : Bool) : (lnS w b).all plainC = true := by
  cases b with
  | false => exact print_plain w
  | true =>
    show ([32, 32] ++ rep3 (printP w) ++ [32]).all plainC = true
    rw [List.all_append, List.all_append, rep3_plain (print_plain w)]; rfl
theorem lnS_words {w : Int} (h0 : 0 ≤ w) (h1 : w < 4294967296) (b : Bool) : wordsOf (lnS w b) = printW w := by
  cases b with
  | false => exact (read_print h0 h1).1
  | true =>
    show wordsGo [] ([32, 32] ++ rep3 (printP w) ++ [32]) = _
    rw [words_end]
    show wordsGo [] (rep3 (printP w)) = _
    rw [words_rep3]
    exact (read_print h0 h1).1
theorem ln2_take (w : Int) (b1 b2 : Bool) (r : List UInt8) : (ln2 w b1 b2 r).takeWhile (· ≠ 59) = lnS w b1 := by
  cases b2 with
  | false => exact (all_not (lnS_plain w b1)).2
  | true =>
    show (lnS w b1 ++ [59] ++ r).takeWhile (· ≠ 59) = _
    rw [List.append_assoc]
    exact take_all59 (lnS_plain w b1) r
theorem no10_app {a b : List UInt8} (ha : a.contains 10 = false) (hb : b.contains 10 = false) : (a ++ b).contains 10 = false := by
  rw [Bool.eq_false_iff] at ha hb ⊢
  intro h
  rw [List.contains_iff_mem, List.mem_append] at h
  rcases h with h | h
  · exact ha (List.contains_iff_mem.2 h)
  · exact hb (List.contains_iff_mem.2 h)
theorem ln2_no10 (w : Int) (b1 b2 : Bool) {r : List UInt8} (hr : r.contains 10 = false) : (ln2 w b1 b2 r).contains 10 = false := by
  cases b2 with
  | false => exact (all_not (lnS_plain w b1)).1
  | true => exact no10_app (no10_app (all_not (lnS_plain w b1)).1 rfl) hr
theorem labs : ∀ j, j < 30 → ((labT j).contains 10 = false ∧ ([32] ++ labT j ++ [58, 32]).all plainC = true ∧ wordsOf ([32] ++ labT j ++ [58, 32]) = [labT j ++ [58]] ∧ isLab [labT j ++ [58]] = true ∧ labN (labT j ++ [58]) = labT j) := by decide +kernel
theorem labs_inj : ∀ i, i < 30 → ∀ j, j < 30 → labT i = labT j → i = j := by decide +kernel
theorem pc_lines (j : Nat) (hj : j < 30) (w : Int) (k : KB) {r : List UInt8} (hr : r.contains 10 = false) (t : List UInt8) : linesGo [] (ln8 j w k r ++ 10 :: t) = pcL j w k r ++ linesGo [] t := by
  obtain ⟨b1, b2, b4, b8⟩ := k
  have h2 := ln2_no10 w b1 b2 hr
  have h4 : linesGo [] (ln4 w b1 b2 b4 r ++ 10 :: t) = (bif b4 then [[], 59 :: r] else []) ++ [ln2 w b1 b2 r] ++ linesGo [] t := by
    cases b4 with
    | false =>
      show linesGo [] (ln2 w b1 b2 r ++ 10 :: t) = _
      rw [linesGo_app _ [] t h2]; rfl
    | true =>
      have e : ln4 w b1 b2 true r ++ 10 :: t = [] ++ 10 :: ((59 :: r) ++ 10 :: (ln2 w b1 b2 r ++ 10 :: t)) := by
        show ([10, 59] ++ r ++ [10] ++ ln2 w b1 b2 r) ++ 10 :: t = _
        simp
      rw [e, linesGo_app [] [] _ rfl, linesGo_app (59 :: r) [] _ (no10_app (a := [59]) rfl hr), linesGo_app _ [] t h2]; rfl
  cases b8 with
  | false =>
    show linesGo [] (ln4 w b1 b2 b4 r ++ 10 :: t) = _
    rw [h4]
    show _ = (([] ++ _) ++ [ln2 w b1 b2 r]) ++ linesGo [] t
    rw [List.nil_append]
  | true =>
    have e : ln8 j w ⟨b1, b2, b4, true⟩ r ++ 10 :: t = ([32] ++ labT j ++ [58, 32] ++ 59 :: r) ++ 10 :: (ln4 w b1 b2 b4 r ++ 10 :: t) := by
      show ([32] ++ labT j ++ [58, 32, 59] ++ r ++ [10] ++ ln4 w b1 b2 b4 r) ++ 10 :: t = _
      simp
    have h59 : (59 :: r).contains 10 = false := no10_app (a := [59]) rfl hr
    rw [e, linesGo_app _ [] _ (no10_app (all_not (labs j hj).2.1).1 h59), h4]
    show ([] ++ ([32] ++ labT j ++ [58, 32] ++ 59 :: r)) :: (_ ++ [ln2 w b1 b2 r] ++ linesGo [] t) = (([[32] ++ labT j ++ [58, 32] ++ 59 :: r] ++ _) ++ [ln2 w b1 b2 r]) ++ linesGo [] t
    simp
theorem rem_lines {r : List UInt8} (hr : r.contains 10 = false) : ∀ (P : List (Int × KB)) (j : Nat), j + P.length ≤ 30 → linesOf (remT r j P) = remL r j P ++ [[]]
  | [], _, _ => rfl
  | p :: P, j, h => by
    rw [List.length_cons] at h
    show linesGo [] (ln8 j p.1 p.2 r ++ 10 :: remT r (j + 1) P) = (pcL j p.1 p.2 r ++ remL r (j + 1) P) ++ [[]]
    rw [pc_lines j (by omega) _ _ hr]
    have := rem_lines hr P (j + 1) (by omega)
    unfold linesOf at this
    rw [this, List.append_assoc]
/-! Steps. -/
theorem step_empty (k : Nat) (s : AS) : stepR [] k s = .st s := rfl
theorem step_rem (r : List UInt8) (k : Nat) (s : AS) : stepR (59 :: r) k s = .st s := by
  unfold stepR
  rw [show (59 :: r).takeWhile (· ≠ 59) = [] from rfl]; rfl
theorem step_lab {j : Nat} (hj : j < 30) (r : List UInt8) (k : Nat) (s : AS) (hl : lookL (labT j) s.L = none) : stepR ([32] ++ labT j ++ [58, 32] ++ 59 :: r) k s = .st ⟨s.L ++ [(labT j, s.I.length)], s.I⟩ := by
  obtain ⟨_, h2, h3, h4, h5⟩ := labs j hj
  unfold stepR
  rw [take_all59 h2, h3, if_neg (by simp)]
  unfold takeR
  rw [if_pos h4, show ([labT j ++ [58]] : List (List UInt8)).headD [] = labT j ++ [58] from rfl, h5, hl]
theorem step_main {w : Int} (h0 : 0 ≤ w) (h1 : w < 4294967296) (b1 b2 : Bool) (r : List UInt8) (k : Nat) (s : AS) (hs : s.I.length < 4096) : ∃ x : RT, x.lab = [] ∧ x.w = w ∧ stepR (ln2 w b1 b2 r) k s = .st ⟨s.L, s.I ++ [(x, k)]⟩ := by
  obtain ⟨e1, e2, e3, e4⟩ := read_print h0 h1
  refine ⟨readR (printW w), e3, e4, ?_⟩
  have hne : printW w ≠ [] := by unfold printW; split <;> simp
  unfold stepR
  rw [ln2_take, lnS_words h0 h1, if_neg hne]
  unfold takeR
  rw [print_nolab, if_neg (by decide), if_neg (by rw [e2]; decide), if_neg (by omega)]
theorem asmLR_cons {l : List UInt8} {ls : List (List UInt8)} {k : Nat} {s s' : AS} (h : stepR l k s = .st s') : asmLR (l :: ls) k s = asmLR ls (k + 1) s' := by
  show (match stepR l k s with | .st s' => asmLR ls (k + 1) s' | .bad c => .bad c k) = _
  rw [h]
theorem look_app (n x : List UInt8) (p : Nat) : ∀ L : List (List UInt8 × Nat), lookL n L = none → x ≠ n → lookL n (L ++ [(x, p)]) = none
  | [], _, hx => by show (if x = n then _ else _) = _; rw [if_neg hx]; rfl
  | q :: L, h, hx => by
    unfold lookL at h
    split at h
    · cases h
    · rename_i hq
      show (if q.1 = n then _ else lookL n (L ++ [(x, p)])) = _
      rw [if_neg hq]
      exact look_app n x p L h hx
theorem pc_asm {w : Int} (h0 : 0 ≤ w) (h1 : w < 4294967296) {j : Nat} (hj : j < 30) (kb : KB) (r : List UInt8) (ls : List (List UInt8)) (k : Nat) (s : AS) (hs : s.I.length < 4096) (hl : ∀ i, j ≤ i → i < 30 → lookL (labT i) s.L = none) :
    ∃ (x : RT) (L' : List (List UInt8 × Nat)) (n k' : Nat), x.lab = [] ∧ x.w = w ∧ (∀ i, j + 1 ≤ i → i < 30 → lookL (labT i) L' = none) ∧ asmLR (pcL j w kb r ++ ls) k s = asmLR ls n ⟨L', s.I ++ [(x, k')]⟩ := by
  obtain ⟨b1, b2, b4, b8⟩ := kb
  have hmain : ∀ (k : Nat) (L' : List (List UInt8 × Nat)), ∃ (x : RT) (n k' : Nat), x.lab = [] ∧ x.w = w ∧ asmLR ((bif b4 then [[], 59 :: r] else []) ++ [ln2 w b1 b2 r] ++ ls) k ⟨L', s.I⟩ = asmLR ls n ⟨L', s.I ++ [(x, k')]⟩ := fun k L' => by
    cases b4 with
    | false =>
      obtain ⟨x, q1, q2, q3⟩ := step_main h0 h1 b1 b2 r k ⟨L', s.I⟩ hs
      exact ⟨x, k + 1, k, q1, q2, asmLR_cons q3⟩
    | true =>
      obtain ⟨x, q1, q2, q3⟩ := step_main h0 h1 b1 b2 r (k + 2) ⟨L', s.I⟩ hs
      refine ⟨x, k + 3, k + 2, q1, q2, ?_⟩
      show asmLR ([] :: (59 :: r) :: ln2 w b1 b2 r :: ls) k ⟨L', s.I⟩ = _
      rw [asmLR_cons (step_empty k _), asmLR_cons (step_rem r (k + 1) _), asmLR_cons q3]
  cases b8 with
  | false =>
    obtain ⟨x, n, k', q1, q2, q3⟩ := hmain k s.L
    refine ⟨x, s.L, n, k', q1, q2, fun i h1 h2 => hl i (by omega) h2, ?_⟩
    rw [← q3]
    show asmLR ((([] ++ _) ++ [ln2 w b1 b2 r]) ++ ls) k s = _
    rw [List.nil_append]
  | true =>
    obtain ⟨x, n, k', q1, q2, q3⟩ := hmain (k + 1) (s.L ++ [(labT j, s.I.length)])
    refine ⟨x, s.L ++ [(labT j, s.I.length)], n, k', q1, q2, fun i h1 h2 => look_app _ _ _ _ (hl i (by omega) h2) (fun e => by have := labs_inj j hj i h2 e; omega), ?_⟩
    rw [← q3]
    show asmLR (([[32] ++ labT j ++ [58, 32] ++ 59 :: r] ++ (bif b4 then [[], 59 :: r] else []) ++ [ln2 w b1 b2 r]) ++ ls) k s = _
    rw [List.append_assoc, List.append_assoc, List.singleton_append, asmLR_cons (step_lab hj r k s (hl j (Nat.le_refl _) hj)), List.append_assoc]
theorem rem_asm (r : List UInt8) : ∀ (P : List (Int × KB)) (j k : Nat) (s : AS), (∀ p ∈ P, 0 ≤ p.1 ∧ p.1 < 4294967296) → j + P.length ≤ 30 → s.I.length + P.length ≤ 4096 → (∀ i, j ≤ i → i < 30 → lookL (labT i) s.L = none) →
    ∃ (L' : List (List UInt8 × Nat)) (xs : List (RT × Nat)), (∀ p ∈ xs, p.1.lab = []) ∧ xs.map (·.1.w) = P.map (·.1) ∧ asmLR (remL r j P ++ [[]]) k s = .st ⟨L', s.I ++ xs⟩
  | [], j, k, s, _, _, _, _ => ⟨s.L, [], by simp, rfl, by rw [List.append_nil]; rfl⟩
  | p :: P, j, k, s, hw, hj, hI, hl => by
    rw [List.length_cons] at hj hI
    obtain ⟨x, L', n, k', q1, q2, q3, q4⟩ := pc_asm (hw p (by simp)).1 (hw p (by simp)).2 (j := j) (by omega) p.2 r (remL r (j + 1) P ++ [[]]) k s (by omega) hl
    obtain ⟨L2, xs, r1, r2, r3⟩ := rem_asm r P (j + 1) n ⟨L', s.I ++ [(x, k')]⟩ (fun q hq => hw q (by simp [hq])) (by omega) (by show (s.I ++ [(x, k')]).length + _ ≤ _; rw [List.length_append]; simp; omega) q3
    refine ⟨L2, (x, k') :: xs, fun q hq => ?_, by rw [List.map_cons, r2, q2]; rfl, ?_⟩
    · rcases List.mem_cons.1 hq with rfl | hq
      · exact q1
      · exact r1 q hq
    · show asmLR ((pcL j p.1 p.2 r ++ remL r (j + 1) P) ++ [[]]) k s = _
      rw [List.append_assoc, q4, r3]
      show AL.st ⟨L2, (s.I ++ [(x, k')]) ++ xs⟩ = _
      rw [List.append_assoc]; rfl
theorem ln8_len {w : Int} (h0 : 0 ≤ w) (h1 : w < 4294967296) (j : Nat) (k : KB) {r : List UInt8} (hr : r.length ≤ 100) : (ln8 j w k r).length ≤ 920 := by
  obtain ⟨b1, b2, b4, b8⟩ := k
  have hp := print_len w h0 h1
  have h3 := rep3_len (printP w)
  have e1 : (lnS w b1).length ≤ 603 := by
    cases b1 with
    | false => show (printP w).length ≤ _; omega
    | true => show ([32, 32] ++ rep3 (printP w) ++ [32]).length ≤ _; simp only [List.length_append, List.length_cons, List.length_nil]; omega
  have e2 : (ln2 w b1 b2 r).length ≤ 704 := by
    cases b2 with
    | false => show (lnS w b1).length ≤ _; omega
    | true => show (lnS w b1 ++ [59] ++ r).length ≤ _; simp only [List.length_append, List.length_cons, List.length_nil]; omega
  have e4 : (ln4 w b1 b2 b4 r).length ≤ 807 := by
    cases b4 with
    | false => show (ln2 w b1 b2 r).length ≤ _; omega
    | true => show ([10, 59] ++ r ++ [10] ++ ln2 w b1 b2 r).length ≤ _; simp only [List.length_append, List.length_cons, List.length_nil]; omega
  cases b8 with
  | false => show (ln4 w b1 b2 b4 r).length ≤ _; omega
  | true => show ([32] ++ labT j ++ [58, 32, 59] ++ r ++ [10] ++ ln4 w b1 b2 b4 r).length ≤ _; simp only [List.length_append, List.length_cons, List.length_nil, labT]; omega
theorem remT_len {r : List UInt8} (hr : r.length ≤ 100) : ∀ (P : List (Int × KB)) (j : Nat), (∀ p ∈ P, 0 ≤ p.1 ∧ p.1 < 4294967296) → (remT r j P).length ≤ P.length * 921
  | [], _, _ => Nat.zero_le _
  | p :: P, j, h => by
    have h1 := ln8_len (h p (by simp)).1 (h p (by simp)).2 j p.2 hr
    have h2 := remT_len hr P (j + 1) (fun q hq => h q (by simp [hq]))
    show (ln8 j p.1 p.2 r ++ 10 :: remT r (j + 1) P).length ≤ _
    rw [List.length_append, List.length_cons, List.length_cons]; omega
/-- The text is assembled to the words. -/
theorem rem_plain {r : List UInt8} (hr : r.length ≤ 100) (hn : r.contains 10 = false) (P : List (Int × KB)) (hw : ∀ p ∈ P, 0 ≤ p.1 ∧ p.1 < 4294967296) (hl : P.length ≤ 30) : asmP (remT r 0 P) = .ok (P.map (·.1)) := by
  have hd := remT_len hr P 0 hw
  rw [asm_eq]
  unfold asmR
  rw [if_neg (by omega), rem_lines hn P 0 (by omega)]
  obtain ⟨L', xs, q1, q2, q3⟩ := rem_asm r P 0 0 ⟨[], []⟩ hw (by omega) (by simp; omega) (fun i _ _ => rfl)
  rw [q3]
  show resR L' ([] ++ xs) 0 [] = _
  rw [List.nil_append, res_prints L' xs 0 [] q1, List.nil_append, q2]
theorem remT_app (r : List UInt8) : ∀ (P : List (Int × KB)) (j : Nat) (p : Int × KB), remT r j (P ++ [p]) = remT r j P ++ ln8 (j + P.length) p.1 p.2 r ++ [10]
  | [], j, p => by show ln8 j p.1 p.2 r ++ 10 :: [] = _; simp [remT]
  | q :: P, j, p => by
    show ln8 j q.1 q.2 r ++ 10 :: remT r (j + 1) (P ++ [p]) = (ln8 j q.1 q.2 r ++ 10 :: remT r (j + 1) P) ++ _ ++ _
    rw [remT_app r P (j + 1) p, List.length_cons, show j + 1 + P.length = j + (P.length + 1) by omega]; simp
end Go.Abs.YtkfcbgmamfnajaaGreatDoor
/- AsmRemarks over the abstract store. -/
namespace Go.Abs.YtkfcbgmamfnajaaGreatDoor
open Go.Proofs
set_option maxRecDepth 4000
/-- Bytes, as cells. -/
def bytC (ns : List Int) : List AV := ns.map (AV.i .u8)
/-- A caller's slices. -/
def WIn (σ : St) (v : AV) (ws : List Int) : Prop := (v = .sl0 ∧ ws = []) ∨ ∃ o g ro e, v = .sl o g 0 ws.length 1 ∧ σ[o]? = some ⟨g, ro, .cells e (wordsC ws)⟩
def BIn (σ : St) (v : AV) (ns : List Int) : Prop := (v = .sl0 ∧ ns = []) ∨ ∃ o g ro e, v = .sl o g 0 ns.length 1 ∧ σ[o]? = some ⟨g, ro, .cells e (bytC ns)⟩
def bitE (n m : Int) : Bool := !decide (IntKind.u8.wrap ((BitVec.ofInt IntKind.u8.bits n &&& BitVec.ofInt IntKind.u8.bits m).toNat : Int) = 0)
def kbOf (n : Int) : KB := ⟨bitE n 1, bitE n 2, bitE n 4, bitE n 8⟩
theorem wrap_u8' {n : Int} (h0 : 0 ≤ n) (h1 : n < 256) : IntKind.u8.wrap n = n := by
  unfold IntKind.wrap
  simp [IntKind.signed, IntKind.bits]
  omega
theorem count_le (l : List UInt8) : Lib.count l [32] ≤ l.length := by
  unfold Lib.count
  rw [countFrom_one 32 _ l (by omega)]
  exact List.count_le_length
set_option maxHeartbeats 8000000 in
theorem rem_loop (m : Int) (σ0 : St) (hG : Ext (G0 m) σ0) (ws ns : List Int) (r : List UInt8) (hr : r.length ≤ 100) (hw : W32 ws) (o g e : Nat) (ro : Bool) (ho : σ0[o]? = some ⟨g, ro, .cells e (wordsC ws)⟩) (kv : AV) (hk : BIn σ0 kv ns) (b : Nat) (hb : b ≤ ws.length) (hb1 : b ≤ 30) (T : Nat → List UInt8)
    (hTs : ∀ k, k < b → T (k + 1) = T k ++ ln8 k (ws.getD k 0) (kbOf (ns.getD k 0)) r ++ [10]) (hTl : ∀ k, k ≤ b → (T k).length ≤ 30000) (Q : Out → Env → St → Prop)
    (q : ∀ e' σ', Ext σ0 σ' → get e' 0 = .sl o g 0 b 1 → get e' 7 = .s (T b) → Q (.exit 0) e' σ') :
    ∀ (j k : Nat) (σ : St), k + j = b → Ext σ0 σ → LoopF (X23 m) [0, 1, 2, 7, 8] c6L0 [(0, .sl o g 0 b 1), (1, .s r), (2, kv), (7, .s (T k)), (8, .i .i64 (k : Int))] σ Q
  | 0, k, σ, hkb, hx => by
    obtain rfl : k = b := by omega
    rcases hk with ⟨rfl, rfl⟩ | ⟨o2, g2, ro2, e2, rfl, ho2⟩
    all_goals
      refine LoopF.round tyB_ok (lit := false) ?_
      conv => whnf
      rw [decide_eq_false (show ¬ ((k : Nat) : Int) < (k : Int) by omega)]
      conv => whnf
      exact q _ σ hx rfl rfl
  | j + 1, k, σ, hkb, hx => by
    have hlt : k < b := by omega
    have hlw : k < ws.length := by omega
    have hat := wordsC_at hlw
    have hwk := hw _ (List.getElem_mem hlw)
    have hg1 : ws.getD k 0 = ws[k] := by rw [List.getD, List.getElem?_eq_getElem hlw]; rfl
    have hrec0 := fun {σ' : St} (h : Ext σ0 σ') => rem_loop m σ0 hG ws ns r hr hw o g e ro ho kv hk b hb hb1 T hTs hTl Q q j (k + 1) σ' (by omega) h
    generalize ws[k] = w at hat hwk hg1
    have hlx := hx.len
    have hTk := hTl k (by omega)
    have hT : ∀ {σ : St}, Ext σ0 σ → Ext (G0 m) σ := fun {σ} h => ⟨by have := h.len; have := hG.len; omega, fun i hi => by rw [h.old i (by have := hG.len; omega)]; exact hG.old i hi⟩
    have hpl := print_len w hwk.1 hwk.2
    have hp3 := rep3_len (printP w)
    have hrp : ∀ {σ : St}, Ext σ0 σ → pReplaceAll [.s (printP w), .s [32], .s [32, 32, 32]] σ = some (.s (rep3 (printP w)), σ) := fun {σ} h => by
      rw [← replace_rep3]
      have hc := count_le (printP w)
      exact if_pos ⟨by omega, Nat.le_refl _, by show (printP w).length + Lib.count (printP w) [32] * 3 ≤ _; omega, okMaxX (hT h)⟩
    have hx' := hx
    rcases hk with ⟨rfl, rfl⟩ | ⟨o2, g2, ro2, e2, rfl, ho2⟩
    all_goals
      refine LoopF.round tyB_ok (lit := false) ?_
      conv => whnf
      rw [decide_eq_true (show ((k : Nat) : Int) < (b : Int) by omega)]
      conv => whnf
      refine ⟨k, rfl, hlt, ?_⟩
      conv => whnf
      refine om_of (v := AV.i .u32 w) (aLoad_at (T := yT22) rfl rfl (cellsAt_of (hx.get ho)) (by rw [show 0 + k * 1 = k by omega]; exact hat)) ?_
      conv => whnf
      refine c23_print hwk (hT hx).take ?_
      conv => whnf
    · have hg2 : ([] : List Int).getD k 0 = 0 := rfl
      have hrec := hrec0 hx
      refine ⟨by first | omega | (simp only [List.length_append, List.length_cons, List.length_nil]; omega), ?_⟩
      conv => whnf
      refine ⟨by first | omega | (simp only [List.length_append, List.length_cons, List.length_nil]; omega), ?_⟩
      conv => whnf
      refine ⟨((k + 1 : Nat) : Int), (wrap_i64 (by omega) (by omega)).trans (by omega), ?_⟩
      conv => whnf
      exact (by rw [hTs k hlt, hg1, hg2] at hrec; exact hrec)
    · by_cases hkn : k < ns.length
      · have hat2 : (bytC ns)[0 + k * 1]? = some (.i .u8 ns[k]) := by
          unfold bytC
          rw [show 0 + k * 1 = k by omega, List.getElem?_map, List.getElem?_eq_getElem hkn]; rfl
        have hg2 : ns.getD k 0 = ns[k] := by rw [List.getD, List.getElem?_eq_getElem hkn]; rfl
        generalize ns[k] = n at hat2 hg2
        rw [decide_eq_true (show ((k : Nat) : Int) < (ns.length : Int) by omega)]
        conv => whnf
        refine ⟨k, rfl, hkn, ?_⟩
        conv => whnf
        refine om_of (v := AV.i .u8 n) (aLoad_at (T := yT5) rfl rfl (cellsAt_of (hx.get ho2)) hat2) ?_
        conv => whnf
        have hg2 : kbOf (ns.getD k 0) = ⟨bitE n 1, bitE n 2, bitE n 4, bitE n 8⟩ := by rw [hg2]; rfl
        generalize hb1 : bitE n 1 = b1 at hg2
        generalize hb2 : bitE n 2 = b2 at hg2
        generalize hb4 : bitE n 4 = b4 at hg2
        generalize hb8 : bitE n 8 = b8 at hg2
        rw [show (!decide (IntKind.u8.wrap ((BitVec.ofInt IntKind.u8.bits n &&& BitVec.ofInt IntKind.u8.bits 1).toNat : Int) = 0)) = b1 from hb1]
        cases b1 with
        | false =>
          conv => whnf
          rw [show (!decide (IntKind.u8.wrap ((BitVec.ofInt IntKind.u8.bits n &&& BitVec.ofInt IntKind.u8.bits 2).toNat : Int) = 0)) = b2 from hb2]
          cases b2 with
          | false =>
            conv => whnf
            rw [show (!decide (IntKind.u8.wrap ((BitVec.ofInt IntKind.u8.bits n &&& BitVec.ofInt IntKind.u8.bits 4).toNat : Int) = 0)) = b4 from hb4]
            cases b4 with
            | false =>
              conv => whnf
              rw [show (!decide (IntKind.u8.wrap ((BitVec.ofInt IntKind.u8.bits n &&& BitVec.ofInt IntKind.u8.bits 8).toNat : Int) = 0)) = b8 from hb8]
              cases b8 with
              | false =>
                conv => whnf
                have hrec := hrec0 hx
                refine ⟨by first | omega | (simp only [List.length_append, List.length_cons, List.length_nil]; omega), ?_⟩
                conv => whnf
                refine ⟨by first | omega | (simp only [List.length_append, List.length_cons, List.length_nil]; omega), ?_⟩
                conv => whnf
                refine ⟨((k + 1 : Nat) : Int), (wrap_i64 (by omega) (by omega)).trans (by omega), ?_⟩
                conv => whnf
                exact (by rw [hTs k hlt, hg1, hg2] at hrec; exact hrec)
              | true =>
                conv => whnf
                have hsm : k < 30 := by omega
                refine ⟨by decide, ?_⟩
                conv => whnf
                refine ⟨((k % 26 : Nat) : Int), by rw [Int.tmod_eq_emod_of_nonneg (by omega)]; exact (wrap_u8' (by omega) (by omega)).trans (by omega), ?_⟩
                conv => whnf
                refine ⟨((97 + k % 26 : Nat) : Int), (wrap_u8' (by omega) (by omega)).trans (by omega), ?_⟩
                conv => whnf
                refine ⟨by decide, ((k / 26 : Nat) : Int), by rw [Int.tdiv_eq_ediv_of_nonneg (by omega)]; exact (wrap_i64 (by omega) (by omega)).trans (by omega), ?_⟩
                conv => whnf
                refine ⟨((k / 26 : Nat) : Int), (wrap_u8' (by omega) (by omega)).trans (by omega), ?_⟩
                conv => whnf
                refine ⟨((97 + k / 26 : Nat) : Int), (wrap_u8' (by omega) (by omega)).trans (by omega), ?_⟩
                conv => whnf
                refine om_of (cellsAt_of (get_new _ _ _)) ?_
                refine ⟨[UInt8.ofNat (97 + k % 26), UInt8.ofNat (97 + k / 26)], Nat.le_refl _, rfl, ?_⟩
                conv => whnf
                refine ⟨by first | omega | (simp only [List.length_append, List.length_cons, List.length_nil]; omega), ?_⟩
                conv => whnf
                refine ⟨by first | omega | (simp only [List.length_append, List.length_cons, List.length_nil]; omega), ?_⟩
                conv => whnf
                refine ⟨by first | omega | (simp only [List.length_append, List.length_cons, List.length_nil]; omega), ?_⟩
                conv => whnf
                refine ⟨by first | omega | (simp only [List.length_append, List.length_cons, List.length_nil]; omega), ?_⟩
                conv => whnf
                refine ⟨by first | omega | (simp only [List.length_append, List.length_cons, List.length_nil]; omega), ?_⟩
                conv => whnf
                have hrec := hrec0 (σ' := newCells 5 [AV.i .u8 ((97 + k % 26 : Nat) : Int), AV.i .u8 ((97 + k / 26 : Nat) : Int)] σ) (hx.new _ _)
                refine ⟨by first | omega | (simp only [List.length_append, List.length_cons, List.length_nil]; omega), ?_⟩
                conv => whnf
                refine ⟨by first | omega | (simp only [List.length_append, List.length_cons, List.length_nil]; omega), ?_⟩
                conv => whnf
                refine ⟨((k + 1 : Nat) : Int), (wrap_i64 (by omega) (by omega)).trans (by omega), ?_⟩
                conv => whnf
                exact (by rw [hTs k hlt, hg1, hg2] at hrec; exact hrec)
            | true =>
              conv => whnf
              refine ⟨by first | omega | (simp only [List.length_append, List.length_cons, List.length_nil]; omega), ?_⟩
              conv => whnf
              refine ⟨by first | omega | (simp only [List.length_append, List.length_cons, List.length_nil]; omega), ?_⟩
              conv => whnf
              refine ⟨by first | omega | (simp only [List.length_append, List.length_cons, List.length_nil]; omega), ?_⟩
              conv => whnf
              rw [show (!decide (IntKind.u8.wrap ((BitVec.ofInt IntKind.u8.bits n &&& BitVec.ofInt IntKind.u8.bits 8).toNat : Int) = 0)) = b8 from hb8]
              cases b8 with
              | false =>
                conv => whnf
                have hrec := hrec0 hx
                refine ⟨by first | omega | (simp only [List.length_append, List.length_cons, List.length_nil]; omega), ?_⟩
                conv => whnf
                refine ⟨by first | omega | (simp only [List.length_append, List.length_cons, List.length_nil]; omega), ?_⟩
                conv => whnf
                refine ⟨((k + 1 : Nat) : Int), (wrap_i64 (by omega) (by omega)).trans (by omega), ?_⟩
                conv => whnf
                exact (by rw [hTs k hlt, hg1, hg2] at hrec; exact hrec)
              | true =>
                conv => whnf
                have hsm : k < 30 := by omega
                refine ⟨by decide, ?_⟩
                conv => whnf
                refine ⟨((k % 26 : Nat) : Int), by rw [Int.tmod_eq_emod_of_nonneg (by omega)]; exact (wrap_u8' (by omega) (by omega)).trans (by omega), ?_⟩
                conv => whnf
                refine ⟨((97 + k % 26 : Nat) : Int), (wrap_u8' (by omega) (by omega)).trans (by omega), ?_⟩
                conv => whnf
                refine ⟨by decide, ((k / 26 : Nat) : Int), by rw [Int.tdiv_eq_ediv_of_nonneg (by omega)]; exact (wrap_i64 (by omega) (by omega)).trans (by omega), ?_⟩
                conv => whnf
                refine ⟨((k / 26 : Nat) : Int), (wrap_u8' (by omega) (by omega)).trans (by omega), ?_⟩
                conv => whnf
                refine ⟨((97 + k / 26 : Nat) : Int), (wrap_u8' (by omega) (by omega)).trans (by omega), ?_⟩
                conv => whnf
                refine om_of (cellsAt_of (get_new _ _ _)) ?_
                refine ⟨[UInt8.ofNat (97 + k % 26), UInt8.ofNat (97 + k / 26)], Nat.le_refl _, rfl, ?_⟩
                conv => whnf
                refine ⟨by first | omega | (simp only [List.length_append, List.length_cons, List.length_nil]; omega), ?_⟩
                conv => whnf
                refine ⟨by first | omega | (simp only [List.length_append, List.length_cons, List.length_nil]; omega), ?_⟩
                conv => whnf
                refine ⟨by first | omega | (simp only [List.length_append, List.length_cons, List.length_nil]; omega), ?_⟩
                conv => whnf
                refine ⟨by first | omega | (simp only [List.length_append, List.length_cons, List.length_nil]; omega), ?_⟩
                conv => whnf
                refine ⟨by first | omega | (simp only [List.length_append, List.length_cons, List.length_nil]; omega), ?_⟩
                conv => whnf
                have hrec := hrec0 (σ' := newCells 5 [AV.i .u8 ((97 + k % 26 : Nat) : Int), AV.i .u8 ((97 + k / 26 : Nat) : Int)] σ) (hx.new _ _)
                refine ⟨by first | omega | (simp only [List.length_append, List.length_cons, List.length_nil]; omega), ?_⟩
                conv => whnf
                refine ⟨by first | omega | (simp only [List.length_append, List.length_cons, List.length_nil]; omega), ?_⟩
                conv => whnf
                refine ⟨((k + 1 : Nat) : Int), (wrap_i64 (by omega) (by omega)).trans (by omega), ?_⟩
                conv => whnf
                exact (by rw [hTs k hlt, hg1, hg2] at hrec; exact hrec)
          | true =>
            conv => whnf
            refine ⟨by first | omega | (simp only [List.length_append, List.length_cons, List.length_nil]; omega), ?_⟩
            conv => whnf
            refine ⟨by first | omega | (simp only [List.length_append, List.length_cons, List.length_nil]; omega), ?_⟩
            conv => whnf
            rw [show (!decide (IntKind.u8.wrap ((BitVec.ofInt IntKind.u8.bits n &&& BitVec.ofInt IntKind.u8.bits 4).toNat : Int) = 0)) = b4 from hb4]
            cases b4 with
            | false =>
              conv => whnf
              rw [show (!decide (IntKind.u8.wrap ((BitVec.ofInt IntKind.u8.bits n &&& BitVec.ofInt IntKind.u8.bits 8).toNat : Int) = 0)) = b8 from hb8]
              cases b8 with
              | false =>
                conv => whnf
                have hrec := hrec0 hx
                refine ⟨by first | omega | (simp only [List.length_append, List.length_cons, List.length_nil]; omega), ?_⟩
                conv => whnf
                refine ⟨by first | omega | (simp only [List.length_append, List.length_cons, List.length_nil]; omega), ?_⟩
                conv => whnf
                refine ⟨((k + 1 : Nat) : Int), (wrap_i64 (by omega) (by omega)).trans (by omega), ?_⟩
                conv => whnf
                exact (by rw [hTs k hlt, hg1, hg2] at hrec; exact hrec)
              | true =>
                conv => whnf
                have hsm : k < 30 := by omega
                refine ⟨by decide, ?_⟩
                conv => whnf
                refine ⟨((k % 26 : Nat) : Int), by rw [Int.tmod_eq_emod_of_nonneg (by omega)]; exact (wrap_u8' (by omega) (by omega)).trans (by omega), ?_⟩
                conv => whnf
                refine ⟨((97 + k % 26 : Nat) : Int), (wrap_u8' (by omega) (by omega)).trans (by omega), ?_⟩
                conv => whnf
                refine ⟨by decide, ((k / 26 : Nat) : Int), by rw [Int.tdiv_eq_ediv_of_nonneg (by omega)]; exact (wrap_i64 (by omega) (by omega)).trans (by omega), ?_⟩
                conv => whnf
                refine ⟨((k / 26 : Nat) : Int), (wrap_u8' (by omega) (by omega)).trans (by omega), ?_⟩
                conv => whnf
                refine ⟨((97 + k / 26 : Nat) : Int), (wrap_u8' (by omega) (by omega)).trans (by omega), ?_⟩
                conv => whnf
                refine om_of (cellsAt_of (get_new _ _ _)) ?_
                refine ⟨[UInt8.ofNat (97 + k % 26), UInt8.ofNat (97 + k / 26)], Nat.le_refl _, rfl, ?_⟩
                conv => whnf
                refine ⟨by first | omega | (simp only [List.length_append, List.length_cons, List.length_nil]; omega), ?_⟩
                conv => whnf
                refine ⟨by first | omega | (simp only [List.length_append, List.length_cons, List.length_nil]; omega), ?_⟩
                conv => whnf
                refine ⟨by first | omega | (simp only [List.length_append, List.length_cons, List.length_nil]; omega), ?_⟩
                conv => whnf
                refine ⟨by first | omega | (simp only [List.length_append, List.length_cons, List.length_nil]; omega), ?_⟩
                conv => whnf
                refine ⟨by first | omega | (simp only [List.length_append, List.length_cons, List.length_nil]; omega), ?_⟩
                conv => whnf
                have hrec := hrec0 (σ' := newCells 5 [AV.i .u8 ((97 + k % 26 : Nat) : Int), AV.i .u8 ((97 + k / 26 : Nat) : Int)] σ) (hx.new _ _)
                refine ⟨by first | omega | (simp only [List.length_append, List.length_cons, List.length_nil]; omega), ?_⟩
                conv => whnf
                refine ⟨by first | omega | (simp only [List.length_append, List.length_cons, List.length_nil]; omega), ?_⟩
                conv => whnf
                refine ⟨((k + 1 : Nat) : Int), (wrap_i64 (by omega) (by omega)).trans (by omega), ?_⟩
                conv => whnf
                exact (by rw [hTs k hlt, hg1, hg2] at hrec; exact hrec)
            | true =>
              conv => whnf
              refine ⟨by first | omega | (simp only [List.length_append, List.length_cons, List.length_nil]; omega), ?_⟩
              conv => whnf
              refine ⟨by first | omega | (simp only [List.length_append, List.length_cons, List.length_nil]; omega), ?_⟩
              conv => whnf
              refine ⟨by first | omega | (simp only [List.length_append, List.length_cons, List.length_nil]; omega), ?_⟩
              conv => whnf
              rw [show (!decide (IntKind.u8.wrap ((BitVec.ofInt IntKind.u8.bits n &&& BitVec.ofInt IntKind.u8.bits 8).toNat : Int) = 0)) = b8 from hb8]
              cases b8 with
              | false =>
                conv => whnf
                have hrec := hrec0 hx
                refine ⟨by first | omega | (simp only [List.length_append, List.length_cons, List.length_nil]; omega), ?_⟩
                conv => whnf
                refine ⟨by first | omega | (simp only [List.length_append, List.length_cons, List.length_nil]; omega), ?_⟩
                conv => whnf
                refine ⟨((k + 1 : Nat) : Int), (wrap_i64 (by omega) (by omega)).trans (by omega), ?_⟩
                conv => whnf
                exact (by rw [hTs k hlt, hg1, hg2] at hrec; exact hrec)
              | true =>
                conv => whnf
                have hsm : k < 30 := by omega
                refine ⟨by decide, ?_⟩
                conv => whnf
                refine ⟨((k % 26 : Nat) : Int), by rw [Int.tmod_eq_emod_of_nonneg (by omega)]; exact (wrap_u8' (by omega) (by omega)).trans (by omega), ?_⟩
                conv => whnf
                refine ⟨((97 + k % 26 : Nat) : Int), (wrap_u8' (by omega) (by omega)).trans (by omega), ?_⟩
                conv => whnf
                refine ⟨by decide, ((k / 26 : Nat) : Int), by rw [Int.tdiv_eq_ediv_of_nonneg (by omega)]; exact (wrap_i64 (by omega) (by omega)).trans (by omega), ?_⟩
                conv => whnf
                refine ⟨((k / 26 : Nat) : Int), (wrap_u8' (by omega) (by omega)).trans (by omega), ?_⟩
                conv => whnf
                refine ⟨((97 + k / 26 : Nat) : Int), (wrap_u8' (by omega) (by omega)).trans (by omega), ?_⟩
                conv => whnf
                refine om_of (cellsAt_of (get_new _ _ _)) ?_
                refine ⟨[UInt8.ofNat (97 + k % 26), UInt8.ofNat (97 + k / 26)], Nat.le_refl _, rfl, ?_⟩
                conv => whnf
                refine ⟨by first | omega | (simp only [List.length_append, List.length_cons, List.length_nil]; omega), ?_⟩
                conv => whnf
                refine ⟨by first | omega | (simp only [List.length_append, List.length_cons, List.length_nil]; omega), ?_⟩
                conv => whnf
                refine ⟨by first | omega | (simp only [List.length_append, List.length_cons, List.length_nil]; omega), ?_⟩
                conv => whnf
                refine ⟨by first | omega | (simp only [List.length_append, List.length_cons, List.length_nil]; omega), ?_⟩
                conv => whnf
                refine ⟨by first | omega | (simp only [List.length_append, List.length_cons, List.length_nil]; omega), ?_⟩
                conv => whnf
                have hrec := hrec0 (σ' := newCells 5 [AV.i .u8 ((97 + k % 26 : Nat) : Int), AV.i .u8 ((97 + k / 26 : Nat) : Int)] σ) (hx.new _ _)
                refine ⟨by first | omega | (simp only [List.length_append, List.length_cons, List.length_nil]; omega), ?_⟩
                conv => whnf
                refine ⟨by first | omega | (simp only [List.length_append, List.length_cons, List.length_nil]; omega), ?_⟩
                conv => whnf
                refine ⟨((k + 1 : Nat) : Int), (wrap_i64 (by omega) (by omega)).trans (by omega), ?_⟩
                conv => whnf
                exact (by rw [hTs k hlt, hg1, hg2] at hrec; exact hrec)
        | true =>
          conv => whnf
          refine CallF.prim (g := pReplaceAll) rfl (hrp hx') ?_
          conv => whnf
          refine ⟨by first | omega | (simp only [List.length_append, List.length_cons, List.length_nil]; omega), ?_⟩
          conv => whnf
          refine ⟨by first | omega | (simp only [List.length_append, List.length_cons, List.length_nil]; omega), ?_⟩
          conv => whnf
          rw [show (!decide (IntKind.u8.wrap ((BitVec.ofInt IntKind.u8.bits n &&& BitVec.ofInt IntKind.u8.bits 2).toNat : Int) = 0)) = b2 from hb2]
          cases b2 with
          | false =>
            conv => whnf
            rw [show (!decide (IntKind.u8.wrap ((BitVec.ofInt IntKind.u8.bits n &&& BitVec.ofInt IntKind.u8.bits 4).toNat : Int) = 0)) = b4 from hb4]
            cases b4 with
            | false =>
              conv => whnf
              rw [show (!decide (IntKind.u8.wrap ((BitVec.ofInt IntKind.u8.bits n &&& BitVec.ofInt IntKind.u8.bits 8).toNat : Int) = 0)) = b8 from hb8]
              cases b8 with
              | false =>
                conv => whnf
                have hrec := hrec0 hx
                refine ⟨by first | omega | (simp only [List.length_append, List.length_cons, List.length_nil]; omega), ?_⟩
                conv => whnf
                refine ⟨by first | omega | (simp only [List.length_append, List.length_cons, List.length_nil]; omega), ?_⟩
                conv => whnf
                refine ⟨((k + 1 : Nat) : Int), (wrap_i64 (by omega) (by omega)).trans (by omega), ?_⟩
                conv => whnf
                exact (by rw [hTs k hlt, hg1, hg2] at hrec; exact hrec)
              | true =>
                conv => whnf
                have hsm : k < 30 := by omega
                refine ⟨by decide, ?_⟩
                conv => whnf
                refine ⟨((k % 26 : Nat) : Int), by rw [Int.tmod_eq_emod_of_nonneg (by omega)]; exact (wrap_u8' (by omega) (by omega)).trans (by omega), ?_⟩
                conv => whnf
                refine ⟨((97 + k % 26 : Nat) : Int), (wrap_u8' (by omega) (by omega)).trans (by omega), ?_⟩
                conv => whnf
                refine ⟨by decide, ((k / 26 : Nat) : Int), by rw [Int.tdiv_eq_ediv_of_nonneg (by omega)]; exact (wrap_i64 (by omega) (by omega)).trans (by omega), ?_⟩
                conv => whnf
                refine ⟨((k / 26 : Nat) : Int), (wrap_u8' (by omega) (by omega)).trans (by omega), ?_⟩
                conv => whnf
                refine ⟨((97 + k / 26 : Nat) : Int), (wrap_u8' (by omega) (by omega)).trans (by omega), ?_⟩
                conv => whnf
                refine om_of (cellsAt_of (get_new _ _ _)) ?_
                refine ⟨[UInt8.ofNat (97 + k % 26), UInt8.ofNat (97 + k / 26)], Nat.le_refl _, rfl, ?_⟩
                conv => whnf
                refine ⟨by first | omega | (simp only [List.length_append, List.length_cons, List.length_nil]; omega), ?_⟩
                conv => whnf
                refine ⟨by first | omega | (simp only [List.length_append, List.length_cons, List.length_nil]; omega), ?_⟩
                conv => whnf
                refine ⟨by first | omega | (simp only [List.length_append, List.length_cons, List.length_nil]; omega), ?_⟩
                conv => whnf
                refine ⟨by first | omega | (simp only [List.length_append, List.length_cons, List.length_nil]; omega), ?_⟩
                conv => whnf
                refine ⟨by first | omega | (simp only [List.length_append, List.length_cons, List.length_nil]; omega), ?_⟩
                conv => whnf
                have hrec := hrec0 (σ' := newCells 5 [AV.i .u8 ((97 + k % 26 : Nat) : Int), AV.i .u8 ((97 + k / 26 : Nat) : Int)] σ) (hx.new _ _)
                refine ⟨by first | omega | (simp only [List.length_append, List.length_cons, List.length_nil]; omega), ?_⟩
                conv => whnf
                refine ⟨by first | omega | (simp only [List.length_append, List.length_cons, List.length_nil]; omega), ?_⟩
                conv => whnf
                refine ⟨((k + 1 : Nat) : Int), (wrap_i64 (by omega) (by omega)).trans (by omega), ?_⟩
                conv => whnf
                exact (by rw [hTs k hlt, hg1, hg2] at hrec; exact hrec)
            | true =>
              conv => whnf
              refine ⟨by first | omega | (simp only [List.length_append, List.length_cons, List.length_nil]; omega), ?_⟩
              conv => whnf
              refine ⟨by first | omega | (simp only [List.length_append, List.length_cons, List.length_nil]; omega), ?_⟩
              conv => whnf
              refine ⟨by first | omega | (simp only [List.length_append, List.length_cons, List.length_nil]; omega), ?_⟩
              conv => whnf
              rw [show (!decide (IntKind.u8.wrap ((BitVec.ofInt IntKind.u8.bits n &&& BitVec.ofInt IntKind.u8.bits 8).toNat : Int) = 0)) = b8 from hb8]
              cases b8 with
              | false =>
                conv => whnf
                have hrec := hrec0 hx
                refine ⟨by first | omega | (simp only [List.length_append, List.length_cons, List.length_nil]; omega), ?_⟩
                conv => whnf
                refine ⟨by first | omega | (simp only [List.length_append, List.length_cons, List.length_nil]; omega), ?_⟩
                conv => whnf
                refine ⟨((k + 1 : Nat) : Int), (wrap_i64 (by omega) (by omega)).trans (by omega), ?_⟩
                conv => whnf
                exact (by rw [hTs k hlt, hg1, hg2] at hrec; exact hrec)
              | true =>
                conv => whnf
                have hsm : k < 30 := by omega
                refine ⟨by decide, ?_⟩
                conv => whnf
                refine ⟨((k % 26 : Nat) : Int), by rw [Int.tmod_eq_emod_of_nonneg (by omega)]; exact (wrap_u8' (by omega) (by omega)).trans (by omega), ?_⟩
                conv => whnf
                refine ⟨((97 + k % 26 : Nat) : Int), (wrap_u8' (by omega) (by omega)).trans (by omega), ?_⟩
                conv => whnf
                refine ⟨by decide, ((k / 26 : Nat) : Int), by rw [Int.tdiv_eq_ediv_of_nonneg (by omega)]; exact (wrap_i64 (by omega) (by omega)).trans (by omega), ?_⟩
                conv => whnf
                refine ⟨((k / 26 : Nat) : Int), (wrap_u8' (by omega) (by omega)).trans (by omega), ?_⟩
                conv => whnf
                refine ⟨((97 + k / 26 : Nat) : Int), (wrap_u8' (by omega) (by omega)).trans (by omega), ?_⟩
                conv => whnf
                refine om_of (cellsAt_of (get_new _ _ _)) ?_
                refine ⟨[UInt8.ofNat (97 + k % 26), UInt8.ofNat (97 + k / 26)], Nat.le_refl _, rfl, ?_⟩
                conv => whnf
                refine ⟨by first | omega | (simp only [List.length_append, List.length_cons, List.length_nil]; omega), ?_⟩
                conv => whnf
                refine ⟨by first | omega | (simp only [List.length_append, List.length_cons, List.length_nil]; omega), ?_⟩
                conv => whnf
                refine ⟨by first | omega | (simp only [List.length_append, List.length_cons, List.length_nil]; omega), ?_⟩
                conv => whnf
                refine ⟨by first | omega | (simp only [List.length_append, List.length_cons, List.length_nil]; omega), ?_⟩
                conv => whnf
                refine ⟨by first | omega | (simp only [List.length_append, List.length_cons, List.length_nil]; omega), ?_⟩
                conv => whnf
                have hrec := hrec0 (σ' := newCells 5 [AV.i .u8 ((97 + k % 26 : Nat) : Int), AV.i .u8 ((97 + k / 26 : Nat) : Int)] σ) (hx.new _ _)
                refine ⟨by first | omega | (simp only [List.length_append, List.length_cons, List.length_nil]; omega), ?_⟩
                conv => whnf
                refine ⟨by first | omega | (simp only [List.length_append, List.length_cons, List.length_nil]; omega), ?_⟩
                conv => whnf
                refine ⟨((k + 1 : Nat) : Int), (wrap_i64 (by omega) (by omega)).trans (by omega), ?_⟩
                conv => whnf
                exact (by rw [hTs k hlt, hg1, hg2] at hrec; exact hrec)
          | true =>
            conv => whnf
            refine ⟨by first | omega | (simp only [List.length_append, List.length_cons, List.length_nil]; omega), ?_⟩
            conv => whnf
            refine ⟨by first | omega | (simp only [List.length_append, List.length_cons, List.length_nil]; omega), ?_⟩
            conv => whnf
            rw [show (!decide (IntKind.u8.wrap ((BitVec.ofInt IntKind.u8.bits n &&& BitVec.ofInt IntKind.u8.bits 4).toNat : Int) = 0)) = b4 from hb4]
            cases b4 with
            | false =>
              conv => whnf
              rw [show (!decide (IntKind.u8.wrap ((BitVec.ofInt IntKind.u8.bits n &&& BitVec.ofInt IntKind.u8.bits 8).toNat : Int) = 0)) = b8 from hb8]
              cases b8 with
              | false =>
                conv => whnf
                have hrec := hrec0 hx
                refine ⟨by first | omega | (simp only [List.length_append, List.length_cons, List.length_nil]; omega), ?_⟩
                conv => whnf
                refine ⟨by first | omega | (simp only [List.length_append, List.length_cons, List.length_nil]; omega), ?_⟩
                conv => whnf
                refine ⟨((k + 1 : Nat) : Int), (wrap_i64 (by omega) (by omega)).trans (by omega), ?_⟩
                conv => whnf
                exact (by rw [hTs k hlt, hg1, hg2] at hrec; exact hrec)
              | true =>
                conv => whnf
                have hsm : k < 30 := by omega
                refine ⟨by decide, ?_⟩
                conv => whnf
                refine ⟨((k % 26 : Nat) : Int), by rw [Int.tmod_eq_emod_of_nonneg (by omega)]; exact (wrap_u8' (by omega) (by omega)).trans (by omega), ?_⟩
                conv => whnf
                refine ⟨((97 + k % 26 : Nat) : Int), (wrap_u8' (by omega) (by omega)).trans (by omega), ?_⟩
                conv => whnf
                refine ⟨by decide, ((k / 26 : Nat) : Int), by rw [Int.tdiv_eq_ediv_of_nonneg (by omega)]; exact (wrap_i64 (by omega) (by omega)).trans (by omega), ?_⟩
                conv => whnf
                refine ⟨((k / 26 : Nat) : Int), (wrap_u8' (by omega) (by omega)).trans (by omega), ?_⟩
                conv => whnf
                refine ⟨((97 + k / 26 : Nat) : Int), (wrap_u8' (by omega) (by omega)).trans (by omega), ?_⟩
                conv => whnf
                refine om_of (cellsAt_of (get_new _ _ _)) ?_
                refine ⟨[UInt8.ofNat (97 + k % 26), UInt8.ofNat (97 + k / 26)], Nat.le_refl _, rfl, ?_⟩
                conv => whnf
                refine ⟨by first | omega | (simp only [List.length_append, List.length_cons, List.length_nil]; omega), ?_⟩
                conv => whnf
                refine ⟨by first | omega | (simp only [List.length_append, List.length_cons, List.length_nil]; omega), ?_⟩
                conv => whnf
                refine ⟨by first | omega | (simp only [List.length_append, List.length_cons, List.length_nil]; omega), ?_⟩
                conv => whnf
                refine ⟨by first | omega | (simp only [List.length_append, List.length_cons, List.length_nil]; omega), ?_⟩
                conv => whnf
                refine ⟨by first | omega | (simp only [List.length_append, List.length_cons, List.length_nil]; omega), ?_⟩
                conv => whnf
                have hrec := hrec0 (σ' := newCells 5 [AV.i .u8 ((97 + k % 26 : Nat) : Int), AV.i .u8 ((97 + k / 26 : Nat) : Int)] σ) (hx.new _ _)
                refine ⟨by first | omega | (simp only [List.length_append, List.length_cons, List.length_nil]; omega), ?_⟩
                conv => whnf
                refine ⟨by first | omega | (simp only [List.length_append, List.length_cons, List.length_nil]; omega), ?_⟩
                conv => whnf
                refine ⟨((k + 1 : Nat) : Int), (wrap_i64 (by omega) (by omega)).trans (by omega), ?_⟩
                conv => whnf
                exact (by rw [hTs k hlt, hg1, hg2] at hrec; exact hrec)
            | true =>
              conv => whnf
              refine ⟨by first | omega | (simp only [List.length_append, List.length_cons, List.length_nil]; omega), ?_⟩
              conv => whnf
              refine ⟨by first | omega | (simp only [List.length_append, List.length_cons, List.length_nil]; omega), ?_⟩
              conv => whnf
              refine ⟨by first | omega | (simp only [List.length_append, List.length_cons, List.length_nil]; omega), ?_⟩
              conv => whnf
              rw [show (!decide (IntKind.u8.wrap ((BitVec.ofInt IntKind.u8.bits n &&& BitVec.ofInt IntKind.u8.bits 8).toNat : Int) = 0)) = b8 from hb8]
              cases b8 with
              | false =>
                conv => whnf
                have hrec := hrec0 hx
                refine ⟨by first | omega | (simp only [List.length_append, List.length_cons, List.length_nil]; omega), ?_⟩
                conv => whnf
                refine ⟨by first | omega | (simp only [List.length_append, List.length_cons, List.length_nil]; omega), ?_⟩
                conv => whnf
                refine ⟨((k + 1 : Nat) : Int), (wrap_i64 (by omega) (by omega)).trans (by omega), ?_⟩
                conv => whnf
                exact (by rw [hTs k hlt, hg1, hg2] at hrec; exact hrec)
              | true =>
                conv => whnf
                have hsm : k < 30 := by omega
                refine ⟨by decide, ?_⟩
                conv => whnf
                refine ⟨((k % 26 : Nat) : Int), by rw [Int.tmod_eq_emod_of_nonneg (by omega)]; exact (wrap_u8' (by omega) (by omega)).trans (by omega), ?_⟩
                conv => whnf
                refine ⟨((97 + k % 26 : Nat) : Int), (wrap_u8' (by omega) (by omega)).trans (by omega), ?_⟩
                conv => whnf
                refine ⟨by decide, ((k / 26 : Nat) : Int), by rw [Int.tdiv_eq_ediv_of_nonneg (by omega)]; exact (wrap_i64 (by omega) (by omega)).trans (by omega), ?_⟩
                conv => whnf
                refine ⟨((k / 26 : Nat) : Int), (wrap_u8' (by omega) (by omega)).trans (by omega), ?_⟩
                conv => whnf
                refine ⟨((97 + k / 26 : Nat) : Int), (wrap_u8' (by omega) (by omega)).trans (by omega), ?_⟩
                conv => whnf
                refine om_of (cellsAt_of (get_new _ _ _)) ?_
                refine ⟨[UInt8.ofNat (97 + k % 26), UInt8.ofNat (97 + k / 26)], Nat.le_refl _, rfl, ?_⟩
                conv => whnf
                refine ⟨by first | omega | (simp only [List.length_append, List.length_cons, List.length_nil]; omega), ?_⟩
                conv => whnf
                refine ⟨by first | omega | (simp only [List.length_append, List.length_cons, List.length_nil]; omega), ?_⟩
                conv => whnf
                refine ⟨by first | omega | (simp only [List.length_append, List.length_cons, List.length_nil]; omega), ?_⟩
                conv => whnf
                refine ⟨by first | omega | (simp only [List.length_append, List.length_cons, List.length_nil]; omega), ?_⟩
                conv => whnf
                refine ⟨by first | omega | (simp only [List.length_append, List.length_cons, List.length_nil]; omega), ?_⟩
                conv => whnf
                have hrec := hrec0 (σ' := newCells 5 [AV.i .u8 ((97 + k % 26 : Nat) : Int), AV.i .u8 ((97 + k / 26 : Nat) : Int)] σ) (hx.new _ _)
                refine ⟨by first | omega | (simp only [List.length_append, List.length_cons, List.length_nil]; omega), ?_⟩
                conv => whnf
                refine ⟨by first | omega | (simp only [List.length_append, List.length_cons, List.length_nil]; omega), ?_⟩
                conv => whnf
                refine ⟨((k + 1 : Nat) : Int), (wrap_i64 (by omega) (by omega)).trans (by omega), ?_⟩
                conv => whnf
                exact (by rw [hTs k hlt, hg1, hg2] at hrec; exact hrec)
      · have hg2 : ns.getD k 0 = 0 := by rw [List.getD, List.getElem?_eq_none (by omega)]; rfl
        have hrec := hrec0 hx
        rw [decide_eq_false (show ¬ ((k : Nat) : Int) < (ns.length : Int) by omega)]
        conv => whnf
        refine ⟨by first | omega | (simp only [List.length_append, List.length_cons, List.length_nil]; omega), ?_⟩
        conv => whnf
        refine ⟨by first | omega | (simp only [List.length_append, List.length_cons, List.length_nil]; omega), ?_⟩
        conv => whnf
        refine ⟨((k + 1 : Nat) : Int), (wrap_i64 (by omega) (by omega)).trans (by omega), ?_⟩
        conv => whnf
        exact (by rw [hTs k hlt, hg1, hg2] at hrec; exact hrec)
def itemsK (ws ns : List Int) (k : Nat) : List (Int × KB) := (List.range k).map fun i => (ws.getD i 0, kbOf (ns.getD i 0))
theorem itemsK_len (ws ns : List Int) (k : Nat) : (itemsK ws ns k).length = k := by unfold itemsK; rw [List.length_map, List.length_range]
theorem itemsK_succ (ws ns : List Int) (k : Nat) : itemsK ws ns (k + 1) = itemsK ws ns k ++ [(ws.getD k 0, kbOf (ns.getD k 0))] := by unfold itemsK; rw [List.range_succ, List.map_append]; rfl
theorem itemsK_fst (ws ns : List Int) : ∀ (b : Nat), b ≤ ws.length → (itemsK ws ns b).map (·.1) = ws.take b
  | 0, _ => rfl
  | b + 1, h => by
    rw [itemsK_succ, List.map_append, itemsK_fst ws ns b (by omega), List.take_add_one, List.getElem?_eq_getElem (show b < ws.length by omega)]
    show ws.take b ++ [ws.getD b 0] = _
    rw [List.getD, List.getElem?_eq_getElem (show b < ws.length by omega)]; rfl
theorem itemsK_w {ws ns : List Int} (hw : W32 ws) {b : Nat} (hb : b ≤ ws.length) : ∀ p ∈ itemsK ws ns b, 0 ≤ p.1 ∧ p.1 < 4294967296 := fun p hp => by
  have h : p.1 ∈ (itemsK ws ns b).map (·.1) := List.mem_map.2 ⟨p, hp, rfl⟩
  rw [itemsK_fst ws ns b hb] at h
  exact hw _ (List.mem_of_mem_take h)
theorem no10_of {r : List UInt8} (h : decide (0 ≤ Lib.indexByte r 10) = false) : r.contains 10 = false := by
  rw [Bool.eq_false_iff]
  intro hc
  have h1 := of_decide_eq_false h
  have h2 := Lib.indexByte_ge r 10
  have h3 := Lib.indexByte_none (show Lib.indexByte r 10 = -1 by omega)
  obtain ⟨k, hk⟩ := List.getElem?_of_mem (List.contains_iff_mem.1 hc)
  exact h3 k hk
set_option maxHeartbeats 4000000 in
theorem remarks_to (m : Int) (σ : St) (hG : Ext (G0 m) σ) (lv kv : AV) (ws ns : List Int) (r : List UInt8) (hw : W32 ws) (hl : WIn σ lv ws) (hk : BIn σ kv ns) : CallF (X23 m) 6 [lv, .s r, kv] σ fun v _ => v = .b true := by
  refine CallF.body (F := F6) tyB_ok (lit := false) rfl rfl (Nat.le_of_ble_eq_true rfl) ?_
  have hkv := hk
  have hrr := Nat.min_le_left r.length 100
  have hr1 := Nat.min_le_right r.length 100
  have hmin : (if false = true then max (r.length : Int) 100 else min (r.length : Int) 100) = (min r.length 100 : Nat) := by rw [if_neg (by decide)]; omega
  have htk : (r.take (min r.length 100)).length ≤ 100 := by rw [List.length_take]; omega
  have htl : ∀ b : Nat, b ≤ 30 → b ≤ ws.length → (remT (r.take (min r.length 100)) 0 (itemsK ws ns b)).length ≤ 30000 := fun b h h2 => by
    have := remT_len htk (itemsK ws ns b) 0 (itemsK_w hw h2)
    rw [itemsK_len] at this; omega
  have hts : ∀ k : Nat, remT (r.take (min r.length 100)) 0 (itemsK ws ns (k + 1)) = remT (r.take (min r.length 100)) 0 (itemsK ws ns k) ++ ln8 k (ws.getD k 0) (kbOf (ns.getD k 0)) (r.take (min r.length 100)) ++ [10] := fun k => by
    rw [itemsK_succ, remT_app, itemsK_len, Nat.zero_add]
  rcases hl with ⟨rfl, rfl⟩ | ⟨o, g, ro, e, rfl, ho⟩
  · rcases hk with ⟨rfl, hns⟩ | ⟨o2, g2, ro2, e2, rfl, ho2⟩
    all_goals
      conv => whnf
      refine c23_works hG.take ?_
      conv => whnf
      refine ⟨min r.length 100, hmin, hrr, ?_⟩
      conv => whnf
      generalize r.take (min r.length 100) = r2 at htk htl hts ⊢
      refine CallF.prim (g := pContains) rfl rfl ?_
      cases hc : decide (0 ≤ Lib.indexByte r2 10) with
      | true =>
        conv => whnf
        exact Fin.flat rfl List.take_length rfl
      | false =>
        conv => whnf
        refine LoopF.round tyB_ok (lit := false) ?_
        conv => whnf
        refine c23_asm_nil (rem_plain htk (no10_of hc) [] (fun p hp => by cases hp) (by decide)) hG.take ?_
        conv => whnf
        refine words_same (ws := []) (.inl ⟨rfl, rfl⟩) (.inl ⟨rfl, rfl⟩) (by decide) ?_
        conv => whnf
        exact Fin.flat rfl List.take_length rfl
  · have hb := Nat.min_le_left ws.length 30
    have hb1 := Nat.min_le_right ws.length 30
    have hmin2 : (if false = true then max (ws.length : Int) 30 else min (ws.length : Int) 30) = (min ws.length 30 : Nat) := by rw [if_neg (by decide)]; omega
    rcases hk with ⟨rfl, hns⟩ | ⟨o2, g2, ro2, e2, rfl, ho2⟩
    all_goals
      conv => whnf
      refine c23_works hG.take ?_
      conv => whnf
      refine ⟨min ws.length 30, hmin2, hb, ?_⟩
      conv => whnf
      refine ⟨min r.length 100, hmin, hrr, ?_⟩
      conv => whnf
      generalize r.take (min r.length 100) = r2 at htk htl hts ⊢
      generalize min ws.length 30 = b at hb hb1 ⊢
      refine CallF.prim (g := pContains) rfl rfl ?_
      cases hc : decide (0 ≤ Lib.indexByte r2 10) with
      | true =>
        conv => whnf
        exact Fin.flat rfl List.take_length rfl
      | false =>
        conv => whnf
        refine rem_loop m σ hG ws ns r2 htk hw o g e ro ho _ hkv b hb hb1 (fun k => remT r2 0 (itemsK ws ns k)) (fun k _ => hts k) (fun k hk => htl k (by omega) (by omega)) _ (fun e' σ' hx g0 g7 => ?_) b 0 σ (by omega) (Ext.refl _)
        have hA := rem_plain htk (no10_of hc) (itemsK ws ns b) (itemsK_w hw hb) (by rw [itemsK_len]; exact hb1)
        rw [itemsK_fst ws _ b hb] at hA
        have hx2 : Ext (G0 m) σ' := ⟨by have := hx.len; have := hG.len; omega, fun i hi => by rw [hx.old i (by have := hG.len; omega)]; exact hG.old i hi⟩
        have hl2 : (ws.take b).length = b := by rw [List.length_take]; omega
        have hsp : wordsC ws = wordsC (ws.take b) ++ wordsC (ws.drop b) := by
          unfold wordsC; rw [← List.map_append, List.take_append_drop]
        conv => whnf
        rw [g0]
        conv => whnf
        rw [g7]
        conv => whnf
        by_cases hn : ws.take b = []
        · rw [hn] at hA
          have hb0 : b = 0 := by rw [hn] at hl2; exact hl2.symm
          refine c23_asm_nil hA hx2.take ?_
          conv => whnf
          refine words_same (ws := []) (.inl ⟨rfl, rfl⟩) (.inr ⟨o, g, ro, e, wordsC ws, by rw [hb0]; rfl, hx.get ho⟩) (by decide) ?_
          conv => whnf
          exact Fin.flat rfl hx.take rfl
        · refine c23_asm_ok hA hn hx2.take ?_
          conv => whnf
          refine words_same (ws := ws.take b) (.inr ⟨σ'.length, 1, false, 22, [], rfl, by rw [List.append_nil]; exact addOne_new _ _ _⟩) (.inr ⟨o, g, ro, e, wordsC (ws.drop b), by rw [hl2], by rw [← hsp, addOne_old (by have := lt_at ho; have := hx.len; omega)]; exact hx.get ho⟩) (by omega) ?_
          conv => whnf
          refine Fin.flat rfl ?_ rfl
          rw [addOne, List.take_append_of_le_length hx.len]; exact hx.take
end Go.Abs.YtkfcbgmamfnajaaGreatDoor
/- A caller's bytes, as one more object of the store. -/
namespace Go.Proofs.YtkfcbgmamfnajaaGreatDoor
open Go Go.ChangeShapes Go.WideShapes Go.ChangeAt Go.ChangeMaps Go.RowKit Go.Abs Go.Abs.YtkfcbgmamfnajaaGreatDoor
set_option maxRecDepth 100000
theorem cells_u8 : Tryz.prog.cellsOf 5 = 1 := by kernel_rfl
theorem bytC_len (ws : List Int) : (bytC ws).length = ws.length := by unfold bytC; rw [List.length_map]
/-- The caller's bytes, in the store. -/
theorem bytes_in {H : Type} {enc : TypeId × Value → H} {W : World} {μ0 : Mu} {σ : St} (hro0 : ∀ (o : Nat) (a : AO), σ[o]? = some a → a.ro = false → a.k.live = true → False) (hst : Sim 11 μ0 σ W) {a0 : Option Addr} {len cap : Nat} {d : DataW H} {ps : List MemPlace} (hv : Value.okWide Tryz.prog W .any 0 38 (.slice a0 len cap)) {fuel : Nat}
    (hf : DataW.trod enc Tryz.prog W 0 (fun _ => true) true fuel 38 (Value.cells (.slice a0 len cap)).toList = some (d, ps)) :
    ∃ σ0 μ vb, (∀ (o : Nat) (a : AO), σ0[o]? = some a → a.ro = false → a.k.live = true → False) ∧ Sim 11 μ σ0 W ∧ VRel μ W vb (.slice a0 len cap) ∧ μ0.le μ ∧ Ext σ σ0 ∧ ∃ ns, BIn σ0 vb ns := by
  rcases open_ints Tryz.underlying38 Tryz.underlying5 cells_u8 hf with ⟨hcs, hx⟩ | ⟨a, len', cap', zs, hcs, _, hl, hm, hz, hx, hcell, hwz⟩
  · simp [Value.cells] at hcs
    obtain ⟨rfl, rfl, rfl⟩ := hcs
    exact ⟨σ, μ0, .sl0, hro0, hst, rfl, Mu.le_refl _, Ext.refl _, [], .inl ⟨rfl, rfl⟩⟩
  · simp [Value.cells] at hcs
    obtain ⟨rfl, rfl, rfl⟩ := hcs
    simp only [if_true] at hz
    have hok : len ≤ cap ∧ (cap : Int) ≤ IntKind.i64.max ∧ W.has Tryz.prog .any 0 a 5 cap := by
      have hv' := hv
      unfold Value.okWide at hv'
      rw [Tryz.underlying38] at hv'
      simp only [Cell.okWide, Cell.ok, Tryz.underlying38] at hv'
      exact hv'
    obtain ⟨_, _, _, hspot, row, cells, hshape, hlies⟩ := hok
    obtain ⟨b, off, spot⟩ := a
    simp only at hspot hshape hlies
    subst hspot
    have hoff : off ≤ cells := by
      have h1 := liesAt_le _ _ _ _ _ _ hlies
      have h2 := Nat.div_mul_le_self cells (Tryz.prog.cellsOf row)
      omega
    obtain ⟨ccs, fr, hb, hsz⟩ : ∃ ccs fr, W.heap[b]? = some (.cells ccs row fr) ∧ ccs.size = cells := by
      unfold World.shape? at hshape
      split at hshape
      · rename_i c e f hh
        cases hshape
        exact ⟨c, f, hh, rfl⟩
      · cases hshape
    have cj : ∀ j, j < zs.length → W.cell? ⟨b, off + j, none⟩ = some (.int .u8 (zs.getD j 0)) := fun j hj => by rw [← add_plain]; exact hcell j hj
    have cj2 : ∀ j, j < zs.length → ccs[off + j]? = some (.int .u8 (zs.getD j 0)) := fun j hj => by
      have := cj j hj
      rw [cell_of_heap hb] at this
      exact this
    have hall : off + cap ≤ cells := by
      rcases Nat.eq_zero_or_pos cap with h0 | h0
      · omega
      · have := cj2 (cap - 1) (by omega)
        have := (Array.getElem?_eq_some_iff.1 this).1
        omega
    have hbl : (zs.take len).length = len := by simp; omega
    have hcells : ∀ (j : Nat) c, (bytC (zs.take len))[j]? = some c → ∃ v, ccs[off + j]? = some v ∧ VRel μ0 W c v := by
      intro j c hj
      have hj' : j < len := by
        have := (List.getElem?_eq_some_iff.1 hj).1
        rw [bytC_len, hbl] at this; exact this
      have hzj : zs[j]? = some zs[j] := List.getElem?_eq_getElem (by omega)
      have hc : c = .i .u8 zs[j] := by
        unfold bytC at hj
        rw [List.getElem?_map, List.getElem?_take, if_pos hj', hzj] at hj
        exact (Option.some.inj hj).symm
      refine ⟨_, cj2 j (by omega), ?_⟩
      rw [hc]
      simp only [VRel, List.getD, hzj, Option.getD_some]
    obtain ⟨μ', hs', hm', hle⟩ := hst.addRo hro0 (e := row) (cs := bytC (zs.take len)) hb (by rw [bytC_len, hbl]; omega) hcells
    refine ⟨_, μ', .sl σ.length 1 0 (zs.take len).length 1, ?_, hs', ?_, hle, ⟨by simp, fun i hi => List.getElem?_append_left hi⟩, zs.take len, .inr ⟨σ.length, 1, true, row, rfl, by simp⟩⟩
    · intro o a ho hr hl'
      rcases Nat.lt_trichotomy o σ.length with hlt | he | hgt
      · rw [List.getElem?_append_left hlt] at ho; exact hro0 o a ho hr hl'
      · subst he; simp at ho; subst ho; cases hr
      · rw [List.getElem?_eq_none (by simp; omega)] at ho; cases ho
    · exact ⟨b, off, off, cap, row, cells, hm', by rw [hbl], by omega, .inl rfl, hshape, by omega⟩
end Go.Proofs.YtkfcbgmamfnajaaGreatDoor
