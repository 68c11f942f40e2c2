/- Plain laws of the lexer: fuel, lines ahead, what stands behind, blanks between. No program in sight. -/
import Derived.Test.YtjphfiieapclhaaDoorLx
namespace Go.Abs.YtjphfiieapclhaaDoor

/-- The words of a text, from a line on, behind others. -/
def lexR (s : List UInt8) (l : Nat) (acc : List Tok) : Res0 := lexG s.length s l acc
theorem lexG_nil (n l : Nat) (acc : List Tok) : lexG n [] l acc = .done acc l := by cases n <;> rfl
theorem lexG_fuel : ∀ (n m : Nat) (s : List UInt8) (l : Nat) (acc : List Tok), s.length ≤ n → s.length ≤ m → lexG n s l acc = lexG m s l acc
  | n, m, [], l, acc, _, _ => by rw [lexG_nil, lexG_nil]
  | 0, _, _ :: _, _, _, h, _ => by simp at h
  | _ + 1, 0, _ :: _, _, _, _, h => by simp at h
  | n + 1, m + 1, c :: r, l, acc, h1, h2 => by
    have hf := step_fits c r
    simp only [List.length_cons] at h1 h2
    simp only [lexG]
    cases hs : step (c :: r) with
    | skip k nl =>
      rw [hs] at hf
      simp only [Stp.fits] at hf
      exact lexG_fuel n m _ _ _ (by simp only [List.length_drop, List.length_cons]; omega) (by simp only [List.length_drop, List.length_cons]; omega)
    | tok kd k =>
      rw [hs] at hf
      simp only [Stp.fits] at hf
      exact lexG_fuel n m _ _ _ (by simp only [List.length_drop, List.length_cons]; omega) (by simp only [List.length_drop, List.length_cons]; omega)
    | err e => rfl
theorem lexR_nil (l : Nat) (acc : List Tok) : lexR [] l acc = .done acc l := rfl
theorem lexR_skip {s : List UInt8} {k nl : Nat} (h : step s = .skip k nl) (hs : s ≠ []) (l : Nat) (acc : List Tok) : lexR s l acc = lexR (s.drop k) (l + nl) acc := by
  cases s with
  | nil => exact (hs rfl).elim
  | cons c r =>
    have hf := step_fits c r
    rw [h] at hf
    simp only [Stp.fits] at hf
    unfold lexR
    simp only [List.length_cons, lexG, h]
    exact lexG_fuel _ _ _ _ _ (by simp only [List.length_drop, List.length_cons]; omega) (Nat.le_refl _)
theorem lexR_tok {s : List UInt8} {k m : Nat} (h : step s = .tok k m) (hs : s ≠ []) (l : Nat) (acc : List Tok) : lexR s l acc = lexR (s.drop m) l (acc ++ [⟨k, s.take m, l⟩]) := by
  cases s with
  | nil => exact (hs rfl).elim
  | cons c r =>
    have hf := step_fits c r
    rw [h] at hf
    simp only [Stp.fits] at hf
    unfold lexR
    simp only [List.length_cons, lexG, h]
    exact lexG_fuel _ _ _ _ _ (by simp only [List.length_drop, List.length_cons]; omega) (Nat.le_refl _)
theorem lexR_err {s : List UInt8} {e : Nat} (h : step s = .err e) (hs : s ≠ []) (l : Nat) (acc : List Tok) : lexR s l acc = .bad e l := by
  cases s with
  | nil => exact (hs rfl).elim
  | cons c r =>
    unfold lexR
    simp only [List.length_cons, lexG, h]

/-! ### What stands behind a line feed -/
theorem run_app {p : Int → Bool} {b : UInt8} (hb : p b.toNat = false) (x : List UInt8) : ∀ s : List UInt8, run p (s ++ b :: x) = run p s
  | [] => by simp [run, hb]
  | c :: s => by simp only [List.cons_append, run, run_app hb x s]
theorem isBlank_cases {b : UInt8} (h : isBlank b.toNat = true) : b = 32 ∨ b = 9 ∨ b = 13 ∨ b = 10 := by
  simp only [isBlank, Bool.or_eq_true, beq_iff_eq] at h
  have : b.toNat = 32 ∨ b.toNat = 9 ∨ b.toNat = 13 ∨ b.toNat = 10 := by omega
  rcases this with h | h | h | h
  · exact .inl (UInt8.toNat_inj.1 h)
  · exact .inr (.inl (UInt8.toNat_inj.1 h))
  · exact .inr (.inr (.inl (UInt8.toNat_inj.1 h)))
  · exact .inr (.inr (.inr (UInt8.toNat_inj.1 h)))
theorem twos_blank {b : UInt8} (h : isBlank b.toNat = true) (c : UInt8) : twos.contains [c, b] = false := by
  rcases isBlank_cases h with rfl | rfl | rfl | rfl <;> simp [twos]
theorem twos_one (c : UInt8) : twos.contains [c] = false := by simp [twos]
theorem isWord_blank {b : UInt8} (h : isBlank b.toNat = true) : isWord b.toNat = false ∧ isDigit b.toNat = false ∧ isLetter b.toNat = false := by
  rcases isBlank_cases h with rfl | rfl | rfl | rfl <;> decide
/-- Behind a text that goes on with a line feed the first word is the same. -/
theorem step_app (s x : List UInt8) (hs : s ≠ []) : step (s ++ 10 :: x) = step s := by
  cases s with
  | nil => exact (hs rfl).elim
  | cons c r =>
    have hb : isBlank ((10 : UInt8).toNat : Int) = true := by decide
    obtain ⟨w1, w2, w3⟩ := isWord_blank hb
    have hp : [47, 47].isPrefixOf ((c :: r) ++ 10 :: x) = [47, 47].isPrefixOf (c :: r) := by
      cases r with
      | nil => simp [List.isPrefixOf]
      | cons d r => simp [List.isPrefixOf]
    have e1 : run (· != 10) ((c :: r) ++ 10 :: x) = run (· != 10) (c :: r) := run_app (by decide) x _
    have e2 : run isWord ((c :: r) ++ 10 :: x) = run isWord (c :: r) := run_app w1 x _
    have e3 : run isDigit ((c :: r) ++ 10 :: x) = run isDigit (c :: r) := run_app w2 x _
    have hl2 := run_le isWord (c :: r)
    have hl3 := run_le isDigit (c :: r)
    have t2 : ((c :: r) ++ 10 :: x).take (run isWord (c :: r)) = (c :: r).take (run isWord (c :: r)) := List.take_append_of_le_length hl2
    have t3 : ((c :: r) ++ 10 :: x).take (run isDigit (c :: r)) = (c :: r).take (run isDigit (c :: r)) := List.take_append_of_le_length hl3
    have d3 : ((c :: r) ++ 10 :: x).drop (run isDigit (c :: r)) = (c :: r).drop (run isDigit (c :: r)) ++ 10 :: x := List.drop_append_of_le_length hl3
    have e4 : run isLetter ((c :: r).drop (run isDigit (c :: r)) ++ 10 :: x) = run isLetter ((c :: r).drop (run isDigit (c :: r))) := run_app w3 x _
    have h5 : twos.contains (((c :: r) ++ 10 :: x).take 2) = twos.contains ((c :: r).take 2) := by
      cases r with
      | nil =>
        show twos.contains [c, 10] = twos.contains [c]
        rw [twos_blank hb, twos_one]
      | cons d r => rfl
    unfold step
    rw [hp, e1, e2, e3, t2, t3, d3, e4, h5]
    rfl
theorem lexR_app (x : List UInt8) : ∀ (n : Nat) (s : List UInt8) (l : Nat) (acc : List Tok), s.length ≤ n → lexR (s ++ 10 :: x) l acc = match lexR s l acc with
    | .done acc' l' => lexR (10 :: x) l' acc'
    | .bad e l' => .bad e l'
  | n, [], l, acc, _ => rfl
  | 0, _ :: _, _, _, h => by simp at h
  | n + 1, c :: r, l, acc, h => by
    have hne : c :: r ≠ [] := by simp
    have hne' : c :: r ++ 10 :: x ≠ [] := by simp
    have hst := step_app (c :: r) x hne
    have hf := step_fits c r
    cases hs : step (c :: r) with
    | skip k nl =>
      rw [hs] at hst hf
      simp only [Stp.fits] at hf
      rw [lexR_skip hs hne, lexR_skip hst hne', List.drop_append_of_le_length hf.2.1]
      exact lexR_app x n _ _ _ (by simp only [List.length_drop, List.length_cons] at h ⊢; omega)
    | tok kd m =>
      rw [hs] at hst hf
      simp only [Stp.fits] at hf
      rw [lexR_tok hs hne, lexR_tok hst hne', List.drop_append_of_le_length hf.2.1, List.take_append_of_le_length hf.2.1]
      exact lexR_app x n _ _ _ (by simp only [List.length_drop, List.length_cons] at h ⊢; omega)
    | err e =>
      rw [hs] at hst
      rw [lexR_err hs hne, lexR_err hst hne']

/-! ### Lines ahead -/
def Tok.down (d : Nat) (t : Tok) : Tok := { t with l := t.l + d }
def Res0.down (d : Nat) : Res0 → Res0
  | .done a l => .done (a.map (Tok.down d)) (l + d)
  | .bad e l => .bad e (l + d)
theorem lexG_down (d : Nat) : ∀ (n : Nat) (s : List UInt8) (l : Nat) (acc : List Tok), lexG n s (l + d) (acc.map (Tok.down d)) = (lexG n s l acc).down d
  | n, [], l, acc => by rw [lexG_nil, lexG_nil]; rfl
  | 0, c :: r, l, acc => rfl
  | n + 1, c :: r, l, acc => by
    simp only [lexG]
    cases step (c :: r) with
    | skip k nl =>
      simp only
      rw [show l + d + nl = (l + nl) + d by omega]
      exact lexG_down d n _ _ _
    | tok kd m =>
      simp only
      rw [← lexG_down d n]
      congr 1
      simp [Tok.down]
    | err e => rfl

def piece (i : Nat) : List UInt8 := if i % 2 = 0 then [10] else [32, 47, 47, 32, 114, 101, 109, 97, 114, 107, 10]
def aheadT : Nat → List UInt8
  | 0 => []
  | n + 1 => aheadT n ++ piece n
theorem aheadT_len : ∀ n, (aheadT n).length ≤ 11 * n
  | 0 => Nat.le_refl _
  | n + 1 => by
    have := aheadT_len n
    have h2 : (piece n).length ≤ 11 := by unfold piece; split <;> decide
    simp only [aheadT, List.length_append]; omega
theorem lexR_lf (x : List UInt8) (l : Nat) (acc : List Tok) : lexR (10 :: x) l acc = lexR x (l + 1) acc := by
  have h : step (10 :: x) = .skip 1 1 := by
    unfold step
    have : [47, 47].isPrefixOf (10 :: x) = false := by simp [List.isPrefixOf]
    rw [this]; simp [isBlank]
  rw [lexR_skip h (by simp)]; rfl
theorem lexR_bl (b : UInt8) (hb : b = 32 ∨ b = 9 ∨ b = 13) (x : List UInt8) (l : Nat) (acc : List Tok) : lexR (b :: x) l acc = lexR x l acc := by
  have h : step (b :: x) = .skip 1 0 := by
    unfold step
    have : [47, 47].isPrefixOf (b :: x) = false := by rcases hb with rfl | rfl | rfl <;> simp [List.isPrefixOf]
    rw [this]
    rcases hb with rfl | rfl | rfl <;> simp [isBlank]
  rw [lexR_skip h (by simp)]; rfl
theorem lexR_remark (w : List UInt8) (hw : ∀ c ∈ w, c ≠ 10) (x : List UInt8) (l : Nat) (acc : List Tok) : lexR (47 :: 47 :: w ++ 10 :: x) l acc = lexR x (l + 1) acc := by
  have hr : run (· != 10) (47 :: 47 :: w ++ 10 :: x) = (47 :: 47 :: w).length := by
    rw [run_app (by decide)]
    have key : ∀ v : List UInt8, (∀ c ∈ v, c ≠ 10) → run (· != 10) v = v.length := by
      intro v
      induction v with
      | nil => intro _; rfl
      | cons c v ih =>
        intro h
        have hc : ((c.toNat : Int) != 10) = true := by
          have h1 := h c (List.mem_cons_self ..)
          have : c.toNat ≠ 10 := fun e => h1 (UInt8.toNat_inj.1 e)
          simp; omega
        simp only [run, hc, if_true, List.length_cons]
        rw [ih fun d hd => h d (List.mem_cons_of_mem _ hd)]
    exact key _ (by simp; exact hw)
  have h : step (47 :: 47 :: w ++ 10 :: x) = .skip (47 :: 47 :: w).length 0 := by
    have hp : [47, 47].isPrefixOf (47 :: 47 :: w ++ 10 :: x) = true := by simp [List.isPrefixOf]
    rw [← hr]
    unfold step
    rw [hp]; rfl
  rw [lexR_skip h (by simp), List.drop_left, Nat.add_zero, lexR_lf]
theorem lexR_piece (i : Nat) (x : List UInt8) (l : Nat) (acc : List Tok) : lexR (piece i ++ x) l acc = lexR x (l + 1) acc := by
  unfold piece
  split
  · exact lexR_lf x l acc
  · show lexR (32 :: (47 :: 47 :: [32, 114, 101, 109, 97, 114, 107] ++ 10 :: x)) l acc = _
    rw [lexR_bl 32 (.inl rfl)]
    exact lexR_remark _ (by decide) x l acc
theorem lexR_ahead : ∀ (n : Nat) (x : List UInt8) (l : Nat) (acc : List Tok), lexR (aheadT n ++ x) l acc = lexR x (l + n) acc
  | 0, x, l, acc => rfl
  | n + 1, x, l, acc => by
    simp only [aheadT, List.append_assoc]
    rw [lexR_ahead n, lexR_piece]; rfl
theorem lexS_R {t : List UInt8} (h : t.length ≤ 32768) : lexS t = (lexR t 0 []).fin := by
  unfold lexS
  rw [if_neg (by omega)]; rfl
theorem lines_ahead {t : List UInt8} {a : List Tok} (h : lexS t = .toks a) (ht : t.length ≤ 2000) (n : Nat) (hn : n < 100) : lexS (aheadT n ++ t) = .toks (a.map (Tok.down n)) := by
  have hl := aheadT_len n
  rw [lexS_R (by simp only [List.length_append]; omega), lexR_ahead]
  rw [lexS_R (by omega)] at h
  have hd : lexR t (0 + n) [] = (lexR t 0 []).down n := lexG_down n t.length t 0 []
  rw [hd]
  cases hr : lexR t 0 [] with
  | done a' l' =>
    rw [hr] at h
    cases h
    simp [Res0.down, Res0.fin, Tok.down]
  | bad e l' => rw [hr] at h; cases h
theorem lines_behind {t : List UInt8} {a : List Tok} (h : lexS t = .toks a) (ht : t.length ≤ 2000) (n : Nat) (hn : n < 100) : ∃ z, a.getLast? = some z ∧ lexS (aheadT n ++ t ++ [10, 36]) = .bad 9 (z.l + n + 1) := by
  have hl := aheadT_len n
  rw [lexS_R (by simp only [List.length_append, List.length_cons, List.length_nil]; omega), List.append_assoc, lexR_ahead, lexR_app _ t.length t _ _ (Nat.le_refl _)]
  rw [lexS_R (by omega)] at h
  have hd : lexR t (0 + n) [] = (lexR t 0 []).down n := lexG_down n t.length t 0 []
  rw [hd]
  cases hr : lexR t 0 [] with
  | done a' l' =>
    rw [hr] at h
    cases h
    refine ⟨⟨5, [], l'⟩, by simp, ?_⟩
    simp only [Res0.down]
    rw [lexR_lf]
    have : lexR [36] (l' + n + 1) (a'.map (Tok.down n)) = .bad 9 (l' + n + 1) := lexR_err (by decide +kernel) (by simp) _ _
    rw [this]; rfl
  | bad e l' => rw [hr] at h; cases h

/-! ### Blanks between -/
def Good (k : Nat) (s : List UInt8) : Prop := ∃ u, u ≠ [] ∧ step u = .tok k s.length ∧ s = u.take s.length
theorem run_take (p : Int → Bool) : ∀ (u : List UInt8) (b : UInt8) (x : List UInt8), p b.toNat = false → run p (u.take (run p u) ++ b :: x) = run p u
  | [], b, x, h => by simp [run, h]
  | c :: u, b, x, h => by
    simp only [run]
    split
    · rename_i hc
      simp only [List.take_succ_cons, List.cons_append, run, hc, if_true]
      rw [run_take p u b x h]
    · simp [run, h]
theorem good_step {k : Nat} {s : List UInt8} (h : Good k s) {b : UInt8} (hb : isBlank b.toNat = true) (x : List UInt8) : step (s ++ b :: x) = .tok k s.length := by
  obtain ⟨w1, w2, w3⟩ := isWord_blank hb
  obtain ⟨u, hu, hst, hs⟩ := h
  cases u with
  | nil => exact (hu rfl).elim
  | cons c r =>
    have hf := step_fits c r
    rw [hst] at hf
    simp only [Stp.fits] at hf
    obtain ⟨s', hs'⟩ : ∃ s', s = c :: s' := by
      cases s with
      | nil => simp at hf
      | cons d s' => simp at hs; exact ⟨s', by rw [hs.1]⟩
    unfold step at hst
    split at hst
    · cases hst
    · rename_i hp
      simp only at hst
      have hlen : s.length = s'.length + 1 := by rw [hs']; rfl
      have hp2 : [47, 47].isPrefixOf (s ++ b :: x) = false := by
        cases hq : [47, 47].isPrefixOf (s ++ b :: x) with
        | false => rfl
        | true =>
          exfalso
          subst hs'
          cases s' with
          | nil =>
            simp only [List.cons_append, List.nil_append, List.isPrefixOf, Bool.and_eq_true, beq_iff_eq] at hq
            have hb2 := hq.2.1
            rw [← hb2] at hb
            revert hb; decide
          | cons d s'' =>
            apply hp
            cases r with
            | nil => simp at hs
            | cons d' r' =>
              simp only [List.length_cons, List.take_succ_cons, List.cons.injEq] at hs
              obtain ⟨_, rfl, _⟩ := hs
              simpa [List.isPrefixOf] using hq
      split at hst
      · cases hst
      · rename_i hbl
        split at hst
        · rename_i hle
          split at hst
          · cases hst
          · rename_i h32
            have hm : s.length = run isWord (c :: r) := by
              split at hst <;> (injection hst with _ h2; exact h2.symm)
            rw [hm] at hs
            have e1 : run isWord (s ++ b :: x) = run isWord (c :: r) := by rw [hs]; exact run_take isWord (c :: r) b x w1
            have e2 : (s ++ b :: x).take (run isWord (c :: r)) = s := by rw [← hm]; exact List.take_left
            have e3 : (c :: r).take (run isWord (c :: r)) = s := hs.symm
            unfold step
            rw [hp2, e1, e2]
            rw [e3] at hst
            subst hs'
            simp only [Bool.false_eq_true, if_false, List.cons_append, hbl, hle, if_true, h32]
            exact hst
        · rename_i hle
          split at hst
          · rename_i hdg
            split at hst
            · cases hst
            · rename_i hno
              split at hst
              · cases hst
              · rename_i hbig
                injection hst with hk hm
                rw [← hm] at hs
                have e1 : run isDigit (s ++ b :: x) = run isDigit (c :: r) := by rw [hs]; exact run_take isDigit (c :: r) b x w2
                have e2 : (s ++ b :: x).take (run isDigit (c :: r)) = s := by rw [hm]; exact List.take_left
                have e3 : (c :: r).take (run isDigit (c :: r)) = s := hs.symm
                have e4 : run isLetter ((s ++ b :: x).drop (run isDigit (c :: r))) = 0 := by rw [hm, List.drop_left]; simp [run, w3]
                unfold step
                rw [hp2, e1, e2, e4]
                rw [e3] at hbig
                have hno2 : ¬ (c.toNat = 48 ∧ 1 < run isDigit (c :: r)) := fun h => hno (.inl h)
                subst hs'
                simp only [Bool.false_eq_true, if_false, List.cons_append, hbl, hle, hdg, if_true, hno2, Nat.lt_irrefl, or_self, hbig]
                rw [hk, hm]
          · rename_i hdg
            split at hst
            · rename_i hone
              split at hst
              · rename_i htw
                injection hst with hk hm
                have hs2 : s = (c :: r).take 2 := by rw [← hm] at hs; exact hs
                have e2 : (s ++ b :: x).take 2 = s := by
                  rw [show 2 = s.length from hm]; exact List.take_left
                unfold step
                rw [hp2, e2]
                rw [← hs2] at htw
                subst hs'
                simp only [Bool.false_eq_true, if_false, List.cons_append, hbl, hle, hdg, hone, if_true, htw]
                rw [hk, ← hm]
              · rename_i htw
                injection hst with hk hm
                have hs0 : s' = [] := List.length_eq_zero_iff.1 (by omega)
                subst hs0
                have e2 : (s ++ b :: x).take 2 = [c, b] := by rw [hs']; rfl
                unfold step
                rw [hp2, e2, twos_blank hb]
                subst hs'
                simp only [Bool.false_eq_true, if_false, List.cons_append, List.nil_append, hbl, hle, hdg, hone, if_true]
                rw [hk]; rfl
            · cases hst
theorem lexG_good : ∀ (n : Nat) (s : List UInt8) (l : Nat) (acc acc' : List Tok) (l' : Nat), (∀ t ∈ acc, Good t.k t.s) → lexG n s l acc = .done acc' l' → ∀ t ∈ acc', Good t.k t.s
  | n, [], l, acc, acc', l', h, hd => by rw [lexG_nil] at hd; cases hd; exact h
  | 0, c :: r, l, acc, acc', l', h, hd => by cases hd; exact h
  | n + 1, c :: r, l, acc, acc', l', h, hd => by
    have hf := step_fits c r
    simp only [lexG] at hd
    cases hs : step (c :: r) with
    | skip k nl => rw [hs] at hd; exact lexG_good n _ _ _ _ _ h hd
    | tok kd m =>
      rw [hs] at hd hf
      simp only [Stp.fits] at hf
      refine lexG_good n _ _ _ _ _ (fun t ht => ?_) hd
      rcases List.mem_append.1 ht with ht | ht
      · exact h t ht
      · obtain rfl := List.mem_singleton.1 ht
        have hl : ((c :: r).take m).length = m := by rw [List.length_take]; omega
        exact ⟨c :: r, by simp, by simp only [hl]; exact hs, by simp only [hl]⟩
    | err e => rw [hs] at hd; cases hd
/-- What stands between, and how many line feeds it has. -/
def sepT (k : Nat) : List UInt8 := if k = 0 then [32] else if k = 1 then [10] else if k = 2 then [32, 47, 47, 32, 120, 32, 43, 32, 49, 32, 36, 10] else [9, 13, 32]
def sepL (k : Nat) : Nat := if k = 1 ∨ k = 2 then 1 else 0
theorem sepT_head (k : Nat) : ∃ b x, sepT k = b :: x ∧ isBlank b.toNat = true := by
  unfold sepT
  split
  · exact ⟨_, _, rfl, by decide⟩
  · split
    · exact ⟨_, _, rfl, by decide⟩
    · split
      · exact ⟨_, _, rfl, by decide⟩
      · exact ⟨_, _, rfl, by decide⟩
theorem sepT_len (k : Nat) : (sepT k).length ≤ 12 := by
  by_cases h0 : k = 0
  · subst h0; decide
  · by_cases h1 : k = 1
    · subst h1; decide
    · by_cases h2 : k = 2
      · subst h2; decide
      · simp [sepT, h0, h1, h2]
theorem lexR_sep (k : Nat) (x : List UInt8) (l : Nat) (acc : List Tok) : lexR (sepT k ++ x) l acc = lexR x (l + sepL k) acc := by
  unfold sepT sepL
  split
  · rename_i h; subst h; exact lexR_bl 32 (.inl rfl) x l acc
  · split
    · rename_i h; subst h; exact lexR_lf x l acc
    · split
      · rename_i h; subst h
        show lexR (32 :: (47 :: 47 :: [32, 120, 32, 43, 32, 49, 32, 36] ++ 10 :: x)) l acc = _
        rw [lexR_bl 32 (.inl rfl)]
        exact lexR_remark _ (by decide) x l acc
      · rename_i h0 h1 h2
        rw [if_neg (by omega)]
        show lexR (9 :: 13 :: 32 :: x) l acc = _
        rw [lexR_bl 9 (.inr (.inl rfl)), lexR_bl 13 (.inr (.inr rfl)), lexR_bl 32 (.inl rfl)]; rfl
/-- The words with what stands between them; the words, each on its line. -/
def backT (ks : Nat → Nat) : Nat → List Tok → List UInt8
  | _, [] => []
  | i, t :: r => t.s ++ sepT (ks i) ++ backT ks (i + 1) r
def backL (ks : Nat → Nat) : Nat → Nat → List Tok → List Tok
  | _, _, [] => []
  | i, l, t :: r => ⟨t.k, t.s, l⟩ :: backL ks (i + 1) (l + sepL (ks i)) r
def backN (ks : Nat → Nat) : Nat → Nat → List Tok → Nat
  | _, l, [] => l
  | i, l, _ :: r => backN ks (i + 1) (l + sepL (ks i)) r
theorem lexR_back (ks : Nat → Nat) : ∀ (a : List Tok) (i l : Nat) (acc : List Tok) (x : List UInt8), (∀ t ∈ a, Good t.k t.s) → lexR (backT ks i a ++ x) l acc = lexR x (backN ks i l a) (acc ++ backL ks i l a)
  | [], i, l, acc, x, _ => by simp [backT, backN, backL]
  | t :: a, i, l, acc, x, h => by
    obtain ⟨b, y, hy, hb⟩ := sepT_head (ks i)
    have hg := h t (List.mem_cons_self ..)
    have hst := good_step hg hb (y ++ (backT ks (i + 1) a ++ x))
    have e : backT ks i (t :: a) ++ x = t.s ++ b :: (y ++ (backT ks (i + 1) a ++ x)) := by simp [backT, hy]
    rw [e, lexR_tok hst (by simp), List.drop_left, List.take_left]
    have e2 : b :: (y ++ (backT ks (i + 1) a ++ x)) = sepT (ks i) ++ (backT ks (i + 1) a ++ x) := by rw [hy]; rfl
    rw [e2, lexR_sep, lexR_back ks a _ _ _ _ fun t ht => h t (List.mem_cons_of_mem _ ht)]
    simp [backN, backL]
theorem back_lex (ks : Nat → Nat) {t : List UInt8} {a : List Tok} {n : Nat} (h : lexS t = .toks (a ++ [⟨5, [], n⟩])) (ht : t.length ≤ 2000) (hl : (backT ks 0 (a ++ [⟨5, [], n⟩])).length ≤ 32768) :
    lexS (backT ks 0 (a ++ [⟨5, [], n⟩])) = .toks (backL ks 0 0 a ++ [⟨5, [], backN ks 0 0 (a ++ [⟨5, [], n⟩])⟩]) := by
  have hg : ∀ z ∈ a, Good z.k z.s := by
    rw [lexS_R (by omega)] at h
    cases hr : lexR t 0 [] with
    | done a' l' =>
      rw [hr] at h
      simp only [Res0.fin, Res.toks.injEq] at h
      have h1 := List.append_inj_left' h rfl
      subst h1
      exact lexG_good _ _ _ _ _ _ (fun _ h => by cases h) hr
    | bad e l' => rw [hr] at h; cases h
  have e1 : ∀ (i : Nat) (b : List Tok), backT ks i (b ++ [⟨5, [], n⟩]) = backT ks i b ++ sepT (ks (i + b.length)) := by
    intro i b
    induction b generalizing i with
    | nil => simp [backT]
    | cons t b ih => simp only [List.cons_append, backT, ih, List.append_assoc, List.length_cons]; rw [show i + 1 + b.length = i + (b.length + 1) by omega]
  have e2 : ∀ (i l : Nat) (b : List Tok), backN ks i l (b ++ [⟨5, [], n⟩]) = backN ks i l b + sepL (ks (i + b.length)) := by
    intro i l b
    induction b generalizing i l with
    | nil => simp [backN]
    | cons t b ih => simp only [List.cons_append, backN, ih, List.length_cons]; rw [show i + 1 + b.length = i + (b.length + 1) by omega]
  rw [lexS_R hl, e1, e2, lexR_back ks a _ _ _ _ hg]
  have := lexR_sep (ks (0 + a.length)) [] (backN ks 0 0 a) ([] ++ backL ks 0 0 a)
  rw [List.append_nil] at this
  rw [this, lexR_nil]
  simp [Res0.fin]
/-- The lines are no more than the bytes. -/
theorem lexG_line (M : Nat) : ∀ (n : Nat) (s : List UInt8) (l : Nat) (acc acc' : List Tok) (l' : Nat), l + s.length ≤ M → (∀ t ∈ acc, t.l ≤ M) → lexG n s l acc = .done acc' l' → l' ≤ M ∧ ∀ t ∈ acc', t.l ≤ M
  | n, [], l, acc, acc', l', hl, h, hd => by rw [lexG_nil] at hd; cases hd; exact ⟨by simpa using hl, h⟩
  | 0, c :: r, l, acc, acc', l', hl, h, hd => by cases hd; exact ⟨by omega, h⟩
  | n + 1, c :: r, l, acc, acc', l', hl, h, hd => by
    have hf := step_fits c r
    simp only [lexG] at hd
    cases hs : step (c :: r) with
    | skip k nl =>
      rw [hs] at hd hf
      simp only [Stp.fits] at hf
      exact lexG_line M n _ _ _ _ _ (by simp only [List.length_drop]; omega) h hd
    | tok kd m =>
      rw [hs] at hd hf
      simp only [Stp.fits] at hf
      refine lexG_line M n _ _ _ _ _ (by simp only [List.length_drop]; omega) (fun t ht => ?_) hd
      rcases List.mem_append.1 ht with ht | ht
      · exact h t ht
      · obtain rfl := List.mem_singleton.1 ht
        show l ≤ M
        omega
    | err e => rw [hs] at hd; cases hd
theorem lexS_line {t : List UInt8} {a : List Tok} (h : lexS t = .toks a) : ∀ z ∈ a, z.l ≤ t.length := by
  unfold lexS at h
  split at h
  · cases h
  · cases hr : lexG t.length t 0 [] with
    | done a' l' =>
      rw [hr] at h
      simp only [Res0.fin, Res.toks.injEq] at h
      obtain ⟨h1, h2⟩ := lexG_line t.length _ _ _ _ _ _ (by omega) (fun _ h => by cases h) hr
      subst h
      intro z hz
      rcases List.mem_append.1 hz with hz | hz
      · exact h2 z hz
      · obtain rfl := List.mem_singleton.1 hz; exact h1
    | bad e l => rw [hr] at h; cases h
theorem lexS_end {t : List UInt8} {a : List Tok} (h : lexS t = .toks a) : ∃ b n, a = b ++ [⟨5, [], n⟩] := by
  unfold lexS at h
  split at h
  · cases h
  · cases hr : lexG t.length t 0 [] with
    | done a' l' => rw [hr] at h; cases h; exact ⟨a', l', rfl⟩
    | bad e l => rw [hr] at h; cases h
end Go.Abs.YtjphfiieapclhaaDoor
