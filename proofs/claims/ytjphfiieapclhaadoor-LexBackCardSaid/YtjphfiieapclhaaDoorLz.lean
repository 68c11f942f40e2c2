/- Plain laws of the lexer, part 2: how long what LexBack builds can be. -/
import Derived.Test.YtjphfiieapclhaaDoorLy
namespace Go.Abs.YtjphfiieapclhaaDoor
set_option maxRecDepth 4000

def wt : List Tok → Nat
  | [] => 0
  | t :: r => t.s.length + 12 + wt r
theorem wt_app : ∀ a b : List Tok, wt (a ++ b) = wt a + wt b
  | [], b => (Nat.zero_add _).symm
  | t :: a, b => by simp only [List.cons_append, wt, wt_app a b]; omega
theorem wt_len : ∀ a : List Tok, 12 * a.length ≤ wt a
  | [] => Nat.le_refl _
  | t :: a => by have := wt_len a; simp only [List.length_cons, wt]; omega
theorem lexG_wt : ∀ (n : Nat) (s : List UInt8) (l : Nat) (acc acc' : List Tok) (l' : Nat), lexG n s l acc = .done acc' l' → wt acc' ≤ wt acc + 13 * s.length
  | n, [], l, acc, acc', l', hd => by rw [lexG_nil] at hd; cases hd; omega
  | 0, c :: r, l, acc, acc', l', hd => by cases hd; omega
  | n + 1, c :: r, l, acc, acc', l', hd => by
    have hf := step_fits c r
    simp only [lexG] at hd
    cases hs : step (c :: r) with
    | skip k nl =>
      rw [hs] at hd
      have := lexG_wt n _ _ _ _ _ hd
      rw [List.length_drop] at this; omega
    | tok kd m =>
      rw [hs] at hd hf
      simp only [Stp.fits] at hf
      have := lexG_wt n _ _ _ _ _ hd
      have hl : ((c :: r).take m).length = m := by rw [List.length_take]; omega
      rw [List.length_drop, wt_app] at this
      simp only [wt, hl] at this; omega
    | err e => rw [hs] at hd; cases hd
theorem lexS_wt {t : List UInt8} {a : List Tok} (h : lexS t = .toks a) : wt a ≤ 13 * t.length + 12 := by
  unfold lexS at h
  split at h
  · cases h
  · cases hr : lexG t.length t 0 [] with
    | done a' l' =>
      rw [hr] at h
      cases h
      have := lexG_wt _ _ _ _ _ _ hr
      rw [wt_app]
      simp only [wt, List.length_nil] at this ⊢; omega
    | bad e l' => rw [hr] at h; cases h
theorem backT_len (ks : Nat → Nat) : ∀ (i : Nat) (a : List Tok), (backT ks i a).length ≤ wt a
  | _, [] => Nat.le_refl _
  | i, t :: a => by
    have := backT_len ks (i + 1) a
    have h2 := sepT_len (ks i)
    simp only [backT, List.length_append, wt]; omega
theorem backT_snoc (ks : Nat → Nat) : ∀ (a : List Tok) (i : Nat) (t : Tok), backT ks i (a ++ [t]) = backT ks i a ++ t.s ++ sepT (ks (i + a.length))
  | [], i, t => by simp [backT]
  | x :: a, i, t => by
    have e : i + 1 + a.length = i + (x :: a).length := by simp only [List.length_cons]; omega
    simp only [List.cons_append, backT, backT_snoc ks a, e, List.append_assoc]
theorem backN_snoc (ks : Nat → Nat) : ∀ (a : List Tok) (i l : Nat) (t : Tok), backN ks i l (a ++ [t]) = backN ks i l a + sepL (ks (i + a.length))
  | [], i, l, t => by simp [backN]
  | x :: a, i, l, t => by
    have e : i + 1 + a.length = i + (x :: a).length := by simp only [List.length_cons]; omega
    simp only [List.cons_append, backN, backN_snoc ks a, e]
theorem backN_le (ks : Nat → Nat) : ∀ (a : List Tok) (i l : Nat), backN ks i l a ≤ l + a.length
  | [], i, l => Nat.le_refl _
  | x :: a, i, l => by
    have := backN_le ks a (i + 1) (l + sepL (ks i))
    have h2 : sepL (ks i) ≤ 1 := by unfold sepL; split <;> omega
    simp only [backN, List.length_cons]; omega
/-- The line on which each word is written. -/
theorem backL_at (ks : Nat → Nat) : ∀ (a : List Tok) (i l m : Nat) (t : Tok), a[m]? = some t → (backL ks i l a)[m]? = some ⟨t.k, t.s, backN ks i l (a.take m)⟩
  | x :: a, i, l, 0, t, h => by cases h; rfl
  | x :: a, i, l, m + 1, t, h => by
    simp only [List.getElem?_cons_succ] at h
    simp only [backL, List.getElem?_cons_succ, List.take_succ_cons, backN]
    exact backL_at ks a (i + 1) _ m t h
theorem backL_len (ks : Nat → Nat) : ∀ (a : List Tok) (i l : Nat), (backL ks i l a).length = a.length
  | [], _, _ => rfl
  | x :: a, i, l => by simp only [backL, List.length_cons, backL_len ks a]
end Go.Abs.YtjphfiieapclhaaDoor
