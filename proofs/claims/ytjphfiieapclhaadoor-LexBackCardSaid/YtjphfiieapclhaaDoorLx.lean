/- The document's lexer as plain functions over bytes: no program in sight. -/
import Derived.Lib.Bytealg
import Derived.Lib.ParseIntB
import GoSem.Core.Value
namespace Go.Abs.YtjphfiieapclhaaDoor

def isLetter (c : Int) : Bool := (decide (97 ≤ c) && decide (c ≤ 122)) || (decide (65 ≤ c) && decide (c ≤ 90)) || c == 95
def isDigit (c : Int) : Bool := decide (48 ≤ c) && decide (c ≤ 57)
def isBlank (c : Int) : Bool := c == 32 || c == 9 || c == 13 || c == 10
def isWord (c : Int) : Bool := isLetter c || isDigit c
def ones : List UInt8 := [40, 41, 123, 125, 91, 93, 44, 59, 58, 61, 60, 62, 43, 45, 124, 94, 38, 42, 47, 37, 33]
def isOne (c : Int) : Bool := decide (0 ≤ Lib.indexByte ones (IntKind.u8.wrap c).toNat.toUInt8) && decide (c < 128)
/-- A byte's kind. -/
def kindOf (c : Int) : Int := if isBlank c then 1 else if isLetter c then 2 else if isDigit c then 3 else if isOne c then 4 else 0

/-- How many bytes at the front are such. -/
def run (p : Int → Bool) : List UInt8 → Nat
  | [] => 0
  | c :: t => if p c.toNat then run p t + 1 else 0
theorem run_le (p : Int → Bool) : ∀ t, run p t ≤ t.length
  | [] => Nat.le_refl _
  | c :: t => by
    simp only [run, List.length_cons]
    split
    · have := run_le p t; omega
    · omega
theorem run_pos {p : Int → Bool} {c : UInt8} (t : List UInt8) (h : p c.toNat = true) : 0 < run p (c :: t) := by simp [run, h]

def keys : List (List UInt8) := [[102, 117, 110, 99], [118, 97, 114], [112, 116, 114], [105, 102], [101, 108, 115, 101], [119, 104, 105, 108, 101], [111, 117, 116], [102, 114, 101, 101], [100, 114, 97, 105, 110], [114, 101, 116, 117, 114, 110], [110, 101, 119], [105, 110]]
def twos : List (List UInt8) := [[124, 124], [38, 38], [61, 61], [33, 61], [60, 61], [62, 61], [60, 60], [62, 62]]
def tooBig (l : List UInt8) : Bool := match Lib.parseUintB 32 l with | .ok _ => false | _ => true

inductive Stp where
  | skip (n nl : Nat)
  | tok (k n : Nat)
  | err (e : Nat)
  deriving DecidableEq, Repr

/-- What stands at the front of a text that is not empty. -/
def step (s : List UInt8) : Stp :=
  if [47, 47].isPrefixOf s then .skip (run (· != 10) s) 0
  else match s with
  | [] => .err 0
  | c :: _ =>
    if isBlank c.toNat then .skip 1 (if c.toNat = 10 then 1 else 0)
    else if isLetter c.toNat then
      if 32 < run isWord s then .err 9 else if keys.contains (s.take (run isWord s)) then .tok 4 (run isWord s) else .tok 1 (run isWord s)
    else if isDigit c.toNat then
      if (c.toNat = 48 ∧ 1 < run isDigit s) ∨ 0 < run isLetter (s.drop (run isDigit s)) then .err 9
      else if tooBig (s.take (run isDigit s)) then .err 3 else .tok 2 (run isDigit s)
    else if isOne c.toNat then (if twos.contains (s.take 2) then .tok 3 2 else .tok 3 1)
    else .err 9

structure Tok where
  k : Nat
  s : List UInt8
  l : Nat
  deriving DecidableEq, Repr
inductive Res where
  | toks (l : List Tok)
  | bad (e l : Nat)
  deriving DecidableEq, Repr

inductive Res0 where
  | done (l : List Tok) (n : Nat)
  | bad (e l : Nat)
  deriving DecidableEq, Repr
/-- The words of a text, from a line on, behind others. -/
def lexG : Nat → List UInt8 → Nat → List Tok → Res0
  | _, [], l, acc => .done acc l
  | 0, _ :: _, l, acc => .done acc l
  | n + 1, c :: t, l, acc => match step (c :: t) with
    | .skip k nl => lexG n ((c :: t).drop k) (l + nl) acc
    | .tok k m => lexG n ((c :: t).drop m) l (acc ++ [⟨k, (c :: t).take m, l⟩])
    | .err e => .bad e l
def Res0.fin : Res0 → Res
  | .done l n => .toks (l ++ [⟨5, [], n⟩])
  | .bad e l => .bad e l
def lexS (t : List UInt8) : Res := if 32768 < t.length then .bad 3 0 else (lexG t.length t 0 []).fin

/-- A step takes something, and no more than there is. -/
def Stp.fits (s : List UInt8) : Stp → Prop
  | .skip n nl => 0 < n ∧ n ≤ s.length ∧ nl ≤ 1
  | .tok k n => 0 < n ∧ n ≤ s.length ∧ 1 ≤ k ∧ k ≤ 4
  | .err e => e = 9 ∨ e = 3
theorem step_fits (c : UInt8) (t : List UInt8) : (step (c :: t)).fits (c :: t) := by
  unfold step
  split
  · rename_i h
    simp only [List.isPrefixOf, Bool.and_eq_true, beq_iff_eq] at h
    obtain ⟨rfl, _⟩ := h
    exact ⟨run_pos _ (by decide), run_le _ _, Nat.zero_le _⟩
  · simp only
    split
    · exact ⟨Nat.one_pos, by simp, by split <;> omega⟩
    · split
      · rename_i hl
        have hp : 0 < run isWord (c :: t) := run_pos _ (by simp [isWord, hl])
        split
        · exact .inl rfl
        · split
          · exact ⟨hp, run_le _ _, by omega, by omega⟩
          · exact ⟨hp, run_le _ _, by omega, by omega⟩
      · split
        · rename_i hd
          have hp : 0 < run isDigit (c :: t) := run_pos _ hd
          split
          · exact .inl rfl
          · split
            · exact .inr rfl
            · exact ⟨hp, run_le _ _, by omega, by omega⟩
        · split
          · split
            · rename_i h2
              refine ⟨by omega, ?_, by omega, by omega⟩
              cases t with
              | nil =>
                exfalso
                simp only [List.take, twos, List.contains_eq_mem, List.mem_cons, List.not_mem_nil, decide_eq_true_eq, List.cons.injEq] at h2
                simp at h2
              | cons d t => simp
            · exact ⟨by omega, by simp, by omega, by omega⟩
          · exact .inl rfl
theorem lex_1 : lexS [120, 32, 61, 32, 97, 60, 60, 50, 59] = .toks [⟨1, [120], 0⟩, ⟨3, [61], 0⟩, ⟨1, [97], 0⟩, ⟨3, [60, 60], 0⟩, ⟨2, [50], 0⟩, ⟨3, [59], 0⟩, ⟨5, [], 0⟩] := by decide +kernel
end Go.Abs.YtjphfiieapclhaaDoor
