/- Texts of this claim, joined: Bk, Bl, Bld, Sa, DsA, DsB, PrA. -/
import Derived.Test.YtkfcbgmamfnajaaGreatDoorM13
import Derived.Test.YtkfcbgmamfnajaaGreatDoorProg
import Derived.WalkKit
import Derived.Lib.Builder
import Derived.Lib.Walk
import Derived.Laws.Externs
import Derived.Shelf.Strings.BuilderX
import Derived.Shelf.RegionOpenPlain
import Derived.Lib.Strings
import Derived.Lib.Slices
import Derived.Lib.AppendStr
import Derived.Lib.UnsafeStr
import Derived.Lib.MakeNoZero
import Derived.Laws.IdiomCopy
import Derived.Laws.BitsLemmas
import Derived.Test.YtkfcbgmamfnajaaGreatDoorM06
import Derived.Test.YtkfcbgmamfnajaaGreatDoorM09
set_option linter.unusedVariables false
set_option linter.unusedSimpArgs false
/- A word's text is read as that word. -/
namespace Go.Abs.YtkfcbgmamfnajaaGreatDoor
open Go.Proofs Go.Lib
set_option maxRecDepth 10000
theorem wordsGo_app : ∀ (x cur rest : List UInt8), (∀ c ∈ x, c ≠ 32) → wordsGo cur (x ++ rest) = wordsGo (cur ++ x) rest
  | [], cur, rest, _ => by rw [List.append_nil]; rfl
  | c :: x, cur, rest, h => by
    have hc := h c (by simp)
    show (if c = 32 then _ else wordsGo (cur ++ [c]) (x ++ rest)) = _
    rw [if_neg hc, wordsGo_app x (cur ++ [c]) rest (fun d hd => h d (by simp [hd])), List.append_assoc]
    rfl
def okWord (x : List UInt8) : Prop := x ≠ [] ∧ ∀ c ∈ x, c ≠ 32
theorem words_tail : ∀ (r : List (List UInt8)) (x : List UInt8), x ≠ [] → (∀ y ∈ r, okWord y) → wordsGo x (joinTail [32] r) = x :: r
  | [], x, hx, _ => by show (if x = [] then [] else [x]) = _; rw [if_neg hx]
  | y :: r, x, hx, h => by
    have e : joinTail [32] (y :: r) = 32 :: (y ++ joinTail [32] r) := by
      have : joinTail [32] (y :: r) = ([32] ++ y) ++ joinTail [32] r := by simp [joinTail]
      rw [this]; simp
    rw [e]
    show (if (32 : UInt8) = 32 then (if x = [] then wordsGo [] (y ++ joinTail [32] r) else x :: wordsGo [] (y ++ joinTail [32] r)) else _) = _
    rw [if_pos rfl, if_neg hx]
    have hy := h y (by simp)
    rw [wordsGo_app y [] _ hy.2, List.nil_append, words_tail r y hy.1 (fun z hz => h z (by simp [hz]))]
theorem words_join (x : List UInt8) (r : List (List UInt8)) (hx : okWord x) (h : ∀ y ∈ r, okWord y) : wordsOf (join (x :: r) [32]) = x :: r := by
  rw [join_cons]
  unfold wordsOf
  rw [wordsGo_app x [] _ hx.2, List.nil_append]
  exact words_tail r x hx.1 h
theorem dg_ne {c : UInt8} (h : isDg c = true) : c ≠ 32 := by rintro rfl; exact absurd h (by decide)
theorem dec_ok (n : Nat) : okWord (decDigits n) := by
  obtain ⟨⟨h1, h2, _⟩, _, _⟩ := dec_canon n
  exact ⟨h1, fun c hc => dg_ne (List.all_eq_true.1 h2 c hc)⟩
theorem itoa_ok (n : Int) : okWord (itoa n) := by
  unfold itoa
  split
  · refine ⟨by simp, fun c hc => ?_⟩
    rcases List.mem_cons.1 hc with rfl | hc
    · decide
    · exact (dec_ok _).2 c hc
  · exact dec_ok _
theorem reg_ok (n : Int) : okWord (99 :: itoa n) := ⟨by simp, fun c hc => by
  rcases List.mem_cons.1 hc with rfl | hc
  · decide
  · exact (itoa_ok n).2 c hc⟩
theorem field_ok (d : DS) (ch : UInt8) : okWord (fieldT d ch) := by
  unfold fieldT
  repeat' split
  all_goals first | exact reg_ok _ | exact itoa_ok _
theorem names_tab : ∀ k, k < 54 → 1 ≤ k → (nameOf k ≠ [] ∧ (∀ c ∈ nameOf k, c ≠ 32) ∧ nameOf k ≠ wordB ∧ opOf (nameOf k) = k) := by decide +kernel
theorem name_tab {op : Int} (h : 1 ≤ op ∧ op ≤ 53) : okWord (nameI op) ∧ nameI op ≠ wordB ∧ (opOf (nameI op) : Int) = op := by
  obtain ⟨k, rfl⟩ : ∃ k : Nat, op = k := ⟨op.toNat, by omega⟩
  have e : nameI (k : Int) = nameOf k := by unfold nameI; rw [if_neg (by omega), Int.toNat_natCast]
  rw [e]
  obtain ⟨h1, h2, h3, h4⟩ := names_tab k (by omega) (by omega)
  exact ⟨⟨h1, h2⟩, h3, by rw [h4]⟩
theorem reg_itoa {a : Int} (h : 0 ≤ a ∧ a ≤ 15) : regR (99 :: itoa a) = (a.toNat, true) := by
  obtain ⟨k, rfl⟩ : ∃ k : Nat, a = k := ⟨a.toNat, by omega⟩
  obtain ⟨c, t, hd, _⟩ := dec_head k
  unfold regR
  rw [if_neg]
  · rw [List.tail_cons, itoa_nat]
    exact (valueR_iff _ 16 k (by decide)).2 ⟨rfl, by omega⟩
  · rintro (h1 | h1)
    · rw [itoa_nat, hd] at h1; simp only [List.length_cons] at h1; omega
    · exact h1 rfl
theorem st_a (op : Int) (d d' : DS) (lab : List UInt8) (h : 0 ≤ d.a ∧ d.a ≤ 15) : stR op 97 (fieldT d 97) (d', lab) = some ({ d' with a := d.a }, lab) := by
  show (if (regR (99 :: itoa d.a)).2 = true then some ({ d' with a := ((regR (99 :: itoa d.a)).1 : Int) }, lab) else none) = _
  rw [reg_itoa h, if_pos rfl, show ((d.a.toNat : Nat) : Int) = d.a by omega]
theorem st_b (op : Int) (d d' : DS) (lab : List UInt8) (h : 0 ≤ d.b ∧ d.b ≤ 15) : stR op 98 (fieldT d 98) (d', lab) = some ({ d' with b := d.b }, lab) := by
  show (if (regR (99 :: itoa d.b)).2 = true then some ({ d' with b := ((regR (99 :: itoa d.b)).1 : Int) }, lab) else none) = _
  rw [reg_itoa h, if_pos rfl, show ((d.b.toNat : Nat) : Int) = d.b by omega]
theorem st_c (op : Int) (d d' : DS) (lab : List UInt8) (h : 0 ≤ d.c ∧ d.c ≤ 15) : stR op 99 (fieldT d 99) (d', lab) = some ({ d' with c := d.c }, lab) := by
  show (if (regR (99 :: itoa d.c)).2 = true then some ({ d' with c := ((regR (99 :: itoa d.c)).1 : Int) }, lab) else none) = _
  rw [reg_itoa h, if_pos rfl, show ((d.c.toNat : Nat) : Int) = d.c by omega]
theorem st_i (op : Int) (ch : UInt8) (hch : ch = 105 ∨ ch = 106) (d d' : DS) (lab : List UInt8) (h : -524288 ≤ d.i ∧ d.i ≤ 524287) : stR op ch (fieldT d ch) (d', lab) = some ({ d' with i := d.i }, lab) := by
  have e : fieldT d ch = itoa d.i := by rcases hch with rfl | rfl <;> rfl
  have hs : stR op ch (itoa d.i) (d', lab) = if (numberR (itoa d.i)).2 = true then some ({ d' with i := (numberR (itoa d.i)).1 }, lab) else if jumpB op && nameL (itoa d.i) then some ({ d' with i := (numberR (itoa d.i)).1 }, itoa d.i) else none := by
    rcases hch with rfl | rfl <;> rfl
  rw [e, hs, num_itoa (by omega) (by omega), if_pos rfl]
theorem fold_back (op : Int) (d : DS) (hm : mayF (formI op) d.a d.b d.c d.i = true) : foldR op (formI op) ((formI op).map (fieldT d)) (d0, []) = some (d, []) := by
  obtain ⟨a, b, c, i⟩ := d
  have one : ∀ ch l s ws x, foldR op (ch :: l) (s :: ws) x = match stR op ch s x with | some x' => foldR op l ws x' | none => none := fun _ _ _ _ _ => rfl
  rcases formI_cases op with hf | hf | hf | hf | hf | hf | hf
  all_goals rw [hf] at hm ⊢
  · have h := (may_ a b c i).1 hm
    obtain ⟨rfl, rfl, rfl, rfl⟩ := h; rfl
  · have h := (may_i a b c i).1 hm
    obtain ⟨rfl, rfl, rfl, h4, h5⟩ := h
    simp only [List.map_cons, List.map_nil, one, st_i op 105 (.inl rfl) ⟨0, 0, 0, i⟩ d0 [] ⟨by show _ ≤ i; omega, by show i ≤ _; omega⟩]; rfl
  · have h := (may_ab a b c i).1 hm
    obtain ⟨h1, h2, rfl, rfl⟩ := h
    simp only [List.map_cons, List.map_nil, one, st_a op ⟨a, b, 0, 0⟩ _ [] h1, st_b op ⟨a, b, 0, 0⟩ _ [] h2]; rfl
  · have h := (may_ai a b c i).1 hm
    obtain ⟨h1, rfl, rfl, h4, h5⟩ := h
    simp only [List.map_cons, List.map_nil, one, st_a op ⟨a, 0, 0, i⟩ _ [] h1, st_i op 105 (.inl rfl) ⟨a, 0, 0, i⟩ _ [] ⟨by show _ ≤ i; omega, by show i ≤ _; omega⟩]; rfl
  · have h := (may_aj a b c i).1 hm
    obtain ⟨h1, rfl, rfl, h4, h5⟩ := h
    simp only [List.map_cons, List.map_nil, one, st_a op ⟨a, 0, 0, i⟩ _ [] h1, st_i op 106 (.inr rfl) ⟨a, 0, 0, i⟩ _ [] ⟨by show _ ≤ i; omega, by show i ≤ _; omega⟩]; rfl
  · have h := (may_abc a b c i).1 hm
    obtain ⟨h1, h2, h3, rfl⟩ := h
    simp only [List.map_cons, List.map_nil, one, st_a op ⟨a, b, c, 0⟩ _ [] h1, st_b op ⟨a, b, c, 0⟩ _ [] h2, st_c op ⟨a, b, c, 0⟩ _ [] h3]; rfl
  · have h := (may_abi a b c i).1 hm
    obtain ⟨h1, h2, rfl, h4, h5⟩ := h
    simp only [List.map_cons, List.map_nil, one, st_a op ⟨a, b, 0, i⟩ _ [] h1, st_b op ⟨a, b, 0, i⟩ _ [] h2, st_i op 105 (.inl rfl) ⟨a, b, 0, i⟩ _ [] ⟨by show _ ≤ i; omega, by show i ≤ _; omega⟩]; rfl
/-- The words of a word's text. -/
def printW (w : Int) : List (List UInt8) := if (decP w).1 = 0 then [wordB, decDigits w.toNat] else nameI (decP w).1 :: (formI (decP w).1).map (fieldT (decP w).2)
theorem print_join (w : Int) : printP w = join (printW w) [32] := by unfold printP printW; split <;> rfl
theorem read_print {w : Int} (h0 : 0 ≤ w) (h1 : w < 4294967296) : wordsOf (printP w) = printW w ∧ (readR (printW w)).is = true ∧ (readR (printW w)).lab = [] ∧ (readR (printW w)).w = w := by
  rw [print_join]
  by_cases ho : (decP w).1 = 0
  · have e : printW w = [wordB, decDigits w.toNat] := if_pos ho
    rw [e]
    refine ⟨words_join _ _ ⟨by decide, by decide⟩ (fun y hy => by rw [List.mem_singleton] at hy; subst hy; exact dec_ok _), ?_⟩
    have hv := (valueR_iff (decDigits w.toNat) 4294967296 w.toNat (by decide)).2 ⟨rfl, by omega⟩
    have hR : readR [wordB, decDigits w.toNat] = ⟨0, d0, IntKind.u32.wrap (valueR (decDigits w.toNat) 4294967296).1, [], (valueR (decDigits w.toNat) 4294967296).2⟩ := by
      have hA : ∀ x, readR (wordB :: x) = match x with
        | [s] => ⟨0, d0, IntKind.u32.wrap (valueR s 4294967296).1, [], (valueR s 4294967296).2⟩
        | _ => noRT := fun x => rfl
      exact hA _
    rw [hR, hv]
    refine ⟨rfl, rfl, ?_⟩
    show IntKind.u32.wrap ((w.toNat : Nat) : Int) = w
    rw [wrap_u32 (by omega) (by omega)]; omega
  · have hE := enc_dec h0 h1 ho
    have e : printW w = nameI (decP w).1 :: (formI (decP w).1).map (fieldT (decP w).2) := if_neg ho
    rw [e]
    generalize decP w = x at hE
    obtain ⟨op, d⟩ := x
    simp only at hE ⊢
    rw [enc_eq] at hE
    obtain ⟨_, hop, _, _, _⟩ := enc_uniq hE
    have hmr : mayF (formI op) d.a d.b d.c d.i = true := by
      cases hq : mayF (formI op) d.a d.b d.c d.i with
      | true => rfl
      | false => rw [encR_no (by rw [mayR_in hop, hq])] at hE; cases hE
    obtain ⟨n1, n2, n3⟩ := name_tab hop
    refine ⟨words_join _ _ n1 (fun y hy => by obtain ⟨ch, _, rfl⟩ := List.mem_map.1 hy; exact field_ok d ch), ?_⟩
    have hR : readR (nameI op :: (formI op).map (fieldT d)) = if opOf (nameI op) = 0 ∨ ((formI op).map (fieldT d)).length ≠ (formI (opOf (nameI op))).length then noRT
      else match foldR (opOf (nameI op)) (formI (opOf (nameI op))) ((formI op).map (fieldT d)) (d0, []) with
      | some (d, lab) => ⟨opOf (nameI op), d, (encR (opOf (nameI op)) d.a d.b d.c d.i).1, lab, decide ((encR (opOf (nameI op)) d.a d.b d.c d.i).2 = 0)⟩
      | none => noRT := if_neg n2
    rw [hR, n3, if_neg (by rintro (h | h); omega; exact h (by rw [List.length_map])), fold_back op d hmr]
    simp only [hE]
    exact ⟨rfl, trivial, trivial⟩
theorem line_print {w : Int} (h0 : 0 ≤ w) (h1 : w < 4294967296) : lineP (printP w) = (w, 0) := by
  obtain ⟨e1, e2, e3, e4⟩ := read_print h0 h1
  have hT := (read_rel (printW w)).2 e2
  have hne : printW w ≠ [] := by unfold printW; split <;> simp
  unfold lineP
  rw [e1, if_neg hne, hT, e4]
  exact if_pos ⟨e2, e3, rfl⟩
end Go.Abs.YtkfcbgmamfnajaaGreatDoor
/- Texts of many words are assembled to these words. -/
namespace Go.Abs.YtkfcbgmamfnajaaGreatDoor
open Go.Proofs Go.Lib
set_option maxRecDepth 10000
/-- A letter that neither ends a line nor begins a remark. -/
def plainC (c : UInt8) : Bool := c != 10 && c != 59
theorem plain_dg {c : UInt8} (h : isDg c = true) : plainC c = true := by
  have := u8_all (P := fun c => !isDg c || plainC c) (by decide +kernel) c
  simpa [h] using this
theorem dec_plain (n : Nat) : (decDigits n).all plainC = true := by
  obtain ⟨⟨_, h2, _⟩, _, _⟩ := dec_canon n
  exact List.all_eq_true.2 fun c hc => plain_dg (List.all_eq_true.1 h2 c hc)
theorem itoa_plain (n : Int) : (itoa n).all plainC = true := by
  unfold itoa
  split
  · rw [List.all_cons, dec_plain]; rfl
  · exact dec_plain _
theorem field_plain (d : DS) (ch : UInt8) : (fieldT d ch).all plainC = true := by
  unfold fieldT
  repeat' split
  all_goals first | exact itoa_plain _ | (rw [List.all_cons, itoa_plain]; rfl)
theorem names_plain : ∀ k, k < 54 → ((nameOf k).all plainC = true ∧ hasSuffix (nameOf k) [58] = false) := by decide +kernel
theorem name_plain (op : Int) : (nameI op).all plainC = true ∧ hasSuffix (nameI op) [58] = false := by
  unfold nameI
  split
  · decide
  · rcases Nat.lt_or_ge op.toNat 54 with h | h
    · exact names_plain _ h
    · rw [(name_beyond h).1]; decide
theorem join_plain : ∀ (r : List (List UInt8)), (∀ y ∈ r, y.all plainC = true) → (joinTail [32] r).all plainC = true
  | [], _ => rfl
  | y :: r, h => by
    have : joinTail [32] (y :: r) = ([32] ++ y) ++ joinTail [32] r := by simp [joinTail]
    rw [this, List.all_append, List.all_append, h y (by simp), join_plain r (fun z hz => h z (by simp [hz]))]; rfl
theorem print_plain (w : Int) : (printP w).all plainC = true := by
  rw [print_join]
  unfold printW
  split
  · rw [join_cons, List.all_append, join_plain _ (fun y hy => by rw [List.mem_singleton] at hy; subst hy; exact dec_plain _)]; rfl
  · rw [join_cons, List.all_append, (name_plain _).1, join_plain _ (fun y hy => by obtain ⟨ch, _, rfl⟩ := List.mem_map.1 hy; exact field_plain _ ch)]; rfl
theorem print_len (w : Int) (h0 : 0 ≤ w) (h1 : w < 4294967296) : (printP w).length ≤ 200 := by
  rw [print_join]
  have hI := dec_inI w
  unfold printW
  split
  · have h2 := join_len [32] [wordB, decDigits w.toNat]
    have h3 := dec_len (n := w.toNat) (by omega)
    have h4 : wordB.length = 4 := rfl
    simp only [sumLen, List.length_cons, List.length_nil] at h2
    omega
  · have h2 := join_len [32] (nameI (decP w).1 :: (formI (decP w).1).map (fieldT (decP w).2))
    have h3 := name_len (decP w).1
    have h4 := form_len (decP w).1
    have h5 : ∀ l : List UInt8, sumLen (l.map (fieldT (decP w).2)) ≤ l.length * 30 := by
      intro l
      induction l with
      | nil => exact Nat.zero_le _
      | cons ch l ih => have := field_len hI ch; simp only [List.map_cons, sumLen, List.length_cons]; omega
    have h6 := h5 (formI (decP w).1)
    simp only [sumLen, List.length_cons, List.length_map, List.length_nil] at h2
    omega
def disP (ws : List Int) : List UInt8 := ws.flatMap fun w => printP w ++ [10]
theorem all_not {l : List UInt8} (h : l.all plainC = true) : l.contains 10 = false ∧ l.takeWhile (· ≠ 59) = l := by
  induction l with
  | nil => exact ⟨rfl, rfl⟩
  | cons c l ih =>
    rw [List.all_cons, Bool.and_eq_true] at h
    obtain ⟨i1, i2⟩ := ih h.2
    have hc := h.1
    unfold plainC at hc
    simp only [Bool.and_eq_true, bne_iff_ne] at hc
    refine ⟨?_, ?_⟩
    · rw [List.contains_cons, i1]; simpa using fun e => hc.1 e.symm
    · rw [List.takeWhile_cons, if_pos (by simpa using hc.2), i2]
theorem lines_dis : ∀ ws : List Int, linesOf (disP ws) = ws.map printP ++ [[]]
  | [] => rfl
  | w :: ws => by
    have e : disP (w :: ws) = printP w ++ 10 :: disP ws := by unfold disP; rw [List.flatMap_cons]; simp
    rw [e]
    unfold linesOf
    rw [linesGo_app _ [] _ (all_not (print_plain w)).1]
    have := lines_dis ws
    unfold linesOf at this
    rw [this]; rfl
theorem print_nolab (w : Int) : isLab (printW w) = false := by
  unfold printW
  split
  · rfl
  · cases h : (formI (decP w).1).map (fieldT (decP w).2) with
    | nil => show (hasSuffix (nameI (decP w).1) [58] && _) = false; rw [(name_plain _).2]; rfl
    | cons _ _ => rfl
theorem step_print {w : Int} (h0 : 0 ≤ w) (h1 : w < 4294967296) (k : Nat) (s : AS) (hs : s.I.length < 4096) : ∃ x : RT, x.lab = [] ∧ x.w = w ∧ stepR (printP w) k s = .st ⟨s.L, s.I ++ [(x, k)]⟩ := by
  obtain ⟨e1, e2, e3, e4⟩ := read_print h0 h1
  refine ⟨readR (printW w), e3, e4, ?_⟩
  have hne : printW w ≠ [] := by unfold printW; split <;> simp
  unfold stepR
  rw [(all_not (print_plain w)).2, e1, if_neg hne]
  unfold takeR
  rw [print_nolab, if_neg (by decide), if_neg (by rw [e2]; decide), if_neg (by omega)]
theorem asm_prints : ∀ (ws : List Int) (k : Nat) (s : AS), (∀ w ∈ ws, 0 ≤ w ∧ w < 4294967296) → s.I.length + ws.length ≤ 4096 → ∃ xs : List (RT × Nat), (∀ p ∈ xs, p.1.lab = []) ∧ xs.map (·.1.w) = ws ∧ asmLR (ws.map printP ++ [[]]) k s = .st ⟨s.L, s.I ++ xs⟩
  | [], k, s, _, _ => ⟨[], by simp, rfl, by rw [List.append_nil]; rfl⟩
  | w :: ws, k, s, hw, hl => by
    simp only [List.length_cons] at hl
    obtain ⟨x, h1, h2, h3⟩ := step_print (hw w (by simp)).1 (hw w (by simp)).2 k s (by omega)
    obtain ⟨xs, q1, q2, q3⟩ := asm_prints ws (k + 1) ⟨s.L, s.I ++ [(x, k)]⟩ (fun v hv => hw v (by simp [hv])) (by show (s.I ++ [(x, k)]).length + _ ≤ _; rw [List.length_append]; simp only [List.length_cons, List.length_nil]; omega)
    refine ⟨(x, k) :: xs, fun p hp => ?_, by rw [List.map_cons, q2, h2], ?_⟩
    · rcases List.mem_cons.1 hp with rfl | hp
      · exact h1
      · exact q1 p hp
    · show (match stepR (printP w) k s with | .st s' => asmLR (ws.map printP ++ [[]]) (k + 1) s' | .bad c => .bad c k) = _
      rw [h3]
      show asmLR (ws.map printP ++ [[]]) (k + 1) ⟨s.L, s.I ++ [(x, k)]⟩ = _
      rw [q3, List.append_assoc]; rfl
theorem res_prints (L : List (List UInt8 × Nat)) : ∀ (xs : List (RT × Nat)) (k : Nat) (acc : List Int), (∀ p ∈ xs, p.1.lab = []) → resR L xs k acc = .ok (acc ++ xs.map (·.1.w))
  | [], k, acc, _ => by rw [List.map_nil, List.append_nil]; rfl
  | p :: xs, k, acc, h => by
    have e : wordR L p.1 k = .ok p.1.w := by unfold wordR; rw [if_pos (h p (by simp))]
    show (match wordR L p.1 k with | .ok w => resR L xs (k + 1) (acc ++ [w]) | .bad c => .bad c p.2) = _
    rw [e]
    show resR L xs (k + 1) (acc ++ [p.1.w]) = _
    rw [res_prints L xs (k + 1) _ (fun q hq => h q (by simp [hq])), List.append_assoc]; rfl
theorem dis_len : ∀ ws : List Int, (∀ w ∈ ws, 0 ≤ w ∧ w < 4294967296) → (disP ws).length ≤ ws.length * 201
  | [], _ => Nat.zero_le _
  | w :: ws, h => by
    have e : disP (w :: ws) = printP w ++ 10 :: disP ws := by unfold disP; rw [List.flatMap_cons]; simp
    have h1 := print_len w (h w (by simp)).1 (h w (by simp)).2
    have h2 := dis_len ws (fun v hv => h v (by simp [hv]))
    rw [e, List.length_append, List.length_cons, List.length_cons]; omega
/-- What is printed is assembled to the same words. -/
theorem asm_dis (ws : List Int) (hw : ∀ w ∈ ws, 0 ≤ w ∧ w < 4294967296) (hl : ws.length ≤ 100) : asmP (disP ws) = .ok ws := by
  have hd := dis_len ws hw
  rw [asm_eq]
  unfold asmR
  rw [if_neg (by omega), lines_dis]
  obtain ⟨xs, q1, q2, q3⟩ := asm_prints ws 0 ⟨[], []⟩ hw (by simp; omega)
  rw [q3]
  show resR [] ([] ++ xs) 0 [] = _
  rw [List.nil_append, res_prints [] xs 0 [] q1, List.nil_append, q2]
end Go.Abs.YtkfcbgmamfnajaaGreatDoor
/- (*strings.Builder).copyCheck, after the kit's shelf (Derived/Shelf/Strings/Builder1), its numbers turned to this translation. -/
set_option maxRecDepth 100000
namespace Go.Abs.YtkfcbgmamfnajaaGreatDoor
open Go.Proofs Go.RowKit Go.Extern

theorem uB : Tryz.prog.underlying 70 = some (.pointer 72) := by kernel_rfl
theorem uU : Tryz.prog.underlying 126 = some .unsafePointer := by kernel_rfl
theorem iB0 : (Tryz.prog.info? 72).map (·.size) = some 2 := by kernel_rfl
theorem iB : ∃ j, Tryz.prog.info? 72 = some j ∧ j.size = 2 := by
  obtain ⟨j, h1, h2⟩ := Option.map_eq_some_iff.1 iB0
  exact ⟨j, h1, h2⟩
theorem liesN (n : Nat) : liesAt Tryz.prog Tryz.prog.depth 72 (n + 1) 0 72 1 = true := by kernel_rfl
theorem liesB {m : Nat} (hm : 2 ≤ m) : liesAt Tryz.prog Tryz.prog.depth 72 (m / Tryz.prog.cellsOf 72) 0 72 1 = true := by
  have h2 : Tryz.prog.cellsOf 72 = 2 := by kernel_rfl
  rw [h2]
  obtain ⟨n, hn⟩ : ∃ n, m / 2 = n + 1 := ⟨m / 2 - 1, by omega⟩
  rw [hn]; exact liesN n

theorem copyCheck_used (b : Nat) (w : World) (h0 : w.cell? ⟨b, 0, none⟩ = some (.pointer (some ⟨b, 0, none⟩))) :
    Calls Tryz.prog 80 #[.pointer (some ⟨b, 0, none⟩)] w fun e w' => e = .returned (.tuple #[]) ∧ w' = w := by
  obtain ⟨j, hj, _⟩ := iB
  go_enter Tryz.func80, Tryz.ntmps80
  go_wp2
  rw [Lib.run_neq_ptr_same w _ uB hj]
  go_wp2
  go_end0
  exact ⟨rfl, rfl⟩

theorem copyCheck_fresh (b m : Nat) (hm : 2 ≤ m) (w : World) (h0 : w.cell? ⟨b, 0, none⟩ = some (.pointer none)) (hsh : w.shape? b = some (72, m)) (hfz : w.frozen? ⟨b, 0, none⟩ = false) :
    Calls Tryz.prog 80 #[.pointer (some ⟨b, 0, none⟩)] w fun e w' => e = .returned (.tuple #[]) ∧ w' = w.setCell ⟨b, 0, none⟩ (.pointer (some ⟨b, 0, none⟩)) := by
  obtain ⟨j, hj, hjs⟩ := iB
  go_enter Tryz.func80, Tryz.ntmps80
  go_wp2
  rw [Lib.run_to_unsafe w ⟨b, 0, none⟩ uB uU hj (by rw [hjs]; decide) hsh (show 0 < m by omega)]
  simp only [Result.andThen]
  rw [Oper.upon_value]
  go_wp2
  rw [run_callFunc_extern Tryz.func107 (by kernel_rfl) (by kernel_rfl) (by kernel_rfl) (e := Extern.AbiNoEscape.same) (by kernel_rfl)]
  rw [Lib.run_noEscape]
  simp only [Result.andThen]
  rw [Oper.upon_value]
  go_wp2
  rw [Lib.run_from_unsafe w ⟨b, 0, none⟩ uU uB hj hsh (liesB hm)]
  simp only [Result.andThen]
  rw [Oper.upon_value]
  go_wp2
  go_end0
  exact ⟨rfl, rfl⟩
/-- In a row of bytes, n of them lie side by side from any place on. -/
theorem liesAt_off {P : Program} {e : TypeId} (hc : P.cellsOf e = 1) (count off n : Nat) (hn : off + n ≤ count) : liesAt P P.depth e count off e n = true := by
  have hd : P.depth = (2 * (P.types.size + Made.depth) + 1) + 1 := rfl
  rw [hd]
  simp only [liesAt, Bool.or_eq_true]
  left
  rw [hd]
  simp [rowAt, hc, hn, sameLayout, Nat.mod_one]
/-- unsafe.String at any place of a row of bytes. -/
theorem run_unsafeString_off {P : Program} (w : World) (pt it ty e : TypeId) (hp : P.underlying pt = some (.pointer e)) (hc : P.cellsOf e = 1) (g off cells : Nat) (hsh : w.shape? g = some (e, cells)) (l : List UInt8) (h0 : l ≠ []) (hn : off + l.length ≤ cells) (h63 : l.length ≤ 9223372036854775807)
    (hcell : ∀ j x, l[j]? = some x → w.cell? ((⟨g, off, none⟩ : Addr).add j) = some (.int .u8 x.toNat)) :
    (Builtin.unsafeString_ #[pt, it] ty #[.pointer (some ⟨g, off, none⟩), .int .i64 l.length]).run P w = .ok (.string ⟨l.toArray⟩) (w.freeze ⟨g, off, none⟩ l.length) := by
  have hl : l.length ≠ 0 := by simpa using h0
  have hlb := Lib.run_loadBytes (P := P) w l ⟨g, off, none⟩ .empty hcell
  have hlies := liesAt_off (P := P) hc (cells / P.cellsOf e) off l.length (by rw [hc]; simpa using hn)
  have h63' : ¬ (9223372036854775807 : Int) < (l.length : Int) := by omega
  obtain ⟨s1, s2, s3, hdef⟩ : ∃ s1 s2 s3 : String, Builtin.unsafeString_ #[pt, it] ty #[.pointer (some ⟨g, off, none⟩), .int .i64 l.length] =
      (do
        let n ← asInt (.int .i64 l.length)
        if n < 0 then runtimePanic (.error s1)
        if n > IntKind.i64.max then unsupported (.unsafePointer s2)
        if n = 0 then pure (.string .empty)
        else if ← variablesAt ⟨g, off, none⟩ (← elemOf pt) n.toNat then do
          let s ← loadBytes ⟨g, off, none⟩ .empty n.toNat
          freeze ⟨g, off, none⟩ n.toNat
          pure (.string s)
        else unsupported (.unsafePointer s3)) := ⟨_, _, _, rfl⟩
  have hmax : IntKind.i64.max = 9223372036854775807 := rfl
  have hneg : ¬ (l.length : Int) < 0 := by omega
  rw [hdef]
  simp [asInt, asIntOf, hmax, h63', hneg, hl, variablesAt, hsh, elemOf, run_underlying hp, hlies, hlb]
set_option maxHeartbeats 2000000 in
theorem string_row (b g off cap m : Nat) (l : List UInt8) (w : World) (h1 : w.cell? ⟨b, 1, none⟩ = some (.slice (some ⟨g, off, none⟩) l.length cap)) (h0 : l ≠ []) (hsh : w.shape? g = some (5, m)) (hlm : off + l.length ≤ m) (hc : l.length ≤ cap) (h63 : l.length ≤ 9223372036854775807)
    (hcells : ∀ j x, l[j]? = some x → w.cell? ⟨g, off + j, none⟩ = some (.int .u8 (x.toNat : Int))) :
    Calls Tryz.prog 41 #[.pointer (some ⟨b, 0, none⟩)] w fun e w' => e = .returned (.string ⟨l.toArray⟩) ∧ w' = w.drew.freeze ⟨g, off, none⟩ l.length := by
  have hl0 : l.length ≠ 0 := by simpa using h0
  have c1 : w.drew.cell? ⟨b, 1, none⟩ = some (.slice (some ⟨g, off, none⟩) l.length cap) := h1
  have hSD : (Builtin.unsafeSliceData_ #[38] 116 #[.slice (some ⟨g, off, none⟩) l.length cap]).run Tryz.prog w.drew = .ok (.pointer (some ⟨g, off, none⟩)) w.drew :=
    Lib.run_unsafeSliceData_row _ _ _ _ _ _ (by omega)
  have hUS : (Builtin.unsafeString_ #[116, 3] 9 #[.pointer (some ⟨g, off, none⟩), .int .i64 l.length]).run Tryz.prog w.drew = .ok (.string ⟨l.toArray⟩) (w.drew.freeze ⟨g, off, none⟩ l.length) := by
    refine run_unsafeString_off w.drew 116 3 9 5 Tryz.underlying116 (by kernel_rfl) g off m hsh l h0 hlm h63 ?_
    intro j x hx
    have := hcells j x hx
    have e : ((⟨g, off, none⟩ : Addr).add j) = ⟨g, off + j, none⟩ := by
      unfold Addr.add
      by_cases h : j = 0
      · subst h; simp
      · simp [h]
    rw [e]; exact this
  have mixed : Tryz.prog.follows Departure.mixedOrders = true := by kernel_rfl
  go_enter Tryz.func41, Tryz.ntmps41
  go_wp2
  go_region_o
  all_goals (go_wp2; go_ret; exact ⟨rfl, rfl⟩)
set_option maxHeartbeats 2000000 in
theorem string_nil (b : Nat) (w : World) (h1 : w.cell? ⟨b, 1, none⟩ = some (.slice none 0 0)) :
    Calls Tryz.prog 41 #[.pointer (some ⟨b, 0, none⟩)] w fun e w' => e = .returned (.string .empty) ∧ w' = w.drew := by
  have c1 : w.drew.cell? ⟨b, 1, none⟩ = some (.slice none 0 0) := h1
  have hSD : (Builtin.unsafeSliceData_ #[38] 116 #[.slice none 0 0]).run Tryz.prog w.drew = .ok (.pointer none) w.drew :=
    Lib.run_unsafeSliceData_nil _ _ _ _ _
  have hUS : (Builtin.unsafeString_ #[116, 3] 9 #[.pointer none, .int .i64 0]).run Tryz.prog w.drew = .ok (.string .empty) w.drew :=
    Lib.run_unsafeString_none _ _ _ _ _
  have mixed : Tryz.prog.follows Departure.mixedOrders = true := by kernel_rfl
  go_enter Tryz.func41, Tryz.ntmps41
  go_wp2
  go_region_o
  all_goals (go_wp2; go_ret; exact ⟨rfl, rfl⟩)
end Go.Abs.YtkfcbgmamfnajaaGreatDoor
/- The builder's parts that are known by contract: copyCheck, String. -/
namespace Go.Abs.YtkfcbgmamfnajaaGreatDoor
open Go.Proofs
set_option maxRecDepth 4000
def byteC (l : List UInt8) : List AV := l.map fun x => .i .u8 x.toNat
theorem bytesOf_byteC : ∀ l : List UInt8, bytesOf (byteC l) = some l
  | [] => rfl
  | x :: l => by
    show (bytesOf (byteC l)).map (UInt8.ofNat ((x.toNat : Int)).toNat :: ·) = _
    rw [bytesOf_byteC l]; simp
def pCC : List AV → St → Option (AV × St)
  | [.p o 0 0], σ => (match (σ[o]? : Option AO) with
    | some ⟨0, false, .cells 72 [.p0, y]⟩ => some (.tu [], σ.set o ⟨0, false, .cells 72 [.p o 0 0, y]⟩)
    | some ⟨0, false, .cells 72 [.p o2 0 0, _]⟩ => if o2 = o then some (.tu [], σ) else none
    | _ => none)
  | _, _ => none
theorem shape_of {w : World} {b e : Nat} {ccs : Array Value} {fr : Nat × Nat} (h : w.heap[b]? = some (.cells ccs e fr)) : w.shape? b = some (e, ccs.size) := by unfold World.shape?; rw [h]
theorem pCC_ok (args : List AV) (σ : St) (r : AV) (σ' : St) (h : pCC args σ = some (r, σ')) (μ : Mu) (w : World) (cargs : Array Value) (hs : Sim 11 μ σ w) (hr : VRels μ w args cargs.toList) : Does Tryz.prog 80 cargs w (After 11 μ σ w r σ') := by
  have hen := enters_mk Tryz.func80 (by kernel_rfl) (by kernel_rfl)
  unfold pCC at h
  split at h
  · rename_i o
    obtain ⟨v, rfl, b, δ, hb, rfl⟩ := vrels_one hr
    obtain rfl := hs.low _ _ _ hb
    split at h
    · rename_i y ho
      cases h
      obtain ⟨ccs, fr, q1, q2, q3, q4⟩ := hs.cells ho hb
      have q2' : 0 + 2 ≤ ccs.size := q2
      obtain ⟨v0, r1, r2⟩ := q3 0 .p0 rfl
      simp only [VRel] at r2
      subst r2
      have hcell : w.cell? ⟨b, 0, none⟩ = some (.pointer none) := by rw [cell_of_heap q1]; simpa using r1
      have hfz : w.frozen? ⟨b, 0, none⟩ = false := by
        have := q4 rfl 0 (by omega)
        simp only [World.frozen?, q1]
        simpa using this
      refine Does.of_calls hen ((copyCheck_fresh b ccs.size (by omega) w hcell (shape_of q1) hfz).mono fun e w' he => ?_)
      obtain ⟨rfl, rfl⟩ := he
      obtain ⟨w2, k1, k2⟩ := Step.store (P := Tryz.prog) hs ho hb (ys := [.p o 0 0]) (vs := [.pointer (some ⟨b, 0, none⟩)]) (off := 0) ⟨_, _, rfl, ⟨b, 0, hb, rfl⟩, rfl⟩ (by simp [Value.oneCell']) (by simp)
      have hw2 : w2 = w.setCell ⟨b, 0, none⟩ (.pointer (some ⟨b, 0, none⟩)) := by
        have hrun : (storeCells ⟨b, 0, none⟩ [.pointer (some ⟨b, 0, none⟩)]).run Tryz.prog w = .ok () (w.setCell ⟨b, 0, none⟩ (.pointer (some ⟨b, 0, none⟩))) := by
          simp only [storeCells, Addr.add]
          simp
          rw [run_store Tryz.prog w ⟨b, 0, none⟩ _ _ (by rfl)]
          simp [hcell, hfz]
        rw [hrun] at k1
        cases k1; rfl
      subst hw2
      exact ⟨_, μ, rfl, ⟨#[], rfl, rfl⟩, k2⟩
    · rename_i o2 y ho
      split at h
      · rename_i heq
        subst heq
        cases h
        obtain ⟨ccs, fr, q1, q2, q3, q4⟩ := hs.cells ho hb
        obtain ⟨v0, r1, r2⟩ := q3 0 (.p o2 0 0) rfl
        obtain ⟨b', δ', hb', rfl⟩ := r2
        rw [hb] at hb'; cases hb'
        have hcell : w.cell? ⟨b, 0, none⟩ = some (.pointer (some ⟨b, 0, none⟩)) := by rw [cell_of_heap q1]; simpa using r1
        refine Does.of_calls hen ((copyCheck_used b w hcell).mono fun e w' he => ?_)
        obtain ⟨rfl, rfl⟩ := he
        exact ⟨_, μ, rfl, ⟨#[], rfl, rfl⟩, Step.refl hs⟩
      · cases h
    · cases h
  · cases h
def pStr : List AV → St → Option (AV × St)
  | [.p o 0 0], σ => (match (σ[o]? : Option AO) with
    | some ⟨0, false, .cells 72 [_, .sl0]⟩ => some (.s [], σ)
    | some ⟨0, false, .cells 72 [_, .sl o2 g2 0 n 1]⟩ => (match (σ[o2]? : Option AO) with
      | some ⟨g3, false, .cells 5 cs⟩ => if g3 = g2 ∧ n ≤ cs.length ∧ 0 < n ∧ n ≤ 4294967296 then (match bytesOf (cs.take n) with
        | some l => if AV.eqvs (cs.take n) (byteC l) = true then some (.s l, σ.set o2 ⟨g2, false, .dead⟩) else none
        | none => none) else none
      | _ => none)
    | _ => none)
  | _, _ => none
theorem shape_freeze (w : World) (a : Addr) (n b e m : Nat) (h : w.shape? b = some (e, m)) : (w.freeze a n).shape? b = some (e, m) := by
  unfold World.freeze
  split
  · exact h
  · unfold World.shape? at h ⊢
    simp only [Array.getElem?_modify]
    by_cases hab : a.block = b
    · rw [if_pos hab]
      cases hb : w.heap[b]? with
      | none => rw [hb] at h; cases h
      | some x =>
        rw [hb] at h
        cases x with
        | cells c el fr => obtain ⟨lo, hi⟩ := fr; simp only [Option.some.injEq, Prod.mk.injEq] at h; simp only [Option.map_eq_map, Option.map_some, Option.some.injEq, Prod.mk.injEq]; exact h
        | _ => cases h
    · rw [if_neg hab]; exact h
theorem pStr_ok (args : List AV) (σ : St) (r : AV) (σ' : St) (h : pStr args σ = some (r, σ')) (μ : Mu) (w : World) (cargs : Array Value) (hs : Sim 11 μ σ w) (hr : VRels μ w args cargs.toList) : Does Tryz.prog 41 cargs w (After 11 μ σ w r σ') := by
  have hen := enters_mk Tryz.func41 (by kernel_rfl) (by kernel_rfl)
  unfold pStr at h
  split at h
  · rename_i o
    obtain ⟨v, rfl, b, δ, hb, rfl⟩ := vrels_one hr
    obtain rfl := hs.low _ _ _ hb
    split at h
    · rename_i y ho
      cases h
      obtain ⟨ccs, fr, q1, q2, q3, q4⟩ := hs.cells ho hb
      obtain ⟨v0, r1, r2⟩ := q3 1 .sl0 rfl
      simp only [VRel] at r2
      subst r2
      have hcell : w.cell? ⟨b, 1, none⟩ = some (.slice none 0 0) := by rw [cell_of_heap q1]; simpa using r1
      refine Does.of_calls hen ((string_nil b w hcell).mono fun e w' he => ?_)
      obtain ⟨rfl, rfl⟩ := he
      exact ⟨_, μ, rfl, rfl, Step.drew hs⟩
    · rename_i y o2 g2 n ho
      split at h
      · rename_i g3 cs ho2
        split at h
        · rename_i hc
          obtain ⟨rfl, hn, h0, h32⟩ := hc
          split at h
          · rename_i l hl
            split at h
            · rename_i heq
              cases h
              have heq := AV.eqvs_eq _ _ heq
              have hll : l.length = n := by
                have := congrArg List.length heq
                rw [List.length_take] at this
                unfold byteC at this
                rw [List.length_map] at this; omega
              obtain ⟨ccs, fr, q1, q2, q3, q4⟩ := hs.cells ho hb
              obtain ⟨v0, r1, r2⟩ := q3 1 (.sl o2 g3 0 n 1) rfl
              obtain ⟨b2, δ2, off', c, e, m, hb2, rfl, hnc, hoff, hsh, hm⟩ := r2
              have hoff : off' = δ2 := by rcases hoff with h | ⟨h, _⟩ <;> omega
              subst hoff
              obtain ⟨ccs2, fr2, p1, p2, p3, p4⟩ := hs.cells ho2 hb2
              have hsh2 := shape_of p1
              rw [hsh] at hsh2; cases hsh2
              have hcell : w.cell? ⟨b, 1, none⟩ = some (.slice (some ⟨b2, off', none⟩) l.length c) := by rw [cell_of_heap q1, hll]; simpa using r1
              refine Does.of_calls hen ((string_row b b2 off' c ccs2.size l w hcell (by intro hh; rw [hh] at hll; simp at hll; omega) hsh (by omega) (by omega) (by omega) (fun j x hj => ?_)).mono fun e w' he => ?_)
              · have hjl : j < n := by rw [← hll]; exact (List.getElem?_eq_some_iff.1 hj).1
                have hcj : cs[j]? = some (.i .u8 x.toNat) := by
                  have h1 : (cs.take n)[j]? = some (.i .u8 x.toNat) := by
                    rw [heq]; unfold byteC; rw [List.getElem?_map, hj]; rfl
                  rw [List.getElem?_take, if_pos hjl] at h1
                  exact h1
                obtain ⟨y, s1, s2⟩ := p3 _ _ hcj
                simp only [VRel] at s2
                rw [cell_of_heap p1, s1, s2]
              · obtain ⟨rfl, rfl⟩ := he
                refine ⟨_, μ, rfl, rfl, ?_⟩
                have hd := Step.drew hs
                refine hd.trans ?_
                have hsz : (w.drew.freeze ⟨b2, off', none⟩ l.length).heap.size = w.drew.heap.size := by
                  unfold World.freeze; split <;> simp
                refine Step.write (μ' := μ) hd.sim ho2 rfl rfl rfl b2 off' b2 off' hb2 (Nat.le_refl _) (Mu.le_refl μ) hb2 (fun _ _ _ h => .inl h) (fun b e m h => shape_freeze _ _ _ b e m h) ?_ ?_ ?_ (by rw [hsz]; exact Nat.le_refl _) (by rw [hsz]; exact lt_of_heap p1) (.inl rfl) (fun k _ hk => ?_) trivial
                · unfold World.freeze; split <;> rfl
                · unfold World.freeze; split <;> rfl
                · unfold World.freeze; split <;> rfl
                · unfold World.freeze
                  split
                  · rfl
                  · simp only [Array.getElem?_modify]
                    rw [if_neg (fun h => hk h.symm)]; rfl
            · cases h
          · cases h
        · cases h
      · cases h
    · cases h
  · cases h
end Go.Abs.YtkfcbgmamfnajaaGreatDoor
/- strings.Builder: what it holds, and what is written to it. -/
namespace Go.Abs.YtkfcbgmamfnajaaGreatDoor
open Go.Proofs
set_option maxRecDepth 4000
@[reducible] noncomputable def X20 (m : Int) : Ctx := ((X19 m).add 80 pCC).add 41 pStr
theorem X20_sound (m : Int) : (X20 m).Sound 11 := Ctx.add_sound (Ctx.add_sound (X19_sound m) _ _ pCC_ok) _ _ pStr_ok
def SeqAt (e A : Nat) (σ : St) (out : AV) (cs : List AV) : Prop := (cs = [] ∧ out = .sl0) ∨ ∃ o g, A ≤ o ∧ out = .sl o g 0 cs.length 1 ∧ σ[o]? = some ⟨g, false, .cells e cs⟩
theorem SeqAt.same {e A : Nat} {σ σ' : St} {out : AV} {cs : List AV} (h : SeqAt e A σ out cs) (k : ∀ o g n z, out = .sl o g 0 n z → σ'[o]? = σ[o]?) : SeqAt e A σ' out cs := by
  rcases h with h | ⟨o, g, h1, h2, h3⟩
  · exact .inl h
  · exact .inr ⟨o, g, h1, h2, by rw [k o g _ _ h2]; exact h3⟩
theorem SeqAt.new {e A : Nat} {σ : St} {out : AV} {cs : List AV} (h : SeqAt e A σ out cs) (e' : Nat) (cs' : List AV) : SeqAt e A (newCells e' cs' σ) out cs := by
  rcases h with h | ⟨o, g, h1, h2, h3⟩
  · exact .inl h
  · exact .inr ⟨o, g, h1, h2, at_new h3 e' cs'⟩
theorem SeqAt.cases {e A : Nat} {σ : St} {v : AV} {cs : List AV} (h : SeqAt e A σ v cs) : v = .sl0 ∨ ∃ o g, v = .sl o g 0 cs.length 1 := by
  rcases h with ⟨_, rfl⟩ | ⟨o, g, _, rfl, _⟩
  · exact .inl rfl
  · exact .inr ⟨o, g, rfl⟩
/-- More is appended. -/
theorem app_seq {e t A : Nat} {T E : AT} (hT : tyB.get t = some T) (hd : T.d = .slice e) (hE : tyB.get e = some E) (hz : E.size = 1) (hz2 : E.zero.cells.length = 1) (hb : Nat.blt 0 E.bytes = true) (hb8 : E.bytes ≤ 8)
    {σ : St} {out : AV} {cs : List AV} (h : SeqAt e A σ out cs) {y : AV} {ys : List AV} (hy : srcCells 1 y σ = some (ys.length, ys)) (hl : cs.length + ys.length ≤ 1000000) (h1 : cs.all AV.one = true) (h2 : ys.all AV.one = true) (hq : ∀ Q : List AV → Prop, Q ys → fqs ys Q) (hA : A ≤ σ.length) {Q : AV → St → Prop}
    (q : ∀ out' σ', SeqAt e A σ' out' (cs ++ ys) → σ.length ≤ σ'.length → (∀ i, i < σ.length → (∀ o g n z, out = .sl o g 0 n z → i ≠ o) → σ'[i]? = σ[i]?) → (∀ o g n z, out' = .sl o g 0 n z → σ.length ≤ o ∨ ∃ g' n' z', out = .sl o g' 0 n' z') → Q out' σ') :
    AppF tyB.get false t out y σ Q := by
  constructor
  refine om_of hT ?_
  rw [hd]
  refine om_of hE ?_
  rw [hz, hz2]
  have hbl : (Nat.blt 0 1 && Nat.beq 1 1 && Nat.blt 0 E.bytes) = true := by rw [hb]; rfl
  rw [hbl]
  refine om_of hy ?_
  cases ys with
  | nil =>
    rcases h with ⟨rfl, rfl⟩ | ⟨o, g, k1, rfl, k3⟩
    · exact q _ _ (.inl ⟨rfl, rfl⟩) (Nat.le_refl _) (fun _ _ _ => rfl) (fun o g n z h => by cases h)
    · exact q _ _ (.inr ⟨o, g, k1, by simp, by simpa using k3⟩) (Nat.le_refl _) (fun _ _ _ => rfl) (fun o' g' n z h => by cases h; exact .inr ⟨_, _, _, rfl⟩)
  | cons y0 ys =>
    show cB (Nat.beq (ys.length + 1) 0) _ _
    conv => whnf
    rw [h2]
    conv => whnf
    rcases h with ⟨rfl, rfl⟩ | ⟨o, g, k1, rfl, k3⟩
    · conv => whnf
      refine ⟨?_, ?_⟩
      · have : (ys.length + 1) * E.bytes ≤ (ys.length + 1) * 8 := Nat.mul_le_mul_left _ hb8
        simp only [List.length_cons, List.length_nil] at hl ⊢; omega
      refine hq _ ?_
      conv => whnf
      refine q _ _ (.inr ⟨σ.length, 0, hA, rfl, ?_⟩) (by rw [len_new]; omega) (fun i hi _ => get_old hi) (fun o g n z h => by cases h; exact .inl (Nat.le_refl _))
      exact get_new _ _ _
    · conv => whnf
      refine om_of (ownAt_of k3) ?_
      refine ⟨rfl, by omega, ?_, ?_, ?_⟩
      · have : (cs.length + (ys.length + 1)) * E.bytes ≤ (cs.length + (ys.length + 1)) * 8 := Nat.mul_le_mul_left _ hb8
        simp only [List.length_cons] at hl ⊢; omega
      · rw [List.drop_zero, List.take_of_length_le (by omega)]; exact h1
      · conv => whnf
        refine q _ _ (.inr ⟨o, g + 1, k1, by simp, ?_⟩) (by rw [List.length_set]; omega) (fun i hi hne => by rw [List.getElem?_set_ne (fun e => hne o g _ _ rfl e.symm)]) (fun o' g' n z h => by cases h; exact .inr ⟨_, _, _, rfl⟩)
        rw [at_set k3, List.drop_zero, List.take_of_length_le (by omega)]
theorem one_bytes : ∀ l : List UInt8, (byteC l).all AV.one = true
  | [] => rfl
  | _ :: l => by show (_ && (byteC l).all AV.one) = true; rw [one_bytes l]; rfl
theorem fqs_bytes : ∀ (l : List UInt8) (Q : List AV → Prop), Q (byteC l) → fqs (byteC l) Q
  | [], _, h => h
  | _ :: l, Q, h => fqs_bytes l (fun r => Q (_ :: r)) h
theorem byteC_len (l : List UInt8) : (byteC l).length = l.length := by unfold byteC; rw [List.length_map]
theorem byteC_app (l t : List UInt8) : byteC (l ++ t) = byteC l ++ byteC t := by unfold byteC; rw [List.map_append]
/-- A builder at o, and what it holds. -/
def BuiAt (A o : Nat) (σ : St) (l : List UInt8) : Prop :=
  ∃ b0 buf, σ[o]? = some ⟨0, false, .cells 72 [b0, buf]⟩ ∧ (b0 = .p0 ∨ b0 = .p o 0 0) ∧ (l = [] → buf = .sl0) ∧ SeqAt 5 A σ buf (byteC l)
theorem wstr_to {m : Int} {o A : Nat} {σ : St} {l t : List UInt8} {c0 : UInt8} (hb : BuiAt A o σ l) (hoA : o < A) (hA : A ≤ σ.length) (hl : l.length + (t.length + 1) ≤ 1000000) {Q : AV → St → Prop}
    (q : ∀ σ', BuiAt A o σ' (l ++ c0 :: t) → (∀ i, i < A → i ≠ o → σ'[i]? = σ[i]?) → σ.length ≤ σ'.length → Q (.tu [.i .i64 ((t.length + 1 : Nat) : Int), .ic0]) σ') :
    CallF (X20 m) 40 [.p o 0 0, .s (c0 :: t)] σ Q := by
  obtain ⟨b0, buf, hob, hb0, _, hs⟩ := hb
  refine CallF.body (F := F40) tyB_ok (lit := false) rfl rfl (Nat.le_of_ble_eq_true rfl) ?_
  conv => whnf
  obtain ⟨σ1, hcc, h1, hrest, hlen1⟩ : ∃ σ1, pCC [.p o 0 0] σ = some (.tu [], σ1) ∧ σ1[o]? = some ⟨0, false, .cells 72 [.p o 0 0, buf]⟩ ∧ (∀ i, i ≠ o → σ1[i]? = σ[i]?) ∧ σ1.length = σ.length := by
    rcases hb0 with rfl | rfl
    · exact ⟨_, by simp only [pCC, hob], at_set hob _, fun i hi => by rw [List.getElem?_set_ne (fun e => hi e.symm)], by rw [List.length_set]⟩
    · exact ⟨σ, by simp only [pCC, hob, if_true], hob, fun _ _ => rfl, rfl⟩
  refine CallF.prim (g := pCC) rfl hcc ?_
  have hs1 : SeqAt 5 A σ1 buf (byteC l) := by
    rcases hs with h | ⟨o1, g1, k1, k2, k3⟩
    · exact .inl h
    · exact .inr ⟨o1, g1, k1, k2, by rw [hrest o1 (by omega)]; exact k3⟩
  have hbl := byteC_len l
  have hne : ∀ (out' : AV) (σ2 : St), SeqAt 5 A σ2 out' (byteC l ++ byteC (c0 :: t)) → ∀ (σ3 : St), σ3[o]? = some ⟨0, false, .cells 72 [.p o 0 0, out']⟩ → σ3.take σ.length ≠ σ := by
    intro out' σ2 ho2 σ3 h3 he
    have h4 : σ3[o]? = σ[o]? := by
      have := congrArg (fun l => l[o]?) he
      simpa [List.getElem?_take, lt_at hob] using this
    rw [h3, hob] at h4
    have h5 : out' = buf := by
      injection h4 with h4
      injection h4 with _ _ h4
      injection h4 with _ h4
      injection h4 with _ h4
      injection h4 with h4 _
    subst h5
    have hlen : (byteC l ++ byteC (c0 :: t)).length = l.length + (t.length + 1) := by rw [List.length_append, byteC_len, byteC_len]; rfl
    rcases ho2 with ⟨e1, _⟩ | ⟨o2, g2, _, e2, _⟩
    · rw [e1] at hlen; simp only [List.length_nil] at hlen; omega
    · rcases hs with ⟨_, e3⟩ | ⟨o3, g3, _, e3, _⟩
      · rw [e2] at e3; cases e3
      · rw [e2] at e3
        injection e3 with _ _ _ e3 _
        rw [hlen, byteC_len] at e3; omega
  rcases hs.cases with rfl | ⟨o1, g1, rfl⟩
  all_goals
    conv => whnf
    refine om_of (aLoad_at (T := yT38) rfl rfl (cellsAt_of h1) rfl) ?_
    conv => whnf
    refine app_seq (A := A) (E := yT5) rfl rfl rfl rfl rfl rfl (by decide) hs1 (ys := byteC (c0 :: t)) (show srcCells 1 (.s (c0 :: t)) σ1 = _ from by rw [byteC_len]; rfl) (by rw [byteC_len, byteC_len]; simpa using hl) (one_bytes _) (one_bytes _) (fqs_bytes _) (by omega) fun out' σ2 ho2 hln hk2 hk3 => ?_
    obtain ⟨y0, hob2⟩ : ∃ y0, σ2[o]? = some ⟨0, false, .cells 72 [.p o 0 0, y0]⟩ := ⟨_, (hk2 o (lt_at h1) (fun o' g' n z e => by
        rcases hs1 with ⟨_, e1⟩ | ⟨o1, g1, k1, e1, _⟩
        · rw [e1] at e; cases e
        · rw [e1] at e; cases e; omega)).trans h1⟩
    have hfin : ∀ v, SeqAt 5 A σ2 v (byteC l ++ byteC (c0 :: t)) → BuiAt A o (σ2.set o ⟨0, false, .cells 72 [.p o 0 0, v]⟩) (l ++ c0 :: t) := fun v hv => by
      refine ⟨_, _, at_set hob2 _, .inr rfl, fun h => by simp at h, ?_⟩
      rw [byteC_app]
      rcases hv with h | ⟨o3, g3, k1, k2, k3⟩
      · exact .inl h
      · exact .inr ⟨o3, g3, k1, k2, by rw [List.getElem?_set_ne (by omega)]; exact k3⟩
    have hlow : ∀ a i, i < A → i ≠ o → (σ2.set o a)[i]? = σ[i]? := fun a i hi hio => by
      rw [List.getElem?_set_ne (fun e => hio e.symm), hk2 i (by omega) (fun o' g' n z e => by
        rcases hs1 with ⟨_, e1⟩ | ⟨o1, g1, k1, e1, _⟩
        · rw [e1] at e; cases e
        · rw [e1] at e; cases e; omega), hrest i hio]
    have hnev := hne _ _ ho2
    rcases ho2.cases with rfl | ⟨o3, g3, rfl⟩
    all_goals
      conv => whnf
      refine om_of (aStore_to [.p o 0 0, _] rfl hob2 rfl rfl (Nat.le_of_ble_eq_true rfl) rfl) ?_
      conv => whnf
      exact Fin.ne (hnev _ (at_set hob2 _)) (q _ (hfin _ ho2) (hlow _) (by rw [List.length_set]; omega))
end Go.Abs.YtkfcbgmamfnajaaGreatDoor
/- Disassemble, both. -/
namespace Go.Abs.YtkfcbgmamfnajaaGreatDoor
open Go.Proofs
set_option maxRecDepth 4000
/-- Words of 32 bits, of cells. -/
def wordsOfC : List AV → Option (List Int)
  | [] => some []
  | .i .u32 w :: r => if 0 ≤ w ∧ w < 4294967296 then (wordsOfC r).map (w :: ·) else none
  | _ => none
def W32 (ws : List Int) : Prop := ∀ w ∈ ws, 0 ≤ w ∧ w < 4294967296
theorem wordsOfC_ok : ∀ (ws : List Int), W32 ws → wordsOfC (wordsC ws) = some ws
  | [], _ => rfl
  | w :: ws, h => by
    show (if 0 ≤ w ∧ w < 4294967296 then (wordsOfC (wordsC ws)).map (w :: ·) else none) = _
    rw [if_pos (h w (by simp)), wordsOfC_ok ws (fun v hv => h v (by simp [hv]))]; rfl
theorem wordsOfC_some : ∀ {cs : List AV} {ws : List Int}, wordsOfC cs = some ws → cs = wordsC ws ∧ W32 ws
  | [], ws, h => by cases h; exact ⟨rfl, fun _ h => by cases h⟩
  | .i .u32 w :: r, ws, h => by
    unfold wordsOfC at h
    split at h
    · rename_i hw
      rw [Option.map_eq_some_iff] at h
      obtain ⟨ys, h1, rfl⟩ := h
      obtain ⟨h2, h3⟩ := wordsOfC_some h1
      refine ⟨by rw [h2]; rfl, fun v hv => ?_⟩
      rcases List.mem_cons.1 hv with rfl | hv
      · exact hw
      · exact h3 v hv
    · cases h
theorem wordsC_len (ws : List Int) : (wordsC ws).length = ws.length := by unfold wordsC; rw [List.length_map]
theorem wordsC_at {ws : List Int} {k : Nat} (h : k < ws.length) : (wordsC ws)[k]? = some (.i .u32 ws[k]) := by unfold wordsC; rw [List.getElem?_map, List.getElem?_eq_getElem h]; rfl
theorem wordsC_flat (ws : List Int) : AV.flats (wordsC ws) = true := by
  induction ws with
  | nil => rfl
  | cons w ws ih => show (_ && AV.flats (wordsC ws)) = true; rw [ih]; rfl
theorem dis_snoc {ws : List Int} {k : Nat} (h : k < ws.length) : disP (ws.take (k + 1)) = disP (ws.take k) ++ (printP ws[k] ++ [10]) := by
  unfold disP
  rw [List.take_add_one, List.getElem?_eq_getElem h, List.flatMap_append]
  simp
theorem dis_take_len (ws : List Int) (h : W32 ws) (k : Nat) (hn : ws.length ≤ 100) : (disP (ws.take k)).length ≤ 20100 := by
  have h1 := dis_len (ws.take k) (fun w hw => h w (List.mem_of_mem_take hw))
  have h2 : (ws.take k).length ≤ 100 := by rw [List.length_take]; omega
  omega
/-- The globals' store, and one slice's cells to be read. -/
def S1 (m : Int) (e : Nat) (cs : List AV) : St := G0 m ++ [⟨1, true, .cells e cs⟩]
structure DI (m : Int) (e : Nat) (ws : List Int) (l : List UInt8) (σ : St) : Prop where
  low : ∀ i, i < 12 → σ[i]? = (S1 m e (wordsC ws))[i]?
  len : 13 ≤ σ.length
  b : BuiAt 13 12 σ l
theorem take11 {m : Int} {σ σ0 : St} (h : ∀ i, i < 11 → σ[i]? = (G0 m)[i]?) : σ.take 11 = G0 m := by
  apply List.ext_getElem?
  intro i
  rw [List.getElem?_take]
  split
  · rename_i hi; exact h i hi
  · rename_i hi; exact (List.getElem?_eq_none (by show 11 ≤ i; omega)).symm
theorem DI.take {m : Int} {e : Nat} {ws : List Int} {l : List UInt8} {σ : St} (h : DI m e ws l σ) : σ.take 11 = G0 m :=
  take11 (σ0 := σ) fun i hi => by rw [h.low i (by omega)]; exact List.getElem?_append_left hi
theorem c20_print {m w : Int} {σ : St} {Q : AV → St → Prop} (hw : 0 ≤ w ∧ w < 4294967296) (ht : σ.take 11 = G0 m) (q : Q (.s (printP w)) σ) : CallF (X20 m) 13 [.i .u32 w] σ Q :=
  CallF.lift (X := X18 m) rfl rfl (c18_print hw ht q)
theorem dis_loop (m : Int) (e : Nat) (ws : List Int) (hw : W32 ws) (hn : ws.length ≤ 100) (Q : Out → Env → St → Prop) (q : ∀ e' σ', DI m e ws (disP ws) σ' → get e' 3 = .p 12 0 0 → Q (.exit 0) e' σ') :
    ∀ (j k : Nat) (σ : St), k + j = ws.length → DI m e ws (disP (ws.take k)) σ → LoopF (X20 m) [3, 6, 7, 8] c15L0 [(3, .p 12 0 0), (6, .sl 11 1 0 ws.length 1), (7, .i .i64 ws.length), (8, .i .i64 k)] σ Q
  | 0, k, σ, hk, hd => by
    have hk' : k = ws.length := by omega
    subst hk'
    rw [List.take_length] at hd
    refine LoopF.round tyB_ok (lit := false) ?_
    conv => whnf
    rw [decide_eq_false (show ¬ ((ws.length : Nat) : Int) < (ws.length : Int) by omega)]
    conv => whnf
    exact q _ σ hd rfl
  | j + 1, k, σ, hk, hd => by
    have hlt : k < ws.length := by omega
    have h11 : σ[11]? = some ⟨1, true, .cells e (wordsC ws)⟩ := by rw [hd.low 11 (by decide)]; rfl
    refine LoopF.round tyB_ok (lit := false) ?_
    conv => whnf
    rw [decide_eq_true (show ((k : Nat) : Int) < (ws.length : Int) by omega)]
    conv => whnf
    refine ⟨k, rfl, hlt, ?_⟩
    conv => whnf
    refine om_of (v := AV.i .u32 ws[k]) (aLoad_at (T := yT22) rfl rfl (cellsAt_of h11) (by rw [show 0 + k * 1 = k by omega]; exact wordsC_at hlt)) ?_
    conv => whnf
    refine c20_print (hw _ (List.getElem_mem _)) hd.take ?_
    have hsn := dis_snoc hlt
    have hlen := dis_take_len ws hw (k + 1) hn
    rw [hsn] at hlen
    have hrec := fun σ' hk' => dis_loop m e ws hw hn Q q j (k + 1) σ' hk'
    rw [hsn] at hrec
    have hpl := print_len ws[k] (hw _ (List.getElem_mem _)).1 (hw _ (List.getElem_mem _)).2
    generalize printP ws[k] = p at hlen hrec hpl
    obtain ⟨c0, t, hct⟩ : ∃ c0 t, p ++ [10] = c0 :: t := by
      cases p with
      | nil => exact ⟨10, [], rfl⟩
      | cons c p => exact ⟨c, p ++ [10], rfl⟩
    rw [hct] at hlen hrec
    conv => whnf
    refine ⟨by show p.length + 1 ≤ _; omega, ?_⟩
    conv => whnf
    rw [show p ++ [10] = c0 :: t from hct]
    rw [List.length_append, List.length_cons] at hlen
    refine wstr_to (t := t) (c0 := c0) hd.b (by decide) hd.len (by omega) fun σ' hb' hlow hln => ?_
    conv => whnf
    refine ⟨((k + 1 : Nat) : Int), (wrap_i64 (by omega) (by omega)).trans (by omega), ?_⟩
    conv => whnf
    exact hrec σ' (by omega) ⟨fun i hi => by rw [hlow i (by omega) (by omega)]; exact hd.low i hi, by have := hd.len; omega, hb'⟩
theorem dis_to (m : Int) (e : Nat) (ws : List Int) (hw : W32 ws) (hn : ws.length ≤ 100) : CallF (X20 m) 15 [.sl 11 1 0 ws.length 1] (S1 m e (wordsC ws)) fun a _ => a = .s (disP ws) := by
  refine CallF.body (F := F15) tyB_ok (lit := false) rfl rfl (Nat.le_of_ble_eq_true rfl) ?_
  conv => whnf
  have hd0 : DI m e ws (disP (ws.take 0)) (newCells 72 [.p0, .sl0] (S1 m e (wordsC ws))) := by
    refine ⟨fun i hi => get_old hi, Nat.le_refl _, .p0, .sl0, rfl, .inl rfl, fun _ => rfl, .inl ⟨rfl, rfl⟩⟩
  refine dis_loop m e ws hw hn _ (fun e' σ' hd g3 => ?_) ws.length 0 _ (by omega) hd0
  conv => whnf
  rw [show Opd.ev e' (.t 3) = _ from g3]
  conv => whnf
  have htk : σ'.take (S1 m e (wordsC ws)).length = S1 m e (wordsC ws) := by
    apply List.ext_getElem?
    intro i
    rw [List.getElem?_take]
    have hl : (S1 m e (wordsC ws)).length = 12 := rfl
    split
    · rename_i hi; exact hd.low i (by omega)
    · rename_i hi; exact (List.getElem?_eq_none (by omega)).symm
  obtain ⟨b0, buf, hob, _, hem, hs⟩ := hd.b
  rcases hs with ⟨hz, rfl⟩ | ⟨o1, g1, hA1, rfl, hob1⟩
  · have hz' : disP ws = [] := by
      unfold byteC at hz
      exact List.map_eq_nil_iff.1 hz
    have hp : pStr [.p 12 0 0] σ' = some (.s [], σ') := by simp only [pStr, hob]
    refine CallF.prim (g := pStr) rfl hp ?_
    conv => whnf
    exact Fin.flat rfl htk (by rw [hz'])
  · have hlen := dis_take_len ws hw ws.length hn
    rw [List.take_length] at hlen
    by_cases hz : disP ws = []
    · cases hem hz
    · have hlb := byteC_len (disP ws)
      have hpos : 0 < (disP ws).length := List.length_pos_iff.2 hz
      have hp : pStr [.p 12 0 0] σ' = some (.s (disP ws), σ'.set o1 ⟨g1, false, .dead⟩) := by
        simp only [pStr, hob, hob1]
        rw [if_pos ⟨trivial, Nat.le_refl _, by omega, by omega⟩, List.take_of_length_le (Nat.le_refl _), bytesOf_byteC]
        simp
      refine CallF.prim (g := pStr) rfl hp ?_
      conv => whnf
      refine Fin.flat rfl ?_ rfl
      rw [List.take_set_of_le (by show 12 ≤ o1; omega)]
      exact htk
theorem dis0_to (m : Int) : CallF (X20 m) 15 [.sl0] (G0 m) fun a _ => a = .s [] := by
  refine CallF.body (F := F15) tyB_ok (lit := true) rfl rfl (Nat.le_of_ble_eq_true rfl) ?_
  conv => whnf
  refine LoopF.round tyB_ok (lit := true) ?_
  conv => whnf
  refine CallF.prim (g := pStr) rfl rfl ?_
  conv => whnf
  exact Fin.flat rfl rfl rfl
def lawDis (m : Int) : LawQ (X20 m) (G0 m) where
  f := 15
  z := 1
  g := fun cs n => match wordsOfC cs with
    | some ws => if n = ws.length ∧ n ≤ 100 then some (.s (disP ws)) else none
    | none => none
  v0 := .s []
  ok := fun e cs n v h => by
    split at h
    · rename_i ws hq
      split at h
      · rename_i hl
        cases h
        obtain ⟨rfl, hw⟩ := wordsOfC_some hq
        obtain ⟨rfl, hn⟩ := hl
        exact ⟨wordsC_flat ws, rfl, dis_to m e ws hw hn⟩
      · cases h
    · cases h
  ok0 := ⟨rfl, dis0_to m⟩
@[reducible] noncomputable def X21 (m : Int) : Ctx := (X20 m).looks (G0 m) (lawDis m)
theorem X21_sound (m : Int) : (X21 m).Sound 11 := Ctx.looks_sound (X20_sound m) (okG0 m) _
theorem c21_rprint {m w : Int} {σ : St} {Q : AV → St → Prop} (hw : 0 ≤ w ∧ w < 4294967296) (ht : σ.take 11 = G0 m) (q : Q (.s (printP w)) σ) : CallF (X21 m) 14 [.i .u32 w] σ Q :=
  CallF.lift (X := Y16 m) rfl rfl (CallF.law (lawRPrint m) rfl (if_pos hw) ht q)
theorem rdis_loop (m : Int) (e : Nat) (ws : List Int) (hw : W32 ws) (hn : ws.length ≤ 100) (Q : Out → Env → St → Prop) (q : ∀ e', get e' 3 = .s (disP ws) → Q (.exit 0) e' (S1 m e (wordsC ws))) :
    ∀ (j k : Nat), k + j = ws.length → LoopF (X21 m) [0, 3, 4] c16L0 [(0, .sl 11 1 0 ws.length 1), (3, .s (disP (ws.take k))), (4, .i .i64 k)] (S1 m e (wordsC ws)) Q
  | 0, k, hk => by
    have hk' : k = ws.length := by omega
    subst hk'
    rw [List.take_length]
    refine LoopF.round tyB_ok (lit := true) ?_
    conv => whnf
    rw [decide_eq_false (show ¬ ((ws.length : Nat) : Int) < (ws.length : Int) by omega)]
    conv => whnf
    exact q _ rfl
  | j + 1, k, hk => by
    have hlt : k < ws.length := by omega
    refine LoopF.round tyB_ok (lit := true) ?_
    conv => whnf
    rw [decide_eq_true (show ((k : Nat) : Int) < (ws.length : Int) by omega)]
    conv => whnf
    refine ⟨k, rfl, hlt, ?_⟩
    conv => whnf
    refine om_of (v := AV.i .u32 ws[k]) (aLoad_at (T := yT22) rfl rfl (cellsAt_of (show (S1 m e (wordsC ws))[11]? = some ⟨1, true, .cells e (wordsC ws)⟩ from rfl)) (by rw [show 0 + k * 1 = k by omega]; exact wordsC_at hlt)) ?_
    conv => whnf
    refine c21_rprint (hw _ (List.getElem_mem _)) rfl ?_
    have hrec := rdis_loop m e ws hw hn Q q j (k + 1) (by omega)
    rw [dis_snoc hlt, ← List.append_assoc] at hrec
    have hpl := print_len ws[k] (hw _ (List.getElem_mem _)).1 (hw _ (List.getElem_mem _)).2
    have hal := dis_take_len ws hw k hn
    generalize printP ws[k] = p at hrec hpl
    generalize disP (ws.take k) = acc at hrec hal ⊢
    conv => whnf
    refine ⟨by omega, ?_⟩
    conv => whnf
    refine ⟨by rw [List.length_append]; show _ + 1 ≤ _; omega, ?_⟩
    conv => whnf
    refine ⟨((k + 1 : Nat) : Int), (wrap_i64 (by omega) (by omega)).trans (by omega), ?_⟩
    conv => whnf
    exact hrec
theorem rdis_to (m : Int) (e : Nat) (ws : List Int) (hw : W32 ws) (hn : ws.length ≤ 100) : CallF (X21 m) 16 [.sl 11 1 0 ws.length 1] (S1 m e (wordsC ws)) fun a _ => a = .s (disP ws) := by
  refine CallF.body (F := F16) tyB_ok (lit := true) rfl rfl (Nat.le_of_ble_eq_true rfl) ?_
  conv => whnf
  refine rdis_loop m e ws hw hn _ (fun e' g3 => ?_) ws.length 0 (by omega)
  conv => whnf
  rw [show Opd.ev e' (.t 3) = _ from g3]
  conv => whnf
  exact Fin.flat rfl rfl rfl
theorem rdis0_to (m : Int) : CallF (X21 m) 16 [.sl0] (G0 m) fun a _ => a = .s [] := by
  refine CallF.body (F := F16) tyB_ok (lit := true) rfl rfl (Nat.le_of_ble_eq_true rfl) ?_
  conv => whnf
  refine LoopF.round tyB_ok (lit := true) ?_
  conv => whnf
  exact Fin.flat rfl rfl rfl
def lawRDis (m : Int) : LawQ (X21 m) (G0 m) where
  f := 16
  z := 1
  g := fun cs n => match wordsOfC cs with
    | some ws => if n = ws.length ∧ n ≤ 100 then some (.s (disP ws)) else none
    | none => none
  v0 := .s []
  ok := fun e cs n v h => by
    split at h
    · rename_i ws hq
      split at h
      · rename_i hl
        cases h
        obtain ⟨rfl, hw⟩ := wordsOfC_some hq
        obtain ⟨rfl, hn⟩ := hl
        exact ⟨wordsC_flat ws, rfl, rdis_to m e ws hw hn⟩
      · cases h
    · cases h
  ok0 := ⟨rfl, rdis0_to m⟩
@[reducible] noncomputable def X22 (m : Int) : Ctx := (X21 m).looks (G0 m) (lawRDis m)
theorem X22_sound (m : Int) : (X22 m).Sound 11 := Ctx.looks_sound (X21_sound m) (okG0 m) _
end Go.Abs.YtkfcbgmamfnajaaGreatDoor
/- AsmPrints over the abstract store. -/
namespace Go.Abs.YtkfcbgmamfnajaaGreatDoor
open Go.Proofs
set_option maxRecDepth 4000
theorem c22_print {m w : Int} {σ : St} {Q : AV → St → Prop} (hw : 0 ≤ w ∧ w < 4294967296) (ht : σ.take 11 = G0 m) (q : Q (.s (printP w)) σ) : CallF (X22 m) 13 [.i .u32 w] σ Q :=
  CallF.lift (X := X18 m) rfl rfl (c18_print hw ht q)
theorem c22_rprint {m w : Int} {σ : St} {Q : AV → St → Prop} (hw : 0 ≤ w ∧ w < 4294967296) (ht : σ.take 11 = G0 m) (q : Q (.s (printP w)) σ) : CallF (X22 m) 14 [.i .u32 w] σ Q :=
  CallF.lift (X := Y16 m) rfl rfl (CallF.law (lawRPrint m) rfl (if_pos hw) ht q)
theorem c22_works {m : Int} {σ : St} {Q : AV → St → Prop} (ht : σ.take 11 = G0 m) (q : Q (.b true) σ) : CallF (X22 m) 12 [] σ Q :=
  CallF.lift (X := X19 m) rfl rfl (CallF.law (lawWorks m) rfl rfl ht q)
theorem wordsC_take (ws : List Int) (n : Nat) : (wordsC ws).take n = wordsC (ws.take n) := by unfold wordsC; rw [List.map_take]
theorem c22_dis {m : Int} {e o g n : Nat} {ro : Bool} {ws : List Int} {σ : St} {Q : AV → St → Prop} (ho : σ[o]? = some ⟨g, ro, .cells e (wordsC ws)⟩) (hw : W32 ws) (hn : n ≤ ws.length) (h1 : n ≤ 100) (ht : σ.take 11 = G0 m) (q : Q (.s (disP (ws.take n))) σ) : CallF (X22 m) 15 [.sl o g 0 n 1] σ Q :=
  CallF.lift (X := X21 m) rfl rfl (CallF.lawQ (lawDis m) rfl ho (by show (wordsC ws).take (n * 1) = _; rw [Nat.mul_one, wordsC_take]) (by show n * 1 ≤ _; rw [wordsC_len]; omega) (by
    show (match wordsOfC (wordsC (ws.take n)) with
      | some ws => if n = ws.length ∧ n ≤ 100 then some (AV.s (disP ws)) else none
      | none => none) = _
    rw [wordsOfC_ok _ (fun w h => hw w (List.mem_of_mem_take h))]
    exact if_pos ⟨by rw [List.length_take]; omega, h1⟩) ht q)
theorem c22_rdis {m : Int} {e o g n : Nat} {ro : Bool} {ws : List Int} {σ : St} {Q : AV → St → Prop} (ho : σ[o]? = some ⟨g, ro, .cells e (wordsC ws)⟩) (hw : W32 ws) (hn : n ≤ ws.length) (h1 : n ≤ 100) (ht : σ.take 11 = G0 m) (q : Q (.s (disP (ws.take n))) σ) : CallF (X22 m) 16 [.sl o g 0 n 1] σ Q :=
  CallF.lawQ (lawRDis m) rfl ho (by show (wordsC ws).take (n * 1) = _; rw [Nat.mul_one, wordsC_take]) (by show n * 1 ≤ _; rw [wordsC_len]; omega) (by
    show (match wordsOfC (wordsC (ws.take n)) with
      | some ws => if n = ws.length ∧ n ≤ 100 then some (AV.s (disP ws)) else none
      | none => none) = _
    rw [wordsOfC_ok _ (fun w h => hw w (List.mem_of_mem_take h))]
    exact if_pos ⟨by rw [List.length_take]; omega, h1⟩) ht q
theorem prints_loop (m : Int) (e : Nat) (ws : List Int) (hw : W32 ws) (b : Nat) (hb : b ≤ ws.length) (hb1 : b ≤ 100) (Q : Out → Env → St → Prop) (q : ∀ e', get e' 0 = .sl 11 1 0 b 1 → Q (.exit 0) e' (S1 m e (wordsC ws))) :
    ∀ (j k : Nat), k + j = b → LoopF (X22 m) [0, 3] c4L0 [(0, .sl 11 1 0 b 1), (3, .i .i64 k)] (S1 m e (wordsC ws)) Q
  | 0, k, hk => by
    refine LoopF.round tyB_ok (lit := true) ?_
    conv => whnf
    rw [decide_eq_false (show ¬ ((k : Nat) : Int) < (b : Int) by omega)]
    conv => whnf
    exact q _ rfl
  | j + 1, k, hk => by
    have hlt : k < b := by omega
    have hlw : k < ws.length := by omega
    have hload : aLoad (tyB.get 22) (.p 11 1 (0 + k * 1)) (S1 m e (wordsC ws)) = some (.i .u32 ws[k]) :=
      aLoad_at (T := yT22) rfl rfl (cellsAt_of (show (S1 m e (wordsC ws))[11]? = some ⟨1, true, .cells e (wordsC ws)⟩ from rfl)) (by rw [show 0 + k * 1 = k by omega]; exact wordsC_at hlw)
    refine LoopF.round tyB_ok (lit := true) ?_
    conv => whnf
    rw [decide_eq_true (show ((k : Nat) : Int) < (b : Int) by omega)]
    conv => whnf
    refine ⟨k, rfl, hlt, ?_⟩
    conv => whnf
    refine om_of hload ?_
    conv => whnf
    refine ⟨k, rfl, hlt, ?_⟩
    conv => whnf
    refine om_of hload ?_
    conv => whnf
    refine c22_print (hw _ (List.getElem_mem _)) rfl ?_
    conv => whnf
    refine ⟨?_, ?_⟩
    · conv => whnf
      refine om_of hload ?_
      rfl
    conv => whnf
    refine c22_rprint (hw _ (List.getElem_mem _)) rfl ?_
    generalize printP ws[k] = p
    conv => whnf
    rw [show (p == p) = true from beq_self_eq_true p]
    conv => whnf
    refine ⟨((k + 1 : Nat) : Int), (wrap_i64 (by omega) (by omega)).trans (by omega), ?_⟩
    conv => whnf
    exact prints_loop m e ws hw b hb hb1 Q q j (k + 1) (by omega)
theorem prints_to (m : Int) (e : Nat) (ws : List Int) (hw : W32 ws) : CallF (X22 m) 4 [.sl 11 1 0 ws.length 1] (S1 m e (wordsC ws)) fun v _ => v = .b true := by
  refine CallF.body (F := F4) tyB_ok (lit := true) rfl rfl (Nat.le_of_ble_eq_true rfl) ?_
  conv => whnf
  refine ⟨min ws.length 100, by show (if false = true then _ else min (ws.length : Int) 100) = _; rw [if_neg (by decide)]; omega, Nat.min_le_left _ _, ?_⟩
  have hb := Nat.min_le_left ws.length 100
  have hb1 := Nat.min_le_right ws.length 100
  generalize min ws.length 100 = b at hb hb1
  conv => whnf
  refine prints_loop m e ws hw b hb hb1 _ (fun e' g0 => ?_) b 0 (by omega)
  conv => whnf
  rw [g0]
  conv => whnf
  refine c22_dis (show (S1 m e (wordsC ws))[11]? = some ⟨1, true, .cells e (wordsC ws)⟩ from rfl) hw hb hb1 rfl ?_
  conv => whnf
  refine c22_rdis (show (S1 m e (wordsC ws))[11]? = some ⟨1, true, .cells e (wordsC ws)⟩ from rfl) hw hb hb1 rfl ?_
  generalize disP (ws.take b) = p
  conv => whnf
  rw [show (p == p) = true from beq_self_eq_true p]
  conv => whnf
  refine c22_works rfl ?_
  conv => whnf
  exact Fin.flat rfl rfl rfl
theorem prints0_to (m : Int) : CallF (X22 m) 4 [.sl0] (G0 m) fun v _ => v = .b true := by
  refine CallF.body (F := F4) tyB_ok (lit := true) rfl rfl (Nat.le_of_ble_eq_true rfl) ?_
  conv => whnf
  refine LoopF.round tyB_ok (lit := true) ?_
  conv => whnf
  refine CallF.lift (X := X21 m) rfl rfl (CallF.lawQ0 (lawDis m) rfl rfl ?_)
  conv => whnf
  refine CallF.lawQ0 (lawRDis m) rfl rfl ?_
  conv => whnf
  refine c22_works rfl ?_
  conv => whnf
  exact Fin.flat rfl rfl rfl
end Go.Abs.YtkfcbgmamfnajaaGreatDoor
