/- Texts of this claim, joined: FnF, FnG, FnH, FnI, Abs29, Abs35, Abs36, Abs37, FnJ, FnK, FnL. -/
import Derived.Test.YtkfcbgmamfnajaaGreatDoorM08
import Derived.Lib.ItoaLen
set_option linter.unusedVariables false
set_option linter.unusedSimpArgs false
/- asm.Print. -/
namespace Go.Abs.YtkfcbgmamfnajaaGreatDoor
open Go.Proofs
set_option maxRecDepth 4000

def lawDec (m : Int) : Law (X2 m) (G0 m) := ⟨22, fun | [.i .u32 w] => some (insO (decP w)) | _ => none, fun args v h => by
  split at h
  · cases h; exact ⟨rfl, rfl, dec_to m _⟩
  · cases h⟩
@[reducible] noncomputable def X3 (m : Int) : Ctx := (X2 m).knows (G0 m) [lawDec m]
theorem X3_sound (m : Int) : (X3 m).Sound 11 := Ctx.knows_sound (X2_sound m) (okG0 m) _
theorem okTab0 {m : Int} {σ : St} (h : σ.take 11 = G0 m) : okTab σ = true := by
  have h3 : σ[3]? = (G0 m)[3]? := by
    rw [← h, List.getElem?_take, if_pos (by omega)]
  unfold okTab
  rw [h3]
  show AV.eqvs pow10C pow10C = true
  exact AV.eqvs_refl _
theorem itoa_to {m : Int} {n : Int} {σ : St} {Q : AV → St → Prop} (h : σ.take 11 = G0 m) (h1 : -9223372036854775808 ≤ n) (h2 : n ≤ 9223372036854775807) (q : Q (.s (Lib.itoa n)) σ) : CallF (X3 m) 34 [.i .i64 n] σ Q :=
  CallF.prim (g := pItoa) rfl (show (if _ then some (AV.s (Lib.itoa n), σ) else none) = _ from if_pos ⟨h1, h2, okTab0 h⟩) q
def SP (m : Int) (f : List AV) (ws : List (List UInt8)) (g : Nat) (l : List UInt8) (p : Nat) (t : St) : St := G0 m ++ (⟨0, false, .cells 45 f⟩ :: ⟨g, false, .cells 9 (ws.map AV.s)⟩ :: ⟨0, false, .iter l p⟩ :: t)
def inI (x : Int) : Prop := -9223372036854775808 ≤ x ∧ x ≤ 9223372036854775807
def fieldT (s : DS) (ch : UInt8) : List UInt8 := if ch = 97 then 99 :: Lib.itoa s.a else if ch = 98 then 99 :: Lib.itoa s.b else if ch = 99 then 99 :: Lib.itoa s.c else Lib.itoa s.i
def cellsI (op : Int) (s : DS) : List AV := [.i .i64 op, .i .i64 s.a, .i .i64 s.b, .i .i64 s.c, .i .i64 s.i]
theorem pr_0 (m op : Int) (s : DS) (hs : inI s.a ∧ inI s.b ∧ inI s.c ∧ inI s.i) (l : List UInt8) (x0 : List UInt8) (ch : UInt8) (hl : l.length ≤ 100) (hc : l[0]? = some ch) (hm : ch = 97 ∨ ch = 98 ∨ ch = 99 ∨ ch = 105 ∨ ch = 106) (hlen : (fieldT s ch).length ≤ 30) (Q : Out → Env → St → Prop)
    (q : LoopF (X3 m) [3, 4, 24] c13L0 [(3, .p 11 0 0), (4, .sl 12 1 0 2 1), (24, .p 13 0 0)] (SP m (cellsI op s) [x0, fieldT s ch] 1 l 1 [⟨0, false, .cells 9 [.s (fieldT s ch)]⟩]) Q) :
    LoopF (X3 m) [3, 4, 24] c13L0 [(3, .p 11 0 0), (4, .sl 12 0 0 1 1), (24, .p 13 0 0)] (SP m (cellsI op s) [x0] 0 l 0 []) Q := by
  have hpl : 0 < l.length := (List.getElem?_eq_some_iff.1 hc).1
  have hdec : Utf8.decode ⟨l.toArray⟩ 0 = (ch.toNat, 1) := decode_ascii l 0 ch hc (by rcases hm with rfl | rfl | rfl | rfl | rfl <;> decide)
  obtain ⟨ha, hb, hcc, hi⟩ := hs
  refine LoopF.round tyB_ok (lit := true) ?_
  conv => whnf
  rw [decide_eq_true (by show 0 < l.length; omega)]
  conv => whnf
  rw [hdec]
  rcases hm with rfl | rfl | rfl | rfl | rfl
  · conv => whnf
    refine itoa_to rfl ha.1 ha.2 ?_
    conv => whnf
    have hl9 : (Lib.itoa s.a).length ≤ 29 := by simpa [fieldT] using hlen
    refine ⟨by show 1 + (Lib.itoa s.a).length ≤ _; omega, ?_⟩
    conv => whnf
    constructor
    conv => whnf
    refine ⟨rfl, Nat.le_of_ble_eq_true rfl, Nat.le_of_ble_eq_true rfl, rfl, ?_⟩
    conv => whnf
    exact q
  · conv => whnf
    refine itoa_to rfl hb.1 hb.2 ?_
    conv => whnf
    have hl9 : (Lib.itoa s.b).length ≤ 29 := by simpa [fieldT] using hlen
    refine ⟨by show 1 + (Lib.itoa s.b).length ≤ _; omega, ?_⟩
    conv => whnf
    constructor
    conv => whnf
    refine ⟨rfl, Nat.le_of_ble_eq_true rfl, Nat.le_of_ble_eq_true rfl, rfl, ?_⟩
    conv => whnf
    exact q
  · conv => whnf
    refine itoa_to rfl hcc.1 hcc.2 ?_
    conv => whnf
    have hl9 : (Lib.itoa s.c).length ≤ 29 := by simpa [fieldT] using hlen
    refine ⟨by show 1 + (Lib.itoa s.c).length ≤ _; omega, ?_⟩
    conv => whnf
    constructor
    conv => whnf
    refine ⟨rfl, Nat.le_of_ble_eq_true rfl, Nat.le_of_ble_eq_true rfl, rfl, ?_⟩
    conv => whnf
    exact q
  · conv => whnf
    refine itoa_to rfl hi.1 hi.2 ?_
    conv => whnf
    constructor
    conv => whnf
    refine ⟨rfl, Nat.le_of_ble_eq_true rfl, Nat.le_of_ble_eq_true rfl, rfl, ?_⟩
    conv => whnf
    exact q
  · conv => whnf
    refine itoa_to rfl hi.1 hi.2 ?_
    conv => whnf
    constructor
    conv => whnf
    refine ⟨rfl, Nat.le_of_ble_eq_true rfl, Nat.le_of_ble_eq_true rfl, rfl, ?_⟩
    conv => whnf
    exact q
theorem pr_1 (m op : Int) (s : DS) (hs : inI s.a ∧ inI s.b ∧ inI s.c ∧ inI s.i) (l : List UInt8) (x0 x1 y0 : List UInt8) (ch : UInt8) (hl : l.length ≤ 100) (hc : l[1]? = some ch) (hm : ch = 97 ∨ ch = 98 ∨ ch = 99 ∨ ch = 105 ∨ ch = 106) (hlen : (fieldT s ch).length ≤ 30) (Q : Out → Env → St → Prop)
    (q : LoopF (X3 m) [3, 4, 24] c13L0 [(3, .p 11 0 0), (4, .sl 12 2 0 3 1), (24, .p 13 0 0)] (SP m (cellsI op s) [x0, x1, fieldT s ch] 2 l 2 [⟨0, false, .cells 9 [.s y0]⟩, ⟨0, false, .cells 9 [.s (fieldT s ch)]⟩]) Q) :
    LoopF (X3 m) [3, 4, 24] c13L0 [(3, .p 11 0 0), (4, .sl 12 1 0 2 1), (24, .p 13 0 0)] (SP m (cellsI op s) [x0, x1] 1 l 1 [⟨0, false, .cells 9 [.s y0]⟩]) Q := by
  have hpl : 1 < l.length := (List.getElem?_eq_some_iff.1 hc).1
  have hdec : Utf8.decode ⟨l.toArray⟩ 1 = (ch.toNat, 1) := decode_ascii l 1 ch hc (by rcases hm with rfl | rfl | rfl | rfl | rfl <;> decide)
  obtain ⟨ha, hb, hcc, hi⟩ := hs
  refine LoopF.round tyB_ok (lit := true) ?_
  conv => whnf
  rw [decide_eq_true (by show 1 < l.length; omega)]
  conv => whnf
  rw [hdec]
  rcases hm with rfl | rfl | rfl | rfl | rfl
  · conv => whnf
    refine itoa_to rfl ha.1 ha.2 ?_
    conv => whnf
    have hl9 : (Lib.itoa s.a).length ≤ 29 := by simpa [fieldT] using hlen
    refine ⟨by show 1 + (Lib.itoa s.a).length ≤ _; omega, ?_⟩
    conv => whnf
    constructor
    conv => whnf
    refine ⟨rfl, Nat.le_of_ble_eq_true rfl, Nat.le_of_ble_eq_true rfl, rfl, ?_⟩
    conv => whnf
    exact q
  · conv => whnf
    refine itoa_to rfl hb.1 hb.2 ?_
    conv => whnf
    have hl9 : (Lib.itoa s.b).length ≤ 29 := by simpa [fieldT] using hlen
    refine ⟨by show 1 + (Lib.itoa s.b).length ≤ _; omega, ?_⟩
    conv => whnf
    constructor
    conv => whnf
    refine ⟨rfl, Nat.le_of_ble_eq_true rfl, Nat.le_of_ble_eq_true rfl, rfl, ?_⟩
    conv => whnf
    exact q
  · conv => whnf
    refine itoa_to rfl hcc.1 hcc.2 ?_
    conv => whnf
    have hl9 : (Lib.itoa s.c).length ≤ 29 := by simpa [fieldT] using hlen
    refine ⟨by show 1 + (Lib.itoa s.c).length ≤ _; omega, ?_⟩
    conv => whnf
    constructor
    conv => whnf
    refine ⟨rfl, Nat.le_of_ble_eq_true rfl, Nat.le_of_ble_eq_true rfl, rfl, ?_⟩
    conv => whnf
    exact q
  · conv => whnf
    refine itoa_to rfl hi.1 hi.2 ?_
    conv => whnf
    constructor
    conv => whnf
    refine ⟨rfl, Nat.le_of_ble_eq_true rfl, Nat.le_of_ble_eq_true rfl, rfl, ?_⟩
    conv => whnf
    exact q
  · conv => whnf
    refine itoa_to rfl hi.1 hi.2 ?_
    conv => whnf
    constructor
    conv => whnf
    refine ⟨rfl, Nat.le_of_ble_eq_true rfl, Nat.le_of_ble_eq_true rfl, rfl, ?_⟩
    conv => whnf
    exact q
theorem pr_2 (m op : Int) (s : DS) (hs : inI s.a ∧ inI s.b ∧ inI s.c ∧ inI s.i) (l : List UInt8) (x0 x1 x2 y0 y1 : List UInt8) (ch : UInt8) (hl : l.length ≤ 100) (hc : l[2]? = some ch) (hm : ch = 97 ∨ ch = 98 ∨ ch = 99 ∨ ch = 105 ∨ ch = 106) (hlen : (fieldT s ch).length ≤ 30) (Q : Out → Env → St → Prop)
    (q : LoopF (X3 m) [3, 4, 24] c13L0 [(3, .p 11 0 0), (4, .sl 12 3 0 4 1), (24, .p 13 0 0)] (SP m (cellsI op s) [x0, x1, x2, fieldT s ch] 3 l 3 [⟨0, false, .cells 9 [.s y0]⟩, ⟨0, false, .cells 9 [.s y1]⟩, ⟨0, false, .cells 9 [.s (fieldT s ch)]⟩]) Q) :
    LoopF (X3 m) [3, 4, 24] c13L0 [(3, .p 11 0 0), (4, .sl 12 2 0 3 1), (24, .p 13 0 0)] (SP m (cellsI op s) [x0, x1, x2] 2 l 2 [⟨0, false, .cells 9 [.s y0]⟩, ⟨0, false, .cells 9 [.s y1]⟩]) Q := by
  have hpl : 2 < l.length := (List.getElem?_eq_some_iff.1 hc).1
  have hdec : Utf8.decode ⟨l.toArray⟩ 2 = (ch.toNat, 1) := decode_ascii l 2 ch hc (by rcases hm with rfl | rfl | rfl | rfl | rfl <;> decide)
  obtain ⟨ha, hb, hcc, hi⟩ := hs
  refine LoopF.round tyB_ok (lit := true) ?_
  conv => whnf
  rw [decide_eq_true (by show 2 < l.length; omega)]
  conv => whnf
  rw [hdec]
  rcases hm with rfl | rfl | rfl | rfl | rfl
  · conv => whnf
    refine itoa_to rfl ha.1 ha.2 ?_
    conv => whnf
    have hl9 : (Lib.itoa s.a).length ≤ 29 := by simpa [fieldT] using hlen
    refine ⟨by show 1 + (Lib.itoa s.a).length ≤ _; omega, ?_⟩
    conv => whnf
    constructor
    conv => whnf
    refine ⟨rfl, Nat.le_of_ble_eq_true rfl, Nat.le_of_ble_eq_true rfl, rfl, ?_⟩
    conv => whnf
    exact q
  · conv => whnf
    refine itoa_to rfl hb.1 hb.2 ?_
    conv => whnf
    have hl9 : (Lib.itoa s.b).length ≤ 29 := by simpa [fieldT] using hlen
    refine ⟨by show 1 + (Lib.itoa s.b).length ≤ _; omega, ?_⟩
    conv => whnf
    constructor
    conv => whnf
    refine ⟨rfl, Nat.le_of_ble_eq_true rfl, Nat.le_of_ble_eq_true rfl, rfl, ?_⟩
    conv => whnf
    exact q
  · conv => whnf
    refine itoa_to rfl hcc.1 hcc.2 ?_
    conv => whnf
    have hl9 : (Lib.itoa s.c).length ≤ 29 := by simpa [fieldT] using hlen
    refine ⟨by show 1 + (Lib.itoa s.c).length ≤ _; omega, ?_⟩
    conv => whnf
    constructor
    conv => whnf
    refine ⟨rfl, Nat.le_of_ble_eq_true rfl, Nat.le_of_ble_eq_true rfl, rfl, ?_⟩
    conv => whnf
    exact q
  · conv => whnf
    refine itoa_to rfl hi.1 hi.2 ?_
    conv => whnf
    constructor
    conv => whnf
    refine ⟨rfl, Nat.le_of_ble_eq_true rfl, Nat.le_of_ble_eq_true rfl, rfl, ?_⟩
    conv => whnf
    exact q
  · conv => whnf
    refine itoa_to rfl hi.1 hi.2 ?_
    conv => whnf
    constructor
    conv => whnf
    refine ⟨rfl, Nat.le_of_ble_eq_true rfl, Nat.le_of_ble_eq_true rfl, rfl, ?_⟩
    conv => whnf
    exact q
theorem pr_end (m op : Int) (s : DS) (l : List UInt8) (k : Nat) (ws : List (List UInt8)) (t : St) (hk : k = l.length) (Q : Out → Env → St → Prop)
    (q : ∀ e', get e' 4 = .sl 12 k 0 (k + 1) 1 → Q (.exit 0) e' (SP m (cellsI op s) ws k l k t)) :
    LoopF (X3 m) [3, 4, 24] c13L0 [(3, .p 11 0 0), (4, .sl 12 k 0 (k + 1) 1), (24, .p 13 0 0)] (SP m (cellsI op s) ws k l k t) Q := by
  refine LoopF.round tyB_ok (lit := true) ?_
  conv => whnf
  rw [decide_eq_false (by show ¬ k < l.length; omega)]
  conv => whnf
  exact q _ rfl
end Go.Abs.YtkfcbgmamfnajaaGreatDoor
/- asm.Print, whole. -/
namespace Go.Abs.YtkfcbgmamfnajaaGreatDoor
open Go.Proofs
set_option maxRecDepth 4000

theorem join_len (sep : List UInt8) : ∀ xs : List (List UInt8), (Lib.join xs sep).length ≤ sumLen xs + xs.length * sep.length
  | [] => by rw [Lib.join_nil]; exact Nat.zero_le _
  | x :: r => by
    rw [Lib.join_cons]
    have : ∀ r : List (List UInt8), (Lib.joinTail sep r).length ≤ sumLen r + r.length * sep.length := by
      intro r
      induction r with
      | nil => exact Nat.zero_le _
      | cons y r ih =>
        have e : Lib.joinTail sep (y :: r) = (sep ++ y) ++ Lib.joinTail sep r := by simp [Lib.joinTail]
        rw [e, List.length_append, List.length_append, List.length_cons, Nat.succ_mul]
        simp only [sumLen]; omega
    have h := this r
    rw [List.length_append, List.length_cons, Nat.succ_mul]
    simp only [sumLen]; omega
theorem join_to {m : Int} {o g n : Nat} {xs : List (List UInt8)} {σ : St} {Q : AV → St → Prop} (hc : cellsAt σ o g = some (xs.map AV.s)) (hn : n = xs.length) (hl : sumLen xs + xs.length ≤ 1000000) (q : Q (.s (Lib.join xs [32])) σ) : CallF (X3 m) 30 [.sl o g 0 n 1] σ Q := by
  refine CallF.body (F := F30) tyB_ok (lit := false) rfl rfl (Nat.le_of_ble_eq_true rfl) ?_
  conv => whnf
  have hjl := join_len [32] xs
  have hp : pJoin [.sl o g 0 n 1, .s [32]] σ = some (.s (Lib.join xs [32]), σ) := by
    show (match cellsAt σ o g with
    | some cs => if 0 + n ≤ cs.length ∧ n ≤ 140737488355328 then (match strsOf ((cs.drop 0).take n) with
      | some xs => if (Lib.join xs [32]).length ≤ 140737488355328 then some (AV.s (Lib.join xs [32]), σ) else none
      | none => none) else none
    | none => none) = _
    rw [hc]
    simp only
    rw [if_pos ⟨by rw [List.length_map]; omega, by omega⟩, List.drop_zero, List.take_of_length_le (by rw [List.length_map]; omega), strsOf_map]
    simp only
    rw [if_pos (by simp at hjl; omega)]
  refine CallF.prim (g := pJoin) rfl hp ?_
  conv => whnf
  exact Fin.flat rfl List.take_length q
theorem wrap_inI (x : Int) : inI (IntKind.i64.wrap x) := by
  unfold inI
  simp only [IntKind.wrap, IntKind.signed, IntKind.bits, Bool.true_and]
  split <;> rename_i h <;> simp at h <;> omega
theorem tk_inI (w a b : Int) : inI (tk w a b) := wrap_inI _
theorem sg_inI (w a b : Int) : inI (sg w a b) := wrap_inI _
theorem dec_inI (w : Int) : inI (decP w).2.a ∧ inI (decP w).2.b ∧ inI (decP w).2.c ∧ inI (decP w).2.i := by
  have h0 : inI 0 := ⟨by decide, by decide⟩
  have key : ∀ (l : List UInt8) (s : DS), inI s.a ∧ inI s.b ∧ inI s.c ∧ inI s.i → inI (l.foldl (dStep w) s).a ∧ inI (l.foldl (dStep w) s).b ∧ inI (l.foldl (dStep w) s).c ∧ inI (l.foldl (dStep w) s).i := by
    intro l
    induction l with
    | nil => intro s h; exact h
    | cons ch l ih =>
      intro s h
      refine ih _ ?_
      unfold dStep
      repeat' split
      · exact ⟨tk_inI _ _ _, h.2⟩
      · exact ⟨h.1, tk_inI _ _ _, h.2.2⟩
      · exact ⟨h.1, h.2.1, tk_inI _ _ _, h.2.2.2⟩
      · exact ⟨h.1, h.2.1, h.2.2.1, sg_inI _ _ _⟩
      · exact ⟨h.1, h.2.1, h.2.2.1, sg_inI _ _ _⟩
      · exact h
  unfold decP
  split
  · exact key _ _ ⟨h0, h0, h0, h0⟩
  · exact ⟨h0, h0, h0, h0⟩
theorem field_len {s : DS} (h : inI s.a ∧ inI s.b ∧ inI s.c ∧ inI s.i) (ch : UInt8) : (fieldT s ch).length ≤ 30 := by
  have k : ∀ x, inI x → (Lib.itoa x).length ≤ 21 := fun x hx => Lib.itoa_length_le x hx.1 hx.2
  have := k _ h.1; have := k _ h.2.1; have := k _ h.2.2.1; have := k _ h.2.2.2
  unfold fieldT
  repeat' split
  all_goals (try simp only [List.length_cons]); omega
def wordB : List UInt8 := [119, 111, 114, 100]
def printP (w : Int) : List UInt8 := if (decP w).1 = 0 then Lib.join [wordB, Lib.decDigits w.toNat] [32] else Lib.join (nameI (decP w).1 :: (formI (decP w).1).map (fieldT (decP w).2)) [32]
theorem form_len (op : Int) : (formI op).length ≤ 3 := by
  unfold formI
  split
  · decide
  · rcases form_cases op.toNat with h | h | h | h | h | h | h <;> rw [h] <;> decide
theorem name_len (op : Int) : (nameI op).length ≤ 10 := by
  unfold nameI
  split
  · decide
  · unfold nameOf
    have h : ∀ r ∈ ([], []) :: opRows, r.1.length ≤ 10 := by decide
    refine h _ ?_
    rw [List.getD_eq_getElem?_getD]
    cases hq : opRows[op.toNat]? with
    | none => exact List.mem_cons_self
    | some r => exact List.mem_cons_of_mem _ (List.mem_of_getElem? hq)
theorem fu_to {m : Int} {n : Nat} {σ : St} {Q : AV → St → Prop} (h : σ.take 11 = G0 m) (h1 : n < 18446744073709551616) (q : Q (.s (Lib.decDigits n)) σ) : CallF (X3 m) 31 [.i .u64 n, .i .i64 10] σ Q := by
  refine CallF.body (F := F31) tyB_ok (lit := false) rfl rfl (Nat.le_of_ble_eq_true rfl) ?_
  conv => whnf
  have hp : pFormatUint [.i .u64 n, .i .i64 10] σ = some (.s (Lib.decDigits n), σ) := by
    simp only [pFormatUint]
    rw [if_pos ⟨by omega, by omega, okTab0 h⟩, Int.toNat_natCast]
  refine CallF.prim (g := pFormatUint) rfl hp ?_
  conv => whnf
  exact Fin.flat rfl List.take_length q
theorem print_to (m w : Int) (h0 : 0 ≤ w) (h1 : w < 4294967296) : CallF (X3 m) 13 [.i .u32 w] (G0 m) fun v s => v = .s (printP w) ∧ s = G0 m := by
  refine CallF.body (F := F13) tyB_ok (lit := true) rfl rfl (Nat.le_of_ble_eq_true rfl) ?_
  conv => whnf
  refine CallF.law (lawDec m) rfl rfl rfl ?_
  have hI := dec_inI w
  unfold printP
  generalize decP w = d at hI ⊢
  obtain ⟨op, s⟩ := d
  simp only at hI ⊢
  conv => whnf
  by_cases ho : op = 0
  · rw [if_pos ho, show decide ((op, s).fst = 0) = true from decide_eq_true ho]
    conv => whnf
    refine ⟨_, wrap_u64 h0 (by omega), ?_⟩
    obtain ⟨k, rfl⟩ : ∃ k : Nat, w = k := ⟨w.toNat, by omega⟩
    conv => whnf
    refine fu_to rfl (by omega) ?_
    conv => whnf
    have hdl := dec_len (n := k) (by omega)
    refine join_to (xs := [wordB, Lib.decDigits k]) rfl rfl (by simp [sumLen, wordB]; omega) ?_
    conv => whnf
    exact Fin.flat rfl rfl ⟨rfl, rfl⟩
  · rw [if_neg ho, show decide ((op, s).fst = 0) = false from decide_eq_false ho]
    conv => whnf
    refine CallF.under rfl rfl (CallF.under rfl rfl (CallF.law (lawName m) rfl rfl rfl ?_))
    conv => whnf
    refine CallF.under rfl rfl (CallF.under rfl rfl (CallF.law (lawForm m) rfl rfl rfl ?_))
    conv => whnf
    have hfl := form_len op
    obtain ⟨_, hch⟩ := form_small op
    have hfd := field_len hI
    have hnl := name_len op
    generalize nameI op = nm at hnl ⊢
    generalize formI op = l at hfl hch ⊢
    show LoopF (X3 m) [3, 4, 24] c13L0 [(3, .p 11 0 0), (4, .sl 12 0 0 1 1), (24, .p 13 0 0)] (SP m (cellsI op s) [nm] 0 l 0 []) _
    match l, hfl, hch with
    | [], _, _ =>
      refine pr_end m op s [] 0 [nm] [] rfl _ (fun e' g4 => ?_)
      conv => whnf
      rw [g4]
      conv => whnf
      refine join_to (xs := [nm]) rfl rfl (by simp [sumLen]; omega) ?_
      conv => whnf
      exact Fin.flat rfl rfl ⟨rfl, rfl⟩
    | [c0], _, hch =>
      have f0 := hfd c0
      refine pr_0 m op s hI _ nm c0 (by simp) rfl (hch _ (by simp)) f0 _ ?_
      refine pr_end m op s _ 1 [nm, fieldT s c0] _ rfl _ (fun e' g4 => ?_)
      conv => whnf
      rw [g4]
      conv => whnf
      refine join_to (xs := [nm, fieldT s c0]) rfl rfl (by simp [sumLen]; omega) ?_
      conv => whnf
      exact Fin.flat rfl rfl ⟨rfl, rfl⟩
    | [c0, c1], _, hch =>
      have f0 := hfd c0
      have f1 := hfd c1
      refine pr_0 m op s hI _ nm c0 (by simp) rfl (hch _ (by simp)) f0 _ ?_
      refine pr_1 m op s hI _ nm (fieldT s c0) (fieldT s c0) c1 (by simp) rfl (hch _ (by simp)) f1 _ ?_
      refine pr_end m op s _ 2 [nm, fieldT s c0, fieldT s c1] _ rfl _ (fun e' g4 => ?_)
      conv => whnf
      rw [g4]
      conv => whnf
      refine join_to (xs := [nm, fieldT s c0, fieldT s c1]) rfl rfl (by simp [sumLen]; omega) ?_
      conv => whnf
      exact Fin.flat rfl rfl ⟨rfl, rfl⟩
    | [c0, c1, c2], _, hch =>
      have f0 := hfd c0
      have f1 := hfd c1
      have f2 := hfd c2
      refine pr_0 m op s hI _ nm c0 (by simp) rfl (hch _ (by simp)) f0 _ ?_
      refine pr_1 m op s hI _ nm (fieldT s c0) (fieldT s c0) c1 (by simp) rfl (hch _ (by simp)) f1 _ ?_
      refine pr_2 m op s hI _ nm (fieldT s c0) (fieldT s c1) (fieldT s c0) (fieldT s c1) c2 (by simp) rfl (hch _ (by simp)) f2 _ ?_
      refine pr_end m op s _ 3 [nm, fieldT s c0, fieldT s c1, fieldT s c2] _ rfl _ (fun e' g4 => ?_)
      conv => whnf
      rw [g4]
      conv => whnf
      refine join_to (xs := [nm, fieldT s c0, fieldT s c1, fieldT s c2]) rfl rfl (by simp [sumLen]; omega) ?_
      conv => whnf
      exact Fin.flat rfl rfl ⟨rfl, rfl⟩
    | _ :: _ :: _ :: _ :: _, h, _ => simp at h
end Go.Abs.YtkfcbgmamfnajaaGreatDoor
/- Numbers, registers, names of labels, as texts. -/
namespace Go.Abs.YtkfcbgmamfnajaaGreatDoor
open Go.Proofs
set_option maxRecDepth 4000

def plainN (l : List UInt8) : Int := match Lib.parseIntB 64 l with
  | .ok u => u
  | .range => Lib.intSat 64 l
  | _ => 0
def plainB (l : List UInt8) : Bool := match Lib.parseIntB 64 l with
  | .ok n => Lib.itoa n == l
  | _ => false
theorem plain_num (l : List UInt8) (n : Int) : numP l = some n ↔ plainB l = true ∧ plainN l = n := by
  unfold numP plainB plainN
  cases Lib.parseIntB 64 l with
  | ok u =>
    simp only [beq_iff_eq]
    constructor
    · intro h
      split at h
      · rename_i he; cases h; exact ⟨he, rfl⟩
      · cases h
    · rintro ⟨h1, rfl⟩; rw [if_pos h1]
  | range => simp
  | _ => simp
theorem formatInt_to {m : Int} {n : Int} {σ : St} {Q : AV → St → Prop} (h : σ.take 11 = G0 m) (h1 : -9223372036854775808 ≤ n) (h2 : n ≤ 9223372036854775807) (q : Q (.s (Lib.itoa n)) σ) : CallF (X3 m) 100 [.i .i64 n, .i .i64 10] σ Q := by
  have hp : pFormatInt [.i .i64 n, .i .i64 10] σ = some (.s (Lib.itoa n), σ) := by
    simp only [pFormatInt]
    rw [if_pos ⟨h1, h2, okTab0 h⟩]
  exact CallF.prim (g := pFormatInt) rfl hp q
theorem plain_to (m : Int) (l : List UInt8) (hl : l.length ≤ 281474976710656) : CallF (X3 m) 65 [.s l] (G0 m) fun v s => v = .tu [.i .i64 (plainN l), .b (plainB l)] ∧ s = G0 m := by
  refine CallF.body (F := F65) tyB_ok (lit := true) rfl rfl (Nat.le_of_ble_eq_true rfl) ?_
  conv => whnf
  unfold plainN plainB
  cases hp : Lib.parseIntB 64 l with
  | ok u =>
    have hq : pParseInt [.s l, .i .i64 10, .i .i64 64] (G0 m) = some (.tu [.i .i64 u, .ic0], G0 m) := by
      simp only [pParseInt]
      rw [if_pos hl, hp]
    refine CallF.prim (g := pParseInt) rfl hq ?_
    conv => whnf
    have hb := bounds64 hp
    refine formatInt_to rfl hb.1 (by omega) ?_
    conv => whnf
    cases he : Lib.itoa u == l with
    | true =>
      conv => whnf
      exact Fin.flat rfl rfl ⟨by show AV.tu [.i .i64 u, .b true] = .tu [.i .i64 u, .b (Lib.itoa u == l)]; rw [he], rfl⟩
    | false =>
      conv => whnf
      exact Fin.flat rfl rfl ⟨by show AV.tu [.i .i64 u, .b false] = .tu [.i .i64 u, .b (Lib.itoa u == l)]; rw [he], rfl⟩
  | range =>
    have hq : pParseInt [.s l, .i .i64 10, .i .i64 64] (G0 m) = some (.tu [.i .i64 (Lib.intSat 64 l), .ic 195 .u], G0 m) := by
      simp only [pParseInt]
      rw [if_pos hl, hp]; rfl
    refine CallF.prim (g := pParseInt) rfl hq ?_
    conv => whnf
    exact Fin.flat rfl rfl ⟨rfl, rfl⟩
  | _ =>
    have hq : pParseInt [.s l, .i .i64 10, .i .i64 64] (G0 m) = some (.tu [.i .i64 0, .ic 195 .u], G0 m) := by
      simp only [pParseInt]
      rw [if_pos hl, hp]; rfl
    refine CallF.prim (g := pParseInt) rfl hq ?_
    conv => whnf
    exact Fin.flat rfl rfl ⟨rfl, rfl⟩
def lawPlain (m : Int) : Law (X3 m) (G0 m) := ⟨65, fun | [.s l] => if l.length ≤ 281474976710656 then some (.tu [.i .i64 (plainN l), .b (plainB l)]) else none | _ => none, fun args v h => by
  split at h
  · split at h
    · rename_i hl; cases h; exact ⟨rfl, rfl, plain_to m _ hl⟩
    · cases h
  · cases h⟩
def lawPrint (m : Int) : Law (X3 m) (G0 m) := ⟨13, fun | [.i .u32 w] => if 0 ≤ w ∧ w < 4294967296 then some (.s (printP w)) else none | _ => none, fun args v h => by
  split at h
  · split at h
    · rename_i hl; cases h; exact ⟨rfl, rfl, print_to m _ hl.1 hl.2⟩
    · cases h
  · cases h⟩
@[reducible] noncomputable def X4 (m : Int) : Ctx := (X3 m).knows (G0 m) [lawPlain m, lawPrint m]
theorem X4_sound (m : Int) : (X4 m).Sound 11 := Ctx.knows_sound (X3_sound m) (okG0 m) _
def cut99 (l : List UInt8) : List UInt8 := Lib.trimPrefix l [99]
def regN (l : List UInt8) : Int := plainN (cut99 l)
def regB (l : List UInt8) : Bool := plainB (cut99 l) && Lib.hasPrefix l [99] && decide (0 ≤ plainN (cut99 l)) && decide (plainN (cut99 l) < 16)
theorem reg_to (m : Int) (l : List UInt8) (hl : l.length ≤ 281474976710656) : CallF (X4 m) 67 [.s l] (G0 m) fun v s => v = .tu [.i .i64 (regN l), .b (regB l)] ∧ s = G0 m := by
  refine CallF.body (F := F67) tyB_ok (lit := true) rfl rfl (Nat.le_of_ble_eq_true rfl) ?_
  conv => whnf
  refine CallF.prim (g := pTrimPrefix) rfl rfl ?_
  conv => whnf
  have hlt : (cut99 l).length ≤ 281474976710656 := Nat.le_trans (Lib.trimPrefix_le l [99]) hl
  refine CallF.law (lawPlain m) rfl (v := .tu [.i .i64 (plainN (cut99 l)), .b (plainB (cut99 l))]) (if_pos hlt) rfl ?_
  unfold regN regB
  conv => whnf
  cases hb : plainB (cut99 l) with
  | false =>
    conv => whnf
    exact Fin.flat rfl rfl ⟨rfl, rfl⟩
  | true =>
    conv => whnf
    refine CallF.prim (g := pHasPrefix) rfl rfl ?_
    conv => whnf
    cases hp : Lib.hasPrefix l [99] with
    | false =>
      conv => whnf
      exact Fin.flat rfl rfl ⟨rfl, rfl⟩
    | true =>
      conv => whnf
      cases h0 : decide (0 ≤ plainN (cut99 l)) with
      | false =>
        conv => whnf
        exact Fin.flat rfl rfl ⟨rfl, rfl⟩
      | true =>
        conv => whnf
        cases h1 : decide (plainN (cut99 l) < 16) with
        | false =>
          conv => whnf
          exact Fin.flat rfl rfl ⟨rfl, rfl⟩
        | true =>
          conv => whnf
          exact Fin.flat rfl rfl ⟨rfl, rfl⟩

def jumpB (op : Int) : Bool := decide (op = 25) || decide (op = 26) || decide (op = 27) || decide (op = 28) || decide (op = 29)
theorem jumps_to (m op : Int) : CallF (X4 m) 68 [.i .i64 op] (G0 m) fun v s => v = .b (jumpB op) ∧ s = G0 m := by
  refine CallF.body (F := F68) tyB_ok (lit := true) rfl rfl (Nat.le_of_ble_eq_true rfl) ?_
  unfold jumpB
  conv => whnf
  cases h0 : decide (op = 25) with
  | true => conv => whnf
            exact Fin.flat rfl rfl ⟨rfl, rfl⟩
  | false =>
  conv => whnf
  cases h1 : decide (op = 26) with
  | true => conv => whnf
            exact Fin.flat rfl rfl ⟨rfl, rfl⟩
  | false =>
  conv => whnf
  cases h2 : decide (op = 27) with
  | true => conv => whnf
            exact Fin.flat rfl rfl ⟨rfl, rfl⟩
  | false =>
  conv => whnf
  cases h3 : decide (op = 28) with
  | true => conv => whnf
            exact Fin.flat rfl rfl ⟨rfl, rfl⟩
  | false =>
  conv => whnf
  cases h4 : decide (op = 29) with
  | true => conv => whnf
            exact Fin.flat rfl rfl ⟨rfl, rfl⟩
  | false =>
  conv => whnf
  exact Fin.flat rfl rfl ⟨rfl, rfl⟩
def lawJumps (m : Int) : Law (X4 m) (G0 m) := ⟨68, fun | [.i .i64 op] => some (.b (jumpB op)) | _ => none, fun args v h => by
  split at h
  · cases h; exact ⟨rfl, rfl, jumps_to m _⟩
  · cases h⟩
def lawReg (m : Int) : Law (X4 m) (G0 m) := ⟨67, fun | [.s l] => if l.length ≤ 281474976710656 then some (.tu [.i .i64 (regN l), .b (regB l)]) else none | _ => none, fun args v h => by
  split at h
  · split at h
    · rename_i hl; cases h; exact ⟨rfl, rfl, reg_to m _ hl⟩
    · cases h
  · cases h⟩
end Go.Abs.YtkfcbgmamfnajaaGreatDoor
/-! `name` of fallow/asm. -/
namespace Go.Abs.YtkfcbgmamfnajaaGreatDoor
open Go.Proofs
set_option maxRecDepth 100000
set_option maxHeartbeats 4000000
@[reducible] noncomputable def X5 (m : Int) : Ctx := (X4 m).knows (G0 m) [lawJumps m, lawReg m]
theorem X5_sound (m : Int) : (X5 m).Sound 11 := Ctx.knows_sound (X4_sound m) (okG0 m) _
def nameC (c : UInt8) : Bool := decide (97 ≤ c ∧ c ≤ 122) || decide (48 ≤ c ∧ c ≤ 57) || c == 95
def digitC (c : UInt8) : Bool := decide (48 ≤ c ∧ c ≤ 57)
def nameL (l : List UInt8) : Bool := decide (1 ≤ l.length) && decide (l.length ≤ 32) && l.all nameC && !digitC (l.headD 0)
def nmCs : List UInt8 := [97, 98, 99, 100, 101, 102, 103, 104, 105, 106, 107, 108, 109, 110, 111, 112, 113, 114, 115, 116, 117, 118, 119, 120, 121, 122, 95, 48, 49, 50, 51, 52, 53, 54, 55, 56, 57]
def dgCs : List UInt8 := [48, 49, 50, 51, 52, 53, 54, 55, 56, 57]
theorem u8_all {P : UInt8 → Bool} (h : (List.range 256).all (fun n => P (UInt8.ofNat n)) = true) (c : UInt8) : P c = true := by
  have := List.all_eq_true.mp h c.toNat (List.mem_range.mpr c.toNat_lt)
  simpa using this
theorem nmCs_eq (c : UInt8) : nmCs.contains c = nameC c := by
  have := u8_all (P := fun c => nmCs.contains c == nameC c) (by decide +kernel) c
  simpa using this
theorem dgCs_eq (c : UInt8) : decide (0 ≤ Lib.indexByte dgCs c) = digitC c := by
  have := u8_all (P := fun c => decide (0 ≤ Lib.indexByte dgCs c) == digitC c) (by decide +kernel) c
  simpa using this
theorem dropWhile_nil {α} (p : α → Bool) : ∀ l : List α, l.dropWhile p = [] ↔ l.all p = true
  | [] => by simp
  | a :: l => by
    rw [List.dropWhile_cons, List.all_cons]
    cases h : p a with
    | false => simp
    | true => simp [dropWhile_nil p l]
theorem trimS_nil (l cs : List UInt8) : (Lib.trimS l cs == []) = l.all (cs.contains ·) := by
  have h1 : Lib.trimS l cs = [] ↔ l.all (cs.contains ·) = true := by
    unfold Lib.trimS Lib.trimLeftS
    rw [dropWhile_nil]
    unfold Lib.trimRightS
    constructor
    · intro h
      have h2 : (l.reverse.dropWhile (cs.contains ·)) = [] := by
        cases h3 : l.reverse.dropWhile (cs.contains ·) with
        | nil => rfl
        | cons a t =>
          rw [h3] at h
          have h4 : cs.contains a = true := List.all_eq_true.mp h a (by simp)
          have h5 : (a :: t).head? = some a := rfl
          rw [← h3] at h5
          have := List.head?_dropWhile_not (p := (cs.contains ·)) (l := l.reverse)
          rw [h5] at this
          simp_all
      rw [dropWhile_nil] at h2
      simpa using h2
    · intro h
      have h2 : l.reverse.dropWhile (cs.contains ·) = [] := by rw [dropWhile_nil]; simpa using h
      rw [h2]; rfl
  cases h2 : l.all (cs.contains ·) with
  | true => rw [h1.mpr h2]; rfl
  | false =>
    cases h3 : (Lib.trimS l cs == []) with
    | false => rfl
    | true => rw [h1.mp (by simpa using h3)] at h2; cases h2
theorem nm_to (m : Int) (l : List UInt8) (hl : l.length ≤ 281474976710656) : CallF (X5 m) 45 [.s l] (G0 m) fun v s => v = .b (nameL l) ∧ s = G0 m := by
  refine CallF.body (F := F45) tyB_ok (lit := true) rfl rfl (Nat.le_of_ble_eq_true rfl) ?_
  rcases l with _ | ⟨c, l⟩
  · conv => whnf
    exact Fin.flat rfl rfl ⟨rfl, rfl⟩
  · conv => whnf
    rw [decide_eq_true (show (1:Int) ≤ ((c :: l).length : Nat) by simp only [List.length_cons]; omega)]
    conv => whnf
    have e1 : decide (((c :: l).length : Int) ≤ 32) = decide ((c :: l).length ≤ 32) := by
      by_cases h : (c :: l).length ≤ 32
      · rw [decide_eq_true h, decide_eq_true (by omega)]
      · rw [decide_eq_false h, decide_eq_false (by omega)]
    rw [e1]
    cases h1 : decide ((c :: l).length ≤ 32) with
    | false =>
      conv => whnf
      refine Fin.flat rfl rfl ⟨?_, rfl⟩
      unfold nameL
      rw [h1, Bool.and_false]; rfl
    | true =>
      conv => whnf
      have hp : pTrim [.s (c :: l), .s nmCs] (G0 m) = some (.s (Lib.trimS (c :: l) nmCs), G0 m) := by
        simp only [pTrim]; rw [if_pos ⟨by omega, by decide, by decide⟩]
      refine CallF.prim (g := pTrim) rfl hp ?_
      conv => whnf
      rw [trimS_nil, show (fun x => nmCs.contains x) = nameC from funext nmCs_eq]
      cases h2 : (c :: l).all nameC with
      | false =>
        conv => whnf
        refine Fin.flat rfl rfl ⟨?_, rfl⟩
        unfold nameL
        rw [h2, Bool.and_false]; rfl
      | true =>
        conv => whnf
        refine ⟨1, rfl, by simp only [List.length_cons]; omega, ?_⟩
        conv => whnf
        have hq : pContains [.s dgCs, .s [c]] (G0 m) = some (.b (decide (0 ≤ Lib.indexByte dgCs c)), G0 m) := rfl
        refine CallF.prim (g := pContains) rfl hq ?_
        conv => whnf
        rw [dgCs_eq]
        have hv : nameL (c :: l) = !digitC c := by
          unfold nameL
          rw [h1, h2]
          show (decide (1 ≤ (c :: l).length) && true && true && !digitC c) = !digitC c
          rw [decide_eq_true (show 1 ≤ (c :: l).length by simp only [List.length_cons]; omega)]; rfl
        rw [hv]
        cases digitC c with
        | false => conv => whnf
                   exact Fin.flat rfl rfl ⟨rfl, rfl⟩
        | true => conv => whnf
                  exact Fin.flat rfl rfl ⟨rfl, rfl⟩
def lawNm (m : Int) : Law (X5 m) (G0 m) := ⟨45, fun | [.s l] => if l.length ≤ 281474976710656 then some (.b (nameL l)) else none | _ => none, fun args v h => by
  split at h
  · split at h
    · rename_i hl; cases h; exact ⟨rfl, rfl, nm_to m _ hl⟩
    · cases h
  · cases h⟩
@[reducible] noncomputable def X6 (m : Int) : Ctx := (X5 m).knows (G0 m) [lawNm m]
theorem X6_sound (m : Int) : (X6 m).Sound 11 := Ctx.knows_sound (X5_sound m) (okG0 m) _
end Go.Abs.YtkfcbgmamfnajaaGreatDoor
/- The layer Abs, part 29: a caller's own cells as one more object of the store, only to be read. -/
namespace Go.Abs
open Go.RowKit Go.ChangeShapes
variable {G : Nat} {σ : St} {μ : Mu} {w : World}

theorem Sim.addRo (hs : Sim G μ σ w) (hro : ∀ (o : Nat) (a : AO), σ[o]? = some a → a.ro = false → a.k.live = true → False) {b δ e : Nat} {cs : List AV} {ccs : Array Value} {fr : Nat × Nat}
    (hb : w.heap[b]? = some (.cells ccs e fr)) (hl : δ + cs.length ≤ ccs.size) (hc : ∀ (j : Nat) c, cs[j]? = some c → ∃ v, ccs[δ + j]? = some v ∧ VRel μ w c v) :
    ∃ μ', Sim G μ' (σ ++ [⟨1, true, .cells e cs⟩]) w ∧ μ' σ.length 1 = some (b, δ) ∧ μ.le μ' := by
  have hnew : ∀ g', μ σ.length g' = none := by
    intro g'
    cases hm : μ σ.length g' with
    | none => rfl
    | some x =>
      obtain ⟨a, h1, _⟩ := hs.dom _ _ _ hm
      rw [List.getElem?_eq_none (Nat.le_refl _)] at h1; cases h1
  let μ2 : Mu := fun o' g' => if o' = σ.length ∧ g' = 1 then some (b, δ) else μ o' g'
  have hμ2 : ∀ o' g', o' ≠ σ.length → μ2 o' g' = μ o' g' := fun o' g' hne => if_neg fun e => hne e.1
  have hμN : μ2 σ.length 1 = some (b, δ) := if_pos ⟨rfl, rfl⟩
  have hle : μ.le μ2 := fun o' g' x hx => by
    rcases Nat.decEq o' σ.length with hne | heq
    · rw [hμ2 o' g' hne]; exact hx
    · rw [heq, hnew] at hx; cases hx
  have hold : ∀ {o' : Nat} {a : AO}, (σ ++ [⟨1, true, .cells e cs⟩])[o']? = some a → (o' < σ.length ∧ σ[o']? = some a) ∨ (o' = σ.length ∧ a = ⟨1, true, .cells e cs⟩) := by
    intro o' a h
    rcases Nat.lt_trichotomy o' σ.length with hl | he | hg
    · rw [List.getElem?_append_left hl] at h; exact .inl ⟨hl, h⟩
    · subst he; simp at h; exact .inr ⟨rfl, h.symm⟩
    · rw [List.getElem?_eq_none (by simp; omega)] at h; cases h
  refine ⟨μ2, ⟨fun o' a ho' hl' => ?_, fun o1 o2 a1 a2 b' δ1 δ2 h1 _ hr hl1 _ _ _ => ?_, fun o' g' x hx => ?_, fun o' g' b' δ' hb' => ?_, fun g' hg' => hle _ _ _ (hs.glob g' hg'), fun o' b' δ' hb' => ?_, fun g' e' cs' hg' ho' => ?_⟩, hμN, hle⟩
  · rcases hold ho' with ⟨hlt, h⟩ | ⟨rfl, rfl⟩
    · obtain ⟨b', δ', q1, q2⟩ := hs.obj o' a h hl'
      exact ⟨b', δ', hle _ _ _ q1, ORel.mono hle (WExt.refl _) rfl q2⟩
    · refine ⟨b, δ, hμN, ccs, fr, hb, hl, fun j c hj => ?_, fun h => by cases h⟩
      obtain ⟨v, r1, r2⟩ := hc j c hj
      exact ⟨v, r1, VRel.mono hle (WExt.refl _) c v r2⟩
  · rcases hold h1 with ⟨_, q⟩ | ⟨rfl, rfl⟩
    · exact (hro _ _ q hr hl1).elim
    · cases hr
  · rcases Nat.decEq o' σ.length with hne | heq
    · rw [hμ2 o' g' hne] at hx
      obtain ⟨a, q1, q2⟩ := hs.dom _ _ _ hx
      exact ⟨a, by rw [List.getElem?_append_left (List.getElem?_eq_some_iff.1 q1).1]; exact q1, q2⟩
    · subst heq
      refine ⟨⟨1, true, .cells e cs⟩, by simp, ?_⟩
      have : g' = 1 := by
        rcases Nat.decEq g' 1 with hne | h0
        · have e1 : μ2 σ.length g' = μ σ.length g' := if_neg fun e => hne e.2
          rw [e1, hnew] at hx; cases hx
        · exact h0
      show g' ≤ 1
      omega
  · rcases Nat.decEq o' σ.length with hne | heq
    · rw [hμ2 o' g' hne] at hb'
      exact hs.blk _ _ _ _ hb'
    · subst heq
      rcases Nat.decEq g' 1 with hne | h0
      · have e1 : μ2 σ.length g' = μ σ.length g' := if_neg fun e => hne e.2
        rw [e1, hnew] at hb'; cases hb'
      · subst h0
        rw [hμN] at hb'; cases hb'
        exact (Array.getElem?_eq_some_iff.1 hb).1
  · rcases Nat.decEq o' σ.length with hne | heq
    · rw [hμ2 o' 0 hne] at hb'
      exact hs.low _ _ _ hb'
    · subst heq
      have e1 : μ2 σ.length 0 = μ σ.length 0 := if_neg fun e => by cases e.2
      rw [e1, hnew] at hb'; cases hb'
  · rcases hold ho' with ⟨_, h⟩ | ⟨_, h⟩
    · exact hs.full g' e' cs' hg' h
    · cases h
/-- What a call tells of the world, where the store lets nothing old be written. -/
theorem after_below_ro {σ' : St} {w' : World} {r : AV} {e : Ending} (hro : ∀ (o : Nat) (a : AO), σ[o]? = some a → a.ro = false → a.k.live = true → False) (h : After G μ σ w r σ' e w') : ∃ v μ', e = .returned v ∧ VRel μ' w' r v ∧ Below w.heap.size w w' := by
  obtain ⟨v, μ', h1, h2, h3⟩ := h
  exact ⟨v, μ', h1, h2, h3.below fun o a ho hr hl => hro o a ho hr hl⟩
end Go.Abs
/- The layer Abs, part 35: a function's law over a slice that it only reads. -/
namespace Go.Abs
section
variable {G : Nat} {G0 σ : St} {μ : Mu} {w : World}
theorem okGlob_ro (hG : okGlob G G0 = true) (o : Nat) (a : AO) (ho : G0[o]? = some a) (hr : a.ro = false) (hl : a.k.live = true) : False := by rw [(okGlob_at hG ho hl).1] at hr; cases hr
/-- Over the globals' store and one read-only object, of a slice whole. -/
theorem lift_ro {X : Ctx} (hX : X.Sound G) (hG : okGlob G G0 = true) {f : Nat} {e n z : Nat} {cs : List AV} {v : AV} {S : AV → St → Prop} (h : CallF X f [.sl G 1 0 n z] (G0 ++ [⟨1, true, .cells e cs⟩]) S) (hv : ∀ a s, S a s → a = v) (hfc : AV.flats cs = true) (hfv : v.flat = true)
    (ht : σ.take G0.length = G0) (hs : Sim G μ σ w) {o g : Nat} {ro : Bool} {cs' : List AV} (ho : σ[o]? = some ⟨g, ro, .cells e cs'⟩) (hc : ∃ t, cs' = cs ++ t) {cargs : Array Value} (hr : VRels μ w [.sl o g 0 n z] cargs.toList) : Does X.P f cargs w (After G μ σ w v σ) := by
  obtain ⟨a, as', ha, hva, has⟩ := hr
  obtain ⟨b, δ, off', c, e1, m, hb, q2, q3, q4, q5, q6⟩ := hva
  obtain ⟨b', δ', hb', hor⟩ := hs.obj o _ ho rfl
  have hg : (AO.mk g ro (.cells e cs')).g = g := rfl
  obtain ⟨ccs, fr, r1, r2, r3, _⟩ := hor
  have hbe : (b, δ) = (b', δ') := Option.some.inj (hb.symm.trans hb')
  cases hbe
  obtain ⟨t, hc⟩ := hc
  have hcut := hs.cut hG ht
  have hflat : ∀ (l : List AV), AV.flats l = true → ∀ c ∈ l, c.flat = true := by
    intro l
    induction l with
    | nil => intro _ c h; cases h
    | cons x l ih =>
      intro h c hm
      simp only [AV.flats, Bool.and_eq_true] at h
      rcases List.mem_cons.1 hm with rfl | hm
      · exact h.1
      · exact ih h.2 c hm
  obtain ⟨μ2, hsim2, hN, hle2⟩ := hcut.addRo (okGlob_ro hG) (e := e) (cs := cs) (δ := δ) r1 (by rw [hc, List.length_append] at r2; omega) (fun j c hj => by
    have hlt := (List.getElem?_eq_some_iff.1 hj).1
    obtain ⟨v, k1, k2⟩ := r3 j c (by rw [hc, List.getElem?_append_left hlt]; exact hj)
    exact ⟨v, k1, VRel.flat c v (hflat cs hfc c (List.mem_of_getElem? hj)) k2⟩)
  rw [okGlob_len hG] at hN
  refine (h.ev.does hX hsim2 (show VRels μ2 w _ cargs.toList from ⟨a, as', ha, ⟨b, δ, off', c, e1, m, hN, q2, q3, q4, q5, q6⟩, has⟩)).mono fun e' w' hA => ?_
  obtain ⟨r, σ', hS, u, μ1, rfl, hu, hst⟩ := hA
  obtain rfl := hv _ _ hS
  have hbel := hst.below fun o a ho hr hl => by
    rcases Nat.lt_or_ge o G0.length with hlt | hge
    · rw [List.getElem?_append_left hlt] at ho
      exact okGlob_ro hG o a ho hr hl
    · rw [List.getElem?_append_right hge] at ho
      rcases Nat.eq_zero_or_pos (o - G0.length) with h0 | h0
      · rw [h0] at ho; cases ho; cases hr
      · rw [List.getElem?_eq_none (by simp; omega)] at ho; cases ho
  exact ⟨u, μ, rfl, VRel.flat _ _ hfv hu, Step.of_below hs hbel⟩
end
def slOf : List AV → Option (Nat × Nat × Nat × Nat)
  | [.sl o g 0 n z] => some (o, g, n, z)
  | _ => none
theorem slOf_eq {l : List AV} {o g n z : Nat} (h : slOf l = some (o, g, n, z)) : l = [.sl o g 0 n z] := by
  unfold slOf at h
  split at h
  · cases h; rfl
  · cases h
/-- A function's law: what it comes to over these cells. -/
structure LawR (X : Ctx) (G0 : St) where
  f : Nat
  e : Nat
  z : Nat
  g : List AV → Nat → Option AV
  ok : ∀ cs n v, g cs n = some v → AV.flats cs = true ∧ v.flat = true ∧ CallF X f [.sl G0.length 1 0 n z] (G0 ++ [⟨1, true, .cells e cs⟩]) fun a _ => a = v
def lawRAt {X : Ctx} {G0 : St} (f : Nat) : List (LawR X G0) → Option (LawR X G0)
  | [] => none
  | l :: ls => if l.f = f then some l else lawRAt f ls
theorem lawRAt_f {X : Ctx} {G0 : St} {f : Nat} : ∀ {l : List (LawR X G0)} {a : LawR X G0}, lawRAt f l = some a → a.f = f
  | b :: l, a, h => by
    simp only [lawRAt] at h
    split at h
    · rename_i hb; cases h; exact hb
    · exact lawRAt_f h
def LawR.run {X : Ctx} {G0 : St} (a : LawR X G0) (args : List AV) (σ : St) : Option (AV × St) :=
  if stEqv (σ.take G0.length) G0 then match slOf args with
    | some (o, g, n, z) => match σ[o]? with
      | some ⟨g', _, .cells e cs⟩ => if g' = g ∧ e = a.e ∧ z = a.z ∧ n * z ≤ cs.length then (a.g (cs.take (n * z)) n).map (·, σ) else none
      | _ => none
    | none => none
  else none
/-- A context that knows these laws. -/
@[reducible] def Ctx.reads (X : Ctx) (G0 : St) (l : List (LawR X G0)) : Ctx := ⟨X.P, X.fns, fun f => match lawRAt f l with
  | some a => some a.run
  | none => X.prim f, X.meth⟩
theorem Ctx.reads_sound {X : Ctx} {G : Nat} {G0 : St} (hX : X.Sound G) (hG : okGlob G G0 = true) (l : List (LawR X G0)) : (X.reads G0 l).Sound G where
  draws := hX.draws
  fns := fun f F hp hf => hX.fns f F (by
    have hp' : (match lawRAt f l with
      | some a => some a.run
      | none => X.prim f) = none := hp
    split at hp'
    · cases hp'
    · exact hp') hf
  ok := {
    meth := hX.ok.meth
    prim := by
      intro f g hf args σ r σ' hg μ w cargs hs hr
      have hf' : (match lawRAt f l with
        | some a => some a.run
        | none => X.prim f) = some g := hf
      split at hf'
      · rename_i a ha
        obtain rfl := lawRAt_f ha
        cases hf'
        unfold LawR.run at hg
        split at hg
        · rename_i he
          split at hg
          · rename_i o g n z hsl
            obtain rfl := slOf_eq hsl
            split at hg
            · rename_i g' ro e cs hob
              split at hg
              · rename_i hcond
                obtain ⟨rfl, rfl, rfl, hn⟩ := hcond
                rw [Option.map_eq_some_iff] at hg
                obtain ⟨v, hv, hg⟩ := hg
                cases hg
                obtain ⟨h1, h2, h3⟩ := a.ok _ _ r hv
                rw [okGlob_len hG] at h3
                exact lift_ro hX hG h3 (fun _ _ h => h) h1 h2 (stEqv_eq _ _ he) hs hob ⟨cs.drop (n * a.z), (List.take_append_drop _ _).symm⟩ hr
              · cases hg
            · cases hg
          · cases hg
        · cases hg
      · exact hX.ok.prim f g hf' args σ r σ' hg μ w cargs hs hr }
theorem CallF.lawR {X : Ctx} {G0 : St} {l : List (LawR X G0)} {f : Nat} {σ : St} {Q : AV → St → Prop} (a : LawR X G0) (ha : lawRAt f l = some a) {o g n : Nat} {ro : Bool} {cs cs' : List AV} {v : AV} (ho : σ[o]? = some ⟨g, ro, .cells a.e cs'⟩) (hc : cs'.take (n * a.z) = cs) (hn : n * a.z ≤ cs'.length) (hv : a.g cs n = some v) (ht : σ.take G0.length = G0) (q : Q v σ) : CallF (X.reads G0 l) f [.sl o g 0 n a.z] σ Q := by
  constructor
  rw [EvF_prim (g := a.run) (by simp only [Ctx.reads, ha])]
  refine ⟨(v, σ), ?_, q⟩
  unfold LawR.run
  rw [if_pos (by rw [ht]; exact stEqv_refl _)]
  simp only [slOf, ho]
  rw [if_pos ⟨trivial, trivial, trivial, hn⟩, hc, hv]; rfl
end Go.Abs
/- The layer Abs, part 36: a function's law, of plain values: a plain value, or one that names one new object. -/
namespace Go.Abs

/-- A result that names one new object. -/
structure Fresh where
  r : Nat → Nat → AV
  e : Nat
  cs : List AV
def Fresh.Good (R : Fresh) : Prop := ∀ (μ1 μ2 : Mu) (w : World) (o g N : Nat) (v : Value), μ2 N 1 = μ1 o g → VRel μ1 w (R.r o g) v → VRel μ2 w (R.r N 1) v
inductive MR where
  | flat (v : AV)
  | new (R : Fresh)
/-- A store with one more own object, of generation 1. -/
def addOne (e : Nat) (cs : List AV) (σ : St) : St := σ ++ [⟨1, false, .cells e cs⟩]
theorem addOne_new (e : Nat) (cs : List AV) (σ : St) : (addOne e cs σ)[σ.length]? = some ⟨1, false, .cells e cs⟩ := by simp [addOne]
theorem addOne_old {e : Nat} {cs : List AV} {σ : St} {o : Nat} (h : o < σ.length) : (addOne e cs σ)[o]? = σ[o]? := by rw [addOne, List.getElem?_append_left h]
theorem addOne_len (e : Nat) (cs : List AV) (σ : St) : (addOne e cs σ).length = σ.length + 1 := by simp [addOne]
theorem Ext.one {σ σ' : St} (h : Ext σ σ') (e : Nat) (cs : List AV) : Ext σ (addOne e cs σ') := ⟨by rw [addOne_len]; have := h.len; omega, fun i hi => by rw [addOne_old (by have := h.len; omega), h.old i hi]⟩
theorem addOne_at {σ : St} {o : Nat} {a : AO} (h : σ[o]? = some a) (e : Nat) (cs : List AV) : (addOne e cs σ)[o]? = some a := by rw [addOne_old (lt_at h)]; exact h
theorem good_sl_tu (n z : Nat) (e : Nat) (cs : List AV) : Fresh.Good ⟨fun o g => .tu [.sl o g 0 n z, .ic0], e, cs⟩ := by
  intro μ1 μ2 w o g N v h hv
  obtain ⟨a, rfl, y, ys, h1, ⟨b, δ, off', c, e', m, k1, k2⟩, h3⟩ := hv
  exact ⟨a, rfl, y, ys, h1, ⟨b, δ, off', c, e', m, by rw [h]; exact k1, k2⟩, h3⟩
theorem good_sl_p0 (n z : Nat) (e : Nat) (cs : List AV) : Fresh.Good ⟨fun o g => .tu [.sl o g 0 n z, .p0], e, cs⟩ := by
  intro μ1 μ2 w o g N v h hv
  obtain ⟨a, rfl, y, ys, h1, ⟨b, δ, off', c, e', m, k1, k2⟩, h3⟩ := hv
  exact ⟨a, rfl, y, ys, h1, ⟨b, δ, off', c, e', m, by rw [h]; exact k1, k2⟩, h3⟩
theorem good_p_tu (t : Nat) (e : Nat) (cs : List AV) : Fresh.Good ⟨fun o g => .tu [.sl0, .ic t (.p o g 0)], e, cs⟩ := by
  intro μ1 μ2 w o g N v h hv
  obtain ⟨a, rfl, y, ys, h1, h2, y3, ys3, h3, ⟨x, h4, b, δ, k1, k2⟩, h5⟩ := hv
  exact ⟨a, rfl, y, ys, h1, h2, y3, ys3, h3, ⟨x, h4, b, δ, by rw [h]; exact k1, k2⟩, h5⟩
theorem good_pp_tu (e : Nat) (cs : List AV) : Fresh.Good ⟨fun o g => .tu [.sl0, .p o g 0], e, cs⟩ := by
  intro μ1 μ2 w o g N v h hv
  obtain ⟨a, rfl, y, ys, h1, h2, y3, ys3, h3, ⟨b, δ, k1, k2⟩, h5⟩ := hv
  exact ⟨a, rfl, y, ys, h1, h2, y3, ys3, h3, ⟨b, δ, by rw [h]; exact k1, k2⟩, h5⟩
section
variable {G : Nat} {G0 σ : St} {μ : Mu} {w : World}
theorem flats_mem {l : List AV} {c : AV} (h : AV.flats l = true) (hm : c ∈ l) : c.flat = true := by
  induction l with
  | nil => cases hm
  | cons x l ih =>
    simp only [AV.flats, Bool.and_eq_true] at h
    rcases List.mem_cons.1 hm with rfl | hm
    · exact h.1
    · exact ih h.2 hm
theorem lift_flat {X : Ctx} (hX : X.Sound G) (hG : okGlob G G0 = true) {f : Nat} {args : List AV} {v : AV} (h : CallF X f args G0 fun a _ => a = v) (hfa : AV.flats args = true) (hfv : v.flat = true)
    (ht : σ.take G0.length = G0) (hs : Sim G μ σ w) {cargs : Array Value} (hr : VRels μ w args cargs.toList) : Does X.P f cargs w (After G μ σ w v σ) := by
  refine (h.ev.does hX (hs.cut hG ht) (VRels.flat _ _ hfa hr)).mono fun e w' ha => ?_
  obtain ⟨r, σ', rfl, u, μ1, rfl, hu, hst⟩ := ha
  have hb := hst.below fun o a ho hr hl => by rw [(okGlob_at hG ho hl).1] at hr; cases hr
  exact ⟨u, μ, rfl, VRel.flat _ _ hfv hu, Step.of_below hs hb⟩
theorem lift_new {X : Ctx} (hX : X.Sound G) (hG : okGlob G G0 = true) {f : Nat} {args : List AV} {R : Fresh} (h : CallF X f args G0 fun a s => ∃ o g, a = R.r o g ∧ s[o]? = some ⟨g, false, .cells R.e R.cs⟩) (hfa : AV.flats args = true) (hfc : AV.flats R.cs = true) (hgood : R.Good)
    (ht : σ.take G0.length = G0) (hs : Sim G μ σ w) {cargs : Array Value} (hr : VRels μ w args cargs.toList) : Does X.P f cargs w (After G μ σ w (R.r σ.length 1) (addOne R.e R.cs σ)) := by
  refine (h.ev.does hX (hs.cut hG ht) (VRels.flat _ _ hfa hr)).mono fun e w' ha => ?_
  obtain ⟨r, s, ⟨o, g, rfl, ho⟩, u, μ1, rfl, hu, hst⟩ := ha
  have hnr : ∀ (o : Nat) (a : AO), G0[o]? = some a → a.ro = false → a.k.live = true → False := fun o a ho hr hl => by rw [(okGlob_at hG ho hl).1] at hr; cases hr
  have hb := hst.below hnr
  have hsb := Step.of_below hs hb
  obtain ⟨b, δ, hb1, hb2⟩ := hst.sim.obj o _ ho rfl
  have hbw : w.heap.size ≤ b := by
    rcases Nat.lt_or_ge b w.heap.size with hlt | hge
    · obtain ⟨o2, a2, δ2, q1, q2, q3, _⟩ := hst.prov o _ b δ ho rfl rfl hb1 hlt
      exact (hnr o2 a2 q1 q2 q3).elim
    · exact hge
  have hbw' := hst.sim.blk _ _ _ _ hb1
  have hGl : G ≤ σ.length := by
    have := congrArg List.length ht
    rw [okGlob_len hG, List.length_take] at this; omega
  have hnew : ∀ g', μ σ.length g' = none := by
    intro g'
    cases hm : μ σ.length g' with
    | none => rfl
    | some x =>
      obtain ⟨a, h1, _⟩ := hs.dom _ _ _ hm
      rw [List.getElem?_eq_none (Nat.le_refl _)] at h1; cases h1
  let μ2 : Mu := fun o' g' => if o' = σ.length ∧ g' = 1 then some (b, δ) else μ o' g'
  have hμ2 : ∀ o' g', o' ≠ σ.length → μ2 o' g' = μ o' g' := fun o' g' hne => if_neg fun e => hne e.1
  have hμN : μ2 σ.length 1 = some (b, δ) := if_pos ⟨rfl, rfl⟩
  have hμN0 : ∀ g', g' ≠ 1 → μ2 σ.length g' = none := fun g' hne => (if_neg fun e => hne e.2).trans (hnew g')
  have hle : μ.le μ2 := fun o' g' x hx => by
    rcases Nat.decEq o' σ.length with hne | heq
    · rw [hμ2 o' g' hne]; exact hx
    · rw [heq, hnew] at hx; cases hx
  have hold : ∀ {o' : Nat} {a : AO}, (addOne R.e R.cs σ)[o']? = some a → (o' < σ.length ∧ σ[o']? = some a) ∨ (o' = σ.length ∧ a = ⟨1, false, .cells R.e R.cs⟩) := by
    intro o' a h
    rcases Nat.lt_trichotomy o' σ.length with hl | he | hg
    · rw [addOne_old hl] at h; exact .inl ⟨hl, h⟩
    · subst he; rw [addOne_new] at h; cases h; exact .inr ⟨rfl, rfl⟩
    · rw [List.getElem?_eq_none (by rw [addOne_len]; omega)] at h; cases h
  refine ⟨u, μ2, rfl, hgood μ1 μ2 w' o g _ u (by rw [hμN, hb1]) hu, ⟨⟨fun o' a ho' hl => ?_, fun o1 o2 a1 a2 b' δ1 δ2 h1 h2 hro hl1 hl2 hm1 hm2 => ?_, fun o' g' x hx => ?_, fun o' g' b' δ' hb' => ?_, fun g' hg' => ?_, fun o' b' δ' hb' => ?_, fun g' e' cs' hg' ho' => ?_⟩, hle, hsb.wext, hsb.os, hsb.tape, hsb.output, hsb.size, fun b' hb' _ => hb.block b' hb', fun o' a b' δ' ho' hro hl hm hlt => ?_⟩⟩
  · rcases hold ho' with ⟨hlt, h⟩ | ⟨rfl, rfl⟩
    · obtain ⟨b', δ', q1, q2⟩ := hsb.sim.obj o' a h hl
      exact ⟨b', δ', hle _ _ _ q1, ORel.mono hle (WExt.refl _) rfl q2⟩
    · refine ⟨b, δ, hμN, ?_⟩
      obtain ⟨ccs, fr, q1, q2, q3, q4⟩ := hb2
      refine ⟨ccs, fr, q1, q2, fun j c hj => ?_, q4⟩
      obtain ⟨v, r1, r2⟩ := q3 j c hj
      exact ⟨v, r1, VRel.flat c v (flats_mem hfc (List.mem_of_getElem? hj)) r2⟩
  · rcases hold h1 with ⟨l1, q1⟩ | ⟨rfl, rfl⟩
    · rw [hμ2 _ _ (by omega)] at hm1
      rcases hold h2 with ⟨l2, q2⟩ | ⟨rfl, rfl⟩
      · rw [hμ2 _ _ (by omega)] at hm2
        exact hs.inj o1 o2 a1 a2 b' δ1 δ2 q1 q2 hro hl1 hl2 hm1 hm2
      · have e1 : some (b, δ) = some (b', δ2) := hμN.symm.trans hm2
        cases e1
        have := hs.blk _ _ _ _ hm1; omega
    · have e1 : some (b, δ) = some (b', δ1) := hμN.symm.trans hm1
      cases e1
      rcases hold h2 with ⟨l2, q2⟩ | ⟨rfl, rfl⟩
      · rw [hμ2 _ _ (by omega)] at hm2
        have := hs.blk _ _ _ _ hm2; omega
      · rfl
  · rcases Nat.decEq o' σ.length with hne | heq
    · rw [hμ2 o' g' hne] at hx
      obtain ⟨a, q1, q2⟩ := hs.dom _ _ _ hx
      exact ⟨a, addOne_at q1 _ _, q2⟩
    · subst heq
      refine ⟨_, addOne_new _ _ _, ?_⟩
      have : g' = 1 := by
        rcases Nat.decEq g' 1 with hne | h0
        · rw [hμN0 g' hne] at hx; cases hx
        · exact h0
      show g' ≤ 1
      omega
  · rcases Nat.decEq o' σ.length with hne | heq
    · rw [hμ2 o' g' hne] at hb'
      exact Nat.lt_of_lt_of_le (hs.blk _ _ _ _ hb') hb.size
    · subst heq
      rcases Nat.decEq g' 1 with hne | h0
      · rw [hμN0 g' hne] at hb'; cases hb'
      · subst h0
        rw [hμN] at hb'; cases hb'; exact hbw'
  · exact hle _ _ _ (hs.glob g' hg')
  · rcases Nat.decEq o' σ.length with hne | heq
    · rw [hμ2 o' 0 hne] at hb'
      exact hs.low _ _ _ hb'
    · subst heq
      rw [hμN0 0 (by decide)] at hb'; cases hb'
  · rcases hold ho' with ⟨_, h⟩ | ⟨_, h⟩
    · exact hsb.sim.full g' e' cs' hg' h
    · cases h
  · rcases hold ho' with ⟨hl', q⟩ | ⟨rfl, rfl⟩
    · rw [hμ2 _ _ (by omega)] at hm
      exact ⟨o', a, δ', q, hro, hl, hm⟩
    · have e1 : some (b, δ) = some (b', δ') := hμN.symm.trans hm
      cases e1
      omega
end
/-- A function's law: at plain values a plain value, or the one object that it makes. -/
structure LawM (X : Ctx) (G0 : St) where
  f : Nat
  g : List AV → Option MR
  okF : ∀ args v, g args = some (.flat v) → AV.flats args = true ∧ v.flat = true ∧ CallF X f args G0 fun a _ => a = v
  okN : ∀ args R, g args = some (.new R) → AV.flats args = true ∧ AV.flats R.cs = true ∧ R.Good ∧ CallF X f args G0 fun a s => ∃ o g, a = R.r o g ∧ s[o]? = some ⟨g, false, .cells R.e R.cs⟩
def LawM.run {X : Ctx} {G0 : St} (a : LawM X G0) (args : List AV) (σ : St) : Option (AV × St) :=
  if stEqv (σ.take G0.length) G0 then match a.g args with
    | some (.flat v) => some (v, σ)
    | some (.new R) => some (R.r σ.length 1, addOne R.e R.cs σ)
    | none => none
  else none
/-- A context that knows this law. -/
@[reducible] def Ctx.makes (X : Ctx) (G0 : St) (a : LawM X G0) : Ctx := ⟨X.P, X.fns, fun f => match Nat.beq f a.f with | true => some a.run | false => X.prim f, X.meth⟩
theorem Ctx.makes_sound {X : Ctx} {G : Nat} {G0 : St} (hX : X.Sound G) (hG : okGlob G G0 = true) (a : LawM X G0) : (X.makes G0 a).Sound G where
  draws := hX.draws
  fns := fun f F hp hf => hX.fns f F (by
    have hp' : (match Nat.beq f a.f with | true => some a.run | false => X.prim f) = none := hp
    split at hp'
    · cases hp'
    · exact hp') hf
  ok := {
    meth := hX.ok.meth
    prim := by
      intro f g hf args σ r σ' hg μ w cargs hs hr
      have hf' : (match Nat.beq f a.f with | true => some a.run | false => X.prim f) = some g := hf
      split at hf'
      · rename_i he
        obtain rfl := Nat.eq_of_beq_eq_true he
        cases hf'
        unfold LawM.run at hg
        split at hg
        · rename_i ht
          split at hg
          · rename_i v hv
            cases hg
            obtain ⟨h1, h2, h3⟩ := a.okF _ _ hv
            exact lift_flat hX hG h3 h1 h2 (stEqv_eq _ _ ht) hs hr
          · rename_i R hv
            cases hg
            obtain ⟨h1, h2, h3, h4⟩ := a.okN _ _ hv
            exact lift_new hX hG h4 h1 h2 h3 (stEqv_eq _ _ ht) hs hr
          · cases hg
        · cases hg
      · exact hX.ok.prim f g hf' args σ r σ' hg μ w cargs hs hr }
theorem CallF.madeF {X : Ctx} {G0 : St} {args : List AV} {σ : St} {Q : AV → St → Prop} (a : LawM X G0) {f : Nat} (hf : Nat.beq f a.f = true) {v : AV} (hv : a.g args = some (.flat v)) (ht : σ.take G0.length = G0) (q : Q v σ) : CallF (X.makes G0 a) f args σ Q := by
  constructor
  rw [EvF_prim (g := a.run) (by simp only [Ctx.makes, hf])]
  refine ⟨(v, σ), ?_, q⟩
  unfold LawM.run
  rw [if_pos (by rw [ht]; exact stEqv_refl _), hv]
theorem CallF.madeN {X : Ctx} {G0 : St} {args : List AV} {σ : St} {Q : AV → St → Prop} (a : LawM X G0) {f : Nat} (hf : Nat.beq f a.f = true) {R : Fresh} (hv : a.g args = some (.new R)) (ht : σ.take G0.length = G0) (q : Q (R.r σ.length 1) (addOne R.e R.cs σ)) : CallF (X.makes G0 a) f args σ Q := by
  constructor
  rw [EvF_prim (g := a.run) (by simp only [Ctx.makes, hf])]
  refine ⟨(_, _), ?_, q⟩
  unfold LawM.run
  rw [if_pos (by rw [ht]; exact stEqv_refl _), hv]; rfl
theorem CallF.underM {X : Ctx} {G0 : St} {a : LawM X G0} {f : Nat} {g : List AV → St → Option (AV × St)} {args : List AV} {σ : St} {Q : AV → St → Prop} (hn : Nat.beq f a.f = false) (hp : X.prim f = some g) (h : CallF X f args σ Q) : CallF (X.makes G0 a) f args σ Q := by
  constructor
  have h1 := h.ev
  rw [EvF_prim hp] at h1
  rw [EvF_prim (g := g) (by simp only [Ctx.makes, hn]; exact hp)]
  exact h1
end Go.Abs
/- The layer Abs, part 37: a law over a slice that is only read, or over none. -/
namespace Go.Abs
/-- A function's law: what it comes to over these cells, wherever they lie; and over none. -/
structure LawQ (X : Ctx) (G0 : St) where
  f : Nat
  z : Nat
  g : List AV → Nat → Option AV
  v0 : AV
  ok : ∀ e cs n v, g cs n = some v → AV.flats cs = true ∧ v.flat = true ∧ CallF X f [.sl G0.length 1 0 n z] (G0 ++ [⟨1, true, .cells e cs⟩]) fun a _ => a = v
  ok0 : v0.flat = true ∧ CallF X f [.sl0] G0 fun a _ => a = v0
def LawQ.run {X : Ctx} {G0 : St} (a : LawQ X G0) (args : List AV) (σ : St) : Option (AV × St) :=
  if stEqv (σ.take G0.length) G0 then match args with
    | [.sl0] => some (a.v0, σ)
    | [.sl o g 0 n z] => match (σ[o]? : Option AO) with
      | some ⟨g', _, .cells _ cs⟩ => if g' = g ∧ z = a.z ∧ n * z ≤ cs.length then (a.g (cs.take (n * z)) n).map (·, σ) else none
      | _ => none
    | _ => none
  else none
@[reducible] def Ctx.looks (X : Ctx) (G0 : St) (a : LawQ X G0) : Ctx := ⟨X.P, X.fns, fun f => match Nat.beq f a.f with | true => some a.run | false => X.prim f, X.meth⟩
theorem Ctx.looks_sound {X : Ctx} {G : Nat} {G0 : St} (hX : X.Sound G) (hG : okGlob G G0 = true) (a : LawQ X G0) : (X.looks G0 a).Sound G where
  draws := hX.draws
  fns := fun f F hp hf => hX.fns f F (by
    have hp' : (match Nat.beq f a.f with | true => some a.run | false => X.prim f) = none := hp
    split at hp'
    · cases hp'
    · exact hp') hf
  ok := {
    meth := hX.ok.meth
    prim := by
      intro f g hf args σ r σ' hg μ w cargs hs hr
      have hf' : (match Nat.beq f a.f with | true => some a.run | false => X.prim f) = some g := hf
      split at hf'
      · rename_i he
        obtain rfl := Nat.eq_of_beq_eq_true he
        cases hf'
        unfold LawQ.run at hg
        split at hg
        · rename_i ht
          split at hg
          · cases hg
            exact lift_flat hX hG a.ok0.2 rfl a.ok0.1 (stEqv_eq _ _ ht) hs hr
          · rename_i o g n z
            split at hg
            · rename_i g' ro e cs hob
              split at hg
              · rename_i hcond
                obtain ⟨rfl, rfl, hn⟩ := hcond
                rw [Option.map_eq_some_iff] at hg
                obtain ⟨v, hv, hg⟩ := hg
                cases hg
                obtain ⟨h1, h2, h3⟩ := a.ok e _ _ r hv
                rw [okGlob_len hG] at h3
                exact lift_ro hX hG h3 (fun _ _ h => h) h1 h2 (stEqv_eq _ _ ht) hs hob ⟨cs.drop (n * a.z), (List.take_append_drop _ _).symm⟩ hr
              · cases hg
            · cases hg
          · cases hg
        · cases hg
      · exact hX.ok.prim f g hf' args σ r σ' hg μ w cargs hs hr }
theorem CallF.lawQ {X : Ctx} {G0 : St} {f : Nat} {σ : St} {Q : AV → St → Prop} (a : LawQ X G0) (hf : Nat.beq f a.f = true) {o g e n : Nat} {ro : Bool} {cs cs' : List AV} {v : AV} (ho : σ[o]? = some ⟨g, ro, .cells e cs'⟩) (hc : cs'.take (n * a.z) = cs) (hn : n * a.z ≤ cs'.length) (hv : a.g cs n = some v) (ht : σ.take G0.length = G0) (q : Q v σ) : CallF (X.looks G0 a) f [.sl o g 0 n a.z] σ Q := by
  constructor
  rw [EvF_prim (g := a.run) (by simp only [Ctx.looks, hf])]
  refine ⟨(v, σ), ?_, q⟩
  unfold LawQ.run
  rw [if_pos (by rw [ht]; exact stEqv_refl _)]
  simp only [ho]
  rw [if_pos ⟨trivial, trivial, hn⟩, hc, hv]; rfl
theorem CallF.lawQ0 {X : Ctx} {G0 : St} {f : Nat} {σ : St} {Q : AV → St → Prop} (a : LawQ X G0) (hf : Nat.beq f a.f = true) (ht : σ.take G0.length = G0) (q : Q a.v0 σ) : CallF (X.looks G0 a) f [.sl0] σ Q := by
  constructor
  rw [EvF_prim (g := a.run) (by simp only [Ctx.looks, hf])]
  refine ⟨(a.v0, σ), ?_, q⟩
  unfold LawQ.run
  rw [if_pos (by rw [ht]; exact stEqv_refl _)]
/-- One context over another, where both know the function alike. -/
theorem CallF.lift {X Y : Ctx} {f : Nat} {g : List AV → St → Option (AV × St)} {args : List AV} {σ : St} {Q : AV → St → Prop} (hp : X.prim f = some g) (hY : Y.prim f = some g) (h : CallF X f args σ Q) : CallF Y f args σ Q := by
  constructor
  have h1 := h.ev
  rw [EvF_prim hp] at h1
  rw [EvF_prim hY]
  exact h1
end Go.Abs
/- asm.read. -/
namespace Go.Abs.YtkfcbgmamfnajaaGreatDoor
open Go.Proofs
set_option maxRecDepth 4000

def big48 : Nat := 281474976710656
theorem c6_nm {m : Int} {l : List UInt8} {σ : St} {Q : AV → St → Prop} (hl : l.length ≤ 281474976710656) (ht : σ.take 11 = G0 m) (q : Q (.b (nameL l)) σ) : CallF (X6 m) 45 [.s l] σ Q :=
  CallF.law (lawNm m) rfl (if_pos hl) ht q
theorem c6_reg {m : Int} {l : List UInt8} {σ : St} {Q : AV → St → Prop} (hl : l.length ≤ 281474976710656) (ht : σ.take 11 = G0 m) (q : Q (.tu [.i .i64 (regN l), .b (regB l)]) σ) : CallF (X6 m) 67 [.s l] σ Q :=
  CallF.under rfl rfl (CallF.law (lawReg m) rfl (if_pos hl) ht q)
theorem c6_jumps {m op : Int} {σ : St} {Q : AV → St → Prop} (ht : σ.take 11 = G0 m) (q : Q (.b (jumpB op)) σ) : CallF (X6 m) 68 [.i .i64 op] σ Q :=
  CallF.under rfl rfl (CallF.law (lawJumps m) rfl rfl ht q)
theorem c6_plain {m : Int} {l : List UInt8} {σ : St} {Q : AV → St → Prop} (hl : l.length ≤ 281474976710656) (ht : σ.take 11 = G0 m) (q : Q (.tu [.i .i64 (plainN l), .b (plainB l)]) σ) : CallF (X6 m) 65 [.s l] σ Q :=
  CallF.under rfl rfl (CallF.under rfl rfl (CallF.law (lawPlain m) rfl (if_pos hl) ht q))
theorem c6_enc {m op a b c i : Int} {σ : St} {Q : AV → St → Prop} (ht : σ.take 11 = G0 m) (q : Q (.tu [.i .u32 (encP op a b c i).1, .i .i64 (encP op a b c i).2]) σ) : CallF (X6 m) 29 [.ag [.i .i64 op, .i .i64 a, .i .i64 b, .i .i64 c, .i .i64 i]] σ Q :=
  CallF.under rfl rfl (CallF.under rfl rfl (CallF.under rfl rfl (CallF.under rfl rfl (CallF.law (lawEnc m) rfl rfl ht q))))

/-- One field of an item. -/
def stA (op : Int) (ch : UInt8) (s : List UInt8) (x : DS × List UInt8) : Option (DS × List UInt8) :=
  if ch = 97 then (if regB s = true then some ({ x.1 with a := regN s }, x.2) else none)
  else if ch = 98 then (if regB s = true then some ({ x.1 with b := regN s }, x.2) else none)
  else if ch = 99 then (if regB s = true then some ({ x.1 with c := regN s }, x.2) else none)
  else if plainB s = true then some ({ x.1 with i := plainN s }, x.2)
  else if jumpB op && nameL s then some ({ x.1 with i := 0 }, s) else none
def item0 : List AV := [.i .i64 0, .i .i64 0, .i .i64 0, .i .i64 0, .i .i64 0, .i .u32 0, .s [], .i .i64 0]
def itemC (op : Int) (d : DS) (w : Int) (lab : List UInt8) : List AV := [.i .i64 op, .i .i64 d.a, .i .i64 d.b, .i .i64 d.c, .i .i64 d.i, .i .u32 w, .s lab, .i .i64 0]
def RS (m : Int) (ws : List (List UInt8)) (op : Int) (d : DS) (lab l : List UInt8) (p : Nat) : St := G0 m ++ [⟨1, true, .cells 9 (ws.map AV.s)⟩, ⟨0, false, .cells 57 item0⟩, ⟨0, false, .cells 57 (itemC op d 0 lab)⟩, ⟨0, false, .iter l p⟩]
set_option maxHeartbeats 4000000 in
theorem rd_round (m : Int) (ws : List (List UInt8)) (n : Nat) (op : Int) (d : DS) (lab l : List UInt8) (k : Nat) (ch : UInt8) (s : List UInt8) (hl : l.length ≤ 3) (hc : l[k]? = some ch) (hn : n = l.length + 1) (hs : (ws.map AV.s)[k + 1]? = some (.s s)) (hm : ch = 97 ∨ ch = 98 ∨ ch = 99 ∨ ch = 105 ∨ ch = 106) (hsl : s.length ≤ 281474976710656) (Q : Out → Env → St → Prop)
    (q1 : ∀ d' lab', stA op ch s (d, lab) = some (d', lab') → LoopF (X6 m) [0, 2, 6, 64] c26L0 [(0, .sl 11 1 0 n 1), (2, .p 12 0 0), (6, .p 13 0 0), (64, .p 14 0 0)] (RS m ws op d' lab' l (k + 1)) Q)
    (q2 : stA op ch s (d, lab) = none → ∀ e' d' lab', get e' 2 = .p 12 0 0 → get e' 3 = .b false → Q .ret e' (RS m ws op d' lab' l (k + 1))) :
    LoopF (X6 m) [0, 2, 6, 64] c26L0 [(0, .sl 11 1 0 n 1), (2, .p 12 0 0), (6, .p 13 0 0), (64, .p 14 0 0)] (RS m ws op d lab l k) Q := by
  have hpl : k < l.length := (List.getElem?_eq_some_iff.1 hc).1
  have hdec : Utf8.decode ⟨l.toArray⟩ k = (ch.toNat, 1) := decode_ascii l k ch hc (by rcases hm with rfl | rfl | rfl | rfl | rfl <;> decide)
  refine LoopF.round tyB_ok (lit := true) ?_
  conv => whnf
  rw [decide_eq_true (by show k < l.length; omega)]
  conv => whnf
  rw [hdec]
  conv => whnf
  refine ⟨_, wrap_i64 (by omega) (by omega), ?_⟩
  conv => whnf
  refine ⟨k + 1, by show (k : Int) + 1 = _; omega, by omega, ?_⟩
  conv => whnf
  refine om_of (v := .s s) (aLoad_at (T := yT9) rfl rfl (cellsAt_of (ro := true) (e := 9) (cs := ws.map AV.s) rfl) (by rw [Nat.zero_add, Nat.mul_one]; exact hs)) ?_
  rcases hm with rfl | rfl | rfl | rfl | rfl
  · conv => whnf
    refine c6_reg hsl rfl ?_
    conv => whnf
    have hA : stA op 97 s (d, lab) = if regB s = true then some ({ d with a := regN s }, lab) else none := rfl
    cases hb : regB s with
    | true =>
      rw [hA, if_pos hb] at q1
      conv => whnf
      exact q1 _ _ rfl
    | false =>
      rw [hA, if_neg (by rw [hb]; decide)] at q2
      conv => whnf
      exact q2 rfl _ { d with a := regN s } lab rfl rfl
  · conv => whnf
    refine c6_reg hsl rfl ?_
    conv => whnf
    have hA : stA op 98 s (d, lab) = if regB s = true then some ({ d with b := regN s }, lab) else none := rfl
    cases hb : regB s with
    | true =>
      rw [hA, if_pos hb] at q1
      conv => whnf
      exact q1 _ _ rfl
    | false =>
      rw [hA, if_neg (by rw [hb]; decide)] at q2
      conv => whnf
      exact q2 rfl _ { d with b := regN s } lab rfl rfl
  · conv => whnf
    refine c6_reg hsl rfl ?_
    conv => whnf
    have hA : stA op 99 s (d, lab) = if regB s = true then some ({ d with c := regN s }, lab) else none := rfl
    cases hb : regB s with
    | true =>
      rw [hA, if_pos hb] at q1
      conv => whnf
      exact q1 _ _ rfl
    | false =>
      rw [hA, if_neg (by rw [hb]; decide)] at q2
      conv => whnf
      exact q2 rfl _ { d with c := regN s } lab rfl rfl
  · conv => whnf
    refine c6_plain hsl rfl ?_
    conv => whnf
    have hA : stA op 105 s (d, lab) = if plainB s = true then some ({ d with i := plainN s }, lab) else if jumpB op && nameL s then some ({ d with i := 0 }, s) else none := rfl
    cases hb : plainB s with
    | true =>
      rw [hA, if_pos hb] at q1
      conv => whnf
      exact q1 _ _ rfl
    | false =>
      rw [hA, if_neg (by rw [hb]; decide)] at q2 q1
      conv => whnf
      refine c6_jumps rfl ?_
      conv => whnf
      cases hj : jumpB op with
      | false =>
        rw [hj] at q2
        conv => whnf
        exact q2 rfl _ { d with i := plainN s } lab rfl rfl
      | true =>
        rw [hj] at q1 q2
        conv => whnf
        refine c6_nm hsl rfl ?_
        conv => whnf
        cases hq : nameL s with
        | false =>
          rw [hq] at q2
          conv => whnf
          exact q2 rfl _ { d with i := plainN s } lab rfl rfl
        | true =>
          rw [hq] at q1
          conv => whnf
          exact q1 _ _ rfl
  · conv => whnf
    refine c6_plain hsl rfl ?_
    conv => whnf
    have hA : stA op 106 s (d, lab) = if plainB s = true then some ({ d with i := plainN s }, lab) else if jumpB op && nameL s then some ({ d with i := 0 }, s) else none := rfl
    cases hb : plainB s with
    | true =>
      rw [hA, if_pos hb] at q1
      conv => whnf
      exact q1 _ _ rfl
    | false =>
      rw [hA, if_neg (by rw [hb]; decide)] at q2 q1
      conv => whnf
      refine c6_jumps rfl ?_
      conv => whnf
      cases hj : jumpB op with
      | false =>
        rw [hj] at q2
        conv => whnf
        exact q2 rfl _ { d with i := plainN s } lab rfl rfl
      | true =>
        rw [hj] at q1 q2
        conv => whnf
        refine c6_nm hsl rfl ?_
        conv => whnf
        cases hq : nameL s with
        | false =>
          rw [hq] at q2
          conv => whnf
          exact q2 rfl _ { d with i := plainN s } lab rfl rfl
        | true =>
          rw [hq] at q1
          conv => whnf
          exact q1 _ _ rfl
theorem c6_op {m : Int} {l : List UInt8} {σ : St} {Q : AV → St → Prop} (ht : σ.take 11 = G0 m) (q : Q (.i .i64 (opOf l)) σ) : CallF (X6 m) 66 [.s l] σ Q :=
  CallF.under rfl rfl (CallF.under rfl rfl (CallF.under rfl rfl (CallF.under rfl rfl (CallF.under rfl rfl (CallF.law (lawOp m) rfl rfl ht q)))))
theorem c6_form {m op : Int} {σ : St} {Q : AV → St → Prop} (ht : σ.take 11 = G0 m) (q : Q (.s (formI op)) σ) : CallF (X6 m) 33 [.i .i64 op] σ Q :=
  CallF.under rfl rfl (CallF.under rfl rfl (CallF.under rfl rfl (CallF.under rfl rfl (CallF.under rfl rfl (CallF.law (lawForm m) rfl rfl ht q)))))
/-- The fields of an item. -/
def foldA (op : Int) : List UInt8 → List (List UInt8) → DS × List UInt8 → Option (DS × List UInt8)
  | [], _, x => some x
  | _ :: _, [], _ => none
  | ch :: l, s :: ws, x => match stA op ch s x with
    | some x' => foldA op l ws x'
    | none => none
def rdEnd (n : Nat) : Env := put (some 66) (.b false) (put (some 65) (.tu [.b false]) [(0, .sl 11 1 0 n 1), (2, .p 12 0 0), (6, .p 13 0 0), (64, .p 14 0 0)])
theorem rd_loop (m : Int) (ws : List (List UInt8)) (n : Nat) (op : Int) (l : List UInt8) (hl : l.length ≤ 3) (hn : n = l.length + 1) (hw : ws.length = n) (hm : ∀ ch ∈ l, ch = 97 ∨ ch = 98 ∨ ch = 99 ∨ ch = 105 ∨ ch = 106) (hsl : ∀ s ∈ ws, s.length ≤ 281474976710656) (Q : Out → Env → St → Prop) :
    ∀ (j k : Nat) (d : DS) (lab : List UInt8), k + j = l.length →
    (∀ d' lab', foldA op (l.drop k) (ws.drop (k + 1)) (d, lab) = some (d', lab') → Q (.exit 0) (rdEnd n) (RS m ws op d' lab' l l.length)) →
    (foldA op (l.drop k) (ws.drop (k + 1)) (d, lab) = none → ∀ e' d' lab' k', get e' 2 = .p 12 0 0 → get e' 3 = .b false → Q .ret e' (RS m ws op d' lab' l k')) →
    LoopF (X6 m) [0, 2, 6, 64] c26L0 [(0, .sl 11 1 0 n 1), (2, .p 12 0 0), (6, .p 13 0 0), (64, .p 14 0 0)] (RS m ws op d lab l k) Q
  | 0, k, d, lab, hk, q1, q2 => by
    have hk' : k = l.length := by omega
    subst hk'
    rw [List.drop_length] at q1
    refine LoopF.round tyB_ok (lit := true) ?_
    conv => whnf
    rw [decide_eq_false (by show ¬ l.length < l.length; omega)]
    conv => whnf
    exact q1 d lab rfl
  | j + 1, k, d, lab, hk, q1, q2 => by
    have hkl : k < l.length := by omega
    obtain ⟨ch, hc⟩ : ∃ ch, l[k]? = some ch := ⟨_, List.getElem?_eq_getElem hkl⟩
    obtain ⟨s, hs⟩ : ∃ s, ws[k + 1]? = some s := ⟨_, List.getElem?_eq_getElem (by omega)⟩
    have e1 : l.drop k = ch :: l.drop (k + 1) := by rw [List.drop_eq_getElem_cons hkl]; rw [List.getElem?_eq_getElem hkl] at hc; cases hc; rfl
    have e2 : ws.drop (k + 1) = s :: ws.drop (k + 1 + 1) := by rw [List.drop_eq_getElem_cons (by omega)]; rw [List.getElem?_eq_getElem (by omega)] at hs; cases hs; rfl
    rw [e1, e2] at q1 q2
    refine rd_round m ws n op d lab l k ch s hl hc hn (by rw [List.getElem?_map, hs]; rfl) (hm ch (List.mem_of_getElem? hc)) (hsl s (List.mem_of_getElem? hs)) Q (fun d' lab' h => ?_) (fun h => ?_)
    · have e3 : foldA op (ch :: l.drop (k + 1)) (s :: ws.drop (k + 1 + 1)) (d, lab) = foldA op (l.drop (k + 1)) (ws.drop (k + 1 + 1)) (d', lab') := by
        show (match stA op ch s (d, lab) with | some x' => foldA op (l.drop (k + 1)) (ws.drop (k + 1 + 1)) x' | none => none) = _
        rw [h]
      rw [e3] at q1 q2
      exact rd_loop m ws n op l hl hn hw hm hsl Q j (k + 1) d' lab' (by omega) q1 q2
    · have e3 : foldA op (ch :: l.drop (k + 1)) (s :: ws.drop (k + 1 + 1)) (d, lab) = none := by
        show (match stA op ch s (d, lab) with | some x' => foldA op (l.drop (k + 1)) (ws.drop (k + 1 + 1)) x' | none => none) = _
        rw [h]
      exact fun e' d' lab' => q2 e3 e' d' lab' (k + 1)
end Go.Abs.YtkfcbgmamfnajaaGreatDoor
/- asm.read, whole. -/
namespace Go.Abs.YtkfcbgmamfnajaaGreatDoor
open Go.Proofs
set_option maxRecDepth 4000

def d0 : DS := ⟨0, 0, 0, 0⟩
def itemV (op : Int) (d : DS) (w : Int) (lab : List UInt8) (b : Bool) : AV := .tu [.ag (itemC op d w lab), .b b]
def noItem : AV := .tu [.ag item0, .b false]
def readA : List (List UInt8) → AV
  | [] => noItem
  | w0 :: rest => if w0 = wordB then (match rest with
      | [s] => itemV 0 d0 (IntKind.u32.wrap (plainN s)) [] (plainB s && decide (0 ≤ plainN s) && decide (plainN s < 4294967296))
      | _ => noItem)
    else if opOf w0 = 0 ∨ rest.length ≠ (formI (opOf w0)).length then noItem
    else match foldA (opOf w0) (formI (opOf w0)) rest (d0, []) with
      | some (d, lab) => itemV (opOf w0) d (encP (opOf w0) d.a d.b d.c d.i).1 lab (decide ((encP (opOf w0) d.a d.b d.c d.i).2 = 0))
      | none => noItem
theorem read_to (m : Int) (w0 : List UInt8) (rest : List (List UInt8)) (n : Nat) (hn : n = rest.length + 1) (hlen : rest.length ≤ 281474976710656) (hsl : ∀ s ∈ w0 :: rest, s.length ≤ 281474976710656) : CallF (X6 m) 26 [.sl 11 1 0 n 1] (G0 m ++ [⟨1, true, .cells 9 ((w0 :: rest).map AV.s)⟩]) fun v _ => v = readA (w0 :: rest) := by
  refine CallF.body (F := F26) tyB_ok (lit := true) rfl rfl (Nat.le_of_ble_eq_true rfl) ?_
  conv => whnf
  refine ⟨0, rfl, by omega, ?_⟩
  conv => whnf
  cases hw : w0 == [119, 111, 114, 100] with
  | true =>
    have hA : ∀ x, readA (w0 :: x) = match x with
      | [s] => itemV 0 d0 (IntKind.u32.wrap (plainN s)) [] (plainB s && decide (0 ≤ plainN s) && decide (plainN s < 4294967296))
      | _ => noItem := fun x => if_pos (by simpa [wordB] using hw)
    rw [hA]
    match rest, hn, hlen, hsl with
    | [], hn, _, _ =>
      subst hn
      conv => whnf
      exact Fin.flat rfl rfl rfl
    | s :: t :: r, hn, hlen, _ =>
      conv => whnf
      rw [decide_eq_false (show ¬ ((n : Nat) : Int) = 2 by rw [hn]; simp only [List.length_cons]; omega)]
      conv => whnf
      exact Fin.flat rfl rfl rfl
    | [s], hn, _, hsl =>
      subst hn
      conv => whnf
      refine ⟨1, rfl, by simp, ?_⟩
      conv => whnf
      refine c6_plain (hsl s (by simp)) rfl ?_
      conv => whnf
      have hfin : ∀ b, (plainB s && decide (0 ≤ plainN s) && decide (plainN s < 4294967296)) = b → AV.tu [.ag (itemC 0 d0 (IntKind.u32.wrap (plainN s)) []), .b b] = itemV 0 d0 (IntKind.u32.wrap (plainN s)) [] (plainB s && decide (0 ≤ plainN s) && decide (plainN s < 4294967296)) := by rintro _ rfl; rfl
      cases hb : plainB s with
      | false =>
        conv => whnf
        refine ⟨_, rfl, ?_⟩
        conv => whnf
        refine Fin.flat rfl rfl ?_
        exact hfin false (by rw [hb]; rfl)
      | true =>
        conv => whnf
        refine ⟨_, rfl, ?_⟩
        conv => whnf
        cases h0 : decide (0 ≤ plainN s) with
        | false =>
          conv => whnf
          refine Fin.flat rfl rfl ?_
          exact hfin false (by rw [hb, h0]; rfl)
        | true =>
          conv => whnf
          cases h1 : decide (plainN s < 4294967296) with
          | false =>
            conv => whnf
            refine Fin.flat rfl rfl ?_
            exact hfin false (by rw [hb, h0, h1]; rfl)
          | true =>
            conv => whnf
            refine Fin.flat rfl rfl ?_
            exact hfin true (by rw [hb, h0, h1]; rfl)
  | false =>
    have hA : readA (w0 :: rest) = if opOf w0 = 0 ∨ rest.length ≠ (formI (opOf w0)).length then noItem
      else match foldA (opOf w0) (formI (opOf w0)) rest (d0, []) with
      | some (d, lab) => itemV (opOf w0) d (encP (opOf w0) d.a d.b d.c d.i).1 lab (decide ((encP (opOf w0) d.a d.b d.c d.i).2 = 0))
      | none => noItem := if_neg (by simpa [wordB] using hw)
    rw [hA]
    conv => whnf
    refine ⟨0, rfl, by omega, ?_⟩
    conv => whnf
    refine c6_op rfl ?_
    conv => whnf
    generalize opOf w0 = op
    refine c6_form rfl ?_
    conv => whnf
    have hfl := form_len op
    obtain ⟨_, hch⟩ := form_small op
    generalize formI op = l at hfl hch ⊢
    by_cases ho : op = 0
    · rw [if_pos (.inl ho)]
      rw [show decide ((op : Int) = 0) = true from decide_eq_true (by omega)]
      conv => whnf
      exact Fin.flat rfl rfl rfl
    rw [show decide ((op : Int) = 0) = false from decide_eq_false (by omega)]
    conv => whnf
    refine ⟨_, wrap_i64 (by omega) (by omega), ?_⟩
    conv => whnf
    by_cases hr : rest.length = l.length
    · rw [if_neg (by rintro (h | h); exact ho h; exact h hr)]
      rw [show decide (((n : Nat) : Int) = 1 + (l.length : Int)) = true from decide_eq_true (by rw [hn, hr]; omega)]
      conv => whnf
      show LoopF (X6 m) [0, 2, 6, 64] c26L0 [(0, .sl 11 1 0 n 1), (2, .p 12 0 0), (6, .p 13 0 0), (64, .p 14 0 0)] (RS m (w0 :: rest) op d0 [] l 0) _
      refine rd_loop m (w0 :: rest) n op l hfl (by omega) (by rw [hn]; rfl) hch hsl _ l.length 0 d0 [] (by omega) (fun d' lab' hA => ?_) (fun hA e' d' lab' k' g2 g3 => ?_)
      · have hv : (match foldA op l rest (d0, []) with
          | some (d, lab) => itemV (op : Int) d (encP op d.a d.b d.c d.i).1 lab (decide ((encP op d.a d.b d.c d.i).2 = 0))
          | none => noItem) = itemV (op : Int) d' (encP op d'.a d'.b d'.c d'.i).1 lab' (decide ((encP op d'.a d'.b d'.c d'.i).2 = 0)) := by
          rw [show foldA op l rest (d0, []) = some (d', lab') from hA]
        rw [hv]
        conv => whnf
        refine c6_enc rfl ?_
        conv => whnf
        generalize encP op d'.a d'.b d'.c d'.i = en at hv ⊢
        cases hb : decide (en.2 = 0) with
        | true =>
          conv => whnf
          exact Fin.flat rfl rfl rfl
        | false =>
          conv => whnf
          exact Fin.flat rfl rfl rfl
      · rw [show foldA op l rest (d0, []) = none from hA]
        conv => whnf
        rw [g2]
        conv => whnf
        rw [g3]
        conv => whnf
        exact Fin.flat rfl rfl rfl
    · rw [if_pos (.inr hr)]
      rw [show decide (((n : Nat) : Int) = 1 + (l.length : Int)) = false from decide_eq_false (by rw [hn]; omega)]
      conv => whnf
      exact Fin.flat rfl rfl rfl
end Go.Abs.YtkfcbgmamfnajaaGreatDoor
/- asm.Line. -/
namespace Go.Abs.YtkfcbgmamfnajaaGreatDoor
open Go.Proofs
set_option maxRecDepth 4000

theorem CallF.underR {X : Ctx} {G0 : St} {l : List (LawR X G0)} {f : Nat} {g : List AV → St → Option (AV × St)} {args : List AV} {σ : St} {Q : AV → St → Prop} (hn : lawRAt f l = none) (hp : X.prim f = some g) (h : CallF X f args σ Q) : CallF (X.reads G0 l) f args σ Q := by
  constructor
  have h1 := h.ev
  rw [EvF_prim hp] at h1
  rw [EvF_prim (g := g) (by simp only [Ctx.reads, hn]; exact hp)]
  exact h1
structure RT where
  op : Int
  d : DS
  w : Int
  lab : List UInt8
  is : Bool
def noRT : RT := ⟨0, d0, 0, [], false⟩
def readT : List (List UInt8) → RT
  | [] => noRT
  | w0 :: rest => if w0 = wordB then (match rest with
      | [s] => ⟨0, d0, IntKind.u32.wrap (plainN s), [], plainB s && decide (0 ≤ plainN s) && decide (plainN s < 4294967296)⟩
      | _ => noRT)
    else if opOf w0 = 0 ∨ rest.length ≠ (formI (opOf w0)).length then noRT
    else match foldA (opOf w0) (formI (opOf w0)) rest (d0, []) with
      | some (d, lab) => ⟨opOf w0, d, (encP (opOf w0) d.a d.b d.c d.i).1, lab, decide ((encP (opOf w0) d.a d.b d.c d.i).2 = 0)⟩
      | none => noRT
def RT.v (x : RT) : AV := .tu [.ag [.i .i64 x.op, .i .i64 x.d.a, .i .i64 x.d.b, .i .i64 x.d.c, .i .i64 x.d.i, .i .u32 x.w, .s x.lab, .i .i64 0], .b x.is]
theorem readA_eq (ws : List (List UInt8)) : readA ws = (readT ws).v := by
  cases ws with
  | nil => rfl
  | cons w0 rest =>
    by_cases h1 : w0 = wordB
    · rw [show readA (w0 :: rest) = _ from if_pos h1, show readT (w0 :: rest) = _ from if_pos h1]
      match rest with
      | [] => rfl
      | [s] => rfl
      | _ :: _ :: _ => rfl
    · rw [show readA (w0 :: rest) = _ from if_neg h1, show readT (w0 :: rest) = _ from if_neg h1]
      by_cases h2 : opOf w0 = 0 ∨ rest.length ≠ (formI (opOf w0)).length
      · rw [if_pos h2, if_pos h2]; rfl
      · rw [if_neg h2, if_neg h2]
        cases foldA (opOf w0) (formI (opOf w0)) rest (d0, []) with
        | none => rfl
        | some x => rfl
theorem wrapU_bounds (x : Int) : 0 ≤ IntKind.u32.wrap x ∧ IntKind.u32.wrap x < 4294967296 := by
  simp only [IntKind.wrap, IntKind.signed, IntKind.bits, Bool.false_and]
  simp
  omega
theorem enc_bounds (op a b c i : Int) : 0 ≤ (encP op a b c i).1 ∧ (encP op a b c i).1 < 4294967296 := by
  have key : ∀ (l : List UInt8) (s : ES), (0 ≤ s.w ∧ s.w < 4294967296) → 0 ≤ (l.foldl eStep s).w ∧ (l.foldl eStep s).w < 4294967296 := by
    intro l
    induction l with
    | nil => intro s h; exact h
    | cons ch l ih =>
      intro s h
      refine ih _ ?_
      unfold eStep
      repeat' split
      all_goals first | exact wrapU_bounds _ | exact h
  unfold encP encF
  split
  · exact ⟨by decide, by decide⟩
  · have := key (formI op) ⟨w0 op, false, a, b, c, i⟩ (wrapU_bounds _)
    split
    · exact ⟨by decide, by decide⟩
    · split
      · exact this
      · exact ⟨by decide, by decide⟩
theorem readT_bounds (ws : List (List UInt8)) : 0 ≤ (readT ws).w ∧ (readT ws).w < 4294967296 := by
  have h0 : (0:Int) ≤ 0 ∧ (0:Int) < 4294967296 := by decide
  cases ws with
  | nil => exact h0
  | cons w0 rest =>
    by_cases h1 : w0 = wordB
    · rw [show readT (w0 :: rest) = _ from if_pos h1]
      match rest with
      | [] => exact h0
      | [s] => exact wrapU_bounds _
      | _ :: _ :: _ => exact h0
    · rw [show readT (w0 :: rest) = _ from if_neg h1]
      by_cases h2 : opOf w0 = 0 ∨ rest.length ≠ (formI (opOf w0)).length
      · rw [if_pos h2]; exact h0
      · rw [if_neg h2]
        cases foldA (opOf w0) (formI (opOf w0)) rest (d0, []) with
        | none => exact h0
        | some x => exact enc_bounds _ _ _ _ _
theorem strsOf_some : ∀ {cs : List AV} {ws : List (List UInt8)}, strsOf cs = some ws → cs = ws.map AV.s
  | [], ws, h => by cases h; rfl
  | .s x :: cs, ws, h => by
    simp only [strsOf] at h
    cases hq : strsOf cs with
    | none => rw [hq] at h; cases h
    | some y => rw [hq] at h; cases h; rw [List.map_cons, strsOf_some hq]
theorem flats_map (ws : List (List UInt8)) : AV.flats (ws.map AV.s) = true := by
  induction ws with
  | nil => rfl
  | cons w ws ih => simp only [List.map_cons, AV.flats, AV.flat, Bool.true_and]; exact ih
def shortB (ws : List (List UInt8)) : Bool := decide (ws.length ≤ 281474976710656) && ws.all fun s => decide (s.length ≤ 281474976710656)
def lawRead (m : Int) : LawR (X6 m) (G0 m) := ⟨26, 9, 1, fun cs n => match strsOf cs with
    | some (w0 :: rest) => if n = rest.length + 1 ∧ shortB (w0 :: rest) = true then some (readT (w0 :: rest)).v else none
    | _ => none, fun cs n v h => by
  split at h
  · rename_i w0 rest hq
    split at h
    · rename_i hl
      cases h
      obtain rfl := strsOf_some hq
      have h2 := hl.2
      simp only [shortB, Bool.and_eq_true, decide_eq_true_eq, List.all_eq_true] at h2
      refine ⟨flats_map _, rfl, ?_⟩
      rw [← readA_eq]
      exact read_to m w0 rest n hl.1 (by have := h2.1; simp only [List.length_cons] at this; omega) h2.2
    · cases h
  · cases h⟩
@[reducible] noncomputable def X7 (m : Int) : Ctx := (X6 m).reads (G0 m) [lawRead m]
theorem X7_sound (m : Int) : (X7 m).Sound 11 := Ctx.reads_sound (X6_sound m) (okG0 m) _
theorem c7_read {m : Int} {ws : List (List UInt8)} {σ : St} {o g n : Nat} {ro : Bool} {t : List AV} {Q : AV → St → Prop} (ho : σ[o]? = some ⟨g, ro, .cells 9 (ws.map AV.s ++ t)⟩) (hne : ws ≠ []) (hn : n = ws.length) (hw : shortB ws = true) (ht : σ.take 11 = G0 m) (q : Q (readT ws).v σ) : CallF (X7 m) 26 [.sl o g 0 n 1] σ Q := by
  subst hn
  refine CallF.lawR (lawRead m) rfl ho (cs := ws.map AV.s) (by
    show List.take (ws.length * 1) _ = _
    rw [Nat.mul_one, List.take_append_of_le_length (by rw [List.length_map]; exact Nat.le_refl _), List.take_of_length_le (by rw [List.length_map]; exact Nat.le_refl _)]) (by show ws.length * 1 ≤ _; simp) ?_ ht q
  show (match strsOf (ws.map AV.s) with
    | some (w0 :: rest) => if ws.length = rest.length + 1 ∧ shortB (w0 :: rest) = true then some (readT (w0 :: rest)).v else none
    | _ => none) = _
  rw [strsOf_map]
  cases ws with
  | nil => exact (hne rfl).elim
  | cons w0 rest => exact if_pos ⟨rfl, hw⟩
theorem c7_print {m w : Int} {σ : St} {Q : AV → St → Prop} (hw : 0 ≤ w ∧ w < 4294967296) (ht : σ.take 11 = G0 m) (q : Q (.s (printP w)) σ) : CallF (X7 m) 13 [.i .u32 w] σ Q :=
  CallF.underR rfl rfl (CallF.under rfl rfl (CallF.under rfl rfl (CallF.law (lawPrint m) rfl (if_pos hw) ht q)))
theorem c7_split {m : Int} {l : List UInt8} {σ : St} {Q : AV → St → Prop} (hl : l.length ≤ 4294967296) (q : Q (.sl σ.length 0 0 (wordsOf l).length 1) (newCells 9 ((wordsOf l).map AV.s) σ)) : CallF (X7 m) 25 [.s l] σ Q := by
  refine CallF.body (F := F25) tyB_ok (lit := false) rfl rfl (Nat.le_of_ble_eq_true rfl) ?_
  conv => whnf
  have hp : pFieldsFunc [.s l, .fn (.func 64) [] []] σ = some (.sl σ.length 0 0 (wordsOf l).length 1, newCells 9 ((wordsOf l).map AV.s) σ) := if_pos hl
  refine CallF.prim (g := pFieldsFunc) rfl hp ?_
  conv => whnf
  exact Fin.ref rfl q
/-- The word of a text, or what is wrong. -/
def lineP (l : List UInt8) : Int × Int :=
  if wordsOf l = [] then (0, 4)
  else if (readT (wordsOf l)).is = true ∧ (readT (wordsOf l)).lab = [] ∧ printP (readT (wordsOf l)).w = l then ((readT (wordsOf l)).w, 0) else (0, 4)
theorem words_short {l : List UInt8} (hl : l.length ≤ 4294967296) : shortB (wordsOf l) = true := by
  obtain ⟨h1, h2⟩ := wordsOf_len l
  simp only [shortB, Bool.and_eq_true, decide_eq_true_eq, List.all_eq_true]
  exact ⟨by omega, fun s hs => by have := h2 s hs; omega⟩
theorem line_to (m : Int) (l : List UInt8) (hl : l.length ≤ 4294967296) : CallF (X7 m) 10 [.s l] (G0 m) fun v s => v = .tu [.i .u32 (lineP l).1, .i .i64 (lineP l).2] ∧ s = G0 m := by
  refine CallF.body (F := F10) tyB_ok (lit := true) rfl rfl (Nat.le_of_ble_eq_true rfl) ?_
  conv => whnf
  refine c7_split hl ?_
  have hsh := words_short hl
  have hlen := (wordsOf_len l).1
  unfold lineP
  generalize wordsOf l = ws at hsh hlen ⊢
  have hrb := readT_bounds ws
  conv => whnf
  by_cases hne : ws = []
  · rw [if_pos hne]
    rw [show decide (((ws.length : Nat) : Int) = 0) = true from decide_eq_true (by rw [hne]; rfl)]
    conv => whnf
    exact Fin.flat rfl rfl ⟨rfl, rfl⟩
  have hp : 0 < ws.length := List.length_pos_iff.2 hne
  rw [if_neg hne, show decide (((ws.length : Nat) : Int) = 0) = false from decide_eq_false (by omega)]
  conv => whnf
  refine c7_read (t := []) (by rw [List.append_nil]; rfl) hne rfl hsh rfl ?_
  generalize readT ws = x at hrb ⊢
  obtain ⟨op, d, w, lab, is⟩ := x
  simp only at hrb ⊢
  cases is with
  | false =>
    conv => whnf
    exact Fin.flat rfl rfl ⟨rfl, rfl⟩
  | true =>
    match lab with
    | _ :: _ =>
      rw [if_neg (by rintro ⟨_, h, _⟩; cases h)]
      conv => whnf
      exact Fin.flat rfl rfl ⟨rfl, rfl⟩
    | [] =>
      conv => whnf
      refine c7_print hrb rfl ?_
      conv => whnf
      cases hq : printP w == l with
      | true =>
        rw [if_pos ⟨rfl, rfl, by simpa using hq⟩]
        conv => whnf
        exact Fin.flat rfl rfl ⟨rfl, rfl⟩
      | false =>
        rw [if_neg (by rintro ⟨_, _, h⟩; rw [h] at hq; simp at hq)]
        conv => whnf
        exact Fin.flat rfl rfl ⟨rfl, rfl⟩
def lawLine (m : Int) : Law (X7 m) (G0 m) := ⟨10, fun | [.s l] => if l.length ≤ 4294967296 then some (.tu [.i .u32 (lineP l).1, .i .i64 (lineP l).2]) else none | _ => none, fun args v h => by
  split at h
  · split at h
    · rename_i hl; cases h; exact ⟨rfl, rfl, line_to m _ hl⟩
    · cases h
  · cases h⟩
end Go.Abs.YtkfcbgmamfnajaaGreatDoor
