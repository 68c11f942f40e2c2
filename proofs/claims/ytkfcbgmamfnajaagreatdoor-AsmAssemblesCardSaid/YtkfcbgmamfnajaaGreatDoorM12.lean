/- Texts of this claim, joined: RfG, RfH, Pn, RfI, RfJ. -/
import Derived.Test.YtkfcbgmamfnajaaGreatDoorM11
set_option linter.unusedVariables false
set_option linter.unusedSimpArgs false
/- The document's asm: read. -/
namespace Go.Abs.YtkfcbgmamfnajaaGreatDoor
open Go.Proofs
set_option maxRecDepth 4000
def lawRPrint (m : Int) : Law (X16 m) (G0 m) := ⟨14, fun | [.i .u32 w] => if 0 ≤ w ∧ w < 4294967296 then some (.s (printP w)) else none | _ => none, fun args v h => by
  split at h
  · split at h
    · rename_i hl; cases h; exact ⟨rfl, rfl, rprint_to m _ hl.1 hl.2⟩
    · cases h
  · cases h⟩
@[reducible] noncomputable def Y16 (m : Int) : Ctx := (X16 m).knows (G0 m) [lawRPrint m]
theorem Y16_sound (m : Int) : (Y16 m).Sound 11 := Ctx.knows_sound (X16_sound m) (okG0 m) _
theorem y16_enc {m op a b c i : Int} {σ : St} {Q : AV → St → Prop} (ht : σ.take 11 = G0 m) (q : Q (.tu [.i .u32 (encR op a b c i).1, .i .i64 (encR op a b c i).2]) σ) : CallF (Y16 m) 60 [.ag [.i .i64 op, .i .i64 a, .i .i64 b, .i .i64 c, .i .i64 i]] σ Q :=
  CallF.under rfl rfl (c16_enc ht q)
theorem y16_form {m op : Int} {σ : St} {Q : AV → St → Prop} (ht : σ.take 11 = G0 m) (q : Q (.s (formI op)) σ) : CallF (Y16 m) 38 [.i .i64 op] σ Q :=
  CallF.under rfl rfl (c16_form ht q)
theorem y16_op {m : Int} {l : List UInt8} {σ : St} {Q : AV → St → Prop} (ht : σ.take 11 = G0 m) (q : Q (.i .i64 (opOf l)) σ) : CallF (Y16 m) 70 [.s l] σ Q :=
  CallF.under rfl rfl (c16_op ht q)
theorem y16_value {m : Int} {l : List UInt8} {n : Nat} {σ : St} {Q : AV → St → Prop} (hl : l.length ≤ 281474976710656) (ht : σ.take 11 = G0 m) (q : Q (valI (valueR l n)) σ) : CallF (Y16 m) 69 [.s l, .i .u64 n] σ Q :=
  CallF.under rfl rfl (c16_value hl ht q)
theorem y16_reg {m : Int} {l : List UInt8} {σ : St} {Q : AV → St → Prop} (hl : l.length ≤ 281474976710656) (ht : σ.take 11 = G0 m) (q : Q (.tu [.i .i64 (regR l).1, .b (regR l).2]) σ) : CallF (Y16 m) 71 [.s l] σ Q :=
  CallF.under rfl rfl <| CallF.law (lawRReg m) rfl (if_pos hl) ht q
theorem y16_num {m : Int} {l : List UInt8} {σ : St} {Q : AV → St → Prop} (hl : l.length ≤ 281474976710656) (ht : σ.take 11 = G0 m) (q : Q (.tu [.i .i64 (numberR l).1, .b (numberR l).2]) σ) : CallF (Y16 m) 72 [.s l] σ Q :=
  CallF.under rfl rfl <| CallF.law (lawRNum m) rfl (if_pos hl) ht q
theorem y16_lab {m : Int} {l : List UInt8} {σ : St} {Q : AV → St → Prop} (hl : l.length ≤ 281474976710656) (ht : σ.take 11 = G0 m) (q : Q (.b (nameL l)) σ) : CallF (Y16 m) 58 [.s l] σ Q :=
  CallF.under rfl rfl <| CallF.law (lawRLab m) rfl (if_pos hl) ht q
theorem y16_jumps {m op : Int} {σ : St} {Q : AV → St → Prop} (ht : σ.take 11 = G0 m) (q : Q (.b (jumpB op)) σ) : CallF (Y16 m) 73 [.i .i64 op] σ Q :=
  CallF.under rfl rfl <| CallF.law (lawRJumps m) rfl rfl ht q
/-- One field of an item. -/
def stR (op : Int) (ch : UInt8) (s : List UInt8) (x : DS × List UInt8) : Option (DS × List UInt8) :=
  if ch = 97 then (if (regR s).2 = true then some ({ x.1 with a := (regR s).1 }, x.2) else none)
  else if ch = 98 then (if (regR s).2 = true then some ({ x.1 with b := (regR s).1 }, x.2) else none)
  else if ch = 99 then (if (regR s).2 = true then some ({ x.1 with c := (regR s).1 }, x.2) else none)
  else if (numberR s).2 = true then some ({ x.1 with i := (numberR s).1 }, x.2)
  else if jumpB op && nameL s then some ({ x.1 with i := (numberR s).1 }, s) else none
def ritem0 : List AV := [.i .u32 0, .i .i64 0, .i .i64 0, .i .i64 0, .i .i64 0, .i .i64 0, .s []]
def ritemC (op : Int) (d : DS) (w : Int) (lab : List UInt8) : List AV := [.i .u32 w, .i .i64 op, .i .i64 d.a, .i .i64 d.b, .i .i64 d.c, .i .i64 d.i, .s lab]
def RR (m : Int) (ws : List (List UInt8)) (op : Int) (d : DS) (lab : List UInt8) : St := G0 m ++ [⟨1, true, .cells 9 (ws.map AV.s)⟩, ⟨0, false, .cells 61 ritem0⟩, ⟨0, false, .cells 61 (ritemC op d 0 lab)⟩]
set_option maxHeartbeats 4000000 in
theorem rr_round (m : Int) (ws : List (List UInt8)) (n : Nat) (op : Int) (d : DS) (lab l : List UInt8) (k : Nat) (ch : UInt8) (s : List UInt8) (hl : l.length ≤ 3) (hc : l[k]? = some ch) (hn : n = l.length + 1) (hs : (ws.map AV.s)[k + 1]? = some (.s s)) (hm : ch = 97 ∨ ch = 98 ∨ ch = 99 ∨ ch = 105 ∨ ch = 106) (hsl : s.length ≤ 281474976710656) (Q : Out → Env → St → Prop)
    (q1 : ∀ d' lab', stR op ch s (d, lab) = some (d', lab') → LoopF (Y16 m) [0, 2, 6, 7, 8] c28L0 [(0, .sl 11 1 0 n 1), (2, .p 12 0 0), (6, .p 13 0 0), (7, .s l), (8, .i .i64 (k + 1 : Nat))] (RR m ws op d' lab') Q)
    (q2 : stR op ch s (d, lab) = none → ∀ e' d' lab', get e' 2 = .p 12 0 0 → get e' 3 = .b false → Q .ret e' (RR m ws op d' lab')) :
    LoopF (Y16 m) [0, 2, 6, 7, 8] c28L0 [(0, .sl 11 1 0 n 1), (2, .p 12 0 0), (6, .p 13 0 0), (7, .s l), (8, .i .i64 k)] (RR m ws op d lab) Q := by
  have hpl : k < l.length := (List.getElem?_eq_some_iff.1 hc).1
  have hk1 : ∀ P : AV → Prop, P (.i .i64 ((k + 1 : Nat) : Int)) → ∃ r, IntKind.i64.wrap ((k : Int) + 1) = r ∧ P (.i .i64 r) := fun P h => ⟨((k + 1 : Nat) : Int), (wrap_i64 (by omega) (by omega)).trans (by omega), h⟩
  refine LoopF.round tyB_ok (lit := true) ?_
  conv => whnf
  rw [decide_eq_true (show ((k : Nat) : Int) < (l.length : Int) by omega)]
  conv => whnf
  refine ⟨_, wrap_i64 (by omega) (by omega), ?_⟩
  conv => whnf
  refine ⟨k + 1, by show (k : Int) + 1 = _; omega, by omega, ?_⟩
  conv => whnf
  refine om_of (v := .s s) (aLoad_at (T := yT9) rfl rfl (cellsAt_of (ro := true) (e := 9) (cs := ws.map AV.s) rfl) (by rw [Nat.zero_add, Nat.mul_one]; exact hs)) ?_
  conv => whnf
  refine y16_reg hsl rfl ?_
  conv => whnf
  rcases hm with rfl | rfl | rfl | rfl | rfl
  · have hA : stR op 97 s (d, lab) = if (regR s).2 = true then some ({ d with a := (regR s).1 }, lab) else none := rfl
    generalize regR s = x at hA ⊢
    obtain ⟨x, b⟩ := x
    cases b with
    | true =>
      rw [hA, if_pos rfl] at q1
      conv => whnf
      refine ⟨k, 97, rfl, hc, ?_⟩
      conv => whnf
      refine ⟨_, wrap_i64 (by omega) (by omega), ?_⟩
      conv => whnf
      exact q1 _ _ rfl
    | false =>
      rw [hA, if_neg (fun e => Bool.noConfusion e)] at q2
      conv => whnf
      refine ⟨k, 97, rfl, hc, ?_⟩
      conv => whnf
      exact q2 rfl _ { d with a := (x : Int) } lab rfl rfl
  · have hA : stR op 98 s (d, lab) = if (regR s).2 = true then some ({ d with b := (regR s).1 }, lab) else none := rfl
    generalize regR s = x at hA ⊢
    obtain ⟨x, b⟩ := x
    cases b with
    | true =>
      rw [hA, if_pos rfl] at q1
      conv => whnf
      refine ⟨k, 98, rfl, hc, ?_⟩
      conv => whnf
      refine ⟨_, wrap_i64 (by omega) (by omega), ?_⟩
      conv => whnf
      exact q1 _ _ rfl
    | false =>
      rw [hA, if_neg (fun e => Bool.noConfusion e)] at q2
      conv => whnf
      refine ⟨k, 98, rfl, hc, ?_⟩
      conv => whnf
      exact q2 rfl _ { d with b := (x : Int) } lab rfl rfl
  · have hA : stR op 99 s (d, lab) = if (regR s).2 = true then some ({ d with c := (regR s).1 }, lab) else none := rfl
    generalize regR s = x at hA ⊢
    obtain ⟨x, b⟩ := x
    cases b with
    | true =>
      rw [hA, if_pos rfl] at q1
      conv => whnf
      refine ⟨k, 99, rfl, hc, ?_⟩
      conv => whnf
      refine ⟨_, wrap_i64 (by omega) (by omega), ?_⟩
      conv => whnf
      exact q1 _ _ rfl
    | false =>
      rw [hA, if_neg (fun e => Bool.noConfusion e)] at q2
      conv => whnf
      refine ⟨k, 99, rfl, hc, ?_⟩
      conv => whnf
      exact q2 rfl _ { d with c := (x : Int) } lab rfl rfl
  · have hA : stR op 105 s (d, lab) = if (numberR s).2 = true then some ({ d with i := (numberR s).1 }, lab) else if jumpB op && nameL s then some ({ d with i := (numberR s).1 }, s) else none := rfl
    generalize regR s = y
    obtain ⟨y, c⟩ := y
    cases c
    all_goals
      conv => whnf
      refine ⟨k, 105, rfl, hc, ?_⟩
      conv => whnf
      refine y16_num hsl rfl ?_
      generalize numberR s = x at hA ⊢
      obtain ⟨x, b⟩ := x
      conv => whnf
      cases b with
      | true =>
        rw [hA, if_pos rfl] at q1
        conv => whnf
        refine ⟨_, wrap_i64 (by omega) (by omega), ?_⟩
        conv => whnf
        exact q1 _ _ rfl
      | false =>
        rw [hA, if_neg (fun e => Bool.noConfusion e)] at q2 q1
        conv => whnf
        refine y16_jumps rfl ?_
        conv => whnf
        cases hj : jumpB op with
        | false =>
          rw [hj] at q2
          conv => whnf
          exact q2 rfl _ { d with i := x } lab rfl rfl
        | true =>
          rw [hj] at q1 q2
          conv => whnf
          refine y16_lab hsl rfl ?_
          conv => whnf
          cases hq : nameL s with
          | false =>
            rw [hq] at q2
            conv => whnf
            exact q2 rfl _ { d with i := x } lab rfl rfl
          | true =>
            rw [hq] at q1
            conv => whnf
            refine ⟨_, wrap_i64 (by omega) (by omega), ?_⟩
            conv => whnf
            exact q1 _ _ rfl
  · have hA : stR op 106 s (d, lab) = if (numberR s).2 = true then some ({ d with i := (numberR s).1 }, lab) else if jumpB op && nameL s then some ({ d with i := (numberR s).1 }, s) else none := rfl
    generalize regR s = y
    obtain ⟨y, c⟩ := y
    cases c
    all_goals
      conv => whnf
      refine ⟨k, 106, rfl, hc, ?_⟩
      conv => whnf
      refine y16_num hsl rfl ?_
      generalize numberR s = x at hA ⊢
      obtain ⟨x, b⟩ := x
      conv => whnf
      cases b with
      | true =>
        rw [hA, if_pos rfl] at q1
        conv => whnf
        refine ⟨_, wrap_i64 (by omega) (by omega), ?_⟩
        conv => whnf
        exact q1 _ _ rfl
      | false =>
        rw [hA, if_neg (fun e => Bool.noConfusion e)] at q2 q1
        conv => whnf
        refine y16_jumps rfl ?_
        conv => whnf
        cases hj : jumpB op with
        | false =>
          rw [hj] at q2
          conv => whnf
          exact q2 rfl _ { d with i := x } lab rfl rfl
        | true =>
          rw [hj] at q1 q2
          conv => whnf
          refine y16_lab hsl rfl ?_
          conv => whnf
          cases hq : nameL s with
          | false =>
            rw [hq] at q2
            conv => whnf
            exact q2 rfl _ { d with i := x } lab rfl rfl
          | true =>
            rw [hq] at q1
            conv => whnf
            refine ⟨_, wrap_i64 (by omega) (by omega), ?_⟩
            conv => whnf
            exact q1 _ _ rfl
/-- The fields of an item. -/
def foldR (op : Int) : List UInt8 → List (List UInt8) → DS × List UInt8 → Option (DS × List UInt8)
  | [], _, x => some x
  | _ :: _, [], _ => none
  | ch :: l, s :: ws, x => match stR op ch s x with
    | some x' => foldR op l ws x'
    | none => none
theorem rr_loop (m : Int) (ws : List (List UInt8)) (n : Nat) (op : Int) (l : List UInt8) (hl : l.length ≤ 3) (hn : n = l.length + 1) (hw : ws.length = n) (hm : ∀ ch ∈ l, ch = 97 ∨ ch = 98 ∨ ch = 99 ∨ ch = 105 ∨ ch = 106) (hsl : ∀ s ∈ ws, s.length ≤ 281474976710656) (Q : Out → Env → St → Prop) :
    ∀ (j k : Nat) (d : DS) (lab : List UInt8), k + j = l.length →
    (∀ e' d' lab', foldR op (l.drop k) (ws.drop (k + 1)) (d, lab) = some (d', lab') → get e' 2 = .p 12 0 0 → get e' 6 = .p 13 0 0 → Q (.exit 0) e' (RR m ws op d' lab')) →
    (foldR op (l.drop k) (ws.drop (k + 1)) (d, lab) = none → ∀ e' d' lab', get e' 2 = .p 12 0 0 → get e' 3 = .b false → Q .ret e' (RR m ws op d' lab')) →
    LoopF (Y16 m) [0, 2, 6, 7, 8] c28L0 [(0, .sl 11 1 0 n 1), (2, .p 12 0 0), (6, .p 13 0 0), (7, .s l), (8, .i .i64 k)] (RR m ws op d lab) Q
  | 0, k, d, lab, hk, q1, q2 => by
    have hk' : k = l.length := by omega
    subst hk'
    rw [List.drop_length] at q1
    refine LoopF.round tyB_ok (lit := true) ?_
    conv => whnf
    rw [decide_eq_false (show ¬ ((l.length : Nat) : Int) < (l.length : Int) by omega)]
    conv => whnf
    exact q1 _ d lab rfl rfl rfl
  | j + 1, k, d, lab, hk, q1, q2 => by
    have hkl : k < l.length := by omega
    obtain ⟨ch, hc⟩ : ∃ ch, l[k]? = some ch := ⟨_, List.getElem?_eq_getElem hkl⟩
    obtain ⟨s, hs⟩ : ∃ s, ws[k + 1]? = some s := ⟨_, List.getElem?_eq_getElem (by omega)⟩
    have e1 : l.drop k = ch :: l.drop (k + 1) := by rw [List.drop_eq_getElem_cons hkl]; rw [List.getElem?_eq_getElem hkl] at hc; cases hc; rfl
    have e2 : ws.drop (k + 1) = s :: ws.drop (k + 1 + 1) := by rw [List.drop_eq_getElem_cons (by omega)]; rw [List.getElem?_eq_getElem (by omega)] at hs; cases hs; rfl
    rw [e1, e2] at q1 q2
    refine rr_round m ws n op d lab l k ch s hl hc hn (by rw [List.getElem?_map, hs]; rfl) (hm ch (List.mem_of_getElem? hc)) (hsl s (List.mem_of_getElem? hs)) Q (fun d' lab' h => ?_) (fun h => ?_)
    · have e3 : foldR op (ch :: l.drop (k + 1)) (s :: ws.drop (k + 1 + 1)) (d, lab) = foldR op (l.drop (k + 1)) (ws.drop (k + 1 + 1)) (d', lab') := by
        show (match stR op ch s (d, lab) with | some x' => foldR op (l.drop (k + 1)) (ws.drop (k + 1 + 1)) x' | none => none) = _
        rw [h]
      rw [e3] at q1 q2
      exact rr_loop m ws n op l hl hn hw hm hsl Q j (k + 1) d' lab' (by omega) q1 q2
    · have e3 : foldR op (ch :: l.drop (k + 1)) (s :: ws.drop (k + 1 + 1)) (d, lab) = none := by
        show (match stR op ch s (d, lab) with | some x' => foldR op (l.drop (k + 1)) (ws.drop (k + 1 + 1)) x' | none => none) = _
        rw [h]
      exact fun e' d' lab' => q2 e3 e' d' lab'
end Go.Abs.YtkfcbgmamfnajaaGreatDoor
/- The document's asm: read, whole. -/
namespace Go.Abs.YtkfcbgmamfnajaaGreatDoor
open Go.Proofs
set_option maxRecDepth 4000
def readR : List (List UInt8) → RT
  | [] => noRT
  | w0 :: rest => if w0 = wordB then (match rest with
      | [s] => ⟨0, d0, IntKind.u32.wrap (valueR s 4294967296).1, [], (valueR s 4294967296).2⟩
      | _ => noRT)
    else if opOf w0 = 0 ∨ rest.length ≠ (formI (opOf w0)).length then noRT
    else match foldR (opOf w0) (formI (opOf w0)) rest (d0, []) with
      | some (d, lab) => ⟨opOf w0, d, (encR (opOf w0) d.a d.b d.c d.i).1, lab, decide ((encR (opOf w0) d.a d.b d.c d.i).2 = 0)⟩
      | none => noRT
def RT.u (x : RT) : AV := .tu [.ag [.i .u32 x.w, .i .i64 x.op, .i .i64 x.d.a, .i .i64 x.d.b, .i .i64 x.d.c, .i .i64 x.d.i, .s x.lab], .b x.is]
set_option maxHeartbeats 4000000 in
theorem rread_to (m : Int) (w0 : List UInt8) (rest : List (List UInt8)) (n : Nat) (hn : n = rest.length + 1) (hlen : rest.length ≤ 281474976710656) (hsl : ∀ s ∈ w0 :: rest, s.length ≤ 281474976710656) : CallF (Y16 m) 28 [.sl 11 1 0 n 1] (G0 m ++ [⟨1, true, .cells 9 ((w0 :: rest).map AV.s)⟩]) fun v _ => v = (readR (w0 :: rest)).u := by
  refine CallF.body (F := F28) tyB_ok (lit := true) rfl rfl (Nat.le_of_ble_eq_true rfl) ?_
  conv => whnf
  refine ⟨0, rfl, by omega, ?_⟩
  conv => whnf
  cases hw : w0 == [119, 111, 114, 100] with
  | true =>
    have hA : ∀ x, readR (w0 :: x) = match x with
      | [s] => ⟨0, d0, IntKind.u32.wrap (valueR s 4294967296).1, [], (valueR s 4294967296).2⟩
      | _ => noRT := fun x => if_pos (by simpa [wordB] using hw)
    rw [hA]
    match rest, hn, hlen, hsl with
    | [], hn, _, _ =>
      subst hn
      conv => whnf
      exact Fin.flat rfl rfl rfl
    | s :: t :: r, hn, hlen, _ =>
      conv => whnf
      rw [decide_eq_false (show ¬ ((n : Nat) : Int) = 2 by rw [hn]; simp only [List.length_cons]; omega)]
      conv => whnf
      exact Fin.flat rfl rfl rfl
    | [s], hn, _, hsl =>
      subst hn
      conv => whnf
      refine ⟨1, rfl, by simp, ?_⟩
      conv => whnf
      refine y16_value (n := 4294967296) (hsl s (by simp)) rfl ?_
      obtain ⟨y, hy⟩ : ∃ y, valueR s 4294967296 = y := ⟨_, rfl⟩
      rw [hy]
      obtain ⟨x, b⟩ := y
      cases b
      all_goals
        conv => whnf
        refine ⟨_, rfl, ?_⟩
        conv => whnf
        refine Fin.flat rfl rfl ?_
        show _ = RT.u ⟨0, d0, IntKind.u32.wrap (valueR s 4294967296).1, [], (valueR s 4294967296).2⟩
        rw [hy]; rfl
  | false =>
    have hA : readR (w0 :: rest) = if opOf w0 = 0 ∨ rest.length ≠ (formI (opOf w0)).length then noRT
      else match foldR (opOf w0) (formI (opOf w0)) rest (d0, []) with
      | some (d, lab) => ⟨opOf w0, d, (encR (opOf w0) d.a d.b d.c d.i).1, lab, decide ((encR (opOf w0) d.a d.b d.c d.i).2 = 0)⟩
      | none => noRT := if_neg (by simpa [wordB] using hw)
    rw [hA]
    conv => whnf
    refine ⟨0, rfl, by omega, ?_⟩
    conv => whnf
    refine y16_op rfl ?_
    conv => whnf
    generalize opOf w0 = op
    refine y16_form rfl ?_
    conv => whnf
    have hfl := form_len op
    obtain ⟨_, hch⟩ := form_small op
    generalize formI op = l at hfl hch ⊢
    by_cases ho : op = 0
    · rw [if_pos (.inl ho)]
      rw [show decide ((op : Int) = 0) = true from decide_eq_true (by omega)]
      conv => whnf
      exact Fin.flat rfl rfl rfl
    rw [show decide ((op : Int) = 0) = false from decide_eq_false (by omega)]
    conv => whnf
    refine ⟨_, wrap_i64 (by omega) (by omega), ?_⟩
    conv => whnf
    by_cases hr : rest.length = l.length
    · rw [if_neg (by rintro (h | h); exact ho h; exact h hr)]
      rw [show decide (((n : Nat) : Int) = 1 + (l.length : Int)) = true from decide_eq_true (by rw [hn, hr]; omega)]
      conv => whnf
      refine rr_loop m (w0 :: rest) n op l hfl (by omega) (by rw [hn]; rfl) hch hsl _ l.length 0 d0 [] (by omega) (fun e' d' lab' hA g2 g6 => ?_) (fun hA e' d' lab' g2 g3 => ?_)
      · have hv : (match foldR op l rest (d0, []) with
          | some (d, lab) => (⟨op, d, (encR op d.a d.b d.c d.i).1, lab, decide ((encR op d.a d.b d.c d.i).2 = 0)⟩ : RT)
          | none => noRT) = ⟨op, d', (encR op d'.a d'.b d'.c d'.i).1, lab', decide ((encR op d'.a d'.b d'.c d'.i).2 = 0)⟩ := by
          rw [show foldR op l rest (d0, []) = some (d', lab') from hA]
        rw [hv]
        conv => whnf
        rw [g2]
        conv => whnf
        rw [g6]
        conv => whnf
        refine y16_enc rfl ?_
        conv => whnf
        generalize encR op d'.a d'.b d'.c d'.i = en at hv ⊢
        cases hb : decide (en.2 = 0) with
        | true =>
          conv => whnf
          exact Fin.flat rfl rfl rfl
        | false =>
          conv => whnf
          exact Fin.flat rfl rfl rfl
      · rw [show foldR op l rest (d0, []) = none from hA]
        conv => whnf
        rw [g2]
        conv => whnf
        rw [g3]
        conv => whnf
        exact Fin.flat rfl rfl rfl
    · rw [if_pos (.inr hr)]
      rw [show decide (((n : Nat) : Int) = 1 + (l.length : Int)) = false from decide_eq_false (by rw [hn]; omega)]
      conv => whnf
      exact Fin.flat rfl rfl rfl
end Go.Abs.YtkfcbgmamfnajaaGreatDoor
/- The program reads what the document reads. -/
namespace Go.Abs.YtkfcbgmamfnajaaGreatDoor
open Go.Proofs Go.Lib
set_option maxRecDepth 4000
theorem plain_iff (l : List UInt8) (n : Int) : (plainB l = true ∧ plainN l = n) ↔ l = itoa n ∧ -9223372036854775808 ≤ n ∧ n < 9223372036854775808 := by
  rw [← numP_iff]
  unfold plainB plainN numP
  cases parseIntB 64 l with
  | ok u =>
    show ((itoa u == l) = true ∧ u = n) ↔ (if itoa u = l then some u else none) = some n
    by_cases h : itoa u = l
    · rw [if_pos h]; simp [h]
    · rw [if_neg h]; simp [h]
  | range => simp
  | _ => simp
theorem plain_of {n : Int} (h : -9223372036854775808 ≤ n ∧ n < 9223372036854775808) : plainB (itoa n) = true ∧ plainN (itoa n) = n := (plain_iff _ n).2 ⟨rfl, h⟩
theorem plain_to_itoa {l : List UInt8} (h : plainB l = true) : l = itoa (plainN l) ∧ -9223372036854775808 ≤ plainN l ∧ plainN l < 9223372036854775808 := (plain_iff l _).1 ⟨h, rfl⟩
theorem itoa_ne (n : Int) : itoa n ≠ [] := by
  unfold itoa
  split
  · intro h; cases h
  · exact (dec_canon _).1.1
theorem dec_head (n : Nat) : ∃ c t, decDigits n = c :: t ∧ isDg c = true := by
  obtain ⟨⟨h1, h2, _⟩, _, _⟩ := dec_canon n
  cases h : decDigits n with
  | nil => exact (h1 h).elim
  | cons c t => rw [h] at h2; rw [List.all_cons, Bool.and_eq_true] at h2; exact ⟨c, t, rfl, h2.1⟩
theorem isDg_digit (c : UInt8) : isDg c = digitC c := by
  rw [isDg_iff, digitC_eq]
  congr 1
  · by_cases h : (c.toNat : Int) < 48
    · rw [decide_eq_true h, decide_eq_false (by omega)]; rfl
    · rw [decide_eq_false h, decide_eq_true (by omega)]; rfl
  · by_cases h : (57 : Int) < c.toNat
    · rw [decide_eq_true h, decide_eq_false (by omega)]; rfl
    · rw [decide_eq_false h, decide_eq_true (by omega)]; rfl
theorem itoa_head (n : Int) : ∃ c t, itoa n = c :: t ∧ (digitC c = true ∨ c = 45) := by
  unfold itoa
  split
  · exact ⟨45, _, rfl, .inr rfl⟩
  · obtain ⟨c, t, h, hd⟩ := dec_head n.toNat
    exact ⟨c, t, h, .inl (by rw [← isDg_digit]; exact hd)⟩
theorem name_itoa (n : Int) : nameL (itoa n) = false := by
  obtain ⟨c, t, h, hd⟩ := itoa_head n
  rw [h]
  unfold nameL
  rw [List.all_cons, show (c :: t).headD 0 = c from rfl]
  rcases hd with hd | rfl
  · rw [hd]; simp
  · rw [show nameC 45 = false by decide]; simp
theorem valueR_false {s : List UInt8} {limit : Nat} (hl : limit ≤ 10000000000) (h : (valueR s limit).2 = false) (n : Nat) (hs : s = decDigits n) : limit ≤ n := by
  rcases Nat.lt_or_ge n limit with h1 | h1
  · have := (valueR_iff s limit n hl).2 ⟨hs, h1⟩
    rw [this] at h; cases h
  · exact h1
theorem valueR_true {s : List UInt8} {limit : Nat} (hl : limit ≤ 10000000000) (h : (valueR s limit).2 = true) : s = decDigits (valueR s limit).1 ∧ (valueR s limit).1 < limit :=
  (valueR_iff s limit _ hl).1 (Prod.ext rfl h)
theorem reg_rel (s : List UInt8) : regB s = (regR s).2 ∧ ((regR s).2 = true → regN s = (regR s).1) := by
  rcases s with _ | ⟨c, t⟩
  · have : regB [] = false := by
      unfold regB
      have : hasPrefix ([] : List UInt8) [99] = false := rfl
      rw [this, Bool.and_false]; rfl
    rw [this]
    exact ⟨rfl, fun h => by cases h⟩
  · by_cases hc : c = 99
    · subst hc
      have hp : hasPrefix (99 :: t) [99] = true := by unfold hasPrefix; simp
      have hcut : cut99 (99 :: t) = t := by unfold cut99 trimPrefix; rw [if_pos hp]; rfl
      have hB : regB (99 :: t) = (plainB t && decide (0 ≤ plainN t) && decide (plainN t < 16)) := by unfold regB; rw [hcut, hp, Bool.and_true]
      have hN : regN (99 :: t) = plainN t := by unfold regN; rw [hcut]
      by_cases ht : t = []
      · subst ht
        have : plainB [] = false := by
          cases h : plainB [] with
          | false => rfl
          | true => exact (itoa_ne _ (plain_to_itoa h).1.symm).elim
        rw [hB, this]
        exact ⟨rfl, fun h => by cases h⟩
      · have hR : regR (99 :: t) = valueR t 16 := by
          unfold regR
          rw [if_neg]
          · rfl
          · rintro (h | h)
            · rw [List.length_cons] at h
              exact ht (List.eq_nil_of_length_eq_zero (by omega))
            · exact h rfl
        rw [hB, hR, hN]
        cases hv : (valueR t 16).2 with
        | true =>
          obtain ⟨h1, h2⟩ := valueR_true (by decide) hv
          have h3 : t = itoa ((valueR t 16).1 : Int) := by rw [itoa_nat]; exact h1
          have h4 := plain_of (n := ((valueR t 16).1 : Int)) (by omega)
          rw [← h3] at h4
          rw [h4.1, h4.2, decide_eq_true (by omega), decide_eq_true (by omega)]
          exact ⟨rfl, fun _ => rfl⟩
        | false =>
          refine ⟨?_, fun h => by cases h⟩
          cases hb : plainB t with
          | false => rfl
          | true =>
            obtain ⟨h1, h2, h3⟩ := plain_to_itoa hb
            by_cases h0 : 0 ≤ plainN t
            · by_cases h16 : plainN t < 16
              · exfalso
                have h5 : t = decDigits (plainN t).toNat := by
                  rw [← itoa_nat, show (((plainN t).toNat : Nat) : Int) = plainN t by omega]; exact h1
                have := valueR_false (by decide) hv _ h5
                omega
              · rw [decide_eq_false h16, Bool.and_false]
            · rw [decide_eq_false h0]; rfl
    · have hp : hasPrefix (c :: t) [99] = false := by
        unfold hasPrefix
        simp [List.isPrefixOf]
        exact fun h => hc h.symm
      have hB : regB (c :: t) = false := by unfold regB; rw [hp, Bool.and_false]; rfl
      have hR : regR (c :: t) = (0, false) := by unfold regR; rw [if_pos (.inr (fun e => hc (Option.some.inj e)))]
      rw [hB, hR]
      exact ⟨rfl, fun h => by cases h⟩
theorem num_true {s : List UInt8} (h : (numberR s).2 = true) : s = itoa (numberR s).1 ∧ -4294967296 < (numberR s).1 ∧ (numberR s).1 < 4294967296 := by
  by_cases hc : 1 < s.length ∧ s.head? = some 45
  · have hR : numberR s = (-((valueR s.tail 4294967296).1 : Int), (valueR s.tail 4294967296).2 && decide (0 < (valueR s.tail 4294967296).1)) := by unfold numberR; rw [if_pos hc]
    rw [hR] at h ⊢
    simp only [Bool.and_eq_true, decide_eq_true_eq] at h
    obtain ⟨h1, h2⟩ := valueR_true (by decide) h.1
    have hs : s = 45 :: s.tail := by
      cases s with
      | nil => cases hc.2
      | cons c t => have := Option.some.inj hc.2; subst this; rfl
    refine ⟨?_, by simp only; omega, by simp only; omega⟩
    show s = itoa (-((valueR s.tail 4294967296).1 : Int))
    unfold itoa
    rw [if_pos (by omega), show (-((valueR s.tail 4294967296).1 : Int)).natAbs = (valueR s.tail 4294967296).1 by omega, ← h1]
    exact hs
  · have hR : numberR s = (((valueR s 4294967296).1 : Int), (valueR s 4294967296).2) := by unfold numberR; rw [if_neg hc]
    rw [hR] at h ⊢
    obtain ⟨h1, h2⟩ := valueR_true (by decide) h
    refine ⟨?_, by simp only; omega, by simp only; omega⟩
    show s = itoa _
    rw [itoa_nat]; exact h1
theorem num_itoa {n : Int} (h1 : -4294967296 < n) (h2 : n < 4294967296) : numberR (itoa n) = (n, true) := by
  by_cases h0 : n < 0
  · have hi : itoa n = 45 :: decDigits n.natAbs := by unfold itoa; rw [if_pos h0]
    obtain ⟨c, t, hd, _⟩ := dec_head n.natAbs
    rw [hi]
    unfold numberR
    rw [if_pos ⟨by rw [hd]; simp, rfl⟩]
    have hv := (valueR_iff (decDigits n.natAbs) 4294967296 n.natAbs (by decide)).2 ⟨rfl, by omega⟩
    rw [List.tail_cons, hv]
    rw [decide_eq_true (by show 0 < n.natAbs; omega)]
    exact Prod.ext (by show -((n.natAbs : Nat) : Int) = n; omega) rfl
  · obtain ⟨k, rfl⟩ : ∃ k : Nat, n = k := ⟨n.toNat, by omega⟩
    rw [itoa_nat]
    obtain ⟨c, t, hd, hdg⟩ := dec_head k
    unfold numberR
    rw [if_neg]
    · have hv := (valueR_iff (decDigits k) 4294967296 k (by decide)).2 ⟨rfl, by omega⟩
      rw [hv]
    · rintro ⟨_, h⟩
      rw [hd] at h
      have := Option.some.inj h
      subst this
      exact absurd hdg (by decide)
theorem num_false {s : List UInt8} (h : (numberR s).2 = false) (hp : plainB s = true) : plainN s ≤ -4294967296 ∨ 4294967296 ≤ plainN s := by
  obtain ⟨h1, _, _⟩ := plain_to_itoa hp
  by_cases ha : -4294967296 < plainN s
  · by_cases hb : plainN s < 4294967296
    · have := num_itoa ha hb
      rw [← h1] at this
      rw [this] at h; cases h
    · right; omega
  · left; omega
theorem num_name {s : List UInt8} (h : nameL s = true) : (numberR s).1 = 0 := by
  rcases s with _ | ⟨c, t⟩
  · cases h
  · unfold nameL at h
    rw [List.all_cons, show (c :: t).headD 0 = c from rfl] at h
    simp only [Bool.and_eq_true, Bool.not_eq_true'] at h
    obtain ⟨⟨_, hc, _⟩, hd⟩ := h
    have h45 : c ≠ 45 := by rintro rfl; exact absurd hc (by decide)
    unfold numberR
    rw [if_neg (fun e => h45 (Option.some.inj e.2))]
    unfold valueR
    split
    · rfl
    · rw [if_neg]
      · rfl
      · rw [List.all_cons, isDg_digit, hd]; simp
theorem stA_reg (op : Int) (ch : UInt8) (hch : ch = 97 ∨ ch = 98 ∨ ch = 99) (s : List UInt8) (x : DS × List UInt8) : stA op ch s x = stR op ch s x := by
  obtain ⟨h1, h2⟩ := reg_rel s
  cases hb : (regR s).2 with
  | true =>
    rw [hb] at h1
    have h3 := h2 hb
    rcases hch with rfl | rfl | rfl
    · show (if regB s = true then some ({ x.1 with a := regN s }, x.2) else none) = (if (regR s).2 = true then some ({ x.1 with a := ((regR s).1 : Int) }, x.2) else none)
      rw [h1, hb, h3]
    · show (if regB s = true then some ({ x.1 with b := regN s }, x.2) else none) = (if (regR s).2 = true then some ({ x.1 with b := ((regR s).1 : Int) }, x.2) else none)
      rw [h1, hb, h3]
    · show (if regB s = true then some ({ x.1 with c := regN s }, x.2) else none) = (if (regR s).2 = true then some ({ x.1 with c := ((regR s).1 : Int) }, x.2) else none)
      rw [h1, hb, h3]
  | false =>
    rw [hb] at h1
    rcases hch with rfl | rfl | rfl
    · show (if regB s = true then some ({ x.1 with a := regN s }, x.2) else none) = (if (regR s).2 = true then some ({ x.1 with a := ((regR s).1 : Int) }, x.2) else none)
      rw [h1, hb]; rfl
    · show (if regB s = true then some ({ x.1 with b := regN s }, x.2) else none) = (if (regR s).2 = true then some ({ x.1 with b := ((regR s).1 : Int) }, x.2) else none)
      rw [h1, hb]; rfl
    · show (if regB s = true then some ({ x.1 with c := regN s }, x.2) else none) = (if (regR s).2 = true then some ({ x.1 with c := ((regR s).1 : Int) }, x.2) else none)
      rw [h1, hb]; rfl
def huge (i : Int) : Prop := i ≤ -4294967296 ∨ 4294967296 ≤ i
theorem stA_imm (op : Int) (ch : UInt8) (hch : ch = 105 ∨ ch = 106) (s : List UInt8) (x : DS × List UInt8) : stA op ch s x = stR op ch s x ∨ (stR op ch s x = none ∧ ∃ n, huge n ∧ stA op ch s x = some ({ x.1 with i := n }, x.2)) := by
  have hA : stA op ch s x = if plainB s = true then some ({ x.1 with i := plainN s }, x.2) else if jumpB op && nameL s then some ({ x.1 with i := 0 }, s) else none := by
    rcases hch with rfl | rfl <;> rfl
  have hR : stR op ch s x = if (numberR s).2 = true then some ({ x.1 with i := (numberR s).1 }, x.2) else if jumpB op && nameL s then some ({ x.1 with i := (numberR s).1 }, s) else none := by
    rcases hch with rfl | rfl <;> rfl
  rw [hA, hR]
  cases hn : (numberR s).2 with
  | true =>
    obtain ⟨h1, h2, h3⟩ := num_true hn
    obtain ⟨h4, h5⟩ := (plain_iff s (numberR s).1).2 ⟨h1, by omega, by omega⟩
    left
    rw [if_pos h4, if_pos rfl, h5]
  | false =>
    rw [if_neg (fun e => Bool.noConfusion e : ¬ false = true)]
    cases hp : plainB s with
    | true =>
      have hh := num_false hn hp
      have hnm : nameL s = false := by rw [(plain_to_itoa hp).1]; exact name_itoa _
      right
      rw [hnm, Bool.and_false]
      exact ⟨rfl, _, hh, by rw [if_pos rfl]⟩
    | false =>
      left
      rw [if_neg (fun e => Bool.noConfusion e : ¬ false = true)]
      cases hj : (jumpB op && nameL s) with
      | false => rfl
      | true =>
        rw [Bool.and_eq_true] at hj
        rw [num_name hj.2]
def okForm : List UInt8 → Prop
  | [] => True
  | [ch] => ch = 97 ∨ ch = 98 ∨ ch = 99 ∨ ch = 105 ∨ ch = 106
  | ch :: l => (ch = 97 ∨ ch = 98 ∨ ch = 99) ∧ okForm l
theorem okForm_formI (op : Int) : okForm (formI op) := by
  rcases formI_cases op with h | h | h | h | h | h | h <;> rw [h] <;> simp [okForm]
theorem fold_rel (op : Int) : ∀ (l : List UInt8) (ws : List (List UInt8)) (x : DS × List UInt8), okForm l →
    foldA op l ws x = foldR op l ws x ∨ (foldR op l ws x = none ∧ ∃ y, huge y.1.i ∧ foldA op l ws x = some y)
  | [], _, x, _ => .inl rfl
  | ch :: l, [], x, _ => .inl rfl
  | [ch], s :: ws, x, h => by
    have hA : foldA op [ch] (s :: ws) x = stA op ch s x := by
      show (match stA op ch s x with | some x' => foldA op [] ws x' | none => none) = _
      cases stA op ch s x <;> rfl
    have hR : foldR op [ch] (s :: ws) x = stR op ch s x := by
      show (match stR op ch s x with | some x' => foldR op [] ws x' | none => none) = _
      cases stR op ch s x <;> rfl
    rw [hA, hR]
    rcases h with h | h | h | h | h
    · exact .inl (stA_reg op ch (.inl h) s x)
    · exact .inl (stA_reg op ch (.inr (.inl h)) s x)
    · exact .inl (stA_reg op ch (.inr (.inr h)) s x)
    · rcases stA_imm op ch (.inl h) s x with q | ⟨q1, n, q2, q3⟩
      · exact .inl q
      · exact .inr ⟨q1, _, q2, q3⟩
    · rcases stA_imm op ch (.inr h) s x with q | ⟨q1, n, q2, q3⟩
      · exact .inl q
      · exact .inr ⟨q1, _, q2, q3⟩
  | ch :: ch2 :: l, s :: ws, x, h => by
    have hq := stA_reg op ch h.1 s x
    show (match stA op ch s x with | some x' => foldA op (ch2 :: l) ws x' | none => none) = (match stR op ch s x with | some x' => foldR op (ch2 :: l) ws x' | none => none) ∨ ((match stR op ch s x with | some x' => foldR op (ch2 :: l) ws x' | none => none) = none ∧ ∃ y, huge y.1.i ∧ (match stA op ch s x with | some x' => foldA op (ch2 :: l) ws x' | none => none) = some y)
    rw [hq]
    cases stR op ch s x with
    | none => exact .inl rfl
    | some x' => exact fold_rel op (ch2 :: l) ws x' h.2
theorem enc_huge {op a b c i : Int} (h : huge i) : encP op a b c i = (0, 2) := by
  rw [enc_eq]
  refine encR_no ?_
  unfold mayR
  by_cases h1 : op < 1
  · rw [decide_eq_true h1]; rfl
  · rw [decide_eq_false h1]
    by_cases h2 : 53 < op
    · rw [decide_eq_true h2]; rfl
    · rw [decide_eq_false h2]
      show mayF (formI op) a b c i = false
      cases hq : mayF (formI op) a b c i with
      | false => rfl
      | true =>
        obtain ⟨_, _, _, h3, h4, _⟩ := may_bounds (formI_cases op) hq
        rcases h with h | h <;> omega
/-- Both read the same. -/
theorem read_rel (ws : List (List UInt8)) : (readT ws).is = (readR ws).is ∧ ((readR ws).is = true → readT ws = readR ws) := by
  cases ws with
  | nil => exact ⟨rfl, fun _ => rfl⟩
  | cons w0 rest =>
    by_cases h1 : w0 = wordB
    · rw [show readT (w0 :: rest) = _ from if_pos h1, show readR (w0 :: rest) = _ from if_pos h1]
      match rest with
      | [] => exact ⟨rfl, fun _ => rfl⟩
      | _ :: _ :: _ => exact ⟨rfl, fun _ => rfl⟩
      | [s] =>
        show (plainB s && decide (0 ≤ plainN s) && decide (plainN s < 4294967296)) = (valueR s 4294967296).2 ∧ ((valueR s 4294967296).2 = true → (⟨0, d0, IntKind.u32.wrap (plainN s), [], plainB s && decide (0 ≤ plainN s) && decide (plainN s < 4294967296)⟩ : RT) = ⟨0, d0, IntKind.u32.wrap (valueR s 4294967296).1, [], (valueR s 4294967296).2⟩)
        cases hv : (valueR s 4294967296).2 with
        | true =>
          obtain ⟨h2, h3⟩ := valueR_true (by decide) hv
          obtain ⟨h4, h5⟩ := (plain_iff s ((valueR s 4294967296).1 : Int)).2 ⟨by rw [itoa_nat]; exact h2, by omega, by omega⟩
          rw [h4, h5, decide_eq_true (by omega), decide_eq_true (by omega)]
          exact ⟨rfl, fun _ => rfl⟩
        | false =>
          refine ⟨?_, fun h => by cases h⟩
          cases hb : plainB s with
          | false => rfl
          | true =>
            obtain ⟨h2, _, _⟩ := plain_to_itoa hb
            by_cases h3 : 0 ≤ plainN s
            · by_cases h4 : plainN s < 4294967296
              · exfalso
                have h5 : s = decDigits (plainN s).toNat := by
                  rw [← itoa_nat, show (((plainN s).toNat : Nat) : Int) = plainN s by omega]; exact h2
                have := valueR_false (by decide) hv _ h5
                omega
              · rw [decide_eq_false h4, Bool.and_false]
            · rw [decide_eq_false h3]; rfl
    · rw [show readT (w0 :: rest) = _ from if_neg h1, show readR (w0 :: rest) = _ from if_neg h1]
      by_cases h2 : opOf w0 = 0 ∨ rest.length ≠ (formI (opOf w0)).length
      · rw [if_pos h2, if_pos h2]; exact ⟨rfl, fun _ => rfl⟩
      · rw [if_neg h2, if_neg h2]
        rcases fold_rel (opOf w0) (formI (opOf w0)) rest (d0, []) (okForm_formI _) with q | ⟨q1, y, q2, q3⟩
        · rw [q]
          cases foldR (opOf w0) (formI (opOf w0)) rest (d0, []) with
          | none => exact ⟨rfl, fun _ => rfl⟩
          | some x =>
            show decide ((encP (opOf w0) x.1.a x.1.b x.1.c x.1.i).2 = 0) = decide ((encR (opOf w0) x.1.a x.1.b x.1.c x.1.i).2 = 0) ∧ _
            rw [enc_eq]
            exact ⟨rfl, fun _ => by
              show (⟨opOf w0, x.1, (encP (opOf w0) x.1.a x.1.b x.1.c x.1.i).1, x.2, decide ((encP (opOf w0) x.1.a x.1.b x.1.c x.1.i).2 = 0)⟩ : RT) = ⟨opOf w0, x.1, (encR (opOf w0) x.1.a x.1.b x.1.c x.1.i).1, x.2, decide ((encR (opOf w0) x.1.a x.1.b x.1.c x.1.i).2 = 0)⟩
              rw [enc_eq]⟩
        · rw [q1, q3]
          show decide ((encP (opOf w0) y.1.a y.1.b y.1.c y.1.i).2 = 0) = false ∧ (false = true → _)
          rw [enc_huge q2]
          exact ⟨rfl, fun h => by cases h⟩
end Go.Abs.YtkfcbgmamfnajaaGreatDoor
/- Slices that grow; the document's words between blanks. -/
namespace Go.Abs.YtkfcbgmamfnajaaGreatDoor
open Go.Proofs
set_option maxRecDepth 4000
/-- A slice that is whole a new object, of these cells. -/
def SqAt (e z A : Nat) (σ : St) (out : AV) (n : Nat) (cs : List AV) : Prop :=
  (cs.length = n * z ∧ cs.all AV.one = true) ∧ ((n = 0 ∧ out = .sl0) ∨ ∃ o g, A ≤ o ∧ out = .sl o g 0 n z ∧ σ[o]? = some ⟨g, false, .cells e cs⟩)
theorem SqAt.nil (e z A : Nat) (σ : St) : SqAt e z A σ .sl0 0 [] := ⟨⟨by simp, rfl⟩, .inl ⟨rfl, rfl⟩⟩
theorem SqAt.ext {e z A : Nat} {σ σ' : St} {out : AV} {n : Nat} {cs : List AV} (h : SqAt e z A σ out n cs) (he : Ext σ σ') : SqAt e z A σ' out n cs := by
  refine ⟨h.1, ?_⟩
  rcases h.2 with q | ⟨o, g, h1, h2, h3⟩
  · exact .inl q
  · exact .inr ⟨o, g, h1, h2, he.get h3⟩
theorem SqAt.new {e z A : Nat} {σ : St} {out : AV} {n : Nat} {cs : List AV} (h : SqAt e z A σ out n cs) (e' : Nat) (cs' : List AV) : SqAt e z A (newCells e' cs' σ) out n cs := h.ext ((Ext.refl σ).new _ _)
theorem SqAt.cases {e z A : Nat} {σ : St} {out : AV} {n : Nat} {cs : List AV} (h : SqAt e z A σ out n cs) : out = .sl0 ∨ ∃ o g, out = .sl o g 0 n z := by
  rcases h.2 with ⟨_, q⟩ | ⟨o, g, _, h2, _⟩
  · exact .inl q
  · exact .inr ⟨o, g, h2⟩
theorem one_map_s (ws : List (List UInt8)) : (ws.map AV.s).all AV.one = true := by
  induction ws with
  | nil => rfl
  | cons w ws ih => rw [List.map_cons, List.all_cons, ih]; rfl
/-- What an append leaves as it was. -/
structure Kept (A : Nat) (out : AV) (σ σ' : St) : Prop where
  low : ∀ i, i < A → σ'[i]? = σ[i]?
  len : σ.length ≤ σ'.length
  ne : ∀ i, i < σ.length → (∀ o g n z, out = .sl o g 0 n z → i ≠ o) → σ'[i]? = σ[i]?
theorem app_str {A : Nat} {σ : St} {out : AV} {n : Nat} {cs : List AV} (h : SqAt 9 1 A σ out n cs) (w : List UInt8) {C : Nat} (hC : σ[C]? = some ⟨0, false, .cells 9 [AV.s w]⟩) (hl : n ≤ 4294967296) (hA : A ≤ σ.length) {Q : AV → St → Prop}
    (q : ∀ out' σ', SqAt 9 1 A σ' out' (n + 1) (cs ++ [AV.s w]) → Kept A out σ σ' → Q out' σ') :
    AppF tyB.get false 52 out (.sl C 0 0 1 1) σ Q := by
  obtain ⟨⟨hc, hone⟩, h⟩ := h
  have hcs : (cs ++ [AV.s w]).length = (n + 1) * 1 := by rw [List.length_append, hc]; try (show n * 1 + 1 = _; omega)
  have hca : (cs ++ [AV.s w]).all AV.one = true := by rw [List.all_append, hone]; try rfl
  constructor
  refine om_of (v := yT52) rfl ?_
  refine om_of (v := yT9) rfl ?_
  refine om_of (srcCells_at hC (Nat.le_of_ble_eq_true rfl)) ?_
  rcases h with ⟨rfl, rfl⟩ | ⟨o, g, q1, rfl, q3⟩
  · have hnil : cs = [] := List.eq_nil_of_length_eq_zero (by simp [hc])
    subst hnil
    refine ⟨Nat.le_of_ble_eq_true rfl, ?_⟩
    refine q _ _ ⟨⟨hcs, hca⟩, .inr ⟨σ.length, 0, hA, rfl, ?_⟩⟩ ⟨fun i hi => get_old (by omega), by rw [len_new]; omega, fun i hi _ => get_old hi⟩
    rw [get_new]; rfl
  · refine om_of (ownAt_of q3) ?_
    have hdt : (cs.drop 0).take (n * 1) = cs := by rw [List.drop_zero, List.take_of_length_le (by omega)]
    refine ⟨rfl, by show 0 + n * 1 ≤ _; omega, ?_, by show (List.take (n * 1) (List.drop 0 cs)).all AV.one = true; rw [hdt]; exact hone, ?_⟩
    · show (n + 1) * 16 ≤ _; omega
    refine q _ _ ⟨⟨hcs, hca⟩, .inr ⟨o, g + 1, q1, by simp, ?_⟩⟩ ⟨fun i hi => by rw [List.getElem?_set_ne (by omega)], by rw [List.length_set]; exact Nat.le_refl _, fun i hi hne => by rw [List.getElem?_set_ne (fun e => hne o g _ _ rfl e.symm)]⟩
    rw [at_set q3]
    show some (AO.mk (g + 1) false (.cells 9 (List.take (n * 1) (List.drop 0 cs) ++ [AV.s w]))) = _
    rw [hdt]
def strsC (ws : List (List UInt8)) : List AV := ws.map AV.s
def lawRRead (m : Int) : LawR (Y16 m) (G0 m) := ⟨28, 9, 1, fun cs n => match strsOf cs with
    | some (w0 :: rest) => if n = rest.length + 1 ∧ shortB (w0 :: rest) = true then some (readR (w0 :: rest)).u else none
    | _ => none, fun cs n v h => by
  split at h
  · rename_i w0 rest hq
    split at h
    · rename_i hl
      cases h
      obtain rfl := strsOf_some hq
      have h2 := hl.2
      simp only [shortB, Bool.and_eq_true, decide_eq_true_eq, List.all_eq_true] at h2
      exact ⟨flats_map _, rfl, rread_to m w0 rest n hl.1 (by have := h2.1; simp only [List.length_cons] at this; omega) h2.2⟩
    · cases h
  · cases h⟩
@[reducible] noncomputable def X17 (m : Int) : Ctx := (Y16 m).reads (G0 m) [lawRRead m]
theorem X17_sound (m : Int) : (X17 m).Sound 11 := Ctx.reads_sound (Y16_sound m) (okG0 m) _
theorem c17_read {m : Int} {ws : List (List UInt8)} {σ : St} {o g n : Nat} {ro : Bool} {t : List AV} {Q : AV → St → Prop} (ho : σ[o]? = some ⟨g, ro, .cells 9 (ws.map AV.s ++ t)⟩) (hne : ws ≠ []) (hn : n = ws.length) (hw : shortB ws = true) (ht : σ.take 11 = G0 m) (q : Q (readR ws).u σ) : CallF (X17 m) 28 [.sl o g 0 n 1] σ Q := by
  subst hn
  refine CallF.lawR (lawRRead m) rfl ho (cs := ws.map AV.s) (by
    show List.take (ws.length * 1) _ = _
    rw [Nat.mul_one, List.take_append_of_le_length (by rw [List.length_map]; exact Nat.le_refl _), List.take_of_length_le (by rw [List.length_map]; exact Nat.le_refl _)]) (by show ws.length * 1 ≤ _; simp) ?_ ht q
  show (match strsOf (ws.map AV.s) with
    | some (w0 :: rest) => if ws.length = rest.length + 1 ∧ shortB (w0 :: rest) = true then some (readR (w0 :: rest)).u else none
    | _ => none) = _
  rw [strsOf_map]
  cases ws with
  | nil => exact (hne rfl).elim
  | cons w0 rest => exact if_pos ⟨rfl, hw⟩
theorem rwords_loop (m : Int) (l : List UInt8) (hl : l.length ≤ 4294967296) (σ : St) (Q : Out → Env → St → Prop) (q : ∀ e' acc cur out σ', acc ++ wordsGo cur [] = wordsOf l → acc.length ≤ l.length → SqAt 9 1 σ.length σ' out acc.length (acc.map AV.s) → Ext σ σ' → get e' 3 = out → get e' 4 = .s cur → Q (.exit 0) e' σ') :
    ∀ (j k : Nat) (acc : List (List UInt8)) (cur : List UInt8) (out : AV) (σ' : St), k + j = l.length → acc.length ≤ k → cur.length ≤ k → acc ++ wordsGo cur (l.drop k) = wordsOf l → SqAt 9 1 σ.length σ' out acc.length (acc.map AV.s) → Ext σ σ' →
    LoopF (X17 m) [0, 3, 4, 5] c27L0 [(0, .s l), (3, out), (4, .s cur), (5, .i .i64 k)] σ' Q
  | 0, k, acc, cur, out, σ', hk, ha, hcur, hw, ho, hx => by
    have hk' : k = l.length := by omega
    subst hk'
    rw [List.drop_length] at hw
    rcases ho.cases with rfl | ⟨o1, g1, rfl⟩
    all_goals
      refine LoopF.round tyB_ok (lit := false) ?_
      conv => whnf
      rw [decide_eq_false (show ¬ ((l.length : Nat) : Int) < (l.length : Int) by omega)]
      conv => whnf
      exact q _ acc cur _ σ' hw ha ho hx rfl rfl
  | j + 1, k, acc, cur, out, σ', hk, ha, hcur, hw, ho, hx => by
    have hlt : k < l.length := by omega
    have hc : l[k]? = some l[k] := List.getElem?_eq_getElem hlt
    have hd : l.drop k = l[k] :: l.drop (k + 1) := List.drop_eq_getElem_cons hlt
    rw [hd] at hw
    have hk1 : ∀ P : Int → Prop, P ((k + 1 : Nat) : Int) → ∃ r, IntKind.i64.wrap ((k : Int) + 1) = r ∧ P r := fun P h => ⟨((k + 1 : Nat) : Int), (wrap_i64 (by omega) (by omega)).trans (by omega), h⟩
    generalize l[k] = c at hc hw hd
    by_cases h32 : c = 32
    · subst h32
      have hw1 : wordsGo cur (32 :: l.drop (k + 1)) = if cur = [] then wordsGo [] (l.drop (k + 1)) else cur :: wordsGo [] (l.drop (k + 1)) := by
        show (if (32 : UInt8) = 32 then _ else _) = _
        rw [if_pos rfl]
      rw [hw1] at hw
      rcases cur with _ | ⟨y, cur⟩
      · rw [if_pos rfl] at hw
        rcases ho.cases with rfl | ⟨o1, g1, rfl⟩
        all_goals
          refine LoopF.round tyB_ok (lit := false) ?_
          conv => whnf
          rw [decide_eq_true (show ((k : Nat) : Int) < (l.length : Int) by omega)]
          conv => whnf
          refine ⟨k, 32, rfl, hc, ?_⟩
          conv => whnf
          refine ⟨((k + 1 : Nat) : Int), (wrap_i64 (by omega) (by omega)).trans (by omega), ?_⟩
          conv => whnf
          exact rwords_loop m l hl σ Q q j (k + 1) acc [] _ σ' (by omega) (by omega) (by simp) hw ho hx
      · rw [if_neg (fun e => by cases e)] at hw
        have hw3 : (acc ++ [y :: cur]) ++ wordsGo [] (l.drop (k + 1)) = wordsOf l := by rw [← hw]; simp
        have hlen := hx.len
        rcases ho.cases with rfl | ⟨o1, g1, rfl⟩
        all_goals
          refine LoopF.round tyB_ok (lit := false) ?_
          conv => whnf
          rw [decide_eq_true (show ((k : Nat) : Int) < (l.length : Int) by omega)]
          conv => whnf
          refine ⟨k, 32, rfl, hc, ?_⟩
          conv => whnf
          refine app_str (ho.new _ _) (y :: cur) (get_new _ _ _) (by omega) (by rw [len_new]; omega) fun out2 σ2 ho2 hk2 => ?_
          have hx2 : Ext σ σ2 := ⟨by have := hk2.len; rw [len_new] at this; omega, fun i hi => by rw [hk2.low i hi]; exact (hx.new _ _).old i hi⟩
          have ho3 : SqAt 9 1 σ.length σ2 out2 (acc ++ [y :: cur]).length ((acc ++ [y :: cur]).map AV.s) := by
            rw [List.length_append, List.map_append]; exact ho2
          rcases ho2.cases with rfl | ⟨o3, g3, rfl⟩
          all_goals
            conv => whnf
            refine ⟨((k + 1 : Nat) : Int), (wrap_i64 (by omega) (by omega)).trans (by omega), ?_⟩
            conv => whnf
            exact rwords_loop m l hl σ Q q j (k + 1) (acc ++ [y :: cur]) [] _ σ2 (by omega) (by rw [List.length_append]; simp; omega) (by simp) hw3 ho3 hx2
    · have hw2 : acc ++ wordsGo (cur ++ [c]) (l.drop (k + 1)) = wordsOf l := by rw [← hw]; show _ = acc ++ (if c = 32 then _ else wordsGo (cur ++ [c]) (l.drop (k + 1))); rw [if_neg h32]
      rcases ho.cases with rfl | ⟨o1, g1, rfl⟩
      all_goals
        refine LoopF.round tyB_ok (lit := false) ?_
        conv => whnf
        rw [decide_eq_true (show ((k : Nat) : Int) < (l.length : Int) by omega)]
        conv => whnf
        refine ⟨k, c, rfl, hc, ?_⟩
        conv => whnf
        rw [decide_eq_false (show ¬ ((c.toNat : Nat) : Int) = 32 from fun e => h32 (UInt8.toNat_inj.1 (by show c.toNat = 32; omega)))]
        conv => whnf
        refine ⟨((k + 1 : Nat) : Int), (wrap_i64 (by omega) (by omega)).trans (by omega), ?_⟩
        conv => whnf
        have hsl : List.take (k + 1 - k) (List.drop k l) = [c] := by
          rw [hd, show k + 1 - k = 1 by omega]; rfl
        refine ⟨k, k + 1, rfl, rfl, by omega, by omega, ?_⟩
        conv => whnf
        refine ⟨by rw [hsl]; simp; omega, ?_⟩
        conv => whnf
        rw [hsl]
        refine ⟨((k + 1 : Nat) : Int), (wrap_i64 (by omega) (by omega)).trans (by omega), ?_⟩
        conv => whnf
        exact rwords_loop m l hl σ Q q j (k + 1) acc (cur ++ [c]) _ σ' (by omega) (by omega) (by simp; omega) hw2 ho hx
theorem rwords_to (m : Int) (l : List UInt8) (hl : l.length ≤ 4294967296) (σ : St) (Q : AV → St → Prop) (q : ∀ out σ', SqAt 9 1 σ.length σ' out (wordsOf l).length ((wordsOf l).map AV.s) → Ext σ σ' → Q out σ') : CallF (X17 m) 27 [.s l] σ Q := by
  refine CallF.body (F := F27) tyB_ok (lit := false) rfl rfl (Nat.le_of_ble_eq_true rfl) ?_
  conv => whnf
  refine rwords_loop m l hl σ _ (fun e' acc cur out σ' hw ha ho hx h3 h4 => ?_) l.length 0 [] [] .sl0 σ (by omega) (by simp) (by simp) rfl (SqAt.nil _ _ _ _) (Ext.refl _)
  conv => whnf
  rw [show Opd.ev e' (.t 4) = _ from h4]
  rcases cur with _ | ⟨y, cur⟩
  · have hw' : acc = wordsOf l := by rw [← hw]; show acc = acc ++ []; rw [List.append_nil]
    subst hw'
    have h3' : ∀ a b, get (put (some 30) a (put (some 29) b e')) 3 = out := fun a b => by rw [get_put_ne (by decide), get_put_ne (by decide)]; exact h3
    conv => whnf
    rw [show Opd.ev (put (some 30) _ (put (some 29) _ e')) (.t 3) = _ from h3' _ _]
    have q1 := q out σ' ho hx
    rcases ho.2 with ⟨hz, rfl⟩ | ⟨o1, g1, hA, rfl, hob⟩
    · conv => whnf
      exact Fin.flat rfl hx.take (q _ σ ⟨ho.1, .inl ⟨hz, rfl⟩⟩ (Ext.refl _))
    · conv => whnf
      exact Fin.ref rfl q1
  · have hw' : acc ++ [y :: cur] = wordsOf l := by rw [← hw]; rfl
    have h3' : ∀ a b, get (put (some 30) a (put (some 29) b e')) 3 = out := fun a b => by rw [get_put_ne (by decide), get_put_ne (by decide)]; exact h3
    have h4' : ∀ a b, get (put (some 30) a (put (some 29) b e')) 4 = .s (y :: cur) := fun a b => by rw [get_put_ne (by decide), get_put_ne (by decide)]; exact h4
    have hlen := hx.len
    conv => whnf
    rw [show get (put (some 30) _ (put (some 29) _ e')) 3 = _ from h3' _ _]
    rcases ho.cases with rfl | ⟨o1, g1, rfl⟩
    all_goals
      conv => whnf
      rw [show get (put (some 30) _ (put (some 29) _ e')) 4 = _ from h4' _ _]
      conv => whnf
      refine app_str (ho.new _ _) (y :: cur) (get_new _ _ _) (by omega) (by rw [len_new]; omega) fun out2 σ2 ho2 hk2 => ?_
      have hx2 : Ext σ σ2 := ⟨by have := hk2.len; rw [len_new] at this; omega, fun i hi => by rw [hk2.low i hi]; exact (hx.new _ _).old i hi⟩
      have ho3 : SqAt 9 1 σ.length σ2 out2 (wordsOf l).length ((wordsOf l).map AV.s) := by
        rw [← hw', List.length_append, List.map_append]; exact ho2
      have q1 := q out2 σ2 ho3 hx2
      rcases ho2.2 with ⟨hz, rfl⟩ | ⟨o3, g3, hA3, rfl, hob3⟩
      · cases hz
      · conv => whnf
        exact Fin.ref rfl q1
end Go.Abs.YtkfcbgmamfnajaaGreatDoor
/- The document's asm: Line. -/
namespace Go.Abs.YtkfcbgmamfnajaaGreatDoor
open Go.Proofs
set_option maxRecDepth 4000
theorem c17_print {m w : Int} {σ : St} {Q : AV → St → Prop} (hw : 0 ≤ w ∧ w < 4294967296) (ht : σ.take 11 = G0 m) (q : Q (.s (printP w)) σ) : CallF (X17 m) 14 [.i .u32 w] σ Q :=
  CallF.underR rfl rfl (CallF.law (lawRPrint m) rfl (if_pos hw) ht q)
theorem readR_bounds (ws : List (List UInt8)) (h : (readR ws).is = true) : 0 ≤ (readR ws).w ∧ (readR ws).w < 4294967296 := by
  rw [← (read_rel ws).2 h]; exact readT_bounds ws
theorem okF_take {m : Int} {σ' : St} (h : Ext (G0 m) σ') : σ'.take 11 = G0 m := h.take
theorem rline_to (m : Int) (l : List UInt8) (hl : l.length ≤ 4294967296) : CallF (X17 m) 11 [.s l] (G0 m) fun v s => v = .tu [.i .u32 (lineP l).1, .i .i64 (lineP l).2] ∧ s = G0 m := by
  refine CallF.body (F := F11) tyB_ok (lit := false) rfl rfl (Nat.le_of_ble_eq_true rfl) ?_
  conv => whnf
  refine rwords_to m l hl (G0 m) _ fun out σ' ho hx => ?_
  have hsh := words_short hl
  have hlen := (wordsOf_len l).1
  have hx0 : σ'.take 11 = G0 m := hx.take
  have hrel := read_rel (wordsOf l)
  unfold lineP
  generalize wordsOf l = ws at ho hsh hlen hrel ⊢
  rcases ho.2 with ⟨hz, rfl⟩ | ⟨o1, g1, hA, rfl, hob⟩
  · have hws : ws = [] := List.eq_nil_of_length_eq_zero hz
    rw [if_pos hws]
    conv => whnf
    exact Fin.flat rfl hx0 ⟨rfl, rfl⟩
  by_cases hne : ws = []
  · rw [if_pos hne]
    conv => whnf
    rw [show decide (((ws.length : Nat) : Int) = 0) = true from decide_eq_true (by rw [hne]; rfl)]
    conv => whnf
    exact Fin.flat rfl hx0 ⟨rfl, rfl⟩
  have hp : 0 < ws.length := List.length_pos_iff.2 hne
  rw [if_neg hne]
  conv => whnf
  rw [show decide (((ws.length : Nat) : Int) = 0) = false from decide_eq_false (by omega)]
  conv => whnf
  refine c17_read (t := []) (by rw [List.append_nil]; exact hob) hne rfl hsh hx0 ?_
  have hrb := readR_bounds ws
  rw [hrel.1]
  generalize readT ws = y at hrel ⊢
  generalize readR ws = x at hrb hrel ⊢
  obtain ⟨op, d, w, lab, is⟩ := x
  have hx2 : Ext (G0 m) ((newCells 61 yT61.zero.cells σ').set σ'.length ⟨0, false, .cells 61 (ritemC op d w lab)⟩) := (hx.new _ _).set (by have := hx.len; omega) _
  have hob2 : ((newCells 61 yT61.zero.cells σ').set σ'.length ⟨0, false, .cells 61 (ritemC op d w lab)⟩)[σ'.length]? = some ⟨0, false, .cells 61 (ritemC op d w lab)⟩ := at_set (get_new _ _ _) _
  cases is with
  | false =>
    rw [if_neg (by rintro ⟨h, _⟩; cases h)]
    conv => whnf
    refine om_of (aStore_to (T := yT61) (cs := yT61.zero.cells) (ritemC op d w lab) rfl (get_new _ _ _) rfl rfl (Nat.le_of_ble_eq_true rfl) rfl) ?_
    conv => whnf
    exact Fin.flat rfl hx2.take ⟨rfl, rfl⟩
  | true =>
    have hy := hrel.2 rfl
    subst hy
    have hw := hrb rfl
    simp only at hw
    conv => whnf
    refine om_of (aStore_to (T := yT61) (cs := yT61.zero.cells) (ritemC op d w lab) rfl (get_new _ _ _) rfl rfl (Nat.le_of_ble_eq_true rfl) rfl) ?_
    conv => whnf
    refine om_of (v := AV.s lab) (aLoad_at (T := yT9) rfl rfl (cellsAt_of hob2) rfl) ?_
    match lab, hx2, hob2 with
    | _ :: _, hx2, hob2 =>
      rw [if_neg (by rintro ⟨_, h, _⟩; cases h)]
      conv => whnf
      exact Fin.flat rfl hx2.take ⟨rfl, rfl⟩
    | [], hx2, hob2 =>
      conv => whnf
      refine om_of (v := AV.i .u32 w) (aLoad_at (T := yT22) rfl rfl (cellsAt_of hob2) rfl) ?_
      conv => whnf
      refine c17_print hw hx2.take ?_
      conv => whnf
      cases hq : printP w == l with
      | true =>
        rw [if_pos ⟨rfl, rfl, by simpa using hq⟩]
        conv => whnf
        refine om_of (v := AV.i .u32 w) (aLoad_at (T := yT22) rfl rfl (cellsAt_of hob2) rfl) ?_
        conv => whnf
        exact Fin.flat rfl hx2.take ⟨rfl, rfl⟩
      | false =>
        rw [if_neg (by rintro ⟨_, _, h⟩; rw [h] at hq; simp at hq)]
        conv => whnf
        exact Fin.flat rfl hx2.take ⟨rfl, rfl⟩
def lawRLine (m : Int) : Law (X17 m) (G0 m) := ⟨11, fun | [.s l] => if l.length ≤ 4294967296 then some (.tu [.i .u32 (lineP l).1, .i .i64 (lineP l).2]) else none | _ => none, fun args v h => by
  split at h
  · split at h
    · rename_i hl; cases h; exact ⟨rfl, rfl, rline_to m _ hl⟩
    · cases h
  · cases h⟩
@[reducible] noncomputable def X18 (m : Int) : Ctx := (X17 m).knows (G0 m) [lawRLine m]
theorem X18_sound (m : Int) : (X18 m).Sound 11 := Ctx.knows_sound (X17_sound m) (okG0 m) _
end Go.Abs.YtkfcbgmamfnajaaGreatDoor
