/- Texts of this claim, joined: AsA, AsB, AsC, AsD, Wk. -/
import Derived.Test.YtkfcbgmamfnajaaGreatDoorM12
set_option linter.unusedVariables false
set_option linter.unusedSimpArgs false
/- asm.Assemble: labels, and what a line is. -/
namespace Go.Abs.YtkfcbgmamfnajaaGreatDoor
open Go.Proofs
set_option maxRecDepth 4000
theorem up18 {m : Int} {f : Nat} {g : List AV → St → Option (AV × St)} {args : List AV} {σ : St} {Q : AV → St → Prop} (hp : (X7 m).prim f = some g) (h18 : (X18 m).prim f = some g) (h : CallF (X7 m) f args σ Q) : CallF (X18 m) f args σ Q := by
  constructor
  have h1 := h.ev
  rw [EvF_prim hp] at h1
  rw [EvF_prim h18]
  exact h1
theorem c18_read {m : Int} {ws : List (List UInt8)} {σ : St} {o g n : Nat} {ro : Bool} {Q : AV → St → Prop} (ho : σ[o]? = some ⟨g, ro, .cells 9 (ws.map AV.s)⟩) (hne : ws ≠ []) (hn : n = ws.length) (hw : shortB ws = true) (ht : σ.take 11 = G0 m) (q : Q (readT ws).v σ) : CallF (X18 m) 26 [.sl o g 0 n 1] σ Q :=
  up18 rfl rfl (c7_read (t := []) (by rw [List.append_nil]; exact ho) hne hn hw ht q)
theorem c18_name {m : Int} {l : List UInt8} {σ : St} {Q : AV → St → Prop} (hl : l.length ≤ 281474976710656) (ht : σ.take 11 = G0 m) (q : Q (.b (nameL l)) σ) : CallF (X18 m) 45 [.s l] σ Q :=
  up18 rfl rfl (CallF.underR rfl rfl (c6_nm hl ht q))
theorem c18_enc {m op a b c i : Int} {σ : St} {Q : AV → St → Prop} (ht : σ.take 11 = G0 m) (q : Q (.tu [.i .u32 (encP op a b c i).1, .i .i64 (encP op a b c i).2]) σ) : CallF (X18 m) 29 [.ag [.i .i64 op, .i .i64 a, .i .i64 b, .i .i64 c, .i .i64 i]] σ Q :=
  up18 rfl rfl (CallF.underR rfl rfl (c6_enc ht q))
theorem c18_split {m : Int} {l : List UInt8} {σ : St} {Q : AV → St → Prop} (hl : l.length ≤ 4294967296) (q : Q (.sl σ.length 0 0 (wordsOf l).length 1) (newCells 9 ((wordsOf l).map AV.s) σ)) : CallF (X18 m) 25 [.s l] σ Q := by
  refine CallF.body (F := F25) tyB_ok (lit := false) rfl rfl (Nat.le_of_ble_eq_true rfl) ?_
  conv => whnf
  have hp : pFieldsFunc [.s l, .fn (.func 64) [] []] σ = some (.sl σ.length 0 0 (wordsOf l).length 1, newCells 9 ((wordsOf l).map AV.s) σ) := if_pos hl
  refine CallF.prim (g := pFieldsFunc) rfl hp ?_
  conv => whnf
  exact Fin.ref rfl q
theorem c18_fault {m c l : Int} {σ : St} {Q : AV → St → Prop} (q : Q (.ic 48 (.p σ.length 0 0)) (newCells 54 [.i .i64 c, .i .i64 l] σ)) : CallF (X18 m) 42 [.i .i64 c, .i .i64 l] σ Q := by
  refine CallF.body (F := F42) tyB_ok (lit := false) rfl rfl (Nat.le_of_ble_eq_true rfl) ?_
  conv => whnf
  exact Fin.ref rfl q
def lookL (n : List UInt8) : List (List UInt8 × Nat) → Option Nat
  | [] => none
  | p :: L => if p.1 = n then some p.2 else lookL n L
def entL (L : List (List UInt8 × Nat)) : List (AV × AV) := L.map fun p => (.s p.1, .i .i64 p.2)
theorem eq_str (a b : List UInt8) : aEq Tryz.prog 20 9 (.s a) (.s b) = some (a == b) := rfl
theorem find_lab (n : List UInt8) : ∀ (L : List (List UInt8 × Nat)) (i : Nat), (lookL n L = none ∧ findA Tryz.prog 9 (.s n) (entL L) i = some none) ∨ ∃ p j, lookL n L = some p ∧ findA Tryz.prog 9 (.s n) (entL L) i = some (some (j, (.s n, .i .i64 p)))
  | [], i => .inl ⟨rfl, rfl⟩
  | p :: L, i => by
    have e : findA Tryz.prog 9 (.s n) (entL (p :: L)) i = match (some (n == p.1) : Option Bool) with
      | some true => some (some (i, (AV.s p.1, AV.i .i64 p.2)))
      | some false => findA Tryz.prog 9 (.s n) (entL L) (i + 1)
      | none => none := rfl
    by_cases h : p.1 = n
    · right
      refine ⟨p.2, i, by simp [lookL, h], ?_⟩
      rw [e, show (n == p.1) = true by simp [h], h]
    · have hb : (n == p.1) = false := by simpa using fun e => h e.symm
      rw [e, hb]
      simp only [lookL, if_neg h]
      exact find_lab n L (i + 1)
theorem lku_lab {σ : St} {o g : Nat} {ro : Bool} {L : List (List UInt8 × Nat)} (n : List UInt8) (h : σ[o]? = some ⟨g, ro, .maps (entL L)⟩) : aLku Tryz.prog 77 (.mp o g) (.s n) true σ = some (match lookL n L with | some p => .tu [.i .i64 p, .b true] | none => .tu [.i .i64 0, .b false]) := by
  have he : entsAt σ (.mp o g) = some (entL L) := by simp [entsAt, h]
  have e : aLku Tryz.prog 77 (.mp o g) (.s n) true σ = match entsAt σ (.mp o g) with
    | some es => (findA Tryz.prog 9 (.s n) es 0).map fun (r : Option (Nat × (AV × AV))) => match r with
        | some (_, e) => AV.tu [e.2, .b true]
        | none => AV.tu [.i .i64 0, .b false]
    | none => none := by
      show (match entsAt σ (.mp o g), some yT3 with
        | some es, some E => if keyOk Tryz.prog 9 (.s n) = true then (findA Tryz.prog 9 (.s n) es 0).map fun (r : Option (Nat × (AV × AV))) => match r with
          | some (_, e) => if true = true then AV.tu [e.2, .b true] else e.2
          | none => if true = true then AV.tu [E.zero, .b false] else E.zero
        else none
        | _, _ => none) = _
      cases entsAt σ (.mp o g) <;> rfl
  rw [e, he]
  simp only
  rcases find_lab n L 0 with ⟨h1, h2⟩ | ⟨p, j, h1, h2⟩
  · rw [h1, h2]; rfl
  · rw [h1, h2]; rfl
theorem mup_lab {σ : St} {o g : Nat} {L : List (List UInt8 × Nat)} (n : List UInt8) (p : Nat) (h : σ[o]? = some ⟨g, false, .maps (entL L)⟩) (hn : lookL n L = none) : aMup Tryz.prog 77 (.mp o g) (.s n) (.i .i64 p) σ = some (σ.set o ⟨g, false, .maps (entL (L ++ [(n, p)]))⟩) := by
  have hf : findA Tryz.prog 9 (.s n) (entL L) 0 = some none := by
    rcases find_lab n L 0 with ⟨_, h2⟩ | ⟨p, j, h1, _⟩
    · exact h2
    · rw [hn] at h1; cases h1
  show (match σ[o]? with
    | some ⟨g', false, .maps es⟩ => if g = g' ∧ keyOk Tryz.prog 9 (.s n) = true then
        match findA Tryz.prog 9 (.s n) es 0 with
        | some (some (i, e)) => if AV.eqv (.s n) e.1 = true ∧ bitsKey (.s n) = true then some (σ.set o ⟨g', false, .maps (es.set i (.s n, .i .i64 p))⟩) else none
        | some none => some (σ.set o ⟨g', false, .maps (es ++ [(AV.s n, AV.i .i64 p)])⟩)
        | none => none
      else none
    | _ => none) = _
  rw [h]
  simp only
  rw [if_pos ⟨trivial, by rfl⟩, hf]
  simp [entL]
end Go.Abs.YtkfcbgmamfnajaaGreatDoor
/- asm.Assemble: one line taken. -/
namespace Go.Abs.YtkfcbgmamfnajaaGreatDoor
open Go.Proofs
set_option maxRecDepth 4000
structure AS where
  L : List (List UInt8 × Nat)
  I : List (RT × Nat)
def labN (w : List UInt8) : List UInt8 := Lib.trimSuffix w [58]
def isLab : List (List UInt8) → Bool
  | [w] => Lib.hasSuffix w [58] && nameL (labN w)
  | _ => false
inductive AR where
  | st (s : AS)
  | bad (c : Int)
def takeP (ws : List (List UInt8)) (line : Nat) (s : AS) : AR :=
  if isLab ws = true then (match lookL (labN (ws.headD [])) s.L with
    | some _ => .bad 11
    | none => .st ⟨s.L ++ [(labN (ws.headD []), s.I.length)], s.I⟩)
  else if (readT ws).is = false then .bad 4 else if 4096 ≤ s.I.length then .bad 3 else .st ⟨s.L, s.I ++ [(readT ws, line)]⟩
def itemL (x : RT) (line : Nat) : List AV := [.i .i64 x.op, .i .i64 x.d.a, .i .i64 x.d.b, .i .i64 x.d.c, .i .i64 x.d.i, .i .u32 x.w, .s x.lab, .i .i64 line]
def itemsC (I : List (RT × Nat)) : List AV := I.flatMap fun p => itemL p.1 p.2
theorem itemsC_len (I : List (RT × Nat)) : (itemsC I).length = I.length * 8 := by
  induction I with
  | nil => rfl
  | cons p I ih => unfold itemsC at *; rw [List.flatMap_cons, List.length_append, ih, List.length_cons]; show 8 + _ = _; omega
structure TS (m : Int) (ls : List (List UInt8)) (s : AS) (σ : St) (it : AV) : Prop where
  x : Ext (G0 m) σ
  len : 15 ≤ σ.length
  h11 : σ[11]? = some ⟨0, false, .maps (entL s.L)⟩
  h12 : σ[12]? = some ⟨0, false, .cells 77 [.mp 11 0]⟩
  h13 : σ[13]? = some ⟨0, false, .cells 78 [it]⟩
  h14 : σ[14]? = some ⟨0, false, .cells 9 (ls.map AV.s)⟩
  hi : SqAt 57 8 15 σ it s.I.length (itemsC s.I)
theorem TS.new {m : Int} {ls : List (List UInt8)} {s : AS} {σ : St} {it : AV} (h : TS m ls s σ it) (e : Nat) (cs : List AV) : TS m ls s (newCells e cs σ) it :=
  ⟨h.x.new _ _, by rw [len_new]; have := h.len; omega, at_new h.h11 _ _, at_new h.h12 _ _, at_new h.h13 _ _, at_new h.h14 _ _, h.hi.new _ _⟩
theorem app_item {A : Nat} {σ : St} {out : AV} {n : Nat} {cs : List AV} (h : SqAt 57 8 A σ out n cs) (x : RT) (line : Nat) {C : Nat} (hC : σ[C]? = some ⟨0, false, .cells 57 [AV.i .i64 x.op, AV.i .i64 x.d.a, AV.i .i64 x.d.b, AV.i .i64 x.d.c, AV.i .i64 x.d.i, AV.i .u32 x.w, AV.s x.lab, AV.i .i64 line]⟩) (hl : n ≤ 4294967296) (hA : A ≤ σ.length) {Q : AV → St → Prop}
    (q : ∀ out' σ', SqAt 57 8 A σ' out' (n + 1) (cs ++ [AV.i .i64 x.op, AV.i .i64 x.d.a, AV.i .i64 x.d.b, AV.i .i64 x.d.c, AV.i .i64 x.d.i, AV.i .u32 x.w, AV.s x.lab, AV.i .i64 line]) → Kept A out σ σ' → Q out' σ') :
    AppF tyB.get false 78 out (.sl C 0 0 1 8) σ Q := by
  obtain ⟨⟨hc, hone⟩, h⟩ := h
  have hcs : (cs ++ [AV.i .i64 x.op, AV.i .i64 x.d.a, AV.i .i64 x.d.b, AV.i .i64 x.d.c, AV.i .i64 x.d.i, AV.i .u32 x.w, AV.s x.lab, AV.i .i64 line]).length = (n + 1) * 8 := by rw [List.length_append, hc]; try (show n * 8 + 8 = _; omega)
  have hca : (cs ++ [AV.i .i64 x.op, AV.i .i64 x.d.a, AV.i .i64 x.d.b, AV.i .i64 x.d.c, AV.i .i64 x.d.i, AV.i .u32 x.w, AV.s x.lab, AV.i .i64 line]).all AV.one = true := by rw [List.all_append, hone]; try rfl
  constructor
  refine om_of (v := yT78) rfl ?_
  refine om_of (v := yT57) rfl ?_
  refine om_of (srcCells_at hC (Nat.le_of_ble_eq_true rfl)) ?_
  rcases h with ⟨rfl, rfl⟩ | ⟨o, g, q1, rfl, q3⟩
  · have hnil : cs = [] := List.eq_nil_of_length_eq_zero (by simp [hc])
    subst hnil
    refine ⟨Nat.le_of_ble_eq_true rfl, ?_⟩
    refine q _ _ ⟨⟨hcs, hca⟩, .inr ⟨σ.length, 0, hA, rfl, ?_⟩⟩ ⟨fun i hi => get_old (by omega), by rw [len_new]; omega, fun i hi _ => get_old hi⟩
    rw [get_new]; rfl
  · refine om_of (ownAt_of q3) ?_
    have hdt : (cs.drop 0).take (n * 8) = cs := by rw [List.drop_zero, List.take_of_length_le (by omega)]
    refine ⟨rfl, by show 0 + n * 8 ≤ _; omega, ?_, by show (List.take (n * 8) (List.drop 0 cs)).all AV.one = true; rw [hdt]; exact hone, ?_⟩
    · show (n + 1) * 72 ≤ _; omega
    refine q _ _ ⟨⟨hcs, hca⟩, .inr ⟨o, g + 1, q1, by simp, ?_⟩⟩ ⟨fun i hi => by rw [List.getElem?_set_ne (by omega)], by rw [List.length_set]; exact Nat.le_refl _, fun i hi hne => by rw [List.getElem?_set_ne (fun e => hne o g _ _ rfl e.symm)]⟩
    rw [at_set q3]
    show some (AO.mk (g + 1) false (.cells 57 (List.take (n * 8) (List.drop 0 cs) ++ [AV.i .i64 x.op, AV.i .i64 x.d.a, AV.i .i64 x.d.b, AV.i .i64 x.d.c, AV.i .i64 x.d.i, AV.i .u32 x.w, AV.s x.lab, AV.i .i64 line]))) = _
    rw [hdt]
theorem take_ne {σ σ' : St} {i : Nat} {a b : AO} (h : σ[i]? = some a) (h' : σ'[i]? = some b) (hne : a ≠ b) : σ'.take σ.length ≠ σ := by
  intro e
  have h2 : (σ'.take σ.length)[i]? = σ[i]? := by rw [e]
  rw [List.getElem?_take, if_pos (lt_at h), h, h'] at h2
  exact hne (Option.some.inj h2).symm
theorem TS_neI {m : Int} {ls : List (List UInt8)} {s s' : AS} {σ σ' : St} {it it' : AV} (h : TS m ls s σ it) (h' : TS m ls s' σ' it') (hl : s'.I.length = s.I.length + 1) : σ'.take σ.length ≠ σ := by
  refine take_ne h.h13 h'.h13 fun e => ?_
  have e2 : it = it' := by injection e with _ _ e; injection e with _ e; exact (List.cons.inj e).1
  subst e2
  rcases h'.hi.2 with ⟨hz, _⟩ | ⟨o, g, _, q, _⟩
  · omega
  · rcases h.hi.2 with ⟨hz, q2⟩ | ⟨o2, g2, _, q2, _⟩
    · rw [q] at q2; cases q2
    · rw [q] at q2; injection q2 with _ _ _ e _; omega
theorem take_to (m : Int) (ls : List (List UInt8)) (s : AS) (σ : St) (it : AV) (ht : TS m ls s σ it) (w0 : List UInt8) (rest : List (List UInt8)) (o g n line : Nat) (ho : σ[o]? = some ⟨g, false, .cells 9 ((w0 :: rest).map AV.s)⟩) (hn : n = rest.length + 1) (hw : shortB (w0 :: rest) = true) (hI : s.I.length ≤ 4096) (Q : AV → St → Prop)
    (q1 : ∀ s' σ' it', takeP (w0 :: rest) line s = .st s' → TS m ls s' σ' it' → Q .ic0 σ')
    (q2 : ∀ c σ' o', takeP (w0 :: rest) line s = .bad c → Ext (G0 m) σ' → 11 ≤ o' → σ'[o']? = some ⟨0, false, .cells 54 [.i .i64 c, .i .i64 line]⟩ → Q (.ic 48 (.p o' 0 0)) σ') :
    CallF (X18 m) 43 [.sl o g 0 n 1, .i .i64 line, .p 12 0 0, .p 13 0 0] σ Q := by
  have hw2 := hw
  simp only [shortB, Bool.and_eq_true, decide_eq_true_eq, List.all_eq_true] at hw2
  have hw0 := hw2.2 w0 (by simp)
  have hlen := hw2.1
  simp only [List.length_cons] at hlen
  refine CallF.body (F := F43) tyB_ok (lit := false) rfl rfl (Nat.le_of_ble_eq_true rfl) ?_
  conv => whnf
  refine ⟨0, rfl, by omega, ?_⟩
  conv => whnf
  refine om_of (v := AV.s w0) (aLoad_at (T := yT9) rfl rfl (cellsAt_of ho) rfl) ?_
  conv => whnf
  have hp : pCutSuffix [.s w0, .s [58]] σ = some (.tu [.s (labN w0), .b (Lib.hasSuffix w0 [58])], σ) := if_pos (by omega)
  refine CallF.prim (g := pCutSuffix) rfl hp ?_
  have hlN : (labN w0).length ≤ 281474976710656 := Nat.le_trans (Lib.trimSuffix_le _ _) hw0
  cases hb : Lib.hasSuffix w0 [58] with
  | false =>
    have hq : isLab (w0 :: rest) = false := by
      cases rest with
      | nil => show (Lib.hasSuffix w0 [58] && nameL (labN w0)) = false; rw [hb]; rfl
      | cons _ _ => rfl
    conv => whnf
    refine c18_read ho (by simp) (by first | rfl | (rw [hn]; rfl)) hw ht.x.take ?_
    have hT : takeP (w0 :: rest) line s = if (readT (w0 :: rest)).is = false then .bad 4 else if 4096 ≤ s.I.length then .bad 3 else .st ⟨s.L, s.I ++ [(readT (w0 :: rest), line)]⟩ := by
      unfold takeP; rw [hq]; rfl
    rw [hT] at q1 q2
    generalize readT (w0 :: rest) = x at q1 q2 ⊢
    obtain ⟨op, d, w, lab, is⟩ := x
    have hlen0 := ht.len
    cases is with
    | false =>
      conv => whnf
      refine om_of (aStore_to (T := yT57) (cs := yT57.zero.cells) (itemL ⟨op, d, w, lab, false⟩ 0) rfl (get_new _ _ _) rfl rfl (Nat.le_of_ble_eq_true rfl) rfl) ?_
      conv => whnf
      refine c18_fault ?_
      conv => whnf
      exact Fin.ref rfl (q2 4 _ _ rfl (((ht.x.new _ _).set (by have := ht.x.len; omega) _).new _ _) (by rw [List.length_set, len_new]; omega) (get_new _ _ _))
    | true =>
      have hst : TS m ls s ((newCells 57 yT57.zero.cells σ).set σ.length ⟨0, false, .cells 57 (itemL ⟨op, d, w, lab, true⟩ 0)⟩) it := by
        have h1 := ht.new 57 yT57.zero.cells
        refine ⟨h1.x.set (by have := ht.x.len; omega) _, by rw [List.length_set]; exact h1.len, at_ne h1.h11 (by omega) _, at_ne h1.h12 (by omega) _, at_ne h1.h13 (by omega) _, at_ne h1.h14 (by omega) _, ?_⟩
        refine ht.hi.ext ⟨by rw [List.length_set, len_new]; omega, fun i hi => by rw [List.getElem?_set_ne (by omega), get_old hi]⟩
      have hob : ((newCells 57 yT57.zero.cells σ).set σ.length ⟨0, false, .cells 57 (itemL ⟨op, d, w, lab, true⟩ 0)⟩)[σ.length]? = some ⟨0, false, .cells 57 (itemL ⟨op, d, w, lab, true⟩ 0)⟩ := at_set (get_new _ _ _) _
      have hle : σ.length + 1 ≤ ((newCells 57 yT57.zero.cells σ).set σ.length ⟨0, false, .cells 57 (itemL ⟨op, d, w, lab, true⟩ 0)⟩).length := by rw [List.length_set, len_new]; exact Nat.le_refl _
      conv => whnf
      refine om_of (aStore_to (T := yT57) (cs := yT57.zero.cells) (itemL ⟨op, d, w, lab, true⟩ 0) rfl (get_new _ _ _) rfl rfl (Nat.le_of_ble_eq_true rfl) rfl) ?_
      generalize (newCells 57 yT57.zero.cells σ).set σ.length ⟨0, false, .cells 57 (itemL ⟨op, d, w, lab, true⟩ 0)⟩ = σ1 at hst hob hle ⊢
      conv => whnf
      refine om_of (v := it) (aLoad_at (T := yT78) rfl rfl (cellsAt_of hst.h13) rfl) ?_
      by_cases h4 : 4096 ≤ s.I.length
      · rw [if_neg (fun e => Bool.noConfusion e), if_pos h4] at q2
        rcases hst.hi.2 with ⟨hz, _⟩ | ⟨o1, g1, hA1, rfl, hob1⟩
        · omega
        · conv => whnf
          rw [decide_eq_true (show (4096 : Int) ≤ (s.I.length : Int) by omega)]
          conv => whnf
          refine c18_fault ?_
          conv => whnf
          exact Fin.ref rfl (q2 3 _ _ rfl (hst.x.new _ _) (by have := hst.len; omega) (get_new _ _ _))
      · rw [if_neg (fun e => Bool.noConfusion e), if_neg h4] at q1
        have hdec : decide ((4096 : Int) ≤ (s.I.length : Int)) = false := decide_eq_false (by omega)
        have hgo : ∀ σ2 (Q' : AV → St → Prop), TS m ls s σ2 it → σ2[σ.length]? = some ⟨0, false, .cells 57 (itemL ⟨op, d, w, lab, true⟩ line)⟩ → 
            (∀ v σ3, (∃ σ4, aStore (tyB.get 78) (.p 13 0 0) v σ3 = some σ4 ∧ TS m ls ⟨s.L, s.I ++ [(⟨op, d, w, lab, true⟩, line)]⟩ σ4 v) ∧ (∃ o g n z, v = .sl o g 0 n z) → Q' v σ3) →
            AppF tyB.get false 78 it (.sl σ2.length 0 0 1 8) (newCells 57 (itemL ⟨op, d, w, lab, true⟩ line) σ2) Q' := fun σ2 Q' h2 hx2 kk => by
          have h3 := h2.new 57 (itemL ⟨op, d, w, lab, true⟩ line)
          refine app_item h3.hi ⟨op, d, w, lab, true⟩ line (get_new _ _ _) (by omega) h3.len fun out2 σ3 ho3 hk3 => ?_
          have hn14 : ∀ i, i < 15 → σ3[i]? = (newCells 57 (itemL ⟨op, d, w, lab, true⟩ line) σ2)[i]? := fun i hi => hk3.low i hi
          have e13 : σ3[13]? = some ⟨0, false, .cells 78 [it]⟩ := by rw [hn14 13 (by decide)]; exact h3.h13
          have hone : out2.cells = [out2] := by
            rcases ho3.2 with ⟨hz, _⟩ | ⟨o5, g5, _, rfl, _⟩
            · cases hz
            · rfl
          refine kk _ _ ⟨⟨_, aStore_to (T := yT78) [out2] rfl e13 (by rw [hone]; rfl) (by rw [hone]; rcases ho3.2 with ⟨hz, _⟩ | ⟨o5, g5, _, rfl, _⟩; cases hz; rfl) (Nat.le_of_ble_eq_true rfl) (by rw [hone]; rfl), ?_⟩, ?_⟩
          · have hl3 := hk3.len
            have hl2 := h3.len
            refine ⟨?_, by rw [List.length_set]; omega, ?_, ?_, at_set e13 _, ?_, ?_⟩
            · refine Ext.set ⟨by have := h3.x.len; omega, fun i hi => by rw [hn14 i (by have : (G0 m).length = 11 := rfl; omega)]; exact h3.x.old i hi⟩ (by show 11 ≤ 13; omega) _
            · exact at_ne (by rw [hn14 11 (by decide)]; exact h3.h11) (by decide) _
            · exact at_ne (by rw [hn14 12 (by decide)]; exact h3.h12) (by decide) _
            · exact at_ne (by rw [hn14 14 (by decide)]; exact h3.h14) (by decide) _
            · have hcs : itemsC (s.I ++ [((⟨op, d, w, lab, true⟩ : RT), line)]) = itemsC s.I ++ itemL ⟨op, d, w, lab, true⟩ line := by unfold itemsC; rw [List.flatMap_append]; simp
              show SqAt _ _ _ _ _ (s.I ++ [((⟨op, d, w, lab, true⟩ : RT), line)]).length (itemsC (s.I ++ [((⟨op, d, w, lab, true⟩ : RT), line)]))
              rw [hcs, List.length_append]
              refine ⟨ho3.1, ?_⟩
              rcases ho3.2 with ⟨hz, _⟩ | ⟨o5, g5, hA5, h5, hob5⟩
              · cases hz
              · exact .inr ⟨o5, g5, hA5, h5, at_ne hob5 (by omega) _⟩
          · rcases ho3.2 with ⟨hz, _⟩ | ⟨o5, g5, _, h5, _⟩
            · cases hz
            · exact ⟨o5, g5, _, _, h5⟩
        have hst2 : TS m ls s (σ1.set σ.length ⟨0, false, .cells 57 (itemL ⟨op, d, w, lab, true⟩ line)⟩) it := by
          refine ⟨hst.x.set (by have := ht.x.len; omega) _, by rw [List.length_set]; exact hst.len, at_ne hst.h11 (by omega) _, at_ne hst.h12 (by omega) _, at_ne hst.h13 (by omega) _, at_ne hst.h14 (by omega) _, ?_⟩
          refine ⟨hst.hi.1, ?_⟩
          rcases ht.hi.2 with q | ⟨o6, g6, hA6, h6, hob6⟩
          · exact .inl q
          · rcases hst.hi.2 with q | ⟨o7, g7, hA7, h7, hob7⟩
            · exact .inl q
            · rw [h6] at h7
              cases h7
              exact .inr ⟨o6, g6, hA6, h6, at_ne hob7 (by have := lt_at hob6; omega) _⟩
        have hob2 : (σ1.set σ.length ⟨0, false, .cells 57 (itemL ⟨op, d, w, lab, true⟩ line)⟩)[σ.length]? = some ⟨0, false, .cells 57 (itemL ⟨op, d, w, lab, true⟩ line)⟩ := at_set hob _
        have hg := fun Q' => hgo _ Q' hst2 hob2
        rcases ht.hi.cases with rfl | ⟨o1, g1, rfl⟩
        all_goals
          conv => whnf
          try (rw [hdec]; conv => whnf)
          refine om_of (aStore_to (T := yT3) (cs := itemL ⟨op, d, w, lab, true⟩ 0) (itemL ⟨op, d, w, lab, true⟩ line) rfl hob rfl rfl (Nat.le_of_ble_eq_true rfl) rfl) ?_
          conv => whnf
          refine om_of (aLoad_at (T := yT78) rfl rfl (cellsAt_of hst2.h13) rfl) ?_
          conv => whnf
          refine om_of (v := AV.ag (itemL ⟨op, d, w, lab, true⟩ line)) (aLoad_ag (T := yT57) rfl rfl (cellsAt_of hob2) (Nat.le_of_ble_eq_true rfl)) ?_
          conv => whnf
          refine hg _ fun v σ3 hv => ?_
          obtain ⟨⟨σ4, hs4, ht4⟩, o8, g8, n8, z8, rfl⟩ := hv
          conv => whnf
          refine om_of hs4 ?_
          conv => whnf
          exact Fin.ne (TS_neI ht ht4 (by simp)) (q1 _ _ _ rfl ht4)
  | true =>
    match rest, hn, hw, ho, hw2, hlen, q1, q2 with
    | r1 :: rest, hn, hw, ho, hw2, hlen, q1, q2 =>
      have hq : isLab (w0 :: r1 :: rest) = false := rfl
      conv => whnf
      rw [show decide (((n : Nat) : Int) = 1) = false from decide_eq_false (by rw [hn]; simp only [List.length_cons]; omega)]
      conv => whnf
      refine c18_read ho (by simp) (by first | rfl | (rw [hn]; rfl)) hw ht.x.take ?_
      have hT : takeP (w0 :: r1 :: rest) line s = if (readT (w0 :: r1 :: rest)).is = false then .bad 4 else if 4096 ≤ s.I.length then .bad 3 else .st ⟨s.L, s.I ++ [(readT (w0 :: r1 :: rest), line)]⟩ := by
        unfold takeP; rw [hq]; rfl
      rw [hT] at q1 q2
      generalize readT (w0 :: r1 :: rest) = x at q1 q2 ⊢
      obtain ⟨op, d, w, lab, is⟩ := x
      have hlen0 := ht.len
      cases is with
      | false =>
        conv => whnf
        refine om_of (aStore_to (T := yT57) (cs := yT57.zero.cells) (itemL ⟨op, d, w, lab, false⟩ 0) rfl (get_new _ _ _) rfl rfl (Nat.le_of_ble_eq_true rfl) rfl) ?_
        conv => whnf
        refine c18_fault ?_
        conv => whnf
        exact Fin.ref rfl (q2 4 _ _ rfl (((ht.x.new _ _).set (by have := ht.x.len; omega) _).new _ _) (by rw [List.length_set, len_new]; omega) (get_new _ _ _))
      | true =>
        have hst : TS m ls s ((newCells 57 yT57.zero.cells σ).set σ.length ⟨0, false, .cells 57 (itemL ⟨op, d, w, lab, true⟩ 0)⟩) it := by
          have h1 := ht.new 57 yT57.zero.cells
          refine ⟨h1.x.set (by have := ht.x.len; omega) _, by rw [List.length_set]; exact h1.len, at_ne h1.h11 (by omega) _, at_ne h1.h12 (by omega) _, at_ne h1.h13 (by omega) _, at_ne h1.h14 (by omega) _, ?_⟩
          refine ht.hi.ext ⟨by rw [List.length_set, len_new]; omega, fun i hi => by rw [List.getElem?_set_ne (by omega), get_old hi]⟩
        have hob : ((newCells 57 yT57.zero.cells σ).set σ.length ⟨0, false, .cells 57 (itemL ⟨op, d, w, lab, true⟩ 0)⟩)[σ.length]? = some ⟨0, false, .cells 57 (itemL ⟨op, d, w, lab, true⟩ 0)⟩ := at_set (get_new _ _ _) _
        have hle : σ.length + 1 ≤ ((newCells 57 yT57.zero.cells σ).set σ.length ⟨0, false, .cells 57 (itemL ⟨op, d, w, lab, true⟩ 0)⟩).length := by rw [List.length_set, len_new]; exact Nat.le_refl _
        conv => whnf
        refine om_of (aStore_to (T := yT57) (cs := yT57.zero.cells) (itemL ⟨op, d, w, lab, true⟩ 0) rfl (get_new _ _ _) rfl rfl (Nat.le_of_ble_eq_true rfl) rfl) ?_
        generalize (newCells 57 yT57.zero.cells σ).set σ.length ⟨0, false, .cells 57 (itemL ⟨op, d, w, lab, true⟩ 0)⟩ = σ1 at hst hob hle ⊢
        conv => whnf
        refine om_of (v := it) (aLoad_at (T := yT78) rfl rfl (cellsAt_of hst.h13) rfl) ?_
        by_cases h4 : 4096 ≤ s.I.length
        · rw [if_neg (fun e => Bool.noConfusion e), if_pos h4] at q2
          rcases hst.hi.2 with ⟨hz, _⟩ | ⟨o1, g1, hA1, rfl, hob1⟩
          · omega
          · conv => whnf
            rw [decide_eq_true (show (4096 : Int) ≤ (s.I.length : Int) by omega)]
            conv => whnf
            refine c18_fault ?_
            conv => whnf
            exact Fin.ref rfl (q2 3 _ _ rfl (hst.x.new _ _) (by have := hst.len; omega) (get_new _ _ _))
        · rw [if_neg (fun e => Bool.noConfusion e), if_neg h4] at q1
          have hdec : decide ((4096 : Int) ≤ (s.I.length : Int)) = false := decide_eq_false (by omega)
          have hgo : ∀ σ2 (Q' : AV → St → Prop), TS m ls s σ2 it → σ2[σ.length]? = some ⟨0, false, .cells 57 (itemL ⟨op, d, w, lab, true⟩ line)⟩ → 
              (∀ v σ3, (∃ σ4, aStore (tyB.get 78) (.p 13 0 0) v σ3 = some σ4 ∧ TS m ls ⟨s.L, s.I ++ [(⟨op, d, w, lab, true⟩, line)]⟩ σ4 v) ∧ (∃ o g n z, v = .sl o g 0 n z) → Q' v σ3) →
              AppF tyB.get false 78 it (.sl σ2.length 0 0 1 8) (newCells 57 (itemL ⟨op, d, w, lab, true⟩ line) σ2) Q' := fun σ2 Q' h2 hx2 kk => by
            have h3 := h2.new 57 (itemL ⟨op, d, w, lab, true⟩ line)
            refine app_item h3.hi ⟨op, d, w, lab, true⟩ line (get_new _ _ _) (by omega) h3.len fun out2 σ3 ho3 hk3 => ?_
            have hn14 : ∀ i, i < 15 → σ3[i]? = (newCells 57 (itemL ⟨op, d, w, lab, true⟩ line) σ2)[i]? := fun i hi => hk3.low i hi
            have e13 : σ3[13]? = some ⟨0, false, .cells 78 [it]⟩ := by rw [hn14 13 (by decide)]; exact h3.h13
            have hone : out2.cells = [out2] := by
              rcases ho3.2 with ⟨hz, _⟩ | ⟨o5, g5, _, rfl, _⟩
              · cases hz
              · rfl
            refine kk _ _ ⟨⟨_, aStore_to (T := yT78) [out2] rfl e13 (by rw [hone]; rfl) (by rw [hone]; rcases ho3.2 with ⟨hz, _⟩ | ⟨o5, g5, _, rfl, _⟩; cases hz; rfl) (Nat.le_of_ble_eq_true rfl) (by rw [hone]; rfl), ?_⟩, ?_⟩
            · have hl3 := hk3.len
              have hl2 := h3.len
              refine ⟨?_, by rw [List.length_set]; omega, ?_, ?_, at_set e13 _, ?_, ?_⟩
              · refine Ext.set ⟨by have := h3.x.len; omega, fun i hi => by rw [hn14 i (by have : (G0 m).length = 11 := rfl; omega)]; exact h3.x.old i hi⟩ (by show 11 ≤ 13; omega) _
              · exact at_ne (by rw [hn14 11 (by decide)]; exact h3.h11) (by decide) _
              · exact at_ne (by rw [hn14 12 (by decide)]; exact h3.h12) (by decide) _
              · exact at_ne (by rw [hn14 14 (by decide)]; exact h3.h14) (by decide) _
              · have hcs : itemsC (s.I ++ [((⟨op, d, w, lab, true⟩ : RT), line)]) = itemsC s.I ++ itemL ⟨op, d, w, lab, true⟩ line := by unfold itemsC; rw [List.flatMap_append]; simp
                show SqAt _ _ _ _ _ (s.I ++ [((⟨op, d, w, lab, true⟩ : RT), line)]).length (itemsC (s.I ++ [((⟨op, d, w, lab, true⟩ : RT), line)]))
                rw [hcs, List.length_append]
                refine ⟨ho3.1, ?_⟩
                rcases ho3.2 with ⟨hz, _⟩ | ⟨o5, g5, hA5, h5, hob5⟩
                · cases hz
                · exact .inr ⟨o5, g5, hA5, h5, at_ne hob5 (by omega) _⟩
            · rcases ho3.2 with ⟨hz, _⟩ | ⟨o5, g5, _, h5, _⟩
              · cases hz
              · exact ⟨o5, g5, _, _, h5⟩
          have hst2 : TS m ls s (σ1.set σ.length ⟨0, false, .cells 57 (itemL ⟨op, d, w, lab, true⟩ line)⟩) it := by
            refine ⟨hst.x.set (by have := ht.x.len; omega) _, by rw [List.length_set]; exact hst.len, at_ne hst.h11 (by omega) _, at_ne hst.h12 (by omega) _, at_ne hst.h13 (by omega) _, at_ne hst.h14 (by omega) _, ?_⟩
            refine ⟨hst.hi.1, ?_⟩
            rcases ht.hi.2 with q | ⟨o6, g6, hA6, h6, hob6⟩
            · exact .inl q
            · rcases hst.hi.2 with q | ⟨o7, g7, hA7, h7, hob7⟩
              · exact .inl q
              · rw [h6] at h7
                cases h7
                exact .inr ⟨o6, g6, hA6, h6, at_ne hob7 (by have := lt_at hob6; omega) _⟩
          have hob2 : (σ1.set σ.length ⟨0, false, .cells 57 (itemL ⟨op, d, w, lab, true⟩ line)⟩)[σ.length]? = some ⟨0, false, .cells 57 (itemL ⟨op, d, w, lab, true⟩ line)⟩ := at_set hob _
          have hg := fun Q' => hgo _ Q' hst2 hob2
          rcases ht.hi.cases with rfl | ⟨o1, g1, rfl⟩
          all_goals
            conv => whnf
            try (rw [hdec]; conv => whnf)
            refine om_of (aStore_to (T := yT3) (cs := itemL ⟨op, d, w, lab, true⟩ 0) (itemL ⟨op, d, w, lab, true⟩ line) rfl hob rfl rfl (Nat.le_of_ble_eq_true rfl) rfl) ?_
            conv => whnf
            refine om_of (aLoad_at (T := yT78) rfl rfl (cellsAt_of hst2.h13) rfl) ?_
            conv => whnf
            refine om_of (v := AV.ag (itemL ⟨op, d, w, lab, true⟩ line)) (aLoad_ag (T := yT57) rfl rfl (cellsAt_of hob2) (Nat.le_of_ble_eq_true rfl)) ?_
            conv => whnf
            refine hg _ fun v σ3 hv => ?_
            obtain ⟨⟨σ4, hs4, ht4⟩, o8, g8, n8, z8, rfl⟩ := hv
            conv => whnf
            refine om_of hs4 ?_
            conv => whnf
            exact Fin.ne (TS_neI ht ht4 (by simp)) (q1 _ _ _ rfl ht4)
    | [], hn, hw, ho, hw2, hlen, q1, q2 =>
      subst hn
      conv => whnf
      refine c18_name hlN ht.x.take ?_
      conv => whnf
      cases hnm : nameL (labN w0) with
      | false =>
        have hq : isLab [w0] = false := by show (Lib.hasSuffix w0 [58] && nameL (labN w0)) = false; rw [hb, hnm]; rfl
        have hn : 0 + 1 = ([] : List (List UInt8)).length + 1 := rfl
        conv => whnf
        refine c18_read ho (by simp) (by first | rfl | (rw [hn]; rfl)) hw ht.x.take ?_
        have hT : takeP [w0] line s = if (readT [w0]).is = false then .bad 4 else if 4096 ≤ s.I.length then .bad 3 else .st ⟨s.L, s.I ++ [(readT [w0], line)]⟩ := by
          unfold takeP; rw [hq]; rfl
        rw [hT] at q1 q2
        generalize readT [w0] = x at q1 q2 ⊢
        obtain ⟨op, d, w, lab, is⟩ := x
        have hlen0 := ht.len
        cases is with
        | false =>
          conv => whnf
          refine om_of (aStore_to (T := yT57) (cs := yT57.zero.cells) (itemL ⟨op, d, w, lab, false⟩ 0) rfl (get_new _ _ _) rfl rfl (Nat.le_of_ble_eq_true rfl) rfl) ?_
          conv => whnf
          refine c18_fault ?_
          conv => whnf
          exact Fin.ref rfl (q2 4 _ _ rfl (((ht.x.new _ _).set (by have := ht.x.len; omega) _).new _ _) (by rw [List.length_set, len_new]; omega) (get_new _ _ _))
        | true =>
          have hst : TS m ls s ((newCells 57 yT57.zero.cells σ).set σ.length ⟨0, false, .cells 57 (itemL ⟨op, d, w, lab, true⟩ 0)⟩) it := by
            have h1 := ht.new 57 yT57.zero.cells
            refine ⟨h1.x.set (by have := ht.x.len; omega) _, by rw [List.length_set]; exact h1.len, at_ne h1.h11 (by omega) _, at_ne h1.h12 (by omega) _, at_ne h1.h13 (by omega) _, at_ne h1.h14 (by omega) _, ?_⟩
            refine ht.hi.ext ⟨by rw [List.length_set, len_new]; omega, fun i hi => by rw [List.getElem?_set_ne (by omega), get_old hi]⟩
          have hob : ((newCells 57 yT57.zero.cells σ).set σ.length ⟨0, false, .cells 57 (itemL ⟨op, d, w, lab, true⟩ 0)⟩)[σ.length]? = some ⟨0, false, .cells 57 (itemL ⟨op, d, w, lab, true⟩ 0)⟩ := at_set (get_new _ _ _) _
          have hle : σ.length + 1 ≤ ((newCells 57 yT57.zero.cells σ).set σ.length ⟨0, false, .cells 57 (itemL ⟨op, d, w, lab, true⟩ 0)⟩).length := by rw [List.length_set, len_new]; exact Nat.le_refl _
          conv => whnf
          refine om_of (aStore_to (T := yT57) (cs := yT57.zero.cells) (itemL ⟨op, d, w, lab, true⟩ 0) rfl (get_new _ _ _) rfl rfl (Nat.le_of_ble_eq_true rfl) rfl) ?_
          generalize (newCells 57 yT57.zero.cells σ).set σ.length ⟨0, false, .cells 57 (itemL ⟨op, d, w, lab, true⟩ 0)⟩ = σ1 at hst hob hle ⊢
          conv => whnf
          refine om_of (v := it) (aLoad_at (T := yT78) rfl rfl (cellsAt_of hst.h13) rfl) ?_
          by_cases h4 : 4096 ≤ s.I.length
          · rw [if_neg (fun e => Bool.noConfusion e), if_pos h4] at q2
            rcases hst.hi.2 with ⟨hz, _⟩ | ⟨o1, g1, hA1, rfl, hob1⟩
            · omega
            · conv => whnf
              rw [decide_eq_true (show (4096 : Int) ≤ (s.I.length : Int) by omega)]
              conv => whnf
              refine c18_fault ?_
              conv => whnf
              exact Fin.ref rfl (q2 3 _ _ rfl (hst.x.new _ _) (by have := hst.len; omega) (get_new _ _ _))
          · rw [if_neg (fun e => Bool.noConfusion e), if_neg h4] at q1
            have hdec : decide ((4096 : Int) ≤ (s.I.length : Int)) = false := decide_eq_false (by omega)
            have hgo : ∀ σ2 (Q' : AV → St → Prop), TS m ls s σ2 it → σ2[σ.length]? = some ⟨0, false, .cells 57 (itemL ⟨op, d, w, lab, true⟩ line)⟩ → 
                (∀ v σ3, (∃ σ4, aStore (tyB.get 78) (.p 13 0 0) v σ3 = some σ4 ∧ TS m ls ⟨s.L, s.I ++ [(⟨op, d, w, lab, true⟩, line)]⟩ σ4 v) ∧ (∃ o g n z, v = .sl o g 0 n z) → Q' v σ3) →
                AppF tyB.get false 78 it (.sl σ2.length 0 0 1 8) (newCells 57 (itemL ⟨op, d, w, lab, true⟩ line) σ2) Q' := fun σ2 Q' h2 hx2 kk => by
              have h3 := h2.new 57 (itemL ⟨op, d, w, lab, true⟩ line)
              refine app_item h3.hi ⟨op, d, w, lab, true⟩ line (get_new _ _ _) (by omega) h3.len fun out2 σ3 ho3 hk3 => ?_
              have hn14 : ∀ i, i < 15 → σ3[i]? = (newCells 57 (itemL ⟨op, d, w, lab, true⟩ line) σ2)[i]? := fun i hi => hk3.low i hi
              have e13 : σ3[13]? = some ⟨0, false, .cells 78 [it]⟩ := by rw [hn14 13 (by decide)]; exact h3.h13
              have hone : out2.cells = [out2] := by
                rcases ho3.2 with ⟨hz, _⟩ | ⟨o5, g5, _, rfl, _⟩
                · cases hz
                · rfl
              refine kk _ _ ⟨⟨_, aStore_to (T := yT78) [out2] rfl e13 (by rw [hone]; rfl) (by rw [hone]; rcases ho3.2 with ⟨hz, _⟩ | ⟨o5, g5, _, rfl, _⟩; cases hz; rfl) (Nat.le_of_ble_eq_true rfl) (by rw [hone]; rfl), ?_⟩, ?_⟩
              · have hl3 := hk3.len
                have hl2 := h3.len
                refine ⟨?_, by rw [List.length_set]; omega, ?_, ?_, at_set e13 _, ?_, ?_⟩
                · refine Ext.set ⟨by have := h3.x.len; omega, fun i hi => by rw [hn14 i (by have : (G0 m).length = 11 := rfl; omega)]; exact h3.x.old i hi⟩ (by show 11 ≤ 13; omega) _
                · exact at_ne (by rw [hn14 11 (by decide)]; exact h3.h11) (by decide) _
                · exact at_ne (by rw [hn14 12 (by decide)]; exact h3.h12) (by decide) _
                · exact at_ne (by rw [hn14 14 (by decide)]; exact h3.h14) (by decide) _
                · have hcs : itemsC (s.I ++ [((⟨op, d, w, lab, true⟩ : RT), line)]) = itemsC s.I ++ itemL ⟨op, d, w, lab, true⟩ line := by unfold itemsC; rw [List.flatMap_append]; simp
                  show SqAt _ _ _ _ _ (s.I ++ [((⟨op, d, w, lab, true⟩ : RT), line)]).length (itemsC (s.I ++ [((⟨op, d, w, lab, true⟩ : RT), line)]))
                  rw [hcs, List.length_append]
                  refine ⟨ho3.1, ?_⟩
                  rcases ho3.2 with ⟨hz, _⟩ | ⟨o5, g5, hA5, h5, hob5⟩
                  · cases hz
                  · exact .inr ⟨o5, g5, hA5, h5, at_ne hob5 (by omega) _⟩
              · rcases ho3.2 with ⟨hz, _⟩ | ⟨o5, g5, _, h5, _⟩
                · cases hz
                · exact ⟨o5, g5, _, _, h5⟩
            have hst2 : TS m ls s (σ1.set σ.length ⟨0, false, .cells 57 (itemL ⟨op, d, w, lab, true⟩ line)⟩) it := by
              refine ⟨hst.x.set (by have := ht.x.len; omega) _, by rw [List.length_set]; exact hst.len, at_ne hst.h11 (by omega) _, at_ne hst.h12 (by omega) _, at_ne hst.h13 (by omega) _, at_ne hst.h14 (by omega) _, ?_⟩
              refine ⟨hst.hi.1, ?_⟩
              rcases ht.hi.2 with q | ⟨o6, g6, hA6, h6, hob6⟩
              · exact .inl q
              · rcases hst.hi.2 with q | ⟨o7, g7, hA7, h7, hob7⟩
                · exact .inl q
                · rw [h6] at h7
                  cases h7
                  exact .inr ⟨o6, g6, hA6, h6, at_ne hob7 (by have := lt_at hob6; omega) _⟩
            have hob2 : (σ1.set σ.length ⟨0, false, .cells 57 (itemL ⟨op, d, w, lab, true⟩ line)⟩)[σ.length]? = some ⟨0, false, .cells 57 (itemL ⟨op, d, w, lab, true⟩ line)⟩ := at_set hob _
            have hg := fun Q' => hgo _ Q' hst2 hob2
            rcases ht.hi.cases with rfl | ⟨o1, g1, rfl⟩
            all_goals
              conv => whnf
              try (rw [hdec]; conv => whnf)
              refine om_of (aStore_to (T := yT3) (cs := itemL ⟨op, d, w, lab, true⟩ 0) (itemL ⟨op, d, w, lab, true⟩ line) rfl hob rfl rfl (Nat.le_of_ble_eq_true rfl) rfl) ?_
              conv => whnf
              refine om_of (aLoad_at (T := yT78) rfl rfl (cellsAt_of hst2.h13) rfl) ?_
              conv => whnf
              refine om_of (v := AV.ag (itemL ⟨op, d, w, lab, true⟩ line)) (aLoad_ag (T := yT57) rfl rfl (cellsAt_of hob2) (Nat.le_of_ble_eq_true rfl)) ?_
              conv => whnf
              refine hg _ fun v σ3 hv => ?_
              obtain ⟨⟨σ4, hs4, ht4⟩, o8, g8, n8, z8, rfl⟩ := hv
              conv => whnf
              refine om_of hs4 ?_
              conv => whnf
              exact Fin.ne (TS_neI ht ht4 (by simp)) (q1 _ _ _ rfl ht4)
      | true =>
        have hq : isLab [w0] = true := by show (Lib.hasSuffix w0 [58] && nameL (labN w0)) = true; rw [hb, hnm]; rfl
        have hT : takeP [w0] line s = match lookL (labN w0) s.L with
          | some _ => .bad 11
          | none => .st ⟨s.L ++ [(labN w0, s.I.length)], s.I⟩ := by unfold takeP; rw [hq]; rfl
        rw [hT] at q1 q2
        conv => whnf
        refine om_of (v := AV.mp 11 0) (aLoad_at (T := yT77) rfl rfl (cellsAt_of ht.h12) rfl) ?_
        conv => whnf
        refine om_of (lku_lab (labN w0) ht.h11) ?_
        cases hlk : lookL (labN w0) s.L with
        | some p =>
          rw [hlk] at q2
          conv => whnf
          refine c18_fault ?_
          conv => whnf
          exact Fin.ref rfl (q2 11 _ _ rfl (ht.x.new _ _) (by have := ht.len; omega) (get_new _ _ _))
        | none =>
          rw [hlk] at q1
          conv => whnf
          refine om_of (v := AV.mp 11 0) (aLoad_at (T := yT77) rfl rfl (cellsAt_of ht.h12) rfl) ?_
          conv => whnf
          have hnew : TS m ls ⟨s.L ++ [(labN w0, s.I.length)], s.I⟩ (σ.set 11 ⟨0, false, .maps (entL (s.L ++ [(labN w0, s.I.length)]))⟩) it := by
            have hl := ht.len
            refine ⟨ht.x.set (by show 11 ≤ 11; omega) _, by rw [List.length_set]; exact hl, at_set ht.h11 _, at_ne ht.h12 (by decide) _, at_ne ht.h13 (by decide) _, at_ne ht.h14 (by decide) _, ⟨ht.hi.1, ?_⟩⟩
            rcases ht.hi.2 with q | ⟨o6, g6, hA6, h6, hob6⟩
            · exact .inl q
            · exact .inr ⟨o6, g6, hA6, h6, at_ne hob6 (by omega) _⟩
          rcases ht.hi.2 with ⟨hz, rfl⟩ | ⟨o1, g1, hA1, rfl, hob1⟩
          · refine om_of (v := AV.sl0) (aLoad_at (T := yT78) rfl rfl (cellsAt_of ht.h13) rfl) ?_
            conv => whnf
            rw [hz] at hnew q1
            refine om_of (mup_lab (labN w0) 0 ht.h11 hlk) ?_
            conv => whnf
            exact Fin.same (by rw [List.length_set]) (q1 _ _ _ rfl hnew)
          · refine om_of (aLoad_at (T := yT78) rfl rfl (cellsAt_of ht.h13) rfl) ?_
            conv => whnf
            refine om_of (mup_lab (labN w0) s.I.length ht.h11 hlk) ?_
            conv => whnf
            exact Fin.same (by rw [List.length_set]) (q1 _ _ _ rfl hnew)
end Go.Abs.YtkfcbgmamfnajaaGreatDoor
/- asm.Assemble: all lines. -/
namespace Go.Abs.YtkfcbgmamfnajaaGreatDoor
open Go.Proofs
set_option maxRecDepth 4000
inductive AL where
  | st (s : AS)
  | bad (c : Int) (at_ : Nat)
def stepL (l : List UInt8) (k : Nat) (s : AS) : AR := if wordsOf (l.takeWhile (· ≠ 59)) = [] then .st s else takeP (wordsOf (l.takeWhile (· ≠ 59))) k s
def asmL : List (List UInt8) → Nat → AS → AL
  | [], _, s => .st s
  | l :: ls, k, s => match stepL l k s with
    | .st s' => asmL ls (k + 1) s'
    | .bad c => .bad c k
theorem okMaxX {m : Int} {σ : St} (h : Ext (G0 m) σ) : okMax σ = true := by
  have h3 : σ[2]? = (G0 m)[2]? := h.old _ (by show 2 < 11; omega)
  unfold okMax
  rw [h3]; rfl
theorem take_le {ws : List (List UInt8)} {k : Nat} {s s' : AS} (h : takeP ws k s = .st s') (hs : s.I.length ≤ 4096) : s'.I.length ≤ 4096 := by
  unfold takeP at h
  split at h
  · split at h
    · cases h
    · cases h; exact hs
  · split at h
    · cases h
    · split at h
      · cases h
      · cases h; show (s.I ++ [_]).length ≤ 4096; rw [List.length_append]; simp only [List.length_cons, List.length_nil]; omega
def loopEnv (n k : Nat) : Env := [(4, .p 12 0 0), (5, .p 13 0 0), (6, .fn (.func 43) [] [.p 12 0 0, .p 13 0 0]), (24, .sl 14 0 0 n 1), (25, .i .i64 n), (26, .i .i64 k)]
theorem lines_loop (m : Int) (ls : List (List UInt8)) (hls : ls.length ≤ 100000) (hll : ∀ l ∈ ls, l.length ≤ 100000) (Q : Out → Env → St → Prop)
    (q1 : ∀ e' s' σ' it', asmL ls 0 ⟨[], []⟩ = .st s' → s'.I.length ≤ 4096 → TS m ls s' σ' it' → get e' 4 = .p 12 0 0 → get e' 5 = .p 13 0 0 → get e' 1000000 = .u → Q (.exit 0) e' σ')
    (q2 : ∀ e' c k σ' o', asmL ls 0 ⟨[], []⟩ = .bad c k → Ext (G0 m) σ' → 11 ≤ o' → σ'[o']? = some ⟨0, false, .cells 54 [.i .i64 c, .i .i64 k]⟩ → get e' 2 = .sl0 → get e' 3 = .ic 48 (.p o' 0 0) → Q .ret e' σ') :
    ∀ (j k : Nat) (s : AS) (σ : St) (it : AV), k + j = ls.length → asmL (ls.drop k) k s = asmL ls 0 ⟨[], []⟩ → s.I.length ≤ 4096 → TS m ls s σ it → LoopF (X18 m) [4, 5, 6, 24, 25, 26] c17L0 (loopEnv ls.length k) σ Q
  | 0, k, s, σ, it, hk, hA, hI, ht => by
    have hk' : k = ls.length := by omega
    subst hk'
    rw [List.drop_length] at hA
    refine LoopF.round tyB_ok (lit := false) ?_
    conv => whnf
    rw [decide_eq_false (show ¬ ((ls.length : Nat) : Int) < (ls.length : Int) by omega)]
    conv => whnf
    exact q1 _ s σ it hA.symm hI ht rfl rfl rfl
  | j + 1, k, s, σ, it, hk, hA, hI, ht => by
    have hlt : k < ls.length := by omega
    have hd : ls.drop k = ls[k] :: ls.drop (k + 1) := List.drop_eq_getElem_cons hlt
    have hc : (ls.map AV.s)[k]? = some (AV.s ls[k]) := by rw [List.getElem?_map, List.getElem?_eq_getElem hlt]; rfl
    have hl := hll ls[k] (List.getElem_mem hlt)
    rw [hd] at hA
    generalize ls[k] = l at hA hc hl
    have hA2 : asmL (l :: ls.drop (k + 1)) k s = match stepL l k s with
      | .st s' => asmL (ls.drop (k + 1)) (k + 1) s'
      | .bad c => .bad c k := rfl
    rw [hA2] at hA
    have htl : (l.takeWhile (· ≠ 59)).length ≤ 100000 := Nat.le_trans (List.Sublist.length_le (List.takeWhile_sublist _)) hl
    refine LoopF.round tyB_ok (lit := false) ?_
    conv => whnf
    rw [decide_eq_true (show ((k : Nat) : Int) < (ls.length : Int) by omega)]
    conv => whnf
    refine ⟨k, rfl, by omega, ?_⟩
    conv => whnf
    refine om_of (v := AV.s l) (aLoad_at (T := yT9) rfl rfl (cellsAt_of ht.h14) (by rw [Nat.zero_add, Nat.mul_one]; exact hc)) ?_
    conv => whnf
    have hp : pCut [.s l, .s [59]] σ = some (.tu [.s (Lib.cut l [59]).1, .s (Lib.cut l [59]).2.1, .b (Lib.cut l [59]).2.2], σ) := if_pos ⟨by omega, okMaxX ht.x⟩
    refine CallF.prim (g := pCut) rfl hp ?_
    rw [cut_one 59 l]
    unfold stepL at hA
    generalize l.takeWhile (· ≠ 59) = t at hA htl ⊢
    cases (Lib.cut l [59]).2.2
    all_goals
      conv => whnf
      refine c18_split (by omega) ?_
      conv => whnf
      have hsh := words_short (l := t) (by omega)
      have hwl := (wordsOf_len t).1
      generalize wordsOf t = ws at hA hsh hwl ⊢
      have ht2 := ht.new 9 (ws.map AV.s)
      rcases ws with _ | ⟨w0, rest⟩
      · rw [if_pos rfl] at hA
        rw [show decide ((0 : Int) < (([] : List (List UInt8)).length : Int)) = false from rfl]
        conv => whnf
        refine ⟨((k + 1 : Nat) : Int), (wrap_i64 (by omega) (by omega)).trans (by omega), ?_⟩
        conv => whnf
        exact lines_loop m ls hls hll Q q1 q2 j (k + 1) s _ it (by omega) hA hI ht2
      · rw [if_neg (fun e => by cases e)] at hA
        rw [decide_eq_true (show (0 : Int) < ((w0 :: rest).length : Int) by simp only [List.length_cons]; omega)]
        conv => whnf
        refine take_to m ls s _ it ht2 w0 rest σ.length 0 _ k (get_new _ _ _) rfl hsh hI _ (fun s' σ' it' hT ht' => ?_) (fun c σ' o' hT hx' ho' hob' => ?_)
        · rw [hT] at hA
          conv => whnf
          refine ⟨((k + 1 : Nat) : Int), (wrap_i64 (by omega) (by omega)).trans (by omega), ?_⟩
          conv => whnf
          exact lines_loop m ls hls hll Q q1 q2 j (k + 1) s' σ' it' (by omega) hA (take_le hT hI) ht'
        · rw [hT] at hA
          conv => whnf
          exact q2 _ c k σ' o' hA.symm hx' ho' hob' rfl rfl
end Go.Abs.YtkfcbgmamfnajaaGreatDoor
/- asm.Assemble: labels put in; the whole. -/
namespace Go.Abs.YtkfcbgmamfnajaaGreatDoor
open Go.Proofs
set_option maxRecDepth 4000
inductive WR where
  | ok (w : Int)
  | bad (c : Int)
/-- An item's word, of its place. -/
def wordP (L : List (List UInt8 × Nat)) (x : RT) (at_ : Nat) : WR :=
  if x.lab = [] then .ok x.w else match lookL x.lab L with
    | none => .bad 9
    | some p => if (encP x.op x.d.a x.d.b x.d.c ((p : Int) - at_)).2 = 0 then .ok (encP x.op x.d.a x.d.b x.d.c ((p : Int) - at_)).1 else .bad 3
inductive ZR where
  | ok (ws : List Int)
  | bad (c : Int) (at_ : Nat)
def resP (L : List (List UInt8 × Nat)) : List (RT × Nat) → Nat → List Int → ZR
  | [], _, acc => .ok acc
  | p :: I, k, acc => match wordP L p.1 k with
    | .ok w => resP L I (k + 1) (acc ++ [w])
    | .bad c => .bad c p.2
def wordsC (ws : List Int) : List AV := ws.map (AV.i .u32)
def asmP (t : List UInt8) : ZR := if 32768 < t.length then .bad 3 0 else match asmL (linesOf t) 0 ⟨[], []⟩ with
  | .bad c k => .bad c k
  | .st s => resP s.L s.I 0 []
/-- Labels' places are small. -/
def smallL (L : List (List UInt8 × Nat)) : Prop := ∀ n p, lookL n L = some p → p ≤ 100000
structure US (m : Int) (s : AS) (σ : St) (it : AV) : Prop where
  x : Ext (G0 m) σ
  len : 15 ≤ σ.length
  h11 : σ[11]? = some ⟨0, false, .maps (entL s.L)⟩
  h12 : σ[12]? = some ⟨0, false, .cells 77 [.mp 11 0]⟩
  hi : SqAt 57 8 15 σ it s.I.length (itemsC s.I)
theorem US.new {m : Int} {s : AS} {σ : St} {it : AV} (h : US m s σ it) (e : Nat) (cs : List AV) : US m s (newCells e cs σ) it :=
  ⟨h.x.new _ _, by rw [len_new]; have := h.len; omega, at_new h.h11 _ _, at_new h.h12 _ _, h.hi.new _ _⟩
theorem US.set {m : Int} {s : AS} {σ : St} {it : AV} (h : US m s σ it) {i : Nat} (a : AO) (hi : 15 ≤ i) (hne : ∀ o g n z, it = .sl o g 0 n z → i ≠ o) : US m s (σ.set i a) it := by
  refine ⟨h.x.set (by show 11 ≤ i; omega) _, by rw [List.length_set]; exact h.len, at_ne h.h11 (by omega) _, at_ne h.h12 (by omega) _, ⟨h.hi.1, ?_⟩⟩
  rcases h.hi.2 with q | ⟨o6, g6, hA6, h6, hob6⟩
  · exact .inl q
  · exact .inr ⟨o6, g6, hA6, h6, at_ne hob6 (hne _ _ _ _ h6) _⟩
theorem itemsC_at (I : List (RT × Nat)) (k : Nat) (p : RT × Nat) (h : I[k]? = some p) : ((itemsC I).drop (k * 8)).take 8 = itemL p.1 p.2 := by
  induction I generalizing k with
  | nil => simp at h
  | cons q I ih =>
    have e : itemsC (q :: I) = itemL q.1 q.2 ++ itemsC I := by unfold itemsC; rw [List.flatMap_cons]
    rw [e]
    cases k with
    | zero =>
      simp at h; subst h
      rw [Nat.zero_mul, List.drop_zero, List.take_append_of_le_length (show 8 ≤ (itemL q.1 q.2).length from Nat.le_refl _)]; rfl
    | succ k =>
      rw [List.getElem?_cons_succ] at h
      rw [show (k + 1) * 8 = (itemL q.1 q.2).length + k * 8 by show _ = 8 + _; omega, ← List.drop_drop, List.drop_left]
      exact ih k h
theorem app_word {A : Nat} {σ : St} {out : AV} {n : Nat} {cs : List AV} (h : SqAt 22 1 A σ out n cs) (w : Int) {C : Nat} (hC : σ[C]? = some ⟨0, false, .cells 22 [AV.i .u32 w]⟩) (hl : n ≤ 4294967296) (hA : A ≤ σ.length) {Q : AV → St → Prop}
    (q : ∀ out' σ', SqAt 22 1 A σ' out' (n + 1) (cs ++ [AV.i .u32 w]) → Kept A out σ σ' → Q out' σ') :
    AppF tyB.get false 28 out (.sl C 0 0 1 1) σ Q := by
  obtain ⟨⟨hc, hone⟩, h⟩ := h
  have hcs : (cs ++ [AV.i .u32 w]).length = (n + 1) * 1 := by rw [List.length_append, hc]; try (show n * 1 + 1 = _; omega)
  have hca : (cs ++ [AV.i .u32 w]).all AV.one = true := by rw [List.all_append, hone]; try rfl
  constructor
  refine om_of (v := yT28) rfl ?_
  refine om_of (v := yT22) rfl ?_
  refine om_of (srcCells_at hC (Nat.le_of_ble_eq_true rfl)) ?_
  rcases h with ⟨rfl, rfl⟩ | ⟨o, g, q1, rfl, q3⟩
  · have hnil : cs = [] := List.eq_nil_of_length_eq_zero (by simp [hc])
    subst hnil
    refine ⟨Nat.le_of_ble_eq_true rfl, ?_⟩
    refine q _ _ ⟨⟨hcs, hca⟩, .inr ⟨σ.length, 0, hA, rfl, ?_⟩⟩ ⟨fun i hi => get_old (by omega), by rw [len_new]; omega, fun i hi _ => get_old hi⟩
    rw [get_new]; rfl
  · refine om_of (ownAt_of q3) ?_
    have hdt : (cs.drop 0).take (n * 1) = cs := by rw [List.drop_zero, List.take_of_length_le (by omega)]
    refine ⟨rfl, by show 0 + n * 1 ≤ _; omega, ?_, by show (List.take (n * 1) (List.drop 0 cs)).all AV.one = true; rw [hdt]; exact hone, ?_⟩
    · show (n + 1) * 4 ≤ _; omega
    refine q _ _ ⟨⟨hcs, hca⟩, .inr ⟨o, g + 1, q1, by simp, ?_⟩⟩ ⟨fun i hi => by rw [List.getElem?_set_ne (by omega)], by rw [List.length_set]; exact Nat.le_refl _, fun i hi hne => by rw [List.getElem?_set_ne (fun e => hne o g _ _ rfl e.symm)]⟩
    rw [at_set q3]
    show some (AO.mk (g + 1) false (.cells 22 (List.take (n * 1) (List.drop 0 cs) ++ [AV.i .u32 w]))) = _
    rw [hdt]

theorem sq_dis {A A' : Nat} {σ : St} {it out : AV} {n n' : Nat} {cs cs' : List AV} (h : SqAt 57 8 A σ it n cs) (h' : SqAt 22 1 A' σ out n' cs') (o g k z o' g' k' z' : Nat) (e : it = .sl o g 0 k z) (e' : out = .sl o' g' 0 k' z') : o ≠ o' := by
  rcases h.2 with ⟨_, q⟩ | ⟨o1, g1, _, q, r⟩
  · rw [q] at e; cases e
  · rcases h'.2 with ⟨_, q'⟩ | ⟨o2, g2, _, q', r'⟩
    · rw [q'] at e'; cases e'
    · rw [q] at e; cases e
      rw [q'] at e'; cases e'
      intro hh
      subst hh
      rw [r] at r'
      have := Option.some.inj r'
      injection this with _ _ e1
      injection e1 with e1 _
      exact absurd e1 (by decide)
def resEnv (it out : AV) (n k : Nat) : Env := [(4, .p 12 0 0), (11, out), (50, it), (51, .i .i64 n), (52, .i .i64 k)]
set_option maxHeartbeats 4000000 in
theorem res_loop (m : Int) (s : AS) (hI : s.I.length ≤ 4096) (hL : smallL s.L) (it : AV) (Q : Out → Env → St → Prop)
    (q1 : ∀ e' ws σ' out', resP s.L s.I 0 [] = .ok ws → Ext (G0 m) σ' → SqAt 22 1 15 σ' out' ws.length (wordsC ws) → get e' 11 = out' → (ws = [] → out' = .sl0) → Q (.exit 2) e' σ')
    (q2 : ∀ e' c k σ' o', resP s.L s.I 0 [] = .bad c k → Ext (G0 m) σ' → 11 ≤ o' → σ'[o']? = some ⟨0, false, .cells 54 [.i .i64 c, .i .i64 k]⟩ → get e' 2 = .sl0 → get e' 3 = .ic 48 (.p o' 0 0) → Q .ret e' σ') :
    ∀ (j k : Nat) (acc : List Int) (σ : St) (out : AV), k + j = s.I.length → acc.length = k → resP s.L (s.I.drop k) k acc = resP s.L s.I 0 [] → US m s σ it → SqAt 22 1 15 σ out acc.length (wordsC acc) → (acc = [] → out = .sl0) → LoopF (X18 m) [4, 11, 50, 51, 52] c17L1 (resEnv it out s.I.length k) σ Q
  | 0, k, acc, σ, out, hk, hacc, hA, hu, ho, hem => by
    have hk' : k = s.I.length := by omega
    rw [hk', List.drop_length] at hA
    subst hk'
    rcases ho.cases with rfl | ⟨o3, g3, rfl⟩ <;> rcases hu.hi.cases with rfl | ⟨o1, g1, rfl⟩
    all_goals
      refine LoopF.round tyB_ok (lit := false) ?_
      conv => whnf
      rw [decide_eq_false (show ¬ ((s.I.length : Nat) : Int) < (s.I.length : Int) by omega)]
      conv => whnf
      exact q1 _ acc σ _ hA.symm hu.x ho rfl hem
  | j + 1, k, acc, σ, out, hk, hacc, hA, hu, ho, hem => by
    have hlt : k < s.I.length := by omega
    have hd : s.I.drop k = s.I[k] :: s.I.drop (k + 1) := List.drop_eq_getElem_cons hlt
    have hat := itemsC_at s.I k s.I[k] (List.getElem?_eq_getElem hlt)
    rw [hd] at hA
    generalize s.I[k] = p at hA hat
    obtain ⟨⟨op, d, w, lab, is⟩, line⟩ := p
    have hA2 : resP s.L ((⟨op, d, w, lab, is⟩, line) :: s.I.drop (k + 1)) k acc = match wordP s.L ⟨op, d, w, lab, is⟩ k with
      | .ok w => resP s.L (s.I.drop (k + 1)) (k + 1) (acc ++ [w])
      | .bad c => .bad c line := rfl
    rw [hA2] at hA
    rcases hu.hi.2 with ⟨hz, _⟩ | ⟨o1, g1, hA1, hit, hob1⟩
    · omega
    have hlenI := itemsC_len s.I
    have h15 := hu.len
    have ho1 := lt_at hob1
    -- the item's own copy
    have hus : US m s ((newCells 57 yT57.zero.cells σ).set σ.length ⟨0, false, .cells 57 (itemL ⟨op, d, w, lab, is⟩ line)⟩) it :=
      (hu.new 57 yT57.zero.cells).set _ h15 (fun o g n z e => by rw [hit] at e; cases e; omega)
    have hobs : ((newCells 57 yT57.zero.cells σ).set σ.length ⟨0, false, .cells 57 (itemL ⟨op, d, w, lab, is⟩ line)⟩)[σ.length]? = some ⟨0, false, .cells 57 (itemL ⟨op, d, w, lab, is⟩ line)⟩ := at_set (get_new _ _ _) _
    have hlens : ((newCells 57 yT57.zero.cells σ).set σ.length ⟨0, false, .cells 57 (itemL ⟨op, d, w, lab, is⟩ line)⟩).length = σ.length + 1 := by rw [List.length_set, len_new]
    have hos : SqAt 22 1 15 ((newCells 57 yT57.zero.cells σ).set σ.length ⟨0, false, .cells 57 (itemL ⟨op, d, w, lab, is⟩ line)⟩) out acc.length (wordsC acc) :=
      ho.ext ⟨by rw [hlens]; omega, fun i hi => by rw [List.getElem?_set_ne (by omega), get_old hi]⟩
    have hstore : aStore (tyB.get 57) (.p σ.length 0 0) (.ag (itemL ⟨op, d, w, lab, is⟩ line)) (newCells 57 yT57.zero.cells σ) = some ((newCells 57 yT57.zero.cells σ).set σ.length ⟨0, false, .cells 57 (itemL ⟨op, d, w, lab, is⟩ line)⟩) :=
      aStore_to (T := yT57) (cs := yT57.zero.cells) (itemL ⟨op, d, w, lab, is⟩ line) rfl (get_new _ _ _) rfl rfl (Nat.le_of_ble_eq_true rfl) rfl
    generalize (newCells 57 yT57.zero.cells σ).set σ.length ⟨0, false, .cells 57 (itemL ⟨op, d, w, lab, is⟩ line)⟩ = σ1 at hus hobs hlens hos hstore
    -- what appends do
    have hgo : ∀ (w2 : Int) (d2 : DS) (σ2 : St) (Q' : AV → St → Prop), US m s σ2 it → SqAt 22 1 15 σ2 out acc.length (wordsC acc) →
        (∀ out2 σ3, US m s σ3 it → SqAt 22 1 15 σ3 out2 (acc ++ [w2]).length (wordsC (acc ++ [w2])) → (∃ o5 g5, out2 = .sl o5 g5 0 (acc ++ [w2]).length 1) → Q' out2 σ3) →
        AppF tyB.get false 28 out (.sl σ2.length 0 0 1 1) (newCells 22 [AV.i .u32 w2] σ2) Q' := fun w2 d2 σ2 Q' hu2 ho2 kk => by
      have hu3 := hu2.new 22 [AV.i .u32 w2]
      have hl15 := hu2.len
      refine app_word (ho2.new _ _) w2 (get_new _ _ _) (by omega) (by rw [len_new]; omega) fun out2 σ3 ho3 hk3 => ?_
      have hwc : wordsC (acc ++ [w2]) = wordsC acc ++ [AV.i .u32 w2] := by unfold wordsC; rw [List.map_append]; rfl
      have hl3 := hk3.len
      rw [len_new] at hl3
      have hdis := sq_dis hu2.hi ho2
      refine kk out2 σ3 ⟨⟨by have : (G0 m).length = 11 := rfl; omega, fun i hi => by rw [hk3.low i (by have : (G0 m).length = 11 := rfl; omega)]; exact hu3.x.old i hi⟩, by omega, by rw [hk3.low 11 (by decide)]; exact hu3.h11, by rw [hk3.low 12 (by decide)]; exact hu3.h12, ⟨hu3.hi.1, ?_⟩⟩ (by rw [hwc, List.length_append]; exact ho3) ?_
      · rcases hu3.hi.2 with q | ⟨o6, g6, hA6, h6, hob6⟩
        · exact .inl q
        · refine .inr ⟨o6, g6, hA6, h6, ?_⟩
          rw [hk3.ne o6 (lt_at hob6) (fun o g n z e => by
            rcases ho2.2 with ⟨_, q⟩ | ⟨o9, g9, _, q, _⟩
            · rw [q] at e; cases e
            · exact hdis _ _ _ _ _ _ _ _ h6 (by rw [q]) |> fun hh => by rw [q] at e; cases e; exact hh)]
          exact hob6
      · rcases ho3.2 with ⟨hz3, _⟩ | ⟨o8, g8, hA8, h8, hob8⟩
        · cases hz3
        · exact ⟨o8, g8, by rw [h8, List.length_append]; rfl⟩
    have hkk : k = acc.length := hacc.symm
    rcases ho.cases with rfl | ⟨o3, g3, rfl⟩
    all_goals
      subst hit
      refine LoopF.round tyB_ok (lit := false) ?_
      conv => whnf
      rw [decide_eq_true (show ((k : Nat) : Int) < (s.I.length : Int) by omega)]
      conv => whnf
      refine ⟨k, rfl, by omega, ?_⟩
      conv => whnf
      refine om_of (v := AV.ag (itemL ⟨op, d, w, lab, is⟩ line)) ((aLoad_ag (T := yT57) rfl rfl (cellsAt_of hob1) (by show 0 + k * 8 + 8 ≤ _; omega)).trans (by show some (AV.ag (((itemsC s.I).drop (0 + k * 8)).take 8)) = _; rw [Nat.zero_add, hat])) ?_
      conv => whnf
      refine om_of hstore ?_
      conv => whnf
      refine om_of (v := AV.s lab) (aLoad_at (T := yT9) rfl rfl (cellsAt_of hobs) rfl) ?_
      rcases lab with _ | ⟨lc, lt⟩
      · conv => whnf
        refine om_of (v := AV.i .u32 w) (aLoad_at (T := yT22) rfl rfl (cellsAt_of hobs) rfl) ?_
        conv => whnf
        refine hgo w d σ1 _ hus hos fun out2 σ3 hu3 ho3 hsl => ?_
        obtain ⟨o5, g5, rfl⟩ := hsl
        conv => whnf
        refine ⟨((k + 1 : Nat) : Int), (wrap_i64 (by omega) (by omega)).trans (by omega), ?_⟩
        conv => whnf
        exact res_loop m s hI hL _ Q q1 q2 j (k + 1) (acc ++ [w]) σ3 _ (by omega) (by rw [List.length_append]; simp; omega) hA hu3 ho3 (fun h => by simp at h)
      · conv => whnf
        refine om_of (v := AV.mp 11 0) (aLoad_at (T := yT77) rfl rfl (cellsAt_of hus.h12) rfl) ?_
        conv => whnf
        refine om_of (v := AV.s (lc :: lt)) (aLoad_at (T := yT9) rfl rfl (cellsAt_of hobs) rfl) ?_
        conv => whnf
        refine om_of (lku_lab (lc :: lt) hus.h11) ?_
        unfold wordP at hA
        rw [if_neg (fun e => by cases e)] at hA
        cases hlk : lookL (lc :: lt) s.L with
        | none =>
          rw [show lookL (RT.mk op d w (lc :: lt) is).lab s.L = none from hlk] at hA
          conv => whnf
          refine om_of (v := AV.i .i64 line) (aLoad_at (T := yT3) rfl rfl (cellsAt_of hobs) rfl) ?_
          conv => whnf
          refine c18_fault ?_
          conv => whnf
          exact q2 _ 9 line _ _ hA.symm (hus.x.new _ _) (by have := hus.len; omega) (get_new _ _ _) rfl rfl
        | some pl =>
          rw [show lookL (RT.mk op d w (lc :: lt) is).lab s.L = some pl from hlk] at hA
          have hpl := hL _ _ hlk
          conv => whnf
          refine ⟨(pl : Int) - k, wrap_i64 (by omega) (by omega), ?_⟩
          conv => whnf
          have hst2 : aStore (tyB.get 3) (.p σ.length 0 4) (.i .i64 ((pl : Int) - k)) σ1 = some (σ1.set σ.length ⟨0, false, .cells 57 (itemL ⟨op, { d with i := (pl : Int) - k }, w, lc :: lt, is⟩ line)⟩) :=
            aStore_to (T := yT3) (cs := itemL ⟨op, d, w, lc :: lt, is⟩ line) (itemL ⟨op, { d with i := (pl : Int) - k }, w, lc :: lt, is⟩ line) rfl hobs rfl rfl (Nat.le_of_ble_eq_true rfl) rfl
          refine om_of hst2 ?_
          have hneq : ∀ o g n z, AV.sl o1 g1 0 s.I.length 8 = .sl o g 0 n z → σ.length ≠ o := fun o g n z e => by cases e; omega
          have hu2 := hus.set ⟨0, false, .cells 57 (itemL ⟨op, { d with i := (pl : Int) - k }, w, lc :: lt, is⟩ line)⟩ h15 hneq
          have hob2 : (σ1.set σ.length ⟨0, false, .cells 57 (itemL ⟨op, { d with i := (pl : Int) - k }, w, lc :: lt, is⟩ line)⟩)[σ.length]? = some ⟨0, false, .cells 57 (itemL ⟨op, { d with i := (pl : Int) - k }, w, lc :: lt, is⟩ line)⟩ := at_set hobs _
          have hos2 : SqAt 22 1 15 (σ1.set σ.length ⟨0, false, .cells 57 (itemL ⟨op, { d with i := (pl : Int) - k }, w, lc :: lt, is⟩ line)⟩) _ acc.length (wordsC acc) := ⟨hos.1, by
            rcases ho.2 with ⟨hz, q⟩ | ⟨o6, g6, hA6, h6, hob6⟩
            · exact .inl ⟨hz, q⟩
            · rcases hos.2 with ⟨hz, q⟩ | ⟨o7, g7, hA7, h7, hob7⟩
              · exact .inl ⟨hz, q⟩
              · have e1 := h6.symm.trans h7
                cases e1
                exact .inr ⟨o6, g6, hA6, h6, at_ne hob7 (by have := lt_at hob6; omega) _⟩⟩
          generalize σ1.set σ.length ⟨0, false, .cells 57 (itemL ⟨op, { d with i := (pl : Int) - k }, w, lc :: lt, is⟩ line)⟩ = σ2 at hu2 hob2 hos2 ⊢
          conv => whnf
          refine om_of (v := AV.ag [.i .i64 op, .i .i64 d.a, .i .i64 d.b, .i .i64 d.c, .i .i64 ((pl : Int) - k)]) (aLoad_ag (T := yT45) rfl rfl (cellsAt_of hob2) (Nat.le_of_ble_eq_true rfl)) ?_
          conv => whnf
          refine c18_enc hu2.x.take ?_
          have hA3 : (match (if (encP op d.a d.b d.c ((pl : Int) - k)).2 = 0 then WR.ok (encP op d.a d.b d.c ((pl : Int) - k)).1 else .bad 3) with
            | .ok w => resP s.L (s.I.drop (k + 1)) (k + 1) (acc ++ [w])
            | .bad c => ZR.bad c line) = resP s.L s.I 0 [] := hA
          generalize encP op d.a d.b d.c ((pl : Int) - k) = en at hA3 ⊢
          obtain ⟨ew, ee⟩ := en
          conv => whnf
          have hst3 : aStore (tyB.get 22) (.p σ.length 0 5) (.i .u32 ew) σ2 = some (σ2.set σ.length ⟨0, false, .cells 57 (itemL ⟨op, { d with i := (pl : Int) - k }, ew, lc :: lt, is⟩ line)⟩) :=
            aStore_to (T := yT22) (cs := itemL ⟨op, { d with i := (pl : Int) - k }, w, lc :: lt, is⟩ line) (itemL ⟨op, { d with i := (pl : Int) - k }, ew, lc :: lt, is⟩ line) rfl hob2 rfl rfl (Nat.le_of_ble_eq_true rfl) rfl
          refine om_of hst3 ?_
          have hu4 := hu2.set ⟨0, false, .cells 57 (itemL ⟨op, { d with i := (pl : Int) - k }, ew, lc :: lt, is⟩ line)⟩ h15 hneq
          have hob4 : (σ2.set σ.length ⟨0, false, .cells 57 (itemL ⟨op, { d with i := (pl : Int) - k }, ew, lc :: lt, is⟩ line)⟩)[σ.length]? = some ⟨0, false, .cells 57 (itemL ⟨op, { d with i := (pl : Int) - k }, ew, lc :: lt, is⟩ line)⟩ := at_set hob2 _
          have hos4 : SqAt 22 1 15 (σ2.set σ.length ⟨0, false, .cells 57 (itemL ⟨op, { d with i := (pl : Int) - k }, ew, lc :: lt, is⟩ line)⟩) _ acc.length (wordsC acc) := ⟨hos2.1, by
            rcases ho.2 with ⟨hz, q⟩ | ⟨o6, g6, hA6, h6, hob6⟩
            · exact .inl ⟨hz, q⟩
            · rcases hos2.2 with ⟨hz, q⟩ | ⟨o7, g7, hA7, h7, hob7⟩
              · exact .inl ⟨hz, q⟩
              · have e1 := h6.symm.trans h7
                cases e1
                exact .inr ⟨o6, g6, hA6, h6, at_ne hob7 (by have := lt_at hob6; omega) _⟩⟩
          generalize σ2.set σ.length ⟨0, false, .cells 57 (itemL ⟨op, { d with i := (pl : Int) - k }, ew, lc :: lt, is⟩ line)⟩ = σ4 at hu4 hob4 hos4 ⊢
          conv => whnf
          by_cases hee : ee = 0
          · rw [if_pos hee] at hA3
            rw [show decide (ee = 0) = true from decide_eq_true hee]
            conv => whnf
            refine om_of (v := AV.i .u32 ew) (aLoad_at (T := yT22) rfl rfl (cellsAt_of hob4) rfl) ?_
            conv => whnf
            refine hgo ew d σ4 _ hu4 hos4 fun out2 σ3 hu3 ho3 hsl => ?_
            obtain ⟨o5, g5, rfl⟩ := hsl
            conv => whnf
            refine ⟨((k + 1 : Nat) : Int), (wrap_i64 (by omega) (by omega)).trans (by omega), ?_⟩
            conv => whnf
            exact res_loop m s hI hL _ Q q1 q2 j (k + 1) (acc ++ [ew]) σ3 _ (by omega) (by rw [List.length_append]; simp; omega) hA3 hu3 ho3 (fun h => by simp at h)
          · rw [if_neg hee] at hA3
            rw [show decide (ee = 0) = false from decide_eq_false hee]
            conv => whnf
            refine om_of (v := AV.i .i64 line) (aLoad_at (T := yT3) rfl rfl (cellsAt_of hob4) rfl) ?_
            conv => whnf
            refine c18_fault ?_
            conv => whnf
            exact q2 _ 3 line _ _ hA3.symm (hu4.x.new _ _) (by have := hu4.len; omega) (get_new _ _ _) rfl rfl
theorem step_small {l : List UInt8} {k : Nat} {s s' : AS} (h : stepL l k s = .st s') (hI : s.I.length ≤ 4096) (hL : ∀ p ∈ s.L, p.2 ≤ 4096) : s'.I.length ≤ 4096 ∧ ∀ p ∈ s'.L, p.2 ≤ 4096 := by
  unfold stepL at h
  split at h
  · cases h; exact ⟨hI, hL⟩
  · refine ⟨take_le h hI, ?_⟩
    unfold takeP at h
    split at h
    · split at h
      · cases h
      · cases h
        intro p hp
        rcases List.mem_append.1 hp with hp | hp
        · exact hL p hp
        · rw [List.mem_singleton] at hp; subst hp; exact hI
    · split at h
      · cases h
      · split at h
        · cases h
        · cases h; exact hL
theorem asmL_small : ∀ (ls : List (List UInt8)) (k : Nat) (s s' : AS), asmL ls k s = .st s' → s.I.length ≤ 4096 → (∀ p ∈ s.L, p.2 ≤ 4096) → s'.I.length ≤ 4096 ∧ ∀ p ∈ s'.L, p.2 ≤ 4096
  | [], k, s, s', h, hI, hL => by cases h; exact ⟨hI, hL⟩
  | l :: ls, k, s, s', h, hI, hL => by
    have h2 : (match stepL l k s with
      | .st s' => asmL ls (k + 1) s'
      | .bad c => .bad c k) = AL.st s' := h
    cases hq : stepL l k s with
    | bad c => rw [hq] at h2; cases h2
    | st s1 =>
      rw [hq] at h2
      obtain ⟨q1, q2⟩ := step_small hq hI hL
      exact asmL_small ls (k + 1) s1 s' h2 q1 q2
theorem look_mem {n : List UInt8} {p : Nat} : ∀ {L : List (List UInt8 × Nat)}, lookL n L = some p → ∃ q ∈ L, q.2 = p
  | q :: L, h => by
    unfold lookL at h
    split at h
    · exact ⟨q, List.mem_cons_self, Option.some.inj h⟩
    · obtain ⟨q', h1, h2⟩ := look_mem h
      exact ⟨q', List.mem_cons_of_mem _ h1, h2⟩
def S0 (m : Int) : St := G0 m ++ [⟨0, false, .maps []⟩, ⟨0, false, .cells 77 [.mp 11 0]⟩, ⟨0, false, .cells 78 [.sl0]⟩]
theorem asm_to (m : Int) (t : List UInt8) (Q : AV → St → Prop)
    (q1 : ∀ ws out σ', asmP t = .ok ws → Ext (G0 m) σ' → SqAt 22 1 11 σ' out ws.length (wordsC ws) → (ws = [] → out = .sl0) → Q (.tu [out, .ic0]) σ')
    (q2 : ∀ c k o' σ', asmP t = .bad c k → Ext (G0 m) σ' → 11 ≤ o' → σ'[o']? = some ⟨0, false, .cells 54 [.i .i64 c, .i .i64 k]⟩ → Q (.tu [.sl0, .ic 48 (.p o' 0 0)]) σ') :
    CallF (X18 m) 17 [.s t] (G0 m) Q := by
  refine CallF.body (F := F17) tyB_ok (lit := false) rfl rfl (Nat.le_of_ble_eq_true rfl) ?_
  conv => whnf
  by_cases hl : 32768 < t.length
  · have hA : asmP t = .bad 3 0 := by unfold asmP; rw [if_pos hl]
    rw [decide_eq_true (show (32768 : Int) < (t.length : Int) by omega)]
    conv => whnf
    refine c18_fault ?_
    conv => whnf
    exact Fin.ref rfl (q2 3 0 _ _ hA ((Ext.refl _).new _ _) (Nat.le_refl _) (get_new _ _ _))
  · have hA : asmP t = match asmL (linesOf t) 0 ⟨[], []⟩ with
      | .bad c k => .bad c k
      | .st s => resP s.L s.I 0 [] := by unfold asmP; rw [if_neg hl]
    rw [hA] at q1 q2
    rw [decide_eq_false (show ¬ (32768 : Int) < (t.length : Int) by omega)]
    conv => whnf
    have hx0 : Ext (G0 m) (S0 m) := ⟨Nat.le_of_ble_eq_true rfl, fun i hi => List.getElem?_append_left hi⟩
    have hp : pSplit [.s t, .s [10]] (S0 m) = some (.sl 14 0 0 (linesOf t).length 1, newCells 9 ((linesOf t).map AV.s) (S0 m)) := by
      rw [← split_lines]
      exact if_pos ⟨by omega, by decide, okMaxX hx0⟩
    show CallF (X18 m) 46 [AV.s t, AV.s [10]] (S0 m) _
    refine CallF.prim (g := pSplit) rfl hp ?_
    obtain ⟨hn, hll⟩ := linesOf_len t
    generalize linesOf t = ls at hn hll q1 q2 ⊢
    have hts : TS m ls ⟨[], []⟩ (newCells 9 (ls.map AV.s) (S0 m)) .sl0 :=
      ⟨hx0.new _ _, Nat.le_of_ble_eq_true rfl, rfl, rfl, rfl, rfl, SqAt.nil _ _ _ _⟩
    generalize newCells 9 (ls.map AV.s) (S0 m) = σ at hts ⊢
    conv => whnf
    show LoopF (X18 m) [4, 5, 6, 24, 25, 26] c17L0 (loopEnv ls.length (0 : Nat)) σ _
    refine lines_loop m ls (by omega) (fun l hm => by have := hll l hm; omega) _ (fun e' s' σ' it' hR hI' ht' g4 g5 g6 => ?_) (fun e' c k σ' o' hR hx' ho' hob' g2 g3 => ?_) ls.length 0 ⟨[], []⟩ σ .sl0 (by omega) rfl (by simp) hts
    · rw [hR] at q1 q2
      have hsm := (asmL_small ls 0 ⟨[], []⟩ s' hR (by simp) (by simp)).2
      have hL : smallL s'.L := fun n p h => by obtain ⟨q, h1, h2⟩ := look_mem h; have := hsm q h1; omega
      have hu : US m s' σ' it' := ⟨ht'.x, ht'.len, ht'.h11, ht'.h12, ht'.hi⟩
      conv => whnf
      rw [g6]
      conv => whnf
      rw [g4]
      conv => whnf
      rw [g5]
      conv => whnf
      refine om_of (v := it') (aLoad_at (T := yT78) rfl rfl (cellsAt_of ht'.h13) rfl) ?_
      have hgo := fun (Q' : Out → Env → St → Prop) w1 w2 => res_loop m s' hI' hL it' Q' w1 w2 s'.I.length 0 [] σ' .sl0 (by omega) rfl rfl hu (SqAt.nil _ _ _ _) (fun _ => rfl)
      rcases ht'.hi.2 with ⟨hz, rfl⟩ | ⟨o1, g1, hA1, rfl, hob1⟩
      · rw [hz] at hgo
        conv => whnf
        refine hgo _ (fun e2 ws σ2 out2 hR2 hx2 hos2 h11 hem2 => ?_) (fun e2 c k σ2 o2 hR2 hx2 ho2 hob2 h2 h3 => ?_)
        · conv => whnf
          first | rw [h11] | rw [show Opd.ev e2 (.t 11) = _ from h11]
          rcases hos2.2 with ⟨hz2, rfl⟩ | ⟨o3, g3, hA3, rfl, hob3⟩
          · conv => whnf
            exact Fin.flat rfl hx2.take (q1 ws _ _ hR2 (Ext.refl _) ⟨hos2.1, .inl ⟨hz2, rfl⟩⟩ (fun _ => rfl))
          · conv => whnf
            exact Fin.ref rfl (q1 ws _ _ hR2 hx2 ⟨hos2.1, .inr ⟨o3, g3, by omega, rfl, hob3⟩⟩ hem2)
        · conv => whnf
          rw [h2]
          conv => whnf
          rw [h3]
          conv => whnf
          exact Fin.ref rfl (q2 c k _ _ hR2 hx2 ho2 hob2)
      · conv => whnf
        refine hgo _ (fun e2 ws σ2 out2 hR2 hx2 hos2 h11 hem2 => ?_) (fun e2 c k σ2 o2 hR2 hx2 ho2 hob2 h2 h3 => ?_)
        · conv => whnf
          first | rw [h11] | rw [show Opd.ev e2 (.t 11) = _ from h11]
          rcases hos2.2 with ⟨hz2, rfl⟩ | ⟨o3, g3, hA3, rfl, hob3⟩
          · conv => whnf
            exact Fin.flat rfl hx2.take (q1 ws _ _ hR2 (Ext.refl _) ⟨hos2.1, .inl ⟨hz2, rfl⟩⟩ (fun _ => rfl))
          · conv => whnf
            exact Fin.ref rfl (q1 ws _ _ hR2 hx2 ⟨hos2.1, .inr ⟨o3, g3, by omega, rfl, hob3⟩⟩ hem2)
        · conv => whnf
          rw [h2]
          conv => whnf
          rw [h3]
          conv => whnf
          exact Fin.ref rfl (q2 c k _ _ hR2 hx2 ho2 hob2)
    · rw [hR] at q2
      conv => whnf
      rw [g2]
      conv => whnf
      rw [g3]
      conv => whnf
      exact Fin.ref rfl (q2 c k _ _ rfl hx' ho' hob')
end Go.Abs.YtkfcbgmamfnajaaGreatDoor
/- works: closed texts. -/
namespace Go.Abs.YtkfcbgmamfnajaaGreatDoor
open Go.Proofs Go.Lib
set_option maxRecDepth 10000
/-- As takeP, but of what the document reads. -/
def takeR (ws : List (List UInt8)) (line : Nat) (s : AS) : AR :=
  if isLab ws = true then (match lookL (labN (ws.headD [])) s.L with
    | some _ => .bad 11
    | none => .st ⟨s.L ++ [(labN (ws.headD []), s.I.length)], s.I⟩)
  else if (readR ws).is = false then .bad 4 else if 4096 ≤ s.I.length then .bad 3 else .st ⟨s.L, s.I ++ [(readR ws, line)]⟩
theorem take_eq (ws : List (List UInt8)) (line : Nat) (s : AS) : takeP ws line s = takeR ws line s := by
  unfold takeP takeR
  obtain ⟨h1, h2⟩ := read_rel ws
  rw [h1]
  cases hi : (readR ws).is with
  | false => rfl
  | true => rw [h2 hi]; try rfl
def stepR (l : List UInt8) (k : Nat) (s : AS) : AR := if wordsOf (l.takeWhile (· ≠ 59)) = [] then .st s else takeR (wordsOf (l.takeWhile (· ≠ 59))) k s
def asmLR : List (List UInt8) → Nat → AS → AL
  | [], _, s => .st s
  | l :: ls, k, s => match stepR l k s with
    | .st s' => asmLR ls (k + 1) s'
    | .bad c => .bad c k
theorem asmL_eq : ∀ (ls : List (List UInt8)) (k : Nat) (s : AS), asmL ls k s = asmLR ls k s
  | [], _, _ => rfl
  | l :: ls, k, s => by
    have e : stepL l k s = stepR l k s := by unfold stepL stepR; rw [take_eq]
    show (match stepL l k s with | .st s' => asmL ls (k + 1) s' | .bad c => .bad c k) = (match stepR l k s with | .st s' => asmLR ls (k + 1) s' | .bad c => .bad c k)
    rw [e]
    cases stepR l k s with
    | st s' => exact asmL_eq ls (k + 1) s'
    | bad c => rfl
def wordR (L : List (List UInt8 × Nat)) (x : RT) (at_ : Nat) : WR :=
  if x.lab = [] then .ok x.w else match lookL x.lab L with
    | none => .bad 9
    | some p => if (encR x.op x.d.a x.d.b x.d.c ((p : Int) - at_)).2 = 0 then .ok (encR x.op x.d.a x.d.b x.d.c ((p : Int) - at_)).1 else .bad 3
def resR (L : List (List UInt8 × Nat)) : List (RT × Nat) → Nat → List Int → ZR
  | [], _, acc => .ok acc
  | p :: I, k, acc => match wordR L p.1 k with
    | .ok w => resR L I (k + 1) (acc ++ [w])
    | .bad c => .bad c p.2
theorem res_eq (L : List (List UInt8 × Nat)) : ∀ (I : List (RT × Nat)) (k : Nat) (acc : List Int), resP L I k acc = resR L I k acc
  | [], _, _ => rfl
  | p :: I, k, acc => by
    have e : wordP L p.1 k = wordR L p.1 k := by unfold wordP wordR; simp only [enc_eq]; try rfl
    show (match wordP L p.1 k with | .ok w => resP L I (k + 1) (acc ++ [w]) | .bad c => .bad c p.2) = (match wordR L p.1 k with | .ok w => resR L I (k + 1) (acc ++ [w]) | .bad c => .bad c p.2)
    rw [e]
    cases wordR L p.1 k with
    | ok w => exact res_eq L I (k + 1) (acc ++ [w])
    | bad c => rfl
def asmR (t : List UInt8) : ZR := if 32768 < t.length then .bad 3 0 else match asmLR (linesOf t) 0 ⟨[], []⟩ with
  | .bad c k => .bad c k
  | .st s => resR s.L s.I 0 []
theorem asm_eq (t : List UInt8) : asmP t = asmR t := by
  unfold asmP asmR
  rw [asmL_eq]
  split
  · rfl
  · cases asmLR (linesOf t) 0 ⟨[], []⟩ with
    | bad c k => rfl
    | st s => exact res_eq _ _ _ _
def lineR (l : List UInt8) : RT := readR (wordsOf l)
def txt1 : List UInt8 := [108, 105, 32, 99, 51, 32, 45, 55]
theorem read1 : readR (wordsOf txt1) = ⟨1, ⟨3, 0, 0, -7⟩, 19927033, [], true⟩ := by rfl
def txtA : List UInt8 := [108, 111, 111, 112, 58, 10, 32, 97, 100, 100, 105, 32, 99, 49, 32, 99, 49, 32, 45, 49, 32, 59, 32, 108, 101, 115, 115, 10, 32, 98, 110, 101, 32, 99, 49, 32, 99, 48, 32, 108, 111, 111, 112, 10, 116, 114, 97, 112]
theorem asmA : asmP txtA = .ok [269553663, 437260287, 889192448] := by rw [asm_eq]; rfl
theorem dec_digits {n : Nat} {l : List UInt8} (h1 : l ≠ []) (h2 : l.all isDg = true) (h3 : l.length = 1 ∨ l.head? ≠ some 48) (h4 : valD 0 l = n) : decDigits n = l := ((canon_iff l n).1 ⟨⟨h1, h2, h3⟩, h4⟩).symm
theorem enc1 : encP 1 3 0 0 (-7) = (19927033, 0) := by rw [enc_eq]; rfl
theorem dec1 : decP 19927033 = (1, ⟨3, 0, 0, -7⟩) := dec_enc (by rfl)
theorem itoa3 : itoa 3 = [51] := by
  show itoa ((3 : Nat) : Int) = _
  rw [itoa_nat]; exact dec_digits (by decide) (by decide) (.inl rfl) rfl
theorem itoa7 : itoa (-7) = [45, 55] := by
  show (if (-7 : Int) < 0 then 45 :: decDigits (-7 : Int).natAbs else _) = _
  rw [if_pos (by decide)]
  show 45 :: decDigits 7 = _
  rw [dec_digits (n := 7) (l := [55]) (by decide) (by decide) (.inl rfl) rfl]
theorem print1 : printP 19927033 = txt1 := by
  unfold printP
  rw [dec1, if_neg (by decide)]
  show join (nameI 1 :: (formI 1).map (fieldT ⟨3, 0, 0, -7⟩)) [32] = _
  rw [join_tail]
  show nameI 1 ++ (32 :: 99 :: itoa 3 ++ (32 :: itoa (-7) ++ [])) = _
  rw [itoa3, itoa7]; rfl
theorem line1 : lineP txt1 = (19927033, 0) := by
  have hR : (readR (wordsOf txt1)).is = true := by rw [read1]
  have hT := (read_rel (wordsOf txt1)).2 hR
  unfold lineP
  rw [if_neg (by rw [show wordsOf txt1 = [[108, 105], [99, 51], [45, 55]] from rfl]; simp), hT, read1]
  exact if_pos ⟨rfl, rfl, print1⟩
theorem decMax : decP 4294967295 = (0, ⟨0, 0, 0, 0⟩) := by rw [dec_eq (by decide) (by decide)]; rfl
def txt2 : List UInt8 := [119, 111, 114, 100, 32, 52, 50, 57, 52, 57, 54, 55, 50, 57, 53]
theorem print2 : printP 4294967295 = txt2 := by
  unfold printP
  rw [decMax, if_pos rfl, show (4294967295 : Int).toNat = 4294967295 from rfl, dec_digits (n := 4294967295) (l := [52, 50, 57, 52, 57, 54, 55, 50, 57, 53]) (by decide) (by decide) (.inr (by decide)) rfl]
  rfl
theorem dec2 : decP 437260287 = (26, ⟨1, 0, 0, -1⟩) := dec_enc (by rfl)
theorem dec3 : decP 889192448 = (53, ⟨0, 0, 0, 0⟩) := dec_enc (by rfl)
theorem upx {m : Int} {X : Ctx} {f : Nat} {g : List AV → St → Option (AV × St)} {args : List AV} {σ : St} {Q : AV → St → Prop} (hp : X.prim f = some g) (h18 : (X18 m).prim f = some g) (h : CallF X f args σ Q) : CallF (X18 m) f args σ Q := by
  constructor
  have h1 := h.ev
  rw [EvF_prim hp] at h1
  rw [EvF_prim h18]
  exact h1
theorem c18_line {m : Int} {l : List UInt8} {σ : St} {Q : AV → St → Prop} (hl : l.length ≤ 4294967296) (ht : σ.take 11 = G0 m) (q : Q (.tu [.i .u32 (lineP l).1, .i .i64 (lineP l).2]) σ) : CallF (X18 m) 10 [.s l] σ Q :=
  upx (X := X8 m) rfl rfl (CallF.law (lawLine m) rfl (if_pos hl) ht q)
theorem c18_print {m w : Int} {σ : St} {Q : AV → St → Prop} (hw : 0 ≤ w ∧ w < 4294967296) (ht : σ.take 11 = G0 m) (q : Q (.s (printP w)) σ) : CallF (X18 m) 13 [.i .u32 w] σ Q :=
  up18 rfl rfl (c7_print hw ht q)
theorem c18_dec {m w : Int} {σ : St} {Q : AV → St → Prop} (ht : σ.take 11 = G0 m) (q : Q (insO (decP w)) σ) : CallF (X18 m) 22 [.i .u32 w] σ Q :=
  up18 rfl rfl (CallF.underR rfl rfl (CallF.under rfl rfl (CallF.under rfl rfl (CallF.under rfl rfl (CallF.law (lawDec m) rfl rfl ht q)))))
theorem works_to (m : Int) : CallF (X18 m) 12 [] (G0 m) fun v s => v = .b true ∧ s = G0 m := by
  refine CallF.body (F := F12) tyB_ok (lit := false) rfl rfl (Nat.le_of_ble_eq_true rfl) ?_
  conv => whnf
  refine c18_line (by decide) rfl ?_
  rw [show lineP [108, 105, 32, 99, 51, 32, 45, 55] = _ from line1]
  conv => whnf
  refine c18_enc rfl ?_
  rw [enc1]
  conv => whnf
  refine asm_to m _ _ (fun ws out σ' hA hx ho _ => ?_) (fun c k o' σ' hA _ _ _ => ?_)
  · have hA2 := asmA.symm.trans (show asmP txtA = _ from hA)
    cases hA2
    rcases ho.2 with ⟨hz, _⟩ | ⟨o1, g1, hA1, rfl, hob⟩
    · cases hz
    conv => whnf
    refine c18_print (by decide) hx.take ?_
    rw [print1]
    conv => whnf
    refine c18_print (by decide) hx.take ?_
    rw [print2]
    conv => whnf
    refine ⟨1, rfl, by decide, ?_⟩
    conv => whnf
    refine om_of (v := AV.i .u32 437260287) (aLoad_at (T := yT22) rfl rfl (cellsAt_of hob) rfl) ?_
    conv => whnf
    refine c18_dec hx.take ?_
    rw [dec2]
    conv => whnf
    refine om_of (aStore_to (T := yT45) (cs := yT45.zero.cells) [.i .i64 26, .i .i64 1, .i .i64 0, .i .i64 0, .i .i64 (-1)] rfl (get_new _ _ _) rfl rfl (Nat.le_of_ble_eq_true rfl) rfl) ?_
    have hx2 : Ext (G0 m) ((newCells 45 yT45.zero.cells σ').set σ'.length ⟨0, false, .cells 45 [.i .i64 26, .i .i64 1, .i .i64 0, .i .i64 0, .i .i64 (-1)]⟩) := (hx.new _ _).set (by have := hx.len; omega) _
    have hob2 : ((newCells 45 yT45.zero.cells σ').set σ'.length ⟨0, false, .cells 45 [.i .i64 26, .i .i64 1, .i .i64 0, .i .i64 0, .i .i64 (-1)]⟩)[σ'.length]? = some ⟨0, false, .cells 45 [.i .i64 26, .i .i64 1, .i .i64 0, .i .i64 0, .i .i64 (-1)]⟩ := at_set (get_new _ _ _) _
    have hob3 : ((newCells 45 yT45.zero.cells σ').set σ'.length ⟨0, false, .cells 45 [.i .i64 26, .i .i64 1, .i .i64 0, .i .i64 0, .i .i64 (-1)]⟩)[o1]? = some ⟨g1, false, .cells 22 (wordsC [269553663, 437260287, 889192448])⟩ := at_ne (at_new hob _ _) (by have := lt_at hob; omega) _
    generalize (newCells 45 yT45.zero.cells σ').set σ'.length ⟨0, false, .cells 45 [.i .i64 26, .i .i64 1, .i .i64 0, .i .i64 0, .i .i64 (-1)]⟩ = σ2 at hx2 hob2 hob3 ⊢
    conv => whnf
    refine om_of (v := AV.i .i64 26) (aLoad_at (T := yT3) rfl rfl (cellsAt_of hob2) rfl) ?_
    conv => whnf
    refine om_of (v := AV.i .i64 1) (aLoad_at (T := yT3) rfl rfl (cellsAt_of hob2) rfl) ?_
    conv => whnf
    refine om_of (v := AV.i .i64 0) (aLoad_at (T := yT3) rfl rfl (cellsAt_of hob2) rfl) ?_
    conv => whnf
    refine om_of (v := AV.i .i64 (-1)) (aLoad_at (T := yT3) rfl rfl (cellsAt_of hob2) rfl) ?_
    conv => whnf
    refine ⟨2, rfl, by decide, ?_⟩
    conv => whnf
    refine om_of (v := AV.i .u32 889192448) (aLoad_at (T := yT22) rfl rfl (cellsAt_of hob3) rfl) ?_
    conv => whnf
    refine c18_dec hx2.take ?_
    rw [dec3]
    conv => whnf
    exact Fin.flat rfl hx2.take ⟨rfl, rfl⟩
  · have hA2 := asmA.symm.trans (show asmP txtA = _ from hA)
    cases hA2
def lawWorks (m : Int) : Law (X18 m) (G0 m) := ⟨12, fun | [] => some (.b true) | _ => none, fun args v h => by
  split at h
  · cases h; exact ⟨rfl, rfl, works_to m⟩
  · cases h⟩
@[reducible] noncomputable def X19 (m : Int) : Ctx := (X18 m).knows (G0 m) [lawWorks m]
theorem X19_sound (m : Int) : (X19 m).Sound 11 := Ctx.knows_sound (X18_sound m) (okG0 m) _
theorem lines_to (m : Int) (l : List UInt8) (hl : l.length ≤ 4294967296) : CallF (X19 m) 3 [.s l] (G0 m) fun v s => v = .b true := by
  refine CallF.body (F := F3) tyB_ok (lit := true) rfl rfl (Nat.le_of_ble_eq_true rfl) ?_
  conv => whnf
  refine CallF.under rfl rfl (c18_line hl rfl ?_)
  conv => whnf
  refine CallF.under rfl rfl (CallF.law (lawRLine m) rfl (if_pos hl) rfl ?_)
  generalize lineP l = x
  obtain ⟨a, e⟩ := x
  conv => whnf
  rw [show decide (a = a) = true from decide_eq_true rfl]
  conv => whnf
  rw [show decide (e = e) = true from decide_eq_true rfl]
  conv => whnf
  refine CallF.law (lawWorks m) rfl rfl rfl ?_
  conv => whnf
  exact Fin.flat rfl rfl rfl
end Go.Abs.YtkfcbgmamfnajaaGreatDoor
