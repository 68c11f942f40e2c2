/- The start: what the rows' condition on the package-level variables gives. -/
import Derived.Test.YtkfcbgmamfnajaaGreatDoorM08
import Derived.Test.YtkfcbgmamfnajaaGreatDoorRows
import Derived.ProofKit
import Derived.LaidMore
import Derived.LaidHandle
import Derived.Lib.LaidTab
import Derived.Stop.Joined
import Derived.OpenShut
set_option linter.unusedVariables false
set_option linter.unusedSimpArgs false
namespace Go.Proofs.YtkfcbgmamfnajaaGreatDoor
open Go.ChangeShapes Go.WideShapes Go.ChangeAt Go.RowKit Go.Abs Go.Abs.YtkfcbgmamfnajaaGreatDoor
set_option maxRecDepth 100000

theorem own : ownKnob Tryz.prog.godebug = none := by kernel_rfl
theorem gRw : Tryz.prog.globalNamed "fallow/isa.rows" = some 1 := by kernel_rfl
theorem gPw : Tryz.prog.globalNamed "internal/strconv.uint64pow10" = some 3 := by kernel_rfl
theorem gEr : Tryz.prog.globalNamed "strconv.ErrRange" = some 7 := by kernel_rfl
theorem gEs : Tryz.prog.globalNamed "strconv.ErrSyntax" = some 6 := by kernel_rfl
theorem tRw : (Tryz.prog.globals[1]?).map (·.type) = some 146 := by kernel_rfl
theorem tPw : (Tryz.prog.globals[3]?).map (·.type) = some 182 := by kernel_rfl
theorem tEr : (Tryz.prog.globals[7]?).map (·.type) = some 33 := by kernel_rfl
theorem tEs : (Tryz.prog.globals[6]?).map (·.type) = some 33 := by kernel_rfl
theorem rEt : (((begin Tryz.prog (fun _ _ => 0) default).world.heap[0]?).bind Obj.row?).map (fun x => (x.1.size, x.2)) = some (1, 132) := by kernel_rfl
theorem rRw : (((begin Tryz.prog (fun _ _ => 0) default).world.heap[1]?).bind Obj.row?).map (fun x => (x.1.size, x.2)) = some (108, 146) := by kernel_rfl
theorem rMx : (((begin Tryz.prog (fun _ _ => 0) default).world.heap[2]?).bind Obj.row?).map (fun x => (x.1.size, x.2)) = some (1, 3) := by kernel_rfl
theorem rPw : (((begin Tryz.prog (fun _ _ => 0) default).world.heap[3]?).bind Obj.row?).map (fun x => (x.1.size, x.2)) = some (20, 182) := by kernel_rfl
theorem rEs : (((begin Tryz.prog (fun _ _ => 0) default).world.heap[6]?).bind Obj.row?).map (fun x => (x.1.size, x.2)) = some (1, 33) := by kernel_rfl
theorem rEr : (((begin Tryz.prog (fun _ _ => 0) default).world.heap[7]?).bind Obj.row?).map (fun x => (x.1.size, x.2)) = some (1, 33) := by kernel_rfl
theorem gsize : Tryz.prog.globals.size = 10 := by kernel_rfl
theorem hsize : 10 < (begin Tryz.prog (fun _ _ => 0) default).world.heap.size := of_decide_eq_true (by kernel_rfl)
theorem uEr : ∃ ms, Tryz.prog.underlying 33 = some (.interface ms) := ⟨_, Tryz.underlying33⟩
theorem ptrName (u : TypeId) (hu : Tryz.prog.typeName? 3 u = some "*errors.errorString") : u = 206 :=
  typeName_ptr_named (P := Tryz.prog) (nm := "errors.errorString") (by kernel_rfl) (by kernel_rfl) (by decide) u hu
theorem bMx : Tryz.prog.buildable 3 = true := by kernel_rfl
theorem ctMx : Tryz.prog.cellTypes Tryz.prog.depth 3 = some [3] := by kernel_rfl
/-- A row of the start, with its shape. -/
theorem shape_rows {P : Program} {w : World} (h : w.ShapedOpen P) {g t n : Nat} (hg : g < P.globals.size) (hr : (((begin P (fun _ _ => 0) default).world.heap[g]?).bind Obj.row?).map (fun x => (x.1.size, x.2)) = some (n, t)) : ∃ cs, w.heap[g]? = some (.cells cs t) ∧ cs.size = n ∧ (P.buildable t = true → Row.ok P w .any 0 t cs) := by
  rw [Option.map_eq_some_iff] at hr
  obtain ⟨⟨zero, t'⟩, h1, h2⟩ := hr
  simp only [Prod.mk.injEq] at h2
  obtain ⟨rfl, rfl⟩ := h2
  obtain ⟨cs, h3, h4, h5⟩ := h.1 g zero t' hg h1
  exact ⟨cs, h3, h4, h5⟩
def rowD (r : List UInt8 × List UInt8) : DataW Unit := .agg [.lit (.string r.1), .lit (.string r.2)]
def rowV (r : List UInt8 × List UInt8) : List Value := [.string ⟨r.1.toArray⟩, .string ⟨r.2.toArray⟩]
theorem row_cells {w : World} {base fuel : Nat} {sp : Nat → Bool} {held : Bool} {enc : TypeId × Value → Unit} {cs : List Value} {r : List UInt8 × List UInt8} {p : List MemPlace}
    (h : DataW.trod enc Tryz.prog w base sp held fuel 113 cs = some (rowD r, p)) : cs = rowV r := by
  obtain ⟨xs, n, rfl, hx, hl, hs, ha⟩ := DataW.trod_struct Tryz.underlying113 h
  have hl2 : cs.length = 2 := hl.trans (by kernel_rfl)
  have h0 := ha 0 _ rfl
  have h1 := ha 1 _ rfl
  have hm : xs.map (·.1) = [.lit (.string r.1), .lit (.string r.2)] := by
    have := congrArg Prod.fst hx
    exact (DataW.agg.inj this).symm
  match xs, hm with
  | [y0, y1], hm =>
    simp only [List.map_cons, List.map_nil, List.cons.injEq, and_true] at hm
    obtain ⟨m0, m1⟩ := hm
    obtain ⟨s0, c0, e0, _⟩ := DataW.trod_string Tryz.underlying9 h0
    obtain ⟨s1, c1, e1, _⟩ := DataW.trod_string Tryz.underlying9 h1
    match cs, hl2 with
    | [v0, v1], _ =>
      have c0' : [v0] = [Value.string s0] := c0
      have c1' : [v1] = [Value.string s1] := c1
      cases c0'; cases c1'
      rw [e0] at m0; rw [e1] at m1
      injection m0 with m0; injection m0 with m0
      injection m1 with m1; injection m1 with m1
      unfold rowV
      rw [← m0, ← m1]
theorem rows_cells {w : World} {base fuel : Nat} {sp : Nat → Bool} {held : Bool} {enc : TypeId × Value → Unit} {cs : List Value} {p : List MemPlace}
    (h : DataW.trod enc Tryz.prog w base sp held fuel 146 cs = some (.agg (opRows.map rowD), p)) : cs = opRows.flatMap rowV := by
  obtain ⟨xs, n, rfl, hx, hl, hs, ha⟩ := DataW.trod_array Tryz.underlying146 h
  have hl2 : cs.length = 108 := hl.trans (by kernel_rfl)
  have hm : xs.map (·.1) = opRows.map rowD := by
    have := congrArg Prod.fst hx
    exact (DataW.agg.inj this).symm
  have key : ∀ (rs : List (List UInt8 × List UInt8)) (k : Nat), k + rs.length = 54 → (xs.drop k).map (·.1) = rs.map rowD → cs.drop (k * 2) = rs.flatMap rowV := by
    intro rs
    induction rs with
    | nil => intro k hk _; rw [List.drop_of_length_le (by simp at hk; omega)]; rfl
    | cons r rs ih =>
      intro k hk hmk
      simp only [List.length_cons] at hk
      have hkl : k < xs.length := by omega
      rw [List.drop_eq_getElem_cons hkl, List.map_cons, List.map_cons] at hmk
      obtain ⟨q1, q2⟩ := List.cons.inj hmk
      have h1 := ha k (by omega)
      rw [List.getElem?_eq_getElem hkl] at h1
      have h2 := row_cells (p := xs[k].2) (h1.trans (by rw [← q1]))
      have hc2 : Tryz.prog.cellsOf 113 = 2 := by kernel_rfl
      rw [hc2] at h2
      have h3 := ih (k + 1) (by omega) q2
      rw [List.flatMap_cons, ← h2, ← h3]
      rw [show (k + 1) * 2 = k * 2 + 2 by omega, ← List.drop_drop]
      exact (List.take_append_drop 2 _).symm
  have := key opRows 0 (by decide) (by rw [List.drop_zero]; exact hm)
  simpa using this
def pow10Z : List Int := Go.Lib.pow10Tab
theorem rw_data : (Rows.laid_fallow_isa_rows : DataW Unit) = .agg (opRows.map rowD) := by kernel_rfl
theorem pw_data : (Rows.laid_internal_strconv_uint64pow10 : DataW Unit) = Lib.tabData .u64 pow10Z := by kernel_rfl
theorem pow_eq : pow10Z.map (fun z => AV.i .u64 z) = pow10C := by rfl
structure Start (W : World) : Prop where
  rw_ : ∃ cs, W.var? Tryz.prog "fallow/isa.rows" = some cs ∧ cs.toList = opRows.flatMap rowV
  pw : ∃ cs, W.var? Tryz.prog "internal/strconv.uint64pow10" = some cs ∧ cs.toList = pow10Z.map fun z => Value.int .u64 z
  er : ∃ v, W.var? Tryz.prog "strconv.ErrRange" = some #[.iface 206 v]
  es : ∃ v, W.var? Tryz.prog "strconv.ErrSyntax" = some #[.iface 206 v]
theorem start_mk {W : World} {l : List (String × DataW Unit)} (h : laidMet Tryz.prog l W) (m0 : ("fallow/isa.rows", Rows.laid_fallow_isa_rows) ∈ l) (m1 : ("internal/strconv.uint64pow10", Rows.laid_internal_strconv_uint64pow10) ∈ l) (m2 : ("strconv.ErrRange", Rows.laid_strconv_ErrRange) ∈ l) (m3 : ("strconv.ErrSyntax", Rows.laid_strconv_ErrSyntax) ∈ l) : Start W := by
  obtain ⟨ps, hv, _⟩ := h
  refine ⟨?_, ?_, ?_, ?_⟩
  · obtain ⟨g, t, cs, fuel, p, h1, h2, h3, h4⟩ := laid_reads hv _ _ m0
    obtain rfl := Option.some.inj (gRw.symm.trans h1)
    obtain rfl := Option.some.inj (tRw.symm.trans h2)
    rw [rw_data] at h4
    exact ⟨cs, h3, rows_cells h4⟩
  · obtain ⟨g, t, cs, fuel, p, h1, h2, h3, h4⟩ := laid_reads hv _ _ m1
    obtain rfl := Option.some.inj (gPw.symm.trans h1)
    obtain rfl := Option.some.inj (tPw.symm.trans h2)
    rw [pw_data] at h4
    exact ⟨cs, h3, Lib.cells_of_tab Tryz.underlying182 Tryz.underlying67 (by kernel_rfl) (by kernel_rfl) h4⟩
  · obtain ⟨g, t, cs, fuel, p, h1, h2, h3, h4⟩ := laid_reads hv _ _ m2
    obtain rfl := Option.some.inj (gEr.symm.trans h1)
    obtain rfl := Option.some.inj (tEr.symm.trans h2)
    obtain ⟨ms, hu⟩ := uEr
    obtain ⟨f', u, v, hcs, hn, _⟩ := iface_of_trod hu (show DataW.trod (fun _ => ()) Tryz.prog W 0 (fun _ => true) false fuel 33 cs.toList = some (.iface "*errors.errorString" _, p) from h4)
    obtain rfl := ptrName u hn
    have hc : cs = #[.iface 206 v] := Array.ext' hcs
    exact ⟨v, by rw [h3, hc]⟩
  · obtain ⟨g, t, cs, fuel, p, h1, h2, h3, h4⟩ := laid_reads hv _ _ m3
    obtain rfl := Option.some.inj (gEs.symm.trans h1)
    obtain rfl := Option.some.inj (tEs.symm.trans h2)
    obtain ⟨ms, hu⟩ := uEr
    obtain ⟨f', u, v, hcs, hn, _⟩ := iface_of_trod hu (show DataW.trod (fun _ => ()) Tryz.prog W 0 (fun _ => true) false fuel 33 cs.toList = some (.iface "*errors.errorString" _, p) from h4)
    obtain rfl := ptrName u hn
    have hc : cs = #[.iface 206 v] := Array.ext' hcs
    exact ⟨v, by rw [h3, hc]⟩
theorem rows_at {μ : Mu} {w : World} : ∀ (rs : List (List UInt8 × List UInt8)) (j : Nat) (c : AV), (rs.flatMap cellsOfRow)[j]? = some c → ∃ v, (rs.flatMap rowV)[j]? = some v ∧ VRel μ w c v
  | [], j, c, h => by simp at h
  | r :: rs, 0, c, h => by cases h; exact ⟨_, rfl, rfl⟩
  | r :: rs, 1, c, h => by cases h; exact ⟨_, rfl, rfl⟩
  | r :: rs, j + 2, c, h => rows_at rs j c h
theorem shape_of {w : World} {b : Nat} {cs : Array Value} {t : TypeId} {fr : Nat × Nat} (h : w.heap[b]? = some (.cells cs t fr)) : w.shape? b = some (t, cs.size) := by
  unfold World.shape?; rw [h]
theorem start_sim {W : World} (hsh : W.ShapedOpen Tryz.prog) (h : Start W) : ∃ m, Sim 11 (mu0 11) (G0 m) W := by
  obtain ⟨c0, hh0, hs0, _⟩ := shape_rows hsh (by rw [gsize]; decide) rEt
  obtain ⟨c1, hh1, hs1, _⟩ := shape_rows hsh (by rw [gsize]; decide) rRw
  obtain ⟨c2, hh2, hs2, hok2⟩ := shape_rows hsh (by rw [gsize]; decide) rMx
  obtain ⟨c3, hh3, hs3, _⟩ := shape_rows hsh (by rw [gsize]; decide) rPw
  obtain ⟨c6, hh6, hs6, _⟩ := shape_rows hsh (by rw [gsize]; decide) rEs
  obtain ⟨c7, hh7, hs7, _⟩ := shape_rows hsh (by rw [gsize]; decide) rEr
  obtain ⟨mx, hmx⟩ : ∃ mx, c2[0]? = some (Value.int .i64 mx) := by
    obtain ⟨ts, h1, _, h2⟩ := hok2 bMx
    rw [ctMx] at h1
    obtain rfl := Option.some.inj h1
    have h3 : c2[0]? = some c2[0] := Array.getElem?_eq_getElem (by omega)
    obtain ⟨u, h4, h5⟩ := h2 0 _ h3
    have h6 : u = 3 := (Option.some.inj h4).symm
    subst h6
    unfold Cell.ok at h5
    rw [Tryz.underlying3] at h5
    rw [h3]
    generalize c2[0] = v at h5
    cases v <;> simp at h5
    obtain ⟨rfl, _⟩ := h5
    exact ⟨_, rfl⟩
  refine ⟨2 * mx, ?_⟩
  have e0 : et0 (2 * mx) = [.u] := by
    unfold et0; rw [decide_eq_false (by omega)]
  have e2 : 2 * mx / 2 = mx := by omega
  have hG : G0 (2 * mx) = [⟨0, true, .cells 132 [.u]⟩, ⟨0, true, .cells 146 rowC⟩, ⟨0, true, .cells 3 [.i .i64 mx]⟩, ⟨0, true, .cells 182 pow10C⟩, ⟨0, true, .dead⟩, ⟨0, true, .dead⟩,
    ⟨0, true, .cells 33 [.ic 206 .u]⟩, ⟨0, true, .cells 33 [.ic 206 .u]⟩, ⟨0, true, .dead⟩, ⟨0, true, .dead⟩, ⟨0, true, .dead⟩] := by unfold G0; rw [e0, e2]
  have hok := okG0 (2 * mx)
  rw [hG] at hok ⊢
  have hmu : ∀ o, o < 11 → mu0 11 o 0 = some (o, 0) := fun o ho => if_pos ⟨ho, rfl⟩
  have hinv : ∀ {o g x}, mu0 11 o g = some x → o < 11 ∧ g = 0 ∧ x = (o, 0) := by
    intro o g x hx
    unfold mu0 at hx
    split at hx
    · rename_i hc; cases hx; exact ⟨hc.1, hc.2, rfl⟩
    · cases hx
  have hlast : 10 < W.heap.size := shape_last hsh (by rw [gsize]; exact Nat.le_refl _) hsize
  obtain ⟨r1, hv1, hcs1⟩ := h.rw_
  obtain ⟨t1, f1, hw1⟩ := var_heap gRw hv1
  rw [hh1] at hw1
  obtain ⟨rfl, _, _⟩ : c1 = r1 ∧ _ ∧ _ := by injection (Option.some.inj hw1) with a b c; exact ⟨a, b, c⟩
  obtain ⟨r3, hv3, hcs3⟩ := h.pw
  obtain ⟨t3, f3, hw3⟩ := var_heap gPw hv3
  rw [hh3] at hw3
  obtain ⟨rfl, _, _⟩ : c3 = r3 ∧ _ ∧ _ := by injection (Option.some.inj hw3) with a b c; exact ⟨a, b, c⟩
  obtain ⟨v6, hv6⟩ := h.es
  obtain ⟨t6, f6, hw6⟩ := var_heap gEs hv6
  rw [hh6] at hw6
  obtain ⟨rfl, _, _⟩ : c6 = #[.iface 206 v6] ∧ _ ∧ _ := by injection (Option.some.inj hw6) with a b c; exact ⟨a, b, c⟩
  obtain ⟨v7, hv7⟩ := h.er
  obtain ⟨t7, f7, hw7⟩ := var_heap gEr hv7
  rw [hh7] at hw7
  obtain ⟨rfl, _, _⟩ : c7 = #[.iface 206 v7] ∧ _ ∧ _ := by injection (Option.some.inj hw7) with a b c; exact ⟨a, b, c⟩
  refine ⟨fun o a ho hl => ?_, fun o o' a a' b δ δ' ho _ hr hl _ _ _ => ?_, fun o g x hx => ?_, fun o g b δ hb => ?_, fun g hg => hmu g hg, fun o b δ hb => ?_, fun g e cs hg ho => ?_⟩
  · have hlt : o < 11 := (List.getElem?_eq_some_iff.1 ho).1
    match o, hlt with
    | 0, _ =>
      cases ho
      refine ⟨0, 0, hmu 0 (by decide), _, _, hh0, by rw [hs0]; decide, fun j c hj => ?_, fun e => by cases e⟩
      match j, hj with
      | 0, hj => cases hj; exact ⟨c0[0]'(by omega), Array.getElem?_eq_getElem (by omega), trivial⟩
    | 1, _ =>
      cases ho
      refine ⟨1, 0, hmu 1 (by decide), _, _, hh1, by rw [hs1]; decide, fun j c hj => ?_, fun e => by cases e⟩
      obtain ⟨v, q1, q2⟩ := rows_at opRows j c hj
      exact ⟨v, by rw [Nat.zero_add, ← Array.getElem?_toList, hcs1]; exact q1, q2⟩
    | 2, _ =>
      cases ho
      refine ⟨2, 0, hmu 2 (by decide), _, _, hh2, by rw [hs2]; exact Nat.le_refl _, fun j c hj => ?_, fun e => by cases e⟩
      match j, hj with
      | 0, hj => cases hj; exact ⟨_, hmx, rfl⟩
    | 3, _ =>
      cases ho
      refine ⟨3, 0, hmu 3 (by decide), _, _, hh3, by rw [hs3]; decide, fun j c hj => ?_, fun e => by cases e⟩
      rw [← pow_eq, List.getElem?_map, Option.map_eq_some_iff] at hj
      obtain ⟨z, hz, rfl⟩ := hj
      refine ⟨.int .u64 z, ?_, rfl⟩
      rw [Nat.zero_add, ← Array.getElem?_toList, hcs3, List.getElem?_map, hz]; rfl
    | 4, _ => cases ho; cases hl
    | 5, _ => cases ho; cases hl
    | 6, _ =>
      cases ho
      refine ⟨6, 0, hmu 6 (by decide), _, _, hh6, Nat.le_refl _, fun j c hj => ?_, fun e => by cases e⟩
      match j, hj with
      | 0, hj => cases hj; exact ⟨_, rfl, v6, rfl, trivial⟩
    | 7, _ =>
      cases ho
      refine ⟨7, 0, hmu 7 (by decide), _, _, hh7, Nat.le_refl _, fun j c hj => ?_, fun e => by cases e⟩
      match j, hj with
      | 0, hj => cases hj; exact ⟨_, rfl, v7, rfl, trivial⟩
    | 8, _ => cases ho; cases hl
    | 9, _ => cases ho; cases hl
    | 10, _ => cases ho; cases hl
  · rw [(okGlob_at hok ho hl).1] at hr; cases hr
  · obtain ⟨h1, rfl, _⟩ := hinv hx
    exact ⟨_, List.getElem?_eq_getElem (show o < 11 from h1), Nat.zero_le _⟩
  · obtain ⟨h1, _, h3⟩ := hinv hb
    cases h3
    omega
  · obtain ⟨h1, _, h3⟩ := hinv hb
    cases h3; rfl
  · match g, hg with
    | 0, _ => cases ho; rw [shape_of hh0, hs0]; rfl
    | 1, _ => cases ho; rw [shape_of hh1, hs1]; rfl
    | 2, _ => cases ho; rw [shape_of hh2, hs2]; rfl
    | 3, _ => cases ho; rw [shape_of hh3, hs3]; rfl
    | 4, _ => cases ho
    | 5, _ => cases ho
    | 6, _ => cases ho; rw [shape_of hh6]; rfl
    | 7, _ => cases ho; rw [shape_of hh7]; rfl
    | 8, _ => cases ho
    | 9, _ => cases ho
    | 10, _ => cases ho
end Go.Proofs.YtkfcbgmamfnajaaGreatDoor
