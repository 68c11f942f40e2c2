/- The start: what the rows' condition on the package-level variables gives, where errors.errorType is not listed. -/
import Derived.Test.YtjphfiieapclhaaDoorCxB
import Derived.Test.YtjphfiieapclhaaDoorAbs28
import Derived.Test.YtjphfiieapclhaaDoorRows
import Derived.ProofKit
import Derived.LaidMore
import Derived.LaidHandle
import Derived.Lib.LaidTab
import Derived.Stop.Joined
namespace Go.Proofs.YtjphfiieapclhaaDoor
open Go.ChangeShapes Go.WideShapes Go.ChangeAt Go.RowKit Go.Abs Go.Abs.YtjphfiieapclhaaDoor
set_option maxRecDepth 100000

theorem own : ownKnob Tryd.prog.godebug = none := by kernel_rfl
theorem gAs : Tryd.prog.globalNamed "strings.asciiSpace" = some 1 := by kernel_rfl
theorem gEr : Tryd.prog.globalNamed "strconv.ErrRange" = some 5 := by kernel_rfl
theorem tAs : (Tryd.prog.globals[1]?).map (·.type) = some 76 := by kernel_rfl
theorem tEr : (Tryd.prog.globals[5]?).map (·.type) = some 26 := by kernel_rfl
theorem rAs : (((begin Tryd.prog (fun _ _ => 0) default).world.heap[1]?).bind Obj.row?).map (·.2) = some 76 := by kernel_rfl
theorem rEr : (((begin Tryd.prog (fun _ _ => 0) default).world.heap[5]?).bind Obj.row?).map (·.2) = some 26 := by kernel_rfl
theorem gsize : Tryd.prog.globals.size = 10 := by kernel_rfl
theorem hsize : 10 < (begin Tryd.prog (fun _ _ => 0) default).world.heap.size := of_decide_eq_true (by kernel_rfl)
theorem uEr : ∃ ms, Tryd.prog.underlying 26 = some (.interface ms) := ⟨_, Tryd.underlying26⟩
theorem ptrName (u : TypeId) (hu : Tryd.prog.typeName? 3 u = some "*errors.errorString") : u = 134 :=
  typeName_ptr_named (P := Tryd.prog) (nm := "errors.errorString") (by kernel_rfl) (by kernel_rfl) (by decide) u hu
def spZs : List Int := [0, 0, 0, 0, 0, 0, 0, 0, 0, 1, 1, 1, 1, 1, 0, 0, 0, 0, 0, 0, 0, 0, 0, 0, 0, 0, 0, 0, 0, 0, 0, 0, 1, 0, 0, 0, 0, 0, 0, 0, 0, 0, 0, 0, 0, 0, 0, 0, 0, 0, 0, 0, 0, 0, 0, 0, 0, 0, 0, 0, 0, 0, 0, 0, 0, 0, 0, 0, 0, 0, 0, 0, 0, 0, 0, 0, 0, 0, 0, 0, 0, 0, 0, 0, 0, 0, 0, 0, 0, 0, 0, 0, 0, 0, 0, 0, 0, 0, 0, 0, 0, 0, 0, 0, 0, 0, 0, 0, 0, 0, 0, 0, 0, 0, 0, 0, 0, 0, 0, 0, 0, 0, 0, 0, 0, 0, 0, 0, 0, 0, 0, 0, 0, 0, 0, 0, 0, 0, 0, 0, 0, 0, 0, 0, 0, 0, 0, 0, 0, 0, 0, 0, 0, 0, 0, 0, 0, 0, 0, 0, 0, 0, 0, 0, 0, 0, 0, 0, 0, 0, 0, 0, 0, 0, 0, 0, 0, 0, 0, 0, 0, 0, 0, 0, 0, 0, 0, 0, 0, 0, 0, 0, 0, 0, 0, 0, 0, 0, 0, 0, 0, 0, 0, 0, 0, 0, 0, 0, 0, 0, 0, 0, 0, 0, 0, 0, 0, 0, 0, 0, 0, 0, 0, 0, 0, 0, 0, 0, 0, 0, 0, 0, 0, 0, 0, 0, 0, 0, 0, 0, 0, 0, 0, 0, 0, 0, 0, 0, 0, 0, 0, 0, 0, 0, 0, 0]
theorem sp_data : (Rows.laid_strings_asciiSpace : DataW Unit) = Lib.tabData .u8 spZs := by kernel_rfl
theorem spZs_eq : spZs.map (fun z => AV.i .u8 z) = asciiSp := by rfl

/-- What the start of a call looks like. -/
structure Start (W : World) : Prop where
  sp : ∃ cs, W.var? Tryd.prog "strings.asciiSpace" = some cs ∧ cs.toList = spZs.map fun z => Value.int .u8 z
  er : ∃ v, W.var? Tryd.prog "strconv.ErrRange" = some #[.iface 134 v]
theorem start_mk {W : World} {l : List (String × DataW Unit)} (h : laidMet Tryd.prog l W) (m1 : ("strings.asciiSpace", Rows.laid_strings_asciiSpace) ∈ l) (m2 : ("strconv.ErrRange", Rows.laid_strconv_ErrRange) ∈ l) : Start W := by
  obtain ⟨ps, hv, _⟩ := h
  refine ⟨?_, ?_⟩
  · obtain ⟨g, t, cs, fuel, p, h1, h2, h3, h4⟩ := laid_reads hv _ _ m1
    obtain rfl := Option.some.inj (gAs.symm.trans h1)
    obtain rfl := Option.some.inj (tAs.symm.trans h2)
    rw [sp_data] at h4
    exact ⟨cs, h3, Lib.cells_of_tab Tryd.underlying76 Tryd.underlying5 (by kernel_rfl) (by kernel_rfl) h4⟩
  · obtain ⟨g, t, cs, fuel, p, h1, h2, h3, h4⟩ := laid_reads hv _ _ m2
    obtain rfl := Option.some.inj (gEr.symm.trans h1)
    obtain rfl := Option.some.inj (tEr.symm.trans h2)
    obtain ⟨ms, hu⟩ := uEr
    obtain ⟨f', u, v, hcs, hn, _⟩ := iface_of_trod hu (show DataW.trod (fun _ => ()) Tryd.prog W 0 (fun _ => true) false fuel 26 cs.toList = some (.iface "*errors.errorString" _, p) from h4)
    obtain rfl := ptrName u hn
    have hc : cs = #[.iface 134 v] := Array.ext' hcs
    exact ⟨v, by rw [h3, hc]⟩
theorem start_sim {W : World} (hsh : W.ShapedOpen Tryd.prog) (h : Start W) : Sim 11 (mu0 11) G0 W := by
  have hmu : ∀ o, o < 11 → mu0 11 o 0 = some (o, 0) := fun o ho => if_pos ⟨ho, rfl⟩
  have hinv : ∀ {o g x}, mu0 11 o g = some x → o < 11 ∧ g = 0 ∧ x = (o, 0) := by
    intro o g x hx
    unfold mu0 at hx
    split at hx
    · rename_i hc; cases hx; exact ⟨hc.1, hc.2, rfl⟩
    · cases hx
  have hlen : ∀ {o : Nat} {a : AO}, G0[o]? = some a → o < 11 := fun h => (List.getElem?_eq_some_iff.1 h).1
  have hlast : 10 < W.heap.size := shape_last hsh (by rw [gsize]; exact Nat.le_refl _) hsize
  have hg0 : ∀ {o : Nat} {a : AO}, G0[o]? = some a → a.g = 0 := by
    intro o a h
    have : ∀ b ∈ G0, b.g = 0 := by decide
    exact this a (List.mem_of_getElem? h)
  refine ⟨fun o a ho hl => ?_, fun o o' a a' b δ δ' ho _ hr hl _ _ _ => ?_, fun o g x hx => ?_, fun o g b δ hb => ?_, fun g hg => hmu g hg⟩
  · refine ⟨o, 0, by rw [hg0 ho]; exact hmu o (hlen ho), ?_⟩
    have hcases : o = 1 ∨ o = 5 := by
      have h1 := hlen ho
      have : ∀ i, i < 11 → (∀ b, G0[i]? = some b → b.k.live = true → i = 1 ∨ i = 5) := by
        intro i hi b hb hlv
        match i, hi with
        | 0, _ => cases hb; cases hlv
        | 1, _ => exact .inl rfl
        | 2, _ => cases hb; cases hlv
        | 3, _ => cases hb; cases hlv
        | 4, _ => cases hb; cases hlv
        | 5, _ => exact .inr rfl
        | 6, _ => cases hb; cases hlv
        | 7, _ => cases hb; cases hlv
        | 8, _ => cases hb; cases hlv
        | 9, _ => cases hb; cases hlv
        | 10, _ => cases hb; cases hlv
      exact this o h1 a ho hl
    rcases hcases with rfl | rfl
    · cases ho
      obtain ⟨cs, hv, hcs⟩ := h.sp
      obtain ⟨t, fr, hh⟩ := var_heap gAs hv
      obtain ⟨cs2, fr2, hh2⟩ := shape_row hsh (by rw [gsize]; decide) rAs
      rw [hh] at hh2
      cases hh2
      have hsz : cs.size = 256 := by have := congrArg List.length hcs; simpa [spZs] using this
      refine ⟨_, _, hh, by rw [hsz]; exact Nat.le_of_ble_eq_true rfl, fun j c hj => ?_, fun e => by cases e⟩
      rw [← spZs_eq, List.getElem?_map, Option.map_eq_some_iff] at hj
      obtain ⟨z, hz, rfl⟩ := hj
      refine ⟨.int .u8 z, ?_, rfl⟩
      rw [Nat.zero_add, ← Array.getElem?_toList, hcs, List.getElem?_map, hz]; rfl
    · cases ho
      obtain ⟨v, hv⟩ := h.er
      obtain ⟨t, fr, hh⟩ := var_heap gEr hv
      obtain ⟨cs2, fr2, hh2⟩ := shape_row hsh (by rw [gsize]; decide) rEr
      rw [hh] at hh2
      cases hh2
      refine ⟨_, _, hh, by simp, fun j c hj => ?_, fun e => by cases e⟩
      match j, hj with
      | 0, hj => cases hj; exact ⟨_, rfl, v, rfl, trivial⟩
      | j + 1, hj => simp at hj
  · rw [(okGlob_at okG0 ho hl).1] at hr; cases hr
  · obtain ⟨h1, rfl, _⟩ := hinv hx
    have hlt : o < G0.length := h1
    exact ⟨_, List.getElem?_eq_getElem hlt, Nat.zero_le _⟩
  · obtain ⟨h1, _, h3⟩ := hinv hb
    cases h3
    omega
end Go.Proofs.YtjphfiieapclhaaDoor
