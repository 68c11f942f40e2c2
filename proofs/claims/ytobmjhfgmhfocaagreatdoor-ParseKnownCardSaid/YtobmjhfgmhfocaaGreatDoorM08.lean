/- The parser's context: its functions, those that are known by a contract, the methods of its types. -/
import Derived.Test.YtobmjhfgmhfocaaGreatDoorM04
import Derived.Test.YtobmjhfgmhfocaaGreatDoorM06
import Derived.Test.YtobmjhfgmhfocaaGreatDoorM07
import Derived.Test.YtobmjhfgmhfocaaGreatDoorM05
set_option linter.unusedVariables false
set_option linter.unusedSimpArgs false
namespace Go.Abs.YtobmjhfgmhfocaaGreatDoor
open Go.Proofs Go.RowKit Go.Extern

def pIndexByte : List AV → St → Option (AV × St)
  | [.s l, .i .u8 c], σ => some (.i .i64 (Lib.indexByte l c.toNat.toUInt8), σ)
  | _, _ => none
/-- The error's value is not told. -/
def pParseUint : List AV → St → Option (AV × St)
  | [.s l, .i .i64 10, .i .i64 32], σ => if l.length ≤ 281474976710656 then (match Lib.parseUintB 32 l with
    | .ok u => some (.tu [.i .u64 u, .ic0], σ)
    | .range => (match (σ[5]? : Option AO) with
      | some ⟨0, _, .cells _ (.ic _ _ :: _)⟩ => some (.tu [.i .u64 4294967295, .ic 176 .u], σ)
      | _ => none)
    | _ => none) else none
  | _, _ => none
def pow10C : List AV := Lib.pow10Tab.map (AV.i .u64)
/-- The table of powers of ten stands as the library lays it. -/
def okTab (σ : St) : Bool := match (σ[6]? : Option AO) with
  | some ⟨0, true, .cells _ cs⟩ => AV.eqvs cs pow10C
  | _ => false
def pFormatUint : List AV → St → Option (AV × St)
  | [.i .u64 n, .i .i64 10], σ => if 0 ≤ n ∧ n < 18446744073709551616 ∧ (n < 100 ∨ okTab σ = true) then some (.s (Lib.decDigits n.toNat), σ) else none
  | _, _ => none
def pRepeat : List AV → St → Option (AV × St)
  | [.s l, .i .i64 n], σ => if 0 ≤ n ∧ n ≤ 9223372036854775807 ∧ l.length * n.toNat ≤ 140737488355328 then some (.s (Lib.repeatL l n.toNat), σ) else none
  | _, _ => none
noncomputable def pAs : List AV → St → Option (AV × St)
  | [.ic0, _], σ => some (.b false, σ)
  | [.ic 101 (.p o g off), .ic 119 (.p o2 g2 off2)], σ => (match (σ[0]? : Option AO) with
    | some ⟨0, _, .cells _ (.ic 180 (.ag [.p 10 0 36]) :: _)⟩ => (aStore (tyOf Tryz.prog 101) (.p o2 g2 off2) (.p o g off) σ).map (.b true, ·)
    | _ => none)
  | _, _ => none
def pTypeOf : List AV → St → Option (AV × St)
  | [.ic 23 _], σ => some (.ic 180 (.ag [.p 10 0 23]), σ)
  | _, _ => none
def pComparable : List AV → St → Option (AV × St)
  | [.ag [.p 10 0 23]], σ => some (.b true, σ)
  | _, _ => none
noncomputable def prims : Nat → Option (List AV → St → Option (AV × St))
  | 42 => some pIndexByte
  | 47 => some pParseUint
  | 174 => some pFormatUint
  | 138 => some pRepeat
  | 51 => some pAs
  | 91 => some pTypeOf
  | 221 => some pComparable
  | _ => none
def meths : Nat → String → AV → Option (Nat × AV)
  | 180, "Comparable", .ag [a] => some (221, .ag [a])
  | 101, "Unwrap", .p o g off => some (212, .p o g off)
  | _, _, _ => none

@[reducible] noncomputable def XB : Ctx := ⟨Tryz.prog, fns, prims, meths, fun f => Nat.beq f 64⟩

theorem method_comparable (h : Value) (w : World) : (Go.method 382 180 (.agg #[h]) "Comparable").run Tryz.prog w = .ok (221, .agg #[h]) w := by kernel_rfl
theorem method_unwrap (a : Addr) (w : World) : (Go.method 382 101 (.pointer (some a)) "Unwrap").run Tryz.prog w = .ok (212, .pointer (some a)) w := by kernel_rfl
theorem typeOf_errno (v : Value) (w : World) : (ReflectliteType.typeOf #[.iface 23 v]).run Tryz.prog w = .ok (.iface 180 (.agg #[.pointer (some ⟨10, 23, none⟩)])) w := by kernel_rfl
theorem comparable_errno (w : World) : (ReflectliteType.method (fun t => do Rtype.noPackHeld "Comparable" t; pure (.bool (← typeInfo t).comparable)) #[.agg #[.pointer (some ⟨10, 23, none⟩)]]).run Tryz.prog w = .ok (.bool true) w := by kernel_rfl
theorem depth_eq : XB.P.types.size + Made.depth = 382 := by kernel_rfl
theorem gPow : Tryz.prog.globalNamed "internal/strconv.uint64pow10" = some 6 := by kernel_rfl
theorem draws_ok : XB.P.follows .mixedOrders = true := by kernel_rfl

section
variable {μ : Mu} {σ σ' : St} {w : World} {args : List AV} {r : AV} {cargs : Array Value}

theorem str_data (l : List UInt8) : (⟨l.toArray⟩ : ByteArray).data.toList = l := by simp
theorem str_size (l : List UInt8) : (⟨l.toArray⟩ : ByteArray).size = l.length := by simp [ByteArray.size]
theorem okTab_is (hs : Sim 11 μ σ w) (h : okTab σ = true) : Lib.TabIs Tryz.prog w "internal/strconv.uint64pow10" .u64 Lib.pow10Tab := by
  unfold okTab at h
  split at h
  · rename_i e cs ho
    have h := AV.eqvs_eq _ _ h
    subst h
    obtain ⟨ccs, fr, q1, _, q3⟩ := hs.tab (by omega) ho
    have q4 := vrels_ints q3
    unfold Lib.TabIs World.var?
    rw [gPow]
    simp only [Option.bind_some, q1]
    rw [← q4]
  · cases h
theorem flat_done {f : Nat} (he : Enters Tryz.prog f) {u : Value} (hs : Sim 11 μ σ w) (hu : VRel μ w r u) (h : Calls Tryz.prog f cargs w fun e w' => e = .returned u ∧ w' = w) : Does Tryz.prog f cargs w (After 11 μ σ w r σ) :=
  Does.of_calls he (h.mono fun e w' q => by obtain ⟨rfl, rfl⟩ := q; exact ⟨_, μ, rfl, hu, Step.refl hs⟩)
theorem flat_below {f : Nat} (he : Enters Tryz.prog f) {u : Value} (hs : Sim 11 μ σ w) (hu : ∀ w', VRel μ w' r u) (h : Calls Tryz.prog f cargs w fun e w' => e = .returned u ∧ Below w.heap.size w w') : Does Tryz.prog f cargs w (After 11 μ σ w r σ) :=
  Does.of_calls he (h.mono fun e w' q => by obtain ⟨rfl, hb⟩ := q; exact ⟨_, μ, rfl, hu w', Step.of_below hs hb⟩)
theorem grown_below (n : Nat) (os : Array Obj) : Below w.heap.size w (Go.Sort.grow (w.drewN n) os) := ⟨rfl, rfl, rfl, by simp [Go.Sort.grow], fun i hi => by
  show ((w.drewN n).heap ++ os)[i]? = _
  rw [Array.getElem?_append_left (by show i < w.heap.size; omega)]; rfl⟩
theorem drewN_below (n : Nat) : Below w.heap.size w (w.drewN n) := ⟨rfl, rfl, rfl, Nat.le_refl _, fun _ _ => rfl⟩

theorem pFormatUint_ok (h : pFormatUint args σ = some (r, σ')) (hs : Sim 11 μ σ w) (hr : VRels μ w args cargs.toList) : Does Tryz.prog 174 cargs w (After 11 μ σ w r σ') := by
  unfold pFormatUint at h
  split at h
  · rename_i n
    split at h
    · rename_i hc
      cases h
      obtain ⟨v, u, rfl, h1, h2⟩ := vrels_two hr
      simp only [VRel] at h1 h2
      subst h1; subst h2
      obtain ⟨k, rfl⟩ : ∃ k : Nat, n = k := ⟨n.toNat, by omega⟩
      by_cases hk : k < 100
      · exact flat_done (enters_mk Tryz.func174 (by kernel_rfl) (by kernel_rfl)) hs rfl (formatUint_small k hk w)
      · exact flat_below (enters_mk Tryz.func174 (by kernel_rfl) (by kernel_rfl)) hs (fun _ => rfl) ((formatUint_big k (by omega) (by omega) w (okTab_is hs (hc.2.2.resolve_left (by omega)))).mono fun e w' q => by
          obtain ⟨rfl, k, os, rfl⟩ := q; exact ⟨rfl, grown_below k os⟩)
    · cases h
  · cases h
theorem pRepeat_ok (h : pRepeat args σ = some (r, σ')) (hs : Sim 11 μ σ w) (hr : VRels μ w args cargs.toList) : Does Tryz.prog 138 cargs w (After 11 μ σ w r σ') := by
  unfold pRepeat at h
  split at h
  · rename_i l n
    split at h
    · rename_i hc
      cases h
      obtain ⟨v, u, rfl, h1, h2⟩ := vrels_two hr
      simp only [VRel] at h1 h2
      subst h1; subst h2
      obtain ⟨k, rfl⟩ : ∃ k : Nat, n = k := ⟨n.toNat, by omega⟩
      have hq := Tryz.strings_Repeat ⟨l.toArray⟩ k w (by omega) (by rw [str_size]; simpa using hc.2.2)
      rw [str_data] at hq
      exact flat_below (enters_mk Tryz.func138 (by kernel_rfl) (by kernel_rfl)) hs (fun _ => rfl) hq
    · cases h
  · cases h
theorem pIndexByte_ok (h : pIndexByte args σ = some (r, σ')) (hs : Sim 11 μ σ w) (hr : VRels μ w args cargs.toList) : Does Tryz.prog 42 cargs w (After 11 μ σ w r σ') := by
  unfold pIndexByte at h
  split at h
  · rename_i l c
    cases h
    obtain ⟨v, u, rfl, h1, h2⟩ := vrels_two hr
    simp only [VRel] at h1 h2
    subst h1; subst h2
    refine Does.of_calls (enters_mk Tryz.func42 (by kernel_rfl) (by kernel_rfl)) ((Tryz.strings_IndexByte ⟨l.toArray⟩ c w).mono fun e w' he => ?_)
    obtain ⟨rfl, rfl⟩ := he
    exact ⟨_, μ, rfl, rfl, Step.refl hs⟩
  · cases h

theorem pParseUint_ok (h : pParseUint args σ = some (r, σ')) (hs : Sim 11 μ σ w) (hr : VRels μ w args cargs.toList) : Does Tryz.prog 47 cargs w (After 11 μ σ w r σ') := by
  have he := enters_mk Tryz.func47 (by kernel_rfl) (by kernel_rfl)
  unfold pParseUint at h
  split at h
  · rename_i l
    obtain ⟨v, u, t, rfl, h1, h2, h3⟩ := vrels_three hr
    simp only [VRel] at h1 h2 h3
    subst h1; subst h2; subst h3
    split at h
    · rename_i hl
      have hsz : (⟨l.toArray⟩ : ByteArray).size ≤ 281474976710656 := by simpa [ByteArray.size] using hl
      split at h
      · rename_i n hn
        cases h
        refine Does.of_calls he ((Tryz.strconv_ParseUint_10_at32_ok ⟨l.toArray⟩ (by omega) n (by simpa using hn) w).mono fun e w' hew => ?_)
        obtain ⟨rfl, hw⟩ := hew
        refine ⟨_, μ, rfl, ⟨_, rfl, .int .u64 n, _, rfl, rfl, .nilIface, [], rfl, rfl, rfl⟩, ?_⟩
        rcases hw with rfl | rfl
        · exact Step.refl hs
        · exact Step.of_below hs (Lib.bytesWorld_below w _ _)
      · rename_i hn
        split at h
        · rename_i ro t0 tp v0 rest hg
          cases h
          have hg0 := hs.glob 5 (by omega)
          obtain ⟨c, hc1, hc2⟩ := hs.cell hg hg0
          obtain ⟨y, rfl, _⟩ := hc2
          refine Does.of_calls he ((Tryz.strconv_ParseUint_10_at32_range ⟨l.toArray⟩ hsz (by simpa using hn) (.iface tp y) w hc1 (.inr ⟨tp, y, rfl⟩)).mono fun e w' hew => ?_)
          obtain ⟨N, rfl, _, _, hb⟩ := hew
          exact ⟨_, μ, rfl, ⟨_, rfl, .int .u64 4294967295, _, rfl, rfl, _, [], rfl, ⟨_, rfl, trivial⟩, rfl⟩, Step.of_below hs hb⟩
        · cases h
      · cases h
    · cases h
  · cases h

theorem pTypeOf_ok (h : pTypeOf args σ = some (r, σ')) (hs : Sim 11 μ σ w) (hr : VRels μ w args cargs.toList) : Does Tryz.prog 91 cargs w (After 11 μ σ w r σ') := by
  unfold pTypeOf at h
  split at h
  · cases h
    obtain ⟨v, rfl, y, rfl, hy⟩ := vrels_one hr
    have h10 := @run_callFunc_extern Tryz.prog 91 _ ReflectliteType.typeOf Tryz.func91 (by kernel_rfl) (by kernel_rfl) (by kernel_rfl) (by kernel_rfl)
    refine Does.of_value (by rw [h10, typeOf_errno]; rfl) ⟨_, μ, rfl, ⟨_, rfl, _, rfl, _, [], rfl, ⟨_, 0, hs.glob 10 (by omega), rfl⟩, rfl⟩, Step.refl hs⟩
  · cases h
theorem pComparable_ok (h : pComparable args σ = some (r, σ')) (hs : Sim 11 μ σ w) (hr : VRels μ w args cargs.toList) : Does Tryz.prog 221 cargs w (After 11 μ σ w r σ') := by
  unfold pComparable at h
  split at h
  · cases h
    obtain ⟨v, rfl, a, rfl, hy⟩ := vrels_one hr
    obtain ⟨u, rfl, hu⟩ := vrels_one hy
    obtain ⟨b, δ, hb, rfl⟩ := hu
    have hg := hs.glob 10 (by omega)
    rw [hg] at hb; cases hb
    have h10 := @run_callFunc_extern Tryz.prog 221 _ (ReflectliteType.method fun t => do Rtype.noPackHeld "Comparable" t; pure (.bool (← typeInfo t).comparable)) Tryz.func221 (by kernel_rfl) (by kernel_rfl) (by kernel_rfl) (by kernel_rfl)
    have hcmp := comparable_errno w
    refine Does.of_value (by rw [h10]; simp only [Nat.zero_add] at hcmp ⊢; rw [hcmp]; rfl) ⟨_, μ, rfl, rfl, Step.refl hs⟩
  · cases h

theorem pAs_ok (h : pAs args σ = some (r, σ')) (hs : Sim 11 μ σ w) (hr : VRels μ w args cargs.toList) : Does Tryz.prog 51 cargs w (After 11 μ σ w r σ') := by
  have hen := enters_mk Tryz.func51 (by kernel_rfl) (by kernel_rfl)
  unfold pAs at h
  split at h
  · cases h
    obtain ⟨v, u, rfl, h1, h2⟩ := vrels_two hr
    simp only [VRel] at h1
    subst h1
    refine Does.of_calls hen ((as_nil u w).mono fun e w' he => ?_)
    obtain ⟨rfl, rfl⟩ := he
    exact ⟨_, μ, rfl, rfl, Step.refl hs⟩
  · rename_i o g off o2 g2 off2
    obtain ⟨v, u, rfl, h1, h2⟩ := vrels_two hr
    obtain ⟨p1, rfl, h1⟩ := h1
    obtain ⟨p2, rfl, h2⟩ := h2
    obtain ⟨b, δ, hb, rfl⟩ := h1
    obtain ⟨b2, δ2, hb2, rfl⟩ := h2
    split at h
    · rename_i ro t0 rest hg
      obtain ⟨c, hc1, hc2⟩ := hs.cell hg (hs.glob 0 (by omega))
      obtain ⟨y, rfl, hc2⟩ := hc2
      obtain ⟨y2, rfl, hc2⟩ := hc2
      obtain ⟨u2, rfl, b3, δ3, hb3, rfl⟩ := vrels_one hc2
      rw [hs.glob 10 (by omega)] at hb3; cases hb3
      rw [Option.map_eq_some_iff] at h
      obtain ⟨σ1, hst, h⟩ := h; cases h
      unfold aStore at hst
      split at hst
      · rename_i T o3 g3 off3 hT hpe
        cases hpe
        split at hst
        · rename_i g' ro2 e2 cs ho
          split at hst
          · rename_i hcond
            obtain ⟨rfl, rfl, hl, hone, hle⟩ := hcond
            cases hst
            obtain ⟨ccs, fr, q1, q2, q3, q4⟩ := hs.cells ho hb2
            have hTs : T.size = 1 := by simpa [AV.cells] using hl.symm
            have hlt : δ2 + off2 < ccs.size := by omega
            have hcell : w.cell? ⟨b2, δ2 + off2, none⟩ = some ccs[δ2 + off2] := by rw [cell_of_heap q1, Array.getElem?_eq_getElem hlt]
            have hfz : w.frozen? ⟨b2, δ2 + off2, none⟩ = false := by
              have := q4 rfl (δ2 + off2) hlt
              simp only [World.frozen?, q1]
              simpa using this
            simp only [Nat.zero_add] at hc1
            refine Does.of_calls hen ((as_hit_below ⟨b, δ + off, none⟩ ⟨b2, δ2 + off2, none⟩ _ w hc1 hcell hfz).mono fun e w' he => ?_)
            obtain ⟨rfl, w1, hjunk, rfl⟩ := he
            have hst1 := Step.of_below hs hjunk
            have q1' : w1.heap[b2]? = some (.cells ccs e2 fr) := by rw [hjunk.block b2 (lt_of_heap q1)]; exact q1
            have hcell1 : w1.cell? ⟨b2, δ2 + off2, none⟩ = some ccs[δ2 + off2] := by rw [cell_of_heap q1', Array.getElem?_eq_getElem hlt]
            have hfz1 : w1.frozen? ⟨b2, δ2 + off2, none⟩ = false := by
              simp only [World.frozen?, q1'] 
              simp only [World.frozen?, q1] at hfz
              exact hfz
            obtain ⟨w2, k1, k2⟩ := Step.store (P := Tryz.prog) hst1.sim ho hb2 (ys := [.p o g off]) (vs := [.pointer (some ⟨b, δ + off, none⟩)]) (off := off2) ⟨_, _, rfl, ⟨b, δ, hb, rfl⟩, rfl⟩ (by simp [Value.oneCell']) (by simp; omega)
            have hw2 : w2 = w1.setCell ⟨b2, δ2 + off2, none⟩ (.pointer (some ⟨b, δ + off, none⟩)) := by
              have hrun : (storeCells ⟨b2, δ2 + off2, none⟩ [.pointer (some ⟨b, δ + off, none⟩)]).run Tryz.prog w1 = .ok () (w1.setCell ⟨b2, δ2 + off2, none⟩ (.pointer (some ⟨b, δ + off, none⟩))) := by
                simp only [storeCells, Addr.add]
                simp
                rw [run_store Tryz.prog w1 ⟨b2, δ2 + off2, none⟩ _ _ (by rfl)]
                simp [hcell1, hfz1]
              rw [hrun] at k1
              cases k1; rfl
            subst hw2
            exact ⟨_, μ, rfl, rfl, hst1.trans (by simpa [AV.cells] using k2)⟩
          · cases hst
        · cases hst
      · cases hst
    · cases h
  · cases h
end

theorem XB_sound : XB.Sound 11 where
  draws := draws_ok
  dks := fun f h => by
    obtain rfl := Nat.eq_of_beq_eq_true h
    exact ⟨rfl, fun F hF => fns_ok _ F hF (by decide)⟩
  fns := fun f F _ h => by
    by_cases hf : f = 161
    · subst hf
      cases h
      exact .inr op_good
    · exact .inl (fns_ok f F h (by simpa using hf))
  ok := {
    prim := by
      intro f g hf args σ r σ' hg μ w cargs hs hr
      have hf' : prims f = some g := hf
      unfold prims at hf'
      split at hf'
      · cases hf'; exact pIndexByte_ok hg hs hr
      · cases hf'; exact pParseUint_ok hg hs hr
      · cases hf'; exact pFormatUint_ok hg hs hr
      · cases hf'; exact pRepeat_ok hg hs hr
      · cases hf'; exact pAs_ok hg hs hr
      · cases hf'; exact pTypeOf_ok hg hs hr
      · cases hf'; exact pComparable_ok hg hs hr
      · cases hf'
    meth := by
      intro t m a k hk μ v w hv
      rw [depth_eq]
      have hk' : meths t m a = some k := hk
      unfold meths at hk'
      split at hk'
      · cases hk'
        obtain ⟨c, rfl, hc⟩ := hv
        obtain ⟨u, rfl, hu⟩ := vrels_one hc
        exact ⟨_, method_comparable u w, _, rfl, hc⟩
      · cases hk'
        obtain ⟨b, δ, hb, rfl⟩ := hv
        exact ⟨_, method_unwrap _ w, b, δ, hb, rfl⟩
      · cases hk' }
end Go.Abs.YtobmjhfgmhfocaaGreatDoor
