/- This translation's context: its functions, those that are known by a contract, the methods of its types. -/
import Derived.Test.YtkfcbgmamfnajaaGreatDoorM03
import Derived.Test.YtkfcbgmamfnajaaGreatDoorM04
import Derived.Test.YtkfcbgmamfnajaaGreatDoorM05
import Derived.Shelf.Strings.SlTrimAscii
set_option linter.unusedVariables false
set_option linter.unusedSimpArgs false
namespace Go.Abs.YtkfcbgmamfnajaaGreatDoor
open Go.Proofs Go.RowKit Go.Extern

def strsOf : List AV → Option (List (List UInt8))
  | [] => some []
  | .s x :: r => (strsOf r).map (x :: ·)
  | _ => none
theorem strsOf_map : ∀ l : List (List UInt8), strsOf (l.map AV.s) = some l
  | [] => rfl
  | x :: r => by simp [strsOf, strsOf_map r]
def pow10C : List AV := Lib.pow10Tab.map (AV.i .u64)
/-- The table of powers of ten stands as the library lays it. -/
def okTab (σ : St) : Bool := match (σ[3]? : Option AO) with
  | some ⟨0, true, .cells _ cs⟩ => AV.eqvs cs pow10C
  | _ => false
def okMax (σ : St) : Bool := match (σ[2]? : Option AO) with
  | some ⟨0, _, .cells _ (.i .i64 _ :: _)⟩ => true
  | _ => false

def pJoin : List AV → St → Option (AV × St)
  | [.sl o g off n 1, .s sep], σ => match cellsAt σ o g with
    | some cs => if off + n ≤ cs.length ∧ n ≤ 140737488355328 then (match strsOf ((cs.drop off).take n) with
      | some xs => if (Lib.join xs sep).length ≤ 140737488355328 then some (.s (Lib.join xs sep), σ) else none
      | none => none) else none
    | none => none
  | _, _ => none
def pItoa : List AV → St → Option (AV × St)
  | [.i .i64 n], σ => if -9223372036854775808 ≤ n ∧ n ≤ 9223372036854775807 ∧ okTab σ = true then some (.s (Lib.itoa n), σ) else none
  | _, _ => none
def pFormatInt : List AV → St → Option (AV × St)
  | [.i .i64 n, .i .i64 10], σ => if -9223372036854775808 ≤ n ∧ n ≤ 9223372036854775807 ∧ okTab σ = true then some (.s (Lib.itoa n), σ) else none
  | _, _ => none
def pFormatUint : List AV → St → Option (AV × St)
  | [.i .u64 n, .i .i64 10], σ => if 0 ≤ n ∧ n < 18446744073709551616 ∧ okTab σ = true then some (.s (Lib.decDigits n.toNat), σ) else none
  | _, _ => none
def pNumDigits : List AV → St → Option (AV × St)
  | [.i .u64 n], σ => if 1 ≤ n ∧ n < 18446744073709551616 ∧ okTab σ = true then some (.i .i64 (Lib.nDigits n.toNat), σ) else none
  | _, _ => none
def pSmall : List AV → St → Option (AV × St)
  | [.i .i64 n], σ => if 0 ≤ n ∧ n < 100 then some (.s (Lib.decDigits n.toNat), σ) else none
  | _, _ => none
/-- The error's value is not told; nor the number beside it. -/
def pParseInt : List AV → St → Option (AV × St)
  | [.s l, .i .i64 10, .i .i64 64], σ => if l.length ≤ 281474976710656 then (match Lib.parseIntB 64 l with
    | .ok u => some (.tu [.i .i64 u, .ic0], σ)
    | .range => (match (σ[7]? : Option AO) with
      | some ⟨0, _, .cells _ (.ic _ _ :: _)⟩ => some (.tu [.i .i64 (Lib.intSat 64 l), .ic 195 .u], σ)
      | _ => none)
    | Lib.NumEnd.syntax => (match (σ[6]? : Option AO) with
      | some ⟨0, _, .cells _ (.ic _ _ :: _)⟩ => some (.tu [.i .i64 0, .ic 195 .u], σ)
      | _ => none)) else none
  | _, _ => none
def pTrim : List AV → St → Option (AV × St)
  | [.s l, .s cs], σ => if l.length ≤ 9223372036854775807 ∧ cs.length < 4294967281 ∧ cs.all (fun b => decide (b.toNat < 128)) = true then some (.s (Lib.trimS l cs), σ) else none
  | _, _ => none
def pContains : List AV → St → Option (AV × St)
  | [.s l, .s [c]], σ => some (.b (decide (0 ≤ Lib.indexByte l c)), σ)
  | _, _ => none
def pHasPrefix : List AV → St → Option (AV × St)
  | [.s l, .s p], σ => some (.b (Lib.hasPrefix l p), σ)
  | _, _ => none
def pTrimPrefix : List AV → St → Option (AV × St)
  | [.s l, .s p], σ => some (.s (Lib.trimPrefix l p), σ)
  | _, _ => none
def pCutSuffix : List AV → St → Option (AV × St)
  | [.s l, .s p], σ => if l.length ≤ 9223372036854775807 then some (.tu [.s (Lib.trimSuffix l p), .b (Lib.hasSuffix l p)], σ) else none
  | _, _ => none
def pCut : List AV → St → Option (AV × St)
  | [.s l, .s p], σ => if l.length < 4294967281 ∧ okMax σ = true then some (.tu [.s (Lib.cut l p).1, .s (Lib.cut l p).2.1, .b (Lib.cut l p).2.2], σ) else none
  | _, _ => none
def pSplit : List AV → St → Option (AV × St)
  | [.s l, .s p], σ => if l.length < 4294967281 ∧ 1 ≤ p.length ∧ okMax σ = true then some (.sl σ.length 0 0 (Lib.split l p).length 1, newCells 9 ((Lib.split l p).map AV.s) σ) else none
  | _, _ => none
def pFieldsFunc : List AV → St → Option (AV × St)
  | [.s l, .fn (.func 64) [] []], σ => if l.length ≤ 4294967296 then some (.sl σ.length 0 0 (wordsOf l).length 1, newCells 9 ((wordsOf l).map AV.s) σ) else none
  | _, _ => none
def pReplaceAll : List AV → St → Option (AV × St)
  | [.s l, .s a, .s b], σ => if l.length < 4294967281 ∧ 1 ≤ a.length ∧ l.length + Lib.count l a * b.length ≤ 140737488355328 ∧ okMax σ = true then some (.s (Lib.replaceAll l a b), σ) else none
  | _, _ => none
def pRepeat : List AV → St → Option (AV × St)
  | [.s l, .i .i64 n], σ => if 0 ≤ n ∧ n ≤ 9223372036854775807 ∧ l.length * n.toNat ≤ 140737488355328 then some (.s (Lib.repeatL l n.toNat), σ) else none
  | _, _ => none
noncomputable def pAs : List AV → St → Option (AV × St)
  | [.ic0, _], σ => some (.b false, σ)
  | [.ic 48 (.p o g off), .ic 100 (.p o2 g2 off2)], σ => (match (σ[0]? : Option AO) with
    | some ⟨0, _, .cells _ (.ic 165 (.ag [.p 10 0 33]) :: _)⟩ => (aStore (tyOf Tryz.prog 48) (.p o2 g2 off2) (.p o g off) σ).map (.b true, ·)
    | _ => none)
  | _, _ => none
def pTypeOf : List AV → St → Option (AV × St)
  | [.ic 23 _], σ => some (.ic 165 (.ag [.p 10 0 23]), σ)
  | _, _ => none
def pComparable : List AV → St → Option (AV × St)
  | [.ag [.p 10 0 23]], σ => some (.b true, σ)
  | _, _ => none
noncomputable def prims : Nat → Option (List AV → St → Option (AV × St))
  | 75 => some pJoin
  | 34 => some pItoa
  | 100 => some pFormatInt
  | 76 => some pFormatUint
  | 103 => some pNumDigits
  | 102 => some pSmall
  | 99 => some pParseInt
  | 82 => some pTrim
  | 19 => some pContains
  | 51 => some pHasPrefix
  | 101 => some pTrimPrefix
  | 44 => some pCutSuffix
  | 47 => some pCut
  | 46 => some pSplit
  | 63 => some pFieldsFunc
  | 20 => some pReplaceAll
  | 21 => some pRepeat
  | 61 => some pAs
  | 97 => some pTypeOf
  | 182 => some pComparable
  | _ => none
def meths : Nat → String → AV → Option (Nat × AV)
  | 165, "Comparable", .ag [a] => some (182, .ag [a])
  | 48, "Unwrap", .p o g off => some (175, .p o g off)
  | _, _, _ => none

@[reducible] noncomputable def XB : Ctx := ⟨Tryz.prog, fns, prims, meths⟩

theorem method_comparable (h : Value) (w : World) : (Go.method 334 165 (.agg #[h]) "Comparable").run Tryz.prog w = .ok (182, .agg #[h]) w := by kernel_rfl
theorem method_unwrap (a : Addr) (w : World) : (Go.method 334 48 (.pointer (some a)) "Unwrap").run Tryz.prog w = .ok (175, .pointer (some a)) w := by kernel_rfl
theorem typeOf_errno (v : Value) (w : World) : (ReflectliteType.typeOf #[.iface 23 v]).run Tryz.prog w = .ok (.iface 165 (.agg #[.pointer (some ⟨10, 23, none⟩)])) w := by kernel_rfl
theorem comparable_errno (w : World) : (ReflectliteType.method (fun t => do Rtype.noPackHeld "Comparable" t; pure (.bool (← typeInfo t).comparable)) #[.agg #[.pointer (some ⟨10, 23, none⟩)]]).run Tryz.prog w = .ok (.bool true) w := by kernel_rfl
theorem depth_eq : XB.P.types.size + Made.depth = 334 := by kernel_rfl
theorem draws_ok : XB.P.follows .mixedOrders = true := by kernel_rfl
theorem gPow : Tryz.prog.globalNamed "internal/strconv.uint64pow10" = some 3 := by kernel_rfl

section
variable {μ : Mu} {σ σ' : St} {w : World} {args : List AV} {r : AV} {cargs : Array Value}

theorem str_data (l : List UInt8) : (⟨l.toArray⟩ : ByteArray).data.toList = l := by simp
theorem str_size (l : List UInt8) : (⟨l.toArray⟩ : ByteArray).size = l.length := by simp [ByteArray.size]
theorem okTab_is (hs : Sim 11 μ σ w) (h : okTab σ = true) : Lib.TabIs Tryz.prog w "internal/strconv.uint64pow10" .u64 Lib.pow10Tab := by
  unfold okTab at h
  split at h
  · rename_i e cs ho
    have h := AV.eqvs_eq _ _ h
    subst h
    obtain ⟨ccs, fr, q1, _, q3⟩ := hs.tab (by omega) ho
    have q4 := vrels_ints q3
    unfold Lib.TabIs World.var?
    rw [gPow]
    simp only [Option.bind_some, q1]
    rw [← q4]
  · cases h
theorem okMax_is (hs : Sim 11 μ σ w) (h : okMax σ = true) : ∃ m, w.cell? ⟨2, 0, none⟩ = some (.int .i64 m) := by
  unfold okMax at h
  split at h
  · rename_i ro e m rest ho
    obtain ⟨v, h1, h2⟩ := hs.cell ho (hs.glob _ (by omega))
    simp only [VRel] at h2
    exact ⟨m, by rw [h1, h2]⟩
  · cases h
theorem flat_done {f : Nat} (he : Enters Tryz.prog f) {u : Value} (hs : Sim 11 μ σ w) (hu : VRel μ w r u) (h : Calls Tryz.prog f cargs w fun e w' => e = .returned u ∧ w' = w) : Does Tryz.prog f cargs w (After 11 μ σ w r σ) :=
  Does.of_calls he (h.mono fun e w' q => by obtain ⟨rfl, rfl⟩ := q; exact ⟨_, μ, rfl, hu, Step.refl hs⟩)
theorem flat_below {f : Nat} (he : Enters Tryz.prog f) {u : Value} (hs : Sim 11 μ σ w) (hu : ∀ w', VRel μ w' r u) (h : Calls Tryz.prog f cargs w fun e w' => e = .returned u ∧ Below w.heap.size w w') : Does Tryz.prog f cargs w (After 11 μ σ w r σ) :=
  Does.of_calls he (h.mono fun e w' q => by obtain ⟨rfl, hb⟩ := q; exact ⟨_, μ, rfl, hu w', Step.of_below hs hb⟩)
theorem grown_below (n : Nat) (os : Array Obj) : Below w.heap.size w (Go.Sort.grow (w.drewN n) os) := ⟨rfl, rfl, rfl, by simp [Go.Sort.grow], fun i hi => by
  show ((w.drewN n).heap ++ os)[i]? = _
  rw [Array.getElem?_append_left (by show i < w.heap.size; omega)]; rfl⟩
theorem drewN_below (n : Nat) : Below w.heap.size w (w.drewN n) := ⟨rfl, rfl, rfl, Nat.le_refl _, fun _ _ => rfl⟩

theorem strsOf_rel : ∀ {cs : List AV} {xs : List (List UInt8)}, strsOf cs = some xs → cs = xs.map AV.s
  | [], xs, h => by cases h; rfl
  | .s x :: r, xs, h => by
    simp only [strsOf, Option.map_eq_some_iff] at h
    obtain ⟨ys, h1, rfl⟩ := h
    rw [strsOf_rel h1]; rfl
theorem pJoin_ok (h : pJoin args σ = some (r, σ')) (hs : Sim 11 μ σ w) (hr : VRels μ w args cargs.toList) : Does Tryz.prog 75 cargs w (After 11 μ σ w r σ') := by
  unfold pJoin at h
  split at h
  · rename_i o g off n sep
    split at h
    · rename_i cs hcs
      split at h
      · rename_i hle
        split at h
        · rename_i xs hxs
          split at h
          · rename_i hlen
            cases h
            have hxs := strsOf_rel hxs
            obtain ⟨v, u, rfl, h1, h2⟩ := vrels_two hr
            simp only [VRel] at h2
            subst h2
            obtain ⟨b, δ, off', c, e, m, q1, rfl, q3, q4, q5, q6⟩ := h1
            unfold cellsAt at hcs
            split at hcs
            · rename_i g' ro e' cs' ho
              split at hcs
              · rename_i hg
                cases hcs
                subst hg
                obtain ⟨ccs, fr, p1, p2, p3, _⟩ := hs.cells ho q1
                have hn : xs.length = n := by
                  have := congrArg List.length hxs
                  simp at this; omega
                have hblk := hs.blk _ _ _ _ q1
                have hcells : ∀ (j : Nat) (x : ByteArray), (xs.map fun l => (⟨l.toArray⟩ : ByteArray))[j]? = some x → w.cell? ⟨b, off' + j, none⟩ = some (.string x) := by
                  intro j x hj
                  rw [List.getElem?_map, Option.map_eq_some_iff] at hj
                  obtain ⟨l, hj, rfl⟩ := hj
                  have hjl : j < n := by rw [← hn]; exact (List.getElem?_eq_some_iff.1 hj).1
                  have hoff : off' = δ + off := by
                    rcases q4 with h | ⟨h, _⟩
                    · exact h
                    · omega
                  have hcj : cs[off + j]? = some (.s l) := by
                    have h1 : ((cs.drop off).take n)[j]? = some (.s l) := by rw [hxs, List.getElem?_map, hj]; rfl
                    rw [List.getElem?_take, if_pos hjl, List.getElem?_drop] at h1
                    exact h1
                  obtain ⟨y, r1, r2⟩ := p3 _ _ hcj
                  simp only [VRel] at r2
                  rw [cell_of_heap p1, hoff, Nat.add_assoc, r1, r2]
                have hmap : (xs.map fun l => (⟨l.toArray⟩ : ByteArray)).map (fun (x : ByteArray) => x.data.toList) = xs := by
                  rw [List.map_map]
                  conv => rhs; rw [← List.map_id xs]
                  exact List.map_congr_left fun _ _ => rfl
                have hc := Tryz.strings_Join b off' c (xs.map fun l => (⟨l.toArray⟩ : ByteArray)) ⟨sep.toArray⟩ w hcells hblk (by simp; omega) (by simp; omega) (by rw [hmap]; simpa using hlen)
                rw [hmap, str_data, List.length_map, hn] at hc
                exact flat_below (enters_mk Tryz.func75 (by kernel_rfl) (by kernel_rfl)) hs (fun _ => rfl) hc
              · cases hcs
            · cases hcs
          · cases h
        · cases h
      · cases h
    · cases h
  · cases h
theorem pItoa_ok (h : pItoa args σ = some (r, σ')) (hs : Sim 11 μ σ w) (hr : VRels μ w args cargs.toList) : Does Tryz.prog 34 cargs w (After 11 μ σ w r σ') := by
  unfold pItoa at h
  split at h
  · rename_i n
    split at h
    · rename_i hc
      cases h
      obtain ⟨v, rfl, h1⟩ := vrels_one hr
      simp only [VRel] at h1
      subst h1
      exact flat_below (enters_mk Tryz.func34 (by kernel_rfl) (by kernel_rfl)) hs (fun _ => rfl) ((Tryz.strconv_Itoa n hc.1 hc.2.1 w (okTab_is hs hc.2.2)).mono fun e w' q => by
        obtain ⟨rfl, k, os, rfl⟩ := q; exact ⟨rfl, grown_below k os⟩)
    · cases h
  · cases h
theorem pFormatInt_ok (h : pFormatInt args σ = some (r, σ')) (hs : Sim 11 μ σ w) (hr : VRels μ w args cargs.toList) : Does Tryz.prog 100 cargs w (After 11 μ σ w r σ') := by
  unfold pFormatInt at h
  split at h
  · rename_i n
    split at h
    · rename_i hc
      cases h
      obtain ⟨v, u, rfl, h1, h2⟩ := vrels_two hr
      simp only [VRel] at h1 h2
      subst h1; subst h2
      exact flat_below (enters_mk Tryz.func100 (by kernel_rfl) (by kernel_rfl)) hs (fun _ => rfl) ((Tryz.strconv_FormatInt_10 n hc.1 hc.2.1 w (okTab_is hs hc.2.2)).mono fun e w' q => by
        obtain ⟨rfl, k, os, rfl⟩ := q; exact ⟨rfl, grown_below k os⟩)
    · cases h
  · cases h
theorem pFormatUint_ok (h : pFormatUint args σ = some (r, σ')) (hs : Sim 11 μ σ w) (hr : VRels μ w args cargs.toList) : Does Tryz.prog 76 cargs w (After 11 μ σ w r σ') := by
  unfold pFormatUint at h
  split at h
  · rename_i n
    split at h
    · rename_i hc
      cases h
      obtain ⟨v, u, rfl, h1, h2⟩ := vrels_two hr
      simp only [VRel] at h1 h2
      subst h1; subst h2
      obtain ⟨k, rfl⟩ : ∃ k : Nat, n = k := ⟨n.toNat, by omega⟩
      by_cases hk : k < 100
      · exact flat_done (enters_mk Tryz.func76 (by kernel_rfl) (by kernel_rfl)) hs rfl (formatUint_small k hk w)
      · exact flat_below (enters_mk Tryz.func76 (by kernel_rfl) (by kernel_rfl)) hs (fun _ => rfl) ((formatUint_big k (by omega) (by omega) w (okTab_is hs hc.2.2)).mono fun e w' q => by
          obtain ⟨rfl, k, os, rfl⟩ := q; exact ⟨rfl, grown_below k os⟩)
    · cases h
  · cases h
theorem pNumDigits_ok (h : pNumDigits args σ = some (r, σ')) (hs : Sim 11 μ σ w) (hr : VRels μ w args cargs.toList) : Does Tryz.prog 103 cargs w (After 11 μ σ w r σ') := by
  unfold pNumDigits at h
  split at h
  · rename_i n
    split at h
    · rename_i hc
      cases h
      obtain ⟨v, rfl, h1⟩ := vrels_one hr
      simp only [VRel] at h1
      subst h1
      obtain ⟨k, rfl⟩ : ∃ k : Nat, n = k := ⟨n.toNat, by omega⟩
      exact flat_done (enters_mk Tryz.func103 (by kernel_rfl) (by kernel_rfl)) hs rfl (Tryz.internal_strconv_numDigits k (by omega) (by omega) w (okTab_is hs hc.2.2))
    · cases h
  · cases h
theorem pSmall_ok (h : pSmall args σ = some (r, σ')) (hs : Sim 11 μ σ w) (hr : VRels μ w args cargs.toList) : Does Tryz.prog 102 cargs w (After 11 μ σ w r σ') := by
  unfold pSmall at h
  split at h
  · rename_i n
    split at h
    · rename_i hc
      cases h
      obtain ⟨v, rfl, h1⟩ := vrels_one hr
      simp only [VRel] at h1
      subst h1
      obtain ⟨k, rfl⟩ : ∃ k : Nat, n = k := ⟨n.toNat, by omega⟩
      exact flat_done (enters_mk Tryz.func102 (by kernel_rfl) (by kernel_rfl)) hs rfl (Tryz.internal_strconv_small k (by omega) w)
    · cases h
  · cases h
theorem pParseInt_ok (h : pParseInt args σ = some (r, σ')) (hs : Sim 11 μ σ w) (hr : VRels μ w args cargs.toList) : Does Tryz.prog 99 cargs w (After 11 μ σ w r σ') := by
  have he := enters_mk Tryz.func99 (by kernel_rfl) (by kernel_rfl)
  unfold pParseInt at h
  split at h
  · rename_i l
    obtain ⟨v, u, t, rfl, h1, h2, h3⟩ := vrels_three hr
    simp only [VRel] at h1 h2 h3
    subst h1; subst h2; subst h3
    split at h
    · rename_i hl
      have hsz : (⟨l.toArray⟩ : ByteArray).size ≤ 281474976710656 := by rw [str_size]; exact hl
      split at h
      · rename_i n hn
        cases h
        refine Does.of_calls he ((Tryz.strconv_ParseInt_10_at64_ok ⟨l.toArray⟩ (by omega) n (by rw [str_data]; exact hn) w).mono fun e w' hew => ?_)
        obtain ⟨rfl, hw⟩ := hew
        refine ⟨_, μ, rfl, ⟨_, rfl, .int .i64 n, _, rfl, rfl, .nilIface, [], rfl, rfl, rfl⟩, ?_⟩
        rcases hw with rfl | ⟨t, rfl⟩
        · exact Step.refl hs
        · exact Step.of_below hs (Lib.bytesWorld_below w _ _)
      · rename_i hn
        split at h
        · rename_i ro t0 tp v0 rest hg
          cases h
          obtain ⟨c, hc1, hc2⟩ := hs.cell hg (hs.glob 7 (by omega))
          obtain ⟨y, rfl, _⟩ := hc2
          have hq := Tryz.strconv_ParseInt_10_at64_range ⟨l.toArray⟩ hsz (by rw [str_data]; exact hn) (.iface tp y) w hc1 (.inr ⟨tp, y, rfl⟩)
          rw [str_data] at hq
          refine Does.of_calls he (hq.mono fun e w' hew => ?_)
          obtain ⟨N, rfl, _, _, hb⟩ := hew
          exact ⟨_, μ, rfl, ⟨_, rfl, .int .i64 _, _, rfl, rfl, _, [], rfl, ⟨_, rfl, trivial⟩, rfl⟩, Step.of_below hs hb⟩
        · cases h
      · rename_i hn
        split at h
        · rename_i ro t0 tp v0 rest hg
          cases h
          obtain ⟨c, hc1, hc2⟩ := hs.cell hg (hs.glob 6 (by omega))
          obtain ⟨y, rfl, _⟩ := hc2
          refine Does.of_calls he ((Tryz.strconv_ParseInt_10_at64_syntax ⟨l.toArray⟩ hsz (by rw [str_data]; exact hn) (.iface tp y) w hc1 (.inr ⟨tp, y, rfl⟩)).mono fun e w' hew => ?_)
          obtain ⟨N, rfl, _, _, hb⟩ := hew
          exact ⟨_, μ, rfl, ⟨_, rfl, .int .i64 0, _, rfl, rfl, _, [], rfl, ⟨_, rfl, trivial⟩, rfl⟩, Step.of_below hs hb⟩
        · cases h
    · cases h
  · cases h
theorem pTrim_ok (h : pTrim args σ = some (r, σ')) (hs : Sim 11 μ σ w) (hr : VRels μ w args cargs.toList) : Does Tryz.prog 82 cargs w (After 11 μ σ w r σ') := by
  unfold pTrim at h
  split at h
  · rename_i l cs
    split at h
    · rename_i hc
      cases h
      obtain ⟨v, u, rfl, h1, h2⟩ := vrels_two hr
      simp only [VRel] at h1 h2
      subst h1; subst h2
      have hq := Any.strings_Trim_laid Tryz.lays160 (by kernel_rfl) ⟨l.toArray⟩ ⟨cs.toArray⟩ w (by rw [str_size]; exact hc.1) (by rw [str_size]; exact hc.2.1) (by rw [str_data]; exact ascii_of_all hc.2.2)
      rw [str_data, str_data] at hq
      exact flat_below (enters_mk Tryz.func82 (by kernel_rfl) (by kernel_rfl)) hs (fun _ => rfl) hq
    · cases h
  · cases h
theorem pContains_ok (h : pContains args σ = some (r, σ')) (hs : Sim 11 μ σ w) (hr : VRels μ w args cargs.toList) : Does Tryz.prog 19 cargs w (After 11 μ σ w r σ') := by
  unfold pContains at h
  split at h
  · rename_i l c
    cases h
    obtain ⟨v, u, rfl, h1, h2⟩ := vrels_two hr
    simp only [VRel] at h1 h2
    subst h1; subst h2
    have hq := Tryz.strings_Contains_one ⟨l.toArray⟩ c w
    rw [str_data] at hq
    exact flat_done (enters_mk Tryz.func19 (by kernel_rfl) (by kernel_rfl)) hs rfl hq
  · cases h
theorem pHasPrefix_ok (h : pHasPrefix args σ = some (r, σ')) (hs : Sim 11 μ σ w) (hr : VRels μ w args cargs.toList) : Does Tryz.prog 51 cargs w (After 11 μ σ w r σ') := by
  unfold pHasPrefix at h
  split at h
  · rename_i l p
    cases h
    obtain ⟨v, u, rfl, h1, h2⟩ := vrels_two hr
    simp only [VRel] at h1 h2
    subst h1; subst h2
    have hq := Tryz.strings_HasPrefix ⟨l.toArray⟩ ⟨p.toArray⟩ w
    rw [str_data, str_data] at hq
    exact flat_done (enters_mk Tryz.func51 (by kernel_rfl) (by kernel_rfl)) hs rfl hq
  · cases h
theorem pTrimPrefix_ok (h : pTrimPrefix args σ = some (r, σ')) (hs : Sim 11 μ σ w) (hr : VRels μ w args cargs.toList) : Does Tryz.prog 101 cargs w (After 11 μ σ w r σ') := by
  unfold pTrimPrefix at h
  split at h
  · rename_i l p
    cases h
    obtain ⟨v, u, rfl, h1, h2⟩ := vrels_two hr
    simp only [VRel] at h1 h2
    subst h1; subst h2
    have hq := Tryz.strings_TrimPrefix ⟨l.toArray⟩ ⟨p.toArray⟩ w
    rw [str_data, str_data] at hq
    exact flat_done (enters_mk Tryz.func101 (by kernel_rfl) (by kernel_rfl)) hs rfl hq
  · cases h
theorem pCutSuffix_ok (h : pCutSuffix args σ = some (r, σ')) (hs : Sim 11 μ σ w) (hr : VRels μ w args cargs.toList) : Does Tryz.prog 44 cargs w (After 11 μ σ w r σ') := by
  unfold pCutSuffix at h
  split at h
  · rename_i l p
    split at h
    · rename_i hc
      cases h
      obtain ⟨v, u, rfl, h1, h2⟩ := vrels_two hr
      simp only [VRel] at h1 h2
      subst h1; subst h2
      have hq := Tryz.strings_CutSuffix ⟨l.toArray⟩ ⟨p.toArray⟩ w (by rw [str_size]; exact hc)
      rw [str_data, str_data] at hq
      exact flat_done (enters_mk Tryz.func44 (by kernel_rfl) (by kernel_rfl)) hs ⟨_, rfl, _, _, rfl, rfl, _, [], rfl, rfl, rfl⟩ hq
    · cases h
  · cases h
theorem pCut_ok (h : pCut args σ = some (r, σ')) (hs : Sim 11 μ σ w) (hr : VRels μ w args cargs.toList) : Does Tryz.prog 47 cargs w (After 11 μ σ w r σ') := by
  unfold pCut at h
  split at h
  · rename_i l p
    split at h
    · rename_i hc
      cases h
      obtain ⟨v, u, rfl, h1, h2⟩ := vrels_two hr
      simp only [VRel] at h1 h2
      subst h1; subst h2
      obtain ⟨m, hm⟩ := okMax_is hs hc.2
      have hq := Tryz.strings_Cut ⟨l.toArray⟩ ⟨p.toArray⟩ m w (by rw [str_size]; exact hc.1) hm
      rw [str_data, str_data] at hq
      exact flat_below (enters_mk Tryz.func47 (by kernel_rfl) (by kernel_rfl)) hs (fun _ => ⟨_, rfl, _, _, rfl, rfl, _, _, rfl, rfl, _, [], rfl, rfl, rfl⟩) (hq.mono fun e w' q => by
        obtain ⟨rfl, n, rfl⟩ := q; exact ⟨rfl, drewN_below n⟩)
    · cases h
  · cases h
theorem pReplaceAll_ok (h : pReplaceAll args σ = some (r, σ')) (hs : Sim 11 μ σ w) (hr : VRels μ w args cargs.toList) : Does Tryz.prog 20 cargs w (After 11 μ σ w r σ') := by
  unfold pReplaceAll at h
  split at h
  · rename_i l a b
    split at h
    · rename_i hc
      cases h
      obtain ⟨v, u, t, rfl, h1, h2, h3⟩ := vrels_three hr
      simp only [VRel] at h1 h2 h3
      subst h1; subst h2; subst h3
      obtain ⟨m, hm⟩ := okMax_is hs hc.2.2.2
      have hcb : Lib.countB ⟨l.toArray⟩ ⟨a.toArray⟩ = Lib.count l a := by unfold Lib.countB; rw [str_data, str_data]
      have hq := Tryz.strings_ReplaceAll ⟨l.toArray⟩ ⟨a.toArray⟩ ⟨b.toArray⟩ m w (by rw [str_size]; exact hc.1) hm (by rw [str_size]; exact hc.2.1) (by rw [str_size, str_size, hcb]; exact hc.2.2.1)
      rw [str_data, str_data, str_data] at hq
      exact flat_below (enters_mk Tryz.func20 (by kernel_rfl) (by kernel_rfl)) hs (fun _ => rfl) hq
    · cases h
  · cases h
theorem pRepeat_ok (h : pRepeat args σ = some (r, σ')) (hs : Sim 11 μ σ w) (hr : VRels μ w args cargs.toList) : Does Tryz.prog 21 cargs w (After 11 μ σ w r σ') := by
  unfold pRepeat at h
  split at h
  · rename_i l n
    split at h
    · rename_i hc
      cases h
      obtain ⟨v, u, rfl, h1, h2⟩ := vrels_two hr
      simp only [VRel] at h1 h2
      subst h1; subst h2
      obtain ⟨k, rfl⟩ : ∃ k : Nat, n = k := ⟨n.toNat, by omega⟩
      have hq := Tryz.strings_Repeat ⟨l.toArray⟩ k w (by omega) (by rw [str_size]; simpa using hc.2.2)
      rw [str_data] at hq
      exact flat_below (enters_mk Tryz.func21 (by kernel_rfl) (by kernel_rfl)) hs (fun _ => rfl) hq
    · cases h
  · cases h
theorem pSplit_ok (h : pSplit args σ = some (r, σ')) (hs : Sim 11 μ σ w) (hr : VRels μ w args cargs.toList) : Does Tryz.prog 46 cargs w (After 11 μ σ w r σ') := by
  unfold pSplit at h
  split at h
  · rename_i l p
    split at h
    · rename_i hc
      cases h
      obtain ⟨v, u, rfl, h1, h2⟩ := vrels_two hr
      simp only [VRel] at h1 h2
      subst h1; subst h2
      obtain ⟨m, hm⟩ := okMax_is hs hc.2.2
      have hcb : Lib.countB ⟨l.toArray⟩ ⟨p.toArray⟩ = Lib.count l p := by unfold Lib.countB; rw [str_data, str_data]
      have hq := Tryz.strings_Split ⟨l.toArray⟩ ⟨p.toArray⟩ m w (by rw [str_size]; exact hc.1) hm (by rw [str_size]; exact hc.2.1)
      have hd := Lib.splitB_data ⟨p.toArray⟩ 0 (Lib.count l p) ⟨l.toArray⟩
      rw [str_data, str_data] at hd
      have hlen : (Lib.split l p).length = Lib.count l p + 1 := split_length l p hc.2.1
      have hlb : (Lib.splitB ⟨p.toArray⟩ 0 (Lib.count l p) ⟨l.toArray⟩).length = Lib.count l p + 1 := by
        have := congrArg List.length hd
        rw [List.length_map] at this
        rw [this]; exact hlen
      rw [hcb] at hq
      refine Does.of_calls (enters_mk Tryz.func46 (by kernel_rfl) (by kernel_rfl)) (hq.mono fun e w' q => ?_)
      obtain ⟨rfl, rfl⟩ := q
      have hst := Step.fresh (w' := w.alloc (.cells ((Lib.splitB ⟨p.toArray⟩ 0 (Lib.count l p) ⟨l.toArray⟩).map Value.string).toArray 9)) (e := 9) (cs := (Lib.split l p).map AV.s) hs ((Below.refl _ w).alloc (Nat.le_refl _) _) (Nat.le_refl _) (by show (w.heap.push _)[w.heap.size]? = _; exact Array.getElem?_push_size) (by rw [List.size_toArray, List.length_map, List.length_map]; omega) (fun j c hj => by
        rw [List.getElem?_map, Option.map_eq_some_iff] at hj
        obtain ⟨x, hj, rfl⟩ := hj
        have hj' : ((Lib.splitB ⟨p.toArray⟩ 0 (Lib.count l p) ⟨l.toArray⟩).map (fun (x : ByteArray) => x.data.toList))[j]? = some x := by rw [hd]; exact hj
        rw [List.getElem?_map, Option.map_eq_some_iff] at hj'
        obtain ⟨y, hy, rfl⟩ := hj'
        exact ⟨.string y, by simp [hy], by simp [VRel]⟩)
      refine ⟨_, _, rfl, ⟨w.heap.size, 0, 0, Lib.count l p + 1, 9, Lib.count l p + 1, Mu.upd_self _ _ _ _, by rw [hlen], by omega, .inl rfl, ?_, by omega⟩, hst⟩
      have hh : (w.alloc (.cells ((Lib.splitB ⟨p.toArray⟩ 0 (Lib.count l p) ⟨l.toArray⟩).map Value.string).toArray 9)).heap[w.heap.size]? = some (.cells ((Lib.splitB ⟨p.toArray⟩ 0 (Lib.count l p) ⟨l.toArray⟩).map Value.string).toArray 9 (0, 0)) := by
        show (w.heap.push _)[w.heap.size]? = _; exact Array.getElem?_push_size
      unfold World.shape?
      rw [hh]
      simp [hlb]
    · cases h
  · cases h
theorem pred_blank (w : World) : PredAtRunes Tryz.prog 64 #[] (fun r => r == 32) w := by
  intro W x hx hb
  unfold FnGives
  go_enter Tryz.func64, Tryz.ntmps64
  go_wp2
  go_ret
  refine ⟨?_, 0, by simp [World.drewN_zero]⟩
  have h : ((x : Int) == 32) = (x == 32) := by
    rw [Bool.eq_iff_iff, beq_iff_eq, beq_iff_eq]; omega
  rw [h]; rfl
theorem pFieldsFunc_ok (h : pFieldsFunc args σ = some (r, σ')) (hs : Sim 11 μ σ w) (hr : VRels μ w args cargs.toList) : Does Tryz.prog 63 cargs w (After 11 μ σ w r σ') := by
  unfold pFieldsFunc at h
  split at h
  · rename_i l
    split at h
    · rename_i hc
      cases h
      obtain ⟨v, u, rfl, h1, h2⟩ := vrels_two hr
      simp only [VRel] at h1
      obtain ⟨a, c, rfl, ha, hcc⟩ := h2
      simp only [VRels] at ha hcc
      obtain rfl : a = #[] := Array.ext' (by simpa using ha)
      obtain rfl : c = #[] := Array.ext' (by simpa using hcc)
      subst h1
      have hq := Tryz.strings_FieldsFunc_runes 64 #[] (enters_mk Tryz.func64 (by kernel_rfl) (by kernel_rfl)) (fun r => r == 32) ⟨l.toArray⟩ w (by rw [str_size]; exact hc) (pred_blank w)
      have hd := fieldsP_eq ⟨l.toArray⟩
      rw [str_data] at hd
      have hlen : (Lib.goFieldsP (fun r => r == 32) ⟨l.toArray⟩).length = (wordsOf l).length := by
        have := congrArg List.length hd
        rw [List.length_map] at this
        exact this
      refine Does.of_calls (enters_mk Tryz.func63 (by kernel_rfl) (by kernel_rfl)) (hq.mono fun e w' q => ?_)
      obtain ⟨A, rfl, hA, ⟨o1, o2⟩, hb⟩ := q
      rcases o2 with ⟨h, _⟩ | ⟨g, cap, cur, h, _, p2, p3, p4, p5, p6⟩
      · cases h
      · injection h with h1 _ h3
        injection h1 with h1
        injection h1 with h1
        subst h1
        have hst := Step.fresh (e := 9) (cs := (wordsOf l).map AV.s) hs hb hA p2 (by rw [List.length_map]; omega) (fun j c hj => by
          rw [List.getElem?_map, Option.map_eq_some_iff] at hj
          obtain ⟨x, hj, rfl⟩ := hj
          have hj' : ((Lib.goFieldsP (fun r => r == 32) ⟨l.toArray⟩).map (fun (x : ByteArray) => x.data.toList))[j]? = some x := by rw [hd]; exact hj
          rw [List.getElem?_map, Option.map_eq_some_iff] at hj'
          obtain ⟨y, hy, rfl⟩ := hj'
          refine ⟨.string y, ?_, by simp [VRel]⟩
          have hjl := (List.getElem?_eq_some_iff.1 hy).1
          have e1 : (cur.toList.take ((Lib.goFieldsP (fun r => r == 32) ⟨l.toArray⟩).length * 1))[j]? = some (.string y) := by rw [p6, List.getElem?_map, hy]; rfl
          rw [List.getElem?_take, if_pos (by omega)] at e1
          simpa using e1)
        refine ⟨_, _, rfl, ⟨A, 0, 0, _, 9, cur.size, Mu.upd_self _ _ _ _, by rw [hlen], by omega, .inl rfl, ?_, by omega⟩, hst⟩
        simp [World.shape?, p2]
    · cases h
  · cases h

theorem pTypeOf_ok (h : pTypeOf args σ = some (r, σ')) (hs : Sim 11 μ σ w) (hr : VRels μ w args cargs.toList) : Does Tryz.prog 97 cargs w (After 11 μ σ w r σ') := by
  unfold pTypeOf at h
  split at h
  · cases h
    obtain ⟨v, rfl, y, rfl, hy⟩ := vrels_one hr
    have h10 := @run_callFunc_extern Tryz.prog 97 _ ReflectliteType.typeOf Tryz.func97 (by kernel_rfl) (by kernel_rfl) (by kernel_rfl) (by kernel_rfl)
    refine Does.of_value (by rw [h10, typeOf_errno]; rfl) ⟨_, μ, rfl, ⟨_, rfl, _, rfl, _, [], rfl, ⟨_, 0, hs.glob 10 (by omega), rfl⟩, rfl⟩, Step.refl hs⟩
  · cases h
theorem pComparable_ok (h : pComparable args σ = some (r, σ')) (hs : Sim 11 μ σ w) (hr : VRels μ w args cargs.toList) : Does Tryz.prog 182 cargs w (After 11 μ σ w r σ') := by
  unfold pComparable at h
  split at h
  · cases h
    obtain ⟨v, rfl, a, rfl, hy⟩ := vrels_one hr
    obtain ⟨u, rfl, hu⟩ := vrels_one hy
    obtain ⟨b, δ, hb, rfl⟩ := hu
    have hg := hs.glob 10 (by omega)
    rw [hg] at hb; cases hb
    have h10 := @run_callFunc_extern Tryz.prog 182 _ (ReflectliteType.method fun t => do Rtype.noPackHeld "Comparable" t; pure (.bool (← typeInfo t).comparable)) Tryz.func182 (by kernel_rfl) (by kernel_rfl) (by kernel_rfl) (by kernel_rfl)
    have hcmp := comparable_errno w
    refine Does.of_value (by rw [h10]; simp only [Nat.zero_add] at hcmp ⊢; rw [hcmp]; rfl) ⟨_, μ, rfl, rfl, Step.refl hs⟩
  · cases h

theorem pAs_ok (h : pAs args σ = some (r, σ')) (hs : Sim 11 μ σ w) (hr : VRels μ w args cargs.toList) : Does Tryz.prog 61 cargs w (After 11 μ σ w r σ') := by
  have hen := enters_mk Tryz.func61 (by kernel_rfl) (by kernel_rfl)
  unfold pAs at h
  split at h
  · cases h
    obtain ⟨v, u, rfl, h1, h2⟩ := vrels_two hr
    simp only [VRel] at h1
    subst h1
    refine Does.of_calls hen ((as_nil u w).mono fun e w' he => ?_)
    obtain ⟨rfl, rfl⟩ := he
    exact ⟨_, μ, rfl, rfl, Step.refl hs⟩
  · rename_i o g off o2 g2 off2
    obtain ⟨v, u, rfl, h1, h2⟩ := vrels_two hr
    obtain ⟨p1, rfl, h1⟩ := h1
    obtain ⟨p2, rfl, h2⟩ := h2
    obtain ⟨b, δ, hb, rfl⟩ := h1
    obtain ⟨b2, δ2, hb2, rfl⟩ := h2
    split at h
    · rename_i ro t0 rest hg
      obtain ⟨c, hc1, hc2⟩ := hs.cell hg (hs.glob 0 (by omega))
      obtain ⟨y, rfl, hc2⟩ := hc2
      obtain ⟨y2, rfl, hc2⟩ := hc2
      obtain ⟨u2, rfl, b3, δ3, hb3, rfl⟩ := vrels_one hc2
      rw [hs.glob 10 (by omega)] at hb3; cases hb3
      rw [Option.map_eq_some_iff] at h
      obtain ⟨σ1, hst, h⟩ := h; cases h
      unfold aStore at hst
      split at hst
      · rename_i T o3 g3 off3 hT hpe
        cases hpe
        split at hst
        · rename_i g' ro2 e2 cs ho
          split at hst
          · rename_i hcond
            obtain ⟨rfl, rfl, hl, hone, hle⟩ := hcond
            cases hst
            obtain ⟨ccs, fr, q1, q2, q3, q4⟩ := hs.cells ho hb2
            have hTs : T.size = 1 := by simpa [AV.cells] using hl.symm
            have hlt : δ2 + off2 < ccs.size := by omega
            have hcell : w.cell? ⟨b2, δ2 + off2, none⟩ = some ccs[δ2 + off2] := by rw [cell_of_heap q1, Array.getElem?_eq_getElem hlt]
            have hfz : w.frozen? ⟨b2, δ2 + off2, none⟩ = false := by
              have := q4 rfl (δ2 + off2) hlt
              simp only [World.frozen?, q1]
              simpa using this
            simp only [Nat.zero_add] at hc1
            refine Does.of_calls hen ((as_hit_below ⟨b, δ + off, none⟩ ⟨b2, δ2 + off2, none⟩ _ w hc1 hcell hfz).mono fun e w' he => ?_)
            obtain ⟨rfl, w1, hjunk, rfl⟩ := he
            have hst1 := Step.of_below hs hjunk
            have q1' : w1.heap[b2]? = some (.cells ccs e2 fr) := by rw [hjunk.block b2 (lt_of_heap q1)]; exact q1
            have hcell1 : w1.cell? ⟨b2, δ2 + off2, none⟩ = some ccs[δ2 + off2] := by rw [cell_of_heap q1', Array.getElem?_eq_getElem hlt]
            have hfz1 : w1.frozen? ⟨b2, δ2 + off2, none⟩ = false := by
              simp only [World.frozen?, q1'] 
              simp only [World.frozen?, q1] at hfz
              exact hfz
            obtain ⟨w2, k1, k2⟩ := Step.store (P := Tryz.prog) hst1.sim ho hb2 (ys := [.p o g off]) (vs := [.pointer (some ⟨b, δ + off, none⟩)]) (off := off2) ⟨_, _, rfl, ⟨b, δ, hb, rfl⟩, rfl⟩ (by simp [Value.oneCell']) (by simp; omega)
            have hw2 : w2 = w1.setCell ⟨b2, δ2 + off2, none⟩ (.pointer (some ⟨b, δ + off, none⟩)) := by
              have hrun : (storeCells ⟨b2, δ2 + off2, none⟩ [.pointer (some ⟨b, δ + off, none⟩)]).run Tryz.prog w1 = .ok () (w1.setCell ⟨b2, δ2 + off2, none⟩ (.pointer (some ⟨b, δ + off, none⟩))) := by
                simp only [storeCells, Addr.add]
                simp
                rw [run_store Tryz.prog w1 ⟨b2, δ2 + off2, none⟩ _ _ (by rfl)]
                simp [hcell1, hfz1]
              rw [hrun] at k1
              cases k1; rfl
            subst hw2
            exact ⟨_, μ, rfl, rfl, hst1.trans (by simpa [AV.cells] using k2)⟩
          · cases hst
        · cases hst
      · cases hst
    · cases h
  · cases h
end

theorem XB_sound : XB.Sound 11 where
  draws := draws_ok
  fns := fun f F _ h => fns_ok f F h
  ok := {
    prim := by
      intro f g hf args σ r σ' hg μ w cargs hs hr
      have hf' : prims f = some g := hf
      unfold prims at hf'
      split at hf'
      · cases hf'; exact pJoin_ok hg hs hr
      · cases hf'; exact pItoa_ok hg hs hr
      · cases hf'; exact pFormatInt_ok hg hs hr
      · cases hf'; exact pFormatUint_ok hg hs hr
      · cases hf'; exact pNumDigits_ok hg hs hr
      · cases hf'; exact pSmall_ok hg hs hr
      · cases hf'; exact pParseInt_ok hg hs hr
      · cases hf'; exact pTrim_ok hg hs hr
      · cases hf'; exact pContains_ok hg hs hr
      · cases hf'; exact pHasPrefix_ok hg hs hr
      · cases hf'; exact pTrimPrefix_ok hg hs hr
      · cases hf'; exact pCutSuffix_ok hg hs hr
      · cases hf'; exact pCut_ok hg hs hr
      · cases hf'; exact pSplit_ok hg hs hr
      · cases hf'; exact pFieldsFunc_ok hg hs hr
      · cases hf'; exact pReplaceAll_ok hg hs hr
      · cases hf'; exact pRepeat_ok hg hs hr
      · cases hf'; exact pAs_ok hg hs hr
      · cases hf'; exact pTypeOf_ok hg hs hr
      · cases hf'; exact pComparable_ok hg hs hr
      · cases hf'
    meth := by
      intro t m a k hk μ v w hv
      rw [depth_eq]
      have hk' : meths t m a = some k := hk
      unfold meths at hk'
      split at hk'
      · cases hk'
        obtain ⟨c, rfl, hc⟩ := hv
        obtain ⟨u, rfl, hu⟩ := vrels_one hc
        exact ⟨_, method_comparable u w, _, rfl, hc⟩
      · cases hk'
        obtain ⟨b, δ, hb, rfl⟩ := hv
        exact ⟨_, method_unwrap _ w, b, δ, hb, rfl⟩
      · cases hk' }
end Go.Abs.YtkfcbgmamfnajaaGreatDoor
