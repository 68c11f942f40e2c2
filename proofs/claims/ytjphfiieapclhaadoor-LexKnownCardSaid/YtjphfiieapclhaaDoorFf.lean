/- The functions known by contract, for the second evaluator. -/
import Derived.Test.YtjphfiieapclhaaDoorCx
import Derived.Test.YtjphfiieapclhaaDoorAbs32
namespace Go.Abs.YtjphfiieapclhaaDoor
open Go.Proofs

noncomputable def qIndexByte (args : List AV) (s : FS) (K : KR) : Bool := match args with
  | [.s l, .i .u8 c] => outV (some (.i .i64 (Lib.indexByte l c.toNat.toUInt8))) s K
  | _ => false
/-- The first cell of a package-level variable. -/
noncomputable def qCell (s : FS) (g : Nat) : Option AV := match s.t.get g with
  | some ⟨0, _, .cells _ a⟩ => bC (Nat.blt (nat_lit 0) a.n) (some (a.get (nat_lit 0))) none
  | _ => none
noncomputable def qParseUint (args : List AV) (s : FS) (K : KR) : Bool := match args with
  | [.s l, .i .i64 10, .i .i64 32] => bC (Nat.ble l.length 281474976710656) (match Lib.parseUintB 32 l with
    | .ok u => outV (some (.tu [.i .u64 u, .ic0])) s K
    | .range => (match qCell s 5 with
      | some (.ic _ _) => outV (some (.tu [.i .u64 4294967295, .ic 109 .u])) s K
      | _ => false)
    | _ => false) false
  | _ => false
noncomputable def qAs (args : List AV) (s : FS) (K : KR) : Bool := match args with
  | [.ic0, _] => K (.b false) s
  | [.ic 36 (.p o g off), .ic 38 (.p o2 g2 off2)] => (match qCell s 0 with
    | some (.ic 84 (.ag [.p 10 0 26])) => fStore (tyOf Tryd.prog 36) (.p o2 g2 off2) (.p o g off) s fun _ s' => K (.b true) s'
    | _ => false)
  | _ => false
noncomputable def qTypeOf (args : List AV) (s : FS) (K : KR) : Bool := match args with
  | [.ic 39 _] => K (.ic 84 (.ag [.p 10 0 39])) s
  | _ => false
noncomputable def qComparable (args : List AV) (s : FS) (K : KR) : Bool := match args with
  | [.ag [.p 10 0 39]] => K (.b true) s
  | _ => false
noncomputable def fprims : Prims
  | 19 => some qIndexByte
  | 23 => some qParseUint
  | 12 => some qAs
  | 40 => some qTypeOf
  | 102 => some qComparable
  | _ => none
section
variable {s : FS} {σ : St} {K : KR}
theorem qCell_ok (h : s.Is σ) {g : Nat} {v : AV} (hk : qCell s g = some v) : ∃ ro e rest, σ[g]? = some ⟨0, ro, .cells e (v :: rest)⟩ := by
  unfold qCell at hk
  split at hk
  · rename_i ro e a ho
    obtain ⟨k1, k2⟩ := bC_some hk
    have k1 : 0 < a.n := Nat.le_of_ble_eq_true k1
    obtain ⟨cs, q1, q2⟩ := FS.cells_at h ho
    have q3 := q2.2 0 k1
    cases cs with
    | nil => simp at q3
    | cons c rest =>
      cases k2
      have q4 : c = a.get (nat_lit 0) := Option.some.inj q3
      rw [← q4]
      exact ⟨ro, e, rest, q1⟩
  · cases hk
theorem fprims_ok : fprims.Ok XB := by
  intro f g hf
  unfold fprims at hf
  split at hf
  · cases hf
    refine ⟨pIndexByte, rfl, fun args s σ K h hk => ?_⟩
    unfold qIndexByte at hk
    unfold pIndexByte
    split at hk
    · obtain ⟨v, h1, h2⟩ := outV_ok hk; cases h1
      exact ⟨_, _, s, rfl, h, h2⟩
    · cases hk
  · cases hf
    refine ⟨pParseUint, rfl, fun args s σ K h hk => ?_⟩
    unfold qParseUint at hk
    unfold pParseUint
    split at hk
    · obtain ⟨k1, hk⟩ := bC_and hk
      simp only
      rw [if_pos (Nat.le_of_ble_eq_true k1)]
      split at hk
      · rename_i u hu
        simp only [hu]
        obtain ⟨v, h1, h2⟩ := outV_ok hk; cases h1
        exact ⟨_, _, s, rfl, h, h2⟩
      · rename_i hu
        simp only [hu]
        split at hk
        · rename_i t v hv
          obtain ⟨ro, e, rest, q⟩ := qCell_ok h hv
          obtain ⟨v, h1, h2⟩ := outV_ok hk; cases h1
          refine ⟨_, _, s, ?_, h, h2⟩
          rw [q]; rfl
        · cases hk
      · cases hk
    · cases hk
  · cases hf
    refine ⟨pAs, rfl, fun args s σ K h hk => ?_⟩
    unfold qAs at hk
    unfold pAs
    split at hk
    · exact ⟨_, _, s, rfl, h, hk⟩
    · split at hk
      · rename_i hv
        obtain ⟨ro, e, rest, q⟩ := qCell_ok h hv
        obtain ⟨v, σ', s', h1, h2, h3⟩ := fStore_ok h hk
        rw [Option.map_eq_some_iff] at h1
        obtain ⟨σ1, h1, h4⟩ := h1
        cases h4
        refine ⟨_, _, s', ?_, h2, h3⟩
        show (match (σ[0]? : Option AO) with
          | some ⟨0, _, .cells _ (.ic 84 (.ag [.p 10 0 26]) :: _)⟩ => (aStore (tyOf Tryd.prog 36) _ _ σ).map (AV.b true, ·)
          | _ => none) = _
        rw [q]
        show Option.map _ (aStore _ _ _ σ) = _
        rw [h1]; rfl
      · cases hk
    · cases hk
  · cases hf
    refine ⟨pTypeOf, rfl, fun args s σ K h hk => ?_⟩
    unfold qTypeOf at hk
    unfold pTypeOf
    split at hk
    · exact ⟨_, _, s, rfl, h, hk⟩
    · cases hk
  · cases hf
    refine ⟨pComparable, rfl, fun args s σ K h hk => ?_⟩
    unfold qComparable at hk
    unfold pComparable
    split at hk
    · exact ⟨_, _, s, rfl, h, hk⟩
    · cases hk
  · cases hf
end
end Go.Abs.YtjphfiieapclhaaDoor
