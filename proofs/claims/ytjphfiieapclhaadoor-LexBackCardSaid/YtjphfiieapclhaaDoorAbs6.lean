/- The layer Abs, part 6: operators, parts, slices, conversions. -/
import Derived.Test.YtjphfiieapclhaaDoorAbs5
namespace Go.Abs
section
variable {P : Program} {G : Nat} {μ : Mu} {σ : St} {w : World}

theorem list_beq (x y : List UInt8) : ((⟨x.toArray⟩ : ByteArray).toList == (⟨y.toArray⟩ : ByteArray).toList) = (x == y) := by
  have h : ∀ l : List UInt8, (⟨l.toArray⟩ : ByteArray).toList = l := fun l => by rw [ByteArray.toList_eq]
  rw [h, h]
theorem toList_mk (l : List UInt8) : (⟨l.toArray⟩ : ByteArray).toList = l := by rw [ByteArray.toList_eq]

theorem bits_rel {op : BinOp} {k : IntKind} {x y : Int} {a : AV} (h : aBits op k x y = some a) : ∃ v, (Op.intBits op k x y).run P w = .ok v w ∧ VRel μ w a v := by
  unfold aBits at h
  split at h <;> first | (cases h; done) | (cases h; exact ⟨_, by simp [Op.intBits], rfl⟩)

theorem bin_int {op : BinOp} {t : Nat} {k k' : IntKind} {x y : Int} {c : Bool} {a : AV} (h : aBin P op t (.i k x) (.i k' y) c = some a) :
    ∃ v, (binOp op t (.int k x) (.int k' y)).run P w = .ok v w ∧ VRel μ w a v := by
  cases op
  case shl | shr =>
    simp only [aBin, aShift] at h
    split at h
    · cases h
    · cases h
      rename_i hy
      exact ⟨_, by simp [binOp, Op.shift, hy], rfl⟩
  all_goals
    simp only [aBin] at h
    split at h
    · rename_i hk; subst hk
      simp only [aInt, aCmp] at h
      first
        | (obtain ⟨v, h1, h2⟩ := bits_rel (P := P) (μ := μ) (w := w) h; exact ⟨v, by simpa [binOp] using h1, h2⟩)
        | (cases h; exact ⟨_, by simp [binOp, Op.intArith, Op.intCmp], rfl⟩)
        | (split at h
           · cases h
           · cases h; rename_i hy; exact ⟨_, by simp [binOp, Op.intDiv, hy], rfl⟩)
    · cases h

theorem bin_str {op : BinOp} {t : Nat} {x y : List UInt8} {c : Bool} {a : AV} (h : aBin P op t (.s x) (.s y) c = some a) :
    ∃ v, (binOp op t (.string ⟨x.toArray⟩) (.string ⟨y.toArray⟩)).run P w = .ok v w ∧ VRel μ w a v := by
  have hb := list_beq x y
  have hx := toList_mk x
  have hy := toList_mk y
  cases op <;> simp only [aBin, aStr, ltBytes] at h
  case add =>
    split at h
    · cases h
      rename_i hl
      refine ⟨.string (⟨x.toArray⟩ ++ ⟨y.toArray⟩), ?_, ?_⟩
      · have hs : ((((⟨x.toArray⟩ : ByteArray).size + (⟨y.toArray⟩ : ByteArray).size : Nat) : Int) > IntKind.i64.max) = False := by
          have h1 : (⟨x.toArray⟩ : ByteArray).size = x.length := by simp [ByteArray.size]
          have h2 : (⟨y.toArray⟩ : ByteArray).size = y.length := by simp [ByteArray.size]
          have h3 : IntKind.i64.max = 9223372036854775807 := by decide
          rw [h1, h2, h3, eq_iff_iff, iff_false]
          omega
        simp only [binOp, Op.stringOp, hs, if_false]
        rfl
      · show Value.string _ = Value.string _
        congr 1
    · cases h
  all_goals (cases h; try exact ⟨_, by simp only [binOp, Op.stringOp, hx, hy]; rfl, rfl⟩)

theorem sameAddr_block {a b : Addr} (h : a.block = b.block) : (sameAddr a b).run P w = .ok (a == b) w := by
  simp [sameAddr, h]

theorem sameAddr_same (b o o2 : Nat) : (sameAddr ⟨b, o, none⟩ ⟨b, o2, none⟩).run P w = .ok (o == o2) w := by
  rw [sameAddr_block (by rfl)]
  congr 1
  rw [Bool.eq_iff_iff]
  simp

/-! ### Equality -/
theorem fs_rel (xs ys : List AV) (cxs cys : Array Value) (hx : VRels μ w xs cxs.toList) (hy : VRels μ w ys cys.toList) (d : Nat) (eq : Nat → AV → AV → Option Bool)
    (heq : ∀ t x y u v r, eq t x y = some r → VRel μ w x u → VRel μ w y v → (Op.equalIn d t u v).run P w = .ok r w) :
    ∀ (fs : List Field) (r : Bool), aEqFs P eq (fs.map fun f => (f.offset, f.type, f.name == "_")) xs ys = some r → (Op.eqFields d cxs cys fs).run P w = .ok r w
  | [], r, h => by
    simp only [List.map_nil, aEqFs, Option.some.injEq] at h
    subst h
    simp [Op.eqFields]
  | f :: fs, r, h => by
    simp only [List.map_cons, aEqFs] at h
    by_cases hn : f.name = "_"
    · simp only [hn, beq_self_eq_true, if_true] at h
      have ih := fs_rel xs ys cxs cys hx hy d eq heq fs r h
      simp [Op.eqFields, hn, ih]
    · have hb : (f.name == "_") = false := by simpa using hn
      simp only [hb, Bool.false_eq_true, if_false] at h
      split at h
      · cases h
      · rename_i F hF
        split at h
        · rename_i x y h1 h2
          obtain ⟨u, hu, ru⟩ := run_part hF hx h1
          obtain ⟨v, hv, rv⟩ := run_part hF hy h2
          cases he : eq f.type x y with
          | none => rw [he] at h; simp at h
          | some q =>
            have hq := heq _ _ _ _ _ _ he ru rv
            rw [he] at h
            cases q with
            | true =>
              have ih := fs_rel xs ys cxs cys hx hy d eq heq fs r (by simpa using h)
              simp [Op.eqFields, hn, hu, hv, hq, ih]
            | false =>
              simp at h; subst h
              simp [Op.eqFields, hn, hu, hv, hq]
        · cases h

theorem cells_pos {e : Nat} (h : 0 < P.cellsOf e) : ∃ j, P.info? e = some j ∧ j.size ≠ 0 := by
  unfold Program.cellsOf at h
  cases hi : P.info? e with
  | none => simp [hi] at h
  | some j => exact ⟨j, rfl, by simp [hi] at h; omega⟩
theorem bytes_beq (x y : List UInt8) : ((⟨x.toArray⟩ : ByteArray) == ⟨y.toArray⟩) = (x == y) := by
  rw [beq_toListBytes]; exact list_beq x y

set_option maxHeartbeats 4000000 in
theorem eq_rel : ∀ (d n t : Nat) (x y : AV) (u v : Value) (r : Bool), d ≤ n → aEq P d t x y = some r → VRel μ w x u → VRel μ w y v → (Op.equalIn n t u v).run P w = .ok r w
  | 0, _, _, _, _, _, _, _, _, h, _, _ => by simp [aEq] at h
  | d + 1, 0, _, _, _, _, _, _, hn, _, _, _ => by omega
  | d + 1, n + 1, t, x, y, u, v, r, hn, h, hx, hy => by
    simp only [aEq] at h
    split at h
    · cases h
    · rename_i T hT
      obtain ⟨i, D, z, h1, h2, h3, h4, h5, h6, h7, h8, h9, h10⟩ := ty_info hT
      split at h
      all_goals rename_i hd
      all_goals try rw [hd] at h4
      all_goals first | (cases h; done) | skip
      all_goals cases D <;> simp only [adOf, reduceCtorEq] at h4
      all_goals simp only [VRel] at hx hy
      all_goals try subst hx
      all_goals try subst hy
      case h_1 => cases h; simp [Op.equalIn, run_und h2]
      case h_2 =>
        split at h
        · rename_i hk; subst hk; cases h; simp [Op.equalIn, run_und h2]
        · cases h
      case h_3 =>
        cases h
        simp [Op.equalIn, run_und h2, bytes_beq]
      case h_4 => cases h; simp [Op.equalIn, run_und h2]
      case h_5 => obtain ⟨b, δ, _, rfl⟩ := hy; cases h; simp [Op.equalIn, run_und h2]
      case h_6 => obtain ⟨b, δ, _, rfl⟩ := hx; cases h; simp [Op.equalIn, run_und h2]
      case h_7 =>
        split at h
        · rename_i hc
          obtain ⟨rfl, rfl, hz⟩ := hc
          obtain ⟨b, δ, q1, rfl⟩ := hx
          obtain ⟨b', δ', q2, rfl⟩ := hy
          rw [q1] at q2; cases q2
          cases h4
          cases h
          obtain ⟨j, hi, hj⟩ := cells_pos hz
          simp only [Op.equalIn, Sem.run_bind, run_und h2, Result.andThen_ok, sizeOf, run_info hi, Sem.run_pure]
          rw [if_pos hj]
          rw [sameAddr_same]
          congr 1
          rw [Bool.eq_iff_iff]
          simp
        · cases h
      case h_8 => cases h; simp [Op.equalIn, run_und h2]
      case h_9 => obtain ⟨b, δ, off', c, e, m, _, rfl, _⟩ := hy; cases h; simp [Op.equalIn, run_und h2]
      case h_10 => obtain ⟨b, δ, off', c, e, m, _, rfl, _⟩ := hx; cases h; simp [Op.equalIn, run_und h2]
      case h_11 => cases h; simp [Op.equalIn, run_und h2]
      case h_12 => obtain ⟨a, c, rfl, _⟩ := hy; cases h; simp [Op.equalIn, run_und h2]
      case h_13 => obtain ⟨a, c, rfl, _⟩ := hx; cases h; simp [Op.equalIn, run_und h2]
      case h_14 => cases h; simp [Op.equalIn, run_und h2]
      case h_15 => obtain ⟨b, _, rfl⟩ := hy; cases h; simp [Op.equalIn, run_und h2]
      case h_16 => obtain ⟨b, _, rfl⟩ := hx; cases h; simp [Op.equalIn, run_und h2]
      case h_17 => cases h; simp [Op.equalIn, run_und h2]
      case h_18 => obtain ⟨y, rfl, _⟩ := hy; cases h; simp [Op.equalIn, run_und h2]
      case h_19 => obtain ⟨y, rfl, _⟩ := hx; cases h; simp [Op.equalIn, run_und h2]
      case h_20 =>
        obtain ⟨a, rfl, ra⟩ := hx
        obtain ⟨b, rfl, rb⟩ := hy
        split at h
        · rename_i ht; subst ht
          split at h
          · rename_i hc
            rw [Option.any_eq_true] at hc
            obtain ⟨T', hT', hcmp⟩ := hc
            obtain ⟨i', D', z', k1, k2, k3, k4, k5, k6, k7, k8, k9, k10⟩ := ty_info hT'
            have ih := eq_rel d n _ _ _ a b r (by omega) h ra rb
            simp [Op.equalIn, run_und h2, run_info k1, k8, hcmp, ih]
          · cases h
        · rename_i ht
          cases h
          simp [Op.equalIn, run_und h2, ht]
      case h_21 =>
        obtain ⟨a, rfl, ra⟩ := hx
        obtain ⟨b, rfl, rb⟩ := hy
        split at h
        · cases h
        · rename_i hh
          cases h4
          have hfs : P.underlying t = some (.struct (P.fieldsOf t)) := by unfold Program.fieldsOf; rw [h2]
          rw [run_equalIn_struct w n t a b hfs (by rw [h9]; simpa using hh)]
          refine fs_rel _ _ a b ra rb n (aEq P d) (fun t x y u v r hq hu hv => eq_rel d n t x y u v r (by omega) hq hu hv) _ r ?_
          have : P.fieldsOf t = ‹Array Field› := by unfold Program.fieldsOf; rw [h2]
          rw [this]
          exact h
end
end Go.Abs
