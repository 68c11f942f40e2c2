/- The layer Abs, part 8: operations that leave memory as it is: parts, slices, conversions. -/
import Derived.Test.YtjphfiieapclhaaDoorAbs7
namespace Go.Abs
section
variable {P : Program} {G : Nat} {μ : Mu} {σ : St} {w : World}

theorem un_rel {op : UnOp} {x a : AV} {u : Value} (h : aUn op x = some a) (hx : VRel μ w x u) : Gives P μ w (Op.unary op u) a := by
  unfold aUn at h
  split at h
  · cases h; simp only [VRel] at hx; subst hx; exact ⟨_, by simp [Op.unary, Op.intArith], rfl⟩
  · simp only [VRel] at hx; subst hx
    obtain ⟨v, h1, h2⟩ := bits_rel (P := P) (μ := μ) (w := w) h
    exact ⟨v, by simpa [Op.unary] using h1, h2⟩
  · cases h; simp only [VRel] at hx; subst hx; exact ⟨_, by simp [Op.unary], rfl⟩
  · cases h

theorem und_slice {t e : Nat} {T : AT} (h : tyOf P t = some T) (hd : T.d = .slice e) : P.underlying t = some (.slice e) := by
  obtain ⟨i, d, z, h1, h2, h3, h4, _⟩ := ty_info h
  rw [hd] at h4
  cases d <;> simp only [adOf, reduceCtorEq, AD.slice.injEq] at h4
  rw [h2, h4]
theorem und_str {t : Nat} {T : AT} (h : tyOf P t = some T) (hd : T.d = .str) : P.underlying t = some .string := by
  obtain ⟨i, d, z, h1, h2, h3, h4, _⟩ := ty_info h
  rw [hd] at h4
  cases d <;> simp only [adOf, reduceCtorEq] at h4
  rw [h2]
theorem und_int {t : Nat} {k : IntKind} {T : AT} (h : tyOf P t = some T) (hd : T.d = .int k) : P.underlying t = some (.int k) := by
  obtain ⟨i, d, z, h1, h2, h3, h4, _⟩ := ty_info h
  rw [hd] at h4
  cases d <;> simp only [adOf, reduceCtorEq, AD.int.injEq] at h4
  rw [h2, h4]
theorem und_arr {t n e : Nat} {T : AT} (h : tyOf P t = some T) (hd : T.d = .arr n e) : P.underlying t = some (.array n e) := by
  obtain ⟨i, d, z, h1, h2, h3, h4, _⟩ := ty_info h
  rw [hd] at h4
  cases d <;> simp only [adOf, reduceCtorEq, AD.arr.injEq] at h4
  rw [h2, h4.1, h4.2]
theorem und_st {t : Nat} {fs : List (Nat × Nat × Bool)} {T : AT} (h : tyOf P t = some T) (hd : T.d = .st fs) : ∃ Fs : Array Field, P.underlying t = some (.struct Fs) ∧ fs = Fs.toList.map fun f => (f.offset, f.type, f.name == "_") := by
  obtain ⟨i, d, z, h1, h2, h3, h4, _⟩ := ty_info h
  rw [hd] at h4
  cases d <;> simp only [adOf, reduceCtorEq, AD.st.injEq] at h4
  exact ⟨_, h2, h4.symm⟩

theorem len_rel {t ty : Nat} {x a : AV} {u : Value} (h : aLen P t x = some a) (hx : VRel μ w x u) : Gives P μ w (Builtin.len_ #[t] ty #[u]) a := by
  unfold aLen at h
  split at h
  · cases h; simp only [VRel] at hx; subst hx
    exact ⟨.int .i64 _, by simp [Builtin.len_, run_und (und_str ‹_› rfl), goInt]; rfl, by simp [VRel, ByteArray.size]⟩
  · cases h; exact ⟨_, by simp [Builtin.len_, run_und (und_arr ‹_› rfl), goInt], rfl⟩
  · cases h; simp only [VRel] at hx; subst hx
    exact ⟨_, by simp [Builtin.len_, run_und (und_slice ‹_› rfl), goInt], rfl⟩
  · cases h; obtain ⟨b, δ, off', c, e, m, _, rfl, _⟩ := hx
    exact ⟨_, by simp [Builtin.len_, run_und (und_slice ‹_› rfl), goInt], rfl⟩
  · cases h

theorem size_mk (l : List UInt8) : (⟨l.toArray⟩ : ByteArray).size = l.length := by simp [ByteArray.size]

theorem idx_rel {t : Nat} {x i a : AV} {u v : Value} (h : aIdx P t x i = some a) (hx : VRel μ w x u) (hi : VRel μ w i v) : Gives P μ w (Instr.index t u v) a := by
  unfold aIdx at h
  split at h
  · rename_i n e _ _ _ _ _ _ cs k j hT
    simp only [VRel] at hi; subst hi
    obtain ⟨cs, rfl, hr⟩ := hx
    split at h
    · rename_i hj
      rw [Option.bind_eq_some_iff] at h
      obtain ⟨E, hE, hp⟩ := h
      obtain ⟨r, q1, q2⟩ := run_part hE hr hp
      exact ⟨r, by simp [Instr.index, asIntOf, run_und (und_arr hT rfl), hj, run_size hE, q1], q2⟩
    · cases h
  · rename_i x k j hT
    simp only [VRel] at hx hi; subst hx; subst hi
    split at h
    · rename_i hj
      rw [Option.map_eq_some_iff] at h
      obtain ⟨b, hb, rfl⟩ := h
      refine ⟨.int .u8 b.toNat, ?_, rfl⟩
      have : (⟨x.toArray⟩ : ByteArray)[j.toNat]? = some b := by
        have hlt : j.toNat < x.length := lt_of_get hb
        have hlt' : j.toNat < (⟨x.toArray⟩ : ByteArray).size := by rw [size_mk]; exact hlt
        rw [getElem?_pos (⟨x.toArray⟩ : ByteArray) j.toNat hlt']
        rw [List.getElem?_eq_getElem hlt] at hb
        cases hb
        rfl
      simp [Instr.index, asIntOf, run_und (und_str hT rfl), hj, this]
    · cases h
  · cases h

theorem fad_rel {t : Nat} {x a : AV} {u : Value} {f : Nat} (h : aFad P t x f = some a) (hx : VRel μ w x u) : Gives P μ w (Instr.fieldAt t u f) a := by
  unfold aFad at h
  split at h
  · rename_i hT
    obtain ⟨Fs, h2, h4⟩ := und_st hT rfl
    rw [Option.bind_eq_some_iff] at h
    obtain ⟨r, hr, h⟩ := h
    rw [h4, List.getElem?_map, Option.map_eq_some_iff] at hr
    obtain ⟨F, hF, rfl⟩ := hr
    split at h
    · rename_i hz
      cases h
      obtain ⟨b, δ, hb, rfl⟩ := hx
      obtain ⟨j, hi, hj⟩ := cells_pos hz
      refine ⟨_, ?_, b, δ, hb, rfl⟩
      have hF' : Fs[f]? = some F := by simpa using hF
      simp [Instr.fieldAt, run_und h2, hF', Instr.sureAddr, fieldPlace, sizeOf, run_info hi, hj, Addr.add_none, Nat.add_assoc]
    · cases h
  · cases h

theorem fld_rel {t : Nat} {x a : AV} {u : Value} {f : Nat} (h : aFld P t x f = some a) (hx : VRel μ w x u) : Gives P μ w (Instr.field t u f) a := by
  unfold aFld at h
  split at h
  · rename_i hT
    obtain ⟨Fs, h2, h4⟩ := und_st hT rfl
    rw [Option.bind_eq_some_iff] at h
    obtain ⟨r, hr, h⟩ := h
    rw [h4, List.getElem?_map, Option.map_eq_some_iff] at hr
    obtain ⟨F, hF, rfl⟩ := hr
    rw [Option.bind_eq_some_iff] at h
    obtain ⟨T', hT', hp⟩ := h
    obtain ⟨cs, rfl, hr⟩ := hx
    obtain ⟨v, q1, q2⟩ := run_part hT' hr hp
    have hF' : Fs[f]? = some F := by simpa using hF
    exact ⟨v, by simp [Instr.field, run_und h2, hF', asAgg, q1], q2⟩
  · cases h

theorem ty_size_some {e z : Nat} (h : P.cellsOf e = z) (hz : 0 < z) : (sizeOf e).run P w = .ok z w := by
  obtain ⟨j, hi, hj⟩ := cells_pos (P := P) (e := e) (by omega)
  have : j.size = z := by rw [← h]; simp [Program.cellsOf, hi]
  simp [sizeOf, run_info hi, this]

theorem iad_rel {t : Nat} {x i a : AV} {u v : Value} (h : aIad P t x i = some a) (hx : VRel μ w x u) (hi : VRel μ w i v) : Gives P μ w (Instr.indexAt t u v) a := by
  unfold aIad at h
  split at h
  · rename_i n e _ _ _ _ _ _ o g off k j hT
    simp only [VRel] at hi; subst hi
    obtain ⟨b, δ, hb, rfl⟩ := hx
    split at h
    · rename_i hj
      cases h
      obtain ⟨hz, hj⟩ := hj
      have hs := ty_size_some (w := w) (P := P) (e := e) rfl hz
      refine ⟨_, ?_, b, δ, hb, rfl⟩
      simp [Instr.indexAt, asIntOf, run_und (und_arr hT rfl), Instr.sureAddr, hj, hs, Addr.add_none, Nat.add_assoc]
    · cases h
  · rename_i e _ _ _ _ _ _ o g off n z k j hT
    simp only [VRel] at hi; subst hi
    obtain ⟨b, δ, off', c, e', m, hb, rfl, hn, ho, _⟩ := hx
    split at h
    · rename_i hj
      cases h
      obtain ⟨hz, hz0, hj1, hj2⟩ := hj
      have hs := ty_size_some (w := w) (P := P) (e := e) hz hz0
      have ho' : off' = δ + off := by
        rcases ho with ho | ⟨h0, _⟩
        · exact ho
        · omega
      subst ho'
      refine ⟨_, ?_, b, δ, hb, rfl⟩
      have hu := und_slice hT rfl
      simp [Instr.indexAt, asIntOf, run_und hu, hj1, hj2, hs, Addr.add_none, Nat.add_assoc]
    · cases h
  · cases h

def nilOk : Value → Bool
  | .pointer none | .nilIface | .nilFunc => false
  | .func (.method _) _ _ => false
  | _ => true
theorem nil_rel {x a : AV} {u : Value} (h : aNil x = some a) (hx : VRel μ w x u) : VRel μ w a u ∧ nilOk u = true := by
  unfold aNil at h
  split at h
  · cases h; refine ⟨hx, ?_⟩; obtain ⟨b, δ, _, rfl⟩ := hx; rfl
  · cases h; refine ⟨hx, ?_⟩; obtain ⟨a, c, rfl, _⟩ := hx; rfl
  · cases h; refine ⟨hx, ?_⟩; obtain ⟨y, rfl, _⟩ := hx; rfl
  · cases h
def OptRel (μ : Mu) (w : World) : Option AV → Option Value → Prop
  | none, none => True
  | some a, some v => VRel μ w a v
  | _, _ => False
theorem bounds_rel {isS : Bool} {n m : Nat} {lo hi : Option AV} {clo chi : Option Value} {l h : Nat} {C : Nat} (hb : aBounds n m lo hi = some (l, h)) (hC : m ≤ C)
    (hlo : OptRel μ w lo clo) (hhi : OptRel μ w hi chi) :
    (Instr.sliceBounds isS n C clo chi none).run P w = .ok (l, h, C) w ∧ l ≤ h ∧ (h ≤ m ∨ h = n) := by
  unfold aBounds at hb
  rw [Option.bind_eq_some_iff] at hb
  obtain ⟨h', hh', hb⟩ := hb
  have hH : (∃ v, chi = some v ∧ ∀ code, (Instr.sliceBound v C code).run P w = .ok h' w ∧ h' ≤ m) ∨ (chi = none ∧ h' = n) := by
    cases hi with
    | none =>
      cases chi with
      | none => simp [aHi] at hh'; exact .inr ⟨rfl, hh'.symm⟩
      | some v => exact hhi.elim
    | some a =>
      cases chi with
      | none => exact hhi.elim
      | some v =>
        refine .inl ⟨v, rfl, fun code => ?_⟩
        cases a <;> simp only [aHi, reduceCtorEq] at hh'
        rename_i k j
        simp only [OptRel, VRel] at hhi; subst hhi
        split at hh'
        · rename_i hj
          cases hh'
          have hj' : 0 ≤ j ∧ j ≤ (C : Int) := by omega
          exact ⟨by simp [Instr.sliceBound, asIntOf, hj'], by omega⟩
        · cases hh'
  have hL : ((∃ v, clo = some v ∧ ∀ code, (Instr.sliceBound v h' code).run P w = .ok l w) ∨ (clo = none ∧ l = 0)) ∧ l ≤ h' ∧ h = h' := by
    cases lo with
    | none =>
      cases clo with
      | none => simp [aLo] at hb; exact ⟨.inr ⟨rfl, hb.1.symm⟩, by omega, hb.2.symm⟩
      | some v => exact hlo.elim
    | some a =>
      cases clo with
      | none => exact hlo.elim
      | some v =>
        cases a <;> simp only [aLo, reduceCtorEq] at hb
        rename_i k j
        simp only [OptRel, VRel] at hlo; subst hlo
        split at hb
        · rename_i hj
          simp only [Option.some.injEq, Prod.mk.injEq] at hb
          obtain ⟨rfl, rfl⟩ := hb
          exact ⟨.inl ⟨_, rfl, fun code => by simp [Instr.sliceBound, asIntOf, hj]⟩, by omega, rfl⟩
        · cases hb
  obtain ⟨hL1, hL2, rfl⟩ := hL
  refine ⟨?_, hL2, ?_⟩
  · unfold Instr.sliceBounds
    rcases hH with ⟨v, rfl, hv⟩ | ⟨rfl, rfl⟩
    · have hv' := fun c => (hv c).1
      rcases hL1 with ⟨u, rfl, hu⟩ | ⟨rfl, rfl⟩
      · simp [hv', hu]
      · simp [hv']
    · rcases hL1 with ⟨u, rfl, hu⟩ | ⟨rfl, rfl⟩
      · simp [hu]
      · simp
  · rcases hH with ⟨v, rfl, hv⟩ | ⟨rfl, rfl⟩
    · exact .inl (hv .sliceB).2
    · exact .inr rfl

theorem str_extract (x : List UInt8) (l h : Nat) : (⟨x.toArray⟩ : ByteArray).extract l h = ⟨((x.drop l).take (h - l)).toArray⟩ := by
  apply ByteArray.ext
  simp

theorem sl3_rel {t : Nat} {x a hi mx : AV} {lo : Option AV} {u ch cm : Value} {clo : Option Value} (hs : Sim G μ σ w) (h : aSl3 P t x lo hi mx = some a) (hx : VRel μ w x u) (hlo : OptRel μ w lo clo) (hhi : VRel μ w hi ch) (hmx : VRel μ w mx cm) :
    Gives P μ w (Instr.sliceAt t u clo (some ch) (some cm)) a := by
  unfold aSl3 at h
  split at h
  · rename_i e _ _ _ _ _ _ o g off n z kh hh km mm ll hT hl
    split at h
    · rename_i hc
      obtain ⟨hz1, hz0, hc1, hc2, hc3, hc4⟩ := hc
      cases h
      have hu := und_slice hT rfl
      obtain ⟨b, δ, off', c, e', m, hb0, rfl, hn, ho, hsh, hm⟩ := hx
      simp only [VRel] at hhi hmx
      subst hhi; subst hmx
      have hsz := ty_size_some (w := w) (P := P) (e := e) hz1 hz0
      obtain ⟨l, rfl⟩ := Int.eq_ofNat_of_zero_le hc1
      obtain ⟨h, rfl⟩ := Int.eq_ofNat_of_zero_le (a := hh) (by omega)
      obtain ⟨m', rfl⟩ := Int.eq_ofNat_of_zero_le (a := mm) (by omega)
      have hmc : m' ≤ c := by omega
      have hlm : l ≤ m' := by omega
      have hlow : ∀ code, (match clo with
          | some v => Instr.sliceBound v h code
          | none => pure 0 : Sem Nat).run P w = .ok l w := by
        intro code
        cases lo with
        | none =>
          cases clo with
          | none =>
            simp only [lowOf, Option.some.injEq] at hl
            have : l = 0 := by omega
            subst this
            simp
          | some v => exact hlo.elim
        | some y =>
          cases clo with
          | none => exact hlo.elim
          | some v =>
            cases y <;> simp only [lowOf, Option.some.injEq, reduceCtorEq] at hl
            simp only [OptRel, VRel] at hlo
            subst hlo
            subst hl
            have : (l : Int) ≤ (h : Int) := hc2
            simp [Instr.sliceBound, asIntOf, this]
      have hb : (Instr.sliceBounds true n c clo (some (.int kh (h : Int))) (some (.int km (m' : Int)))).run P w = .ok (l, h, m') w := by
        unfold Instr.sliceBounds
        have h1 : ∀ code, (Instr.sliceBound (.int km (m' : Int)) c code).run P w = .ok m' w := fun code => by
          have : (m' : Int) ≤ (c : Int) := by omega
          simp [Instr.sliceBound, asIntOf, this]
        have h2 : ∀ code, (Instr.sliceBound (.int kh (h : Int)) m' code).run P w = .ok h w := fun code => by
          have : (h : Int) ≤ (m' : Int) := hc3
          simp [Instr.sliceBound, asIntOf, this]
        cases clo with
        | none =>
          have h3 := hlow .slice3C
          simp only [Sem.run_pure, Result.ok.injEq, and_true] at h3
          simp [h1, h2, ← h3]
        | some v =>
          have h3 : ∀ code, (Instr.sliceBound v h code).run P w = .ok l w := hlow
          simp [h1, h2, h3]
      refine ⟨.slice (some ⟨b, (if m' = l then off' else off' + l * z), none⟩) (h - l) (m' - l), ?_, b, δ, _, m' - l, e', m, hb0, rfl, by omega, ?_, hsh, ?_⟩
      · simp only [Instr.sliceAt, Sem.run_bind, run_und hu, Result.andThen_ok, Instr.slice, hb, hsz, Sem.run_pure, Option.map_some, Addr.add_none]
        by_cases hcl : m' = l <;> simp [hcl]
      · by_cases hcl : m' = l
        · right; simp only [Int.toNat_natCast] at *; omega
        · rw [if_neg hcl]
          rcases ho with ho | ho
          · left; rw [ho]; show δ + off + l * z = δ + (off + (Int.ofNat l).toNat * z); simp; omega
          · omega
      · by_cases hcl : m' = l
        · rw [if_pos hcl, hcl, Nat.sub_self, Nat.zero_mul]
          have : 0 ≤ c * z := Nat.zero_le _
          omega
        · rw [if_neg hcl]
          have h1 : l * z + (m' - l) * z = m' * z := by rw [← Nat.add_mul]; congr 1; omega
          have h2 : m' * z ≤ c * z := Nat.mul_le_mul_right _ hmc
          omega
    · cases h
  · cases h
theorem slc_rel {t : Nat} {x a : AV} {lo hi : Option AV} {u : Value} {clo chi : Option Value} (hs : Sim G μ σ w) (h : aSlc P t x lo hi σ = some a) (hx : VRel μ w x u) (hlo : OptRel μ w lo clo) (hhi : OptRel μ w hi chi) :
    Gives P μ w (Instr.sliceAt t u clo chi none) a := by
  unfold aSlc at h
  split at h
  · cases h
  · rename_i T hT
    split at h
    · rename_i x hd
      have hu := und_str hT hd
      simp only [VRel] at hx; subst hx
      rw [Option.map_eq_some_iff] at h
      obtain ⟨⟨l, h'⟩, hb, rfl⟩ := h
      obtain ⟨h1, h2, h3⟩ := bounds_rel (P := P) (isS := false) (C := x.length) hb (Nat.le_refl _) hlo hhi
      have hsz := size_mk x
      exact ⟨.string ⟨((x.drop l).take (h' - l)).toArray⟩, by simp only [Instr.sliceAt, Sem.run_bind, run_und hu, Result.andThen_ok, Instr.slice, hsz, Option.isSome_none, Bool.false_eq_true, if_false, Sem.run_pure, h1, str_extract], rfl⟩
    · rename_i e hd
      have hu := und_slice hT hd
      simp only [VRel] at hx; subst hx
      split at h
      · rename_i hz
        rw [Option.map_eq_some_iff] at h
        obtain ⟨⟨l, h'⟩, hb, rfl⟩ := h
        obtain ⟨h1, h2, h3⟩ := bounds_rel (P := P) (isS := true) (C := 0) hb (Nat.le_refl _) hlo hhi
        have h0 : h' = 0 := by omega
        have l0 : l = 0 := by omega
        subst h0; subst l0
        have hsz := ty_size_some (w := w) (P := P) (e := e) rfl hz
        exact ⟨_, by simp only [Instr.sliceAt, Sem.run_bind, run_und hu, Result.andThen_ok, Instr.slice, h1, hsz, Sem.run_pure]; rfl, rfl⟩
      · cases h
    · rename_i e o g off n z hd
      have hu := und_slice hT hd
      obtain ⟨b, δ, off', c, e', m, hb0, rfl, hn, ho, hsh, hm⟩ := hx
      split at h
      · rename_i hz
        rw [Option.map_eq_some_iff] at h
        obtain ⟨⟨l, h'⟩, hb, rfl⟩ := h
        obtain ⟨h1, h2, h3⟩ := bounds_rel (P := P) (isS := true) (C := c) hb hn hlo hhi
        have hsz := ty_size_some (w := w) (P := P) (e := e) hz.1 hz.2
        have hh : h' ≤ n := by omega
        refine ⟨.slice (some ⟨b, (if c = l then off' else off' + l * z), none⟩) (h' - l) (c - l), ?_, b, δ, _, c - l, e', m, hb0, rfl, by omega, ?_, hsh, ?_⟩
        · simp only [Instr.sliceAt, Sem.run_bind, run_und hu, Result.andThen_ok, Instr.slice, h1, hsz, Sem.run_pure, Option.map_some, Addr.add_none]
          by_cases hc : c = l <;> simp [hc]
        · by_cases hc : c = l
          · right; omega
          · rw [if_neg hc]
            rcases ho with ho | ho
            · left; rw [ho]; show δ + off + l * z = δ + (off + l * z); omega
            · omega
        · by_cases hc : c = l
          · rw [if_pos hc, hc, Nat.sub_self, Nat.zero_mul]
            have : 0 ≤ c * z := Nat.zero_le _
            omega
          · rw [if_neg hc]
            have : l * z + (c - l) * z = c * z := by rw [← Nat.add_mul]; congr 1; omega
            omega
      · cases h
    · rename_i n e o g off hd
      have hu := und_arr hT hd
      obtain ⟨b, δ, hb0, rfl⟩ := hx
      split at h
      · rename_i hz
        rw [Option.bind_eq_some_iff] at h
        obtain ⟨cs, hcs, h⟩ := h
        split at h
        · rename_i hle
          rw [Option.map_eq_some_iff] at h
          obtain ⟨⟨l, h'⟩, hb, rfl⟩ := h
          obtain ⟨h1, h2, h3⟩ := bounds_rel (P := P) (isS := false) (C := n) hb (Nat.le_refl _) hlo hhi
          have hsz := ty_size_some (w := w) (P := P) (e := e) rfl hz
          obtain ⟨ro, e', hobj⟩ := cellsAt_obj hcs
          obtain ⟨ccs, fr, q1, q2, _⟩ := hs.cells hobj hb0
          have hh : h' ≤ n := by omega
          generalize P.cellsOf e = z at *
          refine ⟨.slice (some ⟨b, (if n = l then δ + off else δ + off + l * z), none⟩) (h' - l) (n - l), ?_, b, δ, _, n - l, e', ccs.size, hb0, rfl, by omega, ?_, by simp [World.shape?, q1], ?_⟩
          · simp only [Instr.sliceAt, Sem.run_bind, run_und hu, Result.andThen_ok, Instr.sureAddr, h1, hsz, Sem.run_pure, Addr.add_none]
            by_cases hc : n = l <;> simp [hc]
          · by_cases hc : n = l
            · right; omega
            · rw [if_neg hc]; left; show δ + off + l * z = δ + (off + l * z); omega
          · by_cases hc : n = l
            · rw [if_pos hc, hc, Nat.sub_self, Nat.zero_mul]
              have : 0 ≤ n * z := Nat.zero_le _
              omega
            · rw [if_neg hc]
              have : l * z + (n - l) * z = n * z := by rw [← Nat.add_mul]; congr 1; omega
              omega
        · cases h
      · cases h
    · cases h

theorem tas_rel {x a : AV} {u : Value} {xt t : Nat} {ok : Bool} (h : aTas P x t ok = some a) (hx : VRel μ w x u) : Gives P μ w (Instr.typeAssert u xt t ok) a := by
  unfold aTas at h
  split at h
  · rename_i T hT
    obtain ⟨i, d, z, h1, h2, h3, h4, _⟩ := ty_info hT
    obtain ⟨zv, hz, hzv⟩ := run_zero (w := w) hT
    have hzr : VRel μ w T.zero zv := by rw [← hzv]; exact avOf_rel zv
    split at h
    · rename_i m0 t' v hT0
      obtain ⟨y, rfl, hy⟩ := hx
      have hI : ∃ want, P.underlying t = some (.interface want) ∧ ∀ j, hasAll P t' t = some j → ∃ i', P.info? t' = some i' ∧ (lacking want i'.methods).isEmpty = j := by
        cases d <;> first | (rw [hT0] at h4; cases h4; done) | skip
        rename_i want
        refine ⟨want, h2, fun j hj => ?_⟩
        unfold hasAll at hj
        rw [h2] at hj
        split at hj
        · rename_i w1 i1 e1 e2
          cases e1
          exact ⟨i1, e2, Option.some.inj hj⟩
        · cases hj
      obtain ⟨want, hw1, hw2⟩ := hI
      split at h
      · rename_i hh
        obtain ⟨i', q1, q2⟩ := hw2 _ hh
        cases h
        cases ok with
        | true => exact ⟨_, run_typeAssert_has hw1 q1 (List.isEmpty_iff.1 q2), _, rfl, .iface t' y, _, rfl, ⟨y, rfl, hy⟩, .bool true, [], rfl, rfl, rfl⟩
        | false =>
          refine ⟨.iface t' y, ?_, y, rfl, hy⟩
          simp [Instr.typeAssert, run_underlying hw1, typeInfo, q1, missingMethod_none (List.isEmpty_iff.1 q2)]
      · rename_i hh
        obtain ⟨i', q1, q2⟩ := hw2 _ hh
        split at h
        · rename_i hok
          cases h
          subst hok
          have hne : lacking want i'.methods ≠ [] := fun e => by rw [e] at q2; cases q2
          have hzz : z = zv := by
            have he : (zeroValue t).run P w = .ok z w := by simp [zeroValue, run_info h1, h3]
            rw [he] at hz; cases hz; rfl
          subst hzz
          exact ⟨_, run_typeAssert_lacks hw1 q1 h1 h3 hne, _, rfl, _, _, rfl, hzr, .bool false, [], rfl, rfl, rfl⟩
        · cases h
      · cases h
    · rename_i m0 hT0
      simp only [VRel] at hx; subst hx
      split at h
      · rename_i hok
        cases h
        refine ⟨.tuple #[zv, .bool false], ?_, _, rfl, ?_⟩
        · unfold Instr.typeAssert
          cases d <;> first | (rw [hT0] at h4; cases h4; done) | simp [run_und h2, hok, hz]
        · exact ⟨zv, _, rfl, hzr, .bool false, [], rfl, rfl, rfl⟩
      · cases h
    · cases h
    · rename_i hni
      simp only [VRel] at hx; subst hx
      split at h
      · rename_i hok
        cases h
        refine ⟨.tuple #[zv, .bool false], ?_, _, rfl, ?_⟩
        · unfold Instr.typeAssert
          cases d <;> first | (exact absurd h4.symm (by intro h; exact hni _ h)) | simp [run_und h2, hok, hz]
        · exact ⟨zv, _, rfl, hzr, .bool false, [], rfl, rfl, rfl⟩
      · cases h
    · rename_i t' v hni
      obtain ⟨y, rfl, hy⟩ := hx
      split at h
      · rename_i htt
        subst htt
        cases h
        cases ok with
        | true =>
          refine ⟨.tuple #[y, .bool true], ?_, _, rfl, y, _, rfl, hy, .bool true, [], rfl, rfl, rfl⟩
          unfold Instr.typeAssert
          cases d <;> first | (exact absurd h4.symm (by intro h; exact hni _ h)) | simp [run_und h2]
        | false =>
          refine ⟨y, ?_, hy⟩
          unfold Instr.typeAssert
          cases d <;> first | (exact absurd h4.symm (by intro h; exact hni _ h)) | simp [run_und h2]
      · rename_i htt
        split at h
        · rename_i hok
          cases h
          refine ⟨.tuple #[zv, .bool false], ?_, _, rfl, zv, _, rfl, hzr, .bool false, [], rfl, rfl, rfl⟩
          unfold Instr.typeAssert
          cases d <;> first | (exact absurd h4.symm (by intro h; exact hni _ h)) | simp [run_und h2, hok, hz, htt]
        · cases h
    · cases h
  · cases h
end
end Go.Abs
