/- Texts of this claim, joined: Abs46, Abs47, Abs48, Abs49, Abs50, Abs51, Abs52. -/
import Derived.Test.YtobmjhfgmhfocaaGreatDoorM13
import Derived.Test.YtobmjhfgmhfocaaGreatDoorM09
import Derived.Laws.RangeString
set_option linter.unusedVariables false
set_option linter.unusedSimpArgs false
/- The layer Abs, part 46: the third evaluator: operations, by what they are. -/
namespace Go.Abs

/-! ### From the layer's values -/
noncomputable def b2n (x : Bool) : Nat := Bool.rec (motive := fun _ => Nat) (nat_lit 0) (nat_lit 1) x
noncomputable def ofFn (f : Fn) (a c : List FV) : FV := match f with
  | .func k => .c (nat_lit 3) k [.c (nat_lit 0) (nat_lit 0) a, .c (nat_lit 0) (nat_lit 0) c]
  | _ => .n (nat_lit 0) (nat_lit 0)
noncomputable def isFunc (f : Fn) : Bool := match f with
  | .func _ => true
  | _ => false
noncomputable def ofAV : AV → FV := AV.rec (motive_1 := fun _ => FV) (motive_2 := fun _ => List FV) (.n (nat_lit 0) (nat_lit 0)) (fun x => .n (nat_lit 1) (b2n x)) (fun k n => .n (tg k) (n % 2 ^ k.bits).toNat) (fun x => .s x.length (pk x)) (.n (nat_lit 2) (nat_lit 0)) .p (.n (nat_lit 3) (nat_lit 0)) .sl (fun f _ _ a c => ofFn f a c) (.n (nat_lit 4) (nat_lit 0)) (fun t _ v => .c (nat_lit 2) t [v]) (.n (nat_lit 5) (nat_lit 0)) (fun _ l => .c (nat_lit 0) (nat_lit 0) l) (fun _ l => .c (nat_lit 1) (nat_lit 0) l) (.n (nat_lit 6) (nat_lit 0)) (fun o _ => .c (nat_lit 5) o []) (fun c _ v => .c (nat_lit 4) (b2n c) [v]) [] (fun _ _ a l => a :: l)
noncomputable def ofAVs : List AV → List FV := AV.rec_1 (motive_1 := fun _ => FV) (motive_2 := fun _ => List FV) (.n (nat_lit 0) (nat_lit 0)) (fun x => .n (nat_lit 1) (b2n x)) (fun k n => .n (tg k) (n % 2 ^ k.bits).toNat) (fun x => .s x.length (pk x)) (.n (nat_lit 2) (nat_lit 0)) .p (.n (nat_lit 3) (nat_lit 0)) .sl (fun f _ _ a c => ofFn f a c) (.n (nat_lit 4) (nat_lit 0)) (fun t _ v => .c (nat_lit 2) t [v]) (.n (nat_lit 5) (nat_lit 0)) (fun _ l => .c (nat_lit 0) (nat_lit 0) l) (fun _ l => .c (nat_lit 1) (nat_lit 0) l) (.n (nat_lit 6) (nat_lit 0)) (fun o _ => .c (nat_lit 5) o []) (fun c _ v => .c (nat_lit 4) (b2n c) [v]) [] (fun _ _ a l => a :: l)
noncomputable def okAV : AV → Bool := AV.rec (motive_1 := fun _ => Bool) (motive_2 := fun _ => Bool) true (fun _ => true) (fun k n => decide (k.wrap n = n)) (fun _ => true) true (fun _ _ _ => true) true (fun _ _ _ _ _ => true) (fun f _ _ a c => bC (isFunc f) (bC a c false) false) true (fun _ _ v => v) true (fun _ l => l) (fun _ l => l) true (fun _ g => Nat.beq g (nat_lit 0)) (fun _ _ v => v) true (fun _ _ a l => bC a l false)
noncomputable def okAVs : List AV → Bool := AV.rec_1 (motive_1 := fun _ => Bool) (motive_2 := fun _ => Bool) true (fun _ => true) (fun k n => decide (k.wrap n = n)) (fun _ => true) true (fun _ _ _ => true) true (fun _ _ _ _ _ => true) (fun f _ _ a c => bC (isFunc f) (bC a c false) false) true (fun _ _ v => v) true (fun _ l => l) (fun _ l => l) true (fun _ g => Nat.beq g (nat_lit 0)) (fun _ _ v => v) true (fun _ _ a l => bC a l false)
mutual
theorem okAV_ok : ∀ v : AV, okAV v = true → (ofAV v).av = v := by
  intro v h
  match v with
  | .u | .p0 | .sl0 | .fn0 | .ic0 | .mp0 | .p _ _ _ | .sl _ _ _ _ _ => rfl
  | .b x => cases x <;> rfl
  | .i k n =>
    have h' : decide (k.wrap n = n) = true := h
    have h' := of_decide_eq_true h'
    show scal (tg k) _ = _
    rw [scal_int, wrap_eq, h']
  | .s x => show AV.s (unpk x.length (pk x)) = _; rw [unpk_pk]
  | .fn f a c =>
    have h' : bC (isFunc f) (bC (okAVs a) (okAVs c) false) false = true := h
    obtain ⟨h1, h'⟩ := bC_and h'
    obtain ⟨h2, h3⟩ := bC_and h'
    unfold isFunc at h1
    split at h1
    · rename_i k
      show FV.av (.c 3 k [.c 0 0 (ofAVs a), .c 0 0 (ofAVs c)]) = _
      rw [FV.av_c, FV.avs_eq]
      simp only [List.map_cons, List.map_nil, av_ag]
      rw [okAVs_ok a h2, okAVs_ok c h3]; rfl
    · cases h1
  | .ic t x => show FV.av (.c 2 t [ofAV x]) = _; rw [av_ic, okAV_ok x h]
  | .ag l => show FV.av (.c 0 0 (ofAVs l)) = _; rw [av_ag, okAVs_ok l h]
  | .tu l => show FV.av (.c 1 0 (ofAVs l)) = _; rw [av_tu, okAVs_ok l h]
  | .mp o g =>
    have h' : Nat.beq g 0 = true := h
    rw [Nat.eq_of_beq_eq_true h']; rfl
  | .cd c x =>
    have e := okAV_ok x h
    show FV.av (.c 4 (b2n c) [ofAV x]) = _
    cases c
    · show AV.cd false (ofAV x).av = _; rw [e]
    · show AV.cd true (ofAV x).av = _; rw [e]
theorem okAVs_ok : ∀ l : List AV, okAVs l = true → (ofAVs l).map FV.av = l := by
  intro l h
  match l with
  | [] => rfl
  | a :: l =>
    have h' : bC (okAV a) (okAVs l) false = true := h
    obtain ⟨h1, h2⟩ := bC_and h'
    show (ofAV a).av :: (ofAVs l).map FV.av = _
    rw [okAV_ok a h1, okAVs_ok l h2]
end

/-! ### Operands -/
abbrev GEnv := List (Nat × FV)
noncomputable def gget : GEnv → Nat → FV := List.rec (motive := fun _ => Nat → FV) (fun _ => .n (nat_lit 0) (nat_lit 0)) (fun p _ ih n => bC (Nat.beq p.1 n) p.2 (ih n))
noncomputable def envA (e : GEnv) : Env := e.map fun p => (p.1, p.2.av)
theorem gget_av : ∀ (e : GEnv) (n : Nat), (gget e n).av = get (envA e) n
  | [], _ => rfl
  | (d, v) :: e, n => by
    show (bC (Nat.beq d n) v (gget e n)).av = if d = n then v.av else get (envA e) n
    cases hb : Nat.beq d n with
    | true => rw [if_pos (Nat.eq_of_beq_eq_true hb)]
    | false => rw [if_neg (Nat.ne_of_beq_eq_false hb)]; exact gget_av e n
noncomputable def fev (e : GEnv) : Opd → FV := Opd.rec (motive := fun _ => FV) (fun n => gget e n) (fun v => ofAV v)
noncomputable def vev (e : GEnv) : Opd → FV := Opd.rec (motive := fun _ => FV) (fun n => valF (gget e n)) (fun v => ofAV v)
noncomputable def notCd : AV → Bool
  | .cd _ _ => false
  | _ => true
noncomputable def okC1 : Opd → Bool := Opd.rec (motive := fun _ => Bool) (fun _ => true) (fun v => bC (okAV v) (notCd v) false)
theorem fev_av {e : GEnv} {o : Opd} (h : okC1 o = true) : (fev e o).av = o.ev (envA e) := by
  cases o with
  | t n => exact gget_av e n
  | c v => exact okAV_ok v (bC_and h).1
theorem vev_av {e : GEnv} {o : Opd} (h : okC1 o = true) : (vev e o).av = (o.ev (envA e)).val := by
  cases o with
  | t n => show (valF (gget e n)).av = _; rw [valF_av, gget_av]; rfl
  | c v =>
    have h1 := okAV_ok v (bC_and h).1
    have h2 := (bC_and h).2
    show (ofAV v).av = v.val
    rw [h1]
    cases v <;> first | rfl | cases h2
noncomputable abbrev gCnds (e : GEnv) (B : Bool) : List Opd → Bool := List.rec (motive := fun _ => Bool) B (fun o _ ih => Opd.rec (motive := fun _ => Bool) (fun n => bC (cndF (gget e n)) ih false) (fun _ => ih) o)
theorem gCnds_ok {e : GEnv} {B : Bool} : ∀ (l : List Opd) (_ : l.all okC1 = true) (_ : gCnds e B l = true), l.all (fun o => (o.ev (envA e)).cnd) = true ∧ B = true
  | [], _, h => ⟨rfl, h⟩
  | .t n :: l, ho, h => by
    simp only [List.all_cons, Bool.and_eq_true] at ho
    have h' : bC (cndF (gget e n)) (gCnds e B l) false = true := h
    obtain ⟨h1, h2⟩ := bC_and h'
    obtain ⟨h3, h4⟩ := gCnds_ok l ho.2 h2
    rw [cndF_av, gget_av] at h1
    refine ⟨?_, h4⟩
    simp only [List.all_cons, h3, Bool.and_true]
    exact h1
  | .c v :: l, ho, h => by
    simp only [List.all_cons, Bool.and_eq_true] at ho
    obtain ⟨h3, h4⟩ := gCnds_ok l ho.2 h
    refine ⟨?_, h4⟩
    simp only [List.all_cons, h3, Bool.and_true]
    have h2 := (bC_and ho.1).2
    show v.cnd = true
    cases v <;> first | rfl | cases h2
/-- An operation looks at its own operands alone. -/
theorem aCall_same {X : Ctx} {run : Run} {ρ ρ' : Opd → AV} {op : AOp} (h : ∀ o ∈ op.opds, ρ o = ρ' o) (σ : St) : aCall X run ρ op σ = aCall X run ρ' op σ := by
  have hl : ∀ (l : List Opd), (∀ o ∈ l, ρ o = ρ' o) → l.map ρ = l.map ρ' := fun l hh => List.map_congr_left hh
  have ho : ∀ (l : Option Opd), (∀ o ∈ l.toList, ρ o = ρ' o) → l.map ρ = l.map ρ' := fun l hh => by
    cases l with
    | none => rfl
    | some x => simp only [Option.map_some]; rw [hh x (by simp)]
  have hp : ∀ (l : List (Nat × Opd)), (∀ o ∈ l.map (·.2), ρ o = ρ' o) → l.map (fun q => (q.1, ρ q.2)) = l.map (fun q => (q.1, ρ' q.2)) := fun l hh => List.map_congr_left fun q hq => by rw [hh q.2 (List.mem_map_of_mem hq)]
  cases op <;> simp only [AOp.opds, List.mem_cons, List.mem_nil_iff, or_false, forall_eq, forall_eq_or_imp, List.mem_append] at h <;> simp only [aCall, aOp]
  case mv => rw [h]
  case pick => rw [h.1, h.2.1, h.2.2]
  case box => rw [h]
  case build => rw [hp _ h]
  case bsl => rw [hp _ h]
  case load => rw [h]
  case store => rw [h.1, h.2]
  case nilck => rw [h]
  case bin => rw [h.1, h.2]
  case un => rw [h]
  case conv => rw [h]
  case mki => rw [h]
  case mkf => rw [hl _ (fun o ho => h o (.inl ho)), hl _ (fun o ho => h o (.inr ho))]
  case mks => rw [h.1, h.2]
  case slc => rw [h.1, ho _ (fun o q => h.2 o (.inl q)), ho _ (fun o q => h.2 o (.inr q))]
  case fad => rw [h]
  case fld => rw [h]
  case iad => rw [h.1, h.2]
  case idx => rw [h.1, h.2]
  case rng => rw [h]
  case nxt => rw [h]
  case tas => rw [h]
  case ext => rw [h]
  case call => rw [h.1, hl _ h.2]
  case inv => rw [h.1, hl _ h.2]
  case len => rw [h]
  case app => rw [h.1, h.2]
  case copy => rw [h.1, h.2]
  case mn => rw [hl _ h]
  case mkm => rw [ho _ h]
  case lku => rw [h.1, h.2]
  case mup => rw [h.1, h.2.1, h.2.2]
  case del => rw [h.1, h.2]
  case mln => rw [h]
  case sl3 => rw [h.1, h.2.1, h.2.2.1, ho _ h.2.2.2]
end Go.Abs
/- The layer Abs, part 47: the third evaluator: any operation. -/
namespace Go.Abs

/-! ### Small ones -/
noncomputable def md : IntKind → Nat
  | .i8 => 256 | .i16 => 65536 | .i32 => 4294967296 | .i64 => 18446744073709551616
  | .u8 => 256 | .u16 => 65536 | .u32 => 4294967296 | .u64 => 18446744073709551616
theorem md_eq (k : IntKind) : md k = 2 ^ k.bits := by cases k <;> rfl
noncomputable def nthO : List FV → Nat → KF → Bool := List.rec (motive := fun _ => Nat → KF → Bool) (fun _ _ => false) (fun a _ ih k => Nat.rec (motive := fun _ => KF → Bool) (fun K => K a) (fun k _ K => ih k K) k)
theorem nthO_ok : ∀ (l : List FV) (k : Nat) {K : KF} (_ : nthO l k K = true), ∃ v, l[k]? = some v ∧ K v = true
  | [], _, _, h => by cases h
  | a :: l, 0, K, h => ⟨a, rfl, h⟩
  | a :: l, k + 1, K, h => nthO_ok l k h
noncomputable def dExt (i : Nat) (x : FV) (K : KF) : Bool := match x with
  | .c 1 _ l => nthO l i K
  | _ => false
noncomputable def dFad (off : Nat) (x : FV) (K : KF) : Bool := match x with
  | .p o g b => K (.p o g (Nat.add b off))
  | _ => false
noncomputable def dFld1 (off : Nat) (x : FV) (K : KF) : Bool := match x with
  | .c 0 _ l => nthO l off K
  | _ => false
noncomputable def dFldA (off z : Nat) (x : FV) (K : KF) : Bool := match x with
  | .c 0 _ l => bC (Nat.ble (Nat.add off z) l.length) (fSp ((l.drop off).take z) fun l => K (.c (nat_lit 0) (nat_lit 0) l)) false
  | _ => false
noncomputable def dIad (n z : Nat) (x i : FV) (K : KF) : Bool := match x with
  | .p o g b => natK i fun j => bC (Nat.ble (Nat.succ j) n) (K (.p o g (Nat.add b (Nat.mul j z)))) false
  | _ => false
noncomputable def dIadS (z : Nat) (x i : FV) (K : KF) : Bool := match x with
  | .sl o g b n z' => bC (Nat.beq z' z) (natK i fun j => bC (Nat.ble (Nat.succ j) n) (K (.p o g (Nat.add b (Nat.mul j z)))) false) false
  | _ => false
noncomputable def dNot (x : FV) (K : KF) : Bool := match x with
  | .n t v => bC (Nat.beq t (nat_lit 1)) (Nat.rec (motive := fun _ => KF → Bool) (fun K => K (.n (nat_lit 1) (nat_lit 1))) (fun _ _ K => K (.n (nat_lit 1) (nat_lit 0))) v K) false
  | _ => false
noncomputable def dNeg (t M : Nat) (x : FV) (K : KF) : Bool := match x with
  | .n t1 a => bC (Nat.beq t1 t) (mkI (Nat.mod (Nat.sub M (Nat.mod a M)) M) t K) false
  | _ => false
noncomputable def dNilck (x : FV) (K : KF) : Bool := match x with
  | .p o g off => K (.p o g off)
  | .c 2 t [v] => K (.c 2 t [v])
  | .c 3 k l => K (.c 3 k l)
  | _ => false
/-- Is it nil? Of a kind whose nil is 't'. -/
noncomputable def nilT (t : Nat) (x : FV) (K : Bool → Bool) : Bool := match x with
  | .n t' _ => bC (Nat.beq t' t) (K true) false
  | .p _ _ _ => bC (Nat.beq t (nat_lit 2)) (K false) false
  | .sl _ _ _ _ _ => bC (Nat.beq t (nat_lit 3)) (K false) false
  | .c 3 _ _ => bC (Nat.beq t (nat_lit 4)) (K false) false
  | .c 2 _ _ => bC (Nat.beq t (nat_lit 5)) (K false) false
  | .c 5 _ _ => bC (Nat.beq t (nat_lit 6)) (K false) false
  | _ => false
noncomputable def nilOf : AD → Nat
  | .ptr _ => 2
  | .slice _ => 3
  | .fn => 4
  | .ifc _ => 5
  | .map _ _ => 6
  | _ => 0
noncomputable def isNil : AV → Nat
  | .p0 => 2
  | .sl0 => 3
  | .fn0 => 4
  | .ic0 => 5
  | .mp0 => 6
  | _ => 99
noncomputable def dNil (t : Nat) (x : FV) (K : KF) : Bool := nilT t x fun b => kB b K
noncomputable def dNnl (t : Nat) (x : FV) (K : KF) : Bool := nilT t x fun b => kN b K
/-- The numbers of another kind. -/
noncomputable def dCvtN (t M t1 a : Nat) (K : KF) : Bool := match kOf t1 with
  | some k1 => bC (Nat.beq (Nat.mod t1 (nat_lit 2)) (nat_lit 1)) (bC (Nat.ble (Nat.div t1 (nat_lit 4)) (Nat.mod a (md k1))) (mkI (Nat.mod (Nat.sub (Nat.add (Nat.mod a (md k1)) (Nat.mul M (nat_lit 18446744073709551616))) (md k1)) M) t K) false) false
  | none => false
noncomputable def dCvt (t M : Nat) (x : FV) (K : KF) : Bool := match x with
  | .n t1 a => bC (okN t1 a) (mkI (Nat.mod a M) t K) (dCvtN t M t1 a K)
  | _ => false
noncomputable def dShl (t M b : Nat) (x y : FV) (K : KF) : Bool := match x with
  | .n t1 a => bC (Nat.beq t1 t) (natK y fun n => mkI (Nat.mod (Nat.shiftLeft a (bC (Nat.ble n b) n b)) M) t K) false
  | _ => false
noncomputable def dShr (t M b : Nat) (x y : FV) (K : KF) : Bool := match x with
  | .n t1 a => bC (Nat.beq t1 t) (bC (okN t a) (natK y fun n => mkI (Nat.shiftRight a (bC (Nat.ble n b) n b)) t K) false) false
  | _ => false
noncomputable def dQuo (t M : Nat) (x y : FV) (K : KF) : Bool := match x, y with
  | .n t1 a, .n t2 b => bC (Nat.beq t1 t) (bC (Nat.beq t2 t) (bC (okN t a) (bC (okN t b) (bC (Nat.ble (nat_lit 1) b) (mkI (Nat.div a b) t K) false) false) false) false) false
  | _, _ => false
noncomputable def dRem (t M : Nat) (x y : FV) (K : KF) : Bool := match x, y with
  | .n t1 a, .n t2 b => bC (Nat.beq t1 t) (bC (Nat.beq t2 t) (bC (okN t a) (bC (okN t b) (bC (Nat.ble (nat_lit 1) b) (mkI (Nat.mod a b) t K) false) false) false) false) false
  | _, _ => false
theorem dExt_ok {i : Nat} {x : FV} {K : KF} (h : dExt i x K = true) : ∃ vs, x.av = .tu vs ∧ ∃ v : FV, vs[i]? = some v.av ∧ K v = true := by
  unfold dExt at h
  split at h
  · obtain ⟨v, h1, h2⟩ := nthO_ok _ _ h
    refine ⟨_, av_tu _ _, v, ?_, h2⟩
    rw [List.getElem?_map, h1]; rfl
  · cases h
theorem dNot_ok {x : FV} {K : KF} (h : dNot x K = true) : ∃ b, x.av = .b b ∧ ∃ v : FV, v.av = .b (!b) ∧ K v = true := by
  unfold dNot at h
  split at h
  · rename_i t v
    obtain ⟨h1, h⟩ := bC_and h
    have h1 : t = 1 := Nat.eq_of_beq_eq_true h1
    subst h1
    refine ⟨_, scal_b v, ?_⟩
    cases v with
    | zero => exact ⟨_, rfl, h⟩
    | succ v => exact ⟨_, rfl, h⟩
  · cases h
theorem dNeg_ok {k : IntKind} {x : FV} {K : KF} (h : dNeg (tg k) (md k) x K = true) : ∃ n, x.av = .i k n ∧ ∃ v : FV, v.av = .i k (k.wrap (0 - n)) ∧ K v = true := by
  unfold dNeg at h
  split at h
  · rename_i t1 a
    obtain ⟨h1, h2⟩ := bC_and h
    have h3 : t1 = tg k := Nat.eq_of_beq_eq_true h1
    clear h h1
    have h := h2
    clear h2
    subst h3
    rw [mkI_eq] at h
    refine ⟨_, scal_int k a, _, ?_, h⟩
    rw [FV.av_n, scal_int]
    congr 1
    rw [show (0 : Int) - k.wrap a = -k.wrap a by omega]
    apply wrap_congr
    have hM : a % md k < md k := Nat.mod_lt _ (by cases k <;> decide)
    have e1 : ((Nat.mod (Nat.sub (md k) (Nat.mod a (md k))) (md k) : Nat) : Int) = ((md k : Nat) - (a % md k : Nat) : Int) % (md k : Nat) := by
      show (((md k - a % md k) % md k : Nat) : Int) = _
      rw [Int.natCast_emod]; congr 1; omega
    rw [e1]
    have e2 : ((md k : Nat) : Int) = 2 ^ k.bits := by rw [md_eq, cast_pow]
    rw [e2, Int.emod_emod_of_dvd _ (Int.dvd_refl _)]
    have h2 := wrap_emod k a
    have e3 : ((a % md k : Nat) : Int) = (a : Int) % 2 ^ k.bits := by rw [Int.natCast_emod, e2]
    rw [e3, ← h2]
    generalize k.wrap (a : Int) = w
    rw [show (2 ^ k.bits - w % 2 ^ k.bits : Int) = (2 ^ k.bits + -(w % 2 ^ k.bits)) by omega, Int.add_emod, Int.emod_self, Int.zero_add, Int.emod_emod_of_dvd _ (Int.dvd_refl _)]
    have := Int.emod_add_mul_ediv w (2 ^ k.bits)
    have e4 : -w = -(w % 2 ^ k.bits) + 2 ^ k.bits * (-(w / 2 ^ k.bits)) := by rw [Int.mul_neg]; omega
    rw [e4, Int.add_mul_emod_self_left]
  · cases h
theorem nilT_ok {t : Nat} {x : FV} {K : Bool → Bool} (h : nilT t x K = true) : ∃ b, K b = true ∧ ((b = true ∧ ∃ z, x = .n t z) ∨ (b = false ∧ ((t = 2 ∧ ∃ o g off, x.av = .p o g off) ∨ (t = 3 ∧ ∃ o g off n z, x.av = .sl o g off n z) ∨ (t = 4 ∧ ∃ f a c, x.av = .fn f a c) ∨ (t = 5 ∧ ∃ t' v, x.av = .ic t' v) ∨ (t = 6 ∧ ∃ o g, x.av = .mp o g)))) := by
  unfold nilT at h
  split at h <;> first | cases h | (obtain ⟨h1, h⟩ := bC_and h)
  · exact ⟨true, h, .inl ⟨rfl, _, by rw [Nat.eq_of_beq_eq_true h1]⟩⟩
  · exact ⟨false, h, .inr ⟨rfl, .inl ⟨Nat.eq_of_beq_eq_true h1, _, _, _, rfl⟩⟩⟩
  · exact ⟨false, h, .inr ⟨rfl, .inr (.inl ⟨Nat.eq_of_beq_eq_true h1, _, _, _, _, _, rfl⟩)⟩⟩
  · exact ⟨false, h, .inr ⟨rfl, .inr (.inr (.inl ⟨Nat.eq_of_beq_eq_true h1, _, _, _, rfl⟩))⟩⟩
  · exact ⟨false, h, .inr ⟨rfl, .inr (.inr (.inr (.inl ⟨Nat.eq_of_beq_eq_true h1, _, _, rfl⟩)))⟩⟩
  · exact ⟨false, h, .inr ⟨rfl, .inr (.inr (.inr (.inr ⟨Nat.eq_of_beq_eq_true h1, _, _, rfl⟩)))⟩⟩
/-- A value held against nil: of a type whose nil it is. -/
theorem nil_eq {P : Program} {t : Nat} {T : AT} (hT : tyOf P t = some T) {x : FV} {K : Bool → Bool} (h : nilT (nilOf T.d) x K = true) {v : AV} (hv : isNil v = nilOf T.d) : ∃ b, K b = true ∧ aBin P .eql t x.av v true = some (.b b) ∧ aBin P .neq t x.av v true = some (.b !b) := by
  obtain ⟨b, h1, h2⟩ := nilT_ok h
  refine ⟨b, h1, ?_⟩
  clear h
  have fin : ∀ (w : AV), aEq P 20 t w v = some b → (∀ op, op = .eql ∨ op = .neq → aBin P op t w v true = if op = .eql then (aEq P 20 t w v).map .b else (aEq P 20 t w v).map fun r => .b !r) → aBin P .eql t w v true = some (.b b) ∧ aBin P .neq t w v true = some (.b !b) := by
    intro w e1 e2
    refine ⟨?_, ?_⟩
    · rw [e2 .eql (.inl rfl), if_pos rfl, e1]; rfl
    · rw [e2 .neq (.inr rfl), if_neg (by decide), e1]; rfl
  obtain ⟨d, sz, bt, ze, cm, hd, gd⟩ := T
  simp only at h2 hv
  rcases h2 with ⟨rfl, z, rfl⟩ | ⟨rfl, h2⟩
  · cases d <;> simp only [nilOf] at hv <;> cases v <;> simp only [isNil] at hv <;> (try omega)
    all_goals
      refine fin _ ?_ ?_
      · unfold aEq; rw [hT]; rfl
      · rintro op (rfl | rfl) <;> rfl
  · rcases h2 with ⟨e, o, g, off, hx⟩ | ⟨e, o, g, off, n, z, hx⟩ | ⟨e, f, a, c, hx⟩ | ⟨e, t', w, hx⟩ | ⟨e, o, g, hx⟩
    all_goals
      rw [hx]
      cases d <;> simp only [nilOf] at e hv <;> (try omega)
      cases v <;> simp only [isNil] at hv <;> (try omega)
      refine fin _ ?_ ?_
      · unfold aEq; rw [hT]
      · rintro op (rfl | rfl) <;> rfl
end Go.Abs
/- The layer Abs, part 48: the third evaluator: what its operations come to. -/
namespace Go.Abs

theorem okN_lim {k : IntKind} {a : Nat} (h : okN (tg k) a = true) : a < (if k.signed then 2 ^ (k.bits - 1) else 2 ^ k.bits) := by
  have key : ∀ (b : Nat), Nat.ble a b = true → a < b + 1 := fun b hb => Nat.lt_succ_of_le (Nat.le_of_ble_eq_true hb)
  cases k
  · exact key 127 h
  · exact key 32767 h
  · exact key 2147483647 h
  · exact key 9223372036854775807 h
  · exact key 255 h
  · exact key 65535 h
  · exact key 4294967295 h
  · exact key 18446744073709551615 h
theorem okN_wrap {k : IntKind} {a : Nat} (h : okN (tg k) a = true) : k.wrap a = a := wrap_small k (okN_lim h)
theorem n_av (k : IntKind) (a : Nat) : FV.av (.n (tg k) a) = .i k (k.wrap a) := scal_int k a
theorem n_mod (k : IntKind) (a : Nat) : FV.av (.n (tg k) (Nat.mod a (md k))) = .i k (k.wrap a) := by
  rw [n_av]
  congr 1
  show k.wrap ((a % md k : Nat) : Int) = _
  rw [md_eq, wrap_natmod]
theorem bv_nat (k : IntKind) (a : Nat) : (BitVec.ofInt k.bits (k.wrap a)).toNat = a % md k := by
  rw [BitVec.toNat_ofInt]
  have h := wrap_emod k a
  rw [cast_pow, h, ← cast_pow, ← Int.natCast_emod, Int.toNat_natCast, md_eq]
section
variable {k : IntKind} {x y : FV} {K : KF}
theorem add_ok (h : dAdd x (tg k) (md k) y K = true) : ∃ a b, x.av = .i k a ∧ y.av = .i k b ∧ ∃ v : FV, aInt .add k a b = some v.av ∧ K v = true := by
  obtain ⟨a, b, e1, e2, h2⟩ := dAdd_ok h
  clear h
  have h := h2
  clear h2
  subst e1 e2
  rw [mkI_eq] at h
  refine ⟨_, _, n_av k a, n_av k b, _, ?_, h⟩
  rw [n_mod]
  simp only [aInt, wrap_add]
  congr 3
theorem sub_ok (h : dSub x (tg k) (md k) y K = true) : ∃ a b, x.av = .i k a ∧ y.av = .i k b ∧ ∃ v : FV, aInt .sub k a b = some v.av ∧ K v = true := by
  obtain ⟨a, b, e1, e2, h2⟩ := dSub_ok h
  clear h
  have h := h2
  clear h2
  subst e1 e2
  rw [mkI_eq] at h
  refine ⟨_, _, n_av k a, n_av k b, _, ?_, h⟩
  rw [n_mod]
  simp only [aInt, wrap_sub]
  congr 2
  apply wrap_congr
  have hM : b % md k < md k := Nat.mod_lt _ (by cases k <;> decide)
  have e2 : ((md k : Nat) : Int) = 2 ^ k.bits := by rw [md_eq, cast_pow]
  have e1 : ((Nat.sub (Nat.add a (md k)) (Nat.mod b (md k)) : Nat) : Int) = (a : Int) - ((b % md k : Nat) : Int) + 2 ^ k.bits := by
    show ((a + md k - b % md k : Nat) : Int) = _
    rw [← e2]; omega
  rw [e1, Int.natCast_emod, e2, Int.add_emod_right, Int.sub_emod, Int.sub_emod (a : Int) ((b : Int) % 2 ^ k.bits), Int.emod_emod_of_dvd _ (Int.dvd_refl _)]
theorem mul_ok (h : dMul x (tg k) (md k) y K = true) : ∃ a b, x.av = .i k a ∧ y.av = .i k b ∧ ∃ v : FV, aInt .mul k a b = some v.av ∧ K v = true := by
  obtain ⟨a, b, e1, e2, h2⟩ := dMul_ok h
  clear h
  have h := h2
  clear h2
  subst e1 e2
  rw [mkI_eq] at h
  refine ⟨_, _, n_av k a, n_av k b, _, ?_, h⟩
  rw [n_mod]
  simp only [aInt, wrap_mul]
  congr 3
theorem and_ok (h : dAnd x (tg k) (md k) y K = true) : ∃ a b, x.av = .i k a ∧ y.av = .i k b ∧ ∃ v : FV, aInt .and k a b = some v.av ∧ K v = true := by
  obtain ⟨a, b, e1, e2, h2⟩ := dAnd_ok h
  clear h
  have h := h2
  clear h2
  subst e1 e2
  rw [mkI_eq] at h
  refine ⟨_, _, n_av k a, n_av k b, _, ?_, h⟩
  rw [n_av]
  simp only [aInt, aBits, BitVec.toNat_and, bv_nat]; rfl
theorem or_ok (h : dOr x (tg k) (md k) y K = true) : ∃ a b, x.av = .i k a ∧ y.av = .i k b ∧ ∃ v : FV, aInt .or k a b = some v.av ∧ K v = true := by
  obtain ⟨a, b, e1, e2, h2⟩ := dOr_ok h
  clear h
  have h := h2
  clear h2
  subst e1 e2
  rw [mkI_eq] at h
  refine ⟨_, _, n_av k a, n_av k b, _, ?_, h⟩
  rw [n_av]
  simp only [aInt, aBits, BitVec.toNat_or, bv_nat]; rfl
theorem xor_ok (h : dXor x (tg k) (md k) y K = true) : ∃ a b, x.av = .i k a ∧ y.av = .i k b ∧ ∃ v : FV, aInt .xor k a b = some v.av ∧ K v = true := by
  obtain ⟨a, b, e1, e2, h2⟩ := dXor_ok h
  clear h
  have h := h2
  clear h2
  subst e1 e2
  rw [mkI_eq] at h
  refine ⟨_, _, n_av k a, n_av k b, _, ?_, h⟩
  rw [n_av]
  simp only [aInt, aBits, BitVec.toNat_xor, bv_nat]; rfl
theorem ble_iff (a b : Nat) : Nat.ble a b = true ↔ a ≤ b := ⟨Nat.le_of_ble_eq_true, Nat.ble_eq_true_of_le⟩
theorem lss_ok (h : dLss x (tg k) (md k) y K = true) : ∃ a b, x.av = .i k a ∧ y.av = .i k b ∧ ∃ v : FV, aInt .lss k a b = some v.av ∧ K v = true := by
  obtain ⟨a, b, e1, e2, h2⟩ := dLss_ok h
  clear h
  have h := h2
  clear h2
  subst e1 e2
  obtain ⟨v, h1, h2⟩ := kB_ok h
  refine ⟨_, _, n_av k a, n_av k b, v, ?_, h2⟩
  rw [h1]
  simp only [aInt, aCmp, Option.some.injEq, AV.b.injEq]
  rw [Bool.eq_iff_iff, decide_eq_true_iff, wrap_lt, ble_iff]; exact Iff.rfl
theorem leq_ok (h : dLeq x (tg k) (md k) y K = true) : ∃ a b, x.av = .i k a ∧ y.av = .i k b ∧ ∃ v : FV, aInt .leq k a b = some v.av ∧ K v = true := by
  obtain ⟨a, b, e1, e2, h2⟩ := dLeq_ok h
  clear h
  have h := h2
  clear h2
  subst e1 e2
  obtain ⟨v, h1, h2⟩ := kB_ok h
  refine ⟨_, _, n_av k a, n_av k b, v, ?_, h2⟩
  rw [h1]
  simp only [aInt, aCmp, Option.some.injEq, AV.b.injEq]
  rw [Bool.eq_iff_iff, decide_eq_true_iff, wrap_le, ble_iff]
theorem gtr_ok (h : dGtr x (tg k) (md k) y K = true) : ∃ a b, x.av = .i k a ∧ y.av = .i k b ∧ ∃ v : FV, aInt .gtr k a b = some v.av ∧ K v = true := by
  obtain ⟨a, b, e1, e2, h2⟩ := dGtr_ok h
  clear h
  have h := h2
  clear h2
  subst e1 e2
  obtain ⟨v, h1, h2⟩ := kB_ok h
  refine ⟨_, _, n_av k a, n_av k b, v, ?_, h2⟩
  rw [h1]
  simp only [aInt, aCmp, Option.some.injEq, AV.b.injEq]
  rw [Bool.eq_iff_iff, decide_eq_true_iff, gt_iff_lt, wrap_lt, ble_iff]; exact Iff.rfl
theorem geq_ok (h : dGeq x (tg k) (md k) y K = true) : ∃ a b, x.av = .i k a ∧ y.av = .i k b ∧ ∃ v : FV, aInt .geq k a b = some v.av ∧ K v = true := by
  obtain ⟨a, b, e1, e2, h2⟩ := dGeq_ok h
  clear h
  have h := h2
  clear h2
  subst e1 e2
  obtain ⟨v, h1, h2⟩ := kB_ok h
  refine ⟨_, _, n_av k a, n_av k b, v, ?_, h2⟩
  rw [h1]
  simp only [aInt, aCmp, Option.some.injEq, AV.b.injEq]
  rw [Bool.eq_iff_iff, decide_eq_true_iff, ge_iff_le, wrap_le, ble_iff]
theorem beq_wrap (a b : Nat) : Nat.beq (Nat.mod a (md k)) (Nat.mod b (md k)) = (k.wrap a == k.wrap b) := by
  rw [Bool.eq_iff_iff, beq_iff_eq, wrap_eq_iff, ← md_eq]
  exact ⟨Nat.eq_of_beq_eq_true, fun e => by rw [show Nat.mod a (md k) = a % md k from rfl, e]; exact Nat.beq_refl _⟩
theorem eqi_ok (h : dEqI x (tg k) (md k) y K = true) : ∃ a b, x.av = .i k a ∧ y.av = .i k b ∧ ∃ v : FV, aInt .eql k a b = some v.av ∧ K v = true := by
  obtain ⟨a, b, e1, e2, h2⟩ := dEqI_ok h
  clear h
  have h := h2
  clear h2
  subst e1 e2
  obtain ⟨v, h1, h2⟩ := kB_ok h
  exact ⟨_, _, n_av k a, n_av k b, v, by rw [h1, beq_wrap]; rfl, h2⟩
theorem nei_ok (h : dNeI x (tg k) (md k) y K = true) : ∃ a b, x.av = .i k a ∧ y.av = .i k b ∧ ∃ v : FV, aInt .neq k a b = some v.av ∧ K v = true := by
  obtain ⟨a, b, e1, e2, h2⟩ := dNeI_ok h
  clear h
  have h := h2
  clear h2
  subst e1 e2
  obtain ⟨v, h1, h2⟩ := kN_ok h
  exact ⟨_, _, n_av k a, n_av k b, v, by rw [h1, beq_wrap]; rfl, h2⟩
theorem quo_ok (h : dQuo (tg k) (md k) x y K = true) : ∃ a b, x.av = .i k a ∧ y.av = .i k b ∧ ∃ v : FV, aInt .quo k a b = some v.av ∧ K v = true := by
  unfold dQuo at h
  split at h
  · rename_i t1 a t2 b
    obtain ⟨h1, h⟩ := bC_and h
    obtain ⟨h2, h⟩ := bC_and h
    obtain ⟨h3, h⟩ := bC_and h
    obtain ⟨h4, h⟩ := bC_and h
    obtain ⟨h5, h⟩ := bC_and h
    rw [mkI_eq] at h
    rw [Nat.eq_of_beq_eq_true h1, Nat.eq_of_beq_eq_true h2]
    have h5 : 1 ≤ b := Nat.le_of_ble_eq_true h5
    refine ⟨_, _, n_av k a, n_av k b, _, ?_, h⟩
    rw [okN_wrap h3, okN_wrap h4, n_av]
    simp only [aInt]
    rw [if_neg (by omega), show Nat.div a b = a / b from rfl, Int.ofNat_tdiv]
  · cases h
theorem rem_ok (h : dRem (tg k) (md k) x y K = true) : ∃ a b, x.av = .i k a ∧ y.av = .i k b ∧ ∃ v : FV, aInt .rem k a b = some v.av ∧ K v = true := by
  unfold dRem at h
  split at h
  · rename_i t1 a t2 b
    obtain ⟨h1, h⟩ := bC_and h
    obtain ⟨h2, h⟩ := bC_and h
    obtain ⟨h3, h⟩ := bC_and h
    obtain ⟨h4, h⟩ := bC_and h
    obtain ⟨h5, h⟩ := bC_and h
    rw [mkI_eq] at h
    rw [Nat.eq_of_beq_eq_true h1, Nat.eq_of_beq_eq_true h2]
    have h5 : 1 ≤ b := Nat.le_of_ble_eq_true h5
    have hl := okN_lim h3
    have hle : a % b ≤ a := Nat.mod_le a b
    refine ⟨_, _, n_av k a, n_av k b, _, ?_, h⟩
    rw [okN_wrap h3, okN_wrap h4, n_av, show Nat.mod a b = a % b from rfl, wrap_small k (by omega)]
    simp only [aInt]
    rw [if_neg (by omega), ← Int.ofNat_tmod]
  · cases h
theorem minB (n b : Nat) : bC (Nat.ble n b) n b = min n b := by
  cases hb : Nat.ble n b with
  | true => rw [bC_t]; have := Nat.le_of_ble_eq_true hb; omega
  | false =>
    rw [bC_f]
    have : ¬ n ≤ b := fun h => by rw [Nat.ble_eq_true_of_le h] at hb; cases hb
    omega
theorem shl_ok (h : dShl (tg k) (md k) k.bits x y K = true) : ∃ a q b, x.av = .i k a ∧ y.av = .i q b ∧ ∃ v : FV, aShift .shl k a b = some v.av ∧ K v = true := by
  unfold dShl at h
  split at h
  · rename_i t1 a
    obtain ⟨h1, h⟩ := bC_and h
    obtain ⟨q, n, h2, h⟩ := natK_ok h
    rw [mkI_eq] at h
    rw [Nat.eq_of_beq_eq_true h1]
    refine ⟨_, q, _, n_av k a, h2, _, ?_, h⟩
    rw [n_mod, minB]
    simp only [aShift]
    rw [if_neg (by omega), Int.toNat_natCast]
    have e : ((Nat.shiftLeft a (min n k.bits) : Nat) : Int) = (a : Int) * 2 ^ min n k.bits := by
      show ((a <<< min n k.bits : Nat) : Int) = _
      rw [Nat.shiftLeft_eq]; push_cast; rfl
    rw [e]
    congr 2
    exact wrap_congr k (by rw [Int.mul_emod, wrap_emod, ← Int.mul_emod])
  · cases h
theorem shr_ok (h : dShr (tg k) (md k) k.bits x y K = true) : ∃ a q b, x.av = .i k a ∧ y.av = .i q b ∧ ∃ v : FV, aShift .shr k a b = some v.av ∧ K v = true := by
  unfold dShr at h
  split at h
  · rename_i t1 a
    obtain ⟨h1, h⟩ := bC_and h
    obtain ⟨h3, h⟩ := bC_and h
    obtain ⟨q, n, h2, h⟩ := natK_ok h
    rw [mkI_eq] at h
    rw [Nat.eq_of_beq_eq_true h1]
    refine ⟨_, q, _, n_av k a, h2, _, ?_, h⟩
    have hl := okN_lim h3
    have e : Nat.shiftRight a (min n k.bits) = a / 2 ^ min n k.bits := Nat.shiftRight_eq_div_pow a _
    have hle : a / 2 ^ min n k.bits ≤ a := Nat.div_le_self _ _
    rw [okN_wrap h3, n_av, minB, e, wrap_small k (by omega)]
    simp only [aShift]
    rw [if_neg (by omega), Int.toNat_natCast]
    congr 2
    have e3 : ((2 ^ min n k.bits : Nat) : Int) = 2 ^ min n k.bits := by rw [Int.natCast_pow]; rfl
    rw [← e3, Int.fdiv_eq_ediv_of_nonneg _ (Int.natCast_nonneg _), Int.natCast_ediv]
  · cases h
theorem cvt_ok (h : dCvt (tg k) (md k) x K = true) : ∃ q n, x.av = .i q n ∧ ∃ v : FV, v.av = .i k (k.wrap n) ∧ K v = true := by
  unfold dCvt at h
  split at h
  · rename_i t1 a
    cases h0 : okN t1 a with
    | true =>
      rw [h0, bC_t, mkI_eq] at h
      obtain ⟨q, hq⟩ := okN_ok h0
      exact ⟨q, a, hq, _, n_mod k a, h⟩
    | false =>
      rw [h0, bC_f] at h
      unfold dCvtN at h
      split at h
      · rename_i k1 hk1
        obtain ⟨h1, hh1⟩ := bC_and h
        obtain ⟨h2, hh2⟩ := bC_and hh1
        clear h hh1
        have h := hh2
        clear hh2
        rw [mkI_eq] at h
        have ht := kOf_some hk1
        subst ht
        refine ⟨k1, _, n_av k1 a, _, ?_, h⟩
        have h1 : tg k1 % 2 = 1 := Nat.eq_of_beq_eq_true h1
        have h2 : tg k1 / 4 ≤ a % md k1 := Nat.le_of_ble_eq_true h2
        have hs : k1.signed = true := by cases k1 <;> first | rfl | (exfalso; revert h1; decide)
        have hM1 : a % md k1 < md k1 := Nat.mod_lt _ (by cases k1 <;> decide)
        have hle : md k1 ≤ md k * 18446744073709551616 := by cases k <;> cases k1 <;> decide
        have hw : k1.wrap a = ((a % md k1 : Nat) : Int) - (md k1 : Nat) := by
          rw [tg_half] at h2
          have e2 : ((md k1 : Nat) : Int) = 2 ^ k1.bits := by rw [md_eq, cast_pow]
          have e3 : (a : Int) % 2 ^ k1.bits = ((a % md k1 : Nat) : Int) := by rw [Int.natCast_emod, e2]
          unfold IntKind.wrap
          simp only
          rw [e3, hs, Bool.true_and, if_pos (by
            rw [decide_eq_true_eq]
            have : ((2 ^ (k1.bits - 1) : Nat) : Int) = 2 ^ (k1.bits - 1) := by cases k1 <;> rfl
            rw [← this]; exact_mod_cast h2), e2]
        rw [n_mod, hw]
        congr 1
        apply wrap_congr
        have e1 : ((Nat.sub (Nat.add (Nat.mod a (md k1)) (Nat.mul (md k) 18446744073709551616)) (md k1) : Nat) : Int) = (((a % md k1 : Nat) : Int) - (md k1 : Nat)) + (2 ^ k.bits) * 18446744073709551616 := by
          have e2 : ((md k : Nat) : Int) = 2 ^ k.bits := by rw [md_eq, cast_pow]
          show ((a % md k1 + md k * 18446744073709551616 - md k1 : Nat) : Int) = _
          rw [← e2]; omega
        rw [show ((Nat.sub (Nat.add (Nat.mod a (md k1)) (Nat.mul (md k) (nat_lit 18446744073709551616))) (md k1) : Nat) : Int) = _ from e1, Int.add_mul_emod_self_left]
      · cases h
  · cases h
end
end Go.Abs
/- The layer Abs, part 49: the third evaluator: an operation of the code. -/
namespace Go.Abs

section
variable (P : Program) (τ : Tys)
/-- By the layer's own evaluator. -/
noncomputable def slowK (o : Option AV) (K : KF) : Bool := match o with
  | some v => bC (okAV v) (K (ofAV v)) false
  | none => false
noncomputable def gSlow (op : AOp) (ρ : Opd → FV) (K : KF) : Bool := match op with
  | .bin op t x y => slowK (aBin P op t (ρ x).av (ρ y).av (x.isC || y.isC)) K
  | .un op x => slowK (aUn op (ρ x).av) K
  | .idx t x i => slowK (aIdx P t (ρ x).av (ρ i).av) K
  | .build t ps => slowK (aBuild P t ((ps.map fun q => (q.1, ρ q.2)).map fun q => (q.1, q.2.av))) K
  | .len t x => slowK (aLen P t (ρ x).av) K
  | .tas x _ t ok => slowK (aTas P (ρ x).av t ok) K
  | .mn mx xs => slowK (aMn mx ((xs.map ρ).map FV.av)) K
  | .sl3 t x lo h m => slowK (aSl3 P t (ρ x).av ((lo.map ρ).map FV.av) (ρ h).av (ρ m).av) K
  | _ => false
noncomputable def gBinI (k : IntKind) (op : BinOp) (t : Nat) (x y : Opd) (ρ : Opd → FV) (K : KF) : Bool := match op with
  | .add => dAdd (ρ x) (tg k) (md k) (ρ y) K
  | .sub => dSub (ρ x) (tg k) (md k) (ρ y) K
  | .mul => dMul (ρ x) (tg k) (md k) (ρ y) K
  | .and => dAnd (ρ x) (tg k) (md k) (ρ y) K
  | .or => dOr (ρ x) (tg k) (md k) (ρ y) K
  | .xor => dXor (ρ x) (tg k) (md k) (ρ y) K
  | .lss => dLss (ρ x) (tg k) (md k) (ρ y) K
  | .leq => dLeq (ρ x) (tg k) (md k) (ρ y) K
  | .gtr => dGtr (ρ x) (tg k) (md k) (ρ y) K
  | .geq => dGeq (ρ x) (tg k) (md k) (ρ y) K
  | .eql => dEqI (ρ x) (tg k) (md k) (ρ y) K
  | .neq => dNeI (ρ x) (tg k) (md k) (ρ y) K
  | .quo => dQuo (tg k) (md k) (ρ x) (ρ y) K
  | .rem => dRem (tg k) (md k) (ρ x) (ρ y) K
  | .shl => dShl (tg k) (md k) k.bits (ρ x) (ρ y) K
  | .shr => dShr (tg k) (md k) k.bits (ρ x) (ρ y) K
  | op => gSlow P (.bin op t x y) ρ K
noncomputable def gBinS (op : BinOp) (t : Nat) (x y : Opd) (ρ : Opd → FV) (K : KF) : Bool := match op with
  | .add => dAddS (ρ x) (ρ y) K
  | .eql => dEqS (ρ x) (ρ y) K
  | .neq => dNeS (ρ x) (ρ y) K
  | op => gSlow P (.bin op t x y) ρ K
noncomputable def gBinN (d : AD) (op : BinOp) (t : Nat) (x : Opd) (v : AV) (ρ : Opd → FV) (K : KF) : Bool := match op with
  | .eql => dNil (nilOf d) (ρ x) K
  | .neq => dNnl (nilOf d) (ρ x) K
  | op => gSlow P (.bin op t x (.c v)) ρ K
noncomputable def gBin (op : BinOp) (t : Nat) (x y : Opd) (ρ : Opd → FV) (K : KF) : Bool := match τ t with
  | some T => (match T.d with
    | .int k => gBinI P k op t x y ρ K
    | .str => gBinS P op t x y ρ K
    | d => match y with
      | .c v => bC (Nat.beq (isNil v) (nilOf d)) (gBinN P d op t x v ρ K) (gSlow P (.bin op t x y) ρ K)
      | .t _ => gSlow P (.bin op t x y) ρ K)
  | none => false
noncomputable def gUn (op : UnOp) (x : Opd) (ρ : Opd → FV) (K : KF) : Bool := match op with
  | .not => dNot (ρ x) K
  | op => gSlow P (.un op x) ρ K
noncomputable def gLen (t : Nat) (x : Opd) (ρ : Opd → FV) (K : KF) : Bool := match τ t with
  | some T => (match T.d with
    | .str => dLenS (ρ x) K
    | .slice _ => dLenL (ρ x) K
    | _ => gSlow P (.len t x) ρ K)
  | none => false
noncomputable def gFad (t : Nat) (x : Opd) (f : Nat) (ρ : Opd → FV) (K : KF) : Bool := match τ t with
  | some T => (match T.d with
    | .st fs => (match fs[f]? with
      | some r => bC (Nat.ble (nat_lit 1) (szT τ r.2.1)) (dFad r.1 (ρ x) K) false
      | none => false)
    | _ => false)
  | none => false
noncomputable def gFld (t : Nat) (x : Opd) (f : Nat) (ρ : Opd → FV) (K : KF) : Bool := match τ t with
  | some T => (match T.d with
    | .st fs => (match fs[f]? with
      | some r => (match τ r.2.1 with
        | some F => bC F.d.agg (dFldA r.1 F.size (ρ x) K) (dFld1 r.1 (ρ x) K)
        | none => false)
      | none => false)
    | _ => false)
  | none => false
noncomputable def gIad (t : Nat) (x i : Opd) (ρ : Opd → FV) (K : KF) : Bool := match τ t with
  | some T => (match T.d with
    | .slice e => bC (Nat.ble (nat_lit 1) (szT τ e)) (dIadS (szT τ e) (ρ x) (ρ i) K) false
    | .arr n e => bC (Nat.ble (nat_lit 1) (szT τ e)) (dIad n (szT τ e) (ρ x) (ρ i) K) false
    | _ => false)
  | none => false
noncomputable def gIdx (t : Nat) (x i : Opd) (ρ : Opd → FV) (K : KF) : Bool := match τ t with
  | some T => (match T.d with
    | .str => dIdxS (ρ x) (ρ i) K
    | _ => gSlow P (.idx t x i) ρ K)
  | none => false
/-- A part of a slice, or of what a pointer names. -/
noncomputable def bndK (n : Nat) (lo hi : Option FV) (K : Nat → Nat → Bool) : Bool := match lo, hi with
  | none, none => K (nat_lit 0) n
  | some i, none => natK i fun a => bC (Nat.ble a n) (K a n) false
  | none, some j => natK j fun b => bC (Nat.ble b n) (K (nat_lit 0) b) false
  | some i, some j => natK i fun a => natK j fun b => bC (Nat.ble a b) (bC (Nat.ble b n) (K a b) false) false
noncomputable def dSlcL (z : Nat) (x : FV) (lo hi : Option FV) (K : KF) : Bool := match x with
  | .sl o g off n z' => bC (Nat.beq z' z) (bndK n lo hi fun a b => fN (Nat.add off (Nat.mul a z)) fun off => fN (Nat.sub b a) fun n => K (.sl o g off n z)) false
  | .n t _ => bC (Nat.beq t (nat_lit 3)) (bndK (nat_lit 0) lo hi fun _ _ => K (.n (nat_lit 3) (nat_lit 0))) false
  | _ => false
noncomputable def dSlcR (n z : Nat) (x : FV) (lo hi : Option FV) (s : GS) (K : KF) : Bool := match x with
  | .p o g off => objC (s.t.get o) g fun _ _ n' _ _ _ => bC (Nat.ble (Nat.add off (Nat.mul n z)) n') (bndK n lo hi fun a b => fN (Nat.add off (Nat.mul a z)) fun off => fN (Nat.sub b a) fun n => K (.sl o g off n z)) false
  | _ => false
noncomputable def gSlc (t : Nat) (x : Opd) (lo hi : Option Opd) (ρ : Opd → FV) (s : GS) (K : KF) : Bool := match τ t with
  | some T => (match T.d with
    | .str => dSlcS (ρ x) (lo.map ρ) (hi.map ρ) K
    | .slice e => bC (Nat.ble (nat_lit 1) (szT τ e)) (dSlcL (szT τ e) (ρ x) (lo.map ρ) (hi.map ρ) K) false
    | .arr n e => bC (Nat.ble (nat_lit 1) (szT τ e)) (dSlcR n (szT τ e) (ρ x) (lo.map ρ) (hi.map ρ) s K) false
    | _ => false)
  | none => false
noncomputable def gLoad (t : Nat) (x : Opd) (ρ : Opd → FV) (s : GS) (K : KF) : Bool := match τ t with
  | some T => bC T.d.agg (dLoadA T.size (ρ x) s K) (dLoad1 (ρ x) s K)
  | none => false
noncomputable def gMki (t : Nat) (x : Opd) (ρ : Opd → FV) (K : KF) : Bool := match τ t with
  | some ⟨.ifc _, _, _, _, _, _, _⟩ => false
  | some _ => K (.c (nat_lit 2) t [ρ x])
  | none => false
/-- The parts of a struct, each of one cell. -/
noncomputable def setF (v : FV) : List FV → Nat → List FV := List.rec (motive := fun _ => Nat → List FV) (fun _ => []) (fun a l ih k => Nat.rec (motive := fun _ => List FV) (v :: l) (fun k _ => a :: ih k) k)
noncomputable def fillG (place : Nat → Option (Nat × Nat)) (K : List FV → List FV → Bool) : List (Nat × FV) → List FV → List FV → Bool := List.rec (motive := fun _ => List FV → List FV → Bool) (fun cs os => K cs os) (fun p _ ih cs os => match place p.1 with
  | some (off, size) => bC (Nat.beq size (nat_lit 1)) (bC (Nat.ble (Nat.succ off) cs.length) (ih (setF p.2 cs off) (p.2 :: os)) false) false
  | none => false)
noncomputable def ones1 (place : Nat → Option (Nat × Nat)) : List (Nat × Opd) → Bool := List.rec (motive := fun _ => Bool) true (fun p _ ih => match place p.1 with
  | some (_, size) => bC (Nat.beq size (nat_lit 1)) ih false
  | none => false)
noncomputable def dOnes (os : List FV) (B : Bool) : Bool := bC (onesF os) B false
noncomputable def gBuild (t : Nat) (ps : List (Nat × Opd)) (ρ : Opd → FV) (K : KF) : Bool := match τ t with
  | some T => (match T.d with
    | .st fs => bC (bC (allT τ fs) (bC (okAVs T.zero.cells) (ones1 (fun i => (fs[i]?).bind fun f => (τ f.2.1).map fun F => (f.1, F.size)) ps) false) false)
        (fillG (fun i => (fs[i]?).bind fun f => (τ f.2.1).map fun F => (f.1, F.size)) (fun cs os => dOnes os (K (.c (nat_lit 0) (nat_lit 0) cs))) (ps.map fun q => (q.1, ρ q.2)) (ofAVs T.zero.cells) [])
        (gSlow P (.build t ps) ρ K)
    | _ => gSlow P (.build t ps) ρ K)
  | none => false
noncomputable def gMkf (f : Fn) (a c : List Opd) (ρ : Opd → FV) (K : KF) : Bool := match f with
  | .func k => K (.c (nat_lit 3) k [.c (nat_lit 0) (nat_lit 0) (a.map ρ), .c (nat_lit 0) (nat_lit 0) (c.map ρ)])
  | _ => false
noncomputable def gPure (op : AOp) (ρ : Opd → FV) (s : GS) (K : KF) : Bool := match op with
  | .mv x => K (ρ x)
  | .pick c a b => dPick (ρ c) (ρ a) (ρ b) K
  | .load t x => gLoad τ t x ρ s K
  | .bin op t x y => gBin P τ op t x y ρ K
  | .un op x => gUn P op x ρ K
  | .len t x => gLen P τ t x ρ K
  | .fad t x f => gFad τ t x f ρ K
  | .fld t x f => gFld τ t x f ρ K
  | .iad t x i => gIad τ t x i ρ K
  | .idx t x i => gIdx P τ t x i ρ K
  | .ext x i => dExt i (ρ x) K
  | .nilck x => dNilck (ρ x) K
  | .mki t x => gMki τ t x ρ K
  | .mkf f a c => gMkf f a c ρ K
  | .slc t x l h => gSlc τ t x l h ρ s K
  | .build t ps => gBuild P τ t ps ρ K
  | op => gSlow P op ρ K
end

section
variable {P : Program} {τ : Tys} (hτ : τ.Ok P) {ρ : Opd → FV} {K : KF} {s : GS} {σ : St}
/-- What a pure operation comes to. -/
def PureG (P : Program) (ρ : Opd → FV) (op : AOp) (σ : St) (K : KF) : Prop := ∃ v : FV, aOp P (fun o => (ρ o).av) op σ = some (v.av, σ) ∧ K v = true
theorem slowK_ok {o : Option AV} {K : KF} (hk : slowK o K = true) : ∃ v : FV, o = some v.av ∧ K v = true := by
  unfold slowK at hk
  split at hk
  · rename_i v
    obtain ⟨h3, h4⟩ := bC_and hk
    exact ⟨_, by rw [okAV_ok v h3], h4⟩
  · cases hk
theorem gSlow_ok {op : AOp} (hk : gSlow P op ρ K = true) : PureG P ρ op σ K := by
  have hm : ∀ l : Option Opd, (l.map ρ).map FV.av = l.map (fun o => (ρ o).av) := fun l => by cases l <;> rfl
  unfold gSlow at hk
  split at hk
  all_goals first | cases hk | (obtain ⟨v, h1, h2⟩ := slowK_ok hk; refine ⟨v, ?_, h2⟩; simp only [aOp])
  · rw [h1]; rfl
  · rw [h1]; rfl
  · rw [h1]; rfl
  · rw [List.map_map] at h1
    rw [show (fun q : Nat × Opd => (q.1, (ρ q.2).av)) = (fun q : Nat × FV => (q.1, q.2.av)) ∘ (fun q => (q.1, ρ q.2)) from rfl, h1]; rfl
  · rw [h1]; rfl
  · rw [h1]; rfl
  · rw [List.map_map] at h1
    rw [show (fun o => (ρ o).av) = FV.av ∘ ρ from rfl, h1]; rfl
  · rw [hm] at h1; rw [h1]; rfl
theorem bin_mk {op : BinOp} {t : Nat} {x y : Opd} (h : ∃ v : FV, aBin P op t (ρ x).av (ρ y).av (x.isC || y.isC) = some v.av ∧ K v = true) : PureG P ρ (.bin op t x y) σ K := by
  obtain ⟨v, h1, h2⟩ := h
  exact ⟨v, by simp only [aOp]; rw [h1]; rfl, h2⟩
theorem bin_intG {op : BinOp} {t : Nat} {k : IntKind} {x y : AV} {c : Bool} {a b : Int} {r : Option AV} (h1 : x = .i k a) (h2 : y = .i k b) (h3 : aInt op k a b = r) (ho : op ≠ .shl ∧ op ≠ .shr) : aBin P op t x y c = r := by
  subst h1 h2 h3
  cases op <;> first | (simp only [aBin, if_true]; done) | (exfalso; exact ho.1 rfl) | (exfalso; exact ho.2 rfl)
theorem gBinI_ok {k : IntKind} {op : BinOp} {t : Nat} {x y : Opd} (hk : gBinI P k op t x y ρ K = true) : PureG P ρ (.bin op t x y) σ K := by
  unfold gBinI at hk
  split at hk
  case h_17 => exact gSlow_ok hk
  case h_15 =>
    obtain ⟨a, q, b, h1, h2, v, h3, h4⟩ := shl_ok hk
    exact bin_mk ⟨v, by rw [h1, h2]; simp only [aBin]; exact h3, h4⟩
  case h_16 =>
    obtain ⟨a, q, b, h1, h2, v, h3, h4⟩ := shr_ok hk
    exact bin_mk ⟨v, by rw [h1, h2]; simp only [aBin]; exact h3, h4⟩
  case h_1 => obtain ⟨a, b, h1, h2, v, h3, h4⟩ := add_ok hk; exact bin_mk ⟨v, bin_intG h1 h2 h3 (by decide), h4⟩
  case h_2 => obtain ⟨a, b, h1, h2, v, h3, h4⟩ := sub_ok hk; exact bin_mk ⟨v, bin_intG h1 h2 h3 (by decide), h4⟩
  case h_3 => obtain ⟨a, b, h1, h2, v, h3, h4⟩ := mul_ok hk; exact bin_mk ⟨v, bin_intG h1 h2 h3 (by decide), h4⟩
  case h_4 => obtain ⟨a, b, h1, h2, v, h3, h4⟩ := and_ok hk; exact bin_mk ⟨v, bin_intG h1 h2 h3 (by decide), h4⟩
  case h_5 => obtain ⟨a, b, h1, h2, v, h3, h4⟩ := or_ok hk; exact bin_mk ⟨v, bin_intG h1 h2 h3 (by decide), h4⟩
  case h_6 => obtain ⟨a, b, h1, h2, v, h3, h4⟩ := xor_ok hk; exact bin_mk ⟨v, bin_intG h1 h2 h3 (by decide), h4⟩
  case h_7 => obtain ⟨a, b, h1, h2, v, h3, h4⟩ := lss_ok hk; exact bin_mk ⟨v, bin_intG h1 h2 h3 (by decide), h4⟩
  case h_8 => obtain ⟨a, b, h1, h2, v, h3, h4⟩ := leq_ok hk; exact bin_mk ⟨v, bin_intG h1 h2 h3 (by decide), h4⟩
  case h_9 => obtain ⟨a, b, h1, h2, v, h3, h4⟩ := gtr_ok hk; exact bin_mk ⟨v, bin_intG h1 h2 h3 (by decide), h4⟩
  case h_10 => obtain ⟨a, b, h1, h2, v, h3, h4⟩ := geq_ok hk; exact bin_mk ⟨v, bin_intG h1 h2 h3 (by decide), h4⟩
  case h_11 => obtain ⟨a, b, h1, h2, v, h3, h4⟩ := eqi_ok hk; exact bin_mk ⟨v, bin_intG h1 h2 h3 (by decide), h4⟩
  case h_12 => obtain ⟨a, b, h1, h2, v, h3, h4⟩ := nei_ok hk; exact bin_mk ⟨v, bin_intG h1 h2 h3 (by decide), h4⟩
  case h_13 => obtain ⟨a, b, h1, h2, v, h3, h4⟩ := quo_ok hk; exact bin_mk ⟨v, bin_intG h1 h2 h3 (by decide), h4⟩
  case h_14 => obtain ⟨a, b, h1, h2, v, h3, h4⟩ := rem_ok hk; exact bin_mk ⟨v, bin_intG h1 h2 h3 (by decide), h4⟩
theorem bin_strG {op : BinOp} {t : Nat} {x y : AV} {c : Bool} {a b : List UInt8} {r : Option AV} (h1 : x = .s a) (h2 : y = .s b) (h3 : aStr op a b = r) : aBin P op t x y c = r := by
  subst h1 h2 h3
  unfold aBin
  cases op <;> rfl
theorem gBinS_ok {op : BinOp} {t : Nat} {x y : Opd} (hk : gBinS P op t x y ρ K = true) : PureG P ρ (.bin op t x y) σ K := by
  unfold gBinS at hk
  split at hk
  · obtain ⟨a, b, h1, h2, v, h3, h4⟩ := dAddS_ok hk
    exact bin_mk ⟨v, bin_strG h1 h2 h3, h4⟩
  · obtain ⟨a, b, h1, h2, v, h3, h4⟩ := dEqS_ok hk
    exact bin_mk ⟨v, bin_strG h1 h2 (by rw [h3]; rfl), h4⟩
  · obtain ⟨a, b, h1, h2, v, h3, h4⟩ := dNeS_ok hk
    exact bin_mk ⟨v, bin_strG h1 h2 (by rw [h3]; rfl), h4⟩
  · exact gSlow_ok hk
include hτ
theorem gBin_ok {op : BinOp} {t : Nat} {x y : Opd} (hy : ∀ v, y = .c v → (ρ y).av = v) (hk : gBin P τ op t x y ρ K = true) : PureG P ρ (.bin op t x y) σ K := by
  unfold gBin at hk
  split at hk
  · rename_i T hT
    split at hk
    · exact gBinI_ok hk
    · exact gBinS_ok hk
    · split at hk
      · rename_i v
        cases hb : Nat.beq (isNil v) (nilOf T.d) with
        | false => rw [hb, bC_f] at hk; exact gSlow_ok hk
        | true =>
          rw [hb, bC_t] at hk
          have hv := Nat.eq_of_beq_eq_true hb
          unfold gBinN at hk
          split at hk
          · obtain ⟨b, h1, h2, h3⟩ := nil_eq (hτ _ _ hT) (K := fun b => kB b K) hk hv
            obtain ⟨r, h4, h5⟩ := kB_ok h1
            refine bin_mk ⟨r, ?_, h5⟩
            rw [hy v rfl, show (x.isC || (Opd.c v).isC) = true by simp [Opd.isC], h2, h4]
          · obtain ⟨b, h1, h2, h3⟩ := nil_eq (hτ _ _ hT) (K := fun b => kN b K) hk hv
            obtain ⟨r, h4, h5⟩ := kN_ok h1
            refine bin_mk ⟨r, ?_, h5⟩
            rw [hy v rfl, show (x.isC || (Opd.c v).isC) = true by simp [Opd.isC], h3, h4]
          · exact gSlow_ok hk
      · exact gSlow_ok hk
  · cases hk
omit hτ in
theorem gUn_ok {op : UnOp} {x : Opd} (hk : gUn P op x ρ K = true) : PureG P ρ (.un op x) σ K := by
  unfold gUn at hk
  split at hk
  · obtain ⟨b, h1, v, h2, h3⟩ := dNot_ok hk
    exact ⟨v, by simp only [aOp, h1, aUn, h2]; rfl, h3⟩
  · exact gSlow_ok hk
theorem gLen_ok {t : Nat} {x : Opd} (hk : gLen P τ t x ρ K = true) : PureG P ρ (.len t x) σ K := by
  unfold gLen at hk
  split at hk
  · rename_i T hT
    obtain ⟨d, s1, b1, z1, c1, hd1, g1⟩ := T
    simp only at hk
    split at hk
    · obtain ⟨a, h1, v, h2, h3⟩ := dLenS_ok hk
      exact ⟨v, by simp only [aOp, h1, aLen, hτ _ _ hT, h2]; rfl, h3⟩
    · rcases dLenL_ok hk with ⟨o, g, off, n, z, h1, v, h2, h3⟩ | ⟨h1, v, h2, h3⟩
      · exact ⟨v, by simp only [aOp, h1, aLen, hτ _ _ hT, h2]; rfl, h3⟩
      · exact ⟨v, by simp only [aOp, h1, aLen, hτ _ _ hT, h2]; rfl, h3⟩
    · exact gSlow_ok hk
  · cases hk
theorem gFad_ok {t : Nat} {x : Opd} {f : Nat} (hk : gFad τ t x f ρ K = true) : PureG P ρ (.fad t x f) σ K := by
  unfold gFad at hk
  split at hk
  · rename_i T hT
    obtain ⟨d, s1, b1, z1, c1, hd1, g1⟩ := T
    simp only at hk
    split at hk
    · rename_i fs
      split at hk
      · rename_i r hr
        obtain ⟨h1, hk2⟩ := bC_and hk
        have h1 : 0 < szT τ r.2.1 := Nat.le_of_ble_eq_true h1
        unfold dFad at hk2
        split at hk2
        · rename_i o g b hx
          refine ⟨_, ?_, hk2⟩
          simp only [aOp, hx, FV.av_p, aFad, hτ _ _ hT, hr, Option.bind_some]
          rw [if_pos (by rw [szT_ok hτ h1]; exact h1)]; rfl
        · cases hk2
      · cases hk
    · cases hk
  · cases hk
theorem gFld_ok {t : Nat} {x : Opd} {f : Nat} (hk : gFld τ t x f ρ K = true) : PureG P ρ (.fld t x f) σ K := by
  unfold gFld at hk
  split at hk
  · rename_i T hT
    obtain ⟨d, s1, b1, z1, c1, hd1, g1⟩ := T
    simp only at hk
    split at hk
    · rename_i fs
      split at hk
      · rename_i r hr
        split at hk
        · rename_i F hF
          cases ha : F.d.agg with
          | true =>
            rw [ha, bC_t] at hk
            unfold dFldA at hk
            split at hk
            · rename_i a l hx
              obtain ⟨h1, hk2⟩ := bC_and hk
              rw [fSp_eq] at hk2
              refine ⟨_, ?_, hk2⟩
              have h1 : r.1 + F.size ≤ l.length := Nat.le_of_ble_eq_true h1
              simp only [aOp, hx, av_ag, aFld, hτ _ _ hT, hr, Option.bind_some, hτ _ _ hF, partOf, ha, if_true, List.length_map]
              rw [if_pos h1, List.map_take, List.map_drop]; rfl
            · cases hk
          | false =>
            rw [ha, bC_f] at hk
            unfold dFld1 at hk
            split at hk
            · rename_i a l hx
              obtain ⟨v, h1, h2⟩ := nthO_ok _ _ hk
              refine ⟨v, ?_, h2⟩
              simp only [aOp, hx, av_ag, aFld, hτ _ _ hT, hr, Option.bind_some, hτ _ _ hF, partOf, ha, Bool.false_eq_true, if_false, List.getElem?_map, h1, Option.map_some]
            · cases hk
        · cases hk
      · cases hk
    · cases hk
  · cases hk
theorem gIad_ok {t : Nat} {x i : Opd} (hk : gIad τ t x i ρ K = true) : PureG P ρ (.iad t x i) σ K := by
  unfold gIad at hk
  split at hk
  · rename_i T hT
    obtain ⟨d, s1, b1, z1, c1, hd1, g1⟩ := T
    simp only at hk
    split at hk
    · rename_i e
      obtain ⟨h1, hk2⟩ := bC_and hk
      have h1 : 0 < szT τ e := Nat.le_of_ble_eq_true h1
      have hz := szT_ok hτ h1
      unfold dIadS at hk2
      split at hk2
      · rename_i o g b n z' hx
        obtain ⟨h2, hk3⟩ := bC_and hk2
        obtain ⟨q, j, h3, hk4⟩ := natK_ok hk3
        obtain ⟨h4, hk5⟩ := bC_and hk4
        have h2 := Nat.eq_of_beq_eq_true h2
        have h4 : j < n := Nat.le_of_ble_eq_true h4
        refine ⟨_, ?_, hk5⟩
        simp only [aOp, hx, FV.av_sl, h3, aIad, hτ _ _ hT]
        rw [if_pos ⟨by rw [hz, h2], by omega, by omega, by omega⟩, h2]
        simp [FV.av_p]
      · cases hk2
    · rename_i n e
      obtain ⟨h1, hk2⟩ := bC_and hk
      have h1 : 0 < szT τ e := Nat.le_of_ble_eq_true h1
      have hz := szT_ok hτ h1
      unfold dIad at hk2
      split at hk2
      · rename_i o g b hx
        obtain ⟨q, j, h3, hk4⟩ := natK_ok hk2
        obtain ⟨h4, hk5⟩ := bC_and hk4
        have h4 : j < n := Nat.le_of_ble_eq_true h4
        refine ⟨_, ?_, hk5⟩
        simp only [aOp, hx, FV.av_p, h3, aIad, hτ _ _ hT]
        rw [if_pos ⟨by rw [hz]; exact h1, by omega, by omega⟩, hz]
        simp
      · cases hk2
    · cases hk
  · cases hk
theorem gIdx_ok {t : Nat} {x i : Opd} (hk : gIdx P τ t x i ρ K = true) : PureG P ρ (.idx t x i) σ K := by
  unfold gIdx at hk
  split at hk
  · rename_i T hT
    obtain ⟨d, s1, b1, z1, c1, hd1, g1⟩ := T
    simp only at hk
    split at hk
    · obtain ⟨a, q, j, h1, h2, b, h3, v, h4, h5⟩ := dIdxS_ok hk
      refine ⟨v, ?_, h5⟩
      simp only [aOp, h1, h2, aIdx, hτ _ _ hT]
      rw [if_pos (by omega), Int.toNat_natCast, h3, h4]; rfl
    · exact gSlow_ok hk
  · cases hk
omit hτ in
theorem bndK_ok {n : Nat} {lo hi : Option FV} {K : Nat → Nat → Bool} (hk : bndK n lo hi K = true) : ∃ a b, aBounds n n (lo.map FV.av) (hi.map FV.av) = some (a, b) ∧ a ≤ b ∧ b ≤ n ∧ K a b = true := by
  unfold bndK at hk
  split at hk
  · exact ⟨0, n, by simp [aBounds, aHi, aLo], Nat.zero_le _, Nat.le_refl _, hk⟩
  · obtain ⟨q, a, h1, hk2⟩ := natK_ok hk
    obtain ⟨h2, hk3⟩ := bC_and hk2
    have h2 : a ≤ n := Nat.le_of_ble_eq_true h2
    refine ⟨a, n, ?_, h2, Nat.le_refl _, hk3⟩
    simp only [Option.map_some, Option.map_none, h1, aBounds, aHi, aLo, Option.bind_some]
    rw [if_pos (by omega)]; simp
  · obtain ⟨q, b, h1, hk2⟩ := natK_ok hk
    obtain ⟨h2, hk3⟩ := bC_and hk2
    have h2 : b ≤ n := Nat.le_of_ble_eq_true h2
    refine ⟨0, b, ?_, Nat.zero_le _, h2, hk3⟩
    simp only [Option.map_some, Option.map_none, h1, aBounds, aHi]
    rw [if_pos (by omega)]; simp [aLo]
  · obtain ⟨q, a, h1, hk2⟩ := natK_ok hk
    obtain ⟨q', b, h1', hk3⟩ := natK_ok hk2
    obtain ⟨h2, hk4⟩ := bC_and hk3
    obtain ⟨h3, hk5⟩ := bC_and hk4
    have h2 : a ≤ b := Nat.le_of_ble_eq_true h2
    have h3 : b ≤ n := Nat.le_of_ble_eq_true h3
    refine ⟨a, b, ?_, h2, h3, hk5⟩
    simp only [Option.map_some, h1, h1', aBounds, aHi]
    rw [if_pos (by omega)]
    simp only [Option.bind_some, aLo]
    rw [if_pos (by omega)]; simp
theorem gSlc_ok (h : s.Is σ) {t : Nat} {x : Opd} {lo hi : Option Opd} (hk : gSlc τ t x lo hi ρ s K = true) : PureG P ρ (.slc t x lo hi) σ K := by
  have hm : ∀ l : Option Opd, (l.map ρ).map FV.av = l.map (fun o => (ρ o).av) := fun l => by cases l <;> rfl
  unfold gSlc at hk
  split at hk
  · rename_i T hT
    obtain ⟨d, s1, b1, z1, c1, hd1, g1⟩ := T
    simp only at hk
    split at hk
    · obtain ⟨a, h1, r, h2, h3⟩ := dSlcS_ok hk
      rw [hm, hm] at h2
      refine ⟨r, ?_, h3⟩
      simp only [aOp, h1, aSlc, hτ _ _ hT]
      rw [h2]; rfl
    · rename_i e
      obtain ⟨h1, hk2⟩ := bC_and hk
      have h1 : 0 < szT τ e := Nat.le_of_ble_eq_true h1
      have hz := szT_ok hτ h1
      unfold dSlcL at hk2
      split at hk2
      · rename_i o g off n z' hx
        obtain ⟨h2, hk3⟩ := bC_and hk2
        have h2 := Nat.eq_of_beq_eq_true h2
        obtain ⟨a, b, h3, _, _, hk4⟩ := bndK_ok hk3
        rw [fN_eq, fN_eq] at hk4
        rw [hm, hm] at h3
        refine ⟨_, ?_, hk4⟩
        simp only [aOp, hx, FV.av_sl, aSlc, hτ _ _ hT]
        rw [if_pos ⟨by rw [hz, h2], by omega⟩, h3, h2]; rfl
      · rename_i t' x' hx
        obtain ⟨h2, hk3⟩ := bC_and hk2
        have h2 : t' = 3 := Nat.eq_of_beq_eq_true h2
        obtain ⟨a, b, h3, _, _, hk4⟩ := bndK_ok hk3
        rw [hm, hm] at h3
        refine ⟨_, ?_, hk4⟩
        simp only [aOp, hx, aSlc, hτ _ _ hT]
        rw [h2, show FV.av (.n 3 x') = .sl0 from rfl]
        simp only
        rw [if_pos (by rw [hz]; exact h1), h3]; rfl
      · cases hk2
    · rename_i n e
      obtain ⟨h1, hk2⟩ := bC_and hk
      have h1 : 0 < szT τ e := Nat.le_of_ble_eq_true h1
      have hz := szT_ok hτ h1
      unfold dSlcR at hk2
      split at hk2
      · rename_i o g off hx
        obtain ⟨ro, e', n', m, d, t', cs, q1, q2, q3⟩ := objC_ok h hk2
        obtain ⟨h2, hk3⟩ := bC_and q3
        have h2 : off + n * szT τ e ≤ n' := Nat.le_of_ble_eq_true h2
        obtain ⟨a, b, h3, _, _, hk4⟩ := bndK_ok hk3
        rw [fN_eq, fN_eq] at hk4
        rw [hm, hm] at h3
        refine ⟨_, ?_, hk4⟩
        simp only [aOp, hx, FV.av_p, aSlc, hτ _ _ hT]
        rw [hz, if_pos h1, cellsAt_some q1]
        simp only [Option.bind_some]
        rw [if_pos (by rw [q2.len]; exact h2), h3]; rfl
      · cases hk2
    · cases hk
  · cases hk
theorem gLoad_ok (h : s.Is σ) {t : Nat} {x : Opd} (hk : gLoad τ t x ρ s K = true) : PureG P ρ (.load t x) σ K := by
  unfold gLoad at hk
  split at hk
  · rename_i T hT
    cases ha : T.d.agg with
    | true =>
      rw [ha, bC_t] at hk
      obtain ⟨v, h1, h2⟩ := dLoadA_ok h ha hk
      exact ⟨v, by simp only [aOp, hτ _ _ hT, h1]; rfl, h2⟩
    | false =>
      rw [ha, bC_f] at hk
      obtain ⟨v, h1, h2⟩ := dLoad1_ok h ha hk
      exact ⟨v, by simp only [aOp, hτ _ _ hT, h1]; rfl, h2⟩
  · cases hk
omit hτ in
theorem setF_ok (v : FV) : ∀ (l : List FV) (k : Nat), (setF v l k).map FV.av = (l.map FV.av).set k v.av
  | [], k => rfl
  | a :: l, 0 => rfl
  | a :: l, k + 1 => by
    show (a :: setF v l k).map FV.av = _
    rw [List.map_cons, setF_ok v l k, List.map_cons, List.set_cons_succ]
omit hτ in
theorem fillG_ok {place : Nat → Option (Nat × Nat)} {K : List FV → List FV → Bool} : ∀ (ps : List (Nat × FV)) (cs os : List FV) (_ : fillG place K ps cs os = true), ∃ cs' os', K cs' os' = true ∧ (onesF os' = true → onesF os = true ∧ fillA place (cs.map FV.av) (ps.map fun q => (q.1, q.2.av)) = some (cs'.map FV.av))
  | [], cs, os, hk => ⟨cs, os, hk, fun ho => ⟨ho, rfl⟩⟩
  | (i, v) :: ps, cs, os, hk => by
    have hk' : (match place i with
      | some (off, size) => bC (Nat.beq size 1) (bC (Nat.ble (off + 1) cs.length) (fillG place K ps (setF v cs off) (v :: os)) false) false
      | none => false) = true := hk
    split at hk'
    · rename_i off size hp
      obtain ⟨h1, hk2⟩ := bC_and hk'
      obtain ⟨h2, hk3⟩ := bC_and hk2
      have h1 := Nat.eq_of_beq_eq_true h1
      have h2 : off + 1 ≤ cs.length := Nat.le_of_ble_eq_true h2
      obtain ⟨cs', os', q1, q2⟩ := fillG_ok ps _ _ hk3
      refine ⟨cs', os', q1, fun ho => ?_⟩
      obtain ⟨r1, r2⟩ := q2 ho
      obtain ⟨w1, w2⟩ := onesF_cons r1
      refine ⟨w2, ?_⟩
      simp only [List.map_cons, fillA, hp]
      obtain ⟨v1, v2⟩ := oneF_ok w1
      rw [v2, if_pos ⟨h1.symm, by rw [List.length_map]; omega, by simp [v1]⟩]
      rw [setF_ok] at r2
      exact r2
    · cases hk'
theorem gBuild_ok {t : Nat} {ps : List (Nat × Opd)} (hk : gBuild P τ t ps ρ K = true) : PureG P ρ (.build t ps) σ K := by
  unfold gBuild at hk
  split at hk
  · rename_i T hT
    obtain ⟨d, s1, b1, z1, c1, hd1, g1⟩ := T
    simp only at hk
    split at hk
    · rename_i fs
      cases hc : bC (allT τ fs) (bC (okAVs z1.cells) (ones1 (fun i => (fs[i]?).bind fun f => (τ f.2.1).map fun F => (f.1, F.size)) ps) false) false with
      | false => rw [hc, bC_f] at hk; exact gSlow_ok hk
      | true =>
        rw [hc, bC_t] at hk
        obtain ⟨h1, h2⟩ := bC_and hc
        obtain ⟨h2, _⟩ := bC_and h2
        obtain ⟨cs', os', q1, q2⟩ := fillG_ok _ _ _ hk
        obtain ⟨q3, q4⟩ := bC_and q1
        obtain ⟨_, q5⟩ := q2 q3
        refine ⟨_, ?_, q4⟩
        rw [okAVs_ok _ h2, List.map_map] at q5
        simp only [aOp, aBuild, hτ _ _ hT]
        rw [if_pos (allT_ok hτ fs h1)]
        have q6 := fillA_le (q := fun i => (fs[i]?).bind fun f => (tyOf P f.2.1).map fun F => (f.1, F.size)) (fun i r hi => by
          rw [Option.bind_eq_some_iff] at hi ⊢
          obtain ⟨f, hf, hi⟩ := hi
          rw [Option.map_eq_some_iff] at hi
          obtain ⟨F, hF, rfl⟩ := hi
          exact ⟨f, hf, by rw [hτ _ _ hF]; rfl⟩) _ _ _ q5
        have e1 : (ps.map fun q => (q.1, (ρ q.2).av)) = ps.map ((fun q : Nat × FV => (q.1, q.2.av)) ∘ fun q => (q.1, ρ q.2)) := rfl
        rw [e1, q6]
        rw [av_ag]; rfl
    · exact gSlow_ok hk
  · cases hk
theorem gPure_ok (h : s.Is σ) {op : AOp} (hc : ∀ v, Opd.c v ∈ op.opds → (ρ (.c v)).av = v) (hk : gPure P τ op ρ s K = true) : PureG P ρ op σ K := by
  unfold gPure at hk
  split at hk
  · exact ⟨_, rfl, hk⟩
  · obtain ⟨v, h1, h2⟩ := dPick_ok hk
    exact ⟨v, by simp only [aOp, h1]; rfl, h2⟩
  · exact gLoad_ok hτ h hk
  · rename_i op t x y
    exact gBin_ok hτ (fun v hv => by rw [hv]; exact hc v (by rw [hv]; simp [AOp.opds])) hk
  · exact gUn_ok hk
  · exact gLen_ok hτ hk
  · exact gFad_ok hτ hk
  · exact gFld_ok hτ hk
  · exact gIad_ok hτ hk
  · exact gIdx_ok hτ hk
  · rename_i x i
    obtain ⟨vs, h1, v, h2, h3⟩ := dExt_ok hk
    exact ⟨v, by simp only [aOp, h1, h2]; rfl, h3⟩
  · rename_i x
    unfold dNilck at hk
    split at hk
    · rename_i hx; exact ⟨_, by simp only [aOp, hx, FV.av_p, aNil]; rfl, hk⟩
    · rename_i hx; exact ⟨_, by simp only [aOp, hx, av_ic, aNil]; rfl, hk⟩
    · rename_i hx; exact ⟨_, by simp only [aOp, hx]; rfl, hk⟩
    · cases hk
  · rename_i t x
    unfold gMki at hk
    split at hk
    · cases hk
    · rename_i T hn hT
      refine ⟨_, ?_, hk⟩
      simp only [aOp, hτ _ _ hT]
      rw [av_ic]
    · cases hk
  · unfold gMkf at hk
    split at hk
    · refine ⟨_, ?_, hk⟩
      simp only [aOp]
      rw [FV.av_c, FV.avs_eq]
      simp only [List.map_cons, List.map_nil, av_ag, List.map_map]; rfl
    · cases hk
  · exact gSlc_ok hτ h hk
  · exact gBuild_ok hτ hk
  · exact gSlow_ok hk
end
end Go.Abs
/- The layer Abs, part 50: the third evaluator: operations that change the store, calls, guards, regions. -/
namespace Go.Abs

/-- Functions, by their number. -/
abbrev Rn := Nat → List FV → GS → KS → Bool
section
variable (X : Ctx) (τ : Tys) (run : Rn)
noncomputable def gAlloc (t : Nat) (s : GS) (K : KS) : Bool := match τ t with
  | some T => bC (okAVs T.zero.cells) (newL t (ofAVs T.zero.cells) s fun o s' => K (.p o (nat_lit 0) (nat_lit 0)) s') false
  | none => false
noncomputable def cellsF (x : FV) (K : List FV → Bool) : Bool := match x with
  | .c 0 _ l => K l
  | x => K [x]
noncomputable def dBox (t : Nat) (x : FV) (s : GS) (K : KS) : Bool := cellsF x fun l => newL t l s fun o s' => K (.p o (nat_lit 0) (nat_lit 0)) s'
noncomputable def gStore (t : Nat) (x y : Opd) (ρ : Opd → FV) (s : GS) (K : KS) : Bool := match τ t with
  | some T => bC T.d.agg (dStoreA T.size (ρ x) (ρ y) s fun s' => K (.c (nat_lit 1) (nat_lit 0) []) s') (bC (Nat.beq T.size (nat_lit 1)) (dStore1 (ρ x) (ρ y) s fun s' => K (.c (nat_lit 1) (nat_lit 0) []) s') false)
  | none => false
/-- Bytes as a string. -/
noncomputable def pkK : List FV → (Nat → Bool) → Bool := List.rec (motive := fun _ => (Nat → Bool) → Bool) (fun K => K (nat_lit 0)) (fun a _ ih K => FV.rec (motive_1 := fun _ => Bool) (motive_2 := fun _ => PUnit) (fun t x => bC (Nat.beq t (nat_lit 512)) (ih fun v => fN (Nat.add (Nat.mod x (nat_lit 256)) (Nat.mul (nat_lit 256) v)) K) false) (fun _ _ _ => false) (fun _ _ _ _ _ => false) (fun _ _ => false) (fun _ _ _ _ => false) ⟨⟩ (fun _ _ _ _ => ⟨⟩) a)
/-- Are they all noughts, and none was written? -/
noncomputable def zeroC (m : Nat) (d : List FV) (t : Tr FV) : Bool := match t, d with
  | .lf, [.n 512 0] => Nat.beq m (nat_lit 1)
  | _, _ => false
noncomputable def dToS (x : FV) (s : GS) (K : KF) : Bool := match x with
  | .n t _ => bC (Nat.beq t (nat_lit 3)) (K (.s (nat_lit 0) (nat_lit 0))) false
  | .sl o g off n z => bC (Nat.beq z (nat_lit 1)) (objC (s.t.get o) g fun _ _ n' m d t => bC (Nat.ble (Nat.add off n) n') (bC (zeroC m d t) (K (.s n (nat_lit 0))) (rngK m d t n off fun l => pkK l fun v => K (.s n v))) false) false
  | _ => false
noncomputable def dOfS (e : Nat) (x : FV) (s : GS) (K : KS) : Bool := match x with
  | .s n v => bytesF n v fun l => newT e l s fun o s' => K (.sl o (nat_lit 0) (nat_lit 0) n (nat_lit 1)) s'
  | _ => false
noncomputable def isSt : FV → Bool := FV.rec (motive_1 := fun _ => Bool) (motive_2 := fun _ => PUnit) (fun _ _ => false) (fun _ _ _ => false) (fun _ _ _ _ _ => false) (fun _ _ => true) (fun _ _ _ _ => false) ⟨⟩ (fun _ _ _ _ => ⟨⟩)
noncomputable def gConv (a b : Nat) (x : Opd) (ρ : Opd → FV) (s : GS) (K : KS) : Bool := match τ a, τ b with
  | some A, some B => (match A.d, B.d with
    | _, .int k => dCvt (tg k) (md k) (ρ x) fun v => K v s
    | .str, .str => bC (isSt (ρ x)) (K (ρ x) s) false
    | .str, .slice e => bC (isU8 τ e) (dOfS e (ρ x) s K) false
    | .slice e, .str => bC (isU8 τ e) (dToS (ρ x) s fun v => K v s) false
    | _, _ => false)
  | _, _ => false
noncomputable def dMks (e z b : Nat) (d : List FV) (l c : FV) (s : GS) (K : KS) : Bool := natK l fun l => natK c fun c => bC (Nat.ble l c) (bC (bC (Nat.ble c (nat_lit 9223372036854775807)) (Nat.ble (Nat.mul b c) (nat_lit 140737488355328)) false) (fN (Nat.mul c z) fun n => newD e n z d s fun o s' => K (.sl o (nat_lit 0) (nat_lit 0) l z) s') false) false
noncomputable def gMks (t : Nat) (l c : Opd) (ρ : Opd → FV) (s : GS) (K : KS) : Bool := match τ t with
  | some T => (match T.d with
    | .slice e => (match τ e with
      | some E => bC (bC (Nat.ble (nat_lit 1) E.size) (bC (Nat.beq E.zero.cells.length E.size) (bC (okAVs E.zero.cells) (onesF (ofAVs E.zero.cells)) false) false) false)
        (dMks e E.size E.bytes (ofAVs E.zero.cells) (ρ l) (ρ c) s K) false
      | none => false)
    | _ => false)
  | none => false
/-- A slice of parts. -/
noncomputable def catF (z : Nat) (zero : List FV) : List FV → List FV := List.rec (motive := fun _ => List FV) [] (fun _ _ ih => zero ++ ih)
noncomputable def fillC (z : Nat) : List (Nat × FV) → List FV → (List FV → Bool) → Bool := List.rec (motive := fun _ => List FV → (List FV → Bool) → Bool) (fun cs K => K cs) (fun p _ ih cs K => cellsF p.2 fun ys => bC (Nat.beq ys.length z) (bC (Nat.ble (Nat.add (Nat.mul p.1 z) z) cs.length) (bC (onesF ys) (fSp (cs.take (Nat.mul p.1 z) ++ (ys ++ cs.drop (Nat.add (Nat.mul p.1 z) z))) fun cs => ih cs K) false) false) false)
noncomputable def dBsl (e z n : Nat) (zs : List FV) (ps : List (Nat × FV)) (s : GS) (K : KS) : Bool := fillC z ps zs fun cs => newT e cs s fun o s' => K (.sl o (nat_lit 0) (nat_lit 0) n z) s'
noncomputable def gBsl (t n : Nat) (ps : List (Nat × Opd)) (ρ : Opd → FV) (s : GS) (K : KS) : Bool := match τ t with
  | some T => (match T.d with
    | .slice e => (match τ e with
      | some E => bC (bC (Nat.ble (nat_lit 1) E.size) (bC (Nat.beq E.zero.cells.length E.size) (bC (okAVs (repl E.zero.cells n)) (Nat.ble (Nat.mul n E.size) (nat_lit 16777216)) false) false) false)
        (dBsl e E.size n (ofAVs (repl E.zero.cells n)) (ps.map fun q => (q.1, ρ q.2)) s K) false
      | none => false)
    | _ => false)
  | none => false
noncomputable def gApp (t : Nat) (x y : Opd) (ρ : Opd → FV) (s : GS) (K : KS) : Bool := match τ t with
  | some T => (match T.d with
    | .slice e => (match τ e with
      | some E => bC (bC (Nat.ble (nat_lit 1) E.size) (bC (Nat.beq E.zero.cells.length E.size) (Nat.ble (nat_lit 1) E.bytes) false) false) (dApp e E.size E.bytes (ρ x) (ρ y) s K) false
      | none => false)
    | _ => false)
  | none => false
noncomputable def gCopy (t : Nat) (x y : Opd) (ρ : Opd → FV) (s : GS) (K : KS) : Bool := match τ t with
  | some T => (match T.d with
    | .slice e => (match τ e with
      | some E => dCopy E.size (ρ x) (ρ y) s K
      | none => false)
    | _ => false)
  | none => false
/-- A byte that is a rune by itself. -/
noncomputable def dNxt (x : FV) (s : GS) (K : KS) : Bool := match x with
  | .p o g 0 => Option.rec (motive := fun _ => Bool) false (fun f => GO.rec (motive := fun _ => Bool) (fun _ _ _ _ _ _ _ => false) (fun g' n v pos => bC (Nat.beq g g') (bC (Nat.ble (Nat.succ pos) n) (bC (Nat.ble n (nat_lit 9223372036854775807)) (fN (Nat.mod (Nat.shiftRight v (Nat.mul (nat_lit 8) pos)) (nat_lit 256)) fun b => bC (Nat.ble b (nat_lit 127)) (fN (Nat.succ pos) fun pos' => s.put o (.iter g' n v pos') fun s' => K (.c (nat_lit 1) (nat_lit 0) [.n (nat_lit 1) (nat_lit 1), .n (nat_lit 36893488147419103233) pos, .n (nat_lit 8589934593) b]) s') false) false) (K (.c (nat_lit 1) (nat_lit 0) [.n (nat_lit 1) (nat_lit 0)]) s)) false) (fun _ _ => false) false (fun _ _ _ _ => false) f) (s.t.get o)
  | _ => false
noncomputable def dRng (x : FV) (s : GS) (K : KS) : Bool := match x with
  | .s n v => s.new (.iter (nat_lit 0) n v (nat_lit 0)) fun o s' => K (.p o (nat_lit 0) (nat_lit 0)) s'
  | _ => false
noncomputable def gRng (t : Nat) (x : Opd) (ρ : Opd → FV) (s : GS) (K : KS) : Bool := match τ t with
  | some T => (match T.d with
    | .str => dRng (ρ x) s K
    | _ => false)
  | none => false
/-- Maps, keyed by strings or numbers. -/
noncomputable def eqKey (d : AD) (x y : FV) : Option Bool := match d, x, y with
  | .str, .s n v, .s m w => some (eqSS n v m w)
  | .int k, .n t a, .n t' b => bC (Nat.beq t (tg k)) (bC (Nat.beq t' (tg k)) (some (Nat.beq (Nat.mod a (md k)) (Nat.mod b (md k)))) none) none
  | _, _, _ => none
noncomputable def okKeyF (d : AD) (x : FV) : Bool := match d, x with
  | .str, .s _ _ => true
  | .int k, .n t _ => Nat.beq t (tg k)
  | _, _ => false
noncomputable def findG (d : AD) (k : FV) (A : Nat → FV × FV → Bool) (B : Bool) : List (FV × FV) → Nat → Bool := List.rec (motive := fun _ => Nat → Bool) (fun _ => B) (fun e _ ih i => Option.rec (motive := fun _ => Bool) false (fun b => bC b (A i e) (ih (Nat.succ i))) (eqKey d k e.1))
noncomputable def entG (x : FV) (s : GS) (K : List (FV × FV) → Bool) : Bool := match x with
  | .n t _ => bC (Nat.beq t (nat_lit 6)) (K []) false
  | .c 5 o _ => Option.rec (motive := fun _ => Bool) false (fun f => GO.rec (motive := fun _ => Bool) (fun _ _ _ _ _ _ _ => false) (fun _ _ _ _ => false) (fun g es => bC (Nat.beq g (nat_lit 0)) (K es) false) false (fun _ _ _ _ => false) f) (s.t.get o)
  | _ => false
noncomputable def dLku (d : AD) (ok : Bool) (z x k : FV) (s : GS) (K : KF) : Bool := bC (okKeyF d k) (entG x s fun es => findG d k (fun _ e => bC ok (K (.c (nat_lit 1) (nat_lit 0) [e.2, .n (nat_lit 1) (nat_lit 1)])) (K e.2)) (bC ok (K (.c (nat_lit 1) (nat_lit 0) [z, .n (nat_lit 1) (nat_lit 0)])) (K z)) es (nat_lit 0)) false
noncomputable def gLku (t : Nat) (x k : Opd) (ok : Bool) (ρ : Opd → FV) (s : GS) (K : KF) : Bool := match τ t with
  | some T => (match T.d with
    | .map kt et => (match τ kt, τ et with
      | some KT, some E => bC (okAV E.zero) (dLku KT.d ok (ofAV E.zero) (ρ x) (ρ k) s K) false
      | _, _ => false)
    | _ => false)
  | none => false
noncomputable def dMup (d : AD) (m k v : FV) (s : GS) (K : KS) : Bool := match m with
  | .c 5 o l => bC (okKeyF d k) (entG (.c 5 o l) s fun es => findG d k (fun i _ => fSp (es.set i (k, v)) fun es' => s.put o (.maps (nat_lit 0) es') fun s' => K (.c (nat_lit 1) (nat_lit 0) []) s') (fSp (es ++ [(k, v)]) fun es' => s.put o (.maps (nat_lit 0) es') fun s' => K (.c (nat_lit 1) (nat_lit 0) []) s') es (nat_lit 0)) false
  | _ => false
noncomputable def gMup (t : Nat) (m k v : Opd) (ρ : Opd → FV) (s : GS) (K : KS) : Bool := match τ t with
  | some T => (match T.d with
    | .map kt _ => (match τ kt with
      | some KT => dMup KT.d (ρ m) (ρ k) (ρ v) s K
      | none => false)
    | _ => false)
  | none => false
noncomputable def gMkm (r : Option Opd) (s : GS) (K : KS) : Bool := match r with
  | none => s.new (.maps (nat_lit 0) []) fun o s' => K (.c (nat_lit 5) o []) s'
  | some _ => false
noncomputable def gCallV (f : FV) (args : List FV) (s : GS) (K : KS) : Bool := match f with
  | .c 3 k [.c 0 _ a, .c 0 _ c] => fSp (a ++ args ++ c) fun l => run k l s K
  | _ => false
noncomputable def gCallF (f : Opd) (args : List Opd) (ρ : Opd → FV) (s : GS) (K : KS) : Bool := match f with
  | .c (.fn (.func k) [] []) => run k (args.map ρ) s K
  | f => gCallV run (ρ f) (args.map ρ) s K
noncomputable def gInv (x : FV) (m : String) (args : List FV) (s : GS) (K : KS) : Bool := match x with
  | .c 2 t [v] => (match X.meth t m v.av with
    | some k => bC (okAV k.2) (run k.1 (ofAV k.2 :: args) s K) false
    | none => false)
  | _ => false
noncomputable def gCall (op : AOp) (ρ : Opd → FV) (s : GS) (K : KS) : Bool := match op with
  | .alloc t => gAlloc τ t s K
  | .box t x => dBox t (ρ x) s K
  | .bsl t n ps => gBsl τ t n ps ρ s K
  | .store t x y => gStore τ t x y ρ s K
  | .conv a b x => gConv τ a b x ρ s K
  | .mks t l c => gMks τ t l c ρ s K
  | .rng t x => gRng τ t x ρ s K
  | .nxt x => dNxt (ρ x) s K
  | .app t _ x y => gApp τ t x y ρ s K
  | .copy t x y => gCopy τ t x y ρ s K
  | .call f args => gCallF run f args ρ s K
  | .inv x m args => gInv X run (ρ x) m (args.map ρ) s K
  | .mkm _ r => gMkm r s K
  | .mup t m k v => gMup τ t m k v ρ s K
  | .lku t x k ok => gLku τ t x k ok ρ s fun v => K v s
  | op => gPure X.P τ op ρ s fun v => K v s
end
def Rn.Ok (X : Ctx) (run : Rn) : Prop := ∀ (f : Nat) (args : List FV) (s : GS) (σ : St) (K : KS), s.Is σ → run f args s K = true → ∃ n, ToG (bFn X n f (args.map FV.av) σ) K
/-- What an operation of the code comes to. -/
def CallG (X : Ctx) (ρ : Opd → FV) (op : AOp) (σ : St) (K : KS) : Prop := ∃ n, ToG (aCall X (bFn X n) (fun o => (ρ o).av) op σ) K
section
variable {X : Ctx} {τ : Tys} (hτ : τ.Ok X.P) {run : Rn} (hr : run.Ok X) {ρ : Opd → FV} {K : KS} {s : GS} {σ : St} (h : s.Is σ)
include h
theorem pure_call {op : AOp} (ho : ∀ n : Nat, aCall X (bFn X n) (fun o => (ρ o).av) op σ = aOp X.P (fun o => (ρ o).av) op σ) (hp : PureG X.P ρ op σ fun v => K v s) : CallG X ρ op σ K := by
  obtain ⟨v, h1, h2⟩ := hp
  exact ⟨0, v, σ, s, by rw [ho, h1], h, h2⟩
include hτ
theorem gAlloc_ok {t : Nat} (hk : gAlloc τ t s K = true) : CallG X ρ (.alloc t) σ K := by
  unfold gAlloc at hk
  split at hk
  · rename_i T hT
    obtain ⟨h1, h2⟩ := bC_and hk
    obtain ⟨s', q1, q2⟩ := newL_ok h h2
    rw [okAVs_ok _ h1] at q2
    exact ⟨0, _, _, s', by simp only [aCall, aOp, hτ _ _ hT]; rfl, q2, q1⟩
  · cases hk
omit hτ in
theorem dBox_ok {t : Nat} {x : Opd} (hk : dBox t (ρ x) s K = true) : CallG X ρ (.box t x) σ K := by
  unfold dBox cellsF at hk
  split at hk
  · rename_i a l hx
    obtain ⟨s', q1, q2⟩ := newL_ok h hk
    refine ⟨0, _, _, s', ?_, q2, q1⟩
    simp only [aCall, aOp, hx, av_ag]; rfl
  · have hone : oneF (ρ x) = true := by
      obtain ⟨h1, _⟩ := bC_and hk
      exact (onesF_cons h1).1
    obtain ⟨h1, h2⟩ := oneF_ok hone
    obtain ⟨s', q1, q2⟩ := newL_ok h hk
    refine ⟨0, _, _, s', ?_, q2, q1⟩
    simp only [aCall, aOp]
    have e : [ρ x].map FV.av = (ρ x).av.cells := by rw [h2]; rfl
    rw [e]
    split
    · rename_i e2; rw [e2] at h1; cases h1
    · rename_i e2; rw [e2] at h1; cases h1
    · rename_i e2; rw [e2] at h1; cases h1
    · rfl
theorem gStore_ok {t : Nat} {x y : Opd} (hk : gStore τ t x y ρ s K = true) : CallG X ρ (.store t x y) σ K := by
  unfold gStore at hk
  split at hk
  · rename_i T hT
    cases ha : T.d.agg with
    | true =>
      rw [ha, bC_t] at hk
      obtain ⟨σ', s', h1, h2, h3⟩ := dStoreA_ok h hk
      exact ⟨0, _, σ', s', by simp only [aCall, aOp, hτ _ _ hT, h1]; rfl, h2, h3⟩
    | false =>
      rw [ha, bC_f] at hk
      obtain ⟨h0, hk2⟩ := bC_and hk
      obtain ⟨σ', s', h1, h2, h3⟩ := dStore1_ok h (Nat.eq_of_beq_eq_true h0) hk2
      exact ⟨0, _, σ', s', by simp only [aCall, aOp, hτ _ _ hT, h1]; rfl, h2, h3⟩
  · cases hk
omit hτ h in
theorem pkK_ok : ∀ (l : List FV) {K : Nat → Bool} (_ : pkK l K = true), ∃ v, bytesOf (l.map FV.av) = some (unpk l.length v) ∧ K v = true
  | [], K, hk => ⟨0, rfl, hk⟩
  | a :: l, K, hk => by
    cases a with
    | n t x =>
      have hk' : bC (Nat.beq t 512) (pkK l fun v => fN (Nat.add (Nat.mod x 256) (Nat.mul 256 v)) K) false = true := hk
      obtain ⟨h1, h2⟩ := bC_and hk'
      have h1 := Nat.eq_of_beq_eq_true h1
      subst h1
      obtain ⟨v, h3, h4⟩ := pkK_ok l h2
      rw [fN_eq] at h4
      refine ⟨_, ?_, h4⟩
      have hx : x % 256 < 256 := Nat.mod_lt _ (by omega)
      have e1 : FV.av (.n 512 x) = .i .u8 (x % 256 : Nat) := by
        rw [FV.av_n, show (512 : Nat) = tg .u8 from rfl, scal_int, ← wrap_natmod .u8 x, show x % 2 ^ IntKind.u8.bits = x % 256 from rfl, wrap_small .u8 (by simp only [IntKind.signed, IntKind.bits, if_false, Bool.false_eq_true]; omega)]
      rw [List.map_cons, e1]
      simp only [bytesOf, h3, Option.map_some, List.length_cons, unpk_succ]
      have e2 : Nat.add (Nat.mod x 256) (Nat.mul 256 v) = x % 256 + 256 * v := rfl
      rw [e2, show (x % 256 + 256 * v) % 256 = x % 256 by omega, show (x % 256 + 256 * v) / 256 = v by omega, Int.toNat_natCast]
    | _ => cases hk
omit hτ h in
theorem zeroC_ok {n' m : Nat} {d : List FV} {t : Tr FV} {cs : List AV} (hz : zeroC m d t = true) (hc : CellsIs n' m d t cs) (off n : Nat) (hl : off + n ≤ n') : bytesOf ((cs.drop off).take n) = some (unpk n 0) := by
  unfold zeroC at hz
  split at hz
  · have hm : m = 1 := Nat.eq_of_beq_eq_true hz
    have hcell : ∀ i, i < n' → cs[i]? = some (.i .u8 0) := fun i hi => by
      rw [hc.at_ i hi, hm]
      have : getC 1 [.n 512 0] .lf i = .n 512 0 := by
        show nthF [.n 512 0] (i % 1) = _
        rw [Nat.mod_one]; rfl
      rw [this]; rfl
    have key : ∀ (k : Nat) (l : List AV), l.length = k → (∀ i, i < k → l[i]? = some (.i .u8 0)) → bytesOf l = some (unpk k 0) := by
      intro k
      induction k with
      | zero => intro l hl _; rw [List.eq_nil_of_length_eq_zero hl]; rfl
      | succ k ih =>
        intro l hl hi
        cases l with
        | nil => simp at hl
        | cons a l =>
          have h0 : a = .i .u8 0 := Option.some.inj (hi 0 (by omega))
          subst h0
          have h1 := ih l (by simpa using hl) (fun i hlt => by have := hi (i + 1) (by omega); simpa using this)
          simp only [bytesOf, h1, Option.map_some, unpk_succ]; rfl
    refine key n _ (by have := hc.len; simp; omega) fun i hi => ?_
    rw [List.getElem?_take, if_pos hi, List.getElem?_drop]
    exact hcell _ (by omega)
  · cases hz
theorem gConv_ok {a b : Nat} {x : Opd} (hk : gConv τ a b x ρ s K = true) : CallG X ρ (.conv a b x) σ K := by
  unfold gConv at hk
  split at hk
  · rename_i A B hA hB
    obtain ⟨d1, s1, b1, z1, c1, hd1, g1⟩ := A
    obtain ⟨d2, s2, b2, z2, c2, hd2, g2⟩ := B
    simp only at hk
    split at hk
    · obtain ⟨q, n, h1, v, h2, h3⟩ := cvt_ok hk
      refine ⟨0, v, σ, s, ?_, h, h3⟩
      simp only [aCall, aOp, aConv, hτ _ _ hA, hτ _ _ hB, h1, h2]
    · obtain ⟨h1, hk2⟩ := bC_and hk
      cases hx : ρ x with
      | s n v =>
        rw [hx] at hk2
        exact ⟨0, _, σ, s, by simp only [aCall, aOp, aConv, hτ _ _ hA, hτ _ _ hB, hx, FV.av_s], h, hk2⟩
      | _ => rw [hx] at h1; cases h1
    · rename_i e
      obtain ⟨h1, hk2⟩ := bC_and hk
      obtain ⟨_, _, _, _, _, _, he⟩ := isU8_ok hτ h1
      unfold dOfS at hk2
      split at hk2
      · rename_i n v hx
        obtain ⟨l, q1, q2, q3, q4⟩ := bytesF_ok n v hk2
        obtain ⟨s', r1, r2⟩ := newT_ok h q1
        refine ⟨0, _, _, s', ?_, r2, r1⟩
        simp only [aCall, aOp, aConv, hτ _ _ hA, hτ _ _ hB, hx, FV.av_s, he, unpk_len, FV.av_sl]
        rw [q2]; rfl
      · cases hk2
    · rename_i e
      obtain ⟨h1, hk2⟩ := bC_and hk
      obtain ⟨_, _, _, _, _, _, he⟩ := isU8_ok hτ h1
      unfold dToS at hk2
      split at hk2
      · rename_i t x' hx
        obtain ⟨h2, hk3⟩ := bC_and hk2
        have h2 : t = 3 := Nat.eq_of_beq_eq_true h2
        refine ⟨0, _, σ, s, ?_, h, hk3⟩
        simp only [aCall, aOp, aConv, hτ _ _ hA, hτ _ _ hB, hx]
        rw [h2, show FV.av (.n 3 x') = .sl0 from rfl]
        simp only [he]; rfl
      · rename_i o g off n z hx
        obtain ⟨h2, hk3⟩ := bC_and hk2
        have h2 : z = 1 := Nat.eq_of_beq_eq_true h2
        obtain ⟨ro, e', n', m, d, t, cs, w1, w2, w3⟩ := objC_ok h hk3
        obtain ⟨h4, h5⟩ := bC_and w3
        have h4 : off + n ≤ n' := Nat.le_of_ble_eq_true h4
        cases hz0 : zeroC m d t with
        | true =>
          rw [hz0, bC_t] at h5
          have hby := zeroC_ok hz0 w2 off n h4
          refine ⟨0, _, σ, s, ?_, h, h5⟩
          simp only [aCall, aOp, aConv, hτ _ _ hA, hτ _ _ hB, hx, FV.av_sl, he]
          rw [if_pos h2, cellsAt_some w1]
          simp only [Option.bind_some]
          rw [if_pos (by rw [w2.len]; exact h4), hby]; rfl
        | false =>
        rw [hz0, bC_f] at h5
        obtain ⟨l, r1, r2, r3⟩ := rngK_ok w2 n off h4 h5
        obtain ⟨v, v1, v2⟩ := pkK_ok l r1
        have hll : l.length = n := by
          have e1 := congrArg List.length r2
          have := w2.len
          simp only [List.length_map, List.length_take, List.length_drop] at e1
          omega
        refine ⟨0, _, σ, s, ?_, h, v2⟩
        simp only [aCall, aOp, aConv, hτ _ _ hA, hτ _ _ hB, hx, FV.av_sl, he]
        rw [if_pos h2, cellsAt_some w1]
        simp only [Option.bind_some]
        rw [if_pos (by rw [w2.len]; exact h4), ← r2, v1, hll]; rfl
      · cases hk2
    · cases hk
  · cases hk
theorem gMks_ok {t : Nat} {l c : Opd} (hk : gMks τ t l c ρ s K = true) : CallG X ρ (.mks t l c) σ K := by
  unfold gMks at hk
  split at hk
  · rename_i T hT
    obtain ⟨d1, s1, b1, z1, c1, hd1, g1⟩ := T
    simp only at hk
    split at hk
    · rename_i e
      split at hk
      · rename_i E hE
        obtain ⟨h1, hk2⟩ := bC_and hk
        obtain ⟨h2, h1⟩ := bC_and h1
        obtain ⟨h3, h1⟩ := bC_and h1
        obtain ⟨h4, h5⟩ := bC_and h1
        unfold dMks at hk2
        obtain ⟨k1, l', q1, hk3⟩ := natK_ok hk2
        obtain ⟨k2, c', q2, hk4⟩ := natK_ok hk3
        obtain ⟨q3, hk5⟩ := bC_and hk4
        obtain ⟨q4, hk6⟩ := bC_and hk5
        rw [fN_eq] at hk6
        have h2 : 1 ≤ E.size := Nat.le_of_ble_eq_true h2
        have h3 := Nat.eq_of_beq_eq_true h3
        have q3 : l' ≤ c' := Nat.le_of_ble_eq_true q3
        obtain ⟨hc9, q4⟩ := bC_and q4
        have hc9 : c' ≤ 9223372036854775807 := Nat.le_of_ble_eq_true hc9
        have q4 : E.bytes * c' ≤ 140737488355328 := Nat.le_of_ble_eq_true q4
        have hlen : (ofAVs E.zero.cells).length = E.size := by
          have := congrArg List.length (okAVs_ok _ h4)
          rw [List.length_map] at this; omega
        have hrep := CellsIs.rep h5 c'
        rw [hlen, okAVs_ok _ h4] at hrep
        obtain ⟨s', r1, r2⟩ := newD_ok h hrep hk6
        refine ⟨0, _, _, s', ?_, r2, r1⟩
        simp only [aCall, aOp, aMks, hτ _ _ hT, hτ _ _ hE, q1, q2]
        rw [if_pos ⟨by omega, h3, by omega, by omega, by omega, by omega⟩]
        simp [FV.av_sl]
      · cases hk
    · cases hk
  · cases hk
omit h hτ in
theorem setCells_eq : ∀ (ys cs : List AV) (off : Nat), off + ys.length ≤ cs.length → setCells cs off ys = cs.take off ++ (ys ++ cs.drop (off + ys.length))
  | [], cs, off, _ => by simp [setCells]
  | y :: ys, cs, off, hl => by
    simp only [List.length_cons] at hl
    have hlt : off < cs.length := by omega
    simp only [setCells]
    rw [setCells_eq ys (cs.set off y) (off + 1) (by simp; omega)]
    rw [List.take_add_one, List.take_set_of_le (Nat.le_refl off), List.getElem?_set_self hlt, List.drop_set_of_lt (by omega)]
    simp [List.append_assoc, Nat.add_assoc, Nat.add_comm 1]
omit h hτ in
theorem cellsF_ok {x : FV} {K : List FV → Bool} (hk : cellsF x K = true) : ∃ l, K l = true ∧ (onesF l = true → x.av.cells = l.map FV.av) := by
  unfold cellsF at hk
  split at hk
  · refine ⟨_, hk, fun _ => ?_⟩
    rw [av_ag]; rfl
  · exact ⟨_, hk, fun ho => (oneF_ok (onesF_cons ho).1).2⟩
omit h hτ in
theorem fillC_ok {z : Nat} : ∀ (ps : List (Nat × FV)) (cs : List FV) {K : List FV → Bool} (_ : fillC z ps cs K = true), ∃ cs', K cs' = true ∧ fillA (fun i => some (i * z, z)) (cs.map FV.av) (ps.map fun q => (q.1, q.2.av)) = some (cs'.map FV.av)
  | [], cs, K, hk => ⟨cs, hk, rfl⟩
  | (i, v) :: ps, cs, K, hk => by
    have hk' : (cellsF v fun ys => bC (Nat.beq ys.length z) (bC (Nat.ble (i * z + z) cs.length) (bC (onesF ys) (fSp (cs.take (i * z) ++ (ys ++ cs.drop (i * z + z))) fun cs => fillC z ps cs K) false) false) false) = true := hk
    obtain ⟨ys, h1, h2⟩ := cellsF_ok hk'
    obtain ⟨h3, h1⟩ := bC_and h1
    obtain ⟨h4, h1⟩ := bC_and h1
    obtain ⟨h5, h1⟩ := bC_and h1
    rw [fSp_eq] at h1
    have h3 := Nat.eq_of_beq_eq_true h3
    have h4 : i * z + z ≤ cs.length := Nat.le_of_ble_eq_true h4
    obtain ⟨cs', q1, q2⟩ := fillC_ok ps _ h1
    refine ⟨cs', q1, ?_⟩
    simp only [List.map_cons, fillA]
    rw [h2 h5, if_pos ⟨by rw [List.length_map]; exact h3, by rw [List.length_map]; exact h4, onesF_av ys h5⟩]
    rw [setCells_eq _ _ _ (by rw [List.length_map, List.length_map, h3]; exact h4), List.length_map, h3]
    simp only [List.map_append, List.map_take, List.map_drop] at q2
    exact q2
theorem gBsl_ok {t n : Nat} {ps : List (Nat × Opd)} (hk : gBsl τ t n ps ρ s K = true) : CallG X ρ (.bsl t n ps) σ K := by
  unfold gBsl at hk
  split at hk
  · rename_i T hT
    obtain ⟨d1, s1, b1, z1, c1, hd1, g1⟩ := T
    simp only at hk
    split at hk
    · rename_i e
      split at hk
      · rename_i E hE
        obtain ⟨h1, hk2⟩ := bC_and hk
        obtain ⟨h2, h1⟩ := bC_and h1
        obtain ⟨h3, h1⟩ := bC_and h1
        obtain ⟨h4, h5⟩ := bC_and h1
        unfold dBsl at hk2
        obtain ⟨cs', q1, q2⟩ := fillC_ok _ _ hk2
        obtain ⟨s', r1, r2⟩ := newT_ok h q1
        rw [okAVs_ok _ h4, List.map_map] at q2
        refine ⟨0, _, _, s', ?_, r2, r1⟩
        simp only [aCall, aOp, aBsl, hτ _ _ hT, hτ _ _ hE]
        rw [if_pos ⟨Nat.le_of_ble_eq_true h2, Nat.eq_of_beq_eq_true h3, Nat.le_of_ble_eq_true h5⟩]
        have e1 : (ps.map fun q => (q.1, (ρ q.2).av)) = ps.map ((fun q : Nat × FV => (q.1, q.2.av)) ∘ fun q => (q.1, ρ q.2)) := rfl
        rw [e1, q2]; rfl
      · cases hk
    · cases hk
  · cases hk
theorem gApp_ok {t : Nat} {b : Bool} {x y : Opd} (hk : gApp τ t x y ρ s K = true) : CallG X ρ (.app t b x y) σ K := by
  unfold gApp at hk
  split at hk
  · rename_i T hT
    obtain ⟨d1, s1, b1, z1, c1, hd1, g1⟩ := T
    simp only at hk
    split at hk
    · rename_i e
      split at hk
      · rename_i E hE
        obtain ⟨h1, hk2⟩ := bC_and hk
        obtain ⟨h2, h1⟩ := bC_and h1
        obtain ⟨h3, h4⟩ := bC_and h1
        exact ⟨0, dApp_ok h (hτ _ _ hT) (hτ _ _ hE) (Nat.le_of_ble_eq_true h2) (Nat.eq_of_beq_eq_true h3) (Nat.le_of_ble_eq_true h4) hk2⟩
      · cases hk
    · cases hk
  · cases hk
theorem gCopy_ok {t : Nat} {x y : Opd} (hk : gCopy τ t x y ρ s K = true) : CallG X ρ (.copy t x y) σ K := by
  unfold gCopy at hk
  split at hk
  · rename_i T hT
    obtain ⟨d1, s1, b1, z1, c1, hd1, g1⟩ := T
    simp only at hk
    split at hk
    · rename_i e
      split at hk
      · rename_i E hE
        exact ⟨0, dCopy_ok h (hτ _ _ hT) (hτ _ _ hE) hk⟩
      · cases hk
    · cases hk
  · cases hk
theorem gRng_ok {t : Nat} {x : Opd} (hk : gRng τ t x ρ s K = true) : CallG X ρ (.rng t x) σ K := by
  unfold gRng at hk
  split at hk
  · rename_i T hT
    obtain ⟨d1, s1, b1, z1, c1, hd1, g1⟩ := T
    simp only at hk
    split at hk
    · unfold dRng at hk
      split at hk <;> first | cases hk | skip
      rename_i n v hx
      obtain ⟨s', q1, q2⟩ := GS.new_ok h (f := .iter 0 n v 0) (a := ⟨0, false, .iter (unpk n v) 0⟩) rfl hk
      exact ⟨0, _, _, s', by simp only [aCall, aOp, aRng, hτ _ _ hT, hx, FV.av_s]; rfl, q2, q1⟩
    · cases hk
  · cases hk
omit hτ in
theorem dNxt_ok {x : Opd} (hk : dNxt (ρ x) s K = true) : CallG X ρ (.nxt x) σ K := by
  unfold dNxt at hk
  split at hk
  · rename_i o g hx
    cases ho : s.t.get o with
    | none => rw [ho] at hk; cases hk
    | some f =>
      rw [ho] at hk
      cases f with
      | iter g' n v pos =>
        obtain ⟨h1, hk2⟩ := bC_and hk
        have h1 := Nat.eq_of_beq_eq_true h1
        obtain ⟨a, h2, rfl⟩ := h.2 _ _ ho
        have hx' : (ρ x).av = .p o g 0 := by rw [hx]; rfl
        cases hp : Nat.ble (Nat.succ pos) n with
        | true =>
          rw [hp, bC_t] at hk2
          obtain ⟨h3, hk3⟩ := bC_and hk2
          rw [fN_eq] at hk3
          obtain ⟨h4, hk4⟩ := bC_and hk3
          rw [fN_eq] at hk4
          have hp : pos < n := Nat.le_of_ble_eq_true hp
          have h3 : n ≤ 9223372036854775807 := Nat.le_of_ble_eq_true h3
          have hb : Nat.mod (Nat.shiftRight v (Nat.mul 8 pos)) 256 = v / 256 ^ pos % 256 := by rw [shr_eq]; rfl
          rw [show Nat.mod (Nat.shiftRight v (Nat.mul (nat_lit 8) pos)) (nat_lit 256) = v / 256 ^ pos % 256 from hb] at h4 hk4
          have h4 : v / 256 ^ pos % 256 ≤ 127 := Nat.le_of_ble_eq_true h4
          obtain ⟨s', r1, r2⟩ := GS.put_ok h (at_lt h2) (f := .iter g' n v (pos + 1)) (a := ⟨g', false, .iter (unpk n v) (pos + 1)⟩) rfl hk4
          have hdec : Utf8.decode ⟨(unpk n v).toArray⟩ pos = (v / 256 ^ pos % 256, 1) := by
            have hg := unpk_get pos n v hp
            have hsz : pos < (ByteArray.mk (unpk n v).toArray).size := by
              show pos < (unpk n v).toArray.size
              simp [unpk_len, hp]
            have hgt : (ByteArray.mk (unpk n v).toArray)[pos]'hsz = UInt8.ofNat (v / 256 ^ pos % 256) := by
              have e1 : (ByteArray.mk (unpk n v).toArray)[pos]'hsz = (unpk n v)[pos]'(by rw [unpk_len]; exact hp) := by
                show (unpk n v).toArray[pos]'_ = _
                simp
              rw [e1]
              rw [List.getElem?_eq_getElem (by rw [unpk_len]; exact hp)] at hg
              exact Option.some.inj hg
            have e2 : (UInt8.ofNat (v / 256 ^ pos % 256)).toNat = v / 256 ^ pos % 256 := by
              rw [UInt8.toNat_ofNat']
              exact Nat.mod_eq_of_lt (by omega)
            have := Go.decode_ascii ⟨(unpk n v).toArray⟩ pos hsz (by rw [hgt, e2]; omega)
            rw [this, hgt, e2]
          refine ⟨0, _, _, s', ?_, r2, r1⟩
          simp only [aCall, aOp, hx', aNxt, h2]
          rw [if_pos ⟨h1, trivial⟩, if_pos (by rw [unpk_len]; exact hp), hdec]
          rw [av_tu]
          simp only [List.map_cons, List.map_nil]
          rw [i64_small (by omega), show FV.av (.n 8589934593 (v / 256 ^ pos % 256)) = .i .i32 ((v / 256 ^ pos % 256 : Nat) : Int) by
            rw [FV.av_n, show (8589934593 : Nat) = tg .i32 from rfl, scal_int, wrap_small .i32 (by simp only [IntKind.signed, IntKind.bits, if_true]; omega)]]
          rfl
        | false =>
          rw [hp, bC_f] at hk2
          have hp : ¬ pos < n := fun hl => by
            have := Nat.ble_eq_true_of_le hl
            rw [this] at hp; cases hp
          refine ⟨0, _, σ, s, ?_, h, hk2⟩
          simp only [aCall, aOp, hx', aNxt, h2]
          rw [if_pos ⟨h1, trivial⟩, if_neg (by rw [unpk_len]; exact hp)]; rfl
      | _ => cases hk
  · cases hk
end
end Go.Abs
/- The layer Abs, part 51: the third evaluator: maps, calls, steps, regions. -/
namespace Go.Abs

theorem entA_len (es : List (FV × FV)) : (entA es).length = es.length := List.length_map _
section
variable {P : Program} {kt : Nat} {KT : AT} (hK : tyOf P kt = some KT)
include hK
theorem eqKey_ok {x y : FV} {b : Bool} (h : eqKey KT.d x y = some b) : aEq P 20 kt x.av y.av = some b ∧ (b = true → x.av = y.av) := by
  unfold eqKey at h
  split at h
  · rename_i n v m w hd
    cases h
    rw [eqSS_eq]
    refine ⟨by unfold aEq; rw [hK]; simp only [hd, FV.av_s], fun e => ?_⟩
    rw [FV.av_s, FV.av_s, eq_of_beq e]
  · rename_i k t a t' b' hd
    obtain ⟨h1, h2⟩ := bC_some h
    obtain ⟨h3, h4⟩ := bC_some h2
    cases h4
    rw [Nat.eq_of_beq_eq_true h1, Nat.eq_of_beq_eq_true h3, beq_wrap, n_av, n_av]
    refine ⟨by unfold aEq; rw [hK]; simp only [hd, if_true], fun e => ?_⟩
    rw [eq_of_beq e]
  · cases h
theorem okKeyF_ok {x : FV} (h : okKeyF KT.d x = true) : keyOk P kt x.av = true ∧ bitsKey x.av = true := by
  unfold okKeyF at h
  split at h
  · rename_i n v hd
    exact ⟨by simp only [keyOk, hK, hd, FV.av_s, simpleKey, Bool.true_or], rfl⟩
  · rename_i k t a hd
    rw [Nat.eq_of_beq_eq_true h, n_av]
    exact ⟨by simp only [keyOk, hK, hd, simpleKey, Bool.true_or], rfl⟩
  · cases h
theorem findG_ok {k : FV} {A : Nat → FV × FV → Bool} {B : Bool} : ∀ (es : List (FV × FV)) (i : Nat) (_ : findG KT.d k A B es i = true),
    (∃ j e, findA P kt k.av (entA es) i = some (some (i + j, (e.1.av, e.2.av))) ∧ es[j]? = some e ∧ A (i + j) e = true ∧ k.av = e.1.av) ∨ (findA P kt k.av (entA es) i = some none ∧ B = true)
  | [], i, h => .inr ⟨rfl, h⟩
  | e :: es, i, h => by
    have h' : Option.rec (motive := fun _ => Bool) false (fun b => bC b (A i e) (findG KT.d k A B es (i + 1))) (eqKey KT.d k e.1) = true := h
    cases hq : eqKey KT.d k e.1 with
    | none => rw [hq] at h'; cases h'
    | some b =>
      rw [hq] at h'
      obtain ⟨q1, q2⟩ := eqKey_ok hK hq
      cases b with
      | true =>
        have h' : A i e = true := h'
        exact .inl ⟨0, e, by simp only [entA, List.map_cons, findA, q1, Nat.add_zero], rfl, h', q2 rfl⟩
      | false =>
        have h' : findG KT.d k A B es (i + 1) = true := h'
        rcases findG_ok es (i + 1) h' with ⟨j, e', r1, r2, r3, r4⟩ | ⟨r1, r2⟩
        · refine .inl ⟨j + 1, e', ?_, by simpa using r2, ?_, r4⟩
          · rw [show i + (j + 1) = i + 1 + j by omega]
            simp only [entA, List.map_cons, findA, q1]
            exact r1
          · rw [show i + (j + 1) = i + 1 + j by omega]; exact r3
        · refine .inr ⟨?_, r2⟩
          simp only [entA, List.map_cons, findA, q1]
          exact r1
end
section
variable {X : Ctx} {τ : Tys} (hτ : τ.Ok X.P) {run : Rn} (hr : run.Ok X) {ρ : Opd → FV} {K : KS} {s : GS} {σ : St} (h : s.Is σ)
include h
theorem entG_ok {x : FV} {K : List (FV × FV) → Bool} (hk : entG x s K = true) : ∃ es, entsAt σ x.av = some (entA es) ∧ K es = true ∧ (∀ o l, x = .c 5 o l → σ[o]? = some ⟨0, false, .maps (entA es)⟩) := by
  unfold entG at hk
  split at hk
  · rename_i t x
    obtain ⟨h1, h2⟩ := bC_and hk
    have h1 : t = 6 := Nat.eq_of_beq_eq_true h1
    subst h1
    exact ⟨[], rfl, h2, fun o l e => by cases e⟩
  · rename_i o l
    cases ho : s.t.get o with
    | none => rw [ho] at hk; cases hk
    | some f =>
      rw [ho] at hk
      cases f with
      | maps g es =>
        obtain ⟨h1, h2⟩ := bC_and hk
        have h1 : g = 0 := Nat.eq_of_beq_eq_true h1
        subst h1
        obtain ⟨a, q1, rfl⟩ := h.2 _ _ ho
        refine ⟨es, ?_, h2, fun o' l' e => by cases e; exact q1⟩
        rw [show FV.av (.c 5 o l) = .mp o 0 from rfl]
        simp only [entsAt, q1, if_true]
      | _ => cases hk
  · cases hk
include hτ
theorem gLku_ok {t : Nat} {x k : Opd} {ok : Bool} {K : KF} (hk : gLku τ t x k ok ρ s K = true) : PureG X.P ρ (.lku t x k ok) σ K := by
  unfold gLku at hk
  split at hk
  · rename_i T hT
    obtain ⟨d1, s1, b1, z1, c1, hd1, g1⟩ := T
    simp only at hk
    split at hk
    · rename_i kt et
      split at hk
      · rename_i KT E hKT hE
        obtain ⟨h1, hk1⟩ := bC_and hk
        unfold dLku at hk1
        obtain ⟨h2, hk2⟩ := bC_and hk1
        obtain ⟨es, q1, hk3, _⟩ := entG_ok h hk2
        obtain ⟨r1, _⟩ := okKeyF_ok (hτ _ _ hKT) h2
        rcases findG_ok (hτ _ _ hKT) es 0 hk3 with ⟨j, e, w1, w2, w3, w4⟩ | ⟨w1, w2⟩
        · cases ok with
          | true =>
            refine ⟨_, ?_, w3⟩
            simp only [aOp, aLku, hτ _ _ hT, q1, hτ _ _ hE]
            rw [if_pos r1, w1, av_tu]; rfl
          | false =>
            refine ⟨_, ?_, w3⟩
            simp only [aOp, aLku, hτ _ _ hT, q1, hτ _ _ hE]
            rw [if_pos r1, w1]; rfl
        · cases ok with
          | true =>
            refine ⟨_, ?_, w2⟩
            simp only [aOp, aLku, hτ _ _ hT, q1, hτ _ _ hE]
            rw [if_pos r1, w1, av_tu]
            simp only [List.map_cons, okAV_ok _ h1]; rfl
          | false =>
            refine ⟨_, ?_, w2⟩
            simp only [aOp, aLku, hτ _ _ hT, q1, hτ _ _ hE]
            rw [if_pos r1, w1, okAV_ok _ h1]; rfl
      · cases hk
    · cases hk
  · cases hk
theorem gMup_ok {t : Nat} {m k v : Opd} (hk : gMup τ t m k v ρ s K = true) : CallG X ρ (.mup t m k v) σ K := by
  unfold gMup at hk
  split at hk
  · rename_i T hT
    obtain ⟨d1, s1, b1, z1, c1, hd1, g1⟩ := T
    simp only at hk
    split at hk
    · rename_i kt et
      split at hk
      · rename_i KT hKT
        unfold dMup at hk
        split at hk
        · rename_i o l hm
          obtain ⟨h2, hk2⟩ := bC_and hk
          obtain ⟨es, q1, hk3, q2⟩ := entG_ok h hk2
          have q2 := q2 o l rfl
          obtain ⟨r1, r2⟩ := okKeyF_ok (hτ _ _ hKT) h2
          have hmv : (ρ m).av = .mp o 0 := by rw [hm]; rfl
          rcases findG_ok (hτ _ _ hKT) es 0 hk3 with ⟨j, e, w1, w2, w3, w4⟩ | ⟨w1, w2⟩
          · rw [Nat.zero_add] at w1 w3
            rw [fSp_eq] at w3
            obtain ⟨s', v1, v2⟩ := GS.put_ok h (at_lt q2) (f := .maps 0 (es.set j (ρ k, ρ v))) (a := ⟨0, false, .maps ((entA es).set j ((ρ k).av, (ρ v).av))⟩) (by simp only [GO.Is, entA, List.map_set]) w3
            refine ⟨0, _, _, s', ?_, v2, v1⟩
            simp only [aCall, aOp, aMup, hτ _ _ hT, hmv, q2]
            rw [if_pos ⟨trivial, r1⟩, w1]
            simp only
            rw [if_pos ⟨by rw [w4]; exact AV.eqv_refl _, r2⟩]; rfl
          · rw [fSp_eq] at w2
            obtain ⟨s', v1, v2⟩ := GS.put_ok h (at_lt q2) (f := .maps 0 (es ++ [(ρ k, ρ v)])) (a := ⟨0, false, .maps (entA es ++ [((ρ k).av, (ρ v).av)])⟩) (by simp only [GO.Is, entA, List.map_append, List.map_cons, List.map_nil]) w2
            refine ⟨0, _, _, s', ?_, v2, v1⟩
            simp only [aCall, aOp, aMup, hτ _ _ hT, hmv, q2]
            rw [if_pos ⟨trivial, r1⟩, w1]; rfl
        · cases hk
      · cases hk
    · cases hk
  · cases hk
include hr
omit hτ in
theorem gCallF_ok {f : Opd} {args : List Opd} (hf : ∀ v, f = .c v → (ρ f).av = v) (hk : gCallF run f args ρ s K = true) : CallG X ρ (.call f args) σ K := by
  unfold gCallF at hk
  have hmm : (args.map ρ).map FV.av = args.map fun o => (ρ o).av := by rw [List.map_map]; rfl
  split at hk
  · rename_i k
    obtain ⟨n, hn⟩ := hr _ _ _ _ _ h hk
    refine ⟨n, ?_⟩
    simp only [aCall]
    rw [hf _ rfl]
    simp only [List.nil_append, List.append_nil]
    rw [← hmm]; exact hn
  · unfold gCallV at hk
    split at hk
    · rename_i k a1 a a2 c hx
      rw [fSp_eq] at hk
      obtain ⟨n, hn⟩ := hr _ _ _ _ _ h hk
      refine ⟨n, ?_⟩
      have e : (ρ f).av = .fn (.func k) (a.map FV.av) (c.map FV.av) := by
        rw [hx, FV.av_c, FV.avs_eq]
        simp only [List.map_cons, List.map_nil, av_ag]; rfl
      simp only [aCall, e]
      rw [← hmm, ← List.map_append, ← List.map_append]; exact hn
    · cases hk
omit hτ in
theorem gInv_ok {x : Opd} {m : String} {args : List Opd} (hk : gInv X run (ρ x) m (args.map ρ) s K = true) : CallG X ρ (.inv x m args) σ K := by
  unfold gInv at hk
  have hmm : (args.map ρ).map FV.av = args.map fun o => (ρ o).av := by rw [List.map_map]; rfl
  split at hk
  · rename_i t v hx
    split at hk
    · rename_i k hm
      obtain ⟨h1, h2⟩ := bC_and hk
      obtain ⟨n, hn⟩ := hr _ _ _ _ _ h h2
      refine ⟨n, ?_⟩
      simp only [aCall, hx, av_ic, hm]
      rw [List.map_cons, okAV_ok _ h1, hmm] at hn
      exact hn
    · cases hk
  · cases hk
theorem gCall_ok {op : AOp} (hc : ∀ v, Opd.c v ∈ op.opds → (ρ (.c v)).av = v) (hk : gCall X τ run op ρ s K = true) : CallG X ρ op σ K := by
  unfold gCall at hk
  split at hk
  · exact gAlloc_ok hτ h hk
  · exact dBox_ok h hk
  · exact gBsl_ok hτ h hk
  · exact gStore_ok hτ h hk
  · exact gConv_ok hτ h hk
  · exact gMks_ok hτ h hk
  · exact gRng_ok hτ h hk
  · exact dNxt_ok h hk
  · exact gApp_ok hτ h hk
  · exact gCopy_ok hτ h hk
  · rename_i f args
    exact gCallF_ok hr h (fun v hv => by rw [hv]; exact hc v (by rw [hv]; simp [AOp.opds])) hk
  · exact gInv_ok hr h hk
  · rename_i t r
    unfold gMkm at hk
    split at hk
    · obtain ⟨s', q1, q2⟩ := GS.new_ok h (f := .maps 0 []) (a := ⟨0, false, .maps []⟩) rfl hk
      exact ⟨0, _, _, s', rfl, q2, q1⟩
    · cases hk
  · exact gMup_ok hτ h hk
  · exact pure_call h (fun n => rfl) (gLku_ok hτ h hk)
  · refine pure_call h (fun n => ?_) (gPure_ok hτ h hc hk)
    cases op <;> first | rfl | (exfalso; rename_i q _ _ _ _; exact q _ _ rfl) | (exfalso; simp_all; done)
end
end Go.Abs
/- The layer Abs, part 52: the third evaluator: steps, regions, code, functions. -/
namespace Go.Abs

section
variable (X : Ctx) (τ : Tys) (run : Rn)
/-- Only if wanted: of an operation that leaves the store alone, and of one that does not. -/
noncomputable def dGP (x : FV) (w : Bool) (G : KF → Bool) (K : KF) : Bool := dWant x w (G fun v => K (.c (nat_lit 4) (nat_lit 1) [v])) (K (.c (nat_lit 4) (nat_lit 0) [.n (nat_lit 0) (nat_lit 0)]))
noncomputable def dGE (x : FV) (w : Bool) (G : KS → Bool) (s : GS) (K : KS) : Bool := dWant x w (G K) (K (.c (nat_lit 1) (nat_lit 0) []) s)
noncomputable def gGuard (e : GEnv) (op : AOp) (s : GS) (K : KF) : Bool := match op with
  | .pick q a b => bC (cndF (fev e q)) (dPick (valF (fev e q)) (fev e a) (fev e b) K) false
  | .lku t x k ok => gCnds e (gLku τ t x k ok (vev e) s K) [x, k]
  | op => gCnds e (gPure X.P τ op (vev e) s K) op.opds
noncomputable def gStep (a : AI) (e : GEnv) (s : GS) (K : KS) : Bool := bC (a.op.opds.all okC1) (match a.gd with
  | none => gCall X τ run a.op (fev e) s K
  | some (n, w) => bC a.op.pure (dGP (gget e n) w (gGuard X τ e a.op s) fun v => K v s) (dGE (gget e n) w (fun K => gCnds e (gCall X τ run a.op (vev e) s K) a.op.opds) s K)) false
noncomputable def gOps : List AI → GEnv → GS → (GEnv → GS → Bool) → Bool := List.rec (motive := fun _ => GEnv → GS → (GEnv → GS → Bool) → Bool) (fun e s K => K e s) (fun a _ ih e s K => gStep X τ run a e s (Option.rec (motive := fun _ => KS) (fun _ s => ih e s K) (fun d v s => ih ((d, v) :: e) s K) a.d))
/-- Does what was read before read the same now? -/
noncomputable def sameF (a b : FV) : Bool := AV.eqv a.av b.av
noncomputable def gPureL (op : AOp) (e : GEnv) (s : GS) (K : KF) : Bool := match op with
  | .lku t x k ok => gLku τ t x k ok (fev e) s K
  | op => gPure X.P τ op (fev e) s K
noncomputable def gAgP (op : AOp) (g : Option (Nat × Bool)) (e : GEnv) (s : GS) (K : KF) : Bool := match g with
  | none => gPureL X τ op e s K
  | some (n, w) => dGP (gget e n) w (gGuard X τ e op s) K
noncomputable def gAg1 (a : AI) (e : GEnv) (s : GS) (B : Bool) : Bool := match a.d with
  | some d => bC (bC (a.op.opds.all okC1) a.op.pure false) (gAgP X τ a.op a.gd e s fun v => bC (sameF v (gget e d)) B false) false
  | none => false
noncomputable def gAg (e : GEnv) (s : GS) (B : Bool) : List AI → Bool := List.rec (motive := fun _ => Bool) B (fun a _ ih => gAg1 X τ a e s ih)
noncomputable def gDrw : List (AI × List AI) → GEnv → GS → (GEnv → GS → Bool) → Bool := List.rec (motive := fun _ => GEnv → GS → (GEnv → GS → Bool) → Bool) (fun e s K => K e s) (fun a _ ih e s K => gStep X τ run a.1 e s fun v s => gAg X τ e s (Option.rec (motive := fun _ => Bool) (ih e s K) (fun d => ih ((d, v) :: e) s K) a.1.d) a.2)
end
section
variable {X : Ctx} {τ : Tys} (hτ : τ.Ok X.P) {run : Rn} (hr : run.Ok X) {s : GS} {σ : St} (h : s.Is σ)
theorem fev_c {e : GEnv} {op : AOp} (ho : op.opds.all okC1 = true) : ∀ v, Opd.c v ∈ op.opds → (fev e (.c v)).av = v := fun v hv => by
  rw [List.all_eq_true] at ho
  exact fev_av (ho _ hv)
theorem vev_c {e : GEnv} {op : AOp} (ho : op.opds.all okC1 = true) : ∀ v, Opd.c v ∈ op.opds → (vev e (.c v)).av = v := fun v hv => by
  rw [List.all_eq_true] at ho
  have h1 := ho _ hv
  rw [vev_av h1]
  have h2 := (bC_and h1).2
  show v.val = v
  cases v <;> first | rfl | cases h2
theorem fev_call {e : GEnv} {op : AOp} {K : KS} (ho : op.opds.all okC1 = true) (hk : CallG X (fev e) op σ K) : ∃ n, ToG (aCall X (bFn X n) (Opd.ev (envA e)) op σ) K := by
  obtain ⟨n, hn⟩ := hk
  rw [List.all_eq_true] at ho
  exact ⟨n, by rw [← aCall_same (fun o hm => fev_av (ho o hm))]; exact hn⟩
theorem vev_call {e : GEnv} {op : AOp} {K : KS} (ho : op.opds.all okC1 = true) (hk : CallG X (vev e) op σ K) : ∃ n, ToG (aCall X (bFn X n) (fun o => (o.ev (envA e)).val) op σ) K := by
  obtain ⟨n, hn⟩ := hk
  rw [List.all_eq_true] at ho
  refine ⟨n, ?_⟩
  rw [← aCall_same (ρ := fun o => (vev e o).av) (ρ' := fun o => (o.ev (envA e)).val) (fun o hm => vev_av (ho o hm))]
  exact hn
include hτ h
/-- What a guarded operation that leaves the store alone comes to. -/
theorem gGuard_ok {e : GEnv} {op : AOp} {K : KF} (hp : op.pure = true) (ho : op.opds.all okC1 = true) (hk : gGuard X τ e op s (fun v => K (.c 4 1 [v])) = true) : ∃ v : FV, aGuardT X.P (envA e) op σ = some v.av ∧ K v = true := by
  have main : ∀ (op : AOp), op.pure = true → (∀ q a b, op ≠ .pick q a b) → op.opds.all okC1 = true → gCnds e true op.opds = true → PureG X.P (vev e) op σ (fun v => K (.c 4 1 [v])) → ∃ v : FV, aGuardT X.P (envA e) op σ = some v.av ∧ K v = true := by
    intro op hp hn ho hc hq
    obtain ⟨v, h1, h2⟩ := hq
    have ho' := ho
    rw [List.all_eq_true] at ho'
    have e1 := aCall_same (X := X) (run := fun _ _ _ => none) (ρ := fun o => (vev e o).av) (ρ' := fun o => (o.ev (envA e)).val) (fun o hm => vev_av (ho' o hm)) σ
    have e2 : aOp X.P (fun o => (vev e o).av) op σ = aOp X.P (fun o => (o.ev (envA e)).val) op σ := by
      cases op <;> first | exact e1 | cases hp
    rw [e2] at h1
    refine ⟨_, ?_, h2⟩
    have h3 := (gCnds_ok _ ho hc).1
    unfold aGuardT
    split
    · exact (hn _ _ _ rfl).elim
    · rw [h1]
      simp only [impB_of_true, aLift]
      rw [if_pos h3, av_cdT]
  have cut : ∀ (B : Bool) (l : List Opd), l.all okC1 = true → gCnds e B l = true → gCnds e true l = true ∧ B = true := by
    intro B l
    induction l with
    | nil => intro _ hB; exact ⟨rfl, hB⟩
    | cons o l ih =>
      intro hl hB
      simp only [List.all_cons, Bool.and_eq_true] at hl
      cases o with
      | t n =>
        have hB' : bC (cndF (gget e n)) (gCnds e B l) false = true := hB
        obtain ⟨q1, q2⟩ := bC_and hB'
        obtain ⟨q3, q4⟩ := ih hl.2 q2
        refine ⟨?_, q4⟩
        show bC (cndF (gget e n)) (gCnds e true l) false = true
        rw [q1, q3]
      | c v => exact ih hl.2 hB
  unfold gGuard at hk
  split at hk
  · rename_i q a b
    simp only [AOp.opds, List.all_cons, List.all_nil, Bool.and_true, Bool.and_eq_true] at ho
    have hk' : dPickG (fev e q) (fev e a) (fev e b) K = true := hk
    obtain ⟨v, h1, h2⟩ := dPickG_ok hk'
    rw [fev_av ho.1, fev_av ho.2.1, fev_av ho.2.2] at h1
    exact ⟨v, h1, h2⟩
  · rename_i t x k ok
    obtain ⟨h1, h2⟩ := cut _ _ ho hk
    exact main _ hp (fun _ _ _ e => by cases e) ho h1 (gLku_ok hτ h h2)
  · rename_i hn1 hn2
    obtain ⟨h1, h2⟩ := cut _ _ ho hk
    exact main _ hp hn1 ho h1 (gPure_ok hτ h (vev_c ho) h2)
include hr
theorem gStep_ok {a : AI} {e : GEnv} {K : KS} (hk : gStep X τ run a e s K = true) : ∃ n, ToG (aStep X (bFn X n) (envA e) a σ) K := by
  obtain ⟨d, g, op⟩ := a
  obtain ⟨ho, hk⟩ := bC_and hk
  have ho : op.opds.all okC1 = true := ho
  cases g with
  | none => exact fev_call ho (gCall_ok hτ hr h (fev_c ho) hk)
  | some g =>
    obtain ⟨n, w⟩ := g
    have hk : bC op.pure (dGP (gget e n) w (gGuard X τ e op s) fun v => K v s) (dGE (gget e n) w (fun K => gCnds e (gCall X τ run op (vev e) s K) op.opds) s K) = true := hk
    cases hp : op.pure with
    | true =>
      rw [hp, bC_t] at hk
      rcases dWant_ok hk with ⟨h1, h2⟩ | ⟨h1, h2⟩
      · rw [gget_av, ← wantedA_eq] at h1
        obtain ⟨v, q1, q2⟩ := gGuard_ok hτ h (K := fun v => K v s) hp ho h2
        exact ⟨0, v, σ, s, by unfold aStep; simp only [h1]; rw [if_pos hp]; unfold aGuard; rw [if_pos rfl, q1]; rfl, h, q2⟩
      · rw [gget_av, ← wantedA_eq] at h1
        exact ⟨0, _, σ, s, by unfold aStep; simp only [h1]; rw [if_pos hp]; rfl, h, h2⟩
    | false =>
      rw [hp, bC_f] at hk
      rcases dWant_ok hk with ⟨h1, h2⟩ | ⟨h1, h2⟩
      · rw [gget_av, ← wantedA_eq] at h1
        obtain ⟨q1, q2⟩ := gCnds_ok _ ho h2
        obtain ⟨m, hm⟩ := vev_call ho (gCall_ok hτ hr h (vev_c ho) q2)
        exact ⟨m, by unfold aStep; simp only [h1]; rw [if_neg (by simp [hp]), if_pos trivial, if_pos q1]; exact hm⟩
      · rw [gget_av, ← wantedA_eq] at h1
        exact ⟨0, _, σ, s, by unfold aStep; simp only [h1]; rw [if_neg (by simp [hp]), if_neg (by simp)]; rfl, h, h2⟩
def ToE (o : Option (Env × St)) (K : GEnv → GS → Bool) : Prop := ∃ e' σ' s', o = some (envA e', σ') ∧ GS.Is s' σ' ∧ K e' s' = true
end
section
variable {X : Ctx} {τ : Tys} (hτ : τ.Ok X.P) {run : Rn} (hr : run.Ok X)
include hτ hr
theorem gOps_ok : ∀ {ops : List AI} {e : GEnv} {s : GS} {σ : St} {K : GEnv → GS → Bool}, s.Is σ → gOps X τ run ops e s K = true → ∃ n, ToE (aOps X (bFn X n) ops (envA e) σ) K
  | [], e, s, σ, K, h, hk => ⟨0, e, σ, s, rfl, h, hk⟩
  | a :: ops, e, s, σ, K, h, hk => by
    obtain ⟨n, v, σ1, s1, h1, h2, h3⟩ := gStep_ok hτ hr h (K := Option.rec (motive := fun _ => KS) (fun _ s => gOps X τ run ops e s K) (fun d v s => gOps X τ run ops ((d, v) :: e) s K) a.d) hk
    have h4 : ∃ e1 : GEnv, envA e1 = put a.d v.av (envA e) ∧ gOps X τ run ops e1 s1 K = true := by
      cases hd : a.d with
      | none => rw [hd] at h3; exact ⟨e, rfl, h3⟩
      | some d => rw [hd] at h3; exact ⟨(d, v) :: e, rfl, h3⟩
    obtain ⟨e1, h5, h6⟩ := h4
    obtain ⟨m, e', σ', s', q1, q2, q3⟩ := gOps_ok h2 h6
    refine ⟨max n m, e', σ', s', ?_, q2, q3⟩
    simp only [aOps]
    rw [aStep_le (bFn_le X (Nat.le_max_left n m)) h1]
    simp only
    rw [← h5]
    exact aOps_le (bFn_le X (Nat.le_max_right n m)) q1
omit hr in
theorem gAg_ok {e : GEnv} {s : GS} {σ : St} (h : s.Is σ) {B : Bool} : ∀ (l : List AI) (_ : gAg X τ e s B l = true), l.all (aAgain X (envA e) σ) = true ∧ B = true
  | [], hk => ⟨rfl, hk⟩
  | ⟨d, g, op⟩ :: l, hk => by
    cases d with
    | none => cases hk
    | some d =>
      have hk0 : bC (bC (op.opds.all okC1) op.pure false) (gAgP X τ op g e s fun v => bC (sameF v (gget e d)) (gAg X τ e s B l) false) false = true := hk
      clear hk
      have hk := hk0
      clear hk0
      obtain ⟨ho, hk⟩ := bC_and hk
      obtain ⟨ho, hp⟩ := bC_and ho
      have fin : ∀ v : FV, aStep X (fun _ _ _ => none) (envA e) ⟨some d, g, op⟩ σ = some (v.av, σ) → bC (sameF v (gget e d)) (gAg X τ e s B l) false = true → (AI.mk (some d) g op :: l).all (aAgain X (envA e) σ) = true ∧ B = true := by
        intro v h1 h2
        obtain ⟨h3, h4⟩ := bC_and h2
        obtain ⟨h5, h6⟩ := gAg_ok h l h4
        refine ⟨?_, h6⟩
        simp only [List.all_cons, h5, Bool.and_true]
        unfold aAgain
        simp only [h1]
        unfold sameF at h3
        rw [gget_av] at h3
        exact h3
      have pcall : ∀ (ρ : Opd → AV), aCall X (fun _ _ _ => none) ρ op σ = aOp X.P ρ op σ := by
        intro ρ
        cases op <;> first | rfl | cases hp
      cases g with
      | none =>
        have hq : PureG X.P (fev e) op σ fun v => bC (sameF v (gget e d)) (gAg X τ e s B l) false := by
          have hk1 : gPureL X τ op e s (fun v => bC (sameF v (gget e d)) (gAg X τ e s B l) false) = true := hk
          clear hk
          have hk := hk1
          unfold gPureL at hk
          split at hk
          · exact gLku_ok hτ h hk
          · exact gPure_ok hτ h (fev_c ho) hk
        obtain ⟨v, h1, h2⟩ := hq
        refine fin v ?_ h2
        rw [List.all_eq_true] at ho
        unfold aStep
        simp only
        rw [← aCall_same (ρ := fun o => (fev e o).av) (fun o hm => fev_av (ho o hm)), pcall]
        exact h1
      | some g =>
        obtain ⟨n, w⟩ := g
        have hk : dGP (gget e n) w (gGuard X τ e op s) (fun v => bC (sameF v (gget e d)) (gAg X τ e s B l) false) = true := hk
        rcases dWant_ok hk with ⟨h1, h2⟩ | ⟨h1, h2⟩
        · rw [gget_av, ← wantedA_eq] at h1
          obtain ⟨v, q1, q2⟩ := gGuard_ok hτ h (K := fun v => bC (sameF v (gget e d)) (gAg X τ e s B l) false) hp ho h2
          exact fin v (by unfold aStep; simp only [h1]; rw [if_pos hp]; unfold aGuard; rw [if_pos rfl, q1]; rfl) q2
        · rw [gget_av, ← wantedA_eq] at h1
          exact fin _ (by unfold aStep; simp only [h1]; rw [if_pos hp]; rfl) h2
theorem gDrw_ok : ∀ {ops : List (AI × List AI)} {e : GEnv} {s : GS} {σ : St} {K : GEnv → GS → Bool}, s.Is σ → gDrw X τ run ops e s K = true → ∃ n, ToE (aDrw X (bFn X n) ops (envA e) σ) K
  | [], e, s, σ, K, h, hk => ⟨0, e, σ, s, rfl, h, hk⟩
  | (a, ag) :: ops, e, s, σ, K, h, hk => by
    obtain ⟨n, v, σ1, s1, h1, h2, h3⟩ := gStep_ok hτ hr h (K := fun v s => gAg X τ e s (Option.rec (motive := fun _ => Bool) (gDrw X τ run ops e s K) (fun d => gDrw X τ run ops ((d, v) :: e) s K) a.d) ag) hk
    obtain ⟨h7, h3⟩ := gAg_ok hτ h2 _ h3
    have h4 : ∃ e1 : GEnv, envA e1 = put a.d v.av (envA e) ∧ gDrw X τ run ops e1 s1 K = true := by
      cases hd : a.d with
      | none => rw [hd] at h3; exact ⟨e, rfl, h3⟩
      | some d => rw [hd] at h3; exact ⟨(d, v) :: e, rfl, h3⟩
    obtain ⟨e1, h5, h6⟩ := h4
    obtain ⟨m, e', σ', s', q1, q2, q3⟩ := gDrw_ok h2 h6
    refine ⟨max n m, e', σ', s', ?_, q2, q3⟩
    simp only [aDrw]
    rw [aStep_le (bFn_le X (Nat.le_max_left n m)) h1]
    simp only
    rw [if_pos h7, ← h5]
    exact aDrw_le (bFn_le X (Nat.le_max_right n m)) q1
end
end Go.Abs
