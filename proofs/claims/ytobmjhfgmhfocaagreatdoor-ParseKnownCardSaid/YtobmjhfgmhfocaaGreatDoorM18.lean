/- Texts of this claim, joined: Fg, Dt. -/
import Derived.Test.YtobmjhfgmhfocaaGreatDoorM10
import Derived.Test.YtobmjhfgmhfocaaGreatDoorM14
import Derived.Test.YtobmjhfgmhfocaaGreatDoorM15
import Derived.Test.YtobmjhfgmhfocaaGreatDoorM16
import Derived.Test.YtobmjhfgmhfocaaGreatDoorM17
set_option linter.unusedVariables false
set_option linter.unusedSimpArgs false
/- The functions known by contract, for the third evaluator. -/
namespace Go.Abs.YtobmjhfgmhfocaaGreatDoor
open Go.Proofs

theorem fe_prim {X : Ctx} {f : Nat} {p : List AV → St → Option (AV × St)} (hp : X.prim f = some p) {args : List FV} {σ : St} {K : KS} (h : ToG (p (args.map FV.av) σ) K) : ∃ n, ToG (bFn X n f (args.map FV.av) σ) K := by
  refine ⟨1, ?_⟩
  simp only [bFn, hp]
  exact h
noncomputable def feIndexByte : FE := fun _ args s K => match args with
  | [.s n v, .n t c] => bC (Nat.beq t (nat_lit 512)) (slowK (some (.i .i64 (Lib.indexByte (unpk n v) (Nat.mod c (nat_lit 256)).toUInt8))) fun r => K r s) false
  | _ => false
theorem feIndexByte_ok : feIndexByte.Ok X0 42 := by
  intro run hr args s σ K h hk
  refine fe_prim (p := pIndexByte) (by kernel_rfl) ?_
  unfold feIndexByte at hk
  split at hk
  · rename_i n v t c
    obtain ⟨h1, h2⟩ := bC_and hk
    have h1 : t = 512 := Nat.eq_of_beq_eq_true h1
    subst h1
    obtain ⟨r, h3, h4⟩ := slowK_ok h2
    refine ⟨r, σ, s, ?_, h, h4⟩
    have e1 : FV.av (.n 512 c) = .i .u8 (c % 256 : Nat) := by
      have hx : c % 256 < 256 := Nat.mod_lt _ (by omega)
      rw [FV.av_n, show (512 : Nat) = tg .u8 from rfl, scal_int, ← wrap_natmod .u8 c, show c % 2 ^ IntKind.u8.bits = c % 256 from rfl, wrap_small .u8 (by simp only [IntKind.signed, IntKind.bits, if_false, Bool.false_eq_true]; omega)]
    simp only [List.map_cons, List.map_nil, e1, FV.av_s, pIndexByte, Int.toNat_natCast]
    rw [← show AV.i .i64 (Lib.indexByte (unpk n v) (c % 256).toUInt8) = r.av from Option.some.inj h3]
  · cases hk
/-- The first cell of a package-level variable. -/
noncomputable def cellG (s : GS) (g : Nat) (K : KF) : Bool := objC (s.t.get g) (nat_lit 0) fun _ _ n m d t => bC (Nat.ble (nat_lit 1) n) (loadK m d t (nat_lit 0) K) false
theorem cellG_ok {s : GS} {σ : St} (h : s.Is σ) {g : Nat} {K : KF} (hk : cellG s g K = true) : ∃ ro e v rest, σ[g]? = some ⟨0, ro, .cells e (FV.av v :: rest)⟩ ∧ K v = true := by
  obtain ⟨ro, e, n, m, d, t, cs, h1, h2, h3⟩ := objC_ok h hk
  obtain ⟨h4, h5⟩ := bC_and h3
  rw [loadK_eq] at h5
  have h4 : 1 ≤ n := Nat.le_of_ble_eq_true h4
  have h6 := h2.at_ 0 (by omega)
  cases cs with
  | nil => simp at h6
  | cons c rest =>
    have h6 : c = _ := Option.some.inj h6
    exact ⟨ro, e, _, rest, by rw [← h6]; exact h1, h5⟩
noncomputable def isIc : FV → Bool := FV.rec (motive_1 := fun _ => Bool) (motive_2 := fun _ => PUnit) (fun _ _ => false) (fun _ _ _ => false) (fun _ _ _ _ _ => false) (fun _ _ => false) (fun t _ _ _ => Nat.beq t (nat_lit 2)) ⟨⟩ (fun _ _ _ _ => ⟨⟩)
theorem isIc_ok {v : FV} (h : isIc v = true) : ∃ t x, v.av = .ic t x := by
  cases v with
  | c t a l => have h : t = 2 := Nat.eq_of_beq_eq_true h; subst h; exact ⟨_, _, rfl⟩
  | _ => cases h
noncomputable def feParseUint : FE := fun _ args s K => match args with
  | [.s n v, .n 36893488147419103233 10, .n 36893488147419103233 32] => bC (Nat.ble n (nat_lit 281474976710656)) (match Lib.parseUintB 32 (unpk n v) with
    | .ok u => slowK (some (.tu [.i .u64 u, .ic0])) fun r => K r s
    | .range => cellG s 5 fun e => bC (isIc e) (K (.c 1 0 [.n 36893488147419103232 4294967295, .c 2 176 [.n 0 0]]) s) false
    | _ => false) false
  | _ => false
theorem feParseUint_ok : feParseUint.Ok X0 47 := by
  intro run hr args s σ K h hk
  refine fe_prim (p := pParseUint) (by kernel_rfl) ?_
  unfold feParseUint at hk
  split at hk
  · rename_i n v
    obtain ⟨h1, h2⟩ := bC_and hk
    have h1 : n ≤ 281474976710656 := Nat.le_of_ble_eq_true h1
    have e10 : FV.av (.n 36893488147419103233 10) = .i .i64 10 := i64_small (n := 10) (by omega)
    have e32 : FV.av (.n 36893488147419103233 32) = .i .i64 32 := i64_small (n := 32) (by omega)
    simp only [List.map_cons, List.map_nil, e10, e32, FV.av_s, pParseUint]
    rw [unpk_len, if_pos h1]
    split at h2
    · rename_i u hu
      simp only [hu]
      obtain ⟨r, h3, h4⟩ := slowK_ok h2
      exact ⟨r, σ, s, by rw [Option.some.inj h3], h, h4⟩
    · rename_i hu
      simp only [hu]
      obtain ⟨ro, e, c, rest, q1, q2⟩ := cellG_ok h h2
      obtain ⟨q3, q4⟩ := bC_and q2
      obtain ⟨t, x, q5⟩ := isIc_ok q3
      rw [q5] at q1
      refine ⟨_, σ, s, ?_, h, q4⟩
      rw [q1, av_tu]
      simp only [List.map_cons, List.map_nil, av_ic]
      rw [FV.av_n, show (36893488147419103232 : Nat) = tg .u64 from rfl, scal_int, wrap_small .u64 (by simp only [IntKind.signed, IntKind.bits, if_false, Bool.false_eq_true]; omega)]; rfl
    · cases h2
  · cases hk
noncomputable def feAs : FE := fun _ args s K => match args with
  | [.n 5 _, _] => K (.n 1 0) s
  | [.c 2 101 [.p o g off], .c 2 119 [.p o2 g2 off2]] => cellG s 0 fun e => (match e with
    | .c 2 180 [.c 0 _ [.p 10 0 36]] => dStore1 (.p o2 g2 off2) (.p o g off) s fun s' => K (.n 1 1) s'
    | _ => false)
  | _ => false
theorem tyFault : ∃ a b c d e f, tyOf Tryz.prog 101 = some ⟨.ptr a, 1, b, c, d, e, f⟩ := ⟨_, _, _, _, _, _, tyB_ok 101 yT101 rfl⟩
theorem feAs_ok : feAs.Ok X0 51 := by
  intro run hr args s σ K h hk
  refine fe_prim (p := pAs) (by kernel_rfl) ?_
  unfold feAs at hk
  split at hk
  · exact ⟨_, σ, s, rfl, h, hk⟩
  · rename_i o g off o2 g2 off2
    obtain ⟨ro, e, v, rest, q1, q2⟩ := cellG_ok h hk
    split at q2
    · rename_i aa
      obtain ⟨ta, tb, tc, td, te, tf, hT⟩ := tyFault
      obtain ⟨σ', s', r1, r2, r3⟩ := dStore1_ok h (T := ⟨.ptr ta, 1, tb, tc, td, te, tf⟩) rfl q2
      refine ⟨_, σ', s', ?_, r2, r3⟩
      simp only [List.map_cons, List.map_nil, av_ic, FV.av_p, pAs]
      rw [av_ic, av_ag] at q1
      simp only [List.map_cons, List.map_nil, FV.av_p] at q1
      simp only [q1, hT]
      rw [show aStore (some ⟨.ptr ta, 1, tb, tc, td, te, tf⟩) (.p o2 g2 off2) (.p o g off) σ = some σ' from r1]; rfl
    · cases q2
  · cases hk
noncomputable def feTypeOf : FE := fun _ args s K => match args with
  | [.c 2 23 [_]] => K (.c 2 180 [.c 0 0 [.p 10 0 23]]) s
  | _ => false
theorem feTypeOf_ok : feTypeOf.Ok X0 91 := by
  intro run hr args s σ K h hk
  refine fe_prim (p := pTypeOf) (by kernel_rfl) ?_
  unfold feTypeOf at hk
  split at hk
  · exact ⟨_, σ, s, rfl, h, hk⟩
  · cases hk
noncomputable def feComparable : FE := fun _ args s K => match args with
  | [.c 0 _ [.p 10 0 23]] => K (.n 1 1) s
  | _ => false
theorem feComparable_ok : feComparable.Ok X0 221 := by
  intro run hr args s σ K h hk
  refine fe_prim (p := pComparable) (by kernel_rfl) ?_
  unfold feComparable at hk
  split at hk
  · exact ⟨_, σ, s, rfl, h, hk⟩
  · cases hk
theorem dec_small : ∀ k, k < 100 → Lib.decDigits k = if k < 10 then [UInt8.ofNat (48 + k)] else [UInt8.ofNat (48 + k / 10), UInt8.ofNat (48 + k % 10)] := by
  intro k hk
  rw [Lib.decDigits]
  split
  · rfl
  · rw [Lib.decDigits, dif_pos (by omega)]; rfl
noncomputable def feFormatUint : FE := fun _ args s K => match args with
  | [.n 36893488147419103232 n, .n 36893488147419103233 10] => bC (Nat.blt n (nat_lit 100)) (slowK (some (.s (if n < 10 then [UInt8.ofNat (48 + n)] else [UInt8.ofNat (48 + n / 10), UInt8.ofNat (48 + n % 10)]))) fun r => K r s) false
  | _ => false
theorem feFormatUint_ok : feFormatUint.Ok X0 174 := by
  intro run hr args s σ K h hk
  refine fe_prim (p := pFormatUint) (by kernel_rfl) ?_
  unfold feFormatUint at hk
  split at hk
  · rename_i n
    obtain ⟨h1, h2⟩ := bC_and hk
    have h1 : n < 100 := Nat.le_of_ble_eq_true h1
    obtain ⟨r, h3, h4⟩ := slowK_ok h2
    refine ⟨r, σ, s, ?_, h, h4⟩
    have e10 : FV.av (.n 36893488147419103233 10) = .i .i64 10 := i64_small (n := 10) (by omega)
    have en : FV.av (.n 36893488147419103232 n) = .i .u64 n := by
      rw [FV.av_n, show (36893488147419103232 : Nat) = tg .u64 from rfl, scal_int, wrap_small .u64 (by simp only [IntKind.signed, IntKind.bits, if_false, Bool.false_eq_true]; omega)]
    simp only [List.map_cons, List.map_nil, e10, en, pFormatUint]
    rw [if_pos ⟨by omega, by omega, .inl (by omega)⟩, Int.toNat_natCast, dec_small n h1]
    rw [← show AV.s _ = r.av from Option.some.inj h3]
  · cases hk
noncomputable def feRepeat : FE := fun _ args s K => match args with
  | [.s n v, .n 36893488147419103233 k] => bC (Nat.blt k (nat_lit 1000)) (bC (Nat.blt n (nat_lit 1000)) (slowK (some (.s (Lib.repeatL (unpk n v) k))) fun r => K r s) false) false
  | _ => false
theorem feRepeat_ok : feRepeat.Ok X0 138 := by
  intro run hr args s σ K h hk
  refine fe_prim (p := pRepeat) (by kernel_rfl) ?_
  unfold feRepeat at hk
  split at hk
  · rename_i n v k
    obtain ⟨h1, h2⟩ := bC_and hk
    obtain ⟨h0, h2⟩ := bC_and h2
    have h1 : k < 1000 := Nat.le_of_ble_eq_true h1
    have h0 : n < 1000 := Nat.le_of_ble_eq_true h0
    obtain ⟨r, h3, h4⟩ := slowK_ok h2
    refine ⟨r, σ, s, ?_, h, h4⟩
    have ek : FV.av (.n 36893488147419103233 k) = .i .i64 k := i64_small (n := k) (by omega)
    simp only [List.map_cons, List.map_nil, ek, FV.av_s, pRepeat]
    rw [if_pos ⟨by omega, by omega, by
      rw [unpk_len, Int.toNat_natCast]
      exact Nat.le_trans (Nat.mul_le_mul (Nat.le_of_lt h0) (Nat.le_of_lt h1)) (by decide)⟩, Int.toNat_natCast]
    rw [← show AV.s _ = r.av from Option.some.inj h3]
  · cases hk
theorem len4 {cs : List AV} {m : Nat} {d : List FV} {t : Tr FV} (h : CellsIs 4 m d t cs) : ∃ a b c e, cs = [a, b, c, e] := by
  have hl := h.len
  match cs, hl with
  | [a, b, c, e], _ => exact ⟨a, b, c, e, rfl⟩
noncomputable def feCopyCheck : FE := fun _ args s K => match args with
  | [.p o 0 0] => objC (s.t.get o) (nat_lit 0) fun ro e n m d t => bC ro false (bC (Nat.beq e 92) (bC (Nat.beq n (nat_lit 4)) (loadK m d t (nat_lit 0) fun v => match v with
    | .n 2 _ => t.set (nat_lit 0) (.p o 0 0) fun t' => s.put o (.cells 0 false e n m d t') fun s' => K (.c 1 0 []) s'
    | .p o2 0 0 => bC (Nat.beq o2 o) (K (.c 1 0 []) s) false
    | _ => false) false) false)
  | _ => false
theorem feCopyCheck_ok : feCopyCheck.Ok X0 137 := by
  intro run hr args s σ K h hk
  refine fe_prim (p := pCC) (by kernel_rfl) ?_
  unfold feCopyCheck at hk
  split at hk
  · rename_i o
    obtain ⟨ro, e, n, m, d, t, cs, h1, h2, h3⟩ := objC_ok h hk
    cases ro with
    | true => cases h3
    | false =>
      obtain ⟨h4, h5⟩ := bC_and (show bC _ _ false = true from h3)
      obtain ⟨h6, h7⟩ := bC_and h5
      have h4 := Nat.eq_of_beq_eq_true h4
      have h6 := Nat.eq_of_beq_eq_true h6
      subst h4; subst h6
      rw [loadK_eq] at h7
      have hat := h2.at_ 0 (Nat.le_of_ble_eq_true rfl)
      obtain ⟨c0, c1, c2, c3, rfl⟩ := len4 h2
      have hat : c0 = _ := Option.some.inj hat
      simp only [List.map_cons, List.map_nil, FV.av_p, pCC, h1]
      split at h7
      · rename_i x hv
        rw [hv] at hat
        have hat : c0 = .p0 := hat
        subst hat
        obtain ⟨t', q1, q2⟩ := putC_ok h2 (i := 0) (v := .p o 0 0) (Nat.le_of_ble_eq_true rfl) rfl h7
        obtain ⟨s', r1, r2⟩ := GS.put_ok h (at_lt h1) (f := .cells 0 false 92 4 m d t') (a := ⟨0, false, .cells 92 [.p o 0 0, c1, c2, c3]⟩) ⟨_, rfl, q2⟩ q1
        exact ⟨.c 1 0 [], _, s', rfl, r2, r1⟩
      · rename_i o2 hv
        rw [hv] at hat
        have hat : c0 = .p o2 0 0 := hat
        subst hat
        obtain ⟨q1, q2⟩ := bC_and h7
        exact ⟨.c 1 0 [], σ, s, by simp only [if_pos (Nat.eq_of_beq_eq_true q1)]; rfl, h, q2⟩
      · cases h7
  · cases hk
theorem bytes_back : ∀ (l : List FV) {K : Nat → Bool} (_ : pkK l K = true), ∃ v, bytesOf (l.map FV.av) = some (unpk l.length v) ∧ l.map FV.av = byteC (unpk l.length v) ∧ K v = true
  | [], K, hk => ⟨0, rfl, rfl, hk⟩
  | a :: l, K, hk => by
    cases a with
    | n t x =>
      have hk' : bC (Nat.beq t 512) (pkK l fun v => fN (Nat.add (Nat.mod x 256) (Nat.mul 256 v)) K) false = true := hk
      obtain ⟨h1, h2⟩ := bC_and hk'
      have h1 := Nat.eq_of_beq_eq_true h1
      subst h1
      obtain ⟨v, h3, h3b, h4⟩ := bytes_back l h2
      rw [fN_eq] at h4
      have hx : x % 256 < 256 := Nat.mod_lt _ (by omega)
      have e1 : FV.av (.n 512 x) = .i .u8 (x % 256 : Nat) := by
        rw [FV.av_n, show (512 : Nat) = tg .u8 from rfl, scal_int, ← wrap_natmod .u8 x, show x % 2 ^ IntKind.u8.bits = x % 256 from rfl, wrap_small .u8 (by simp only [IntKind.signed, IntKind.bits, if_false, Bool.false_eq_true]; omega)]
      have e2 : Nat.add (Nat.mod x 256) (Nat.mul 256 v) = x % 256 + 256 * v := rfl
      refine ⟨_, ?_, ?_, h4⟩
      · rw [List.map_cons, e1]
        simp only [bytesOf, h3, Option.map_some, List.length_cons, unpk_succ]
        rw [e2, show (x % 256 + 256 * v) % 256 = x % 256 by omega, show (x % 256 + 256 * v) / 256 = v by omega, Int.toNat_natCast]
      · rw [List.map_cons, e1, List.length_cons, unpk_succ, e2, show (x % 256 + 256 * v) % 256 = x % 256 by omega, show (x % 256 + 256 * v) / 256 = v by omega, h3b]
        show _ = AV.i .u8 ((UInt8.ofNat (x % 256)).toNat : Nat) :: byteC _
        rw [show (UInt8.ofNat (x % 256)).toNat = x % 256 from by rw [UInt8.toNat_ofNat']; exact Nat.mod_eq_of_lt hx]
    | _ => cases hk
theorem eqvs_byteC : ∀ l : List UInt8, AV.eqvs (byteC l) (byteC l) = true
  | [] => rfl
  | x :: l => by
    show (AV.eqv (.i .u8 x.toNat) (.i .u8 x.toNat) && AV.eqvs (byteC l) (byteC l)) = true
    rw [eqvs_byteC l, Bool.and_true]
    simp [AV.eqv]
noncomputable def feString : FE := fun _ args s K => match args with
  | [.p o 0 0] => objC (s.t.get o) (nat_lit 0) fun ro e n m d t => bC ro false (bC (Nat.beq e 92) (bC (Nat.beq n (nat_lit 4)) (loadK m d t (nat_lit 1) fun v => match v with
    | .n 3 _ => K (.s 0 0) s
    | .sl o2 g2 0 n' 1 => Option.rec (motive := fun _ => Bool) false (fun f => GO.rec (motive := fun _ => Bool)
        (fun g3 ro2 e2 n2 m2 d2 t2 => bC (Nat.beq g3 g2) (bC ro2 false (bC (Nat.beq e2 5) (bC (Nat.ble n' n2) (bC (Nat.ble (nat_lit 1) n') (bC (Nat.ble n' (nat_lit 4294967296)) (rngK m2 d2 t2 n' (nat_lit 0) fun l => pkK l fun w => s.put o2 (.froz g2 5 l.length w) fun s' => K (.s l.length w) s') false) false) false) false)) false)
        (fun _ _ _ _ => false) (fun _ _ => false) false
        (fun g3 e2 n2 v2 => bC (Nat.beq g3 g2) (bC (Nat.beq e2 5) (bC (Nat.beq n2 n') (bC (Nat.ble (nat_lit 1) n') (bC (Nat.ble n' (nat_lit 4294967296)) (K (.s n2 v2) s) false) false) false) false) false) f) (s.t.get o2)
    | _ => false) false) false)
  | _ => false
theorem feString_ok : feString.Ok X0 31 := by
  intro run hr args s σ K h hk
  refine fe_prim (p := pStr) (by kernel_rfl) ?_
  unfold feString at hk
  split at hk
  · rename_i o
    obtain ⟨ro, e, n, m, d, t, cs, h1, h2, h3⟩ := objC_ok h hk
    cases ro with
    | true => cases h3
    | false =>
      obtain ⟨h4, h5⟩ := bC_and (show bC _ _ false = true from h3)
      obtain ⟨h6, h7⟩ := bC_and h5
      have h4 := Nat.eq_of_beq_eq_true h4
      have h6 := Nat.eq_of_beq_eq_true h6
      subst h4; subst h6
      rw [loadK_eq] at h7
      have hat := h2.at_ 1 (Nat.le_of_ble_eq_true rfl)
      obtain ⟨c0, c1, c2, c3, rfl⟩ := len4 h2
      have hat : c1 = _ := Option.some.inj hat
      simp only [List.map_cons, List.map_nil, FV.av_p, pStr, h1]
      split at h7
      · rename_i x hv
        rw [hv] at hat
        have hat : c1 = .sl0 := hat
        subst hat
        exact ⟨.s 0 0, σ, s, rfl, h, h7⟩
      · rename_i o2 g2 n' hv
        rw [hv] at hat
        have hat : c1 = .sl o2 g2 0 n' 1 := hat
        subst hat
        cases hg : s.t.get o2 with
        | none => rw [hg] at h7; cases h7
        | some f =>
          rw [hg] at h7
          cases f with
          | cells g3 ro2 e2 n2 m2 d2 t2 =>
            obtain ⟨k0, k3⟩ := bC_and h7
            have k0 := Nat.eq_of_beq_eq_true k0
            subst k0
            obtain ⟨cs2, k1, k2⟩ := GS.cells_at h hg
            cases ro2 with
            | true => cases k3
            | false =>
              obtain ⟨k4, k5⟩ := bC_and (show bC _ _ false = true from k3)
              obtain ⟨k6, k7⟩ := bC_and k5
              obtain ⟨k8, k9⟩ := bC_and k7
              obtain ⟨k10, k11⟩ := bC_and k9
              have k4 := Nat.eq_of_beq_eq_true k4
              subst k4
              have k6 : n' ≤ n2 := Nat.le_of_ble_eq_true k6
              have k8 : 1 ≤ n' := Nat.le_of_ble_eq_true k8
              have k10 : n' ≤ 4294967296 := Nat.le_of_ble_eq_true k10
              obtain ⟨l, p1, p2, p3⟩ := rngK_ok k2 n' 0 (by omega) k11
              obtain ⟨w, b1, b2, b3⟩ := bytes_back l p1
              obtain ⟨s', r1, r2⟩ := GS.put_ok h (at_lt k1) (f := .froz g3 5 l.length w) (a := ⟨g3, false, .froz 5 (unpk l.length w)⟩) rfl b3
              have p2 : l.map FV.av = cs2.take n' := p2
              refine ⟨.s l.length w, _, s', ?_, r2, r1⟩
              simp only [k1]
              rw [if_pos ⟨trivial, by rw [k2.len]; exact k6, by omega, k10⟩, ← p2, b1]
              simp only
              rw [b2, eqvs_byteC, if_pos rfl]; rfl
          | froz g3 e2 n2 v2 =>
            obtain ⟨k0, k3⟩ := bC_and h7
            obtain ⟨k4, k5⟩ := bC_and k3
            obtain ⟨k6, k7⟩ := bC_and k5
            obtain ⟨k8, k9⟩ := bC_and k7
            obtain ⟨k10, k11⟩ := bC_and k9
            have k0 := Nat.eq_of_beq_eq_true k0
            have k4 := Nat.eq_of_beq_eq_true k4
            have k6 := Nat.eq_of_beq_eq_true k6
            have k8 : 1 ≤ n' := Nat.le_of_ble_eq_true k8
            have k10 : n' ≤ 4294967296 := Nat.le_of_ble_eq_true k10
            subst k0; subst k4; subst k6
            obtain ⟨a, q1, rfl⟩ := h.2 _ _ hg
            refine ⟨.s n2 v2, σ, s, ?_, h, k11⟩
            simp only [q1]
            rw [if_pos ⟨trivial, unpk_len _ _, by omega, k10⟩]; rfl
          | _ => cases h7
      · cases h7
  · cases hk
end Go.Abs.YtobmjhfgmhfocaaGreatDoor
/- The functions, as a table, for the third evaluator. (Printed by a program.) -/
namespace Go.Abs.YtobmjhfgmhfocaaGreatDoor
noncomputable def TT : TF := (.node 85 (.node 45 (.node 32 (.node 21 (.node 15 (.node 12 (.leaf 10 fe10) (.node 14 (.leaf 12 fe12) (.leaf 14 fe14))) (.node 17 (.leaf 15 fe15) (.node 18 (.leaf 17 fe17) (.leaf 18 fe18)))) (.node 29 (.node 22 (.leaf 21 fe21) (.node 23 (.leaf 22 fe22) (.leaf 23 fe23))) (.node 30 (.leaf 29 fe29) (.node 31 (.leaf 30 fe30) (.leaf 31 feString))))) (.node 39 (.node 35 (.node 33 (.leaf 32 fe32) (.node 34 (.leaf 33 fe33) (.leaf 34 fe34))) (.node 37 (.leaf 35 fe35) (.node 38 (.leaf 37 fe37) (.leaf 38 fe38)))) (.node 42 (.node 40 (.leaf 39 fe39) (.node 41 (.leaf 40 fe40) (.leaf 41 fe41))) (.node 43 (.leaf 42 feIndexByte) (.node 44 (.leaf 43 fe43) (.leaf 44 fe44)))))) (.node 68 (.node 51 (.node 48 (.node 46 (.leaf 45 fe45) (.node 47 (.leaf 46 fe46) (.leaf 47 feParseUint))) (.node 49 (.leaf 48 fe48) (.node 50 (.leaf 49 fe49) (.leaf 50 fe50)))) (.node 65 (.node 52 (.leaf 51 feAs) (.node 64 (.leaf 52 fe52) (.leaf 64 fe64))) (.node 66 (.leaf 65 fe65) (.node 67 (.leaf 66 fe66) (.leaf 67 fe67))))) (.node 75 (.node 72 (.node 69 (.leaf 68 fe68) (.node 70 (.leaf 69 fe69) (.leaf 70 fe70))) (.node 73 (.leaf 72 fe72) (.node 74 (.leaf 73 fe73) (.leaf 74 fe74)))) (.node 78 (.node 76 (.leaf 75 fe75) (.node 77 (.leaf 76 fe76) (.leaf 77 fe77))) (.node 81 (.node 80 (.leaf 78 fe78) (.leaf 80 fe80)) (.node 82 (.leaf 81 fe81) (.leaf 82 fe82))))))) (.node 141 (.node 112 (.node 105 (.node 92 (.node 86 (.leaf 85 fe85) (.node 91 (.leaf 86 fe86) (.leaf 91 feTypeOf))) (.node 103 (.leaf 92 fe92) (.node 104 (.leaf 103 fe103) (.leaf 104 fe104)))) (.node 108 (.node 106 (.leaf 105 fe105) (.node 107 (.leaf 106 fe106) (.leaf 107 fe107))) (.node 110 (.leaf 108 fe108) (.node 111 (.leaf 110 fe110) (.leaf 111 fe111))))) (.node 119 (.node 115 (.node 113 (.leaf 112 fe112) (.node 114 (.leaf 113 fe113) (.leaf 114 fe114))) (.node 116 (.leaf 115 fe115) (.node 118 (.leaf 116 fe116) (.leaf 118 fe118)))) (.node 137 (.node 120 (.leaf 119 fe119) (.node 127 (.leaf 120 fe120) (.leaf 127 fe127))) (.node 139 (.node 138 (.leaf 137 feCopyCheck) (.leaf 138 feRepeat)) (.node 140 (.leaf 139 fe139) (.leaf 140 fe140)))))) (.node 163 (.node 147 (.node 144 (.node 142 (.leaf 141 fe141) (.node 143 (.leaf 142 fe142) (.leaf 143 fe143))) (.node 145 (.leaf 144 fe144) (.node 146 (.leaf 145 fe145) (.leaf 146 fe146)))) (.node 160 (.node 148 (.leaf 147 fe147) (.node 149 (.leaf 148 fe148) (.leaf 149 fe149))) (.node 161 (.leaf 160 fe160) (.node 162 (.leaf 161 fe161) (.leaf 162 fe162))))) (.node 174 (.node 166 (.node 164 (.leaf 163 fe163) (.node 165 (.leaf 164 fe164) (.leaf 165 fe165))) (.node 167 (.leaf 166 fe166) (.node 168 (.leaf 167 fe167) (.leaf 168 fe168)))) (.node 177 (.node 175 (.leaf 174 feFormatUint) (.node 176 (.leaf 175 fe175) (.leaf 176 fe176))) (.node 212 (.node 178 (.leaf 177 fe177) (.leaf 178 fe178)) (.node 221 (.leaf 212 fe212) (.leaf 221 feComparable))))))))
theorem TT_ok : TT.Ok X0 := ⟨⟨⟨⟨⟨⟨fe10_ok, ⟨fe12_ok, fe14_ok⟩⟩, ⟨fe15_ok, ⟨fe17_ok, fe18_ok⟩⟩⟩, ⟨⟨fe21_ok, ⟨fe22_ok, fe23_ok⟩⟩, ⟨fe29_ok, ⟨fe30_ok, feString_ok⟩⟩⟩⟩, ⟨⟨⟨fe32_ok, ⟨fe33_ok, fe34_ok⟩⟩, ⟨fe35_ok, ⟨fe37_ok, fe38_ok⟩⟩⟩, ⟨⟨fe39_ok, ⟨fe40_ok, fe41_ok⟩⟩, ⟨feIndexByte_ok, ⟨fe43_ok, fe44_ok⟩⟩⟩⟩⟩, ⟨⟨⟨⟨fe45_ok, ⟨fe46_ok, feParseUint_ok⟩⟩, ⟨fe48_ok, ⟨fe49_ok, fe50_ok⟩⟩⟩, ⟨⟨feAs_ok, ⟨fe52_ok, fe64_ok⟩⟩, ⟨fe65_ok, ⟨fe66_ok, fe67_ok⟩⟩⟩⟩, ⟨⟨⟨fe68_ok, ⟨fe69_ok, fe70_ok⟩⟩, ⟨fe72_ok, ⟨fe73_ok, fe74_ok⟩⟩⟩, ⟨⟨fe75_ok, ⟨fe76_ok, fe77_ok⟩⟩, ⟨⟨fe78_ok, fe80_ok⟩, ⟨fe81_ok, fe82_ok⟩⟩⟩⟩⟩⟩, ⟨⟨⟨⟨⟨fe85_ok, ⟨fe86_ok, feTypeOf_ok⟩⟩, ⟨fe92_ok, ⟨fe103_ok, fe104_ok⟩⟩⟩, ⟨⟨fe105_ok, ⟨fe106_ok, fe107_ok⟩⟩, ⟨fe108_ok, ⟨fe110_ok, fe111_ok⟩⟩⟩⟩, ⟨⟨⟨fe112_ok, ⟨fe113_ok, fe114_ok⟩⟩, ⟨fe115_ok, ⟨fe116_ok, fe118_ok⟩⟩⟩, ⟨⟨fe119_ok, ⟨fe120_ok, fe127_ok⟩⟩, ⟨⟨feCopyCheck_ok, feRepeat_ok⟩, ⟨fe139_ok, fe140_ok⟩⟩⟩⟩⟩, ⟨⟨⟨⟨fe141_ok, ⟨fe142_ok, fe143_ok⟩⟩, ⟨fe144_ok, ⟨fe145_ok, fe146_ok⟩⟩⟩, ⟨⟨fe147_ok, ⟨fe148_ok, fe149_ok⟩⟩, ⟨fe160_ok, ⟨fe161_ok, fe162_ok⟩⟩⟩⟩, ⟨⟨⟨fe163_ok, ⟨fe164_ok, fe165_ok⟩⟩, ⟨fe166_ok, ⟨fe167_ok, fe168_ok⟩⟩⟩, ⟨⟨feFormatUint_ok, ⟨fe175_ok, fe176_ok⟩⟩, ⟨⟨fe177_ok, fe178_ok⟩, ⟨fe212_ok, feComparable_ok⟩⟩⟩⟩⟩⟩⟩
end Go.Abs.YtobmjhfgmhfocaaGreatDoor
