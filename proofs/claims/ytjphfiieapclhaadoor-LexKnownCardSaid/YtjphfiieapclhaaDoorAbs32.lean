/- The layer Abs, part 32: the second evaluator: steps, regions, code, functions; what it tells holds of the calls. -/
import Derived.Test.YtjphfiieapclhaaDoorAbs31
namespace Go.Abs

noncomputable def gget : Env → Nat → AV := List.rec (motive := fun _ => Nat → AV) (fun _ => .u) (fun p _ ih n => Bool.rec (motive := fun _ => AV) (ih n) p.2 (Nat.beq p.1 n))
theorem gget_eq : ∀ (e : Env) (n : Nat), gget e n = get e n
  | [], _ => rfl
  | (d, v) :: e, n => by
    have h : gget ((d, v) :: e) n = Bool.rec (motive := fun _ => AV) (gget e n) v (Nat.beq d n) := rfl
    rw [h, gget_eq e n]
    simp only [get]
    cases hb : Nat.beq d n with
    | true => rw [if_pos (Nat.eq_of_beq_eq_true hb)]
    | false => rw [if_neg (Nat.ne_of_beq_eq_false hb)]
noncomputable def gev (e : Env) : Opd → AV := Opd.rec (motive := fun _ => AV) (fun n => gget e n) (fun v => v)
theorem gev_eq (e : Env) : gev e = Opd.ev e := by
  funext x
  cases x with
  | t n => exact gget_eq e n
  | c v => rfl
noncomputable def gvl (e : Env) (x : Opd) : AV := (gev e x).val
theorem gvl_eq (e : Env) : gvl e = fun x => (Opd.ev e x).val := by funext x; unfold gvl; rw [gev_eq]

/-! #### One operation -/
abbrev KO := Program → (Opd → AV) → FS → KR → Bool
noncomputable def oMv (x : Opd) : KO := fun _ ρ s K => outV (some (ρ x)) s K
noncomputable def oPick (c a b : Opd) : KO := fun _ ρ s K => outV (aPick (ρ c) (ρ a) (ρ b)) s K
noncomputable def oAllocT (t : Nat) (s : FS) (K : KR) (T : AT) : Bool := fNewL t T.zero.cells (pNew s) s K
noncomputable def oAlloc (t : Nat) : KO := fun P _ s K => Option.rec (motive := fun _ => Bool) false (oAllocT t s K) (tyOf P t)
def boxable : AV → Bool
  | .u | .tu _ | .cd _ _ => false
  | _ => true
noncomputable def oBox (t : Nat) (x : Opd) : KO := fun _ ρ s K => bC (boxable (ρ x)) (fNewL t (ρ x).cells (pNew s) s K) false
noncomputable def oBuild (t : Nat) (ps : List (Nat × Opd)) : KO := fun P ρ s K => outV (aBuild P t (ps.map fun q => (q.1, ρ q.2))) s K
noncomputable def oBsl (t n : Nat) (ps : List (Nat × Opd)) : KO := fun P ρ s K => fBsl P t n (ps.map fun q => (q.1, ρ q.2)) s K
noncomputable def oLoad (t : Nat) (x : Opd) : KO := fun P ρ s K => outV (fLoad (tyOf P t) (ρ x) s) s K
noncomputable def oStore (t : Nat) (x y : Opd) : KO := fun P ρ s K => fStore (tyOf P t) (ρ x) (ρ y) s K
noncomputable def oNilck (x : Opd) : KO := fun _ ρ s K => outV (aNil (ρ x)) s K
noncomputable def oBin (op : BinOp) (t : Nat) (x y : Opd) : KO := fun P ρ s K => outV (aBin P op t (ρ x) (ρ y) (x.isC || y.isC)) s K
noncomputable def oUn (op : UnOp) (x : Opd) : KO := fun _ ρ s K => outV (aUn op (ρ x)) s K
noncomputable def oConv (a b : Nat) (x : Opd) : KO := fun P ρ s K => fConv P a b (ρ x) s K
noncomputable def oMki (t : Nat) (x : Opd) : KO := fun P ρ s K => match tyOf P t with
  | some ⟨.ifc _, _, _, _, _, _, _⟩ => false
  | some _ => outV (some (.ic t (ρ x))) s K
  | none => false
noncomputable def oMkf (f : Fn) (a c : List Opd) : KO := fun _ ρ s K => outV (some (.fn f (a.map ρ) (c.map ρ))) s K
noncomputable def oMks (t : Nat) (l c : Opd) : KO := fun P ρ s K => fMks P t (ρ l) (ρ c) s K
noncomputable def oSlc (t : Nat) (x : Opd) (l h : Option Opd) : KO := fun P ρ s K => outV (fSlc P t (ρ x) (l.map ρ) (h.map ρ) s) s K
noncomputable def oFad (t : Nat) (x : Opd) (f : Nat) : KO := fun P ρ s K => outV (aFad P t (ρ x) f) s K
noncomputable def oFld (t : Nat) (x : Opd) (f : Nat) : KO := fun P ρ s K => outV (aFld P t (ρ x) f) s K
noncomputable def oIad (t : Nat) (x i : Opd) : KO := fun P ρ s K => outV (aIad P t (ρ x) (ρ i)) s K
noncomputable def oIdx (t : Nat) (x i : Opd) : KO := fun P ρ s K => outV (aIdx P t (ρ x) (ρ i)) s K
noncomputable def oRng (t : Nat) (x : Opd) : KO := fun P ρ s K => fRng P t (ρ x) s K
noncomputable def oNxt (x : Opd) : KO := fun _ ρ s K => fNxt (ρ x) s K
noncomputable def oTas (x : Opd) (_ at_ : Nat) (ok : Bool) : KO := fun P ρ s K => outV (aTas P (ρ x) at_ ok) s K
noncomputable def oExt (x : Opd) (i : Nat) : KO := fun _ ρ s K => match ρ x with
  | .tu vs => outV (vs[i]?) s K
  | _ => false
noncomputable def oLen (t : Nat) (x : Opd) : KO := fun P ρ s K => outV (aLen P t (ρ x)) s K
noncomputable def oApp (t : Nat) (_ : Bool) (x y : Opd) : KO := fun P ρ s K => fApp P t (ρ x) (ρ y) s K
noncomputable def oCopy (t : Nat) (x y : Opd) : KO := fun P ρ s K => fCopy P t (ρ x) (ρ y) s K
noncomputable def oMn (mx : Bool) (xs : List Opd) : KO := fun _ ρ s K => outV (aMn mx (xs.map ρ)) s K
def oNo : KO := fun _ _ _ _ => false
abbrev RunK := Nat → List AV → FS → KR → Bool
abbrev KX := Ctx → RunK → (Opd → AV) → FS → KR → Bool
def lo (o : KO) : KX := fun X _ ρ s K => o X.P ρ s K
noncomputable def cCall (f : Opd) (args : List Opd) : KX := fun _ run ρ s K => match ρ f with
  | .fn (.func k) first cap => fVs (first ++ args.map ρ ++ cap) fun l => run k l s K
  | _ => false
noncomputable def cInv (x : Opd) (m : String) (args : List Opd) : KX := fun X run ρ s K => match ρ x with
  | .ic t v => match X.meth t m v with
    | some k => fVs (k.2 :: args.map ρ) fun l => run k.1 l s K
    | none => false
  | _ => false
noncomputable def fCall : AOp → KX := AOp.rec (motive := fun _ => KX) (fun x => lo (oMv x)) (fun c a b => lo (oPick c a b)) (fun t => lo (oAlloc t)) (fun t x => lo (oBox t x)) (fun t ps => lo (oBuild t ps)) (fun t n ps => lo (oBsl t n ps))
  (fun t x => lo (oLoad t x)) (fun t x y => lo (oStore t x y)) (fun x => lo (oNilck x)) (fun op t x y => lo (oBin op t x y)) (fun op x => lo (oUn op x)) (fun s d x => lo (oConv s d x)) (fun t x => lo (oMki t x)) (fun f a c => lo (oMkf f a c)) (fun t l c => lo (oMks t l c))
  (fun t x l h => lo (oSlc t x l h)) (fun t x f => lo (oFad t x f)) (fun t x f => lo (oFld t x f)) (fun t x i => lo (oIad t x i)) (fun t x i => lo (oIdx t x i)) (fun t x => lo (oRng t x)) (fun x => lo (oNxt x)) (fun x t a ok => lo (oTas x t a ok)) (fun x i => lo (oExt x i))
  cCall cInv (fun t x => lo (oLen t x)) (fun t b x y => lo (oApp t b x y)) (fun t x y => lo (oCopy t x y)) (fun m xs => lo (oMn m xs)) (fun _ => lo oNo)

section
variable {X : Ctx} {s : FS} {σ : St} {K : KR}

theorem To.out {o : Option AV} (h : s.Is σ) (hk : outV o s K = true) : To (o.map (·, σ)) K := by
  obtain ⟨v, rfl, h2⟩ := outV_ok hk
  exact ⟨v, σ, s, rfl, h, h2⟩
/-- What a function table tells. -/
def RunK.Ok (X : Ctx) (run : RunK) : Prop := ∀ (f : Nat) (args : List AV) (s : FS) (σ : St) (K : KR), s.Is σ → run f args s K = true → ∃ n, To (bFn X n f args σ) K
theorem To.le {n m : Nat} {f : Nat} {args : List AV} (h : n ≤ m) (k : To (bFn X n f args σ) K) : To (bFn X m f args σ) K := by
  obtain ⟨v, σ', s', h1, h2, h3⟩ := k
  exact ⟨v, σ', s', bFn_le X h _ _ _ _ h1, h2, h3⟩

theorem fCall_ok {run : RunK} (hr : run.Ok X) {op : AOp} {ρ : Opd → AV} (h : s.Is σ) (hk : fCall op X run ρ s K = true) : ∃ n, To (aCall X (bFn X n) ρ op σ) K := by
  cases op with
  | mv x => exact ⟨0, To.out (o := some (ρ x)) h hk⟩
  | pick c a b => exact ⟨0, To.out h hk⟩
  | alloc t =>
    refine ⟨0, ?_⟩
    have hk' : Option.rec (motive := fun _ => Bool) false (oAllocT t s K) (tyOf X.P t) = true := hk
    simp only [aCall, aOp]
    cases hT : tyOf X.P t with
    | none => rw [hT] at hk'; cases hk'
    | some T =>
      rw [hT] at hk'
      obtain ⟨s', h1, h2⟩ := fNewL_ok h hk'
      rw [pNew_eq h] at h2
      exact ⟨_, _, s', rfl, h1, h2⟩
  | box t x =>
    refine ⟨0, ?_⟩
    obtain ⟨k1, k2⟩ := bC_and hk
    obtain ⟨s', h1, h2⟩ := fNewL_ok h k2
    rw [pNew_eq h] at h2
    refine ⟨_, _, s', ?_, h1, h2⟩
    simp only [aCall, aOp]
    split
    all_goals first
      | (rename_i hx; rw [hx] at k1; cases k1)
      | rfl
  | build t ps => exact ⟨0, To.out h hk⟩
  | bsl t n ps => exact ⟨0, fBsl_ok h hk⟩
  | load t x =>
    refine ⟨0, ?_⟩
    obtain ⟨v, h1, h2⟩ := outV_ok hk
    exact ⟨v, σ, s, by simp only [aCall, aOp]; rw [fLoad_ok h h1]; rfl, h, h2⟩
  | store t x y => exact ⟨0, fStore_ok h hk⟩
  | nilck x => exact ⟨0, To.out h hk⟩
  | bin op t x y => exact ⟨0, To.out h hk⟩
  | un op x => exact ⟨0, To.out h hk⟩
  | conv a b x => exact ⟨0, fConv_ok h hk⟩
  | mki t x =>
    refine ⟨0, ?_⟩
    have hk' : oMki t x X.P ρ s K = true := hk
    unfold oMki at hk'
    simp only [aCall, aOp]
    split at hk'
    · cases hk'
    · rename_i hn hT
      obtain ⟨v, h1, h2⟩ := outV_ok hk'
      cases h1
      refine ⟨_, _, s, ?_, h, h2⟩
      split
      · rename_i hT2; exact (hn _ _ _ _ _ _ _ (Option.some.inj (hT.symm.trans hT2))).elim
      · rfl
      · rename_i hT2; rw [hT] at hT2; cases hT2
    · cases hk'
  | mkf f a c => exact ⟨0, To.out (o := some (.fn f (a.map ρ) (c.map ρ))) h hk⟩
  | mks t l c => exact ⟨0, fMks_ok h hk⟩
  | slc t x l hh =>
    refine ⟨0, ?_⟩
    obtain ⟨v, h1, h2⟩ := outV_ok hk
    exact ⟨v, σ, s, by simp only [aCall, aOp]; rw [fSlc_ok h h1]; rfl, h, h2⟩
  | fad t x f => exact ⟨0, To.out h hk⟩
  | fld t x f => exact ⟨0, To.out h hk⟩
  | iad t x i => exact ⟨0, To.out h hk⟩
  | idx t x i => exact ⟨0, To.out h hk⟩
  | rng t x => exact ⟨0, fRng_ok h hk⟩
  | nxt x => exact ⟨0, fNxt_ok h hk⟩
  | tas x t a ok => exact ⟨0, To.out h hk⟩
  | ext x i =>
    refine ⟨0, ?_⟩
    have hk' : oExt x i X.P ρ s K = true := hk
    unfold oExt at hk'
    simp only [aCall, aOp]
    split at hk'
    · rename_i vs hx; simp only [hx]; exact To.out h hk'
    · cases hk'
  | call f args =>
    have hk' : cCall f args X run ρ s K = true := hk
    unfold cCall at hk'
    simp only [aCall]
    split at hk'
    · rename_i k first cap hx
      rw [fVs_eq] at hk'
      simp only [hx]
      exact hr _ _ _ _ _ h hk'
    · cases hk'
  | inv x m args =>
    have hk' : cInv x m args X run ρ s K = true := hk
    unfold cInv at hk'
    simp only [aCall]
    split at hk'
    · rename_i t v hx
      simp only [hx]
      split at hk'
      · rename_i k hm
        rw [fVs_eq] at hk'
        simp only [hm]
        exact hr _ _ _ _ _ h hk'
      · cases hk'
    · cases hk'
  | len t x => exact ⟨0, To.out h hk⟩
  | app t b x y => exact ⟨0, fApp_ok h hk⟩
  | copy t x y => exact ⟨0, fCopy_ok h hk⟩
  | mn m xs => exact ⟨0, To.out h hk⟩
  | pnc x => cases hk

/-! #### Guards -/
noncomputable def fPure (P : Program) (ρ : Opd → AV) (op : AOp) (s : FS) : Option AV := match op with
  | .load t x => fLoad (tyOf P t) (ρ x) s
  | .slc t x l h => fSlc P t (ρ x) (l.map ρ) (h.map ρ) s
  | op => bC op.still ((aOp P ρ op []).map (·.1)) none
theorem fPure_ok {P : Program} {ρ : Opd → AV} {op : AOp} {v : AV} (h : s.Is σ) (hk : fPure P ρ op s = some v) : aOp P ρ op σ = some (v, σ) := by
  unfold fPure at hk
  split at hk
  · simp only [aOp]; rw [fLoad_ok h hk]; rfl
  · simp only [aOp]; rw [fSlc_ok h hk]; rfl
  · obtain ⟨h1, h2⟩ := bC_some hk
    rw [Option.map_eq_some_iff] at h2
    obtain ⟨⟨v', σ'⟩, q1, rfl⟩ := h2
    exact aOp_still h1 q1 σ
noncomputable def fGuardT (P : Program) (e : Env) (op : AOp) (s : FS) : Option AV := match op with
  | .pick q a b => aPickG true (gev e q) (gev e a) (gev e b)
  | op => bC (op.opds.all fun o => (gev e o).cnd) ((fPure P (gvl e) op s).map (AV.cd true)) none
theorem fGuardT_ok {P : Program} {e : Env} {op : AOp} {v : AV} (h : s.Is σ) (hk : fGuardT P e op s = some v) : aGuardT P e op σ = some v := by
  unfold fGuardT at hk
  rw [gev_eq, gvl_eq] at hk
  unfold aGuardT
  split at hk
  · exact hk
  · rename_i hn
    obtain ⟨h1, h2⟩ := bC_some hk
    rw [Option.map_eq_some_iff] at h2
    obtain ⟨v', q1, rfl⟩ := h2
    have q2 := fPure_ok (σ := σ) h q1
    split
    · rename_i q a b; exact (hn q a b rfl).elim
    · rw [q2]
      simp only [aLift, impB_of_true]
      rw [if_pos h1]
noncomputable def fGuard (P : Program) (c : Bool) (e : Env) (op : AOp) (s : FS) : Option AV := bC c (fGuardT P e op s) (some (.cd false .u))
theorem fGuard_ok {P : Program} {c : Bool} {e : Env} {op : AOp} {v : AV} (h : s.Is σ) (hk : fGuard P c e op s = some v) : aGuard P c e op σ = some v := by
  unfold fGuard at hk
  unfold aGuard
  cases c with
  | true => rw [if_pos rfl]; exact fGuardT_ok h hk
  | false => rw [if_neg (by simp)]; exact hk
noncomputable def fStepG (X : Ctx) (run : RunK) (e : Env) (op : AOp) (s : FS) (K : KR) (c : Bool) : Bool :=
  bC op.pure (outV (fGuard X.P c e op s) s K) (bC c (bC (op.opds.all fun o => (gev e o).cnd) (fCall op X run (gvl e) s K) false) (K (.tu []) s))
noncomputable def fStepO (X : Ctx) (run : RunK) (e : Env) (op : AOp) (s : FS) (K : KR) (g : Option (Nat × Bool)) : Bool :=
  Option.rec (motive := fun _ => Bool) (fCall op X run (gev e) s K) (fun g => Option.rec (motive := fun _ => Bool) false (fStepG X run e op s K) (wantedA e (some g))) g
noncomputable def fStep : AI → Ctx → RunK → Env → FS → KR → Bool := AI.rec (motive := fun _ => Ctx → RunK → Env → FS → KR → Bool) (fun _ g op X run e s K => fStepO X run e op s K g)
theorem fStep_ok {run : RunK} (hr : run.Ok X) {a : AI} {e : Env} (h : s.Is σ) (hk : fStep a X run e s K = true) : ∃ n, To (aStep X (bFn X n) e a σ) K := by
  obtain ⟨d, g, op⟩ := a
  have hk' : fStepO X run e op s K g = true := hk
  unfold fStepO at hk'
  unfold aStep
  cases g with
  | none =>
    simp only at hk' ⊢
    rw [gev_eq] at hk'
    exact fCall_ok hr h hk'
  | some g =>
    simp only at hk' ⊢
    cases hw : wantedA e (some g) with
    | none => rw [hw] at hk'; cases hk'
    | some c =>
      rw [hw] at hk'
      simp only at hk' ⊢
      unfold fStepG at hk'
      cases hp : op.pure with
      | true =>
        rw [hp, bC_t] at hk'
        obtain ⟨v, h1, h2⟩ := outV_ok hk'
        exact ⟨0, v, σ, s, by rw [if_pos rfl, fGuard_ok h h1]; rfl, h, h2⟩
      | false =>
        rw [hp, bC_f] at hk'
        cases c with
        | true =>
          rw [bC_t] at hk'
          obtain ⟨k1, k2⟩ := bC_and hk'
          rw [gev_eq] at k1
          rw [gvl_eq] at k2
          obtain ⟨n, hh⟩ := fCall_ok hr h k2
          refine ⟨n, ?_⟩
          rw [if_neg (by simp), if_pos rfl, if_pos k1]
          exact hh
        | false =>
          rw [bC_f] at hk'
          exact ⟨0, _, σ, s, by rw [if_neg (by simp), if_neg (by simp)], h, hk'⟩

/-! #### Regions -/
abbrev KE := Env → FS → Bool
abbrev KG := Ctx → RunK → Env → FS → KE → Bool
noncomputable def kPut (d : Option Nat) (ih : KG) (X : Ctx) (run : RunK) (e : Env) (K : KE) (v : AV) (s : FS) : Bool := Option.rec (motive := fun _ => Bool) (ih X run e s K) (fun d => ih X run ((d, v) :: e) s K) d
theorem kPut_eq (d : Option Nat) (ih : KG) (X : Ctx) (run : RunK) (e : Env) (K : KE) (v : AV) (s : FS) : kPut d ih X run e K v s = ih X run (put d v e) s K := by cases d <;> rfl
noncomputable def gCons (a : AI) (ih : KG) : KG := fun X run e s K => fStep a X run e s (kPut a.d ih X run e K)
noncomputable def fOps : List AI → KG := List.rec (motive := fun _ => KG) (fun _ _ e s K => K e s) (fun a _ ih => gCons a ih)
def ToE (o : Option (Env × St)) (K : KE) : Prop := ∃ e' σ' s', o = some (e', σ') ∧ FS.Is s' σ' ∧ K e' s' = true
theorem fOps_ok {run : RunK} (hr : run.Ok X) : ∀ {ops : List AI} {e : Env} {s : FS} {σ : St} {K : KE}, s.Is σ → fOps ops X run e s K = true → ∃ n, ToE (aOps X (bFn X n) ops e σ) K
  | [], e, s, σ, K, h, hk => ⟨0, e, σ, s, rfl, h, hk⟩
  | a :: ops, e, s, σ, K, h, hk => by
    have hk' : fStep a X run e s (kPut a.d (fOps ops) X run e K) = true := hk
    obtain ⟨n, v, σ1, s1, h1, h2, h3⟩ := fStep_ok hr h hk'
    rw [kPut_eq] at h3
    obtain ⟨m, e', σ', s', q1, q2, q3⟩ := fOps_ok hr h2 h3
    refine ⟨max n m, e', σ', s', ?_, q2, q3⟩
    simp only [aOps]
    rw [aStep_le (bFn_le X (Nat.le_max_left n m)) h1]
    exact aOps_le (bFn_le X (Nat.le_max_right n m)) q1
noncomputable def fSame (o : Option AV) (e : Env) (d : Nat) : Bool := Option.rec (motive := fun _ => Bool) false (fun v => AV.eqv v (gget e d)) o
noncomputable def fAgO (P : Program) (e : Env) (s : FS) (op : AOp) (d : Nat) (g : Option (Nat × Bool)) : Bool := match g with
  | none => fSame (fPure P (gev e) op s) e d
  | some g => match wantedA e (some g) with
    | some c => bC op.pure (fSame (fGuard P c e op s) e d) false
    | none => false
noncomputable def fAg (P : Program) (e : Env) (s : FS) (a : AI) : Bool := match a with
  | ⟨some d, g, op⟩ => fAgO P e s op d g
  | _ => false
theorem aCall_op {run : Run} {ρ : Opd → AV} {op : AOp} {v : AV} (h : aOp X.P ρ op σ = some (v, σ)) : aCall X run ρ op σ = some (v, σ) := by
  cases op <;> first | exact h | cases h
theorem fAg_ok {e : Env} {a : AI} (h : s.Is σ) (hk : fAg X.P e s a = true) : aAgain X e σ a = true := by
  unfold fAg at hk
  split at hk
  · rename_i d g op
    unfold fAgO at hk
    have key : ∀ (o : Option AV), fSame o e d = true → (∀ v, o = some v → aStep X (fun _ _ _ => none) e ⟨some d, g, op⟩ σ = some (v, σ)) → aAgain X e σ ⟨some d, g, op⟩ = true := by
      intro o ho hs
      cases o with
      | none => cases ho
      | some v =>
        have ho' : AV.eqv v (gget e d) = true := ho
        rw [gget_eq] at ho'
        simp only [aAgain, hs v rfl]
        exact ho'
    split at hk
    · refine key _ hk fun v hv => ?_
      rw [gev_eq] at hv
      simp only [aStep]
      exact aCall_op (fPure_ok h hv)
    · rename_i g
      split at hk
      · rename_i c hc
        obtain ⟨k1, k2⟩ := bC_and hk
        refine key _ k2 fun v hv => ?_
        simp only [aStep, hc]
        rw [if_pos k1, fGuard_ok h hv]; rfl
      · cases hk
  · cases hk
noncomputable def kDrw (ag : List AI) (d : Option Nat) (ih : KG) (X : Ctx) (run : RunK) (e : Env) (K : KE) (v : AV) (s : FS) : Bool := bC (ag.all (fAg X.P e s)) (kPut d ih X run e K v s) false
noncomputable def gDrw (a : AI × List AI) (ih : KG) : KG := fun X run e s K => fStep a.1 X run e s (kDrw a.2 a.1.d ih X run e K)
noncomputable def fDrw : List (AI × List AI) → KG := List.rec (motive := fun _ => KG) (fun _ _ e s K => K e s) (fun a _ ih => gDrw a ih)
theorem fDrw_ok {run : RunK} (hr : run.Ok X) : ∀ {ops : List (AI × List AI)} {e : Env} {s : FS} {σ : St} {K : KE}, s.Is σ → fDrw ops X run e s K = true → ∃ n, ToE (aDrw X (bFn X n) ops e σ) K
  | [], e, s, σ, K, h, hk => ⟨0, e, σ, s, rfl, h, hk⟩
  | (a, ag) :: ops, e, s, σ, K, h, hk => by
    have hk' : fStep a X run e s (kDrw ag a.d (fDrw ops) X run e K) = true := hk
    obtain ⟨n, v, σ1, s1, h1, h2, h3⟩ := fStep_ok hr h hk'
    obtain ⟨k1, h3⟩ := bC_and h3
    rw [kPut_eq] at h3
    obtain ⟨m, e', σ', s', q1, q2, q3⟩ := fDrw_ok hr h2 h3
    refine ⟨max n m, e', σ', s', ?_, q2, q3⟩
    simp only [aDrw]
    rw [aStep_le (bFn_le X (Nat.le_max_left n m)) h1]
    simp only
    have hall : ag.all (aAgain X e σ1) = true := by
      rw [List.all_eq_true] at k1 ⊢
      exact fun x hx => fAg_ok h2 (k1 x hx)
    rw [if_pos hall]
    exact aDrw_le (bFn_le X (Nat.le_max_right n m)) q1

/-! #### Code -/
abbrev KQ := Out → Env → FS → Bool
abbrev KC := Ctx → RunK → Nat → Env → FS → KQ → Bool
noncomputable def fClear (e : Env) : List Nat → (Env → Bool) → Bool := List.rec (motive := fun _ => (Env → Bool) → Bool) (fun K => K []) (fun d _ ih K => fV (gget e d) fun v => ih fun t => K ((d, v) :: t))
theorem fClear_eq (e : Env) : ∀ (l : List Nat) (K : Env → Bool), fClear e l K = K (clear l e)
  | [], K => rfl
  | d :: l, K => by
    have h : fClear e (d :: l) K = fV (gget e d) fun v => fClear e l fun t => K ((d, v) :: t) := rfl
    rw [h, fV_eq, fClear_eq e l, gget_eq]; rfl
noncomputable def kSeq (ihb : KC) (X : Ctx) (run : RunK) (n : Nat) (K : KQ) (o : Out) (e : Env) (s : FS) : Bool := Out.rec (motive := fun _ => Bool) (ihb X run n e s K) (fun id => K (.exit id) e s) (K .ret e s) o
noncomputable def kBlk (id : Nat) (K : KQ) (o : Out) (e : Env) (s : FS) : Bool := Out.rec (motive := fun _ => Bool) (K .normal e s) (fun j => bC (Nat.beq j id) (K .normal e s) (K (.exit j) e s)) (K .ret e s) o
abbrev KL' := Env → FS → KQ → Bool
noncomputable def kLoop (ih : KL') (K : KQ) (o : Out) (e : Env) (s : FS) : Bool := Out.rec (motive := fun _ => Bool) (ih e s K) (fun id => K (.exit id) e s) (K .ret e s) o
noncomputable def gLoop (live : List Nat) (body : KL') (ih : KL') : KL' := fun e s K => fClear e live fun e => body e s (kLoop ih K)
noncomputable def fLoop (live : List Nat) (body : KL') (n : Nat) : KL' := Nat.rec (motive := fun _ => KL') (fun _ _ _ => false) (fun _ ih => gLoop live body ih) n
noncomputable def hSkip : KC := fun _ _ _ e s K => K .normal e s
noncomputable def hReg (ops : List AI) : KC := fun X run _ e s K => fOps ops X run e s (K .normal)
noncomputable def hDrw (ops : List (AI × List AI)) : KC := fun X run _ e s K => fDrw ops X run e s (K .normal)
noncomputable def hSeq (_ _ : AC) (iha ihb : KC) : KC := fun X run n e s K => iha X run n e s (kSeq ihb X run n K)
noncomputable def hCondB (iha ihb : KC) (X : Ctx) (run : RunK) (n : Nat) (e : Env) (s : FS) (K : KQ) (v : AV) : Bool := match v with
  | .b t => Bool.rec (motive := fun _ => Bool) (ihb X run n e s K) (iha X run n e s K) t
  | _ => false
noncomputable def hCond (x : Opd) (_ _ : AC) (iha ihb : KC) : KC := fun X run n e s K => hCondB iha ihb X run n e s K (gev e x)
noncomputable def hBlk (id : Nat) (_ : AC) (ih : KC) : KC := fun X run n e s K => ih X run n e s (kBlk id K)
noncomputable def hLoop (live : List Nat) (_ : AC) (ih : KC) : KC := fun X run n e s K => fLoop live (ih X run n) n e s K
noncomputable def hCut (live : List Nat) (_ : AC) (ih : KC) : KC := fun X run n e s K => fClear e live fun e => ih X run n e s K
noncomputable def hExit (id : Nat) : KC := fun _ _ _ e s K => K (.exit id) e s
noncomputable def hRet : KC := fun _ _ _ e s K => K .ret e s
noncomputable def fCode : AC → KC := AC.rec (motive := fun _ => KC) hSkip hReg hDrw hSeq hCond hBlk hLoop hCut hExit hRet
def ToC (o : Option (Out × Env × St)) (K : KQ) : Prop := ∃ q e' σ' s', o = some (q, e', σ') ∧ FS.Is s' σ' ∧ K q e' s' = true
theorem fLoop_ok {live : List Nat} {c : AC} {body : KL'} (hb : ∀ (e : Env) (s : FS) (σ : St) (K : KQ), s.Is σ → body e s K = true → ∃ n, ToC (aCode X (bFn X n) n c e σ) K) :
    ∀ (m : Nat) (e : Env) (s : FS) (σ : St) (K : KQ), s.Is σ → fLoop live body m e s K = true → ∃ n, ToC (aLoop live (aCode X (bFn X n) n c) n e σ) K
  | 0, _, _, _, _, _, hk => by cases hk
  | m + 1, e, s, σ, K, h, hk => by
    have hk' : fClear e live (fun e => body e s (kLoop (fLoop live body m) K)) = true := hk
    rw [fClear_eq] at hk'
    obtain ⟨n1, q, e1, σ1, s1, h1, h2, h3⟩ := hb _ _ _ _ h hk'
    cases q with
    | normal =>
      obtain ⟨n2, q2, e2, σ2, s2, r1, r2, r3⟩ := fLoop_ok hb m e1 s1 σ1 K h2 h3
      refine ⟨max n1 n2 + 1, q2, e2, σ2, s2, ?_, r2, r3⟩
      simp only [aLoop]
      rw [aCode_le (bFn_le X (by omega : n1 ≤ max n1 n2 + 1)) (by omega) h1]
      exact aLoop_le (fun _ _ _ hx => aCode_le (bFn_le X (by omega : n2 ≤ max n1 n2 + 1)) (by omega) hx) (by omega) r1
    | exit id =>
      refine ⟨n1 + 1, .exit id, e1, σ1, s1, ?_, h2, h3⟩
      simp only [aLoop]
      rw [aCode_le (bFn_le X (by omega : n1 ≤ n1 + 1)) (by omega) h1]
    | ret =>
      refine ⟨n1 + 1, .ret, e1, σ1, s1, ?_, h2, h3⟩
      simp only [aLoop]
      rw [aCode_le (bFn_le X (by omega : n1 ≤ n1 + 1)) (by omega) h1]
theorem fCode_ok {run : RunK} (hr : run.Ok X) (N : Nat) : ∀ (c : AC) (e : Env) (s : FS) (σ : St) (K : KQ), s.Is σ → fCode c X run N e s K = true → ∃ n, ToC (aCode X (bFn X n) n c e σ) K := by
  intro c
  induction c with
  | skip => intro e s σ K h hk; exact ⟨0, _, e, σ, s, rfl, h, hk⟩
  | exit id => intro e s σ K h hk; exact ⟨0, _, e, σ, s, rfl, h, hk⟩
  | ret => intro e s σ K h hk; exact ⟨0, _, e, σ, s, rfl, h, hk⟩
  | reg ops =>
    intro e s σ K h hk
    obtain ⟨n, e', σ', s', h1, h2, h3⟩ := fOps_ok (K := K .normal) hr h hk
    exact ⟨n, _, e', σ', s', by simp only [aCode]; rw [h1]; rfl, h2, h3⟩
  | drw ops =>
    intro e s σ K h hk
    obtain ⟨n, e', σ', s', h1, h2, h3⟩ := fDrw_ok (K := K .normal) hr h hk
    exact ⟨n, _, e', σ', s', by simp only [aCode]; rw [h1]; rfl, h2, h3⟩
  | seq a b iha ihb =>
    intro e s σ K h hk
    obtain ⟨n1, q, e1, σ1, s1, h1, h2, h3⟩ := iha e s σ _ h hk
    cases q with
    | normal =>
      obtain ⟨n2, q2, e2, σ2, s2, r1, r2, r3⟩ := ihb e1 s1 σ1 K h2 h3
      refine ⟨max n1 n2, q2, e2, σ2, s2, ?_, r2, r3⟩
      simp only [aCode]
      rw [aCode_le (bFn_le X (Nat.le_max_left n1 n2)) (Nat.le_max_left n1 n2) h1]
      exact aCode_le (bFn_le X (Nat.le_max_right n1 n2)) (Nat.le_max_right n1 n2) r1
    | exit id => exact ⟨n1, _, e1, σ1, s1, by simp only [aCode]; rw [h1], h2, h3⟩
    | ret => exact ⟨n1, _, e1, σ1, s1, by simp only [aCode]; rw [h1], h2, h3⟩
  | cond x a b iha ihb =>
    intro e s σ K h hk
    have hk' : hCondB (fCode a) (fCode b) X run N e s K (gev e x) = true := hk
    unfold hCondB at hk'
    rw [gev_eq] at hk'
    split at hk'
    · rename_i t hx
      cases t with
      | true =>
        obtain ⟨n, q, e', σ', s', h1, h2, h3⟩ := iha e s σ K h hk'
        exact ⟨n, q, e', σ', s', by simp only [aCode, hx]; exact h1, h2, h3⟩
      | false =>
        obtain ⟨n, q, e', σ', s', h1, h2, h3⟩ := ihb e s σ K h hk'
        exact ⟨n, q, e', σ', s', by simp only [aCode, hx]; exact h1, h2, h3⟩
    · cases hk'
  | blk id c ih =>
    intro e s σ K h hk
    obtain ⟨n, q, e1, σ1, s1, h1, h2, h3⟩ := ih e s σ _ h hk
    cases q with
    | normal => exact ⟨n, _, e1, σ1, s1, by simp only [aCode]; rw [h1], h2, h3⟩
    | ret => exact ⟨n, _, e1, σ1, s1, by simp only [aCode]; rw [h1], h2, h3⟩
    | exit j =>
      have h3' : bC (Nat.beq j id) (K .normal e1 s1) (K (.exit j) e1 s1) = true := h3
      cases hj : Nat.beq j id with
      | true =>
        rw [hj, bC_t] at h3'
        exact ⟨n, .normal, e1, σ1, s1, by simp only [aCode]; rw [h1]; simp only; rw [if_pos (Nat.eq_of_beq_eq_true hj)], h2, h3'⟩
      | false =>
        rw [hj, bC_f] at h3'
        exact ⟨n, .exit j, e1, σ1, s1, by simp only [aCode]; rw [h1]; simp only; rw [if_neg (Nat.ne_of_beq_eq_false hj)], h2, h3'⟩
  | loop live c ih =>
    intro e s σ K h hk
    obtain ⟨n, q, e1, σ1, s1, h1, h2, h3⟩ := fLoop_ok (X := X) (live := live) (c := c) (body := fCode c X run N) ih N e s σ K h hk
    exact ⟨n, q, e1, σ1, s1, by simp only [aCode]; exact h1, h2, h3⟩
  | cut live c ih =>
    intro e s σ K h hk
    have hk' : fClear e live (fun e => fCode c X run N e s K) = true := hk
    rw [fClear_eq] at hk'
    obtain ⟨n, q, e1, σ1, s1, h1, h2, h3⟩ := ih _ s σ K h hk'
    exact ⟨n, q, e1, σ1, s1, by simp only [aCode]; exact h1, h2, h3⟩

/-! #### Functions -/
noncomputable def fRes1 (P : Program) (e : Env) (s : FS) : AR → Option AV := AR.rec (motive := fun _ => Option AV) (fun n => match gget e n with | .cd _ _ => none | v => some v) (fun a t => fLoad (tyOf P t) (gget e a) s)
noncomputable def fResL (P : Program) (e : Env) (s : FS) : List AR → (List AV → Bool) → Bool := List.rec (motive := fun _ => (List AV → Bool) → Bool) (fun K => K []) (fun r _ ih K => Option.rec (motive := fun _ => Bool) false (fun v => fV v fun v => ih fun l => K (v :: l)) (fRes1 P e s r))
theorem fResL_ok {P : Program} {e : Env} (h : s.Is σ) : ∀ (rs : List AR) (K : List AV → Bool), fResL P e s rs K = true → ∃ vs, aResL P e σ rs = some vs ∧ K vs = true
  | [], K, hk => ⟨[], rfl, hk⟩
  | r :: rs, K, hk => by
    have hk' : Option.rec (motive := fun _ => Bool) false (fun v => fV v fun v => fResL P e s rs fun l => K (v :: l)) (fRes1 P e s r) = true := hk
    cases hr : fRes1 P e s r with
    | none => rw [hr] at hk'; cases hk'
    | some v =>
      rw [hr] at hk'
      simp only [fV_eq] at hk'
      obtain ⟨vs, h1, h2⟩ := fResL_ok h rs _ hk'
      refine ⟨v :: vs, ?_, h2⟩
      have h3 : aRes1 P e σ r = some v := by
        cases r with
        | t n =>
          have hr' : (match gget e n with | .cd _ _ => none | v => some v) = some v := hr
          rw [gget_eq] at hr'
          exact hr'
        | cell a t =>
          have hr' : fLoad (tyOf P t) (gget e a) s = some v := hr
          rw [gget_eq] at hr'
          exact fLoad_ok h hr'
      simp only [aResL, h3, h1]
noncomputable def kResL (s : FS) (K : KR) (l : List AV) : Bool := match l with
  | [v] => K v s
  | vs => K (.tu vs) s
noncomputable def kFin (P : Program) (rs : List AR) (K : KR) (o : Out) (e : Env) (s : FS) : Bool := Out.rec (motive := fun _ => Bool) (fResL P e s rs (kResL s K)) (fun _ => false) (fResL P e s rs (kResL s K)) o
theorem kFin_ok {P : Program} {rs : List AR} {e : Env} (h : s.Is σ) (hk : fResL P e s rs (kResL s K) = true) : ∃ v, aRes P rs e σ = some v ∧ K v s = true := by
  obtain ⟨vs, h1, h2⟩ := fResL_ok h rs _ hk
  unfold kResL at h2
  unfold aRes
  rw [h1]
  split at h2
  · exact ⟨_, rfl, h2⟩
  · rename_i hn
    refine ⟨_, ?_, h2⟩
    split
    · rename_i v hv; cases hv; exact (hn v rfl).elim
    · rename_i hv; cases hv; rfl
    · rename_i hv; cases hv
noncomputable def fArg (args : List AV) : Nat → (Env → Bool) → Bool := List.rec (motive := fun _ => Nat → (Env → Bool) → Bool) (fun _ K => K []) (fun a _ ih n K => ih (Nat.succ n) fun t => K ((n, a) :: t)) args
theorem fArg_eq : ∀ (args : List AV) (n : Nat) (K : Env → Bool), fArg args n K = K (argEnv n args)
  | [], _, _ => rfl
  | a :: l, n, K => by
    have h : fArg (a :: l) n K = fArg l (n + 1) fun t => K ((n, a) :: t) := rfl
    rw [h, fArg_eq l]; rfl
noncomputable def fGo (X : Ctx) (N : Nat) (ih : RunK) (args : List AV) (s : FS) (K : KR) (F : AF) : Bool := bC (Nat.ble args.length F.nt) (fArg args (nat_lit 0) fun e => fCode F.code X ih N e s (kFin X.P F.res K)) false
/-- The functions known by contract, over trees. -/
abbrev Prims := Nat → Option (List AV → FS → KR → Bool)
def Prims.Ok (X : Ctx) (pr : Prims) : Prop := ∀ f g, pr f = some g → ∃ p, X.prim f = some p ∧ ∀ (args : List AV) (s : FS) (σ : St) (K : KR), s.Is σ → g args s K = true → To (p args σ) K
noncomputable def fBody (X : Ctx) (N : Nat) (ih : RunK) (f : Nat) (args : List AV) (s : FS) (K : KR) (hp : Bool) : Bool := bC hp false (Option.rec (motive := fun _ => Bool) false (fGo X N ih args s K) (X.fns f))
noncomputable def fRun (X : Ctx) (pr : Prims) (N : Nat) (ih : RunK) : RunK := fun f args s K => Option.rec (motive := fun _ => Bool) (fBody X N ih f args s K (X.prim f).isSome) (fun g => g args s K) (pr f)
noncomputable def fFn (X : Ctx) (pr : Prims) (N d : Nat) : RunK := Nat.rec (motive := fun _ => RunK) (fun _ _ _ _ => false) (fun _ ih => fRun X pr N ih) d
theorem fFn_ok {pr : Prims} (hpr : pr.Ok X) (N : Nat) : ∀ d, (fFn X pr N d).Ok X
  | 0 => fun _ _ _ _ _ _ hk => by cases hk
  | d + 1 => fun f args s σ K h hk => by
    have hk' : fRun X pr N (fFn X pr N d) f args s K = true := hk
    unfold fRun at hk'
    cases hf : pr f with
    | some g =>
      rw [hf] at hk'
      obtain ⟨p, h1, h2⟩ := hpr f g hf
      refine ⟨1, ?_⟩
      simp only [bFn, h1]
      exact h2 _ _ _ _ h hk'
    | none =>
      rw [hf] at hk'
      have hk2 : fBody X N (fFn X pr N d) f args s K (X.prim f).isSome = true := hk'
      unfold fBody at hk2
      cases hp : X.prim f with
      | some _ => rw [hp] at hk2; cases hk2
      | none =>
        rw [hp] at hk2
        simp only [Option.isSome_none, bC_f] at hk2
        cases hF : X.fns f with
        | none => rw [hF] at hk2; cases hk2
        | some F =>
          rw [hF] at hk2
          have hk3 : fGo X N (fFn X pr N d) args s K F = true := hk2
          unfold fGo at hk3
          obtain ⟨k1, hk3⟩ := bC_and hk3
          rw [fArg_eq] at hk3
          obtain ⟨n, q, e', σ', s', h1, h2, h3⟩ := fCode_ok (fFn_ok hpr N d) N F.code _ _ _ _ h hk3
          refine ⟨n + 1, ?_⟩
          simp only [bFn, hp, hF]
          rw [if_pos (Nat.le_of_ble_eq_true k1)]
          cases q with
          | exit id => cases h3
          | normal =>
            obtain ⟨v, r1, r2⟩ := kFin_ok h2 h3
            refine ⟨v, σ', s', ?_, h2, r2⟩
            rw [h1]; simp only; rw [r1]; rfl
          | ret =>
            obtain ⟨v, r1, r2⟩ := kFin_ok h2 h3
            refine ⟨v, σ', s', ?_, h2, r2⟩
            rw [h1]; simp only; rw [r1]; rfl
/-- A closed run, over a store. -/
noncomputable def fTop (X : Ctx) (pr : Prims) (N d f : Nat) (args : List AV) (σ : St) (K : AV → Bool) : Bool := FS.lay σ FS.nil fun s => fFn X pr N d f args s fun v _ => K v
theorem fTop_ok {pr : Prims} (hpr : pr.Ok X) {N d f : Nat} {args : List AV} {K : AV → Bool} (hk : fTop X pr N d f args σ K = true) : ∃ n v σ', bFn X n f args σ = some (v, σ') ∧ K v = true := by
  unfold fTop at hk
  obtain ⟨s, h1, h2⟩ := FS.lay_ok σ FS.nil_is hk
  obtain ⟨n, v, σ', s', q1, q2, q3⟩ := fFn_ok hpr N d f args s σ _ (by simpa using h2) h1
  exact ⟨n, v, σ', q1, q3⟩
theorem fTop_does {G : Nat} {pr : Prims} (hX : X.Sound G) (hpr : pr.Ok X) {N d f : Nat} {args : List AV} {K : AV → Bool} (hk : fTop X pr N d f args σ K = true) {μ : Mu} {w : World} (hs : Sim G μ σ w) {cargs : Array Value} (hr : VRels μ w args cargs.toList) :
    Does X.P f cargs w fun e w' => ∃ r σ', K r = true ∧ After G μ σ w r σ' e w' := by
  obtain ⟨n, v, σ', h1, h2⟩ := fTop_ok hpr hk
  exact (b_ok hX n f args σ v σ' h1 μ w cargs hs hr).mono fun e w' ha => ⟨v, σ', h2, ha⟩
end
end Go.Abs
