/- The layer Abs, part 25: what code and functions ask, worked out by reduction alone. -/
import Derived.Test.YtjphfiieapclhaaDoorAbs24
namespace Go.Abs

section
variable (X : Ctx) (τ : Tys) (lit : Bool)
/-- An operation that is wanted, or not. -/
def wGo (e : Env) (op : AOp) (σ : St) (K : AV → St → Prop) (c : Bool) : Prop := match c with
  | true => cB op.pure
      (match op with
      | .pick q x y => match (q.ev e).val with
        | .b t => cB (q.ev e).cnd (cB t (cB (x.ev e).cnd (fc (x.ev e).val fun v => K (.cd true v) σ) False) (cB (y.ev e).cnd (fc (y.ev e).val fun v => K (.cd true v) σ) False)) False
        | _ => False
      | op => cB (op.opds.all fun o => (o.ev e).cnd) (wOp X τ lit (fun o => (o.ev e).val) op σ fun v _ => K (.cd true v) σ) False)
      (cB (op.opds.all fun o => (o.ev e).cnd) (wOp X τ lit (fun o => (o.ev e).val) op σ K) False)
  | false => cB op.pure (K (.cd false .u) σ) (K (.tu []) σ)
def wStep (e : Env) (a : AI) (σ : St) (K : AV → St → Prop) : Prop := match a.gd with
  | none => wOp X τ lit (Opd.ev e) a.op σ K
  | some (n, w) => match get e n with
    | .b x => cB x (wGo X τ lit e a.op σ K w) (wGo X τ lit e a.op σ K (!w))
    | .cd c v => cB c (match v with | .b x => cB x (wGo X τ lit e a.op σ K w) (wGo X τ lit e a.op σ K (!w)) | _ => False) (wGo X τ lit e a.op σ K false)
    | .tu vs => match vs with
      | [] => wGo X τ lit e a.op σ K false
      | _ => False
    | _ => False
def wO : List AI → Env → St → (Env → St → Prop) → Prop
  | [], e, σ, K => K e σ
  | a :: r, e, σ, K => wStep X τ lit e a σ fun v σ' => wO r (put a.d v e) σ' K
/-- Does what was read before read the same now? -/
def wAg (e : Env) (σ : St) : List AI → Prop → Prop
  | [], K => K
  | a :: r, K => (match a.d with
    | some d => cB a.op.pure (wStep X τ lit e a σ fun v _ => get e d = v) False
    | none => False) ∧ wAg e σ r K
def wD : List (AI × List AI) → Env → St → (Env → St → Prop) → Prop
  | [], e, σ, K => K e σ
  | a :: r, e, σ, K => wStep X τ lit e a.1 σ fun v σ' => wAg X τ lit e σ' a.2 (wD r (put a.1.d v e) σ' K)
def fenv : List Nat → Env → (Env → Prop) → Prop
  | [], _, K => K []
  | d :: ds, e, K => fc (get e d) fun v => fenv ds e fun r => K ((d, v) :: r)
def wC : AC → Env → St → (Out → Env → St → Prop) → Prop
  | .skip, e, σ, Q => Q .normal e σ
  | .reg ops, e, σ, Q => wO X τ lit ops e σ fun e σ => Q .normal e σ
  | .drw ops, e, σ, Q => wD X τ lit ops e σ fun e σ => Q .normal e σ
  | .seq a b, e, σ, Q => wC a e σ fun o e σ => match o with
    | .normal => wC b e σ Q
    | .exit j => Q (.exit j) e σ
    | .ret => Q .ret e σ
  | .cond x a b, e, σ, Q => match x.ev e with
    | .b t => cB t (wC a e σ Q) (wC b e σ Q)
    | _ => False
  | .blk id c, e, σ, Q => wC c e σ fun o e σ => match o with
    | .normal => Q .normal e σ
    | .exit j => cB (Nat.beq j id) (Q .normal e σ) (Q (.exit j) e σ)
    | .ret => Q .ret e σ
  | .loop live c, e, σ, Q => fenv live e fun e => LoopF X live c e σ Q
  | .cut live c, e, σ, Q => fenv live e fun e => wC c e σ Q
  | .exit id, e, σ, Q => Q (.exit id) e σ
  | .ret, e, σ, Q => Q .ret e σ
def wResL (e : Env) (σ : St) : List AR → (List AV → Prop) → Prop
  | [], K => K []
  | .t n :: rs, K => fc (get e n) fun v => match v with
    | .cd _ _ => False
    | v => wResL e σ rs fun vs => K (v :: vs)
  | .cell a t :: rs, K => om (aLoad (τ t) (get e a) σ) fun v => fc v fun v => wResL e σ rs fun vs => K (v :: vs)
end
/-- What a call leaves. -/
structure Fin (σ : St) (v : AV) (σ' : St) (Q : AV → St → Prop) : Prop where
  ev : Q (norm σ v σ').1 (norm σ v σ').2
def wF (X : Ctx) (τ : Tys) (lit : Bool) (F : AF) (args : List AV) (σ : St) (Q : AV → St → Prop) : Prop :=
  wC X τ lit F.code (argEnv 0 args) σ fun o e σ' => match o with
    | .exit _ => False
    | _ => wResL τ e σ' F.res fun vs => match vs with
      | [] => Fin σ (.tu []) σ' Q
      | [v] => Fin σ v σ' Q
      | v :: w :: vs => Fin σ (.tu (v :: w :: vs)) σ' Q

theorem Fin.flat {σ σ' : St} {v : AV} {Q : AV → St → Prop} (hf : v.flat = true) (h : σ'.take σ.length = σ) (q : Q v σ) : Fin σ v σ' Q := by
  constructor
  unfold norm
  rw [h, hf]
  simpa using q
theorem Fin.ref {σ σ' : St} {v : AV} {Q : AV → St → Prop} (hf : v.flat = false) (q : Q v σ') : Fin σ v σ' Q := by
  constructor
  unfold norm
  rw [hf]
  simpa using q
theorem Fin.same {σ σ' : St} {v : AV} {Q : AV → St → Prop} (h : σ'.length = σ.length) (q : Q v σ') : Fin σ v σ' Q := by
  constructor
  unfold norm
  split
  · rename_i hc
    rw [Bool.and_eq_true] at hc
    have := stEqv_eq _ _ hc.2
    rw [List.take_of_length_le (by omega)] at this
    rw [← this]; exact q
  · exact q
theorem Fin.ne {σ σ' : St} {v : AV} {Q : AV → St → Prop} (h : σ'.take σ.length ≠ σ) (q : Q v σ') : Fin σ v σ' Q := by
  constructor
  unfold norm
  split
  · rename_i hc
    rw [Bool.and_eq_true] at hc
    exact (h (stEqv_eq _ _ hc.2)).elim
  · exact q

section
variable {X : Ctx} {τ : Tys} (hτ : τ.Ok X.P) {lit : Bool} {e : Env} {σ : St}
include hτ
theorem wGo_ok {d : Option Nat} {g : Nat × Bool} {op : AOp} {K : AV → St → Prop} {c : Bool} (hw : wantedA e (some g) = some c) (h : wGo X τ lit e op σ K c) : EvS X e ⟨d, some g, op⟩ σ K := by
  cases hp : op.pure with
  | true =>
    rw [EvS_if hp]
    refine ⟨c, hw, ?_⟩
    cases c with
    | false =>
      simp only [wGo, hp] at h
      exact ⟨_, rfl, h⟩
    | true =>
      simp only [wGo, hp] at h
      by_cases hpk : ∃ q x y, op = .pick q x y
      · obtain ⟨q, x, y, rfl⟩ := hpk
        simp only [cB] at h
        simp only [aGuard, if_true, aGuardT, aPickG]
        split at h
        · rename_i t ht
          rw [ht]
          split at h
          · rename_i h1
            cases t with
            | true =>
              simp only at h
              split at h
              · rename_i h2
                have h := fc_ok _ _ h
                refine ⟨_, by simp only [h1, h2, impB_of_true, Bool.and_self, Bool.true_and, Bool.not_true, Bool.and_false, impB_of_false, if_true]; rfl, ?_⟩
                have e1 : merge true (x.ev e).val (y.ev e).val = (x.ev e).val := by
                  unfold merge
                  split
                  · rename_i p q e1 e2; rw [e1]; simp [bsel]
                  · simp
                rw [e1]; exact h
              · exact h.elim
            | false =>
              simp only at h
              split at h
              · rename_i h2
                have h := fc_ok _ _ h
                refine ⟨_, by simp only [h1, h2, impB_of_true, Bool.and_self, Bool.true_and, Bool.not_false, Bool.and_false, Bool.and_true, impB_of_false, if_true]; rfl, ?_⟩
                have e1 : merge false (x.ev e).val (y.ev e).val = (y.ev e).val := by
                  unfold merge
                  split
                  · rename_i p q e1 e2; rw [e2]; simp [bsel]
                  · simp
                rw [e1]; exact h
              · exact h.elim
          · exact h.elim
        · exact h.elim
      · have h' : cB (op.opds.all fun o => (o.ev e).cnd) (wOp X τ lit (fun o => (o.ev e).val) op σ fun v _ => K (.cd true v) σ) False := by
          cases op <;> first | exact h | exact absurd ⟨_, _, _, rfl⟩ hpk
        obtain ⟨h1, h2⟩ := cB_t h'
        have h3 := wOp_ok hτ h2
        rw [actV_op (by clear h' h1 h2 h3 hpk h; cases op <;> first | rfl | cases hp)] at h3
        obtain ⟨r, hr, h4⟩ := h3
        have e1 : aGuardT X.P e op σ = aLift true (op.opds.all (fun o => impB true (o.ev e).cnd)) (aOp X.P (fun o => (o.ev e).val) op σ) := by
          cases op <;> first | rfl | exact absurd ⟨_, _, _, rfl⟩ hpk
        refine ⟨.cd true r.1, ?_, h4⟩
        simp only [aGuard, if_true]
        rw [e1, hr]
        simp only [impB_of_true, aLift]
        rw [if_pos h1]
  | false =>
    rw [EvS_iff hp]
    refine ⟨c, hw, ?_⟩
    cases c with
    | false => simp only [wGo, hp] at h; exact h
    | true =>
      simp only [wGo, hp] at h
      obtain ⟨h1, h2⟩ := cB_t h
      exact ⟨h1, wOp_ok hτ h2⟩
theorem wStep_ok {a : AI} {K : AV → St → Prop} (h : wStep X τ lit e a σ K) : EvS X e a σ K := by
  obtain ⟨d, gd, op⟩ := a
  unfold wStep at h
  simp only at h
  cases gd with
  | none => exact wOp_ok hτ h
  | some g =>
    obtain ⟨n, w⟩ := g
    simp only at h
    split at h
    · rename_i x hx
      cases x with
      | true => exact wGo_ok hτ (by simp only [wantedA, hx]; cases w <;> rfl) h
      | false => exact wGo_ok hτ (by simp only [wantedA, hx]; cases w <;> rfl) h
    · rename_i c v hx
      cases c with
      | true =>
        simp only [cB] at h
        split at h
        · rename_i x
          cases x with
          | true => exact wGo_ok hτ (by simp only [wantedA, hx]; cases w <;> rfl) h
          | false => exact wGo_ok hτ (by simp only [wantedA, hx]; cases w <;> rfl) h
        · exact h.elim
      | false =>
        have h' : wGo X τ lit e op σ K false := h
        exact wGo_ok hτ (by simp only [wantedA, hx]; cases v <;> rfl) h'
    · rename_i vs hx
      split at h
      · exact wGo_ok hτ (by simp only [wantedA, hx]) h
      · exact h.elim
    · exact h.elim
theorem wO_ok : ∀ {ops : List AI} {e : Env} {σ : St} {K : Env → St → Prop}, wO X τ lit ops e σ K → EvO X ops e σ K
  | [], e, σ, K, h => EvO_nil.2 h
  | a :: r, e, σ, K, h => by
    rw [EvO_cons]
    have h1 := wStep_ok hτ h
    obtain ⟨n, x, hx, q⟩ := h1
    exact ⟨n, x, hx, wO_ok q⟩
theorem wAg_ok {e : Env} {σ : St} {K : Prop} : ∀ {l : List AI}, wAg X τ lit e σ l K → l.all (aAgain X e σ) = true ∧ K
  | [], h => ⟨rfl, h⟩
  | a :: r, h => by
    obtain ⟨h1, h2⟩ := h
    obtain ⟨h3, h4⟩ := wAg_ok h2
    refine ⟨?_, h4⟩
    simp only [List.all_cons, h3, Bool.and_true]
    split at h1
    · rename_i d hd
      obtain ⟨hp, h1⟩ := cB_t h1
      obtain ⟨n, x, hx, q⟩ := wStep_ok hτ h1
      have hx' : aStep X (fun _ _ _ => none) e a σ = some x := by
        unfold aStep at hx ⊢
        rw [← hx]
        have hc : ∀ ρ run, aCall X run ρ a.op σ = aOp X.P ρ a.op σ := by
          intro ρ run
          cases ho : a.op <;> rw [ho] at hp <;> first | rfl | cases hp
        simp only [hc]
      unfold aAgain
      rw [hd, hx']
      obtain ⟨v, s⟩ := x
      simp only at q ⊢
      rw [q]; exact AV.eqv_refl v
    · exact h1.elim
theorem wD_ok : ∀ {ops : List (AI × List AI)} {e : Env} {σ : St} {K : Env → St → Prop}, wD X τ lit ops e σ K → EvD X ops e σ K
  | [], e, σ, K, h => EvD_nil.2 h
  | (a, ag) :: r, e, σ, K, h => by
    rw [EvD_cons]
    have h1 := wStep_ok hτ h
    obtain ⟨n, x, hx, q⟩ := h1
    obtain ⟨q1, q2⟩ := wAg_ok hτ q
    exact ⟨n, x, hx, q1, wD_ok q2⟩
omit hτ in
theorem fenv_ok : ∀ (l : List Nat) (e : Env) (K : Env → Prop), fenv l e K → K (clear l e)
  | [], e, K, h => h
  | d :: ds, e, K, h => fenv_ok ds e _ (fc_ok _ _ h)
omit hτ in
theorem clear_clear (l : List Nat) (e : Env) : clear l (clear l e) = clear l e := by
  have key : ∀ (m : List Nat) (d : Nat), d ∈ m → get (m.map fun d => (d, get e d)) d = get e d := by
    intro m
    induction m with
    | nil => intro d h; cases h
    | cons a m ih =>
      intro d h
      simp only [List.map_cons, get]
      split
      · rename_i h1; rw [h1]
      · rename_i h1
        rcases List.mem_cons.1 h with rfl | h
        · exact (h1 rfl).elim
        · exact ih d h
  unfold clear
  exact List.map_congr_left fun d hd => by rw [key l d hd]
theorem wC_ok : ∀ {c : AC} {e : Env} {σ : St} {Q : Out → Env → St → Prop}, wC X τ lit c e σ Q → EvC X c e σ Q := by
  intro c
  induction c with
  | skip => intro e σ Q h; exact EvC_skip.2 h
  | exit id => intro e σ Q h; exact EvC_exit.2 h
  | ret => intro e σ Q h; exact EvC_ret.2 h
  | reg ops => intro e σ Q h; exact EvC_reg.2 (wO_ok hτ h)
  | drw ops => intro e σ Q h; exact EvC_drw.2 (wD_ok hτ h)
  | seq a b iha ihb =>
    intro e σ Q h
    refine EvC_seq.2 (EvC_mono (iha h) fun o e s q => ?_)
    cases o with
    | normal => rw [Out.next_normal]; exact ihb q
    | exit j => rw [Out.next_exit]; exact q
    | ret => rw [Out.next_ret]; exact q
  | cond x a b iha ihb =>
    intro e σ Q h
    simp only [wC] at h
    rw [EvC_cond]
    split at h
    · rename_i t hx
      rw [hx]
      cases t with
      | true => exact iha h
      | false => exact ihb h
    · exact h.elim
  | blk id c ih =>
    intro e σ Q h
    refine EvC_blk.2 (EvC_mono (ih h) fun o e s q => ?_)
    cases o with
    | normal => rw [Out.inBlk_normal]; exact q
    | exit j =>
      rw [Out.inBlk_exit]
      simp only at q
      cases hb : Nat.beq j id with
      | true => rw [hb] at q; rw [if_pos (Nat.eq_of_beq_eq_true hb)]; exact q
      | false => rw [hb] at q; rw [if_neg (fun e => by rw [e, Nat.beq_refl] at hb; cases hb)]; exact q
    | ret => rw [Out.inBlk_ret]; exact q
  | loop live c ih =>
    intro e σ Q h
    have h := (fenv_ok _ _ _ h).ev
    rw [EvL_step, clear_clear] at h
    rw [EvC_loop, EvL_step]
    exact h
  | cut live c ih =>
    intro e σ Q h
    exact EvC_cut.2 (ih (fenv_ok _ _ _ h))
theorem wResL_ok : ∀ {rs : List AR} {K : List AV → Prop}, wResL τ e σ rs K → opt (aResL X.P e σ rs) K
  | [], K, h => ⟨_, rfl, h⟩
  | .t n :: rs, K, h => by
    have h := fc_ok _ _ h
    split at h
    · exact h.elim
    · rename_i hn
      obtain ⟨vs, hv, q⟩ := wResL_ok h
      refine ⟨_, ?_, q⟩
      simp only [aResL, hv]
      have e1 : aRes1 X.P e σ (.t n) = some (get e n) := by
        simp only [aRes1]
      rw [e1]
  | .cell a t :: rs, K, h => by
    obtain ⟨v, hv, h⟩ := om_some h
    have h := fc_ok _ _ h
    obtain ⟨vs, hvs, q⟩ := wResL_ok h
    refine ⟨_, ?_, q⟩
    simp only [aResL, hvs]
    have e1 : aRes1 X.P e σ (.cell a t) = some v := aLoad_ok hτ hv
    rw [e1]
/-- A function, by its body. -/
theorem CallF.body {f : Nat} {F : AF} {args : List AV} {Q : AV → St → Prop} (hp : X.prim f = none) (hf : X.fns f = some F) (hl : args.length ≤ F.nt) (h : wF X τ lit F args σ Q) : CallF X f args σ Q := by
  constructor
  rw [EvF_fn hp hf hl]
  refine EvC_mono (wC_ok hτ h) fun o e s q => ?_
  cases o with
  | exit j => exact q.elim
  | normal =>
    obtain ⟨vs, hv, q⟩ := wResL_ok hτ q
    refine ⟨rfl, ?_⟩
    rw [opt_map]
    unfold aRes
    rw [hv]
    match vs, q with
    | [], q => exact ⟨_, rfl, q.ev⟩
    | [v], q => exact ⟨_, rfl, q.ev⟩
    | v :: w :: vs, q => exact ⟨_, rfl, q.ev⟩
  | ret =>
    obtain ⟨vs, hv, q⟩ := wResL_ok hτ q
    refine ⟨rfl, ?_⟩
    rw [opt_map]
    unfold aRes
    rw [hv]
    match vs, q with
    | [], q => exact ⟨_, rfl, q.ev⟩
    | [v], q => exact ⟨_, rfl, q.ev⟩
    | v :: w :: vs, q => exact ⟨_, rfl, q.ev⟩
/-- A round of a loop. -/
theorem LoopF.round {live : List Nat} {c : AC} {Q : Out → Env → St → Prop}
    (h : fenv live e fun e => wC X τ lit c e σ fun o e σ => match o with
      | .normal => fenv live e fun e => LoopF X live c e σ Q
      | .exit j => Q (.exit j) e σ
      | .ret => Q .ret e σ) : LoopF X live c e σ Q := by
  constructor
  rw [EvL_step]
  refine EvC_mono (wC_ok hτ (fenv_ok _ _ _ h)) fun o e s q => ?_
  cases o with
  | normal =>
    rw [Out.next_normal]
    have h := (fenv_ok _ _ _ q).ev
    rw [EvL_step, clear_clear] at h
    rw [EvL_step]
    exact h
  | exit j => rw [Out.next_exit]; exact q
  | ret => rw [Out.next_ret]; exact q
end
theorem CallF.of {X : Ctx} {f : Nat} {args : List AV} {σ : St} {Q : AV → St → Prop} (h : EvF X f args σ Q) : CallF X f args σ Q := ⟨h⟩
/-- A call that comes to one end. -/
theorem CallF.to {X : Ctx} {f : Nat} {args : List AV} {σ σ' : St} {v : AV} {Q : AV → St → Prop} (h : CallF X f args σ fun a s => a = v ∧ s = σ') (q : Q v σ') : CallF X f args σ Q := ⟨(EvF_iff h.ev).2 q⟩
theorem CallF.mono {X : Ctx} {f : Nat} {args : List AV} {σ : St} {Q Q' : AV → St → Prop} (h : CallF X f args σ Q) (q : ∀ v s, Q v s → Q' v s) : CallF X f args σ Q' := ⟨EvF_mono h.ev q⟩
theorem LoopF.mono {X : Ctx} {live : List Nat} {c : AC} {e : Env} {σ : St} {Q Q' : Out → Env → St → Prop} (h : LoopF X live c e σ Q) (q : ∀ o e s, Q o e s → Q' o e s) : LoopF X live c e σ Q' := ⟨EvL_mono h.ev q⟩
end Go.Abs
