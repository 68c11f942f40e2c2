/- The layer Abs, part 14: a step of a region, guarded or not; regions that keep their order. -/
import Derived.Test.YtjphfiieapclhaaDoorAbs13
import Derived.Orders
namespace Go.Abs

theorem nilConst_ev (e : Env) : NilConst (Opd.ev e) := by
  intro v h
  simp only [Opd.ev] at h
  rw [h]; rfl
theorem nilConst_val (e : Env) : NilConst (fun y => (y.ev e).val) := fun _ h => h

theorem pure_store {P : Program} {ρ : Opd → AV} {op : AOp} {σ σ' : St} {r : AV} (hp : op.pure = true) (h : aOp P ρ op σ = some (r, σ')) : σ' = σ := by
  cases op <;> simp only [AOp.pure, Bool.false_eq_true] at hp <;> simp only [aOp] at h
  all_goals first
    | (rw [Option.map_eq_some_iff] at h; obtain ⟨q, _, h⟩ := h; cases h; rfl)
    | (cases h; rfl)
    | (split at h <;> first | (cases h; done) | (cases h; rfl) | (rw [Option.map_eq_some_iff] at h; obtain ⟨q, _, h⟩ := h; cases h; rfl))

section
variable {X : Ctx} {G N : Nat} {μ : Mu} {σ : St} {w : World} {ops : Array Oper}

theorem aCall_pure {run : Run} {ρ : Opd → AV} {op : AOp} (hp : op.pure = true) : aCall X run ρ op σ = aOp X.P ρ op σ := by
  cases op <;> first | rfl | (simp [AOp.pure] at hp)

theorem all_cnd {e : Env} {l : List Opd} (h : (l.all fun o => impB true (o.ev e).cnd) = true) : ∀ y ∈ l, (y.ev e).cnd = true := by
  simp only [List.all_eq_true, impB_of_true] at h
  exact h

theorem pickG_rel {o : Oper} {q a b : Opd} {e : Env} {act : Act} {r : AV} (hs : Sim G μ σ w) (he : EnvRel G N μ w e act.tmps) (hok : okOp X.P G o.op (.pick q a b) = true)
    (h : aPickG true (q.ev e) (a.ev e) (b.ev e) = some r) : OpTo X.P G μ σ w (execOp act.eval o) r σ := by
  cases ho : o.op <;> rw [ho] at hok <;> simp only [okOp, Bool.false_eq_true] at hok
  case pick c x y =>
    simp only [Bool.and_eq_true] at hok
    unfold aPickG at h
    split at h
    · rename_i z hz
      split at h
      · rename_i hi
        cases h
        simp only [impB_of_true, Bool.and_eq_true, Bool.true_and] at hi
        have hq := cnd_val (opd_rel hs he hok.1.1) hi.1.1
        rw [hz] at hq
        simp only [VRel] at hq
        refine ⟨.value (if z then act.eval x else act.eval y), w, μ, _, ?_, .inl rfl, ?_, Step.refl hs⟩
        · simp [execOp, ho, hq, asBool]
        · simp only [VRel, if_true]
          refine merge_rel (fun ht => cnd_val (opd_rel hs he hok.1.2) (by simpa [ht] using hi.1.2)) (fun ht => cnd_val (opd_rel hs he hok.2) (by simpa [ht] using hi.2))
      · cases h
    · cases h
  case call c =>
    unfold okCall at hok
    split at hok <;> rename_i h1 h2 <;> first | (cases h2; done) | skip
    all_goals simp_all [okBuiltin]

theorem guard_false {P : Program} {e : Env} {op : AOp} {r : AV} (h : aGuard P false e op σ = some r) : ∃ v, r = .cd false v := by
  simp only [aGuard, Bool.false_eq_true, if_false, Option.some.injEq] at h
  exact ⟨_, h.symm⟩

theorem guard_true {o : Oper} {a : AOp} {e : Env} {act : Act} {r : AV} (hs : Sim G μ σ w) (he : EnvRel G N μ w e act.tmps) (hok : okOp X.P G o.op a = true) (hp : a.pure = true)
    (h0 : aGuard X.P true e a σ = some r) : OpTo X.P G μ σ w (execOp act.eval o) r σ := by
  have h : aGuardT X.P e a σ = some r := h0
  by_cases hpk : ∃ q x y, a = .pick q x y
  · obtain ⟨q, x, y, rfl⟩ := hpk
    exact pickG_rel hs he hok h
  have h' : aLift true (a.opds.all (fun o => impB true (o.ev e).cnd)) (aOp X.P (fun o => (o.ev e).val) a σ) = some r := by
    cases a <;> first | exact h | exact absurd ⟨_, _, _, rfl⟩ hpk
  unfold aLift at h'
  split at h'
  · rename_i q hq
    split at h'
    · rename_i hi
      cases h'
      obtain ⟨r1, σ1⟩ := q
      have hσ := pure_store hp hq
      subst hσ
      obtain ⟨n, w', μ', v, h1, h2, h3, h4⟩ := op_rel hs hok (rho_val hs he a.opds (all_cnd hi)) (nilConst_val e) hq
      exact ⟨n, w', μ', v, h1, h2, by simpa [VRel] using h3, h4⟩
    · cases h'
  · simp at h'

theorem step_rel {run : Run} (hX : X.Ok G) (hrun : RunOk X.P G run) {o : Oper} {a : AI} {e : Env} {act : Act} {K : Act → World → Prop} {Q : Exit → Act → World → Prop} {r : AV} {σ' : St} (hs : Sim G μ σ w) (he : EnvRel G N μ w e act.tmps)
    (hok : okAI X.P G N ops o a = true) (h : aStep X run e a σ = some (r, σ'))
    (hK : ∀ v w' μ', VRel μ' w' r v → Step G μ σ w μ' σ' w' → K (act.put o.dst v) w') : DoOp X.P ops o K Q act w := by
  simp only [okAI, Bool.and_eq_true, beq_iff_eq] at hok
  obtain ⟨⟨⟨hd, hN⟩, hg⟩, hop⟩ := hok
  unfold aStep at h
  unfold DoOp
  split at h
  · rename_i hgd
    rw [hgd] at hg
    rw [wanted_rel he hg (c := true) rfl, if_pos rfl]
    exact .inl (acall_rel hX hrun hs hop (rho_rel hs he _) (nilConst_ev e) h hK)
  · rename_i g hgd
    rw [hgd] at hg
    split at h
    · cases h
    · rename_i c hc
      rw [wanted_rel he hg hc]
      split at h
      · rename_i hp
        rw [Option.map_eq_some_iff] at h
        obtain ⟨q, hq, h⟩ := h; cases h
        cases c with
        | true =>
          rw [if_pos rfl]
          exact .inl (upon_to (guard_true hs he hop hp hq) hK)
        | false =>
          rw [if_neg (by simp)]
          obtain ⟨v, rfl⟩ := guard_false hq
          exact hK _ _ _ (by simp [VRel]) (Step.refl hs)
      · cases c with
        | true =>
          rw [if_pos rfl] at h ⊢
          split at h
          · rename_i ha
            simp only [List.all_eq_true] at ha
            exact .inl (acall_rel hX hrun hs hop (rho_val hs he _ ha) (nilConst_val e) h hK)
          · cases h
        | false =>
          simp only [Bool.false_eq_true, if_false, Option.some.injEq, Prod.mk.injEq] at h ⊢
          obtain ⟨rfl, rfl⟩ := h
          exact hK _ _ _ ⟨#[], rfl, rfl⟩ (Step.refl hs)

/-- What the code leaves. -/
def Lands (G N : Nat) (μ : Mu) (σ : St) (w : World) (e' : Env) (σ' : St) (act' : Act) (w' : World) : Prop :=
  ∃ μ', Step G μ σ w μ' σ' w' ∧ EnvRel G N μ' w' e' act'.tmps ∧ act'.defers = []

theorem put_defers_eq (act : Act) (d : Option Tmp) (v : Value) : (act.put d v).defers = act.defers := by cases d <;> rfl

theorem Step.sim' {μ' : Mu} {σ' : St} {w' : World} (h : Step G μ σ w μ' σ' w') : Sim G μ' σ' w' := h.sim

theorem ops_rel {run : Run} (hX : X.Ok G) (hrun : RunOk X.P G run) {Q : Exit → Act → World → Prop} : ∀ (is : List Nat) (l : List AI) (e : Env) (act : Act) (μ : Mu) (σ : St) (w : World) (e' : Env) (σ' : St),
    okIdx X.P G N ops is l = true → Sim G μ σ w → EnvRel G N μ w e act.tmps → act.defers = [] → aOps X run l e σ = some (e', σ') →
    (∀ act' w', Lands G N μ σ w e' σ' act' w' → Q .normal act' w') → wpOps X.P ops Q is act w
  | [], [], e, act, μ, σ, w, e', σ', _, hs, he, hd, h, hQ => by
    cases h
    exact hQ _ _ ⟨μ, Step.refl hs, he, hd⟩
  | [], _ :: _, _, _, _, _, _, _, _, hk, _, _, _, _, _ => by simp [okIdx] at hk
  | _ :: _, [], _, _, _, _, _, _, _, hk, _, _, _, _, _ => by simp [okIdx] at hk
  | i :: is, a :: l, e, act, μ, σ, w, e', σ', hk, hs, he, hd, h, hQ => by
    simp only [okIdx, Bool.and_eq_true] at hk
    obtain ⟨h1, h2⟩ := hk
    split at h1
    · rename_i o ho
      simp only [aOps] at h
      split at h
      · rename_i v σ1 hst
        rw [wpOps]
        simp only [ho]
        refine step_rel (ops := ops) hX hrun hs he h1 hst fun u w' μ' hv hstep => ?_
        have hk1 := h1
        simp only [okAI, Bool.and_eq_true, beq_iff_eq] at hk1
        have he' := (he.mono hstep.ext hstep.wext)
        refine ops_rel hX hrun is l _ _ μ' σ1 w' e' σ' h2 hstep.sim (by rw [hk1.1.1.1]; exact he'.put hk1.1.1.2 hv) (by rw [put_defers_eq]; exact hd) h ?_
        intro act' w'' hl
        obtain ⟨μ2, hs2, he2, hd2⟩ := hl
        exact hQ _ _ ⟨μ2, hstep.trans hs2, he2, hd2⟩
      · cases h
    · cases h1
end
end Go.Abs
