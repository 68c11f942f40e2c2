/- The layer Abs, part 13: code and functions: what the evaluator tells of a function holds of its calls. -/
import Derived.Test.YtjphfiieapclhaaDoorAbs12
import Derived.Test.YtjphfiieapclhaaDoorAbs3
import Derived.LoopN
import Derived.Scope
namespace Go.Abs

def okGuard (ops : Array Oper) : Option (Nat × Bool) → Option (Nat × Bool) → Bool
  | none, none => true
  | some (j, w), some (n, w') => w == w' && ((ops[j]?).bind (·.dst)) == some n
  | _, _ => false
def okDst (N : Nat) : Option Nat → Bool
  | none => true
  | some d => decide (d < N)
def okAI (P : Program) (G N : Nat) (ops : Array Oper) (o : Oper) (a : AI) : Bool := o.dst == a.d && okDst N a.d && okGuard ops o.guard a.gd && okOp P G o.op a.op
def okIdx (P : Program) (G N : Nat) (ops : Array Oper) : List Nat → List AI → Bool
  | [], [] => true
  | i :: is, a :: xs => (match ops[i]? with | some o => okAI P G N ops o a | none => false) && okIdx P G N ops is xs
  | _, _ => false

/-- A function that has a body of its own: the call enters it. -/
def Enters (P : Program) (f : Nat) : Prop := ∀ (args : Array Value) (w : World), (callFunc f args).run P w = .ok (.enter f args) w
theorem enters_mk {P : Program} {f : Nat} {fn : Func} (hf : P.funcs[f]? = some fn) (hn : (fn.name == "runtime.NumGoroutine") = false) (hb : fn.body.isSome = true) : Enters P f := by
  intro args w
  obtain ⟨c, hc⟩ := Option.isSome_iff_exists.1 hb
  have h1 : fn.name ≠ "runtime.NumGoroutine" := by simpa using hn
  simp [callFunc, hf, h1, hc]

/-- What is behind a call. -/
def After (G : Nat) (μ : Mu) (σ : St) (w : World) (r : AV) (σ' : St) (e : Ending) (w' : World) : Prop := ∃ v μ', e = .returned v ∧ VRel μ' w' r v ∧ Step G μ σ w μ' σ' w'

/-- A call that enters the function's body and comes to R, or that the model answers at once so. -/
def Does (P : Program) (f : Nat) (cargs : Array Value) (w : World) (R : Ending → World → Prop) : Prop :=
  ((callFunc f cargs).run P w = .ok (.enter f cargs) w ∧ Calls P f cargs w R) ∨ ∃ v w', (callFunc f cargs).run P w = .ok (.value v) w' ∧ R (.returned v) w'
theorem Does.mono {P : Program} {f : Nat} {cargs : Array Value} {w : World} {R R' : Ending → World → Prop} (h : Does P f cargs w R) (hr : ∀ e w', R e w' → R' e w') : Does P f cargs w R' := by
  rcases h with ⟨h1, h2⟩ | ⟨v, w', h1, h2⟩
  · exact .inl ⟨h1, h2.mono hr⟩
  · exact .inr ⟨v, w', h1, hr _ _ h2⟩

def RunOk (P : Program) (G : Nat) (run : Run) : Prop := ∀ f args σ r σ', run f args σ = some (r, σ') → ∀ μ w (cargs : Array Value), Sim G μ σ w → VRels μ w args cargs.toList → Does P f cargs w (After G μ σ w r σ')

structure Ctx.Ok (X : Ctx) (G : Nat) : Prop where
  meth : ∀ t m a k, X.meth t m a = some k → ∀ (μ : Mu) (v : Value) (w : World), VRel μ w a v → ∃ v', (method (X.P.types.size + Made.depth) t v m).run X.P w = .ok (k.1, v') w ∧ VRel μ w k.2 v'
  prim : ∀ f g, X.prim f = some g → ∀ args σ r σ', g args σ = some (r, σ') → ∀ μ w (cargs : Array Value), Sim G μ σ w → VRels μ w args cargs.toList → Does X.P f cargs w (After G μ σ w r σ')

structure EnvRel (G N : Nat) (μ : Mu) (w : World) (e : Env) (tmps : Array Value) : Prop where
  size : tmps.size = N
  rel : ∀ n, VRel μ w (get e n) (tmps.getD n undef)

section
variable {X : Ctx} {G N : Nat} {μ : Mu} {σ : St} {w : World}

theorem EnvRel.mono {μ' : Mu} {w' : World} {e : Env} {tmps : Array Value} (h : EnvRel G N μ w e tmps) (hm : μ.le μ') (hw : WExt w w') : EnvRel G N μ' w' e tmps :=
  ⟨h.size, fun n => VRel.mono hm hw _ _ (h.rel n)⟩
theorem EnvRel.put {e : Env} {act : Act} {d : Option Nat} {r : AV} {v : Value} (h : EnvRel G N μ w e act.tmps) (hd : okDst N d = true) (hr : VRel μ w r v) : EnvRel G N μ w (Abs.put d r e) (act.put d v).tmps := by
  cases d with
  | none => exact h
  | some d =>
    simp only [okDst, decide_eq_true_eq] at hd
    refine ⟨by simpa [Act.put] using h.size, fun n => ?_⟩
    have hs := h.size
    simp only [Abs.put, Go.Abs.get, Act.put]
    rw [Array.getD_eq_getD_getElem?, Array.getElem?_setIfInBounds]
    split
    · rename_i he; subst he
      rw [if_pos (by omega)]
      exact hr
    · rename_i he
      rw [← Array.getD_eq_getD_getElem?]
      exact h.rel n
theorem EnvRel.clear {e : Env} {tmps : Array Value} (h : EnvRel G N μ w e tmps) (l : List Nat) : EnvRel G N μ w (Abs.clear l e) tmps := by
  refine ⟨h.size, fun n => ?_⟩
  have hg : get (Abs.clear l e) n = get e n ∨ get (Abs.clear l e) n = .u := by
    unfold Abs.clear
    induction l with
    | nil => exact .inr rfl
    | cons d l ih =>
      simp only [List.map_cons, Go.Abs.get]
      split
      · rename_i he; subst he; exact .inl rfl
      · exact ih
  rcases hg with hg | hg
  · rw [hg]; exact h.rel n
  · rw [hg]; trivial

theorem opd_rel (hs : Sim G μ σ w) {e : Env} {act : Act} (h : EnvRel G N μ w e act.tmps) {x : Operand} {y : Opd} (hk : okOpd G x y = true) : VRel μ w (y.ev e) (act.eval x) := by
  unfold okOpd at hk
  split at hk
  · simp only [beq_iff_eq] at hk; subst hk; exact h.rel _
  · have := AV.eqv_eq _ _ hk
    simp only [Opd.ev]
    rw [← this]
    exact avOf_rel _
  · simp only [Bool.and_eq_true, beq_iff_eq, decide_eq_true_eq] at hk
    obtain ⟨rfl, hg⟩ := hk
    exact ⟨_, 0, hs.glob _ hg, rfl⟩
  · simp only [beq_iff_eq] at hk; subst hk
    exact ⟨#[], #[], rfl, rfl, rfl⟩
  · cases hk

theorem rho_rel (hs : Sim G μ σ w) {e : Env} {act : Act} (h : EnvRel G N μ w e act.tmps) (l : List Opd) : RhoRel G μ w l (Opd.ev e) act.eval := fun _ _ hk _ => opd_rel hs h hk
theorem rho_val (hs : Sim G μ σ w) {e : Env} {act : Act} (h : EnvRel G N μ w e act.tmps) (l : List Opd) (hc : ∀ y ∈ l, (y.ev e).cnd = true) : RhoRel G μ w l (fun y => (y.ev e).val) act.eval :=
  fun _ y hk hy => cnd_val (opd_rel hs h hk) (hc y hy)

def boolAt : Option Value → Option Bool
  | some (.bool b) => some b
  | _ => none
theorem wanted_rel {ops : Array Oper} {e : Env} {act : Act} {o : Oper} {g : Option (Nat × Bool)} {c : Bool} (h : EnvRel G N μ w e act.tmps) (hk : okGuard ops o.guard g = true) (hw : wantedA e g = some c) :
    Region.wanted o (yielded ops act.tmps) = c := by
  cases hg : o.guard with
  | none =>
    rw [hg] at hk
    cases g with
    | none => simp only [wantedA, Option.some.injEq] at hw; subst hw; simp [Region.wanted, hg]
    | some g => simp [okGuard] at hk
  | some jw =>
    rw [hg] at hk
    obtain ⟨j, want⟩ := jw
    cases g with
    | none => simp [okGuard] at hk
    | some g =>
      obtain ⟨n, want'⟩ := g
      simp only [okGuard, Bool.and_eq_true, beq_iff_eq] at hk
      obtain ⟨rfl, hd⟩ := hk
      have hrel := h.rel n
      have hy : yielded ops act.tmps j = boolAt act.tmps[n]? := by
        simp only [yielded, hd, Option.bind_some]
        rfl
      have hget : ∀ b, act.tmps.getD n undef = .bool b → act.tmps[n]? = some (.bool b) := by
        intro b hb
        simp only [Array.getD] at hb
        split at hb
        · rename_i hlt; rw [Array.getElem?_eq_getElem hlt]; exact congrArg some hb
        · cases hb
      have hund : act.tmps.getD n undef = undef → boolAt act.tmps[n]? = none := by
        intro hu
        simp only [Array.getD] at hu
        split at hu
        · rename_i hlt; rw [Array.getElem?_eq_getElem hlt]; rw [show act.tmps[n] = undef from hu]; rfl
        · rename_i hlt; rw [Array.getElem?_eq_none (by omega)]; rfl
      simp only [wantedA] at hw
      simp only [Region.wanted, hg, hy]
      split at hw
      · rename_i x hx
        rw [hx] at hrel
        simp only [VRel] at hrel
        rw [hget _ hrel]
        simp only [Option.some.injEq] at hw
        subst hw
        cases x <;> cases want <;> rfl
      · rename_i c' x hx
        rw [hx] at hrel
        simp only [Option.some.injEq] at hw
        cases c' with
        | true =>
          simp only [VRel, if_true] at hrel
          rw [hget _ hrel]
          subst hw
          cases x <;> cases want <;> rfl
        | false =>
          simp only [VRel] at hrel
          have hr' : act.tmps.getD n undef = undef := hrel
          rw [hund hr']
          subst hw
          cases want <;> rfl
      · rename_i x hx' hx
        rw [hx] at hrel
        have hr' : act.tmps.getD n undef = undef := hrel
        rw [hund hr']
        simp only [Option.some.injEq] at hw
        subst hw
        cases want <;> rfl
      · rename_i hx
        rw [hx] at hrel
        obtain ⟨a, ha, hl⟩ := hrel
        have hu : act.tmps.getD n undef = undef := by
          rw [ha]
          simp only [VRels] at hl
          have : a = #[] := by apply Array.ext'; simpa using hl
          rw [this]; rfl
        rw [hund hu]
        simp only [Option.some.injEq] at hw
        subst hw
        cases want <;> rfl
      · cases hw

/-- What the model does with an operation of a region. -/
def DoOp (P : Program) (ops : Array Oper) (o : Oper) (K : Act → World → Prop) (Q : Exit → Act → World → Prop) (act : Act) (w : World) : Prop :=
  if Region.wanted o (yielded ops act.tmps) then o.wp P act w K Q ∨ (o.asks P act w ∧ LetsOut Q) else K (act.put o.dst undef) w

theorem upon_to {P : Program} {o : Oper} {act : Act} {K : Act → World → Prop} {Q : Exit → Act → World → Prop} {r : AV} {σ' : St} (h : OpTo P G μ σ w (execOp act.eval o) r σ')
    (hK : ∀ v w' μ', VRel μ' w' r v → Step G μ σ w μ' σ' w' → K (act.put o.dst v) w') : o.wp P act w K Q := by
  obtain ⟨n, w', μ', v, h1, h2, h3, h4⟩ := h
  unfold Oper.wp
  rw [h1]
  rcases h2 with rfl | ⟨rfl, rfl⟩
  · exact hK _ _ _ h3 h4
  · exact hK _ _ _ h3 h4

theorem call_to {P : Program} {run : Run} (hrun : RunOk P G run) {o : Oper} {act : Act} {K : Act → World → Prop} {Q : Exit → Act → World → Prop} {f : Nat} {args : List AV} {r : AV} {σ' : St} {cargs : Array Value}
    (hs : Sim G μ σ w) (h : run f args σ = some (r, σ')) (hx : (execOp act.eval o).run P w = (callFunc f cargs).run P w) (hr : VRels μ w args cargs.toList)
    (hK : ∀ v w' μ', VRel μ' w' r v → Step G μ σ w μ' σ' w' → K (act.put o.dst v) w') : o.wp P act w K Q := by
  unfold Oper.wp
  rcases hrun _ _ _ _ _ h μ w cargs hs hr with ⟨h1, h2⟩ | ⟨v, w', h1, v', μ', hv, hr', hst⟩
  · rw [hx, h1, Oper.upon_enter]
    refine h2.mono fun e w' he => ?_
    obtain ⟨v, μ', rfl, hv, hst⟩ := he
    exact hK _ _ _ hv hst
  · rw [hx, h1, Oper.upon_value]
    cases hv
    exact hK _ _ _ hr' hst

theorem acall_rel {run : Run} (hX : X.Ok G) (hrun : RunOk X.P G run) {o : Oper} {a : AOp} {act : Act} {ρa : Opd → AV} {K : Act → World → Prop} {Q : Exit → Act → World → Prop} {r : AV} {σ' : St} (hs : Sim G μ σ w) (hok : okOp X.P G o.op a = true)
    (hρ : RhoRel G μ w a.opds ρa act.eval) (hn : NilConst ρa) (h : aCall X run ρa a σ = some (r, σ'))
    (hK : ∀ v w' μ', VRel μ' w' r v → Step G μ σ w μ' σ' w' → K (act.put o.dst v) w') : o.wp X.P act w K Q := by
  by_cases hcall : ∃ f args, a = .call f args
  · obtain ⟨f, args, rfl⟩ := hcall
    simp only [aCall] at h
    cases hop : o.op with
    | call c =>
      rw [hop] at hok
      simp only [okOp, okCall] at hok
      cases hc : c.callee with
      | invoke x m => rw [hc] at hok; simp at hok
      | builtin b =>
        rw [hc] at hok
        simp only [okBuiltin] at hok
        split at hok <;> simp_all
      | value fo =>
        rw [hc] at hok
        simp only [Bool.and_eq_true] at hok
        split at h
        · rename_i k first cap hf
          have hfr := hρ _ _ hok.1 (by simp [AOp.opds])
          rw [hf] at hfr
          obtain ⟨ca, cc, hfv, r1, r2⟩ := hfr
          have hargs := opds_rel hρ hok.2 (fun y hy => by simp [AOp.opds, hy])
          refine call_to hrun (cargs := ca ++ c.args.map act.eval ++ cc) hs h ?_ ?_ hK
          · simp [execOp, hop, resolve, hc, hfv, Deferred.ofValue, invoke]
          · simp only [Array.toList_append, Array.toList_map]
            exact (r1.append hargs).append r2
        · cases h
    | _ => rw [hop] at hok; simp [okOp] at hok
  by_cases hinv : ∃ x m args, a = .inv x m args
  · obtain ⟨x, m, args, rfl⟩ := hinv
    simp only [aCall] at h
    cases hop : o.op with
    | call c =>
      rw [hop] at hok
      simp only [okOp, okCall] at hok
      cases hc : c.callee with
      | value fo => rw [hc] at hok; simp at hok
      | builtin b =>
        rw [hc] at hok
        simp only [okBuiltin] at hok
        split at hok <;> simp_all
      | invoke xo m' =>
        rw [hc] at hok
        simp only [Bool.and_eq_true, beq_iff_eq] at hok
        obtain ⟨⟨hx, rfl⟩, hargs⟩ := hok
        split at h
        · rename_i t v hxv
          split at h
          · rename_i k hk
            have hxr := hρ _ _ hx (by simp [AOp.opds])
            rw [hxv] at hxr
            obtain ⟨y, hy, hyr⟩ := hxr
            have hargs' := opds_rel hρ hargs (fun y hy => by simp [AOp.opds, hy])
            obtain ⟨y', hm, hyr'⟩ := hX.meth t _ _ k hk μ y w hyr
            refine call_to hrun (cargs := #[y'] ++ c.args.map act.eval) hs h ?_ ?_ hK
            · have he : (#[Value.iface t y] ++ c.args.map act.eval).extract 1 (#[Value.iface t y] ++ c.args.map act.eval).size = c.args.map act.eval := by
                apply Array.ext'
                simp only [Array.toList_extract, Array.toList_append, List.extract_eq_take_drop, Array.size_append, Array.size_map]
                simp [List.take_of_length_le]
              have h0 : (#[Value.iface t y] ++ c.args.map act.eval)[0]? = some (Value.iface t y) := by rw [Array.getElem?_append]; simp
              have h2 : (c.args.map act.eval).extract 0 c.args.size = c.args.map act.eval := by
                apply Array.ext'
                simp [List.take_of_length_le]
              simp [execOp, hop, resolve, hc, hy, invoke, callMethod, h0, hm, h2]
            · simp only [Array.toList_append, Array.toList_map]
              exact ⟨y', _, rfl, hyr', hargs'⟩
          · cases h
        · cases h
    | _ => rw [hop] at hok; simp [okOp] at hok
  have h' : aOp X.P ρa a σ = some (r, σ') := by
    cases a <;> first | exact h | exact absurd ⟨_, _, rfl⟩ hcall | exact absurd ⟨_, _, _, rfl⟩ hinv
  exact upon_to (op_rel hs hok hρ hn h') hK
end
end Go.Abs
