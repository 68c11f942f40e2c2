/- The layer Abs, part 19: functions, and what an evaluation tells of a call. -/
import Derived.Test.YtjphfiieapclhaaDoorAbs18
namespace Go.Abs

def okRess : List ResultVar → List AR → Bool
  | [], [] => true
  | .tmp n :: l, .t m :: r => n == m && okRess l r
  | .cell a t :: l, .cell b s :: r => a == b && t == s && okRess l r
  | _, _ => false

def okFn (P : Program) (G : Nat) (f : Nat) (F : AF) : Bool := match P.funcs[f]? with
  | some fn => fn.ntmps == F.nt && !(fn.name == "runtime.NumGoroutine") && okRess fn.results.toList F.res && (match fn.body with
    | some c => okC P G F.nt c F.code
    | none => false)
  | none => false

structure Ctx.Sound (X : Ctx) (G : Nat) : Prop where
  ok : X.Ok G
  draws : X.P.follows .mixedOrders = true
  fns : ∀ f F, X.prim f = none → X.fns f = some F → okFn X.P G f F = true

section
variable {X : Ctx} {G N : Nat} {μ : Mu} {σ : St} {w : World}

theorem get_argEnv : ∀ (args : List AV) (k n : Nat), get (argEnv k args) n = if k ≤ n then (args[n - k]?).getD .u else .u
  | [], k, n => by simp [argEnv, get]
  | a :: rest, k, n => by
    simp only [argEnv, get]
    split
    · rename_i h; subst h; simp
    · rename_i h
      rw [get_argEnv rest (k + 1) n]
      by_cases hk : k ≤ n
      · rw [if_pos hk, if_pos (by omega), show n - k = (n - (k + 1)) + 1 by omega]; simp
      · rw [if_neg hk, if_neg (by omega)]

theorem envRel_args {args : List AV} {cargs : Array Value} {nt : Nat} (h : VRels μ w args cargs.toList) (hl : args.length ≤ nt) : EnvRel G nt μ w (argEnv 0 args) (cargs ++ Array.replicate (nt - cargs.size) undef) := by
  have hsz : cargs.size = args.length := by have := h.length; simpa using this
  refine ⟨by simp; omega, fun n => ?_⟩
  rw [get_argEnv]
  simp only [Nat.zero_le, if_true, Nat.sub_zero]
  cases hn : args[n]? with
  | none => trivial
  | some a =>
    obtain ⟨v, hv, hr⟩ := h.get n a hn
    have hlt : n < cargs.size := by have := lt_of_get hn; omega
    rw [Array.getElem?_toList] at hv
    simp only [Option.getD_some]
    rw [Array.getD_eq_getD_getElem?, Array.getElem?_append_left hlt, hv]
    exact hr

def resOf (tmps : Array Value) : ResultVar → Sem Value
  | .tmp t => pure (tmps.getD t undef)
  | .cell a t => do loadVar t (← asAddr (tmps.getD a undef))

theorem resL_rel (hs : Sim G μ σ w) {e : Env} {tmps : Array Value} (he : EnvRel G N μ w e tmps) : ∀ (l : List ResultVar) (r : List AR) (vs : List AV), okRess l r = true → aResL X.P e σ r = some vs →
    ∃ us, (l.mapM (resOf tmps)).run X.P w = .ok us w ∧ VRels μ w vs us
  | [], [], vs, _, h => by
    simp only [aResL, Option.some.injEq] at h
    subst h
    exact ⟨[], by simp, rfl⟩
  | .tmp n :: l, .t m :: r, vs, hok, h => by
    simp only [okRess, Bool.and_eq_true, beq_iff_eq] at hok
    obtain ⟨rfl, hok⟩ := hok
    simp only [aResL] at h
    split at h
    · rename_i v vs' hv hvs
      cases h
      obtain ⟨us, h1, h2⟩ := resL_rel hs he l r vs' hok hvs
      have hvn : v = get e n := by
        simp only [aRes1] at hv
        split at hv
        · cases hv
        · exact (Option.some.inj hv).symm
      refine ⟨tmps.getD n undef :: us, ?_, _, us, rfl, by rw [hvn]; exact he.rel n, h2⟩
      simp [List.mapM_cons, resOf, h1]
    · cases h
  | .cell a t :: l, .cell b s :: r, vs, hok, h => by
    simp only [okRess, Bool.and_eq_true, beq_iff_eq] at hok
    obtain ⟨⟨rfl, rfl⟩, hok⟩ := hok
    simp only [aResL] at h
    split at h
    · rename_i v vs' hv hvs
      cases h
      obtain ⟨us, h1, h2⟩ := resL_rel hs he l r vs' hok hvs
      simp only [aRes1] at hv
      have hr := he.rel a
      unfold aLoad at hv
      split at hv
      · rename_i T o g off hT hx
        rw [hx] at hr
        rw [Option.bind_eq_some_iff] at hv
        obtain ⟨cs, hc, hp⟩ := hv
        obtain ⟨b, δ, hb, hbe⟩ := hr
        obtain ⟨u, q1, q2⟩ := run_loadVar hT hs hc hp hb
        refine ⟨u :: us, ?_, u, us, rfl, q2, h2⟩
        simp [List.mapM_cons, resOf, hbe, asAddr, q1, h1]
      · cases hv
    · cases h

theorem results_rel (hs : Sim G μ σ w) {e : Env} {tmps : Array Value} (he : EnvRel G N μ w e tmps) {fn : Func} {r : List AR} {v : AV} (hok : okRess fn.results.toList r = true) (h : aRes X.P r e σ = some v) :
    ∃ u, (results fn tmps).run X.P w = .ok u w ∧ VRel μ w v u := by
  unfold aRes at h
  cases hL : aResL X.P e σ r with
  | none => rw [hL] at h; cases h
  | some vs =>
    rw [hL] at h
    obtain ⟨us, h1, h2⟩ := resL_rel (X := X) hs he _ r vs hok hL
    have hm : (results fn tmps).run X.P w = .ok (if h : us.toArray.size = 1 then us.toArray[0] else .tuple us.toArray) w := by
      have hf : results fn tmps = (do let vs ← fn.results.mapM (resOf tmps); pure (if h : vs.size = 1 then vs[0] else .tuple vs)) := rfl
      rw [hf, Array.mapM_eq_mapM_toList]
      simp [h1]
    have hlen := h2.length
    refine ⟨_, hm, ?_⟩
    split at h
    · rename_i v' hvs
      cases h
      cases hvs
      obtain ⟨y, ys, rfl, q1, q2⟩ := h2
      simp only [VRels] at q2
      subst q2
      exact q1
    · rename_i hn hvs
      cases h
      cases hvs
      have h1' : us.toArray.size ≠ 1 := by
        simp only [List.size_toArray]
        intro hu
        rw [hu] at hlen
        cases vs with
        | nil => cases hlen
        | cons x xs =>
          cases xs with
          | nil => exact hn x rfl
          | cons _ _ => simp at hlen
      rw [dif_neg h1']
      exact ⟨us.toArray, rfl, h2⟩
    · rename_i hvs; cases hvs

theorem fn_ok (hX : X.Sound G) : ∀ n, RunOk X.P G (aFn X n)
  | 0 => by intro f args σ r σ' h; cases h
  | n + 1 => by
    intro f args σ r σ' h
    simp only [aFn] at h
    split at h
    · rename_i g hg
      exact hX.ok.prim f g hg _ _ _ _ h
    · rename_i hp
      split at h
      · rename_i F hF
        have hok := hX.fns f F hp hF
        unfold okFn at hok
        split at hok
        · rename_i fn hfn
          simp only [Bool.and_eq_true, beq_iff_eq, Bool.not_eq_true'] at hok
          obtain ⟨⟨⟨hnt, hnm⟩, hres⟩, hbody⟩ := hok
          split at hbody
          · rename_i c hc
            intro μ w cargs hs hr
            refine .inl ⟨enters_mk hfn hnm (by rw [hc]; rfl) cargs w, ?_⟩
            split at h
            · rename_i hlen
              have hsz : cargs.size = args.length := by have := hr.length; simpa using this
              refine calls_of_wp hfn hc ?_
              rw [hnt]
              have hen := envRel_args (G := G) hr hlen
              have main : ∀ (o : Out) (e : Env) (σ1 : St), aCode X (aFn X n) n F.code (argEnv 0 args) σ = some (o, e, σ1) → o = .normal ∨ o = .ret → (aRes X.P F.res e σ1).map (fun v => norm σ v σ1) = some (r, σ') →
                  c.wp X.P (bodyPost X.P fn (After G μ σ w r σ')) { tmps := cargs ++ Array.replicate (F.nt - cargs.size) undef, defers := [] } w := by
                intro o e σ1 hcode ho hmap
                refine code_rel hX.ok (fn_ok hX n) hX.draws c F.code hbody _ { tmps := cargs ++ Array.replicate (F.nt - cargs.size) undef, defers := [] } μ σ w o e σ1 _ hs hen rfl hcode fun act' w' hl => ?_
                obtain ⟨μ1, hst, hen1, hd1⟩ := hl
                rw [Option.map_eq_some_iff] at hmap
                obtain ⟨v, hv, hnorm⟩ := hmap
                obtain ⟨u, hu1, hu2⟩ := results_rel (X := X) hst.sim hen1 hres hv
                have hafter : After G μ σ w r σ' (.returned u) w' := by
                  unfold norm at hnorm
                  split at hnorm
                  · rename_i hfl
                    simp only [Bool.and_eq_true] at hfl
                    cases hnorm
                    exact ⟨u, μ, rfl, VRel.flat _ _ hfl.1 hu2, Step.norm hs hst (stEqv_eq _ _ hfl.2)⟩
                  · cases hnorm
                    exact ⟨u, μ1, rfl, hu2, hst⟩
                rcases ho with rfl | rfl
                · exact ⟨hd1, u, hu1, hafter⟩
                · exact ⟨hd1, u, hu1, hafter⟩
              split at h
              · rename_i e σ1 hcode; exact main _ _ _ hcode (.inl rfl) h
              · rename_i e σ1 hcode; exact main _ _ _ hcode (.inr rfl) h
              · cases h
            · cases h
          · cases hbody
        · cases hok
      · cases h

/-- What an evaluation tells of a call. -/
theorem EvF.does (hX : X.Sound G) {f : Nat} {args : List AV} {Q : AV → St → Prop} (h : EvF X f args σ Q) (hs : Sim G μ σ w) {cargs : Array Value} (hr : VRels μ w args cargs.toList) :
    Does X.P f cargs w fun e w' => ∃ r σ', Q r σ' ∧ After G μ σ w r σ' e w' := by
  obtain ⟨n, ⟨r, σ'⟩, h1, h2⟩ := h
  exact (fn_ok hX n f args σ r σ' h1 μ w cargs hs hr).mono fun e w' ha => ⟨r, σ', h2, ha⟩
theorem Does.calls {P : Program} {f : Nat} {cargs : Array Value} {R : Ending → World → Prop} (h : Does P f cargs w R) (he : Enters P f) : Calls P f cargs w R := by
  rcases h with ⟨_, h⟩ | ⟨v, w', h1, _⟩
  · exact h
  · rw [he cargs w] at h1; cases h1
theorem EvF.calls (hX : X.Sound G) {f : Nat} {args : List AV} {Q : AV → St → Prop} (h : EvF X f args σ Q) (he : Enters X.P f) (hs : Sim G μ σ w) {cargs : Array Value} (hr : VRels μ w args cargs.toList) :
    Calls X.P f cargs w fun e w' => ∃ r σ', Q r σ' ∧ After G μ σ w r σ' e w' := (h.does hX hs hr).calls he
end
end Go.Abs
