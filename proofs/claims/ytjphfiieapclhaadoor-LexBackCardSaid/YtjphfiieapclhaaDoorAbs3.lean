/- The layer Abs, part 3: more steps tell the same, and what the evaluator comes to, as rules to rewrite by. -/
import Derived.Test.YtjphfiieapclhaaDoorAbs2
namespace Go.Abs

def Ex {α : Type} (g : Nat → Option α) (Q : α → Prop) : Prop := ∃ n r, g n = some r ∧ Q r
def Mono {α : Type} (g : Nat → Option α) : Prop := ∀ n m r, n ≤ m → g n = some r → g m = some r

def Run.le (r r' : Run) : Prop := ∀ f args σ x, r f args σ = some x → r' f args σ = some x

theorem aCall_le {X : Ctx} {r r' : Run} (h : r.le r') {ρ : Opd → AV} {op : AOp} {σ : St} {x : AV × St} (hx : aCall X r ρ op σ = some x) : aCall X r' ρ op σ = some x := by
  cases op with
  | call f args =>
    simp only [aCall] at hx ⊢
    split at hx
    · exact h _ _ _ _ hx
    · simp at hx
  | inv y m args =>
    simp only [aCall] at hx ⊢
    split at hx
    · split at hx
      · exact h _ _ _ _ hx
      · simp at hx
    · simp at hx
  | _ => exact hx

theorem aStep_le {X : Ctx} {r r' : Run} (h : r.le r') {e : Env} {a : AI} {σ : St} {x : AV × St} (hx : aStep X r e a σ = some x) : aStep X r' e a σ = some x := by
  unfold aStep at *
  cases hg : a.gd with
  | none => rw [hg] at hx; exact aCall_le h hx
  | some g =>
    rw [hg] at hx
    simp only at hx ⊢
    cases hw : wantedA e (some g) with
    | none => rw [hw] at hx; simp at hx
    | some c =>
      rw [hw] at hx
      simp only at hx ⊢
      by_cases hp : a.op.pure = true
      · simpa only [hp, if_true] using hx
      · simp only [hp, if_false, Bool.false_eq_true] at hx ⊢
        by_cases hc : c = true
        · simp only [hc, if_true] at hx ⊢
          split at hx
          · rename_i hall; rw [if_pos hall]; exact aCall_le h hx
          · simp at hx
        · simpa only [hc, if_false, Bool.false_eq_true] using hx

theorem aOps_le {X : Ctx} {r r' : Run} (h : r.le r') : ∀ {ops : List AI} {e : Env} {σ : St} {x : Env × St}, aOps X r ops e σ = some x → aOps X r' ops e σ = some x
  | [], _, _, _, hx => hx
  | a :: ops, e, σ, x, hx => by
    simp only [aOps] at hx ⊢
    cases hs : aStep X r e a σ with
    | none => rw [hs] at hx; simp at hx
    | some y => rw [hs] at hx; rw [aStep_le h hs]; exact aOps_le h hx

theorem aDrw_le {X : Ctx} {r r' : Run} (h : r.le r') : ∀ {ops : List (AI × List AI)} {e : Env} {σ : St} {x : Env × St}, aDrw X r ops e σ = some x → aDrw X r' ops e σ = some x
  | [], _, _, _, hx => hx
  | (a, ag) :: ops, e, σ, x, hx => by
    simp only [aDrw] at hx ⊢
    cases hs : aStep X r e a σ with
    | none => rw [hs] at hx; simp at hx
    | some y =>
      rw [hs] at hx; rw [aStep_le h hs]
      simp only at hx ⊢
      split at hx
      · rename_i hall; rw [if_pos hall]; exact aDrw_le h hx
      · simp at hx

theorem aLoop_le {live : List Nat} {b b' : Env → St → Option (Out × Env × St)} (h : ∀ e σ x, b e σ = some x → b' e σ = some x) :
    ∀ {n m : Nat} {e : Env} {σ : St} {x : Out × Env × St}, n ≤ m → aLoop live b n e σ = some x → aLoop live b' m e σ = some x
  | 0, _, _, _, _, _, hx => by simp [aLoop] at hx
  | n + 1, 0, _, _, _, hn, _ => by omega
  | n + 1, m + 1, e, σ, x, hn, hx => by
    simp only [aLoop] at hx ⊢
    cases hb : b (clear live e) σ with
    | none => rw [hb] at hx; simp at hx
    | some y =>
      rw [hb] at hx; rw [h _ _ _ hb]
      obtain ⟨o, e', σ'⟩ := y
      cases o with
      | normal => exact aLoop_le h (by omega) hx
      | exit id => exact hx
      | ret => exact hx

theorem aCode_le {X : Ctx} {r r' : Run} (h : r.le r') {n m : Nat} (hn : n ≤ m) : ∀ {c : AC} {e : Env} {σ : St} {x : Out × Env × St}, aCode X r n c e σ = some x → aCode X r' m c e σ = some x := by
  intro c
  induction c with
  | skip => intro e σ x hx; exact hx
  | exit id => intro e σ x hx; exact hx
  | ret => intro e σ x hx; exact hx
  | reg ops =>
    intro e σ x hx
    simp only [aCode] at hx ⊢
    cases hs : aOps X r ops e σ with
    | none => rw [hs] at hx; simp at hx
    | some y => rw [hs] at hx; rw [aOps_le h hs]; exact hx
  | drw ops =>
    intro e σ x hx
    simp only [aCode] at hx ⊢
    cases hs : aDrw X r ops e σ with
    | none => rw [hs] at hx; simp at hx
    | some y => rw [hs] at hx; rw [aDrw_le h hs]; exact hx
  | seq a b iha ihb =>
    intro e σ x hx
    simp only [aCode] at hx ⊢
    cases hs : aCode X r n a e σ with
    | none => rw [hs] at hx; simp at hx
    | some y =>
      rw [hs] at hx; rw [iha hs]
      obtain ⟨o, e', σ'⟩ := y
      cases o with
      | normal => exact ihb hx
      | exit id => exact hx
      | ret => exact hx
  | cond y a b iha ihb =>
    intro e σ x hx
    simp only [aCode] at hx ⊢
    split at hx <;> first | exact iha hx | exact ihb hx | simp at hx
  | blk id c ih =>
    intro e σ x hx
    simp only [aCode] at hx ⊢
    cases hs : aCode X r n c e σ with
    | none => rw [hs] at hx; simp at hx
    | some y => rw [hs] at hx; rw [ih hs]; exact hx
  | loop live c ih =>
    intro e σ x hx
    simp only [aCode] at hx ⊢
    exact aLoop_le (fun _ _ _ hb => ih hb) hn hx
  | cut live c ih =>
    intro e σ x hx
    simp only [aCode] at hx ⊢
    exact ih hx

theorem aFn_succ (X : Ctx) : ∀ n, (aFn X n).le (aFn X (n + 1))
  | 0 => fun _ _ _ _ hx => by simp [aFn] at hx
  | n + 1 => fun f args σ x hx => by
    rw [aFn] at hx ⊢
    cases hp : X.prim f with
    | some g => rw [hp] at hx; exact hx
    | none =>
      rw [hp] at hx
      simp only at hx ⊢
      cases hf : X.fns f with
      | none => rw [hf] at hx; simp at hx
      | some F =>
        rw [hf] at hx
        simp only at hx ⊢
        split at hx
        · rename_i hl
          rw [if_pos hl]
          cases hc : aCode X (aFn X n) n F.code (argEnv 0 args) σ with
          | none => rw [hc] at hx; simp at hx
          | some y => rw [hc] at hx; rw [aCode_le (aFn_succ X n) (Nat.le_succ n) hc]; exact hx
        · simp at hx

theorem aFn_le (X : Ctx) {n m : Nat} (h : n ≤ m) : (aFn X n).le (aFn X m) := by
  induction h with
  | refl => exact fun _ _ _ _ h => h
  | step _ ih => exact fun f args σ x hx => aFn_succ X _ _ _ _ _ (ih _ _ _ _ hx)

/-! ### The forms to rewrite -/
def EvF (X : Ctx) (f : Nat) (args : List AV) (σ : St) (Q : AV → St → Prop) : Prop := Ex (fun n => aFn X n f args σ) fun r => Q r.1 r.2
def EvC (X : Ctx) (c : AC) (e : Env) (σ : St) (Q : Out → Env → St → Prop) : Prop := Ex (fun n => aCode X (aFn X n) n c e σ) fun r => Q r.1 r.2.1 r.2.2
def EvL (X : Ctx) (live : List Nat) (c : AC) (e : Env) (σ : St) (Q : Out → Env → St → Prop) : Prop := Ex (fun n => aLoop live (aCode X (aFn X n) n c) n e σ) fun r => Q r.1 r.2.1 r.2.2
def EvO (X : Ctx) (ops : List AI) (e : Env) (σ : St) (Q : Env → St → Prop) : Prop := Ex (fun n => aOps X (aFn X n) ops e σ) fun r => Q r.1 r.2
def EvD (X : Ctx) (ops : List (AI × List AI)) (e : Env) (σ : St) (Q : Env → St → Prop) : Prop := Ex (fun n => aDrw X (aFn X n) ops e σ) fun r => Q r.1 r.2
def EvS (X : Ctx) (e : Env) (a : AI) (σ : St) (Q : AV → St → Prop) : Prop := Ex (fun n => aStep X (aFn X n) e a σ) fun r => Q r.1 r.2
def opt {α : Type} (o : Option α) (Q : α → Prop) : Prop := ∃ r, o = some r ∧ Q r

theorem opt_some {α : Type} (a : α) (Q : α → Prop) : opt (some a) Q ↔ Q a := ⟨fun ⟨_, h, q⟩ => (by cases h; exact q), fun q => ⟨a, rfl, q⟩⟩
theorem opt_none {α : Type} (Q : α → Prop) : opt none Q ↔ False := ⟨fun ⟨_, h, _⟩ => (by cases h), False.elim⟩
theorem opt_map {α β : Type} (f : α → β) (o : Option α) (Q : β → Prop) : opt (o.map f) Q ↔ opt o fun a => Q (f a) := by
  cases o <;> simp [opt_some, opt_none]
theorem opt_bind {α β : Type} (f : α → Option β) (o : Option α) (Q : β → Prop) : opt (o.bind f) Q ↔ opt o fun a => opt (f a) Q := by
  cases o <;> simp [opt_some, opt_none]

theorem Ex_const {α : Type} (o : Option α) (Q : α → Prop) : Ex (fun _ => o) Q ↔ opt o Q := ⟨fun ⟨_, r, h, q⟩ => ⟨r, h, q⟩, fun ⟨r, h, q⟩ => ⟨0, r, h, q⟩⟩

section
variable {X : Ctx} {e : Env} {σ : St} {Q : Out → Env → St → Prop}
theorem EvC_skip : EvC X .skip e σ Q ↔ Q .normal e σ := by simp [EvC, aCode, Ex_const, opt_some]
theorem EvC_exit {id : Nat} : EvC X (.exit id) e σ Q ↔ Q (.exit id) e σ := by simp [EvC, aCode, Ex_const, opt_some]
theorem EvC_ret : EvC X .ret e σ Q ↔ Q .ret e σ := by simp [EvC, aCode, Ex_const, opt_some]
theorem EvC_reg {ops : List AI} : EvC X (.reg ops) e σ Q ↔ EvO X ops e σ fun e' σ' => Q .normal e' σ' := by
  constructor
  · rintro ⟨n, r, h, q⟩
    try dsimp only at h
    simp only [aCode, Option.map_eq_some_iff] at h
    obtain ⟨y, hy, rfl⟩ := h
    exact ⟨n, y, hy, q⟩
  · rintro ⟨n, r, h, q⟩
    try dsimp only at h
    exact ⟨n, _, by simp only [aCode]; rw [h]; rfl, q⟩
theorem EvC_drw {ops : List (AI × List AI)} : EvC X (.drw ops) e σ Q ↔ EvD X ops e σ fun e' σ' => Q .normal e' σ' := by
  constructor
  · rintro ⟨n, r, h, q⟩
    try dsimp only at h
    simp only [aCode, Option.map_eq_some_iff] at h
    obtain ⟨y, hy, rfl⟩ := h
    exact ⟨n, y, hy, q⟩
  · rintro ⟨n, r, h, q⟩
    try dsimp only at h
    exact ⟨n, _, by simp only [aCode]; rw [h]; rfl, q⟩
def Out.next (K : Env → St → Prop) (Q : Out → Env → St → Prop) : Out → Env → St → Prop
  | .normal, e, σ => K e σ
  | o, e, σ => Q o e σ
theorem Out.next_normal (K : Env → St → Prop) (Q : Out → Env → St → Prop) (e : Env) (σ : St) : Out.next K Q .normal e σ = K e σ := rfl
theorem Out.next_exit (K : Env → St → Prop) (Q : Out → Env → St → Prop) (e : Env) (σ : St) (id : Nat) : Out.next K Q (.exit id) e σ = Q (.exit id) e σ := rfl
theorem Out.next_ret (K : Env → St → Prop) (Q : Out → Env → St → Prop) (e : Env) (σ : St) : Out.next K Q .ret e σ = Q .ret e σ := rfl
theorem EvC_seq {a b : AC} : EvC X (.seq a b) e σ Q ↔ EvC X a e σ (Out.next (fun e' σ' => EvC X b e' σ' Q) Q) := by
  constructor
  · rintro ⟨n, r, h, q⟩
    try dsimp only at h
    simp only [aCode] at h
    cases hs : aCode X (aFn X n) n a e σ with
    | none => rw [hs] at h; simp at h
    | some y =>
      rw [hs] at h
      obtain ⟨o, e', σ'⟩ := y
      refine ⟨n, _, hs, ?_⟩
      cases o with
      | normal => exact ⟨n, r, h, q⟩
      | exit id => simp only [Option.some.injEq] at h; subst h; exact q
      | ret => simp only [Option.some.injEq] at h; subst h; exact q
  · rintro ⟨n, ⟨o, e', σ'⟩, h, q⟩
    try dsimp only at h
    cases o with
    | normal =>
      obtain ⟨m, r, hm, q'⟩ := q
      try dsimp only at hm
      refine ⟨max n m, r, ?_, q'⟩
      simp only [aCode]
      rw [aCode_le (aFn_le X (Nat.le_max_left n m)) (Nat.le_max_left n m) h]
      exact aCode_le (aFn_le X (Nat.le_max_right n m)) (Nat.le_max_right n m) hm
    | exit id => exact ⟨n, _, by simp only [aCode]; rw [h], q⟩
    | ret => exact ⟨n, _, by simp only [aCode]; rw [h], q⟩
/-- Which way a test goes. -/
def cndV (v : AV) (A B : Prop) : Prop := match v with | .b true => A | .b false => B | _ => False
theorem cndV_true {A B : Prop} : cndV (.b true) A B ↔ A := Iff.rfl
theorem cndV_false {A B : Prop} : cndV (.b false) A B ↔ B := Iff.rfl
theorem cndV_b {t : Bool} {A B : Prop} : cndV (.b t) A B ↔ (t = true → A) ∧ (t = false → B) := by cases t <;> simp [cndV]
theorem cndV_cd {c t : Bool} {A B : Prop} : cndV (.cd c (.b t)) A B ↔ False := Iff.rfl
theorem EvC_cond {x : Opd} {a b : AC} : EvC X (.cond x a b) e σ Q ↔ cndV (x.ev e) (EvC X a e σ Q) (EvC X b e σ Q) := by
  cases hx : x.ev e with
  | b t => cases t <;> simp [EvC, aCode, hx, cndV]
  | _ => simp only [EvC, aCode, hx, Ex_const, opt_none, cndV]
def Out.inBlk (id : Nat) (Q : Out → Env → St → Prop) : Out → Env → St → Prop
  | .exit j, e, σ => if j = id then Q .normal e σ else Q (.exit j) e σ
  | o, e, σ => Q o e σ
theorem Out.inBlk_normal (id : Nat) (Q : Out → Env → St → Prop) (e : Env) (σ : St) : Out.inBlk id Q .normal e σ = Q .normal e σ := rfl
theorem Out.inBlk_exit (id j : Nat) (Q : Out → Env → St → Prop) (e : Env) (σ : St) : Out.inBlk id Q (.exit j) e σ = if j = id then Q .normal e σ else Q (.exit j) e σ := rfl
theorem Out.inBlk_ret (id : Nat) (Q : Out → Env → St → Prop) (e : Env) (σ : St) : Out.inBlk id Q .ret e σ = Q .ret e σ := rfl
theorem EvC_blk {id : Nat} {c : AC} : EvC X (.blk id c) e σ Q ↔ EvC X c e σ (Out.inBlk id Q) := by
  constructor
  · rintro ⟨n, r, h, q⟩
    try dsimp only at h
    simp only [aCode] at h
    cases hs : aCode X (aFn X n) n c e σ with
    | none => rw [hs] at h; simp at h
    | some y =>
      rw [hs] at h
      obtain ⟨o, e', σ'⟩ := y
      refine ⟨n, _, hs, ?_⟩
      cases o with
      | exit j =>
        simp only [Option.some.injEq] at h; subst h
        simp only [Out.inBlk]
        by_cases hj : j = id <;> simpa [hj] using q
      | normal => simp only [Option.some.injEq] at h; subst h; exact q
      | ret => simp only [Option.some.injEq] at h; subst h; exact q
  · rintro ⟨n, ⟨o, e', σ'⟩, h, q⟩
    try dsimp only at h
    cases o with
    | exit j =>
      refine ⟨n, _, by simp only [aCode]; rw [h], ?_⟩
      simp only [Out.inBlk] at q
      by_cases hj : j = id <;> simpa [hj] using q
    | normal => exact ⟨n, _, by simp only [aCode]; rw [h], q⟩
    | ret => exact ⟨n, _, by simp only [aCode]; rw [h], q⟩
theorem EvC_cut {live : List Nat} {c : AC} : EvC X (.cut live c) e σ Q ↔ EvC X c (clear live e) σ Q := Iff.rfl
theorem EvC_loop {live : List Nat} {c : AC} : EvC X (.loop live c) e σ Q ↔ EvL X live c e σ Q := Iff.rfl
theorem EvL_step {live : List Nat} {c : AC} : EvL X live c e σ Q ↔ EvC X c (clear live e) σ (Out.next (fun e' σ' => EvL X live c e' σ' Q) Q) := by
  constructor
  · rintro ⟨n, r, h, q⟩
    try dsimp only at h
    cases n with
    | zero => simp [aLoop] at h
    | succ n =>
      simp only [aLoop] at h
      cases hs : aCode X (aFn X (n + 1)) (n + 1) c (clear live e) σ with
      | none => rw [hs] at h; simp at h
      | some y =>
        rw [hs] at h
        obtain ⟨o, e', σ'⟩ := y
        refine ⟨n + 1, _, hs, ?_⟩
        cases o with
        | normal => exact ⟨n + 1, r, aLoop_le (fun _ _ _ h => h) (Nat.le_succ n) h, q⟩
        | exit id => simp only [Option.some.injEq] at h; subst h; exact q
        | ret => simp only [Option.some.injEq] at h; subst h; exact q
  · rintro ⟨n, ⟨o, e', σ'⟩, h, q⟩
    try dsimp only at h
    cases o with
    | normal =>
      obtain ⟨m, r, hm, q'⟩ := q
      try dsimp only at hm
      refine ⟨max n m + 1, r, ?_, q'⟩
      simp only [aLoop]
      rw [aCode_le (aFn_le X (Nat.le_trans (Nat.le_max_left n m) (Nat.le_succ _))) (Nat.le_trans (Nat.le_max_left n m) (Nat.le_succ _)) h]
      exact aLoop_le (fun _ _ _ hb => aCode_le (aFn_le X (Nat.le_trans (Nat.le_max_right n m) (Nat.le_succ _))) (Nat.le_trans (Nat.le_max_right n m) (Nat.le_succ _)) hb) (Nat.le_max_right n m) hm
    | exit id =>
      refine ⟨n + 1, _, ?_, q⟩
      simp only [aLoop]
      rw [aCode_le (aFn_le X (Nat.le_succ n)) (Nat.le_succ n) h]
    | ret =>
      refine ⟨n + 1, _, ?_, q⟩
      simp only [aLoop]
      rw [aCode_le (aFn_le X (Nat.le_succ n)) (Nat.le_succ n) h]
end
section
variable {X : Ctx} {e : Env} {σ : St}
theorem EvO_nil {Q : Env → St → Prop} : EvO X [] e σ Q ↔ Q e σ := by simp [EvO, aOps, Ex_const, opt_some]
theorem EvO_cons {a : AI} {r : List AI} {Q : Env → St → Prop} : EvO X (a :: r) e σ Q ↔ EvS X e a σ fun v σ' => EvO X r (put a.d v e) σ' Q := by
  constructor
  · rintro ⟨n, x, h, q⟩
    try dsimp only at h
    simp only [aOps] at h
    cases hs : aStep X (aFn X n) e a σ with
    | none => rw [hs] at h; simp at h
    | some y => rw [hs] at h; exact ⟨n, y, hs, n, x, h, q⟩
  · rintro ⟨n, y, hs, m, x, h, q⟩
    try dsimp only at h hs
    refine ⟨max n m, x, ?_, q⟩
    simp only [aOps]
    rw [aStep_le (aFn_le X (Nat.le_max_left n m)) hs]
    exact aOps_le (aFn_le X (Nat.le_max_right n m)) h
theorem EvD_nil {Q : Env → St → Prop} : EvD X [] e σ Q ↔ Q e σ := by simp [EvD, aDrw, Ex_const, opt_some]
theorem EvD_cons {a : AI} {ag : List AI} {r : List (AI × List AI)} {Q : Env → St → Prop} :
    EvD X ((a, ag) :: r) e σ Q ↔ EvS X e a σ fun v σ' => ag.all (aAgain X e σ') = true ∧ EvD X r (put a.d v e) σ' Q := by
  constructor
  · rintro ⟨n, x, h, q⟩
    try dsimp only at h
    simp only [aDrw] at h
    cases hs : aStep X (aFn X n) e a σ with
    | none => rw [hs] at h; simp at h
    | some y =>
      rw [hs] at h
      simp only at h
      split at h
      · rename_i hall; exact ⟨n, y, hs, hall, n, x, h, q⟩
      · simp at h
  · rintro ⟨n, y, hs, hall, m, x, h, q⟩
    try dsimp only at h hs
    refine ⟨max n m, x, ?_, q⟩
    simp only [aDrw]
    rw [aStep_le (aFn_le X (Nat.le_max_left n m)) hs]
    simp only [hall, if_true]
    exact aDrw_le (aFn_le X (Nat.le_max_right n m)) h
variable {Q : AV → St → Prop} {d : Option Nat}
/-- A call of a function value. -/
def callV (X : Ctx) (f : AV) (args : List AV) (σ : St) (Q : AV → St → Prop) : Prop := match f with | .fn (.func k) first cap => EvF X k (first ++ args ++ cap) σ Q | _ => False
theorem callV_fn {k : Nat} {first cap args : List AV} : callV X (.fn (.func k) first cap) args σ Q ↔ EvF X k (first ++ args ++ cap) σ Q := Iff.rfl
theorem EvS_call {f : Opd} {args : List Opd} : EvS X e ⟨d, none, .call f args⟩ σ Q ↔ callV X (f.ev e) (args.map (Opd.ev e)) σ Q := by
  cases hf : f.ev e with
  | fn k a c => cases k <;> simp [EvS, aStep, aCall, hf, EvF, Ex_const, callV, opt_none]
  | _ => simp only [EvS, aStep, aCall, hf, Ex_const, opt_none, callV]
/-- A call through an interface value. -/
def invV (X : Ctx) (x : AV) (m : String) (args : List AV) (σ : St) (Q : AV → St → Prop) : Prop := match x with | .ic t v => opt (X.meth t m v) (fun k => EvF X k.1 (k.2 :: args) σ Q) | _ => False
theorem invV_ic {t : Nat} {v : AV} {m : String} {args : List AV} : invV X (.ic t v) m args σ Q ↔ opt (X.meth t m v) (fun k => EvF X k.1 (k.2 :: args) σ Q) := Iff.rfl
theorem EvS_inv {x : Opd} {m : String} {args : List Opd} : EvS X e ⟨d, none, .inv x m args⟩ σ Q ↔ invV X (x.ev e) m (args.map (Opd.ev e)) σ Q := by
  cases hf : x.ev e with
  | ic t v => cases hm : X.meth t m v <;> simp [EvS, aStep, aCall, hf, hm, EvF, Ex_const, invV, opt_none, opt_some]
  | _ => simp only [EvS, aStep, aCall, hf, Ex_const, opt_none, invV]
/-- Every other operation. -/
theorem EvS_op {op : AOp} (h : (match op with | .call _ _ | .inv _ _ _ => false | _ => true) = true) : EvS X e ⟨d, none, op⟩ σ Q ↔ opt (aOp X.P (Opd.ev e) op σ) fun r => Q r.1 r.2 := by
  cases op <;> first | (simp at h; done) | simp only [EvS, aStep, aCall, Ex_const]
/-- One that is wanted under a condition, and leaves the store as it is. -/
theorem EvS_if {op : AOp} {g : Nat × Bool} (h : op.pure = true) : EvS X e ⟨d, some g, op⟩ σ Q ↔ opt (wantedA e (some g)) fun c =>
    opt (aGuard X.P c e op σ) fun v => Q v σ := by
  cases hw : wantedA e (some g) with
  | none => simp [EvS, aStep, hw, Ex_const, opt_none]
  | some c => simp only [EvS, aStep, hw, h, if_true, Ex_const, opt_some, opt_map]
/-- One that is wanted under a condition, and may write, or call. -/
def ifV (c : Bool) (A B : Prop) : Prop := if c then A else B
theorem ifV_true {A B : Prop} : ifV true A B ↔ A := Iff.rfl
theorem ifV_false {A B : Prop} : ifV false A B ↔ B := Iff.rfl
theorem ifV_b {t : Bool} {A B : Prop} : ifV t A B ↔ (t = true → A) ∧ (t = false → B) := by cases t <;> simp [ifV]
def actV (X : Ctx) (ρ : Opd → AV) (op : AOp) (σ : St) (Q : AV → St → Prop) : Prop := Ex (fun n => aCall X (aFn X n) ρ op σ) fun r => Q r.1 r.2
theorem EvS_iff {op : AOp} {g : Nat × Bool} (h : op.pure = false) : EvS X e ⟨d, some g, op⟩ σ Q ↔ opt (wantedA e (some g)) fun c =>
    ifV c (op.opds.all (fun o => (o.ev e).cnd) = true ∧ actV X (fun o => (o.ev e).val) op σ Q) (Q (.tu []) σ) := by
  cases hw : wantedA e (some g) with
  | none => simp [EvS, aStep, hw, Ex_const, opt_none]
  | some c =>
    simp only [EvS, aStep, hw, h, opt_some, ifV, actV]
    cases c with
    | false => simp [Ex_const, opt_some]
    | true =>
      by_cases hc : op.opds.all (fun o => (o.ev e).cnd) = true
      · simp [hc]
      · simp [hc, Ex_const, opt_none]
theorem actV_call {ρ : Opd → AV} {f : Opd} {args : List Opd} : actV X ρ (.call f args) σ Q ↔ callV X (ρ f) (args.map ρ) σ Q := by
  cases hf : ρ f with
  | fn k a c => cases k <;> simp [actV, aCall, hf, EvF, Ex_const, callV, opt_none]
  | _ => simp only [actV, aCall, hf, Ex_const, opt_none, callV]
theorem actV_inv {ρ : Opd → AV} {x : Opd} {m : String} {args : List Opd} : actV X ρ (.inv x m args) σ Q ↔ invV X (ρ x) m (args.map ρ) σ Q := by
  cases hf : ρ x with
  | ic t v => cases hm : X.meth t m v <;> simp [actV, aCall, hf, hm, EvF, Ex_const, invV, opt_none, opt_some]
  | _ => simp only [actV, aCall, hf, Ex_const, opt_none, invV]
theorem actV_op {ρ : Opd → AV} {op : AOp} (h : (match op with | .call _ _ | .inv _ _ _ => false | _ => true) = true) : actV X ρ op σ Q ↔ opt (aOp X.P ρ op σ) fun r => Q r.1 r.2 := by
  cases op <;> first | (simp at h; done) | simp only [actV, aCall, Ex_const]
def isEnd : Out → Bool
  | .exit _ => false
  | _ => true
theorem EvF_fn {f : Nat} {F : AF} {args : List AV} (hp : X.prim f = none) (hf : X.fns f = some F) (hl : args.length ≤ F.nt) :
    EvF X f args σ Q ↔ EvC X F.code (argEnv 0 args) σ fun o e σ' => isEnd o = true ∧ opt ((aRes X.P F.res e σ').map fun v => norm σ v σ') fun r => Q r.1 r.2 := by
  constructor
  · rintro ⟨n, x, h, q⟩
    try dsimp only at h
    cases n with
    | zero => simp [aFn] at h
    | succ n =>
      simp only [aFn, hp, hf, hl, if_true] at h
      cases hc : aCode X (aFn X n) n F.code (argEnv 0 args) σ with
      | none => rw [hc] at h; simp at h
      | some y =>
        rw [hc] at h
        obtain ⟨o, e', σ'⟩ := y
        refine ⟨n, _, hc, ?_⟩
        cases o with
        | exit j => simp at h
        | normal => exact ⟨rfl, x, h, q⟩
        | ret => exact ⟨rfl, x, h, q⟩
  · rintro ⟨n, ⟨o, e', σ'⟩, hc, ho, x, hv, q⟩
    try dsimp only at hc
    refine ⟨n + 1, x, ?_, q⟩
    simp only [aFn, hp, hf, hl, if_true, hc]
    cases o with
    | exit j => simp [isEnd] at ho
    | normal => exact hv
    | ret => exact hv
theorem EvF_prim {f : Nat} {g : List AV → St → Option (AV × St)} {args : List AV} (hp : X.prim f = some g) : EvF X f args σ Q ↔ opt (g args σ) fun r => Q r.1 r.2 := by
  constructor
  · rintro ⟨n, x, h, q⟩
    try dsimp only at h
    cases n with
    | zero => simp [aFn] at h
    | succ n => simp only [aFn, hp] at h; exact ⟨x, h, q⟩
  · rintro ⟨x, h, q⟩
    exact ⟨1, x, by simp only [aFn, hp]; exact h, q⟩
/-- A call comes to one end: what one way of asking tells, all tell. -/
theorem EvF_iff {f : Nat} {args : List AV} {v : AV} {σ' : St} (h : EvF X f args σ fun a s => a = v ∧ s = σ') : EvF X f args σ Q ↔ Q v σ' := by
  obtain ⟨n, x, hx, h1, h2⟩ := h
  constructor
  · rintro ⟨m, y, hy, q⟩
    try dsimp only at hx hy
    have a := aFn_le X (Nat.le_max_left n m) _ _ _ _ hx
    have b := aFn_le X (Nat.le_max_right n m) _ _ _ _ hy
    rw [a] at b
    obtain rfl := Option.some.inj b
    exact h1 ▸ h2 ▸ q
  · intro q
    exact ⟨n, x, hx, by show Q x.1 x.2; rw [h1, h2]; exact q⟩
theorem EvF_mono {f : Nat} {args : List AV} {Q' : AV → St → Prop} (h : EvF X f args σ Q) (hq : ∀ v s, Q v s → Q' v s) : EvF X f args σ Q' := by
  obtain ⟨n, x, hx, q⟩ := h
  exact ⟨n, x, hx, hq _ _ q⟩
end
theorem EvC_mono {X : Ctx} {c : AC} {e : Env} {σ : St} {Q Q' : Out → Env → St → Prop} (h : EvC X c e σ Q) (hq : ∀ o e s, Q o e s → Q' o e s) : EvC X c e σ Q' := by
  obtain ⟨n, x, hx, q⟩ := h
  exact ⟨n, x, hx, hq _ _ _ q⟩
theorem EvL_mono {X : Ctx} {live : List Nat} {c : AC} {e : Env} {σ : St} {Q Q' : Out → Env → St → Prop} (h : EvL X live c e σ Q) (hq : ∀ o e s, Q o e s → Q' o e s) : EvL X live c e σ Q' := by
  obtain ⟨n, x, hx, q⟩ := h
  exact ⟨n, x, hx, hq _ _ _ q⟩

/-! ### How the rules are used: each at the head, ahead of what stands within; what follows is not looked into till its time comes -/
section
variable {X : Ctx}
@[congr] theorem EvL_congr {l : List Nat} {e e' : Env} {a : AC} {σ σ' : St} {Q : Out → Env → St → Prop} (he : e = e') (h : σ = σ') : EvL X l a e σ Q ↔ EvL X l a e' σ' Q := by rw [h, he]
@[congr] theorem EvF_congr {f : Nat} {a a' : List AV} {σ σ' : St} {Q : AV → St → Prop} (ha : a = a') (h : σ = σ') : EvF X f a σ Q ↔ EvF X f a' σ' Q := by rw [h, ha]
@[congr] theorem callV_congr {f f' : AV} {a a' : List AV} {σ σ' : St} {Q : AV → St → Prop} (hf : f = f') (ha : a = a') (h : σ = σ') : callV X f a σ Q ↔ callV X f' a' σ' Q := by rw [h, ha, hf]
@[congr] theorem invV_congr {f f' : AV} {m : String} {a a' : List AV} {σ σ' : St} {Q : AV → St → Prop} (hf : f = f') (ha : a = a') (h : σ = σ') : invV X f m a σ Q ↔ invV X f' m a' σ' Q := by rw [h, ha, hf]
@[congr] theorem opt_congr {α : Type} {o o' : Option α} {Q : α → Prop} (h : o = o') : opt o Q ↔ opt o' Q := by rw [h]
@[congr] theorem cndV_congr {v v' : AV} {A B : Prop} (h : v = v') : cndV v A B ↔ cndV v' A B := by rw [h]
@[congr] theorem ifV_congr {v v' : Bool} {A B : Prop} (h : v = v') : ifV v A B ↔ ifV v' A B := by rw [h]
end
attribute [simp ↓] EvC_skip EvC_exit EvC_ret EvC_reg EvC_drw EvC_seq EvC_cond EvC_blk EvC_loop EvC_cut EvO_nil EvO_cons EvD_nil EvD_cons EvS_call EvS_inv EvS_op EvS_if EvS_iff actV_call actV_inv actV_op
attribute [simp ↓] Out.next_normal Out.next_exit Out.next_ret Out.inBlk_normal Out.inBlk_exit Out.inBlk_ret opt_some opt_none opt_map opt_bind
attribute [simp] cndV_true cndV_false cndV_b ifV_true ifV_false ifV_b callV_fn invV_ic isEnd
attribute [simp] get put Opd.ev Opd.isC argEnv AOp.opds wantedA AV.val AV.cnd aLift aGuard merge aPick aPickG aOp aBin aInt aCmp aStr aUn aLen aNil aTas aMn aRes aResL aRes1 norm AV.flat AV.flats clear
end Go.Abs
