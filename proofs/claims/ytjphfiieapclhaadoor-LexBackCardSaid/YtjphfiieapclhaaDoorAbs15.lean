/- The layer Abs, part 15: regions that draw their order: whatever order is drawn, the evaluator's order tells what comes of it. -/
import Derived.Test.YtjphfiieapclhaaDoorAbs14
namespace Go.Abs

def Opd.sl : Opd → List Nat
  | .t n => [n]
  | .c _ => []
def AI.slots (a : AI) : List Nat := a.op.opds.flatMap Opd.sl ++ (match a.gd with | some (n, _) => [n] | none => [])
/-- Does it neither look at the store nor change it? -/
def AOp.still : AOp → Bool
  | .load _ _ | .slc _ _ _ _ | .lku _ _ _ _ | .mln _ _ => false
  | op => op.pure

section
variable {X : Ctx} {P : Program} {G N : Nat} {σ : St} {ops : Array Oper}

theorem aOp_congr {ρ ρ' : Opd → AV} {op : AOp} (h : ∀ y ∈ op.opds, ρ y = ρ' y) : aOp P ρ op σ = aOp P ρ' op σ := by
  have hm : ∀ l : List Opd, (∀ y ∈ l, ρ y = ρ' y) → l.map ρ = l.map ρ' := fun l hl => List.map_congr_left hl
  have hp : ∀ l : List (Nat × Opd), (∀ y ∈ l.map (·.2), ρ y = ρ' y) → (l.map fun q => (q.1, ρ q.2)) = l.map fun q => (q.1, ρ' q.2) := fun l hl =>
    List.map_congr_left fun q hq => by rw [hl q.2 (List.mem_map.2 ⟨q, hq, rfl⟩)]
  cases op
  case build t ps => simp only [aOp, AOp.opds] at h ⊢; rw [hp _ h]
  case bsl t n ps => simp only [aOp, AOp.opds] at h ⊢; rw [hp _ h]
  case mkf f a c =>
    simp only [aOp, AOp.opds] at h ⊢
    rw [hm a fun y hy => h y (by simp [hy]), hm c fun y hy => h y (by simp [hy])]
  case mn mx xs => simp only [aOp, AOp.opds] at h ⊢; rw [hm _ h]
  case mkm t r =>
    simp only [AOp.opds] at h
    have h2 : r.map ρ = r.map ρ' := by
      cases r with
      | none => rfl
      | some y => simp only [Option.map_some]; rw [h y (by simp)]
    simp only [aOp]
    rw [h2]
  case sl3 t x l hh m =>
    simp only [AOp.opds] at h
    have h1 : ρ x = ρ' x := h x (by simp)
    have h2 : l.map ρ = l.map ρ' := by
      cases l with
      | none => rfl
      | some y => simp only [Option.map_some]; rw [h y (by simp)]
    have h3 : ρ hh = ρ' hh := h hh (by simp)
    have h4 : ρ m = ρ' m := h m (by simp)
    simp only [aOp]
    rw [h1, h2, h3, h4]
  case slc t x l hh =>
    simp only [AOp.opds] at h
    have h1 : ρ x = ρ' x := h x (by simp)
    have h2 : l.map ρ = l.map ρ' := by
      cases l with
      | none => rfl
      | some y => simp only [Option.map_some]; rw [h y (by simp)]
    have h3 : hh.map ρ = hh.map ρ' := by
      cases hh with
      | none => rfl
      | some y => simp only [Option.map_some]; rw [h y (by simp)]
    simp only [aOp]
    rw [h1, h2, h3]
  all_goals first
    | rfl
    | (simp only [AOp.opds, List.mem_cons, List.not_mem_nil, or_false, forall_eq_or_imp, forall_eq] at h; simp only [aOp, h])

theorem aCall_congr {run : Run} {ρ ρ' : Opd → AV} {op : AOp} (h : ∀ y ∈ op.opds, ρ y = ρ' y) : aCall X run ρ op σ = aCall X run ρ' op σ := by
  have hm : ∀ l : List Opd, (∀ y ∈ l, ρ y = ρ' y) → l.map ρ = l.map ρ' := fun l hl => List.map_congr_left hl
  cases op
  case call f args => simp only [aCall, AOp.opds] at h ⊢; rw [h f (by simp), hm args fun y hy => h y (by simp [hy])]
  case inv x m args => simp only [aCall, AOp.opds] at h ⊢; rw [h x (by simp), hm args fun y hy => h y (by simp [hy])]
  all_goals exact aOp_congr (P := X.P) (σ := σ) h

theorem ev_congr {e e' : Env} {y : Opd} (h : ∀ x ∈ y.sl, get e x = get e' x) : y.ev e = y.ev e' := by
  cases y with
  | c v => rfl
  | t n => exact h n (by simp [Opd.sl])

theorem all_congr {l : List Opd} {p q : Opd → Bool} (h : ∀ y ∈ l, p y = q y) : l.all p = l.all q := by
  induction l with
  | nil => rfl
  | cons y l ih => simp only [List.all_cons]; rw [h y (by simp), ih fun z hz => h z (by simp [hz])]

theorem aGuard_congr {c : Bool} {e e' : Env} {op : AOp} (h : ∀ y ∈ op.opds, y.ev e = y.ev e') : aGuard P c e op σ = aGuard P c e' op σ := by
  have hl : aLift true (op.opds.all (fun o => impB true (o.ev e).cnd)) (aOp P (fun o => (o.ev e).val) op σ) = aLift true (op.opds.all (fun o => impB true (o.ev e').cnd)) (aOp P (fun o => (o.ev e').val) op σ) := by
    rw [all_congr (q := fun o => impB true (o.ev e').cnd) fun y hy => by rw [h y hy], aOp_congr (ρ' := fun o => (o.ev e').val) fun y hy => by rw [h y hy]]
  suffices aGuardT P e op σ = aGuardT P e' op σ by unfold aGuard; rw [this]
  by_cases hpk : ∃ q x y, op = .pick q x y
  · obtain ⟨q, x, y, rfl⟩ := hpk
    simp only [aGuardT]
    rw [h q (by simp [AOp.opds]), h x (by simp [AOp.opds]), h y (by simp [AOp.opds])]
  · cases op <;> first | exact hl | exact absurd ⟨_, _, _, rfl⟩ hpk

theorem aStep_congr {run : Run} {e e' : Env} {a : AI} (h : ∀ x ∈ a.slots, get e x = get e' x) : aStep X run e a σ = aStep X run e' a σ := by
  have ho : ∀ y ∈ a.op.opds, y.ev e = y.ev e' := fun y hy => ev_congr fun x hx => h x (by
    simp only [AI.slots, List.mem_append, List.mem_flatMap]; exact .inl ⟨y, hy, hx⟩)
  unfold aStep
  cases hg : a.gd with
  | none => exact aCall_congr ho
  | some g =>
    obtain ⟨n, w⟩ := g
    have hw : wantedA e (some (n, w)) = wantedA e' (some (n, w)) := by
      simp only [wantedA]
      rw [h n (by simp [AI.slots, hg])]
    simp only [hw]
    cases wantedA e' (some (n, w)) with
    | none => rfl
    | some c =>
      simp only []
      rw [aGuard_congr ho, all_congr (q := fun o => (o.ev e').cnd) fun y hy => by rw [ho y hy], aCall_congr (ρ' := fun o => (o.ev e').val) fun y hy => by rw [ho y hy]]

theorem map_same {o : Option AV} {v : AV} {σ1 : St} (h : o.map (·, σ) = some (v, σ1)) (σ' : St) : o.map (·, σ') = some (v, σ') := by
  cases o with
  | none => cases h
  | some q => cases h; rfl
theorem aOp_still {ρ : Opd → AV} {op : AOp} {σ1 : St} {v : AV} (hs : op.still = true) (h : aOp P ρ op σ = some (v, σ1)) (σ' : St) : aOp P ρ op σ' = some (v, σ') := by
  cases op <;> simp only [AOp.still, AOp.pure, Bool.false_eq_true] at hs <;> simp only [aOp] at h ⊢
  all_goals first
    | exact map_same h σ'
    | (cases h; rfl)
    | (split at h <;> first | (cases h; done) | (cases h; rfl) | exact map_same h σ')

theorem still_pure {op : AOp} (h : op.still = true) : op.pure = true := by
  cases op <;> first | exact h | rfl

theorem aLift_map {c ok : Bool} {q q' : Option (AV × St)} (h : q.map (·.1) = q'.map (·.1)) : aLift c ok q = aLift c ok q' := by
  cases q <;> cases q' <;> simp_all [aLift]

theorem aOp_still_none {ρ : Opd → AV} {op : AOp} (hs : op.still = true) (σ σ' : St) : (aOp P ρ op σ).map (·.1) = (aOp P ρ op σ').map (·.1) := by
  cases h : aOp P ρ op σ with
  | some q => rw [aOp_still hs (σ1 := q.2) (v := q.1) h σ']; rfl
  | none =>
    cases h' : aOp P ρ op σ' with
    | none => rfl
    | some q => rw [aOp_still hs (σ1 := q.2) (v := q.1) h' σ] at h; cases h

theorem aGuard_still {c : Bool} {e : Env} {op : AOp} (hs : op.still = true) (σ σ' : St) : aGuard P c e op σ = aGuard P c e op σ' := by
  have hl := aLift_map (c := true) (ok := op.opds.all (fun o => impB true (o.ev e).cnd)) (aOp_still_none (P := P) (ρ := fun o => (o.ev e).val) hs σ σ')
  suffices aGuardT P e op σ = aGuardT P e op σ' by unfold aGuard; rw [this]
  by_cases hpk : ∃ q x y, op = .pick q x y
  · obtain ⟨q, x, y, rfl⟩ := hpk; rfl
  · cases op <;> first | exact hl | exact absurd ⟨_, _, _, rfl⟩ hpk

theorem aStep_pure {run : Run} {e : Env} {a : AI} {σ1 : St} {v : AV} (hp : a.op.pure = true) (h : aStep X run e a σ = some (v, σ1)) : σ1 = σ := by
  unfold aStep at h
  split at h
  · rw [aCall_pure hp] at h; exact pure_store hp h
  · split at h
    · cases h
    · rw [if_pos hp, Option.map_eq_some_iff] at h
      obtain ⟨q, _, h⟩ := h; cases h; rfl

theorem aStep_still {run : Run} {e : Env} {a : AI} {σ1 : St} {v : AV} (hs : a.op.still = true) (h : aStep X run e a σ = some (v, σ1)) (σ' : St) : aStep X run e a σ' = some (v, σ') := by
  have hp := still_pure hs
  unfold aStep at h ⊢
  split at h
  · rename_i hg
    rw [aCall_pure hp] at h
    rw [aCall_pure hp]
    exact aOp_still hs h σ'
  · split at h
    · cases h
    · rename_i c hc
      rw [if_pos hp, Option.map_eq_some_iff] at h
      obtain ⟨q, hq, h⟩ := h; cases h
      simp only [hc, hp, if_true]
      rw [aGuard_still hs σ' σ, hq]; rfl
end

/-! ### The table of a region that draws its order -/
structure DI where
  i : Nat
  a : AI
  again : List AI
  anc : List Nat

def bindsOf (ops : Array Oper) (i : Nat) : List Nat := match ops[i]? with
  | some o => (o.after.toList.filter (Region.binds .any)).map (·.on)
  | none => []
def okAt (P : Program) (G N : Nat) (ops : Array Oper) (i : Nat) (a : AI) : Bool := match ops[i]? with
  | some o => okAI P G N ops o a
  | none => false

def uni : List Nat → List Nat → List Nat
  | [], l => l
  | j :: js, l => uni js (if l.contains j then l else j :: l)
def ancOf (done : List DI) : List Nat → List Nat → List Nat
  | [], l => l
  | j :: js, l => ancOf done js (match done.find? (·.i == j) with | some t => uni t.anc l | none => l)

def mkTab (P : Program) (G N : Nat) (ops : Array Oper) : List (AI × List AI) → List DI → List DI
  | [], done => done.reverse
  | (a, ag) :: r, done => match (List.range ops.size).find? (fun i => !(done.any (·.i == i)) && okAt P G N ops i a) with
    | some i => mkTab P G N ops r (⟨i, a, ag, ancOf done (bindsOf ops i) (bindsOf ops i)⟩ :: done)
    | none => []

def oneOk (P : Program) (G N : Nat) (ops : Array Oper) (T : List DI) (p : Nat) (t : DI) : Bool :=
  okAt P G N ops t.i t.a &&
  (bindsOf ops t.i).all (fun j => (T.take p).any (·.i == j)) &&
  t.anc.all fun j => (bindsOf ops t.i).contains j || (T.take p).any fun b => (bindsOf ops t.i).contains b.i && b.anc.contains j

def pairOk (P : Program) (G N : Nat) (ops : Array Oper) (T : List DI) (q : Nat) (b : DI) (p : Nat) (a : DI) : Bool :=
  b.i != a.i &&
  (match b.a.d with
    | some x => a.a.d != some x && (!(a.a.slots.contains x) || a.anc.contains b.i)
    | none => true) &&
  (match a.a.d with
    | some x => !(b.a.slots.contains x) || a.anc.contains b.i
    | none => true) &&
  (b.a.op.pure || a.a.op.still || a.anc.contains b.i) &&
  (a.a.op.pure || !b.a.op.pure || b.a.op.still || a.anc.contains b.i || a.again.any fun b' => okAt P G N ops b.i b' && b'.op.pure && b'.slots.all (fun x => b.a.slots.contains x && ((T.take p).drop q).all fun r => r.a.d != some x))

def okTab (P : Program) (G N : Nat) (ops : Array Oper) (T : List DI) : Bool :=
  (List.range ops.size).all (fun i => T.any (·.i == i)) &&
  (List.range T.length).all fun p => match T[p]? with
    | some t => oneOk P G N ops T p t && (List.range p).all fun q => match T[q]? with
      | some b => pairOk P G N ops T q b p t
      | none => true
    | none => true

def forceN (i : Nat) (k : Nat → Bool) : Bool := match i with
  | 0 => k 0
  | n + 1 => k (n + 1)
def forceNs : List Nat → (List Nat → Bool) → Bool
  | [], k => k []
  | i :: l, k => forceN i fun i' => forceNs l fun l' => k (i' :: l')
def forceT : List DI → (List DI → Bool) → Bool
  | [], k => k []
  | ⟨i, a, ag, anc⟩ :: r, k => forceN i fun i' => forceNs anc fun anc' => forceT r fun r' => k (⟨i', a, ag, anc'⟩ :: r')
theorem forceN_eq (i : Nat) (k : Nat → Bool) : forceN i k = k i := by cases i <;> rfl
theorem forceNs_eq : ∀ (l : List Nat) (k : List Nat → Bool), forceNs l k = k l
  | [], _ => rfl
  | i :: l, k => by simp only [forceNs, forceN_eq, forceNs_eq l]
theorem forceT_eq : ∀ (l : List DI) (k : List DI → Bool), forceT l k = k l
  | [], _ => rfl
  | ⟨i, a, ag, anc⟩ :: r, k => by simp only [forceT, forceN_eq, forceNs_eq, forceT_eq r]

def okDrw (P : Program) (G N : Nat) (ops : Array Oper) (l : List (AI × List AI)) : Bool :=
  forceT (mkTab P G N ops l []) fun T => okTab P G N ops T && T.length == l.length

theorem mkTab_map {P : Program} {G N : Nat} {ops : Array Oper} : ∀ (l : List (AI × List AI)) (done : List DI), (mkTab P G N ops l done).length = l.length + done.length →
    (mkTab P G N ops l done).map (fun t => (t.a, t.again)) = done.reverse.map (fun t => (t.a, t.again)) ++ l
  | [], done, _ => by simp [mkTab]
  | (a, ag) :: r, done, h => by
    unfold mkTab at h ⊢
    split
    · rename_i i hi
      rw [hi] at h
      simp only at h
      rw [mkTab_map r _ (by rw [h]; simp; omega)]
      simp
    · rename_i hi
      rw [hi] at h
      simp at h
      omega
end Go.Abs
