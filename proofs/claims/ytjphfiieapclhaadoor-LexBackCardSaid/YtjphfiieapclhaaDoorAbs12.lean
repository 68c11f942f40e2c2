/- The layer Abs, part 12: each operation of the model's, held against one of the evaluator's. -/
import Derived.Test.YtjphfiieapclhaaDoorAbs33
namespace Go.Abs

def okOpd (G : Nat) : Operand → Opd → Bool
  | .tmp n, .t m => n == m
  | .const v, .c a => AV.eqv (avOf v) a
  | .global g, .c (.p o 0 0) => g == o && decide (g < G)
  | .func f, .c (.fn (.func k) [] []) => f == k
  | _, _ => false
def okOpds (G : Nat) : List Operand → List Opd → Bool
  | [], [] => true
  | x :: xs, y :: ys => okOpd G x y && okOpds G xs ys
  | _, _ => false
def okParts (G : Nat) : List (Nat × Operand) → List (Nat × Opd) → Bool
  | [], [] => true
  | x :: xs, y :: ys => x.1 == y.1 && okOpd G x.2 y.2 && okParts G xs ys
  | _, _ => false
def okOpt (G : Nat) : Option Operand → Option Opd → Bool
  | none, none => true
  | some x, some y => okOpd G x y
  | _, _ => false

def okBuiltin (P : Program) (G : Nat) (b : Builtin) (args : List Operand) (ts : List Nat) (a : AOp) : Bool :=
  match b, args, ts, a with
  | .len, [x], [t], .len t' y => t == t' && okOpd G x y
  | .len, [x], [t], .mln t' y => t == t' && okOpd G x y
  | .delete, [m, k], t :: _, .del t' m' k' => t == t' && okOpd G m m' && okOpd G k k'
  | .append, [x, y], [t, t2], .app t' _ x' y' => t == t' && (t2 == t || (match P.underlying t2 with | some .string => true | _ => false)) && okOpd G x x' && okOpd G y y'
  | .copy, [x, y], [t, _], .copy t' x' y' => t == t' && okOpd G x x' && okOpd G y y'
  | .min, xs, _, .mn false ys => okOpds G xs ys
  | .max, xs, _, .mn true ys => okOpds G xs ys
  | _, _, _, _ => false

def okCall (P : Program) (G : Nat) (c : Call) (a : AOp) : Bool :=
  match c.callee, a with
  | .value f, .call f' args => okOpd G f f' && okOpds G c.args.toList args
  | .invoke r n, .inv r' n' args => okOpd G r r' && n == n' && okOpds G c.args.toList args
  | .builtin b, a => okBuiltin P G b c.args.toList c.argTypes.toList a
  | _, _ => false

def okOp (P : Program) (G : Nat) (o : Op) (a : AOp) : Bool :=
  match o, a with
  | .move x, .mv y => okOpd G x y
  | .assign x, .mv y => okOpd G x y
  | .pick c x y, .pick c' x' y' => okOpd G c c' && okOpd G x x' && okOpd G y y'
  | .alloc t, .alloc t' => t == t'
  | .box t x, .box t' x' => t == t' && okOpd G x x'
  | .build t ps, .build t' qs => t == t' && okParts G ps.toList qs
  | .buildSlice t n ps, .bsl t' n' qs => t == t' && n == n' && okParts G ps.toList qs
  | .load t x, .load t' x' => t == t' && okOpd G x x'
  | .store t x y, .store t' x' y' => t == t' && okOpd G x x' && okOpd G y y'
  | .nilCheck x, .nilck x' => okOpd G x x'
  | .binOp op t x y _, .bin op' t' x' y' => op == op' && t == t' && okOpd G x x' && okOpd G y y'
  | .unOp op _ x, .un op' x' => op == op' && okOpd G x x'
  | .convert s d x, .conv s' d' x' => s == s' && d == d' && okOpd G x x'
  | .makeInterface t x, .mki t' x' => t == t' && okOpd G x x'
  | .makeFunc f a c, .mkf f' a' c' => f == f' && okOpds G a.toList a' && okOpds G c.toList c'
  | .makeSlice t l c, .mks t' l' c' => t == t' && okOpd G l l' && okOpd G c c'
  | .slice t x lo hi none, .slc t' x' lo' hi' => t == t' && okOpd G x x' && okOpt G lo lo' && okOpt G hi hi'
  | .slice t x lo (some hi) (some mx), .sl3 t' x' lo' hi' mx' => t == t' && okOpd G x x' && okOpt G lo lo' && okOpd G hi hi' && okOpd G mx mx'
  | .fieldAddr t x f, .fad t' x' f' => t == t' && f == f' && okOpd G x x'
  | .field t x f, .fld t' x' f' => t == t' && f == f' && okOpd G x x'
  | .indexAddr t x i, .iad t' x' i' => t == t' && okOpd G x x' && okOpd G i i'
  | .index t x i, .idx t' x' i' => t == t' && okOpd G x x' && okOpd G i i'
  | .range t x, .rng t' x' => t == t' && okOpd G x x'
  | .next x true, .nxt x' => okOpd G x x'
  | .typeAssert x xt t ok, .tas x' xt' t' ok' => xt == xt' && t == t' && ok == ok' && okOpd G x x'
  | .extract x i, .ext x' i' => i == i' && okOpd G x x'
  | .call c, a => okCall P G c a
  | .panic _, .pnc _ => true
  | .makeMap t r, .mkm t' r' => t == t' && okOpt G r r'
  | .lookup t x k ok, .lku t' x' k' ok' => t == t' && ok == ok' && okOpd G x x' && okOpd G k k'
  | .mapUpdate t m k v, .mup t' m' k' v' => t == t' && okOpd G m m' && okOpd G k k' && okOpd G v v'
  | .insert t m k v, .mup t' m' k' v' => t == t' && okOpd G m m' && okOpd G k k' && okOpd G v v'
  | _, _ => false

section
variable {P : Program} {G : Nat} {μ : Mu} {σ : St} {w : World}

/-- What the operands are, to both. -/
def RhoRel (G : Nat) (μ : Mu) (w : World) (l : List Opd) (ρa : Opd → AV) (ρc : Operand → Value) : Prop := ∀ x y, okOpd G x y = true → y ∈ l → VRel μ w (ρa y) (ρc x)

theorem opds_rel {l : List Opd} {ρa : Opd → AV} {ρc : Operand → Value} (h : RhoRel G μ w l ρa ρc) : ∀ {xs : List Operand} {ys : List Opd}, okOpds G xs ys = true → (∀ y ∈ ys, y ∈ l) → VRels μ w (ys.map ρa) (xs.map ρc)
  | [], [], _, _ => rfl
  | [], _ :: _, h, _ => by simp [okOpds] at h
  | _ :: _, [], h, _ => by simp [okOpds] at h
  | x :: xs, y :: ys, hk, hl => by
    simp only [okOpds, Bool.and_eq_true] at hk
    exact ⟨ρc x, xs.map ρc, rfl, h x y hk.1 (hl y (by simp)), opds_rel h hk.2 (fun z hz => hl z (by simp [hz]))⟩
theorem parts_rel {l : List Opd} {ρa : Opd → AV} {ρc : Operand → Value} (h : RhoRel G μ w l ρa ρc) : ∀ {xs : List (Nat × Operand)} {ys : List (Nat × Opd)}, okParts G xs ys = true → (∀ y ∈ ys, y.2 ∈ l) → PartsRel μ w (ys.map fun q => (q.1, ρa q.2)) (xs.map fun q => (q.1, ρc q.2))
  | [], [], _, _ => rfl
  | [], _ :: _, h, _ => by simp [okParts] at h
  | _ :: _, [], h, _ => by simp [okParts] at h
  | x :: xs, y :: ys, hk, hl => by
    simp only [okParts, Bool.and_eq_true, beq_iff_eq] at hk
    exact ⟨(x.1, ρc x.2), xs.map fun q => (q.1, ρc q.2), rfl, hk.1.1, h x.2 y.2 hk.1.2 (hl y (by simp)), parts_rel h hk.2 (fun z hz => hl z (by simp [hz]))⟩
theorem optd_rel {l : List Opd} {ρa : Opd → AV} {ρc : Operand → Value} (h : RhoRel G μ w l ρa ρc) {x : Option Operand} {y : Option Opd} (hk : okOpt G x y = true) (hl : ∀ z, y = some z → z ∈ l) : OptRel μ w (y.map ρa) (x.map ρc) := by
  cases x <;> cases y <;> simp only [okOpt, Bool.false_eq_true] at hk
  · trivial
  · exact h _ _ hk (hl _ rfl)

/-- A constant that is the nil of an interface type is written as one. -/
def NilConst (ρa : Opd → AV) : Prop := ∀ v, ρa (.c v) = .ic0 → v.val = .ic0

/-- What comes of an operation that is no call. -/
def OpTo (P : Program) (G : Nat) (μ : Mu) (σ : St) (w : World) (s : Sem Next) (a : AV) (σ' : St) : Prop :=
  ∃ n w' μ' v, s.run P w = .ok n w' ∧ (n = .value v ∨ (n = .skip ∧ v = undef)) ∧ VRel μ' w' a v ∧ Step G μ σ w μ' σ' w'

theorem Acts.to {s : Sem Value} {a : AV} {σ' : St} (h : Acts P G μ σ w s a σ') : OpTo P G μ σ w (do pure (.value (← s))) a σ' := by
  obtain ⟨v, w', μ', h1, h2, h3⟩ := h
  exact ⟨.value v, w', μ', v, by simp [h1], .inl rfl, h2, h3⟩
theorem Gives.to {s : Sem Value} {a : AV} (hs : Sim G μ σ w) (h : Gives P μ w s a) : OpTo P G μ σ w (do pure (.value (← s))) a σ := (h.acts hs).to

theorem merge_rel {x : Bool} {a b : AV} {u v : Value} (ha : x = true → VRel μ w a u) (hb : x = false → VRel μ w b v) : VRel μ w (merge x a b) (if x then u else v) := by
  unfold merge
  cases x with
  | true =>
    have h := ha rfl
    split <;> simp_all [bsel]
  | false =>
    have h := hb rfl
    split <;> simp_all [bsel]

theorem cnd_val {a : AV} {u : Value} (h : VRel μ w a u) (hc : a.cnd = true) : VRel μ w a.val u := by
  cases a <;> try exact h
  rename_i c v
  simp only [AV.cnd] at hc; subst hc
  simpa [VRel, AV.val] using h
theorem cnd_undef {a : AV} {u : Value} (h : VRel μ w a u) (hc : a.cnd = false) : u = undef := by
  cases a <;> try (simp [AV.cnd] at hc; done)
  rename_i c v
  simp only [AV.cnd] at hc; subst hc
  simpa [VRel] using h

theorem pick_rel {c a b r : AV} {u x y : Value} (h : aPick c a b = some r) (hc : VRel μ w c u) (ha : VRel μ w a x) (hb : VRel μ w b y) : ∃ t, u = .bool t ∧ VRel μ w r (if t then x else y) := by
  unfold aPick at h
  split at h
  · rename_i t
    split at h
    · rename_i hi
      cases h
      simp only [VRel] at hc; subst hc
      simp only [impB, Bool.and_eq_true] at hi
      refine ⟨t, rfl, merge_rel (fun ht => cnd_val ha (by simpa [ht] using hi.1)) (fun ht => cnd_val hb (by simpa [ht] using hi.2))⟩
    · cases h
  · cases h

theorem okOpd_nil {x : Operand} {v : AV} (h : okOpd G x (.c v) = true) (hv : v.val = .ic0) : ∃ u, x = .const u := by
  cases x with
  | const u => exact ⟨u, rfl⟩
  | tmp n => simp [okOpd] at h
  | global g =>
    cases v <;> simp only [okOpd, Bool.false_eq_true] at h
    simp [AV.val] at hv
  | func f =>
    cases v <;> simp only [okOpd, Bool.false_eq_true] at h
    simp [AV.val] at hv

theorem builtin_rel {b : Builtin} {args : Array Operand} {ts : Array Nat} {ty : Nat} {consts : Array Bool} {a : AOp} {ρa : Opd → AV} {ρc : Operand → Value} {r : AV} {σ' : St} (hs : Sim G μ σ w) (hok : okBuiltin P G b args.toList ts.toList a = true)
    (hρ : RhoRel G μ w a.opds ρa ρc) (h : aOp P ρa a σ = some (r, σ')) : OpTo P G μ σ w (builtin b ts ty consts (args.map ρc)) r σ' := by
  unfold okBuiltin at hok
  split at hok
  · rename_i x t t' y ha ht
    obtain ⟨rfl⟩ : args = #[x] := Array.ext' ha
    obtain ⟨rfl⟩ : ts = #[t] := Array.ext' ht
    simp only [Bool.and_eq_true, beq_iff_eq] at hok
    obtain ⟨rfl, hx⟩ := hok
    simp only [aOp] at h
    rw [Option.map_eq_some_iff] at h
    obtain ⟨q, hq, h⟩ := h; cases h
    have e : (#[x] : Array Operand).map ρc = #[ρc x] := by simp
    rw [e]
    exact Gives.to hs (len_rel hq (hρ _ _ hx (by simp [AOp.opds])))
  · rename_i x t t' y ha ht
    obtain ⟨rfl⟩ : args = #[x] := Array.ext' ha
    obtain ⟨rfl⟩ : ts = #[t] := Array.ext' ht
    simp only [Bool.and_eq_true, beq_iff_eq] at hok
    obtain ⟨rfl, hx⟩ := hok
    simp only [aOp] at h
    rw [Option.map_eq_some_iff] at h
    obtain ⟨q, hq, h⟩ := h; cases h
    have e : (#[x] : Array Operand).map ρc = #[ρc x] := by simp
    rw [e]
    exact Gives.to hs (mln_rel hs hq (hρ _ _ hx (by simp [AOp.opds])))
  · rename_i m k t tr t' m' k' ha ht
    obtain ⟨rfl⟩ : args = #[m, k] := Array.ext' ha
    simp only [Bool.and_eq_true, beq_iff_eq] at hok
    obtain ⟨⟨rfl, hm⟩, hk⟩ := hok
    simp only [aOp] at h
    rw [Option.map_eq_some_iff] at h
    obtain ⟨q, hq, h⟩ := h; cases h
    have e : (#[m, k] : Array Operand).map ρc = #[ρc m, ρc k] := by simp
    rw [e]
    obtain ⟨w', h1, h2⟩ := del_rel (ty := ty) (ts := tr) hs hq (hρ _ _ hm (by simp [AOp.opds])) (hρ _ _ hk (by simp [AOp.opds]))
    have et : ts = (t :: tr).toArray := by apply Array.ext'; rw [ht]
    rw [et]
    exact (show Acts P G μ σ w (Builtin.delete_ (t :: tr).toArray ty #[ρc m, ρc k]) (.tu []) _ from ⟨_, w', μ, h1, ⟨#[], rfl, rfl⟩, h2⟩).to
  · rename_i x y t t2 t' st x' y' ha ht
    obtain ⟨rfl⟩ : args = #[x, y] := Array.ext' ha
    obtain ⟨rfl⟩ : ts = #[t, t2] := Array.ext' ht
    simp only [Bool.and_eq_true, Bool.or_eq_true, beq_iff_eq] at hok
    obtain ⟨⟨⟨rfl, ht2⟩, hx⟩, hy⟩ := hok
    simp only [aOp] at h
    have e : (#[x, y] : Array Operand).map ρc = #[ρc x, ρc y] := by simp
    rw [e]
    refine (app_rel hs h (hρ _ _ hx (by simp [AOp.opds])) (hρ _ _ hy (by simp [AOp.opds])) ?_).to
    rcases ht2 with rfl | ht2
    · exact .inl rfl
    · right
      split at ht2
      · assumption
      · cases ht2
  · rename_i x y t t2 t' x' y' ha ht
    obtain ⟨rfl⟩ : args = #[x, y] := Array.ext' ha
    obtain ⟨rfl⟩ : ts = #[t, t2] := Array.ext' ht
    simp only [Bool.and_eq_true, beq_iff_eq] at hok
    obtain ⟨⟨rfl, hx⟩, hy⟩ := hok
    simp only [aOp] at h
    have e : (#[x, y] : Array Operand).map ρc = #[ρc x, ρc y] := by simp
    rw [e]
    exact (copy_rel hs h (hρ _ _ hx (by simp [AOp.opds])) (hρ _ _ hy (by simp [AOp.opds]))).to
  · rename_i xs ys ha
    simp only [aOp] at h
    rw [Option.map_eq_some_iff] at h
    obtain ⟨q, hq, h⟩ := h; cases h
    have hr := opds_rel hρ hok (fun y hy => by simp [AOp.opds, hy])
    have hm := mn_rel (P := P) (ts := ts) (ty := ty) hq hr
    have he : (args.toList.map ρc).toArray = args.map ρc := by apply Array.ext'; simp
    rw [he] at hm
    exact Gives.to hs hm
  · rename_i xs ys ha
    simp only [aOp] at h
    rw [Option.map_eq_some_iff] at h
    obtain ⟨q, hq, h⟩ := h; cases h
    have hr := opds_rel hρ hok (fun y hy => by simp [AOp.opds, hy])
    have hm := mn_rel (P := P) (ts := ts) (ty := ty) hq hr
    have he : (args.toList.map ρc).toArray = args.map ρc := by apply Array.ext'; simp
    rw [he] at hm
    exact Gives.to hs hm
  · cases hok

theorem callop_rel {c : Call} {ty : Nat} {a : AOp} {ρa : Opd → AV} {ρc : Operand → Value} {r : AV} {σ' : St} (hs : Sim G μ σ w) (hok : okCall P G c a = true) (hna : (match a with | .call _ _ | .inv _ _ _ => false | _ => true) = true)
    (hρ : RhoRel G μ w a.opds ρa ρc) (h : aOp P ρa a σ = some (r, σ')) : OpTo P G μ σ w (do let d ← resolve ρc c ty; invoke d.target d.args) r σ' := by
  cases hb : c.callee with
  | value f => simp only [okCall, hb] at hok; cases a <;> simp at hok hna
  | invoke x m => simp only [okCall, hb] at hok; cases a <;> simp at hok hna
  | builtin b =>
    have hok' : okBuiltin P G b c.args.toList c.argTypes.toList a = true := by
      simp only [okCall, hb] at hok; exact hok
    have hm := builtin_rel (ty := ty) (consts := c.args.map fun | .const _ => true | _ => false) hs hok' hρ h
    have he : (do let d ← resolve ρc c ty; invoke d.target d.args : Sem Next).run P w = (builtin b c.argTypes ty (c.args.map fun | .const _ => true | _ => false) (c.args.map ρc)).run P w := by
      simp only [resolve, hb, invoke, Sem.run_bind, Sem.run_pure, Result.andThen_ok]
      rfl
    obtain ⟨n, w', μ', v, h1, h2, h3, h4⟩ := hm
    exact ⟨n, w', μ', v, he.trans h1, h2, h3, h4⟩

set_option maxHeartbeats 4000000 in
theorem op_rel {o : Oper} {a : AOp} {ρa : Opd → AV} {ρc : Operand → Value} {r : AV} {σ' : St} (hs : Sim G μ σ w) (hok : okOp P G o.op a = true) (hρ : RhoRel G μ w a.opds ρa ρc) (hn : NilConst ρa) (h : aOp P ρa a σ = some (r, σ')) :
    OpTo P G μ σ w (execOp ρc o) r σ' := by
  obtain ⟨dst, op, ty, pos, after, guard⟩ := o
  simp only at hok
  unfold execOp
  cases op <;> cases a <;> simp only [okOp, Bool.false_eq_true] at hok
  all_goals try simp only [Bool.and_eq_true, beq_iff_eq] at hok
  all_goals simp only [aOp] at h
  all_goals try (cases h; done)
  all_goals simp only []
  case move.mv x y => cases h; exact ⟨_, w, μ, _, rfl, .inl rfl, hρ _ _ hok (by simp [AOp.opds]), Step.refl hs⟩
  case assign.mv x y => cases h; exact ⟨_, w, μ, _, rfl, .inl rfl, hρ _ _ hok (by simp [AOp.opds]), Step.refl hs⟩
  case pick.pick c x y c' x' y' =>
    rw [Option.map_eq_some_iff] at h
    obtain ⟨q, hq, h⟩ := h; cases h
    obtain ⟨t, ht, hr⟩ := pick_rel hq (hρ _ _ hok.1.1 (by simp [AOp.opds])) (hρ _ _ hok.1.2 (by simp [AOp.opds])) (hρ _ _ hok.2 (by simp [AOp.opds]))
    exact ⟨_, w, μ, _, by simp [ht, asBool], .inl rfl, hr, Step.refl hs⟩
  case alloc.alloc t t' =>
    subst hok
    rw [Option.map_eq_some_iff] at h
    obtain ⟨T, hT, h⟩ := h; cases h
    exact (alloc_rel hs hT).to
  case box.box t x t' x' =>
    obtain ⟨rfl, hx⟩ := hok
    have hr := hρ _ _ hx (by simp [AOp.opds])
    split at h
    · cases h
    · cases h
    · cases h
    · rename_i h1 h2 h3
      cases h
      refine (box_rel hs hr ?_).to
      generalize ρa x' = z at *
      cases z <;> first | exact .inr ⟨_, rfl⟩ | exact .inl rfl | exact absurd rfl h1 | exact absurd rfl (h2 _) | exact absurd rfl (h3 _ _)
  case build.build t ps t' qs =>
    obtain ⟨rfl, hq⟩ := hok
    rw [Option.map_eq_some_iff] at h
    obtain ⟨q, hq', h⟩ := h; cases h
    refine Gives.to hs (build_rel hq' ?_)
    rw [Array.toList_map]
    exact parts_rel hρ hq (fun y hy => by simp only [AOp.opds, List.mem_map]; exact ⟨y, hy, rfl⟩)
  case buildSlice.bsl t n ps t' n' qs =>
    obtain ⟨⟨rfl, rfl⟩, hq⟩ := hok
    refine (bsl_rel hs h ?_).to
    rw [Array.toList_map]
    exact parts_rel hρ hq (fun y hy => by simp only [AOp.opds, List.mem_map]; exact ⟨y, hy, rfl⟩)
  case load.load t x t' x' =>
    obtain ⟨rfl, hx⟩ := hok
    rw [Option.map_eq_some_iff] at h
    obtain ⟨q, hq, h⟩ := h; cases h
    exact Gives.to hs (load_rel hs hq (hρ _ _ hx (by simp [AOp.opds])))
  case store.store t x y t' x' y' =>
    obtain ⟨⟨rfl, hx⟩, hy⟩ := hok
    rw [Option.map_eq_some_iff] at h
    obtain ⟨q, hq, h⟩ := h; cases h
    obtain ⟨w', h1, h2⟩ := store_rel hs hq (hρ _ _ hx (by simp [AOp.opds])) (hρ _ _ hy (by simp [AOp.opds]))
    exact ⟨.skip, w', μ, undef, by simp [h1], .inr ⟨rfl, rfl⟩, ⟨#[], rfl, rfl⟩, h2⟩
  case nilCheck.nilck x x' =>
    rw [Option.map_eq_some_iff] at h
    obtain ⟨q, hq, h⟩ := h; cases h
    obtain ⟨h1, h3⟩ := nil_rel hq (hρ _ _ hok (by simp [AOp.opds]))
    refine ⟨.value (ρc x), w, μ, ρc x, ?_, .inl rfl, h1, Step.refl hs⟩
    revert h3
    generalize ρc x = z
    intro h3
    cases z with
    | pointer p => cases p <;> first | rfl | simp [nilOk] at h3
    | func f a c => cases f <;> first | rfl | simp [nilOk] at h3
    | _ => first | rfl | simp [nilOk] at h3
  case binOp.bin op t x y yt op' t' x' y' =>
    obtain ⟨⟨⟨rfl, rfl⟩, hx⟩, hy⟩ := hok
    rw [Option.map_eq_some_iff] at h
    obtain ⟨q, hq, h⟩ := h; cases h
    refine Gives.to hs (bin_rel hq (hρ _ _ hx (by simp [AOp.opds])) (hρ _ _ hy (by simp [AOp.opds])) (fun hc hx0 hy0 => ?_))
    simp only [Bool.or_eq_true] at hc
    rcases hc with hc | hc
    · cases x' with
      | t n => simp [Opd.isC] at hc
      | c v => obtain ⟨u, rfl⟩ := okOpd_nil hx (hn v hx0); rfl
    · cases y' with
      | t n => simp [Opd.isC] at hc
      | c v => obtain ⟨u, rfl⟩ := okOpd_nil hy (hn v hy0); simp
  case unOp.un op t x op' x' =>
    obtain ⟨rfl, hx⟩ := hok
    rw [Option.map_eq_some_iff] at h
    obtain ⟨q, hq, h⟩ := h; cases h
    exact Gives.to hs (un_rel hq (hρ _ _ hx (by simp [AOp.opds])))
  case convert.conv s d x s' d' x' =>
    obtain ⟨⟨rfl, rfl⟩, hx⟩ := hok
    exact (conv_rel hs h (hρ _ _ hx (by simp [AOp.opds]))).to
  case makeInterface.mki t x t' x' =>
    obtain ⟨rfl, hx⟩ := hok
    have hr := hρ _ _ hx (by simp [AOp.opds])
    split at h
    · cases h
    · rename_i T hni hT
      cases h
      obtain ⟨i, d, z, h1, h2, h3, h4, _⟩ := ty_info hT
      refine Gives.to hs ⟨.iface t (ρc x), ?_, _, rfl, hr⟩
      unfold Instr.makeInterface
      cases d
      case interface ms =>
        exfalso
        simp only [adOf] at h4
        obtain ⟨d', _, _, _, _, _, _⟩ := T
        simp only at h4; subst h4
        exact hni _ _ _ _ _ _ _ rfl
      all_goals simp [run_und h2]
    · cases h
  case makeFunc.mkf f a c f' a' c' =>
    obtain ⟨⟨rfl, ha⟩, hc⟩ := hok
    cases h
    refine Gives.to hs ⟨.func f (a.map ρc) (c.map ρc), rfl, _, _, rfl, ?_, ?_⟩
    · rw [Array.toList_map]; exact opds_rel hρ ha (fun y hy => by simp [AOp.opds, hy])
    · rw [Array.toList_map]; exact opds_rel hρ hc (fun y hy => by simp [AOp.opds, hy])
  case makeSlice.mks t l c t' l' c' =>
    obtain ⟨⟨rfl, hl⟩, hc⟩ := hok
    exact (mks_rel hs h (hρ _ _ hl (by simp [AOp.opds])) (hρ _ _ hc (by simp [AOp.opds]))).to
  case slice.slc t x lo hi mx t' x' lo' hi' =>
    cases mx with
    | some m => simp [okOp] at hok
    | none =>
      simp only [okOp, Bool.and_eq_true, beq_iff_eq] at hok
      obtain ⟨⟨⟨rfl, hx⟩, hlo⟩, hhi⟩ := hok
      rw [Option.map_eq_some_iff] at h
      obtain ⟨q, hq, h⟩ := h; cases h
      exact Gives.to hs (slc_rel hs hq (hρ _ _ hx (by simp [AOp.opds])) (optd_rel hρ hlo (fun z hz => by simp [AOp.opds, hz])) (optd_rel hρ hhi (fun z hz => by simp [AOp.opds, hz])))
  case slice.sl3 t x lo hi mx t' x' lo' hi' mx' =>
    cases hi with
    | none => simp [okOp] at hok
    | some hi =>
      cases mx with
      | none => simp [okOp] at hok
      | some mx =>
        simp only [okOp, Bool.and_eq_true, beq_iff_eq] at hok
        obtain ⟨⟨⟨⟨rfl, hx⟩, hlo⟩, hhi⟩, hmx⟩ := hok
        rw [Option.map_eq_some_iff] at h
        obtain ⟨q, hq, h⟩ := h; cases h
        exact Gives.to hs (sl3_rel hs hq (hρ _ _ hx (by simp [AOp.opds])) (optd_rel hρ hlo (fun z hz => by simp [AOp.opds, hz])) (hρ _ _ hhi (by simp [AOp.opds])) (hρ _ _ hmx (by simp [AOp.opds])))
  case fieldAddr.fad t x f t' x' f' =>
    obtain ⟨⟨rfl, rfl⟩, hx⟩ := hok
    rw [Option.map_eq_some_iff] at h
    obtain ⟨q, hq, h⟩ := h; cases h
    exact Gives.to hs (fad_rel hq (hρ _ _ hx (by simp [AOp.opds])))
  case field.fld t x f t' x' f' =>
    obtain ⟨⟨rfl, rfl⟩, hx⟩ := hok
    rw [Option.map_eq_some_iff] at h
    obtain ⟨q, hq, h⟩ := h; cases h
    exact Gives.to hs (fld_rel hq (hρ _ _ hx (by simp [AOp.opds])))
  case indexAddr.iad t x i t' x' i' =>
    obtain ⟨⟨rfl, hx⟩, hi⟩ := hok
    rw [Option.map_eq_some_iff] at h
    obtain ⟨q, hq, h⟩ := h; cases h
    exact Gives.to hs (iad_rel hq (hρ _ _ hx (by simp [AOp.opds])) (hρ _ _ hi (by simp [AOp.opds])))
  case index.idx t x i t' x' i' =>
    obtain ⟨⟨rfl, hx⟩, hi⟩ := hok
    rw [Option.map_eq_some_iff] at h
    obtain ⟨q, hq, h⟩ := h; cases h
    exact Gives.to hs (idx_rel hq (hρ _ _ hx (by simp [AOp.opds])) (hρ _ _ hi (by simp [AOp.opds])))
  case range.rng t x t' x' =>
    obtain ⟨rfl, hx⟩ := hok
    exact (rng_rel hs h (hρ _ _ hx (by simp [AOp.opds]))).to
  case next.nxt x b x' =>
    cases b with
    | false => simp [okOp] at hok
    | true =>
      simp only [okOp] at hok
      exact (nxt_rel hs h (hρ _ _ hok (by simp [AOp.opds]))).to
  case typeAssert.tas x xt t ok x' xt' t' ok' =>
    obtain ⟨⟨⟨rfl, rfl⟩, rfl⟩, hx⟩ := hok
    rw [Option.map_eq_some_iff] at h
    obtain ⟨q, hq, h⟩ := h; cases h
    exact Gives.to hs (tas_rel hq (hρ _ _ hx (by simp [AOp.opds])))
  case extract.ext x i x' i' =>
    obtain ⟨rfl, hx⟩ := hok
    have hr := hρ _ _ hx (by simp [AOp.opds])
    split at h
    · rename_i vs hvs
      rw [Option.map_eq_some_iff] at h
      obtain ⟨q, hq, h⟩ := h; cases h
      rw [hvs] at hr
      obtain ⟨arr, harr, hrs⟩ := hr
      obtain ⟨u, hu, hur⟩ := hrs.get _ _ hq
      refine Gives.to hs ⟨u, ?_, hur⟩
      have hu' : arr[i]? = some u := by simpa using hu
      simp [Instr.extract, harr, hu']
    · cases h
  case makeMap.mkm t r t' r' =>
    obtain ⟨rfl, hr⟩ := hok
    exact (mkm_rel hs h (optd_rel hρ hr (fun z hz => by simp [AOp.opds, hz]))).to
  case lookup.lku t x k ok t' x' k' ok' =>
    obtain ⟨⟨⟨rfl, rfl⟩, hx⟩, hk⟩ := hok
    rw [Option.map_eq_some_iff] at h
    obtain ⟨q, hq, h⟩ := h; cases h
    exact Gives.to hs (lku_rel hs hq (hρ _ _ hx (by simp [AOp.opds])) (hρ _ _ hk (by simp [AOp.opds])))
  case mapUpdate.mup t m k v t' m' k' v' =>
    obtain ⟨⟨⟨rfl, hm⟩, hk⟩, hv⟩ := hok
    rw [Option.map_eq_some_iff] at h
    obtain ⟨q, hq, h⟩ := h; cases h
    obtain ⟨w', h1, h2⟩ := mup_rel hs hq (hρ _ _ hm (by simp [AOp.opds])) (hρ _ _ hk (by simp [AOp.opds])) (hρ _ _ hv (by simp [AOp.opds]))
    exact ⟨.skip, w', μ, undef, by simp [h1], .inr ⟨rfl, rfl⟩, ⟨#[], rfl, rfl⟩, h2⟩
  case insert.mup t m k v t' m' k' v' =>
    obtain ⟨⟨⟨rfl, hm⟩, hk⟩, hv⟩ := hok
    rw [Option.map_eq_some_iff] at h
    obtain ⟨q, hq, h⟩ := h; cases h
    obtain ⟨w', h1, h2⟩ := mup_rel hs hq (hρ _ _ hm (by simp [AOp.opds])) (hρ _ _ hk (by simp [AOp.opds])) (hρ _ _ hv (by simp [AOp.opds]))
    exact ⟨.skip, w', μ, undef, by simp [h1], .inr ⟨rfl, rfl⟩, ⟨#[], rfl, rfl⟩, h2⟩
  all_goals exact callop_rel hs hok rfl hρ (by simpa only [aOp] using h)
end
end Go.Abs
