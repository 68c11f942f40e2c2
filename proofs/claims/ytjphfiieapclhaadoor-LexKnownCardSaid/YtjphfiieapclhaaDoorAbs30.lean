/- The layer Abs, part 30: a second evaluator of functions, for closed runs: calls leave the store as it is; objects and cells lie in trees; everything is handed on, never given back, and forced on the way, so that the kernel works it out fast. Here: its parts. -/
import Derived.Test.YtjphfiieapclhaaDoorAbs19
namespace Go.Abs

/-! ### Functions without the tidying of the store -/
def bFn (X : Ctx) : Nat → Run
  | 0, _, _, _ => none
  | n + 1, f, args, σ =>
    match X.prim f with
    | some g => g args σ
    | none => match X.fns f with
      | some F =>
        if args.length ≤ F.nt then
          match aCode X (bFn X n) n F.code (argEnv 0 args) σ with
          | some (.normal, e, σ') | some (.ret, e, σ') => (aRes X.P F.res e σ').map fun v => (v, σ')
          | _ => none
        else none
      | none => none
theorem bFn_succ (X : Ctx) : ∀ n, (bFn X n).le (bFn X (n + 1))
  | 0 => fun _ _ _ _ hx => by simp [bFn] at hx
  | n + 1 => fun f args σ x hx => by
    rw [bFn] at hx ⊢
    cases hp : X.prim f with
    | some g => rw [hp] at hx; exact hx
    | none =>
      rw [hp] at hx
      simp only at hx ⊢
      cases hf : X.fns f with
      | none => rw [hf] at hx; simp at hx
      | some F =>
        rw [hf] at hx
        simp only at hx ⊢
        split at hx
        · rename_i hl
          rw [if_pos hl]
          cases hc : aCode X (bFn X n) n F.code (argEnv 0 args) σ with
          | none => rw [hc] at hx; simp at hx
          | some y => rw [hc] at hx; rw [aCode_le (bFn_succ X n) (Nat.le_succ n) hc]; exact hx
        · simp at hx
theorem bFn_le (X : Ctx) {n m : Nat} (h : n ≤ m) : (bFn X n).le (bFn X m) := by
  induction h with
  | refl => exact fun _ _ _ _ h => h
  | step _ ih => exact fun f args σ x hx => bFn_succ X _ _ _ _ _ (ih _ _ _ _ hx)
theorem b_ok {X : Ctx} {G : Nat} (hX : X.Sound G) : ∀ n, RunOk X.P G (bFn X n)
  | 0 => by intro f args σ r σ' h; cases h
  | n + 1 => by
    intro f args σ r σ' h
    simp only [bFn] at h
    split at h
    · rename_i g hg
      exact hX.ok.prim f g hg _ _ _ _ h
    · rename_i hp
      split at h
      · rename_i F hF
        have hok := hX.fns f F hp hF
        unfold okFn at hok
        split at hok
        · rename_i fn hfn
          simp only [Bool.and_eq_true, beq_iff_eq, Bool.not_eq_true'] at hok
          obtain ⟨⟨⟨hnt, hnm⟩, hres⟩, hbody⟩ := hok
          split at hbody
          · rename_i c hc
            intro μ w cargs hs hr
            refine .inl ⟨enters_mk hfn hnm (by rw [hc]; rfl) cargs w, ?_⟩
            split at h
            · rename_i hlen
              have hsz : cargs.size = args.length := by have := hr.length; simpa using this
              refine calls_of_wp hfn hc ?_
              rw [hnt]
              have hen := envRel_args (G := G) hr hlen
              have main : ∀ (o : Out) (e : Env) (σ1 : St), aCode X (bFn X n) n F.code (argEnv 0 args) σ = some (o, e, σ1) → o = .normal ∨ o = .ret → (aRes X.P F.res e σ1).map (fun v => (v, σ1)) = some (r, σ') →
                  c.wp X.P (bodyPost X.P fn (After G μ σ w r σ')) { tmps := cargs ++ Array.replicate (F.nt - cargs.size) undef, defers := [] } w := by
                intro o e σ1 hcode ho hmap
                refine code_rel hX.ok (b_ok hX n) hX.draws c F.code hbody _ { tmps := cargs ++ Array.replicate (F.nt - cargs.size) undef, defers := [] } μ σ w o e σ1 _ hs hen rfl hcode fun act' w' hl => ?_
                obtain ⟨μ1, hst, hen1, hd1⟩ := hl
                rw [Option.map_eq_some_iff] at hmap
                obtain ⟨v, hv, hnorm⟩ := hmap
                obtain ⟨u, hu1, hu2⟩ := results_rel (X := X) hst.sim hen1 hres hv
                have hafter : After G μ σ w r σ' (.returned u) w' := by
                  cases hnorm
                  exact ⟨u, μ1, rfl, hu2, hst⟩
                rcases ho with rfl | rfl
                · exact ⟨hd1, u, hu1, hafter⟩
                · exact ⟨hd1, u, hu1, hafter⟩
              split at h
              · rename_i e σ1 hcode; exact main _ _ _ hcode (.inl rfl) h
              · rename_i e σ1 hcode; exact main _ _ _ hcode (.inr rfl) h
              · cases h
            · cases h
          · cases hbody
        · cases hok
      · cases h

/-! ### Forcing -/
noncomputable def fN (n : Nat) (K : Nat → Bool) : Bool := Nat.rec (K (nat_lit 0)) (fun m _ => K (Nat.succ m)) n
theorem fN_eq (n : Nat) (K : Nat → Bool) : fN n K = K n := by cases n <;> rfl
noncomputable def fI (n : Int) (K : Int → Bool) : Bool := Int.rec (fun m => fN m fun m => K (.ofNat m)) (fun m => fN m fun m => K (.negSucc m)) n
theorem fI_eq (n : Int) (K : Int → Bool) : fI n K = K n := by cases n <;> simp only [fI, fN_eq]
noncomputable def fBo (b : Bool) (K : Bool → Bool) : Bool := Bool.rec (K false) (K true) b
theorem fBo_eq (b : Bool) (K : Bool → Bool) : fBo b K = K b := by cases b <;> rfl
/-- A list's spine. -/
noncomputable def fSp {α : Type} (l : List α) : (List α → Bool) → Bool := List.rec (fun K => K []) (fun a _ ih K => ih fun t => K (a :: t)) l
theorem fSp_eq {α : Type} (l : List α) (K : List α → Bool) : fSp l K = K l := by
  induction l generalizing K with
  | nil => rfl
  | cons a l ih => exact ih _
/-- The first link of a list. -/
noncomputable def fHd {α : Type} (l : List α) (K : List α → Bool) : Bool := List.rec (K []) (fun a t _ => K (a :: t)) l
theorem fHd_eq {α : Type} (l : List α) (K : List α → Bool) : fHd l K = K l := by cases l <;> rfl

abbrev KV := (AV → Bool) → Bool
abbrev KL := (List AV → Bool) → Bool
noncomputable def vU : KV := fun K => K .u
noncomputable def vB (x : Bool) : KV := fun K => Bool.rec (K (.b false)) (K (.b true)) x
noncomputable def vI (k : IntKind) (n : Int) : KV := fun K => fI n fun n => K (.i k n)
noncomputable def vS (x : List UInt8) : KV := fun K => fHd x fun x => K (.s x)
noncomputable def vP0 : KV := fun K => K .p0
noncomputable def vP (o g off : Nat) : KV := fun K => fN o fun o => fN g fun g => fN off fun off => K (.p o g off)
noncomputable def vSl0 : KV := fun K => K .sl0
noncomputable def vSl (o g off n z : Nat) : KV := fun K => fN o fun o => fN g fun g => fN off fun off => fN n fun n => fN z fun z => K (.sl o g off n z)
noncomputable def vFn (f : Fn) (a c : List AV) (ia ic : KL) : KV := fun K => ia fun a => ic fun c => K (.fn f a c)
noncomputable def vFn0 : KV := fun K => K .fn0
noncomputable def vIc (t : Nat) (v : AV) (iv : KV) : KV := fun K => fN t fun t => iv fun v => K (.ic t v)
noncomputable def vIc0 : KV := fun K => K .ic0
noncomputable def vAg (c : List AV) (ic : KL) : KV := fun K => ic fun c => K (.ag c)
noncomputable def vTu (c : List AV) (ic : KL) : KV := fun K => ic fun c => K (.tu c)
noncomputable def vMp0 : KV := fun K => K .mp0
noncomputable def vMp (o g : Nat) : KV := fun K => fN o fun o => fN g fun g => K (.mp o g)
noncomputable def vCd (c : Bool) (v : AV) (iv : KV) : KV := fun K => fBo c fun c => iv fun v => K (.cd c v)
noncomputable def vNil : KL := fun K => K []
noncomputable def vCons (a : AV) (l : List AV) (ia : KV) (il : KL) : KL := fun K => ia fun a => il fun l => K (a :: l)
noncomputable def fV : AV → KV := AV.rec (motive_1 := fun _ => KV) (motive_2 := fun _ => KL) vU vB vI vS vP0 vP vSl0 vSl vFn vFn0 vIc vIc0 vAg vTu vMp0 vMp vCd vNil vCons
noncomputable def fVs : List AV → KL := AV.rec_1 (motive_1 := fun _ => KV) (motive_2 := fun _ => KL) vU vB vI vS vP0 vP vSl0 vSl vFn vFn0 vIc vIc0 vAg vTu vMp0 vMp vCd vNil vCons
theorem fV_b (x : Bool) : fV (.b x) = vB x := rfl
theorem fV_i (k : IntKind) (n : Int) : fV (.i k n) = vI k n := rfl
theorem fV_s (x : List UInt8) : fV (.s x) = vS x := rfl
theorem fV_p (o g off : Nat) : fV (.p o g off) = vP o g off := rfl
theorem fV_sl (o g off n z : Nat) : fV (.sl o g off n z) = vSl o g off n z := rfl
theorem fV_fn (f : Fn) (a c : List AV) : fV (.fn f a c) = vFn f a c (fVs a) (fVs c) := rfl
theorem fV_ic (t : Nat) (v : AV) : fV (.ic t v) = vIc t v (fV v) := rfl
theorem fV_ag (c : List AV) : fV (.ag c) = vAg c (fVs c) := rfl
theorem fV_tu (c : List AV) : fV (.tu c) = vTu c (fVs c) := rfl
theorem fV_mp (o g : Nat) : fV (.mp o g) = vMp o g := rfl
theorem fV_cd (c : Bool) (v : AV) : fV (.cd c v) = vCd c v (fV v) := rfl
theorem fVs_cons (a : AV) (l : List AV) : fVs (a :: l) = vCons a l (fV a) (fVs l) := rfl
mutual
theorem fV_eq : ∀ (v : AV) (K : AV → Bool), fV v K = K v := by
  intro v K
  match v with
  | .u | .p0 | .sl0 | .fn0 | .ic0 | .mp0 => rfl
  | .b x => rw [fV_b]; cases x <;> rfl
  | .i k n => rw [fV_i, vI, fI_eq]
  | .s x => rw [fV_s, vS, fHd_eq]
  | .p o g off => rw [fV_p, vP, fN_eq, fN_eq, fN_eq]
  | .sl o g off n z => rw [fV_sl, vSl, fN_eq, fN_eq, fN_eq, fN_eq, fN_eq]
  | .mp o g => rw [fV_mp, vMp, fN_eq, fN_eq]
  | .fn f a c => rw [fV_fn, vFn, fVs_eq a, fVs_eq c]
  | .ic t v => rw [fV_ic, vIc, fN_eq, fV_eq v]
  | .ag c => rw [fV_ag, vAg, fVs_eq c]
  | .tu c => rw [fV_tu, vTu, fVs_eq c]
  | .cd c v => rw [fV_cd, vCd, fBo_eq, fV_eq v]
theorem fVs_eq : ∀ (l : List AV) (K : List AV → Bool), fVs l K = K l := by
  intro l K
  match l with
  | [] => rfl
  | a :: l => rw [fVs_cons, vCons, fV_eq a, fVs_eq l]
end

/-! ### Trees -/
inductive Tr (α : Type) where
  | lf
  | nd (v : Option α) (l r : Tr α)
section
variable {α : Type}
noncomputable def Tr.pick (v : Option α) (gl gr : Nat → Option α) (k : Nat) : Option α := Nat.rec (motive := fun _ => Option α) v (fun k _ => Bool.rec (motive := fun _ => Option α) (gr (Nat.div k (nat_lit 2))) (gl (Nat.div k (nat_lit 2))) (Nat.beq (Nat.mod k (nat_lit 2)) (nat_lit 0))) k
noncomputable def Tr.get : Tr α → Nat → Option α := Tr.rec (fun _ => none) (fun v _ _ gl gr => Tr.pick v gl gr)
abbrev TK (α : Type) := Tr α → Nat → α → (Tr α → Bool) → Bool
def Tr.kl (v : Option α) (r : Tr α) (K : Tr α → Bool) (l : Tr α) : Bool := K (.nd v l r)
def Tr.kr (v : Option α) (l : Tr α) (K : Tr α → Bool) (r : Tr α) : Bool := K (.nd v l r)
noncomputable def Tr.go (ih : TK α) (x : α) (K : Tr α → Bool) (v : Option α) (l r : Tr α) (k : Nat) : Bool :=
  Bool.rec (ih r (Nat.div k (nat_lit 2)) x (kr v l K)) (ih l (Nat.div k (nat_lit 2)) x (kl v r K)) (Nat.beq (Nat.mod k (nat_lit 2)) (nat_lit 0))
noncomputable def Tr.at' (ih : TK α) (k : Nat) (x : α) (K : Tr α → Bool) (v : Option α) (l r : Tr α) : Bool := Nat.rec (K (.nd (some x) l r)) (fun k _ => Tr.go ih x K v l r k) k
noncomputable def Tr.st (ih : TK α) (t : Tr α) (k : Nat) (x : α) (K : Tr α → Bool) : Bool := Tr.rec (at' ih k x K none .lf .lf) (fun v l r _ _ => at' ih k x K v l r) t
noncomputable def Tr.set' (n : Nat) : TK α := Nat.rec (fun _ _ _ _ => false) (fun _ ih => Tr.st ih) n
noncomputable def Tr.set : TK α := Tr.set' (nat_lit 60)
theorem Tr.get_lf (k : Nat) : (Tr.lf : Tr α).get k = none := rfl
theorem Tr.get_zero (v : Option α) (l r : Tr α) : (Tr.nd v l r).get 0 = v := rfl
theorem Tr.get_succ (v : Option α) (l r : Tr α) (k : Nat) : (Tr.nd v l r).get (k + 1) = if k % 2 = 0 then l.get (k / 2) else r.get (k / 2) := by
  show Bool.rec (motive := fun _ => Option α) (r.get (k / 2)) (l.get (k / 2)) (Nat.beq (k % 2) 0) = _
  cases h : Nat.beq (k % 2) 0 with
  | true => rw [if_pos (Nat.eq_of_beq_eq_true h)]
  | false => rw [if_neg (Nat.ne_of_beq_eq_false h)]
theorem Tr.set'_ok : ∀ (n : Nat) (t : Tr α) (k : Nat) (x : α) (K : Tr α → Bool), Tr.set' n t k x K = true → ∃ t', K t' = true ∧ ∀ j, t'.get j = if j = k then some x else t.get j
  | 0, _, _, _, _, h => by cases h
  | n + 1, t, k, x, K, h => by
    have main : ∀ (v : Option α) (l r : Tr α), (∀ j, (Tr.nd v l r).get j = t.get j) → Tr.at' (Tr.set' n) k x K v l r = true → ∃ t', K t' = true ∧ ∀ j, t'.get j = if j = k then some x else t.get j := by
      intro v l r hg h
      cases k with
      | zero =>
        refine ⟨_, h, fun j => ?_⟩
        cases j with
        | zero => rfl
        | succ j => rw [if_neg (by omega), ← hg, Tr.get_succ, Tr.get_succ]
      | succ k =>
        have h' : Bool.rec (Tr.set' n r (k / 2) x (Tr.kr v l K)) (Tr.set' n l (k / 2) x (Tr.kl v r K)) (Nat.beq (k % 2) 0) = true := h
        cases hb : Nat.beq (k % 2) 0 with
        | true =>
          rw [hb] at h'
          obtain ⟨t', h1, h2⟩ := Tr.set'_ok n _ _ _ _ h'
          have hk := Nat.eq_of_beq_eq_true hb
          refine ⟨_, h1, fun j => ?_⟩
          cases j with
          | zero => rw [if_neg (by omega), ← hg]; rfl
          | succ j =>
            rw [← hg, Tr.get_succ, Tr.get_succ, h2]
            by_cases hj : j % 2 = 0
            · rw [if_pos hj, if_pos hj]
              by_cases he : j = k
              · subst he; rw [if_pos rfl, if_pos rfl]
              · rw [if_neg (by omega), if_neg (by omega)]
            · rw [if_neg hj, if_neg hj, if_neg (by omega)]
        | false =>
          rw [hb] at h'
          obtain ⟨t', h1, h2⟩ := Tr.set'_ok n _ _ _ _ h'
          have hk := Nat.ne_of_beq_eq_false hb
          refine ⟨_, h1, fun j => ?_⟩
          cases j with
          | zero => rw [if_neg (by omega), ← hg]; rfl
          | succ j =>
            rw [← hg, Tr.get_succ, Tr.get_succ, h2]
            by_cases hj : j % 2 = 0
            · rw [if_pos hj, if_pos hj, if_neg (by omega)]
            · rw [if_neg hj, if_neg hj]
              by_cases he : j = k
              · subst he; rw [if_pos rfl, if_pos rfl]
              · rw [if_neg (by omega), if_neg (by omega)]
    cases t with
    | lf =>
      refine main none .lf .lf (fun j => ?_) h
      cases j with
      | zero => rfl
      | succ j => rw [Tr.get_succ]; simp [Tr.get_lf]
    | nd v l r => exact main v l r (fun _ => rfl) h
theorem Tr.set_ok {t : Tr α} {k : Nat} {x : α} {K : Tr α → Bool} (h : Tr.set t k x K = true) : ∃ t', K t' = true ∧ ∀ j, t'.get j = if j = k then some x else t.get j := Tr.set'_ok _ t k x K h
end

/-! ### Cells -/
/-- So many cells: those of the tree, else those of a list, again and again. -/
structure FA where
  n : Nat
  d : List AV
  t : Tr AV
noncomputable def nthD (d : List AV) : Nat → AV := List.rec (fun _ => .u) (fun a _ ih k => Nat.rec a (fun k _ => ih k) k) d
theorem nthD_eq : ∀ (d : List AV) (k : Nat) (a : AV), d[k]? = some a → nthD d k = a
  | [], k, a, h => by simp at h
  | x :: d, 0, a, h => by simp at h; exact h
  | x :: d, k + 1, a, h => nthD_eq d k a (by simpa using h)
noncomputable def FA.get (a : FA) (i : Nat) : AV := Option.rec (nthD a.d (Nat.mod i a.d.length)) (fun v => v) (a.t.get i)
def FA.Is (a : FA) (cs : List AV) : Prop := cs.length = a.n ∧ ∀ i, i < a.n → cs[i]? = some (a.get i)
def FA.of (l : List AV) : FA := ⟨l.length, l, .lf⟩
theorem FA.of_is (l : List AV) : (FA.of l).Is l := by
  refine ⟨rfl, fun i hi => ?_⟩
  have hi' : i < l.length := hi
  show l[i]? = some (nthD l (i % l.length))
  rw [Nat.mod_eq_of_lt hi', nthD_eq l i l[i] (List.getElem?_eq_getElem hi')]
  exact List.getElem?_eq_getElem hi'
theorem repl_at (z : List AV) (hz : 0 < z.length) : ∀ (n i : Nat), i < n * z.length → (repl z n)[i]? = z[i % z.length]?
  | 0, i, h => by simp at h
  | n + 1, i, h => by
    simp only [repl]
    by_cases hi : i < z.length
    · rw [List.getElem?_append_left hi, Nat.mod_eq_of_lt hi]
    · rw [List.getElem?_append_right (by omega), repl_at z hz n (i - z.length) (by rw [Nat.succ_mul] at h; omega)]
      congr 1
      conv => rhs; rw [show i = (i - z.length) + z.length by omega]
      rw [Nat.add_mod_right]
def FA.rep (z : List AV) (n : Nat) : FA := ⟨n * z.length, z, .lf⟩
theorem FA.rep_is (z : List AV) (n : Nat) : (FA.rep z n).Is (repl z n) := by
  refine ⟨repl_length z n, fun i hi => ?_⟩
  have hi' : i < n * z.length := hi
  have hz : 0 < z.length := by
    rcases Nat.eq_zero_or_pos z.length with h | h
    · rw [h] at hi'; omega
    · exact h
  have hm : i % z.length < z.length := Nat.mod_lt _ hz
  show _ = some (nthD z (i % z.length))
  rw [repl_at z hz n i hi', nthD_eq z _ z[i % z.length] (List.getElem?_eq_getElem hm)]
  exact List.getElem?_eq_getElem hm
/-- So many cells from a place on. -/
noncomputable def FA.rng (a : FA) (len : Nat) : Nat → List AV := Nat.rec (fun _ => []) (fun _ ih off => a.get off :: ih (Nat.succ off)) len
theorem FA.rng_eq {a : FA} {cs : List AV} (h : a.Is cs) : ∀ (len off : Nat), off + len ≤ a.n → a.rng len off = (cs.drop off).take len
  | 0, off, _ => by rw [List.take_zero]; rfl
  | len + 1, off, hl => by
    have e : a.rng (len + 1) off = a.get off :: a.rng len (off + 1) := rfl
    have hc := h.2 off (by omega)
    obtain ⟨hlt, hv⟩ := List.getElem?_eq_some_iff.1 hc
    rw [e, FA.rng_eq h len (off + 1) (by omega), ← List.getElem_cons_drop hlt, List.take_succ_cons, hv]
noncomputable def FA.put (a : FA) (i : Nat) (v : AV) (K : FA → Bool) : Bool := a.t.set i v fun t => K ⟨a.n, a.d, t⟩
theorem FA.put_ok {a : FA} {cs : List AV} (h : a.Is cs) {i : Nat} {v : AV} {K : FA → Bool} (hi : i < a.n) (hk : a.put i v K = true) : ∃ a', K a' = true ∧ a'.n = a.n ∧ a'.Is (cs.set i v) := by
  obtain ⟨t', h1, h2⟩ := Tr.set_ok hk
  refine ⟨_, h1, rfl, by rw [List.length_set]; exact h.1, fun j hj => ?_⟩
  have hg : ∀ j, FA.get ⟨a.n, a.d, t'⟩ j = if j = i then v else a.get j := by
    intro j
    simp only [FA.get, h2]
    by_cases hj : j = i
    · rw [if_pos hj, if_pos hj]
    · rw [if_neg hj, if_neg hj]
  rw [hg, List.getElem?_set]
  have := h.1
  by_cases hji : i = j
  · subst hji
    rw [if_pos rfl, if_pos rfl, if_pos (by omega)]
  · rw [if_neg hji, if_neg (fun e => hji e.symm)]
    exact h.2 j hj
noncomputable def FA.puts (ys : List AV) : FA → Nat → (FA → Bool) → Bool := List.rec (fun a _ K => K a) (fun y _ ih a off K => a.put off y fun a => ih a (Nat.succ off) K) ys
theorem FA.puts_ok : ∀ (ys : List AV) {a : FA} {cs : List AV} (_ : a.Is cs) {off : Nat} {K : FA → Bool} (_ : off + ys.length ≤ a.n) (_ : FA.puts ys a off K = true), ∃ a', K a' = true ∧ a'.n = a.n ∧ a'.Is (setCells cs off ys)
  | [], a, cs, h, off, K, _, hk => ⟨a, hk, rfl, h⟩
  | y :: ys, a, cs, h, off, K, hl, hk => by
    simp only [List.length_cons] at hl
    have hk' : a.put off y (fun a => FA.puts ys a (off + 1) K) = true := hk
    obtain ⟨a1, h1, h2, h3⟩ := FA.put_ok h (by omega) hk'
    obtain ⟨a2, q1, q2, q3⟩ := FA.puts_ok ys h3 (by omega) h1
    exact ⟨a2, q1, by omega, q3⟩
/-- The first cells, and others behind. -/
noncomputable def FA.app (a : FA) (m : Nat) (ys : List AV) (K : FA → Bool) : Bool := fN (Nat.add m ys.length) fun n => FA.puts ys ⟨n, a.d, a.t⟩ m K
theorem setCells_len : ∀ (ys cs : List AV) (off : Nat), (setCells cs off ys).length = cs.length
  | [], _, _ => rfl
  | y :: ys, cs, off => by simp only [setCells, setCells_len ys, List.length_set]
theorem setCells_back : ∀ (ys cs zs : List AV), zs.length = ys.length → setCells (cs ++ zs) cs.length ys = cs ++ ys
  | [], cs, zs, h => by
    have : zs = [] := List.eq_nil_of_length_eq_zero h
    subst this; rfl
  | y :: ys, cs, [], h => by simp at h
  | y :: ys, cs, z :: zs, h => by
    simp only [setCells]
    rw [List.set_append_right _ _ (Nat.le_refl _), Nat.sub_self, List.set_cons_zero]
    have := setCells_back ys (cs ++ [y]) zs (by simpa using h)
    simp only [List.append_assoc, List.singleton_append, List.length_append, List.length_singleton] at this
    exact this
theorem FA.app_ok {a : FA} {cs : List AV} (h : a.Is cs) {m : Nat} (hm : m ≤ a.n) {ys : List AV} {K : FA → Bool} (hk : a.app m ys K = true) : ∃ a', K a' = true ∧ a'.Is (cs.take m ++ ys) := by
  unfold FA.app at hk
  rw [fN_eq] at hk
  have hk' : FA.puts ys ⟨m + ys.length, a.d, a.t⟩ m K = true := hk
  have h0 : FA.Is ⟨m + ys.length, a.d, a.t⟩ (cs.take m ++ (List.range' m ys.length).map (FA.get ⟨m + ys.length, a.d, a.t⟩)) := by
    have hl := h.1
    refine ⟨by simp; omega, fun i hi => ?_⟩
    have hi' : i < m + ys.length := hi
    by_cases him : i < m
    · rw [List.getElem?_append_left (by simp; omega), List.getElem?_take, if_pos him]
      exact h.2 i (by omega)
    · rw [List.getElem?_append_right (by simp; omega)]
      have : i - (cs.take m).length = i - m := by simp; omega
      rw [this, List.getElem?_map, List.getElem?_range' (by omega)]
      simp only [Option.map_some, Nat.one_mul]
      rw [show m + (i - m) = i by omega]
  obtain ⟨a', h1, _, h3⟩ := FA.puts_ok ys h0 (Nat.le_refl _) hk'
  refine ⟨a', h1, ?_⟩
  have hl : (cs.take m).length = m := by have := h.1; simp; omega
  have e := setCells_back ys (cs.take m) ((List.range' m ys.length).map (FA.get ⟨m + ys.length, a.d, a.t⟩)) (by simp)
  rw [hl] at e
  rw [e] at h3
  exact h3

/-! ### Stores -/
inductive FK where
  | cells (e : Nat) (a : FA)
  | iter (s : List UInt8) (pos : Nat)
  | maps (es : List (AV × AV))
  | dead
structure FO where
  g : Nat
  ro : Bool
  k : FK
structure FS where
  n : Nat
  t : Tr FO
def FK.Is : FK → AK → Prop
  | .cells e a, .cells e' cs => e = e' ∧ a.Is cs
  | .iter s p, .iter s' p' => s = s' ∧ p = p'
  | .maps m, .maps m' => m = m'
  | .dead, .dead => True
  | _, _ => False
def FO.Is (f : FO) (a : AO) : Prop := f.g = a.g ∧ f.ro = a.ro ∧ f.k.Is a.k
def FS.Is (s : FS) (σ : St) : Prop := σ.length = s.n ∧ ∀ o f, s.t.get o = some f → ∃ a, σ[o]? = some a ∧ f.Is a
noncomputable def FS.new (s : FS) (f : FO) (K : FS → Bool) : Bool := s.t.set s.n f fun t => fN (Nat.succ s.n) fun n => K ⟨n, t⟩
theorem FS.new_ok {s : FS} {σ : St} (h : s.Is σ) {f : FO} {a : AO} (hf : f.Is a) {K : FS → Bool} (hk : s.new f K = true) : ∃ s', K s' = true ∧ s'.Is (σ ++ [a]) := by
  obtain ⟨t', h1, h2⟩ := Tr.set_ok hk
  rw [fN_eq] at h1
  have hl := h.1
  refine ⟨_, h1, by simp [hl], fun o f' ho => ?_⟩
  have ho' : t'.get o = some f' := ho
  rw [h2] at ho'
  by_cases he : o = s.n
  · rw [if_pos he] at ho'; cases ho'
    subst he
    exact ⟨a, by rw [← hl]; simp, hf⟩
  · rw [if_neg he] at ho'
    obtain ⟨a', q1, q2⟩ := h.2 o f' ho'
    have := (List.getElem?_eq_some_iff.1 q1).1
    exact ⟨a', by rw [List.getElem?_append_left this]; exact q1, q2⟩
noncomputable def FS.put (s : FS) (o : Nat) (f : FO) (K : FS → Bool) : Bool := s.t.set o f fun t => K ⟨s.n, t⟩
theorem FS.put_ok {s : FS} {σ : St} (h : s.Is σ) {o : Nat} (ho : o < σ.length) {f : FO} {a : AO} (hf : f.Is a) {K : FS → Bool} (hk : s.put o f K = true) : ∃ s', K s' = true ∧ s'.Is (σ.set o a) := by
  obtain ⟨t', h1, h2⟩ := Tr.set_ok hk
  have hl := h.1
  refine ⟨_, h1, by simp [hl], fun j f' hj => ?_⟩
  have hj' : t'.get j = some f' := hj
  rw [h2] at hj'
  rw [List.getElem?_set]
  by_cases he : j = o
  · rw [if_pos he] at hj'; cases hj'
    subst he
    exact ⟨a, by rw [if_pos rfl, if_pos ho], hf⟩
  · rw [if_neg he] at hj'
    rw [if_neg (fun e => he e.symm)]
    exact h.2 j f' hj'
/-- What an object's cells are, seen from the list. -/
theorem FS.cells_at {s : FS} {σ : St} (h : s.Is σ) {o g e : Nat} {ro : Bool} {a : FA} (ho : s.t.get o = some ⟨g, ro, .cells e a⟩) : ∃ cs, σ[o]? = some ⟨g, ro, .cells e cs⟩ ∧ a.Is cs := by
  obtain ⟨⟨g', ro', k'⟩, h1, h2, h3, h4⟩ := h.2 _ _ ho
  simp only at h2 h3 h4
  subst h2; subst h3
  cases k' with
  | cells e' cs => obtain ⟨rfl, h5⟩ := h4; exact ⟨cs, h1, h5⟩
  | iter _ _ => exact h4.elim
  | maps _ => exact h4.elim
  | dead => exact h4.elim
/-- A store, laid into trees. -/
noncomputable def FK.of : AK → FK
  | .cells e cs => .cells e (.of cs)
  | .iter s p => .iter s p
  | .maps m => .maps m
  | .dead => .dead
theorem FK.of_is (k : AK) : (FK.of k).Is k := by
  cases k with
  | cells e cs => exact ⟨rfl, FA.of_is cs⟩
  | iter _ _ => exact ⟨rfl, rfl⟩
  | maps _ => exact rfl
  | dead => trivial
noncomputable def FS.lay (σ : St) : FS → (FS → Bool) → Bool := List.rec (fun s K => K s) (fun a _ ih s K => s.new ⟨a.g, a.ro, FK.of a.k⟩ fun s => ih s K) σ
theorem FS.lay_ok : ∀ (σ : St) {s : FS} {σ0 : St} (_ : s.Is σ0) {K : FS → Bool} (_ : FS.lay σ s K = true), ∃ s', K s' = true ∧ s'.Is (σ0 ++ σ)
  | [], s, σ0, h, K, hk => ⟨s, hk, by simpa using h⟩
  | a :: σ, s, σ0, h, K, hk => by
    have hk' : s.new ⟨a.g, a.ro, FK.of a.k⟩ (fun s => FS.lay σ s K) = true := hk
    obtain ⟨s1, h1, h2⟩ := FS.new_ok h (a := a) ⟨rfl, rfl, FK.of_is a.k⟩ hk'
    obtain ⟨s2, q1, q2⟩ := FS.lay_ok σ h2 h1
    exact ⟨s2, q1, by simpa using q2⟩
def FS.nil : FS := ⟨0, .lf⟩
theorem FS.nil_is : FS.nil.Is [] := ⟨rfl, fun o f h => by cases h⟩
end Go.Abs
