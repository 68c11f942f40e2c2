/- Texts of this claim, joined: Abs53, Abs54, Abs55. -/
import Derived.Test.YtobmjhfgmhfocaaGreatDoorM14
set_option linter.unusedVariables false
set_option linter.unusedSimpArgs false
/- The layer Abs, part 53: the third evaluator: code, cut into blocks; functions. -/
namespace Go.Abs

/-- What is still to be done behind a piece of code. -/
inductive Fr where
  | sq (b : Nat) (c : AC)
  | bk (id : Nat)
  | lp (b : Nat) (l : List Nat) (c : AC)
/-- A block: the slots that it takes, its number's successor, its code, what is to be done behind it. -/
structure Nd where
  live : List Nat
  b : Nat
  c : AC
  fs : List Fr
/-- Is it a cut where ways meet? -/
noncomputable def isJ : List Nat → Bool := List.rec (motive := fun _ => Bool) false (fun d _ _ => Nat.beq d (nat_lit 1000000))
noncomputable def cnt : AC → Nat := AC.rec (motive := fun _ => Nat) 0 (fun _ => 0) (fun _ => 0) (fun _ _ a b => Nat.add a b) (fun _ _ _ a b => Nat.add a b) (fun _ _ a => a) (fun _ _ a => Nat.succ a) (fun l _ a => bC (isJ l) (Nat.succ a) a) (fun _ => 0) 0
def sizeC : AC → Nat
  | .seq a b => sizeC a + sizeC b + 1
  | .cond _ a b => sizeC a + sizeC b + 1
  | .blk _ c => sizeC c + 1
  | .loop _ c => sizeC c + 1
  | .cut _ c => sizeC c + 1
  | _ => 1
noncomputable def nodes : AC → Nat → List Fr → List Nd := AC.rec (motive := fun _ => Nat → List Fr → List Nd)
  (fun _ _ => []) (fun _ _ _ => []) (fun _ _ _ => [])
  (fun a c iha ihc b fs => iha b (.sq (Nat.add b (cnt a)) c :: fs) ++ ihc (Nat.add b (cnt a)) fs)
  (fun _ a _ iha ihc b fs => iha b fs ++ ihc (Nat.add b (cnt a)) fs)
  (fun id _ ih b fs => ih b (.bk id :: fs))
  (fun l c ih b fs => ⟨l, Nat.succ b, c, .lp b l c :: fs⟩ :: ih (Nat.succ b) (.lp b l c :: fs))
  (fun l c ih b fs => bC (isJ l) (⟨l, Nat.succ b, c, fs⟩ :: ih (Nat.succ b) fs) (ih b fs))
  (fun _ _ _ => []) (fun _ _ => [])
theorem nodes_seq (a c : AC) (b : Nat) (fs : List Fr) : nodes (.seq a c) b fs = nodes a b (.sq (b + cnt a) c :: fs) ++ nodes c (b + cnt a) fs := rfl
theorem nodes_cond (x : Opd) (a c : AC) (b : Nat) (fs : List Fr) : nodes (.cond x a c) b fs = nodes a b fs ++ nodes c (b + cnt a) fs := rfl
theorem nodes_blk (id : Nat) (c : AC) (b : Nat) (fs : List Fr) : nodes (.blk id c) b fs = nodes c b (.bk id :: fs) := rfl
theorem nodes_loop (l : List Nat) (c : AC) (b : Nat) (fs : List Fr) : nodes (.loop l c) b fs = ⟨l, b + 1, c, .lp b l c :: fs⟩ :: nodes c (b + 1) (.lp b l c :: fs) := rfl
theorem nodes_cut (l : List Nat) (c : AC) (b : Nat) (fs : List Fr) : nodes (.cut l c) b fs = bC (isJ l) (⟨l, b + 1, c, fs⟩ :: nodes c (b + 1) fs) (nodes c b fs) := rfl
theorem cnt_cut (l : List Nat) (c : AC) : cnt (.cut l c) = bC (isJ l) (cnt c + 1) (cnt c) := rfl
theorem nodes_len (c : AC) : ∀ (b : Nat) (fs : List Fr), (nodes c b fs).length = cnt c := by
  induction c with
  | skip => intro b fs; rfl
  | reg _ => intro b fs; rfl
  | drw _ => intro b fs; rfl
  | exit _ => intro b fs; rfl
  | ret => intro b fs; rfl
  | seq a c iha ihc => intro b fs; rw [nodes_seq, List.length_append, iha, ihc]; rfl
  | cond x a c iha ihc => intro b fs; rw [nodes_cond, List.length_append, iha, ihc]; rfl
  | blk id c ih => intro b fs; rw [nodes_blk, ih]; rfl
  | loop l c ih => intro b fs; rw [nodes_loop, List.length_cons, ih]; rfl
  | cut l c ih =>
    intro b fs
    rw [nodes_cut, cnt_cut]
    cases isJ l with
    | true => rw [bC_t, bC_t, List.length_cons, ih]
    | false => rw [bC_f, bC_f, ih]
abbrev KQ := Out → GEnv → GS → Bool
abbrev Go := Nat → List FV → GS → Bool
noncomputable def valsF (e : GEnv) : List Nat → List FV := List.rec (motive := fun _ => List FV) [] (fun d _ ih => gget e d :: ih)
noncomputable def zipF : List Nat → List FV → GEnv := List.rec (motive := fun _ => List FV → GEnv) (fun _ => []) (fun d _ ih vs => List.rec (motive := fun _ => GEnv) [] (fun v vs _ => (d, v) :: ih vs) vs)
noncomputable abbrev kSeq (A : GEnv → GS → KQ → Bool) (Q : KQ) : KQ := fun o e s => Out.rec (motive := fun _ => Bool) (A e s Q) (fun id => Q (.exit id) e s) (Q .ret e s) o
noncomputable abbrev kBlk (id : Nat) (Q : KQ) : KQ := fun o e s => Out.rec (motive := fun _ => Bool) (Q .normal e s) (fun j => bC (Nat.beq j id) (Q .normal e s) (Q (.exit j) e s)) (Q .ret e s) o
noncomputable abbrev kLp (go : Go) (b : Nat) (l : List Nat) (Q : KQ) : KQ := fun o e s => Out.rec (motive := fun _ => Bool) (go b (valsF e l) s) (fun id => Q (.exit id) e s) (Q .ret e s) o
section
variable (X : Ctx) (τ : Tys) (run : Rn) (go : Go)
noncomputable def gCode : AC → Nat → GEnv → GS → KQ → Bool := AC.rec (motive := fun _ => Nat → GEnv → GS → KQ → Bool)
  (fun _ e s Q => Q .normal e s)
  (fun ops _ e s Q => gOps X τ run ops e s fun e s => Q .normal e s)
  (fun ops _ e s Q => gDrw X τ run ops e s fun e s => Q .normal e s)
  (fun a _ iha ihc b e s Q => iha b e s (kSeq (ihc (Nat.add b (cnt a))) Q))
  (fun x a _ iha ihc b e s Q => bC (okC1 x) (dIf (fev e x) (iha b e s Q) (ihc (Nat.add b (cnt a)) e s Q)) false)
  (fun id _ ih b e s Q => ih b e s (kBlk id Q))
  (fun l _ _ b e s _ => go b (valsF e l) s)
  (fun l _ ih b e s Q => bC (isJ l) (go b (valsF e l) s) (ih b (zipF l (valsF e l)) s Q))
  (fun id _ e s Q => Q (.exit id) e s)
  (fun _ e s Q => Q .ret e s)
noncomputable def notCdF : FV → Bool := FV.rec (motive_1 := fun _ => Bool) (motive_2 := fun _ => PUnit) (fun _ _ => true) (fun _ _ _ => true) (fun _ _ _ _ _ => true) (fun _ _ => true) (fun t _ _ _ => bC (Nat.beq t (nat_lit 4)) false true) ⟨⟩ (fun _ _ _ _ => ⟨⟩)
/-- A function's results. -/
noncomputable abbrev gRes1 (e : GEnv) (s : GS) (r : AR) (K : KF) : Bool := AR.rec (motive := fun _ => Bool) (fun n => bC (notCdF (gget e n)) (K (gget e n)) false) (fun a t => match τ t with
  | some T => bC T.d.agg (dLoadA T.size (gget e a) s K) (dLoad1 (gget e a) s K)
  | none => false) r
noncomputable abbrev gResL (e : GEnv) (s : GS) : List AR → (List FV → Bool) → Bool := List.rec (motive := fun _ => (List FV → Bool) → Bool) (fun K => K []) (fun r _ ih K => gRes1 τ e s r fun v => ih fun l => K (v :: l))
noncomputable abbrev kRes (l : List FV) (s : GS) (K : KS) : Bool := match l with
  | [v] => K v s
  | l => K (.c (nat_lit 1) (nat_lit 0) l) s
noncomputable abbrev kFin (res : List AR) (K : KS) : KQ := fun o e s => Out.rec (motive := fun _ => Bool) (gResL τ e s res fun l => kRes l s K) (fun _ => false) (gResL τ e s res fun l => kRes l s K) o
noncomputable abbrev kFr (res : List AR) (K : KS) : List Fr → KQ := List.rec (motive := fun _ => KQ) (kFin τ res K) (fun f _ ih => Fr.rec (motive := fun _ => KQ) (fun b c => kSeq (gCode X τ run go c b) ih) (fun id => kBlk id ih) (fun b l _ => kLp go b l ih) f)
end

/-! ### What it comes to -/
def aK (X : Ctx) (n : Nat) : List Fr → Out → Env → St → Option (Out × Env × St)
  | [], q, e, σ => some (q, e, σ)
  | .sq _ c :: fs, q, e, σ => match q with
    | .normal => (aCode X (bFn X n) n c e σ).bind fun r => aK X n fs r.1 r.2.1 r.2.2
    | q => aK X n fs q e σ
  | .bk id :: fs, q, e, σ => match q with
    | .exit j => aK X n fs (if j = id then .normal else .exit j) e σ
    | q => aK X n fs q e σ
  | .lp _ l c :: fs, q, e, σ => match q with
    | .normal => (aLoop l (aCode X (bFn X n) n c) n e σ).bind fun r => aK X n fs r.1 r.2.1 r.2.2
    | q => aK X n fs q e σ
def aCK (X : Ctx) (n : Nat) (c : AC) (fs : List Fr) (e : Env) (σ : St) : Option (Out × Env × St) := (aCode X (bFn X n) n c e σ).bind fun r => aK X n fs r.1 r.2.1 r.2.2
def FinOk (X : Ctx) (res : List AR) (K : KS) (o : Option (Out × Env × St)) : Prop := ∃ q e' σ' v s', o = some (q, e', σ') ∧ (q = .normal ∨ q = .ret) ∧ aRes X.P res e' σ' = some (FV.av v) ∧ GS.Is s' σ' ∧ K v s' = true
section
variable {X : Ctx}
theorem code_le {n m : Nat} (h : n ≤ m) {c : AC} {e : Env} {σ : St} {x} (hx : aCode X (bFn X n) n c e σ = some x) : aCode X (bFn X m) m c e σ = some x := aCode_le (bFn_le X h) h hx
theorem loop_le {n m : Nat} (h : n ≤ m) {l : List Nat} {c : AC} {e : Env} {σ : St} {x} (hx : aLoop l (aCode X (bFn X n) n c) n e σ = some x) : aLoop l (aCode X (bFn X m) m c) m e σ = some x :=
  aLoop_le (fun _ _ _ hx => code_le h hx) h hx
theorem aK_le {n m : Nat} (h : n ≤ m) : ∀ (fs : List Fr) {q : Out} {e : Env} {σ : St} {x} (_ : aK X n fs q e σ = some x), aK X m fs q e σ = some x
  | [], _, _, _, _, hx => hx
  | .sq b c :: fs, q, e, σ, x, hx => by
    cases q with
    | normal =>
      simp only [aK, Option.bind_eq_some_iff] at hx ⊢
      obtain ⟨r, h1, h2⟩ := hx
      exact ⟨r, code_le h h1, aK_le h fs h2⟩
    | exit j => exact aK_le (q := .exit j) h fs hx
    | ret => exact aK_le (q := .ret) h fs hx
  | .bk id :: fs, q, e, σ, x, hx => by
    cases q with
    | normal => exact aK_le (q := .normal) h fs hx
    | exit j => exact aK_le (q := if j = id then .normal else .exit j) h fs hx
    | ret => exact aK_le (q := .ret) h fs hx
  | .lp b l c :: fs, q, e, σ, x, hx => by
    cases q with
    | normal =>
      simp only [aK, Option.bind_eq_some_iff] at hx ⊢
      obtain ⟨r, h1, h2⟩ := hx
      exact ⟨r, loop_le h h1, aK_le h fs h2⟩
    | exit j => exact aK_le (q := .exit j) h fs hx
    | ret => exact aK_le (q := .ret) h fs hx
end
def frSize : List Fr → Nat
  | [] => 0
  | .sq _ c :: fs => sizeC c + frSize fs
  | _ :: fs => frSize fs
theorem sizeC_pos (c : AC) : 0 < sizeC c := by cases c <;> simp [sizeC]
section
variable {X : Ctx} {τ : Tys} (hτ : τ.Ok X.P) {run : Rn} (hr : run.Ok X) {go : Go} {res : List AR} {K : KS} {N : List Nd}
/-- The blocks are what they are to be. -/
def GoOk (X : Ctx) (go : Go) (res : List AR) (K : KS) (N : List Nd) : Prop := ∀ i nd, N[i]? = some nd → ∀ (vs : List FV) (s : GS) (σ : St), s.Is σ → go i vs s = true → ∃ n, FinOk X res K (aCK X n nd.c nd.fs (envA (zipF nd.live vs)) σ)
def NAt (N : List Nd) (c : AC) (b : Nat) (fs : List Fr) : Prop := ∀ i nd, (nodes c b fs)[i]? = some nd → N[b + i]? = some nd
def FrAt (N : List Nd) : List Fr → Prop
  | [] => True
  | .sq b c :: fs => NAt N c b fs ∧ FrAt N fs
  | .bk _ :: fs => FrAt N fs
  | .lp b l c :: fs => N[b]? = some ⟨l, b + 1, c, .lp b l c :: fs⟩ ∧ FrAt N fs
theorem zip_vals (e : GEnv) : ∀ l : List Nat, envA (zipF l (valsF e l)) = clear l (envA e)
  | [] => rfl
  | d :: l => by
    show (d, (gget e d).av) :: envA (zipF l (valsF e l)) = _
    rw [zip_vals e l, gget_av]; rfl
theorem NAt.seq {a c : AC} {b : Nat} {fs : List Fr} (h : NAt N (.seq a c) b fs) : NAt N a b (.sq (b + cnt a) c :: fs) ∧ NAt N c (b + cnt a) fs := by
  refine ⟨fun i nd hi => h i nd ?_, fun i nd hi => ?_⟩
  · rw [nodes_seq]
    rw [List.getElem?_append_left (List.getElem?_eq_some_iff.1 hi).1]; exact hi
  · have := h (cnt a + i) nd (by
      rw [nodes_seq]
      rw [List.getElem?_append_right (by rw [nodes_len]; omega), nodes_len, show cnt a + i - cnt a = i by omega]; exact hi)
    rw [show b + cnt a + i = b + (cnt a + i) by omega]; exact this
theorem NAt.cond {x : Opd} {a c : AC} {b : Nat} {fs : List Fr} (h : NAt N (.cond x a c) b fs) : NAt N a b fs ∧ NAt N c (b + cnt a) fs := by
  refine ⟨fun i nd hi => h i nd ?_, fun i nd hi => ?_⟩
  · rw [nodes_cond]
    rw [List.getElem?_append_left (List.getElem?_eq_some_iff.1 hi).1]; exact hi
  · have := h (cnt a + i) nd (by
      rw [nodes_cond]
      rw [List.getElem?_append_right (by rw [nodes_len]; omega), nodes_len, show cnt a + i - cnt a = i by omega]; exact hi)
    rw [show b + cnt a + i = b + (cnt a + i) by omega]; exact this
theorem loop_step {n : Nat} {b : Nat} {l : List Nat} {c : AC} {fs : List Fr} {e : Env} {σ : St} {x} (h : aCK X n c (.lp b l c :: fs) (clear l e) σ = some x) : (aLoop l (aCode X (bFn X (n + 1)) (n + 1) c) (n + 1) e σ).bind (fun r => aK X (n + 1) fs r.1 r.2.1 r.2.2) = some x := by
  unfold aCK at h
  rw [Option.bind_eq_some_iff] at h
  obtain ⟨⟨q, e1, σ1⟩, h1, h2⟩ := h
  have h1' := code_le (Nat.le_succ n) h1
  rw [Option.bind_eq_some_iff]
  cases q with
  | normal =>
    simp only [aK, Option.bind_eq_some_iff] at h2
    obtain ⟨r, h3, h4⟩ := h2
    refine ⟨r, ?_, aK_le (Nat.le_succ n) fs h4⟩
    simp only [aLoop, h1']
    exact aLoop_le (fun _ _ _ hx => code_le (Nat.le_succ n) hx) (Nat.le_refl n) h3
  | exit j =>
    refine ⟨(.exit j, e1, σ1), ?_, aK_le (Nat.le_succ n) fs h2⟩
    simp only [aLoop, h1']
  | ret =>
    refine ⟨(.ret, e1, σ1), ?_, aK_le (Nat.le_succ n) fs h2⟩
    simp only [aLoop, h1']
end
end Go.Abs
/- The layer Abs, part 54: the third evaluator: what code, functions and closed runs come to. -/
namespace Go.Abs

section
variable {X : Ctx} {τ : Tys} (hτ : τ.Ok X.P) {run : Rn} (hr : run.Ok X) {go : Go} {res : List AR} {K : KS} {N : List Nd} (hgo : GoOk X go res K N)
include hτ
theorem gRes1_ok {e : GEnv} {s : GS} {σ : St} (h : s.Is σ) {r : AR} {K : KF} (hk : gRes1 τ e s r K = true) : ∃ v : FV, aRes1 X.P (envA e) σ r = some v.av ∧ K v = true := by
  cases r with
  | t n =>
    obtain ⟨h1, h2⟩ := bC_and hk
    refine ⟨_, ?_, h2⟩
    simp only [aRes1]
    rw [← gget_av]
    have hn : ∀ x : FV, notCdF x = true → ∀ c v, x.av ≠ .cd c v := by
      intro x hx c v
      cases x with
      | n t x =>
        rw [FV.av_n]
        rcases scal_cases t x with ⟨k, _, e⟩ | ⟨_, e⟩ | ⟨_, e⟩ | ⟨_, e⟩ | ⟨_, e⟩ | ⟨_, e⟩ | ⟨_, e⟩ | e <;> (rw [e]; intro h; cases h)
      | c t a l =>
        have q1 : t ≠ 4 := fun e => by subst e; exact Bool.noConfusion (show false = true from hx)
        rw [FV.av_c]
        rcases comp_cases t a (FV.avs l) with ⟨e, q⟩ | ⟨e, q⟩ | ⟨e, q⟩ | ⟨e, q⟩ | ⟨e, q⟩ | ⟨e, q⟩ | ⟨e, q⟩
        all_goals first | (exact (q1 e).elim) | (rw [q]; intro h; cases h)
      | _ => intro h; cases h
    split
    · rename_i c v hc; exact (hn _ h1 _ _ hc).elim
    · rfl
  | cell a t =>
    have hk' : (match τ t with
      | some T => bC T.d.agg (dLoadA T.size (gget e a) s K) (dLoad1 (gget e a) s K)
      | none => false) = true := hk
    split at hk'
    · rename_i T hT
      simp only [aRes1]
      rw [← gget_av, hτ _ _ hT]
      cases ha : T.d.agg with
      | true => rw [ha, bC_t] at hk'; exact dLoadA_ok h ha hk'
      | false => rw [ha, bC_f] at hk'; exact dLoad1_ok h ha hk'
    · cases hk'
theorem gResL_ok {e : GEnv} {s : GS} {σ : St} (h : s.Is σ) : ∀ (rs : List AR) {K : List FV → Bool} (_ : gResL τ e s rs K = true), ∃ l, aResL X.P (envA e) σ rs = some (l.map FV.av) ∧ K l = true
  | [], K, hk => ⟨[], rfl, hk⟩
  | r :: rs, K, hk => by
    obtain ⟨v, h1, h2⟩ := gRes1_ok hτ h (K := fun v => gResL τ e s rs fun l => K (v :: l)) hk
    obtain ⟨l, h3, h4⟩ := gResL_ok h rs h2
    exact ⟨_, by simp only [aResL, h1, h3, List.map_cons], h4⟩
theorem kRes_ok {e : GEnv} {s : GS} {σ : St} (h : s.Is σ) {K : KS} (hk : gResL τ e s res (fun l => kRes l s K) = true) : ∃ v : FV, aRes X.P res (envA e) σ = some v.av ∧ K v s = true := by
  obtain ⟨l, h1, h2⟩ := gResL_ok hτ h res hk
  unfold aRes
  rw [h1]
  unfold kRes at h2
  split at h2
  · exact ⟨_, rfl, h2⟩
  · rename_i hn
    refine ⟨_, ?_, h2⟩
    rw [av_tu]
    cases l with
    | nil => rfl
    | cons a l => cases l with
      | nil => exact (hn a rfl).elim
      | cons b l => rfl
include hr hgo
theorem gCode_main : ∀ (m : Nat) (c : AC) (b : Nat) (fs : List Fr) (e : GEnv) (s : GS) (σ : St), sizeC c + frSize fs ≤ m → NAt N c b fs → FrAt N fs → s.Is σ → gCode X τ run go c b e s (kFr X τ run go res K fs) = true → ∃ n, FinOk X res K (aCK X n c fs (envA e) σ)
  | 0, c, _, _, _, _, _, hm, _, _, _, _ => by have := sizeC_pos c; omega
  | m + 1, c, b, fs, e, s, σ, hm, hat, hfr, h, hk => by
    have leaf : ∀ (fs : List Fr) (o : Out) (e : GEnv) (s : GS) (σ : St), frSize fs ≤ m → FrAt N fs → s.Is σ → kFr X τ run go res K fs o e s = true → ∃ n, FinOk X res K (aK X n fs o (envA e) σ) := by
      intro fs
      induction fs with
      | nil =>
        intro o e s σ _ _ h hk
        cases o with
        | exit j => cases hk
        | normal =>
          obtain ⟨v, h1, h2⟩ := kRes_ok hτ h hk
          exact ⟨0, _, _, _, v, s, rfl, .inl rfl, h1, h, h2⟩
        | ret =>
          obtain ⟨v, h1, h2⟩ := kRes_ok hτ h hk
          exact ⟨0, _, _, _, v, s, rfl, .inr rfl, h1, h, h2⟩
      | cons f fs ih =>
        intro o e s σ hs hf h hk
        cases f with
        | sq b c =>
          cases o with
          | normal => exact gCode_main m c b fs e s σ hs hf.1 hf.2 h hk
          | exit j => exact ih (.exit j) e s σ (by simp only [frSize] at hs; omega) hf.2 h hk
          | ret => exact ih .ret e s σ (by simp only [frSize] at hs; omega) hf.2 h hk
        | bk id =>
          cases o with
          | normal => exact ih .normal e s σ hs hf h hk
          | ret => exact ih .ret e s σ hs hf h hk
          | exit j =>
            have hk' : bC (Nat.beq j id) (kFr X τ run go res K fs .normal e s) (kFr X τ run go res K fs (.exit j) e s) = true := hk
            cases hj : Nat.beq j id with
            | true =>
              rw [hj, bC_t] at hk'
              obtain ⟨n, hn⟩ := ih .normal e s σ hs hf h hk'
              exact ⟨n, by simp only [aK]; rw [if_pos (Nat.eq_of_beq_eq_true hj)]; exact hn⟩
            | false =>
              rw [hj, bC_f] at hk'
              obtain ⟨n, hn⟩ := ih (.exit j) e s σ hs hf h hk'
              exact ⟨n, by simp only [aK]; rw [if_neg (Nat.ne_of_beq_eq_false hj)]; exact hn⟩
        | lp b l c =>
          cases o with
          | exit j => exact ih (.exit j) e s σ hs hf.2 h hk
          | ret => exact ih .ret e s σ hs hf.2 h hk
          | normal =>
            have hk' : go b (valsF e l) s = true := hk
            obtain ⟨n, q, e', σ', v, s', q1, q2⟩ := hgo b _ hf.1 _ _ _ h hk'
            rw [zip_vals] at q1
            exact ⟨n + 1, q, e', σ', v, s', loop_step q1, q2⟩
    cases c with
    | skip =>
      obtain ⟨n, hn⟩ := leaf fs .normal e s σ (by simp only [sizeC] at hm; omega) hfr h hk
      exact ⟨n, hn⟩
    | exit j =>
      obtain ⟨n, hn⟩ := leaf fs (.exit j) e s σ (by simp only [sizeC] at hm; omega) hfr h hk
      exact ⟨n, hn⟩
    | ret =>
      obtain ⟨n, hn⟩ := leaf fs .ret e s σ (by simp only [sizeC] at hm; omega) hfr h hk
      exact ⟨n, hn⟩
    | reg ops =>
      obtain ⟨n1, e', σ', s', h1, h2, h3⟩ := gOps_ok hτ hr h (K := fun e s => kFr X τ run go res K fs .normal e s) hk
      obtain ⟨n2, q, e2, σ2, v, s2, q1, q2⟩ := leaf fs .normal e' s' σ' (by simp only [sizeC] at hm; omega) hfr h2 h3
      refine ⟨max n1 n2, q, e2, σ2, v, s2, ?_, q2⟩
      simp only [aCK, aCode, aOps_le (bFn_le X (Nat.le_max_left n1 n2)) h1, Option.map_some, Option.bind_some]
      exact aK_le (Nat.le_max_right n1 n2) fs q1
    | drw ops =>
      obtain ⟨n1, e', σ', s', h1, h2, h3⟩ := gDrw_ok hτ hr h (K := fun e s => kFr X τ run go res K fs .normal e s) hk
      obtain ⟨n2, q, e2, σ2, v, s2, q1, q2⟩ := leaf fs .normal e' s' σ' (by simp only [sizeC] at hm; omega) hfr h2 h3
      refine ⟨max n1 n2, q, e2, σ2, v, s2, ?_, q2⟩
      simp only [aCK, aCode, aDrw_le (bFn_le X (Nat.le_max_left n1 n2)) h1, Option.map_some, Option.bind_some]
      exact aK_le (Nat.le_max_right n1 n2) fs q1
    | seq a c =>
      obtain ⟨ha1, ha2⟩ := hat.seq
      obtain ⟨n, hn⟩ := gCode_main m a b (.sq (b + cnt a) c :: fs) e s σ (by simp only [sizeC, frSize] at hm ⊢; omega) ha1 ⟨ha2, hfr⟩ h hk
      refine ⟨n, ?_⟩
      have e1 : aCK X n (.seq a c) fs (envA e) σ = aCK X n a (.sq (b + cnt a) c :: fs) (envA e) σ := by
        simp only [aCK, aCode]
        cases aCode X (bFn X n) n a (envA e) σ with
        | none => rfl
        | some r =>
          obtain ⟨q, e', σ'⟩ := r
          cases q <;> rfl
      rw [e1]; exact hn
    | cond x a c =>
      obtain ⟨ha1, ha2⟩ := hat.cond
      obtain ⟨h0, hk2⟩ := bC_and hk
      rcases dIf_ok hk2 with ⟨h1, h2⟩ | ⟨h1, h2⟩
      · rw [fev_av h0] at h1
        obtain ⟨n, hn⟩ := gCode_main m a b fs e s σ (by simp only [sizeC] at hm; omega) ha1 hfr h h2
        exact ⟨n, by simp only [aCK, aCode, h1]; exact hn⟩
      · rw [fev_av h0] at h1
        obtain ⟨n, hn⟩ := gCode_main m c (b + cnt a) fs e s σ (by simp only [sizeC] at hm; omega) ha2 hfr h h2
        exact ⟨n, by simp only [aCK, aCode, h1]; exact hn⟩
    | blk id c =>
      obtain ⟨n, hn⟩ := gCode_main m c b (.bk id :: fs) e s σ (by simp only [sizeC, frSize] at hm ⊢; omega) hat hfr h hk
      refine ⟨n, ?_⟩
      have e1 : aCK X n (.blk id c) fs (envA e) σ = aCK X n c (.bk id :: fs) (envA e) σ := by
        simp only [aCK, aCode]
        cases aCode X (bFn X n) n c (envA e) σ with
        | none => rfl
        | some r =>
          obtain ⟨q, e', σ'⟩ := r
          cases q <;> rfl
      rw [e1]; exact hn
    | loop l c =>
      have hk' : go b (valsF e l) s = true := hk
      have hnd := hat 0 ⟨l, b + 1, c, .lp b l c :: fs⟩ rfl
      obtain ⟨n, q, e', σ', v, s', q1, q2⟩ := hgo _ _ hnd _ _ _ h hk'
      rw [zip_vals] at q1
      exact ⟨n + 1, q, e', σ', v, s', loop_step q1, q2⟩
    | cut l c =>
      have hk' : bC (isJ l) (go b (valsF e l) s) (gCode X τ run go c b (zipF l (valsF e l)) s (kFr X τ run go res K fs)) = true := hk
      cases hj : isJ l with
      | true =>
        rw [hj, bC_t] at hk'
        have hnd := hat 0 ⟨l, b + 1, c, fs⟩ (by rw [nodes_cut, hj]; rfl)
        obtain ⟨n, q, e', σ', v, s', q1, q2⟩ := hgo _ _ hnd _ _ _ h hk'
        rw [zip_vals] at q1
        exact ⟨n, q, e', σ', v, s', q1, q2⟩
      | false =>
        rw [hj, bC_f] at hk'
        have hat' : NAt N c b fs := fun i nd hi => hat i nd (by rw [nodes_cut, hj]; exact hi)
        obtain ⟨n, hn⟩ := gCode_main m c b fs (zipF l (valsF e l)) s σ (by simp only [sizeC] at hm; omega) hat' hfr h hk'
        rw [zip_vals] at hn
        exact ⟨n, hn⟩
end

/-! ### Blocks, and functions of blocks -/
abbrev BF := Rn → Go → KS → List FV → GS → Bool
/-- A block, by the evaluator itself. -/
noncomputable def gNode (X : Ctx) (τ : Tys) (res : List AR) (nd : Nd) : BF := fun run go K vs s => gCode X τ run go nd.c nd.b (zipF nd.live vs) s (kFr X τ run go res K nd.fs)
noncomputable def gBlock (X : Ctx) (τ : Tys) (F : AF) (i : Nat) : BF := fun run go K vs s => match (nodes F.code 0 [])[i]? with
  | some nd => gNode X τ F.res nd run go K vs s
  | none => false
def BF.Ok (X : Ctx) (τ : Tys) (F : AF) (i : Nat) (bf : BF) : Prop := ∀ run go K vs s, bf run go K vs s = true → gBlock X τ F i run go K vs s = true
noncomputable def goN (D : Nat → BF) (run : Rn) (K : KS) (fuel : Nat) : Go := Nat.rec (motive := fun _ => Go) (fun _ _ _ => false) (fun _ go i vs s => D i run go K vs s) fuel
noncomputable def argE : Nat → List FV → GEnv → GEnv := fun n l e => List.rec (motive := fun _ => Nat → GEnv) (fun _ => e) (fun a _ ih n => (n, a) :: ih (Nat.succ n)) l n
theorem argE_av : ∀ (l : List FV) (n : Nat), envA (argE n l []) = argEnv n (l.map FV.av)
  | [], _ => rfl
  | a :: l, n => by
    show (n, a.av) :: envA (argE (n + 1) l []) = _
    rw [argE_av l]; rfl
/-- A function: how many blocks it may go through, what it is handed. -/
abbrev FE := Rn → List FV → GS → KS → Bool
noncomputable def gEntry (X : Ctx) (τ : Tys) (F : AF) : Rn → Go → List FV → GS → KS → Bool := fun run go args s K => gCode X τ run go F.code 0 (argE 0 args []) s (kFr X τ run go F.res K [])
noncomputable def feOf (X : Ctx) (τ : Tys) (F : AF) (D : Nat → BF) (E : Rn → Go → List FV → GS → KS → Bool) (fuel : Nat) : FE := fun run args s K => bC (Nat.ble args.length F.nt) (E run (goN D run K fuel) args s K) false
def FE.Ok (X : Ctx) (f : Nat) (fe : FE) : Prop := ∀ (run : Rn), run.Ok X → ∀ (args : List FV) (s : GS) (σ : St) (K : KS), s.Is σ → fe run args s K = true → ∃ n, ToG (bFn X n f (args.map FV.av) σ) K
section
variable {X : Ctx} {τ : Tys} (hτ : τ.Ok X.P)
include hτ
theorem goN_ok {F : AF} {D : Nat → BF} (hD : ∀ i, (D i).Ok X τ F i) {run : Rn} (hr : run.Ok X) {K : KS} : ∀ fuel, GoOk X (goN D run K fuel) F.res K (nodes F.code 0 [])
  | 0 => fun i nd hi vs s σ h hk => by cases hk
  | fuel + 1 => fun i nd hi vs s σ h hk => by
    have hk' : D i run (goN D run K fuel) K vs s = true := hk
    have h1 := hD i _ _ _ _ _ hk'
    unfold gBlock at h1
    rw [hi] at h1
    have hat : NAt (nodes F.code 0 []) nd.c nd.b nd.fs ∧ FrAt (nodes F.code 0 []) nd.fs := by
      have key : ∀ (c : AC) (b : Nat) (fs : List Fr), NAt (nodes F.code 0 []) c b fs → FrAt (nodes F.code 0 []) fs → ∀ nd ∈ nodes c b fs, NAt (nodes F.code 0 []) nd.c nd.b nd.fs ∧ FrAt (nodes F.code 0 []) nd.fs := by
        intro c
        induction c with
        | skip => intro b fs _ _ nd hm; cases hm
        | reg _ => intro b fs _ _ nd hm; cases hm
        | drw _ => intro b fs _ _ nd hm; cases hm
        | exit _ => intro b fs _ _ nd hm; cases hm
        | ret => intro b fs _ _ nd hm; cases hm
        | seq a c iha ihc =>
          intro b fs h1 h2 nd hm
          obtain ⟨q1, q2⟩ := h1.seq
          rw [nodes_seq, List.mem_append] at hm
          rcases hm with hm | hm
          · exact iha _ _ q1 ⟨q2, h2⟩ nd hm
          · exact ihc _ _ q2 h2 nd hm
        | cond x a c iha ihc =>
          intro b fs h1 h2 nd hm
          obtain ⟨q1, q2⟩ := h1.cond
          rw [nodes_cond, List.mem_append] at hm
          rcases hm with hm | hm
          · exact iha _ _ q1 h2 nd hm
          · exact ihc _ _ q2 h2 nd hm
        | blk id c ih => intro b fs h1 h2 nd hm; exact ih _ _ h1 h2 nd hm
        | loop l c ih =>
          intro b fs h1 h2 nd hm
          have h3 := h1 0 _ rfl
          have h4 : NAt (nodes F.code 0 []) c (b + 1) (.lp b l c :: fs) := fun i nd hi => by
            have := h1 (i + 1) nd (by rw [nodes_loop, List.getElem?_cons_succ]; exact hi)
            rw [show b + 1 + i = b + (i + 1) by omega]; exact this
          rw [nodes_loop, List.mem_cons] at hm
          rcases hm with rfl | hm
          · exact ⟨h4, h3, h2⟩
          · exact ih _ _ h4 ⟨h3, h2⟩ nd hm
        | cut l c ih =>
          intro b fs h1 h2 nd hm
          cases hj : isJ l with
          | true =>
            have h4 : NAt (nodes F.code 0 []) c (b + 1) fs := fun i nd hi => by
              have := h1 (i + 1) nd (by rw [nodes_cut, hj, bC_t, List.getElem?_cons_succ]; exact hi)
              rw [show b + 1 + i = b + (i + 1) by omega]; exact this
            rw [nodes_cut, hj, bC_t, List.mem_cons] at hm
            rcases hm with rfl | hm
            · exact ⟨h4, h2⟩
            · exact ih _ _ h4 h2 nd hm
          | false =>
            rw [nodes_cut, hj, bC_f] at hm
            exact ih _ _ (fun i nd hi => h1 i nd (by rw [nodes_cut, hj]; exact hi)) h2 nd hm
      exact key F.code 0 [] (fun i nd hi => by rw [Nat.zero_add]; exact hi) trivial nd (List.mem_of_getElem? hi)
    exact gCode_main hτ hr (goN_ok hD hr fuel) _ nd.c nd.b nd.fs _ _ _ (Nat.le_refl _) hat.1 hat.2 h h1
theorem feOf_ok {f : Nat} {F : AF} (hp : X.prim f = none) (hF : X.fns f = some F) {D : Nat → BF} (hD : ∀ i, (D i).Ok X τ F i) {E : Rn → Go → List FV → GS → KS → Bool} (hE : ∀ run go args s K, E run go args s K = true → gEntry X τ F run go args s K = true) (fuel : Nat) : (feOf X τ F D E fuel).Ok X f := by
  intro run hr args s σ K h hk
  obtain ⟨h1, h2⟩ := bC_and hk
  have h3 := hE _ _ _ _ _ h2
  obtain ⟨n, q, e', σ', v, s', q1, q2, q3, q4, q5⟩ := gCode_main hτ hr (goN_ok hτ hD hr fuel) _ F.code 0 [] _ _ _ (Nat.le_refl _) (fun i nd hi => by rw [Nat.zero_add]; exact hi) trivial h h3
  rw [argE_av] at q1
  have q1' : aCode X (bFn X n) n F.code (argEnv 0 (args.map FV.av)) σ = some (q, e', σ') := by
    unfold aCK at q1
    rw [Option.bind_eq_some_iff] at q1
    obtain ⟨⟨a, b, c⟩, r1, r2⟩ := q1
    cases r2; exact r1
  refine ⟨n + 1, v, σ', s', ?_, q4, q5⟩
  simp only [bFn, hp, hF]
  rw [if_pos (by rw [List.length_map]; exact Nat.le_of_ble_eq_true h1), q1']
  rcases q2 with rfl | rfl
  · simp only; rw [q3]; rfl
  · simp only; rw [q3]; rfl
/-- A function, all by the evaluator itself. -/
noncomputable def feGen (X : Ctx) (τ : Tys) (F : AF) (fuel : Nat) : FE := feOf X τ F (gBlock X τ F) (gEntry X τ F) fuel
theorem feGen_ok {f : Nat} {F : AF} (hp : X.prim f = none) (hF : X.fns f = some F) (fuel : Nat) : (feGen X τ F fuel).Ok X f :=
  feOf_ok hτ hp hF (fun i run go K vs s hk => hk) (fun run go args s K hk => hk) fuel
end

/-! ### Tables of functions, and closed runs -/
inductive TF where
  | nil
  | leaf (f : Nat) (fe : FE)
  | node (m : Nat) (l r : TF)
noncomputable def TF.go : TF → Nat → FE := TF.rec (motive := fun _ => Nat → FE) (fun _ _ _ _ _ => false) (fun f fe n run args s K => bC (Nat.beq f n) (fe run args s K) false) (fun m _ _ l r n => bC (Nat.ble (Nat.succ n) m) (l n) (r n))
def TF.Ok (X : Ctx) : TF → Prop
  | .nil => True
  | .leaf f fe => fe.Ok X f
  | .node _ l r => l.Ok X ∧ r.Ok X
theorem TF.go_ok {X : Ctx} : ∀ (t : TF) (f : Nat), t.Ok X → (t.go f).Ok X f
  | .nil, f, _ => fun run hr args s σ K h hk => by cases hk
  | .leaf g fe, f, ht => fun run hr args s σ K h hk => by
    obtain ⟨h1, h2⟩ := bC_and hk
    rw [← Nat.eq_of_beq_eq_true h1]
    exact ht run hr args s σ K h h2
  | .node m l r, f, ht => fun run hr args s σ K h hk => by
    have hk' : bC (Nat.ble (f + 1) m) (l.go f) (r.go f) run args s K = true := hk
    cases hb : Nat.ble (f + 1) m with
    | true => rw [hb, bC_t] at hk'; exact TF.go_ok l f ht.1 run hr args s σ K h hk'
    | false => rw [hb, bC_f] at hk'; exact TF.go_ok r f ht.2 run hr args s σ K h hk'
noncomputable def rnN (T : TF) (d : Nat) : Rn := Nat.rec (motive := fun _ => Rn) (fun _ _ _ _ => false) (fun _ ih f args s K => T.go f ih args s K) d
theorem rnN_ok {X : Ctx} {T : TF} (hT : T.Ok X) : ∀ d, (rnN T d).Ok X
  | 0 => fun f args s σ K h hk => by cases hk
  | d + 1 => fun f args s σ K h hk => TF.go_ok T f hT _ (rnN_ok hT d) args s σ K h hk
/-- A store, laid into trees. -/
noncomputable def GO.of (a : AO) (K : GO → Bool) : Bool := match a with
  | ⟨g, ro, .cells e cs⟩ => bC (okAVs cs) (bC (Nat.ble cs.length (nat_lit 8)) (bC (onesF (ofAVs cs)) (fN cs.length fun n => K (.cells g ro e n n (ofAVs cs) .lf)) false) (fN cs.length fun n => putsC (ofAVs cs) .lf (nat_lit 0) fun t => K (.cells g ro e n (nat_lit 1) [.n (nat_lit 1) (nat_lit 0)] t))) false
  | _ => K .dead
theorem GO.of_ok {a : AO} {K : GO → Bool} (hk : GO.of a K = true) : ∃ f : GO, f.Is a ∧ K f = true := by
  unfold GO.of at hk
  split at hk
  · rename_i g ro e cs
    obtain ⟨h1, hk1⟩ := bC_and hk
    clear hk
    have hl : (ofAVs cs).length = cs.length := by
      have := congrArg List.length (okAVs_ok _ h1)
      rw [List.length_map] at this; exact this
    cases hsz : Nat.ble cs.length (nat_lit 8) with
    | false =>
      rw [hsz, bC_f, fN_eq] at hk1
      have hb := CellsIs.rep (d := [.n 1 0]) rfl cs.length
      rw [show cs.length * [FV.n 1 0].length = cs.length by simp, show [FV.n 1 0].length = 1 from rfl] at hb
      obtain ⟨t', q1, q2, q3⟩ := putsC_ok (ofAVs cs) hb (off := 0) (by omega) hk1
      have e1 : setCells (repl ([FV.n 1 0].map FV.av) cs.length) 0 ((ofAVs cs).map FV.av) = cs := by
        have := setCells_back ((ofAVs cs).map FV.av) [] (repl ([FV.n 1 0].map FV.av) cs.length) (by rw [repl_length]; simp [hl])
        rw [okAVs_ok _ h1] at this ⊢
        simpa using this
      rw [e1] at q2
      exact ⟨.cells g ro e cs.length 1 [.n 1 0] t', ⟨cs, rfl, q2⟩, q1⟩
    | true =>
    rw [hsz, bC_t] at hk1
    obtain ⟨h2, hk⟩ := bC_and hk1
    rw [fN_eq] at hk
    have hc := CellsIs.list h2
    rw [okAVs_ok _ h1, hl] at hc
    exact ⟨.cells g ro e cs.length cs.length (ofAVs cs) .lf, ⟨cs, rfl, hc⟩, hk⟩
  · exact ⟨.dead, trivial, hk⟩
noncomputable def GS.lay (σ : St) : GS → (GS → Bool) → Bool := List.rec (motive := fun _ => GS → (GS → Bool) → Bool) (fun s K => K s) (fun a _ ih s K => GO.of a fun f => s.new f fun _ s => ih s K) σ
theorem GS.lay_ok : ∀ (σ : St) {s : GS} {σ0 : St} (_ : s.Is σ0) {K : GS → Bool} (_ : GS.lay σ s K = true), ∃ s', K s' = true ∧ s'.Is (σ0 ++ σ)
  | [], s, σ0, h, K, hk => ⟨s, hk, by simpa using h⟩
  | a :: σ, s, σ0, h, K, hk => by
    obtain ⟨f, hf, hk2⟩ := GO.of_ok (K := fun f => s.new f fun _ s => GS.lay σ s K) hk
    obtain ⟨s1, h1, h2⟩ := GS.new_ok h hf hk2
    obtain ⟨s2, q1, q2⟩ := GS.lay_ok σ h2 h1
    exact ⟨s2, q1, by simpa using q2⟩
def GS.nil : GS := ⟨0, .lf⟩
theorem GS.nil_is : GS.nil.Is [] := ⟨rfl, fun o f h => by cases h⟩
/-- A closed run, over a store. -/
noncomputable def gTop (T : TF) (d f : Nat) (args : List FV) (σ : St) (K : FV → Bool) : Bool := GS.lay σ GS.nil fun s => rnN T d f args s fun v _ => K v
theorem gTop_does {X : Ctx} {G : Nat} {T : TF} (hX : X.Sound G) (hT : T.Ok X) {d f : Nat} {args : List FV} {σ : St} {K : FV → Bool} (hk : gTop T d f args σ K = true) {μ : Mu} {w : World} (hs : Sim G μ σ w) {cargs : Array Value} (hr : VRels μ w (args.map FV.av) cargs.toList) :
    Does X.P f cargs w fun e w' => ∃ (r : FV) (σ' : St), K r = true ∧ After G μ σ w r.av σ' e w' := by
  obtain ⟨s, h1, h2⟩ := GS.lay_ok σ GS.nil_is hk
  obtain ⟨n, v, σ', s', q1, q2, q3⟩ := rnN_ok hT d f args s σ _ (by simpa using h2) h1
  exact (b_ok hX n f _ σ _ σ' q1 μ w cargs hs hr).mono fun e w' ha => ⟨v, σ', q3, ha⟩
/-- True. -/
noncomputable def isTrue : FV → Bool := FV.rec (motive_1 := fun _ => Bool) (motive_2 := fun _ => PUnit) (fun t x => bC (Nat.beq t (nat_lit 1)) (Nat.ble (nat_lit 1) x) false) (fun _ _ _ => false) (fun _ _ _ _ _ => false) (fun _ _ => false) (fun _ _ _ _ => false) ⟨⟩ (fun _ _ _ _ => ⟨⟩)
theorem isTrue_ok {v : FV} (h : isTrue v = true) : v.av = .b true := by
  cases v with
  | n t x =>
    obtain ⟨h1, h2⟩ := bC_and h
    have h1 : t = 1 := Nat.eq_of_beq_eq_true h1
    have h2 : 1 ≤ x := Nat.le_of_ble_eq_true h2
    subst h1
    rw [FV.av_n, scal_b, beq_ne (by omega)]; rfl
  | _ => cases h
/-- A closed fact, worked out by the kernel's own reckoning. -/
theorem run_ok {b : Bool} (h : Bool.rec (motive := fun _ => Prop) False True b) : b = true := by cases b; exact h.elim; rfl
end Go.Abs
/- The layer Abs, part 55: the third evaluator: functions cut into blocks that are written out: how many slots a block takes, tables of blocks. (Printed by mk55.py.) -/
namespace Go.Abs

inductive TB where
  | nil
  | leaf (i : Nat) (bf : BF)
  | node (m : Nat) (l r : TB)
noncomputable def TB.get : TB → Nat → BF := TB.rec (motive := fun _ => Nat → BF) (fun _ _ _ _ _ _ => false) (fun i bf n r g K vs s => bC (Nat.beq i n) (bf r g K vs s) false) (fun m _ _ l r n => bC (Nat.ble (Nat.succ n) m) (l n) (r n))
def TB.Ok (X : Ctx) (τ : Tys) (F : AF) : TB → Prop
  | .nil => True
  | .leaf i bf => bf.Ok X τ F i
  | .node _ l r => l.Ok X τ F ∧ r.Ok X τ F
theorem TB.get_ok {X : Ctx} {τ : Tys} {F : AF} : ∀ (t : TB) (_ : t.Ok X τ F) (i : Nat), (t.get i).Ok X τ F i
  | .nil, _, i => fun r g K vs s h => by cases h
  | .leaf j bf, ht, i => fun r g K vs s h => by
    obtain ⟨h1, h2⟩ := bC_and h
    rw [← Nat.eq_of_beq_eq_true h1]
    exact ht r g K vs s h2
  | .node m l r, ht, i => fun r' g K vs s h => by
    have h' : bC (Nat.ble (i + 1) m) (l.get i) (r.get i) r' g K vs s = true := h
    cases hb : Nat.ble (i + 1) m with
    | true => rw [hb, bC_t] at h'; exact TB.get_ok l ht.1 i r' g K vs s h'
    | false => rw [hb, bC_f] at h'; exact TB.get_ok r ht.2 i r' g K vs s h'
noncomputable def u0 (f : GS → Bool) (vs : List FV) (s : GS) : Bool := List.rec (motive := fun _ => (GS → Bool) → GS → Bool) (fun f s => f s) (fun _ _ _ _ _ => false) vs f s
theorem u0_ok {f : GS → Bool} {vs : List FV} {s : GS} (h : u0 f vs s = true) : vs = [] ∧ f s = true := by cases vs with | nil => exact ⟨rfl, h⟩ | cons _ _ => cases h
theorem u0_bf {X : Ctx} {τ : Tys} {F : AF} {i : Nat} {f : Rn → Go → KS → GS → Bool} (e : ∀ r g K s, gBlock X τ F i r g K [] s = f r g K s) : BF.Ok X τ F i (fun r g K => u0 (f r g K)) := fun r g K vs s h => by obtain ⟨rfl, h⟩ := u0_ok h; exact (e r g K s).trans h
theorem u0_en {X : Ctx} {τ : Tys} {F : AF} {f : Rn → Go → KS → GS → Bool} (e : ∀ r g K  s, gEntry X τ F r g [] s K = f r g K  s) : ∀ r g args s K, (fun (r : Rn) (g : Go) (args : List FV) (s : GS) (K : KS) => u0 (f r g K) args s) r g args s K = true → gEntry X τ F r g args s K = true := fun r g args s K h => by obtain ⟨rfl, h⟩ := u0_ok (f := f r g K) h; exact (e r g K  s).trans h
noncomputable def u1 (f : FV → GS → Bool) (vs : List FV) (s : GS) : Bool := List.rec (motive := fun _ => (FV → GS → Bool) → GS → Bool) (fun _ _ => false) (fun a l _ f s => u0 (f a) l s) vs f s
theorem u1_ok {f : FV → GS → Bool} {vs : List FV} {s : GS} (h : u1 f vs s = true) : ∃ a0, vs = [a0] ∧ f a0 s = true := by cases vs with | nil => cases h | cons a l => (obtain ⟨rfl, h⟩ := u0_ok (show u0 (f a) l s = true from h); exact ⟨a, rfl, h⟩)
theorem u1_bf {X : Ctx} {τ : Tys} {F : AF} {i : Nat} {f : Rn → Go → KS → FV → GS → Bool} (e : ∀ r g K a0 s, gBlock X τ F i r g K [a0] s = f r g K a0 s) : BF.Ok X τ F i (fun r g K => u1 (f r g K)) := fun r g K vs s h => by obtain ⟨a0, rfl, h⟩ := u1_ok h; exact (e r g K a0 s).trans h
theorem u1_en {X : Ctx} {τ : Tys} {F : AF} {f : Rn → Go → KS → FV → GS → Bool} (e : ∀ r g K a0 s, gEntry X τ F r g [a0] s K = f r g K a0 s) : ∀ r g args s K, (fun (r : Rn) (g : Go) (args : List FV) (s : GS) (K : KS) => u1 (f r g K) args s) r g args s K = true → gEntry X τ F r g args s K = true := fun r g args s K h => by obtain ⟨a0, rfl, h⟩ := u1_ok (f := f r g K) h; exact (e r g K a0 s).trans h
noncomputable def u2 (f : FV → FV → GS → Bool) (vs : List FV) (s : GS) : Bool := List.rec (motive := fun _ => (FV → FV → GS → Bool) → GS → Bool) (fun _ _ => false) (fun a l _ f s => u1 (f a) l s) vs f s
theorem u2_ok {f : FV → FV → GS → Bool} {vs : List FV} {s : GS} (h : u2 f vs s = true) : ∃ a0 a1, vs = [a0, a1] ∧ f a0 a1 s = true := by cases vs with | nil => cases h | cons a l => (obtain ⟨b0, rfl, h⟩ := u1_ok (show u1 (f a) l s = true from h); exact ⟨a, _, rfl, h⟩)
theorem u2_bf {X : Ctx} {τ : Tys} {F : AF} {i : Nat} {f : Rn → Go → KS → FV → FV → GS → Bool} (e : ∀ r g K a0 a1 s, gBlock X τ F i r g K [a0, a1] s = f r g K a0 a1 s) : BF.Ok X τ F i (fun r g K => u2 (f r g K)) := fun r g K vs s h => by obtain ⟨a0, a1, rfl, h⟩ := u2_ok h; exact (e r g K a0 a1 s).trans h
theorem u2_en {X : Ctx} {τ : Tys} {F : AF} {f : Rn → Go → KS → FV → FV → GS → Bool} (e : ∀ r g K a0 a1 s, gEntry X τ F r g [a0, a1] s K = f r g K a0 a1 s) : ∀ r g args s K, (fun (r : Rn) (g : Go) (args : List FV) (s : GS) (K : KS) => u2 (f r g K) args s) r g args s K = true → gEntry X τ F r g args s K = true := fun r g args s K h => by obtain ⟨a0, a1, rfl, h⟩ := u2_ok (f := f r g K) h; exact (e r g K a0 a1 s).trans h
noncomputable def u3 (f : FV → FV → FV → GS → Bool) (vs : List FV) (s : GS) : Bool := List.rec (motive := fun _ => (FV → FV → FV → GS → Bool) → GS → Bool) (fun _ _ => false) (fun a l _ f s => u2 (f a) l s) vs f s
theorem u3_ok {f : FV → FV → FV → GS → Bool} {vs : List FV} {s : GS} (h : u3 f vs s = true) : ∃ a0 a1 a2, vs = [a0, a1, a2] ∧ f a0 a1 a2 s = true := by cases vs with | nil => cases h | cons a l => (obtain ⟨b0, b1, rfl, h⟩ := u2_ok (show u2 (f a) l s = true from h); exact ⟨a, _, _, rfl, h⟩)
theorem u3_bf {X : Ctx} {τ : Tys} {F : AF} {i : Nat} {f : Rn → Go → KS → FV → FV → FV → GS → Bool} (e : ∀ r g K a0 a1 a2 s, gBlock X τ F i r g K [a0, a1, a2] s = f r g K a0 a1 a2 s) : BF.Ok X τ F i (fun r g K => u3 (f r g K)) := fun r g K vs s h => by obtain ⟨a0, a1, a2, rfl, h⟩ := u3_ok h; exact (e r g K a0 a1 a2 s).trans h
theorem u3_en {X : Ctx} {τ : Tys} {F : AF} {f : Rn → Go → KS → FV → FV → FV → GS → Bool} (e : ∀ r g K a0 a1 a2 s, gEntry X τ F r g [a0, a1, a2] s K = f r g K a0 a1 a2 s) : ∀ r g args s K, (fun (r : Rn) (g : Go) (args : List FV) (s : GS) (K : KS) => u3 (f r g K) args s) r g args s K = true → gEntry X τ F r g args s K = true := fun r g args s K h => by obtain ⟨a0, a1, a2, rfl, h⟩ := u3_ok (f := f r g K) h; exact (e r g K a0 a1 a2 s).trans h
noncomputable def u4 (f : FV → FV → FV → FV → GS → Bool) (vs : List FV) (s : GS) : Bool := List.rec (motive := fun _ => (FV → FV → FV → FV → GS → Bool) → GS → Bool) (fun _ _ => false) (fun a l _ f s => u3 (f a) l s) vs f s
theorem u4_ok {f : FV → FV → FV → FV → GS → Bool} {vs : List FV} {s : GS} (h : u4 f vs s = true) : ∃ a0 a1 a2 a3, vs = [a0, a1, a2, a3] ∧ f a0 a1 a2 a3 s = true := by cases vs with | nil => cases h | cons a l => (obtain ⟨b0, b1, b2, rfl, h⟩ := u3_ok (show u3 (f a) l s = true from h); exact ⟨a, _, _, _, rfl, h⟩)
theorem u4_bf {X : Ctx} {τ : Tys} {F : AF} {i : Nat} {f : Rn → Go → KS → FV → FV → FV → FV → GS → Bool} (e : ∀ r g K a0 a1 a2 a3 s, gBlock X τ F i r g K [a0, a1, a2, a3] s = f r g K a0 a1 a2 a3 s) : BF.Ok X τ F i (fun r g K => u4 (f r g K)) := fun r g K vs s h => by obtain ⟨a0, a1, a2, a3, rfl, h⟩ := u4_ok h; exact (e r g K a0 a1 a2 a3 s).trans h
theorem u4_en {X : Ctx} {τ : Tys} {F : AF} {f : Rn → Go → KS → FV → FV → FV → FV → GS → Bool} (e : ∀ r g K a0 a1 a2 a3 s, gEntry X τ F r g [a0, a1, a2, a3] s K = f r g K a0 a1 a2 a3 s) : ∀ r g args s K, (fun (r : Rn) (g : Go) (args : List FV) (s : GS) (K : KS) => u4 (f r g K) args s) r g args s K = true → gEntry X τ F r g args s K = true := fun r g args s K h => by obtain ⟨a0, a1, a2, a3, rfl, h⟩ := u4_ok (f := f r g K) h; exact (e r g K a0 a1 a2 a3 s).trans h
noncomputable def u5 (f : FV → FV → FV → FV → FV → GS → Bool) (vs : List FV) (s : GS) : Bool := List.rec (motive := fun _ => (FV → FV → FV → FV → FV → GS → Bool) → GS → Bool) (fun _ _ => false) (fun a l _ f s => u4 (f a) l s) vs f s
theorem u5_ok {f : FV → FV → FV → FV → FV → GS → Bool} {vs : List FV} {s : GS} (h : u5 f vs s = true) : ∃ a0 a1 a2 a3 a4, vs = [a0, a1, a2, a3, a4] ∧ f a0 a1 a2 a3 a4 s = true := by cases vs with | nil => cases h | cons a l => (obtain ⟨b0, b1, b2, b3, rfl, h⟩ := u4_ok (show u4 (f a) l s = true from h); exact ⟨a, _, _, _, _, rfl, h⟩)
theorem u5_bf {X : Ctx} {τ : Tys} {F : AF} {i : Nat} {f : Rn → Go → KS → FV → FV → FV → FV → FV → GS → Bool} (e : ∀ r g K a0 a1 a2 a3 a4 s, gBlock X τ F i r g K [a0, a1, a2, a3, a4] s = f r g K a0 a1 a2 a3 a4 s) : BF.Ok X τ F i (fun r g K => u5 (f r g K)) := fun r g K vs s h => by obtain ⟨a0, a1, a2, a3, a4, rfl, h⟩ := u5_ok h; exact (e r g K a0 a1 a2 a3 a4 s).trans h
theorem u5_en {X : Ctx} {τ : Tys} {F : AF} {f : Rn → Go → KS → FV → FV → FV → FV → FV → GS → Bool} (e : ∀ r g K a0 a1 a2 a3 a4 s, gEntry X τ F r g [a0, a1, a2, a3, a4] s K = f r g K a0 a1 a2 a3 a4 s) : ∀ r g args s K, (fun (r : Rn) (g : Go) (args : List FV) (s : GS) (K : KS) => u5 (f r g K) args s) r g args s K = true → gEntry X τ F r g args s K = true := fun r g args s K h => by obtain ⟨a0, a1, a2, a3, a4, rfl, h⟩ := u5_ok (f := f r g K) h; exact (e r g K a0 a1 a2 a3 a4 s).trans h
noncomputable def u6 (f : FV → FV → FV → FV → FV → FV → GS → Bool) (vs : List FV) (s : GS) : Bool := List.rec (motive := fun _ => (FV → FV → FV → FV → FV → FV → GS → Bool) → GS → Bool) (fun _ _ => false) (fun a l _ f s => u5 (f a) l s) vs f s
theorem u6_ok {f : FV → FV → FV → FV → FV → FV → GS → Bool} {vs : List FV} {s : GS} (h : u6 f vs s = true) : ∃ a0 a1 a2 a3 a4 a5, vs = [a0, a1, a2, a3, a4, a5] ∧ f a0 a1 a2 a3 a4 a5 s = true := by cases vs with | nil => cases h | cons a l => (obtain ⟨b0, b1, b2, b3, b4, rfl, h⟩ := u5_ok (show u5 (f a) l s = true from h); exact ⟨a, _, _, _, _, _, rfl, h⟩)
theorem u6_bf {X : Ctx} {τ : Tys} {F : AF} {i : Nat} {f : Rn → Go → KS → FV → FV → FV → FV → FV → FV → GS → Bool} (e : ∀ r g K a0 a1 a2 a3 a4 a5 s, gBlock X τ F i r g K [a0, a1, a2, a3, a4, a5] s = f r g K a0 a1 a2 a3 a4 a5 s) : BF.Ok X τ F i (fun r g K => u6 (f r g K)) := fun r g K vs s h => by obtain ⟨a0, a1, a2, a3, a4, a5, rfl, h⟩ := u6_ok h; exact (e r g K a0 a1 a2 a3 a4 a5 s).trans h
theorem u6_en {X : Ctx} {τ : Tys} {F : AF} {f : Rn → Go → KS → FV → FV → FV → FV → FV → FV → GS → Bool} (e : ∀ r g K a0 a1 a2 a3 a4 a5 s, gEntry X τ F r g [a0, a1, a2, a3, a4, a5] s K = f r g K a0 a1 a2 a3 a4 a5 s) : ∀ r g args s K, (fun (r : Rn) (g : Go) (args : List FV) (s : GS) (K : KS) => u6 (f r g K) args s) r g args s K = true → gEntry X τ F r g args s K = true := fun r g args s K h => by obtain ⟨a0, a1, a2, a3, a4, a5, rfl, h⟩ := u6_ok (f := f r g K) h; exact (e r g K a0 a1 a2 a3 a4 a5 s).trans h
noncomputable def u7 (f : FV → FV → FV → FV → FV → FV → FV → GS → Bool) (vs : List FV) (s : GS) : Bool := List.rec (motive := fun _ => (FV → FV → FV → FV → FV → FV → FV → GS → Bool) → GS → Bool) (fun _ _ => false) (fun a l _ f s => u6 (f a) l s) vs f s
theorem u7_ok {f : FV → FV → FV → FV → FV → FV → FV → GS → Bool} {vs : List FV} {s : GS} (h : u7 f vs s = true) : ∃ a0 a1 a2 a3 a4 a5 a6, vs = [a0, a1, a2, a3, a4, a5, a6] ∧ f a0 a1 a2 a3 a4 a5 a6 s = true := by cases vs with | nil => cases h | cons a l => (obtain ⟨b0, b1, b2, b3, b4, b5, rfl, h⟩ := u6_ok (show u6 (f a) l s = true from h); exact ⟨a, _, _, _, _, _, _, rfl, h⟩)
theorem u7_bf {X : Ctx} {τ : Tys} {F : AF} {i : Nat} {f : Rn → Go → KS → FV → FV → FV → FV → FV → FV → FV → GS → Bool} (e : ∀ r g K a0 a1 a2 a3 a4 a5 a6 s, gBlock X τ F i r g K [a0, a1, a2, a3, a4, a5, a6] s = f r g K a0 a1 a2 a3 a4 a5 a6 s) : BF.Ok X τ F i (fun r g K => u7 (f r g K)) := fun r g K vs s h => by obtain ⟨a0, a1, a2, a3, a4, a5, a6, rfl, h⟩ := u7_ok h; exact (e r g K a0 a1 a2 a3 a4 a5 a6 s).trans h
theorem u7_en {X : Ctx} {τ : Tys} {F : AF} {f : Rn → Go → KS → FV → FV → FV → FV → FV → FV → FV → GS → Bool} (e : ∀ r g K a0 a1 a2 a3 a4 a5 a6 s, gEntry X τ F r g [a0, a1, a2, a3, a4, a5, a6] s K = f r g K a0 a1 a2 a3 a4 a5 a6 s) : ∀ r g args s K, (fun (r : Rn) (g : Go) (args : List FV) (s : GS) (K : KS) => u7 (f r g K) args s) r g args s K = true → gEntry X τ F r g args s K = true := fun r g args s K h => by obtain ⟨a0, a1, a2, a3, a4, a5, a6, rfl, h⟩ := u7_ok (f := f r g K) h; exact (e r g K a0 a1 a2 a3 a4 a5 a6 s).trans h
noncomputable def u8 (f : FV → FV → FV → FV → FV → FV → FV → FV → GS → Bool) (vs : List FV) (s : GS) : Bool := List.rec (motive := fun _ => (FV → FV → FV → FV → FV → FV → FV → FV → GS → Bool) → GS → Bool) (fun _ _ => false) (fun a l _ f s => u7 (f a) l s) vs f s
theorem u8_ok {f : FV → FV → FV → FV → FV → FV → FV → FV → GS → Bool} {vs : List FV} {s : GS} (h : u8 f vs s = true) : ∃ a0 a1 a2 a3 a4 a5 a6 a7, vs = [a0, a1, a2, a3, a4, a5, a6, a7] ∧ f a0 a1 a2 a3 a4 a5 a6 a7 s = true := by cases vs with | nil => cases h | cons a l => (obtain ⟨b0, b1, b2, b3, b4, b5, b6, rfl, h⟩ := u7_ok (show u7 (f a) l s = true from h); exact ⟨a, _, _, _, _, _, _, _, rfl, h⟩)
theorem u8_bf {X : Ctx} {τ : Tys} {F : AF} {i : Nat} {f : Rn → Go → KS → FV → FV → FV → FV → FV → FV → FV → FV → GS → Bool} (e : ∀ r g K a0 a1 a2 a3 a4 a5 a6 a7 s, gBlock X τ F i r g K [a0, a1, a2, a3, a4, a5, a6, a7] s = f r g K a0 a1 a2 a3 a4 a5 a6 a7 s) : BF.Ok X τ F i (fun r g K => u8 (f r g K)) := fun r g K vs s h => by obtain ⟨a0, a1, a2, a3, a4, a5, a6, a7, rfl, h⟩ := u8_ok h; exact (e r g K a0 a1 a2 a3 a4 a5 a6 a7 s).trans h
theorem u8_en {X : Ctx} {τ : Tys} {F : AF} {f : Rn → Go → KS → FV → FV → FV → FV → FV → FV → FV → FV → GS → Bool} (e : ∀ r g K a0 a1 a2 a3 a4 a5 a6 a7 s, gEntry X τ F r g [a0, a1, a2, a3, a4, a5, a6, a7] s K = f r g K a0 a1 a2 a3 a4 a5 a6 a7 s) : ∀ r g args s K, (fun (r : Rn) (g : Go) (args : List FV) (s : GS) (K : KS) => u8 (f r g K) args s) r g args s K = true → gEntry X τ F r g args s K = true := fun r g args s K h => by obtain ⟨a0, a1, a2, a3, a4, a5, a6, a7, rfl, h⟩ := u8_ok (f := f r g K) h; exact (e r g K a0 a1 a2 a3 a4 a5 a6 a7 s).trans h
noncomputable def u9 (f : FV → FV → FV → FV → FV → FV → FV → FV → FV → GS → Bool) (vs : List FV) (s : GS) : Bool := List.rec (motive := fun _ => (FV → FV → FV → FV → FV → FV → FV → FV → FV → GS → Bool) → GS → Bool) (fun _ _ => false) (fun a l _ f s => u8 (f a) l s) vs f s
theorem u9_ok {f : FV → FV → FV → FV → FV → FV → FV → FV → FV → GS → Bool} {vs : List FV} {s : GS} (h : u9 f vs s = true) : ∃ a0 a1 a2 a3 a4 a5 a6 a7 a8, vs = [a0, a1, a2, a3, a4, a5, a6, a7, a8] ∧ f a0 a1 a2 a3 a4 a5 a6 a7 a8 s = true := by cases vs with | nil => cases h | cons a l => (obtain ⟨b0, b1, b2, b3, b4, b5, b6, b7, rfl, h⟩ := u8_ok (show u8 (f a) l s = true from h); exact ⟨a, _, _, _, _, _, _, _, _, rfl, h⟩)
theorem u9_bf {X : Ctx} {τ : Tys} {F : AF} {i : Nat} {f : Rn → Go → KS → FV → FV → FV → FV → FV → FV → FV → FV → FV → GS → Bool} (e : ∀ r g K a0 a1 a2 a3 a4 a5 a6 a7 a8 s, gBlock X τ F i r g K [a0, a1, a2, a3, a4, a5, a6, a7, a8] s = f r g K a0 a1 a2 a3 a4 a5 a6 a7 a8 s) : BF.Ok X τ F i (fun r g K => u9 (f r g K)) := fun r g K vs s h => by obtain ⟨a0, a1, a2, a3, a4, a5, a6, a7, a8, rfl, h⟩ := u9_ok h; exact (e r g K a0 a1 a2 a3 a4 a5 a6 a7 a8 s).trans h
theorem u9_en {X : Ctx} {τ : Tys} {F : AF} {f : Rn → Go → KS → FV → FV → FV → FV → FV → FV → FV → FV → FV → GS → Bool} (e : ∀ r g K a0 a1 a2 a3 a4 a5 a6 a7 a8 s, gEntry X τ F r g [a0, a1, a2, a3, a4, a5, a6, a7, a8] s K = f r g K a0 a1 a2 a3 a4 a5 a6 a7 a8 s) : ∀ r g args s K, (fun (r : Rn) (g : Go) (args : List FV) (s : GS) (K : KS) => u9 (f r g K) args s) r g args s K = true → gEntry X τ F r g args s K = true := fun r g args s K h => by obtain ⟨a0, a1, a2, a3, a4, a5, a6, a7, a8, rfl, h⟩ := u9_ok (f := f r g K) h; exact (e r g K a0 a1 a2 a3 a4 a5 a6 a7 a8 s).trans h
noncomputable def u10 (f : FV → FV → FV → FV → FV → FV → FV → FV → FV → FV → GS → Bool) (vs : List FV) (s : GS) : Bool := List.rec (motive := fun _ => (FV → FV → FV → FV → FV → FV → FV → FV → FV → FV → GS → Bool) → GS → Bool) (fun _ _ => false) (fun a l _ f s => u9 (f a) l s) vs f s
theorem u10_ok {f : FV → FV → FV → FV → FV → FV → FV → FV → FV → FV → GS → Bool} {vs : List FV} {s : GS} (h : u10 f vs s = true) : ∃ a0 a1 a2 a3 a4 a5 a6 a7 a8 a9, vs = [a0, a1, a2, a3, a4, a5, a6, a7, a8, a9] ∧ f a0 a1 a2 a3 a4 a5 a6 a7 a8 a9 s = true := by cases vs with | nil => cases h | cons a l => (obtain ⟨b0, b1, b2, b3, b4, b5, b6, b7, b8, rfl, h⟩ := u9_ok (show u9 (f a) l s = true from h); exact ⟨a, _, _, _, _, _, _, _, _, _, rfl, h⟩)
theorem u10_bf {X : Ctx} {τ : Tys} {F : AF} {i : Nat} {f : Rn → Go → KS → FV → FV → FV → FV → FV → FV → FV → FV → FV → FV → GS → Bool} (e : ∀ r g K a0 a1 a2 a3 a4 a5 a6 a7 a8 a9 s, gBlock X τ F i r g K [a0, a1, a2, a3, a4, a5, a6, a7, a8, a9] s = f r g K a0 a1 a2 a3 a4 a5 a6 a7 a8 a9 s) : BF.Ok X τ F i (fun r g K => u10 (f r g K)) := fun r g K vs s h => by obtain ⟨a0, a1, a2, a3, a4, a5, a6, a7, a8, a9, rfl, h⟩ := u10_ok h; exact (e r g K a0 a1 a2 a3 a4 a5 a6 a7 a8 a9 s).trans h
theorem u10_en {X : Ctx} {τ : Tys} {F : AF} {f : Rn → Go → KS → FV → FV → FV → FV → FV → FV → FV → FV → FV → FV → GS → Bool} (e : ∀ r g K a0 a1 a2 a3 a4 a5 a6 a7 a8 a9 s, gEntry X τ F r g [a0, a1, a2, a3, a4, a5, a6, a7, a8, a9] s K = f r g K a0 a1 a2 a3 a4 a5 a6 a7 a8 a9 s) : ∀ r g args s K, (fun (r : Rn) (g : Go) (args : List FV) (s : GS) (K : KS) => u10 (f r g K) args s) r g args s K = true → gEntry X τ F r g args s K = true := fun r g args s K h => by obtain ⟨a0, a1, a2, a3, a4, a5, a6, a7, a8, a9, rfl, h⟩ := u10_ok (f := f r g K) h; exact (e r g K a0 a1 a2 a3 a4 a5 a6 a7 a8 a9 s).trans h
noncomputable def u11 (f : FV → FV → FV → FV → FV → FV → FV → FV → FV → FV → FV → GS → Bool) (vs : List FV) (s : GS) : Bool := List.rec (motive := fun _ => (FV → FV → FV → FV → FV → FV → FV → FV → FV → FV → FV → GS → Bool) → GS → Bool) (fun _ _ => false) (fun a l _ f s => u10 (f a) l s) vs f s
theorem u11_ok {f : FV → FV → FV → FV → FV → FV → FV → FV → FV → FV → FV → GS → Bool} {vs : List FV} {s : GS} (h : u11 f vs s = true) : ∃ a0 a1 a2 a3 a4 a5 a6 a7 a8 a9 a10, vs = [a0, a1, a2, a3, a4, a5, a6, a7, a8, a9, a10] ∧ f a0 a1 a2 a3 a4 a5 a6 a7 a8 a9 a10 s = true := by cases vs with | nil => cases h | cons a l => (obtain ⟨b0, b1, b2, b3, b4, b5, b6, b7, b8, b9, rfl, h⟩ := u10_ok (show u10 (f a) l s = true from h); exact ⟨a, _, _, _, _, _, _, _, _, _, _, rfl, h⟩)
theorem u11_bf {X : Ctx} {τ : Tys} {F : AF} {i : Nat} {f : Rn → Go → KS → FV → FV → FV → FV → FV → FV → FV → FV → FV → FV → FV → GS → Bool} (e : ∀ r g K a0 a1 a2 a3 a4 a5 a6 a7 a8 a9 a10 s, gBlock X τ F i r g K [a0, a1, a2, a3, a4, a5, a6, a7, a8, a9, a10] s = f r g K a0 a1 a2 a3 a4 a5 a6 a7 a8 a9 a10 s) : BF.Ok X τ F i (fun r g K => u11 (f r g K)) := fun r g K vs s h => by obtain ⟨a0, a1, a2, a3, a4, a5, a6, a7, a8, a9, a10, rfl, h⟩ := u11_ok h; exact (e r g K a0 a1 a2 a3 a4 a5 a6 a7 a8 a9 a10 s).trans h
theorem u11_en {X : Ctx} {τ : Tys} {F : AF} {f : Rn → Go → KS → FV → FV → FV → FV → FV → FV → FV → FV → FV → FV → FV → GS → Bool} (e : ∀ r g K a0 a1 a2 a3 a4 a5 a6 a7 a8 a9 a10 s, gEntry X τ F r g [a0, a1, a2, a3, a4, a5, a6, a7, a8, a9, a10] s K = f r g K a0 a1 a2 a3 a4 a5 a6 a7 a8 a9 a10 s) : ∀ r g args s K, (fun (r : Rn) (g : Go) (args : List FV) (s : GS) (K : KS) => u11 (f r g K) args s) r g args s K = true → gEntry X τ F r g args s K = true := fun r g args s K h => by obtain ⟨a0, a1, a2, a3, a4, a5, a6, a7, a8, a9, a10, rfl, h⟩ := u11_ok (f := f r g K) h; exact (e r g K a0 a1 a2 a3 a4 a5 a6 a7 a8 a9 a10 s).trans h
noncomputable def u12 (f : FV → FV → FV → FV → FV → FV → FV → FV → FV → FV → FV → FV → GS → Bool) (vs : List FV) (s : GS) : Bool := List.rec (motive := fun _ => (FV → FV → FV → FV → FV → FV → FV → FV → FV → FV → FV → FV → GS → Bool) → GS → Bool) (fun _ _ => false) (fun a l _ f s => u11 (f a) l s) vs f s
theorem u12_ok {f : FV → FV → FV → FV → FV → FV → FV → FV → FV → FV → FV → FV → GS → Bool} {vs : List FV} {s : GS} (h : u12 f vs s = true) : ∃ a0 a1 a2 a3 a4 a5 a6 a7 a8 a9 a10 a11, vs = [a0, a1, a2, a3, a4, a5, a6, a7, a8, a9, a10, a11] ∧ f a0 a1 a2 a3 a4 a5 a6 a7 a8 a9 a10 a11 s = true := by cases vs with | nil => cases h | cons a l => (obtain ⟨b0, b1, b2, b3, b4, b5, b6, b7, b8, b9, b10, rfl, h⟩ := u11_ok (show u11 (f a) l s = true from h); exact ⟨a, _, _, _, _, _, _, _, _, _, _, _, rfl, h⟩)
theorem u12_bf {X : Ctx} {τ : Tys} {F : AF} {i : Nat} {f : Rn → Go → KS → FV → FV → FV → FV → FV → FV → FV → FV → FV → FV → FV → FV → GS → Bool} (e : ∀ r g K a0 a1 a2 a3 a4 a5 a6 a7 a8 a9 a10 a11 s, gBlock X τ F i r g K [a0, a1, a2, a3, a4, a5, a6, a7, a8, a9, a10, a11] s = f r g K a0 a1 a2 a3 a4 a5 a6 a7 a8 a9 a10 a11 s) : BF.Ok X τ F i (fun r g K => u12 (f r g K)) := fun r g K vs s h => by obtain ⟨a0, a1, a2, a3, a4, a5, a6, a7, a8, a9, a10, a11, rfl, h⟩ := u12_ok h; exact (e r g K a0 a1 a2 a3 a4 a5 a6 a7 a8 a9 a10 a11 s).trans h
theorem u12_en {X : Ctx} {τ : Tys} {F : AF} {f : Rn → Go → KS → FV → FV → FV → FV → FV → FV → FV → FV → FV → FV → FV → FV → GS → Bool} (e : ∀ r g K a0 a1 a2 a3 a4 a5 a6 a7 a8 a9 a10 a11 s, gEntry X τ F r g [a0, a1, a2, a3, a4, a5, a6, a7, a8, a9, a10, a11] s K = f r g K a0 a1 a2 a3 a4 a5 a6 a7 a8 a9 a10 a11 s) : ∀ r g args s K, (fun (r : Rn) (g : Go) (args : List FV) (s : GS) (K : KS) => u12 (f r g K) args s) r g args s K = true → gEntry X τ F r g args s K = true := fun r g args s K h => by obtain ⟨a0, a1, a2, a3, a4, a5, a6, a7, a8, a9, a10, a11, rfl, h⟩ := u12_ok (f := f r g K) h; exact (e r g K a0 a1 a2 a3 a4 a5 a6 a7 a8 a9 a10 a11 s).trans h
noncomputable def u13 (f : FV → FV → FV → FV → FV → FV → FV → FV → FV → FV → FV → FV → FV → GS → Bool) (vs : List FV) (s : GS) : Bool := List.rec (motive := fun _ => (FV → FV → FV → FV → FV → FV → FV → FV → FV → FV → FV → FV → FV → GS → Bool) → GS → Bool) (fun _ _ => false) (fun a l _ f s => u12 (f a) l s) vs f s
theorem u13_ok {f : FV → FV → FV → FV → FV → FV → FV → FV → FV → FV → FV → FV → FV → GS → Bool} {vs : List FV} {s : GS} (h : u13 f vs s = true) : ∃ a0 a1 a2 a3 a4 a5 a6 a7 a8 a9 a10 a11 a12, vs = [a0, a1, a2, a3, a4, a5, a6, a7, a8, a9, a10, a11, a12] ∧ f a0 a1 a2 a3 a4 a5 a6 a7 a8 a9 a10 a11 a12 s = true := by cases vs with | nil => cases h | cons a l => (obtain ⟨b0, b1, b2, b3, b4, b5, b6, b7, b8, b9, b10, b11, rfl, h⟩ := u12_ok (show u12 (f a) l s = true from h); exact ⟨a, _, _, _, _, _, _, _, _, _, _, _, _, rfl, h⟩)
theorem u13_bf {X : Ctx} {τ : Tys} {F : AF} {i : Nat} {f : Rn → Go → KS → FV → FV → FV → FV → FV → FV → FV → FV → FV → FV → FV → FV → FV → GS → Bool} (e : ∀ r g K a0 a1 a2 a3 a4 a5 a6 a7 a8 a9 a10 a11 a12 s, gBlock X τ F i r g K [a0, a1, a2, a3, a4, a5, a6, a7, a8, a9, a10, a11, a12] s = f r g K a0 a1 a2 a3 a4 a5 a6 a7 a8 a9 a10 a11 a12 s) : BF.Ok X τ F i (fun r g K => u13 (f r g K)) := fun r g K vs s h => by obtain ⟨a0, a1, a2, a3, a4, a5, a6, a7, a8, a9, a10, a11, a12, rfl, h⟩ := u13_ok h; exact (e r g K a0 a1 a2 a3 a4 a5 a6 a7 a8 a9 a10 a11 a12 s).trans h
noncomputable def u14 (f : FV → FV → FV → FV → FV → FV → FV → FV → FV → FV → FV → FV → FV → FV → GS → Bool) (vs : List FV) (s : GS) : Bool := List.rec (motive := fun _ => (FV → FV → FV → FV → FV → FV → FV → FV → FV → FV → FV → FV → FV → FV → GS → Bool) → GS → Bool) (fun _ _ => false) (fun a l _ f s => u13 (f a) l s) vs f s
theorem u14_ok {f : FV → FV → FV → FV → FV → FV → FV → FV → FV → FV → FV → FV → FV → FV → GS → Bool} {vs : List FV} {s : GS} (h : u14 f vs s = true) : ∃ a0 a1 a2 a3 a4 a5 a6 a7 a8 a9 a10 a11 a12 a13, vs = [a0, a1, a2, a3, a4, a5, a6, a7, a8, a9, a10, a11, a12, a13] ∧ f a0 a1 a2 a3 a4 a5 a6 a7 a8 a9 a10 a11 a12 a13 s = true := by cases vs with | nil => cases h | cons a l => (obtain ⟨b0, b1, b2, b3, b4, b5, b6, b7, b8, b9, b10, b11, b12, rfl, h⟩ := u13_ok (show u13 (f a) l s = true from h); exact ⟨a, _, _, _, _, _, _, _, _, _, _, _, _, _, rfl, h⟩)
theorem u14_bf {X : Ctx} {τ : Tys} {F : AF} {i : Nat} {f : Rn → Go → KS → FV → FV → FV → FV → FV → FV → FV → FV → FV → FV → FV → FV → FV → FV → GS → Bool} (e : ∀ r g K a0 a1 a2 a3 a4 a5 a6 a7 a8 a9 a10 a11 a12 a13 s, gBlock X τ F i r g K [a0, a1, a2, a3, a4, a5, a6, a7, a8, a9, a10, a11, a12, a13] s = f r g K a0 a1 a2 a3 a4 a5 a6 a7 a8 a9 a10 a11 a12 a13 s) : BF.Ok X τ F i (fun r g K => u14 (f r g K)) := fun r g K vs s h => by obtain ⟨a0, a1, a2, a3, a4, a5, a6, a7, a8, a9, a10, a11, a12, a13, rfl, h⟩ := u14_ok h; exact (e r g K a0 a1 a2 a3 a4 a5 a6 a7 a8 a9 a10 a11 a12 a13 s).trans h
noncomputable def u15 (f : FV → FV → FV → FV → FV → FV → FV → FV → FV → FV → FV → FV → FV → FV → FV → GS → Bool) (vs : List FV) (s : GS) : Bool := List.rec (motive := fun _ => (FV → FV → FV → FV → FV → FV → FV → FV → FV → FV → FV → FV → FV → FV → FV → GS → Bool) → GS → Bool) (fun _ _ => false) (fun a l _ f s => u14 (f a) l s) vs f s
theorem u15_ok {f : FV → FV → FV → FV → FV → FV → FV → FV → FV → FV → FV → FV → FV → FV → FV → GS → Bool} {vs : List FV} {s : GS} (h : u15 f vs s = true) : ∃ a0 a1 a2 a3 a4 a5 a6 a7 a8 a9 a10 a11 a12 a13 a14, vs = [a0, a1, a2, a3, a4, a5, a6, a7, a8, a9, a10, a11, a12, a13, a14] ∧ f a0 a1 a2 a3 a4 a5 a6 a7 a8 a9 a10 a11 a12 a13 a14 s = true := by cases vs with | nil => cases h | cons a l => (obtain ⟨b0, b1, b2, b3, b4, b5, b6, b7, b8, b9, b10, b11, b12, b13, rfl, h⟩ := u14_ok (show u14 (f a) l s = true from h); exact ⟨a, _, _, _, _, _, _, _, _, _, _, _, _, _, _, rfl, h⟩)
theorem u15_bf {X : Ctx} {τ : Tys} {F : AF} {i : Nat} {f : Rn → Go → KS → FV → FV → FV → FV → FV → FV → FV → FV → FV → FV → FV → FV → FV → FV → FV → GS → Bool} (e : ∀ r g K a0 a1 a2 a3 a4 a5 a6 a7 a8 a9 a10 a11 a12 a13 a14 s, gBlock X τ F i r g K [a0, a1, a2, a3, a4, a5, a6, a7, a8, a9, a10, a11, a12, a13, a14] s = f r g K a0 a1 a2 a3 a4 a5 a6 a7 a8 a9 a10 a11 a12 a13 a14 s) : BF.Ok X τ F i (fun r g K => u15 (f r g K)) := fun r g K vs s h => by obtain ⟨a0, a1, a2, a3, a4, a5, a6, a7, a8, a9, a10, a11, a12, a13, a14, rfl, h⟩ := u15_ok h; exact (e r g K a0 a1 a2 a3 a4 a5 a6 a7 a8 a9 a10 a11 a12 a13 a14 s).trans h
noncomputable def u16 (f : FV → FV → FV → FV → FV → FV → FV → FV → FV → FV → FV → FV → FV → FV → FV → FV → GS → Bool) (vs : List FV) (s : GS) : Bool := List.rec (motive := fun _ => (FV → FV → FV → FV → FV → FV → FV → FV → FV → FV → FV → FV → FV → FV → FV → FV → GS → Bool) → GS → Bool) (fun _ _ => false) (fun a l _ f s => u15 (f a) l s) vs f s
theorem u16_ok {f : FV → FV → FV → FV → FV → FV → FV → FV → FV → FV → FV → FV → FV → FV → FV → FV → GS → Bool} {vs : List FV} {s : GS} (h : u16 f vs s = true) : ∃ a0 a1 a2 a3 a4 a5 a6 a7 a8 a9 a10 a11 a12 a13 a14 a15, vs = [a0, a1, a2, a3, a4, a5, a6, a7, a8, a9, a10, a11, a12, a13, a14, a15] ∧ f a0 a1 a2 a3 a4 a5 a6 a7 a8 a9 a10 a11 a12 a13 a14 a15 s = true := by cases vs with | nil => cases h | cons a l => (obtain ⟨b0, b1, b2, b3, b4, b5, b6, b7, b8, b9, b10, b11, b12, b13, b14, rfl, h⟩ := u15_ok (show u15 (f a) l s = true from h); exact ⟨a, _, _, _, _, _, _, _, _, _, _, _, _, _, _, _, rfl, h⟩)
theorem u16_bf {X : Ctx} {τ : Tys} {F : AF} {i : Nat} {f : Rn → Go → KS → FV → FV → FV → FV → FV → FV → FV → FV → FV → FV → FV → FV → FV → FV → FV → FV → GS → Bool} (e : ∀ r g K a0 a1 a2 a3 a4 a5 a6 a7 a8 a9 a10 a11 a12 a13 a14 a15 s, gBlock X τ F i r g K [a0, a1, a2, a3, a4, a5, a6, a7, a8, a9, a10, a11, a12, a13, a14, a15] s = f r g K a0 a1 a2 a3 a4 a5 a6 a7 a8 a9 a10 a11 a12 a13 a14 a15 s) : BF.Ok X τ F i (fun r g K => u16 (f r g K)) := fun r g K vs s h => by obtain ⟨a0, a1, a2, a3, a4, a5, a6, a7, a8, a9, a10, a11, a12, a13, a14, a15, rfl, h⟩ := u16_ok h; exact (e r g K a0 a1 a2 a3 a4 a5 a6 a7 a8 a9 a10 a11 a12 a13 a14 a15 s).trans h
noncomputable def u17 (f : FV → FV → FV → FV → FV → FV → FV → FV → FV → FV → FV → FV → FV → FV → FV → FV → FV → GS → Bool) (vs : List FV) (s : GS) : Bool := List.rec (motive := fun _ => (FV → FV → FV → FV → FV → FV → FV → FV → FV → FV → FV → FV → FV → FV → FV → FV → FV → GS → Bool) → GS → Bool) (fun _ _ => false) (fun a l _ f s => u16 (f a) l s) vs f s
theorem u17_ok {f : FV → FV → FV → FV → FV → FV → FV → FV → FV → FV → FV → FV → FV → FV → FV → FV → FV → GS → Bool} {vs : List FV} {s : GS} (h : u17 f vs s = true) : ∃ a0 a1 a2 a3 a4 a5 a6 a7 a8 a9 a10 a11 a12 a13 a14 a15 a16, vs = [a0, a1, a2, a3, a4, a5, a6, a7, a8, a9, a10, a11, a12, a13, a14, a15, a16] ∧ f a0 a1 a2 a3 a4 a5 a6 a7 a8 a9 a10 a11 a12 a13 a14 a15 a16 s = true := by cases vs with | nil => cases h | cons a l => (obtain ⟨b0, b1, b2, b3, b4, b5, b6, b7, b8, b9, b10, b11, b12, b13, b14, b15, rfl, h⟩ := u16_ok (show u16 (f a) l s = true from h); exact ⟨a, _, _, _, _, _, _, _, _, _, _, _, _, _, _, _, _, rfl, h⟩)
theorem u17_bf {X : Ctx} {τ : Tys} {F : AF} {i : Nat} {f : Rn → Go → KS → FV → FV → FV → FV → FV → FV → FV → FV → FV → FV → FV → FV → FV → FV → FV → FV → FV → GS → Bool} (e : ∀ r g K a0 a1 a2 a3 a4 a5 a6 a7 a8 a9 a10 a11 a12 a13 a14 a15 a16 s, gBlock X τ F i r g K [a0, a1, a2, a3, a4, a5, a6, a7, a8, a9, a10, a11, a12, a13, a14, a15, a16] s = f r g K a0 a1 a2 a3 a4 a5 a6 a7 a8 a9 a10 a11 a12 a13 a14 a15 a16 s) : BF.Ok X τ F i (fun r g K => u17 (f r g K)) := fun r g K vs s h => by obtain ⟨a0, a1, a2, a3, a4, a5, a6, a7, a8, a9, a10, a11, a12, a13, a14, a15, a16, rfl, h⟩ := u17_ok h; exact (e r g K a0 a1 a2 a3 a4 a5 a6 a7 a8 a9 a10 a11 a12 a13 a14 a15 a16 s).trans h
noncomputable def u18 (f : FV → FV → FV → FV → FV → FV → FV → FV → FV → FV → FV → FV → FV → FV → FV → FV → FV → FV → GS → Bool) (vs : List FV) (s : GS) : Bool := List.rec (motive := fun _ => (FV → FV → FV → FV → FV → FV → FV → FV → FV → FV → FV → FV → FV → FV → FV → FV → FV → FV → GS → Bool) → GS → Bool) (fun _ _ => false) (fun a l _ f s => u17 (f a) l s) vs f s
theorem u18_ok {f : FV → FV → FV → FV → FV → FV → FV → FV → FV → FV → FV → FV → FV → FV → FV → FV → FV → FV → GS → Bool} {vs : List FV} {s : GS} (h : u18 f vs s = true) : ∃ a0 a1 a2 a3 a4 a5 a6 a7 a8 a9 a10 a11 a12 a13 a14 a15 a16 a17, vs = [a0, a1, a2, a3, a4, a5, a6, a7, a8, a9, a10, a11, a12, a13, a14, a15, a16, a17] ∧ f a0 a1 a2 a3 a4 a5 a6 a7 a8 a9 a10 a11 a12 a13 a14 a15 a16 a17 s = true := by cases vs with | nil => cases h | cons a l => (obtain ⟨b0, b1, b2, b3, b4, b5, b6, b7, b8, b9, b10, b11, b12, b13, b14, b15, b16, rfl, h⟩ := u17_ok (show u17 (f a) l s = true from h); exact ⟨a, _, _, _, _, _, _, _, _, _, _, _, _, _, _, _, _, _, rfl, h⟩)
theorem u18_bf {X : Ctx} {τ : Tys} {F : AF} {i : Nat} {f : Rn → Go → KS → FV → FV → FV → FV → FV → FV → FV → FV → FV → FV → FV → FV → FV → FV → FV → FV → FV → FV → GS → Bool} (e : ∀ r g K a0 a1 a2 a3 a4 a5 a6 a7 a8 a9 a10 a11 a12 a13 a14 a15 a16 a17 s, gBlock X τ F i r g K [a0, a1, a2, a3, a4, a5, a6, a7, a8, a9, a10, a11, a12, a13, a14, a15, a16, a17] s = f r g K a0 a1 a2 a3 a4 a5 a6 a7 a8 a9 a10 a11 a12 a13 a14 a15 a16 a17 s) : BF.Ok X τ F i (fun r g K => u18 (f r g K)) := fun r g K vs s h => by obtain ⟨a0, a1, a2, a3, a4, a5, a6, a7, a8, a9, a10, a11, a12, a13, a14, a15, a16, a17, rfl, h⟩ := u18_ok h; exact (e r g K a0 a1 a2 a3 a4 a5 a6 a7 a8 a9 a10 a11 a12 a13 a14 a15 a16 a17 s).trans h
noncomputable def u19 (f : FV → FV → FV → FV → FV → FV → FV → FV → FV → FV → FV → FV → FV → FV → FV → FV → FV → FV → FV → GS → Bool) (vs : List FV) (s : GS) : Bool := List.rec (motive := fun _ => (FV → FV → FV → FV → FV → FV → FV → FV → FV → FV → FV → FV → FV → FV → FV → FV → FV → FV → FV → GS → Bool) → GS → Bool) (fun _ _ => false) (fun a l _ f s => u18 (f a) l s) vs f s
theorem u19_ok {f : FV → FV → FV → FV → FV → FV → FV → FV → FV → FV → FV → FV → FV → FV → FV → FV → FV → FV → FV → GS → Bool} {vs : List FV} {s : GS} (h : u19 f vs s = true) : ∃ a0 a1 a2 a3 a4 a5 a6 a7 a8 a9 a10 a11 a12 a13 a14 a15 a16 a17 a18, vs = [a0, a1, a2, a3, a4, a5, a6, a7, a8, a9, a10, a11, a12, a13, a14, a15, a16, a17, a18] ∧ f a0 a1 a2 a3 a4 a5 a6 a7 a8 a9 a10 a11 a12 a13 a14 a15 a16 a17 a18 s = true := by cases vs with | nil => cases h | cons a l => (obtain ⟨b0, b1, b2, b3, b4, b5, b6, b7, b8, b9, b10, b11, b12, b13, b14, b15, b16, b17, rfl, h⟩ := u18_ok (show u18 (f a) l s = true from h); exact ⟨a, _, _, _, _, _, _, _, _, _, _, _, _, _, _, _, _, _, _, rfl, h⟩)
theorem u19_bf {X : Ctx} {τ : Tys} {F : AF} {i : Nat} {f : Rn → Go → KS → FV → FV → FV → FV → FV → FV → FV → FV → FV → FV → FV → FV → FV → FV → FV → FV → FV → FV → FV → GS → Bool} (e : ∀ r g K a0 a1 a2 a3 a4 a5 a6 a7 a8 a9 a10 a11 a12 a13 a14 a15 a16 a17 a18 s, gBlock X τ F i r g K [a0, a1, a2, a3, a4, a5, a6, a7, a8, a9, a10, a11, a12, a13, a14, a15, a16, a17, a18] s = f r g K a0 a1 a2 a3 a4 a5 a6 a7 a8 a9 a10 a11 a12 a13 a14 a15 a16 a17 a18 s) : BF.Ok X τ F i (fun r g K => u19 (f r g K)) := fun r g K vs s h => by obtain ⟨a0, a1, a2, a3, a4, a5, a6, a7, a8, a9, a10, a11, a12, a13, a14, a15, a16, a17, a18, rfl, h⟩ := u19_ok h; exact (e r g K a0 a1 a2 a3 a4 a5 a6 a7 a8 a9 a10 a11 a12 a13 a14 a15 a16 a17 a18 s).trans h
noncomputable def u20 (f : FV → FV → FV → FV → FV → FV → FV → FV → FV → FV → FV → FV → FV → FV → FV → FV → FV → FV → FV → FV → GS → Bool) (vs : List FV) (s : GS) : Bool := List.rec (motive := fun _ => (FV → FV → FV → FV → FV → FV → FV → FV → FV → FV → FV → FV → FV → FV → FV → FV → FV → FV → FV → FV → GS → Bool) → GS → Bool) (fun _ _ => false) (fun a l _ f s => u19 (f a) l s) vs f s
theorem u20_ok {f : FV → FV → FV → FV → FV → FV → FV → FV → FV → FV → FV → FV → FV → FV → FV → FV → FV → FV → FV → FV → GS → Bool} {vs : List FV} {s : GS} (h : u20 f vs s = true) : ∃ a0 a1 a2 a3 a4 a5 a6 a7 a8 a9 a10 a11 a12 a13 a14 a15 a16 a17 a18 a19, vs = [a0, a1, a2, a3, a4, a5, a6, a7, a8, a9, a10, a11, a12, a13, a14, a15, a16, a17, a18, a19] ∧ f a0 a1 a2 a3 a4 a5 a6 a7 a8 a9 a10 a11 a12 a13 a14 a15 a16 a17 a18 a19 s = true := by cases vs with | nil => cases h | cons a l => (obtain ⟨b0, b1, b2, b3, b4, b5, b6, b7, b8, b9, b10, b11, b12, b13, b14, b15, b16, b17, b18, rfl, h⟩ := u19_ok (show u19 (f a) l s = true from h); exact ⟨a, _, _, _, _, _, _, _, _, _, _, _, _, _, _, _, _, _, _, _, rfl, h⟩)
theorem u20_bf {X : Ctx} {τ : Tys} {F : AF} {i : Nat} {f : Rn → Go → KS → FV → FV → FV → FV → FV → FV → FV → FV → FV → FV → FV → FV → FV → FV → FV → FV → FV → FV → FV → FV → GS → Bool} (e : ∀ r g K a0 a1 a2 a3 a4 a5 a6 a7 a8 a9 a10 a11 a12 a13 a14 a15 a16 a17 a18 a19 s, gBlock X τ F i r g K [a0, a1, a2, a3, a4, a5, a6, a7, a8, a9, a10, a11, a12, a13, a14, a15, a16, a17, a18, a19] s = f r g K a0 a1 a2 a3 a4 a5 a6 a7 a8 a9 a10 a11 a12 a13 a14 a15 a16 a17 a18 a19 s) : BF.Ok X τ F i (fun r g K => u20 (f r g K)) := fun r g K vs s h => by obtain ⟨a0, a1, a2, a3, a4, a5, a6, a7, a8, a9, a10, a11, a12, a13, a14, a15, a16, a17, a18, a19, rfl, h⟩ := u20_ok h; exact (e r g K a0 a1 a2 a3 a4 a5 a6 a7 a8 a9 a10 a11 a12 a13 a14 a15 a16 a17 a18 a19 s).trans h
noncomputable def u21 (f : FV → FV → FV → FV → FV → FV → FV → FV → FV → FV → FV → FV → FV → FV → FV → FV → FV → FV → FV → FV → FV → GS → Bool) (vs : List FV) (s : GS) : Bool := List.rec (motive := fun _ => (FV → FV → FV → FV → FV → FV → FV → FV → FV → FV → FV → FV → FV → FV → FV → FV → FV → FV → FV → FV → FV → GS → Bool) → GS → Bool) (fun _ _ => false) (fun a l _ f s => u20 (f a) l s) vs f s
theorem u21_ok {f : FV → FV → FV → FV → FV → FV → FV → FV → FV → FV → FV → FV → FV → FV → FV → FV → FV → FV → FV → FV → FV → GS → Bool} {vs : List FV} {s : GS} (h : u21 f vs s = true) : ∃ a0 a1 a2 a3 a4 a5 a6 a7 a8 a9 a10 a11 a12 a13 a14 a15 a16 a17 a18 a19 a20, vs = [a0, a1, a2, a3, a4, a5, a6, a7, a8, a9, a10, a11, a12, a13, a14, a15, a16, a17, a18, a19, a20] ∧ f a0 a1 a2 a3 a4 a5 a6 a7 a8 a9 a10 a11 a12 a13 a14 a15 a16 a17 a18 a19 a20 s = true := by cases vs with | nil => cases h | cons a l => (obtain ⟨b0, b1, b2, b3, b4, b5, b6, b7, b8, b9, b10, b11, b12, b13, b14, b15, b16, b17, b18, b19, rfl, h⟩ := u20_ok (show u20 (f a) l s = true from h); exact ⟨a, _, _, _, _, _, _, _, _, _, _, _, _, _, _, _, _, _, _, _, _, rfl, h⟩)
theorem u21_bf {X : Ctx} {τ : Tys} {F : AF} {i : Nat} {f : Rn → Go → KS → FV → FV → FV → FV → FV → FV → FV → FV → FV → FV → FV → FV → FV → FV → FV → FV → FV → FV → FV → FV → FV → GS → Bool} (e : ∀ r g K a0 a1 a2 a3 a4 a5 a6 a7 a8 a9 a10 a11 a12 a13 a14 a15 a16 a17 a18 a19 a20 s, gBlock X τ F i r g K [a0, a1, a2, a3, a4, a5, a6, a7, a8, a9, a10, a11, a12, a13, a14, a15, a16, a17, a18, a19, a20] s = f r g K a0 a1 a2 a3 a4 a5 a6 a7 a8 a9 a10 a11 a12 a13 a14 a15 a16 a17 a18 a19 a20 s) : BF.Ok X τ F i (fun r g K => u21 (f r g K)) := fun r g K vs s h => by obtain ⟨a0, a1, a2, a3, a4, a5, a6, a7, a8, a9, a10, a11, a12, a13, a14, a15, a16, a17, a18, a19, a20, rfl, h⟩ := u21_ok h; exact (e r g K a0 a1 a2 a3 a4 a5 a6 a7 a8 a9 a10 a11 a12 a13 a14 a15 a16 a17 a18 a19 a20 s).trans h
noncomputable def u22 (f : FV → FV → FV → FV → FV → FV → FV → FV → FV → FV → FV → FV → FV → FV → FV → FV → FV → FV → FV → FV → FV → FV → GS → Bool) (vs : List FV) (s : GS) : Bool := List.rec (motive := fun _ => (FV → FV → FV → FV → FV → FV → FV → FV → FV → FV → FV → FV → FV → FV → FV → FV → FV → FV → FV → FV → FV → FV → GS → Bool) → GS → Bool) (fun _ _ => false) (fun a l _ f s => u21 (f a) l s) vs f s
theorem u22_ok {f : FV → FV → FV → FV → FV → FV → FV → FV → FV → FV → FV → FV → FV → FV → FV → FV → FV → FV → FV → FV → FV → FV → GS → Bool} {vs : List FV} {s : GS} (h : u22 f vs s = true) : ∃ a0 a1 a2 a3 a4 a5 a6 a7 a8 a9 a10 a11 a12 a13 a14 a15 a16 a17 a18 a19 a20 a21, vs = [a0, a1, a2, a3, a4, a5, a6, a7, a8, a9, a10, a11, a12, a13, a14, a15, a16, a17, a18, a19, a20, a21] ∧ f a0 a1 a2 a3 a4 a5 a6 a7 a8 a9 a10 a11 a12 a13 a14 a15 a16 a17 a18 a19 a20 a21 s = true := by cases vs with | nil => cases h | cons a l => (obtain ⟨b0, b1, b2, b3, b4, b5, b6, b7, b8, b9, b10, b11, b12, b13, b14, b15, b16, b17, b18, b19, b20, rfl, h⟩ := u21_ok (show u21 (f a) l s = true from h); exact ⟨a, _, _, _, _, _, _, _, _, _, _, _, _, _, _, _, _, _, _, _, _, _, rfl, h⟩)
theorem u22_bf {X : Ctx} {τ : Tys} {F : AF} {i : Nat} {f : Rn → Go → KS → FV → FV → FV → FV → FV → FV → FV → FV → FV → FV → FV → FV → FV → FV → FV → FV → FV → FV → FV → FV → FV → FV → GS → Bool} (e : ∀ r g K a0 a1 a2 a3 a4 a5 a6 a7 a8 a9 a10 a11 a12 a13 a14 a15 a16 a17 a18 a19 a20 a21 s, gBlock X τ F i r g K [a0, a1, a2, a3, a4, a5, a6, a7, a8, a9, a10, a11, a12, a13, a14, a15, a16, a17, a18, a19, a20, a21] s = f r g K a0 a1 a2 a3 a4 a5 a6 a7 a8 a9 a10 a11 a12 a13 a14 a15 a16 a17 a18 a19 a20 a21 s) : BF.Ok X τ F i (fun r g K => u22 (f r g K)) := fun r g K vs s h => by obtain ⟨a0, a1, a2, a3, a4, a5, a6, a7, a8, a9, a10, a11, a12, a13, a14, a15, a16, a17, a18, a19, a20, a21, rfl, h⟩ := u22_ok h; exact (e r g K a0 a1 a2 a3 a4 a5 a6 a7 a8 a9 a10 a11 a12 a13 a14 a15 a16 a17 a18 a19 a20 a21 s).trans h
noncomputable def u23 (f : FV → FV → FV → FV → FV → FV → FV → FV → FV → FV → FV → FV → FV → FV → FV → FV → FV → FV → FV → FV → FV → FV → FV → GS → Bool) (vs : List FV) (s : GS) : Bool := List.rec (motive := fun _ => (FV → FV → FV → FV → FV → FV → FV → FV → FV → FV → FV → FV → FV → FV → FV → FV → FV → FV → FV → FV → FV → FV → FV → GS → Bool) → GS → Bool) (fun _ _ => false) (fun a l _ f s => u22 (f a) l s) vs f s
theorem u23_ok {f : FV → FV → FV → FV → FV → FV → FV → FV → FV → FV → FV → FV → FV → FV → FV → FV → FV → FV → FV → FV → FV → FV → FV → GS → Bool} {vs : List FV} {s : GS} (h : u23 f vs s = true) : ∃ a0 a1 a2 a3 a4 a5 a6 a7 a8 a9 a10 a11 a12 a13 a14 a15 a16 a17 a18 a19 a20 a21 a22, vs = [a0, a1, a2, a3, a4, a5, a6, a7, a8, a9, a10, a11, a12, a13, a14, a15, a16, a17, a18, a19, a20, a21, a22] ∧ f a0 a1 a2 a3 a4 a5 a6 a7 a8 a9 a10 a11 a12 a13 a14 a15 a16 a17 a18 a19 a20 a21 a22 s = true := by cases vs with | nil => cases h | cons a l => (obtain ⟨b0, b1, b2, b3, b4, b5, b6, b7, b8, b9, b10, b11, b12, b13, b14, b15, b16, b17, b18, b19, b20, b21, rfl, h⟩ := u22_ok (show u22 (f a) l s = true from h); exact ⟨a, _, _, _, _, _, _, _, _, _, _, _, _, _, _, _, _, _, _, _, _, _, _, rfl, h⟩)
theorem u23_bf {X : Ctx} {τ : Tys} {F : AF} {i : Nat} {f : Rn → Go → KS → FV → FV → FV → FV → FV → FV → FV → FV → FV → FV → FV → FV → FV → FV → FV → FV → FV → FV → FV → FV → FV → FV → FV → GS → Bool} (e : ∀ r g K a0 a1 a2 a3 a4 a5 a6 a7 a8 a9 a10 a11 a12 a13 a14 a15 a16 a17 a18 a19 a20 a21 a22 s, gBlock X τ F i r g K [a0, a1, a2, a3, a4, a5, a6, a7, a8, a9, a10, a11, a12, a13, a14, a15, a16, a17, a18, a19, a20, a21, a22] s = f r g K a0 a1 a2 a3 a4 a5 a6 a7 a8 a9 a10 a11 a12 a13 a14 a15 a16 a17 a18 a19 a20 a21 a22 s) : BF.Ok X τ F i (fun r g K => u23 (f r g K)) := fun r g K vs s h => by obtain ⟨a0, a1, a2, a3, a4, a5, a6, a7, a8, a9, a10, a11, a12, a13, a14, a15, a16, a17, a18, a19, a20, a21, a22, rfl, h⟩ := u23_ok h; exact (e r g K a0 a1 a2 a3 a4 a5 a6 a7 a8 a9 a10 a11 a12 a13 a14 a15 a16 a17 a18 a19 a20 a21 a22 s).trans h
noncomputable def u24 (f : FV → FV → FV → FV → FV → FV → FV → FV → FV → FV → FV → FV → FV → FV → FV → FV → FV → FV → FV → FV → FV → FV → FV → FV → GS → Bool) (vs : List FV) (s : GS) : Bool := List.rec (motive := fun _ => (FV → FV → FV → FV → FV → FV → FV → FV → FV → FV → FV → FV → FV → FV → FV → FV → FV → FV → FV → FV → FV → FV → FV → FV → GS → Bool) → GS → Bool) (fun _ _ => false) (fun a l _ f s => u23 (f a) l s) vs f s
theorem u24_ok {f : FV → FV → FV → FV → FV → FV → FV → FV → FV → FV → FV → FV → FV → FV → FV → FV → FV → FV → FV → FV → FV → FV → FV → FV → GS → Bool} {vs : List FV} {s : GS} (h : u24 f vs s = true) : ∃ a0 a1 a2 a3 a4 a5 a6 a7 a8 a9 a10 a11 a12 a13 a14 a15 a16 a17 a18 a19 a20 a21 a22 a23, vs = [a0, a1, a2, a3, a4, a5, a6, a7, a8, a9, a10, a11, a12, a13, a14, a15, a16, a17, a18, a19, a20, a21, a22, a23] ∧ f a0 a1 a2 a3 a4 a5 a6 a7 a8 a9 a10 a11 a12 a13 a14 a15 a16 a17 a18 a19 a20 a21 a22 a23 s = true := by cases vs with | nil => cases h | cons a l => (obtain ⟨b0, b1, b2, b3, b4, b5, b6, b7, b8, b9, b10, b11, b12, b13, b14, b15, b16, b17, b18, b19, b20, b21, b22, rfl, h⟩ := u23_ok (show u23 (f a) l s = true from h); exact ⟨a, _, _, _, _, _, _, _, _, _, _, _, _, _, _, _, _, _, _, _, _, _, _, _, rfl, h⟩)
theorem u24_bf {X : Ctx} {τ : Tys} {F : AF} {i : Nat} {f : Rn → Go → KS → FV → FV → FV → FV → FV → FV → FV → FV → FV → FV → FV → FV → FV → FV → FV → FV → FV → FV → FV → FV → FV → FV → FV → FV → GS → Bool} (e : ∀ r g K a0 a1 a2 a3 a4 a5 a6 a7 a8 a9 a10 a11 a12 a13 a14 a15 a16 a17 a18 a19 a20 a21 a22 a23 s, gBlock X τ F i r g K [a0, a1, a2, a3, a4, a5, a6, a7, a8, a9, a10, a11, a12, a13, a14, a15, a16, a17, a18, a19, a20, a21, a22, a23] s = f r g K a0 a1 a2 a3 a4 a5 a6 a7 a8 a9 a10 a11 a12 a13 a14 a15 a16 a17 a18 a19 a20 a21 a22 a23 s) : BF.Ok X τ F i (fun r g K => u24 (f r g K)) := fun r g K vs s h => by obtain ⟨a0, a1, a2, a3, a4, a5, a6, a7, a8, a9, a10, a11, a12, a13, a14, a15, a16, a17, a18, a19, a20, a21, a22, a23, rfl, h⟩ := u24_ok h; exact (e r g K a0 a1 a2 a3 a4 a5 a6 a7 a8 a9 a10 a11 a12 a13 a14 a15 a16 a17 a18 a19 a20 a21 a22 a23 s).trans h
noncomputable def u25 (f : FV → FV → FV → FV → FV → FV → FV → FV → FV → FV → FV → FV → FV → FV → FV → FV → FV → FV → FV → FV → FV → FV → FV → FV → FV → GS → Bool) (vs : List FV) (s : GS) : Bool := List.rec (motive := fun _ => (FV → FV → FV → FV → FV → FV → FV → FV → FV → FV → FV → FV → FV → FV → FV → FV → FV → FV → FV → FV → FV → FV → FV → FV → FV → GS → Bool) → GS → Bool) (fun _ _ => false) (fun a l _ f s => u24 (f a) l s) vs f s
theorem u25_ok {f : FV → FV → FV → FV → FV → FV → FV → FV → FV → FV → FV → FV → FV → FV → FV → FV → FV → FV → FV → FV → FV → FV → FV → FV → FV → GS → Bool} {vs : List FV} {s : GS} (h : u25 f vs s = true) : ∃ a0 a1 a2 a3 a4 a5 a6 a7 a8 a9 a10 a11 a12 a13 a14 a15 a16 a17 a18 a19 a20 a21 a22 a23 a24, vs = [a0, a1, a2, a3, a4, a5, a6, a7, a8, a9, a10, a11, a12, a13, a14, a15, a16, a17, a18, a19, a20, a21, a22, a23, a24] ∧ f a0 a1 a2 a3 a4 a5 a6 a7 a8 a9 a10 a11 a12 a13 a14 a15 a16 a17 a18 a19 a20 a21 a22 a23 a24 s = true := by cases vs with | nil => cases h | cons a l => (obtain ⟨b0, b1, b2, b3, b4, b5, b6, b7, b8, b9, b10, b11, b12, b13, b14, b15, b16, b17, b18, b19, b20, b21, b22, b23, rfl, h⟩ := u24_ok (show u24 (f a) l s = true from h); exact ⟨a, _, _, _, _, _, _, _, _, _, _, _, _, _, _, _, _, _, _, _, _, _, _, _, _, rfl, h⟩)
theorem u25_bf {X : Ctx} {τ : Tys} {F : AF} {i : Nat} {f : Rn → Go → KS → FV → FV → FV → FV → FV → FV → FV → FV → FV → FV → FV → FV → FV → FV → FV → FV → FV → FV → FV → FV → FV → FV → FV → FV → FV → GS → Bool} (e : ∀ r g K a0 a1 a2 a3 a4 a5 a6 a7 a8 a9 a10 a11 a12 a13 a14 a15 a16 a17 a18 a19 a20 a21 a22 a23 a24 s, gBlock X τ F i r g K [a0, a1, a2, a3, a4, a5, a6, a7, a8, a9, a10, a11, a12, a13, a14, a15, a16, a17, a18, a19, a20, a21, a22, a23, a24] s = f r g K a0 a1 a2 a3 a4 a5 a6 a7 a8 a9 a10 a11 a12 a13 a14 a15 a16 a17 a18 a19 a20 a21 a22 a23 a24 s) : BF.Ok X τ F i (fun r g K => u25 (f r g K)) := fun r g K vs s h => by obtain ⟨a0, a1, a2, a3, a4, a5, a6, a7, a8, a9, a10, a11, a12, a13, a14, a15, a16, a17, a18, a19, a20, a21, a22, a23, a24, rfl, h⟩ := u25_ok h; exact (e r g K a0 a1 a2 a3 a4 a5 a6 a7 a8 a9 a10 a11 a12 a13 a14 a15 a16 a17 a18 a19 a20 a21 a22 a23 a24 s).trans h
noncomputable def u26 (f : FV → FV → FV → FV → FV → FV → FV → FV → FV → FV → FV → FV → FV → FV → FV → FV → FV → FV → FV → FV → FV → FV → FV → FV → FV → FV → GS → Bool) (vs : List FV) (s : GS) : Bool := List.rec (motive := fun _ => (FV → FV → FV → FV → FV → FV → FV → FV → FV → FV → FV → FV → FV → FV → FV → FV → FV → FV → FV → FV → FV → FV → FV → FV → FV → FV → GS → Bool) → GS → Bool) (fun _ _ => false) (fun a l _ f s => u25 (f a) l s) vs f s
theorem u26_ok {f : FV → FV → FV → FV → FV → FV → FV → FV → FV → FV → FV → FV → FV → FV → FV → FV → FV → FV → FV → FV → FV → FV → FV → FV → FV → FV → GS → Bool} {vs : List FV} {s : GS} (h : u26 f vs s = true) : ∃ a0 a1 a2 a3 a4 a5 a6 a7 a8 a9 a10 a11 a12 a13 a14 a15 a16 a17 a18 a19 a20 a21 a22 a23 a24 a25, vs = [a0, a1, a2, a3, a4, a5, a6, a7, a8, a9, a10, a11, a12, a13, a14, a15, a16, a17, a18, a19, a20, a21, a22, a23, a24, a25] ∧ f a0 a1 a2 a3 a4 a5 a6 a7 a8 a9 a10 a11 a12 a13 a14 a15 a16 a17 a18 a19 a20 a21 a22 a23 a24 a25 s = true := by cases vs with | nil => cases h | cons a l => (obtain ⟨b0, b1, b2, b3, b4, b5, b6, b7, b8, b9, b10, b11, b12, b13, b14, b15, b16, b17, b18, b19, b20, b21, b22, b23, b24, rfl, h⟩ := u25_ok (show u25 (f a) l s = true from h); exact ⟨a, _, _, _, _, _, _, _, _, _, _, _, _, _, _, _, _, _, _, _, _, _, _, _, _, _, rfl, h⟩)
theorem u26_bf {X : Ctx} {τ : Tys} {F : AF} {i : Nat} {f : Rn → Go → KS → FV → FV → FV → FV → FV → FV → FV → FV → FV → FV → FV → FV → FV → FV → FV → FV → FV → FV → FV → FV → FV → FV → FV → FV → FV → FV → GS → Bool} (e : ∀ r g K a0 a1 a2 a3 a4 a5 a6 a7 a8 a9 a10 a11 a12 a13 a14 a15 a16 a17 a18 a19 a20 a21 a22 a23 a24 a25 s, gBlock X τ F i r g K [a0, a1, a2, a3, a4, a5, a6, a7, a8, a9, a10, a11, a12, a13, a14, a15, a16, a17, a18, a19, a20, a21, a22, a23, a24, a25] s = f r g K a0 a1 a2 a3 a4 a5 a6 a7 a8 a9 a10 a11 a12 a13 a14 a15 a16 a17 a18 a19 a20 a21 a22 a23 a24 a25 s) : BF.Ok X τ F i (fun r g K => u26 (f r g K)) := fun r g K vs s h => by obtain ⟨a0, a1, a2, a3, a4, a5, a6, a7, a8, a9, a10, a11, a12, a13, a14, a15, a16, a17, a18, a19, a20, a21, a22, a23, a24, a25, rfl, h⟩ := u26_ok h; exact (e r g K a0 a1 a2 a3 a4 a5 a6 a7 a8 a9 a10 a11 a12 a13 a14 a15 a16 a17 a18 a19 a20 a21 a22 a23 a24 a25 s).trans h
noncomputable def u27 (f : FV → FV → FV → FV → FV → FV → FV → FV → FV → FV → FV → FV → FV → FV → FV → FV → FV → FV → FV → FV → FV → FV → FV → FV → FV → FV → FV → GS → Bool) (vs : List FV) (s : GS) : Bool := List.rec (motive := fun _ => (FV → FV → FV → FV → FV → FV → FV → FV → FV → FV → FV → FV → FV → FV → FV → FV → FV → FV → FV → FV → FV → FV → FV → FV → FV → FV → FV → GS → Bool) → GS → Bool) (fun _ _ => false) (fun a l _ f s => u26 (f a) l s) vs f s
theorem u27_ok {f : FV → FV → FV → FV → FV → FV → FV → FV → FV → FV → FV → FV → FV → FV → FV → FV → FV → FV → FV → FV → FV → FV → FV → FV → FV → FV → FV → GS → Bool} {vs : List FV} {s : GS} (h : u27 f vs s = true) : ∃ a0 a1 a2 a3 a4 a5 a6 a7 a8 a9 a10 a11 a12 a13 a14 a15 a16 a17 a18 a19 a20 a21 a22 a23 a24 a25 a26, vs = [a0, a1, a2, a3, a4, a5, a6, a7, a8, a9, a10, a11, a12, a13, a14, a15, a16, a17, a18, a19, a20, a21, a22, a23, a24, a25, a26] ∧ f a0 a1 a2 a3 a4 a5 a6 a7 a8 a9 a10 a11 a12 a13 a14 a15 a16 a17 a18 a19 a20 a21 a22 a23 a24 a25 a26 s = true := by cases vs with | nil => cases h | cons a l => (obtain ⟨b0, b1, b2, b3, b4, b5, b6, b7, b8, b9, b10, b11, b12, b13, b14, b15, b16, b17, b18, b19, b20, b21, b22, b23, b24, b25, rfl, h⟩ := u26_ok (show u26 (f a) l s = true from h); exact ⟨a, _, _, _, _, _, _, _, _, _, _, _, _, _, _, _, _, _, _, _, _, _, _, _, _, _, _, rfl, h⟩)
theorem u27_bf {X : Ctx} {τ : Tys} {F : AF} {i : Nat} {f : Rn → Go → KS → FV → FV → FV → FV → FV → FV → FV → FV → FV → FV → FV → FV → FV → FV → FV → FV → FV → FV → FV → FV → FV → FV → FV → FV → FV → FV → FV → GS → Bool} (e : ∀ r g K a0 a1 a2 a3 a4 a5 a6 a7 a8 a9 a10 a11 a12 a13 a14 a15 a16 a17 a18 a19 a20 a21 a22 a23 a24 a25 a26 s, gBlock X τ F i r g K [a0, a1, a2, a3, a4, a5, a6, a7, a8, a9, a10, a11, a12, a13, a14, a15, a16, a17, a18, a19, a20, a21, a22, a23, a24, a25, a26] s = f r g K a0 a1 a2 a3 a4 a5 a6 a7 a8 a9 a10 a11 a12 a13 a14 a15 a16 a17 a18 a19 a20 a21 a22 a23 a24 a25 a26 s) : BF.Ok X τ F i (fun r g K => u27 (f r g K)) := fun r g K vs s h => by obtain ⟨a0, a1, a2, a3, a4, a5, a6, a7, a8, a9, a10, a11, a12, a13, a14, a15, a16, a17, a18, a19, a20, a21, a22, a23, a24, a25, a26, rfl, h⟩ := u27_ok h; exact (e r g K a0 a1 a2 a3 a4 a5 a6 a7 a8 a9 a10 a11 a12 a13 a14 a15 a16 a17 a18 a19 a20 a21 a22 a23 a24 a25 a26 s).trans h
noncomputable def u28 (f : FV → FV → FV → FV → FV → FV → FV → FV → FV → FV → FV → FV → FV → FV → FV → FV → FV → FV → FV → FV → FV → FV → FV → FV → FV → FV → FV → FV → GS → Bool) (vs : List FV) (s : GS) : Bool := List.rec (motive := fun _ => (FV → FV → FV → FV → FV → FV → FV → FV → FV → FV → FV → FV → FV → FV → FV → FV → FV → FV → FV → FV → FV → FV → FV → FV → FV → FV → FV → FV → GS → Bool) → GS → Bool) (fun _ _ => false) (fun a l _ f s => u27 (f a) l s) vs f s
theorem u28_ok {f : FV → FV → FV → FV → FV → FV → FV → FV → FV → FV → FV → FV → FV → FV → FV → FV → FV → FV → FV → FV → FV → FV → FV → FV → FV → FV → FV → FV → GS → Bool} {vs : List FV} {s : GS} (h : u28 f vs s = true) : ∃ a0 a1 a2 a3 a4 a5 a6 a7 a8 a9 a10 a11 a12 a13 a14 a15 a16 a17 a18 a19 a20 a21 a22 a23 a24 a25 a26 a27, vs = [a0, a1, a2, a3, a4, a5, a6, a7, a8, a9, a10, a11, a12, a13, a14, a15, a16, a17, a18, a19, a20, a21, a22, a23, a24, a25, a26, a27] ∧ f a0 a1 a2 a3 a4 a5 a6 a7 a8 a9 a10 a11 a12 a13 a14 a15 a16 a17 a18 a19 a20 a21 a22 a23 a24 a25 a26 a27 s = true := by cases vs with | nil => cases h | cons a l => (obtain ⟨b0, b1, b2, b3, b4, b5, b6, b7, b8, b9, b10, b11, b12, b13, b14, b15, b16, b17, b18, b19, b20, b21, b22, b23, b24, b25, b26, rfl, h⟩ := u27_ok (show u27 (f a) l s = true from h); exact ⟨a, _, _, _, _, _, _, _, _, _, _, _, _, _, _, _, _, _, _, _, _, _, _, _, _, _, _, _, rfl, h⟩)
theorem u28_bf {X : Ctx} {τ : Tys} {F : AF} {i : Nat} {f : Rn → Go → KS → FV → FV → FV → FV → FV → FV → FV → FV → FV → FV → FV → FV → FV → FV → FV → FV → FV → FV → FV → FV → FV → FV → FV → FV → FV → FV → FV → FV → GS → Bool} (e : ∀ r g K a0 a1 a2 a3 a4 a5 a6 a7 a8 a9 a10 a11 a12 a13 a14 a15 a16 a17 a18 a19 a20 a21 a22 a23 a24 a25 a26 a27 s, gBlock X τ F i r g K [a0, a1, a2, a3, a4, a5, a6, a7, a8, a9, a10, a11, a12, a13, a14, a15, a16, a17, a18, a19, a20, a21, a22, a23, a24, a25, a26, a27] s = f r g K a0 a1 a2 a3 a4 a5 a6 a7 a8 a9 a10 a11 a12 a13 a14 a15 a16 a17 a18 a19 a20 a21 a22 a23 a24 a25 a26 a27 s) : BF.Ok X τ F i (fun r g K => u28 (f r g K)) := fun r g K vs s h => by obtain ⟨a0, a1, a2, a3, a4, a5, a6, a7, a8, a9, a10, a11, a12, a13, a14, a15, a16, a17, a18, a19, a20, a21, a22, a23, a24, a25, a26, a27, rfl, h⟩ := u28_ok h; exact (e r g K a0 a1 a2 a3 a4 a5 a6 a7 a8 a9 a10 a11 a12 a13 a14 a15 a16 a17 a18 a19 a20 a21 a22 a23 a24 a25 a26 a27 s).trans h
noncomputable def u29 (f : FV → FV → FV → FV → FV → FV → FV → FV → FV → FV → FV → FV → FV → FV → FV → FV → FV → FV → FV → FV → FV → FV → FV → FV → FV → FV → FV → FV → FV → GS → Bool) (vs : List FV) (s : GS) : Bool := List.rec (motive := fun _ => (FV → FV → FV → FV → FV → FV → FV → FV → FV → FV → FV → FV → FV → FV → FV → FV → FV → FV → FV → FV → FV → FV → FV → FV → FV → FV → FV → FV → FV → GS → Bool) → GS → Bool) (fun _ _ => false) (fun a l _ f s => u28 (f a) l s) vs f s
theorem u29_ok {f : FV → FV → FV → FV → FV → FV → FV → FV → FV → FV → FV → FV → FV → FV → FV → FV → FV → FV → FV → FV → FV → FV → FV → FV → FV → FV → FV → FV → FV → GS → Bool} {vs : List FV} {s : GS} (h : u29 f vs s = true) : ∃ a0 a1 a2 a3 a4 a5 a6 a7 a8 a9 a10 a11 a12 a13 a14 a15 a16 a17 a18 a19 a20 a21 a22 a23 a24 a25 a26 a27 a28, vs = [a0, a1, a2, a3, a4, a5, a6, a7, a8, a9, a10, a11, a12, a13, a14, a15, a16, a17, a18, a19, a20, a21, a22, a23, a24, a25, a26, a27, a28] ∧ f a0 a1 a2 a3 a4 a5 a6 a7 a8 a9 a10 a11 a12 a13 a14 a15 a16 a17 a18 a19 a20 a21 a22 a23 a24 a25 a26 a27 a28 s = true := by cases vs with | nil => cases h | cons a l => (obtain ⟨b0, b1, b2, b3, b4, b5, b6, b7, b8, b9, b10, b11, b12, b13, b14, b15, b16, b17, b18, b19, b20, b21, b22, b23, b24, b25, b26, b27, rfl, h⟩ := u28_ok (show u28 (f a) l s = true from h); exact ⟨a, _, _, _, _, _, _, _, _, _, _, _, _, _, _, _, _, _, _, _, _, _, _, _, _, _, _, _, _, rfl, h⟩)
theorem u29_bf {X : Ctx} {τ : Tys} {F : AF} {i : Nat} {f : Rn → Go → KS → FV → FV → FV → FV → FV → FV → FV → FV → FV → FV → FV → FV → FV → FV → FV → FV → FV → FV → FV → FV → FV → FV → FV → FV → FV → FV → FV → FV → FV → GS → Bool} (e : ∀ r g K a0 a1 a2 a3 a4 a5 a6 a7 a8 a9 a10 a11 a12 a13 a14 a15 a16 a17 a18 a19 a20 a21 a22 a23 a24 a25 a26 a27 a28 s, gBlock X τ F i r g K [a0, a1, a2, a3, a4, a5, a6, a7, a8, a9, a10, a11, a12, a13, a14, a15, a16, a17, a18, a19, a20, a21, a22, a23, a24, a25, a26, a27, a28] s = f r g K a0 a1 a2 a3 a4 a5 a6 a7 a8 a9 a10 a11 a12 a13 a14 a15 a16 a17 a18 a19 a20 a21 a22 a23 a24 a25 a26 a27 a28 s) : BF.Ok X τ F i (fun r g K => u29 (f r g K)) := fun r g K vs s h => by obtain ⟨a0, a1, a2, a3, a4, a5, a6, a7, a8, a9, a10, a11, a12, a13, a14, a15, a16, a17, a18, a19, a20, a21, a22, a23, a24, a25, a26, a27, a28, rfl, h⟩ := u29_ok h; exact (e r g K a0 a1 a2 a3 a4 a5 a6 a7 a8 a9 a10 a11 a12 a13 a14 a15 a16 a17 a18 a19 a20 a21 a22 a23 a24 a25 a26 a27 a28 s).trans h
noncomputable def u30 (f : FV → FV → FV → FV → FV → FV → FV → FV → FV → FV → FV → FV → FV → FV → FV → FV → FV → FV → FV → FV → FV → FV → FV → FV → FV → FV → FV → FV → FV → FV → GS → Bool) (vs : List FV) (s : GS) : Bool := List.rec (motive := fun _ => (FV → FV → FV → FV → FV → FV → FV → FV → FV → FV → FV → FV → FV → FV → FV → FV → FV → FV → FV → FV → FV → FV → FV → FV → FV → FV → FV → FV → FV → FV → GS → Bool) → GS → Bool) (fun _ _ => false) (fun a l _ f s => u29 (f a) l s) vs f s
theorem u30_ok {f : FV → FV → FV → FV → FV → FV → FV → FV → FV → FV → FV → FV → FV → FV → FV → FV → FV → FV → FV → FV → FV → FV → FV → FV → FV → FV → FV → FV → FV → FV → GS → Bool} {vs : List FV} {s : GS} (h : u30 f vs s = true) : ∃ a0 a1 a2 a3 a4 a5 a6 a7 a8 a9 a10 a11 a12 a13 a14 a15 a16 a17 a18 a19 a20 a21 a22 a23 a24 a25 a26 a27 a28 a29, vs = [a0, a1, a2, a3, a4, a5, a6, a7, a8, a9, a10, a11, a12, a13, a14, a15, a16, a17, a18, a19, a20, a21, a22, a23, a24, a25, a26, a27, a28, a29] ∧ f a0 a1 a2 a3 a4 a5 a6 a7 a8 a9 a10 a11 a12 a13 a14 a15 a16 a17 a18 a19 a20 a21 a22 a23 a24 a25 a26 a27 a28 a29 s = true := by cases vs with | nil => cases h | cons a l => (obtain ⟨b0, b1, b2, b3, b4, b5, b6, b7, b8, b9, b10, b11, b12, b13, b14, b15, b16, b17, b18, b19, b20, b21, b22, b23, b24, b25, b26, b27, b28, rfl, h⟩ := u29_ok (show u29 (f a) l s = true from h); exact ⟨a, _, _, _, _, _, _, _, _, _, _, _, _, _, _, _, _, _, _, _, _, _, _, _, _, _, _, _, _, _, rfl, h⟩)
theorem u30_bf {X : Ctx} {τ : Tys} {F : AF} {i : Nat} {f : Rn → Go → KS → FV → FV → FV → FV → FV → FV → FV → FV → FV → FV → FV → FV → FV → FV → FV → FV → FV → FV → FV → FV → FV → FV → FV → FV → FV → FV → FV → FV → FV → FV → GS → Bool} (e : ∀ r g K a0 a1 a2 a3 a4 a5 a6 a7 a8 a9 a10 a11 a12 a13 a14 a15 a16 a17 a18 a19 a20 a21 a22 a23 a24 a25 a26 a27 a28 a29 s, gBlock X τ F i r g K [a0, a1, a2, a3, a4, a5, a6, a7, a8, a9, a10, a11, a12, a13, a14, a15, a16, a17, a18, a19, a20, a21, a22, a23, a24, a25, a26, a27, a28, a29] s = f r g K a0 a1 a2 a3 a4 a5 a6 a7 a8 a9 a10 a11 a12 a13 a14 a15 a16 a17 a18 a19 a20 a21 a22 a23 a24 a25 a26 a27 a28 a29 s) : BF.Ok X τ F i (fun r g K => u30 (f r g K)) := fun r g K vs s h => by obtain ⟨a0, a1, a2, a3, a4, a5, a6, a7, a8, a9, a10, a11, a12, a13, a14, a15, a16, a17, a18, a19, a20, a21, a22, a23, a24, a25, a26, a27, a28, a29, rfl, h⟩ := u30_ok h; exact (e r g K a0 a1 a2 a3 a4 a5 a6 a7 a8 a9 a10 a11 a12 a13 a14 a15 a16 a17 a18 a19 a20 a21 a22 a23 a24 a25 a26 a27 a28 a29 s).trans h
noncomputable def u31 (f : FV → FV → FV → FV → FV → FV → FV → FV → FV → FV → FV → FV → FV → FV → FV → FV → FV → FV → FV → FV → FV → FV → FV → FV → FV → FV → FV → FV → FV → FV → FV → GS → Bool) (vs : List FV) (s : GS) : Bool := List.rec (motive := fun _ => (FV → FV → FV → FV → FV → FV → FV → FV → FV → FV → FV → FV → FV → FV → FV → FV → FV → FV → FV → FV → FV → FV → FV → FV → FV → FV → FV → FV → FV → FV → FV → GS → Bool) → GS → Bool) (fun _ _ => false) (fun a l _ f s => u30 (f a) l s) vs f s
theorem u31_ok {f : FV → FV → FV → FV → FV → FV → FV → FV → FV → FV → FV → FV → FV → FV → FV → FV → FV → FV → FV → FV → FV → FV → FV → FV → FV → FV → FV → FV → FV → FV → FV → GS → Bool} {vs : List FV} {s : GS} (h : u31 f vs s = true) : ∃ a0 a1 a2 a3 a4 a5 a6 a7 a8 a9 a10 a11 a12 a13 a14 a15 a16 a17 a18 a19 a20 a21 a22 a23 a24 a25 a26 a27 a28 a29 a30, vs = [a0, a1, a2, a3, a4, a5, a6, a7, a8, a9, a10, a11, a12, a13, a14, a15, a16, a17, a18, a19, a20, a21, a22, a23, a24, a25, a26, a27, a28, a29, a30] ∧ f a0 a1 a2 a3 a4 a5 a6 a7 a8 a9 a10 a11 a12 a13 a14 a15 a16 a17 a18 a19 a20 a21 a22 a23 a24 a25 a26 a27 a28 a29 a30 s = true := by cases vs with | nil => cases h | cons a l => (obtain ⟨b0, b1, b2, b3, b4, b5, b6, b7, b8, b9, b10, b11, b12, b13, b14, b15, b16, b17, b18, b19, b20, b21, b22, b23, b24, b25, b26, b27, b28, b29, rfl, h⟩ := u30_ok (show u30 (f a) l s = true from h); exact ⟨a, _, _, _, _, _, _, _, _, _, _, _, _, _, _, _, _, _, _, _, _, _, _, _, _, _, _, _, _, _, _, rfl, h⟩)
theorem u31_bf {X : Ctx} {τ : Tys} {F : AF} {i : Nat} {f : Rn → Go → KS → FV → FV → FV → FV → FV → FV → FV → FV → FV → FV → FV → FV → FV → FV → FV → FV → FV → FV → FV → FV → FV → FV → FV → FV → FV → FV → FV → FV → FV → FV → FV → GS → Bool} (e : ∀ r g K a0 a1 a2 a3 a4 a5 a6 a7 a8 a9 a10 a11 a12 a13 a14 a15 a16 a17 a18 a19 a20 a21 a22 a23 a24 a25 a26 a27 a28 a29 a30 s, gBlock X τ F i r g K [a0, a1, a2, a3, a4, a5, a6, a7, a8, a9, a10, a11, a12, a13, a14, a15, a16, a17, a18, a19, a20, a21, a22, a23, a24, a25, a26, a27, a28, a29, a30] s = f r g K a0 a1 a2 a3 a4 a5 a6 a7 a8 a9 a10 a11 a12 a13 a14 a15 a16 a17 a18 a19 a20 a21 a22 a23 a24 a25 a26 a27 a28 a29 a30 s) : BF.Ok X τ F i (fun r g K => u31 (f r g K)) := fun r g K vs s h => by obtain ⟨a0, a1, a2, a3, a4, a5, a6, a7, a8, a9, a10, a11, a12, a13, a14, a15, a16, a17, a18, a19, a20, a21, a22, a23, a24, a25, a26, a27, a28, a29, a30, rfl, h⟩ := u31_ok h; exact (e r g K a0 a1 a2 a3 a4 a5 a6 a7 a8 a9 a10 a11 a12 a13 a14 a15 a16 a17 a18 a19 a20 a21 a22 a23 a24 a25 a26 a27 a28 a29 a30 s).trans h
noncomputable def u32 (f : FV → FV → FV → FV → FV → FV → FV → FV → FV → FV → FV → FV → FV → FV → FV → FV → FV → FV → FV → FV → FV → FV → FV → FV → FV → FV → FV → FV → FV → FV → FV → FV → GS → Bool) (vs : List FV) (s : GS) : Bool := List.rec (motive := fun _ => (FV → FV → FV → FV → FV → FV → FV → FV → FV → FV → FV → FV → FV → FV → FV → FV → FV → FV → FV → FV → FV → FV → FV → FV → FV → FV → FV → FV → FV → FV → FV → FV → GS → Bool) → GS → Bool) (fun _ _ => false) (fun a l _ f s => u31 (f a) l s) vs f s
theorem u32_ok {f : FV → FV → FV → FV → FV → FV → FV → FV → FV → FV → FV → FV → FV → FV → FV → FV → FV → FV → FV → FV → FV → FV → FV → FV → FV → FV → FV → FV → FV → FV → FV → FV → GS → Bool} {vs : List FV} {s : GS} (h : u32 f vs s = true) : ∃ a0 a1 a2 a3 a4 a5 a6 a7 a8 a9 a10 a11 a12 a13 a14 a15 a16 a17 a18 a19 a20 a21 a22 a23 a24 a25 a26 a27 a28 a29 a30 a31, vs = [a0, a1, a2, a3, a4, a5, a6, a7, a8, a9, a10, a11, a12, a13, a14, a15, a16, a17, a18, a19, a20, a21, a22, a23, a24, a25, a26, a27, a28, a29, a30, a31] ∧ f a0 a1 a2 a3 a4 a5 a6 a7 a8 a9 a10 a11 a12 a13 a14 a15 a16 a17 a18 a19 a20 a21 a22 a23 a24 a25 a26 a27 a28 a29 a30 a31 s = true := by cases vs with | nil => cases h | cons a l => (obtain ⟨b0, b1, b2, b3, b4, b5, b6, b7, b8, b9, b10, b11, b12, b13, b14, b15, b16, b17, b18, b19, b20, b21, b22, b23, b24, b25, b26, b27, b28, b29, b30, rfl, h⟩ := u31_ok (show u31 (f a) l s = true from h); exact ⟨a, _, _, _, _, _, _, _, _, _, _, _, _, _, _, _, _, _, _, _, _, _, _, _, _, _, _, _, _, _, _, _, rfl, h⟩)
theorem u32_bf {X : Ctx} {τ : Tys} {F : AF} {i : Nat} {f : Rn → Go → KS → FV → FV → FV → FV → FV → FV → FV → FV → FV → FV → FV → FV → FV → FV → FV → FV → FV → FV → FV → FV → FV → FV → FV → FV → FV → FV → FV → FV → FV → FV → FV → FV → GS → Bool} (e : ∀ r g K a0 a1 a2 a3 a4 a5 a6 a7 a8 a9 a10 a11 a12 a13 a14 a15 a16 a17 a18 a19 a20 a21 a22 a23 a24 a25 a26 a27 a28 a29 a30 a31 s, gBlock X τ F i r g K [a0, a1, a2, a3, a4, a5, a6, a7, a8, a9, a10, a11, a12, a13, a14, a15, a16, a17, a18, a19, a20, a21, a22, a23, a24, a25, a26, a27, a28, a29, a30, a31] s = f r g K a0 a1 a2 a3 a4 a5 a6 a7 a8 a9 a10 a11 a12 a13 a14 a15 a16 a17 a18 a19 a20 a21 a22 a23 a24 a25 a26 a27 a28 a29 a30 a31 s) : BF.Ok X τ F i (fun r g K => u32 (f r g K)) := fun r g K vs s h => by obtain ⟨a0, a1, a2, a3, a4, a5, a6, a7, a8, a9, a10, a11, a12, a13, a14, a15, a16, a17, a18, a19, a20, a21, a22, a23, a24, a25, a26, a27, a28, a29, a30, a31, rfl, h⟩ := u32_ok h; exact (e r g K a0 a1 a2 a3 a4 a5 a6 a7 a8 a9 a10 a11 a12 a13 a14 a15 a16 a17 a18 a19 a20 a21 a22 a23 a24 a25 a26 a27 a28 a29 a30 a31 s).trans h
end Go.Abs
