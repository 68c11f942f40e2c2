/- The layer Abs, part 17: a region that draws its order comes to what the evaluator's own order comes to. -/
import Derived.Test.YtjphfiieapclhaaDoorAbs16
namespace Go.Abs

theorem get_put_self {d : Nat} {v : AV} {e : Env} : get (put (some d) v e) d = v := by simp [put, get]
theorem get_put_ne {d : Option Nat} {v : AV} {e : Env} {x : Nat} (h : d ≠ some x) : get (put d v e) x = get e x := by
  cases d with
  | none => rfl
  | some d =>
    have hne : ¬ d = x := fun he => h (by rw [he])
    simp [put, get, hne]

theorem drw_recs {X : Ctx} {run : Run} : ∀ (l : List (AI × List AI)) (e : Env) (σ : St) (e' : Env) (σ' : St), aDrw X run l e σ = some (e', σ') →
    ∃ (E : Nat → Env) (S : Nat → St) (V : Nat → AV), E 0 = e ∧ S 0 = σ ∧ E l.length = e' ∧ S l.length = σ' ∧
      ∀ (p : Nat) (a : AI) (ag : List AI), l[p]? = some (a, ag) → aStep X run (E p) a (S p) = some (V p, S (p + 1)) ∧ E (p + 1) = put a.d (V p) (E p) ∧ ∀ b ∈ ag, aAgain X (E p) (S (p + 1)) b = true
  | [], e, σ, e', σ', h => by
    cases h
    exact ⟨fun _ => e, fun _ => σ, fun _ => .u, rfl, rfl, rfl, rfl, fun p a ag hp => by simp at hp⟩
  | (a, ag) :: l, e, σ, e', σ', h => by
    simp only [aDrw] at h
    split at h
    · rename_i v σ1 hst
      split at h
      · rename_i hag
        obtain ⟨E, S, V, h1, h2, h3, h4, h5⟩ := drw_recs l _ _ _ _ h
        refine ⟨fun | 0 => e | p + 1 => E p, fun | 0 => σ | p + 1 => S p, fun | 0 => v | p + 1 => V p, rfl, rfl, h3, h4, ?_⟩
        intro p a' ag' hp
        cases p with
        | zero =>
          simp only [List.getElem?_cons_zero, Option.some.injEq, Prod.mk.injEq] at hp
          obtain ⟨rfl, rfl⟩ := hp
          refine ⟨by simpa [h2] using hst, h1, ?_⟩
          intro b hb
          simp only [List.all_eq_true] at hag
          simpa [h2] using hag b hb
        | succ p =>
          exact h5 p a' ag' (by simpa using hp)
      · cases h
    · cases h

section
variable {X : Ctx} {G N : Nat} {ops : Array Oper} {T : List DI}

/-- A run of the evaluator's over the table. -/
structure Runs (X : Ctx) (run : Run) (T : List DI) (E : Nat → Env) (S : Nat → St) (V : Nat → AV) : Prop where
  step : ∀ (p : Nat) (t : DI), T[p]? = some t → aStep X run (E p) t.a (S p) = some (V p, S (p + 1))
  env : ∀ (p : Nat) (t : DI), T[p]? = some t → E (p + 1) = put t.a.d (V p) (E p)
  again : ∀ (p : Nat) (t : DI), T[p]? = some t → ∀ b ∈ t.again, aAgain X (E p) (S (p + 1)) b = true

variable {run : Run} {E : Nat → Env} {S : Nat → St} {V : Nat → AV}

/-- A slot that no operation from q on, before p, writes. -/
theorem get_keep (hR : Runs X run T E S V) {x : Nat} : ∀ (p q : Nat), q ≤ p → p ≤ T.length → (∀ (r : Nat) (c : DI), q ≤ r → r < p → T[r]? = some c → c.a.d ≠ some x) → get (E p) x = get (E q) x
  | 0, q, hq, _, _ => by rw [show q = 0 by omega]
  | p + 1, q, hq, hp, h => by
    by_cases hqp : q = p + 1
    · rw [hqp]
    · have ht : T[p]? = some T[p] := List.getElem?_eq_getElem (by omega)
      rw [hR.env p _ ht, get_put_ne (h p _ (by omega) (by omega) ht)]
      exact get_keep hR p q (by omega) (by omega) fun r c h1 h2 h3 => h r c h1 (by omega) h3
theorem get_wrote (hT : Tab X.P G N ops T) (hR : Runs X run T E S V) {x q p : Nat} {t : DI} (hq : T[q]? = some t) (hx : t.a.d = some x) (hqp : q < p) (hp : p ≤ T.length) : get (E p) x = V q := by
  rw [get_keep hR p (q + 1) (by omega) hp fun r c h1 h2 h3 => hT.dst q t r c (by omega) hq h3 x hx, hR.env q t hq, hx, get_put_self]
theorem store_keep (hR : Runs X run T E S V) : ∀ (p q : Nat), q ≤ p → p ≤ T.length → (∀ (r : Nat) (c : DI), q ≤ r → r < p → T[r]? = some c → c.a.op.pure = true) → S p = S q
  | 0, q, hq, _, _ => by rw [show q = 0 by omega]
  | p + 1, q, hq, hp, h => by
    by_cases hqp : q = p + 1
    · rw [hqp]
    · have ht : T[p]? = some T[p] := List.getElem?_eq_getElem (by omega)
      rw [aStep_pure (h p _ (by omega) (by omega) ht) (hR.step p _ ht)]
      exact store_keep hR p q (by omega) (by omega) fun r c h1 h2 h3 => h r c h1 (by omega) h3

/-- What is executed: with each operation all that it is bound to come after. -/
def Closed (ops : Array Oper) (L : Nat → Prop) : Prop := ∀ i, L i → ∀ j ∈ bindsOf ops i, L j
theorem anc_in (hT : Tab X.P G N ops T) {L : Nat → Prop} (hc : Closed ops L) : ∀ (p : Nat) (t : DI), T[p]? = some t → (∀ j ∈ bindsOf ops t.i, L j) → ∀ j ∈ t.anc, L j := by
  intro p
  induction p using Nat.strongRecOn with
  | _ p ih =>
    intro t ht hb j hj
    rcases hT.anc p t ht j hj with h | ⟨q, b, hq, hqb, hbi, hjb⟩
    · exact hb j h
    · exact ih q hq b hqb (hc _ (hb _ hbi)) j hjb

/-- Where the execution stands. -/
structure At (X : Ctx) (G N : Nat) (ops : Array Oper) (T : List DI) (E : Nat → Env) (S : Nat → St) (V : Nat → AV) (L : Nat → Prop) (c : Nat) (ec : Env) : Prop where
  closed : Closed ops L
  le : c ≤ T.length
  cut : ∀ (q : Nat) (t : DI), T[q]? = some t → t.a.op.pure = false → (q < c ↔ L t.i)
  wrote : ∀ (q : Nat) (t : DI) (x : Nat), T[q]? = some t → L t.i → t.a.d = some x → get ec x = V q
  kept : ∀ (x : Nat), (∀ (q : Nat) (t : DI), T[q]? = some t → L t.i → t.a.d ≠ some x) → get ec x = get (E 0) x

variable {L : Nat → Prop} {c : Nat} {ec : Env}

theorem pos_eq (hT : Tab X.P G N ops T) {p q : Nat} {t u : DI} (hp : T[p]? = some t) (hq : T[q]? = some u) (h : t.i = u.i) : p = q := by
  rcases Nat.lt_trichotomy p q with hl | hl | hl
  · exact absurd h (hT.ne p t q u hl hp hq)
  · exact hl
  · exact absurd h.symm (hT.ne q u p t hl hq hp)
theorem dst_eq (hT : Tab X.P G N ops T) {p q : Nat} {t u : DI} {x : Nat} (hp : T[p]? = some t) (hq : T[q]? = some u) (h : t.a.d = some x) (k : u.a.d = some x) : p = q := by
  rcases Nat.lt_trichotomy p q with hl | hl | hl
  · exact absurd k (hT.dst p t q u hl hp hq x h)
  · exact hl
  · exact absurd h (hT.dst q u p t hl hq hp x k)

/-- What an operation that is next looks at: the same as in the evaluator's order. -/
theorem At.agree (hT : Tab X.P G N ops T) (hR : Runs X run T E S V) (h : At X G N ops T E S V L c ec) {p : Nat} {t : DI} (hp : T[p]? = some t) (hn : ¬ L t.i) (hb : ∀ j ∈ bindsOf ops t.i, L j) :
    ∀ x ∈ t.a.slots, get ec x = get (E p) x := by
  intro x hx
  have hlen : p < T.length := lt_of_get hp
  by_cases hw : ∃ (q : Nat) (u : DI), T[q]? = some u ∧ u.a.d = some x
  · obtain ⟨q, u, hq, hu⟩ := hw
    rcases Nat.lt_trichotomy q p with hl | hl | hl
    · have hL := anc_in hT h.closed p t hp hb _ (hT.raw q u p t hl hq hp x hu hx)
      rw [h.wrote q u x hq hL hu, get_wrote hT hR hq hu hl (by omega)]
    · subst hl
      rw [hp] at hq; cases hq
      rw [h.kept x fun r v hr hv hd => by
        have hpr := dst_eq hT hp hr hu hd
        subst hpr
        rw [hp] at hr; cases hr
        exact hn hv]
      rw [get_keep hR q 0 (by omega) (by omega) fun r v _ h2 hr hd => by have := dst_eq hT hp hr hu hd; omega]
    · have hA := hT.war p t q u hl hp hq x hu hx
      have hnu : ¬ L u.i := fun hL => hn (anc_in hT h.closed q u hq (h.closed _ hL) _ hA)
      rw [h.kept x fun r v hr hv hd => by
        have := dst_eq hT hq hr hu hd
        subst this
        rw [hq] at hr; cases hr
        exact hnu hv]
      rw [get_keep hR p 0 (by omega) (by omega) fun r v _ h2 hr hd => by have := dst_eq hT hq hr hu hd; omega]
  · rw [h.kept x fun r v hr _ hd => hw ⟨r, v, hr, hd⟩]
    rw [get_keep hR p 0 (by omega) (by omega) fun r v _ _ hr hd => hw ⟨r, v, hr, hd⟩]

theorem last_eff (T : List DI) (p : Nat) : ∀ c : Nat, (∀ (r : Nat) (v : DI), p ≤ r → r < c → T[r]? = some v → v.a.op.pure = true) ∨
    ∃ (q : Nat) (u : DI), p ≤ q ∧ q < c ∧ T[q]? = some u ∧ u.a.op.pure = false ∧ ∀ (r : Nat) (v : DI), q < r → r < c → T[r]? = some v → v.a.op.pure = true
  | 0 => .inl fun r v _ h => by omega
  | c + 1 => by
    by_cases hc : ∃ u, T[c]? = some u ∧ u.a.op.pure = false ∧ p ≤ c
    · obtain ⟨u, hu, hpu, hpc⟩ := hc
      exact .inr ⟨c, u, hpc, by omega, hu, hpu, fun r v h1 h2 => by omega⟩
    · have hc' : ∀ (v : DI), p ≤ c → T[c]? = some v → v.a.op.pure = true := fun v h1 h2 => by
        cases hh : v.a.op.pure with
        | true => rfl
        | false => exact absurd ⟨v, h2, hh, h1⟩ hc
      rcases last_eff T p c with h | ⟨q, u, h1, h2, h3, h4, h5⟩
      · refine .inl fun r v hr hrc hv => ?_
        by_cases hrc' : r = c
        · subst hrc'; exact hc' v hr hv
        · exact h r v hr (by omega) hv
      · refine .inr ⟨q, u, h1, by omega, h3, h4, fun r v hr hrc hv => ?_⟩
        by_cases hrc' : r = c
        · subst hrc'; exact hc' v (by omega) hv
        · exact h5 r v hr (by omega) hv

/-- What the next operation does. -/
theorem At.next (hT : Tab X.P G N ops T) (hR : Runs X run T E S V) (h : At X G N ops T E S V L c ec) {p : Nat} {t : DI} (hp : T[p]? = some t) (hn : ¬ L t.i) (hb : ∀ j ∈ bindsOf ops t.i, L j) {o : Oper} (ho : ops[t.i]? = some o) :
    ∃ run' a' c', (run' = run ∨ run' = fun _ _ _ => none) ∧ okAI X.P G N ops o a' = true ∧ aStep X run' ec a' (S c) = some (V p, S c') ∧ c' ≤ T.length ∧
      ∀ (q : Nat) (u : DI), T[q]? = some u → u.a.op.pure = false → (q < c' ↔ L u.i ∨ q = p) := by
  have hlen : p < T.length := lt_of_get hp
  have hok : okAI X.P G N ops o t.a = true := by
    obtain ⟨o', ho', h'⟩ := hT.at' p t hp
    rw [ho] at ho'; cases ho'; exact h'
  have hag := h.agree hT hR hp hn hb
  have hanc := anc_in hT h.closed p t hp hb
  have hst := hR.step p t hp
  -- effects before it are done, if it is no still one
  have hbefore : t.a.op.still = false → c ≤ p → S p = S c := fun hs hcp => store_keep hR p c hcp (by omega) fun r u h1 h2 hr => by
    cases hpu : u.a.op.pure with
    | true => rfl
    | false =>
      have hL := hanc _ (hT.eff r u p t h2 hr hp hpu hs)
      have := (h.cut r u hr hpu).2 hL
      omega
  cases hpure : t.a.op.pure with
  | false =>
    have hs : t.a.op.still = false := by
      cases hh : t.a.op.still with
      | false => rfl
      | true => rw [still_pure hh] at hpure; cases hpure
    have hcp : c ≤ p := by
      apply Nat.le_of_not_lt
      intro hlt
      exact hn ((h.cut p t hp hpure).1 hlt)
    refine ⟨run, t.a, p + 1, .inl rfl, hok, ?_, by omega, ?_⟩
    · rw [aStep_congr hag, ← hbefore hs hcp]; exact hst
    · intro q u hq hpu
      constructor
      · intro hlt
        by_cases hqp : q = p
        · exact .inr hqp
        · exact .inl (hanc _ (hT.eff q u p t (by omega) hq hp hpu hs))
      · intro hL
        rcases hL with hL | hL
        · apply Nat.lt_of_not_le
          intro hle
          have hA := hT.eff p t q u (by omega) hp hq hpure (by
            cases hh : u.a.op.still with
            | false => rfl
            | true => rw [still_pure hh] at hpu; cases hpu)
          exact hn (anc_in hT h.closed q u hq (h.closed _ hL) _ hA)
        · omega
  | true =>
    have hcut : ∀ (q : Nat) (u : DI), T[q]? = some u → u.a.op.pure = false → (q < c ↔ L u.i ∨ q = p) := by
      intro q u hq hpu
      rw [h.cut q u hq hpu]
      constructor
      · exact .inl
      · rintro (h | h)
        · exact h
        · subst h; rw [hp] at hq; cases hq; rw [hpure] at hpu; cases hpu
    cases hs : t.a.op.still with
    | true => exact ⟨run, t.a, c, .inl rfl, hok, by rw [aStep_congr hag]; exact aStep_still hs hst _, h.le, hcut⟩
    | false =>
      have hSp : S (p + 1) = S p := aStep_pure hpure hst
      by_cases hcp : c ≤ p
      · refine ⟨run, t.a, c, .inl rfl, hok, ?_, h.le, hcut⟩
        rw [aStep_congr hag, ← hbefore hs hcp, hst, hSp]
      · -- is there an effect from p on, before c?
        rcases last_eff T p c with hex | ⟨q, u, h1, h2, hq, hpu, hlast⟩
        rotate_left
        · skip
          have hqp : p < q := by
            rcases Nat.lt_or_ge p q with hl | hl
            · exact hl
            · have : q = p := by omega
              subst this; rw [hp] at hq; cases hq; rw [hpure] at hpu; cases hpu
          have hLu := (h.cut q u hq hpu).1 h2
          have hnA : t.i ∉ u.anc := fun hA => hn (anc_in hT h.closed q u hq (h.closed _ hLu) _ hA)
          obtain ⟨b', hb', ⟨o', ho', hok'⟩, hbp, hsl⟩ := hT.again p t q u hqp hp hq hpu hpure hs hnA
          rw [ho] at ho'; cases ho'
          have hagn := hR.again q u hq b' hb'
          have hSc : S c = S (q + 1) := store_keep hR c (q + 1) (by omega) h.le fun r v h3 h4 hr => hlast r v (by omega) h4 hr
          have hd : b'.d = t.a.d := by
            simp only [okAI, Bool.and_eq_true, beq_iff_eq] at hok hok'
            rw [← hok.1.1.1, ← hok'.1.1.1]
          refine ⟨fun _ _ _ => none, b', c, .inr rfl, hok', ?_, h.le, hcut⟩
          unfold aAgain at hagn
          split at hagn
          · rename_i d v σ1 hbd hstep
            have hv := AV.eqv_eq _ _ hagn
            have hσ1 := aStep_pure hbp hstep
            subst hσ1
            rw [hd] at hbd
            rw [get_wrote hT hR hp hbd hqp (by have := lt_of_get hq; omega)] at hv
            rw [hSc, aStep_congr (e' := E q), hstep, hv]
            intro x hx
            rw [hag x (hsl x hx).1]
            rw [get_keep hR q p (by omega) (by have := lt_of_get hq; omega) fun r v h3 h4 hr => (hsl x hx).2 r v h3 h4 hr]
          · cases hagn
        · have hSc : S c = S p := store_keep hR c p (by omega) h.le hex
          refine ⟨run, t.a, c, .inl rfl, hok, ?_, h.le, hcut⟩
          rw [aStep_congr hag, hSc, hst, hSp]

theorem getD_true {listed : Array Bool} {i : Nat} (h : i < listed.size) : listed.getD i true = listed.getD i false := by
  rw [Array.getD_eq_getD_getElem?, Array.getD_eq_getD_getElem?, Array.getElem?_eq_getElem h]; rfl

theorem binds_mem {i j : Nat} {o : Oper} (ho : ops[i]? = some o) : j ∈ bindsOf ops i ↔ ∃ e ∈ o.after, Region.binds .any e = true ∧ e.on = j := by
  unfold bindsOf
  rw [ho]
  simp only [List.mem_map, List.mem_filter, Array.mem_toList_iff]
  constructor
  · rintro ⟨e, ⟨h1, h2⟩, h3⟩; exact ⟨e, h1, h2, h3⟩
  · rintro ⟨e, h1, h2, h3⟩; exact ⟨e, ⟨h1, h2⟩, h3⟩

def unl (n : Nat) (listed : Array Bool) : List Nat := (List.range n).filter fun i => !listed.getD i false
theorem unl_set {n i : Nat} {listed : Array Bool} (hi : i < n) (hs : listed.size = n) (hl : listed.getD i false = false) : (unl n (listed.setIfInBounds i true)).length < (unl n listed).length := by
  have he : unl n (listed.setIfInBounds i true) = (unl n listed).filter (fun j => j != i) := by
    unfold unl
    rw [List.filter_filter]
    apply List.filter_congr
    intro j hj
    by_cases hji : i = j
    · subst hji
      simp [Array.getElem?_setIfInBounds, hs, hi]
    · rw [getD_set_ne false hji]
      simp [Ne.symm hji]
  rw [he, List.length_filter_lt_length_iff_exists]
  refine ⟨i, ?_, by simp⟩
  unfold unl
  rw [List.mem_filter]
  exact ⟨List.mem_range.2 hi, by rw [hl]; rfl⟩

theorem any_rel (hX : X.Ok G) (hrun : RunOk X.P G run) (hT : Tab X.P G N ops T) (hR : Runs X run T E S V) {Q : Exit → Act → World → Prop} {μ0 : Mu} {σ0 : St} {w0 : World}
    (hQ : ∀ act' w', Lands G N μ0 σ0 w0 (E T.length) (S T.length) act' w' → Q .normal act' w') :
    ∀ (fuel : Nat) (listed : Array Bool) (c : Nat) (ec : Env) (act : Act) (w : World) (μ : Mu), (unl ops.size listed).length ≤ fuel → listed.size = ops.size → (∀ i, listed.getD i false = true → i < ops.size) →
      At X G N ops T E S V (fun i => listed.getD i false = true) c ec → Step G μ0 σ0 w0 μ (S c) w → EnvRel G N μ w ec act.tmps → act.defers = [] →
      wpAny X.P .any ops Q fuel listed act w := by
  -- when nothing is ready, all is done
  have hdone : ∀ (listed : Array Bool) (c : Nat) (ec : Env) (act : Act) (w : World) (μ : Mu), listed.size = ops.size →
      At X G N ops T E S V (fun i => listed.getD i false = true) c ec → Step G μ0 σ0 w0 μ (S c) w → EnvRel G N μ w ec act.tmps → act.defers = [] → Region.ready .any ops listed = [] → Q .normal act w := by
    intro listed c ec act w μ hsz hat hst hen hdf hr
    have hall : ∀ (p : Nat) (t : DI), T[p]? = some t → listed.getD t.i false = true := by
      intro p
      induction p using Nat.strongRecOn with
      | _ p ih =>
        intro t ht
        cases hl : listed.getD t.i false with
        | true => rfl
        | false =>
          exfalso
          obtain ⟨o, ho, hok⟩ := hT.at' p t ht
          have hlt : t.i < ops.size := (Array.getElem?_eq_some_iff.1 ho).1
          have : t.i ∈ Region.ready .any ops listed := by
            rw [mem_ready]
            refine ⟨by rw [getD_true (by omega)]; exact hl, o, ho, fun e he hb => ?_⟩
            obtain ⟨q, b, hq, hqb, hbi⟩ := hT.edge p t ht e.on ((binds_mem ho).2 ⟨e, he, hb, rfl⟩)
            rw [← hbi]; exact ih q hq b hqb
          rw [hr] at this; cases this
    refine hQ _ _ ⟨μ, ?_, ⟨hen.size, fun x => ?_⟩, hdf⟩
    · have : S T.length = S c := store_keep hR _ c hat.le (Nat.le_refl _) fun r v h1 h2 hv => by
        cases hh : v.a.op.pure with
        | true => rfl
        | false => have := (hat.cut r v hv hh).2 (hall r v hv); omega
      rw [this]; exact hst
    · have hx : get ec x = get (E T.length) x := by
        by_cases hw : ∃ (q : Nat) (u : DI), T[q]? = some u ∧ u.a.d = some x
        · obtain ⟨q, u, hq, hu⟩ := hw
          rw [hat.wrote q u x hq (hall q u hq) hu, get_wrote hT hR hq hu (lt_of_get hq) (Nat.le_refl _)]
        · rw [hat.kept x fun r v hr _ hd => hw ⟨r, v, hr, hd⟩]
          rw [get_keep hR T.length 0 (by omega) (by omega) fun r v _ _ hr hd => hw ⟨r, v, hr, hd⟩]
      rw [← hx]; exact hen.rel x
  intro fuel
  induction fuel with
  | zero =>
    intro listed c ec act w μ hfu hsz hlt hat hst hen hdf
    have hr : Region.ready .any ops listed = [] := by
      apply List.eq_nil_iff_forall_not_mem.2
      intro i hi
      obtain ⟨h0, o, ho, _⟩ := mem_ready.1 hi
      have hil : i < ops.size := (Array.getElem?_eq_some_iff.1 ho).1
      rw [getD_true (by omega)] at h0
      have : i ∈ unl ops.size listed := List.mem_filter.2 ⟨List.mem_range.2 hil, by rw [h0]; rfl⟩
      have := List.length_pos_of_mem this
      omega
    exact ⟨hr, hdone listed c ec act w μ hsz hat hst hen hdf hr⟩
  | succ fuel ih =>
    intro listed c ec act w μ hfu hsz hlt hat hst hen hdf
    refine ⟨hdone listed c ec act w μ hsz hat hst hen hdf, fun i hi => ?_⟩
    obtain ⟨h0, o, ho, hbind⟩ := mem_ready.1 hi
    have hil : i < ops.size := (Array.getElem?_eq_some_iff.1 ho).1
    rw [getD_true (by omega)] at h0
    obtain ⟨p, t, hp, hti⟩ := hT.all i hil
    subst hti
    have hb : ∀ j ∈ bindsOf ops t.i, listed.getD j false = true := fun j hj => by
      obtain ⟨e, he, hbe, rfl⟩ := (binds_mem ho).1 hj
      exact hbind e he hbe
    have hn : ¬ listed.getD t.i false = true := by rw [h0]; simp
    obtain ⟨run', a', c', hrun', hok', hstep, hle', hcut'⟩ := hat.next hT hR hp hn hb ho
    have hro : RunOk X.P G run' := by
      rcases hrun' with rfl | rfl
      · exact hrun
      · intro f args σ r σ' h; cases h
    unfold wpOp
    rw [ho]
    refine step_rel (ops := ops) hX hro hst.sim hen hok' hstep fun v w' μ' hv hs' => ?_
    have hka := hok'
    simp only [okAI, Bool.and_eq_true, beq_iff_eq] at hka
    have hdt : t.a.d = o.dst := by
      obtain ⟨o', ho', h'⟩ := hT.at' p t hp
      rw [ho] at ho'; cases ho'
      simp only [okAI, Bool.and_eq_true, beq_iff_eq] at h'
      exact h'.1.1.1.symm
    have hget : ∀ j, (listed.setIfInBounds t.i true).getD j false = true ↔ listed.getD j false = true ∨ j = t.i := by
      intro j
      by_cases hj : t.i = j
      · subst hj; simp [Array.getElem?_setIfInBounds, hsz, hil]
      · rw [getD_set_ne false hj]; simp [Ne.symm hj]
    refine ih _ c' (put o.dst (V p) ec) _ w' μ' ?_ (by simpa using hsz) ?_ ⟨?_, hle', ?_, ?_, ?_⟩ (hst.trans hs') ?_ (by rw [put_defers_eq]; exact hdf)
    · have := unl_set (n := ops.size) hil hsz h0
      omega
    · intro j hj
      rcases (hget j).1 hj with h | h
      · exact hlt j h
      · rw [h]; exact hil
    · intro j hj k hk
      rw [hget] at hj ⊢
      rcases hj with hj | hj
      · exact .inl (hat.closed j hj k hk)
      · rw [hj] at hk; exact .inl (hb k hk)
    · intro q u hq hpu
      rw [hcut' q u hq hpu, hget]
      constructor
      · rintro (h | h)
        · exact .inl h
        · subst h; rw [hp] at hq; cases hq; exact .inr rfl
      · rintro (h | h)
        · exact .inl h
        · exact .inr (pos_eq hT hq hp h)
    · intro q u x hq hu hx
      rw [hget] at hu
      by_cases hqp : q = p
      · subst hqp; rw [hp] at hq; cases hq
        rw [← hdt, hx, get_put_self]
      · rw [get_put_ne fun hd => hqp (dst_eq hT hq hp hx (by rw [hdt]; exact hd))]
        rcases hu with hu | hu
        · exact hat.wrote q u x hq hu hx
        · exact absurd (pos_eq hT hq hp hu) hqp
    · intro x hx
      rw [get_put_ne fun hd => hx p t hp ((hget _).2 (.inr rfl)) (by rw [hdt]; exact hd)]
      exact hat.kept x fun q u hq hu => hx q u hq ((hget _).2 (.inl hu))
    · have he' := hen.mono hs'.ext hs'.wext
      have hN : okDst N o.dst = true := by rw [hka.1.1.1]; exact hka.1.1.2
      exact he'.put hN hv
end
end Go.Abs
