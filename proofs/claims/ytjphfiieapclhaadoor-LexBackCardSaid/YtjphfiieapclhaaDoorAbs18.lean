/- The layer Abs, part 18: code and functions: what the evaluator tells of a function holds of its calls. -/
import Derived.Test.YtjphfiieapclhaaDoorAbs17
namespace Go.Abs

theorem drw_rel {X : Ctx} {G N : Nat} {run : Run} (hX : X.Ok G) (hrun : RunOk X.P G run) (hf : X.P.follows .mixedOrders = true) {id : Nat} {ops : Array Oper} {l : List (AI × List AI)} {Q : Exit → Act → World → Prop}
    {e : Env} {act : Act} {μ : Mu} {σ : St} {w : World} {e' : Env} {σ' : St} (hok : okDrw X.P G N ops l = true) (hs : Sim G μ σ w) (he : EnvRel G N μ w e act.tmps) (hd : act.defers = []) (h : aDrw X run l e σ = some (e', σ'))
    (hQ : ∀ act' w', Lands G N μ σ w e' σ' act' w' → Q .normal act' w') : (Code.region id ops true).wp X.P Q act w := by
  simp only [okDrw, forceT_eq, Bool.and_eq_true, beq_iff_eq] at hok
  obtain ⟨hT, hlen⟩ := hok
  have hmap := mkTab_map (P := X.P) (G := G) (N := N) (ops := ops) l [] (by simpa using hlen)
  simp only [List.reverse_nil, List.map_nil, List.nil_append] at hmap
  have hT' := okTab_spec hT
  generalize mkTab X.P G N ops l [] = T at *
  obtain ⟨E, S, V, h1, h2, h3, h4, h5⟩ := drw_recs l e σ e' σ' h
  have hR : Runs X run T E S V := by
    have hg : ∀ (p : Nat) (t : DI), T[p]? = some t → l[p]? = some (t.a, t.again) := by
      intro p t ht
      rw [← hmap, List.getElem?_map, ht]; rfl
    exact ⟨fun p t ht => (h5 p _ _ (hg p t ht)).1, fun p t ht => (h5 p _ _ (hg p t ht)).2.1, fun p t ht => (h5 p _ _ (hg p t ht)).2.2⟩
  refine wp_region_any hf (any_rel hX hrun hT' hR (μ0 := μ) (σ0 := σ) (w0 := w) ?_ ops.size _ 0 e act _ μ ?_ (by simp) ?_ ?_ (by rw [h2]; exact Step.drew hs) ?_ hd)
  · rw [hlen, h3, h4]; exact hQ
  · unfold unl
    exact Nat.le_trans (List.length_filter_le _ _) (by simp)
  · intro i hi
    rw [Array.getD_eq_getD_getElem?, Array.getElem?_replicate] at hi
    split at hi
    · assumption
    · cases hi
  · have hno : ∀ i, ¬ (Array.replicate ops.size false).getD i false = true := by
      intro i hi
      rw [Array.getD_eq_getD_getElem?, Array.getElem?_replicate] at hi
      split at hi <;> cases hi
    refine ⟨fun i hi => absurd hi (hno i), Nat.zero_le _, fun q t _ _ => ?_, fun q t x _ hl => absurd hl (hno _), fun x _ => by rw [h1]⟩
    constructor
    · intro hl; omega
    · intro hl; exact absurd hl (hno _)
  · exact he.mono (Mu.le_refl μ) (fun _ _ _ q => q)

def okC (P : Program) (G N : Nat) : Code → AC → Bool
  | .scope c, a => okC P G N c a
  | .skip, .skip => true
  | .label _, .skip => true
  | .region _ ops false, .reg l => okIdx P G N ops (List.range ops.size) l
  | .region _ ops true, .drw l => okDrw P G N ops l
  | .region _ ops false, .cut _ (.reg l) => okIdx P G N ops (List.range ops.size) l
  | .region _ ops true, .cut _ (.drw l) => okDrw P G N ops l
  | .seq c d, .seq a b => okC P G N c a && okC P G N d b
  | .cond x c d, .cond y a b => okOpd G x y && okC P G N c a && okC P G N d b
  | .block id c, .blk id' a => id == id' && okC P G N c a
  | .loop c, .loop _ a => okC P G N c a
  | .exit id, .exit id' => id == id'
  | .ret, .ret => true
  | _, _ => false

def Out.exit' : Out → Exit
  | .normal => .normal
  | .exit id => .exit id
  | .ret => .ret

theorem Lands.trans {G N : Nat} {μ : Mu} {σ σ1 σ2 : St} {w w1 w2 : World} {e1 e2 : Env} {a1 a2 : Act} {μ1 : Mu} (h : Step G μ σ w μ1 σ1 w1) (k : Lands G N μ1 σ1 w1 e2 σ2 a2 w2) : Lands G N μ σ w e2 σ2 a2 w2 := by
  obtain ⟨μ2, h1, h2, h3⟩ := k
  exact ⟨μ2, h.trans h1, h2, h3⟩

section
variable {X : Ctx} {G N : Nat} {run : Run}

/-- Code does what the evaluator tells. -/
def CodeOk (X : Ctx) (G N : Nat) (c : Code) (f : Env → St → Option (Out × Env × St)) : Prop :=
  ∀ (e : Env) (act : Act) (μ : Mu) (σ : St) (w : World) (o : Out) (e' : Env) (σ' : St) (Q : Exit → Act → World → Prop), Sim G μ σ w → EnvRel G N μ w e act.tmps → act.defers = [] → f e σ = some (o, e', σ') →
    (∀ act' w', Lands G N μ σ w e' σ' act' w' → Q o.exit' act' w') → c.wp X.P Q act w

theorem loop_rel {c : Code} {live : List Nat} {f : Env → St → Option (Out × Env × St)} (h : CodeOk X G N c f) (n : Nat) : CodeOk X G N (.loop c) (aLoop live f n) := by
  intro e act μ σ w o e' σ' Q hs he hd hf hQ
  refine wp_loop_rounds n ?_
  induction n generalizing e act μ σ w with
  | zero => cases hf
  | succ n ih =>
    rw [rounds_succ]
    simp only [aLoop] at hf
    split at hf
    · rename_i e1 σ1 h1
      refine h (clear live e) act μ σ w .normal e1 σ1 _ hs (he.clear live) hd h1 fun act' w' hl => ?_
      obtain ⟨μ1, hst, hen, hdf⟩ := hl
      exact ih e1 act' μ1 σ1 w' hst.sim hen hdf hf fun act2 w2 hl2 => hQ _ _ (Lands.trans (e1 := e1) (a1 := act') hst hl2)
    · rename_i hnn
      refine h (clear live e) act μ σ w o e' σ' _ hs (he.clear live) hd hf fun act' w' hl => ?_
      cases o with
      | normal => exact absurd hf (hnn _ _)
      | exit id => exact hQ _ _ hl
      | ret => exact hQ _ _ hl

theorem code_rel (hX : X.Ok G) (hrun : RunOk X.P G run) (hf : X.P.follows .mixedOrders = true) {n : Nat} : ∀ (c : Code) (a : AC), okC X.P G N c a = true → CodeOk X G N c (aCode X run n a)
  | .scope c, a, hok => by
    intro e act μ σ w o e' σ' Q hs he hd h hQ
    refine wp_scope_straight (code_rel hX hrun hf c a (by simpa [okC] using hok) e act μ σ w o e' σ' _ hs he hd h fun act' w' hl => ?_)
    have := hQ act' w' hl
    cases o <;> exact this
  | .skip, .skip, _ => by
    intro e act μ σ w o e' σ' Q hs he hd h hQ
    cases h
    exact wp_skip (hQ _ _ ⟨μ, Step.refl hs, he, hd⟩)
  | .label _, .skip, _ => by
    intro e act μ σ w o e' σ' Q hs he hd h hQ
    cases h
    exact wp_label (hQ _ _ ⟨μ, Step.refl hs, he, hd⟩)
  | .region id ops false, .reg l, hok => by
    intro e act μ σ w o e' σ' Q hs he hd h hQ
    simp only [aCode, Option.map_eq_some_iff] at h
    obtain ⟨⟨e1, σ1⟩, h1, h2⟩ := h
    cases h2
    exact wp_region (ops_rel (ops := ops) hX hrun _ l e act μ σ w _ _ (by simpa [okC] using hok) hs he hd h1 hQ)
  | .region id ops true, .drw l, hok => by
    intro e act μ σ w o e' σ' Q hs he hd h hQ
    simp only [aCode, Option.map_eq_some_iff] at h
    obtain ⟨⟨e1, σ1⟩, h1, h2⟩ := h
    cases h2
    exact drw_rel hX hrun hf (by simpa [okC] using hok) hs he hd h1 hQ
  | .region id ops false, .cut live (.reg l), hok => by
    intro e act μ σ w o e' σ' Q hs he hd h hQ
    simp only [aCode, Option.map_eq_some_iff] at h
    obtain ⟨⟨e1, σ1⟩, h1, h2⟩ := h
    cases h2
    exact wp_region (ops_rel (ops := ops) hX hrun _ l _ act μ σ w _ _ (by simpa [okC] using hok) hs (he.clear live) hd h1 hQ)
  | .region id ops true, .cut live (.drw l), hok => by
    intro e act μ σ w o e' σ' Q hs he hd h hQ
    simp only [aCode, Option.map_eq_some_iff] at h
    obtain ⟨⟨e1, σ1⟩, h1, h2⟩ := h
    cases h2
    exact drw_rel hX hrun hf (by simpa [okC] using hok) hs (he.clear live) hd h1 hQ
  | .seq c d, .seq a b, hok => by
    intro e act μ σ w o e' σ' Q hs he hd h hQ
    simp only [okC, Bool.and_eq_true] at hok
    simp only [aCode] at h
    refine wp_seq ?_
    split at h
    · rename_i e1 σ1 h1
      refine code_rel hX hrun hf c a hok.1 e act μ σ w .normal e1 σ1 _ hs he hd h1 fun act' w' hl => ?_
      obtain ⟨μ1, hst, hen, hdf⟩ := hl
      exact code_rel hX hrun hf d b hok.2 e1 act' μ1 σ1 w' o e' σ' Q hst.sim hen hdf h fun act2 w2 hl2 => hQ _ _ (Lands.trans (e1 := e1) (a1 := act') hst hl2)
    · rename_i hnn
      refine code_rel hX hrun hf c a hok.1 e act μ σ w o e' σ' _ hs he hd h fun act' w' hl => ?_
      cases o with
      | normal => exact absurd h (hnn _ _)
      | exit id => exact hQ _ _ hl
      | ret => exact hQ _ _ hl
  | .cond x c d, .cond y a b, hok => by
    intro e act μ σ w o e' σ' Q hs he hd h hQ
    simp only [okC, Bool.and_eq_true] at hok
    have hx := opd_rel hs he hok.1.1
    simp only [aCode] at h
    split at h
    · rename_i hy
      rw [hy] at hx
      exact wp_cond_true hx (code_rel hX hrun hf c a hok.1.2 e act μ σ w o e' σ' _ hs he hd h hQ)
    · rename_i hy
      rw [hy] at hx
      exact wp_cond_false hx (code_rel hX hrun hf d b hok.2 e act μ σ w o e' σ' _ hs he hd h hQ)
    · cases h
  | .block id c, .blk id' a, hok => by
    intro e act μ σ w o e' σ' Q hs he hd h hQ
    simp only [okC, Bool.and_eq_true, beq_iff_eq] at hok
    obtain ⟨rfl, hok⟩ := hok
    simp only [aCode] at h
    refine wp_block ?_
    split at h
    · rename_i j e1 σ1 h1
      simp only [Option.some.injEq, Prod.mk.injEq] at h
      obtain ⟨rfl, rfl, rfl⟩ := h
      refine code_rel hX hrun hf c a hok e act μ σ w (.exit j) _ _ _ hs he hd h1 fun act' w' hl => ?_
      have hq := hQ act' w' hl
      simp only [Out.exit', Exit.inBlock]
      split
      · rename_i hj; rw [if_pos hj] at hq; exact hq
      · rename_i hj; rw [if_neg hj] at hq; exact hq
    · rename_i hnn
      refine code_rel hX hrun hf c a hok e act μ σ w o e' σ' _ hs he hd h fun act' w' hl => ?_
      cases o with
      | normal => exact hQ _ _ hl
      | exit id => exact absurd h (hnn _ _ _)
      | ret => exact hQ _ _ hl
  | .loop c, .loop live a, hok => by
    have hc := code_rel hX hrun hf c a (n := n) (by simpa [okC] using hok)
    intro e act μ σ w o e' σ' Q hs he hd h hQ
    exact loop_rel hc n e act μ σ w o e' σ' Q hs he hd h hQ
  | .exit id, .exit id', hok => by
    intro e act μ σ w o e' σ' Q hs he hd h hQ
    simp only [okC, beq_iff_eq] at hok
    subst hok
    cases h
    exact wp_exit (hQ _ _ ⟨μ, Step.refl hs, he, hd⟩)
  | .ret, .ret, _ => by
    intro e act μ σ w o e' σ' Q hs he hd h hQ
    cases h
    exact wp_ret (hQ _ _ ⟨μ, Step.refl hs, he, hd⟩)
end
end Go.Abs
