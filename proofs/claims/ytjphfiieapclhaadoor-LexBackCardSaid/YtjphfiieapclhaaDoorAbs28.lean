/- The layer Abs, part 28: from a world that a call starts in to the layer's store, and back to a row. -/
import Derived.Test.YtjphfiieapclhaaDoorAbs27
import Derived.Handed
import Derived.LaidLaws
namespace Go.Abs
open Go.RowKit Go.ChangeShapes

/-- 'returnsInHanded_of_change_and', the start's shape handed on. -/
theorem returns_shaped {H : Type} {enc : TypeId × Value → H} {a : Assume} {C : Checked} {os : Os} {f : FuncId} {fn : Func} {s : ChangeSpec} {conds : List PathCond} {apart fresh handsOn again : Bool} {X : World → Array Value → Prop}
    (hX : ∀ (w w' : World) (args : Array Value), w.heap = w'.heap → X w args → X w' args)
    (own : ownKnob C.prog.godebug = none) (started : os.Started) (noInit : C.prog.inits.idxOf? f = none) (hfn : C.prog.funcs[f]? = some fn)
    (witness : ∃ (w : World) (tape : Tape) (i : Input), w.os = os ∧ (w.forCall tape i).Shaped C.prog ∧ i.vars = [] ∧ Input.okWide C.prog (w.forCall tape i) .any w.heap.size f i ∧
      ((s.pre enc C.prog fn conds apart (w.forCall tape i).memory i.args ∧ X (w.forCall tape i).memory i.args) ∧ sizedMet enc C.prog fn (OpenSpec.ofChange s) apart (w.forCall tape i).memory i.args) ∧ a.holds C.prog (lone (Frame.enter C.prog f i.args .normal) [] (w.forCall tape i)))
    (contract : ∀ (W : World) (base : Nat) (args : Array Value) (ds gs : List (DataW H)) (before : List MemPlace), W.ShapedOpen C.prog →
      (∀ (j : Nat) t v, fn.params[j]? = some t → args[j]? = some v → Value.okWide C.prog W .any base t v) →
      DataW.Whole enc C.prog fn.params.toList s.vars apart W args.toList ds gs before → X W args →
      Calls C.prog f args W fun e W' => ∃ v, e = .returned v ∧ s.post enc C.prog fn apart fresh handsOn again W args v W') :
    ReturnsInHanded a C os f .any (fun w args => (s.pre enc C.prog fn conds apart w args ∧ X w args) ∧ sizedMet enc C.prog fn (OpenSpec.ofChange s) apart w args) (s.post enc C.prog fn apart fresh handsOn again) := by
  refine returnsInHanded_of_calls own started noInit witness ?_
  intro w tape i _ hsh _ hok hpre _
  obtain ⟨_, _, _, fn', hfn', _, _, _, _, hval⟩ := hok
  have e : fn' = fn := Option.some.inj (hfn'.symm.trans hfn)
  subst e
  obtain ⟨⟨⟨ds, gs, before, hw, _⟩, hx⟩, _⟩ := hpre
  have hw' := DataW.Whole.of_heap (w' := w.forCall tape i) (by rfl) hw
  refine (contract (w.forCall tape i) w.heap.size i.args ds gs before hsh hval hw' (hX _ _ _ (by rfl) hx)).mono fun e W' ⟨v, he, hp⟩ => ?_
  subst he
  exact ChangeSpec.post_blind hp

/-- A listed variable's cells. -/
theorem laid_reads {P : Program} {w : World} : ∀ {l : List (String × DataW Unit)} {ps : List MemPlace}, DataW.LaidVars P w l ps → ∀ n d, (n, d) ∈ l → ∃ g t cs fuel p, P.globalNamed n = some g ∧ (P.globals[g]?).map (·.type) = some t ∧ w.var? P n = some cs ∧ DataW.trod (fun _ => ()) P w 0 (fun _ => true) false fuel t cs.toList = some (d, p)
  | [], _, _, _, _, hm => by cases hm
  | (n', d') :: r, ps, h, n, d, hm => by
    obtain ⟨g, t, cs, fuel, p, q, h1, h2, h3, h4, h5, _⟩ := h
    rcases List.mem_cons.1 hm with e | e
    · cases e
      exact ⟨g, t, cs, fuel, p, h1, h2, h3, h4⟩
    · exact laid_reads h5 n d e
theorem var_heap {P : Program} {w : World} {n : String} {g : Nat} {cs : Array Value} (hg : P.globalNamed n = some g) (h : w.var? P n = some cs) : ∃ t fr, w.heap[g]? = some (.cells cs t fr) := by
  simp only [World.var?, hg, Option.bind_some] at h
  split at h
  · rename_i cs' t fr hh; cases h; exact ⟨t, fr, hh⟩
  · cases h
/-- What the start's shape tells of a variable's block. -/
theorem shape_row {P : Program} {w : World} (h : w.ShapedOpen P) {g t : Nat} (hg : g < P.globals.size) (hr : (((begin P (fun _ _ => 0) default).world.heap[g]?).bind Obj.row?).map (·.2) = some t) : ∃ cs fr, w.heap[g]? = some (.cells cs t fr) := by
  rw [Option.map_eq_some_iff] at hr
  obtain ⟨⟨zero, t'⟩, h1, rfl⟩ := hr
  obtain ⟨cs, h2, _⟩ := h.1 g zero t' hg h1
  exact ⟨cs, _, h2⟩
theorem shape_last {P : Program} {w : World} (h : w.ShapedOpen P) {k : Nat} (h1 : P.globals.size ≤ k) (h2 : k < (begin P (fun _ _ => 0) default).world.heap.size) : k < w.heap.size := by
  obtain ⟨o, o0, h3, _⟩ := h.2 k h1 h2
  exact (Array.getElem?_eq_some_iff.1 h3).1
/-- What a call tells of the world, where nothing old could be written. -/
theorem after_below {G : Nat} {μ : Mu} {σ σ' : St} {w w' : World} {r : AV} {e : Ending} (hG : okGlob G σ = true) (h : After G μ σ w r σ' e w') : ∃ v μ', e = .returned v ∧ VRel μ' w' r v ∧ Below w.heap.size w w' := by
  obtain ⟨v, μ', h1, h2, h3⟩ := h
  exact ⟨v, μ', h1, h2, h3.below fun o a ho hr hl => by rw [(okGlob_at hG ho hl).1] at hr; cases hr⟩
/-- Where the package-level variables lie. -/
def mu0 (G : Nat) : Mu := fun o g => if o < G ∧ g = 0 then some (o, 0) else none
end Go.Abs
