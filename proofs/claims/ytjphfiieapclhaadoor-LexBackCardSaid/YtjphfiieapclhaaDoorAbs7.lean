/- The layer Abs, part 7: operations that leave memory as it is. -/
import Derived.Test.YtjphfiieapclhaaDoorAbs6
namespace Go.Abs
section
variable {P : Program} {G : Nat} {μ : Mu} {σ : St} {w : World}

def Gives (P : Program) (μ : Mu) (w : World) (s : Sem Value) (a : AV) : Prop := ∃ v, s.run P w = .ok v w ∧ VRel μ w a v

def plainPair (u v : Value) : Bool := match u, v with | .nilIface, .nilIface => false | .agg _, .agg _ => false | .int _ _, .int _ _ => false | .float _ _, .float _ _ => false | .complex _ _ _, .complex _ _ _ => false | .string _, .string _ => false | _, _ => true
theorem guard_other {op : BinOp} {t : Nat} {xo yo : Operand} {u v : Value} (h : (match u, v with | .nilIface, .nilIface => false | .agg _, .agg _ => false | _, _ => true) = true) : (eqGuard op t xo yo u v).run P w = .ok () w := by
  cases op <;> first | rfl | (cases u <;> cases v <;> first | rfl | simp at h)
theorem guard_plain {op : BinOp} {t : Nat} {xo yo : Operand} {u v : Value} (h : plainPair u v = true) : (eqGuard op t xo yo u v).run P w = .ok () w :=
  guard_other (by cases u <;> cases v <;> first | rfl | exact h)
theorem eql_plain {t : Nat} {u v : Value} {r : Bool} (h : (Op.equalIn 10000 t u v).run P w = .ok r w) (hk : plainPair u v = true) :
    (binOp .eql t u v).run P w = .ok (.bool r) w ∧ (binOp .neq t u v).run P w = .ok (.bool (!r)) w := by
  have h1 : binOp .eql t u v = (do pure (.bool (← Op.equal t u v))) := by cases u <;> cases v <;> first | rfl | (simp [plainPair] at hk; done)
  have h2 : binOp .neq t u v = (do pure (.bool (!(← Op.equal t u v)))) := by cases u <;> cases v <;> first | rfl | (simp [plainPair] at hk; done)
  rw [h1, h2]
  simp [Op.equal, Op.maxDepth, h]
theorem eq_plain {d t : Nat} {x y : AV} {u v : Value} {r : Bool} (h : aEq P (d + 1) t x y = some r) (hx : VRel μ w x u) (hy : VRel μ w y v)
    (h1 : ¬ ∃ k p k' q, x = .i k p ∧ y = .i k' q) (h2 : ¬ ∃ p q, x = .s p ∧ y = .s q) (h3 : ¬ (x = .ic0 ∧ y = .ic0)) (h4 : ¬ ∃ cs ds, x = .ag cs ∧ y = .ag ds) : plainPair u v = true := by
  simp only [aEq] at h
  split at h
  · cases h
  · split at h
    all_goals first | (cases h; done) | skip
    all_goals simp only [VRel] at hx hy
    all_goals first
      | (exact absurd ⟨_, _, _, _, rfl, rfl⟩ h1)
      | (exact absurd ⟨_, _, rfl, rfl⟩ h2)
      | (exact absurd ⟨rfl, rfl⟩ h3)
      | (exact absurd ⟨_, _, rfl, rfl⟩ h4)
      | skip
    all_goals try subst hx
    all_goals try subst hy
    all_goals try (obtain ⟨_, _, _, rfl⟩ := hx)
    all_goals try (obtain ⟨_, _, _, rfl⟩ := hy)
    all_goals try (obtain ⟨_, _, _, _, _, _, _, rfl, _⟩ := hx)
    all_goals try (obtain ⟨_, _, _, _, _, _, _, rfl, _⟩ := hy)
    all_goals try (obtain ⟨_, _, rfl, _⟩ := hx)
    all_goals try (obtain ⟨_, _, rfl, _⟩ := hy)
    all_goals try (obtain ⟨_, rfl, _⟩ := hx)
    all_goals try (obtain ⟨_, rfl, _⟩ := hy)
    all_goals try (obtain ⟨_, _, rfl⟩ := hx)
    all_goals try (obtain ⟨_, _, rfl⟩ := hy)
    all_goals rfl

set_option maxHeartbeats 1000000 in
theorem bin_rel {op : BinOp} {t : Nat} {x y a : AV} {c : Bool} {u v : Value} {xo yo : Operand} (h : aBin P op t x y c = some a) (hx : VRel μ w x u) (hy : VRel μ w y v)
    (hc : c = true → x = .ic0 → y = .ic0 → ((xo matches .const _) || (yo matches .const _)) = true) :
    Gives P μ w (do eqGuard op t xo yo u v; binOp op t u v) a := by
  by_cases hi : ∃ k p k' q, x = .i k p ∧ y = .i k' q
  · obtain ⟨k, p, k', q, rfl, rfl⟩ := hi
    simp only [VRel] at hx hy; subst hx; subst hy
    obtain ⟨r, h1, h2⟩ := bin_int (μ := μ) (w := w) h
    exact ⟨r, by simp [guard_other, h1], h2⟩
  by_cases hs : ∃ p q, x = .s p ∧ y = .s q
  · obtain ⟨p, q, rfl, rfl⟩ := hs
    simp only [VRel] at hx hy; subst hx; subst hy
    obtain ⟨r, h1, h2⟩ := bin_str (μ := μ) (w := w) h
    exact ⟨r, by simp [guard_other, h1], h2⟩
  have key : (op = .eql ∨ op = .neq) ∧ ((x = .ic0 ∧ y = .ic0 → c = true)) ∧ (∀ cs ds, x = .ag cs → y = .ag ds → ((tyOf P t).any (·.guarded)) = false) ∧ ∃ r, aEq P 20 t x y = some r ∧ a = .b (if op = .eql then r else !r) := by
    unfold aBin at h
    split at h
    · exact absurd ⟨_, _, _, _, rfl, rfl⟩ hi
    · exact absurd ⟨_, _, _, _, rfl, rfl⟩ hi
    · exact absurd ⟨_, _, _, _, rfl, rfl⟩ hi
    · exact absurd ⟨_, _, rfl, rfl⟩ hs
    · split at h
      · rw [Option.map_eq_some_iff] at h
        obtain ⟨r, k1, rfl⟩ := h
        exact ⟨.inl rfl, fun _ => ‹_›, fun _ _ h _ => (by cases h), r, k1, rfl⟩
      · cases h
    · split at h
      · rw [Option.map_eq_some_iff] at h
        obtain ⟨r, k1, rfl⟩ := h
        exact ⟨.inr rfl, fun _ => ‹_›, fun _ _ h _ => (by cases h), r, k1, rfl⟩
      · cases h
    · split at h
      · cases h
      · rename_i hg
        rw [Option.map_eq_some_iff] at h
        obtain ⟨r, h1, rfl⟩ := h
        exact ⟨.inl rfl, fun hh => (by cases hh.1), fun _ _ _ _ => (by simpa using hg), r, h1, rfl⟩
    · split at h
      · cases h
      · rename_i hg
        rw [Option.map_eq_some_iff] at h
        obtain ⟨r, h1, rfl⟩ := h
        exact ⟨.inr rfl, fun hh => (by cases hh.1), fun _ _ _ _ => (by simpa using hg), r, h1, rfl⟩
    · rw [Option.map_eq_some_iff] at h
      obtain ⟨r, k1, rfl⟩ := h
      refine ⟨.inl rfl, fun hh => ?_, fun cs ds hx hy => ?_, r, k1, rfl⟩ <;> simp_all
    · rw [Option.map_eq_some_iff] at h
      obtain ⟨r, k1, rfl⟩ := h
      refine ⟨.inr rfl, fun hh => ?_, fun cs ds hx hy => ?_, r, k1, rfl⟩ <;> simp_all
    · cases h
  clear h
  obtain ⟨hop, hk, hg, r, hr, rfl⟩ := key
  have heq := eq_rel (P := P) (w := w) (μ := μ) 20 10000 t x y u v r (by decide) hr hx hy
  have hgd : (eqGuard op t xo yo u v).run P w = .ok () w ∧ (binOp .eql t u v).run P w = .ok (.bool r) w ∧ (binOp .neq t u v).run P w = .ok (.bool (!r)) w := by
    by_cases h3 : x = .ic0 ∧ y = .ic0
    · obtain ⟨rfl, rfl⟩ := h3
      simp only [VRel] at hx hy; subst hx; subst hy
      have hcst := hc (hk ⟨rfl, rfl⟩) rfl rfl
      refine ⟨?_, by simp [binOp, Op.equal, Op.maxDepth, heq], by simp [binOp, Op.equal, Op.maxDepth, heq]⟩
      rcases hop with rfl | rfl <;> (cases xo <;> cases yo <;> first | rfl | (simp at hcst; done))
    · by_cases h4 : ∃ cs ds, x = .ag cs ∧ y = .ag ds
      · obtain ⟨cs, ds, rfl, rfl⟩ := h4
        obtain ⟨a, rfl, _⟩ := hx
        obtain ⟨b, rfl, _⟩ := hy
        have hg' := hg cs ds rfl rfl
        have hT : ∃ T, tyOf P t = some T := by
          simp only [aEq] at hr
          split at hr
          · cases hr
          · exact ⟨_, ‹_›⟩
        obtain ⟨T, hT⟩ := hT
        rw [hT] at hg'
        obtain ⟨i, D, z, k1, k2, k3, k4, k5, k6, k7, k8, k9, k10⟩ := ty_info hT
        refine ⟨run_eqGuard_agg w op t xo yo a b (by rw [k10]; simpa using hg'), ?_, ?_⟩
        · rw [run_eql_struct w t a b, heq]; rfl
        · rw [run_neq_struct w t a b, heq]; rfl
      · have hp := eq_plain (P := P) (d := 19) hr hx hy hi hs h3 h4
        exact ⟨guard_plain hp, eql_plain heq hp⟩
  obtain ⟨g1, g2, g3⟩ := hgd
  rcases hop with rfl | rfl
  · exact ⟨.bool r, by simp [g1, g2], rfl⟩
  · exact ⟨.bool (!r), by simp [g1, g3], rfl⟩
end
end Go.Abs
