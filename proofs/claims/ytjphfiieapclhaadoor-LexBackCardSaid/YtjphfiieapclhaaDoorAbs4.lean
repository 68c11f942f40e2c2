/- The layer Abs, part 4: how abstract stores stand to the model's worlds; steps from one to the next. -/
import Derived.Test.YtjphfiieapclhaaDoorAbs2
import Derived.Walk
namespace Go.Abs

/-- Where an object of a generation lies: its block, and the place there of its first cell. -/
abbrev Mu := Nat → Nat → Option (Nat × Nat)

mutual
def VRel (μ : Mu) (w : World) : AV → Value → Prop
  | .u, _ => True
  | .b x, v => v = .bool x
  | .i k n, v => v = .int k n
  | .s x, v => v = .string ⟨x.toArray⟩
  | .p0, v => v = .pointer none
  | .p o g off, v => ∃ b δ, μ o g = some (b, δ) ∧ v = .pointer (some ⟨b, δ + off, none⟩)
  | .sl0, v => v = .slice none 0 0
  | .sl o g off n z, v => ∃ b δ off' c e m, μ o g = some (b, δ) ∧ v = .slice (some ⟨b, off', none⟩) n c ∧ n ≤ c ∧ (off' = δ + off ∨ (n = 0 ∧ c = 0)) ∧ w.shape? b = some (e, m) ∧ off' + c * z ≤ m
  | .fn f xs ys, v => ∃ a c, v = .func f a c ∧ VRels μ w xs a.toList ∧ VRels μ w ys c.toList
  | .fn0, v => v = .nilFunc
  | .ic t x, v => ∃ y, v = .iface t y ∧ VRel μ w x y
  | .ic0, v => v = .nilIface
  | .ag xs, v => ∃ a, v = .agg a ∧ VRels μ w xs a.toList
  | .tu xs, v => ∃ a, v = .tuple a ∧ VRels μ w xs a.toList
  | .mp0, v => v = .map none
  | .mp o g, v => ∃ b, μ o g = some (b, 0) ∧ v = .map (some b)
  | .cd c x, v => if c then VRel μ w x v else v = undef
def VRels (μ : Mu) (w : World) : List AV → List Value → Prop
  | [], l => l = []
  | x :: xs, l => ∃ v vs, l = v :: vs ∧ VRel μ w x v ∧ VRels μ w xs vs
end

def WExt (w w' : World) : Prop := ∀ b e m, w.shape? b = some (e, m) → w'.shape? b = some (e, m)
def Mu.le (μ μ' : Mu) : Prop := ∀ o g x, μ o g = some x → μ' o g = some x
theorem Mu.le_refl (μ : Mu) : μ.le μ := fun _ _ _ h => h
theorem WExt.refl (w : World) : WExt w w := fun _ _ _ h => h
theorem WExt.trans {a b c : World} (h : WExt a b) (k : WExt b c) : WExt a c := fun b e m q => k b e m (h b e m q)

mutual
theorem VRel.mono {μ μ' : Mu} {w w' : World} (hm : μ.le μ') (hw : WExt w w') : ∀ (a : AV) (v : Value), VRel μ w a v → VRel μ' w' a v := by
  intro a v h
  match a with
  | .u => trivial
  | .b _ | .i _ _ | .s _ | .p0 | .sl0 | .fn0 | .ic0 | .mp0 => simpa [VRel] using h
  | .p o g off => obtain ⟨b, δ, h1, h2⟩ := h; exact ⟨b, δ, hm _ _ _ h1, h2⟩
  | .sl o g off n z => obtain ⟨b, δ, off', c, e, m, h1, h2, h3, h4, h5, h6⟩ := h; exact ⟨b, δ, off', c, e, m, hm _ _ _ h1, h2, h3, h4, hw _ _ _ h5, h6⟩
  | .fn f xs ys => obtain ⟨a, c, h1, h2, h3⟩ := h; exact ⟨a, c, h1, VRels.mono hm hw _ _ h2, VRels.mono hm hw _ _ h3⟩
  | .ic t x => obtain ⟨y, h1, h2⟩ := h; exact ⟨y, h1, VRel.mono hm hw _ _ h2⟩
  | .ag xs => obtain ⟨a, h1, h2⟩ := h; exact ⟨a, h1, VRels.mono hm hw _ _ h2⟩
  | .tu xs => obtain ⟨a, h1, h2⟩ := h; exact ⟨a, h1, VRels.mono hm hw _ _ h2⟩
  | .mp o g => obtain ⟨b, h1, h2⟩ := h; exact ⟨b, hm _ _ _ h1, h2⟩
  | .cd c x =>
    cases c with
    | true => simp only [VRel, if_true] at h ⊢; exact VRel.mono hm hw _ _ h
    | false => simpa [VRel] using h
theorem VRels.mono {μ μ' : Mu} {w w' : World} (hm : μ.le μ') (hw : WExt w w') : ∀ (a : List AV) (v : List Value), VRels μ w a v → VRels μ' w' a v := by
  intro a v h
  match a with
  | [] => simpa [VRels] using h
  | x :: xs => obtain ⟨y, ys, h1, h2, h3⟩ := h; exact ⟨y, ys, h1, VRel.mono hm hw _ _ h2, VRels.mono hm hw _ _ h3⟩
end

mutual
/-- What refers to what was known before, refers to it still. -/
theorem VRel.back {μ μ' : Mu} {w w' : World} (hm : μ.le μ') : ∀ (a : AV) (v0 v : Value), VRel μ w a v0 → VRel μ' w' a v → VRel μ w' a v := by
  intro a v0 v h0 h
  match a with
  | .u => trivial
  | .b _ | .i _ _ | .s _ | .p0 | .sl0 | .fn0 | .ic0 | .mp0 => simpa [VRel] using h
  | .p o g off =>
    obtain ⟨b, δ, h1, h2⟩ := h; obtain ⟨b0, δ0, k1, _⟩ := h0
    have := (hm _ _ _ k1).symm.trans h1
    exact ⟨b, δ, by rw [k1, this], h2⟩
  | .sl o g off n z =>
    obtain ⟨b, δ, off', c, e, m, h1, h2, h3, h4, h5, h6⟩ := h; obtain ⟨b0, δ0, _, _, _, _, k1, _⟩ := h0
    have := (hm _ _ _ k1).symm.trans h1
    exact ⟨b, δ, off', c, e, m, by rw [k1, this], h2, h3, h4, h5, h6⟩
  | .fn f xs ys =>
    obtain ⟨a, c, h1, h2, h3⟩ := h; obtain ⟨a0, c0, _, k2, k3⟩ := h0
    exact ⟨a, c, h1, VRels.back hm _ _ _ k2 h2, VRels.back hm _ _ _ k3 h3⟩
  | .ic t x => obtain ⟨y, h1, h2⟩ := h; obtain ⟨y0, _, k2⟩ := h0; exact ⟨y, h1, VRel.back hm _ _ _ k2 h2⟩
  | .ag xs => obtain ⟨a, h1, h2⟩ := h; obtain ⟨a0, _, k2⟩ := h0; exact ⟨a, h1, VRels.back hm _ _ _ k2 h2⟩
  | .tu xs => obtain ⟨a, h1, h2⟩ := h; obtain ⟨a0, _, k2⟩ := h0; exact ⟨a, h1, VRels.back hm _ _ _ k2 h2⟩
  | .mp o g =>
    obtain ⟨b, h1, h2⟩ := h; obtain ⟨b0, k1, _⟩ := h0
    have := (hm _ _ _ k1).symm.trans h1
    exact ⟨b, by rw [k1, this], h2⟩
  | .cd c x =>
    cases c with
    | true => simp only [VRel, if_true] at h h0 ⊢; exact VRel.back hm _ _ _ h0 h
    | false => simpa [VRel] using h
theorem VRels.back {μ μ' : Mu} {w w' : World} (hm : μ.le μ') : ∀ (a : List AV) (v0 v : List Value), VRels μ w a v0 → VRels μ' w' a v → VRels μ w' a v := by
  intro a v0 v h0 h
  match a with
  | [] => simpa [VRels] using h
  | x :: xs => obtain ⟨y, ys, h1, h2, h3⟩ := h; obtain ⟨y0, ys0, _, k2, k3⟩ := h0; exact ⟨y, ys, h1, VRel.back hm _ _ _ k2 h2, VRels.back hm _ _ _ k3 h3⟩
end

mutual
/-- What refers to nothing. -/
theorem VRel.flat {μ μ' : Mu} {w w' : World} : ∀ (a : AV) (v : Value), a.flat = true → VRel μ w a v → VRel μ' w' a v := by
  intro a v hf h
  match a with
  | .u => trivial
  | .b _ | .i _ _ | .s _ | .p0 | .sl0 | .fn0 | .ic0 | .mp0 => simpa [VRel] using h
  | .p _ _ _ | .sl _ _ _ _ _ | .mp _ _ | .fn _ _ _ => simp [AV.flat] at hf
  | .ic t x => obtain ⟨y, h1, h2⟩ := h; exact ⟨y, h1, VRel.flat _ _ (by simpa [AV.flat] using hf) h2⟩
  | .ag xs => obtain ⟨a, h1, h2⟩ := h; exact ⟨a, h1, VRels.flat _ _ (by simpa [AV.flat] using hf) h2⟩
  | .tu xs => obtain ⟨a, h1, h2⟩ := h; exact ⟨a, h1, VRels.flat _ _ (by simpa [AV.flat] using hf) h2⟩
  | .cd c x =>
    cases c with
    | true => simp only [VRel, if_true] at h ⊢; exact VRel.flat _ _ (by simpa [AV.flat] using hf) h
    | false => simpa [VRel] using h
theorem VRels.flat {μ μ' : Mu} {w w' : World} : ∀ (a : List AV) (v : List Value), AV.flats a = true → VRels μ w a v → VRels μ' w' a v := by
  intro a v hf h
  match a with
  | [] => simpa [VRels] using h
  | x :: xs =>
    simp only [AV.flats, Bool.and_eq_true] at hf
    obtain ⟨y, ys, h1, h2, h3⟩ := h; exact ⟨y, ys, h1, VRel.flat _ _ hf.1 h2, VRels.flat _ _ hf.2 h3⟩
end

theorem VRels.length {μ : Mu} {w : World} : ∀ {a : List AV} {v : List Value}, VRels μ w a v → v.length = a.length
  | [], v, h => by simp only [VRels] at h; subst h; rfl
  | x :: xs, v, h => by obtain ⟨y, ys, rfl, _, h3⟩ := h; simp [VRels.length h3]
theorem VRels.get {μ : Mu} {w : World} : ∀ {a : List AV} {v : List Value}, VRels μ w a v → ∀ (j : Nat) x, a[j]? = some x → ∃ y, v[j]? = some y ∧ VRel μ w x y
  | [], v, h, j, x, hx => by simp at hx
  | x :: xs, v, h, j, z, hz => by
    obtain ⟨y, ys, rfl, h2, h3⟩ := h
    cases j with
    | zero => simp at hz; subst hz; exact ⟨y, rfl, h2⟩
    | succ j => simpa using VRels.get h3 j z (by simpa using hz)
theorem VRels.of_get {μ : Mu} {w : World} : ∀ {a : List AV} {v : List Value}, v.length = a.length → (∀ (j : Nat) x, a[j]? = some x → ∃ y, v[j]? = some y ∧ VRel μ w x y) → VRels μ w a v
  | [], v, hl, h => by simp only [VRels]; exact List.eq_nil_of_length_eq_zero (by simpa using hl)
  | x :: xs, [], hl, h => by simp at hl
  | x :: xs, y :: ys, hl, h => by
    obtain ⟨y', h1, h2⟩ := h 0 x rfl
    simp at h1; subst h1
    exact ⟨y, ys, rfl, h2, VRels.of_get (by simpa using hl) (fun j z hz => by simpa using h (j + 1) z (by simpa using hz))⟩
theorem VRels.append {μ : Mu} {w : World} {a b : List AV} {u v : List Value} (h : VRels μ w a u) (k : VRels μ w b v) : VRels μ w (a ++ b) (u ++ v) := by
  induction a generalizing u with
  | nil => simp only [VRels] at h; subst h; simpa using k
  | cons x xs ih => obtain ⟨y, ys, rfl, h2, h3⟩ := h; exact ⟨y, ys ++ v, rfl, h2, ih h3⟩
theorem VRels.take {μ : Mu} {w : World} {a : List AV} {u : List Value} (h : VRels μ w a u) (n : Nat) : VRels μ w (a.take n) (u.take n) := by
  induction n generalizing a u with
  | zero => simp [VRels]
  | succ n ih =>
    cases a with
    | nil => simp only [VRels] at h; subst h; simp [VRels]
    | cons x xs => obtain ⟨y, ys, rfl, h2, h3⟩ := h; exact ⟨y, ys.take n, rfl, h2, ih h3⟩
theorem VRels.drop {μ : Mu} {w : World} {a : List AV} {u : List Value} (h : VRels μ w a u) (n : Nat) : VRels μ w (a.drop n) (u.drop n) := by
  induction n generalizing a u with
  | zero => simpa using h
  | succ n ih =>
    cases a with
    | nil => simp only [VRels] at h; subst h; simp [VRels]
    | cons x xs => obtain ⟨y, ys, rfl, h2, h3⟩ := h; simpa using ih h3

/-! ### Objects -/
def AK.live : AK → Bool
  | .dead => false
  | _ => true

/-- A map's entries. -/
def EntRel (μ : Mu) (w : World) (es : List (AV × AV)) (l : List MapEntry) : Prop := l.length = es.length ∧ ∀ (i : Nat) (e : AV × AV) (m : MapEntry), es[i]? = some e → l[i]? = some m → VRel μ w e.1 m.key ∧ VRel μ w e.2 m.val
theorem EntRel.mono {μ μ' : Mu} {w w' : World} (hm : μ.le μ') (hw : WExt w w') (es : List (AV × AV)) (l : List MapEntry) (h : EntRel μ w es l) : EntRel μ' w' es l :=
  ⟨h.1, fun i e m h1 h2 => ⟨VRel.mono hm hw _ _ (h.2 i e m h1 h2).1, VRel.mono hm hw _ _ (h.2 i e m h1 h2).2⟩⟩
theorem EntRel.back {μ μ' : Mu} {w w' : World} (hm : μ.le μ') (es : List (AV × AV)) (l0 l : List MapEntry) (h0 : EntRel μ w es l0) (h : EntRel μ' w' es l) : EntRel μ w' es l :=
  ⟨h.1, fun i e m h1 h2 => by
    have hl : i < l0.length := by rw [h0.1]; exact (List.getElem?_eq_some_iff.1 h1).1
    have q := h0.2 i e _ h1 (List.getElem?_eq_getElem hl)
    exact ⟨VRel.back hm _ _ _ q.1 (h.2 i e m h1 h2).1, VRel.back hm _ _ _ q.2 (h.2 i e m h1 h2).2⟩⟩
def ORel (μ : Mu) (w : World) (b δ : Nat) (a : AO) : Prop :=
  match a.k with
  | .cells e cs => ∃ ccs fr, w.heap[b]? = some (.cells ccs e fr) ∧ δ + cs.length ≤ ccs.size ∧ (∀ j c, cs[j]? = some c → ∃ v, ccs[δ + j]? = some v ∧ VRel μ w c v) ∧
      (a.ro = false → ∀ j, j < ccs.size → ¬ (fr.1 ≤ j ∧ j < fr.2))
  | .iter s pos => δ = 0 ∧ w.heap[b]? = some (.stringIter ⟨s.toArray⟩ pos)
  | .maps es => δ = 0 ∧ ∃ ents clock, w.heap[b]? = some (.map ents clock) ∧ EntRel μ w es ents.toList
  | .dead => True

structure Sim (G : Nat) (μ : Mu) (σ : St) (w : World) : Prop where
  obj : ∀ (o : Nat) a, σ[o]? = some a → a.k.live = true → ∃ b δ, μ o a.g = some (b, δ) ∧ ORel μ w b δ a
  inj : ∀ (o o' : Nat) a a' b δ δ', σ[o]? = some a → σ[o']? = some a' → a.ro = false → a.k.live = true → a'.k.live = true → μ o a.g = some (b, δ) → μ o' a'.g = some (b, δ') → o = o'
  dom : ∀ o g x, μ o g = some x → ∃ a, σ[o]? = some a ∧ g ≤ a.g
  blk : ∀ o g b δ, μ o g = some (b, δ) → b < w.heap.size
  glob : ∀ g, g < G → μ g 0 = some (g, 0)

structure Step (G : Nat) (μ : Mu) (σ : St) (w : World) (μ' : Mu) (σ' : St) (w' : World) : Prop where
  sim : Sim G μ' σ' w'
  ext : μ.le μ'
  wext : WExt w w'
  os : w'.os = w.os
  tape : w'.tape = w.tape
  output : w'.output = w.output
  size : w.heap.size ≤ w'.heap.size
  frame : ∀ b, b < w.heap.size → (∀ (o : Nat) a δ, σ[o]? = some a → a.ro = false → a.k.live = true → μ o a.g ≠ some (b, δ)) → w'.heap[b]? = w.heap[b]?
  prov : ∀ (o : Nat) a b δ, σ'[o]? = some a → a.ro = false → a.k.live = true → μ' o a.g = some (b, δ) → b < w.heap.size →
    ∃ o2 a2 δ2, σ[o2]? = some a2 ∧ a2.ro = false ∧ a2.k.live = true ∧ μ o2 a2.g = some (b, δ2)

theorem Step.refl {G : Nat} {μ : Mu} {σ : St} {w : World} (h : Sim G μ σ w) : Step G μ σ w μ σ w :=
  ⟨h, fun _ _ _ h => h, WExt.refl w, rfl, rfl, rfl, Nat.le_refl _, fun _ _ _ => rfl, fun o a b δ h1 h2 h3 h4 _ => ⟨o, a, δ, h1, h2, h3, h4⟩⟩
theorem Step.trans {G : Nat} {μ μ1 μ2 : Mu} {σ σ1 σ2 : St} {w w1 w2 : World} (h : Step G μ σ w μ1 σ1 w1) (k : Step G μ1 σ1 w1 μ2 σ2 w2) : Step G μ σ w μ2 σ2 w2 :=
  ⟨k.sim, fun o g x q => k.ext _ _ _ (h.ext _ _ _ q), h.wext.trans k.wext, k.os.trans h.os, k.tape.trans h.tape, k.output.trans h.output, Nat.le_trans h.size k.size,
    fun b hb hn => (k.frame b (Nat.lt_of_lt_of_le hb h.size) (fun o a δ h1 h2 h3 h4 => by
      obtain ⟨o2, a2, δ2, q1, q2, q3, q4⟩ := h.prov o a b δ h1 h2 h3 h4 hb
      exact hn o2 a2 δ2 q1 q2 q3 q4)).trans (h.frame b hb hn),
    fun o a b δ h1 h2 h3 h4 hb => by
      obtain ⟨o2, a2, δ2, q1, q2, q3, q4⟩ := k.prov o a b δ h1 h2 h3 h4 (Nat.lt_of_lt_of_le hb h.size)
      exact h.prov o2 a2 b δ2 q1 q2 q3 q4 hb⟩

/-- A draw turns nothing. -/
theorem Step.drew {G : Nat} {μ : Mu} {σ : St} {w : World} (h : Sim G μ σ w) : Step G μ σ w μ σ { w with drawn := w.drawn + 1 } := by
  have hv : ∀ a v, VRel μ w a v → VRel μ { w with drawn := w.drawn + 1 } a v := fun a v hv => VRel.mono (Mu.le_refl μ) (show WExt w { w with drawn := w.drawn + 1 } from fun _ _ _ q => q) a v hv
  refine ⟨⟨fun o a ho hl => ?_, h.inj, h.dom, h.blk, h.glob⟩, fun _ _ _ h => h, fun _ _ _ q => q, rfl, rfl, rfl, Nat.le_refl _, fun _ _ _ => rfl, fun o a b δ h1 h2 h3 h4 _ => ⟨o, a, δ, h1, h2, h3, h4⟩⟩
  obtain ⟨b, δ, h1, h2⟩ := h.obj o a ho hl
  refine ⟨b, δ, h1, ?_⟩
  unfold ORel at h2 ⊢
  split <;> rename_i hk <;> rw [hk] at h2
  · obtain ⟨ccs, fr, q1, q2, q3, q4⟩ := h2
    exact ⟨ccs, fr, q1, q2, fun j c hj => let ⟨v, p1, p2⟩ := q3 j c hj; ⟨v, p1, hv _ _ p2⟩, q4⟩
  · exact h2
  · obtain ⟨q0, ents, clock, q1, q2⟩ := h2
    exact ⟨q0, ents, clock, q1, EntRel.mono (Mu.le_refl μ) (show WExt w { w with drawn := w.drawn + 1 } from fun _ _ _ q => q) _ _ q2⟩
  · trivial

/-- What a call leaves, where nothing old was written. -/
theorem Step.norm {G : Nat} {μ μ' : Mu} {σ σ' : St} {w w' : World} (h0 : Sim G μ σ w) (h : Step G μ σ w μ' σ' w') (hp : σ'.take σ.length = σ) : Step G μ σ w μ σ w' := by
  have hget : ∀ (o : Nat) a, σ[o]? = some a → σ'[o]? = some a := by
    intro o a ho
    have hlt : o < σ.length := by
      rcases Nat.lt_or_ge o σ.length with h | h
      · exact h
      · rw [List.getElem?_eq_none h] at ho; cases ho
    rw [← hp, List.getElem?_take, if_pos hlt] at ho
    exact ho
  refine ⟨⟨fun o a ho hl => ?_, h0.inj, h0.dom, fun o g b δ q => Nat.lt_of_lt_of_le (h0.blk o g b δ q) h.size, h0.glob⟩, fun _ _ _ h => h, h.wext, h.os, h.tape, h.output, h.size, h.frame, fun o a b δ h1 h2 h3 h4 _ => ⟨o, a, δ, h1, h2, h3, h4⟩⟩
  obtain ⟨b0, δ0, k1, k2⟩ := h0.obj o a ho hl
  obtain ⟨b, δ, h1, h2⟩ := h.sim.obj o a (hget o a ho) hl
  have he : some (b, δ) = some (b0, δ0) := h1.symm.trans (h.ext _ _ _ k1)
  cases he
  refine ⟨b0, δ0, k1, ?_⟩
  unfold ORel at h2 k2 ⊢
  split <;> rename_i hk <;> rw [hk] at h2 k2
  · obtain ⟨ccs, fr, q1, q2, q3, q4⟩ := h2
    obtain ⟨ccs0, fr0, p1, p2, p3, p4⟩ := k2
    refine ⟨ccs, fr, q1, q2, fun j c hj => ?_, q4⟩
    obtain ⟨v, r1, r2⟩ := q3 j c hj
    obtain ⟨v0, _, r0⟩ := p3 j c hj
    exact ⟨v, r1, VRel.back h.ext _ _ _ r0 r2⟩
  · exact h2
  · obtain ⟨q0, ents, clock, q1, q2⟩ := h2
    obtain ⟨_, ents0, clock0, _, p2⟩ := k2
    exact ⟨q0, ents, clock, q1, EntRel.back h.ext _ _ _ p2 q2⟩
  · trivial

theorem ORel.mono {μ μ' : Mu} {w w' : World} {b δ : Nat} {a : AO} (hm : μ.le μ') (hw : WExt w w') (hb : w'.heap[b]? = w.heap[b]?) (h : ORel μ w b δ a) : ORel μ' w' b δ a := by
  unfold ORel at h ⊢
  split <;> rename_i hk <;> rw [hk] at h
  · obtain ⟨ccs, fr, q1, q2, q3, q4⟩ := h
    exact ⟨ccs, fr, hb.trans q1, q2, fun j c hj => let ⟨v, p1, p2⟩ := q3 j c hj; ⟨v, p1, VRel.mono hm hw _ _ p2⟩, q4⟩
  · exact ⟨h.1, hb.trans h.2⟩
  · obtain ⟨q0, ents, clock, q1, q2⟩ := h
    exact ⟨q0, ents, clock, hb.trans q1, EntRel.mono hm hw _ _ q2⟩
  · trivial

def Mu.upd (μ : Mu) (o g : Nat) (x : Nat × Nat) : Mu := fun o' g' => if o' = o ∧ g' = g then some x else μ o' g'
theorem Mu.upd_self (μ : Mu) (o g : Nat) (x : Nat × Nat) : μ.upd o g x o g = some x := by simp [Mu.upd]
theorem Mu.le_upd {μ : Mu} {o g : Nat} {x : Nat × Nat} (h : μ o g = none) : μ.le (μ.upd o g x) := by
  intro o' g' y hy
  by_cases he : o' = o ∧ g' = g
  · rw [he.1, he.2, h] at hy; cases hy
  · simp [Mu.upd, he, hy]
theorem Mu.upd_ne {μ : Mu} {o g o' g' : Nat} {x : Nat × Nat} (h : ¬ (o' = o ∧ g' = g)) : μ.upd o g x o' g' = μ o' g' := by simp [Mu.upd, h]

theorem lt_of_get {α : Type} {l : List α} {o : Nat} {a : α} (h : l[o]? = some a) : o < l.length := by
  rcases Nat.lt_or_ge o l.length with h' | h'
  · exact h'
  · rw [List.getElem?_eq_none h'] at h; cases h
theorem lt_of_heap {w : World} {b : Nat} {o : Obj} (h : w.heap[b]? = some o) : b < w.heap.size := by
  rcases Nat.lt_or_ge b w.heap.size with h' | h'
  · exact h'
  · rw [Array.getElem?_eq_none h'] at h; cases h

theorem WExt.push (w : World) (x : Obj) : WExt w { w with heap := w.heap.push x } := by
  intro b e m h
  have hlt : b < w.heap.size := by
    unfold World.shape? at h
    split at h
    · rename_i q; exact lt_of_heap q
    · cases h
  unfold World.shape? at h ⊢
  rw [Array.getElem?_push, if_neg (by omega)]
  exact h

/-- A new object in a new block. -/
theorem Step.alloc {G : Nat} {μ : Mu} {σ : St} {w : World} (h : Sim G μ σ w) (a : AO) (x : Obj) (hg : a.g = 0)
    (hx : ∀ μ' w', μ.le μ' → WExt w w' → w'.heap[w.heap.size]? = some x → ORel μ' w' w.heap.size 0 a) :
    Step G μ σ w (μ.upd σ.length 0 (w.heap.size, 0)) (σ ++ [a]) { w with heap := w.heap.push x } := by
  have hnone : μ σ.length 0 = none := by
    cases hq : μ σ.length 0 with
    | none => rfl
    | some y => obtain ⟨a, ha, _⟩ := h.dom _ _ _ hq; simp at ha
  have hle := Mu.le_upd (x := (w.heap.size, 0)) hnone
  have hw := WExt.push w x
  have hold : ∀ b, b < w.heap.size → ({ w with heap := w.heap.push x } : World).heap[b]? = w.heap[b]? := fun b hb => by
    show (w.heap.push x)[b]? = _
    rw [Array.getElem?_push, if_neg (by omega)]
  have hnew : ({ w with heap := w.heap.push x } : World).heap[w.heap.size]? = some x := by
    show (w.heap.push x)[w.heap.size]? = _
    simp
  have hcase : ∀ (o : Nat) a', (σ ++ [a])[o]? = some a' → (σ[o]? = some a' ∧ o ≠ σ.length) ∨ (o = σ.length ∧ a' = a) := by
    intro o a' ho
    rcases Nat.lt_or_ge o σ.length with hl | hl
    · rw [List.getElem?_append_left hl] at ho; exact .inl ⟨ho, by omega⟩
    · rw [List.getElem?_append_right hl] at ho
      have : o - σ.length = 0 := by
        rcases Nat.eq_zero_or_pos (o - σ.length) with h | h
        · exact h
        · rw [List.getElem?_eq_none (by simp; omega)] at ho; cases ho
      rw [this] at ho
      simp at ho
      exact .inr ⟨by omega, ho.symm⟩
  refine ⟨⟨?_, ?_, ?_, ?_, ?_⟩, hle, hw, rfl, rfl, rfl, by simp, fun b hb _ => hold b hb, ?_⟩
  · intro o a' ho hl
    rcases hcase o a' ho with ⟨ho', hne⟩ | ⟨rfl, rfl⟩
    · obtain ⟨b, δ, h1, h2⟩ := h.obj o a' ho' hl
      exact ⟨b, δ, hle _ _ _ h1, ORel.mono hle hw (hold b (h.blk _ _ _ _ h1)) h2⟩
    · exact ⟨w.heap.size, 0, by rw [hg]; exact Mu.upd_self _ _ _ _, hx _ _ hle hw hnew⟩
  · intro o o' a1 a2 b δ δ' ho ho' hro hl1 hl2 hb hb'
    rcases hcase o a1 ho with ⟨ho1, hne⟩ | ⟨rfl, rfl⟩ <;> rcases hcase o' a2 ho' with ⟨ho2, hne'⟩ | ⟨rfl, rfl⟩
    · rw [Mu.upd_ne (by simp [hne])] at hb
      rw [Mu.upd_ne (by simp [hne'])] at hb'
      exact h.inj o o' a1 a2 b δ δ' ho1 ho2 hro hl1 hl2 hb hb'
    · rw [Mu.upd_ne (by simp [hne])] at hb
      rw [hg, Mu.upd_self] at hb'
      cases hb'
      have := h.blk _ _ _ _ hb
      omega
    · rw [Mu.upd_ne (by simp [hne'])] at hb'
      rw [hg, Mu.upd_self] at hb
      cases hb
      have := h.blk _ _ _ _ hb'
      omega
    · rfl
  · intro o g y hy
    by_cases he : o = σ.length ∧ g = 0
    · exact ⟨a, by rw [he.1]; simp, by rw [he.2]; exact Nat.zero_le _⟩
    · rw [Mu.upd_ne he] at hy
      obtain ⟨a', ha, hle⟩ := h.dom _ _ _ hy
      exact ⟨a', by rw [List.getElem?_append_left (lt_of_get ha)]; exact ha, hle⟩
  · intro o g b δ hy
    show b < (w.heap.push x).size
    by_cases he : o = σ.length ∧ g = 0
    · rw [he.1, he.2, Mu.upd_self] at hy; cases hy; simp
    · rw [Mu.upd_ne he] at hy; have := h.blk _ _ _ _ hy; simp; omega
  · intro g hg'
    exact hle _ _ _ (h.glob g hg')
  · intro o a' b δ ho hro hl hb hlt
    rcases hcase o a' ho with ⟨ho1, hne⟩ | ⟨rfl, rfl⟩
    · rw [Mu.upd_ne (by simp [hne])] at hb
      exact ⟨o, a', δ, ho1, hro, hl, hb⟩
    · rw [hg, Mu.upd_self] at hb; cases hb; omega

theorem set_get {σ : St} {o o' : Nat} {a a' : AO} (h : (σ.set o a)[o']? = some a') : (o' = o ∧ a' = a) ∨ (o' ≠ o ∧ σ[o']? = some a') := by
  by_cases he : o' = o
  · subst he
    rw [List.getElem?_set_self'] at h
    cases hq : σ[o']? with
    | none => rw [hq] at h; cases h
    | some x => rw [hq] at h; simp at h; exact .inl ⟨rfl, h.symm⟩
  · rw [List.getElem?_set_ne (fun h => he h.symm)] at h; exact .inr ⟨he, h⟩

/-- An object written, in its place or one generation further on, there or in a new block. -/
theorem Step.write {G : Nat} {μ μ' : Mu} {σ : St} {w w' : World} (h : Sim G μ σ w) {o : Nat} {a a' : AO} (ho : σ[o]? = some a) (hro : a.ro = false) (hl : a.k.live = true)
    (hro' : a'.ro = false) (b δ b' δ' : Nat) (hb : μ o a.g = some (b, δ)) (hg : a.g ≤ a'.g)
    (hle : μ.le μ') (hb' : μ' o a'.g = some (b', δ')) (hdom : ∀ o1 g1 x, μ' o1 g1 = some x → μ o1 g1 = some x ∨ (o1 = o ∧ g1 = a'.g ∧ x = (b', δ')))
    (hw : WExt w w') (hos : w'.os = w.os) (htape : w'.tape = w.tape) (hout : w'.output = w.output) (hsize : w.heap.size ≤ w'.heap.size)
    (hblk : b' < w'.heap.size) (hb2 : b' = b ∨ w.heap.size ≤ b')
    (hsame : ∀ k, k < w.heap.size → k ≠ b → w'.heap[k]? = w.heap[k]?)
    (hx : ORel μ' w' b' δ' a') : Step G μ σ w μ' (σ.set o a') w' := by
  have hne : ∀ (o1 : Nat) a1 b1 δ1, o1 ≠ o → σ[o1]? = some a1 → a1.k.live = true → μ o1 a1.g = some (b1, δ1) → b1 ≠ b := by
    intro o1 a1 b1 δ1 hn h1 hl1 hb1 he
    subst he
    exact hn (h.inj o o1 a a1 b1 δ δ1 ho h1 hro hl hl1 hb hb1).symm
  refine ⟨⟨?_, ?_, ?_, ?_, ?_⟩, hle, hw, hos, htape, hout, hsize, ?_, ?_⟩
  · intro o1 a1 h1 hl1
    rcases set_get h1 with ⟨rfl, rfl⟩ | ⟨hn, h1'⟩
    · exact ⟨b', δ', hb', hx⟩
    · obtain ⟨b1, δ1, q1, q2⟩ := h.obj o1 a1 h1' hl1
      exact ⟨b1, δ1, hle _ _ _ q1, ORel.mono hle hw (hsame b1 (h.blk _ _ _ _ q1) (hne o1 a1 b1 δ1 hn h1' hl1 q1)) q2⟩
  · intro o1 o2 a1 a2 b1 δ1 δ2 h1 h2 hr1 hl1 hl2 q1 q2
    rcases set_get h1 with ⟨rfl, rfl⟩ | ⟨hn1, h1'⟩ <;> rcases set_get h2 with ⟨rfl, rfl⟩ | ⟨hn2, h2'⟩
    · rfl
    · obtain ⟨b3, δ3, p1, _⟩ := h.obj o2 a2 h2' hl2
      rw [hle _ _ _ p1] at q2; cases q2
      rw [hb'] at q1; cases q1
      rcases hb2 with rfl | hge
      · exact absurd rfl (hne o2 a2 _ _ hn2 h2' hl2 p1)
      · have := h.blk _ _ _ _ p1; omega
    · obtain ⟨b3, δ3, p1, _⟩ := h.obj o1 a1 h1' hl1
      rw [hle _ _ _ p1] at q1; cases q1
      rw [hb'] at q2; cases q2
      rcases hb2 with rfl | hge
      · exact absurd rfl (hne o1 a1 _ _ hn1 h1' hl1 p1)
      · have := h.blk _ _ _ _ p1; omega
    · obtain ⟨b3, δ3, p1, _⟩ := h.obj o1 a1 h1' hl1
      obtain ⟨b4, δ4, p2, _⟩ := h.obj o2 a2 h2' hl2
      rw [hle _ _ _ p1] at q1; cases q1
      rw [hle _ _ _ p2] at q2; cases q2
      exact h.inj o1 o2 a1 a2 b1 δ1 δ2 h1' h2' hr1 hl1 hl2 p1 p2
  · intro o1 g1 x q
    rcases hdom o1 g1 x q with q' | ⟨rfl, rfl, rfl⟩
    · obtain ⟨a1, h1, h2⟩ := h.dom _ _ _ q'
      by_cases he : o1 = o
      · subst he
        rw [ho] at h1; cases h1
        exact ⟨a', by rw [List.getElem?_set_self (lt_of_get ho)], by omega⟩
      · exact ⟨a1, by rw [List.getElem?_set_ne (fun h => he h.symm)]; exact h1, h2⟩
    · exact ⟨a', by rw [List.getElem?_set_self (lt_of_get ho)], Nat.le_refl _⟩
  · intro o1 g1 b1 δ1 q
    rcases hdom o1 g1 _ q with q' | ⟨rfl, rfl, hx⟩
    · exact Nat.lt_of_lt_of_le (h.blk _ _ _ _ q') hsize
    · cases hx; exact hblk
  · intro g hg'
    exact hle _ _ _ (h.glob g hg')
  · intro k hk hn
    exact hsame k hk (fun he => hn o a δ ho hro hl (by rw [he]; exact hb))
  · intro o1 a1 b1 δ1 h1 hr1 hl1 q1 hlt
    rcases set_get h1 with ⟨rfl, rfl⟩ | ⟨hn, h1'⟩
    · rw [hb'] at q1; cases q1
      rcases hb2 with rfl | hge
      · exact ⟨o1, a, δ, ho, hro, hl, hb⟩
      · omega
    · obtain ⟨b3, δ3, p1, _⟩ := h.obj o1 a1 h1' hl1
      rw [hle _ _ _ p1] at q1; cases q1
      exact ⟨o1, a1, δ1, h1', hr1, hl1, p1⟩
end Go.Abs
