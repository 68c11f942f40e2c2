/- The layer Abs, part 33 (between 11 and 12): maps. -/
import Derived.Test.YtjphfiieapclhaaDoorAbs11
namespace Go.Abs
section
variable {P : Program} {G : Nat} {μ : Mu} {σ : St} {w : World}

theorem und_map {t k e : Nat} {T : AT} (h : tyOf P t = some T) (hd : T.d = .map k e) : P.underlying t = some (.map k e) := by
  obtain ⟨i, d, z, h1, h2, h3, h4, _⟩ := ty_info h
  rw [hd] at h4
  cases d <;> simp only [adOf] at h4 <;> first | (cases h4; done) | skip
  cases h4; exact h2

/-! #### Keys -/
theorem simple_und {t : Nat} {T : AT} (h : tyOf P t = some T) {k : AV} (hk : simpleKey T.d k = true) : (P.underlying t = some .bool ∧ ∃ x, k = .b x) ∨ (∃ j, P.underlying t = some (.int j) ∧ ∃ i n, k = .i i n) ∨ (P.underlying t = some .string ∧ ∃ s, k = .s s) := by
  obtain ⟨i, d, z, h1, h2, h3, h4, _⟩ := ty_info h
  rw [← h4] at hk
  cases d <;> simp only [adOf] at hk <;> cases k <;> simp only [simpleKey, Bool.false_eq_true] at hk
  · exact .inl ⟨h2, _, rfl⟩
  · exact .inr (.inl ⟨_, h2, _, _, rfl⟩)
  · exact .inr (.inr ⟨h2, _, rfl⟩)
theorem check_simple {t : Nat} {T : AT} (h : tyOf P t = some T) {k : AV} (hk : simpleKey T.d k = true) {u : Value} (hu : VRel μ w k u) (e : Bool) (n : Nat) : (Instr.checkKey e (n + 1) t u).run P w = .ok () w := by
  rcases simple_und h hk with ⟨hd, x, rfl⟩ | ⟨j, hd, i, m, rfl⟩ | ⟨hd, s, rfl⟩
  all_goals
    simp only [VRel] at hu
    subst hu
    simp [Instr.checkKey, run_und hd]
theorem check_parts (e : Bool) (n : Nat) {cs : List AV} {a : Array Value} (hr : VRels μ w cs a.toList) : ∀ (fs : List Field), simpleParts P cs (fs.map fun f => (f.offset, f.type, f.name == "_")) = true →
    (forIn fs PUnit.unit fun f _ => do
      if f.name ≠ "_" then Instr.checkKey e (n + 1) f.type (← part f.type a f.offset)
      pure (ForInStep.yield PUnit.unit) : Sem PUnit).run P w = .ok PUnit.unit w
  | [], _ => by simp
  | f :: fs, h => by
    simp only [List.map_cons, simpleParts, Bool.and_eq_true, Bool.or_eq_true, beq_iff_eq] at h
    have ih := check_parts e n hr fs h.2
    by_cases hf : f.name = "_"
    · simp only [List.forIn_cons, hf, ne_eq, not_true, if_false]
      simpa using ih
    · have h1 := h.1.resolve_left hf
      split at h1
      · rename_i F hF
        split at h1
        · rename_i x hx
          obtain ⟨u, q1, q2⟩ := run_part hF hr hx
          have q3 := check_simple hF h1 q2 e n
          simp only [List.forIn_cons, ne_eq, hf, not_false_iff, if_true]
          simp [q1, q3]
          simpa using ih
        · cases h1
      · cases h1
theorem check_key {t : Nat} {k : AV} (hk : keyOk P t k = true) {u : Value} (hu : VRel μ w k u) (e : Bool) : (Instr.checkKey e 10000 t u).run P w = .ok () w := by
  unfold keyOk at hk
  split at hk
  · rename_i T hT
    simp only [Bool.or_eq_true] at hk
    rcases hk with hk | hk
    · exact check_simple hT hk hu e 9999
    · split at hk
      · rename_i fs cs hd
        obtain ⟨Fs, hF, hfs⟩ := und_st hT hd
        obtain ⟨a, rfl, ha⟩ := hu
        rw [hfs] at hk
        have := check_parts (P := P) e 9998 ha Fs.toList hk
        unfold Instr.checkKey
        simp only [Sem.run_bind, run_und hF, Result.andThen_ok']
        rw [← Array.forIn_toList]
        simp at this ⊢
        rw [this]; rfl
      · cases hk
  · cases hk

/-! #### What is found -/
theorem now_eq {t : Nat} {x y : AV} {u v : Value} {dd : TypeDesc} {b b' : Bool} (h : aEq P 20 t x y = some b) (hx : VRel μ w x u) (hy : VRel μ w y v) (hu : P.underlying t = some dd) (hn : Instr.sameNow dd u v = some b') : b' = b := by
  have h1 : (Op.equalIn (9999 + 1) t u v).run P w = .ok b w := eq_rel 20 10000 t x y u v b (by omega) h hx hy
  unfold Op.equalIn at h1
  simp only [Sem.run_bind, run_und hu, Result.andThen_ok'] at h1
  unfold Instr.sameNow at hn
  split at hn
  · split at hn
    · rename_i hk
      cases hn
      simp only [hk, if_true, Sem.run_pure, Result.ok.injEq, and_true] at h1
      exact h1
    · cases hn
  · cases hn
    simp only [Sem.run_pure, Result.ok.injEq, and_true] at h1
    exact h1
  · cases hn
    simp only [Sem.run_pure, Result.ok.injEq, and_true] at h1
    exact h1
  · cases hn
/-- What is found, to both. -/
def FRel (μ : Mu) (w : World) (es : List (AV × AV)) (l : List MapEntry) (i : Nat) : Option (Nat × (AV × AV)) → Option (Nat × Value) → Prop
  | none, r => r = none
  | some (j, e), r => ∃ n m, j = i + n ∧ es[n]? = some e ∧ l[n]? = some m ∧ r = some (j, m.val) ∧ VRel μ w e.1 m.key ∧ VRel μ w e.2 m.val
theorem EntRel.cons {e : AV × AV} {es : List (AV × AV)} {l : List MapEntry} (h : EntRel μ w (e :: es) l) : ∃ m ms, l = m :: ms ∧ VRel μ w e.1 m.key ∧ VRel μ w e.2 m.val ∧ EntRel μ w es ms := by
  cases l with
  | nil => have := h.1; simp at this
  | cons m ms =>
    have q := h.2 0 e m rfl rfl
    exact ⟨m, ms, rfl, q.1, q.2, by simpa using h.1, fun i e' m' h1 h2 => h.2 (i + 1) e' m' (by simpa using h1) (by simpa using h2)⟩
theorem FRel.cons {e : AV × AV} {es : List (AV × AV)} {m : MapEntry} {ms : List MapEntry} {i : Nat} {r : Option (Nat × (AV × AV))} {r' : Option (Nat × Value)} (h : FRel μ w es ms (i + 1) r r') : FRel μ w (e :: es) (m :: ms) i r r' := by
  cases r with
  | none => exact h
  | some r =>
    obtain ⟨j, e'⟩ := r
    obtain ⟨n, m', h1, h2, h3, h4⟩ := h
    exact ⟨n + 1, m', by omega, by simpa using h2, by simpa using h3, h4⟩
theorem find_ask {t : Nat} {k : AV} {u : Value} (hu : VRel μ w k u) : ∀ (es : List (AV × AV)) (l : List MapEntry) (i : Nat) (r : Option (Nat × (AV × AV))), EntRel μ w es l → findA P t k es i = some r → ∃ r', (Instr.findAsking t u l i).run P w = .ok r' w ∧ FRel μ w es l i r r'
  | [], l, i, r, hr, h => by
    cases h
    have : l = [] := List.eq_nil_of_length_eq_zero hr.1
    subst this
    exact ⟨none, by simp [Instr.findAsking], rfl⟩
  | e :: es, l, i, r, hr, h => by
    obtain ⟨m, ms, rfl, h1, h2, h3⟩ := hr.cons
    simp only [findA] at h
    split at h
    · rename_i he
      cases h
      have q := eq_rel 20 10000 t k e.1 u m.key true (by omega) he hu h1
      refine ⟨some (i, m.val), ?_, 0, m, rfl, rfl, rfl, rfl, h1, h2⟩
      simp [Instr.findAsking, Op.equal, Op.maxDepth, q]
    · rename_i he
      have q := eq_rel 20 10000 t k e.1 u m.key false (by omega) he hu h1
      obtain ⟨r', k1, k2⟩ := find_ask hu es ms (i + 1) r h3 h
      refine ⟨r', ?_, k2.cons⟩
      simp [Instr.findAsking, Op.equal, Op.maxDepth, q, k1]
    · cases h
theorem find_now {t : Nat} {k : AV} {u : Value} {dd : TypeDesc} (hd : P.underlying t = some dd) (hu : VRel μ w k u) : ∀ (es : List (AV × AV)) (l : List MapEntry) (i : Nat) (r : Option (Nat × (AV × AV))) (r' : Option (Nat × Value)), EntRel μ w es l → findA P t k es i = some r → Instr.findNow dd u l i = some r' → FRel μ w es l i r r'
  | [], l, i, r, r', hr, h, hn => by
    cases h
    have : l = [] := List.eq_nil_of_length_eq_zero hr.1
    subst this
    simp only [Instr.findNow, Option.some.injEq] at hn
    exact hn.symm
  | e :: es, l, i, r, r', hr, h, hn => by
    obtain ⟨m, ms, rfl, h1, h2, h3⟩ := hr.cons
    simp only [findA] at h
    simp only [Instr.findNow] at hn
    split at h
    · rename_i he
      cases h
      split at hn
      · cases hn
        exact ⟨0, m, rfl, rfl, rfl, rfl, h1, h2⟩
      · rename_i hs; have := now_eq he hu h1 hd hs; cases this
      · cases hn
    · rename_i he
      split at hn
      · rename_i hs; have := now_eq he hu h1 hd hs; cases this
      · exact (find_now hd hu es ms (i + 1) r r' h3 h hn).cons
      · cases hn
    · cases h
theorem find_key {t : Nat} {T : AT} (hT : tyOf P t = some T) {k : AV} {u : Value} (hu : VRel μ w k u) {es : List (AV × AV)} {l : List MapEntry} {r : Option (Nat × (AV × AV))} (hr : EntRel μ w es l) (h : findA P t k es 0 = some r) : ∃ r', (Instr.findKey t u l).run P w = .ok r' w ∧ FRel μ w es l 0 r r' := by
  obtain ⟨i, d, z, h1, h2, _⟩ := ty_info hT
  unfold Instr.findKey
  simp only [Sem.run_bind, run_und h2, Result.andThen_ok']
  cases hn : Instr.findNow d u l 0 with
  | some r' => exact ⟨r', by simp, find_now h2 hu es l 0 r r' hr h hn⟩
  | none => exact find_ask hu es l 0 r hr h
theorem keyOk_ty {t : Nat} {k : AV} (h : keyOk P t k = true) : ∃ T, tyOf P t = some T := by
  unfold keyOk at h
  split at h
  · exact ⟨_, by assumption⟩
  · cases h

/-! #### The operations -/
theorem ents_obj (hs : Sim G μ σ w) {x : AV} {u : Value} {es : List (AV × AV)} (hx : VRel μ w x u) (h : entsAt σ x = some es) : (u = .map none ∧ es = []) ∨ ∃ b ents clock, u = .map (some b) ∧ w.heap[b]? = some (.map ents clock) ∧ EntRel μ w es ents.toList := by
  unfold entsAt at h
  split at h
  · cases h; exact .inl ⟨hx, rfl⟩
  · rename_i o g
    split at h
    · rename_i g' ro es' ho
      split at h
      · rename_i hg
        subst hg
        cases h
        obtain ⟨b, hb, rfl⟩ := hx
        obtain ⟨b', δ', h1, h2⟩ := hs.obj o _ ho rfl
        have := h1.symm.trans hb
        cases this
        obtain ⟨_, ents, clock, h3, h4⟩ := h2
        exact .inr ⟨b, ents, clock, rfl, h3, h4⟩
      · cases h
    · cases h
  · cases h
theorem run_obj {b : Nat} {es : Array MapEntry} {c : Nat} (h : w.heap[b]? = some (.map es c)) : (getObj b).run P w = .ok (.map es c) w := by simp [getObj, Sem.run, h]
theorem run_set {b : Nat} {es : Array MapEntry} {c : Nat} {o' : Obj} (h : w.heap[b]? = some (.map es c)) : (setObj b o').run P w = .ok () { w with heap := w.heap.setIfInBounds b o' } := by simp [setObj, Sem.run, h]
theorem lku_run {t kt et : Nat} {u v : Value} {ok : Bool} (hT : P.underlying t = some (.map kt et)) {ents : Array MapEntry} (hu : (u = .map none ∧ ents = #[]) ∨ ∃ b c, u = .map (some b) ∧ w.heap[b]? = some (.map ents c))
    (hc : (Instr.checkKey ents.isEmpty 10000 kt v).run P w = .ok () w) {r' : Option (Nat × Value)} (hf : (Instr.findKey kt v ents.toList).run P w = .ok r' w) {z : Value} (hz : (zeroValue et).run P w = .ok z w) :
    (Instr.lookup t u v ok).run P w = .ok (match r' with
      | some (_, x) => if ok then .tuple #[x, .bool true] else x
      | none => if ok then .tuple #[z, .bool false] else z) w := by
  unfold Instr.lookup
  rcases hu with ⟨rfl, rfl⟩ | ⟨b, c, rfl, hb⟩
  · simp only [Sem.run_bind, run_und hT, Result.andThen_ok', Sem.run_pure, hc, hf]
    cases r' with
    | none => simp [hz]
    | some r' => simp
  · simp only [Sem.run_bind, run_und hT, Result.andThen_ok', Sem.run_pure, run_obj hb, hc, hf]
    cases r' with
    | none => simp [hz]
    | some r' => simp
theorem lku_rel {t : Nat} {x k a : AV} {ok : Bool} {u v : Value} (hs : Sim G μ σ w) (h : aLku P t x k ok σ = some a) (hx : VRel μ w x u) (hk : VRel μ w k v) : Gives P μ w (Instr.lookup t u v ok) a := by
  unfold aLku at h
  split at h
  · rename_i kt et _ _ _ _ _ _ hT
    split at h
    · rename_i es E hes hE
      split at h
      · rename_i hko
        rw [Option.map_eq_some_iff] at h
        obtain ⟨r, hr, h⟩ := h
        obtain ⟨KT, hKT⟩ := keyOk_ty hko
        obtain ⟨z, hz1, hz2⟩ := run_zero (w := w) hE
        have hzr : VRel μ w E.zero z := by rw [← hz2]; exact avOf_rel z
        have main : ∀ (ents : Array MapEntry), EntRel μ w es ents.toList → ((u = .map none ∧ ents = #[]) ∨ ∃ b c, u = .map (some b) ∧ w.heap[b]? = some (.map ents c)) → Gives P μ w (Instr.lookup t u v ok) a := by
          intro ents he hu
          obtain ⟨r', q1, q2⟩ := find_key hKT hk he hr
          refine ⟨_, lku_run (und_map hT rfl) hu (check_key hko hk ents.isEmpty) q1 hz1, ?_⟩
          cases r with
          | none =>
            simp only [FRel] at q2
            subst q2
            subst h
            cases ok with
            | true => exact ⟨_, rfl, z, _, rfl, hzr, _, _, rfl, rfl, rfl⟩
            | false => exact hzr
          | some re =>
            obtain ⟨j, e⟩ := re
            obtain ⟨n, m, _, _, _, rfl, _, hv⟩ := q2
            subst h
            cases ok with
            | true => exact ⟨_, rfl, m.val, _, rfl, hv, _, _, rfl, rfl, rfl⟩
            | false => exact hv
        rcases ents_obj hs hx hes with ⟨rfl, rfl⟩ | ⟨b, ents, clock, rfl, hb, he⟩
        · exact main #[] ⟨rfl, fun i e m h1 _ => by simp at h1⟩ (.inl ⟨rfl, rfl⟩)
        · exact main ents he (.inr ⟨b, clock, rfl, hb⟩)
      · cases h
    · cases h
  · cases h
theorem mln_rel {t ty : Nat} {x a : AV} {u : Value} (hs : Sim G μ σ w) (h : aMln P t x σ = some a) (hx : VRel μ w x u) : Gives P μ w (Builtin.len_ #[t] ty #[u]) a := by
  unfold aMln at h
  split at h
  · rename_i kt et _ _ _ _ _ _ hT
    rw [Option.map_eq_some_iff] at h
    obtain ⟨es, hes, rfl⟩ := h
    rcases ents_obj hs hx hes with ⟨rfl, rfl⟩ | ⟨b, ents, clock, rfl, hb, he⟩
    · exact ⟨_, by simp [Builtin.len_, run_und (und_map hT rfl)]; rfl, rfl⟩
    · refine ⟨goInt ents.size, by simp [Builtin.len_, run_und (und_map hT rfl), run_obj hb], ?_⟩
      have := he.1
      simp only [VRel, goInt, Value.int.injEq, true_and]
      simp at this
      omega
  · cases h
theorem mkm_rel {t : Nat} {r : Option AV} {u : Option Value} {a : AV} {σ' : St} (hs : Sim G μ σ w) (h : aMkm P t r σ = some (a, σ')) (hr : OptRel μ w r u) : Acts P G μ σ w (Instr.makeMap t u) a σ' := by
  have main : ∀ (s : Sem Value), s.run P w = (do pure (.map (some (← newObj (.map #[] 0)))) : Sem Value).run P w → a = .mp σ.length 0 → σ' = σ ++ [⟨0, false, .maps []⟩] → Acts P G μ σ w s a σ' := by
    rintro s he rfl rfl
    refine ⟨.map (some w.heap.size), _, _, ?_, ⟨w.heap.size, Mu.upd_self _ _ _ _, rfl⟩, Step.alloc hs ⟨0, false, .maps []⟩ (.map #[] 0) rfl (fun _ _ _ _ hh => ⟨rfl, #[], 0, hh, rfl, fun i e m h1 _ => by simp at h1⟩)⟩
    rw [he]
    simp [newObj, Sem.run]
  unfold aMkm at h
  split at h
  · cases h
    cases u with
    | none => exact main _ (by simp [Instr.makeMap]) rfl rfl
    | some _ => exact hr.elim
  · rename_i k n
    split at h
    · rename_i hT
      cases h
      cases u with
      | none => exact hr.elim
      | some v =>
        have hv : v = .int k n := hr
        subst hv
        exact main _ (by simp [Instr.makeMap, run_und (und_map hT rfl), asInt, asIntOf]) rfl rfl
    · cases h
  · cases h
/-- A map written. -/
theorem Step.ents (hs : Sim G μ σ w) {o g b δ : Nat} {es es' : List (AV × AV)} {ents ents' : Array MapEntry} {clock clock' : Nat} (ho : σ[o]? = some ⟨g, false, .maps es⟩) (hb : μ o g = some (b, δ)) (hh : w.heap[b]? = some (.map ents clock)) (hδ : δ = 0) (he : EntRel μ w es' ents'.toList) :
    Step G μ σ w μ (σ.set o ⟨g, false, .maps es'⟩) { w with heap := w.heap.setIfInBounds b (.map ents' clock') } := by
  subst hδ
  have hlt := lt_of_heap hh
  have hw : WExt w { w with heap := w.heap.setIfInBounds b (.map ents' clock') } := by
    intro b' e' m h
    unfold World.shape? at h ⊢
    show (match (w.heap.setIfInBounds b _)[b']? with | some (.cells c elem _) => some (elem, c.size) | _ => none) = _
    rw [Array.getElem?_setIfInBounds]
    by_cases he : b = b'
    · subst he; rw [hh] at h; cases h
    · rw [if_neg he]; exact h
  refine Step.write hs ho rfl rfl rfl b 0 b 0 hb (Nat.le_refl _) (Mu.le_refl μ) hb (fun _ _ _ h => .inl h) hw rfl rfl rfl (by simp) (by simpa using hlt) (.inl rfl)
    (fun k _ hk => by show (w.heap.setIfInBounds b _)[k]? = _; rw [Array.getElem?_setIfInBounds, if_neg (fun h => hk h.symm)]) ⟨rfl, ents', clock', ?_, EntRel.mono (Mu.le_refl μ) hw _ _ he⟩
  show (w.heap.setIfInBounds b _)[b]? = _
  rw [Array.getElem?_setIfInBounds, if_pos rfl, if_pos hlt]
theorem plain_same {k : AV} {u v : Value} (hk : plainKey k = true) (hu : VRel μ w k u) (hv : VRel μ w k v) (n : Nat) : u = v ∧ Instr.sameBits n u v = true := by
  cases k <;> simp only [plainKey, Bool.false_eq_true] at hk <;> simp only [VRel] at hu hv <;> subst hu <;> subst hv <;> exact ⟨rfl, by first | (simp [Instr.sameBits]; done) | (simp [Instr.sameBits, bytes_beq]; done) | (simp [Instr.sameBits]; exact beq_self_eq_true _)⟩
theorem plains_same (n : Nat) : ∀ {cs : List AV} {us vs : List Value}, cs.all plainKey = true → VRels μ w cs us → VRels μ w cs vs → us.length = vs.length ∧ (us.zip vs).all (fun p => Instr.sameBits n p.1 p.2) = true
  | [], us, vs, _, hu, hv => by simp only [VRels] at hu hv; subst hu; subst hv; simp
  | c :: cs, us, vs, hk, hu, hv => by
    simp only [List.all_cons, Bool.and_eq_true] at hk
    obtain ⟨u, us, rfl, h1, h2⟩ := hu
    obtain ⟨v, vs, rfl, h3, h4⟩ := hv
    have q := plains_same n hk.2 h2 h4
    have p := plain_same hk.1 h1 h3 n
    simp [q.1, p.2]
    simpa using q.2
theorem bits_same {k : AV} {u v : Value} (hk : bitsKey k = true) (hu : VRel μ w k u) (hv : VRel μ w k v) : Instr.sameBits 10000 u v = true := by
  unfold bitsKey at hk
  split at hk
  · obtain ⟨a, rfl, ha⟩ := hu
    obtain ⟨b, rfl, hb⟩ := hv
    have q := plains_same 9999 hk ha hb
    have e : Instr.sameBits 10000 (.agg a) (.agg b) = (a.size == b.size && (a.toList.zip b.toList).all fun (x, y) => Instr.sameBits 9999 x y) := by simp [Instr.sameBits]
    rw [e, Bool.and_eq_true]
    exact ⟨by simpa using q.1, q.2⟩
  · exact (plain_same hk hu hv 10000).2
theorem mup_rel {t : Nat} {m k x : AV} {u v y : Value} {σ' : St} (hs : Sim G μ σ w) (h : aMup P t m k x σ = some σ') (hm : VRel μ w m u) (hk : VRel μ w k v) (hx : VRel μ w x y) : ∃ w', (Instr.mapUpdate t u v y).run P w = .ok () w' ∧ Step G μ σ w μ σ' w' := by
  unfold aMup at h
  split at h
  · rename_i kt et _ _ _ _ _ _ o g hT
    split at h
    · rename_i g' es ho
      split at h
      · rename_i hc
        obtain ⟨rfl, hko⟩ := hc
        obtain ⟨KT, hKT⟩ := keyOk_ty hko
        obtain ⟨b, hb, rfl⟩ := hm
        obtain ⟨b', δ', h1, h2⟩ := hs.obj o _ ho rfl
        have := h1.symm.trans hb
        cases this
        obtain ⟨_, ents, clock, h3, h4⟩ := h2
        have hc := check_key hko hk false
        split at h
        · rename_i i e hf
          split at h
          · rename_i hbits
            obtain ⟨hkk, hbits⟩ := hbits
            cases h
            obtain ⟨r', q1, q2⟩ := find_key hKT hk h4 hf
            obtain ⟨n, me, hj, hes, hme, rfl, hke, _⟩ := q2
            obtain rfl : i = n := by omega
            have hke' : VRel μ w k me.key := by rw [AV.eqv_eq _ _ hkk]; exact hke
            have hme' : ents[i]? = some me := by simpa using hme
            refine ⟨_, ?_, Step.ents (ents' := ents.modify i fun e => { e with key := v, val := y }) (clock' := clock) hs ho hb h3 rfl ?_⟩
            · unfold Instr.mapUpdate
              simp only [Sem.run_bind, run_und (und_map hT rfl), run_obj h3, hc, q1, Result.andThen_ok', hme', Option.map_some, Option.getD_some, Instr.keyThatStays, bits_same hbits hke' hk, if_true, Sem.run_pure, run_set h3]
            · refine ⟨by simpa using h4.1, fun j e' m' h5 h6 => ?_⟩
              have hlen : i < es.length := (List.getElem?_eq_some_iff.1 hes).1
              rw [List.getElem?_set] at h5
              rw [Array.toList_modify, List.getElem?_modify] at h6
              by_cases hij : i = j
              · subst hij
                rw [if_pos rfl, if_pos hlen] at h5
                cases h5
                rw [hme] at h6
                simp at h6
                subst h6
                exact ⟨hk, hx⟩
              · rw [if_neg hij] at h5
                simp [hij] at h6
                exact h4.2 j e' m' h5 (by simpa using h6)
          · cases h
        · rename_i hf
          cases h
          obtain ⟨r', q1, q2⟩ := find_key hKT hk h4 hf
          simp only [FRel] at q2
          subst q2
          refine ⟨_, ?_, Step.ents (ents' := ents.push { key := v, val := y, born := clock }) (clock' := clock + 1) hs ho hb h3 rfl ?_⟩
          · unfold Instr.mapUpdate
            simp only [Sem.run_bind, run_und (und_map hT rfl), run_obj h3, hc, q1, Result.andThen_ok', run_set h3]
          · have hl := h4.1
            refine ⟨by simp at hl ⊢; omega, fun j e' m' h5 h6 => ?_⟩
            rw [Array.toList_push] at h6
            by_cases hj : j < es.length
            · rw [List.getElem?_append_left hj] at h5
              rw [List.getElem?_append_left (by omega)] at h6
              exact h4.2 j e' m' h5 h6
            · rw [List.getElem?_append_right (by omega)] at h5
              rw [List.getElem?_append_right (by omega)] at h6
              rw [hl] at h6
              have hj0 : j - es.length = 0 := by
                rcases Nat.eq_zero_or_pos (j - es.length) with h0 | h0
                · exact h0
                · rw [List.getElem?_eq_none (by simp; omega)] at h5; cases h5
              rw [hj0] at h5 h6
              cases h5
              cases h6
              exact ⟨hk, hx⟩
        · cases h
      · cases h
    · cases h
  · cases h
theorem del_rel {t ty : Nat} {ts : List Nat} {m k : AV} {u v : Value} {σ' : St} (hs : Sim G μ σ w) (h : aDel P t m k σ = some σ') (hm : VRel μ w m u) (hk : VRel μ w k v) : ∃ w', (Builtin.delete_ (t :: ts).toArray ty #[u, v]).run P w = .ok (.tuple #[]) w' ∧ Step G μ σ w μ σ' w' := by
  unfold aDel at h
  split at h
  · rename_i kt et _ _ _ _ _ _ hT
    split at h
    · rename_i hko
      cases h
      have hc := check_key hko hk true
      simp only [VRel] at hm
      subst hm
      exact ⟨w, by simp [Builtin.delete_, run_und (und_map hT rfl), hc], Step.refl hs⟩
    · cases h
  · rename_i kt et _ _ _ _ _ _ o g hT
    split at h
    · rename_i g' es ho
      split at h
      · rename_i hc
        obtain ⟨rfl, hko⟩ := hc
        obtain ⟨KT, hKT⟩ := keyOk_ty hko
        obtain ⟨b, hb, rfl⟩ := hm
        obtain ⟨b', δ', h1, h2⟩ := hs.obj o _ ho rfl
        have := h1.symm.trans hb
        cases this
        obtain ⟨_, ents, clock, h3, h4⟩ := h2
        have hc := check_key hko hk ents.isEmpty
        split at h
        · rename_i i e hf
          cases h
          obtain ⟨r', q1, q2⟩ := find_key hKT hk h4 hf
          obtain ⟨n, me, hj, hes, hme, rfl, hke, _⟩ := q2
          obtain rfl : i = n := by omega
          have hlen : i < ents.toList.length := (List.getElem?_eq_some_iff.1 hme).1
          refine ⟨_, ?_, Step.ents (ents' := ents.eraseIdxIfInBounds i) (clock' := clock) hs ho hb h3 rfl ?_⟩
          · simp [Builtin.delete_, run_und (und_map hT rfl), run_obj h3, hc, q1, run_set h3]
          · have he : (ents.eraseIdxIfInBounds i).toList = ents.toList.eraseIdx i := by
              unfold Array.eraseIdxIfInBounds
              rw [dif_pos (by simpa using hlen), Array.toList_eraseIdx]
            rw [he]
            have hl := h4.1
            refine ⟨by rw [List.length_eraseIdx, List.length_eraseIdx, hl], fun j e' m' h5 h6 => ?_⟩
            rw [List.getElem?_eraseIdx] at h5 h6
            split at h5
            · rename_i hji; rw [if_pos hji] at h6; exact h4.2 j e' m' h5 h6
            · rename_i hji; rw [if_neg hji] at h6; exact h4.2 (j + 1) e' m' h5 h6
        · rename_i hf
          cases h
          obtain ⟨r', q1, q2⟩ := find_key hKT hk h4 hf
          simp only [FRel] at q2
          subst q2
          refine ⟨_, ?_, Step.ents (ents' := ents) (clock' := clock) hs ho hb h3 rfl h4⟩
          simp [Builtin.delete_, run_und (und_map hT rfl), run_obj h3, hc, q1, run_set h3]
        · cases h
      · cases h
    · cases h
  · cases h
end
end Go.Abs
