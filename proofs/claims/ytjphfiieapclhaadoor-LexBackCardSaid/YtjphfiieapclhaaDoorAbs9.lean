/- The layer Abs, part 9: operations that write or make memory. -/
import Derived.Test.YtjphfiieapclhaaDoorAbs8
import Derived.Laws.Tables
import Derived.Laws.MakeOwn
import Derived.Laws.Append
import Derived.Laws.AppendOwn
namespace Go.Abs
section
variable {P : Program} {G : Nat} {μ : Mu} {σ : St} {w : World}

def Acts (P : Program) (G : Nat) (μ : Mu) (σ : St) (w : World) (s : Sem Value) (a : AV) (σ' : St) : Prop :=
  ∃ v w' μ', s.run P w = .ok v w' ∧ VRel μ' w' a v ∧ Step G μ σ w μ' σ' w'

theorem Gives.acts {s : Sem Value} {a : AV} (hs : Sim G μ σ w) (h : Gives P μ w s a) : Acts P G μ σ w s a σ := by
  obtain ⟨v, h1, h2⟩ := h
  exact ⟨v, w, μ, h1, h2, Step.refl hs⟩

/-- Zero values, their cells. -/
theorem zero_cells {z : Value} {T : AT} (hz : avOf z = T.zero) (hl : T.zero.cells.length = z.cells.size) : VRels μ w T.zero.cells z.cells.toList := by
  have h := avOf_rel (μ := μ) (w := w) z
  rw [hz] at h
  cases hT : T.zero with
  | ag cs => rw [hT] at h; obtain ⟨a, rfl, h2⟩ := h; exact h2
  | _ =>
    rw [hT] at h hl
    simp only [AV.cells, List.length_cons, List.length_nil] at hl ⊢
    have hag : ∀ cs, z ≠ .agg cs := by
      intro cs he; subst he
      simp [avOf, hT] at hz
    have hc : z.cells = #[z] := by cases z <;> first | rfl | exact absurd rfl (hag _)
    rw [hc]
    exact ⟨z, [], rfl, h, rfl⟩
theorem avOf_cells (z : Value) : (avOf z).cells.length = z.cells.size := by
  cases z with
  | agg cs => simp [avOf, AV.cells, Value.cells]
  | _ => simp only [avOf, avOf1]; (try split) <;> rfl
theorem zero_rel {z : Value} {T : AT} (hz : avOf z = T.zero) : VRels μ w T.zero.cells z.cells.toList := zero_cells hz (by rw [← hz]; exact avOf_cells z)

theorem alloc_rel {t : Nat} {T : AT} (hs : Sim G μ σ w) (hT : tyOf P t = some T) : Acts P G μ σ w (Instr.alloc t true (.tuple #[])) (.p σ.length 0 0) (newCells t T.zero.cells σ) := by
  obtain ⟨z, h1, h2⟩ := run_zero (w := w) hT
  refine ⟨.pointer (some ⟨w.heap.size, 0, none⟩), _, _, ?_, ⟨w.heap.size, 0, Mu.upd_self _ _ _ _, rfl⟩, Step.row hs t _ z.cells (zero_rel h2)⟩
  simp [Instr.alloc, h1, newVar, newRow]

theorem box_rel {t : Nat} {a : AV} {v : Value} (hs : Sim G μ σ w) (ha : VRel μ w a v) (hc : a.one = true ∨ ∃ cs, a = .ag cs) : Acts P G μ σ w (Instr.box t v) (.p σ.length 0 0) (newCells t a.cells σ) := by
  refine ⟨.pointer (some ⟨w.heap.size, 0, none⟩), _, _, ?_, ⟨w.heap.size, 0, Mu.upd_self _ _ _ _, rfl⟩, Step.row hs t _ v.cells (ha.cells hc)⟩
  simp [Instr.box, newVar, newRow]

theorem load_rel {t : Nat} {x a : AV} {u : Value} (hs : Sim G μ σ w) (h : aLoad (tyOf P t) x σ = some a) (hx : VRel μ w x u) : Gives P μ w (Instr.loadAt t u) a := by
  unfold aLoad at h
  split at h
  · rename_i T o g off hT
    rw [Option.bind_eq_some_iff] at h
    obtain ⟨cs, hc, hp⟩ := h
    obtain ⟨b, δ, hb, rfl⟩ := hx
    obtain ⟨v, h1, h2⟩ := run_loadVar hT hs hc hp hb
    exact ⟨v, by simp [Instr.loadAt, Instr.sureAddr, h1], h2⟩
  · cases h

theorem store_rel {t : Nat} {x y : AV} {u v : Value} {σ' : St} (hs : Sim G μ σ w) (h : aStore (tyOf P t) x y σ = some σ') (hx : VRel μ w x u) (hy : VRel μ w y v) :
    ∃ w', (Instr.storeAt t u v).run P w = .ok () w' ∧ Step G μ σ w μ σ' w' := by
  unfold aStore at h
  split at h
  · rename_i T o g off hT
    split at h
    · rename_i g' ro e cs ho
      split at h
      · rename_i hc
        obtain ⟨rfl, rfl, hl, hone, hle⟩ := hc
        cases h
        obtain ⟨b, δ, hb, rfl⟩ := hx
        have hr := hy.cells (AV.cells_one hone)
        obtain ⟨w', h1, h2⟩ := Step.store (P := P) hs ho hb hr (hr.ones hone) (off := off) (by omega)
        refine ⟨w', ?_, h2⟩
        have hsz : v.cells.size = T.size := by rw [← hl]; have := hr.length; simpa using this
        simp [Instr.storeAt, Instr.sureAddr, storeVar, run_size hT, hsz, h1]
      · cases h
    · cases h
  · cases h

/-! ### Parts laid into cells -/
theorem foldl_setVals (vs : List Value) (off : Nat) : ∀ (k : Nat) (cells : Array Value), (vs.zipIdx k).foldl (fun cs (x : Value × Nat) => cs.setIfInBounds (off + x.2) x.1) cells = setVals cells (off + k) vs := by
  induction vs with
  | nil => intro k cells; rfl
  | cons v vs ih =>
    intro k cells
    simp only [List.zipIdx_cons, List.foldl_cons, setVals]
    rw [ih (k + 1)]
    rfl
theorem rel_cells {cs : List AV} {ccs : Array Value} (h : VRels μ w cs ccs.toList) : 0 + cs.length ≤ ccs.size ∧ ∀ (j : Nat) c, cs[j]? = some c → ∃ v, ccs[0 + j]? = some v ∧ VRel μ w c v := by
  refine ⟨?_, fun j c hj => ?_⟩
  · have := h.length; simp at this; omega
  · obtain ⟨v, h1, h2⟩ := h.get j c hj
    exact ⟨v, by simpa using h1, h2⟩
theorem setCells_rels {cs ys : List AV} {ccs : Array Value} {vs : List Value} {off : Nat} (h : VRels μ w cs ccs.toList) (hr : VRels μ w ys vs) : VRels μ w (setCells cs off ys) (setVals ccs off vs).toList := by
  obtain ⟨h1, h2⟩ := rel_cells h
  refine VRels.of_get (by have := h.length; simp [setVals_size, setCells_length] at this ⊢; omega) (fun j c hj => ?_)
  obtain ⟨v, q1, q2⟩ := setCells_rel hr (off := off) h1 h2 j c hj
  exact ⟨v, by simpa using q1, q2⟩

def PartsRel (μ : Mu) (w : World) : List (Nat × AV) → List (Nat × Value) → Prop
  | [], l => l = []
  | p :: ps, l => ∃ q qs, l = q :: qs ∧ q.1 = p.1 ∧ VRel μ w p.2 q.2 ∧ PartsRel μ w ps qs

theorem fill_rel {pa : Nat → Option (Nat × Nat)} {pc : Nat → Option (Nat × Nat)} (hp : ∀ i x, pa i = some x → pc i = some x) : ∀ (ps : List (Nat × AV)) (qs : List (Nat × Value)) (cs cs' : List AV) (ccs : Array Value),
    PartsRel μ w ps qs → VRels μ w cs ccs.toList → fillA pa cs ps = some cs' → ∃ ccs', Instr.fill pc ccs qs = some ccs' ∧ VRels μ w cs' ccs'.toList
  | [], qs, cs, cs', ccs, hq, hr, h => by
    simp only [PartsRel] at hq; subst hq
    simp only [fillA, Option.some.injEq] at h; subst h
    exact ⟨ccs, rfl, hr⟩
  | (i, v) :: ps, qs, cs, cs', ccs, hq, hr, h => by
    obtain ⟨⟨j, u⟩, qs', rfl, hij, hv, hq'⟩ := hq
    simp only at hij hv; subst hij
    simp only [fillA] at h
    split at h
    · cases h
    · rename_i off size hpl
      split at h
      · rename_i hc
        obtain ⟨hl, hle, hone⟩ := hc
        have hvr := hv.cells (AV.cells_one hone)
        have hsz : u.cells.size = size := by have := hvr.length; simp at this; omega
        have hcl : ccs.size = cs.length := by have := hr.length; simpa using this
        obtain ⟨ccs', h1, h2⟩ := fill_rel hp ps qs' _ cs' (setVals ccs off u.cells.toList) hq' (setCells_rels (off := off) hr hvr) h
        refine ⟨ccs', ?_, h2⟩
        simp only [Instr.fill, hp _ _ hpl]
        have hno : ¬ ((decide (u.cells.size ≠ size) || decide (off + u.cells.size > ccs.size)) = true) := by simp; omega
        rw [if_neg hno]
        rw [← Array.foldl_toList, Array.toList_zipIdx, foldl_setVals]
        exact h1
      · cases h

theorem repl_length (zs : List AV) (n : Nat) : (repl zs n).length = n * zs.length := by
  induction n with
  | zero => simp [repl]
  | succ n ih => simp [repl, ih, Nat.add_mul]; omega
theorem repl_get (zs : List AV) : ∀ (n j : Nat), j < n * zs.length → (repl zs n)[j]? = zs[j % zs.length]?
  | 0, j, h => by omega
  | n + 1, j, h => by
    rw [Nat.add_mul] at h
    simp only [repl]
    rcases Nat.lt_or_ge j zs.length with hl | hl
    · rw [List.getElem?_append_left hl, Nat.mod_eq_of_lt hl]
    · rw [List.getElem?_append_right hl, repl_get zs n (j - zs.length) (by omega)]
      congr 1
      rw [← Nat.mod_eq_sub_mod hl]
theorem made_rel {zs : List AV} {z : Array Value} (h : VRels μ w zs z.toList) (n : Nat) : VRels μ w (repl zs n) (madeCells z (n * zs.length)).toList := by
  have hl : z.size = zs.length := by have := h.length; simpa using this
  refine VRels.of_get (by simp [madeCells, repl_length]) (fun j c hj => ?_)
  have hlt : j < n * zs.length := by have := lt_of_get hj; rwa [repl_length] at this
  rw [repl_get zs n j hlt] at hj
  obtain ⟨v, h1, h2⟩ := h.get _ c hj
  refine ⟨v, ?_, h2⟩
  have h1' : z[j % zs.length]? = some v := by simpa using h1
  simp [madeCells, hlt, hl, getElem!_def, h1']

theorem mapM_places : ∀ (fs : List Field), (fs.all fun f => (tyOf P f.type).isSome) = true → ∃ places, fs.mapM (fun f => (P.info? f.type).map fun i => (f.offset, i.size)) = some places ∧
    ∀ (i : Nat) f F, fs[i]? = some f → tyOf P f.type = some F → places[i]? = some (f.offset, F.size)
  | [], _ => ⟨[], by simp, fun i f F h => by simp at h⟩
  | f :: fs, h => by
    simp only [List.all_cons, Bool.and_eq_true] at h
    obtain ⟨places, h1, h2⟩ := mapM_places fs h.2
    obtain ⟨F, hF⟩ := Option.isSome_iff_exists.1 h.1
    obtain ⟨i, d, z, k1, _, _, _, k5, _⟩ := ty_info hF
    refine ⟨(f.offset, i.size) :: places, by simp [List.mapM_cons, k1, h1], fun j g T hj hT => ?_⟩
    cases j with
    | zero =>
      simp at hj; subst hj
      rw [hF] at hT; cases hT
      simp [k5]
    | succ j => simpa using h2 j g T (by simpa using hj) hT

theorem build_rel {t : Nat} {ps : List (Nat × AV)} {qs : Array (Nat × Value)} {a : AV} (h : aBuild P t ps = some a) (hq : PartsRel μ w ps qs.toList) : Gives P μ w (Instr.build t qs) a := by
  unfold aBuild at h
  split at h
  · rename_i T hT
    obtain ⟨i, d, z, h1, h2, h3, h4, h5, h6, h7, _⟩ := ty_info hT
    have hz : VRels μ w T.zero.cells z.cells.toList := zero_rel h7
    split at h
    · rename_i fs hd
      obtain ⟨Fs, hu, hfs⟩ := und_st hT hd
      split at h
      · rename_i hall
        rw [Option.map_eq_some_iff] at h
        obtain ⟨cs, hcs, rfl⟩ := h
        rw [hfs, List.all_map] at hall
        obtain ⟨places, hp1, hp2⟩ := mapM_places (P := P) Fs.toList hall
        obtain ⟨ccs, hf, hr⟩ := fill_rel (pc := fun x => places.toArray[x]?) (fun i x hx => by
          rw [hfs, Option.bind_eq_some_iff] at hx
          obtain ⟨r, hr, hx⟩ := hx
          rw [List.getElem?_map, Option.map_eq_some_iff] at hr
          obtain ⟨F, hF, rfl⟩ := hr
          rw [Option.map_eq_some_iff] at hx
          obtain ⟨T', hT', rfl⟩ := hx
          simpa using hp2 i F T' hF hT') ps qs.toList T.zero.cells cs z.cells hq hz hcs
        exact ⟨.agg ccs, run_build w t qs ccs (by simp only [Program.built, h1, hu, h3, hp1]; exact hf), ccs, rfl, hr⟩
      · cases h
    · rename_i n e hd
      have hu := und_arr hT hd
      split at h
      · rename_i E hE
        rw [Option.map_eq_some_iff] at h
        obtain ⟨cs, hcs, rfl⟩ := h
        obtain ⟨ie, de, ze, k1, _, _, _, k5, _⟩ := ty_info hE
        obtain ⟨ccs, hf, hr⟩ := fill_rel (pc := fun i => some (i * ie.size, ie.size)) (fun i x hx => by rw [k5]; exact hx) ps qs.toList T.zero.cells cs z.cells hq hz hcs
        exact ⟨.agg ccs, run_build w t qs ccs (by simp only [Program.built, h1, hu, h3, k1]; exact hf), ccs, rfl, hr⟩
      · cases h
    · cases h
  · cases h

theorem bsl_rel {t n : Nat} {ps : List (Nat × AV)} {qs : Array (Nat × Value)} {a : AV} {σ' : St} (hs : Sim G μ σ w) (h : aBsl P t n ps σ = some (a, σ')) (hq : PartsRel μ w ps qs.toList) : Acts P G μ σ w (Instr.buildSlice t n qs) a σ' := by
  unfold aBsl at h
  split at h
  · rename_i e _ _ _ _ _ _ hT
    have hu := und_slice hT rfl
    split at h
    · rename_i E hE
      split at h
      · rename_i hc
        obtain ⟨hz, hl, hle⟩ := hc
        rw [Option.map_eq_some_iff] at h
        obtain ⟨cs, hcs, h⟩ := h
        simp only [Prod.mk.injEq] at h
        obtain ⟨rfl, rfl⟩ := h
        obtain ⟨i, d, z, h1, h2, h3, h4, h5, h6, h7, _⟩ := ty_info hE
        have hzr : VRels μ w E.zero.cells z.cells.toList := zero_rel h7
        have hmade := made_rel hzr n
        rw [hl] at hmade
        obtain ⟨ccs, hf, hr⟩ := fill_rel (pc := fun i => some (i * E.size, E.size)) (fun i x hx => hx) ps qs.toList _ cs _ hq hmade hcs
        have hcl : ccs.size = n * E.size := by
          have h1 := hr.length
          have h2 : ∀ (ps : List (Nat × AV)) (c c' : List AV), fillA (fun i => some (i * E.size, E.size)) c ps = some c' → c'.length = c.length := by
            intro ps
            induction ps with
            | nil => intro c c' hc; simp only [fillA, Option.some.injEq] at hc; rw [hc]
            | cons p ps ih =>
              intro c c' hc
              obtain ⟨i, v⟩ := p
              simp only [fillA] at hc
              split at hc
              · rw [ih _ _ hc, setCells_length]
              · cases hc
          have h3 := h2 _ _ _ hcs
          rw [repl_length, hl] at h3
          simp at h1; omega
        refine ⟨.slice (some ⟨w.heap.size, 0, none⟩) n n, _, _, ?_, ⟨w.heap.size, 0, 0, n, e, ccs.size, Mu.upd_self _ _ _ _, rfl, Nat.le_refl _, .inl rfl, ?_, by omega⟩, Step.row hs e cs ccs hr⟩
        · have hne : ¬ n * E.size > 16777216 := by omega
          by_cases hn : n * E.size = 0
          · have hf' : Instr.fill (fun i => some (i * E.size, E.size)) #[] qs.toList = some ccs := by
              rw [hn] at hf; simpa [madeCells, Array.range_zero'] using hf
            simp [Instr.buildSlice, run_und hu, run_size hE, hn, hf', newRow, Array.range_zero']
          · have hzv : (zeroValue e).run P w = .ok z w := by simp [zeroValue, run_info h1, h3]
            have hf' : Instr.fill (fun i => some (i * E.size, E.size)) ((Array.range (n * E.size)).map (z.cells[· % z.cells.size]!)) qs.toList = some ccs := hf
            simp [Instr.buildSlice, run_und hu, run_size hE, hn, hne, hzv, hf', newRow]
        · show World.shape? { w with heap := w.heap.push (.cells ccs e) } w.heap.size = _
          simp [World.shape?]
      · cases h
    · cases h
  · cases h

theorem mks_rel {t : Nat} {l c a : AV} {u v : Value} {σ' : St} (hs : Sim G μ σ w) (h : aMks P t l c σ = some (a, σ')) (hl : VRel μ w l u) (hc : VRel μ w c v) : Acts P G μ σ w (Instr.makeSlice t u v) a σ' := by
  unfold aMks at h
  split at h
  · rename_i e _ _ _ _ _ _ kl l kc c hT
    have hu := und_slice hT rfl
    simp only [VRel] at hl hc; subst hl; subst hc
    split at h
    · rename_i E hE
      split at h
      · rename_i hcond
        obtain ⟨hz, hzl, h0, hlc, h63, hb⟩ := hcond
        cases h
        obtain ⟨i, d, z, h1, h2, h3, h4, h5, h6, h7, _⟩ := ty_info hE
        have hzr : VRels μ w E.zero.cells z.cells.toList := zero_rel h7
        have hmade := made_rel hzr c.toNat
        rw [hzl] at hmade
        have hrun := run_make (P := P) w t e i z hu h1 h3 kl kc l c h0 hlc (by rw [h6]; omega) h63
        rw [h5] at hrun
        refine ⟨_, _, _, hrun, ⟨w.heap.size, 0, 0, c.toNat, e, (madeCells z.cells (c.toNat * E.size)).size, Mu.upd_self _ _ _ _, rfl, by omega, .inl rfl, ?_, ?_⟩, Step.row hs e _ _ hmade⟩
        · show World.shape? { w with heap := w.heap.push _ } w.heap.size = _
          simp [World.shape?]
        · rw [size_madeCells]; omega
      · cases h
    · cases h
  · cases h

theorem rng_rel {t : Nat} {x a : AV} {u : Value} {σ' : St} (hs : Sim G μ σ w) (h : aRng P t x σ = some (a, σ')) (hx : VRel μ w x u) : Acts P G μ σ w (Instr.range t u) a σ' := by
  unfold aRng at h
  split at h
  · rename_i x hT
    simp only [VRel] at hx; subst hx
    cases h
    refine ⟨.pointer (some ⟨w.heap.size, 0, none⟩), _, _, ?_, ⟨w.heap.size, 0, Mu.upd_self _ _ _ _, rfl⟩, Step.alloc hs ⟨0, false, .iter x 0⟩ (.stringIter ⟨x.toArray⟩ 0) rfl (fun _ _ _ _ hh => ⟨rfl, hh⟩)⟩
    simp [Instr.range, run_und (und_str hT rfl)]
  · cases h

theorem nxt_rel {x a : AV} {u : Value} {ty : Nat} {σ' : St} (hs : Sim G μ σ w) (h : aNxt x σ = some (a, σ')) (hx : VRel μ w x u) : Acts P G μ σ w (Instr.next u true ty) a σ' := by
  unfold aNxt at h
  split at h
  · rename_i o g
    split at h
    · rename_i g' ro s pos ho
      split at h
      · rename_i hc
        obtain ⟨rfl, rfl⟩ := hc
        obtain ⟨b, δ, hb, rfl⟩ := hx
        obtain ⟨b', δ', hb', hor⟩ := hs.obj o _ ho rfl
        have he := hb'.symm.trans hb
        cases he
        obtain ⟨rfl, hh⟩ : δ = 0 ∧ w.heap[b]? = some (.stringIter ⟨s.toArray⟩ pos) := hor
        have hlt := lt_of_heap hh
        have hsz := size_mk s
        split at h
        · rename_i hp
          cases h
          have hw : WExt w { w with heap := w.heap.setIfInBounds b (.stringIter ⟨s.toArray⟩ (pos + (Utf8.decode ⟨s.toArray⟩ pos).2)) } := by
            intro b' e' m h
            unfold World.shape? at h ⊢
            show (match (w.heap.setIfInBounds b _)[b']? with | some (.cells c elem _) => some (elem, c.size) | _ => none) = _
            rw [Array.getElem?_setIfInBounds]
            by_cases he : b = b'
            · subst he; rw [hh] at h; cases h
            · rw [if_neg he]; exact h
          refine ⟨.tuple #[.bool true, goInt pos, .int .i32 (Utf8.decode ⟨s.toArray⟩ pos).1], { w with heap := w.heap.setIfInBounds b (.stringIter ⟨s.toArray⟩ (pos + (Utf8.decode ⟨s.toArray⟩ pos).2)) }, μ, ?_, ⟨_, rfl, _, _, rfl, rfl, _, _, rfl, rfl, _, _, rfl, rfl, rfl⟩, ?_⟩
          · simp [Instr.next, getObj, setObj, Sem.run, hh, hsz, hp]
          · refine Step.write hs ho rfl rfl rfl b 0 b 0 hb (Nat.le_refl _) (Mu.le_refl μ) hb (fun _ _ _ h => .inl h) hw rfl rfl rfl (by simp) (by simpa using hlt) (.inl rfl)
              (fun k _ hk => by show (w.heap.setIfInBounds b _)[k]? = _; rw [Array.getElem?_setIfInBounds, if_neg (fun h => hk h.symm)]) ⟨rfl, ?_⟩
            show (w.heap.setIfInBounds b _)[b]? = _
            rw [Array.getElem?_setIfInBounds, if_pos rfl, if_pos hlt]
        · rename_i hp
          cases h
          exact ⟨.tuple #[.bool false], w, μ, by simp [Instr.next, getObj, Sem.run, hh, hsz, hp], ⟨_, rfl, _, _, rfl, rfl, rfl⟩, Step.refl hs⟩
      · cases h
    · cases h
  · cases h
end
end Go.Abs
