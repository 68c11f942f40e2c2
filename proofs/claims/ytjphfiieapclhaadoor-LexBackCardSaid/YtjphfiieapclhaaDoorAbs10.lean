/- The layer Abs, part 10: append, copy, conversions. -/
import Derived.Test.YtjphfiieapclhaaDoorAbs9
namespace Go.Abs
section
variable {P : Program} {G : Nat} {μ : Mu} {σ : St} {w : World}

theorem setVals_get (ccs : Array Value) : ∀ (vs : List Value) (off : Nat) (ccs : Array Value) (i : Nat), off + vs.length ≤ ccs.size → (setVals ccs off vs)[i]? = if off ≤ i ∧ i < off + vs.length then vs[i - off]? else ccs[i]?
  | [], off, ccs, i, _ => by simp [setVals]; omega
  | v :: vs, off, ccs, i, h => by
    simp only [List.length_cons] at h
    rw [setVals, setVals_get ccs vs (off + 1) _ i (by simpa using by omega)]
    by_cases h1 : off + 1 ≤ i ∧ i < off + 1 + vs.length
    · rw [if_pos h1, if_pos (by simp only [List.length_cons]; omega)]
      rw [show i - off = (i - (off + 1)) + 1 by omega]
      simp
    · rw [if_neg h1]
      by_cases h2 : i = off
      · subst h2
        rw [if_pos (by simp only [List.length_cons]; omega), Array.getElem?_setIfInBounds, if_pos rfl, if_pos (by omega)]
        simp
      · rw [if_neg (by simp only [List.length_cons]; omega), Array.getElem?_setIfInBounds, if_neg (fun h => h2 h.symm)]

/-- What is appended or copied from. -/
theorem src_rel {z : Nat} {x : AV} {u : Value} {n : Nat} {cs : List AV} (hs : Sim G μ σ w) (h : srcCells z x σ = some (n, cs)) (hx : VRel μ w x u) :
    (Builtin.lenOf u).run P w = .ok n w ∧ cs.length = n * z ∧ ∀ k, k ≤ n → ∃ vs : List Value, (Builtin.firstCells z k u).run P w = .ok vs.toArray w ∧ vs.length = k * z ∧ VRels μ w (cs.take (k * z)) vs := by
  unfold srcCells at h
  split at h
  · simp only [Option.some.injEq, Prod.mk.injEq] at h
    obtain ⟨rfl, rfl⟩ := h
    simp only [VRel] at hx; subst hx
    refine ⟨by simp [Builtin.lenOf], by simp, fun k hk => ⟨[], by simp [Builtin.firstCells], ?_, by simp [VRels]⟩⟩
    have : k = 0 := by omega
    subst this; simp
  · rename_i o g off m z'
    split at h
    · rename_i hz
      subst hz
      rw [Option.bind_eq_some_iff] at h
      obtain ⟨ds, hd, h⟩ := h
      split at h
      · rename_i hle
        simp only [Option.some.injEq, Prod.mk.injEq] at h
        obtain ⟨rfl, rfl⟩ := h
        obtain ⟨b, δ, off', c, e', m', hb, rfl, hn, ho, hsh, hm⟩ := hx
        obtain ⟨ro, e, hobj⟩ := cellsAt_obj hd
        obtain ⟨ccs, fr, q1, q2, q3, q4⟩ := hs.cells hobj hb
        refine ⟨by simp [Builtin.lenOf], by simp; omega, fun k hk => ?_⟩
        have hkz : k * z' ≤ m * z' := Nat.mul_le_mul_right _ hk
        by_cases hk0 : k * z' = 0
        · refine ⟨[], ?_, by simp [hk0], by simp [hk0, VRels]⟩
          simp [Builtin.firstCells, hk0, loadCells, loadCellsFrom]
        · have ho' : off' = δ + off := by
            rcases ho with ho | ⟨h0, _⟩
            · exact ho
            · subst h0; simp at hkz; omega
          subst ho'
          have hsub := cells_sub (μ := μ) (w := w) q2 q3 off (k * z') (by omega)
          have hlen : ((ccs.toList.drop (δ + off)).take (k * z')).length = k * z' := by simp; omega
          refine ⟨(ccs.toList.drop (δ + off)).take (k * z'), ?_, hlen, ?_⟩
          · refine run_firstCells_some w z' k ⟨b, δ + off, none⟩ m c _ hlen (fun j v hj => ?_)
            rw [Addr.add_none, cell_of_heap q1]
            rw [List.getElem?_take] at hj
            split at hj
            · rw [List.getElem?_drop] at hj; simpa using hj
            · cases hj
          · rw [List.take_take, Nat.min_eq_left hkz]; exact hsub
      · cases h
    · cases h
  · rename_i s
    split at h
    · rename_i hz
      subst hz
      simp only [Option.some.injEq, Prod.mk.injEq] at h
      obtain ⟨rfl, rfl⟩ := h
      simp only [VRel] at hx; subst hx
      refine ⟨by simp [Builtin.lenOf, size_mk], by simp, fun k hk => ⟨(s.take k).map fun b => .int .u8 b.toNat, ?_, by simp; omega, ?_⟩⟩
      · simp only [Builtin.firstCells, Sem.run_pure]
        congr 1
        apply Array.ext'
        simp [str_extract]
      · rw [Nat.mul_one, ← List.map_take]
        have : ∀ l : List UInt8, VRels μ w (l.map fun c => AV.i .u8 c.toNat) (l.map fun b => Value.int .u8 b.toNat) := by
          intro l
          induction l with
          | nil => simp [VRels]
          | cons x xs ih => exact ⟨_, _, rfl, rfl, ih⟩
        exact this _
    · cases h
  · cases h

theorem run_append_grow {t t2 ty e : Nat} {E : AT} {d2 : TypeDesc} (hu : P.underlying t = some (.slice e)) (hE : tyOf P e = some E) (ht2 : P.underlying t2 = some d2) (hd2 : (∃ q, d2 = .slice q) ∨ d2 = .string)
    {base : Option Addr} {n c m : Nat} {v : Value} {old new : List Value} (hlen : (Builtin.lenOf v).run P w = .ok m w) (hgrow : c < n + m) (h63 : n + m ≤ 9223372036854775807) (hb : (n + m) * E.bytes ≤ 140737488355328)
    (hold : (Builtin.firstCells E.size n (.slice base n c)).run P w.drew = .ok old.toArray w.drew)
    (hnew : (Builtin.firstCells E.size m v).run P w.drew = .ok new.toArray w.drew) :
    ∃ c' rest, n + m ≤ c' ∧ (rest : Array Value).size = (c' - (n + m)) * E.zero.cells.length ∧
      (Builtin.append_ #[t, t2] ty #[.slice base n c, v]).run P w = .ok (.slice (some ⟨w.heap.size, 0, none⟩) (n + m) c') (w.drew.alloc (.cells (old.toArray ++ (new.toArray ++ rest)) e)) := by
  obtain ⟨i, d, z, k1, k2, k3, k4, k5, k6, k7, _⟩ := ty_info hE
  have hfit := growslice_fits (bytes := i.bytes) hgrow (by rw [k6]; exact hb)
  have hnfit : ¬ (281474976710656 < Builtin.nextslicecap (n + m) c * i.bytes) := by omega
  have hn63 : ¬ ((9223372036854775807 : Int) < ((n : Int) + (m : Int))) := by omega
  have hng : ¬ n + m ≤ c := by omega
  have hzl : z.cells.size = E.zero.cells.length := by rw [← k7]; exact (avOf_cells z).symm
  refine ⟨grownCap w (n + m) c e, Builtin.zeroCells z.cells (grownCap w (n + m) c e - (n + m)), grownCap_ge w _ _ _, by rw [size_zeroCells, hzl], ?_⟩
  rcases hd2 with ⟨q, rfl⟩ | rfl <;> simp [Builtin.append_, run_und hu, sizeOf, run_info k1, run_und ht2, hlen, hng, hn63, hnfit, Question.forced, zeroValue, k3, k5, hold, hnew, newRow, grownCap]

theorem run_append_room {t t2 ty e : Nat} {E : AT} {d2 : TypeDesc} (hu : P.underlying t = some (.slice e)) (hE : tyOf P e = some E) (ht2 : P.underlying t2 = some d2) (hd2 : (∃ q, d2 = .slice q) ∨ d2 = .string)
    {b off n c m : Nat} {v : Value} {new : List Value} {w' : World} (hlen : (Builtin.lenOf v).run P w = .ok m w) (hroom : n + m ≤ c)
    (hnew : (Builtin.firstCells E.size m v).run P w = .ok new.toArray w) (hst : (storeCells ⟨b, off + n * E.size, none⟩ new).run P w = .ok () w') :
    (Builtin.append_ #[t, t2] ty #[.slice (some ⟨b, off, none⟩) n c, v]).run P w = .ok (.slice (some ⟨b, off, none⟩) (n + m) c) w' := by
  obtain ⟨i, d, z, k1, k2, k3, k4, k5, k6, k7, _⟩ := ty_info hE
  rcases hd2 with ⟨q, rfl⟩ | rfl <;> simp [Builtin.append_, run_und hu, sizeOf, run_info k1, run_und ht2, hlen, hroom, k5, hnew, Addr.add_none, hst]

theorem shape_new (w : World) (c : Array Value) (e : Nat) : World.shape? (w.alloc (.cells c e)) w.heap.size = some (e, c.size) := by
  show (match (w.heap.push _)[w.heap.size]? with | some (.cells c elem _) => some (elem, c.size) | _ => none) = _
  simp

/-- A new row: what was there, what is appended, and what is behind. -/
theorem app_cells {olds src : List AV} {old new : List Value} {rest : Array Value} (h : VRels μ w olds old) (k : VRels μ w src new) :
    (old.toArray ++ (new.toArray ++ rest)).size = old.length + (new.length + rest.size) ∧ ∀ (j : Nat) c, (olds ++ src)[j]? = some c → ∃ v, (old.toArray ++ (new.toArray ++ rest))[0 + j]? = some v ∧ VRel μ w c v := by
  refine ⟨by simp, fun j c hj => ?_⟩
  obtain ⟨v, q1, q2⟩ := (h.append k).get j c hj
  refine ⟨v, ?_, q2⟩
  have hlt := lt_of_get q1
  rw [Nat.zero_add, ← Array.getElem?_toList]
  simp only [Array.toList_append]
  rw [← List.append_assoc, List.getElem?_append_left hlt]
  exact q1

/-- Appended to what has no room. -/
theorem app_grow {t t2 ty e n m : Nat} {E : AT} {d2 : TypeDesc} {base : Option Addr} {c : Nat} {v : Value} {olds src : List AV} {old new : List Value} (hs : Sim G μ σ w)
    (hu : P.underlying t = some (.slice e)) (hE : tyOf P e = some E) (ht2 : P.underlying t2 = some d2) (hd2 : (∃ q, d2 = .slice q) ∨ d2 = .string) (hzl : E.zero.cells.length = E.size)
    (hlen : (Builtin.lenOf v).run P w = .ok m w) (hgrow : c < n + m) (h63 : n + m ≤ 9223372036854775807) (hb : (n + m) * E.bytes ≤ 140737488355328)
    (hold : (Builtin.firstCells E.size n (.slice base n c)).run P w.drew = .ok old.toArray w.drew) (hol : old.length = n * E.size) (hor : VRels μ w.drew olds old)
    (hnew : (Builtin.firstCells E.size m v).run P w.drew = .ok new.toArray w.drew) (hnl : new.length = m * E.size) (hnr : VRels μ w.drew src new) :
    ∃ c' ccs, (Builtin.append_ #[t, t2] ty #[.slice base n c, v]).run P w = .ok (.slice (some ⟨w.heap.size, 0, none⟩) (n + m) c') (w.drew.alloc (.cells ccs e)) ∧ n + m ≤ c' ∧ ccs.size = c' * E.size ∧
      (olds ++ src).length ≤ ccs.size ∧ ∀ (j : Nat) x, (olds ++ src)[j]? = some x → ∃ r, ccs[0 + j]? = some r ∧ VRel μ w.drew x r := by
  obtain ⟨c', rest, hc', hrs, hrun⟩ := run_append_grow (P := P) (ty := ty) hu hE ht2 hd2 hlen hgrow h63 hb hold hnew
  obtain ⟨h1, h2⟩ := app_cells (rest := rest) hor hnr
  have hsz : (old.toArray ++ (new.toArray ++ rest)).size = c' * E.size := by
    rw [h1, hol, hnl, hrs, hzl, ← Nat.add_assoc, ← Nat.add_mul, ← Nat.add_mul]
    congr 1
    omega
  refine ⟨c', _, hrun, hc', hsz, ?_, h2⟩
  have := hor.length
  have := hnr.length
  rw [h1, List.length_append]
  omega

theorem app_rel {t t2 ty : Nat} {x y a : AV} {u v : Value} {σ' : St} (hs : Sim G μ σ w) (h : aApp P t x y σ = some (a, σ')) (hx : VRel μ w x u) (hy : VRel μ w y v)
    (h2 : t2 = t ∨ P.underlying t2 = some .string) : Acts P G μ σ w (Builtin.append_ #[t, t2] ty #[u, v]) a σ' := by
  unfold aApp at h
  split at h
  · rename_i e _ _ _ _ _ _ hT
    have hu := und_slice hT rfl
    split at h
    · rename_i E hE
      split at h
      · rename_i hEz
        obtain ⟨hz0, hzl, hby⟩ := hEz
        rw [Option.bind_eq_some_iff] at h
        obtain ⟨⟨m, src⟩, hsrc, h⟩ := h
        obtain ⟨hlen, hsl, hfirst⟩ := src_rel (P := P) hs hsrc hy
        obtain ⟨t2d, ht2, hd2⟩ : ∃ d2, P.underlying t2 = some d2 ∧ ((∃ q, d2 = .slice q) ∨ d2 = .string) := by
          rcases h2 with rfl | h2
          · exact ⟨_, hu, .inl ⟨e, rfl⟩⟩
          · exact ⟨_, h2, .inr rfl⟩
        have hdrew := Step.drew hs
        have hs1 : Sim G μ σ w.drew := hdrew.sim
        have hy1 : VRel μ w.drew y v := VRel.mono hdrew.ext hdrew.wext _ _ hy
        have hx1 : VRel μ w.drew x u := VRel.mono hdrew.ext hdrew.wext _ _ hx
        obtain ⟨_, _, hfirst1⟩ := src_rel (P := P) hs1 hsrc hy1
        simp only at h
        split at h
        · rename_i hm
          subst hm
          obtain ⟨vs, hvs, hvl, _⟩ := hfirst 0 (Nat.le_refl _)
          have hvs0 : vs = [] := List.eq_nil_of_length_eq_zero (by simpa using hvl)
          subst hvs0
          have hnil : ∀ ad : Addr, (storeCells ad ([] : List Value)).run P w = .ok () w := fun _ => rfl
          split at h
          · cases h
            simp only [VRel] at hx; subst hx
            refine ⟨.slice none 0 0, w, μ, ?_, rfl, Step.refl hs⟩
            rcases hd2 with ⟨q, rfl⟩ | rfl <;> simp [Builtin.append_, run_und hu, run_size hE, run_und ht2, hlen, hvs]
          · cases h
            have hx' := hx
            obtain ⟨b, δ, off', c, e', mm, hb, rfl, hn, ho, hsh, hmm⟩ := hx'
            exact ⟨_, w, μ, run_append_room (P := P) (m := 0) hu hE ht2 hd2 hlen (by omega) hvs (hnil _), hx, Step.refl hs⟩
          · cases h
        · rename_i hm
          split at h
          · rename_i hones
            obtain ⟨new, hnew, hnl, hnr⟩ := hfirst m (Nat.le_refl _)
            obtain ⟨new1, hnew1, hnl1, hnr1⟩ := hfirst1 m (Nat.le_refl _)
            rw [← hsl, List.take_length] at hnr hnr1
            split at h
            · simp only [VRel] at hx; subst hx
              split at h
              · rename_i hb
                cases h
                have h63 : 0 + m ≤ 9223372036854775807 := by
                  have : m * 1 ≤ m * E.bytes := Nat.mul_le_mul_left _ hby
                  omega
                obtain ⟨c', ccs, hrun, hc', hsz, hle, hget⟩ := app_grow (P := P) (ty := ty) (base := none) (n := 0) (c := 0) (old := []) (olds := []) hs hu hE ht2 hd2 hzl hlen (by omega) h63 (by simpa using hb) (by simp [Builtin.firstCells]) (by simp) (by simp [VRels]) hnew1 hnl1 hnr1
                have hrow := Step.alloc hs1 ⟨0, false, .cells e src⟩ (.cells ccs e) rfl (fun μ' w' hm' hw' hh => ⟨ccs, (0, 0), hh, by simpa using hle, fun j x hj => by
                    obtain ⟨r, q1, q2⟩ := hget j x hj
                    exact ⟨r, q1, VRel.mono hm' hw' _ _ q2⟩, fun _ j _ h => by omega⟩)
                rw [Nat.zero_add] at hrun hc'
                refine ⟨_, _, _, hrun, ⟨w.heap.size, 0, 0, c', e, ccs.size, Mu.upd_self _ _ _ _, rfl, hc', .inl rfl, ?_, by rw [hsz]; omega⟩, hdrew.trans hrow⟩
                exact shape_new w.drew ccs e
              · cases h
            · rename_i o g off n z'
              split at h
              · rename_i g' e' cs ho
                split at h
                · rename_i hc
                  obtain ⟨rfl, rfl, rfl, hle, hb, hones2⟩ := hc
                  cases h
                  obtain ⟨b, δ, off', c, e0, mm, hb0, rfl, hn, hoff, hsh, hmm⟩ := hx
                  obtain ⟨ccs, fr, q1, q2, q3, q4⟩ := hs.cells ho hb0
                  have h63 : n + m ≤ 9223372036854775807 := by
                    have : (n + m) * 1 ≤ (n + m) * E.bytes := Nat.mul_le_mul_left _ hby
                    omega
                  have hfresh : μ o (g + 1) = none := by
                    cases hq : μ o (g + 1) with
                    | none => rfl
                    | some y =>
                      obtain ⟨a, ha, hg⟩ := hs.dom _ _ _ hq
                      rw [ho] at ha; cases ha
                      have hg' : g + 1 ≤ g := hg
                      omega
                  have hsrcx : srcCells E.size (.sl o g off n E.size) σ = some (n, (cs.drop off).take (n * E.size)) := by
                    simp [srcCells, cellsAt, ho, hle]
                  have hlx : ((cs.drop off).take (n * E.size)).length = n * E.size := by simp; omega
                  by_cases hgrow : c < n + m
                  · obtain ⟨_, _, hfx⟩ := src_rel (P := P) hs1 hsrcx hx1
                    obtain ⟨old, hold, hol, hor⟩ := hfx n (Nat.le_refl _)
                    rw [List.take_take, Nat.min_self] at hor
                    obtain ⟨c', ccs', hrun, hc', hsz, hle', hget⟩ := app_grow (P := P) (ty := ty) hs hu hE ht2 hd2 hzl hlen hgrow h63 hb hold hol hor hnew1 hnl1 hnr1
                    have hwp : WExt w.drew (w.drew.alloc (.cells ccs' e')) := WExt.push w.drew _
                    have hwr := Step.write (μ' := μ.upd o (g + 1) (w.heap.size, 0)) (w' := w.drew.alloc (.cells ccs' e')) (a' := ⟨g + 1, false, .cells e' ((cs.drop off).take (n * E.size) ++ src)⟩) hs1 ho rfl rfl rfl b δ w.heap.size 0 hb0 (Nat.le_succ g)
                      (Mu.le_upd hfresh) (Mu.upd_self _ _ _ _) (fun o1 g1 x hx => by
                        by_cases he : o1 = o ∧ g1 = g + 1
                        · right; rw [he.1, he.2, Mu.upd_self] at hx; cases hx; exact ⟨he.1, he.2, rfl⟩
                        · left; rw [Mu.upd_ne he] at hx; exact hx)
                      hwp rfl rfl rfl (by show w.heap.size ≤ (w.heap.push _).size; simp) (by show w.heap.size < (w.heap.push _).size; simp) (.inr (Nat.le_refl _))
                      (fun k hk _ => by show (w.heap.push _)[k]? = w.heap[k]?; have hk' : k < w.heap.size := hk; rw [Array.getElem?_push, if_neg (by omega)])
                      ⟨ccs', (0, 0), by show (w.heap.push _)[w.heap.size]? = _; simp, by simpa using hle', fun j x hj => by
                        obtain ⟨r, p1, p2⟩ := hget j x hj
                        exact ⟨r, p1, VRel.mono (Mu.le_upd hfresh) hwp _ _ p2⟩, fun _ j _ h => by omega⟩
                    refine ⟨_, _, _, hrun, ⟨w.heap.size, 0, 0, c', e', ccs'.size, Mu.upd_self _ _ _ _, rfl, hc', .inl rfl, ?_, by rw [hsz]; omega⟩, hdrew.trans hwr⟩
                    exact shape_new w.drew ccs' e'
                  · have hoff' : off' = δ + off := by
                      rcases hoff with h | ⟨h, h'⟩
                      · exact h
                      · omega
                    subst hoff'
                    have hshm : e0 = e' ∧ mm = ccs.size := by
                      simp only [World.shape?, q1, Option.some.injEq, Prod.mk.injEq] at hsh
                      exact ⟨hsh.1.symm, hsh.2.symm⟩
                    obtain ⟨rfl, rfl⟩ := hshm
                    have hroom : (n + m) * E.size ≤ c * E.size := Nat.mul_le_mul_right _ (by omega)
                    have hsum : (n + m) * E.size = n * E.size + m * E.size := Nat.add_mul _ _ _
                    have hones' := hnr.ones hones
                    have hst := run_storeCells_cells (P := P) b (δ + off + n * E.size) new 0 w (fun j hj => by
                        rw [cell_of_heap q1, Option.isSome_iff_exists]; exact ⟨ccs[δ + off + n * E.size + 0 + j]'(by omega), by simp⟩)
                      (fun j hj => by
                        have := q4 rfl (δ + off + n * E.size + 0 + j) (by omega)
                        simp only [World.frozen?, q1]
                        simpa using this) hones'
                    rw [Nat.add_zero, heap_setCells new _ w ccs q1] at hst
                    have hrun := run_append_room (P := P) (ty := ty) (b := b) (off := δ + off) (c := c) hu hE ht2 hd2 hlen (by omega) hnew hst
                    have hlt := lt_of_heap q1
                    have hw : WExt w { w with heap := w.heap.setIfInBounds b (.cells (setVals ccs (δ + off + n * E.size) new) e0 fr) } := by
                      intro b' e' m h
                      unfold World.shape? at h ⊢
                      show (match (w.heap.setIfInBounds b _)[b']? with | some (.cells c elem _) => some (elem, c.size) | _ => none) = _
                      rw [Array.getElem?_setIfInBounds]
                      by_cases he : b = b'
                      · subst he
                        rw [q1] at h
                        simpa [hlt, setVals_size] using h
                      · rw [if_neg he]; exact h
                    have hwr := Step.write (μ' := μ.upd o (g + 1) (b, δ + off)) (w' := { w with heap := w.heap.setIfInBounds b (.cells (setVals ccs (δ + off + n * E.size) new) e0 fr) }) (a' := ⟨g + 1, false, .cells e0 ((cs.drop off).take (n * E.size) ++ src)⟩) hs ho rfl rfl rfl b δ b (δ + off) hb0 (Nat.le_succ g)
                      (Mu.le_upd hfresh) (Mu.upd_self _ _ _ _) (fun o1 g1 x hx => by
                        by_cases he : o1 = o ∧ g1 = g + 1
                        · right; rw [he.1, he.2, Mu.upd_self] at hx; cases hx; exact ⟨he.1, he.2, rfl⟩
                        · left; rw [Mu.upd_ne he] at hx; exact hx)
                      hw rfl rfl rfl (by simp) (by simpa using hlt) (.inl rfl)
                      (fun k _ hk => by show (w.heap.setIfInBounds b _)[k]? = _; rw [Array.getElem?_setIfInBounds, if_neg (fun h => hk h.symm)])
                      ⟨setVals ccs (δ + off + n * E.size) new, fr, by
                        show (w.heap.setIfInBounds b _)[b]? = _
                        rw [Array.getElem?_setIfInBounds, if_pos rfl, if_pos hlt], by
                        rw [setVals_size, List.length_append, hlx, hsl]; omega, fun j x hj => by
                        rw [setVals_get ccs new _ _ _ (by omega)]
                        rcases Nat.lt_or_ge j (n * E.size) with hj1 | hj1
                        · rw [List.getElem?_append_left (by rw [hlx]; exact hj1), List.getElem?_take, if_pos hj1, List.getElem?_drop] at hj
                          obtain ⟨r, p1, p2⟩ := q3 _ x hj
                          refine ⟨r, ?_, VRel.mono (Mu.le_upd hfresh) hw _ _ p2⟩
                          rw [if_neg (by omega), ← p1, Nat.add_assoc]
                        · rw [List.getElem?_append_right (by rw [hlx]; exact hj1), hlx] at hj
                          obtain ⟨r, p1, p2⟩ := hnr.get _ x hj
                          have hlt2 := lt_of_get p1
                          refine ⟨r, ?_, VRel.mono (Mu.le_upd hfresh) hw _ _ p2⟩
                          rw [if_pos (by omega), ← p1]
                          congr 1
                          omega, fun _ j hj => by
                        rw [setVals_size] at hj
                        exact q4 rfl j hj⟩
                    exact ⟨_, _, _, hrun, ⟨b, δ + off, δ + off, c, e0, ccs.size, Mu.upd_self _ _ _ _, rfl, by omega, .inl rfl, hw _ _ _ (by simp [World.shape?, q1]), hmm⟩, hwr⟩
                · cases h
              · cases h
            · cases h
          · cases h
      · cases h
    · cases h
  · cases h
end
end Go.Abs
