/- The layer Abs, part 11: conversions, copy, the lesser and the greater. -/
import Derived.Test.YtjphfiieapclhaaDoorAbs10
import Derived.Laws.IdiomStrings
import Derived.Laws.BytesString
namespace Go.Abs
section
variable {P : Program} {G : Nat} {μ : Mu} {σ : St} {w : World}

theorem copy_rel {t t2 ty : Nat} {x y a : AV} {u v : Value} {σ' : St} (hs : Sim G μ σ w) (h : aCopy P t x y σ = some (a, σ')) (hx : VRel μ w x u) (hy : VRel μ w y v) : Acts P G μ σ w (Builtin.copy_ #[t, t2] ty #[u, v]) a σ' := by
  unfold aCopy at h
  split at h
  · rename_i e _ _ _ _ _ _ o g off n z hT
    have hu := und_slice hT rfl
    split at h
    · rename_i E hE
      split at h
      · rename_i hz
        subst hz
        rw [Option.bind_eq_some_iff] at h
        obtain ⟨⟨m, src⟩, hsrc, h⟩ := h
        obtain ⟨hlen, hsl, hfirst⟩ := src_rel (P := P) hs hsrc hy
        simp only at h
        split at h
        · rename_i g' e' cs ho
          split at h
          · rename_i hc
            obtain ⟨rfl, hle, hones⟩ := hc
            cases h
            obtain ⟨b, δ, off', c, e0, mm, hb0, rfl, hn, hoff, hsh, hmm⟩ := hx
            obtain ⟨vs, hvs, hvl, hvr⟩ := hfirst (min m n) (Nat.min_le_left _ _)
            have hk : min m n * E.size ≤ n * E.size := Nat.mul_le_mul_right _ (Nat.min_le_right _ _)
            have hk2 : min m n * E.size ≤ m * E.size := Nat.mul_le_mul_right _ (Nat.min_le_left _ _)
            have hones' : (src.take (min m n * E.size)).all AV.one = true := by
              rw [List.all_eq_true] at hones ⊢
              exact fun q hq => hones q (List.mem_of_mem_take hq)
            have hone1 := hvr.ones hones'
            obtain ⟨w', h1, h2⟩ := Step.store (P := P) hs ho hb0 hvr hone1 (off := off) (by simp; omega)
            have hst : (storeCells ⟨b, off', none⟩ vs).run P w = .ok () w' := by
              rcases hoff with rfl | ⟨h0, _⟩
              · exact h1
              · subst h0
                have : vs = [] := List.eq_nil_of_length_eq_zero (by simpa using hvl)
                subst this
                exact h1
            refine ⟨goInt (min m n), w', μ, ?_, by simp [VRel, goInt], h2⟩
            have hmin : Nat.min m n = min m n := rfl
            simp [Builtin.copy_, run_und hu, hlen, run_size hE, hmin, hvs, hst]
            exact congrArg goInt (by omega)
          · cases h
        · cases h
      · cases h
    · cases h
  · cases h

theorem bytes_vals : ∀ {cs : List AV} {vs : List Value} {bs : List UInt8}, bytesOf cs = some bs → VRels μ w cs vs → ∃ ns : List Int, vs = ns.map (Value.int .u8) ∧ bs = ns.map fun n => UInt8.ofNat n.toNat
  | [], vs, bs, h, hr => by
    simp only [VRels] at hr; subst hr
    simp only [bytesOf, Option.some.injEq] at h; subst h
    exact ⟨[], rfl, rfl⟩
  | c :: cs, vs, bs, h, hr => by
    obtain ⟨v, vs', rfl, hv, hvs⟩ := hr
    cases c <;> (try (simp only [bytesOf, reduceCtorEq] at h; done))
    rename_i k n
    cases k <;> (try (simp only [bytesOf, reduceCtorEq] at h; done))
    simp only [bytesOf] at h
    rw [Option.map_eq_some_iff] at h
    obtain ⟨bs', hb, rfl⟩ := h
    obtain ⟨ns, rfl, rfl⟩ := bytes_vals hb hvs
    simp only [VRel] at hv; subst hv
    exact ⟨n :: ns, rfl, rfl⟩
theorem foldl_push (ns : List Int) : ∀ r : ByteArray, ns.foldl (fun r n => r.push (UInt8.ofNat n.toNat)) r = ⟨r.data ++ (ns.map fun n => UInt8.ofNat n.toNat).toArray⟩ := by
  induction ns with
  | nil => intro r; simp
  | cons n ns ih =>
    intro r
    rw [List.foldl_cons, ih]
    apply ByteArray.ext
    simp [ByteArray.push]

theorem conv_rel {s d : Nat} {x a : AV} {u : Value} {σ' : St} (hs : Sim G μ σ w) (h : aConv P s d x σ = some (a, σ')) (hx : VRel μ w x u) : Acts P G μ σ w (convert s d u) a σ' := by
  unfold aConv at h
  split at h
  · rename_i S D hS hD
    obtain ⟨iS, dS, zS, s1, s2, s3, s4, _⟩ := ty_info hS
    split at h
    · rename_i k k' n hd
      cases h
      simp only [VRel] at hx; subst hx
      have hdu := und_int hD hd
      refine Gives.acts hs ⟨.int k (k.wrap n), ?_, rfl⟩
      cases dS <;> simp [convert, run_und s2, run_und hdu, Conv.intToInt]
    · rename_i k n hd
      cases h
      simp only [VRel] at hx; subst hx
      have hdu := und_str hD hd
      refine Gives.acts hs ⟨.string (Utf8.encode n), ?_, by simp [VRel]⟩
      cases dS <;> simp [convert, run_und s2, run_und hdu, Conv.intToString]
    · rename_i x hs' hd
      cases h
      simp only [VRel] at hx; subst hx
      have hsu := und_str hS hs'
      have hdu := und_str hD hd
      exact Gives.acts hs ⟨_, by simp [convert, run_und hsu, run_und hdu], rfl⟩
    · rename_i e x hs' hd
      simp only [VRel] at hx; subst hx
      have hsu := und_str hS hs'
      have hdu := und_slice hD hd
      split at h
      · rename_i hE
        cases h
        have heu := und_int hE rfl
        have hdrew := Step.drew hs
        have hrun := run_bytes_of_string (P := P) w s d e ⟨x.toArray⟩ hsu hdu heu
        have hsz := size_mk x
        rw [hsz] at hrun
        have hge := grownCap_ge w x.length 0 e
        have hbsz : (bytesRow ⟨x.toArray⟩ (grownCap w x.length 0 e)).size = grownCap w x.length 0 e := by
          simp [bytesRow, hsz]; omega
        have hrow := Step.alloc hdrew.sim ⟨0, false, .cells e (x.map fun b => .i .u8 b.toNat)⟩ (.cells (bytesRow ⟨x.toArray⟩ (grownCap w x.length 0 e)) e ((bytesRow ⟨x.toArray⟩ (grownCap w x.length 0 e)).size, (bytesRow ⟨x.toArray⟩ (grownCap w x.length 0 e)).size + 1)) rfl
          (fun μ' w' hm' hw' hh => ⟨_, _, hh, by rw [hbsz]; simpa using hge, fun j c hj => by
            rw [List.getElem?_map, Option.map_eq_some_iff] at hj
            obtain ⟨b, hb, rfl⟩ := hj
            have hlt := lt_of_get hb
            refine ⟨.int .u8 b.toNat, ?_, rfl⟩
            rw [List.getElem?_eq_getElem hlt] at hb; cases hb
            simp [bytesRow, Array.getElem?_append, hlt], fun _ j hj h => by simp only at h; omega⟩)
        refine ⟨_, _, _, hrun, ⟨w.heap.size, 0, 0, grownCap w x.length 0 e, e, grownCap w x.length 0 e, Mu.upd_self _ _ _ _, rfl, hge, .inl rfl, ?_, by omega⟩, hdrew.trans hrow⟩
        show (match (w.heap.push _)[w.heap.size]? with | some (.cells c elem _) => some (elem, c.size) | _ => none) = _
        simp [hbsz]
      · cases h
    · rename_i e hs' hd
      simp only [VRel] at hx; subst hx
      have hsu := und_slice hS hs'
      have hdu := und_str hD hd
      split at h
      · rename_i hE
        cases h
        have heu := und_int hE rfl
        refine Gives.acts hs ⟨.string .empty, ?_, rfl⟩
        rw [run_convert_bytes_string w s d e none 0 0 hsu heu hdu]
        rfl
      · cases h
    · rename_i e o g off n z hs' hd
      have hsu := und_slice hS hs'
      have hdu := und_str hD hd
      split at h
      · rename_i hE
        have heu := und_int hE rfl
        split at h
        · rename_i hz
          subst hz
          rw [Option.bind_eq_some_iff] at h
          obtain ⟨cs, hcs, h⟩ := h
          split at h
          · rename_i hle
            rw [Option.map_eq_some_iff] at h
            obtain ⟨bs, hbs, h⟩ := h
            cases h
            have hsrcx : srcCells 1 (.sl o g off n 1) σ = some (n, (cs.drop off).take n) := by
              simp [srcCells, hcs, hle]
            obtain ⟨_, hl1, hf⟩ := src_rel (P := P) hs hsrcx hx
            obtain ⟨vs, hvs, hvl, hvr⟩ := hf n (Nat.le_refl _)
            obtain ⟨b, δ, off', c, e0, mm, hb0, rfl, hn, hoff, hsh, hmm⟩ := hx
            rw [Nat.mul_one] at hvr
            rw [List.take_take, Nat.min_self] at hvr
            obtain ⟨ns, rfl, rfl⟩ := bytes_vals hbs hvr
            refine Gives.acts hs ⟨_, ?_, rfl⟩
            rw [run_convert_bytes_string w s d e _ n c hsu heu hdu]
            have hload : (loadCells ⟨b, off', none⟩ n).run P w = .ok (ns.map (Value.int .u8)).toArray w := by simpa [Builtin.firstCells] using hvs
            rw [run_bytesToString w _ n c ns hload, foldl_push]
            simp
          · cases h
        · cases h
      · cases h
    · cases h
  · cases h

theorem mn_rel {mx : Bool} {xs : List AV} {us : List Value} {a : AV} {ts : Array Nat} {ty : Nat} (h : aMn mx xs = some a) (hx : VRels μ w xs us) : Gives P μ w (if mx then Builtin.max_ ts ty us.toArray else Builtin.min_ ts ty us.toArray) a := by
  unfold aMn at h
  split at h
  · rename_i k p k' q
    split at h
    · rename_i hk
      subst hk
      cases h
      obtain ⟨u, us', rfl, hu, hx'⟩ := hx
      obtain ⟨v, us'', rfl, hv, hx''⟩ := hx'
      simp only [VRels] at hx''; subst hx''
      simp only [VRel] at hu hv; subst hu; subst hv
      cases mx
      · refine ⟨.int k (min p q), ?_, rfl⟩
        simp [Builtin.min_, Builtin.min2]
        omega
      · refine ⟨.int k (max p q), ?_, rfl⟩
        simp [Builtin.max_, Builtin.max2]
        omega
    · cases h
  · cases h
end
end Go.Abs
