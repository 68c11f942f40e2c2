/- Texts of this claim, joined: PBinds. -/
import Derived.Test.YtlkfbfhkcaldlaaGreatDoorM13
import Derived.Test.YtlkfbfhkcaldlaaGreatDoorM37
import Derived.Test.YtlkfbfhkcaldlaaGreatDoorCards
import Derived.Test.YtlkfbfhkcaldlaaGreatDoorTie
import Derived.SevenTiedAt
import Derived.OpenShut
import Derived.Carry
set_option linter.unusedVariables false
set_option linter.unusedSimpArgs false
namespace Go.Proofs.YtlkfbfhkcaldlaaGreatDoor
open Go Go.ChangeShapes Go.WideShapes Go.ChangeAt Go.ChangeMaps Go.RowKit Go.Abs Go.Abs.YtlkfbfhkcaldlaaGreatDoor
set_option maxRecDepth 100000
theorem Nc {W:World} (h:laidMetH Tryz.prog Rows.parseBindsRow.laid W):Start W:=by
 have h':laidMet Tryz.prog [("math/bits.deBruijn32tab",Rows.laid_math_bits_deBruijn32tab),("math/bits.deBruijn64tab",Rows.laid_math_bits_deBruijn64tab),("internal/strconv.uint64pow10",Rows.laid_internal_strconv_uint64pow10),("strconv.ErrRange",Rows.laid_strconv_ErrRange),("strconv.ErrSyntax",Rows.laid_strconv_ErrSyntax),("unicode.White_Space",Rows.laid_unicode_White_Space),("strings.asciiSpace",Rows.laid_strings_asciiSpace)] W:=h
 exact UY h' (by simp) (by simp) (by simp)
theorem laidOut:laidOutB Tryz.prog=true:=by kernel_rfl
theorem okWide_arr {P:Program} {w:World} {r:Reach} {base:Nat} {t e:TypeId} {n:Nat} {v:Value} (ht:P.underlying t=some (.array n e))(h:Value.okWide P w r base t v):∃cs,v= .agg cs∧cs.size=P.cellsOf t:=by
 simp only [Value.okWide,ht] at h
 obtain⟨cs,h1,h2,_⟩:=h
 exact⟨cs,h1,h2⟩
section
variable {H:Type} {enc:TypeId×Value→H} {P:Program} {w:World} {base:Nat} {spare:Nat→Bool} {held:Bool}
theorem Fh {e:TypeId} {k:IntKind} {fuel:Nat} {c:Value} {y:DataW H×List MemPlace} (he:P.underlying e=some (.int k))(h:DataW.trod enc P w base spare held fuel e [c]=some y):∃n,c= .int k n∧(Lit.int k n).wf=true:=by
 obtain⟨n,h1,_,h2⟩:=DataW.trod_int he h
 simp only [List.cons.injEq,and_true] at h1
 exact⟨n,h1,h2⟩
theorem Xf {n:Int} (h:(Lit.int .u8 n).wf=true):∃k:Nat,n=k∧k<256:=by
 simp [Lit.wf,IntKind.min,IntKind.max,IntKind.signed,IntKind.bits] at h
 exact⟨n.toNat,by omega,by omega⟩
theorem JG {n:Int} (h:(Lit.int .u32 n).wf=true):∃k:Nat,n=k∧k<4294967296:=by
 simp [Lit.wf,IntKind.min,IntKind.max,IntKind.signed,IntKind.bits] at h
 exact⟨n.toNat,by omega,by omega⟩
theorem SN {r:Reach} {b0:Nat} {t e:TypeId} {v:Value} {d:DataW H} {ps:List MemPlace} (ht:P.underlying t=some (.array 2 e))(he:P.underlying e=some (.int .u8))(hce:P.cellsOf e=1)(hct:P.cellsOf t=2)(hval:Value.okWide P w r b0 t v)(hd:DataW.Trod enc P w base spare held t v d ps) :
 ∃ m n:Nat,m<256∧n<256∧v= .agg #[.int .u8 m,.int .u8 n]:=by
 obtain⟨cs,rfl,hsz⟩:=okWide_arr ht hval
 obtain⟨fuel,hf⟩:=hd
 obtain⟨xs,k,_,_,hl,hlen,hi⟩:=DataW.trod_array ht hf
 rw [hct] at hsz
 obtain⟨l⟩:=cs
 match l,hsz with
 | [c0,c1],_=>
   have h0:=hi 0 (by decide)
   have h1:=hi 1 (by decide)
   rw [hce] at h0 h1
   rw [sN (by omega)] at h0 h1
   obtain⟨n0,rfl,w0⟩:=Fh he h0
   obtain⟨n1,rfl,w1⟩:=Fh he h1
   obtain⟨k0,rfl,q0⟩:=Xf w0
   obtain⟨k1,rfl,q1⟩:=Xf w1
   exact⟨k0,k1,q0,q1,rfl⟩
theorem SQ {r:Reach} {b0:Nat} {t e:TypeId} {v:Value} {d:DataW H} {ps:List MemPlace} (ht:P.underlying t=some (.array 3 e))(he:P.underlying e=some (.int .u32))(hce:P.cellsOf e=1)(hct:P.cellsOf t=3)(hval:Value.okWide P w r b0 t v)(hd:DataW.Trod enc P w base spare held t v d ps) :
 ∃ x y z:Nat,x<4294967296∧y<4294967296∧z<4294967296∧v= .agg #[.int .u32 x,.int .u32 y,.int .u32 z]:=by
 obtain⟨cs,rfl,hsz⟩:=okWide_arr ht hval
 obtain⟨fuel,hf⟩:=hd
 obtain⟨xs,k,_,_,hl,hlen,hi⟩:=DataW.trod_array ht hf
 rw [hct] at hsz
 obtain⟨l⟩:=cs
 match l,hsz with
 | [c0,c1,c2],_=>
   have h0:=hi 0 (by decide)
   have h1:=hi 1 (by decide)
   have h2:=hi 2 (by decide)
   rw [hce] at h0 h1 h2
   rw [sN (by omega)] at h0 h1 h2
   obtain⟨n0,rfl,w0⟩:=Fh he h0
   obtain⟨n1,rfl,w1⟩:=Fh he h1
   obtain⟨n2,rfl,w2⟩:=Fh he h2
   obtain⟨k0,rfl,q0⟩:=JG w0
   obtain⟨k1,rfl,q1⟩:=JG w1
   obtain⟨k2,rfl,q2⟩:=JG w2
   exact⟨k0,k1,k2,q0,q1,q2,rfl⟩
end
theorem JH (os:Os)(started:os.Started)(H:Type)(enc:TypeId×Value→H) :
 ReturnsInHanded {} Tryz.checked os 5 .any (fun w args=>(Rows.parseBindsSpec.pre enc Tryz.prog Tryz.f5 [] false w args∧laidMetH Tryz.prog Rows.parseBindsRow.laid w)∧sizedMet enc Tryz.prog Tryz.f5 (OpenSpec.ofChange Rows.parseBindsSpec) false w args)
  (Rows.parseBindsSpec.post enc Tryz.prog Tryz.f5 false true false false):=by
 refine Ef (C:=Tryz.checked) (X:=fun w _=>laidMetH Tryz.prog Rows.parseBindsRow.laid w) (fun _ _ _ hh h=>h.of_heap hh) own started (by kernel_rfl) Tryz.func5
  (ChangeSpec.witness_shaped (enc:=enc) (C:=Tryz.checked) (os:=os) (X:=fun w _=>laidMetH Tryz.prog Rows.parseBindsRow.laid w) false (World.doorLaid Tryz.prog 400 os) #[.agg #[.int .u8 0,.int .u8 0],.agg #[.int .u32 0,.int .u32 0,.int .u32 0]] 8 rfl (World.shaped_of_RefB (by kernel_rfl) (by kernel_rfl)) (by kernel_rfl) (by kernel_rfl) (by kernel_rfl) (Rl os _)) ?_
 intro W base args ds gs before hsh hval0 hW hL
 have hval:∀(j:Nat) t v,Tryz.f5.params[j]? =some t→args[j]? =some v→Value.okWide Tryz.prog W .any base t v:=hval0
 have hW':=hW
 obtain⟨p,q,hA0,hV,rfl,hfz,hnd⟩:=hW
 have hA:DataW.TrodAll enc Tryz.prog W 0 (fun _=>true) true Tryz.f5.params.toList args.toList ds p:=hA0
 rw [Tryz.params5] at hA hval
 obtain⟨v0,v1,d0,d1,p0,p1,rfl,rfl,rfl,h0,h1⟩:=trodAll_two hA
 obtain⟨rfl,rfl⟩:=trodVars_none hV
 obtain⟨m,n,hm,hn,rfl⟩:=SN Tryz.underlying38 Tryz.underlying5 (by kernel_rfl) (by kernel_rfl) (hval 0 38 v0 rfl rfl) h0
 obtain⟨x,y,z,hx,hy,hz,rfl⟩:=SQ Tryz.underlying40 Tryz.underlying39 (by kernel_rfl) (by kernel_rfl) (hval 1 40 v1 rfl rfl) h1
 have hst:=Rk hsh (Nc hL)
 have hen:Enters Tryz.prog 5:=iw Tryz.func5 (by kernel_rfl) (by kernel_rfl)
 have hlt0:∀q∈p0,q.block<W.heap.size:=fun q hq=>hW'.lt q (by simp [hq])
 have hlt1:∀q∈p1,q.block<W.heap.size:=fun q hq=>hW'.lt q (by simp [hq])
 refine((SL hm hn hx hy hz G0 rfl).ev.calls YX hen hst (aO:=#[.agg #[.int .u8 m,.int .u8 n],.agg #[.int .u32 x,.int .u32 y,.int .u32 z]]) ⟨_,[_],rfl,by simp [aI,aJ],_,[],rfl,by simp [aI,aJ],rfl⟩).mono fun e W' ha=>?_
 obtain⟨r,σ',⟨rfl,rfl⟩,haf⟩:=ha
 obtain⟨v,μ',rfl,hv,hb⟩:=KX NZ haf
 simp only [aI] at hv
 subst hv
 refine⟨_,rfl,_,_,_,[],p0 ++ p1,[],hW',?_,?_,rfl,hb.frame _,fun h=>by cases h⟩
 ·exact trodAll_mk1 (shut_bool Tryz.underlying4 true)
 ·exact trodAll_mk2 (Below.trod laidOut (by kernel_rfl) (of_decide_eq_true (by kernel_rfl)) h0 hb hlt0) (Below.trod laidOut (by kernel_rfl) (of_decide_eq_true (by kernel_rfl)) h1 hb hlt1)
theorem Nh:Rows.ParseBindsSaid:=
 OpenClaim.holds_of_wide 5 Tryz.f5 rfl rfl rfl rfl rfl rfl rfl ⟨rfl,rfl,rfl,rfl,rfl⟩ rfl rfl rfl rfl rfl (by kernel_rfl) Tryz.func5 (by kernel_rfl)
  (of_decide_eq_true (by kernel_rfl)) (by unfold Func.isWrapper;first | (rw [if_pos (by decide +kernel)];kernel_rfl) | (rw [if_neg (by decide +kernel)];exact⟨rfl,rfl⟩))
  (fun os started H enc _=>JH os started H enc)
theorem binds_card:Rows.ParseBindsCardSaid:=
 Claim7.holds_tied_plain_at .later [] Rows.parseBindsCard.laidKinds true Rows.parseBindsCard.stood.harness true
  Nh (fun _ h=>by cases h) (by kernel_rfl) (fun _ h=>by cases h) parseBinds_row_tie rfl ⟨rfl,rfl⟩ (by kernel_rfl) rfl
  (fun f fn hf hfn=>by
   obtain rfl:f=5:=Option.some.inj ((show Tryz.prog.funcNamed "fallow/fallowlaw24.ParseBinds" =some 5 by kernel_rfl).symm.trans hf) |>.symm
   obtain rfl:fn=Tryz.f5:=(Option.some.inj (Tryz.func5.symm.trans hfn)).symm
   exact⟨by kernel_rfl,fun j t ht=>by
       rw [Tryz.params5] at ht
       have hm:t∈[38,40]:=by simpa using Array.mem_of_getElem? ht
       have hall:([38,40].all fun u=>!Tryz.prog.wantsStandIn u)=true:=by kernel_rfl
       exact(show Tryz.prog.wantsStandIn t=false by simpa using List.all_eq_true.1 hall t hm)⟩)
  (by kernel_rfl)
#print axioms binds_card
end Go.Proofs.YtlkfbfhkcaldlaaGreatDoor
