/- Texts of this claim, joined: Deep. -/
import Derived.Test.YtobmjhfgmhfocaaGreatDoorM12
import Derived.Test.YtobmjhfgmhfocaaGreatDoorM22
import Derived.Test.YtobmjhfgmhfocaaGreatDoorM10
import Derived.Test.YtobmjhfgmhfocaaGreatDoorCards
import Derived.Test.YtobmjhfgmhfocaaGreatDoorTie
import Derived.SevenTiedAt
set_option linter.unusedVariables false
set_option linter.unusedSimpArgs false
namespace Go.Proofs.YtobmjhfgmhfocaaGreatDoor
open Go Go.ChangeShapes Go.WideShapes Go.ChangeAt Go.ChangeMaps Go.RowKit Go.bK Go.bK.YtobmjhfgmhfocaaGreatDoor
set_option maxRecDepth 100000
theorem Om {W:World} (h:laidMetH Tryz.prog Rows.parseDeepRow.laid W):Start W:=by
 have h':laidMet Tryz.prog [("math/bits.deBruijn32tab",Rows.laid_math_bits_deBruijn32tab),("math/bits.deBruijn64tab",Rows.laid_math_bits_deBruijn64tab),("internal/strconv.uint64pow10",Rows.laid_internal_strconv_uint64pow10),("strconv.ErrRange",Rows.laid_strconv_ErrRange),("strconv.ErrSyntax",Rows.laid_strconv_ErrSyntax),("unicode.White_Space",Rows.laid_unicode_White_Space),("strings.asciiSpace",Rows.laid_strings_asciiSpace)] W∧handlesMet Tryz.prog [("errors.errorType",Rows.laid_errors_errorType)] W:=h
 exact UN h'.1 h'.2 (by simp) (by simp) (by simp)
theorem laidOut:laidOutB Tryz.prog=true:=by kernel_rfl
theorem Xc:Tryz.prog.cellsOf 5=1:=by kernel_rfl
theorem Xd {P:Program} {fits:TypeId→Bool} :∀(d:Nat) (e count off n:Nat),rowAt P fits d e count off n=true→off≤count*P.cellsOf e:=by
 intro d e count off n h
 cases d with
 | zero=>simp [rowAt] at h
 | succ d=>
   unfold rowAt at h
   simp only at h
   split at h
   ·cases h
   ·rename_i hs
    have hpos:0<P.cellsOf e:=by omega
    have hdm:=Nat.div_add_mod off (P.cellsOf e)
    have hml:=Nat.mod_lt off hpos
    rw [Bool.or_eq_true,Bool.and_eq_true,Bool.and_eq_true,Bool.and_eq_true] at h
    rcases h with ⟨⟨h1,h2⟩,_⟩ | ⟨h1,_⟩
    ·have h1:off%P.cellsOf e=0:=by simpa using h1
     have h2:off / P.cellsOf e+n≤count:=by simpa using h2
     have h3:off / P.cellsOf e≤count:=by omega
     have:=Nat.mul_le_mul_right (P.cellsOf e) h3
     have hc:=Nat.mul_comm (P.cellsOf e) (off / P.cellsOf e)
     omega
    ·have h2:off / P.cellsOf e+1≤count:=Nat.succ_le_of_lt (by simpa using h1)
     have:=Nat.mul_le_mul_right (P.cellsOf e) h2
     have hc:=Nat.mul_comm (P.cellsOf e) (off / P.cellsOf e)
     rw [Nat.add_mul,Nat.one_mul] at this
     omega
theorem GX {P:Program} :∀(d:Nat) (e count off u n:Nat),liesAt P d e count off u n=true→off≤count*P.cellsOf e
 | 0,e,count,off,u,n,h=>by simp [liesAt] at h
 | d+1,e,count,off,u,n,h=>by
   unfold liesAt at h
   rw [Bool.or_eq_true] at h
   rcases h with h | h
   ·exact Xd _ _ _ _ _ h
   ·split at h
    ·exact GX d _ _ _ _ _ h
    ·cases h
theorem Xe:∀(o:Nat) (a:AO),G0[o]? =some a→a.ro=false→a.k.live=true→False:=fun o a h hr hl=>by
 have:∀b∈G0,b.ro=true:=by decide +kernel
 rw [this a (List.mem_of_getElem? h)] at hr;cases hr
theorem Xf {H:Type} {enc:TypeId×Value→H} {W:World} (hsh:W.ShapedOpen Tryz.prog)(hL:Start W) {a0:Option Addr} {len cap:Nat} {d:DataW H} {ps:List MemPlace} (hv:Value.okWide Tryz.prog W .any 0 39 (.slice a0 len cap)) {fuel:Nat}
 (hf:DataW.trod enc Tryz.prog W 0 (fun _=>true) true fuel 39 (Value.cells (.slice a0 len cap)).toList=some (d,ps)) :
 ∃ bs vb pW μ,bs.length≤9223372036854775807∧pW.take G0.length=G0∧(∀(o:Nat) (a:AO),pW[o]? =some a→a.ro=false→a.k.live=true→False)∧fP 11 μ pW W∧W_ pW vb bs∧aJ μ W vb (.slice a0 len cap):=by
 have hst:=QG hsh hL
 rcases open_ints Tryz.underlying39 Tryz.underlying5 Xc hf with ⟨hcs,hx⟩ | ⟨a,len',cap',zs,hcs,_,hl,hm,hz,hx,hcell,hwz⟩
 ·simp [Value.cells] at hcs
  obtain⟨rfl,rfl,rfl⟩:=hcs
  exact⟨[],.sl0,G0,_,by simp,by rw [List.take_length],Xe,hst,.inl ⟨rfl,rfl⟩,rfl⟩
 ·simp [Value.cells] at hcs
  obtain⟨rfl,rfl,rfl⟩:=hcs
  simp only [if_true] at hz
  have hok:len≤cap∧(cap:Int)≤IntKind.i64.max∧W.has Tryz.prog .any 0 a 5 cap:=by
   have hv':=hv
   unfold Value.okWide at hv'
   rw [Tryz.underlying39] at hv'
   simp only [Cell.okWide,Cell.ok,Tryz.underlying39] at hv'
   exact hv'
  obtain⟨_,_,_,hspot,row,cells,hshape,hlies⟩:=hok
  obtain⟨b,off,spot⟩:=a
  simp only at hspot hshape hlies
  subst hspot
  have hoff:off≤cells:=by
   have h1:=GX _ _ _ _ _ _ hlies
   have h2:=Nat.div_mul_le_self cells (Tryz.prog.cellsOf row)
   omega
  obtain⟨cZ,fr,hb,hsz⟩:∃cZ fr,W.heap[b]? =some (.cells cZ row fr)∧cZ.size=cells:=by
   unfold World.shape? at hshape
   split at hshape
   ·rename_i c e f hh
    cases hshape
    exact⟨c,f,hh,rfl⟩
   ·cases hshape
  have cj:∀j,j<zs.length→W.cell? ⟨b,off+j,none⟩=some (.int .u8 (zs.getD j 0)):=fun j hj=>by rw [←add_plain];exact hcell j hj
  have cj2:∀j,j<zs.length→cZ[off+j]? =some (.int .u8 (zs.getD j 0)):=fun j hj=>by
   have:=cj j hj
   rw [cell_of_heap hb] at this
   exact this
  have hall:off+cap≤cells:=by
   rcases Nat.eq_zero_or_pos cap with h0 | h0
   ·omega
   ·have:=cj2 (cap - 1) (by omega)
    have:=(Array.getElem?_eq_some_iff.1 this).1
    omega
  have hz255:∀z∈zs,0≤z∧z≤255:=fun z hz'=>by
   have h5:=hwz z hz'
   have e1:IntKind.u8.min=0:=rfl
   have e2:IntKind.u8.max=255:=rfl
   simpa [Lit.wf,e1,e2] using h5
  let bs:List UInt8:=(zs.take len).map fun z=>UInt8.ofNat z.toNat
  have hbl:bs.length=len:=by simp [bs];omega
  have hcells:∀(j:Nat) c,(bs.map byV)[j]? =some c→∃v,cZ[off+j]? =some v∧aJ (mu0 11) W c v:=by
   intro j c hj
   have hj':j<len:=by
        have:=(List.getElem?_eq_some_iff.1 hj).1
        rw [List.length_map,hbl] at this;exact this
   have hzj:zs[j]? =some zs[j]:=List.getElem?_eq_getElem (by omega)
   have h2:=hz255 zs[j] (List.getElem_mem _)
   have hc:c= .i .u8 zs[j]:=by
        simp only [bs,List.map_map,List.getElem?_map,List.getElem?_take,hj',if_true,hzj,Option.map_some,Option.some.injEq,Function.comp] at hj
        rw [←hj]
        simp only [byV,AV.i.injEq,true_and]
        rw [UInt8.toNat_ofNat']
        omega
   refine⟨_,cj2 j (by omega),?_⟩
   rw [hc]
   simp only [aJ,List.getD,hzj,Option.getD_some]
  obtain⟨μ',hs',hm',hle⟩:=hst.addRo Xe (e:=row) (cs:=bs.map byV) hb (by rw [List.length_map,hbl];omega) hcells
  refine⟨bs,.sl G0.length 1 0 bs.length 1,_,μ',by rw [hbl];unfold maxLen at hm;omega,by rw [List.take_left],?_,hs',.inr ⟨G0.length,1,true,row,rfl,by simp⟩,?_⟩
  ·intro o a ho hr hl'
   rcases Nat.lt_trichotomy o G0.length with hlt | he | hgt
   ·rw [List.getElem?_append_left hlt] at ho;exact Xe o a ho hr hl'
   ·subst he;simp at ho;subst ho;cases hr
   ·rw [List.getElem?_eq_none (by simp;omega)] at ho;cases ho
  ·refine⟨b,off,off,cap,row,cells,hm',by rw [hbl],by omega,.inl rfl,hshape,by omega⟩
theorem LK (os:Os)(started:os.Started)(H:Type)(enc:TypeId×Value→H) :
 ReturnsInHanded {} Tryz.checked os 9 .any (fun w args=>(Rows.parseDeepSpec.pre enc Tryz.prog Tryz.f9 [] false w args∧laidMetH Tryz.prog Rows.parseDeepRow.laid w)∧sizedMet enc Tryz.prog Tryz.f9 (OpenSpec.ofChange Rows.parseDeepSpec) false w args)
  (Rows.parseDeepSpec.post enc Tryz.prog Tryz.f9 false true false false):=by
 refine Dv (C:=Tryz.checked) (X:=fun w _=>laidMetH Tryz.prog Rows.parseDeepRow.laid w) (fun _ _ _ hh h=>h.of_heap hh) own started (by kernel_rfl) Tryz.func9
  (ChangeSpec.witness_shaped (enc:=enc) (C:=Tryz.checked) (os:=os) (X:=fun w _=>laidMetH Tryz.prog Rows.parseDeepRow.laid w) false (World.doorLaid Tryz.prog 400 os) #[.int .u8 0,.slice none 0 0] 8 rfl (World.shaped_of_RefB (by kernel_rfl) (by kernel_rfl)) (by kernel_rfl) (by kernel_rfl) (by kernel_rfl) (QH os _)) ?_
 intro W base args ds gs before hsh hval0 hW hL
 have hval:∀(j:Nat) t v,Tryz.f9.params[j]? =some t→args[j]? =some v→Value.okWide Tryz.prog W .any base t v:=hval0
 have hW':=hW
 obtain⟨p,q,hA0,hV,rfl,hfz,hnd⟩:=hW
 have hA:DataW.TrodAll enc Tryz.prog W 0 (fun _=>true) true Tryz.f9.params.toList args.toList ds p:=hA0
 rw [Tryz.params9] at hA hval
 obtain⟨v0,v1,d0,d1,p0,p1,rfl,rfl,rfl,h0,h1⟩:=trodAll_two hA
 obtain⟨rfl,rfl⟩:=trodVars_none hV
 obtain⟨m,rfl,rfl,rfl,hm⟩:=open_int Tryz.underlying5 (hval 0 5 v0 rfl rfl) h0
 obtain⟨n,hn,rfl⟩:∃n:Nat,n<256∧m=(n:Int):=by
  have h2:(decide ((0:Int)≤m) && decide (m≤255))=true:=hm
  rw [Bool.and_eq_true,decide_eq_true_eq,decide_eq_true_eq] at h2
  exact⟨m.toNat,by omega,by omega⟩
 have hv1:=hval 1 39 v1 rfl rfl
 obtain⟨a0,len,cap,rfl⟩:=okWide_slice Tryz.underlying39 hv1
 have h1k:=h1
 obtain⟨fuel,hf⟩:=h1
 have hlt:∀x∈p1,x.block<W.heap.size:=fun x hx=>hW'.lt x (by simp [hx])
 have hargs:∀(W':World),Below W.heap.size W W'→DataW.Trod enc Tryz.prog W' 0 (fun b=>decide (b<W.heap.size)) true 39 (.slice a0 len cap) d1 p1:=
  fun W' hn=>Below.trod laidOut (by kernel_rfl) (of_decide_eq_true (by kernel_rfl)) h1k hn hlt
 obtain⟨bs,vb,pW,μ,hbs,ht,hro,hsim,hbet,SC⟩:=Xf hsh (Om hL) hv1 hf
 have hen:Enters Tryz.prog 9:=gQ Tryz.func9 (by kernel_rfl) (by kernel_rfl)
 refine((Z5 n (by omega) bs hbs pW ht vb hbet).ev.calls Zx hen hsim (aV:=#[.int .u8 n,.slice a0 len cap]) ⟨_,[_],rfl,by simp [aJ],_,[],rfl,SC,rfl⟩).mono fun e W' ha=>?_
 obtain⟨r,σ',⟨rfl,rfl⟩,haf⟩:=ha
 obtain⟨v,μ',rfl,hv,hb⟩:=Dw hro haf
 simp only [aJ] at hv
 subst hv
 refine⟨_,rfl,_,_,_,[],[] ++ p1,[],hW',?_,?_,rfl,hb.frame _,fun h=>by cases h⟩
 ·exact trodAll_mk1 (shut_bool Tryz.underlying4 true)
 ·exact trodAll_mk2 (shut_int Tryz.underlying5 hm) (hargs _ hb)
theorem Oo:Rows.ParseDeepSaid:=
 OpenClaim.holds_of_wide 9 Tryz.f9 rfl rfl rfl rfl rfl rfl rfl ⟨rfl,rfl,rfl,rfl,rfl⟩ rfl rfl rfl rfl rfl (by kernel_rfl) Tryz.func9 (by kernel_rfl)
  (of_decide_eq_true (by kernel_rfl)) (by unfold Func.isWrapper;first | (rw [if_pos (by decide +kernel)];kernel_rfl) | (rw [if_neg (by decide +kernel)];exact⟨rfl,rfl⟩))
  (fun os started H enc _=>LK os started H enc)
theorem deep_card:Rows.ParseDeepCardSaid:=
 Claim7.holds_tied_plain_at .later [] Rows.parseDeepCard.laidKinds true Rows.parseDeepCard.stood.harness true
  Oo (fun _ h=>by cases h) (by kernel_rfl) (fun _ h=>by cases h) parseDeep_row_tie rfl ⟨rfl,rfl⟩ (by kernel_rfl) rfl
  (fun f fn hf hfn=>by
   obtain rfl:f=9:=Option.some.inj ((show Tryz.prog.funcNamed "fallow/fallowlaw24.ParseDeep" =some 9 by kernel_rfl).symm.trans hf) |>.symm
   obtain rfl:fn=Tryz.f9:=(Option.some.inj (Tryz.func9.symm.trans hfn)).symm
   exact⟨by kernel_rfl,fun j t ht=>by
       rw [Tryz.params9] at ht
       have hm:t∈[5,39]:=by simpa using Array.mem_of_getElem? ht
       have hall:([5,39].all fun u=>!Tryz.prog.wantsStandIn u)=true:=by kernel_rfl
       exact(show Tryz.prog.wantsStandIn t=false by simpa using List.all_eq_true.1 hall t hm)⟩)
  (by kernel_rfl)
#print axioms deep_card
end Go.Proofs.YtobmjhfgmhfocaaGreatDoor
