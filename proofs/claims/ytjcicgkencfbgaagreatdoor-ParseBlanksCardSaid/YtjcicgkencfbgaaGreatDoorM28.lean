/- ParseBlanks: for every text of at most 2000 bytes and all kinds of blanks, what is read with blanks and remarks between its words is the same program but for lines, or both are wrong. The conditions are those of the row: the listed package-level variables start as the text of the program lays them (the card ties them). -/
import Derived.Test.YtjcicgkencfbgaaGreatDoorM27
import Derived.Test.YtjcicgkencfbgaaGreatDoorM25
import Derived.Test.YtjcicgkencfbgaaGreatDoorM19
import Derived.Test.YtjcicgkencfbgaaGreatDoorM12
import Derived.Test.YtjcicgkencfbgaaGreatDoorM10
import Derived.Test.YtjcicgkencfbgaaGreatDoorCards
import Derived.Test.YtjcicgkencfbgaaGreatDoorTie
import Derived.SevenTiedAt
set_option linter.unusedVariables false
set_option linter.unusedSimpArgs false
namespace Go.bG.YtjcicgkencfbgaaGreatDoor
open Go.Proofs
set_option maxRecDepth 4000
theorem oM:∀(k:Nat) (s:List UInt8) (l:Nat) (acc:List Tok) {a:List Tok} {n:Nat},iE k s l acc= .done a n→a.length≤acc.length+k
 | 0,[],l,acc,a,n,h=>by cases h;simp
 | 0,_ :: _,l,acc,a,n,h=>by cases h;simp
 | k+1,[],l,acc,a,n,h=>by cases h;omega
 | k+1,c :: r,l,acc,a,n,h=>by
   simp only [iE] at h
   split at h
   ·have:=oM k _ _ _ h;omega
   ·have:=oM k _ _ _ h;rw [List.length_append] at this;simp only [List.length_cons,List.length_nil] at this;omega
   ·cases h
theorem EK {t:List UInt8} {l:List Tok} (h:mG t= .toks l):l.length≤40000:=by
 unfold mG at h
 split at h
 ·cases h
 ·rename_i hl
  cases hr:iE t.length t 0 [] with
  | done a b=>
    rw [hr] at h
    have:=oM _ _ _ _ hr
    cases h
    rw [List.length_append]
    simp only [List.length_cons,List.length_nil] at this ⊢
    omega
  | bad a b=>rw [hr] at h;cases h
theorem qB {t:List UInt8} {fs:List Fm} {ts:List Tok} (h:jB t= .ok fs ts):ET fs≤100000:=by
 unfold jB at h
 split at h
 ·cases h
 ·rename_i l hl
  have h1:=EK hl
  have h2:=En (10*l.length+11) l
  rw [h] at h2
  have h2:ET fs+ts.length≤l.length:=h2
  omega
theorem G6.mono {σ σ1:St} {v:AV} {bs:List UInt8} (hb:G6 σ v bs)(x1:Ext σ σ1):G6 σ1 v bs:=by
 rcases hb with ⟨h,h'⟩ | ⟨o,g,ro,e,h,ho⟩
 ·exact .inl ⟨h,h'⟩
 ·exact .inr ⟨o,g,ro,e,h,x1.get ho⟩
theorem QY (t bs:List UInt8)(hbs:bs.length≤9223372036854775807)(σ:St)(hg:σ.take G0.length=G0)(vb:AV)(hb:G6 σ vb bs):ay X 4 [.s t,vb] σ fun v s=>v= .b true∧s=σ:=by
 have hv:vb= .sl0∨∃o g n,vb= .sl o g 0 n 1:=by
  rcases hb with ⟨_,rfl⟩ | ⟨o,g,ro,e,rfl,_⟩
  ·exact .inl rfl
  ·exact .inr ⟨_,_,_,rfl⟩
 refine ay.body (F:=F4) aF (lit:=false) rfl rfl (Nat.le_of_ble_eq_true rfl) ?_
 conv=>whnf
 refine tV σ hg ?_
 rcases hv with rfl | ⟨ov,gv,nv,rfl⟩
 all_goals
  conv=>whnf
  refine O6 t σ hg _ (fun w out σ1 hl hlen x1 ho=>?_) (fun e l o σ1 hl x1 hol hf=>?_)
  case' refine_2=>
   conv=>whnf
   exact Fin.flat rfl x1.take ⟨rfl,rfl⟩
  obtain⟨he,_,_,_⟩:=I5 hl
  rcases ho with ⟨rfl,_⟩ | ⟨ow,g,how,rfl,htok⟩
  ·exact he.elim
  conv=>whnf
  by_cases h2:t.length≤2000
  case' neg=>
   rw [decide_eq_true (by omega)]
   conv=>whnf
   conv=>whnf
   exact Fin.flat rfl x1.take ⟨rfl,rfl⟩
  rw [decide_eq_false (by omega)]
  conv=>whnf
  conv=>whnf
  have hb1:=hb.mono x1
  have hwt:qA w≤32015:=by have:=QX hl;omega
  refine LK t bs hbs σ1 _ hb1 htok hlen hwt _ (fun e' h0 h7 hu=>?_) w.length 0 (by omega)
  have al:=Ja (kB bs) hl h2
  generalize CJ (kB bs) 0 w=s at h7 al
  conv=>whnf
  rw [h0]
  conv=>whnf
  rw [h7]
  conv=>whnf
  refine I8 t σ1 (jo x1 hg) _ ?_
  cases hr:jB t with
  | out=>trivial
  | ok fs ts=>
    rw [hr] at al
    have hw:=qB hr
    intro o1 σ2 x2 hp1
    conv=>whnf
    refine I8 s σ2 (jo (x1.trans x2) hg) _ ?_
    cases hq:jB s with
    | out=>trivial
    | bad c l=>rw [hq] at al;exact al.elim
    | ok gs us=>
      rw [hq] at al
      have al:fV fs gs=true:=al
      have hw':=qB hq
      intro o2 σ3 x3 hp2
      conv=>whnf
      refine ay.to (Vw (hp1.mono (fun i hi=>hi) (fun i hi a ha=>x3.get ha)) hp2 hw hw') ?_
      rw [al]
      conv=>whnf
      exact Fin.flat rfl ((x1.trans x2).trans x3).take ⟨rfl,rfl⟩
  | bad c l=>
    rw [hr] at al
    intro o1 g1 σ2 x2 hf1
    conv=>whnf
    refine I8 s σ2 (jo (x1.trans x2) hg) _ ?_
    cases hq:jB s with
    | out=>trivial
    | ok gs us=>rw [hq] at al;exact al.elim
    | bad c' l'=>
      intro o2 g2 σ3 x3 hf2
      conv=>whnf
      refine ay.to Ls ?_
      conv=>whnf
      exact Fin.flat rfl ((x1.trans x2).trans x3).take ⟨rfl,rfl⟩
end Go.bG.YtjcicgkencfbgaaGreatDoor
namespace Go.Proofs.YtjcicgkencfbgaaGreatDoor
open Go Go.ChangeShapes Go.WideShapes Go.ChangeAt Go.ChangeMaps Go.RowKit Go.bG Go.bG.YtjcicgkencfbgaaGreatDoor
set_option maxRecDepth 100000
theorem Jb {W:World} (h:laidMetH Tryz.prog Rows.parseBlanksRow.laid W):Start W:=by
 have h':laidMet Tryz.prog [("math/bits.deBruijn32tab",Rows.laid_math_bits_deBruijn32tab),("math/bits.deBruijn64tab",Rows.laid_math_bits_deBruijn64tab),("internal/strconv.uint64pow10",Rows.laid_internal_strconv_uint64pow10),("strconv.ErrRange",Rows.laid_strconv_ErrRange),("strconv.ErrSyntax",Rows.laid_strconv_ErrSyntax),("unicode.White_Space",Rows.laid_unicode_White_Space),("strings.asciiSpace",Rows.laid_strings_asciiSpace)] W:=h
 exact Kv h' (by simp) (by simp) (by simp)
theorem laidOut:laidOutB Tryz.prog=true:=by kernel_rfl
theorem VE:Tryz.prog.cellsOf 5=1:=by kernel_rfl
theorem VF {P:Program} {fits:TypeId→Bool} :∀(d:Nat) (e count off n:Nat),rowAt P fits d e count off n=true→off≤count*P.cellsOf e:=by
 intro d e count off n h
 cases d with
 | zero=>simp [rowAt] at h
 | succ d=>
   unfold rowAt at h
   simp only at h
   split at h
   ·cases h
   ·rename_i hs
    have hpos:0<P.cellsOf e:=by omega
    have hdm:=Nat.div_add_mod off (P.cellsOf e)
    have hml:=Nat.mod_lt off hpos
    rw [Bool.or_eq_true,Bool.and_eq_true,Bool.and_eq_true,Bool.and_eq_true] at h
    rcases h with ⟨⟨h1,h2⟩,_⟩ | ⟨h1,_⟩
    ·have h1:off%P.cellsOf e=0:=by simpa using h1
     have h2:off / P.cellsOf e+n≤count:=by simpa using h2
     have h3:off / P.cellsOf e≤count:=by omega
     have:=Nat.mul_le_mul_right (P.cellsOf e) h3
     have hc:=Nat.mul_comm (P.cellsOf e) (off / P.cellsOf e)
     omega
    ·have h2:off / P.cellsOf e+1≤count:=Nat.succ_le_of_lt (by simpa using h1)
     have:=Nat.mul_le_mul_right (P.cellsOf e) h2
     have hc:=Nat.mul_comm (P.cellsOf e) (off / P.cellsOf e)
     rw [Nat.add_mul,Nat.one_mul] at this
     omega
theorem G7 {P:Program} :∀(d:Nat) (e count off u n:Nat),liesAt P d e count off u n=true→off≤count*P.cellsOf e
 | 0,e,count,off,u,n,h=>by simp [liesAt] at h
 | d+1,e,count,off,u,n,h=>by
   unfold liesAt at h
   rw [Bool.or_eq_true] at h
   rcases h with h | h
   ·exact VF _ _ _ _ _ h
   ·split at h
    ·exact G7 d _ _ _ _ _ h
    ·cases h
theorem VG:∀(o:Nat) (a:AO),G0[o]? =some a→a.ro=false→a.k.live=true→False:=fun o a h hr hl=>by
 have:∀b∈G0,b.ro=true:=by decide +kernel
 rw [this a (List.mem_of_getElem? h)] at hr;cases hr
theorem VH {H:Type} {enc:TypeId×Value→H} {W:World} (hsh:W.ShapedOpen Tryz.prog)(hL:Start W) {a0:Option Addr} {len cap:Nat} {d:DataW H} {ps:List MemPlace} (hv:Value.okWide Tryz.prog W .any 0 31 (.slice a0 len cap)) {fuel:Nat}
 (hf:DataW.trod enc Tryz.prog W 0 (fun _=>true) true fuel 31 (Value.cells (.slice a0 len cap)).toList=some (d,ps)) :
 ∃ bs vb xG μ,bs.length≤9223372036854775807∧xG.take G0.length=G0∧(∀(o:Nat) (a:AO),xG[o]? =some a→a.ro=false→a.k.live=true→False)∧gK 11 μ xG W∧G6 xG vb bs∧aO μ W vb (.slice a0 len cap):=by
 have hst:=Gq hsh hL
 rcases open_ints Tryz.underlying31 Tryz.underlying5 VE hf with ⟨hcs,hx⟩ | ⟨a,len',cap',zs,hcs,_,hl,hm,hz,hx,hcell,hwz⟩
 ·simp [Value.cells] at hcs
  obtain⟨rfl,rfl,rfl⟩:=hcs
  exact⟨[],.sl0,G0,_,by simp,by rw [List.take_length],VG,hst,.inl ⟨rfl,rfl⟩,rfl⟩
 ·simp [Value.cells] at hcs
  obtain⟨rfl,rfl,rfl⟩:=hcs
  simp only [if_true] at hz
  have hok:len≤cap∧(cap:Int)≤IntKind.i64.max∧W.has Tryz.prog .any 0 a 5 cap:=by
   have hv':=hv
   unfold Value.okWide at hv'
   rw [Tryz.underlying31] at hv'
   simp only [Cell.okWide,Cell.ok,Tryz.underlying31] at hv'
   exact hv'
  obtain⟨_,_,_,hspot,row,cells,hshape,hlies⟩:=hok
  obtain⟨b,off,spot⟩:=a
  simp only at hspot hshape hlies
  subst hspot
  have hoff:off≤cells:=by
   have h1:=G7 _ _ _ _ _ _ hlies
   have h2:=Nat.div_mul_le_self cells (Tryz.prog.cellsOf row)
   omega
  obtain⟨dF,fr,hb,hsz⟩:∃dF fr,W.heap[b]? =some (.cells dF row fr)∧dF.size=cells:=by
   unfold World.shape? at hshape
   split at hshape
   ·rename_i c e f hh
    cases hshape
    exact⟨c,f,hh,rfl⟩
   ·cases hshape
  have cj:∀j,j<zs.length→W.cell? ⟨b,off+j,none⟩=some (.int .u8 (zs.getD j 0)):=fun j hj=>by rw [←add_plain];exact hcell j hj
  have cj2:∀j,j<zs.length→dF[off+j]? =some (.int .u8 (zs.getD j 0)):=fun j hj=>by
   have:=cj j hj
   rw [cell_of_heap hb] at this
   exact this
  have hall:off+cap≤cells:=by
   rcases Nat.eq_zero_or_pos cap with h0 | h0
   ·omega
   ·have:=cj2 (cap - 1) (by omega)
    have:=(Array.getElem?_eq_some_iff.1 this).1
    omega
  have hz255:∀z∈zs,0≤z∧z≤255:=fun z hz'=>by
   have h5:=hwz z hz'
   have e1:IntKind.u8.min=0:=rfl
   have e2:IntKind.u8.max=255:=rfl
   simpa [Lit.wf,e1,e2] using h5
  let bs:List UInt8:=(zs.take len).map fun z=>UInt8.ofNat z.toNat
  have hbl:bs.length=len:=by simp [bs];omega
  have hcells:∀(j:Nat) c,(bs.map byV)[j]? =some c→∃v,dF[off+j]? =some v∧aO (mu0 11) W c v:=by
   intro j c hj
   have hj':j<len:=by
        have:=(List.getElem?_eq_some_iff.1 hj).1
        rw [List.length_map,hbl] at this;exact this
   have hzj:zs[j]? =some zs[j]:=List.getElem?_eq_getElem (by omega)
   have h2:=hz255 zs[j] (List.getElem_mem _)
   have hc:c= .i .u8 zs[j]:=by
        simp only [bs,List.map_map,List.getElem?_map,List.getElem?_take,hj',if_true,hzj,Option.map_some,Option.some.injEq,Function.comp] at hj
        rw [←hj]
        simp only [byV,AV.i.injEq,true_and]
        rw [UInt8.toNat_ofNat']
        omega
   refine⟨_,cj2 j (by omega),?_⟩
   rw [hc]
   simp only [aO,List.getD,hzj,Option.getD_some]
  obtain⟨μ',hs',hm',hle⟩:=hst.addRo VG (e:=row) (cs:=bs.map byV) hb (by rw [List.length_map,hbl];omega) hcells
  refine⟨bs,.sl G0.length 1 0 bs.length 1,_,μ',by rw [hbl];unfold maxLen at hm;omega,by rw [List.take_left],?_,hs',.inr ⟨G0.length,1,true,row,rfl,by simp⟩,?_⟩
  ·intro o a ho hr hl'
   rcases Nat.lt_trichotomy o G0.length with hlt | he | hgt
   ·rw [List.getElem?_append_left hlt] at ho;exact VG o a ho hr hl'
   ·subst he;simp at ho;subst ho;cases hr
   ·rw [List.getElem?_eq_none (by simp;omega)] at ho;cases ho
  ·refine⟨b,off,off,cap,row,cells,hm',by rw [hbl],by omega,.inl rfl,hshape,by omega⟩
theorem Fq (os:Os)(started:os.Started)(H:Type)(enc:TypeId×Value→H) :
 ReturnsInHanded {} Tryz.checked os 4 .any (fun w args=>(Rows.parseBlanksSpec.pre enc Tryz.prog Tryz.f4 [] false w args∧laidMetH Tryz.prog Rows.parseBlanksRow.laid w)∧sizedMet enc Tryz.prog Tryz.f4 (OpenSpec.ofChange Rows.parseBlanksSpec) false w args)
  (Rows.parseBlanksSpec.post enc Tryz.prog Tryz.f4 false true false false):=by
 refine tJ (C:=Tryz.checked) (X:=fun w _=>laidMetH Tryz.prog Rows.parseBlanksRow.laid w) (fun _ _ _ hh h=>h.of_heap hh) own started (by kernel_rfl) Tryz.func4
  (ChangeSpec.witness_shaped (enc:=enc) (C:=Tryz.checked) (os:=os) (X:=fun w _=>laidMetH Tryz.prog Rows.parseBlanksRow.laid w) false (World.doorLaid Tryz.prog 400 os) #[.string ⟨#[]⟩,.slice none 0 0] 8 rfl (World.shaped_of_RefB (by kernel_rfl) (by kernel_rfl)) (by kernel_rfl) (by kernel_rfl) (by kernel_rfl) (Ns os _)) ?_
 intro W base args ds gs before hsh hval0 hW hL
 have hval:∀(j:Nat) t v,Tryz.f4.params[j]? =some t→args[j]? =some v→Value.okWide Tryz.prog W .any base t v:=hval0
 have hW':=hW
 obtain⟨p,q,hA0,hV,rfl,hfz,hnd⟩:=hW
 have hA:DataW.TrodAll enc Tryz.prog W 0 (fun _=>true) true Tryz.f4.params.toList args.toList ds p:=hA0
 rw [Tryz.params4] at hA hval
 obtain⟨v0,v1,d0,d1,p0,p1,rfl,rfl,rfl,h0,h1⟩:=trodAll_two hA
 obtain⟨rfl,rfl⟩:=trodVars_none hV
 obtain⟨s,rfl,rfl,rfl,hs⟩:=open_string Tryz.underlying9 (hval 0 9 v0 rfl rfl) h0
 have hv1:=hval 1 31 v1 rfl rfl
 obtain⟨a0,len,cap,rfl⟩:=okWide_slice Tryz.underlying31 hv1
 have h1k:=h1
 obtain⟨fuel,hf⟩:=h1
 have hlt:∀x∈p1,x.block<W.heap.size:=fun x hx=>hW'.lt x (by simp [hx])
 have hargs:∀(W':World),Below W.heap.size W W'→DataW.Trod enc Tryz.prog W' 0 (fun b=>decide (b<W.heap.size)) true 31 (.slice a0 len cap) d1 p1:=
  fun W' hn=>Below.trod laidOut (by kernel_rfl) (of_decide_eq_true (by kernel_rfl)) h1k hn hlt
 obtain⟨bs,vb,xG,μ,hbs,ht,hro,hsim,hbet,RS⟩:=VH hsh (Jb hL) hv1 hf
 have hen:Enters Tryz.prog 4:=g_ Tryz.func4 (by kernel_rfl) (by kernel_rfl)
 refine((QY s.data.toList bs hbs xG ht vb hbet).ev.calls O4 hen hsim (aV:=#[.string s,.slice a0 len cap]) ⟨_,[_],rfl,by simp [aO],_,[],rfl,RS,rfl⟩).mono fun e W' ha=>?_
 obtain⟨r,σ',⟨rfl,rfl⟩,haf⟩:=ha
 obtain⟨v,μ',rfl,hv,hb⟩:=D_ hro haf
 simp only [aO] at hv
 subst hv
 refine⟨_,rfl,_,_,_,[],[] ++ p1,[],hW',?_,?_,rfl,hb.frame _,fun h=>by cases h⟩
 ·exact trodAll_mk1 (shut_bool Tryz.underlying4 true)
 ·exact trodAll_mk2 (shut_string Tryz.underlying9 hs) (hargs _ hb)
theorem Jc:Rows.ParseBlanksSaid:=
 OpenClaim.holds_of_wide 4 Tryz.f4 rfl rfl rfl rfl rfl rfl rfl ⟨rfl,rfl,rfl,rfl,rfl⟩ rfl rfl rfl rfl rfl (by kernel_rfl) Tryz.func4 (by kernel_rfl)
  (of_decide_eq_true (by kernel_rfl)) (by unfold Func.isWrapper;first | (rw [if_pos (by decide +kernel)];kernel_rfl) | (rw [if_neg (by decide +kernel)];exact⟨rfl,rfl⟩))
  (fun os started H enc _=>Fq os started H enc)
theorem blanks_card:Rows.ParseBlanksCardSaid:=
 Claim7.holds_tied_plain_at .later [] Rows.parseBlanksCard.laidKinds true Rows.parseBlanksCard.stood.harness true
  Jc (fun _ h=>by cases h) (by kernel_rfl) (fun _ h=>by cases h) parseBlanks_row_tie rfl ⟨rfl,rfl⟩ (by kernel_rfl) rfl
  (fun f fn hf hfn=>by
   obtain rfl:f=4:=Option.some.inj ((show Tryz.prog.funcNamed "fallow/fallowlaw24.ParseBlanks" =some 4 by kernel_rfl).symm.trans hf) |>.symm
   obtain rfl:fn=Tryz.f4:=(Option.some.inj (Tryz.func4.symm.trans hfn)).symm
   exact⟨by kernel_rfl,fun j t ht=>by
       rw [Tryz.params4] at ht
       have hm:t∈[9,31]:=by simpa using Array.mem_of_getElem? ht
       have hall:([9,31].all fun u=>!Tryz.prog.wantsStandIn u)=true:=by kernel_rfl
       exact(show Tryz.prog.wantsStandIn t=false by simpa using List.all_eq_true.1 hall t hm)⟩)
  (by kernel_rfl)
#print axioms blanks_card
end Go.Proofs.YtjcicgkencfbgaaGreatDoor
