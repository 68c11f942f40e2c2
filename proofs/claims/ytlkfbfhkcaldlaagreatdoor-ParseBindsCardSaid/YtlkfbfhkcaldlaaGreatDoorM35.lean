/- Texts of this claim, joined: Ul, Um. -/
import Derived.Test.YtlkfbfhkcaldlaaGreatDoorM34
set_option linter.unusedVariables false
set_option linter.unusedSimpArgs false
namespace Go.Abs.YtlkfbfhkcaldlaaGreatDoor
open Go.Proofs
set_option maxRecDepth 4000
theorem Ie (f:Fm)(r:List Fm):bn (iF (f :: r))=bn (Nq f) ++ bn (iF r):=by rw [iF,aS]
theorem ZR (f:Fm):1≤(bn (Nq f)).length:=by rw [txF];simp
theorem Na:∀fs:List Fm,fs.length≤(bn (iF fs)).length
 | []=>Nat.zero_le _
 | f :: r=>by
   have h1:=Na r
   have h2:=ZR f
   rw [Ie];simp only [bM,bg];omega
@[reducible] def fnX (v:AV) (o oa ga n:Nat):Env:=put (some 19) (.b false) [(0,v),(4,.p o 0 0),(16,.sl oa ga 0 n 1),(17,.i .i64 n),(18,.i .i64 n)]
section
variable {o A:Nat} {bb:Bool}
theorem pz.kept {S:Nat→Prop} {σ σ':St} {v:AV} {f:Fm} (hS:∀i,S i→i<A∧i≠o)(h:pz S σ v f)(k:jg A o σ σ'):pz S σ' v f:=h.mono (fun _ h=>h) (fun i hi a ha=>by rw [k.low i (hS i hi).1 (hS i hi).2];exact ha)
theorem OX (dw:o<A)(hG:10≤A∧10≤o) {S:Nat→Prop} (hS:∀i,S i→i<A∧i≠o) {op oa ga:Nat} {cs:List AV} (hoa:S oa)(hcl:cs.length≤1000000000):∀(r:List Fm),(∀f∈r,Qq f)→∀(m:Nat) (σ:St) (l:List UInt8),m+r.length=cs.length→
 (∀(i:Nat) f,r[i]? =some f→∃a,cs[m+i]? =some a∧pz S σ a f)→σ[oa]? =some ⟨ga,false,.cells 64 cs⟩→bY A o σ l 0 bb→A≤σ.length→iV σ=true→l.length+(bn (iF r)).length≤1000000000→∀{Q:Out→Env→St→Prop},
 (∀σ',bY A o σ' (l ++ bn (iF r)) 0 bb→jg A o σ σ'→Q (.exit 0) (fnX (.p op 0 0) o oa ga cs.length) σ')→aV X [0,4,16,17,18] c9L0 [(0,.p op 0 0),(4,.p o 0 0),(16,.sl oa ga 0 cs.length 1),(17,.i .i64 cs.length),(18,.i .i64 m)] σ Q:=by
 intro r
 induction r with
 | nil=>
   intro _ m σ l hm _ _ hb _ _ _ Q q
   obtain rfl:m=cs.length:=hm
   refine aV.round ay (lit:=false) ?_
   conv=>whnf
   rw [decide_eq_false (by omega)]
   conv=>whnf
   conv=>whnf
   exact q σ (by simpa [iF,bn] using hb) (.refl _ _ _)
 | cons f r ih=>
   intro hw m σ l hm hel ho hb hA hT hl Q q
   have hxo:=hS oa hoa
   simp only [bg] at hm
   obtain⟨a,ha,hx⟩:=hel 0 f rfl
   obtain⟨ox,rfl⟩:∃ox,a= .p ox 0 0:=by obtain⟨ox,_,_,_,h,_⟩:=hx;exact⟨ox,h⟩
   have ha':cs[0+m*1]? =some (.p ox 0 0):=by rw [Nat.zero_add,Nat.mul_one];exact ha
   rw [Ie] at hl q
   rw [bM] at hl
   refine aV.round ay (lit:=false) ?_
   conv=>whnf
   rw [decide_eq_true (by omega)]
   conv=>whnf
   conv=>whnf
   refine⟨m,rfl,by omega,?_⟩
   conv=>whnf
   refine ak (aj (T:=dY) rfl rfl (ah ho) ha') ?_
   conv=>whnf
   refine M_ dw hG (hw f (List.mem_cons_self ..)) hS hx hb hA hT (by omega) fun σ1 h1 k1=>?_
   have l1:=k1.len
   conv=>whnf
   refine⟨((m+1:Nat):Int),wrap_i64 (by omega) (by omega),?_⟩
   conv=>whnf
   refine ih (fun f hf=>hw f (List.mem_cons_of_mem _ hf)) (m+1) σ1 _ (by omega) (fun i t ht=>?_) ((k1.low oa hxo.1 hxo.2).trans ho) h1 (by omega) (k1.tab hG hT) (by rw [bM];omega) fun σ' h4 k4=>?_
   ·obtain⟨a,h1,h2⟩:=hel (i+1) t (by simpa using ht)
    exact⟨a,by rw [show m+1+i=m+(i+1) by omega];exact h1,h2.kept hS k1⟩
   ·exact q σ' (by simpa [iC] using h4) (k1.trans k4)
theorem WM {d:Nat} {σ:St} {l:List UInt8} (hb:bY A o σ l d bb):au X 21 [.p o 0 0] σ fun v s=>v= .i .i64 l.length∧s=σ:=by
 obtain⟨b0,buf,hob,_,_,hs⟩:=hb
 have hlen:(buf= .sl0∧l=[])∨∃o1 g1,buf= .sl o1 g1 0 l.length 1:=by
  rcases hs with ⟨h1,h2⟩ | ⟨o1,g1,_,h,_⟩
  ·exact .inl ⟨h2,H_ h1⟩
  ·exact .inr ⟨o1,g1,by rw [h,jk]⟩
 rcases hlen with ⟨rfl,rfl⟩ | ⟨o1,g1,rfl⟩
 ·refine au.body (F:=F21) ay (lit:=false) rfl rfl (aU rfl) ?_
  conv=>whnf
  refine ak (aj (T:=YC) rfl rfl (ah (hob)) rfl) ?_
  conv=>whnf
  exact Fin.flat rfl iq ⟨rfl,rfl⟩
 ·refine au.body (F:=F21) ay (lit:=false) rfl rfl (aU rfl) ?_
  conv=>whnf
  refine ak (aj (T:=YC) rfl rfl (ah (hob)) rfl) ?_
  conv=>whnf
  exact Fin.flat rfl iq ⟨rfl,rfl⟩
theorem str_to {d:Nat} {σ:St} {l:List UInt8} (hb:bY A o σ l d bb)(dw:o<A)(hl:l.length≤4294967296):∃σ1,xJ [.p o 0 0] σ=some (.s l,σ1)∧(∀i,i<A→σ1[i]? =σ[i]?)∧σ1.length=σ.length∧∀σ2,Ext σ1 σ2→xJ [.p o 0 0] σ2=some (.s l,σ2):=by
 obtain⟨b0,buf,hob,_,hbn,hs⟩:=hb
 rcases hs with ⟨h1,rfl⟩ | ⟨o1,g1,hA1,rfl,h3⟩
 ·obtain rfl:=H_ h1
  exact⟨σ,by simp only [xJ,hob],fun _ _=>rfl,rfl,fun σ2 x=>by simp only [xJ,x.get hob]⟩
 ·have hn:0<l.length∨l=[]:=by
   cases l with
   | nil=>exact .inr rfl
   | cons=>exact .inl (by simp)
  rcases hn with hn | rfl
  ·have e1:(iM l).take (iM l).length=iM l:=iq
   refine⟨σ.set o1 ⟨g1,false,.froz 5 l⟩,?_,fun i hi=>by rw [rZ (by omega)],by rw [gK],fun σ2 x=>?_⟩
   ·simp only [xJ,hob,h3]
    rw [if_pos ⟨trivial,Nat.le_refl _,by rw [jk];exact hn,by rw [jk];exact hl⟩,e1,wU]
    simp only
    rw [if_pos (AV.nM _)]
   ·have ho2:σ2[o]? =some ⟨0,false,.cells 79 [b0,.sl o1 g1 0 (iM l).length 1,.i .i64 d,.b bb]⟩:=x.get (by rw [rZ (by omega)];exact hob)
    have ho3:σ2[o1]? =some ⟨g1,false,.froz 5 l⟩:=x.get (at_set h3 _)
    simp only [xJ,ho2,ho3]
    rw [if_pos ⟨trivial,(jk l).symm,by rw [jk];exact hn,by rw [jk];exact hl⟩]
  ·exact absurd (hbn rfl) (by intro e;cases e)
end
set_option maxHeartbeats 2000000 in
theorem WO {S:Nat→Prop} {σ:St} {v:AV} {fs:List Fm} (hg:σ.take G0.length=G0)(hv:qo S σ v fs)(hp:Prog fs) {Q:AV→St→Prop}
 (q1:32768<(bn (iF fs)).length→∀σ',Ext σ σ'→Q (.tu [.s [],.i .i64 3]) σ') (q2:(bn (iF fs)).length≤32768→∀σ',Ext σ σ'→Q (.tu [.s (bn (iF fs)),.i .i64 0]) σ') :
 au X 9 [v] σ Q:=by
 have hlen:=hp.len
 have hfl:=Na fs
 have hgl:G0.length=10:=rfl
 have hσ:10≤σ.length:=by
  have:=congrArg List.length hg
  rw [List.length_take,hgl] at this
  omega
 have hv0:=hv
 obtain⟨op,Ap,hsp,rfl,hop,hAp⟩:=hv
 have hlo:=bK hop
 have hopen:∀(σ1:St),Ext σ σ1→σ1.length=σ.length+1→σ1[σ.length]? =some ⟨0,false,.cells 79 [.p0,.sl0,.i .i64 0,.b false]⟩→bY (σ.length+1) σ.length σ1 [] 0 false:=fun σ1 _ _ h=>⟨_,_,h,.inl rfl,fun _=>rfl,.inl ⟨rfl,rfl⟩⟩
 have htab:∀(σ1:St),Ext σ σ1→iV σ1=true:=by
  intro σ1 x
  have hT0:iV G0=true:=by decide +kernel
  unfold iV at hT0 ⊢
  have e1:σ1[5]? =G0[5]? :=by rw [x.old _ (by omega)];exact vC hg (by decide)
  rw [e1];exact hT0
 have behind:∀(σ2:St),bY (σ.length+1) σ.length σ2 (bn (iF fs)) 0 false→(∀i,i<σ.length→σ2[i]? =σ[i]?)→σ.length+1≤σ2.length→Ext σ σ2:=fun σ2 _ h1 h2=>⟨by omega,h1⟩
 have second:(bn (iF fs)).length≤32768→∀(σ2:St),bY (σ.length+1) σ.length σ2 (bn (iF fs)) 0 false→Ext σ σ2→σ.length+1≤σ2.length→∃σ3,xJ [.p σ.length 0 0] σ2=some (.s (bn (iF fs)),σ3)∧Ext σ σ3∧σ.length+1≤σ3.length∧(∃b0 buf,σ3[σ.length]? =some ⟨0,false,.cells 79 [b0,buf,.i .i64 0,.b false]⟩)∧
  (∀{Q2:AV→St→Prop},(∀o' dF,Ext σ3 dF→Ext σ dF→au X 11 [.p op 0 0,.p o' 0 0] dF (fun v s=>v= .b true∧s=dF)→xJ [.p σ.length 0 0] dF=some (.s (bn (iF fs)),dF)→Q2 (.tu [.p o' 0 0,.ic0]) dF)→au X 10 [.s (bn (iF fs))] σ3 Q2):=by
  intro hl σ2 h2 x2 l2
  obtain⟨σ3,e3,hlow,hl3,again⟩:=str_to h2 (Nat.lt_succ_self _) (by omega)
  have x3:Ext σ σ3:=⟨by omega,fun i hi=>by rw [hlow i (by omega)];exact x2.old i hi⟩
  obtain⟨b0,buf,hob,_⟩:=h2
  refine⟨σ3,e3,x3,by omega,⟨b0,buf,by rw [hlow _ (by omega)];exact hob⟩,fun {Q2} q=>?_⟩
  obtain⟨gs,ts,hgs,_,hsame⟩:=OT hp.wf hl
  have hg3:σ3.take G0.length=G0:=by
   have h:=congrArg (List.take G0.length) x3.take
   rw [List.take_take,Nat.min_eq_left (by omega)] at h
   rw [h];exact hg
  refine Jk _ σ3 hg3 Q2 ?_
  rw [hgs]
  intro o' dF x4 hP
  have x04:Ext σ dF:=x3.trans x4
  refine q o' dF x4 x04 ?_ (again dF x4)
  have hs:=same_p (hv0.mono (fun _ h=>h) (fun i _ a ha=>x04.get ha)) hP hp.w (MW hgs)
  rw [hsame] at hs
  exact hs
 have fin1:∀(σ2:St),Ext σ σ2→32768<(bn (iF fs)).length→Fin σ (.tu [.s [],.i .i64 3]) σ2 Q:=fun σ2 x h=>lZ (q1 h σ2 x) fun ht=>q1 h σ (.refl _)
 have fin2:∀(σ2:St),Ext σ σ2→(bn (iF fs)).length≤32768→Fin σ (.tu [.s (bn (iF fs)),.i .i64 0]) σ2 Q:=fun σ2 x h=>lZ (q2 h σ2 x) fun ht=>q2 h σ (.refl _)
 have ofK:∀(σ1 σ2:St),Ext σ σ1→σ1.length=σ.length+1→jg (σ.length+1) σ.length σ1 σ2→Ext σ σ2∧σ.length+1≤σ2.length:=fun σ1 σ2 x l k=>⟨⟨by have:=k.len;omega,fun i hi=>by rw [k.low i (by omega) (by omega)];exact x.old i hi⟩,by have:=k.len;omega⟩
 clear q1 q2
 rcases hAp with ⟨rfl,rfl⟩ | ⟨o2,g2,cs,hs2,rfl,ho2,hE,_⟩
 ·refine au.body (F:=F9) ay (lit:=false) rfl rfl (aU rfl) ?_
  conv=>whnf
  have b1:(newCells 79 (AV.ag [.p0,.sl0,.i .i64 0,.b false]).cells σ)[σ.length]? =some ⟨0,false,.cells 79 [.p0,.sl0,.i .i64 0,.b false]⟩:=aG _ _ _
  have x1:Ext σ (newCells 79 (AV.ag [.p0,.sl0,.i .i64 0,.b false]).cells σ):=(Ext.refl σ).new _ _
  have l1:(newCells 79 (AV.ag [.p0,.sl0,.i .i64 0,.b false]).cells σ).length=σ.length+1:=aH _ _ _
  generalize newCells 79 (AV.ag [.p0,.sl0,.i .i64 0,.b false]).cells σ=σ1 at b1 x1 l1 ⊢
  have hop1:=x1.get hop
  refine ak (aj (T:=ug) rfl rfl (ah (hop1)) rfl) ?_
  conv=>whnf
  refine aV.round ay (lit:=false) ?_
  conv=>whnf
  have h2:=hopen σ1 x1 l1 b1
  refine au.to (WM h2) ?_
  conv=>whnf
  obtain⟨σ3,e3,x3,l3,⟨b0,buf,hw3⟩,hpar⟩:=second (Nat.zero_le _) σ1 h2 x1 (by omega)
  refine au.fM (g:=xJ) rfl e3 ?_
  conv=>whnf
  refine hpar fun o' dF x4 x04 hsame OY=>?_
  have hw4:=x4.get hw3
  conv=>whnf
  refine ak (aj (T:=xH) rfl rfl (ah (hw4)) rfl) ?_
  conv=>whnf
  refine au.to hsame ?_
  conv=>whnf
  refine au.fM (g:=xJ) rfl OY ?_
  conv=>whnf
  exact fin2 dF x04 (Nat.zero_le _)
 ·have hl2:=bK ho2
  obtain⟨hcl,hel⟩:=hE.below.list
  refine au.body (F:=F9) ay (lit:=false) rfl rfl (aU rfl) ?_
  conv=>whnf
  have b1:(newCells 79 (AV.ag [.p0,.sl0,.i .i64 0,.b false]).cells σ)[σ.length]? =some ⟨0,false,.cells 79 [.p0,.sl0,.i .i64 0,.b false]⟩:=aG _ _ _
  have x1:Ext σ (newCells 79 (AV.ag [.p0,.sl0,.i .i64 0,.b false]).cells σ):=(Ext.refl σ).new _ _
  have l1:(newCells 79 (AV.ag [.p0,.sl0,.i .i64 0,.b false]).cells σ).length=σ.length+1:=aH _ _ _
  generalize newCells 79 (AV.ag [.p0,.sl0,.i .i64 0,.b false]).cells σ=σ1 at b1 x1 l1 ⊢
  have hop1:=x1.get hop
  refine ak (aj (T:=ug) rfl rfl (ah (hop1)) rfl) ?_
  conv=>whnf
  refine OX (A:=σ.length+1) (o:=σ.length) (op:=op) (S:=fun i=>S i∧i<σ.length) (Nat.lt_succ_self _) ⟨by omega,by omega⟩ (fun i hi=>⟨by omega,by omega⟩) (oa:=o2) ⟨hs2,hl2⟩ (by omega) fs hp.wf 0 σ1 [] (by omega) (fun i f hf=>?_) (x1.get ho2) (hopen σ1 x1 l1 b1) (by omega) (htab σ1 x1) (by simp only [bZ];omega) fun σ2 h2 k2=>?_
  ·obtain⟨a,q1,q2⟩:=hel i f hf
   exact⟨a,by rw [Nat.zero_add];exact q1,q2.mono (fun _ h=>h) (fun i _ a ha=>x1.get ha)⟩
  rw [List.nil_append] at h2
  obtain⟨x2,l2⟩:=ofK σ1 σ2 x1 l1 k2
  conv=>whnf
  refine au.to (WM h2) ?_
  conv=>whnf
  by_cases hbig:32768<(bn (iF fs)).length
  ·rw [show decide ((32768:Int)<((bn (iF fs)).length:Int))=true from decide_eq_true (by omega)]
   conv=>whnf
   exact fin1 σ2 x2 hbig
  ·rw [show decide ((32768:Int)<((bn (iF fs)).length:Int))=false from decide_eq_false (by omega)]
   conv=>whnf
   obtain⟨σ3,e3,x3,l3,⟨b0,buf,hw3⟩,hpar⟩:=second (by omega) σ2 h2 x2 l2
   refine au.fM (g:=xJ) rfl e3 ?_
   conv=>whnf
   refine hpar fun o' dF x4 x04 hsame OY=>?_
   have hw4:=x4.get hw3
   conv=>whnf
   refine ak (aj (T:=xH) rfl rfl (ah (hw4)) rfl) ?_
   conv=>whnf
   refine au.to hsame ?_
   conv=>whnf
   refine au.fM (g:=xJ) rfl OY ?_
   conv=>whnf
   exact fin2 dF x04 (by omega)
end Go.Abs.YtlkfbfhkcaldlaaGreatDoor
namespace Go.Abs.YtlkfbfhkcaldlaaGreatDoor
open Go.Proofs
set_option maxRecDepth 4000
mutual
theorem zI:∀(t:Tr) (c:Nat),fH (eT t) c=fH t c
 | .nil,c=>rfl
 | .ex k n nm tx l r ar ln,c=>by
   have hN:qM (eT r)=qM r:=by cases r <;> rfl
   have hL:isNil (eT l)=isNil l:=by cases l <;> rfl
   simp only [eT,fH,hN,hL]
   rw [zI l 8,zI r 8,zI r 1,zI l 1,zI r 7,zI l (aF tx),zI r (aF tx+1),pcA_e ar true]
theorem pcA_e:∀(a:jA) (b:Bool),lV (OD a) b=lV a b
 | .nil,b=>rfl
 | .cons t r,b=>by simp only [OD,lV];rw [zI t 1,pcA_e r false]
end
theorem ZT (r:Tr):isNil (eT r)=isNil r:=by cases r <;> rfl
theorem kS_e (s:Sm):kS (eS s)=kS s:=by cases s;rfl
theorem endS_e (s:gY):rW (xZ s)=rW s:=by cases s <;> rfl
mutual
theorem WR:∀(s:Sm) (d:Nat),gu (eS s) d=gu s d
 | .st k nm p l r th el ln,d=>by
   simp only [eS,gu,ZT,zI]
   rw [JB th (d+1),pcEl_e el d]
theorem JB:∀(s:gY) (d:Nat),jo (xZ s) d=jo s d
 | .nil,d=>rfl
 | .cons s r,d=>by simp only [xZ,jo];rw [WR s d,JB r d]
theorem pcEl_e:∀(s:gY) (d:Nat),kL (xZ s) d=kL s d
 | .nil,d=>rfl
 | .cons s r,d=>by simp only [xZ,kL,kS_e,endS_e];rw [WR s d,WR s (d+1),JB r (d+1)]
end
theorem WU:∀fs:List Fm,iF (fs.map eF)=iF fs
 | []=>rfl
 | f :: r=>by
   simp only [List.map_cons,iF]
   rw [WU r]
   simp only [Nq,eF,JB]
   rfl
end Go.Abs.YtlkfbfhkcaldlaaGreatDoor
