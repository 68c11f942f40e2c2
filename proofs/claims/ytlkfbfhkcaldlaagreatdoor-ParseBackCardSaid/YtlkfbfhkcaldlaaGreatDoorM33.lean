/- Texts of this claim, joined: Ul, Um, PBack. -/
import Derived.Test.YtlkfbfhkcaldlaaGreatDoorM32
import Derived.Test.YtlkfbfhkcaldlaaGreatDoorM11
import Derived.Test.YtlkfbfhkcaldlaaGreatDoorCards
import Derived.Test.YtlkfbfhkcaldlaaGreatDoorTie
import Derived.SevenTiedAt
set_option linter.unusedVariables false
set_option linter.unusedSimpArgs false
namespace Go.Abs.YtlkfbfhkcaldlaaGreatDoor
open Go.Proofs
set_option maxRecDepth 4000
theorem AY (f:Fm)(r:List Fm):txP (pcFs (f :: r))=txP (pcF f) ++ txP (pcFs r):=by rw [pcFs,txP_app]
theorem Sj (f:Fm):1≤(txP (pcF f)).length:=by rw [txF];simp
theorem E_:∀fs:List Fm,fs.length≤(txP (pcFs fs)).length
 | []=>Nat.zero_le _
 | f :: r=>by
   have h1:=E_ r
   have h2:=Sj f
   rw [AY];simp only [List.length_append,List.length_cons];omega
@[reducible] def fnX (v:AV) (o oa ga n:Nat):Env:=put (some 19) (.b false) [(0,v),(4,.p o 0 0),(16,.sl oa ga 0 n 1),(17,.i .i64 n),(18,.i .i64 n)]
section
variable {o A:Nat} {bb:Bool}
theorem kK.kept {S:Nat→Prop} {σ σ':St} {v:AV} {f:Fm} (hS:∀i,S i→i<A∧i≠o)(h:kK S σ v f)(k:fP A o σ σ'):kK S σ' v f:=h.mono (fun _ h=>h) (fun i hi a ha=>by rw [k.low i (hS i hi).1 (hS i hi).2];exact ha)
theorem G9 (bP:o<A)(hG:10≤A∧10≤o) {S:Nat→Prop} (hS:∀i,S i→i<A∧i≠o) {op oa ga:Nat} {cs:List AV} (hoa:S oa)(hcl:cs.length≤1000000000):∀(r:List Fm),(∀f∈r,WFm f)→∀(m:Nat) (σ:St) (l:List UInt8),m+r.length=cs.length→
 (∀(i:Nat) f,r[i]? =some f→∃a,cs[m+i]? =some a∧kK S σ a f)→σ[oa]? =some ⟨ga,false,.cells 64 cs⟩→bI A o σ l 0 bb→A≤σ.length→fJ σ=true→l.length+(txP (pcFs r)).length≤1000000000→∀{Q:Out→Env→St→Prop},
 (∀σ',bI A o σ' (l ++ txP (pcFs r)) 0 bb→fP A o σ σ'→Q (.exit 0) (fnX (.p op 0 0) o oa ga cs.length) σ')→aS X [0,4,16,17,18] WE [(0,.p op 0 0),(4,.p o 0 0),(16,.sl oa ga 0 cs.length 1),(17,.i .i64 cs.length),(18,.i .i64 m)] σ Q:=by
 intro r
 induction r with
 | nil=>
   intro _ m σ l hm _ _ hb _ _ _ Q q
   obtain rfl:m=cs.length:=hm
   refine aS.round aC (lit:=false) ?_
   conv=>whnf
   rw [decide_eq_false (by omega)]
   conv=>whnf
   conv=>whnf
   exact q σ (by simpa [pcFs,txP] using hb) (.refl _ _ _)
 | cons f r ih=>
   intro hw m σ l hm hel ho hb hA hT hl Q q
   have hxo:=hS oa hoa
   simp only [List.length_cons] at hm
   obtain⟨a,ha,hx⟩:=hel 0 f rfl
   obtain⟨ox,rfl⟩:∃ox,a= .p ox 0 0:=by obtain⟨ox,_,_,_,h,_⟩:=hx;exact⟨ox,h⟩
   have ha':cs[0+m*1]? =some (.p ox 0 0):=by rw [Nat.zero_add,Nat.mul_one];exact ha
   rw [AY] at hl q
   rw [List.length_append] at hl
   refine aS.round aC (lit:=false) ?_
   conv=>whnf
   rw [decide_eq_true (by omega)]
   conv=>whnf
   conv=>whnf
   refine⟨m,rfl,by omega,?_⟩
   conv=>whnf
   refine ak (aj (T:=dD) rfl rfl (ah ho) ha') ?_
   conv=>whnf
   refine E8 bP hG (hw f (List.mem_cons_self ..)) hS hx hb hA hT (by omega) fun σ1 h1 k1=>?_
   have l1:=k1.len
   conv=>whnf
   refine⟨((m+1:Nat):Int),wrap_i64 (by omega) (by omega),?_⟩
   conv=>whnf
   refine ih (fun f hf=>hw f (List.mem_cons_of_mem _ hf)) (m+1) σ1 _ (by omega) (fun i t ht=>?_) ((k1.low oa hxo.1 hxo.2).trans ho) h1 (by omega) (k1.tab hG hT) (by rw [List.length_append];omega) fun σ' h4 k4=>?_
   ·obtain⟨a,h1,h2⟩:=hel (i+1) t (by simpa using ht)
    exact⟨a,by rw [show m+1+i=m+(i+1) by omega];exact h1,h2.kept hS k1⟩
   ·exact q σ' (by simpa [List.append_assoc] using h4) (k1.trans k4)
theorem OT {d:Nat} {σ:St} {l:List UInt8} (hb:bI A o σ l d bb):ay X 21 [.p o 0 0] σ fun v s=>v= .i .i64 l.length∧s=σ:=by
 obtain⟨b0,buf,hob,_,_,hs⟩:=hb
 have hlen:(buf= .sl0∧l=[])∨∃o1 g1,buf= .sl o1 g1 0 l.length 1:=by
  rcases hs with ⟨h1,h2⟩ | ⟨o1,g1,_,h,_⟩
  ·exact .inl ⟨h2,AP h1⟩
  ·exact .inr ⟨o1,g1,by rw [h,fZ]⟩
 rcases hlen with ⟨rfl,rfl⟩ | ⟨o1,g1,rfl⟩
 ·refine ay.body (F:=F21) aC (lit:=false) rfl rfl (Nat.le_of_ble_eq_true rfl) ?_
  conv=>whnf
  refine ak (aj (T:=QA) rfl rfl (ah (hob)) rfl) ?_
  conv=>whnf
  exact Fin.flat rfl List.take_length ⟨rfl,rfl⟩
 ·refine ay.body (F:=F21) aC (lit:=false) rfl rfl (Nat.le_of_ble_eq_true rfl) ?_
  conv=>whnf
  refine ak (aj (T:=QA) rfl rfl (ah (hob)) rfl) ?_
  conv=>whnf
  exact Fin.flat rfl List.take_length ⟨rfl,rfl⟩
theorem VI {d:Nat} {σ:St} {l:List UInt8} (hb:bI A o σ l d bb)(bP:o<A)(hl:l.length≤4294967296):∃σ1,qj [.p o 0 0] σ=some (.s l,σ1)∧(∀i,i<A→σ1[i]? =σ[i]?)∧σ1.length=σ.length∧∀σ2,Ext σ1 σ2→qj [.p o 0 0] σ2=some (.s l,σ2):=by
 obtain⟨b0,buf,hob,_,hbn,hs⟩:=hb
 rcases hs with ⟨h1,rfl⟩ | ⟨o1,g1,hA1,rfl,h3⟩
 ·obtain rfl:=AP h1
  exact⟨σ,by simp only [qj,hob],fun _ _=>rfl,rfl,fun σ2 x=>by simp only [qj,x.get hob]⟩
 ·have hn:0<l.length∨l=[]:=by
   cases l with
   | nil=>exact .inr rfl
   | cons=>exact .inl (by simp)
  rcases hn with hn | rfl
  ·have e1:(fE l).take (fE l).length=fE l:=List.take_length
   refine⟨σ.set o1 ⟨g1,false,.qy 5 l⟩,?_,fun i hi=>by rw [List.getElem?_set_ne (by omega)],by rw [List.length_set],fun σ2 x=>?_⟩
   ·simp only [qj,hob,h3]
    rw [if_pos ⟨trivial,Nat.le_refl _,by rw [fZ];exact hn,by rw [fZ];exact hl⟩,e1,pz]
    simp only
    rw [if_pos (AV.jJ _)]
   ·have ho2:σ2[o]? =some ⟨0,false,.cells 79 [b0,.sl o1 g1 0 (fE l).length 1,.i .i64 d,.b bb]⟩:=x.get (by rw [List.getElem?_set_ne (by omega)];exact hob)
    have ho3:σ2[o1]? =some ⟨g1,false,.qy 5 l⟩:=x.get (at_set h3 _)
    simp only [qj,ho2,ho3]
    rw [if_pos ⟨trivial,(fZ l).symm,by rw [fZ];exact hn,by rw [fZ];exact hl⟩]
  ·exact absurd (hbn rfl) (by intro e;cases e)
end
set_option maxHeartbeats 2000000 in
theorem Fa {S:Nat→Prop} {σ:St} {v:AV} {fs:List Fm} (hg:σ.take G0.length=G0)(hv:lq S σ v fs)(hp:Prog fs) {Q:AV→St→Prop}
 (q1:32768<(txP (pcFs fs)).length→∀σ',Ext σ σ'→Q (.tu [.s [],.i .i64 3]) σ') (q2:(txP (pcFs fs)).length≤32768→∀σ',Ext σ σ'→Q (.tu [.s (txP (pcFs fs)),.i .i64 0]) σ') :
 ay X 9 [v] σ Q:=by
 have hlen:=hp.len
 have hfl:=E_ fs
 have hgl:G0.length=10:=rfl
 have hσ:10≤σ.length:=by
  have:=congrArg List.length hg
  rw [List.length_take,hgl] at this
  omega
 have hv0:=hv
 obtain⟨op,Ap,hsp,rfl,hop,hAp⟩:=hv
 have hlo:=bn hop
 have hopen:∀(σ1:St),Ext σ σ1→σ1.length=σ.length+1→σ1[σ.length]? =some ⟨0,false,.cells 79 [.p0,.sl0,.i .i64 0,.b false]⟩→bI (σ.length+1) σ.length σ1 [] 0 false:=fun σ1 _ _ h=>⟨_,_,h,.inl rfl,fun _=>rfl,.inl ⟨rfl,rfl⟩⟩
 have htab:∀(σ1:St),Ext σ σ1→fJ σ1=true:=by
  intro σ1 x
  have hT0:fJ G0=true:=by decide +kernel
  unfold fJ at hT0 ⊢
  have e1:σ1[5]? =G0[5]? :=by rw [x.old _ (by omega)];exact oG hg (by decide)
  rw [e1];exact hT0
 have behind:∀(σ2:St),bI (σ.length+1) σ.length σ2 (txP (pcFs fs)) 0 false→(∀i,i<σ.length→σ2[i]? =σ[i]?)→σ.length+1≤σ2.length→Ext σ σ2:=fun σ2 _ h1 h2=>⟨by omega,h1⟩
 have second:(txP (pcFs fs)).length≤32768→∀(σ2:St),bI (σ.length+1) σ.length σ2 (txP (pcFs fs)) 0 false→Ext σ σ2→σ.length+1≤σ2.length→∃σ3,qj [.p σ.length 0 0] σ2=some (.s (txP (pcFs fs)),σ3)∧Ext σ σ3∧σ.length+1≤σ3.length∧(∃b0 buf,σ3[σ.length]? =some ⟨0,false,.cells 79 [b0,buf,.i .i64 0,.b false]⟩)∧
  (∀{Q2:AV→St→Prop},(∀o' bW,Ext σ3 bW→Ext σ bW→ay X 11 [.p op 0 0,.p o' 0 0] bW (fun v s=>v= .b true∧s=bW)→qj [.p σ.length 0 0] bW=some (.s (txP (pcFs fs)),bW)→Q2 (.tu [.p o' 0 0,.eu]) bW)→ay X 10 [.s (txP (pcFs fs))] σ3 Q2):=by
  intro hl σ2 h2 x2 l2
  obtain⟨σ3,e3,hlow,hl3,again⟩:=VI h2 (Nat.lt_succ_self _) (by omega)
  have x3:Ext σ σ3:=⟨by omega,fun i hi=>by rw [hlow i (by omega)];exact x2.old i hi⟩
  obtain⟨b0,buf,hob,_⟩:=h2
  refine⟨σ3,e3,x3,by omega,⟨b0,buf,by rw [hlow _ (by omega)];exact hob⟩,fun {Q2} q=>?_⟩
  obtain⟨gs,ts,hgs,_,hsame⟩:=yJ hp.wf hl
  have hg3:σ3.take G0.length=G0:=by
   have h:=congrArg (List.take G0.length) x3.take
   rw [List.take_take,Nat.min_eq_left (by omega)] at h
   rw [h];exact hg
  refine Cm _ σ3 hg3 Q2 ?_
  rw [hgs]
  intro o' bW x4 hP
  have Wh:Ext σ bW:=x3.trans x4
  refine q o' bW x4 Wh ?_ (again bW x4)
  have hs:=Oz (hv0.mono (fun _ h=>h) (fun i _ a ha=>Wh.get ha)) hP hp.w (EY hgs)
  rw [hsame] at hs
  exact hs
 have fin1:∀(σ2:St),Ext σ σ2→32768<(txP (pcFs fs)).length→Fin σ (.tu [.s [],.i .i64 3]) σ2 Q:=fun σ2 x h=>iY (q1 h σ2 x) fun ht=>q1 h σ (.refl _)
 have fin2:∀(σ2:St),Ext σ σ2→(txP (pcFs fs)).length≤32768→Fin σ (.tu [.s (txP (pcFs fs)),.i .i64 0]) σ2 Q:=fun σ2 x h=>iY (q2 h σ2 x) fun ht=>q2 h σ (.refl _)
 have ofK:∀(σ1 σ2:St),Ext σ σ1→σ1.length=σ.length+1→fP (σ.length+1) σ.length σ1 σ2→Ext σ σ2∧σ.length+1≤σ2.length:=fun σ1 σ2 x l k=>⟨⟨by have:=k.len;omega,fun i hi=>by rw [k.low i (by omega) (by omega)];exact x.old i hi⟩,by have:=k.len;omega⟩
 clear q1 q2
 rcases hAp with ⟨rfl,rfl⟩ | ⟨o2,g2,cs,hs2,rfl,ho2,hE,_⟩
 ·refine ay.body (F:=F9) aC (lit:=false) rfl rfl (Nat.le_of_ble_eq_true rfl) ?_
  conv=>whnf
  have b1:(au 79 (AV.ag [.p0,.sl0,.i .i64 0,.b false]).cells σ)[σ.length]? =some ⟨0,false,.cells 79 [.p0,.sl0,.i .i64 0,.b false]⟩:=aH _ _ _
  have x1:Ext σ (au 79 (AV.ag [.p0,.sl0,.i .i64 0,.b false]).cells σ):=(Ext.refl σ).new _ _
  have l1:(au 79 (AV.ag [.p0,.sl0,.i .i64 0,.b false]).cells σ).length=σ.length+1:=aI _ _ _
  generalize au 79 (AV.ag [.p0,.sl0,.i .i64 0,.b false]).cells σ=σ1 at b1 x1 l1 ⊢
  have hop1:=x1.get hop
  refine ak (aj (T:=tq) rfl rfl (ah (hop1)) rfl) ?_
  conv=>whnf
  refine aS.round aC (lit:=false) ?_
  conv=>whnf
  have h2:=hopen σ1 x1 l1 b1
  refine ay.to (OT h2) ?_
  conv=>whnf
  obtain⟨σ3,e3,x3,l3,⟨b0,buf,hw3⟩,hpar⟩:=second (Nat.zero_le _) σ1 h2 x1 (by omega)
  refine ay.prim (g:=qj) rfl e3 ?_
  conv=>whnf
  refine hpar fun o' bW x4 Wh hsame G_=>?_
  have hw4:=x4.get hw3
  conv=>whnf
  refine ak (aj (T:=qg) rfl rfl (ah (hw4)) rfl) ?_
  conv=>whnf
  refine ay.to hsame ?_
  conv=>whnf
  refine ay.prim (g:=qj) rfl G_ ?_
  conv=>whnf
  exact fin2 bW Wh (Nat.zero_le _)
 ·have hl2:=bn ho2
  obtain⟨hcl,hel⟩:=hE.below.list
  refine ay.body (F:=F9) aC (lit:=false) rfl rfl (Nat.le_of_ble_eq_true rfl) ?_
  conv=>whnf
  have b1:(au 79 (AV.ag [.p0,.sl0,.i .i64 0,.b false]).cells σ)[σ.length]? =some ⟨0,false,.cells 79 [.p0,.sl0,.i .i64 0,.b false]⟩:=aH _ _ _
  have x1:Ext σ (au 79 (AV.ag [.p0,.sl0,.i .i64 0,.b false]).cells σ):=(Ext.refl σ).new _ _
  have l1:(au 79 (AV.ag [.p0,.sl0,.i .i64 0,.b false]).cells σ).length=σ.length+1:=aI _ _ _
  generalize au 79 (AV.ag [.p0,.sl0,.i .i64 0,.b false]).cells σ=σ1 at b1 x1 l1 ⊢
  have hop1:=x1.get hop
  refine ak (aj (T:=tq) rfl rfl (ah (hop1)) rfl) ?_
  conv=>whnf
  refine G9 (A:=σ.length+1) (o:=σ.length) (op:=op) (S:=fun i=>S i∧i<σ.length) (Nat.lt_succ_self _) ⟨by omega,by omega⟩ (fun i hi=>⟨by omega,by omega⟩) (oa:=o2) ⟨hs2,hl2⟩ (by omega) fs hp.wf 0 σ1 [] (by omega) (fun i f hf=>?_) (x1.get ho2) (hopen σ1 x1 l1 b1) (by omega) (htab σ1 x1) (by simp only [List.length_nil];omega) fun σ2 h2 k2=>?_
  ·obtain⟨a,q1,q2⟩:=hel i f hf
   exact⟨a,by rw [Nat.zero_add];exact q1,q2.mono (fun _ h=>h) (fun i _ a ha=>x1.get ha)⟩
  rw [List.nil_append] at h2
  obtain⟨x2,l2⟩:=ofK σ1 σ2 x1 l1 k2
  conv=>whnf
  refine ay.to (OT h2) ?_
  conv=>whnf
  by_cases hbig:32768<(txP (pcFs fs)).length
  ·rw [show decide ((32768:Int)<((txP (pcFs fs)).length:Int))=true from decide_eq_true (by omega)]
   conv=>whnf
   exact fin1 σ2 x2 hbig
  ·rw [show decide ((32768:Int)<((txP (pcFs fs)).length:Int))=false from decide_eq_false (by omega)]
   conv=>whnf
   obtain⟨σ3,e3,x3,l3,⟨b0,buf,hw3⟩,hpar⟩:=second (by omega) σ2 h2 x2 l2
   refine ay.prim (g:=qj) rfl e3 ?_
   conv=>whnf
   refine hpar fun o' bW x4 Wh hsame G_=>?_
   have hw4:=x4.get hw3
   conv=>whnf
   refine ak (aj (T:=qg) rfl rfl (ah (hw4)) rfl) ?_
   conv=>whnf
   refine ay.to hsame ?_
   conv=>whnf
   refine ay.prim (g:=qj) rfl G_ ?_
   conv=>whnf
   exact fin2 bW Wh (by omega)
end Go.Abs.YtlkfbfhkcaldlaaGreatDoor
namespace Go.Abs.YtlkfbfhkcaldlaaGreatDoor
open Go.Proofs
set_option maxRecDepth 4000
mutual
theorem rW:∀(t:Tr) (c:Nat),pcE (eT t) c=pcE t c
 | .nil,c=>rfl
 | .ex k n nm tx l r ar ln,c=>by
   have hN:isNN (eT r)=isNN r:=by cases r <;> rfl
   have hL:isNil (eT l)=isNil l:=by cases l <;> rfl
   simp only [eT,pcE,hN,hL]
   rw [rW l 8,rW r 8,rW r 1,rW l 1,rW r 7,rW l (bindsP tx),rW r (bindsP tx+1),Tz ar true]
theorem Tz:∀(a:Trs) (b:Bool),pcAs (eTs a) b=pcAs a b
 | .nil,b=>rfl
 | .cons t r,b=>by simp only [eTs,pcAs];rw [rW t 1,Tz r false]
end
theorem Sl (r:Tr):isNil (eT r)=isNil r:=by cases r <;> rfl
theorem kS_e (s:Sm):kS (eS s)=kS s:=by cases s;rfl
theorem VJ (s:Sms):endS (eSs s)=endS s:=by cases s <;> rfl
mutual
theorem OU:∀(s:Sm) (d:Nat),pcS (eS s) d=pcS s d
 | .st k nm p l r th el ln,d=>by
   simp only [eS,pcS,Sl,rW]
   rw [CQ th (d+1),VK el d]
theorem CQ:∀(s:Sms) (d:Nat),pcSs (eSs s) d=pcSs s d
 | .nil,d=>rfl
 | .cons s r,d=>by simp only [eSs,pcSs];rw [OU s d,CQ r d]
theorem VK:∀(s:Sms) (d:Nat),pcEl (eSs s) d=pcEl s d
 | .nil,d=>rfl
 | .cons s r,d=>by simp only [eSs,pcEl,kS_e,VJ];rw [OU s d,OU s (d+1),CQ r (d+1)]
end
theorem He:∀fs:List Fm,pcFs (fs.map eF)=pcFs fs
 | []=>rfl
 | f :: r=>by
   simp only [List.map_cons,pcFs]
   rw [He r]
   simp only [pcF,eF,CQ]
   rfl
theorem Sr (t:List UInt8)(σ:St)(hg:σ.take G0.length=G0):ay X 4 [.s t] σ fun v s=>v= .b true∧s=σ:=by
 refine ay.body (F:=F4) aC (lit:=false) rfl rfl (Nat.le_of_ble_eq_true rfl) ?_
 conv=>whnf
 refine NG σ hg ?_
 conv=>whnf
 refine Cm t σ hg _ ?_
 cases hr:jy t with
 | out=>trivial
 | bad c l=>
   intro o1 g1 σ2 x2 hf1
   conv=>whnf
   exact Fin.flat rfl x2.take ⟨rfl,rfl⟩
 | ok fs ts=>
   intro o1 σ2 x2 hp1
   have hp:=IV hr
   conv=>whnf
   refine Fa (jX x2 hg) hp1 hp (fun hbig σ3 x3=>?_) (fun hsm σ3 x3=>?_)
   ·conv=>whnf
    exact Fin.flat rfl (x2.trans x3).take ⟨rfl,rfl⟩
   ·obtain⟨gs,us,hgs,he,hsame⟩:=yJ hp.wf hsm
    have hTT:txP (pcFs gs)=txP (pcFs fs):=by rw [←He gs,he,He]
    have hp':=IV hgs
    conv=>whnf
    refine Cm _ σ3 (jX (x2.trans x3) hg) _ ?_
    rw [hgs]
    intro o2 bW x4 hp2
    conv=>whnf
    refine ay.to (Oz (hp1.mono (fun i hi=>hi) (fun i hi a ha=>(x3.trans x4).get ha)) hp2 hp.w hp'.w) ?_
    rw [hsame]
    conv=>whnf
    refine Fa (jX ((x2.trans x3).trans x4) hg) hp2 hp' (fun hbig=>absurd hbig (by rw [hTT];omega)) (fun _ dL x5=>?_)
    rw [hTT]
    conv=>whnf
    rw [beq_self_eq_true (txP (pcFs fs))]
    conv=>whnf
    exact Fin.flat rfl (((x2.trans x3).trans x4).trans x5).take ⟨rfl,rfl⟩
end Go.Abs.YtlkfbfhkcaldlaaGreatDoor
namespace Go.Proofs.YtlkfbfhkcaldlaaGreatDoor
open Go Go.ChangeShapes Go.WideShapes Go.ChangeAt Go.ChangeMaps Go.RowKit Go.Abs Go.Abs.YtlkfbfhkcaldlaaGreatDoor
set_option maxRecDepth 100000
theorem Hf {W:World} (h:laidMetH Tryz.prog Rows.parseBackRow.laid W):Start W:=by
 have h':laidMet Tryz.prog [("math/bits.deBruijn32tab",Rows.laid_math_bits_deBruijn32tab),("math/bits.deBruijn64tab",Rows.laid_math_bits_deBruijn64tab),("internal/strconv.uint64pow10",Rows.laid_internal_strconv_uint64pow10),("strconv.ErrRange",Rows.laid_strconv_ErrRange),("strconv.ErrSyntax",Rows.laid_strconv_ErrSyntax),("unicode.White_Space",Rows.laid_unicode_White_Space),("strings.asciiSpace",Rows.laid_strings_asciiSpace)] W:=h
 exact Nh h' (by simp) (by simp) (by simp)
theorem str_eq (s:ByteArray):(⟨s.data.toList.toArray⟩:ByteArray)=s:=by cases s;rfl
theorem Fb (os:Os)(started:os.Started)(H:Type)(enc:TypeId×Value→H) :
 ReturnsInHanded {} Tryz.checked os 4 .any (fun w args=>(Rows.parseBackSpec.pre enc Tryz.prog Tryz.f4 [] false w args∧laidMetH Tryz.prog Rows.parseBackRow.laid w)∧sizedMet enc Tryz.prog Tryz.f4 (OpenSpec.ofChange Rows.parseBackSpec) false w args)
  (Rows.parseBackSpec.post enc Tryz.prog Tryz.f4 false true false false):=by
 refine xX (C:=Tryz.checked) (X:=fun w _=>laidMetH Tryz.prog Rows.parseBackRow.laid w) (fun _ _ _ hh h=>h.of_heap hh) own started (by kernel_rfl) Tryz.func4
  (ChangeSpec.witness_shaped (enc:=enc) (C:=Tryz.checked) (os:=os) (X:=fun w _=>laidMetH Tryz.prog Rows.parseBackRow.laid w) false (World.doorLaid Tryz.prog 400 os) #[.string ⟨#[]⟩] 8 rfl (World.shaped_of_RefB (by kernel_rfl) (by kernel_rfl)) (by kernel_rfl) (by kernel_rfl) (by kernel_rfl) (Nj os _)) ?_
 intro W base args ds gs before hsh hval0 hW hL
 have hval:∀(j:Nat) t v,Tryz.f4.params[j]? =some t→args[j]? =some v→Value.okWide Tryz.prog W .any base t v:=hval0
 have hW':=hW
 obtain⟨p,q,hA0,hV,rfl,hfz,hnd⟩:=hW
 have hA:DataW.TrodAll enc Tryz.prog W 0 (fun _=>true) true Tryz.f4.params.toList args.toList ds p:=hA0
 rw [Tryz.params4] at hA hval
 obtain⟨v0,d0,rfl,rfl,h0⟩:=trodAll_one hA
 obtain⟨rfl,rfl⟩:=trodVars_none hV
 obtain⟨s,rfl,rfl,rfl,hs⟩:=open_string Tryz.underlying9 (hval 0 9 v0 rfl rfl) h0
 have hst:=JC hsh (Hf hL)
 have hen:Enters Tryz.prog 4:=fU Tryz.func4 (by kernel_rfl) (by kernel_rfl)
 refine((Sr s.data.toList G0 rfl).ev.calls QY hen hst (aP:=#[.string s]) ⟨_,[],rfl,by simp [aJ],rfl⟩).mono fun e W' ha=>?_
 obtain⟨r,σ',⟨rfl,rfl⟩,haf⟩:=ha
 obtain⟨v,μ',rfl,hv,hb⟩:=Ec Jv haf
 simp only [aJ] at hv
 subst hv
 refine⟨_,rfl,_,_,_,[],[],[],hW',?_,?_,rfl,hb.frame _,fun h=>by cases h⟩
 ·exact trodAll_mk1 (shut_bool Tryz.underlying4 true)
 ·exact trodAll_mk1 (shut_string Tryz.underlying9 hs)
theorem Hg:Rows.ParseBackSaid:=
 OpenClaim.holds_of_wide 4 Tryz.f4 rfl rfl rfl rfl rfl rfl rfl ⟨rfl,rfl,rfl,rfl,rfl⟩ rfl rfl rfl rfl rfl (by kernel_rfl) Tryz.func4 (by kernel_rfl)
  (of_decide_eq_true (by kernel_rfl)) (by unfold Func.isWrapper;first | (rw [if_pos (by decide +kernel)];kernel_rfl) | (rw [if_neg (by decide +kernel)];exact⟨rfl,rfl⟩))
  (fun os started H enc _=>Fb os started H enc)
theorem back_card:Rows.ParseBackCardSaid:=
 Claim7.holds_tied_plain_at .later [] Rows.parseBackCard.laidKinds true Rows.parseBackCard.stood.harness true
  Hg (fun _ h=>by cases h) (by kernel_rfl) (fun _ h=>by cases h) parseBack_row_tie rfl ⟨rfl,rfl⟩ (by kernel_rfl) rfl
  (fun f fn hf hfn=>by
   obtain rfl:f=4:=Option.some.inj ((show Tryz.prog.funcNamed "fallow/fallowlaw24.ParseBack" =some 4 by kernel_rfl).symm.trans hf) |>.symm
   obtain rfl:fn=Tryz.f4:=(Option.some.inj (Tryz.func4.symm.trans hfn)).symm
   exact⟨by kernel_rfl,fun j t ht=>by
       rw [Tryz.params4] at ht
       have hm:t∈[9]:=by simpa using Array.mem_of_getElem? ht
       have hall:([9].all fun u=>!Tryz.prog.wantsStandIn u)=true:=by kernel_rfl
       exact(show Tryz.prog.wantsStandIn t=false by simpa using List.all_eq_true.1 hall t hm)⟩)
  (by kernel_rfl)
#print axioms back_card
end Go.Proofs.YtlkfbfhkcaldlaaGreatDoor
