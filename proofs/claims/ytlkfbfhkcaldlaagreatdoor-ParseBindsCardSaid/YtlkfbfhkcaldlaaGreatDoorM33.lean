/- Texts of this claim, joined: Uh, Ui. -/
import Derived.Test.YtlkfbfhkcaldlaaGreatDoorM32
set_option linter.unusedVariables false
set_option linter.unusedSimpArgs false
namespace Go.Abs.YtlkfbfhkcaldlaaGreatDoor
open Go.Proofs
set_option maxRecDepth 4000
theorem QD (d:Nat):∀l:List Sm,l.length≤(QC d l).length
 | []=>Nat.zero_le _
 | s :: r=>by
   have:=QD d r
   simp only [QC,bM,bg,bZ];omega
theorem QE:∀(l:gY) (i:Nat) (s:Sm),(jy l)[i]? =some s→dS s≤Cb l
 | .nil,i,s,h=>by simp [jy] at h
 | .cons a r,0,s,h=>by simp only [jy,List.getElem?_cons_zero,oW] at h;subst h;simp only [Cb];omega
 | .cons a r,i+1,s,h=>by
   have:=QE r i s (by simpa [jy] using h)
   simp only [Cb];omega
theorem dEl_no (s:Sm)(r:gY)(h:¬(rW r=true∧kS s=4)):Qp (.cons s r)=1+max (dS s) (Cb r):=by
 simp only [Qp];exact if_neg h
def Fp (b:gY)(d:Nat):List UInt8:=bn (qp ++ jo b (d+1) ++ oQ d)
theorem ZK (b:gY)(d:Nat):(jy b).length≤(Fp b d).length:=by
 have:=QD (d+1) (jy b)
 unfold Fp
 rw [aS,aS,txSs];simp only [bM];omega
theorem tx_1 (nm:List UInt8)(p:Bool)(r:Tr)(ln d:Nat):bn (gu (.st 1 nm p .nil r .nil .nil ln) d)=[118,97,114,32] ++ nm ++ (if p=true then [32,112,116,114] else []) ++ (if isNil r=true then [59] else [32,61,32] ++ lF r 1 ++ [59]):=by
 cases p <;> by_cases h:isNil r=true <;> simp [gu,aS,bn,h,JK,Qr,Et,dA]
theorem tx_2 (nm:List UInt8)(r:Tr)(ln d:Nat):bn (gu (.st 2 nm false .nil r .nil .nil ln) d)=nm ++ [32,61,32] ++ lF r 1 ++ [59]:=by simp [gu,aS,bn,JK,Qr]
theorem tx_3 (l r:Tr)(ln d:Nat):bn (gu (.st 3 [] false l r .nil .nil ln) d)=lF l 8 ++ ([32,61,32] ++ lF r 1 ++ [59]):=by simp [gu,aS,bn,JK,Qr]
theorem tx_4 (r:Tr)(th el:gY)(ln d:Nat):bn (gu (.st 4 [] false .nil r th el ln) d)=[105,102,32] ++ lF r 1 ++ Fp th d ++ bn (kL el d):=by simp [gu,Fp,aS,bn,JK,I7]
theorem tx_5 (r:Tr)(th:gY)(ln d:Nat):bn (gu (.st 5 [] false .nil r th .nil ln) d)=[119,104,105,108,101,32] ++ lF r 1 ++ Fp th d:=by simp [gu,Fp,aS,bn,JK,ql]
theorem tx_6 (r:Tr)(ln d:Nat):bn (gu (.st 6 [] false .nil r .nil .nil ln) d)=[111,117,116,32] ++ lF r 1 ++ [59]:=by simp [gu,aS,bn,JK,Eu]
theorem tx_7 (r:Tr)(ln d:Nat):bn (gu (.st 7 [] false .nil r .nil .nil ln) d)=[102,114,101,101,32] ++ lF r 1 ++ [59]:=by simp [gu,aS,bn,JK,uy]
theorem tx_8 (ln d:Nat):bn (gu (.st 8 [] false .nil .nil .nil .nil ln) d)=[100,114,97,105,110,59]:=by simp [gu,bn,oH]
theorem tx_9 (r:Tr)(ln d:Nat):bn (gu (.st 9 [] false .nil r .nil .nil ln) d)=if isNil r=true then [114,101,116,117,114,110,59] else [114,101,116,117,114,110,32] ++ lF r 1 ++ [59]:=by
 by_cases h:isNil r=true <;> simp [gu,aS,bn,JK,fD,h]
theorem tx_10 (r:Tr)(ln d:Nat):bn (gu (.st 10 [] false .nil r .nil .nil ln) d)=[] ++ lF r 1 ++ [59]:=by simp [gu,aS,bn,JK]
theorem tx_el0 (d:Nat):bn (kL .nil d)=[]:=by simp [kL,bn]
theorem ZL (s:Sm)(r:gY)(d:Nat)(h:rW r=true∧kS s=4):bn (kL (.cons s r) d)=[32,101,108,115,101,32] ++ bn (gu s d):=by simp [kL,h.1,h.2,bn,jJ]
theorem ZM (s:Sm)(r:gY)(d:Nat)(h:¬(rW r=true∧kS s=4)):bn (kL (.cons s r) d)=[32,101,108,115,101] ++ Fp (.cons s r) d:=by simp [kL,h,Fp,jo,aS,bn,jJ]
section
variable {o A:Nat} {bb:Bool}
abbrev SC:Nat:=80
abbrev brN:Nat:=110
def Ia (A o:Nat)(bb:Bool)(b:gY):Prop:=∀(i:Nat) s,(jy b)[i]? =some s→jM A o bb 80 s (fun d=>bn (gu s d))
theorem AZ (dw:o<A)(hG:10≤A∧10≤o) {S:Nat→Prop} (hS:∀i,S i→i<A∧i≠o) {d:Nat} {b:gY} (JA:Ia A o bb b)(hd:d+1+Cb b≤70) {σ:St} {v:AV} {l:List UInt8} (hv:dX S σ v b)
 (hb:bY A o σ l d bb) (hA:A≤σ.length) (hT:iV σ=true) (hl:l.length+(Fp b d).length≤1000000000) {Q:AV→St→Prop} (q:∀σ',bY A o σ' (l ++ Fp b d) d bb→jg A o σ σ'→Q (.tu []) σ'):au X 45 [.p o 0 0,v] σ Q:=
 WH dw hG hS (fun i s hs=>⟨JA i s hs,by have:=QE b i s hs;omega⟩) (by omega) hv (by have:=ZK b d;omega) hb hA hT hl q
theorem dX.shape {S:Nat→Prop} {σ:St} {v:AV} :∀{t:gY},dX S σ v t→v= .sl0∨∃o g n,v= .sl o g 0 n 1
 | .nil,h=>.inl h
 | .cons ..,h=>by obtain⟨o,g,cs,_,hv,_⟩:=h;exact .inr ⟨o,g,_,hv⟩
theorem Ib (dw:o<A)(hG:10≤A∧10≤o) {r:Tr} {th el:gY} {ln:Nat} (hw:WT r)(hth:Ia A o bb th)(hel:Ia A o bb el)(hif:∀s,el= .cons s .nil→kS s=4→jM A o bb 110 s (fun d=>bn (gu s d))) :
 jM A o bb 110 (.st 4 [] false .nil r th el ln) (fun d=>bn (gu (.st 4 [] false .nil r th el ln) d)):=by
 intro S σ v l d hS hv hb hA hT hd hl Q q
 obtain⟨ox,gx,L,R,T,E,hs,rfl,hx,_,hR,hTh,hEl⟩:=hv
 simp only [tx_4] at hl q
 simp only [dS,if_true] at hd
 simp only [bM,bg,bZ] at hl
 have hxo:=hS ox hs
 obtain⟨oR,gR,rfl⟩:=hR.ptr hw
 have hshT:=hTh.shape
 cases el with
 | nil=>
   obtain rfl:E= .sl0:=hEl
   rw [tx_el0] at q
   refine au.body (F:=Ua) ay (lit:=false) rfl rfl (aU rfl) ?_
   conv=>whnf
   refine bG [[105,102,32]] hb dw hA (by simp) (by simp;omega) fun σ1 h1 k1=>?_
   have l1:=k1.len
   have hx1:σ1[ox]? =_:=(k1.low ox hxo.1 hxo.2).trans hx
   conv=>whnf
   refine ak (aj (T:=aW) rfl rfl (ah (hx1)) rfl) ?_
   conv=>whnf
   refine gX dw hG r hw 1 hS (hR.kept hS k1) h1 (by omega) (k1.tab hG hT) (by simp;omega) fun σ2 h2 k2'=>?_
   have k2:=k1.trans k2'
   have l2:=k2.len
   have hx2:σ2[ox]? =_:=(k2.low ox hxo.1 hxo.2).trans hx
   conv=>whnf
   refine ak (aj (T:=dL) rfl rfl (ah hx2) rfl) ?_
   refine dJ _ _ ?_
   refine dV _ _ ?_
   refine AZ dw hG hS hth (by omega) (hTh.kept hS k2) h2 (by omega) (k2.tab hG hT) (by simp;omega) fun σ3 h3 nG=>?_
   have k3:=k2.trans nG
   have l3:=k3.len
   have hx3:σ3[ox]? =_:=(k3.low ox hxo.1 hxo.2).trans hx
   conv=>whnf
   refine ak (aj (T:=dL) rfl rfl (ah (hx3)) rfl) ?_
   conv=>whnf
   refine ak (aj (T:=dL) rfl rfl (ah (hx3)) rfl) ?_
   conv=>whnf
   exact hb.fin (by simpa [iC] using h3) k3 (by simpa [iC] using q)
 | cons s y=>
   obtain⟨oE,gE,cs,hoE,rfl,hE,a,tl,hcs,hsA,hyA⟩:=hEl
   have hEl':dX S σ (.sl oE gE 0 cs.length 1) (.cons s y):=⟨oE,gE,cs,hoE,rfl,hE,a,tl,hcs,hsA,hyA⟩
   have hEo:=hS oE hoE
   obtain⟨os,gs,rfl⟩:=hsA.ptr
   have hlen:cs.length=tl.length+1:=by rw [hcs];rfl
   have hy0:tl.length=0↔rW y=true:=by
    cases y with
    | nil=>have h:tl=[]:=hyA;subst h;simp [rW]
    | cons=>obtain⟨a2,tl2,h,_⟩:=hyA;subst h;simp [rW]
   have hcell:cs[0+0*1]? =some (.p os gs 0):=by rw [hcs];rfl
   obtain⟨ks,nms,ps,lls,rrs,ths,els,lns⟩:=s
   have hsA':=hsA
   obtain⟨o2,g2,L2,R2,T2,E2,hs2,hv2,hx2s,_⟩:=hsA
   injection hv2 with e1 e2 _
   subst e1;subst e2
   have hso:=hS _ hs2
   have key:∀{Q':AV→St→Prop} (hq:∀σ',bY A o σ' (l ++ ([105,102,32] ++ lF r 1 ++ Fp th d ++ bn (kL (.cons (.st ks nms ps lls rrs ths els lns) y) d))) d bb→jg A o σ σ'→Q' (.tu []) σ'),
        au X 110 [.p o 0 0,.p ox gx 0] σ Q':=by
    intro Q' hq
    by_cases hk:rW y=true∧ks=4
    ·rw [ZL _ _ _ hk] at hq hl
     simp only [bM,bg,bZ] at hl
     have h0:=hy0.2 hk.1
     have hy:y= .nil:=by cases y with
      | nil=>rfl
      | cons=>cases hk.1
     subst hy
     obtain⟨_,rfl⟩:=hk
     rw [show cs.length=1 by omega] at hx
     simp only [Qp,show rW .nil=true from rfl,kS,and_self,if_true] at hd
     refine au.body (F:=Ua) ay (lit:=false) rfl rfl (aU rfl) ?_
     conv=>whnf
     refine bG [[105,102,32]] hb dw hA (by simp) (by simp;omega) fun σ1 h1 k1=>?_
     have l1:=k1.len
     have hx1:σ1[ox]? =_:=(k1.low ox hxo.1 hxo.2).trans hx
     conv=>whnf
     refine ak (aj (T:=aW) rfl rfl (ah (hx1)) rfl) ?_
     conv=>whnf
     refine gX dw hG r hw 1 hS (hR.kept hS k1) h1 (by omega) (k1.tab hG hT) (by simp;omega) fun σ2 h2 k2'=>?_
     have k2:=k1.trans k2'
     have l2:=k2.len
     have hx2:σ2[ox]? =_:=(k2.low ox hxo.1 hxo.2).trans hx
     conv=>whnf
     refine ak (aj (T:=dL) rfl rfl (ah hx2) rfl) ?_
     refine dJ _ _ ?_
     refine dV _ _ ?_
     refine AZ dw hG hS hth (by omega) (hTh.kept hS k2) h2 (by omega) (k2.tab hG hT) (by simp;omega) fun σ3 h3 nG=>?_
     have k3:=k2.trans nG
     have l3:=k3.len
     have hx3:σ3[ox]? =_:=(k3.low ox hxo.1 hxo.2).trans hx
     have hE3:σ3[oE]? =_:=(k3.low oE hEo.1 hEo.2).trans hE
     have hs3:σ3[os]? =_:=(k3.low os hso.1 hso.2).trans hx2s
     conv=>whnf
     refine ak (aj (T:=dL) rfl rfl (ah (hx3)) rfl) ?_
     conv=>whnf
     refine ak (aj (T:=dL) rfl rfl (ah (hx3)) rfl) ?_
     conv=>whnf
     refine⟨0,rfl,by decide,?_⟩
     conv=>whnf
     refine ak (aj (T:=dH) rfl rfl (ah hE3) hcell) ?_
     conv=>whnf
     refine ak (aj (T:=dL) rfl rfl (ah (hx3)) rfl) ?_
     conv=>whnf
     refine⟨0,rfl,by decide,?_⟩
     conv=>whnf
     refine ak (aj (T:=dH) rfl rfl (ah hE3) hcell) ?_
     conv=>whnf
     refine ak (aj (T:=fF) rfl rfl (ah (hs3)) rfl) ?_
     conv=>whnf
     refine bG [[32,101,108,115,101,32]] h3 dw (by omega) (by simp) (by simp;omega) fun dF h4 Sz=>?_
     have k4:=k3.trans Sz
     have l4:=k4.len
     have hx4:dF[ox]? =_:=(k4.low ox hxo.1 hxo.2).trans hx
     have hE4:dF[oE]? =_:=(k4.low oE hEo.1 hEo.2).trans hE
     conv=>whnf
     refine ak (aj (T:=dL) rfl rfl (ah (hx4)) rfl) ?_
     conv=>whnf
     refine⟨0,rfl,by decide,?_⟩
     conv=>whnf
     refine ak (aj (T:=dH) rfl rfl (ah hE4) hcell) ?_
     conv=>whnf
     refine hif _ rfl rfl d hS (hsA'.kept hS k4) h4 (by omega) (k4.tab hG hT) (by omega) (by simp;omega) fun fC h5 k5=>?_
     conv=>whnf
     exact hb.fin (by simpa [iC] using h5) (k4.trans k5) (by simpa [iC] using hq)
    ·rw [ZM _ _ _ hk] at hq hl
     simp only [bM,bg,bZ] at hl
     rw [dEl_no _ _ (show ¬(rW y=true∧kS (.st ks nms ps lls rrs ths els lns)=4) from hk)] at hd
     have hd2:d+1+Cb (.cons (.st ks nms ps lls rrs ths els lns) y)≤70:=by simp only [Cb];omega
     have tail:∀(σ3:St),bY A o σ3 (l ++ [[105,102,32]].flatten ++ lF r 1 ++ Fp th d) d bb→jg A o σ σ3→∀{Q2:AV→St→Prop},(∀dF,bY A o dF (l ++ [[105,102,32]].flatten ++ lF r 1 ++ Fp th d ++ [[32,101,108,115,101]].flatten) d bb→jg A o σ dF→Q2 (.tu []) dF)→
            au X 44 [.p o 0 0,.sl σ3.length 0 0 1 1] (newCells 9 [.s [32,101,108,115,101]] σ3) Q2:=by
      intro σ3 h3 k3 Q2 q2
      have:=k3.len
      exact bG [[32,101,108,115,101]] h3 dw (by omega) (by simp) (by simp;omega) fun dF h4 k4=>q2 dF h4 (k3.trans k4)
     have fin:∀(dF:St),bY A o dF (l ++ [[105,102,32]].flatten ++ lF r 1 ++ Fp th d ++ [[32,101,108,115,101]].flatten) d bb→jg A o σ dF→∀{Q2:AV→St→Prop},(∀fC,bY A o fC (l ++ ([105,102,32] ++ lF r 1 ++ Fp th d ++ ([32,101,108,115,101] ++ Fp (.cons (.st ks nms ps lls rrs ths els lns) y) d))) d bb→jg A o σ fC→Q2 (.tu []) fC)→
            au X 45 [.p o 0 0,.sl oE gE 0 cs.length 1] dF Q2:=by
      intro dF h4 k4 Q2 q2
      have:=k4.len
      exact AZ dw hG hS hel hd2 (hEl'.kept hS k4) h4 (by omega) (k4.tab hG hT) (by simp;omega) fun fC h5 k5=>q2 fC (by simpa [iC] using h5) (k4.trans k5)
     refine au.body (F:=Ua) ay (lit:=false) rfl rfl (aU rfl) ?_
     conv=>whnf
     refine bG [[105,102,32]] hb dw hA (by simp) (by simp;omega) fun σ1 h1 k1=>?_
     have l1:=k1.len
     have hx1:σ1[ox]? =_:=(k1.low ox hxo.1 hxo.2).trans hx
     conv=>whnf
     refine ak (aj (T:=aW) rfl rfl (ah (hx1)) rfl) ?_
     conv=>whnf
     refine gX dw hG r hw 1 hS (hR.kept hS k1) h1 (by omega) (k1.tab hG hT) (by simp;omega) fun σ2 h2 k2'=>?_
     have k2:=k1.trans k2'
     have l2:=k2.len
     have hx2:σ2[ox]? =_:=(k2.low ox hxo.1 hxo.2).trans hx
     conv=>whnf
     refine ak (aj (T:=dL) rfl rfl (ah hx2) rfl) ?_
     refine dJ _ _ ?_
     refine dV _ _ ?_
     refine AZ dw hG hS hth (by omega) (hTh.kept hS k2) h2 (by omega) (k2.tab hG hT) (by simp;omega) fun σ3 h3 nG=>?_
     have k3:=k2.trans nG
     have l3:=k3.len
     have hx3:σ3[ox]? =_:=(k3.low ox hxo.1 hxo.2).trans hx
     have hE3:σ3[oE]? =_:=(k3.low oE hEo.1 hEo.2).trans hE
     have hs3:σ3[os]? =_:=(k3.low os hso.1 hso.2).trans hx2s
     conv=>whnf
     refine ak (aj (T:=dL) rfl rfl (ah (hx3)) rfl) ?_
     conv=>whnf
     by_cases h1c:cs.length=1
     ·have hks:ks≠4:=fun e=>hk ⟨hy0.1 (by omega),e⟩
      rw [show decide ((cs.length:Int)=1)=true from decide_eq_true (by omega)]
      conv=>whnf
      refine ak (aj (T:=dL) rfl rfl (ah (hx3)) rfl) ?_
      conv=>whnf
      refine⟨0,rfl,by omega,?_⟩
      conv=>whnf
      refine ak (aj (T:=dH) rfl rfl (ah hE3) hcell) ?_
      conv=>whnf
      refine ak (aj (T:=dL) rfl rfl (ah (hx3)) rfl) ?_
      conv=>whnf
      refine⟨0,rfl,by omega,?_⟩
      conv=>whnf
      refine ak (aj (T:=dH) rfl rfl (ah hE3) hcell) ?_
      conv=>whnf
      refine ak (aj (T:=fF) rfl rfl (ah (hs3)) rfl) ?_
      conv=>whnf
      rw [show decide ((ks:Int)=4)=false from decide_eq_false (by omega)]
      conv=>whnf
      refine ak (aj (T:=dL) rfl rfl (ah (hx3)) rfl) ?_
      conv=>whnf
      rw [show decide ((0:Int)<(cs.length:Int))=true from decide_eq_true (by omega)]
      conv=>whnf
      refine tail σ3 h3 k3 fun dF h4 k4=>?_
      have hx4:dF[ox]? =_:=(k4.low ox hxo.1 hxo.2).trans hx
      conv=>whnf
      refine ak (aj (T:=dL) rfl rfl (ah (hx4)) rfl) ?_
      conv=>whnf
      refine fin dF h4 k4 fun fC h5 k5=>?_
      conv=>whnf
      exact hb.fin h5 k5 hq
     ·rw [show decide ((cs.length:Int)=1)=false from decide_eq_false (by omega)]
      conv=>whnf
      refine ak (aj (T:=dL) rfl rfl (ah (hx3)) rfl) ?_
      conv=>whnf
      rw [show decide ((0:Int)<(cs.length:Int))=true from decide_eq_true (by omega)]
      conv=>whnf
      refine tail σ3 h3 k3 fun dF h4 k4=>?_
      have hx4:dF[ox]? =_:=(k4.low ox hxo.1 hxo.2).trans hx
      conv=>whnf
      refine ak (aj (T:=dL) rfl rfl (ah (hx4)) rfl) ?_
      conv=>whnf
      refine fin dF h4 k4 fun fC h5 k5=>?_
      conv=>whnf
      exact hb.fin h5 k5 hq
   exact key q
theorem rY {k:Nat} {ln:Nat} {r:Tr} (ahead:List UInt8)(dw:o<A)(hG:10≤A∧10≤o)(hw:WT r)(ht:∀d,bn (gu (.st k [] false .nil r .nil .nil ln) d)=ahead ++ lF r 1 ++ [59])
 (hwalk:∀{σ:St} {ox gx oR gR:Nat} {L T E:AV} (_:σ[ox]? =some ⟨gx,false,.cells 95 [.i .i64 k,.s [],.b false,L,.p oR gR 0,T,E,.i .i64 ln]⟩) {Q:AV→St→Prop} (_:au X 108 [.p o 0 0,.s ahead,.p oR gR 0] σ fun v σ'=>v= .tu []∧Fin σ (.tu []) σ' Q),au X 80 [.p o 0 0,.p ox gx 0] σ Q) :
 jM A o bb 80 (.st k [] false .nil r .nil .nil ln) (fun d=>bn (gu (.st k [] false .nil r .nil .nil ln) d)):=by
 intro S σ v l d hS hv hb hA hT hd hl Q q
 obtain⟨ox,gx,L,R,T,E,hs,rfl,hx,_,hR,_,_⟩:=hv
 simp only [ht] at hl q
 obtain⟨oR,gR,rfl⟩:=hR.ptr hw
 refine hwalk hx (zH ahead hS hw hR hb dw hG hA hT hl fun σ1 h1 k1=>⟨rfl,?_⟩)
 exact hb.fin h1 k1 q
end
end Go.Abs.YtlkfbfhkcaldlaaGreatDoor
namespace Go.Abs.YtlkfbfhkcaldlaaGreatDoor
open Go.Proofs
set_option maxRecDepth 4000
section
variable {o A:Nat} {bb:Bool}
theorem st_out (dw:o<A)(hG:10≤A∧10≤o) {r:Tr} {ln:Nat} (hw:WT r):jM A o bb SC (.st 6 [] false .nil r .nil .nil ln) (fun d=>bn (gu (.st 6 [] false .nil r .nil .nil ln) d)):=
 rY [111,117,116,32] dw hG hw (fun d=>tx_6 _ _ _) fun hx Q h=>by
  refine au.body (F:=Nj) ay (lit:=false) rfl rfl (aU rfl) ?_
  conv=>whnf
  refine ak (aj (T:=fF) rfl rfl (ah (hx)) rfl) ?_
  conv=>whnf
  refine ak (aj (T:=aW) rfl rfl (ah (hx)) rfl) ?_
  conv=>whnf
  refine au.mono h fun v σ' hv=>?_
  obtain⟨rfl,hf⟩:=hv
  conv=>whnf
  exact hf
theorem ZN (dw:o<A)(hG:10≤A∧10≤o) {r:Tr} {ln:Nat} (hw:WT r):jM A o bb SC (.st 7 [] false .nil r .nil .nil ln) (fun d=>bn (gu (.st 7 [] false .nil r .nil .nil ln) d)):=
 rY [102,114,101,101,32] dw hG hw (fun d=>tx_7 _ _ _) fun hx Q h=>by
  refine au.body (F:=Nj) ay (lit:=false) rfl rfl (aU rfl) ?_
  conv=>whnf
  refine ak (aj (T:=fF) rfl rfl (ah (hx)) rfl) ?_
  conv=>whnf
  refine ak (aj (T:=aW) rfl rfl (ah (hx)) rfl) ?_
  conv=>whnf
  refine au.mono h fun v σ' hv=>?_
  obtain⟨rfl,hf⟩:=hv
  conv=>whnf
  exact hf
theorem ZO (dw:o<A)(hG:10≤A∧10≤o) {r:Tr} {ln:Nat} (hw:WT r):jM A o bb SC (.st 10 [] false .nil r .nil .nil ln) (fun d=>bn (gu (.st 10 [] false .nil r .nil .nil ln) d)):=
 rY [] dw hG hw (fun d=>tx_10 _ _ _) fun hx Q h=>by
  refine au.body (F:=Nj) ay (lit:=false) rfl rfl (aU rfl) ?_
  conv=>whnf
  refine ak (aj (T:=fF) rfl rfl (ah (hx)) rfl) ?_
  conv=>whnf
  refine ak (aj (T:=aW) rfl rfl (ah (hx)) rfl) ?_
  conv=>whnf
  refine au.mono h fun v σ' hv=>?_
  obtain⟨rfl,hf⟩:=hv
  conv=>whnf
  exact hf
theorem st_ret (dw:o<A)(hG:10≤A∧10≤o) {r:Tr} {ln:Nat} (hw:WT r):jM A o bb SC (.st 9 [] false .nil r .nil .nil ln) (fun d=>bn (gu (.st 9 [] false .nil r .nil .nil ln) d)):=
 rY [114,101,116,117,114,110,32] dw hG hw (fun d=>by rw [tx_9,if_neg (by rw [hw.nn];decide)]) fun hx Q h=>by
  refine au.body (F:=Nj) ay (lit:=false) rfl rfl (aU rfl) ?_
  conv=>whnf
  refine ak (aj (T:=fF) rfl rfl (ah (hx)) rfl) ?_
  conv=>whnf
  refine ak (aj (T:=aW) rfl rfl (ah (hx)) rfl) ?_
  conv=>whnf
  refine ak (aj (T:=aW) rfl rfl (ah (hx)) rfl) ?_
  conv=>whnf
  refine au.mono h fun v σ' hv=>?_
  obtain⟨rfl,hf⟩:=hv
  conv=>whnf
  exact hf
theorem ZP (dw:o<A) {ln:Nat} :jM A o bb SC (.st 9 [] false .nil .nil .nil .nil ln) (fun d=>bn (gu (.st 9 [] false .nil .nil .nil .nil ln) d)):=by
 intro S σ v l d hS hv hb hA hT hd hl Q q
 obtain⟨ox,gx,L,R,T,E,hs,rfl,hx,_,hR,_,_⟩:=hv
 simp only [tx_9,isNil,if_true] at hl q
 obtain rfl:R= .p0:=hR
 refine au.body (F:=Nj) ay (lit:=false) rfl rfl (aU rfl) ?_
 conv=>whnf
 refine ak (aj (T:=fF) rfl rfl (ah (hx)) rfl) ?_
 conv=>whnf
 refine ak (aj (T:=aW) rfl rfl (ah (hx)) rfl) ?_
 conv=>whnf
 refine bG [[114,101,116,117,114,110,59]] hb dw hA (by simp) (by simpa using hl) fun σ1 h1 k1=>?_
 conv=>whnf
 exact hb.fin (by simpa using h1) k1 q
theorem WI (dw:o<A) {ln:Nat} :jM A o bb SC (.st 8 [] false .nil .nil .nil .nil ln) (fun d=>bn (gu (.st 8 [] false .nil .nil .nil .nil ln) d)):=by
 intro S σ v l d hS hv hb hA hT hd hl Q q
 obtain⟨ox,gx,L,R,T,E,hs,rfl,hx,_,hR,_,_⟩:=hv
 simp only [tx_8] at hl q
 refine au.body (F:=Nj) ay (lit:=false) rfl rfl (aU rfl) ?_
 conv=>whnf
 refine ak (aj (T:=fF) rfl rfl (ah (hx)) rfl) ?_
 conv=>whnf
 refine bG [[100,114,97,105,110,59]] hb dw hA (by simp) (by simpa using hl) fun σ1 h1 k1=>?_
 conv=>whnf
 exact hb.fin (by simpa using h1) k1 q
theorem ZQ (dw:o<A)(hG:10≤A∧10≤o) {l r:Tr} {ln:Nat} (hw1:WT l)(hw:WT r):jM A o bb SC (.st 3 [] false l r .nil .nil ln) (fun d=>bn (gu (.st 3 [] false l r .nil .nil ln) d)):=by
 intro S σ v out d hS hv hb hA hT hd hl Q q
 obtain⟨ox,gx,L,R,T,E,hs,rfl,hx,hL,hR,_,_⟩:=hv
 simp only [tx_3] at hl q
 have hxo:=hS ox hs
 obtain⟨oL,gL,rfl⟩:=hL.ptr hw1
 obtain⟨oR,gR,rfl⟩:=hR.ptr hw
 rw [bM] at hl
 refine au.body (F:=Nj) ay (lit:=false) rfl rfl (aU rfl) ?_
 conv=>whnf
 refine ak (aj (T:=fF) rfl rfl (ah (hx)) rfl) ?_
 conv=>whnf
 refine ak (aj (T:=aW) rfl rfl (ah (hx)) rfl) ?_
 conv=>whnf
 refine gX dw hG l hw1 8 hS hL hb hA hT (by omega) fun σ1 h1 k1=>?_
 have l1:=k1.len
 have hx1:σ1[ox]? =_:=(k1.low ox hxo.1 hxo.2).trans hx
 conv=>whnf
 refine ak (aj (T:=aW) rfl rfl (ah (hx1)) rfl) ?_
 conv=>whnf
 refine zH [32,61,32] hS hw (hR.kept hS k1) h1 dw hG (by omega) (k1.tab hG hT) (by rw [bM];omega) fun σ2 h2 k2=>?_
 conv=>whnf
 exact hb.fin (by simpa [iC] using h2) (k1.trans k2) (by simpa [iC] using q)
theorem WJ (dw:o<A)(hG:10≤A∧10≤o) {r:Tr} {th:gY} {ln:Nat} (hw:WT r)(hth:Ia A o bb th):jM A o bb SC (.st 5 [] false .nil r th .nil ln) (fun d=>bn (gu (.st 5 [] false .nil r th .nil ln) d)):=by
 intro S σ v out d hS hv hb hA hT hd hl Q q
 obtain⟨ox,gx,L,R,T,E,hs,rfl,hx,hL,hR,hTh,_⟩:=hv
 simp only [tx_5] at hl q
 simp only [dS,show ¬(5:Nat)=4 by decide,if_false,if_true] at hd
 have hxo:=hS ox hs
 obtain⟨oR,gR,rfl⟩:=hR.ptr hw
 simp only [bM,bg,bZ] at hl
 refine au.body (F:=Nj) ay (lit:=false) rfl rfl (aU rfl) ?_
 conv=>whnf
 refine ak (aj (T:=fF) rfl rfl (ah (hx)) rfl) ?_
 conv=>whnf
 refine bG [[119,104,105,108,101,32]] hb dw hA (by simp) (by simp;omega) fun σ1 h1 k1=>?_
 have l1:=k1.len
 have hx1:σ1[ox]? =_:=(k1.low ox hxo.1 hxo.2).trans hx
 conv=>whnf
 refine ak (aj (T:=aW) rfl rfl (ah (hx1)) rfl) ?_
 conv=>whnf
 refine gX dw hG r hw 1 hS (hR.kept hS k1) h1 (by omega) (k1.tab hG hT) (by simp;omega) fun σ2 h2 k2'=>?_
 have k2:=k1.trans k2'
 have l2:=k2.len
 have hx2:σ2[ox]? =_:=(k2.low ox hxo.1 hxo.2).trans hx
 conv=>whnf
 refine ak (aj (T:=dL) rfl rfl (ah hx2) rfl) ?_
 refine dJ _ _ ?_
 refine dV _ _ ?_
 refine AZ dw hG hS hth (by omega) (hTh.kept hS k2) h2 (by omega) (k2.tab hG hT) (by simp;omega) fun σ3 h3 nG=>?_
 conv=>whnf
 exact hb.fin (by simpa [iC] using h3) (k2.trans nG) (by simpa [iC] using q)
theorem st_if (dw:o<A)(hG:10≤A∧10≤o) {r:Tr} {th el:gY} {ln:Nat} (h:jM A o bb brN (.st 4 [] false .nil r th el ln) (fun d=>bn (gu (.st 4 [] false .nil r th el ln) d))):jM A o bb SC (.st 4 [] false .nil r th el ln) (fun d=>bn (gu (.st 4 [] false .nil r th el ln) d)):=by
 intro S σ v out d hS hv hb hA hT hd hl Q q
 have hv':=hv
 obtain⟨ox,gx,L,R,T,E,hs,rfl,hx,_⟩:=hv
 refine au.body (F:=Nj) ay (lit:=false) rfl rfl (aU rfl) ?_
 conv=>whnf
 refine ak (aj (T:=fF) rfl rfl (ah (hx)) rfl) ?_
 conv=>whnf
 refine h d hS hv' hb hA hT hd hl fun σ1 h1 k1=>?_
 conv=>whnf
 exact hb.fin h1 k1 q
theorem st_set (dw:o<A)(hG:10≤A∧10≤o) {nm:List UInt8} {r:Tr} {ln:Nat} (hw:WT r):jM A o bb SC (.st 2 nm false .nil r .nil .nil ln) (fun d=>bn (gu (.st 2 nm false .nil r .nil .nil ln) d)):=by
 intro S σ v out d hS hv hb hA hT hd hl Q q
 obtain⟨ox,gx,L,R,T,E,hs,rfl,hx,_,hR,_,_⟩:=hv
 simp only [tx_2] at hl q
 obtain⟨oR,gR,rfl⟩:=hR.ptr hw
 have hl':=hl
 simp only [bM,bg,bZ] at hl'
 refine au.body (F:=Nj) ay (lit:=false) rfl rfl (aU rfl) ?_
 conv=>whnf
 refine ak (aj (T:=fF) rfl rfl (ah (hx)) rfl) ?_
 conv=>whnf
 refine ak (aj (T:=fB) rfl rfl (ah (hx)) rfl) ?_
 conv=>whnf
 refine⟨by show nm.length+3≤_;omega,?_⟩
 conv=>whnf
 refine ak (aj (T:=aW) rfl rfl (ah (hx)) rfl) ?_
 conv=>whnf
 refine zH (nm ++ [32,61,32]) hS hw hR hb dw hG hA hT hl fun σ1 h1 k1=>?_
 conv=>whnf
 exact hb.fin h1 k1 q
theorem st_var (dw:o<A)(hG:10≤A∧10≤o) {nm:List UInt8} {p:Bool} {r:Tr} {ln:Nat} (hr:r= .nil∨WT r):jM A o bb SC (.st 1 nm p .nil r .nil .nil ln) (fun d=>bn (gu (.st 1 nm p .nil r .nil .nil ln) d)):=by
 intro S σ v out d hS hv hb hA hT hd hl Q q
 obtain⟨ox,gx,L,R,T,E,hs,rfl,hx,_,hR,_,_⟩:=hv
 simp only [tx_1] at hl q
 have hxo:=hS ox hs
 have rest:∀(σ2:St) (l2:List UInt8),bY A o σ2 l2 d bb→jg A o σ σ2→l2=out ++ ([118,97,114,32] ++ nm ++ (if p=true then [32,112,116,114] else []))→(R= .p0→∀{Q2:AV→St→Prop},(∀σ3,bY A o σ3 (out ++ ([118,97,114,32] ++ nm ++ (if p=true then [32,112,116,114] else []) ++ (if isNil r=true then [59] else [32,61,32] ++ lF r 1 ++ [59]))) d bb→jg A o σ σ3→Q2 (.tu []) σ3)→r= .nil→
  au X 44 [.p o 0 0,.sl σ2.length 0 0 1 1] (newCells 9 [.s [59]] σ2) Q2)∧(∀{oR gR:Nat},R= .p oR gR 0→WT r→∀{Q2:AV→St→Prop},(∀σ3,bY A o σ3 (out ++ ([118,97,114,32] ++ nm ++ (if p=true then [32,112,116,114] else []) ++ (if isNil r=true then [59] else [32,61,32] ++ lF r 1 ++ [59]))) d bb→jg A o σ σ3→Q2 (.tu []) σ3)→
  au X 108 [.p o 0 0,.s [32,61,32],.p oR gR 0] σ2 Q2):=by
  rintro σ2 l2 h2 k2 rfl
  have:=k2.len
  constructor
  ·intro _ Q2 q2 hr0
   subst hr0
   rw [show (if isNil .nil=true then [59] else [32,61,32] ++ lF .nil 1 ++ [59])=([59]:List UInt8) from rfl] at hl q2
   rw [bM] at hl
   exact bG [[59]] h2 dw (by omega) (by simp) (by rw [bM];simp only [List.flatten_cons,List.flatten_nil,bM,bg,bZ] at hl ⊢;omega) fun σ3 h3 k3=>q2 σ3 (by simpa [iC] using h3) (k2.trans k3)
  ·intro oR gR hRR hw Q2 q2
   rw [show (if isNil r=true then([59]:List UInt8) else [32,61,32] ++ lF r 1 ++ [59])=[32,61,32] ++ lF r 1 ++ [59] from if_neg (by rw [hw.nn];decide)] at hl q2
   rw [bM] at hl
   subst hRR
   exact zH [32,61,32] hS hw (hR.kept hS k2) h2 dw hG (by omega) (k2.tab hG hT) (by rw [bM];omega) fun σ3 h3 k3=>q2 σ3 (by simpa [iC] using h3) (k2.trans k3)
 have hl1:out.length+(4+nm.length+(if p=true then 4 else 0))≤1000000000:=by
  rw [bM,bM,bM] at hl
  cases p <;> simp only [if_true,if_false,nR,bg,bZ] at hl ⊢ <;> omega
 have hshR:(R= .p0∧r= .nil)∨∃oR gR,R= .p oR gR 0∧WT r:=by
  rcases hr with rfl | hw
  ·exact .inl ⟨hR,rfl⟩
  ·obtain⟨oR,gR,h⟩:=hR.ptr hw;exact .inr ⟨oR,gR,h,hw⟩
 cases p with
 | true=>
   have hl2:out.length+(4+nm.length+4)≤1000000000:=hl1
   rcases hshR with ⟨rfl,hr0⟩ | ⟨oR,gR,rfl,hw⟩
   ·refine au.body (F:=Nj) ay (lit:=false) rfl rfl (aU rfl) ?_
    conv=>whnf
    refine ak (aj (T:=fF) rfl rfl (ah (hx)) rfl) ?_
    conv=>whnf
    refine ak (aj (T:=fB) rfl rfl (ah (hx)) rfl) ?_
    conv=>whnf
    refine bG [[118,97,114,32],nm] hb dw hA (by simp) (by simp;omega) fun σ1 h1 k1=>?_
    have l1:=k1.len
    have hx1:σ1[ox]? =_:=(k1.low ox hxo.1 hxo.2).trans hx
    conv=>whnf
    refine ak (aj (T:=xH) rfl rfl (ah (hx1)) rfl) ?_
    conv=>whnf
    refine bG [[32,112,116,114]] h1 dw (by omega) (by simp) (by simp;omega) fun σ2 h2 k2'=>?_
    have k2:=k1.trans k2'
    have hx2:σ2[ox]? =_:=(k2.low ox hxo.1 hxo.2).trans hx
    conv=>whnf
    refine ak (aj (T:=aW) rfl rfl (ah (hx2)) rfl) ?_
    conv=>whnf
    refine(rest σ2 _ h2 k2 (by simp)).1 rfl (fun σ3 h3 k3=>?_) hr0
    conv=>whnf
    exact hb.fin h3 k3 q
   ·refine au.body (F:=Nj) ay (lit:=false) rfl rfl (aU rfl) ?_
    conv=>whnf
    refine ak (aj (T:=fF) rfl rfl (ah (hx)) rfl) ?_
    conv=>whnf
    refine ak (aj (T:=fB) rfl rfl (ah (hx)) rfl) ?_
    conv=>whnf
    refine bG [[118,97,114,32],nm] hb dw hA (by simp) (by simp;omega) fun σ1 h1 k1=>?_
    have l1:=k1.len
    have hx1:σ1[ox]? =_:=(k1.low ox hxo.1 hxo.2).trans hx
    conv=>whnf
    refine ak (aj (T:=xH) rfl rfl (ah (hx1)) rfl) ?_
    conv=>whnf
    refine bG [[32,112,116,114]] h1 dw (by omega) (by simp) (by simp;omega) fun σ2 h2 k2'=>?_
    have k2:=k1.trans k2'
    have hx2:σ2[ox]? =_:=(k2.low ox hxo.1 hxo.2).trans hx
    conv=>whnf
    refine ak (aj (T:=aW) rfl rfl (ah (hx2)) rfl) ?_
    conv=>whnf
    refine ak (aj (T:=aW) rfl rfl (ah (hx2)) rfl) ?_
    conv=>whnf
    refine(rest σ2 _ h2 k2 (by simp)).2 rfl hw fun σ3 h3 k3=>?_
    conv=>whnf
    exact hb.fin h3 k3 q
 | false=>
   rcases hshR with ⟨rfl,hr0⟩ | ⟨oR,gR,rfl,hw⟩
   ·refine au.body (F:=Nj) ay (lit:=false) rfl rfl (aU rfl) ?_
    conv=>whnf
    refine ak (aj (T:=fF) rfl rfl (ah (hx)) rfl) ?_
    conv=>whnf
    refine ak (aj (T:=fB) rfl rfl (ah (hx)) rfl) ?_
    conv=>whnf
    refine bG [[118,97,114,32],nm] hb dw hA (by simp) (by simp;omega) fun σ1 h1 k1=>?_
    have hx1:σ1[ox]? =_:=(k1.low ox hxo.1 hxo.2).trans hx
    conv=>whnf
    refine ak (aj (T:=xH) rfl rfl (ah (hx1)) rfl) ?_
    conv=>whnf
    refine ak (aj (T:=aW) rfl rfl (ah (hx1)) rfl) ?_
    conv=>whnf
    refine(rest σ1 _ h1 k1 (by simp)).1 rfl (fun σ3 h3 k3=>?_) hr0
    conv=>whnf
    exact hb.fin h3 k3 q
   ·refine au.body (F:=Nj) ay (lit:=false) rfl rfl (aU rfl) ?_
    conv=>whnf
    refine ak (aj (T:=fF) rfl rfl (ah (hx)) rfl) ?_
    conv=>whnf
    refine ak (aj (T:=fB) rfl rfl (ah (hx)) rfl) ?_
    conv=>whnf
    refine bG [[118,97,114,32],nm] hb dw hA (by simp) (by simp;omega) fun σ1 h1 k1=>?_
    have hx1:σ1[ox]? =_:=(k1.low ox hxo.1 hxo.2).trans hx
    conv=>whnf
    refine ak (aj (T:=xH) rfl rfl (ah (hx1)) rfl) ?_
    conv=>whnf
    refine ak (aj (T:=aW) rfl rfl (ah (hx1)) rfl) ?_
    conv=>whnf
    refine ak (aj (T:=aW) rfl rfl (ah (hx1)) rfl) ?_
    conv=>whnf
    refine(rest σ1 _ h1 k1 (by simp)).2 rfl hw fun σ3 h3 k3=>?_
    conv=>whnf
    exact hb.fin h3 k3 q
mutual
theorem WL (dw:o<A)(hG:10≤A∧10≤o):∀(s:Sm),WS s→jM A o bb SC s (fun d=>bn (gu s d))
 | .st k nm p l r th el ln,h=>by
   cases h with
   | var _ _ _ _ _ h2=>exact st_var dw hG h2
   | set _ _ _ h1 h2=>exact st_set dw hG h2
   | cell _ _ _ h1 h2 h3=>exact ZQ dw hG h1 h3
   | iff _ _ _ _ h1 h2 h3=>exact st_if dw hG (Ib dw hG h1 (oV dw hG _ h2) (oV dw hG _ h3) (MZ dw hG _ h3))
   | whl _ _ _ h1 h2=>exact WJ dw hG h1 (oV dw hG _ h2)
   | out _ _ h1=>exact st_out dw hG h1
   | free _ _ h1=>exact ZN dw hG h1
   | drain _=>exact WI dw
   | ret _ _ h1=>
     rcases h1 with rfl | h1
     ·exact ZP dw
     ·exact st_ret dw hG h1
   | call _ _ h1 h2=>exact ZO dw hG h1
theorem oV (dw:o<A)(hG:10≤A∧10≤o):∀(b:gY),Hr b→Ia A o bb b
 | .nil,_=>fun i s h=>by simp [jy] at h
 | .cons a r,hw=>by
   have h1:WS a:=by cases hw with | cons _ _ h1 h2=>exact h1
   have h2:Hr r:=by cases hw with | cons _ _ h1 h2=>exact h2
   have ha:jM A o bb SC a (fun d=>bn (gu a d)):=WL dw hG a h1
   have hr:Ia A o bb r:=oV dw hG r h2
   intro i s h
   cases i with
   | zero=>simp only [jy,List.getElem?_cons_zero,oW] at h;subst h;exact ha
   | succ i=>exact hr i s (by simpa [jy] using h)
theorem br_all (dw:o<A)(hG:10≤A∧10≤o):∀(s:Sm),WS s→kS s=4→jM A o bb brN s (fun d=>bn (gu s d))
 | .st k nm p l r th el ln,h,hk=>by
   cases h with
   | iff _ _ _ _ h1 h2 h3=>exact Ib dw hG h1 (oV dw hG _ h2) (oV dw hG _ h3) (MZ dw hG _ h3)
   | _=>cases hk
theorem MZ (dw:o<A)(hG:10≤A∧10≤o):∀(el:gY),Hr el→∀s,el= .cons s .nil→kS s=4→jM A o bb brN s (fun d=>bn (gu s d))
 | .nil,_,s,he,_=>by cases he
 | .cons a r,hw,s,he,hk=>by
   have h1:WS a:=by cases hw with | cons _ _ h1 h2=>exact h1
   cases he
   exact br_all dw hG a h1 hk
end
end
end Go.Abs.YtlkfbfhkcaldlaaGreatDoor
