/- Texts of this claim, joined: Uh, Ui, Uj, Uk, Ul. -/
import Derived.Test.YtlkfbfhkcaldlaaGreatDoorM23
import Derived.Test.YtlkfbfhkcaldlaaGreatDoorM19
import Derived.Test.YtlkfbfhkcaldlaaGreatDoorM22
set_option linter.unusedVariables false
set_option linter.unusedSimpArgs false
namespace Go.Abs.YtlkfbfhkcaldlaaGreatDoor
open Go.Proofs
set_option maxRecDepth 4000
theorem QD (d:Nat):∀l:List Sm,l.length<=(QC d l).length
 | []=>Nat.zero_le _
 | s :: r=>by
   have:=QD d r
   simp only [QC,bM,bg,bZ];omega
theorem QE:∀(l:gY) (i:Nat) (s:Sm),(jy l)[i]? =some s->dS s<=Cb l
 | .nil,i,s,h=>by simp [jy] at h
 | .cons a r,0,s,h=>by simp only [jy,List.getElem?_cons_zero,oW] at h;subst h;simp only [Cb];omega
 | .cons a r,i+1,s,h=>by
   have:=QE r i s (by simpa [jy] using h)
   simp only [Cb];omega
theorem dEl_no (s:Sm)(r:gY)(h:¬(rW r=true/\kS s=4)):Qp (.cons s r)=1+max (dS s) (Cb r):=by
 simp only [Qp];exact if_neg h
def Fp (b:gY)(d:Nat):List UInt8:=bn (qp ++ jo b (d+1) ++ oQ d)
theorem ZK (b:gY)(d:Nat):(jy b).length<=(Fp b d).length:=by
 have:=QD (d+1) (jy b)
 unfold Fp
 rw [aS,aS,txSs];simp only [bM];omega
theorem tx_1 (nm:List UInt8)(p:Bool)(r:Tr)(ln d:Nat):bn (gu (.st 1 nm p .nil r .nil .nil ln) d)=[118,97,114,32] ++ nm ++ (if p=true then [32,112,116,114] else []) ++ (if isNil r=true then [59] else [32,61,32] ++ lF r 1 ++ [59]):=by
 cases p <;> by_cases h:isNil r=true <;> simp [gu,aS,bn,h,JK,Qr,Et,dA]
theorem tx_2 (nm:List UInt8)(r:Tr)(ln d:Nat):bn (gu (.st 2 nm false .nil r .nil .nil ln) d)=nm ++ [32,61,32] ++ lF r 1 ++ [59]:=by simp [gu,aS,bn,JK,Qr]
theorem tx_3 (l r:Tr)(ln d:Nat):bn (gu (.st 3 [] false l r .nil .nil ln) d)=lF l 8 ++ ([32,61,32] ++ lF r 1 ++ [59]):=by simp [gu,aS,bn,JK,Qr]
theorem tx_4 (r:Tr)(th el:gY)(ln d:Nat):bn (gu (.st 4 [] false .nil r th el ln) d)=[105,102,32] ++ lF r 1 ++ Fp th d ++ bn (kL el d):=by simp [gu,Fp,aS,bn,JK,I7]
theorem tx_5 (r:Tr)(th:gY)(ln d:Nat):bn (gu (.st 5 [] false .nil r th .nil ln) d)=[119,104,105,108,101,32] ++ lF r 1 ++ Fp th d:=by simp [gu,Fp,aS,bn,JK,ql]
theorem tx_6 (r:Tr)(ln d:Nat):bn (gu (.st 6 [] false .nil r .nil .nil ln) d)=[111,117,116,32] ++ lF r 1 ++ [59]:=by simp [gu,aS,bn,JK,Eu]
theorem tx_7 (r:Tr)(ln d:Nat):bn (gu (.st 7 [] false .nil r .nil .nil ln) d)=[102,114,101,101,32] ++ lF r 1 ++ [59]:=by simp [gu,aS,bn,JK,uy]
theorem tx_8 (ln d:Nat):bn (gu (.st 8 [] false .nil .nil .nil .nil ln) d)=[100,114,97,105,110,59]:=by simp [gu,bn,oH]
theorem tx_9 (r:Tr)(ln d:Nat):bn (gu (.st 9 [] false .nil r .nil .nil ln) d)=if isNil r=true then [114,101,116,117,114,110,59] else [114,101,116,117,114,110,32] ++ lF r 1 ++ [59]:=by
 by_cases h:isNil r=true <;> simp [gu,aS,bn,JK,fD,h]
theorem tx_10 (r:Tr)(ln d:Nat):bn (gu (.st 10 [] false .nil r .nil .nil ln) d)=[] ++ lF r 1 ++ [59]:=by simp [gu,aS,bn,JK]
theorem tx_el0 (d:Nat):bn (kL .nil d)=[]:=by simp [kL,bn]
theorem ZL (s:Sm)(r:gY)(d:Nat)(h:rW r=true/\kS s=4):bn (kL (.cons s r) d)=[32,101,108,115,101,32] ++ bn (gu s d):=by simp [kL,h.1,h.2,bn,jJ]
theorem ZM (s:Sm)(r:gY)(d:Nat)(h:¬(rW r=true/\kS s=4)):bn (kL (.cons s r) d)=[32,101,108,115,101] ++ Fp (.cons s r) d:=by simp [kL,h,Fp,jo,aS,bn,jJ]
section
variable {o A:Nat} {bb:Bool}
abbrev SC:Nat:=80
abbrev brN:Nat:=110
def Ia (A o:Nat)(bb:Bool)(b:gY):Prop:=∀(i:Nat) s,(jy b)[i]? =some s->jM A o bb 80 s (fun d=>bn (gu s d))
theorem AZ (dw:o<A)(hG:10<=A/\10<=o) {S:Nat->Prop} (hS:∀i,S i->i<A/\i≠o) {d:Nat} {b:gY} (JA:Ia A o bb b)(hd:d+1+Cb b<=70) {Z:St} {v:AV} {l:List UInt8} (hv:dX S Z v b)
 (hb:bY A o Z l d bb) (hA:A<=Z.length) (hT:iV Z=true) (hl:l.length+(Fp b d).length<=1000000000) {Q:AV->St->Prop} (q:∀Z',bY A o Z' (l ++ Fp b d) d bb->jg A o Z Z'->Q (.tu []) Z'):au X 45 [.p o 0 0,v] Z Q:=
 WH dw hG hS (fun i s hs=>⟨JA i s hs,by have:=QE b i s hs;omega⟩) (by omega) hv (by have:=ZK b d;omega) hb hA hT hl q
theorem dX.shape {S:Nat->Prop} {Z:St} {v:AV} :∀{t:gY},dX S Z v t->v= .sl0\/∃o g n,v= .sl o g 0 n 1
 | .nil,h=>.inl h
 | .cons ..,h=>by obtain⟨o,g,cs,_,hv,_⟩:=h;exact .inr ⟨o,g,_,hv⟩
theorem Ib (dw:o<A)(hG:10<=A/\10<=o) {r:Tr} {th el:gY} {ln:Nat} (hw:WT r)(hth:Ia A o bb th)(hel:Ia A o bb el)(hif:∀s,el= .cons s .nil->kS s=4->jM A o bb 110 s (fun d=>bn (gu s d))) :
 jM A o bb 110 (.st 4 [] false .nil r th el ln) (fun d=>bn (gu (.st 4 [] false .nil r th el ln) d)):=by
 intro S Z v l d hS hv hb hA hT hd hl Q q
 obtain⟨ox,gx,L,R,T,E,hs,rfl,hx,_,hR,hTh,hEl⟩:=hv
 simp only [tx_4] at hl q
 simp only [dS,if_true] at hd
 simp only [bM,bg,bZ] at hl
 have hxo:=hS ox hs
 obtain⟨oR,gR,rfl⟩:=hR.ptr hw
 have hshT:=hTh.shape
 cases el with
 | nil=>
   obtain rfl:E= .sl0:=hEl
   rw [tx_el0] at q
   refine au.body (F:=Ua) ay (lit:=false) rfl rfl (aU rfl) ?_
   conv=>whnf
   refine bG [[105,102,32]] hb dw hA (by simp) (by simp;omega) fun Z1 h1 k1=>?_
   have l1:=k1.len
   have hx1:Z1[ox]? =_:=(k1.low ox hxo.1 hxo.2).trans hx
   conv=>whnf
   refine ak (aj (T:=aW) rfl rfl (ah (hx1)) rfl) ?_
   conv=>whnf
   refine gX dw hG r hw 1 hS (hR.kept hS k1) h1 (by omega) (k1.tab hG hT) (by simp;omega) fun Z2 h2 k2'=>?_
   have k2:=k1.trans k2'
   have l2:=k2.len
   have hx2:Z2[ox]? =_:=(k2.low ox hxo.1 hxo.2).trans hx
   conv=>whnf
   refine ak (aj (T:=dL) rfl rfl (ah hx2) rfl) ?_
   refine dJ _ _ ?_
   refine dV _ _ ?_
   refine AZ dw hG hS hth (by omega) (hTh.kept hS k2) h2 (by omega) (k2.tab hG hT) (by simp;omega) fun Z3 h3 nG=>?_
   have k3:=k2.trans nG
   have l3:=k3.len
   have hx3:Z3[ox]? =_:=(k3.low ox hxo.1 hxo.2).trans hx
   conv=>whnf
   refine ak (aj (T:=dL) rfl rfl (ah (hx3)) rfl) ?_
   conv=>whnf
   refine ak (aj (T:=dL) rfl rfl (ah (hx3)) rfl) ?_
   conv=>whnf
   exact hb.fin (by simpa [iC] using h3) k3 (by simpa [iC] using q)
 | cons s y=>
   obtain⟨oE,gE,cs,hoE,rfl,hE,a,tl,hcs,hsA,hyA⟩:=hEl
   have hEl':dX S Z (.sl oE gE 0 cs.length 1) (.cons s y):=⟨oE,gE,cs,hoE,rfl,hE,a,tl,hcs,hsA,hyA⟩
   have hEo:=hS oE hoE
   obtain⟨os,gs,rfl⟩:=hsA.ptr
   have hlen:cs.length=tl.length+1:=by rw [hcs];rfl
   have hy0:tl.length=0↔rW y=true:=by
    cases y with
    | nil=>have h:tl=[]:=hyA;subst h;simp [rW]
    | cons=>obtain⟨a2,tl2,h,_⟩:=hyA;subst h;simp [rW]
   have hcell:cs[0+0*1]? =some (.p os gs 0):=by rw [hcs];rfl
   obtain⟨ks,nms,ps,lls,rrs,ths,els,lns⟩:=s
   have hsA':=hsA
   obtain⟨o2,g2,L2,R2,T2,E2,hs2,hv2,hx2s,_⟩:=hsA
   injection hv2 with e1 e2 _
   subst e1;subst e2
   have hso:=hS _ hs2
   have key:∀{Q':AV->St->Prop} (hq:∀Z',bY A o Z' (l ++ ([105,102,32] ++ lF r 1 ++ Fp th d ++ bn (kL (.cons (.st ks nms ps lls rrs ths els lns) y) d))) d bb->jg A o Z Z'->Q' (.tu []) Z'),
        au X 110 [.p o 0 0,.p ox gx 0] Z Q':=by
    intro Q' hq
    by_cases hk:rW y=true/\ks=4
    ·rw [ZL _ _ _ hk] at hq hl
     simp only [bM,bg,bZ] at hl
     have h0:=hy0.2 hk.1
     have hy:y= .nil:=by cases y with
      | nil=>rfl
      | cons=>cases hk.1
     subst hy
     obtain⟨_,rfl⟩:=hk
     rw [show cs.length=1 by omega] at hx
     simp only [Qp,show rW .nil=true from rfl,kS,and_self,if_true] at hd
     refine au.body (F:=Ua) ay (lit:=false) rfl rfl (aU rfl) ?_
     conv=>whnf
     refine bG [[105,102,32]] hb dw hA (by simp) (by simp;omega) fun Z1 h1 k1=>?_
     have l1:=k1.len
     have hx1:Z1[ox]? =_:=(k1.low ox hxo.1 hxo.2).trans hx
     conv=>whnf
     refine ak (aj (T:=aW) rfl rfl (ah (hx1)) rfl) ?_
     conv=>whnf
     refine gX dw hG r hw 1 hS (hR.kept hS k1) h1 (by omega) (k1.tab hG hT) (by simp;omega) fun Z2 h2 k2'=>?_
     have k2:=k1.trans k2'
     have l2:=k2.len
     have hx2:Z2[ox]? =_:=(k2.low ox hxo.1 hxo.2).trans hx
     conv=>whnf
     refine ak (aj (T:=dL) rfl rfl (ah hx2) rfl) ?_
     refine dJ _ _ ?_
     refine dV _ _ ?_
     refine AZ dw hG hS hth (by omega) (hTh.kept hS k2) h2 (by omega) (k2.tab hG hT) (by simp;omega) fun Z3 h3 nG=>?_
     have k3:=k2.trans nG
     have l3:=k3.len
     have hx3:Z3[ox]? =_:=(k3.low ox hxo.1 hxo.2).trans hx
     have hE3:Z3[oE]? =_:=(k3.low oE hEo.1 hEo.2).trans hE
     have hs3:Z3[os]? =_:=(k3.low os hso.1 hso.2).trans hx2s
     conv=>whnf
     refine ak (aj (T:=dL) rfl rfl (ah (hx3)) rfl) ?_
     conv=>whnf
     refine ak (aj (T:=dL) rfl rfl (ah (hx3)) rfl) ?_
     conv=>whnf
     refine⟨0,rfl,by decide,?_⟩
     conv=>whnf
     refine ak (aj (T:=dH) rfl rfl (ah hE3) hcell) ?_
     conv=>whnf
     refine ak (aj (T:=dL) rfl rfl (ah (hx3)) rfl) ?_
     conv=>whnf
     refine⟨0,rfl,by decide,?_⟩
     conv=>whnf
     refine ak (aj (T:=dH) rfl rfl (ah hE3) hcell) ?_
     conv=>whnf
     refine ak (aj (T:=fF) rfl rfl (ah (hs3)) rfl) ?_
     conv=>whnf
     refine bG [[32,101,108,115,101,32]] h3 dw (by omega) (by simp) (by simp;omega) fun Z4 h4 Sz=>?_
     have k4:=k3.trans Sz
     have l4:=k4.len
     have hx4:Z4[ox]? =_:=(k4.low ox hxo.1 hxo.2).trans hx
     have hE4:Z4[oE]? =_:=(k4.low oE hEo.1 hEo.2).trans hE
     conv=>whnf
     refine ak (aj (T:=dL) rfl rfl (ah (hx4)) rfl) ?_
     conv=>whnf
     refine⟨0,rfl,by decide,?_⟩
     conv=>whnf
     refine ak (aj (T:=dH) rfl rfl (ah hE4) hcell) ?_
     conv=>whnf
     refine hif _ rfl rfl d hS (hsA'.kept hS k4) h4 (by omega) (k4.tab hG hT) (by omega) (by simp;omega) fun Z5 h5 k5=>?_
     conv=>whnf
     exact hb.fin (by simpa [iC] using h5) (k4.trans k5) (by simpa [iC] using hq)
    ·rw [ZM _ _ _ hk] at hq hl
     simp only [bM,bg,bZ] at hl
     rw [dEl_no _ _ (show ¬(rW y=true/\kS (.st ks nms ps lls rrs ths els lns)=4) from hk)] at hd
     have hd2:d+1+Cb (.cons (.st ks nms ps lls rrs ths els lns) y)<=70:=by simp only [Cb];omega
     have tail:∀(Z3:St),bY A o Z3 (l ++ [[105,102,32]].flatten ++ lF r 1 ++ Fp th d) d bb->jg A o Z Z3->∀{Q2:AV->St->Prop},(∀Z4,bY A o Z4 (l ++ [[105,102,32]].flatten ++ lF r 1 ++ Fp th d ++ [[32,101,108,115,101]].flatten) d bb->jg A o Z Z4->Q2 (.tu []) Z4)->
            au X 44 [.p o 0 0,.sl Z3.length 0 0 1 1] (newCells 9 [.s [32,101,108,115,101]] Z3) Q2:=by
      intro Z3 h3 k3 Q2 q2
      have:=k3.len
      exact bG [[32,101,108,115,101]] h3 dw (by omega) (by simp) (by simp;omega) fun Z4 h4 k4=>q2 Z4 h4 (k3.trans k4)
     have fin:∀(Z4:St),bY A o Z4 (l ++ [[105,102,32]].flatten ++ lF r 1 ++ Fp th d ++ [[32,101,108,115,101]].flatten) d bb->jg A o Z Z4->∀{Q2:AV->St->Prop},(∀Z5,bY A o Z5 (l ++ ([105,102,32] ++ lF r 1 ++ Fp th d ++ ([32,101,108,115,101] ++ Fp (.cons (.st ks nms ps lls rrs ths els lns) y) d))) d bb->jg A o Z Z5->Q2 (.tu []) Z5)->
            au X 45 [.p o 0 0,.sl oE gE 0 cs.length 1] Z4 Q2:=by
      intro Z4 h4 k4 Q2 q2
      have:=k4.len
      exact AZ dw hG hS hel hd2 (hEl'.kept hS k4) h4 (by omega) (k4.tab hG hT) (by simp;omega) fun Z5 h5 k5=>q2 Z5 (by simpa [iC] using h5) (k4.trans k5)
     refine au.body (F:=Ua) ay (lit:=false) rfl rfl (aU rfl) ?_
     conv=>whnf
     refine bG [[105,102,32]] hb dw hA (by simp) (by simp;omega) fun Z1 h1 k1=>?_
     have l1:=k1.len
     have hx1:Z1[ox]? =_:=(k1.low ox hxo.1 hxo.2).trans hx
     conv=>whnf
     refine ak (aj (T:=aW) rfl rfl (ah (hx1)) rfl) ?_
     conv=>whnf
     refine gX dw hG r hw 1 hS (hR.kept hS k1) h1 (by omega) (k1.tab hG hT) (by simp;omega) fun Z2 h2 k2'=>?_
     have k2:=k1.trans k2'
     have l2:=k2.len
     have hx2:Z2[ox]? =_:=(k2.low ox hxo.1 hxo.2).trans hx
     conv=>whnf
     refine ak (aj (T:=dL) rfl rfl (ah hx2) rfl) ?_
     refine dJ _ _ ?_
     refine dV _ _ ?_
     refine AZ dw hG hS hth (by omega) (hTh.kept hS k2) h2 (by omega) (k2.tab hG hT) (by simp;omega) fun Z3 h3 nG=>?_
     have k3:=k2.trans nG
     have l3:=k3.len
     have hx3:Z3[ox]? =_:=(k3.low ox hxo.1 hxo.2).trans hx
     have hE3:Z3[oE]? =_:=(k3.low oE hEo.1 hEo.2).trans hE
     have hs3:Z3[os]? =_:=(k3.low os hso.1 hso.2).trans hx2s
     conv=>whnf
     refine ak (aj (T:=dL) rfl rfl (ah (hx3)) rfl) ?_
     conv=>whnf
     by_cases h1c:cs.length=1
     ·have hks:ks≠4:=fun e=>hk ⟨hy0.1 (by omega),e⟩
      rw [show decide ((cs.length:Int)=1)=true from decide_eq_true (by omega)]
      conv=>whnf
      refine ak (aj (T:=dL) rfl rfl (ah (hx3)) rfl) ?_
      conv=>whnf
      refine⟨0,rfl,by omega,?_⟩
      conv=>whnf
      refine ak (aj (T:=dH) rfl rfl (ah hE3) hcell) ?_
      conv=>whnf
      refine ak (aj (T:=dL) rfl rfl (ah (hx3)) rfl) ?_
      conv=>whnf
      refine⟨0,rfl,by omega,?_⟩
      conv=>whnf
      refine ak (aj (T:=dH) rfl rfl (ah hE3) hcell) ?_
      conv=>whnf
      refine ak (aj (T:=fF) rfl rfl (ah (hs3)) rfl) ?_
      conv=>whnf
      rw [show decide ((ks:Int)=4)=false from decide_eq_false (by omega)]
      conv=>whnf
      refine ak (aj (T:=dL) rfl rfl (ah (hx3)) rfl) ?_
      conv=>whnf
      rw [show decide ((0:Int)<(cs.length:Int))=true from decide_eq_true (by omega)]
      conv=>whnf
      refine tail Z3 h3 k3 fun Z4 h4 k4=>?_
      have hx4:Z4[ox]? =_:=(k4.low ox hxo.1 hxo.2).trans hx
      conv=>whnf
      refine ak (aj (T:=dL) rfl rfl (ah (hx4)) rfl) ?_
      conv=>whnf
      refine fin Z4 h4 k4 fun Z5 h5 k5=>?_
      conv=>whnf
      exact hb.fin h5 k5 hq
     ·rw [show decide ((cs.length:Int)=1)=false from decide_eq_false (by omega)]
      conv=>whnf
      refine ak (aj (T:=dL) rfl rfl (ah (hx3)) rfl) ?_
      conv=>whnf
      rw [show decide ((0:Int)<(cs.length:Int))=true from decide_eq_true (by omega)]
      conv=>whnf
      refine tail Z3 h3 k3 fun Z4 h4 k4=>?_
      have hx4:Z4[ox]? =_:=(k4.low ox hxo.1 hxo.2).trans hx
      conv=>whnf
      refine ak (aj (T:=dL) rfl rfl (ah (hx4)) rfl) ?_
      conv=>whnf
      refine fin Z4 h4 k4 fun Z5 h5 k5=>?_
      conv=>whnf
      exact hb.fin h5 k5 hq
   exact key q
theorem rY {k:Nat} {ln:Nat} {r:Tr} (ahead:List UInt8)(dw:o<A)(hG:10<=A/\10<=o)(hw:WT r)(ht:∀d,bn (gu (.st k [] false .nil r .nil .nil ln) d)=ahead ++ lF r 1 ++ [59])
 (hwalk:∀{Z:St} {ox gx oR gR:Nat} {L T E:AV} (_:Z[ox]? =some ⟨gx,false,.cells 95 [.i .i64 k,.s [],.b false,L,.p oR gR 0,T,E,.i .i64 ln]⟩) {Q:AV->St->Prop} (_:au X 108 [.p o 0 0,.s ahead,.p oR gR 0] Z fun v Z'=>v= .tu []/\Fin Z (.tu []) Z' Q),au X 80 [.p o 0 0,.p ox gx 0] Z Q) :
 jM A o bb 80 (.st k [] false .nil r .nil .nil ln) (fun d=>bn (gu (.st k [] false .nil r .nil .nil ln) d)):=by
 intro S Z v l d hS hv hb hA hT hd hl Q q
 obtain⟨ox,gx,L,R,T,E,hs,rfl,hx,_,hR,_,_⟩:=hv
 simp only [ht] at hl q
 obtain⟨oR,gR,rfl⟩:=hR.ptr hw
 refine hwalk hx (zH ahead hS hw hR hb dw hG hA hT hl fun Z1 h1 k1=>⟨rfl,?_⟩)
 exact hb.fin h1 k1 q
end
end Go.Abs.YtlkfbfhkcaldlaaGreatDoor
namespace Go.Abs.YtlkfbfhkcaldlaaGreatDoor
open Go.Proofs
set_option maxRecDepth 4000
section
variable {o A:Nat} {bb:Bool}
theorem st_out (dw:o<A)(hG:10<=A/\10<=o) {r:Tr} {ln:Nat} (hw:WT r):jM A o bb SC (.st 6 [] false .nil r .nil .nil ln) (fun d=>bn (gu (.st 6 [] false .nil r .nil .nil ln) d)):=
 rY [111,117,116,32] dw hG hw (fun d=>tx_6 _ _ _) fun hx Q h=>by
  refine au.body (F:=Nj) ay (lit:=false) rfl rfl (aU rfl) ?_
  conv=>whnf
  refine ak (aj (T:=fF) rfl rfl (ah (hx)) rfl) ?_
  conv=>whnf
  refine ak (aj (T:=aW) rfl rfl (ah (hx)) rfl) ?_
  conv=>whnf
  refine au.mono h fun v Z' hv=>?_
  obtain⟨rfl,hf⟩:=hv
  conv=>whnf
  exact hf
theorem ZN (dw:o<A)(hG:10<=A/\10<=o) {r:Tr} {ln:Nat} (hw:WT r):jM A o bb SC (.st 7 [] false .nil r .nil .nil ln) (fun d=>bn (gu (.st 7 [] false .nil r .nil .nil ln) d)):=
 rY [102,114,101,101,32] dw hG hw (fun d=>tx_7 _ _ _) fun hx Q h=>by
  refine au.body (F:=Nj) ay (lit:=false) rfl rfl (aU rfl) ?_
  conv=>whnf
  refine ak (aj (T:=fF) rfl rfl (ah (hx)) rfl) ?_
  conv=>whnf
  refine ak (aj (T:=aW) rfl rfl (ah (hx)) rfl) ?_
  conv=>whnf
  refine au.mono h fun v Z' hv=>?_
  obtain⟨rfl,hf⟩:=hv
  conv=>whnf
  exact hf
theorem ZO (dw:o<A)(hG:10<=A/\10<=o) {r:Tr} {ln:Nat} (hw:WT r):jM A o bb SC (.st 10 [] false .nil r .nil .nil ln) (fun d=>bn (gu (.st 10 [] false .nil r .nil .nil ln) d)):=
 rY [] dw hG hw (fun d=>tx_10 _ _ _) fun hx Q h=>by
  refine au.body (F:=Nj) ay (lit:=false) rfl rfl (aU rfl) ?_
  conv=>whnf
  refine ak (aj (T:=fF) rfl rfl (ah (hx)) rfl) ?_
  conv=>whnf
  refine ak (aj (T:=aW) rfl rfl (ah (hx)) rfl) ?_
  conv=>whnf
  refine au.mono h fun v Z' hv=>?_
  obtain⟨rfl,hf⟩:=hv
  conv=>whnf
  exact hf
theorem st_ret (dw:o<A)(hG:10<=A/\10<=o) {r:Tr} {ln:Nat} (hw:WT r):jM A o bb SC (.st 9 [] false .nil r .nil .nil ln) (fun d=>bn (gu (.st 9 [] false .nil r .nil .nil ln) d)):=
 rY [114,101,116,117,114,110,32] dw hG hw (fun d=>by rw [tx_9,if_neg (by rw [hw.nn];decide)]) fun hx Q h=>by
  refine au.body (F:=Nj) ay (lit:=false) rfl rfl (aU rfl) ?_
  conv=>whnf
  refine ak (aj (T:=fF) rfl rfl (ah (hx)) rfl) ?_
  conv=>whnf
  refine ak (aj (T:=aW) rfl rfl (ah (hx)) rfl) ?_
  conv=>whnf
  refine ak (aj (T:=aW) rfl rfl (ah (hx)) rfl) ?_
  conv=>whnf
  refine au.mono h fun v Z' hv=>?_
  obtain⟨rfl,hf⟩:=hv
  conv=>whnf
  exact hf
theorem ZP (dw:o<A) {ln:Nat} :jM A o bb SC (.st 9 [] false .nil .nil .nil .nil ln) (fun d=>bn (gu (.st 9 [] false .nil .nil .nil .nil ln) d)):=by
 intro S Z v l d hS hv hb hA hT hd hl Q q
 obtain⟨ox,gx,L,R,T,E,hs,rfl,hx,_,hR,_,_⟩:=hv
 simp only [tx_9,isNil,if_true] at hl q
 obtain rfl:R= .p0:=hR
 refine au.body (F:=Nj) ay (lit:=false) rfl rfl (aU rfl) ?_
 conv=>whnf
 refine ak (aj (T:=fF) rfl rfl (ah (hx)) rfl) ?_
 conv=>whnf
 refine ak (aj (T:=aW) rfl rfl (ah (hx)) rfl) ?_
 conv=>whnf
 refine bG [[114,101,116,117,114,110,59]] hb dw hA (by simp) (by simpa using hl) fun Z1 h1 k1=>?_
 conv=>whnf
 exact hb.fin (by simpa using h1) k1 q
theorem WI (dw:o<A) {ln:Nat} :jM A o bb SC (.st 8 [] false .nil .nil .nil .nil ln) (fun d=>bn (gu (.st 8 [] false .nil .nil .nil .nil ln) d)):=by
 intro S Z v l d hS hv hb hA hT hd hl Q q
 obtain⟨ox,gx,L,R,T,E,hs,rfl,hx,_,hR,_,_⟩:=hv
 simp only [tx_8] at hl q
 refine au.body (F:=Nj) ay (lit:=false) rfl rfl (aU rfl) ?_
 conv=>whnf
 refine ak (aj (T:=fF) rfl rfl (ah (hx)) rfl) ?_
 conv=>whnf
 refine bG [[100,114,97,105,110,59]] hb dw hA (by simp) (by simpa using hl) fun Z1 h1 k1=>?_
 conv=>whnf
 exact hb.fin (by simpa using h1) k1 q
theorem ZQ (dw:o<A)(hG:10<=A/\10<=o) {l r:Tr} {ln:Nat} (hw1:WT l)(hw:WT r):jM A o bb SC (.st 3 [] false l r .nil .nil ln) (fun d=>bn (gu (.st 3 [] false l r .nil .nil ln) d)):=by
 intro S Z v out d hS hv hb hA hT hd hl Q q
 obtain⟨ox,gx,L,R,T,E,hs,rfl,hx,hL,hR,_,_⟩:=hv
 simp only [tx_3] at hl q
 have hxo:=hS ox hs
 obtain⟨oL,gL,rfl⟩:=hL.ptr hw1
 obtain⟨oR,gR,rfl⟩:=hR.ptr hw
 rw [bM] at hl
 refine au.body (F:=Nj) ay (lit:=false) rfl rfl (aU rfl) ?_
 conv=>whnf
 refine ak (aj (T:=fF) rfl rfl (ah (hx)) rfl) ?_
 conv=>whnf
 refine ak (aj (T:=aW) rfl rfl (ah (hx)) rfl) ?_
 conv=>whnf
 refine gX dw hG l hw1 8 hS hL hb hA hT (by omega) fun Z1 h1 k1=>?_
 have l1:=k1.len
 have hx1:Z1[ox]? =_:=(k1.low ox hxo.1 hxo.2).trans hx
 conv=>whnf
 refine ak (aj (T:=aW) rfl rfl (ah (hx1)) rfl) ?_
 conv=>whnf
 refine zH [32,61,32] hS hw (hR.kept hS k1) h1 dw hG (by omega) (k1.tab hG hT) (by rw [bM];omega) fun Z2 h2 k2=>?_
 conv=>whnf
 exact hb.fin (by simpa [iC] using h2) (k1.trans k2) (by simpa [iC] using q)
theorem WJ (dw:o<A)(hG:10<=A/\10<=o) {r:Tr} {th:gY} {ln:Nat} (hw:WT r)(hth:Ia A o bb th):jM A o bb SC (.st 5 [] false .nil r th .nil ln) (fun d=>bn (gu (.st 5 [] false .nil r th .nil ln) d)):=by
 intro S Z v out d hS hv hb hA hT hd hl Q q
 obtain⟨ox,gx,L,R,T,E,hs,rfl,hx,hL,hR,hTh,_⟩:=hv
 simp only [tx_5] at hl q
 simp only [dS,show ¬(5:Nat)=4 by decide,if_false,if_true] at hd
 have hxo:=hS ox hs
 obtain⟨oR,gR,rfl⟩:=hR.ptr hw
 simp only [bM,bg,bZ] at hl
 refine au.body (F:=Nj) ay (lit:=false) rfl rfl (aU rfl) ?_
 conv=>whnf
 refine ak (aj (T:=fF) rfl rfl (ah (hx)) rfl) ?_
 conv=>whnf
 refine bG [[119,104,105,108,101,32]] hb dw hA (by simp) (by simp;omega) fun Z1 h1 k1=>?_
 have l1:=k1.len
 have hx1:Z1[ox]? =_:=(k1.low ox hxo.1 hxo.2).trans hx
 conv=>whnf
 refine ak (aj (T:=aW) rfl rfl (ah (hx1)) rfl) ?_
 conv=>whnf
 refine gX dw hG r hw 1 hS (hR.kept hS k1) h1 (by omega) (k1.tab hG hT) (by simp;omega) fun Z2 h2 k2'=>?_
 have k2:=k1.trans k2'
 have l2:=k2.len
 have hx2:Z2[ox]? =_:=(k2.low ox hxo.1 hxo.2).trans hx
 conv=>whnf
 refine ak (aj (T:=dL) rfl rfl (ah hx2) rfl) ?_
 refine dJ _ _ ?_
 refine dV _ _ ?_
 refine AZ dw hG hS hth (by omega) (hTh.kept hS k2) h2 (by omega) (k2.tab hG hT) (by simp;omega) fun Z3 h3 nG=>?_
 conv=>whnf
 exact hb.fin (by simpa [iC] using h3) (k2.trans nG) (by simpa [iC] using q)
theorem st_if (dw:o<A)(hG:10<=A/\10<=o) {r:Tr} {th el:gY} {ln:Nat} (h:jM A o bb brN (.st 4 [] false .nil r th el ln) (fun d=>bn (gu (.st 4 [] false .nil r th el ln) d))):jM A o bb SC (.st 4 [] false .nil r th el ln) (fun d=>bn (gu (.st 4 [] false .nil r th el ln) d)):=by
 intro S Z v out d hS hv hb hA hT hd hl Q q
 have hv':=hv
 obtain⟨ox,gx,L,R,T,E,hs,rfl,hx,_⟩:=hv
 refine au.body (F:=Nj) ay (lit:=false) rfl rfl (aU rfl) ?_
 conv=>whnf
 refine ak (aj (T:=fF) rfl rfl (ah (hx)) rfl) ?_
 conv=>whnf
 refine h d hS hv' hb hA hT hd hl fun Z1 h1 k1=>?_
 conv=>whnf
 exact hb.fin h1 k1 q
theorem st_set (dw:o<A)(hG:10<=A/\10<=o) {nm:List UInt8} {r:Tr} {ln:Nat} (hw:WT r):jM A o bb SC (.st 2 nm false .nil r .nil .nil ln) (fun d=>bn (gu (.st 2 nm false .nil r .nil .nil ln) d)):=by
 intro S Z v out d hS hv hb hA hT hd hl Q q
 obtain⟨ox,gx,L,R,T,E,hs,rfl,hx,_,hR,_,_⟩:=hv
 simp only [tx_2] at hl q
 obtain⟨oR,gR,rfl⟩:=hR.ptr hw
 have hl':=hl
 simp only [bM,bg,bZ] at hl'
 refine au.body (F:=Nj) ay (lit:=false) rfl rfl (aU rfl) ?_
 conv=>whnf
 refine ak (aj (T:=fF) rfl rfl (ah (hx)) rfl) ?_
 conv=>whnf
 refine ak (aj (T:=fB) rfl rfl (ah (hx)) rfl) ?_
 conv=>whnf
 refine⟨by show nm.length+3<=_;omega,?_⟩
 conv=>whnf
 refine ak (aj (T:=aW) rfl rfl (ah (hx)) rfl) ?_
 conv=>whnf
 refine zH (nm ++ [32,61,32]) hS hw hR hb dw hG hA hT hl fun Z1 h1 k1=>?_
 conv=>whnf
 exact hb.fin h1 k1 q
theorem st_var (dw:o<A)(hG:10<=A/\10<=o) {nm:List UInt8} {p:Bool} {r:Tr} {ln:Nat} (hr:r= .nil\/WT r):jM A o bb SC (.st 1 nm p .nil r .nil .nil ln) (fun d=>bn (gu (.st 1 nm p .nil r .nil .nil ln) d)):=by
 intro S Z v out d hS hv hb hA hT hd hl Q q
 obtain⟨ox,gx,L,R,T,E,hs,rfl,hx,_,hR,_,_⟩:=hv
 simp only [tx_1] at hl q
 have hxo:=hS ox hs
 have rest:∀(Z2:St) (l2:List UInt8),bY A o Z2 l2 d bb->jg A o Z Z2->l2=out ++ ([118,97,114,32] ++ nm ++ (if p=true then [32,112,116,114] else []))->(R= .p0->∀{Q2:AV->St->Prop},(∀Z3,bY A o Z3 (out ++ ([118,97,114,32] ++ nm ++ (if p=true then [32,112,116,114] else []) ++ (if isNil r=true then [59] else [32,61,32] ++ lF r 1 ++ [59]))) d bb->jg A o Z Z3->Q2 (.tu []) Z3)->r= .nil->
  au X 44 [.p o 0 0,.sl Z2.length 0 0 1 1] (newCells 9 [.s [59]] Z2) Q2)/\(∀{oR gR:Nat},R= .p oR gR 0->WT r->∀{Q2:AV->St->Prop},(∀Z3,bY A o Z3 (out ++ ([118,97,114,32] ++ nm ++ (if p=true then [32,112,116,114] else []) ++ (if isNil r=true then [59] else [32,61,32] ++ lF r 1 ++ [59]))) d bb->jg A o Z Z3->Q2 (.tu []) Z3)->
  au X 108 [.p o 0 0,.s [32,61,32],.p oR gR 0] Z2 Q2):=by
  rintro Z2 l2 h2 k2 rfl
  have:=k2.len
  constructor
  ·intro _ Q2 q2 hr0
   subst hr0
   rw [show (if isNil .nil=true then [59] else [32,61,32] ++ lF .nil 1 ++ [59])=([59]:List UInt8) from rfl] at hl q2
   rw [bM] at hl
   exact bG [[59]] h2 dw (by omega) (by simp) (by rw [bM];simp only [List.flatten_cons,List.flatten_nil,bM,bg,bZ] at hl ⊢;omega) fun Z3 h3 k3=>q2 Z3 (by simpa [iC] using h3) (k2.trans k3)
  ·intro oR gR hRR hw Q2 q2
   rw [show (if isNil r=true then([59]:List UInt8) else [32,61,32] ++ lF r 1 ++ [59])=[32,61,32] ++ lF r 1 ++ [59] from if_neg (by rw [hw.nn];decide)] at hl q2
   rw [bM] at hl
   subst hRR
   exact zH [32,61,32] hS hw (hR.kept hS k2) h2 dw hG (by omega) (k2.tab hG hT) (by rw [bM];omega) fun Z3 h3 k3=>q2 Z3 (by simpa [iC] using h3) (k2.trans k3)
 have hl1:out.length+(4+nm.length+(if p=true then 4 else 0))<=1000000000:=by
  rw [bM,bM,bM] at hl
  cases p <;> simp only [if_true,if_false,nR,bg,bZ] at hl ⊢ <;> omega
 have hshR:(R= .p0/\r= .nil)\/∃oR gR,R= .p oR gR 0/\WT r:=by
  rcases hr with rfl | hw
  ·exact .inl ⟨hR,rfl⟩
  ·obtain⟨oR,gR,h⟩:=hR.ptr hw;exact .inr ⟨oR,gR,h,hw⟩
 cases p with
 | true=>
   have hl2:out.length+(4+nm.length+4)<=1000000000:=hl1
   rcases hshR with ⟨rfl,hr0⟩ | ⟨oR,gR,rfl,hw⟩
   ·refine au.body (F:=Nj) ay (lit:=false) rfl rfl (aU rfl) ?_
    conv=>whnf
    refine ak (aj (T:=fF) rfl rfl (ah (hx)) rfl) ?_
    conv=>whnf
    refine ak (aj (T:=fB) rfl rfl (ah (hx)) rfl) ?_
    conv=>whnf
    refine bG [[118,97,114,32],nm] hb dw hA (by simp) (by simp;omega) fun Z1 h1 k1=>?_
    have l1:=k1.len
    have hx1:Z1[ox]? =_:=(k1.low ox hxo.1 hxo.2).trans hx
    conv=>whnf
    refine ak (aj (T:=xH) rfl rfl (ah (hx1)) rfl) ?_
    conv=>whnf
    refine bG [[32,112,116,114]] h1 dw (by omega) (by simp) (by simp;omega) fun Z2 h2 k2'=>?_
    have k2:=k1.trans k2'
    have hx2:Z2[ox]? =_:=(k2.low ox hxo.1 hxo.2).trans hx
    conv=>whnf
    refine ak (aj (T:=aW) rfl rfl (ah (hx2)) rfl) ?_
    conv=>whnf
    refine(rest Z2 _ h2 k2 (by simp)).1 rfl (fun Z3 h3 k3=>?_) hr0
    conv=>whnf
    exact hb.fin h3 k3 q
   ·refine au.body (F:=Nj) ay (lit:=false) rfl rfl (aU rfl) ?_
    conv=>whnf
    refine ak (aj (T:=fF) rfl rfl (ah (hx)) rfl) ?_
    conv=>whnf
    refine ak (aj (T:=fB) rfl rfl (ah (hx)) rfl) ?_
    conv=>whnf
    refine bG [[118,97,114,32],nm] hb dw hA (by simp) (by simp;omega) fun Z1 h1 k1=>?_
    have l1:=k1.len
    have hx1:Z1[ox]? =_:=(k1.low ox hxo.1 hxo.2).trans hx
    conv=>whnf
    refine ak (aj (T:=xH) rfl rfl (ah (hx1)) rfl) ?_
    conv=>whnf
    refine bG [[32,112,116,114]] h1 dw (by omega) (by simp) (by simp;omega) fun Z2 h2 k2'=>?_
    have k2:=k1.trans k2'
    have hx2:Z2[ox]? =_:=(k2.low ox hxo.1 hxo.2).trans hx
    conv=>whnf
    refine ak (aj (T:=aW) rfl rfl (ah (hx2)) rfl) ?_
    conv=>whnf
    refine ak (aj (T:=aW) rfl rfl (ah (hx2)) rfl) ?_
    conv=>whnf
    refine(rest Z2 _ h2 k2 (by simp)).2 rfl hw fun Z3 h3 k3=>?_
    conv=>whnf
    exact hb.fin h3 k3 q
 | false=>
   rcases hshR with ⟨rfl,hr0⟩ | ⟨oR,gR,rfl,hw⟩
   ·refine au.body (F:=Nj) ay (lit:=false) rfl rfl (aU rfl) ?_
    conv=>whnf
    refine ak (aj (T:=fF) rfl rfl (ah (hx)) rfl) ?_
    conv=>whnf
    refine ak (aj (T:=fB) rfl rfl (ah (hx)) rfl) ?_
    conv=>whnf
    refine bG [[118,97,114,32],nm] hb dw hA (by simp) (by simp;omega) fun Z1 h1 k1=>?_
    have hx1:Z1[ox]? =_:=(k1.low ox hxo.1 hxo.2).trans hx
    conv=>whnf
    refine ak (aj (T:=xH) rfl rfl (ah (hx1)) rfl) ?_
    conv=>whnf
    refine ak (aj (T:=aW) rfl rfl (ah (hx1)) rfl) ?_
    conv=>whnf
    refine(rest Z1 _ h1 k1 (by simp)).1 rfl (fun Z3 h3 k3=>?_) hr0
    conv=>whnf
    exact hb.fin h3 k3 q
   ·refine au.body (F:=Nj) ay (lit:=false) rfl rfl (aU rfl) ?_
    conv=>whnf
    refine ak (aj (T:=fF) rfl rfl (ah (hx)) rfl) ?_
    conv=>whnf
    refine ak (aj (T:=fB) rfl rfl (ah (hx)) rfl) ?_
    conv=>whnf
    refine bG [[118,97,114,32],nm] hb dw hA (by simp) (by simp;omega) fun Z1 h1 k1=>?_
    have hx1:Z1[ox]? =_:=(k1.low ox hxo.1 hxo.2).trans hx
    conv=>whnf
    refine ak (aj (T:=xH) rfl rfl (ah (hx1)) rfl) ?_
    conv=>whnf
    refine ak (aj (T:=aW) rfl rfl (ah (hx1)) rfl) ?_
    conv=>whnf
    refine ak (aj (T:=aW) rfl rfl (ah (hx1)) rfl) ?_
    conv=>whnf
    refine(rest Z1 _ h1 k1 (by simp)).2 rfl hw fun Z3 h3 k3=>?_
    conv=>whnf
    exact hb.fin h3 k3 q
mutual
theorem WL (dw:o<A)(hG:10<=A/\10<=o):∀(s:Sm),WS s->jM A o bb SC s (fun d=>bn (gu s d))
 | .st k nm p l r th el ln,h=>by
   cases h with
   | var _ _ _ _ _ h2=>exact st_var dw hG h2
   | set _ _ _ h1 h2=>exact st_set dw hG h2
   | cell _ _ _ h1 h2 h3=>exact ZQ dw hG h1 h3
   | iff _ _ _ _ h1 h2 h3=>exact st_if dw hG (Ib dw hG h1 (oV dw hG _ h2) (oV dw hG _ h3) (MZ dw hG _ h3))
   | whl _ _ _ h1 h2=>exact WJ dw hG h1 (oV dw hG _ h2)
   | out _ _ h1=>exact st_out dw hG h1
   | free _ _ h1=>exact ZN dw hG h1
   | drain _=>exact WI dw
   | ret _ _ h1=>
     rcases h1 with rfl | h1
     ·exact ZP dw
     ·exact st_ret dw hG h1
   | call _ _ h1 h2=>exact ZO dw hG h1
theorem oV (dw:o<A)(hG:10<=A/\10<=o):∀(b:gY),Hr b->Ia A o bb b
 | .nil,_=>fun i s h=>by simp [jy] at h
 | .cons a r,hw=>by
   have h1:WS a:=by cases hw with | cons _ _ h1 h2=>exact h1
   have h2:Hr r:=by cases hw with | cons _ _ h1 h2=>exact h2
   have ha:jM A o bb SC a (fun d=>bn (gu a d)):=WL dw hG a h1
   have hr:Ia A o bb r:=oV dw hG r h2
   intro i s h
   cases i with
   | zero=>simp only [jy,List.getElem?_cons_zero,oW] at h;subst h;exact ha
   | succ i=>exact hr i s (by simpa [jy] using h)
theorem br_all (dw:o<A)(hG:10<=A/\10<=o):∀(s:Sm),WS s->kS s=4->jM A o bb brN s (fun d=>bn (gu s d))
 | .st k nm p l r th el ln,h,hk=>by
   cases h with
   | iff _ _ _ _ h1 h2 h3=>exact Ib dw hG h1 (oV dw hG _ h2) (oV dw hG _ h3) (MZ dw hG _ h3)
   | _=>cases hk
theorem MZ (dw:o<A)(hG:10<=A/\10<=o):∀(el:gY),Hr el->∀s,el= .cons s .nil->kS s=4->jM A o bb brN s (fun d=>bn (gu s d))
 | .nil,_,s,he,_=>by cases he
 | .cons a r,hw,s,he,hk=>by
   have h1:WS a:=by cases hw with | cons _ _ h1 h2=>exact h1
   cases he
   exact br_all dw hG a h1 hk
end
end
end Go.Abs.YtlkfbfhkcaldlaaGreatDoor
namespace Go.Abs.YtlkfbfhkcaldlaaGreatDoor
open Go.Proofs
set_option maxRecDepth 4000
@[reducible] def parX (o ox:Nat) (oa ga n:Nat):Env:=put (some 24) (.b false) [(0,.p o 0 0),(1,.p ox 0 0),(21,.sl oa ga 0 n 2),(22,.i .i64 n),(23,.i .i64 n)]
theorem txPar (nm:List UInt8)(p:Bool)(r:List (List UInt8×Bool))(b:Bool):bn (rX ((nm,p) :: r) b)=(if b=true then [] else [44,32]) ++ nm ++ (if p=true then [32,112,116,114] else []) ++ bn (rX r false):=by
 cases b <;> cases p <;> simp [rX,aS,bn,dA]
theorem Fg:∀(ps:List (List UInt8×Bool)),(∀p∈ps,Good 1 p.1)->∀b,ps.length<=(bn (rX ps b)).length
 | [],_,_=>Nat.zero_le _
 | (nm,p) :: r,h,b=>by
   have ih:=Fg r (fun q hq=>h q (List.mem_cons_of_mem _ hq)) false
   obtain⟨c,y,hc,_⟩:=uT (h (nm,p) (List.mem_cons_self ..)) (.inl rfl)
   simp only at hc
   rw [txPar,hc]
   simp only [bM,bg];omega
section
variable {o A d:Nat} {bb:Bool}
theorem Ic (dw:o<A) {S:Nat->Prop} (hS:∀i,S i->i<A/\i≠o) {oa ga ox:Nat} {ps:List (List UInt8×Bool)} (hoa:S oa)(hcl:ps.length<=1000000000):∀(k m:Nat) (Z:St) (l:List UInt8),m+k=ps.length->
 Z[oa]? =some ⟨ga,false,.cells 71 (pq ps)⟩->bY A o Z l d bb->A<=Z.length->l.length+(bn (rX (ps.drop m) (m == 0))).length<=1000000000->∀{Q:Out->Env->St->Prop},
 (∀Z',bY A o Z' (l ++ bn (rX (ps.drop m) (m == 0))) d bb->jg A o Z Z'->Q (.exit 0) (parX o ox oa ga ps.length) Z')->aV X [0,1,21,22,23] TY [(0,.p o 0 0),(1,.p ox 0 0),(21,.sl oa ga 0 ps.length 2),(22,.i .i64 ps.length),(23,.i .i64 m)] Z Q:=by
 intro k
 induction k with
 | zero=>
   intro m Z l hm _ hb _ _ Q q
   obtain rfl:m=ps.length:=by omega
   rw [List.drop_length] at q
   refine aV.round ay (lit:=false) ?_
   conv=>whnf
   rw [decide_eq_false (by omega)]
   conv=>whnf
   conv=>whnf
   exact q Z (by simpa [rX,bn] using hb) (.refl _ _ _)
 | succ k ih=>
   intro m Z l hm hc hb hA hl Q q
   have hxo:=hS oa hoa
   obtain⟨⟨nm,pt⟩,hp⟩:∃p,ps[m]? =some p:=⟨_,sN (by omega)⟩
   have hdr:ps.drop m=(nm,pt) :: ps.drop (m+1):=by
    rw [List.drop_eq_getElem_cons (by omega),(List.getElem?_eq_some_iff.1 hp).2]
   rw [hdr,txPar] at hl q
   simp only [bM] at hl
   have hpl:=qK ps
   have hag:((pq ps).drop (0+m*2)).take (gG).size=[.s nm,.b pt]:=by rw [Nat.zero_add];exact vU ps m _ hp
   have rest:∀(Z3:St),bY A o Z3 (l ++ ((if(m == 0)=true then [] else [44,32]) ++ nm ++ (if pt=true then [32,112,116,114] else []))) d bb->jg A o Z Z3->aV X [0,1,21,22,23] TY [(0,.p o 0 0),(1,.p ox 0 0),(21,.sl oa ga 0 ps.length 2),(22,.i .i64 ps.length),(23,.i .i64 ((m+1:Nat):Int))] Z3 Q:=by
    intro Z3 h3 k3
    have:=k3.len
    refine ih (m+1) Z3 _ (by omega) ((k3.low oa hxo.1 hxo.2).trans hc) h3 (by omega) ?_ fun Z4 h4 k4=>?_
    ·rw [show (m+1 == 0)=false from rfl];simp only [bM];omega
    ·rw [show (m+1 == 0)=false from rfl] at h4
     exact q Z4 (by simpa [iC] using h4) (k3.trans k4)
   have named:∀(Z2 Z1:St) (l1:List UInt8),bY A o Z1 l1 d bb->jg A o Z Z1->l1=l ++ (if(m == 0)=true then [] else [44,32])->∀{Q2:AV->St->Prop},(∀Z3,bY A o Z3 (l1 ++ nm) d bb->jg A o Z Z3->jg A o Z1 Z3->Q2 (.tu []) Z3)->
        au X 44 [.p o 0 0,.sl Z1.length 0 0 1 1] (newCells 9 [.s nm] Z1) Q2:=by
    intro _ Z1 l1 h1 k1 e1 Q2 q2
    have:=k1.len
    exact bG [nm] h1 dw (by omega) (by simp) (by rw [e1];simp only [bM,List.flatten_cons,List.flatten_nil,bZ];omega) fun Z3 h3 k3=>q2 Z3 (by simpa using h3) (k1.trans k3) k3
   have box:∀(Z1:St),Ext Z Z1->jg A o Z Z1/\bY A o Z1 l d bb:=by
    intro Z1 x
    refine⟨⟨x.len,fun i hi _=>x.old i (by omega),fun i a ha _ _=>x.get ha⟩,?_⟩
    obtain⟨b0,buf,j1,j2,j3,j4⟩:=hb
    exact⟨b0,buf,x.get j1,j2,j3,j4.same fun o' g' n z e=>by
        rcases j4 with ⟨_,e1⟩ | ⟨o1,g1,_,e1,j5⟩
        ·rw [e1] at e;cases e
        ·rw [e1] at e;cases e;exact x.old _ (bK j5)⟩
   have hoo:∀{Z1:St},Ext Z Z1->Z1.length=Z.length+1->Z.length≠o:=fun _ _=>by omega
   cases m with
   | zero=>
     cases pt with
     | true=>
       refine aV.round ay (lit:=false) ?_
       conv=>whnf
       rw [decide_eq_true (by omega)]
       conv=>whnf
       conv=>whnf
       refine⟨0,rfl,by omega,?_⟩
       conv=>whnf
       refine ak (gU (T:=gG) rfl rfl (ah hc) (by rw [hpl];show 0+0*2+2<=_;omega)) ?_
       rw [hag]
       conv=>whnf
       refine ak (aC (T:=gG) ([.s nm,.b true]) rfl (aG _ _ _) rfl rfl (aU rfl) rfl) ?_
       have x5:Ext Z ((newCells 71 gG.zero.cells Z).set Z.length ⟨0,false,.cells 71 [.s nm,.b true]⟩):=((Ext.refl Z).new _ _).set (Nat.le_refl _) _
       have b5:((newCells 71 gG.zero.cells Z).set Z.length ⟨0,false,.cells 71 [.s nm,.b true]⟩)[Z.length]? =_:=at_set (aG _ _ _) _
       have l5:((newCells 71 gG.zero.cells Z).set Z.length ⟨0,false,.cells 71 [.s nm,.b true]⟩).length=Z.length+1:=by rw [gK,aH]
       generalize (newCells 71 gG.zero.cells Z).set Z.length ⟨0,false,.cells 71 [.s nm,.b true]⟩=Z5 at b5 x5 l5 ⊢
       conv=>whnf
       obtain⟨kb,hb5⟩:=box Z5 x5
       refine ak (aj (T:=fB) rfl rfl (ah (b5)) rfl) ?_
       conv=>whnf
       refine named Z5 Z5 l hb5 kb (by simp) fun Z3 h3 k3 k35=>?_
       have b3:Z3[Z.length]? =_:=k35.Sv _ _ b5 (by omega) (by intro _ _ _ e;cases e)
       conv=>whnf
       refine ak (aj (T:=xH) rfl rfl (ah (b3)) rfl) ?_
       conv=>whnf
       refine bG [[32,112,116,114]] h3 dw (by have:=k3.len;omega) (by simp) (by simp at hl ⊢;omega) fun Z4 h4 k4=>?_
       conv=>whnf
       refine⟨((0+1:Nat):Int),wrap_i64 (by omega) (by omega),?_⟩
       conv=>whnf
       exact rest Z4 (by simpa [iC] using h4) (k3.trans k4)
     | false=>
       refine aV.round ay (lit:=false) ?_
       conv=>whnf
       rw [decide_eq_true (by omega)]
       conv=>whnf
       conv=>whnf
       refine⟨0,rfl,by omega,?_⟩
       conv=>whnf
       refine ak (gU (T:=gG) rfl rfl (ah hc) (by rw [hpl];show 0+0*2+2<=_;omega)) ?_
       rw [hag]
       conv=>whnf
       refine ak (aC (T:=gG) ([.s nm,.b false]) rfl (aG _ _ _) rfl rfl (aU rfl) rfl) ?_
       have x5:Ext Z ((newCells 71 gG.zero.cells Z).set Z.length ⟨0,false,.cells 71 [.s nm,.b false]⟩):=((Ext.refl Z).new _ _).set (Nat.le_refl _) _
       have b5:((newCells 71 gG.zero.cells Z).set Z.length ⟨0,false,.cells 71 [.s nm,.b false]⟩)[Z.length]? =_:=at_set (aG _ _ _) _
       have l5:((newCells 71 gG.zero.cells Z).set Z.length ⟨0,false,.cells 71 [.s nm,.b false]⟩).length=Z.length+1:=by rw [gK,aH]
       generalize (newCells 71 gG.zero.cells Z).set Z.length ⟨0,false,.cells 71 [.s nm,.b false]⟩=Z5 at b5 x5 l5 ⊢
       conv=>whnf
       obtain⟨kb,hb5⟩:=box Z5 x5
       refine ak (aj (T:=fB) rfl rfl (ah (b5)) rfl) ?_
       conv=>whnf
       refine named Z5 Z5 l hb5 kb (by simp) fun Z3 h3 k3 k35=>?_
       have b3:Z3[Z.length]? =_:=k35.Sv _ _ b5 (by omega) (by intro _ _ _ e;cases e)
       conv=>whnf
       refine ak (aj (T:=xH) rfl rfl (ah (b3)) rfl) ?_
       conv=>whnf
       refine⟨((0+1:Nat):Int),wrap_i64 (by omega) (by omega),?_⟩
       conv=>whnf
       exact rest Z3 (by simpa [iC] using h3) k3
   | succ m=>
     have comma:∀(Z5:St),bY A o Z5 l d bb->jg A o Z Z5->∀{Q2:AV->St->Prop},(∀Z1,bY A o Z1 (l ++ [44,32]) d bb->jg A o Z Z1->jg A o Z5 Z1->Q2 (.tu []) Z1)->au X 44 [.p o 0 0,.sl Z5.length 0 0 1 1] (newCells 9 [.s [44,32]] Z5) Q2:=by
        intro Z5 h5 k5 Q2 q2
        have:=k5.len
        exact bG [[44,32]] h5 dw (by omega) (by simp) (by simp at hl ⊢;omega) fun Z1 h1 k1=>q2 Z1 (by simpa using h1) (k5.trans k1) k1
     cases pt with
     | true=>
       refine aV.round ay (lit:=false) ?_
       conv=>whnf
       rw [decide_eq_true (by omega)]
       conv=>whnf
       conv=>whnf
       refine⟨m+1,rfl,by omega,?_⟩
       conv=>whnf
       refine ak (gU (T:=gG) rfl rfl (ah hc) (by rw [hpl];show 0+(m+1)*2+2<=_;omega)) ?_
       rw [hag]
       conv=>whnf
       refine ak (aC (T:=gG) ([.s nm,.b true]) rfl (aG _ _ _) rfl rfl (aU rfl) rfl) ?_
       have x5:Ext Z ((newCells 71 gG.zero.cells Z).set Z.length ⟨0,false,.cells 71 [.s nm,.b true]⟩):=((Ext.refl Z).new _ _).set (Nat.le_refl _) _
       have b5:((newCells 71 gG.zero.cells Z).set Z.length ⟨0,false,.cells 71 [.s nm,.b true]⟩)[Z.length]? =_:=at_set (aG _ _ _) _
       have l5:((newCells 71 gG.zero.cells Z).set Z.length ⟨0,false,.cells 71 [.s nm,.b true]⟩).length=Z.length+1:=by rw [gK,aH]
       generalize (newCells 71 gG.zero.cells Z).set Z.length ⟨0,false,.cells 71 [.s nm,.b true]⟩=Z5 at b5 x5 l5 ⊢
       conv=>whnf
       obtain⟨kb,hb5⟩:=box Z5 x5
       rw [decide_eq_true (show (0:Int)<((m+1:Nat):Int) by omega)]
       conv=>whnf
       refine comma Z5 hb5 kb fun Z1 h1 k1 k51=>?_
       have b1:Z1[Z.length]? =_:=k51.Sv _ _ b5 (by omega) (by intro _ _ _ e;cases e)
       conv=>whnf
       refine ak (aj (T:=fB) rfl rfl (ah (b1)) rfl) ?_
       conv=>whnf
       refine named Z1 Z1 _ h1 k1 (by simp) fun Z3 h3 k3 k35=>?_
       have b3:Z3[Z.length]? =_:=k35.Sv _ _ b1 (by omega) (by intro _ _ _ e;cases e)
       conv=>whnf
       refine ak (aj (T:=xH) rfl rfl (ah (b3)) rfl) ?_
       conv=>whnf
       refine bG [[32,112,116,114]] h3 dw (by have:=k3.len;omega) (by simp) (by simp at hl ⊢;omega) fun Z4 h4 k4=>?_
       conv=>whnf
       refine⟨((m+1+1:Nat):Int),wrap_i64 (by omega) (by omega),?_⟩
       conv=>whnf
       exact rest Z4 (by simpa [iC] using h4) (k3.trans k4)
     | false=>
       refine aV.round ay (lit:=false) ?_
       conv=>whnf
       rw [decide_eq_true (by omega)]
       conv=>whnf
       conv=>whnf
       refine⟨m+1,rfl,by omega,?_⟩
       conv=>whnf
       refine ak (gU (T:=gG) rfl rfl (ah hc) (by rw [hpl];show 0+(m+1)*2+2<=_;omega)) ?_
       rw [hag]
       conv=>whnf
       refine ak (aC (T:=gG) ([.s nm,.b false]) rfl (aG _ _ _) rfl rfl (aU rfl) rfl) ?_
       have x5:Ext Z ((newCells 71 gG.zero.cells Z).set Z.length ⟨0,false,.cells 71 [.s nm,.b false]⟩):=((Ext.refl Z).new _ _).set (Nat.le_refl _) _
       have b5:((newCells 71 gG.zero.cells Z).set Z.length ⟨0,false,.cells 71 [.s nm,.b false]⟩)[Z.length]? =_:=at_set (aG _ _ _) _
       have l5:((newCells 71 gG.zero.cells Z).set Z.length ⟨0,false,.cells 71 [.s nm,.b false]⟩).length=Z.length+1:=by rw [gK,aH]
       generalize (newCells 71 gG.zero.cells Z).set Z.length ⟨0,false,.cells 71 [.s nm,.b false]⟩=Z5 at b5 x5 l5 ⊢
       conv=>whnf
       obtain⟨kb,hb5⟩:=box Z5 x5
       rw [decide_eq_true (show (0:Int)<((m+1:Nat):Int) by omega)]
       conv=>whnf
       refine comma Z5 hb5 kb fun Z1 h1 k1 k51=>?_
       have b1:Z1[Z.length]? =_:=k51.Sv _ _ b5 (by omega) (by intro _ _ _ e;cases e)
       conv=>whnf
       refine ak (aj (T:=fB) rfl rfl (ah (b1)) rfl) ?_
       conv=>whnf
       refine named Z1 Z1 _ h1 k1 (by simp) fun Z3 h3 k3 k35=>?_
       have b3:Z3[Z.length]? =_:=k35.Sv _ _ b1 (by omega) (by intro _ _ _ e;cases e)
       conv=>whnf
       refine ak (aj (T:=xH) rfl rfl (ah (b3)) rfl) ?_
       conv=>whnf
       refine⟨((m+1+1:Nat):Int),wrap_i64 (by omega) (by omega),?_⟩
       conv=>whnf
       exact rest Z3 (by simpa [iC] using h3) k3
end
end Go.Abs.YtlkfbfhkcaldlaaGreatDoor
namespace Go.Abs.YtlkfbfhkcaldlaaGreatDoor
open Go.Proofs
set_option maxRecDepth 4000
theorem txF (f:Fm):bn (Nq f)=[102,117,110,99,32] ++ f.name ++ [40] ++ bn (rX f.params true) ++ [41] ++ (if f.ptr=true then [32,112,116,114] else []) ++ Fp f.body 0 ++ [10]:=by
 by_cases h:f.ptr=true <;> simp [Nq,Fp,aS,bn,h,pV,dA]
section
variable {o A:Nat} {bb:Bool}
theorem M_ (dw:o<A)(hG:10<=A/\10<=o) {f:Fm} (hf:Qq f) {S:Nat->Prop} {Z:St} {v:AV} {l:List UInt8} (hS:∀i,S i->i<A/\i≠o)(hv:pz S Z v f)(hb:bY A o Z l 0 bb)(hA:A<=Z.length)(hT:iV Z=true)(hl:l.length+(bn (Nq f)).length<=1000000000) {Q:AV->St->Prop}
 (q:∀Z',bY A o Z' (l ++ bn (Nq f)) 0 bb->jg A o Z Z'->Q (.tu []) Z'):au X 20 [.p o 0 0,v] Z Q:=by
 obtain⟨ox,Ap,Bd,hs,rfl,hx,hP,hB⟩:=hv
 obtain⟨nm,ps,pt,body,ln⟩:=f
 have hps:=hf.ps
 have hbody:=hf.body
 have hdeep:=hf.deep
 simp only at hps hbody hdeep hP hB
 rw [txF] at hl q
 simp only at hl q hx
 simp only [bM,bg,bZ] at hl
 have hxo:=hS ox hs
 have hbl:=oV (bb:=bb) dw hG body hbody
 have tail:∀(Z3:St),bY A o Z3 (l ++ [102,117,110,99,32] ++ nm ++ [40] ++ bn (rX ps true) ++ [41] ++ (if pt=true then [32,112,116,114] else [])) 0 bb->jg A o Z Z3->∀{Q2:AV->St->Prop},(∀Z4,bY A o Z4 (l ++ [102,117,110,99,32] ++ nm ++ [40] ++ bn (rX ps true) ++ [41] ++ (if pt=true then [32,112,116,114] else []) ++ Fp body 0) 0 bb->jg A o Z Z4->Q2 (.tu []) Z4)->
  au X 45 [.p o 0 0,Bd] Z3 Q2:=by
  intro Z3 h3 k3 Q2 q2
  have:=k3.len
  exact AZ dw hG hS hbl (by omega) (hB.kept hS k3) h3 (by omega) (k3.tab hG hT) (by simp only [bM,bg,bZ];omega) fun Z4 h4 k4=>q2 Z4 h4 (k3.trans k4)
 have last:∀(Z4:St),bY A o Z4 (l ++ [102,117,110,99,32] ++ nm ++ [40] ++ bn (rX ps true) ++ [41] ++ (if pt=true then [32,112,116,114] else []) ++ Fp body 0) 0 bb->jg A o Z Z4->∀{Q2:AV->St->Prop},(∀Z5,bY A o Z5 (l ++ ([102,117,110,99,32] ++ nm ++ [40] ++ bn (rX ps true) ++ [41] ++ (if pt=true then [32,112,116,114] else []) ++ Fp body 0 ++ [10])) 0 bb->jg A o Z Z5->Q2 (.tu []) Z5)->
  au X 44 [.p o 0 0,.sl Z4.length 0 0 1 1] (newCells 9 [.s [10]] Z4) Q2:=by
  intro Z4 h4 k4 Q2 q2
  have:=k4.len
  exact bG [[10]] h4 dw (by omega) (by simp) (by simp only [bM,List.flatten_cons,List.flatten_nil,bg,bZ];omega) fun Z5 h5 k5=>q2 Z5 (by simpa [iC] using h5) (k4.trans k5)
 have shut:∀(Z2:St),bY A o Z2 (l ++ [102,117,110,99,32] ++ nm ++ [40] ++ bn (rX ps true)) 0 bb->jg A o Z Z2->∀{Q2:AV->St->Prop},(∀Z3,bY A o Z3 (l ++ [102,117,110,99,32] ++ nm ++ [40] ++ bn (rX ps true) ++ [41]) 0 bb->jg A o Z Z3->Q2 (.tu []) Z3)->
  au X 44 [.p o 0 0,.sl Z2.length 0 0 1 1] (newCells 9 [.s [41]] Z2) Q2:=by
  intro Z2 h2 k2 Q2 q2
  have:=k2.len
  exact bG [[41]] h2 dw (by omega) (by simp) (by simp only [bM,List.flatten_cons,List.flatten_nil,bg,bZ];omega) fun Z3 h3 k3=>q2 Z3 (by simpa [iC] using h3) (k2.trans k3)
 have ptr:pt=true->∀(Z3:St),bY A o Z3 (l ++ [102,117,110,99,32] ++ nm ++ [40] ++ bn (rX ps true) ++ [41]) 0 bb->jg A o Z Z3->∀{Q2:AV->St->Prop},(∀Z4,bY A o Z4 (l ++ [102,117,110,99,32] ++ nm ++ [40] ++ bn (rX ps true) ++ [41] ++ (if pt=true then [32,112,116,114] else [])) 0 bb->jg A o Z Z4->Q2 (.tu []) Z4)->
  au X 44 [.p o 0 0,.sl Z3.length 0 0 1 1] (newCells 9 [.s [32,112,116,114]] Z3) Q2:=by
  intro hpt Z3 h3 k3 Q2 q2
  subst hpt
  have:=k3.len
  simp only [if_true,bg,bZ] at hl
  exact bG [[32,112,116,114]] h3 dw (by omega) (by simp) (by simp only [bM,List.flatten_cons,List.flatten_nil,bg,bZ];omega) fun Z4 h4 k4=>q2 Z4 (by simpa [iC] using h4) (k3.trans k4)
 have open_:∀{Q2:AV->St->Prop},(∀Z1,bY A o Z1 (l ++ [102,117,110,99,32] ++ nm ++ [40]) 0 bb->jg A o Z Z1->Q2 (.tu []) Z1)->au X 44 [.p o 0 0,.sl Z.length 0 0 3 1] (newCells 9 [.s [102,117,110,99,32],.s nm,.s [40]] Z) Q2:=by
  intro Q2 q2
  exact bG [[102,117,110,99,32],nm,[40]] hb dw hA (by simp) (by simp only [bM,List.flatten_cons,List.flatten_nil,bg,bZ];omega) fun Z1 h1 k1=>q2 Z1 (by simpa [iC] using h1) k1
 have hfin:∀(Z5:St),bY A o Z5 (l ++ ([102,117,110,99,32] ++ nm ++ [40] ++ bn (rX ps true) ++ [41] ++ (if pt=true then [32,112,116,114] else []) ++ Fp body 0 ++ [10])) 0 bb->jg A o Z Z5->Fin Z (.tu []) Z5 Q:=fun Z5 h5 k5=>hb.fin h5 k5 q
 have nop:pt=false->∀(Z3:St),bY A o Z3 (l ++ [102,117,110,99,32] ++ nm ++ [40] ++ bn (rX ps true) ++ [41]) 0 bb->bY A o Z3 (l ++ [102,117,110,99,32] ++ nm ++ [40] ++ bn (rX ps true) ++ [41] ++ (if pt=true then [32,112,116,114] else [])) 0 bb:=by
  intro hpt Z3 h3;subst hpt;simpa using h3
 clear q hb
 rcases hP with ⟨hpe,rfl⟩ | ⟨oa,ga,hoa,rfl,hc⟩
 ·have he:bn (rX ps true)=[]:=by rw [hpe];rfl
  cases pt with
  | true=>
    refine au.body (F:=F20) ay (lit:=false) rfl rfl (aU rfl) ?_
    conv=>whnf
    refine ak (aj (T:=fB) rfl rfl (ah (hx)) rfl) ?_
    conv=>whnf
    refine open_ fun Z1 h1 k1=>?_
    have hx1:Z1[ox]? =_:=(k1.low ox hxo.1 hxo.2).trans hx
    conv=>whnf
    refine ak (aj (T:=qE) rfl rfl (ah (hx1)) rfl) ?_
    conv=>whnf
    refine aV.round ay (lit:=false) ?_
    conv=>whnf
    refine shut Z1 (by rw [he,List.append_nil];exact h1) k1 fun Z3 h3 k3=>?_
    have hx3:Z3[ox]? =_:=(k3.low ox hxo.1 hxo.2).trans hx
    conv=>whnf
    refine ak (aj (T:=xH) rfl rfl (ah (hx3)) rfl) ?_
    conv=>whnf
    refine ptr rfl Z3 h3 k3 fun Z4 h4 k4=>?_
    have hx4:Z4[ox]? =_:=(k4.low ox hxo.1 hxo.2).trans hx
    conv=>whnf
    refine ak (aj (T:=dL) rfl rfl (ah hx4) rfl) ?_
    refine dJ _ _ ?_
    refine dV _ _ ?_
    refine tail Z4 h4 k4 fun Z5 h5 k5=>?_
    conv=>whnf
    refine last Z5 h5 k5 fun Z6 h6 k6=>?_
    conv=>whnf
    exact hfin Z6 h6 k6
  | false=>
    refine au.body (F:=F20) ay (lit:=false) rfl rfl (aU rfl) ?_
    conv=>whnf
    refine ak (aj (T:=fB) rfl rfl (ah (hx)) rfl) ?_
    conv=>whnf
    refine open_ fun Z1 h1 k1=>?_
    have hx1:Z1[ox]? =_:=(k1.low ox hxo.1 hxo.2).trans hx
    conv=>whnf
    refine ak (aj (T:=qE) rfl rfl (ah (hx1)) rfl) ?_
    conv=>whnf
    refine aV.round ay (lit:=false) ?_
    conv=>whnf
    refine shut Z1 (by rw [he,List.append_nil];exact h1) k1 fun Z3 h3 k3=>?_
    have hx3:Z3[ox]? =_:=(k3.low ox hxo.1 hxo.2).trans hx
    conv=>whnf
    refine ak (aj (T:=xH) rfl rfl (ah (hx3)) rfl) ?_
    conv=>whnf
    refine ak (aj (T:=dL) rfl rfl (ah hx3) rfl) ?_
    refine dJ _ _ ?_
    refine dV _ _ ?_
    refine tail Z3 (nop rfl Z3 h3) k3 fun Z5 h5 k5=>?_
    conv=>whnf
    refine last Z5 h5 k5 fun Z6 h6 k6=>?_
    conv=>whnf
    exact hfin Z6 h6 k6
 ·have hao:=hS oa hoa
  cases pt with
  | true=>
    refine au.body (F:=F20) ay (lit:=false) rfl rfl (aU rfl) ?_
    conv=>whnf
    refine ak (aj (T:=fB) rfl rfl (ah (hx)) rfl) ?_
    conv=>whnf
    refine open_ fun Z1 h1 k1=>?_
    have l1:=k1.len
    have hx1:Z1[ox]? =_:=(k1.low ox hxo.1 hxo.2).trans hx
    conv=>whnf
    refine ak (aj (T:=qE) rfl rfl (ah (hx1)) rfl) ?_
    conv=>whnf
    refine Ic dw hS (ox:=ox) hoa (by have:=Fg ps hps true;omega) ps.length 0 Z1 _ (by omega) ((k1.low oa hao.1 hao.2).trans hc) h1 (by omega) (by rw [List.drop_zero,show (0 == 0)=true from rfl];simp only [bM,bg,bZ];omega) fun Z2 h2 k2'=>?_
    rw [List.drop_zero,show (0 == 0)=true from rfl] at h2
    have k2:=k1.trans k2'
    conv=>whnf
    refine shut Z2 h2 k2 fun Z3 h3 k3=>?_
    have hx3:Z3[ox]? =_:=(k3.low ox hxo.1 hxo.2).trans hx
    conv=>whnf
    refine ak (aj (T:=xH) rfl rfl (ah (hx3)) rfl) ?_
    conv=>whnf
    refine ptr rfl Z3 h3 k3 fun Z4 h4 k4=>?_
    have hx4:Z4[ox]? =_:=(k4.low ox hxo.1 hxo.2).trans hx
    conv=>whnf
    refine ak (aj (T:=dL) rfl rfl (ah hx4) rfl) ?_
    refine dJ _ _ ?_
    refine dV _ _ ?_
    refine tail Z4 h4 k4 fun Z5 h5 k5=>?_
    conv=>whnf
    refine last Z5 h5 k5 fun Z6 h6 k6=>?_
    conv=>whnf
    exact hfin Z6 h6 k6
  | false=>
    refine au.body (F:=F20) ay (lit:=false) rfl rfl (aU rfl) ?_
    conv=>whnf
    refine ak (aj (T:=fB) rfl rfl (ah (hx)) rfl) ?_
    conv=>whnf
    refine open_ fun Z1 h1 k1=>?_
    have l1:=k1.len
    have hx1:Z1[ox]? =_:=(k1.low ox hxo.1 hxo.2).trans hx
    conv=>whnf
    refine ak (aj (T:=qE) rfl rfl (ah (hx1)) rfl) ?_
    conv=>whnf
    refine Ic dw hS (ox:=ox) hoa (by have:=Fg ps hps true;omega) ps.length 0 Z1 _ (by omega) ((k1.low oa hao.1 hao.2).trans hc) h1 (by omega) (by rw [List.drop_zero,show (0 == 0)=true from rfl];simp only [bM,bg,bZ];omega) fun Z2 h2 k2'=>?_
    rw [List.drop_zero,show (0 == 0)=true from rfl] at h2
    have k2:=k1.trans k2'
    conv=>whnf
    refine shut Z2 h2 k2 fun Z3 h3 k3=>?_
    have hx3:Z3[ox]? =_:=(k3.low ox hxo.1 hxo.2).trans hx
    conv=>whnf
    refine ak (aj (T:=xH) rfl rfl (ah (hx3)) rfl) ?_
    conv=>whnf
    refine ak (aj (T:=dL) rfl rfl (ah hx3) rfl) ?_
    refine dJ _ _ ?_
    refine dV _ _ ?_
    refine tail Z3 (nop rfl Z3 h3) k3 fun Z5 h5 k5=>?_
    conv=>whnf
    refine last Z5 h5 k5 fun Z6 h6 k6=>?_
    conv=>whnf
    exact hfin Z6 h6 k6
end
end Go.Abs.YtlkfbfhkcaldlaaGreatDoor
namespace Go.Abs.YtlkfbfhkcaldlaaGreatDoor
open Go.Proofs
set_option maxRecDepth 4000
theorem Ie (f:Fm)(r:List Fm):bn (iF (f :: r))=bn (Nq f) ++ bn (iF r):=by rw [iF,aS]
theorem ZR (f:Fm):1<=(bn (Nq f)).length:=by rw [txF];simp
theorem Na:∀fs:List Fm,fs.length<=(bn (iF fs)).length
 | []=>Nat.zero_le _
 | f :: r=>by
   have h1:=Na r
   have h2:=ZR f
   rw [Ie];simp only [bM,bg];omega
@[reducible] def fnX (v:AV) (o oa ga n:Nat):Env:=put (some 19) (.b false) [(0,v),(4,.p o 0 0),(16,.sl oa ga 0 n 1),(17,.i .i64 n),(18,.i .i64 n)]
section
variable {o A:Nat} {bb:Bool}
theorem pz.kept {S:Nat->Prop} {Z Z':St} {v:AV} {f:Fm} (hS:∀i,S i->i<A/\i≠o)(h:pz S Z v f)(k:jg A o Z Z'):pz S Z' v f:=h.mono (fun _ h=>h) (fun i hi a ha=>by rw [k.low i (hS i hi).1 (hS i hi).2];exact ha)
theorem OX (dw:o<A)(hG:10<=A/\10<=o) {S:Nat->Prop} (hS:∀i,S i->i<A/\i≠o) {op oa ga:Nat} {cs:List AV} (hoa:S oa)(hcl:cs.length<=1000000000):∀(r:List Fm),(∀f∈r,Qq f)->∀(m:Nat) (Z:St) (l:List UInt8),m+r.length=cs.length->
 (∀(i:Nat) f,r[i]? =some f->∃a,cs[m+i]? =some a/\pz S Z a f)->Z[oa]? =some ⟨ga,false,.cells 64 cs⟩->bY A o Z l 0 bb->A<=Z.length->iV Z=true->l.length+(bn (iF r)).length<=1000000000->∀{Q:Out->Env->St->Prop},
 (∀Z',bY A o Z' (l ++ bn (iF r)) 0 bb->jg A o Z Z'->Q (.exit 0) (fnX (.p op 0 0) o oa ga cs.length) Z')->aV X [0,4,16,17,18] c9L0 [(0,.p op 0 0),(4,.p o 0 0),(16,.sl oa ga 0 cs.length 1),(17,.i .i64 cs.length),(18,.i .i64 m)] Z Q:=by
 intro r
 induction r with
 | nil=>
   intro _ m Z l hm _ _ hb _ _ _ Q q
   obtain rfl:m=cs.length:=hm
   refine aV.round ay (lit:=false) ?_
   conv=>whnf
   rw [decide_eq_false (by omega)]
   conv=>whnf
   conv=>whnf
   exact q Z (by simpa [iF,bn] using hb) (.refl _ _ _)
 | cons f r ih=>
   intro hw m Z l hm hel ho hb hA hT hl Q q
   have hxo:=hS oa hoa
   simp only [bg] at hm
   obtain⟨a,ha,hx⟩:=hel 0 f rfl
   obtain⟨ox,rfl⟩:∃ox,a= .p ox 0 0:=by obtain⟨ox,_,_,_,h,_⟩:=hx;exact⟨ox,h⟩
   have ha':cs[0+m*1]? =some (.p ox 0 0):=by rw [Nat.zero_add,Nat.mul_one];exact ha
   rw [Ie] at hl q
   rw [bM] at hl
   refine aV.round ay (lit:=false) ?_
   conv=>whnf
   rw [decide_eq_true (by omega)]
   conv=>whnf
   conv=>whnf
   refine⟨m,rfl,by omega,?_⟩
   conv=>whnf
   refine ak (aj (T:=dY) rfl rfl (ah ho) ha') ?_
   conv=>whnf
   refine M_ dw hG (hw f (List.mem_cons_self ..)) hS hx hb hA hT (by omega) fun Z1 h1 k1=>?_
   have l1:=k1.len
   conv=>whnf
   refine⟨((m+1:Nat):Int),wrap_i64 (by omega) (by omega),?_⟩
   conv=>whnf
   refine ih (fun f hf=>hw f (List.mem_cons_of_mem _ hf)) (m+1) Z1 _ (by omega) (fun i t ht=>?_) ((k1.low oa hxo.1 hxo.2).trans ho) h1 (by omega) (k1.tab hG hT) (by rw [bM];omega) fun Z' h4 k4=>?_
   ·obtain⟨a,h1,h2⟩:=hel (i+1) t (by simpa using ht)
    exact⟨a,by rw [show m+1+i=m+(i+1) by omega];exact h1,h2.kept hS k1⟩
   ·exact q Z' (by simpa [iC] using h4) (k1.trans k4)
theorem WM {d:Nat} {Z:St} {l:List UInt8} (hb:bY A o Z l d bb):au X 21 [.p o 0 0] Z fun v s=>v= .i .i64 l.length/\s=Z:=by
 obtain⟨b0,buf,hob,_,_,hs⟩:=hb
 have hlen:(buf= .sl0/\l=[])\/∃o1 g1,buf= .sl o1 g1 0 l.length 1:=by
  rcases hs with ⟨h1,h2⟩ | ⟨o1,g1,_,h,_⟩
  ·exact .inl ⟨h2,H_ h1⟩
  ·exact .inr ⟨o1,g1,by rw [h,jk]⟩
 rcases hlen with ⟨rfl,rfl⟩ | ⟨o1,g1,rfl⟩
 ·refine au.body (F:=F21) ay (lit:=false) rfl rfl (aU rfl) ?_
  conv=>whnf
  refine ak (aj (T:=YC) rfl rfl (ah (hob)) rfl) ?_
  conv=>whnf
  exact Fin.flat rfl iq ⟨rfl,rfl⟩
 ·refine au.body (F:=F21) ay (lit:=false) rfl rfl (aU rfl) ?_
  conv=>whnf
  refine ak (aj (T:=YC) rfl rfl (ah (hob)) rfl) ?_
  conv=>whnf
  exact Fin.flat rfl iq ⟨rfl,rfl⟩
theorem str_to {d:Nat} {Z:St} {l:List UInt8} (hb:bY A o Z l d bb)(dw:o<A)(hl:l.length<=4294967296):∃Z1,xJ [.p o 0 0] Z=some (.s l,Z1)/\(∀i,i<A->Z1[i]? =Z[i]?)/\Z1.length=Z.length/\∀Z2,Ext Z1 Z2->xJ [.p o 0 0] Z2=some (.s l,Z2):=by
 obtain⟨b0,buf,hob,_,hbn,hs⟩:=hb
 rcases hs with ⟨h1,rfl⟩ | ⟨o1,g1,hA1,rfl,h3⟩
 ·obtain rfl:=H_ h1
  exact⟨Z,by simp only [xJ,hob],fun _ _=>rfl,rfl,fun Z2 x=>by simp only [xJ,x.get hob]⟩
 ·have hn:0<l.length\/l=[]:=by
   cases l with
   | nil=>exact .inr rfl
   | cons=>exact .inl (by simp)
  rcases hn with hn | rfl
  ·have e1:(iM l).take (iM l).length=iM l:=iq
   refine⟨Z.set o1 ⟨g1,false,.froz 5 l⟩,?_,fun i hi=>by rw [rZ (by omega)],by rw [gK],fun Z2 x=>?_⟩
   ·simp only [xJ,hob,h3]
    rw [if_pos ⟨trivial,Nat.le_refl _,by rw [jk];exact hn,by rw [jk];exact hl⟩,e1,wU]
    simp only
    rw [if_pos (AV.nM _)]
   ·have ho2:Z2[o]? =some ⟨0,false,.cells 79 [b0,.sl o1 g1 0 (iM l).length 1,.i .i64 d,.b bb]⟩:=x.get (by rw [rZ (by omega)];exact hob)
    have ho3:Z2[o1]? =some ⟨g1,false,.froz 5 l⟩:=x.get (at_set h3 _)
    simp only [xJ,ho2,ho3]
    rw [if_pos ⟨trivial,(jk l).symm,by rw [jk];exact hn,by rw [jk];exact hl⟩]
  ·exact absurd (hbn rfl) (by intro e;cases e)
end
set_option maxHeartbeats 2000000 in
theorem WO {S:Nat->Prop} {Z:St} {v:AV} {fs:List Fm} (hg:Z.take G0.length=G0)(hv:qo S Z v fs)(hp:Prog fs) {Q:AV->St->Prop}
 (q1:32768<(bn (iF fs)).length->∀Z',Ext Z Z'->Q (.tu [.s [],.i .i64 3]) Z') (q2:(bn (iF fs)).length<=32768->∀Z',Ext Z Z'->Q (.tu [.s (bn (iF fs)),.i .i64 0]) Z') :
 au X 9 [v] Z Q:=by
 have hlen:=hp.len
 have hfl:=Na fs
 have hgl:G0.length=10:=rfl
 have hZ:10<=Z.length:=by
  have:=congrArg List.length hg
  rw [List.length_take,hgl] at this
  omega
 have hv0:=hv
 obtain⟨op,Ap,hsp,rfl,hop,hAp⟩:=hv
 have hlo:=bK hop
 have hopen:∀(Z1:St),Ext Z Z1->Z1.length=Z.length+1->Z1[Z.length]? =some ⟨0,false,.cells 79 [.p0,.sl0,.i .i64 0,.b false]⟩->bY (Z.length+1) Z.length Z1 [] 0 false:=fun Z1 _ _ h=>⟨_,_,h,.inl rfl,fun _=>rfl,.inl ⟨rfl,rfl⟩⟩
 have htab:∀(Z1:St),Ext Z Z1->iV Z1=true:=by
  intro Z1 x
  have hT0:iV G0=true:=by decide +kernel
  unfold iV at hT0 ⊢
  have e1:Z1[5]? =G0[5]? :=by rw [x.old _ (by omega)];exact vC hg (by decide)
  rw [e1];exact hT0
 have behind:∀(Z2:St),bY (Z.length+1) Z.length Z2 (bn (iF fs)) 0 false->(∀i,i<Z.length->Z2[i]? =Z[i]?)->Z.length+1<=Z2.length->Ext Z Z2:=fun Z2 _ h1 h2=>⟨by omega,h1⟩
 have second:(bn (iF fs)).length<=32768->∀(Z2:St),bY (Z.length+1) Z.length Z2 (bn (iF fs)) 0 false->Ext Z Z2->Z.length+1<=Z2.length->∃Z3,xJ [.p Z.length 0 0] Z2=some (.s (bn (iF fs)),Z3)/\Ext Z Z3/\Z.length+1<=Z3.length/\(∃b0 buf,Z3[Z.length]? =some ⟨0,false,.cells 79 [b0,buf,.i .i64 0,.b false]⟩)/\
  (∀{Q2:AV->St->Prop},(∀o' Z4,Ext Z3 Z4->Ext Z Z4->au X 11 [.p op 0 0,.p o' 0 0] Z4 (fun v s=>v= .b true/\s=Z4)->xJ [.p Z.length 0 0] Z4=some (.s (bn (iF fs)),Z4)->Q2 (.tu [.p o' 0 0,.ic0]) Z4)->au X 10 [.s (bn (iF fs))] Z3 Q2):=by
  intro hl Z2 h2 x2 l2
  obtain⟨Z3,e3,hlow,hl3,again⟩:=str_to h2 (Nat.lt_succ_self _) (by omega)
  have x3:Ext Z Z3:=⟨by omega,fun i hi=>by rw [hlow i (by omega)];exact x2.old i hi⟩
  obtain⟨b0,buf,hob,_⟩:=h2
  refine⟨Z3,e3,x3,by omega,⟨b0,buf,by rw [hlow _ (by omega)];exact hob⟩,fun {Q2} q=>?_⟩
  obtain⟨gs,ts,hgs,_,hsame⟩:=OT hp.wf hl
  have hg3:Z3.take G0.length=G0:=by
   have h:=congrArg (List.take G0.length) x3.take
   rw [List.take_take,Nat.min_eq_left (by omega)] at h
   rw [h];exact hg
  refine Jk _ Z3 hg3 Q2 ?_
  rw [hgs]
  intro o' Z4 x4 hP
  have x04:Ext Z Z4:=x3.trans x4
  refine q o' Z4 x4 x04 ?_ (again Z4 x4)
  have hs:=same_p (hv0.mono (fun _ h=>h) (fun i _ a ha=>x04.get ha)) hP hp.w (MW hgs)
  rw [hsame] at hs
  exact hs
 have fin1:∀(Z2:St),Ext Z Z2->32768<(bn (iF fs)).length->Fin Z (.tu [.s [],.i .i64 3]) Z2 Q:=fun Z2 x h=>lZ (q1 h Z2 x) fun ht=>q1 h Z (.refl _)
 have fin2:∀(Z2:St),Ext Z Z2->(bn (iF fs)).length<=32768->Fin Z (.tu [.s (bn (iF fs)),.i .i64 0]) Z2 Q:=fun Z2 x h=>lZ (q2 h Z2 x) fun ht=>q2 h Z (.refl _)
 have ofK:∀(Z1 Z2:St),Ext Z Z1->Z1.length=Z.length+1->jg (Z.length+1) Z.length Z1 Z2->Ext Z Z2/\Z.length+1<=Z2.length:=fun Z1 Z2 x l k=>⟨⟨by have:=k.len;omega,fun i hi=>by rw [k.low i (by omega) (by omega)];exact x.old i hi⟩,by have:=k.len;omega⟩
 clear q1 q2
 rcases hAp with ⟨rfl,rfl⟩ | ⟨o2,g2,cs,hs2,rfl,ho2,hE,_⟩
 ·refine au.body (F:=F9) ay (lit:=false) rfl rfl (aU rfl) ?_
  conv=>whnf
  have b1:(newCells 79 (AV.ag [.p0,.sl0,.i .i64 0,.b false]).cells Z)[Z.length]? =some ⟨0,false,.cells 79 [.p0,.sl0,.i .i64 0,.b false]⟩:=aG _ _ _
  have x1:Ext Z (newCells 79 (AV.ag [.p0,.sl0,.i .i64 0,.b false]).cells Z):=(Ext.refl Z).new _ _
  have l1:(newCells 79 (AV.ag [.p0,.sl0,.i .i64 0,.b false]).cells Z).length=Z.length+1:=aH _ _ _
  generalize newCells 79 (AV.ag [.p0,.sl0,.i .i64 0,.b false]).cells Z=Z1 at b1 x1 l1 ⊢
  have hop1:=x1.get hop
  refine ak (aj (T:=ug) rfl rfl (ah (hop1)) rfl) ?_
  conv=>whnf
  refine aV.round ay (lit:=false) ?_
  conv=>whnf
  have h2:=hopen Z1 x1 l1 b1
  refine au.to (WM h2) ?_
  conv=>whnf
  obtain⟨Z3,e3,x3,l3,⟨b0,buf,hw3⟩,hpar⟩:=second (Nat.zero_le _) Z1 h2 x1 (by omega)
  refine au.fM (g:=xJ) rfl e3 ?_
  conv=>whnf
  refine hpar fun o' Z4 x4 x04 hsame OY=>?_
  have hw4:=x4.get hw3
  conv=>whnf
  refine ak (aj (T:=xH) rfl rfl (ah (hw4)) rfl) ?_
  conv=>whnf
  refine au.to hsame ?_
  conv=>whnf
  refine au.fM (g:=xJ) rfl OY ?_
  conv=>whnf
  exact fin2 Z4 x04 (Nat.zero_le _)
 ·have hl2:=bK ho2
  obtain⟨hcl,hel⟩:=hE.below.list
  refine au.body (F:=F9) ay (lit:=false) rfl rfl (aU rfl) ?_
  conv=>whnf
  have b1:(newCells 79 (AV.ag [.p0,.sl0,.i .i64 0,.b false]).cells Z)[Z.length]? =some ⟨0,false,.cells 79 [.p0,.sl0,.i .i64 0,.b false]⟩:=aG _ _ _
  have x1:Ext Z (newCells 79 (AV.ag [.p0,.sl0,.i .i64 0,.b false]).cells Z):=(Ext.refl Z).new _ _
  have l1:(newCells 79 (AV.ag [.p0,.sl0,.i .i64 0,.b false]).cells Z).length=Z.length+1:=aH _ _ _
  generalize newCells 79 (AV.ag [.p0,.sl0,.i .i64 0,.b false]).cells Z=Z1 at b1 x1 l1 ⊢
  have hop1:=x1.get hop
  refine ak (aj (T:=ug) rfl rfl (ah (hop1)) rfl) ?_
  conv=>whnf
  refine OX (A:=Z.length+1) (o:=Z.length) (op:=op) (S:=fun i=>S i/\i<Z.length) (Nat.lt_succ_self _) ⟨by omega,by omega⟩ (fun i hi=>⟨by omega,by omega⟩) (oa:=o2) ⟨hs2,hl2⟩ (by omega) fs hp.wf 0 Z1 [] (by omega) (fun i f hf=>?_) (x1.get ho2) (hopen Z1 x1 l1 b1) (by omega) (htab Z1 x1) (by simp only [bZ];omega) fun Z2 h2 k2=>?_
  ·obtain⟨a,q1,q2⟩:=hel i f hf
   exact⟨a,by rw [Nat.zero_add];exact q1,q2.mono (fun _ h=>h) (fun i _ a ha=>x1.get ha)⟩
  rw [List.nil_append] at h2
  obtain⟨x2,l2⟩:=ofK Z1 Z2 x1 l1 k2
  conv=>whnf
  refine au.to (WM h2) ?_
  conv=>whnf
  by_cases hbig:32768<(bn (iF fs)).length
  ·rw [show decide ((32768:Int)<((bn (iF fs)).length:Int))=true from decide_eq_true (by omega)]
   conv=>whnf
   exact fin1 Z2 x2 hbig
  ·rw [show decide ((32768:Int)<((bn (iF fs)).length:Int))=false from decide_eq_false (by omega)]
   conv=>whnf
   obtain⟨Z3,e3,x3,l3,⟨b0,buf,hw3⟩,hpar⟩:=second (by omega) Z2 h2 x2 l2
   refine au.fM (g:=xJ) rfl e3 ?_
   conv=>whnf
   refine hpar fun o' Z4 x4 x04 hsame OY=>?_
   have hw4:=x4.get hw3
   conv=>whnf
   refine ak (aj (T:=xH) rfl rfl (ah (hw4)) rfl) ?_
   conv=>whnf
   refine au.to hsame ?_
   conv=>whnf
   refine au.fM (g:=xJ) rfl OY ?_
   conv=>whnf
   exact fin2 Z4 x04 (by omega)
end Go.Abs.YtlkfbfhkcaldlaaGreatDoor
