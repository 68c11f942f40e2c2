/- Texts of this claim, joined: Uh, Ui. -/
import Derived.Test.YtlkfbfhkcaldlaaGreatDoorM30
set_option linter.unusedVariables false
set_option linter.unusedSimpArgs false
namespace Go.Abs.YtlkfbfhkcaldlaaGreatDoor
open Go.Proofs
set_option maxRecDepth 4000
theorem I4 (d:Nat):∀l:List Sm,l.length≤(IZ d l).length
 | []=>Nat.zero_le _
 | s :: r=>by
   have:=I4 d r
   simp only [IZ,List.length_append,List.length_cons,List.length_nil];omega
theorem I5:∀(l:Sms) (i:Nat) (s:Sm),(smL l)[i]? =some s→dS s≤dSs l
 | .nil,i,s,h=>by simp [smL] at h
 | .cons a r,0,s,h=>by simp only [smL,List.getElem?_cons_zero,Option.some.injEq] at h;subst h;simp only [dSs];omega
 | .cons a r,i+1,s,h=>by
   have:=I5 r i s (by simpa [smL] using h)
   simp only [dSs];omega
theorem Vz (s:Sm)(r:Sms)(h:¬(endS r=true∧kS s=4)):dEl (.cons s r)=1+max (dS s) (dSs r):=by
 simp only [dEl];exact if_neg h
def yN (b:Sms)(d:Nat):List UInt8:=txP (opnP ++ pcSs b (d+1) ++ clsP d)
theorem RU (b:Sms)(d:Nat):(smL b).length≤(yN b d).length:=by
 have:=I4 (d+1) (smL b)
 unfold yN
 rw [txP_app,txP_app,Vy];simp only [List.length_append];omega
theorem tx_1 (nm:List UInt8)(p:Bool)(r:Tr)(ln d:Nat):txP (pcS (.st 1 nm p .nil r .nil .nil ln) d)=[118,97,114,32] ++ nm ++ (if p=true then [32,112,116,114] else []) ++ (if isNil r=true then [59] else [32,61,32] ++ iJ r 1 ++ [59]):=by
 cases p <;> by_cases h:isNil r=true <;> simp [pcS,txP_app,txP,h,CV,eqP,wVar,wPtr]
theorem tx_2 (nm:List UInt8)(r:Tr)(ln d:Nat):txP (pcS (.st 2 nm false .nil r .nil .nil ln) d)=nm ++ [32,61,32] ++ iJ r 1 ++ [59]:=by simp [pcS,txP_app,txP,CV,eqP]
theorem tx_3 (l r:Tr)(ln d:Nat):txP (pcS (.st 3 [] false l r .nil .nil ln) d)=iJ l 8 ++ ([32,61,32] ++ iJ r 1 ++ [59]):=by simp [pcS,txP_app,txP,CV,eqP]
theorem tx_4 (r:Tr)(th el:Sms)(ln d:Nat):txP (pcS (.st 4 [] false .nil r th el ln) d)=[105,102,32] ++ iJ r 1 ++ yN th d ++ txP (pcEl el d):=by simp [pcS,yN,txP_app,txP,CV,wIf]
theorem tx_5 (r:Tr)(th:Sms)(ln d:Nat):txP (pcS (.st 5 [] false .nil r th .nil ln) d)=[119,104,105,108,101,32] ++ iJ r 1 ++ yN th d:=by simp [pcS,yN,txP_app,txP,CV,wWhile]
theorem tx_6 (r:Tr)(ln d:Nat):txP (pcS (.st 6 [] false .nil r .nil .nil ln) d)=[111,117,116,32] ++ iJ r 1 ++ [59]:=by simp [pcS,txP_app,txP,CV,wOut]
theorem tx_7 (r:Tr)(ln d:Nat):txP (pcS (.st 7 [] false .nil r .nil .nil ln) d)=[102,114,101,101,32] ++ iJ r 1 ++ [59]:=by simp [pcS,txP_app,txP,CV,wFree]
theorem tx_8 (ln d:Nat):txP (pcS (.st 8 [] false .nil .nil .nil .nil ln) d)=[100,114,97,105,110,59]:=by simp [pcS,txP,wDrain]
theorem tx_9 (r:Tr)(ln d:Nat):txP (pcS (.st 9 [] false .nil r .nil .nil ln) d)=if isNil r=true then [114,101,116,117,114,110,59] else [114,101,116,117,114,110,32] ++ iJ r 1 ++ [59]:=by
 by_cases h:isNil r=true <;> simp [pcS,txP_app,txP,CV,wReturn,h]
theorem tx_10 (r:Tr)(ln d:Nat):txP (pcS (.st 10 [] false .nil r .nil .nil ln) d)=[] ++ iJ r 1 ++ [59]:=by simp [pcS,txP_app,txP,CV]
theorem VA (d:Nat):txP (pcEl .nil d)=[]:=by simp [pcEl,txP]
theorem RV (s:Sm)(r:Sms)(d:Nat)(h:endS r=true∧kS s=4):txP (pcEl (.cons s r) d)=[32,101,108,115,101,32] ++ txP (pcS s d):=by simp [pcEl,h.1,h.2,txP,wElse]
theorem RX (s:Sm)(r:Sms)(d:Nat)(h:¬(endS r=true∧kS s=4)):txP (pcEl (.cons s r) d)=[32,101,108,115,101] ++ yN (.cons s r) d:=by simp [pcEl,h,yN,pcSs,txP_app,txP,wElse]
section
variable {o A:Nat} {bb:Bool}
abbrev Ko:Nat:=80
abbrev brN:Nat:=110
def AQ (A o:Nat)(bb:Bool)(b:Sms):Prop:=∀(i:Nat) s,(smL b)[i]? =some s→gU A o bb 80 s (fun d=>txP (pcS s d))
theorem um (bP:o<A)(hG:10≤A∧10≤o) {S:Nat→Prop} (hS:∀i,S i→i<A∧i≠o) {d:Nat} {b:Sms} (CP:AQ A o bb b)(hd:d+1+dSs b≤70) {σ:St} {v:AV} {l:List UInt8} (hv:dn S σ v b)
 (hb:bI A o σ l d bb) (hA:A≤σ.length) (hT:fJ σ=true) (hl:l.length+(yN b d).length≤1000000000) {Q:AV→St→Prop} (q:∀σ',bI A o σ' (l ++ yN b d) d bb→fP A o σ σ'→Q (.tu []) σ'):ay X 45 [.p o 0 0,v] σ Q:=
 OL bP hG hS (fun i s hs=>⟨CP i s hs,by have:=I5 b i s hs;omega⟩) (by omega) hv (by have:=RU b d;omega) hb hA hT hl q
theorem dn.shape {S:Nat→Prop} {σ:St} {v:AV} :∀{t:Sms},dn S σ v t→v= .sl0∨∃o g n,v= .sl o g 0 n 1
 | .nil,h=>.inl h
 | .cons ..,h=>by obtain⟨o,g,cs,_,hv,_⟩:=h;exact .inr ⟨o,g,_,hv⟩
theorem AU (bP:o<A)(hG:10≤A∧10≤o) {r:Tr} {th el:Sms} {ln:Nat} (hw:WT r)(hth:AQ A o bb th)(hel:AQ A o bb el)(hif:∀s,el= .cons s .nil→kS s=4→gU A o bb 110 s (fun d=>txP (pcS s d))) :
 gU A o bb 110 (.st 4 [] false .nil r th el ln) (fun d=>txP (pcS (.st 4 [] false .nil r th el ln) d)):=by
 intro S σ v l d hS hv hb hA hT hd hl Q q
 obtain⟨ox,gx,L,R,T,E,hs,rfl,hx,_,hR,V9,hEl⟩:=hv
 simp only [tx_4] at hl q
 simp only [dS,if_true] at hd
 simp only [List.length_append,List.length_cons,List.length_nil] at hl
 have hxo:=hS ox hs
 obtain⟨oR,gR,rfl⟩:=hR.ptr hw
 have hshT:=V9.shape
 cases el with
 | nil=>
   obtain rfl:E= .sl0:=hEl
   rw [VA] at q
   refine ay.body (F:=LP) aC (lit:=false) rfl rfl (Nat.le_of_ble_eq_true rfl) ?_
   conv=>whnf
   refine aY [[105,102,32]] hb bP hA (by simp) (by simp;omega) fun σ1 h1 k1=>?_
   have l1:=k1.len
   have hx1:σ1[ox]? =_:=(k1.low ox hxo.1 hxo.2).trans hx
   conv=>whnf
   refine ak (aj (T:=aV) rfl rfl (ah (hx1)) rfl) ?_
   conv=>whnf
   refine dZ bP hG r hw 1 hS (hR.kept hS k1) h1 (by omega) (k1.tab hG hT) (by simp;omega) fun σ2 h2 k2'=>?_
   have k2:=k1.trans k2'
   have l2:=k2.len
   have hx2:σ2[ox]? =_:=(k2.low ox hxo.1 hxo.2).trans hx
   conv=>whnf
   refine ak (aj (T:=cO) rfl rfl (ah hx2) rfl) ?_
   refine bY _ _ ?_
   refine dh _ _ ?_
   refine um bP hG hS hth (by omega) (V9.kept hS k2) h2 (by omega) (k2.tab hG hT) (by simp;omega) fun σ3 h3 jF=>?_
   have k3:=k2.trans jF
   have l3:=k3.len
   have hx3:σ3[ox]? =_:=(k3.low ox hxo.1 hxo.2).trans hx
   conv=>whnf
   refine ak (aj (T:=cO) rfl rfl (ah (hx3)) rfl) ?_
   conv=>whnf
   refine ak (aj (T:=cO) rfl rfl (ah (hx3)) rfl) ?_
   conv=>whnf
   exact hb.fin (by simpa [List.append_assoc] using h3) k3 (by simpa [List.append_assoc] using q)
 | cons s y=>
   obtain⟨oE,gE,cs,hoE,rfl,hE,a,tl,hcs,hsA,hyA⟩:=hEl
   have hEl':dn S σ (.sl oE gE 0 cs.length 1) (.cons s y):=⟨oE,gE,cs,hoE,rfl,hE,a,tl,hcs,hsA,hyA⟩
   have V_:=hS oE hoE
   obtain⟨os,gs,rfl⟩:=hsA.ptr
   have hlen:cs.length=tl.length+1:=by rw [hcs];rfl
   have hy0:tl.length=0↔endS y=true:=by
    cases y with
    | nil=>have h:tl=[]:=hyA;subst h;simp [endS]
    | cons=>obtain⟨a2,tl2,h,_⟩:=hyA;subst h;simp [endS]
   have hcell:cs[0+0*1]? =some (.p os gs 0):=by rw [hcs];rfl
   obtain⟨ks,nms,ps,lls,rrs,ths,els,lns⟩:=s
   have hsA':=hsA
   obtain⟨o2,g2,L2,R2,T2,E2,hs2,hv2,hx2s,_⟩:=hsA
   injection hv2 with e1 e2 _
   subst e1;subst e2
   have hso:=hS _ hs2
   have key:∀{Q':AV→St→Prop} (hq:∀σ',bI A o σ' (l ++ ([105,102,32] ++ iJ r 1 ++ yN th d ++ txP (pcEl (.cons (.st ks nms ps lls rrs ths els lns) y) d))) d bb→fP A o σ σ'→Q' (.tu []) σ'),
        ay X 110 [.p o 0 0,.p ox gx 0] σ Q':=by
    intro Q' hq
    by_cases hk:endS y=true∧ks=4
    ·rw [RV _ _ _ hk] at hq hl
     simp only [List.length_append,List.length_cons,List.length_nil] at hl
     have h0:=hy0.2 hk.1
     have hy:y= .nil:=by cases y with
      | nil=>rfl
      | cons=>cases hk.1
     subst hy
     obtain⟨_,rfl⟩:=hk
     rw [show cs.length=1 by omega] at hx
     simp only [dEl,show endS .nil=true from rfl,kS,and_self,if_true] at hd
     refine ay.body (F:=LP) aC (lit:=false) rfl rfl (Nat.le_of_ble_eq_true rfl) ?_
     conv=>whnf
     refine aY [[105,102,32]] hb bP hA (by simp) (by simp;omega) fun σ1 h1 k1=>?_
     have l1:=k1.len
     have hx1:σ1[ox]? =_:=(k1.low ox hxo.1 hxo.2).trans hx
     conv=>whnf
     refine ak (aj (T:=aV) rfl rfl (ah (hx1)) rfl) ?_
     conv=>whnf
     refine dZ bP hG r hw 1 hS (hR.kept hS k1) h1 (by omega) (k1.tab hG hT) (by simp;omega) fun σ2 h2 k2'=>?_
     have k2:=k1.trans k2'
     have l2:=k2.len
     have hx2:σ2[ox]? =_:=(k2.low ox hxo.1 hxo.2).trans hx
     conv=>whnf
     refine ak (aj (T:=cO) rfl rfl (ah hx2) rfl) ?_
     refine bY _ _ ?_
     refine dh _ _ ?_
     refine um bP hG hS hth (by omega) (V9.kept hS k2) h2 (by omega) (k2.tab hG hT) (by simp;omega) fun σ3 h3 jF=>?_
     have k3:=k2.trans jF
     have l3:=k3.len
     have hx3:σ3[ox]? =_:=(k3.low ox hxo.1 hxo.2).trans hx
     have hE3:σ3[oE]? =_:=(k3.low oE V_.1 V_.2).trans hE
     have hs3:σ3[os]? =_:=(k3.low os hso.1 hso.2).trans hx2s
     conv=>whnf
     refine ak (aj (T:=cO) rfl rfl (ah (hx3)) rfl) ?_
     conv=>whnf
     refine ak (aj (T:=cO) rfl rfl (ah (hx3)) rfl) ?_
     conv=>whnf
     refine⟨0,rfl,by decide,?_⟩
     conv=>whnf
     refine ak (aj (T:=bZ) rfl rfl (ah hE3) hcell) ?_
     conv=>whnf
     refine ak (aj (T:=cO) rfl rfl (ah (hx3)) rfl) ?_
     conv=>whnf
     refine⟨0,rfl,by decide,?_⟩
     conv=>whnf
     refine ak (aj (T:=bZ) rfl rfl (ah hE3) hcell) ?_
     conv=>whnf
     refine ak (aj (T:=dJ) rfl rfl (ah (hs3)) rfl) ?_
     conv=>whnf
     refine aY [[32,101,108,115,101,32]] h3 bP (by omega) (by simp) (by simp;omega) fun bW h4 J8=>?_
     have k4:=k3.trans J8
     have l4:=k4.len
     have hx4:bW[ox]? =_:=(k4.low ox hxo.1 hxo.2).trans hx
     have hE4:bW[oE]? =_:=(k4.low oE V_.1 V_.2).trans hE
     conv=>whnf
     refine ak (aj (T:=cO) rfl rfl (ah (hx4)) rfl) ?_
     conv=>whnf
     refine⟨0,rfl,by decide,?_⟩
     conv=>whnf
     refine ak (aj (T:=bZ) rfl rfl (ah hE4) hcell) ?_
     conv=>whnf
     refine hif _ rfl rfl d hS (hsA'.kept hS k4) h4 (by omega) (k4.tab hG hT) (by omega) (by simp;omega) fun dL h5 k5=>?_
     conv=>whnf
     exact hb.fin (by simpa [List.append_assoc] using h5) (k4.trans k5) (by simpa [List.append_assoc] using hq)
    ·rw [RX _ _ _ hk] at hq hl
     simp only [List.length_append,List.length_cons,List.length_nil] at hl
     rw [Vz _ _ (show ¬(endS y=true∧kS (.st ks nms ps lls rrs ths els lns)=4) from hk)] at hd
     have hd2:d+1+dSs (.cons (.st ks nms ps lls rrs ths els lns) y)≤70:=by simp only [dSs];omega
     have tail:∀(σ3:St),bI A o σ3 (l ++ [[105,102,32]].flatten ++ iJ r 1 ++ yN th d) d bb→fP A o σ σ3→∀{Q2:AV→St→Prop},(∀bW,bI A o bW (l ++ [[105,102,32]].flatten ++ iJ r 1 ++ yN th d ++ [[32,101,108,115,101]].flatten) d bb→fP A o σ bW→Q2 (.tu []) bW)→
            ay X 44 [.p o 0 0,.sl σ3.length 0 0 1 1] (au 9 [.s [32,101,108,115,101]] σ3) Q2:=by
      intro σ3 h3 k3 Q2 q2
      have:=k3.len
      exact aY [[32,101,108,115,101]] h3 bP (by omega) (by simp) (by simp;omega) fun bW h4 k4=>q2 bW h4 (k3.trans k4)
     have fin:∀(bW:St),bI A o bW (l ++ [[105,102,32]].flatten ++ iJ r 1 ++ yN th d ++ [[32,101,108,115,101]].flatten) d bb→fP A o σ bW→∀{Q2:AV→St→Prop},(∀dL,bI A o dL (l ++ ([105,102,32] ++ iJ r 1 ++ yN th d ++ ([32,101,108,115,101] ++ yN (.cons (.st ks nms ps lls rrs ths els lns) y) d))) d bb→fP A o σ dL→Q2 (.tu []) dL)→
            ay X 45 [.p o 0 0,.sl oE gE 0 cs.length 1] bW Q2:=by
      intro bW h4 k4 Q2 q2
      have:=k4.len
      exact um bP hG hS hel hd2 (hEl'.kept hS k4) h4 (by omega) (k4.tab hG hT) (by simp;omega) fun dL h5 k5=>q2 dL (by simpa [List.append_assoc] using h5) (k4.trans k5)
     refine ay.body (F:=LP) aC (lit:=false) rfl rfl (Nat.le_of_ble_eq_true rfl) ?_
     conv=>whnf
     refine aY [[105,102,32]] hb bP hA (by simp) (by simp;omega) fun σ1 h1 k1=>?_
     have l1:=k1.len
     have hx1:σ1[ox]? =_:=(k1.low ox hxo.1 hxo.2).trans hx
     conv=>whnf
     refine ak (aj (T:=aV) rfl rfl (ah (hx1)) rfl) ?_
     conv=>whnf
     refine dZ bP hG r hw 1 hS (hR.kept hS k1) h1 (by omega) (k1.tab hG hT) (by simp;omega) fun σ2 h2 k2'=>?_
     have k2:=k1.trans k2'
     have l2:=k2.len
     have hx2:σ2[ox]? =_:=(k2.low ox hxo.1 hxo.2).trans hx
     conv=>whnf
     refine ak (aj (T:=cO) rfl rfl (ah hx2) rfl) ?_
     refine bY _ _ ?_
     refine dh _ _ ?_
     refine um bP hG hS hth (by omega) (V9.kept hS k2) h2 (by omega) (k2.tab hG hT) (by simp;omega) fun σ3 h3 jF=>?_
     have k3:=k2.trans jF
     have l3:=k3.len
     have hx3:σ3[ox]? =_:=(k3.low ox hxo.1 hxo.2).trans hx
     have hE3:σ3[oE]? =_:=(k3.low oE V_.1 V_.2).trans hE
     have hs3:σ3[os]? =_:=(k3.low os hso.1 hso.2).trans hx2s
     conv=>whnf
     refine ak (aj (T:=cO) rfl rfl (ah (hx3)) rfl) ?_
     conv=>whnf
     by_cases h1c:cs.length=1
     ·have hks:ks≠4:=fun e=>hk ⟨hy0.1 (by omega),e⟩
      rw [show decide ((cs.length:Int)=1)=true from decide_eq_true (by omega)]
      conv=>whnf
      refine ak (aj (T:=cO) rfl rfl (ah (hx3)) rfl) ?_
      conv=>whnf
      refine⟨0,rfl,by omega,?_⟩
      conv=>whnf
      refine ak (aj (T:=bZ) rfl rfl (ah hE3) hcell) ?_
      conv=>whnf
      refine ak (aj (T:=cO) rfl rfl (ah (hx3)) rfl) ?_
      conv=>whnf
      refine⟨0,rfl,by omega,?_⟩
      conv=>whnf
      refine ak (aj (T:=bZ) rfl rfl (ah hE3) hcell) ?_
      conv=>whnf
      refine ak (aj (T:=dJ) rfl rfl (ah (hs3)) rfl) ?_
      conv=>whnf
      rw [show decide ((ks:Int)=4)=false from decide_eq_false (by omega)]
      conv=>whnf
      refine ak (aj (T:=cO) rfl rfl (ah (hx3)) rfl) ?_
      conv=>whnf
      rw [show decide ((0:Int)<(cs.length:Int))=true from decide_eq_true (by omega)]
      conv=>whnf
      refine tail σ3 h3 k3 fun bW h4 k4=>?_
      have hx4:bW[ox]? =_:=(k4.low ox hxo.1 hxo.2).trans hx
      conv=>whnf
      refine ak (aj (T:=cO) rfl rfl (ah (hx4)) rfl) ?_
      conv=>whnf
      refine fin bW h4 k4 fun dL h5 k5=>?_
      conv=>whnf
      exact hb.fin h5 k5 hq
     ·rw [show decide ((cs.length:Int)=1)=false from decide_eq_false (by omega)]
      conv=>whnf
      refine ak (aj (T:=cO) rfl rfl (ah (hx3)) rfl) ?_
      conv=>whnf
      rw [show decide ((0:Int)<(cs.length:Int))=true from decide_eq_true (by omega)]
      conv=>whnf
      refine tail σ3 h3 k3 fun bW h4 k4=>?_
      have hx4:bW[ox]? =_:=(k4.low ox hxo.1 hxo.2).trans hx
      conv=>whnf
      refine ak (aj (T:=cO) rfl rfl (ah (hx4)) rfl) ?_
      conv=>whnf
      refine fin bW h4 k4 fun dL h5 k5=>?_
      conv=>whnf
      exact hb.fin h5 k5 hq
   exact key q
theorem mG {k:Nat} {ln:Nat} {r:Tr} (ahead:List UInt8)(bP:o<A)(hG:10≤A∧10≤o)(hw:WT r)(ht:∀d,txP (pcS (.st k [] false .nil r .nil .nil ln) d)=ahead ++ iJ r 1 ++ [59])
 (hwalk:∀{σ:St} {ox gx oR gR:Nat} {L T E:AV} (_:σ[ox]? =some ⟨gx,false,.cells 95 [.i .i64 k,.s [],.b false,L,.p oR gR 0,T,E,.i .i64 ln]⟩) {Q:AV→St→Prop} (_:ay X 108 [.p o 0 0,.s ahead,.p oR gR 0] σ fun v σ'=>v= .tu []∧Fin σ (.tu []) σ' Q),ay X 80 [.p o 0 0,.p ox gx 0] σ Q) :
 gU A o bb 80 (.st k [] false .nil r .nil .nil ln) (fun d=>txP (pcS (.st k [] false .nil r .nil .nil ln) d)):=by
 intro S σ v l d hS hv hb hA hT hd hl Q q
 obtain⟨ox,gx,L,R,T,E,hs,rfl,hx,_,hR,_,_⟩:=hv
 simp only [ht] at hl q
 obtain⟨oR,gR,rfl⟩:=hR.ptr hw
 refine hwalk hx (rV ahead hS hw hR hb bP hG hA hT hl fun σ1 h1 k1=>⟨rfl,?_⟩)
 exact hb.fin h1 k1 q
end
end Go.Abs.YtlkfbfhkcaldlaaGreatDoor
namespace Go.Abs.YtlkfbfhkcaldlaaGreatDoor
open Go.Proofs
set_option maxRecDepth 4000
section
variable {o A:Nat} {bb:Bool}
theorem VB (bP:o<A)(hG:10≤A∧10≤o) {r:Tr} {ln:Nat} (hw:WT r):gU A o bb Ko (.st 6 [] false .nil r .nil .nil ln) (fun d=>txP (pcS (.st 6 [] false .nil r .nil .nil ln) d)):=
 mG [111,117,116,32] bP hG hw (fun d=>tx_6 _ _ _) fun hx Q h=>by
  refine ay.body (F:=Fe) aC (lit:=false) rfl rfl (Nat.le_of_ble_eq_true rfl) ?_
  conv=>whnf
  refine ak (aj (T:=dJ) rfl rfl (ah (hx)) rfl) ?_
  conv=>whnf
  refine ak (aj (T:=aV) rfl rfl (ah (hx)) rfl) ?_
  conv=>whnf
  refine ay.mono h fun v σ' hv=>?_
  obtain⟨rfl,hf⟩:=hv
  conv=>whnf
  exact hf
theorem RY (bP:o<A)(hG:10≤A∧10≤o) {r:Tr} {ln:Nat} (hw:WT r):gU A o bb Ko (.st 7 [] false .nil r .nil .nil ln) (fun d=>txP (pcS (.st 7 [] false .nil r .nil .nil ln) d)):=
 mG [102,114,101,101,32] bP hG hw (fun d=>tx_7 _ _ _) fun hx Q h=>by
  refine ay.body (F:=Fe) aC (lit:=false) rfl rfl (Nat.le_of_ble_eq_true rfl) ?_
  conv=>whnf
  refine ak (aj (T:=dJ) rfl rfl (ah (hx)) rfl) ?_
  conv=>whnf
  refine ak (aj (T:=aV) rfl rfl (ah (hx)) rfl) ?_
  conv=>whnf
  refine ay.mono h fun v σ' hv=>?_
  obtain⟨rfl,hf⟩:=hv
  conv=>whnf
  exact hf
theorem RZ (bP:o<A)(hG:10≤A∧10≤o) {r:Tr} {ln:Nat} (hw:WT r):gU A o bb Ko (.st 10 [] false .nil r .nil .nil ln) (fun d=>txP (pcS (.st 10 [] false .nil r .nil .nil ln) d)):=
 mG [] bP hG hw (fun d=>tx_10 _ _ _) fun hx Q h=>by
  refine ay.body (F:=Fe) aC (lit:=false) rfl rfl (Nat.le_of_ble_eq_true rfl) ?_
  conv=>whnf
  refine ak (aj (T:=dJ) rfl rfl (ah (hx)) rfl) ?_
  conv=>whnf
  refine ak (aj (T:=aV) rfl rfl (ah (hx)) rfl) ?_
  conv=>whnf
  refine ay.mono h fun v σ' hv=>?_
  obtain⟨rfl,hf⟩:=hv
  conv=>whnf
  exact hf
theorem VD (bP:o<A)(hG:10≤A∧10≤o) {r:Tr} {ln:Nat} (hw:WT r):gU A o bb Ko (.st 9 [] false .nil r .nil .nil ln) (fun d=>txP (pcS (.st 9 [] false .nil r .nil .nil ln) d)):=
 mG [114,101,116,117,114,110,32] bP hG hw (fun d=>by rw [tx_9,if_neg (by rw [hw.nn];decide)]) fun hx Q h=>by
  refine ay.body (F:=Fe) aC (lit:=false) rfl rfl (Nat.le_of_ble_eq_true rfl) ?_
  conv=>whnf
  refine ak (aj (T:=dJ) rfl rfl (ah (hx)) rfl) ?_
  conv=>whnf
  refine ak (aj (T:=aV) rfl rfl (ah (hx)) rfl) ?_
  conv=>whnf
  refine ak (aj (T:=aV) rfl rfl (ah (hx)) rfl) ?_
  conv=>whnf
  refine ay.mono h fun v σ' hv=>?_
  obtain⟨rfl,hf⟩:=hv
  conv=>whnf
  exact hf
theorem R_ (bP:o<A) {ln:Nat} :gU A o bb Ko (.st 9 [] false .nil .nil .nil .nil ln) (fun d=>txP (pcS (.st 9 [] false .nil .nil .nil .nil ln) d)):=by
 intro S σ v l d hS hv hb hA hT hd hl Q q
 obtain⟨ox,gx,L,R,T,E,hs,rfl,hx,_,hR,_,_⟩:=hv
 simp only [tx_9,isNil,if_true] at hl q
 obtain rfl:R= .p0:=hR
 refine ay.body (F:=Fe) aC (lit:=false) rfl rfl (Nat.le_of_ble_eq_true rfl) ?_
 conv=>whnf
 refine ak (aj (T:=dJ) rfl rfl (ah (hx)) rfl) ?_
 conv=>whnf
 refine ak (aj (T:=aV) rfl rfl (ah (hx)) rfl) ?_
 conv=>whnf
 refine aY [[114,101,116,117,114,110,59]] hb bP hA (by simp) (by simpa using hl) fun σ1 h1 k1=>?_
 conv=>whnf
 exact hb.fin (by simpa using h1) k1 q
theorem OM (bP:o<A) {ln:Nat} :gU A o bb Ko (.st 8 [] false .nil .nil .nil .nil ln) (fun d=>txP (pcS (.st 8 [] false .nil .nil .nil .nil ln) d)):=by
 intro S σ v l d hS hv hb hA hT hd hl Q q
 obtain⟨ox,gx,L,R,T,E,hs,rfl,hx,_,hR,_,_⟩:=hv
 simp only [tx_8] at hl q
 refine ay.body (F:=Fe) aC (lit:=false) rfl rfl (Nat.le_of_ble_eq_true rfl) ?_
 conv=>whnf
 refine ak (aj (T:=dJ) rfl rfl (ah (hx)) rfl) ?_
 conv=>whnf
 refine aY [[100,114,97,105,110,59]] hb bP hA (by simp) (by simpa using hl) fun σ1 h1 k1=>?_
 conv=>whnf
 exact hb.fin (by simpa using h1) k1 q
theorem Si (bP:o<A)(hG:10≤A∧10≤o) {l r:Tr} {ln:Nat} (hw1:WT l)(hw:WT r):gU A o bb Ko (.st 3 [] false l r .nil .nil ln) (fun d=>txP (pcS (.st 3 [] false l r .nil .nil ln) d)):=by
 intro S σ v out d hS hv hb hA hT hd hl Q q
 obtain⟨ox,gx,L,R,T,E,hs,rfl,hx,hL,hR,_,_⟩:=hv
 simp only [tx_3] at hl q
 have hxo:=hS ox hs
 obtain⟨oL,gL,rfl⟩:=hL.ptr hw1
 obtain⟨oR,gR,rfl⟩:=hR.ptr hw
 rw [List.length_append] at hl
 refine ay.body (F:=Fe) aC (lit:=false) rfl rfl (Nat.le_of_ble_eq_true rfl) ?_
 conv=>whnf
 refine ak (aj (T:=dJ) rfl rfl (ah (hx)) rfl) ?_
 conv=>whnf
 refine ak (aj (T:=aV) rfl rfl (ah (hx)) rfl) ?_
 conv=>whnf
 refine dZ bP hG l hw1 8 hS hL hb hA hT (by omega) fun σ1 h1 k1=>?_
 have l1:=k1.len
 have hx1:σ1[ox]? =_:=(k1.low ox hxo.1 hxo.2).trans hx
 conv=>whnf
 refine ak (aj (T:=aV) rfl rfl (ah (hx1)) rfl) ?_
 conv=>whnf
 refine rV [32,61,32] hS hw (hR.kept hS k1) h1 bP hG (by omega) (k1.tab hG hT) (by rw [List.length_append];omega) fun σ2 h2 k2=>?_
 conv=>whnf
 exact hb.fin (by simpa [List.append_assoc] using h2) (k1.trans k2) (by simpa [List.append_assoc] using q)
theorem OO (bP:o<A)(hG:10≤A∧10≤o) {r:Tr} {th:Sms} {ln:Nat} (hw:WT r)(hth:AQ A o bb th):gU A o bb Ko (.st 5 [] false .nil r th .nil ln) (fun d=>txP (pcS (.st 5 [] false .nil r th .nil ln) d)):=by
 intro S σ v out d hS hv hb hA hT hd hl Q q
 obtain⟨ox,gx,L,R,T,E,hs,rfl,hx,hL,hR,V9,_⟩:=hv
 simp only [tx_5] at hl q
 simp only [dS,show ¬(5:Nat)=4 by decide,if_false,if_true] at hd
 have hxo:=hS ox hs
 obtain⟨oR,gR,rfl⟩:=hR.ptr hw
 simp only [List.length_append,List.length_cons,List.length_nil] at hl
 refine ay.body (F:=Fe) aC (lit:=false) rfl rfl (Nat.le_of_ble_eq_true rfl) ?_
 conv=>whnf
 refine ak (aj (T:=dJ) rfl rfl (ah (hx)) rfl) ?_
 conv=>whnf
 refine aY [[119,104,105,108,101,32]] hb bP hA (by simp) (by simp;omega) fun σ1 h1 k1=>?_
 have l1:=k1.len
 have hx1:σ1[ox]? =_:=(k1.low ox hxo.1 hxo.2).trans hx
 conv=>whnf
 refine ak (aj (T:=aV) rfl rfl (ah (hx1)) rfl) ?_
 conv=>whnf
 refine dZ bP hG r hw 1 hS (hR.kept hS k1) h1 (by omega) (k1.tab hG hT) (by simp;omega) fun σ2 h2 k2'=>?_
 have k2:=k1.trans k2'
 have l2:=k2.len
 have hx2:σ2[ox]? =_:=(k2.low ox hxo.1 hxo.2).trans hx
 conv=>whnf
 refine ak (aj (T:=cO) rfl rfl (ah hx2) rfl) ?_
 refine bY _ _ ?_
 refine dh _ _ ?_
 refine um bP hG hS hth (by omega) (V9.kept hS k2) h2 (by omega) (k2.tab hG hT) (by simp;omega) fun σ3 h3 jF=>?_
 conv=>whnf
 exact hb.fin (by simpa [List.append_assoc] using h3) (k2.trans jF) (by simpa [List.append_assoc] using q)
theorem st_if (bP:o<A)(hG:10≤A∧10≤o) {r:Tr} {th el:Sms} {ln:Nat} (h:gU A o bb brN (.st 4 [] false .nil r th el ln) (fun d=>txP (pcS (.st 4 [] false .nil r th el ln) d))):gU A o bb Ko (.st 4 [] false .nil r th el ln) (fun d=>txP (pcS (.st 4 [] false .nil r th el ln) d)):=by
 intro S σ v out d hS hv hb hA hT hd hl Q q
 have hv':=hv
 obtain⟨ox,gx,L,R,T,E,hs,rfl,hx,_⟩:=hv
 refine ay.body (F:=Fe) aC (lit:=false) rfl rfl (Nat.le_of_ble_eq_true rfl) ?_
 conv=>whnf
 refine ak (aj (T:=dJ) rfl rfl (ah (hx)) rfl) ?_
 conv=>whnf
 refine h d hS hv' hb hA hT hd hl fun σ1 h1 k1=>?_
 conv=>whnf
 exact hb.fin h1 k1 q
theorem VE (bP:o<A)(hG:10≤A∧10≤o) {nm:List UInt8} {r:Tr} {ln:Nat} (hw:WT r):gU A o bb Ko (.st 2 nm false .nil r .nil .nil ln) (fun d=>txP (pcS (.st 2 nm false .nil r .nil .nil ln) d)):=by
 intro S σ v out d hS hv hb hA hT hd hl Q q
 obtain⟨ox,gx,L,R,T,E,hs,rfl,hx,_,hR,_,_⟩:=hv
 simp only [tx_2] at hl q
 obtain⟨oR,gR,rfl⟩:=hR.ptr hw
 have hl':=hl
 simp only [List.length_append,List.length_cons,List.length_nil] at hl'
 refine ay.body (F:=Fe) aC (lit:=false) rfl rfl (Nat.le_of_ble_eq_true rfl) ?_
 conv=>whnf
 refine ak (aj (T:=dJ) rfl rfl (ah (hx)) rfl) ?_
 conv=>whnf
 refine ak (aj (T:=dP) rfl rfl (ah (hx)) rfl) ?_
 conv=>whnf
 refine⟨by show nm.length+3≤_;omega,?_⟩
 conv=>whnf
 refine ak (aj (T:=aV) rfl rfl (ah (hx)) rfl) ?_
 conv=>whnf
 refine rV (nm ++ [32,61,32]) hS hw hR hb bP hG hA hT hl fun σ1 h1 k1=>?_
 conv=>whnf
 exact hb.fin h1 k1 q
theorem VF (bP:o<A)(hG:10≤A∧10≤o) {nm:List UInt8} {p:Bool} {r:Tr} {ln:Nat} (hr:r= .nil∨WT r):gU A o bb Ko (.st 1 nm p .nil r .nil .nil ln) (fun d=>txP (pcS (.st 1 nm p .nil r .nil .nil ln) d)):=by
 intro S σ v out d hS hv hb hA hT hd hl Q q
 obtain⟨ox,gx,L,R,T,E,hs,rfl,hx,_,hR,_,_⟩:=hv
 simp only [tx_1] at hl q
 have hxo:=hS ox hs
 have rest:∀(σ2:St) (l2:List UInt8),bI A o σ2 l2 d bb→fP A o σ σ2→l2=out ++ ([118,97,114,32] ++ nm ++ (if p=true then [32,112,116,114] else []))→(R= .p0→∀{Q2:AV→St→Prop},(∀σ3,bI A o σ3 (out ++ ([118,97,114,32] ++ nm ++ (if p=true then [32,112,116,114] else []) ++ (if isNil r=true then [59] else [32,61,32] ++ iJ r 1 ++ [59]))) d bb→fP A o σ σ3→Q2 (.tu []) σ3)→r= .nil→
  ay X 44 [.p o 0 0,.sl σ2.length 0 0 1 1] (au 9 [.s [59]] σ2) Q2)∧(∀{oR gR:Nat},R= .p oR gR 0→WT r→∀{Q2:AV→St→Prop},(∀σ3,bI A o σ3 (out ++ ([118,97,114,32] ++ nm ++ (if p=true then [32,112,116,114] else []) ++ (if isNil r=true then [59] else [32,61,32] ++ iJ r 1 ++ [59]))) d bb→fP A o σ σ3→Q2 (.tu []) σ3)→
  ay X 108 [.p o 0 0,.s [32,61,32],.p oR gR 0] σ2 Q2):=by
  rintro σ2 l2 h2 k2 rfl
  have:=k2.len
  constructor
  ·intro _ Q2 q2 hr0
   subst hr0
   rw [show (if isNil .nil=true then [59] else [32,61,32] ++ iJ .nil 1 ++ [59])=([59]:List UInt8) from rfl] at hl q2
   rw [List.length_append] at hl
   exact aY [[59]] h2 bP (by omega) (by simp) (by rw [List.length_append];simp only [List.flatten_cons,List.flatten_nil,List.length_append,List.length_cons,List.length_nil] at hl ⊢;omega) fun σ3 h3 k3=>q2 σ3 (by simpa [List.append_assoc] using h3) (k2.trans k3)
  ·intro oR gR hRR hw Q2 q2
   rw [show (if isNil r=true then([59]:List UInt8) else [32,61,32] ++ iJ r 1 ++ [59])=[32,61,32] ++ iJ r 1 ++ [59] from if_neg (by rw [hw.nn];decide)] at hl q2
   rw [List.length_append] at hl
   subst hRR
   exact rV [32,61,32] hS hw (hR.kept hS k2) h2 bP hG (by omega) (k2.tab hG hT) (by rw [List.length_append];omega) fun σ3 h3 k3=>q2 σ3 (by simpa [List.append_assoc] using h3) (k2.trans k3)
 have hl1:out.length+(4+nm.length+(if p=true then 4 else 0))≤1000000000:=by
  rw [List.length_append,List.length_append,List.length_append] at hl
  cases p <;> simp only [if_true,if_false,Bool.false_eq_true,List.length_cons,List.length_nil] at hl ⊢ <;> omega
 have hshR:(R= .p0∧r= .nil)∨∃oR gR,R= .p oR gR 0∧WT r:=by
  rcases hr with rfl | hw
  ·exact .inl ⟨hR,rfl⟩
  ·obtain⟨oR,gR,h⟩:=hR.ptr hw;exact .inr ⟨oR,gR,h,hw⟩
 cases p with
 | true=>
   have hl2:out.length+(4+nm.length+4)≤1000000000:=hl1
   rcases hshR with ⟨rfl,hr0⟩ | ⟨oR,gR,rfl,hw⟩
   ·refine ay.body (F:=Fe) aC (lit:=false) rfl rfl (Nat.le_of_ble_eq_true rfl) ?_
    conv=>whnf
    refine ak (aj (T:=dJ) rfl rfl (ah (hx)) rfl) ?_
    conv=>whnf
    refine ak (aj (T:=dP) rfl rfl (ah (hx)) rfl) ?_
    conv=>whnf
    refine aY [[118,97,114,32],nm] hb bP hA (by simp) (by simp;omega) fun σ1 h1 k1=>?_
    have l1:=k1.len
    have hx1:σ1[ox]? =_:=(k1.low ox hxo.1 hxo.2).trans hx
    conv=>whnf
    refine ak (aj (T:=qg) rfl rfl (ah (hx1)) rfl) ?_
    conv=>whnf
    refine aY [[32,112,116,114]] h1 bP (by omega) (by simp) (by simp;omega) fun σ2 h2 k2'=>?_
    have k2:=k1.trans k2'
    have hx2:σ2[ox]? =_:=(k2.low ox hxo.1 hxo.2).trans hx
    conv=>whnf
    refine ak (aj (T:=aV) rfl rfl (ah (hx2)) rfl) ?_
    conv=>whnf
    refine(rest σ2 _ h2 k2 (by simp)).1 rfl (fun σ3 h3 k3=>?_) hr0
    conv=>whnf
    exact hb.fin h3 k3 q
   ·refine ay.body (F:=Fe) aC (lit:=false) rfl rfl (Nat.le_of_ble_eq_true rfl) ?_
    conv=>whnf
    refine ak (aj (T:=dJ) rfl rfl (ah (hx)) rfl) ?_
    conv=>whnf
    refine ak (aj (T:=dP) rfl rfl (ah (hx)) rfl) ?_
    conv=>whnf
    refine aY [[118,97,114,32],nm] hb bP hA (by simp) (by simp;omega) fun σ1 h1 k1=>?_
    have l1:=k1.len
    have hx1:σ1[ox]? =_:=(k1.low ox hxo.1 hxo.2).trans hx
    conv=>whnf
    refine ak (aj (T:=qg) rfl rfl (ah (hx1)) rfl) ?_
    conv=>whnf
    refine aY [[32,112,116,114]] h1 bP (by omega) (by simp) (by simp;omega) fun σ2 h2 k2'=>?_
    have k2:=k1.trans k2'
    have hx2:σ2[ox]? =_:=(k2.low ox hxo.1 hxo.2).trans hx
    conv=>whnf
    refine ak (aj (T:=aV) rfl rfl (ah (hx2)) rfl) ?_
    conv=>whnf
    refine ak (aj (T:=aV) rfl rfl (ah (hx2)) rfl) ?_
    conv=>whnf
    refine(rest σ2 _ h2 k2 (by simp)).2 rfl hw fun σ3 h3 k3=>?_
    conv=>whnf
    exact hb.fin h3 k3 q
 | false=>
   rcases hshR with ⟨rfl,hr0⟩ | ⟨oR,gR,rfl,hw⟩
   ·refine ay.body (F:=Fe) aC (lit:=false) rfl rfl (Nat.le_of_ble_eq_true rfl) ?_
    conv=>whnf
    refine ak (aj (T:=dJ) rfl rfl (ah (hx)) rfl) ?_
    conv=>whnf
    refine ak (aj (T:=dP) rfl rfl (ah (hx)) rfl) ?_
    conv=>whnf
    refine aY [[118,97,114,32],nm] hb bP hA (by simp) (by simp;omega) fun σ1 h1 k1=>?_
    have hx1:σ1[ox]? =_:=(k1.low ox hxo.1 hxo.2).trans hx
    conv=>whnf
    refine ak (aj (T:=qg) rfl rfl (ah (hx1)) rfl) ?_
    conv=>whnf
    refine ak (aj (T:=aV) rfl rfl (ah (hx1)) rfl) ?_
    conv=>whnf
    refine(rest σ1 _ h1 k1 (by simp)).1 rfl (fun σ3 h3 k3=>?_) hr0
    conv=>whnf
    exact hb.fin h3 k3 q
   ·refine ay.body (F:=Fe) aC (lit:=false) rfl rfl (Nat.le_of_ble_eq_true rfl) ?_
    conv=>whnf
    refine ak (aj (T:=dJ) rfl rfl (ah (hx)) rfl) ?_
    conv=>whnf
    refine ak (aj (T:=dP) rfl rfl (ah (hx)) rfl) ?_
    conv=>whnf
    refine aY [[118,97,114,32],nm] hb bP hA (by simp) (by simp;omega) fun σ1 h1 k1=>?_
    have hx1:σ1[ox]? =_:=(k1.low ox hxo.1 hxo.2).trans hx
    conv=>whnf
    refine ak (aj (T:=qg) rfl rfl (ah (hx1)) rfl) ?_
    conv=>whnf
    refine ak (aj (T:=aV) rfl rfl (ah (hx1)) rfl) ?_
    conv=>whnf
    refine ak (aj (T:=aV) rfl rfl (ah (hx1)) rfl) ?_
    conv=>whnf
    refine(rest σ1 _ h1 k1 (by simp)).2 rfl hw fun σ3 h3 k3=>?_
    conv=>whnf
    exact hb.fin h3 k3 q
mutual
theorem OQ (bP:o<A)(hG:10≤A∧10≤o):∀(s:Sm),WS s→gU A o bb Ko s (fun d=>txP (pcS s d))
 | .st k nm p l r th el ln,h=>by
   cases h with
   | var _ _ _ _ _ h2=>exact VF bP hG h2
   | set _ _ _ h1 h2=>exact VE bP hG h2
   | cell _ _ _ h1 h2 h3=>exact Si bP hG h1 h3
   | iff _ _ _ _ h1 h2 h3=>exact st_if bP hG (AU bP hG h1 (kF bP hG _ h2) (kF bP hG _ h3) (E5 bP hG _ h3))
   | whl _ _ _ h1 h2=>exact OO bP hG h1 (kF bP hG _ h2)
   | out _ _ h1=>exact VB bP hG h1
   | free _ _ h1=>exact RY bP hG h1
   | drain _=>exact OM bP
   | ret _ _ h1=>
     rcases h1 with rfl | h1
     ·exact R_ bP
     ·exact VD bP hG h1
   | call _ _ h1 h2=>exact RZ bP hG h1
theorem kF (bP:o<A)(hG:10≤A∧10≤o):∀(b:Sms),WSs b→AQ A o bb b
 | .nil,_=>fun i s h=>by simp [smL] at h
 | .cons a r,hw=>by
   have h1:WS a:=by cases hw with | cons _ _ h1 h2=>exact h1
   have h2:WSs r:=by cases hw with | cons _ _ h1 h2=>exact h2
   have ha:gU A o bb Ko a (fun d=>txP (pcS a d)):=OQ bP hG a h1
   have hr:AQ A o bb r:=kF bP hG r h2
   intro i s h
   cases i with
   | zero=>simp only [smL,List.getElem?_cons_zero,Option.some.injEq] at h;subst h;exact ha
   | succ i=>exact hr i s (by simpa [smL] using h)
theorem VG (bP:o<A)(hG:10≤A∧10≤o):∀(s:Sm),WS s→kS s=4→gU A o bb brN s (fun d=>txP (pcS s d))
 | .st k nm p l r th el ln,h,hk=>by
   cases h with
   | iff _ _ _ _ h1 h2 h3=>exact AU bP hG h1 (kF bP hG _ h2) (kF bP hG _ h3) (E5 bP hG _ h3)
   | _=>cases hk
theorem E5 (bP:o<A)(hG:10≤A∧10≤o):∀(el:Sms),WSs el→∀s,el= .cons s .nil→kS s=4→gU A o bb brN s (fun d=>txP (pcS s d))
 | .nil,_,s,he,_=>by cases he
 | .cons a r,hw,s,he,hk=>by
   have h1:WS a:=by cases hw with | cons _ _ h1 h2=>exact h1
   cases he
   exact VG bP hG a h1 hk
end
end
end Go.Abs.YtlkfbfhkcaldlaaGreatDoor
