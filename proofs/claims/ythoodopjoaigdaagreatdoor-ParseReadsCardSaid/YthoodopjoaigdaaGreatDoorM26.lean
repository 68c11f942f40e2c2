/- Texts of this claim, joined: Re5, Re6, Re7, Re8. -/
import Derived.Test.YthoodopjoaigdaaGreatDoorM25
import Derived.Test.YthoodopjoaigdaaGreatDoorM24
set_option linter.unusedVariables false
set_option linter.unusedSimpArgs false
namespace Go.bP.YthoodopjoaigdaaGreatDoor
open Go.Proofs
theorem allT {p w g:Nat} {all:List Tok} (hno:ni all):∀n,WT p w g all n∧sU p w g all n
 | 0=>⟨⟨fun _ _ _ _ _ _ _ _ _ h _=>absurd h (by omega),fun _ _ _ _ _ _ _ _ _ _ h _=>absurd h (by omega),fun _ _ _ _ _ _ _ _ _ h _=>absurd h (by omega)⟩,fun _ _ _ _ _ _ _ _ _ _ _ _ _ _ _ _ h _ _=>absurd h (by omega)⟩
 | n+1=>by
   obtain⟨ih,J9⟩:=allT (p:=p) (w:=w) (g:=g) hno n
   exact⟨⟨fun d σ m c0 l0 Q h hd he hn hQ=>VA J9 d σ m c0 l0 Q h hd he hn hQ,fun d line σ m c0 l0 Q h hd he hn hQ=>RY (J7 hno n).1 ih d line σ m c0 l0 Q h hd he hn hQ,fun d σ m c0 l0 Q h hd he hn hQ=>YU hno ih d σ m c0 l0 Q h hd he hn hQ⟩,Vz ih J9⟩
end Go.bP.YthoodopjoaigdaaGreatDoor
namespace Go.bP.YthoodopjoaigdaaGreatDoor
open Go.Proofs
set_option maxRecDepth 4000
section
variable {p w g:Nat} {all:List Tok} {n:Nat}
def SY (p w g:Nat)(all:List Tok)(B xo:Nat)(nm:List UInt8)(ln:Nat)(σ:St)(d:Nat)(acc:List (List UInt8×Bool))(Q:Out→Env→St→Prop):Re (List (List UInt8×Bool))→Prop
 | .ok xs ts=>∀A' σ' m' c l e',get e' 0= .p p 0 0→get e' 3= .p xo 0 0→get e' 1000000= .u→cO p xo B σ σ'→PO p w g all σ' m' d false c l→all.drop m'= ts→σ'[xo]? =some (gu nm A' false .sl0 ln)→iY B σ' A' (acc ++ xs)→Q (.exit 0) e' σ'
 | .bad c l=>∀A' σ' m' e',get e' 0= .p p 0 0→get e' 3= .p xo 0 0→get e' 1000000= .u→cO p xo B σ σ'→PO p w g all σ' m' d true c l→σ'[xo]? =some (gu nm A' false .sl0 ln)→Zj A'→Q (.exit 0) e' σ'
 | .out=>True
def CU (p w g:Nat)(all:List Tok)(n:Nat):Prop:=∀(d B xo:Nat) (nm:List UInt8) (ln:Nat),p<B→w<B→xo<B→xo≠p→xo≠w→
 ∀ (acc:List (List UInt8×Bool)) (A:AV) (σ:St) (m c0 l0:Nat) (Q:Out→Env→St→Prop),PO p w g all σ m d false c0 l0→B≤σ.length→σ[xo]? =some (gu nm A false .sl0 ln)→iY B σ A acc→aS (all.drop m)→(all.drop m).length+1≤n→acc.length+(all.drop m).length≤40001→SY p w g all B xo nm ln σ d acc Q (b_ n acc.isEmpty (all.drop m))→aW X [0,3] Px [(0,.p p 0 0),(3,.p xo 0 0)] σ Q
theorem PO.keepR {m d c l:Nat} {b:Bool} {σ σ':St} (h:PO p w g all σ m d b c l) {B:Nat} (hp:p<B)(hw:w<B)(e:∀i,i<B→σ'[i]? =σ[i]?):PO p w g all σ' m d b c l:=h.keep (e p hp) (e w hw)
theorem PO.gZ {m d c l x:Nat} {b:Bool} {s:St} (h:PO p w g all s m d b c l)(h1:x≠p)(h2:x≠w)(b':AO):PO p w g all (s.set x b') m d b c l:=⟨aK h.obj h1 _,aK h.tok h2 _,h.ne,h.len,h.at_,h.dp⟩
theorem iY.three {B:Nat} {σ:St} {v:AV} {l:List (List UInt8×Bool)} (h:iY B σ v l):(l=[]∧(v= .sl0∨∃o g,v= .sl o g 0 0 2))∨∃a l0 o g,l=a :: l0∧v= .sl o g 0 (l0.length+1) 2:=by
 rcases h with ⟨rfl,rfl⟩ | ⟨o,g,_,rfl,_⟩
 ·exact .inl ⟨rfl,.inl rfl⟩
 ·cases l with
  | nil=>exact .inl ⟨rfl,.inr ⟨_,_,rfl⟩⟩
  | cons a l0=>exact .inr ⟨a,l0,o,g,rfl,rfl⟩
theorem mg {m d c l xo:Nat} {σ:St} {Q:Out→Env→St→Prop} (h:PO p w g all σ m d true c l)
 (q:∀e',get e' 0= .p p 0 0→get e' 3= .p xo 0 0→get e' 1000000= .u→Q (.exit 0) e' σ):aW X [0,3] Px [(0,.p p 0 0),(3,.p xo 0 0)] σ Q:=by
 refine aW.round aH (lit:=false) ?_
 conv=>whnf
 refine ak (aj (T:=kR) rfl rfl (ah (h.obj)) rfl) ?_
 conv=>whnf
 exact q _ rfl rfl rfl
theorem YX (zy:CU p w g all n):CU p w g all (n+1):=by
 intro d B xo nm ln hp hw CG hxp hxw acc A σ m c0 l0 Q h hB hx ha he hn hs hQ
 obtain⟨t,r,hts⟩:=he.ne
 obtain⟨ht,hr⟩:=aV hts
 have hlr:(all.drop m).length=r.length+1:=by rw [hts];rfl
 rw [CS,hts] at hQ
 have hsl:=ha.sl
 refine aW.round aH (lit:=false) ?_
 conv=>whnf
 refine ak (aj (T:=kR) rfl rfl (ah (h.obj)) rfl) ?_
 conv=>whnf
 refine ay.to (jg _ h ht) ?_
 cases hi:dF [41] t with
 | true=>
   rw [if_pos (show bf [41] (t :: r)=true from hi)] at hQ
   conv=>whnf
   exact hQ A σ m c0 l0 _ rfl rfl rfl ⟨Nat.le_refl _,fun _ _ _ _=>rfl⟩ h hts hx (by rw [List.append_nil];exact ha)
 | false=>
   rw [if_neg (by rw [show bf [41] (t :: r)=dF [41] t from rfl,hi];decide)] at hQ
   have ll:=h.len
   rcases ha.three with hE | ⟨a0,acc0,o0,g0,rfl,rfl⟩
   ·obtain⟨rfl,hE⟩:=hE
    rw [←hts] at hQ
    have hQ:SY p w g all B xo nm ln σ d [] Q ((wW (all.drop m)).bind fun q ts=>(b_ n false ts).bind fun l ts=>.ok (q :: l) ts):=hQ
    have x1:aI p σ σ:=.refl _ _
    rcases hE with rfl | ⟨o0,g0,rfl⟩
    all_goals
        conv=>whnf
        refine ak (aj (T:=fU) rfl rfl (ah (hx)) rfl) ?_
        conv=>whnf
        obtain⟨t1,r1,CV⟩:=he.ne
        obtain⟨ht1,hr1⟩:=aV CV
        have hlr1:(all.drop m).length=r1.length+1:=by rw [CV];rfl
        unfold wW at hQ
        rw [CV] at hQ
        refine sJ h ht1 (fun hk=>iV (by rw [hr1];exact(CV▸he).tail (by rw [hk];decide))) (fun hk s5 nI k5=>?_) (fun hk s5 nI k5=>?_)
        ·have CZ:aS (all.drop (m+1)):=by rw [hr1];exact(CV▸he).tail (by rw [hk];decide)
         have hl5:(all.drop (m+1)).length=r1.length:=by rw [hr1]
         have y5:=x1.trans nI
         obtain⟨t6,r6,gq⟩:=CZ.ne
         obtain⟨C9,wR⟩:=aV gq
         have hl6:(all.drop (m+1)).length=r6.length+1:=by rw [gq];rfl
         simp only [eP,if_pos hk] at hQ
         have hQ:SY p w g all B xo nm ln σ d [] Q ((b_ n false (if bf fC r1=true then r1.tail else r1)).bind fun l ts=>.ok ((t1.s,bf fC r1) :: l) ts):=hQ
         rw [←hr1,gq] at hQ
         have f5:=nI.get (by omega) hx
         conv=>whnf
         refine ak (aj (T:=fU) rfl rfl (ah (f5)) rfl) ?_
         conv=>whnf
         refine dn _ k5 C9 (fun _ fP=>?_) (fun fP=>?_)
         ·have hpw:bf fC (t6 :: r6)=true:=fP
          obtain⟨Oc,ED,YV⟩:=aN CZ gq fP
          have hl7':(all.drop (m+1+1)).length=r6.length:=by rw [wR]
          simp only [hpw,if_true,List.tail_cons] at hQ
          rw [←wR] at hQ
          have z6:=PO.ext (p:=p) (w:=w) (g:=g) (n:=all.length) (m:=m+1+1) (d:=d) (b:=false) (c:=c0) (l:=l0) (σ:=s5)
          have k6:=k5.set (m':=m+1+1) (d':=d) (b':=false) (c':=c0) (l':=l0) Oc h.dp
          have f6:=z6.get (by omega) f5
          have y6:=y5.trans z6
          conv=>whnf
          refine⟨?_,?_⟩
          ·conv=>whnf
           refine ak (aj (T:=fU) rfl rfl (ah (f6)) rfl) ?_
           rfl
          conv=>whnf
          refine⟨?_,?_⟩
          ·conv=>whnf
           refine ak (aj (T:=fU) rfl rfl (ah (at_new f6 _ _)) rfl) ?_
           rfl
          conv=>whnf
          have l6:=y6.len
          refine jX (B:=B) (acc:=[]) (ha.keep (Nat.le_refl _) fun i a hi hh=>at_new (y6.get (by omega) hh) _ _) (t1.s,true) (by simp only [List.length_cons,List.length_nil] at hs ⊢;omega) (aF _ _ _) (by rw [aG];omega) fun o3 g3 yE s7 Oy hb7 E_ Zn=>?_
          rw [aG] at E_
          have f7:s7[xo]? =_:=(hb7 xo (by omega)).trans (at_new f6 _ _)
          have k7:=(k6.new _ _).keepR hp hw hb7
          conv=>whnf
          refine ak (aC (T:=fU) ([.s nm,.sl o3 g3 0 yE 2,.b false,.sl0,.i .i64 ln]) rfl (f7) rfl rfl (Nat.le_of_ble_eq_true rfl) rfl) ?_
          conv=>whnf
          have k8:=k7.gZ hxp hxw (gu nm (.sl o3 g3 0 yE 2) false .sl0 ln)
          have yB:cO p xo B σ (s7.set xo (gu nm (.sl o3 g3 0 yE 2) false .sl0 ln)):=⟨by rw [List.length_set];omega,fun i hi fP hix=>by rw [List.getElem?_set_ne (fun e=>hix e.symm),hb7 i hi,dh (by omega),y6.old i (by omega) fP]⟩
          refine zy d B xo nm ln hp hw CG hxp hxw ([] ++ [(t1.s,true)]) _ _ (m+1+1) _ _ Q k8 (by rw [List.length_set];omega) (at_set f7 _) (Oy.keep (Nat.le_refl _) fun i a hi hh=>aK hh (by omega) _) ED (by omega) (by rw [List.length_append];simp only [List.length_cons,List.length_nil] at hs ⊢;omega) ?_
          rw [show ([] ++ [(t1.s,true)]:List (List UInt8×Bool)).isEmpty=false by simp]
          generalize b_ n false (all.drop (m+1+1))=r2 at hQ
          cases r2 with
          | out=>trivial
          | bad c l=>exact fun A4 dZ m4 e' q0 q3 q9 x4=>hQ A4 dZ m4 e' q0 q3 q9 (yB.trans x4)
          | ok xs zx=>exact fun A4 dZ m4 c4 l4 e' q0 q3 q9 x4 h4 hm4 hx4 sK=>hQ A4 dZ m4 c4 l4 e' q0 q3 q9 (yB.trans x4) h4 hm4 hx4 (by rw [List.append_assoc] at sK;exact sK)
         ·have hpw:bf fC (t6 :: r6)=false:=by rw [show bf fC (t6 :: r6)=dF [112,116,114] t6 from rfl];simpa using fP
          simp only [hpw,Bool.false_eq_true,if_false] at hQ
          rw [←gq] at hQ
          have ED:=CZ
          have k6:=k5
          have f6:=f5
          have y6:=y5
          conv=>whnf
          refine⟨?_,?_⟩
          ·conv=>whnf
           refine ak (aj (T:=fU) rfl rfl (ah (f6)) rfl) ?_
           rfl
          conv=>whnf
          refine⟨?_,?_⟩
          ·conv=>whnf
           refine ak (aj (T:=fU) rfl rfl (ah (at_new f6 _ _)) rfl) ?_
           rfl
          conv=>whnf
          have l6:=y6.len
          refine jX (B:=B) (acc:=[]) (ha.keep (Nat.le_refl _) fun i a hi hh=>at_new (y6.get (by omega) hh) _ _) (t1.s,false) (by simp only [List.length_cons,List.length_nil] at hs ⊢;omega) (aF _ _ _) (by rw [aG];omega) fun o3 g3 yE s7 Oy hb7 E_ Zn=>?_
          rw [aG] at E_
          have f7:s7[xo]? =_:=(hb7 xo (by omega)).trans (at_new f6 _ _)
          have k7:=(k6.new _ _).keepR hp hw hb7
          conv=>whnf
          refine ak (aC (T:=fU) ([.s nm,.sl o3 g3 0 yE 2,.b false,.sl0,.i .i64 ln]) rfl (f7) rfl rfl (Nat.le_of_ble_eq_true rfl) rfl) ?_
          conv=>whnf
          have k8:=k7.gZ hxp hxw (gu nm (.sl o3 g3 0 yE 2) false .sl0 ln)
          have yB:cO p xo B σ (s7.set xo (gu nm (.sl o3 g3 0 yE 2) false .sl0 ln)):=⟨by rw [List.length_set];omega,fun i hi fP hix=>by rw [List.getElem?_set_ne (fun e=>hix e.symm),hb7 i hi,dh (by omega),y6.old i (by omega) fP]⟩
          refine zy d B xo nm ln hp hw CG hxp hxw ([] ++ [(t1.s,false)]) _ _ (m+1) _ _ Q k8 (by rw [List.length_set];omega) (at_set f7 _) (Oy.keep (Nat.le_refl _) fun i a hi hh=>aK hh (by omega) _) ED (by omega) (by rw [List.length_append];simp only [List.length_cons,List.length_nil] at hs ⊢;omega) ?_
          rw [show ([] ++ [(t1.s,false)]:List (List UInt8×Bool)).isEmpty=false by simp]
          generalize b_ n false (all.drop (m+1))=r2 at hQ
          cases r2 with
          | out=>trivial
          | bad c l=>exact fun A4 dZ m4 e' q0 q3 q9 x4=>hQ A4 dZ m4 e' q0 q3 q9 (yB.trans x4)
          | ok xs zx=>exact fun A4 dZ m4 c4 l4 e' q0 q3 q9 x4 h4 hm4 hx4 sK=>hQ A4 dZ m4 c4 l4 e' q0 q3 q9 (yB.trans x4) h4 hm4 hx4 (by rw [List.append_assoc] at sK;exact sK)
        ·simp only [eP,if_neg hk] at hQ
         have hQ:SY p w g all B xo nm ln σ d [] Q (.bad 4 t1.l):=hQ
         have f5:=nI.get (by omega) hx
         have y5:=x1.trans nI
         conv=>whnf
         refine ak (aj (T:=fU) rfl rfl (ah (f5)) rfl) ?_
         conv=>whnf
         refine dn _ k5 ht1 (fun e=>by cases e) (fun _=>?_)
         conv=>whnf
         refine⟨?_,?_⟩
         ·conv=>whnf
          refine ak (aj (T:=fU) rfl rfl (ah (f5)) rfl) ?_
          rfl
         conv=>whnf
         refine⟨?_,?_⟩
         ·conv=>whnf
          refine ak (aj (T:=fU) rfl rfl (ah (at_new f5 _ _)) rfl) ?_
          rfl
         conv=>whnf
         have l6:=y5.len
         refine jX (B:=B) (acc:=[]) (ha.keep (Nat.le_refl _) fun i a hi hh=>at_new (y5.get (by omega) hh) _ _) ([],false) (by simp only [List.length_cons,List.length_nil] at hs ⊢;omega) (aF _ _ _) (by rw [aG];omega) fun o3 g3 yE s7 Oy hb7 E_ Zn=>?_
         rw [aG] at E_
         have f7:s7[xo]? =_:=(hb7 xo (by omega)).trans (at_new f5 _ _)
         have k7:=(k5.new _ _).keepR hp hw hb7
         conv=>whnf
         refine ak (aC (T:=fU) ([.s nm,.sl o3 g3 0 yE 2,.b false,.sl0,.i .i64 ln]) rfl (f7) rfl rfl (Nat.le_of_ble_eq_true rfl) rfl) ?_
         conv=>whnf
         have k8:=k7.gZ hxp hxw (gu nm (.sl o3 g3 0 yE 2) false .sl0 ln)
         have yB:cO p xo B σ (s7.set xo (gu nm (.sl o3 g3 0 yE 2) false .sl0 ln)):=⟨by rw [List.length_set];omega,fun i hi fP hix=>by rw [List.getElem?_set_ne (fun e=>hix e.symm),hb7 i hi,dh (by omega),y5.old i (by omega) fP]⟩
         exact mg k8 fun e' q0 q3 q9=>hQ _ _ _ e' q0 q3 q9 yB k8 (at_set f7 _) (.inr ⟨_,_,_,rfl⟩)
   ·have hQ:SY p w g all B xo nm ln σ d (a0 :: acc0) Q ((aQ [44] (t :: r)).bind fun _ ts=>(wW ts).bind fun q ts=>(b_ n false ts).bind fun l ts=>.ok (q :: l) ts):=hQ
    conv=>whnf
    refine ak (aj (T:=fU) rfl rfl (ah (hx)) rfl) ?_
    conv=>whnf
    rw [decide_eq_true (by omega)]
    conv=>whnf
    conv=>whnf
    refine je _ h ht (fun hi2=>?_) (fun hi2=>?_)
    ·rw [aQ,if_pos (show bf [44] (t :: r)=true from hi2)] at hQ
     have hQ:SY p w g all B xo nm ln σ d (a0 :: acc0) Q ((wW r).bind fun q ts=>(b_ n false ts).bind fun l ts=>.ok (q :: l) ts):=hQ
     rw [←hr] at hQ
     obtain⟨hm2,he2,hle2⟩:=aN he hts hi2
     have z2:=PO.ext (p:=p) (w:=w) (g:=g) (n:=all.length) (m:=m+1) (d:=d) (b:=false) (c:=c0) (l:=l0) (σ:=σ)
     have k2:=h.set (m':=m+1) (d':=d) (b':=false) (c':=c0) (l':=l0) hm2 h.dp
     have f2:=z2.get (by omega) hx
     conv=>whnf
     obtain⟨t1,r1,CV⟩:=he2.ne
     obtain⟨ht1,hr1⟩:=aV CV
     have hlr1:(all.drop (m+1)).length=r1.length+1:=by rw [CV];rfl
     unfold wW at hQ
     rw [CV] at hQ
     refine sJ k2 ht1 (fun hk=>iV (by rw [hr1];exact(CV▸he2).tail (by rw [hk];decide))) (fun hk s5 nI k5=>?_) (fun hk s5 nI k5=>?_)
     ·have CZ:aS (all.drop ((m+1)+1)):=by rw [hr1];exact(CV▸he2).tail (by rw [hk];decide)
      have hl5:(all.drop ((m+1)+1)).length=r1.length:=by rw [hr1]
      have y5:=z2.trans nI
      obtain⟨t6,r6,gq⟩:=CZ.ne
      obtain⟨C9,wR⟩:=aV gq
      have hl6:(all.drop ((m+1)+1)).length=r6.length+1:=by rw [gq];rfl
      simp only [eP,if_pos hk] at hQ
      have hQ:SY p w g all B xo nm ln σ d (a0 :: acc0) Q ((b_ n false (if bf fC r1=true then r1.tail else r1)).bind fun l ts=>.ok ((t1.s,bf fC r1) :: l) ts):=hQ
      rw [←hr1,gq] at hQ
      have f5:=nI.get (by omega) f2
      conv=>whnf
      refine ak (aj (T:=fU) rfl rfl (ah (f5)) rfl) ?_
      conv=>whnf
      refine dn _ k5 C9 (fun _ fP=>?_) (fun fP=>?_)
      ·have hpw:bf fC (t6 :: r6)=true:=fP
       obtain⟨Oc,ED,YV⟩:=aN CZ gq fP
       have hl7':(all.drop ((m+1)+1+1)).length=r6.length:=by rw [wR]
       simp only [hpw,if_true,List.tail_cons] at hQ
       rw [←wR] at hQ
       have z6:=PO.ext (p:=p) (w:=w) (g:=g) (n:=all.length) (m:=(m+1)+1+1) (d:=d) (b:=false) (c:=c0) (l:=l0) (σ:=s5)
       have k6:=k5.set (m':=(m+1)+1+1) (d':=d) (b':=false) (c':=c0) (l':=l0) Oc h.dp
       have f6:=z6.get (by omega) f5
       have y6:=y5.trans z6
       conv=>whnf
       refine⟨?_,?_⟩
       ·conv=>whnf
        refine ak (aj (T:=fU) rfl rfl (ah (f6)) rfl) ?_
        rfl
       conv=>whnf
       refine⟨?_,?_⟩
       ·conv=>whnf
        refine ak (aj (T:=fU) rfl rfl (ah (at_new f6 _ _)) rfl) ?_
        rfl
       conv=>whnf
       have l6:=y6.len
       refine jX (B:=B) (acc:=(a0 :: acc0)) (ha.keep (Nat.le_refl _) fun i a hi hh=>at_new (y6.get (by omega) hh) _ _) (t1.s,true) (by simp only [List.length_cons,List.length_nil] at hs ⊢;omega) (aF _ _ _) (by rw [aG];omega) fun o3 g3 yE s7 Oy hb7 E_ Zn=>?_
       rw [aG] at E_
       have f7:s7[xo]? =_:=(hb7 xo (by omega)).trans (at_new f6 _ _)
       have k7:=(k6.new _ _).keepR hp hw hb7
       conv=>whnf
       refine ak (aC (T:=fU) ([.s nm,.sl o3 g3 0 yE 2,.b false,.sl0,.i .i64 ln]) rfl (f7) rfl rfl (Nat.le_of_ble_eq_true rfl) rfl) ?_
       conv=>whnf
       have k8:=k7.gZ hxp hxw (gu nm (.sl o3 g3 0 yE 2) false .sl0 ln)
       have yB:cO p xo B σ (s7.set xo (gu nm (.sl o3 g3 0 yE 2) false .sl0 ln)):=⟨by rw [List.length_set];omega,fun i hi fP hix=>by rw [List.getElem?_set_ne (fun e=>hix e.symm),hb7 i hi,dh (by omega),y6.old i (by omega) fP]⟩
       refine zy d B xo nm ln hp hw CG hxp hxw ((a0 :: acc0) ++ [(t1.s,true)]) _ _ ((m+1)+1+1) _ _ Q k8 (by rw [List.length_set];omega) (at_set f7 _) (Oy.keep (Nat.le_refl _) fun i a hi hh=>aK hh (by omega) _) ED (by omega) (by rw [List.length_append];simp only [List.length_cons,List.length_nil] at hs ⊢;omega) ?_
       rw [show ((a0 :: acc0) ++ [(t1.s,true)]:List (List UInt8×Bool)).isEmpty=false by simp]
       generalize b_ n false (all.drop ((m+1)+1+1))=r2 at hQ
       cases r2 with
       | out=>trivial
       | bad c l=>exact fun A4 dZ m4 e' q0 q3 q9 x4=>hQ A4 dZ m4 e' q0 q3 q9 (yB.trans x4)
       | ok xs zx=>exact fun A4 dZ m4 c4 l4 e' q0 q3 q9 x4 h4 hm4 hx4 sK=>hQ A4 dZ m4 c4 l4 e' q0 q3 q9 (yB.trans x4) h4 hm4 hx4 (by rw [List.append_assoc] at sK;exact sK)
      ·have hpw:bf fC (t6 :: r6)=false:=by rw [show bf fC (t6 :: r6)=dF [112,116,114] t6 from rfl];simpa using fP
       simp only [hpw,Bool.false_eq_true,if_false] at hQ
       rw [←gq] at hQ
       have ED:=CZ
       have k6:=k5
       have f6:=f5
       have y6:=y5
       conv=>whnf
       refine⟨?_,?_⟩
       ·conv=>whnf
        refine ak (aj (T:=fU) rfl rfl (ah (f6)) rfl) ?_
        rfl
       conv=>whnf
       refine⟨?_,?_⟩
       ·conv=>whnf
        refine ak (aj (T:=fU) rfl rfl (ah (at_new f6 _ _)) rfl) ?_
        rfl
       conv=>whnf
       have l6:=y6.len
       refine jX (B:=B) (acc:=(a0 :: acc0)) (ha.keep (Nat.le_refl _) fun i a hi hh=>at_new (y6.get (by omega) hh) _ _) (t1.s,false) (by simp only [List.length_cons,List.length_nil] at hs ⊢;omega) (aF _ _ _) (by rw [aG];omega) fun o3 g3 yE s7 Oy hb7 E_ Zn=>?_
       rw [aG] at E_
       have f7:s7[xo]? =_:=(hb7 xo (by omega)).trans (at_new f6 _ _)
       have k7:=(k6.new _ _).keepR hp hw hb7
       conv=>whnf
       refine ak (aC (T:=fU) ([.s nm,.sl o3 g3 0 yE 2,.b false,.sl0,.i .i64 ln]) rfl (f7) rfl rfl (Nat.le_of_ble_eq_true rfl) rfl) ?_
       conv=>whnf
       have k8:=k7.gZ hxp hxw (gu nm (.sl o3 g3 0 yE 2) false .sl0 ln)
       have yB:cO p xo B σ (s7.set xo (gu nm (.sl o3 g3 0 yE 2) false .sl0 ln)):=⟨by rw [List.length_set];omega,fun i hi fP hix=>by rw [List.getElem?_set_ne (fun e=>hix e.symm),hb7 i hi,dh (by omega),y6.old i (by omega) fP]⟩
       refine zy d B xo nm ln hp hw CG hxp hxw ((a0 :: acc0) ++ [(t1.s,false)]) _ _ ((m+1)+1) _ _ Q k8 (by rw [List.length_set];omega) (at_set f7 _) (Oy.keep (Nat.le_refl _) fun i a hi hh=>aK hh (by omega) _) ED (by omega) (by rw [List.length_append];simp only [List.length_cons,List.length_nil] at hs ⊢;omega) ?_
       rw [show ((a0 :: acc0) ++ [(t1.s,false)]:List (List UInt8×Bool)).isEmpty=false by simp]
       generalize b_ n false (all.drop ((m+1)+1))=r2 at hQ
       cases r2 with
       | out=>trivial
       | bad c l=>exact fun A4 dZ m4 e' q0 q3 q9 x4=>hQ A4 dZ m4 e' q0 q3 q9 (yB.trans x4)
       | ok xs zx=>exact fun A4 dZ m4 c4 l4 e' q0 q3 q9 x4 h4 hm4 hx4 sK=>hQ A4 dZ m4 c4 l4 e' q0 q3 q9 (yB.trans x4) h4 hm4 hx4 (by rw [List.append_assoc] at sK;exact sK)
     ·simp only [eP,if_neg hk] at hQ
      have hQ:SY p w g all B xo nm ln σ d (a0 :: acc0) Q (.bad 4 t1.l):=hQ
      have f5:=nI.get (by omega) f2
      have y5:=z2.trans nI
      conv=>whnf
      refine ak (aj (T:=fU) rfl rfl (ah (f5)) rfl) ?_
      conv=>whnf
      refine dn _ k5 ht1 (fun e=>by cases e) (fun _=>?_)
      conv=>whnf
      refine⟨?_,?_⟩
      ·conv=>whnf
       refine ak (aj (T:=fU) rfl rfl (ah (f5)) rfl) ?_
       rfl
      conv=>whnf
      refine⟨?_,?_⟩
      ·conv=>whnf
       refine ak (aj (T:=fU) rfl rfl (ah (at_new f5 _ _)) rfl) ?_
       rfl
      conv=>whnf
      have l6:=y5.len
      refine jX (B:=B) (acc:=(a0 :: acc0)) (ha.keep (Nat.le_refl _) fun i a hi hh=>at_new (y5.get (by omega) hh) _ _) ([],false) (by simp only [List.length_cons,List.length_nil] at hs ⊢;omega) (aF _ _ _) (by rw [aG];omega) fun o3 g3 yE s7 Oy hb7 E_ Zn=>?_
      rw [aG] at E_
      have f7:s7[xo]? =_:=(hb7 xo (by omega)).trans (at_new f5 _ _)
      have k7:=(k5.new _ _).keepR hp hw hb7
      conv=>whnf
      refine ak (aC (T:=fU) ([.s nm,.sl o3 g3 0 yE 2,.b false,.sl0,.i .i64 ln]) rfl (f7) rfl rfl (Nat.le_of_ble_eq_true rfl) rfl) ?_
      conv=>whnf
      have k8:=k7.gZ hxp hxw (gu nm (.sl o3 g3 0 yE 2) false .sl0 ln)
      have yB:cO p xo B σ (s7.set xo (gu nm (.sl o3 g3 0 yE 2) false .sl0 ln)):=⟨by rw [List.length_set];omega,fun i hi fP hix=>by rw [List.getElem?_set_ne (fun e=>hix e.symm),hb7 i hi,dh (by omega),y5.old i (by omega) fP]⟩
      exact mg k8 fun e' q0 q3 q9=>hQ _ _ _ e' q0 q3 q9 yB k8 (at_set f7 _) (.inr ⟨_,_,_,rfl⟩)
    ·rw [aQ,if_neg (by rw [show bf [44] (t :: r)=dF [44] t from rfl,hi2];decide)] at hQ
     have hQ:SY p w g all B xo nm ln σ d (a0 :: acc0) Q (.bad 4 t.l):=hQ
     have z5:=PO.ext (p:=p) (w:=w) (g:=g) (n:=all.length) (m:=m) (d:=d) (b:=true) (c:=4) (l:=t.l) (σ:=σ)
     have k5:=h.set (m':=m) (d':=d) (b':=true) (c':=4) (l':=t.l) h.at_ h.dp
     have f5:=z5.get (by omega) hx
     conv=>whnf
     refine Ce k5 ht ?_
     conv=>whnf
     refine ak (aj (T:=fU) rfl rfl (ah (f5)) rfl) ?_
     conv=>whnf
     refine dn _ k5 ht (fun e=>by cases e) (fun _=>?_)
     conv=>whnf
     refine⟨?_,?_⟩
     ·conv=>whnf
      refine ak (aj (T:=fU) rfl rfl (ah (f5)) rfl) ?_
      rfl
     conv=>whnf
     refine⟨?_,?_⟩
     ·conv=>whnf
      refine ak (aj (T:=fU) rfl rfl (ah (at_new f5 _ _)) rfl) ?_
      rfl
     conv=>whnf
     have l6:=z5.len
     refine jX (B:=B) (acc:=(a0 :: acc0)) (ha.keep (Nat.le_refl _) fun i a hi hh=>at_new (z5.get (by omega) hh) _ _) ([],false) (by simp only [List.length_cons,List.length_nil] at hs ⊢;omega) (aF _ _ _) (by rw [aG];omega) fun o3 g3 yE s7 Oy hb7 E_ Zn=>?_
     rw [aG] at E_
     have f7:s7[xo]? =_:=(hb7 xo (by omega)).trans (at_new f5 _ _)
     have k7:=(k5.new _ _).keepR hp hw hb7
     conv=>whnf
     refine ak (aC (T:=fU) ([.s nm,.sl o3 g3 0 yE 2,.b false,.sl0,.i .i64 ln]) rfl (f7) rfl rfl (Nat.le_of_ble_eq_true rfl) rfl) ?_
     conv=>whnf
     have k8:=k7.gZ hxp hxw (gu nm (.sl o3 g3 0 yE 2) false .sl0 ln)
     have yB:cO p xo B σ (s7.set xo (gu nm (.sl o3 g3 0 yE 2) false .sl0 ln)):=⟨by rw [List.length_set];omega,fun i hi fP hix=>by rw [List.getElem?_set_ne (fun e=>hix e.symm),hb7 i hi,dh (by omega),z5.old i (by omega) fP]⟩
     exact mg k8 fun e' q0 q3 q9=>hQ _ _ _ e' q0 q3 q9 yB k8 (at_set f7 _) (.inr ⟨_,_,_,rfl⟩)
end
end Go.bP.YthoodopjoaigdaaGreatDoor
namespace Go.bP.YthoodopjoaigdaaGreatDoor
open Go.Proofs
set_option maxRecDepth 4000
section
variable {p w g:Nat} {all:List Tok} {n:Nat}
theorem Jh:∀n,CU p w g all n
 | 0=>fun _ _ _ _ _ _ _ _ _ _ _ _ _ _ _ _ _ _ _ _ _ _ h _ _=>absurd h (by omega)
 | n+1=>YX (Jh n)
def Jr (p w g:Nat)(all:List Tok)(σ:St)(Q:AV→St→Prop):Re Fm→Prop
 | .ok f ts=>∀o σ' m' c l,aI p σ σ'→PO p w g all σ' m' 0 false c l→all.drop m'= ts→yx (fun i=>σ.length≤i) σ' (.p o 0 0) f→Q (.p o 0 0) σ'
 | .bad c l=>∀o σ' m',aI p σ σ'→PO p w g all σ' m' 0 true c l→Q (.p o 0 0) σ'
 | .out=>True
theorem cO.toP {p x:Nat} {σ s s':St} (h:aI p σ s)(k:cO p x s.length s s')(hx:σ.length≤x):aI p σ s':=⟨Nat.le_trans h.len k.len,fun i hi fP=>by rw [k.old i (Nat.lt_of_lt_of_le hi h.len) fP (by omega),h.old i hi fP]⟩
set_option maxHeartbeats 4000000 in
theorem Ky (hno:ni all)(σ:St)(m c0 l0:Nat)(Q:AV→St→Prop)(h:PO p w g all σ m 0 false c0 l0)(he:aS (all.drop m))(hn:10*(all.drop m).length+10≤n)(hQ:Jr p w g all σ Q (uh n (all.drop m))):ay X 15 [.p p 0 0] σ Q:=by
 obtain⟨t,r,hts⟩:=he.ne
 obtain⟨ht,hr⟩:=aV hts
 have hpl:=aX h.obj
 have hwl:=aX h.tok
 have hal:=h.len
 have hlr:(all.drop m).length=r.length+1:=by rw [hts];rfl
 unfold uh at hQ
 rw [hts] at hQ
 have hQ:Jr p w g all σ Q ((aQ wI (t :: r)).bind fun _ bH=>(eP bH).bind fun nm bH=>(gG [40] 0 bH).bind fun _ bH=>(b_ n true bH).bind fun ps bH=>(aQ [41] bH).bind fun _ bH=>LU n t.l nm ps bH):=hQ
 refine ay.body (F:=F15) aH (lit:=false) rfl rfl (Nat.le_of_ble_eq_true rfl) ?_
 conv=>whnf
 refine ay.to (iD h ht) ?_
 conv=>whnf
 have b1:(au 85 (AV.ag [.s [],.sl0,.b false,.sl0,.i .i64 t.l]).cells σ)[σ.length]? =some ⟨0,false,.cells 85 [.s [],.sl0,.b false,.sl0,.i .i64 t.l]⟩:=aF _ _ _
 have x1:Ext σ (au 85 (AV.ag [.s [],.sl0,.b false,.sl0,.i .i64 t.l]).cells σ):=(Ext.refl σ).new _ _
 have l1:(au 85 (AV.ag [.s [],.sl0,.b false,.sl0,.i .i64 t.l]).cells σ).length=σ.length+1:=aG _ _ _
 generalize au 85 (AV.ag [.s [],.sl0,.b false,.sl0,.i .i64 t.l]).cells σ=σ1 at b1 x1 l1 ⊢
 have b1:σ1[σ.length]? =some (gu [] .sl0 false .sl0 t.l):=b1
 have k1:=h.EC x1
 have y1:aI p σ σ1:=aI.of x1
 have EF:σ.length≠p:=by omega
 have EG:σ.length≠w:=by omega
 conv=>whnf
 refine je _ k1 ht (fun hi=>?_) (fun hi=>?_)
 ·rw [aQ,if_pos (show bf wI (t :: r)=true from hi)] at hQ
  have hQ:Jr p w g all σ Q ((eP r).bind fun nm bH=>(gG [40] 0 bH).bind fun _ bH=>(b_ n true bH).bind fun ps bH=>(aQ [41] bH).bind fun _ bH=>LU n t.l nm ps bH):=hQ
  obtain⟨hm2,he2,hle2⟩:=aN he hts hi
  have z2:=PO.ext (p:=p) (w:=w) (g:=g) (n:=all.length) (m:=m+1) (d:=0) (b:=false) (c:=c0) (l:=l0) (σ:=σ1)
  have k2:=k1.set (m':=m+1) (d':=0) (b':=false) (c':=c0) (l':=l0) hm2 (by omega)
  have f2:=z2.get (by omega) b1
  have y2:=y1.trans z2
  rw [←hr] at hQ
  obtain⟨t3,r3,jl⟩:=he2.ne
  obtain⟨ht3,hr3⟩:=aV jl
  have hlr3:(all.drop (m+1)).length=r3.length+1:=by rw [jl];rfl
  rw [jl] at hQ
  conv=>whnf
  refine sJ k2 ht3 (fun hk=>iV (by rw [hr3];exact(jl▸he2).tail (by rw [hk];decide))) (fun hk s3 y3' k3=>?_) (fun hk s3 y3' k3=>?_)
  ·have he3:aS (all.drop (m+1+1)):=by rw [hr3];exact(jl▸he2).tail (by rw [hk];decide)
   rw [eP,if_pos hk] at hQ
   have hQ:Jr p w g all σ Q ((gG [40] 0 r3).bind fun _ bH=>(b_ n true bH).bind fun ps bH=>(aQ [41] bH).bind fun _ bH=>LU n t.l t3.s ps bH):=hQ
   have f3:=y3'.get (by omega) f2
   have y3:=y2.trans y3'
   conv=>whnf
   refine ak (aC (T:=fA) ([.s t3.s,.sl0,.b false,.sl0,.i .i64 t.l]) rfl (f3) rfl rfl (Nat.le_of_ble_eq_true rfl) rfl) ?_
   conv=>whnf
   have k4:=k3.gZ EF EG (gu t3.s .sl0 false .sl0 t.l)
   have f4:(_:St)[σ.length]? =_:=at_set f3 (gu t3.s .sl0 false .sl0 t.l)
   have y4:aI p σ _:=y3.set (o:=σ.length) (Nat.le_refl _) (gu t3.s .sl0 false .sl0 t.l)
   obtain⟨t5,r5,Du⟩:=he3.ne
   obtain⟨Zk,hr5⟩:=aV Du
   have hlr5:(all.drop (m+1+1)).length=r5.length+1:=by rw [Du];rfl
   have hlr35:(all.drop (m+1+1)).length=r3.length:=by rw [hr3]
   unfold gG at hQ
   rw [←hr3,Du] at hQ
   conv=>whnf
   refine pU [40] k4 Zk (by omega) (fun hi=>(aN he3 Du hi).1) (fun hi5 h64=>?_) (fun hi5 h64=>absurd h64 (by omega)) (fun hi5=>?_)
   ·obtain⟨Oc,ED,YV⟩:=aN he3 Du hi5
    rw [if_neg (by omega),aQ,if_pos (show bf [40] (t5 :: r5)=true from hi5)] at hQ
    have hQ:Jr p w g all σ Q ((b_ n true r5).bind fun ps bH=>(aQ [41] bH).bind fun _ bH=>LU n t.l t3.s ps bH):=hQ
    rw [←hr5] at hQ
    have k6:=k4.set (m':=m+1+1+1) (d':=1) (b':=false) (c':=c0) (l':=l0) Oc (by omega)
    have f6:=aI.get (PO.ext (p:=p) (w:=w) (g:=g) (n:=all.length) (m:=m+1+1+1) (d:=1) (b:=false) (c:=c0) (l:=l0)) (by omega) f4
    have y6:=y4.trans (PO.ext (p:=p) (w:=w) (g:=g) (n:=all.length) (m:=m+1+1+1) (d:=1) (b:=false) (c:=c0) (l:=l0))
    have l6:=aX f6
    have hg:=oK n true (all.drop (m+1+1+1)) ED (by omega)
    conv=>whnf
    refine Jh n 1 _ σ.length t3.s t.l (Nat.lt_trans hpl l6) (Nat.lt_trans hwl l6) l6 EF EG [] .sl0 _ (m+1+1+1) _ _ _ k6 (Nat.le_refl _) f6 (.inl ⟨rfl,rfl⟩) ED (by omega) (by simp only [List.length_nil,List.length_drop];omega) ?_
    show SY _ _ _ _ _ _ _ _ _ _ _ _ (b_ n true (all.drop (m+1+1+1)))
    generalize b_ n true (all.drop (m+1+1+1))=re at hg hQ
    cases re with
    | out=>exact hg.elim
    | bad c l=>
      have hQ:Jr p w g all σ Q (.bad c l):=hQ
      intro A s8 m8 e' e0 e3 e9 x8 k8 f8 hA
      obtain⟨t8,RI⟩:=sW k8
      have y8:=cO.toP y6 x8 (Nat.le_refl _)
      conv=>whnf
      rw [show dI.ev e' (.t 0)=get e' 0 from rfl,e0]
      conv=>whnf
      refine gI _ k8 RI ?_
      have Sj:=k8.set (m':=m8) (d':=0) (b':=true) (c':=c) (l':=l) k8.at_ (by omega)
      have f55:=aI.get (PO.ext (p:=p) (w:=w) (g:=g) (n:=all.length) (m:=m8) (d:=0) (b:=true) (c:=c) (l:=l)) (by omega) f8
      have YZ:=y8.trans (PO.ext (p:=p) (w:=w) (g:=g) (n:=all.length) (m:=m8) (d:=0) (b:=true) (c:=c) (l:=l))
      conv=>whnf
      erw [show get (put (some 53) (.tu []) (put (some 52) (.p p 0 0) e')) 0= .p p 0 0 from e0]
      conv=>whnf
      erw [show get (put (some 53) (.tu []) (put (some 52) (.p p 0 0) e')) 3= .p σ.length 0 0 from e3]
      conv=>whnf
      refine dn _ Sj RI (fun e=>by cases e) (fun _=>?_)
      conv=>whnf
      refine ak (aC (T:=kR) ([.s t3.s,A,.b false,.sl0,.i .i64 t.l]) rfl (f55) rfl rfl (Nat.le_of_ble_eq_true rfl) rfl) ?_
      conv=>whnf
      have VB:=Sj.gZ EF EG (gu t3.s A false .sl0 t.l)
      have f66:(_:St)[σ.length]? =_:=at_set f55 (gu t3.s A false .sl0 t.l)
      have VD:aI p σ _:=YZ.set (o:=σ.length) (Nat.le_refl _) (gu t3.s A false .sl0 t.l)
      conv=>whnf
      refine kN VB RI (by omega) fun s7 LZ VE=>?_
      have f7':=LZ.get (by omega) f66
      conv=>whnf
      refine ak (aC (T:=dN) ([.s t3.s,A,.b false,.sl0,.i .i64 t.l]) rfl (f7') rfl rfl (Nat.le_of_ble_eq_true rfl) rfl) ?_
      conv=>whnf
      exact Fin.ref rfl (hQ _ _ _ ((VD.trans LZ).set (o:=σ.length) (Nat.le_refl _) (gu t3.s A false .sl0 t.l)) (VE.gZ EF EG (gu t3.s A false .sl0 t.l)))
    | ok ps bH=>
      have hQ:Jr p w g all σ Q ((aQ [41] bH).bind fun _ bH=>LU n t.l t3.s ps bH):=hQ
      intro A s8 m8 c8 l8 e' e0 e3 e9 x8 k8 LP f8 hA
      have y8:=cO.toP y6 x8 (Nat.le_refl _)
      have Vx:aS (all.drop m8):=by rw [LP];exact hg.2.1
      have hlg:=hg.2.2
      rw [←LP] at hQ hlg
      obtain⟨t9,r9,rG⟩:=Vx.ne
      obtain⟨YW,hr9⟩:=aV rG
      have hlr9:(all.drop m8).length=r9.length+1:=by rw [rG];rfl
      rw [rG] at hQ
      conv=>whnf
      rw [show dI.ev e' (.t 0)=get e' 0 from rfl,e0]
      conv=>whnf
      refine wJ _ k8 YW (fun hi9=>(aN Vx rG hi9).1) (fun hi9=>?_) (fun hi9=>?_)
      ·obtain⟨hm10,Y0,hle10⟩:=aN Vx rG hi9
       rw [aQ,if_pos (show bf [41] (t9 :: r9)=true from hi9)] at hQ
       have hQ:Jr p w g all σ Q (LU n t.l t3.s ps r9):=hQ
       rw [←hr9] at hQ
       have k10:=k8.set (m':=m8+1) (d':=0) (b':=false) (c':=c8) (l':=l8) hm10 (by omega)
       have f10:=aI.get (PO.ext (p:=p) (w:=w) (g:=g) (n:=all.length) (m:=m8+1) (d:=0) (b:=false) (c:=c8) (l:=l8)) (by omega) f8
       have z10:=PO.ext (p:=p) (w:=w) (g:=g) (n:=all.length) (m:=m8+1) (d:=0) (b:=false) (c:=c8) (l:=l8) (σ:=s8)
       have oO:=y8.trans z10
       have RV:iY (σ.length+1) (fD p w g all.length s8 (m8+1) 0 false c8 l8) A ps:=hA.keep (by omega) fun i a hi hh=>z10.get (by omega) hh
       obtain⟨t11,r11,EH⟩:=Y0.ne
       obtain⟨ht11,hr11⟩:=aV EH
       have hlr11:(all.drop (m8+1)).length=r11.length+1:=by rw [EH];rfl
       conv=>whnf
       erw [show get (put (some 53) (.tu []) (put (some 52) (.p p 0 0) e')) 0= .p p 0 0 from e0]
       conv=>whnf
       erw [show get (put (some 53) (.tu []) (put (some 52) (.p p 0 0) e')) 3= .p σ.length 0 0 from e3]
       conv=>whnf
       refine dn _ k10 ht11 (fun _ fP=>?_) (fun fP=>?_)
       ·have hpw:bf fC (t11 :: r11)=true:=fP
        obtain⟨hm12,Sl,hle12⟩:=aN Y0 EH fP
        have hl12:(all.drop (m8+1+1)).length=r11.length:=by rw [hr11]
        unfold LU at hQ
        rw [EH] at hQ
        simp only [hpw,if_true,List.tail_cons] at hQ
        rw [←hr11] at hQ
        have z12:=PO.ext (p:=p) (w:=w) (g:=g) (n:=all.length) (m:=m8+1+1) (d:=0) (b:=false) (c:=c8) (l:=l8) (σ:=fD p w g all.length s8 (m8+1) 0 false c8 l8)
        have k12:=k10.set (m':=m8+1+1) (d':=0) (b':=false) (c':=c8) (l':=l8) hm12 (by omega)
        have f12:=z12.get (by omega) f10
        have Si:=oO.trans z12
        have Y1:=RV.keep (Nat.le_refl _) fun i a hi hh=>z12.get (by omega) hh
        conv=>whnf
        refine ak (aC (T:=kR) ([.s t3.s,A,.b true,.sl0,.i .i64 t.l]) rfl (f12) rfl rfl (Nat.le_of_ble_eq_true rfl) rfl) ?_
        conv=>whnf
        have k13:=k12.gZ EF EG (gu t3.s A true .sl0 t.l)
        have f13:(_:St)[σ.length]? =_:=at_set f12 (gu t3.s A true .sl0 t.l)
        have y13:aI p σ _:=Si.set (o:=σ.length) (Nat.le_refl _) (gu t3.s A true .sl0 t.l)
        have Y2:=Y1.keep (σ':=List.set _ σ.length (gu t3.s A true .sl0 t.l)) (Nat.le_refl _) fun i a hi hh=>aK hh (by omega) _
        have l13:=aX f13
        have hgb:=(lW n).block 0 (all.drop (m8+1+1)) Sl (by omega)
        conv=>whnf
        refine(allT hno n).1.block 0 _ (m8+1+1) _ _ _ k13 (by omega) Sl (by omega) ?_
        generalize dK n 0 (all.drop (m8+1+1))=rb at hgb hQ
        cases rb with
        | out=>exact hgb.elim
        | bad c l=>
          have hQ:Jr p w g all σ Q (.bad c l):=hQ
          intro Bd s14 m14 Gs k14 hBd
          have f14:=Gs.get (by omega) f13
          refine jJ _ _ ?_
          conv=>whnf
          refine ak (dL (T:=dN) [.s t3.s,A,.b true,Bd,.i .i64 t.l] hBd rfl rfl f14 (Nat.le_of_ble_eq_true rfl) rfl) ?_
          conv=>whnf
          exact Fin.ref rfl (hQ _ _ _ ((y13.trans Gs).set (o:=σ.length) (Nat.le_refl _) (gu t3.s A true Bd t.l)) (k14.gZ EF EG (gu t3.s A true Bd t.l)))
        | ok bd fO=>
          have hQ:Jr p w g all σ Q (.ok ⟨t3.s,ps,true,bd,t.l⟩ fO):=hQ
          intro Bd s14 m14 c14 l14 Gs k14 Y3 hbd hBd
          have f14:=Gs.get (by omega) f13
          have l14':=Gs.len
          refine jJ _ _ ?_
          conv=>whnf
          refine ak (dL (T:=dN) [.s t3.s,A,.b true,Bd,.i .i64 t.l] hBd rfl rfl f14 (Nat.le_of_ble_eq_true rfl) rfl) ?_
          conv=>whnf
          refine Fin.ref rfl (hQ _ _ _ _ _ ((y13.trans Gs).set (o:=σ.length) (Nat.le_refl _) (gu t3.s A true Bd t.l)) (k14.gZ EF EG (gu t3.s A true Bd t.l)) Y3 ⟨σ.length,A,Bd,Nat.le_refl _,rfl,at_set f14 _,?_,?_⟩)
          ·rcases Y2 with ⟨q1,q2⟩ | ⟨o2,g2,q1,q2,q3⟩
           ·exact .inl ⟨q1,q2⟩
           ·exact .inr ⟨o2,g2,by omega,q2,aK (Gs.get (by omega) q3) (by omega) _⟩
          ·exact dR.mono (fun i hi=>by first | omega | (simp only [List.length_set,bg] at *;omega)) (fun i hi a ha=>aK ha (by first | omega | (simp only [List.length_set,bg] at *;omega)) _) hbd
       ·have hpw:bf fC (t11 :: r11)=false:=by rw [show bf fC (t11 :: r11)=dF [112,116,114] t11 from rfl];simpa using fP
        unfold LU at hQ
        rw [EH] at hQ
        simp only [hpw,Bool.false_eq_true,if_false] at hQ
        rw [←EH] at hQ
        have Sl:=Y0
        have k12:=k10
        have f12:=f10
        have Si:=oO
        have Y1:=RV
        conv=>whnf
        refine ak (aC (T:=kR) ([.s t3.s,A,.b false,.sl0,.i .i64 t.l]) rfl (f12) rfl rfl (Nat.le_of_ble_eq_true rfl) rfl) ?_
        conv=>whnf
        have k13:=k12.gZ EF EG (gu t3.s A false .sl0 t.l)
        have f13:(_:St)[σ.length]? =_:=at_set f12 (gu t3.s A false .sl0 t.l)
        have y13:aI p σ _:=Si.set (o:=σ.length) (Nat.le_refl _) (gu t3.s A false .sl0 t.l)
        have Y2:=Y1.keep (σ':=List.set _ σ.length (gu t3.s A false .sl0 t.l)) (Nat.le_refl _) fun i a hi hh=>aK hh (by omega) _
        have l13:=aX f13
        have hgb:=(lW n).block 0 (all.drop (m8+1)) Sl (by omega)
        conv=>whnf
        refine(allT hno n).1.block 0 _ (m8+1) _ _ _ k13 (by omega) Sl (by omega) ?_
        generalize dK n 0 (all.drop (m8+1))=rb at hgb hQ
        cases rb with
        | out=>exact hgb.elim
        | bad c l=>
          have hQ:Jr p w g all σ Q (.bad c l):=hQ
          intro Bd s14 m14 Gs k14 hBd
          have f14:=Gs.get (by omega) f13
          refine jJ _ _ ?_
          conv=>whnf
          refine ak (dL (T:=dN) [.s t3.s,A,.b false,Bd,.i .i64 t.l] hBd rfl rfl f14 (Nat.le_of_ble_eq_true rfl) rfl) ?_
          conv=>whnf
          exact Fin.ref rfl (hQ _ _ _ ((y13.trans Gs).set (o:=σ.length) (Nat.le_refl _) (gu t3.s A false Bd t.l)) (k14.gZ EF EG (gu t3.s A false Bd t.l)))
        | ok bd fO=>
          have hQ:Jr p w g all σ Q (.ok ⟨t3.s,ps,false,bd,t.l⟩ fO):=hQ
          intro Bd s14 m14 c14 l14 Gs k14 Y3 hbd hBd
          have f14:=Gs.get (by omega) f13
          have l14':=Gs.len
          refine jJ _ _ ?_
          conv=>whnf
          refine ak (dL (T:=dN) [.s t3.s,A,.b false,Bd,.i .i64 t.l] hBd rfl rfl f14 (Nat.le_of_ble_eq_true rfl) rfl) ?_
          conv=>whnf
          refine Fin.ref rfl (hQ _ _ _ _ _ ((y13.trans Gs).set (o:=σ.length) (Nat.le_refl _) (gu t3.s A false Bd t.l)) (k14.gZ EF EG (gu t3.s A false Bd t.l)) Y3 ⟨σ.length,A,Bd,Nat.le_refl _,rfl,at_set f14 _,?_,?_⟩)
          ·rcases Y2 with ⟨q1,q2⟩ | ⟨o2,g2,q1,q2,q3⟩
           ·exact .inl ⟨q1,q2⟩
           ·exact .inr ⟨o2,g2,by omega,q2,aK (Gs.get (by omega) q3) (by omega) _⟩
          ·exact dR.mono (fun i hi=>by first | omega | (simp only [List.length_set,bg] at *;omega)) (fun i hi a ha=>aK ha (by first | omega | (simp only [List.length_set,bg] at *;omega)) _) hbd
      ·rw [aQ,if_neg (by rw [show bf [41] (t9 :: r9)=dF [41] t9 from rfl,hi9];decide)] at hQ
       have hQ:Jr p w g all σ Q (.bad 4 t9.l):=hQ
       have k10:=k8.set (m':=m8) (d':=0) (b':=true) (c':=4) (l':=t9.l) k8.at_ (by omega)
       have f10:=aI.get (PO.ext (p:=p) (w:=w) (g:=g) (n:=all.length) (m:=m8) (d:=0) (b:=true) (c:=4) (l:=t9.l)) (by omega) f8
       have oO:=y8.trans (PO.ext (p:=p) (w:=w) (g:=g) (n:=all.length) (m:=m8) (d:=0) (b:=true) (c:=4) (l:=t9.l))
       conv=>whnf
       erw [show get (put (some 53) (.tu []) (put (some 52) (.p p 0 0) e')) 0= .p p 0 0 from e0]
       conv=>whnf
       erw [show get (put (some 53) (.tu []) (put (some 52) (.p p 0 0) e')) 3= .p σ.length 0 0 from e3]
       conv=>whnf
       refine dn _ k10 YW (fun e=>by cases e) (fun _=>?_)
       conv=>whnf
       refine ak (aC (T:=kR) ([.s t3.s,A,.b false,.sl0,.i .i64 t.l]) rfl (f10) rfl rfl (Nat.le_of_ble_eq_true rfl) rfl) ?_
       conv=>whnf
       have VB:=k10.gZ EF EG (gu t3.s A false .sl0 t.l)
       have f66:(_:St)[σ.length]? =_:=at_set f10 (gu t3.s A false .sl0 t.l)
       have VD:aI p σ _:=oO.set (o:=σ.length) (Nat.le_refl _) (gu t3.s A false .sl0 t.l)
       conv=>whnf
       refine kN VB YW (by omega) fun s7 LZ VE=>?_
       have f7':=LZ.get (by omega) f66
       conv=>whnf
       refine ak (aC (T:=dN) ([.s t3.s,A,.b false,.sl0,.i .i64 t.l]) rfl (f7') rfl rfl (Nat.le_of_ble_eq_true rfl) rfl) ?_
       conv=>whnf
       exact Fin.ref rfl (hQ _ _ _ ((VD.trans LZ).set (o:=σ.length) (Nat.le_refl _) (gu t3.s A false .sl0 t.l)) (VE.gZ EF EG (gu t3.s A false .sl0 t.l)))
   ·have hiw:¬bf [40] (t5 :: r5)=true:=by rw [show bf [40] (t5 :: r5)=dF [40] t5 from rfl,hi5];decide
    rw [if_neg (fun e=>hiw e.1),aQ,if_neg hiw] at hQ
    have hQ:Jr p w g all σ Q (.bad 4 t5.l):=hQ
    have k6:=k4.set (m':=m+1+1) (d':=1) (b':=true) (c':=4) (l':=t5.l) k4.at_ (by omega)
    have f6:=aI.get (PO.ext (p:=p) (w:=w) (g:=g) (n:=all.length) (m:=m+1+1) (d:=1) (b:=true) (c:=4) (l:=t5.l)) (by omega) f4
    have y6:=y4.trans (PO.ext (p:=p) (w:=w) (g:=g) (n:=all.length) (m:=m+1+1) (d:=1) (b:=true) (c:=4) (l:=t5.l))
    conv=>whnf
    refine mg k6 fun e' e0 e3 e9=>?_
    conv=>whnf
    rw [show dI.ev e' (.t 0)=get e' 0 from rfl,e0]
    conv=>whnf
    refine gI _ k6 Zk ?_
    have Sj:=k6.set (m':=(m+1+1)) (d':=0) (b':=true) (c':=4) (l':=t5.l) k6.at_ (by omega)
    have f55:=aI.get (PO.ext (p:=p) (w:=w) (g:=g) (n:=all.length) (m:=(m+1+1)) (d:=0) (b:=true) (c:=4) (l:=t5.l)) (by omega) f6
    have YZ:=y6.trans (PO.ext (p:=p) (w:=w) (g:=g) (n:=all.length) (m:=(m+1+1)) (d:=0) (b:=true) (c:=4) (l:=t5.l))
    conv=>whnf
    erw [show get (put (some 53) (.tu []) (put (some 52) (.p p 0 0) e')) 0= .p p 0 0 from e0]
    conv=>whnf
    erw [show get (put (some 53) (.tu []) (put (some 52) (.p p 0 0) e')) 3= .p σ.length 0 0 from e3]
    conv=>whnf
    refine dn _ Sj Zk (fun e=>by cases e) (fun _=>?_)
    conv=>whnf
    refine ak (aC (T:=kR) ([.s t3.s,.sl0,.b false,.sl0,.i .i64 t.l]) rfl (f55) rfl rfl (Nat.le_of_ble_eq_true rfl) rfl) ?_
    conv=>whnf
    have VB:=Sj.gZ EF EG (gu t3.s .sl0 false .sl0 t.l)
    have f66:(_:St)[σ.length]? =_:=at_set f55 (gu t3.s .sl0 false .sl0 t.l)
    have VD:aI p σ _:=YZ.set (o:=σ.length) (Nat.le_refl _) (gu t3.s .sl0 false .sl0 t.l)
    conv=>whnf
    refine kN VB Zk (by omega) fun s7 LZ VE=>?_
    have f7':=LZ.get (by omega) f66
    conv=>whnf
    refine ak (aC (T:=dN) ([.s t3.s,.sl0,.b false,.sl0,.i .i64 t.l]) rfl (f7') rfl rfl (Nat.le_of_ble_eq_true rfl) rfl) ?_
    conv=>whnf
    exact Fin.ref rfl (hQ _ _ _ ((VD.trans LZ).set (o:=σ.length) (Nat.le_refl _) (gu t3.s .sl0 false .sl0 t.l)) (VE.gZ EF EG (gu t3.s .sl0 false .sl0 t.l)))
  ·rw [eP,if_neg hk] at hQ
   have hQ:Jr p w g all σ Q (.bad 4 t3.l):=hQ
   have f3:=y3'.get (by omega) f2
   have y3:=y2.trans y3'
   conv=>whnf
   refine ak (aC (T:=fA) ([.s [],.sl0,.b false,.sl0,.i .i64 t.l]) rfl (f3) rfl rfl (Nat.le_of_ble_eq_true rfl) rfl) ?_
   conv=>whnf
   have k4:=k3.gZ EF EG (gu [] .sl0 false .sl0 t.l)
   have f4:(_:St)[σ.length]? =_:=at_set f3 (gu [] .sl0 false .sl0 t.l)
   have y4:aI p σ _:=y3.set (o:=σ.length) (Nat.le_refl _) (gu [] .sl0 false .sl0 t.l)
   conv=>whnf
   refine Cc _ k4 ht3 (by omega) ?_
   have k33:=k4.set (m':=(m+1)) (d':=1) (b':=true) (c':=4) (l':=t3.l) k4.at_ (by omega)
   have f33:=aI.get (PO.ext (p:=p) (w:=w) (g:=g) (n:=all.length) (m:=(m+1)) (d:=1) (b:=true) (c:=4) (l:=t3.l)) (by omega) f4
   have y33:=y4.trans (PO.ext (p:=p) (w:=w) (g:=g) (n:=all.length) (m:=(m+1)) (d:=1) (b:=true) (c:=4) (l:=t3.l))
   conv=>whnf
   refine mg k33 fun e' e0 e3 e9=>?_
   conv=>whnf
   rw [show dI.ev e' (.t 0)=get e' 0 from rfl,e0]
   conv=>whnf
   refine gI _ k33 ht3 ?_
   have Sj:=k33.set (m':=(m+1)) (d':=0) (b':=true) (c':=4) (l':=t3.l) k33.at_ (by omega)
   have f55:=aI.get (PO.ext (p:=p) (w:=w) (g:=g) (n:=all.length) (m:=(m+1)) (d:=0) (b:=true) (c:=4) (l:=t3.l)) (by omega) f33
   have YZ:=y33.trans (PO.ext (p:=p) (w:=w) (g:=g) (n:=all.length) (m:=(m+1)) (d:=0) (b:=true) (c:=4) (l:=t3.l))
   conv=>whnf
   erw [show get (put (some 53) (.tu []) (put (some 52) (.p p 0 0) e')) 0= .p p 0 0 from e0]
   conv=>whnf
   erw [show get (put (some 53) (.tu []) (put (some 52) (.p p 0 0) e')) 3= .p σ.length 0 0 from e3]
   conv=>whnf
   refine dn _ Sj ht3 (fun e=>by cases e) (fun _=>?_)
   conv=>whnf
   refine ak (aC (T:=kR) ([.s [],.sl0,.b false,.sl0,.i .i64 t.l]) rfl (f55) rfl rfl (Nat.le_of_ble_eq_true rfl) rfl) ?_
   conv=>whnf
   have VB:=Sj.gZ EF EG (gu [] .sl0 false .sl0 t.l)
   have f66:(_:St)[σ.length]? =_:=at_set f55 (gu [] .sl0 false .sl0 t.l)
   have VD:aI p σ _:=YZ.set (o:=σ.length) (Nat.le_refl _) (gu [] .sl0 false .sl0 t.l)
   conv=>whnf
   refine kN VB ht3 (by omega) fun s7 LZ VE=>?_
   have f7':=LZ.get (by omega) f66
   conv=>whnf
   refine ak (aC (T:=dN) ([.s [],.sl0,.b false,.sl0,.i .i64 t.l]) rfl (f7') rfl rfl (Nat.le_of_ble_eq_true rfl) rfl) ?_
   conv=>whnf
   exact Fin.ref rfl (hQ _ _ _ ((VD.trans LZ).set (o:=σ.length) (Nat.le_refl _) (gu [] .sl0 false .sl0 t.l)) (VE.gZ EF EG (gu [] .sl0 false .sl0 t.l)))
 ·rw [aQ,if_neg (by rw [show bf wI (t :: r)=dF [102,117,110,99] t from rfl,hi];decide)] at hQ
  have hQ:Jr p w g all σ Q (.bad 4 t.l):=hQ
  have k2:=k1.set (m':=m) (d':=0) (b':=true) (c':=4) (l':=t.l) k1.at_ (by omega)
  have f2:=aI.get (PO.ext (p:=p) (w:=w) (g:=g) (n:=all.length) (m:=m) (d:=0) (b:=true) (c:=4) (l:=t.l)) (by omega) b1
  have y2:=y1.trans (PO.ext (p:=p) (w:=w) (g:=g) (n:=all.length) (m:=m) (d:=0) (b:=true) (c:=4) (l:=t.l))
  conv=>whnf
  refine Ce k2 ht ?_
  conv=>whnf
  refine ak (aC (T:=fA) ([.s [],.sl0,.b false,.sl0,.i .i64 t.l]) rfl (f2) rfl rfl (Nat.le_of_ble_eq_true rfl) rfl) ?_
  conv=>whnf
  have k22:=k2.gZ EF EG (gu [] .sl0 false .sl0 t.l)
  have f22:(_:St)[σ.length]? =_:=at_set f2 (gu [] .sl0 false .sl0 t.l)
  have y22:aI p σ _:=y2.set (o:=σ.length) (Nat.le_refl _) (gu [] .sl0 false .sl0 t.l)
  conv=>whnf
  refine Cc _ k22 ht (by omega) ?_
  have k33:=k22.set (m':=m) (d':=1) (b':=true) (c':=4) (l':=t.l) k22.at_ (by omega)
  have f33:=aI.get (PO.ext (p:=p) (w:=w) (g:=g) (n:=all.length) (m:=m) (d:=1) (b:=true) (c:=4) (l:=t.l)) (by omega) f22
  have y33:=y22.trans (PO.ext (p:=p) (w:=w) (g:=g) (n:=all.length) (m:=m) (d:=1) (b:=true) (c:=4) (l:=t.l))
  conv=>whnf
  refine mg k33 fun e' e0 e3 e9=>?_
  conv=>whnf
  rw [show dI.ev e' (.t 0)=get e' 0 from rfl,e0]
  conv=>whnf
  refine gI _ k33 ht ?_
  have Sj:=k33.set (m':=m) (d':=0) (b':=true) (c':=4) (l':=t.l) k33.at_ (by omega)
  have f55:=aI.get (PO.ext (p:=p) (w:=w) (g:=g) (n:=all.length) (m:=m) (d:=0) (b:=true) (c:=4) (l:=t.l)) (by omega) f33
  have YZ:=y33.trans (PO.ext (p:=p) (w:=w) (g:=g) (n:=all.length) (m:=m) (d:=0) (b:=true) (c:=4) (l:=t.l))
  conv=>whnf
  erw [show get (put (some 53) (.tu []) (put (some 52) (.p p 0 0) e')) 0= .p p 0 0 from e0]
  conv=>whnf
  erw [show get (put (some 53) (.tu []) (put (some 52) (.p p 0 0) e')) 3= .p σ.length 0 0 from e3]
  conv=>whnf
  refine dn _ Sj ht (fun e=>by cases e) (fun _=>?_)
  conv=>whnf
  refine ak (aC (T:=kR) ([.s [],.sl0,.b false,.sl0,.i .i64 t.l]) rfl (f55) rfl rfl (Nat.le_of_ble_eq_true rfl) rfl) ?_
  conv=>whnf
  have VB:=Sj.gZ EF EG (gu [] .sl0 false .sl0 t.l)
  have f66:(_:St)[σ.length]? =_:=at_set f55 (gu [] .sl0 false .sl0 t.l)
  have VD:aI p σ _:=YZ.set (o:=σ.length) (Nat.le_refl _) (gu [] .sl0 false .sl0 t.l)
  conv=>whnf
  refine kN VB ht (by omega) fun s7 LZ VE=>?_
  have f7':=LZ.get (by omega) f66
  conv=>whnf
  refine ak (aC (T:=dN) ([.s [],.sl0,.b false,.sl0,.i .i64 t.l]) rfl (f7') rfl rfl (Nat.le_of_ble_eq_true rfl) rfl) ?_
  conv=>whnf
  exact Fin.ref rfl (hQ _ _ _ ((VD.trans LZ).set (o:=σ.length) (Nat.le_refl _) (gu [] .sl0 false .sl0 t.l)) (VE.gZ EF EG (gu [] .sl0 false .sl0 t.l)))
end
end Go.bP.YthoodopjoaigdaaGreatDoor
namespace Go.bP.YthoodopjoaigdaaGreatDoor
open Go.Proofs
set_option maxRecDepth 4000
section
variable {p w g:Nat} {all:List Tok} {n:Nat}
def uy (A:AV):AO:=⟨0,false,.cells 45 [A]⟩
def RPq (p w g:Nat)(all:List Tok)(B fo q:Nat)(σ:St)(acc:List Fm)(Q:Out→Env→St→Prop):Re (List Fm)→Prop
 | .ok fs ts=>∀A' σ' m' c l e',get e' 3= .p fo 0 0→get e' 7= .p p 0 0→get e' 8= .p q 0 0→get e' 1000000= .u→cO p q B σ σ'→PO p w g all σ' m' 0 false c l→all.drop m'= ts→σ'[q]? =some (uy A')→yD B σ' A' (acc ++ fs)→Q (.exit 0) e' σ'
 | .bad c l=>∀A' σ' m' e',get e' 3= .p fo 0 0→get e' 7= .p p 0 0→get e' 8= .p q 0 0→get e' 1000000= .u→cO p q B σ σ'→PO p w g all σ' m' 0 true c l→σ'[q]? =some (uy A')→wK A'→Q (.exit 0) e' σ'
 | .out=>True
theorem Kz {m c l fo q:Nat} {σ:St} {Q:Out→Env→St→Prop} (h:PO p w g all σ m 0 true c l)
 (k:∀e',get e' 3= .p fo 0 0→get e' 7= .p p 0 0→get e' 8= .p q 0 0→get e' 1000000= .u→Q (.exit 0) e' σ):aW X [3,7,8] Xi [(3,.p fo 0 0),(7,.p p 0 0),(8,.p q 0 0)] σ Q:=by
 refine aW.round aH (lit:=false) ?_
 conv=>whnf
 refine ak (aj (T:=kR) rfl rfl (ah (h.obj)) rfl) ?_
 conv=>whnf
 exact k _ rfl rfl rfl rfl
theorem L6 (hno:ni all):∀(n B fo q:Nat),p<B→w<B→q<B→q≠p→q≠w→∀(acc:List Fm) (A:AV) (σ:St) (m c0 l0:Nat) (Q:Out→Env→St→Prop),PO p w g all σ m 0 false c0 l0→B≤σ.length→σ[q]? =some (uy A)→yD B σ A acc→aS (all.drop m)→10*(all.drop m).length+11≤n→acc.length+(all.drop m).length≤40001→RPq p w g all B fo q σ acc Q (iJ n (all.drop m))→aW X [3,7,8] Xi [(3,.p fo 0 0),(7,.p p 0 0),(8,.p q 0 0)] σ Q
 | 0=>fun _ _ _ _ _ _ _ _ _ _ _ _ _ _ _ _ _ _ _ _ h=>absurd h (by omega)
 | n+1=>by
   intro B fo q hp hw hq tJ hqw acc A σ m c0 l0 Q h hB hx ha he hn hs hQ
   obtain⟨t,r,hts⟩:=he.ne
   obtain⟨ht,hr⟩:=aV hts
   rw [hts,iJ] at hQ
   have hsl:wK A:=by obtain⟨cs,hr,_⟩:=ha;exact hr.sl
   refine aW.round aH (lit:=false) ?_
   conv=>whnf
   refine ak (aj (T:=kR) rfl rfl (ah (h.obj)) rfl) ?_
   conv=>whnf
   refine ay.to (iD h ht) ?_
   conv=>whnf
   by_cases hk:t.k=5
   ·rw [if_pos hk] at hQ
    rw [decide_eq_true (by omega)]
    conv=>whnf
    conv=>whnf
    exact hQ A σ m c0 l0 _ rfl rfl rfl rfl ⟨Nat.le_refl _,fun _ _ _ _=>rfl⟩ h hts hx (by rw [List.append_nil];exact ha)
   ·rw [if_neg hk,←hts] at hQ
    rw [decide_eq_false (by omega)]
    conv=>whnf
    conv=>whnf
    rcases hsl with rfl | ⟨oo,gg,kk,rfl⟩
    all_goals
     refine ak (aj (T:=lH) rfl rfl (ah (hx)) rfl) ?_
     conv=>whnf
     have hg:=FU n (all.drop m) he (by omega)
     refine Ky (n:=n) hno σ m c0 l0 _ h he (by omega) ?_
     generalize uh n (all.drop m)=r1 at hg hQ
     cases r1 with
     | out=>exact hg.elim
     | bad c l=>
       have hQ:RPq p w g all B fo q σ acc Q (.bad c l):=hQ
       intro oy s m2 y k
       have f:=y.get tJ hx
       have ly:=y.len
       conv=>whnf
       refine⟨?_,?_⟩
       ·conv=>whnf
        refine ak (aj (T:=lH) rfl rfl (ah (f)) rfl) ?_
        rfl
       conv=>whnf
       refine⟨?_,?_⟩
       ·conv=>whnf
        refine ak (aj (T:=lH) rfl rfl (ah (at_new f _ _)) rfl) ?_
        rfl
       conv=>whnf
       refine wY (D:=s.length) ha y hp hB (Nat.le_refl _) ly (by omega) oy 0 fun o3 g3 k3 s3 e3 l3 kT kA=>?_
       have f3:s3[q]? =_:=(e3 q hq).trans f
       have xu:=k.keepR hp hw e3
       conv=>whnf
       refine ak (aC (T:=lH) ([.sl o3 g3 0 k3 1]) rfl (f3) rfl rfl (Nat.le_of_ble_eq_true rfl) rfl) ?_
       conv=>whnf
       have k4:=xu.gZ tJ hqw (uy (.sl o3 g3 0 k3 1))
       have yB:cO p q B σ (s3.set q (uy (.sl o3 g3 0 k3 1))):=⟨by rw [List.length_set];omega,fun i hi fP hix=>by rw [List.getElem?_set_ne (fun e=>hix e.symm),e3 i hi,y.old i (by omega) fP]⟩
       exact Kz k4 fun e' q3 q7 q8 q9=>hQ _ _ _ e' q3 q7 q8 q9 yB k4 (at_set f3 _) (.inr ⟨_,_,_,rfl⟩)
     | ok y0 bH=>
       have hQ:RPq p w g all B fo q σ acc Q ((iJ n bH).bind fun l ts=>.ok (y0 :: l) ts):=hQ
       intro oy s m2 c2 l2 y k hm2 qV
       have f:=y.get tJ hx
       have ly:=y.len
       rw [←hm2] at hQ hg
       have lg:=hg.2.2
       conv=>whnf
       refine⟨?_,?_⟩
       ·conv=>whnf
        refine ak (aj (T:=lH) rfl rfl (ah (f)) rfl) ?_
        rfl
       conv=>whnf
       refine⟨?_,?_⟩
       ·conv=>whnf
        refine ak (aj (T:=lH) rfl rfl (ah (at_new f _ _)) rfl) ?_
        rfl
       conv=>whnf
       refine wY (D:=σ.length) ha y hp hB ly (Nat.le_refl _) (by omega) oy 0 fun o3 g3 k3 s3 e3 l3 kT kA=>?_
       have f3:s3[q]? =_:=(e3 q hq).trans f
       have xu:=k.keepR hp hw e3
       conv=>whnf
       refine ak (aC (T:=lH) ([.sl o3 g3 0 k3 1]) rfl (f3) rfl rfl (Nat.le_of_ble_eq_true rfl) rfl) ?_
       conv=>whnf
       have k4:=xu.gZ tJ hqw (uy (.sl o3 g3 0 k3 1))
       have yB:cO p q B σ (s3.set q (uy (.sl o3 g3 0 k3 1))):=⟨by rw [List.length_set];omega,fun i hi fP hix=>by rw [List.getElem?_set_ne (fun e=>hix e.symm),e3 i hi,y.old i (by omega) fP]⟩
       refine L6 hno n B fo q hp hw hq tJ hqw (acc ++ [y0]) _ _ m2 c2 l2 Q k4 (by rw [List.length_set];omega) (at_set f3 _) ((kA y0 qV).keep fun i a hi hh=>aK hh (by omega) _) hg.2.1 (by omega) (by rw [List.length_append];simp only [List.length_cons,List.length_nil];omega) ?_
       generalize iJ n (all.drop m2)=r2 at hQ
       cases r2 with
       | out=>trivial
       | bad c l=>exact fun A4 dZ m4 e' q3 q7 q8 q9 x4=>hQ A4 dZ m4 e' q3 q7 q8 q9 (yB.trans x4)
       | ok xs zx=>exact fun A4 dZ m4 c4 l4 e' q3 q7 q8 q9 x4 h4 hm4 hx4 sK=>hQ A4 dZ m4 c4 l4 e' q3 q7 q8 q9 (yB.trans x4) h4 hm4 hx4 (by rw [List.append_assoc] at sK;exact sK)
end
theorem CW:∀(k:Nat) (s:List UInt8) (l:Nat) (acc:List Tok) {e l':Nat},kJ k s l acc= .bad e l'→e=9∨e=3
 | 0,[],l,acc,e,l',h=>by cases h
 | 0,_ :: _,l,acc,e,l',h=>by cases h
 | k+1,[],l,acc,e,l',h=>by cases h
 | k+1,c :: r,l,acc,e,l',h=>by
   have hf:=r_ c r
   simp only [kJ] at h
   split at h
   ·exact CW k _ _ _ h
   ·exact CW k _ _ _ h
   ·rename_i e' hs
    cases h
    rw [hs] at hf
    exact hf
theorem Sr {t:List UInt8} {e l:Nat} (h:qO t= .bad e l):e=9∨e=3:=by
 unfold qO at h
 split at h
 ·cases h;exact .inr rfl
 ·cases hr:kJ t.length t 0 [] with
  | done a b=>rw [hr] at h;cases h
  | bad a b=>rw [hr] at h;cases h;exact CW _ _ _ _ hr
def PPw (σ:St)(Q:AV→St→Prop):Re (List Fm)→Prop
 | .ok fs _=>∀o σ',Ext σ σ'→rD (fun i=>σ.length≤i) σ' (.p o 0 0) fs→Q (.tu [.p o 0 0,.ag [.i .i64 0,.i .i64 0],.b false]) σ'
 | .bad c l=>Q (.tu [.p0,.ag [.i .i64 c,.i .i64 l],.b true]) σ
 | .out=>True
theorem L8 (t:List UInt8)(σ:St)(Q:AV→St→Prop)(hQ:PPw σ Q (uZ t)):ay X 5 [.s t] σ Q:=by
 unfold uZ at hQ
 refine ay.body (F:=F5) aH (lit:=false) rfl rfl (Nat.le_of_ble_eq_true rfl) ?_
 conv=>whnf
 have b3:(au 29 lG.zero.cells σ)[σ.length]? =some ⟨0,false,.cells 29 [.i .i64 0,.i .i64 0]⟩:=aF _ _ _
 have x3:Ext σ (au 29 lG.zero.cells σ):=(Ext.refl σ).new _ _
 have l3:(au 29 lG.zero.cells σ).length=σ.length+1:=aG _ _ _
 generalize au 29 lG.zero.cells σ=σ3 at b3 x3 l3 ⊢
 conv=>whnf
 refine U6 t σ3 _ (fun l out dZ hl hlen x4 ho=>?_) (fun e l hl=>?_)
 ·rw [hl] at hQ
  obtain⟨he,hno,hnn,hko⟩:=LX hl
  have hQ:PPw σ Q (iJ (10*l.length+11) l):=hQ
  rcases ho with ⟨rfl,_⟩ | ⟨w,g,hw,rfl,htok⟩
  ·exact he.elim
  have lw:=aX htok
  have lx4:=x4.len
  conv=>whnf
  refine ak (aC (T:=qM) ([.i .i64 0,.i .i64 0]) rfl (aF _ _ _) rfl rfl (Nat.le_of_ble_eq_true rfl) rfl) ?_
  have x6:Ext dZ ((au 51 qM.zero.cells dZ).set dZ.length ⟨0,false,.cells 51 [.i .i64 0,.i .i64 0]⟩):=((Ext.refl dZ).new _ _).set (Nat.le_refl _) _
  have b6:((au 51 qM.zero.cells dZ).set dZ.length ⟨0,false,.cells 51 [.i .i64 0,.i .i64 0]⟩)[dZ.length]? =_:=at_set (aF _ _ _) _
  have l6:((au 51 qM.zero.cells dZ).set dZ.length ⟨0,false,.cells 51 [.i .i64 0,.i .i64 0]⟩).length=dZ.length+1:=by rw [List.length_set,aG]
  generalize (au 51 qM.zero.cells dZ).set dZ.length ⟨0,false,.cells 51 [.i .i64 0,.i .i64 0]⟩=lV at b6 x6 l6 ⊢
  conv=>whnf
  refine ak (aj (T:=Ib) rfl rfl (ah (b6)) rfl) ?_
  conv=>whnf
  have b7:(au 56 (AV.ag [.sl w g 0 l.length 3,.i .i64 0,.i .i64 0,.b false,.i .i64 0,.i .i64 0]).cells lV)[lV.length]? =some ⟨0,false,.cells 56 [.sl w g 0 l.length 3,.i .i64 0,.i .i64 0,.b false,.i .i64 0,.i .i64 0]⟩:=aF _ _ _
  have x7:Ext lV (au 56 (AV.ag [.sl w g 0 l.length 3,.i .i64 0,.i .i64 0,.b false,.i .i64 0,.i .i64 0]).cells lV):=(Ext.refl lV).new _ _
  have l7:(au 56 (AV.ag [.sl w g 0 l.length 3,.i .i64 0,.i .i64 0,.b false,.i .i64 0,.i .i64 0]).cells lV).length=lV.length+1:=aG _ _ _
  generalize au 56 (AV.ag [.sl w g 0 l.length 3,.i .i64 0,.i .i64 0,.b false,.i .i64 0,.i .i64 0]).cells lV=oq at b7 x7 l7 ⊢
  conv=>whnf
  have b8:(au 45 (AV.ag [.sl0]).cells oq)[oq.length]? =some (uy .sl0):=aF _ _ _
  have x8:Ext oq (au 45 (AV.ag [.sl0]).cells oq):=(Ext.refl oq).new _ _
  have l8:(au 45 (AV.ag [.sl0]).cells oq).length=oq.length+1:=aG _ _ _
  generalize au 45 (AV.ag [.sl0]).cells oq=Wx at b8 x8 l8 ⊢
  have lx6:=x6.len
  have hlp:=aX b7
  have hpos:0<l.length:=by obtain⟨t0,r0,e0⟩:=he.ne;rw [e0];exact Nat.succ_pos _
  have k8:PO lV.length w g l Wx 0 0 false 0 0:=⟨x8.get b7,x8.get (x7.get (x6.get htok)),by omega,by omega,hpos,by omega⟩
  have f3:Wx[σ.length]? =_:=x8.get (x7.get (x6.get (x4.get b3)))
  have hge:∀σ',cO lV.length oq.length Wx.length Wx σ'→Ext σ σ':=fun σ' y=>by
   refine⟨by have:=y.len;omega,fun i hi=>?_⟩
   rw [y.old i (by omega) (by omega) (by omega),x8.old i (by omega),x7.old i (by omega),x6.old i (by omega),x4.old i (by omega),x3.old i hi]
  have hg:=Cb (10*l.length+11) l he (Nat.le_refl _)
  conv=>whnf
  refine L6 hno (10*l.length+11) Wx.length σ.length oq.length (by omega) (by omega) (by omega) (by omega) (by omega) [] .sl0 Wx 0 _ _ _ k8 (Nat.le_refl _) b8 ⟨[],.inl ⟨rfl,rfl⟩,trivial⟩ (by rw [List.drop_zero];exact he) (by rw [List.drop_zero];exact Nat.le_refl _) (by rw [List.drop_zero];simp;omega) ?_
  rw [List.drop_zero]
  generalize iJ (10*l.length+11) l=r1 at hg hQ
  cases r1 with
  | out=>exact hg.elim
  | bad c l'=>
    have hQ:Q (.tu [.p0,.ag [.i .i64 c,.i .i64 l'],.b true]) σ:=hQ
    intro A Vj m9 e' e3 e7 e8 e9 y9 k9 hq9 hA
    have f9:=y9.get (by omega) (by omega) (by omega) f3
    conv=>whnf
    rw [e3]
    conv=>whnf
    rw [e7]
    conv=>whnf
    rw [e8]
    conv=>whnf
    refine ak (aj (T:=kR) rfl rfl (ah (k9.obj)) rfl) ?_
    conv=>whnf
    refine ak (bQ (T:=lG) rfl rfl (ah (k9.obj)) (Nat.le_of_ble_eq_true rfl)) ?_
    conv=>whnf
    refine ak (aC (T:=lG) ([.i .i64 c,.i .i64 l']) rfl (f9) rfl rfl (Nat.le_of_ble_eq_true rfl) rfl) ?_
    conv=>whnf
    erw [bQ (T:=lG) rfl rfl (ah (at_set f9 _)) (Nat.le_of_ble_eq_true rfl)]
    conv=>whnf
    exact Fin.flat rfl ((hge _ y9).set (by omega) _).take hQ
  | ok fs ts=>
    intro A Vj m9 c9 l9 e' e3 e7 e8 e9 y9 k9 yZ hq9 ha9
    have f9:=y9.get (by omega) (by omega) (by omega) f3
    conv=>whnf
    rw [e3]
    conv=>whnf
    rw [e7]
    conv=>whnf
    rw [e8]
    conv=>whnf
    refine ak (aj (T:=kR) rfl rfl (ah (k9.obj)) rfl) ?_
    conv=>whnf
    refine ak (aC (T:=lG) ([.i .i64 0,.i .i64 0]) rfl (f9) rfl rfl (Nat.le_of_ble_eq_true rfl) rfl) ?_
    conv=>whnf
    erw [bQ (T:=lG) rfl rfl (ah (at_set f9 _)) (Nat.le_of_ble_eq_true rfl)]
    conv=>whnf
    refine Fin.ref rfl (hQ _ _ ((hge _ y9).set (Nat.le_refl _) _) ?_)
    have hA:yD Wx.length Vj A fs:=ha9
    obtain⟨cs,q1,q2⟩:=hA
    have q3:gJ (fun i=>σ.length≤i) (List.set Vj σ.length ⟨0,false,.cells 29 [.i .i64 0,.i .i64 0]⟩) cs fs:=q2.mono (fun i hi=>by omega) (fun i hi a ha=>aK ha (by omega) _)
    refine⟨oq.length,A,by omega,rfl,aK hq9 (by omega) _,?_⟩
    rcases q1 with ⟨rfl,rfl⟩ | ⟨o2,g2,p1,p2,p3,p4⟩
    ·refine .inl ⟨?_,rfl⟩
     cases fs with
     | nil=>rfl
     | cons _ _=>exact q3.elim
    ·exact .inr ⟨o2,g2,cs,by omega,p2,aK p3 (by omega) _,q3,p4⟩
 ·rw [hl] at hQ
  have hQ:Q (.tu [.p0,.ag [.i .i64 e,.i .i64 l],.b true]) σ:=hQ
  conv=>whnf
  refine ak (aC (T:=qM) ([.i .i64 e,.i .i64 l]) rfl (aF _ _ _) rfl rfl (Nat.le_of_ble_eq_true rfl) rfl) ?_
  have x6:Ext σ3 ((au 51 qM.zero.cells σ3).set σ3.length ⟨0,false,.cells 51 [.i .i64 e,.i .i64 l]⟩):=((Ext.refl σ3).new _ _).set (Nat.le_refl _) _
  have b6:((au 51 qM.zero.cells σ3).set σ3.length ⟨0,false,.cells 51 [.i .i64 e,.i .i64 l]⟩)[σ3.length]? =_:=at_set (aF _ _ _) _
  have l6:((au 51 qM.zero.cells σ3).set σ3.length ⟨0,false,.cells 51 [.i .i64 e,.i .i64 l]⟩).length=σ3.length+1:=by rw [List.length_set,aG]
  generalize (au 51 qM.zero.cells σ3).set σ3.length ⟨0,false,.cells 51 [.i .i64 e,.i .i64 l]⟩=lV at b6 x6 l6 ⊢
  conv=>whnf
  have he0:e≠0:=by rcases Sr hl with rfl | rfl <;> decide
  refine ak (aj (T:=Ib) rfl rfl (ah (b6)) rfl) ?_
  conv=>whnf
  rw [decide_eq_false (by omega)]
  conv=>whnf
  conv=>whnf
  refine ak (aj (T:=Ib) rfl rfl (ah (b6)) rfl) ?_
  conv=>whnf
  refine ak (aj (T:=cu) rfl rfl (ah (b6)) rfl) ?_
  conv=>whnf
  refine ak (aC (T:=lG) ([.i .i64 e,.i .i64 l]) rfl (x6.get b3) rfl rfl (Nat.le_of_ble_eq_true rfl) rfl) ?_
  conv=>whnf
  erw [bQ (T:=lG) rfl rfl (ah (at_set (x6.get b3) _)) (Nat.le_of_ble_eq_true rfl)]
  conv=>whnf
  exact Fin.flat rfl ((x3.trans x6).set (by omega) _).take hQ
end Go.bP.YthoodopjoaigdaaGreatDoor
