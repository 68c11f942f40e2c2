/- Texts of this claim, joined: Re5, Re6, Re7, Re8. -/
import Derived.Test.YtjcicgkencfbgaaGreatDoorM27
import Derived.Test.YtjcicgkencfbgaaGreatDoorM24
set_option linter.unusedVariables false
set_option linter.unusedSimpArgs false
namespace Go.bG.YtjcicgkencfbgaaGreatDoor
open Go.Proofs
theorem allT {p w g:Nat} {all:List Tok} (hno:oC all):∀n,WT p w g all n∧vI p w g all n
 | 0=>⟨⟨fun _ _ _ _ _ _ _ _ _ h _=>absurd h (by omega),fun _ _ _ _ _ _ _ _ _ _ h _=>absurd h (by omega),fun _ _ _ _ _ _ _ _ _ h _=>absurd h (by omega)⟩,fun _ _ _ _ _ _ _ _ _ _ _ _ _ _ _ _ h _ _=>absurd h (by omega)⟩
 | n+1=>by
   obtain⟨ih,NI⟩:=allT (p:=p) (w:=w) (g:=g) hno n
   exact⟨⟨fun d σ m c0 l0 Q h hd he hn hQ=>YQ NI d σ m c0 l0 Q h hd he hn hQ,fun d line σ m c0 l0 Q h hd he hn hQ=>VI (NG hno n).1 ih d line σ m c0 l0 Q h hd he hn hQ,fun d σ m c0 l0 Q h hd he hn hQ=>stmt_w hno ih d σ m c0 l0 Q h hd he hn hQ⟩,YP ih NI⟩
end Go.bG.YtjcicgkencfbgaaGreatDoor
namespace Go.bG.YtjcicgkencfbgaaGreatDoor
open Go.Proofs
set_option maxRecDepth 4000
section
variable {p w g:Nat} {all:List Tok} {n:Nat}
def V_ (p w g:Nat)(all:List Tok)(B xo:Nat)(nm:List UInt8)(ln:Nat)(σ:St)(d:Nat)(acc:List (List UInt8×Bool))(Q:Out→Env→St→Prop):Re (List (List UInt8×Bool))→Prop
 | .ok xs ts=>∀A' σ' m' c l e',get e' 0= .p p 0 0→get e' 3= .p xo 0 0→get e' 1000000= .u→cZ p xo B σ σ'→PO p w g all σ' m' d false c l→all.drop m'= ts→σ'[xo]? =some (gJ nm A' false .sl0 ln)→jA B σ' A' (acc ++ xs)→Q (.exit 0) e' σ'
 | .bad c l=>∀A' σ' m' e',get e' 0= .p p 0 0→get e' 3= .p xo 0 0→get e' 1000000= .u→cZ p xo B σ σ'→PO p w g all σ' m' d true c l→σ'[xo]? =some (gJ nm A' false .sl0 ln)→slP A'→Q (.exit 0) e' σ'
 | .out=>True
def EL (p w g:Nat)(all:List Tok)(n:Nat):Prop:=∀(d B xo:Nat) (nm:List UInt8) (ln:Nat),p<B→w<B→xo<B→xo≠p→xo≠w→
 ∀ (acc:List (List UInt8×Bool)) (A:AV) (σ:St) (m c0 l0:Nat) (Q:Out→Env→St→Prop),PO p w g all σ m d false c0 l0→B≤σ.length→σ[xo]? =some (gJ nm A false .sl0 ln)→jA B σ A acc→aU (all.drop m)→(all.drop m).length+1≤n→acc.length+(all.drop m).length≤40001→V_ p w g all B xo nm ln σ d acc Q (bY n acc.isEmpty (all.drop m))→aS X [0,3] SQ [(0,.p p 0 0),(3,.p xo 0 0)] σ Q
theorem PO.keepR {m d c l:Nat} {b:Bool} {σ σ':St} (h:PO p w g all σ m d b c l) {B:Nat} (hp:p<B)(hw:w<B)(e:∀i,i<B→σ'[i]? =σ[i]?):PO p w g all σ' m d b c l:=h.keep (e p hp) (e w hw)
theorem PO.iC {m d c l x:Nat} {b:Bool} {s:St} (h:PO p w g all s m d b c l)(h1:x≠p)(h2:x≠w)(b':AO):PO p w g all (s.set x b') m d b c l:=⟨aK h.obj h1 _,aK h.tok h2 _,h.ne,h.len,h.at_,h.dp⟩
theorem jA.three {B:Nat} {σ:St} {v:AV} {l:List (List UInt8×Bool)} (h:jA B σ v l):(l=[]∧(v= .sl0∨∃o g,v= .sl o g 0 0 2))∨∃a l0 o g,l=a :: l0∧v= .sl o g 0 (l0.length+1) 2:=by
 rcases h with ⟨rfl,rfl⟩ | ⟨o,g,_,rfl,_⟩
 ·exact .inl ⟨rfl,.inl rfl⟩
 ·cases l with
  | nil=>exact .inl ⟨rfl,.inr ⟨_,_,rfl⟩⟩
  | cons a l0=>exact .inr ⟨a,l0,o,g,rfl,rfl⟩
theorem nI {m d c l xo:Nat} {σ:St} {Q:Out→Env→St→Prop} (h:PO p w g all σ m d true c l)
 (q:∀e',get e' 0= .p p 0 0→get e' 3= .p xo 0 0→get e' 1000000= .u→Q (.exit 0) e' σ):aS X [0,3] SQ [(0,.p p 0 0),(3,.p xo 0 0)] σ Q:=by
 refine aS.round aF (lit:=false) ?_
 conv=>whnf
 refine ak (aj (T:=kY) rfl rfl (ah (h.obj)) rfl) ?_
 conv=>whnf
 exact q _ rfl rfl rfl
theorem pars_w (BN:EL p w g all n):EL p w g all (n+1):=by
 intro d B xo nm ln hp hw Ey hxp hxw acc A σ m c0 l0 Q h hB hx ha he hn hs hQ
 obtain⟨t,r,hts⟩:=he.ne
 obtain⟨ht,hr⟩:=aW hts
 have hlr:(all.drop m).length=r.length+1:=by rw [hts];rfl
 rw [EF,hts] at hQ
 have hsl:=ha.sl
 refine aS.round aF (lit:=false) ?_
 conv=>whnf
 refine ak (aj (T:=kY) rfl rfl (ah (h.obj)) rfl) ?_
 conv=>whnf
 refine ay.to (jI _ h ht) ?_
 cases hi:dH [41] t with
 | true=>
   rw [if_pos (show aY [41] (t :: r)=true from hi)] at hQ
   conv=>whnf
   exact hQ A σ m c0 l0 _ rfl rfl rfl ⟨Nat.le_refl _,fun _ _ _ _=>rfl⟩ h hts hx (by rw [List.append_nil];exact ha)
 | false=>
   rw [if_neg (by rw [show aY [41] (t :: r)=dH [41] t from rfl,hi];decide)] at hQ
   have ll:=h.len
   rcases ha.three with hE | ⟨a0,acc0,o0,g0,rfl,rfl⟩
   ·obtain⟨rfl,hE⟩:=hE
    rw [←hts] at hQ
    have hQ:V_ p w g all B xo nm ln σ d [] Q ((zh (all.drop m)).bind fun q ts=>(bY n false ts).bind fun l ts=>.ok (q :: l) ts):=hQ
    have x1:aI p σ σ:=.refl _ _
    rcases hE with rfl | ⟨o0,g0,rfl⟩
    all_goals
        conv=>whnf
        refine ak (aj (T:=dZ) rfl rfl (ah (hx)) rfl) ?_
        conv=>whnf
        obtain⟨t1,r1,EM⟩:=he.ne
        obtain⟨ht1,hr1⟩:=aW EM
        have hlr1:(all.drop m).length=r1.length+1:=by rw [EM];rfl
        unfold zh at hQ
        rw [EM] at hQ
        refine uY h ht1 (fun hk=>jv (by rw [hr1];exact(EM▸he).tail (by rw [hk];decide))) (fun hk s5 oN k5=>?_) (fun hk s5 oN k5=>?_)
        ·have ER:aU (all.drop (m+1)):=by rw [hr1];exact(EM▸he).tail (by rw [hk];decide)
         have hl5:(all.drop (m+1)).length=r1.length:=by rw [hr1]
         have y5:=x1.trans oN
         obtain⟨t6,r6,gU⟩:=ER.ne
         obtain⟨EU,yZ⟩:=aW gU
         have hl6:(all.drop (m+1)).length=r6.length+1:=by rw [gU];rfl
         simp only [dU,if_pos hk] at hQ
         have hQ:V_ p w g all B xo nm ln σ d [] Q ((bY n false (if aY fB r1=true then r1.tail else r1)).bind fun l ts=>.ok ((t1.s,aY fB r1) :: l) ts):=hQ
         rw [←hr1,gU] at hQ
         have f5:=oN.get (by omega) hx
         conv=>whnf
         refine ak (aj (T:=dZ) rfl rfl (ah (f5)) rfl) ?_
         conv=>whnf
         refine dw _ k5 EU (fun _ fZ=>?_) (fun fZ=>?_)
         ·have hpw:aY fB (t6 :: r6)=true:=fZ
          obtain⟨QN,G9,hle6⟩:=aN ER gU fZ
          have hl7':(all.drop (m+1+1)).length=r6.length:=by rw [yZ]
          simp only [hpw,if_true,List.tail_cons] at hQ
          rw [←yZ] at hQ
          have z6:=PO.ext (p:=p) (w:=w) (g:=g) (n:=all.length) (m:=m+1+1) (d:=d) (b:=false) (c:=c0) (l:=l0) (σ:=s5)
          have k6:=k5.set (m':=m+1+1) (d':=d) (b':=false) (c':=c0) (l':=l0) QN h.dp
          have f6:=z6.get (by omega) f5
          have y6:=y5.trans z6
          conv=>whnf
          refine⟨?_,?_⟩
          ·conv=>whnf
           refine ak (aj (T:=dZ) rfl rfl (ah (f6)) rfl) ?_
           rfl
          conv=>whnf
          refine⟨?_,?_⟩
          ·conv=>whnf
           refine ak (aj (T:=dZ) rfl rfl (ah (at_new f6 _ _)) rfl) ?_
           rfl
          conv=>whnf
          have l6:=y6.len
          refine kW (B:=B) (acc:=[]) (ha.keep (Nat.le_refl _) fun i a hi hh=>at_new (y6.get (by omega) hh) _ _) (t1.s,true) (by simp only [List.length_cons,List.length_nil] at hs ⊢;omega) (aG _ _ _) (by rw [aH];omega) fun o3 g3 AU s7 Rk hb7 Ib hk7=>?_
          rw [aH] at Ib
          have f7:s7[xo]? =_:=(hb7 xo (by omega)).trans (at_new f6 _ _)
          have k7:=(k6.new _ _).keepR hp hw hb7
          conv=>whnf
          refine ak (aC (T:=dZ) ([.s nm,.sl o3 g3 0 AU 2,.b false,.sl0,.i .i64 ln]) rfl (f7) rfl rfl (Nat.le_of_ble_eq_true rfl) rfl) ?_
          conv=>whnf
          have k8:=k7.iC hxp hxw (gJ nm (.sl o3 g3 0 AU 2) false .sl0 ln)
          have yB:cZ p xo B σ (s7.set xo (gJ nm (.sl o3 g3 0 AU 2) false .sl0 ln)):=⟨by rw [List.length_set];omega,fun i hi fZ hix=>by rw [List.getElem?_set_ne (fun e=>hix e.symm),hb7 i hi,dn (by omega),y6.old i (by omega) fZ]⟩
          refine BN d B xo nm ln hp hw Ey hxp hxw ([] ++ [(t1.s,true)]) _ _ (m+1+1) _ _ Q k8 (by rw [List.length_set];omega) (at_set f7 _) (Rk.keep (Nat.le_refl _) fun i a hi hh=>aK hh (by omega) _) G9 (by omega) (by rw [List.length_append];simp only [List.length_cons,List.length_nil] at hs ⊢;omega) ?_
          rw [show ([] ++ [(t1.s,true)]:List (List UInt8×Bool)).isEmpty=false by simp]
          generalize bY n false (all.drop (m+1+1))=r2 at hQ
          cases r2 with
          | out=>trivial
          | bad c l=>exact fun A4 eY m4 e' q0 q3 q9 x4=>hQ A4 eY m4 e' q0 q3 q9 (yB.trans x4)
          | ok xs BM=>exact fun A4 eY m4 c4 l4 e' q0 q3 q9 x4 h4 hm4 hx4 uZ=>hQ A4 eY m4 c4 l4 e' q0 q3 q9 (yB.trans x4) h4 hm4 hx4 (by rw [List.append_assoc] at uZ;exact uZ)
         ·have hpw:aY fB (t6 :: r6)=false:=by rw [show aY fB (t6 :: r6)=dH [112,116,114] t6 from rfl];simpa using fZ
          simp only [hpw,Bool.false_eq_true,if_false] at hQ
          rw [←gU] at hQ
          have G9:=ER
          have k6:=k5
          have f6:=f5
          have y6:=y5
          conv=>whnf
          refine⟨?_,?_⟩
          ·conv=>whnf
           refine ak (aj (T:=dZ) rfl rfl (ah (f6)) rfl) ?_
           rfl
          conv=>whnf
          refine⟨?_,?_⟩
          ·conv=>whnf
           refine ak (aj (T:=dZ) rfl rfl (ah (at_new f6 _ _)) rfl) ?_
           rfl
          conv=>whnf
          have l6:=y6.len
          refine kW (B:=B) (acc:=[]) (ha.keep (Nat.le_refl _) fun i a hi hh=>at_new (y6.get (by omega) hh) _ _) (t1.s,false) (by simp only [List.length_cons,List.length_nil] at hs ⊢;omega) (aG _ _ _) (by rw [aH];omega) fun o3 g3 AU s7 Rk hb7 Ib hk7=>?_
          rw [aH] at Ib
          have f7:s7[xo]? =_:=(hb7 xo (by omega)).trans (at_new f6 _ _)
          have k7:=(k6.new _ _).keepR hp hw hb7
          conv=>whnf
          refine ak (aC (T:=dZ) ([.s nm,.sl o3 g3 0 AU 2,.b false,.sl0,.i .i64 ln]) rfl (f7) rfl rfl (Nat.le_of_ble_eq_true rfl) rfl) ?_
          conv=>whnf
          have k8:=k7.iC hxp hxw (gJ nm (.sl o3 g3 0 AU 2) false .sl0 ln)
          have yB:cZ p xo B σ (s7.set xo (gJ nm (.sl o3 g3 0 AU 2) false .sl0 ln)):=⟨by rw [List.length_set];omega,fun i hi fZ hix=>by rw [List.getElem?_set_ne (fun e=>hix e.symm),hb7 i hi,dn (by omega),y6.old i (by omega) fZ]⟩
          refine BN d B xo nm ln hp hw Ey hxp hxw ([] ++ [(t1.s,false)]) _ _ (m+1) _ _ Q k8 (by rw [List.length_set];omega) (at_set f7 _) (Rk.keep (Nat.le_refl _) fun i a hi hh=>aK hh (by omega) _) G9 (by omega) (by rw [List.length_append];simp only [List.length_cons,List.length_nil] at hs ⊢;omega) ?_
          rw [show ([] ++ [(t1.s,false)]:List (List UInt8×Bool)).isEmpty=false by simp]
          generalize bY n false (all.drop (m+1))=r2 at hQ
          cases r2 with
          | out=>trivial
          | bad c l=>exact fun A4 eY m4 e' q0 q3 q9 x4=>hQ A4 eY m4 e' q0 q3 q9 (yB.trans x4)
          | ok xs BM=>exact fun A4 eY m4 c4 l4 e' q0 q3 q9 x4 h4 hm4 hx4 uZ=>hQ A4 eY m4 c4 l4 e' q0 q3 q9 (yB.trans x4) h4 hm4 hx4 (by rw [List.append_assoc] at uZ;exact uZ)
        ·simp only [dU,if_neg hk] at hQ
         have hQ:V_ p w g all B xo nm ln σ d [] Q (.bad 4 t1.l):=hQ
         have f5:=oN.get (by omega) hx
         have y5:=x1.trans oN
         conv=>whnf
         refine ak (aj (T:=dZ) rfl rfl (ah (f5)) rfl) ?_
         conv=>whnf
         refine dw _ k5 ht1 (fun e=>by cases e) (fun _=>?_)
         conv=>whnf
         refine⟨?_,?_⟩
         ·conv=>whnf
          refine ak (aj (T:=dZ) rfl rfl (ah (f5)) rfl) ?_
          rfl
         conv=>whnf
         refine⟨?_,?_⟩
         ·conv=>whnf
          refine ak (aj (T:=dZ) rfl rfl (ah (at_new f5 _ _)) rfl) ?_
          rfl
         conv=>whnf
         have l6:=y5.len
         refine kW (B:=B) (acc:=[]) (ha.keep (Nat.le_refl _) fun i a hi hh=>at_new (y5.get (by omega) hh) _ _) ([],false) (by simp only [List.length_cons,List.length_nil] at hs ⊢;omega) (aG _ _ _) (by rw [aH];omega) fun o3 g3 AU s7 Rk hb7 Ib hk7=>?_
         rw [aH] at Ib
         have f7:s7[xo]? =_:=(hb7 xo (by omega)).trans (at_new f5 _ _)
         have k7:=(k5.new _ _).keepR hp hw hb7
         conv=>whnf
         refine ak (aC (T:=dZ) ([.s nm,.sl o3 g3 0 AU 2,.b false,.sl0,.i .i64 ln]) rfl (f7) rfl rfl (Nat.le_of_ble_eq_true rfl) rfl) ?_
         conv=>whnf
         have k8:=k7.iC hxp hxw (gJ nm (.sl o3 g3 0 AU 2) false .sl0 ln)
         have yB:cZ p xo B σ (s7.set xo (gJ nm (.sl o3 g3 0 AU 2) false .sl0 ln)):=⟨by rw [List.length_set];omega,fun i hi fZ hix=>by rw [List.getElem?_set_ne (fun e=>hix e.symm),hb7 i hi,dn (by omega),y5.old i (by omega) fZ]⟩
         exact nI k8 fun e' q0 q3 q9=>hQ _ _ _ e' q0 q3 q9 yB k8 (at_set f7 _) (.inr ⟨_,_,_,rfl⟩)
   ·have hQ:V_ p w g all B xo nm ln σ d (a0 :: acc0) Q ((aP [44] (t :: r)).bind fun _ ts=>(zh ts).bind fun q ts=>(bY n false ts).bind fun l ts=>.ok (q :: l) ts):=hQ
    conv=>whnf
    refine ak (aj (T:=dZ) rfl rfl (ah (hx)) rfl) ?_
    conv=>whnf
    rw [decide_eq_true (by omega)]
    conv=>whnf
    conv=>whnf
    refine jG _ h ht (fun hi2=>?_) (fun hi2=>?_)
    ·rw [aP,if_pos (show aY [44] (t :: r)=true from hi2)] at hQ
     have hQ:V_ p w g all B xo nm ln σ d (a0 :: acc0) Q ((zh r).bind fun q ts=>(bY n false ts).bind fun l ts=>.ok (q :: l) ts):=hQ
     rw [←hr] at hQ
     obtain⟨hm2,he2,hle2⟩:=aN he hts hi2
     have z2:=PO.ext (p:=p) (w:=w) (g:=g) (n:=all.length) (m:=m+1) (d:=d) (b:=false) (c:=c0) (l:=l0) (σ:=σ)
     have k2:=h.set (m':=m+1) (d':=d) (b':=false) (c':=c0) (l':=l0) hm2 h.dp
     have f2:=z2.get (by omega) hx
     conv=>whnf
     obtain⟨t1,r1,EM⟩:=he2.ne
     obtain⟨ht1,hr1⟩:=aW EM
     have hlr1:(all.drop (m+1)).length=r1.length+1:=by rw [EM];rfl
     unfold zh at hQ
     rw [EM] at hQ
     refine uY k2 ht1 (fun hk=>jv (by rw [hr1];exact(EM▸he2).tail (by rw [hk];decide))) (fun hk s5 oN k5=>?_) (fun hk s5 oN k5=>?_)
     ·have ER:aU (all.drop ((m+1)+1)):=by rw [hr1];exact(EM▸he2).tail (by rw [hk];decide)
      have hl5:(all.drop ((m+1)+1)).length=r1.length:=by rw [hr1]
      have y5:=z2.trans oN
      obtain⟨t6,r6,gU⟩:=ER.ne
      obtain⟨EU,yZ⟩:=aW gU
      have hl6:(all.drop ((m+1)+1)).length=r6.length+1:=by rw [gU];rfl
      simp only [dU,if_pos hk] at hQ
      have hQ:V_ p w g all B xo nm ln σ d (a0 :: acc0) Q ((bY n false (if aY fB r1=true then r1.tail else r1)).bind fun l ts=>.ok ((t1.s,aY fB r1) :: l) ts):=hQ
      rw [←hr1,gU] at hQ
      have f5:=oN.get (by omega) f2
      conv=>whnf
      refine ak (aj (T:=dZ) rfl rfl (ah (f5)) rfl) ?_
      conv=>whnf
      refine dw _ k5 EU (fun _ fZ=>?_) (fun fZ=>?_)
      ·have hpw:aY fB (t6 :: r6)=true:=fZ
       obtain⟨QN,G9,hle6⟩:=aN ER gU fZ
       have hl7':(all.drop ((m+1)+1+1)).length=r6.length:=by rw [yZ]
       simp only [hpw,if_true,List.tail_cons] at hQ
       rw [←yZ] at hQ
       have z6:=PO.ext (p:=p) (w:=w) (g:=g) (n:=all.length) (m:=(m+1)+1+1) (d:=d) (b:=false) (c:=c0) (l:=l0) (σ:=s5)
       have k6:=k5.set (m':=(m+1)+1+1) (d':=d) (b':=false) (c':=c0) (l':=l0) QN h.dp
       have f6:=z6.get (by omega) f5
       have y6:=y5.trans z6
       conv=>whnf
       refine⟨?_,?_⟩
       ·conv=>whnf
        refine ak (aj (T:=dZ) rfl rfl (ah (f6)) rfl) ?_
        rfl
       conv=>whnf
       refine⟨?_,?_⟩
       ·conv=>whnf
        refine ak (aj (T:=dZ) rfl rfl (ah (at_new f6 _ _)) rfl) ?_
        rfl
       conv=>whnf
       have l6:=y6.len
       refine kW (B:=B) (acc:=(a0 :: acc0)) (ha.keep (Nat.le_refl _) fun i a hi hh=>at_new (y6.get (by omega) hh) _ _) (t1.s,true) (by simp only [List.length_cons,List.length_nil] at hs ⊢;omega) (aG _ _ _) (by rw [aH];omega) fun o3 g3 AU s7 Rk hb7 Ib hk7=>?_
       rw [aH] at Ib
       have f7:s7[xo]? =_:=(hb7 xo (by omega)).trans (at_new f6 _ _)
       have k7:=(k6.new _ _).keepR hp hw hb7
       conv=>whnf
       refine ak (aC (T:=dZ) ([.s nm,.sl o3 g3 0 AU 2,.b false,.sl0,.i .i64 ln]) rfl (f7) rfl rfl (Nat.le_of_ble_eq_true rfl) rfl) ?_
       conv=>whnf
       have k8:=k7.iC hxp hxw (gJ nm (.sl o3 g3 0 AU 2) false .sl0 ln)
       have yB:cZ p xo B σ (s7.set xo (gJ nm (.sl o3 g3 0 AU 2) false .sl0 ln)):=⟨by rw [List.length_set];omega,fun i hi fZ hix=>by rw [List.getElem?_set_ne (fun e=>hix e.symm),hb7 i hi,dn (by omega),y6.old i (by omega) fZ]⟩
       refine BN d B xo nm ln hp hw Ey hxp hxw ((a0 :: acc0) ++ [(t1.s,true)]) _ _ ((m+1)+1+1) _ _ Q k8 (by rw [List.length_set];omega) (at_set f7 _) (Rk.keep (Nat.le_refl _) fun i a hi hh=>aK hh (by omega) _) G9 (by omega) (by rw [List.length_append];simp only [List.length_cons,List.length_nil] at hs ⊢;omega) ?_
       rw [show ((a0 :: acc0) ++ [(t1.s,true)]:List (List UInt8×Bool)).isEmpty=false by simp]
       generalize bY n false (all.drop ((m+1)+1+1))=r2 at hQ
       cases r2 with
       | out=>trivial
       | bad c l=>exact fun A4 eY m4 e' q0 q3 q9 x4=>hQ A4 eY m4 e' q0 q3 q9 (yB.trans x4)
       | ok xs BM=>exact fun A4 eY m4 c4 l4 e' q0 q3 q9 x4 h4 hm4 hx4 uZ=>hQ A4 eY m4 c4 l4 e' q0 q3 q9 (yB.trans x4) h4 hm4 hx4 (by rw [List.append_assoc] at uZ;exact uZ)
      ·have hpw:aY fB (t6 :: r6)=false:=by rw [show aY fB (t6 :: r6)=dH [112,116,114] t6 from rfl];simpa using fZ
       simp only [hpw,Bool.false_eq_true,if_false] at hQ
       rw [←gU] at hQ
       have G9:=ER
       have k6:=k5
       have f6:=f5
       have y6:=y5
       conv=>whnf
       refine⟨?_,?_⟩
       ·conv=>whnf
        refine ak (aj (T:=dZ) rfl rfl (ah (f6)) rfl) ?_
        rfl
       conv=>whnf
       refine⟨?_,?_⟩
       ·conv=>whnf
        refine ak (aj (T:=dZ) rfl rfl (ah (at_new f6 _ _)) rfl) ?_
        rfl
       conv=>whnf
       have l6:=y6.len
       refine kW (B:=B) (acc:=(a0 :: acc0)) (ha.keep (Nat.le_refl _) fun i a hi hh=>at_new (y6.get (by omega) hh) _ _) (t1.s,false) (by simp only [List.length_cons,List.length_nil] at hs ⊢;omega) (aG _ _ _) (by rw [aH];omega) fun o3 g3 AU s7 Rk hb7 Ib hk7=>?_
       rw [aH] at Ib
       have f7:s7[xo]? =_:=(hb7 xo (by omega)).trans (at_new f6 _ _)
       have k7:=(k6.new _ _).keepR hp hw hb7
       conv=>whnf
       refine ak (aC (T:=dZ) ([.s nm,.sl o3 g3 0 AU 2,.b false,.sl0,.i .i64 ln]) rfl (f7) rfl rfl (Nat.le_of_ble_eq_true rfl) rfl) ?_
       conv=>whnf
       have k8:=k7.iC hxp hxw (gJ nm (.sl o3 g3 0 AU 2) false .sl0 ln)
       have yB:cZ p xo B σ (s7.set xo (gJ nm (.sl o3 g3 0 AU 2) false .sl0 ln)):=⟨by rw [List.length_set];omega,fun i hi fZ hix=>by rw [List.getElem?_set_ne (fun e=>hix e.symm),hb7 i hi,dn (by omega),y6.old i (by omega) fZ]⟩
       refine BN d B xo nm ln hp hw Ey hxp hxw ((a0 :: acc0) ++ [(t1.s,false)]) _ _ ((m+1)+1) _ _ Q k8 (by rw [List.length_set];omega) (at_set f7 _) (Rk.keep (Nat.le_refl _) fun i a hi hh=>aK hh (by omega) _) G9 (by omega) (by rw [List.length_append];simp only [List.length_cons,List.length_nil] at hs ⊢;omega) ?_
       rw [show ((a0 :: acc0) ++ [(t1.s,false)]:List (List UInt8×Bool)).isEmpty=false by simp]
       generalize bY n false (all.drop ((m+1)+1))=r2 at hQ
       cases r2 with
       | out=>trivial
       | bad c l=>exact fun A4 eY m4 e' q0 q3 q9 x4=>hQ A4 eY m4 e' q0 q3 q9 (yB.trans x4)
       | ok xs BM=>exact fun A4 eY m4 c4 l4 e' q0 q3 q9 x4 h4 hm4 hx4 uZ=>hQ A4 eY m4 c4 l4 e' q0 q3 q9 (yB.trans x4) h4 hm4 hx4 (by rw [List.append_assoc] at uZ;exact uZ)
     ·simp only [dU,if_neg hk] at hQ
      have hQ:V_ p w g all B xo nm ln σ d (a0 :: acc0) Q (.bad 4 t1.l):=hQ
      have f5:=oN.get (by omega) f2
      have y5:=z2.trans oN
      conv=>whnf
      refine ak (aj (T:=dZ) rfl rfl (ah (f5)) rfl) ?_
      conv=>whnf
      refine dw _ k5 ht1 (fun e=>by cases e) (fun _=>?_)
      conv=>whnf
      refine⟨?_,?_⟩
      ·conv=>whnf
       refine ak (aj (T:=dZ) rfl rfl (ah (f5)) rfl) ?_
       rfl
      conv=>whnf
      refine⟨?_,?_⟩
      ·conv=>whnf
       refine ak (aj (T:=dZ) rfl rfl (ah (at_new f5 _ _)) rfl) ?_
       rfl
      conv=>whnf
      have l6:=y5.len
      refine kW (B:=B) (acc:=(a0 :: acc0)) (ha.keep (Nat.le_refl _) fun i a hi hh=>at_new (y5.get (by omega) hh) _ _) ([],false) (by simp only [List.length_cons,List.length_nil] at hs ⊢;omega) (aG _ _ _) (by rw [aH];omega) fun o3 g3 AU s7 Rk hb7 Ib hk7=>?_
      rw [aH] at Ib
      have f7:s7[xo]? =_:=(hb7 xo (by omega)).trans (at_new f5 _ _)
      have k7:=(k5.new _ _).keepR hp hw hb7
      conv=>whnf
      refine ak (aC (T:=dZ) ([.s nm,.sl o3 g3 0 AU 2,.b false,.sl0,.i .i64 ln]) rfl (f7) rfl rfl (Nat.le_of_ble_eq_true rfl) rfl) ?_
      conv=>whnf
      have k8:=k7.iC hxp hxw (gJ nm (.sl o3 g3 0 AU 2) false .sl0 ln)
      have yB:cZ p xo B σ (s7.set xo (gJ nm (.sl o3 g3 0 AU 2) false .sl0 ln)):=⟨by rw [List.length_set];omega,fun i hi fZ hix=>by rw [List.getElem?_set_ne (fun e=>hix e.symm),hb7 i hi,dn (by omega),y5.old i (by omega) fZ]⟩
      exact nI k8 fun e' q0 q3 q9=>hQ _ _ _ e' q0 q3 q9 yB k8 (at_set f7 _) (.inr ⟨_,_,_,rfl⟩)
    ·rw [aP,if_neg (by rw [show aY [44] (t :: r)=dH [44] t from rfl,hi2];decide)] at hQ
     have hQ:V_ p w g all B xo nm ln σ d (a0 :: acc0) Q (.bad 4 t.l):=hQ
     have z5:=PO.ext (p:=p) (w:=w) (g:=g) (n:=all.length) (m:=m) (d:=d) (b:=true) (c:=4) (l:=t.l) (σ:=σ)
     have k5:=h.set (m':=m) (d':=d) (b':=true) (c':=4) (l':=t.l) h.at_ h.dp
     have f5:=z5.get (by omega) hx
     conv=>whnf
     refine Ep k5 ht ?_
     conv=>whnf
     refine ak (aj (T:=dZ) rfl rfl (ah (f5)) rfl) ?_
     conv=>whnf
     refine dw _ k5 ht (fun e=>by cases e) (fun _=>?_)
     conv=>whnf
     refine⟨?_,?_⟩
     ·conv=>whnf
      refine ak (aj (T:=dZ) rfl rfl (ah (f5)) rfl) ?_
      rfl
     conv=>whnf
     refine⟨?_,?_⟩
     ·conv=>whnf
      refine ak (aj (T:=dZ) rfl rfl (ah (at_new f5 _ _)) rfl) ?_
      rfl
     conv=>whnf
     have l6:=z5.len
     refine kW (B:=B) (acc:=(a0 :: acc0)) (ha.keep (Nat.le_refl _) fun i a hi hh=>at_new (z5.get (by omega) hh) _ _) ([],false) (by simp only [List.length_cons,List.length_nil] at hs ⊢;omega) (aG _ _ _) (by rw [aH];omega) fun o3 g3 AU s7 Rk hb7 Ib hk7=>?_
     rw [aH] at Ib
     have f7:s7[xo]? =_:=(hb7 xo (by omega)).trans (at_new f5 _ _)
     have k7:=(k5.new _ _).keepR hp hw hb7
     conv=>whnf
     refine ak (aC (T:=dZ) ([.s nm,.sl o3 g3 0 AU 2,.b false,.sl0,.i .i64 ln]) rfl (f7) rfl rfl (Nat.le_of_ble_eq_true rfl) rfl) ?_
     conv=>whnf
     have k8:=k7.iC hxp hxw (gJ nm (.sl o3 g3 0 AU 2) false .sl0 ln)
     have yB:cZ p xo B σ (s7.set xo (gJ nm (.sl o3 g3 0 AU 2) false .sl0 ln)):=⟨by rw [List.length_set];omega,fun i hi fZ hix=>by rw [List.getElem?_set_ne (fun e=>hix e.symm),hb7 i hi,dn (by omega),z5.old i (by omega) fZ]⟩
     exact nI k8 fun e' q0 q3 q9=>hQ _ _ _ e' q0 q3 q9 yB k8 (at_set f7 _) (.inr ⟨_,_,_,rfl⟩)
end
end Go.bG.YtjcicgkencfbgaaGreatDoor
namespace Go.bG.YtjcicgkencfbgaaGreatDoor
open Go.Proofs
set_option maxRecDepth 4000
section
variable {p w g:Nat} {all:List Tok} {n:Nat}
theorem LM:∀n,EL p w g all n
 | 0=>fun _ _ _ _ _ _ _ _ _ _ _ _ _ _ _ _ _ _ _ _ _ _ h _ _=>absurd h (by omega)
 | n+1=>pars_w (LM n)
def MB (p w g:Nat)(all:List Tok)(σ:St)(Q:AV→St→Prop):Re Fm→Prop
 | .ok f ts=>∀o σ' m' c l,aI p σ σ'→PO p w g all σ' m' 0 false c l→all.drop m'= ts→qp (fun i=>σ.length≤i) σ' (.p o 0 0) f→Q (.p o 0 0) σ'
 | .bad c l=>∀o σ' m',aI p σ σ'→PO p w g all σ' m' 0 true c l→Q (.p o 0 0) σ'
 | .out=>True
theorem cZ.toP {p x:Nat} {σ s s':St} (h:aI p σ s)(k:cZ p x s.length s s')(hx:σ.length≤x):aI p σ s':=⟨Nat.le_trans h.len k.len,fun i hi fZ=>by rw [k.old i (Nat.lt_of_lt_of_le hi h.len) fZ (by omega),h.old i hi fZ]⟩
set_option maxHeartbeats 4000000 in
theorem Oe (hno:oC all)(σ:St)(m c0 l0:Nat)(Q:AV→St→Prop)(h:PO p w g all σ m 0 false c0 l0)(he:aU (all.drop m))(hn:10*(all.drop m).length+10≤n)(hQ:MB p w g all σ Q (nY n (all.drop m))):ay X 16 [.p p 0 0] σ Q:=by
 obtain⟨t,r,hts⟩:=he.ne
 obtain⟨ht,hr⟩:=aW hts
 have hpl:=aX h.obj
 have hwl:=aX h.tok
 have hal:=h.len
 have hlr:(all.drop m).length=r.length+1:=by rw [hts];rfl
 unfold nY at hQ
 rw [hts] at hQ
 have hQ:MB p w g all σ Q ((aP yM (t :: r)).bind fun _ bJ=>(dU bJ).bind fun nm bJ=>(gq [40] 0 bJ).bind fun _ bJ=>(bY n true bJ).bind fun ps bJ=>(aP [41] bJ).bind fun _ bJ=>O9 n t.l nm ps bJ):=hQ
 refine ay.body (F:=F16) aF (lit:=false) rfl rfl (Nat.le_of_ble_eq_true rfl) ?_
 conv=>whnf
 refine ay.to (iO h ht) ?_
 conv=>whnf
 have b1:(au 93 (AV.ag [.s [],.sl0,.b false,.sl0,.i .i64 t.l]).cells σ)[σ.length]? =some ⟨0,false,.cells 93 [.s [],.sl0,.b false,.sl0,.i .i64 t.l]⟩:=aG _ _ _
 have x1:Ext σ (au 93 (AV.ag [.s [],.sl0,.b false,.sl0,.i .i64 t.l]).cells σ):=(Ext.refl σ).new _ _
 have l1:(au 93 (AV.ag [.s [],.sl0,.b false,.sl0,.i .i64 t.l]).cells σ).length=σ.length+1:=aH _ _ _
 generalize au 93 (AV.ag [.s [],.sl0,.b false,.sl0,.i .i64 t.l]).cells σ=σ1 at b1 x1 l1 ⊢
 have b1:σ1[σ.length]? =some (gJ [] .sl0 false .sl0 t.l):=b1
 have k1:=h.G8 x1
 have y1:aI p σ σ1:=aI.of x1
 have G_:σ.length≠p:=by omega
 have He:σ.length≠w:=by omega
 conv=>whnf
 refine jG _ k1 ht (fun hi=>?_) (fun hi=>?_)
 ·rw [aP,if_pos (show aY yM (t :: r)=true from hi)] at hQ
  have hQ:MB p w g all σ Q ((dU r).bind fun nm bJ=>(gq [40] 0 bJ).bind fun _ bJ=>(bY n true bJ).bind fun ps bJ=>(aP [41] bJ).bind fun _ bJ=>O9 n t.l nm ps bJ):=hQ
  obtain⟨hm2,he2,hle2⟩:=aN he hts hi
  have z2:=PO.ext (p:=p) (w:=w) (g:=g) (n:=all.length) (m:=m+1) (d:=0) (b:=false) (c:=c0) (l:=l0) (σ:=σ1)
  have k2:=k1.set (m':=m+1) (d':=0) (b':=false) (c':=c0) (l':=l0) hm2 (by omega)
  have f2:=z2.get (by omega) b1
  have y2:=y1.trans z2
  rw [←hr] at hQ
  obtain⟨t3,r3,jL⟩:=he2.ne
  obtain⟨ht3,hr3⟩:=aW jL
  have hlr3:(all.drop (m+1)).length=r3.length+1:=by rw [jL];rfl
  rw [jL] at hQ
  conv=>whnf
  refine uY k2 ht3 (fun hk=>jv (by rw [hr3];exact(jL▸he2).tail (by rw [hk];decide))) (fun hk s3 y3' k3=>?_) (fun hk s3 y3' k3=>?_)
  ·have he3:aU (all.drop (m+1+1)):=by rw [hr3];exact(jL▸he2).tail (by rw [hk];decide)
   rw [dU,if_pos hk] at hQ
   have hQ:MB p w g all σ Q ((gq [40] 0 r3).bind fun _ bJ=>(bY n true bJ).bind fun ps bJ=>(aP [41] bJ).bind fun _ bJ=>O9 n t.l t3.s ps bJ):=hQ
   have f3:=y3'.get (by omega) f2
   have y3:=y2.trans y3'
   conv=>whnf
   refine ak (aC (T:=eG) ([.s t3.s,.sl0,.b false,.sl0,.i .i64 t.l]) rfl (f3) rfl rfl (Nat.le_of_ble_eq_true rfl) rfl) ?_
   conv=>whnf
   have k4:=k3.iC G_ He (gJ t3.s .sl0 false .sl0 t.l)
   have f4:(_:St)[σ.length]? =_:=at_set f3 (gJ t3.s .sl0 false .sl0 t.l)
   have y4:aI p σ _:=y3.set (o:=σ.length) (Nat.le_refl _) (gJ t3.s .sl0 false .sl0 t.l)
   obtain⟨t5,r5,Fv⟩:=he3.ne
   obtain⟨ht5,hr5⟩:=aW Fv
   have hlr5:(all.drop (m+1+1)).length=r5.length+1:=by rw [Fv];rfl
   have hlr35:(all.drop (m+1+1)).length=r3.length:=by rw [hr3]
   unfold gq at hQ
   rw [←hr3,Fv] at hQ
   conv=>whnf
   refine qW [40] k4 ht5 (by omega) (fun hi=>(aN he3 Fv hi).1) (fun hi5 h64=>?_) (fun hi5 h64=>absurd h64 (by omega)) (fun hi5=>?_)
   ·obtain⟨QN,G9,hle6⟩:=aN he3 Fv hi5
    rw [if_neg (by omega),aP,if_pos (show aY [40] (t5 :: r5)=true from hi5)] at hQ
    have hQ:MB p w g all σ Q ((bY n true r5).bind fun ps bJ=>(aP [41] bJ).bind fun _ bJ=>O9 n t.l t3.s ps bJ):=hQ
    rw [←hr5] at hQ
    have k6:=k4.set (m':=m+1+1+1) (d':=1) (b':=false) (c':=c0) (l':=l0) QN (by omega)
    have f6:=aI.get (PO.ext (p:=p) (w:=w) (g:=g) (n:=all.length) (m:=m+1+1+1) (d:=1) (b:=false) (c:=c0) (l:=l0)) (by omega) f4
    have y6:=y4.trans (PO.ext (p:=p) (w:=w) (g:=g) (n:=all.length) (m:=m+1+1+1) (d:=1) (b:=false) (c:=c0) (l:=l0))
    have l6:=aX f6
    have hg:=ql n true (all.drop (m+1+1+1)) G9 (by omega)
    conv=>whnf
    refine LM n 1 _ σ.length t3.s t.l (Nat.lt_trans hpl l6) (Nat.lt_trans hwl l6) l6 G_ He [] .sl0 _ (m+1+1+1) _ _ _ k6 (Nat.le_refl _) f6 (.inl ⟨rfl,rfl⟩) G9 (by omega) (by simp only [List.length_nil,List.length_drop];omega) ?_
    show V_ _ _ _ _ _ _ _ _ _ _ _ _ (bY n true (all.drop (m+1+1+1)))
    generalize bY n true (all.drop (m+1+1+1))=re at hg hQ
    cases re with
    | out=>exact hg.elim
    | bad c l=>
      have hQ:MB p w g all σ Q (.bad c l):=hQ
      intro A s8 m8 e' e0 e3 e9 x8 k8 f8 hA
      obtain⟨t8,Vg⟩:=vJ k8
      have y8:=cZ.toP y6 x8 (Nat.le_refl _)
      conv=>whnf
      rw [show dK.ev e' (.t 0)=get e' 0 from rfl,e0]
      conv=>whnf
      refine gX _ k8 Vg ?_
      have VN:=k8.set (m':=m8) (d':=0) (b':=true) (c':=c) (l':=l) k8.at_ (by omega)
      have f55:=aI.get (PO.ext (p:=p) (w:=w) (g:=g) (n:=all.length) (m:=m8) (d:=0) (b:=true) (c:=c) (l:=l)) (by omega) f8
      have y55:=y8.trans (PO.ext (p:=p) (w:=w) (g:=g) (n:=all.length) (m:=m8) (d:=0) (b:=true) (c:=c) (l:=l))
      conv=>whnf
      erw [show get (put (some 53) (.tu []) (put (some 52) (.p p 0 0) e')) 0= .p p 0 0 from e0]
      conv=>whnf
      erw [show get (put (some 53) (.tu []) (put (some 52) (.p p 0 0) e')) 3= .p σ.length 0 0 from e3]
      conv=>whnf
      refine dw _ VN Vg (fun e=>by cases e) (fun _=>?_)
      conv=>whnf
      refine ak (aC (T:=kY) ([.s t3.s,A,.b false,.sl0,.i .i64 t.l]) rfl (f55) rfl rfl (Nat.le_of_ble_eq_true rfl) rfl) ?_
      conv=>whnf
      have YR:=VN.iC G_ He (gJ t3.s A false .sl0 t.l)
      have f66:(_:St)[σ.length]? =_:=at_set f55 (gJ t3.s A false .sl0 t.l)
      have YS:aI p σ _:=y55.set (o:=σ.length) (Nat.le_refl _) (gJ t3.s A false .sl0 t.l)
      conv=>whnf
      refine lU YR Vg (by omega) fun s7 Pj YT=>?_
      have f7':=Pj.get (by omega) f66
      conv=>whnf
      refine ak (aC (T:=dM) ([.s t3.s,A,.b false,.sl0,.i .i64 t.l]) rfl (f7') rfl rfl (Nat.le_of_ble_eq_true rfl) rfl) ?_
      conv=>whnf
      exact Fin.ref rfl (hQ _ _ _ ((YS.trans Pj).set (o:=σ.length) (Nat.le_refl _) (gJ t3.s A false .sl0 t.l)) (YT.iC G_ He (gJ t3.s A false .sl0 t.l)))
    | ok ps bJ=>
      have hQ:MB p w g all σ Q ((aP [41] bJ).bind fun _ bJ=>O9 n t.l t3.s ps bJ):=hQ
      intro A s8 m8 c8 l8 e' e0 e3 e9 x8 k8 O7 f8 hA
      have y8:=cZ.toP y6 x8 (Nat.le_refl _)
      have YF:aU (all.drop m8):=by rw [O7];exact hg.2.1
      have hlg:=hg.2.2
      rw [←O7] at hQ hlg
      obtain⟨t9,r9,uy⟩:=YF.ne
      obtain⟨ht9,hr9⟩:=aW uy
      have hlr9:(all.drop m8).length=r9.length+1:=by rw [uy];rfl
      rw [uy] at hQ
      conv=>whnf
      rw [show dK.ev e' (.t 0)=get e' 0 from rfl,e0]
      conv=>whnf
      refine yS _ k8 ht9 (fun hi9=>(aN YF uy hi9).1) (fun hi9=>?_) (fun hi9=>?_)
      ·obtain⟨hm10,he10,hle10⟩:=aN YF uy hi9
       rw [aP,if_pos (show aY [41] (t9 :: r9)=true from hi9)] at hQ
       have hQ:MB p w g all σ Q (O9 n t.l t3.s ps r9):=hQ
       rw [←hr9] at hQ
       have k10:=k8.set (m':=m8+1) (d':=0) (b':=false) (c':=c8) (l':=l8) hm10 (by omega)
       have f10:=aI.get (PO.ext (p:=p) (w:=w) (g:=g) (n:=all.length) (m:=m8+1) (d:=0) (b:=false) (c:=c8) (l:=l8)) (by omega) f8
       have z10:=PO.ext (p:=p) (w:=w) (g:=g) (n:=all.length) (m:=m8+1) (d:=0) (b:=false) (c:=c8) (l:=l8) (σ:=s8)
       have qw:=y8.trans z10
       have Vp:jA (σ.length+1) (fF p w g all.length s8 (m8+1) 0 false c8 l8) A ps:=hA.keep (by omega) fun i a hi hh=>z10.get (by omega) hh
       obtain⟨t11,r11,Hf⟩:=he10.ne
       obtain⟨ht11,hr11⟩:=aW Hf
       have hlr11:(all.drop (m8+1)).length=r11.length+1:=by rw [Hf];rfl
       conv=>whnf
       erw [show get (put (some 53) (.tu []) (put (some 52) (.p p 0 0) e')) 0= .p p 0 0 from e0]
       conv=>whnf
       erw [show get (put (some 53) (.tu []) (put (some 52) (.p p 0 0) e')) 3= .p σ.length 0 0 from e3]
       conv=>whnf
       refine dw _ k10 ht11 (fun _ fZ=>?_) (fun fZ=>?_)
       ·have hpw:aY fB (t11 :: r11)=true:=fZ
        obtain⟨hm12,VO,hle12⟩:=aN he10 Hf fZ
        have hl12:(all.drop (m8+1+1)).length=r11.length:=by rw [hr11]
        unfold O9 at hQ
        rw [Hf] at hQ
        simp only [hpw,if_true,List.tail_cons] at hQ
        rw [←hr11] at hQ
        have z12:=PO.ext (p:=p) (w:=w) (g:=g) (n:=all.length) (m:=m8+1+1) (d:=0) (b:=false) (c:=c8) (l:=l8) (σ:=fF p w g all.length s8 (m8+1) 0 false c8 l8)
        have k12:=k10.set (m':=m8+1+1) (d':=0) (b':=false) (c':=c8) (l':=l8) hm12 (by omega)
        have f12:=z12.get (by omega) f10
        have VL:=qw.trans z12
        have ha12:=Vp.keep (Nat.le_refl _) fun i a hi hh=>z12.get (by omega) hh
        conv=>whnf
        refine ak (aC (T:=kY) ([.s t3.s,A,.b true,.sl0,.i .i64 t.l]) rfl (f12) rfl rfl (Nat.le_of_ble_eq_true rfl) rfl) ?_
        conv=>whnf
        have k13:=k12.iC G_ He (gJ t3.s A true .sl0 t.l)
        have f13:(_:St)[σ.length]? =_:=at_set f12 (gJ t3.s A true .sl0 t.l)
        have y13:aI p σ _:=VL.set (o:=σ.length) (Nat.le_refl _) (gJ t3.s A true .sl0 t.l)
        have ha13:=ha12.keep (σ':=List.set _ σ.length (gJ t3.s A true .sl0 t.l)) (Nat.le_refl _) fun i a hi hh=>aK hh (by omega) _
        have l13:=aX f13
        have hgb:=(ny n).block 0 (all.drop (m8+1+1)) VO (by omega)
        conv=>whnf
        refine(allT hno n).1.block 0 _ (m8+1+1) _ _ _ k13 (by omega) VO (by omega) ?_
        generalize dI n 0 (all.drop (m8+1+1))=rb at hgb hQ
        cases rb with
        | out=>exact hgb.elim
        | bad c l=>
          have hQ:MB p w g all σ Q (.bad c l):=hQ
          intro Bd s14 m14 Ji k14 hBd
          have f14:=Ji.get (by omega) f13
          refine bU _ _ ?_
          conv=>whnf
          refine ak (dP (T:=dM) [.s t3.s,A,.b true,Bd,.i .i64 t.l] hBd rfl rfl f14 (Nat.le_of_ble_eq_true rfl) rfl) ?_
          conv=>whnf
          exact Fin.ref rfl (hQ _ _ _ ((y13.trans Ji).set (o:=σ.length) (Nat.le_refl _) (gJ t3.s A true Bd t.l)) (k14.iC G_ He (gJ t3.s A true Bd t.l)))
        | ok bd fU=>
          have hQ:MB p w g all σ Q (.ok ⟨t3.s,ps,true,bd,t.l⟩ fU):=hQ
          intro Bd s14 m14 c14 l14 Ji k14 hm14 hbd hBd
          have f14:=Ji.get (by omega) f13
          have l14':=Ji.len
          refine bU _ _ ?_
          conv=>whnf
          refine ak (dP (T:=dM) [.s t3.s,A,.b true,Bd,.i .i64 t.l] hBd rfl rfl f14 (Nat.le_of_ble_eq_true rfl) rfl) ?_
          conv=>whnf
          refine Fin.ref rfl (hQ _ _ _ _ _ ((y13.trans Ji).set (o:=σ.length) (Nat.le_refl _) (gJ t3.s A true Bd t.l)) (k14.iC G_ He (gJ t3.s A true Bd t.l)) hm14 ⟨σ.length,A,Bd,Nat.le_refl _,rfl,at_set f14 _,?_,?_⟩)
          ·rcases ha13 with ⟨q1,q2⟩ | ⟨o2,g2,q1,q2,q3⟩
           ·exact .inl ⟨q1,q2⟩
           ·exact .inr ⟨o2,g2,by omega,q2,aK (Ji.get (by omega) q3) (by omega) _⟩
          ·exact dN.mono (fun i hi=>by first | omega | (simp only [List.length_set,bg] at *;omega)) (fun i hi a ha=>aK ha (by first | omega | (simp only [List.length_set,bg] at *;omega)) _) hbd
       ·have hpw:aY fB (t11 :: r11)=false:=by rw [show aY fB (t11 :: r11)=dH [112,116,114] t11 from rfl];simpa using fZ
        unfold O9 at hQ
        rw [Hf] at hQ
        simp only [hpw,Bool.false_eq_true,if_false] at hQ
        rw [←Hf] at hQ
        have VO:=he10
        have k12:=k10
        have f12:=f10
        have VL:=qw
        have ha12:=Vp
        conv=>whnf
        refine ak (aC (T:=kY) ([.s t3.s,A,.b false,.sl0,.i .i64 t.l]) rfl (f12) rfl rfl (Nat.le_of_ble_eq_true rfl) rfl) ?_
        conv=>whnf
        have k13:=k12.iC G_ He (gJ t3.s A false .sl0 t.l)
        have f13:(_:St)[σ.length]? =_:=at_set f12 (gJ t3.s A false .sl0 t.l)
        have y13:aI p σ _:=VL.set (o:=σ.length) (Nat.le_refl _) (gJ t3.s A false .sl0 t.l)
        have ha13:=ha12.keep (σ':=List.set _ σ.length (gJ t3.s A false .sl0 t.l)) (Nat.le_refl _) fun i a hi hh=>aK hh (by omega) _
        have l13:=aX f13
        have hgb:=(ny n).block 0 (all.drop (m8+1)) VO (by omega)
        conv=>whnf
        refine(allT hno n).1.block 0 _ (m8+1) _ _ _ k13 (by omega) VO (by omega) ?_
        generalize dI n 0 (all.drop (m8+1))=rb at hgb hQ
        cases rb with
        | out=>exact hgb.elim
        | bad c l=>
          have hQ:MB p w g all σ Q (.bad c l):=hQ
          intro Bd s14 m14 Ji k14 hBd
          have f14:=Ji.get (by omega) f13
          refine bU _ _ ?_
          conv=>whnf
          refine ak (dP (T:=dM) [.s t3.s,A,.b false,Bd,.i .i64 t.l] hBd rfl rfl f14 (Nat.le_of_ble_eq_true rfl) rfl) ?_
          conv=>whnf
          exact Fin.ref rfl (hQ _ _ _ ((y13.trans Ji).set (o:=σ.length) (Nat.le_refl _) (gJ t3.s A false Bd t.l)) (k14.iC G_ He (gJ t3.s A false Bd t.l)))
        | ok bd fU=>
          have hQ:MB p w g all σ Q (.ok ⟨t3.s,ps,false,bd,t.l⟩ fU):=hQ
          intro Bd s14 m14 c14 l14 Ji k14 hm14 hbd hBd
          have f14:=Ji.get (by omega) f13
          have l14':=Ji.len
          refine bU _ _ ?_
          conv=>whnf
          refine ak (dP (T:=dM) [.s t3.s,A,.b false,Bd,.i .i64 t.l] hBd rfl rfl f14 (Nat.le_of_ble_eq_true rfl) rfl) ?_
          conv=>whnf
          refine Fin.ref rfl (hQ _ _ _ _ _ ((y13.trans Ji).set (o:=σ.length) (Nat.le_refl _) (gJ t3.s A false Bd t.l)) (k14.iC G_ He (gJ t3.s A false Bd t.l)) hm14 ⟨σ.length,A,Bd,Nat.le_refl _,rfl,at_set f14 _,?_,?_⟩)
          ·rcases ha13 with ⟨q1,q2⟩ | ⟨o2,g2,q1,q2,q3⟩
           ·exact .inl ⟨q1,q2⟩
           ·exact .inr ⟨o2,g2,by omega,q2,aK (Ji.get (by omega) q3) (by omega) _⟩
          ·exact dN.mono (fun i hi=>by first | omega | (simp only [List.length_set,bg] at *;omega)) (fun i hi a ha=>aK ha (by first | omega | (simp only [List.length_set,bg] at *;omega)) _) hbd
      ·rw [aP,if_neg (by rw [show aY [41] (t9 :: r9)=dH [41] t9 from rfl,hi9];decide)] at hQ
       have hQ:MB p w g all σ Q (.bad 4 t9.l):=hQ
       have k10:=k8.set (m':=m8) (d':=0) (b':=true) (c':=4) (l':=t9.l) k8.at_ (by omega)
       have f10:=aI.get (PO.ext (p:=p) (w:=w) (g:=g) (n:=all.length) (m:=m8) (d:=0) (b:=true) (c:=4) (l:=t9.l)) (by omega) f8
       have qw:=y8.trans (PO.ext (p:=p) (w:=w) (g:=g) (n:=all.length) (m:=m8) (d:=0) (b:=true) (c:=4) (l:=t9.l))
       conv=>whnf
       erw [show get (put (some 53) (.tu []) (put (some 52) (.p p 0 0) e')) 0= .p p 0 0 from e0]
       conv=>whnf
       erw [show get (put (some 53) (.tu []) (put (some 52) (.p p 0 0) e')) 3= .p σ.length 0 0 from e3]
       conv=>whnf
       refine dw _ k10 ht9 (fun e=>by cases e) (fun _=>?_)
       conv=>whnf
       refine ak (aC (T:=kY) ([.s t3.s,A,.b false,.sl0,.i .i64 t.l]) rfl (f10) rfl rfl (Nat.le_of_ble_eq_true rfl) rfl) ?_
       conv=>whnf
       have YR:=k10.iC G_ He (gJ t3.s A false .sl0 t.l)
       have f66:(_:St)[σ.length]? =_:=at_set f10 (gJ t3.s A false .sl0 t.l)
       have YS:aI p σ _:=qw.set (o:=σ.length) (Nat.le_refl _) (gJ t3.s A false .sl0 t.l)
       conv=>whnf
       refine lU YR ht9 (by omega) fun s7 Pj YT=>?_
       have f7':=Pj.get (by omega) f66
       conv=>whnf
       refine ak (aC (T:=dM) ([.s t3.s,A,.b false,.sl0,.i .i64 t.l]) rfl (f7') rfl rfl (Nat.le_of_ble_eq_true rfl) rfl) ?_
       conv=>whnf
       exact Fin.ref rfl (hQ _ _ _ ((YS.trans Pj).set (o:=σ.length) (Nat.le_refl _) (gJ t3.s A false .sl0 t.l)) (YT.iC G_ He (gJ t3.s A false .sl0 t.l)))
   ·have hiw:¬aY [40] (t5 :: r5)=true:=by rw [show aY [40] (t5 :: r5)=dH [40] t5 from rfl,hi5];decide
    rw [if_neg (fun e=>hiw e.1),aP,if_neg hiw] at hQ
    have hQ:MB p w g all σ Q (.bad 4 t5.l):=hQ
    have k6:=k4.set (m':=m+1+1) (d':=1) (b':=true) (c':=4) (l':=t5.l) k4.at_ (by omega)
    have f6:=aI.get (PO.ext (p:=p) (w:=w) (g:=g) (n:=all.length) (m:=m+1+1) (d:=1) (b:=true) (c:=4) (l:=t5.l)) (by omega) f4
    have y6:=y4.trans (PO.ext (p:=p) (w:=w) (g:=g) (n:=all.length) (m:=m+1+1) (d:=1) (b:=true) (c:=4) (l:=t5.l))
    conv=>whnf
    refine nI k6 fun e' e0 e3 e9=>?_
    conv=>whnf
    rw [show dK.ev e' (.t 0)=get e' 0 from rfl,e0]
    conv=>whnf
    refine gX _ k6 ht5 ?_
    have VN:=k6.set (m':=(m+1+1)) (d':=0) (b':=true) (c':=4) (l':=t5.l) k6.at_ (by omega)
    have f55:=aI.get (PO.ext (p:=p) (w:=w) (g:=g) (n:=all.length) (m:=(m+1+1)) (d:=0) (b:=true) (c:=4) (l:=t5.l)) (by omega) f6
    have y55:=y6.trans (PO.ext (p:=p) (w:=w) (g:=g) (n:=all.length) (m:=(m+1+1)) (d:=0) (b:=true) (c:=4) (l:=t5.l))
    conv=>whnf
    erw [show get (put (some 53) (.tu []) (put (some 52) (.p p 0 0) e')) 0= .p p 0 0 from e0]
    conv=>whnf
    erw [show get (put (some 53) (.tu []) (put (some 52) (.p p 0 0) e')) 3= .p σ.length 0 0 from e3]
    conv=>whnf
    refine dw _ VN ht5 (fun e=>by cases e) (fun _=>?_)
    conv=>whnf
    refine ak (aC (T:=kY) ([.s t3.s,.sl0,.b false,.sl0,.i .i64 t.l]) rfl (f55) rfl rfl (Nat.le_of_ble_eq_true rfl) rfl) ?_
    conv=>whnf
    have YR:=VN.iC G_ He (gJ t3.s .sl0 false .sl0 t.l)
    have f66:(_:St)[σ.length]? =_:=at_set f55 (gJ t3.s .sl0 false .sl0 t.l)
    have YS:aI p σ _:=y55.set (o:=σ.length) (Nat.le_refl _) (gJ t3.s .sl0 false .sl0 t.l)
    conv=>whnf
    refine lU YR ht5 (by omega) fun s7 Pj YT=>?_
    have f7':=Pj.get (by omega) f66
    conv=>whnf
    refine ak (aC (T:=dM) ([.s t3.s,.sl0,.b false,.sl0,.i .i64 t.l]) rfl (f7') rfl rfl (Nat.le_of_ble_eq_true rfl) rfl) ?_
    conv=>whnf
    exact Fin.ref rfl (hQ _ _ _ ((YS.trans Pj).set (o:=σ.length) (Nat.le_refl _) (gJ t3.s .sl0 false .sl0 t.l)) (YT.iC G_ He (gJ t3.s .sl0 false .sl0 t.l)))
  ·rw [dU,if_neg hk] at hQ
   have hQ:MB p w g all σ Q (.bad 4 t3.l):=hQ
   have f3:=y3'.get (by omega) f2
   have y3:=y2.trans y3'
   conv=>whnf
   refine ak (aC (T:=eG) ([.s [],.sl0,.b false,.sl0,.i .i64 t.l]) rfl (f3) rfl rfl (Nat.le_of_ble_eq_true rfl) rfl) ?_
   conv=>whnf
   have k4:=k3.iC G_ He (gJ [] .sl0 false .sl0 t.l)
   have f4:(_:St)[σ.length]? =_:=at_set f3 (gJ [] .sl0 false .sl0 t.l)
   have y4:aI p σ _:=y3.set (o:=σ.length) (Nat.le_refl _) (gJ [] .sl0 false .sl0 t.l)
   conv=>whnf
   refine Eo _ k4 ht3 (by omega) ?_
   have k33:=k4.set (m':=(m+1)) (d':=1) (b':=true) (c':=4) (l':=t3.l) k4.at_ (by omega)
   have f33:=aI.get (PO.ext (p:=p) (w:=w) (g:=g) (n:=all.length) (m:=(m+1)) (d:=1) (b:=true) (c:=4) (l:=t3.l)) (by omega) f4
   have y33:=y4.trans (PO.ext (p:=p) (w:=w) (g:=g) (n:=all.length) (m:=(m+1)) (d:=1) (b:=true) (c:=4) (l:=t3.l))
   conv=>whnf
   refine nI k33 fun e' e0 e3 e9=>?_
   conv=>whnf
   rw [show dK.ev e' (.t 0)=get e' 0 from rfl,e0]
   conv=>whnf
   refine gX _ k33 ht3 ?_
   have VN:=k33.set (m':=(m+1)) (d':=0) (b':=true) (c':=4) (l':=t3.l) k33.at_ (by omega)
   have f55:=aI.get (PO.ext (p:=p) (w:=w) (g:=g) (n:=all.length) (m:=(m+1)) (d:=0) (b:=true) (c:=4) (l:=t3.l)) (by omega) f33
   have y55:=y33.trans (PO.ext (p:=p) (w:=w) (g:=g) (n:=all.length) (m:=(m+1)) (d:=0) (b:=true) (c:=4) (l:=t3.l))
   conv=>whnf
   erw [show get (put (some 53) (.tu []) (put (some 52) (.p p 0 0) e')) 0= .p p 0 0 from e0]
   conv=>whnf
   erw [show get (put (some 53) (.tu []) (put (some 52) (.p p 0 0) e')) 3= .p σ.length 0 0 from e3]
   conv=>whnf
   refine dw _ VN ht3 (fun e=>by cases e) (fun _=>?_)
   conv=>whnf
   refine ak (aC (T:=kY) ([.s [],.sl0,.b false,.sl0,.i .i64 t.l]) rfl (f55) rfl rfl (Nat.le_of_ble_eq_true rfl) rfl) ?_
   conv=>whnf
   have YR:=VN.iC G_ He (gJ [] .sl0 false .sl0 t.l)
   have f66:(_:St)[σ.length]? =_:=at_set f55 (gJ [] .sl0 false .sl0 t.l)
   have YS:aI p σ _:=y55.set (o:=σ.length) (Nat.le_refl _) (gJ [] .sl0 false .sl0 t.l)
   conv=>whnf
   refine lU YR ht3 (by omega) fun s7 Pj YT=>?_
   have f7':=Pj.get (by omega) f66
   conv=>whnf
   refine ak (aC (T:=dM) ([.s [],.sl0,.b false,.sl0,.i .i64 t.l]) rfl (f7') rfl rfl (Nat.le_of_ble_eq_true rfl) rfl) ?_
   conv=>whnf
   exact Fin.ref rfl (hQ _ _ _ ((YS.trans Pj).set (o:=σ.length) (Nat.le_refl _) (gJ [] .sl0 false .sl0 t.l)) (YT.iC G_ He (gJ [] .sl0 false .sl0 t.l)))
 ·rw [aP,if_neg (by rw [show aY yM (t :: r)=dH [102,117,110,99] t from rfl,hi];decide)] at hQ
  have hQ:MB p w g all σ Q (.bad 4 t.l):=hQ
  have k2:=k1.set (m':=m) (d':=0) (b':=true) (c':=4) (l':=t.l) k1.at_ (by omega)
  have f2:=aI.get (PO.ext (p:=p) (w:=w) (g:=g) (n:=all.length) (m:=m) (d:=0) (b:=true) (c:=4) (l:=t.l)) (by omega) b1
  have y2:=y1.trans (PO.ext (p:=p) (w:=w) (g:=g) (n:=all.length) (m:=m) (d:=0) (b:=true) (c:=4) (l:=t.l))
  conv=>whnf
  refine Ep k2 ht ?_
  conv=>whnf
  refine ak (aC (T:=eG) ([.s [],.sl0,.b false,.sl0,.i .i64 t.l]) rfl (f2) rfl rfl (Nat.le_of_ble_eq_true rfl) rfl) ?_
  conv=>whnf
  have k22:=k2.iC G_ He (gJ [] .sl0 false .sl0 t.l)
  have f22:(_:St)[σ.length]? =_:=at_set f2 (gJ [] .sl0 false .sl0 t.l)
  have y22:aI p σ _:=y2.set (o:=σ.length) (Nat.le_refl _) (gJ [] .sl0 false .sl0 t.l)
  conv=>whnf
  refine Eo _ k22 ht (by omega) ?_
  have k33:=k22.set (m':=m) (d':=1) (b':=true) (c':=4) (l':=t.l) k22.at_ (by omega)
  have f33:=aI.get (PO.ext (p:=p) (w:=w) (g:=g) (n:=all.length) (m:=m) (d:=1) (b:=true) (c:=4) (l:=t.l)) (by omega) f22
  have y33:=y22.trans (PO.ext (p:=p) (w:=w) (g:=g) (n:=all.length) (m:=m) (d:=1) (b:=true) (c:=4) (l:=t.l))
  conv=>whnf
  refine nI k33 fun e' e0 e3 e9=>?_
  conv=>whnf
  rw [show dK.ev e' (.t 0)=get e' 0 from rfl,e0]
  conv=>whnf
  refine gX _ k33 ht ?_
  have VN:=k33.set (m':=m) (d':=0) (b':=true) (c':=4) (l':=t.l) k33.at_ (by omega)
  have f55:=aI.get (PO.ext (p:=p) (w:=w) (g:=g) (n:=all.length) (m:=m) (d:=0) (b:=true) (c:=4) (l:=t.l)) (by omega) f33
  have y55:=y33.trans (PO.ext (p:=p) (w:=w) (g:=g) (n:=all.length) (m:=m) (d:=0) (b:=true) (c:=4) (l:=t.l))
  conv=>whnf
  erw [show get (put (some 53) (.tu []) (put (some 52) (.p p 0 0) e')) 0= .p p 0 0 from e0]
  conv=>whnf
  erw [show get (put (some 53) (.tu []) (put (some 52) (.p p 0 0) e')) 3= .p σ.length 0 0 from e3]
  conv=>whnf
  refine dw _ VN ht (fun e=>by cases e) (fun _=>?_)
  conv=>whnf
  refine ak (aC (T:=kY) ([.s [],.sl0,.b false,.sl0,.i .i64 t.l]) rfl (f55) rfl rfl (Nat.le_of_ble_eq_true rfl) rfl) ?_
  conv=>whnf
  have YR:=VN.iC G_ He (gJ [] .sl0 false .sl0 t.l)
  have f66:(_:St)[σ.length]? =_:=at_set f55 (gJ [] .sl0 false .sl0 t.l)
  have YS:aI p σ _:=y55.set (o:=σ.length) (Nat.le_refl _) (gJ [] .sl0 false .sl0 t.l)
  conv=>whnf
  refine lU YR ht (by omega) fun s7 Pj YT=>?_
  have f7':=Pj.get (by omega) f66
  conv=>whnf
  refine ak (aC (T:=dM) ([.s [],.sl0,.b false,.sl0,.i .i64 t.l]) rfl (f7') rfl rfl (Nat.le_of_ble_eq_true rfl) rfl) ?_
  conv=>whnf
  exact Fin.ref rfl (hQ _ _ _ ((YS.trans Pj).set (o:=σ.length) (Nat.le_refl _) (gJ [] .sl0 false .sl0 t.l)) (YT.iC G_ He (gJ [] .sl0 false .sl0 t.l)))
end
end Go.bG.YtjcicgkencfbgaaGreatDoor
namespace Go.bG.YtjcicgkencfbgaaGreatDoor
open Go.Proofs
set_option maxRecDepth 4000
section
variable {p w g:Nat} {all:List Tok} {n:Nat}
def rJ (A:AV):AO:=⟨0,false,.cells 52 [A]⟩
def RPq (p w g:Nat)(all:List Tok)(B fo q:Nat)(σ:St)(acc:List Fm)(Q:Out→Env→St→Prop):Re (List Fm)→Prop
 | .ok fs ts=>∀A' σ' m' c l e',get e' 3= .p fo 0 0→get e' 7= .p p 0 0→get e' 8= .p q 0 0→get e' 1000000= .u→cZ p q B σ σ'→PO p w g all σ' m' 0 false c l→all.drop m'= ts→σ'[q]? =some (rJ A')→AP B σ' A' (acc ++ fs)→Q (.exit 0) e' σ'
 | .bad c l=>∀A' σ' m' e',get e' 3= .p fo 0 0→get e' 7= .p p 0 0→get e' 8= .p q 0 0→get e' 1000000= .u→cZ p q B σ σ'→PO p w g all σ' m' 0 true c l→σ'[q]? =some (rJ A')→yT A'→Q (.exit 0) e' σ'
 | .out=>True
theorem Og {m c l fo q:Nat} {σ:St} {Q:Out→Env→St→Prop} (h:PO p w g all σ m 0 true c l)
 (k:∀e',get e' 3= .p fo 0 0→get e' 7= .p p 0 0→get e' 8= .p q 0 0→get e' 1000000= .u→Q (.exit 0) e' σ):aS X [3,7,8] ZQ [(3,.p fo 0 0),(7,.p p 0 0),(8,.p q 0 0)] σ Q:=by
 refine aS.round aF (lit:=false) ?_
 conv=>whnf
 refine ak (aj (T:=kY) rfl rfl (ah (h.obj)) rfl) ?_
 conv=>whnf
 exact k _ rfl rfl rfl rfl
theorem Pm (hno:oC all):∀(n B fo q:Nat),p<B→w<B→q<B→q≠p→q≠w→∀(acc:List Fm) (A:AV) (σ:St) (m c0 l0:Nat) (Q:Out→Env→St→Prop),PO p w g all σ m 0 false c0 l0→B≤σ.length→σ[q]? =some (rJ A)→AP B σ A acc→aU (all.drop m)→10*(all.drop m).length+11≤n→acc.length+(all.drop m).length≤40001→RPq p w g all B fo q σ acc Q (gB n (all.drop m))→aS X [3,7,8] ZQ [(3,.p fo 0 0),(7,.p p 0 0),(8,.p q 0 0)] σ Q
 | 0=>fun _ _ _ _ _ _ _ _ _ _ _ _ _ _ _ _ _ _ _ _ h=>absurd h (by omega)
 | n+1=>by
   intro B fo q hp hw hq vO hqw acc A σ m c0 l0 Q h hB hx ha he hn hs hQ
   obtain⟨t,r,hts⟩:=he.ne
   obtain⟨ht,hr⟩:=aW hts
   rw [hts,gB] at hQ
   have hsl:yT A:=by obtain⟨cs,hr,_⟩:=ha;exact hr.sl
   refine aS.round aF (lit:=false) ?_
   conv=>whnf
   refine ak (aj (T:=kY) rfl rfl (ah (h.obj)) rfl) ?_
   conv=>whnf
   refine ay.to (iO h ht) ?_
   conv=>whnf
   by_cases hk:t.k=5
   ·rw [if_pos hk] at hQ
    rw [decide_eq_true (by omega)]
    conv=>whnf
    conv=>whnf
    exact hQ A σ m c0 l0 _ rfl rfl rfl rfl ⟨Nat.le_refl _,fun _ _ _ _=>rfl⟩ h hts hx (by rw [List.append_nil];exact ha)
   ·rw [if_neg hk,←hts] at hQ
    rw [decide_eq_false (by omega)]
    conv=>whnf
    conv=>whnf
    rcases hsl with rfl | ⟨oo,gg,kk,rfl⟩
    all_goals
     refine ak (aj (T:=iM) rfl rfl (ah (hx)) rfl) ?_
     conv=>whnf
     have hg:=II n (all.drop m) he (by omega)
     refine Oe (n:=n) hno σ m c0 l0 _ h he (by omega) ?_
     generalize nY n (all.drop m)=r1 at hg hQ
     cases r1 with
     | out=>exact hg.elim
     | bad c l=>
       have hQ:RPq p w g all B fo q σ acc Q (.bad c l):=hQ
       intro oy s m2 y k
       have f:=y.get vO hx
       have ly:=y.len
       conv=>whnf
       refine⟨?_,?_⟩
       ·conv=>whnf
        refine ak (aj (T:=iM) rfl rfl (ah (f)) rfl) ?_
        rfl
       conv=>whnf
       refine⟨?_,?_⟩
       ·conv=>whnf
        refine ak (aj (T:=iM) rfl rfl (ah (at_new f _ _)) rfl) ?_
        rfl
       conv=>whnf
       refine zk (D:=s.length) ha y hp hB (Nat.le_refl _) ly (by omega) oy 0 fun o3 g3 k3 s3 e3 l3 kT kA=>?_
       have f3:s3[q]? =_:=(e3 q hq).trans f
       have zG:=k.keepR hp hw e3
       conv=>whnf
       refine ak (aC (T:=iM) ([.sl o3 g3 0 k3 1]) rfl (f3) rfl rfl (Nat.le_of_ble_eq_true rfl) rfl) ?_
       conv=>whnf
       have k4:=zG.iC vO hqw (rJ (.sl o3 g3 0 k3 1))
       have yB:cZ p q B σ (s3.set q (rJ (.sl o3 g3 0 k3 1))):=⟨by rw [List.length_set];omega,fun i hi fZ hix=>by rw [List.getElem?_set_ne (fun e=>hix e.symm),e3 i hi,y.old i (by omega) fZ]⟩
       exact Og k4 fun e' q3 q7 q8 q9=>hQ _ _ _ e' q3 q7 q8 q9 yB k4 (at_set f3 _) (.inr ⟨_,_,_,rfl⟩)
     | ok y0 bJ=>
       have hQ:RPq p w g all B fo q σ acc Q ((gB n bJ).bind fun l ts=>.ok (y0 :: l) ts):=hQ
       intro oy s m2 c2 l2 y k hm2 tY
       have f:=y.get vO hx
       have ly:=y.len
       rw [←hm2] at hQ hg
       have lg:=hg.2.2
       conv=>whnf
       refine⟨?_,?_⟩
       ·conv=>whnf
        refine ak (aj (T:=iM) rfl rfl (ah (f)) rfl) ?_
        rfl
       conv=>whnf
       refine⟨?_,?_⟩
       ·conv=>whnf
        refine ak (aj (T:=iM) rfl rfl (ah (at_new f _ _)) rfl) ?_
        rfl
       conv=>whnf
       refine zk (D:=σ.length) ha y hp hB ly (Nat.le_refl _) (by omega) oy 0 fun o3 g3 k3 s3 e3 l3 kT kA=>?_
       have f3:s3[q]? =_:=(e3 q hq).trans f
       have zG:=k.keepR hp hw e3
       conv=>whnf
       refine ak (aC (T:=iM) ([.sl o3 g3 0 k3 1]) rfl (f3) rfl rfl (Nat.le_of_ble_eq_true rfl) rfl) ?_
       conv=>whnf
       have k4:=zG.iC vO hqw (rJ (.sl o3 g3 0 k3 1))
       have yB:cZ p q B σ (s3.set q (rJ (.sl o3 g3 0 k3 1))):=⟨by rw [List.length_set];omega,fun i hi fZ hix=>by rw [List.getElem?_set_ne (fun e=>hix e.symm),e3 i hi,y.old i (by omega) fZ]⟩
       refine Pm hno n B fo q hp hw hq vO hqw (acc ++ [y0]) _ _ m2 c2 l2 Q k4 (by rw [List.length_set];omega) (at_set f3 _) ((kA y0 tY).keep fun i a hi hh=>aK hh (by omega) _) hg.2.1 (by omega) (by rw [List.length_append];simp only [List.length_cons,List.length_nil];omega) ?_
       generalize gB n (all.drop m2)=r2 at hQ
       cases r2 with
       | out=>trivial
       | bad c l=>exact fun A4 eY m4 e' q3 q7 q8 q9 x4=>hQ A4 eY m4 e' q3 q7 q8 q9 (yB.trans x4)
       | ok xs BM=>exact fun A4 eY m4 c4 l4 e' q3 q7 q8 q9 x4 h4 hm4 hx4 uZ=>hQ A4 eY m4 c4 l4 e' q3 q7 q8 q9 (yB.trans x4) h4 hm4 hx4 (by rw [List.append_assoc] at uZ;exact uZ)
end
theorem EN:∀(k:Nat) (s:List UInt8) (l:Nat) (acc:List Tok) {e l':Nat},iE k s l acc= .bad e l'→e=9∨e=3
 | 0,[],l,acc,e,l',h=>by cases h
 | 0,_ :: _,l,acc,e,l',h=>by cases h
 | k+1,[],l,acc,e,l',h=>by cases h
 | k+1,c :: r,l,acc,e,l',h=>by
   have hf:=jc c r
   simp only [iE] at h
   split at h
   ·exact EN k _ _ _ h
   ·exact EN k _ _ _ h
   ·rename_i e' hs
    cases h
    rw [hs] at hf
    exact hf
theorem VP {t:List UInt8} {e l:Nat} (h:mG t= .bad e l):e=9∨e=3:=by
 unfold mG at h
 split at h
 ·cases h;exact .inr rfl
 ·cases hr:iE t.length t 0 [] with
  | done a b=>rw [hr] at h;cases h
  | bad a b=>rw [hr] at h;cases h;exact EN _ _ _ _ hr
def PPw (σ:St)(Q:AV→St→Prop):Re (List Fm)→Prop
 | .ok fs _=>∀o σ',Ext σ σ'→kD (fun i=>σ.length≤i) σ' (.p o 0 0) fs→Q (.tu [.p o 0 0,.ag [.i .i64 0,.i .i64 0],.b false]) σ'
 | .bad c l=>Q (.tu [.p0,.ag [.i .i64 c,.i .i64 l],.b true]) σ
 | .out=>True
theorem Jd (t:List UInt8)(σ:St)(Q:AV→St→Prop)(hQ:PPw σ Q (jB t)):ay X 6 [.s t] σ Q:=by
 unfold jB at hQ
 refine ay.body (F:=F6) aF (lit:=false) rfl rfl (Nat.le_of_ble_eq_true rfl) ?_
 conv=>whnf
 have b3:(au 25 iw.zero.cells σ)[σ.length]? =some ⟨0,false,.cells 25 [.i .i64 0,.i .i64 0]⟩:=aG _ _ _
 have x3:Ext σ (au 25 iw.zero.cells σ):=(Ext.refl σ).new _ _
 have l3:(au 25 iw.zero.cells σ).length=σ.length+1:=aH _ _ _
 generalize au 25 iw.zero.cells σ=σ3 at b3 x3 l3 ⊢
 conv=>whnf
 refine Yh t σ3 _ (fun l out eY hl hlen x4 ho=>?_) (fun e l hl=>?_)
 ·rw [hl] at hQ
  obtain⟨he,hno,hnn,hko⟩:=I5 hl
  have hQ:PPw σ Q (gB (10*l.length+11) l):=hQ
  rcases ho with ⟨rfl,_⟩ | ⟨w,g,hw,rfl,htok⟩
  ·exact he.elim
  have lw:=aX htok
  have lx4:=x4.len
  conv=>whnf
  refine ak (aC (T:=tC) ([.i .i64 0,.i .i64 0]) rfl (aG _ _ _) rfl rfl (Nat.le_of_ble_eq_true rfl) rfl) ?_
  have x6:Ext eY ((au 44 tC.zero.cells eY).set eY.length ⟨0,false,.cells 44 [.i .i64 0,.i .i64 0]⟩):=((Ext.refl eY).new _ _).set (Nat.le_refl _) _
  have b6:((au 44 tC.zero.cells eY).set eY.length ⟨0,false,.cells 44 [.i .i64 0,.i .i64 0]⟩)[eY.length]? =_:=at_set (aG _ _ _) _
  have l6:((au 44 tC.zero.cells eY).set eY.length ⟨0,false,.cells 44 [.i .i64 0,.i .i64 0]⟩).length=eY.length+1:=by rw [List.length_set,aH]
  generalize (au 44 tC.zero.cells eY).set eY.length ⟨0,false,.cells 44 [.i .i64 0,.i .i64 0]⟩=iU at b6 x6 l6 ⊢
  conv=>whnf
  refine ak (aj (T:=XL) rfl rfl (ah (b6)) rfl) ?_
  conv=>whnf
  have b7:(au 49 (AV.ag [.sl w g 0 l.length 3,.i .i64 0,.i .i64 0,.b false,.i .i64 0,.i .i64 0]).cells iU)[iU.length]? =some ⟨0,false,.cells 49 [.sl w g 0 l.length 3,.i .i64 0,.i .i64 0,.b false,.i .i64 0,.i .i64 0]⟩:=aG _ _ _
  have x7:Ext iU (au 49 (AV.ag [.sl w g 0 l.length 3,.i .i64 0,.i .i64 0,.b false,.i .i64 0,.i .i64 0]).cells iU):=(Ext.refl iU).new _ _
  have l7:(au 49 (AV.ag [.sl w g 0 l.length 3,.i .i64 0,.i .i64 0,.b false,.i .i64 0,.i .i64 0]).cells iU).length=iU.length+1:=aH _ _ _
  generalize au 49 (AV.ag [.sl w g 0 l.length 3,.i .i64 0,.i .i64 0,.b false,.i .i64 0,.i .i64 0]).cells iU=pO at b7 x7 l7 ⊢
  conv=>whnf
  have b8:(au 52 (AV.ag [.sl0]).cells pO)[pO.length]? =some (rJ .sl0):=aG _ _ _
  have x8:Ext pO (au 52 (AV.ag [.sl0]).cells pO):=(Ext.refl pO).new _ _
  have l8:(au 52 (AV.ag [.sl0]).cells pO).length=pO.length+1:=aH _ _ _
  generalize au 52 (AV.ag [.sl0]).cells pO=Zo at b8 x8 l8 ⊢
  have lx6:=x6.len
  have hlp:=aX b7
  have hpos:0<l.length:=by obtain⟨t0,r0,e0⟩:=he.ne;rw [e0];exact Nat.succ_pos _
  have k8:PO iU.length w g l Zo 0 0 false 0 0:=⟨x8.get b7,x8.get (x7.get (x6.get htok)),by omega,by omega,hpos,by omega⟩
  have f3:Zo[σ.length]? =_:=x8.get (x7.get (x6.get (x4.get b3)))
  have hge:∀σ',cZ iU.length pO.length Zo.length Zo σ'→Ext σ σ':=fun σ' y=>by
   refine⟨by have:=y.len;omega,fun i hi=>?_⟩
   rw [y.old i (by omega) (by omega) (by omega),x8.old i (by omega),x7.old i (by omega),x6.old i (by omega),x4.old i (by omega),x3.old i hi]
  have hg:=Ej (10*l.length+11) l he (Nat.le_refl _)
  conv=>whnf
  refine Pm hno (10*l.length+11) Zo.length σ.length pO.length (by omega) (by omega) (by omega) (by omega) (by omega) [] .sl0 Zo 0 _ _ _ k8 (Nat.le_refl _) b8 ⟨[],.inl ⟨rfl,rfl⟩,trivial⟩ (by rw [List.drop_zero];exact he) (by rw [List.drop_zero];exact Nat.le_refl _) (by rw [List.drop_zero];simp;omega) ?_
  rw [List.drop_zero]
  generalize gB (10*l.length+11) l=r1 at hg hQ
  cases r1 with
  | out=>exact hg.elim
  | bad c l'=>
    have hQ:Q (.tu [.p0,.ag [.i .i64 c,.i .i64 l'],.b true]) σ:=hQ
    intro A GU m9 e' e3 e7 e8 e9 y9 k9 hq9 hA
    have f9:=y9.get (by omega) (by omega) (by omega) f3
    conv=>whnf
    rw [e3]
    conv=>whnf
    rw [e7]
    conv=>whnf
    rw [e8]
    conv=>whnf
    refine ak (aj (T:=kY) rfl rfl (ah (k9.obj)) rfl) ?_
    conv=>whnf
    refine ak (bV (T:=iw) rfl rfl (ah (k9.obj)) (Nat.le_of_ble_eq_true rfl)) ?_
    conv=>whnf
    refine ak (aC (T:=iw) ([.i .i64 c,.i .i64 l']) rfl (f9) rfl rfl (Nat.le_of_ble_eq_true rfl) rfl) ?_
    conv=>whnf
    erw [bV (T:=iw) rfl rfl (ah (at_set f9 _)) (Nat.le_of_ble_eq_true rfl)]
    conv=>whnf
    exact Fin.flat rfl ((hge _ y9).set (by omega) _).take hQ
  | ok fs ts=>
    intro A GU m9 c9 l9 e' e3 e7 e8 e9 y9 k9 BD hq9 ha9
    have f9:=y9.get (by omega) (by omega) (by omega) f3
    conv=>whnf
    rw [e3]
    conv=>whnf
    rw [e7]
    conv=>whnf
    rw [e8]
    conv=>whnf
    refine ak (aj (T:=kY) rfl rfl (ah (k9.obj)) rfl) ?_
    conv=>whnf
    refine ak (aC (T:=iw) ([.i .i64 0,.i .i64 0]) rfl (f9) rfl rfl (Nat.le_of_ble_eq_true rfl) rfl) ?_
    conv=>whnf
    erw [bV (T:=iw) rfl rfl (ah (at_set f9 _)) (Nat.le_of_ble_eq_true rfl)]
    conv=>whnf
    refine Fin.ref rfl (hQ _ _ ((hge _ y9).set (Nat.le_refl _) _) ?_)
    have hA:AP Zo.length GU A fs:=ha9
    obtain⟨cs,q1,q2⟩:=hA
    have q3:gY (fun i=>σ.length≤i) (List.set GU σ.length ⟨0,false,.cells 25 [.i .i64 0,.i .i64 0]⟩) cs fs:=q2.mono (fun i hi=>by omega) (fun i hi a ha=>aK ha (by omega) _)
    refine⟨pO.length,A,by omega,rfl,aK hq9 (by omega) _,?_⟩
    rcases q1 with ⟨rfl,rfl⟩ | ⟨o2,g2,p1,p2,p3,p4⟩
    ·refine .inl ⟨?_,rfl⟩
     cases fs with
     | nil=>rfl
     | cons _ _=>exact q3.elim
    ·exact .inr ⟨o2,g2,cs,by omega,p2,aK p3 (by omega) _,q3,p4⟩
 ·rw [hl] at hQ
  have hQ:Q (.tu [.p0,.ag [.i .i64 e,.i .i64 l],.b true]) σ:=hQ
  conv=>whnf
  refine ak (aC (T:=tC) ([.i .i64 e,.i .i64 l]) rfl (aG _ _ _) rfl rfl (Nat.le_of_ble_eq_true rfl) rfl) ?_
  have x6:Ext σ3 ((au 44 tC.zero.cells σ3).set σ3.length ⟨0,false,.cells 44 [.i .i64 e,.i .i64 l]⟩):=((Ext.refl σ3).new _ _).set (Nat.le_refl _) _
  have b6:((au 44 tC.zero.cells σ3).set σ3.length ⟨0,false,.cells 44 [.i .i64 e,.i .i64 l]⟩)[σ3.length]? =_:=at_set (aG _ _ _) _
  have l6:((au 44 tC.zero.cells σ3).set σ3.length ⟨0,false,.cells 44 [.i .i64 e,.i .i64 l]⟩).length=σ3.length+1:=by rw [List.length_set,aH]
  generalize (au 44 tC.zero.cells σ3).set σ3.length ⟨0,false,.cells 44 [.i .i64 e,.i .i64 l]⟩=iU at b6 x6 l6 ⊢
  conv=>whnf
  have he0:e≠0:=by rcases VP hl with rfl | rfl <;> decide
  refine ak (aj (T:=XL) rfl rfl (ah (b6)) rfl) ?_
  conv=>whnf
  rw [decide_eq_false (by omega)]
  conv=>whnf
  conv=>whnf
  refine ak (aj (T:=XL) rfl rfl (ah (b6)) rfl) ?_
  conv=>whnf
  refine ak (aj (T:=dA) rfl rfl (ah (b6)) rfl) ?_
  conv=>whnf
  refine ak (aC (T:=iw) ([.i .i64 e,.i .i64 l]) rfl (x6.get b3) rfl rfl (Nat.le_of_ble_eq_true rfl) rfl) ?_
  conv=>whnf
  erw [bV (T:=iw) rfl rfl (ah (at_set (x6.get b3) _)) (Nat.le_of_ble_eq_true rfl)]
  conv=>whnf
  exact Fin.flat rfl ((x3.trans x6).set (by omega) _).take hQ
end Go.bG.YtjcicgkencfbgaaGreatDoor
