/- Texts of this claim, joined: Re5, Re6, Re7, Re8. -/
import Derived.Test.YtlkfbfhkcaldlaaGreatDoorM25
import Derived.Test.YtlkfbfhkcaldlaaGreatDoorM18
set_option linter.unusedVariables false
set_option linter.unusedSimpArgs false
namespace Go.Abs.YtlkfbfhkcaldlaaGreatDoor
open Go.Proofs
theorem allT {p w g:Nat} {all:List Tok} (hno:EH all):∀n,WTR p w g all n/\StmtsLawR p w g all n
 | 0=>⟨⟨fun _ _ _ _ _ _ _ _ _ h _=>absurd h (by omega),fun _ _ _ _ _ _ _ _ _ _ h _=>absurd h (by omega),fun _ _ _ _ _ _ _ _ _ h _=>absurd h (by omega)⟩,fun _ _ _ _ _ _ _ _ _ _ _ _ _ _ _ _ h _ _=>absurd h (by omega)⟩
 | n+1=>by
   obtain⟨ih,ihS⟩:=allT (p:=p) (w:=w) (g:=g) hno n
   exact⟨⟨fun d Z m c0 l0 Q h hd he hn hQ=>block_w ihS d Z m c0 l0 Q h hd he hn hQ,fun d line Z m c0 l0 Q h hd he hn hQ=>branch_w (allW hno n).1 ih d line Z m c0 l0 Q h hd he hn hQ,fun d Z m c0 l0 Q h hd he hn hQ=>stmt_w hno ih d Z m c0 l0 Q h hd he hn hQ⟩,stmts_w ih ihS⟩
end Go.Abs.YtlkfbfhkcaldlaaGreatDoor
namespace Go.Abs.YtlkfbfhkcaldlaaGreatDoor
open Go.Proofs
set_option maxRecDepth 4000
section
variable {p w g:Nat} {all:List Tok} {n:Nat}
def PRq (p w g:Nat)(all:List Tok)(B xo:Nat)(nm:List UInt8)(ln:Nat)(Z:St)(d:Nat)(acc:List (List UInt8×Bool))(Q:Out->Env->St->Prop):Re (List (List UInt8×Bool))->Prop
 | .ok xs ts=>∀A' Z' m' c l e',get e' 0= .p p 0 0->get e' 3= .p xo 0 0->get e' 1000000= .u->dO p xo B Z Z'->PO p w g all Z' m' d false c l->all.drop m'= ts->Z'[xo]? =some (AA nm A' false .sl0 ln)->lG B Z' A' (acc ++ xs)->Q (.exit 0) e' Z'
 | .bad c l=>∀A' Z' m' e',get e' 0= .p p 0 0->get e' 3= .p xo 0 0->get e' 1000000= .u->dO p xo B Z Z'->PO p w g all Z' m' d true c l->Z'[xo]? =some (AA nm A' false .sl0 ln)->slP A'->Q (.exit 0) e' Z'
 | .out=>True
def ParsLawR (p w g:Nat)(all:List Tok)(n:Nat):Prop:=∀(d B xo:Nat) (nm:List UInt8) (ln:Nat),p<B->w<B->xo<B->xo≠p->xo≠w->
 ∀ (acc:List (List UInt8×Bool)) (A:AV) (Z:St) (m c0 l0:Nat) (Q:Out->Env->St->Prop),PO p w g all Z m d false c0 l0->B<=Z.length->Z[xo]? =some (AA nm A false .sl0 ln)->lG B Z A acc->aZ (all.drop m)->(all.drop m).length+1<=n->acc.length+(all.drop m).length<=40001->PRq p w g all B xo nm ln Z d acc Q (cZ n acc.isEmpty (all.drop m))->aV X [0,3] c18L0 [(0,.p p 0 0),(3,.p xo 0 0)] Z Q
theorem PO.keepR {m d c l:Nat} {b:Bool} {Z Z':St} (h:PO p w g all Z m d b c l) {B:Nat} (hp:p<B)(hw:w<B)(e:∀i,i<B->Z'[i]? =Z[i]?):PO p w g all Z' m d b c l:=h.keep (e p hp) (e w hw)
theorem PO.aan {m d c l x:Nat} {b:Bool} {s:St} (h:PO p w g all s m d b c l)(h1:x≠p)(h2:x≠w)(b':AO):PO p w g all (s.set x b') m d b c l:=⟨aK h.obj h1 _,aK h.tok h2 _,h.ne,h.len,h.at_,h.dp⟩
theorem lG.three {B:Nat} {Z:St} {v:AV} {l:List (List UInt8×Bool)} (h:lG B Z v l):(l=[]/\(v= .sl0\/∃o g,v= .sl o g 0 0 2))\/∃a l0 o g,l=a :: l0/\v= .sl o g 0 (l0.length+1) 2:=by
 rcases h with ⟨rfl,rfl⟩ | ⟨o,g,_,rfl,_⟩
 ·exact .inl ⟨rfl,.inl rfl⟩
 ·cases l with
  | nil=>exact .inl ⟨rfl,.inr ⟨_,_,rfl⟩⟩
  | cons a l0=>exact .inr ⟨a,l0,o,g,rfl,rfl⟩
theorem aav {m d c l xo:Nat} {Z:St} {Q:Out->Env->St->Prop} (h:PO p w g all Z m d true c l)
 (q:∀e',get e' 0= .p p 0 0->get e' 3= .p xo 0 0->get e' 1000000= .u->Q (.exit 0) e' Z):aV X [0,3] c18L0 [(0,.p p 0 0),(3,.p xo 0 0)] Z Q:=by
 refine aV.round ay (lit:=false) ?_
 conv=>whnf
 refine ak (aj (T:=xH) rfl rfl (ah (h.obj)) rfl) ?_
 conv=>whnf
 exact q _ rfl rfl rfl
theorem pars_w (Xm:ParsLawR p w g all n):ParsLawR p w g all (n+1):=by
 intro d B xo nm ln hp hw JJ hxp hxw acc A Z m c0 l0 Q h hB hx ha he hn hs hQ
 obtain⟨t,r,hts⟩:=he.ne
 obtain⟨ht,hr⟩:=b_ hts
 have hlr:(all.drop m).length=r.length+1:=by rw [hts];rfl
 rw [Oo,hts] at hQ
 have hsl:=ha.sl
 refine aV.round ay (lit:=false) ?_
 conv=>whnf
 refine ak (aj (T:=xH) rfl rfl (ah (h.obj)) rfl) ?_
 conv=>whnf
 refine au.to (aaq _ h ht) ?_
 cases hi:iK [41] t with
 | true=>
   rw [if_pos (show aY [41] (t :: r)=true from hi)] at hQ
   conv=>whnf
   exact hQ A Z m c0 l0 _ rfl rfl rfl ⟨Nat.le_refl _,fun _ _ _ _=>rfl⟩ h hts hx (by rw [List.append_nil];exact ha)
 | false=>
   rw [if_neg (by rw [show aY [41] (t :: r)=iK [41] t from rfl,hi];decide)] at hQ
   have ll:=h.len
   rcases ha.three with hE | ⟨a0,acc0,o0,g0,rfl,rfl⟩
   ·obtain⟨rfl,hE⟩:=hE
    rw [<-hts] at hQ
    have hQ:PRq p w g all B xo nm ln Z d [] Q ((Jg (all.drop m)).bind fun q ts=>(cZ n false ts).bind fun l ts=>.ok (q :: l) ts):=hQ
    have x1:aN p Z Z:=.refl _ _
    rcases hE with rfl | ⟨o0,g0,rfl⟩
    all_goals
        conv=>whnf
        refine ak (aj (T:=qE) rfl rfl (ah (hx)) rfl) ?_
        conv=>whnf
        obtain⟨t1,r1,hts1⟩:=he.ne
        obtain⟨ht1,hr1⟩:=b_ hts1
        have hlr1:(all.drop m).length=r1.length+1:=by rw [hts1];rfl
        unfold Jg at hQ
        rw [hts1] at hQ
        refine name_to h ht1 (fun hk=>uG (by rw [hr1];exact(hts1▸he).tail (by rw [hk];decide))) (fun hk s5 y5' k5=>?_) (fun hk s5 y5' k5=>?_)
        ·have Vp:aZ (all.drop (m+1)):=by rw [hr1];exact(hts1▸he).tail (by rw [hk];decide)
         have hl5:(all.drop (m+1)).length=r1.length:=by rw [hr1]
         have y5:=x1.trans y5'
         obtain⟨t6,r6,kX⟩:=Vp.ne
         obtain⟨Qg,FV⟩:=b_ kX
         have hl6:(all.drop (m+1)).length=r6.length+1:=by rw [kX];rfl
         simp only [fA,if_pos hk] at hQ
         have hQ:PRq p w g all B xo nm ln Z d [] Q ((cZ n false (if aY dA r1=true then r1.tail else r1)).bind fun l ts=>.ok ((t1.s,aY dA r1) :: l) ts):=hQ
         rw [<-hr1,kX] at hQ
         have f5:=y5'.get (by omega) hx
         conv=>whnf
         refine ak (aj (T:=qE) rfl rfl (ah (f5)) rfl) ?_
         conv=>whnf
         refine sW _ k5 Qg (fun _ o_=>?_) (fun o_=>?_)
         ·have hpw:aY dA (t6 :: r6)=true:=o_
          obtain⟨hm6,he6,hle6⟩:=aX Vp kX o_
          have hl7':(all.drop (m+1+1)).length=r6.length:=by rw [FV]
          simp only [hpw,if_true,List.tail_cons] at hQ
          rw [<-FV] at hQ
          have z6:=PO.ext (p:=p) (w:=w) (g:=g) (n:=all.length) (m:=m+1+1) (d:=d) (b:=false) (c:=c0) (l:=l0) (Z:=s5)
          have k6:=k5.set (m':=m+1+1) (d':=d) (b':=false) (c':=c0) (l':=l0) hm6 h.dp
          have f6:=z6.get (by omega) f5
          have y6:=y5.trans z6
          conv=>whnf
          refine⟨?_,?_⟩
          ·conv=>whnf
           refine ak (aj (T:=qE) rfl rfl (ah (f6)) rfl) ?_
           rfl
          conv=>whnf
          refine⟨?_,?_⟩
          ·conv=>whnf
           refine ak (aj (T:=qE) rfl rfl (ah (at_new f6 _ _)) rfl) ?_
           rfl
          conv=>whnf
          have l6:=y6.len
          refine CU (B:=B) (acc:=[]) (ha.keep (Nat.le_refl _) fun i a hi hh=>at_new (y6.get (by omega) hh) _ _) (t1.s,true) (by simp only [bg,bZ] at hs ⊢;omega) (aG _ _ _) (by rw [aH];omega) fun o3 g3 kk3 s7 ha7 hb7 hl7 hk7=>?_
          rw [aH] at hl7
          have f7:s7[xo]? =_:=(hb7 xo (by omega)).trans (at_new f6 _ _)
          have k7:=(k6.new _ _).keepR hp hw hb7
          conv=>whnf
          refine ak (aC (T:=qE) ([.s nm,.sl o3 g3 0 kk3 2,.b false,.sl0,.i .i64 ln]) rfl (f7) rfl rfl (aU rfl) rfl) ?_
          conv=>whnf
          have k8:=k7.aan hxp hxw (AA nm (.sl o3 g3 0 kk3 2) false .sl0 ln)
          have yB:dO p xo B Z (s7.set xo (AA nm (.sl o3 g3 0 kk3 2) false .sl0 ln)):=⟨by rw [gK];omega,fun i hi o_ hix=>by rw [rZ (fun e=>hix e.symm),hb7 i hi,eu (by omega),y6.old i (by omega) o_]⟩
          refine Xm d B xo nm ln hp hw JJ hxp hxw ([] ++ [(t1.s,true)]) _ _ (m+1+1) _ _ Q k8 (by rw [gK];omega) (at_set f7 _) (ha7.keep (Nat.le_refl _) fun i a hi hh=>aK hh (by omega) _) he6 (by omega) (by rw [bM];simp only [bg,bZ] at hs ⊢;omega) ?_
          rw [show ([] ++ [(t1.s,true)]:List (List UInt8×Bool)).isEmpty=false by simp]
          generalize cZ n false (all.drop (m+1+1))=r2 at hQ
          cases r2 with
          | out=>trivial
          | bad c l=>exact fun A4 Z4 m4 e' q0 q3 q9 x4=>hQ A4 Z4 m4 e' q0 q3 q9 (yB.trans x4)
          | ok xs wW=>exact fun A4 Z4 m4 c4 l4 e' q0 q3 q9 x4 h4 hm4 hx4 VB=>hQ A4 Z4 m4 c4 l4 e' q0 q3 q9 (yB.trans x4) h4 hm4 hx4 (by rw [iC] at VB;exact VB)
         ·have hpw:aY dA (t6 :: r6)=false:=by rw [show aY dA (t6 :: r6)=iK [112,116,114] t6 from rfl];simpa using o_
          simp only [hpw,nR,if_false] at hQ
          rw [<-kX] at hQ
          have he6:=Vp
          have k6:=k5
          have f6:=f5
          have y6:=y5
          conv=>whnf
          refine⟨?_,?_⟩
          ·conv=>whnf
           refine ak (aj (T:=qE) rfl rfl (ah (f6)) rfl) ?_
           rfl
          conv=>whnf
          refine⟨?_,?_⟩
          ·conv=>whnf
           refine ak (aj (T:=qE) rfl rfl (ah (at_new f6 _ _)) rfl) ?_
           rfl
          conv=>whnf
          have l6:=y6.len
          refine CU (B:=B) (acc:=[]) (ha.keep (Nat.le_refl _) fun i a hi hh=>at_new (y6.get (by omega) hh) _ _) (t1.s,false) (by simp only [bg,bZ] at hs ⊢;omega) (aG _ _ _) (by rw [aH];omega) fun o3 g3 kk3 s7 ha7 hb7 hl7 hk7=>?_
          rw [aH] at hl7
          have f7:s7[xo]? =_:=(hb7 xo (by omega)).trans (at_new f6 _ _)
          have k7:=(k6.new _ _).keepR hp hw hb7
          conv=>whnf
          refine ak (aC (T:=qE) ([.s nm,.sl o3 g3 0 kk3 2,.b false,.sl0,.i .i64 ln]) rfl (f7) rfl rfl (aU rfl) rfl) ?_
          conv=>whnf
          have k8:=k7.aan hxp hxw (AA nm (.sl o3 g3 0 kk3 2) false .sl0 ln)
          have yB:dO p xo B Z (s7.set xo (AA nm (.sl o3 g3 0 kk3 2) false .sl0 ln)):=⟨by rw [gK];omega,fun i hi o_ hix=>by rw [rZ (fun e=>hix e.symm),hb7 i hi,eu (by omega),y6.old i (by omega) o_]⟩
          refine Xm d B xo nm ln hp hw JJ hxp hxw ([] ++ [(t1.s,false)]) _ _ (m+1) _ _ Q k8 (by rw [gK];omega) (at_set f7 _) (ha7.keep (Nat.le_refl _) fun i a hi hh=>aK hh (by omega) _) he6 (by omega) (by rw [bM];simp only [bg,bZ] at hs ⊢;omega) ?_
          rw [show ([] ++ [(t1.s,false)]:List (List UInt8×Bool)).isEmpty=false by simp]
          generalize cZ n false (all.drop (m+1))=r2 at hQ
          cases r2 with
          | out=>trivial
          | bad c l=>exact fun A4 Z4 m4 e' q0 q3 q9 x4=>hQ A4 Z4 m4 e' q0 q3 q9 (yB.trans x4)
          | ok xs wW=>exact fun A4 Z4 m4 c4 l4 e' q0 q3 q9 x4 h4 hm4 hx4 VB=>hQ A4 Z4 m4 c4 l4 e' q0 q3 q9 (yB.trans x4) h4 hm4 hx4 (by rw [iC] at VB;exact VB)
        ·simp only [fA,if_neg hk] at hQ
         have hQ:PRq p w g all B xo nm ln Z d [] Q (.bad 4 t1.l):=hQ
         have f5:=y5'.get (by omega) hx
         have y5:=x1.trans y5'
         conv=>whnf
         refine ak (aj (T:=qE) rfl rfl (ah (f5)) rfl) ?_
         conv=>whnf
         refine sW _ k5 ht1 (fun e=>by cases e) (fun _=>?_)
         conv=>whnf
         refine⟨?_,?_⟩
         ·conv=>whnf
          refine ak (aj (T:=qE) rfl rfl (ah (f5)) rfl) ?_
          rfl
         conv=>whnf
         refine⟨?_,?_⟩
         ·conv=>whnf
          refine ak (aj (T:=qE) rfl rfl (ah (at_new f5 _ _)) rfl) ?_
          rfl
         conv=>whnf
         have l6:=y5.len
         refine CU (B:=B) (acc:=[]) (ha.keep (Nat.le_refl _) fun i a hi hh=>at_new (y5.get (by omega) hh) _ _) ([],false) (by simp only [bg,bZ] at hs ⊢;omega) (aG _ _ _) (by rw [aH];omega) fun o3 g3 kk3 s7 ha7 hb7 hl7 hk7=>?_
         rw [aH] at hl7
         have f7:s7[xo]? =_:=(hb7 xo (by omega)).trans (at_new f5 _ _)
         have k7:=(k5.new _ _).keepR hp hw hb7
         conv=>whnf
         refine ak (aC (T:=qE) ([.s nm,.sl o3 g3 0 kk3 2,.b false,.sl0,.i .i64 ln]) rfl (f7) rfl rfl (aU rfl) rfl) ?_
         conv=>whnf
         have k8:=k7.aan hxp hxw (AA nm (.sl o3 g3 0 kk3 2) false .sl0 ln)
         have yB:dO p xo B Z (s7.set xo (AA nm (.sl o3 g3 0 kk3 2) false .sl0 ln)):=⟨by rw [gK];omega,fun i hi o_ hix=>by rw [rZ (fun e=>hix e.symm),hb7 i hi,eu (by omega),y5.old i (by omega) o_]⟩
         exact aav k8 fun e' q0 q3 q9=>hQ _ _ _ e' q0 q3 q9 yB k8 (at_set f7 _) (.inr ⟨_,_,_,rfl⟩)
   ·have hQ:PRq p w g all B xo nm ln Z d (a0 :: acc0) Q ((aQ [44] (t :: r)).bind fun _ ts=>(Jg ts).bind fun q ts=>(cZ n false ts).bind fun l ts=>.ok (q :: l) ts):=hQ
    conv=>whnf
    refine ak (aj (T:=qE) rfl rfl (ah (hx)) rfl) ?_
    conv=>whnf
    rw [decide_eq_true (by omega)]
    conv=>whnf
    conv=>whnf
    refine aap _ h ht (fun hi2=>?_) (fun hi2=>?_)
    ·rw [aQ,if_pos (show aY [44] (t :: r)=true from hi2)] at hQ
     have hQ:PRq p w g all B xo nm ln Z d (a0 :: acc0) Q ((Jg r).bind fun q ts=>(cZ n false ts).bind fun l ts=>.ok (q :: l) ts):=hQ
     rw [<-hr] at hQ
     obtain⟨hm2,he2,hle2⟩:=aX he hts hi2
     have z2:=PO.ext (p:=p) (w:=w) (g:=g) (n:=all.length) (m:=m+1) (d:=d) (b:=false) (c:=c0) (l:=l0) (Z:=Z)
     have k2:=h.set (m':=m+1) (d':=d) (b':=false) (c':=c0) (l':=l0) hm2 h.dp
     have f2:=z2.get (by omega) hx
     conv=>whnf
     obtain⟨t1,r1,hts1⟩:=he2.ne
     obtain⟨ht1,hr1⟩:=b_ hts1
     have hlr1:(all.drop (m+1)).length=r1.length+1:=by rw [hts1];rfl
     unfold Jg at hQ
     rw [hts1] at hQ
     refine name_to k2 ht1 (fun hk=>uG (by rw [hr1];exact(hts1▸he2).tail (by rw [hk];decide))) (fun hk s5 y5' k5=>?_) (fun hk s5 y5' k5=>?_)
     ·have Vp:aZ (all.drop ((m+1)+1)):=by rw [hr1];exact(hts1▸he2).tail (by rw [hk];decide)
      have hl5:(all.drop ((m+1)+1)).length=r1.length:=by rw [hr1]
      have y5:=z2.trans y5'
      obtain⟨t6,r6,kX⟩:=Vp.ne
      obtain⟨Qg,FV⟩:=b_ kX
      have hl6:(all.drop ((m+1)+1)).length=r6.length+1:=by rw [kX];rfl
      simp only [fA,if_pos hk] at hQ
      have hQ:PRq p w g all B xo nm ln Z d (a0 :: acc0) Q ((cZ n false (if aY dA r1=true then r1.tail else r1)).bind fun l ts=>.ok ((t1.s,aY dA r1) :: l) ts):=hQ
      rw [<-hr1,kX] at hQ
      have f5:=y5'.get (by omega) f2
      conv=>whnf
      refine ak (aj (T:=qE) rfl rfl (ah (f5)) rfl) ?_
      conv=>whnf
      refine sW _ k5 Qg (fun _ o_=>?_) (fun o_=>?_)
      ·have hpw:aY dA (t6 :: r6)=true:=o_
       obtain⟨hm6,he6,hle6⟩:=aX Vp kX o_
       have hl7':(all.drop ((m+1)+1+1)).length=r6.length:=by rw [FV]
       simp only [hpw,if_true,List.tail_cons] at hQ
       rw [<-FV] at hQ
       have z6:=PO.ext (p:=p) (w:=w) (g:=g) (n:=all.length) (m:=(m+1)+1+1) (d:=d) (b:=false) (c:=c0) (l:=l0) (Z:=s5)
       have k6:=k5.set (m':=(m+1)+1+1) (d':=d) (b':=false) (c':=c0) (l':=l0) hm6 h.dp
       have f6:=z6.get (by omega) f5
       have y6:=y5.trans z6
       conv=>whnf
       refine⟨?_,?_⟩
       ·conv=>whnf
        refine ak (aj (T:=qE) rfl rfl (ah (f6)) rfl) ?_
        rfl
       conv=>whnf
       refine⟨?_,?_⟩
       ·conv=>whnf
        refine ak (aj (T:=qE) rfl rfl (ah (at_new f6 _ _)) rfl) ?_
        rfl
       conv=>whnf
       have l6:=y6.len
       refine CU (B:=B) (acc:=(a0 :: acc0)) (ha.keep (Nat.le_refl _) fun i a hi hh=>at_new (y6.get (by omega) hh) _ _) (t1.s,true) (by simp only [bg,bZ] at hs ⊢;omega) (aG _ _ _) (by rw [aH];omega) fun o3 g3 kk3 s7 ha7 hb7 hl7 hk7=>?_
       rw [aH] at hl7
       have f7:s7[xo]? =_:=(hb7 xo (by omega)).trans (at_new f6 _ _)
       have k7:=(k6.new _ _).keepR hp hw hb7
       conv=>whnf
       refine ak (aC (T:=qE) ([.s nm,.sl o3 g3 0 kk3 2,.b false,.sl0,.i .i64 ln]) rfl (f7) rfl rfl (aU rfl) rfl) ?_
       conv=>whnf
       have k8:=k7.aan hxp hxw (AA nm (.sl o3 g3 0 kk3 2) false .sl0 ln)
       have yB:dO p xo B Z (s7.set xo (AA nm (.sl o3 g3 0 kk3 2) false .sl0 ln)):=⟨by rw [gK];omega,fun i hi o_ hix=>by rw [rZ (fun e=>hix e.symm),hb7 i hi,eu (by omega),y6.old i (by omega) o_]⟩
       refine Xm d B xo nm ln hp hw JJ hxp hxw ((a0 :: acc0) ++ [(t1.s,true)]) _ _ ((m+1)+1+1) _ _ Q k8 (by rw [gK];omega) (at_set f7 _) (ha7.keep (Nat.le_refl _) fun i a hi hh=>aK hh (by omega) _) he6 (by omega) (by rw [bM];simp only [bg,bZ] at hs ⊢;omega) ?_
       rw [show ((a0 :: acc0) ++ [(t1.s,true)]:List (List UInt8×Bool)).isEmpty=false by simp]
       generalize cZ n false (all.drop ((m+1)+1+1))=r2 at hQ
       cases r2 with
       | out=>trivial
       | bad c l=>exact fun A4 Z4 m4 e' q0 q3 q9 x4=>hQ A4 Z4 m4 e' q0 q3 q9 (yB.trans x4)
       | ok xs wW=>exact fun A4 Z4 m4 c4 l4 e' q0 q3 q9 x4 h4 hm4 hx4 VB=>hQ A4 Z4 m4 c4 l4 e' q0 q3 q9 (yB.trans x4) h4 hm4 hx4 (by rw [iC] at VB;exact VB)
      ·have hpw:aY dA (t6 :: r6)=false:=by rw [show aY dA (t6 :: r6)=iK [112,116,114] t6 from rfl];simpa using o_
       simp only [hpw,nR,if_false] at hQ
       rw [<-kX] at hQ
       have he6:=Vp
       have k6:=k5
       have f6:=f5
       have y6:=y5
       conv=>whnf
       refine⟨?_,?_⟩
       ·conv=>whnf
        refine ak (aj (T:=qE) rfl rfl (ah (f6)) rfl) ?_
        rfl
       conv=>whnf
       refine⟨?_,?_⟩
       ·conv=>whnf
        refine ak (aj (T:=qE) rfl rfl (ah (at_new f6 _ _)) rfl) ?_
        rfl
       conv=>whnf
       have l6:=y6.len
       refine CU (B:=B) (acc:=(a0 :: acc0)) (ha.keep (Nat.le_refl _) fun i a hi hh=>at_new (y6.get (by omega) hh) _ _) (t1.s,false) (by simp only [bg,bZ] at hs ⊢;omega) (aG _ _ _) (by rw [aH];omega) fun o3 g3 kk3 s7 ha7 hb7 hl7 hk7=>?_
       rw [aH] at hl7
       have f7:s7[xo]? =_:=(hb7 xo (by omega)).trans (at_new f6 _ _)
       have k7:=(k6.new _ _).keepR hp hw hb7
       conv=>whnf
       refine ak (aC (T:=qE) ([.s nm,.sl o3 g3 0 kk3 2,.b false,.sl0,.i .i64 ln]) rfl (f7) rfl rfl (aU rfl) rfl) ?_
       conv=>whnf
       have k8:=k7.aan hxp hxw (AA nm (.sl o3 g3 0 kk3 2) false .sl0 ln)
       have yB:dO p xo B Z (s7.set xo (AA nm (.sl o3 g3 0 kk3 2) false .sl0 ln)):=⟨by rw [gK];omega,fun i hi o_ hix=>by rw [rZ (fun e=>hix e.symm),hb7 i hi,eu (by omega),y6.old i (by omega) o_]⟩
       refine Xm d B xo nm ln hp hw JJ hxp hxw ((a0 :: acc0) ++ [(t1.s,false)]) _ _ ((m+1)+1) _ _ Q k8 (by rw [gK];omega) (at_set f7 _) (ha7.keep (Nat.le_refl _) fun i a hi hh=>aK hh (by omega) _) he6 (by omega) (by rw [bM];simp only [bg,bZ] at hs ⊢;omega) ?_
       rw [show ((a0 :: acc0) ++ [(t1.s,false)]:List (List UInt8×Bool)).isEmpty=false by simp]
       generalize cZ n false (all.drop ((m+1)+1))=r2 at hQ
       cases r2 with
       | out=>trivial
       | bad c l=>exact fun A4 Z4 m4 e' q0 q3 q9 x4=>hQ A4 Z4 m4 e' q0 q3 q9 (yB.trans x4)
       | ok xs wW=>exact fun A4 Z4 m4 c4 l4 e' q0 q3 q9 x4 h4 hm4 hx4 VB=>hQ A4 Z4 m4 c4 l4 e' q0 q3 q9 (yB.trans x4) h4 hm4 hx4 (by rw [iC] at VB;exact VB)
     ·simp only [fA,if_neg hk] at hQ
      have hQ:PRq p w g all B xo nm ln Z d (a0 :: acc0) Q (.bad 4 t1.l):=hQ
      have f5:=y5'.get (by omega) f2
      have y5:=z2.trans y5'
      conv=>whnf
      refine ak (aj (T:=qE) rfl rfl (ah (f5)) rfl) ?_
      conv=>whnf
      refine sW _ k5 ht1 (fun e=>by cases e) (fun _=>?_)
      conv=>whnf
      refine⟨?_,?_⟩
      ·conv=>whnf
       refine ak (aj (T:=qE) rfl rfl (ah (f5)) rfl) ?_
       rfl
      conv=>whnf
      refine⟨?_,?_⟩
      ·conv=>whnf
       refine ak (aj (T:=qE) rfl rfl (ah (at_new f5 _ _)) rfl) ?_
       rfl
      conv=>whnf
      have l6:=y5.len
      refine CU (B:=B) (acc:=(a0 :: acc0)) (ha.keep (Nat.le_refl _) fun i a hi hh=>at_new (y5.get (by omega) hh) _ _) ([],false) (by simp only [bg,bZ] at hs ⊢;omega) (aG _ _ _) (by rw [aH];omega) fun o3 g3 kk3 s7 ha7 hb7 hl7 hk7=>?_
      rw [aH] at hl7
      have f7:s7[xo]? =_:=(hb7 xo (by omega)).trans (at_new f5 _ _)
      have k7:=(k5.new _ _).keepR hp hw hb7
      conv=>whnf
      refine ak (aC (T:=qE) ([.s nm,.sl o3 g3 0 kk3 2,.b false,.sl0,.i .i64 ln]) rfl (f7) rfl rfl (aU rfl) rfl) ?_
      conv=>whnf
      have k8:=k7.aan hxp hxw (AA nm (.sl o3 g3 0 kk3 2) false .sl0 ln)
      have yB:dO p xo B Z (s7.set xo (AA nm (.sl o3 g3 0 kk3 2) false .sl0 ln)):=⟨by rw [gK];omega,fun i hi o_ hix=>by rw [rZ (fun e=>hix e.symm),hb7 i hi,eu (by omega),y5.old i (by omega) o_]⟩
      exact aav k8 fun e' q0 q3 q9=>hQ _ _ _ e' q0 q3 q9 yB k8 (at_set f7 _) (.inr ⟨_,_,_,rfl⟩)
    ·rw [aQ,if_neg (by rw [show aY [44] (t :: r)=iK [44] t from rfl,hi2];decide)] at hQ
     have hQ:PRq p w g all B xo nm ln Z d (a0 :: acc0) Q (.bad 4 t.l):=hQ
     have z5:=PO.ext (p:=p) (w:=w) (g:=g) (n:=all.length) (m:=m) (d:=d) (b:=true) (c:=4) (l:=t.l) (Z:=Z)
     have k5:=h.set (m':=m) (d':=d) (b':=true) (c':=4) (l':=t.l) h.at_ h.dp
     have f5:=z5.get (by omega) hx
     conv=>whnf
     refine name_bad k5 ht ?_
     conv=>whnf
     refine ak (aj (T:=qE) rfl rfl (ah (f5)) rfl) ?_
     conv=>whnf
     refine sW _ k5 ht (fun e=>by cases e) (fun _=>?_)
     conv=>whnf
     refine⟨?_,?_⟩
     ·conv=>whnf
      refine ak (aj (T:=qE) rfl rfl (ah (f5)) rfl) ?_
      rfl
     conv=>whnf
     refine⟨?_,?_⟩
     ·conv=>whnf
      refine ak (aj (T:=qE) rfl rfl (ah (at_new f5 _ _)) rfl) ?_
      rfl
     conv=>whnf
     have l6:=z5.len
     refine CU (B:=B) (acc:=(a0 :: acc0)) (ha.keep (Nat.le_refl _) fun i a hi hh=>at_new (z5.get (by omega) hh) _ _) ([],false) (by simp only [bg,bZ] at hs ⊢;omega) (aG _ _ _) (by rw [aH];omega) fun o3 g3 kk3 s7 ha7 hb7 hl7 hk7=>?_
     rw [aH] at hl7
     have f7:s7[xo]? =_:=(hb7 xo (by omega)).trans (at_new f5 _ _)
     have k7:=(k5.new _ _).keepR hp hw hb7
     conv=>whnf
     refine ak (aC (T:=qE) ([.s nm,.sl o3 g3 0 kk3 2,.b false,.sl0,.i .i64 ln]) rfl (f7) rfl rfl (aU rfl) rfl) ?_
     conv=>whnf
     have k8:=k7.aan hxp hxw (AA nm (.sl o3 g3 0 kk3 2) false .sl0 ln)
     have yB:dO p xo B Z (s7.set xo (AA nm (.sl o3 g3 0 kk3 2) false .sl0 ln)):=⟨by rw [gK];omega,fun i hi o_ hix=>by rw [rZ (fun e=>hix e.symm),hb7 i hi,eu (by omega),z5.old i (by omega) o_]⟩
     exact aav k8 fun e' q0 q3 q9=>hQ _ _ _ e' q0 q3 q9 yB k8 (at_set f7 _) (.inr ⟨_,_,_,rfl⟩)
end
end Go.Abs.YtlkfbfhkcaldlaaGreatDoor
namespace Go.Abs.YtlkfbfhkcaldlaaGreatDoor
open Go.Proofs
set_option maxRecDepth 4000
section
variable {p w g:Nat} {all:List Tok} {n:Nat}
theorem allParsR:∀n,ParsLawR p w g all n
 | 0=>fun _ _ _ _ _ _ _ _ _ _ _ _ _ _ _ _ _ _ _ _ _ _ h _ _=>absurd h (by omega)
 | n+1=>pars_w (allParsR n)
def QFn (p w g:Nat)(all:List Tok)(Z:St)(Q:AV->St->Prop):Re Fm->Prop
 | .ok f ts=>∀o Z' m' c l,aN p Z Z'->PO p w g all Z' m' 0 false c l->all.drop m'= ts->pz (fun i=>Z.length<=i) Z' (.p o 0 0) f->Q (.p o 0 0) Z'
 | .bad c l=>∀o Z' m',aN p Z Z'->PO p w g all Z' m' 0 true c l->Q (.p o 0 0) Z'
 | .out=>True
theorem dO.toP {p x:Nat} {Z s s':St} (h:aN p Z s)(k:dO p x s.length s s')(hx:Z.length<=x):aN p Z s':=⟨Nat.le_trans h.len k.len,fun i hi o_=>by rw [k.old i (Nat.lt_of_lt_of_le hi h.len) o_ (by omega),h.old i hi o_]⟩
set_option maxHeartbeats 4000000 in
theorem function_w (hno:EH all)(Z:St)(m c0 l0:Nat)(Q:AV->St->Prop)(h:PO p w g all Z m 0 false c0 l0)(he:aZ (all.drop m))(hn:10*(all.drop m).length+10<=n)(hQ:QFn p w g all Z Q (kH n (all.drop m))):au X 18 [.p p 0 0] Z Q:=by
 obtain⟨t,r,hts⟩:=he.ne
 obtain⟨ht,hr⟩:=b_ hts
 have hpl:=bK h.obj
 have hwl:=bK h.tok
 have hal:=h.len
 have hlr:(all.drop m).length=r.length+1:=by rw [hts];rfl
 unfold kH at hQ
 rw [hts] at hQ
 have hQ:QFn p w g all Z Q ((aQ pV (t :: r)).bind fun _ bI=>(fA bI).bind fun nm bI=>(gV [40] 0 bI).bind fun _ bI=>(cZ n true bI).bind fun ps bI=>(aQ [41] bI).bind fun _ bI=>fnR n t.l nm ps bI):=hQ
 refine au.body (F:=F18) ay (lit:=false) rfl rfl (aU rfl) ?_
 conv=>whnf
 refine au.to (aao h ht) ?_
 conv=>whnf
 have b1:(newCells 69 (AV.ag [.s [],.sl0,.b false,.sl0,.i .i64 t.l]).cells Z)[Z.length]? =some ⟨0,false,.cells 69 [.s [],.sl0,.b false,.sl0,.i .i64 t.l]⟩:=aG _ _ _
 have x1:Ext Z (newCells 69 (AV.ag [.s [],.sl0,.b false,.sl0,.i .i64 t.l]).cells Z):=(Ext.refl Z).new _ _
 have l1:(newCells 69 (AV.ag [.s [],.sl0,.b false,.sl0,.i .i64 t.l]).cells Z).length=Z.length+1:=aH _ _ _
 generalize newCells 69 (AV.ag [.s [],.sl0,.b false,.sl0,.i .i64 t.l]).cells Z=Z1 at b1 x1 l1 ⊢
 have b1:Z1[Z.length]? =some (AA [] .sl0 false .sl0 t.l):=b1
 have k1:=h.toExt x1
 have y1:aN p Z Z1:=aN.of x1
 have hXp:Z.length≠p:=by omega
 have hXw:Z.length≠w:=by omega
 conv=>whnf
 refine aap _ k1 ht (fun hi=>?_) (fun hi=>?_)
 ·rw [aQ,if_pos (show aY pV (t :: r)=true from hi)] at hQ
  have hQ:QFn p w g all Z Q ((fA r).bind fun nm bI=>(gV [40] 0 bI).bind fun _ bI=>(cZ n true bI).bind fun ps bI=>(aQ [41] bI).bind fun _ bI=>fnR n t.l nm ps bI):=hQ
  obtain⟨hm2,he2,hle2⟩:=aX he hts hi
  have z2:=PO.ext (p:=p) (w:=w) (g:=g) (n:=all.length) (m:=m+1) (d:=0) (b:=false) (c:=c0) (l:=l0) (Z:=Z1)
  have k2:=k1.set (m':=m+1) (d':=0) (b':=false) (c':=c0) (l':=l0) hm2 (by omega)
  have f2:=z2.get (by omega) b1
  have y2:=y1.trans z2
  rw [<-hr] at hQ
  obtain⟨t3,r3,FT⟩:=he2.ne
  obtain⟨ht3,hr3⟩:=b_ FT
  have hlr3:(all.drop (m+1)).length=r3.length+1:=by rw [FT];rfl
  rw [FT] at hQ
  conv=>whnf
  refine name_to k2 ht3 (fun hk=>uG (by rw [hr3];exact(FT▸he2).tail (by rw [hk];decide))) (fun hk s3 y3' k3=>?_) (fun hk s3 y3' k3=>?_)
  ·have he3:aZ (all.drop (m+1+1)):=by rw [hr3];exact(FT▸he2).tail (by rw [hk];decide)
   rw [fA,if_pos hk] at hQ
   have hQ:QFn p w g all Z Q ((gV [40] 0 r3).bind fun _ bI=>(cZ n true bI).bind fun ps bI=>(aQ [41] bI).bind fun _ bI=>fnR n t.l t3.s ps bI):=hQ
   have f3:=y3'.get (by omega) f2
   have y3:=y2.trans y3'
   conv=>whnf
   refine ak (aC (T:=fB) ([.s t3.s,.sl0,.b false,.sl0,.i .i64 t.l]) rfl (f3) rfl rfl (aU rfl) rfl) ?_
   conv=>whnf
   have k4:=k3.aan hXp hXw (AA t3.s .sl0 false .sl0 t.l)
   have f4:(_:St)[Z.length]? =_:=at_set f3 (AA t3.s .sl0 false .sl0 t.l)
   have y4:aN p Z _:=y3.set (o:=Z.length) (Nat.le_refl _) (AA t3.s .sl0 false .sl0 t.l)
   obtain⟨t5,r5,hts5⟩:=he3.ne
   obtain⟨ht5,hr5⟩:=b_ hts5
   have hlr5:(all.drop (m+1+1)).length=r5.length+1:=by rw [hts5];rfl
   have hlr35:(all.drop (m+1+1)).length=r3.length:=by rw [hr3]
   unfold gV at hQ
   rw [<-hr3,hts5] at hQ
   conv=>whnf
   refine open_to [40] k4 ht5 (by omega) (fun hi=>(aX he3 hts5 hi).1) (fun hi5 h64=>?_) (fun hi5 h64=>absurd h64 (by omega)) (fun hi5=>?_)
   ·obtain⟨hm6,he6,hle6⟩:=aX he3 hts5 hi5
    rw [if_neg (by omega),aQ,if_pos (show aY [40] (t5 :: r5)=true from hi5)] at hQ
    have hQ:QFn p w g all Z Q ((cZ n true r5).bind fun ps bI=>(aQ [41] bI).bind fun _ bI=>fnR n t.l t3.s ps bI):=hQ
    rw [<-hr5] at hQ
    have k6:=k4.set (m':=m+1+1+1) (d':=1) (b':=false) (c':=c0) (l':=l0) hm6 (by omega)
    have f6:=aN.get (PO.ext (p:=p) (w:=w) (g:=g) (n:=all.length) (m:=m+1+1+1) (d:=1) (b:=false) (c:=c0) (l:=l0)) (by omega) f4
    have y6:=y4.trans (PO.ext (p:=p) (w:=w) (g:=g) (n:=all.length) (m:=m+1+1+1) (d:=1) (b:=false) (c:=c0) (l:=l0))
    have l6:=bK f6
    have hg:=vM n true (all.drop (m+1+1+1)) he6 (by omega)
    conv=>whnf
    refine allParsR n 1 _ Z.length t3.s t.l (Nat.lt_trans hpl l6) (Nat.lt_trans hwl l6) l6 hXp hXw [] .sl0 _ (m+1+1+1) _ _ _ k6 (Nat.le_refl _) f6 (.inl ⟨rfl,rfl⟩) he6 (by omega) (by simp only [bZ,pF];omega) ?_
    show PRq _ _ _ _ _ _ _ _ _ _ _ _ (cZ n true (all.drop (m+1+1+1)))
    generalize cZ n true (all.drop (m+1+1+1))=re at hg hQ
    cases re with
    | out=>exact hg.elim
    | bad c l=>
      have hQ:QFn p w g all Z Q (.bad c l):=hQ
      intro A s8 m8 e' e0 e3 e9 x8 k8 f8 hA
      obtain⟨t8,ht8⟩:=next_at k8
      have y8:=dO.toP y6 x8 (Nat.le_refl _)
      conv=>whnf
      rw [show Opd.ev e' (.t 0)=get e' 0 from rfl,e0]
      conv=>whnf
      refine aam _ k8 ht8 ?_
      have k55:=k8.set (m':=m8) (d':=0) (b':=true) (c':=c) (l':=l) k8.at_ (by omega)
      have f55:=aN.get (PO.ext (p:=p) (w:=w) (g:=g) (n:=all.length) (m:=m8) (d:=0) (b:=true) (c:=c) (l:=l)) (by omega) f8
      have y55:=y8.trans (PO.ext (p:=p) (w:=w) (g:=g) (n:=all.length) (m:=m8) (d:=0) (b:=true) (c:=c) (l:=l))
      conv=>whnf
      erw [show get (put (some 53) (.tu []) (put (some 52) (.p p 0 0) e')) 0= .p p 0 0 from e0]
      conv=>whnf
      erw [show get (put (some 53) (.tu []) (put (some 52) (.p p 0 0) e')) 3= .p Z.length 0 0 from e3]
      conv=>whnf
      refine sW _ k55 ht8 (fun e=>by cases e) (fun _=>?_)
      conv=>whnf
      refine ak (aC (T:=xH) ([.s t3.s,A,.b false,.sl0,.i .i64 t.l]) rfl (f55) rfl rfl (aU rfl) rfl) ?_
      conv=>whnf
      have k66:=k55.aan hXp hXw (AA t3.s A false .sl0 t.l)
      have f66:(_:St)[Z.length]? =_:=at_set f55 (AA t3.s A false .sl0 t.l)
      have y66:aN p Z _:=y55.set (o:=Z.length) (Nat.le_refl _) (AA t3.s A false .sl0 t.l)
      conv=>whnf
      refine aat k66 ht8 (by omega) fun s7 y7' k7'=>?_
      have f7':=y7'.get (by omega) f66
      conv=>whnf
      refine ak (aC (T:=dL) ([.s t3.s,A,.b false,.sl0,.i .i64 t.l]) rfl (f7') rfl rfl (aU rfl) rfl) ?_
      conv=>whnf
      exact Fin.ref rfl (hQ _ _ _ ((y66.trans y7').set (o:=Z.length) (Nat.le_refl _) (AA t3.s A false .sl0 t.l)) (k7'.aan hXp hXw (AA t3.s A false .sl0 t.l)))
    | ok ps bI=>
      have hQ:QFn p w g all Z Q ((aQ [41] bI).bind fun _ bI=>fnR n t.l t3.s ps bI):=hQ
      intro A s8 m8 c8 l8 e' e0 e3 e9 x8 k8 hm8 f8 hA
      have y8:=dO.toP y6 x8 (Nat.le_refl _)
      have he8:aZ (all.drop m8):=by rw [hm8];exact hg.2.1
      have hlg:=hg.2.2
      rw [<-hm8] at hQ hlg
      obtain⟨t9,r9,hts9⟩:=he8.ne
      obtain⟨ht9,hr9⟩:=b_ hts9
      have hlr9:(all.drop m8).length=r9.length+1:=by rw [hts9];rfl
      rw [hts9] at hQ
      conv=>whnf
      rw [show Opd.ev e' (.t 0)=get e' 0 from rfl,e0]
      conv=>whnf
      refine shut_to _ k8 ht9 (fun hi9=>(aX he8 hts9 hi9).1) (fun hi9=>?_) (fun hi9=>?_)
      ·obtain⟨hm10,he10,hle10⟩:=aX he8 hts9 hi9
       rw [aQ,if_pos (show aY [41] (t9 :: r9)=true from hi9)] at hQ
       have hQ:QFn p w g all Z Q (fnR n t.l t3.s ps r9):=hQ
       rw [<-hr9] at hQ
       have k10:=k8.set (m':=m8+1) (d':=0) (b':=false) (c':=c8) (l':=l8) hm10 (by omega)
       have f10:=aN.get (PO.ext (p:=p) (w:=w) (g:=g) (n:=all.length) (m:=m8+1) (d:=0) (b:=false) (c:=c8) (l:=l8)) (by omega) f8
       have z10:=PO.ext (p:=p) (w:=w) (g:=g) (n:=all.length) (m:=m8+1) (d:=0) (b:=false) (c:=c8) (l:=l8) (Z:=s8)
       have CV:=y8.trans z10
       have ha10:lG (Z.length+1) (V3 p w g all.length s8 (m8+1) 0 false c8 l8) A ps:=hA.keep (by omega) fun i a hi hh=>z10.get (by omega) hh
       obtain⟨t11,r11,hts11⟩:=he10.ne
       obtain⟨ht11,hr11⟩:=b_ hts11
       have hlr11:(all.drop (m8+1)).length=r11.length+1:=by rw [hts11];rfl
       conv=>whnf
       erw [show get (put (some 53) (.tu []) (put (some 52) (.p p 0 0) e')) 0= .p p 0 0 from e0]
       conv=>whnf
       erw [show get (put (some 53) (.tu []) (put (some 52) (.p p 0 0) e')) 3= .p Z.length 0 0 from e3]
       conv=>whnf
       refine sW _ k10 ht11 (fun _ o_=>?_) (fun o_=>?_)
       ·have hpw:aY dA (t11 :: r11)=true:=o_
        obtain⟨hm12,he12,hle12⟩:=aX he10 hts11 o_
        have hl12:(all.drop (m8+1+1)).length=r11.length:=by rw [hr11]
        unfold fnR at hQ
        rw [hts11] at hQ
        simp only [hpw,if_true,List.tail_cons] at hQ
        rw [<-hr11] at hQ
        have z12:=PO.ext (p:=p) (w:=w) (g:=g) (n:=all.length) (m:=m8+1+1) (d:=0) (b:=false) (c:=c8) (l:=l8) (Z:=V3 p w g all.length s8 (m8+1) 0 false c8 l8)
        have k12:=k10.set (m':=m8+1+1) (d':=0) (b':=false) (c':=c8) (l':=l8) hm12 (by omega)
        have f12:=z12.get (by omega) f10
        have y12:=CV.trans z12
        have ha12:=ha10.keep (Nat.le_refl _) fun i a hi hh=>z12.get (by omega) hh
        conv=>whnf
        refine ak (aC (T:=xH) ([.s t3.s,A,.b true,.sl0,.i .i64 t.l]) rfl (f12) rfl rfl (aU rfl) rfl) ?_
        conv=>whnf
        have k13:=k12.aan hXp hXw (AA t3.s A true .sl0 t.l)
        have f13:(_:St)[Z.length]? =_:=at_set f12 (AA t3.s A true .sl0 t.l)
        have y13:aN p Z _:=y12.set (o:=Z.length) (Nat.le_refl _) (AA t3.s A true .sl0 t.l)
        have ha13:=ha12.keep (Z':=List.set _ Z.length (AA t3.s A true .sl0 t.l)) (Nat.le_refl _) fun i a hi hh=>aK hh (by omega) _
        have l13:=bK f13
        have hgb:=(FN n).block 0 (all.drop (m8+1+1)) he12 (by omega)
        conv=>whnf
        refine(allT hno n).1.block 0 _ (m8+1+1) _ _ _ k13 (by omega) he12 (by omega) ?_
        generalize dD n 0 (all.drop (m8+1+1))=rb at hgb hQ
        cases rb with
        | out=>exact hgb.elim
        | bad c l=>
          have hQ:QFn p w g all Z Q (.bad c l):=hQ
          intro Bd s14 m14 y14 k14 hBd
          have f14:=y14.get (by omega) f13
          refine dJ _ _ ?_
          conv=>whnf
          refine ak (ji (T:=dL) [.s t3.s,A,.b true,Bd,.i .i64 t.l] hBd rfl rfl f14 (aU rfl) rfl) ?_
          conv=>whnf
          exact Fin.ref rfl (hQ _ _ _ ((y13.trans y14).set (o:=Z.length) (Nat.le_refl _) (AA t3.s A true Bd t.l)) (k14.aan hXp hXw (AA t3.s A true Bd t.l)))
        | ok bd dM=>
          have hQ:QFn p w g all Z Q (.ok ⟨t3.s,ps,true,bd,t.l⟩ dM):=hQ
          intro Bd s14 m14 c14 l14 y14 k14 hm14 hbd hBd
          have f14:=y14.get (by omega) f13
          have l14':=y14.len
          refine dJ _ _ ?_
          conv=>whnf
          refine ak (ji (T:=dL) [.s t3.s,A,.b true,Bd,.i .i64 t.l] hBd rfl rfl f14 (aU rfl) rfl) ?_
          conv=>whnf
          refine Fin.ref rfl (hQ _ _ _ _ _ ((y13.trans y14).set (o:=Z.length) (Nat.le_refl _) (AA t3.s A true Bd t.l)) (k14.aan hXp hXw (AA t3.s A true Bd t.l)) hm14 ⟨Z.length,A,Bd,Nat.le_refl _,rfl,at_set f14 _,?_,?_⟩)
          ·rcases ha13 with ⟨q1,q2⟩ | ⟨o2,g2,q1,q2,q3⟩
           ·exact .inl ⟨q1,q2⟩
           ·exact .inr ⟨o2,g2,by omega,q2,aK (y14.get (by omega) q3) (by omega) _⟩
          ·exact dX.mono (fun i hi=>by first | omega | (simp only [gK,dW] at *;omega)) (fun i hi a ha=>aK ha (by first | omega | (simp only [gK,dW] at *;omega)) _) hbd
       ·have hpw:aY dA (t11 :: r11)=false:=by rw [show aY dA (t11 :: r11)=iK [112,116,114] t11 from rfl];simpa using o_
        unfold fnR at hQ
        rw [hts11] at hQ
        simp only [hpw,nR,if_false] at hQ
        rw [<-hts11] at hQ
        have he12:=he10
        have k12:=k10
        have f12:=f10
        have y12:=CV
        have ha12:=ha10
        conv=>whnf
        refine ak (aC (T:=xH) ([.s t3.s,A,.b false,.sl0,.i .i64 t.l]) rfl (f12) rfl rfl (aU rfl) rfl) ?_
        conv=>whnf
        have k13:=k12.aan hXp hXw (AA t3.s A false .sl0 t.l)
        have f13:(_:St)[Z.length]? =_:=at_set f12 (AA t3.s A false .sl0 t.l)
        have y13:aN p Z _:=y12.set (o:=Z.length) (Nat.le_refl _) (AA t3.s A false .sl0 t.l)
        have ha13:=ha12.keep (Z':=List.set _ Z.length (AA t3.s A false .sl0 t.l)) (Nat.le_refl _) fun i a hi hh=>aK hh (by omega) _
        have l13:=bK f13
        have hgb:=(FN n).block 0 (all.drop (m8+1)) he12 (by omega)
        conv=>whnf
        refine(allT hno n).1.block 0 _ (m8+1) _ _ _ k13 (by omega) he12 (by omega) ?_
        generalize dD n 0 (all.drop (m8+1))=rb at hgb hQ
        cases rb with
        | out=>exact hgb.elim
        | bad c l=>
          have hQ:QFn p w g all Z Q (.bad c l):=hQ
          intro Bd s14 m14 y14 k14 hBd
          have f14:=y14.get (by omega) f13
          refine dJ _ _ ?_
          conv=>whnf
          refine ak (ji (T:=dL) [.s t3.s,A,.b false,Bd,.i .i64 t.l] hBd rfl rfl f14 (aU rfl) rfl) ?_
          conv=>whnf
          exact Fin.ref rfl (hQ _ _ _ ((y13.trans y14).set (o:=Z.length) (Nat.le_refl _) (AA t3.s A false Bd t.l)) (k14.aan hXp hXw (AA t3.s A false Bd t.l)))
        | ok bd dM=>
          have hQ:QFn p w g all Z Q (.ok ⟨t3.s,ps,false,bd,t.l⟩ dM):=hQ
          intro Bd s14 m14 c14 l14 y14 k14 hm14 hbd hBd
          have f14:=y14.get (by omega) f13
          have l14':=y14.len
          refine dJ _ _ ?_
          conv=>whnf
          refine ak (ji (T:=dL) [.s t3.s,A,.b false,Bd,.i .i64 t.l] hBd rfl rfl f14 (aU rfl) rfl) ?_
          conv=>whnf
          refine Fin.ref rfl (hQ _ _ _ _ _ ((y13.trans y14).set (o:=Z.length) (Nat.le_refl _) (AA t3.s A false Bd t.l)) (k14.aan hXp hXw (AA t3.s A false Bd t.l)) hm14 ⟨Z.length,A,Bd,Nat.le_refl _,rfl,at_set f14 _,?_,?_⟩)
          ·rcases ha13 with ⟨q1,q2⟩ | ⟨o2,g2,q1,q2,q3⟩
           ·exact .inl ⟨q1,q2⟩
           ·exact .inr ⟨o2,g2,by omega,q2,aK (y14.get (by omega) q3) (by omega) _⟩
          ·exact dX.mono (fun i hi=>by first | omega | (simp only [gK,dW] at *;omega)) (fun i hi a ha=>aK ha (by first | omega | (simp only [gK,dW] at *;omega)) _) hbd
      ·rw [aQ,if_neg (by rw [show aY [41] (t9 :: r9)=iK [41] t9 from rfl,hi9];decide)] at hQ
       have hQ:QFn p w g all Z Q (.bad 4 t9.l):=hQ
       have k10:=k8.set (m':=m8) (d':=0) (b':=true) (c':=4) (l':=t9.l) k8.at_ (by omega)
       have f10:=aN.get (PO.ext (p:=p) (w:=w) (g:=g) (n:=all.length) (m:=m8) (d:=0) (b:=true) (c:=4) (l:=t9.l)) (by omega) f8
       have CV:=y8.trans (PO.ext (p:=p) (w:=w) (g:=g) (n:=all.length) (m:=m8) (d:=0) (b:=true) (c:=4) (l:=t9.l))
       conv=>whnf
       erw [show get (put (some 53) (.tu []) (put (some 52) (.p p 0 0) e')) 0= .p p 0 0 from e0]
       conv=>whnf
       erw [show get (put (some 53) (.tu []) (put (some 52) (.p p 0 0) e')) 3= .p Z.length 0 0 from e3]
       conv=>whnf
       refine sW _ k10 ht9 (fun e=>by cases e) (fun _=>?_)
       conv=>whnf
       refine ak (aC (T:=xH) ([.s t3.s,A,.b false,.sl0,.i .i64 t.l]) rfl (f10) rfl rfl (aU rfl) rfl) ?_
       conv=>whnf
       have k66:=k10.aan hXp hXw (AA t3.s A false .sl0 t.l)
       have f66:(_:St)[Z.length]? =_:=at_set f10 (AA t3.s A false .sl0 t.l)
       have y66:aN p Z _:=CV.set (o:=Z.length) (Nat.le_refl _) (AA t3.s A false .sl0 t.l)
       conv=>whnf
       refine aat k66 ht9 (by omega) fun s7 y7' k7'=>?_
       have f7':=y7'.get (by omega) f66
       conv=>whnf
       refine ak (aC (T:=dL) ([.s t3.s,A,.b false,.sl0,.i .i64 t.l]) rfl (f7') rfl rfl (aU rfl) rfl) ?_
       conv=>whnf
       exact Fin.ref rfl (hQ _ _ _ ((y66.trans y7').set (o:=Z.length) (Nat.le_refl _) (AA t3.s A false .sl0 t.l)) (k7'.aan hXp hXw (AA t3.s A false .sl0 t.l)))
   ·have hiw:¬aY [40] (t5 :: r5)=true:=by rw [show aY [40] (t5 :: r5)=iK [40] t5 from rfl,hi5];decide
    rw [if_neg (fun e=>hiw e.1),aQ,if_neg hiw] at hQ
    have hQ:QFn p w g all Z Q (.bad 4 t5.l):=hQ
    have k6:=k4.set (m':=m+1+1) (d':=1) (b':=true) (c':=4) (l':=t5.l) k4.at_ (by omega)
    have f6:=aN.get (PO.ext (p:=p) (w:=w) (g:=g) (n:=all.length) (m:=m+1+1) (d:=1) (b:=true) (c:=4) (l:=t5.l)) (by omega) f4
    have y6:=y4.trans (PO.ext (p:=p) (w:=w) (g:=g) (n:=all.length) (m:=m+1+1) (d:=1) (b:=true) (c:=4) (l:=t5.l))
    conv=>whnf
    refine aav k6 fun e' e0 e3 e9=>?_
    conv=>whnf
    rw [show Opd.ev e' (.t 0)=get e' 0 from rfl,e0]
    conv=>whnf
    refine aam _ k6 ht5 ?_
    have k55:=k6.set (m':=(m+1+1)) (d':=0) (b':=true) (c':=4) (l':=t5.l) k6.at_ (by omega)
    have f55:=aN.get (PO.ext (p:=p) (w:=w) (g:=g) (n:=all.length) (m:=(m+1+1)) (d:=0) (b:=true) (c:=4) (l:=t5.l)) (by omega) f6
    have y55:=y6.trans (PO.ext (p:=p) (w:=w) (g:=g) (n:=all.length) (m:=(m+1+1)) (d:=0) (b:=true) (c:=4) (l:=t5.l))
    conv=>whnf
    erw [show get (put (some 53) (.tu []) (put (some 52) (.p p 0 0) e')) 0= .p p 0 0 from e0]
    conv=>whnf
    erw [show get (put (some 53) (.tu []) (put (some 52) (.p p 0 0) e')) 3= .p Z.length 0 0 from e3]
    conv=>whnf
    refine sW _ k55 ht5 (fun e=>by cases e) (fun _=>?_)
    conv=>whnf
    refine ak (aC (T:=xH) ([.s t3.s,.sl0,.b false,.sl0,.i .i64 t.l]) rfl (f55) rfl rfl (aU rfl) rfl) ?_
    conv=>whnf
    have k66:=k55.aan hXp hXw (AA t3.s .sl0 false .sl0 t.l)
    have f66:(_:St)[Z.length]? =_:=at_set f55 (AA t3.s .sl0 false .sl0 t.l)
    have y66:aN p Z _:=y55.set (o:=Z.length) (Nat.le_refl _) (AA t3.s .sl0 false .sl0 t.l)
    conv=>whnf
    refine aat k66 ht5 (by omega) fun s7 y7' k7'=>?_
    have f7':=y7'.get (by omega) f66
    conv=>whnf
    refine ak (aC (T:=dL) ([.s t3.s,.sl0,.b false,.sl0,.i .i64 t.l]) rfl (f7') rfl rfl (aU rfl) rfl) ?_
    conv=>whnf
    exact Fin.ref rfl (hQ _ _ _ ((y66.trans y7').set (o:=Z.length) (Nat.le_refl _) (AA t3.s .sl0 false .sl0 t.l)) (k7'.aan hXp hXw (AA t3.s .sl0 false .sl0 t.l)))
  ·rw [fA,if_neg hk] at hQ
   have hQ:QFn p w g all Z Q (.bad 4 t3.l):=hQ
   have f3:=y3'.get (by omega) f2
   have y3:=y2.trans y3'
   conv=>whnf
   refine ak (aC (T:=fB) ([.s [],.sl0,.b false,.sl0,.i .i64 t.l]) rfl (f3) rfl rfl (aU rfl) rfl) ?_
   conv=>whnf
   have k4:=k3.aan hXp hXw (AA [] .sl0 false .sl0 t.l)
   have f4:(_:St)[Z.length]? =_:=at_set f3 (AA [] .sl0 false .sl0 t.l)
   have y4:aN p Z _:=y3.set (o:=Z.length) (Nat.le_refl _) (AA [] .sl0 false .sl0 t.l)
   conv=>whnf
   refine open_bad _ k4 ht3 (by omega) ?_
   have k33:=k4.set (m':=(m+1)) (d':=1) (b':=true) (c':=4) (l':=t3.l) k4.at_ (by omega)
   have f33:=aN.get (PO.ext (p:=p) (w:=w) (g:=g) (n:=all.length) (m:=(m+1)) (d:=1) (b:=true) (c:=4) (l:=t3.l)) (by omega) f4
   have y33:=y4.trans (PO.ext (p:=p) (w:=w) (g:=g) (n:=all.length) (m:=(m+1)) (d:=1) (b:=true) (c:=4) (l:=t3.l))
   conv=>whnf
   refine aav k33 fun e' e0 e3 e9=>?_
   conv=>whnf
   rw [show Opd.ev e' (.t 0)=get e' 0 from rfl,e0]
   conv=>whnf
   refine aam _ k33 ht3 ?_
   have k55:=k33.set (m':=(m+1)) (d':=0) (b':=true) (c':=4) (l':=t3.l) k33.at_ (by omega)
   have f55:=aN.get (PO.ext (p:=p) (w:=w) (g:=g) (n:=all.length) (m:=(m+1)) (d:=0) (b:=true) (c:=4) (l:=t3.l)) (by omega) f33
   have y55:=y33.trans (PO.ext (p:=p) (w:=w) (g:=g) (n:=all.length) (m:=(m+1)) (d:=0) (b:=true) (c:=4) (l:=t3.l))
   conv=>whnf
   erw [show get (put (some 53) (.tu []) (put (some 52) (.p p 0 0) e')) 0= .p p 0 0 from e0]
   conv=>whnf
   erw [show get (put (some 53) (.tu []) (put (some 52) (.p p 0 0) e')) 3= .p Z.length 0 0 from e3]
   conv=>whnf
   refine sW _ k55 ht3 (fun e=>by cases e) (fun _=>?_)
   conv=>whnf
   refine ak (aC (T:=xH) ([.s [],.sl0,.b false,.sl0,.i .i64 t.l]) rfl (f55) rfl rfl (aU rfl) rfl) ?_
   conv=>whnf
   have k66:=k55.aan hXp hXw (AA [] .sl0 false .sl0 t.l)
   have f66:(_:St)[Z.length]? =_:=at_set f55 (AA [] .sl0 false .sl0 t.l)
   have y66:aN p Z _:=y55.set (o:=Z.length) (Nat.le_refl _) (AA [] .sl0 false .sl0 t.l)
   conv=>whnf
   refine aat k66 ht3 (by omega) fun s7 y7' k7'=>?_
   have f7':=y7'.get (by omega) f66
   conv=>whnf
   refine ak (aC (T:=dL) ([.s [],.sl0,.b false,.sl0,.i .i64 t.l]) rfl (f7') rfl rfl (aU rfl) rfl) ?_
   conv=>whnf
   exact Fin.ref rfl (hQ _ _ _ ((y66.trans y7').set (o:=Z.length) (Nat.le_refl _) (AA [] .sl0 false .sl0 t.l)) (k7'.aan hXp hXw (AA [] .sl0 false .sl0 t.l)))
 ·rw [aQ,if_neg (by rw [show aY pV (t :: r)=iK [102,117,110,99] t from rfl,hi];decide)] at hQ
  have hQ:QFn p w g all Z Q (.bad 4 t.l):=hQ
  have k2:=k1.set (m':=m) (d':=0) (b':=true) (c':=4) (l':=t.l) k1.at_ (by omega)
  have f2:=aN.get (PO.ext (p:=p) (w:=w) (g:=g) (n:=all.length) (m:=m) (d:=0) (b:=true) (c:=4) (l:=t.l)) (by omega) b1
  have y2:=y1.trans (PO.ext (p:=p) (w:=w) (g:=g) (n:=all.length) (m:=m) (d:=0) (b:=true) (c:=4) (l:=t.l))
  conv=>whnf
  refine name_bad k2 ht ?_
  conv=>whnf
  refine ak (aC (T:=fB) ([.s [],.sl0,.b false,.sl0,.i .i64 t.l]) rfl (f2) rfl rfl (aU rfl) rfl) ?_
  conv=>whnf
  have k22:=k2.aan hXp hXw (AA [] .sl0 false .sl0 t.l)
  have f22:(_:St)[Z.length]? =_:=at_set f2 (AA [] .sl0 false .sl0 t.l)
  have y22:aN p Z _:=y2.set (o:=Z.length) (Nat.le_refl _) (AA [] .sl0 false .sl0 t.l)
  conv=>whnf
  refine open_bad _ k22 ht (by omega) ?_
  have k33:=k22.set (m':=m) (d':=1) (b':=true) (c':=4) (l':=t.l) k22.at_ (by omega)
  have f33:=aN.get (PO.ext (p:=p) (w:=w) (g:=g) (n:=all.length) (m:=m) (d:=1) (b:=true) (c:=4) (l:=t.l)) (by omega) f22
  have y33:=y22.trans (PO.ext (p:=p) (w:=w) (g:=g) (n:=all.length) (m:=m) (d:=1) (b:=true) (c:=4) (l:=t.l))
  conv=>whnf
  refine aav k33 fun e' e0 e3 e9=>?_
  conv=>whnf
  rw [show Opd.ev e' (.t 0)=get e' 0 from rfl,e0]
  conv=>whnf
  refine aam _ k33 ht ?_
  have k55:=k33.set (m':=m) (d':=0) (b':=true) (c':=4) (l':=t.l) k33.at_ (by omega)
  have f55:=aN.get (PO.ext (p:=p) (w:=w) (g:=g) (n:=all.length) (m:=m) (d:=0) (b:=true) (c:=4) (l:=t.l)) (by omega) f33
  have y55:=y33.trans (PO.ext (p:=p) (w:=w) (g:=g) (n:=all.length) (m:=m) (d:=0) (b:=true) (c:=4) (l:=t.l))
  conv=>whnf
  erw [show get (put (some 53) (.tu []) (put (some 52) (.p p 0 0) e')) 0= .p p 0 0 from e0]
  conv=>whnf
  erw [show get (put (some 53) (.tu []) (put (some 52) (.p p 0 0) e')) 3= .p Z.length 0 0 from e3]
  conv=>whnf
  refine sW _ k55 ht (fun e=>by cases e) (fun _=>?_)
  conv=>whnf
  refine ak (aC (T:=xH) ([.s [],.sl0,.b false,.sl0,.i .i64 t.l]) rfl (f55) rfl rfl (aU rfl) rfl) ?_
  conv=>whnf
  have k66:=k55.aan hXp hXw (AA [] .sl0 false .sl0 t.l)
  have f66:(_:St)[Z.length]? =_:=at_set f55 (AA [] .sl0 false .sl0 t.l)
  have y66:aN p Z _:=y55.set (o:=Z.length) (Nat.le_refl _) (AA [] .sl0 false .sl0 t.l)
  conv=>whnf
  refine aat k66 ht (by omega) fun s7 y7' k7'=>?_
  have f7':=y7'.get (by omega) f66
  conv=>whnf
  refine ak (aC (T:=dL) ([.s [],.sl0,.b false,.sl0,.i .i64 t.l]) rfl (f7') rfl rfl (aU rfl) rfl) ?_
  conv=>whnf
  exact Fin.ref rfl (hQ _ _ _ ((y66.trans y7').set (o:=Z.length) (Nat.le_refl _) (AA [] .sl0 false .sl0 t.l)) (k7'.aan hXp hXw (AA [] .sl0 false .sl0 t.l)))
end
end Go.Abs.YtlkfbfhkcaldlaaGreatDoor
namespace Go.Abs.YtlkfbfhkcaldlaaGreatDoor
open Go.Proofs
set_option maxRecDepth 4000
section
variable {p w g:Nat} {all:List Tok} {n:Nat}
def progO (A:AV):AO:=⟨0,false,.cells 60 [A]⟩
def RPq (p w g:Nat)(all:List Tok)(B fo q:Nat)(Z:St)(acc:List Fm)(Q:Out->Env->St->Prop):Re (List Fm)->Prop
 | .ok fs ts=>∀A' Z' m' c l e',get e' 3= .p fo 0 0->get e' 7= .p p 0 0->get e' 8= .p q 0 0->get e' 1000000= .u->dO p q B Z Z'->PO p w g all Z' m' 0 false c l->all.drop m'= ts->Z'[q]? =some (progO A')->FY B Z' A' (acc ++ fs)->Q (.exit 0) e' Z'
 | .bad c l=>∀A' Z' m' e',get e' 3= .p fo 0 0->get e' 7= .p p 0 0->get e' 8= .p q 0 0->get e' 1000000= .u->dO p q B Z Z'->PO p w g all Z' m' 0 true c l->Z'[q]? =some (progO A')->JI A'->Q (.exit 0) e' Z'
 | .out=>True
theorem funcsR_bad {m c l fo q:Nat} {Z:St} {Q:Out->Env->St->Prop} (h:PO p w g all Z m 0 true c l)
 (k:∀e',get e' 3= .p fo 0 0->get e' 7= .p p 0 0->get e' 8= .p q 0 0->get e' 1000000= .u->Q (.exit 0) e' Z):aV X [3,7,8] c6L0 [(3,.p fo 0 0),(7,.p p 0 0),(8,.p q 0 0)] Z Q:=by
 refine aV.round ay (lit:=false) ?_
 conv=>whnf
 refine ak (aj (T:=xH) rfl rfl (ah (h.obj)) rfl) ?_
 conv=>whnf
 exact k _ rfl rfl rfl rfl
theorem funcs_w (hno:EH all):∀(n B fo q:Nat),p<B->w<B->q<B->q≠p->q≠w->∀(acc:List Fm) (A:AV) (Z:St) (m c0 l0:Nat) (Q:Out->Env->St->Prop),PO p w g all Z m 0 false c0 l0->B<=Z.length->Z[q]? =some (progO A)->FY B Z A acc->aZ (all.drop m)->10*(all.drop m).length+11<=n->acc.length+(all.drop m).length<=40001->RPq p w g all B fo q Z acc Q (eH n (all.drop m))->aV X [3,7,8] c6L0 [(3,.p fo 0 0),(7,.p p 0 0),(8,.p q 0 0)] Z Q
 | 0=>fun _ _ _ _ _ _ _ _ _ _ _ _ _ _ _ _ _ _ _ _ h=>absurd h (by omega)
 | n+1=>by
   intro B fo q hp hw hq zY hqw acc A Z m c0 l0 Q h hB hx ha he hn hs hQ
   obtain⟨t,r,hts⟩:=he.ne
   obtain⟨ht,hr⟩:=b_ hts
   rw [hts,eH] at hQ
   have hsl:JI A:=by obtain⟨cs,hr,_⟩:=ha;exact hr.sl
   refine aV.round ay (lit:=false) ?_
   conv=>whnf
   refine ak (aj (T:=xH) rfl rfl (ah (h.obj)) rfl) ?_
   conv=>whnf
   refine au.to (aao h ht) ?_
   conv=>whnf
   by_cases hk:t.k=5
   ·rw [if_pos hk] at hQ
    rw [decide_eq_true (by omega)]
    conv=>whnf
    conv=>whnf
    exact hQ A Z m c0 l0 _ rfl rfl rfl rfl ⟨Nat.le_refl _,fun _ _ _ _=>rfl⟩ h hts hx (by rw [List.append_nil];exact ha)
   ·rw [if_neg hk,<-hts] at hQ
    rw [decide_eq_false (by omega)]
    conv=>whnf
    conv=>whnf
    rcases hsl with rfl | ⟨oo,gg,kk,rfl⟩
    all_goals
     refine ak (aj (T:=ug) rfl rfl (ah (hx)) rfl) ?_
     conv=>whnf
     have hg:=Qc n (all.drop m) he (by omega)
     refine function_w (n:=n) hno Z m c0 l0 _ h he (by omega) ?_
     generalize kH n (all.drop m)=r1 at hg hQ
     cases r1 with
     | out=>exact hg.elim
     | bad c l=>
       have hQ:RPq p w g all B fo q Z acc Q (.bad c l):=hQ
       intro oy s m2 y k
       have f:=y.get zY hx
       have ly:=y.len
       conv=>whnf
       refine⟨?_,?_⟩
       ·conv=>whnf
        refine ak (aj (T:=ug) rfl rfl (ah (f)) rfl) ?_
        rfl
       conv=>whnf
       refine⟨?_,?_⟩
       ·conv=>whnf
        refine ak (aj (T:=ug) rfl rfl (ah (at_new f _ _)) rfl) ?_
        rfl
       conv=>whnf
       refine Mc (D:=s.length) ha y hp hB (Nat.le_refl _) ly (by omega) oy 0 fun o3 g3 k3 s3 e3 l3 kT kA=>?_
       have f3:s3[q]? =_:=(e3 q hq).trans f
       have nG:=k.keepR hp hw e3
       conv=>whnf
       refine ak (aC (T:=ug) ([.sl o3 g3 0 k3 1]) rfl (f3) rfl rfl (aU rfl) rfl) ?_
       conv=>whnf
       have k4:=nG.aan zY hqw (progO (.sl o3 g3 0 k3 1))
       have yB:dO p q B Z (s3.set q (progO (.sl o3 g3 0 k3 1))):=⟨by rw [gK];omega,fun i hi o_ hix=>by rw [rZ (fun e=>hix e.symm),e3 i hi,y.old i (by omega) o_]⟩
       exact funcsR_bad k4 fun e' q3 q7 q8 q9=>hQ _ _ _ e' q3 q7 q8 q9 yB k4 (at_set f3 _) (.inr ⟨_,_,_,rfl⟩)
     | ok y0 bI=>
       have hQ:RPq p w g all B fo q Z acc Q ((eH n bI).bind fun l ts=>.ok (y0 :: l) ts):=hQ
       intro oy s m2 c2 l2 y k hm2 LP
       have f:=y.get zY hx
       have ly:=y.len
       rw [<-hm2] at hQ hg
       have lg:=hg.2.2
       conv=>whnf
       refine⟨?_,?_⟩
       ·conv=>whnf
        refine ak (aj (T:=ug) rfl rfl (ah (f)) rfl) ?_
        rfl
       conv=>whnf
       refine⟨?_,?_⟩
       ·conv=>whnf
        refine ak (aj (T:=ug) rfl rfl (ah (at_new f _ _)) rfl) ?_
        rfl
       conv=>whnf
       refine Mc (D:=Z.length) ha y hp hB ly (Nat.le_refl _) (by omega) oy 0 fun o3 g3 k3 s3 e3 l3 kT kA=>?_
       have f3:s3[q]? =_:=(e3 q hq).trans f
       have nG:=k.keepR hp hw e3
       conv=>whnf
       refine ak (aC (T:=ug) ([.sl o3 g3 0 k3 1]) rfl (f3) rfl rfl (aU rfl) rfl) ?_
       conv=>whnf
       have k4:=nG.aan zY hqw (progO (.sl o3 g3 0 k3 1))
       have yB:dO p q B Z (s3.set q (progO (.sl o3 g3 0 k3 1))):=⟨by rw [gK];omega,fun i hi o_ hix=>by rw [rZ (fun e=>hix e.symm),e3 i hi,y.old i (by omega) o_]⟩
       refine funcs_w hno n B fo q hp hw hq zY hqw (acc ++ [y0]) _ _ m2 c2 l2 Q k4 (by rw [gK];omega) (at_set f3 _) ((kA y0 LP).keep fun i a hi hh=>aK hh (by omega) _) hg.2.1 (by omega) (by rw [bM];simp only [bg,bZ];omega) ?_
       generalize eH n (all.drop m2)=r2 at hQ
       cases r2 with
       | out=>trivial
       | bad c l=>exact fun A4 Z4 m4 e' q3 q7 q8 q9 x4=>hQ A4 Z4 m4 e' q3 q7 q8 q9 (yB.trans x4)
       | ok xs wW=>exact fun A4 Z4 m4 c4 l4 e' q3 q7 q8 q9 x4 h4 hm4 hx4 VB=>hQ A4 Z4 m4 c4 l4 e' q3 q7 q8 q9 (yB.trans x4) h4 hm4 hx4 (by rw [iC] at VB;exact VB)
end
theorem lexG_bad:∀(k:Nat) (s:List UInt8) (l:Nat) (acc:List Tok) {e l':Nat},mP k s l acc= .bad e l'->e=9\/e=3
 | 0,[],l,acc,e,l',h=>by cases h
 | 0,_ :: _,l,acc,e,l',h=>by cases h
 | k+1,[],l,acc,e,l',h=>by cases h
 | k+1,c :: r,l,acc,e,l',h=>by
   have hf:=jh c r
   simp only [mP] at h
   split at h
   ·exact lexG_bad k _ _ _ h
   ·exact lexG_bad k _ _ _ h
   ·rename_i e' hs
    cases h
    rw [hs] at hf
    exact hf
theorem lexS_bad {t:List UInt8} {e l:Nat} (h:uj t= .bad e l):e=9\/e=3:=by
 unfold uj at h
 split at h
 ·cases h;exact .inr rfl
 ·cases hr:mP t.length t 0 [] with
  | done a b=>rw [hr] at h;cases h
  | bad a b=>rw [hr] at h;cases h;exact lexG_bad _ _ _ _ hr
def PPw (Z:St)(Q:AV->St->Prop):Re (List Fm)->Prop
 | .ok fs _=>∀o Z',Ext Z Z'->qo (fun i=>Z.length<=i) Z' (.p o 0 0) fs->Q (.tu [.p o 0 0,.ag [.i .i64 0,.i .i64 0],.b false]) Z'
 | .bad c l=>Q (.tu [.p0,.ag [.i .i64 c,.i .i64 l],.b true]) Z
 | .out=>True
theorem parse_w (t:List UInt8)(Z:St)(Q:AV->St->Prop)(hQ:PPw Z Q (jR t)):au X 6 [.s t] Z Q:=by
 unfold jR at hQ
 refine au.body (F:=F6) ay (lit:=false) rfl rfl (aU rfl) ?_
 conv=>whnf
 have b3:(newCells 25 aaw.zero.cells Z)[Z.length]? =some ⟨0,false,.cells 25 [.i .i64 0,.i .i64 0]⟩:=aG _ _ _
 have x3:Ext Z (newCells 25 aaw.zero.cells Z):=(Ext.refl Z).new _ _
 have l3:(newCells 25 aaw.zero.cells Z).length=Z.length+1:=aH _ _ _
 generalize newCells 25 aaw.zero.cells Z=Z3 at b3 x3 l3 ⊢
 conv=>whnf
 refine rtok_to t Z3 _ (fun l out Z4 hl hlen x4 ho=>?_) (fun e l hl=>?_)
 ·rw [hl] at hQ
  obtain⟨he,hno,hnn,hko⟩:=Qk hl
  have hQ:PPw Z Q (eH (10*l.length+11) l):=hQ
  rcases ho with ⟨rfl,_⟩ | ⟨w,g,hw,rfl,htok⟩
  ·exact he.elim
  have lw:=bK htok
  have lx4:=x4.len
  conv=>whnf
  refine ak (aC (T:=yT52) ([.i .i64 0,.i .i64 0]) rfl (aG _ _ _) rfl rfl (aU rfl) rfl) ?_
  have x6:Ext Z4 ((newCells 52 yT52.zero.cells Z4).set Z4.length ⟨0,false,.cells 52 [.i .i64 0,.i .i64 0]⟩):=((Ext.refl Z4).new _ _).set (Nat.le_refl _) _
  have b6:((newCells 52 yT52.zero.cells Z4).set Z4.length ⟨0,false,.cells 52 [.i .i64 0,.i .i64 0]⟩)[Z4.length]? =_:=at_set (aG _ _ _) _
  have l6:((newCells 52 yT52.zero.cells Z4).set Z4.length ⟨0,false,.cells 52 [.i .i64 0,.i .i64 0]⟩).length=Z4.length+1:=by rw [gK,aH]
  generalize (newCells 52 yT52.zero.cells Z4).set Z4.length ⟨0,false,.cells 52 [.i .i64 0,.i .i64 0]⟩=Z6 at b6 x6 l6 ⊢
  conv=>whnf
  refine ak (aj (T:=yT23) rfl rfl (ah (b6)) rfl) ?_
  conv=>whnf
  have b7:(newCells 57 (AV.ag [.sl w g 0 l.length 3,.i .i64 0,.i .i64 0,.b false,.i .i64 0,.i .i64 0]).cells Z6)[Z6.length]? =some ⟨0,false,.cells 57 [.sl w g 0 l.length 3,.i .i64 0,.i .i64 0,.b false,.i .i64 0,.i .i64 0]⟩:=aG _ _ _
  have x7:Ext Z6 (newCells 57 (AV.ag [.sl w g 0 l.length 3,.i .i64 0,.i .i64 0,.b false,.i .i64 0,.i .i64 0]).cells Z6):=(Ext.refl Z6).new _ _
  have l7:(newCells 57 (AV.ag [.sl w g 0 l.length 3,.i .i64 0,.i .i64 0,.b false,.i .i64 0,.i .i64 0]).cells Z6).length=Z6.length+1:=aH _ _ _
  generalize newCells 57 (AV.ag [.sl w g 0 l.length 3,.i .i64 0,.i .i64 0,.b false,.i .i64 0,.i .i64 0]).cells Z6=Z7 at b7 x7 l7 ⊢
  conv=>whnf
  have b8:(newCells 60 (AV.ag [.sl0]).cells Z7)[Z7.length]? =some (progO .sl0):=aG _ _ _
  have x8:Ext Z7 (newCells 60 (AV.ag [.sl0]).cells Z7):=(Ext.refl Z7).new _ _
  have l8:(newCells 60 (AV.ag [.sl0]).cells Z7).length=Z7.length+1:=aH _ _ _
  generalize newCells 60 (AV.ag [.sl0]).cells Z7=Z8 at b8 x8 l8 ⊢
  have lx6:=x6.len
  have hlp:=bK b7
  have hpos:0<l.length:=by obtain⟨t0,r0,e0⟩:=he.ne;rw [e0];exact Nat.succ_pos _
  have k8:PO Z6.length w g l Z8 0 0 false 0 0:=⟨x8.get b7,x8.get (x7.get (x6.get htok)),by omega,by omega,hpos,by omega⟩
  have f3:Z8[Z.length]? =_:=x8.get (x7.get (x6.get (x4.get b3)))
  have hge:∀Z',dO Z6.length Z7.length Z8.length Z8 Z'->Ext Z Z':=fun Z' y=>by
   refine⟨by have:=y.len;omega,fun i hi=>?_⟩
   rw [y.old i (by omega) (by omega) (by omega),x8.old i (by omega),x7.old i (by omega),x6.old i (by omega),x4.old i (by omega),x3.old i hi]
  have hg:=Ls (10*l.length+11) l he (Nat.le_refl _)
  conv=>whnf
  refine funcs_w hno (10*l.length+11) Z8.length Z.length Z7.length (by omega) (by omega) (by omega) (by omega) (by omega) [] .sl0 Z8 0 _ _ _ k8 (Nat.le_refl _) b8 ⟨[],.inl ⟨rfl,rfl⟩,trivial⟩ (by rw [List.drop_zero];exact he) (by rw [List.drop_zero];exact Nat.le_refl _) (by rw [List.drop_zero];simp;omega) ?_
  rw [List.drop_zero]
  generalize eH (10*l.length+11) l=r1 at hg hQ
  cases r1 with
  | out=>exact hg.elim
  | bad c l'=>
    have hQ:Q (.tu [.p0,.ag [.i .i64 c,.i .i64 l'],.b true]) Z:=hQ
    intro A Z9 m9 e' e3 e7 e8 e9 y9 k9 hq9 hA
    have f9:=y9.get (by omega) (by omega) (by omega) f3
    conv=>whnf
    rw [e3]
    conv=>whnf
    rw [e7]
    conv=>whnf
    rw [e8]
    conv=>whnf
    refine ak (aj (T:=xH) rfl rfl (ah (k9.obj)) rfl) ?_
    conv=>whnf
    refine ak (gU (T:=aaw) rfl rfl (ah (k9.obj)) (aU rfl)) ?_
    conv=>whnf
    refine ak (aC (T:=aaw) ([.i .i64 c,.i .i64 l']) rfl (f9) rfl rfl (aU rfl) rfl) ?_
    conv=>whnf
    erw [gU (T:=aaw) rfl rfl (ah (at_set f9 _)) (aU rfl)]
    conv=>whnf
    exact Fin.flat rfl ((hge _ y9).set (by omega) _).take hQ
  | ok fs ts=>
    intro A Z9 m9 c9 l9 e' e3 e7 e8 e9 y9 k9 FW hq9 ha9
    have f9:=y9.get (by omega) (by omega) (by omega) f3
    conv=>whnf
    rw [e3]
    conv=>whnf
    rw [e7]
    conv=>whnf
    rw [e8]
    conv=>whnf
    refine ak (aj (T:=xH) rfl rfl (ah (k9.obj)) rfl) ?_
    conv=>whnf
    refine ak (aC (T:=aaw) ([.i .i64 0,.i .i64 0]) rfl (f9) rfl rfl (aU rfl) rfl) ?_
    conv=>whnf
    erw [gU (T:=aaw) rfl rfl (ah (at_set f9 _)) (aU rfl)]
    conv=>whnf
    refine Fin.ref rfl (hQ _ _ ((hge _ y9).set (Nat.le_refl _) _) ?_)
    have hA:FY Z8.length Z9 A fs:=ha9
    obtain⟨cs,q1,q2⟩:=hA
    have q3:ig (fun i=>Z.length<=i) (List.set Z9 Z.length ⟨0,false,.cells 25 [.i .i64 0,.i .i64 0]⟩) cs fs:=q2.mono (fun i hi=>by omega) (fun i hi a ha=>aK ha (by omega) _)
    refine⟨Z7.length,A,by omega,rfl,aK hq9 (by omega) _,?_⟩
    rcases q1 with ⟨rfl,rfl⟩ | ⟨o2,g2,p1,p2,p3,p4⟩
    ·refine .inl ⟨?_,rfl⟩
     cases fs with
     | nil=>rfl
     | cons _ _=>exact q3.elim
    ·exact .inr ⟨o2,g2,cs,by omega,p2,aK p3 (by omega) _,q3,p4⟩
 ·rw [hl] at hQ
  have hQ:Q (.tu [.p0,.ag [.i .i64 e,.i .i64 l],.b true]) Z:=hQ
  conv=>whnf
  refine ak (aC (T:=yT52) ([.i .i64 e,.i .i64 l]) rfl (aG _ _ _) rfl rfl (aU rfl) rfl) ?_
  have x6:Ext Z3 ((newCells 52 yT52.zero.cells Z3).set Z3.length ⟨0,false,.cells 52 [.i .i64 e,.i .i64 l]⟩):=((Ext.refl Z3).new _ _).set (Nat.le_refl _) _
  have b6:((newCells 52 yT52.zero.cells Z3).set Z3.length ⟨0,false,.cells 52 [.i .i64 e,.i .i64 l]⟩)[Z3.length]? =_:=at_set (aG _ _ _) _
  have l6:((newCells 52 yT52.zero.cells Z3).set Z3.length ⟨0,false,.cells 52 [.i .i64 e,.i .i64 l]⟩).length=Z3.length+1:=by rw [gK,aH]
  generalize (newCells 52 yT52.zero.cells Z3).set Z3.length ⟨0,false,.cells 52 [.i .i64 e,.i .i64 l]⟩=Z6 at b6 x6 l6 ⊢
  conv=>whnf
  have he0:e≠0:=by rcases lexS_bad hl with rfl | rfl <;> decide
  refine ak (aj (T:=yT23) rfl rfl (ah (b6)) rfl) ?_
  conv=>whnf
  rw [decide_eq_false (by omega)]
  conv=>whnf
  conv=>whnf
  refine ak (aj (T:=yT23) rfl rfl (ah (b6)) rfl) ?_
  conv=>whnf
  refine ak (aj (T:=fF) rfl rfl (ah (b6)) rfl) ?_
  conv=>whnf
  refine ak (aC (T:=aaw) ([.i .i64 e,.i .i64 l]) rfl (x6.get b3) rfl rfl (aU rfl) rfl) ?_
  conv=>whnf
  erw [gU (T:=aaw) rfl rfl (ah (at_set (x6.get b3) _)) (aU rfl)]
  conv=>whnf
  exact Fin.flat rfl ((x3.trans x6).set (by omega) _).take hQ
end Go.Abs.YtlkfbfhkcaldlaaGreatDoor
