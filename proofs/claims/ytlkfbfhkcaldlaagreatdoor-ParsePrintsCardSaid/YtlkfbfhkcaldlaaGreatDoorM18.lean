/- Texts of this claim, joined: Pk, Pl, Pm, Pn, Po, Pp, Tk, Pq, Pr. -/
import Derived.Test.YtlkfbfhkcaldlaaGreatDoorM17
import Derived.Test.YtlkfbfhkcaldlaaGreatDoorM15
set_option linter.unusedVariables false
set_option linter.unusedSimpArgs false
namespace Go.Abs.YtlkfbfhkcaldlaaGreatDoor
open Go.Proofs
set_option maxRecDepth 4000
def PSs (p w g:Nat)(all:List Tok)(Z:St)(d:Nat)(Q:AV->St->Prop):Re gY->Prop
 | .ok l ts=>∀A Z' m',aN p Z Z'->PW p w g all Z' m' d .p0->all.drop m'= ts->dX (fun i=>Z.length<=i) Z' A l->JI A->Q A Z'
 | .bad _ _=>False
 | .out=>True
def nJ (p w g:Nat)(all:List Tok)(Z:St)(d:Nat)(Q:AV->St->Prop):Re Sm->Prop
 | .ok s ts=>∀o g' Z' m',aN p Z Z'->PW p w g all Z' m' d .p0->all.drop m'= ts->jc (fun i=>Z.length<=i) Z' (.p o g' 0) s->Q (.p o g' 0) Z'
 | .bad _ _=>False
 | .out=>True
def PQs (p w g:Nat)(all:List Tok)(B bp bl:Nat)(Z:St)(d:Nat)(acc:List Sm)(Q:Out->Env->St->Prop):Re gY->Prop
 | .ok xs ts=>∀A' Z' m' e',get e' 0= .p bp 0 0->dO p bl B Z Z'->PW p w g all Z' m' d .p0->all.drop m'= ts->Z'[bl]? =some ⟨0,false,.cells 67 [A']⟩->FU B Z' A' (acc ++ EK xs)->Q (.exit 0) e' Z'
 | .bad _ _=>False
 | .out=>True
structure WQ (p w g:Nat)(all:List Tok)(n:Nat):Prop where
 block:∀(d:Nat) (Z:St) (m:Nat) (Q:AV->St->Prop),PW p w g all Z m d .p0->d<=64->aZ (all.drop m)->10*(all.drop m).length+10<=n->PSs p w g all Z d Q (dD n d (all.drop m))->au X 60 [.p p 0 0] Z Q
 branch:∀(d line:Nat) (Z:St) (m:Nat) (Q:AV->St->Prop),PW p w g all Z m d .p0->d<=64->aZ (all.drop m)->10*(all.drop m).length+12<=n->nJ p w g all Z d Q (dQ n d line (all.drop m))->au X 123 [.p p 0 0,.i .i64 line] Z Q
 stmt:∀(d:Nat) (Z:St) (m:Nat) (Q:AV->St->Prop),PW p w g all Z m d .p0->d<=64->aZ (all.drop m)->10*(all.drop m).length+14<=n->nJ p w g all Z d Q (fE n d (all.drop m))->au X 94 [.p p 0 0] Z Q
def vT (p w g:Nat)(all:List Tok)(n:Nat):Prop:=∀(d B bp bl:Nat),d<=64->(p<B/\w<B/\bp<B/\bl<B)->(bp≠p/\bl≠p/\bp≠bl)->
 ∀ (acc:List Sm) (A:AV) (Z:St) (m:Nat) (Q:Out->Env->St->Prop),PW p w g all Z m d .p0->B<=Z.length->Z[bp]? =some ⟨0,false,.cells 85 [.p p 0 0]⟩->Z[bl]? =some ⟨0,false,.cells 67 [A]⟩->FU B Z A acc->aZ (all.drop m)->10*(all.drop m).length+15<=n->acc.length+(all.drop m).length<=40001->PQs p w g all B bp bl Z d acc Q (eG n d (all.drop m))->aV X [0,1] T_ [(0,.p bp 0 0),(1,.p bl 0 0)] Z Q
section
variable {p w g:Nat} {all:List Tok} {n:Nat}
theorem Zb (ih:WQ p w g all n)(ihS:vT p w g all n):vT p w g all (n+1):=by
 intro d B bp bl hd hlt hne acc A Z m Q h hB hbp hbl ha he hn hs hQ
 obtain⟨t,r,hts⟩:=he.ne
 obtain⟨ht,hr⟩:=b_ hts
 unfold eG at hQ
 rw [hts] at hQ
 have hsl:JI A:=by obtain⟨cs,hr,_⟩:=ha;exact hr.sl
 refine aV.round ay (lit:=false) ?_
 conv=>whnf
 refine ak (aj (T:=bf) rfl rfl (ah (hbp)) rfl) ?_
 conv=>whnf
 refine au.to (mW h) ?_
 conv=>whnf
 refine ak (aj (T:=bf) rfl rfl (ah (hbp)) rfl) ?_
 conv=>whnf
 have b1:(newCells 9 [.s [125]] Z)[Z.length]? =some ⟨0,false,.cells 9 [.s [125]]⟩:=aG _ _ _
 have x1:Ext Z (newCells 9 [.s [125]] Z):=(Ext.refl Z).new _ _
 have l1:(newCells 9 [.s [125]] Z).length=Z.length+1:=aH _ _ _
 generalize newCells 9 [.s [125]] Z=Z1 at b1 x1 l1 ⊢
 have h1:=h.ext x1
 have y1:dO p bl B Z Z1:=.of (aN.of x1) hB
 have c1:=x1.get hbp
 have c2:=x1.get hbl
 have ha1:FU B Z1 A acc:=ha.keep fun i a _ ha=>x1.get ha
 refine au.to (BX [[125]] h1 ht Z.length 0 (ah b1) (aU rfl)) ?_
 conv=>whnf
 rw [jU]
 cases hi:iK [125] t with
 | true=>
   rw [if_pos (show aY [125] (t :: r)=true from hi)] at hQ
   conv=>whnf
   exact hQ A Z1 m _ rfl y1 h1 hts c2 (by rw [show acc ++ EK .nil=acc from List.append_nil acc];exact ha1)
 | false=>
   rw [if_neg (by rw [show aY [125] (t :: r)=iK [125] t from rfl,hi];decide),<-hts] at hQ
   have hg:=(FN n).stmt d (all.drop m) he (by omega)
   conv=>whnf
   rcases hsl with rfl | ⟨oo,gg,kk,rfl⟩
   all_goals
    refine ak (aj (T:=dL) rfl rfl (ah (c2)) rfl) ?_
    conv=>whnf
    refine ak (aj (T:=bf) rfl rfl (ah (c1)) rfl) ?_
    conv=>whnf
    refine ih.stmt d Z1 m _ h1 hd he (by omega) ?_
    generalize fE n d (all.drop m)=r1 at hg hQ
    cases r1 with
    | out=>exact hg.elim
    | bad c l=>exact False.elim hQ
    | ok y0 bI=>
      intro oy gy s m2 y k hm2 LP
      have e1:=y.get hne.1 c1
      have e2:=y.get hne.2.1 c2
      have ly:=y.len
      have hQ:PQs p w g all B bp bl Z d acc Q ((eG n d bI).bind fun l ts=>.ok (.cons y0 l) ts):=hQ
      rw [<-hm2] at hQ hg
      have lg:=hg.2.2
      conv=>whnf
      refine⟨?_,?_⟩
      ·conv=>whnf
       refine ak (aj (T:=dL) rfl rfl (ah (e2)) rfl) ?_
       rfl
      conv=>whnf
      refine⟨?_,?_⟩
      ·conv=>whnf
       refine ak (aj (T:=dL) rfl rfl (ah (at_new e2 _ _)) rfl) ?_
       rfl
      conv=>whnf
      refine LY (D:=Z1.length) ha1 y hlt.1 (by omega) ly (Nat.le_refl _) (by omega) oy gy fun o3 g3 nG s3 e3 l3 kT kA=>?_
      have f2:s3[bl]? =_:=(e3 bl hlt.2.2.2).trans e2
      have f1:s3[bp]? =_:=(e3 bp hlt.2.2.1).trans e1
      have k3:=k.Jf kT
      conv=>whnf
      refine ak (aC (T:=dL) ([.sl o3 g3 0 nG 1]) rfl (f2) rfl rfl (aU rfl) rfl) ?_
      conv=>whnf
      have k4:=k3.bT f2 (by decide) (by decide) ⟨0,false,.cells 67 [.sl o3 g3 0 nG 1]⟩
      have yy:dO p bl B Z (s3.set bl ⟨0,false,.cells 67 [.sl o3 g3 0 nG 1]⟩):=y1.trans ⟨by rw [gK];omega,fun i hi o_ hix=>by rw [rZ (fun e=>hix e.symm),e3 i hi,y.old i (by omega) o_]⟩
      refine ihS d B bp bl hd hlt hne (acc ++ [y0]) _ _ m2 Q k4 (by rw [gK];omega) (aK f1 hne.2.2.symm _) (at_set f2 _) ((kA y0 LP).keep fun i a hi ha=>aK ha (by omega) _) hg.2.1 (by omega) (by rw [bM];simp only [bg,bZ];omega) ?_
      generalize eG n d (all.drop m2)=r2 at hQ
      cases r2 with
      | out=>trivial
      | bad c l=>exact False.elim hQ
      | ok xs wW=>exact fun A4 Z4 m4 e' q0 x4 h4 hm4 hx4 VB=>hQ A4 Z4 m4 e' q0 (yy.trans x4) h4 hm4 hx4 (by rw [iC] at VB;exact VB)
theorem Zc (ihS:vT p w g all n)(d:Nat)(Z:St)(m:Nat)(Q:AV->St->Prop)(h:PW p w g all Z m d .p0)(hd:d<=64)(he:aZ (all.drop m))(hn:10*(all.drop m).length+10<=n+1)(hQ:PSs p w g all Z d Q (dD (n+1) d (all.drop m))):au X 60 [.p p 0 0] Z Q:=by
 obtain⟨t,r,hts⟩:=he.ne
 obtain⟨ht,hr⟩:=b_ hts
 have hpl:=bK h.obj
 have hwl:=bK h.tok
 have hal:=h.len
 have hm:=h.at_
 have hlr:(all.drop m).length=r.length+1:=by rw [hts];rfl
 unfold dD gV at hQ
 rw [hts] at hQ
 refine au.body (F:=F60) ay (lit:=false) rfl rfl (aU rfl) ?_
 conv=>whnf
 have b1:(newCells 85 (AV.p p 0 0).cells Z)[Z.length]? =some ⟨0,false,.cells 85 [.p p 0 0]⟩:=aG _ _ _
 have x1:Ext Z (newCells 85 (AV.p p 0 0).cells Z):=(Ext.refl Z).new _ _
 have l1:(newCells 85 (AV.p p 0 0).cells Z).length=Z.length+1:=aH _ _ _
 generalize newCells 85 (AV.p p 0 0).cells Z=Z1 at b1 x1 l1 ⊢
 have b2:(newCells 67 dL.zero.cells Z1)[Z1.length]? =some ⟨0,false,.cells 67 [.sl0]⟩:=aG _ _ _
 have x2:Ext Z1 (newCells 67 dL.zero.cells Z1):=(Ext.refl Z1).new _ _
 have l2:(newCells 67 dL.zero.cells Z1).length=Z1.length+1:=aH _ _ _
 generalize newCells 67 dL.zero.cells Z1=Z2 at b2 x2 l2 ⊢
 have xx:=x1.trans x2
 have h2:=h.ext xx
 have c1:=x2.get b1
 refine ak (aj (T:=bf) rfl rfl (ah (c1)) rfl) ?_
 conv=>whnf
 refine au.mono (Q:=fun v s=>v= .tu []/\∃A,JI A/\s[Z1.length]? =some ⟨0,false,.cells 67 [A]⟩/\Fin Z A s Q) ?_ fun v s q=>?_
 ·refine RF [123] h2 ht hd (fun hi=>(aX he hts hi).1) (fun hi h64 s1 y1 k1=>?_) (fun hi h64=>?_) (fun hi=>?_)
  ·rw [if_neg (by omega),aQ,if_pos (show aY [123] (t :: r)=true from hi)] at hQ
   have hQ:PSs p w g all Z d Q ((eG n (d+1) r).bind fun l ts=>(aQ [125] ts).bind fun _ ts=>.ok l ts):=hQ
   obtain⟨hm1,he1,hle⟩:=aX he hts hi
   have hg:=(FN n).stmts (d+1) (all.drop (m+1)) he1 (by rw [hr];omega)
   have hx1:aN p Z s1:=(aN.of xx).trans y1
   have e1:=y1.get (by omega) c1
   have e2:=y1.get (by omega) b2
   have ly:=y1.len
   have lx:=hx1.len
   have hall:(all.drop (m+1)).length<=40001:=by rw [pF];omega
   refine au.body (F:=F93) ay (lit:=false) rfl rfl (aU rfl) ?_
   conv=>whnf
   refine ihS (d+1) s1.length Z.length Z1.length (by omega) ⟨by omega,by omega,by omega,by omega⟩ ⟨by omega,by omega,by omega⟩ [] .sl0 s1 (m+1) _ k1 (Nat.le_refl _) e1 e2 ⟨[],.inl ⟨rfl,rfl⟩,trivial⟩ he1 (by rw [hr];omega) (by simp only [bZ];omega) ?_
   rw [hr] at hg ⊢
   generalize eG n (d+1) r=r1 at hg hQ
   cases r1 with
   | out=>exact hg.elim
   | bad c l=>exact False.elim hQ
   | ok xs bI=>
     intro A' s2 m2 e' e0 y2 k2 hm2 hx2 ha2
     have he2:aZ (all.drop m2):=by rw [hm2];exact hg.2.1
     obtain⟨t2,r2,jE⟩:=he2.ne
     obtain⟨ht2,hr2⟩:=b_ jE
     have hQ:PSs p w g all Z d Q ((aQ [125] bI).bind fun _ ts=>.ok xs ts):=hQ
     rw [<-hm2,jE] at hQ
     have f1:=y2.get (by omega) (by omega) (by omega) e1
     have ly2:=y2.len
     have hsl:JI A':=by obtain⟨cs,hr,_⟩:=ha2;exact hr.sl
     have hmm:m+1<=m2:=by
      have:=hg.2.2
      rw [<-hm2,<-hr,pF,pF] at this
      omega
     have harg:=ha2.arg
     rw [show ([]:List Sm) ++ EK xs=EK xs from rfl,VE] at harg
     have fr:∀s3,aN p s2 s3->aN p Z s3:=fun s3 y3=>⟨by have:=y3.len;omega,fun i hi o_=>by rw [y3.old i (by omega) o_,y2.old i (by omega) o_ (by omega),hx1.old i hi o_]⟩
     conv=>whnf
     rw [show Opd.ev e' (.t 0)=get e' 0 from rfl,e0]
     conv=>whnf
     refine ak (aj (T:=bf) rfl rfl (ah (f1)) rfl) ?_
     conv=>whnf
     refine j_ [125] k2 ht2 (fun hi=>(aX he2 jE hi).1) (fun hi2 s5 y5 k5=>?_) (fun hi2=>?_)
     ·rw [aQ,if_pos (show aY [125] (t2 :: r2)=true from hi2)] at hQ
      conv=>whnf
      refine k1.ne_of k5 (.inl (by omega)) ⟨rfl,w,g,all,m2+1,_,k5,.inl (by omega),fun s3 y3 j4=>⟨rfl,A',hsl,(y5.trans y3).get (by omega) hx2,h.ne_of j4 (.inl (by omega)) (hQ _ _ _ (fr s3 (y5.trans y3)) j4 hr2 ?_ hsl)⟩⟩
      exact dX.mono (fun i hi=>by omega) (fun i hi a ha=>(y5.trans y3).get (by omega) ha) harg
     ·rw [aQ,if_neg (show ¬aY [125] (t2 :: r2)=true by rw [show aY [125] (t2 :: r2)=iK [125] t2 from rfl,hi2];decide)] at hQ
      exact hQ
  ·rw [if_pos ⟨show aY [123] (t :: r)=true from hi,h64⟩] at hQ
   exact hQ
  ·have hiw:¬aY [123] (t :: r)=true:=by rw [show aY [123] (t :: r)=iK [123] t from rfl,hi];decide
   rw [if_neg (fun e=>hiw e.1),aQ,if_neg hiw] at hQ
   exact hQ
 ·obtain⟨rfl,A,hA,q1,q2⟩:=q
  rcases hA with rfl | ⟨o,g',k,rfl⟩
  ·conv=>whnf
   refine ak (aj (T:=dL) rfl rfl (ah (q1)) rfl) ?_
   conv=>whnf
   refine ak (aC (T:=dL) ([.sl0]) rfl (q1) rfl rfl (aU rfl) rfl) ?_
   conv=>whnf
   rw [yX q1]
   refine ak (aj (T:=dL) rfl rfl (ah (q1)) rfl) ?_
   conv=>whnf
   exact q2
  ·conv=>whnf
   refine ak (aj (T:=dL) rfl rfl (ah (q1)) rfl) ?_
   conv=>whnf
   refine ak (aC (T:=dL) ([.sl o g' 0 k 1]) rfl (q1) rfl rfl (aU rfl) rfl) ?_
   conv=>whnf
   rw [yX q1]
   refine ak (aj (T:=dL) rfl rfl (ah (q1)) rfl) ?_
   conv=>whnf
   exact q2
end
end Go.Abs.YtlkfbfhkcaldlaaGreatDoor
namespace Go.Abs.YtlkfbfhkcaldlaaGreatDoor
open Go.Proofs
set_option maxRecDepth 4000
theorem dJ (v:AV)(Q:AV->Prop)(h:Q v):fc v Q:=by
 cases v with
 | b t=>cases t <;> exact h
 | _=>exact fq_of _ _ h
theorem ji {t o g off e:Nat} {T:AT} {Z:St} {cs:List AV} {A:AV} (cs':List AV)(hA:JI A)(hT:KL.get t=some T)(hz:T.size=1)(ho:Z[o]? =some ⟨g,false,.cells e cs⟩)(hc:off+1<=cs.length)(hs:setCells cs off [A]=cs') :
 aStore (KL.get t) (.p o g off) A Z=some (Z.set o ⟨g,false,.cells e cs'⟩):=by
 rcases hA with rfl | ⟨o',g',n,rfl⟩
 ·exact aC cs' hT ho (by rw [hz];rfl) rfl (by rw [hz];exact hc) hs
 ·exact aC cs' hT ho (by rw [hz];rfl) rfl (by rw [hz];exact hc) hs
def dK (k:Nat)(nm:List UInt8)(pt:Bool)(L R T E:AV)(ln:Nat):AO:=⟨0,false,.cells 95 [.i .i64 k,.s nm,.b pt,L,R,T,E,.i .i64 ln]⟩
theorem bV.same {p x:Nat} {Z a b:St} (h:bV p x Z a)(k:aN p a b):bV p x Z b:=h.trans (.of k)
section
variable {p w g:Nat} {all:List Tok} {n:Nat}
theorem PW.st {m d:Nat} {f:AV} {Z:St} (h:PW p w g all Z m d f) {x k ln:Nat} {nm:List UInt8} {pt:Bool} {L R T E:AV} (hx:Z[x]? =some (dK k nm pt L R T E ln))(a:AO):PW p w g all (Z.set x a) m d f:=h.bT hx (by decide) (by decide) a
def PEn (p w g:Nat)(all:List Tok)(xo kd:Nat)(nm:List UInt8)(pt:Bool)(L:AV)(ln:Nat)(Z:St)(d:Nat)(Q:AV->St->Prop):Re Tr->Prop
 | .ok y ts=>∀R Z' m',bV p xo Z Z'->PW p w g all Z' m' d .p0->all.drop m'= ts->Z'[xo]? =some (dK kd nm pt L R .sl0 .sl0 ln)->bP (fun i=>Z.length<=i) Z' R y->Q (.p xo 0 0) Z'
 | .bad _ _=>False
 | .out=>True
theorem Zd (ih:WP p w g all n)(d kd k0 xo xv bp ln:Nat)(nm:List UInt8)(pt:Bool)(L:AV)(Z:St)(m:Nat)(Q:AV->St->Prop)(h:PW p w g all Z m d .p0)(hd:d<=64)(he:aZ (all.drop m))(hn:10*(all.drop m).length+10<=n+1)
 (hxv:Z[xv]? =some ⟨0,false,.cells 96 [.p xo 0 0]⟩) (hbp:Z[bp]? =some ⟨0,false,.cells 85 [.p p 0 0]⟩) (hx:Z[xo]? =some (dK k0 nm pt L .p0 .sl0 .sl0 ln)) (hne:xo≠p/\xv≠p/\bp≠p/\xv≠xo/\bp≠xo)
 (hQ:PEn p w g all xo kd nm pt L ln Z d Q (bU (n+1) d (all.drop m))):au X 121 [.i .i64 kd,.p xv 0 0,.p bp 0 0] Z Q:=by
 unfold bU at hQ
 have hQ:PEn p w g all xo kd nm pt L ln Z d Q ((dn n d 1 (all.drop m)).bind fun x ts=>(aQ [59] ts).bind fun _ ts=>.ok x ts):=hQ
 have hg:=(uD n).expr d 1 (all.drop m) he (by omega)
 have hxl:=bK hx
 refine au.body (F:=F121) ay (lit:=false) rfl rfl (aU rfl) ?_
 conv=>whnf
 refine ak (aj (T:=dH) rfl rfl (ah (hxv)) rfl) ?_
 conv=>whnf
 refine ak (aC (T:=fF) ([.i .i64 kd,.s nm,.b pt,L,.p0,.sl0,.sl0,.i .i64 ln]) rfl (hx) rfl rfl (aU rfl) rfl) ?_
 conv=>whnf
 have h1:PW p w g all (Z.set xo (dK kd nm pt L .p0 .sl0 .sl0 ln)) m d .p0:=h.st hx _
 have cx:(Z.set xo (dK kd nm pt L .p0 .sl0 .sl0 ln))[xo]? =_:=at_set hx _
 have cxv:(Z.set xo (dK kd nm pt L .p0 .sl0 .sl0 ln))[xv]? =_:=aK hxv hne.2.2.2.1.symm _
 have cbp:(Z.set xo (dK kd nm pt L .p0 .sl0 .sl0 ln))[bp]? =_:=aK hbp hne.2.2.2.2.symm _
 have x1:bV p xo Z (Z.set xo (dK kd nm pt L .p0 .sl0 .sl0 ln)):=bV.bT _ _ _ _
 have l1:(Z.set xo (dK kd nm pt L .p0 .sl0 .sl0 ln)).length=Z.length:=gK
 refine ak (aj (T:=dH) rfl rfl (ah (cxv)) rfl) ?_
 conv=>whnf
 refine ak (aj (T:=bf) rfl rfl (ah (cbp)) rfl) ?_
 conv=>whnf
 refine ih.expr d 1 _ m _ h1 hd (by omega) he (by omega) ?_
 generalize dn n d 1 (all.drop m)=r1 at hg hQ
 cases r1 with
 | out=>exact hg.elim
 | bad c l=>exact False.elim hQ
 | ok z bI=>
   intro o g' s m2 y k hm2 LV
   have he2:aZ (all.drop m2):=by rw [hm2];exact hg.2.1
   obtain⟨t2,r2,jE⟩:=he2.ne
   obtain⟨ht2,hr2⟩:=b_ jE
   have hQ:PEn p w g all xo kd nm pt L ln Z d Q ((aQ [59] bI).bind fun _ ts=>.ok z ts):=hQ
   rw [<-hm2,jE] at hQ
   have ex:=y.get hne.1 cx
   conv=>whnf
   refine⟨?_,?_⟩
   ·conv=>whnf
    refine ak (aj (T:=dH) rfl rfl (ah (y.get hne.2.1 cxv)) rfl) ?_
    rfl
   conv=>whnf
   refine ak (aC (T:=aW) ([.i .i64 kd,.s nm,.b pt,L,.p o g' 0,.sl0,.sl0,.i .i64 ln]) rfl (ex) rfl rfl (aU rfl) rfl) ?_
   conv=>whnf
   have k2:=k.st ex (dK kd nm pt L (.p o g' 0) .sl0 .sl0 ln)
   have fx:(s.set xo (dK kd nm pt L (.p o g' 0) .sl0 .sl0 ln))[xo]? =_:=at_set ex _
   have xx:=(x1.same y).trans (bV.bT p xo s (dK kd nm pt L (.p o g' 0) .sl0 .sl0 ln))
   have hxv2:(s.set xo (dK kd nm pt L (.p o g' 0) .sl0 .sl0 ln))[xv]? =_:=aK (y.get hne.2.1 cxv) hne.2.2.2.1.symm _
   refine ak (aj (T:=bf) rfl rfl (ah (aK (y.get hne.2.2.1 cbp) hne.2.2.2.2.symm _)) rfl) ?_
   conv=>whnf
   refine j_ [59] k2 ht2 (fun hi=>(aX he2 jE hi).1) (fun hi s3 y3 k3=>?_) (fun hi=>?_)
   ·rw [aQ,if_pos (show aY [59] (t2 :: r2)=true from hi)] at hQ
    conv=>whnf
    refine ak (aj (T:=dH) rfl rfl (ah (y3.get hne.2.1 hxv2)) rfl) ?_
    conv=>whnf
    refine Fin.ref rfl (hQ _ _ _ (xx.same y3) k3 hr2 (y3.get hne.1 fx) ?_)
    exact bP.mono (fun i hi=>by rw [gK] at hi;exact hi) (fun i hi a ha=>y3.get (by have:=bK h.obj;rw [gK] at hi;omega) (aK ha (by rw [gK] at hi;omega) _)) LV
   ·rw [aQ,if_neg (show ¬aY [59] (t2 :: r2)=true by rw [show aY [59] (t2 :: r2)=iK [59] t2 from rfl,hi];decide)] at hQ
    exact hQ
theorem VF (ihE:WP p w g all n)(ih:WQ p w g all n)(d line:Nat)(Z:St)(m:Nat)(Q:AV->St->Prop)(h:PW p w g all Z m d .p0)(hd:d<=64)(he:aZ (all.drop m))(hn:10*(all.drop m).length+12<=n+1)(hQ:nJ p w g all Z d Q (dQ (n+1) d line (all.drop m))):au X 123 [.p p 0 0,.i .i64 line] Z Q:=by
 have hpl:=bK h.obj
 unfold dQ at hQ
 have hg:=(uD n).expr d 1 (all.drop m) he (by omega)
 refine au.body (F:=F123) ay (lit:=false) rfl rfl (aU rfl) ?_
 conv=>whnf
 have b1:(newCells 95 (AV.ag [.i .i64 4,.s [],.b false,.p0,.p0,.sl0,.sl0,.i .i64 line]).cells Z)[Z.length]? =some ⟨0,false,.cells 95 [.i .i64 4,.s [],.b false,.p0,.p0,.sl0,.sl0,.i .i64 line]⟩:=aG _ _ _
 have x1:Ext Z (newCells 95 (AV.ag [.i .i64 4,.s [],.b false,.p0,.p0,.sl0,.sl0,.i .i64 line]).cells Z):=(Ext.refl Z).new _ _
 have l1:(newCells 95 (AV.ag [.i .i64 4,.s [],.b false,.p0,.p0,.sl0,.sl0,.i .i64 line]).cells Z).length=Z.length+1:=aH _ _ _
 generalize newCells 95 (AV.ag [.i .i64 4,.s [],.b false,.p0,.p0,.sl0,.sl0,.i .i64 line]).cells Z=Z1 at b1 x1 l1 ⊢
 have h1:=h.ext x1
 have b1:Z1[Z.length]? =some (dK 4 [] false .p0 .p0 .sl0 .sl0 line):=b1
 have xx:aN p Z Z1:=aN.of x1
 refine ihE.expr d 1 Z1 m _ h1 hd (by omega) he (by omega) ?_
 generalize dn n d 1 (all.drop m)=r1 at hg hQ
 cases r1 with
 | out=>exact hg.elim
 | bad c l=>exact False.elim hQ
 | ok z bI=>
   intro o g' s m2 y k hm2 LV
   have hQ:nJ p w g all Z d Q ((dD n d bI).bind fun th ts=>
    if aY jJ ts=true then
        if aY I7 ts.tail=true then(dQ n d (kW ts.tail) ts.tail.tail).bind fun b ts=>.ok (.st 4 [] false .nil z th (.cons b .nil) line) ts
        else(dD n d ts.tail).bind fun el ts=>.ok (.st 4 [] false .nil z th el line) ts
    else .ok (.st 4 [] false .nil z th .nil line) ts):=hQ
   have ex:=y.get (by omega) b1
   have ly:=y.len
   have lx:=xx.len
   conv=>whnf
   refine ak (aC (T:=aW) ([.i .i64 4,.s [],.b false,.p0,.p o g' 0,.sl0,.sl0,.i .i64 line]) rfl (ex) rfl rfl (aU rfl) rfl) ?_
   conv=>whnf
   have k2:=k.st ex (dK 4 [] false .p0 (.p o g' 0) .sl0 .sl0 line)
   have fx:(s.set Z.length (dK 4 [] false .p0 (.p o g' 0) .sl0 .sl0 line))[Z.length]? =_:=at_set ex _
   have y2:aN p Z (s.set Z.length (dK 4 [] false .p0 (.p o g' 0) .sl0 .sl0 line)):=(xx.trans y).bJ (bV.bT _ _ _ _) (Nat.le_refl _)
   have hez2:bP (fun i=>Z.length<i) (s.set Z.length (dK 4 [] false .p0 (.p o g' 0) .sl0 .sl0 line)) (.p o g' 0) z:=bP.mono (fun i hi=>by omega) (fun i hi a ha=>aK ha (by omega) _) LV
   have l2:(s.set Z.length (dK 4 [] false .p0 (.p o g' 0) .sl0 .sl0 line)).length=s.length:=gK
   rw [<-hm2] at hQ hg
   have lg:=hg.2.2
   have hgb:=(FN n).block d (all.drop m2) hg.2.1 (by omega)
   refine ih.block d _ m2 _ k2 hd hg.2.1 (by omega) ?_
   generalize dD n d (all.drop m2)=r2 at hgb hQ
   cases r2 with
   | out=>exact hgb.elim
   | bad c l=>exact False.elim hQ
   | ok th dM=>
     intro A s3 m3 y3 k3 hm3 hth hA
     have hQ:nJ p w g all Z d Q (
        if aY jJ dM=true then
         if aY I7 dM.tail=true then(dQ n d (kW dM.tail) dM.tail.tail).bind fun b ts=>.ok (.st 4 [] false .nil z th (.cons b .nil) line) ts
         else(dD n d dM.tail).bind fun el ts=>.ok (.st 4 [] false .nil z th el line) ts
        else .ok (.st 4 [] false .nil z th .nil line) dM):=hQ
     have Ze:=y3.get (by omega) fx
     have l3:s.length<=s3.length:=by have:=y3.len;rw [gK] at this;exact this
     have he3:aZ (all.drop m3):=by rw [hm3];exact hgb.2.1
     obtain⟨t3,r3,FT⟩:=he3.ne
     obtain⟨ht3,hr3⟩:=b_ FT
     have hlen3:(all.drop m3).length=r3.length+1:=by rw [FT];rfl
     have lgb:=hgb.2.2
     rw [<-hm3] at lgb
     rw [<-hm3,FT] at hQ
     have hQ:nJ p w g all Z d Q (
        if aY jJ (t3 :: r3)=true then
         if aY I7 r3=true then(dQ n d (kW r3) r3.tail).bind fun b ts=>.ok (.st 4 [] false .nil z th (.cons b .nil) line) ts
         else(dD n d r3).bind fun el ts=>.ok (.st 4 [] false .nil z th el line) ts
        else .ok (.st 4 [] false .nil z th .nil line) (t3 :: r3)):=hQ
     refine dJ _ _ ?_
     conv=>whnf
     refine ak (ji (T:=dL) [.i .i64 4,.s [],.b false,.p0,.p o g' 0,A,.sl0,.i .i64 line] hA rfl rfl Ze (aU rfl) rfl) ?_
     have k4:=k3.st Ze (dK 4 [] false .p0 (.p o g' 0) A .sl0 line)
     have fx4:(s3.set Z.length (dK 4 [] false .p0 (.p o g' 0) A .sl0 line))[Z.length]? =_:=at_set Ze _
     have y4:aN p Z (s3.set Z.length (dK 4 [] false .p0 (.p o g' 0) A .sl0 line)):=(y2.trans y3).bJ (bV.bT _ _ _ _) (Nat.le_refl _)
     have hez4:bP (fun i=>Z.length<i) (s3.set Z.length (dK 4 [] false .p0 (.p o g' 0) A .sl0 line)) (.p o g' 0) z:=bP.mono (fun i hi=>hi) (fun i hi a ha=>aK (y3.get (by omega) ha) (by omega) _) hez2
     have hth4:dX (fun i=>Z.length<i) (s3.set Z.length (dK 4 [] false .p0 (.p o g' 0) A .sl0 line)) A th:=dX.mono (fun i hi=>by rw [gK] at hi;omega) (fun i hi a ha=>aK ha (by rw [gK] at hi;omega) _) hth
     have l4:(s3.set Z.length (dK 4 [] false .p0 (.p o g' 0) A .sl0 line)).length=s3.length:=gK
     have fin:∀(E:AV) (el:gY) (s5:St),aN p (s3.set Z.length (dK 4 [] false .p0 (.p o g' 0) A .sl0 line)) s5->dX (fun i=>Z.length<i) (s5.set Z.length (dK 4 [] false .p0 (.p o g' 0) A E line)) E el->jc (fun i=>Z.length<=i) (s5.set Z.length (dK 4 [] false .p0 (.p o g' 0) A E line)) (.p Z.length 0 0) (.st 4 [] false .nil z th el line):=by
        intro E el s5 y5 hE
        refine⟨Z.length,0,.p0,.p o g' 0,A,E,Nat.le_refl _,rfl,at_set (y5.get (by omega) fx4) _,rfl,?_,?_,?_⟩
        ·exact bP.mono (fun i hi=>by omega) (fun i hi a ha=>aK (y5.get (by omega) ha) (by omega) _) hez4
        ·exact dX.mono (fun i hi=>by omega) (fun i hi a ha=>aK (y5.get (by omega) ha) (by omega) _) hth4
        ·exact dX.mono (fun i hi=>by omega) (fun i hi a ha=>ha) hE
     conv=>whnf
     refine oI [101,108,115,101] k4 ht3 (fun hi=>(aX he3 FT hi).1) (fun hi s5 y5 k5=>?_) (fun hi=>?_)
     ·rw [if_pos (show aY jJ (t3 :: r3)=true from hi)] at hQ
      obtain⟨hm4,he4,hle4⟩:=aX he3 FT hi
      obtain⟨t4,r4,RN⟩:=he4.ne
      obtain⟨ht4,hr4⟩:=b_ RN
      have hrr:r3=t4 :: r4:=by rw [<-RN,hr3]
      have hlen4:(all.drop (m3+1)).length=r4.length+1:=by rw [RN];rfl
      have hlr:r3.length=r4.length+1:=by rw [hrr];rfl
      rw [hrr] at hQ
      have l5:s3.length<=s5.length:=by have:=y5.len;rw [gK] at this;exact this
      conv=>whnf
      refine au.to (jZ k5 ht4) ?_
      conv=>whnf
      refine pW t4 fun s6 x6 Qg l6=>?_
      have k6:=k5.ext x6
      have y6:=y5.trans (aN.of x6)
      conv=>whnf
      refine oI [105,102] k6 ht4 (fun hi=>(aX he4 RN hi).1) (fun hi2 s7 y7 k7=>?_) (fun hi2=>?_)
      ·rw [if_pos (show aY I7 (t4 :: r4)=true from hi2)] at hQ
       have hQ:nJ p w g all Z d Q ((dQ n d t4.l r4).bind fun b ts=>.ok (.st 4 [] false .nil z th (.cons b .nil) line) ts):=hQ
       obtain⟨hm5,Vp,hle5⟩:=aX he4 RN hi2
       have hlen5:(all.drop (m3+1+1)).length=r4.length:=by rw [hr4]
       have hg5:=(FN n).branch d t4.l (all.drop (m3+1+1)) Vp (by omega)
       have l7:=y7.len
       rw [<-hr4] at hQ
       conv=>whnf
       refine ak (aj (T:=fF) rfl rfl (ah (y7.get (by omega) Qg)) rfl) ?_
       conv=>whnf
       refine ih.branch d t4.l s7 (m3+1+1) _ k7 hd Vp (by omega) ?_
       generalize dQ n d t4.l (all.drop (m3+1+1))=r5 at hg5 hQ
       cases r5 with
       | out=>exact hg5.elim
       | bad c l=>exact False.elim hQ
       | ok bs su=>
         have hQ:nJ p w g all Z d Q (.ok (.st 4 [] false .nil z th (.cons bs .nil) line) su):=hQ
         intro o8 g8 s8 m8 y8 k8 hm8 hbs
         have RP:=(y6.trans y7).trans y8
         have l8:=y8.len
         conv=>whnf
         have b9:(newCells 96 [.p o8 g8 0] s8)[s8.length]? =some ⟨0,false,.cells 96 [.p o8 g8 0]⟩:=aG _ _ _
         have x9:Ext s8 (newCells 96 [.p o8 g8 0] s8):=(Ext.refl s8).new _ _
         have l9:(newCells 96 [.p o8 g8 0] s8).length=s8.length+1:=aH _ _ _
         generalize newCells 96 [.p o8 g8 0] s8=Z9 at b9 x9 l9 ⊢
         have VG:=x9.get (RP.get (by omega) fx4)
         have k9:=k8.ext x9
         refine ak (aC (T:=dL) ([.i .i64 4,.s [],.b false,.p0,.p o g' 0,A,.sl s8.length 0 0 1 1,.i .i64 line]) rfl (VG) rfl rfl (aU rfl) rfl) ?_
         conv=>whnf
         refine Fin.ref rfl (hQ _ _ _ _ ((y4.trans (RP.trans (aN.of x9))).bJ (bV.bT _ _ _ _) (Nat.le_refl _)) (k9.st VG _) hm8 (fin _ _ Z9 (RP.trans (aN.of x9)) ?_))
         refine⟨s8.length,0,[.p o8 g8 0],by omega,rfl,aK b9 (by omega) _,_,_,rfl,?_,rfl⟩
         exact jc.mono (fun i hi=>by omega) (fun i hi a ha=>aK (x9.get ha) (by omega) _) hbs
      ·rw [if_neg (by rw [show aY I7 (t4 :: r4)=iK [105,102] t4 from rfl,hi2];decide),<-RN] at hQ
       have hg5:=(FN n).block d (all.drop (m3+1)) he4 (by omega)
       conv=>whnf
       refine ih.block d s6 (m3+1) _ k6 hd he4 (by omega) ?_
       generalize dD n d (all.drop (m3+1))=r5 at hg5 hQ
       cases r5 with
       | out=>exact hg5.elim
       | bad c l=>exact False.elim hQ
       | ok el su=>
         have hQ:nJ p w g all Z d Q (.ok (.st 4 [] false .nil z th el line) su):=hQ
         intro E s8 m8 y8 k8 hm8 hel hE
         have RP:=y6.trans y8
         have VG:=RP.get (by omega) fx4
         refine dJ _ _ ?_
         conv=>whnf
         refine ak (ji (T:=dL) [.i .i64 4,.s [],.b false,.p0,.p o g' 0,A,E,.i .i64 line] hE rfl rfl VG (aU rfl) rfl) ?_
         conv=>whnf
         refine Fin.ref rfl (hQ _ _ _ _ ((y4.trans RP).bJ (bV.bT _ _ _ _) (Nat.le_refl _)) (k8.st VG _) hm8 (fin _ _ s8 RP ?_))
         exact dX.mono (fun i hi=>by omega) (fun i hi a ha=>aK ha (by omega) _) hel
     ·rw [if_neg (by rw [show aY jJ (t3 :: r3)=iK [101,108,115,101] t3 from rfl,hi];decide)] at hQ
      conv=>whnf
      refine Fin.ref rfl (hQ _ _ _ _ y4 k4 FT ?_)
      have:=fin .sl0 .nil _ (.refl _ _) rfl
      rw [List.set_set] at this
      exact this
end
end Go.Abs.YtlkfbfhkcaldlaaGreatDoor
namespace Go.Abs.YtlkfbfhkcaldlaaGreatDoor
open Go.Proofs
set_option maxRecDepth 4000
def LZ (all:List Tok):Prop:=∀z∈all,(z.k=4->z.s∈keys)/\(z.k=3->z.s∉keys)
section
variable {p w g:Nat} {all:List Tok} {n:Nat}
theorem nJ.to {d:Nat} {Z Z1:St} {Q Q':AV->St->Prop} {r:Re Sm} (hQ:nJ p w g all Z d Q r)(x1:aN p Z Z1)(k:∀o g' s,Q (.p o g' 0) s->Q' (.p o g' 0) s):nJ p w g all Z1 d Q' r:=by
 cases r with
 | out=>trivial
 | bad c l=>exact False.elim hQ
 | ok x ts=>exact fun o g' Z2 m2 x2 h2 hm hex=>k _ _ _ (hQ o g' Z2 m2 (x1.trans x2) h2 hm (jc.mono (fun i hi=>Nat.le_trans x1.len hi) (fun i hi a ha=>ha) hex))
theorem Aw (n d:Nat)(t:Tok)(r:List Tok)(hk:t.k=4)(h1:t.s≠[40])(h2:t.s≠qF)(h3:t.s≠FM)(hn:2<=n):gW n d (t :: r)= .bad 4 t.l:=by
 obtain⟨n,rfl⟩:∃k,n=k+2:=⟨n - 2,by omega⟩
 have hW:∀s,aY s (t :: r)=(t.s == s):=fun s=>by show ((t.k == 4 || t.k == 3) && t.s == s)=_;rw [hk];rfl
 unfold gW dI
 simp only [hW,fA]
 rw [if_neg (by simpa using h1),if_neg (by simpa using h2),if_neg (by simpa using h3),if_neg (by rw [hk];decide),if_neg (by rw [hk];decide)]
 rfl
theorem nokey {t:Tok} (h:t.k=3->t.s∉keys)(s:List UInt8)(hs:s∈keys):(t.k == 3 && t.s == s)=false:=by
 by_cases h3:t.k=3
 ·have:t.s≠s:=fun e=>h h3 (e▸hs)
  rw [beq_eq_false_iff_ne.2 this,Bool.and_false]
 ·rw [beq_eq_false_iff_ne.2 h3];rfl
def L6 (p w g:Nat)(all:List Tok)(n:Nat):Prop:=∀(d kd k0 xo xv bp ln:Nat) (nm:List UInt8) (pt:Bool) (L:AV) (Z:St) (m:Nat) (Q:AV->St->Prop),PW p w g all Z m d .p0->d<=64->aZ (all.drop m)->10*(all.drop m).length+10<=n->
 Z[xv]? =some ⟨0,false,.cells 96 [.p xo 0 0]⟩->Z[bp]? =some ⟨0,false,.cells 85 [.p p 0 0]⟩->Z[xo]? =some (dK k0 nm pt L .p0 .sl0 .sl0 ln)->(xo≠p/\xv≠p/\bp≠p/\xv≠xo/\bp≠xo)->PEn p w g all xo kd nm pt L ln Z d Q (bU n d (all.drop m))->au X 121 [.i .i64 kd,.p xv 0 0,.p bp 0 0] Z Q
set_option maxHeartbeats 4000000 in
theorem stmt_p (hko:LZ all)(ihE:WP p w g all n)(ih:WQ p w g all n)(Xn:L6 p w g all n)(d:Nat)(Z:St)(m:Nat)(Q:AV->St->Prop)(h:PW p w g all Z m d .p0)(hd:d<=64)(he:aZ (all.drop m))(hn:10*(all.drop m).length+14<=n+1)(hQ:nJ p w g all Z d Q (fE (n+1) d (all.drop m))):au X 94 [.p p 0 0] Z Q:=by
 obtain⟨t,r,hts⟩:=he.ne
 obtain⟨ht,hr⟩:=b_ hts
 have hpl:=bK h.obj
 have hlr:(all.drop m).length=r.length+1:=by rw [hts];rfl
 unfold fE at hQ
 rw [hts] at hQ
 simp only at hQ
 refine au.body (F:=F94) ay (lit:=false) rfl rfl (aU rfl) ?_
 conv=>whnf
 have b1:(newCells 85 (AV.p p 0 0).cells Z)[Z.length]? =some ⟨0,false,.cells 85 [.p p 0 0]⟩:=aG _ _ _
 have x1:Ext Z (newCells 85 (AV.p p 0 0).cells Z):=(Ext.refl Z).new _ _
 have l1:(newCells 85 (AV.p p 0 0).cells Z).length=Z.length+1:=aH _ _ _
 generalize newCells 85 (AV.p p 0 0).cells Z=Z1 at b1 x1 l1 ⊢
 have h1:=h.ext x1
 refine ak (aj (T:=bf) rfl rfl (ah (b1)) rfl) ?_
 conv=>whnf
 refine au.to (jZ h1 ht) ?_
 conv=>whnf
 refine pW t fun Z2 x2 ht2 l2=>?_
 conv=>whnf
 refine ak (aj (T:=fF) rfl rfl (ah (ht2)) rfl) ?_
 conv=>whnf
 have b3:(newCells 95 (AV.ag [.i .i64 0,.s [],.b false,.p0,.p0,.sl0,.sl0,.i .i64 t.l]).cells Z2)[Z2.length]? =some ⟨0,false,.cells 95 [.i .i64 0,.s [],.b false,.p0,.p0,.sl0,.sl0,.i .i64 t.l]⟩:=aG _ _ _
 have x3:Ext Z2 (newCells 95 (AV.ag [.i .i64 0,.s [],.b false,.p0,.p0,.sl0,.sl0,.i .i64 t.l]).cells Z2):=(Ext.refl Z2).new _ _
 have l3:(newCells 95 (AV.ag [.i .i64 0,.s [],.b false,.p0,.p0,.sl0,.sl0,.i .i64 t.l]).cells Z2).length=Z2.length+1:=aH _ _ _
 generalize newCells 95 (AV.ag [.i .i64 0,.s [],.b false,.p0,.p0,.sl0,.sl0,.i .i64 t.l]).cells Z2=Z3 at b3 x3 l3 ⊢
 refine ak (aC (T:=dH) ([.p Z2.length 0 0]) rfl (aG _ _ _) rfl rfl (aU rfl) rfl) ?_
 have x4:Ext Z3 ((newCells 96 dH.zero.cells Z3).set Z3.length ⟨0,false,.cells 96 [.p Z2.length 0 0]⟩):=((Ext.refl Z3).new _ _).set (Nat.le_refl _) _
 have b4:((newCells 96 dH.zero.cells Z3).set Z3.length ⟨0,false,.cells 96 [.p Z2.length 0 0]⟩)[Z3.length]? =_:=at_set (aG _ _ _) _
 have l4:((newCells 96 dH.zero.cells Z3).set Z3.length ⟨0,false,.cells 96 [.p Z2.length 0 0]⟩).length=Z3.length+1:=by rw [gK,aH]
 generalize (newCells 96 dH.zero.cells Z3).set Z3.length ⟨0,false,.cells 96 [.p Z2.length 0 0]⟩=Z4 at b4 x4 l4 ⊢
 conv=>whnf
 have x24:=x3.trans x4
 have h4:=(h1.ext x2).ext x24
 have c1:=x24.get (x2.get b1)
 have ct:=x24.get ht2
 have cx:Z4[Z2.length]? =some (dK 0 [] false .p0 .p0 .sl0 .sl0 t.l):=x4.get b3
 have xx:aN p Z Z4:=aN.of ((x1.trans x2).trans x24)
 refine ak (aj (T:=fF) rfl rfl (ah (ct)) rfl) ?_
 conv=>whnf
 have way:t.k≠4\/(t.k=4/\t.s=[110,101,119])\/(t.k=4/\t.s=[105,110])\/(t.k=4/\t.s≠[110,101,119]/\t.s≠[105,110]):=by
  by_cases h4:t.k=4
  ·by_cases h5:t.s=[110,101,119]
   ·exact .inr (.inl ⟨h4,h5⟩)
   ·by_cases h6:t.s=[105,110]
    ·exact .inr (.inr (.inl ⟨h4,h6⟩))
    ·exact .inr (.inr (.inr ⟨h4,h5,h6⟩))
  ·exact .inl h4
 rcases way with hk4 | ⟨hk4,hs⟩ | ⟨hk4,hs⟩ | ⟨hk4,hn1,hn2⟩
 case inr.inr.inr=>
  rw [decide_eq_true (by omega)]
  conv=>whnf
  refine ak (aj (T:=bf) rfl rfl (ah (c1)) rfl) ?_
  conv=>whnf
  refine au.to (mW h4) ?_
  conv=>whnf
  refine ak (aj (T:=fB) rfl rfl (ah (ct)) rfl) ?_
  conv=>whnf
  have he1:aZ (all.drop (m+1)):=by rw [hr];rw [hts] at he;exact he.tail (by rw [hk4];decide)
  have hm1:=uG he1
  have hlen1:(all.drop (m+1)).length=r.length:=by rw [hr]
  have hmem:=(hko t (List.mem_of_getElem? ht)).1 hk4
  simp only [keys,List.mem_cons,List.mem_nil_iff,or_false,hn1,hn2] at hmem
  rcases hmem with hs | hs | hs | hs | hs | hs | hs | hs | hs | hs
  ·have hW:∀s,aY s (t :: r)=(t.s == s):=fun s=>by show ((t.k == 4 || t.k == 3) && t.s == s)=_;rw [hk4];rfl
   rw [if_neg (by rw [hW,hs];decide),if_neg (by rw [hW,hs];decide),if_neg (by rw [hW,hs];decide),if_neg (by rw [hW,hs];decide),if_neg (by rw [hW,hs];decide),if_neg (by rw [hW,hs];decide),if_neg (by rw [hW,hs];decide)] at hQ
   rw [Aw n d t r hk4 (by rw [hs];decide) (by rw [hs];decide) (by rw [hs];decide) (by omega)] at hQ
   exact False.elim hQ
  ·have hW:∀s,aY s (t :: r)=(t.s == s):=fun s=>by show ((t.k == 4 || t.k == 3) && t.s == s)=_;rw [hk4];rfl
   rw [if_pos (by rw [hW,hs];rfl)] at hQ
   rw [show (t.s == [110,101,119])=false by rw [hs];rfl]
   conv=>whnf
   refine ak (aj (T:=fB) rfl rfl (ah (ct)) rfl) ?_
   conv=>whnf
   rw [show (t.s == [105,110])=false by rw [hs];rfl]
   conv=>whnf
   refine ak (aj (T:=bf) rfl rfl (ah (c1)) rfl) ?_
   conv=>whnf
   refine jm h4 hm1 fun s5 y5 k5=>?_
   have c5:=y5.get (by omega) c1
   have EL:=y5.get (by omega) ct
   have zK:=y5.get (by omega) cx
   have uK:=y5.get (by omega) b4
   have wX:=xx.trans y5
   have l5:=y5.len
   conv=>whnf
   refine ak (aj (T:=fB) rfl rfl (ah (EL)) rfl) ?_
   conv=>whnf
   rw [show (t.s == [118,97,114])=true by rw [hs];rfl]
   conv=>whnf
   obtain⟨t6,r6,kX⟩:=he1.ne
   obtain⟨Qg,FV⟩:=b_ kX
   have hl6:(all.drop (m+1)).length=r6.length+1:=by rw [kX];rfl
   rw [<-hr,kX] at hQ
   refine ak (aj (T:=dH) rfl rfl (ah (uK)) rfl) ?_
   conv=>whnf
   refine ak (aj (T:=dH) rfl rfl (ah (uK)) rfl) ?_
   conv=>whnf
   refine ak (aj (T:=bf) rfl rfl (ah (c5)) rfl) ?_
   conv=>whnf
   refine Jb k5 Qg (fun hk1=>uG (by rw [FV];rw [kX] at he1;exact he1.tail (by rw [hk1];decide))) (fun hk1 s6 y6 k6=>?_) (fun hk1=>?_)
   ·simp only [fA,if_pos hk1] at hQ
    have he2:aZ (all.drop (m+1+1)):=by rw [FV];rw [kX] at he1;exact he1.tail (by rw [hk1];decide)
    obtain⟨t7,r7,Oh⟩:=he2.ne
    obtain⟨ht7,hr7⟩:=b_ Oh
    have hl7:(all.drop (m+1+1)).length=r7.length+1:=by rw [Oh];rfl
    have hl67:r6.length=r7.length+1:=by rw [<-FV,Oh];rfl
    have hQ:nJ p w g all Z d Q (
     if aY [61] (if aY dA r6=true then r6.tail else r6)=true then
             (bU n d (if aY dA r6=true then r6.tail else r6).tail).bind fun x ts=>.ok (.st 1 t6.s (aY dA r6) .nil x .nil .nil t.l) ts
     else(aQ [59] (if aY dA r6=true then r6.tail else r6)).bind fun _ ts=>.ok (.st 1 t6.s (aY dA r6) .nil .nil .nil .nil t.l) ts):=hQ
    rw [<-FV,Oh] at hQ
    have wI:=y6.get (by omega) zK
    have yZ:=y6.get (by omega) uK
    have c6:=y6.get (by omega) c5
    conv=>whnf
    refine⟨?_,?_⟩
    ·conv=>whnf
     refine ak (aj (T:=dH) rfl rfl (ah (yZ)) rfl) ?_
     rfl
    conv=>whnf
    refine⟨?_,?_⟩
    ·conv=>whnf
     refine ak (aj (T:=dH) rfl rfl (ah (yZ)) rfl) ?_
     rfl
    conv=>whnf
    refine ak (aC (T:=fF) ([.i .i64 1,.s [],.b false,.p0,.p0,.sl0,.sl0,.i .i64 t.l]) rfl (wI) rfl rfl (aU rfl) rfl) ?_
    conv=>whnf
    have k7:=k6.st wI (dK 1 [] false .p0 .p0 .sl0 .sl0 t.l)
    have wY:(s6.set Z2.length (dK 1 [] false .p0 .p0 .sl0 .sl0 t.l))[Z2.length]? =_:=at_set wI _
    have wZ:(s6.set Z2.length (dK 1 [] false .p0 .p0 .sl0 .sl0 t.l))[Z3.length]? =_:=aK yZ (by omega) _
    have c7:(s6.set Z2.length (dK 1 [] false .p0 .p0 .sl0 .sl0 t.l))[Z.length]? =_:=aK c6 (by omega) _
    refine⟨?_,?_⟩
    ·conv=>whnf
     refine ak (aj (T:=dH) rfl rfl (ah (wZ)) rfl) ?_
     rfl
    conv=>whnf
    refine ak (aC (T:=fB) ([.i .i64 1,.s t6.s,.b false,.p0,.p0,.sl0,.sl0,.i .i64 t.l]) rfl (wY) rfl rfl (aU rfl) rfl) ?_
    conv=>whnf
    have k8:=k7.st wY (dK 1 t6.s false .p0 .p0 .sl0 .sl0 t.l)
    have mZ:((s6.set Z2.length (dK 1 [] false .p0 .p0 .sl0 .sl0 t.l)).set Z2.length (dK 1 t6.s false .p0 .p0 .sl0 .sl0 t.l))[Z2.length]? =_:=at_set wY _
    have oM:((s6.set Z2.length (dK 1 [] false .p0 .p0 .sl0 .sl0 t.l)).set Z2.length (dK 1 t6.s false .p0 .p0 .sl0 .sl0 t.l))[Z3.length]? =_:=aK wZ (by omega) _
    have c8:((s6.set Z2.length (dK 1 [] false .p0 .p0 .sl0 .sl0 t.l)).set Z2.length (dK 1 t6.s false .p0 .p0 .sl0 .sl0 t.l))[Z.length]? =_:=aK c7 (by omega) _
    have Oi:aN p Z ((s6.set Z2.length (dK 1 [] false .p0 .p0 .sl0 .sl0 t.l)).set Z2.length (dK 1 t6.s false .p0 .p0 .sl0 .sl0 t.l)):=((wX.trans y6).bJ (bV.bT _ _ _ _) (by omega)).bJ (bV.bT _ _ _ _) (by omega)
    have ll8:((s6.set Z2.length (dK 1 [] false .p0 .p0 .sl0 .sl0 t.l)).set Z2.length (dK 1 t6.s false .p0 .p0 .sl0 .sl0 t.l)).length=s6.length:=by rw [gK,gK]
    refine ak (aj (T:=dH) rfl rfl (ah (oM)) rfl) ?_
    conv=>whnf
    refine ak (aj (T:=bf) rfl rfl (ah (c8)) rfl) ?_
    conv=>whnf
    refine oI [112,116,114] k8 ht7 (fun hi=>(aX he2 Oh hi).1) (fun hi s9 y9 k9=>?_) (fun hi=>?_)
    ·have VH:aY dA (t7 :: r7)=true:=hi
     have hQ:nJ p w g all Z d Q (
      if aY [61] r7=true then
             (bU n d r7.tail).bind fun x ts=>.ok (.st 1 t6.s true .nil x .nil .nil t.l) ts
      else(aQ [59] r7).bind fun _ ts=>.ok (.st 1 t6.s true .nil .nil .nil .nil t.l) ts):=by
      simp only [VH,if_true] at hQ;exact hQ
     have hlr7:(all.drop (m+1+1+1)).length=r7.length:=by rw [hr7]
     rw [<-hr7] at hQ
     have EM:=y9.get (by omega) mZ
     have CS:=y9.get (by omega) oM
     have c9:=y9.get (by omega) c8
     conv=>whnf
     refine⟨?_,?_⟩
     ·conv=>whnf
      refine ak (aj (T:=dH) rfl rfl (ah (CS)) rfl) ?_
      rfl
     conv=>whnf
     refine ak (aC (T:=xH) ([.i .i64 1,.s t6.s,.b true,.p0,.p0,.sl0,.sl0,.i .i64 t.l]) rfl (EM) rfl rfl (aU rfl) rfl) ?_
     conv=>whnf
     have kB:=(k9).st (EM) (dK 1 t6.s true .p0 .p0 .sl0 .sl0 t.l)
     have VI:(List.set s9 Z2.length (dK 1 t6.s true .p0 .p0 .sl0 .sl0 t.l))[Z2.length]? =_:=at_set (EM) _
     have RQ:(List.set s9 Z2.length (dK 1 t6.s true .p0 .p0 .sl0 .sl0 t.l))[Z3.length]? =_:=aK (CS) (by omega) _
     have cB:(List.set s9 Z2.length (dK 1 t6.s true .p0 .p0 .sl0 .sl0 t.l))[Z.length]? =_:=aK (c9) (by omega) _
     have BZ:aN p Z (List.set s9 Z2.length (dK 1 t6.s true .p0 .p0 .sl0 .sl0 t.l)):=(Oi.trans y9).bJ (bV.bT _ _ _ _) (by omega)
     have hE:=(aX he2 Oh hi).2.1
     obtain⟨t8,r8,qJ⟩:=hE.ne
     obtain⟨ht8,Xo⟩:=b_ qJ
     have hl8:(all.drop (m+1+1+1)).length=r8.length+1:=by rw [qJ];rfl
     rw [qJ] at hQ
     refine ak (aj (T:=bf) rfl rfl (ah (cB)) rfl) ?_
     conv=>whnf
     refine oI [61] kB ht8 (fun hi=>(aX hE qJ hi).1) (fun hi sA yA kA=>?_) (fun hi=>?_)
     ·rw [if_pos (show aY [61] (t8 :: r8)=true from hi)] at hQ
      have hQ:nJ p w g all Z d Q ((bU n d r8).bind fun x ts=>.ok (.st 1 t6.s true .nil x .nil .nil t.l) ts):=hQ
      obtain⟨hmA,SY,VJ⟩:=aX hE qJ hi
      have hlA:(all.drop (m+1+1+1+1)).length=r8.length:=by rw [Xo]
      rw [<-Xo] at hQ
      conv=>whnf
      refine Xn d 1 _ Z2.length Z3.length Z.length t.l t6.s true .p0 sA (m+1+1+1+1) _ kA hd SY (by omega) (yA.get (by omega) (RQ)) (yA.get (by omega) (cB)) (yA.get (by omega) (VI)) ⟨by omega,by omega,by omega,by omega,by omega⟩ ?_
      generalize bU n d (all.drop (m+1+1+1+1))=rE at hQ
      cases rE with
      | out=>trivial
      | bad c l=>exact False.elim hQ
      | ok z Oj=>
        have hQ:nJ p w g all Z d Q (.ok (.st 1 t6.s true .nil z .nil .nil t.l) Oj):=hQ
        intro R s9 m9 y9 k9 FW Ol Om
        conv=>whnf
        have lX:=((BZ).trans yA).len
        refine Fin.ref rfl (hQ _ _ _ _ (((BZ).trans yA).bJ y9 (by omega)) k9 FW ⟨Z2.length,0,.p0,R,.sl0,.sl0,by omega,rfl,Ol,rfl,?_,rfl,rfl⟩)
        exact bP.mono (fun i hi=>by first | omega | (rw [gK] at hi;omega)) (fun i hi a ha=>ha) Om
     ·rw [if_neg (by rw [show aY [61] (t8 :: r8)=iK [61] t8 from rfl,hi];decide)] at hQ
      conv=>whnf
      refine ak (aj (T:=bf) rfl rfl (ah (cB)) rfl) ?_
      conv=>whnf
      refine j_ [59] kB ht8 (fun hi=>(aX hE qJ hi).1) (fun hi sA yA kA=>?_) (fun hi=>?_)
      ·rw [aQ,if_pos (show aY [59] (t8 :: r8)=true from hi)] at hQ
       conv=>whnf
       refine ak (aj (T:=dH) rfl rfl (ah (yA.get (by omega) (RQ))) rfl) ?_
       conv=>whnf
       have lX:=(BZ).len
       exact Fin.ref rfl (hQ _ _ _ _ ((BZ).trans yA) kA Xo ⟨Z2.length,0,.p0,.p0,.sl0,.sl0,by omega,rfl,yA.get (by omega) (VI),rfl,rfl,rfl,rfl⟩)
      ·rw [aQ,if_neg (show ¬aY [59] (t8 :: r8)=true by rw [show aY [59] (t8 :: r8)=iK [59] t8 from rfl,hi];decide)] at hQ
       exact False.elim hQ
    ·have VH:aY dA (t7 :: r7)=false:=hi
     have hQ:nJ p w g all Z d Q (
      if aY [61] (t7 :: r7)=true then
             (bU n d (t7 :: r7).tail).bind fun x ts=>.ok (.st 1 t6.s false .nil x .nil .nil t.l) ts
      else(aQ [59] (t7 :: r7)).bind fun _ ts=>.ok (.st 1 t6.s false .nil .nil .nil .nil t.l) ts):=by
      simp only [VH,if_neg Bool.false_ne_true] at hQ;exact hQ
     rw [<-Oh] at hQ
     conv=>whnf
     refine⟨?_,?_⟩
     ·conv=>whnf
      refine ak (aj (T:=dH) rfl rfl (ah (oM)) rfl) ?_
      rfl
     conv=>whnf
     refine ak (aC (T:=xH) ([.i .i64 1,.s t6.s,.b false,.p0,.p0,.sl0,.sl0,.i .i64 t.l]) rfl (mZ) rfl rfl (aU rfl) rfl) ?_
     conv=>whnf
     have kB:=(k8).st (mZ) (dK 1 t6.s false .p0 .p0 .sl0 .sl0 t.l)
     have VI:(List.set ((s6.set Z2.length (dK 1 [] false .p0 .p0 .sl0 .sl0 t.l)).set Z2.length (dK 1 t6.s false .p0 .p0 .sl0 .sl0 t.l)) Z2.length (dK 1 t6.s false .p0 .p0 .sl0 .sl0 t.l))[Z2.length]? =_:=at_set (mZ) _
     have RQ:(List.set ((s6.set Z2.length (dK 1 [] false .p0 .p0 .sl0 .sl0 t.l)).set Z2.length (dK 1 t6.s false .p0 .p0 .sl0 .sl0 t.l)) Z2.length (dK 1 t6.s false .p0 .p0 .sl0 .sl0 t.l))[Z3.length]? =_:=aK (oM) (by omega) _
     have cB:(List.set ((s6.set Z2.length (dK 1 [] false .p0 .p0 .sl0 .sl0 t.l)).set Z2.length (dK 1 t6.s false .p0 .p0 .sl0 .sl0 t.l)) Z2.length (dK 1 t6.s false .p0 .p0 .sl0 .sl0 t.l))[Z.length]? =_:=aK (c8) (by omega) _
     have BZ:aN p Z (List.set ((s6.set Z2.length (dK 1 [] false .p0 .p0 .sl0 .sl0 t.l)).set Z2.length (dK 1 t6.s false .p0 .p0 .sl0 .sl0 t.l)) Z2.length (dK 1 t6.s false .p0 .p0 .sl0 .sl0 t.l)):=(Oi).bJ (bV.bT _ _ _ _) (by omega)
     have hE:=he2
     obtain⟨t8,r8,qJ⟩:=hE.ne
     obtain⟨ht8,Xo⟩:=b_ qJ
     have hl8:(all.drop (m+1+1)).length=r8.length+1:=by rw [qJ];rfl
     rw [qJ] at hQ
     refine ak (aj (T:=bf) rfl rfl (ah (cB)) rfl) ?_
     conv=>whnf
     refine oI [61] kB ht8 (fun hi=>(aX hE qJ hi).1) (fun hi sA yA kA=>?_) (fun hi=>?_)
     ·rw [if_pos (show aY [61] (t8 :: r8)=true from hi)] at hQ
      have hQ:nJ p w g all Z d Q ((bU n d r8).bind fun x ts=>.ok (.st 1 t6.s false .nil x .nil .nil t.l) ts):=hQ
      obtain⟨hmA,SY,VJ⟩:=aX hE qJ hi
      have hlA:(all.drop (m+1+1+1)).length=r8.length:=by rw [Xo]
      rw [<-Xo] at hQ
      conv=>whnf
      refine Xn d 1 _ Z2.length Z3.length Z.length t.l t6.s false .p0 sA (m+1+1+1) _ kA hd SY (by omega) (yA.get (by omega) (RQ)) (yA.get (by omega) (cB)) (yA.get (by omega) (VI)) ⟨by omega,by omega,by omega,by omega,by omega⟩ ?_
      generalize bU n d (all.drop (m+1+1+1))=rE at hQ
      cases rE with
      | out=>trivial
      | bad c l=>exact False.elim hQ
      | ok z Oj=>
        have hQ:nJ p w g all Z d Q (.ok (.st 1 t6.s false .nil z .nil .nil t.l) Oj):=hQ
        intro R s9 m9 y9 k9 FW Ol Om
        conv=>whnf
        have lX:=((BZ).trans yA).len
        refine Fin.ref rfl (hQ _ _ _ _ (((BZ).trans yA).bJ y9 (by omega)) k9 FW ⟨Z2.length,0,.p0,R,.sl0,.sl0,by omega,rfl,Ol,rfl,?_,rfl,rfl⟩)
        exact bP.mono (fun i hi=>by first | omega | (rw [gK] at hi;omega)) (fun i hi a ha=>ha) Om
     ·rw [if_neg (by rw [show aY [61] (t8 :: r8)=iK [61] t8 from rfl,hi];decide)] at hQ
      conv=>whnf
      refine ak (aj (T:=bf) rfl rfl (ah (cB)) rfl) ?_
      conv=>whnf
      refine j_ [59] kB ht8 (fun hi=>(aX hE qJ hi).1) (fun hi sA yA kA=>?_) (fun hi=>?_)
      ·rw [aQ,if_pos (show aY [59] (t8 :: r8)=true from hi)] at hQ
       conv=>whnf
       refine ak (aj (T:=dH) rfl rfl (ah (yA.get (by omega) (RQ))) rfl) ?_
       conv=>whnf
       have lX:=(BZ).len
       exact Fin.ref rfl (hQ _ _ _ _ ((BZ).trans yA) kA Xo ⟨Z2.length,0,.p0,.p0,.sl0,.sl0,by omega,rfl,yA.get (by omega) (VI),rfl,rfl,rfl,rfl⟩)
      ·rw [aQ,if_neg (show ¬aY [59] (t8 :: r8)=true by rw [show aY [59] (t8 :: r8)=iK [59] t8 from rfl,hi];decide)] at hQ
       exact False.elim hQ
   ·simp only [fA,if_neg hk1] at hQ
    exact False.elim hQ
  ·have hW:∀s,aY s (t :: r)=(t.s == s):=fun s=>by show ((t.k == 4 || t.k == 3) && t.s == s)=_;rw [hk4];rfl
   rw [if_neg (by rw [hW,hs];decide),if_neg (by rw [hW,hs];decide),if_neg (by rw [hW,hs];decide),if_neg (by rw [hW,hs];decide),if_neg (by rw [hW,hs];decide),if_neg (by rw [hW,hs];decide),if_neg (by rw [hW,hs];decide)] at hQ
   rw [Aw n d t r hk4 (by rw [hs];decide) (by rw [hs];decide) (by rw [hs];decide) (by omega)] at hQ
   exact False.elim hQ
  ·have hW:∀s,aY s (t :: r)=(t.s == s):=fun s=>by show ((t.k == 4 || t.k == 3) && t.s == s)=_;rw [hk4];rfl
   rw [if_neg (by rw [hW,hs];decide),if_pos (by rw [hW,hs];rfl)] at hQ
   rw [show (t.s == [110,101,119])=false by rw [hs];rfl]
   conv=>whnf
   refine ak (aj (T:=fB) rfl rfl (ah (ct)) rfl) ?_
   conv=>whnf
   rw [show (t.s == [105,110])=false by rw [hs];rfl]
   conv=>whnf
   refine ak (aj (T:=bf) rfl rfl (ah (c1)) rfl) ?_
   conv=>whnf
   refine jm h4 hm1 fun s5 y5 k5=>?_
   have c5:=y5.get (by omega) c1
   have EL:=y5.get (by omega) ct
   have zK:=y5.get (by omega) cx
   have uK:=y5.get (by omega) b4
   have wX:=xx.trans y5
   have l5:=y5.len
   conv=>whnf
   refine ak (aj (T:=fB) rfl rfl (ah (EL)) rfl) ?_
   conv=>whnf
   rw [show (t.s == [118,97,114])=false by rw [hs];rfl]
   conv=>whnf
   rw [show (t.s == [105,102])=true by rw [hs];rfl]
   conv=>whnf
   rw [<-hr] at hQ
   refine ak (aj (T:=bf) rfl rfl (ah (c5)) rfl) ?_
   conv=>whnf
   refine ak (aj (T:=fF) rfl rfl (ah (EL)) rfl) ?_
   conv=>whnf
   refine ih.branch d t.l s5 (m+1) _ k5 hd he1 (by omega) (hQ.to wX fun o g' s q=>?_)
   conv=>whnf
   exact Fin.ref rfl q
  ·have hW:∀s,aY s (t :: r)=(t.s == s):=fun s=>by show ((t.k == 4 || t.k == 3) && t.s == s)=_;rw [hk4];rfl
   rw [if_neg (by rw [hW,hs];decide),if_neg (by rw [hW,hs];decide),if_neg (by rw [hW,hs];decide),if_neg (by rw [hW,hs];decide),if_neg (by rw [hW,hs];decide),if_neg (by rw [hW,hs];decide),if_neg (by rw [hW,hs];decide)] at hQ
   rw [Aw n d t r hk4 (by rw [hs];decide) (by rw [hs];decide) (by rw [hs];decide) (by omega)] at hQ
   exact False.elim hQ
  ·have hW:∀s,aY s (t :: r)=(t.s == s):=fun s=>by show ((t.k == 4 || t.k == 3) && t.s == s)=_;rw [hk4];rfl
   rw [if_neg (by rw [hW,hs];decide),if_neg (by rw [hW,hs];decide),if_pos (by rw [hW,hs];rfl)] at hQ
   rw [show (t.s == [110,101,119])=false by rw [hs];rfl]
   conv=>whnf
   refine ak (aj (T:=fB) rfl rfl (ah (ct)) rfl) ?_
   conv=>whnf
   rw [show (t.s == [105,110])=false by rw [hs];rfl]
   conv=>whnf
   refine ak (aj (T:=bf) rfl rfl (ah (c1)) rfl) ?_
   conv=>whnf
   refine jm h4 hm1 fun s5 y5 k5=>?_
   have c5:=y5.get (by omega) c1
   have EL:=y5.get (by omega) ct
   have zK:=y5.get (by omega) cx
   have uK:=y5.get (by omega) b4
   have wX:=xx.trans y5
   have l5:=y5.len
   conv=>whnf
   refine ak (aj (T:=fB) rfl rfl (ah (EL)) rfl) ?_
   conv=>whnf
   rw [show (t.s == [118,97,114])=false by rw [hs];rfl]
   conv=>whnf
   rw [show (t.s == [105,102])=false by rw [hs];rfl]
   conv=>whnf
   rw [show (t.s == [119,104,105,108,101])=true by rw [hs];rfl]
   conv=>whnf
   rw [<-hr] at hQ
   have hg:=(uD n).expr d 1 (all.drop (m+1)) he1 (by omega)
   refine ak (aj (T:=dH) rfl rfl (ah (uK)) rfl) ?_
   conv=>whnf
   refine ak (aj (T:=dH) rfl rfl (ah (uK)) rfl) ?_
   conv=>whnf
   refine ak (aj (T:=bf) rfl rfl (ah (c5)) rfl) ?_
   conv=>whnf
   refine ihE.expr d 1 s5 (m+1) _ k5 hd (by omega) he1 (by omega) ?_
   generalize dn n d 1 (all.drop (m+1))=r1 at hg hQ
   cases r1 with
   | out=>exact hg.elim
   | bad c l=>exact False.elim hQ
   | ok z bI=>
     have hQ:nJ p w g all Z d Q ((dD n d bI).bind fun th ts=>.ok (.st 5 [] false .nil z th .nil t.l) ts):=hQ
     intro o g' s6 m6 y6 k6 hm6 LV
     have wI:=y6.get (by omega) zK
     have yZ:=y6.get (by omega) uK
     have c6:=y6.get (by omega) c5
     have l6:=y6.len
     rw [<-hm6] at hQ hg
     have lg:=hg.2.2
     have hgb:=(FN n).block d (all.drop m6) hg.2.1 (by omega)
     conv=>whnf
     refine⟨?_,?_⟩
     ·conv=>whnf
      refine ak (aj (T:=dH) rfl rfl (ah (yZ)) rfl) ?_
      rfl
     conv=>whnf
     refine⟨?_,?_⟩
     ·conv=>whnf
      refine ak (aj (T:=dH) rfl rfl (ah (yZ)) rfl) ?_
      rfl
     conv=>whnf
     refine ak (aC (T:=fF) ([.i .i64 5,.s [],.b false,.p0,.p0,.sl0,.sl0,.i .i64 t.l]) rfl (wI) rfl rfl (aU rfl) rfl) ?_
     conv=>whnf
     have k7:=k6.st wI (dK 5 [] false .p0 .p0 .sl0 .sl0 t.l)
     have wY:(s6.set Z2.length (dK 5 [] false .p0 .p0 .sl0 .sl0 t.l))[Z2.length]? =_:=at_set wI _
     have wZ:(s6.set Z2.length (dK 5 [] false .p0 .p0 .sl0 .sl0 t.l))[Z3.length]? =_:=aK yZ (by omega) _
     have c7:(s6.set Z2.length (dK 5 [] false .p0 .p0 .sl0 .sl0 t.l))[Z.length]? =_:=aK c6 (by omega) _
     refine⟨?_,?_⟩
     ·conv=>whnf
      refine ak (aj (T:=dH) rfl rfl (ah (wZ)) rfl) ?_
      rfl
     conv=>whnf
     refine ak (aC (T:=aW) ([.i .i64 5,.s [],.b false,.p0,.p o g' 0,.sl0,.sl0,.i .i64 t.l]) rfl (wY) rfl rfl (aU rfl) rfl) ?_
     conv=>whnf
     have k8:=k7.st wY (dK 5 [] false .p0 (.p o g' 0) .sl0 .sl0 t.l)
     have mZ:((s6.set Z2.length (dK 5 [] false .p0 .p0 .sl0 .sl0 t.l)).set Z2.length (dK 5 [] false .p0 (.p o g' 0) .sl0 .sl0 t.l))[Z2.length]? =_:=at_set wY _
     have oM:((s6.set Z2.length (dK 5 [] false .p0 .p0 .sl0 .sl0 t.l)).set Z2.length (dK 5 [] false .p0 (.p o g' 0) .sl0 .sl0 t.l))[Z3.length]? =_:=aK wZ (by omega) _
     have Oi:aN p Z ((s6.set Z2.length (dK 5 [] false .p0 .p0 .sl0 .sl0 t.l)).set Z2.length (dK 5 [] false .p0 (.p o g' 0) .sl0 .sl0 t.l)):=((wX.trans y6).bJ (bV.bT _ _ _ _) (by omega)).bJ (bV.bT _ _ _ _) (by omega)
     refine ak (aj (T:=dH) rfl rfl (ah (oM)) rfl) ?_
     conv=>whnf
     refine ak (aj (T:=bf) rfl rfl (ah (aK c7 (by omega) _)) rfl) ?_
     conv=>whnf
     refine ih.block d _ m6 _ k8 hd hg.2.1 (by omega) ?_
     generalize dD n d (all.drop m6)=r2 at hgb hQ
     cases r2 with
     | out=>exact hgb.elim
     | bad c l=>exact False.elim hQ
     | ok th dM=>
       have hQ:nJ p w g all Z d Q (.ok (.st 5 [] false .nil z th .nil t.l) dM):=hQ
       intro A s9 m9 y9 k9 FW hth hA
       have l9:s6.length<=s9.length:=by have:=y9.len;rw [gK,gK] at this;exact this
       refine dJ _ _ ?_
       conv=>whnf
       refine⟨?_,?_⟩
       ·conv=>whnf
        refine ak (aj (T:=dH) rfl rfl (ah (y9.get (by omega) oM)) rfl) ?_
        rfl
       conv=>whnf
       refine ak (ji (T:=dL) [.i .i64 5,.s [],.b false,.p0,.p o g' 0,A,.sl0,.i .i64 t.l] hA rfl rfl (y9.get (by omega) mZ) (aU rfl) rfl) ?_
       have k10:=k9.st (y9.get (by omega) mZ) (dK 5 [] false .p0 (.p o g' 0) A .sl0 t.l)
       conv=>whnf
       refine ak (aj (T:=dH) rfl rfl (ah (aK (y9.get (by omega) oM) (by omega) _)) rfl) ?_
       conv=>whnf
       refine Fin.ref rfl (hQ _ _ _ _ ((Oi.trans y9).bJ (bV.bT _ _ _ _) (by omega)) k10 FW ⟨Z2.length,0,.p0,.p o g' 0,A,.sl0,by omega,rfl,at_set (y9.get (by omega) mZ) _,rfl,?_,?_,rfl⟩)
       ·exact bP.mono (fun i hi=>by omega) (fun i hi a ha=>aK (y9.get (by omega) (aK (aK ha (by omega) _) (by omega) _)) (by omega) _) LV
       ·exact dX.mono (fun i hi=>by rw [gK,gK] at hi;omega) (fun i hi a ha=>aK ha (by rw [gK,gK] at hi;omega) _) hth
  ·have hW:∀s,aY s (t :: r)=(t.s == s):=fun s=>by show ((t.k == 4 || t.k == 3) && t.s == s)=_;rw [hk4];rfl
   rw [if_neg (by rw [hW,hs];decide),if_neg (by rw [hW,hs];decide),if_neg (by rw [hW,hs];decide),if_pos (by rw [hW,hs];rfl)] at hQ
   rw [show (t.s == [110,101,119])=false by rw [hs];rfl]
   conv=>whnf
   refine ak (aj (T:=fB) rfl rfl (ah (ct)) rfl) ?_
   conv=>whnf
   rw [show (t.s == [105,110])=false by rw [hs];rfl]
   conv=>whnf
   refine ak (aj (T:=bf) rfl rfl (ah (c1)) rfl) ?_
   conv=>whnf
   refine jm h4 hm1 fun s5 y5 k5=>?_
   have c5:=y5.get (by omega) c1
   have EL:=y5.get (by omega) ct
   have zK:=y5.get (by omega) cx
   have uK:=y5.get (by omega) b4
   have wX:=xx.trans y5
   have l5:=y5.len
   conv=>whnf
   refine ak (aj (T:=fB) rfl rfl (ah (EL)) rfl) ?_
   conv=>whnf
   rw [show (t.s == [118,97,114])=false by rw [hs];rfl]
   conv=>whnf
   rw [show (t.s == [105,102])=false by rw [hs];rfl]
   conv=>whnf
   rw [show (t.s == [119,104,105,108,101])=false by rw [hs];rfl]
   conv=>whnf
   rw [show (t.s == [111,117,116])=true by rw [hs];rfl]
   conv=>whnf
   rw [<-hr] at hQ
   refine Xn d 6 _ Z2.length Z3.length Z.length t.l [] false .p0 s5 (m+1) _ k5 hd he1 (by omega) (uK) (c5) (zK) ⟨by omega,by omega,by omega,by omega,by omega⟩ ?_
   generalize bU n d (all.drop (m+1))=rE at hQ
   cases rE with
   | out=>trivial
   | bad c l=>exact False.elim hQ
   | ok z Oj=>
     have hQ:nJ p w g all Z d Q (.ok (.st 6 [] false .nil z .nil .nil t.l) Oj):=hQ
     intro R s9 m9 y9 k9 FW Ol Om
     conv=>whnf
     have lX:=(wX).len
     refine Fin.ref rfl (hQ _ _ _ _ ((wX).bJ y9 (by omega)) k9 FW ⟨Z2.length,0,.p0,R,.sl0,.sl0,by omega,rfl,Ol,rfl,?_,rfl,rfl⟩)
     exact bP.mono (fun i hi=>by first | omega | (rw [gK] at hi;omega)) (fun i hi a ha=>ha) Om
  ·have hW:∀s,aY s (t :: r)=(t.s == s):=fun s=>by show ((t.k == 4 || t.k == 3) && t.s == s)=_;rw [hk4];rfl
   rw [if_neg (by rw [hW,hs];decide),if_neg (by rw [hW,hs];decide),if_neg (by rw [hW,hs];decide),if_neg (by rw [hW,hs];decide),if_pos (by rw [hW,hs];rfl)] at hQ
   rw [show (t.s == [110,101,119])=false by rw [hs];rfl]
   conv=>whnf
   refine ak (aj (T:=fB) rfl rfl (ah (ct)) rfl) ?_
   conv=>whnf
   rw [show (t.s == [105,110])=false by rw [hs];rfl]
   conv=>whnf
   refine ak (aj (T:=bf) rfl rfl (ah (c1)) rfl) ?_
   conv=>whnf
   refine jm h4 hm1 fun s5 y5 k5=>?_
   have c5:=y5.get (by omega) c1
   have EL:=y5.get (by omega) ct
   have zK:=y5.get (by omega) cx
   have uK:=y5.get (by omega) b4
   have wX:=xx.trans y5
   have l5:=y5.len
   conv=>whnf
   refine ak (aj (T:=fB) rfl rfl (ah (EL)) rfl) ?_
   conv=>whnf
   rw [show (t.s == [118,97,114])=false by rw [hs];rfl]
   conv=>whnf
   rw [show (t.s == [105,102])=false by rw [hs];rfl]
   conv=>whnf
   rw [show (t.s == [119,104,105,108,101])=false by rw [hs];rfl]
   conv=>whnf
   rw [show (t.s == [111,117,116])=false by rw [hs];rfl]
   conv=>whnf
   rw [show (t.s == [102,114,101,101])=true by rw [hs];rfl]
   conv=>whnf
   rw [<-hr] at hQ
   refine Xn d 7 _ Z2.length Z3.length Z.length t.l [] false .p0 s5 (m+1) _ k5 hd he1 (by omega) (uK) (c5) (zK) ⟨by omega,by omega,by omega,by omega,by omega⟩ ?_
   generalize bU n d (all.drop (m+1))=rE at hQ
   cases rE with
   | out=>trivial
   | bad c l=>exact False.elim hQ
   | ok z Oj=>
     have hQ:nJ p w g all Z d Q (.ok (.st 7 [] false .nil z .nil .nil t.l) Oj):=hQ
     intro R s9 m9 y9 k9 FW Ol Om
     conv=>whnf
     have lX:=(wX).len
     refine Fin.ref rfl (hQ _ _ _ _ ((wX).bJ y9 (by omega)) k9 FW ⟨Z2.length,0,.p0,R,.sl0,.sl0,by omega,rfl,Ol,rfl,?_,rfl,rfl⟩)
     exact bP.mono (fun i hi=>by first | omega | (rw [gK] at hi;omega)) (fun i hi a ha=>ha) Om
  ·have hW:∀s,aY s (t :: r)=(t.s == s):=fun s=>by show ((t.k == 4 || t.k == 3) && t.s == s)=_;rw [hk4];rfl
   rw [if_neg (by rw [hW,hs];decide),if_neg (by rw [hW,hs];decide),if_neg (by rw [hW,hs];decide),if_neg (by rw [hW,hs];decide),if_neg (by rw [hW,hs];decide),if_pos (by rw [hW,hs];rfl)] at hQ
   rw [show (t.s == [110,101,119])=false by rw [hs];rfl]
   conv=>whnf
   refine ak (aj (T:=fB) rfl rfl (ah (ct)) rfl) ?_
   conv=>whnf
   rw [show (t.s == [105,110])=false by rw [hs];rfl]
   conv=>whnf
   refine ak (aj (T:=bf) rfl rfl (ah (c1)) rfl) ?_
   conv=>whnf
   refine jm h4 hm1 fun s5 y5 k5=>?_
   have c5:=y5.get (by omega) c1
   have EL:=y5.get (by omega) ct
   have zK:=y5.get (by omega) cx
   have uK:=y5.get (by omega) b4
   have wX:=xx.trans y5
   have l5:=y5.len
   conv=>whnf
   refine ak (aj (T:=fB) rfl rfl (ah (EL)) rfl) ?_
   conv=>whnf
   rw [show (t.s == [118,97,114])=false by rw [hs];rfl]
   conv=>whnf
   rw [show (t.s == [105,102])=false by rw [hs];rfl]
   conv=>whnf
   rw [show (t.s == [119,104,105,108,101])=false by rw [hs];rfl]
   conv=>whnf
   rw [show (t.s == [111,117,116])=false by rw [hs];rfl]
   conv=>whnf
   rw [show (t.s == [102,114,101,101])=false by rw [hs];rfl]
   conv=>whnf
   rw [show (t.s == [100,114,97,105,110])=true by rw [hs];rfl]
   conv=>whnf
   obtain⟨t6,r6,kX⟩:=he1.ne
   obtain⟨Qg,FV⟩:=b_ kX
   rw [<-hr,kX] at hQ
   refine ak (aj (T:=dH) rfl rfl (ah (uK)) rfl) ?_
   conv=>whnf
   refine ak (aC (T:=fF) ([.i .i64 8,.s [],.b false,.p0,.p0,.sl0,.sl0,.i .i64 t.l]) rfl (zK) rfl rfl (aU rfl) rfl) ?_
   conv=>whnf
   have k6:=k5.st zK (dK 8 [] false .p0 .p0 .sl0 .sl0 t.l)
   have wI:(s5.set Z2.length (dK 8 [] false .p0 .p0 .sl0 .sl0 t.l))[Z2.length]? =_:=at_set zK _
   have yZ:(s5.set Z2.length (dK 8 [] false .p0 .p0 .sl0 .sl0 t.l))[Z3.length]? =_:=aK uK (by omega) _
   have xx6:aN p Z (s5.set Z2.length (dK 8 [] false .p0 .p0 .sl0 .sl0 t.l)):=wX.bJ (bV.bT _ _ _ _) (by omega)
   refine ak (aj (T:=bf) rfl rfl (ah (aK c5 (by omega) _)) rfl) ?_
   conv=>whnf
   refine j_ [59] k6 Qg (fun hi=>(aX he1 kX hi).1) (fun hi s7 y7 k7=>?_) (fun hi=>?_)
   ·rw [aQ,if_pos (show aY [59] (t6 :: r6)=true from hi)] at hQ
    conv=>whnf
    refine ak (aj (T:=dH) rfl rfl (ah (y7.get (by omega) yZ)) rfl) ?_
    conv=>whnf
    have lx6:=xx6.len
    exact Fin.ref rfl (hQ _ _ _ _ (xx6.trans y7) k7 FV ⟨Z2.length,0,.p0,.p0,.sl0,.sl0,by omega,rfl,y7.get (by omega) wI,rfl,rfl,rfl,rfl⟩)
   ·rw [aQ,if_neg (show ¬aY [59] (t6 :: r6)=true by rw [show aY [59] (t6 :: r6)=iK [59] t6 from rfl,hi];decide)] at hQ
    exact False.elim hQ
  ·have hW:∀s,aY s (t :: r)=(t.s == s):=fun s=>by show ((t.k == 4 || t.k == 3) && t.s == s)=_;rw [hk4];rfl
   rw [if_neg (by rw [hW,hs];decide),if_neg (by rw [hW,hs];decide),if_neg (by rw [hW,hs];decide),if_neg (by rw [hW,hs];decide),if_neg (by rw [hW,hs];decide),if_neg (by rw [hW,hs];decide),if_pos (by rw [hW,hs];rfl)] at hQ
   rw [show (t.s == [110,101,119])=false by rw [hs];rfl]
   conv=>whnf
   refine ak (aj (T:=fB) rfl rfl (ah (ct)) rfl) ?_
   conv=>whnf
   rw [show (t.s == [105,110])=false by rw [hs];rfl]
   conv=>whnf
   refine ak (aj (T:=bf) rfl rfl (ah (c1)) rfl) ?_
   conv=>whnf
   refine jm h4 hm1 fun s5 y5 k5=>?_
   have c5:=y5.get (by omega) c1
   have EL:=y5.get (by omega) ct
   have zK:=y5.get (by omega) cx
   have uK:=y5.get (by omega) b4
   have wX:=xx.trans y5
   have l5:=y5.len
   conv=>whnf
   refine ak (aj (T:=fB) rfl rfl (ah (EL)) rfl) ?_
   conv=>whnf
   rw [show (t.s == [118,97,114])=false by rw [hs];rfl]
   conv=>whnf
   rw [show (t.s == [105,102])=false by rw [hs];rfl]
   conv=>whnf
   rw [show (t.s == [119,104,105,108,101])=false by rw [hs];rfl]
   conv=>whnf
   rw [show (t.s == [111,117,116])=false by rw [hs];rfl]
   conv=>whnf
   rw [show (t.s == [102,114,101,101])=false by rw [hs];rfl]
   conv=>whnf
   rw [show (t.s == [100,114,97,105,110])=false by rw [hs];rfl]
   conv=>whnf
   rw [show (t.s == [114,101,116,117,114,110])=true by rw [hs];rfl]
   conv=>whnf
   obtain⟨t6,r6,kX⟩:=he1.ne
   obtain⟨Qg,FV⟩:=b_ kX
   rw [<-hr,kX] at hQ
   refine ak (aj (T:=bf) rfl rfl (ah (c5)) rfl) ?_
   conv=>whnf
   refine oI [59] k5 Qg (fun hi=>(aX he1 kX hi).1) (fun hi s6 y6 k6=>?_) (fun hi=>?_)
   ·rw [if_pos (show aY [59] (t6 :: r6)=true from hi)] at hQ
    have hQ:nJ p w g all Z d Q (.ok (.st 9 [] false .nil .nil .nil .nil t.l) r6):=hQ
    conv=>whnf
    refine ak (aj (T:=dH) rfl rfl (ah (y6.get (by omega) uK)) rfl) ?_
    conv=>whnf
    refine ak (aC (T:=fF) ([.i .i64 9,.s [],.b false,.p0,.p0,.sl0,.sl0,.i .i64 t.l]) rfl (y6.get (by omega) zK) rfl rfl (aU rfl) rfl) ?_
    conv=>whnf
    have wI:=y6.get (by omega) zK
    have k7:=k6.st wI (dK 9 [] false .p0 .p0 .sl0 .sl0 t.l)
    refine ak (aj (T:=dH) rfl rfl (ah (aK (y6.get (by omega) uK) (by omega) _)) rfl) ?_
    conv=>whnf
    have xx7:aN p Z (s6.set Z2.length (dK 9 [] false .p0 .p0 .sl0 .sl0 t.l)):=(wX.trans y6).bJ (bV.bT _ _ _ _) (by omega)
    exact Fin.ref rfl (hQ _ _ _ _ xx7 k7 FV ⟨Z2.length,0,.p0,.p0,.sl0,.sl0,by omega,rfl,at_set wI _,rfl,rfl,rfl,rfl⟩)
   ·rw [if_neg (by rw [show aY [59] (t6 :: r6)=iK [59] t6 from rfl,hi];decide),<-kX] at hQ
    conv=>whnf
    refine Xn d 9 _ Z2.length Z3.length Z.length t.l [] false .p0 s5 (m+1) _ k5 hd he1 (by omega) (uK) (c5) (zK) ⟨by omega,by omega,by omega,by omega,by omega⟩ ?_
    generalize bU n d (all.drop (m+1))=rE at hQ
    cases rE with
    | out=>trivial
    | bad c l=>exact False.elim hQ
    | ok z Oj=>
      have hQ:nJ p w g all Z d Q (.ok (.st 9 [] false .nil z .nil .nil t.l) Oj):=hQ
      intro R s9 m9 y9 k9 FW Ol Om
      conv=>whnf
      have lX:=(wX).len
      refine Fin.ref rfl (hQ _ _ _ _ ((wX).bJ y9 (by omega)) k9 FW ⟨Z2.length,0,.p0,R,.sl0,.sl0,by omega,rfl,Ol,rfl,?_,rfl,rfl⟩)
      exact bP.mono (fun i hi=>by first | omega | (rw [gK] at hi;omega)) (fun i hi a ha=>ha) Om
 case' inl=>
  have hW:∀s,s∈keys->aY s (t :: r)=false:=fun s hs=>by show ((t.k == 4 || t.k == 3) && t.s == s)=_;rw [beq_eq_false_iff_ne.2 hk4,Bool.false_or];exact nokey (hko t (List.mem_of_getElem? ht)).2 s hs
  rw [if_neg (by rw [hW _ (by decide)];decide),if_neg (by rw [hW _ (by decide)];decide),if_neg (by rw [hW _ (by decide)];decide),if_neg (by rw [hW _ (by decide)];decide),if_neg (by rw [hW _ (by decide)];decide),if_neg (by rw [hW _ (by decide)];decide),if_neg (by rw [hW _ (by decide)];decide)] at hQ
  rw [decide_eq_false (by omega)]
  conv=>whnf
 case' inr.inl=>
  rw [decide_eq_true (by omega)]
  conv=>whnf
  refine ak (aj (T:=bf) rfl rfl (ah (c1)) rfl) ?_
  conv=>whnf
  refine au.to (mW h4) ?_
  conv=>whnf
  refine ak (aj (T:=fB) rfl rfl (ah (ct)) rfl) ?_
  conv=>whnf
  have hW:∀s,aY s (t :: r)=(t.s == s):=fun s=>by show ((t.k == 4 || t.k == 3) && t.s == s)=_;rw [hk4];rfl
  rw [if_neg (by rw [hW,hs];decide),if_neg (by rw [hW,hs];decide),if_neg (by rw [hW,hs];decide),if_neg (by rw [hW,hs];decide),if_neg (by rw [hW,hs];decide),if_neg (by rw [hW,hs];decide),if_neg (by rw [hW,hs];decide)] at hQ
  rw [show (t.s == [110,101,119])=true by rw [hs];rfl]
  conv=>whnf
 case' inr.inr.inl=>
  rw [decide_eq_true (by omega)]
  conv=>whnf
  refine ak (aj (T:=bf) rfl rfl (ah (c1)) rfl) ?_
  conv=>whnf
  refine au.to (mW h4) ?_
  conv=>whnf
  refine ak (aj (T:=fB) rfl rfl (ah (ct)) rfl) ?_
  conv=>whnf
  have hW:∀s,aY s (t :: r)=(t.s == s):=fun s=>by show ((t.k == 4 || t.k == 3) && t.s == s)=_;rw [hk4];rfl
  rw [if_neg (by rw [hW,hs];decide),if_neg (by rw [hW,hs];decide),if_neg (by rw [hW,hs];decide),if_neg (by rw [hW,hs];decide),if_neg (by rw [hW,hs];decide),if_neg (by rw [hW,hs];decide),if_neg (by rw [hW,hs];decide)] at hQ
  rw [show (t.s == [110,101,119])=false by rw [hs];rfl]
  conv=>whnf
  refine ak (aj (T:=fB) rfl rfl (ah (ct)) rfl) ?_
  conv=>whnf
  rw [show (t.s == [105,110])=true by rw [hs];rfl]
  conv=>whnf
 all_goals
  have hQ:nJ p w g all Z d Q ((gW n d (all.drop m)).bind fun x ts=>match x with
   | .nil=>.out
   | .ex k _ nm _ _ _ _ _=>
     if aY [61] ts=true then
      if k=2 then(bU n d ts.tail).bind fun y ts=>.ok (.st 2 nm false .nil y .nil .nil t.l) ts
      else if k=5\/k=6 then(bU n d ts.tail).bind fun y ts=>.ok (.st 3 [] false x y .nil .nil t.l) ts
      else .bad 4 (kW ts)
     else if k=4 then(aQ [59] ts).bind fun _ ts=>.ok (.st 10 [] false .nil x .nil .nil t.l) ts
     else .bad 4 (kW ts)):=by rw [hts];exact hQ
  have hg:=(uD n).post d (all.drop m) he (by omega)
  refine ak (aj (T:=bf) rfl rfl (ah (c1)) rfl) ?_
  conv=>whnf
  refine ihE.post d Z4 m _ h4 hd he (by omega) ?_
  generalize gW n d (all.drop m)=r1 at hg hQ
  cases r1 with
  | out=>exact hg.elim
  | bad c l=>exact False.elim hQ
  | ok z bI=>
    intro o g' s6 m6 y6 k6 hm6 LV
    have c6:=y6.get (by omega) c1
    have yZ:=y6.get (by omega) b4
    have wI:=y6.get (by omega) cx
    have he2:aZ (all.drop m6):=by rw [hm6];exact hg.2.1
    obtain⟨t6,r6,kX⟩:=he2.ne
    obtain⟨Qg,FV⟩:=b_ kX
    have hl6:(all.drop m6).length=r6.length+1:=by rw [kX];rfl
    have lg:=hg.2.2
    rw [<-hm6] at lg
    cases z with
    | nil=>exact hg.1.elim
    | ex kz nz FX tz lz rz az Xp=>
      have hQ:nJ p w g all Z d Q (
       if aY [61] bI=true then
        if kz=2 then(bU n d bI.tail).bind fun y ts=>.ok (.st 2 FX false .nil y .nil .nil t.l) ts
        else if kz=5\/kz=6 then(bU n d bI.tail).bind fun y ts=>.ok (.st 3 [] false (.ex kz nz FX tz lz rz az Xp) y .nil .nil t.l) ts
        else .bad 4 (kW bI)
       else if kz=4 then(aQ [59] bI).bind fun _ ts=>.ok (.st 10 [] false .nil (.ex kz nz FX tz lz rz az Xp) .nil .nil t.l) ts
       else .bad 4 (kW bI)):=hQ
      have hez':=LV
      obtain⟨oz,gz,Lz,Rz,Az,hoz,hvz,hzo,_,_,_⟩:=hez'
      cases hvz
      rw [<-hm6,kX] at hQ
      conv=>whnf
      refine ak (aj (T:=bf) rfl rfl (ah (c6)) rfl) ?_
      conv=>whnf
      have b7:(newCells 9 [.s [61]] s6)[s6.length]? =some ⟨0,false,.cells 9 [.s [61]]⟩:=aG _ _ _
      have x7:Ext s6 (newCells 9 [.s [61]] s6):=(Ext.refl s6).new _ _
      have l7:(newCells 9 [.s [61]] s6).length=s6.length+1:=aH _ _ _
      generalize newCells 9 [.s [61]] s6=Z7 at b7 x7 l7 ⊢
      have k7:=k6.ext x7
      have c7:=x7.get c6
      have wZ:=x7.get yZ
      have wY:=x7.get wI
      have zo7:=x7.get hzo
      have l6:=y6.len
      have hez7:bP (fun i=>Z4.length<=i) Z7 (.p o g' 0) (.ex kz nz FX tz lz rz az Xp):=bP.mono (fun i hi=>hi) (fun i hi a ha=>x7.get ha) LV
      have xx7:aN p Z Z7:=(xx.trans y6).trans (aN.of x7)
      refine au.to (BX [[61]] k7 Qg s6.length 0 (ah b7) (aU rfl)) ?_
      conv=>whnf
      rw [jU]
      cases hi:iK [61] t6 with
      | false=>
        rw [if_neg (by rw [show aY [61] (t6 :: r6)=iK [61] t6 from rfl,hi];decide)] at hQ
        conv=>whnf
        refine ak (aj (T:=bf) rfl rfl (ah (c7)) rfl) ?_
        conv=>whnf
        refine au.to (mW k7) ?_
        conv=>whnf
        refine ak (aj (T:=fF) rfl rfl (ah (zo7)) rfl) ?_
        conv=>whnf
        by_cases h4k:kz=4
        ·rw [if_pos h4k] at hQ
         rw [decide_eq_true (by omega)]
         conv=>whnf
         refine ak (aj (T:=dH) rfl rfl (ah (wZ)) rfl) ?_
         conv=>whnf
         refine ak (aj (T:=dH) rfl rfl (ah (wZ)) rfl) ?_
         conv=>whnf
         refine ak (aC (T:=fF) ([.i .i64 10,.s [],.b false,.p0,.p0,.sl0,.sl0,.i .i64 t.l]) rfl (wY) rfl rfl (aU rfl) rfl) ?_
         conv=>whnf
         have k8:=k7.st wY (dK 10 [] false .p0 .p0 .sl0 .sl0 t.l)
         have mZ:(Z7.set Z2.length (dK 10 [] false .p0 .p0 .sl0 .sl0 t.l))[Z2.length]? =_:=at_set wY _
         have oM:(Z7.set Z2.length (dK 10 [] false .p0 .p0 .sl0 .sl0 t.l))[Z3.length]? =_:=aK wZ (by omega) _
         have c8:(Z7.set Z2.length (dK 10 [] false .p0 .p0 .sl0 .sl0 t.l))[Z.length]? =_:=aK c7 (by omega) _
         refine⟨?_,?_⟩
         ·conv=>whnf
          refine ak (aj (T:=dH) rfl rfl (ah (oM)) rfl) ?_
          rfl
         conv=>whnf
         refine ak (aC (T:=aW) ([.i .i64 10,.s [],.b false,.p0,.p o g' 0,.sl0,.sl0,.i .i64 t.l]) rfl (mZ) rfl rfl (aU rfl) rfl) ?_
         conv=>whnf
         have k9:=k8.st mZ (dK 10 [] false .p0 (.p o g' 0) .sl0 .sl0 t.l)
         have EM:((Z7.set Z2.length (dK 10 [] false .p0 .p0 .sl0 .sl0 t.l)).set Z2.length (dK 10 [] false .p0 (.p o g' 0) .sl0 .sl0 t.l))[Z2.length]? =_:=at_set mZ _
         have CS:((Z7.set Z2.length (dK 10 [] false .p0 .p0 .sl0 .sl0 t.l)).set Z2.length (dK 10 [] false .p0 (.p o g' 0) .sl0 .sl0 t.l))[Z3.length]? =_:=aK oM (by omega) _
         have xx9:aN p Z ((Z7.set Z2.length (dK 10 [] false .p0 .p0 .sl0 .sl0 t.l)).set Z2.length (dK 10 [] false .p0 (.p o g' 0) .sl0 .sl0 t.l)):=(xx7.bJ (bV.bT _ _ _ _) (by omega)).bJ (bV.bT _ _ _ _) (by omega)
         have ll9:((Z7.set Z2.length (dK 10 [] false .p0 .p0 .sl0 .sl0 t.l)).set Z2.length (dK 10 [] false .p0 (.p o g' 0) .sl0 .sl0 t.l)).length=Z7.length:=by rw [gK,gK]
         refine ak (aj (T:=bf) rfl rfl (ah (aK c8 (by omega) _)) rfl) ?_
         conv=>whnf
         have he7:=kX▸he2
         refine j_ [59] k9 Qg (fun hi=>(aX he2 kX hi).1) (fun hi s8 y8 k8'=>?_) (fun hi=>?_)
         ·rw [aQ,if_pos (show aY [59] (t6 :: r6)=true from hi)] at hQ
          have hQ:nJ p w g all Z d Q (.ok (.st 10 [] false .nil (.ex kz nz FX tz lz rz az Xp) .nil .nil t.l) r6):=hQ
          conv=>whnf
          refine ak (aj (T:=dH) rfl rfl (ah (y8.get (by omega) CS)) rfl) ?_
          conv=>whnf
          refine Fin.ref rfl (hQ _ _ _ _ (xx9.trans y8) k8' FV ⟨Z2.length,0,.p0,.p o g' 0,.sl0,.sl0,by omega,rfl,y8.get (by omega) EM,rfl,?_,rfl,rfl⟩)
          exact bP.mono (fun i hi=>by omega) (fun i hi a ha=>y8.get (by omega) (aK (aK ha (by omega) _) (by omega) _)) hez7
         ·rw [aQ,if_neg (show ¬aY [59] (t6 :: r6)=true by rw [show aY [59] (t6 :: r6)=iK [59] t6 from rfl,hi];decide)] at hQ
          exact False.elim hQ
        ·rw [if_neg h4k] at hQ
         exact False.elim hQ
      | true=>
        rw [if_pos (show aY [61] (t6 :: r6)=true from hi)] at hQ
        conv=>whnf
        refine ak (aj (T:=bf) rfl rfl (ah (c7)) rfl) ?_
        conv=>whnf
        refine au.to (mW k7) ?_
        conv=>whnf
        refine ak (aj (T:=fF) rfl rfl (ah (zo7)) rfl) ?_
        conv=>whnf
        by_cases h2k:kz=2
        ·rw [if_pos h2k] at hQ
         have hQ:nJ p w g all Z d Q ((bU n d r6).bind fun y ts=>.ok (.st 2 FX false .nil y .nil .nil t.l) ts):=hQ
         obtain⟨hmA,SY,VJ⟩:=aX he2 kX hi
         have hlA:(all.drop (m6+1)).length=r6.length:=by rw [FV]
         rw [<-FV] at hQ
         rw [decide_eq_true (by omega)]
         conv=>whnf
         refine ak (aj (T:=bf) rfl rfl (ah (c7)) rfl) ?_
         conv=>whnf
         refine jm k7 hmA fun s8 y8 k8=>?_
         have oM:=y8.get (by omega) wZ
         have mZ:=y8.get (by omega) wY
         have c8:=y8.get (by omega) c7
         have zo8:=y8.get (by omega) zo7
         have Oi:=xx7.trans y8
         have l8:=y8.len
         conv=>whnf
         refine ak (aj (T:=dH) rfl rfl (ah (oM)) rfl) ?_
         conv=>whnf
         refine ak (aj (T:=fB) rfl rfl (ah (zo8)) rfl) ?_
         conv=>whnf
         refine ak (aC (T:=fB) ([.i .i64 0,.s FX,.b false,.p0,.p0,.sl0,.sl0,.i .i64 t.l]) rfl (mZ) rfl rfl (aU rfl) rfl) ?_
         conv=>whnf
         have kB:=k8.st mZ (dK 0 FX false .p0 .p0 .sl0 .sl0 t.l)
         have VI:(s8.set Z2.length (dK 0 FX false .p0 .p0 .sl0 .sl0 t.l))[Z2.length]? =_:=at_set mZ _
         have RQ:(s8.set Z2.length (dK 0 FX false .p0 .p0 .sl0 .sl0 t.l))[Z3.length]? =_:=aK oM (by omega) _
         have cB:(s8.set Z2.length (dK 0 FX false .p0 .p0 .sl0 .sl0 t.l))[Z.length]? =_:=aK c8 (by omega) _
         have llB:(s8.set Z2.length (dK 0 FX false .p0 .p0 .sl0 .sl0 t.l)).length=s8.length:=gK
         have BZ:aN p Z (s8.set Z2.length (dK 0 FX false .p0 .p0 .sl0 .sl0 t.l)):=Oi.bJ (bV.bT _ _ _ _) (by omega)
         refine Xn d 2 _ Z2.length Z3.length Z.length t.l FX false .p0 _ (m6+1) _ kB hd SY (by omega) (RQ) (cB) (VI) ⟨by omega,by omega,by omega,by omega,by omega⟩ ?_
         generalize bU n d (all.drop (m6+1))=rE at hQ
         cases rE with
         | out=>trivial
         | bad c l=>exact False.elim hQ
         | ok z Oj=>
           have hQ:nJ p w g all Z d Q (.ok (.st 2 FX false .nil z .nil .nil t.l) Oj):=hQ
           intro R s9 m9 y9 k9 FW Ol Om
           conv=>whnf
           have lX:=(BZ).len
           refine Fin.ref rfl (hQ _ _ _ _ ((BZ).bJ y9 (by omega)) k9 FW ⟨Z2.length,0,.p0,R,.sl0,.sl0,by omega,rfl,Ol,rfl,?_,rfl,rfl⟩)
           exact bP.mono (fun i hi=>by first | omega | (rw [gK] at hi;omega)) (fun i hi a ha=>ha) Om
        ·rw [if_neg h2k] at hQ
         rw [decide_eq_false (by omega)]
         conv=>whnf
         by_cases h5k:kz=5
         ·subst h5k
          rw [if_pos (.inl rfl)] at hQ
          refine ak (aj (T:=fF) rfl rfl (ah (zo7)) rfl) ?_
          conv=>whnf
          have hQ:nJ p w g all Z d Q ((bU n d r6).bind fun y ts=>.ok (.st 3 [] false (.ex 5 nz FX tz lz rz az Xp) y .nil .nil t.l) ts):=hQ
          obtain⟨hmA,SY,VJ⟩:=aX he2 kX hi
          have hlA:(all.drop (m6+1)).length=r6.length:=by rw [FV]
          rw [<-FV] at hQ
          refine ak (aj (T:=bf) rfl rfl (ah (c7)) rfl) ?_
          conv=>whnf
          refine jm k7 hmA fun s8 y8 k8=>?_
          have oM:=y8.get (by omega) wZ
          have mZ:=y8.get (by omega) wY
          have c8:=y8.get (by omega) c7
          have Oi:=xx7.trans y8
          have l8:=y8.len
          conv=>whnf
          refine ak (aj (T:=dH) rfl rfl (ah (oM)) rfl) ?_
          conv=>whnf
          refine ak (aC (T:=aW) ([.i .i64 0,.s [],.b false,.p o g' 0,.p0,.sl0,.sl0,.i .i64 t.l]) rfl (mZ) rfl rfl (aU rfl) rfl) ?_
          conv=>whnf
          have kB:=k8.st mZ (dK 0 [] false (.p o g' 0) .p0 .sl0 .sl0 t.l)
          have VI:(s8.set Z2.length (dK 0 [] false (.p o g' 0) .p0 .sl0 .sl0 t.l))[Z2.length]? =_:=at_set mZ _
          have RQ:(s8.set Z2.length (dK 0 [] false (.p o g' 0) .p0 .sl0 .sl0 t.l))[Z3.length]? =_:=aK oM (by omega) _
          have cB:(s8.set Z2.length (dK 0 [] false (.p o g' 0) .p0 .sl0 .sl0 t.l))[Z.length]? =_:=aK c8 (by omega) _
          have llB:(s8.set Z2.length (dK 0 [] false (.p o g' 0) .p0 .sl0 .sl0 t.l)).length=s8.length:=gK
          have BZ:aN p Z (s8.set Z2.length (dK 0 [] false (.p o g' 0) .p0 .sl0 .sl0 t.l)):=Oi.bJ (bV.bT _ _ _ _) (by omega)
          have hezB:bP (fun i=>Z4.length<=i) (s8.set Z2.length (dK 0 [] false (.p o g' 0) .p0 .sl0 .sl0 t.l)) (.p o g' 0) (.ex 5 nz FX tz lz rz az Xp):=bP.mono (fun i hi=>hi) (fun i hi a ha=>aK (y8.get (by omega) ha) (by omega) _) hez7
          refine Xn d 3 _ Z2.length Z3.length Z.length t.l [] false (.p o g' 0) _ (m6+1) _ kB hd SY (by omega) (RQ) (cB) (VI) ⟨by omega,by omega,by omega,by omega,by omega⟩ ?_
          generalize bU n d (all.drop (m6+1))=rE at hQ
          cases rE with
          | out=>trivial
          | bad c l=>exact False.elim hQ
          | ok z Oj=>
            have hQ:nJ p w g all Z d Q (.ok (.st 3 [] false (.ex 5 nz FX tz lz rz az Xp) z .nil .nil t.l) Oj):=hQ
            intro R s9 m9 y9 k9 FW Ol Om
            conv=>whnf
            have lX:=(BZ).len
            refine Fin.ref rfl (hQ _ _ _ _ ((BZ).bJ y9 (by omega)) k9 FW ⟨Z2.length,0,(.p o g' 0),R,.sl0,.sl0,by omega,rfl,Ol,?_,?_,rfl,rfl⟩)
            ·exact bP.mono (fun i hi=>by omega) (fun i hi a ha=>y9.get (by omega) (by omega) ha) hezB
            ·exact bP.mono (fun i hi=>by first | omega | (rw [gK] at hi;omega)) (fun i hi a ha=>ha) Om
         ·refine ak (aj (T:=fF) rfl rfl (ah (zo7)) rfl) ?_
          conv=>whnf
          rw [decide_eq_false (by omega)]
          conv=>whnf
          by_cases h6k:kz=6
          ·subst h6k
           rw [if_pos (.inr rfl)] at hQ
           refine ak (aj (T:=fF) rfl rfl (ah (zo7)) rfl) ?_
           conv=>whnf
           have hQ:nJ p w g all Z d Q ((bU n d r6).bind fun y ts=>.ok (.st 3 [] false (.ex 6 nz FX tz lz rz az Xp) y .nil .nil t.l) ts):=hQ
           obtain⟨hmA,SY,VJ⟩:=aX he2 kX hi
           have hlA:(all.drop (m6+1)).length=r6.length:=by rw [FV]
           rw [<-FV] at hQ
           refine ak (aj (T:=bf) rfl rfl (ah (c7)) rfl) ?_
           conv=>whnf
           refine jm k7 hmA fun s8 y8 k8=>?_
           have oM:=y8.get (by omega) wZ
           have mZ:=y8.get (by omega) wY
           have c8:=y8.get (by omega) c7
           have Oi:=xx7.trans y8
           have l8:=y8.len
           conv=>whnf
           refine ak (aj (T:=dH) rfl rfl (ah (oM)) rfl) ?_
           conv=>whnf
           refine ak (aC (T:=aW) ([.i .i64 0,.s [],.b false,.p o g' 0,.p0,.sl0,.sl0,.i .i64 t.l]) rfl (mZ) rfl rfl (aU rfl) rfl) ?_
           conv=>whnf
           have kB:=k8.st mZ (dK 0 [] false (.p o g' 0) .p0 .sl0 .sl0 t.l)
           have VI:(s8.set Z2.length (dK 0 [] false (.p o g' 0) .p0 .sl0 .sl0 t.l))[Z2.length]? =_:=at_set mZ _
           have RQ:(s8.set Z2.length (dK 0 [] false (.p o g' 0) .p0 .sl0 .sl0 t.l))[Z3.length]? =_:=aK oM (by omega) _
           have cB:(s8.set Z2.length (dK 0 [] false (.p o g' 0) .p0 .sl0 .sl0 t.l))[Z.length]? =_:=aK c8 (by omega) _
           have llB:(s8.set Z2.length (dK 0 [] false (.p o g' 0) .p0 .sl0 .sl0 t.l)).length=s8.length:=gK
           have BZ:aN p Z (s8.set Z2.length (dK 0 [] false (.p o g' 0) .p0 .sl0 .sl0 t.l)):=Oi.bJ (bV.bT _ _ _ _) (by omega)
           have hezB:bP (fun i=>Z4.length<=i) (s8.set Z2.length (dK 0 [] false (.p o g' 0) .p0 .sl0 .sl0 t.l)) (.p o g' 0) (.ex 6 nz FX tz lz rz az Xp):=bP.mono (fun i hi=>hi) (fun i hi a ha=>aK (y8.get (by omega) ha) (by omega) _) hez7
           refine Xn d 3 _ Z2.length Z3.length Z.length t.l [] false (.p o g' 0) _ (m6+1) _ kB hd SY (by omega) (RQ) (cB) (VI) ⟨by omega,by omega,by omega,by omega,by omega⟩ ?_
           generalize bU n d (all.drop (m6+1))=rE at hQ
           cases rE with
           | out=>trivial
           | bad c l=>exact False.elim hQ
           | ok z Oj=>
             have hQ:nJ p w g all Z d Q (.ok (.st 3 [] false (.ex 6 nz FX tz lz rz az Xp) z .nil .nil t.l) Oj):=hQ
             intro R s9 m9 y9 k9 FW Ol Om
             conv=>whnf
             have lX:=(BZ).len
             refine Fin.ref rfl (hQ _ _ _ _ ((BZ).bJ y9 (by omega)) k9 FW ⟨Z2.length,0,(.p o g' 0),R,.sl0,.sl0,by omega,rfl,Ol,?_,?_,rfl,rfl⟩)
             ·exact bP.mono (fun i hi=>by omega) (fun i hi a ha=>y9.get (by omega) (by omega) ha) hezB
             ·exact bP.mono (fun i hi=>by first | omega | (rw [gK] at hi;omega)) (fun i hi a ha=>ha) Om
          ·rw [if_neg (by omega)] at hQ
           exact False.elim hQ
end
end Go.Abs.YtlkfbfhkcaldlaaGreatDoor
namespace Go.Abs.YtlkfbfhkcaldlaaGreatDoor
open Go.Proofs
set_option maxRecDepth 4000
section
variable {p w g:Nat} {all:List Tok} {n:Nat}
theorem allQ (hno:EH all)(hnn:EJ all)(hko:LZ all):∀n,WQ p w g all n/\vT p w g all n/\L6 p w g all n
 | 0=>⟨⟨fun _ _ _ _ _ _ _ h=>absurd h (by omega),fun _ _ _ _ _ _ _ _ h=>absurd h (by omega),fun _ _ _ _ _ _ _ h=>absurd h (by omega)⟩,by intro d B bp bl _ _ _ acc A Z m Q _ _ _ _ _ _ h;omega,by intro d kd k0 xo xv bp ln nm pt L Z m Q _ _ _ h;omega⟩
 | n+1=>by
   obtain⟨ih,ihS,Xn⟩:=allQ hno hnn hko n
   have ihE:=(allP (p:=p) (w:=w) (g:=g) hno hnn n).1
   exact⟨⟨fun d Z m Q h hd he hn hQ=>Zc ihS d Z m Q h hd he hn hQ,fun d l Z m Q h hd he hn hQ=>VF ihE ih d l Z m Q h hd he hn hQ,fun d Z m Q h hd he hn hQ=>stmt_p hko ihE ih Xn d Z m Q h hd he hn hQ⟩,Zb ih ihS,fun d kd k0 xo xv bp ln nm pt L Z m Q h hd he hn h1 h2 h3 h4 hQ=>Zd ihE d kd k0 xo xv bp ln nm pt L Z m Q h hd he hn h1 h2 h3 h4 hQ⟩
def pq (l:List (List UInt8×Bool)):List AV:=l.flatMap fun q=>[.s q.1,.b q.2]
theorem qK:∀l:List (List UInt8×Bool),(pq l).length=l.length*2
 | []=>rfl
 | t :: l=>by have:=qK l;simp only [pq,List.flatMap_cons,bM,bg,bZ] at this ⊢;rw [this];omega
theorem L8:∀l:List (List UInt8×Bool),(pq l).all AV.one=true
 | []=>rfl
 | t :: l=>by have:=L8 l;simp only [pq,List.flatMap_cons,List.all_append] at this ⊢;rw [this];rfl
theorem RS (l:List (List UInt8×Bool))(q:List UInt8×Bool):pq (l ++ [q])=pq l ++ [.s q.1,.b q.2]:=by simp [pq,List.flatMap_append]
theorem L9 (l:List (List UInt8×Bool)):((pq l).drop 0).take (l.length*2)=pq l:=by rw [List.drop_zero,List.take_of_length_le (by rw [qK];omega)]
def lG (B:Nat)(Z:St)(v:AV)(l:List (List UInt8×Bool)):Prop:=(l=[]/\v= .sl0)\/∃o g,B<=o/\v= .sl o g 0 l.length 2/\Z[o]? =some ⟨g,false,.cells 71 (pq l)⟩
theorem lG.keep {B B':Nat} {Z Z':St} {v:AV} {l:List (List UInt8×Bool)} (h:lG B Z v l)(hb:B'<=B)(k:∀(i:Nat) (a:AO),B<=i->Z[i]? =some a->Z'[i]? =some a):lG B' Z' v l:=by
 rcases h with h | ⟨o,g,h1,h2,h3⟩
 ·exact .inl h
 ·exact .inr ⟨o,g,by omega,h2,k o _ h1 h3⟩
def slP (v:AV):Prop:=v= .sl0\/∃o g n,v= .sl o g 0 n 2
theorem lG.sl {B:Nat} {Z:St} {v:AV} {l:List (List UInt8×Bool)} (h:lG B Z v l):slP v:=by
 rcases h with ⟨_,rfl⟩ | ⟨o,g,_,rfl,_⟩
 ·exact .inl rfl
 ·exact .inr ⟨_,_,_,rfl⟩
theorem CU {B:Nat} {Z:St} {v:AV} {acc:List (List UInt8×Bool)} (h:lG B Z v acc)(x:List UInt8×Bool)(hl:acc.length<=100000) {C:Nat} (hC:Z[C]? =some ⟨0,false,.cells 71 [.s x.1,.b x.2]⟩)(hB:B<=Z.length) {Q:AV->St->Prop}
 (q:∀o3 g3 k3 Z',lG B Z' (.sl o3 g3 0 k3 2) (acc ++ [x])->(∀i,i<B->Z'[i]? =Z[i]?)->Z.length<=Z'.length->(∀(i:Nat) (a:AO),Z[i]? =some a->(∀(g:Nat) (ro:Bool) (cs:List AV),a≠⟨g,ro,.cells 71 cs⟩)->Z'[i]? =some a)->Q (.sl o3 g3 0 k3 2) Z') :
 D8 KL.get false 66 v (.sl C 0 0 1 2) Z Q:=by
 constructor
 refine ak (v:=qE) rfl ?_
 refine ak (v:=gG) rfl ?_
 refine ak (kG hC (aU rfl)) ?_
 rcases h with ⟨rfl,rfl⟩ | ⟨o,g,h1,rfl,h3⟩
 ·refine⟨aU rfl,?_⟩
  refine q _ _ _ _ (.inr ⟨Z.length,0,hB,rfl,?_⟩) (fun i hi=>eu (by omega)) (by rw [aH];omega) (fun i a ha _=>at_new ha _ _)
  rw [aG];rfl
 ·refine ak (oC h3) ?_
  refine⟨rfl,by rw [qK];omega,?_,by rw [L9];exact L8 acc,?_⟩
  ·show (acc.length+1)*24<=_;omega
  refine q _ _ _ _ (.inr ⟨o,g+1,h1,by simp,?_⟩) (fun i hi=>by rw [rZ (by omega)]) (by rw [gK];exact Nat.le_refl _) (fun i a ha ht=>aK ha (fun e=>?_) _)
  ·rw [at_set h3,L9,RS];rfl
  ·subst e
   exact ht _ _ _ (Option.some.inj (ha.symm.trans h3))
def AA (nm:List UInt8)(A:AV)(pt:Bool)(Bd:AV)(ln:Nat):AO:=⟨0,false,.cells 69 [.s nm,A,.b pt,Bd,.i .i64 ln]⟩
def Jg (ts:List Tok):Re (List UInt8×Bool):=(fA ts).bind fun nm ts=>.ok (nm,aY dA ts) (if aY dA ts=true then ts.tail else ts)
theorem Zf {α:Type} (ts:List Tok)(f:List UInt8×Bool->List Tok->Re α):((fA ts).bind fun nm ts=>f (nm,aY dA ts) (if aY dA ts=true then ts.tail else ts))=(Jg ts).bind f:=by
 unfold Jg
 cases fA ts <;> rfl
theorem gd_par {ts:List Tok} (he:aZ ts):Gd An (Jg ts) ts.length:=by
 refine(vJ he).bind fun nm dM _ he2 hl2=>?_
 have h2:aZ (if aY dA dM=true then dM.tail else dM)/\(if aY dA dM=true then dM.tail else dM).length<=dM.length:=by
  split
  ·rename_i h2
   obtain⟨a,b⟩:=jD he2 h2
   exact⟨a,by omega⟩
  ·exact⟨he2,Nat.le_refl _⟩
 exact⟨trivial,h2.1,by omega⟩
theorem PW.AB {m d:Nat} {Z Z':St} {f:AV} (h:PW p w g all Z m d f)(k:∀(i:Nat) (a:AO),Z[i]? =some a->(∀(g:Nat) (ro:Bool) (cs:List AV),a≠⟨g,ro,.cells 71 cs⟩)->Z'[i]? =some a):PW p w g all Z' m d f:=
 ⟨k _ _ h.obj (fun _ _ _ e=>by cases e),k _ _ h.tok (fun _ _ _ e=>by cases e),h.ne,h.len,h.at_,h.dp⟩
def P1q (p w g:Nat)(all:List Tok)(B xo:Nat)(nm:List UInt8)(ln:Nat)(Z:St)(d:Nat)(acc:List (List UInt8×Bool))(Q:AV->St->Prop):Re (List UInt8×Bool)->Prop
 | .ok y ts=>∀A' Z' m',dO p xo B Z Z'->PW p w g all Z' m' d .p0->all.drop m'= ts->Z'[xo]? =some (AA nm A' false .sl0 ln)->lG B Z' A' (acc ++ [y])->Q (.tu []) Z'
 | .bad _ _=>False
 | .out=>True
theorem par1_p (d B xo bx b1:Nat)(nm:List UInt8)(ln:Nat)(acc:List (List UInt8×Bool))(A:AV)(Z:St)(m:Nat)(Q:AV->St->Prop)(h:PW p w g all Z m d .p0)(hlt:p<B/\w<B/\xo<B/\bx<B/\b1<B)(hne:xo≠p/\bx≠p/\b1≠p/\bx≠xo/\b1≠xo)(hB:B<=Z.length)
 (hbx:Z[bx]? =some ⟨0,false,.cells 64 [.p xo 0 0]⟩) (hb1:Z[b1]? =some ⟨0,false,.cells 85 [.p p 0 0]⟩) (hx:Z[xo]? =some (AA nm A false .sl0 ln)) (ha:lG B Z A acc) (he:aZ (all.drop m)) (hs:acc.length<=40001)
 (hQ:P1q p w g all B xo nm ln Z d acc Q (Jg (all.drop m))):au X 58 [.p b1 0 0,.p bx 0 0] Z Q:=by
 obtain⟨t,r,hts⟩:=he.ne
 obtain⟨ht,hr⟩:=b_ hts
 unfold Jg at hQ
 rw [hts] at hQ
 have hsl:=ha.sl
 have hpl:=bK h.obj
 refine au.body (F:=F58) ay (lit:=false) rfl rfl (aU rfl) ?_
 conv=>whnf
 refine ak (aj (T:=bf) rfl rfl (ah (hb1)) rfl) ?_
 conv=>whnf
 refine Jb h ht (fun hk1=>uG (by rw [hr];rw [hts] at he;exact he.tail (by rw [hk1];decide))) (fun hk1 Z1 y1 k1=>?_) (fun hk1=>?_)
 ·simp only [fA,if_pos hk1] at hQ
  have he2:aZ (all.drop (m+1)):=by rw [hr];rw [hts] at he;exact he.tail (by rw [hk1];decide)
  obtain⟨t2,r2,jE⟩:=he2.ne
  obtain⟨ht2,hr2⟩:=b_ jE
  have hQ:P1q p w g all B xo nm ln Z d acc Q (.ok (t.s,aY dA r) (if aY dA r=true then r.tail else r)):=hQ
  rw [<-hr,jE] at hQ
  have l1:=y1.len
  conv=>whnf
  refine ak (aC (T:=gG) ([.s t.s,.b false]) rfl (aG _ _ _) rfl rfl (aU rfl) rfl) ?_
  have x2:Ext Z1 ((newCells 71 gG.zero.cells Z1).set Z1.length ⟨0,false,.cells 71 [.s t.s,.b false]⟩):=((Ext.refl Z1).new _ _).set (Nat.le_refl _) _
  have b2:((newCells 71 gG.zero.cells Z1).set Z1.length ⟨0,false,.cells 71 [.s t.s,.b false]⟩)[Z1.length]? =_:=at_set (aG _ _ _) _
  have l2:((newCells 71 gG.zero.cells Z1).set Z1.length ⟨0,false,.cells 71 [.s t.s,.b false]⟩).length=Z1.length+1:=by rw [gK,aH]
  generalize (newCells 71 gG.zero.cells Z1).set Z1.length ⟨0,false,.cells 71 [.s t.s,.b false]⟩=Z2 at b2 x2 l2 ⊢
  conv=>whnf
  have k2:=k1.ext x2
  have c1:=x2.get (y1.get (by omega) hb1)
  have CQ:=x2.get (y1.get (by omega) hbx)
  have cx:=x2.get (y1.get (by omega) hx)
  refine ak (aj (T:=bf) rfl rfl (ah (c1)) rfl) ?_
  conv=>whnf
  refine oI [112,116,114] k2 ht2 (fun hi=>(aX he2 jE hi).1) (fun hi Z3 y3 k3=>?_) (fun hi=>?_)
  ·have VH:aY dA (t2 :: r2)=true:=hi
   have hQ:P1q p w g all B xo nm ln Z d acc Q (.ok (t.s,true) r2):=by
        simp only [VH,if_true] at hQ;exact hQ
   have xx:=(y1.trans (aN.of x2)).trans y3
   have b3:=y3.get (by omega) b2
   have cx3:=y3.get (by omega) cx
   have cbx3:=y3.get (by omega) CQ
   conv=>whnf
   refine ak (aC (T:=xH) ([.s t.s,.b true]) rfl (b3) rfl rfl (aU rfl) rfl) ?_
   conv=>whnf
   have AL:(List.set Z3 Z1.length ⟨0,false,.cells 71 [.s t.s,.b true]⟩)[bx]? =_:=aK (cbx3) (by omega) _
   have fx:(List.set Z3 Z1.length ⟨0,false,.cells 71 [.s t.s,.b true]⟩)[xo]? =some (AA nm A false .sl0 ln):=aK (cx3) (by omega) _
   have fc:(List.set Z3 Z1.length ⟨0,false,.cells 71 [.s t.s,.b true]⟩)[Z1.length]? =some ⟨0,false,.cells 71 [.s t.s,.b true]⟩:=at_set (b3) _
   have fX:aN p Z (List.set Z3 Z1.length ⟨0,false,.cells 71 [.s t.s,.b true]⟩):=(xx).bJ (bV.bT _ _ _ _) (by omega)
   have fa:lG B (List.set Z3 Z1.length ⟨0,false,.cells 71 [.s t.s,.b true]⟩) A acc:=ha.keep (Nat.le_refl _) fun i a hi hh=>fX.get (by omega) hh
   have kS:=k3.bT b3 (by decide) (by decide) ⟨0,false,.cells 71 [.s t.s,.b true]⟩
   generalize List.set Z3 Z1.length ⟨0,false,.cells 71 [.s t.s,.b true]⟩=S at AL fx fc fX fa kS ⊢
   have lX:=fX.len
   rcases hsl with rfl | ⟨oo,gg,kk,rfl⟩
   all_goals
        refine ak (aj (T:=dY) rfl rfl (ah (AL)) rfl) ?_
        conv=>whnf
        refine ak (aj (T:=dY) rfl rfl (ah (AL)) rfl) ?_
        conv=>whnf
        refine ak (aj (T:=qE) rfl rfl (ah (fx)) rfl) ?_
        conv=>whnf
        refine ak (gU (T:=gG) rfl rfl (ah (fc)) (aU rfl)) ?_
        conv=>whnf
        refine⟨?_,?_⟩
        ·conv=>whnf
         refine ak (aj (T:=dY) rfl rfl (ah (at_new AL _ _)) rfl) ?_
         rfl
        conv=>whnf
        refine⟨?_,?_⟩
        ·conv=>whnf
         refine ak (aj (T:=dY) rfl rfl (ah (at_new AL _ _)) rfl) ?_
         rfl
        conv=>whnf
        refine⟨?_,?_⟩
        ·conv=>whnf
         refine ak (aj (T:=qE) rfl rfl (ah (at_new fx _ _)) rfl) ?_
         rfl
        conv=>whnf
        refine CU (B:=B) (fa.keep (Nat.le_refl _) fun i a hi ha=>at_new ha _ _) (t.s,true) (by omega) (aG _ _ _) (by rw [aH];omega) fun o3 g3 k3 s3 ha3 hb3 hl3 hk3=>?_
        rw [aH] at hl3
        have gbx:s3[bx]? =_:=(hb3 bx (by omega)).trans (at_new AL _ _)
        have gx:s3[xo]? =_:=(hb3 xo (by omega)).trans (at_new fx _ _)
        have kT:=(kS.new _ _).AB hk3
        conv=>whnf
        refine⟨?_,?_⟩
        ·conv=>whnf
         refine ak (aj (T:=dY) rfl rfl (ah (gbx)) rfl) ?_
         rfl
        conv=>whnf
        refine ak (aC (T:=qE) ([.s nm,.sl o3 g3 0 k3 2,.b false,.sl0,.i .i64 ln]) rfl (gx) rfl rfl (aU rfl) rfl) ?_
        conv=>whnf
        have JJ:dO p xo B Z (s3.set xo (AA nm (.sl o3 g3 0 k3 2) false .sl0 ln)):=⟨by rw [gK];omega,fun i hi o_ hix=>by rw [rZ (fun e=>hix e.symm),hb3 i hi,eu (by omega),fX.old i (by omega) o_]⟩
        have k4:=kT.bT gx (by decide) (by decide) (AA nm (.sl o3 g3 0 k3 2) false .sl0 ln)
        exact h.ne_of k4 (.inl (by omega)) (hQ _ _ _ JJ k4 hr2 (at_set gx _) (ha3.keep (Nat.le_refl _) fun i a hi ha=>aK ha (by omega) _))
  ·have VH:aY dA (t2 :: r2)=false:=hi
   have hQ:P1q p w g all B xo nm ln Z d acc Q (.ok (t.s,false) (t2 :: r2)):=by
        simp only [VH,if_neg Bool.false_ne_true] at hQ;exact hQ
   conv=>whnf
   refine ak (aC (T:=xH) ([.s t.s,.b false]) rfl (b2) rfl rfl (aU rfl) rfl) ?_
   conv=>whnf
   have AL:(List.set Z2 Z1.length ⟨0,false,.cells 71 [.s t.s,.b false]⟩)[bx]? =_:=aK (CQ) (by omega) _
   have fx:(List.set Z2 Z1.length ⟨0,false,.cells 71 [.s t.s,.b false]⟩)[xo]? =some (AA nm A false .sl0 ln):=aK (cx) (by omega) _
   have fc:(List.set Z2 Z1.length ⟨0,false,.cells 71 [.s t.s,.b false]⟩)[Z1.length]? =some ⟨0,false,.cells 71 [.s t.s,.b false]⟩:=at_set (b2) _
   have fX:aN p Z (List.set Z2 Z1.length ⟨0,false,.cells 71 [.s t.s,.b false]⟩):=(y1.trans (aN.of x2)).bJ (bV.bT _ _ _ _) (by omega)
   have fa:lG B (List.set Z2 Z1.length ⟨0,false,.cells 71 [.s t.s,.b false]⟩) A acc:=ha.keep (Nat.le_refl _) fun i a hi hh=>fX.get (by omega) hh
   have kS:=k2.bT b2 (by decide) (by decide) ⟨0,false,.cells 71 [.s t.s,.b false]⟩
   generalize List.set Z2 Z1.length ⟨0,false,.cells 71 [.s t.s,.b false]⟩=S at AL fx fc fX fa kS ⊢
   have lX:=fX.len
   rcases hsl with rfl | ⟨oo,gg,kk,rfl⟩
   all_goals
        refine ak (aj (T:=dY) rfl rfl (ah (AL)) rfl) ?_
        conv=>whnf
        refine ak (aj (T:=dY) rfl rfl (ah (AL)) rfl) ?_
        conv=>whnf
        refine ak (aj (T:=qE) rfl rfl (ah (fx)) rfl) ?_
        conv=>whnf
        refine ak (gU (T:=gG) rfl rfl (ah (fc)) (aU rfl)) ?_
        conv=>whnf
        refine⟨?_,?_⟩
        ·conv=>whnf
         refine ak (aj (T:=dY) rfl rfl (ah (at_new AL _ _)) rfl) ?_
         rfl
        conv=>whnf
        refine⟨?_,?_⟩
        ·conv=>whnf
         refine ak (aj (T:=dY) rfl rfl (ah (at_new AL _ _)) rfl) ?_
         rfl
        conv=>whnf
        refine⟨?_,?_⟩
        ·conv=>whnf
         refine ak (aj (T:=qE) rfl rfl (ah (at_new fx _ _)) rfl) ?_
         rfl
        conv=>whnf
        refine CU (B:=B) (fa.keep (Nat.le_refl _) fun i a hi ha=>at_new ha _ _) (t.s,false) (by omega) (aG _ _ _) (by rw [aH];omega) fun o3 g3 k3 s3 ha3 hb3 hl3 hk3=>?_
        rw [aH] at hl3
        have gbx:s3[bx]? =_:=(hb3 bx (by omega)).trans (at_new AL _ _)
        have gx:s3[xo]? =_:=(hb3 xo (by omega)).trans (at_new fx _ _)
        have kT:=(kS.new _ _).AB hk3
        conv=>whnf
        refine⟨?_,?_⟩
        ·conv=>whnf
         refine ak (aj (T:=dY) rfl rfl (ah (gbx)) rfl) ?_
         rfl
        conv=>whnf
        refine ak (aC (T:=qE) ([.s nm,.sl o3 g3 0 k3 2,.b false,.sl0,.i .i64 ln]) rfl (gx) rfl rfl (aU rfl) rfl) ?_
        conv=>whnf
        have JJ:dO p xo B Z (s3.set xo (AA nm (.sl o3 g3 0 k3 2) false .sl0 ln)):=⟨by rw [gK];omega,fun i hi o_ hix=>by rw [rZ (fun e=>hix e.symm),hb3 i hi,eu (by omega),fX.old i (by omega) o_]⟩
        have k4:=kT.bT gx (by decide) (by decide) (AA nm (.sl o3 g3 0 k3 2) false .sl0 ln)
        exact h.ne_of k4 (.inl (by omega)) (hQ _ _ _ JJ k4 jE (at_set gx _) (ha3.keep (Nat.le_refl _) fun i a hi ha=>aK ha (by omega) _))
 ·simp only [fA,if_neg hk1] at hQ
  exact False.elim hQ
end
end Go.Abs.YtlkfbfhkcaldlaaGreatDoor
namespace Go.Abs.YtlkfbfhkcaldlaaGreatDoor
open Go.Proofs
set_option maxRecDepth 4000
section
variable {p w g:Nat} {all:List Tok} {n:Nat}
def PAq (p w g:Nat)(all:List Tok)(B xo b4:Nat)(nm:List UInt8)(ln:Nat)(Z:St)(d:Nat)(acc:List (List UInt8×Bool))(Q:Out->Env->St->Prop):Re (List (List UInt8×Bool))->Prop
 | .ok xs ts=>∀A' Z' m' e',get e' 0= .p b4 0 0->dO p xo B Z Z'->PW p w g all Z' m' d .p0->all.drop m'= ts->Z'[xo]? =some (AA nm A' false .sl0 ln)->lG B Z' A' (acc ++ xs)->Q (.exit 0) e' Z'
 | .bad _ _=>False
 | .out=>True
def Jh (p w g:Nat)(all:List Tok)(n:Nat):Prop:=∀(d B xo bx b1 b4 b5:Nat) (nm:List UInt8) (ln:Nat),(p<B/\w<B/\xo<B/\bx<B/\b1<B)->(b4<B/\b5<B)->(xo≠p/\bx≠p/\b1≠p/\bx≠xo/\b1≠xo)->(b4≠p/\b5≠p/\b4≠xo/\b5≠xo)->
 ∀ (acc:List (List UInt8×Bool)) (A:AV) (Z:St) (m:Nat) (Q:Out->Env->St->Prop),PW p w g all Z m d .p0->B<=Z.length->Z[bx]? =some ⟨0,false,.cells 64 [.p xo 0 0]⟩->Z[b1]? =some ⟨0,false,.cells 85 [.p p 0 0]⟩->Z[b4]? =some ⟨0,false,.cells 85 [.p p 0 0]⟩->Z[b5]? =some ⟨0,false,.cells 1 [.fn (.func 58) [] [.p b1 0 0,.p bx 0 0]]⟩->Z[xo]? =some (AA nm A false .sl0 ln)->lG B Z A acc->
   aZ (all.drop m)->(all.drop m).length+1<=n->acc.length+(all.drop m).length<=40001->PAq p w g all B xo b4 nm ln Z d acc Q (cZ n acc.isEmpty (all.drop m))->aV X [0,1,2] Bz [(0,.p b4 0 0),(1,.p b5 0 0),(2,.b acc.isEmpty)] Z Q
theorem Oo (n:Nat)(f:Bool)(ts:List Tok):cZ (n+1) f ts=if aY [41] ts=true then .ok [] ts else(if f=true then Re.ok () ts else aQ [44] ts).bind fun _ ts=>(Jg ts).bind fun q ts=>(cZ n false ts).bind fun l ts=>.ok (q :: l) ts:=by
 rw [cZ]
 simp only [<-Zf]
theorem pars_p (Xm:Jh p w g all n):Jh p w g all (n+1):=by
 intro d B xo bx b1 b4 b5 nm ln hlt hlt4 hne oK acc A Z m Q h hB hbx hb1 hb4 hb5 hx ha he hn hs hQ
 obtain⟨t,r,hts⟩:=he.ne
 obtain⟨ht,hr⟩:=b_ hts
 rw [Oo,hts] at hQ
 have key:∀(Z1:St) (m1:Nat) (Q2:AV->St->Prop),dO p xo B Z Z1->PW p w g all Z1 m1 d .p0->m<=m1->aZ (all.drop m1)->Z1[xo]? =some (AA nm A false .sl0 ln)->lG B Z1 A acc->(PAq p w g all B xo b4 nm ln Z d acc Q ((Jg (all.drop m1)).bind fun x ts=>(cZ n false ts).bind fun xs ts=>.ok (x :: xs) ts))->
  (∀s,aV X [0,1,2] Bz [(0,.p b4 0 0),(1,.p b5 0 0),(2,.b false)] s Q->Q2 (.tu []) s)->au X 58 [.p b1 0 0,.p bx 0 0] Z1 Q2:=by
  intro Z1 m1 Q2 x1 h1 hm1 he1 hx1 ha1 hq hk
  have hlen:(all.drop m1).length<=(all.drop m).length:=by rw [pF,pF];omega
  have hg:=gd_par he1
  have lx1:=x1.len
  refine par1_p d B xo bx b1 nm ln acc A Z1 m1 Q2 h1 hlt hne (by omega) (x1.get hlt.2.2.2.1 hne.2.1 hne.2.2.2.1 hbx) (x1.get hlt.2.2.2.2 hne.2.2.1 hne.2.2.2.2 hb1) hx1 ha1 he1 (by omega) ?_
  generalize Jg (all.drop m1)=r1 at hg hq
  cases r1 with
  | out=>exact hg.elim
  | bad c l=>exact False.elim hq
  | ok y bI=>
    intro A' Z2 m2 x2 k2 hm2 hx2 ha2
    have x12:=x1.trans x2
    have lx2:=x2.len
    have hq:PAq p w g all B xo b4 nm ln Z d acc Q ((cZ n false bI).bind fun xs ts=>.ok (y :: xs) ts):=hq
    rw [<-hm2] at hq hg
    have hlt2:=hg.2.2
    have hi:=Xm d B xo bx b1 b4 b5 nm ln hlt hlt4 hne oK (acc ++ [y]) A' Z2 m2 Q k2 (by omega) (x12.get hlt.2.2.2.1 hne.2.1 hne.2.2.2.1 hbx) (x12.get hlt.2.2.2.2 hne.2.2.1 hne.2.2.2.2 hb1) (x12.get hlt4.1 oK.1 oK.2.2.1 hb4) (x12.get hlt4.2 oK.2.1 oK.2.2.2 hb5) hx2 ha2 hg.2.1 (by omega) (by rw [bM];simp only [bg,bZ];omega)
    rw [show (acc ++ [y]).isEmpty=false by cases acc <;> rfl] at hi
    refine hk _ (hi ?_)
    generalize cZ n false (all.drop m2)=r2 at hq
    cases r2 with
    | out=>trivial
    | bad c l=>exact False.elim hq
    | ok xs wW=>exact fun A4 Z4 m4 e' e0 x4 h4 hm4 hx4 VB=>hq A4 Z4 m4 e' e0 (x12.trans x4) h4 hm4 hx4 (by rw [iC] at VB;exact VB)
 have tail:∀(b:Bool),acc.isEmpty=b->PAq p w g all B xo b4 nm ln Z d acc Q (if aY [41] (t :: r)=true then .ok [] (t :: r) else(if b=true then Re.ok () (t :: r) else aQ [44] (t :: r)).bind fun _ ts=>(Jg ts).bind fun x ts=>(cZ n false ts).bind fun xs ts=>.ok (x :: xs) ts)->aV X [0,1,2] Bz [(0,.p b4 0 0),(1,.p b5 0 0),(2,.b b)] Z Q:=by
  intro b hb hQ
  cases b with
  | true=>
    refine aV.round ay (lit:=false) ?_
    conv=>whnf
    refine ak (aj (T:=bf) rfl rfl (ah (hb4)) rfl) ?_
    conv=>whnf
    refine au.to (mW h) ?_
    conv=>whnf
    refine ak (aj (T:=bf) rfl rfl (ah (hb4)) rfl) ?_
    conv=>whnf
    have b7:(newCells 9 [.s [41]] Z)[Z.length]? =some ⟨0,false,.cells 9 [.s [41]]⟩:=aG _ _ _
    have x7:Ext Z (newCells 9 [.s [41]] Z):=(Ext.refl Z).new _ _
    have l7:(newCells 9 [.s [41]] Z).length=Z.length+1:=aH _ _ _
    generalize newCells 9 [.s [41]] Z=Z7 at b7 x7 l7 ⊢
    have h1:=h.ext x7
    have c4:=x7.get hb4
    have c5:=x7.get hb5
    have y1:dO p xo B Z Z7:=.of (aN.of x7) hB
    refine au.to (BX [[41]] h1 ht Z.length 0 (ah b7) (aU rfl)) ?_
    conv=>whnf
    rw [jU]
    cases hi:iK [41] t with
    | true=>
      rw [if_pos (show aY [41] (t :: r)=true from hi)] at hQ
      conv=>whnf
      exact hQ A Z7 m _ rfl y1 h1 hts (x7.get hx) (by rw [List.append_nil];exact ha.keep (Nat.le_refl _) fun i a _ ha=>x7.get ha)
    | false=>
      rw [if_neg (by rw [show aY [41] (t :: r)=iK [41] t from rfl,hi];decide)] at hQ
      rw [if_pos rfl] at hQ
      conv=>whnf
      refine ak (aj (T:=yT1) rfl rfl (ah (c5)) rfl) ?_
      conv=>whnf
      refine key Z7 m _ y1 h1 (Nat.le_refl _) he (x7.get hx) (ha.keep (Nat.le_refl _) fun i a _ ha=>x7.get ha) (by rw [hts];exact hQ) fun s q=>?_
      conv=>whnf
      exact q
  | false=>
    refine aV.round ay (lit:=false) ?_
    conv=>whnf
    refine ak (aj (T:=bf) rfl rfl (ah (hb4)) rfl) ?_
    conv=>whnf
    refine au.to (mW h) ?_
    conv=>whnf
    refine ak (aj (T:=bf) rfl rfl (ah (hb4)) rfl) ?_
    conv=>whnf
    have b7:(newCells 9 [.s [41]] Z)[Z.length]? =some ⟨0,false,.cells 9 [.s [41]]⟩:=aG _ _ _
    have x7:Ext Z (newCells 9 [.s [41]] Z):=(Ext.refl Z).new _ _
    have l7:(newCells 9 [.s [41]] Z).length=Z.length+1:=aH _ _ _
    generalize newCells 9 [.s [41]] Z=Z7 at b7 x7 l7 ⊢
    have h1:=h.ext x7
    have c4:=x7.get hb4
    have c5:=x7.get hb5
    have y1:dO p xo B Z Z7:=.of (aN.of x7) hB
    refine au.to (BX [[41]] h1 ht Z.length 0 (ah b7) (aU rfl)) ?_
    conv=>whnf
    rw [jU]
    cases hi:iK [41] t with
    | true=>
      rw [if_pos (show aY [41] (t :: r)=true from hi)] at hQ
      conv=>whnf
      exact hQ A Z7 m _ rfl y1 h1 hts (x7.get hx) (by rw [List.append_nil];exact ha.keep (Nat.le_refl _) fun i a _ ha=>x7.get ha)
    | false=>
      rw [if_neg (by rw [show aY [41] (t :: r)=iK [41] t from rfl,hi];decide)] at hQ
      rw [if_neg (by decide)] at hQ
      conv=>whnf
      refine ak (aj (T:=bf) rfl rfl (ah (c4)) rfl) ?_
      conv=>whnf
      refine j_ _ h1 ht (fun hi2=>(aX he hts hi2).1) (fun hi2 Z2 x2 h2=>?_) (fun hi2=>?_)
      ·rw [aQ,if_pos (show aY [44] (t :: r)=true from hi2)] at hQ
       obtain⟨hm1,he1,hle⟩:=aX he hts hi2
       have y2:dO p xo B Z Z2:=y1.trans (.of x2 (by omega))
       conv=>whnf
       refine ak (aj (T:=yT1) rfl rfl (ah (x2.get oK.2.1 c5)) rfl) ?_
       conv=>whnf
       refine key Z2 (m+1) _ y2 h2 (by omega) he1 (x2.get hne.1 (x7.get hx)) (ha.keep (Nat.le_refl _) fun i a hi ha=>x2.get (by omega) (x7.get ha)) (by rw [hr];exact hQ) fun s q=>?_
       conv=>whnf
       exact q
      ·rw [aQ,if_neg (by rw [show aY [44] (t :: r)=iK [44] t from rfl,hi2];decide)] at hQ
       exact hQ
 exact tail _ rfl hQ
theorem Qh:∀n,Jh p w g all n
 | 0=>by intro d B xo bx b1 b4 b5 nm ln _ _ _ _ acc A Z m Q _ _ _ _ _ _ _ _ _ h;omega
 | n+1=>pars_p (Qh n)
def P2q (p w g:Nat)(all:List Tok)(xo:Nat)(nm:List UInt8)(ln:Nat)(Z:St)(d:Nat)(Q:AV->St->Prop):Re (List (List UInt8×Bool))->Prop
 | .ok xs ts=>∀A' Z' m',bV p xo Z Z'->PW p w g all Z' m' d .p0->all.drop m'= ts->Z'[xo]? =some (AA nm A' false .sl0 ln)->lG Z.length Z' A' xs->Q (.tu []) Z'
 | .bad _ _=>False
 | .out=>True
theorem VK (d xo bx b1:Nat)(nm:List UInt8)(ln:Nat)(Z:St)(m:Nat)(Q:AV->St->Prop)(h:PW p w g all Z m d .p0)(hd:d<=64)(he:aZ (all.drop m))(hn:10*(all.drop m).length<=n)
 (hbx:Z[bx]? =some ⟨0,false,.cells 64 [.p xo 0 0]⟩) (hb1:Z[b1]? =some ⟨0,false,.cells 85 [.p p 0 0]⟩) (hx:Z[xo]? =some (AA nm .sl0 false .sl0 ln)) (hne:xo≠p/\bx≠p/\b1≠p/\bx≠xo/\b1≠xo)
 (hQ:P2q p w g all xo nm ln Z d Q ((gV [40] d (all.drop m)).bind fun _ ts=>(cZ n true ts).bind fun a ts=>(aQ [41] ts).bind fun _ ts=>.ok a ts)) :
 au X 57 [.p p 0 0,.fn (.func 58) [] [.p b1 0 0,.p bx 0 0]] Z Q:=by
 obtain⟨t,r,hts⟩:=he.ne
 rw [hts] at hQ hn
 simp only [bg] at hn
 obtain⟨ht,hr⟩:=b_ hts
 have hpl:=bK h.obj
 have hwl:=bK h.tok
 have hxl:=bK hx
 have hbl:=bK hbx
 have h1l:=bK hb1
 have hal:=h.len
 have hm:=h.at_
 unfold gV at hQ
 refine au.body (F:=F57) ay (lit:=false) rfl rfl (aU rfl) ?_
 conv=>whnf
 have b4:(newCells 85 (AV.p p 0 0).cells Z)[Z.length]? =some ⟨0,false,.cells 85 [.p p 0 0]⟩:=aG _ _ _
 have x4:Ext Z (newCells 85 (AV.p p 0 0).cells Z):=(Ext.refl Z).new _ _
 have l4:(newCells 85 (AV.p p 0 0).cells Z).length=Z.length+1:=aH _ _ _
 generalize newCells 85 (AV.p p 0 0).cells Z=Z4 at b4 x4 l4 ⊢
 have b5:(newCells 1 (AV.fn (.func 58) [] [.p b1 0 0,.p bx 0 0]).cells Z4)[Z4.length]? =some ⟨0,false,.cells 1 [.fn (.func 58) [] [.p b1 0 0,.p bx 0 0]]⟩:=aG _ _ _
 have x5:Ext Z4 (newCells 1 (AV.fn (.func 58) [] [.p b1 0 0,.p bx 0 0]).cells Z4):=(Ext.refl Z4).new _ _
 have l5:(newCells 1 (AV.fn (.func 58) [] [.p b1 0 0,.p bx 0 0]).cells Z4).length=Z4.length+1:=aH _ _ _
 generalize newCells 1 (AV.fn (.func 58) [] [.p b1 0 0,.p bx 0 0]).cells Z4=Z5 at b5 x5 l5 ⊢
 have xx:=x4.trans x5
 have h5:=h.ext xx
 have c4:=x5.get b4
 refine ak (aj (T:=bf) rfl rfl (ah (c4)) rfl) ?_
 conv=>whnf
 refine au.mono (Q:=fun v s=>v= .tu []/\Fin Z (.tu []) s Q) ?_ fun v s q=>?_
 ·refine RF [40] h5 ht hd (fun hi=>(aX he hts hi).1) (fun hi h64 s1 y1 k1=>?_) (fun hi h64=>?_) (fun hi=>?_)
  ·rw [if_neg (by omega),aQ,if_pos (show aY [40] (t :: r)=true from hi)] at hQ
   have hQ:P2q p w g all xo nm ln Z d Q ((cZ n true r).bind fun a ts=>(aQ [41] ts).bind fun _ ts=>.ok a ts):=hQ
   obtain⟨hm1,he1,hle⟩:=aX he hts hi
   have hg:=vM n true (all.drop (m+1)) he1 (by rw [hr];omega)
   have hx1:aN p Z s1:=(aN.of xx).trans y1
   have e4:=y1.get (by omega) c4
   have e5:=y1.get (by omega) b5
   have ly:=y1.len
   have hall:(all.drop (m+1)).length<=40001:=by rw [pF];omega
   refine au.body (F:=F91) ay (lit:=false) rfl rfl (aU rfl) ?_
   conv=>whnf
   refine Qh n (d+1) s1.length xo bx b1 Z.length Z4.length nm ln ⟨by omega,by omega,by omega,by omega,by omega⟩ ⟨by omega,by omega⟩ hne ⟨by omega,by omega,by omega,by omega⟩ [] .sl0 s1 (m+1) _ k1 (Nat.le_refl _) (hx1.get hne.2.1 hbx) (hx1.get hne.2.2.1 hb1) e4 e5 (hx1.get hne.1 hx) (.inl ⟨rfl,rfl⟩) he1 (by rw [hr];omega) (by simp only [bZ];omega) ?_
   rw [hr] at hg ⊢
   show PAq p w g all s1.length xo Z.length nm ln s1 (d+1) [] _ (cZ n true r)
   generalize cZ n true r=r1 at hg hQ
   cases r1 with
   | out=>exact hg.elim
   | bad c l=>exact False.elim hQ
   | ok xs bI=>
     intro A' s2 m2 e' e0 y2 k2 hm2 hx2 ha2
     have he2:aZ (all.drop m2):=by rw [hm2];exact hg.2.1
     obtain⟨t2,r2,jE⟩:=he2.ne
     obtain⟨ht2,hr2⟩:=b_ jE
     have hQ:P2q p w g all xo nm ln Z d Q ((aQ [41] bI).bind fun _ ts=>.ok xs ts):=hQ
     rw [<-hm2,jE] at hQ
     have f4:=y2.get (by omega) (by omega) (by omega) e4
     have ly2:=y2.len
     have hmm:m+1<=m2:=by
      have:=hg.2.2
      rw [<-hm2,<-hr,pF,pF] at this
      omega
     have hsl:=ha2.sl
     have fr:∀s3,aN p s2 s3->bV p xo Z s3:=fun s3 y3=>⟨by have:=y3.len;have:=hx1.len;omega,fun i hi o_ hix=>by rw [y3.old i (by have:=hx1.len;omega) o_,y2.old i (by have:=hx1.len;omega) o_ hix,hx1.old i hi o_]⟩
     conv=>whnf
     rw [show Opd.ev e' (.t 0)=get e' 0 from rfl,e0]
     conv=>whnf
     refine ak (aj (T:=bf) rfl rfl (ah (f4)) rfl) ?_
     conv=>whnf
     refine j_ [41] k2 ht2 (fun hi=>(aX he2 jE hi).1) (fun hi2 s5 y5 k5=>?_) (fun hi2=>?_)
     ·rw [aQ,if_pos (show aY [41] (t2 :: r2)=true from hi2)] at hQ
      conv=>whnf
      refine k1.ne_of k5 (.inl (by omega)) ⟨rfl,w,g,all,m2+1,_,k5,.inl (by omega),fun s3 y3 j4=>⟨rfl,?_⟩⟩
      have RI:=y5.trans y3
      refine h.ne_of j4 (.inl (by omega)) (hQ _ _ _ (fr s3 RI) j4 hr2 (RI.get hne.1 hx2) ?_)
      exact ha2.keep (by have:=hx1.len;omega) fun i a hi ha=>RI.get (by omega) ha
     ·rw [aQ,if_neg (show ¬aY [41] (t2 :: r2)=true by rw [show aY [41] (t2 :: r2)=iK [41] t2 from rfl,hi2];decide)] at hQ
      exact hQ
  ·rw [if_pos ⟨show aY [40] (t :: r)=true from hi,h64⟩] at hQ
   exact hQ
  ·have hiw:¬aY [40] (t :: r)=true:=by rw [show aY [40] (t :: r)=iK [40] t from rfl,hi];decide
   rw [if_neg (fun e=>hiw e.1),aQ,if_neg hiw] at hQ
   exact hQ
 ·obtain⟨rfl,q⟩:=q
  conv=>whnf
  exact q
end
end Go.Abs.YtlkfbfhkcaldlaaGreatDoor
namespace Go.Abs.YtlkfbfhkcaldlaaGreatDoor
open Go.Proofs
set_option maxRecDepth 4000
def sF (S:Nat->Prop)(Z:St)(v:AV)(l:List (List UInt8×Bool)):Prop:=(l=[]/\v= .sl0)\/∃o g,S o/\v= .sl o g 0 l.length 2/\Z[o]? =some ⟨g,false,.cells 71 (pq l)⟩
def pz (S:Nat->Prop)(Z:St)(v:AV)(f:Fm):Prop:=∃o A Bd,S o/\v= .p o 0 0/\Z[o]? =some (AA f.name A f.ptr Bd f.line)/\sF S Z A f.params/\dX S Z Bd f.body
theorem sF.mono {S S':Nat->Prop} {Z Z':St} (h1:∀o,S o->S' o)(h2:∀o,S o->∀a,Z[o]? =some a->Z'[o]? =some a) {l:List (List UInt8×Bool)} {v:AV} (h:sF S Z v l):sF S' Z' v l:=by
 rcases h with h | ⟨o,g,a,b,c⟩
 ·exact .inl h
 ·exact .inr ⟨o,g,h1 _ a,b,h2 _ a _ c⟩
theorem pz.mono {S S':Nat->Prop} {Z Z':St} (h1:∀o,S o->S' o)(h2:∀o,S o->∀a,Z[o]? =some a->Z'[o]? =some a) {f:Fm} {v:AV} (h:pz S Z v f):pz S' Z' v f:=by
 obtain⟨o,A,Bd,a,b,c,d,e⟩:=h
 exact⟨o,A,Bd,h1 _ a,b,h2 _ a _ c,d.mono h1 h2,e.mono h1 h2⟩
theorem pz.below {S:Nat->Prop} {Z:St} {f:Fm} {v:AV} (h:pz S Z v f):pz (fun o=>S o/\o<Z.length) Z v f:=by
 obtain⟨o,A,Bd,a,b,c,d,e⟩:=h
 refine⟨o,A,Bd,⟨a,bK c⟩,b,c,?_,e.below⟩
 rcases d with d | ⟨o,g,a,b,c⟩
 ·exact .inl d
 ·exact .inr ⟨o,g,⟨a,bK c⟩,b,c⟩
section
variable {p w g:Nat} {all:List Tok} {n:Nat}
def Oq (p w g:Nat)(all:List Tok)(Z:St)(Q:AV->St->Prop):Re Fm->Prop
 | .ok f ts=>∀o Z' m',aN p Z Z'->PW p w g all Z' m' 0 .p0->all.drop m'= ts->pz (fun i=>Z.length<=i) Z' (.p o 0 0) f->Q (.p o 0 0) Z'
 | .bad _ _=>False
 | .out=>True
def parsW (n:Nat)(ts:List Tok):Re (List (List UInt8×Bool)):=(gV [40] 0 ts).bind fun _ ts=>(cZ n true ts).bind fun a ts=>(aQ [41] ts).bind fun _ ts=>.ok a ts
theorem VN {α:Type} (n:Nat)(ts:List Tok)(f:List (List UInt8×Bool)->List Tok->Re α):((gV [40] 0 ts).bind fun _ ts=>(cZ n true ts).bind fun a ts=>(aQ [41] ts).bind fun _ ts=>f a ts)=(parsW n ts).bind f:=by
 unfold parsW
 cases gV [40] 0 ts with
 | out=>rfl
 | bad c l=>rfl
 | ok u bI=>
   show ((cZ n true bI).bind fun a ts=>(aQ [41] ts).bind fun _ ts=>f a ts)=((cZ n true bI).bind fun a ts=>(aQ [41] ts).bind fun _ ts=>.ok a ts).bind f
   cases cZ n true bI with
   | out=>rfl
   | bad c l=>rfl
   | ok a dM=>
     show ((aQ [41] dM).bind fun _ ts=>f a ts)=((aQ [41] dM).bind fun _ ts=>.ok a ts).bind f
     cases aQ [41] dM <;> rfl
theorem VO {n:Nat} {ts:List Tok} (he:aZ ts)(hn:ts.length+1<=n):Gd An (parsW n ts) ts.length:=
 (vI _ 0 he).bind fun _ vK _ he3 hl3=>(vM n true vK he3 (by omega)).bind fun ps wW _ he4 hl4=>(jq _ he4).bind fun _ su _ Vp hl5=>⟨trivial,Vp,by omega⟩
def fnR (n ln:Nat)(nm:List UInt8)(ps:List (List UInt8×Bool))(bI:List Tok):Re Fm:=(dD n 0 (if aY dA bI=true then bI.tail else bI)).bind fun b dM=>.ok ⟨nm,ps,aY dA bI,b,ln⟩ dM
theorem Ot (hno:EH all)(hnn:EJ all)(hko:LZ all)(Z:St)(m:Nat)(Q:AV->St->Prop)(h:PW p w g all Z m 0 .p0)(he:aZ (all.drop m))(hn:10*(all.drop m).length+10<=n)(hQ:Oq p w g all Z Q (kH n (all.drop m))):au X 26 [.p p 0 0] Z Q:=by
 obtain⟨t,r,hts⟩:=he.ne
 obtain⟨ht,hr⟩:=b_ hts
 have hpl:=bK h.obj
 have hlr:(all.drop m).length=r.length+1:=by rw [hts];rfl
 have hQ:Oq p w g all Z Q ((aQ pV (all.drop m)).bind fun _ bI=>(fA bI).bind fun nm bI=>(parsW n bI).bind fun ps bI=>fnR n (kW (all.drop m)) nm ps bI):=by
  simp only [<-VN];exact hQ
 rw [hts] at hQ
 have hQ:Oq p w g all Z Q ((aQ pV (t :: r)).bind fun _ bI=>(fA bI).bind fun nm bI=>(parsW n bI).bind fun ps bI=>fnR n t.l nm ps bI):=hQ
 refine au.body (F:=F26) ay (lit:=false) rfl rfl (aU rfl) ?_
 conv=>whnf
 have b1:(newCells 85 (AV.p p 0 0).cells Z)[Z.length]? =some ⟨0,false,.cells 85 [.p p 0 0]⟩:=aG _ _ _
 have x1:Ext Z (newCells 85 (AV.p p 0 0).cells Z):=(Ext.refl Z).new _ _
 have l1:(newCells 85 (AV.p p 0 0).cells Z).length=Z.length+1:=aH _ _ _
 generalize newCells 85 (AV.p p 0 0).cells Z=Z1 at b1 x1 l1 ⊢
 have h1:=h.ext x1
 refine ak (aj (T:=bf) rfl rfl (ah (b1)) rfl) ?_
 conv=>whnf
 refine au.to (jZ h1 ht) ?_
 conv=>whnf
 have b3:(newCells 69 (AV.ag [.s [],.sl0,.b false,.sl0,.i .i64 t.l]).cells Z1)[Z1.length]? =some ⟨0,false,.cells 69 [.s [],.sl0,.b false,.sl0,.i .i64 t.l]⟩:=aG _ _ _
 have x3:Ext Z1 (newCells 69 (AV.ag [.s [],.sl0,.b false,.sl0,.i .i64 t.l]).cells Z1):=(Ext.refl Z1).new _ _
 have l3:(newCells 69 (AV.ag [.s [],.sl0,.b false,.sl0,.i .i64 t.l]).cells Z1).length=Z1.length+1:=aH _ _ _
 generalize newCells 69 (AV.ag [.s [],.sl0,.b false,.sl0,.i .i64 t.l]).cells Z1=Z3 at b3 x3 l3 ⊢
 refine ak (aC (T:=dY) ([.p Z1.length 0 0]) rfl (aG _ _ _) rfl rfl (aU rfl) rfl) ?_
 have x4:Ext Z3 ((newCells 64 dY.zero.cells Z3).set Z3.length ⟨0,false,.cells 64 [.p Z1.length 0 0]⟩):=((Ext.refl Z3).new _ _).set (Nat.le_refl _) _
 have b4:((newCells 64 dY.zero.cells Z3).set Z3.length ⟨0,false,.cells 64 [.p Z1.length 0 0]⟩)[Z3.length]? =_:=at_set (aG _ _ _) _
 have l4:((newCells 64 dY.zero.cells Z3).set Z3.length ⟨0,false,.cells 64 [.p Z1.length 0 0]⟩).length=Z3.length+1:=by rw [gK,aH]
 generalize (newCells 64 dY.zero.cells Z3).set Z3.length ⟨0,false,.cells 64 [.p Z1.length 0 0]⟩=Z4 at b4 x4 l4 ⊢
 conv=>whnf
 have x24:=x3.trans x4
 have k4:=h1.ext x24
 have cp4:=x24.get b1
 have cx4:=x4.get b3
 have cv4:=b4
 have X4:aN p Z Z4:=aN.of (x1.trans x24)
 generalize Z4=s4 at k4 cp4 cx4 cv4 X4 x4 l4 ⊢
 conv=>whnf
 refine ak (aj (T:=bf) rfl rfl (ah (cp4)) rfl) ?_
 conv=>whnf
 refine j_ [102,117,110,99] k4 ht (fun hi=>(aX he hts hi).1) (fun hi s5 y5 k5=>?_) (fun hi=>?_)
 ·rw [aQ,if_pos (show aY pV (t :: r)=true from hi)] at hQ
  have hQ:Oq p w g all Z Q ((fA r).bind fun nm bI=>(parsW n bI).bind fun ps bI=>fnR n t.l nm ps bI):=hQ
  obtain⟨hm1,he1,hle⟩:=aX he hts hi
  obtain⟨t6,r6,kX⟩:=he1.ne
  obtain⟨Qg,FV⟩:=b_ kX
  have hlr1:(all.drop (m+1)).length=r.length:=by rw [hr]
  have hl6:(all.drop (m+1)).length=r6.length+1:=by rw [kX];rfl
  rw [<-hr,kX] at hQ
  have zK:=y5.get (by omega) cx4
  have uK:=y5.get (by omega) cv4
  have cp5:=y5.get (by omega) cp4
  have X5:=X4.trans y5
  have l5:=y5.len
  conv=>whnf
  refine ak (aj (T:=dY) rfl rfl (ah (uK)) rfl) ?_
  conv=>whnf
  refine ak (aj (T:=bf) rfl rfl (ah (cp5)) rfl) ?_
  conv=>whnf
  refine Jb k5 Qg (fun hk1=>uG (by rw [FV];rw [kX] at he1;exact he1.tail (by rw [hk1];decide))) (fun hk1 s6 y6 k6=>?_) (fun hk1=>?_)
  ·simp only [fA,if_pos hk1] at hQ
   have he2:aZ (all.drop (m+1+1)):=by rw [FV];rw [kX] at he1;exact he1.tail (by rw [hk1];decide)
   have hl62:(all.drop (m+1+1)).length=r6.length:=by rw [FV]
   have hQ:Oq p w g all Z Q ((parsW n r6).bind fun ps bI=>fnR n t.l t6.s ps bI):=hQ
   rw [<-FV] at hQ
   have hg:=VO (n:=n) he2 (by omega)
   have wI:=y6.get (by omega) zK
   have yZ:=y6.get (by omega) uK
   have cp6:=y6.get (by omega) cp5
   have X6:=X5.trans y6
   have l6:=y6.len
   conv=>whnf
   refine⟨?_,?_⟩
   ·conv=>whnf
    refine ak (aj (T:=dY) rfl rfl (ah (yZ)) rfl) ?_
    rfl
   conv=>whnf
   refine ak (aC (T:=fB) ([.s t6.s,.sl0,.b false,.sl0,.i .i64 t.l]) rfl (wI) rfl rfl (aU rfl) rfl) ?_
   conv=>whnf
   have k7:=k6.bT wI (by decide) (by decide) ⟨0,false,.cells 69 [.s t6.s,.sl0,.b false,.sl0,.i .i64 t.l]⟩
   have wY:(List.set s6 Z1.length ⟨0,false,.cells 69 [.s t6.s,.sl0,.b false,.sl0,.i .i64 t.l]⟩)[Z1.length]? =some ⟨0,false,.cells 69 [.s t6.s,.sl0,.b false,.sl0,.i .i64 t.l]⟩:=at_set wI _
   have wZ:(List.set s6 Z1.length ⟨0,false,.cells 69 [.s t6.s,.sl0,.b false,.sl0,.i .i64 t.l]⟩)[Z3.length]? =_:=aK yZ (by omega) _
   have S9:(List.set s6 Z1.length ⟨0,false,.cells 69 [.s t6.s,.sl0,.b false,.sl0,.i .i64 t.l]⟩)[Z.length]? =_:=aK cp6 (by omega) _
   have X7:aN p Z (List.set s6 Z1.length ⟨0,false,.cells 69 [.s t6.s,.sl0,.b false,.sl0,.i .i64 t.l]⟩):=X6.bJ (bV.bT _ _ _ _) (by omega)
   have l7:(List.set s6 Z1.length ⟨0,false,.cells 69 [.s t6.s,.sl0,.b false,.sl0,.i .i64 t.l]⟩).length=s6.length:=gK
   generalize List.set s6 Z1.length ⟨0,false,.cells 69 [.s t6.s,.sl0,.b false,.sl0,.i .i64 t.l]⟩=s7 at k7 wY wZ S9 X7 l7 ⊢
   conv=>whnf
   refine ak (aj (T:=bf) rfl rfl (ah (S9)) rfl) ?_
   conv=>whnf
   refine VK (n:=n) 0 Z1.length Z3.length Z.length t6.s t.l s7 (m+1+1) _ k7 (by omega) he2 (by omega) wZ S9 wY ⟨by omega,by omega,by omega,by omega,by omega⟩ ?_
   change P2q p w g all Z1.length t6.s t.l s7 0 _ (parsW n (all.drop (m+1+1)))
   generalize parsW n (all.drop (m+1+1))=r1 at hg hQ
   cases r1 with
   | out=>exact hg.elim
   | bad c l=>exact False.elim hQ
   | ok ps bI=>
     have hQ:Oq p w g all Z Q (fnR n t.l t6.s ps bI):=hQ
     intro A s8 m8 y8 k8 hm8 mZ ha8
     have mZ:s8[Z1.length]? =some ⟨0,false,.cells 69 [.s t6.s,A,.b false,.sl0,.i .i64 t.l]⟩:=mZ
     have oM:=y8.get (by omega) (by omega) wZ
     have cp8:=y8.get (by omega) (by omega) S9
     have X8:aN p Z s8:=X7.bJ y8 (by omega)
     have l8:=y8.len
     have he8:aZ (all.drop m8):=by rw [hm8];exact hg.2.1
     obtain⟨t8,r8,qJ⟩:=he8.ne
     obtain⟨ht8,Xo⟩:=b_ qJ
     have hl8':(all.drop m8).length=r8.length+1:=by rw [qJ];rfl
     have lg:=hg.2.2
     rw [<-hm8] at lg
     unfold fnR at hQ
     rw [<-hm8,qJ] at hQ
     conv=>whnf
     refine ak (aj (T:=dY) rfl rfl (ah (oM)) rfl) ?_
     conv=>whnf
     refine ak (aj (T:=bf) rfl rfl (ah (cp8)) rfl) ?_
     conv=>whnf
     refine oI [112,116,114] k8 ht8 (fun hi=>(aX he8 qJ hi).1) (fun hi s9 y9 k9=>?_) (fun hi=>?_)
     ·have VH:aY dA (t8 :: r8)=true:=hi
      have hQ:Oq p w g all Z Q ((dD n 0 r8).bind fun b bI=>.ok ⟨t6.s,ps,true,b,t.l⟩ bI):=by
            simp only [VH,if_true] at hQ;exact hQ
      obtain⟨hmA,SY,VJ⟩:=aX he8 qJ hi
      have hlA:(all.drop (m8+1)).length=r8.length:=by rw [Xo]
      rw [<-Xo] at hQ
      have EM:=y9.get (by omega) mZ
      have CS:=y9.get (by omega) oM
      have Np:=y9.get (by omega) cp8
      have X9:=X8.trans y9
      have l9:=y9.len
      conv=>whnf
      refine⟨?_,?_⟩
      ·conv=>whnf
       refine ak (aj (T:=dY) rfl rfl (ah (CS)) rfl) ?_
       rfl
      conv=>whnf
      refine ak (aC (T:=xH) ([.s t6.s,A,.b true,.sl0,.i .i64 t.l]) rfl (EM) rfl rfl (aU rfl) rfl) ?_
      conv=>whnf
      have k10:=k9.bT EM (by decide) (by decide) ⟨0,false,.cells 69 [.s t6.s,A,.b true,.sl0,.i .i64 t.l]⟩
      have qL:(List.set s9 Z1.length ⟨0,false,.cells 69 [.s t6.s,A,.b true,.sl0,.i .i64 t.l]⟩)[Z1.length]? =some ⟨0,false,.cells 69 [.s t6.s,A,.b true,.sl0,.i .i64 t.l]⟩:=at_set EM _
      have sJ:(List.set s9 Z1.length ⟨0,false,.cells 69 [.s t6.s,A,.b true,.sl0,.i .i64 t.l]⟩)[Z3.length]? =_:=aK CS (by omega) _
      have cp10:(List.set s9 Z1.length ⟨0,false,.cells 69 [.s t6.s,A,.b true,.sl0,.i .i64 t.l]⟩)[Z.length]? =_:=aK Np (by omega) _
      have RU:aN p Z (List.set s9 Z1.length ⟨0,false,.cells 69 [.s t6.s,A,.b true,.sl0,.i .i64 t.l]⟩):=X9.bJ (bV.bT _ _ _ _) (by omega)
      have l10:(List.set s9 Z1.length ⟨0,false,.cells 69 [.s t6.s,A,.b true,.sl0,.i .i64 t.l]⟩).length=s9.length:=gK
      have ha10:sF (fun i=>Z1.length<i) (List.set s9 Z1.length ⟨0,false,.cells 69 [.s t6.s,A,.b true,.sl0,.i .i64 t.l]⟩) A ps:=(show sF (fun i=>s7.length<=i) s8 A ps from ha8).mono (fun i hi=>by omega) (fun i hi a ha=>aK (y9.get (by omega) ha) (by omega) _)
      generalize List.set s9 Z1.length ⟨0,false,.cells 69 [.s t6.s,A,.b true,.sl0,.i .i64 t.l]⟩=s10 at k10 qL sJ cp10 RU l10 ha10 ⊢
      have hgb:=(FN n).block 0 (all.drop (m8+1)) SY (by omega)
      conv=>whnf
      refine ak (aj (T:=dY) rfl rfl (ah (sJ)) rfl) ?_
      conv=>whnf
      refine ak (aj (T:=bf) rfl rfl (ah (cp10)) rfl) ?_
      conv=>whnf
      refine(allQ (p:=p) (w:=w) (g:=g) hno hnn hko n).1.block 0 s10 (m8+1) _ k10 (by omega) SY (by omega) ?_
      generalize dD n 0 (all.drop (m8+1))=rb at hgb hQ
      cases rb with
      | out=>exact hgb.elim
      | bad c l=>exact False.elim hQ
      | ok bd dM=>
        have hQ:Oq p w g all Z Q (.ok ⟨t6.s,ps,true,bd,t.l⟩ dM):=hQ
        intro Bd s11 m9 S_ k11 FW hbd hB
        have B_:=S_.get (by omega) qL
        have AP:=S_.get (by omega) sJ
        have Ou:=S_.get (by omega) cp10
        have VP:=RU.trans S_
        have l11:=S_.len
        refine dJ _ _ ?_
        conv=>whnf
        refine⟨?_,?_⟩
        ·conv=>whnf
         refine ak (aj (T:=dY) rfl rfl (ah (AP)) rfl) ?_
         rfl
        conv=>whnf
        refine ak (ji (T:=dL) [.s t6.s,A,.b true,Bd,.i .i64 t.l] hB rfl rfl B_ (aU rfl) rfl) ?_
        have k12:=k11.bT B_ (by decide) (by decide) ⟨0,false,.cells 69 [.s t6.s,A,.b true,Bd,.i .i64 t.l]⟩
        have cx12:(List.set s11 Z1.length ⟨0,false,.cells 69 [.s t6.s,A,.b true,Bd,.i .i64 t.l]⟩)[Z1.length]? =some ⟨0,false,.cells 69 [.s t6.s,A,.b true,Bd,.i .i64 t.l]⟩:=at_set B_ _
        have cv12:(List.set s11 Z1.length ⟨0,false,.cells 69 [.s t6.s,A,.b true,Bd,.i .i64 t.l]⟩)[Z3.length]? =_:=aK AP (by omega) _
        have cp12:(List.set s11 Z1.length ⟨0,false,.cells 69 [.s t6.s,A,.b true,Bd,.i .i64 t.l]⟩)[Z.length]? =_:=aK Ou (by omega) _
        have X12:aN p Z (List.set s11 Z1.length ⟨0,false,.cells 69 [.s t6.s,A,.b true,Bd,.i .i64 t.l]⟩):=VP.bJ (bV.bT _ _ _ _) (by omega)
        have l12:(List.set s11 Z1.length ⟨0,false,.cells 69 [.s t6.s,A,.b true,Bd,.i .i64 t.l]⟩).length=s11.length:=gK
        conv=>whnf
        refine ak (aj (T:=dY) rfl rfl (ah (cv12)) rfl) ?_
        conv=>whnf
        refine Fin.ref rfl (hQ _ _ _ X12 k12 FW ⟨Z1.length,A,Bd,by omega,rfl,cx12,?_,?_⟩)
        ·exact ha10.mono (fun i hi=>by omega) (fun i hi a ha=>aK (S_.get (by have:=bK ha;omega) ha) (by omega) _)
        ·exact dX.mono (fun i hi=>by omega) (fun i hi a ha=>aK ha (by omega) _) hbd
     ·have VH:aY dA (t8 :: r8)=false:=hi
      have hQ:Oq p w g all Z Q ((dD n 0 (t8 :: r8)).bind fun b bI=>.ok ⟨t6.s,ps,false,b,t.l⟩ bI):=by
            simp only [VH,if_neg Bool.false_ne_true] at hQ;exact hQ
      rw [<-qJ] at hQ
      conv=>whnf
      refine⟨?_,?_⟩
      ·conv=>whnf
       refine ak (aj (T:=dY) rfl rfl (ah (oM)) rfl) ?_
       rfl
      conv=>whnf
      refine ak (aC (T:=xH) ([.s t6.s,A,.b false,.sl0,.i .i64 t.l]) rfl (mZ) rfl rfl (aU rfl) rfl) ?_
      conv=>whnf
      have k9:=k8.bT mZ (by decide) (by decide) ⟨0,false,.cells 69 [.s t6.s,A,.b false,.sl0,.i .i64 t.l]⟩
      have EM:(List.set s8 Z1.length ⟨0,false,.cells 69 [.s t6.s,A,.b false,.sl0,.i .i64 t.l]⟩)[Z1.length]? =some ⟨0,false,.cells 69 [.s t6.s,A,.b false,.sl0,.i .i64 t.l]⟩:=at_set mZ _
      have CS:(List.set s8 Z1.length ⟨0,false,.cells 69 [.s t6.s,A,.b false,.sl0,.i .i64 t.l]⟩)[Z3.length]? =_:=aK oM (by omega) _
      have Np:(List.set s8 Z1.length ⟨0,false,.cells 69 [.s t6.s,A,.b false,.sl0,.i .i64 t.l]⟩)[Z.length]? =_:=aK cp8 (by omega) _
      have X9:aN p Z (List.set s8 Z1.length ⟨0,false,.cells 69 [.s t6.s,A,.b false,.sl0,.i .i64 t.l]⟩):=X8.bJ (bV.bT _ _ _ _) (by omega)
      have l9:(List.set s8 Z1.length ⟨0,false,.cells 69 [.s t6.s,A,.b false,.sl0,.i .i64 t.l]⟩).length=s8.length:=gK
      have ha9:sF (fun i=>Z1.length<i) (List.set s8 Z1.length ⟨0,false,.cells 69 [.s t6.s,A,.b false,.sl0,.i .i64 t.l]⟩) A ps:=(show sF (fun i=>s7.length<=i) s8 A ps from ha8).mono (fun i hi=>by omega) (fun i hi a ha=>aK ha (by omega) _)
      generalize List.set s8 Z1.length ⟨0,false,.cells 69 [.s t6.s,A,.b false,.sl0,.i .i64 t.l]⟩=s9 at k9 EM CS Np X9 l9 ha9 ⊢
      have hgb:=(FN n).block 0 (all.drop (m8)) he8 (by omega)
      conv=>whnf
      refine ak (aj (T:=dY) rfl rfl (ah (CS)) rfl) ?_
      conv=>whnf
      refine ak (aj (T:=bf) rfl rfl (ah (Np)) rfl) ?_
      conv=>whnf
      refine(allQ (p:=p) (w:=w) (g:=g) hno hnn hko n).1.block 0 s9 (m8) _ k9 (by omega) he8 (by omega) ?_
      generalize dD n 0 (all.drop (m8))=rb at hgb hQ
      cases rb with
      | out=>exact hgb.elim
      | bad c l=>exact False.elim hQ
      | ok bd dM=>
        have hQ:Oq p w g all Z Q (.ok ⟨t6.s,ps,false,bd,t.l⟩ dM):=hQ
        intro Bd s10 m9 CV k10 FW hbd hB
        have qL:=CV.get (by omega) EM
        have sJ:=CV.get (by omega) CS
        have cp10:=CV.get (by omega) Np
        have RU:=X9.trans CV
        have l10:=CV.len
        refine dJ _ _ ?_
        conv=>whnf
        refine⟨?_,?_⟩
        ·conv=>whnf
         refine ak (aj (T:=dY) rfl rfl (ah (sJ)) rfl) ?_
         rfl
        conv=>whnf
        refine ak (ji (T:=dL) [.s t6.s,A,.b false,Bd,.i .i64 t.l] hB rfl rfl qL (aU rfl) rfl) ?_
        have k11:=k10.bT qL (by decide) (by decide) ⟨0,false,.cells 69 [.s t6.s,A,.b false,Bd,.i .i64 t.l]⟩
        have B_:(List.set s10 Z1.length ⟨0,false,.cells 69 [.s t6.s,A,.b false,Bd,.i .i64 t.l]⟩)[Z1.length]? =some ⟨0,false,.cells 69 [.s t6.s,A,.b false,Bd,.i .i64 t.l]⟩:=at_set qL _
        have AP:(List.set s10 Z1.length ⟨0,false,.cells 69 [.s t6.s,A,.b false,Bd,.i .i64 t.l]⟩)[Z3.length]? =_:=aK sJ (by omega) _
        have Ou:(List.set s10 Z1.length ⟨0,false,.cells 69 [.s t6.s,A,.b false,Bd,.i .i64 t.l]⟩)[Z.length]? =_:=aK cp10 (by omega) _
        have VP:aN p Z (List.set s10 Z1.length ⟨0,false,.cells 69 [.s t6.s,A,.b false,Bd,.i .i64 t.l]⟩):=RU.bJ (bV.bT _ _ _ _) (by omega)
        have l11:(List.set s10 Z1.length ⟨0,false,.cells 69 [.s t6.s,A,.b false,Bd,.i .i64 t.l]⟩).length=s10.length:=gK
        conv=>whnf
        refine ak (aj (T:=dY) rfl rfl (ah (AP)) rfl) ?_
        conv=>whnf
        refine Fin.ref rfl (hQ _ _ _ VP k11 FW ⟨Z1.length,A,Bd,by omega,rfl,B_,?_,?_⟩)
        ·exact ha9.mono (fun i hi=>by omega) (fun i hi a ha=>aK (CV.get (by have:=bK ha;omega) ha) (by omega) _)
        ·exact dX.mono (fun i hi=>by omega) (fun i hi a ha=>aK ha (by omega) _) hbd
  ·simp only [fA,if_neg hk1] at hQ
   exact False.elim hQ
 ·rw [aQ,if_neg (show ¬aY pV (t :: r)=true by rw [show aY pV (t :: r)=iK [102,117,110,99] t from rfl,hi];decide)] at hQ
  exact False.elim hQ
end
end Go.Abs.YtlkfbfhkcaldlaaGreatDoor
namespace Go.Abs.YtlkfbfhkcaldlaaGreatDoor
open Go.Proofs
def Qi (z:Tok):Prop:=(z.k=2->((∀c∈z.s,48<=c.toNat/\c.toNat<=57)/\lD 0 z.s<4294967296/\z.s.length<=100000)/\z.s≠[])/\(z.k=4->z.s∈keys)/\(z.k=3->z.s∉keys)
theorem Qj:∀(l:List UInt8) (v:Nat),BH v l=true->v<4294967296->lD v l<4294967296
 | [],v,_,hv=>hv
 | c :: l,v,h,_=>by
   unfold BH at h
   split at h
   ·cases h
   ·exact Qj l _ h (by omega)
theorem step_ok (c:UInt8)(t:List UInt8)(k n l:Nat)(hl:(c :: t).length<=32768)(h:step (c :: t)= .tok k n):Qi ⟨k,(c :: t).take n,l⟩:=by
 unfold step at h
 split at h
 ·cases h
 ·simp only at h
  split at h
  ·cases h
  ·split at h
   ·split at h
    ·cases h
    ·split at h
     ·rename_i hk
      cases h
      exact⟨fun e=>by simp at e,fun _=>List.contains_iff_mem.1 hk,fun e=>by simp at e⟩
     ·cases h
      exact⟨fun e=>by simp at e,fun e=>by simp at e,fun e=>by simp at e⟩
   ·rename_i hlet
    split at h
    ·rename_i hd
     split at h
     ·cases h
     ·split at h
      ·cases h
      ·rename_i hbig
       cases h
       have hall:=CJ isDigit (c :: t)
       have hne:(c :: t).take (run isDigit (c :: t))≠[]:=by
                have hp:0<run isDigit (c :: t):=vG _ hd
                obtain⟨k,hk⟩:∃k,run isDigit (c :: t)=k+1:=⟨_,(Nat.sub_add_cancel hp).symm⟩
                rw [hk,List.take_succ_cons];simp
       have hok:BH 0 ((c :: t).take (run isDigit (c :: t)))=true:=by
                rw [Oa hall hne] at hbig
                simpa using hbig
       refine⟨fun _=>⟨⟨fun x hx=>?_,Qj _ 0 hok (by decide),?_⟩,hne⟩,fun e=>by simp at e,fun e=>by simp at e⟩
       ·have:=hall x hx
        simp only [isDigit,fJ,decide_eq_true_eq] at this
        omega
       ·have hr:=rM isDigit (c :: t)
        show ((c :: t).take (run isDigit (c :: t))).length<=100000
        rw [List.length_take];omega
    ·split at h
     ·have hk:∀n,(c :: t).take (n+1)∉keys:=by
       intro n hm
       have hh:∀w∈keys,∀a∈w.head?,bQ a.toNat=true:=by decide
       have:=hh _ hm c (by rw [List.take_succ_cons];rfl)
       exact hlet this
      split at h
      ·cases h
       exact⟨fun e=>by simp at e,fun e=>by simp at e,fun _=>hk 1⟩
      ·cases h
       exact⟨fun e=>by simp at e,fun e=>by simp at e,fun _=>hk 0⟩
     ·cases h
theorem Ji:∀(n:Nat) (s:List UInt8) (l:Nat) (acc l':List Tok) (n':Nat),s.length<=32768->(∀z∈acc,Qi z)->mP n s l acc= .done l' n'->∀z∈l',Qi z
 | _,[],l,acc,l',n',_,ha,h=>by
   unfold mP at h;cases h;exact ha
 | 0,c :: t,l,acc,l',n',_,ha,h=>by
   unfold mP at h;cases h;exact ha
 | n+1,c :: t,l,acc,l',n',hs,ha,h=>by
   unfold mP at h
   have hf:=jh c t
   cases hst:step (c :: t) with
   | skip k nl=>
     rw [hst] at h
     exact Ji n _ _ acc l' n' (by rw [pF];omega) ha h
   | tok k m=>
     rw [hst] at h
     refine Ji n _ _ _ l' n' (by rw [pF];omega) (fun z hz=>?_) h
     rcases List.mem_append.1 hz with hz | hz
     ·exact ha z hz
     ·rw [List.mem_singleton.1 hz]
      exact step_ok c t k m l hs hst
   | err e=>rw [hst] at h;cases h
theorem L_ (z:Tok)(hz:z.k=5):∀l:List Tok,aZ (l ++ [z])
 | []=>by
   show aZ [z]
   unfold aZ
   rw [if_pos rfl];exact hz
 | x :: l=>by
   show aZ (x :: (l ++ [z]))
   unfold aZ
   rw [if_neg (by simp)]
   exact L_ z hz l
theorem Qk {t:List UInt8} {l:List Tok} (h:uj t= .toks l):aZ l/\EH l/\EJ l/\LZ l:=by
 unfold uj at h
 split at h
 ·cases h
 ·cases hG:mP t.length t 0 [] with
  | bad e l=>rw [hG] at h;cases h
  | done l0 n=>
    rw [hG] at h
    cases h
    have h0:=Ji t.length t 0 [] l0 n (by omega) (fun z hz=>by cases hz) hG
    have h1:∀z∈l0 ++ [⟨5,[],n⟩],Qi z:=by
        intro z hz
        rcases List.mem_append.1 hz with hz | hz
        ·exact h0 z hz
        ·rw [List.mem_singleton.1 hz]
         exact⟨fun e=>by simp at e,fun e=>by simp at e,fun e=>by simp at e⟩
    exact⟨L_ _ rfl _,fun z hz hk=>((h1 z hz).1 hk).1,fun z hz hk=>((h1 z hz).1 hk).2,fun z hz=>(h1 z hz).2⟩
end Go.Abs.YtlkfbfhkcaldlaaGreatDoor
namespace Go.Abs.YtlkfbfhkcaldlaaGreatDoor
open Go.Proofs
set_option maxRecDepth 4000
def RV (B:Nat)(Z:St)(v:AV)(cs:List AV):Prop:=(cs=[]/\v= .sl0)\/∃o g,B<=o/\v= .sl o g 0 cs.length 1/\Z[o]? =some ⟨g,false,.cells 64 cs⟩/\cs≠[]
theorem VQ {B:Nat} {Z:St} {v:AV} {cs:List AV} (h:RV B Z v cs) {oy gy:Nat} (hcs:cs.all AV.one=true)(hl:cs.length<=100000) {C:Nat} (hC:Z[C]? =some ⟨0,false,.cells 64 [.p oy gy 0]⟩)(hB:B<=Z.length) {Q:AV->St->Prop}
 (q:∀v' Z',RV B Z' v' (cs ++ [.p oy gy 0])->Z.length<=Z'.length->(∀i,i<Z.length->apart v i->Z'[i]? =Z[i]?/\apart v' i)->(∀i,i<B->Z'[i]? =Z[i]?)->(∀i,Z'.length<=i->apart v' i)->Q v' Z') :
 D8 KL.get false 58 v (.sl C 0 0 1 1) Z Q:=by
 constructor
 refine ak (v:=ug) rfl ?_
 refine ak (v:=dY) rfl ?_
 refine ak (kG hC (aU rfl)) ?_
 rcases h with ⟨rfl,rfl⟩ | ⟨o,g,h1,rfl,h3,_⟩
 ·refine⟨aU rfl,?_⟩
  refine q _ _ (.inr ⟨Z.length,0,hB,rfl,?_,by simp⟩) (by rw [aH];omega) (fun i hi _=>⟨eu hi,fun o g n z e=>by cases e;omega⟩) (fun i hi=>eu (by omega)) (fun i hi o g n z e=>by cases e;rw [aH] at hi;omega)
  rw [aG];rfl
 ·refine ak (oC h3) ?_
  refine⟨rfl,by simp,?_,by rw [List.drop_zero,List.take_of_length_le (by omega)];exact hcs,?_⟩
  ·show (cs.length+1)*8<=_;omega
  refine q _ _ (.inr ⟨o,g+1,h1,by simp,?_,by simp⟩) (by rw [gK];exact Nat.le_refl _) (fun i hi ha=>⟨by rw [rZ (fun e=>ha o g _ _ rfl e.symm)],fun o' g' n z e=>by cases e;exact ha o g _ _ rfl⟩) (fun i hi=>by rw [rZ (by omega)]) (fun i hi o' g' n z e=>by cases e;rw [gK] at hi;have:=bK h3;omega)
  rw [at_set h3]
  simp [List.take_of_length_le]
  rfl
def ig (S:Nat->Prop)(Z:St):List AV->List Fm->Prop
 | [],[]=>True
 | a :: cs,x :: xs=>(∃o g,a= .p o g 0)/\pz S Z a x/\ig S Z cs xs
 | _,_=>False
theorem ig.mono {S S':Nat->Prop} {Z Z':St} (h1:∀o,S o->S' o)(h2:∀o,S o->∀a,Z[o]? =some a->Z'[o]? =some a):∀{cs:List AV} {xs:List Fm},ig S Z cs xs->ig S' Z' cs xs
 | [],[],_=>trivial
 | a :: cs,x :: xs,h=>⟨h.1,h.2.1.mono h1 h2,ig.mono h1 h2 h.2.2⟩
theorem ig.snoc {S:Nat->Prop} {Z:St} :∀{cs:List AV} {xs:List Fm} {a:AV} {x:Fm},ig S Z cs xs->(∃o g,a= .p o g 0)->pz S Z a x->ig S Z (cs ++ [a]) (xs ++ [x])
 | [],[],a,x,_,ha,hx=>⟨ha,hx,trivial⟩
 | b :: cs,y :: xs,a,x,h,ha,hx=>⟨h.1,h.2.1,ig.snoc h.2.2 ha hx⟩
theorem ig.len {S:Nat->Prop} {Z:St} :∀{cs:List AV} {xs:List Fm},ig S Z cs xs->cs.length=xs.length
 | [],[],_=>rfl
 | a :: cs,x :: xs,h=>by have:=ig.len h.2.2;simp [this]
theorem ig.one {S:Nat->Prop} {Z:St} :∀{cs:List AV} {xs:List Fm},ig S Z cs xs->cs.all AV.one=true
 | [],[],_=>rfl
 | a :: cs,x :: xs,h=>by
   obtain⟨o,g,rfl⟩:=h.1
   rw [List.all_cons,ig.one h.2.2];rfl
def FY (B:Nat)(Z:St)(v:AV)(xs:List Fm):Prop:=∃cs,RV B Z v cs/\ig (fun i=>B<=i/\apart v i) Z cs xs
theorem RV.sl {B:Nat} {Z:St} {v:AV} {cs:List AV} (h:RV B Z v cs):JI v:=by
 rcases h with ⟨_,rfl⟩ | ⟨o,g,_,rfl,_⟩
 ·exact .inl rfl
 ·exact .inr ⟨_,_,_,rfl⟩
theorem ig.below {S:Nat->Prop} {Z:St} :∀{cs:List AV} {xs:List Fm},ig S Z cs xs->ig (fun o=>S o/\o<Z.length) Z cs xs
 | [],[],_=>trivial
 | a :: cs,x :: xs,h=>⟨h.1,h.2.1.below,h.2.2.below⟩
theorem Mc {p B D:Nat} {Z0 Z2:St} {A:AV} {acc:List Fm} (ha:FY B Z0 A acc)(x2:aN p Z0 Z2)(hp:p<B)(hB:B<=Z0.length)(hD:D<=Z2.length)(hD0:Z0.length<=D)(hl:acc.length<=90000)(oy gy:Nat) {Q:AV->St->Prop}
 (q:∀o3 g3 k Z3,(∀i,i<B->Z3[i]? =Z2[i]?)->Z2.length<=Z3.length->(∀(i:Nat) (a:AO),Z2[i]? =some a->(∀(g:Nat) (ro:Bool) (cs:List AV),a≠⟨g,ro,.cells 64 cs⟩)->Z3[i]? =some a)->(∀y,pz (fun i=>D<=i) Z2 (.p oy gy 0) y->FY B Z3 (.sl o3 g3 0 k 1) (acc ++ [y]))->Q (.sl o3 g3 0 k 1) Z3) :
 D8 KL.get false 58 A (.sl Z2.length 0 0 1 1) (newCells 64 [.p oy gy 0] Z2) Q:=by
 obtain⟨cs,hraw,hea⟩:=ha
 have hcl:=hea.len
 have hco:=hea.one
 have lx:=x2.len
 have LQ:RV B (newCells 64 [.p oy gy 0] Z2) A cs:=by
  rcases hraw with h | ⟨o,g,q1,q2,q3,q4⟩
  ·exact .inl h
  ·exact .inr ⟨o,g,q1,q2,at_new (x2.get (by omega) q3) _ _,q4⟩
 have hlt:∀o g n z,A= .sl o g 0 n z->o<Z0.length:=by
  intro o g n z e
  rcases hraw with ⟨_,h⟩ | ⟨o',g',q1,q2,q3,q4⟩
  ·rw [h] at e;cases e
  ·rw [q2] at e;cases e;exact bK q3
 refine VQ (B:=B) (cs:=cs) LQ hco (by omega) (aG _ _ _) (by rw [aH];omega) fun v' Z3 hr3 hl3 ho3 hb3 hap3=>?_
 rw [aH] at hl3
 obtain⟨o3,g3,p1,rfl,p3,p4⟩:=hr3.resolve_left (by simp)
 refine q _ _ _ Z3 (fun i hi=>by rw [hb3 i hi,eu (by omega)]) (by omega) (fun i a hi ht=>?_) (fun y LP=>?_)
 ·rw [(ho3 i (by rw [aH];have:=bK hi;omega) ?_).1]
  ·exact at_new hi _ _
  ·intro o g n z e
   rcases hraw with ⟨_,h⟩ | ⟨o',g',q1,q2,q3,q4⟩
   ·rw [h] at e;cases e
   ·rw [q2] at e
    cases e
    intro e
    subst e
    have:=(x2.get (by omega) q3).symm.trans hi
    exact ht _ _ _ (Option.some.inj this).symm
 refine⟨_,hr3,ig.snoc (ig.mono (fun i hi=>⟨hi.1.1,(ho3 i (by rw [aH];omega) hi.1.2).2⟩) (fun i hi a ha=>by rw [(ho3 i (by rw [aH];omega) hi.1.2).1,eu (by omega),x2.old i hi.2 (by omega)];exact ha) hea.below) ⟨_,_,rfl⟩ ?_⟩
 have hap:∀i,D<=i->apart A i:=fun i hi o g n z e=>by have:=hlt o g n z e;omega
 exact pz.mono (fun i hi=>⟨by omega,(ho3 i (by rw [aH];omega) (hap i hi.1)).2⟩) (fun i hi a ha=>by rw [(ho3 i (by rw [aH];omega) (hap i hi.1)).1];exact at_new ha _ _) LP.below
theorem FY.keep {B:Nat} {Z Z':St} {v:AV} {xs:List Fm} (h:FY B Z v xs)(k:∀(i:Nat) (a:AO),B<=i->Z[i]? =some a->Z'[i]? =some a):FY B Z' v xs:=by
 obtain⟨cs,h1,h2⟩:=h
 refine⟨cs,?_,h2.mono (fun i hi=>hi) (fun i hi a ha=>k i a hi.1 ha)⟩
 rcases h1 with h | ⟨o,g,q1,q2,q3,q4⟩
 ·exact .inl h
 ·exact .inr ⟨o,g,q1,q2,k o _ q1 q3,q4⟩
theorem PW.Jj {p w g m d:Nat} {all:List Tok} {Z Z':St} {f:AV} (h:PW p w g all Z m d f)(k:∀(i:Nat) (a:AO),Z[i]? =some a->(∀(g:Nat) (ro:Bool) (cs:List AV),a≠⟨g,ro,.cells 64 cs⟩)->Z'[i]? =some a):PW p w g all Z' m d f:=
 ⟨k _ _ h.obj (fun _ _ _ e=>by cases e),k _ _ h.tok (fun _ _ _ e=>by cases e),h.ne,h.len,h.at_,h.dp⟩
def PFs (p w g:Nat)(all:List Tok)(B q:Nat)(Z:St)(acc:List Fm)(Q:Out->Env->St->Prop):Re (List Fm)->Prop
 | .ok xs ts=>∀A' Z' m' e',get e' 6= .p p 0 0->get e' 7= .p q 0 0->dO p q B Z Z'->PW p w g all Z' m' 0 .p0->all.drop m'= ts->Z'[q]? =some ⟨0,false,.cells 60 [A']⟩->FY B Z' A' (acc ++ xs)->Q (.exit 0) e' Z'
 | .bad _ _=>False
 | .out=>True
section
variable {p w g:Nat} {all:List Tok}
theorem Ql (hno:EH all)(hnn:EJ all)(hko:LZ all):∀(n B q:Nat),(p<B/\w<B/\q<B)->q≠p->∀(acc:List Fm) (A:AV) (Z:St) (m:Nat) (Q:Out->Env->St->Prop),PW p w g all Z m 0 .p0->B<=Z.length->Z[q]? =some ⟨0,false,.cells 60 [A]⟩->FY B Z A acc->aZ (all.drop m)->10*(all.drop m).length+11<=n->acc.length+(all.drop m).length<=40001->PFs p w g all B q Z acc Q (eH n (all.drop m))->aV X [6,7] c10L0 [(6,.p p 0 0),(7,.p q 0 0)] Z Q
 | 0=>by intro B q _ _ acc A Z m Q _ _ _ _ _ h;omega
 | n+1=>by
   intro B q hlt hne acc A Z m Q h hB hq ha he hn hs hQ
   have ihS:=Ql hno hnn hko n
   obtain⟨t,r,hts⟩:=he.ne
   obtain⟨ht,hr⟩:=b_ hts
   have hlr:(all.drop m).length=r.length+1:=by rw [hts];rfl
   unfold eH at hQ
   rw [hts] at hQ
   simp only at hQ
   have hsl:JI A:=by obtain⟨cs,hr,_⟩:=ha;exact hr.sl
   refine aV.round ay (lit:=false) ?_
   conv=>whnf
   refine au.to (mW h) ?_
   conv=>whnf
   refine au.to (jZ h ht) ?_
   conv=>whnf
   by_cases h5:t.k=5
   ·rw [if_pos h5] at hQ
    have hQ:PFs p w g all B q Z acc Q (.ok [] (t :: r)):=hQ
    rw [decide_eq_true (by omega)]
    conv=>whnf
    conv=>whnf
    exact hQ A Z m _ rfl rfl (.refl _ _ _ _) h hts hq (by rw [List.append_nil];exact ha)
   ·rw [if_neg h5,<-hts] at hQ
    have hg:=Qc n (all.drop m) he (by omega)
    rw [decide_eq_false (by omega)]
    conv=>whnf
    conv=>whnf
    rcases hsl with rfl | ⟨oo,gg,kk,rfl⟩
    all_goals
     refine ak (aj (T:=ug) rfl rfl (ah (hq)) rfl) ?_
     conv=>whnf
     refine Ot (n:=n) hno hnn hko Z m _ h he (by omega) ?_
     generalize kH n (all.drop m)=r1 at hg hQ
     cases r1 with
     | out=>exact hg.elim
     | bad c l=>exact False.elim hQ
     | ok f bI=>
       have hQ:PFs p w g all B q Z acc Q ((eH n bI).bind fun l ts=>.ok (f :: l) ts):=hQ
       intro o s2 m2 y2 k2 hm2 hf
       have cq:=y2.get hne hq
       have lx:=y2.len
       rw [<-hm2] at hQ hg
       have hlt2:=hg.2.2
       conv=>whnf
       refine⟨?_,?_⟩
       ·conv=>whnf
        refine ak (aj (T:=ug) rfl rfl (ah (cq)) rfl) ?_
        rfl
       conv=>whnf
       refine⟨?_,?_⟩
       ·conv=>whnf
        refine ak (aj (T:=ug) rfl rfl (ah (at_new cq _ _)) rfl) ?_
        rfl
       conv=>whnf
       refine Mc (D:=Z.length) ha y2 hlt.1 hB lx (Nat.le_refl _) (by omega) o 0 fun o3 g3 k3 s3 e3 l3 kT kA=>?_
       have dq:s3[q]? =_:=(e3 q hlt.2.2).trans cq
       have nG:=k2.Jj kT
       conv=>whnf
       refine ak (aC (T:=ug) ([.sl o3 g3 0 k3 1]) rfl (dq) rfl rfl (aU rfl) rfl) ?_
       conv=>whnf
       have k4:=nG.bT dq (by decide) (by decide) ⟨0,false,.cells 60 [.sl o3 g3 0 k3 1]⟩
       have JJ:dO p q B Z (s3.set q ⟨0,false,.cells 60 [.sl o3 g3 0 k3 1]⟩):=⟨by rw [gK];omega,fun i hi o_ hix=>by rw [rZ (fun e=>hix e.symm),e3 i hi,y2.old i (by omega) o_]⟩
       refine ihS B q hlt hne (acc ++ [f]) _ _ m2 Q k4 (by rw [gK];omega) (at_set dq _) ((kA f hf).keep fun i a hi ha=>aK ha (by omega) _) hg.2.1 (by omega) (by rw [bM];simp only [bg,bZ];omega) ?_
       generalize eH n (all.drop m2)=r2 at hQ
       cases r2 with
       | out=>trivial
       | bad c l=>exact False.elim hQ
       | ok xs wW=>exact fun A4 s4 m4 e' e6 e7 x4 h4 hm4 hq4 VB=>hQ A4 s4 m4 e' e6 e7 (JJ.trans x4) h4 hm4 hq4 (by rw [iC] at VB;exact VB)
end
end Go.Abs.YtlkfbfhkcaldlaaGreatDoor
namespace Go.Abs.YtlkfbfhkcaldlaaGreatDoor
open Go.Proofs
set_option maxRecDepth 4000
def jR (t:List UInt8):Re (List Fm):=match uj t with
 | .bad e l=>.bad e l
 | .toks ts=>eH (10*ts.length+11) ts
def qo (S:Nat->Prop)(Z:St)(v:AV)(fs:List Fm):Prop:=∃o A,S o/\v= .p o 0 0/\Z[o]? =some ⟨0,false,.cells 60 [A]⟩/\((fs=[]/\A= .sl0)\/∃o2 g2 cs,S o2/\A= .sl o2 g2 0 cs.length 1/\Z[o2]? =some ⟨g2,false,.cells 64 cs⟩/\ig S Z cs fs/\cs≠[])
theorem FY.prog {B:Nat} {Z:St} {A:AV} {fs:List Fm} (h:FY B Z A fs) {o:Nat} (ho:B<=o)(hq:Z[o]? =some ⟨0,false,.cells 60 [A]⟩):qo (fun i=>B<=i) Z (.p o 0 0) fs:=by
 obtain⟨cs,h1,h2⟩:=h
 refine⟨o,A,ho,rfl,hq,?_⟩
 have h3:ig (fun i=>B<=i) Z cs fs:=h2.mono (fun i hi=>hi.1) (fun i _ a ha=>ha)
 rcases h1 with ⟨rfl,rfl⟩ | ⟨o2,g2,q1,q2,q3,q4⟩
 ·refine .inl ⟨?_,rfl⟩
  cases fs with
  | nil=>rfl
  | cons _ _=>exact h3.elim
 ·exact .inr ⟨o2,g2,cs,q1,q2,q3,h3,q4⟩
theorem ig.at_ {S S':Nat->Prop} {Z Z':St} {cs:List AV} {xs:List Fm} (h1:∀o,S o->S' o)(h2:∀o,S o->∀a,Z[o]? =some a->Z'[o]? =some a)(h:ig S Z cs xs):ig S' Z' cs xs:=h.mono h1 h2
theorem qo.mono {S S':Nat->Prop} {Z Z':St} (h1:∀o,S o->S' o)(h2:∀o,S o->∀a,Z[o]? =some a->Z'[o]? =some a) {fs:List Fm} {v:AV} (h:qo S Z v fs):qo S' Z' v fs:=by
 obtain⟨o,A,a,b,c,d⟩:=h
 refine⟨o,A,h1 _ a,b,h2 _ a _ c,?_⟩
 rcases d with d | ⟨o2,g2,cs,e,f,g,i,j⟩
 ·exact .inl d
 ·exact .inr ⟨o2,g2,cs,h1 _ e,f,h2 _ e _ g,i.mono h1 h2,j⟩
def PPr (Z:St)(Q:AV->St->Prop):Re (List Fm)->Prop
 | .ok fs _=>∀o Z',Ext Z Z'->qo (fun i=>Z.length<=i) Z' (.p o 0 0) fs->Q (.tu [.p o 0 0,.ic0]) Z'
 | .bad _ _=>False
 | .out=>True
theorem Jk (t:List UInt8)(Z:St)(hg:Z.take G0.length=G0)(Q:AV->St->Prop)(hQ:PPr Z Q (jR t)):au X 10 [.s t] Z Q:=by
 unfold jR at hQ
 refine au.body (F:=F10) ay (lit:=false) rfl rfl (aU rfl) ?_
 conv=>whnf
 refine ltok_to t Z hg _ (fun l out Z1 hl hlen x1 ho=>?_) (fun e l o Z1 hl x1 hol hf=>?_)
 ·rw [hl] at hQ
  obtain⟨he,hno,hnn,hko⟩:=Qk hl
  have hQ:PPr Z Q (eH (10*l.length+11) l):=hQ
  rcases ho with ⟨rfl,_⟩ | ⟨w,g,hw,rfl,htok⟩
  ·exact he.elim
  have lw:=bK htok
  conv=>whnf
  have b5:(newCells 88 (AV.ag [.sl w g 0 l.length 3,.i .i64 0,.p0]).cells Z1)[Z1.length]? =some ⟨0,false,.cells 88 [.sl w g 0 l.length 3,.i .i64 0,.p0]⟩:=aG _ _ _
  have x5:Ext Z1 (newCells 88 (AV.ag [.sl w g 0 l.length 3,.i .i64 0,.p0]).cells Z1):=(Ext.refl Z1).new _ _
  have l5:(newCells 88 (AV.ag [.sl w g 0 l.length 3,.i .i64 0,.p0]).cells Z1).length=Z1.length+1:=aH _ _ _
  generalize newCells 88 (AV.ag [.sl w g 0 l.length 3,.i .i64 0,.p0]).cells Z1=Z5 at b5 x5 l5 ⊢
  have b6:(newCells 60 (AV.ag [.sl0]).cells Z5)[Z5.length]? =some ⟨0,false,.cells 60 [.sl0]⟩:=aG _ _ _
  have x6:Ext Z5 (newCells 60 (AV.ag [.sl0]).cells Z5):=(Ext.refl Z5).new _ _
  have l6:(newCells 60 (AV.ag [.sl0]).cells Z5).length=Z5.length+1:=aH _ _ _
  generalize newCells 60 (AV.ag [.sl0]).cells Z5=Z6 at b6 x6 l6 ⊢
  have lx:=x1.len
  have hlp:=bK b5
  have hpos:0<l.length:=by obtain⟨t0,r0,e0⟩:=he.ne;rw [e0];exact Nat.succ_pos _
  have k6:PW Z1.length w g l Z6 0 0 .p0:=⟨by rw [x6.get b5];rfl,x6.get (x5.get htok),by omega,by omega,hpos,by omega⟩
  have hge:∀Z',dO Z1.length Z5.length Z6.length Z6 Z'->Ext Z Z':=fun Z' y=>by
   refine⟨by have:=y.len;omega,fun i hi=>?_⟩
   rw [y.old i (by omega) (by omega) (by omega),x6.old i (by omega),x5.old i (by omega),x1.old i hi]
  refine Ql hno hnn hko (10*l.length+11) Z6.length Z5.length ⟨by omega,by omega,by omega⟩ (by omega) [] .sl0 Z6 0 _ k6 (Nat.le_refl _) b6 ⟨[],.inl ⟨rfl,rfl⟩,trivial⟩ (by rw [List.drop_zero];exact he) (by rw [List.drop_zero];exact Nat.le_refl _) (by rw [List.drop_zero];simp only [bZ];omega) ?_
  rw [List.drop_zero]
  have hg:=Ls (10*l.length+11) l he (Nat.le_refl _)
  generalize eH (10*l.length+11) l=r1 at hg hQ
  cases r1 with
  | out=>exact hg.elim
  | bad c l'=>exact False.elim hQ
  | ok fs ts=>
    intro A Z7 m7 e' e6 e7 y7 k7 hm7 hq7 ha7
    conv=>whnf
    rw [show Opd.ev e' (.t 6)=get e' 6 from rfl,e6]
    conv=>whnf
    refine au.to (mW k7) ?_
    conv=>whnf
    have h7:get (put (some 42) (.b false) (put (some 41) (.p Z1.length 0 0) e')) 7= .p Z5.length 0 0:=e7
    erw [h7]
    conv=>whnf
    refine Fin.ref rfl (hQ _ _ (hge _ y7) ?_)
    have hA:FY Z6.length Z7 A fs:=ha7
    obtain⟨cs,q1,q2⟩:=hA
    have q3:ig (fun i=>Z.length<=i) Z7 cs fs:=q2.mono (fun i hi=>by omega) (fun i _ a ha=>ha)
    refine⟨Z5.length,A,by omega,rfl,hq7,?_⟩
    rcases q1 with ⟨rfl,rfl⟩ | ⟨o2,g2,p1,p2,p3,p4⟩
    ·refine .inl ⟨?_,rfl⟩
     cases fs with
     | nil=>rfl
     | cons _ _=>exact q3.elim
    ·exact .inr ⟨o2,g2,cs,by omega,p2,p3,q3,p4⟩
 ·rw [hl] at hQ
  exact False.elim hQ
end Go.Abs.YtlkfbfhkcaldlaaGreatDoor
