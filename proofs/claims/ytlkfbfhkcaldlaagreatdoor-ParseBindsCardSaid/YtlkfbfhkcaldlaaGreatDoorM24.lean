/- Texts of this claim, joined: Pk, Pl, Pm, Pn. -/
import Derived.Test.YtlkfbfhkcaldlaaGreatDoorM23
set_option linter.unusedVariables false
set_option linter.unusedSimpArgs false
namespace Go.Abs.YtlkfbfhkcaldlaaGreatDoor
open Go.Proofs
set_option maxRecDepth 4000
def PSs (p w g:Nat)(all:List Tok)(σ:St)(d:Nat)(Q:AV→St→Prop):Re gY→Prop
 | .ok l ts=>∀A σ' m',aN p σ σ'→PW p w g all σ' m' d .p0→all.drop m'= ts→dX (fun i=>σ.length≤i) σ' A l→JI A→Q A σ'
 | .bad c l=>∀A σ',aN p σ σ'→PB p σ' d c l→JI A→Q A σ'
 | .out=>True
def nJ (p w g:Nat)(all:List Tok)(σ:St)(d:Nat)(Q:AV→St→Prop):Re Sm→Prop
 | .ok s ts=>∀o g' σ' m',aN p σ σ'→PW p w g all σ' m' d .p0→all.drop m'= ts→jc (fun i=>σ.length≤i) σ' (.p o g' 0) s→Q (.p o g' 0) σ'
 | .bad c l=>∀o g' σ',aN p σ σ'→PB p σ' d c l→Q (.p o g' 0) σ'
 | .out=>True
def PQs (p w g:Nat)(all:List Tok)(B bp bl:Nat)(σ:St)(d:Nat)(acc:List Sm)(Q:Out→Env→St→Prop):Re gY→Prop
 | .ok xs ts=>∀A' σ' m' e',get e' 0= .p bp 0 0→dO p bl B σ σ'→PW p w g all σ' m' d .p0→all.drop m'= ts→σ'[bl]? =some ⟨0,false,.cells 67 [A']⟩→FU B σ' A' (acc ++ EK xs)→Q (.exit 0) e' σ'
 | .bad c l=>∀A' σ' e',get e' 0= .p bp 0 0→dO p bl B σ σ'→PB p σ' d c l→σ'[bl]? =some ⟨0,false,.cells 67 [A']⟩→JI A'→Q (.exit 0) e' σ'
 | .out=>True
structure WQ (p w g:Nat)(all:List Tok)(n:Nat):Prop where
 block:∀(d:Nat) (σ:St) (m:Nat) (Q:AV→St→Prop),PW p w g all σ m d .p0→d≤64→aZ (all.drop m)→10*(all.drop m).length+10≤n→PSs p w g all σ d Q (dD n d (all.drop m))→au X 60 [.p p 0 0] σ Q
 branch:∀(d line:Nat) (σ:St) (m:Nat) (Q:AV→St→Prop),PW p w g all σ m d .p0→d≤64→aZ (all.drop m)→10*(all.drop m).length+12≤n→nJ p w g all σ d Q (dQ n d line (all.drop m))→au X 123 [.p p 0 0,.i .i64 line] σ Q
 stmt:∀(d:Nat) (σ:St) (m:Nat) (Q:AV→St→Prop),PW p w g all σ m d .p0→d≤64→aZ (all.drop m)→10*(all.drop m).length+14≤n→nJ p w g all σ d Q (fE n d (all.drop m))→au X 94 [.p p 0 0] σ Q
def vT (p w g:Nat)(all:List Tok)(n:Nat):Prop:=∀(d B bp bl:Nat),d≤64→(p<B∧w<B∧bp<B∧bl<B)→(bp≠p∧bl≠p∧bp≠bl)→
 ∀ (acc:List Sm) (A:AV) (σ:St) (m:Nat) (Q:Out→Env→St→Prop),PW p w g all σ m d .p0→B≤σ.length→σ[bp]? =some ⟨0,false,.cells 85 [.p p 0 0]⟩→σ[bl]? =some ⟨0,false,.cells 67 [A]⟩→FU B σ A acc→aZ (all.drop m)→10*(all.drop m).length+15≤n→acc.length+(all.drop m).length≤40001→PQs p w g all B bp bl σ d acc Q (eG n d (all.drop m))→aV X [0,1] T_ [(0,.p bp 0 0),(1,.p bl 0 0)] σ Q
section
variable {p w g:Nat} {all:List Tok} {n:Nat}
theorem xX {d c l bp bl:Nat} {σ:St} {Q:Out→Env→St→Prop} (h:PB p σ d c l)(hbp:σ[bp]? =some ⟨0,false,.cells 85 [.p p 0 0]⟩)
 (q:∀e',get e' 0= .p bp 0 0→Q (.exit 0) e' σ):aV X [0,1] T_ [(0,.p bp 0 0),(1,.p bl 0 0)] σ Q:=by
 refine aV.round ay (lit:=false) ?_
 conv=>whnf
 refine ak (aj (T:=bf) rfl rfl (ah (hbp)) rfl) ?_
 conv=>whnf
 refine au.to (uH h) ?_
 conv=>whnf
 exact q _ rfl
theorem Zb (ih:WQ p w g all n)(ihS:vT p w g all n):vT p w g all (n+1):=by
 intro d B bp bl hd hlt hne acc A σ m Q h hB hbp hbl ha he hn hs hQ
 obtain⟨t,r,hts⟩:=he.ne
 obtain⟨ht,hr⟩:=b_ hts
 unfold eG at hQ
 rw [hts] at hQ
 have hsl:JI A:=by obtain⟨cs,hr,_⟩:=ha;exact hr.sl
 refine aV.round ay (lit:=false) ?_
 conv=>whnf
 refine ak (aj (T:=bf) rfl rfl (ah (hbp)) rfl) ?_
 conv=>whnf
 refine au.to (mW h) ?_
 conv=>whnf
 refine ak (aj (T:=bf) rfl rfl (ah (hbp)) rfl) ?_
 conv=>whnf
 have b1:(newCells 9 [.s [125]] σ)[σ.length]? =some ⟨0,false,.cells 9 [.s [125]]⟩:=aG _ _ _
 have x1:Ext σ (newCells 9 [.s [125]] σ):=(Ext.refl σ).new _ _
 have l1:(newCells 9 [.s [125]] σ).length=σ.length+1:=aH _ _ _
 generalize newCells 9 [.s [125]] σ=σ1 at b1 x1 l1 ⊢
 have h1:=h.ext x1
 have y1:dO p bl B σ σ1:=.of (aN.of x1) hB
 have c1:=x1.get hbp
 have c2:=x1.get hbl
 have ha1:FU B σ1 A acc:=ha.keep fun i a _ ha=>x1.get ha
 refine au.to (BX [[125]] h1 ht σ.length 0 (ah b1) (aU rfl)) ?_
 conv=>whnf
 rw [jU]
 cases hi:iK [125] t with
 | true=>
   rw [if_pos (show aY [125] (t :: r)=true from hi)] at hQ
   conv=>whnf
   exact hQ A σ1 m _ rfl y1 h1 hts c2 (by rw [show acc ++ EK .nil=acc from List.append_nil acc];exact ha1)
 | false=>
   rw [if_neg (by rw [show aY [125] (t :: r)=iK [125] t from rfl,hi];decide),←hts] at hQ
   have hg:=(FN n).stmt d (all.drop m) he (by omega)
   conv=>whnf
   rcases hsl with rfl | ⟨oo,gg,kk,rfl⟩
   all_goals
    refine ak (aj (T:=dL) rfl rfl (ah (c2)) rfl) ?_
    conv=>whnf
    refine ak (aj (T:=bf) rfl rfl (ah (c1)) rfl) ?_
    conv=>whnf
    refine ih.stmt d σ1 m _ h1 hd he (by omega) ?_
    generalize fE n d (all.drop m)=r1 at hg hQ
    cases r1 with
    | out=>exact hg.elim
    | bad c l=>
      intro oy gy s y k
      have e1:=y.get hne.1 c1
      have e2:=y.get hne.2.1 c2
      have ly:=y.len
      conv=>whnf
      refine⟨?_,?_⟩
      ·conv=>whnf
       refine ak (aj (T:=dL) rfl rfl (ah (e2)) rfl) ?_
       rfl
      conv=>whnf
      refine⟨?_,?_⟩
      ·conv=>whnf
       refine ak (aj (T:=dL) rfl rfl (ah (at_new e2 _ _)) rfl) ?_
       rfl
      conv=>whnf
      refine LY (D:=s.length) ha1 y hlt.1 (by omega) (Nat.le_refl _) ly (by omega) oy gy fun o3 g3 nG s3 e3 l3 kT kA=>?_
      have f2:s3[bl]? =_:=(e3 bl hlt.2.2.2).trans e2
      have f1:s3[bp]? =_:=(e3 bp hlt.2.2.1).trans e1
      have k3:=k.Jf kT
      conv=>whnf
      refine ak (aC (T:=dL) ([.sl o3 g3 0 nG 1]) rfl (f2) rfl rfl (aU rfl) rfl) ?_
      conv=>whnf
      have k4:=k3.bT f2 (by decide) (by decide) (by decide) ⟨0,false,.cells 67 [.sl o3 g3 0 nG 1]⟩
      have yy:dO p bl B σ (s3.set bl ⟨0,false,.cells 67 [.sl o3 g3 0 nG 1]⟩):=y1.trans ⟨by rw [gK];omega,fun i hi o_ hix=>by rw [rZ (fun e=>hix e.symm),e3 i hi,y.old i (by omega) o_]⟩
      exact xX k4 (aK f1 hne.2.2.symm _) fun e' e0=>hQ _ _ e' e0 yy k4 (at_set f2 _) (.inr ⟨_,_,_,rfl⟩)
    | ok y0 bI=>
      intro oy gy s m2 y k hm2 LP
      have e1:=y.get hne.1 c1
      have e2:=y.get hne.2.1 c2
      have ly:=y.len
      have hQ:PQs p w g all B bp bl σ d acc Q ((eG n d bI).bind fun l ts=>.ok (.cons y0 l) ts):=hQ
      rw [←hm2] at hQ hg
      have lg:=hg.2.2
      conv=>whnf
      refine⟨?_,?_⟩
      ·conv=>whnf
       refine ak (aj (T:=dL) rfl rfl (ah (e2)) rfl) ?_
       rfl
      conv=>whnf
      refine⟨?_,?_⟩
      ·conv=>whnf
       refine ak (aj (T:=dL) rfl rfl (ah (at_new e2 _ _)) rfl) ?_
       rfl
      conv=>whnf
      refine LY (D:=σ1.length) ha1 y hlt.1 (by omega) ly (Nat.le_refl _) (by omega) oy gy fun o3 g3 nG s3 e3 l3 kT kA=>?_
      have f2:s3[bl]? =_:=(e3 bl hlt.2.2.2).trans e2
      have f1:s3[bp]? =_:=(e3 bp hlt.2.2.1).trans e1
      have k3:=k.Jf kT
      conv=>whnf
      refine ak (aC (T:=dL) ([.sl o3 g3 0 nG 1]) rfl (f2) rfl rfl (aU rfl) rfl) ?_
      conv=>whnf
      have k4:=k3.bT f2 (by decide) (by decide) ⟨0,false,.cells 67 [.sl o3 g3 0 nG 1]⟩
      have yy:dO p bl B σ (s3.set bl ⟨0,false,.cells 67 [.sl o3 g3 0 nG 1]⟩):=y1.trans ⟨by rw [gK];omega,fun i hi o_ hix=>by rw [rZ (fun e=>hix e.symm),e3 i hi,y.old i (by omega) o_]⟩
      refine ihS d B bp bl hd hlt hne (acc ++ [y0]) _ _ m2 Q k4 (by rw [gK];omega) (aK f1 hne.2.2.symm _) (at_set f2 _) ((kA y0 LP).keep fun i a hi ha=>aK ha (by omega) _) hg.2.1 (by omega) (by rw [bM];simp only [bg,bZ];omega) ?_
      generalize eG n d (all.drop m2)=r2 at hQ
      cases r2 with
      | out=>trivial
      | bad c l=>exact fun A4 dF e' q0 x4=>hQ A4 dF e' q0 (yy.trans x4)
      | ok xs wW=>exact fun A4 dF m4 e' q0 x4 h4 hm4 hx4 VB=>hQ A4 dF m4 e' q0 (yy.trans x4) h4 hm4 hx4 (by rw [iC] at VB;exact VB)
theorem Zc (ihS:vT p w g all n)(d:Nat)(σ:St)(m:Nat)(Q:AV→St→Prop)(h:PW p w g all σ m d .p0)(hd:d≤64)(he:aZ (all.drop m))(hn:10*(all.drop m).length+10≤n+1)(hQ:PSs p w g all σ d Q (dD (n+1) d (all.drop m))):au X 60 [.p p 0 0] σ Q:=by
 obtain⟨t,r,hts⟩:=he.ne
 obtain⟨ht,hr⟩:=b_ hts
 have hpl:=bK h.obj
 have hwl:=bK h.tok
 have hal:=h.len
 have hm:=h.at_
 have hlr:(all.drop m).length=r.length+1:=by rw [hts];rfl
 unfold dD gV at hQ
 rw [hts] at hQ
 refine au.body (F:=F60) ay (lit:=false) rfl rfl (aU rfl) ?_
 conv=>whnf
 have b1:(newCells 85 (AV.p p 0 0).cells σ)[σ.length]? =some ⟨0,false,.cells 85 [.p p 0 0]⟩:=aG _ _ _
 have x1:Ext σ (newCells 85 (AV.p p 0 0).cells σ):=(Ext.refl σ).new _ _
 have l1:(newCells 85 (AV.p p 0 0).cells σ).length=σ.length+1:=aH _ _ _
 generalize newCells 85 (AV.p p 0 0).cells σ=σ1 at b1 x1 l1 ⊢
 have b2:(newCells 67 dL.zero.cells σ1)[σ1.length]? =some ⟨0,false,.cells 67 [.sl0]⟩:=aG _ _ _
 have x2:Ext σ1 (newCells 67 dL.zero.cells σ1):=(Ext.refl σ1).new _ _
 have l2:(newCells 67 dL.zero.cells σ1).length=σ1.length+1:=aH _ _ _
 generalize newCells 67 dL.zero.cells σ1=σ2 at b2 x2 l2 ⊢
 have xx:=x1.trans x2
 have h2:=h.ext xx
 have c1:=x2.get b1
 refine ak (aj (T:=bf) rfl rfl (ah (c1)) rfl) ?_
 conv=>whnf
 refine au.mono (Q:=fun v s=>v= .tu []∧∃A,JI A∧s[σ1.length]? =some ⟨0,false,.cells 67 [A]⟩∧Fin σ A s Q) ?_ fun v s q=>?_
 ·have bad:∀(c l:Nat) (s1:St),aN p σ2 s1→PB p s1 (d+1) c l→PSs p w g all σ d Q (.bad c l)→au X 93 [.p σ.length 0 0,.p σ1.length 0 0] s1 (QI p m d (fun v s=>v= .tu []∧∃A,JI A∧s[σ1.length]? =some ⟨0,false,.cells 67 [A]⟩∧Fin σ A s Q)):=by
   intro c l s1 y1 k1 hq
   have e1:=y1.get (by omega) c1
   refine au.body (F:=F93) ay (lit:=false) rfl rfl (aU rfl) ?_
   conv=>whnf
   refine xX k1 e1 fun e' e0=>?_
   conv=>whnf
   rw [show Opd.ev e' (.t 0)=get e' 0 from rfl,e0]
   conv=>whnf
   refine ak (aj (T:=bf) rfl rfl (ah (e1)) rfl) ?_
   conv=>whnf
   refine au.to (ku [125] k1) ?_
   conv=>whnf
   have k1':=k1
   obtain⟨w2,g2,all2,m2,fo,fg,j1,j2,j3⟩:=k1'
   exact Fin.flat rfl iq ⟨rfl,w2,g2,all2,m2,_,j1,.inr (by simp),fun s3 y3 j4=>⟨rfl,.sl0,.inl rfl,y3.get (by omega) (y1.get (by omega) b2),h.ne_of j4 (.inr (by simp)) (hq _ _ (((aN.of xx).trans y1).trans y3) ⟨w2,g2,all2,m2,fo,fg,j4,j2,y3.get j2 j3⟩ (.inl rfl))⟩⟩
  refine RF [123] h2 ht hd (fun hi=>(aX he hts hi).1) (fun hi h64 s1 y1 k1=>?_) (fun hi h64 s1 y1 k1=>?_) (fun hi s1 y1 k1=>?_)
  ·rw [if_neg (by omega),aQ,if_pos (show aY [123] (t :: r)=true from hi)] at hQ
   have hQ:PSs p w g all σ d Q ((eG n (d+1) r).bind fun l ts=>(aQ [125] ts).bind fun _ ts=>.ok l ts):=hQ
   obtain⟨hm1,he1,hle⟩:=aX he hts hi
   have hg:=(FN n).stmts (d+1) (all.drop (m+1)) he1 (by rw [hr];omega)
   have hx1:aN p σ s1:=(aN.of xx).trans y1
   have e1:=y1.get (by omega) c1
   have e2:=y1.get (by omega) b2
   have ly:=y1.len
   have lx:=hx1.len
   have hall:(all.drop (m+1)).length≤40001:=by rw [pF];omega
   refine au.body (F:=F93) ay (lit:=false) rfl rfl (aU rfl) ?_
   conv=>whnf
   refine ihS (d+1) s1.length σ.length σ1.length (by omega) ⟨by omega,by omega,by omega,by omega⟩ ⟨by omega,by omega,by omega⟩ [] .sl0 s1 (m+1) _ k1 (Nat.le_refl _) e1 e2 ⟨[],.inl ⟨rfl,rfl⟩,trivial⟩ he1 (by rw [hr];omega) (by simp only [bZ];omega) ?_
   rw [hr] at hg ⊢
   generalize eG n (d+1) r=r1 at hg hQ
   cases r1 with
   | out=>exact hg.elim
   | bad c l=>
     intro A' s2 e' e0 y2 k2 hx2 hsl
     have f1:=y2.get (by omega) (by omega) (by omega) e1
     conv=>whnf
     rw [show Opd.ev e' (.t 0)=get e' 0 from rfl,e0]
     conv=>whnf
     refine ak (aj (T:=bf) rfl rfl (ah (f1)) rfl) ?_
     conv=>whnf
     refine au.to (ku [125] k2) ?_
     conv=>whnf
     have k2':=k2
     obtain⟨w2,g2,all2,m2,fo,fg,j1,j2,j3⟩:=k2'
     have ly2:=y2.len
     exact k1.ne_of j1 (.inr (by simp)) ⟨rfl,w2,g2,all2,m2,_,j1,.inr (by simp),fun s3 y3 j4=>⟨rfl,A',hsl,y3.get (by omega) hx2,h.ne_of j4 (.inr (by simp)) (hQ _ _ ⟨by have:=y3.len;omega,fun i hi o_=>by rw [y3.old i (by omega) o_,y2.old i (by omega) o_ (by omega),hx1.old i hi o_]⟩ ⟨w2,g2,all2,m2,fo,fg,j4,j2,y3.get j2 j3⟩ hsl)⟩⟩
   | ok xs bI=>
     intro A' s2 m2 e' e0 y2 k2 hm2 hx2 ha2
     have he2:aZ (all.drop m2):=by rw [hm2];exact hg.2.1
     obtain⟨t2,r2,jE⟩:=he2.ne
     obtain⟨ht2,hr2⟩:=b_ jE
     have hQ:PSs p w g all σ d Q ((aQ [125] bI).bind fun _ ts=>.ok xs ts):=hQ
     rw [←hm2,jE] at hQ
     have f1:=y2.get (by omega) (by omega) (by omega) e1
     have ly2:=y2.len
     have hsl:JI A':=by obtain⟨cs,hr,_⟩:=ha2;exact hr.sl
     have hmm:m+1≤m2:=by
      have:=hg.2.2
      rw [←hm2,←hr,pF,pF] at this
      omega
     have harg:=ha2.arg
     rw [show ([]:List Sm) ++ EK xs=EK xs from rfl,VE] at harg
     have fr:∀s3,aN p s2 s3→aN p σ s3:=fun s3 y3=>⟨by have:=y3.len;omega,fun i hi o_=>by rw [y3.old i (by omega) o_,y2.old i (by omega) o_ (by omega),hx1.old i hi o_]⟩
     conv=>whnf
     rw [show Opd.ev e' (.t 0)=get e' 0 from rfl,e0]
     conv=>whnf
     refine ak (aj (T:=bf) rfl rfl (ah (f1)) rfl) ?_
     conv=>whnf
     refine j_ [125] k2 ht2 (fun hi=>(aX he2 jE hi).1) (fun hi2 s5 y5 k5=>?_) (fun hi2 s5 y5 k5=>?_)
     ·rw [aQ,if_pos (show aY [125] (t2 :: r2)=true from hi2)] at hQ
      conv=>whnf
      refine k1.ne_of k5 (.inl (by omega)) ⟨rfl,w,g,all,m2+1,_,k5,.inl (by omega),fun s3 y3 j4=>⟨rfl,A',hsl,(y5.trans y3).get (by omega) hx2,h.ne_of j4 (.inl (by omega)) (hQ _ _ _ (fr s3 (y5.trans y3)) j4 hr2 ?_ hsl)⟩⟩
      exact dX.mono (fun i hi=>by omega) (fun i hi a ha=>(y5.trans y3).get (by omega) ha) harg
     ·rw [aQ,if_neg (show ¬aY [125] (t2 :: r2)=true by rw [show aY [125] (t2 :: r2)=iK [125] t2 from rfl,hi2];decide)] at hQ
      conv=>whnf
      have Og:=k5
      obtain⟨w2,g2,all2,Vz,fo,fg,j1,j2,j3⟩:=Og
      exact k1.ne_of j1 (.inr (by simp)) ⟨rfl,w2,g2,all2,Vz,_,j1,.inr (by simp),fun s3 y3 j4=>⟨rfl,A',hsl,(y5.trans y3).get (by omega) hx2,h.ne_of j4 (.inr (by simp)) (hQ _ _ (fr s3 (y5.trans y3)) ⟨w2,g2,all2,Vz,fo,fg,j4,j2,y3.get j2 j3⟩ hsl)⟩⟩
  ·rw [if_pos ⟨show aY [123] (t :: r)=true from hi,h64⟩] at hQ
   exact bad 3 t.l s1 y1 k1 hQ
  ·have hiw:¬aY [123] (t :: r)=true:=by rw [show aY [123] (t :: r)=iK [123] t from rfl,hi];decide
   rw [if_neg (fun e=>hiw e.1),aQ,if_neg hiw] at hQ
   exact bad 4 t.l s1 y1 k1 hQ
 ·obtain⟨rfl,A,hA,q1,q2⟩:=q
  rcases hA with rfl | ⟨o,g',k,rfl⟩
  ·conv=>whnf
   refine ak (aj (T:=dL) rfl rfl (ah (q1)) rfl) ?_
   conv=>whnf
   refine ak (aC (T:=dL) ([.sl0]) rfl (q1) rfl rfl (aU rfl) rfl) ?_
   conv=>whnf
   rw [yX q1]
   refine ak (aj (T:=dL) rfl rfl (ah (q1)) rfl) ?_
   conv=>whnf
   exact q2
  ·conv=>whnf
   refine ak (aj (T:=dL) rfl rfl (ah (q1)) rfl) ?_
   conv=>whnf
   refine ak (aC (T:=dL) ([.sl o g' 0 k 1]) rfl (q1) rfl rfl (aU rfl) rfl) ?_
   conv=>whnf
   rw [yX q1]
   refine ak (aj (T:=dL) rfl rfl (ah (q1)) rfl) ?_
   conv=>whnf
   exact q2
theorem yY {d c l:Nat} {σ:St} (h:PB p σ d c l)(hd:d+1≤1000) {Q:AV→St→Prop} (q:∀σ',aN p σ σ'→PB p σ' d c l→Q .sl0 σ'):au X 60 [.p p 0 0] σ Q:=by
 have hpl:=PB.lt h
 refine au.body (F:=F60) ay (lit:=false) rfl rfl (aU rfl) ?_
 conv=>whnf
 have b1:(newCells 85 (AV.p p 0 0).cells σ)[σ.length]? =some ⟨0,false,.cells 85 [.p p 0 0]⟩:=aG _ _ _
 have x1:Ext σ (newCells 85 (AV.p p 0 0).cells σ):=(Ext.refl σ).new _ _
 have l1:(newCells 85 (AV.p p 0 0).cells σ).length=σ.length+1:=aH _ _ _
 generalize newCells 85 (AV.p p 0 0).cells σ=σ1 at b1 x1 l1 ⊢
 have b2:(newCells 67 dL.zero.cells σ1)[σ1.length]? =some ⟨0,false,.cells 67 [.sl0]⟩:=aG _ _ _
 have x2:Ext σ1 (newCells 67 dL.zero.cells σ1):=(Ext.refl σ1).new _ _
 have l2:(newCells 67 dL.zero.cells σ1).length=σ1.length+1:=aH _ _ _
 generalize newCells 67 dL.zero.cells σ1=σ2 at b2 x2 l2 ⊢
 have xx:=x1.trans x2
 have h2:=h.ext xx
 have c1:=x2.get b1
 refine ak (aj (T:=bf) rfl rfl (ah (c1)) rfl) ?_
 conv=>whnf
 have fin:∀s,aN p σ2 s→PB p s d c l→Fin σ .sl0 s Q:=fun s y k=>lZ (q _ ((aN.of xx).trans y) k) fun _=>q _ (.refl _ _) h
 refine au.mono (Q:=fun v s=>v= .tu []∧s[σ1.length]? =some ⟨0,false,.cells 67 [.sl0]⟩∧Fin σ .sl0 s Q) ?_ fun v s q=>?_
 ·refine in_b (fun s=>aN p σ2 s) [123] h2 hd (fun s1 y1 k1=>?_) (fun s3 y3 k3=>⟨rfl,y3.get (by omega) b2,fin _ y3 k3⟩) (fun s3 y3 _=>⟨rfl,b2,fin _ (.refl _ _) h2⟩)
  have e1:=y1.get (by omega) c1
  refine au.body (F:=F93) ay (lit:=false) rfl rfl (aU rfl) ?_
  conv=>whnf
  refine xX k1 e1 fun e' e0=>?_
  conv=>whnf
  rw [show Opd.ev e' (.t 0)=get e' 0 from rfl,e0]
  conv=>whnf
  refine ak (aj (T:=bf) rfl rfl (ah (e1)) rfl) ?_
  conv=>whnf
  refine au.to (ku [125] k1) ?_
  conv=>whnf
  exact Fin.flat rfl iq ⟨rfl,k1,fun s3 y3 _=>y1.trans y3⟩
 ·obtain⟨rfl,q1,q2⟩:=q
  conv=>whnf
  refine ak (aj (T:=dL) rfl rfl (ah (q1)) rfl) ?_
  conv=>whnf
  refine ak (aC (T:=dL) ([.sl0]) rfl (q1) rfl rfl (aU rfl) rfl) ?_
  conv=>whnf
  rw [yX q1]
  refine ak (aj (T:=dL) rfl rfl (ah (q1)) rfl) ?_
  conv=>whnf
  exact q2
end
end Go.Abs.YtlkfbfhkcaldlaaGreatDoor
namespace Go.Abs.YtlkfbfhkcaldlaaGreatDoor
open Go.Proofs
set_option maxRecDepth 4000
theorem dJ (v:AV)(Q:AV→Prop)(h:Q v):fc v Q:=by
 cases v with
 | b t=>cases t <;> exact h
 | _=>exact fq_of _ _ h
theorem ji {t o g off e:Nat} {T:AT} {σ:St} {cs:List AV} {A:AV} (cs':List AV)(hA:JI A)(hT:KL.get t=some T)(hz:T.size=1)(ho:σ[o]? =some ⟨g,false,.cells e cs⟩)(hc:off+1≤cs.length)(hs:setCells cs off [A]=cs') :
 aStore (KL.get t) (.p o g off) A σ=some (σ.set o ⟨g,false,.cells e cs'⟩):=by
 rcases hA with rfl | ⟨o',g',n,rfl⟩
 ·exact aC cs' hT ho (by rw [hz];rfl) rfl (by rw [hz];exact hc) hs
 ·exact aC cs' hT ho (by rw [hz];rfl) rfl (by rw [hz];exact hc) hs
def dK (k:Nat)(nm:List UInt8)(pt:Bool)(L R T E:AV)(ln:Nat):AO:=⟨0,false,.cells 95 [.i .i64 k,.s nm,.b pt,L,R,T,E,.i .i64 ln]⟩
theorem bV.same {p x:Nat} {σ a b:St} (h:bV p x σ a)(k:aN p a b):bV p x σ b:=h.trans (.of k)
section
variable {p w g:Nat} {all:List Tok} {n:Nat}
theorem PW.st {m d:Nat} {f:AV} {σ:St} (h:PW p w g all σ m d f) {x k ln:Nat} {nm:List UInt8} {pt:Bool} {L R T E:AV} (hx:σ[x]? =some (dK k nm pt L R T E ln))(a:AO):PW p w g all (σ.set x a) m d f:=h.bT hx (by decide) (by decide) a
theorem PB.st {d c l:Nat} {σ:St} (h:PB p σ d c l) {x k ln:Nat} {nm:List UInt8} {pt:Bool} {L R T E:AV} (hx:σ[x]? =some (dK k nm pt L R T E ln))(a:AO):PB p (σ.set x a) d c l:=h.bT hx (by decide) (by decide) (by decide) a
def PEn (p w g:Nat)(all:List Tok)(xo kd:Nat)(nm:List UInt8)(pt:Bool)(L:AV)(ln:Nat)(σ:St)(d:Nat)(Q:AV→St→Prop):Re Tr→Prop
 | .ok y ts=>∀R σ' m',bV p xo σ σ'→PW p w g all σ' m' d .p0→all.drop m'= ts→σ'[xo]? =some (dK kd nm pt L R .sl0 .sl0 ln)→bP (fun i=>σ.length≤i) σ' R y→Q (.p xo 0 0) σ'
 | .bad c l=>∀σ',bV p xo σ σ'→PB p σ' d c l→Q (.p xo 0 0) σ'
 | .out=>True
theorem Zd (ih:WP p w g all n)(d kd k0 xo xv bp ln:Nat)(nm:List UInt8)(pt:Bool)(L:AV)(σ:St)(m:Nat)(Q:AV→St→Prop)(h:PW p w g all σ m d .p0)(hd:d≤64)(he:aZ (all.drop m))(hn:10*(all.drop m).length+10≤n+1)
 (hxv:σ[xv]? =some ⟨0,false,.cells 96 [.p xo 0 0]⟩) (hbp:σ[bp]? =some ⟨0,false,.cells 85 [.p p 0 0]⟩) (hx:σ[xo]? =some (dK k0 nm pt L .p0 .sl0 .sl0 ln)) (hne:xo≠p∧xv≠p∧bp≠p∧xv≠xo∧bp≠xo)
 (hQ:PEn p w g all xo kd nm pt L ln σ d Q (bU (n+1) d (all.drop m))):au X 121 [.i .i64 kd,.p xv 0 0,.p bp 0 0] σ Q:=by
 unfold bU at hQ
 have hQ:PEn p w g all xo kd nm pt L ln σ d Q ((dn n d 1 (all.drop m)).bind fun x ts=>(aQ [59] ts).bind fun _ ts=>.ok x ts):=hQ
 have hg:=(uD n).expr d 1 (all.drop m) he (by omega)
 have hxl:=bK hx
 refine au.body (F:=F121) ay (lit:=false) rfl rfl (aU rfl) ?_
 conv=>whnf
 refine ak (aj (T:=dH) rfl rfl (ah (hxv)) rfl) ?_
 conv=>whnf
 refine ak (aC (T:=fF) ([.i .i64 kd,.s nm,.b pt,L,.p0,.sl0,.sl0,.i .i64 ln]) rfl (hx) rfl rfl (aU rfl) rfl) ?_
 conv=>whnf
 have h1:PW p w g all (σ.set xo (dK kd nm pt L .p0 .sl0 .sl0 ln)) m d .p0:=h.st hx _
 have cx:(σ.set xo (dK kd nm pt L .p0 .sl0 .sl0 ln))[xo]? =_:=at_set hx _
 have cxv:(σ.set xo (dK kd nm pt L .p0 .sl0 .sl0 ln))[xv]? =_:=aK hxv hne.2.2.2.1.symm _
 have cbp:(σ.set xo (dK kd nm pt L .p0 .sl0 .sl0 ln))[bp]? =_:=aK hbp hne.2.2.2.2.symm _
 have x1:bV p xo σ (σ.set xo (dK kd nm pt L .p0 .sl0 .sl0 ln)):=bV.bT _ _ _ _
 have l1:(σ.set xo (dK kd nm pt L .p0 .sl0 .sl0 ln)).length=σ.length:=gK
 refine ak (aj (T:=dH) rfl rfl (ah (cxv)) rfl) ?_
 conv=>whnf
 refine ak (aj (T:=bf) rfl rfl (ah (cbp)) rfl) ?_
 conv=>whnf
 refine ih.expr d 1 _ m _ h1 hd (by omega) he (by omega) ?_
 generalize dn n d 1 (all.drop m)=r1 at hg hQ
 cases r1 with
 | out=>exact hg.elim
 | bad c l=>
   intro o g' s y k
   have ex:=y.get hne.1 cx
   conv=>whnf
   refine⟨?_,?_⟩
   ·conv=>whnf
    refine ak (aj (T:=dH) rfl rfl (ah (y.get hne.2.1 cxv)) rfl) ?_
    rfl
   conv=>whnf
   refine ak (aC (T:=aW) ([.i .i64 kd,.s nm,.b pt,L,.p o g' 0,.sl0,.sl0,.i .i64 ln]) rfl (ex) rfl rfl (aU rfl) rfl) ?_
   conv=>whnf
   have k2:=k.st ex (dK kd nm pt L (.p o g' 0) .sl0 .sl0 ln)
   refine ak (aj (T:=bf) rfl rfl (ah (aK (y.get hne.2.2.1 cbp) hne.2.2.2.2.symm _)) rfl) ?_
   conv=>whnf
   refine au.to (ku [59] k2) ?_
   conv=>whnf
   refine ak (aj (T:=dH) rfl rfl (ah (aK (y.get hne.2.1 cxv) hne.2.2.2.1.symm _)) rfl) ?_
   conv=>whnf
   exact Fin.ref rfl (hQ _ ((x1.same y).trans (bV.bT _ _ _ _)) k2)
 | ok z bI=>
   intro o g' s m2 y k hm2 LV
   have he2:aZ (all.drop m2):=by rw [hm2];exact hg.2.1
   obtain⟨t2,r2,jE⟩:=he2.ne
   obtain⟨ht2,hr2⟩:=b_ jE
   have hQ:PEn p w g all xo kd nm pt L ln σ d Q ((aQ [59] bI).bind fun _ ts=>.ok z ts):=hQ
   rw [←hm2,jE] at hQ
   have ex:=y.get hne.1 cx
   conv=>whnf
   refine⟨?_,?_⟩
   ·conv=>whnf
    refine ak (aj (T:=dH) rfl rfl (ah (y.get hne.2.1 cxv)) rfl) ?_
    rfl
   conv=>whnf
   refine ak (aC (T:=aW) ([.i .i64 kd,.s nm,.b pt,L,.p o g' 0,.sl0,.sl0,.i .i64 ln]) rfl (ex) rfl rfl (aU rfl) rfl) ?_
   conv=>whnf
   have k2:=k.st ex (dK kd nm pt L (.p o g' 0) .sl0 .sl0 ln)
   have fx:(s.set xo (dK kd nm pt L (.p o g' 0) .sl0 .sl0 ln))[xo]? =_:=at_set ex _
   have xx:=(x1.same y).trans (bV.bT p xo s (dK kd nm pt L (.p o g' 0) .sl0 .sl0 ln))
   have hxv2:(s.set xo (dK kd nm pt L (.p o g' 0) .sl0 .sl0 ln))[xv]? =_:=aK (y.get hne.2.1 cxv) hne.2.2.2.1.symm _
   refine ak (aj (T:=bf) rfl rfl (ah (aK (y.get hne.2.2.1 cbp) hne.2.2.2.2.symm _)) rfl) ?_
   conv=>whnf
   refine j_ [59] k2 ht2 (fun hi=>(aX he2 jE hi).1) (fun hi s3 y3 k3=>?_) (fun hi s3 y3 k3=>?_)
   ·rw [aQ,if_pos (show aY [59] (t2 :: r2)=true from hi)] at hQ
    conv=>whnf
    refine ak (aj (T:=dH) rfl rfl (ah (y3.get hne.2.1 hxv2)) rfl) ?_
    conv=>whnf
    refine Fin.ref rfl (hQ _ _ _ (xx.same y3) k3 hr2 (y3.get hne.1 fx) ?_)
    exact bP.mono (fun i hi=>by rw [gK] at hi;exact hi) (fun i hi a ha=>y3.get (by have:=bK h.obj;rw [gK] at hi;omega) (aK ha (by rw [gK] at hi;omega) _)) LV
   ·rw [aQ,if_neg (show ¬aY [59] (t2 :: r2)=true by rw [show aY [59] (t2 :: r2)=iK [59] t2 from rfl,hi];decide)] at hQ
    conv=>whnf
    refine ak (aj (T:=dH) rfl rfl (ah (y3.get hne.2.1 hxv2)) rfl) ?_
    conv=>whnf
    exact Fin.ref rfl (hQ _ (xx.same y3) k3)
theorem VF (ihE:WP p w g all n)(ih:WQ p w g all n)(d line:Nat)(σ:St)(m:Nat)(Q:AV→St→Prop)(h:PW p w g all σ m d .p0)(hd:d≤64)(he:aZ (all.drop m))(hn:10*(all.drop m).length+12≤n+1)(hQ:nJ p w g all σ d Q (dQ (n+1) d line (all.drop m))):au X 123 [.p p 0 0,.i .i64 line] σ Q:=by
 have hpl:=bK h.obj
 unfold dQ at hQ
 have hg:=(uD n).expr d 1 (all.drop m) he (by omega)
 refine au.body (F:=F123) ay (lit:=false) rfl rfl (aU rfl) ?_
 conv=>whnf
 have b1:(newCells 95 (AV.ag [.i .i64 4,.s [],.b false,.p0,.p0,.sl0,.sl0,.i .i64 line]).cells σ)[σ.length]? =some ⟨0,false,.cells 95 [.i .i64 4,.s [],.b false,.p0,.p0,.sl0,.sl0,.i .i64 line]⟩:=aG _ _ _
 have x1:Ext σ (newCells 95 (AV.ag [.i .i64 4,.s [],.b false,.p0,.p0,.sl0,.sl0,.i .i64 line]).cells σ):=(Ext.refl σ).new _ _
 have l1:(newCells 95 (AV.ag [.i .i64 4,.s [],.b false,.p0,.p0,.sl0,.sl0,.i .i64 line]).cells σ).length=σ.length+1:=aH _ _ _
 generalize newCells 95 (AV.ag [.i .i64 4,.s [],.b false,.p0,.p0,.sl0,.sl0,.i .i64 line]).cells σ=σ1 at b1 x1 l1 ⊢
 have h1:=h.ext x1
 have b1:σ1[σ.length]? =some (dK 4 [] false .p0 .p0 .sl0 .sl0 line):=b1
 have xx:aN p σ σ1:=aN.of x1
 refine ihE.expr d 1 σ1 m _ h1 hd (by omega) he (by omega) ?_
 generalize dn n d 1 (all.drop m)=r1 at hg hQ
 cases r1 with
 | out=>exact hg.elim
 | bad c l=>
   have hQ:nJ p w g all σ d Q (.bad c l):=hQ
   intro o g' s y k
   have ex:=y.get (by omega) b1
   have ly:=y.len
   conv=>whnf
   refine ak (aC (T:=aW) ([.i .i64 4,.s [],.b false,.p0,.p o g' 0,.sl0,.sl0,.i .i64 line]) rfl (ex) rfl rfl (aU rfl) rfl) ?_
   conv=>whnf
   have k2:=k.st ex (dK 4 [] false .p0 (.p o g' 0) .sl0 .sl0 line)
   have fx:(s.set σ.length (dK 4 [] false .p0 (.p o g' 0) .sl0 .sl0 line))[σ.length]? =_:=at_set ex _
   have y2:aN p σ (s.set σ.length (dK 4 [] false .p0 (.p o g' 0) .sl0 .sl0 line)):=(xx.trans y).bJ (bV.bT _ _ _ _) (Nat.le_refl _)
   refine yY k2 (by have:=h.dp;omega) fun s3 y3 k3=>?_
   have Ze:=y3.get (by omega) fx
   conv=>whnf
   refine ak (aC (T:=dL) ([.i .i64 4,.s [],.b false,.p0,.p o g' 0,.sl0,.sl0,.i .i64 line]) rfl (Ze) rfl rfl (aU rfl) rfl) ?_
   conv=>whnf
   have k4:=k3.st Ze (dK 4 [] false .p0 (.p o g' 0) .sl0 .sl0 line)
   refine au.to (ni [101,108,115,101] k4) ?_
   conv=>whnf
   exact Fin.ref rfl (hQ _ _ _ ((y2.trans y3).bJ (bV.bT _ _ _ _) (Nat.le_refl _)) k4)
 | ok z bI=>
   intro o g' s m2 y k hm2 LV
   have hQ:nJ p w g all σ d Q ((dD n d bI).bind fun th ts=>
    if aY jJ ts=true then
        if aY I7 ts.tail=true then(dQ n d (kW ts.tail) ts.tail.tail).bind fun b ts=>.ok (.st 4 [] false .nil z th (.cons b .nil) line) ts
        else(dD n d ts.tail).bind fun el ts=>.ok (.st 4 [] false .nil z th el line) ts
    else .ok (.st 4 [] false .nil z th .nil line) ts):=hQ
   have ex:=y.get (by omega) b1
   have ly:=y.len
   have lx:=xx.len
   conv=>whnf
   refine ak (aC (T:=aW) ([.i .i64 4,.s [],.b false,.p0,.p o g' 0,.sl0,.sl0,.i .i64 line]) rfl (ex) rfl rfl (aU rfl) rfl) ?_
   conv=>whnf
   have k2:=k.st ex (dK 4 [] false .p0 (.p o g' 0) .sl0 .sl0 line)
   have fx:(s.set σ.length (dK 4 [] false .p0 (.p o g' 0) .sl0 .sl0 line))[σ.length]? =_:=at_set ex _
   have y2:aN p σ (s.set σ.length (dK 4 [] false .p0 (.p o g' 0) .sl0 .sl0 line)):=(xx.trans y).bJ (bV.bT _ _ _ _) (Nat.le_refl _)
   have hez2:bP (fun i=>σ.length<i) (s.set σ.length (dK 4 [] false .p0 (.p o g' 0) .sl0 .sl0 line)) (.p o g' 0) z:=bP.mono (fun i hi=>by omega) (fun i hi a ha=>aK ha (by omega) _) LV
   have l2:(s.set σ.length (dK 4 [] false .p0 (.p o g' 0) .sl0 .sl0 line)).length=s.length:=gK
   rw [←hm2] at hQ hg
   have lg:=hg.2.2
   have hgb:=(FN n).block d (all.drop m2) hg.2.1 (by omega)
   refine ih.block d _ m2 _ k2 hd hg.2.1 (by omega) ?_
   generalize dD n d (all.drop m2)=r2 at hgb hQ
   cases r2 with
   | out=>exact hgb.elim
   | bad c l=>
     have hQ:nJ p w g all σ d Q (.bad c l):=hQ
     intro A s3 y3 k3 hA
     have Ze:=y3.get (by omega) fx
     refine dJ _ _ ?_
     conv=>whnf
     refine ak (ji (T:=dL) [.i .i64 4,.s [],.b false,.p0,.p o g' 0,A,.sl0,.i .i64 line] hA rfl rfl Ze (aU rfl) rfl) ?_
     have k4:=k3.st Ze (dK 4 [] false .p0 (.p o g' 0) A .sl0 line)
     conv=>whnf
     refine au.to (ni [101,108,115,101] k4) ?_
     conv=>whnf
     exact Fin.ref rfl (hQ _ _ _ ((y2.trans y3).bJ (bV.bT _ _ _ _) (Nat.le_refl _)) k4)
   | ok th dM=>
     intro A s3 m3 y3 k3 hm3 hth hA
     have hQ:nJ p w g all σ d Q (
        if aY jJ dM=true then
         if aY I7 dM.tail=true then(dQ n d (kW dM.tail) dM.tail.tail).bind fun b ts=>.ok (.st 4 [] false .nil z th (.cons b .nil) line) ts
         else(dD n d dM.tail).bind fun el ts=>.ok (.st 4 [] false .nil z th el line) ts
        else .ok (.st 4 [] false .nil z th .nil line) dM):=hQ
     have Ze:=y3.get (by omega) fx
     have l3:s.length≤s3.length:=by have:=y3.len;rw [gK] at this;exact this
     have he3:aZ (all.drop m3):=by rw [hm3];exact hgb.2.1
     obtain⟨t3,r3,FT⟩:=he3.ne
     obtain⟨ht3,hr3⟩:=b_ FT
     have hlen3:(all.drop m3).length=r3.length+1:=by rw [FT];rfl
     have lgb:=hgb.2.2
     rw [←hm3] at lgb
     rw [←hm3,FT] at hQ
     have hQ:nJ p w g all σ d Q (
        if aY jJ (t3 :: r3)=true then
         if aY I7 r3=true then(dQ n d (kW r3) r3.tail).bind fun b ts=>.ok (.st 4 [] false .nil z th (.cons b .nil) line) ts
         else(dD n d r3).bind fun el ts=>.ok (.st 4 [] false .nil z th el line) ts
        else .ok (.st 4 [] false .nil z th .nil line) (t3 :: r3)):=hQ
     refine dJ _ _ ?_
     conv=>whnf
     refine ak (ji (T:=dL) [.i .i64 4,.s [],.b false,.p0,.p o g' 0,A,.sl0,.i .i64 line] hA rfl rfl Ze (aU rfl) rfl) ?_
     have k4:=k3.st Ze (dK 4 [] false .p0 (.p o g' 0) A .sl0 line)
     have fx4:(s3.set σ.length (dK 4 [] false .p0 (.p o g' 0) A .sl0 line))[σ.length]? =_:=at_set Ze _
     have y4:aN p σ (s3.set σ.length (dK 4 [] false .p0 (.p o g' 0) A .sl0 line)):=(y2.trans y3).bJ (bV.bT _ _ _ _) (Nat.le_refl _)
     have hez4:bP (fun i=>σ.length<i) (s3.set σ.length (dK 4 [] false .p0 (.p o g' 0) A .sl0 line)) (.p o g' 0) z:=bP.mono (fun i hi=>hi) (fun i hi a ha=>aK (y3.get (by omega) ha) (by omega) _) hez2
     have hth4:dX (fun i=>σ.length<i) (s3.set σ.length (dK 4 [] false .p0 (.p o g' 0) A .sl0 line)) A th:=dX.mono (fun i hi=>by rw [gK] at hi;omega) (fun i hi a ha=>aK ha (by rw [gK] at hi;omega) _) hth
     have l4:(s3.set σ.length (dK 4 [] false .p0 (.p o g' 0) A .sl0 line)).length=s3.length:=gK
     have fin:∀(E:AV) (el:gY) (s5:St),aN p (s3.set σ.length (dK 4 [] false .p0 (.p o g' 0) A .sl0 line)) s5→dX (fun i=>σ.length<i) (s5.set σ.length (dK 4 [] false .p0 (.p o g' 0) A E line)) E el→jc (fun i=>σ.length≤i) (s5.set σ.length (dK 4 [] false .p0 (.p o g' 0) A E line)) (.p σ.length 0 0) (.st 4 [] false .nil z th el line):=by
        intro E el s5 y5 hE
        refine⟨σ.length,0,.p0,.p o g' 0,A,E,Nat.le_refl _,rfl,at_set (y5.get (by omega) fx4) _,rfl,?_,?_,?_⟩
        ·exact bP.mono (fun i hi=>by omega) (fun i hi a ha=>aK (y5.get (by omega) ha) (by omega) _) hez4
        ·exact dX.mono (fun i hi=>by omega) (fun i hi a ha=>aK (y5.get (by omega) ha) (by omega) _) hth4
        ·exact dX.mono (fun i hi=>by omega) (fun i hi a ha=>ha) hE
     conv=>whnf
     refine oI [101,108,115,101] k4 ht3 (fun hi=>(aX he3 FT hi).1) (fun hi s5 y5 k5=>?_) (fun hi=>?_)
     ·rw [if_pos (show aY jJ (t3 :: r3)=true from hi)] at hQ
      obtain⟨hm4,he4,hle4⟩:=aX he3 FT hi
      obtain⟨t4,r4,RN⟩:=he4.ne
      obtain⟨ht4,hr4⟩:=b_ RN
      have hrr:r3=t4 :: r4:=by rw [←RN,hr3]
      have hlen4:(all.drop (m3+1)).length=r4.length+1:=by rw [RN];rfl
      have hlr:r3.length=r4.length+1:=by rw [hrr];rfl
      rw [hrr] at hQ
      have l5:s3.length≤s5.length:=by have:=y5.len;rw [gK] at this;exact this
      conv=>whnf
      refine au.to (jZ k5 ht4) ?_
      conv=>whnf
      refine pW t4 fun s6 x6 Qg l6=>?_
      have k6:=k5.ext x6
      have y6:=y5.trans (aN.of x6)
      conv=>whnf
      refine oI [105,102] k6 ht4 (fun hi=>(aX he4 RN hi).1) (fun hi2 s7 y7 k7=>?_) (fun hi2=>?_)
      ·rw [if_pos (show aY I7 (t4 :: r4)=true from hi2)] at hQ
       have hQ:nJ p w g all σ d Q ((dQ n d t4.l r4).bind fun b ts=>.ok (.st 4 [] false .nil z th (.cons b .nil) line) ts):=hQ
       obtain⟨hm5,Vp,hle5⟩:=aX he4 RN hi2
       have hlen5:(all.drop (m3+1+1)).length=r4.length:=by rw [hr4]
       have hg5:=(FN n).branch d t4.l (all.drop (m3+1+1)) Vp (by omega)
       have l7:=y7.len
       rw [←hr4] at hQ
       conv=>whnf
       refine ak (aj (T:=fF) rfl rfl (ah (y7.get (by omega) Qg)) rfl) ?_
       conv=>whnf
       refine ih.branch d t4.l s7 (m3+1+1) _ k7 hd Vp (by omega) ?_
       generalize dQ n d t4.l (all.drop (m3+1+1))=r5 at hg5 hQ
       cases r5 with
       | out=>exact hg5.elim
       | bad c l=>
         have hQ:nJ p w g all σ d Q (.bad c l):=hQ
         intro o8 g8 s8 y8 k8
         have RP:=(y6.trans y7).trans y8
         conv=>whnf
         have b9:(newCells 96 [.p o8 g8 0] s8)[s8.length]? =some ⟨0,false,.cells 96 [.p o8 g8 0]⟩:=aG _ _ _
         have x9:Ext s8 (newCells 96 [.p o8 g8 0] s8):=(Ext.refl s8).new _ _
         have l9:(newCells 96 [.p o8 g8 0] s8).length=s8.length+1:=aH _ _ _
         generalize newCells 96 [.p o8 g8 0] s8=σ9 at b9 x9 l9 ⊢
         have VG:=x9.get (RP.get (by omega) fx4)
         have k9:=k8.ext x9
         refine ak (aC (T:=dL) ([.i .i64 4,.s [],.b false,.p0,.p o g' 0,A,.sl s8.length 0 0 1 1,.i .i64 line]) rfl (VG) rfl rfl (aU rfl) rfl) ?_
         conv=>whnf
         exact Fin.ref rfl (hQ _ _ _ ((y4.trans (RP.trans (aN.of x9))).bJ (bV.bT _ _ _ _) (Nat.le_refl _)) (k9.st VG _))
       | ok bs su=>
         have hQ:nJ p w g all σ d Q (.ok (.st 4 [] false .nil z th (.cons bs .nil) line) su):=hQ
         intro o8 g8 s8 m8 y8 k8 hm8 hbs
         have RP:=(y6.trans y7).trans y8
         have l8:=y8.len
         conv=>whnf
         have b9:(newCells 96 [.p o8 g8 0] s8)[s8.length]? =some ⟨0,false,.cells 96 [.p o8 g8 0]⟩:=aG _ _ _
         have x9:Ext s8 (newCells 96 [.p o8 g8 0] s8):=(Ext.refl s8).new _ _
         have l9:(newCells 96 [.p o8 g8 0] s8).length=s8.length+1:=aH _ _ _
         generalize newCells 96 [.p o8 g8 0] s8=σ9 at b9 x9 l9 ⊢
         have VG:=x9.get (RP.get (by omega) fx4)
         have k9:=k8.ext x9
         refine ak (aC (T:=dL) ([.i .i64 4,.s [],.b false,.p0,.p o g' 0,A,.sl s8.length 0 0 1 1,.i .i64 line]) rfl (VG) rfl rfl (aU rfl) rfl) ?_
         conv=>whnf
         refine Fin.ref rfl (hQ _ _ _ _ ((y4.trans (RP.trans (aN.of x9))).bJ (bV.bT _ _ _ _) (Nat.le_refl _)) (k9.st VG _) hm8 (fin _ _ σ9 (RP.trans (aN.of x9)) ?_))
         refine⟨s8.length,0,[.p o8 g8 0],by omega,rfl,aK b9 (by omega) _,_,_,rfl,?_,rfl⟩
         exact jc.mono (fun i hi=>by omega) (fun i hi a ha=>aK (x9.get ha) (by omega) _) hbs
      ·rw [if_neg (by rw [show aY I7 (t4 :: r4)=iK [105,102] t4 from rfl,hi2];decide),←RN] at hQ
       have hg5:=(FN n).block d (all.drop (m3+1)) he4 (by omega)
       conv=>whnf
       refine ih.block d s6 (m3+1) _ k6 hd he4 (by omega) ?_
       generalize dD n d (all.drop (m3+1))=r5 at hg5 hQ
       cases r5 with
       | out=>exact hg5.elim
       | bad c l=>
         have hQ:nJ p w g all σ d Q (.bad c l):=hQ
         intro E s8 y8 k8 hE
         have RP:=y6.trans y8
         have VG:=RP.get (by omega) fx4
         refine dJ _ _ ?_
         conv=>whnf
         refine ak (ji (T:=dL) [.i .i64 4,.s [],.b false,.p0,.p o g' 0,A,E,.i .i64 line] hE rfl rfl VG (aU rfl) rfl) ?_
         conv=>whnf
         exact Fin.ref rfl (hQ _ _ _ ((y4.trans RP).bJ (bV.bT _ _ _ _) (Nat.le_refl _)) (k8.st VG _))
       | ok el su=>
         have hQ:nJ p w g all σ d Q (.ok (.st 4 [] false .nil z th el line) su):=hQ
         intro E s8 m8 y8 k8 hm8 hel hE
         have RP:=y6.trans y8
         have VG:=RP.get (by omega) fx4
         refine dJ _ _ ?_
         conv=>whnf
         refine ak (ji (T:=dL) [.i .i64 4,.s [],.b false,.p0,.p o g' 0,A,E,.i .i64 line] hE rfl rfl VG (aU rfl) rfl) ?_
         conv=>whnf
         refine Fin.ref rfl (hQ _ _ _ _ ((y4.trans RP).bJ (bV.bT _ _ _ _) (Nat.le_refl _)) (k8.st VG _) hm8 (fin _ _ s8 RP ?_))
         exact dX.mono (fun i hi=>by omega) (fun i hi a ha=>aK ha (by omega) _) hel
     ·rw [if_neg (by rw [show aY jJ (t3 :: r3)=iK [101,108,115,101] t3 from rfl,hi];decide)] at hQ
      conv=>whnf
      refine Fin.ref rfl (hQ _ _ _ _ y4 k4 FT ?_)
      have:=fin .sl0 .nil _ (.refl _ _) rfl
      rw [List.set_set] at this
      exact this
end
end Go.Abs.YtlkfbfhkcaldlaaGreatDoor
namespace Go.Abs.YtlkfbfhkcaldlaaGreatDoor
open Go.Proofs
set_option maxRecDepth 4000
def LZ (all:List Tok):Prop:=∀z∈all,(z.k=4→z.s∈keys)∧(z.k=3→z.s∉keys)
section
variable {p w g:Nat} {all:List Tok} {n:Nat}
theorem nJ.to {d:Nat} {σ σ1:St} {Q Q':AV→St→Prop} {r:Re Sm} (hQ:nJ p w g all σ d Q r)(x1:aN p σ σ1)(k:∀o g' s,Q (.p o g' 0) s→Q' (.p o g' 0) s):nJ p w g all σ1 d Q' r:=by
 cases r with
 | out=>trivial
 | bad c l=>exact fun o g' σ2 x2 h2=>k _ _ _ (hQ o g' σ2 (x1.trans x2) h2)
 | ok x ts=>exact fun o g' σ2 m2 x2 h2 hm hex=>k _ _ _ (hQ o g' σ2 m2 (x1.trans x2) h2 hm (jc.mono (fun i hi=>Nat.le_trans x1.len hi) (fun i hi a ha=>ha) hex))
theorem BK:∀(all:List Tok) (m:Nat),(eY all).drop (3*m)=eY (all.drop m)
 | all,0=>rfl
 | [],m+1=>by simp [eY]
 | x :: l,m+1=>by
   have e:eY (x :: l)=uw x.k x.s x.l ++ eY l:=rfl
   rw [e,show 3*(m+1)=3+3*m by omega,←List.drop_drop,List.drop_left' (by rfl)]
   exact BK l m
theorem Au {σ:St} {N w g m:Nat} {all:List Tok} {t:Tok} (hN:σ[N]? =some ⟨0,false,.cells 62 (uw t.k t.s t.l)⟩)(hw:σ[w]? =some ⟨g,false,.cells 62 (eY all)⟩)(hm:m<all.length)(hl:all.length≤40001) {Q:AV→St→Prop}
 (q:Q (.sl N 1 (3*0) ((t :: all.drop m).length - 0) 3) (σ.set N ⟨1,false,.cells 62 (eY (t :: all.drop m))⟩)):D8 KL.get false 51 (.sl N 0 0 1 3) (.sl w g (3*m) (all.length - m) 3) σ Q:=by
 constructor
 refine ak (v:=qC) rfl ?_
 refine ak (v:=BR) rfl ?_
 have e1:((eY all).drop (3*m)).take ((all.length - m)*3)=eY (all.drop m):=by
  rw [BK,List.take_of_length_le (by rw [nP,pF];exact Nat.le_refl _)]
 refine ak (v:=(all.length - m,eY (all.drop m))) (by rw [←e1];exact kG hw (by rw [nP];show 3*m+(all.length - m)*3≤_;omega)) ?_
 obtain⟨k,hk⟩:∃k,all.length - m=k+1:=⟨all.length - m - 1,by omega⟩
 have hd:(all.drop m).length=k+1:=by rw [pF];exact hk
 show Abs.cB (Nat.beq (all.length - m) 0) _ (Abs.cB ((eY (all.drop m)).all AV.one) _ False)
 rw [hk,Aj]
 refine ak (oC hN) ?_
 refine⟨rfl,aU rfl,?_,rfl,?_⟩
 ·show (1+(k+1))*32≤140737488355328;omega
 ·have e2:(t :: all.drop m).length - 0=1+(k+1):=by rw [bg,hd];omega
  rw [e2] at q
  exact q
theorem Aw (n d:Nat)(t:Tok)(r:List Tok)(hk:t.k=4)(h1:t.s≠[40])(h2:t.s≠qF)(h3:t.s≠FM)(hn:2≤n):gW n d (t :: r)= .bad 4 t.l:=by
 obtain⟨n,rfl⟩:∃k,n=k+2:=⟨n - 2,by omega⟩
 have hW:∀s,aY s (t :: r)=(t.s == s):=fun s=>by show ((t.k == 4 || t.k == 3) && t.s == s)=_;rw [hk];rfl
 unfold gW dI
 simp only [hW,fA]
 rw [if_neg (by simpa using h1),if_neg (by simpa using h2),if_neg (by simpa using h3),if_neg (by rw [hk];decide),if_neg (by rw [hk];decide)]
 rfl
theorem nokey {t:Tok} (h:t.k=3→t.s∉keys)(s:List UInt8)(hs:s∈keys):(t.k == 3 && t.s == s)=false:=by
 by_cases h3:t.k=3
 ·have:t.s≠s:=fun e=>h h3 (e▸hs)
  rw [beq_eq_false_iff_ne.2 this,Bool.and_false]
 ·rw [beq_eq_false_iff_ne.2 h3];rfl
def L6 (p w g:Nat)(all:List Tok)(n:Nat):Prop:=∀(d kd k0 xo xv bp ln:Nat) (nm:List UInt8) (pt:Bool) (L:AV) (σ:St) (m:Nat) (Q:AV→St→Prop),PW p w g all σ m d .p0→d≤64→aZ (all.drop m)→10*(all.drop m).length+10≤n→
 σ[xv]? =some ⟨0,false,.cells 96 [.p xo 0 0]⟩→σ[bp]? =some ⟨0,false,.cells 85 [.p p 0 0]⟩→σ[xo]? =some (dK k0 nm pt L .p0 .sl0 .sl0 ln)→(xo≠p∧xv≠p∧bp≠p∧xv≠xo∧bp≠xo)→PEn p w g all xo kd nm pt L ln σ d Q (bU n d (all.drop m))→au X 121 [.i .i64 kd,.p xv 0 0,.p bp 0 0] σ Q
set_option maxHeartbeats 4000000 in
theorem stmt_p (hko:LZ all)(ihE:WP p w g all n)(ih:WQ p w g all n)(Xn:L6 p w g all n)(d:Nat)(σ:St)(m:Nat)(Q:AV→St→Prop)(h:PW p w g all σ m d .p0)(hd:d≤64)(he:aZ (all.drop m))(hn:10*(all.drop m).length+14≤n+1)(hQ:nJ p w g all σ d Q (fE (n+1) d (all.drop m))):au X 94 [.p p 0 0] σ Q:=by
 obtain⟨t,r,hts⟩:=he.ne
 obtain⟨ht,hr⟩:=b_ hts
 have hpl:=bK h.obj
 have hlr:(all.drop m).length=r.length+1:=by rw [hts];rfl
 unfold fE at hQ
 rw [hts] at hQ
 simp only at hQ
 refine au.body (F:=F94) ay (lit:=false) rfl rfl (aU rfl) ?_
 conv=>whnf
 have b1:(newCells 85 (AV.p p 0 0).cells σ)[σ.length]? =some ⟨0,false,.cells 85 [.p p 0 0]⟩:=aG _ _ _
 have x1:Ext σ (newCells 85 (AV.p p 0 0).cells σ):=(Ext.refl σ).new _ _
 have l1:(newCells 85 (AV.p p 0 0).cells σ).length=σ.length+1:=aH _ _ _
 generalize newCells 85 (AV.p p 0 0).cells σ=σ1 at b1 x1 l1 ⊢
 have h1:=h.ext x1
 refine ak (aj (T:=bf) rfl rfl (ah (b1)) rfl) ?_
 conv=>whnf
 refine au.to (jZ h1 ht) ?_
 conv=>whnf
 refine pW t fun σ2 x2 ht2 l2=>?_
 conv=>whnf
 refine ak (aj (T:=fF) rfl rfl (ah (ht2)) rfl) ?_
 conv=>whnf
 have b3:(newCells 95 (AV.ag [.i .i64 0,.s [],.b false,.p0,.p0,.sl0,.sl0,.i .i64 t.l]).cells σ2)[σ2.length]? =some ⟨0,false,.cells 95 [.i .i64 0,.s [],.b false,.p0,.p0,.sl0,.sl0,.i .i64 t.l]⟩:=aG _ _ _
 have x3:Ext σ2 (newCells 95 (AV.ag [.i .i64 0,.s [],.b false,.p0,.p0,.sl0,.sl0,.i .i64 t.l]).cells σ2):=(Ext.refl σ2).new _ _
 have l3:(newCells 95 (AV.ag [.i .i64 0,.s [],.b false,.p0,.p0,.sl0,.sl0,.i .i64 t.l]).cells σ2).length=σ2.length+1:=aH _ _ _
 generalize newCells 95 (AV.ag [.i .i64 0,.s [],.b false,.p0,.p0,.sl0,.sl0,.i .i64 t.l]).cells σ2=σ3 at b3 x3 l3 ⊢
 refine ak (aC (T:=dH) ([.p σ2.length 0 0]) rfl (aG _ _ _) rfl rfl (aU rfl) rfl) ?_
 have x4:Ext σ3 ((newCells 96 dH.zero.cells σ3).set σ3.length ⟨0,false,.cells 96 [.p σ2.length 0 0]⟩):=((Ext.refl σ3).new _ _).set (Nat.le_refl _) _
 have b4:((newCells 96 dH.zero.cells σ3).set σ3.length ⟨0,false,.cells 96 [.p σ2.length 0 0]⟩)[σ3.length]? =_:=at_set (aG _ _ _) _
 have l4:((newCells 96 dH.zero.cells σ3).set σ3.length ⟨0,false,.cells 96 [.p σ2.length 0 0]⟩).length=σ3.length+1:=by rw [gK,aH]
 generalize (newCells 96 dH.zero.cells σ3).set σ3.length ⟨0,false,.cells 96 [.p σ2.length 0 0]⟩=dF at b4 x4 l4 ⊢
 conv=>whnf
 have x24:=x3.trans x4
 have h4:=(h1.ext x2).ext x24
 have c1:=x24.get (x2.get b1)
 have ct:=x24.get ht2
 have cx:dF[σ2.length]? =some (dK 0 [] false .p0 .p0 .sl0 .sl0 t.l):=x4.get b3
 have xx:aN p σ dF:=aN.of ((x1.trans x2).trans x24)
 refine ak (aj (T:=fF) rfl rfl (ah (ct)) rfl) ?_
 conv=>whnf
 have way:t.k≠4∨(t.k=4∧t.s=[110,101,119])∨(t.k=4∧t.s=[105,110])∨(t.k=4∧t.s≠[110,101,119]∧t.s≠[105,110]):=by
  by_cases h4:t.k=4
  ·by_cases h5:t.s=[110,101,119]
   ·exact .inr (.inl ⟨h4,h5⟩)
   ·by_cases h6:t.s=[105,110]
    ·exact .inr (.inr (.inl ⟨h4,h6⟩))
    ·exact .inr (.inr (.inr ⟨h4,h5,h6⟩))
  ·exact .inl h4
 rcases way with hk4 | ⟨hk4,hs⟩ | ⟨hk4,hs⟩ | ⟨hk4,hn1,hn2⟩
 case inr.inr.inr=>
  rw [decide_eq_true (by omega)]
  conv=>whnf
  refine ak (aj (T:=bf) rfl rfl (ah (c1)) rfl) ?_
  conv=>whnf
  refine au.to (mW h4) ?_
  conv=>whnf
  refine ak (aj (T:=fB) rfl rfl (ah (ct)) rfl) ?_
  conv=>whnf
  have he1:aZ (all.drop (m+1)):=by rw [hr];rw [hts] at he;exact he.tail (by rw [hk4];decide)
  have hm1:=uG he1
  have hlen1:(all.drop (m+1)).length=r.length:=by rw [hr]
  have hmem:=(hko t (List.mem_of_getElem? ht)).1 hk4
  simp only [keys,List.mem_cons,List.mem_nil_iff,or_false,hn1,hn2] at hmem
  rcases hmem with hs | hs | hs | hs | hs | hs | hs | hs | hs | hs
  ·have hW:∀s,aY s (t :: r)=(t.s == s):=fun s=>by show ((t.k == 4 || t.k == 3) && t.s == s)=_;rw [hk4];rfl
   rw [if_neg (by rw [hW,hs];decide),if_neg (by rw [hW,hs];decide),if_neg (by rw [hW,hs];decide),if_neg (by rw [hW,hs];decide),if_neg (by rw [hW,hs];decide),if_neg (by rw [hW,hs];decide),if_neg (by rw [hW,hs];decide)] at hQ
   rw [show (t.s == [110,101,119])=false by rw [hs];rfl]
   conv=>whnf
   refine ak (aj (T:=fB) rfl rfl (ah (ct)) rfl) ?_
   conv=>whnf
   rw [show (t.s == [105,110])=false by rw [hs];rfl]
   conv=>whnf
   refine ak (aj (T:=bf) rfl rfl (ah (c1)) rfl) ?_
   conv=>whnf
   refine jm h4 hm1 fun s5 y5 k5=>?_
   have c5:=y5.get (by omega) c1
   have EL:=y5.get (by omega) ct
   have zK:=y5.get (by omega) cx
   have uK:=y5.get (by omega) b4
   have wX:=xx.trans y5
   have l5:=y5.len
   conv=>whnf
   refine ak (aj (T:=fB) rfl rfl (ah (EL)) rfl) ?_
   conv=>whnf
   rw [show (t.s == [118,97,114])=false by rw [hs];rfl]
   conv=>whnf
   rw [show (t.s == [105,102])=false by rw [hs];rfl]
   conv=>whnf
   rw [show (t.s == [119,104,105,108,101])=false by rw [hs];rfl]
   conv=>whnf
   rw [show (t.s == [111,117,116])=false by rw [hs];rfl]
   conv=>whnf
   rw [show (t.s == [102,114,101,101])=false by rw [hs];rfl]
   conv=>whnf
   rw [show (t.s == [100,114,97,105,110])=false by rw [hs];rfl]
   conv=>whnf
   rw [show (t.s == [114,101,116,117,114,110])=false by rw [hs];rfl]
   conv=>whnf
   rw [Aw n d t r hk4 (by rw [hs];decide) (by rw [hs];decide) (by rw [hs];decide) (by omega)] at hQ
   have hQ:nJ p w g all σ d Q (.bad 4 t.l):=hQ
   have hal:=h.len
   refine ak (aj (T:=bf) rfl rfl (ah (c5)) rfl) ?_
   conv=>whnf
   refine ak (gU (T:=BR) rfl rfl (ah (EL)) (aU rfl)) ?_
   conv=>whnf
   refine ak (aj (T:=bf) rfl rfl (ah (c5)) rfl) ?_
   conv=>whnf
   refine ak (aj (T:=qC) rfl rfl (ah (k5.obj)) rfl) ?_
   conv=>whnf
   have b6:(newCells 62 [.i .i64 t.k,.s t.s,.i .i64 t.l] s5)[s5.length]? =some ⟨0,false,.cells 62 [.i .i64 t.k,.s t.s,.i .i64 t.l]⟩:=aG _ _ _
   have x6:Ext s5 (newCells 62 [.i .i64 t.k,.s t.s,.i .i64 t.l] s5):=(Ext.refl s5).new _ _
   have l6:(newCells 62 [.i .i64 t.k,.s t.s,.i .i64 t.l] s5).length=s5.length+1:=aH _ _ _
   generalize newCells 62 [.i .i64 t.k,.s t.s,.i .i64 t.l] s5=oG at b6 x6 l6 ⊢
   have k6:=k5.ext x6
   have c6:=x6.get c5
   refine⟨?_,?_⟩
   ·conv=>whnf
    refine ak (aj (T:=bf) rfl rfl (ah (c6)) rfl) ?_
    rfl
   conv=>whnf
   refine⟨?_,?_⟩
   ·conv=>whnf
    refine ak (aj (T:=bf) rfl rfl (ah (c6)) rfl) ?_
    rfl
   conv=>whnf
   refine⟨?_,?_⟩
   ·conv=>whnf
    refine ak (aj (T:=qC) rfl rfl (ah (k6.obj)) rfl) ?_
    rfl
   conv=>whnf
   have hwl:=bK k5.tok
   refine Au (t:=t) (m:=m+1) b6 k6.tok hm1 hal ?_
   conv=>whnf
   have c7:(oG.set s5.length ⟨1,false,.cells 62 (eY (t :: all.drop (m+1)))⟩)[σ.length]? =_:=aK c6 (by omega) _
   refine⟨?_,?_⟩
   ·conv=>whnf
    refine ak (aj (T:=bf) rfl rfl (ah (c7)) rfl) ?_
    rfl
   conv=>whnf
   have o7:(oG.set s5.length ⟨1,false,.cells 62 (eY (t :: all.drop (m+1)))⟩)[p]? =_:=aK k6.obj (by omega) _
   have t7:(oG.set s5.length ⟨1,false,.cells 62 (eY (t :: all.drop (m+1)))⟩)[s5.length]? =_:=at_set b6 _
   refine ak (aC (T:=qC) (qm s5.length 1 (t :: all.drop (m+1)).length 0 d .p0) rfl (o7) rfl rfl (aU rfl) rfl) ?_
   conv=>whnf
   have k8:PW p s5.length 1 (t :: all.drop (m+1)) ((oG.set s5.length ⟨1,false,.cells 62 (eY (t :: all.drop (m+1)))⟩).set p ⟨0,false,.cells 88 (qm s5.length 1 (t :: all.drop (m+1)).length 0 d .p0)⟩) 0 d .p0:=⟨at_set o7 _,aK t7 (by omega) _,by omega,by rw [bg,pF];omega,by rw [bg];omega,h.dp⟩
   refine ak (aj (T:=bf) rfl rfl (ah (aK c7 (by omega) _)) rfl) ?_
   conv=>whnf
   refine uI 4 k8 (t:=t) rfl fun s9 y9 k9=>?_
   conv=>whnf
   refine ak (aj (T:=dH) rfl rfl (ah (y9.get (by omega) (aK (aK (x6.get uK) (by omega) _) (by omega) _))) rfl) ?_
   conv=>whnf
   exact Fin.ref rfl (hQ _ _ _ ((((wX.trans (aN.of x6)).bJ (bV.bT _ _ _ _) (by omega)).trans ((aN.refl p _).Aq _)).trans y9) k9)
  ·have hW:∀s,aY s (t :: r)=(t.s == s):=fun s=>by show ((t.k == 4 || t.k == 3) && t.s == s)=_;rw [hk4];rfl
   rw [if_pos (by rw [hW,hs];rfl)] at hQ
   rw [show (t.s == [110,101,119])=false by rw [hs];rfl]
   conv=>whnf
   refine ak (aj (T:=fB) rfl rfl (ah (ct)) rfl) ?_
   conv=>whnf
   rw [show (t.s == [105,110])=false by rw [hs];rfl]
   conv=>whnf
   refine ak (aj (T:=bf) rfl rfl (ah (c1)) rfl) ?_
   conv=>whnf
   refine jm h4 hm1 fun s5 y5 k5=>?_
   have c5:=y5.get (by omega) c1
   have EL:=y5.get (by omega) ct
   have zK:=y5.get (by omega) cx
   have uK:=y5.get (by omega) b4
   have wX:=xx.trans y5
   have l5:=y5.len
   conv=>whnf
   refine ak (aj (T:=fB) rfl rfl (ah (EL)) rfl) ?_
   conv=>whnf
   rw [show (t.s == [118,97,114])=true by rw [hs];rfl]
   conv=>whnf
   obtain⟨t6,r6,kX⟩:=he1.ne
   obtain⟨Qg,FV⟩:=b_ kX
   have hl6:(all.drop (m+1)).length=r6.length+1:=by rw [kX];rfl
   rw [←hr,kX] at hQ
   refine ak (aj (T:=dH) rfl rfl (ah (uK)) rfl) ?_
   conv=>whnf
   refine ak (aj (T:=dH) rfl rfl (ah (uK)) rfl) ?_
   conv=>whnf
   refine ak (aj (T:=bf) rfl rfl (ah (c5)) rfl) ?_
   conv=>whnf
   refine Jb k5 Qg (fun hk1=>uG (by rw [FV];rw [kX] at he1;exact he1.tail (by rw [hk1];decide))) (fun hk1 s6 y6 k6=>?_) (fun hk1 s6 y6 k6=>?_)
   ·simp only [fA,if_pos hk1] at hQ
    have he2:aZ (all.drop (m+1+1)):=by rw [FV];rw [kX] at he1;exact he1.tail (by rw [hk1];decide)
    obtain⟨t7,r7,Oh⟩:=he2.ne
    obtain⟨ht7,hr7⟩:=b_ Oh
    have hl7:(all.drop (m+1+1)).length=r7.length+1:=by rw [Oh];rfl
    have hl67:r6.length=r7.length+1:=by rw [←FV,Oh];rfl
    have hQ:nJ p w g all σ d Q (
     if aY [61] (if aY dA r6=true then r6.tail else r6)=true then
             (bU n d (if aY dA r6=true then r6.tail else r6).tail).bind fun x ts=>.ok (.st 1 t6.s (aY dA r6) .nil x .nil .nil t.l) ts
     else(aQ [59] (if aY dA r6=true then r6.tail else r6)).bind fun _ ts=>.ok (.st 1 t6.s (aY dA r6) .nil .nil .nil .nil t.l) ts):=hQ
    rw [←FV,Oh] at hQ
    have wI:=y6.get (by omega) zK
    have yZ:=y6.get (by omega) uK
    have c6:=y6.get (by omega) c5
    conv=>whnf
    refine⟨?_,?_⟩
    ·conv=>whnf
     refine ak (aj (T:=dH) rfl rfl (ah (yZ)) rfl) ?_
     rfl
    conv=>whnf
    refine⟨?_,?_⟩
    ·conv=>whnf
     refine ak (aj (T:=dH) rfl rfl (ah (yZ)) rfl) ?_
     rfl
    conv=>whnf
    refine ak (aC (T:=fF) ([.i .i64 1,.s [],.b false,.p0,.p0,.sl0,.sl0,.i .i64 t.l]) rfl (wI) rfl rfl (aU rfl) rfl) ?_
    conv=>whnf
    have k7:=k6.st wI (dK 1 [] false .p0 .p0 .sl0 .sl0 t.l)
    have wY:(s6.set σ2.length (dK 1 [] false .p0 .p0 .sl0 .sl0 t.l))[σ2.length]? =_:=at_set wI _
    have wZ:(s6.set σ2.length (dK 1 [] false .p0 .p0 .sl0 .sl0 t.l))[σ3.length]? =_:=aK yZ (by omega) _
    have c7:(s6.set σ2.length (dK 1 [] false .p0 .p0 .sl0 .sl0 t.l))[σ.length]? =_:=aK c6 (by omega) _
    refine⟨?_,?_⟩
    ·conv=>whnf
     refine ak (aj (T:=dH) rfl rfl (ah (wZ)) rfl) ?_
     rfl
    conv=>whnf
    refine ak (aC (T:=fB) ([.i .i64 1,.s t6.s,.b false,.p0,.p0,.sl0,.sl0,.i .i64 t.l]) rfl (wY) rfl rfl (aU rfl) rfl) ?_
    conv=>whnf
    have k8:=k7.st wY (dK 1 t6.s false .p0 .p0 .sl0 .sl0 t.l)
    have mZ:((s6.set σ2.length (dK 1 [] false .p0 .p0 .sl0 .sl0 t.l)).set σ2.length (dK 1 t6.s false .p0 .p0 .sl0 .sl0 t.l))[σ2.length]? =_:=at_set wY _
    have oM:((s6.set σ2.length (dK 1 [] false .p0 .p0 .sl0 .sl0 t.l)).set σ2.length (dK 1 t6.s false .p0 .p0 .sl0 .sl0 t.l))[σ3.length]? =_:=aK wZ (by omega) _
    have c8:((s6.set σ2.length (dK 1 [] false .p0 .p0 .sl0 .sl0 t.l)).set σ2.length (dK 1 t6.s false .p0 .p0 .sl0 .sl0 t.l))[σ.length]? =_:=aK c7 (by omega) _
    have Oi:aN p σ ((s6.set σ2.length (dK 1 [] false .p0 .p0 .sl0 .sl0 t.l)).set σ2.length (dK 1 t6.s false .p0 .p0 .sl0 .sl0 t.l)):=((wX.trans y6).bJ (bV.bT _ _ _ _) (by omega)).bJ (bV.bT _ _ _ _) (by omega)
    have ll8:((s6.set σ2.length (dK 1 [] false .p0 .p0 .sl0 .sl0 t.l)).set σ2.length (dK 1 t6.s false .p0 .p0 .sl0 .sl0 t.l)).length=s6.length:=by rw [gK,gK]
    refine ak (aj (T:=dH) rfl rfl (ah (oM)) rfl) ?_
    conv=>whnf
    refine ak (aj (T:=bf) rfl rfl (ah (c8)) rfl) ?_
    conv=>whnf
    refine oI [112,116,114] k8 ht7 (fun hi=>(aX he2 Oh hi).1) (fun hi s9 y9 k9=>?_) (fun hi=>?_)
    ·have VH:aY dA (t7 :: r7)=true:=hi
     have hQ:nJ p w g all σ d Q (
      if aY [61] r7=true then
             (bU n d r7.tail).bind fun x ts=>.ok (.st 1 t6.s true .nil x .nil .nil t.l) ts
      else(aQ [59] r7).bind fun _ ts=>.ok (.st 1 t6.s true .nil .nil .nil .nil t.l) ts):=by
      simp only [VH,if_true] at hQ;exact hQ
     have hlr7:(all.drop (m+1+1+1)).length=r7.length:=by rw [hr7]
     rw [←hr7] at hQ
     have EM:=y9.get (by omega) mZ
     have CS:=y9.get (by omega) oM
     have c9:=y9.get (by omega) c8
     conv=>whnf
     refine⟨?_,?_⟩
     ·conv=>whnf
      refine ak (aj (T:=dH) rfl rfl (ah (CS)) rfl) ?_
      rfl
     conv=>whnf
     refine ak (aC (T:=xH) ([.i .i64 1,.s t6.s,.b true,.p0,.p0,.sl0,.sl0,.i .i64 t.l]) rfl (EM) rfl rfl (aU rfl) rfl) ?_
     conv=>whnf
     have kB:=(k9).st (EM) (dK 1 t6.s true .p0 .p0 .sl0 .sl0 t.l)
     have VI:(List.set s9 σ2.length (dK 1 t6.s true .p0 .p0 .sl0 .sl0 t.l))[σ2.length]? =_:=at_set (EM) _
     have RQ:(List.set s9 σ2.length (dK 1 t6.s true .p0 .p0 .sl0 .sl0 t.l))[σ3.length]? =_:=aK (CS) (by omega) _
     have cB:(List.set s9 σ2.length (dK 1 t6.s true .p0 .p0 .sl0 .sl0 t.l))[σ.length]? =_:=aK (c9) (by omega) _
     have BZ:aN p σ (List.set s9 σ2.length (dK 1 t6.s true .p0 .p0 .sl0 .sl0 t.l)):=(Oi.trans y9).bJ (bV.bT _ _ _ _) (by omega)
     have hE:=(aX he2 Oh hi).2.1
     obtain⟨t8,r8,qJ⟩:=hE.ne
     obtain⟨ht8,Xo⟩:=b_ qJ
     have hl8:(all.drop (m+1+1+1)).length=r8.length+1:=by rw [qJ];rfl
     rw [qJ] at hQ
     refine ak (aj (T:=bf) rfl rfl (ah (cB)) rfl) ?_
     conv=>whnf
     refine oI [61] kB ht8 (fun hi=>(aX hE qJ hi).1) (fun hi sA yA kA=>?_) (fun hi=>?_)
     ·rw [if_pos (show aY [61] (t8 :: r8)=true from hi)] at hQ
      have hQ:nJ p w g all σ d Q ((bU n d r8).bind fun x ts=>.ok (.st 1 t6.s true .nil x .nil .nil t.l) ts):=hQ
      obtain⟨hmA,SY,VJ⟩:=aX hE qJ hi
      have hlA:(all.drop (m+1+1+1+1)).length=r8.length:=by rw [Xo]
      rw [←Xo] at hQ
      conv=>whnf
      refine Xn d 1 _ σ2.length σ3.length σ.length t.l t6.s true .p0 sA (m+1+1+1+1) _ kA hd SY (by omega) (yA.get (by omega) (RQ)) (yA.get (by omega) (cB)) (yA.get (by omega) (VI)) ⟨by omega,by omega,by omega,by omega,by omega⟩ ?_
      generalize bU n d (all.drop (m+1+1+1+1))=rE at hQ
      cases rE with
      | out=>trivial
      | bad c l=>
        intro s9 y9 k9
        conv=>whnf
        exact Fin.ref rfl (hQ _ _ _ (((BZ).trans yA).bJ y9 (by omega)) k9)
      | ok z Oj=>
        have hQ:nJ p w g all σ d Q (.ok (.st 1 t6.s true .nil z .nil .nil t.l) Oj):=hQ
        intro R s9 m9 y9 k9 FW Ol Om
        conv=>whnf
        have lX:=((BZ).trans yA).len
        refine Fin.ref rfl (hQ _ _ _ _ (((BZ).trans yA).bJ y9 (by omega)) k9 FW ⟨σ2.length,0,.p0,R,.sl0,.sl0,by omega,rfl,Ol,rfl,?_,rfl,rfl⟩)
        exact bP.mono (fun i hi=>by first | omega | (rw [gK] at hi;omega)) (fun i hi a ha=>ha) Om
     ·rw [if_neg (by rw [show aY [61] (t8 :: r8)=iK [61] t8 from rfl,hi];decide)] at hQ
      conv=>whnf
      refine ak (aj (T:=bf) rfl rfl (ah (cB)) rfl) ?_
      conv=>whnf
      refine j_ [59] kB ht8 (fun hi=>(aX hE qJ hi).1) (fun hi sA yA kA=>?_) (fun hi sA yA kA=>?_)
      ·rw [aQ,if_pos (show aY [59] (t8 :: r8)=true from hi)] at hQ
       conv=>whnf
       refine ak (aj (T:=dH) rfl rfl (ah (yA.get (by omega) (RQ))) rfl) ?_
       conv=>whnf
       have lX:=(BZ).len
       exact Fin.ref rfl (hQ _ _ _ _ ((BZ).trans yA) kA Xo ⟨σ2.length,0,.p0,.p0,.sl0,.sl0,by omega,rfl,yA.get (by omega) (VI),rfl,rfl,rfl,rfl⟩)
      ·rw [aQ,if_neg (show ¬aY [59] (t8 :: r8)=true by rw [show aY [59] (t8 :: r8)=iK [59] t8 from rfl,hi];decide)] at hQ
       conv=>whnf
       refine ak (aj (T:=dH) rfl rfl (ah (yA.get (by omega) (RQ))) rfl) ?_
       conv=>whnf
       exact Fin.ref rfl (hQ _ _ _ ((BZ).trans yA) kA)
    ·have VH:aY dA (t7 :: r7)=false:=hi
     have hQ:nJ p w g all σ d Q (
      if aY [61] (t7 :: r7)=true then
             (bU n d (t7 :: r7).tail).bind fun x ts=>.ok (.st 1 t6.s false .nil x .nil .nil t.l) ts
      else(aQ [59] (t7 :: r7)).bind fun _ ts=>.ok (.st 1 t6.s false .nil .nil .nil .nil t.l) ts):=by
      simp only [VH,if_neg Bool.false_ne_true] at hQ;exact hQ
     rw [←Oh] at hQ
     conv=>whnf
     refine⟨?_,?_⟩
     ·conv=>whnf
      refine ak (aj (T:=dH) rfl rfl (ah (oM)) rfl) ?_
      rfl
     conv=>whnf
     refine ak (aC (T:=xH) ([.i .i64 1,.s t6.s,.b false,.p0,.p0,.sl0,.sl0,.i .i64 t.l]) rfl (mZ) rfl rfl (aU rfl) rfl) ?_
     conv=>whnf
     have kB:=(k8).st (mZ) (dK 1 t6.s false .p0 .p0 .sl0 .sl0 t.l)
     have VI:(List.set ((s6.set σ2.length (dK 1 [] false .p0 .p0 .sl0 .sl0 t.l)).set σ2.length (dK 1 t6.s false .p0 .p0 .sl0 .sl0 t.l)) σ2.length (dK 1 t6.s false .p0 .p0 .sl0 .sl0 t.l))[σ2.length]? =_:=at_set (mZ) _
     have RQ:(List.set ((s6.set σ2.length (dK 1 [] false .p0 .p0 .sl0 .sl0 t.l)).set σ2.length (dK 1 t6.s false .p0 .p0 .sl0 .sl0 t.l)) σ2.length (dK 1 t6.s false .p0 .p0 .sl0 .sl0 t.l))[σ3.length]? =_:=aK (oM) (by omega) _
     have cB:(List.set ((s6.set σ2.length (dK 1 [] false .p0 .p0 .sl0 .sl0 t.l)).set σ2.length (dK 1 t6.s false .p0 .p0 .sl0 .sl0 t.l)) σ2.length (dK 1 t6.s false .p0 .p0 .sl0 .sl0 t.l))[σ.length]? =_:=aK (c8) (by omega) _
     have BZ:aN p σ (List.set ((s6.set σ2.length (dK 1 [] false .p0 .p0 .sl0 .sl0 t.l)).set σ2.length (dK 1 t6.s false .p0 .p0 .sl0 .sl0 t.l)) σ2.length (dK 1 t6.s false .p0 .p0 .sl0 .sl0 t.l)):=(Oi).bJ (bV.bT _ _ _ _) (by omega)
     have hE:=he2
     obtain⟨t8,r8,qJ⟩:=hE.ne
     obtain⟨ht8,Xo⟩:=b_ qJ
     have hl8:(all.drop (m+1+1)).length=r8.length+1:=by rw [qJ];rfl
     rw [qJ] at hQ
     refine ak (aj (T:=bf) rfl rfl (ah (cB)) rfl) ?_
     conv=>whnf
     refine oI [61] kB ht8 (fun hi=>(aX hE qJ hi).1) (fun hi sA yA kA=>?_) (fun hi=>?_)
     ·rw [if_pos (show aY [61] (t8 :: r8)=true from hi)] at hQ
      have hQ:nJ p w g all σ d Q ((bU n d r8).bind fun x ts=>.ok (.st 1 t6.s false .nil x .nil .nil t.l) ts):=hQ
      obtain⟨hmA,SY,VJ⟩:=aX hE qJ hi
      have hlA:(all.drop (m+1+1+1)).length=r8.length:=by rw [Xo]
      rw [←Xo] at hQ
      conv=>whnf
      refine Xn d 1 _ σ2.length σ3.length σ.length t.l t6.s false .p0 sA (m+1+1+1) _ kA hd SY (by omega) (yA.get (by omega) (RQ)) (yA.get (by omega) (cB)) (yA.get (by omega) (VI)) ⟨by omega,by omega,by omega,by omega,by omega⟩ ?_
      generalize bU n d (all.drop (m+1+1+1))=rE at hQ
      cases rE with
      | out=>trivial
      | bad c l=>
        intro s9 y9 k9
        conv=>whnf
        exact Fin.ref rfl (hQ _ _ _ (((BZ).trans yA).bJ y9 (by omega)) k9)
      | ok z Oj=>
        have hQ:nJ p w g all σ d Q (.ok (.st 1 t6.s false .nil z .nil .nil t.l) Oj):=hQ
        intro R s9 m9 y9 k9 FW Ol Om
        conv=>whnf
        have lX:=((BZ).trans yA).len
        refine Fin.ref rfl (hQ _ _ _ _ (((BZ).trans yA).bJ y9 (by omega)) k9 FW ⟨σ2.length,0,.p0,R,.sl0,.sl0,by omega,rfl,Ol,rfl,?_,rfl,rfl⟩)
        exact bP.mono (fun i hi=>by first | omega | (rw [gK] at hi;omega)) (fun i hi a ha=>ha) Om
     ·rw [if_neg (by rw [show aY [61] (t8 :: r8)=iK [61] t8 from rfl,hi];decide)] at hQ
      conv=>whnf
      refine ak (aj (T:=bf) rfl rfl (ah (cB)) rfl) ?_
      conv=>whnf
      refine j_ [59] kB ht8 (fun hi=>(aX hE qJ hi).1) (fun hi sA yA kA=>?_) (fun hi sA yA kA=>?_)
      ·rw [aQ,if_pos (show aY [59] (t8 :: r8)=true from hi)] at hQ
       conv=>whnf
       refine ak (aj (T:=dH) rfl rfl (ah (yA.get (by omega) (RQ))) rfl) ?_
       conv=>whnf
       have lX:=(BZ).len
       exact Fin.ref rfl (hQ _ _ _ _ ((BZ).trans yA) kA Xo ⟨σ2.length,0,.p0,.p0,.sl0,.sl0,by omega,rfl,yA.get (by omega) (VI),rfl,rfl,rfl,rfl⟩)
      ·rw [aQ,if_neg (show ¬aY [59] (t8 :: r8)=true by rw [show aY [59] (t8 :: r8)=iK [59] t8 from rfl,hi];decide)] at hQ
       conv=>whnf
       refine ak (aj (T:=dH) rfl rfl (ah (yA.get (by omega) (RQ))) rfl) ?_
       conv=>whnf
       exact Fin.ref rfl (hQ _ _ _ ((BZ).trans yA) kA)
   ·simp only [fA,if_neg hk1] at hQ
    have hQ:nJ p w g all σ d Q (.bad 4 t6.l):=hQ
    have wI:=y6.get (by omega) zK
    have yZ:=y6.get (by omega) uK
    have c6:=y6.get (by omega) c5
    conv=>whnf
    refine⟨?_,?_⟩
    ·conv=>whnf
     refine ak (aj (T:=dH) rfl rfl (ah (yZ)) rfl) ?_
     rfl
    conv=>whnf
    refine⟨?_,?_⟩
    ·conv=>whnf
     refine ak (aj (T:=dH) rfl rfl (ah (yZ)) rfl) ?_
     rfl
    conv=>whnf
    refine ak (aC (T:=fF) ([.i .i64 1,.s [],.b false,.p0,.p0,.sl0,.sl0,.i .i64 t.l]) rfl (wI) rfl rfl (aU rfl) rfl) ?_
    conv=>whnf
    have k7:=k6.st wI (dK 1 [] false .p0 .p0 .sl0 .sl0 t.l)
    have wY:(s6.set σ2.length (dK 1 [] false .p0 .p0 .sl0 .sl0 t.l))[σ2.length]? =_:=at_set wI _
    have wZ:(s6.set σ2.length (dK 1 [] false .p0 .p0 .sl0 .sl0 t.l))[σ3.length]? =_:=aK yZ (by omega) _
    have c7:(s6.set σ2.length (dK 1 [] false .p0 .p0 .sl0 .sl0 t.l))[σ.length]? =_:=aK c6 (by omega) _
    refine⟨?_,?_⟩
    ·conv=>whnf
     refine ak (aj (T:=dH) rfl rfl (ah (wZ)) rfl) ?_
     rfl
    conv=>whnf
    refine ak (aC (T:=fB) ([.i .i64 1,.s [],.b false,.p0,.p0,.sl0,.sl0,.i .i64 t.l]) rfl (wY) rfl rfl (aU rfl) rfl) ?_
    conv=>whnf
    have k8:=k7.st wY (dK 1 [] false .p0 .p0 .sl0 .sl0 t.l)
    have mZ:((s6.set σ2.length (dK 1 [] false .p0 .p0 .sl0 .sl0 t.l)).set σ2.length (dK 1 [] false .p0 .p0 .sl0 .sl0 t.l))[σ2.length]? =_:=at_set wY _
    have oM:((s6.set σ2.length (dK 1 [] false .p0 .p0 .sl0 .sl0 t.l)).set σ2.length (dK 1 [] false .p0 .p0 .sl0 .sl0 t.l))[σ3.length]? =_:=aK wZ (by omega) _
    have c8:((s6.set σ2.length (dK 1 [] false .p0 .p0 .sl0 .sl0 t.l)).set σ2.length (dK 1 [] false .p0 .p0 .sl0 .sl0 t.l))[σ.length]? =_:=aK c7 (by omega) _
    have Oi:aN p σ ((s6.set σ2.length (dK 1 [] false .p0 .p0 .sl0 .sl0 t.l)).set σ2.length (dK 1 [] false .p0 .p0 .sl0 .sl0 t.l)):=((wX.trans y6).bJ (bV.bT _ _ _ _) (by omega)).bJ (bV.bT _ _ _ _) (by omega)
    have ll8:((s6.set σ2.length (dK 1 [] false .p0 .p0 .sl0 .sl0 t.l)).set σ2.length (dK 1 [] false .p0 .p0 .sl0 .sl0 t.l)).length=s6.length:=by rw [gK,gK]
    refine ak (aj (T:=dH) rfl rfl (ah (oM)) rfl) ?_
    conv=>whnf
    refine ak (aj (T:=bf) rfl rfl (ah (c8)) rfl) ?_
    conv=>whnf
    refine au.to (ni [112,116,114] k8) ?_
    conv=>whnf
    refine⟨?_,?_⟩
    ·conv=>whnf
     refine ak (aj (T:=dH) rfl rfl (ah (oM)) rfl) ?_
     rfl
    conv=>whnf
    refine ak (aC (T:=xH) ([.i .i64 1,.s [],.b false,.p0,.p0,.sl0,.sl0,.i .i64 t.l]) rfl (mZ) rfl rfl (aU rfl) rfl) ?_
    conv=>whnf
    have k9:=k8.st mZ (dK 1 [] false .p0 .p0 .sl0 .sl0 t.l)
    refine ak (aj (T:=bf) rfl rfl (ah (aK c8 (by omega) _)) rfl) ?_
    conv=>whnf
    refine au.to (ni [61] k9) ?_
    conv=>whnf
    refine ak (aj (T:=bf) rfl rfl (ah (aK c8 (by omega) _)) rfl) ?_
    conv=>whnf
    refine au.to (ku [59] k9) ?_
    conv=>whnf
    refine ak (aj (T:=dH) rfl rfl (ah (aK oM (by omega) _)) rfl) ?_
    conv=>whnf
    exact Fin.ref rfl (hQ _ _ _ (Oi.bJ (bV.bT _ _ _ _) (by omega)) k9)
  ·have hW:∀s,aY s (t :: r)=(t.s == s):=fun s=>by show ((t.k == 4 || t.k == 3) && t.s == s)=_;rw [hk4];rfl
   rw [if_neg (by rw [hW,hs];decide),if_neg (by rw [hW,hs];decide),if_neg (by rw [hW,hs];decide),if_neg (by rw [hW,hs];decide),if_neg (by rw [hW,hs];decide),if_neg (by rw [hW,hs];decide),if_neg (by rw [hW,hs];decide)] at hQ
   rw [show (t.s == [110,101,119])=false by rw [hs];rfl]
   conv=>whnf
   refine ak (aj (T:=fB) rfl rfl (ah (ct)) rfl) ?_
   conv=>whnf
   rw [show (t.s == [105,110])=false by rw [hs];rfl]
   conv=>whnf
   refine ak (aj (T:=bf) rfl rfl (ah (c1)) rfl) ?_
   conv=>whnf
   refine jm h4 hm1 fun s5 y5 k5=>?_
   have c5:=y5.get (by omega) c1
   have EL:=y5.get (by omega) ct
   have zK:=y5.get (by omega) cx
   have uK:=y5.get (by omega) b4
   have wX:=xx.trans y5
   have l5:=y5.len
   conv=>whnf
   refine ak (aj (T:=fB) rfl rfl (ah (EL)) rfl) ?_
   conv=>whnf
   rw [show (t.s == [118,97,114])=false by rw [hs];rfl]
   conv=>whnf
   rw [show (t.s == [105,102])=false by rw [hs];rfl]
   conv=>whnf
   rw [show (t.s == [119,104,105,108,101])=false by rw [hs];rfl]
   conv=>whnf
   rw [show (t.s == [111,117,116])=false by rw [hs];rfl]
   conv=>whnf
   rw [show (t.s == [102,114,101,101])=false by rw [hs];rfl]
   conv=>whnf
   rw [show (t.s == [100,114,97,105,110])=false by rw [hs];rfl]
   conv=>whnf
   rw [show (t.s == [114,101,116,117,114,110])=false by rw [hs];rfl]
   conv=>whnf
   rw [Aw n d t r hk4 (by rw [hs];decide) (by rw [hs];decide) (by rw [hs];decide) (by omega)] at hQ
   have hQ:nJ p w g all σ d Q (.bad 4 t.l):=hQ
   have hal:=h.len
   refine ak (aj (T:=bf) rfl rfl (ah (c5)) rfl) ?_
   conv=>whnf
   refine ak (gU (T:=BR) rfl rfl (ah (EL)) (aU rfl)) ?_
   conv=>whnf
   refine ak (aj (T:=bf) rfl rfl (ah (c5)) rfl) ?_
   conv=>whnf
   refine ak (aj (T:=qC) rfl rfl (ah (k5.obj)) rfl) ?_
   conv=>whnf
   have b6:(newCells 62 [.i .i64 t.k,.s t.s,.i .i64 t.l] s5)[s5.length]? =some ⟨0,false,.cells 62 [.i .i64 t.k,.s t.s,.i .i64 t.l]⟩:=aG _ _ _
   have x6:Ext s5 (newCells 62 [.i .i64 t.k,.s t.s,.i .i64 t.l] s5):=(Ext.refl s5).new _ _
   have l6:(newCells 62 [.i .i64 t.k,.s t.s,.i .i64 t.l] s5).length=s5.length+1:=aH _ _ _
   generalize newCells 62 [.i .i64 t.k,.s t.s,.i .i64 t.l] s5=oG at b6 x6 l6 ⊢
   have k6:=k5.ext x6
   have c6:=x6.get c5
   refine⟨?_,?_⟩
   ·conv=>whnf
    refine ak (aj (T:=bf) rfl rfl (ah (c6)) rfl) ?_
    rfl
   conv=>whnf
   refine⟨?_,?_⟩
   ·conv=>whnf
    refine ak (aj (T:=bf) rfl rfl (ah (c6)) rfl) ?_
    rfl
   conv=>whnf
   refine⟨?_,?_⟩
   ·conv=>whnf
    refine ak (aj (T:=qC) rfl rfl (ah (k6.obj)) rfl) ?_
    rfl
   conv=>whnf
   have hwl:=bK k5.tok
   refine Au (t:=t) (m:=m+1) b6 k6.tok hm1 hal ?_
   conv=>whnf
   have c7:(oG.set s5.length ⟨1,false,.cells 62 (eY (t :: all.drop (m+1)))⟩)[σ.length]? =_:=aK c6 (by omega) _
   refine⟨?_,?_⟩
   ·conv=>whnf
    refine ak (aj (T:=bf) rfl rfl (ah (c7)) rfl) ?_
    rfl
   conv=>whnf
   have o7:(oG.set s5.length ⟨1,false,.cells 62 (eY (t :: all.drop (m+1)))⟩)[p]? =_:=aK k6.obj (by omega) _
   have t7:(oG.set s5.length ⟨1,false,.cells 62 (eY (t :: all.drop (m+1)))⟩)[s5.length]? =_:=at_set b6 _
   refine ak (aC (T:=qC) (qm s5.length 1 (t :: all.drop (m+1)).length 0 d .p0) rfl (o7) rfl rfl (aU rfl) rfl) ?_
   conv=>whnf
   have k8:PW p s5.length 1 (t :: all.drop (m+1)) ((oG.set s5.length ⟨1,false,.cells 62 (eY (t :: all.drop (m+1)))⟩).set p ⟨0,false,.cells 88 (qm s5.length 1 (t :: all.drop (m+1)).length 0 d .p0)⟩) 0 d .p0:=⟨at_set o7 _,aK t7 (by omega) _,by omega,by rw [bg,pF];omega,by rw [bg];omega,h.dp⟩
   refine ak (aj (T:=bf) rfl rfl (ah (aK c7 (by omega) _)) rfl) ?_
   conv=>whnf
   refine uI 4 k8 (t:=t) rfl fun s9 y9 k9=>?_
   conv=>whnf
   refine ak (aj (T:=dH) rfl rfl (ah (y9.get (by omega) (aK (aK (x6.get uK) (by omega) _) (by omega) _))) rfl) ?_
   conv=>whnf
   exact Fin.ref rfl (hQ _ _ _ ((((wX.trans (aN.of x6)).bJ (bV.bT _ _ _ _) (by omega)).trans ((aN.refl p _).Aq _)).trans y9) k9)
  ·have hW:∀s,aY s (t :: r)=(t.s == s):=fun s=>by show ((t.k == 4 || t.k == 3) && t.s == s)=_;rw [hk4];rfl
   rw [if_neg (by rw [hW,hs];decide),if_pos (by rw [hW,hs];rfl)] at hQ
   rw [show (t.s == [110,101,119])=false by rw [hs];rfl]
   conv=>whnf
   refine ak (aj (T:=fB) rfl rfl (ah (ct)) rfl) ?_
   conv=>whnf
   rw [show (t.s == [105,110])=false by rw [hs];rfl]
   conv=>whnf
   refine ak (aj (T:=bf) rfl rfl (ah (c1)) rfl) ?_
   conv=>whnf
   refine jm h4 hm1 fun s5 y5 k5=>?_
   have c5:=y5.get (by omega) c1
   have EL:=y5.get (by omega) ct
   have zK:=y5.get (by omega) cx
   have uK:=y5.get (by omega) b4
   have wX:=xx.trans y5
   have l5:=y5.len
   conv=>whnf
   refine ak (aj (T:=fB) rfl rfl (ah (EL)) rfl) ?_
   conv=>whnf
   rw [show (t.s == [118,97,114])=false by rw [hs];rfl]
   conv=>whnf
   rw [show (t.s == [105,102])=true by rw [hs];rfl]
   conv=>whnf
   rw [←hr] at hQ
   refine ak (aj (T:=bf) rfl rfl (ah (c5)) rfl) ?_
   conv=>whnf
   refine ak (aj (T:=fF) rfl rfl (ah (EL)) rfl) ?_
   conv=>whnf
   refine ih.branch d t.l s5 (m+1) _ k5 hd he1 (by omega) (hQ.to wX fun o g' s q=>?_)
   conv=>whnf
   exact Fin.ref rfl q
  ·have hW:∀s,aY s (t :: r)=(t.s == s):=fun s=>by show ((t.k == 4 || t.k == 3) && t.s == s)=_;rw [hk4];rfl
   rw [if_neg (by rw [hW,hs];decide),if_neg (by rw [hW,hs];decide),if_neg (by rw [hW,hs];decide),if_neg (by rw [hW,hs];decide),if_neg (by rw [hW,hs];decide),if_neg (by rw [hW,hs];decide),if_neg (by rw [hW,hs];decide)] at hQ
   rw [show (t.s == [110,101,119])=false by rw [hs];rfl]
   conv=>whnf
   refine ak (aj (T:=fB) rfl rfl (ah (ct)) rfl) ?_
   conv=>whnf
   rw [show (t.s == [105,110])=false by rw [hs];rfl]
   conv=>whnf
   refine ak (aj (T:=bf) rfl rfl (ah (c1)) rfl) ?_
   conv=>whnf
   refine jm h4 hm1 fun s5 y5 k5=>?_
   have c5:=y5.get (by omega) c1
   have EL:=y5.get (by omega) ct
   have zK:=y5.get (by omega) cx
   have uK:=y5.get (by omega) b4
   have wX:=xx.trans y5
   have l5:=y5.len
   conv=>whnf
   refine ak (aj (T:=fB) rfl rfl (ah (EL)) rfl) ?_
   conv=>whnf
   rw [show (t.s == [118,97,114])=false by rw [hs];rfl]
   conv=>whnf
   rw [show (t.s == [105,102])=false by rw [hs];rfl]
   conv=>whnf
   rw [show (t.s == [119,104,105,108,101])=false by rw [hs];rfl]
   conv=>whnf
   rw [show (t.s == [111,117,116])=false by rw [hs];rfl]
   conv=>whnf
   rw [show (t.s == [102,114,101,101])=false by rw [hs];rfl]
   conv=>whnf
   rw [show (t.s == [100,114,97,105,110])=false by rw [hs];rfl]
   conv=>whnf
   rw [show (t.s == [114,101,116,117,114,110])=false by rw [hs];rfl]
   conv=>whnf
   rw [Aw n d t r hk4 (by rw [hs];decide) (by rw [hs];decide) (by rw [hs];decide) (by omega)] at hQ
   have hQ:nJ p w g all σ d Q (.bad 4 t.l):=hQ
   have hal:=h.len
   refine ak (aj (T:=bf) rfl rfl (ah (c5)) rfl) ?_
   conv=>whnf
   refine ak (gU (T:=BR) rfl rfl (ah (EL)) (aU rfl)) ?_
   conv=>whnf
   refine ak (aj (T:=bf) rfl rfl (ah (c5)) rfl) ?_
   conv=>whnf
   refine ak (aj (T:=qC) rfl rfl (ah (k5.obj)) rfl) ?_
   conv=>whnf
   have b6:(newCells 62 [.i .i64 t.k,.s t.s,.i .i64 t.l] s5)[s5.length]? =some ⟨0,false,.cells 62 [.i .i64 t.k,.s t.s,.i .i64 t.l]⟩:=aG _ _ _
   have x6:Ext s5 (newCells 62 [.i .i64 t.k,.s t.s,.i .i64 t.l] s5):=(Ext.refl s5).new _ _
   have l6:(newCells 62 [.i .i64 t.k,.s t.s,.i .i64 t.l] s5).length=s5.length+1:=aH _ _ _
   generalize newCells 62 [.i .i64 t.k,.s t.s,.i .i64 t.l] s5=oG at b6 x6 l6 ⊢
   have k6:=k5.ext x6
   have c6:=x6.get c5
   refine⟨?_,?_⟩
   ·conv=>whnf
    refine ak (aj (T:=bf) rfl rfl (ah (c6)) rfl) ?_
    rfl
   conv=>whnf
   refine⟨?_,?_⟩
   ·conv=>whnf
    refine ak (aj (T:=bf) rfl rfl (ah (c6)) rfl) ?_
    rfl
   conv=>whnf
   refine⟨?_,?_⟩
   ·conv=>whnf
    refine ak (aj (T:=qC) rfl rfl (ah (k6.obj)) rfl) ?_
    rfl
   conv=>whnf
   have hwl:=bK k5.tok
   refine Au (t:=t) (m:=m+1) b6 k6.tok hm1 hal ?_
   conv=>whnf
   have c7:(oG.set s5.length ⟨1,false,.cells 62 (eY (t :: all.drop (m+1)))⟩)[σ.length]? =_:=aK c6 (by omega) _
   refine⟨?_,?_⟩
   ·conv=>whnf
    refine ak (aj (T:=bf) rfl rfl (ah (c7)) rfl) ?_
    rfl
   conv=>whnf
   have o7:(oG.set s5.length ⟨1,false,.cells 62 (eY (t :: all.drop (m+1)))⟩)[p]? =_:=aK k6.obj (by omega) _
   have t7:(oG.set s5.length ⟨1,false,.cells 62 (eY (t :: all.drop (m+1)))⟩)[s5.length]? =_:=at_set b6 _
   refine ak (aC (T:=qC) (qm s5.length 1 (t :: all.drop (m+1)).length 0 d .p0) rfl (o7) rfl rfl (aU rfl) rfl) ?_
   conv=>whnf
   have k8:PW p s5.length 1 (t :: all.drop (m+1)) ((oG.set s5.length ⟨1,false,.cells 62 (eY (t :: all.drop (m+1)))⟩).set p ⟨0,false,.cells 88 (qm s5.length 1 (t :: all.drop (m+1)).length 0 d .p0)⟩) 0 d .p0:=⟨at_set o7 _,aK t7 (by omega) _,by omega,by rw [bg,pF];omega,by rw [bg];omega,h.dp⟩
   refine ak (aj (T:=bf) rfl rfl (ah (aK c7 (by omega) _)) rfl) ?_
   conv=>whnf
   refine uI 4 k8 (t:=t) rfl fun s9 y9 k9=>?_
   conv=>whnf
   refine ak (aj (T:=dH) rfl rfl (ah (y9.get (by omega) (aK (aK (x6.get uK) (by omega) _) (by omega) _))) rfl) ?_
   conv=>whnf
   exact Fin.ref rfl (hQ _ _ _ ((((wX.trans (aN.of x6)).bJ (bV.bT _ _ _ _) (by omega)).trans ((aN.refl p _).Aq _)).trans y9) k9)
  ·have hW:∀s,aY s (t :: r)=(t.s == s):=fun s=>by show ((t.k == 4 || t.k == 3) && t.s == s)=_;rw [hk4];rfl
   rw [if_neg (by rw [hW,hs];decide),if_neg (by rw [hW,hs];decide),if_pos (by rw [hW,hs];rfl)] at hQ
   rw [show (t.s == [110,101,119])=false by rw [hs];rfl]
   conv=>whnf
   refine ak (aj (T:=fB) rfl rfl (ah (ct)) rfl) ?_
   conv=>whnf
   rw [show (t.s == [105,110])=false by rw [hs];rfl]
   conv=>whnf
   refine ak (aj (T:=bf) rfl rfl (ah (c1)) rfl) ?_
   conv=>whnf
   refine jm h4 hm1 fun s5 y5 k5=>?_
   have c5:=y5.get (by omega) c1
   have EL:=y5.get (by omega) ct
   have zK:=y5.get (by omega) cx
   have uK:=y5.get (by omega) b4
   have wX:=xx.trans y5
   have l5:=y5.len
   conv=>whnf
   refine ak (aj (T:=fB) rfl rfl (ah (EL)) rfl) ?_
   conv=>whnf
   rw [show (t.s == [118,97,114])=false by rw [hs];rfl]
   conv=>whnf
   rw [show (t.s == [105,102])=false by rw [hs];rfl]
   conv=>whnf
   rw [show (t.s == [119,104,105,108,101])=true by rw [hs];rfl]
   conv=>whnf
   rw [←hr] at hQ
   have hg:=(uD n).expr d 1 (all.drop (m+1)) he1 (by omega)
   refine ak (aj (T:=dH) rfl rfl (ah (uK)) rfl) ?_
   conv=>whnf
   refine ak (aj (T:=dH) rfl rfl (ah (uK)) rfl) ?_
   conv=>whnf
   refine ak (aj (T:=bf) rfl rfl (ah (c5)) rfl) ?_
   conv=>whnf
   refine ihE.expr d 1 s5 (m+1) _ k5 hd (by omega) he1 (by omega) ?_
   generalize dn n d 1 (all.drop (m+1))=r1 at hg hQ
   cases r1 with
   | out=>exact hg.elim
   | bad c l=>
     have hQ:nJ p w g all σ d Q (.bad c l):=hQ
     intro o g' s6 y6 k6
     have wI:=y6.get (by omega) zK
     have yZ:=y6.get (by omega) uK
     have c6:=y6.get (by omega) c5
     conv=>whnf
     refine⟨?_,?_⟩
     ·conv=>whnf
      refine ak (aj (T:=dH) rfl rfl (ah (yZ)) rfl) ?_
      rfl
     conv=>whnf
     refine⟨?_,?_⟩
     ·conv=>whnf
      refine ak (aj (T:=dH) rfl rfl (ah (yZ)) rfl) ?_
      rfl
     conv=>whnf
     refine ak (aC (T:=fF) ([.i .i64 5,.s [],.b false,.p0,.p0,.sl0,.sl0,.i .i64 t.l]) rfl (wI) rfl rfl (aU rfl) rfl) ?_
     conv=>whnf
     have k7:=k6.st wI (dK 5 [] false .p0 .p0 .sl0 .sl0 t.l)
     have wY:(s6.set σ2.length (dK 5 [] false .p0 .p0 .sl0 .sl0 t.l))[σ2.length]? =_:=at_set wI _
     have wZ:(s6.set σ2.length (dK 5 [] false .p0 .p0 .sl0 .sl0 t.l))[σ3.length]? =_:=aK yZ (by omega) _
     have c7:(s6.set σ2.length (dK 5 [] false .p0 .p0 .sl0 .sl0 t.l))[σ.length]? =_:=aK c6 (by omega) _
     refine⟨?_,?_⟩
     ·conv=>whnf
      refine ak (aj (T:=dH) rfl rfl (ah (wZ)) rfl) ?_
      rfl
     conv=>whnf
     refine ak (aC (T:=aW) ([.i .i64 5,.s [],.b false,.p0,.p o g' 0,.sl0,.sl0,.i .i64 t.l]) rfl (wY) rfl rfl (aU rfl) rfl) ?_
     conv=>whnf
     have k8:=k7.st wY (dK 5 [] false .p0 (.p o g' 0) .sl0 .sl0 t.l)
     have mZ:((s6.set σ2.length (dK 5 [] false .p0 .p0 .sl0 .sl0 t.l)).set σ2.length (dK 5 [] false .p0 (.p o g' 0) .sl0 .sl0 t.l))[σ2.length]? =_:=at_set wY _
     have oM:((s6.set σ2.length (dK 5 [] false .p0 .p0 .sl0 .sl0 t.l)).set σ2.length (dK 5 [] false .p0 (.p o g' 0) .sl0 .sl0 t.l))[σ3.length]? =_:=aK wZ (by omega) _
     have Oi:aN p σ ((s6.set σ2.length (dK 5 [] false .p0 .p0 .sl0 .sl0 t.l)).set σ2.length (dK 5 [] false .p0 (.p o g' 0) .sl0 .sl0 t.l)):=((wX.trans y6).bJ (bV.bT _ _ _ _) (by omega)).bJ (bV.bT _ _ _ _) (by omega)
     refine ak (aj (T:=dH) rfl rfl (ah (oM)) rfl) ?_
     conv=>whnf
     refine ak (aj (T:=bf) rfl rfl (ah (aK c7 (by omega) _)) rfl) ?_
     conv=>whnf
     refine yY k8 (by have:=h.dp;omega) fun s9 y9 k9=>?_
     conv=>whnf
     refine⟨?_,?_⟩
     ·conv=>whnf
      refine ak (aj (T:=dH) rfl rfl (ah (y9.get (by omega) oM)) rfl) ?_
      rfl
     conv=>whnf
     refine ak (aC (T:=dL) ([.i .i64 5,.s [],.b false,.p0,.p o g' 0,.sl0,.sl0,.i .i64 t.l]) rfl (y9.get (by omega) mZ) rfl rfl (aU rfl) rfl) ?_
     conv=>whnf
     have k10:=k9.st (y9.get (by omega) mZ) (dK 5 [] false .p0 (.p o g' 0) .sl0 .sl0 t.l)
     refine ak (aj (T:=dH) rfl rfl (ah (aK (y9.get (by omega) oM) (by omega) _)) rfl) ?_
     conv=>whnf
     exact Fin.ref rfl (hQ _ _ _ ((Oi.trans y9).bJ (bV.bT _ _ _ _) (by omega)) k10)
   | ok z bI=>
     have hQ:nJ p w g all σ d Q ((dD n d bI).bind fun th ts=>.ok (.st 5 [] false .nil z th .nil t.l) ts):=hQ
     intro o g' s6 m6 y6 k6 hm6 LV
     have wI:=y6.get (by omega) zK
     have yZ:=y6.get (by omega) uK
     have c6:=y6.get (by omega) c5
     have l6:=y6.len
     rw [←hm6] at hQ hg
     have lg:=hg.2.2
     have hgb:=(FN n).block d (all.drop m6) hg.2.1 (by omega)
     conv=>whnf
     refine⟨?_,?_⟩
     ·conv=>whnf
      refine ak (aj (T:=dH) rfl rfl (ah (yZ)) rfl) ?_
      rfl
     conv=>whnf
     refine⟨?_,?_⟩
     ·conv=>whnf
      refine ak (aj (T:=dH) rfl rfl (ah (yZ)) rfl) ?_
      rfl
     conv=>whnf
     refine ak (aC (T:=fF) ([.i .i64 5,.s [],.b false,.p0,.p0,.sl0,.sl0,.i .i64 t.l]) rfl (wI) rfl rfl (aU rfl) rfl) ?_
     conv=>whnf
     have k7:=k6.st wI (dK 5 [] false .p0 .p0 .sl0 .sl0 t.l)
     have wY:(s6.set σ2.length (dK 5 [] false .p0 .p0 .sl0 .sl0 t.l))[σ2.length]? =_:=at_set wI _
     have wZ:(s6.set σ2.length (dK 5 [] false .p0 .p0 .sl0 .sl0 t.l))[σ3.length]? =_:=aK yZ (by omega) _
     have c7:(s6.set σ2.length (dK 5 [] false .p0 .p0 .sl0 .sl0 t.l))[σ.length]? =_:=aK c6 (by omega) _
     refine⟨?_,?_⟩
     ·conv=>whnf
      refine ak (aj (T:=dH) rfl rfl (ah (wZ)) rfl) ?_
      rfl
     conv=>whnf
     refine ak (aC (T:=aW) ([.i .i64 5,.s [],.b false,.p0,.p o g' 0,.sl0,.sl0,.i .i64 t.l]) rfl (wY) rfl rfl (aU rfl) rfl) ?_
     conv=>whnf
     have k8:=k7.st wY (dK 5 [] false .p0 (.p o g' 0) .sl0 .sl0 t.l)
     have mZ:((s6.set σ2.length (dK 5 [] false .p0 .p0 .sl0 .sl0 t.l)).set σ2.length (dK 5 [] false .p0 (.p o g' 0) .sl0 .sl0 t.l))[σ2.length]? =_:=at_set wY _
     have oM:((s6.set σ2.length (dK 5 [] false .p0 .p0 .sl0 .sl0 t.l)).set σ2.length (dK 5 [] false .p0 (.p o g' 0) .sl0 .sl0 t.l))[σ3.length]? =_:=aK wZ (by omega) _
     have Oi:aN p σ ((s6.set σ2.length (dK 5 [] false .p0 .p0 .sl0 .sl0 t.l)).set σ2.length (dK 5 [] false .p0 (.p o g' 0) .sl0 .sl0 t.l)):=((wX.trans y6).bJ (bV.bT _ _ _ _) (by omega)).bJ (bV.bT _ _ _ _) (by omega)
     refine ak (aj (T:=dH) rfl rfl (ah (oM)) rfl) ?_
     conv=>whnf
     refine ak (aj (T:=bf) rfl rfl (ah (aK c7 (by omega) _)) rfl) ?_
     conv=>whnf
     refine ih.block d _ m6 _ k8 hd hg.2.1 (by omega) ?_
     generalize dD n d (all.drop m6)=r2 at hgb hQ
     cases r2 with
     | out=>exact hgb.elim
     | bad c l=>
       have hQ:nJ p w g all σ d Q (.bad c l):=hQ
       intro A s9 y9 k9 hA
       refine dJ _ _ ?_
       conv=>whnf
       refine⟨?_,?_⟩
       ·conv=>whnf
        refine ak (aj (T:=dH) rfl rfl (ah (y9.get (by omega) oM)) rfl) ?_
        rfl
       conv=>whnf
       refine ak (ji (T:=dL) [.i .i64 5,.s [],.b false,.p0,.p o g' 0,A,.sl0,.i .i64 t.l] hA rfl rfl (y9.get (by omega) mZ) (aU rfl) rfl) ?_
       have k10:=k9.st (y9.get (by omega) mZ) (dK 5 [] false .p0 (.p o g' 0) A .sl0 t.l)
       conv=>whnf
       refine ak (aj (T:=dH) rfl rfl (ah (aK (y9.get (by omega) oM) (by omega) _)) rfl) ?_
       conv=>whnf
       exact Fin.ref rfl (hQ _ _ _ ((Oi.trans y9).bJ (bV.bT _ _ _ _) (by omega)) k10)
     | ok th dM=>
       have hQ:nJ p w g all σ d Q (.ok (.st 5 [] false .nil z th .nil t.l) dM):=hQ
       intro A s9 m9 y9 k9 FW hth hA
       have l9:s6.length≤s9.length:=by have:=y9.len;rw [gK,gK] at this;exact this
       refine dJ _ _ ?_
       conv=>whnf
       refine⟨?_,?_⟩
       ·conv=>whnf
        refine ak (aj (T:=dH) rfl rfl (ah (y9.get (by omega) oM)) rfl) ?_
        rfl
       conv=>whnf
       refine ak (ji (T:=dL) [.i .i64 5,.s [],.b false,.p0,.p o g' 0,A,.sl0,.i .i64 t.l] hA rfl rfl (y9.get (by omega) mZ) (aU rfl) rfl) ?_
       have k10:=k9.st (y9.get (by omega) mZ) (dK 5 [] false .p0 (.p o g' 0) A .sl0 t.l)
       conv=>whnf
       refine ak (aj (T:=dH) rfl rfl (ah (aK (y9.get (by omega) oM) (by omega) _)) rfl) ?_
       conv=>whnf
       refine Fin.ref rfl (hQ _ _ _ _ ((Oi.trans y9).bJ (bV.bT _ _ _ _) (by omega)) k10 FW ⟨σ2.length,0,.p0,.p o g' 0,A,.sl0,by omega,rfl,at_set (y9.get (by omega) mZ) _,rfl,?_,?_,rfl⟩)
       ·exact bP.mono (fun i hi=>by omega) (fun i hi a ha=>aK (y9.get (by omega) (aK (aK ha (by omega) _) (by omega) _)) (by omega) _) LV
       ·exact dX.mono (fun i hi=>by rw [gK,gK] at hi;omega) (fun i hi a ha=>aK ha (by rw [gK,gK] at hi;omega) _) hth
  ·have hW:∀s,aY s (t :: r)=(t.s == s):=fun s=>by show ((t.k == 4 || t.k == 3) && t.s == s)=_;rw [hk4];rfl
   rw [if_neg (by rw [hW,hs];decide),if_neg (by rw [hW,hs];decide),if_neg (by rw [hW,hs];decide),if_pos (by rw [hW,hs];rfl)] at hQ
   rw [show (t.s == [110,101,119])=false by rw [hs];rfl]
   conv=>whnf
   refine ak (aj (T:=fB) rfl rfl (ah (ct)) rfl) ?_
   conv=>whnf
   rw [show (t.s == [105,110])=false by rw [hs];rfl]
   conv=>whnf
   refine ak (aj (T:=bf) rfl rfl (ah (c1)) rfl) ?_
   conv=>whnf
   refine jm h4 hm1 fun s5 y5 k5=>?_
   have c5:=y5.get (by omega) c1
   have EL:=y5.get (by omega) ct
   have zK:=y5.get (by omega) cx
   have uK:=y5.get (by omega) b4
   have wX:=xx.trans y5
   have l5:=y5.len
   conv=>whnf
   refine ak (aj (T:=fB) rfl rfl (ah (EL)) rfl) ?_
   conv=>whnf
   rw [show (t.s == [118,97,114])=false by rw [hs];rfl]
   conv=>whnf
   rw [show (t.s == [105,102])=false by rw [hs];rfl]
   conv=>whnf
   rw [show (t.s == [119,104,105,108,101])=false by rw [hs];rfl]
   conv=>whnf
   rw [show (t.s == [111,117,116])=true by rw [hs];rfl]
   conv=>whnf
   rw [←hr] at hQ
   refine Xn d 6 _ σ2.length σ3.length σ.length t.l [] false .p0 s5 (m+1) _ k5 hd he1 (by omega) (uK) (c5) (zK) ⟨by omega,by omega,by omega,by omega,by omega⟩ ?_
   generalize bU n d (all.drop (m+1))=rE at hQ
   cases rE with
   | out=>trivial
   | bad c l=>
     intro s9 y9 k9
     conv=>whnf
     exact Fin.ref rfl (hQ _ _ _ ((wX).bJ y9 (by omega)) k9)
   | ok z Oj=>
     have hQ:nJ p w g all σ d Q (.ok (.st 6 [] false .nil z .nil .nil t.l) Oj):=hQ
     intro R s9 m9 y9 k9 FW Ol Om
     conv=>whnf
     have lX:=(wX).len
     refine Fin.ref rfl (hQ _ _ _ _ ((wX).bJ y9 (by omega)) k9 FW ⟨σ2.length,0,.p0,R,.sl0,.sl0,by omega,rfl,Ol,rfl,?_,rfl,rfl⟩)
     exact bP.mono (fun i hi=>by first | omega | (rw [gK] at hi;omega)) (fun i hi a ha=>ha) Om
  ·have hW:∀s,aY s (t :: r)=(t.s == s):=fun s=>by show ((t.k == 4 || t.k == 3) && t.s == s)=_;rw [hk4];rfl
   rw [if_neg (by rw [hW,hs];decide),if_neg (by rw [hW,hs];decide),if_neg (by rw [hW,hs];decide),if_neg (by rw [hW,hs];decide),if_pos (by rw [hW,hs];rfl)] at hQ
   rw [show (t.s == [110,101,119])=false by rw [hs];rfl]
   conv=>whnf
   refine ak (aj (T:=fB) rfl rfl (ah (ct)) rfl) ?_
   conv=>whnf
   rw [show (t.s == [105,110])=false by rw [hs];rfl]
   conv=>whnf
   refine ak (aj (T:=bf) rfl rfl (ah (c1)) rfl) ?_
   conv=>whnf
   refine jm h4 hm1 fun s5 y5 k5=>?_
   have c5:=y5.get (by omega) c1
   have EL:=y5.get (by omega) ct
   have zK:=y5.get (by omega) cx
   have uK:=y5.get (by omega) b4
   have wX:=xx.trans y5
   have l5:=y5.len
   conv=>whnf
   refine ak (aj (T:=fB) rfl rfl (ah (EL)) rfl) ?_
   conv=>whnf
   rw [show (t.s == [118,97,114])=false by rw [hs];rfl]
   conv=>whnf
   rw [show (t.s == [105,102])=false by rw [hs];rfl]
   conv=>whnf
   rw [show (t.s == [119,104,105,108,101])=false by rw [hs];rfl]
   conv=>whnf
   rw [show (t.s == [111,117,116])=false by rw [hs];rfl]
   conv=>whnf
   rw [show (t.s == [102,114,101,101])=true by rw [hs];rfl]
   conv=>whnf
   rw [←hr] at hQ
   refine Xn d 7 _ σ2.length σ3.length σ.length t.l [] false .p0 s5 (m+1) _ k5 hd he1 (by omega) (uK) (c5) (zK) ⟨by omega,by omega,by omega,by omega,by omega⟩ ?_
   generalize bU n d (all.drop (m+1))=rE at hQ
   cases rE with
   | out=>trivial
   | bad c l=>
     intro s9 y9 k9
     conv=>whnf
     exact Fin.ref rfl (hQ _ _ _ ((wX).bJ y9 (by omega)) k9)
   | ok z Oj=>
     have hQ:nJ p w g all σ d Q (.ok (.st 7 [] false .nil z .nil .nil t.l) Oj):=hQ
     intro R s9 m9 y9 k9 FW Ol Om
     conv=>whnf
     have lX:=(wX).len
     refine Fin.ref rfl (hQ _ _ _ _ ((wX).bJ y9 (by omega)) k9 FW ⟨σ2.length,0,.p0,R,.sl0,.sl0,by omega,rfl,Ol,rfl,?_,rfl,rfl⟩)
     exact bP.mono (fun i hi=>by first | omega | (rw [gK] at hi;omega)) (fun i hi a ha=>ha) Om
  ·have hW:∀s,aY s (t :: r)=(t.s == s):=fun s=>by show ((t.k == 4 || t.k == 3) && t.s == s)=_;rw [hk4];rfl
   rw [if_neg (by rw [hW,hs];decide),if_neg (by rw [hW,hs];decide),if_neg (by rw [hW,hs];decide),if_neg (by rw [hW,hs];decide),if_neg (by rw [hW,hs];decide),if_pos (by rw [hW,hs];rfl)] at hQ
   rw [show (t.s == [110,101,119])=false by rw [hs];rfl]
   conv=>whnf
   refine ak (aj (T:=fB) rfl rfl (ah (ct)) rfl) ?_
   conv=>whnf
   rw [show (t.s == [105,110])=false by rw [hs];rfl]
   conv=>whnf
   refine ak (aj (T:=bf) rfl rfl (ah (c1)) rfl) ?_
   conv=>whnf
   refine jm h4 hm1 fun s5 y5 k5=>?_
   have c5:=y5.get (by omega) c1
   have EL:=y5.get (by omega) ct
   have zK:=y5.get (by omega) cx
   have uK:=y5.get (by omega) b4
   have wX:=xx.trans y5
   have l5:=y5.len
   conv=>whnf
   refine ak (aj (T:=fB) rfl rfl (ah (EL)) rfl) ?_
   conv=>whnf
   rw [show (t.s == [118,97,114])=false by rw [hs];rfl]
   conv=>whnf
   rw [show (t.s == [105,102])=false by rw [hs];rfl]
   conv=>whnf
   rw [show (t.s == [119,104,105,108,101])=false by rw [hs];rfl]
   conv=>whnf
   rw [show (t.s == [111,117,116])=false by rw [hs];rfl]
   conv=>whnf
   rw [show (t.s == [102,114,101,101])=false by rw [hs];rfl]
   conv=>whnf
   rw [show (t.s == [100,114,97,105,110])=true by rw [hs];rfl]
   conv=>whnf
   obtain⟨t6,r6,kX⟩:=he1.ne
   obtain⟨Qg,FV⟩:=b_ kX
   rw [←hr,kX] at hQ
   refine ak (aj (T:=dH) rfl rfl (ah (uK)) rfl) ?_
   conv=>whnf
   refine ak (aC (T:=fF) ([.i .i64 8,.s [],.b false,.p0,.p0,.sl0,.sl0,.i .i64 t.l]) rfl (zK) rfl rfl (aU rfl) rfl) ?_
   conv=>whnf
   have k6:=k5.st zK (dK 8 [] false .p0 .p0 .sl0 .sl0 t.l)
   have wI:(s5.set σ2.length (dK 8 [] false .p0 .p0 .sl0 .sl0 t.l))[σ2.length]? =_:=at_set zK _
   have yZ:(s5.set σ2.length (dK 8 [] false .p0 .p0 .sl0 .sl0 t.l))[σ3.length]? =_:=aK uK (by omega) _
   have xx6:aN p σ (s5.set σ2.length (dK 8 [] false .p0 .p0 .sl0 .sl0 t.l)):=wX.bJ (bV.bT _ _ _ _) (by omega)
   refine ak (aj (T:=bf) rfl rfl (ah (aK c5 (by omega) _)) rfl) ?_
   conv=>whnf
   refine j_ [59] k6 Qg (fun hi=>(aX he1 kX hi).1) (fun hi s7 y7 k7=>?_) (fun hi s7 y7 k7=>?_)
   ·rw [aQ,if_pos (show aY [59] (t6 :: r6)=true from hi)] at hQ
    conv=>whnf
    refine ak (aj (T:=dH) rfl rfl (ah (y7.get (by omega) yZ)) rfl) ?_
    conv=>whnf
    have lx6:=xx6.len
    exact Fin.ref rfl (hQ _ _ _ _ (xx6.trans y7) k7 FV ⟨σ2.length,0,.p0,.p0,.sl0,.sl0,by omega,rfl,y7.get (by omega) wI,rfl,rfl,rfl,rfl⟩)
   ·rw [aQ,if_neg (show ¬aY [59] (t6 :: r6)=true by rw [show aY [59] (t6 :: r6)=iK [59] t6 from rfl,hi];decide)] at hQ
    conv=>whnf
    refine ak (aj (T:=dH) rfl rfl (ah (y7.get (by omega) yZ)) rfl) ?_
    conv=>whnf
    exact Fin.ref rfl (hQ _ _ _ (xx6.trans y7) k7)
  ·have hW:∀s,aY s (t :: r)=(t.s == s):=fun s=>by show ((t.k == 4 || t.k == 3) && t.s == s)=_;rw [hk4];rfl
   rw [if_neg (by rw [hW,hs];decide),if_neg (by rw [hW,hs];decide),if_neg (by rw [hW,hs];decide),if_neg (by rw [hW,hs];decide),if_neg (by rw [hW,hs];decide),if_neg (by rw [hW,hs];decide),if_pos (by rw [hW,hs];rfl)] at hQ
   rw [show (t.s == [110,101,119])=false by rw [hs];rfl]
   conv=>whnf
   refine ak (aj (T:=fB) rfl rfl (ah (ct)) rfl) ?_
   conv=>whnf
   rw [show (t.s == [105,110])=false by rw [hs];rfl]
   conv=>whnf
   refine ak (aj (T:=bf) rfl rfl (ah (c1)) rfl) ?_
   conv=>whnf
   refine jm h4 hm1 fun s5 y5 k5=>?_
   have c5:=y5.get (by omega) c1
   have EL:=y5.get (by omega) ct
   have zK:=y5.get (by omega) cx
   have uK:=y5.get (by omega) b4
   have wX:=xx.trans y5
   have l5:=y5.len
   conv=>whnf
   refine ak (aj (T:=fB) rfl rfl (ah (EL)) rfl) ?_
   conv=>whnf
   rw [show (t.s == [118,97,114])=false by rw [hs];rfl]
   conv=>whnf
   rw [show (t.s == [105,102])=false by rw [hs];rfl]
   conv=>whnf
   rw [show (t.s == [119,104,105,108,101])=false by rw [hs];rfl]
   conv=>whnf
   rw [show (t.s == [111,117,116])=false by rw [hs];rfl]
   conv=>whnf
   rw [show (t.s == [102,114,101,101])=false by rw [hs];rfl]
   conv=>whnf
   rw [show (t.s == [100,114,97,105,110])=false by rw [hs];rfl]
   conv=>whnf
   rw [show (t.s == [114,101,116,117,114,110])=true by rw [hs];rfl]
   conv=>whnf
   obtain⟨t6,r6,kX⟩:=he1.ne
   obtain⟨Qg,FV⟩:=b_ kX
   rw [←hr,kX] at hQ
   refine ak (aj (T:=bf) rfl rfl (ah (c5)) rfl) ?_
   conv=>whnf
   refine oI [59] k5 Qg (fun hi=>(aX he1 kX hi).1) (fun hi s6 y6 k6=>?_) (fun hi=>?_)
   ·rw [if_pos (show aY [59] (t6 :: r6)=true from hi)] at hQ
    have hQ:nJ p w g all σ d Q (.ok (.st 9 [] false .nil .nil .nil .nil t.l) r6):=hQ
    conv=>whnf
    refine ak (aj (T:=dH) rfl rfl (ah (y6.get (by omega) uK)) rfl) ?_
    conv=>whnf
    refine ak (aC (T:=fF) ([.i .i64 9,.s [],.b false,.p0,.p0,.sl0,.sl0,.i .i64 t.l]) rfl (y6.get (by omega) zK) rfl rfl (aU rfl) rfl) ?_
    conv=>whnf
    have wI:=y6.get (by omega) zK
    have k7:=k6.st wI (dK 9 [] false .p0 .p0 .sl0 .sl0 t.l)
    refine ak (aj (T:=dH) rfl rfl (ah (aK (y6.get (by omega) uK) (by omega) _)) rfl) ?_
    conv=>whnf
    have xx7:aN p σ (s6.set σ2.length (dK 9 [] false .p0 .p0 .sl0 .sl0 t.l)):=(wX.trans y6).bJ (bV.bT _ _ _ _) (by omega)
    exact Fin.ref rfl (hQ _ _ _ _ xx7 k7 FV ⟨σ2.length,0,.p0,.p0,.sl0,.sl0,by omega,rfl,at_set wI _,rfl,rfl,rfl,rfl⟩)
   ·rw [if_neg (by rw [show aY [59] (t6 :: r6)=iK [59] t6 from rfl,hi];decide),←kX] at hQ
    conv=>whnf
    refine Xn d 9 _ σ2.length σ3.length σ.length t.l [] false .p0 s5 (m+1) _ k5 hd he1 (by omega) (uK) (c5) (zK) ⟨by omega,by omega,by omega,by omega,by omega⟩ ?_
    generalize bU n d (all.drop (m+1))=rE at hQ
    cases rE with
    | out=>trivial
    | bad c l=>
      intro s9 y9 k9
      conv=>whnf
      exact Fin.ref rfl (hQ _ _ _ ((wX).bJ y9 (by omega)) k9)
    | ok z Oj=>
      have hQ:nJ p w g all σ d Q (.ok (.st 9 [] false .nil z .nil .nil t.l) Oj):=hQ
      intro R s9 m9 y9 k9 FW Ol Om
      conv=>whnf
      have lX:=(wX).len
      refine Fin.ref rfl (hQ _ _ _ _ ((wX).bJ y9 (by omega)) k9 FW ⟨σ2.length,0,.p0,R,.sl0,.sl0,by omega,rfl,Ol,rfl,?_,rfl,rfl⟩)
      exact bP.mono (fun i hi=>by first | omega | (rw [gK] at hi;omega)) (fun i hi a ha=>ha) Om
 case' inl=>
  have hW:∀s,s∈keys→aY s (t :: r)=false:=fun s hs=>by show ((t.k == 4 || t.k == 3) && t.s == s)=_;rw [beq_eq_false_iff_ne.2 hk4,Bool.false_or];exact nokey (hko t (List.mem_of_getElem? ht)).2 s hs
  rw [if_neg (by rw [hW _ (by decide)];decide),if_neg (by rw [hW _ (by decide)];decide),if_neg (by rw [hW _ (by decide)];decide),if_neg (by rw [hW _ (by decide)];decide),if_neg (by rw [hW _ (by decide)];decide),if_neg (by rw [hW _ (by decide)];decide),if_neg (by rw [hW _ (by decide)];decide)] at hQ
  rw [decide_eq_false (by omega)]
  conv=>whnf
 case' inr.inl=>
  rw [decide_eq_true (by omega)]
  conv=>whnf
  refine ak (aj (T:=bf) rfl rfl (ah (c1)) rfl) ?_
  conv=>whnf
  refine au.to (mW h4) ?_
  conv=>whnf
  refine ak (aj (T:=fB) rfl rfl (ah (ct)) rfl) ?_
  conv=>whnf
  have hW:∀s,aY s (t :: r)=(t.s == s):=fun s=>by show ((t.k == 4 || t.k == 3) && t.s == s)=_;rw [hk4];rfl
  rw [if_neg (by rw [hW,hs];decide),if_neg (by rw [hW,hs];decide),if_neg (by rw [hW,hs];decide),if_neg (by rw [hW,hs];decide),if_neg (by rw [hW,hs];decide),if_neg (by rw [hW,hs];decide),if_neg (by rw [hW,hs];decide)] at hQ
  rw [show (t.s == [110,101,119])=true by rw [hs];rfl]
  conv=>whnf
 case' inr.inr.inl=>
  rw [decide_eq_true (by omega)]
  conv=>whnf
  refine ak (aj (T:=bf) rfl rfl (ah (c1)) rfl) ?_
  conv=>whnf
  refine au.to (mW h4) ?_
  conv=>whnf
  refine ak (aj (T:=fB) rfl rfl (ah (ct)) rfl) ?_
  conv=>whnf
  have hW:∀s,aY s (t :: r)=(t.s == s):=fun s=>by show ((t.k == 4 || t.k == 3) && t.s == s)=_;rw [hk4];rfl
  rw [if_neg (by rw [hW,hs];decide),if_neg (by rw [hW,hs];decide),if_neg (by rw [hW,hs];decide),if_neg (by rw [hW,hs];decide),if_neg (by rw [hW,hs];decide),if_neg (by rw [hW,hs];decide),if_neg (by rw [hW,hs];decide)] at hQ
  rw [show (t.s == [110,101,119])=false by rw [hs];rfl]
  conv=>whnf
  refine ak (aj (T:=fB) rfl rfl (ah (ct)) rfl) ?_
  conv=>whnf
  rw [show (t.s == [105,110])=true by rw [hs];rfl]
  conv=>whnf
 all_goals
  have hQ:nJ p w g all σ d Q ((gW n d (all.drop m)).bind fun x ts=>match x with
   | .nil=>.out
   | .ex k _ nm _ _ _ _ _=>
     if aY [61] ts=true then
      if k=2 then(bU n d ts.tail).bind fun y ts=>.ok (.st 2 nm false .nil y .nil .nil t.l) ts
      else if k=5∨k=6 then(bU n d ts.tail).bind fun y ts=>.ok (.st 3 [] false x y .nil .nil t.l) ts
      else .bad 4 (kW ts)
     else if k=4 then(aQ [59] ts).bind fun _ ts=>.ok (.st 10 [] false .nil x .nil .nil t.l) ts
     else .bad 4 (kW ts)):=by rw [hts];exact hQ
  have hg:=(uD n).post d (all.drop m) he (by omega)
  refine ak (aj (T:=bf) rfl rfl (ah (c1)) rfl) ?_
  conv=>whnf
  refine ihE.post d dF m _ h4 hd he (by omega) ?_
  generalize gW n d (all.drop m)=r1 at hg hQ
  cases r1 with
  | out=>exact hg.elim
  | bad c l=>
    have hQ:nJ p w g all σ d Q (.bad c l):=hQ
    intro o g' s6 y6 k6
    have c6:=y6.get (by omega) c1
    conv=>whnf
    refine ak (aj (T:=bf) rfl rfl (ah (c6)) rfl) ?_
    conv=>whnf
    have b7:(newCells 9 [.s [61]] s6)[s6.length]? =some ⟨0,false,.cells 9 [.s [61]]⟩:=aG _ _ _
    have x7:Ext s6 (newCells 9 [.s [61]] s6):=(Ext.refl s6).new _ _
    have l7:(newCells 9 [.s [61]] s6).length=s6.length+1:=aH _ _ _
    generalize newCells 9 [.s [61]] s6=xY at b7 x7 l7 ⊢
    have k7:=k6.ext x7
    have c7:=x7.get c6
    refine au.to (LG k7 s6.length 0 1) ?_
    conv=>whnf
    refine ak (aj (T:=bf) rfl rfl (ah (c7)) rfl) ?_
    conv=>whnf
    refine au.to (uH k7) ?_
    conv=>whnf
    refine ak (aj (T:=dH) rfl rfl (ah (x7.get (y6.get (by omega) b4))) rfl) ?_
    conv=>whnf
    exact Fin.ref rfl (hQ _ _ _ ((xx.trans y6).trans (aN.of x7)) k7)
  | ok z bI=>
    intro o g' s6 m6 y6 k6 hm6 LV
    have c6:=y6.get (by omega) c1
    have yZ:=y6.get (by omega) b4
    have wI:=y6.get (by omega) cx
    have he2:aZ (all.drop m6):=by rw [hm6];exact hg.2.1
    obtain⟨t6,r6,kX⟩:=he2.ne
    obtain⟨Qg,FV⟩:=b_ kX
    have hl6:(all.drop m6).length=r6.length+1:=by rw [kX];rfl
    have lg:=hg.2.2
    rw [←hm6] at lg
    cases z with
    | nil=>exact hg.1.elim
    | ex kz nz FX tz lz rz az Xp=>
      have hQ:nJ p w g all σ d Q (
       if aY [61] bI=true then
        if kz=2 then(bU n d bI.tail).bind fun y ts=>.ok (.st 2 FX false .nil y .nil .nil t.l) ts
        else if kz=5∨kz=6 then(bU n d bI.tail).bind fun y ts=>.ok (.st 3 [] false (.ex kz nz FX tz lz rz az Xp) y .nil .nil t.l) ts
        else .bad 4 (kW bI)
       else if kz=4 then(aQ [59] bI).bind fun _ ts=>.ok (.st 10 [] false .nil (.ex kz nz FX tz lz rz az Xp) .nil .nil t.l) ts
       else .bad 4 (kW bI)):=hQ
      have hez':=LV
      obtain⟨oz,gz,Lz,Rz,Az,hoz,hvz,hzo,_,_,_⟩:=hez'
      cases hvz
      rw [←hm6,kX] at hQ
      conv=>whnf
      refine ak (aj (T:=bf) rfl rfl (ah (c6)) rfl) ?_
      conv=>whnf
      have b7:(newCells 9 [.s [61]] s6)[s6.length]? =some ⟨0,false,.cells 9 [.s [61]]⟩:=aG _ _ _
      have x7:Ext s6 (newCells 9 [.s [61]] s6):=(Ext.refl s6).new _ _
      have l7:(newCells 9 [.s [61]] s6).length=s6.length+1:=aH _ _ _
      generalize newCells 9 [.s [61]] s6=xY at b7 x7 l7 ⊢
      have k7:=k6.ext x7
      have c7:=x7.get c6
      have wZ:=x7.get yZ
      have wY:=x7.get wI
      have zo7:=x7.get hzo
      have l6:=y6.len
      have hez7:bP (fun i=>dF.length≤i) xY (.p o g' 0) (.ex kz nz FX tz lz rz az Xp):=bP.mono (fun i hi=>hi) (fun i hi a ha=>x7.get ha) LV
      have xx7:aN p σ xY:=(xx.trans y6).trans (aN.of x7)
      refine au.to (BX [[61]] k7 Qg s6.length 0 (ah b7) (aU rfl)) ?_
      conv=>whnf
      rw [jU]
      cases hi:iK [61] t6 with
      | false=>
        rw [if_neg (by rw [show aY [61] (t6 :: r6)=iK [61] t6 from rfl,hi];decide)] at hQ
        conv=>whnf
        refine ak (aj (T:=bf) rfl rfl (ah (c7)) rfl) ?_
        conv=>whnf
        refine au.to (mW k7) ?_
        conv=>whnf
        refine ak (aj (T:=fF) rfl rfl (ah (zo7)) rfl) ?_
        conv=>whnf
        by_cases h4k:kz=4
        ·rw [if_pos h4k] at hQ
         rw [decide_eq_true (by omega)]
         conv=>whnf
         refine ak (aj (T:=dH) rfl rfl (ah (wZ)) rfl) ?_
         conv=>whnf
         refine ak (aj (T:=dH) rfl rfl (ah (wZ)) rfl) ?_
         conv=>whnf
         refine ak (aC (T:=fF) ([.i .i64 10,.s [],.b false,.p0,.p0,.sl0,.sl0,.i .i64 t.l]) rfl (wY) rfl rfl (aU rfl) rfl) ?_
         conv=>whnf
         have k8:=k7.st wY (dK 10 [] false .p0 .p0 .sl0 .sl0 t.l)
         have mZ:(xY.set σ2.length (dK 10 [] false .p0 .p0 .sl0 .sl0 t.l))[σ2.length]? =_:=at_set wY _
         have oM:(xY.set σ2.length (dK 10 [] false .p0 .p0 .sl0 .sl0 t.l))[σ3.length]? =_:=aK wZ (by omega) _
         have c8:(xY.set σ2.length (dK 10 [] false .p0 .p0 .sl0 .sl0 t.l))[σ.length]? =_:=aK c7 (by omega) _
         refine⟨?_,?_⟩
         ·conv=>whnf
          refine ak (aj (T:=dH) rfl rfl (ah (oM)) rfl) ?_
          rfl
         conv=>whnf
         refine ak (aC (T:=aW) ([.i .i64 10,.s [],.b false,.p0,.p o g' 0,.sl0,.sl0,.i .i64 t.l]) rfl (mZ) rfl rfl (aU rfl) rfl) ?_
         conv=>whnf
         have k9:=k8.st mZ (dK 10 [] false .p0 (.p o g' 0) .sl0 .sl0 t.l)
         have EM:((xY.set σ2.length (dK 10 [] false .p0 .p0 .sl0 .sl0 t.l)).set σ2.length (dK 10 [] false .p0 (.p o g' 0) .sl0 .sl0 t.l))[σ2.length]? =_:=at_set mZ _
         have CS:((xY.set σ2.length (dK 10 [] false .p0 .p0 .sl0 .sl0 t.l)).set σ2.length (dK 10 [] false .p0 (.p o g' 0) .sl0 .sl0 t.l))[σ3.length]? =_:=aK oM (by omega) _
         have xx9:aN p σ ((xY.set σ2.length (dK 10 [] false .p0 .p0 .sl0 .sl0 t.l)).set σ2.length (dK 10 [] false .p0 (.p o g' 0) .sl0 .sl0 t.l)):=(xx7.bJ (bV.bT _ _ _ _) (by omega)).bJ (bV.bT _ _ _ _) (by omega)
         have ll9:((xY.set σ2.length (dK 10 [] false .p0 .p0 .sl0 .sl0 t.l)).set σ2.length (dK 10 [] false .p0 (.p o g' 0) .sl0 .sl0 t.l)).length=xY.length:=by rw [gK,gK]
         refine ak (aj (T:=bf) rfl rfl (ah (aK c8 (by omega) _)) rfl) ?_
         conv=>whnf
         have he7:=kX▸he2
         refine j_ [59] k9 Qg (fun hi=>(aX he2 kX hi).1) (fun hi s8 y8 k8'=>?_) (fun hi s8 y8 k8'=>?_)
         ·rw [aQ,if_pos (show aY [59] (t6 :: r6)=true from hi)] at hQ
          have hQ:nJ p w g all σ d Q (.ok (.st 10 [] false .nil (.ex kz nz FX tz lz rz az Xp) .nil .nil t.l) r6):=hQ
          conv=>whnf
          refine ak (aj (T:=dH) rfl rfl (ah (y8.get (by omega) CS)) rfl) ?_
          conv=>whnf
          refine Fin.ref rfl (hQ _ _ _ _ (xx9.trans y8) k8' FV ⟨σ2.length,0,.p0,.p o g' 0,.sl0,.sl0,by omega,rfl,y8.get (by omega) EM,rfl,?_,rfl,rfl⟩)
          exact bP.mono (fun i hi=>by omega) (fun i hi a ha=>y8.get (by omega) (aK (aK ha (by omega) _) (by omega) _)) hez7
         ·rw [aQ,if_neg (show ¬aY [59] (t6 :: r6)=true by rw [show aY [59] (t6 :: r6)=iK [59] t6 from rfl,hi];decide)] at hQ
          have hQ:nJ p w g all σ d Q (.bad 4 t6.l):=hQ
          conv=>whnf
          refine ak (aj (T:=dH) rfl rfl (ah (y8.get (by omega) CS)) rfl) ?_
          conv=>whnf
          exact Fin.ref rfl (hQ _ _ _ (xx9.trans y8) k8')
        ·rw [if_neg h4k] at hQ
         rw [decide_eq_false (by omega)]
         conv=>whnf
         refine ak (aj (T:=bf) rfl rfl (ah (c7)) rfl) ?_
         conv=>whnf
         refine uI 4 k7 Qg fun s9 y9 k9=>?_
         have hQ:nJ p w g all σ d Q (.bad 4 t6.l):=hQ
         conv=>whnf
         refine ak (aj (T:=dH) rfl rfl (ah (y9.get (by omega) wZ)) rfl) ?_
         conv=>whnf
         exact Fin.ref rfl (hQ _ _ _ (xx7.trans y9) k9)
      | true=>
        rw [if_pos (show aY [61] (t6 :: r6)=true from hi)] at hQ
        conv=>whnf
        refine ak (aj (T:=bf) rfl rfl (ah (c7)) rfl) ?_
        conv=>whnf
        refine au.to (mW k7) ?_
        conv=>whnf
        refine ak (aj (T:=fF) rfl rfl (ah (zo7)) rfl) ?_
        conv=>whnf
        by_cases h2k:kz=2
        ·rw [if_pos h2k] at hQ
         have hQ:nJ p w g all σ d Q ((bU n d r6).bind fun y ts=>.ok (.st 2 FX false .nil y .nil .nil t.l) ts):=hQ
         obtain⟨hmA,SY,VJ⟩:=aX he2 kX hi
         have hlA:(all.drop (m6+1)).length=r6.length:=by rw [FV]
         rw [←FV] at hQ
         rw [decide_eq_true (by omega)]
         conv=>whnf
         refine ak (aj (T:=bf) rfl rfl (ah (c7)) rfl) ?_
         conv=>whnf
         refine jm k7 hmA fun s8 y8 k8=>?_
         have oM:=y8.get (by omega) wZ
         have mZ:=y8.get (by omega) wY
         have c8:=y8.get (by omega) c7
         have zo8:=y8.get (by omega) zo7
         have Oi:=xx7.trans y8
         have l8:=y8.len
         conv=>whnf
         refine ak (aj (T:=dH) rfl rfl (ah (oM)) rfl) ?_
         conv=>whnf
         refine ak (aj (T:=fB) rfl rfl (ah (zo8)) rfl) ?_
         conv=>whnf
         refine ak (aC (T:=fB) ([.i .i64 0,.s FX,.b false,.p0,.p0,.sl0,.sl0,.i .i64 t.l]) rfl (mZ) rfl rfl (aU rfl) rfl) ?_
         conv=>whnf
         have kB:=k8.st mZ (dK 0 FX false .p0 .p0 .sl0 .sl0 t.l)
         have VI:(s8.set σ2.length (dK 0 FX false .p0 .p0 .sl0 .sl0 t.l))[σ2.length]? =_:=at_set mZ _
         have RQ:(s8.set σ2.length (dK 0 FX false .p0 .p0 .sl0 .sl0 t.l))[σ3.length]? =_:=aK oM (by omega) _
         have cB:(s8.set σ2.length (dK 0 FX false .p0 .p0 .sl0 .sl0 t.l))[σ.length]? =_:=aK c8 (by omega) _
         have llB:(s8.set σ2.length (dK 0 FX false .p0 .p0 .sl0 .sl0 t.l)).length=s8.length:=gK
         have BZ:aN p σ (s8.set σ2.length (dK 0 FX false .p0 .p0 .sl0 .sl0 t.l)):=Oi.bJ (bV.bT _ _ _ _) (by omega)
         refine Xn d 2 _ σ2.length σ3.length σ.length t.l FX false .p0 _ (m6+1) _ kB hd SY (by omega) (RQ) (cB) (VI) ⟨by omega,by omega,by omega,by omega,by omega⟩ ?_
         generalize bU n d (all.drop (m6+1))=rE at hQ
         cases rE with
         | out=>trivial
         | bad c l=>
           intro s9 y9 k9
           conv=>whnf
           exact Fin.ref rfl (hQ _ _ _ ((BZ).bJ y9 (by omega)) k9)
         | ok z Oj=>
           have hQ:nJ p w g all σ d Q (.ok (.st 2 FX false .nil z .nil .nil t.l) Oj):=hQ
           intro R s9 m9 y9 k9 FW Ol Om
           conv=>whnf
           have lX:=(BZ).len
           refine Fin.ref rfl (hQ _ _ _ _ ((BZ).bJ y9 (by omega)) k9 FW ⟨σ2.length,0,.p0,R,.sl0,.sl0,by omega,rfl,Ol,rfl,?_,rfl,rfl⟩)
           exact bP.mono (fun i hi=>by first | omega | (rw [gK] at hi;omega)) (fun i hi a ha=>ha) Om
        ·rw [if_neg h2k] at hQ
         rw [decide_eq_false (by omega)]
         conv=>whnf
         by_cases h5k:kz=5
         ·subst h5k
          rw [if_pos (.inl rfl)] at hQ
          refine ak (aj (T:=fF) rfl rfl (ah (zo7)) rfl) ?_
          conv=>whnf
          have hQ:nJ p w g all σ d Q ((bU n d r6).bind fun y ts=>.ok (.st 3 [] false (.ex 5 nz FX tz lz rz az Xp) y .nil .nil t.l) ts):=hQ
          obtain⟨hmA,SY,VJ⟩:=aX he2 kX hi
          have hlA:(all.drop (m6+1)).length=r6.length:=by rw [FV]
          rw [←FV] at hQ
          refine ak (aj (T:=bf) rfl rfl (ah (c7)) rfl) ?_
          conv=>whnf
          refine jm k7 hmA fun s8 y8 k8=>?_
          have oM:=y8.get (by omega) wZ
          have mZ:=y8.get (by omega) wY
          have c8:=y8.get (by omega) c7
          have Oi:=xx7.trans y8
          have l8:=y8.len
          conv=>whnf
          refine ak (aj (T:=dH) rfl rfl (ah (oM)) rfl) ?_
          conv=>whnf
          refine ak (aC (T:=aW) ([.i .i64 0,.s [],.b false,.p o g' 0,.p0,.sl0,.sl0,.i .i64 t.l]) rfl (mZ) rfl rfl (aU rfl) rfl) ?_
          conv=>whnf
          have kB:=k8.st mZ (dK 0 [] false (.p o g' 0) .p0 .sl0 .sl0 t.l)
          have VI:(s8.set σ2.length (dK 0 [] false (.p o g' 0) .p0 .sl0 .sl0 t.l))[σ2.length]? =_:=at_set mZ _
          have RQ:(s8.set σ2.length (dK 0 [] false (.p o g' 0) .p0 .sl0 .sl0 t.l))[σ3.length]? =_:=aK oM (by omega) _
          have cB:(s8.set σ2.length (dK 0 [] false (.p o g' 0) .p0 .sl0 .sl0 t.l))[σ.length]? =_:=aK c8 (by omega) _
          have llB:(s8.set σ2.length (dK 0 [] false (.p o g' 0) .p0 .sl0 .sl0 t.l)).length=s8.length:=gK
          have BZ:aN p σ (s8.set σ2.length (dK 0 [] false (.p o g' 0) .p0 .sl0 .sl0 t.l)):=Oi.bJ (bV.bT _ _ _ _) (by omega)
          have hezB:bP (fun i=>dF.length≤i) (s8.set σ2.length (dK 0 [] false (.p o g' 0) .p0 .sl0 .sl0 t.l)) (.p o g' 0) (.ex 5 nz FX tz lz rz az Xp):=bP.mono (fun i hi=>hi) (fun i hi a ha=>aK (y8.get (by omega) ha) (by omega) _) hez7
          refine Xn d 3 _ σ2.length σ3.length σ.length t.l [] false (.p o g' 0) _ (m6+1) _ kB hd SY (by omega) (RQ) (cB) (VI) ⟨by omega,by omega,by omega,by omega,by omega⟩ ?_
          generalize bU n d (all.drop (m6+1))=rE at hQ
          cases rE with
          | out=>trivial
          | bad c l=>
            intro s9 y9 k9
            conv=>whnf
            exact Fin.ref rfl (hQ _ _ _ ((BZ).bJ y9 (by omega)) k9)
          | ok z Oj=>
            have hQ:nJ p w g all σ d Q (.ok (.st 3 [] false (.ex 5 nz FX tz lz rz az Xp) z .nil .nil t.l) Oj):=hQ
            intro R s9 m9 y9 k9 FW Ol Om
            conv=>whnf
            have lX:=(BZ).len
            refine Fin.ref rfl (hQ _ _ _ _ ((BZ).bJ y9 (by omega)) k9 FW ⟨σ2.length,0,(.p o g' 0),R,.sl0,.sl0,by omega,rfl,Ol,?_,?_,rfl,rfl⟩)
            ·exact bP.mono (fun i hi=>by omega) (fun i hi a ha=>y9.get (by omega) (by omega) ha) hezB
            ·exact bP.mono (fun i hi=>by first | omega | (rw [gK] at hi;omega)) (fun i hi a ha=>ha) Om
         ·refine ak (aj (T:=fF) rfl rfl (ah (zo7)) rfl) ?_
          conv=>whnf
          rw [decide_eq_false (by omega)]
          conv=>whnf
          by_cases h6k:kz=6
          ·subst h6k
           rw [if_pos (.inr rfl)] at hQ
           refine ak (aj (T:=fF) rfl rfl (ah (zo7)) rfl) ?_
           conv=>whnf
           have hQ:nJ p w g all σ d Q ((bU n d r6).bind fun y ts=>.ok (.st 3 [] false (.ex 6 nz FX tz lz rz az Xp) y .nil .nil t.l) ts):=hQ
           obtain⟨hmA,SY,VJ⟩:=aX he2 kX hi
           have hlA:(all.drop (m6+1)).length=r6.length:=by rw [FV]
           rw [←FV] at hQ
           refine ak (aj (T:=bf) rfl rfl (ah (c7)) rfl) ?_
           conv=>whnf
           refine jm k7 hmA fun s8 y8 k8=>?_
           have oM:=y8.get (by omega) wZ
           have mZ:=y8.get (by omega) wY
           have c8:=y8.get (by omega) c7
           have Oi:=xx7.trans y8
           have l8:=y8.len
           conv=>whnf
           refine ak (aj (T:=dH) rfl rfl (ah (oM)) rfl) ?_
           conv=>whnf
           refine ak (aC (T:=aW) ([.i .i64 0,.s [],.b false,.p o g' 0,.p0,.sl0,.sl0,.i .i64 t.l]) rfl (mZ) rfl rfl (aU rfl) rfl) ?_
           conv=>whnf
           have kB:=k8.st mZ (dK 0 [] false (.p o g' 0) .p0 .sl0 .sl0 t.l)
           have VI:(s8.set σ2.length (dK 0 [] false (.p o g' 0) .p0 .sl0 .sl0 t.l))[σ2.length]? =_:=at_set mZ _
           have RQ:(s8.set σ2.length (dK 0 [] false (.p o g' 0) .p0 .sl0 .sl0 t.l))[σ3.length]? =_:=aK oM (by omega) _
           have cB:(s8.set σ2.length (dK 0 [] false (.p o g' 0) .p0 .sl0 .sl0 t.l))[σ.length]? =_:=aK c8 (by omega) _
           have llB:(s8.set σ2.length (dK 0 [] false (.p o g' 0) .p0 .sl0 .sl0 t.l)).length=s8.length:=gK
           have BZ:aN p σ (s8.set σ2.length (dK 0 [] false (.p o g' 0) .p0 .sl0 .sl0 t.l)):=Oi.bJ (bV.bT _ _ _ _) (by omega)
           have hezB:bP (fun i=>dF.length≤i) (s8.set σ2.length (dK 0 [] false (.p o g' 0) .p0 .sl0 .sl0 t.l)) (.p o g' 0) (.ex 6 nz FX tz lz rz az Xp):=bP.mono (fun i hi=>hi) (fun i hi a ha=>aK (y8.get (by omega) ha) (by omega) _) hez7
           refine Xn d 3 _ σ2.length σ3.length σ.length t.l [] false (.p o g' 0) _ (m6+1) _ kB hd SY (by omega) (RQ) (cB) (VI) ⟨by omega,by omega,by omega,by omega,by omega⟩ ?_
           generalize bU n d (all.drop (m6+1))=rE at hQ
           cases rE with
           | out=>trivial
           | bad c l=>
             intro s9 y9 k9
             conv=>whnf
             exact Fin.ref rfl (hQ _ _ _ ((BZ).bJ y9 (by omega)) k9)
           | ok z Oj=>
             have hQ:nJ p w g all σ d Q (.ok (.st 3 [] false (.ex 6 nz FX tz lz rz az Xp) z .nil .nil t.l) Oj):=hQ
             intro R s9 m9 y9 k9 FW Ol Om
             conv=>whnf
             have lX:=(BZ).len
             refine Fin.ref rfl (hQ _ _ _ _ ((BZ).bJ y9 (by omega)) k9 FW ⟨σ2.length,0,(.p o g' 0),R,.sl0,.sl0,by omega,rfl,Ol,?_,?_,rfl,rfl⟩)
             ·exact bP.mono (fun i hi=>by omega) (fun i hi a ha=>y9.get (by omega) (by omega) ha) hezB
             ·exact bP.mono (fun i hi=>by first | omega | (rw [gK] at hi;omega)) (fun i hi a ha=>ha) Om
          ·rw [if_neg (by omega)] at hQ
           refine ak (aj (T:=fF) rfl rfl (ah (zo7)) rfl) ?_
           conv=>whnf
           rw [decide_eq_false (by omega)]
           conv=>whnf
           refine ak (aj (T:=bf) rfl rfl (ah (c7)) rfl) ?_
           conv=>whnf
           refine uI 4 k7 Qg fun s9 y9 k9=>?_
           have hQ:nJ p w g all σ d Q (.bad 4 t6.l):=hQ
           conv=>whnf
           refine ak (aj (T:=dH) rfl rfl (ah (y9.get (by omega) wZ)) rfl) ?_
           conv=>whnf
           exact Fin.ref rfl (hQ _ _ _ (xx7.trans y9) k9)
end
end Go.Abs.YtlkfbfhkcaldlaaGreatDoor
namespace Go.Abs.YtlkfbfhkcaldlaaGreatDoor
open Go.Proofs
set_option maxRecDepth 4000
section
variable {p w g:Nat} {all:List Tok} {n:Nat}
theorem allQ (hno:EH all)(hnn:EJ all)(hko:LZ all):∀n,WQ p w g all n∧vT p w g all n∧L6 p w g all n
 | 0=>⟨⟨fun _ _ _ _ _ _ _ h=>absurd h (by omega),fun _ _ _ _ _ _ _ _ h=>absurd h (by omega),fun _ _ _ _ _ _ _ h=>absurd h (by omega)⟩,by intro d B bp bl _ _ _ acc A σ m Q _ _ _ _ _ _ h;omega,by intro d kd k0 xo xv bp ln nm pt L σ m Q _ _ _ h;omega⟩
 | n+1=>by
   obtain⟨ih,ihS,Xn⟩:=allQ hno hnn hko n
   have ihE:=(allP (p:=p) (w:=w) (g:=g) hno hnn n).1
   exact⟨⟨fun d σ m Q h hd he hn hQ=>Zc ihS d σ m Q h hd he hn hQ,fun d l σ m Q h hd he hn hQ=>VF ihE ih d l σ m Q h hd he hn hQ,fun d σ m Q h hd he hn hQ=>stmt_p hko ihE ih Xn d σ m Q h hd he hn hQ⟩,Zb ih ihS,fun d kd k0 xo xv bp ln nm pt L σ m Q h hd he hn h1 h2 h3 h4 hQ=>Zd ihE d kd k0 xo xv bp ln nm pt L σ m Q h hd he hn h1 h2 h3 h4 hQ⟩
def pq (l:List (List UInt8×Bool)):List AV:=l.flatMap fun q=>[.s q.1,.b q.2]
theorem qK:∀l:List (List UInt8×Bool),(pq l).length=l.length*2
 | []=>rfl
 | t :: l=>by have:=qK l;simp only [pq,List.flatMap_cons,bM,bg,bZ] at this ⊢;rw [this];omega
theorem L8:∀l:List (List UInt8×Bool),(pq l).all AV.one=true
 | []=>rfl
 | t :: l=>by have:=L8 l;simp only [pq,List.flatMap_cons,List.all_append] at this ⊢;rw [this];rfl
theorem RS (l:List (List UInt8×Bool))(q:List UInt8×Bool):pq (l ++ [q])=pq l ++ [.s q.1,.b q.2]:=by simp [pq,List.flatMap_append]
theorem L9 (l:List (List UInt8×Bool)):((pq l).drop 0).take (l.length*2)=pq l:=by rw [List.drop_zero,List.take_of_length_le (by rw [qK];omega)]
def lG (B:Nat)(σ:St)(v:AV)(l:List (List UInt8×Bool)):Prop:=(l=[]∧v= .sl0)∨∃o g,B≤o∧v= .sl o g 0 l.length 2∧σ[o]? =some ⟨g,false,.cells 71 (pq l)⟩
theorem lG.keep {B B':Nat} {σ σ':St} {v:AV} {l:List (List UInt8×Bool)} (h:lG B σ v l)(hb:B'≤B)(k:∀(i:Nat) (a:AO),B≤i→σ[i]? =some a→σ'[i]? =some a):lG B' σ' v l:=by
 rcases h with h | ⟨o,g,h1,h2,h3⟩
 ·exact .inl h
 ·exact .inr ⟨o,g,by omega,h2,k o _ h1 h3⟩
def slP (v:AV):Prop:=v= .sl0∨∃o g n,v= .sl o g 0 n 2
theorem lG.sl {B:Nat} {σ:St} {v:AV} {l:List (List UInt8×Bool)} (h:lG B σ v l):slP v:=by
 rcases h with ⟨_,rfl⟩ | ⟨o,g,_,rfl,_⟩
 ·exact .inl rfl
 ·exact .inr ⟨_,_,_,rfl⟩
theorem CU {B:Nat} {σ:St} {v:AV} {acc:List (List UInt8×Bool)} (h:lG B σ v acc)(x:List UInt8×Bool)(hl:acc.length≤100000) {C:Nat} (hC:σ[C]? =some ⟨0,false,.cells 71 [.s x.1,.b x.2]⟩)(hB:B≤σ.length) {Q:AV→St→Prop}
 (q:∀o3 g3 k3 σ',lG B σ' (.sl o3 g3 0 k3 2) (acc ++ [x])→(∀i,i<B→σ'[i]? =σ[i]?)→σ.length≤σ'.length→(∀(i:Nat) (a:AO),σ[i]? =some a→(∀(g:Nat) (ro:Bool) (cs:List AV),a≠⟨g,ro,.cells 71 cs⟩)→σ'[i]? =some a)→Q (.sl o3 g3 0 k3 2) σ') :
 D8 KL.get false 66 v (.sl C 0 0 1 2) σ Q:=by
 constructor
 refine ak (v:=qE) rfl ?_
 refine ak (v:=gG) rfl ?_
 refine ak (kG hC (aU rfl)) ?_
 rcases h with ⟨rfl,rfl⟩ | ⟨o,g,h1,rfl,h3⟩
 ·refine⟨aU rfl,?_⟩
  refine q _ _ _ _ (.inr ⟨σ.length,0,hB,rfl,?_⟩) (fun i hi=>eu (by omega)) (by rw [aH];omega) (fun i a ha _=>at_new ha _ _)
  rw [aG];rfl
 ·refine ak (oC h3) ?_
  refine⟨rfl,by rw [qK];omega,?_,by rw [L9];exact L8 acc,?_⟩
  ·show (acc.length+1)*24≤_;omega
  refine q _ _ _ _ (.inr ⟨o,g+1,h1,by simp,?_⟩) (fun i hi=>by rw [rZ (by omega)]) (by rw [gK];exact Nat.le_refl _) (fun i a ha ht=>aK ha (fun e=>?_) _)
  ·rw [at_set h3,L9,RS];rfl
  ·subst e
   exact ht _ _ _ (Option.some.inj (ha.symm.trans h3))
def AA (nm:List UInt8)(A:AV)(pt:Bool)(Bd:AV)(ln:Nat):AO:=⟨0,false,.cells 69 [.s nm,A,.b pt,Bd,.i .i64 ln]⟩
def Jg (ts:List Tok):Re (List UInt8×Bool):=(fA ts).bind fun nm ts=>.ok (nm,aY dA ts) (if aY dA ts=true then ts.tail else ts)
theorem Zf {α:Type} (ts:List Tok)(f:List UInt8×Bool→List Tok→Re α):((fA ts).bind fun nm ts=>f (nm,aY dA ts) (if aY dA ts=true then ts.tail else ts))=(Jg ts).bind f:=by
 unfold Jg
 cases fA ts <;> rfl
theorem gd_par {ts:List Tok} (he:aZ ts):Gd An (Jg ts) ts.length:=by
 refine(vJ he).bind fun nm dM _ he2 hl2=>?_
 have h2:aZ (if aY dA dM=true then dM.tail else dM)∧(if aY dA dM=true then dM.tail else dM).length≤dM.length:=by
  split
  ·rename_i h2
   obtain⟨a,b⟩:=jD he2 h2
   exact⟨a,by omega⟩
  ·exact⟨he2,Nat.le_refl _⟩
 exact⟨trivial,h2.1,by omega⟩
theorem PW.AB {m d:Nat} {σ σ':St} {f:AV} (h:PW p w g all σ m d f)(k:∀(i:Nat) (a:AO),σ[i]? =some a→(∀(g:Nat) (ro:Bool) (cs:List AV),a≠⟨g,ro,.cells 71 cs⟩)→σ'[i]? =some a):PW p w g all σ' m d f:=
 ⟨k _ _ h.obj (fun _ _ _ e=>by cases e),k _ _ h.tok (fun _ _ _ e=>by cases e),h.ne,h.len,h.at_,h.dp⟩
theorem PB.AB {d c l:Nat} {σ σ':St} (h:PB p σ d c l)(k:∀(i:Nat) (a:AO),σ[i]? =some a→(∀(g:Nat) (ro:Bool) (cs:List AV),a≠⟨g,ro,.cells 71 cs⟩)→σ'[i]? =some a):PB p σ' d c l:=by
 obtain⟨w,g,all,m,fo,fg,h1,h2,h3⟩:=h
 exact⟨w,g,all,m,fo,fg,h1.AB k,h2,k _ _ h3 (fun _ _ _ e=>by cases e)⟩
def P1q (p w g:Nat)(all:List Tok)(B xo:Nat)(nm:List UInt8)(ln:Nat)(σ:St)(d:Nat)(acc:List (List UInt8×Bool))(Q:AV→St→Prop):Re (List UInt8×Bool)→Prop
 | .ok y ts=>∀A' σ' m',dO p xo B σ σ'→PW p w g all σ' m' d .p0→all.drop m'= ts→σ'[xo]? =some (AA nm A' false .sl0 ln)→lG B σ' A' (acc ++ [y])→Q (.tu []) σ'
 | .bad c l=>∀A' σ',dO p xo B σ σ'→PB p σ' d c l→σ'[xo]? =some (AA nm A' false .sl0 ln)→slP A'→Q (.tu []) σ'
 | .out=>True
theorem par1_p (d B xo bx b1:Nat)(nm:List UInt8)(ln:Nat)(acc:List (List UInt8×Bool))(A:AV)(σ:St)(m:Nat)(Q:AV→St→Prop)(h:PW p w g all σ m d .p0)(hlt:p<B∧w<B∧xo<B∧bx<B∧b1<B)(hne:xo≠p∧bx≠p∧b1≠p∧bx≠xo∧b1≠xo)(hB:B≤σ.length)
 (hbx:σ[bx]? =some ⟨0,false,.cells 64 [.p xo 0 0]⟩) (hb1:σ[b1]? =some ⟨0,false,.cells 85 [.p p 0 0]⟩) (hx:σ[xo]? =some (AA nm A false .sl0 ln)) (ha:lG B σ A acc) (he:aZ (all.drop m)) (hs:acc.length≤40001)
 (hQ:P1q p w g all B xo nm ln σ d acc Q (Jg (all.drop m))):au X 58 [.p b1 0 0,.p bx 0 0] σ Q:=by
 obtain⟨t,r,hts⟩:=he.ne
 obtain⟨ht,hr⟩:=b_ hts
 unfold Jg at hQ
 rw [hts] at hQ
 have hsl:=ha.sl
 have hpl:=bK h.obj
 refine au.body (F:=F58) ay (lit:=false) rfl rfl (aU rfl) ?_
 conv=>whnf
 refine ak (aj (T:=bf) rfl rfl (ah (hb1)) rfl) ?_
 conv=>whnf
 refine Jb h ht (fun hk1=>uG (by rw [hr];rw [hts] at he;exact he.tail (by rw [hk1];decide))) (fun hk1 σ1 y1 k1=>?_) (fun hk1 σ1 y1 k1=>?_)
 ·simp only [fA,if_pos hk1] at hQ
  have he2:aZ (all.drop (m+1)):=by rw [hr];rw [hts] at he;exact he.tail (by rw [hk1];decide)
  obtain⟨t2,r2,jE⟩:=he2.ne
  obtain⟨ht2,hr2⟩:=b_ jE
  have hQ:P1q p w g all B xo nm ln σ d acc Q (.ok (t.s,aY dA r) (if aY dA r=true then r.tail else r)):=hQ
  rw [←hr,jE] at hQ
  have l1:=y1.len
  conv=>whnf
  refine ak (aC (T:=gG) ([.s t.s,.b false]) rfl (aG _ _ _) rfl rfl (aU rfl) rfl) ?_
  have x2:Ext σ1 ((newCells 71 gG.zero.cells σ1).set σ1.length ⟨0,false,.cells 71 [.s t.s,.b false]⟩):=((Ext.refl σ1).new _ _).set (Nat.le_refl _) _
  have b2:((newCells 71 gG.zero.cells σ1).set σ1.length ⟨0,false,.cells 71 [.s t.s,.b false]⟩)[σ1.length]? =_:=at_set (aG _ _ _) _
  have l2:((newCells 71 gG.zero.cells σ1).set σ1.length ⟨0,false,.cells 71 [.s t.s,.b false]⟩).length=σ1.length+1:=by rw [gK,aH]
  generalize (newCells 71 gG.zero.cells σ1).set σ1.length ⟨0,false,.cells 71 [.s t.s,.b false]⟩=σ2 at b2 x2 l2 ⊢
  conv=>whnf
  have k2:=k1.ext x2
  have c1:=x2.get (y1.get (by omega) hb1)
  have CQ:=x2.get (y1.get (by omega) hbx)
  have cx:=x2.get (y1.get (by omega) hx)
  refine ak (aj (T:=bf) rfl rfl (ah (c1)) rfl) ?_
  conv=>whnf
  refine oI [112,116,114] k2 ht2 (fun hi=>(aX he2 jE hi).1) (fun hi σ3 y3 k3=>?_) (fun hi=>?_)
  ·have VH:aY dA (t2 :: r2)=true:=hi
   have hQ:P1q p w g all B xo nm ln σ d acc Q (.ok (t.s,true) r2):=by
        simp only [VH,if_true] at hQ;exact hQ
   have xx:=(y1.trans (aN.of x2)).trans y3
   have b3:=y3.get (by omega) b2
   have cx3:=y3.get (by omega) cx
   have cbx3:=y3.get (by omega) CQ
   conv=>whnf
   refine ak (aC (T:=xH) ([.s t.s,.b true]) rfl (b3) rfl rfl (aU rfl) rfl) ?_
   conv=>whnf
   have AL:(List.set σ3 σ1.length ⟨0,false,.cells 71 [.s t.s,.b true]⟩)[bx]? =_:=aK (cbx3) (by omega) _
   have fx:(List.set σ3 σ1.length ⟨0,false,.cells 71 [.s t.s,.b true]⟩)[xo]? =some (AA nm A false .sl0 ln):=aK (cx3) (by omega) _
   have fc:(List.set σ3 σ1.length ⟨0,false,.cells 71 [.s t.s,.b true]⟩)[σ1.length]? =some ⟨0,false,.cells 71 [.s t.s,.b true]⟩:=at_set (b3) _
   have fX:aN p σ (List.set σ3 σ1.length ⟨0,false,.cells 71 [.s t.s,.b true]⟩):=(xx).bJ (bV.bT _ _ _ _) (by omega)
   have fa:lG B (List.set σ3 σ1.length ⟨0,false,.cells 71 [.s t.s,.b true]⟩) A acc:=ha.keep (Nat.le_refl _) fun i a hi hh=>fX.get (by omega) hh
   have kS:=k3.bT b3 (by decide) (by decide) ⟨0,false,.cells 71 [.s t.s,.b true]⟩
   generalize List.set σ3 σ1.length ⟨0,false,.cells 71 [.s t.s,.b true]⟩=S at AL fx fc fX fa kS ⊢
   have lX:=fX.len
   rcases hsl with rfl | ⟨oo,gg,kk,rfl⟩
   all_goals
        refine ak (aj (T:=dY) rfl rfl (ah (AL)) rfl) ?_
        conv=>whnf
        refine ak (aj (T:=dY) rfl rfl (ah (AL)) rfl) ?_
        conv=>whnf
        refine ak (aj (T:=qE) rfl rfl (ah (fx)) rfl) ?_
        conv=>whnf
        refine ak (gU (T:=gG) rfl rfl (ah (fc)) (aU rfl)) ?_
        conv=>whnf
        refine⟨?_,?_⟩
        ·conv=>whnf
         refine ak (aj (T:=dY) rfl rfl (ah (at_new AL _ _)) rfl) ?_
         rfl
        conv=>whnf
        refine⟨?_,?_⟩
        ·conv=>whnf
         refine ak (aj (T:=dY) rfl rfl (ah (at_new AL _ _)) rfl) ?_
         rfl
        conv=>whnf
        refine⟨?_,?_⟩
        ·conv=>whnf
         refine ak (aj (T:=qE) rfl rfl (ah (at_new fx _ _)) rfl) ?_
         rfl
        conv=>whnf
        refine CU (B:=B) (fa.keep (Nat.le_refl _) fun i a hi ha=>at_new ha _ _) (t.s,true) (by omega) (aG _ _ _) (by rw [aH];omega) fun o3 g3 k3 s3 ha3 hb3 hl3 hk3=>?_
        rw [aH] at hl3
        have gbx:s3[bx]? =_:=(hb3 bx (by omega)).trans (at_new AL _ _)
        have gx:s3[xo]? =_:=(hb3 xo (by omega)).trans (at_new fx _ _)
        have kT:=(kS.new _ _).AB hk3
        conv=>whnf
        refine⟨?_,?_⟩
        ·conv=>whnf
         refine ak (aj (T:=dY) rfl rfl (ah (gbx)) rfl) ?_
         rfl
        conv=>whnf
        refine ak (aC (T:=qE) ([.s nm,.sl o3 g3 0 k3 2,.b false,.sl0,.i .i64 ln]) rfl (gx) rfl rfl (aU rfl) rfl) ?_
        conv=>whnf
        have JJ:dO p xo B σ (s3.set xo (AA nm (.sl o3 g3 0 k3 2) false .sl0 ln)):=⟨by rw [gK];omega,fun i hi o_ hix=>by rw [rZ (fun e=>hix e.symm),hb3 i hi,eu (by omega),fX.old i (by omega) o_]⟩
        have k4:=kT.bT gx (by decide) (by decide) (AA nm (.sl o3 g3 0 k3 2) false .sl0 ln)
        exact h.ne_of k4 (.inl (by omega)) (hQ _ _ _ JJ k4 hr2 (at_set gx _) (ha3.keep (Nat.le_refl _) fun i a hi ha=>aK ha (by omega) _))
  ·have VH:aY dA (t2 :: r2)=false:=hi
   have hQ:P1q p w g all B xo nm ln σ d acc Q (.ok (t.s,false) (t2 :: r2)):=by
        simp only [VH,if_neg Bool.false_ne_true] at hQ;exact hQ
   conv=>whnf
   refine ak (aC (T:=xH) ([.s t.s,.b false]) rfl (b2) rfl rfl (aU rfl) rfl) ?_
   conv=>whnf
   have AL:(List.set σ2 σ1.length ⟨0,false,.cells 71 [.s t.s,.b false]⟩)[bx]? =_:=aK (CQ) (by omega) _
   have fx:(List.set σ2 σ1.length ⟨0,false,.cells 71 [.s t.s,.b false]⟩)[xo]? =some (AA nm A false .sl0 ln):=aK (cx) (by omega) _
   have fc:(List.set σ2 σ1.length ⟨0,false,.cells 71 [.s t.s,.b false]⟩)[σ1.length]? =some ⟨0,false,.cells 71 [.s t.s,.b false]⟩:=at_set (b2) _
   have fX:aN p σ (List.set σ2 σ1.length ⟨0,false,.cells 71 [.s t.s,.b false]⟩):=(y1.trans (aN.of x2)).bJ (bV.bT _ _ _ _) (by omega)
   have fa:lG B (List.set σ2 σ1.length ⟨0,false,.cells 71 [.s t.s,.b false]⟩) A acc:=ha.keep (Nat.le_refl _) fun i a hi hh=>fX.get (by omega) hh
   have kS:=k2.bT b2 (by decide) (by decide) ⟨0,false,.cells 71 [.s t.s,.b false]⟩
   generalize List.set σ2 σ1.length ⟨0,false,.cells 71 [.s t.s,.b false]⟩=S at AL fx fc fX fa kS ⊢
   have lX:=fX.len
   rcases hsl with rfl | ⟨oo,gg,kk,rfl⟩
   all_goals
        refine ak (aj (T:=dY) rfl rfl (ah (AL)) rfl) ?_
        conv=>whnf
        refine ak (aj (T:=dY) rfl rfl (ah (AL)) rfl) ?_
        conv=>whnf
        refine ak (aj (T:=qE) rfl rfl (ah (fx)) rfl) ?_
        conv=>whnf
        refine ak (gU (T:=gG) rfl rfl (ah (fc)) (aU rfl)) ?_
        conv=>whnf
        refine⟨?_,?_⟩
        ·conv=>whnf
         refine ak (aj (T:=dY) rfl rfl (ah (at_new AL _ _)) rfl) ?_
         rfl
        conv=>whnf
        refine⟨?_,?_⟩
        ·conv=>whnf
         refine ak (aj (T:=dY) rfl rfl (ah (at_new AL _ _)) rfl) ?_
         rfl
        conv=>whnf
        refine⟨?_,?_⟩
        ·conv=>whnf
         refine ak (aj (T:=qE) rfl rfl (ah (at_new fx _ _)) rfl) ?_
         rfl
        conv=>whnf
        refine CU (B:=B) (fa.keep (Nat.le_refl _) fun i a hi ha=>at_new ha _ _) (t.s,false) (by omega) (aG _ _ _) (by rw [aH];omega) fun o3 g3 k3 s3 ha3 hb3 hl3 hk3=>?_
        rw [aH] at hl3
        have gbx:s3[bx]? =_:=(hb3 bx (by omega)).trans (at_new AL _ _)
        have gx:s3[xo]? =_:=(hb3 xo (by omega)).trans (at_new fx _ _)
        have kT:=(kS.new _ _).AB hk3
        conv=>whnf
        refine⟨?_,?_⟩
        ·conv=>whnf
         refine ak (aj (T:=dY) rfl rfl (ah (gbx)) rfl) ?_
         rfl
        conv=>whnf
        refine ak (aC (T:=qE) ([.s nm,.sl o3 g3 0 k3 2,.b false,.sl0,.i .i64 ln]) rfl (gx) rfl rfl (aU rfl) rfl) ?_
        conv=>whnf
        have JJ:dO p xo B σ (s3.set xo (AA nm (.sl o3 g3 0 k3 2) false .sl0 ln)):=⟨by rw [gK];omega,fun i hi o_ hix=>by rw [rZ (fun e=>hix e.symm),hb3 i hi,eu (by omega),fX.old i (by omega) o_]⟩
        have k4:=kT.bT gx (by decide) (by decide) (AA nm (.sl o3 g3 0 k3 2) false .sl0 ln)
        exact h.ne_of k4 (.inl (by omega)) (hQ _ _ _ JJ k4 jE (at_set gx _) (ha3.keep (Nat.le_refl _) fun i a hi ha=>aK ha (by omega) _))
 ·simp only [fA,if_neg hk1] at hQ
  have hQ:P1q p w g all B xo nm ln σ d acc Q (.bad 4 t.l):=hQ
  have l1:=y1.len
  conv=>whnf
  refine ak (aC (T:=gG) ([.s [],.b false]) rfl (aG _ _ _) rfl rfl (aU rfl) rfl) ?_
  have x2:Ext σ1 ((newCells 71 gG.zero.cells σ1).set σ1.length ⟨0,false,.cells 71 [.s [],.b false]⟩):=((Ext.refl σ1).new _ _).set (Nat.le_refl _) _
  have b2:((newCells 71 gG.zero.cells σ1).set σ1.length ⟨0,false,.cells 71 [.s [],.b false]⟩)[σ1.length]? =_:=at_set (aG _ _ _) _
  have l2:((newCells 71 gG.zero.cells σ1).set σ1.length ⟨0,false,.cells 71 [.s [],.b false]⟩).length=σ1.length+1:=by rw [gK,aH]
  generalize (newCells 71 gG.zero.cells σ1).set σ1.length ⟨0,false,.cells 71 [.s [],.b false]⟩=σ2 at b2 x2 l2 ⊢
  conv=>whnf
  have k2:=k1.ext x2
  have c1:=x2.get (y1.get (by omega) hb1)
  have CQ:=x2.get (y1.get (by omega) hbx)
  have cx:=x2.get (y1.get (by omega) hx)
  refine ak (aj (T:=bf) rfl rfl (ah (c1)) rfl) ?_
  conv=>whnf
  refine au.to (ni [112,116,114] k2) ?_
  conv=>whnf
  refine ak (aC (T:=xH) ([.s [],.b false]) rfl (b2) rfl rfl (aU rfl) rfl) ?_
  conv=>whnf
  have AL:(List.set σ2 σ1.length ⟨0,false,.cells 71 [.s [],.b false]⟩)[bx]? =_:=aK (CQ) (by omega) _
  have fx:(List.set σ2 σ1.length ⟨0,false,.cells 71 [.s [],.b false]⟩)[xo]? =some (AA nm A false .sl0 ln):=aK (cx) (by omega) _
  have fc:(List.set σ2 σ1.length ⟨0,false,.cells 71 [.s [],.b false]⟩)[σ1.length]? =some ⟨0,false,.cells 71 [.s [],.b false]⟩:=at_set (b2) _
  have fX:aN p σ (List.set σ2 σ1.length ⟨0,false,.cells 71 [.s [],.b false]⟩):=(y1.trans (aN.of x2)).bJ (bV.bT _ _ _ _) (by omega)
  have fa:lG B (List.set σ2 σ1.length ⟨0,false,.cells 71 [.s [],.b false]⟩) A acc:=ha.keep (Nat.le_refl _) fun i a hi hh=>fX.get (by omega) hh
  have kS:=k2.bT b2 (by decide) (by decide) (by decide) ⟨0,false,.cells 71 [.s [],.b false]⟩
  generalize List.set σ2 σ1.length ⟨0,false,.cells 71 [.s [],.b false]⟩=S at AL fx fc fX fa kS ⊢
  have lX:=fX.len
  rcases hsl with rfl | ⟨oo,gg,kk,rfl⟩
  all_goals
   refine ak (aj (T:=dY) rfl rfl (ah (AL)) rfl) ?_
   conv=>whnf
   refine ak (aj (T:=dY) rfl rfl (ah (AL)) rfl) ?_
   conv=>whnf
   refine ak (aj (T:=qE) rfl rfl (ah (fx)) rfl) ?_
   conv=>whnf
   refine ak (gU (T:=gG) rfl rfl (ah (fc)) (aU rfl)) ?_
   conv=>whnf
   refine⟨?_,?_⟩
   ·conv=>whnf
    refine ak (aj (T:=dY) rfl rfl (ah (at_new AL _ _)) rfl) ?_
    rfl
   conv=>whnf
   refine⟨?_,?_⟩
   ·conv=>whnf
    refine ak (aj (T:=dY) rfl rfl (ah (at_new AL _ _)) rfl) ?_
    rfl
   conv=>whnf
   refine⟨?_,?_⟩
   ·conv=>whnf
    refine ak (aj (T:=qE) rfl rfl (ah (at_new fx _ _)) rfl) ?_
    rfl
   conv=>whnf
   refine CU (B:=B) (fa.keep (Nat.le_refl _) fun i a hi ha=>at_new ha _ _) ([],false) (by omega) (aG _ _ _) (by rw [aH];omega) fun o3 g3 k3 s3 ha3 hb3 hl3 hk3=>?_
   rw [aH] at hl3
   have gbx:s3[bx]? =_:=(hb3 bx (by omega)).trans (at_new AL _ _)
   have gx:s3[xo]? =_:=(hb3 xo (by omega)).trans (at_new fx _ _)
   have kT:=(kS.new _ _).AB hk3
   conv=>whnf
   refine⟨?_,?_⟩
   ·conv=>whnf
    refine ak (aj (T:=dY) rfl rfl (ah (gbx)) rfl) ?_
    rfl
   conv=>whnf
   refine ak (aC (T:=qE) ([.s nm,.sl o3 g3 0 k3 2,.b false,.sl0,.i .i64 ln]) rfl (gx) rfl rfl (aU rfl) rfl) ?_
   conv=>whnf
   have JJ:dO p xo B σ (s3.set xo (AA nm (.sl o3 g3 0 k3 2) false .sl0 ln)):=⟨by rw [gK];omega,fun i hi o_ hix=>by rw [rZ (fun e=>hix e.symm),hb3 i hi,eu (by omega),fX.old i (by omega) o_]⟩
   have k4:=kT.bT gx (by decide) (by decide) (by decide) (AA nm (.sl o3 g3 0 k3 2) false .sl0 ln)
   have q:=hQ _ _ JJ k4 (at_set gx _) (.inr ⟨_,_,_,rfl⟩)
   obtain⟨w2,g2,all2,m2,fo,fg,j1,j2,j3⟩:=k4
   exact h.ne_of j1 (.inr (by simp)) q
theorem par1_b (d c l B xo bx b1:Nat)(nm:List UInt8)(ln:Nat)(acc:List (List UInt8×Bool))(A:AV)(σ1:St)(Q:AV→St→Prop)(h:PB p σ1 d c l)(hlt:p<B∧xo<B∧bx<B∧b1<B)(hne:xo≠p∧bx≠p∧b1≠p∧bx≠xo∧b1≠xo)(hB:B≤σ1.length)
 (hbx:σ1[bx]? =some ⟨0,false,.cells 64 [.p xo 0 0]⟩) (hb1:σ1[b1]? =some ⟨0,false,.cells 85 [.p p 0 0]⟩) (hx:σ1[xo]? =some (AA nm A false .sl0 ln)) (ha:lG B σ1 A acc) (hs:acc.length≤40001)
 (hQ:∀A' σ',dO p xo B σ1 σ'→PB p σ' d c l→σ'[xo]? =some (AA nm A' false .sl0 ln)→slP A'→Q (.tu []) σ'):au X 58 [.p b1 0 0,.p bx 0 0] σ1 Q:=by
 have hsl:=ha.sl
 have hpl:=PB.lt h
 have hQ0:=hQ A σ1 (.refl _ _ _ _) h hx hsl
 refine au.body (F:=F58) ay (lit:=false) rfl rfl (aU rfl) ?_
 conv=>whnf
 refine ak (aj (T:=bf) rfl rfl (ah (hb1)) rfl) ?_
 conv=>whnf
 refine au.to (Jc h) ?_
 conv=>whnf
 refine ak (aC (T:=gG) ([.s [],.b false]) rfl (aG _ _ _) rfl rfl (aU rfl) rfl) ?_
 have x2:Ext σ1 ((newCells 71 gG.zero.cells σ1).set σ1.length ⟨0,false,.cells 71 [.s [],.b false]⟩):=((Ext.refl σ1).new _ _).set (Nat.le_refl _) _
 have b2:((newCells 71 gG.zero.cells σ1).set σ1.length ⟨0,false,.cells 71 [.s [],.b false]⟩)[σ1.length]? =_:=at_set (aG _ _ _) _
 have l2:((newCells 71 gG.zero.cells σ1).set σ1.length ⟨0,false,.cells 71 [.s [],.b false]⟩).length=σ1.length+1:=by rw [gK,aH]
 generalize (newCells 71 gG.zero.cells σ1).set σ1.length ⟨0,false,.cells 71 [.s [],.b false]⟩=σ2 at b2 x2 l2 ⊢
 conv=>whnf
 have k2:=h.ext x2
 have c1:=x2.get hb1
 have CQ:=x2.get hbx
 have cx:=x2.get hx
 refine ak (aj (T:=bf) rfl rfl (ah (c1)) rfl) ?_
 conv=>whnf
 refine au.to (ni [112,116,114] k2) ?_
 conv=>whnf
 refine ak (aC (T:=xH) ([.s [],.b false]) rfl (b2) rfl rfl (aU rfl) rfl) ?_
 conv=>whnf
 have AL:(List.set σ2 σ1.length ⟨0,false,.cells 71 [.s [],.b false]⟩)[bx]? =_:=aK (CQ) (by omega) _
 have fx:(List.set σ2 σ1.length ⟨0,false,.cells 71 [.s [],.b false]⟩)[xo]? =some (AA nm A false .sl0 ln):=aK (cx) (by omega) _
 have fc:(List.set σ2 σ1.length ⟨0,false,.cells 71 [.s [],.b false]⟩)[σ1.length]? =some ⟨0,false,.cells 71 [.s [],.b false]⟩:=at_set (b2) _
 have fX:aN p σ1 (List.set σ2 σ1.length ⟨0,false,.cells 71 [.s [],.b false]⟩):=(aN.of x2).bJ (bV.bT _ _ _ _) (by omega)
 have fa:lG B (List.set σ2 σ1.length ⟨0,false,.cells 71 [.s [],.b false]⟩) A acc:=ha.keep (Nat.le_refl _) fun i a hi hh=>fX.get (by omega) hh
 have kS:=k2.bT b2 (by decide) (by decide) (by decide) ⟨0,false,.cells 71 [.s [],.b false]⟩
 generalize List.set σ2 σ1.length ⟨0,false,.cells 71 [.s [],.b false]⟩=S at AL fx fc fX fa kS ⊢
 have lX:=fX.len
 rcases hsl with rfl | ⟨oo,gg,kk,rfl⟩
 all_goals
  refine ak (aj (T:=dY) rfl rfl (ah (AL)) rfl) ?_
  conv=>whnf
  refine ak (aj (T:=dY) rfl rfl (ah (AL)) rfl) ?_
  conv=>whnf
  refine ak (aj (T:=qE) rfl rfl (ah (fx)) rfl) ?_
  conv=>whnf
  refine ak (gU (T:=gG) rfl rfl (ah (fc)) (aU rfl)) ?_
  conv=>whnf
  refine⟨?_,?_⟩
  ·conv=>whnf
   refine ak (aj (T:=dY) rfl rfl (ah (at_new AL _ _)) rfl) ?_
   rfl
  conv=>whnf
  refine⟨?_,?_⟩
  ·conv=>whnf
   refine ak (aj (T:=dY) rfl rfl (ah (at_new AL _ _)) rfl) ?_
   rfl
  conv=>whnf
  refine⟨?_,?_⟩
  ·conv=>whnf
   refine ak (aj (T:=qE) rfl rfl (ah (at_new fx _ _)) rfl) ?_
   rfl
  conv=>whnf
  refine CU (B:=B) (fa.keep (Nat.le_refl _) fun i a hi ha=>at_new ha _ _) ([],false) (by omega) (aG _ _ _) (by rw [aH];omega) fun o3 g3 k3 s3 ha3 hb3 hl3 hk3=>?_
  rw [aH] at hl3
  have gbx:s3[bx]? =_:=(hb3 bx (by omega)).trans (at_new AL _ _)
  have gx:s3[xo]? =_:=(hb3 xo (by omega)).trans (at_new fx _ _)
  have kT:=(kS.new _ _).AB hk3
  conv=>whnf
  refine⟨?_,?_⟩
  ·conv=>whnf
   refine ak (aj (T:=dY) rfl rfl (ah (gbx)) rfl) ?_
   rfl
  conv=>whnf
  refine ak (aC (T:=qE) ([.s nm,.sl o3 g3 0 k3 2,.b false,.sl0,.i .i64 ln]) rfl (gx) rfl rfl (aU rfl) rfl) ?_
  conv=>whnf
  have JJ:dO p xo B σ1 (s3.set xo (AA nm (.sl o3 g3 0 k3 2) false .sl0 ln)):=⟨by rw [gK];omega,fun i hi o_ hix=>by rw [rZ (fun e=>hix e.symm),hb3 i hi,eu (by omega),fX.old i (by omega) o_]⟩
  have k4:=kT.bT gx (by decide) (by decide) (by decide) (AA nm (.sl o3 g3 0 k3 2) false .sl0 ln)
  exact lZ (hQ _ _ JJ k4 (at_set gx _) (.inr ⟨_,_,_,rfl⟩)) fun _=>hQ0
end
end Go.Abs.YtlkfbfhkcaldlaaGreatDoor
