/- Texts of this claim, joined: Pk, Pl, Pm, Pn. -/
import Derived.Test.YtobmjhfgmhfocaaGreatDoorM19
set_option linter.unusedVariables false
set_option linter.unusedSimpArgs false
namespace Go.bK.YtobmjhfgmhfocaaGreatDoor
open Go.Proofs
set_option maxRecDepth 4000
def PSs (p w g:Nat)(all:List Tok)(σ:St)(d:Nat)(Q:AV→St→Prop):Re IK→Prop
 | .ok l ts=>∀A σ' m',aS p σ σ'→PW p w g all σ' m' d .p0→all.drop m'= ts→iF (fun i=>σ.length≤i) σ' A l→I5 A→Q A σ'
 | .bad c l=>∀A σ',aS p σ σ'→PB p σ' d c l→I5 A→Q A σ'
 | .out=>True
def mY (p w g:Nat)(all:List Tok)(σ:St)(d:Nat)(Q:AV→St→Prop):Re Sm→Prop
 | .ok s ts=>∀o g' σ' m',aS p σ σ'→PW p w g all σ' m' d .p0→all.drop m'= ts→oO (fun i=>σ.length≤i) σ' (.p o g' 0) s→Q (.p o g' 0) σ'
 | .bad c l=>∀o g' σ',aS p σ σ'→PB p σ' d c l→Q (.p o g' 0) σ'
 | .out=>True
def PQs (p w g:Nat)(all:List Tok)(B bp bl:Nat)(σ:St)(d:Nat)(acc:List Sm)(Q:Out→Env→St→Prop):Re IK→Prop
 | .ok xs ts=>∀A' σ' m' e',get e' 0= .p bp 0 0→dI p bl B σ σ'→PW p w g all σ' m' d .p0→all.drop m'= ts→σ'[bl]? =some ⟨0,false,.cells 69 [A']⟩→EW B σ' A' (acc ++ Ei xs)→Q (.exit 0) e' σ'
 | .bad c l=>∀A' σ' e',get e' 0= .p bp 0 0→dI p bl B σ σ'→PB p σ' d c l→σ'[bl]? =some ⟨0,false,.cells 69 [A']⟩→I5 A'→Q (.exit 0) e' σ'
 | .out=>True
structure WQ (p w g:Nat)(all:List Tok)(n:Nat):Prop where
 block:∀(d:Nat) (σ:St) (m:Nat) (Q:AV→St→Prop),PW p w g all σ m d .p0→d≤64→bg (all.drop m)→10*(all.drop m).length+10≤n→PSs p w g all σ d Q (fB n d (all.drop m))→ay X 77 [.p p 0 0] σ Q
 branch:∀(d line:Nat) (σ:St) (m:Nat) (Q:AV→St→Prop),PW p w g all σ m d .p0→d≤64→bg (all.drop m)→10*(all.drop m).length+12≤n→mY p w g all σ d Q (jF n d line (all.drop m))→ay X 147 [.p p 0 0,.i .i64 line] σ Q
 stmt:∀(d:Nat) (σ:St) (m:Nat) (Q:AV→St→Prop),PW p w g all σ m d .p0→d≤64→bg (all.drop m)→10*(all.drop m).length+14≤n→mY p w g all σ d Q (uX n d (all.drop m))→ay X 116 [.p p 0 0] σ Q
def uD (p w g:Nat)(all:List Tok)(n:Nat):Prop:=∀(d B bp bl:Nat),d≤64→(p<B∧w<B∧bp<B∧bl<B)→(bp≠p∧bl≠p∧bp≠bl)→
 ∀ (acc:List Sm) (A:AV) (σ:St) (m:Nat) (Q:Out→Env→St→Prop),PW p w g all σ m d .p0→B≤σ.length→σ[bp]? =some ⟨0,false,.cells 100 [.p p 0 0]⟩→σ[bl]? =some ⟨0,false,.cells 69 [A]⟩→EW B σ A acc→bg (all.drop m)→10*(all.drop m).length+15≤n→acc.length+(all.drop m).length≤40001→PQs p w g all B bp bl σ d acc Q (jf n d (all.drop m))→b_ X [0,1] MP [(0,.p bp 0 0),(1,.p bl 0 0)] σ Q
section
variable {p w g:Nat} {all:List Tok} {n:Nat}
theorem wu {d c l bp bl:Nat} {σ:St} {Q:Out→Env→St→Prop} (h:PB p σ d c l)(hbp:σ[bp]? =some ⟨0,false,.cells 100 [.p p 0 0]⟩)
 (q:∀e',get e' 0= .p bp 0 0→Q (.exit 0) e' σ):b_ X [0,1] MP [(0,.p bp 0 0),(1,.p bl 0 0)] σ Q:=by
 refine b_.round aC (lit:=false) ?_
 conv=>whnf
 refine ak (aj (T:=aU) rfl rfl (ah (hbp)) rfl) ?_
 conv=>whnf
 refine ay.to (sW h) ?_
 conv=>whnf
 exact q _ rfl
theorem ZP (ih:WQ p w g all n)(ihS:uD p w g all n):uD p w g all (n+1):=by
 intro d B bp bl hd hlt hne acc A σ m Q h hB hbp hbl ha he hn hs hQ
 obtain⟨t,r,hts⟩:=he.ne
 obtain⟨ht,hr⟩:=bZ hts
 unfold jf at hQ
 rw [hts] at hQ
 have hsl:I5 A:=by obtain⟨cs,hr,_⟩:=ha;exact hr.sl
 refine b_.round aC (lit:=false) ?_
 conv=>whnf
 refine ak (aj (T:=aU) rfl rfl (ah (hbp)) rfl) ?_
 conv=>whnf
 refine ay.to (lV h) ?_
 conv=>whnf
 refine ak (aj (T:=aU) rfl rfl (ah (hbp)) rfl) ?_
 conv=>whnf
 have b1:(au 9 [.s [125]] σ)[σ.length]? =some ⟨0,false,.cells 9 [.s [125]]⟩:=aI _ _ _
 have x1:Ext σ (au 9 [.s [125]] σ):=(Ext.refl σ).new _ _
 have l1:(au 9 [.s [125]] σ).length=σ.length+1:=aO _ _ _
 generalize au 9 [.s [125]] σ=σ1 at b1 x1 l1 ⊢
 have h1:=h.ext x1
 have y1:dI p bl B σ σ1:=.of (aS.of x1) hB
 have c1:=x1.get hbp
 have c2:=x1.get hbl
 have ha1:EW B σ1 A acc:=ha.keep fun i a _ ha=>x1.get ha
 refine ay.to (A8 [[125]] h1 ht σ.length 0 (ah b1) (Nat.le_of_ble_eq_true rfl)) ?_
 conv=>whnf
 rw [jC]
 cases hi:gW [125] t with
 | true=>
   rw [if_pos (show bV [125] (t :: r)=true from hi)] at hQ
   conv=>whnf
   exact hQ A σ1 m _ rfl y1 h1 hts c2 (by rw [show acc ++ Ei .nil=acc from List.append_nil acc];exact ha1)
 | false=>
   rw [if_neg (by rw [show bV [125] (t :: r)=gW [125] t from rfl,hi];decide),←hts] at hQ
   have hg:=(ER n).stmt d (all.drop m) he (by omega)
   conv=>whnf
   rcases hsl with rfl | ⟨oo,gg,kk,rfl⟩
   all_goals
    refine ak (aj (T:=gq) rfl rfl (ah (c2)) rfl) ?_
    conv=>whnf
    refine ak (aj (T:=aU) rfl rfl (ah (c1)) rfl) ?_
    conv=>whnf
    refine ih.stmt d σ1 m _ h1 hd he (by omega) ?_
    generalize uX n d (all.drop m)=r1 at hg hQ
    cases r1 with
    | out=>exact hg.elim
    | bad c l=>
      intro oy gy s y k
      have e1:=y.get hne.1 c1
      have e2:=y.get hne.2.1 c2
      have ly:=y.len
      conv=>whnf
      refine⟨?_,?_⟩
      ·conv=>whnf
       refine ak (aj (T:=gq) rfl rfl (ah (e2)) rfl) ?_
       rfl
      conv=>whnf
      refine⟨?_,?_⟩
      ·conv=>whnf
       refine ak (aj (T:=gq) rfl rfl (ah (at_new e2 _ _)) rfl) ?_
       rfl
      conv=>whnf
      refine Lm (D:=s.length) ha1 y hlt.1 (by omega) (Nat.le_refl _) ly (by omega) oy gy fun o3 g3 zy s3 e3 l3 kT kA=>?_
      have f2:s3[bl]? =_:=(e3 bl hlt.2.2.2).trans e2
      have f1:s3[bp]? =_:=(e3 bp hlt.2.2.1).trans e1
      have k3:=k.IW kT
      conv=>whnf
      refine ak (aG (T:=gq) ([.sl o3 g3 0 zy 1]) rfl (f2) rfl rfl (Nat.le_of_ble_eq_true rfl) rfl) ?_
      conv=>whnf
      have k4:=k3.bT f2 (by decide) (by decide) (by decide) ⟨0,false,.cells 69 [.sl o3 g3 0 zy 1]⟩
      have yy:dI p bl B σ (s3.set bl ⟨0,false,.cells 69 [.sl o3 g3 0 zy 1]⟩):=y1.trans ⟨by rw [List.length_set];omega,fun i hi nY hix=>by rw [List.getElem?_set_ne (fun e=>hix e.symm),e3 i hi,y.old i (by omega) nY]⟩
      exact wu k4 (aP f1 hne.2.2.symm _) fun e' e0=>hQ _ _ e' e0 yy k4 (at_set f2 _) (.inr ⟨_,_,_,rfl⟩)
    | ok y0 dK=>
      intro oy gy s m2 y k hm2 Ld
      have e1:=y.get hne.1 c1
      have e2:=y.get hne.2.1 c2
      have ly:=y.len
      have hQ:PQs p w g all B bp bl σ d acc Q ((jf n d dK).bind fun l ts=>.ok (.cons y0 l) ts):=hQ
      rw [←hm2] at hQ hg
      have lg:=hg.2.2
      conv=>whnf
      refine⟨?_,?_⟩
      ·conv=>whnf
       refine ak (aj (T:=gq) rfl rfl (ah (e2)) rfl) ?_
       rfl
      conv=>whnf
      refine⟨?_,?_⟩
      ·conv=>whnf
       refine ak (aj (T:=gq) rfl rfl (ah (at_new e2 _ _)) rfl) ?_
       rfl
      conv=>whnf
      refine Lm (D:=σ1.length) ha1 y hlt.1 (by omega) ly (Nat.le_refl _) (by omega) oy gy fun o3 g3 zy s3 e3 l3 kT kA=>?_
      have f2:s3[bl]? =_:=(e3 bl hlt.2.2.2).trans e2
      have f1:s3[bp]? =_:=(e3 bp hlt.2.2.1).trans e1
      have k3:=k.IW kT
      conv=>whnf
      refine ak (aG (T:=gq) ([.sl o3 g3 0 zy 1]) rfl (f2) rfl rfl (Nat.le_of_ble_eq_true rfl) rfl) ?_
      conv=>whnf
      have k4:=k3.bT f2 (by decide) (by decide) ⟨0,false,.cells 69 [.sl o3 g3 0 zy 1]⟩
      have yy:dI p bl B σ (s3.set bl ⟨0,false,.cells 69 [.sl o3 g3 0 zy 1]⟩):=y1.trans ⟨by rw [List.length_set];omega,fun i hi nY hix=>by rw [List.getElem?_set_ne (fun e=>hix e.symm),e3 i hi,y.old i (by omega) nY]⟩
      refine ihS d B bp bl hd hlt hne (acc ++ [y0]) _ _ m2 Q k4 (by rw [List.length_set];omega) (aP f1 hne.2.2.symm _) (at_set f2 _) ((kA y0 Ld).keep fun i a hi ha=>aP ha (by omega) _) hg.2.1 (by omega) (by rw [List.length_append];simp only [List.length_cons,List.length_nil];omega) ?_
      generalize jf n d (all.drop m2)=r2 at hQ
      cases r2 with
      | out=>trivial
      | bad c l=>exact fun A4 iR e' q0 x4=>hQ A4 iR e' q0 (yy.trans x4)
      | ok xs ZF=>exact fun A4 iR m4 e' q0 x4 h4 hm4 hx4 WE=>hQ A4 iR m4 e' q0 (yy.trans x4) h4 hm4 hx4 (by rw [List.append_assoc] at WE;exact WE)
theorem ZQ (ihS:uD p w g all n)(d:Nat)(σ:St)(m:Nat)(Q:AV→St→Prop)(h:PW p w g all σ m d .p0)(hd:d≤64)(he:bg (all.drop m))(hn:10*(all.drop m).length+10≤n+1)(hQ:PSs p w g all σ d Q (fB (n+1) d (all.drop m))):ay X 77 [.p p 0 0] σ Q:=by
 obtain⟨t,r,hts⟩:=he.ne
 obtain⟨ht,hr⟩:=bZ hts
 have hpl:=bQ h.obj
 have hwl:=bQ h.tok
 have hal:=h.len
 have hm:=h.at_
 have hlr:(all.drop m).length=r.length+1:=by rw [hts];rfl
 unfold fB jc at hQ
 rw [hts] at hQ
 refine ay.body (F:=F77) aC (lit:=false) rfl rfl (Nat.le_of_ble_eq_true rfl) ?_
 conv=>whnf
 have b1:(au 100 (AV.p p 0 0).cells σ)[σ.length]? =some ⟨0,false,.cells 100 [.p p 0 0]⟩:=aI _ _ _
 have x1:Ext σ (au 100 (AV.p p 0 0).cells σ):=(Ext.refl σ).new _ _
 have l1:(au 100 (AV.p p 0 0).cells σ).length=σ.length+1:=aO _ _ _
 generalize au 100 (AV.p p 0 0).cells σ=σ1 at b1 x1 l1 ⊢
 have b2:(au 69 gq.zero.cells σ1)[σ1.length]? =some ⟨0,false,.cells 69 [.sl0]⟩:=aI _ _ _
 have x2:Ext σ1 (au 69 gq.zero.cells σ1):=(Ext.refl σ1).new _ _
 have l2:(au 69 gq.zero.cells σ1).length=σ1.length+1:=aO _ _ _
 generalize au 69 gq.zero.cells σ1=σ2 at b2 x2 l2 ⊢
 have xx:=x1.trans x2
 have h2:=h.ext xx
 have c1:=x2.get b1
 refine ak (aj (T:=aU) rfl rfl (ah (c1)) rfl) ?_
 conv=>whnf
 refine ay.mono (Q:=fun v s=>v= .tu []∧∃A,I5 A∧s[σ1.length]? =some ⟨0,false,.cells 69 [A]⟩∧Fin σ A s Q) ?_ fun v s q=>?_
 ·have bad:∀(c l:Nat) (s1:St),aS p σ2 s1→PB p s1 (d+1) c l→PSs p w g all σ d Q (.bad c l)→ay X 115 [.p σ.length 0 0,.p σ1.length 0 0] s1 (QI p m d (fun v s=>v= .tu []∧∃A,I5 A∧s[σ1.length]? =some ⟨0,false,.cells 69 [A]⟩∧Fin σ A s Q)):=by
   intro c l s1 y1 k1 hq
   have e1:=y1.get (by omega) c1
   refine ay.body (F:=Qm) aC (lit:=false) rfl rfl (Nat.le_of_ble_eq_true rfl) ?_
   conv=>whnf
   refine wu k1 e1 fun e' e0=>?_
   conv=>whnf
   rw [show bH.ev e' (.t 0)=get e' 0 from rfl,e0]
   conv=>whnf
   refine ak (aj (T:=aU) rfl rfl (ah (e1)) rfl) ?_
   conv=>whnf
   refine ay.to (jM [125] k1) ?_
   conv=>whnf
   have k1':=k1
   obtain⟨w2,g2,all2,m2,fo,fg,j1,j2,j3⟩:=k1'
   exact Fin.flat rfl List.take_length ⟨rfl,w2,g2,all2,m2,_,j1,.inr (by simp),fun s3 y3 j4=>⟨rfl,.sl0,.inl rfl,y3.get (by omega) (y1.get (by omega) b2),h.ne_of j4 (.inr (by simp)) (hq _ _ (((aS.of xx).trans y1).trans y3) ⟨w2,g2,all2,m2,fo,fg,j4,j2,y3.get j2 j3⟩ (.inl rfl))⟩⟩
  refine Rk [123] h2 ht hd (fun hi=>(aZ he hts hi).1) (fun hi h64 s1 y1 k1=>?_) (fun hi h64 s1 y1 k1=>?_) (fun hi s1 y1 k1=>?_)
  ·rw [if_neg (by omega),bn,if_pos (show bV [123] (t :: r)=true from hi)] at hQ
   have hQ:PSs p w g all σ d Q ((jf n (d+1) r).bind fun l ts=>(bn [125] ts).bind fun _ ts=>.ok l ts):=hQ
   obtain⟨hm1,he1,hle⟩:=aZ he hts hi
   have hg:=(ER n).stmts (d+1) (all.drop (m+1)) he1 (by rw [hr];omega)
   have hx1:aS p σ s1:=(aS.of xx).trans y1
   have e1:=y1.get (by omega) c1
   have e2:=y1.get (by omega) b2
   have ly:=y1.len
   have lx:=hx1.len
   have hall:(all.drop (m+1)).length≤40001:=by rw [List.length_drop];omega
   refine ay.body (F:=Qm) aC (lit:=false) rfl rfl (Nat.le_of_ble_eq_true rfl) ?_
   conv=>whnf
   refine ihS (d+1) s1.length σ.length σ1.length (by omega) ⟨by omega,by omega,by omega,by omega⟩ ⟨by omega,by omega,by omega⟩ [] .sl0 s1 (m+1) _ k1 (Nat.le_refl _) e1 e2 ⟨[],.inl ⟨rfl,rfl⟩,trivial⟩ he1 (by rw [hr];omega) (by simp only [List.length_nil];omega) ?_
   rw [hr] at hg ⊢
   generalize jf n (d+1) r=r1 at hg hQ
   cases r1 with
   | out=>exact hg.elim
   | bad c l=>
     intro A' s2 e' e0 y2 k2 hx2 hsl
     have f1:=y2.get (by omega) (by omega) (by omega) e1
     conv=>whnf
     rw [show bH.ev e' (.t 0)=get e' 0 from rfl,e0]
     conv=>whnf
     refine ak (aj (T:=aU) rfl rfl (ah (f1)) rfl) ?_
     conv=>whnf
     refine ay.to (jM [125] k2) ?_
     conv=>whnf
     have k2':=k2
     obtain⟨w2,g2,all2,m2,fo,fg,j1,j2,j3⟩:=k2'
     have ly2:=y2.len
     exact k1.ne_of j1 (.inr (by simp)) ⟨rfl,w2,g2,all2,m2,_,j1,.inr (by simp),fun s3 y3 j4=>⟨rfl,A',hsl,y3.get (by omega) hx2,h.ne_of j4 (.inr (by simp)) (hQ _ _ ⟨by have:=y3.len;omega,fun i hi nY=>by rw [y3.old i (by omega) nY,y2.old i (by omega) nY (by omega),hx1.old i hi nY]⟩ ⟨w2,g2,all2,m2,fo,fg,j4,j2,y3.get j2 j3⟩ hsl)⟩⟩
   | ok xs dK=>
     intro A' s2 m2 e' e0 y2 k2 hm2 hx2 ha2
     have he2:bg (all.drop m2):=by rw [hm2];exact hg.2.1
     obtain⟨t2,r2,jg⟩:=he2.ne
     obtain⟨ht2,hr2⟩:=bZ jg
     have hQ:PSs p w g all σ d Q ((bn [125] dK).bind fun _ ts=>.ok xs ts):=hQ
     rw [←hm2,jg] at hQ
     have f1:=y2.get (by omega) (by omega) (by omega) e1
     have ly2:=y2.len
     have hsl:I5 A':=by obtain⟨cs,hr,_⟩:=ha2;exact hr.sl
     have hmm:m+1≤m2:=by
      have:=hg.2.2
      rw [←hm2,←hr,List.length_drop,List.length_drop] at this
      omega
     have harg:=ha2.arg
     rw [show ([]:List Sm) ++ Ei xs=Ei xs from rfl,WH] at harg
     have fr:∀s3,aS p s2 s3→aS p σ s3:=fun s3 y3=>⟨by have:=y3.len;omega,fun i hi nY=>by rw [y3.old i (by omega) nY,y2.old i (by omega) nY (by omega),hx1.old i hi nY]⟩
     conv=>whnf
     rw [show bH.ev e' (.t 0)=get e' 0 from rfl,e0]
     conv=>whnf
     refine ak (aj (T:=aU) rfl rfl (ah (f1)) rfl) ?_
     conv=>whnf
     refine jL [125] k2 ht2 (fun hi=>(aZ he2 jg hi).1) (fun hi2 s5 y5 k5=>?_) (fun hi2 s5 y5 k5=>?_)
     ·rw [bn,if_pos (show bV [125] (t2 :: r2)=true from hi2)] at hQ
      conv=>whnf
      refine k1.ne_of k5 (.inl (by omega)) ⟨rfl,w,g,all,m2+1,_,k5,.inl (by omega),fun s3 y3 j4=>⟨rfl,A',hsl,(y5.trans y3).get (by omega) hx2,h.ne_of j4 (.inl (by omega)) (hQ _ _ _ (fr s3 (y5.trans y3)) j4 hr2 ?_ hsl)⟩⟩
      exact iF.mono (fun i hi=>by omega) (fun i hi a ha=>(y5.trans y3).get (by omega) ha) harg
     ·rw [bn,if_neg (show ¬bV [125] (t2 :: r2)=true by rw [show bV [125] (t2 :: r2)=gW [125] t2 from rfl,hi2];decide)] at hQ
      conv=>whnf
      have k5':=k5
      obtain⟨w2,g2,all2,WB,fo,fg,j1,j2,j3⟩:=k5'
      exact k1.ne_of j1 (.inr (by simp)) ⟨rfl,w2,g2,all2,WB,_,j1,.inr (by simp),fun s3 y3 j4=>⟨rfl,A',hsl,(y5.trans y3).get (by omega) hx2,h.ne_of j4 (.inr (by simp)) (hQ _ _ (fr s3 (y5.trans y3)) ⟨w2,g2,all2,WB,fo,fg,j4,j2,y3.get j2 j3⟩ hsl)⟩⟩
  ·rw [if_pos ⟨show bV [123] (t :: r)=true from hi,h64⟩] at hQ
   exact bad 3 t.l s1 y1 k1 hQ
  ·have hiw:¬bV [123] (t :: r)=true:=by rw [show bV [123] (t :: r)=gW [123] t from rfl,hi];decide
   rw [if_neg (fun e=>hiw e.1),bn,if_neg hiw] at hQ
   exact bad 4 t.l s1 y1 k1 hQ
 ·obtain⟨rfl,A,hA,q1,q2⟩:=q
  rcases hA with rfl | ⟨o,g',k,rfl⟩
  ·conv=>whnf
   refine ak (aj (T:=gq) rfl rfl (ah (q1)) rfl) ?_
   conv=>whnf
   refine ak (aG (T:=gq) ([.sl0]) rfl (q1) rfl rfl (Nat.le_of_ble_eq_true rfl) rfl) ?_
   conv=>whnf
   rw [yw q1]
   refine ak (aj (T:=gq) rfl rfl (ah (q1)) rfl) ?_
   conv=>whnf
   exact q2
  ·conv=>whnf
   refine ak (aj (T:=gq) rfl rfl (ah (q1)) rfl) ?_
   conv=>whnf
   refine ak (aG (T:=gq) ([.sl o g' 0 k 1]) rfl (q1) rfl rfl (Nat.le_of_ble_eq_true rfl) rfl) ?_
   conv=>whnf
   rw [yw q1]
   refine ak (aj (T:=gq) rfl rfl (ah (q1)) rfl) ?_
   conv=>whnf
   exact q2
theorem yx {d c l:Nat} {σ:St} (h:PB p σ d c l)(hd:d+1≤1000) {Q:AV→St→Prop} (q:∀σ',aS p σ σ'→PB p σ' d c l→Q .sl0 σ'):ay X 77 [.p p 0 0] σ Q:=by
 have hpl:=PB.lt h
 refine ay.body (F:=F77) aC (lit:=false) rfl rfl (Nat.le_of_ble_eq_true rfl) ?_
 conv=>whnf
 have b1:(au 100 (AV.p p 0 0).cells σ)[σ.length]? =some ⟨0,false,.cells 100 [.p p 0 0]⟩:=aI _ _ _
 have x1:Ext σ (au 100 (AV.p p 0 0).cells σ):=(Ext.refl σ).new _ _
 have l1:(au 100 (AV.p p 0 0).cells σ).length=σ.length+1:=aO _ _ _
 generalize au 100 (AV.p p 0 0).cells σ=σ1 at b1 x1 l1 ⊢
 have b2:(au 69 gq.zero.cells σ1)[σ1.length]? =some ⟨0,false,.cells 69 [.sl0]⟩:=aI _ _ _
 have x2:Ext σ1 (au 69 gq.zero.cells σ1):=(Ext.refl σ1).new _ _
 have l2:(au 69 gq.zero.cells σ1).length=σ1.length+1:=aO _ _ _
 generalize au 69 gq.zero.cells σ1=σ2 at b2 x2 l2 ⊢
 have xx:=x1.trans x2
 have h2:=h.ext xx
 have c1:=x2.get b1
 refine ak (aj (T:=aU) rfl rfl (ah (c1)) rfl) ?_
 conv=>whnf
 have fin:∀s,aS p σ2 s→PB p s d c l→Fin σ .sl0 s Q:=fun s y k=>yu (q _ ((aS.of xx).trans y) k) fun _=>q _ (.refl _ _) h
 refine ay.mono (Q:=fun v s=>v= .tu []∧s[σ1.length]? =some ⟨0,false,.cells 69 [.sl0]⟩∧Fin σ .sl0 s Q) ?_ fun v s q=>?_
 ·refine in_b (fun s=>aS p σ2 s) [123] h2 hd (fun s1 y1 k1=>?_) (fun s3 y3 k3=>⟨rfl,y3.get (by omega) b2,fin _ y3 k3⟩) (fun s3 y3 _=>⟨rfl,b2,fin _ (.refl _ _) h2⟩)
  have e1:=y1.get (by omega) c1
  refine ay.body (F:=Qm) aC (lit:=false) rfl rfl (Nat.le_of_ble_eq_true rfl) ?_
  conv=>whnf
  refine wu k1 e1 fun e' e0=>?_
  conv=>whnf
  rw [show bH.ev e' (.t 0)=get e' 0 from rfl,e0]
  conv=>whnf
  refine ak (aj (T:=aU) rfl rfl (ah (e1)) rfl) ?_
  conv=>whnf
  refine ay.to (jM [125] k1) ?_
  conv=>whnf
  exact Fin.flat rfl List.take_length ⟨rfl,k1,fun s3 y3 _=>y1.trans y3⟩
 ·obtain⟨rfl,q1,q2⟩:=q
  conv=>whnf
  refine ak (aj (T:=gq) rfl rfl (ah (q1)) rfl) ?_
  conv=>whnf
  refine ak (aG (T:=gq) ([.sl0]) rfl (q1) rfl rfl (Nat.le_of_ble_eq_true rfl) rfl) ?_
  conv=>whnf
  rw [yw q1]
  refine ak (aj (T:=gq) rfl rfl (ah (q1)) rfl) ?_
  conv=>whnf
  exact q2
end
end Go.bK.YtobmjhfgmhfocaaGreatDoor
namespace Go.bK.YtobmjhfgmhfocaaGreatDoor
open Go.Proofs
set_option maxRecDepth 4000
theorem uZ (v:AV)(Q:AV→Prop)(h:Q v):fc v Q:=by
 cases v with
 | b t=>cases t <;> exact h
 | _=>exact fq_of _ _ h
theorem iJ {t o g off e:Nat} {T:AT} {σ:St} {cs:List AV} {A:AV} (cs':List AV)(hA:I5 A)(hT:fK.get t=some T)(hz:T.size=1)(ho:σ[o]? =some ⟨g,false,.cells e cs⟩)(hc:off+1≤cs.length)(hs:setCells cs off [A]=cs') :
 gJ (fK.get t) (.p o g off) A σ=some (σ.set o ⟨g,false,.cells e cs'⟩):=by
 rcases hA with rfl | ⟨o',g',n,rfl⟩
 ·exact aG cs' hT ho (by rw [hz];rfl) rfl (by rw [hz];exact hc) hs
 ·exact aG cs' hT ho (by rw [hz];rfl) rfl (by rw [hz];exact hc) hs
def dG (k:Nat)(nm:List UInt8)(pt:Bool)(L R T E:AV)(ln:Nat):AO:=⟨0,false,.cells 75 [.i .i64 k,.s nm,.b pt,L,R,T,E,.i .i64 ln]⟩
theorem bW.same {p x:Nat} {σ a b:St} (h:bW p x σ a)(k:aS p a b):bW p x σ b:=h.trans (.of k)
section
variable {p w g:Nat} {all:List Tok} {n:Nat}
theorem PW.st {m d:Nat} {f:AV} {σ:St} (h:PW p w g all σ m d f) {x k ln:Nat} {nm:List UInt8} {pt:Bool} {L R T E:AV} (hx:σ[x]? =some (dG k nm pt L R T E ln))(a:AO):PW p w g all (σ.set x a) m d f:=h.bT hx (by decide) (by decide) a
theorem PB.st {d c l:Nat} {σ:St} (h:PB p σ d c l) {x k ln:Nat} {nm:List UInt8} {pt:Bool} {L R T E:AV} (hx:σ[x]? =some (dG k nm pt L R T E ln))(a:AO):PB p (σ.set x a) d c l:=h.bT hx (by decide) (by decide) (by decide) a
def PEn (p w g:Nat)(all:List Tok)(xo kd:Nat)(nm:List UInt8)(pt:Bool)(L:AV)(ln:Nat)(σ:St)(d:Nat)(Q:AV→St→Prop):Re Tr→Prop
 | .ok y ts=>∀R σ' m',bW p xo σ σ'→PW p w g all σ' m' d .p0→all.drop m'= ts→σ'[xo]? =some (dG kd nm pt L R .sl0 .sl0 ln)→dw (fun i=>σ.length≤i) σ' R y→Q (.p xo 0 0) σ'
 | .bad c l=>∀σ',bW p xo σ σ'→PB p σ' d c l→Q (.p xo 0 0) σ'
 | .out=>True
theorem ZR (ih:WP p w g all n)(d kd k0 xo xv bp ln:Nat)(nm:List UInt8)(pt:Bool)(L:AV)(σ:St)(m:Nat)(Q:AV→St→Prop)(h:PW p w g all σ m d .p0)(hd:d≤64)(he:bg (all.drop m))(hn:10*(all.drop m).length+10≤n+1)
 (hxv:σ[xv]? =some ⟨0,false,.cells 73 [.p xo 0 0]⟩) (hbp:σ[bp]? =some ⟨0,false,.cells 100 [.p p 0 0]⟩) (hx:σ[xo]? =some (dG k0 nm pt L .p0 .sl0 .sl0 ln)) (hne:xo≠p∧xv≠p∧bp≠p∧xv≠xo∧bp≠xo)
 (hQ:PEn p w g all xo kd nm pt L ln σ d Q (dJ (n+1) d (all.drop m))):ay X 145 [.i .i64 kd,.p xv 0 0,.p bp 0 0] σ Q:=by
 unfold dJ at hQ
 have hQ:PEn p w g all xo kd nm pt L ln σ d Q ((fJ n d 1 (all.drop m)).bind fun x ts=>(bn [59] ts).bind fun _ ts=>.ok x ts):=hQ
 have hg:=(sU n).expr d 1 (all.drop m) he (by omega)
 have hxl:=bQ hx
 refine ay.body (F:=Yh) aC (lit:=false) rfl rfl (Nat.le_of_ble_eq_true rfl) ?_
 conv=>whnf
 refine ak (aj (T:=dM) rfl rfl (ah (hxv)) rfl) ?_
 conv=>whnf
 refine ak (aG (T:=gZ) ([.i .i64 kd,.s nm,.b pt,L,.p0,.sl0,.sl0,.i .i64 ln]) rfl (hx) rfl rfl (Nat.le_of_ble_eq_true rfl) rfl) ?_
 conv=>whnf
 have h1:PW p w g all (σ.set xo (dG kd nm pt L .p0 .sl0 .sl0 ln)) m d .p0:=h.st hx _
 have cx:(σ.set xo (dG kd nm pt L .p0 .sl0 .sl0 ln))[xo]? =_:=at_set hx _
 have cxv:(σ.set xo (dG kd nm pt L .p0 .sl0 .sl0 ln))[xv]? =_:=aP hxv hne.2.2.2.1.symm _
 have cbp:(σ.set xo (dG kd nm pt L .p0 .sl0 .sl0 ln))[bp]? =_:=aP hbp hne.2.2.2.2.symm _
 have x1:bW p xo σ (σ.set xo (dG kd nm pt L .p0 .sl0 .sl0 ln)):=bW.bT _ _ _ _
 have l1:(σ.set xo (dG kd nm pt L .p0 .sl0 .sl0 ln)).length=σ.length:=List.length_set
 refine ak (aj (T:=dM) rfl rfl (ah (cxv)) rfl) ?_
 conv=>whnf
 refine ak (aj (T:=aU) rfl rfl (ah (cbp)) rfl) ?_
 conv=>whnf
 refine ih.expr d 1 _ m _ h1 hd (by omega) he (by omega) ?_
 generalize fJ n d 1 (all.drop m)=r1 at hg hQ
 cases r1 with
 | out=>exact hg.elim
 | bad c l=>
   intro o g' s y k
   have ex:=y.get hne.1 cx
   conv=>whnf
   refine⟨?_,?_⟩
   ·conv=>whnf
    refine ak (aj (T:=dM) rfl rfl (ah (y.get hne.2.1 cxv)) rfl) ?_
    rfl
   conv=>whnf
   refine ak (aG (T:=bY) ([.i .i64 kd,.s nm,.b pt,L,.p o g' 0,.sl0,.sl0,.i .i64 ln]) rfl (ex) rfl rfl (Nat.le_of_ble_eq_true rfl) rfl) ?_
   conv=>whnf
   have k2:=k.st ex (dG kd nm pt L (.p o g' 0) .sl0 .sl0 ln)
   refine ak (aj (T:=aU) rfl rfl (ah (aP (y.get hne.2.2.1 cbp) hne.2.2.2.2.symm _)) rfl) ?_
   conv=>whnf
   refine ay.to (jM [59] k2) ?_
   conv=>whnf
   refine ak (aj (T:=dM) rfl rfl (ah (aP (y.get hne.2.1 cxv) hne.2.2.2.1.symm _)) rfl) ?_
   conv=>whnf
   exact Fin.ref rfl (hQ _ ((x1.same y).trans (bW.bT _ _ _ _)) k2)
 | ok z dK=>
   intro o g' s m2 y k hm2 Lj
   have he2:bg (all.drop m2):=by rw [hm2];exact hg.2.1
   obtain⟨t2,r2,jg⟩:=he2.ne
   obtain⟨ht2,hr2⟩:=bZ jg
   have hQ:PEn p w g all xo kd nm pt L ln σ d Q ((bn [59] dK).bind fun _ ts=>.ok z ts):=hQ
   rw [←hm2,jg] at hQ
   have ex:=y.get hne.1 cx
   conv=>whnf
   refine⟨?_,?_⟩
   ·conv=>whnf
    refine ak (aj (T:=dM) rfl rfl (ah (y.get hne.2.1 cxv)) rfl) ?_
    rfl
   conv=>whnf
   refine ak (aG (T:=bY) ([.i .i64 kd,.s nm,.b pt,L,.p o g' 0,.sl0,.sl0,.i .i64 ln]) rfl (ex) rfl rfl (Nat.le_of_ble_eq_true rfl) rfl) ?_
   conv=>whnf
   have k2:=k.st ex (dG kd nm pt L (.p o g' 0) .sl0 .sl0 ln)
   have fx:(s.set xo (dG kd nm pt L (.p o g' 0) .sl0 .sl0 ln))[xo]? =_:=at_set ex _
   have xx:=(x1.same y).trans (bW.bT p xo s (dG kd nm pt L (.p o g' 0) .sl0 .sl0 ln))
   have hxv2:(s.set xo (dG kd nm pt L (.p o g' 0) .sl0 .sl0 ln))[xv]? =_:=aP (y.get hne.2.1 cxv) hne.2.2.2.1.symm _
   refine ak (aj (T:=aU) rfl rfl (ah (aP (y.get hne.2.2.1 cbp) hne.2.2.2.2.symm _)) rfl) ?_
   conv=>whnf
   refine jL [59] k2 ht2 (fun hi=>(aZ he2 jg hi).1) (fun hi s3 y3 k3=>?_) (fun hi s3 y3 k3=>?_)
   ·rw [bn,if_pos (show bV [59] (t2 :: r2)=true from hi)] at hQ
    conv=>whnf
    refine ak (aj (T:=dM) rfl rfl (ah (y3.get hne.2.1 hxv2)) rfl) ?_
    conv=>whnf
    refine Fin.ref rfl (hQ _ _ _ (xx.same y3) k3 hr2 (y3.get hne.1 fx) ?_)
    exact dw.mono (fun i hi=>by rw [List.length_set] at hi;exact hi) (fun i hi a ha=>y3.get (by have:=bQ h.obj;rw [List.length_set] at hi;omega) (aP ha (by rw [List.length_set] at hi;omega) _)) Lj
   ·rw [bn,if_neg (show ¬bV [59] (t2 :: r2)=true by rw [show bV [59] (t2 :: r2)=gW [59] t2 from rfl,hi];decide)] at hQ
    conv=>whnf
    refine ak (aj (T:=dM) rfl rfl (ah (y3.get hne.2.1 hxv2)) rfl) ?_
    conv=>whnf
    exact Fin.ref rfl (hQ _ (xx.same y3) k3)
theorem WI (ihE:WP p w g all n)(ih:WQ p w g all n)(d line:Nat)(σ:St)(m:Nat)(Q:AV→St→Prop)(h:PW p w g all σ m d .p0)(hd:d≤64)(he:bg (all.drop m))(hn:10*(all.drop m).length+12≤n+1)(hQ:mY p w g all σ d Q (jF (n+1) d line (all.drop m))):ay X 147 [.p p 0 0,.i .i64 line] σ Q:=by
 have hpl:=bQ h.obj
 unfold jF at hQ
 have hg:=(sU n).expr d 1 (all.drop m) he (by omega)
 refine ay.body (F:=Yi) aC (lit:=false) rfl rfl (Nat.le_of_ble_eq_true rfl) ?_
 conv=>whnf
 have b1:(au 75 (AV.ag [.i .i64 4,.s [],.b false,.p0,.p0,.sl0,.sl0,.i .i64 line]).cells σ)[σ.length]? =some ⟨0,false,.cells 75 [.i .i64 4,.s [],.b false,.p0,.p0,.sl0,.sl0,.i .i64 line]⟩:=aI _ _ _
 have x1:Ext σ (au 75 (AV.ag [.i .i64 4,.s [],.b false,.p0,.p0,.sl0,.sl0,.i .i64 line]).cells σ):=(Ext.refl σ).new _ _
 have l1:(au 75 (AV.ag [.i .i64 4,.s [],.b false,.p0,.p0,.sl0,.sl0,.i .i64 line]).cells σ).length=σ.length+1:=aO _ _ _
 generalize au 75 (AV.ag [.i .i64 4,.s [],.b false,.p0,.p0,.sl0,.sl0,.i .i64 line]).cells σ=σ1 at b1 x1 l1 ⊢
 have h1:=h.ext x1
 have b1:σ1[σ.length]? =some (dG 4 [] false .p0 .p0 .sl0 .sl0 line):=b1
 have xx:aS p σ σ1:=aS.of x1
 refine ihE.expr d 1 σ1 m _ h1 hd (by omega) he (by omega) ?_
 generalize fJ n d 1 (all.drop m)=r1 at hg hQ
 cases r1 with
 | out=>exact hg.elim
 | bad c l=>
   have hQ:mY p w g all σ d Q (.bad c l):=hQ
   intro o g' s y k
   have ex:=y.get (by omega) b1
   have ly:=y.len
   conv=>whnf
   refine ak (aG (T:=bY) ([.i .i64 4,.s [],.b false,.p0,.p o g' 0,.sl0,.sl0,.i .i64 line]) rfl (ex) rfl rfl (Nat.le_of_ble_eq_true rfl) rfl) ?_
   conv=>whnf
   have k2:=k.st ex (dG 4 [] false .p0 (.p o g' 0) .sl0 .sl0 line)
   have fx:(s.set σ.length (dG 4 [] false .p0 (.p o g' 0) .sl0 .sl0 line))[σ.length]? =_:=at_set ex _
   have y2:aS p σ (s.set σ.length (dG 4 [] false .p0 (.p o g' 0) .sl0 .sl0 line)):=(xx.trans y).bM (bW.bT _ _ _ _) (Nat.le_refl _)
   refine yx k2 (by have:=h.dp;omega) fun s3 y3 k3=>?_
   have ZT:=y3.get (by omega) fx
   conv=>whnf
   refine ak (aG (T:=gq) ([.i .i64 4,.s [],.b false,.p0,.p o g' 0,.sl0,.sl0,.i .i64 line]) rfl (ZT) rfl rfl (Nat.le_of_ble_eq_true rfl) rfl) ?_
   conv=>whnf
   have k4:=k3.st ZT (dG 4 [] false .p0 (.p o g' 0) .sl0 .sl0 line)
   refine ay.to (mJ [101,108,115,101] k4) ?_
   conv=>whnf
   exact Fin.ref rfl (hQ _ _ _ ((y2.trans y3).bM (bW.bT _ _ _ _) (Nat.le_refl _)) k4)
 | ok z dK=>
   intro o g' s m2 y k hm2 Lj
   have hQ:mY p w g all σ d Q ((fB n d dK).bind fun th ts=>
    if bV GH ts=true then
        if bV wIf ts.tail=true then(jF n d (oG ts.tail) ts.tail.tail).bind fun b ts=>.ok (.st 4 [] false .nil z th (.cons b .nil) line) ts
        else(fB n d ts.tail).bind fun el ts=>.ok (.st 4 [] false .nil z th el line) ts
    else .ok (.st 4 [] false .nil z th .nil line) ts):=hQ
   have ex:=y.get (by omega) b1
   have ly:=y.len
   have lx:=xx.len
   conv=>whnf
   refine ak (aG (T:=bY) ([.i .i64 4,.s [],.b false,.p0,.p o g' 0,.sl0,.sl0,.i .i64 line]) rfl (ex) rfl rfl (Nat.le_of_ble_eq_true rfl) rfl) ?_
   conv=>whnf
   have k2:=k.st ex (dG 4 [] false .p0 (.p o g' 0) .sl0 .sl0 line)
   have fx:(s.set σ.length (dG 4 [] false .p0 (.p o g' 0) .sl0 .sl0 line))[σ.length]? =_:=at_set ex _
   have y2:aS p σ (s.set σ.length (dG 4 [] false .p0 (.p o g' 0) .sl0 .sl0 line)):=(xx.trans y).bM (bW.bT _ _ _ _) (Nat.le_refl _)
   have hez2:dw (fun i=>σ.length<i) (s.set σ.length (dG 4 [] false .p0 (.p o g' 0) .sl0 .sl0 line)) (.p o g' 0) z:=dw.mono (fun i hi=>by omega) (fun i hi a ha=>aP ha (by omega) _) Lj
   have l2:(s.set σ.length (dG 4 [] false .p0 (.p o g' 0) .sl0 .sl0 line)).length=s.length:=List.length_set
   rw [←hm2] at hQ hg
   have lg:=hg.2.2
   have hgb:=(ER n).block d (all.drop m2) hg.2.1 (by omega)
   refine ih.block d _ m2 _ k2 hd hg.2.1 (by omega) ?_
   generalize fB n d (all.drop m2)=r2 at hgb hQ
   cases r2 with
   | out=>exact hgb.elim
   | bad c l=>
     have hQ:mY p w g all σ d Q (.bad c l):=hQ
     intro A s3 y3 k3 hA
     have ZT:=y3.get (by omega) fx
     refine uZ _ _ ?_
     conv=>whnf
     refine ak (iJ (T:=gq) [.i .i64 4,.s [],.b false,.p0,.p o g' 0,A,.sl0,.i .i64 line] hA rfl rfl ZT (Nat.le_of_ble_eq_true rfl) rfl) ?_
     have k4:=k3.st ZT (dG 4 [] false .p0 (.p o g' 0) A .sl0 line)
     conv=>whnf
     refine ay.to (mJ [101,108,115,101] k4) ?_
     conv=>whnf
     exact Fin.ref rfl (hQ _ _ _ ((y2.trans y3).bM (bW.bT _ _ _ _) (Nat.le_refl _)) k4)
   | ok th kQ=>
     intro A s3 m3 y3 k3 hm3 hth hA
     have hQ:mY p w g all σ d Q (
        if bV GH kQ=true then
         if bV wIf kQ.tail=true then(jF n d (oG kQ.tail) kQ.tail.tail).bind fun b ts=>.ok (.st 4 [] false .nil z th (.cons b .nil) line) ts
         else(fB n d kQ.tail).bind fun el ts=>.ok (.st 4 [] false .nil z th el line) ts
        else .ok (.st 4 [] false .nil z th .nil line) kQ):=hQ
     have ZT:=y3.get (by omega) fx
     have l3:s.length≤s3.length:=by have:=y3.len;rw [List.length_set] at this;exact this
     have he3:bg (all.drop m3):=by rw [hm3];exact hgb.2.1
     obtain⟨t3,r3,EU⟩:=he3.ne
     obtain⟨ht3,hr3⟩:=bZ EU
     have hlen3:(all.drop m3).length=r3.length+1:=by rw [EU];rfl
     have lgb:=hgb.2.2
     rw [←hm3] at lgb
     rw [←hm3,EU] at hQ
     have hQ:mY p w g all σ d Q (
        if bV GH (t3 :: r3)=true then
         if bV wIf r3=true then(jF n d (oG r3) r3.tail).bind fun b ts=>.ok (.st 4 [] false .nil z th (.cons b .nil) line) ts
         else(fB n d r3).bind fun el ts=>.ok (.st 4 [] false .nil z th el line) ts
        else .ok (.st 4 [] false .nil z th .nil line) (t3 :: r3)):=hQ
     refine uZ _ _ ?_
     conv=>whnf
     refine ak (iJ (T:=gq) [.i .i64 4,.s [],.b false,.p0,.p o g' 0,A,.sl0,.i .i64 line] hA rfl rfl ZT (Nat.le_of_ble_eq_true rfl) rfl) ?_
     have k4:=k3.st ZT (dG 4 [] false .p0 (.p o g' 0) A .sl0 line)
     have fx4:(s3.set σ.length (dG 4 [] false .p0 (.p o g' 0) A .sl0 line))[σ.length]? =_:=at_set ZT _
     have y4:aS p σ (s3.set σ.length (dG 4 [] false .p0 (.p o g' 0) A .sl0 line)):=(y2.trans y3).bM (bW.bT _ _ _ _) (Nat.le_refl _)
     have hez4:dw (fun i=>σ.length<i) (s3.set σ.length (dG 4 [] false .p0 (.p o g' 0) A .sl0 line)) (.p o g' 0) z:=dw.mono (fun i hi=>hi) (fun i hi a ha=>aP (y3.get (by omega) ha) (by omega) _) hez2
     have hth4:iF (fun i=>σ.length<i) (s3.set σ.length (dG 4 [] false .p0 (.p o g' 0) A .sl0 line)) A th:=iF.mono (fun i hi=>by rw [List.length_set] at hi;omega) (fun i hi a ha=>aP ha (by rw [List.length_set] at hi;omega) _) hth
     have l4:(s3.set σ.length (dG 4 [] false .p0 (.p o g' 0) A .sl0 line)).length=s3.length:=List.length_set
     have fin:∀(E:AV) (el:IK) (s5:St),aS p (s3.set σ.length (dG 4 [] false .p0 (.p o g' 0) A .sl0 line)) s5→iF (fun i=>σ.length<i) (s5.set σ.length (dG 4 [] false .p0 (.p o g' 0) A E line)) E el→oO (fun i=>σ.length≤i) (s5.set σ.length (dG 4 [] false .p0 (.p o g' 0) A E line)) (.p σ.length 0 0) (.st 4 [] false .nil z th el line):=by
        intro E el s5 y5 hE
        refine⟨σ.length,0,.p0,.p o g' 0,A,E,Nat.le_refl _,rfl,at_set (y5.get (by omega) fx4) _,rfl,?_,?_,?_⟩
        ·exact dw.mono (fun i hi=>by omega) (fun i hi a ha=>aP (y5.get (by omega) ha) (by omega) _) hez4
        ·exact iF.mono (fun i hi=>by omega) (fun i hi a ha=>aP (y5.get (by omega) ha) (by omega) _) hth4
        ·exact iF.mono (fun i hi=>by omega) (fun i hi a ha=>ha) hE
     conv=>whnf
     refine nR [101,108,115,101] k4 ht3 (fun hi=>(aZ he3 EU hi).1) (fun hi s5 y5 k5=>?_) (fun hi=>?_)
     ·rw [if_pos (show bV GH (t3 :: r3)=true from hi)] at hQ
      obtain⟨hm4,he4,hle4⟩:=aZ he3 EU hi
      obtain⟨t4,r4,Rw⟩:=he4.ne
      obtain⟨ht4,hr4⟩:=bZ Rw
      have hrr:r3=t4 :: r4:=by rw [←Rw,hr3]
      have hlen4:(all.drop (m3+1)).length=r4.length+1:=by rw [Rw];rfl
      have hlr:r3.length=r4.length+1:=by rw [hrr];rfl
      rw [hrr] at hQ
      have l5:s3.length≤s5.length:=by have:=y5.len;rw [List.length_set] at this;exact this
      conv=>whnf
      refine ay.to (jK k5 ht4) ?_
      conv=>whnf
      refine oH t4 fun s6 x6 PN l6=>?_
      have k6:=k5.ext x6
      have y6:=y5.trans (aS.of x6)
      conv=>whnf
      refine nR [105,102] k6 ht4 (fun hi=>(aZ he4 Rw hi).1) (fun hi2 s7 y7 k7=>?_) (fun hi2=>?_)
      ·rw [if_pos (show bV wIf (t4 :: r4)=true from hi2)] at hQ
       have hQ:mY p w g all σ d Q ((jF n d t4.l r4).bind fun b ts=>.ok (.st 4 [] false .nil z th (.cons b .nil) line) ts):=hQ
       obtain⟨hm5,Ws,hle5⟩:=aZ he4 Rw hi2
       have hlen5:(all.drop (m3+1+1)).length=r4.length:=by rw [hr4]
       have hg5:=(ER n).branch d t4.l (all.drop (m3+1+1)) Ws (by omega)
       have l7:=y7.len
       rw [←hr4] at hQ
       conv=>whnf
       refine ak (aj (T:=gZ) rfl rfl (ah (y7.get (by omega) PN)) rfl) ?_
       conv=>whnf
       refine ih.branch d t4.l s7 (m3+1+1) _ k7 hd Ws (by omega) ?_
       generalize jF n d t4.l (all.drop (m3+1+1))=r5 at hg5 hQ
       cases r5 with
       | out=>exact hg5.elim
       | bad c l=>
         have hQ:mY p w g all σ d Q (.bad c l):=hQ
         intro o8 g8 s8 y8 k8
         have Rx:=(y6.trans y7).trans y8
         conv=>whnf
         have b9:(au 73 [.p o8 g8 0] s8)[s8.length]? =some ⟨0,false,.cells 73 [.p o8 g8 0]⟩:=aI _ _ _
         have x9:Ext s8 (au 73 [.p o8 g8 0] s8):=(Ext.refl s8).new _ _
         have l9:(au 73 [.p o8 g8 0] s8).length=s8.length+1:=aO _ _ _
         generalize au 73 [.p o8 g8 0] s8=σ9 at b9 x9 l9 ⊢
         have WJ:=x9.get (Rx.get (by omega) fx4)
         have k9:=k8.ext x9
         refine ak (aG (T:=gq) ([.i .i64 4,.s [],.b false,.p0,.p o g' 0,A,.sl s8.length 0 0 1 1,.i .i64 line]) rfl (WJ) rfl rfl (Nat.le_of_ble_eq_true rfl) rfl) ?_
         conv=>whnf
         exact Fin.ref rfl (hQ _ _ _ ((y4.trans (Rx.trans (aS.of x9))).bM (bW.bT _ _ _ _) (Nat.le_refl _)) (k9.st WJ _))
       | ok bs ES=>
         have hQ:mY p w g all σ d Q (.ok (.st 4 [] false .nil z th (.cons bs .nil) line) ES):=hQ
         intro o8 g8 s8 m8 y8 k8 hm8 hbs
         have Rx:=(y6.trans y7).trans y8
         have l8:=y8.len
         conv=>whnf
         have b9:(au 73 [.p o8 g8 0] s8)[s8.length]? =some ⟨0,false,.cells 73 [.p o8 g8 0]⟩:=aI _ _ _
         have x9:Ext s8 (au 73 [.p o8 g8 0] s8):=(Ext.refl s8).new _ _
         have l9:(au 73 [.p o8 g8 0] s8).length=s8.length+1:=aO _ _ _
         generalize au 73 [.p o8 g8 0] s8=σ9 at b9 x9 l9 ⊢
         have WJ:=x9.get (Rx.get (by omega) fx4)
         have k9:=k8.ext x9
         refine ak (aG (T:=gq) ([.i .i64 4,.s [],.b false,.p0,.p o g' 0,A,.sl s8.length 0 0 1 1,.i .i64 line]) rfl (WJ) rfl rfl (Nat.le_of_ble_eq_true rfl) rfl) ?_
         conv=>whnf
         refine Fin.ref rfl (hQ _ _ _ _ ((y4.trans (Rx.trans (aS.of x9))).bM (bW.bT _ _ _ _) (Nat.le_refl _)) (k9.st WJ _) hm8 (fin _ _ σ9 (Rx.trans (aS.of x9)) ?_))
         refine⟨s8.length,0,[.p o8 g8 0],by omega,rfl,aP b9 (by omega) _,_,_,rfl,?_,rfl⟩
         exact oO.mono (fun i hi=>by omega) (fun i hi a ha=>aP (x9.get ha) (by omega) _) hbs
      ·rw [if_neg (by rw [show bV wIf (t4 :: r4)=gW [105,102] t4 from rfl,hi2];decide),←Rw] at hQ
       have hg5:=(ER n).block d (all.drop (m3+1)) he4 (by omega)
       conv=>whnf
       refine ih.block d s6 (m3+1) _ k6 hd he4 (by omega) ?_
       generalize fB n d (all.drop (m3+1))=r5 at hg5 hQ
       cases r5 with
       | out=>exact hg5.elim
       | bad c l=>
         have hQ:mY p w g all σ d Q (.bad c l):=hQ
         intro E s8 y8 k8 hE
         have Rx:=y6.trans y8
         have WJ:=Rx.get (by omega) fx4
         refine uZ _ _ ?_
         conv=>whnf
         refine ak (iJ (T:=gq) [.i .i64 4,.s [],.b false,.p0,.p o g' 0,A,E,.i .i64 line] hE rfl rfl WJ (Nat.le_of_ble_eq_true rfl) rfl) ?_
         conv=>whnf
         exact Fin.ref rfl (hQ _ _ _ ((y4.trans Rx).bM (bW.bT _ _ _ _) (Nat.le_refl _)) (k8.st WJ _))
       | ok el ES=>
         have hQ:mY p w g all σ d Q (.ok (.st 4 [] false .nil z th el line) ES):=hQ
         intro E s8 m8 y8 k8 hm8 hel hE
         have Rx:=y6.trans y8
         have WJ:=Rx.get (by omega) fx4
         refine uZ _ _ ?_
         conv=>whnf
         refine ak (iJ (T:=gq) [.i .i64 4,.s [],.b false,.p0,.p o g' 0,A,E,.i .i64 line] hE rfl rfl WJ (Nat.le_of_ble_eq_true rfl) rfl) ?_
         conv=>whnf
         refine Fin.ref rfl (hQ _ _ _ _ ((y4.trans Rx).bM (bW.bT _ _ _ _) (Nat.le_refl _)) (k8.st WJ _) hm8 (fin _ _ s8 Rx ?_))
         exact iF.mono (fun i hi=>by omega) (fun i hi a ha=>aP ha (by omega) _) hel
     ·rw [if_neg (by rw [show bV GH (t3 :: r3)=gW [101,108,115,101] t3 from rfl,hi];decide)] at hQ
      conv=>whnf
      refine Fin.ref rfl (hQ _ _ _ _ y4 k4 EU ?_)
      have:=fin .sl0 .nil _ (.refl _ _) rfl
      rw [List.set_set] at this
      exact this
end
end Go.bK.YtobmjhfgmhfocaaGreatDoor
namespace Go.bK.YtobmjhfgmhfocaaGreatDoor
open Go.Proofs
set_option maxRecDepth 4000
def Lp (all:List Tok):Prop:=∀z∈all,(z.k=4→z.s∈keys)∧(z.k=3→z.s∉keys)
section
variable {p w g:Nat} {all:List Tok} {n:Nat}
theorem mY.to {d:Nat} {σ σ1:St} {Q Q':AV→St→Prop} {r:Re Sm} (hQ:mY p w g all σ d Q r)(x1:aS p σ σ1)(k:∀o g' s,Q (.p o g' 0) s→Q' (.p o g' 0) s):mY p w g all σ1 d Q' r:=by
 cases r with
 | out=>trivial
 | bad c l=>exact fun o g' σ2 x2 h2=>k _ _ _ (hQ o g' σ2 (x1.trans x2) h2)
 | ok x ts=>exact fun o g' σ2 m2 x2 h2 hm hex=>k _ _ _ (hQ o g' σ2 m2 (x1.trans x2) h2 hm (oO.mono (fun i hi=>Nat.le_trans x1.len hi) (fun i hi a ha=>ha) hex))
theorem Aw:∀(all:List Tok) (m:Nat),(dW all).drop (3*m)=dW (all.drop m)
 | all,0=>rfl
 | [],m+1=>by simp [dW]
 | x :: l,m+1=>by
   have e:dW (x :: l)=sN x.k x.s x.l ++ dW l:=rfl
   rw [e,show 3*(m+1)=3+3*m by omega,←List.drop_drop,List.drop_left' (by rfl)]
   exact Aw l m
theorem zO {σ:St} {N w g m:Nat} {all:List Tok} {t:Tok} (hN:σ[N]? =some ⟨0,false,.cells 44 (sN t.k t.s t.l)⟩)(hw:σ[w]? =some ⟨g,false,.cells 44 (dW all)⟩)(hm:m<all.length)(hl:all.length≤40001) {Q:AV→St→Prop}
 (q:Q (.sl N 1 (3*0) ((t :: all.drop m).length - 0) 3) (σ.set N ⟨1,false,.cells 44 (dW (t :: all.drop m))⟩)):EL fK.get false 40 (.sl N 0 0 1 3) (.sl w g (3*m) (all.length - m) 3) σ Q:=by
 constructor
 refine ak (v:=pF) rfl ?_
 refine ak (v:=AQ) rfl ?_
 have e1:((dW all).drop (3*m)).take ((all.length - m)*3)=dW (all.drop m):=by
  rw [Aw,List.take_of_length_le (by rw [m_,List.length_drop];exact Nat.le_refl _)]
 refine ak (v:=(all.length - m,dW (all.drop m))) (by rw [←e1];exact jS hw (by rw [m_];show 3*m+(all.length - m)*3≤_;omega)) ?_
 obtain⟨k,hk⟩:∃k,all.length - m=k+1:=⟨all.length - m - 1,by omega⟩
 have hd:(all.drop m).length=k+1:=by rw [List.length_drop];exact hk
 show bK.cB (Nat.beq (all.length - m) 0) _ (bK.cB ((dW (all.drop m)).all AV.one) _ False)
 rw [hk,zH]
 refine ak (pG hN) ?_
 refine⟨rfl,Nat.le_of_ble_eq_true rfl,?_,rfl,?_⟩
 ·show (1+(k+1))*32≤140737488355328;omega
 ·have e2:(t :: all.drop m).length - 0=1+(k+1):=by rw [List.length_cons,hd];omega
  rw [e2] at q
  exact q
theorem zQ (n d:Nat)(t:Tok)(r:List Tok)(hk:t.k=4)(h1:t.s≠[40])(h2:t.s≠Ri)(h3:t.s≠wIn)(hn:2≤n):kP n d (t :: r)= .bad 4 t.l:=by
 obtain⟨n,rfl⟩:∃k,n=k+2:=⟨n - 2,by omega⟩
 have hW:∀s,bV s (t :: r)=(t.s == s):=fun s=>by show ((t.k == 4 || t.k == 3) && t.s == s)=_;rw [hk];rfl
 unfold kP jJ
 simp only [hW,iP]
 rw [if_neg (by simpa using h1),if_neg (by simpa using h2),if_neg (by simpa using h3),if_neg (by rw [hk];decide),if_neg (by rw [hk];decide)]
 rfl
theorem nokey {t:Tok} (h:t.k=3→t.s∉keys)(s:List UInt8)(hs:s∈keys):(t.k == 3 && t.s == s)=false:=by
 by_cases h3:t.k=3
 ·have:t.s≠s:=fun e=>h h3 (e▸hs)
  rw [beq_eq_false_iff_ne.2 this,Bool.and_false]
 ·rw [beq_eq_false_iff_ne.2 h3];rfl
def Lr (p w g:Nat)(all:List Tok)(n:Nat):Prop:=∀(d kd k0 xo xv bp ln:Nat) (nm:List UInt8) (pt:Bool) (L:AV) (σ:St) (m:Nat) (Q:AV→St→Prop),PW p w g all σ m d .p0→d≤64→bg (all.drop m)→10*(all.drop m).length+10≤n→
 σ[xv]? =some ⟨0,false,.cells 73 [.p xo 0 0]⟩→σ[bp]? =some ⟨0,false,.cells 100 [.p p 0 0]⟩→σ[xo]? =some (dG k0 nm pt L .p0 .sl0 .sl0 ln)→(xo≠p∧xv≠p∧bp≠p∧xv≠xo∧bp≠xo)→PEn p w g all xo kd nm pt L ln σ d Q (dJ n d (all.drop m))→ay X 145 [.i .i64 kd,.p xv 0 0,.p bp 0 0] σ Q
set_option maxHeartbeats 4000000 in
theorem stmt_p (hko:Lp all)(ihE:WP p w g all n)(ih:WQ p w g all n)(Xl:Lr p w g all n)(d:Nat)(σ:St)(m:Nat)(Q:AV→St→Prop)(h:PW p w g all σ m d .p0)(hd:d≤64)(he:bg (all.drop m))(hn:10*(all.drop m).length+14≤n+1)(hQ:mY p w g all σ d Q (uX (n+1) d (all.drop m))):ay X 116 [.p p 0 0] σ Q:=by
 obtain⟨t,r,hts⟩:=he.ne
 obtain⟨ht,hr⟩:=bZ hts
 have hpl:=bQ h.obj
 have hlr:(all.drop m).length=r.length+1:=by rw [hts];rfl
 unfold uX at hQ
 rw [hts] at hQ
 simp only at hQ
 refine ay.body (F:=Yf) aC (lit:=false) rfl rfl (Nat.le_of_ble_eq_true rfl) ?_
 conv=>whnf
 have b1:(au 100 (AV.p p 0 0).cells σ)[σ.length]? =some ⟨0,false,.cells 100 [.p p 0 0]⟩:=aI _ _ _
 have x1:Ext σ (au 100 (AV.p p 0 0).cells σ):=(Ext.refl σ).new _ _
 have l1:(au 100 (AV.p p 0 0).cells σ).length=σ.length+1:=aO _ _ _
 generalize au 100 (AV.p p 0 0).cells σ=σ1 at b1 x1 l1 ⊢
 have h1:=h.ext x1
 refine ak (aj (T:=aU) rfl rfl (ah (b1)) rfl) ?_
 conv=>whnf
 refine ay.to (jK h1 ht) ?_
 conv=>whnf
 refine oH t fun σ2 x2 ht2 l2=>?_
 conv=>whnf
 refine ak (aj (T:=gZ) rfl rfl (ah (ht2)) rfl) ?_
 conv=>whnf
 have b3:(au 75 (AV.ag [.i .i64 0,.s [],.b false,.p0,.p0,.sl0,.sl0,.i .i64 t.l]).cells σ2)[σ2.length]? =some ⟨0,false,.cells 75 [.i .i64 0,.s [],.b false,.p0,.p0,.sl0,.sl0,.i .i64 t.l]⟩:=aI _ _ _
 have x3:Ext σ2 (au 75 (AV.ag [.i .i64 0,.s [],.b false,.p0,.p0,.sl0,.sl0,.i .i64 t.l]).cells σ2):=(Ext.refl σ2).new _ _
 have l3:(au 75 (AV.ag [.i .i64 0,.s [],.b false,.p0,.p0,.sl0,.sl0,.i .i64 t.l]).cells σ2).length=σ2.length+1:=aO _ _ _
 generalize au 75 (AV.ag [.i .i64 0,.s [],.b false,.p0,.p0,.sl0,.sl0,.i .i64 t.l]).cells σ2=σ3 at b3 x3 l3 ⊢
 refine ak (aG (T:=dM) ([.p σ2.length 0 0]) rfl (aI _ _ _) rfl rfl (Nat.le_of_ble_eq_true rfl) rfl) ?_
 have x4:Ext σ3 ((au 73 dM.zero.cells σ3).set σ3.length ⟨0,false,.cells 73 [.p σ2.length 0 0]⟩):=((Ext.refl σ3).new _ _).set (Nat.le_refl _) _
 have b4:((au 73 dM.zero.cells σ3).set σ3.length ⟨0,false,.cells 73 [.p σ2.length 0 0]⟩)[σ3.length]? =_:=at_set (aI _ _ _) _
 have l4:((au 73 dM.zero.cells σ3).set σ3.length ⟨0,false,.cells 73 [.p σ2.length 0 0]⟩).length=σ3.length+1:=by rw [List.length_set,aO]
 generalize (au 73 dM.zero.cells σ3).set σ3.length ⟨0,false,.cells 73 [.p σ2.length 0 0]⟩=iR at b4 x4 l4 ⊢
 conv=>whnf
 have x24:=x3.trans x4
 have h4:=(h1.ext x2).ext x24
 have c1:=x24.get (x2.get b1)
 have ct:=x24.get ht2
 have cx:iR[σ2.length]? =some (dG 0 [] false .p0 .p0 .sl0 .sl0 t.l):=x4.get b3
 have xx:aS p σ iR:=aS.of ((x1.trans x2).trans x24)
 refine ak (aj (T:=gZ) rfl rfl (ah (ct)) rfl) ?_
 conv=>whnf
 have way:t.k≠4∨(t.k=4∧t.s=[110,101,119])∨(t.k=4∧t.s=[105,110])∨(t.k=4∧t.s≠[110,101,119]∧t.s≠[105,110]):=by
  by_cases h4:t.k=4
  ·by_cases h5:t.s=[110,101,119]
   ·exact .inr (.inl ⟨h4,h5⟩)
   ·by_cases h6:t.s=[105,110]
    ·exact .inr (.inr (.inl ⟨h4,h6⟩))
    ·exact .inr (.inr (.inr ⟨h4,h5,h6⟩))
  ·exact .inl h4
 rcases way with hk4 | ⟨hk4,hs⟩ | ⟨hk4,hs⟩ | ⟨hk4,hn1,hn2⟩
 case inr.inr.inr=>
  rw [decide_eq_true (by omega)]
  conv=>whnf
  refine ak (aj (T:=aU) rfl rfl (ah (c1)) rfl) ?_
  conv=>whnf
  refine ay.to (lV h4) ?_
  conv=>whnf
  refine ak (aj (T:=iw) rfl rfl (ah (ct)) rfl) ?_
  conv=>whnf
  have he1:bg (all.drop (m+1)):=by rw [hr];rw [hts] at he;exact he.tail (by rw [hk4];decide)
  have hm1:=sQ he1
  have hlen1:(all.drop (m+1)).length=r.length:=by rw [hr]
  have hmem:=(hko t (List.mem_of_getElem? ht)).1 hk4
  simp only [keys,List.mem_cons,List.mem_nil_iff,or_false,hn1,hn2] at hmem
  rcases hmem with hs | hs | hs | hs | hs | hs | hs | hs | hs | hs
  ·have hW:∀s,bV s (t :: r)=(t.s == s):=fun s=>by show ((t.k == 4 || t.k == 3) && t.s == s)=_;rw [hk4];rfl
   rw [if_neg (by rw [hW,hs];decide),if_neg (by rw [hW,hs];decide),if_neg (by rw [hW,hs];decide),if_neg (by rw [hW,hs];decide),if_neg (by rw [hW,hs];decide),if_neg (by rw [hW,hs];decide),if_neg (by rw [hW,hs];decide)] at hQ
   rw [show (t.s == [110,101,119])=false by rw [hs];rfl]
   conv=>whnf
   refine ak (aj (T:=iw) rfl rfl (ah (ct)) rfl) ?_
   conv=>whnf
   rw [show (t.s == [105,110])=false by rw [hs];rfl]
   conv=>whnf
   refine ak (aj (T:=aU) rfl rfl (ah (c1)) rfl) ?_
   conv=>whnf
   refine iL h4 hm1 fun s5 y5 k5=>?_
   have c5:=y5.get (by omega) c1
   have Ej:=y5.get (by omega) ct
   have yH:=y5.get (by omega) cx
   have tC:=y5.get (by omega) b4
   have uY:=xx.trans y5
   have l5:=y5.len
   conv=>whnf
   refine ak (aj (T:=iw) rfl rfl (ah (Ej)) rfl) ?_
   conv=>whnf
   rw [show (t.s == [118,97,114])=false by rw [hs];rfl]
   conv=>whnf
   rw [show (t.s == [105,102])=false by rw [hs];rfl]
   conv=>whnf
   rw [show (t.s == [119,104,105,108,101])=false by rw [hs];rfl]
   conv=>whnf
   rw [show (t.s == [111,117,116])=false by rw [hs];rfl]
   conv=>whnf
   rw [show (t.s == [102,114,101,101])=false by rw [hs];rfl]
   conv=>whnf
   rw [show (t.s == [100,114,97,105,110])=false by rw [hs];rfl]
   conv=>whnf
   rw [show (t.s == [114,101,116,117,114,110])=false by rw [hs];rfl]
   conv=>whnf
   rw [zQ n d t r hk4 (by rw [hs];decide) (by rw [hs];decide) (by rw [hs];decide) (by omega)] at hQ
   have hQ:mY p w g all σ d Q (.bad 4 t.l):=hQ
   have hal:=h.len
   refine ak (aj (T:=aU) rfl rfl (ah (c5)) rfl) ?_
   conv=>whnf
   refine ak (kD (T:=AQ) rfl rfl (ah (Ej)) (Nat.le_of_ble_eq_true rfl)) ?_
   conv=>whnf
   refine ak (aj (T:=aU) rfl rfl (ah (c5)) rfl) ?_
   conv=>whnf
   refine ak (aj (T:=pF) rfl rfl (ah (k5.obj)) rfl) ?_
   conv=>whnf
   have b6:(au 44 [.i .i64 t.k,.s t.s,.i .i64 t.l] s5)[s5.length]? =some ⟨0,false,.cells 44 [.i .i64 t.k,.s t.s,.i .i64 t.l]⟩:=aI _ _ _
   have x6:Ext s5 (au 44 [.i .i64 t.k,.s t.s,.i .i64 t.l] s5):=(Ext.refl s5).new _ _
   have l6:(au 44 [.i .i64 t.k,.s t.s,.i .i64 t.l] s5).length=s5.length+1:=aO _ _ _
   generalize au 44 [.i .i64 t.k,.s t.s,.i .i64 t.l] s5=sO at b6 x6 l6 ⊢
   have k6:=k5.ext x6
   have c6:=x6.get c5
   refine⟨?_,?_⟩
   ·conv=>whnf
    refine ak (aj (T:=aU) rfl rfl (ah (c6)) rfl) ?_
    rfl
   conv=>whnf
   refine⟨?_,?_⟩
   ·conv=>whnf
    refine ak (aj (T:=aU) rfl rfl (ah (c6)) rfl) ?_
    rfl
   conv=>whnf
   refine⟨?_,?_⟩
   ·conv=>whnf
    refine ak (aj (T:=pF) rfl rfl (ah (k6.obj)) rfl) ?_
    rfl
   conv=>whnf
   have hwl:=bQ k5.tok
   refine zO (t:=t) (m:=m+1) b6 k6.tok hm1 hal ?_
   conv=>whnf
   have c7:(sO.set s5.length ⟨1,false,.cells 44 (dW (t :: all.drop (m+1)))⟩)[σ.length]? =_:=aP c6 (by omega) _
   refine⟨?_,?_⟩
   ·conv=>whnf
    refine ak (aj (T:=aU) rfl rfl (ah (c7)) rfl) ?_
    rfl
   conv=>whnf
   have o7:(sO.set s5.length ⟨1,false,.cells 44 (dW (t :: all.drop (m+1)))⟩)[p]? =_:=aP k6.obj (by omega) _
   have t7:(sO.set s5.length ⟨1,false,.cells 44 (dW (t :: all.drop (m+1)))⟩)[s5.length]? =_:=at_set b6 _
   refine ak (aG (T:=pF) (oN s5.length 1 (t :: all.drop (m+1)).length 0 d .p0) rfl (o7) rfl rfl (Nat.le_of_ble_eq_true rfl) rfl) ?_
   conv=>whnf
   have k8:PW p s5.length 1 (t :: all.drop (m+1)) ((sO.set s5.length ⟨1,false,.cells 44 (dW (t :: all.drop (m+1)))⟩).set p ⟨0,false,.cells 103 (oN s5.length 1 (t :: all.drop (m+1)).length 0 d .p0)⟩) 0 d .p0:=⟨at_set o7 _,aP t7 (by omega) _,by omega,by rw [List.length_cons,List.length_drop];omega,by rw [List.length_cons];omega,h.dp⟩
   refine ak (aj (T:=aU) rfl rfl (ah (aP c7 (by omega) _)) rfl) ?_
   conv=>whnf
   refine sZ 4 k8 (t:=t) rfl fun s9 y9 k9=>?_
   conv=>whnf
   refine ak (aj (T:=dM) rfl rfl (ah (y9.get (by omega) (aP (aP (x6.get tC) (by omega) _) (by omega) _))) rfl) ?_
   conv=>whnf
   exact Fin.ref rfl (hQ _ _ _ ((((uY.trans (aS.of x6)).bM (bW.bT _ _ _ _) (by omega)).trans ((aS.refl p _).zK _)).trans y9) k9)
  ·have hW:∀s,bV s (t :: r)=(t.s == s):=fun s=>by show ((t.k == 4 || t.k == 3) && t.s == s)=_;rw [hk4];rfl
   rw [if_pos (by rw [hW,hs];rfl)] at hQ
   rw [show (t.s == [110,101,119])=false by rw [hs];rfl]
   conv=>whnf
   refine ak (aj (T:=iw) rfl rfl (ah (ct)) rfl) ?_
   conv=>whnf
   rw [show (t.s == [105,110])=false by rw [hs];rfl]
   conv=>whnf
   refine ak (aj (T:=aU) rfl rfl (ah (c1)) rfl) ?_
   conv=>whnf
   refine iL h4 hm1 fun s5 y5 k5=>?_
   have c5:=y5.get (by omega) c1
   have Ej:=y5.get (by omega) ct
   have yH:=y5.get (by omega) cx
   have tC:=y5.get (by omega) b4
   have uY:=xx.trans y5
   have l5:=y5.len
   conv=>whnf
   refine ak (aj (T:=iw) rfl rfl (ah (Ej)) rfl) ?_
   conv=>whnf
   rw [show (t.s == [118,97,114])=true by rw [hs];rfl]
   conv=>whnf
   obtain⟨t6,r6,kJ⟩:=he1.ne
   obtain⟨PN,EX⟩:=bZ kJ
   have hl6:(all.drop (m+1)).length=r6.length+1:=by rw [kJ];rfl
   rw [←hr,kJ] at hQ
   refine ak (aj (T:=dM) rfl rfl (ah (tC)) rfl) ?_
   conv=>whnf
   refine ak (aj (T:=dM) rfl rfl (ah (tC)) rfl) ?_
   conv=>whnf
   refine ak (aj (T:=aU) rfl rfl (ah (c5)) rfl) ?_
   conv=>whnf
   refine IL k5 PN (fun hk1=>sQ (by rw [EX];rw [kJ] at he1;exact he1.tail (by rw [hk1];decide))) (fun hk1 s6 y6 k6=>?_) (fun hk1 s6 y6 k6=>?_)
   ·simp only [iP,if_pos hk1] at hQ
    have he2:bg (all.drop (m+1+1)):=by rw [EX];rw [kJ] at he1;exact he1.tail (by rw [hk1];decide)
    obtain⟨t7,r7,NZ⟩:=he2.ne
    obtain⟨ht7,hr7⟩:=bZ NZ
    have hl7:(all.drop (m+1+1)).length=r7.length+1:=by rw [NZ];rfl
    have hl67:r6.length=r7.length+1:=by rw [←EX,NZ];rfl
    have hQ:mY p w g all σ d Q (
     if bV [61] (if bV je r6=true then r6.tail else r6)=true then
             (dJ n d (if bV je r6=true then r6.tail else r6).tail).bind fun x ts=>.ok (.st 1 t6.s (bV je r6) .nil x .nil .nil t.l) ts
     else(bn [59] (if bV je r6=true then r6.tail else r6)).bind fun _ ts=>.ok (.st 1 t6.s (bV je r6) .nil .nil .nil .nil t.l) ts):=hQ
    rw [←EX,NZ] at hQ
    have uK:=y6.get (by omega) yH
    have yB:=y6.get (by omega) tC
    have c6:=y6.get (by omega) c5
    conv=>whnf
    refine⟨?_,?_⟩
    ·conv=>whnf
     refine ak (aj (T:=dM) rfl rfl (ah (yB)) rfl) ?_
     rfl
    conv=>whnf
    refine⟨?_,?_⟩
    ·conv=>whnf
     refine ak (aj (T:=dM) rfl rfl (ah (yB)) rfl) ?_
     rfl
    conv=>whnf
    refine ak (aG (T:=gZ) ([.i .i64 1,.s [],.b false,.p0,.p0,.sl0,.sl0,.i .i64 t.l]) rfl (uK) rfl rfl (Nat.le_of_ble_eq_true rfl) rfl) ?_
    conv=>whnf
    have k7:=k6.st uK (dG 1 [] false .p0 .p0 .sl0 .sl0 t.l)
    have u_:(s6.set σ2.length (dG 1 [] false .p0 .p0 .sl0 .sl0 t.l))[σ2.length]? =_:=at_set uK _
    have vg:(s6.set σ2.length (dG 1 [] false .p0 .p0 .sl0 .sl0 t.l))[σ3.length]? =_:=aP yB (by omega) _
    have c7:(s6.set σ2.length (dG 1 [] false .p0 .p0 .sl0 .sl0 t.l))[σ.length]? =_:=aP c6 (by omega) _
    refine⟨?_,?_⟩
    ·conv=>whnf
     refine ak (aj (T:=dM) rfl rfl (ah (vg)) rfl) ?_
     rfl
    conv=>whnf
    refine ak (aG (T:=iw) ([.i .i64 1,.s t6.s,.b false,.p0,.p0,.sl0,.sl0,.i .i64 t.l]) rfl (u_) rfl rfl (Nat.le_of_ble_eq_true rfl) rfl) ?_
    conv=>whnf
    have k8:=k7.st u_ (dG 1 t6.s false .p0 .p0 .sl0 .sl0 t.l)
    have lW:((s6.set σ2.length (dG 1 [] false .p0 .p0 .sl0 .sl0 t.l)).set σ2.length (dG 1 t6.s false .p0 .p0 .sl0 .sl0 t.l))[σ2.length]? =_:=at_set u_ _
    have nU:((s6.set σ2.length (dG 1 [] false .p0 .p0 .sl0 .sl0 t.l)).set σ2.length (dG 1 t6.s false .p0 .p0 .sl0 .sl0 t.l))[σ3.length]? =_:=aP vg (by omega) _
    have c8:((s6.set σ2.length (dG 1 [] false .p0 .p0 .sl0 .sl0 t.l)).set σ2.length (dG 1 t6.s false .p0 .p0 .sl0 .sl0 t.l))[σ.length]? =_:=aP c7 (by omega) _
    have N7:aS p σ ((s6.set σ2.length (dG 1 [] false .p0 .p0 .sl0 .sl0 t.l)).set σ2.length (dG 1 t6.s false .p0 .p0 .sl0 .sl0 t.l)):=((uY.trans y6).bM (bW.bT _ _ _ _) (by omega)).bM (bW.bT _ _ _ _) (by omega)
    have ll8:((s6.set σ2.length (dG 1 [] false .p0 .p0 .sl0 .sl0 t.l)).set σ2.length (dG 1 t6.s false .p0 .p0 .sl0 .sl0 t.l)).length=s6.length:=by rw [List.length_set,List.length_set]
    refine ak (aj (T:=dM) rfl rfl (ah (nU)) rfl) ?_
    conv=>whnf
    refine ak (aj (T:=aU) rfl rfl (ah (c8)) rfl) ?_
    conv=>whnf
    refine nR [112,116,114] k8 ht7 (fun hi=>(aZ he2 NZ hi).1) (fun hi s9 y9 k9=>?_) (fun hi=>?_)
    ·have WL:bV je (t7 :: r7)=true:=hi
     have hQ:mY p w g all σ d Q (
      if bV [61] r7=true then
             (dJ n d r7.tail).bind fun x ts=>.ok (.st 1 t6.s true .nil x .nil .nil t.l) ts
      else(bn [59] r7).bind fun _ ts=>.ok (.st 1 t6.s true .nil .nil .nil .nil t.l) ts):=by
      simp only [WL,if_true] at hQ;exact hQ
     have hlr7:(all.drop (m+1+1+1)).length=r7.length:=by rw [hr7]
     rw [←hr7] at hQ
     have Em:=y9.get (by omega) lW
     have BL:=y9.get (by omega) nU
     have c9:=y9.get (by omega) c8
     conv=>whnf
     refine⟨?_,?_⟩
     ·conv=>whnf
      refine ak (aj (T:=dM) rfl rfl (ah (BL)) rfl) ?_
      rfl
     conv=>whnf
     refine ak (aG (T:=Qw) ([.i .i64 1,.s t6.s,.b true,.p0,.p0,.sl0,.sl0,.i .i64 t.l]) rfl (Em) rfl rfl (Nat.le_of_ble_eq_true rfl) rfl) ?_
     conv=>whnf
     have kB:=(k9).st (Em) (dG 1 t6.s true .p0 .p0 .sl0 .sl0 t.l)
     have WM:(List.set s9 σ2.length (dG 1 t6.s true .p0 .p0 .sl0 .sl0 t.l))[σ2.length]? =_:=at_set (Em) _
     have Ry:(List.set s9 σ2.length (dG 1 t6.s true .p0 .p0 .sl0 .sl0 t.l))[σ3.length]? =_:=aP (BL) (by omega) _
     have cB:(List.set s9 σ2.length (dG 1 t6.s true .p0 .p0 .sl0 .sl0 t.l))[σ.length]? =_:=aP (c9) (by omega) _
     have A_:aS p σ (List.set s9 σ2.length (dG 1 t6.s true .p0 .p0 .sl0 .sl0 t.l)):=(N7.trans y9).bM (bW.bT _ _ _ _) (by omega)
     have hE:=(aZ he2 NZ hi).2.1
     obtain⟨t8,r8,pU⟩:=hE.ne
     obtain⟨ht8,Xm⟩:=bZ pU
     have hl8:(all.drop (m+1+1+1)).length=r8.length+1:=by rw [pU];rfl
     rw [pU] at hQ
     refine ak (aj (T:=aU) rfl rfl (ah (cB)) rfl) ?_
     conv=>whnf
     refine nR [61] kB ht8 (fun hi=>(aZ hE pU hi).1) (fun hi sA yA kA=>?_) (fun hi=>?_)
     ·rw [if_pos (show bV [61] (t8 :: r8)=true from hi)] at hQ
      have hQ:mY p w g all σ d Q ((dJ n d r8).bind fun x ts=>.ok (.st 1 t6.s true .nil x .nil .nil t.l) ts):=hQ
      obtain⟨hmA,RZ,WO⟩:=aZ hE pU hi
      have hlA:(all.drop (m+1+1+1+1)).length=r8.length:=by rw [Xm]
      rw [←Xm] at hQ
      conv=>whnf
      refine Xl d 1 _ σ2.length σ3.length σ.length t.l t6.s true .p0 sA (m+1+1+1+1) _ kA hd RZ (by omega) (yA.get (by omega) (Ry)) (yA.get (by omega) (cB)) (yA.get (by omega) (WM)) ⟨by omega,by omega,by omega,by omega,by omega⟩ ?_
      generalize dJ n d (all.drop (m+1+1+1+1))=rE at hQ
      cases rE with
      | out=>trivial
      | bad c l=>
        intro s9 y9 k9
        conv=>whnf
        exact Fin.ref rfl (hQ _ _ _ (((A_).trans yA).bM y9 (by omega)) k9)
      | ok z N8=>
        have hQ:mY p w g all σ d Q (.ok (.st 1 t6.s true .nil z .nil .nil t.l) N8):=hQ
        intro R s9 m9 y9 k9 EY N9 N_
        conv=>whnf
        have lX:=((A_).trans yA).len
        refine Fin.ref rfl (hQ _ _ _ _ (((A_).trans yA).bM y9 (by omega)) k9 EY ⟨σ2.length,0,.p0,R,.sl0,.sl0,by omega,rfl,N9,rfl,?_,rfl,rfl⟩)
        exact dw.mono (fun i hi=>by first | omega | (rw [List.length_set] at hi;omega)) (fun i hi a ha=>ha) N_
     ·rw [if_neg (by rw [show bV [61] (t8 :: r8)=gW [61] t8 from rfl,hi];decide)] at hQ
      conv=>whnf
      refine ak (aj (T:=aU) rfl rfl (ah (cB)) rfl) ?_
      conv=>whnf
      refine jL [59] kB ht8 (fun hi=>(aZ hE pU hi).1) (fun hi sA yA kA=>?_) (fun hi sA yA kA=>?_)
      ·rw [bn,if_pos (show bV [59] (t8 :: r8)=true from hi)] at hQ
       conv=>whnf
       refine ak (aj (T:=dM) rfl rfl (ah (yA.get (by omega) (Ry))) rfl) ?_
       conv=>whnf
       have lX:=(A_).len
       exact Fin.ref rfl (hQ _ _ _ _ ((A_).trans yA) kA Xm ⟨σ2.length,0,.p0,.p0,.sl0,.sl0,by omega,rfl,yA.get (by omega) (WM),rfl,rfl,rfl,rfl⟩)
      ·rw [bn,if_neg (show ¬bV [59] (t8 :: r8)=true by rw [show bV [59] (t8 :: r8)=gW [59] t8 from rfl,hi];decide)] at hQ
       conv=>whnf
       refine ak (aj (T:=dM) rfl rfl (ah (yA.get (by omega) (Ry))) rfl) ?_
       conv=>whnf
       exact Fin.ref rfl (hQ _ _ _ ((A_).trans yA) kA)
    ·have WL:bV je (t7 :: r7)=false:=hi
     have hQ:mY p w g all σ d Q (
      if bV [61] (t7 :: r7)=true then
             (dJ n d (t7 :: r7).tail).bind fun x ts=>.ok (.st 1 t6.s false .nil x .nil .nil t.l) ts
      else(bn [59] (t7 :: r7)).bind fun _ ts=>.ok (.st 1 t6.s false .nil .nil .nil .nil t.l) ts):=by
      simp only [WL,if_neg Bool.false_ne_true] at hQ;exact hQ
     rw [←NZ] at hQ
     conv=>whnf
     refine⟨?_,?_⟩
     ·conv=>whnf
      refine ak (aj (T:=dM) rfl rfl (ah (nU)) rfl) ?_
      rfl
     conv=>whnf
     refine ak (aG (T:=Qw) ([.i .i64 1,.s t6.s,.b false,.p0,.p0,.sl0,.sl0,.i .i64 t.l]) rfl (lW) rfl rfl (Nat.le_of_ble_eq_true rfl) rfl) ?_
     conv=>whnf
     have kB:=(k8).st (lW) (dG 1 t6.s false .p0 .p0 .sl0 .sl0 t.l)
     have WM:(List.set ((s6.set σ2.length (dG 1 [] false .p0 .p0 .sl0 .sl0 t.l)).set σ2.length (dG 1 t6.s false .p0 .p0 .sl0 .sl0 t.l)) σ2.length (dG 1 t6.s false .p0 .p0 .sl0 .sl0 t.l))[σ2.length]? =_:=at_set (lW) _
     have Ry:(List.set ((s6.set σ2.length (dG 1 [] false .p0 .p0 .sl0 .sl0 t.l)).set σ2.length (dG 1 t6.s false .p0 .p0 .sl0 .sl0 t.l)) σ2.length (dG 1 t6.s false .p0 .p0 .sl0 .sl0 t.l))[σ3.length]? =_:=aP (nU) (by omega) _
     have cB:(List.set ((s6.set σ2.length (dG 1 [] false .p0 .p0 .sl0 .sl0 t.l)).set σ2.length (dG 1 t6.s false .p0 .p0 .sl0 .sl0 t.l)) σ2.length (dG 1 t6.s false .p0 .p0 .sl0 .sl0 t.l))[σ.length]? =_:=aP (c8) (by omega) _
     have A_:aS p σ (List.set ((s6.set σ2.length (dG 1 [] false .p0 .p0 .sl0 .sl0 t.l)).set σ2.length (dG 1 t6.s false .p0 .p0 .sl0 .sl0 t.l)) σ2.length (dG 1 t6.s false .p0 .p0 .sl0 .sl0 t.l)):=(N7).bM (bW.bT _ _ _ _) (by omega)
     have hE:=he2
     obtain⟨t8,r8,pU⟩:=hE.ne
     obtain⟨ht8,Xm⟩:=bZ pU
     have hl8:(all.drop (m+1+1)).length=r8.length+1:=by rw [pU];rfl
     rw [pU] at hQ
     refine ak (aj (T:=aU) rfl rfl (ah (cB)) rfl) ?_
     conv=>whnf
     refine nR [61] kB ht8 (fun hi=>(aZ hE pU hi).1) (fun hi sA yA kA=>?_) (fun hi=>?_)
     ·rw [if_pos (show bV [61] (t8 :: r8)=true from hi)] at hQ
      have hQ:mY p w g all σ d Q ((dJ n d r8).bind fun x ts=>.ok (.st 1 t6.s false .nil x .nil .nil t.l) ts):=hQ
      obtain⟨hmA,RZ,WO⟩:=aZ hE pU hi
      have hlA:(all.drop (m+1+1+1)).length=r8.length:=by rw [Xm]
      rw [←Xm] at hQ
      conv=>whnf
      refine Xl d 1 _ σ2.length σ3.length σ.length t.l t6.s false .p0 sA (m+1+1+1) _ kA hd RZ (by omega) (yA.get (by omega) (Ry)) (yA.get (by omega) (cB)) (yA.get (by omega) (WM)) ⟨by omega,by omega,by omega,by omega,by omega⟩ ?_
      generalize dJ n d (all.drop (m+1+1+1))=rE at hQ
      cases rE with
      | out=>trivial
      | bad c l=>
        intro s9 y9 k9
        conv=>whnf
        exact Fin.ref rfl (hQ _ _ _ (((A_).trans yA).bM y9 (by omega)) k9)
      | ok z N8=>
        have hQ:mY p w g all σ d Q (.ok (.st 1 t6.s false .nil z .nil .nil t.l) N8):=hQ
        intro R s9 m9 y9 k9 EY N9 N_
        conv=>whnf
        have lX:=((A_).trans yA).len
        refine Fin.ref rfl (hQ _ _ _ _ (((A_).trans yA).bM y9 (by omega)) k9 EY ⟨σ2.length,0,.p0,R,.sl0,.sl0,by omega,rfl,N9,rfl,?_,rfl,rfl⟩)
        exact dw.mono (fun i hi=>by first | omega | (rw [List.length_set] at hi;omega)) (fun i hi a ha=>ha) N_
     ·rw [if_neg (by rw [show bV [61] (t8 :: r8)=gW [61] t8 from rfl,hi];decide)] at hQ
      conv=>whnf
      refine ak (aj (T:=aU) rfl rfl (ah (cB)) rfl) ?_
      conv=>whnf
      refine jL [59] kB ht8 (fun hi=>(aZ hE pU hi).1) (fun hi sA yA kA=>?_) (fun hi sA yA kA=>?_)
      ·rw [bn,if_pos (show bV [59] (t8 :: r8)=true from hi)] at hQ
       conv=>whnf
       refine ak (aj (T:=dM) rfl rfl (ah (yA.get (by omega) (Ry))) rfl) ?_
       conv=>whnf
       have lX:=(A_).len
       exact Fin.ref rfl (hQ _ _ _ _ ((A_).trans yA) kA Xm ⟨σ2.length,0,.p0,.p0,.sl0,.sl0,by omega,rfl,yA.get (by omega) (WM),rfl,rfl,rfl,rfl⟩)
      ·rw [bn,if_neg (show ¬bV [59] (t8 :: r8)=true by rw [show bV [59] (t8 :: r8)=gW [59] t8 from rfl,hi];decide)] at hQ
       conv=>whnf
       refine ak (aj (T:=dM) rfl rfl (ah (yA.get (by omega) (Ry))) rfl) ?_
       conv=>whnf
       exact Fin.ref rfl (hQ _ _ _ ((A_).trans yA) kA)
   ·simp only [iP,if_neg hk1] at hQ
    have hQ:mY p w g all σ d Q (.bad 4 t6.l):=hQ
    have uK:=y6.get (by omega) yH
    have yB:=y6.get (by omega) tC
    have c6:=y6.get (by omega) c5
    conv=>whnf
    refine⟨?_,?_⟩
    ·conv=>whnf
     refine ak (aj (T:=dM) rfl rfl (ah (yB)) rfl) ?_
     rfl
    conv=>whnf
    refine⟨?_,?_⟩
    ·conv=>whnf
     refine ak (aj (T:=dM) rfl rfl (ah (yB)) rfl) ?_
     rfl
    conv=>whnf
    refine ak (aG (T:=gZ) ([.i .i64 1,.s [],.b false,.p0,.p0,.sl0,.sl0,.i .i64 t.l]) rfl (uK) rfl rfl (Nat.le_of_ble_eq_true rfl) rfl) ?_
    conv=>whnf
    have k7:=k6.st uK (dG 1 [] false .p0 .p0 .sl0 .sl0 t.l)
    have u_:(s6.set σ2.length (dG 1 [] false .p0 .p0 .sl0 .sl0 t.l))[σ2.length]? =_:=at_set uK _
    have vg:(s6.set σ2.length (dG 1 [] false .p0 .p0 .sl0 .sl0 t.l))[σ3.length]? =_:=aP yB (by omega) _
    have c7:(s6.set σ2.length (dG 1 [] false .p0 .p0 .sl0 .sl0 t.l))[σ.length]? =_:=aP c6 (by omega) _
    refine⟨?_,?_⟩
    ·conv=>whnf
     refine ak (aj (T:=dM) rfl rfl (ah (vg)) rfl) ?_
     rfl
    conv=>whnf
    refine ak (aG (T:=iw) ([.i .i64 1,.s [],.b false,.p0,.p0,.sl0,.sl0,.i .i64 t.l]) rfl (u_) rfl rfl (Nat.le_of_ble_eq_true rfl) rfl) ?_
    conv=>whnf
    have k8:=k7.st u_ (dG 1 [] false .p0 .p0 .sl0 .sl0 t.l)
    have lW:((s6.set σ2.length (dG 1 [] false .p0 .p0 .sl0 .sl0 t.l)).set σ2.length (dG 1 [] false .p0 .p0 .sl0 .sl0 t.l))[σ2.length]? =_:=at_set u_ _
    have nU:((s6.set σ2.length (dG 1 [] false .p0 .p0 .sl0 .sl0 t.l)).set σ2.length (dG 1 [] false .p0 .p0 .sl0 .sl0 t.l))[σ3.length]? =_:=aP vg (by omega) _
    have c8:((s6.set σ2.length (dG 1 [] false .p0 .p0 .sl0 .sl0 t.l)).set σ2.length (dG 1 [] false .p0 .p0 .sl0 .sl0 t.l))[σ.length]? =_:=aP c7 (by omega) _
    have N7:aS p σ ((s6.set σ2.length (dG 1 [] false .p0 .p0 .sl0 .sl0 t.l)).set σ2.length (dG 1 [] false .p0 .p0 .sl0 .sl0 t.l)):=((uY.trans y6).bM (bW.bT _ _ _ _) (by omega)).bM (bW.bT _ _ _ _) (by omega)
    have ll8:((s6.set σ2.length (dG 1 [] false .p0 .p0 .sl0 .sl0 t.l)).set σ2.length (dG 1 [] false .p0 .p0 .sl0 .sl0 t.l)).length=s6.length:=by rw [List.length_set,List.length_set]
    refine ak (aj (T:=dM) rfl rfl (ah (nU)) rfl) ?_
    conv=>whnf
    refine ak (aj (T:=aU) rfl rfl (ah (c8)) rfl) ?_
    conv=>whnf
    refine ay.to (mJ [112,116,114] k8) ?_
    conv=>whnf
    refine⟨?_,?_⟩
    ·conv=>whnf
     refine ak (aj (T:=dM) rfl rfl (ah (nU)) rfl) ?_
     rfl
    conv=>whnf
    refine ak (aG (T:=Qw) ([.i .i64 1,.s [],.b false,.p0,.p0,.sl0,.sl0,.i .i64 t.l]) rfl (lW) rfl rfl (Nat.le_of_ble_eq_true rfl) rfl) ?_
    conv=>whnf
    have k9:=k8.st lW (dG 1 [] false .p0 .p0 .sl0 .sl0 t.l)
    refine ak (aj (T:=aU) rfl rfl (ah (aP c8 (by omega) _)) rfl) ?_
    conv=>whnf
    refine ay.to (mJ [61] k9) ?_
    conv=>whnf
    refine ak (aj (T:=aU) rfl rfl (ah (aP c8 (by omega) _)) rfl) ?_
    conv=>whnf
    refine ay.to (jM [59] k9) ?_
    conv=>whnf
    refine ak (aj (T:=dM) rfl rfl (ah (aP nU (by omega) _)) rfl) ?_
    conv=>whnf
    exact Fin.ref rfl (hQ _ _ _ (N7.bM (bW.bT _ _ _ _) (by omega)) k9)
  ·have hW:∀s,bV s (t :: r)=(t.s == s):=fun s=>by show ((t.k == 4 || t.k == 3) && t.s == s)=_;rw [hk4];rfl
   rw [if_neg (by rw [hW,hs];decide),if_neg (by rw [hW,hs];decide),if_neg (by rw [hW,hs];decide),if_neg (by rw [hW,hs];decide),if_neg (by rw [hW,hs];decide),if_neg (by rw [hW,hs];decide),if_neg (by rw [hW,hs];decide)] at hQ
   rw [show (t.s == [110,101,119])=false by rw [hs];rfl]
   conv=>whnf
   refine ak (aj (T:=iw) rfl rfl (ah (ct)) rfl) ?_
   conv=>whnf
   rw [show (t.s == [105,110])=false by rw [hs];rfl]
   conv=>whnf
   refine ak (aj (T:=aU) rfl rfl (ah (c1)) rfl) ?_
   conv=>whnf
   refine iL h4 hm1 fun s5 y5 k5=>?_
   have c5:=y5.get (by omega) c1
   have Ej:=y5.get (by omega) ct
   have yH:=y5.get (by omega) cx
   have tC:=y5.get (by omega) b4
   have uY:=xx.trans y5
   have l5:=y5.len
   conv=>whnf
   refine ak (aj (T:=iw) rfl rfl (ah (Ej)) rfl) ?_
   conv=>whnf
   rw [show (t.s == [118,97,114])=false by rw [hs];rfl]
   conv=>whnf
   rw [show (t.s == [105,102])=false by rw [hs];rfl]
   conv=>whnf
   rw [show (t.s == [119,104,105,108,101])=false by rw [hs];rfl]
   conv=>whnf
   rw [show (t.s == [111,117,116])=false by rw [hs];rfl]
   conv=>whnf
   rw [show (t.s == [102,114,101,101])=false by rw [hs];rfl]
   conv=>whnf
   rw [show (t.s == [100,114,97,105,110])=false by rw [hs];rfl]
   conv=>whnf
   rw [show (t.s == [114,101,116,117,114,110])=false by rw [hs];rfl]
   conv=>whnf
   rw [zQ n d t r hk4 (by rw [hs];decide) (by rw [hs];decide) (by rw [hs];decide) (by omega)] at hQ
   have hQ:mY p w g all σ d Q (.bad 4 t.l):=hQ
   have hal:=h.len
   refine ak (aj (T:=aU) rfl rfl (ah (c5)) rfl) ?_
   conv=>whnf
   refine ak (kD (T:=AQ) rfl rfl (ah (Ej)) (Nat.le_of_ble_eq_true rfl)) ?_
   conv=>whnf
   refine ak (aj (T:=aU) rfl rfl (ah (c5)) rfl) ?_
   conv=>whnf
   refine ak (aj (T:=pF) rfl rfl (ah (k5.obj)) rfl) ?_
   conv=>whnf
   have b6:(au 44 [.i .i64 t.k,.s t.s,.i .i64 t.l] s5)[s5.length]? =some ⟨0,false,.cells 44 [.i .i64 t.k,.s t.s,.i .i64 t.l]⟩:=aI _ _ _
   have x6:Ext s5 (au 44 [.i .i64 t.k,.s t.s,.i .i64 t.l] s5):=(Ext.refl s5).new _ _
   have l6:(au 44 [.i .i64 t.k,.s t.s,.i .i64 t.l] s5).length=s5.length+1:=aO _ _ _
   generalize au 44 [.i .i64 t.k,.s t.s,.i .i64 t.l] s5=sO at b6 x6 l6 ⊢
   have k6:=k5.ext x6
   have c6:=x6.get c5
   refine⟨?_,?_⟩
   ·conv=>whnf
    refine ak (aj (T:=aU) rfl rfl (ah (c6)) rfl) ?_
    rfl
   conv=>whnf
   refine⟨?_,?_⟩
   ·conv=>whnf
    refine ak (aj (T:=aU) rfl rfl (ah (c6)) rfl) ?_
    rfl
   conv=>whnf
   refine⟨?_,?_⟩
   ·conv=>whnf
    refine ak (aj (T:=pF) rfl rfl (ah (k6.obj)) rfl) ?_
    rfl
   conv=>whnf
   have hwl:=bQ k5.tok
   refine zO (t:=t) (m:=m+1) b6 k6.tok hm1 hal ?_
   conv=>whnf
   have c7:(sO.set s5.length ⟨1,false,.cells 44 (dW (t :: all.drop (m+1)))⟩)[σ.length]? =_:=aP c6 (by omega) _
   refine⟨?_,?_⟩
   ·conv=>whnf
    refine ak (aj (T:=aU) rfl rfl (ah (c7)) rfl) ?_
    rfl
   conv=>whnf
   have o7:(sO.set s5.length ⟨1,false,.cells 44 (dW (t :: all.drop (m+1)))⟩)[p]? =_:=aP k6.obj (by omega) _
   have t7:(sO.set s5.length ⟨1,false,.cells 44 (dW (t :: all.drop (m+1)))⟩)[s5.length]? =_:=at_set b6 _
   refine ak (aG (T:=pF) (oN s5.length 1 (t :: all.drop (m+1)).length 0 d .p0) rfl (o7) rfl rfl (Nat.le_of_ble_eq_true rfl) rfl) ?_
   conv=>whnf
   have k8:PW p s5.length 1 (t :: all.drop (m+1)) ((sO.set s5.length ⟨1,false,.cells 44 (dW (t :: all.drop (m+1)))⟩).set p ⟨0,false,.cells 103 (oN s5.length 1 (t :: all.drop (m+1)).length 0 d .p0)⟩) 0 d .p0:=⟨at_set o7 _,aP t7 (by omega) _,by omega,by rw [List.length_cons,List.length_drop];omega,by rw [List.length_cons];omega,h.dp⟩
   refine ak (aj (T:=aU) rfl rfl (ah (aP c7 (by omega) _)) rfl) ?_
   conv=>whnf
   refine sZ 4 k8 (t:=t) rfl fun s9 y9 k9=>?_
   conv=>whnf
   refine ak (aj (T:=dM) rfl rfl (ah (y9.get (by omega) (aP (aP (x6.get tC) (by omega) _) (by omega) _))) rfl) ?_
   conv=>whnf
   exact Fin.ref rfl (hQ _ _ _ ((((uY.trans (aS.of x6)).bM (bW.bT _ _ _ _) (by omega)).trans ((aS.refl p _).zK _)).trans y9) k9)
  ·have hW:∀s,bV s (t :: r)=(t.s == s):=fun s=>by show ((t.k == 4 || t.k == 3) && t.s == s)=_;rw [hk4];rfl
   rw [if_neg (by rw [hW,hs];decide),if_pos (by rw [hW,hs];rfl)] at hQ
   rw [show (t.s == [110,101,119])=false by rw [hs];rfl]
   conv=>whnf
   refine ak (aj (T:=iw) rfl rfl (ah (ct)) rfl) ?_
   conv=>whnf
   rw [show (t.s == [105,110])=false by rw [hs];rfl]
   conv=>whnf
   refine ak (aj (T:=aU) rfl rfl (ah (c1)) rfl) ?_
   conv=>whnf
   refine iL h4 hm1 fun s5 y5 k5=>?_
   have c5:=y5.get (by omega) c1
   have Ej:=y5.get (by omega) ct
   have yH:=y5.get (by omega) cx
   have tC:=y5.get (by omega) b4
   have uY:=xx.trans y5
   have l5:=y5.len
   conv=>whnf
   refine ak (aj (T:=iw) rfl rfl (ah (Ej)) rfl) ?_
   conv=>whnf
   rw [show (t.s == [118,97,114])=false by rw [hs];rfl]
   conv=>whnf
   rw [show (t.s == [105,102])=true by rw [hs];rfl]
   conv=>whnf
   rw [←hr] at hQ
   refine ak (aj (T:=aU) rfl rfl (ah (c5)) rfl) ?_
   conv=>whnf
   refine ak (aj (T:=gZ) rfl rfl (ah (Ej)) rfl) ?_
   conv=>whnf
   refine ih.branch d t.l s5 (m+1) _ k5 hd he1 (by omega) (hQ.to uY fun o g' s q=>?_)
   conv=>whnf
   exact Fin.ref rfl q
  ·have hW:∀s,bV s (t :: r)=(t.s == s):=fun s=>by show ((t.k == 4 || t.k == 3) && t.s == s)=_;rw [hk4];rfl
   rw [if_neg (by rw [hW,hs];decide),if_neg (by rw [hW,hs];decide),if_neg (by rw [hW,hs];decide),if_neg (by rw [hW,hs];decide),if_neg (by rw [hW,hs];decide),if_neg (by rw [hW,hs];decide),if_neg (by rw [hW,hs];decide)] at hQ
   rw [show (t.s == [110,101,119])=false by rw [hs];rfl]
   conv=>whnf
   refine ak (aj (T:=iw) rfl rfl (ah (ct)) rfl) ?_
   conv=>whnf
   rw [show (t.s == [105,110])=false by rw [hs];rfl]
   conv=>whnf
   refine ak (aj (T:=aU) rfl rfl (ah (c1)) rfl) ?_
   conv=>whnf
   refine iL h4 hm1 fun s5 y5 k5=>?_
   have c5:=y5.get (by omega) c1
   have Ej:=y5.get (by omega) ct
   have yH:=y5.get (by omega) cx
   have tC:=y5.get (by omega) b4
   have uY:=xx.trans y5
   have l5:=y5.len
   conv=>whnf
   refine ak (aj (T:=iw) rfl rfl (ah (Ej)) rfl) ?_
   conv=>whnf
   rw [show (t.s == [118,97,114])=false by rw [hs];rfl]
   conv=>whnf
   rw [show (t.s == [105,102])=false by rw [hs];rfl]
   conv=>whnf
   rw [show (t.s == [119,104,105,108,101])=false by rw [hs];rfl]
   conv=>whnf
   rw [show (t.s == [111,117,116])=false by rw [hs];rfl]
   conv=>whnf
   rw [show (t.s == [102,114,101,101])=false by rw [hs];rfl]
   conv=>whnf
   rw [show (t.s == [100,114,97,105,110])=false by rw [hs];rfl]
   conv=>whnf
   rw [show (t.s == [114,101,116,117,114,110])=false by rw [hs];rfl]
   conv=>whnf
   rw [zQ n d t r hk4 (by rw [hs];decide) (by rw [hs];decide) (by rw [hs];decide) (by omega)] at hQ
   have hQ:mY p w g all σ d Q (.bad 4 t.l):=hQ
   have hal:=h.len
   refine ak (aj (T:=aU) rfl rfl (ah (c5)) rfl) ?_
   conv=>whnf
   refine ak (kD (T:=AQ) rfl rfl (ah (Ej)) (Nat.le_of_ble_eq_true rfl)) ?_
   conv=>whnf
   refine ak (aj (T:=aU) rfl rfl (ah (c5)) rfl) ?_
   conv=>whnf
   refine ak (aj (T:=pF) rfl rfl (ah (k5.obj)) rfl) ?_
   conv=>whnf
   have b6:(au 44 [.i .i64 t.k,.s t.s,.i .i64 t.l] s5)[s5.length]? =some ⟨0,false,.cells 44 [.i .i64 t.k,.s t.s,.i .i64 t.l]⟩:=aI _ _ _
   have x6:Ext s5 (au 44 [.i .i64 t.k,.s t.s,.i .i64 t.l] s5):=(Ext.refl s5).new _ _
   have l6:(au 44 [.i .i64 t.k,.s t.s,.i .i64 t.l] s5).length=s5.length+1:=aO _ _ _
   generalize au 44 [.i .i64 t.k,.s t.s,.i .i64 t.l] s5=sO at b6 x6 l6 ⊢
   have k6:=k5.ext x6
   have c6:=x6.get c5
   refine⟨?_,?_⟩
   ·conv=>whnf
    refine ak (aj (T:=aU) rfl rfl (ah (c6)) rfl) ?_
    rfl
   conv=>whnf
   refine⟨?_,?_⟩
   ·conv=>whnf
    refine ak (aj (T:=aU) rfl rfl (ah (c6)) rfl) ?_
    rfl
   conv=>whnf
   refine⟨?_,?_⟩
   ·conv=>whnf
    refine ak (aj (T:=pF) rfl rfl (ah (k6.obj)) rfl) ?_
    rfl
   conv=>whnf
   have hwl:=bQ k5.tok
   refine zO (t:=t) (m:=m+1) b6 k6.tok hm1 hal ?_
   conv=>whnf
   have c7:(sO.set s5.length ⟨1,false,.cells 44 (dW (t :: all.drop (m+1)))⟩)[σ.length]? =_:=aP c6 (by omega) _
   refine⟨?_,?_⟩
   ·conv=>whnf
    refine ak (aj (T:=aU) rfl rfl (ah (c7)) rfl) ?_
    rfl
   conv=>whnf
   have o7:(sO.set s5.length ⟨1,false,.cells 44 (dW (t :: all.drop (m+1)))⟩)[p]? =_:=aP k6.obj (by omega) _
   have t7:(sO.set s5.length ⟨1,false,.cells 44 (dW (t :: all.drop (m+1)))⟩)[s5.length]? =_:=at_set b6 _
   refine ak (aG (T:=pF) (oN s5.length 1 (t :: all.drop (m+1)).length 0 d .p0) rfl (o7) rfl rfl (Nat.le_of_ble_eq_true rfl) rfl) ?_
   conv=>whnf
   have k8:PW p s5.length 1 (t :: all.drop (m+1)) ((sO.set s5.length ⟨1,false,.cells 44 (dW (t :: all.drop (m+1)))⟩).set p ⟨0,false,.cells 103 (oN s5.length 1 (t :: all.drop (m+1)).length 0 d .p0)⟩) 0 d .p0:=⟨at_set o7 _,aP t7 (by omega) _,by omega,by rw [List.length_cons,List.length_drop];omega,by rw [List.length_cons];omega,h.dp⟩
   refine ak (aj (T:=aU) rfl rfl (ah (aP c7 (by omega) _)) rfl) ?_
   conv=>whnf
   refine sZ 4 k8 (t:=t) rfl fun s9 y9 k9=>?_
   conv=>whnf
   refine ak (aj (T:=dM) rfl rfl (ah (y9.get (by omega) (aP (aP (x6.get tC) (by omega) _) (by omega) _))) rfl) ?_
   conv=>whnf
   exact Fin.ref rfl (hQ _ _ _ ((((uY.trans (aS.of x6)).bM (bW.bT _ _ _ _) (by omega)).trans ((aS.refl p _).zK _)).trans y9) k9)
  ·have hW:∀s,bV s (t :: r)=(t.s == s):=fun s=>by show ((t.k == 4 || t.k == 3) && t.s == s)=_;rw [hk4];rfl
   rw [if_neg (by rw [hW,hs];decide),if_neg (by rw [hW,hs];decide),if_pos (by rw [hW,hs];rfl)] at hQ
   rw [show (t.s == [110,101,119])=false by rw [hs];rfl]
   conv=>whnf
   refine ak (aj (T:=iw) rfl rfl (ah (ct)) rfl) ?_
   conv=>whnf
   rw [show (t.s == [105,110])=false by rw [hs];rfl]
   conv=>whnf
   refine ak (aj (T:=aU) rfl rfl (ah (c1)) rfl) ?_
   conv=>whnf
   refine iL h4 hm1 fun s5 y5 k5=>?_
   have c5:=y5.get (by omega) c1
   have Ej:=y5.get (by omega) ct
   have yH:=y5.get (by omega) cx
   have tC:=y5.get (by omega) b4
   have uY:=xx.trans y5
   have l5:=y5.len
   conv=>whnf
   refine ak (aj (T:=iw) rfl rfl (ah (Ej)) rfl) ?_
   conv=>whnf
   rw [show (t.s == [118,97,114])=false by rw [hs];rfl]
   conv=>whnf
   rw [show (t.s == [105,102])=false by rw [hs];rfl]
   conv=>whnf
   rw [show (t.s == [119,104,105,108,101])=true by rw [hs];rfl]
   conv=>whnf
   rw [←hr] at hQ
   have hg:=(sU n).expr d 1 (all.drop (m+1)) he1 (by omega)
   refine ak (aj (T:=dM) rfl rfl (ah (tC)) rfl) ?_
   conv=>whnf
   refine ak (aj (T:=dM) rfl rfl (ah (tC)) rfl) ?_
   conv=>whnf
   refine ak (aj (T:=aU) rfl rfl (ah (c5)) rfl) ?_
   conv=>whnf
   refine ihE.expr d 1 s5 (m+1) _ k5 hd (by omega) he1 (by omega) ?_
   generalize fJ n d 1 (all.drop (m+1))=r1 at hg hQ
   cases r1 with
   | out=>exact hg.elim
   | bad c l=>
     have hQ:mY p w g all σ d Q (.bad c l):=hQ
     intro o g' s6 y6 k6
     have uK:=y6.get (by omega) yH
     have yB:=y6.get (by omega) tC
     have c6:=y6.get (by omega) c5
     conv=>whnf
     refine⟨?_,?_⟩
     ·conv=>whnf
      refine ak (aj (T:=dM) rfl rfl (ah (yB)) rfl) ?_
      rfl
     conv=>whnf
     refine⟨?_,?_⟩
     ·conv=>whnf
      refine ak (aj (T:=dM) rfl rfl (ah (yB)) rfl) ?_
      rfl
     conv=>whnf
     refine ak (aG (T:=gZ) ([.i .i64 5,.s [],.b false,.p0,.p0,.sl0,.sl0,.i .i64 t.l]) rfl (uK) rfl rfl (Nat.le_of_ble_eq_true rfl) rfl) ?_
     conv=>whnf
     have k7:=k6.st uK (dG 5 [] false .p0 .p0 .sl0 .sl0 t.l)
     have u_:(s6.set σ2.length (dG 5 [] false .p0 .p0 .sl0 .sl0 t.l))[σ2.length]? =_:=at_set uK _
     have vg:(s6.set σ2.length (dG 5 [] false .p0 .p0 .sl0 .sl0 t.l))[σ3.length]? =_:=aP yB (by omega) _
     have c7:(s6.set σ2.length (dG 5 [] false .p0 .p0 .sl0 .sl0 t.l))[σ.length]? =_:=aP c6 (by omega) _
     refine⟨?_,?_⟩
     ·conv=>whnf
      refine ak (aj (T:=dM) rfl rfl (ah (vg)) rfl) ?_
      rfl
     conv=>whnf
     refine ak (aG (T:=bY) ([.i .i64 5,.s [],.b false,.p0,.p o g' 0,.sl0,.sl0,.i .i64 t.l]) rfl (u_) rfl rfl (Nat.le_of_ble_eq_true rfl) rfl) ?_
     conv=>whnf
     have k8:=k7.st u_ (dG 5 [] false .p0 (.p o g' 0) .sl0 .sl0 t.l)
     have lW:((s6.set σ2.length (dG 5 [] false .p0 .p0 .sl0 .sl0 t.l)).set σ2.length (dG 5 [] false .p0 (.p o g' 0) .sl0 .sl0 t.l))[σ2.length]? =_:=at_set u_ _
     have nU:((s6.set σ2.length (dG 5 [] false .p0 .p0 .sl0 .sl0 t.l)).set σ2.length (dG 5 [] false .p0 (.p o g' 0) .sl0 .sl0 t.l))[σ3.length]? =_:=aP vg (by omega) _
     have N7:aS p σ ((s6.set σ2.length (dG 5 [] false .p0 .p0 .sl0 .sl0 t.l)).set σ2.length (dG 5 [] false .p0 (.p o g' 0) .sl0 .sl0 t.l)):=((uY.trans y6).bM (bW.bT _ _ _ _) (by omega)).bM (bW.bT _ _ _ _) (by omega)
     refine ak (aj (T:=dM) rfl rfl (ah (nU)) rfl) ?_
     conv=>whnf
     refine ak (aj (T:=aU) rfl rfl (ah (aP c7 (by omega) _)) rfl) ?_
     conv=>whnf
     refine yx k8 (by have:=h.dp;omega) fun s9 y9 k9=>?_
     conv=>whnf
     refine⟨?_,?_⟩
     ·conv=>whnf
      refine ak (aj (T:=dM) rfl rfl (ah (y9.get (by omega) nU)) rfl) ?_
      rfl
     conv=>whnf
     refine ak (aG (T:=gq) ([.i .i64 5,.s [],.b false,.p0,.p o g' 0,.sl0,.sl0,.i .i64 t.l]) rfl (y9.get (by omega) lW) rfl rfl (Nat.le_of_ble_eq_true rfl) rfl) ?_
     conv=>whnf
     have k10:=k9.st (y9.get (by omega) lW) (dG 5 [] false .p0 (.p o g' 0) .sl0 .sl0 t.l)
     refine ak (aj (T:=dM) rfl rfl (ah (aP (y9.get (by omega) nU) (by omega) _)) rfl) ?_
     conv=>whnf
     exact Fin.ref rfl (hQ _ _ _ ((N7.trans y9).bM (bW.bT _ _ _ _) (by omega)) k10)
   | ok z dK=>
     have hQ:mY p w g all σ d Q ((fB n d dK).bind fun th ts=>.ok (.st 5 [] false .nil z th .nil t.l) ts):=hQ
     intro o g' s6 m6 y6 k6 hm6 Lj
     have uK:=y6.get (by omega) yH
     have yB:=y6.get (by omega) tC
     have c6:=y6.get (by omega) c5
     have l6:=y6.len
     rw [←hm6] at hQ hg
     have lg:=hg.2.2
     have hgb:=(ER n).block d (all.drop m6) hg.2.1 (by omega)
     conv=>whnf
     refine⟨?_,?_⟩
     ·conv=>whnf
      refine ak (aj (T:=dM) rfl rfl (ah (yB)) rfl) ?_
      rfl
     conv=>whnf
     refine⟨?_,?_⟩
     ·conv=>whnf
      refine ak (aj (T:=dM) rfl rfl (ah (yB)) rfl) ?_
      rfl
     conv=>whnf
     refine ak (aG (T:=gZ) ([.i .i64 5,.s [],.b false,.p0,.p0,.sl0,.sl0,.i .i64 t.l]) rfl (uK) rfl rfl (Nat.le_of_ble_eq_true rfl) rfl) ?_
     conv=>whnf
     have k7:=k6.st uK (dG 5 [] false .p0 .p0 .sl0 .sl0 t.l)
     have u_:(s6.set σ2.length (dG 5 [] false .p0 .p0 .sl0 .sl0 t.l))[σ2.length]? =_:=at_set uK _
     have vg:(s6.set σ2.length (dG 5 [] false .p0 .p0 .sl0 .sl0 t.l))[σ3.length]? =_:=aP yB (by omega) _
     have c7:(s6.set σ2.length (dG 5 [] false .p0 .p0 .sl0 .sl0 t.l))[σ.length]? =_:=aP c6 (by omega) _
     refine⟨?_,?_⟩
     ·conv=>whnf
      refine ak (aj (T:=dM) rfl rfl (ah (vg)) rfl) ?_
      rfl
     conv=>whnf
     refine ak (aG (T:=bY) ([.i .i64 5,.s [],.b false,.p0,.p o g' 0,.sl0,.sl0,.i .i64 t.l]) rfl (u_) rfl rfl (Nat.le_of_ble_eq_true rfl) rfl) ?_
     conv=>whnf
     have k8:=k7.st u_ (dG 5 [] false .p0 (.p o g' 0) .sl0 .sl0 t.l)
     have lW:((s6.set σ2.length (dG 5 [] false .p0 .p0 .sl0 .sl0 t.l)).set σ2.length (dG 5 [] false .p0 (.p o g' 0) .sl0 .sl0 t.l))[σ2.length]? =_:=at_set u_ _
     have nU:((s6.set σ2.length (dG 5 [] false .p0 .p0 .sl0 .sl0 t.l)).set σ2.length (dG 5 [] false .p0 (.p o g' 0) .sl0 .sl0 t.l))[σ3.length]? =_:=aP vg (by omega) _
     have N7:aS p σ ((s6.set σ2.length (dG 5 [] false .p0 .p0 .sl0 .sl0 t.l)).set σ2.length (dG 5 [] false .p0 (.p o g' 0) .sl0 .sl0 t.l)):=((uY.trans y6).bM (bW.bT _ _ _ _) (by omega)).bM (bW.bT _ _ _ _) (by omega)
     refine ak (aj (T:=dM) rfl rfl (ah (nU)) rfl) ?_
     conv=>whnf
     refine ak (aj (T:=aU) rfl rfl (ah (aP c7 (by omega) _)) rfl) ?_
     conv=>whnf
     refine ih.block d _ m6 _ k8 hd hg.2.1 (by omega) ?_
     generalize fB n d (all.drop m6)=r2 at hgb hQ
     cases r2 with
     | out=>exact hgb.elim
     | bad c l=>
       have hQ:mY p w g all σ d Q (.bad c l):=hQ
       intro A s9 y9 k9 hA
       refine uZ _ _ ?_
       conv=>whnf
       refine⟨?_,?_⟩
       ·conv=>whnf
        refine ak (aj (T:=dM) rfl rfl (ah (y9.get (by omega) nU)) rfl) ?_
        rfl
       conv=>whnf
       refine ak (iJ (T:=gq) [.i .i64 5,.s [],.b false,.p0,.p o g' 0,A,.sl0,.i .i64 t.l] hA rfl rfl (y9.get (by omega) lW) (Nat.le_of_ble_eq_true rfl) rfl) ?_
       have k10:=k9.st (y9.get (by omega) lW) (dG 5 [] false .p0 (.p o g' 0) A .sl0 t.l)
       conv=>whnf
       refine ak (aj (T:=dM) rfl rfl (ah (aP (y9.get (by omega) nU) (by omega) _)) rfl) ?_
       conv=>whnf
       exact Fin.ref rfl (hQ _ _ _ ((N7.trans y9).bM (bW.bT _ _ _ _) (by omega)) k10)
     | ok th kQ=>
       have hQ:mY p w g all σ d Q (.ok (.st 5 [] false .nil z th .nil t.l) kQ):=hQ
       intro A s9 m9 y9 k9 EY hth hA
       have l9:s6.length≤s9.length:=by have:=y9.len;rw [List.length_set,List.length_set] at this;exact this
       refine uZ _ _ ?_
       conv=>whnf
       refine⟨?_,?_⟩
       ·conv=>whnf
        refine ak (aj (T:=dM) rfl rfl (ah (y9.get (by omega) nU)) rfl) ?_
        rfl
       conv=>whnf
       refine ak (iJ (T:=gq) [.i .i64 5,.s [],.b false,.p0,.p o g' 0,A,.sl0,.i .i64 t.l] hA rfl rfl (y9.get (by omega) lW) (Nat.le_of_ble_eq_true rfl) rfl) ?_
       have k10:=k9.st (y9.get (by omega) lW) (dG 5 [] false .p0 (.p o g' 0) A .sl0 t.l)
       conv=>whnf
       refine ak (aj (T:=dM) rfl rfl (ah (aP (y9.get (by omega) nU) (by omega) _)) rfl) ?_
       conv=>whnf
       refine Fin.ref rfl (hQ _ _ _ _ ((N7.trans y9).bM (bW.bT _ _ _ _) (by omega)) k10 EY ⟨σ2.length,0,.p0,.p o g' 0,A,.sl0,by omega,rfl,at_set (y9.get (by omega) lW) _,rfl,?_,?_,rfl⟩)
       ·exact dw.mono (fun i hi=>by omega) (fun i hi a ha=>aP (y9.get (by omega) (aP (aP ha (by omega) _) (by omega) _)) (by omega) _) Lj
       ·exact iF.mono (fun i hi=>by rw [List.length_set,List.length_set] at hi;omega) (fun i hi a ha=>aP ha (by rw [List.length_set,List.length_set] at hi;omega) _) hth
  ·have hW:∀s,bV s (t :: r)=(t.s == s):=fun s=>by show ((t.k == 4 || t.k == 3) && t.s == s)=_;rw [hk4];rfl
   rw [if_neg (by rw [hW,hs];decide),if_neg (by rw [hW,hs];decide),if_neg (by rw [hW,hs];decide),if_pos (by rw [hW,hs];rfl)] at hQ
   rw [show (t.s == [110,101,119])=false by rw [hs];rfl]
   conv=>whnf
   refine ak (aj (T:=iw) rfl rfl (ah (ct)) rfl) ?_
   conv=>whnf
   rw [show (t.s == [105,110])=false by rw [hs];rfl]
   conv=>whnf
   refine ak (aj (T:=aU) rfl rfl (ah (c1)) rfl) ?_
   conv=>whnf
   refine iL h4 hm1 fun s5 y5 k5=>?_
   have c5:=y5.get (by omega) c1
   have Ej:=y5.get (by omega) ct
   have yH:=y5.get (by omega) cx
   have tC:=y5.get (by omega) b4
   have uY:=xx.trans y5
   have l5:=y5.len
   conv=>whnf
   refine ak (aj (T:=iw) rfl rfl (ah (Ej)) rfl) ?_
   conv=>whnf
   rw [show (t.s == [118,97,114])=false by rw [hs];rfl]
   conv=>whnf
   rw [show (t.s == [105,102])=false by rw [hs];rfl]
   conv=>whnf
   rw [show (t.s == [119,104,105,108,101])=false by rw [hs];rfl]
   conv=>whnf
   rw [show (t.s == [111,117,116])=true by rw [hs];rfl]
   conv=>whnf
   rw [←hr] at hQ
   refine Xl d 6 _ σ2.length σ3.length σ.length t.l [] false .p0 s5 (m+1) _ k5 hd he1 (by omega) (tC) (c5) (yH) ⟨by omega,by omega,by omega,by omega,by omega⟩ ?_
   generalize dJ n d (all.drop (m+1))=rE at hQ
   cases rE with
   | out=>trivial
   | bad c l=>
     intro s9 y9 k9
     conv=>whnf
     exact Fin.ref rfl (hQ _ _ _ ((uY).bM y9 (by omega)) k9)
   | ok z N8=>
     have hQ:mY p w g all σ d Q (.ok (.st 6 [] false .nil z .nil .nil t.l) N8):=hQ
     intro R s9 m9 y9 k9 EY N9 N_
     conv=>whnf
     have lX:=(uY).len
     refine Fin.ref rfl (hQ _ _ _ _ ((uY).bM y9 (by omega)) k9 EY ⟨σ2.length,0,.p0,R,.sl0,.sl0,by omega,rfl,N9,rfl,?_,rfl,rfl⟩)
     exact dw.mono (fun i hi=>by first | omega | (rw [List.length_set] at hi;omega)) (fun i hi a ha=>ha) N_
  ·have hW:∀s,bV s (t :: r)=(t.s == s):=fun s=>by show ((t.k == 4 || t.k == 3) && t.s == s)=_;rw [hk4];rfl
   rw [if_neg (by rw [hW,hs];decide),if_neg (by rw [hW,hs];decide),if_neg (by rw [hW,hs];decide),if_neg (by rw [hW,hs];decide),if_pos (by rw [hW,hs];rfl)] at hQ
   rw [show (t.s == [110,101,119])=false by rw [hs];rfl]
   conv=>whnf
   refine ak (aj (T:=iw) rfl rfl (ah (ct)) rfl) ?_
   conv=>whnf
   rw [show (t.s == [105,110])=false by rw [hs];rfl]
   conv=>whnf
   refine ak (aj (T:=aU) rfl rfl (ah (c1)) rfl) ?_
   conv=>whnf
   refine iL h4 hm1 fun s5 y5 k5=>?_
   have c5:=y5.get (by omega) c1
   have Ej:=y5.get (by omega) ct
   have yH:=y5.get (by omega) cx
   have tC:=y5.get (by omega) b4
   have uY:=xx.trans y5
   have l5:=y5.len
   conv=>whnf
   refine ak (aj (T:=iw) rfl rfl (ah (Ej)) rfl) ?_
   conv=>whnf
   rw [show (t.s == [118,97,114])=false by rw [hs];rfl]
   conv=>whnf
   rw [show (t.s == [105,102])=false by rw [hs];rfl]
   conv=>whnf
   rw [show (t.s == [119,104,105,108,101])=false by rw [hs];rfl]
   conv=>whnf
   rw [show (t.s == [111,117,116])=false by rw [hs];rfl]
   conv=>whnf
   rw [show (t.s == [102,114,101,101])=true by rw [hs];rfl]
   conv=>whnf
   rw [←hr] at hQ
   refine Xl d 7 _ σ2.length σ3.length σ.length t.l [] false .p0 s5 (m+1) _ k5 hd he1 (by omega) (tC) (c5) (yH) ⟨by omega,by omega,by omega,by omega,by omega⟩ ?_
   generalize dJ n d (all.drop (m+1))=rE at hQ
   cases rE with
   | out=>trivial
   | bad c l=>
     intro s9 y9 k9
     conv=>whnf
     exact Fin.ref rfl (hQ _ _ _ ((uY).bM y9 (by omega)) k9)
   | ok z N8=>
     have hQ:mY p w g all σ d Q (.ok (.st 7 [] false .nil z .nil .nil t.l) N8):=hQ
     intro R s9 m9 y9 k9 EY N9 N_
     conv=>whnf
     have lX:=(uY).len
     refine Fin.ref rfl (hQ _ _ _ _ ((uY).bM y9 (by omega)) k9 EY ⟨σ2.length,0,.p0,R,.sl0,.sl0,by omega,rfl,N9,rfl,?_,rfl,rfl⟩)
     exact dw.mono (fun i hi=>by first | omega | (rw [List.length_set] at hi;omega)) (fun i hi a ha=>ha) N_
  ·have hW:∀s,bV s (t :: r)=(t.s == s):=fun s=>by show ((t.k == 4 || t.k == 3) && t.s == s)=_;rw [hk4];rfl
   rw [if_neg (by rw [hW,hs];decide),if_neg (by rw [hW,hs];decide),if_neg (by rw [hW,hs];decide),if_neg (by rw [hW,hs];decide),if_neg (by rw [hW,hs];decide),if_pos (by rw [hW,hs];rfl)] at hQ
   rw [show (t.s == [110,101,119])=false by rw [hs];rfl]
   conv=>whnf
   refine ak (aj (T:=iw) rfl rfl (ah (ct)) rfl) ?_
   conv=>whnf
   rw [show (t.s == [105,110])=false by rw [hs];rfl]
   conv=>whnf
   refine ak (aj (T:=aU) rfl rfl (ah (c1)) rfl) ?_
   conv=>whnf
   refine iL h4 hm1 fun s5 y5 k5=>?_
   have c5:=y5.get (by omega) c1
   have Ej:=y5.get (by omega) ct
   have yH:=y5.get (by omega) cx
   have tC:=y5.get (by omega) b4
   have uY:=xx.trans y5
   have l5:=y5.len
   conv=>whnf
   refine ak (aj (T:=iw) rfl rfl (ah (Ej)) rfl) ?_
   conv=>whnf
   rw [show (t.s == [118,97,114])=false by rw [hs];rfl]
   conv=>whnf
   rw [show (t.s == [105,102])=false by rw [hs];rfl]
   conv=>whnf
   rw [show (t.s == [119,104,105,108,101])=false by rw [hs];rfl]
   conv=>whnf
   rw [show (t.s == [111,117,116])=false by rw [hs];rfl]
   conv=>whnf
   rw [show (t.s == [102,114,101,101])=false by rw [hs];rfl]
   conv=>whnf
   rw [show (t.s == [100,114,97,105,110])=true by rw [hs];rfl]
   conv=>whnf
   obtain⟨t6,r6,kJ⟩:=he1.ne
   obtain⟨PN,EX⟩:=bZ kJ
   rw [←hr,kJ] at hQ
   refine ak (aj (T:=dM) rfl rfl (ah (tC)) rfl) ?_
   conv=>whnf
   refine ak (aG (T:=gZ) ([.i .i64 8,.s [],.b false,.p0,.p0,.sl0,.sl0,.i .i64 t.l]) rfl (yH) rfl rfl (Nat.le_of_ble_eq_true rfl) rfl) ?_
   conv=>whnf
   have k6:=k5.st yH (dG 8 [] false .p0 .p0 .sl0 .sl0 t.l)
   have uK:(s5.set σ2.length (dG 8 [] false .p0 .p0 .sl0 .sl0 t.l))[σ2.length]? =_:=at_set yH _
   have yB:(s5.set σ2.length (dG 8 [] false .p0 .p0 .sl0 .sl0 t.l))[σ3.length]? =_:=aP tC (by omega) _
   have xx6:aS p σ (s5.set σ2.length (dG 8 [] false .p0 .p0 .sl0 .sl0 t.l)):=uY.bM (bW.bT _ _ _ _) (by omega)
   refine ak (aj (T:=aU) rfl rfl (ah (aP c5 (by omega) _)) rfl) ?_
   conv=>whnf
   refine jL [59] k6 PN (fun hi=>(aZ he1 kJ hi).1) (fun hi s7 y7 k7=>?_) (fun hi s7 y7 k7=>?_)
   ·rw [bn,if_pos (show bV [59] (t6 :: r6)=true from hi)] at hQ
    conv=>whnf
    refine ak (aj (T:=dM) rfl rfl (ah (y7.get (by omega) yB)) rfl) ?_
    conv=>whnf
    have lx6:=xx6.len
    exact Fin.ref rfl (hQ _ _ _ _ (xx6.trans y7) k7 EX ⟨σ2.length,0,.p0,.p0,.sl0,.sl0,by omega,rfl,y7.get (by omega) uK,rfl,rfl,rfl,rfl⟩)
   ·rw [bn,if_neg (show ¬bV [59] (t6 :: r6)=true by rw [show bV [59] (t6 :: r6)=gW [59] t6 from rfl,hi];decide)] at hQ
    conv=>whnf
    refine ak (aj (T:=dM) rfl rfl (ah (y7.get (by omega) yB)) rfl) ?_
    conv=>whnf
    exact Fin.ref rfl (hQ _ _ _ (xx6.trans y7) k7)
  ·have hW:∀s,bV s (t :: r)=(t.s == s):=fun s=>by show ((t.k == 4 || t.k == 3) && t.s == s)=_;rw [hk4];rfl
   rw [if_neg (by rw [hW,hs];decide),if_neg (by rw [hW,hs];decide),if_neg (by rw [hW,hs];decide),if_neg (by rw [hW,hs];decide),if_neg (by rw [hW,hs];decide),if_neg (by rw [hW,hs];decide),if_pos (by rw [hW,hs];rfl)] at hQ
   rw [show (t.s == [110,101,119])=false by rw [hs];rfl]
   conv=>whnf
   refine ak (aj (T:=iw) rfl rfl (ah (ct)) rfl) ?_
   conv=>whnf
   rw [show (t.s == [105,110])=false by rw [hs];rfl]
   conv=>whnf
   refine ak (aj (T:=aU) rfl rfl (ah (c1)) rfl) ?_
   conv=>whnf
   refine iL h4 hm1 fun s5 y5 k5=>?_
   have c5:=y5.get (by omega) c1
   have Ej:=y5.get (by omega) ct
   have yH:=y5.get (by omega) cx
   have tC:=y5.get (by omega) b4
   have uY:=xx.trans y5
   have l5:=y5.len
   conv=>whnf
   refine ak (aj (T:=iw) rfl rfl (ah (Ej)) rfl) ?_
   conv=>whnf
   rw [show (t.s == [118,97,114])=false by rw [hs];rfl]
   conv=>whnf
   rw [show (t.s == [105,102])=false by rw [hs];rfl]
   conv=>whnf
   rw [show (t.s == [119,104,105,108,101])=false by rw [hs];rfl]
   conv=>whnf
   rw [show (t.s == [111,117,116])=false by rw [hs];rfl]
   conv=>whnf
   rw [show (t.s == [102,114,101,101])=false by rw [hs];rfl]
   conv=>whnf
   rw [show (t.s == [100,114,97,105,110])=false by rw [hs];rfl]
   conv=>whnf
   rw [show (t.s == [114,101,116,117,114,110])=true by rw [hs];rfl]
   conv=>whnf
   obtain⟨t6,r6,kJ⟩:=he1.ne
   obtain⟨PN,EX⟩:=bZ kJ
   rw [←hr,kJ] at hQ
   refine ak (aj (T:=aU) rfl rfl (ah (c5)) rfl) ?_
   conv=>whnf
   refine nR [59] k5 PN (fun hi=>(aZ he1 kJ hi).1) (fun hi s6 y6 k6=>?_) (fun hi=>?_)
   ·rw [if_pos (show bV [59] (t6 :: r6)=true from hi)] at hQ
    have hQ:mY p w g all σ d Q (.ok (.st 9 [] false .nil .nil .nil .nil t.l) r6):=hQ
    conv=>whnf
    refine ak (aj (T:=dM) rfl rfl (ah (y6.get (by omega) tC)) rfl) ?_
    conv=>whnf
    refine ak (aG (T:=gZ) ([.i .i64 9,.s [],.b false,.p0,.p0,.sl0,.sl0,.i .i64 t.l]) rfl (y6.get (by omega) yH) rfl rfl (Nat.le_of_ble_eq_true rfl) rfl) ?_
    conv=>whnf
    have uK:=y6.get (by omega) yH
    have k7:=k6.st uK (dG 9 [] false .p0 .p0 .sl0 .sl0 t.l)
    refine ak (aj (T:=dM) rfl rfl (ah (aP (y6.get (by omega) tC) (by omega) _)) rfl) ?_
    conv=>whnf
    have xx7:aS p σ (s6.set σ2.length (dG 9 [] false .p0 .p0 .sl0 .sl0 t.l)):=(uY.trans y6).bM (bW.bT _ _ _ _) (by omega)
    exact Fin.ref rfl (hQ _ _ _ _ xx7 k7 EX ⟨σ2.length,0,.p0,.p0,.sl0,.sl0,by omega,rfl,at_set uK _,rfl,rfl,rfl,rfl⟩)
   ·rw [if_neg (by rw [show bV [59] (t6 :: r6)=gW [59] t6 from rfl,hi];decide),←kJ] at hQ
    conv=>whnf
    refine Xl d 9 _ σ2.length σ3.length σ.length t.l [] false .p0 s5 (m+1) _ k5 hd he1 (by omega) (tC) (c5) (yH) ⟨by omega,by omega,by omega,by omega,by omega⟩ ?_
    generalize dJ n d (all.drop (m+1))=rE at hQ
    cases rE with
    | out=>trivial
    | bad c l=>
      intro s9 y9 k9
      conv=>whnf
      exact Fin.ref rfl (hQ _ _ _ ((uY).bM y9 (by omega)) k9)
    | ok z N8=>
      have hQ:mY p w g all σ d Q (.ok (.st 9 [] false .nil z .nil .nil t.l) N8):=hQ
      intro R s9 m9 y9 k9 EY N9 N_
      conv=>whnf
      have lX:=(uY).len
      refine Fin.ref rfl (hQ _ _ _ _ ((uY).bM y9 (by omega)) k9 EY ⟨σ2.length,0,.p0,R,.sl0,.sl0,by omega,rfl,N9,rfl,?_,rfl,rfl⟩)
      exact dw.mono (fun i hi=>by first | omega | (rw [List.length_set] at hi;omega)) (fun i hi a ha=>ha) N_
 case' inl=>
  have hW:∀s,s∈keys→bV s (t :: r)=false:=fun s hs=>by show ((t.k == 4 || t.k == 3) && t.s == s)=_;rw [beq_eq_false_iff_ne.2 hk4,Bool.false_or];exact nokey (hko t (List.mem_of_getElem? ht)).2 s hs
  rw [if_neg (by rw [hW _ (by decide)];decide),if_neg (by rw [hW _ (by decide)];decide),if_neg (by rw [hW _ (by decide)];decide),if_neg (by rw [hW _ (by decide)];decide),if_neg (by rw [hW _ (by decide)];decide),if_neg (by rw [hW _ (by decide)];decide),if_neg (by rw [hW _ (by decide)];decide)] at hQ
  rw [decide_eq_false (by omega)]
  conv=>whnf
 case' inr.inl=>
  rw [decide_eq_true (by omega)]
  conv=>whnf
  refine ak (aj (T:=aU) rfl rfl (ah (c1)) rfl) ?_
  conv=>whnf
  refine ay.to (lV h4) ?_
  conv=>whnf
  refine ak (aj (T:=iw) rfl rfl (ah (ct)) rfl) ?_
  conv=>whnf
  have hW:∀s,bV s (t :: r)=(t.s == s):=fun s=>by show ((t.k == 4 || t.k == 3) && t.s == s)=_;rw [hk4];rfl
  rw [if_neg (by rw [hW,hs];decide),if_neg (by rw [hW,hs];decide),if_neg (by rw [hW,hs];decide),if_neg (by rw [hW,hs];decide),if_neg (by rw [hW,hs];decide),if_neg (by rw [hW,hs];decide),if_neg (by rw [hW,hs];decide)] at hQ
  rw [show (t.s == [110,101,119])=true by rw [hs];rfl]
  conv=>whnf
 case' inr.inr.inl=>
  rw [decide_eq_true (by omega)]
  conv=>whnf
  refine ak (aj (T:=aU) rfl rfl (ah (c1)) rfl) ?_
  conv=>whnf
  refine ay.to (lV h4) ?_
  conv=>whnf
  refine ak (aj (T:=iw) rfl rfl (ah (ct)) rfl) ?_
  conv=>whnf
  have hW:∀s,bV s (t :: r)=(t.s == s):=fun s=>by show ((t.k == 4 || t.k == 3) && t.s == s)=_;rw [hk4];rfl
  rw [if_neg (by rw [hW,hs];decide),if_neg (by rw [hW,hs];decide),if_neg (by rw [hW,hs];decide),if_neg (by rw [hW,hs];decide),if_neg (by rw [hW,hs];decide),if_neg (by rw [hW,hs];decide),if_neg (by rw [hW,hs];decide)] at hQ
  rw [show (t.s == [110,101,119])=false by rw [hs];rfl]
  conv=>whnf
  refine ak (aj (T:=iw) rfl rfl (ah (ct)) rfl) ?_
  conv=>whnf
  rw [show (t.s == [105,110])=true by rw [hs];rfl]
  conv=>whnf
 all_goals
  have hQ:mY p w g all σ d Q ((kP n d (all.drop m)).bind fun x ts=>match x with
   | .nil=>.out
   | .ex k _ nm _ _ _ _ _=>
     if bV [61] ts=true then
      if k=2 then(dJ n d ts.tail).bind fun y ts=>.ok (.st 2 nm false .nil y .nil .nil t.l) ts
      else if k=5∨k=6 then(dJ n d ts.tail).bind fun y ts=>.ok (.st 3 [] false x y .nil .nil t.l) ts
      else .bad 4 (oG ts)
     else if k=4 then(bn [59] ts).bind fun _ ts=>.ok (.st 10 [] false .nil x .nil .nil t.l) ts
     else .bad 4 (oG ts)):=by rw [hts];exact hQ
  have hg:=(sU n).post d (all.drop m) he (by omega)
  refine ak (aj (T:=aU) rfl rfl (ah (c1)) rfl) ?_
  conv=>whnf
  refine ihE.post d iR m _ h4 hd he (by omega) ?_
  generalize kP n d (all.drop m)=r1 at hg hQ
  cases r1 with
  | out=>exact hg.elim
  | bad c l=>
    have hQ:mY p w g all σ d Q (.bad c l):=hQ
    intro o g' s6 y6 k6
    have c6:=y6.get (by omega) c1
    conv=>whnf
    refine ak (aj (T:=aU) rfl rfl (ah (c6)) rfl) ?_
    conv=>whnf
    have b7:(au 9 [.s [61]] s6)[s6.length]? =some ⟨0,false,.cells 9 [.s [61]]⟩:=aI _ _ _
    have x7:Ext s6 (au 9 [.s [61]] s6):=(Ext.refl s6).new _ _
    have l7:(au 9 [.s [61]] s6).length=s6.length+1:=aO _ _ _
    generalize au 9 [.s [61]] s6=wE at b7 x7 l7 ⊢
    have k7:=k6.ext x7
    have c7:=x7.get c6
    refine ay.to (KY k7 s6.length 0 1) ?_
    conv=>whnf
    refine ak (aj (T:=aU) rfl rfl (ah (c7)) rfl) ?_
    conv=>whnf
    refine ay.to (sW k7) ?_
    conv=>whnf
    refine ak (aj (T:=dM) rfl rfl (ah (x7.get (y6.get (by omega) b4))) rfl) ?_
    conv=>whnf
    exact Fin.ref rfl (hQ _ _ _ ((xx.trans y6).trans (aS.of x7)) k7)
  | ok z dK=>
    intro o g' s6 m6 y6 k6 hm6 Lj
    have c6:=y6.get (by omega) c1
    have yB:=y6.get (by omega) b4
    have uK:=y6.get (by omega) cx
    have he2:bg (all.drop m6):=by rw [hm6];exact hg.2.1
    obtain⟨t6,r6,kJ⟩:=he2.ne
    obtain⟨PN,EX⟩:=bZ kJ
    have hl6:(all.drop m6).length=r6.length+1:=by rw [kJ];rfl
    have lg:=hg.2.2
    rw [←hm6] at lg
    cases z with
    | nil=>exact hg.1.elim
    | ex kz nz EZ tz lz rz az Xn=>
      have hQ:mY p w g all σ d Q (
       if bV [61] dK=true then
        if kz=2 then(dJ n d dK.tail).bind fun y ts=>.ok (.st 2 EZ false .nil y .nil .nil t.l) ts
        else if kz=5∨kz=6 then(dJ n d dK.tail).bind fun y ts=>.ok (.st 3 [] false (.ex kz nz EZ tz lz rz az Xn) y .nil .nil t.l) ts
        else .bad 4 (oG dK)
       else if kz=4 then(bn [59] dK).bind fun _ ts=>.ok (.st 10 [] false .nil (.ex kz nz EZ tz lz rz az Xn) .nil .nil t.l) ts
       else .bad 4 (oG dK)):=hQ
      have hez':=Lj
      obtain⟨oz,gz,Lz,Rz,Az,hoz,hvz,hzo,_,_,_⟩:=hez'
      cases hvz
      rw [←hm6,kJ] at hQ
      conv=>whnf
      refine ak (aj (T:=aU) rfl rfl (ah (c6)) rfl) ?_
      conv=>whnf
      have b7:(au 9 [.s [61]] s6)[s6.length]? =some ⟨0,false,.cells 9 [.s [61]]⟩:=aI _ _ _
      have x7:Ext s6 (au 9 [.s [61]] s6):=(Ext.refl s6).new _ _
      have l7:(au 9 [.s [61]] s6).length=s6.length+1:=aO _ _ _
      generalize au 9 [.s [61]] s6=wE at b7 x7 l7 ⊢
      have k7:=k6.ext x7
      have c7:=x7.get c6
      have vg:=x7.get yB
      have u_:=x7.get uK
      have zo7:=x7.get hzo
      have l6:=y6.len
      have hez7:dw (fun i=>iR.length≤i) wE (.p o g' 0) (.ex kz nz EZ tz lz rz az Xn):=dw.mono (fun i hi=>hi) (fun i hi a ha=>x7.get ha) Lj
      have xx7:aS p σ wE:=(xx.trans y6).trans (aS.of x7)
      refine ay.to (A8 [[61]] k7 PN s6.length 0 (ah b7) (Nat.le_of_ble_eq_true rfl)) ?_
      conv=>whnf
      rw [jC]
      cases hi:gW [61] t6 with
      | false=>
        rw [if_neg (by rw [show bV [61] (t6 :: r6)=gW [61] t6 from rfl,hi];decide)] at hQ
        conv=>whnf
        refine ak (aj (T:=aU) rfl rfl (ah (c7)) rfl) ?_
        conv=>whnf
        refine ay.to (lV k7) ?_
        conv=>whnf
        refine ak (aj (T:=gZ) rfl rfl (ah (zo7)) rfl) ?_
        conv=>whnf
        by_cases h4k:kz=4
        ·rw [if_pos h4k] at hQ
         rw [decide_eq_true (by omega)]
         conv=>whnf
         refine ak (aj (T:=dM) rfl rfl (ah (vg)) rfl) ?_
         conv=>whnf
         refine ak (aj (T:=dM) rfl rfl (ah (vg)) rfl) ?_
         conv=>whnf
         refine ak (aG (T:=gZ) ([.i .i64 10,.s [],.b false,.p0,.p0,.sl0,.sl0,.i .i64 t.l]) rfl (u_) rfl rfl (Nat.le_of_ble_eq_true rfl) rfl) ?_
         conv=>whnf
         have k8:=k7.st u_ (dG 10 [] false .p0 .p0 .sl0 .sl0 t.l)
         have lW:(wE.set σ2.length (dG 10 [] false .p0 .p0 .sl0 .sl0 t.l))[σ2.length]? =_:=at_set u_ _
         have nU:(wE.set σ2.length (dG 10 [] false .p0 .p0 .sl0 .sl0 t.l))[σ3.length]? =_:=aP vg (by omega) _
         have c8:(wE.set σ2.length (dG 10 [] false .p0 .p0 .sl0 .sl0 t.l))[σ.length]? =_:=aP c7 (by omega) _
         refine⟨?_,?_⟩
         ·conv=>whnf
          refine ak (aj (T:=dM) rfl rfl (ah (nU)) rfl) ?_
          rfl
         conv=>whnf
         refine ak (aG (T:=bY) ([.i .i64 10,.s [],.b false,.p0,.p o g' 0,.sl0,.sl0,.i .i64 t.l]) rfl (lW) rfl rfl (Nat.le_of_ble_eq_true rfl) rfl) ?_
         conv=>whnf
         have k9:=k8.st lW (dG 10 [] false .p0 (.p o g' 0) .sl0 .sl0 t.l)
         have Em:((wE.set σ2.length (dG 10 [] false .p0 .p0 .sl0 .sl0 t.l)).set σ2.length (dG 10 [] false .p0 (.p o g' 0) .sl0 .sl0 t.l))[σ2.length]? =_:=at_set lW _
         have BL:((wE.set σ2.length (dG 10 [] false .p0 .p0 .sl0 .sl0 t.l)).set σ2.length (dG 10 [] false .p0 (.p o g' 0) .sl0 .sl0 t.l))[σ3.length]? =_:=aP nU (by omega) _
         have xx9:aS p σ ((wE.set σ2.length (dG 10 [] false .p0 .p0 .sl0 .sl0 t.l)).set σ2.length (dG 10 [] false .p0 (.p o g' 0) .sl0 .sl0 t.l)):=(xx7.bM (bW.bT _ _ _ _) (by omega)).bM (bW.bT _ _ _ _) (by omega)
         have ll9:((wE.set σ2.length (dG 10 [] false .p0 .p0 .sl0 .sl0 t.l)).set σ2.length (dG 10 [] false .p0 (.p o g' 0) .sl0 .sl0 t.l)).length=wE.length:=by rw [List.length_set,List.length_set]
         refine ak (aj (T:=aU) rfl rfl (ah (aP c8 (by omega) _)) rfl) ?_
         conv=>whnf
         have he7:=kJ▸he2
         refine jL [59] k9 PN (fun hi=>(aZ he2 kJ hi).1) (fun hi s8 y8 k8'=>?_) (fun hi s8 y8 k8'=>?_)
         ·rw [bn,if_pos (show bV [59] (t6 :: r6)=true from hi)] at hQ
          have hQ:mY p w g all σ d Q (.ok (.st 10 [] false .nil (.ex kz nz EZ tz lz rz az Xn) .nil .nil t.l) r6):=hQ
          conv=>whnf
          refine ak (aj (T:=dM) rfl rfl (ah (y8.get (by omega) BL)) rfl) ?_
          conv=>whnf
          refine Fin.ref rfl (hQ _ _ _ _ (xx9.trans y8) k8' EX ⟨σ2.length,0,.p0,.p o g' 0,.sl0,.sl0,by omega,rfl,y8.get (by omega) Em,rfl,?_,rfl,rfl⟩)
          exact dw.mono (fun i hi=>by omega) (fun i hi a ha=>y8.get (by omega) (aP (aP ha (by omega) _) (by omega) _)) hez7
         ·rw [bn,if_neg (show ¬bV [59] (t6 :: r6)=true by rw [show bV [59] (t6 :: r6)=gW [59] t6 from rfl,hi];decide)] at hQ
          have hQ:mY p w g all σ d Q (.bad 4 t6.l):=hQ
          conv=>whnf
          refine ak (aj (T:=dM) rfl rfl (ah (y8.get (by omega) BL)) rfl) ?_
          conv=>whnf
          exact Fin.ref rfl (hQ _ _ _ (xx9.trans y8) k8')
        ·rw [if_neg h4k] at hQ
         rw [decide_eq_false (by omega)]
         conv=>whnf
         refine ak (aj (T:=aU) rfl rfl (ah (c7)) rfl) ?_
         conv=>whnf
         refine sZ 4 k7 PN fun s9 y9 k9=>?_
         have hQ:mY p w g all σ d Q (.bad 4 t6.l):=hQ
         conv=>whnf
         refine ak (aj (T:=dM) rfl rfl (ah (y9.get (by omega) vg)) rfl) ?_
         conv=>whnf
         exact Fin.ref rfl (hQ _ _ _ (xx7.trans y9) k9)
      | true=>
        rw [if_pos (show bV [61] (t6 :: r6)=true from hi)] at hQ
        conv=>whnf
        refine ak (aj (T:=aU) rfl rfl (ah (c7)) rfl) ?_
        conv=>whnf
        refine ay.to (lV k7) ?_
        conv=>whnf
        refine ak (aj (T:=gZ) rfl rfl (ah (zo7)) rfl) ?_
        conv=>whnf
        by_cases h2k:kz=2
        ·rw [if_pos h2k] at hQ
         have hQ:mY p w g all σ d Q ((dJ n d r6).bind fun y ts=>.ok (.st 2 EZ false .nil y .nil .nil t.l) ts):=hQ
         obtain⟨hmA,RZ,WO⟩:=aZ he2 kJ hi
         have hlA:(all.drop (m6+1)).length=r6.length:=by rw [EX]
         rw [←EX] at hQ
         rw [decide_eq_true (by omega)]
         conv=>whnf
         refine ak (aj (T:=aU) rfl rfl (ah (c7)) rfl) ?_
         conv=>whnf
         refine iL k7 hmA fun s8 y8 k8=>?_
         have nU:=y8.get (by omega) vg
         have lW:=y8.get (by omega) u_
         have c8:=y8.get (by omega) c7
         have zo8:=y8.get (by omega) zo7
         have N7:=xx7.trans y8
         have l8:=y8.len
         conv=>whnf
         refine ak (aj (T:=dM) rfl rfl (ah (nU)) rfl) ?_
         conv=>whnf
         refine ak (aj (T:=iw) rfl rfl (ah (zo8)) rfl) ?_
         conv=>whnf
         refine ak (aG (T:=iw) ([.i .i64 0,.s EZ,.b false,.p0,.p0,.sl0,.sl0,.i .i64 t.l]) rfl (lW) rfl rfl (Nat.le_of_ble_eq_true rfl) rfl) ?_
         conv=>whnf
         have kB:=k8.st lW (dG 0 EZ false .p0 .p0 .sl0 .sl0 t.l)
         have WM:(s8.set σ2.length (dG 0 EZ false .p0 .p0 .sl0 .sl0 t.l))[σ2.length]? =_:=at_set lW _
         have Ry:(s8.set σ2.length (dG 0 EZ false .p0 .p0 .sl0 .sl0 t.l))[σ3.length]? =_:=aP nU (by omega) _
         have cB:(s8.set σ2.length (dG 0 EZ false .p0 .p0 .sl0 .sl0 t.l))[σ.length]? =_:=aP c8 (by omega) _
         have llB:(s8.set σ2.length (dG 0 EZ false .p0 .p0 .sl0 .sl0 t.l)).length=s8.length:=List.length_set
         have A_:aS p σ (s8.set σ2.length (dG 0 EZ false .p0 .p0 .sl0 .sl0 t.l)):=N7.bM (bW.bT _ _ _ _) (by omega)
         refine Xl d 2 _ σ2.length σ3.length σ.length t.l EZ false .p0 _ (m6+1) _ kB hd RZ (by omega) (Ry) (cB) (WM) ⟨by omega,by omega,by omega,by omega,by omega⟩ ?_
         generalize dJ n d (all.drop (m6+1))=rE at hQ
         cases rE with
         | out=>trivial
         | bad c l=>
           intro s9 y9 k9
           conv=>whnf
           exact Fin.ref rfl (hQ _ _ _ ((A_).bM y9 (by omega)) k9)
         | ok z N8=>
           have hQ:mY p w g all σ d Q (.ok (.st 2 EZ false .nil z .nil .nil t.l) N8):=hQ
           intro R s9 m9 y9 k9 EY N9 N_
           conv=>whnf
           have lX:=(A_).len
           refine Fin.ref rfl (hQ _ _ _ _ ((A_).bM y9 (by omega)) k9 EY ⟨σ2.length,0,.p0,R,.sl0,.sl0,by omega,rfl,N9,rfl,?_,rfl,rfl⟩)
           exact dw.mono (fun i hi=>by first | omega | (rw [List.length_set] at hi;omega)) (fun i hi a ha=>ha) N_
        ·rw [if_neg h2k] at hQ
         rw [decide_eq_false (by omega)]
         conv=>whnf
         by_cases h5k:kz=5
         ·subst h5k
          rw [if_pos (.inl rfl)] at hQ
          refine ak (aj (T:=gZ) rfl rfl (ah (zo7)) rfl) ?_
          conv=>whnf
          have hQ:mY p w g all σ d Q ((dJ n d r6).bind fun y ts=>.ok (.st 3 [] false (.ex 5 nz EZ tz lz rz az Xn) y .nil .nil t.l) ts):=hQ
          obtain⟨hmA,RZ,WO⟩:=aZ he2 kJ hi
          have hlA:(all.drop (m6+1)).length=r6.length:=by rw [EX]
          rw [←EX] at hQ
          refine ak (aj (T:=aU) rfl rfl (ah (c7)) rfl) ?_
          conv=>whnf
          refine iL k7 hmA fun s8 y8 k8=>?_
          have nU:=y8.get (by omega) vg
          have lW:=y8.get (by omega) u_
          have c8:=y8.get (by omega) c7
          have N7:=xx7.trans y8
          have l8:=y8.len
          conv=>whnf
          refine ak (aj (T:=dM) rfl rfl (ah (nU)) rfl) ?_
          conv=>whnf
          refine ak (aG (T:=bY) ([.i .i64 0,.s [],.b false,.p o g' 0,.p0,.sl0,.sl0,.i .i64 t.l]) rfl (lW) rfl rfl (Nat.le_of_ble_eq_true rfl) rfl) ?_
          conv=>whnf
          have kB:=k8.st lW (dG 0 [] false (.p o g' 0) .p0 .sl0 .sl0 t.l)
          have WM:(s8.set σ2.length (dG 0 [] false (.p o g' 0) .p0 .sl0 .sl0 t.l))[σ2.length]? =_:=at_set lW _
          have Ry:(s8.set σ2.length (dG 0 [] false (.p o g' 0) .p0 .sl0 .sl0 t.l))[σ3.length]? =_:=aP nU (by omega) _
          have cB:(s8.set σ2.length (dG 0 [] false (.p o g' 0) .p0 .sl0 .sl0 t.l))[σ.length]? =_:=aP c8 (by omega) _
          have llB:(s8.set σ2.length (dG 0 [] false (.p o g' 0) .p0 .sl0 .sl0 t.l)).length=s8.length:=List.length_set
          have A_:aS p σ (s8.set σ2.length (dG 0 [] false (.p o g' 0) .p0 .sl0 .sl0 t.l)):=N7.bM (bW.bT _ _ _ _) (by omega)
          have hezB:dw (fun i=>iR.length≤i) (s8.set σ2.length (dG 0 [] false (.p o g' 0) .p0 .sl0 .sl0 t.l)) (.p o g' 0) (.ex 5 nz EZ tz lz rz az Xn):=dw.mono (fun i hi=>hi) (fun i hi a ha=>aP (y8.get (by omega) ha) (by omega) _) hez7
          refine Xl d 3 _ σ2.length σ3.length σ.length t.l [] false (.p o g' 0) _ (m6+1) _ kB hd RZ (by omega) (Ry) (cB) (WM) ⟨by omega,by omega,by omega,by omega,by omega⟩ ?_
          generalize dJ n d (all.drop (m6+1))=rE at hQ
          cases rE with
          | out=>trivial
          | bad c l=>
            intro s9 y9 k9
            conv=>whnf
            exact Fin.ref rfl (hQ _ _ _ ((A_).bM y9 (by omega)) k9)
          | ok z N8=>
            have hQ:mY p w g all σ d Q (.ok (.st 3 [] false (.ex 5 nz EZ tz lz rz az Xn) z .nil .nil t.l) N8):=hQ
            intro R s9 m9 y9 k9 EY N9 N_
            conv=>whnf
            have lX:=(A_).len
            refine Fin.ref rfl (hQ _ _ _ _ ((A_).bM y9 (by omega)) k9 EY ⟨σ2.length,0,(.p o g' 0),R,.sl0,.sl0,by omega,rfl,N9,?_,?_,rfl,rfl⟩)
            ·exact dw.mono (fun i hi=>by omega) (fun i hi a ha=>y9.get (by omega) (by omega) ha) hezB
            ·exact dw.mono (fun i hi=>by first | omega | (rw [List.length_set] at hi;omega)) (fun i hi a ha=>ha) N_
         ·refine ak (aj (T:=gZ) rfl rfl (ah (zo7)) rfl) ?_
          conv=>whnf
          rw [decide_eq_false (by omega)]
          conv=>whnf
          by_cases h6k:kz=6
          ·subst h6k
           rw [if_pos (.inr rfl)] at hQ
           refine ak (aj (T:=gZ) rfl rfl (ah (zo7)) rfl) ?_
           conv=>whnf
           have hQ:mY p w g all σ d Q ((dJ n d r6).bind fun y ts=>.ok (.st 3 [] false (.ex 6 nz EZ tz lz rz az Xn) y .nil .nil t.l) ts):=hQ
           obtain⟨hmA,RZ,WO⟩:=aZ he2 kJ hi
           have hlA:(all.drop (m6+1)).length=r6.length:=by rw [EX]
           rw [←EX] at hQ
           refine ak (aj (T:=aU) rfl rfl (ah (c7)) rfl) ?_
           conv=>whnf
           refine iL k7 hmA fun s8 y8 k8=>?_
           have nU:=y8.get (by omega) vg
           have lW:=y8.get (by omega) u_
           have c8:=y8.get (by omega) c7
           have N7:=xx7.trans y8
           have l8:=y8.len
           conv=>whnf
           refine ak (aj (T:=dM) rfl rfl (ah (nU)) rfl) ?_
           conv=>whnf
           refine ak (aG (T:=bY) ([.i .i64 0,.s [],.b false,.p o g' 0,.p0,.sl0,.sl0,.i .i64 t.l]) rfl (lW) rfl rfl (Nat.le_of_ble_eq_true rfl) rfl) ?_
           conv=>whnf
           have kB:=k8.st lW (dG 0 [] false (.p o g' 0) .p0 .sl0 .sl0 t.l)
           have WM:(s8.set σ2.length (dG 0 [] false (.p o g' 0) .p0 .sl0 .sl0 t.l))[σ2.length]? =_:=at_set lW _
           have Ry:(s8.set σ2.length (dG 0 [] false (.p o g' 0) .p0 .sl0 .sl0 t.l))[σ3.length]? =_:=aP nU (by omega) _
           have cB:(s8.set σ2.length (dG 0 [] false (.p o g' 0) .p0 .sl0 .sl0 t.l))[σ.length]? =_:=aP c8 (by omega) _
           have llB:(s8.set σ2.length (dG 0 [] false (.p o g' 0) .p0 .sl0 .sl0 t.l)).length=s8.length:=List.length_set
           have A_:aS p σ (s8.set σ2.length (dG 0 [] false (.p o g' 0) .p0 .sl0 .sl0 t.l)):=N7.bM (bW.bT _ _ _ _) (by omega)
           have hezB:dw (fun i=>iR.length≤i) (s8.set σ2.length (dG 0 [] false (.p o g' 0) .p0 .sl0 .sl0 t.l)) (.p o g' 0) (.ex 6 nz EZ tz lz rz az Xn):=dw.mono (fun i hi=>hi) (fun i hi a ha=>aP (y8.get (by omega) ha) (by omega) _) hez7
           refine Xl d 3 _ σ2.length σ3.length σ.length t.l [] false (.p o g' 0) _ (m6+1) _ kB hd RZ (by omega) (Ry) (cB) (WM) ⟨by omega,by omega,by omega,by omega,by omega⟩ ?_
           generalize dJ n d (all.drop (m6+1))=rE at hQ
           cases rE with
           | out=>trivial
           | bad c l=>
             intro s9 y9 k9
             conv=>whnf
             exact Fin.ref rfl (hQ _ _ _ ((A_).bM y9 (by omega)) k9)
           | ok z N8=>
             have hQ:mY p w g all σ d Q (.ok (.st 3 [] false (.ex 6 nz EZ tz lz rz az Xn) z .nil .nil t.l) N8):=hQ
             intro R s9 m9 y9 k9 EY N9 N_
             conv=>whnf
             have lX:=(A_).len
             refine Fin.ref rfl (hQ _ _ _ _ ((A_).bM y9 (by omega)) k9 EY ⟨σ2.length,0,(.p o g' 0),R,.sl0,.sl0,by omega,rfl,N9,?_,?_,rfl,rfl⟩)
             ·exact dw.mono (fun i hi=>by omega) (fun i hi a ha=>y9.get (by omega) (by omega) ha) hezB
             ·exact dw.mono (fun i hi=>by first | omega | (rw [List.length_set] at hi;omega)) (fun i hi a ha=>ha) N_
          ·rw [if_neg (by omega)] at hQ
           refine ak (aj (T:=gZ) rfl rfl (ah (zo7)) rfl) ?_
           conv=>whnf
           rw [decide_eq_false (by omega)]
           conv=>whnf
           refine ak (aj (T:=aU) rfl rfl (ah (c7)) rfl) ?_
           conv=>whnf
           refine sZ 4 k7 PN fun s9 y9 k9=>?_
           have hQ:mY p w g all σ d Q (.bad 4 t6.l):=hQ
           conv=>whnf
           refine ak (aj (T:=dM) rfl rfl (ah (y9.get (by omega) vg)) rfl) ?_
           conv=>whnf
           exact Fin.ref rfl (hQ _ _ _ (xx7.trans y9) k9)
end
end Go.bK.YtobmjhfgmhfocaaGreatDoor
namespace Go.bK.YtobmjhfgmhfocaaGreatDoor
open Go.Proofs
set_option maxRecDepth 4000
section
variable {p w g:Nat} {all:List Tok} {n:Nat}
theorem allQ (hno:Ee all)(hnn:Eh all)(hko:Lp all):∀n,WQ p w g all n∧uD p w g all n∧Lr p w g all n
 | 0=>⟨⟨fun _ _ _ _ _ _ _ h=>absurd h (by omega),fun _ _ _ _ _ _ _ _ h=>absurd h (by omega),fun _ _ _ _ _ _ _ h=>absurd h (by omega)⟩,by intro d B bp bl _ _ _ acc A σ m Q _ _ _ _ _ _ h;omega,by intro d kd k0 xo xv bp ln nm pt L σ m Q _ _ _ h;omega⟩
 | n+1=>by
   obtain⟨ih,ihS,Xl⟩:=allQ hno hnn hko n
   have ihE:=(allP (p:=p) (w:=w) (g:=g) hno hnn n).1
   exact⟨⟨fun d σ m Q h hd he hn hQ=>ZQ ihS d σ m Q h hd he hn hQ,fun d l σ m Q h hd he hn hQ=>WI ihE ih d l σ m Q h hd he hn hQ,fun d σ m Q h hd he hn hQ=>stmt_p hko ihE ih Xl d σ m Q h hd he hn hQ⟩,ZP ih ihS,fun d kd k0 xo xv bp ln nm pt L σ m Q h hd he hn h1 h2 h3 h4 hQ=>ZR ihE d kd k0 xo xv bp ln nm pt L σ m Q h hd he hn h1 h2 h3 h4 hQ⟩
def En (l:List (List UInt8×Bool)):List AV:=l.flatMap fun q=>[.s q.1,.b q.2]
theorem Eo:∀l:List (List UInt8×Bool),(En l).length=l.length*2
 | []=>rfl
 | t :: l=>by have:=Eo l;simp only [En,List.flatMap_cons,List.length_append,List.length_cons,List.length_nil] at this ⊢;rw [this];omega
theorem Ls:∀l:List (List UInt8×Bool),(En l).all AV.one=true
 | []=>rfl
 | t :: l=>by have:=Ls l;simp only [En,List.flatMap_cons,List.all_append] at this ⊢;rw [this];rfl
theorem RD (l:List (List UInt8×Bool))(q:List UInt8×Bool):En (l ++ [q])=En l ++ [.s q.1,.b q.2]:=by simp [En,List.flatMap_append]
theorem Lu (l:List (List UInt8×Bool)):((En l).drop 0).take (l.length*2)=En l:=by rw [List.drop_zero,List.take_of_length_le (by rw [Eo];omega)]
def kR (B:Nat)(σ:St)(v:AV)(l:List (List UInt8×Bool)):Prop:=(l=[]∧v= .sl0)∨∃o g,B≤o∧v= .sl o g 0 l.length 2∧σ[o]? =some ⟨g,false,.cells 85 (En l)⟩
theorem kR.keep {B B':Nat} {σ σ':St} {v:AV} {l:List (List UInt8×Bool)} (h:kR B σ v l)(hb:B'≤B)(k:∀(i:Nat) (a:AO),B≤i→σ[i]? =some a→σ'[i]? =some a):kR B' σ' v l:=by
 rcases h with h | ⟨o,g,h1,h2,h3⟩
 ·exact .inl h
 ·exact .inr ⟨o,g,by omega,h2,k o _ h1 h3⟩
def slP (v:AV):Prop:=v= .sl0∨∃o g n,v= .sl o g 0 n 2
theorem kR.sl {B:Nat} {σ:St} {v:AV} {l:List (List UInt8×Bool)} (h:kR B σ v l):slP v:=by
 rcases h with ⟨_,rfl⟩ | ⟨o,g,_,rfl,_⟩
 ·exact .inl rfl
 ·exact .inr ⟨_,_,_,rfl⟩
theorem BM {B:Nat} {σ:St} {v:AV} {acc:List (List UInt8×Bool)} (h:kR B σ v acc)(x:List UInt8×Bool)(hl:acc.length≤100000) {C:Nat} (hC:σ[C]? =some ⟨0,false,.cells 85 [.s x.1,.b x.2]⟩)(hB:B≤σ.length) {Q:AV→St→Prop}
 (q:∀o3 g3 k3 σ',kR B σ' (.sl o3 g3 0 k3 2) (acc ++ [x])→(∀i,i<B→σ'[i]? =σ[i]?)→σ.length≤σ'.length→(∀(i:Nat) (a:AO),σ[i]? =some a→(∀(g:Nat) (ro:Bool) (cs:List AV),a≠⟨g,ro,.cells 85 cs⟩)→σ'[i]? =some a)→Q (.sl o3 g3 0 k3 2) σ') :
 EL fK.get false 68 v (.sl C 0 0 1 2) σ Q:=by
 constructor
 refine ak (v:=xH) rfl ?_
 refine ak (v:=oM) rfl ?_
 refine ak (jS hC (Nat.le_of_ble_eq_true rfl)) ?_
 rcases h with ⟨rfl,rfl⟩ | ⟨o,g,h1,rfl,h3⟩
 ·refine⟨Nat.le_of_ble_eq_true rfl,?_⟩
  refine q _ _ _ _ (.inr ⟨σ.length,0,hB,rfl,?_⟩) (fun i hi=>d_ (by omega)) (by rw [aO];omega) (fun i a ha _=>at_new ha _ _)
  rw [aI];rfl
 ·refine ak (pG h3) ?_
  refine⟨rfl,by rw [Eo];omega,?_,by rw [Lu];exact Ls acc,?_⟩
  ·show (acc.length+1)*24≤_;omega
  refine q _ _ _ _ (.inr ⟨o,g+1,h1,by simp,?_⟩) (fun i hi=>by rw [List.getElem?_set_ne (by omega)]) (by rw [List.length_set];exact Nat.le_refl _) (fun i a ha ht=>aP ha (fun e=>?_) _)
  ·rw [at_set h3,Lu,RD];rfl
  ·subst e
   exact ht _ _ _ (Option.some.inj (ha.symm.trans h3))
def Ba (nm:List UInt8)(A:AV)(pt:Bool)(Bd:AV)(ln:Nat):AO:=⟨0,false,.cells 71 [.s nm,A,.b pt,Bd,.i .i64 ln]⟩
def IX (ts:List Tok):Re (List UInt8×Bool):=(iP ts).bind fun nm ts=>.ok (nm,bV je ts) (if bV je ts=true then ts.tail else ts)
theorem ZU {α:Type} (ts:List Tok)(f:List UInt8×Bool→List Tok→Re α):((iP ts).bind fun nm ts=>f (nm,bV je ts) (if bV je ts=true then ts.tail else ts))=(IX ts).bind f:=by
 unfold IX
 cases iP ts <;> rfl
theorem gd_par {ts:List Tok} (he:bg ts):Gd An (IX ts) ts.length:=by
 refine(uy he).bind fun nm kQ _ he2 hl2=>?_
 have h2:bg (if bV je kQ=true then kQ.tail else kQ)∧(if bV je kQ=true then kQ.tail else kQ).length≤kQ.length:=by
  split
  ·rename_i h2
   obtain⟨a,b⟩:=iZ he2 h2
   exact⟨a,by omega⟩
  ·exact⟨he2,Nat.le_refl _⟩
 exact⟨trivial,h2.1,by omega⟩
theorem PW.zT {m d:Nat} {σ σ':St} {f:AV} (h:PW p w g all σ m d f)(k:∀(i:Nat) (a:AO),σ[i]? =some a→(∀(g:Nat) (ro:Bool) (cs:List AV),a≠⟨g,ro,.cells 85 cs⟩)→σ'[i]? =some a):PW p w g all σ' m d f:=
 ⟨k _ _ h.obj (fun _ _ _ e=>by cases e),k _ _ h.tok (fun _ _ _ e=>by cases e),h.ne,h.len,h.at_,h.dp⟩
theorem PB.zT {d c l:Nat} {σ σ':St} (h:PB p σ d c l)(k:∀(i:Nat) (a:AO),σ[i]? =some a→(∀(g:Nat) (ro:Bool) (cs:List AV),a≠⟨g,ro,.cells 85 cs⟩)→σ'[i]? =some a):PB p σ' d c l:=by
 obtain⟨w,g,all,m,fo,fg,h1,h2,h3⟩:=h
 exact⟨w,g,all,m,fo,fg,h1.zT k,h2,k _ _ h3 (fun _ _ _ e=>by cases e)⟩
def P1q (p w g:Nat)(all:List Tok)(B xo:Nat)(nm:List UInt8)(ln:Nat)(σ:St)(d:Nat)(acc:List (List UInt8×Bool))(Q:AV→St→Prop):Re (List UInt8×Bool)→Prop
 | .ok y ts=>∀A' σ' m',dI p xo B σ σ'→PW p w g all σ' m' d .p0→all.drop m'= ts→σ'[xo]? =some (Ba nm A' false .sl0 ln)→kR B σ' A' (acc ++ [y])→Q (.tu []) σ'
 | .bad c l=>∀A' σ',dI p xo B σ σ'→PB p σ' d c l→σ'[xo]? =some (Ba nm A' false .sl0 ln)→slP A'→Q (.tu []) σ'
 | .out=>True
theorem par1_p (d B xo bx b1:Nat)(nm:List UInt8)(ln:Nat)(acc:List (List UInt8×Bool))(A:AV)(σ:St)(m:Nat)(Q:AV→St→Prop)(h:PW p w g all σ m d .p0)(hlt:p<B∧w<B∧xo<B∧bx<B∧b1<B)(hne:xo≠p∧bx≠p∧b1≠p∧bx≠xo∧b1≠xo)(hB:B≤σ.length)
 (hbx:σ[bx]? =some ⟨0,false,.cells 72 [.p xo 0 0]⟩) (hb1:σ[b1]? =some ⟨0,false,.cells 100 [.p p 0 0]⟩) (hx:σ[xo]? =some (Ba nm A false .sl0 ln)) (ha:kR B σ A acc) (he:bg (all.drop m)) (hs:acc.length≤40001)
 (hQ:P1q p w g all B xo nm ln σ d acc Q (IX (all.drop m))):ay X 75 [.p b1 0 0,.p bx 0 0] σ Q:=by
 obtain⟨t,r,hts⟩:=he.ne
 obtain⟨ht,hr⟩:=bZ hts
 unfold IX at hQ
 rw [hts] at hQ
 have hsl:=ha.sl
 have hpl:=bQ h.obj
 refine ay.body (F:=F75) aC (lit:=false) rfl rfl (Nat.le_of_ble_eq_true rfl) ?_
 conv=>whnf
 refine ak (aj (T:=aU) rfl rfl (ah (hb1)) rfl) ?_
 conv=>whnf
 refine IL h ht (fun hk1=>sQ (by rw [hr];rw [hts] at he;exact he.tail (by rw [hk1];decide))) (fun hk1 σ1 y1 k1=>?_) (fun hk1 σ1 y1 k1=>?_)
 ·simp only [iP,if_pos hk1] at hQ
  have he2:bg (all.drop (m+1)):=by rw [hr];rw [hts] at he;exact he.tail (by rw [hk1];decide)
  obtain⟨t2,r2,jg⟩:=he2.ne
  obtain⟨ht2,hr2⟩:=bZ jg
  have hQ:P1q p w g all B xo nm ln σ d acc Q (.ok (t.s,bV je r) (if bV je r=true then r.tail else r)):=hQ
  rw [←hr,jg] at hQ
  have l1:=y1.len
  conv=>whnf
  refine ak (aG (T:=oM) ([.s t.s,.b false]) rfl (aI _ _ _) rfl rfl (Nat.le_of_ble_eq_true rfl) rfl) ?_
  have x2:Ext σ1 ((au 85 oM.zero.cells σ1).set σ1.length ⟨0,false,.cells 85 [.s t.s,.b false]⟩):=((Ext.refl σ1).new _ _).set (Nat.le_refl _) _
  have b2:((au 85 oM.zero.cells σ1).set σ1.length ⟨0,false,.cells 85 [.s t.s,.b false]⟩)[σ1.length]? =_:=at_set (aI _ _ _) _
  have l2:((au 85 oM.zero.cells σ1).set σ1.length ⟨0,false,.cells 85 [.s t.s,.b false]⟩).length=σ1.length+1:=by rw [List.length_set,aO]
  generalize (au 85 oM.zero.cells σ1).set σ1.length ⟨0,false,.cells 85 [.s t.s,.b false]⟩=σ2 at b2 x2 l2 ⊢
  conv=>whnf
  have k2:=k1.ext x2
  have c1:=x2.get (y1.get (by omega) hb1)
  have BK:=x2.get (y1.get (by omega) hbx)
  have cx:=x2.get (y1.get (by omega) hx)
  refine ak (aj (T:=aU) rfl rfl (ah (c1)) rfl) ?_
  conv=>whnf
  refine nR [112,116,114] k2 ht2 (fun hi=>(aZ he2 jg hi).1) (fun hi σ3 y3 k3=>?_) (fun hi=>?_)
  ·have WL:bV je (t2 :: r2)=true:=hi
   have hQ:P1q p w g all B xo nm ln σ d acc Q (.ok (t.s,true) r2):=by
        simp only [WL,if_true] at hQ;exact hQ
   have xx:=(y1.trans (aS.of x2)).trans y3
   have b3:=y3.get (by omega) b2
   have cx3:=y3.get (by omega) cx
   have cbx3:=y3.get (by omega) BK
   conv=>whnf
   refine ak (aG (T:=Qw) ([.s t.s,.b true]) rfl (b3) rfl rfl (Nat.le_of_ble_eq_true rfl) rfl) ?_
   conv=>whnf
   have zU:(List.set σ3 σ1.length ⟨0,false,.cells 85 [.s t.s,.b true]⟩)[bx]? =_:=aP (cbx3) (by omega) _
   have fx:(List.set σ3 σ1.length ⟨0,false,.cells 85 [.s t.s,.b true]⟩)[xo]? =some (Ba nm A false .sl0 ln):=aP (cx3) (by omega) _
   have fc:(List.set σ3 σ1.length ⟨0,false,.cells 85 [.s t.s,.b true]⟩)[σ1.length]? =some ⟨0,false,.cells 85 [.s t.s,.b true]⟩:=at_set (b3) _
   have fX:aS p σ (List.set σ3 σ1.length ⟨0,false,.cells 85 [.s t.s,.b true]⟩):=(xx).bM (bW.bT _ _ _ _) (by omega)
   have fa:kR B (List.set σ3 σ1.length ⟨0,false,.cells 85 [.s t.s,.b true]⟩) A acc:=ha.keep (Nat.le_refl _) fun i a hi hh=>fX.get (by omega) hh
   have kS:=k3.bT b3 (by decide) (by decide) ⟨0,false,.cells 85 [.s t.s,.b true]⟩
   generalize List.set σ3 σ1.length ⟨0,false,.cells 85 [.s t.s,.b true]⟩=S at zU fx fc fX fa kS ⊢
   have lX:=fX.len
   rcases hsl with rfl | ⟨oo,gg,kk,rfl⟩
   all_goals
        refine ak (aj (T:=dY) rfl rfl (ah (zU)) rfl) ?_
        conv=>whnf
        refine ak (aj (T:=dY) rfl rfl (ah (zU)) rfl) ?_
        conv=>whnf
        refine ak (aj (T:=xH) rfl rfl (ah (fx)) rfl) ?_
        conv=>whnf
        refine ak (kD (T:=oM) rfl rfl (ah (fc)) (Nat.le_of_ble_eq_true rfl)) ?_
        conv=>whnf
        refine⟨?_,?_⟩
        ·conv=>whnf
         refine ak (aj (T:=dY) rfl rfl (ah (at_new zU _ _)) rfl) ?_
         rfl
        conv=>whnf
        refine⟨?_,?_⟩
        ·conv=>whnf
         refine ak (aj (T:=dY) rfl rfl (ah (at_new zU _ _)) rfl) ?_
         rfl
        conv=>whnf
        refine⟨?_,?_⟩
        ·conv=>whnf
         refine ak (aj (T:=xH) rfl rfl (ah (at_new fx _ _)) rfl) ?_
         rfl
        conv=>whnf
        refine BM (B:=B) (fa.keep (Nat.le_refl _) fun i a hi ha=>at_new ha _ _) (t.s,true) (by omega) (aI _ _ _) (by rw [aO];omega) fun o3 g3 k3 s3 ha3 hb3 hl3 hk3=>?_
        rw [aO] at hl3
        have gbx:s3[bx]? =_:=(hb3 bx (by omega)).trans (at_new zU _ _)
        have gx:s3[xo]? =_:=(hb3 xo (by omega)).trans (at_new fx _ _)
        have kT:=(kS.new _ _).zT hk3
        conv=>whnf
        refine⟨?_,?_⟩
        ·conv=>whnf
         refine ak (aj (T:=dY) rfl rfl (ah (gbx)) rfl) ?_
         rfl
        conv=>whnf
        refine ak (aG (T:=xH) ([.s nm,.sl o3 g3 0 k3 2,.b false,.sl0,.i .i64 ln]) rfl (gx) rfl rfl (Nat.le_of_ble_eq_true rfl) rfl) ?_
        conv=>whnf
        have I7:dI p xo B σ (s3.set xo (Ba nm (.sl o3 g3 0 k3 2) false .sl0 ln)):=⟨by rw [List.length_set];omega,fun i hi nY hix=>by rw [List.getElem?_set_ne (fun e=>hix e.symm),hb3 i hi,d_ (by omega),fX.old i (by omega) nY]⟩
        have k4:=kT.bT gx (by decide) (by decide) (Ba nm (.sl o3 g3 0 k3 2) false .sl0 ln)
        exact h.ne_of k4 (.inl (by omega)) (hQ _ _ _ I7 k4 hr2 (at_set gx _) (ha3.keep (Nat.le_refl _) fun i a hi ha=>aP ha (by omega) _))
  ·have WL:bV je (t2 :: r2)=false:=hi
   have hQ:P1q p w g all B xo nm ln σ d acc Q (.ok (t.s,false) (t2 :: r2)):=by
        simp only [WL,if_neg Bool.false_ne_true] at hQ;exact hQ
   conv=>whnf
   refine ak (aG (T:=Qw) ([.s t.s,.b false]) rfl (b2) rfl rfl (Nat.le_of_ble_eq_true rfl) rfl) ?_
   conv=>whnf
   have zU:(List.set σ2 σ1.length ⟨0,false,.cells 85 [.s t.s,.b false]⟩)[bx]? =_:=aP (BK) (by omega) _
   have fx:(List.set σ2 σ1.length ⟨0,false,.cells 85 [.s t.s,.b false]⟩)[xo]? =some (Ba nm A false .sl0 ln):=aP (cx) (by omega) _
   have fc:(List.set σ2 σ1.length ⟨0,false,.cells 85 [.s t.s,.b false]⟩)[σ1.length]? =some ⟨0,false,.cells 85 [.s t.s,.b false]⟩:=at_set (b2) _
   have fX:aS p σ (List.set σ2 σ1.length ⟨0,false,.cells 85 [.s t.s,.b false]⟩):=(y1.trans (aS.of x2)).bM (bW.bT _ _ _ _) (by omega)
   have fa:kR B (List.set σ2 σ1.length ⟨0,false,.cells 85 [.s t.s,.b false]⟩) A acc:=ha.keep (Nat.le_refl _) fun i a hi hh=>fX.get (by omega) hh
   have kS:=k2.bT b2 (by decide) (by decide) ⟨0,false,.cells 85 [.s t.s,.b false]⟩
   generalize List.set σ2 σ1.length ⟨0,false,.cells 85 [.s t.s,.b false]⟩=S at zU fx fc fX fa kS ⊢
   have lX:=fX.len
   rcases hsl with rfl | ⟨oo,gg,kk,rfl⟩
   all_goals
        refine ak (aj (T:=dY) rfl rfl (ah (zU)) rfl) ?_
        conv=>whnf
        refine ak (aj (T:=dY) rfl rfl (ah (zU)) rfl) ?_
        conv=>whnf
        refine ak (aj (T:=xH) rfl rfl (ah (fx)) rfl) ?_
        conv=>whnf
        refine ak (kD (T:=oM) rfl rfl (ah (fc)) (Nat.le_of_ble_eq_true rfl)) ?_
        conv=>whnf
        refine⟨?_,?_⟩
        ·conv=>whnf
         refine ak (aj (T:=dY) rfl rfl (ah (at_new zU _ _)) rfl) ?_
         rfl
        conv=>whnf
        refine⟨?_,?_⟩
        ·conv=>whnf
         refine ak (aj (T:=dY) rfl rfl (ah (at_new zU _ _)) rfl) ?_
         rfl
        conv=>whnf
        refine⟨?_,?_⟩
        ·conv=>whnf
         refine ak (aj (T:=xH) rfl rfl (ah (at_new fx _ _)) rfl) ?_
         rfl
        conv=>whnf
        refine BM (B:=B) (fa.keep (Nat.le_refl _) fun i a hi ha=>at_new ha _ _) (t.s,false) (by omega) (aI _ _ _) (by rw [aO];omega) fun o3 g3 k3 s3 ha3 hb3 hl3 hk3=>?_
        rw [aO] at hl3
        have gbx:s3[bx]? =_:=(hb3 bx (by omega)).trans (at_new zU _ _)
        have gx:s3[xo]? =_:=(hb3 xo (by omega)).trans (at_new fx _ _)
        have kT:=(kS.new _ _).zT hk3
        conv=>whnf
        refine⟨?_,?_⟩
        ·conv=>whnf
         refine ak (aj (T:=dY) rfl rfl (ah (gbx)) rfl) ?_
         rfl
        conv=>whnf
        refine ak (aG (T:=xH) ([.s nm,.sl o3 g3 0 k3 2,.b false,.sl0,.i .i64 ln]) rfl (gx) rfl rfl (Nat.le_of_ble_eq_true rfl) rfl) ?_
        conv=>whnf
        have I7:dI p xo B σ (s3.set xo (Ba nm (.sl o3 g3 0 k3 2) false .sl0 ln)):=⟨by rw [List.length_set];omega,fun i hi nY hix=>by rw [List.getElem?_set_ne (fun e=>hix e.symm),hb3 i hi,d_ (by omega),fX.old i (by omega) nY]⟩
        have k4:=kT.bT gx (by decide) (by decide) (Ba nm (.sl o3 g3 0 k3 2) false .sl0 ln)
        exact h.ne_of k4 (.inl (by omega)) (hQ _ _ _ I7 k4 jg (at_set gx _) (ha3.keep (Nat.le_refl _) fun i a hi ha=>aP ha (by omega) _))
 ·simp only [iP,if_neg hk1] at hQ
  have hQ:P1q p w g all B xo nm ln σ d acc Q (.bad 4 t.l):=hQ
  have l1:=y1.len
  conv=>whnf
  refine ak (aG (T:=oM) ([.s [],.b false]) rfl (aI _ _ _) rfl rfl (Nat.le_of_ble_eq_true rfl) rfl) ?_
  have x2:Ext σ1 ((au 85 oM.zero.cells σ1).set σ1.length ⟨0,false,.cells 85 [.s [],.b false]⟩):=((Ext.refl σ1).new _ _).set (Nat.le_refl _) _
  have b2:((au 85 oM.zero.cells σ1).set σ1.length ⟨0,false,.cells 85 [.s [],.b false]⟩)[σ1.length]? =_:=at_set (aI _ _ _) _
  have l2:((au 85 oM.zero.cells σ1).set σ1.length ⟨0,false,.cells 85 [.s [],.b false]⟩).length=σ1.length+1:=by rw [List.length_set,aO]
  generalize (au 85 oM.zero.cells σ1).set σ1.length ⟨0,false,.cells 85 [.s [],.b false]⟩=σ2 at b2 x2 l2 ⊢
  conv=>whnf
  have k2:=k1.ext x2
  have c1:=x2.get (y1.get (by omega) hb1)
  have BK:=x2.get (y1.get (by omega) hbx)
  have cx:=x2.get (y1.get (by omega) hx)
  refine ak (aj (T:=aU) rfl rfl (ah (c1)) rfl) ?_
  conv=>whnf
  refine ay.to (mJ [112,116,114] k2) ?_
  conv=>whnf
  refine ak (aG (T:=Qw) ([.s [],.b false]) rfl (b2) rfl rfl (Nat.le_of_ble_eq_true rfl) rfl) ?_
  conv=>whnf
  have zU:(List.set σ2 σ1.length ⟨0,false,.cells 85 [.s [],.b false]⟩)[bx]? =_:=aP (BK) (by omega) _
  have fx:(List.set σ2 σ1.length ⟨0,false,.cells 85 [.s [],.b false]⟩)[xo]? =some (Ba nm A false .sl0 ln):=aP (cx) (by omega) _
  have fc:(List.set σ2 σ1.length ⟨0,false,.cells 85 [.s [],.b false]⟩)[σ1.length]? =some ⟨0,false,.cells 85 [.s [],.b false]⟩:=at_set (b2) _
  have fX:aS p σ (List.set σ2 σ1.length ⟨0,false,.cells 85 [.s [],.b false]⟩):=(y1.trans (aS.of x2)).bM (bW.bT _ _ _ _) (by omega)
  have fa:kR B (List.set σ2 σ1.length ⟨0,false,.cells 85 [.s [],.b false]⟩) A acc:=ha.keep (Nat.le_refl _) fun i a hi hh=>fX.get (by omega) hh
  have kS:=k2.bT b2 (by decide) (by decide) (by decide) ⟨0,false,.cells 85 [.s [],.b false]⟩
  generalize List.set σ2 σ1.length ⟨0,false,.cells 85 [.s [],.b false]⟩=S at zU fx fc fX fa kS ⊢
  have lX:=fX.len
  rcases hsl with rfl | ⟨oo,gg,kk,rfl⟩
  all_goals
   refine ak (aj (T:=dY) rfl rfl (ah (zU)) rfl) ?_
   conv=>whnf
   refine ak (aj (T:=dY) rfl rfl (ah (zU)) rfl) ?_
   conv=>whnf
   refine ak (aj (T:=xH) rfl rfl (ah (fx)) rfl) ?_
   conv=>whnf
   refine ak (kD (T:=oM) rfl rfl (ah (fc)) (Nat.le_of_ble_eq_true rfl)) ?_
   conv=>whnf
   refine⟨?_,?_⟩
   ·conv=>whnf
    refine ak (aj (T:=dY) rfl rfl (ah (at_new zU _ _)) rfl) ?_
    rfl
   conv=>whnf
   refine⟨?_,?_⟩
   ·conv=>whnf
    refine ak (aj (T:=dY) rfl rfl (ah (at_new zU _ _)) rfl) ?_
    rfl
   conv=>whnf
   refine⟨?_,?_⟩
   ·conv=>whnf
    refine ak (aj (T:=xH) rfl rfl (ah (at_new fx _ _)) rfl) ?_
    rfl
   conv=>whnf
   refine BM (B:=B) (fa.keep (Nat.le_refl _) fun i a hi ha=>at_new ha _ _) ([],false) (by omega) (aI _ _ _) (by rw [aO];omega) fun o3 g3 k3 s3 ha3 hb3 hl3 hk3=>?_
   rw [aO] at hl3
   have gbx:s3[bx]? =_:=(hb3 bx (by omega)).trans (at_new zU _ _)
   have gx:s3[xo]? =_:=(hb3 xo (by omega)).trans (at_new fx _ _)
   have kT:=(kS.new _ _).zT hk3
   conv=>whnf
   refine⟨?_,?_⟩
   ·conv=>whnf
    refine ak (aj (T:=dY) rfl rfl (ah (gbx)) rfl) ?_
    rfl
   conv=>whnf
   refine ak (aG (T:=xH) ([.s nm,.sl o3 g3 0 k3 2,.b false,.sl0,.i .i64 ln]) rfl (gx) rfl rfl (Nat.le_of_ble_eq_true rfl) rfl) ?_
   conv=>whnf
   have I7:dI p xo B σ (s3.set xo (Ba nm (.sl o3 g3 0 k3 2) false .sl0 ln)):=⟨by rw [List.length_set];omega,fun i hi nY hix=>by rw [List.getElem?_set_ne (fun e=>hix e.symm),hb3 i hi,d_ (by omega),fX.old i (by omega) nY]⟩
   have k4:=kT.bT gx (by decide) (by decide) (by decide) (Ba nm (.sl o3 g3 0 k3 2) false .sl0 ln)
   have q:=hQ _ _ I7 k4 (at_set gx _) (.inr ⟨_,_,_,rfl⟩)
   obtain⟨w2,g2,all2,m2,fo,fg,j1,j2,j3⟩:=k4
   exact h.ne_of j1 (.inr (by simp)) q
theorem par1_b (d c l B xo bx b1:Nat)(nm:List UInt8)(ln:Nat)(acc:List (List UInt8×Bool))(A:AV)(σ1:St)(Q:AV→St→Prop)(h:PB p σ1 d c l)(hlt:p<B∧xo<B∧bx<B∧b1<B)(hne:xo≠p∧bx≠p∧b1≠p∧bx≠xo∧b1≠xo)(hB:B≤σ1.length)
 (hbx:σ1[bx]? =some ⟨0,false,.cells 72 [.p xo 0 0]⟩) (hb1:σ1[b1]? =some ⟨0,false,.cells 100 [.p p 0 0]⟩) (hx:σ1[xo]? =some (Ba nm A false .sl0 ln)) (ha:kR B σ1 A acc) (hs:acc.length≤40001)
 (hQ:∀A' σ',dI p xo B σ1 σ'→PB p σ' d c l→σ'[xo]? =some (Ba nm A' false .sl0 ln)→slP A'→Q (.tu []) σ'):ay X 75 [.p b1 0 0,.p bx 0 0] σ1 Q:=by
 have hsl:=ha.sl
 have hpl:=PB.lt h
 have hQ0:=hQ A σ1 (.refl _ _ _ _) h hx hsl
 refine ay.body (F:=F75) aC (lit:=false) rfl rfl (Nat.le_of_ble_eq_true rfl) ?_
 conv=>whnf
 refine ak (aj (T:=aU) rfl rfl (ah (hb1)) rfl) ?_
 conv=>whnf
 refine ay.to (IQ h) ?_
 conv=>whnf
 refine ak (aG (T:=oM) ([.s [],.b false]) rfl (aI _ _ _) rfl rfl (Nat.le_of_ble_eq_true rfl) rfl) ?_
 have x2:Ext σ1 ((au 85 oM.zero.cells σ1).set σ1.length ⟨0,false,.cells 85 [.s [],.b false]⟩):=((Ext.refl σ1).new _ _).set (Nat.le_refl _) _
 have b2:((au 85 oM.zero.cells σ1).set σ1.length ⟨0,false,.cells 85 [.s [],.b false]⟩)[σ1.length]? =_:=at_set (aI _ _ _) _
 have l2:((au 85 oM.zero.cells σ1).set σ1.length ⟨0,false,.cells 85 [.s [],.b false]⟩).length=σ1.length+1:=by rw [List.length_set,aO]
 generalize (au 85 oM.zero.cells σ1).set σ1.length ⟨0,false,.cells 85 [.s [],.b false]⟩=σ2 at b2 x2 l2 ⊢
 conv=>whnf
 have k2:=h.ext x2
 have c1:=x2.get hb1
 have BK:=x2.get hbx
 have cx:=x2.get hx
 refine ak (aj (T:=aU) rfl rfl (ah (c1)) rfl) ?_
 conv=>whnf
 refine ay.to (mJ [112,116,114] k2) ?_
 conv=>whnf
 refine ak (aG (T:=Qw) ([.s [],.b false]) rfl (b2) rfl rfl (Nat.le_of_ble_eq_true rfl) rfl) ?_
 conv=>whnf
 have zU:(List.set σ2 σ1.length ⟨0,false,.cells 85 [.s [],.b false]⟩)[bx]? =_:=aP (BK) (by omega) _
 have fx:(List.set σ2 σ1.length ⟨0,false,.cells 85 [.s [],.b false]⟩)[xo]? =some (Ba nm A false .sl0 ln):=aP (cx) (by omega) _
 have fc:(List.set σ2 σ1.length ⟨0,false,.cells 85 [.s [],.b false]⟩)[σ1.length]? =some ⟨0,false,.cells 85 [.s [],.b false]⟩:=at_set (b2) _
 have fX:aS p σ1 (List.set σ2 σ1.length ⟨0,false,.cells 85 [.s [],.b false]⟩):=(aS.of x2).bM (bW.bT _ _ _ _) (by omega)
 have fa:kR B (List.set σ2 σ1.length ⟨0,false,.cells 85 [.s [],.b false]⟩) A acc:=ha.keep (Nat.le_refl _) fun i a hi hh=>fX.get (by omega) hh
 have kS:=k2.bT b2 (by decide) (by decide) (by decide) ⟨0,false,.cells 85 [.s [],.b false]⟩
 generalize List.set σ2 σ1.length ⟨0,false,.cells 85 [.s [],.b false]⟩=S at zU fx fc fX fa kS ⊢
 have lX:=fX.len
 rcases hsl with rfl | ⟨oo,gg,kk,rfl⟩
 all_goals
  refine ak (aj (T:=dY) rfl rfl (ah (zU)) rfl) ?_
  conv=>whnf
  refine ak (aj (T:=dY) rfl rfl (ah (zU)) rfl) ?_
  conv=>whnf
  refine ak (aj (T:=xH) rfl rfl (ah (fx)) rfl) ?_
  conv=>whnf
  refine ak (kD (T:=oM) rfl rfl (ah (fc)) (Nat.le_of_ble_eq_true rfl)) ?_
  conv=>whnf
  refine⟨?_,?_⟩
  ·conv=>whnf
   refine ak (aj (T:=dY) rfl rfl (ah (at_new zU _ _)) rfl) ?_
   rfl
  conv=>whnf
  refine⟨?_,?_⟩
  ·conv=>whnf
   refine ak (aj (T:=dY) rfl rfl (ah (at_new zU _ _)) rfl) ?_
   rfl
  conv=>whnf
  refine⟨?_,?_⟩
  ·conv=>whnf
   refine ak (aj (T:=xH) rfl rfl (ah (at_new fx _ _)) rfl) ?_
   rfl
  conv=>whnf
  refine BM (B:=B) (fa.keep (Nat.le_refl _) fun i a hi ha=>at_new ha _ _) ([],false) (by omega) (aI _ _ _) (by rw [aO];omega) fun o3 g3 k3 s3 ha3 hb3 hl3 hk3=>?_
  rw [aO] at hl3
  have gbx:s3[bx]? =_:=(hb3 bx (by omega)).trans (at_new zU _ _)
  have gx:s3[xo]? =_:=(hb3 xo (by omega)).trans (at_new fx _ _)
  have kT:=(kS.new _ _).zT hk3
  conv=>whnf
  refine⟨?_,?_⟩
  ·conv=>whnf
   refine ak (aj (T:=dY) rfl rfl (ah (gbx)) rfl) ?_
   rfl
  conv=>whnf
  refine ak (aG (T:=xH) ([.s nm,.sl o3 g3 0 k3 2,.b false,.sl0,.i .i64 ln]) rfl (gx) rfl rfl (Nat.le_of_ble_eq_true rfl) rfl) ?_
  conv=>whnf
  have I7:dI p xo B σ1 (s3.set xo (Ba nm (.sl o3 g3 0 k3 2) false .sl0 ln)):=⟨by rw [List.length_set];omega,fun i hi nY hix=>by rw [List.getElem?_set_ne (fun e=>hix e.symm),hb3 i hi,d_ (by omega),fX.old i (by omega) nY]⟩
  have k4:=kT.bT gx (by decide) (by decide) (by decide) (Ba nm (.sl o3 g3 0 k3 2) false .sl0 ln)
  exact yu (hQ _ _ I7 k4 (at_set gx _) (.inr ⟨_,_,_,rfl⟩)) fun _=>hQ0
end
end Go.bK.YtobmjhfgmhfocaaGreatDoor
