/- Texts of this claim, joined: Pk, Pl, Pm, Pn. -/
import Derived.Test.YtlkfbfhkcaldlaaGreatDoorM21
set_option linter.unusedVariables false
set_option linter.unusedSimpArgs false
namespace Go.Abs.YtlkfbfhkcaldlaaGreatDoor
open Go.Proofs
set_option maxRecDepth 4000
def PSs (p w g:Nat)(all:List Tok)(σ:St)(d:Nat)(Q:AV→St→Prop):Re Sms→Prop
 | .ok l ts=>∀A σ' m',aO p σ σ'→PW p w g all σ' m' d .p0→all.drop m'= ts→dn (fun i=>σ.length≤i) σ' A l→CS A→Q A σ'
 | .bad c l=>∀A σ',aO p σ σ'→PB p σ' d c l→CS A→Q A σ'
 | .out=>True
def jI (p w g:Nat)(all:List Tok)(σ:St)(d:Nat)(Q:AV→St→Prop):Re Sm→Prop
 | .ok s ts=>∀o g' σ' m',aO p σ σ'→PW p w g all σ' m' d .p0→all.drop m'= ts→fM (fun i=>σ.length≤i) σ' (.p o g' 0) s→Q (.p o g' 0) σ'
 | .bad c l=>∀o g' σ',aO p σ σ'→PB p σ' d c l→Q (.p o g' 0) σ'
 | .out=>True
def PQs (p w g:Nat)(all:List Tok)(B bp bl:Nat)(σ:St)(d:Nat)(acc:List Sm)(Q:Out→Env→St→Prop):Re Sms→Prop
 | .ok xs ts=>∀A' σ' m' e',get e' 0= .p bp 0 0→cu p bl B σ σ'→PW p w g all σ' m' d .p0→all.drop m'= ts→σ'[bl]? =some ⟨0,false,.cells 67 [A']⟩→yZ B σ' A' (acc ++ yC xs)→Q (.exit 0) e' σ'
 | .bad c l=>∀A' σ' e',get e' 0= .p bp 0 0→cu p bl B σ σ'→PB p σ' d c l→σ'[bl]? =some ⟨0,false,.cells 67 [A']⟩→CS A'→Q (.exit 0) e' σ'
 | .out=>True
structure WQ (p w g:Nat)(all:List Tok)(n:Nat):Prop where
 block:∀(d:Nat) (σ:St) (m:Nat) (Q:AV→St→Prop),PW p w g all σ m d .p0→d≤64→EndOk (all.drop m)→10*(all.drop m).length+10≤n→PSs p w g all σ d Q (pBlock n d (all.drop m))→ay X 60 [.p p 0 0] σ Q
 branch:∀(d line:Nat) (σ:St) (m:Nat) (Q:AV→St→Prop),PW p w g all σ m d .p0→d≤64→EndOk (all.drop m)→10*(all.drop m).length+12≤n→jI p w g all σ d Q (pBranch n d line (all.drop m))→ay X 123 [.p p 0 0,.i .i64 line] σ Q
 stmt:∀(d:Nat) (σ:St) (m:Nat) (Q:AV→St→Prop),PW p w g all σ m d .p0→d≤64→EndOk (all.drop m)→10*(all.drop m).length+14≤n→jI p w g all σ d Q (pStmt n d (all.drop m))→ay X 94 [.p p 0 0] σ Q
def oJ (p w g:Nat)(all:List Tok)(n:Nat):Prop:=∀(d B bp bl:Nat),d≤64→(p<B∧w<B∧bp<B∧bl<B)→(bp≠p∧bl≠p∧bp≠bl)→
 ∀ (acc:List Sm) (A:AV) (σ:St) (m:Nat) (Q:Out→Env→St→Prop),PW p w g all σ m d .p0→B≤σ.length→σ[bp]? =some ⟨0,false,.cells 85 [.p p 0 0]⟩→σ[bl]? =some ⟨0,false,.cells 67 [A]⟩→yZ B σ A acc→EndOk (all.drop m)→10*(all.drop m).length+15≤n→acc.length+(all.drop m).length≤40001→PQs p w g all B bp bl σ d acc Q (pStmts n d (all.drop m))→aS X [0,1] LM [(0,.p bp 0 0),(1,.p bl 0 0)] σ Q
section
variable {p w g:Nat} {all:List Tok} {n:Nat}
theorem qw {d c l bp bl:Nat} {σ:St} {Q:Out→Env→St→Prop} (h:PB p σ d c l)(hbp:σ[bp]? =some ⟨0,false,.cells 85 [.p p 0 0]⟩)
 (q:∀e',get e' 0= .p bp 0 0→Q (.exit 0) e' σ):aS X [0,1] LM [(0,.p bp 0 0),(1,.p bl 0 0)] σ Q:=by
 refine aS.round aC (lit:=false) ?_
 conv=>whnf
 refine ak (aj (T:=aW) rfl rfl (ah (hbp)) rfl) ?_
 conv=>whnf
 refine ay.to (nU h) ?_
 conv=>whnf
 exact q _ rfl
theorem Rn (ih:WQ p w g all n)(Tj:oJ p w g all n):oJ p w g all (n+1):=by
 intro d B bp bl hd hlt hne acc A σ m Q h hB hbp hbl ha he hn hs hQ
 obtain⟨t,r,hts⟩:=he.ne
 obtain⟨ht,hr⟩:=bJ hts
 unfold pStmts at hQ
 rw [hts] at hQ
 have hsl:CS A:=by obtain⟨cs,hr,_⟩:=ha;exact hr.sl
 refine aS.round aC (lit:=false) ?_
 conv=>whnf
 refine ak (aj (T:=aW) rfl rfl (ah (hbp)) rfl) ?_
 conv=>whnf
 refine ay.to (jk h) ?_
 conv=>whnf
 refine ak (aj (T:=aW) rfl rfl (ah (hbp)) rfl) ?_
 conv=>whnf
 have b1:(au 9 [.s [125]] σ)[σ.length]? =some ⟨0,false,.cells 9 [.s [125]]⟩:=aH _ _ _
 have x1:Ext σ (au 9 [.s [125]] σ):=(Ext.refl σ).new _ _
 have l1:(au 9 [.s [125]] σ).length=σ.length+1:=aI _ _ _
 generalize au 9 [.s [125]] σ=σ1 at b1 x1 l1 ⊢
 have h1:=h.ext x1
 have y1:cu p bl B σ σ1:=.of (aO.of x1) hB
 have c1:=x1.get hbp
 have c2:=x1.get hbl
 have ha1:yZ B σ1 A acc:=ha.keep fun i a _ ha=>x1.get ha
 refine ay.to (vC [[125]] h1 ht σ.length 0 (ah b1) (Nat.le_of_ble_eq_true rfl)) ?_
 conv=>whnf
 rw [gZ]
 cases hi:fB [125] t with
 | true=>
   rw [if_pos (show isW [125] (t :: r)=true from hi)] at hQ
   conv=>whnf
   exact hQ A σ1 m _ rfl y1 h1 hts c2 (by rw [show acc ++ yC .nil=acc from List.append_nil acc];exact ha1)
 | false=>
   rw [if_neg (by rw [show isW [125] (t :: r)=fB [125] t from rfl,hi];decide),←hts] at hQ
   have hg:=(allS n).stmt d (all.drop m) he (by omega)
   conv=>whnf
   rcases hsl with rfl | ⟨oo,gg,kk,rfl⟩
   all_goals
    refine ak (aj (T:=cO) rfl rfl (ah (c2)) rfl) ?_
    conv=>whnf
    refine ak (aj (T:=aW) rfl rfl (ah (c1)) rfl) ?_
    conv=>whnf
    refine ih.stmt d σ1 m _ h1 hd he (by omega) ?_
    generalize pStmt n d (all.drop m)=r1 at hg hQ
    cases r1 with
    | out=>exact hg.elim
    | bad c l=>
      intro oy gy s y k
      have e1:=y.get hne.1 c1
      have e2:=y.get hne.2.1 c2
      have ly:=y.len
      conv=>whnf
      refine⟨?_,?_⟩
      ·conv=>whnf
       refine ak (aj (T:=cO) rfl rfl (ah (e2)) rfl) ?_
       rfl
      conv=>whnf
      refine⟨?_,?_⟩
      ·conv=>whnf
       refine ak (aj (T:=cO) rfl rfl (ah (at_new e2 _ _)) rfl) ?_
       rfl
      conv=>whnf
      refine EM (D:=s.length) ha1 y hlt.1 (by omega) (Nat.le_refl _) ly (by omega) oy gy fun o3 g3 jF s3 e3 l3 kT kA=>?_
      have f2:s3[bl]? =_:=(e3 bl hlt.2.2.2).trans e2
      have f1:s3[bp]? =_:=(e3 bp hlt.2.2.1).trans e1
      have k3:=k.Cb kT
      conv=>whnf
      refine ak (aF (T:=cO) ([.sl o3 g3 0 jF 1]) rfl (f2) rfl rfl (Nat.le_of_ble_eq_true rfl) rfl) ?_
      conv=>whnf
      have k4:=k3.bF f2 (by decide) (by decide) (by decide) ⟨0,false,.cells 67 [.sl o3 g3 0 jF 1]⟩
      have yy:cu p bl B σ (s3.set bl ⟨0,false,.cells 67 [.sl o3 g3 0 jF 1]⟩):=y1.trans ⟨by rw [List.length_set];omega,fun i hi kH hix=>by rw [List.getElem?_set_ne (fun e=>hix e.symm),e3 i hi,y.old i (by omega) kH]⟩
      exact qw k4 (aN f1 hne.2.2.symm _) fun e' e0=>hQ _ _ e' e0 yy k4 (at_set f2 _) (.inr ⟨_,_,_,rfl⟩)
    | ok y0 ts1=>
      intro oy gy s m2 y k hm2 EG
      have e1:=y.get hne.1 c1
      have e2:=y.get hne.2.1 c2
      have ly:=y.len
      have hQ:PQs p w g all B bp bl σ d acc Q ((pStmts n d ts1).bind fun l ts=>.ok (.cons y0 l) ts):=hQ
      rw [←hm2] at hQ hg
      have lg:=hg.2.2
      conv=>whnf
      refine⟨?_,?_⟩
      ·conv=>whnf
       refine ak (aj (T:=cO) rfl rfl (ah (e2)) rfl) ?_
       rfl
      conv=>whnf
      refine⟨?_,?_⟩
      ·conv=>whnf
       refine ak (aj (T:=cO) rfl rfl (ah (at_new e2 _ _)) rfl) ?_
       rfl
      conv=>whnf
      refine EM (D:=σ1.length) ha1 y hlt.1 (by omega) ly (Nat.le_refl _) (by omega) oy gy fun o3 g3 jF s3 e3 l3 kT kA=>?_
      have f2:s3[bl]? =_:=(e3 bl hlt.2.2.2).trans e2
      have f1:s3[bp]? =_:=(e3 bp hlt.2.2.1).trans e1
      have k3:=k.Cb kT
      conv=>whnf
      refine ak (aF (T:=cO) ([.sl o3 g3 0 jF 1]) rfl (f2) rfl rfl (Nat.le_of_ble_eq_true rfl) rfl) ?_
      conv=>whnf
      have k4:=k3.bF f2 (by decide) (by decide) ⟨0,false,.cells 67 [.sl o3 g3 0 jF 1]⟩
      have yy:cu p bl B σ (s3.set bl ⟨0,false,.cells 67 [.sl o3 g3 0 jF 1]⟩):=y1.trans ⟨by rw [List.length_set];omega,fun i hi kH hix=>by rw [List.getElem?_set_ne (fun e=>hix e.symm),e3 i hi,y.old i (by omega) kH]⟩
      refine Tj d B bp bl hd hlt hne (acc ++ [y0]) _ _ m2 Q k4 (by rw [List.length_set];omega) (aN f1 hne.2.2.symm _) (at_set f2 _) ((kA y0 EG).keep fun i a hi ha=>aN ha (by omega) _) hg.2.1 (by omega) (by rw [List.length_append];simp only [List.length_cons,List.length_nil];omega) ?_
      generalize pStmts n d (all.drop m2)=r2 at hQ
      cases r2 with
      | out=>trivial
      | bad c l=>exact fun A4 bW e' q0 x4=>hQ A4 bW e' q0 (yy.trans x4)
      | ok xs ts4=>exact fun A4 bW m4 e' q0 x4 h4 hm4 hx4 N8=>hQ A4 bW m4 e' q0 (yy.trans x4) h4 hm4 hx4 (by rw [List.append_assoc] at N8;exact N8)
theorem Ro (Tj:oJ p w g all n)(d:Nat)(σ:St)(m:Nat)(Q:AV→St→Prop)(h:PW p w g all σ m d .p0)(hd:d≤64)(he:EndOk (all.drop m))(hn:10*(all.drop m).length+10≤n+1)(hQ:PSs p w g all σ d Q (pBlock (n+1) d (all.drop m))):ay X 60 [.p p 0 0] σ Q:=by
 obtain⟨t,r,hts⟩:=he.ne
 obtain⟨ht,hr⟩:=bJ hts
 have hpl:=bn h.obj
 have hwl:=bn h.tok
 have hal:=h.len
 have hm:=h.at_
 have hlr:(all.drop m).length=r.length+1:=by rw [hts];rfl
 unfold pBlock openW at hQ
 rw [hts] at hQ
 refine ay.body (F:=F60) aC (lit:=false) rfl rfl (Nat.le_of_ble_eq_true rfl) ?_
 conv=>whnf
 have b1:(au 85 (AV.p p 0 0).cells σ)[σ.length]? =some ⟨0,false,.cells 85 [.p p 0 0]⟩:=aH _ _ _
 have x1:Ext σ (au 85 (AV.p p 0 0).cells σ):=(Ext.refl σ).new _ _
 have l1:(au 85 (AV.p p 0 0).cells σ).length=σ.length+1:=aI _ _ _
 generalize au 85 (AV.p p 0 0).cells σ=σ1 at b1 x1 l1 ⊢
 have b2:(au 67 cO.zero.cells σ1)[σ1.length]? =some ⟨0,false,.cells 67 [.sl0]⟩:=aH _ _ _
 have x2:Ext σ1 (au 67 cO.zero.cells σ1):=(Ext.refl σ1).new _ _
 have l2:(au 67 cO.zero.cells σ1).length=σ1.length+1:=aI _ _ _
 generalize au 67 cO.zero.cells σ1=σ2 at b2 x2 l2 ⊢
 have xx:=x1.trans x2
 have h2:=h.ext xx
 have c1:=x2.get b1
 refine ak (aj (T:=aW) rfl rfl (ah (c1)) rfl) ?_
 conv=>whnf
 refine ay.mono (Q:=fun v s=>v= .tu []∧∃A,CS A∧s[σ1.length]? =some ⟨0,false,.cells 67 [A]⟩∧Fin σ A s Q) ?_ fun v s q=>?_
 ·have bad:∀(c l:Nat) (s1:St),aO p σ2 s1→PB p s1 (d+1) c l→PSs p w g all σ d Q (.bad c l)→ay X 93 [.p σ.length 0 0,.p σ1.length 0 0] s1 (QI p m d (fun v s=>v= .tu []∧∃A,CS A∧s[σ1.length]? =some ⟨0,false,.cells 67 [A]⟩∧Fin σ A s Q)):=by
   intro c l s1 y1 k1 hq
   have e1:=y1.get (by omega) c1
   refine ay.body (F:=WH) aC (lit:=false) rfl rfl (Nat.le_of_ble_eq_true rfl) ?_
   conv=>whnf
   refine qw k1 e1 fun e' e0=>?_
   conv=>whnf
   rw [show cZ.ev e' (.t 0)=get e' 0 from rfl,e0]
   conv=>whnf
   refine ak (aj (T:=aW) rfl rfl (ah (e1)) rfl) ?_
   conv=>whnf
   refine ay.to (iq [125] k1) ?_
   conv=>whnf
   have k1':=k1
   obtain⟨w2,g2,all2,m2,fo,fg,j1,j2,j3⟩:=k1'
   exact Fin.flat rfl List.take_length ⟨rfl,w2,g2,all2,m2,_,j1,.inr (by simp),fun s3 y3 j4=>⟨rfl,.sl0,.inl rfl,y3.get (by omega) (y1.get (by omega) b2),h.ne_of j4 (.inr (by simp)) (hq _ _ (((aO.of xx).trans y1).trans y3) ⟨w2,g2,all2,m2,fo,fg,j4,j2,y3.get j2 j3⟩ (.inl rfl))⟩⟩
  refine JK [123] h2 ht hd (fun hi=>(aU he hts hi).1) (fun hi h64 s1 y1 k1=>?_) (fun hi h64 s1 y1 k1=>?_) (fun hi s1 y1 k1=>?_)
  ·rw [if_neg (by omega),mustW,if_pos (show isW [123] (t :: r)=true from hi)] at hQ
   have hQ:PSs p w g all σ d Q ((pStmts n (d+1) r).bind fun l ts=>(mustW [125] ts).bind fun _ ts=>.ok l ts):=hQ
   obtain⟨hm1,he1,hle⟩:=aU he hts hi
   have hg:=(allS n).stmts (d+1) (all.drop (m+1)) he1 (by rw [hr];omega)
   have hx1:aO p σ s1:=(aO.of xx).trans y1
   have e1:=y1.get (by omega) c1
   have e2:=y1.get (by omega) b2
   have ly:=y1.len
   have lx:=hx1.len
   have hall:(all.drop (m+1)).length≤40001:=by rw [List.length_drop];omega
   refine ay.body (F:=WH) aC (lit:=false) rfl rfl (Nat.le_of_ble_eq_true rfl) ?_
   conv=>whnf
   refine Tj (d+1) s1.length σ.length σ1.length (by omega) ⟨by omega,by omega,by omega,by omega⟩ ⟨by omega,by omega,by omega⟩ [] .sl0 s1 (m+1) _ k1 (Nat.le_refl _) e1 e2 ⟨[],.inl ⟨rfl,rfl⟩,trivial⟩ he1 (by rw [hr];omega) (by simp only [List.length_nil];omega) ?_
   rw [hr] at hg ⊢
   generalize pStmts n (d+1) r=r1 at hg hQ
   cases r1 with
   | out=>exact hg.elim
   | bad c l=>
     intro A' s2 e' e0 y2 k2 hx2 hsl
     have f1:=y2.get (by omega) (by omega) (by omega) e1
     conv=>whnf
     rw [show cZ.ev e' (.t 0)=get e' 0 from rfl,e0]
     conv=>whnf
     refine ak (aj (T:=aW) rfl rfl (ah (f1)) rfl) ?_
     conv=>whnf
     refine ay.to (iq [125] k2) ?_
     conv=>whnf
     have k2':=k2
     obtain⟨w2,g2,all2,m2,fo,fg,j1,j2,j3⟩:=k2'
     have ly2:=y2.len
     exact k1.ne_of j1 (.inr (by simp)) ⟨rfl,w2,g2,all2,m2,_,j1,.inr (by simp),fun s3 y3 j4=>⟨rfl,A',hsl,y3.get (by omega) hx2,h.ne_of j4 (.inr (by simp)) (hQ _ _ ⟨by have:=y3.len;omega,fun i hi kH=>by rw [y3.old i (by omega) kH,y2.old i (by omega) kH (by omega),hx1.old i hi kH]⟩ ⟨w2,g2,all2,m2,fo,fg,j4,j2,y3.get j2 j3⟩ hsl)⟩⟩
   | ok xs ts1=>
     intro A' s2 m2 e' e0 y2 k2 hm2 hx2 ha2
     have he2:EndOk (all.drop m2):=by rw [hm2];exact hg.2.1
     obtain⟨t2,r2,gu⟩:=he2.ne
     obtain⟨ht2,hr2⟩:=bJ gu
     have hQ:PSs p w g all σ d Q ((mustW [125] ts1).bind fun _ ts=>.ok xs ts):=hQ
     rw [←hm2,gu] at hQ
     have f1:=y2.get (by omega) (by omega) (by omega) e1
     have ly2:=y2.len
     have hsl:CS A':=by obtain⟨cs,hr,_⟩:=ha2;exact hr.sl
     have hmm:m+1≤m2:=by
      have:=hg.2.2
      rw [←hm2,←hr,List.length_drop,List.length_drop] at this
      omega
     have harg:=ha2.arg
     rw [show ([]:List Sm) ++ yC xs=yC xs from rfl,N_] at harg
     have fr:∀s3,aO p s2 s3→aO p σ s3:=fun s3 y3=>⟨by have:=y3.len;omega,fun i hi kH=>by rw [y3.old i (by omega) kH,y2.old i (by omega) kH (by omega),hx1.old i hi kH]⟩
     conv=>whnf
     rw [show cZ.ev e' (.t 0)=get e' 0 from rfl,e0]
     conv=>whnf
     refine ak (aj (T:=aW) rfl rfl (ah (f1)) rfl) ?_
     conv=>whnf
     refine ig [125] k2 ht2 (fun hi=>(aU he2 gu hi).1) (fun hi2 s5 y5 k5=>?_) (fun hi2 s5 y5 k5=>?_)
     ·rw [mustW,if_pos (show isW [125] (t2 :: r2)=true from hi2)] at hQ
      conv=>whnf
      refine k1.ne_of k5 (.inl (by omega)) ⟨rfl,w,g,all,m2+1,_,k5,.inl (by omega),fun s3 y3 j4=>⟨rfl,A',hsl,(y5.trans y3).get (by omega) hx2,h.ne_of j4 (.inl (by omega)) (hQ _ _ _ (fr s3 (y5.trans y3)) j4 hr2 ?_ hsl)⟩⟩
      exact dn.mono (fun i hi=>by omega) (fun i hi a ha=>(y5.trans y3).get (by omega) ha) harg
     ·rw [mustW,if_neg (show ¬isW [125] (t2 :: r2)=true by rw [show isW [125] (t2 :: r2)=fB [125] t2 from rfl,hi2];decide)] at hQ
      conv=>whnf
      have Gs:=k5
      obtain⟨w2,g2,all2,NZ,fo,fg,j1,j2,j3⟩:=Gs
      exact k1.ne_of j1 (.inr (by simp)) ⟨rfl,w2,g2,all2,NZ,_,j1,.inr (by simp),fun s3 y3 j4=>⟨rfl,A',hsl,(y5.trans y3).get (by omega) hx2,h.ne_of j4 (.inr (by simp)) (hQ _ _ (fr s3 (y5.trans y3)) ⟨w2,g2,all2,NZ,fo,fg,j4,j2,y3.get j2 j3⟩ hsl)⟩⟩
  ·rw [if_pos ⟨show isW [123] (t :: r)=true from hi,h64⟩] at hQ
   exact bad 3 t.l s1 y1 k1 hQ
  ·have hiw:¬isW [123] (t :: r)=true:=by rw [show isW [123] (t :: r)=fB [123] t from rfl,hi];decide
   rw [if_neg (fun e=>hiw e.1),mustW,if_neg hiw] at hQ
   exact bad 4 t.l s1 y1 k1 hQ
 ·obtain⟨rfl,A,hA,q1,q2⟩:=q
  rcases hA with rfl | ⟨o,g',k,rfl⟩
  ·conv=>whnf
   refine ak (aj (T:=cO) rfl rfl (ah (q1)) rfl) ?_
   conv=>whnf
   refine ak (aF (T:=cO) ([.sl0]) rfl (q1) rfl rfl (Nat.le_of_ble_eq_true rfl) rfl) ?_
   conv=>whnf
   rw [rJ q1]
   refine ak (aj (T:=cO) rfl rfl (ah (q1)) rfl) ?_
   conv=>whnf
   exact q2
  ·conv=>whnf
   refine ak (aj (T:=cO) rfl rfl (ah (q1)) rfl) ?_
   conv=>whnf
   refine ak (aF (T:=cO) ([.sl o g' 0 k 1]) rfl (q1) rfl rfl (Nat.le_of_ble_eq_true rfl) rfl) ?_
   conv=>whnf
   rw [rJ q1]
   refine ak (aj (T:=cO) rfl rfl (ah (q1)) rfl) ?_
   conv=>whnf
   exact q2
theorem rM {d c l:Nat} {σ:St} (h:PB p σ d c l)(hd:d+1≤1000) {Q:AV→St→Prop} (q:∀σ',aO p σ σ'→PB p σ' d c l→Q .sl0 σ'):ay X 60 [.p p 0 0] σ Q:=by
 have hpl:=PB.lt h
 refine ay.body (F:=F60) aC (lit:=false) rfl rfl (Nat.le_of_ble_eq_true rfl) ?_
 conv=>whnf
 have b1:(au 85 (AV.p p 0 0).cells σ)[σ.length]? =some ⟨0,false,.cells 85 [.p p 0 0]⟩:=aH _ _ _
 have x1:Ext σ (au 85 (AV.p p 0 0).cells σ):=(Ext.refl σ).new _ _
 have l1:(au 85 (AV.p p 0 0).cells σ).length=σ.length+1:=aI _ _ _
 generalize au 85 (AV.p p 0 0).cells σ=σ1 at b1 x1 l1 ⊢
 have b2:(au 67 cO.zero.cells σ1)[σ1.length]? =some ⟨0,false,.cells 67 [.sl0]⟩:=aH _ _ _
 have x2:Ext σ1 (au 67 cO.zero.cells σ1):=(Ext.refl σ1).new _ _
 have l2:(au 67 cO.zero.cells σ1).length=σ1.length+1:=aI _ _ _
 generalize au 67 cO.zero.cells σ1=σ2 at b2 x2 l2 ⊢
 have xx:=x1.trans x2
 have h2:=h.ext xx
 have c1:=x2.get b1
 refine ak (aj (T:=aW) rfl rfl (ah (c1)) rfl) ?_
 conv=>whnf
 have fin:∀s,aO p σ2 s→PB p s d c l→Fin σ .sl0 s Q:=fun s y k=>iY (q _ ((aO.of xx).trans y) k) fun _=>q _ (.refl _ _) h
 refine ay.mono (Q:=fun v s=>v= .tu []∧s[σ1.length]? =some ⟨0,false,.cells 67 [.sl0]⟩∧Fin σ .sl0 s Q) ?_ fun v s q=>?_
 ·refine aad (fun s=>aO p σ2 s) [123] h2 hd (fun s1 y1 k1=>?_) (fun s3 y3 k3=>⟨rfl,y3.get (by omega) b2,fin _ y3 k3⟩) (fun s3 y3 _=>⟨rfl,b2,fin _ (.refl _ _) h2⟩)
  have e1:=y1.get (by omega) c1
  refine ay.body (F:=WH) aC (lit:=false) rfl rfl (Nat.le_of_ble_eq_true rfl) ?_
  conv=>whnf
  refine qw k1 e1 fun e' e0=>?_
  conv=>whnf
  rw [show cZ.ev e' (.t 0)=get e' 0 from rfl,e0]
  conv=>whnf
  refine ak (aj (T:=aW) rfl rfl (ah (e1)) rfl) ?_
  conv=>whnf
  refine ay.to (iq [125] k1) ?_
  conv=>whnf
  exact Fin.flat rfl List.take_length ⟨rfl,k1,fun s3 y3 _=>y1.trans y3⟩
 ·obtain⟨rfl,q1,q2⟩:=q
  conv=>whnf
  refine ak (aj (T:=cO) rfl rfl (ah (q1)) rfl) ?_
  conv=>whnf
  refine ak (aF (T:=cO) ([.sl0]) rfl (q1) rfl rfl (Nat.le_of_ble_eq_true rfl) rfl) ?_
  conv=>whnf
  rw [rJ q1]
  refine ak (aj (T:=cO) rfl rfl (ah (q1)) rfl) ?_
  conv=>whnf
  exact q2
end
end Go.Abs.YtlkfbfhkcaldlaaGreatDoor
namespace Go.Abs.YtlkfbfhkcaldlaaGreatDoor
open Go.Proofs
set_option maxRecDepth 4000
theorem bY (v:AV)(Q:AV→Prop)(h:Q v):fc v Q:=by
 cases v with
 | b t=>cases t <;> exact h
 | _=>exact Ti _ _ h
theorem fV {t o g off e:Nat} {T:AT} {σ:St} {cs:List AV} {A:AV} (cs':List AV)(hA:CS A)(hT:D7.get t=some T)(hz:T.size=1)(ho:σ[o]? =some ⟨g,false,.cells e cs⟩)(hc:off+1≤cs.length)(hs:setCells cs off [A]=cs') :
 jm (D7.get t) (.p o g off) A σ=some (σ.set o ⟨g,false,.cells e cs'⟩):=by
 rcases hA with rfl | ⟨o',g',n,rfl⟩
 ·exact aF cs' hT ho (by rw [hz];rfl) rfl (by rw [hz];exact hc) hs
 ·exact aF cs' hT ho (by rw [hz];rfl) rfl (by rw [hz];exact hc) hs
def b_ (k:Nat)(nm:List UInt8)(pt:Bool)(L R T E:AV)(ln:Nat):AO:=⟨0,false,.cells 95 [.i .i64 k,.s nm,.b pt,L,R,T,E,.i .i64 ln]⟩
theorem bG.same {p x:Nat} {σ a b:St} (h:bG p x σ a)(k:aO p a b):bG p x σ b:=h.trans (.of k)
section
variable {p w g:Nat} {all:List Tok} {n:Nat}
theorem PW.st {m d:Nat} {f:AV} {σ:St} (h:PW p w g all σ m d f) {x k ln:Nat} {nm:List UInt8} {pt:Bool} {L R T E:AV} (hx:σ[x]? =some (b_ k nm pt L R T E ln))(a:AO):PW p w g all (σ.set x a) m d f:=h.bF hx (by decide) (by decide) a
theorem PB.st {d c l:Nat} {σ:St} (h:PB p σ d c l) {x k ln:Nat} {nm:List UInt8} {pt:Bool} {L R T E:AV} (hx:σ[x]? =some (b_ k nm pt L R T E ln))(a:AO):PB p (σ.set x a) d c l:=h.bF hx (by decide) (by decide) (by decide) a
def PEn (p w g:Nat)(all:List Tok)(xo kd:Nat)(nm:List UInt8)(pt:Bool)(L:AV)(ln:Nat)(σ:St)(d:Nat)(Q:AV→St→Prop):Re Tr→Prop
 | .ok y ts=>∀R σ' m',bG p xo σ σ'→PW p w g all σ' m' d .p0→all.drop m'= ts→σ'[xo]? =some (b_ kd nm pt L R .sl0 .sl0 ln)→bC (fun i=>σ.length≤i) σ' R y→Q (.p xo 0 0) σ'
 | .bad c l=>∀σ',bG p xo σ σ'→PB p σ' d c l→Q (.p xo 0 0) σ'
 | .out=>True
theorem Rq (ih:WP p w g all n)(d kd k0 xo xv bp ln:Nat)(nm:List UInt8)(pt:Bool)(L:AV)(σ:St)(m:Nat)(Q:AV→St→Prop)(h:PW p w g all σ m d .p0)(hd:d≤64)(he:EndOk (all.drop m))(hn:10*(all.drop m).length+10≤n+1)
 (hxv:σ[xv]? =some ⟨0,false,.cells 96 [.p xo 0 0]⟩) (hbp:σ[bp]? =some ⟨0,false,.cells 85 [.p p 0 0]⟩) (hx:σ[xo]? =some (b_ k0 nm pt L .p0 .sl0 .sl0 ln)) (hne:xo≠p∧xv≠p∧bp≠p∧xv≠xo∧bp≠xo)
 (hQ:PEn p w g all xo kd nm pt L ln σ d Q (pEnded (n+1) d (all.drop m))):ay X 121 [.i .i64 kd,.p xv 0 0,.p bp 0 0] σ Q:=by
 unfold pEnded at hQ
 have hQ:PEn p w g all xo kd nm pt L ln σ d Q ((pExpr n d 1 (all.drop m)).bind fun x ts=>(mustW [59] ts).bind fun _ ts=>.ok x ts):=hQ
 have hg:=(allE n).expr d 1 (all.drop m) he (by omega)
 have hxl:=bn hx
 refine ay.body (F:=Ud) aC (lit:=false) rfl rfl (Nat.le_of_ble_eq_true rfl) ?_
 conv=>whnf
 refine ak (aj (T:=bZ) rfl rfl (ah (hxv)) rfl) ?_
 conv=>whnf
 refine ak (aF (T:=dJ) ([.i .i64 kd,.s nm,.b pt,L,.p0,.sl0,.sl0,.i .i64 ln]) rfl (hx) rfl rfl (Nat.le_of_ble_eq_true rfl) rfl) ?_
 conv=>whnf
 have h1:PW p w g all (σ.set xo (b_ kd nm pt L .p0 .sl0 .sl0 ln)) m d .p0:=h.st hx _
 have cx:(σ.set xo (b_ kd nm pt L .p0 .sl0 .sl0 ln))[xo]? =_:=at_set hx _
 have cxv:(σ.set xo (b_ kd nm pt L .p0 .sl0 .sl0 ln))[xv]? =_:=aN hxv hne.2.2.2.1.symm _
 have cbp:(σ.set xo (b_ kd nm pt L .p0 .sl0 .sl0 ln))[bp]? =_:=aN hbp hne.2.2.2.2.symm _
 have x1:bG p xo σ (σ.set xo (b_ kd nm pt L .p0 .sl0 .sl0 ln)):=bG.bF _ _ _ _
 have l1:(σ.set xo (b_ kd nm pt L .p0 .sl0 .sl0 ln)).length=σ.length:=List.length_set
 refine ak (aj (T:=bZ) rfl rfl (ah (cxv)) rfl) ?_
 conv=>whnf
 refine ak (aj (T:=aW) rfl rfl (ah (cbp)) rfl) ?_
 conv=>whnf
 refine ih.expr d 1 _ m _ h1 hd (by omega) he (by omega) ?_
 generalize pExpr n d 1 (all.drop m)=r1 at hg hQ
 cases r1 with
 | out=>exact hg.elim
 | bad c l=>
   intro o g' s y k
   have ex:=y.get hne.1 cx
   conv=>whnf
   refine⟨?_,?_⟩
   ·conv=>whnf
    refine ak (aj (T:=bZ) rfl rfl (ah (y.get hne.2.1 cxv)) rfl) ?_
    rfl
   conv=>whnf
   refine ak (aF (T:=aV) ([.i .i64 kd,.s nm,.b pt,L,.p o g' 0,.sl0,.sl0,.i .i64 ln]) rfl (ex) rfl rfl (Nat.le_of_ble_eq_true rfl) rfl) ?_
   conv=>whnf
   have k2:=k.st ex (b_ kd nm pt L (.p o g' 0) .sl0 .sl0 ln)
   refine ak (aj (T:=aW) rfl rfl (ah (aN (y.get hne.2.2.1 cbp) hne.2.2.2.2.symm _)) rfl) ?_
   conv=>whnf
   refine ay.to (iq [59] k2) ?_
   conv=>whnf
   refine ak (aj (T:=bZ) rfl rfl (ah (aN (y.get hne.2.1 cxv) hne.2.2.2.1.symm _)) rfl) ?_
   conv=>whnf
   exact Fin.ref rfl (hQ _ ((x1.same y).trans (bG.bF _ _ _ _)) k2)
 | ok z ts1=>
   intro o g' s m2 y k hm2 EJ
   have he2:EndOk (all.drop m2):=by rw [hm2];exact hg.2.1
   obtain⟨t2,r2,gu⟩:=he2.ne
   obtain⟨ht2,hr2⟩:=bJ gu
   have hQ:PEn p w g all xo kd nm pt L ln σ d Q ((mustW [59] ts1).bind fun _ ts=>.ok z ts):=hQ
   rw [←hm2,gu] at hQ
   have ex:=y.get hne.1 cx
   conv=>whnf
   refine⟨?_,?_⟩
   ·conv=>whnf
    refine ak (aj (T:=bZ) rfl rfl (ah (y.get hne.2.1 cxv)) rfl) ?_
    rfl
   conv=>whnf
   refine ak (aF (T:=aV) ([.i .i64 kd,.s nm,.b pt,L,.p o g' 0,.sl0,.sl0,.i .i64 ln]) rfl (ex) rfl rfl (Nat.le_of_ble_eq_true rfl) rfl) ?_
   conv=>whnf
   have k2:=k.st ex (b_ kd nm pt L (.p o g' 0) .sl0 .sl0 ln)
   have fx:(s.set xo (b_ kd nm pt L (.p o g' 0) .sl0 .sl0 ln))[xo]? =_:=at_set ex _
   have xx:=(x1.same y).trans (bG.bF p xo s (b_ kd nm pt L (.p o g' 0) .sl0 .sl0 ln))
   have hxv2:(s.set xo (b_ kd nm pt L (.p o g' 0) .sl0 .sl0 ln))[xv]? =_:=aN (y.get hne.2.1 cxv) hne.2.2.2.1.symm _
   refine ak (aj (T:=aW) rfl rfl (ah (aN (y.get hne.2.2.1 cbp) hne.2.2.2.2.symm _)) rfl) ?_
   conv=>whnf
   refine ig [59] k2 ht2 (fun hi=>(aU he2 gu hi).1) (fun hi s3 y3 k3=>?_) (fun hi s3 y3 k3=>?_)
   ·rw [mustW,if_pos (show isW [59] (t2 :: r2)=true from hi)] at hQ
    conv=>whnf
    refine ak (aj (T:=bZ) rfl rfl (ah (y3.get hne.2.1 hxv2)) rfl) ?_
    conv=>whnf
    refine Fin.ref rfl (hQ _ _ _ (xx.same y3) k3 hr2 (y3.get hne.1 fx) ?_)
    exact bC.mono (fun i hi=>by rw [List.length_set] at hi;exact hi) (fun i hi a ha=>y3.get (by have:=bn h.obj;rw [List.length_set] at hi;omega) (aN ha (by rw [List.length_set] at hi;omega) _)) EJ
   ·rw [mustW,if_neg (show ¬isW [59] (t2 :: r2)=true by rw [show isW [59] (t2 :: r2)=fB [59] t2 from rfl,hi];decide)] at hQ
    conv=>whnf
    refine ak (aj (T:=bZ) rfl rfl (ah (y3.get hne.2.1 hxv2)) rfl) ?_
    conv=>whnf
    exact Fin.ref rfl (hQ _ (xx.same y3) k3)
theorem Oa (Tm:WP p w g all n)(ih:WQ p w g all n)(d line:Nat)(σ:St)(m:Nat)(Q:AV→St→Prop)(h:PW p w g all σ m d .p0)(hd:d≤64)(he:EndOk (all.drop m))(hn:10*(all.drop m).length+12≤n+1)(hQ:jI p w g all σ d Q (pBranch (n+1) d line (all.drop m))):ay X 123 [.p p 0 0,.i .i64 line] σ Q:=by
 have hpl:=bn h.obj
 unfold pBranch at hQ
 have hg:=(allE n).expr d 1 (all.drop m) he (by omega)
 refine ay.body (F:=Ue) aC (lit:=false) rfl rfl (Nat.le_of_ble_eq_true rfl) ?_
 conv=>whnf
 have b1:(au 95 (AV.ag [.i .i64 4,.s [],.b false,.p0,.p0,.sl0,.sl0,.i .i64 line]).cells σ)[σ.length]? =some ⟨0,false,.cells 95 [.i .i64 4,.s [],.b false,.p0,.p0,.sl0,.sl0,.i .i64 line]⟩:=aH _ _ _
 have x1:Ext σ (au 95 (AV.ag [.i .i64 4,.s [],.b false,.p0,.p0,.sl0,.sl0,.i .i64 line]).cells σ):=(Ext.refl σ).new _ _
 have l1:(au 95 (AV.ag [.i .i64 4,.s [],.b false,.p0,.p0,.sl0,.sl0,.i .i64 line]).cells σ).length=σ.length+1:=aI _ _ _
 generalize au 95 (AV.ag [.i .i64 4,.s [],.b false,.p0,.p0,.sl0,.sl0,.i .i64 line]).cells σ=σ1 at b1 x1 l1 ⊢
 have h1:=h.ext x1
 have b1:σ1[σ.length]? =some (b_ 4 [] false .p0 .p0 .sl0 .sl0 line):=b1
 have xx:aO p σ σ1:=aO.of x1
 refine Tm.expr d 1 σ1 m _ h1 hd (by omega) he (by omega) ?_
 generalize pExpr n d 1 (all.drop m)=r1 at hg hQ
 cases r1 with
 | out=>exact hg.elim
 | bad c l=>
   have hQ:jI p w g all σ d Q (.bad c l):=hQ
   intro o g' s y k
   have ex:=y.get (by omega) b1
   have ly:=y.len
   conv=>whnf
   refine ak (aF (T:=aV) ([.i .i64 4,.s [],.b false,.p0,.p o g' 0,.sl0,.sl0,.i .i64 line]) rfl (ex) rfl rfl (Nat.le_of_ble_eq_true rfl) rfl) ?_
   conv=>whnf
   have k2:=k.st ex (b_ 4 [] false .p0 (.p o g' 0) .sl0 .sl0 line)
   have fx:(s.set σ.length (b_ 4 [] false .p0 (.p o g' 0) .sl0 .sl0 line))[σ.length]? =_:=at_set ex _
   have y2:aO p σ (s.set σ.length (b_ 4 [] false .p0 (.p o g' 0) .sl0 .sl0 line)):=(xx.trans y).bg (bG.bF _ _ _ _) (Nat.le_refl _)
   refine rM k2 (by have:=h.dp;omega) fun s3 y3 k3=>?_
   have Rt:=y3.get (by omega) fx
   conv=>whnf
   refine ak (aF (T:=cO) ([.i .i64 4,.s [],.b false,.p0,.p o g' 0,.sl0,.sl0,.i .i64 line]) rfl (Rt) rfl rfl (Nat.le_of_ble_eq_true rfl) rfl) ?_
   conv=>whnf
   have k4:=k3.st Rt (b_ 4 [] false .p0 (.p o g' 0) .sl0 .sl0 line)
   refine ay.to (jv [101,108,115,101] k4) ?_
   conv=>whnf
   exact Fin.ref rfl (hQ _ _ _ ((y2.trans y3).bg (bG.bF _ _ _ _) (Nat.le_refl _)) k4)
 | ok z ts1=>
   intro o g' s m2 y k hm2 EJ
   have hQ:jI p w g all σ d Q ((pBlock n d ts1).bind fun th ts=>
    if isW wElse ts=true then
        if isW wIf ts.tail=true then(pBranch n d (lineW ts.tail) ts.tail.tail).bind fun b ts=>.ok (.st 4 [] false .nil z th (.cons b .nil) line) ts
        else(pBlock n d ts.tail).bind fun el ts=>.ok (.st 4 [] false .nil z th el line) ts
    else .ok (.st 4 [] false .nil z th .nil line) ts):=hQ
   have ex:=y.get (by omega) b1
   have ly:=y.len
   have lx:=xx.len
   conv=>whnf
   refine ak (aF (T:=aV) ([.i .i64 4,.s [],.b false,.p0,.p o g' 0,.sl0,.sl0,.i .i64 line]) rfl (ex) rfl rfl (Nat.le_of_ble_eq_true rfl) rfl) ?_
   conv=>whnf
   have k2:=k.st ex (b_ 4 [] false .p0 (.p o g' 0) .sl0 .sl0 line)
   have fx:(s.set σ.length (b_ 4 [] false .p0 (.p o g' 0) .sl0 .sl0 line))[σ.length]? =_:=at_set ex _
   have y2:aO p σ (s.set σ.length (b_ 4 [] false .p0 (.p o g' 0) .sl0 .sl0 line)):=(xx.trans y).bg (bG.bF _ _ _ _) (Nat.le_refl _)
   have hez2:bC (fun i=>σ.length<i) (s.set σ.length (b_ 4 [] false .p0 (.p o g' 0) .sl0 .sl0 line)) (.p o g' 0) z:=bC.mono (fun i hi=>by omega) (fun i hi a ha=>aN ha (by omega) _) EJ
   have l2:(s.set σ.length (b_ 4 [] false .p0 (.p o g' 0) .sl0 .sl0 line)).length=s.length:=List.length_set
   rw [←hm2] at hQ hg
   have lg:=hg.2.2
   have hgb:=(allS n).block d (all.drop m2) hg.2.1 (by omega)
   refine ih.block d _ m2 _ k2 hd hg.2.1 (by omega) ?_
   generalize pBlock n d (all.drop m2)=r2 at hgb hQ
   cases r2 with
   | out=>exact hgb.elim
   | bad c l=>
     have hQ:jI p w g all σ d Q (.bad c l):=hQ
     intro A s3 y3 k3 hA
     have Rt:=y3.get (by omega) fx
     refine bY _ _ ?_
     conv=>whnf
     refine ak (fV (T:=cO) [.i .i64 4,.s [],.b false,.p0,.p o g' 0,A,.sl0,.i .i64 line] hA rfl rfl Rt (Nat.le_of_ble_eq_true rfl) rfl) ?_
     have k4:=k3.st Rt (b_ 4 [] false .p0 (.p o g' 0) A .sl0 line)
     conv=>whnf
     refine ay.to (jv [101,108,115,101] k4) ?_
     conv=>whnf
     exact Fin.ref rfl (hQ _ _ _ ((y2.trans y3).bg (bG.bF _ _ _ _) (Nat.le_refl _)) k4)
   | ok th ts2=>
     intro A s3 m3 y3 k3 hm3 hth hA
     have hQ:jI p w g all σ d Q (
        if isW wElse ts2=true then
         if isW wIf ts2.tail=true then(pBranch n d (lineW ts2.tail) ts2.tail.tail).bind fun b ts=>.ok (.st 4 [] false .nil z th (.cons b .nil) line) ts
         else(pBlock n d ts2.tail).bind fun el ts=>.ok (.st 4 [] false .nil z th el line) ts
        else .ok (.st 4 [] false .nil z th .nil line) ts2):=hQ
     have Rt:=y3.get (by omega) fx
     have l3:s.length≤s3.length:=by have:=y3.len;rw [List.length_set] at this;exact this
     have he3:EndOk (all.drop m3):=by rw [hm3];exact hgb.2.1
     obtain⟨t3,r3,yY⟩:=he3.ne
     obtain⟨ht3,hr3⟩:=bJ yY
     have hlen3:(all.drop m3).length=r3.length+1:=by rw [yY];rfl
     have lgb:=hgb.2.2
     rw [←hm3] at lgb
     rw [←hm3,yY] at hQ
     have hQ:jI p w g all σ d Q (
        if isW wElse (t3 :: r3)=true then
         if isW wIf r3=true then(pBranch n d (lineW r3) r3.tail).bind fun b ts=>.ok (.st 4 [] false .nil z th (.cons b .nil) line) ts
         else(pBlock n d r3).bind fun el ts=>.ok (.st 4 [] false .nil z th el line) ts
        else .ok (.st 4 [] false .nil z th .nil line) (t3 :: r3)):=hQ
     refine bY _ _ ?_
     conv=>whnf
     refine ak (fV (T:=cO) [.i .i64 4,.s [],.b false,.p0,.p o g' 0,A,.sl0,.i .i64 line] hA rfl rfl Rt (Nat.le_of_ble_eq_true rfl) rfl) ?_
     have k4:=k3.st Rt (b_ 4 [] false .p0 (.p o g' 0) A .sl0 line)
     have fx4:(s3.set σ.length (b_ 4 [] false .p0 (.p o g' 0) A .sl0 line))[σ.length]? =_:=at_set Rt _
     have y4:aO p σ (s3.set σ.length (b_ 4 [] false .p0 (.p o g' 0) A .sl0 line)):=(y2.trans y3).bg (bG.bF _ _ _ _) (Nat.le_refl _)
     have hez4:bC (fun i=>σ.length<i) (s3.set σ.length (b_ 4 [] false .p0 (.p o g' 0) A .sl0 line)) (.p o g' 0) z:=bC.mono (fun i hi=>hi) (fun i hi a ha=>aN (y3.get (by omega) ha) (by omega) _) hez2
     have hth4:dn (fun i=>σ.length<i) (s3.set σ.length (b_ 4 [] false .p0 (.p o g' 0) A .sl0 line)) A th:=dn.mono (fun i hi=>by rw [List.length_set] at hi;omega) (fun i hi a ha=>aN ha (by rw [List.length_set] at hi;omega) _) hth
     have l4:(s3.set σ.length (b_ 4 [] false .p0 (.p o g' 0) A .sl0 line)).length=s3.length:=List.length_set
     have fin:∀(E:AV) (el:Sms) (s5:St),aO p (s3.set σ.length (b_ 4 [] false .p0 (.p o g' 0) A .sl0 line)) s5→dn (fun i=>σ.length<i) (s5.set σ.length (b_ 4 [] false .p0 (.p o g' 0) A E line)) E el→fM (fun i=>σ.length≤i) (s5.set σ.length (b_ 4 [] false .p0 (.p o g' 0) A E line)) (.p σ.length 0 0) (.st 4 [] false .nil z th el line):=by
        intro E el s5 y5 hE
        refine⟨σ.length,0,.p0,.p o g' 0,A,E,Nat.le_refl _,rfl,at_set (y5.get (by omega) fx4) _,rfl,?_,?_,?_⟩
        ·exact bC.mono (fun i hi=>by omega) (fun i hi a ha=>aN (y5.get (by omega) ha) (by omega) _) hez4
        ·exact dn.mono (fun i hi=>by omega) (fun i hi a ha=>aN (y5.get (by omega) ha) (by omega) _) hth4
        ·exact dn.mono (fun i hi=>by omega) (fun i hi a ha=>ha) hE
     conv=>whnf
     refine jZ [101,108,115,101] k4 ht3 (fun hi=>(aU he3 yY hi).1) (fun hi s5 y5 k5=>?_) (fun hi=>?_)
     ·rw [if_pos (show isW wElse (t3 :: r3)=true from hi)] at hQ
      obtain⟨hm4,he4,hle4⟩:=aU he3 yY hi
      obtain⟨t4,r4,JR⟩:=he4.ne
      obtain⟨ht4,hr4⟩:=bJ JR
      have hrr:r3=t4 :: r4:=by rw [←JR,hr3]
      have hlen4:(all.drop (m3+1)).length=r4.length+1:=by rw [JR];rfl
      have hlr:r3.length=r4.length+1:=by rw [hrr];rfl
      rw [hrr] at hQ
      have l5:s3.length≤s5.length:=by have:=y5.len;rw [List.length_set] at this;exact this
      conv=>whnf
      refine ay.to (h_ k5 ht4) ?_
      conv=>whnf
      refine kU t4 fun s6 x6 IG l6=>?_
      have k6:=k5.ext x6
      have y6:=y5.trans (aO.of x6)
      conv=>whnf
      refine jZ [105,102] k6 ht4 (fun hi=>(aU he4 JR hi).1) (fun hi2 s7 y7 k7=>?_) (fun hi2=>?_)
      ·rw [if_pos (show isW wIf (t4 :: r4)=true from hi2)] at hQ
       have hQ:jI p w g all σ d Q ((pBranch n d t4.l r4).bind fun b ts=>.ok (.st 4 [] false .nil z th (.cons b .nil) line) ts):=hQ
       obtain⟨hm5,he5,hle5⟩:=aU he4 JR hi2
       have hlen5:(all.drop (m3+1+1)).length=r4.length:=by rw [hr4]
       have hg5:=(allS n).branch d t4.l (all.drop (m3+1+1)) he5 (by omega)
       have l7:=y7.len
       rw [←hr4] at hQ
       conv=>whnf
       refine ak (aj (T:=dJ) rfl rfl (ah (y7.get (by omega) IG)) rfl) ?_
       conv=>whnf
       refine ih.branch d t4.l s7 (m3+1+1) _ k7 hd he5 (by omega) ?_
       generalize pBranch n d t4.l (all.drop (m3+1+1))=r5 at hg5 hQ
       cases r5 with
       | out=>exact hg5.elim
       | bad c l=>
         have hQ:jI p w g all σ d Q (.bad c l):=hQ
         intro o8 g8 s8 y8 k8
         have JU:=(y6.trans y7).trans y8
         conv=>whnf
         have b9:(au 96 [.p o8 g8 0] s8)[s8.length]? =some ⟨0,false,.cells 96 [.p o8 g8 0]⟩:=aH _ _ _
         have x9:Ext s8 (au 96 [.p o8 g8 0] s8):=(Ext.refl s8).new _ _
         have l9:(au 96 [.p o8 g8 0] s8).length=s8.length+1:=aI _ _ _
         generalize au 96 [.p o8 g8 0] s8=σ9 at b9 x9 l9 ⊢
         have Ob:=x9.get (JU.get (by omega) fx4)
         have k9:=k8.ext x9
         refine ak (aF (T:=cO) ([.i .i64 4,.s [],.b false,.p0,.p o g' 0,A,.sl s8.length 0 0 1 1,.i .i64 line]) rfl (Ob) rfl rfl (Nat.le_of_ble_eq_true rfl) rfl) ?_
         conv=>whnf
         exact Fin.ref rfl (hQ _ _ _ ((y4.trans (JU.trans (aO.of x9))).bg (bG.bF _ _ _ _) (Nat.le_refl _)) (k9.st Ob _))
       | ok bs ts5=>
         have hQ:jI p w g all σ d Q (.ok (.st 4 [] false .nil z th (.cons bs .nil) line) ts5):=hQ
         intro o8 g8 s8 m8 y8 k8 U5 hbs
         have JU:=(y6.trans y7).trans y8
         have l8:=y8.len
         conv=>whnf
         have b9:(au 96 [.p o8 g8 0] s8)[s8.length]? =some ⟨0,false,.cells 96 [.p o8 g8 0]⟩:=aH _ _ _
         have x9:Ext s8 (au 96 [.p o8 g8 0] s8):=(Ext.refl s8).new _ _
         have l9:(au 96 [.p o8 g8 0] s8).length=s8.length+1:=aI _ _ _
         generalize au 96 [.p o8 g8 0] s8=σ9 at b9 x9 l9 ⊢
         have Ob:=x9.get (JU.get (by omega) fx4)
         have k9:=k8.ext x9
         refine ak (aF (T:=cO) ([.i .i64 4,.s [],.b false,.p0,.p o g' 0,A,.sl s8.length 0 0 1 1,.i .i64 line]) rfl (Ob) rfl rfl (Nat.le_of_ble_eq_true rfl) rfl) ?_
         conv=>whnf
         refine Fin.ref rfl (hQ _ _ _ _ ((y4.trans (JU.trans (aO.of x9))).bg (bG.bF _ _ _ _) (Nat.le_refl _)) (k9.st Ob _) U5 (fin _ _ σ9 (JU.trans (aO.of x9)) ?_))
         refine⟨s8.length,0,[.p o8 g8 0],by omega,rfl,aN b9 (by omega) _,_,_,rfl,?_,rfl⟩
         exact fM.mono (fun i hi=>by omega) (fun i hi a ha=>aN (x9.get ha) (by omega) _) hbs
      ·rw [if_neg (by rw [show isW wIf (t4 :: r4)=fB [105,102] t4 from rfl,hi2];decide),←JR] at hQ
       have hg5:=(allS n).block d (all.drop (m3+1)) he4 (by omega)
       conv=>whnf
       refine ih.block d s6 (m3+1) _ k6 hd he4 (by omega) ?_
       generalize pBlock n d (all.drop (m3+1))=r5 at hg5 hQ
       cases r5 with
       | out=>exact hg5.elim
       | bad c l=>
         have hQ:jI p w g all σ d Q (.bad c l):=hQ
         intro E s8 y8 k8 hE
         have JU:=y6.trans y8
         have Ob:=JU.get (by omega) fx4
         refine bY _ _ ?_
         conv=>whnf
         refine ak (fV (T:=cO) [.i .i64 4,.s [],.b false,.p0,.p o g' 0,A,E,.i .i64 line] hE rfl rfl Ob (Nat.le_of_ble_eq_true rfl) rfl) ?_
         conv=>whnf
         exact Fin.ref rfl (hQ _ _ _ ((y4.trans JU).bg (bG.bF _ _ _ _) (Nat.le_refl _)) (k8.st Ob _))
       | ok el ts5=>
         have hQ:jI p w g all σ d Q (.ok (.st 4 [] false .nil z th el line) ts5):=hQ
         intro E s8 m8 y8 k8 U5 hel hE
         have JU:=y6.trans y8
         have Ob:=JU.get (by omega) fx4
         refine bY _ _ ?_
         conv=>whnf
         refine ak (fV (T:=cO) [.i .i64 4,.s [],.b false,.p0,.p o g' 0,A,E,.i .i64 line] hE rfl rfl Ob (Nat.le_of_ble_eq_true rfl) rfl) ?_
         conv=>whnf
         refine Fin.ref rfl (hQ _ _ _ _ ((y4.trans JU).bg (bG.bF _ _ _ _) (Nat.le_refl _)) (k8.st Ob _) U5 (fin _ _ s8 JU ?_))
         exact dn.mono (fun i hi=>by omega) (fun i hi a ha=>aN ha (by omega) _) hel
     ·rw [if_neg (by rw [show isW wElse (t3 :: r3)=fB [101,108,115,101] t3 from rfl,hi];decide)] at hQ
      conv=>whnf
      refine Fin.ref rfl (hQ _ _ _ _ y4 k4 yY ?_)
      have:=fin .sl0 .nil _ (.refl _ _) rfl
      rw [List.set_set] at this
      exact this
end
end Go.Abs.YtlkfbfhkcaldlaaGreatDoor
namespace Go.Abs.YtlkfbfhkcaldlaaGreatDoor
open Go.Proofs
set_option maxRecDepth 4000
def EN (all:List Tok):Prop:=∀z∈all,(z.k=4→z.s∈keys)∧(z.k=3→z.s∉keys)
section
variable {p w g:Nat} {all:List Tok} {n:Nat}
theorem jI.to {d:Nat} {σ σ1:St} {Q Q':AV→St→Prop} {r:Re Sm} (hQ:jI p w g all σ d Q r)(x1:aO p σ σ1)(k:∀o g' s,Q (.p o g' 0) s→Q' (.p o g' 0) s):jI p w g all σ1 d Q' r:=by
 cases r with
 | out=>trivial
 | bad c l=>exact fun o g' σ2 x2 h2=>k _ _ _ (hQ o g' σ2 (x1.trans x2) h2)
 | ok x ts=>exact fun o g' σ2 m2 x2 h2 hm hex=>k _ _ _ (hQ o g' σ2 m2 (x1.trans x2) h2 hm (fM.mono (fun i hi=>Nat.le_trans x1.len hi) (fun i hi a ha=>ha) hex))
theorem uS:∀(all:List Tok) (m:Nat),(dI all).drop (3*m)=dI (all.drop m)
 | all,0=>rfl
 | [],m+1=>by simp [dI]
 | x :: l,m+1=>by
   have e:dI (x :: l)=nO x.k x.s x.l ++ dI l:=rfl
   rw [e,show 3*(m+1)=3+3*m by omega,←List.drop_drop,List.drop_left' (by rfl)]
   exact uS l m
theorem tY {σ:St} {N w g m:Nat} {all:List Tok} {t:Tok} (hN:σ[N]? =some ⟨0,false,.cells 62 (nO t.k t.s t.l)⟩)(hw:σ[w]? =some ⟨g,false,.cells 62 (dI all)⟩)(hm:m<all.length)(hl:all.length≤40001) {Q:AV→St→Prop}
 (q:Q (.sl N 1 (3*0) ((t :: all.drop m).length - 0) 3) (σ.set N ⟨1,false,.cells 62 (dI (t :: all.drop m))⟩)):xM D7.get false 51 (.sl N 0 0 1 3) (.sl w g (3*m) (all.length - m) 3) σ Q:=by
 constructor
 refine ak (v:=lF) rfl ?_
 refine ak (v:=vk) rfl ?_
 have e1:((dI all).drop (3*m)).take ((all.length - m)*3)=dI (all.drop m):=by
  rw [uS,List.take_of_length_le (by rw [jL,List.length_drop];exact Nat.le_refl _)]
 refine ak (v:=(all.length - m,dI (all.drop m))) (by rw [←e1];exact iC hw (by rw [jL];show 3*m+(all.length - m)*3≤_;omega)) ?_
 obtain⟨k,hk⟩:∃k,all.length - m=k+1:=⟨all.length - m - 1,by omega⟩
 have hd:(all.drop m).length=k+1:=by rw [List.length_drop];exact hk
 show Abs.cB (Nat.beq (all.length - m) 0) _ (Abs.cB ((dI (all.drop m)).all AV.one) _ False)
 rw [hk,tJ]
 refine ak (jV hN) ?_
 refine⟨rfl,Nat.le_of_ble_eq_true rfl,?_,rfl,?_⟩
 ·show (1+(k+1))*32≤140737488355328;omega
 ·have e2:(t :: all.drop m).length - 0=1+(k+1):=by rw [List.length_cons,hd];omega
  rw [e2] at q
  exact q
theorem tZ (n d:Nat)(t:Tok)(r:List Tok)(hk:t.k=4)(h1:t.s≠[40])(h2:t.s≠wNew)(h3:t.s≠wIn)(hn:2≤n):pPost n d (t :: r)= .bad 4 t.l:=by
 obtain⟨n,rfl⟩:∃k,n=k+2:=⟨n - 2,by omega⟩
 have hW:∀s,isW s (t :: r)=(t.s == s):=fun s=>by show ((t.k == 4 || t.k == 3) && t.s == s)=_;rw [hk];rfl
 unfold pPost pFirst
 simp only [hW,nameW]
 rw [if_neg (by simpa using h1),if_neg (by simpa using h2),if_neg (by simpa using h3),if_neg (by rw [hk];decide),if_neg (by rw [hk];decide)]
 rfl
theorem nokey {t:Tok} (h:t.k=3→t.s∉keys)(s:List UInt8)(hs:s∈keys):(t.k == 3 && t.s == s)=false:=by
 by_cases h3:t.k=3
 ·have:t.s≠s:=fun e=>h h3 (e▸hs)
  rw [beq_eq_false_iff_ne.2 this,Bool.and_false]
 ·rw [beq_eq_false_iff_ne.2 h3];rfl
def EO (p w g:Nat)(all:List Tok)(n:Nat):Prop:=∀(d kd k0 xo xv bp ln:Nat) (nm:List UInt8) (pt:Bool) (L:AV) (σ:St) (m:Nat) (Q:AV→St→Prop),PW p w g all σ m d .p0→d≤64→EndOk (all.drop m)→10*(all.drop m).length+10≤n→
 σ[xv]? =some ⟨0,false,.cells 96 [.p xo 0 0]⟩→σ[bp]? =some ⟨0,false,.cells 85 [.p p 0 0]⟩→σ[xo]? =some (b_ k0 nm pt L .p0 .sl0 .sl0 ln)→(xo≠p∧xv≠p∧bp≠p∧xv≠xo∧bp≠xo)→PEn p w g all xo kd nm pt L ln σ d Q (pEnded n d (all.drop m))→ay X 121 [.i .i64 kd,.p xv 0 0,.p bp 0 0] σ Q
set_option maxHeartbeats 4000000 in
theorem U6 (hko:EN all)(Tm:WP p w g all n)(ih:WQ p w g all n)(OZ:EO p w g all n)(d:Nat)(σ:St)(m:Nat)(Q:AV→St→Prop)(h:PW p w g all σ m d .p0)(hd:d≤64)(he:EndOk (all.drop m))(hn:10*(all.drop m).length+14≤n+1)(hQ:jI p w g all σ d Q (pStmt (n+1) d (all.drop m))):ay X 94 [.p p 0 0] σ Q:=by
 obtain⟨t,r,hts⟩:=he.ne
 obtain⟨ht,hr⟩:=bJ hts
 have hpl:=bn h.obj
 have hlr:(all.drop m).length=r.length+1:=by rw [hts];rfl
 unfold pStmt at hQ
 rw [hts] at hQ
 simp only at hQ
 refine ay.body (F:=F94) aC (lit:=false) rfl rfl (Nat.le_of_ble_eq_true rfl) ?_
 conv=>whnf
 have b1:(au 85 (AV.p p 0 0).cells σ)[σ.length]? =some ⟨0,false,.cells 85 [.p p 0 0]⟩:=aH _ _ _
 have x1:Ext σ (au 85 (AV.p p 0 0).cells σ):=(Ext.refl σ).new _ _
 have l1:(au 85 (AV.p p 0 0).cells σ).length=σ.length+1:=aI _ _ _
 generalize au 85 (AV.p p 0 0).cells σ=σ1 at b1 x1 l1 ⊢
 have h1:=h.ext x1
 refine ak (aj (T:=aW) rfl rfl (ah (b1)) rfl) ?_
 conv=>whnf
 refine ay.to (h_ h1 ht) ?_
 conv=>whnf
 refine kU t fun σ2 x2 ht2 l2=>?_
 conv=>whnf
 refine ak (aj (T:=dJ) rfl rfl (ah (ht2)) rfl) ?_
 conv=>whnf
 have b3:(au 95 (AV.ag [.i .i64 0,.s [],.b false,.p0,.p0,.sl0,.sl0,.i .i64 t.l]).cells σ2)[σ2.length]? =some ⟨0,false,.cells 95 [.i .i64 0,.s [],.b false,.p0,.p0,.sl0,.sl0,.i .i64 t.l]⟩:=aH _ _ _
 have x3:Ext σ2 (au 95 (AV.ag [.i .i64 0,.s [],.b false,.p0,.p0,.sl0,.sl0,.i .i64 t.l]).cells σ2):=(Ext.refl σ2).new _ _
 have l3:(au 95 (AV.ag [.i .i64 0,.s [],.b false,.p0,.p0,.sl0,.sl0,.i .i64 t.l]).cells σ2).length=σ2.length+1:=aI _ _ _
 generalize au 95 (AV.ag [.i .i64 0,.s [],.b false,.p0,.p0,.sl0,.sl0,.i .i64 t.l]).cells σ2=σ3 at b3 x3 l3 ⊢
 refine ak (aF (T:=bZ) ([.p σ2.length 0 0]) rfl (aH _ _ _) rfl rfl (Nat.le_of_ble_eq_true rfl) rfl) ?_
 have x4:Ext σ3 ((au 96 bZ.zero.cells σ3).set σ3.length ⟨0,false,.cells 96 [.p σ2.length 0 0]⟩):=((Ext.refl σ3).new _ _).set (Nat.le_refl _) _
 have b4:((au 96 bZ.zero.cells σ3).set σ3.length ⟨0,false,.cells 96 [.p σ2.length 0 0]⟩)[σ3.length]? =_:=at_set (aH _ _ _) _
 have l4:((au 96 bZ.zero.cells σ3).set σ3.length ⟨0,false,.cells 96 [.p σ2.length 0 0]⟩).length=σ3.length+1:=by rw [List.length_set,aI]
 generalize (au 96 bZ.zero.cells σ3).set σ3.length ⟨0,false,.cells 96 [.p σ2.length 0 0]⟩=bW at b4 x4 l4 ⊢
 conv=>whnf
 have x24:=x3.trans x4
 have h4:=(h1.ext x2).ext x24
 have c1:=x24.get (x2.get b1)
 have ct:=x24.get ht2
 have cx:bW[σ2.length]? =some (b_ 0 [] false .p0 .p0 .sl0 .sl0 t.l):=x4.get b3
 have xx:aO p σ bW:=aO.of ((x1.trans x2).trans x24)
 refine ak (aj (T:=dJ) rfl rfl (ah (ct)) rfl) ?_
 conv=>whnf
 have way:t.k≠4∨(t.k=4∧t.s=[110,101,119])∨(t.k=4∧t.s=[105,110])∨(t.k=4∧t.s≠[110,101,119]∧t.s≠[105,110]):=by
  by_cases h4:t.k=4
  ·by_cases h5:t.s=[110,101,119]
   ·exact .inr (.inl ⟨h4,h5⟩)
   ·by_cases h6:t.s=[105,110]
    ·exact .inr (.inr (.inl ⟨h4,h6⟩))
    ·exact .inr (.inr (.inr ⟨h4,h5,h6⟩))
  ·exact .inl h4
 rcases way with hk4 | ⟨hk4,hs⟩ | ⟨hk4,hs⟩ | ⟨hk4,hn1,hn2⟩
 case inr.inr.inr=>
  rw [decide_eq_true (by omega)]
  conv=>whnf
  refine ak (aj (T:=aW) rfl rfl (ah (c1)) rfl) ?_
  conv=>whnf
  refine ay.to (jk h4) ?_
  conv=>whnf
  refine ak (aj (T:=dP) rfl rfl (ah (ct)) rfl) ?_
  conv=>whnf
  have he1:EndOk (all.drop (m+1)):=by rw [hr];rw [hts] at he;exact he.tail (by rw [hk4];decide)
  have hm1:=nR he1
  have hlen1:(all.drop (m+1)).length=r.length:=by rw [hr]
  have hmem:=(hko t (List.mem_of_getElem? ht)).1 hk4
  simp only [keys,List.mem_cons,List.mem_nil_iff,or_false,hn1,hn2] at hmem
  rcases hmem with hs | hs | hs | hs | hs | hs | hs | hs | hs | hs
  ·have hW:∀s,isW s (t :: r)=(t.s == s):=fun s=>by show ((t.k == 4 || t.k == 3) && t.s == s)=_;rw [hk4];rfl
   rw [if_neg (by rw [hW,hs];decide),if_neg (by rw [hW,hs];decide),if_neg (by rw [hW,hs];decide),if_neg (by rw [hW,hs];decide),if_neg (by rw [hW,hs];decide),if_neg (by rw [hW,hs];decide),if_neg (by rw [hW,hs];decide)] at hQ
   rw [show (t.s == [110,101,119])=false by rw [hs];rfl]
   conv=>whnf
   refine ak (aj (T:=dP) rfl rfl (ah (ct)) rfl) ?_
   conv=>whnf
   rw [show (t.s == [105,110])=false by rw [hs];rfl]
   conv=>whnf
   refine ak (aj (T:=aW) rfl rfl (ah (c1)) rfl) ?_
   conv=>whnf
   refine f_ h4 hm1 fun s5 y5 k5=>?_
   have c5:=y5.get (by omega) c1
   have yD:=y5.get (by omega) ct
   have rY:=y5.get (by omega) cx
   have nY:=y5.get (by omega) b4
   have pF:=xx.trans y5
   have l5:=y5.len
   conv=>whnf
   refine ak (aj (T:=dP) rfl rfl (ah (yD)) rfl) ?_
   conv=>whnf
   rw [show (t.s == [118,97,114])=false by rw [hs];rfl]
   conv=>whnf
   rw [show (t.s == [105,102])=false by rw [hs];rfl]
   conv=>whnf
   rw [show (t.s == [119,104,105,108,101])=false by rw [hs];rfl]
   conv=>whnf
   rw [show (t.s == [111,117,116])=false by rw [hs];rfl]
   conv=>whnf
   rw [show (t.s == [102,114,101,101])=false by rw [hs];rfl]
   conv=>whnf
   rw [show (t.s == [100,114,97,105,110])=false by rw [hs];rfl]
   conv=>whnf
   rw [show (t.s == [114,101,116,117,114,110])=false by rw [hs];rfl]
   conv=>whnf
   rw [tZ n d t r hk4 (by rw [hs];decide) (by rw [hs];decide) (by rw [hs];decide) (by omega)] at hQ
   have hQ:jI p w g all σ d Q (.bad 4 t.l):=hQ
   have hal:=h.len
   refine ak (aj (T:=aW) rfl rfl (ah (c5)) rfl) ?_
   conv=>whnf
   refine ak (dY (T:=vk) rfl rfl (ah (yD)) (Nat.le_of_ble_eq_true rfl)) ?_
   conv=>whnf
   refine ak (aj (T:=aW) rfl rfl (ah (c5)) rfl) ?_
   conv=>whnf
   refine ak (aj (T:=lF) rfl rfl (ah (k5.obj)) rfl) ?_
   conv=>whnf
   have b6:(au 62 [.i .i64 t.k,.s t.s,.i .i64 t.l] s5)[s5.length]? =some ⟨0,false,.cells 62 [.i .i64 t.k,.s t.s,.i .i64 t.l]⟩:=aH _ _ _
   have x6:Ext s5 (au 62 [.i .i64 t.k,.s t.s,.i .i64 t.l] s5):=(Ext.refl s5).new _ _
   have l6:(au 62 [.i .i64 t.k,.s t.s,.i .i64 t.l] s5).length=s5.length+1:=aI _ _ _
   generalize au 62 [.i .i64 t.k,.s t.s,.i .i64 t.l] s5=jY at b6 x6 l6 ⊢
   have k6:=k5.ext x6
   have c6:=x6.get c5
   refine⟨?_,?_⟩
   ·conv=>whnf
    refine ak (aj (T:=aW) rfl rfl (ah (c6)) rfl) ?_
    rfl
   conv=>whnf
   refine⟨?_,?_⟩
   ·conv=>whnf
    refine ak (aj (T:=aW) rfl rfl (ah (c6)) rfl) ?_
    rfl
   conv=>whnf
   refine⟨?_,?_⟩
   ·conv=>whnf
    refine ak (aj (T:=lF) rfl rfl (ah (k6.obj)) rfl) ?_
    rfl
   conv=>whnf
   have hwl:=bn k5.tok
   refine tY (t:=t) (m:=m+1) b6 k6.tok hm1 hal ?_
   conv=>whnf
   have c7:(jY.set s5.length ⟨1,false,.cells 62 (dI (t :: all.drop (m+1)))⟩)[σ.length]? =_:=aN c6 (by omega) _
   refine⟨?_,?_⟩
   ·conv=>whnf
    refine ak (aj (T:=aW) rfl rfl (ah (c7)) rfl) ?_
    rfl
   conv=>whnf
   have o7:(jY.set s5.length ⟨1,false,.cells 62 (dI (t :: all.drop (m+1)))⟩)[p]? =_:=aN k6.obj (by omega) _
   have t7:(jY.set s5.length ⟨1,false,.cells 62 (dI (t :: all.drop (m+1)))⟩)[s5.length]? =_:=at_set b6 _
   refine ak (aF (T:=lF) (kZ s5.length 1 (t :: all.drop (m+1)).length 0 d .p0) rfl (o7) rfl rfl (Nat.le_of_ble_eq_true rfl) rfl) ?_
   conv=>whnf
   have k8:PW p s5.length 1 (t :: all.drop (m+1)) ((jY.set s5.length ⟨1,false,.cells 62 (dI (t :: all.drop (m+1)))⟩).set p ⟨0,false,.cells 88 (kZ s5.length 1 (t :: all.drop (m+1)).length 0 d .p0)⟩) 0 d .p0:=⟨at_set o7 _,aN t7 (by omega) _,by omega,by rw [List.length_cons,List.length_drop];omega,by rw [List.length_cons];omega,h.dp⟩
   refine ak (aj (T:=aW) rfl rfl (ah (aN c7 (by omega) _)) rfl) ?_
   conv=>whnf
   refine nV 4 k8 (t:=t) rfl fun s9 y9 k9=>?_
   conv=>whnf
   refine ak (aj (T:=bZ) rfl rfl (ah (y9.get (by omega) (aN (aN (x6.get nY) (by omega) _) (by omega) _))) rfl) ?_
   conv=>whnf
   exact Fin.ref rfl (hQ _ _ _ ((((pF.trans (aO.of x6)).bg (bG.bF _ _ _ _) (by omega)).trans ((aO.refl p _).tV _)).trans y9) k9)
  ·have hW:∀s,isW s (t :: r)=(t.s == s):=fun s=>by show ((t.k == 4 || t.k == 3) && t.s == s)=_;rw [hk4];rfl
   rw [if_pos (by rw [hW,hs];rfl)] at hQ
   rw [show (t.s == [110,101,119])=false by rw [hs];rfl]
   conv=>whnf
   refine ak (aj (T:=dP) rfl rfl (ah (ct)) rfl) ?_
   conv=>whnf
   rw [show (t.s == [105,110])=false by rw [hs];rfl]
   conv=>whnf
   refine ak (aj (T:=aW) rfl rfl (ah (c1)) rfl) ?_
   conv=>whnf
   refine f_ h4 hm1 fun s5 y5 k5=>?_
   have c5:=y5.get (by omega) c1
   have yD:=y5.get (by omega) ct
   have rY:=y5.get (by omega) cx
   have nY:=y5.get (by omega) b4
   have pF:=xx.trans y5
   have l5:=y5.len
   conv=>whnf
   refine ak (aj (T:=dP) rfl rfl (ah (yD)) rfl) ?_
   conv=>whnf
   rw [show (t.s == [118,97,114])=true by rw [hs];rfl]
   conv=>whnf
   obtain⟨t6,r6,iI⟩:=he1.ne
   obtain⟨IG,zf⟩:=bJ iI
   have hl6:(all.drop (m+1)).length=r6.length+1:=by rw [iI];rfl
   rw [←hr,iI] at hQ
   refine ak (aj (T:=bZ) rfl rfl (ah (nY)) rfl) ?_
   conv=>whnf
   refine ak (aj (T:=bZ) rfl rfl (ah (nY)) rfl) ?_
   conv=>whnf
   refine ak (aj (T:=aW) rfl rfl (ah (c5)) rfl) ?_
   conv=>whnf
   refine BU k5 IG (fun hk1=>nR (by rw [zf];rw [iI] at he1;exact he1.tail (by rw [hk1];decide))) (fun hk1 s6 y6 k6=>?_) (fun hk1 s6 y6 k6=>?_)
   ·simp only [nameW,if_pos hk1] at hQ
    have he2:EndOk (all.drop (m+1+1)):=by rw [zf];rw [iI] at he1;exact he1.tail (by rw [hk1];decide)
    obtain⟨t7,r7,Gt⟩:=he2.ne
    obtain⟨ht7,hr7⟩:=bJ Gt
    have hl7:(all.drop (m+1+1)).length=r7.length+1:=by rw [Gt];rfl
    have hl67:r6.length=r7.length+1:=by rw [←zf,Gt];rfl
    have hQ:jI p w g all σ d Q (
            if isW [61] (if isW wPtr r6=true then r6.tail else r6)=true then
             (pEnded n d (if isW wPtr r6=true then r6.tail else r6).tail).bind fun x ts=>.ok (.st 1 t6.s (isW wPtr r6) .nil x .nil .nil t.l) ts
            else(mustW [59] (if isW wPtr r6=true then r6.tail else r6)).bind fun _ ts=>.ok (.st 1 t6.s (isW wPtr r6) .nil .nil .nil .nil t.l) ts):=hQ
    rw [←zf,Gt] at hQ
    have oU:=y6.get (by omega) rY
    have rO:=y6.get (by omega) nY
    have c6:=y6.get (by omega) c5
    conv=>whnf
    refine⟨?_,?_⟩
    ·conv=>whnf
     refine ak (aj (T:=bZ) rfl rfl (ah (rO)) rfl) ?_
     rfl
    conv=>whnf
    refine⟨?_,?_⟩
    ·conv=>whnf
     refine ak (aj (T:=bZ) rfl rfl (ah (rO)) rfl) ?_
     rfl
    conv=>whnf
    refine ak (aF (T:=dJ) ([.i .i64 1,.s [],.b false,.p0,.p0,.sl0,.sl0,.i .i64 t.l]) rfl (oU) rfl rfl (Nat.le_of_ble_eq_true rfl) rfl) ?_
    conv=>whnf
    have k7:=k6.st oU (b_ 1 [] false .p0 .p0 .sl0 .sl0 t.l)
    have pG:(s6.set σ2.length (b_ 1 [] false .p0 .p0 .sl0 .sl0 t.l))[σ2.length]? =_:=at_set oU _
    have pI:(s6.set σ2.length (b_ 1 [] false .p0 .p0 .sl0 .sl0 t.l))[σ3.length]? =_:=aN rO (by omega) _
    have c7:(s6.set σ2.length (b_ 1 [] false .p0 .p0 .sl0 .sl0 t.l))[σ.length]? =_:=aN c6 (by omega) _
    refine⟨?_,?_⟩
    ·conv=>whnf
     refine ak (aj (T:=bZ) rfl rfl (ah (pI)) rfl) ?_
     rfl
    conv=>whnf
    refine ak (aF (T:=dP) ([.i .i64 1,.s t6.s,.b false,.p0,.p0,.sl0,.sl0,.i .i64 t.l]) rfl (pG) rfl rfl (Nat.le_of_ble_eq_true rfl) rfl) ?_
    conv=>whnf
    have k8:=k7.st pG (b_ 1 t6.s false .p0 .p0 .sl0 .sl0 t.l)
    have jl:((s6.set σ2.length (b_ 1 [] false .p0 .p0 .sl0 .sl0 t.l)).set σ2.length (b_ 1 t6.s false .p0 .p0 .sl0 .sl0 t.l))[σ2.length]? =_:=at_set pG _
    have kC:((s6.set σ2.length (b_ 1 [] false .p0 .p0 .sl0 .sl0 t.l)).set σ2.length (b_ 1 t6.s false .p0 .p0 .sl0 .sl0 t.l))[σ3.length]? =_:=aN pI (by omega) _
    have c8:((s6.set σ2.length (b_ 1 [] false .p0 .p0 .sl0 .sl0 t.l)).set σ2.length (b_ 1 t6.s false .p0 .p0 .sl0 .sl0 t.l))[σ.length]? =_:=aN c7 (by omega) _
    have Gu:aO p σ ((s6.set σ2.length (b_ 1 [] false .p0 .p0 .sl0 .sl0 t.l)).set σ2.length (b_ 1 t6.s false .p0 .p0 .sl0 .sl0 t.l)):=((pF.trans y6).bg (bG.bF _ _ _ _) (by omega)).bg (bG.bF _ _ _ _) (by omega)
    have ll8:((s6.set σ2.length (b_ 1 [] false .p0 .p0 .sl0 .sl0 t.l)).set σ2.length (b_ 1 t6.s false .p0 .p0 .sl0 .sl0 t.l)).length=s6.length:=by rw [List.length_set,List.length_set]
    refine ak (aj (T:=bZ) rfl rfl (ah (kC)) rfl) ?_
    conv=>whnf
    refine ak (aj (T:=aW) rfl rfl (ah (c8)) rfl) ?_
    conv=>whnf
    refine jZ [112,116,114] k8 ht7 (fun hi=>(aU he2 Gt hi).1) (fun hi s9 y9 k9=>?_) (fun hi=>?_)
    ·have Oc:isW wPtr (t7 :: r7)=true:=hi
     have hQ:jI p w g all σ d Q (
            if isW [61] r7=true then
             (pEnded n d r7.tail).bind fun x ts=>.ok (.st 1 t6.s true .nil x .nil .nil t.l) ts
            else(mustW [59] r7).bind fun _ ts=>.ok (.st 1 t6.s true .nil .nil .nil .nil t.l) ts):=by
            simp only [Oc,if_true] at hQ;exact hQ
     have hlr7:(all.drop (m+1+1+1)).length=r7.length:=by rw [hr7]
     rw [←hr7] at hQ
     have yE:=y9.get (by omega) jl
     have vT:=y9.get (by omega) kC
     have c9:=y9.get (by omega) c8
     conv=>whnf
     refine⟨?_,?_⟩
     ·conv=>whnf
      refine ak (aj (T:=bZ) rfl rfl (ah (vT)) rfl) ?_
      rfl
     conv=>whnf
     refine ak (aF (T:=qg) ([.i .i64 1,.s t6.s,.b true,.p0,.p0,.sl0,.sl0,.i .i64 t.l]) rfl (yE) rfl rfl (Nat.le_of_ble_eq_true rfl) rfl) ?_
     conv=>whnf
     have kB:=(k9).st (yE) (b_ 1 t6.s true .p0 .p0 .sl0 .sl0 t.l)
     have Oe:(List.set s9 σ2.length (b_ 1 t6.s true .p0 .p0 .sl0 .sl0 t.l))[σ2.length]? =_:=at_set (yE) _
     have JV:(List.set s9 σ2.length (b_ 1 t6.s true .p0 .p0 .sl0 .sl0 t.l))[σ3.length]? =_:=aN (vT) (by omega) _
     have cB:(List.set s9 σ2.length (b_ 1 t6.s true .p0 .p0 .sl0 .sl0 t.l))[σ.length]? =_:=aN (c9) (by omega) _
     have vF:aO p σ (List.set s9 σ2.length (b_ 1 t6.s true .p0 .p0 .sl0 .sl0 t.l)):=(Gu.trans y9).bg (bG.bF _ _ _ _) (by omega)
     have hE:=(aU he2 Gt hi).2.1
     obtain⟨t8,r8,lI⟩:=hE.ne
     obtain⟨U7,O0⟩:=bJ lI
     have hl8:(all.drop (m+1+1+1)).length=r8.length+1:=by rw [lI];rfl
     rw [lI] at hQ
     refine ak (aj (T:=aW) rfl rfl (ah (cB)) rfl) ?_
     conv=>whnf
     refine jZ [61] kB U7 (fun hi=>(aU hE lI hi).1) (fun hi sA yA kA=>?_) (fun hi=>?_)
     ·rw [if_pos (show isW [61] (t8 :: r8)=true from hi)] at hQ
      have hQ:jI p w g all σ d Q ((pEnded n d r8).bind fun x ts=>.ok (.st 1 t6.s true .nil x .nil .nil t.l) ts):=hQ
      obtain⟨Tn,Kt,Og⟩:=aU hE lI hi
      have hlA:(all.drop (m+1+1+1+1)).length=r8.length:=by rw [O0]
      rw [←O0] at hQ
      conv=>whnf
      refine OZ d 1 _ σ2.length σ3.length σ.length t.l t6.s true .p0 sA (m+1+1+1+1) _ kA hd Kt (by omega) (yA.get (by omega) (JV)) (yA.get (by omega) (cB)) (yA.get (by omega) (Oe)) ⟨by omega,by omega,by omega,by omega,by omega⟩ ?_
      generalize pEnded n d (all.drop (m+1+1+1+1))=rE at hQ
      cases rE with
      | out=>trivial
      | bad c l=>
        intro s9 y9 k9
        conv=>whnf
        exact Fin.ref rfl (hQ _ _ _ (((vF).trans yA).bg y9 (by omega)) k9)
      | ok z Gv=>
        have hQ:jI p w g all σ d Q (.ok (.st 1 t6.s true .nil z .nil .nil t.l) Gv):=hQ
        intro R s9 m9 y9 k9 zh Gx Gy
        conv=>whnf
        have lX:=((vF).trans yA).len
        refine Fin.ref rfl (hQ _ _ _ _ (((vF).trans yA).bg y9 (by omega)) k9 zh ⟨σ2.length,0,.p0,R,.sl0,.sl0,by omega,rfl,Gx,rfl,?_,rfl,rfl⟩)
        exact bC.mono (fun i hi=>by first | omega | (rw [List.length_set] at hi;omega)) (fun i hi a ha=>ha) Gy
     ·rw [if_neg (by rw [show isW [61] (t8 :: r8)=fB [61] t8 from rfl,hi];decide)] at hQ
      conv=>whnf
      refine ak (aj (T:=aW) rfl rfl (ah (cB)) rfl) ?_
      conv=>whnf
      refine ig [59] kB U7 (fun hi=>(aU hE lI hi).1) (fun hi sA yA kA=>?_) (fun hi sA yA kA=>?_)
      ·rw [mustW,if_pos (show isW [59] (t8 :: r8)=true from hi)] at hQ
       conv=>whnf
       refine ak (aj (T:=bZ) rfl rfl (ah (yA.get (by omega) (JV))) rfl) ?_
       conv=>whnf
       have lX:=(vF).len
       exact Fin.ref rfl (hQ _ _ _ _ ((vF).trans yA) kA O0 ⟨σ2.length,0,.p0,.p0,.sl0,.sl0,by omega,rfl,yA.get (by omega) (Oe),rfl,rfl,rfl,rfl⟩)
      ·rw [mustW,if_neg (show ¬isW [59] (t8 :: r8)=true by rw [show isW [59] (t8 :: r8)=fB [59] t8 from rfl,hi];decide)] at hQ
       conv=>whnf
       refine ak (aj (T:=bZ) rfl rfl (ah (yA.get (by omega) (JV))) rfl) ?_
       conv=>whnf
       exact Fin.ref rfl (hQ _ _ _ ((vF).trans yA) kA)
    ·have Oc:isW wPtr (t7 :: r7)=false:=hi
     have hQ:jI p w g all σ d Q (
            if isW [61] (t7 :: r7)=true then
             (pEnded n d (t7 :: r7).tail).bind fun x ts=>.ok (.st 1 t6.s false .nil x .nil .nil t.l) ts
            else(mustW [59] (t7 :: r7)).bind fun _ ts=>.ok (.st 1 t6.s false .nil .nil .nil .nil t.l) ts):=by
            simp only [Oc,if_neg Bool.false_ne_true] at hQ;exact hQ
     rw [←Gt] at hQ
     conv=>whnf
     refine⟨?_,?_⟩
     ·conv=>whnf
      refine ak (aj (T:=bZ) rfl rfl (ah (kC)) rfl) ?_
      rfl
     conv=>whnf
     refine ak (aF (T:=qg) ([.i .i64 1,.s t6.s,.b false,.p0,.p0,.sl0,.sl0,.i .i64 t.l]) rfl (jl) rfl rfl (Nat.le_of_ble_eq_true rfl) rfl) ?_
     conv=>whnf
     have kB:=(k8).st (jl) (b_ 1 t6.s false .p0 .p0 .sl0 .sl0 t.l)
     have Oe:(List.set ((s6.set σ2.length (b_ 1 [] false .p0 .p0 .sl0 .sl0 t.l)).set σ2.length (b_ 1 t6.s false .p0 .p0 .sl0 .sl0 t.l)) σ2.length (b_ 1 t6.s false .p0 .p0 .sl0 .sl0 t.l))[σ2.length]? =_:=at_set (jl) _
     have JV:(List.set ((s6.set σ2.length (b_ 1 [] false .p0 .p0 .sl0 .sl0 t.l)).set σ2.length (b_ 1 t6.s false .p0 .p0 .sl0 .sl0 t.l)) σ2.length (b_ 1 t6.s false .p0 .p0 .sl0 .sl0 t.l))[σ3.length]? =_:=aN (kC) (by omega) _
     have cB:(List.set ((s6.set σ2.length (b_ 1 [] false .p0 .p0 .sl0 .sl0 t.l)).set σ2.length (b_ 1 t6.s false .p0 .p0 .sl0 .sl0 t.l)) σ2.length (b_ 1 t6.s false .p0 .p0 .sl0 .sl0 t.l))[σ.length]? =_:=aN (c8) (by omega) _
     have vF:aO p σ (List.set ((s6.set σ2.length (b_ 1 [] false .p0 .p0 .sl0 .sl0 t.l)).set σ2.length (b_ 1 t6.s false .p0 .p0 .sl0 .sl0 t.l)) σ2.length (b_ 1 t6.s false .p0 .p0 .sl0 .sl0 t.l)):=(Gu).bg (bG.bF _ _ _ _) (by omega)
     have hE:=he2
     obtain⟨t8,r8,lI⟩:=hE.ne
     obtain⟨U7,O0⟩:=bJ lI
     have hl8:(all.drop (m+1+1)).length=r8.length+1:=by rw [lI];rfl
     rw [lI] at hQ
     refine ak (aj (T:=aW) rfl rfl (ah (cB)) rfl) ?_
     conv=>whnf
     refine jZ [61] kB U7 (fun hi=>(aU hE lI hi).1) (fun hi sA yA kA=>?_) (fun hi=>?_)
     ·rw [if_pos (show isW [61] (t8 :: r8)=true from hi)] at hQ
      have hQ:jI p w g all σ d Q ((pEnded n d r8).bind fun x ts=>.ok (.st 1 t6.s false .nil x .nil .nil t.l) ts):=hQ
      obtain⟨Tn,Kt,Og⟩:=aU hE lI hi
      have hlA:(all.drop (m+1+1+1)).length=r8.length:=by rw [O0]
      rw [←O0] at hQ
      conv=>whnf
      refine OZ d 1 _ σ2.length σ3.length σ.length t.l t6.s false .p0 sA (m+1+1+1) _ kA hd Kt (by omega) (yA.get (by omega) (JV)) (yA.get (by omega) (cB)) (yA.get (by omega) (Oe)) ⟨by omega,by omega,by omega,by omega,by omega⟩ ?_
      generalize pEnded n d (all.drop (m+1+1+1))=rE at hQ
      cases rE with
      | out=>trivial
      | bad c l=>
        intro s9 y9 k9
        conv=>whnf
        exact Fin.ref rfl (hQ _ _ _ (((vF).trans yA).bg y9 (by omega)) k9)
      | ok z Gv=>
        have hQ:jI p w g all σ d Q (.ok (.st 1 t6.s false .nil z .nil .nil t.l) Gv):=hQ
        intro R s9 m9 y9 k9 zh Gx Gy
        conv=>whnf
        have lX:=((vF).trans yA).len
        refine Fin.ref rfl (hQ _ _ _ _ (((vF).trans yA).bg y9 (by omega)) k9 zh ⟨σ2.length,0,.p0,R,.sl0,.sl0,by omega,rfl,Gx,rfl,?_,rfl,rfl⟩)
        exact bC.mono (fun i hi=>by first | omega | (rw [List.length_set] at hi;omega)) (fun i hi a ha=>ha) Gy
     ·rw [if_neg (by rw [show isW [61] (t8 :: r8)=fB [61] t8 from rfl,hi];decide)] at hQ
      conv=>whnf
      refine ak (aj (T:=aW) rfl rfl (ah (cB)) rfl) ?_
      conv=>whnf
      refine ig [59] kB U7 (fun hi=>(aU hE lI hi).1) (fun hi sA yA kA=>?_) (fun hi sA yA kA=>?_)
      ·rw [mustW,if_pos (show isW [59] (t8 :: r8)=true from hi)] at hQ
       conv=>whnf
       refine ak (aj (T:=bZ) rfl rfl (ah (yA.get (by omega) (JV))) rfl) ?_
       conv=>whnf
       have lX:=(vF).len
       exact Fin.ref rfl (hQ _ _ _ _ ((vF).trans yA) kA O0 ⟨σ2.length,0,.p0,.p0,.sl0,.sl0,by omega,rfl,yA.get (by omega) (Oe),rfl,rfl,rfl,rfl⟩)
      ·rw [mustW,if_neg (show ¬isW [59] (t8 :: r8)=true by rw [show isW [59] (t8 :: r8)=fB [59] t8 from rfl,hi];decide)] at hQ
       conv=>whnf
       refine ak (aj (T:=bZ) rfl rfl (ah (yA.get (by omega) (JV))) rfl) ?_
       conv=>whnf
       exact Fin.ref rfl (hQ _ _ _ ((vF).trans yA) kA)
   ·simp only [nameW,if_neg hk1] at hQ
    have hQ:jI p w g all σ d Q (.bad 4 t6.l):=hQ
    have oU:=y6.get (by omega) rY
    have rO:=y6.get (by omega) nY
    have c6:=y6.get (by omega) c5
    conv=>whnf
    refine⟨?_,?_⟩
    ·conv=>whnf
     refine ak (aj (T:=bZ) rfl rfl (ah (rO)) rfl) ?_
     rfl
    conv=>whnf
    refine⟨?_,?_⟩
    ·conv=>whnf
     refine ak (aj (T:=bZ) rfl rfl (ah (rO)) rfl) ?_
     rfl
    conv=>whnf
    refine ak (aF (T:=dJ) ([.i .i64 1,.s [],.b false,.p0,.p0,.sl0,.sl0,.i .i64 t.l]) rfl (oU) rfl rfl (Nat.le_of_ble_eq_true rfl) rfl) ?_
    conv=>whnf
    have k7:=k6.st oU (b_ 1 [] false .p0 .p0 .sl0 .sl0 t.l)
    have pG:(s6.set σ2.length (b_ 1 [] false .p0 .p0 .sl0 .sl0 t.l))[σ2.length]? =_:=at_set oU _
    have pI:(s6.set σ2.length (b_ 1 [] false .p0 .p0 .sl0 .sl0 t.l))[σ3.length]? =_:=aN rO (by omega) _
    have c7:(s6.set σ2.length (b_ 1 [] false .p0 .p0 .sl0 .sl0 t.l))[σ.length]? =_:=aN c6 (by omega) _
    refine⟨?_,?_⟩
    ·conv=>whnf
     refine ak (aj (T:=bZ) rfl rfl (ah (pI)) rfl) ?_
     rfl
    conv=>whnf
    refine ak (aF (T:=dP) ([.i .i64 1,.s [],.b false,.p0,.p0,.sl0,.sl0,.i .i64 t.l]) rfl (pG) rfl rfl (Nat.le_of_ble_eq_true rfl) rfl) ?_
    conv=>whnf
    have k8:=k7.st pG (b_ 1 [] false .p0 .p0 .sl0 .sl0 t.l)
    have jl:((s6.set σ2.length (b_ 1 [] false .p0 .p0 .sl0 .sl0 t.l)).set σ2.length (b_ 1 [] false .p0 .p0 .sl0 .sl0 t.l))[σ2.length]? =_:=at_set pG _
    have kC:((s6.set σ2.length (b_ 1 [] false .p0 .p0 .sl0 .sl0 t.l)).set σ2.length (b_ 1 [] false .p0 .p0 .sl0 .sl0 t.l))[σ3.length]? =_:=aN pI (by omega) _
    have c8:((s6.set σ2.length (b_ 1 [] false .p0 .p0 .sl0 .sl0 t.l)).set σ2.length (b_ 1 [] false .p0 .p0 .sl0 .sl0 t.l))[σ.length]? =_:=aN c7 (by omega) _
    have Gu:aO p σ ((s6.set σ2.length (b_ 1 [] false .p0 .p0 .sl0 .sl0 t.l)).set σ2.length (b_ 1 [] false .p0 .p0 .sl0 .sl0 t.l)):=((pF.trans y6).bg (bG.bF _ _ _ _) (by omega)).bg (bG.bF _ _ _ _) (by omega)
    have ll8:((s6.set σ2.length (b_ 1 [] false .p0 .p0 .sl0 .sl0 t.l)).set σ2.length (b_ 1 [] false .p0 .p0 .sl0 .sl0 t.l)).length=s6.length:=by rw [List.length_set,List.length_set]
    refine ak (aj (T:=bZ) rfl rfl (ah (kC)) rfl) ?_
    conv=>whnf
    refine ak (aj (T:=aW) rfl rfl (ah (c8)) rfl) ?_
    conv=>whnf
    refine ay.to (jv [112,116,114] k8) ?_
    conv=>whnf
    refine⟨?_,?_⟩
    ·conv=>whnf
     refine ak (aj (T:=bZ) rfl rfl (ah (kC)) rfl) ?_
     rfl
    conv=>whnf
    refine ak (aF (T:=qg) ([.i .i64 1,.s [],.b false,.p0,.p0,.sl0,.sl0,.i .i64 t.l]) rfl (jl) rfl rfl (Nat.le_of_ble_eq_true rfl) rfl) ?_
    conv=>whnf
    have k9:=k8.st jl (b_ 1 [] false .p0 .p0 .sl0 .sl0 t.l)
    refine ak (aj (T:=aW) rfl rfl (ah (aN c8 (by omega) _)) rfl) ?_
    conv=>whnf
    refine ay.to (jv [61] k9) ?_
    conv=>whnf
    refine ak (aj (T:=aW) rfl rfl (ah (aN c8 (by omega) _)) rfl) ?_
    conv=>whnf
    refine ay.to (iq [59] k9) ?_
    conv=>whnf
    refine ak (aj (T:=bZ) rfl rfl (ah (aN kC (by omega) _)) rfl) ?_
    conv=>whnf
    exact Fin.ref rfl (hQ _ _ _ (Gu.bg (bG.bF _ _ _ _) (by omega)) k9)
  ·have hW:∀s,isW s (t :: r)=(t.s == s):=fun s=>by show ((t.k == 4 || t.k == 3) && t.s == s)=_;rw [hk4];rfl
   rw [if_neg (by rw [hW,hs];decide),if_neg (by rw [hW,hs];decide),if_neg (by rw [hW,hs];decide),if_neg (by rw [hW,hs];decide),if_neg (by rw [hW,hs];decide),if_neg (by rw [hW,hs];decide),if_neg (by rw [hW,hs];decide)] at hQ
   rw [show (t.s == [110,101,119])=false by rw [hs];rfl]
   conv=>whnf
   refine ak (aj (T:=dP) rfl rfl (ah (ct)) rfl) ?_
   conv=>whnf
   rw [show (t.s == [105,110])=false by rw [hs];rfl]
   conv=>whnf
   refine ak (aj (T:=aW) rfl rfl (ah (c1)) rfl) ?_
   conv=>whnf
   refine f_ h4 hm1 fun s5 y5 k5=>?_
   have c5:=y5.get (by omega) c1
   have yD:=y5.get (by omega) ct
   have rY:=y5.get (by omega) cx
   have nY:=y5.get (by omega) b4
   have pF:=xx.trans y5
   have l5:=y5.len
   conv=>whnf
   refine ak (aj (T:=dP) rfl rfl (ah (yD)) rfl) ?_
   conv=>whnf
   rw [show (t.s == [118,97,114])=false by rw [hs];rfl]
   conv=>whnf
   rw [show (t.s == [105,102])=false by rw [hs];rfl]
   conv=>whnf
   rw [show (t.s == [119,104,105,108,101])=false by rw [hs];rfl]
   conv=>whnf
   rw [show (t.s == [111,117,116])=false by rw [hs];rfl]
   conv=>whnf
   rw [show (t.s == [102,114,101,101])=false by rw [hs];rfl]
   conv=>whnf
   rw [show (t.s == [100,114,97,105,110])=false by rw [hs];rfl]
   conv=>whnf
   rw [show (t.s == [114,101,116,117,114,110])=false by rw [hs];rfl]
   conv=>whnf
   rw [tZ n d t r hk4 (by rw [hs];decide) (by rw [hs];decide) (by rw [hs];decide) (by omega)] at hQ
   have hQ:jI p w g all σ d Q (.bad 4 t.l):=hQ
   have hal:=h.len
   refine ak (aj (T:=aW) rfl rfl (ah (c5)) rfl) ?_
   conv=>whnf
   refine ak (dY (T:=vk) rfl rfl (ah (yD)) (Nat.le_of_ble_eq_true rfl)) ?_
   conv=>whnf
   refine ak (aj (T:=aW) rfl rfl (ah (c5)) rfl) ?_
   conv=>whnf
   refine ak (aj (T:=lF) rfl rfl (ah (k5.obj)) rfl) ?_
   conv=>whnf
   have b6:(au 62 [.i .i64 t.k,.s t.s,.i .i64 t.l] s5)[s5.length]? =some ⟨0,false,.cells 62 [.i .i64 t.k,.s t.s,.i .i64 t.l]⟩:=aH _ _ _
   have x6:Ext s5 (au 62 [.i .i64 t.k,.s t.s,.i .i64 t.l] s5):=(Ext.refl s5).new _ _
   have l6:(au 62 [.i .i64 t.k,.s t.s,.i .i64 t.l] s5).length=s5.length+1:=aI _ _ _
   generalize au 62 [.i .i64 t.k,.s t.s,.i .i64 t.l] s5=jY at b6 x6 l6 ⊢
   have k6:=k5.ext x6
   have c6:=x6.get c5
   refine⟨?_,?_⟩
   ·conv=>whnf
    refine ak (aj (T:=aW) rfl rfl (ah (c6)) rfl) ?_
    rfl
   conv=>whnf
   refine⟨?_,?_⟩
   ·conv=>whnf
    refine ak (aj (T:=aW) rfl rfl (ah (c6)) rfl) ?_
    rfl
   conv=>whnf
   refine⟨?_,?_⟩
   ·conv=>whnf
    refine ak (aj (T:=lF) rfl rfl (ah (k6.obj)) rfl) ?_
    rfl
   conv=>whnf
   have hwl:=bn k5.tok
   refine tY (t:=t) (m:=m+1) b6 k6.tok hm1 hal ?_
   conv=>whnf
   have c7:(jY.set s5.length ⟨1,false,.cells 62 (dI (t :: all.drop (m+1)))⟩)[σ.length]? =_:=aN c6 (by omega) _
   refine⟨?_,?_⟩
   ·conv=>whnf
    refine ak (aj (T:=aW) rfl rfl (ah (c7)) rfl) ?_
    rfl
   conv=>whnf
   have o7:(jY.set s5.length ⟨1,false,.cells 62 (dI (t :: all.drop (m+1)))⟩)[p]? =_:=aN k6.obj (by omega) _
   have t7:(jY.set s5.length ⟨1,false,.cells 62 (dI (t :: all.drop (m+1)))⟩)[s5.length]? =_:=at_set b6 _
   refine ak (aF (T:=lF) (kZ s5.length 1 (t :: all.drop (m+1)).length 0 d .p0) rfl (o7) rfl rfl (Nat.le_of_ble_eq_true rfl) rfl) ?_
   conv=>whnf
   have k8:PW p s5.length 1 (t :: all.drop (m+1)) ((jY.set s5.length ⟨1,false,.cells 62 (dI (t :: all.drop (m+1)))⟩).set p ⟨0,false,.cells 88 (kZ s5.length 1 (t :: all.drop (m+1)).length 0 d .p0)⟩) 0 d .p0:=⟨at_set o7 _,aN t7 (by omega) _,by omega,by rw [List.length_cons,List.length_drop];omega,by rw [List.length_cons];omega,h.dp⟩
   refine ak (aj (T:=aW) rfl rfl (ah (aN c7 (by omega) _)) rfl) ?_
   conv=>whnf
   refine nV 4 k8 (t:=t) rfl fun s9 y9 k9=>?_
   conv=>whnf
   refine ak (aj (T:=bZ) rfl rfl (ah (y9.get (by omega) (aN (aN (x6.get nY) (by omega) _) (by omega) _))) rfl) ?_
   conv=>whnf
   exact Fin.ref rfl (hQ _ _ _ ((((pF.trans (aO.of x6)).bg (bG.bF _ _ _ _) (by omega)).trans ((aO.refl p _).tV _)).trans y9) k9)
  ·have hW:∀s,isW s (t :: r)=(t.s == s):=fun s=>by show ((t.k == 4 || t.k == 3) && t.s == s)=_;rw [hk4];rfl
   rw [if_neg (by rw [hW,hs];decide),if_pos (by rw [hW,hs];rfl)] at hQ
   rw [show (t.s == [110,101,119])=false by rw [hs];rfl]
   conv=>whnf
   refine ak (aj (T:=dP) rfl rfl (ah (ct)) rfl) ?_
   conv=>whnf
   rw [show (t.s == [105,110])=false by rw [hs];rfl]
   conv=>whnf
   refine ak (aj (T:=aW) rfl rfl (ah (c1)) rfl) ?_
   conv=>whnf
   refine f_ h4 hm1 fun s5 y5 k5=>?_
   have c5:=y5.get (by omega) c1
   have yD:=y5.get (by omega) ct
   have rY:=y5.get (by omega) cx
   have nY:=y5.get (by omega) b4
   have pF:=xx.trans y5
   have l5:=y5.len
   conv=>whnf
   refine ak (aj (T:=dP) rfl rfl (ah (yD)) rfl) ?_
   conv=>whnf
   rw [show (t.s == [118,97,114])=false by rw [hs];rfl]
   conv=>whnf
   rw [show (t.s == [105,102])=true by rw [hs];rfl]
   conv=>whnf
   rw [←hr] at hQ
   refine ak (aj (T:=aW) rfl rfl (ah (c5)) rfl) ?_
   conv=>whnf
   refine ak (aj (T:=dJ) rfl rfl (ah (yD)) rfl) ?_
   conv=>whnf
   refine ih.branch d t.l s5 (m+1) _ k5 hd he1 (by omega) (hQ.to pF fun o g' s q=>?_)
   conv=>whnf
   exact Fin.ref rfl q
  ·have hW:∀s,isW s (t :: r)=(t.s == s):=fun s=>by show ((t.k == 4 || t.k == 3) && t.s == s)=_;rw [hk4];rfl
   rw [if_neg (by rw [hW,hs];decide),if_neg (by rw [hW,hs];decide),if_neg (by rw [hW,hs];decide),if_neg (by rw [hW,hs];decide),if_neg (by rw [hW,hs];decide),if_neg (by rw [hW,hs];decide),if_neg (by rw [hW,hs];decide)] at hQ
   rw [show (t.s == [110,101,119])=false by rw [hs];rfl]
   conv=>whnf
   refine ak (aj (T:=dP) rfl rfl (ah (ct)) rfl) ?_
   conv=>whnf
   rw [show (t.s == [105,110])=false by rw [hs];rfl]
   conv=>whnf
   refine ak (aj (T:=aW) rfl rfl (ah (c1)) rfl) ?_
   conv=>whnf
   refine f_ h4 hm1 fun s5 y5 k5=>?_
   have c5:=y5.get (by omega) c1
   have yD:=y5.get (by omega) ct
   have rY:=y5.get (by omega) cx
   have nY:=y5.get (by omega) b4
   have pF:=xx.trans y5
   have l5:=y5.len
   conv=>whnf
   refine ak (aj (T:=dP) rfl rfl (ah (yD)) rfl) ?_
   conv=>whnf
   rw [show (t.s == [118,97,114])=false by rw [hs];rfl]
   conv=>whnf
   rw [show (t.s == [105,102])=false by rw [hs];rfl]
   conv=>whnf
   rw [show (t.s == [119,104,105,108,101])=false by rw [hs];rfl]
   conv=>whnf
   rw [show (t.s == [111,117,116])=false by rw [hs];rfl]
   conv=>whnf
   rw [show (t.s == [102,114,101,101])=false by rw [hs];rfl]
   conv=>whnf
   rw [show (t.s == [100,114,97,105,110])=false by rw [hs];rfl]
   conv=>whnf
   rw [show (t.s == [114,101,116,117,114,110])=false by rw [hs];rfl]
   conv=>whnf
   rw [tZ n d t r hk4 (by rw [hs];decide) (by rw [hs];decide) (by rw [hs];decide) (by omega)] at hQ
   have hQ:jI p w g all σ d Q (.bad 4 t.l):=hQ
   have hal:=h.len
   refine ak (aj (T:=aW) rfl rfl (ah (c5)) rfl) ?_
   conv=>whnf
   refine ak (dY (T:=vk) rfl rfl (ah (yD)) (Nat.le_of_ble_eq_true rfl)) ?_
   conv=>whnf
   refine ak (aj (T:=aW) rfl rfl (ah (c5)) rfl) ?_
   conv=>whnf
   refine ak (aj (T:=lF) rfl rfl (ah (k5.obj)) rfl) ?_
   conv=>whnf
   have b6:(au 62 [.i .i64 t.k,.s t.s,.i .i64 t.l] s5)[s5.length]? =some ⟨0,false,.cells 62 [.i .i64 t.k,.s t.s,.i .i64 t.l]⟩:=aH _ _ _
   have x6:Ext s5 (au 62 [.i .i64 t.k,.s t.s,.i .i64 t.l] s5):=(Ext.refl s5).new _ _
   have l6:(au 62 [.i .i64 t.k,.s t.s,.i .i64 t.l] s5).length=s5.length+1:=aI _ _ _
   generalize au 62 [.i .i64 t.k,.s t.s,.i .i64 t.l] s5=jY at b6 x6 l6 ⊢
   have k6:=k5.ext x6
   have c6:=x6.get c5
   refine⟨?_,?_⟩
   ·conv=>whnf
    refine ak (aj (T:=aW) rfl rfl (ah (c6)) rfl) ?_
    rfl
   conv=>whnf
   refine⟨?_,?_⟩
   ·conv=>whnf
    refine ak (aj (T:=aW) rfl rfl (ah (c6)) rfl) ?_
    rfl
   conv=>whnf
   refine⟨?_,?_⟩
   ·conv=>whnf
    refine ak (aj (T:=lF) rfl rfl (ah (k6.obj)) rfl) ?_
    rfl
   conv=>whnf
   have hwl:=bn k5.tok
   refine tY (t:=t) (m:=m+1) b6 k6.tok hm1 hal ?_
   conv=>whnf
   have c7:(jY.set s5.length ⟨1,false,.cells 62 (dI (t :: all.drop (m+1)))⟩)[σ.length]? =_:=aN c6 (by omega) _
   refine⟨?_,?_⟩
   ·conv=>whnf
    refine ak (aj (T:=aW) rfl rfl (ah (c7)) rfl) ?_
    rfl
   conv=>whnf
   have o7:(jY.set s5.length ⟨1,false,.cells 62 (dI (t :: all.drop (m+1)))⟩)[p]? =_:=aN k6.obj (by omega) _
   have t7:(jY.set s5.length ⟨1,false,.cells 62 (dI (t :: all.drop (m+1)))⟩)[s5.length]? =_:=at_set b6 _
   refine ak (aF (T:=lF) (kZ s5.length 1 (t :: all.drop (m+1)).length 0 d .p0) rfl (o7) rfl rfl (Nat.le_of_ble_eq_true rfl) rfl) ?_
   conv=>whnf
   have k8:PW p s5.length 1 (t :: all.drop (m+1)) ((jY.set s5.length ⟨1,false,.cells 62 (dI (t :: all.drop (m+1)))⟩).set p ⟨0,false,.cells 88 (kZ s5.length 1 (t :: all.drop (m+1)).length 0 d .p0)⟩) 0 d .p0:=⟨at_set o7 _,aN t7 (by omega) _,by omega,by rw [List.length_cons,List.length_drop];omega,by rw [List.length_cons];omega,h.dp⟩
   refine ak (aj (T:=aW) rfl rfl (ah (aN c7 (by omega) _)) rfl) ?_
   conv=>whnf
   refine nV 4 k8 (t:=t) rfl fun s9 y9 k9=>?_
   conv=>whnf
   refine ak (aj (T:=bZ) rfl rfl (ah (y9.get (by omega) (aN (aN (x6.get nY) (by omega) _) (by omega) _))) rfl) ?_
   conv=>whnf
   exact Fin.ref rfl (hQ _ _ _ ((((pF.trans (aO.of x6)).bg (bG.bF _ _ _ _) (by omega)).trans ((aO.refl p _).tV _)).trans y9) k9)
  ·have hW:∀s,isW s (t :: r)=(t.s == s):=fun s=>by show ((t.k == 4 || t.k == 3) && t.s == s)=_;rw [hk4];rfl
   rw [if_neg (by rw [hW,hs];decide),if_neg (by rw [hW,hs];decide),if_pos (by rw [hW,hs];rfl)] at hQ
   rw [show (t.s == [110,101,119])=false by rw [hs];rfl]
   conv=>whnf
   refine ak (aj (T:=dP) rfl rfl (ah (ct)) rfl) ?_
   conv=>whnf
   rw [show (t.s == [105,110])=false by rw [hs];rfl]
   conv=>whnf
   refine ak (aj (T:=aW) rfl rfl (ah (c1)) rfl) ?_
   conv=>whnf
   refine f_ h4 hm1 fun s5 y5 k5=>?_
   have c5:=y5.get (by omega) c1
   have yD:=y5.get (by omega) ct
   have rY:=y5.get (by omega) cx
   have nY:=y5.get (by omega) b4
   have pF:=xx.trans y5
   have l5:=y5.len
   conv=>whnf
   refine ak (aj (T:=dP) rfl rfl (ah (yD)) rfl) ?_
   conv=>whnf
   rw [show (t.s == [118,97,114])=false by rw [hs];rfl]
   conv=>whnf
   rw [show (t.s == [105,102])=false by rw [hs];rfl]
   conv=>whnf
   rw [show (t.s == [119,104,105,108,101])=true by rw [hs];rfl]
   conv=>whnf
   rw [←hr] at hQ
   have hg:=(allE n).expr d 1 (all.drop (m+1)) he1 (by omega)
   refine ak (aj (T:=bZ) rfl rfl (ah (nY)) rfl) ?_
   conv=>whnf
   refine ak (aj (T:=bZ) rfl rfl (ah (nY)) rfl) ?_
   conv=>whnf
   refine ak (aj (T:=aW) rfl rfl (ah (c5)) rfl) ?_
   conv=>whnf
   refine Tm.expr d 1 s5 (m+1) _ k5 hd (by omega) he1 (by omega) ?_
   generalize pExpr n d 1 (all.drop (m+1))=r1 at hg hQ
   cases r1 with
   | out=>exact hg.elim
   | bad c l=>
     have hQ:jI p w g all σ d Q (.bad c l):=hQ
     intro o g' s6 y6 k6
     have oU:=y6.get (by omega) rY
     have rO:=y6.get (by omega) nY
     have c6:=y6.get (by omega) c5
     conv=>whnf
     refine⟨?_,?_⟩
     ·conv=>whnf
      refine ak (aj (T:=bZ) rfl rfl (ah (rO)) rfl) ?_
      rfl
     conv=>whnf
     refine⟨?_,?_⟩
     ·conv=>whnf
      refine ak (aj (T:=bZ) rfl rfl (ah (rO)) rfl) ?_
      rfl
     conv=>whnf
     refine ak (aF (T:=dJ) ([.i .i64 5,.s [],.b false,.p0,.p0,.sl0,.sl0,.i .i64 t.l]) rfl (oU) rfl rfl (Nat.le_of_ble_eq_true rfl) rfl) ?_
     conv=>whnf
     have k7:=k6.st oU (b_ 5 [] false .p0 .p0 .sl0 .sl0 t.l)
     have pG:(s6.set σ2.length (b_ 5 [] false .p0 .p0 .sl0 .sl0 t.l))[σ2.length]? =_:=at_set oU _
     have pI:(s6.set σ2.length (b_ 5 [] false .p0 .p0 .sl0 .sl0 t.l))[σ3.length]? =_:=aN rO (by omega) _
     have c7:(s6.set σ2.length (b_ 5 [] false .p0 .p0 .sl0 .sl0 t.l))[σ.length]? =_:=aN c6 (by omega) _
     refine⟨?_,?_⟩
     ·conv=>whnf
      refine ak (aj (T:=bZ) rfl rfl (ah (pI)) rfl) ?_
      rfl
     conv=>whnf
     refine ak (aF (T:=aV) ([.i .i64 5,.s [],.b false,.p0,.p o g' 0,.sl0,.sl0,.i .i64 t.l]) rfl (pG) rfl rfl (Nat.le_of_ble_eq_true rfl) rfl) ?_
     conv=>whnf
     have k8:=k7.st pG (b_ 5 [] false .p0 (.p o g' 0) .sl0 .sl0 t.l)
     have jl:((s6.set σ2.length (b_ 5 [] false .p0 .p0 .sl0 .sl0 t.l)).set σ2.length (b_ 5 [] false .p0 (.p o g' 0) .sl0 .sl0 t.l))[σ2.length]? =_:=at_set pG _
     have kC:((s6.set σ2.length (b_ 5 [] false .p0 .p0 .sl0 .sl0 t.l)).set σ2.length (b_ 5 [] false .p0 (.p o g' 0) .sl0 .sl0 t.l))[σ3.length]? =_:=aN pI (by omega) _
     have Gu:aO p σ ((s6.set σ2.length (b_ 5 [] false .p0 .p0 .sl0 .sl0 t.l)).set σ2.length (b_ 5 [] false .p0 (.p o g' 0) .sl0 .sl0 t.l)):=((pF.trans y6).bg (bG.bF _ _ _ _) (by omega)).bg (bG.bF _ _ _ _) (by omega)
     refine ak (aj (T:=bZ) rfl rfl (ah (kC)) rfl) ?_
     conv=>whnf
     refine ak (aj (T:=aW) rfl rfl (ah (aN c7 (by omega) _)) rfl) ?_
     conv=>whnf
     refine rM k8 (by have:=h.dp;omega) fun s9 y9 k9=>?_
     conv=>whnf
     refine⟨?_,?_⟩
     ·conv=>whnf
      refine ak (aj (T:=bZ) rfl rfl (ah (y9.get (by omega) kC)) rfl) ?_
      rfl
     conv=>whnf
     refine ak (aF (T:=cO) ([.i .i64 5,.s [],.b false,.p0,.p o g' 0,.sl0,.sl0,.i .i64 t.l]) rfl (y9.get (by omega) jl) rfl rfl (Nat.le_of_ble_eq_true rfl) rfl) ?_
     conv=>whnf
     have k10:=k9.st (y9.get (by omega) jl) (b_ 5 [] false .p0 (.p o g' 0) .sl0 .sl0 t.l)
     refine ak (aj (T:=bZ) rfl rfl (ah (aN (y9.get (by omega) kC) (by omega) _)) rfl) ?_
     conv=>whnf
     exact Fin.ref rfl (hQ _ _ _ ((Gu.trans y9).bg (bG.bF _ _ _ _) (by omega)) k10)
   | ok z ts1=>
     have hQ:jI p w g all σ d Q ((pBlock n d ts1).bind fun th ts=>.ok (.st 5 [] false .nil z th .nil t.l) ts):=hQ
     intro o g' s6 m6 y6 k6 hm6 EJ
     have oU:=y6.get (by omega) rY
     have rO:=y6.get (by omega) nY
     have c6:=y6.get (by omega) c5
     have l6:=y6.len
     rw [←hm6] at hQ hg
     have lg:=hg.2.2
     have hgb:=(allS n).block d (all.drop m6) hg.2.1 (by omega)
     conv=>whnf
     refine⟨?_,?_⟩
     ·conv=>whnf
      refine ak (aj (T:=bZ) rfl rfl (ah (rO)) rfl) ?_
      rfl
     conv=>whnf
     refine⟨?_,?_⟩
     ·conv=>whnf
      refine ak (aj (T:=bZ) rfl rfl (ah (rO)) rfl) ?_
      rfl
     conv=>whnf
     refine ak (aF (T:=dJ) ([.i .i64 5,.s [],.b false,.p0,.p0,.sl0,.sl0,.i .i64 t.l]) rfl (oU) rfl rfl (Nat.le_of_ble_eq_true rfl) rfl) ?_
     conv=>whnf
     have k7:=k6.st oU (b_ 5 [] false .p0 .p0 .sl0 .sl0 t.l)
     have pG:(s6.set σ2.length (b_ 5 [] false .p0 .p0 .sl0 .sl0 t.l))[σ2.length]? =_:=at_set oU _
     have pI:(s6.set σ2.length (b_ 5 [] false .p0 .p0 .sl0 .sl0 t.l))[σ3.length]? =_:=aN rO (by omega) _
     have c7:(s6.set σ2.length (b_ 5 [] false .p0 .p0 .sl0 .sl0 t.l))[σ.length]? =_:=aN c6 (by omega) _
     refine⟨?_,?_⟩
     ·conv=>whnf
      refine ak (aj (T:=bZ) rfl rfl (ah (pI)) rfl) ?_
      rfl
     conv=>whnf
     refine ak (aF (T:=aV) ([.i .i64 5,.s [],.b false,.p0,.p o g' 0,.sl0,.sl0,.i .i64 t.l]) rfl (pG) rfl rfl (Nat.le_of_ble_eq_true rfl) rfl) ?_
     conv=>whnf
     have k8:=k7.st pG (b_ 5 [] false .p0 (.p o g' 0) .sl0 .sl0 t.l)
     have jl:((s6.set σ2.length (b_ 5 [] false .p0 .p0 .sl0 .sl0 t.l)).set σ2.length (b_ 5 [] false .p0 (.p o g' 0) .sl0 .sl0 t.l))[σ2.length]? =_:=at_set pG _
     have kC:((s6.set σ2.length (b_ 5 [] false .p0 .p0 .sl0 .sl0 t.l)).set σ2.length (b_ 5 [] false .p0 (.p o g' 0) .sl0 .sl0 t.l))[σ3.length]? =_:=aN pI (by omega) _
     have Gu:aO p σ ((s6.set σ2.length (b_ 5 [] false .p0 .p0 .sl0 .sl0 t.l)).set σ2.length (b_ 5 [] false .p0 (.p o g' 0) .sl0 .sl0 t.l)):=((pF.trans y6).bg (bG.bF _ _ _ _) (by omega)).bg (bG.bF _ _ _ _) (by omega)
     refine ak (aj (T:=bZ) rfl rfl (ah (kC)) rfl) ?_
     conv=>whnf
     refine ak (aj (T:=aW) rfl rfl (ah (aN c7 (by omega) _)) rfl) ?_
     conv=>whnf
     refine ih.block d _ m6 _ k8 hd hg.2.1 (by omega) ?_
     generalize pBlock n d (all.drop m6)=r2 at hgb hQ
     cases r2 with
     | out=>exact hgb.elim
     | bad c l=>
       have hQ:jI p w g all σ d Q (.bad c l):=hQ
       intro A s9 y9 k9 hA
       refine bY _ _ ?_
       conv=>whnf
       refine⟨?_,?_⟩
       ·conv=>whnf
        refine ak (aj (T:=bZ) rfl rfl (ah (y9.get (by omega) kC)) rfl) ?_
        rfl
       conv=>whnf
       refine ak (fV (T:=cO) [.i .i64 5,.s [],.b false,.p0,.p o g' 0,A,.sl0,.i .i64 t.l] hA rfl rfl (y9.get (by omega) jl) (Nat.le_of_ble_eq_true rfl) rfl) ?_
       have k10:=k9.st (y9.get (by omega) jl) (b_ 5 [] false .p0 (.p o g' 0) A .sl0 t.l)
       conv=>whnf
       refine ak (aj (T:=bZ) rfl rfl (ah (aN (y9.get (by omega) kC) (by omega) _)) rfl) ?_
       conv=>whnf
       exact Fin.ref rfl (hQ _ _ _ ((Gu.trans y9).bg (bG.bF _ _ _ _) (by omega)) k10)
     | ok th ts2=>
       have hQ:jI p w g all σ d Q (.ok (.st 5 [] false .nil z th .nil t.l) ts2):=hQ
       intro A s9 m9 y9 k9 zh hth hA
       have l9:s6.length≤s9.length:=by have:=y9.len;rw [List.length_set,List.length_set] at this;exact this
       refine bY _ _ ?_
       conv=>whnf
       refine⟨?_,?_⟩
       ·conv=>whnf
        refine ak (aj (T:=bZ) rfl rfl (ah (y9.get (by omega) kC)) rfl) ?_
        rfl
       conv=>whnf
       refine ak (fV (T:=cO) [.i .i64 5,.s [],.b false,.p0,.p o g' 0,A,.sl0,.i .i64 t.l] hA rfl rfl (y9.get (by omega) jl) (Nat.le_of_ble_eq_true rfl) rfl) ?_
       have k10:=k9.st (y9.get (by omega) jl) (b_ 5 [] false .p0 (.p o g' 0) A .sl0 t.l)
       conv=>whnf
       refine ak (aj (T:=bZ) rfl rfl (ah (aN (y9.get (by omega) kC) (by omega) _)) rfl) ?_
       conv=>whnf
       refine Fin.ref rfl (hQ _ _ _ _ ((Gu.trans y9).bg (bG.bF _ _ _ _) (by omega)) k10 zh ⟨σ2.length,0,.p0,.p o g' 0,A,.sl0,by omega,rfl,at_set (y9.get (by omega) jl) _,rfl,?_,?_,rfl⟩)
       ·exact bC.mono (fun i hi=>by omega) (fun i hi a ha=>aN (y9.get (by omega) (aN (aN ha (by omega) _) (by omega) _)) (by omega) _) EJ
       ·exact dn.mono (fun i hi=>by rw [List.length_set,List.length_set] at hi;omega) (fun i hi a ha=>aN ha (by rw [List.length_set,List.length_set] at hi;omega) _) hth
  ·have hW:∀s,isW s (t :: r)=(t.s == s):=fun s=>by show ((t.k == 4 || t.k == 3) && t.s == s)=_;rw [hk4];rfl
   rw [if_neg (by rw [hW,hs];decide),if_neg (by rw [hW,hs];decide),if_neg (by rw [hW,hs];decide),if_pos (by rw [hW,hs];rfl)] at hQ
   rw [show (t.s == [110,101,119])=false by rw [hs];rfl]
   conv=>whnf
   refine ak (aj (T:=dP) rfl rfl (ah (ct)) rfl) ?_
   conv=>whnf
   rw [show (t.s == [105,110])=false by rw [hs];rfl]
   conv=>whnf
   refine ak (aj (T:=aW) rfl rfl (ah (c1)) rfl) ?_
   conv=>whnf
   refine f_ h4 hm1 fun s5 y5 k5=>?_
   have c5:=y5.get (by omega) c1
   have yD:=y5.get (by omega) ct
   have rY:=y5.get (by omega) cx
   have nY:=y5.get (by omega) b4
   have pF:=xx.trans y5
   have l5:=y5.len
   conv=>whnf
   refine ak (aj (T:=dP) rfl rfl (ah (yD)) rfl) ?_
   conv=>whnf
   rw [show (t.s == [118,97,114])=false by rw [hs];rfl]
   conv=>whnf
   rw [show (t.s == [105,102])=false by rw [hs];rfl]
   conv=>whnf
   rw [show (t.s == [119,104,105,108,101])=false by rw [hs];rfl]
   conv=>whnf
   rw [show (t.s == [111,117,116])=true by rw [hs];rfl]
   conv=>whnf
   rw [←hr] at hQ
   refine OZ d 6 _ σ2.length σ3.length σ.length t.l [] false .p0 s5 (m+1) _ k5 hd he1 (by omega) (nY) (c5) (rY) ⟨by omega,by omega,by omega,by omega,by omega⟩ ?_
   generalize pEnded n d (all.drop (m+1))=rE at hQ
   cases rE with
   | out=>trivial
   | bad c l=>
     intro s9 y9 k9
     conv=>whnf
     exact Fin.ref rfl (hQ _ _ _ ((pF).bg y9 (by omega)) k9)
   | ok z Gv=>
     have hQ:jI p w g all σ d Q (.ok (.st 6 [] false .nil z .nil .nil t.l) Gv):=hQ
     intro R s9 m9 y9 k9 zh Gx Gy
     conv=>whnf
     have lX:=(pF).len
     refine Fin.ref rfl (hQ _ _ _ _ ((pF).bg y9 (by omega)) k9 zh ⟨σ2.length,0,.p0,R,.sl0,.sl0,by omega,rfl,Gx,rfl,?_,rfl,rfl⟩)
     exact bC.mono (fun i hi=>by first | omega | (rw [List.length_set] at hi;omega)) (fun i hi a ha=>ha) Gy
  ·have hW:∀s,isW s (t :: r)=(t.s == s):=fun s=>by show ((t.k == 4 || t.k == 3) && t.s == s)=_;rw [hk4];rfl
   rw [if_neg (by rw [hW,hs];decide),if_neg (by rw [hW,hs];decide),if_neg (by rw [hW,hs];decide),if_neg (by rw [hW,hs];decide),if_pos (by rw [hW,hs];rfl)] at hQ
   rw [show (t.s == [110,101,119])=false by rw [hs];rfl]
   conv=>whnf
   refine ak (aj (T:=dP) rfl rfl (ah (ct)) rfl) ?_
   conv=>whnf
   rw [show (t.s == [105,110])=false by rw [hs];rfl]
   conv=>whnf
   refine ak (aj (T:=aW) rfl rfl (ah (c1)) rfl) ?_
   conv=>whnf
   refine f_ h4 hm1 fun s5 y5 k5=>?_
   have c5:=y5.get (by omega) c1
   have yD:=y5.get (by omega) ct
   have rY:=y5.get (by omega) cx
   have nY:=y5.get (by omega) b4
   have pF:=xx.trans y5
   have l5:=y5.len
   conv=>whnf
   refine ak (aj (T:=dP) rfl rfl (ah (yD)) rfl) ?_
   conv=>whnf
   rw [show (t.s == [118,97,114])=false by rw [hs];rfl]
   conv=>whnf
   rw [show (t.s == [105,102])=false by rw [hs];rfl]
   conv=>whnf
   rw [show (t.s == [119,104,105,108,101])=false by rw [hs];rfl]
   conv=>whnf
   rw [show (t.s == [111,117,116])=false by rw [hs];rfl]
   conv=>whnf
   rw [show (t.s == [102,114,101,101])=true by rw [hs];rfl]
   conv=>whnf
   rw [←hr] at hQ
   refine OZ d 7 _ σ2.length σ3.length σ.length t.l [] false .p0 s5 (m+1) _ k5 hd he1 (by omega) (nY) (c5) (rY) ⟨by omega,by omega,by omega,by omega,by omega⟩ ?_
   generalize pEnded n d (all.drop (m+1))=rE at hQ
   cases rE with
   | out=>trivial
   | bad c l=>
     intro s9 y9 k9
     conv=>whnf
     exact Fin.ref rfl (hQ _ _ _ ((pF).bg y9 (by omega)) k9)
   | ok z Gv=>
     have hQ:jI p w g all σ d Q (.ok (.st 7 [] false .nil z .nil .nil t.l) Gv):=hQ
     intro R s9 m9 y9 k9 zh Gx Gy
     conv=>whnf
     have lX:=(pF).len
     refine Fin.ref rfl (hQ _ _ _ _ ((pF).bg y9 (by omega)) k9 zh ⟨σ2.length,0,.p0,R,.sl0,.sl0,by omega,rfl,Gx,rfl,?_,rfl,rfl⟩)
     exact bC.mono (fun i hi=>by first | omega | (rw [List.length_set] at hi;omega)) (fun i hi a ha=>ha) Gy
  ·have hW:∀s,isW s (t :: r)=(t.s == s):=fun s=>by show ((t.k == 4 || t.k == 3) && t.s == s)=_;rw [hk4];rfl
   rw [if_neg (by rw [hW,hs];decide),if_neg (by rw [hW,hs];decide),if_neg (by rw [hW,hs];decide),if_neg (by rw [hW,hs];decide),if_neg (by rw [hW,hs];decide),if_pos (by rw [hW,hs];rfl)] at hQ
   rw [show (t.s == [110,101,119])=false by rw [hs];rfl]
   conv=>whnf
   refine ak (aj (T:=dP) rfl rfl (ah (ct)) rfl) ?_
   conv=>whnf
   rw [show (t.s == [105,110])=false by rw [hs];rfl]
   conv=>whnf
   refine ak (aj (T:=aW) rfl rfl (ah (c1)) rfl) ?_
   conv=>whnf
   refine f_ h4 hm1 fun s5 y5 k5=>?_
   have c5:=y5.get (by omega) c1
   have yD:=y5.get (by omega) ct
   have rY:=y5.get (by omega) cx
   have nY:=y5.get (by omega) b4
   have pF:=xx.trans y5
   have l5:=y5.len
   conv=>whnf
   refine ak (aj (T:=dP) rfl rfl (ah (yD)) rfl) ?_
   conv=>whnf
   rw [show (t.s == [118,97,114])=false by rw [hs];rfl]
   conv=>whnf
   rw [show (t.s == [105,102])=false by rw [hs];rfl]
   conv=>whnf
   rw [show (t.s == [119,104,105,108,101])=false by rw [hs];rfl]
   conv=>whnf
   rw [show (t.s == [111,117,116])=false by rw [hs];rfl]
   conv=>whnf
   rw [show (t.s == [102,114,101,101])=false by rw [hs];rfl]
   conv=>whnf
   rw [show (t.s == [100,114,97,105,110])=true by rw [hs];rfl]
   conv=>whnf
   obtain⟨t6,r6,iI⟩:=he1.ne
   obtain⟨IG,zf⟩:=bJ iI
   rw [←hr,iI] at hQ
   refine ak (aj (T:=bZ) rfl rfl (ah (nY)) rfl) ?_
   conv=>whnf
   refine ak (aF (T:=dJ) ([.i .i64 8,.s [],.b false,.p0,.p0,.sl0,.sl0,.i .i64 t.l]) rfl (rY) rfl rfl (Nat.le_of_ble_eq_true rfl) rfl) ?_
   conv=>whnf
   have k6:=k5.st rY (b_ 8 [] false .p0 .p0 .sl0 .sl0 t.l)
   have oU:(s5.set σ2.length (b_ 8 [] false .p0 .p0 .sl0 .sl0 t.l))[σ2.length]? =_:=at_set rY _
   have rO:(s5.set σ2.length (b_ 8 [] false .p0 .p0 .sl0 .sl0 t.l))[σ3.length]? =_:=aN nY (by omega) _
   have xx6:aO p σ (s5.set σ2.length (b_ 8 [] false .p0 .p0 .sl0 .sl0 t.l)):=pF.bg (bG.bF _ _ _ _) (by omega)
   refine ak (aj (T:=aW) rfl rfl (ah (aN c5 (by omega) _)) rfl) ?_
   conv=>whnf
   refine ig [59] k6 IG (fun hi=>(aU he1 iI hi).1) (fun hi s7 y7 k7=>?_) (fun hi s7 y7 k7=>?_)
   ·rw [mustW,if_pos (show isW [59] (t6 :: r6)=true from hi)] at hQ
    conv=>whnf
    refine ak (aj (T:=bZ) rfl rfl (ah (y7.get (by omega) rO)) rfl) ?_
    conv=>whnf
    have lx6:=xx6.len
    exact Fin.ref rfl (hQ _ _ _ _ (xx6.trans y7) k7 zf ⟨σ2.length,0,.p0,.p0,.sl0,.sl0,by omega,rfl,y7.get (by omega) oU,rfl,rfl,rfl,rfl⟩)
   ·rw [mustW,if_neg (show ¬isW [59] (t6 :: r6)=true by rw [show isW [59] (t6 :: r6)=fB [59] t6 from rfl,hi];decide)] at hQ
    conv=>whnf
    refine ak (aj (T:=bZ) rfl rfl (ah (y7.get (by omega) rO)) rfl) ?_
    conv=>whnf
    exact Fin.ref rfl (hQ _ _ _ (xx6.trans y7) k7)
  ·have hW:∀s,isW s (t :: r)=(t.s == s):=fun s=>by show ((t.k == 4 || t.k == 3) && t.s == s)=_;rw [hk4];rfl
   rw [if_neg (by rw [hW,hs];decide),if_neg (by rw [hW,hs];decide),if_neg (by rw [hW,hs];decide),if_neg (by rw [hW,hs];decide),if_neg (by rw [hW,hs];decide),if_neg (by rw [hW,hs];decide),if_pos (by rw [hW,hs];rfl)] at hQ
   rw [show (t.s == [110,101,119])=false by rw [hs];rfl]
   conv=>whnf
   refine ak (aj (T:=dP) rfl rfl (ah (ct)) rfl) ?_
   conv=>whnf
   rw [show (t.s == [105,110])=false by rw [hs];rfl]
   conv=>whnf
   refine ak (aj (T:=aW) rfl rfl (ah (c1)) rfl) ?_
   conv=>whnf
   refine f_ h4 hm1 fun s5 y5 k5=>?_
   have c5:=y5.get (by omega) c1
   have yD:=y5.get (by omega) ct
   have rY:=y5.get (by omega) cx
   have nY:=y5.get (by omega) b4
   have pF:=xx.trans y5
   have l5:=y5.len
   conv=>whnf
   refine ak (aj (T:=dP) rfl rfl (ah (yD)) rfl) ?_
   conv=>whnf
   rw [show (t.s == [118,97,114])=false by rw [hs];rfl]
   conv=>whnf
   rw [show (t.s == [105,102])=false by rw [hs];rfl]
   conv=>whnf
   rw [show (t.s == [119,104,105,108,101])=false by rw [hs];rfl]
   conv=>whnf
   rw [show (t.s == [111,117,116])=false by rw [hs];rfl]
   conv=>whnf
   rw [show (t.s == [102,114,101,101])=false by rw [hs];rfl]
   conv=>whnf
   rw [show (t.s == [100,114,97,105,110])=false by rw [hs];rfl]
   conv=>whnf
   rw [show (t.s == [114,101,116,117,114,110])=true by rw [hs];rfl]
   conv=>whnf
   obtain⟨t6,r6,iI⟩:=he1.ne
   obtain⟨IG,zf⟩:=bJ iI
   rw [←hr,iI] at hQ
   refine ak (aj (T:=aW) rfl rfl (ah (c5)) rfl) ?_
   conv=>whnf
   refine jZ [59] k5 IG (fun hi=>(aU he1 iI hi).1) (fun hi s6 y6 k6=>?_) (fun hi=>?_)
   ·rw [if_pos (show isW [59] (t6 :: r6)=true from hi)] at hQ
    have hQ:jI p w g all σ d Q (.ok (.st 9 [] false .nil .nil .nil .nil t.l) r6):=hQ
    conv=>whnf
    refine ak (aj (T:=bZ) rfl rfl (ah (y6.get (by omega) nY)) rfl) ?_
    conv=>whnf
    refine ak (aF (T:=dJ) ([.i .i64 9,.s [],.b false,.p0,.p0,.sl0,.sl0,.i .i64 t.l]) rfl (y6.get (by omega) rY) rfl rfl (Nat.le_of_ble_eq_true rfl) rfl) ?_
    conv=>whnf
    have oU:=y6.get (by omega) rY
    have k7:=k6.st oU (b_ 9 [] false .p0 .p0 .sl0 .sl0 t.l)
    refine ak (aj (T:=bZ) rfl rfl (ah (aN (y6.get (by omega) nY) (by omega) _)) rfl) ?_
    conv=>whnf
    have Tq:aO p σ (s6.set σ2.length (b_ 9 [] false .p0 .p0 .sl0 .sl0 t.l)):=(pF.trans y6).bg (bG.bF _ _ _ _) (by omega)
    exact Fin.ref rfl (hQ _ _ _ _ Tq k7 zf ⟨σ2.length,0,.p0,.p0,.sl0,.sl0,by omega,rfl,at_set oU _,rfl,rfl,rfl,rfl⟩)
   ·rw [if_neg (by rw [show isW [59] (t6 :: r6)=fB [59] t6 from rfl,hi];decide),←iI] at hQ
    conv=>whnf
    refine OZ d 9 _ σ2.length σ3.length σ.length t.l [] false .p0 s5 (m+1) _ k5 hd he1 (by omega) (nY) (c5) (rY) ⟨by omega,by omega,by omega,by omega,by omega⟩ ?_
    generalize pEnded n d (all.drop (m+1))=rE at hQ
    cases rE with
    | out=>trivial
    | bad c l=>
      intro s9 y9 k9
      conv=>whnf
      exact Fin.ref rfl (hQ _ _ _ ((pF).bg y9 (by omega)) k9)
    | ok z Gv=>
      have hQ:jI p w g all σ d Q (.ok (.st 9 [] false .nil z .nil .nil t.l) Gv):=hQ
      intro R s9 m9 y9 k9 zh Gx Gy
      conv=>whnf
      have lX:=(pF).len
      refine Fin.ref rfl (hQ _ _ _ _ ((pF).bg y9 (by omega)) k9 zh ⟨σ2.length,0,.p0,R,.sl0,.sl0,by omega,rfl,Gx,rfl,?_,rfl,rfl⟩)
      exact bC.mono (fun i hi=>by first | omega | (rw [List.length_set] at hi;omega)) (fun i hi a ha=>ha) Gy
 case' inl=>
  have hW:∀s,s∈keys→isW s (t :: r)=false:=fun s hs=>by show ((t.k == 4 || t.k == 3) && t.s == s)=_;rw [beq_eq_false_iff_ne.2 hk4,Bool.false_or];exact nokey (hko t (List.mem_of_getElem? ht)).2 s hs
  rw [if_neg (by rw [hW _ (by decide)];decide),if_neg (by rw [hW _ (by decide)];decide),if_neg (by rw [hW _ (by decide)];decide),if_neg (by rw [hW _ (by decide)];decide),if_neg (by rw [hW _ (by decide)];decide),if_neg (by rw [hW _ (by decide)];decide),if_neg (by rw [hW _ (by decide)];decide)] at hQ
  rw [decide_eq_false (by omega)]
  conv=>whnf
 case' inr.inl=>
  rw [decide_eq_true (by omega)]
  conv=>whnf
  refine ak (aj (T:=aW) rfl rfl (ah (c1)) rfl) ?_
  conv=>whnf
  refine ay.to (jk h4) ?_
  conv=>whnf
  refine ak (aj (T:=dP) rfl rfl (ah (ct)) rfl) ?_
  conv=>whnf
  have hW:∀s,isW s (t :: r)=(t.s == s):=fun s=>by show ((t.k == 4 || t.k == 3) && t.s == s)=_;rw [hk4];rfl
  rw [if_neg (by rw [hW,hs];decide),if_neg (by rw [hW,hs];decide),if_neg (by rw [hW,hs];decide),if_neg (by rw [hW,hs];decide),if_neg (by rw [hW,hs];decide),if_neg (by rw [hW,hs];decide),if_neg (by rw [hW,hs];decide)] at hQ
  rw [show (t.s == [110,101,119])=true by rw [hs];rfl]
  conv=>whnf
 case' inr.inr.inl=>
  rw [decide_eq_true (by omega)]
  conv=>whnf
  refine ak (aj (T:=aW) rfl rfl (ah (c1)) rfl) ?_
  conv=>whnf
  refine ay.to (jk h4) ?_
  conv=>whnf
  refine ak (aj (T:=dP) rfl rfl (ah (ct)) rfl) ?_
  conv=>whnf
  have hW:∀s,isW s (t :: r)=(t.s == s):=fun s=>by show ((t.k == 4 || t.k == 3) && t.s == s)=_;rw [hk4];rfl
  rw [if_neg (by rw [hW,hs];decide),if_neg (by rw [hW,hs];decide),if_neg (by rw [hW,hs];decide),if_neg (by rw [hW,hs];decide),if_neg (by rw [hW,hs];decide),if_neg (by rw [hW,hs];decide),if_neg (by rw [hW,hs];decide)] at hQ
  rw [show (t.s == [110,101,119])=false by rw [hs];rfl]
  conv=>whnf
  refine ak (aj (T:=dP) rfl rfl (ah (ct)) rfl) ?_
  conv=>whnf
  rw [show (t.s == [105,110])=true by rw [hs];rfl]
  conv=>whnf
 all_goals
  have hQ:jI p w g all σ d Q ((pPost n d (all.drop m)).bind fun x ts=>match x with
   | .nil=>.out
   | .ex k _ nm _ _ _ _ _=>
     if isW [61] ts=true then
      if k=2 then(pEnded n d ts.tail).bind fun y ts=>.ok (.st 2 nm false .nil y .nil .nil t.l) ts
      else if k=5∨k=6 then(pEnded n d ts.tail).bind fun y ts=>.ok (.st 3 [] false x y .nil .nil t.l) ts
      else .bad 4 (lineW ts)
     else if k=4 then(mustW [59] ts).bind fun _ ts=>.ok (.st 10 [] false .nil x .nil .nil t.l) ts
     else .bad 4 (lineW ts)):=by rw [hts];exact hQ
  have hg:=(allE n).post d (all.drop m) he (by omega)
  refine ak (aj (T:=aW) rfl rfl (ah (c1)) rfl) ?_
  conv=>whnf
  refine Tm.post d bW m _ h4 hd he (by omega) ?_
  generalize pPost n d (all.drop m)=r1 at hg hQ
  cases r1 with
  | out=>exact hg.elim
  | bad c l=>
    have hQ:jI p w g all σ d Q (.bad c l):=hQ
    intro o g' s6 y6 k6
    have c6:=y6.get (by omega) c1
    conv=>whnf
    refine ak (aj (T:=aW) rfl rfl (ah (c6)) rfl) ?_
    conv=>whnf
    have b7:(au 9 [.s [61]] s6)[s6.length]? =some ⟨0,false,.cells 9 [.s [61]]⟩:=aH _ _ _
    have x7:Ext s6 (au 9 [.s [61]] s6):=(Ext.refl s6).new _ _
    have l7:(au 9 [.s [61]] s6).length=s6.length+1:=aI _ _ _
    generalize au 9 [.s [61]] s6=qx at b7 x7 l7 ⊢
    have k7:=k6.ext x7
    have c7:=x7.get c6
    refine ay.to (Ey k7 s6.length 0 1) ?_
    conv=>whnf
    refine ak (aj (T:=aW) rfl rfl (ah (c7)) rfl) ?_
    conv=>whnf
    refine ay.to (nU k7) ?_
    conv=>whnf
    refine ak (aj (T:=bZ) rfl rfl (ah (x7.get (y6.get (by omega) b4))) rfl) ?_
    conv=>whnf
    exact Fin.ref rfl (hQ _ _ _ ((xx.trans y6).trans (aO.of x7)) k7)
  | ok z ts1=>
    intro o g' s6 m6 y6 k6 hm6 EJ
    have c6:=y6.get (by omega) c1
    have rO:=y6.get (by omega) b4
    have oU:=y6.get (by omega) cx
    have he2:EndOk (all.drop m6):=by rw [hm6];exact hg.2.1
    obtain⟨t6,r6,iI⟩:=he2.ne
    obtain⟨IG,zf⟩:=bJ iI
    have hl6:(all.drop m6).length=r6.length+1:=by rw [iI];rfl
    have lg:=hg.2.2
    rw [←hm6] at lg
    cases z with
    | nil=>exact hg.1.elim
    | ex kz nz zi tz lz rz az O1=>
      have hQ:jI p w g all σ d Q (
       if isW [61] ts1=true then
            if kz=2 then(pEnded n d ts1.tail).bind fun y ts=>.ok (.st 2 zi false .nil y .nil .nil t.l) ts
            else if kz=5∨kz=6 then(pEnded n d ts1.tail).bind fun y ts=>.ok (.st 3 [] false (.ex kz nz zi tz lz rz az O1) y .nil .nil t.l) ts
            else .bad 4 (lineW ts1)
       else if kz=4 then(mustW [59] ts1).bind fun _ ts=>.ok (.st 10 [] false .nil (.ex kz nz zi tz lz rz az O1) .nil .nil t.l) ts
       else .bad 4 (lineW ts1)):=hQ
      have U0:=EJ
      obtain⟨oz,gz,Lz,Rz,Az,hoz,hvz,hzo,_,_,_⟩:=U0
      cases hvz
      rw [←hm6,iI] at hQ
      conv=>whnf
      refine ak (aj (T:=aW) rfl rfl (ah (c6)) rfl) ?_
      conv=>whnf
      have b7:(au 9 [.s [61]] s6)[s6.length]? =some ⟨0,false,.cells 9 [.s [61]]⟩:=aH _ _ _
      have x7:Ext s6 (au 9 [.s [61]] s6):=(Ext.refl s6).new _ _
      have l7:(au 9 [.s [61]] s6).length=s6.length+1:=aI _ _ _
      generalize au 9 [.s [61]] s6=qx at b7 x7 l7 ⊢
      have k7:=k6.ext x7
      have c7:=x7.get c6
      have pI:=x7.get rO
      have pG:=x7.get oU
      have U8:=x7.get hzo
      have l6:=y6.len
      have U9:bC (fun i=>bW.length≤i) qx (.p o g' 0) (.ex kz nz zi tz lz rz az O1):=bC.mono (fun i hi=>hi) (fun i hi a ha=>x7.get ha) EJ
      have Tq:aO p σ qx:=(xx.trans y6).trans (aO.of x7)
      refine ay.to (vC [[61]] k7 IG s6.length 0 (ah b7) (Nat.le_of_ble_eq_true rfl)) ?_
      conv=>whnf
      rw [gZ]
      cases hi:fB [61] t6 with
      | false=>
        rw [if_neg (by rw [show isW [61] (t6 :: r6)=fB [61] t6 from rfl,hi];decide)] at hQ
        conv=>whnf
        refine ak (aj (T:=aW) rfl rfl (ah (c7)) rfl) ?_
        conv=>whnf
        refine ay.to (jk k7) ?_
        conv=>whnf
        refine ak (aj (T:=dJ) rfl rfl (ah (U8)) rfl) ?_
        conv=>whnf
        by_cases h4k:kz=4
        ·rw [if_pos h4k] at hQ
         rw [decide_eq_true (by omega)]
         conv=>whnf
         refine ak (aj (T:=bZ) rfl rfl (ah (pI)) rfl) ?_
         conv=>whnf
         refine ak (aj (T:=bZ) rfl rfl (ah (pI)) rfl) ?_
         conv=>whnf
         refine ak (aF (T:=dJ) ([.i .i64 10,.s [],.b false,.p0,.p0,.sl0,.sl0,.i .i64 t.l]) rfl (pG) rfl rfl (Nat.le_of_ble_eq_true rfl) rfl) ?_
         conv=>whnf
         have k8:=k7.st pG (b_ 10 [] false .p0 .p0 .sl0 .sl0 t.l)
         have jl:(qx.set σ2.length (b_ 10 [] false .p0 .p0 .sl0 .sl0 t.l))[σ2.length]? =_:=at_set pG _
         have kC:(qx.set σ2.length (b_ 10 [] false .p0 .p0 .sl0 .sl0 t.l))[σ3.length]? =_:=aN pI (by omega) _
         have c8:(qx.set σ2.length (b_ 10 [] false .p0 .p0 .sl0 .sl0 t.l))[σ.length]? =_:=aN c7 (by omega) _
         refine⟨?_,?_⟩
         ·conv=>whnf
          refine ak (aj (T:=bZ) rfl rfl (ah (kC)) rfl) ?_
          rfl
         conv=>whnf
         refine ak (aF (T:=aV) ([.i .i64 10,.s [],.b false,.p0,.p o g' 0,.sl0,.sl0,.i .i64 t.l]) rfl (jl) rfl rfl (Nat.le_of_ble_eq_true rfl) rfl) ?_
         conv=>whnf
         have k9:=k8.st jl (b_ 10 [] false .p0 (.p o g' 0) .sl0 .sl0 t.l)
         have yE:((qx.set σ2.length (b_ 10 [] false .p0 .p0 .sl0 .sl0 t.l)).set σ2.length (b_ 10 [] false .p0 (.p o g' 0) .sl0 .sl0 t.l))[σ2.length]? =_:=at_set jl _
         have vT:((qx.set σ2.length (b_ 10 [] false .p0 .p0 .sl0 .sl0 t.l)).set σ2.length (b_ 10 [] false .p0 (.p o g' 0) .sl0 .sl0 t.l))[σ3.length]? =_:=aN kC (by omega) _
         have xx9:aO p σ ((qx.set σ2.length (b_ 10 [] false .p0 .p0 .sl0 .sl0 t.l)).set σ2.length (b_ 10 [] false .p0 (.p o g' 0) .sl0 .sl0 t.l)):=(Tq.bg (bG.bF _ _ _ _) (by omega)).bg (bG.bF _ _ _ _) (by omega)
         have ll9:((qx.set σ2.length (b_ 10 [] false .p0 .p0 .sl0 .sl0 t.l)).set σ2.length (b_ 10 [] false .p0 (.p o g' 0) .sl0 .sl0 t.l)).length=qx.length:=by rw [List.length_set,List.length_set]
         refine ak (aj (T:=aW) rfl rfl (ah (aN c8 (by omega) _)) rfl) ?_
         conv=>whnf
         have he7:=iI▸he2
         refine ig [59] k9 IG (fun hi=>(aU he2 iI hi).1) (fun hi s8 y8 k8'=>?_) (fun hi s8 y8 k8'=>?_)
         ·rw [mustW,if_pos (show isW [59] (t6 :: r6)=true from hi)] at hQ
          have hQ:jI p w g all σ d Q (.ok (.st 10 [] false .nil (.ex kz nz zi tz lz rz az O1) .nil .nil t.l) r6):=hQ
          conv=>whnf
          refine ak (aj (T:=bZ) rfl rfl (ah (y8.get (by omega) vT)) rfl) ?_
          conv=>whnf
          refine Fin.ref rfl (hQ _ _ _ _ (xx9.trans y8) k8' zf ⟨σ2.length,0,.p0,.p o g' 0,.sl0,.sl0,by omega,rfl,y8.get (by omega) yE,rfl,?_,rfl,rfl⟩)
          exact bC.mono (fun i hi=>by omega) (fun i hi a ha=>y8.get (by omega) (aN (aN ha (by omega) _) (by omega) _)) U9
         ·rw [mustW,if_neg (show ¬isW [59] (t6 :: r6)=true by rw [show isW [59] (t6 :: r6)=fB [59] t6 from rfl,hi];decide)] at hQ
          have hQ:jI p w g all σ d Q (.bad 4 t6.l):=hQ
          conv=>whnf
          refine ak (aj (T:=bZ) rfl rfl (ah (y8.get (by omega) vT)) rfl) ?_
          conv=>whnf
          exact Fin.ref rfl (hQ _ _ _ (xx9.trans y8) k8')
        ·rw [if_neg h4k] at hQ
         rw [decide_eq_false (by omega)]
         conv=>whnf
         refine ak (aj (T:=aW) rfl rfl (ah (c7)) rfl) ?_
         conv=>whnf
         refine nV 4 k7 IG fun s9 y9 k9=>?_
         have hQ:jI p w g all σ d Q (.bad 4 t6.l):=hQ
         conv=>whnf
         refine ak (aj (T:=bZ) rfl rfl (ah (y9.get (by omega) pI)) rfl) ?_
         conv=>whnf
         exact Fin.ref rfl (hQ _ _ _ (Tq.trans y9) k9)
      | true=>
        rw [if_pos (show isW [61] (t6 :: r6)=true from hi)] at hQ
        conv=>whnf
        refine ak (aj (T:=aW) rfl rfl (ah (c7)) rfl) ?_
        conv=>whnf
        refine ay.to (jk k7) ?_
        conv=>whnf
        refine ak (aj (T:=dJ) rfl rfl (ah (U8)) rfl) ?_
        conv=>whnf
        by_cases h2k:kz=2
        ·rw [if_pos h2k] at hQ
         have hQ:jI p w g all σ d Q ((pEnded n d r6).bind fun y ts=>.ok (.st 2 zi false .nil y .nil .nil t.l) ts):=hQ
         obtain⟨Tn,Kt,Og⟩:=aU he2 iI hi
         have hlA:(all.drop (m6+1)).length=r6.length:=by rw [zf]
         rw [←zf] at hQ
         rw [decide_eq_true (by omega)]
         conv=>whnf
         refine ak (aj (T:=aW) rfl rfl (ah (c7)) rfl) ?_
         conv=>whnf
         refine f_ k7 Tn fun s8 y8 k8=>?_
         have kC:=y8.get (by omega) pI
         have jl:=y8.get (by omega) pG
         have c8:=y8.get (by omega) c7
         have zo8:=y8.get (by omega) U8
         have Gu:=Tq.trans y8
         have l8:=y8.len
         conv=>whnf
         refine ak (aj (T:=bZ) rfl rfl (ah (kC)) rfl) ?_
         conv=>whnf
         refine ak (aj (T:=dP) rfl rfl (ah (zo8)) rfl) ?_
         conv=>whnf
         refine ak (aF (T:=dP) ([.i .i64 0,.s zi,.b false,.p0,.p0,.sl0,.sl0,.i .i64 t.l]) rfl (jl) rfl rfl (Nat.le_of_ble_eq_true rfl) rfl) ?_
         conv=>whnf
         have kB:=k8.st jl (b_ 0 zi false .p0 .p0 .sl0 .sl0 t.l)
         have Oe:(s8.set σ2.length (b_ 0 zi false .p0 .p0 .sl0 .sl0 t.l))[σ2.length]? =_:=at_set jl _
         have JV:(s8.set σ2.length (b_ 0 zi false .p0 .p0 .sl0 .sl0 t.l))[σ3.length]? =_:=aN kC (by omega) _
         have cB:(s8.set σ2.length (b_ 0 zi false .p0 .p0 .sl0 .sl0 t.l))[σ.length]? =_:=aN c8 (by omega) _
         have llB:(s8.set σ2.length (b_ 0 zi false .p0 .p0 .sl0 .sl0 t.l)).length=s8.length:=List.length_set
         have vF:aO p σ (s8.set σ2.length (b_ 0 zi false .p0 .p0 .sl0 .sl0 t.l)):=Gu.bg (bG.bF _ _ _ _) (by omega)
         refine OZ d 2 _ σ2.length σ3.length σ.length t.l zi false .p0 _ (m6+1) _ kB hd Kt (by omega) (JV) (cB) (Oe) ⟨by omega,by omega,by omega,by omega,by omega⟩ ?_
         generalize pEnded n d (all.drop (m6+1))=rE at hQ
         cases rE with
         | out=>trivial
         | bad c l=>
           intro s9 y9 k9
           conv=>whnf
           exact Fin.ref rfl (hQ _ _ _ ((vF).bg y9 (by omega)) k9)
         | ok z Gv=>
           have hQ:jI p w g all σ d Q (.ok (.st 2 zi false .nil z .nil .nil t.l) Gv):=hQ
           intro R s9 m9 y9 k9 zh Gx Gy
           conv=>whnf
           have lX:=(vF).len
           refine Fin.ref rfl (hQ _ _ _ _ ((vF).bg y9 (by omega)) k9 zh ⟨σ2.length,0,.p0,R,.sl0,.sl0,by omega,rfl,Gx,rfl,?_,rfl,rfl⟩)
           exact bC.mono (fun i hi=>by first | omega | (rw [List.length_set] at hi;omega)) (fun i hi a ha=>ha) Gy
        ·rw [if_neg h2k] at hQ
         rw [decide_eq_false (by omega)]
         conv=>whnf
         by_cases h5k:kz=5
         ·subst h5k
          rw [if_pos (.inl rfl)] at hQ
          refine ak (aj (T:=dJ) rfl rfl (ah (U8)) rfl) ?_
          conv=>whnf
          have hQ:jI p w g all σ d Q ((pEnded n d r6).bind fun y ts=>.ok (.st 3 [] false (.ex 5 nz zi tz lz rz az O1) y .nil .nil t.l) ts):=hQ
          obtain⟨Tn,Kt,Og⟩:=aU he2 iI hi
          have hlA:(all.drop (m6+1)).length=r6.length:=by rw [zf]
          rw [←zf] at hQ
          refine ak (aj (T:=aW) rfl rfl (ah (c7)) rfl) ?_
          conv=>whnf
          refine f_ k7 Tn fun s8 y8 k8=>?_
          have kC:=y8.get (by omega) pI
          have jl:=y8.get (by omega) pG
          have c8:=y8.get (by omega) c7
          have Gu:=Tq.trans y8
          have l8:=y8.len
          conv=>whnf
          refine ak (aj (T:=bZ) rfl rfl (ah (kC)) rfl) ?_
          conv=>whnf
          refine ak (aF (T:=aV) ([.i .i64 0,.s [],.b false,.p o g' 0,.p0,.sl0,.sl0,.i .i64 t.l]) rfl (jl) rfl rfl (Nat.le_of_ble_eq_true rfl) rfl) ?_
          conv=>whnf
          have kB:=k8.st jl (b_ 0 [] false (.p o g' 0) .p0 .sl0 .sl0 t.l)
          have Oe:(s8.set σ2.length (b_ 0 [] false (.p o g' 0) .p0 .sl0 .sl0 t.l))[σ2.length]? =_:=at_set jl _
          have JV:(s8.set σ2.length (b_ 0 [] false (.p o g' 0) .p0 .sl0 .sl0 t.l))[σ3.length]? =_:=aN kC (by omega) _
          have cB:(s8.set σ2.length (b_ 0 [] false (.p o g' 0) .p0 .sl0 .sl0 t.l))[σ.length]? =_:=aN c8 (by omega) _
          have llB:(s8.set σ2.length (b_ 0 [] false (.p o g' 0) .p0 .sl0 .sl0 t.l)).length=s8.length:=List.length_set
          have vF:aO p σ (s8.set σ2.length (b_ 0 [] false (.p o g' 0) .p0 .sl0 .sl0 t.l)):=Gu.bg (bG.bF _ _ _ _) (by omega)
          have U_:bC (fun i=>bW.length≤i) (s8.set σ2.length (b_ 0 [] false (.p o g' 0) .p0 .sl0 .sl0 t.l)) (.p o g' 0) (.ex 5 nz zi tz lz rz az O1):=bC.mono (fun i hi=>hi) (fun i hi a ha=>aN (y8.get (by omega) ha) (by omega) _) U9
          refine OZ d 3 _ σ2.length σ3.length σ.length t.l [] false (.p o g' 0) _ (m6+1) _ kB hd Kt (by omega) (JV) (cB) (Oe) ⟨by omega,by omega,by omega,by omega,by omega⟩ ?_
          generalize pEnded n d (all.drop (m6+1))=rE at hQ
          cases rE with
          | out=>trivial
          | bad c l=>
            intro s9 y9 k9
            conv=>whnf
            exact Fin.ref rfl (hQ _ _ _ ((vF).bg y9 (by omega)) k9)
          | ok z Gv=>
            have hQ:jI p w g all σ d Q (.ok (.st 3 [] false (.ex 5 nz zi tz lz rz az O1) z .nil .nil t.l) Gv):=hQ
            intro R s9 m9 y9 k9 zh Gx Gy
            conv=>whnf
            have lX:=(vF).len
            refine Fin.ref rfl (hQ _ _ _ _ ((vF).bg y9 (by omega)) k9 zh ⟨σ2.length,0,(.p o g' 0),R,.sl0,.sl0,by omega,rfl,Gx,?_,?_,rfl,rfl⟩)
            ·exact bC.mono (fun i hi=>by omega) (fun i hi a ha=>y9.get (by omega) (by omega) ha) U_
            ·exact bC.mono (fun i hi=>by first | omega | (rw [List.length_set] at hi;omega)) (fun i hi a ha=>ha) Gy
         ·refine ak (aj (T:=dJ) rfl rfl (ah (U8)) rfl) ?_
          conv=>whnf
          rw [decide_eq_false (by omega)]
          conv=>whnf
          by_cases h6k:kz=6
          ·subst h6k
           rw [if_pos (.inr rfl)] at hQ
           refine ak (aj (T:=dJ) rfl rfl (ah (U8)) rfl) ?_
           conv=>whnf
           have hQ:jI p w g all σ d Q ((pEnded n d r6).bind fun y ts=>.ok (.st 3 [] false (.ex 6 nz zi tz lz rz az O1) y .nil .nil t.l) ts):=hQ
           obtain⟨Tn,Kt,Og⟩:=aU he2 iI hi
           have hlA:(all.drop (m6+1)).length=r6.length:=by rw [zf]
           rw [←zf] at hQ
           refine ak (aj (T:=aW) rfl rfl (ah (c7)) rfl) ?_
           conv=>whnf
           refine f_ k7 Tn fun s8 y8 k8=>?_
           have kC:=y8.get (by omega) pI
           have jl:=y8.get (by omega) pG
           have c8:=y8.get (by omega) c7
           have Gu:=Tq.trans y8
           have l8:=y8.len
           conv=>whnf
           refine ak (aj (T:=bZ) rfl rfl (ah (kC)) rfl) ?_
           conv=>whnf
           refine ak (aF (T:=aV) ([.i .i64 0,.s [],.b false,.p o g' 0,.p0,.sl0,.sl0,.i .i64 t.l]) rfl (jl) rfl rfl (Nat.le_of_ble_eq_true rfl) rfl) ?_
           conv=>whnf
           have kB:=k8.st jl (b_ 0 [] false (.p o g' 0) .p0 .sl0 .sl0 t.l)
           have Oe:(s8.set σ2.length (b_ 0 [] false (.p o g' 0) .p0 .sl0 .sl0 t.l))[σ2.length]? =_:=at_set jl _
           have JV:(s8.set σ2.length (b_ 0 [] false (.p o g' 0) .p0 .sl0 .sl0 t.l))[σ3.length]? =_:=aN kC (by omega) _
           have cB:(s8.set σ2.length (b_ 0 [] false (.p o g' 0) .p0 .sl0 .sl0 t.l))[σ.length]? =_:=aN c8 (by omega) _
           have llB:(s8.set σ2.length (b_ 0 [] false (.p o g' 0) .p0 .sl0 .sl0 t.l)).length=s8.length:=List.length_set
           have vF:aO p σ (s8.set σ2.length (b_ 0 [] false (.p o g' 0) .p0 .sl0 .sl0 t.l)):=Gu.bg (bG.bF _ _ _ _) (by omega)
           have U_:bC (fun i=>bW.length≤i) (s8.set σ2.length (b_ 0 [] false (.p o g' 0) .p0 .sl0 .sl0 t.l)) (.p o g' 0) (.ex 6 nz zi tz lz rz az O1):=bC.mono (fun i hi=>hi) (fun i hi a ha=>aN (y8.get (by omega) ha) (by omega) _) U9
           refine OZ d 3 _ σ2.length σ3.length σ.length t.l [] false (.p o g' 0) _ (m6+1) _ kB hd Kt (by omega) (JV) (cB) (Oe) ⟨by omega,by omega,by omega,by omega,by omega⟩ ?_
           generalize pEnded n d (all.drop (m6+1))=rE at hQ
           cases rE with
           | out=>trivial
           | bad c l=>
             intro s9 y9 k9
             conv=>whnf
             exact Fin.ref rfl (hQ _ _ _ ((vF).bg y9 (by omega)) k9)
           | ok z Gv=>
             have hQ:jI p w g all σ d Q (.ok (.st 3 [] false (.ex 6 nz zi tz lz rz az O1) z .nil .nil t.l) Gv):=hQ
             intro R s9 m9 y9 k9 zh Gx Gy
             conv=>whnf
             have lX:=(vF).len
             refine Fin.ref rfl (hQ _ _ _ _ ((vF).bg y9 (by omega)) k9 zh ⟨σ2.length,0,(.p o g' 0),R,.sl0,.sl0,by omega,rfl,Gx,?_,?_,rfl,rfl⟩)
             ·exact bC.mono (fun i hi=>by omega) (fun i hi a ha=>y9.get (by omega) (by omega) ha) U_
             ·exact bC.mono (fun i hi=>by first | omega | (rw [List.length_set] at hi;omega)) (fun i hi a ha=>ha) Gy
          ·rw [if_neg (by omega)] at hQ
           refine ak (aj (T:=dJ) rfl rfl (ah (U8)) rfl) ?_
           conv=>whnf
           rw [decide_eq_false (by omega)]
           conv=>whnf
           refine ak (aj (T:=aW) rfl rfl (ah (c7)) rfl) ?_
           conv=>whnf
           refine nV 4 k7 IG fun s9 y9 k9=>?_
           have hQ:jI p w g all σ d Q (.bad 4 t6.l):=hQ
           conv=>whnf
           refine ak (aj (T:=bZ) rfl rfl (ah (y9.get (by omega) pI)) rfl) ?_
           conv=>whnf
           exact Fin.ref rfl (hQ _ _ _ (Tq.trans y9) k9)
end
end Go.Abs.YtlkfbfhkcaldlaaGreatDoor
namespace Go.Abs.YtlkfbfhkcaldlaaGreatDoor
open Go.Proofs
set_option maxRecDepth 4000
section
variable {p w g:Nat} {all:List Tok} {n:Nat}
theorem Va (hno:yw all)(hnn:yB all)(hko:EN all):∀n,WQ p w g all n∧oJ p w g all n∧EO p w g all n
 | 0=>⟨⟨fun _ _ _ _ _ _ _ h=>absurd h (by omega),fun _ _ _ _ _ _ _ _ h=>absurd h (by omega),fun _ _ _ _ _ _ _ h=>absurd h (by omega)⟩,by intro d B bp bl _ _ _ acc A σ m Q _ _ _ _ _ _ h;omega,by intro d kd k0 xo xv bp ln nm pt L σ m Q _ _ _ h;omega⟩
 | n+1=>by
   obtain⟨ih,Tj,OZ⟩:=Va hno hnn hko n
   have Tm:=(allP (p:=p) (w:=w) (g:=g) hno hnn n).1
   exact⟨⟨fun d σ m Q h hd he hn hQ=>Ro Tj d σ m Q h hd he hn hQ,fun d l σ m Q h hd he hn hQ=>Oa Tm ih d l σ m Q h hd he hn hQ,fun d σ m Q h hd he hn hQ=>U6 hko Tm ih OZ d σ m Q h hd he hn hQ⟩,Rn ih Tj,fun d kd k0 xo xv bp ln nm pt L σ m Q h hd he hn h1 h2 h3 h4 hQ=>Rq Tm d kd k0 xo xv bp ln nm pt L σ m Q h hd he hn h1 h2 h3 h4 hQ⟩
def kJ (l:List (List UInt8×Bool)):List AV:=l.flatMap fun q=>[.s q.1,.b q.2]
theorem lJ:∀l:List (List UInt8×Bool),(kJ l).length=l.length*2
 | []=>rfl
 | t :: l=>by have:=lJ l;simp only [kJ,List.flatMap_cons,List.length_append,List.length_cons,List.length_nil] at this ⊢;rw [this];omega
theorem EP:∀l:List (List UInt8×Bool),(kJ l).all AV.one=true
 | []=>rfl
 | t :: l=>by have:=EP l;simp only [kJ,List.flatMap_cons,List.all_append] at this ⊢;rw [this];rfl
theorem JW (l:List (List UInt8×Bool))(q:List UInt8×Bool):kJ (l ++ [q])=kJ l ++ [.s q.1,.b q.2]:=by simp [kJ,List.flatMap_append]
theorem ER (l:List (List UInt8×Bool)):((kJ l).drop 0).take (l.length*2)=kJ l:=by rw [List.drop_zero,List.take_of_length_le (by rw [lJ];omega)]
def iK (B:Nat)(σ:St)(v:AV)(l:List (List UInt8×Bool)):Prop:=(l=[]∧v= .sl0)∨∃o g,B≤o∧v= .sl o g 0 l.length 2∧σ[o]? =some ⟨g,false,.cells 71 (kJ l)⟩
theorem iK.keep {B B':Nat} {σ σ':St} {v:AV} {l:List (List UInt8×Bool)} (h:iK B σ v l)(hb:B'≤B)(k:∀(i:Nat) (a:AO),B≤i→σ[i]? =some a→σ'[i]? =some a):iK B' σ' v l:=by
 rcases h with h | ⟨o,g,h1,h2,h3⟩
 ·exact .inl h
 ·exact .inr ⟨o,g,by omega,h2,k o _ h1 h3⟩
def slP (v:AV):Prop:=v= .sl0∨∃o g n,v= .sl o g 0 n 2
theorem iK.sl {B:Nat} {σ:St} {v:AV} {l:List (List UInt8×Bool)} (h:iK B σ v l):slP v:=by
 rcases h with ⟨_,rfl⟩ | ⟨o,g,_,rfl,_⟩
 ·exact .inl rfl
 ·exact .inr ⟨_,_,_,rfl⟩
theorem vU {B:Nat} {σ:St} {v:AV} {acc:List (List UInt8×Bool)} (h:iK B σ v acc)(x:List UInt8×Bool)(hl:acc.length≤100000) {C:Nat} (hC:σ[C]? =some ⟨0,false,.cells 71 [.s x.1,.b x.2]⟩)(hB:B≤σ.length) {Q:AV→St→Prop}
 (q:∀o3 g3 k3 σ',iK B σ' (.sl o3 g3 0 k3 2) (acc ++ [x])→(∀i,i<B→σ'[i]? =σ[i]?)→σ.length≤σ'.length→(∀(i:Nat) (a:AO),σ[i]? =some a→(∀(g:Nat) (ro:Bool) (cs:List AV),a≠⟨g,ro,.cells 71 cs⟩)→σ'[i]? =some a)→Q (.sl o3 g3 0 k3 2) σ') :
 xM D7.get false 66 v (.sl C 0 0 1 2) σ Q:=by
 constructor
 refine ak (v:=lG) rfl ?_
 refine ak (v:=dV) rfl ?_
 refine ak (iC hC (Nat.le_of_ble_eq_true rfl)) ?_
 rcases h with ⟨rfl,rfl⟩ | ⟨o,g,h1,rfl,h3⟩
 ·refine⟨Nat.le_of_ble_eq_true rfl,?_⟩
  refine q _ _ _ _ (.inr ⟨σ.length,0,hB,rfl,?_⟩) (fun i hi=>dB (by omega)) (by rw [aI];omega) (fun i a ha _=>at_new ha _ _)
  rw [aH];rfl
 ·refine ak (jV h3) ?_
  refine⟨rfl,by rw [lJ];omega,?_,by rw [ER];exact EP acc,?_⟩
  ·show (acc.length+1)*24≤_;omega
  refine q _ _ _ _ (.inr ⟨o,g+1,h1,by simp,?_⟩) (fun i hi=>by rw [List.getElem?_set_ne (by omega)]) (by rw [List.length_set];exact Nat.le_refl _) (fun i a ha ht=>aN ha (fun e=>?_) _)
  ·rw [at_set h3,ER,JW];rfl
  ·subst e
   exact ht _ _ _ (Option.some.inj (ha.symm.trans h3))
def t_ (nm:List UInt8)(A:AV)(pt:Bool)(Bd:AV)(ln:Nat):AO:=⟨0,false,.cells 69 [.s nm,A,.b pt,Bd,.i .i64 ln]⟩
def Cc (ts:List Tok):Re (List UInt8×Bool):=(nameW ts).bind fun nm ts=>.ok (nm,isW wPtr ts) (if isW wPtr ts=true then ts.tail else ts)
theorem Ru {α:Type} (ts:List Tok)(f:List UInt8×Bool→List Tok→Re α):((nameW ts).bind fun nm ts=>f (nm,isW wPtr ts) (if isW wPtr ts=true then ts.tail else ts))=(Cc ts).bind f:=by
 unfold Cc
 cases nameW ts <;> rfl
theorem Vb {ts:List Tok} (he:EndOk ts):Gd An (Cc ts) ts.length:=by
 refine(gd_name he).bind fun nm ts2 _ he2 hl2=>?_
 have h2:EndOk (if isW wPtr ts2=true then ts2.tail else ts2)∧(if isW wPtr ts2=true then ts2.tail else ts2).length≤ts2.length:=by
  split
  ·rename_i h2
   obtain⟨a,b⟩:=isW_tail he2 h2
   exact⟨a,by omega⟩
  ·exact⟨he2,Nat.le_refl _⟩
 exact⟨trivial,h2.1,by omega⟩
theorem PW.uf {m d:Nat} {σ σ':St} {f:AV} (h:PW p w g all σ m d f)(k:∀(i:Nat) (a:AO),σ[i]? =some a→(∀(g:Nat) (ro:Bool) (cs:List AV),a≠⟨g,ro,.cells 71 cs⟩)→σ'[i]? =some a):PW p w g all σ' m d f:=
 ⟨k _ _ h.obj (fun _ _ _ e=>by cases e),k _ _ h.tok (fun _ _ _ e=>by cases e),h.ne,h.len,h.at_,h.dp⟩
theorem PB.uf {d c l:Nat} {σ σ':St} (h:PB p σ d c l)(k:∀(i:Nat) (a:AO),σ[i]? =some a→(∀(g:Nat) (ro:Bool) (cs:List AV),a≠⟨g,ro,.cells 71 cs⟩)→σ'[i]? =some a):PB p σ' d c l:=by
 obtain⟨w,g,all,m,fo,fg,h1,h2,h3⟩:=h
 exact⟨w,g,all,m,fo,fg,h1.uf k,h2,k _ _ h3 (fun _ _ _ e=>by cases e)⟩
def P1q (p w g:Nat)(all:List Tok)(B xo:Nat)(nm:List UInt8)(ln:Nat)(σ:St)(d:Nat)(acc:List (List UInt8×Bool))(Q:AV→St→Prop):Re (List UInt8×Bool)→Prop
 | .ok y ts=>∀A' σ' m',cu p xo B σ σ'→PW p w g all σ' m' d .p0→all.drop m'= ts→σ'[xo]? =some (t_ nm A' false .sl0 ln)→iK B σ' A' (acc ++ [y])→Q (.tu []) σ'
 | .bad c l=>∀A' σ',cu p xo B σ σ'→PB p σ' d c l→σ'[xo]? =some (t_ nm A' false .sl0 ln)→slP A'→Q (.tu []) σ'
 | .out=>True
theorem Vd (d B xo bx b1:Nat)(nm:List UInt8)(ln:Nat)(acc:List (List UInt8×Bool))(A:AV)(σ:St)(m:Nat)(Q:AV→St→Prop)(h:PW p w g all σ m d .p0)(hlt:p<B∧w<B∧xo<B∧bx<B∧b1<B)(hne:xo≠p∧bx≠p∧b1≠p∧bx≠xo∧b1≠xo)(hB:B≤σ.length)
 (hbx:σ[bx]? =some ⟨0,false,.cells 64 [.p xo 0 0]⟩) (hb1:σ[b1]? =some ⟨0,false,.cells 85 [.p p 0 0]⟩) (hx:σ[xo]? =some (t_ nm A false .sl0 ln)) (ha:iK B σ A acc) (he:EndOk (all.drop m)) (hs:acc.length≤40001)
 (hQ:P1q p w g all B xo nm ln σ d acc Q (Cc (all.drop m))):ay X 58 [.p b1 0 0,.p bx 0 0] σ Q:=by
 obtain⟨t,r,hts⟩:=he.ne
 obtain⟨ht,hr⟩:=bJ hts
 unfold Cc at hQ
 rw [hts] at hQ
 have hsl:=ha.sl
 have hpl:=bn h.obj
 refine ay.body (F:=F58) aC (lit:=false) rfl rfl (Nat.le_of_ble_eq_true rfl) ?_
 conv=>whnf
 refine ak (aj (T:=aW) rfl rfl (ah (hb1)) rfl) ?_
 conv=>whnf
 refine BU h ht (fun hk1=>nR (by rw [hr];rw [hts] at he;exact he.tail (by rw [hk1];decide))) (fun hk1 σ1 y1 k1=>?_) (fun hk1 σ1 y1 k1=>?_)
 ·simp only [nameW,if_pos hk1] at hQ
  have he2:EndOk (all.drop (m+1)):=by rw [hr];rw [hts] at he;exact he.tail (by rw [hk1];decide)
  obtain⟨t2,r2,gu⟩:=he2.ne
  obtain⟨ht2,hr2⟩:=bJ gu
  have hQ:P1q p w g all B xo nm ln σ d acc Q (.ok (t.s,isW wPtr r) (if isW wPtr r=true then r.tail else r)):=hQ
  rw [←hr,gu] at hQ
  have l1:=y1.len
  conv=>whnf
  refine ak (aF (T:=dV) ([.s t.s,.b false]) rfl (aH _ _ _) rfl rfl (Nat.le_of_ble_eq_true rfl) rfl) ?_
  have x2:Ext σ1 ((au 71 dV.zero.cells σ1).set σ1.length ⟨0,false,.cells 71 [.s t.s,.b false]⟩):=((Ext.refl σ1).new _ _).set (Nat.le_refl _) _
  have b2:((au 71 dV.zero.cells σ1).set σ1.length ⟨0,false,.cells 71 [.s t.s,.b false]⟩)[σ1.length]? =_:=at_set (aH _ _ _) _
  have l2:((au 71 dV.zero.cells σ1).set σ1.length ⟨0,false,.cells 71 [.s t.s,.b false]⟩).length=σ1.length+1:=by rw [List.length_set,aI]
  generalize (au 71 dV.zero.cells σ1).set σ1.length ⟨0,false,.cells 71 [.s t.s,.b false]⟩=σ2 at b2 x2 l2 ⊢
  conv=>whnf
  have k2:=k1.ext x2
  have c1:=x2.get (y1.get (by omega) hb1)
  have vP:=x2.get (y1.get (by omega) hbx)
  have cx:=x2.get (y1.get (by omega) hx)
  refine ak (aj (T:=aW) rfl rfl (ah (c1)) rfl) ?_
  conv=>whnf
  refine jZ [112,116,114] k2 ht2 (fun hi=>(aU he2 gu hi).1) (fun hi σ3 y3 k3=>?_) (fun hi=>?_)
  ·have Oc:isW wPtr (t2 :: r2)=true:=hi
   have hQ:P1q p w g all B xo nm ln σ d acc Q (.ok (t.s,true) r2):=by
        simp only [Oc,if_true] at hQ;exact hQ
   have xx:=(y1.trans (aO.of x2)).trans y3
   have b3:=y3.get (by omega) b2
   have cx3:=y3.get (by omega) cx
   have cbx3:=y3.get (by omega) vP
   conv=>whnf
   refine ak (aF (T:=qg) ([.s t.s,.b true]) rfl (b3) rfl rfl (Nat.le_of_ble_eq_true rfl) rfl) ?_
   conv=>whnf
   have ug:(List.set σ3 σ1.length ⟨0,false,.cells 71 [.s t.s,.b true]⟩)[bx]? =_:=aN (cbx3) (by omega) _
   have fx:(List.set σ3 σ1.length ⟨0,false,.cells 71 [.s t.s,.b true]⟩)[xo]? =some (t_ nm A false .sl0 ln):=aN (cx3) (by omega) _
   have fc:(List.set σ3 σ1.length ⟨0,false,.cells 71 [.s t.s,.b true]⟩)[σ1.length]? =some ⟨0,false,.cells 71 [.s t.s,.b true]⟩:=at_set (b3) _
   have fX:aO p σ (List.set σ3 σ1.length ⟨0,false,.cells 71 [.s t.s,.b true]⟩):=(xx).bg (bG.bF _ _ _ _) (by omega)
   have fa:iK B (List.set σ3 σ1.length ⟨0,false,.cells 71 [.s t.s,.b true]⟩) A acc:=ha.keep (Nat.le_refl _) fun i a hi hh=>fX.get (by omega) hh
   have kS:=k3.bF b3 (by decide) (by decide) ⟨0,false,.cells 71 [.s t.s,.b true]⟩
   generalize List.set σ3 σ1.length ⟨0,false,.cells 71 [.s t.s,.b true]⟩=S at ug fx fc fX fa kS ⊢
   have lX:=fX.len
   rcases hsl with rfl | ⟨oo,gg,kk,rfl⟩
   all_goals
        refine ak (aj (T:=dD) rfl rfl (ah (ug)) rfl) ?_
        conv=>whnf
        refine ak (aj (T:=dD) rfl rfl (ah (ug)) rfl) ?_
        conv=>whnf
        refine ak (aj (T:=lG) rfl rfl (ah (fx)) rfl) ?_
        conv=>whnf
        refine ak (dY (T:=dV) rfl rfl (ah (fc)) (Nat.le_of_ble_eq_true rfl)) ?_
        conv=>whnf
        refine⟨?_,?_⟩
        ·conv=>whnf
         refine ak (aj (T:=dD) rfl rfl (ah (at_new ug _ _)) rfl) ?_
         rfl
        conv=>whnf
        refine⟨?_,?_⟩
        ·conv=>whnf
         refine ak (aj (T:=dD) rfl rfl (ah (at_new ug _ _)) rfl) ?_
         rfl
        conv=>whnf
        refine⟨?_,?_⟩
        ·conv=>whnf
         refine ak (aj (T:=lG) rfl rfl (ah (at_new fx _ _)) rfl) ?_
         rfl
        conv=>whnf
        refine vU (B:=B) (fa.keep (Nat.le_refl _) fun i a hi ha=>at_new ha _ _) (t.s,true) (by omega) (aH _ _ _) (by rw [aI];omega) fun o3 g3 k3 s3 ha3 hb3 hl3 hk3=>?_
        rw [aI] at hl3
        have Ve:s3[bx]? =_:=(hb3 bx (by omega)).trans (at_new ug _ _)
        have gx:s3[xo]? =_:=(hb3 xo (by omega)).trans (at_new fx _ _)
        have kT:=(kS.new _ _).uf hk3
        conv=>whnf
        refine⟨?_,?_⟩
        ·conv=>whnf
         refine ak (aj (T:=dD) rfl rfl (ah (Ve)) rfl) ?_
         rfl
        conv=>whnf
        refine ak (aF (T:=lG) ([.s nm,.sl o3 g3 0 k3 2,.b false,.sl0,.i .i64 ln]) rfl (gx) rfl rfl (Nat.le_of_ble_eq_true rfl) rfl) ?_
        conv=>whnf
        have CU:cu p xo B σ (s3.set xo (t_ nm (.sl o3 g3 0 k3 2) false .sl0 ln)):=⟨by rw [List.length_set];omega,fun i hi kH hix=>by rw [List.getElem?_set_ne (fun e=>hix e.symm),hb3 i hi,dB (by omega),fX.old i (by omega) kH]⟩
        have k4:=kT.bF gx (by decide) (by decide) (t_ nm (.sl o3 g3 0 k3 2) false .sl0 ln)
        exact h.ne_of k4 (.inl (by omega)) (hQ _ _ _ CU k4 hr2 (at_set gx _) (ha3.keep (Nat.le_refl _) fun i a hi ha=>aN ha (by omega) _))
  ·have Oc:isW wPtr (t2 :: r2)=false:=hi
   have hQ:P1q p w g all B xo nm ln σ d acc Q (.ok (t.s,false) (t2 :: r2)):=by
        simp only [Oc,if_neg Bool.false_ne_true] at hQ;exact hQ
   conv=>whnf
   refine ak (aF (T:=qg) ([.s t.s,.b false]) rfl (b2) rfl rfl (Nat.le_of_ble_eq_true rfl) rfl) ?_
   conv=>whnf
   have ug:(List.set σ2 σ1.length ⟨0,false,.cells 71 [.s t.s,.b false]⟩)[bx]? =_:=aN (vP) (by omega) _
   have fx:(List.set σ2 σ1.length ⟨0,false,.cells 71 [.s t.s,.b false]⟩)[xo]? =some (t_ nm A false .sl0 ln):=aN (cx) (by omega) _
   have fc:(List.set σ2 σ1.length ⟨0,false,.cells 71 [.s t.s,.b false]⟩)[σ1.length]? =some ⟨0,false,.cells 71 [.s t.s,.b false]⟩:=at_set (b2) _
   have fX:aO p σ (List.set σ2 σ1.length ⟨0,false,.cells 71 [.s t.s,.b false]⟩):=(y1.trans (aO.of x2)).bg (bG.bF _ _ _ _) (by omega)
   have fa:iK B (List.set σ2 σ1.length ⟨0,false,.cells 71 [.s t.s,.b false]⟩) A acc:=ha.keep (Nat.le_refl _) fun i a hi hh=>fX.get (by omega) hh
   have kS:=k2.bF b2 (by decide) (by decide) ⟨0,false,.cells 71 [.s t.s,.b false]⟩
   generalize List.set σ2 σ1.length ⟨0,false,.cells 71 [.s t.s,.b false]⟩=S at ug fx fc fX fa kS ⊢
   have lX:=fX.len
   rcases hsl with rfl | ⟨oo,gg,kk,rfl⟩
   all_goals
        refine ak (aj (T:=dD) rfl rfl (ah (ug)) rfl) ?_
        conv=>whnf
        refine ak (aj (T:=dD) rfl rfl (ah (ug)) rfl) ?_
        conv=>whnf
        refine ak (aj (T:=lG) rfl rfl (ah (fx)) rfl) ?_
        conv=>whnf
        refine ak (dY (T:=dV) rfl rfl (ah (fc)) (Nat.le_of_ble_eq_true rfl)) ?_
        conv=>whnf
        refine⟨?_,?_⟩
        ·conv=>whnf
         refine ak (aj (T:=dD) rfl rfl (ah (at_new ug _ _)) rfl) ?_
         rfl
        conv=>whnf
        refine⟨?_,?_⟩
        ·conv=>whnf
         refine ak (aj (T:=dD) rfl rfl (ah (at_new ug _ _)) rfl) ?_
         rfl
        conv=>whnf
        refine⟨?_,?_⟩
        ·conv=>whnf
         refine ak (aj (T:=lG) rfl rfl (ah (at_new fx _ _)) rfl) ?_
         rfl
        conv=>whnf
        refine vU (B:=B) (fa.keep (Nat.le_refl _) fun i a hi ha=>at_new ha _ _) (t.s,false) (by omega) (aH _ _ _) (by rw [aI];omega) fun o3 g3 k3 s3 ha3 hb3 hl3 hk3=>?_
        rw [aI] at hl3
        have Ve:s3[bx]? =_:=(hb3 bx (by omega)).trans (at_new ug _ _)
        have gx:s3[xo]? =_:=(hb3 xo (by omega)).trans (at_new fx _ _)
        have kT:=(kS.new _ _).uf hk3
        conv=>whnf
        refine⟨?_,?_⟩
        ·conv=>whnf
         refine ak (aj (T:=dD) rfl rfl (ah (Ve)) rfl) ?_
         rfl
        conv=>whnf
        refine ak (aF (T:=lG) ([.s nm,.sl o3 g3 0 k3 2,.b false,.sl0,.i .i64 ln]) rfl (gx) rfl rfl (Nat.le_of_ble_eq_true rfl) rfl) ?_
        conv=>whnf
        have CU:cu p xo B σ (s3.set xo (t_ nm (.sl o3 g3 0 k3 2) false .sl0 ln)):=⟨by rw [List.length_set];omega,fun i hi kH hix=>by rw [List.getElem?_set_ne (fun e=>hix e.symm),hb3 i hi,dB (by omega),fX.old i (by omega) kH]⟩
        have k4:=kT.bF gx (by decide) (by decide) (t_ nm (.sl o3 g3 0 k3 2) false .sl0 ln)
        exact h.ne_of k4 (.inl (by omega)) (hQ _ _ _ CU k4 gu (at_set gx _) (ha3.keep (Nat.le_refl _) fun i a hi ha=>aN ha (by omega) _))
 ·simp only [nameW,if_neg hk1] at hQ
  have hQ:P1q p w g all B xo nm ln σ d acc Q (.bad 4 t.l):=hQ
  have l1:=y1.len
  conv=>whnf
  refine ak (aF (T:=dV) ([.s [],.b false]) rfl (aH _ _ _) rfl rfl (Nat.le_of_ble_eq_true rfl) rfl) ?_
  have x2:Ext σ1 ((au 71 dV.zero.cells σ1).set σ1.length ⟨0,false,.cells 71 [.s [],.b false]⟩):=((Ext.refl σ1).new _ _).set (Nat.le_refl _) _
  have b2:((au 71 dV.zero.cells σ1).set σ1.length ⟨0,false,.cells 71 [.s [],.b false]⟩)[σ1.length]? =_:=at_set (aH _ _ _) _
  have l2:((au 71 dV.zero.cells σ1).set σ1.length ⟨0,false,.cells 71 [.s [],.b false]⟩).length=σ1.length+1:=by rw [List.length_set,aI]
  generalize (au 71 dV.zero.cells σ1).set σ1.length ⟨0,false,.cells 71 [.s [],.b false]⟩=σ2 at b2 x2 l2 ⊢
  conv=>whnf
  have k2:=k1.ext x2
  have c1:=x2.get (y1.get (by omega) hb1)
  have vP:=x2.get (y1.get (by omega) hbx)
  have cx:=x2.get (y1.get (by omega) hx)
  refine ak (aj (T:=aW) rfl rfl (ah (c1)) rfl) ?_
  conv=>whnf
  refine ay.to (jv [112,116,114] k2) ?_
  conv=>whnf
  refine ak (aF (T:=qg) ([.s [],.b false]) rfl (b2) rfl rfl (Nat.le_of_ble_eq_true rfl) rfl) ?_
  conv=>whnf
  have ug:(List.set σ2 σ1.length ⟨0,false,.cells 71 [.s [],.b false]⟩)[bx]? =_:=aN (vP) (by omega) _
  have fx:(List.set σ2 σ1.length ⟨0,false,.cells 71 [.s [],.b false]⟩)[xo]? =some (t_ nm A false .sl0 ln):=aN (cx) (by omega) _
  have fc:(List.set σ2 σ1.length ⟨0,false,.cells 71 [.s [],.b false]⟩)[σ1.length]? =some ⟨0,false,.cells 71 [.s [],.b false]⟩:=at_set (b2) _
  have fX:aO p σ (List.set σ2 σ1.length ⟨0,false,.cells 71 [.s [],.b false]⟩):=(y1.trans (aO.of x2)).bg (bG.bF _ _ _ _) (by omega)
  have fa:iK B (List.set σ2 σ1.length ⟨0,false,.cells 71 [.s [],.b false]⟩) A acc:=ha.keep (Nat.le_refl _) fun i a hi hh=>fX.get (by omega) hh
  have kS:=k2.bF b2 (by decide) (by decide) (by decide) ⟨0,false,.cells 71 [.s [],.b false]⟩
  generalize List.set σ2 σ1.length ⟨0,false,.cells 71 [.s [],.b false]⟩=S at ug fx fc fX fa kS ⊢
  have lX:=fX.len
  rcases hsl with rfl | ⟨oo,gg,kk,rfl⟩
  all_goals
   refine ak (aj (T:=dD) rfl rfl (ah (ug)) rfl) ?_
   conv=>whnf
   refine ak (aj (T:=dD) rfl rfl (ah (ug)) rfl) ?_
   conv=>whnf
   refine ak (aj (T:=lG) rfl rfl (ah (fx)) rfl) ?_
   conv=>whnf
   refine ak (dY (T:=dV) rfl rfl (ah (fc)) (Nat.le_of_ble_eq_true rfl)) ?_
   conv=>whnf
   refine⟨?_,?_⟩
   ·conv=>whnf
    refine ak (aj (T:=dD) rfl rfl (ah (at_new ug _ _)) rfl) ?_
    rfl
   conv=>whnf
   refine⟨?_,?_⟩
   ·conv=>whnf
    refine ak (aj (T:=dD) rfl rfl (ah (at_new ug _ _)) rfl) ?_
    rfl
   conv=>whnf
   refine⟨?_,?_⟩
   ·conv=>whnf
    refine ak (aj (T:=lG) rfl rfl (ah (at_new fx _ _)) rfl) ?_
    rfl
   conv=>whnf
   refine vU (B:=B) (fa.keep (Nat.le_refl _) fun i a hi ha=>at_new ha _ _) ([],false) (by omega) (aH _ _ _) (by rw [aI];omega) fun o3 g3 k3 s3 ha3 hb3 hl3 hk3=>?_
   rw [aI] at hl3
   have Ve:s3[bx]? =_:=(hb3 bx (by omega)).trans (at_new ug _ _)
   have gx:s3[xo]? =_:=(hb3 xo (by omega)).trans (at_new fx _ _)
   have kT:=(kS.new _ _).uf hk3
   conv=>whnf
   refine⟨?_,?_⟩
   ·conv=>whnf
    refine ak (aj (T:=dD) rfl rfl (ah (Ve)) rfl) ?_
    rfl
   conv=>whnf
   refine ak (aF (T:=lG) ([.s nm,.sl o3 g3 0 k3 2,.b false,.sl0,.i .i64 ln]) rfl (gx) rfl rfl (Nat.le_of_ble_eq_true rfl) rfl) ?_
   conv=>whnf
   have CU:cu p xo B σ (s3.set xo (t_ nm (.sl o3 g3 0 k3 2) false .sl0 ln)):=⟨by rw [List.length_set];omega,fun i hi kH hix=>by rw [List.getElem?_set_ne (fun e=>hix e.symm),hb3 i hi,dB (by omega),fX.old i (by omega) kH]⟩
   have k4:=kT.bF gx (by decide) (by decide) (by decide) (t_ nm (.sl o3 g3 0 k3 2) false .sl0 ln)
   have q:=hQ _ _ CU k4 (at_set gx _) (.inr ⟨_,_,_,rfl⟩)
   obtain⟨w2,g2,all2,m2,fo,fg,j1,j2,j3⟩:=k4
   exact h.ne_of j1 (.inr (by simp)) q
theorem Vf (d c l B xo bx b1:Nat)(nm:List UInt8)(ln:Nat)(acc:List (List UInt8×Bool))(A:AV)(σ1:St)(Q:AV→St→Prop)(h:PB p σ1 d c l)(hlt:p<B∧xo<B∧bx<B∧b1<B)(hne:xo≠p∧bx≠p∧b1≠p∧bx≠xo∧b1≠xo)(hB:B≤σ1.length)
 (hbx:σ1[bx]? =some ⟨0,false,.cells 64 [.p xo 0 0]⟩) (hb1:σ1[b1]? =some ⟨0,false,.cells 85 [.p p 0 0]⟩) (hx:σ1[xo]? =some (t_ nm A false .sl0 ln)) (ha:iK B σ1 A acc) (hs:acc.length≤40001)
 (hQ:∀A' σ',cu p xo B σ1 σ'→PB p σ' d c l→σ'[xo]? =some (t_ nm A' false .sl0 ln)→slP A'→Q (.tu []) σ'):ay X 58 [.p b1 0 0,.p bx 0 0] σ1 Q:=by
 have hsl:=ha.sl
 have hpl:=PB.lt h
 have hQ0:=hQ A σ1 (.refl _ _ _ _) h hx hsl
 refine ay.body (F:=F58) aC (lit:=false) rfl rfl (Nat.le_of_ble_eq_true rfl) ?_
 conv=>whnf
 refine ak (aj (T:=aW) rfl rfl (ah (hb1)) rfl) ?_
 conv=>whnf
 refine ay.to (BX h) ?_
 conv=>whnf
 refine ak (aF (T:=dV) ([.s [],.b false]) rfl (aH _ _ _) rfl rfl (Nat.le_of_ble_eq_true rfl) rfl) ?_
 have x2:Ext σ1 ((au 71 dV.zero.cells σ1).set σ1.length ⟨0,false,.cells 71 [.s [],.b false]⟩):=((Ext.refl σ1).new _ _).set (Nat.le_refl _) _
 have b2:((au 71 dV.zero.cells σ1).set σ1.length ⟨0,false,.cells 71 [.s [],.b false]⟩)[σ1.length]? =_:=at_set (aH _ _ _) _
 have l2:((au 71 dV.zero.cells σ1).set σ1.length ⟨0,false,.cells 71 [.s [],.b false]⟩).length=σ1.length+1:=by rw [List.length_set,aI]
 generalize (au 71 dV.zero.cells σ1).set σ1.length ⟨0,false,.cells 71 [.s [],.b false]⟩=σ2 at b2 x2 l2 ⊢
 conv=>whnf
 have k2:=h.ext x2
 have c1:=x2.get hb1
 have vP:=x2.get hbx
 have cx:=x2.get hx
 refine ak (aj (T:=aW) rfl rfl (ah (c1)) rfl) ?_
 conv=>whnf
 refine ay.to (jv [112,116,114] k2) ?_
 conv=>whnf
 refine ak (aF (T:=qg) ([.s [],.b false]) rfl (b2) rfl rfl (Nat.le_of_ble_eq_true rfl) rfl) ?_
 conv=>whnf
 have ug:(List.set σ2 σ1.length ⟨0,false,.cells 71 [.s [],.b false]⟩)[bx]? =_:=aN (vP) (by omega) _
 have fx:(List.set σ2 σ1.length ⟨0,false,.cells 71 [.s [],.b false]⟩)[xo]? =some (t_ nm A false .sl0 ln):=aN (cx) (by omega) _
 have fc:(List.set σ2 σ1.length ⟨0,false,.cells 71 [.s [],.b false]⟩)[σ1.length]? =some ⟨0,false,.cells 71 [.s [],.b false]⟩:=at_set (b2) _
 have fX:aO p σ1 (List.set σ2 σ1.length ⟨0,false,.cells 71 [.s [],.b false]⟩):=(aO.of x2).bg (bG.bF _ _ _ _) (by omega)
 have fa:iK B (List.set σ2 σ1.length ⟨0,false,.cells 71 [.s [],.b false]⟩) A acc:=ha.keep (Nat.le_refl _) fun i a hi hh=>fX.get (by omega) hh
 have kS:=k2.bF b2 (by decide) (by decide) (by decide) ⟨0,false,.cells 71 [.s [],.b false]⟩
 generalize List.set σ2 σ1.length ⟨0,false,.cells 71 [.s [],.b false]⟩=S at ug fx fc fX fa kS ⊢
 have lX:=fX.len
 rcases hsl with rfl | ⟨oo,gg,kk,rfl⟩
 all_goals
  refine ak (aj (T:=dD) rfl rfl (ah (ug)) rfl) ?_
  conv=>whnf
  refine ak (aj (T:=dD) rfl rfl (ah (ug)) rfl) ?_
  conv=>whnf
  refine ak (aj (T:=lG) rfl rfl (ah (fx)) rfl) ?_
  conv=>whnf
  refine ak (dY (T:=dV) rfl rfl (ah (fc)) (Nat.le_of_ble_eq_true rfl)) ?_
  conv=>whnf
  refine⟨?_,?_⟩
  ·conv=>whnf
   refine ak (aj (T:=dD) rfl rfl (ah (at_new ug _ _)) rfl) ?_
   rfl
  conv=>whnf
  refine⟨?_,?_⟩
  ·conv=>whnf
   refine ak (aj (T:=dD) rfl rfl (ah (at_new ug _ _)) rfl) ?_
   rfl
  conv=>whnf
  refine⟨?_,?_⟩
  ·conv=>whnf
   refine ak (aj (T:=lG) rfl rfl (ah (at_new fx _ _)) rfl) ?_
   rfl
  conv=>whnf
  refine vU (B:=B) (fa.keep (Nat.le_refl _) fun i a hi ha=>at_new ha _ _) ([],false) (by omega) (aH _ _ _) (by rw [aI];omega) fun o3 g3 k3 s3 ha3 hb3 hl3 hk3=>?_
  rw [aI] at hl3
  have Ve:s3[bx]? =_:=(hb3 bx (by omega)).trans (at_new ug _ _)
  have gx:s3[xo]? =_:=(hb3 xo (by omega)).trans (at_new fx _ _)
  have kT:=(kS.new _ _).uf hk3
  conv=>whnf
  refine⟨?_,?_⟩
  ·conv=>whnf
   refine ak (aj (T:=dD) rfl rfl (ah (Ve)) rfl) ?_
   rfl
  conv=>whnf
  refine ak (aF (T:=lG) ([.s nm,.sl o3 g3 0 k3 2,.b false,.sl0,.i .i64 ln]) rfl (gx) rfl rfl (Nat.le_of_ble_eq_true rfl) rfl) ?_
  conv=>whnf
  have CU:cu p xo B σ1 (s3.set xo (t_ nm (.sl o3 g3 0 k3 2) false .sl0 ln)):=⟨by rw [List.length_set];omega,fun i hi kH hix=>by rw [List.getElem?_set_ne (fun e=>hix e.symm),hb3 i hi,dB (by omega),fX.old i (by omega) kH]⟩
  have k4:=kT.bF gx (by decide) (by decide) (by decide) (t_ nm (.sl o3 g3 0 k3 2) false .sl0 ln)
  exact iY (hQ _ _ CU k4 (at_set gx _) (.inr ⟨_,_,_,rfl⟩)) fun _=>hQ0
end
end Go.Abs.YtlkfbfhkcaldlaaGreatDoor
