/- Texts of this claim, joined: Pk, Pl, Pm, Pn. -/
import Derived.Test.YtjcicgkencfbgaaGreatDoorM22
set_option linter.unusedVariables false
set_option linter.unusedSimpArgs false
namespace Go.bG.YtjcicgkencfbgaaGreatDoor
open Go.Proofs
set_option maxRecDepth 4000
def PSs (p w g:Nat)(all:List Tok)(σ:St)(d:Nat)(Q:AV→St→Prop):Re oO→Prop
 | .ok l ts=>∀A σ' m',aI p σ σ'→PW p w g all σ' m' d .p0→all.drop m'= ts→dN (fun i=>σ.length≤i) σ' A l→yT A→Q A σ'
 | .bad c l=>∀A σ',aI p σ σ'→PB p σ' d c l→yT A→Q A σ'
 | .out=>True
def nC (p w g:Nat)(all:List Tok)(σ:St)(d:Nat)(Q:AV→St→Prop):Re Sm→Prop
 | .ok s ts=>∀o g' σ' m',aI p σ σ'→PW p w g all σ' m' d .p0→all.drop m'= ts→jH (fun i=>σ.length≤i) σ' (.p o g' 0) s→Q (.p o g' 0) σ'
 | .bad c l=>∀o g' σ',aI p σ σ'→PB p σ' d c l→Q (.p o g' 0) σ'
 | .out=>True
def PQs (p w g:Nat)(all:List Tok)(B bp bl:Nat)(σ:St)(d:Nat)(acc:List Sm)(Q:Out→Env→St→Prop):Re oO→Prop
 | .ok xs ts=>∀A' σ' m' e',get e' 0= .p bp 0 0→cZ p bl B σ σ'→PW p w g all σ' m' d .p0→all.drop m'= ts→σ'[bl]? =some ⟨0,false,.cells 91 [A']⟩→BQ B σ' A' (acc ++ yV xs)→Q (.exit 0) e' σ'
 | .bad c l=>∀A' σ' e',get e' 0= .p bp 0 0→cZ p bl B σ σ'→PB p σ' d c l→σ'[bl]? =some ⟨0,false,.cells 91 [A']⟩→yT A'→Q (.exit 0) e' σ'
 | .out=>True
structure WQ (p w g:Nat)(all:List Tok)(n:Nat):Prop where
 block:∀(d:Nat) (σ:St) (m:Nat) (Q:AV→St→Prop),PW p w g all σ m d .p0→d≤64→aU (all.drop m)→10*(all.drop m).length+10≤n→PSs p w g all σ d Q (dI n d (all.drop m))→ay X 71 [.p p 0 0] σ Q
 branch:∀(d line:Nat) (σ:St) (m:Nat) (Q:AV→St→Prop),PW p w g all σ m d .p0→d≤64→aU (all.drop m)→10*(all.drop m).length+12≤n→nC p w g all σ d Q (dQ n d line (all.drop m))→ay X 131 [.p p 0 0,.i .i64 line] σ Q
 stmt:∀(d:Nat) (σ:St) (m:Nat) (Q:AV→St→Prop),PW p w g all σ m d .p0→d≤64→aU (all.drop m)→10*(all.drop m).length+14≤n→nC p w g all σ d Q (kH n d (all.drop m))→ay X 110 [.p p 0 0] σ Q
def vg (p w g:Nat)(all:List Tok)(n:Nat):Prop:=∀(d B bp bl:Nat),d≤64→(p<B∧w<B∧bp<B∧bl<B)→(bp≠p∧bl≠p∧bp≠bl)→
 ∀ (acc:List Sm) (A:AV) (σ:St) (m:Nat) (Q:Out→Env→St→Prop),PW p w g all σ m d .p0→B≤σ.length→σ[bp]? =some ⟨0,false,.cells 81 [.p p 0 0]⟩→σ[bl]? =some ⟨0,false,.cells 91 [A]⟩→BQ B σ A acc→aU (all.drop m)→10*(all.drop m).length+15≤n→acc.length+(all.drop m).length≤40001→PQs p w g all B bp bl σ d acc Q (gW n d (all.drop m))→aS X [0,1] MS [(0,.p bp 0 0),(1,.p bl 0 0)] σ Q
section
variable {p w g:Nat} {all:List Tok} {n:Nat}
theorem xE {d c l bp bl:Nat} {σ:St} {Q:Out→Env→St→Prop} (h:PB p σ d c l)(hbp:σ[bp]? =some ⟨0,false,.cells 81 [.p p 0 0]⟩)
 (q:∀e',get e' 0= .p bp 0 0→Q (.exit 0) e' σ):aS X [0,1] MS [(0,.p bp 0 0),(1,.p bl 0 0)] σ Q:=by
 refine aS.round aF (lit:=false) ?_
 conv=>whnf
 refine ak (aj (T:=bD) rfl rfl (ah (hbp)) rfl) ?_
 conv=>whnf
 refine ay.to (tZ h) ?_
 conv=>whnf
 exact q _ rfl
theorem YA (ih:WQ p w g all n)(NI:vg p w g all n):vg p w g all (n+1):=by
 intro d B bp bl hd hlt hne acc A σ m Q h hB hbp hbl ha he hn hs hQ
 obtain⟨t,r,hts⟩:=he.ne
 obtain⟨ht,hr⟩:=aW hts
 unfold gW at hQ
 rw [hts] at hQ
 have hsl:yT A:=by obtain⟨cs,hr,_⟩:=ha;exact hr.sl
 refine aS.round aF (lit:=false) ?_
 conv=>whnf
 refine ak (aj (T:=bD) rfl rfl (ah (hbp)) rfl) ?_
 conv=>whnf
 refine ay.to (mJ h) ?_
 conv=>whnf
 refine ak (aj (T:=bD) rfl rfl (ah (hbp)) rfl) ?_
 conv=>whnf
 have b1:(au 9 [.s [125]] σ)[σ.length]? =some ⟨0,false,.cells 9 [.s [125]]⟩:=aG _ _ _
 have x1:Ext σ (au 9 [.s [125]] σ):=(Ext.refl σ).new _ _
 have l1:(au 9 [.s [125]] σ).length=σ.length+1:=aH _ _ _
 generalize au 9 [.s [125]] σ=σ1 at b1 x1 l1 ⊢
 have h1:=h.ext x1
 have y1:cZ p bl B σ σ1:=.of (aI.of x1) hB
 have c1:=x1.get hbp
 have c2:=x1.get hbl
 have ha1:BQ B σ1 A acc:=ha.keep fun i a _ ha=>x1.get ha
 refine ay.to (BO [[125]] h1 ht σ.length 0 (ah b1) (Nat.le_of_ble_eq_true rfl)) ?_
 conv=>whnf
 rw [jU]
 cases hi:dH [125] t with
 | true=>
   rw [if_pos (show aY [125] (t :: r)=true from hi)] at hQ
   conv=>whnf
   exact hQ A σ1 m _ rfl y1 h1 hts c2 (by rw [show acc ++ yV .nil=acc from List.append_nil acc];exact ha1)
 | false=>
   rw [if_neg (by rw [show aY [125] (t :: r)=dH [125] t from rfl,hi];decide),←hts] at hQ
   have hg:=(ny n).stmt d (all.drop m) he (by omega)
   conv=>whnf
   rcases hsl with rfl | ⟨oo,gg,kk,rfl⟩
   all_goals
    refine ak (aj (T:=dM) rfl rfl (ah (c2)) rfl) ?_
    conv=>whnf
    refine ak (aj (T:=bD) rfl rfl (ah (c1)) rfl) ?_
    conv=>whnf
    refine ih.stmt d σ1 m _ h1 hd he (by omega) ?_
    generalize kH n d (all.drop m)=r1 at hg hQ
    cases r1 with
    | out=>exact hg.elim
    | bad c l=>
      intro oy gy s y k
      have e1:=y.get hne.1 c1
      have e2:=y.get hne.2.1 c2
      have ly:=y.len
      conv=>whnf
      refine⟨?_,?_⟩
      ·conv=>whnf
       refine ak (aj (T:=dM) rfl rfl (ah (e2)) rfl) ?_
       rfl
      conv=>whnf
      refine⟨?_,?_⟩
      ·conv=>whnf
       refine ak (aj (T:=dM) rfl rfl (ah (at_new e2 _ _)) rfl) ?_
       rfl
      conv=>whnf
      refine yX (D:=s.length) ha1 y hlt.1 (by omega) (Nat.le_refl _) ly (by omega) oy gy fun o3 g3 zG s3 e3 l3 kT kA=>?_
      have f2:s3[bl]? =_:=(e3 bl hlt.2.2.2).trans e2
      have f1:s3[bp]? =_:=(e3 bp hlt.2.2.1).trans e1
      have k3:=k.IX kT
      conv=>whnf
      refine ak (aC (T:=dM) ([.sl o3 g3 0 zG 1]) rfl (f2) rfl rfl (Nat.le_of_ble_eq_true rfl) rfl) ?_
      conv=>whnf
      have k4:=k3.b_ f2 (by decide) (by decide) (by decide) ⟨0,false,.cells 91 [.sl o3 g3 0 zG 1]⟩
      have yy:cZ p bl B σ (s3.set bl ⟨0,false,.cells 91 [.sl o3 g3 0 zG 1]⟩):=y1.trans ⟨by rw [List.length_set];omega,fun i hi fZ hix=>by rw [List.getElem?_set_ne (fun e=>hix e.symm),e3 i hi,y.old i (by omega) fZ]⟩
      exact xE k4 (aK f1 hne.2.2.symm _) fun e' e0=>hQ _ _ e' e0 yy k4 (at_set f2 _) (.inr ⟨_,_,_,rfl⟩)
    | ok y0 bJ=>
      intro oy gy s m2 y k hm2 tY
      have e1:=y.get hne.1 c1
      have e2:=y.get hne.2.1 c2
      have ly:=y.len
      have hQ:PQs p w g all B bp bl σ d acc Q ((gW n d bJ).bind fun l ts=>.ok (.cons y0 l) ts):=hQ
      rw [←hm2] at hQ hg
      have lg:=hg.2.2
      conv=>whnf
      refine⟨?_,?_⟩
      ·conv=>whnf
       refine ak (aj (T:=dM) rfl rfl (ah (e2)) rfl) ?_
       rfl
      conv=>whnf
      refine⟨?_,?_⟩
      ·conv=>whnf
       refine ak (aj (T:=dM) rfl rfl (ah (at_new e2 _ _)) rfl) ?_
       rfl
      conv=>whnf
      refine yX (D:=σ1.length) ha1 y hlt.1 (by omega) ly (Nat.le_refl _) (by omega) oy gy fun o3 g3 zG s3 e3 l3 kT kA=>?_
      have f2:s3[bl]? =_:=(e3 bl hlt.2.2.2).trans e2
      have f1:s3[bp]? =_:=(e3 bp hlt.2.2.1).trans e1
      have k3:=k.IX kT
      conv=>whnf
      refine ak (aC (T:=dM) ([.sl o3 g3 0 zG 1]) rfl (f2) rfl rfl (Nat.le_of_ble_eq_true rfl) rfl) ?_
      conv=>whnf
      have k4:=k3.b_ f2 (by decide) (by decide) ⟨0,false,.cells 91 [.sl o3 g3 0 zG 1]⟩
      have yy:cZ p bl B σ (s3.set bl ⟨0,false,.cells 91 [.sl o3 g3 0 zG 1]⟩):=y1.trans ⟨by rw [List.length_set];omega,fun i hi fZ hix=>by rw [List.getElem?_set_ne (fun e=>hix e.symm),e3 i hi,y.old i (by omega) fZ]⟩
      refine NI d B bp bl hd hlt hne (acc ++ [y0]) _ _ m2 Q k4 (by rw [List.length_set];omega) (aK f1 hne.2.2.symm _) (at_set f2 _) ((kA y0 tY).keep fun i a hi ha=>aK ha (by omega) _) hg.2.1 (by omega) (by rw [List.length_append];simp only [List.length_cons,List.length_nil];omega) ?_
      generalize gW n d (all.drop m2)=r2 at hQ
      cases r2 with
      | out=>trivial
      | bad c l=>exact fun A4 eY e' q0 x4=>hQ A4 eY e' q0 (yy.trans x4)
      | ok xs BM=>exact fun A4 eY m4 e' q0 x4 h4 hm4 hx4 uZ=>hQ A4 eY m4 e' q0 (yy.trans x4) h4 hm4 hx4 (by rw [List.append_assoc] at uZ;exact uZ)
theorem YB (NI:vg p w g all n)(d:Nat)(σ:St)(m:Nat)(Q:AV→St→Prop)(h:PW p w g all σ m d .p0)(hd:d≤64)(he:aU (all.drop m))(hn:10*(all.drop m).length+10≤n+1)(hQ:PSs p w g all σ d Q (dI (n+1) d (all.drop m))):ay X 71 [.p p 0 0] σ Q:=by
 obtain⟨t,r,hts⟩:=he.ne
 obtain⟨ht,hr⟩:=aW hts
 have hpl:=aX h.obj
 have hwl:=aX h.tok
 have hal:=h.len
 have hm:=h.at_
 have hlr:(all.drop m).length=r.length+1:=by rw [hts];rfl
 unfold dI gq at hQ
 rw [hts] at hQ
 refine ay.body (F:=F71) aF (lit:=false) rfl rfl (Nat.le_of_ble_eq_true rfl) ?_
 conv=>whnf
 have b1:(au 81 (AV.p p 0 0).cells σ)[σ.length]? =some ⟨0,false,.cells 81 [.p p 0 0]⟩:=aG _ _ _
 have x1:Ext σ (au 81 (AV.p p 0 0).cells σ):=(Ext.refl σ).new _ _
 have l1:(au 81 (AV.p p 0 0).cells σ).length=σ.length+1:=aH _ _ _
 generalize au 81 (AV.p p 0 0).cells σ=σ1 at b1 x1 l1 ⊢
 have b2:(au 91 dM.zero.cells σ1)[σ1.length]? =some ⟨0,false,.cells 91 [.sl0]⟩:=aG _ _ _
 have x2:Ext σ1 (au 91 dM.zero.cells σ1):=(Ext.refl σ1).new _ _
 have l2:(au 91 dM.zero.cells σ1).length=σ1.length+1:=aH _ _ _
 generalize au 91 dM.zero.cells σ1=σ2 at b2 x2 l2 ⊢
 have xx:=x1.trans x2
 have h2:=h.ext xx
 have c1:=x2.get b1
 refine ak (aj (T:=bD) rfl rfl (ah (c1)) rfl) ?_
 conv=>whnf
 refine ay.mono (Q:=fun v s=>v= .tu []∧∃A,yT A∧s[σ1.length]? =some ⟨0,false,.cells 91 [A]⟩∧Fin σ A s Q) ?_ fun v s q=>?_
 ·have bad:∀(c l:Nat) (s1:St),aI p σ2 s1→PB p s1 (d+1) c l→PSs p w g all σ d Q (.bad c l)→ay X 109 [.p σ.length 0 0,.p σ1.length 0 0] s1 (QI p m d (fun v s=>v= .tu []∧∃A,yT A∧s[σ1.length]? =some ⟨0,false,.cells 91 [A]⟩∧Fin σ A s Q)):=by
   intro c l s1 y1 k1 hq
   have e1:=y1.get (by omega) c1
   refine ay.body (F:=SY) aF (lit:=false) rfl rfl (Nat.le_of_ble_eq_true rfl) ?_
   conv=>whnf
   refine xE k1 e1 fun e' e0=>?_
   conv=>whnf
   rw [show dK.ev e' (.t 0)=get e' 0 from rfl,e0]
   conv=>whnf
   refine ak (aj (T:=bD) rfl rfl (ah (e1)) rfl) ?_
   conv=>whnf
   refine ay.to (ku [125] k1) ?_
   conv=>whnf
   have k1':=k1
   obtain⟨w2,g2,all2,m2,fo,fg,j1,j2,j3⟩:=k1'
   exact Fin.flat rfl List.take_length ⟨rfl,w2,g2,all2,m2,_,j1,.inr (by simp),fun s3 y3 j4=>⟨rfl,.sl0,.inl rfl,y3.get (by omega) (y1.get (by omega) b2),h.ne_of j4 (.inr (by simp)) (hq _ _ (((aI.of xx).trans y1).trans y3) ⟨w2,g2,all2,m2,fo,fg,j4,j2,y3.get j2 j3⟩ (.inl rfl))⟩⟩
  refine QF [123] h2 ht hd (fun hi=>(aN he hts hi).1) (fun hi h64 s1 y1 k1=>?_) (fun hi h64 s1 y1 k1=>?_) (fun hi s1 y1 k1=>?_)
  ·rw [if_neg (by omega),aP,if_pos (show aY [123] (t :: r)=true from hi)] at hQ
   have hQ:PSs p w g all σ d Q ((gW n (d+1) r).bind fun l ts=>(aP [125] ts).bind fun _ ts=>.ok l ts):=hQ
   obtain⟨hm1,he1,hle⟩:=aN he hts hi
   have hg:=(ny n).stmts (d+1) (all.drop (m+1)) he1 (by rw [hr];omega)
   have hx1:aI p σ s1:=(aI.of xx).trans y1
   have e1:=y1.get (by omega) c1
   have e2:=y1.get (by omega) b2
   have ly:=y1.len
   have lx:=hx1.len
   have hall:(all.drop (m+1)).length≤40001:=by rw [List.length_drop];omega
   refine ay.body (F:=SY) aF (lit:=false) rfl rfl (Nat.le_of_ble_eq_true rfl) ?_
   conv=>whnf
   refine NI (d+1) s1.length σ.length σ1.length (by omega) ⟨by omega,by omega,by omega,by omega⟩ ⟨by omega,by omega,by omega⟩ [] .sl0 s1 (m+1) _ k1 (Nat.le_refl _) e1 e2 ⟨[],.inl ⟨rfl,rfl⟩,trivial⟩ he1 (by rw [hr];omega) (by simp only [List.length_nil];omega) ?_
   rw [hr] at hg ⊢
   generalize gW n (d+1) r=r1 at hg hQ
   cases r1 with
   | out=>exact hg.elim
   | bad c l=>
     intro A' s2 e' e0 y2 k2 hx2 hsl
     have f1:=y2.get (by omega) (by omega) (by omega) e1
     conv=>whnf
     rw [show dK.ev e' (.t 0)=get e' 0 from rfl,e0]
     conv=>whnf
     refine ak (aj (T:=bD) rfl rfl (ah (f1)) rfl) ?_
     conv=>whnf
     refine ay.to (ku [125] k2) ?_
     conv=>whnf
     have k2':=k2
     obtain⟨w2,g2,all2,m2,fo,fg,j1,j2,j3⟩:=k2'
     have ly2:=y2.len
     exact k1.ne_of j1 (.inr (by simp)) ⟨rfl,w2,g2,all2,m2,_,j1,.inr (by simp),fun s3 y3 j4=>⟨rfl,A',hsl,y3.get (by omega) hx2,h.ne_of j4 (.inr (by simp)) (hQ _ _ ⟨by have:=y3.len;omega,fun i hi fZ=>by rw [y3.old i (by omega) fZ,y2.old i (by omega) fZ (by omega),hx1.old i hi fZ]⟩ ⟨w2,g2,all2,m2,fo,fg,j4,j2,y3.get j2 j3⟩ hsl)⟩⟩
   | ok xs bJ=>
     intro A' s2 m2 e' e0 y2 k2 hm2 hx2 ha2
     have he2:aU (all.drop m2):=by rw [hm2];exact hg.2.1
     obtain⟨t2,r2,fD⟩:=he2.ne
     obtain⟨ht2,hr2⟩:=aW fD
     have hQ:PSs p w g all σ d Q ((aP [125] bJ).bind fun _ ts=>.ok xs ts):=hQ
     rw [←hm2,fD] at hQ
     have f1:=y2.get (by omega) (by omega) (by omega) e1
     have ly2:=y2.len
     have hsl:yT A':=by obtain⟨cs,hr,_⟩:=ha2;exact hr.sl
     have hmm:m+1≤m2:=by
      have:=hg.2.2
      rw [←hm2,←hr,List.length_drop,List.length_drop] at this
      omega
     have harg:=ha2.arg
     rw [show ([]:List Sm) ++ yV xs=yV xs from rfl,NH] at harg
     have fr:∀s3,aI p s2 s3→aI p σ s3:=fun s3 y3=>⟨by have:=y3.len;omega,fun i hi fZ=>by rw [y3.old i (by omega) fZ,y2.old i (by omega) fZ (by omega),hx1.old i hi fZ]⟩
     conv=>whnf
     rw [show dK.ev e' (.t 0)=get e' 0 from rfl,e0]
     conv=>whnf
     refine ak (aj (T:=bD) rfl rfl (ah (f1)) rfl) ?_
     conv=>whnf
     refine j_ [125] k2 ht2 (fun hi=>(aN he2 fD hi).1) (fun hi2 s5 y5 k5=>?_) (fun hi2 s5 y5 k5=>?_)
     ·rw [aP,if_pos (show aY [125] (t2 :: r2)=true from hi2)] at hQ
      conv=>whnf
      refine k1.ne_of k5 (.inl (by omega)) ⟨rfl,w,g,all,m2+1,_,k5,.inl (by omega),fun s3 y3 j4=>⟨rfl,A',hsl,(y5.trans y3).get (by omega) hx2,h.ne_of j4 (.inl (by omega)) (hQ _ _ _ (fr s3 (y5.trans y3)) j4 hr2 ?_ hsl)⟩⟩
      exact dN.mono (fun i hi=>by omega) (fun i hi a ha=>(y5.trans y3).get (by omega) ha) harg
     ·rw [aP,if_neg (show ¬aY [125] (t2 :: r2)=true by rw [show aY [125] (t2 :: r2)=dH [125] t2 from rfl,hi2];decide)] at hQ
      conv=>whnf
      have BP:=k5
      obtain⟨w2,g2,all2,U_,fo,fg,j1,j2,j3⟩:=BP
      exact k1.ne_of j1 (.inr (by simp)) ⟨rfl,w2,g2,all2,U_,_,j1,.inr (by simp),fun s3 y3 j4=>⟨rfl,A',hsl,(y5.trans y3).get (by omega) hx2,h.ne_of j4 (.inr (by simp)) (hQ _ _ (fr s3 (y5.trans y3)) ⟨w2,g2,all2,U_,fo,fg,j4,j2,y3.get j2 j3⟩ hsl)⟩⟩
  ·rw [if_pos ⟨show aY [123] (t :: r)=true from hi,h64⟩] at hQ
   exact bad 3 t.l s1 y1 k1 hQ
  ·have hiw:¬aY [123] (t :: r)=true:=by rw [show aY [123] (t :: r)=dH [123] t from rfl,hi];decide
   rw [if_neg (fun e=>hiw e.1),aP,if_neg hiw] at hQ
   exact bad 4 t.l s1 y1 k1 hQ
 ·obtain⟨rfl,A,hA,q1,q2⟩:=q
  rcases hA with rfl | ⟨o,g',k,rfl⟩
  ·conv=>whnf
   refine ak (aj (T:=dM) rfl rfl (ah (q1)) rfl) ?_
   conv=>whnf
   refine ak (aC (T:=dM) ([.sl0]) rfl (q1) rfl rfl (Nat.le_of_ble_eq_true rfl) rfl) ?_
   conv=>whnf
   rw [uf q1]
   refine ak (aj (T:=dM) rfl rfl (ah (q1)) rfl) ?_
   conv=>whnf
   exact q2
  ·conv=>whnf
   refine ak (aj (T:=dM) rfl rfl (ah (q1)) rfl) ?_
   conv=>whnf
   refine ak (aC (T:=dM) ([.sl o g' 0 k 1]) rfl (q1) rfl rfl (Nat.le_of_ble_eq_true rfl) rfl) ?_
   conv=>whnf
   rw [uf q1]
   refine ak (aj (T:=dM) rfl rfl (ah (q1)) rfl) ?_
   conv=>whnf
   exact q2
theorem yY {d c l:Nat} {σ:St} (h:PB p σ d c l)(hd:d+1≤1000) {Q:AV→St→Prop} (q:∀σ',aI p σ σ'→PB p σ' d c l→Q .sl0 σ'):ay X 71 [.p p 0 0] σ Q:=by
 have hpl:=PB.lt h
 refine ay.body (F:=F71) aF (lit:=false) rfl rfl (Nat.le_of_ble_eq_true rfl) ?_
 conv=>whnf
 have b1:(au 81 (AV.p p 0 0).cells σ)[σ.length]? =some ⟨0,false,.cells 81 [.p p 0 0]⟩:=aG _ _ _
 have x1:Ext σ (au 81 (AV.p p 0 0).cells σ):=(Ext.refl σ).new _ _
 have l1:(au 81 (AV.p p 0 0).cells σ).length=σ.length+1:=aH _ _ _
 generalize au 81 (AV.p p 0 0).cells σ=σ1 at b1 x1 l1 ⊢
 have b2:(au 91 dM.zero.cells σ1)[σ1.length]? =some ⟨0,false,.cells 91 [.sl0]⟩:=aG _ _ _
 have x2:Ext σ1 (au 91 dM.zero.cells σ1):=(Ext.refl σ1).new _ _
 have l2:(au 91 dM.zero.cells σ1).length=σ1.length+1:=aH _ _ _
 generalize au 91 dM.zero.cells σ1=σ2 at b2 x2 l2 ⊢
 have xx:=x1.trans x2
 have h2:=h.ext xx
 have c1:=x2.get b1
 refine ak (aj (T:=bD) rfl rfl (ah (c1)) rfl) ?_
 conv=>whnf
 have fin:∀s,aI p σ2 s→PB p s d c l→Fin σ .sl0 s Q:=fun s y k=>u_ (q _ ((aI.of xx).trans y) k) fun _=>q _ (.refl _ _) h
 refine ay.mono (Q:=fun v s=>v= .tu []∧s[σ1.length]? =some ⟨0,false,.cells 91 [.sl0]⟩∧Fin σ .sl0 s Q) ?_ fun v s q=>?_
 ·refine in_b (fun s=>aI p σ2 s) [123] h2 hd (fun s1 y1 k1=>?_) (fun s3 y3 k3=>⟨rfl,y3.get (by omega) b2,fin _ y3 k3⟩) (fun s3 y3 _=>⟨rfl,b2,fin _ (.refl _ _) h2⟩)
  have e1:=y1.get (by omega) c1
  refine ay.body (F:=SY) aF (lit:=false) rfl rfl (Nat.le_of_ble_eq_true rfl) ?_
  conv=>whnf
  refine xE k1 e1 fun e' e0=>?_
  conv=>whnf
  rw [show dK.ev e' (.t 0)=get e' 0 from rfl,e0]
  conv=>whnf
  refine ak (aj (T:=bD) rfl rfl (ah (e1)) rfl) ?_
  conv=>whnf
  refine ay.to (ku [125] k1) ?_
  conv=>whnf
  exact Fin.flat rfl List.take_length ⟨rfl,k1,fun s3 y3 _=>y1.trans y3⟩
 ·obtain⟨rfl,q1,q2⟩:=q
  conv=>whnf
  refine ak (aj (T:=dM) rfl rfl (ah (q1)) rfl) ?_
  conv=>whnf
  refine ak (aC (T:=dM) ([.sl0]) rfl (q1) rfl rfl (Nat.le_of_ble_eq_true rfl) rfl) ?_
  conv=>whnf
  rw [uf q1]
  refine ak (aj (T:=dM) rfl rfl (ah (q1)) rfl) ?_
  conv=>whnf
  exact q2
end
end Go.bG.YtjcicgkencfbgaaGreatDoor
namespace Go.bG.YtjcicgkencfbgaaGreatDoor
open Go.Proofs
set_option maxRecDepth 4000
theorem bU (v:AV)(Q:AV→Prop)(h:Q v):fc v Q:=by
 cases v with
 | b t=>cases t <;> exact h
 | _=>exact lq _ _ h
theorem dP {t o g off e:Nat} {T:AT} {σ:St} {cs:List AV} {A:AV} (cs':List AV)(hA:yT A)(hT:L_.get t=some T)(hz:T.size=1)(ho:σ[o]? =some ⟨g,false,.cells e cs⟩)(hc:off+1≤cs.length)(hs:setCells cs off [A]=cs') :
 jW (L_.get t) (.p o g off) A σ=some (σ.set o ⟨g,false,.cells e cs'⟩):=by
 rcases hA with rfl | ⟨o',g',n,rfl⟩
 ·exact aC cs' hT ho (by rw [hz];rfl) rfl (by rw [hz];exact hc) hs
 ·exact aC cs' hT ho (by rw [hz];rfl) rfl (by rw [hz];exact hc) hs
def bP (k:Nat)(nm:List UInt8)(pt:Bool)(L R T E:AV)(ln:Nat):AO:=⟨0,false,.cells 114 [.i .i64 k,.s nm,.b pt,L,R,T,E,.i .i64 ln]⟩
theorem cO.same {p x:Nat} {σ a b:St} (h:cO p x σ a)(k:aI p a b):cO p x σ b:=h.trans (.of k)
section
variable {p w g:Nat} {all:List Tok} {n:Nat}
theorem PW.st {m d:Nat} {f:AV} {σ:St} (h:PW p w g all σ m d f) {x k ln:Nat} {nm:List UInt8} {pt:Bool} {L R T E:AV} (hx:σ[x]? =some (bP k nm pt L R T E ln))(a:AO):PW p w g all (σ.set x a) m d f:=h.b_ hx (by decide) (by decide) a
theorem PB.st {d c l:Nat} {σ:St} (h:PB p σ d c l) {x k ln:Nat} {nm:List UInt8} {pt:Bool} {L R T E:AV} (hx:σ[x]? =some (bP k nm pt L R T E ln))(a:AO):PB p (σ.set x a) d c l:=h.b_ hx (by decide) (by decide) (by decide) a
def PEn (p w g:Nat)(all:List Tok)(xo kd:Nat)(nm:List UInt8)(pt:Bool)(L:AV)(ln:Nat)(σ:St)(d:Nat)(Q:AV→St→Prop):Re Tr→Prop
 | .ok y ts=>∀R σ' m',cO p xo σ σ'→PW p w g all σ' m' d .p0→all.drop m'= ts→σ'[xo]? =some (bP kd nm pt L R .sl0 .sl0 ln)→bK (fun i=>σ.length≤i) σ' R y→Q (.p xo 0 0) σ'
 | .bad c l=>∀σ',cO p xo σ σ'→PB p σ' d c l→Q (.p xo 0 0) σ'
 | .out=>True
theorem YC (ih:WP p w g all n)(d kd k0 xo xv bp ln:Nat)(nm:List UInt8)(pt:Bool)(L:AV)(σ:St)(m:Nat)(Q:AV→St→Prop)(h:PW p w g all σ m d .p0)(hd:d≤64)(he:aU (all.drop m))(hn:10*(all.drop m).length+10≤n+1)
 (hxv:σ[xv]? =some ⟨0,false,.cells 102 [.p xo 0 0]⟩) (hbp:σ[bp]? =some ⟨0,false,.cells 81 [.p p 0 0]⟩) (hx:σ[xo]? =some (bP k0 nm pt L .p0 .sl0 .sl0 ln)) (hne:xo≠p∧xv≠p∧bp≠p∧xv≠xo∧bp≠xo)
 (hQ:PEn p w g all xo kd nm pt L ln σ d Q (bW (n+1) d (all.drop m))):ay X 129 [.i .i64 kd,.p xv 0 0,.p bp 0 0] σ Q:=by
 unfold bW at hQ
 have hQ:PEn p w g all xo kd nm pt L ln σ d Q ((dO n d 1 (all.drop m)).bind fun x ts=>(aP [59] ts).bind fun _ ts=>.ok x ts):=hQ
 have hg:=(jr n).expr d 1 (all.drop m) he (by omega)
 have hxl:=aX hx
 refine ay.body (F:=ZY) aF (lit:=false) rfl rfl (Nat.le_of_ble_eq_true rfl) ?_
 conv=>whnf
 refine ak (aj (T:=bZ) rfl rfl (ah (hxv)) rfl) ?_
 conv=>whnf
 refine ak (aC (T:=dA) ([.i .i64 kd,.s nm,.b pt,L,.p0,.sl0,.sl0,.i .i64 ln]) rfl (hx) rfl rfl (Nat.le_of_ble_eq_true rfl) rfl) ?_
 conv=>whnf
 have h1:PW p w g all (σ.set xo (bP kd nm pt L .p0 .sl0 .sl0 ln)) m d .p0:=h.st hx _
 have cx:(σ.set xo (bP kd nm pt L .p0 .sl0 .sl0 ln))[xo]? =_:=at_set hx _
 have cxv:(σ.set xo (bP kd nm pt L .p0 .sl0 .sl0 ln))[xv]? =_:=aK hxv hne.2.2.2.1.symm _
 have cbp:(σ.set xo (bP kd nm pt L .p0 .sl0 .sl0 ln))[bp]? =_:=aK hbp hne.2.2.2.2.symm _
 have x1:cO p xo σ (σ.set xo (bP kd nm pt L .p0 .sl0 .sl0 ln)):=cO.b_ _ _ _ _
 have l1:(σ.set xo (bP kd nm pt L .p0 .sl0 .sl0 ln)).length=σ.length:=List.length_set
 refine ak (aj (T:=bZ) rfl rfl (ah (cxv)) rfl) ?_
 conv=>whnf
 refine ak (aj (T:=bD) rfl rfl (ah (cbp)) rfl) ?_
 conv=>whnf
 refine ih.expr d 1 _ m _ h1 hd (by omega) he (by omega) ?_
 generalize dO n d 1 (all.drop m)=r1 at hg hQ
 cases r1 with
 | out=>exact hg.elim
 | bad c l=>
   intro o g' s y k
   have ex:=y.get hne.1 cx
   conv=>whnf
   refine⟨?_,?_⟩
   ·conv=>whnf
    refine ak (aj (T:=bZ) rfl rfl (ah (y.get hne.2.1 cxv)) rfl) ?_
    rfl
   conv=>whnf
   refine ak (aC (T:=bC) ([.i .i64 kd,.s nm,.b pt,L,.p o g' 0,.sl0,.sl0,.i .i64 ln]) rfl (ex) rfl rfl (Nat.le_of_ble_eq_true rfl) rfl) ?_
   conv=>whnf
   have k2:=k.st ex (bP kd nm pt L (.p o g' 0) .sl0 .sl0 ln)
   refine ak (aj (T:=bD) rfl rfl (ah (aK (y.get hne.2.2.1 cbp) hne.2.2.2.2.symm _)) rfl) ?_
   conv=>whnf
   refine ay.to (ku [59] k2) ?_
   conv=>whnf
   refine ak (aj (T:=bZ) rfl rfl (ah (aK (y.get hne.2.1 cxv) hne.2.2.2.1.symm _)) rfl) ?_
   conv=>whnf
   exact Fin.ref rfl (hQ _ ((x1.same y).trans (cO.b_ _ _ _ _)) k2)
 | ok z bJ=>
   intro o g' s m2 y k hm2 rO
   have he2:aU (all.drop m2):=by rw [hm2];exact hg.2.1
   obtain⟨t2,r2,fD⟩:=he2.ne
   obtain⟨ht2,hr2⟩:=aW fD
   have hQ:PEn p w g all xo kd nm pt L ln σ d Q ((aP [59] bJ).bind fun _ ts=>.ok z ts):=hQ
   rw [←hm2,fD] at hQ
   have ex:=y.get hne.1 cx
   conv=>whnf
   refine⟨?_,?_⟩
   ·conv=>whnf
    refine ak (aj (T:=bZ) rfl rfl (ah (y.get hne.2.1 cxv)) rfl) ?_
    rfl
   conv=>whnf
   refine ak (aC (T:=bC) ([.i .i64 kd,.s nm,.b pt,L,.p o g' 0,.sl0,.sl0,.i .i64 ln]) rfl (ex) rfl rfl (Nat.le_of_ble_eq_true rfl) rfl) ?_
   conv=>whnf
   have k2:=k.st ex (bP kd nm pt L (.p o g' 0) .sl0 .sl0 ln)
   have fx:(s.set xo (bP kd nm pt L (.p o g' 0) .sl0 .sl0 ln))[xo]? =_:=at_set ex _
   have xx:=(x1.same y).trans (cO.b_ p xo s (bP kd nm pt L (.p o g' 0) .sl0 .sl0 ln))
   have hxv2:(s.set xo (bP kd nm pt L (.p o g' 0) .sl0 .sl0 ln))[xv]? =_:=aK (y.get hne.2.1 cxv) hne.2.2.2.1.symm _
   refine ak (aj (T:=bD) rfl rfl (ah (aK (y.get hne.2.2.1 cbp) hne.2.2.2.2.symm _)) rfl) ?_
   conv=>whnf
   refine j_ [59] k2 ht2 (fun hi=>(aN he2 fD hi).1) (fun hi s3 y3 k3=>?_) (fun hi s3 y3 k3=>?_)
   ·rw [aP,if_pos (show aY [59] (t2 :: r2)=true from hi)] at hQ
    conv=>whnf
    refine ak (aj (T:=bZ) rfl rfl (ah (y3.get hne.2.1 hxv2)) rfl) ?_
    conv=>whnf
    refine Fin.ref rfl (hQ _ _ _ (xx.same y3) k3 hr2 (y3.get hne.1 fx) ?_)
    exact bK.mono (fun i hi=>by rw [List.length_set] at hi;exact hi) (fun i hi a ha=>y3.get (by have:=aX h.obj;rw [List.length_set] at hi;omega) (aK ha (by rw [List.length_set] at hi;omega) _)) rO
   ·rw [aP,if_neg (show ¬aY [59] (t2 :: r2)=true by rw [show aY [59] (t2 :: r2)=dH [59] t2 from rfl,hi];decide)] at hQ
    conv=>whnf
    refine ak (aj (T:=bZ) rfl rfl (ah (y3.get hne.2.1 hxv2)) rfl) ?_
    conv=>whnf
    exact Fin.ref rfl (hQ _ (xx.same y3) k3)
theorem Vd (V4:WP p w g all n)(ih:WQ p w g all n)(d line:Nat)(σ:St)(m:Nat)(Q:AV→St→Prop)(h:PW p w g all σ m d .p0)(hd:d≤64)(he:aU (all.drop m))(hn:10*(all.drop m).length+12≤n+1)(hQ:nC p w g all σ d Q (dQ (n+1) d line (all.drop m))):ay X 131 [.p p 0 0,.i .i64 line] σ Q:=by
 have hpl:=aX h.obj
 unfold dQ at hQ
 have hg:=(jr n).expr d 1 (all.drop m) he (by omega)
 refine ay.body (F:=Z4) aF (lit:=false) rfl rfl (Nat.le_of_ble_eq_true rfl) ?_
 conv=>whnf
 have b1:(au 114 (AV.ag [.i .i64 4,.s [],.b false,.p0,.p0,.sl0,.sl0,.i .i64 line]).cells σ)[σ.length]? =some ⟨0,false,.cells 114 [.i .i64 4,.s [],.b false,.p0,.p0,.sl0,.sl0,.i .i64 line]⟩:=aG _ _ _
 have x1:Ext σ (au 114 (AV.ag [.i .i64 4,.s [],.b false,.p0,.p0,.sl0,.sl0,.i .i64 line]).cells σ):=(Ext.refl σ).new _ _
 have l1:(au 114 (AV.ag [.i .i64 4,.s [],.b false,.p0,.p0,.sl0,.sl0,.i .i64 line]).cells σ).length=σ.length+1:=aH _ _ _
 generalize au 114 (AV.ag [.i .i64 4,.s [],.b false,.p0,.p0,.sl0,.sl0,.i .i64 line]).cells σ=σ1 at b1 x1 l1 ⊢
 have h1:=h.ext x1
 have b1:σ1[σ.length]? =some (bP 4 [] false .p0 .p0 .sl0 .sl0 line):=b1
 have xx:aI p σ σ1:=aI.of x1
 refine V4.expr d 1 σ1 m _ h1 hd (by omega) he (by omega) ?_
 generalize dO n d 1 (all.drop m)=r1 at hg hQ
 cases r1 with
 | out=>exact hg.elim
 | bad c l=>
   have hQ:nC p w g all σ d Q (.bad c l):=hQ
   intro o g' s y k
   have ex:=y.get (by omega) b1
   have ly:=y.len
   conv=>whnf
   refine ak (aC (T:=bC) ([.i .i64 4,.s [],.b false,.p0,.p o g' 0,.sl0,.sl0,.i .i64 line]) rfl (ex) rfl rfl (Nat.le_of_ble_eq_true rfl) rfl) ?_
   conv=>whnf
   have k2:=k.st ex (bP 4 [] false .p0 (.p o g' 0) .sl0 .sl0 line)
   have fx:(s.set σ.length (bP 4 [] false .p0 (.p o g' 0) .sl0 .sl0 line))[σ.length]? =_:=at_set ex _
   have y2:aI p σ (s.set σ.length (bP 4 [] false .p0 (.p o g' 0) .sl0 .sl0 line)):=(xx.trans y).bT (cO.b_ _ _ _ _) (Nat.le_refl _)
   refine yY k2 (by have:=h.dp;omega) fun s3 y3 k3=>?_
   have IY:=y3.get (by omega) fx
   conv=>whnf
   refine ak (aC (T:=dM) ([.i .i64 4,.s [],.b false,.p0,.p o g' 0,.sl0,.sl0,.i .i64 line]) rfl (IY) rfl rfl (Nat.le_of_ble_eq_true rfl) rfl) ?_
   conv=>whnf
   have k4:=k3.st IY (bP 4 [] false .p0 (.p o g' 0) .sl0 .sl0 line)
   refine ay.to (mX [101,108,115,101] k4) ?_
   conv=>whnf
   exact Fin.ref rfl (hQ _ _ _ ((y2.trans y3).bT (cO.b_ _ _ _ _) (Nat.le_refl _)) k4)
 | ok z bJ=>
   intro o g' s m2 y k hm2 rO
   have hQ:nC p w g all σ d Q ((dI n d bJ).bind fun th ts=>
    if aY qj ts=true then
        if aY IG ts.tail=true then(dQ n d (jR ts.tail) ts.tail.tail).bind fun b ts=>.ok (.st 4 [] false .nil z th (.cons b .nil) line) ts
        else(dI n d ts.tail).bind fun el ts=>.ok (.st 4 [] false .nil z th el line) ts
    else .ok (.st 4 [] false .nil z th .nil line) ts):=hQ
   have ex:=y.get (by omega) b1
   have ly:=y.len
   have lx:=xx.len
   conv=>whnf
   refine ak (aC (T:=bC) ([.i .i64 4,.s [],.b false,.p0,.p o g' 0,.sl0,.sl0,.i .i64 line]) rfl (ex) rfl rfl (Nat.le_of_ble_eq_true rfl) rfl) ?_
   conv=>whnf
   have k2:=k.st ex (bP 4 [] false .p0 (.p o g' 0) .sl0 .sl0 line)
   have fx:(s.set σ.length (bP 4 [] false .p0 (.p o g' 0) .sl0 .sl0 line))[σ.length]? =_:=at_set ex _
   have y2:aI p σ (s.set σ.length (bP 4 [] false .p0 (.p o g' 0) .sl0 .sl0 line)):=(xx.trans y).bT (cO.b_ _ _ _ _) (Nat.le_refl _)
   have hez2:bK (fun i=>σ.length<i) (s.set σ.length (bP 4 [] false .p0 (.p o g' 0) .sl0 .sl0 line)) (.p o g' 0) z:=bK.mono (fun i hi=>by omega) (fun i hi a ha=>aK ha (by omega) _) rO
   have l2:(s.set σ.length (bP 4 [] false .p0 (.p o g' 0) .sl0 .sl0 line)).length=s.length:=List.length_set
   rw [←hm2] at hQ hg
   have lg:=hg.2.2
   have hgb:=(ny n).block d (all.drop m2) hg.2.1 (by omega)
   refine ih.block d _ m2 _ k2 hd hg.2.1 (by omega) ?_
   generalize dI n d (all.drop m2)=r2 at hgb hQ
   cases r2 with
   | out=>exact hgb.elim
   | bad c l=>
     have hQ:nC p w g all σ d Q (.bad c l):=hQ
     intro A s3 y3 k3 hA
     have IY:=y3.get (by omega) fx
     refine bU _ _ ?_
     conv=>whnf
     refine ak (dP (T:=dM) [.i .i64 4,.s [],.b false,.p0,.p o g' 0,A,.sl0,.i .i64 line] hA rfl rfl IY (Nat.le_of_ble_eq_true rfl) rfl) ?_
     have k4:=k3.st IY (bP 4 [] false .p0 (.p o g' 0) A .sl0 line)
     conv=>whnf
     refine ay.to (mX [101,108,115,101] k4) ?_
     conv=>whnf
     exact Fin.ref rfl (hQ _ _ _ ((y2.trans y3).bT (cO.b_ _ _ _ _) (Nat.le_refl _)) k4)
   | ok th fU=>
     intro A s3 m3 y3 k3 KU hth hA
     have hQ:nC p w g all σ d Q (
        if aY qj fU=true then
         if aY IG fU.tail=true then(dQ n d (jR fU.tail) fU.tail.tail).bind fun b ts=>.ok (.st 4 [] false .nil z th (.cons b .nil) line) ts
         else(dI n d fU.tail).bind fun el ts=>.ok (.st 4 [] false .nil z th el line) ts
        else .ok (.st 4 [] false .nil z th .nil line) fU):=hQ
     have IY:=y3.get (by omega) fx
     have l3:s.length≤s3.length:=by have:=y3.len;rw [List.length_set] at this;exact this
     have he3:aU (all.drop m3):=by rw [KU];exact hgb.2.1
     obtain⟨t3,r3,jL⟩:=he3.ne
     obtain⟨ht3,hr3⟩:=aW jL
     have hlen3:(all.drop m3).length=r3.length+1:=by rw [jL];rfl
     have lgb:=hgb.2.2
     rw [←KU] at lgb
     rw [←KU,jL] at hQ
     have hQ:nC p w g all σ d Q (
        if aY qj (t3 :: r3)=true then
         if aY IG r3=true then(dQ n d (jR r3) r3.tail).bind fun b ts=>.ok (.st 4 [] false .nil z th (.cons b .nil) line) ts
         else(dI n d r3).bind fun el ts=>.ok (.st 4 [] false .nil z th el line) ts
        else .ok (.st 4 [] false .nil z th .nil line) (t3 :: r3)):=hQ
     refine bU _ _ ?_
     conv=>whnf
     refine ak (dP (T:=dM) [.i .i64 4,.s [],.b false,.p0,.p o g' 0,A,.sl0,.i .i64 line] hA rfl rfl IY (Nat.le_of_ble_eq_true rfl) rfl) ?_
     have k4:=k3.st IY (bP 4 [] false .p0 (.p o g' 0) A .sl0 line)
     have Rh:(s3.set σ.length (bP 4 [] false .p0 (.p o g' 0) A .sl0 line))[σ.length]? =_:=at_set IY _
     have y4:aI p σ (s3.set σ.length (bP 4 [] false .p0 (.p o g' 0) A .sl0 line)):=(y2.trans y3).bT (cO.b_ _ _ _ _) (Nat.le_refl _)
     have hez4:bK (fun i=>σ.length<i) (s3.set σ.length (bP 4 [] false .p0 (.p o g' 0) A .sl0 line)) (.p o g' 0) z:=bK.mono (fun i hi=>hi) (fun i hi a ha=>aK (y3.get (by omega) ha) (by omega) _) hez2
     have hth4:dN (fun i=>σ.length<i) (s3.set σ.length (bP 4 [] false .p0 (.p o g' 0) A .sl0 line)) A th:=dN.mono (fun i hi=>by rw [List.length_set] at hi;omega) (fun i hi a ha=>aK ha (by rw [List.length_set] at hi;omega) _) hth
     have l4:(s3.set σ.length (bP 4 [] false .p0 (.p o g' 0) A .sl0 line)).length=s3.length:=List.length_set
     have fin:∀(E:AV) (el:oO) (s5:St),aI p (s3.set σ.length (bP 4 [] false .p0 (.p o g' 0) A .sl0 line)) s5→dN (fun i=>σ.length<i) (s5.set σ.length (bP 4 [] false .p0 (.p o g' 0) A E line)) E el→jH (fun i=>σ.length≤i) (s5.set σ.length (bP 4 [] false .p0 (.p o g' 0) A E line)) (.p σ.length 0 0) (.st 4 [] false .nil z th el line):=by
        intro E el s5 y5 hE
        refine⟨σ.length,0,.p0,.p o g' 0,A,E,Nat.le_refl _,rfl,at_set (y5.get (by omega) Rh) _,rfl,?_,?_,?_⟩
        ·exact bK.mono (fun i hi=>by omega) (fun i hi a ha=>aK (y5.get (by omega) ha) (by omega) _) hez4
        ·exact dN.mono (fun i hi=>by omega) (fun i hi a ha=>aK (y5.get (by omega) ha) (by omega) _) hth4
        ·exact dN.mono (fun i hi=>by omega) (fun i hi a ha=>ha) hE
     conv=>whnf
     refine oG [101,108,115,101] k4 ht3 (fun hi=>(aN he3 jL hi).1) (fun hi s5 y5 k5=>?_) (fun hi=>?_)
     ·rw [if_pos (show aY qj (t3 :: r3)=true from hi)] at hQ
      obtain⟨hm4,he4,hle4⟩:=aN he3 jL hi
      obtain⟨t4,r4,oD⟩:=he4.ne
      obtain⟨IL,hr4⟩:=aW oD
      have hrr:r3=t4 :: r4:=by rw [←oD,hr3]
      have hlen4:(all.drop (m3+1)).length=r4.length+1:=by rw [oD];rfl
      have hlr:r3.length=r4.length+1:=by rw [hrr];rfl
      rw [hrr] at hQ
      have l5:s3.length≤s5.length:=by have:=y5.len;rw [List.length_set] at this;exact this
      conv=>whnf
      refine ay.to (jZ k5 IL) ?_
      conv=>whnf
      refine pq t4 fun s6 x6 EU l6=>?_
      have k6:=k5.ext x6
      have y6:=y5.trans (aI.of x6)
      conv=>whnf
      refine oG [105,102] k6 IL (fun hi=>(aN he4 oD hi).1) (fun hi2 s7 y7 k7=>?_) (fun hi2=>?_)
      ·rw [if_pos (show aY IG (t4 :: r4)=true from hi2)] at hQ
       have hQ:nC p w g all σ d Q ((dQ n d t4.l r4).bind fun b ts=>.ok (.st 4 [] false .nil z th (.cons b .nil) line) ts):=hQ
       obtain⟨Md,ER,hle5⟩:=aN he4 oD hi2
       have hlen5:(all.drop (m3+1+1)).length=r4.length:=by rw [hr4]
       have hg5:=(ny n).branch d t4.l (all.drop (m3+1+1)) ER (by omega)
       have l7:=y7.len
       rw [←hr4] at hQ
       conv=>whnf
       refine ak (aj (T:=dA) rfl rfl (ah (y7.get (by omega) EU)) rfl) ?_
       conv=>whnf
       refine ih.branch d t4.l s7 (m3+1+1) _ k7 hd ER (by omega) ?_
       generalize dQ n d t4.l (all.drop (m3+1+1))=r5 at hg5 hQ
       cases r5 with
       | out=>exact hg5.elim
       | bad c l=>
         have hQ:nC p w g all σ d Q (.bad c l):=hQ
         intro o8 g8 s8 y8 k8
         have Ar:=(y6.trans y7).trans y8
         conv=>whnf
         have b9:(au 102 [.p o8 g8 0] s8)[s8.length]? =some ⟨0,false,.cells 102 [.p o8 g8 0]⟩:=aG _ _ _
         have x9:Ext s8 (au 102 [.p o8 g8 0] s8):=(Ext.refl s8).new _ _
         have l9:(au 102 [.p o8 g8 0] s8).length=s8.length+1:=aH _ _ _
         generalize au 102 [.p o8 g8 0] s8=GU at b9 x9 l9 ⊢
         have Ez:=x9.get (Ar.get (by omega) Rh)
         have k9:=k8.ext x9
         refine ak (aC (T:=dM) ([.i .i64 4,.s [],.b false,.p0,.p o g' 0,A,.sl s8.length 0 0 1 1,.i .i64 line]) rfl (Ez) rfl rfl (Nat.le_of_ble_eq_true rfl) rfl) ?_
         conv=>whnf
         exact Fin.ref rfl (hQ _ _ _ ((y4.trans (Ar.trans (aI.of x9))).bT (cO.b_ _ _ _ _) (Nat.le_refl _)) (k9.st Ez _))
       | ok bs wu=>
         have hQ:nC p w g all σ d Q (.ok (.st 4 [] false .nil z th (.cons bs .nil) line) wu):=hQ
         intro o8 g8 s8 m8 y8 k8 O7 hbs
         have Ar:=(y6.trans y7).trans y8
         have l8:=y8.len
         conv=>whnf
         have b9:(au 102 [.p o8 g8 0] s8)[s8.length]? =some ⟨0,false,.cells 102 [.p o8 g8 0]⟩:=aG _ _ _
         have x9:Ext s8 (au 102 [.p o8 g8 0] s8):=(Ext.refl s8).new _ _
         have l9:(au 102 [.p o8 g8 0] s8).length=s8.length+1:=aH _ _ _
         generalize au 102 [.p o8 g8 0] s8=GU at b9 x9 l9 ⊢
         have Ez:=x9.get (Ar.get (by omega) Rh)
         have k9:=k8.ext x9
         refine ak (aC (T:=dM) ([.i .i64 4,.s [],.b false,.p0,.p o g' 0,A,.sl s8.length 0 0 1 1,.i .i64 line]) rfl (Ez) rfl rfl (Nat.le_of_ble_eq_true rfl) rfl) ?_
         conv=>whnf
         refine Fin.ref rfl (hQ _ _ _ _ ((y4.trans (Ar.trans (aI.of x9))).bT (cO.b_ _ _ _ _) (Nat.le_refl _)) (k9.st Ez _) O7 (fin _ _ GU (Ar.trans (aI.of x9)) ?_))
         refine⟨s8.length,0,[.p o8 g8 0],by omega,rfl,aK b9 (by omega) _,_,_,rfl,?_,rfl⟩
         exact jH.mono (fun i hi=>by omega) (fun i hi a ha=>aK (x9.get ha) (by omega) _) hbs
      ·rw [if_neg (by rw [show aY IG (t4 :: r4)=dH [105,102] t4 from rfl,hi2];decide),←oD] at hQ
       have hg5:=(ny n).block d (all.drop (m3+1)) he4 (by omega)
       conv=>whnf
       refine ih.block d s6 (m3+1) _ k6 hd he4 (by omega) ?_
       generalize dI n d (all.drop (m3+1))=r5 at hg5 hQ
       cases r5 with
       | out=>exact hg5.elim
       | bad c l=>
         have hQ:nC p w g all σ d Q (.bad c l):=hQ
         intro E s8 y8 k8 hE
         have Ar:=y6.trans y8
         have Ez:=Ar.get (by omega) Rh
         refine bU _ _ ?_
         conv=>whnf
         refine ak (dP (T:=dM) [.i .i64 4,.s [],.b false,.p0,.p o g' 0,A,E,.i .i64 line] hE rfl rfl Ez (Nat.le_of_ble_eq_true rfl) rfl) ?_
         conv=>whnf
         exact Fin.ref rfl (hQ _ _ _ ((y4.trans Ar).bT (cO.b_ _ _ _ _) (Nat.le_refl _)) (k8.st Ez _))
       | ok el wu=>
         have hQ:nC p w g all σ d Q (.ok (.st 4 [] false .nil z th el line) wu):=hQ
         intro E s8 m8 y8 k8 O7 hel hE
         have Ar:=y6.trans y8
         have Ez:=Ar.get (by omega) Rh
         refine bU _ _ ?_
         conv=>whnf
         refine ak (dP (T:=dM) [.i .i64 4,.s [],.b false,.p0,.p o g' 0,A,E,.i .i64 line] hE rfl rfl Ez (Nat.le_of_ble_eq_true rfl) rfl) ?_
         conv=>whnf
         refine Fin.ref rfl (hQ _ _ _ _ ((y4.trans Ar).bT (cO.b_ _ _ _ _) (Nat.le_refl _)) (k8.st Ez _) O7 (fin _ _ s8 Ar ?_))
         exact dN.mono (fun i hi=>by omega) (fun i hi a ha=>aK ha (by omega) _) hel
     ·rw [if_neg (by rw [show aY qj (t3 :: r3)=dH [101,108,115,101] t3 from rfl,hi];decide)] at hQ
      conv=>whnf
      refine Fin.ref rfl (hQ _ _ _ _ y4 k4 jL ?_)
      have:=fin .sl0 .nil _ (.refl _ _) rfl
      rw [List.set_set] at this
      exact this
end
end Go.bG.YtjcicgkencfbgaaGreatDoor
namespace Go.bG.YtjcicgkencfbgaaGreatDoor
open Go.Proofs
set_option maxRecDepth 4000
def Lh (all:List Tok):Prop:=∀z∈all,(z.k=4→z.s∈keys)∧(z.k=3→z.s∉keys)
section
variable {p w g:Nat} {all:List Tok} {n:Nat}
theorem nC.to {d:Nat} {σ σ1:St} {Q Q':AV→St→Prop} {r:Re Sm} (hQ:nC p w g all σ d Q r)(x1:aI p σ σ1)(k:∀o g' s,Q (.p o g' 0) s→Q' (.p o g' 0) s):nC p w g all σ1 d Q' r:=by
 cases r with
 | out=>trivial
 | bad c l=>exact fun o g' σ2 x2 h2=>k _ _ _ (hQ o g' σ2 (x1.trans x2) h2)
 | ok x ts=>exact fun o g' σ2 m2 x2 h2 hm hex=>k _ _ _ (hQ o g' σ2 m2 (x1.trans x2) h2 hm (jH.mono (fun i hi=>Nat.le_trans x1.len hi) (fun i hi a ha=>ha) hex))
theorem BA:∀(all:List Tok) (m:Nat),(dX all).drop (3*m)=dX (all.drop m)
 | all,0=>rfl
 | [],m+1=>by simp [dX]
 | x :: l,m+1=>by
   have e:dX (x :: l)=gI x.k x.s x.l ++ dX l:=rfl
   rw [e,show 3*(m+1)=3+3*m by omega,←List.drop_drop,List.drop_left' (by rfl)]
   exact BA l m
theorem Au {σ:St} {N w g m:Nat} {all:List Tok} {t:Tok} (hN:σ[N]? =some ⟨0,false,.cells 38 (gI t.k t.s t.l)⟩)(hw:σ[w]? =some ⟨g,false,.cells 38 (dX all)⟩)(hm:m<all.length)(hl:all.length≤40001) {Q:AV→St→Prop}
 (q:Q (.sl N 1 (3*0) ((t :: all.drop m).length - 0) 3) (σ.set N ⟨1,false,.cells 38 (dX (t :: all.drop m))⟩)):DX L_.get false 32 (.sl N 0 0 1 3) (.sl w g (3*m) (all.length - m) 3) σ Q:=by
 constructor
 refine ak (v:=oQ) rfl ?_
 refine ak (v:=fE) rfl ?_
 have e1:((dX all).drop (3*m)).take ((all.length - m)*3)=dX (all.drop m):=by
  rw [BA,List.take_of_length_le (by rw [lQ,List.length_drop];exact Nat.le_refl _)]
 refine ak (v:=(all.length - m,dX (all.drop m))) (by rw [←e1];exact kG hw (by rw [lQ];show 3*m+(all.length - m)*3≤_;omega)) ?_
 obtain⟨k,hk⟩:∃k,all.length - m=k+1:=⟨all.length - m - 1,by omega⟩
 have hd:(all.drop m).length=k+1:=by rw [List.length_drop];exact hk
 show bG.cB (Nat.beq (all.length - m) 0) _ (bG.cB ((dX (all.drop m)).all AV.one) _ False)
 rw [hk,Ah]
 refine ak (qc hN) ?_
 refine⟨rfl,Nat.le_of_ble_eq_true rfl,?_,rfl,?_⟩
 ·show (1+(k+1))*32≤140737488355328;omega
 ·have e2:(t :: all.drop m).length - 0=1+(k+1):=by rw [List.length_cons,hd];omega
  rw [e2] at q
  exact q
theorem Aw (n d:Nat)(t:Tok)(r:List Tok)(hk:t.k=4)(h1:t.s≠[40])(h2:t.s≠Fh)(h3:t.s≠Yk)(hn:2≤n):iV n d (t :: r)= .bad 4 t.l:=by
 obtain⟨n,rfl⟩:∃k,n=k+2:=⟨n - 2,by omega⟩
 have hW:∀s,aY s (t :: r)=(t.s == s):=fun s=>by show ((t.k == 4 || t.k == 3) && t.s == s)=_;rw [hk];rfl
 unfold iV iy
 simp only [hW,dU]
 rw [if_neg (by simpa using h1),if_neg (by simpa using h2),if_neg (by simpa using h3),if_neg (by rw [hk];decide),if_neg (by rw [hk];decide)]
 rfl
theorem nokey {t:Tok} (h:t.k=3→t.s∉keys)(s:List UInt8)(hs:s∈keys):(t.k == 3 && t.s == s)=false:=by
 by_cases h3:t.k=3
 ·have:t.s≠s:=fun e=>h h3 (e▸hs)
  rw [beq_eq_false_iff_ne.2 this,Bool.and_false]
 ·rw [beq_eq_false_iff_ne.2 h3];rfl
def Lj (p w g:Nat)(all:List Tok)(n:Nat):Prop:=∀(d kd k0 xo xv bp ln:Nat) (nm:List UInt8) (pt:Bool) (L:AV) (σ:St) (m:Nat) (Q:AV→St→Prop),PW p w g all σ m d .p0→d≤64→aU (all.drop m)→10*(all.drop m).length+10≤n→
 σ[xv]? =some ⟨0,false,.cells 102 [.p xo 0 0]⟩→σ[bp]? =some ⟨0,false,.cells 81 [.p p 0 0]⟩→σ[xo]? =some (bP k0 nm pt L .p0 .sl0 .sl0 ln)→(xo≠p∧xv≠p∧bp≠p∧xv≠xo∧bp≠xo)→PEn p w g all xo kd nm pt L ln σ d Q (bW n d (all.drop m))→ay X 129 [.i .i64 kd,.p xv 0 0,.p bp 0 0] σ Q
set_option maxHeartbeats 4000000 in
theorem stmt_p (hko:Lh all)(V4:WP p w g all n)(ih:WQ p w g all n)(V5:Lj p w g all n)(d:Nat)(σ:St)(m:Nat)(Q:AV→St→Prop)(h:PW p w g all σ m d .p0)(hd:d≤64)(he:aU (all.drop m))(hn:10*(all.drop m).length+14≤n+1)(hQ:nC p w g all σ d Q (kH (n+1) d (all.drop m))):ay X 110 [.p p 0 0] σ Q:=by
 obtain⟨t,r,hts⟩:=he.ne
 obtain⟨ht,hr⟩:=aW hts
 have hpl:=aX h.obj
 have hlr:(all.drop m).length=r.length+1:=by rw [hts];rfl
 unfold kH at hQ
 rw [hts] at hQ
 simp only at hQ
 refine ay.body (F:=ZT) aF (lit:=false) rfl rfl (Nat.le_of_ble_eq_true rfl) ?_
 conv=>whnf
 have b1:(au 81 (AV.p p 0 0).cells σ)[σ.length]? =some ⟨0,false,.cells 81 [.p p 0 0]⟩:=aG _ _ _
 have x1:Ext σ (au 81 (AV.p p 0 0).cells σ):=(Ext.refl σ).new _ _
 have l1:(au 81 (AV.p p 0 0).cells σ).length=σ.length+1:=aH _ _ _
 generalize au 81 (AV.p p 0 0).cells σ=σ1 at b1 x1 l1 ⊢
 have h1:=h.ext x1
 refine ak (aj (T:=bD) rfl rfl (ah (b1)) rfl) ?_
 conv=>whnf
 refine ay.to (jZ h1 ht) ?_
 conv=>whnf
 refine pq t fun σ2 x2 ht2 l2=>?_
 conv=>whnf
 refine ak (aj (T:=dA) rfl rfl (ah (ht2)) rfl) ?_
 conv=>whnf
 have b3:(au 114 (AV.ag [.i .i64 0,.s [],.b false,.p0,.p0,.sl0,.sl0,.i .i64 t.l]).cells σ2)[σ2.length]? =some ⟨0,false,.cells 114 [.i .i64 0,.s [],.b false,.p0,.p0,.sl0,.sl0,.i .i64 t.l]⟩:=aG _ _ _
 have x3:Ext σ2 (au 114 (AV.ag [.i .i64 0,.s [],.b false,.p0,.p0,.sl0,.sl0,.i .i64 t.l]).cells σ2):=(Ext.refl σ2).new _ _
 have l3:(au 114 (AV.ag [.i .i64 0,.s [],.b false,.p0,.p0,.sl0,.sl0,.i .i64 t.l]).cells σ2).length=σ2.length+1:=aH _ _ _
 generalize au 114 (AV.ag [.i .i64 0,.s [],.b false,.p0,.p0,.sl0,.sl0,.i .i64 t.l]).cells σ2=σ3 at b3 x3 l3 ⊢
 refine ak (aC (T:=bZ) ([.p σ2.length 0 0]) rfl (aG _ _ _) rfl rfl (Nat.le_of_ble_eq_true rfl) rfl) ?_
 have x4:Ext σ3 ((au 102 bZ.zero.cells σ3).set σ3.length ⟨0,false,.cells 102 [.p σ2.length 0 0]⟩):=((Ext.refl σ3).new _ _).set (Nat.le_refl _) _
 have b4:((au 102 bZ.zero.cells σ3).set σ3.length ⟨0,false,.cells 102 [.p σ2.length 0 0]⟩)[σ3.length]? =_:=at_set (aG _ _ _) _
 have l4:((au 102 bZ.zero.cells σ3).set σ3.length ⟨0,false,.cells 102 [.p σ2.length 0 0]⟩).length=σ3.length+1:=by rw [List.length_set,aH]
 generalize (au 102 bZ.zero.cells σ3).set σ3.length ⟨0,false,.cells 102 [.p σ2.length 0 0]⟩=eY at b4 x4 l4 ⊢
 conv=>whnf
 have x24:=x3.trans x4
 have h4:=(h1.ext x2).ext x24
 have c1:=x24.get (x2.get b1)
 have ct:=x24.get ht2
 have cx:eY[σ2.length]? =some (bP 0 [] false .p0 .p0 .sl0 .sl0 t.l):=x4.get b3
 have xx:aI p σ eY:=aI.of ((x1.trans x2).trans x24)
 refine ak (aj (T:=dA) rfl rfl (ah (ct)) rfl) ?_
 conv=>whnf
 have way:t.k≠4∨(t.k=4∧t.s=[110,101,119])∨(t.k=4∧t.s=[105,110])∨(t.k=4∧t.s≠[110,101,119]∧t.s≠[105,110]):=by
  by_cases h4:t.k=4
  ·by_cases h5:t.s=[110,101,119]
   ·exact .inr (.inl ⟨h4,h5⟩)
   ·by_cases h6:t.s=[105,110]
    ·exact .inr (.inr (.inl ⟨h4,h6⟩))
    ·exact .inr (.inr (.inr ⟨h4,h5,h6⟩))
  ·exact .inl h4
 rcases way with hk4 | ⟨hk4,hs⟩ | ⟨hk4,hs⟩ | ⟨hk4,hn1,hn2⟩
 case inr.inr.inr=>
  rw [decide_eq_true (by omega)]
  conv=>whnf
  refine ak (aj (T:=bD) rfl rfl (ah (c1)) rfl) ?_
  conv=>whnf
  refine ay.to (mJ h4) ?_
  conv=>whnf
  refine ak (aj (T:=eG) rfl rfl (ah (ct)) rfl) ?_
  conv=>whnf
  have he1:aU (all.drop (m+1)):=by rw [hr];rw [hts] at he;exact he.tail (by rw [hk4];decide)
  have hm1:=jv he1
  have hlen1:(all.drop (m+1)).length=r.length:=by rw [hr]
  have hmem:=(hko t (List.mem_of_getElem? ht)).1 hk4
  simp only [keys,List.mem_cons,List.mem_nil_iff,or_false,hn1,hn2] at hmem
  rcases hmem with hs | hs | hs | hs | hs | hs | hs | hs | hs | hs
  ·have hW:∀s,aY s (t :: r)=(t.s == s):=fun s=>by show ((t.k == 4 || t.k == 3) && t.s == s)=_;rw [hk4];rfl
   rw [if_neg (by rw [hW,hs];decide),if_neg (by rw [hW,hs];decide),if_neg (by rw [hW,hs];decide),if_neg (by rw [hW,hs];decide),if_neg (by rw [hW,hs];decide),if_neg (by rw [hW,hs];decide),if_neg (by rw [hW,hs];decide)] at hQ
   rw [show (t.s == [110,101,119])=false by rw [hs];rfl]
   conv=>whnf
   refine ak (aj (T:=eG) rfl rfl (ah (ct)) rfl) ?_
   conv=>whnf
   rw [show (t.s == [105,110])=false by rw [hs];rfl]
   conv=>whnf
   refine ak (aj (T:=bD) rfl rfl (ah (c1)) rfl) ?_
   conv=>whnf
   refine je h4 hm1 fun s5 y5 k5=>?_
   have c5:=y5.get (by omega) c1
   have EC:=y5.get (by omega) ct
   have zH:=y5.get (by omega) cx
   have uh:=y5.get (by omega) b4
   have wB:=xx.trans y5
   have l5:=y5.len
   conv=>whnf
   refine ak (aj (T:=eG) rfl rfl (ah (EC)) rfl) ?_
   conv=>whnf
   rw [show (t.s == [118,97,114])=false by rw [hs];rfl]
   conv=>whnf
   rw [show (t.s == [105,102])=false by rw [hs];rfl]
   conv=>whnf
   rw [show (t.s == [119,104,105,108,101])=false by rw [hs];rfl]
   conv=>whnf
   rw [show (t.s == [111,117,116])=false by rw [hs];rfl]
   conv=>whnf
   rw [show (t.s == [102,114,101,101])=false by rw [hs];rfl]
   conv=>whnf
   rw [show (t.s == [100,114,97,105,110])=false by rw [hs];rfl]
   conv=>whnf
   rw [show (t.s == [114,101,116,117,114,110])=false by rw [hs];rfl]
   conv=>whnf
   rw [Aw n d t r hk4 (by rw [hs];decide) (by rw [hs];decide) (by rw [hs];decide) (by omega)] at hQ
   have hQ:nC p w g all σ d Q (.bad 4 t.l):=hQ
   have hal:=h.len
   refine ak (aj (T:=bD) rfl rfl (ah (c5)) rfl) ?_
   conv=>whnf
   refine ak (bV (T:=fE) rfl rfl (ah (EC)) (Nat.le_of_ble_eq_true rfl)) ?_
   conv=>whnf
   refine ak (aj (T:=bD) rfl rfl (ah (c5)) rfl) ?_
   conv=>whnf
   refine ak (aj (T:=oQ) rfl rfl (ah (k5.obj)) rfl) ?_
   conv=>whnf
   have b6:(au 38 [.i .i64 t.k,.s t.s,.i .i64 t.l] s5)[s5.length]? =some ⟨0,false,.cells 38 [.i .i64 t.k,.s t.s,.i .i64 t.l]⟩:=aG _ _ _
   have x6:Ext s5 (au 38 [.i .i64 t.k,.s t.s,.i .i64 t.l] s5):=(Ext.refl s5).new _ _
   have l6:(au 38 [.i .i64 t.k,.s t.s,.i .i64 t.l] s5).length=s5.length+1:=aH _ _ _
   generalize au 38 [.i .i64 t.k,.s t.s,.i .i64 t.l] s5=iU at b6 x6 l6 ⊢
   have k6:=k5.ext x6
   have c6:=x6.get c5
   refine⟨?_,?_⟩
   ·conv=>whnf
    refine ak (aj (T:=bD) rfl rfl (ah (c6)) rfl) ?_
    rfl
   conv=>whnf
   refine⟨?_,?_⟩
   ·conv=>whnf
    refine ak (aj (T:=bD) rfl rfl (ah (c6)) rfl) ?_
    rfl
   conv=>whnf
   refine⟨?_,?_⟩
   ·conv=>whnf
    refine ak (aj (T:=oQ) rfl rfl (ah (k6.obj)) rfl) ?_
    rfl
   conv=>whnf
   have hwl:=aX k5.tok
   refine Au (t:=t) (m:=m+1) b6 k6.tok hm1 hal ?_
   conv=>whnf
   have c7:(iU.set s5.length ⟨1,false,.cells 38 (dX (t :: all.drop (m+1)))⟩)[σ.length]? =_:=aK c6 (by omega) _
   refine⟨?_,?_⟩
   ·conv=>whnf
    refine ak (aj (T:=bD) rfl rfl (ah (c7)) rfl) ?_
    rfl
   conv=>whnf
   have o7:(iU.set s5.length ⟨1,false,.cells 38 (dX (t :: all.drop (m+1)))⟩)[p]? =_:=aK k6.obj (by omega) _
   have t7:(iU.set s5.length ⟨1,false,.cells 38 (dX (t :: all.drop (m+1)))⟩)[s5.length]? =_:=at_set b6 _
   refine ak (aC (T:=oQ) (pK s5.length 1 (t :: all.drop (m+1)).length 0 d .p0) rfl (o7) rfl rfl (Nat.le_of_ble_eq_true rfl) rfl) ?_
   conv=>whnf
   have k8:PW p s5.length 1 (t :: all.drop (m+1)) ((iU.set s5.length ⟨1,false,.cells 38 (dX (t :: all.drop (m+1)))⟩).set p ⟨0,false,.cells 83 (pK s5.length 1 (t :: all.drop (m+1)).length 0 d .p0)⟩) 0 d .p0:=⟨at_set o7 _,aK t7 (by omega) _,by omega,by rw [List.length_cons,List.length_drop];omega,by rw [List.length_cons];omega,h.dp⟩
   refine ak (aj (T:=bD) rfl rfl (ah (aK c7 (by omega) _)) rfl) ?_
   conv=>whnf
   refine t_ 4 k8 (t:=t) rfl fun s9 y9 k9=>?_
   conv=>whnf
   refine ak (aj (T:=bZ) rfl rfl (ah (y9.get (by omega) (aK (aK (x6.get uh) (by omega) _) (by omega) _))) rfl) ?_
   conv=>whnf
   exact Fin.ref rfl (hQ _ _ _ ((((wB.trans (aI.of x6)).bT (cO.b_ _ _ _ _) (by omega)).trans ((aI.refl p _).xB _)).trans y9) k9)
  ·have hW:∀s,aY s (t :: r)=(t.s == s):=fun s=>by show ((t.k == 4 || t.k == 3) && t.s == s)=_;rw [hk4];rfl
   rw [if_pos (by rw [hW,hs];rfl)] at hQ
   rw [show (t.s == [110,101,119])=false by rw [hs];rfl]
   conv=>whnf
   refine ak (aj (T:=eG) rfl rfl (ah (ct)) rfl) ?_
   conv=>whnf
   rw [show (t.s == [105,110])=false by rw [hs];rfl]
   conv=>whnf
   refine ak (aj (T:=bD) rfl rfl (ah (c1)) rfl) ?_
   conv=>whnf
   refine je h4 hm1 fun s5 y5 k5=>?_
   have c5:=y5.get (by omega) c1
   have EC:=y5.get (by omega) ct
   have zH:=y5.get (by omega) cx
   have uh:=y5.get (by omega) b4
   have wB:=xx.trans y5
   have l5:=y5.len
   conv=>whnf
   refine ak (aj (T:=eG) rfl rfl (ah (EC)) rfl) ?_
   conv=>whnf
   rw [show (t.s == [118,97,114])=true by rw [hs];rfl]
   conv=>whnf
   obtain⟨t6,r6,gU⟩:=he1.ne
   obtain⟨EU,yZ⟩:=aW gU
   have hl6:(all.drop (m+1)).length=r6.length+1:=by rw [gU];rfl
   rw [←hr,gU] at hQ
   refine ak (aj (T:=bZ) rfl rfl (ah (uh)) rfl) ?_
   conv=>whnf
   refine ak (aj (T:=bZ) rfl rfl (ah (uh)) rfl) ?_
   conv=>whnf
   refine ak (aj (T:=bD) rfl rfl (ah (c5)) rfl) ?_
   conv=>whnf
   refine IQ k5 EU (fun hk1=>jv (by rw [yZ];rw [gU] at he1;exact he1.tail (by rw [hk1];decide))) (fun hk1 s6 y6 k6=>?_) (fun hk1 s6 y6 k6=>?_)
   ·simp only [dU,if_pos hk1] at hQ
    have he2:aU (all.drop (m+1+1)):=by rw [yZ];rw [gU] at he1;exact he1.tail (by rw [hk1];decide)
    obtain⟨t7,r7,kC⟩:=he2.ne
    obtain⟨QL,L9⟩:=aW kC
    have Ib:(all.drop (m+1+1)).length=r7.length+1:=by rw [kC];rfl
    have hl67:r6.length=r7.length+1:=by rw [←yZ,kC];rfl
    have hQ:nC p w g all σ d Q (
     if aY [61] (if aY fB r6=true then r6.tail else r6)=true then
             (bW n d (if aY fB r6=true then r6.tail else r6).tail).bind fun x ts=>.ok (.st 1 t6.s (aY fB r6) .nil x .nil .nil t.l) ts
     else(aP [59] (if aY fB r6=true then r6.tail else r6)).bind fun _ ts=>.ok (.st 1 t6.s (aY fB r6) .nil .nil .nil .nil t.l) ts):=hQ
    rw [←yZ,kC] at hQ
    have vT:=y6.get (by omega) zH
    have zf:=y6.get (by omega) uh
    have c6:=y6.get (by omega) c5
    conv=>whnf
    refine⟨?_,?_⟩
    ·conv=>whnf
     refine ak (aj (T:=bZ) rfl rfl (ah (zf)) rfl) ?_
     rfl
    conv=>whnf
    refine⟨?_,?_⟩
    ·conv=>whnf
     refine ak (aj (T:=bZ) rfl rfl (ah (zf)) rfl) ?_
     rfl
    conv=>whnf
    refine ak (aC (T:=dA) ([.i .i64 1,.s [],.b false,.p0,.p0,.sl0,.sl0,.i .i64 t.l]) rfl (vT) rfl rfl (Nat.le_of_ble_eq_true rfl) rfl) ?_
    conv=>whnf
    have k7:=k6.st vT (bP 1 [] false .p0 .p0 .sl0 .sl0 t.l)
    have wE:(s6.set σ2.length (bP 1 [] false .p0 .p0 .sl0 .sl0 t.l))[σ2.length]? =_:=at_set vT _
    have wG:(s6.set σ2.length (bP 1 [] false .p0 .p0 .sl0 .sl0 t.l))[σ3.length]? =_:=aK zf (by omega) _
    have c7:(s6.set σ2.length (bP 1 [] false .p0 .p0 .sl0 .sl0 t.l))[σ.length]? =_:=aK c6 (by omega) _
    refine⟨?_,?_⟩
    ·conv=>whnf
     refine ak (aj (T:=bZ) rfl rfl (ah (wG)) rfl) ?_
     rfl
    conv=>whnf
    refine ak (aC (T:=eG) ([.i .i64 1,.s t6.s,.b false,.p0,.p0,.sl0,.sl0,.i .i64 t.l]) rfl (wE) rfl rfl (Nat.le_of_ble_eq_true rfl) rfl) ?_
    conv=>whnf
    have k8:=k7.st wE (bP 1 t6.s false .p0 .p0 .sl0 .sl0 t.l)
    have mP:((s6.set σ2.length (bP 1 [] false .p0 .p0 .sl0 .sl0 t.l)).set σ2.length (bP 1 t6.s false .p0 .p0 .sl0 .sl0 t.l))[σ2.length]? =_:=at_set wE _
    have oJ:((s6.set σ2.length (bP 1 [] false .p0 .p0 .sl0 .sl0 t.l)).set σ2.length (bP 1 t6.s false .p0 .p0 .sl0 .sl0 t.l))[σ3.length]? =_:=aK wG (by omega) _
    have c8:((s6.set σ2.length (bP 1 [] false .p0 .p0 .sl0 .sl0 t.l)).set σ2.length (bP 1 t6.s false .p0 .p0 .sl0 .sl0 t.l))[σ.length]? =_:=aK c7 (by omega) _
    have NJ:aI p σ ((s6.set σ2.length (bP 1 [] false .p0 .p0 .sl0 .sl0 t.l)).set σ2.length (bP 1 t6.s false .p0 .p0 .sl0 .sl0 t.l)):=((wB.trans y6).bT (cO.b_ _ _ _ _) (by omega)).bT (cO.b_ _ _ _ _) (by omega)
    have ll8:((s6.set σ2.length (bP 1 [] false .p0 .p0 .sl0 .sl0 t.l)).set σ2.length (bP 1 t6.s false .p0 .p0 .sl0 .sl0 t.l)).length=s6.length:=by rw [List.length_set,List.length_set]
    refine ak (aj (T:=bZ) rfl rfl (ah (oJ)) rfl) ?_
    conv=>whnf
    refine ak (aj (T:=bD) rfl rfl (ah (c8)) rfl) ?_
    conv=>whnf
    refine oG [112,116,114] k8 QL (fun hi=>(aN he2 kC hi).1) (fun hi s9 y9 k9=>?_) (fun hi=>?_)
    ·have Ve:aY fB (t7 :: r7)=true:=hi
     have hQ:nC p w g all σ d Q (
      if aY [61] r7=true then
             (bW n d r7.tail).bind fun x ts=>.ok (.st 1 t6.s true .nil x .nil .nil t.l) ts
      else(aP [59] r7).bind fun _ ts=>.ok (.st 1 t6.s true .nil .nil .nil .nil t.l) ts):=by
      simp only [Ve,if_true] at hQ;exact hQ
     have hlr7:(all.drop (m+1+1+1)).length=r7.length:=by rw [L9]
     rw [←L9] at hQ
     have ED:=y9.get (by omega) mP
     have CG:=y9.get (by omega) oJ
     have c9:=y9.get (by omega) c8
     conv=>whnf
     refine⟨?_,?_⟩
     ·conv=>whnf
      refine ak (aj (T:=bZ) rfl rfl (ah (CG)) rfl) ?_
      rfl
     conv=>whnf
     refine ak (aC (T:=kY) ([.i .i64 1,.s t6.s,.b true,.p0,.p0,.sl0,.sl0,.i .i64 t.l]) rfl (ED) rfl rfl (Nat.le_of_ble_eq_true rfl) rfl) ?_
     conv=>whnf
     have kB:=(k9).st (ED) (bP 1 t6.s true .p0 .p0 .sl0 .sl0 t.l)
     have Vf:(List.set s9 σ2.length (bP 1 t6.s true .p0 .p0 .sl0 .sl0 t.l))[σ2.length]? =_:=at_set (ED) _
     have QM:(List.set s9 σ2.length (bP 1 t6.s true .p0 .p0 .sl0 .sl0 t.l))[σ3.length]? =_:=aK (CG) (by omega) _
     have cB:(List.set s9 σ2.length (bP 1 t6.s true .p0 .p0 .sl0 .sl0 t.l))[σ.length]? =_:=aK (c9) (by omega) _
     have BR:aI p σ (List.set s9 σ2.length (bP 1 t6.s true .p0 .p0 .sl0 .sl0 t.l)):=(NJ.trans y9).bT (cO.b_ _ _ _ _) (by omega)
     have hE:=(aN he2 kC hi).2.1
     obtain⟨t8,r8,qo⟩:=hE.ne
     obtain⟨Vg,V6⟩:=aW qo
     have hl8:(all.drop (m+1+1+1)).length=r8.length+1:=by rw [qo];rfl
     rw [qo] at hQ
     refine ak (aj (T:=bD) rfl rfl (ah (cB)) rfl) ?_
     conv=>whnf
     refine oG [61] kB Vg (fun hi=>(aN hE qo hi).1) (fun hi sA yA kA=>?_) (fun hi=>?_)
     ·rw [if_pos (show aY [61] (t8 :: r8)=true from hi)] at hQ
      have hQ:nC p w g all σ d Q ((bW n d r8).bind fun x ts=>.ok (.st 1 t6.s true .nil x .nil .nil t.l) ts):=hQ
      obtain⟨Zp,Ri,Vh⟩:=aN hE qo hi
      have hlA:(all.drop (m+1+1+1+1)).length=r8.length:=by rw [V6]
      rw [←V6] at hQ
      conv=>whnf
      refine V5 d 1 _ σ2.length σ3.length σ.length t.l t6.s true .p0 sA (m+1+1+1+1) _ kA hd Ri (by omega) (yA.get (by omega) (QM)) (yA.get (by omega) (cB)) (yA.get (by omega) (Vf)) ⟨by omega,by omega,by omega,by omega,by omega⟩ ?_
      generalize bW n d (all.drop (m+1+1+1+1))=rE at hQ
      cases rE with
      | out=>trivial
      | bad c l=>
        intro s9 y9 k9
        conv=>whnf
        exact Fin.ref rfl (hQ _ _ _ (((BR).trans yA).bT y9 (by omega)) k9)
      | ok z NK=>
        have hQ:nC p w g all σ d Q (.ok (.st 1 t6.s true .nil z .nil .nil t.l) NK):=hQ
        intro R s9 m9 y9 k9 BD NM NP
        conv=>whnf
        have lX:=((BR).trans yA).len
        refine Fin.ref rfl (hQ _ _ _ _ (((BR).trans yA).bT y9 (by omega)) k9 BD ⟨σ2.length,0,.p0,R,.sl0,.sl0,by omega,rfl,NM,rfl,?_,rfl,rfl⟩)
        exact bK.mono (fun i hi=>by first | omega | (rw [List.length_set] at hi;omega)) (fun i hi a ha=>ha) NP
     ·rw [if_neg (by rw [show aY [61] (t8 :: r8)=dH [61] t8 from rfl,hi];decide)] at hQ
      conv=>whnf
      refine ak (aj (T:=bD) rfl rfl (ah (cB)) rfl) ?_
      conv=>whnf
      refine j_ [59] kB Vg (fun hi=>(aN hE qo hi).1) (fun hi sA yA kA=>?_) (fun hi sA yA kA=>?_)
      ·rw [aP,if_pos (show aY [59] (t8 :: r8)=true from hi)] at hQ
       conv=>whnf
       refine ak (aj (T:=bZ) rfl rfl (ah (yA.get (by omega) (QM))) rfl) ?_
       conv=>whnf
       have lX:=(BR).len
       exact Fin.ref rfl (hQ _ _ _ _ ((BR).trans yA) kA V6 ⟨σ2.length,0,.p0,.p0,.sl0,.sl0,by omega,rfl,yA.get (by omega) (Vf),rfl,rfl,rfl,rfl⟩)
      ·rw [aP,if_neg (show ¬aY [59] (t8 :: r8)=true by rw [show aY [59] (t8 :: r8)=dH [59] t8 from rfl,hi];decide)] at hQ
       conv=>whnf
       refine ak (aj (T:=bZ) rfl rfl (ah (yA.get (by omega) (QM))) rfl) ?_
       conv=>whnf
       exact Fin.ref rfl (hQ _ _ _ ((BR).trans yA) kA)
    ·have Ve:aY fB (t7 :: r7)=false:=hi
     have hQ:nC p w g all σ d Q (
      if aY [61] (t7 :: r7)=true then
             (bW n d (t7 :: r7).tail).bind fun x ts=>.ok (.st 1 t6.s false .nil x .nil .nil t.l) ts
      else(aP [59] (t7 :: r7)).bind fun _ ts=>.ok (.st 1 t6.s false .nil .nil .nil .nil t.l) ts):=by
      simp only [Ve,if_neg Bool.false_ne_true] at hQ;exact hQ
     rw [←kC] at hQ
     conv=>whnf
     refine⟨?_,?_⟩
     ·conv=>whnf
      refine ak (aj (T:=bZ) rfl rfl (ah (oJ)) rfl) ?_
      rfl
     conv=>whnf
     refine ak (aC (T:=kY) ([.i .i64 1,.s t6.s,.b false,.p0,.p0,.sl0,.sl0,.i .i64 t.l]) rfl (mP) rfl rfl (Nat.le_of_ble_eq_true rfl) rfl) ?_
     conv=>whnf
     have kB:=(k8).st (mP) (bP 1 t6.s false .p0 .p0 .sl0 .sl0 t.l)
     have Vf:(List.set ((s6.set σ2.length (bP 1 [] false .p0 .p0 .sl0 .sl0 t.l)).set σ2.length (bP 1 t6.s false .p0 .p0 .sl0 .sl0 t.l)) σ2.length (bP 1 t6.s false .p0 .p0 .sl0 .sl0 t.l))[σ2.length]? =_:=at_set (mP) _
     have QM:(List.set ((s6.set σ2.length (bP 1 [] false .p0 .p0 .sl0 .sl0 t.l)).set σ2.length (bP 1 t6.s false .p0 .p0 .sl0 .sl0 t.l)) σ2.length (bP 1 t6.s false .p0 .p0 .sl0 .sl0 t.l))[σ3.length]? =_:=aK (oJ) (by omega) _
     have cB:(List.set ((s6.set σ2.length (bP 1 [] false .p0 .p0 .sl0 .sl0 t.l)).set σ2.length (bP 1 t6.s false .p0 .p0 .sl0 .sl0 t.l)) σ2.length (bP 1 t6.s false .p0 .p0 .sl0 .sl0 t.l))[σ.length]? =_:=aK (c8) (by omega) _
     have BR:aI p σ (List.set ((s6.set σ2.length (bP 1 [] false .p0 .p0 .sl0 .sl0 t.l)).set σ2.length (bP 1 t6.s false .p0 .p0 .sl0 .sl0 t.l)) σ2.length (bP 1 t6.s false .p0 .p0 .sl0 .sl0 t.l)):=(NJ).bT (cO.b_ _ _ _ _) (by omega)
     have hE:=he2
     obtain⟨t8,r8,qo⟩:=hE.ne
     obtain⟨Vg,V6⟩:=aW qo
     have hl8:(all.drop (m+1+1)).length=r8.length+1:=by rw [qo];rfl
     rw [qo] at hQ
     refine ak (aj (T:=bD) rfl rfl (ah (cB)) rfl) ?_
     conv=>whnf
     refine oG [61] kB Vg (fun hi=>(aN hE qo hi).1) (fun hi sA yA kA=>?_) (fun hi=>?_)
     ·rw [if_pos (show aY [61] (t8 :: r8)=true from hi)] at hQ
      have hQ:nC p w g all σ d Q ((bW n d r8).bind fun x ts=>.ok (.st 1 t6.s false .nil x .nil .nil t.l) ts):=hQ
      obtain⟨Zp,Ri,Vh⟩:=aN hE qo hi
      have hlA:(all.drop (m+1+1+1)).length=r8.length:=by rw [V6]
      rw [←V6] at hQ
      conv=>whnf
      refine V5 d 1 _ σ2.length σ3.length σ.length t.l t6.s false .p0 sA (m+1+1+1) _ kA hd Ri (by omega) (yA.get (by omega) (QM)) (yA.get (by omega) (cB)) (yA.get (by omega) (Vf)) ⟨by omega,by omega,by omega,by omega,by omega⟩ ?_
      generalize bW n d (all.drop (m+1+1+1))=rE at hQ
      cases rE with
      | out=>trivial
      | bad c l=>
        intro s9 y9 k9
        conv=>whnf
        exact Fin.ref rfl (hQ _ _ _ (((BR).trans yA).bT y9 (by omega)) k9)
      | ok z NK=>
        have hQ:nC p w g all σ d Q (.ok (.st 1 t6.s false .nil z .nil .nil t.l) NK):=hQ
        intro R s9 m9 y9 k9 BD NM NP
        conv=>whnf
        have lX:=((BR).trans yA).len
        refine Fin.ref rfl (hQ _ _ _ _ (((BR).trans yA).bT y9 (by omega)) k9 BD ⟨σ2.length,0,.p0,R,.sl0,.sl0,by omega,rfl,NM,rfl,?_,rfl,rfl⟩)
        exact bK.mono (fun i hi=>by first | omega | (rw [List.length_set] at hi;omega)) (fun i hi a ha=>ha) NP
     ·rw [if_neg (by rw [show aY [61] (t8 :: r8)=dH [61] t8 from rfl,hi];decide)] at hQ
      conv=>whnf
      refine ak (aj (T:=bD) rfl rfl (ah (cB)) rfl) ?_
      conv=>whnf
      refine j_ [59] kB Vg (fun hi=>(aN hE qo hi).1) (fun hi sA yA kA=>?_) (fun hi sA yA kA=>?_)
      ·rw [aP,if_pos (show aY [59] (t8 :: r8)=true from hi)] at hQ
       conv=>whnf
       refine ak (aj (T:=bZ) rfl rfl (ah (yA.get (by omega) (QM))) rfl) ?_
       conv=>whnf
       have lX:=(BR).len
       exact Fin.ref rfl (hQ _ _ _ _ ((BR).trans yA) kA V6 ⟨σ2.length,0,.p0,.p0,.sl0,.sl0,by omega,rfl,yA.get (by omega) (Vf),rfl,rfl,rfl,rfl⟩)
      ·rw [aP,if_neg (show ¬aY [59] (t8 :: r8)=true by rw [show aY [59] (t8 :: r8)=dH [59] t8 from rfl,hi];decide)] at hQ
       conv=>whnf
       refine ak (aj (T:=bZ) rfl rfl (ah (yA.get (by omega) (QM))) rfl) ?_
       conv=>whnf
       exact Fin.ref rfl (hQ _ _ _ ((BR).trans yA) kA)
   ·simp only [dU,if_neg hk1] at hQ
    have hQ:nC p w g all σ d Q (.bad 4 t6.l):=hQ
    have vT:=y6.get (by omega) zH
    have zf:=y6.get (by omega) uh
    have c6:=y6.get (by omega) c5
    conv=>whnf
    refine⟨?_,?_⟩
    ·conv=>whnf
     refine ak (aj (T:=bZ) rfl rfl (ah (zf)) rfl) ?_
     rfl
    conv=>whnf
    refine⟨?_,?_⟩
    ·conv=>whnf
     refine ak (aj (T:=bZ) rfl rfl (ah (zf)) rfl) ?_
     rfl
    conv=>whnf
    refine ak (aC (T:=dA) ([.i .i64 1,.s [],.b false,.p0,.p0,.sl0,.sl0,.i .i64 t.l]) rfl (vT) rfl rfl (Nat.le_of_ble_eq_true rfl) rfl) ?_
    conv=>whnf
    have k7:=k6.st vT (bP 1 [] false .p0 .p0 .sl0 .sl0 t.l)
    have wE:(s6.set σ2.length (bP 1 [] false .p0 .p0 .sl0 .sl0 t.l))[σ2.length]? =_:=at_set vT _
    have wG:(s6.set σ2.length (bP 1 [] false .p0 .p0 .sl0 .sl0 t.l))[σ3.length]? =_:=aK zf (by omega) _
    have c7:(s6.set σ2.length (bP 1 [] false .p0 .p0 .sl0 .sl0 t.l))[σ.length]? =_:=aK c6 (by omega) _
    refine⟨?_,?_⟩
    ·conv=>whnf
     refine ak (aj (T:=bZ) rfl rfl (ah (wG)) rfl) ?_
     rfl
    conv=>whnf
    refine ak (aC (T:=eG) ([.i .i64 1,.s [],.b false,.p0,.p0,.sl0,.sl0,.i .i64 t.l]) rfl (wE) rfl rfl (Nat.le_of_ble_eq_true rfl) rfl) ?_
    conv=>whnf
    have k8:=k7.st wE (bP 1 [] false .p0 .p0 .sl0 .sl0 t.l)
    have mP:((s6.set σ2.length (bP 1 [] false .p0 .p0 .sl0 .sl0 t.l)).set σ2.length (bP 1 [] false .p0 .p0 .sl0 .sl0 t.l))[σ2.length]? =_:=at_set wE _
    have oJ:((s6.set σ2.length (bP 1 [] false .p0 .p0 .sl0 .sl0 t.l)).set σ2.length (bP 1 [] false .p0 .p0 .sl0 .sl0 t.l))[σ3.length]? =_:=aK wG (by omega) _
    have c8:((s6.set σ2.length (bP 1 [] false .p0 .p0 .sl0 .sl0 t.l)).set σ2.length (bP 1 [] false .p0 .p0 .sl0 .sl0 t.l))[σ.length]? =_:=aK c7 (by omega) _
    have NJ:aI p σ ((s6.set σ2.length (bP 1 [] false .p0 .p0 .sl0 .sl0 t.l)).set σ2.length (bP 1 [] false .p0 .p0 .sl0 .sl0 t.l)):=((wB.trans y6).bT (cO.b_ _ _ _ _) (by omega)).bT (cO.b_ _ _ _ _) (by omega)
    have ll8:((s6.set σ2.length (bP 1 [] false .p0 .p0 .sl0 .sl0 t.l)).set σ2.length (bP 1 [] false .p0 .p0 .sl0 .sl0 t.l)).length=s6.length:=by rw [List.length_set,List.length_set]
    refine ak (aj (T:=bZ) rfl rfl (ah (oJ)) rfl) ?_
    conv=>whnf
    refine ak (aj (T:=bD) rfl rfl (ah (c8)) rfl) ?_
    conv=>whnf
    refine ay.to (mX [112,116,114] k8) ?_
    conv=>whnf
    refine⟨?_,?_⟩
    ·conv=>whnf
     refine ak (aj (T:=bZ) rfl rfl (ah (oJ)) rfl) ?_
     rfl
    conv=>whnf
    refine ak (aC (T:=kY) ([.i .i64 1,.s [],.b false,.p0,.p0,.sl0,.sl0,.i .i64 t.l]) rfl (mP) rfl rfl (Nat.le_of_ble_eq_true rfl) rfl) ?_
    conv=>whnf
    have k9:=k8.st mP (bP 1 [] false .p0 .p0 .sl0 .sl0 t.l)
    refine ak (aj (T:=bD) rfl rfl (ah (aK c8 (by omega) _)) rfl) ?_
    conv=>whnf
    refine ay.to (mX [61] k9) ?_
    conv=>whnf
    refine ak (aj (T:=bD) rfl rfl (ah (aK c8 (by omega) _)) rfl) ?_
    conv=>whnf
    refine ay.to (ku [59] k9) ?_
    conv=>whnf
    refine ak (aj (T:=bZ) rfl rfl (ah (aK oJ (by omega) _)) rfl) ?_
    conv=>whnf
    exact Fin.ref rfl (hQ _ _ _ (NJ.bT (cO.b_ _ _ _ _) (by omega)) k9)
  ·have hW:∀s,aY s (t :: r)=(t.s == s):=fun s=>by show ((t.k == 4 || t.k == 3) && t.s == s)=_;rw [hk4];rfl
   rw [if_neg (by rw [hW,hs];decide),if_neg (by rw [hW,hs];decide),if_neg (by rw [hW,hs];decide),if_neg (by rw [hW,hs];decide),if_neg (by rw [hW,hs];decide),if_neg (by rw [hW,hs];decide),if_neg (by rw [hW,hs];decide)] at hQ
   rw [show (t.s == [110,101,119])=false by rw [hs];rfl]
   conv=>whnf
   refine ak (aj (T:=eG) rfl rfl (ah (ct)) rfl) ?_
   conv=>whnf
   rw [show (t.s == [105,110])=false by rw [hs];rfl]
   conv=>whnf
   refine ak (aj (T:=bD) rfl rfl (ah (c1)) rfl) ?_
   conv=>whnf
   refine je h4 hm1 fun s5 y5 k5=>?_
   have c5:=y5.get (by omega) c1
   have EC:=y5.get (by omega) ct
   have zH:=y5.get (by omega) cx
   have uh:=y5.get (by omega) b4
   have wB:=xx.trans y5
   have l5:=y5.len
   conv=>whnf
   refine ak (aj (T:=eG) rfl rfl (ah (EC)) rfl) ?_
   conv=>whnf
   rw [show (t.s == [118,97,114])=false by rw [hs];rfl]
   conv=>whnf
   rw [show (t.s == [105,102])=false by rw [hs];rfl]
   conv=>whnf
   rw [show (t.s == [119,104,105,108,101])=false by rw [hs];rfl]
   conv=>whnf
   rw [show (t.s == [111,117,116])=false by rw [hs];rfl]
   conv=>whnf
   rw [show (t.s == [102,114,101,101])=false by rw [hs];rfl]
   conv=>whnf
   rw [show (t.s == [100,114,97,105,110])=false by rw [hs];rfl]
   conv=>whnf
   rw [show (t.s == [114,101,116,117,114,110])=false by rw [hs];rfl]
   conv=>whnf
   rw [Aw n d t r hk4 (by rw [hs];decide) (by rw [hs];decide) (by rw [hs];decide) (by omega)] at hQ
   have hQ:nC p w g all σ d Q (.bad 4 t.l):=hQ
   have hal:=h.len
   refine ak (aj (T:=bD) rfl rfl (ah (c5)) rfl) ?_
   conv=>whnf
   refine ak (bV (T:=fE) rfl rfl (ah (EC)) (Nat.le_of_ble_eq_true rfl)) ?_
   conv=>whnf
   refine ak (aj (T:=bD) rfl rfl (ah (c5)) rfl) ?_
   conv=>whnf
   refine ak (aj (T:=oQ) rfl rfl (ah (k5.obj)) rfl) ?_
   conv=>whnf
   have b6:(au 38 [.i .i64 t.k,.s t.s,.i .i64 t.l] s5)[s5.length]? =some ⟨0,false,.cells 38 [.i .i64 t.k,.s t.s,.i .i64 t.l]⟩:=aG _ _ _
   have x6:Ext s5 (au 38 [.i .i64 t.k,.s t.s,.i .i64 t.l] s5):=(Ext.refl s5).new _ _
   have l6:(au 38 [.i .i64 t.k,.s t.s,.i .i64 t.l] s5).length=s5.length+1:=aH _ _ _
   generalize au 38 [.i .i64 t.k,.s t.s,.i .i64 t.l] s5=iU at b6 x6 l6 ⊢
   have k6:=k5.ext x6
   have c6:=x6.get c5
   refine⟨?_,?_⟩
   ·conv=>whnf
    refine ak (aj (T:=bD) rfl rfl (ah (c6)) rfl) ?_
    rfl
   conv=>whnf
   refine⟨?_,?_⟩
   ·conv=>whnf
    refine ak (aj (T:=bD) rfl rfl (ah (c6)) rfl) ?_
    rfl
   conv=>whnf
   refine⟨?_,?_⟩
   ·conv=>whnf
    refine ak (aj (T:=oQ) rfl rfl (ah (k6.obj)) rfl) ?_
    rfl
   conv=>whnf
   have hwl:=aX k5.tok
   refine Au (t:=t) (m:=m+1) b6 k6.tok hm1 hal ?_
   conv=>whnf
   have c7:(iU.set s5.length ⟨1,false,.cells 38 (dX (t :: all.drop (m+1)))⟩)[σ.length]? =_:=aK c6 (by omega) _
   refine⟨?_,?_⟩
   ·conv=>whnf
    refine ak (aj (T:=bD) rfl rfl (ah (c7)) rfl) ?_
    rfl
   conv=>whnf
   have o7:(iU.set s5.length ⟨1,false,.cells 38 (dX (t :: all.drop (m+1)))⟩)[p]? =_:=aK k6.obj (by omega) _
   have t7:(iU.set s5.length ⟨1,false,.cells 38 (dX (t :: all.drop (m+1)))⟩)[s5.length]? =_:=at_set b6 _
   refine ak (aC (T:=oQ) (pK s5.length 1 (t :: all.drop (m+1)).length 0 d .p0) rfl (o7) rfl rfl (Nat.le_of_ble_eq_true rfl) rfl) ?_
   conv=>whnf
   have k8:PW p s5.length 1 (t :: all.drop (m+1)) ((iU.set s5.length ⟨1,false,.cells 38 (dX (t :: all.drop (m+1)))⟩).set p ⟨0,false,.cells 83 (pK s5.length 1 (t :: all.drop (m+1)).length 0 d .p0)⟩) 0 d .p0:=⟨at_set o7 _,aK t7 (by omega) _,by omega,by rw [List.length_cons,List.length_drop];omega,by rw [List.length_cons];omega,h.dp⟩
   refine ak (aj (T:=bD) rfl rfl (ah (aK c7 (by omega) _)) rfl) ?_
   conv=>whnf
   refine t_ 4 k8 (t:=t) rfl fun s9 y9 k9=>?_
   conv=>whnf
   refine ak (aj (T:=bZ) rfl rfl (ah (y9.get (by omega) (aK (aK (x6.get uh) (by omega) _) (by omega) _))) rfl) ?_
   conv=>whnf
   exact Fin.ref rfl (hQ _ _ _ ((((wB.trans (aI.of x6)).bT (cO.b_ _ _ _ _) (by omega)).trans ((aI.refl p _).xB _)).trans y9) k9)
  ·have hW:∀s,aY s (t :: r)=(t.s == s):=fun s=>by show ((t.k == 4 || t.k == 3) && t.s == s)=_;rw [hk4];rfl
   rw [if_neg (by rw [hW,hs];decide),if_pos (by rw [hW,hs];rfl)] at hQ
   rw [show (t.s == [110,101,119])=false by rw [hs];rfl]
   conv=>whnf
   refine ak (aj (T:=eG) rfl rfl (ah (ct)) rfl) ?_
   conv=>whnf
   rw [show (t.s == [105,110])=false by rw [hs];rfl]
   conv=>whnf
   refine ak (aj (T:=bD) rfl rfl (ah (c1)) rfl) ?_
   conv=>whnf
   refine je h4 hm1 fun s5 y5 k5=>?_
   have c5:=y5.get (by omega) c1
   have EC:=y5.get (by omega) ct
   have zH:=y5.get (by omega) cx
   have uh:=y5.get (by omega) b4
   have wB:=xx.trans y5
   have l5:=y5.len
   conv=>whnf
   refine ak (aj (T:=eG) rfl rfl (ah (EC)) rfl) ?_
   conv=>whnf
   rw [show (t.s == [118,97,114])=false by rw [hs];rfl]
   conv=>whnf
   rw [show (t.s == [105,102])=true by rw [hs];rfl]
   conv=>whnf
   rw [←hr] at hQ
   refine ak (aj (T:=bD) rfl rfl (ah (c5)) rfl) ?_
   conv=>whnf
   refine ak (aj (T:=dA) rfl rfl (ah (EC)) rfl) ?_
   conv=>whnf
   refine ih.branch d t.l s5 (m+1) _ k5 hd he1 (by omega) (hQ.to wB fun o g' s q=>?_)
   conv=>whnf
   exact Fin.ref rfl q
  ·have hW:∀s,aY s (t :: r)=(t.s == s):=fun s=>by show ((t.k == 4 || t.k == 3) && t.s == s)=_;rw [hk4];rfl
   rw [if_neg (by rw [hW,hs];decide),if_neg (by rw [hW,hs];decide),if_neg (by rw [hW,hs];decide),if_neg (by rw [hW,hs];decide),if_neg (by rw [hW,hs];decide),if_neg (by rw [hW,hs];decide),if_neg (by rw [hW,hs];decide)] at hQ
   rw [show (t.s == [110,101,119])=false by rw [hs];rfl]
   conv=>whnf
   refine ak (aj (T:=eG) rfl rfl (ah (ct)) rfl) ?_
   conv=>whnf
   rw [show (t.s == [105,110])=false by rw [hs];rfl]
   conv=>whnf
   refine ak (aj (T:=bD) rfl rfl (ah (c1)) rfl) ?_
   conv=>whnf
   refine je h4 hm1 fun s5 y5 k5=>?_
   have c5:=y5.get (by omega) c1
   have EC:=y5.get (by omega) ct
   have zH:=y5.get (by omega) cx
   have uh:=y5.get (by omega) b4
   have wB:=xx.trans y5
   have l5:=y5.len
   conv=>whnf
   refine ak (aj (T:=eG) rfl rfl (ah (EC)) rfl) ?_
   conv=>whnf
   rw [show (t.s == [118,97,114])=false by rw [hs];rfl]
   conv=>whnf
   rw [show (t.s == [105,102])=false by rw [hs];rfl]
   conv=>whnf
   rw [show (t.s == [119,104,105,108,101])=false by rw [hs];rfl]
   conv=>whnf
   rw [show (t.s == [111,117,116])=false by rw [hs];rfl]
   conv=>whnf
   rw [show (t.s == [102,114,101,101])=false by rw [hs];rfl]
   conv=>whnf
   rw [show (t.s == [100,114,97,105,110])=false by rw [hs];rfl]
   conv=>whnf
   rw [show (t.s == [114,101,116,117,114,110])=false by rw [hs];rfl]
   conv=>whnf
   rw [Aw n d t r hk4 (by rw [hs];decide) (by rw [hs];decide) (by rw [hs];decide) (by omega)] at hQ
   have hQ:nC p w g all σ d Q (.bad 4 t.l):=hQ
   have hal:=h.len
   refine ak (aj (T:=bD) rfl rfl (ah (c5)) rfl) ?_
   conv=>whnf
   refine ak (bV (T:=fE) rfl rfl (ah (EC)) (Nat.le_of_ble_eq_true rfl)) ?_
   conv=>whnf
   refine ak (aj (T:=bD) rfl rfl (ah (c5)) rfl) ?_
   conv=>whnf
   refine ak (aj (T:=oQ) rfl rfl (ah (k5.obj)) rfl) ?_
   conv=>whnf
   have b6:(au 38 [.i .i64 t.k,.s t.s,.i .i64 t.l] s5)[s5.length]? =some ⟨0,false,.cells 38 [.i .i64 t.k,.s t.s,.i .i64 t.l]⟩:=aG _ _ _
   have x6:Ext s5 (au 38 [.i .i64 t.k,.s t.s,.i .i64 t.l] s5):=(Ext.refl s5).new _ _
   have l6:(au 38 [.i .i64 t.k,.s t.s,.i .i64 t.l] s5).length=s5.length+1:=aH _ _ _
   generalize au 38 [.i .i64 t.k,.s t.s,.i .i64 t.l] s5=iU at b6 x6 l6 ⊢
   have k6:=k5.ext x6
   have c6:=x6.get c5
   refine⟨?_,?_⟩
   ·conv=>whnf
    refine ak (aj (T:=bD) rfl rfl (ah (c6)) rfl) ?_
    rfl
   conv=>whnf
   refine⟨?_,?_⟩
   ·conv=>whnf
    refine ak (aj (T:=bD) rfl rfl (ah (c6)) rfl) ?_
    rfl
   conv=>whnf
   refine⟨?_,?_⟩
   ·conv=>whnf
    refine ak (aj (T:=oQ) rfl rfl (ah (k6.obj)) rfl) ?_
    rfl
   conv=>whnf
   have hwl:=aX k5.tok
   refine Au (t:=t) (m:=m+1) b6 k6.tok hm1 hal ?_
   conv=>whnf
   have c7:(iU.set s5.length ⟨1,false,.cells 38 (dX (t :: all.drop (m+1)))⟩)[σ.length]? =_:=aK c6 (by omega) _
   refine⟨?_,?_⟩
   ·conv=>whnf
    refine ak (aj (T:=bD) rfl rfl (ah (c7)) rfl) ?_
    rfl
   conv=>whnf
   have o7:(iU.set s5.length ⟨1,false,.cells 38 (dX (t :: all.drop (m+1)))⟩)[p]? =_:=aK k6.obj (by omega) _
   have t7:(iU.set s5.length ⟨1,false,.cells 38 (dX (t :: all.drop (m+1)))⟩)[s5.length]? =_:=at_set b6 _
   refine ak (aC (T:=oQ) (pK s5.length 1 (t :: all.drop (m+1)).length 0 d .p0) rfl (o7) rfl rfl (Nat.le_of_ble_eq_true rfl) rfl) ?_
   conv=>whnf
   have k8:PW p s5.length 1 (t :: all.drop (m+1)) ((iU.set s5.length ⟨1,false,.cells 38 (dX (t :: all.drop (m+1)))⟩).set p ⟨0,false,.cells 83 (pK s5.length 1 (t :: all.drop (m+1)).length 0 d .p0)⟩) 0 d .p0:=⟨at_set o7 _,aK t7 (by omega) _,by omega,by rw [List.length_cons,List.length_drop];omega,by rw [List.length_cons];omega,h.dp⟩
   refine ak (aj (T:=bD) rfl rfl (ah (aK c7 (by omega) _)) rfl) ?_
   conv=>whnf
   refine t_ 4 k8 (t:=t) rfl fun s9 y9 k9=>?_
   conv=>whnf
   refine ak (aj (T:=bZ) rfl rfl (ah (y9.get (by omega) (aK (aK (x6.get uh) (by omega) _) (by omega) _))) rfl) ?_
   conv=>whnf
   exact Fin.ref rfl (hQ _ _ _ ((((wB.trans (aI.of x6)).bT (cO.b_ _ _ _ _) (by omega)).trans ((aI.refl p _).xB _)).trans y9) k9)
  ·have hW:∀s,aY s (t :: r)=(t.s == s):=fun s=>by show ((t.k == 4 || t.k == 3) && t.s == s)=_;rw [hk4];rfl
   rw [if_neg (by rw [hW,hs];decide),if_neg (by rw [hW,hs];decide),if_pos (by rw [hW,hs];rfl)] at hQ
   rw [show (t.s == [110,101,119])=false by rw [hs];rfl]
   conv=>whnf
   refine ak (aj (T:=eG) rfl rfl (ah (ct)) rfl) ?_
   conv=>whnf
   rw [show (t.s == [105,110])=false by rw [hs];rfl]
   conv=>whnf
   refine ak (aj (T:=bD) rfl rfl (ah (c1)) rfl) ?_
   conv=>whnf
   refine je h4 hm1 fun s5 y5 k5=>?_
   have c5:=y5.get (by omega) c1
   have EC:=y5.get (by omega) ct
   have zH:=y5.get (by omega) cx
   have uh:=y5.get (by omega) b4
   have wB:=xx.trans y5
   have l5:=y5.len
   conv=>whnf
   refine ak (aj (T:=eG) rfl rfl (ah (EC)) rfl) ?_
   conv=>whnf
   rw [show (t.s == [118,97,114])=false by rw [hs];rfl]
   conv=>whnf
   rw [show (t.s == [105,102])=false by rw [hs];rfl]
   conv=>whnf
   rw [show (t.s == [119,104,105,108,101])=true by rw [hs];rfl]
   conv=>whnf
   rw [←hr] at hQ
   have hg:=(jr n).expr d 1 (all.drop (m+1)) he1 (by omega)
   refine ak (aj (T:=bZ) rfl rfl (ah (uh)) rfl) ?_
   conv=>whnf
   refine ak (aj (T:=bZ) rfl rfl (ah (uh)) rfl) ?_
   conv=>whnf
   refine ak (aj (T:=bD) rfl rfl (ah (c5)) rfl) ?_
   conv=>whnf
   refine V4.expr d 1 s5 (m+1) _ k5 hd (by omega) he1 (by omega) ?_
   generalize dO n d 1 (all.drop (m+1))=r1 at hg hQ
   cases r1 with
   | out=>exact hg.elim
   | bad c l=>
     have hQ:nC p w g all σ d Q (.bad c l):=hQ
     intro o g' s6 y6 k6
     have vT:=y6.get (by omega) zH
     have zf:=y6.get (by omega) uh
     have c6:=y6.get (by omega) c5
     conv=>whnf
     refine⟨?_,?_⟩
     ·conv=>whnf
      refine ak (aj (T:=bZ) rfl rfl (ah (zf)) rfl) ?_
      rfl
     conv=>whnf
     refine⟨?_,?_⟩
     ·conv=>whnf
      refine ak (aj (T:=bZ) rfl rfl (ah (zf)) rfl) ?_
      rfl
     conv=>whnf
     refine ak (aC (T:=dA) ([.i .i64 5,.s [],.b false,.p0,.p0,.sl0,.sl0,.i .i64 t.l]) rfl (vT) rfl rfl (Nat.le_of_ble_eq_true rfl) rfl) ?_
     conv=>whnf
     have k7:=k6.st vT (bP 5 [] false .p0 .p0 .sl0 .sl0 t.l)
     have wE:(s6.set σ2.length (bP 5 [] false .p0 .p0 .sl0 .sl0 t.l))[σ2.length]? =_:=at_set vT _
     have wG:(s6.set σ2.length (bP 5 [] false .p0 .p0 .sl0 .sl0 t.l))[σ3.length]? =_:=aK zf (by omega) _
     have c7:(s6.set σ2.length (bP 5 [] false .p0 .p0 .sl0 .sl0 t.l))[σ.length]? =_:=aK c6 (by omega) _
     refine⟨?_,?_⟩
     ·conv=>whnf
      refine ak (aj (T:=bZ) rfl rfl (ah (wG)) rfl) ?_
      rfl
     conv=>whnf
     refine ak (aC (T:=bC) ([.i .i64 5,.s [],.b false,.p0,.p o g' 0,.sl0,.sl0,.i .i64 t.l]) rfl (wE) rfl rfl (Nat.le_of_ble_eq_true rfl) rfl) ?_
     conv=>whnf
     have k8:=k7.st wE (bP 5 [] false .p0 (.p o g' 0) .sl0 .sl0 t.l)
     have mP:((s6.set σ2.length (bP 5 [] false .p0 .p0 .sl0 .sl0 t.l)).set σ2.length (bP 5 [] false .p0 (.p o g' 0) .sl0 .sl0 t.l))[σ2.length]? =_:=at_set wE _
     have oJ:((s6.set σ2.length (bP 5 [] false .p0 .p0 .sl0 .sl0 t.l)).set σ2.length (bP 5 [] false .p0 (.p o g' 0) .sl0 .sl0 t.l))[σ3.length]? =_:=aK wG (by omega) _
     have NJ:aI p σ ((s6.set σ2.length (bP 5 [] false .p0 .p0 .sl0 .sl0 t.l)).set σ2.length (bP 5 [] false .p0 (.p o g' 0) .sl0 .sl0 t.l)):=((wB.trans y6).bT (cO.b_ _ _ _ _) (by omega)).bT (cO.b_ _ _ _ _) (by omega)
     refine ak (aj (T:=bZ) rfl rfl (ah (oJ)) rfl) ?_
     conv=>whnf
     refine ak (aj (T:=bD) rfl rfl (ah (aK c7 (by omega) _)) rfl) ?_
     conv=>whnf
     refine yY k8 (by have:=h.dp;omega) fun s9 y9 k9=>?_
     conv=>whnf
     refine⟨?_,?_⟩
     ·conv=>whnf
      refine ak (aj (T:=bZ) rfl rfl (ah (y9.get (by omega) oJ)) rfl) ?_
      rfl
     conv=>whnf
     refine ak (aC (T:=dM) ([.i .i64 5,.s [],.b false,.p0,.p o g' 0,.sl0,.sl0,.i .i64 t.l]) rfl (y9.get (by omega) mP) rfl rfl (Nat.le_of_ble_eq_true rfl) rfl) ?_
     conv=>whnf
     have k10:=k9.st (y9.get (by omega) mP) (bP 5 [] false .p0 (.p o g' 0) .sl0 .sl0 t.l)
     refine ak (aj (T:=bZ) rfl rfl (ah (aK (y9.get (by omega) oJ) (by omega) _)) rfl) ?_
     conv=>whnf
     exact Fin.ref rfl (hQ _ _ _ ((NJ.trans y9).bT (cO.b_ _ _ _ _) (by omega)) k10)
   | ok z bJ=>
     have hQ:nC p w g all σ d Q ((dI n d bJ).bind fun th ts=>.ok (.st 5 [] false .nil z th .nil t.l) ts):=hQ
     intro o g' s6 m6 y6 k6 QN rO
     have vT:=y6.get (by omega) zH
     have zf:=y6.get (by omega) uh
     have c6:=y6.get (by omega) c5
     have l6:=y6.len
     rw [←QN] at hQ hg
     have lg:=hg.2.2
     have hgb:=(ny n).block d (all.drop m6) hg.2.1 (by omega)
     conv=>whnf
     refine⟨?_,?_⟩
     ·conv=>whnf
      refine ak (aj (T:=bZ) rfl rfl (ah (zf)) rfl) ?_
      rfl
     conv=>whnf
     refine⟨?_,?_⟩
     ·conv=>whnf
      refine ak (aj (T:=bZ) rfl rfl (ah (zf)) rfl) ?_
      rfl
     conv=>whnf
     refine ak (aC (T:=dA) ([.i .i64 5,.s [],.b false,.p0,.p0,.sl0,.sl0,.i .i64 t.l]) rfl (vT) rfl rfl (Nat.le_of_ble_eq_true rfl) rfl) ?_
     conv=>whnf
     have k7:=k6.st vT (bP 5 [] false .p0 .p0 .sl0 .sl0 t.l)
     have wE:(s6.set σ2.length (bP 5 [] false .p0 .p0 .sl0 .sl0 t.l))[σ2.length]? =_:=at_set vT _
     have wG:(s6.set σ2.length (bP 5 [] false .p0 .p0 .sl0 .sl0 t.l))[σ3.length]? =_:=aK zf (by omega) _
     have c7:(s6.set σ2.length (bP 5 [] false .p0 .p0 .sl0 .sl0 t.l))[σ.length]? =_:=aK c6 (by omega) _
     refine⟨?_,?_⟩
     ·conv=>whnf
      refine ak (aj (T:=bZ) rfl rfl (ah (wG)) rfl) ?_
      rfl
     conv=>whnf
     refine ak (aC (T:=bC) ([.i .i64 5,.s [],.b false,.p0,.p o g' 0,.sl0,.sl0,.i .i64 t.l]) rfl (wE) rfl rfl (Nat.le_of_ble_eq_true rfl) rfl) ?_
     conv=>whnf
     have k8:=k7.st wE (bP 5 [] false .p0 (.p o g' 0) .sl0 .sl0 t.l)
     have mP:((s6.set σ2.length (bP 5 [] false .p0 .p0 .sl0 .sl0 t.l)).set σ2.length (bP 5 [] false .p0 (.p o g' 0) .sl0 .sl0 t.l))[σ2.length]? =_:=at_set wE _
     have oJ:((s6.set σ2.length (bP 5 [] false .p0 .p0 .sl0 .sl0 t.l)).set σ2.length (bP 5 [] false .p0 (.p o g' 0) .sl0 .sl0 t.l))[σ3.length]? =_:=aK wG (by omega) _
     have NJ:aI p σ ((s6.set σ2.length (bP 5 [] false .p0 .p0 .sl0 .sl0 t.l)).set σ2.length (bP 5 [] false .p0 (.p o g' 0) .sl0 .sl0 t.l)):=((wB.trans y6).bT (cO.b_ _ _ _ _) (by omega)).bT (cO.b_ _ _ _ _) (by omega)
     refine ak (aj (T:=bZ) rfl rfl (ah (oJ)) rfl) ?_
     conv=>whnf
     refine ak (aj (T:=bD) rfl rfl (ah (aK c7 (by omega) _)) rfl) ?_
     conv=>whnf
     refine ih.block d _ m6 _ k8 hd hg.2.1 (by omega) ?_
     generalize dI n d (all.drop m6)=r2 at hgb hQ
     cases r2 with
     | out=>exact hgb.elim
     | bad c l=>
       have hQ:nC p w g all σ d Q (.bad c l):=hQ
       intro A s9 y9 k9 hA
       refine bU _ _ ?_
       conv=>whnf
       refine⟨?_,?_⟩
       ·conv=>whnf
        refine ak (aj (T:=bZ) rfl rfl (ah (y9.get (by omega) oJ)) rfl) ?_
        rfl
       conv=>whnf
       refine ak (dP (T:=dM) [.i .i64 5,.s [],.b false,.p0,.p o g' 0,A,.sl0,.i .i64 t.l] hA rfl rfl (y9.get (by omega) mP) (Nat.le_of_ble_eq_true rfl) rfl) ?_
       have k10:=k9.st (y9.get (by omega) mP) (bP 5 [] false .p0 (.p o g' 0) A .sl0 t.l)
       conv=>whnf
       refine ak (aj (T:=bZ) rfl rfl (ah (aK (y9.get (by omega) oJ) (by omega) _)) rfl) ?_
       conv=>whnf
       exact Fin.ref rfl (hQ _ _ _ ((NJ.trans y9).bT (cO.b_ _ _ _ _) (by omega)) k10)
     | ok th fU=>
       have hQ:nC p w g all σ d Q (.ok (.st 5 [] false .nil z th .nil t.l) fU):=hQ
       intro A s9 m9 y9 k9 BD hth hA
       have l9:s6.length≤s9.length:=by have:=y9.len;rw [List.length_set,List.length_set] at this;exact this
       refine bU _ _ ?_
       conv=>whnf
       refine⟨?_,?_⟩
       ·conv=>whnf
        refine ak (aj (T:=bZ) rfl rfl (ah (y9.get (by omega) oJ)) rfl) ?_
        rfl
       conv=>whnf
       refine ak (dP (T:=dM) [.i .i64 5,.s [],.b false,.p0,.p o g' 0,A,.sl0,.i .i64 t.l] hA rfl rfl (y9.get (by omega) mP) (Nat.le_of_ble_eq_true rfl) rfl) ?_
       have k10:=k9.st (y9.get (by omega) mP) (bP 5 [] false .p0 (.p o g' 0) A .sl0 t.l)
       conv=>whnf
       refine ak (aj (T:=bZ) rfl rfl (ah (aK (y9.get (by omega) oJ) (by omega) _)) rfl) ?_
       conv=>whnf
       refine Fin.ref rfl (hQ _ _ _ _ ((NJ.trans y9).bT (cO.b_ _ _ _ _) (by omega)) k10 BD ⟨σ2.length,0,.p0,.p o g' 0,A,.sl0,by omega,rfl,at_set (y9.get (by omega) mP) _,rfl,?_,?_,rfl⟩)
       ·exact bK.mono (fun i hi=>by omega) (fun i hi a ha=>aK (y9.get (by omega) (aK (aK ha (by omega) _) (by omega) _)) (by omega) _) rO
       ·exact dN.mono (fun i hi=>by rw [List.length_set,List.length_set] at hi;omega) (fun i hi a ha=>aK ha (by rw [List.length_set,List.length_set] at hi;omega) _) hth
  ·have hW:∀s,aY s (t :: r)=(t.s == s):=fun s=>by show ((t.k == 4 || t.k == 3) && t.s == s)=_;rw [hk4];rfl
   rw [if_neg (by rw [hW,hs];decide),if_neg (by rw [hW,hs];decide),if_neg (by rw [hW,hs];decide),if_pos (by rw [hW,hs];rfl)] at hQ
   rw [show (t.s == [110,101,119])=false by rw [hs];rfl]
   conv=>whnf
   refine ak (aj (T:=eG) rfl rfl (ah (ct)) rfl) ?_
   conv=>whnf
   rw [show (t.s == [105,110])=false by rw [hs];rfl]
   conv=>whnf
   refine ak (aj (T:=bD) rfl rfl (ah (c1)) rfl) ?_
   conv=>whnf
   refine je h4 hm1 fun s5 y5 k5=>?_
   have c5:=y5.get (by omega) c1
   have EC:=y5.get (by omega) ct
   have zH:=y5.get (by omega) cx
   have uh:=y5.get (by omega) b4
   have wB:=xx.trans y5
   have l5:=y5.len
   conv=>whnf
   refine ak (aj (T:=eG) rfl rfl (ah (EC)) rfl) ?_
   conv=>whnf
   rw [show (t.s == [118,97,114])=false by rw [hs];rfl]
   conv=>whnf
   rw [show (t.s == [105,102])=false by rw [hs];rfl]
   conv=>whnf
   rw [show (t.s == [119,104,105,108,101])=false by rw [hs];rfl]
   conv=>whnf
   rw [show (t.s == [111,117,116])=true by rw [hs];rfl]
   conv=>whnf
   rw [←hr] at hQ
   refine V5 d 6 _ σ2.length σ3.length σ.length t.l [] false .p0 s5 (m+1) _ k5 hd he1 (by omega) (uh) (c5) (zH) ⟨by omega,by omega,by omega,by omega,by omega⟩ ?_
   generalize bW n d (all.drop (m+1))=rE at hQ
   cases rE with
   | out=>trivial
   | bad c l=>
     intro s9 y9 k9
     conv=>whnf
     exact Fin.ref rfl (hQ _ _ _ ((wB).bT y9 (by omega)) k9)
   | ok z NK=>
     have hQ:nC p w g all σ d Q (.ok (.st 6 [] false .nil z .nil .nil t.l) NK):=hQ
     intro R s9 m9 y9 k9 BD NM NP
     conv=>whnf
     have lX:=(wB).len
     refine Fin.ref rfl (hQ _ _ _ _ ((wB).bT y9 (by omega)) k9 BD ⟨σ2.length,0,.p0,R,.sl0,.sl0,by omega,rfl,NM,rfl,?_,rfl,rfl⟩)
     exact bK.mono (fun i hi=>by first | omega | (rw [List.length_set] at hi;omega)) (fun i hi a ha=>ha) NP
  ·have hW:∀s,aY s (t :: r)=(t.s == s):=fun s=>by show ((t.k == 4 || t.k == 3) && t.s == s)=_;rw [hk4];rfl
   rw [if_neg (by rw [hW,hs];decide),if_neg (by rw [hW,hs];decide),if_neg (by rw [hW,hs];decide),if_neg (by rw [hW,hs];decide),if_pos (by rw [hW,hs];rfl)] at hQ
   rw [show (t.s == [110,101,119])=false by rw [hs];rfl]
   conv=>whnf
   refine ak (aj (T:=eG) rfl rfl (ah (ct)) rfl) ?_
   conv=>whnf
   rw [show (t.s == [105,110])=false by rw [hs];rfl]
   conv=>whnf
   refine ak (aj (T:=bD) rfl rfl (ah (c1)) rfl) ?_
   conv=>whnf
   refine je h4 hm1 fun s5 y5 k5=>?_
   have c5:=y5.get (by omega) c1
   have EC:=y5.get (by omega) ct
   have zH:=y5.get (by omega) cx
   have uh:=y5.get (by omega) b4
   have wB:=xx.trans y5
   have l5:=y5.len
   conv=>whnf
   refine ak (aj (T:=eG) rfl rfl (ah (EC)) rfl) ?_
   conv=>whnf
   rw [show (t.s == [118,97,114])=false by rw [hs];rfl]
   conv=>whnf
   rw [show (t.s == [105,102])=false by rw [hs];rfl]
   conv=>whnf
   rw [show (t.s == [119,104,105,108,101])=false by rw [hs];rfl]
   conv=>whnf
   rw [show (t.s == [111,117,116])=false by rw [hs];rfl]
   conv=>whnf
   rw [show (t.s == [102,114,101,101])=true by rw [hs];rfl]
   conv=>whnf
   rw [←hr] at hQ
   refine V5 d 7 _ σ2.length σ3.length σ.length t.l [] false .p0 s5 (m+1) _ k5 hd he1 (by omega) (uh) (c5) (zH) ⟨by omega,by omega,by omega,by omega,by omega⟩ ?_
   generalize bW n d (all.drop (m+1))=rE at hQ
   cases rE with
   | out=>trivial
   | bad c l=>
     intro s9 y9 k9
     conv=>whnf
     exact Fin.ref rfl (hQ _ _ _ ((wB).bT y9 (by omega)) k9)
   | ok z NK=>
     have hQ:nC p w g all σ d Q (.ok (.st 7 [] false .nil z .nil .nil t.l) NK):=hQ
     intro R s9 m9 y9 k9 BD NM NP
     conv=>whnf
     have lX:=(wB).len
     refine Fin.ref rfl (hQ _ _ _ _ ((wB).bT y9 (by omega)) k9 BD ⟨σ2.length,0,.p0,R,.sl0,.sl0,by omega,rfl,NM,rfl,?_,rfl,rfl⟩)
     exact bK.mono (fun i hi=>by first | omega | (rw [List.length_set] at hi;omega)) (fun i hi a ha=>ha) NP
  ·have hW:∀s,aY s (t :: r)=(t.s == s):=fun s=>by show ((t.k == 4 || t.k == 3) && t.s == s)=_;rw [hk4];rfl
   rw [if_neg (by rw [hW,hs];decide),if_neg (by rw [hW,hs];decide),if_neg (by rw [hW,hs];decide),if_neg (by rw [hW,hs];decide),if_neg (by rw [hW,hs];decide),if_pos (by rw [hW,hs];rfl)] at hQ
   rw [show (t.s == [110,101,119])=false by rw [hs];rfl]
   conv=>whnf
   refine ak (aj (T:=eG) rfl rfl (ah (ct)) rfl) ?_
   conv=>whnf
   rw [show (t.s == [105,110])=false by rw [hs];rfl]
   conv=>whnf
   refine ak (aj (T:=bD) rfl rfl (ah (c1)) rfl) ?_
   conv=>whnf
   refine je h4 hm1 fun s5 y5 k5=>?_
   have c5:=y5.get (by omega) c1
   have EC:=y5.get (by omega) ct
   have zH:=y5.get (by omega) cx
   have uh:=y5.get (by omega) b4
   have wB:=xx.trans y5
   have l5:=y5.len
   conv=>whnf
   refine ak (aj (T:=eG) rfl rfl (ah (EC)) rfl) ?_
   conv=>whnf
   rw [show (t.s == [118,97,114])=false by rw [hs];rfl]
   conv=>whnf
   rw [show (t.s == [105,102])=false by rw [hs];rfl]
   conv=>whnf
   rw [show (t.s == [119,104,105,108,101])=false by rw [hs];rfl]
   conv=>whnf
   rw [show (t.s == [111,117,116])=false by rw [hs];rfl]
   conv=>whnf
   rw [show (t.s == [102,114,101,101])=false by rw [hs];rfl]
   conv=>whnf
   rw [show (t.s == [100,114,97,105,110])=true by rw [hs];rfl]
   conv=>whnf
   obtain⟨t6,r6,gU⟩:=he1.ne
   obtain⟨EU,yZ⟩:=aW gU
   rw [←hr,gU] at hQ
   refine ak (aj (T:=bZ) rfl rfl (ah (uh)) rfl) ?_
   conv=>whnf
   refine ak (aC (T:=dA) ([.i .i64 8,.s [],.b false,.p0,.p0,.sl0,.sl0,.i .i64 t.l]) rfl (zH) rfl rfl (Nat.le_of_ble_eq_true rfl) rfl) ?_
   conv=>whnf
   have k6:=k5.st zH (bP 8 [] false .p0 .p0 .sl0 .sl0 t.l)
   have vT:(s5.set σ2.length (bP 8 [] false .p0 .p0 .sl0 .sl0 t.l))[σ2.length]? =_:=at_set zH _
   have zf:(s5.set σ2.length (bP 8 [] false .p0 .p0 .sl0 .sl0 t.l))[σ3.length]? =_:=aK uh (by omega) _
   have xx6:aI p σ (s5.set σ2.length (bP 8 [] false .p0 .p0 .sl0 .sl0 t.l)):=wB.bT (cO.b_ _ _ _ _) (by omega)
   refine ak (aj (T:=bD) rfl rfl (ah (aK c5 (by omega) _)) rfl) ?_
   conv=>whnf
   refine j_ [59] k6 EU (fun hi=>(aN he1 gU hi).1) (fun hi s7 y7 k7=>?_) (fun hi s7 y7 k7=>?_)
   ·rw [aP,if_pos (show aY [59] (t6 :: r6)=true from hi)] at hQ
    conv=>whnf
    refine ak (aj (T:=bZ) rfl rfl (ah (y7.get (by omega) zf)) rfl) ?_
    conv=>whnf
    have lx6:=xx6.len
    exact Fin.ref rfl (hQ _ _ _ _ (xx6.trans y7) k7 yZ ⟨σ2.length,0,.p0,.p0,.sl0,.sl0,by omega,rfl,y7.get (by omega) vT,rfl,rfl,rfl,rfl⟩)
   ·rw [aP,if_neg (show ¬aY [59] (t6 :: r6)=true by rw [show aY [59] (t6 :: r6)=dH [59] t6 from rfl,hi];decide)] at hQ
    conv=>whnf
    refine ak (aj (T:=bZ) rfl rfl (ah (y7.get (by omega) zf)) rfl) ?_
    conv=>whnf
    exact Fin.ref rfl (hQ _ _ _ (xx6.trans y7) k7)
  ·have hW:∀s,aY s (t :: r)=(t.s == s):=fun s=>by show ((t.k == 4 || t.k == 3) && t.s == s)=_;rw [hk4];rfl
   rw [if_neg (by rw [hW,hs];decide),if_neg (by rw [hW,hs];decide),if_neg (by rw [hW,hs];decide),if_neg (by rw [hW,hs];decide),if_neg (by rw [hW,hs];decide),if_neg (by rw [hW,hs];decide),if_pos (by rw [hW,hs];rfl)] at hQ
   rw [show (t.s == [110,101,119])=false by rw [hs];rfl]
   conv=>whnf
   refine ak (aj (T:=eG) rfl rfl (ah (ct)) rfl) ?_
   conv=>whnf
   rw [show (t.s == [105,110])=false by rw [hs];rfl]
   conv=>whnf
   refine ak (aj (T:=bD) rfl rfl (ah (c1)) rfl) ?_
   conv=>whnf
   refine je h4 hm1 fun s5 y5 k5=>?_
   have c5:=y5.get (by omega) c1
   have EC:=y5.get (by omega) ct
   have zH:=y5.get (by omega) cx
   have uh:=y5.get (by omega) b4
   have wB:=xx.trans y5
   have l5:=y5.len
   conv=>whnf
   refine ak (aj (T:=eG) rfl rfl (ah (EC)) rfl) ?_
   conv=>whnf
   rw [show (t.s == [118,97,114])=false by rw [hs];rfl]
   conv=>whnf
   rw [show (t.s == [105,102])=false by rw [hs];rfl]
   conv=>whnf
   rw [show (t.s == [119,104,105,108,101])=false by rw [hs];rfl]
   conv=>whnf
   rw [show (t.s == [111,117,116])=false by rw [hs];rfl]
   conv=>whnf
   rw [show (t.s == [102,114,101,101])=false by rw [hs];rfl]
   conv=>whnf
   rw [show (t.s == [100,114,97,105,110])=false by rw [hs];rfl]
   conv=>whnf
   rw [show (t.s == [114,101,116,117,114,110])=true by rw [hs];rfl]
   conv=>whnf
   obtain⟨t6,r6,gU⟩:=he1.ne
   obtain⟨EU,yZ⟩:=aW gU
   rw [←hr,gU] at hQ
   refine ak (aj (T:=bD) rfl rfl (ah (c5)) rfl) ?_
   conv=>whnf
   refine oG [59] k5 EU (fun hi=>(aN he1 gU hi).1) (fun hi s6 y6 k6=>?_) (fun hi=>?_)
   ·rw [if_pos (show aY [59] (t6 :: r6)=true from hi)] at hQ
    have hQ:nC p w g all σ d Q (.ok (.st 9 [] false .nil .nil .nil .nil t.l) r6):=hQ
    conv=>whnf
    refine ak (aj (T:=bZ) rfl rfl (ah (y6.get (by omega) uh)) rfl) ?_
    conv=>whnf
    refine ak (aC (T:=dA) ([.i .i64 9,.s [],.b false,.p0,.p0,.sl0,.sl0,.i .i64 t.l]) rfl (y6.get (by omega) zH) rfl rfl (Nat.le_of_ble_eq_true rfl) rfl) ?_
    conv=>whnf
    have vT:=y6.get (by omega) zH
    have k7:=k6.st vT (bP 9 [] false .p0 .p0 .sl0 .sl0 t.l)
    refine ak (aj (T:=bZ) rfl rfl (ah (aK (y6.get (by omega) uh) (by omega) _)) rfl) ?_
    conv=>whnf
    have Zq:aI p σ (s6.set σ2.length (bP 9 [] false .p0 .p0 .sl0 .sl0 t.l)):=(wB.trans y6).bT (cO.b_ _ _ _ _) (by omega)
    exact Fin.ref rfl (hQ _ _ _ _ Zq k7 yZ ⟨σ2.length,0,.p0,.p0,.sl0,.sl0,by omega,rfl,at_set vT _,rfl,rfl,rfl,rfl⟩)
   ·rw [if_neg (by rw [show aY [59] (t6 :: r6)=dH [59] t6 from rfl,hi];decide),←gU] at hQ
    conv=>whnf
    refine V5 d 9 _ σ2.length σ3.length σ.length t.l [] false .p0 s5 (m+1) _ k5 hd he1 (by omega) (uh) (c5) (zH) ⟨by omega,by omega,by omega,by omega,by omega⟩ ?_
    generalize bW n d (all.drop (m+1))=rE at hQ
    cases rE with
    | out=>trivial
    | bad c l=>
      intro s9 y9 k9
      conv=>whnf
      exact Fin.ref rfl (hQ _ _ _ ((wB).bT y9 (by omega)) k9)
    | ok z NK=>
      have hQ:nC p w g all σ d Q (.ok (.st 9 [] false .nil z .nil .nil t.l) NK):=hQ
      intro R s9 m9 y9 k9 BD NM NP
      conv=>whnf
      have lX:=(wB).len
      refine Fin.ref rfl (hQ _ _ _ _ ((wB).bT y9 (by omega)) k9 BD ⟨σ2.length,0,.p0,R,.sl0,.sl0,by omega,rfl,NM,rfl,?_,rfl,rfl⟩)
      exact bK.mono (fun i hi=>by first | omega | (rw [List.length_set] at hi;omega)) (fun i hi a ha=>ha) NP
 case' inl=>
  have hW:∀s,s∈keys→aY s (t :: r)=false:=fun s hs=>by show ((t.k == 4 || t.k == 3) && t.s == s)=_;rw [beq_eq_false_iff_ne.2 hk4,Bool.false_or];exact nokey (hko t (List.mem_of_getElem? ht)).2 s hs
  rw [if_neg (by rw [hW _ (by decide)];decide),if_neg (by rw [hW _ (by decide)];decide),if_neg (by rw [hW _ (by decide)];decide),if_neg (by rw [hW _ (by decide)];decide),if_neg (by rw [hW _ (by decide)];decide),if_neg (by rw [hW _ (by decide)];decide),if_neg (by rw [hW _ (by decide)];decide)] at hQ
  rw [decide_eq_false (by omega)]
  conv=>whnf
 case' inr.inl=>
  rw [decide_eq_true (by omega)]
  conv=>whnf
  refine ak (aj (T:=bD) rfl rfl (ah (c1)) rfl) ?_
  conv=>whnf
  refine ay.to (mJ h4) ?_
  conv=>whnf
  refine ak (aj (T:=eG) rfl rfl (ah (ct)) rfl) ?_
  conv=>whnf
  have hW:∀s,aY s (t :: r)=(t.s == s):=fun s=>by show ((t.k == 4 || t.k == 3) && t.s == s)=_;rw [hk4];rfl
  rw [if_neg (by rw [hW,hs];decide),if_neg (by rw [hW,hs];decide),if_neg (by rw [hW,hs];decide),if_neg (by rw [hW,hs];decide),if_neg (by rw [hW,hs];decide),if_neg (by rw [hW,hs];decide),if_neg (by rw [hW,hs];decide)] at hQ
  rw [show (t.s == [110,101,119])=true by rw [hs];rfl]
  conv=>whnf
 case' inr.inr.inl=>
  rw [decide_eq_true (by omega)]
  conv=>whnf
  refine ak (aj (T:=bD) rfl rfl (ah (c1)) rfl) ?_
  conv=>whnf
  refine ay.to (mJ h4) ?_
  conv=>whnf
  refine ak (aj (T:=eG) rfl rfl (ah (ct)) rfl) ?_
  conv=>whnf
  have hW:∀s,aY s (t :: r)=(t.s == s):=fun s=>by show ((t.k == 4 || t.k == 3) && t.s == s)=_;rw [hk4];rfl
  rw [if_neg (by rw [hW,hs];decide),if_neg (by rw [hW,hs];decide),if_neg (by rw [hW,hs];decide),if_neg (by rw [hW,hs];decide),if_neg (by rw [hW,hs];decide),if_neg (by rw [hW,hs];decide),if_neg (by rw [hW,hs];decide)] at hQ
  rw [show (t.s == [110,101,119])=false by rw [hs];rfl]
  conv=>whnf
  refine ak (aj (T:=eG) rfl rfl (ah (ct)) rfl) ?_
  conv=>whnf
  rw [show (t.s == [105,110])=true by rw [hs];rfl]
  conv=>whnf
 all_goals
  have hQ:nC p w g all σ d Q ((iV n d (all.drop m)).bind fun x ts=>match x with
   | .nil=>.out
   | .ex k _ nm _ _ _ _ _=>
     if aY [61] ts=true then
      if k=2 then(bW n d ts.tail).bind fun y ts=>.ok (.st 2 nm false .nil y .nil .nil t.l) ts
      else if k=5∨k=6 then(bW n d ts.tail).bind fun y ts=>.ok (.st 3 [] false x y .nil .nil t.l) ts
      else .bad 4 (jR ts)
     else if k=4 then(aP [59] ts).bind fun _ ts=>.ok (.st 10 [] false .nil x .nil .nil t.l) ts
     else .bad 4 (jR ts)):=by rw [hts];exact hQ
  have hg:=(jr n).post d (all.drop m) he (by omega)
  refine ak (aj (T:=bD) rfl rfl (ah (c1)) rfl) ?_
  conv=>whnf
  refine V4.post d eY m _ h4 hd he (by omega) ?_
  generalize iV n d (all.drop m)=r1 at hg hQ
  cases r1 with
  | out=>exact hg.elim
  | bad c l=>
    have hQ:nC p w g all σ d Q (.bad c l):=hQ
    intro o g' s6 y6 k6
    have c6:=y6.get (by omega) c1
    conv=>whnf
    refine ak (aj (T:=bD) rfl rfl (ah (c6)) rfl) ?_
    conv=>whnf
    have b7:(au 9 [.s [61]] s6)[s6.length]? =some ⟨0,false,.cells 9 [.s [61]]⟩:=aG _ _ _
    have x7:Ext s6 (au 9 [.s [61]] s6):=(Ext.refl s6).new _ _
    have l7:(au 9 [.s [61]] s6).length=s6.length+1:=aH _ _ _
    generalize au 9 [.s [61]] s6=pO at b7 x7 l7 ⊢
    have k7:=k6.ext x7
    have c7:=x7.get c6
    refine ay.to (KW k7 s6.length 0 1) ?_
    conv=>whnf
    refine ak (aj (T:=bD) rfl rfl (ah (c7)) rfl) ?_
    conv=>whnf
    refine ay.to (tZ k7) ?_
    conv=>whnf
    refine ak (aj (T:=bZ) rfl rfl (ah (x7.get (y6.get (by omega) b4))) rfl) ?_
    conv=>whnf
    exact Fin.ref rfl (hQ _ _ _ ((xx.trans y6).trans (aI.of x7)) k7)
  | ok z bJ=>
    intro o g' s6 m6 y6 k6 QN rO
    have c6:=y6.get (by omega) c1
    have zf:=y6.get (by omega) b4
    have vT:=y6.get (by omega) cx
    have he2:aU (all.drop m6):=by rw [QN];exact hg.2.1
    obtain⟨t6,r6,gU⟩:=he2.ne
    obtain⟨EU,yZ⟩:=aW gU
    have hl6:(all.drop m6).length=r6.length+1:=by rw [gU];rfl
    have lg:=hg.2.2
    rw [←QN] at lg
    cases z with
    | nil=>exact hg.1.elim
    | ex kz nz Fp tz lz rz az V7=>
      have hQ:nC p w g all σ d Q (
       if aY [61] bJ=true then
        if kz=2 then(bW n d bJ.tail).bind fun y ts=>.ok (.st 2 Fp false .nil y .nil .nil t.l) ts
        else if kz=5∨kz=6 then(bW n d bJ.tail).bind fun y ts=>.ok (.st 3 [] false (.ex kz nz Fp tz lz rz az V7) y .nil .nil t.l) ts
        else .bad 4 (jR bJ)
       else if kz=4 then(aP [59] bJ).bind fun _ ts=>.ok (.st 10 [] false .nil (.ex kz nz Fp tz lz rz az V7) .nil .nil t.l) ts
       else .bad 4 (jR bJ)):=hQ
      have hez':=rO
      obtain⟨oz,gz,Lz,Rz,Az,hoz,hvz,hzo,_,_,_⟩:=hez'
      cases hvz
      rw [←QN,gU] at hQ
      conv=>whnf
      refine ak (aj (T:=bD) rfl rfl (ah (c6)) rfl) ?_
      conv=>whnf
      have b7:(au 9 [.s [61]] s6)[s6.length]? =some ⟨0,false,.cells 9 [.s [61]]⟩:=aG _ _ _
      have x7:Ext s6 (au 9 [.s [61]] s6):=(Ext.refl s6).new _ _
      have l7:(au 9 [.s [61]] s6).length=s6.length+1:=aH _ _ _
      generalize au 9 [.s [61]] s6=pO at b7 x7 l7 ⊢
      have k7:=k6.ext x7
      have c7:=x7.get c6
      have wG:=x7.get zf
      have wE:=x7.get vT
      have zo7:=x7.get hzo
      have l6:=y6.len
      have hez7:bK (fun i=>eY.length≤i) pO (.p o g' 0) (.ex kz nz Fp tz lz rz az V7):=bK.mono (fun i hi=>hi) (fun i hi a ha=>x7.get ha) rO
      have Zq:aI p σ pO:=(xx.trans y6).trans (aI.of x7)
      refine ay.to (BO [[61]] k7 EU s6.length 0 (ah b7) (Nat.le_of_ble_eq_true rfl)) ?_
      conv=>whnf
      rw [jU]
      cases hi:dH [61] t6 with
      | false=>
        rw [if_neg (by rw [show aY [61] (t6 :: r6)=dH [61] t6 from rfl,hi];decide)] at hQ
        conv=>whnf
        refine ak (aj (T:=bD) rfl rfl (ah (c7)) rfl) ?_
        conv=>whnf
        refine ay.to (mJ k7) ?_
        conv=>whnf
        refine ak (aj (T:=dA) rfl rfl (ah (zo7)) rfl) ?_
        conv=>whnf
        by_cases h4k:kz=4
        ·rw [if_pos h4k] at hQ
         rw [decide_eq_true (by omega)]
         conv=>whnf
         refine ak (aj (T:=bZ) rfl rfl (ah (wG)) rfl) ?_
         conv=>whnf
         refine ak (aj (T:=bZ) rfl rfl (ah (wG)) rfl) ?_
         conv=>whnf
         refine ak (aC (T:=dA) ([.i .i64 10,.s [],.b false,.p0,.p0,.sl0,.sl0,.i .i64 t.l]) rfl (wE) rfl rfl (Nat.le_of_ble_eq_true rfl) rfl) ?_
         conv=>whnf
         have k8:=k7.st wE (bP 10 [] false .p0 .p0 .sl0 .sl0 t.l)
         have mP:(pO.set σ2.length (bP 10 [] false .p0 .p0 .sl0 .sl0 t.l))[σ2.length]? =_:=at_set wE _
         have oJ:(pO.set σ2.length (bP 10 [] false .p0 .p0 .sl0 .sl0 t.l))[σ3.length]? =_:=aK wG (by omega) _
         have c8:(pO.set σ2.length (bP 10 [] false .p0 .p0 .sl0 .sl0 t.l))[σ.length]? =_:=aK c7 (by omega) _
         refine⟨?_,?_⟩
         ·conv=>whnf
          refine ak (aj (T:=bZ) rfl rfl (ah (oJ)) rfl) ?_
          rfl
         conv=>whnf
         refine ak (aC (T:=bC) ([.i .i64 10,.s [],.b false,.p0,.p o g' 0,.sl0,.sl0,.i .i64 t.l]) rfl (mP) rfl rfl (Nat.le_of_ble_eq_true rfl) rfl) ?_
         conv=>whnf
         have k9:=k8.st mP (bP 10 [] false .p0 (.p o g' 0) .sl0 .sl0 t.l)
         have ED:((pO.set σ2.length (bP 10 [] false .p0 .p0 .sl0 .sl0 t.l)).set σ2.length (bP 10 [] false .p0 (.p o g' 0) .sl0 .sl0 t.l))[σ2.length]? =_:=at_set mP _
         have CG:((pO.set σ2.length (bP 10 [] false .p0 .p0 .sl0 .sl0 t.l)).set σ2.length (bP 10 [] false .p0 (.p o g' 0) .sl0 .sl0 t.l))[σ3.length]? =_:=aK oJ (by omega) _
         have xx9:aI p σ ((pO.set σ2.length (bP 10 [] false .p0 .p0 .sl0 .sl0 t.l)).set σ2.length (bP 10 [] false .p0 (.p o g' 0) .sl0 .sl0 t.l)):=(Zq.bT (cO.b_ _ _ _ _) (by omega)).bT (cO.b_ _ _ _ _) (by omega)
         have ll9:((pO.set σ2.length (bP 10 [] false .p0 .p0 .sl0 .sl0 t.l)).set σ2.length (bP 10 [] false .p0 (.p o g' 0) .sl0 .sl0 t.l)).length=pO.length:=by rw [List.length_set,List.length_set]
         refine ak (aj (T:=bD) rfl rfl (ah (aK c8 (by omega) _)) rfl) ?_
         conv=>whnf
         have he7:=gU▸he2
         refine j_ [59] k9 EU (fun hi=>(aN he2 gU hi).1) (fun hi s8 y8 k8'=>?_) (fun hi s8 y8 k8'=>?_)
         ·rw [aP,if_pos (show aY [59] (t6 :: r6)=true from hi)] at hQ
          have hQ:nC p w g all σ d Q (.ok (.st 10 [] false .nil (.ex kz nz Fp tz lz rz az V7) .nil .nil t.l) r6):=hQ
          conv=>whnf
          refine ak (aj (T:=bZ) rfl rfl (ah (y8.get (by omega) CG)) rfl) ?_
          conv=>whnf
          refine Fin.ref rfl (hQ _ _ _ _ (xx9.trans y8) k8' yZ ⟨σ2.length,0,.p0,.p o g' 0,.sl0,.sl0,by omega,rfl,y8.get (by omega) ED,rfl,?_,rfl,rfl⟩)
          exact bK.mono (fun i hi=>by omega) (fun i hi a ha=>y8.get (by omega) (aK (aK ha (by omega) _) (by omega) _)) hez7
         ·rw [aP,if_neg (show ¬aY [59] (t6 :: r6)=true by rw [show aY [59] (t6 :: r6)=dH [59] t6 from rfl,hi];decide)] at hQ
          have hQ:nC p w g all σ d Q (.bad 4 t6.l):=hQ
          conv=>whnf
          refine ak (aj (T:=bZ) rfl rfl (ah (y8.get (by omega) CG)) rfl) ?_
          conv=>whnf
          exact Fin.ref rfl (hQ _ _ _ (xx9.trans y8) k8')
        ·rw [if_neg h4k] at hQ
         rw [decide_eq_false (by omega)]
         conv=>whnf
         refine ak (aj (T:=bD) rfl rfl (ah (c7)) rfl) ?_
         conv=>whnf
         refine t_ 4 k7 EU fun s9 y9 k9=>?_
         have hQ:nC p w g all σ d Q (.bad 4 t6.l):=hQ
         conv=>whnf
         refine ak (aj (T:=bZ) rfl rfl (ah (y9.get (by omega) wG)) rfl) ?_
         conv=>whnf
         exact Fin.ref rfl (hQ _ _ _ (Zq.trans y9) k9)
      | true=>
        rw [if_pos (show aY [61] (t6 :: r6)=true from hi)] at hQ
        conv=>whnf
        refine ak (aj (T:=bD) rfl rfl (ah (c7)) rfl) ?_
        conv=>whnf
        refine ay.to (mJ k7) ?_
        conv=>whnf
        refine ak (aj (T:=dA) rfl rfl (ah (zo7)) rfl) ?_
        conv=>whnf
        by_cases h2k:kz=2
        ·rw [if_pos h2k] at hQ
         have hQ:nC p w g all σ d Q ((bW n d r6).bind fun y ts=>.ok (.st 2 Fp false .nil y .nil .nil t.l) ts):=hQ
         obtain⟨Zp,Ri,Vh⟩:=aN he2 gU hi
         have hlA:(all.drop (m6+1)).length=r6.length:=by rw [yZ]
         rw [←yZ] at hQ
         rw [decide_eq_true (by omega)]
         conv=>whnf
         refine ak (aj (T:=bD) rfl rfl (ah (c7)) rfl) ?_
         conv=>whnf
         refine je k7 Zp fun s8 y8 k8=>?_
         have oJ:=y8.get (by omega) wG
         have mP:=y8.get (by omega) wE
         have c8:=y8.get (by omega) c7
         have zo8:=y8.get (by omega) zo7
         have NJ:=Zq.trans y8
         have l8:=y8.len
         conv=>whnf
         refine ak (aj (T:=bZ) rfl rfl (ah (oJ)) rfl) ?_
         conv=>whnf
         refine ak (aj (T:=eG) rfl rfl (ah (zo8)) rfl) ?_
         conv=>whnf
         refine ak (aC (T:=eG) ([.i .i64 0,.s Fp,.b false,.p0,.p0,.sl0,.sl0,.i .i64 t.l]) rfl (mP) rfl rfl (Nat.le_of_ble_eq_true rfl) rfl) ?_
         conv=>whnf
         have kB:=k8.st mP (bP 0 Fp false .p0 .p0 .sl0 .sl0 t.l)
         have Vf:(s8.set σ2.length (bP 0 Fp false .p0 .p0 .sl0 .sl0 t.l))[σ2.length]? =_:=at_set mP _
         have QM:(s8.set σ2.length (bP 0 Fp false .p0 .p0 .sl0 .sl0 t.l))[σ3.length]? =_:=aK oJ (by omega) _
         have cB:(s8.set σ2.length (bP 0 Fp false .p0 .p0 .sl0 .sl0 t.l))[σ.length]? =_:=aK c8 (by omega) _
         have llB:(s8.set σ2.length (bP 0 Fp false .p0 .p0 .sl0 .sl0 t.l)).length=s8.length:=List.length_set
         have BR:aI p σ (s8.set σ2.length (bP 0 Fp false .p0 .p0 .sl0 .sl0 t.l)):=NJ.bT (cO.b_ _ _ _ _) (by omega)
         refine V5 d 2 _ σ2.length σ3.length σ.length t.l Fp false .p0 _ (m6+1) _ kB hd Ri (by omega) (QM) (cB) (Vf) ⟨by omega,by omega,by omega,by omega,by omega⟩ ?_
         generalize bW n d (all.drop (m6+1))=rE at hQ
         cases rE with
         | out=>trivial
         | bad c l=>
           intro s9 y9 k9
           conv=>whnf
           exact Fin.ref rfl (hQ _ _ _ ((BR).bT y9 (by omega)) k9)
         | ok z NK=>
           have hQ:nC p w g all σ d Q (.ok (.st 2 Fp false .nil z .nil .nil t.l) NK):=hQ
           intro R s9 m9 y9 k9 BD NM NP
           conv=>whnf
           have lX:=(BR).len
           refine Fin.ref rfl (hQ _ _ _ _ ((BR).bT y9 (by omega)) k9 BD ⟨σ2.length,0,.p0,R,.sl0,.sl0,by omega,rfl,NM,rfl,?_,rfl,rfl⟩)
           exact bK.mono (fun i hi=>by first | omega | (rw [List.length_set] at hi;omega)) (fun i hi a ha=>ha) NP
        ·rw [if_neg h2k] at hQ
         rw [decide_eq_false (by omega)]
         conv=>whnf
         by_cases h5k:kz=5
         ·subst h5k
          rw [if_pos (.inl rfl)] at hQ
          refine ak (aj (T:=dA) rfl rfl (ah (zo7)) rfl) ?_
          conv=>whnf
          have hQ:nC p w g all σ d Q ((bW n d r6).bind fun y ts=>.ok (.st 3 [] false (.ex 5 nz Fp tz lz rz az V7) y .nil .nil t.l) ts):=hQ
          obtain⟨Zp,Ri,Vh⟩:=aN he2 gU hi
          have hlA:(all.drop (m6+1)).length=r6.length:=by rw [yZ]
          rw [←yZ] at hQ
          refine ak (aj (T:=bD) rfl rfl (ah (c7)) rfl) ?_
          conv=>whnf
          refine je k7 Zp fun s8 y8 k8=>?_
          have oJ:=y8.get (by omega) wG
          have mP:=y8.get (by omega) wE
          have c8:=y8.get (by omega) c7
          have NJ:=Zq.trans y8
          have l8:=y8.len
          conv=>whnf
          refine ak (aj (T:=bZ) rfl rfl (ah (oJ)) rfl) ?_
          conv=>whnf
          refine ak (aC (T:=bC) ([.i .i64 0,.s [],.b false,.p o g' 0,.p0,.sl0,.sl0,.i .i64 t.l]) rfl (mP) rfl rfl (Nat.le_of_ble_eq_true rfl) rfl) ?_
          conv=>whnf
          have kB:=k8.st mP (bP 0 [] false (.p o g' 0) .p0 .sl0 .sl0 t.l)
          have Vf:(s8.set σ2.length (bP 0 [] false (.p o g' 0) .p0 .sl0 .sl0 t.l))[σ2.length]? =_:=at_set mP _
          have QM:(s8.set σ2.length (bP 0 [] false (.p o g' 0) .p0 .sl0 .sl0 t.l))[σ3.length]? =_:=aK oJ (by omega) _
          have cB:(s8.set σ2.length (bP 0 [] false (.p o g' 0) .p0 .sl0 .sl0 t.l))[σ.length]? =_:=aK c8 (by omega) _
          have llB:(s8.set σ2.length (bP 0 [] false (.p o g' 0) .p0 .sl0 .sl0 t.l)).length=s8.length:=List.length_set
          have BR:aI p σ (s8.set σ2.length (bP 0 [] false (.p o g' 0) .p0 .sl0 .sl0 t.l)):=NJ.bT (cO.b_ _ _ _ _) (by omega)
          have hezB:bK (fun i=>eY.length≤i) (s8.set σ2.length (bP 0 [] false (.p o g' 0) .p0 .sl0 .sl0 t.l)) (.p o g' 0) (.ex 5 nz Fp tz lz rz az V7):=bK.mono (fun i hi=>hi) (fun i hi a ha=>aK (y8.get (by omega) ha) (by omega) _) hez7
          refine V5 d 3 _ σ2.length σ3.length σ.length t.l [] false (.p o g' 0) _ (m6+1) _ kB hd Ri (by omega) (QM) (cB) (Vf) ⟨by omega,by omega,by omega,by omega,by omega⟩ ?_
          generalize bW n d (all.drop (m6+1))=rE at hQ
          cases rE with
          | out=>trivial
          | bad c l=>
            intro s9 y9 k9
            conv=>whnf
            exact Fin.ref rfl (hQ _ _ _ ((BR).bT y9 (by omega)) k9)
          | ok z NK=>
            have hQ:nC p w g all σ d Q (.ok (.st 3 [] false (.ex 5 nz Fp tz lz rz az V7) z .nil .nil t.l) NK):=hQ
            intro R s9 m9 y9 k9 BD NM NP
            conv=>whnf
            have lX:=(BR).len
            refine Fin.ref rfl (hQ _ _ _ _ ((BR).bT y9 (by omega)) k9 BD ⟨σ2.length,0,(.p o g' 0),R,.sl0,.sl0,by omega,rfl,NM,?_,?_,rfl,rfl⟩)
            ·exact bK.mono (fun i hi=>by omega) (fun i hi a ha=>y9.get (by omega) (by omega) ha) hezB
            ·exact bK.mono (fun i hi=>by first | omega | (rw [List.length_set] at hi;omega)) (fun i hi a ha=>ha) NP
         ·refine ak (aj (T:=dA) rfl rfl (ah (zo7)) rfl) ?_
          conv=>whnf
          rw [decide_eq_false (by omega)]
          conv=>whnf
          by_cases h6k:kz=6
          ·subst h6k
           rw [if_pos (.inr rfl)] at hQ
           refine ak (aj (T:=dA) rfl rfl (ah (zo7)) rfl) ?_
           conv=>whnf
           have hQ:nC p w g all σ d Q ((bW n d r6).bind fun y ts=>.ok (.st 3 [] false (.ex 6 nz Fp tz lz rz az V7) y .nil .nil t.l) ts):=hQ
           obtain⟨Zp,Ri,Vh⟩:=aN he2 gU hi
           have hlA:(all.drop (m6+1)).length=r6.length:=by rw [yZ]
           rw [←yZ] at hQ
           refine ak (aj (T:=bD) rfl rfl (ah (c7)) rfl) ?_
           conv=>whnf
           refine je k7 Zp fun s8 y8 k8=>?_
           have oJ:=y8.get (by omega) wG
           have mP:=y8.get (by omega) wE
           have c8:=y8.get (by omega) c7
           have NJ:=Zq.trans y8
           have l8:=y8.len
           conv=>whnf
           refine ak (aj (T:=bZ) rfl rfl (ah (oJ)) rfl) ?_
           conv=>whnf
           refine ak (aC (T:=bC) ([.i .i64 0,.s [],.b false,.p o g' 0,.p0,.sl0,.sl0,.i .i64 t.l]) rfl (mP) rfl rfl (Nat.le_of_ble_eq_true rfl) rfl) ?_
           conv=>whnf
           have kB:=k8.st mP (bP 0 [] false (.p o g' 0) .p0 .sl0 .sl0 t.l)
           have Vf:(s8.set σ2.length (bP 0 [] false (.p o g' 0) .p0 .sl0 .sl0 t.l))[σ2.length]? =_:=at_set mP _
           have QM:(s8.set σ2.length (bP 0 [] false (.p o g' 0) .p0 .sl0 .sl0 t.l))[σ3.length]? =_:=aK oJ (by omega) _
           have cB:(s8.set σ2.length (bP 0 [] false (.p o g' 0) .p0 .sl0 .sl0 t.l))[σ.length]? =_:=aK c8 (by omega) _
           have llB:(s8.set σ2.length (bP 0 [] false (.p o g' 0) .p0 .sl0 .sl0 t.l)).length=s8.length:=List.length_set
           have BR:aI p σ (s8.set σ2.length (bP 0 [] false (.p o g' 0) .p0 .sl0 .sl0 t.l)):=NJ.bT (cO.b_ _ _ _ _) (by omega)
           have hezB:bK (fun i=>eY.length≤i) (s8.set σ2.length (bP 0 [] false (.p o g' 0) .p0 .sl0 .sl0 t.l)) (.p o g' 0) (.ex 6 nz Fp tz lz rz az V7):=bK.mono (fun i hi=>hi) (fun i hi a ha=>aK (y8.get (by omega) ha) (by omega) _) hez7
           refine V5 d 3 _ σ2.length σ3.length σ.length t.l [] false (.p o g' 0) _ (m6+1) _ kB hd Ri (by omega) (QM) (cB) (Vf) ⟨by omega,by omega,by omega,by omega,by omega⟩ ?_
           generalize bW n d (all.drop (m6+1))=rE at hQ
           cases rE with
           | out=>trivial
           | bad c l=>
             intro s9 y9 k9
             conv=>whnf
             exact Fin.ref rfl (hQ _ _ _ ((BR).bT y9 (by omega)) k9)
           | ok z NK=>
             have hQ:nC p w g all σ d Q (.ok (.st 3 [] false (.ex 6 nz Fp tz lz rz az V7) z .nil .nil t.l) NK):=hQ
             intro R s9 m9 y9 k9 BD NM NP
             conv=>whnf
             have lX:=(BR).len
             refine Fin.ref rfl (hQ _ _ _ _ ((BR).bT y9 (by omega)) k9 BD ⟨σ2.length,0,(.p o g' 0),R,.sl0,.sl0,by omega,rfl,NM,?_,?_,rfl,rfl⟩)
             ·exact bK.mono (fun i hi=>by omega) (fun i hi a ha=>y9.get (by omega) (by omega) ha) hezB
             ·exact bK.mono (fun i hi=>by first | omega | (rw [List.length_set] at hi;omega)) (fun i hi a ha=>ha) NP
          ·rw [if_neg (by omega)] at hQ
           refine ak (aj (T:=dA) rfl rfl (ah (zo7)) rfl) ?_
           conv=>whnf
           rw [decide_eq_false (by omega)]
           conv=>whnf
           refine ak (aj (T:=bD) rfl rfl (ah (c7)) rfl) ?_
           conv=>whnf
           refine t_ 4 k7 EU fun s9 y9 k9=>?_
           have hQ:nC p w g all σ d Q (.bad 4 t6.l):=hQ
           conv=>whnf
           refine ak (aj (T:=bZ) rfl rfl (ah (y9.get (by omega) wG)) rfl) ?_
           conv=>whnf
           exact Fin.ref rfl (hQ _ _ _ (Zq.trans y9) k9)
end
end Go.bG.YtjcicgkencfbgaaGreatDoor
namespace Go.bG.YtjcicgkencfbgaaGreatDoor
open Go.Proofs
set_option maxRecDepth 4000
section
variable {p w g:Nat} {all:List Tok} {n:Nat}
theorem allQ (hno:oC all)(hnn:Ew all)(hko:Lh all):∀n,WQ p w g all n∧vg p w g all n∧Lj p w g all n
 | 0=>⟨⟨fun _ _ _ _ _ _ _ h=>absurd h (by omega),fun _ _ _ _ _ _ _ _ h=>absurd h (by omega),fun _ _ _ _ _ _ _ h=>absurd h (by omega)⟩,by intro d B bp bl _ _ _ acc A σ m Q _ _ _ _ _ _ h;omega,by intro d kd k0 xo xv bp ln nm pt L σ m Q _ _ _ h;omega⟩
 | n+1=>by
   obtain⟨ih,NI,V5⟩:=allQ hno hnn hko n
   have V4:=(allP (p:=p) (w:=w) (g:=g) hno hnn n).1
   exact⟨⟨fun d σ m Q h hd he hn hQ=>YB NI d σ m Q h hd he hn hQ,fun d l σ m Q h hd he hn hQ=>Vd V4 ih d l σ m Q h hd he hn hQ,fun d σ m Q h hd he hn hQ=>stmt_p hko V4 ih V5 d σ m Q h hd he hn hQ⟩,YA ih NI,fun d kd k0 xo xv bp ln nm pt L σ m Q h hd he hn h1 h2 h3 h4 hQ=>YC V4 d kd k0 xo xv bp ln nm pt L σ m Q h hd he hn h1 h2 h3 h4 hQ⟩
def nD (l:List (List UInt8×Bool)):List AV:=l.flatMap fun q=>[.s q.1,.b q.2]
theorem oK:∀l:List (List UInt8×Bool),(nD l).length=l.length*2
 | []=>rfl
 | t :: l=>by have:=oK l;simp only [nD,List.flatMap_cons,List.length_append,List.length_cons,List.length_nil] at this ⊢;rw [this];omega
theorem Ll:∀l:List (List UInt8×Bool),(nD l).all AV.one=true
 | []=>rfl
 | t :: l=>by have:=Ll l;simp only [nD,List.flatMap_cons,List.all_append] at this ⊢;rw [this];rfl
theorem QO (l:List (List UInt8×Bool))(q:List UInt8×Bool):nD (l ++ [q])=nD l ++ [.s q.1,.b q.2]:=by simp [nD,List.flatMap_append]
theorem Lm (l:List (List UInt8×Bool)):((nD l).drop 0).take (l.length*2)=nD l:=by rw [List.drop_zero,List.take_of_length_le (by rw [oK];omega)]
def jA (B:Nat)(σ:St)(v:AV)(l:List (List UInt8×Bool)):Prop:=(l=[]∧v= .sl0)∨∃o g,B≤o∧v= .sl o g 0 l.length 2∧σ[o]? =some ⟨g,false,.cells 97 (nD l)⟩
theorem jA.keep {B B':Nat} {σ σ':St} {v:AV} {l:List (List UInt8×Bool)} (h:jA B σ v l)(hb:B'≤B)(k:∀(i:Nat) (a:AO),B≤i→σ[i]? =some a→σ'[i]? =some a):jA B' σ' v l:=by
 rcases h with h | ⟨o,g,h1,h2,h3⟩
 ·exact .inl h
 ·exact .inr ⟨o,g,by omega,h2,k o _ h1 h3⟩
def slP (v:AV):Prop:=v= .sl0∨∃o g n,v= .sl o g 0 n 2
theorem jA.sl {B:Nat} {σ:St} {v:AV} {l:List (List UInt8×Bool)} (h:jA B σ v l):slP v:=by
 rcases h with ⟨_,rfl⟩ | ⟨o,g,_,rfl,_⟩
 ·exact .inl rfl
 ·exact .inr ⟨_,_,_,rfl⟩
theorem kW {B:Nat} {σ:St} {v:AV} {acc:List (List UInt8×Bool)} (h:jA B σ v acc)(x:List UInt8×Bool)(hl:acc.length≤100000) {C:Nat} (hC:σ[C]? =some ⟨0,false,.cells 97 [.s x.1,.b x.2]⟩)(hB:B≤σ.length) {Q:AV→St→Prop}
 (q:∀o3 g3 k3 σ',jA B σ' (.sl o3 g3 0 k3 2) (acc ++ [x])→(∀i,i<B→σ'[i]? =σ[i]?)→σ.length≤σ'.length→(∀(i:Nat) (a:AO),σ[i]? =some a→(∀(g:Nat) (ro:Bool) (cs:List AV),a≠⟨g,ro,.cells 97 cs⟩)→σ'[i]? =some a)→Q (.sl o3 g3 0 k3 2) σ') :
 DX L_.get false 90 v (.sl C 0 0 1 2) σ Q:=by
 constructor
 refine ak (v:=dZ) rfl ?_
 refine ak (v:=kR) rfl ?_
 refine ak (kG hC (Nat.le_of_ble_eq_true rfl)) ?_
 rcases h with ⟨rfl,rfl⟩ | ⟨o,g,h1,rfl,h3⟩
 ·refine⟨Nat.le_of_ble_eq_true rfl,?_⟩
  refine q _ _ _ _ (.inr ⟨σ.length,0,hB,rfl,?_⟩) (fun i hi=>dn (by omega)) (by rw [aH];omega) (fun i a ha _=>at_new ha _ _)
  rw [aG];rfl
 ·refine ak (qc h3) ?_
  refine⟨rfl,by rw [oK];omega,?_,by rw [Lm];exact Ll acc,?_⟩
  ·show (acc.length+1)*24≤_;omega
  refine q _ _ _ _ (.inr ⟨o,g+1,h1,by simp,?_⟩) (fun i hi=>by rw [List.getElem?_set_ne (by omega)]) (by rw [List.length_set];exact Nat.le_refl _) (fun i a ha ht=>aK ha (fun e=>?_) _)
  ·rw [at_set h3,Lm,QO];rfl
  ·subst e
   exact ht _ _ _ (Option.some.inj (ha.symm.trans h3))
def gJ (nm:List UInt8)(A:AV)(pt:Bool)(Bd:AV)(ln:Nat):AO:=⟨0,false,.cells 93 [.s nm,A,.b pt,Bd,.i .i64 ln]⟩
def zh (ts:List Tok):Re (List UInt8×Bool):=(dU ts).bind fun nm ts=>.ok (nm,aY fB ts) (if aY fB ts=true then ts.tail else ts)
theorem YD {α:Type} (ts:List Tok)(f:List UInt8×Bool→List Tok→Re α):((dU ts).bind fun nm ts=>f (nm,aY fB ts) (if aY fB ts=true then ts.tail else ts))=(zh ts).bind f:=by
 unfold zh
 cases dU ts <;> rfl
theorem gd_par {ts:List Tok} (he:aU ts):Gd An (zh ts) ts.length:=by
 refine(uX he).bind fun nm fU _ he2 hl2=>?_
 have h2:aU (if aY fB fU=true then fU.tail else fU)∧(if aY fB fU=true then fU.tail else fU).length≤fU.length:=by
  split
  ·rename_i h2
   obtain⟨a,b⟩:=jq he2 h2
   exact⟨a,by omega⟩
  ·exact⟨he2,Nat.le_refl _⟩
 exact⟨trivial,h2.1,by omega⟩
theorem PW.AA {m d:Nat} {σ σ':St} {f:AV} (h:PW p w g all σ m d f)(k:∀(i:Nat) (a:AO),σ[i]? =some a→(∀(g:Nat) (ro:Bool) (cs:List AV),a≠⟨g,ro,.cells 97 cs⟩)→σ'[i]? =some a):PW p w g all σ' m d f:=
 ⟨k _ _ h.obj (fun _ _ _ e=>by cases e),k _ _ h.tok (fun _ _ _ e=>by cases e),h.ne,h.len,h.at_,h.dp⟩
theorem PB.AA {d c l:Nat} {σ σ':St} (h:PB p σ d c l)(k:∀(i:Nat) (a:AO),σ[i]? =some a→(∀(g:Nat) (ro:Bool) (cs:List AV),a≠⟨g,ro,.cells 97 cs⟩)→σ'[i]? =some a):PB p σ' d c l:=by
 obtain⟨w,g,all,m,fo,fg,h1,h2,h3⟩:=h
 exact⟨w,g,all,m,fo,fg,h1.AA k,h2,k _ _ h3 (fun _ _ _ e=>by cases e)⟩
def P1q (p w g:Nat)(all:List Tok)(B xo:Nat)(nm:List UInt8)(ln:Nat)(σ:St)(d:Nat)(acc:List (List UInt8×Bool))(Q:AV→St→Prop):Re (List UInt8×Bool)→Prop
 | .ok y ts=>∀A' σ' m',cZ p xo B σ σ'→PW p w g all σ' m' d .p0→all.drop m'= ts→σ'[xo]? =some (gJ nm A' false .sl0 ln)→jA B σ' A' (acc ++ [y])→Q (.tu []) σ'
 | .bad c l=>∀A' σ',cZ p xo B σ σ'→PB p σ' d c l→σ'[xo]? =some (gJ nm A' false .sl0 ln)→slP A'→Q (.tu []) σ'
 | .out=>True
theorem par1_p (d B xo bx b1:Nat)(nm:List UInt8)(ln:Nat)(acc:List (List UInt8×Bool))(A:AV)(σ:St)(m:Nat)(Q:AV→St→Prop)(h:PW p w g all σ m d .p0)(hlt:p<B∧w<B∧xo<B∧bx<B∧b1<B)(hne:xo≠p∧bx≠p∧b1≠p∧bx≠xo∧b1≠xo)(hB:B≤σ.length)
 (hbx:σ[bx]? =some ⟨0,false,.cells 54 [.p xo 0 0]⟩) (hb1:σ[b1]? =some ⟨0,false,.cells 81 [.p p 0 0]⟩) (hx:σ[xo]? =some (gJ nm A false .sl0 ln)) (ha:jA B σ A acc) (he:aU (all.drop m)) (hs:acc.length≤40001)
 (hQ:P1q p w g all B xo nm ln σ d acc Q (zh (all.drop m))):ay X 69 [.p b1 0 0,.p bx 0 0] σ Q:=by
 obtain⟨t,r,hts⟩:=he.ne
 obtain⟨ht,hr⟩:=aW hts
 unfold zh at hQ
 rw [hts] at hQ
 have hsl:=ha.sl
 have hpl:=aX h.obj
 refine ay.body (F:=F69) aF (lit:=false) rfl rfl (Nat.le_of_ble_eq_true rfl) ?_
 conv=>whnf
 refine ak (aj (T:=bD) rfl rfl (ah (hb1)) rfl) ?_
 conv=>whnf
 refine IQ h ht (fun hk1=>jv (by rw [hr];rw [hts] at he;exact he.tail (by rw [hk1];decide))) (fun hk1 σ1 y1 k1=>?_) (fun hk1 σ1 y1 k1=>?_)
 ·simp only [dU,if_pos hk1] at hQ
  have he2:aU (all.drop (m+1)):=by rw [hr];rw [hts] at he;exact he.tail (by rw [hk1];decide)
  obtain⟨t2,r2,fD⟩:=he2.ne
  obtain⟨ht2,hr2⟩:=aW fD
  have hQ:P1q p w g all B xo nm ln σ d acc Q (.ok (t.s,aY fB r) (if aY fB r=true then r.tail else r)):=hQ
  rw [←hr,fD] at hQ
  have l1:=y1.len
  conv=>whnf
  refine ak (aC (T:=kR) ([.s t.s,.b false]) rfl (aG _ _ _) rfl rfl (Nat.le_of_ble_eq_true rfl) rfl) ?_
  have x2:Ext σ1 ((au 97 kR.zero.cells σ1).set σ1.length ⟨0,false,.cells 97 [.s t.s,.b false]⟩):=((Ext.refl σ1).new _ _).set (Nat.le_refl _) _
  have b2:((au 97 kR.zero.cells σ1).set σ1.length ⟨0,false,.cells 97 [.s t.s,.b false]⟩)[σ1.length]? =_:=at_set (aG _ _ _) _
  have l2:((au 97 kR.zero.cells σ1).set σ1.length ⟨0,false,.cells 97 [.s t.s,.b false]⟩).length=σ1.length+1:=by rw [List.length_set,aH]
  generalize (au 97 kR.zero.cells σ1).set σ1.length ⟨0,false,.cells 97 [.s t.s,.b false]⟩=σ2 at b2 x2 l2 ⊢
  conv=>whnf
  have k2:=k1.ext x2
  have c1:=x2.get (y1.get (by omega) hb1)
  have CB:=x2.get (y1.get (by omega) hbx)
  have cx:=x2.get (y1.get (by omega) hx)
  refine ak (aj (T:=bD) rfl rfl (ah (c1)) rfl) ?_
  conv=>whnf
  refine oG [112,116,114] k2 ht2 (fun hi=>(aN he2 fD hi).1) (fun hi σ3 y3 k3=>?_) (fun hi=>?_)
  ·have Ve:aY fB (t2 :: r2)=true:=hi
   have hQ:P1q p w g all B xo nm ln σ d acc Q (.ok (t.s,true) r2):=by
        simp only [Ve,if_true] at hQ;exact hQ
   have xx:=(y1.trans (aI.of x2)).trans y3
   have b3:=y3.get (by omega) b2
   have cx3:=y3.get (by omega) cx
   have cbx3:=y3.get (by omega) CB
   conv=>whnf
   refine ak (aC (T:=kY) ([.s t.s,.b true]) rfl (b3) rfl rfl (Nat.le_of_ble_eq_true rfl) rfl) ?_
   conv=>whnf
   have AB:(List.set σ3 σ1.length ⟨0,false,.cells 97 [.s t.s,.b true]⟩)[bx]? =_:=aK (cbx3) (by omega) _
   have fx:(List.set σ3 σ1.length ⟨0,false,.cells 97 [.s t.s,.b true]⟩)[xo]? =some (gJ nm A false .sl0 ln):=aK (cx3) (by omega) _
   have fc:(List.set σ3 σ1.length ⟨0,false,.cells 97 [.s t.s,.b true]⟩)[σ1.length]? =some ⟨0,false,.cells 97 [.s t.s,.b true]⟩:=at_set (b3) _
   have fX:aI p σ (List.set σ3 σ1.length ⟨0,false,.cells 97 [.s t.s,.b true]⟩):=(xx).bT (cO.b_ _ _ _ _) (by omega)
   have fa:jA B (List.set σ3 σ1.length ⟨0,false,.cells 97 [.s t.s,.b true]⟩) A acc:=ha.keep (Nat.le_refl _) fun i a hi hh=>fX.get (by omega) hh
   have kS:=k3.b_ b3 (by decide) (by decide) ⟨0,false,.cells 97 [.s t.s,.b true]⟩
   generalize List.set σ3 σ1.length ⟨0,false,.cells 97 [.s t.s,.b true]⟩=S at AB fx fc fX fa kS ⊢
   have lX:=fX.len
   rcases hsl with rfl | ⟨oo,gg,kk,rfl⟩
   all_goals
        refine ak (aj (T:=eu) rfl rfl (ah (AB)) rfl) ?_
        conv=>whnf
        refine ak (aj (T:=eu) rfl rfl (ah (AB)) rfl) ?_
        conv=>whnf
        refine ak (aj (T:=dZ) rfl rfl (ah (fx)) rfl) ?_
        conv=>whnf
        refine ak (bV (T:=kR) rfl rfl (ah (fc)) (Nat.le_of_ble_eq_true rfl)) ?_
        conv=>whnf
        refine⟨?_,?_⟩
        ·conv=>whnf
         refine ak (aj (T:=eu) rfl rfl (ah (at_new AB _ _)) rfl) ?_
         rfl
        conv=>whnf
        refine⟨?_,?_⟩
        ·conv=>whnf
         refine ak (aj (T:=eu) rfl rfl (ah (at_new AB _ _)) rfl) ?_
         rfl
        conv=>whnf
        refine⟨?_,?_⟩
        ·conv=>whnf
         refine ak (aj (T:=dZ) rfl rfl (ah (at_new fx _ _)) rfl) ?_
         rfl
        conv=>whnf
        refine kW (B:=B) (fa.keep (Nat.le_refl _) fun i a hi ha=>at_new ha _ _) (t.s,true) (by omega) (aG _ _ _) (by rw [aH];omega) fun o3 g3 k3 s3 ha3 hb3 hl3 hk3=>?_
        rw [aH] at hl3
        have gbx:s3[bx]? =_:=(hb3 bx (by omega)).trans (at_new AB _ _)
        have gx:s3[xo]? =_:=(hb3 xo (by omega)).trans (at_new fx _ _)
        have kT:=(kS.new _ _).AA hk3
        conv=>whnf
        refine⟨?_,?_⟩
        ·conv=>whnf
         refine ak (aj (T:=eu) rfl rfl (ah (gbx)) rfl) ?_
         rfl
        conv=>whnf
        refine ak (aC (T:=dZ) ([.s nm,.sl o3 g3 0 k3 2,.b false,.sl0,.i .i64 ln]) rfl (gx) rfl rfl (Nat.le_of_ble_eq_true rfl) rfl) ?_
        conv=>whnf
        have Ey:cZ p xo B σ (s3.set xo (gJ nm (.sl o3 g3 0 k3 2) false .sl0 ln)):=⟨by rw [List.length_set];omega,fun i hi fZ hix=>by rw [List.getElem?_set_ne (fun e=>hix e.symm),hb3 i hi,dn (by omega),fX.old i (by omega) fZ]⟩
        have k4:=kT.b_ gx (by decide) (by decide) (gJ nm (.sl o3 g3 0 k3 2) false .sl0 ln)
        exact h.ne_of k4 (.inl (by omega)) (hQ _ _ _ Ey k4 hr2 (at_set gx _) (ha3.keep (Nat.le_refl _) fun i a hi ha=>aK ha (by omega) _))
  ·have Ve:aY fB (t2 :: r2)=false:=hi
   have hQ:P1q p w g all B xo nm ln σ d acc Q (.ok (t.s,false) (t2 :: r2)):=by
        simp only [Ve,if_neg Bool.false_ne_true] at hQ;exact hQ
   conv=>whnf
   refine ak (aC (T:=kY) ([.s t.s,.b false]) rfl (b2) rfl rfl (Nat.le_of_ble_eq_true rfl) rfl) ?_
   conv=>whnf
   have AB:(List.set σ2 σ1.length ⟨0,false,.cells 97 [.s t.s,.b false]⟩)[bx]? =_:=aK (CB) (by omega) _
   have fx:(List.set σ2 σ1.length ⟨0,false,.cells 97 [.s t.s,.b false]⟩)[xo]? =some (gJ nm A false .sl0 ln):=aK (cx) (by omega) _
   have fc:(List.set σ2 σ1.length ⟨0,false,.cells 97 [.s t.s,.b false]⟩)[σ1.length]? =some ⟨0,false,.cells 97 [.s t.s,.b false]⟩:=at_set (b2) _
   have fX:aI p σ (List.set σ2 σ1.length ⟨0,false,.cells 97 [.s t.s,.b false]⟩):=(y1.trans (aI.of x2)).bT (cO.b_ _ _ _ _) (by omega)
   have fa:jA B (List.set σ2 σ1.length ⟨0,false,.cells 97 [.s t.s,.b false]⟩) A acc:=ha.keep (Nat.le_refl _) fun i a hi hh=>fX.get (by omega) hh
   have kS:=k2.b_ b2 (by decide) (by decide) ⟨0,false,.cells 97 [.s t.s,.b false]⟩
   generalize List.set σ2 σ1.length ⟨0,false,.cells 97 [.s t.s,.b false]⟩=S at AB fx fc fX fa kS ⊢
   have lX:=fX.len
   rcases hsl with rfl | ⟨oo,gg,kk,rfl⟩
   all_goals
        refine ak (aj (T:=eu) rfl rfl (ah (AB)) rfl) ?_
        conv=>whnf
        refine ak (aj (T:=eu) rfl rfl (ah (AB)) rfl) ?_
        conv=>whnf
        refine ak (aj (T:=dZ) rfl rfl (ah (fx)) rfl) ?_
        conv=>whnf
        refine ak (bV (T:=kR) rfl rfl (ah (fc)) (Nat.le_of_ble_eq_true rfl)) ?_
        conv=>whnf
        refine⟨?_,?_⟩
        ·conv=>whnf
         refine ak (aj (T:=eu) rfl rfl (ah (at_new AB _ _)) rfl) ?_
         rfl
        conv=>whnf
        refine⟨?_,?_⟩
        ·conv=>whnf
         refine ak (aj (T:=eu) rfl rfl (ah (at_new AB _ _)) rfl) ?_
         rfl
        conv=>whnf
        refine⟨?_,?_⟩
        ·conv=>whnf
         refine ak (aj (T:=dZ) rfl rfl (ah (at_new fx _ _)) rfl) ?_
         rfl
        conv=>whnf
        refine kW (B:=B) (fa.keep (Nat.le_refl _) fun i a hi ha=>at_new ha _ _) (t.s,false) (by omega) (aG _ _ _) (by rw [aH];omega) fun o3 g3 k3 s3 ha3 hb3 hl3 hk3=>?_
        rw [aH] at hl3
        have gbx:s3[bx]? =_:=(hb3 bx (by omega)).trans (at_new AB _ _)
        have gx:s3[xo]? =_:=(hb3 xo (by omega)).trans (at_new fx _ _)
        have kT:=(kS.new _ _).AA hk3
        conv=>whnf
        refine⟨?_,?_⟩
        ·conv=>whnf
         refine ak (aj (T:=eu) rfl rfl (ah (gbx)) rfl) ?_
         rfl
        conv=>whnf
        refine ak (aC (T:=dZ) ([.s nm,.sl o3 g3 0 k3 2,.b false,.sl0,.i .i64 ln]) rfl (gx) rfl rfl (Nat.le_of_ble_eq_true rfl) rfl) ?_
        conv=>whnf
        have Ey:cZ p xo B σ (s3.set xo (gJ nm (.sl o3 g3 0 k3 2) false .sl0 ln)):=⟨by rw [List.length_set];omega,fun i hi fZ hix=>by rw [List.getElem?_set_ne (fun e=>hix e.symm),hb3 i hi,dn (by omega),fX.old i (by omega) fZ]⟩
        have k4:=kT.b_ gx (by decide) (by decide) (gJ nm (.sl o3 g3 0 k3 2) false .sl0 ln)
        exact h.ne_of k4 (.inl (by omega)) (hQ _ _ _ Ey k4 fD (at_set gx _) (ha3.keep (Nat.le_refl _) fun i a hi ha=>aK ha (by omega) _))
 ·simp only [dU,if_neg hk1] at hQ
  have hQ:P1q p w g all B xo nm ln σ d acc Q (.bad 4 t.l):=hQ
  have l1:=y1.len
  conv=>whnf
  refine ak (aC (T:=kR) ([.s [],.b false]) rfl (aG _ _ _) rfl rfl (Nat.le_of_ble_eq_true rfl) rfl) ?_
  have x2:Ext σ1 ((au 97 kR.zero.cells σ1).set σ1.length ⟨0,false,.cells 97 [.s [],.b false]⟩):=((Ext.refl σ1).new _ _).set (Nat.le_refl _) _
  have b2:((au 97 kR.zero.cells σ1).set σ1.length ⟨0,false,.cells 97 [.s [],.b false]⟩)[σ1.length]? =_:=at_set (aG _ _ _) _
  have l2:((au 97 kR.zero.cells σ1).set σ1.length ⟨0,false,.cells 97 [.s [],.b false]⟩).length=σ1.length+1:=by rw [List.length_set,aH]
  generalize (au 97 kR.zero.cells σ1).set σ1.length ⟨0,false,.cells 97 [.s [],.b false]⟩=σ2 at b2 x2 l2 ⊢
  conv=>whnf
  have k2:=k1.ext x2
  have c1:=x2.get (y1.get (by omega) hb1)
  have CB:=x2.get (y1.get (by omega) hbx)
  have cx:=x2.get (y1.get (by omega) hx)
  refine ak (aj (T:=bD) rfl rfl (ah (c1)) rfl) ?_
  conv=>whnf
  refine ay.to (mX [112,116,114] k2) ?_
  conv=>whnf
  refine ak (aC (T:=kY) ([.s [],.b false]) rfl (b2) rfl rfl (Nat.le_of_ble_eq_true rfl) rfl) ?_
  conv=>whnf
  have AB:(List.set σ2 σ1.length ⟨0,false,.cells 97 [.s [],.b false]⟩)[bx]? =_:=aK (CB) (by omega) _
  have fx:(List.set σ2 σ1.length ⟨0,false,.cells 97 [.s [],.b false]⟩)[xo]? =some (gJ nm A false .sl0 ln):=aK (cx) (by omega) _
  have fc:(List.set σ2 σ1.length ⟨0,false,.cells 97 [.s [],.b false]⟩)[σ1.length]? =some ⟨0,false,.cells 97 [.s [],.b false]⟩:=at_set (b2) _
  have fX:aI p σ (List.set σ2 σ1.length ⟨0,false,.cells 97 [.s [],.b false]⟩):=(y1.trans (aI.of x2)).bT (cO.b_ _ _ _ _) (by omega)
  have fa:jA B (List.set σ2 σ1.length ⟨0,false,.cells 97 [.s [],.b false]⟩) A acc:=ha.keep (Nat.le_refl _) fun i a hi hh=>fX.get (by omega) hh
  have kS:=k2.b_ b2 (by decide) (by decide) (by decide) ⟨0,false,.cells 97 [.s [],.b false]⟩
  generalize List.set σ2 σ1.length ⟨0,false,.cells 97 [.s [],.b false]⟩=S at AB fx fc fX fa kS ⊢
  have lX:=fX.len
  rcases hsl with rfl | ⟨oo,gg,kk,rfl⟩
  all_goals
   refine ak (aj (T:=eu) rfl rfl (ah (AB)) rfl) ?_
   conv=>whnf
   refine ak (aj (T:=eu) rfl rfl (ah (AB)) rfl) ?_
   conv=>whnf
   refine ak (aj (T:=dZ) rfl rfl (ah (fx)) rfl) ?_
   conv=>whnf
   refine ak (bV (T:=kR) rfl rfl (ah (fc)) (Nat.le_of_ble_eq_true rfl)) ?_
   conv=>whnf
   refine⟨?_,?_⟩
   ·conv=>whnf
    refine ak (aj (T:=eu) rfl rfl (ah (at_new AB _ _)) rfl) ?_
    rfl
   conv=>whnf
   refine⟨?_,?_⟩
   ·conv=>whnf
    refine ak (aj (T:=eu) rfl rfl (ah (at_new AB _ _)) rfl) ?_
    rfl
   conv=>whnf
   refine⟨?_,?_⟩
   ·conv=>whnf
    refine ak (aj (T:=dZ) rfl rfl (ah (at_new fx _ _)) rfl) ?_
    rfl
   conv=>whnf
   refine kW (B:=B) (fa.keep (Nat.le_refl _) fun i a hi ha=>at_new ha _ _) ([],false) (by omega) (aG _ _ _) (by rw [aH];omega) fun o3 g3 k3 s3 ha3 hb3 hl3 hk3=>?_
   rw [aH] at hl3
   have gbx:s3[bx]? =_:=(hb3 bx (by omega)).trans (at_new AB _ _)
   have gx:s3[xo]? =_:=(hb3 xo (by omega)).trans (at_new fx _ _)
   have kT:=(kS.new _ _).AA hk3
   conv=>whnf
   refine⟨?_,?_⟩
   ·conv=>whnf
    refine ak (aj (T:=eu) rfl rfl (ah (gbx)) rfl) ?_
    rfl
   conv=>whnf
   refine ak (aC (T:=dZ) ([.s nm,.sl o3 g3 0 k3 2,.b false,.sl0,.i .i64 ln]) rfl (gx) rfl rfl (Nat.le_of_ble_eq_true rfl) rfl) ?_
   conv=>whnf
   have Ey:cZ p xo B σ (s3.set xo (gJ nm (.sl o3 g3 0 k3 2) false .sl0 ln)):=⟨by rw [List.length_set];omega,fun i hi fZ hix=>by rw [List.getElem?_set_ne (fun e=>hix e.symm),hb3 i hi,dn (by omega),fX.old i (by omega) fZ]⟩
   have k4:=kT.b_ gx (by decide) (by decide) (by decide) (gJ nm (.sl o3 g3 0 k3 2) false .sl0 ln)
   have q:=hQ _ _ Ey k4 (at_set gx _) (.inr ⟨_,_,_,rfl⟩)
   obtain⟨w2,g2,all2,m2,fo,fg,j1,j2,j3⟩:=k4
   exact h.ne_of j1 (.inr (by simp)) q
theorem par1_b (d c l B xo bx b1:Nat)(nm:List UInt8)(ln:Nat)(acc:List (List UInt8×Bool))(A:AV)(σ1:St)(Q:AV→St→Prop)(h:PB p σ1 d c l)(hlt:p<B∧xo<B∧bx<B∧b1<B)(hne:xo≠p∧bx≠p∧b1≠p∧bx≠xo∧b1≠xo)(hB:B≤σ1.length)
 (hbx:σ1[bx]? =some ⟨0,false,.cells 54 [.p xo 0 0]⟩) (hb1:σ1[b1]? =some ⟨0,false,.cells 81 [.p p 0 0]⟩) (hx:σ1[xo]? =some (gJ nm A false .sl0 ln)) (ha:jA B σ1 A acc) (hs:acc.length≤40001)
 (hQ:∀A' σ',cZ p xo B σ1 σ'→PB p σ' d c l→σ'[xo]? =some (gJ nm A' false .sl0 ln)→slP A'→Q (.tu []) σ'):ay X 69 [.p b1 0 0,.p bx 0 0] σ1 Q:=by
 have hsl:=ha.sl
 have hpl:=PB.lt h
 have hQ0:=hQ A σ1 (.refl _ _ _ _) h hx hsl
 refine ay.body (F:=F69) aF (lit:=false) rfl rfl (Nat.le_of_ble_eq_true rfl) ?_
 conv=>whnf
 refine ak (aj (T:=bD) rfl rfl (ah (hb1)) rfl) ?_
 conv=>whnf
 refine ay.to (IU h) ?_
 conv=>whnf
 refine ak (aC (T:=kR) ([.s [],.b false]) rfl (aG _ _ _) rfl rfl (Nat.le_of_ble_eq_true rfl) rfl) ?_
 have x2:Ext σ1 ((au 97 kR.zero.cells σ1).set σ1.length ⟨0,false,.cells 97 [.s [],.b false]⟩):=((Ext.refl σ1).new _ _).set (Nat.le_refl _) _
 have b2:((au 97 kR.zero.cells σ1).set σ1.length ⟨0,false,.cells 97 [.s [],.b false]⟩)[σ1.length]? =_:=at_set (aG _ _ _) _
 have l2:((au 97 kR.zero.cells σ1).set σ1.length ⟨0,false,.cells 97 [.s [],.b false]⟩).length=σ1.length+1:=by rw [List.length_set,aH]
 generalize (au 97 kR.zero.cells σ1).set σ1.length ⟨0,false,.cells 97 [.s [],.b false]⟩=σ2 at b2 x2 l2 ⊢
 conv=>whnf
 have k2:=h.ext x2
 have c1:=x2.get hb1
 have CB:=x2.get hbx
 have cx:=x2.get hx
 refine ak (aj (T:=bD) rfl rfl (ah (c1)) rfl) ?_
 conv=>whnf
 refine ay.to (mX [112,116,114] k2) ?_
 conv=>whnf
 refine ak (aC (T:=kY) ([.s [],.b false]) rfl (b2) rfl rfl (Nat.le_of_ble_eq_true rfl) rfl) ?_
 conv=>whnf
 have AB:(List.set σ2 σ1.length ⟨0,false,.cells 97 [.s [],.b false]⟩)[bx]? =_:=aK (CB) (by omega) _
 have fx:(List.set σ2 σ1.length ⟨0,false,.cells 97 [.s [],.b false]⟩)[xo]? =some (gJ nm A false .sl0 ln):=aK (cx) (by omega) _
 have fc:(List.set σ2 σ1.length ⟨0,false,.cells 97 [.s [],.b false]⟩)[σ1.length]? =some ⟨0,false,.cells 97 [.s [],.b false]⟩:=at_set (b2) _
 have fX:aI p σ1 (List.set σ2 σ1.length ⟨0,false,.cells 97 [.s [],.b false]⟩):=(aI.of x2).bT (cO.b_ _ _ _ _) (by omega)
 have fa:jA B (List.set σ2 σ1.length ⟨0,false,.cells 97 [.s [],.b false]⟩) A acc:=ha.keep (Nat.le_refl _) fun i a hi hh=>fX.get (by omega) hh
 have kS:=k2.b_ b2 (by decide) (by decide) (by decide) ⟨0,false,.cells 97 [.s [],.b false]⟩
 generalize List.set σ2 σ1.length ⟨0,false,.cells 97 [.s [],.b false]⟩=S at AB fx fc fX fa kS ⊢
 have lX:=fX.len
 rcases hsl with rfl | ⟨oo,gg,kk,rfl⟩
 all_goals
  refine ak (aj (T:=eu) rfl rfl (ah (AB)) rfl) ?_
  conv=>whnf
  refine ak (aj (T:=eu) rfl rfl (ah (AB)) rfl) ?_
  conv=>whnf
  refine ak (aj (T:=dZ) rfl rfl (ah (fx)) rfl) ?_
  conv=>whnf
  refine ak (bV (T:=kR) rfl rfl (ah (fc)) (Nat.le_of_ble_eq_true rfl)) ?_
  conv=>whnf
  refine⟨?_,?_⟩
  ·conv=>whnf
   refine ak (aj (T:=eu) rfl rfl (ah (at_new AB _ _)) rfl) ?_
   rfl
  conv=>whnf
  refine⟨?_,?_⟩
  ·conv=>whnf
   refine ak (aj (T:=eu) rfl rfl (ah (at_new AB _ _)) rfl) ?_
   rfl
  conv=>whnf
  refine⟨?_,?_⟩
  ·conv=>whnf
   refine ak (aj (T:=dZ) rfl rfl (ah (at_new fx _ _)) rfl) ?_
   rfl
  conv=>whnf
  refine kW (B:=B) (fa.keep (Nat.le_refl _) fun i a hi ha=>at_new ha _ _) ([],false) (by omega) (aG _ _ _) (by rw [aH];omega) fun o3 g3 k3 s3 ha3 hb3 hl3 hk3=>?_
  rw [aH] at hl3
  have gbx:s3[bx]? =_:=(hb3 bx (by omega)).trans (at_new AB _ _)
  have gx:s3[xo]? =_:=(hb3 xo (by omega)).trans (at_new fx _ _)
  have kT:=(kS.new _ _).AA hk3
  conv=>whnf
  refine⟨?_,?_⟩
  ·conv=>whnf
   refine ak (aj (T:=eu) rfl rfl (ah (gbx)) rfl) ?_
   rfl
  conv=>whnf
  refine ak (aC (T:=dZ) ([.s nm,.sl o3 g3 0 k3 2,.b false,.sl0,.i .i64 ln]) rfl (gx) rfl rfl (Nat.le_of_ble_eq_true rfl) rfl) ?_
  conv=>whnf
  have Ey:cZ p xo B σ1 (s3.set xo (gJ nm (.sl o3 g3 0 k3 2) false .sl0 ln)):=⟨by rw [List.length_set];omega,fun i hi fZ hix=>by rw [List.getElem?_set_ne (fun e=>hix e.symm),hb3 i hi,dn (by omega),fX.old i (by omega) fZ]⟩
  have k4:=kT.b_ gx (by decide) (by decide) (by decide) (gJ nm (.sl o3 g3 0 k3 2) false .sl0 ln)
  exact u_ (hQ _ _ Ey k4 (at_set gx _) (.inr ⟨_,_,_,rfl⟩)) fun _=>hQ0
end
end Go.bG.YtjcicgkencfbgaaGreatDoor
