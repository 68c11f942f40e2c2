/- Texts of this claim, joined: Re2, Re3, Re4. -/
import Derived.Test.YtlkfbfhkcaldlaaGreatDoorM16
import Derived.Test.YtlkfbfhkcaldlaaGreatDoorM18
set_option linter.unusedVariables false
set_option linter.unusedSimpArgs false
namespace Go.Abs.YtlkfbfhkcaldlaaGreatDoor
open Go.Proofs
set_option maxRecDepth 4000
def QSs (p w g:Nat)(all:List Tok)(Z:St)(d:Nat)(Q:AV->St->Prop):Re gY->Prop
 | .ok xs ts=>∀A Z' m' c l,aN p Z Z'->PO p w g all Z' m' d false c l->all.drop m'= ts->dX (fun i=>Z.length<=i) Z' A xs->JI A->Q A Z'
 | .bad c l=>∀A Z' m',aN p Z Z'->PO p w g all Z' m' d true c l->JI A->Q A Z'
 | .out=>True
def o7 (p w g:Nat)(all:List Tok)(Z:St)(d:Nat)(Q:AV->St->Prop):Re Sm->Prop
 | .ok x ts=>∀o g' Z' m' c l,aN p Z Z'->PO p w g all Z' m' d false c l->all.drop m'= ts->jc (fun i=>Z.length<=i) Z' (.p o g' 0) x->Q (.p o g' 0) Z'
 | .bad c l=>∀o g' Z' m',aN p Z Z'->PO p w g all Z' m' d true c l->Q (.p o g' 0) Z'
 | .out=>True
def QQs (p w g:Nat)(all:List Tok)(B:Nat)(Z:St)(d:Nat)(acc:List Sm)(Q:Out->Env->St->Prop):Re gY->Prop
 | .ok xs ts=>∀v Z' m' c l e',get e' 0= .p p 0 0->get e' 3=v->get e' 1000000= .u->FP p B Z Z'->PO p w g all Z' m' d false c l->all.drop m'= ts->FU B Z' v (acc ++ EK xs)->Q (.exit 0) e' Z'
 | .bad c l=>∀v Z' m' e',get e' 0= .p p 0 0->get e' 3=v->get e' 1000000= .u->FP p B Z Z'->PO p w g all Z' m' d true c l->JI v->Q (.exit 0) e' Z'
 | .out=>True
structure WTR (p w g:Nat)(all:List Tok)(n:Nat):Prop where
 block:∀(d:Nat) (Z:St) (m c0 l0:Nat) (Q:AV->St->Prop),PO p w g all Z m d false c0 l0->d<=64->aZ (all.drop m)->10*(all.drop m).length+10<=n->QSs p w g all Z d Q (dD n d (all.drop m))->au X 41 [.p p 0 0] Z Q
 branch:∀(d line:Nat) (Z:St) (m c0 l0:Nat) (Q:AV->St->Prop),PO p w g all Z m d false c0 l0->d<=64->aZ (all.drop m)->10*(all.drop m).length+12<=n->o7 p w g all Z d Q (dQ n d line (all.drop m))->au X 101 [.p p 0 0,.i .i64 line] Z Q
 stmt:∀(d:Nat) (Z:St) (m c0 l0:Nat) (Q:AV->St->Prop),PO p w g all Z m d false c0 l0->d<=64->aZ (all.drop m)->10*(all.drop m).length+14<=n->o7 p w g all Z d Q (fE n d (all.drop m))->au X 75 [.p p 0 0] Z Q
def StmtsLawR (p w g:Nat)(all:List Tok)(n:Nat):Prop:=∀(d B:Nat),d<=64->p<B->w<B->
 ∀ (acc:List Sm) (v:AV) (Z:St) (m c0 l0:Nat) (Q:Out->Env->St->Prop),PO p w g all Z m d false c0 l0->B<=Z.length->FU B Z v acc->aZ (all.drop m)->10*(all.drop m).length+15<=n->acc.length+(all.drop m).length<=40001->QQs p w g all B Z d acc Q (eG n d (all.drop m))->aV X [0,3] c41L0 [(0,.p p 0 0),(3,v)] Z Q
section
variable {p w g:Nat} {all:List Tok} {n:Nat}
theorem PO.toExt {m d c l:Nat} {b:Bool} {Z Z':St} (h:PO p w g all Z m d b c l)(x:Ext Z Z'):PO p w g all Z' m d b c l:=h.keep (x.old p (bK h.obj)) (x.old w (bK h.tok))
theorem PO.st {m d c l x k ln:Nat} {nm:List UInt8} {pt b:Bool} {L R T E:AV} {s:St} (h:PO p w g all s m d b c l)(hx:s[x]? =some (dK k nm pt L R T E ln))(b':AO):PO p w g all (s.set x b') m d b c l:=
 ⟨aK h.obj (fun e=>by subst e;have:=hx.symm.trans h.obj;simp [dK] at this) _,aK h.tok (fun e=>by subst e;have:=hx.symm.trans h.tok;simp [dK] at this) _,h.ne,h.len,h.at_,h.dp⟩
theorem PO.extB {B m d m' d' c c' l l':Nat} {b b':Bool} {Z Z2:St} (x:FP p Z.length (V3 p w g B Z m d b c l) Z2):aN p Z (V3 p w g B Z2 m' d' b' c' l'):=
 ⟨by rw [dW];have:=x.len;rw [dW] at this;exact this,fun i hi o_=>by unfold V3;rw [rZ (fun e=>o_ e.symm),x.old i hi o_];unfold V3;rw [rZ (fun e=>o_ e.symm)]⟩
theorem stmtsL_bad {m d c l:Nat} {v:AV} {Z:St} {Q:Out->Env->St->Prop} (h:PO p w g all Z m d true c l)(hv:JI v)
 (q:∀e',get e' 0= .p p 0 0->get e' 3=v->get e' 1000000= .u->Q (.exit 0) e' Z):aV X [0,3] c41L0 [(0,.p p 0 0),(3,v)] Z Q:=by
 rcases hv with rfl | ⟨o,g,k,rfl⟩
 all_goals
  refine aV.round ay (lit:=false) ?_
  conv=>whnf
  refine ak (aj (T:=xH) rfl rfl (ah (h.obj)) rfl) ?_
  conv=>whnf
  exact q _ rfl rfl rfl
theorem stmts_w (ih:WTR p w g all n)(ihS:StmtsLawR p w g all n):StmtsLawR p w g all (n+1):=by
 intro d B hd hp hw acc v Z m c0 l0 Q h hB ha he hn hs hQ
 obtain⟨t,r,hts⟩:=he.ne
 obtain⟨ht,hr⟩:=b_ hts
 unfold eG at hQ
 rw [hts] at hQ
 have hsl:JI v:=by obtain⟨cs,hr,_⟩:=ha;exact hr.sl
 rcases hsl with rfl | ⟨oo,gg,kk,rfl⟩
 all_goals
  refine aV.round ay (lit:=false) ?_
  conv=>whnf
  refine ak (aj (T:=xH) rfl rfl (ah (h.obj)) rfl) ?_
  conv=>whnf
  refine au.to (aaq _ h ht) ?_
  cases hi:iK [125] t with
  | true=>
    rw [if_pos (show aY [125] (t :: r)=true from hi)] at hQ
    conv=>whnf
    exact hQ _ Z m c0 l0 _ rfl rfl rfl (.refl _ _ _) h hts (by rw [show acc ++ EK .nil=acc from List.append_nil acc];exact ha)
  | false=>
    rw [if_neg (by rw [show aY [125] (t :: r)=iK [125] t from rfl,hi];decide),<-hts] at hQ
    have hg:=(FN n).stmt d (all.drop m) he (by omega)
    conv=>whnf
    refine ih.stmt d Z m c0 l0 _ h hd he (by omega) ?_
    generalize fE n d (all.drop m)=r1 at hg hQ
    cases r1 with
    | out=>exact hg.elim
    | bad c l=>
      intro oy gy s m2 y k
      have ly:=y.len
      conv=>whnf
      refine LY (D:=s.length) ha y hp hB (Nat.le_refl _) ly (by omega) oy gy fun o3 g3 k3 s3 e3 l3 kT kA=>?_
      have k4:=k.keep (e3 p hp) (e3 w hw)
      have yy:FP p B Z s3:=⟨by omega,fun i hi o_=>by rw [e3 i hi,y.old i (by omega) o_]⟩
      conv=>whnf
      exact stmtsL_bad k4 (.inr ⟨_,_,_,rfl⟩) fun e' q0 q3 q9=>hQ _ s3 m2 e' q0 q3 q9 yy k4 (.inr ⟨_,_,_,rfl⟩)
    | ok y0 bI=>
      intro oy gy s m2 c2 l2 y k hm2 LP
      have ly:=y.len
      have hQ:QQs p w g all B Z d acc Q ((eG n d bI).bind fun l ts=>.ok (.cons y0 l) ts):=hQ
      rw [<-hm2] at hQ hg
      have lg:=hg.2.2
      conv=>whnf
      refine LY (D:=Z.length) ha y hp hB ly (Nat.le_refl _) (by omega) oy gy fun o3 g3 k3 s3 e3 l3 kT kA=>?_
      have k4:=k.keep (e3 p hp) (e3 w hw)
      have yy:FP p B Z s3:=⟨by omega,fun i hi o_=>by rw [e3 i hi,y.old i (by omega) o_]⟩
      conv=>whnf
      refine ihS d B hd hp hw (acc ++ [y0]) _ s3 m2 c2 l2 Q k4 (by omega) (kA y0 LP) hg.2.1 (by omega) (by rw [bM];simp only [bg,bZ];omega) ?_
      generalize eG n d (all.drop m2)=r2 at hQ
      cases r2 with
      | out=>trivial
      | bad c l=>exact fun v4 Z4 m4 e' q0 q3 q9 x4=>hQ v4 Z4 m4 e' q0 q3 q9 (yy.trans x4)
      | ok xs wW=>exact fun v4 Z4 m4 c4 l4 e' q0 q3 q9 x4 h4 hm4 VB=>hQ v4 Z4 m4 c4 l4 e' q0 q3 q9 (yy.trans x4) h4 hm4 (by rw [iC] at VB;exact VB)
theorem aat {m d c l:Nat} {Z:St} {t:Tok} (h:PO p w g all Z m d true c l)(ht:all[m]? =some t)(hd:d+1<=1000) {Q:AV->St->Prop}
 (q:∀Z',aN p Z Z'->PO p w g all Z' m d true c l->Q .sl0 Z'):au X 41 [.p p 0 0] Z Q:=by
 refine au.body (F:=F41) ay (lit:=false) rfl rfl (aU rfl) ?_
 conv=>whnf
 refine open_bad _ h ht hd ?_
 have h1:=h.set (m':=m) (d':=d+1) (b':=true) (c':=c) (l':=l) h.at_ hd
 conv=>whnf
 refine stmtsL_bad h1 (.inl rfl) fun e' e0 e3 e9=>?_
 conv=>whnf
 rw [show Opd.ev e' (.t 0)=get e' 0 from rfl,e0]
 conv=>whnf
 refine aam _ h1 ht ?_
 have h3:=h1.set (m':=m) (d':=d) (b':=true) (c':=c) (l':=l) h.at_ h.dp
 conv=>whnf
 have q3:Opd.ev (put (some 22) (.tu []) (put (some 21) (.p p 0 0) e')) (.t 3)= .sl0:=e3
 erw [q3]
 conv=>whnf
 exact lZ (q _ (PO.ext.trans PO.ext) h3) fun _=>q _ (.refl _ _) h
theorem block_w (ihS:StmtsLawR p w g all n)(d:Nat)(Z:St)(m c0 l0:Nat)(Q:AV->St->Prop)(h:PO p w g all Z m d false c0 l0)(hd:d<=64)(he:aZ (all.drop m))(hn:10*(all.drop m).length+10<=n+1)(hQ:QSs p w g all Z d Q (dD (n+1) d (all.drop m))):au X 41 [.p p 0 0] Z Q:=by
 obtain⟨t,r,hts⟩:=he.ne
 obtain⟨ht,hr⟩:=b_ hts
 have hpl:=bK h.obj
 have hwl:=bK h.tok
 have hal:=h.len
 have hm:=h.at_
 unfold dD gV at hQ
 rw [hts] at hQ
 refine au.body (F:=F41) ay (lit:=false) rfl rfl (aU rfl) ?_
 conv=>whnf
 refine open_to [123] h ht (by omega) (fun hi=>(aX he hts hi).1) (fun hi h64=>?_) (fun hi h64=>?_) (fun hi=>?_)
 ·obtain⟨hm1,he1,hl1⟩:=aX he hts hi
  have h1:=h.set (m':=m+1) (d':=d+1) (b':=false) (c':=c0) (l':=l0) hm1 (by omega)
  rw [if_neg (by omega),aQ,if_pos (show aY [123] (t :: r)=true from hi)] at hQ
  have hQ:QSs p w g all Z d Q ((eG n (d+1) r).bind fun l ts=>(aQ [125] ts).bind fun _ ts=>.ok l ts):=hQ
  rw [<-hr] at hQ
  have hg:=(FN n).stmts (d+1) (all.drop (m+1)) he1 (by omega)
  conv=>whnf
  refine ihS (d+1) Z.length (by omega) hpl hwl [] .sl0 _ (m+1) _ _ _ h1 (by rw [dW];exact Nat.le_refl _) ⟨[],.inl ⟨rfl,rfl⟩,trivial⟩ he1 (by omega) (by simp only [bZ,pF];omega) ?_
  generalize eG n (d+1) (all.drop (m+1))=r1 at hg hQ
  cases r1 with
  | out=>exact hg.elim
  | bad c l=>
    have hQ:QSs p w g all Z d Q (.bad c l):=hQ
    intro v Z2 m2 e' e0 e3 e9 x2 h2 hv
    obtain⟨t2,ht2⟩:∃t2,all[m2]? =some t2:=⟨_,sN h2.at_⟩
    have h3:=h2.set (m':=m2) (d':=d) (b':=true) (c':=c) (l':=l) h2.at_ h.dp
    have hv':=hv
    rcases hv with rfl | ⟨oo,gg,kk,rfl⟩
    all_goals
        conv=>whnf
        rw [show Opd.ev e' (.t 0)=get e' 0 from rfl,e0]
        conv=>whnf
        refine aam _ h2 ht2 ?_
        conv=>whnf
        have q3:Opd.ev (put (some 22) (.tu []) (put (some 21) (.p p 0 0) e')) (.t 3)=_:=e3
        erw [q3]
        conv=>whnf
        exact yV h.obj h3.obj (by simp [aar]) (hQ _ _ _ (PO.extB x2) h3 hv')
  | ok xs bI=>
    intro v Z2 m2 c2 l2 e' e0 e3 e9 x2 h2 hm2 hacc
    have harg:dX (fun i=>Z.length<=i) Z2 v xs:=by have:=hacc.arg;rw [List.nil_append,VE] at this;exact this
    have hv:JI v:=by obtain⟨cs,hr,_⟩:=hacc;exact hr.sl
    have he2:aZ (all.drop m2):=by rw [hm2];exact hg.2.1
    have hlg:=hg.2.2
    rw [<-hm2] at hlg
    obtain⟨t2,r2,jE⟩:=he2.ne
    obtain⟨ht2,hr2⟩:=b_ jE
    have hQ:QSs p w g all Z d Q ((aQ [125] bI).bind fun _ ts=>.ok xs ts):=hQ
    rw [<-hm2,jE] at hQ
    have hmm:m<m2+1:=by simp only [pF] at hlg hl1;omega
    have hv':=hv
    rcases hv with rfl | ⟨oo,gg,kk,rfl⟩
    all_goals
        conv=>whnf
        rw [show Opd.ev e' (.t 0)=get e' 0 from rfl,e0]
        conv=>whnf
        refine shut_to _ h2 ht2 (fun hi2=>(aX he2 jE hi2).1) (fun hi2=>?_) (fun hi2=>?_)
        ·rw [aQ,if_pos (show aY [125] (t2 :: r2)=true from hi2)] at hQ
         have h3:=h2.set (m':=m2+1) (d':=d) (b':=false) (c':=c2) (l':=l2) (aX he2 jE hi2).1 h.dp
         conv=>whnf
         have q3:Opd.ev (put (some 22) (.tu []) (put (some 21) (.p p 0 0) e')) (.t 3)=_:=e3
         erw [q3]
         conv=>whnf
         exact yV h.obj h3.obj (by simp [aar];omega) (hQ _ _ _ _ _ (PO.extB x2) h3 hr2 (dX.mono (fun i hi=>hi) (fun i hi a ha=>PO.ext.get (by omega) ha) harg) hv')
        ·rw [aQ,if_neg (show ¬aY [125] (t2 :: r2)=true by rw [show aY [125] (t2 :: r2)=iK [125] t2 from rfl,hi2];decide)] at hQ
         have h3:=h2.set (m':=m2) (d':=d) (b':=true) (c':=4) (l':=t2.l) h2.at_ h.dp
         conv=>whnf
         have q3:Opd.ev (put (some 22) (.tu []) (put (some 21) (.p p 0 0) e')) (.t 3)=_:=e3
         erw [q3]
         conv=>whnf
         exact yV h.obj h3.obj (by simp [aar]) (hQ _ _ _ (PO.extB x2) h3 hv')
 ·rw [if_pos ⟨show aY [123] (t :: r)=true from hi,h64⟩] at hQ
  have hQ:QSs p w g all Z d Q (.bad 3 t.l):=hQ
  have h1:=h.set (m':=m) (d':=d+1) (b':=true) (c':=3) (l':=t.l) h.at_ (by omega)
  conv=>whnf
  refine stmtsL_bad h1 (.inl rfl) fun e' e0 e3 e9=>?_
  conv=>whnf
  rw [show Opd.ev e' (.t 0)=get e' 0 from rfl,e0]
  conv=>whnf
  refine aam _ h1 ht ?_
  have h3:=h1.set (m':=m) (d':=d) (b':=true) (c':=3) (l':=t.l) h.at_ h.dp
  conv=>whnf
  have q3:Opd.ev (put (some 22) (.tu []) (put (some 21) (.p p 0 0) e')) (.t 3)= .sl0:=e3
  erw [q3]
  conv=>whnf
  exact yV h.obj h3.obj (by simp [aar]) (hQ _ _ _ (PO.ext.trans PO.ext) h3 (.inl rfl))
 ·have hiw:¬aY [123] (t :: r)=true:=by rw [show aY [123] (t :: r)=iK [123] t from rfl,hi];decide
  rw [if_neg (fun e=>hiw e.1),aQ,if_neg hiw] at hQ
  have hQ:QSs p w g all Z d Q (.bad 4 t.l):=hQ
  have h1:=h.set (m':=m) (d':=d+1) (b':=true) (c':=4) (l':=t.l) h.at_ (by omega)
  conv=>whnf
  refine stmtsL_bad h1 (.inl rfl) fun e' e0 e3 e9=>?_
  conv=>whnf
  rw [show Opd.ev e' (.t 0)=get e' 0 from rfl,e0]
  conv=>whnf
  refine aam _ h1 ht ?_
  have h3:=h1.set (m':=m) (d':=d) (b':=true) (c':=4) (l':=t.l) h.at_ h.dp
  conv=>whnf
  have q3:Opd.ev (put (some 22) (.tu []) (put (some 21) (.p p 0 0) e')) (.t 3)= .sl0:=e3
  erw [q3]
  conv=>whnf
  exact yV h.obj h3.obj (by simp [aar]) (hQ _ _ _ (PO.ext.trans PO.ext) h3 (.inl rfl))
end
end Go.Abs.YtlkfbfhkcaldlaaGreatDoor
namespace Go.Abs.YtlkfbfhkcaldlaaGreatDoor
open Go.Proofs
set_option maxRecDepth 4000
section
variable {p w g:Nat} {all:List Tok} {n:Nat}
theorem next_at {m d c l:Nat} {b:Bool} {Z:St} (h:PO p w g all Z m d b c l):∃t,all[m]? =some t:=⟨_,sN h.at_⟩
theorem branch_w (ihE:WE p w g all n)(ih:WTR p w g all n)(d line:Nat)(Z:St)(m c0 l0:Nat)(Q:AV->St->Prop)(h:PO p w g all Z m d false c0 l0)(hd:d<=64)(he:aZ (all.drop m))(hn:10*(all.drop m).length+12<=n+1)(hQ:o7 p w g all Z d Q (dQ (n+1) d line (all.drop m))):au X 101 [.p p 0 0,.i .i64 line] Z Q:=by
 have hpl:=bK h.obj
 unfold dQ at hQ
 have hg:=(uD n).expr d 1 (all.drop m) he (by omega)
 refine au.body (F:=F101) ay (lit:=false) rfl rfl (aU rfl) ?_
 conv=>whnf
 refine ihE.expr d 1 Z m c0 l0 _ h hd (by omega) he (by omega) ?_
 generalize dn n d 1 (all.drop m)=r1 at hg hQ
 cases r1 with
 | out=>exact hg.elim
 | bad c l=>
   have hQ:o7 p w g all Z d Q (.bad c l):=hQ
   intro o g' s0 m2 y k0
   have ly:=y.len
   obtain⟨t2,ht2⟩:=next_at k0
   conv=>whnf
   have b1:(newCells 95 (AV.ag [.i .i64 4,.s [],.b false,.p0,.p o g' 0,.sl0,.sl0,.i .i64 line]).cells s0)[s0.length]? =some ⟨0,false,.cells 95 [.i .i64 4,.s [],.b false,.p0,.p o g' 0,.sl0,.sl0,.i .i64 line]⟩:=aG _ _ _
   have x1:Ext s0 (newCells 95 (AV.ag [.i .i64 4,.s [],.b false,.p0,.p o g' 0,.sl0,.sl0,.i .i64 line]).cells s0):=(Ext.refl s0).new _ _
   have l1:(newCells 95 (AV.ag [.i .i64 4,.s [],.b false,.p0,.p o g' 0,.sl0,.sl0,.i .i64 line]).cells s0).length=s0.length+1:=aH _ _ _
   generalize newCells 95 (AV.ag [.i .i64 4,.s [],.b false,.p0,.p o g' 0,.sl0,.sl0,.i .i64 line]).cells s0=Z1 at b1 x1 l1 ⊢
   have k:=k0.toExt x1
   have b1:Z1[s0.length]? =some (dK 4 [] false .p0 (.p o g' 0) .sl0 .sl0 line):=b1
   conv=>whnf
   refine aat k ht2 (by have:=h.dp;omega) fun s3 y3 k3=>?_
   have Ze:=y3.get (by omega) b1
   conv=>whnf
   refine ak (aC (T:=dL) ([.i .i64 4,.s [],.b false,.p0,.p o g' 0,.sl0,.sl0,.i .i64 line]) rfl (Ze) rfl rfl (aU rfl) rfl) ?_
   conv=>whnf
   have k4:=k3.st Ze (dK 4 [] false .p0 (.p o g' 0) .sl0 .sl0 line)
   refine sW [101,108,115,101] k4 ht2 (fun e=>by cases e) (fun _=>?_)
   conv=>whnf
   exact Fin.ref rfl (hQ _ _ _ _ (((y.trans (aN.of x1)).trans y3).set (by omega) _) k4)
 | ok z bI=>
   intro o g' s0 m2 c2 l2 y k0 hm2 hez0
   have hQ:o7 p w g all Z d Q ((dD n d bI).bind fun th ts=>
    if aY jJ ts=true then
        if aY I7 ts.tail=true then(dQ n d (kW ts.tail) ts.tail.tail).bind fun b ts=>.ok (.st 4 [] false .nil z th (.cons b .nil) line) ts
        else(dD n d ts.tail).bind fun el ts=>.ok (.st 4 [] false .nil z th el line) ts
    else .ok (.st 4 [] false .nil z th .nil line) ts):=hQ
   have ly:=y.len
   have hez1:=hez0.below
   conv=>whnf
   have b1:(newCells 95 (AV.ag [.i .i64 4,.s [],.b false,.p0,.p o g' 0,.sl0,.sl0,.i .i64 line]).cells s0)[s0.length]? =some ⟨0,false,.cells 95 [.i .i64 4,.s [],.b false,.p0,.p o g' 0,.sl0,.sl0,.i .i64 line]⟩:=aG _ _ _
   have x1:Ext s0 (newCells 95 (AV.ag [.i .i64 4,.s [],.b false,.p0,.p o g' 0,.sl0,.sl0,.i .i64 line]).cells s0):=(Ext.refl s0).new _ _
   have l1:(newCells 95 (AV.ag [.i .i64 4,.s [],.b false,.p0,.p o g' 0,.sl0,.sl0,.i .i64 line]).cells s0).length=s0.length+1:=aH _ _ _
   generalize newCells 95 (AV.ag [.i .i64 4,.s [],.b false,.p0,.p o g' 0,.sl0,.sl0,.i .i64 line]).cells s0=Z1 at b1 x1 l1 ⊢
   have k:=k0.toExt x1
   have b1:Z1[s0.length]? =some (dK 4 [] false .p0 (.p o g' 0) .sl0 .sl0 line):=b1
   have y1:aN p Z Z1:=y.trans (aN.of x1)
   have LV:bP (fun i=>Z.length<=i/\i<s0.length) Z1 (.p o g' 0) z:=bP.mono (fun i hi=>hi) (fun i hi a ha=>x1.get ha) hez1
   rw [<-hm2] at hQ hg
   have lg:=hg.2.2
   have hgb:=(FN n).block d (all.drop m2) hg.2.1 (by omega)
   conv=>whnf
   refine ih.block d _ m2 _ _ _ k hd hg.2.1 (by omega) ?_
   generalize dD n d (all.drop m2)=r2 at hgb hQ
   cases r2 with
   | out=>exact hgb.elim
   | bad c l=>
     have hQ:o7 p w g all Z d Q (.bad c l):=hQ
     intro A s3 m3 y3 k3 hA
     have Ze:=y3.get (by omega) b1
     obtain⟨t3,ht3⟩:=next_at k3
     refine dJ _ _ ?_
     conv=>whnf
     refine ak (ji (T:=dL) [.i .i64 4,.s [],.b false,.p0,.p o g' 0,A,.sl0,.i .i64 line] hA rfl rfl Ze (aU rfl) rfl) ?_
     have k4:=k3.st Ze (dK 4 [] false .p0 (.p o g' 0) A .sl0 line)
     conv=>whnf
     refine sW [101,108,115,101] k4 ht3 (fun e=>by cases e) (fun _=>?_)
     conv=>whnf
     exact Fin.ref rfl (hQ _ _ _ _ ((y1.trans y3).set (by omega) _) k4)
   | ok th dM=>
     intro A s3 m3 c3 l3' y3 k3 hm3 hth hA
     have hQ:o7 p w g all Z d Q (
        if aY jJ dM=true then
         if aY I7 dM.tail=true then(dQ n d (kW dM.tail) dM.tail.tail).bind fun b ts=>.ok (.st 4 [] false .nil z th (.cons b .nil) line) ts
         else(dD n d dM.tail).bind fun el ts=>.ok (.st 4 [] false .nil z th el line) ts
        else .ok (.st 4 [] false .nil z th .nil line) dM):=hQ
     have Ze:=y3.get (by omega) b1
     have l3:=y3.len
     have he3:aZ (all.drop m3):=by rw [hm3];exact hgb.2.1
     obtain⟨t3,r3,FT⟩:=he3.ne
     obtain⟨ht3,hr3⟩:=b_ FT
     have hlen3:(all.drop m3).length=r3.length+1:=by rw [FT];rfl
     have lgb:=hgb.2.2
     rw [<-hm3] at lgb
     rw [<-hm3,FT] at hQ
     have hQ:o7 p w g all Z d Q (
        if aY jJ (t3 :: r3)=true then
         if aY I7 r3=true then(dQ n d (kW r3) r3.tail).bind fun b ts=>.ok (.st 4 [] false .nil z th (.cons b .nil) line) ts
         else(dD n d r3).bind fun el ts=>.ok (.st 4 [] false .nil z th el line) ts
        else .ok (.st 4 [] false .nil z th .nil line) (t3 :: r3)):=hQ
     refine dJ _ _ ?_
     conv=>whnf
     refine ak (ji (T:=dL) [.i .i64 4,.s [],.b false,.p0,.p o g' 0,A,.sl0,.i .i64 line] hA rfl rfl Ze (aU rfl) rfl) ?_
     have k4:=k3.st Ze (dK 4 [] false .p0 (.p o g' 0) A .sl0 line)
     have fx4:(s3.set s0.length (dK 4 [] false .p0 (.p o g' 0) A .sl0 line))[s0.length]? =_:=at_set Ze _
     have y4:aN p Z (s3.set s0.length (dK 4 [] false .p0 (.p o g' 0) A .sl0 line)):=(y1.trans y3).set (by omega) _
     have hez4:bP (fun i=>Z.length<=i/\i<s0.length) (s3.set s0.length (dK 4 [] false .p0 (.p o g' 0) A .sl0 line)) (.p o g' 0) z:=bP.mono (fun i hi=>hi) (fun i hi a ha=>aK (y3.get (by omega) ha) (by omega) _) LV
     have hth4:dX (fun i=>Z1.length<=i) (s3.set s0.length (dK 4 [] false .p0 (.p o g' 0) A .sl0 line)) A th:=dX.mono (fun i hi=>hi) (fun i hi a ha=>aK ha (by omega) _) hth
     have l4:(s3.set s0.length (dK 4 [] false .p0 (.p o g' 0) A .sl0 line)).length=s3.length:=gK
     have fin:∀(E:AV) (el:gY) (s5:St),aN p (s3.set s0.length (dK 4 [] false .p0 (.p o g' 0) A .sl0 line)) s5->dX (fun i=>Z1.length<=i) (s5.set s0.length (dK 4 [] false .p0 (.p o g' 0) A E line)) E el->jc (fun i=>Z.length<=i) (s5.set s0.length (dK 4 [] false .p0 (.p o g' 0) A E line)) (.p s0.length 0 0) (.st 4 [] false .nil z th el line):=by
        intro E el s5 y5 hE
        refine⟨s0.length,0,.p0,.p o g' 0,A,E,ly,rfl,at_set (y5.get (by omega) fx4) _,rfl,?_,?_,?_⟩
        ·exact bP.mono (fun i hi=>hi.1) (fun i hi a ha=>aK (y5.get (by omega) ha) (by omega) _) hez4
        ·exact dX.mono (fun i hi=>by omega) (fun i hi a ha=>aK (y5.get (by omega) ha) (by omega) _) hth4
        ·exact dX.mono (fun i hi=>by omega) (fun i hi a ha=>ha) hE
     conv=>whnf
     refine sW [101,108,115,101] k4 ht3 (fun _ hi=>?_) (fun hi=>?_)
     ·rw [if_pos (show aY jJ (t3 :: r3)=true from hi)] at hQ
      obtain⟨hm4,he4,hle4⟩:=aX he3 FT hi
      obtain⟨t4,r4,RN⟩:=he4.ne
      obtain⟨ht4,hr4⟩:=b_ RN
      have hrr:r3=t4 :: r4:=by rw [<-RN,hr3]
      have hlen4:(all.drop (m3+1)).length=r4.length+1:=by rw [RN];rfl
      have hlr:r3.length=r4.length+1:=by rw [hrr];rfl
      rw [hrr] at hQ
      have k5:=k4.set (m':=m3+1) (d':=d) (b':=false) (c':=c3) (l':=l3') hm4 h.dp
      have y5:=PO.ext (p:=p) (w:=w) (g:=g) (n:=all.length) (m:=m3+1) (d:=d) (b:=false) (c:=c3) (l:=l3') (Z:=s3.set s0.length (dK 4 [] false .p0 (.p o g' 0) A .sl0 line))
      have l5:=y5.len
      conv=>whnf
      refine au.to (aao k5 ht4) ?_
      conv=>whnf
      refine tok_st t4 k5 fun s6 x6 k6 Qg l6=>?_
      have y6:=y5.trans x6
      conv=>whnf
      refine sW [105,102] k6 ht4 (fun _ hi2=>?_) (fun hi2=>?_)
      ·rw [if_pos (show aY I7 (t4 :: r4)=true from hi2)] at hQ
       have hQ:o7 p w g all Z d Q ((dQ n d t4.l r4).bind fun b ts=>.ok (.st 4 [] false .nil z th (.cons b .nil) line) ts):=hQ
       obtain⟨hm5,Vp,hle5⟩:=aX he4 RN hi2
       have hlen5:(all.drop (m3+1+1)).length=r4.length:=by rw [hr4]
       have hg5:=(FN n).branch d t4.l (all.drop (m3+1+1)) Vp (by omega)
       have k7:=k6.set (m':=m3+1+1) (d':=d) (b':=false) (c':=c3) (l':=l3') hm5 h.dp
       have y7:=y6.trans (PO.ext (p:=p) (w:=w) (g:=g) (n:=all.length) (m:=m3+1+1) (d:=d) (b:=false) (c:=c3) (l:=l3') (Z:=s6))
       have l7:=y7.len
       rw [<-hr4] at hQ
       conv=>whnf
       refine ak (aj (T:=fF) rfl rfl (ah ((PO.ext.get (by omega) Qg))) rfl) ?_
       conv=>whnf
       refine ih.branch d t4.l _ (m3+1+1) _ _ _ k7 hd Vp (by omega) ?_
       generalize dQ n d t4.l (all.drop (m3+1+1))=r5 at hg5 hQ
       cases r5 with
       | out=>exact hg5.elim
       | bad c l=>
         have hQ:o7 p w g all Z d Q (.bad c l):=hQ
         intro o8 g8 s8 m8 y8 k8
         have RP:=y7.trans y8
         conv=>whnf
         have b9:(newCells 96 [.p o8 g8 0] s8)[s8.length]? =some ⟨0,false,.cells 96 [.p o8 g8 0]⟩:=aG _ _ _
         have x9:Ext s8 (newCells 96 [.p o8 g8 0] s8):=(Ext.refl s8).new _ _
         have l9:(newCells 96 [.p o8 g8 0] s8).length=s8.length+1:=aH _ _ _
         generalize newCells 96 [.p o8 g8 0] s8=Z9 at b9 x9 l9 ⊢
         have VG:=x9.get (RP.get (by omega) fx4)
         have k9:=k8.toExt x9
         refine ak (aC (T:=dL) ([.i .i64 4,.s [],.b false,.p0,.p o g' 0,A,.sl s8.length 0 0 1 1,.i .i64 line]) rfl (VG) rfl rfl (aU rfl) rfl) ?_
         conv=>whnf
         exact Fin.ref rfl (hQ _ _ _ _ ((y4.trans (RP.trans (aN.of x9))).set (by omega) _) (k9.st VG _))
       | ok bs su=>
         have hQ:o7 p w g all Z d Q (.ok (.st 4 [] false .nil z th (.cons bs .nil) line) su):=hQ
         intro o8 g8 s8 m8 c8 l8' y8 k8 hm8 hbs
         have RP:=y7.trans y8
         have l8:=y8.len
         rw [dW] at l8 hbs
         conv=>whnf
         have b9:(newCells 96 [.p o8 g8 0] s8)[s8.length]? =some ⟨0,false,.cells 96 [.p o8 g8 0]⟩:=aG _ _ _
         have x9:Ext s8 (newCells 96 [.p o8 g8 0] s8):=(Ext.refl s8).new _ _
         have l9:(newCells 96 [.p o8 g8 0] s8).length=s8.length+1:=aH _ _ _
         generalize newCells 96 [.p o8 g8 0] s8=Z9 at b9 x9 l9 ⊢
         have VG:=x9.get (RP.get (by omega) fx4)
         have k9:=k8.toExt x9
         refine ak (aC (T:=dL) ([.i .i64 4,.s [],.b false,.p0,.p o g' 0,A,.sl s8.length 0 0 1 1,.i .i64 line]) rfl (VG) rfl rfl (aU rfl) rfl) ?_
         conv=>whnf
         refine Fin.ref rfl (hQ _ _ _ _ _ _ ((y4.trans (RP.trans (aN.of x9))).set (by omega) _) (k9.st VG _) hm8 (fin _ _ _ (RP.trans (aN.of x9)) ?_))
         refine⟨s8.length,0,[.p o8 g8 0],by omega,rfl,aK b9 (by omega) _,_,[],rfl,?_,rfl⟩
         exact jc.mono (fun i hi=>by omega) (fun i hi a ha=>aK (x9.get ha) (by omega) _) hbs
      ·have hni:iK [105,102] t4=false:=by simpa using hi2
       rw [if_neg (show ¬aY I7 (t4 :: r4)=true by rw [show aY I7 (t4 :: r4)=iK [105,102] t4 from rfl,hni];decide),<-RN] at hQ
       have hQ:o7 p w g all Z d Q ((dD n d (all.drop (m3+1))).bind fun el ts=>.ok (.st 4 [] false .nil z th el line) ts):=hQ
       have hg5:=(FN n).block d (all.drop (m3+1)) he4 (by omega)
       have l7:=y6.len
       conv=>whnf
       refine ih.block d _ (m3+1) _ _ _ k6 hd he4 (by omega) ?_
       generalize dD n d (all.drop (m3+1))=r5 at hg5 hQ
       cases r5 with
       | out=>exact hg5.elim
       | bad c l=>
         have hQ:o7 p w g all Z d Q (.bad c l):=hQ
         intro E s8 m8 y8 k8 hE
         have RP:=y6.trans y8
         have VG:=RP.get (by omega) fx4
         refine dJ _ _ ?_
         conv=>whnf
         refine ak (ji (T:=dL) [.i .i64 4,.s [],.b false,.p0,.p o g' 0,A,E,.i .i64 line] hE rfl rfl VG (aU rfl) rfl) ?_
         conv=>whnf
         exact Fin.ref rfl (hQ _ _ _ _ ((y4.trans RP).set (by omega) _) (k8.st VG _))
       | ok el su=>
         have hQ:o7 p w g all Z d Q (.ok (.st 4 [] false .nil z th el line) su):=hQ
         intro E s8 m8 c8 l8' y8 k8 hm8 hel hE
         have RP:=y6.trans y8
         have l8:=y8.len
         have VG:=RP.get (by omega) fx4
         refine dJ _ _ ?_
         conv=>whnf
         refine ak (ji (T:=dL) [.i .i64 4,.s [],.b false,.p0,.p o g' 0,A,E,.i .i64 line] hE rfl rfl VG (aU rfl) rfl) ?_
         conv=>whnf
         exact Fin.ref rfl (hQ _ _ _ _ _ _ ((y4.trans RP).set (by omega) _) (k8.st VG _) hm8 (fin _ _ _ RP (dX.mono (fun i hi=>by omega) (fun i hi a ha=>aK ha (by omega) _) hel)))
     ·have hni:iK [101,108,115,101] t3=false:=by simpa using hi
      rw [if_neg (show ¬aY jJ (t3 :: r3)=true by rw [show aY jJ (t3 :: r3)=iK [101,108,115,101] t3 from rfl,hni];decide)] at hQ
      conv=>whnf
      have e4:=yX fx4
      refine Fin.ref rfl (hQ _ _ _ _ _ _ y4 k4 FT ?_)
      have:=fin .sl0 .nil _ (.refl _ _) rfl
      rw [e4] at this
      exact this
end
end Go.Abs.YtlkfbfhkcaldlaaGreatDoor
namespace Go.Abs.YtlkfbfhkcaldlaaGreatDoor
open Go.Proofs
set_option maxRecDepth 4000
section
variable {p w g:Nat} {all:List Tok} {n:Nat}
theorem endedR_to (hno:EH all):∀(n d:Nat) (Z:St) (m c0 l0:Nat) (Q:AV->St->Prop),PO p w g all Z m d false c0 l0->d<=64->aZ (all.drop m)->10*(all.drop m).length+10<=n->PE p w g all Z d Q (bU n d (all.drop m))->au X 102 [.p p 0 0] Z Q
 | 0,_,_,_,_,_,_,_,_,_,h,_=>absurd h (by omega)
 | n+1,d,Z,m,c0,l0,Q,h,hd,he,hn,hQ=>ended_w (allW hno n).1 d Z m c0 l0 Q h hd he hn hQ
set_option maxHeartbeats 4000000 in
theorem stmt_w (hno:EH all)(ih:WTR p w g all n)(d:Nat)(Z:St)(m c0 l0:Nat)(Q:AV->St->Prop)(h:PO p w g all Z m d false c0 l0)(hd:d<=64)(he:aZ (all.drop m))(hn:10*(all.drop m).length+14<=n+1)(hQ:o7 p w g all Z d Q (fE (n+1) d (all.drop m))):au X 75 [.p p 0 0] Z Q:=by
 obtain⟨t,r,hts⟩:=he.ne
 obtain⟨ht,hr⟩:=b_ hts
 have hpl:=bK h.obj
 have hlr:(all.drop m).length=r.length+1:=by rw [hts];rfl
 unfold fE at hQ
 rw [hts] at hQ
 simp only at hQ
 refine au.body (F:=F75) ay (lit:=false) rfl rfl (aU rfl) ?_
 conv=>whnf
 refine au.to (aao h ht) ?_
 conv=>whnf
 refine tok_st t h fun Z1 x1 h1 ht1 hl1=>?_
 conv=>whnf
 refine ak (aj (T:=fF) rfl rfl (ah (ht1)) rfl) ?_
 conv=>whnf
 have b2:(newCells 95 (AV.ag [.i .i64 0,.s [],.b false,.p0,.p0,.sl0,.sl0,.i .i64 t.l]).cells Z1)[Z1.length]? =some ⟨0,false,.cells 95 [.i .i64 0,.s [],.b false,.p0,.p0,.sl0,.sl0,.i .i64 t.l]⟩:=aG _ _ _
 have x2:Ext Z1 (newCells 95 (AV.ag [.i .i64 0,.s [],.b false,.p0,.p0,.sl0,.sl0,.i .i64 t.l]).cells Z1):=(Ext.refl Z1).new _ _
 have l2:(newCells 95 (AV.ag [.i .i64 0,.s [],.b false,.p0,.p0,.sl0,.sl0,.i .i64 t.l]).cells Z1).length=Z1.length+1:=aH _ _ _
 generalize newCells 95 (AV.ag [.i .i64 0,.s [],.b false,.p0,.p0,.sl0,.sl0,.i .i64 t.l]).cells Z1=Z2 at b2 x2 l2 ⊢
 have b2:Z2[Z1.length]? =some (dK 0 [] false .p0 .p0 .sl0 .sl0 t.l):=b2
 have k2:=h1.toExt x2
 have y2:aN p Z Z2:=x1.trans (aN.of x2)
 have tk2:=x2.get ht1
 have he1:∀s,iK s t=true->m+1<all.length/\aZ (all.drop (m+1))/\(all.drop (m+1)).length<(all.drop m).length:=fun s hi=>aX he hts hi
 conv=>whnf
 refine sW [118,97,114] k2 ht (fun _ hi=>?_) (fun hi=>?_)
 ·rw [if_pos (show aY Et (t :: r)=true from hi)] at hQ
  obtain⟨hm1,he2,hle⟩:=he1 _ hi
  have k3:=k2.set (m':=m+1) (d':=d) (b':=false) (c':=c0) (l':=l0) hm1 h.dp
  have z3:aN p Z2 _:=PO.ext (p:=p) (w:=w) (g:=g) (n:=all.length) (m:=m+1) (d:=d) (b:=false) (c:=c0) (l:=l0) (Z:=Z2)
  have f3:=z3.get (by omega) b2
  conv=>whnf
  refine ak (aC (T:=fF) ([.i .i64 1,.s [],.b false,.p0,.p0,.sl0,.sl0,.i .i64 t.l]) rfl (f3) rfl rfl (aU rfl) rfl) ?_
  conv=>whnf
  have k4:=k3.st f3 (dK 1 [] false .p0 .p0 .sl0 .sl0 t.l)
  have f4:(_:St)[Z1.length]? =_:=at_set f3 (dK 1 [] false .p0 .p0 .sl0 .sl0 t.l)
  have y4:aN p Z _:=(y2.trans z3).set (o:=Z1.length) (by omega) (dK 1 [] false .p0 .p0 .sl0 .sl0 t.l)
  have l4:=bK f4
  rw [<-hr] at hQ
  obtain⟨t3,r3,FT⟩:=he2.ne
  obtain⟨ht3,hr3⟩:=b_ FT
  have hlr3:(all.drop (m+1)).length=r3.length+1:=by rw [FT];rfl
  rw [FT] at hQ
  refine name_to k4 ht3 (fun hk=>uG (by rw [hr3];exact(FT▸he2).tail (by rw [hk];decide))) (fun hk s5 y5 k5=>?_) (fun hk s5 y5 k5=>?_)
  ·rw [fA,if_pos hk] at hQ
   have he3:aZ (all.drop (m+1+1)):=by rw [hr3];exact(FT▸he2).tail (by rw [hk];decide)
   have f5:=y5.get (by omega) f4
   have l5:=y5.len
   conv=>whnf
   refine ak (aC (T:=fB) ([.i .i64 1,.s t3.s,.b false,.p0,.p0,.sl0,.sl0,.i .i64 t.l]) rfl (f5) rfl rfl (aU rfl) rfl) ?_
   conv=>whnf
   have k6:=k5.st f5 (dK 1 t3.s false .p0 .p0 .sl0 .sl0 t.l)
   have f6:(_:St)[Z1.length]? =_:=at_set f5 (dK 1 t3.s false .p0 .p0 .sl0 .sl0 t.l)
   have y6:aN p Z _:=(y4.trans y5).set (o:=Z1.length) (by omega) (dK 1 t3.s false .p0 .p0 .sl0 .sl0 t.l)
   have l6:=bK f6
   obtain⟨t6,r6,kX⟩:=he3.ne
   obtain⟨Qg,FV⟩:=b_ kX
   have hlr6:(all.drop (m+1+1)).length=r6.length+1:=by rw [kX];rfl
   have hlr36:r3.length=r6.length+1:=by rw [<-hr3,kX];rfl
   have hQ:o7 p w g all Z d Q (if aY [61] (if aY dA r3=true then r3.tail else r3)=true then(bU n d (if aY dA r3=true then r3.tail else r3).tail).bind fun x ts=>.ok (.st 1 t3.s (aY dA r3) .nil x .nil .nil t.l) ts else(aQ [59] (if aY dA r3=true then r3.tail else r3)).bind fun _ ts=>.ok (.st 1 t3.s (aY dA r3) .nil .nil .nil .nil t.l) ts):=hQ
   rw [<-hr3,kX] at hQ
   conv=>whnf
   refine sW _ k6 Qg (fun _ o_=>?_) (fun o_=>?_)
   ·have hpw:aY dA (t6 :: r6)=true:=o_
    obtain⟨hm6,he6,hle6⟩:=aX he3 kX o_
    have k7:=k6.set (m':=m+1+1+1) (d':=d) (b':=false) (c':=c0) (l':=l0) hm6 h.dp
    have z7:=y6.trans (PO.ext (p:=p) (w:=w) (g:=g) (n:=all.length) (m:=m+1+1+1) (d:=d) (b:=false) (c:=c0) (l:=l0))
    have f7:=(PO.ext (p:=p) (w:=w) (g:=g) (n:=all.length) (m:=m+1+1+1) (d:=d) (b:=false) (c:=c0) (l:=l0)).get (by omega) f6
    simp only [hpw,if_true,List.tail_cons] at hQ
    rw [<-FV] at hQ
    conv=>whnf
    refine ak (aC (T:=xH) ([.i .i64 1,.s t3.s,.b true,.p0,.p0,.sl0,.sl0,.i .i64 t.l]) rfl (f7) rfl rfl (aU rfl) rfl) ?_
    conv=>whnf
    have k8:=k7.st f7 (dK 1 t3.s true .p0 .p0 .sl0 .sl0 t.l)
    have f8:(_:St)[Z1.length]? =_:=at_set f7 (dK 1 t3.s true .p0 .p0 .sl0 .sl0 t.l)
    have y8:aN p Z _:=z7.set (o:=Z1.length) (by omega) (dK 1 t3.s true .p0 .p0 .sl0 .sl0 t.l)
    have l8:=bK f8
    obtain⟨t9,r9,hts9⟩:=he6.ne
    obtain⟨ht9,hr9⟩:=b_ hts9
    have hlr9:(all.drop (m+1+1+1)).length=r9.length+1:=by rw [hts9];rfl
    rw [hts9] at hQ
    conv=>whnf
    refine sW [61] k8 ht9 (fun _ hi9=>?_) (fun hi9=>?_)
    ·rw [if_pos (show aY [61] (t9 :: r9)=true from hi9)] at hQ
     obtain⟨FW,he9,hle9⟩:=aX he6 hts9 hi9
     have hQ:o7 p w g all Z d Q ((bU n d r9).bind fun x ts=>.ok (.st 1 t3.s true .nil x .nil .nil t.l) ts):=hQ
     rw [<-hr9] at hQ
     have k10:=k8.set (m':=(m+1+1+1+1)) (d':=d) (b':=false) (c':=c0) (l':=l0) FW h.dp
     have f10:=aN.get (PO.ext (p:=p) (w:=w) (g:=g) (n:=all.length) (m:=(m+1+1+1+1)) (d:=d) (b:=false) (c:=c0) (l:=l0)) (by omega) f8
     have CV:=y8.trans (PO.ext (p:=p) (w:=w) (g:=g) (n:=all.length) (m:=(m+1+1+1+1)) (d:=d) (b:=false) (c:=c0) (l:=l0))
     have l10:=bK f10
     obtain⟨n',rfl⟩:∃n',n=n'+ 1:=⟨n - 1,by omega⟩
     unfold bU at hQ
     have hQ:o7 p w g all Z d Q (((dn n' d 1 (all.drop (m+1+1+1+1))).bind fun x ts=>(aQ [59] ts).bind fun _ ts=>.ok x ts).bind fun x ts=>.ok (.st 1 t3.s true .nil x .nil .nil t.l) ts):=hQ
     have hg:=(uD n').expr d 1 (all.drop (m+1+1+1+1)) he9 (by omega)
     conv=>whnf
     refine(allW hno n').1.expr d 1 _ (m+1+1+1+1) _ _ _ k10 hd (by omega) he9 (by omega) ?_
     generalize dn n' d 1 (all.drop (m+1+1+1+1))=re at hg hQ
     cases re with
     | out=>exact hg.elim
     | bad c l=>
       have hQ:o7 p w g all Z d Q (.bad c l):=hQ
       intro o g' s11 m11 S_ k11
       have f11:=S_.get (by omega) f10
       obtain⟨tt,htt⟩:=next_at k11
       conv=>whnf
       refine ak (aC (T:=aW) ([.i .i64 1,.s t3.s,.b true,.p0,.p o g' 0,.sl0,.sl0,.i .i64 t.l]) rfl (f11) rfl rfl (aU rfl) rfl) ?_
       conv=>whnf
       refine aay _ (k11.st f11 _) htt ?_
       conv=>whnf
       exact Fin.ref rfl (hQ _ _ _ _ ((CV.trans S_).set (by omega) _) (k11.st f11 _))
     | ok z bI=>
       have hQ:o7 p w g all Z d Q ((aQ [59] bI).bind fun _ ts=>.ok (.st 1 t3.s true .nil z .nil .nil t.l) ts):=by
        have e:((aQ [59] bI).bind fun _ ts=>Re.ok (Sm.st 1 t3.s true .nil z .nil .nil t.l) ts)=((aQ [59] bI).bind fun _ ts=>Re.ok z ts).bind fun x ts=>Re.ok (Sm.st 1 t3.s true .nil x .nil .nil t.l) ts:=by
                cases aQ [59] bI <;> rfl
        rw [e];exact hQ
       intro o g' s11 m11 c11 l11 S_ k11 hm11 LV
       have f11:=S_.get (by omega) f10
       have l11':=S_.len
       have he11:aZ (all.drop m11):=by rw [hm11];exact hg.2.1
       rw [<-hm11] at hQ
       conv=>whnf
       refine ak (aC (T:=aW) ([.i .i64 1,.s t3.s,.b true,.p0,.p o g' 0,.sl0,.sl0,.i .i64 t.l]) rfl (f11) rfl rfl (aU rfl) rfl) ?_
       conv=>whnf
       have k12:=k11.st f11 (dK 1 t3.s true .p0 (.p o g' 0) .sl0 .sl0 t.l)
       have f12:(_:St)[Z1.length]? =_:=at_set f11 (dK 1 t3.s true .p0 (.p o g' 0) .sl0 .sl0 t.l)
       have y12:aN p Z _:=(CV.trans S_).set (o:=Z1.length) (by omega) (dK 1 t3.s true .p0 (.p o g' 0) .sl0 .sl0 t.l)
       have l12:=bK f12
       conv=>whnf
       obtain⟨t7,r7,Oh⟩:=he11.ne
       obtain⟨ht7,hr7⟩:=b_ Oh
       rw [Oh] at hQ
       refine aap _ k12 ht7 (fun hi7=>?_) (fun hi7=>?_)
       ·rw [aQ,if_pos (show aY [59] (t7 :: r7)=true from hi7)] at hQ
        have hQ:o7 p w g all Z d Q (.ok (.st 1 t3.s true .nil z .nil .nil t.l) r7):=hQ
        have k8:=k12.set (m':=m11+1) (d':=d) (b':=false) (c':=c11) (l':=l11) (aX he11 Oh hi7).1 h.dp
        conv=>whnf
        refine Fin.ref rfl (hQ _ _ _ _ _ _ (y12.trans PO.ext) k8 hr7 ⟨Z1.length,0,.p0,.p o g' 0,.sl0,.sl0,by omega,rfl,PO.ext.get (by omega) f12,rfl,bP.mono (fun i hi=>by omega) (fun i hi a ha=>PO.ext.get (by omega) (aK ha (by omega) _)) LV,rfl,rfl⟩)
       ·rw [aQ,if_neg (by rw [show aY [59] (t7 :: r7)=iK [59] t7 from rfl,hi7];decide)] at hQ
        have hQ:o7 p w g all Z d Q (.bad 4 t7.l):=hQ
        have k8:=k12.set (m':=m11) (d':=d) (b':=true) (c':=4) (l':=t7.l) k12.at_ h.dp
        conv=>whnf
        exact Fin.ref rfl (hQ _ _ _ _ (y12.trans PO.ext) k8)
    ·have hw9:iK [61] t9=false:=by simpa using hi9
     rw [if_neg (show ¬aY [61] (t9 :: r9)=true by rw [show aY [61] (t9 :: r9)=iK [61] t9 from rfl,hw9];decide),<-hts9] at hQ
     have hQ:o7 p w g all Z d Q ((aQ [59] (all.drop (m+1+1+1))).bind fun _ ts=>.ok (.st 1 t3.s true .nil .nil .nil .nil t.l) ts):=hQ
     conv=>whnf
     obtain⟨t7,r7,Oh⟩:=he6.ne
     obtain⟨ht7,hr7⟩:=b_ Oh
     rw [Oh] at hQ
     refine aap _ k8 ht7 (fun hi7=>?_) (fun hi7=>?_)
     ·rw [aQ,if_pos (show aY [59] (t7 :: r7)=true from hi7)] at hQ
      have hQ:o7 p w g all Z d Q (.ok (.st 1 t3.s true .nil .nil .nil .nil t.l) r7):=hQ
      have k8:=k8.set (m':=(m+1+1+1)+1) (d':=d) (b':=false) (c':=c0) (l':=l0) (aX he6 Oh hi7).1 h.dp
      conv=>whnf
      refine Fin.ref rfl (hQ _ _ _ _ _ _ (y8.trans PO.ext) k8 hr7 ⟨Z1.length,0,.p0,.p0,.sl0,.sl0,by omega,rfl,PO.ext.get (by omega) f8,rfl,rfl,rfl,rfl⟩)
     ·rw [aQ,if_neg (by rw [show aY [59] (t7 :: r7)=iK [59] t7 from rfl,hi7];decide)] at hQ
      have hQ:o7 p w g all Z d Q (.bad 4 t7.l):=hQ
      have k8:=k8.set (m':=(m+1+1+1)) (d':=d) (b':=true) (c':=4) (l':=t7.l) k8.at_ h.dp
      conv=>whnf
      exact Fin.ref rfl (hQ _ _ _ _ (y8.trans PO.ext) k8)
   ·have hpw:aY dA (t6 :: r6)=false:=by rw [show aY dA (t6 :: r6)=iK [112,116,114] t6 from rfl];simpa using o_
    have he6:=he3
    have k7:=k6
    have z7:=y6
    have f7:=f6
    simp only [hpw,nR,if_false] at hQ
    rw [<-kX] at hQ
    conv=>whnf
    refine ak (aC (T:=xH) ([.i .i64 1,.s t3.s,.b false,.p0,.p0,.sl0,.sl0,.i .i64 t.l]) rfl (f7) rfl rfl (aU rfl) rfl) ?_
    conv=>whnf
    have k8:=k7.st f7 (dK 1 t3.s false .p0 .p0 .sl0 .sl0 t.l)
    have f8:(_:St)[Z1.length]? =_:=at_set f7 (dK 1 t3.s false .p0 .p0 .sl0 .sl0 t.l)
    have y8:aN p Z _:=z7.set (o:=Z1.length) (by omega) (dK 1 t3.s false .p0 .p0 .sl0 .sl0 t.l)
    have l8:=bK f8
    obtain⟨t9,r9,hts9⟩:=he6.ne
    obtain⟨ht9,hr9⟩:=b_ hts9
    have hlr9:(all.drop (m+1+1)).length=r9.length+1:=by rw [hts9];rfl
    rw [hts9] at hQ
    conv=>whnf
    refine sW [61] k8 ht9 (fun _ hi9=>?_) (fun hi9=>?_)
    ·rw [if_pos (show aY [61] (t9 :: r9)=true from hi9)] at hQ
     obtain⟨FW,he9,hle9⟩:=aX he6 hts9 hi9
     have hQ:o7 p w g all Z d Q ((bU n d r9).bind fun x ts=>.ok (.st 1 t3.s false .nil x .nil .nil t.l) ts):=hQ
     rw [<-hr9] at hQ
     have k10:=k8.set (m':=(m+1+1+1)) (d':=d) (b':=false) (c':=c0) (l':=l0) FW h.dp
     have f10:=aN.get (PO.ext (p:=p) (w:=w) (g:=g) (n:=all.length) (m:=(m+1+1+1)) (d:=d) (b:=false) (c:=c0) (l:=l0)) (by omega) f8
     have CV:=y8.trans (PO.ext (p:=p) (w:=w) (g:=g) (n:=all.length) (m:=(m+1+1+1)) (d:=d) (b:=false) (c:=c0) (l:=l0))
     have l10:=bK f10
     obtain⟨n',rfl⟩:∃n',n=n'+ 1:=⟨n - 1,by omega⟩
     unfold bU at hQ
     have hQ:o7 p w g all Z d Q (((dn n' d 1 (all.drop (m+1+1+1))).bind fun x ts=>(aQ [59] ts).bind fun _ ts=>.ok x ts).bind fun x ts=>.ok (.st 1 t3.s false .nil x .nil .nil t.l) ts):=hQ
     have hg:=(uD n').expr d 1 (all.drop (m+1+1+1)) he9 (by omega)
     conv=>whnf
     refine(allW hno n').1.expr d 1 _ (m+1+1+1) _ _ _ k10 hd (by omega) he9 (by omega) ?_
     generalize dn n' d 1 (all.drop (m+1+1+1))=re at hg hQ
     cases re with
     | out=>exact hg.elim
     | bad c l=>
       have hQ:o7 p w g all Z d Q (.bad c l):=hQ
       intro o g' s11 m11 S_ k11
       have f11:=S_.get (by omega) f10
       obtain⟨tt,htt⟩:=next_at k11
       conv=>whnf
       refine ak (aC (T:=aW) ([.i .i64 1,.s t3.s,.b false,.p0,.p o g' 0,.sl0,.sl0,.i .i64 t.l]) rfl (f11) rfl rfl (aU rfl) rfl) ?_
       conv=>whnf
       refine aay _ (k11.st f11 _) htt ?_
       conv=>whnf
       exact Fin.ref rfl (hQ _ _ _ _ ((CV.trans S_).set (by omega) _) (k11.st f11 _))
     | ok z bI=>
       have hQ:o7 p w g all Z d Q ((aQ [59] bI).bind fun _ ts=>.ok (.st 1 t3.s false .nil z .nil .nil t.l) ts):=by
        have e:((aQ [59] bI).bind fun _ ts=>Re.ok (Sm.st 1 t3.s false .nil z .nil .nil t.l) ts)=((aQ [59] bI).bind fun _ ts=>Re.ok z ts).bind fun x ts=>Re.ok (Sm.st 1 t3.s false .nil x .nil .nil t.l) ts:=by
                cases aQ [59] bI <;> rfl
        rw [e];exact hQ
       intro o g' s11 m11 c11 l11 S_ k11 hm11 LV
       have f11:=S_.get (by omega) f10
       have l11':=S_.len
       have he11:aZ (all.drop m11):=by rw [hm11];exact hg.2.1
       rw [<-hm11] at hQ
       conv=>whnf
       refine ak (aC (T:=aW) ([.i .i64 1,.s t3.s,.b false,.p0,.p o g' 0,.sl0,.sl0,.i .i64 t.l]) rfl (f11) rfl rfl (aU rfl) rfl) ?_
       conv=>whnf
       have k12:=k11.st f11 (dK 1 t3.s false .p0 (.p o g' 0) .sl0 .sl0 t.l)
       have f12:(_:St)[Z1.length]? =_:=at_set f11 (dK 1 t3.s false .p0 (.p o g' 0) .sl0 .sl0 t.l)
       have y12:aN p Z _:=(CV.trans S_).set (o:=Z1.length) (by omega) (dK 1 t3.s false .p0 (.p o g' 0) .sl0 .sl0 t.l)
       have l12:=bK f12
       conv=>whnf
       obtain⟨t7,r7,Oh⟩:=he11.ne
       obtain⟨ht7,hr7⟩:=b_ Oh
       rw [Oh] at hQ
       refine aap _ k12 ht7 (fun hi7=>?_) (fun hi7=>?_)
       ·rw [aQ,if_pos (show aY [59] (t7 :: r7)=true from hi7)] at hQ
        have hQ:o7 p w g all Z d Q (.ok (.st 1 t3.s false .nil z .nil .nil t.l) r7):=hQ
        have k8:=k12.set (m':=m11+1) (d':=d) (b':=false) (c':=c11) (l':=l11) (aX he11 Oh hi7).1 h.dp
        conv=>whnf
        refine Fin.ref rfl (hQ _ _ _ _ _ _ (y12.trans PO.ext) k8 hr7 ⟨Z1.length,0,.p0,.p o g' 0,.sl0,.sl0,by omega,rfl,PO.ext.get (by omega) f12,rfl,bP.mono (fun i hi=>by omega) (fun i hi a ha=>PO.ext.get (by omega) (aK ha (by omega) _)) LV,rfl,rfl⟩)
       ·rw [aQ,if_neg (by rw [show aY [59] (t7 :: r7)=iK [59] t7 from rfl,hi7];decide)] at hQ
        have hQ:o7 p w g all Z d Q (.bad 4 t7.l):=hQ
        have k8:=k12.set (m':=m11) (d':=d) (b':=true) (c':=4) (l':=t7.l) k12.at_ h.dp
        conv=>whnf
        exact Fin.ref rfl (hQ _ _ _ _ (y12.trans PO.ext) k8)
    ·have hw9:iK [61] t9=false:=by simpa using hi9
     rw [if_neg (show ¬aY [61] (t9 :: r9)=true by rw [show aY [61] (t9 :: r9)=iK [61] t9 from rfl,hw9];decide),<-hts9] at hQ
     have hQ:o7 p w g all Z d Q ((aQ [59] (all.drop (m+1+1))).bind fun _ ts=>.ok (.st 1 t3.s false .nil .nil .nil .nil t.l) ts):=hQ
     conv=>whnf
     obtain⟨t7,r7,Oh⟩:=he6.ne
     obtain⟨ht7,hr7⟩:=b_ Oh
     rw [Oh] at hQ
     refine aap _ k8 ht7 (fun hi7=>?_) (fun hi7=>?_)
     ·rw [aQ,if_pos (show aY [59] (t7 :: r7)=true from hi7)] at hQ
      have hQ:o7 p w g all Z d Q (.ok (.st 1 t3.s false .nil .nil .nil .nil t.l) r7):=hQ
      have k8:=k8.set (m':=(m+1+1)+1) (d':=d) (b':=false) (c':=c0) (l':=l0) (aX he6 Oh hi7).1 h.dp
      conv=>whnf
      refine Fin.ref rfl (hQ _ _ _ _ _ _ (y8.trans PO.ext) k8 hr7 ⟨Z1.length,0,.p0,.p0,.sl0,.sl0,by omega,rfl,PO.ext.get (by omega) f8,rfl,rfl,rfl,rfl⟩)
     ·rw [aQ,if_neg (by rw [show aY [59] (t7 :: r7)=iK [59] t7 from rfl,hi7];decide)] at hQ
      have hQ:o7 p w g all Z d Q (.bad 4 t7.l):=hQ
      have k8:=k8.set (m':=(m+1+1)) (d':=d) (b':=true) (c':=4) (l':=t7.l) k8.at_ h.dp
      conv=>whnf
      exact Fin.ref rfl (hQ _ _ _ _ (y8.trans PO.ext) k8)
  ·rw [fA,if_neg hk] at hQ
   have hQ:o7 p w g all Z d Q (.bad 4 t3.l):=hQ
   have f5:=y5.get (by omega) f4
   conv=>whnf
   refine ak (aC (T:=fB) ([.i .i64 1,.s [],.b false,.p0,.p0,.sl0,.sl0,.i .i64 t.l]) rfl (f5) rfl rfl (aU rfl) rfl) ?_
   conv=>whnf
   have k6:=k5.st f5 (dK 1 [] false .p0 .p0 .sl0 .sl0 t.l)
   have f6:(_:St)[Z1.length]? =_:=at_set f5 (dK 1 [] false .p0 .p0 .sl0 .sl0 t.l)
   have y6:aN p Z _:=(y4.trans y5).set (o:=Z1.length) (by omega) (dK 1 [] false .p0 .p0 .sl0 .sl0 t.l)
   conv=>whnf
   refine sW _ k6 ht3 (fun e=>by cases e) (fun _=>?_)
   conv=>whnf
   refine ak (aC (T:=xH) ([.i .i64 1,.s [],.b false,.p0,.p0,.sl0,.sl0,.i .i64 t.l]) rfl (f6) rfl rfl (aU rfl) rfl) ?_
   conv=>whnf
   have k7:=k6.st f6 (dK 1 [] false .p0 .p0 .sl0 .sl0 t.l)
   have y7:aN p Z _:=y6.set (o:=Z1.length) (by omega) (dK 1 [] false .p0 .p0 .sl0 .sl0 t.l)
   conv=>whnf
   refine sW _ k7 ht3 (fun e=>by cases e) (fun _=>?_)
   conv=>whnf
   refine aay _ k7 ht3 ?_
   conv=>whnf
   exact Fin.ref rfl (hQ _ _ _ _ y7 k7)
 have hw:iK [118,97,114] t=false:=by simpa using hi
 rw [if_neg (show ¬aY Et (t :: r)=true by rw [show aY Et (t :: r)=iK [118,97,114] t from rfl,hw];decide)] at hQ
 clear hw hi
 conv=>whnf
 refine sW [105,102] k2 ht (fun _ hi=>?_) (fun hi=>?_)
 ·rw [if_pos (show aY I7 (t :: r)=true from hi)] at hQ
  obtain⟨hm1,he2,hle⟩:=he1 _ hi
  have k3:=k2.set (m':=m+1) (d':=d) (b':=false) (c':=c0) (l':=l0) hm1 h.dp
  have z3:aN p Z2 _:=PO.ext (p:=p) (w:=w) (g:=g) (n:=all.length) (m:=m+1) (d:=d) (b:=false) (c:=c0) (l:=l0) (Z:=Z2)
  have tk3:=z3.get (by omega) tk2
  have l3:=(y2.trans z3).len
  rw [<-hr] at hQ
  have hg:=(FN n).branch d t.l (all.drop (m+1)) he2 (by omega)
  conv=>whnf
  refine ak (aj (T:=fF) rfl rfl (ah (tk3)) rfl) ?_
  conv=>whnf
  refine ih.branch d t.l _ (m+1) _ _ _ k3 hd he2 (by omega) ?_
  generalize dQ n d t.l (all.drop (m+1))=re at hg hQ
  cases re with
  | out=>exact hg.elim
  | bad c l=>
    intro o g' s5 m5 y5 k5
    conv=>whnf
    exact Fin.ref rfl (hQ _ _ _ _ ((y2.trans z3).trans y5) k5)
  | ok z bI=>
    intro o g' s5 m5 c5 l5 y5 k5 hm5 LV
    conv=>whnf
    exact Fin.ref rfl (hQ _ _ _ _ _ _ ((y2.trans z3).trans y5) k5 hm5 (jc.mono (fun i hi=>by omega) (fun i hi a ha=>ha) LV))
 have hw:iK [105,102] t=false:=by simpa using hi
 rw [if_neg (show ¬aY I7 (t :: r)=true by rw [show aY I7 (t :: r)=iK [105,102] t from rfl,hw];decide)] at hQ
 clear hw hi
 conv=>whnf
 refine sW [119,104,105,108,101] k2 ht (fun _ hi=>?_) (fun hi=>?_)
 ·rw [if_pos (show aY ql (t :: r)=true from hi)] at hQ
  obtain⟨hm1,he2,hle⟩:=he1 _ hi
  have k3:=k2.set (m':=m+1) (d':=d) (b':=false) (c':=c0) (l':=l0) hm1 h.dp
  have z3:aN p Z2 _:=PO.ext (p:=p) (w:=w) (g:=g) (n:=all.length) (m:=m+1) (d:=d) (b:=false) (c:=c0) (l:=l0) (Z:=Z2)
  have f3:=z3.get (by omega) b2
  conv=>whnf
  refine ak (aC (T:=fF) ([.i .i64 5,.s [],.b false,.p0,.p0,.sl0,.sl0,.i .i64 t.l]) rfl (f3) rfl rfl (aU rfl) rfl) ?_
  conv=>whnf
  have k4:=k3.st f3 (dK 5 [] false .p0 .p0 .sl0 .sl0 t.l)
  have f4:(_:St)[Z1.length]? =_:=at_set f3 (dK 5 [] false .p0 .p0 .sl0 .sl0 t.l)
  have y4:aN p Z _:=(y2.trans z3).set (o:=Z1.length) (by omega) (dK 5 [] false .p0 .p0 .sl0 .sl0 t.l)
  have l4:=bK f4
  rw [<-hr] at hQ
  have hg:=(uD n).expr d 1 (all.drop (m+1)) he2 (by omega)
  conv=>whnf
  refine(allW hno n).1.expr d 1 _ (m+1) _ _ _ k4 hd (by omega) he2 (by omega) ?_
  generalize dn n d 1 (all.drop (m+1))=re at hg hQ
  cases re with
  | out=>exact hg.elim
  | bad c l=>
    have hQ:o7 p w g all Z d Q (.bad c l):=hQ
    intro o g' s5 m5 y5 k5
    have f5:=y5.get (by omega) f4
    obtain⟨tt,htt⟩:=next_at k5
    conv=>whnf
    refine ak (aC (T:=aW) ([.i .i64 5,.s [],.b false,.p0,.p o g' 0,.sl0,.sl0,.i .i64 t.l]) rfl (f5) rfl rfl (aU rfl) rfl) ?_
    conv=>whnf
    have k6:=k5.st f5 (dK 5 [] false .p0 (.p o g' 0) .sl0 .sl0 t.l)
    have f6:(_:St)[Z1.length]? =_:=at_set f5 (dK 5 [] false .p0 (.p o g' 0) .sl0 .sl0 t.l)
    have y6:aN p Z _:=(y4.trans y5).set (o:=Z1.length) (by omega) (dK 5 [] false .p0 (.p o g' 0) .sl0 .sl0 t.l)
    conv=>whnf
    refine aat k6 htt (by have:=h.dp;omega) fun s7 y7 k7=>?_
    have f7:=y7.get (by omega) f6
    conv=>whnf
    refine ak (aC (T:=dL) ([.i .i64 5,.s [],.b false,.p0,.p o g' 0,.sl0,.sl0,.i .i64 t.l]) rfl (f7) rfl rfl (aU rfl) rfl) ?_
    conv=>whnf
    exact Fin.ref rfl (hQ _ _ _ _ ((y6.trans y7).set (by omega) _) (k7.st f7 _))
  | ok z bI=>
    have hQ:o7 p w g all Z d Q ((dD n d bI).bind fun th ts=>.ok (.st 5 [] false .nil z th .nil t.l) ts):=hQ
    intro o g' s5 m5 c5 l5 y5 k5 hm5 LV
    have f5:=y5.get (by omega) f4
    have l5':=y5.len
    rw [<-hm5] at hQ hg
    have lg:=hg.2.2
    conv=>whnf
    refine ak (aC (T:=aW) ([.i .i64 5,.s [],.b false,.p0,.p o g' 0,.sl0,.sl0,.i .i64 t.l]) rfl (f5) rfl rfl (aU rfl) rfl) ?_
    conv=>whnf
    have k6:=k5.st f5 (dK 5 [] false .p0 (.p o g' 0) .sl0 .sl0 t.l)
    have f6:(_:St)[Z1.length]? =_:=at_set f5 (dK 5 [] false .p0 (.p o g' 0) .sl0 .sl0 t.l)
    have y6:aN p Z _:=(y4.trans y5).set (o:=Z1.length) (by omega) (dK 5 [] false .p0 (.p o g' 0) .sl0 .sl0 t.l)
    have l6:(s5.set Z1.length (dK 5 [] false .p0 (.p o g' 0) .sl0 .sl0 t.l)).length=s5.length:=gK
    have hez6:bP (fun i=>Z1.length<i/\i<s5.length) (s5.set Z1.length (dK 5 [] false .p0 (.p o g' 0) .sl0 .sl0 t.l)) (.p o g' 0) z:=bP.mono (fun i hi=>⟨by first | omega | (simp only [gK,dW] at *;omega),hi.2⟩) (fun i hi a ha=>aK ha (by first | omega | (simp only [gK,dW] at *;omega)) _) LV.below
    have hgb:=(FN n).block d (all.drop m5) hg.2.1 (by omega)
    conv=>whnf
    refine ih.block d _ m5 _ _ _ k6 hd hg.2.1 (by omega) ?_
    generalize dD n d (all.drop m5)=rb at hgb hQ
    cases rb with
    | out=>exact hgb.elim
    | bad c l=>
      have hQ:o7 p w g all Z d Q (.bad c l):=hQ
      intro A s7 m7 y7 k7 hA
      have f7:=y7.get (by omega) f6
      refine dJ _ _ ?_
      conv=>whnf
      refine ak (ji (T:=dL) [.i .i64 5,.s [],.b false,.p0,.p o g' 0,A,.sl0,.i .i64 t.l] hA rfl rfl f7 (aU rfl) rfl) ?_
      conv=>whnf
      exact Fin.ref rfl (hQ _ _ _ _ ((y6.trans y7).set (by omega) _) (k7.st f7 _))
    | ok th dM=>
      have hQ:o7 p w g all Z d Q (.ok (.st 5 [] false .nil z th .nil t.l) dM):=hQ
      intro A s7 m7 c7 l7 y7 k7 hm7 hth hA
      have f7:=y7.get (by omega) f6
      have l7':=y7.len
      refine dJ _ _ ?_
      conv=>whnf
      refine ak (ji (T:=dL) [.i .i64 5,.s [],.b false,.p0,.p o g' 0,A,.sl0,.i .i64 t.l] hA rfl rfl f7 (aU rfl) rfl) ?_
      conv=>whnf
      refine Fin.ref rfl (hQ _ _ _ _ _ _ ((y6.trans y7).set (by omega) _) (k7.st f7 _) hm7 ⟨Z1.length,0,.p0,.p o g' 0,A,.sl0,by omega,rfl,at_set f7 _,rfl,?_,?_,rfl⟩)
      ·exact bP.mono (fun i hi=>by omega) (fun i hi a ha=>aK (y7.get (by omega) ha) (by omega) _) hez6
      ·exact dX.mono (fun i hi=>by first | omega | (simp only [gK,dW] at *;omega)) (fun i hi a ha=>aK ha (by first | omega | (simp only [gK,dW] at *;omega)) _) hth
 have hw:iK [119,104,105,108,101] t=false:=by simpa using hi
 rw [if_neg (show ¬aY ql (t :: r)=true by rw [show aY ql (t :: r)=iK [119,104,105,108,101] t from rfl,hw];decide)] at hQ
 clear hw hi
 conv=>whnf
 refine sW [111,117,116] k2 ht (fun _ hi=>?_) (fun hi=>?_)
 ·rw [if_pos (show aY Eu (t :: r)=true from hi)] at hQ
  obtain⟨hm1,he2,hle⟩:=he1 _ hi
  have k3:=k2.set (m':=m+1) (d':=d) (b':=false) (c':=c0) (l':=l0) hm1 h.dp
  have z3:aN p Z2 _:=PO.ext (p:=p) (w:=w) (g:=g) (n:=all.length) (m:=m+1) (d:=d) (b:=false) (c:=c0) (l:=l0) (Z:=Z2)
  have f3:=z3.get (by omega) b2
  conv=>whnf
  refine ak (aC (T:=fF) ([.i .i64 6,.s [],.b false,.p0,.p0,.sl0,.sl0,.i .i64 t.l]) rfl (f3) rfl rfl (aU rfl) rfl) ?_
  conv=>whnf
  have k4:=k3.st f3 (dK 6 [] false .p0 .p0 .sl0 .sl0 t.l)
  have f4:(_:St)[Z1.length]? =_:=at_set f3 (dK 6 [] false .p0 .p0 .sl0 .sl0 t.l)
  have y4:aN p Z _:=(y2.trans z3).set (o:=Z1.length) (by omega) (dK 6 [] false .p0 .p0 .sl0 .sl0 t.l)
  have l4:=bK f4
  rw [<-hr] at hQ
  conv=>whnf
  have hg:=(FN n).ended d (all.drop (m+1)) he2 (by omega)
  refine endedR_to hno n d _ (m+1) _ _ _ k4 hd he2 (by omega) ?_
  generalize bU n d (all.drop (m+1))=re at hg hQ
  cases re with
  | out=>exact hg.elim
  | bad c l=>
    have hQ:o7 p w g all Z d Q (.bad c l):=hQ
    intro o1 g1 s5 m5 y5' Og
    have f5':=y5'.get (by omega) f4
    conv=>whnf
    refine ak (aC (T:=aW) ([.i .i64 6,.s [],.b false,.p0,.p o1 g1 0,.sl0,.sl0,.i .i64 t.l]) rfl (f5') rfl rfl (aU rfl) rfl) ?_
    conv=>whnf
    exact Fin.ref rfl (hQ _ _ _ _ ((y4.trans y5').set (by omega) _) (Og.st f5' _))
  | ok z bI=>
    have hQ:o7 p w g all Z d Q (.ok (.st 6 [] false .nil z .nil .nil t.l) bI):=hQ
    intro o1 g1 s5 m5 c5 l5 y5' Og hm5 LV
    have f5':=y5'.get (by omega) f4
    have l5':=y5'.len
    conv=>whnf
    refine ak (aC (T:=aW) ([.i .i64 6,.s [],.b false,.p0,.p o1 g1 0,.sl0,.sl0,.i .i64 t.l]) rfl (f5') rfl rfl (aU rfl) rfl) ?_
    conv=>whnf
    refine Fin.ref rfl (hQ _ _ _ _ _ _ ((y4.trans y5').set (by omega) _) (Og.st f5' _) hm5 ⟨Z1.length,0,.p0,.p o1 g1 0,.sl0,.sl0,by omega,rfl,at_set f5' _,rfl,?_,rfl,rfl⟩)
    exact bP.mono (fun i hi=>by first | omega | (simp only [gK,dW] at *;omega)) (fun i hi a ha=>aK ha (by first | omega | (simp only [gK,dW] at *;omega)) _) LV
 have hw:iK [111,117,116] t=false:=by simpa using hi
 rw [if_neg (show ¬aY Eu (t :: r)=true by rw [show aY Eu (t :: r)=iK [111,117,116] t from rfl,hw];decide)] at hQ
 clear hw hi
 conv=>whnf
 refine sW [102,114,101,101] k2 ht (fun _ hi=>?_) (fun hi=>?_)
 ·rw [if_pos (show aY uy (t :: r)=true from hi)] at hQ
  obtain⟨hm1,he2,hle⟩:=he1 _ hi
  have k3:=k2.set (m':=m+1) (d':=d) (b':=false) (c':=c0) (l':=l0) hm1 h.dp
  have z3:aN p Z2 _:=PO.ext (p:=p) (w:=w) (g:=g) (n:=all.length) (m:=m+1) (d:=d) (b:=false) (c:=c0) (l:=l0) (Z:=Z2)
  have f3:=z3.get (by omega) b2
  conv=>whnf
  refine ak (aC (T:=fF) ([.i .i64 7,.s [],.b false,.p0,.p0,.sl0,.sl0,.i .i64 t.l]) rfl (f3) rfl rfl (aU rfl) rfl) ?_
  conv=>whnf
  have k4:=k3.st f3 (dK 7 [] false .p0 .p0 .sl0 .sl0 t.l)
  have f4:(_:St)[Z1.length]? =_:=at_set f3 (dK 7 [] false .p0 .p0 .sl0 .sl0 t.l)
  have y4:aN p Z _:=(y2.trans z3).set (o:=Z1.length) (by omega) (dK 7 [] false .p0 .p0 .sl0 .sl0 t.l)
  have l4:=bK f4
  rw [<-hr] at hQ
  conv=>whnf
  have hg:=(FN n).ended d (all.drop (m+1)) he2 (by omega)
  refine endedR_to hno n d _ (m+1) _ _ _ k4 hd he2 (by omega) ?_
  generalize bU n d (all.drop (m+1))=re at hg hQ
  cases re with
  | out=>exact hg.elim
  | bad c l=>
    have hQ:o7 p w g all Z d Q (.bad c l):=hQ
    intro o1 g1 s5 m5 y5' Og
    have f5':=y5'.get (by omega) f4
    conv=>whnf
    refine ak (aC (T:=aW) ([.i .i64 7,.s [],.b false,.p0,.p o1 g1 0,.sl0,.sl0,.i .i64 t.l]) rfl (f5') rfl rfl (aU rfl) rfl) ?_
    conv=>whnf
    exact Fin.ref rfl (hQ _ _ _ _ ((y4.trans y5').set (by omega) _) (Og.st f5' _))
  | ok z bI=>
    have hQ:o7 p w g all Z d Q (.ok (.st 7 [] false .nil z .nil .nil t.l) bI):=hQ
    intro o1 g1 s5 m5 c5 l5 y5' Og hm5 LV
    have f5':=y5'.get (by omega) f4
    have l5':=y5'.len
    conv=>whnf
    refine ak (aC (T:=aW) ([.i .i64 7,.s [],.b false,.p0,.p o1 g1 0,.sl0,.sl0,.i .i64 t.l]) rfl (f5') rfl rfl (aU rfl) rfl) ?_
    conv=>whnf
    refine Fin.ref rfl (hQ _ _ _ _ _ _ ((y4.trans y5').set (by omega) _) (Og.st f5' _) hm5 ⟨Z1.length,0,.p0,.p o1 g1 0,.sl0,.sl0,by omega,rfl,at_set f5' _,rfl,?_,rfl,rfl⟩)
    exact bP.mono (fun i hi=>by first | omega | (simp only [gK,dW] at *;omega)) (fun i hi a ha=>aK ha (by first | omega | (simp only [gK,dW] at *;omega)) _) LV
 have hw:iK [102,114,101,101] t=false:=by simpa using hi
 rw [if_neg (show ¬aY uy (t :: r)=true by rw [show aY uy (t :: r)=iK [102,114,101,101] t from rfl,hw];decide)] at hQ
 clear hw hi
 conv=>whnf
 refine sW [100,114,97,105,110] k2 ht (fun _ hi=>?_) (fun hi=>?_)
 ·rw [if_pos (show aY oH (t :: r)=true from hi)] at hQ
  obtain⟨hm1,he2,hle⟩:=he1 _ hi
  have k3:=k2.set (m':=m+1) (d':=d) (b':=false) (c':=c0) (l':=l0) hm1 h.dp
  have z3:aN p Z2 _:=PO.ext (p:=p) (w:=w) (g:=g) (n:=all.length) (m:=m+1) (d:=d) (b:=false) (c:=c0) (l:=l0) (Z:=Z2)
  have f3:=z3.get (by omega) b2
  conv=>whnf
  refine ak (aC (T:=fF) ([.i .i64 8,.s [],.b false,.p0,.p0,.sl0,.sl0,.i .i64 t.l]) rfl (f3) rfl rfl (aU rfl) rfl) ?_
  conv=>whnf
  have k4:=k3.st f3 (dK 8 [] false .p0 .p0 .sl0 .sl0 t.l)
  have f4:(_:St)[Z1.length]? =_:=at_set f3 (dK 8 [] false .p0 .p0 .sl0 .sl0 t.l)
  have y4:aN p Z _:=(y2.trans z3).set (o:=Z1.length) (by omega) (dK 8 [] false .p0 .p0 .sl0 .sl0 t.l)
  have l4:=bK f4
  rw [<-hr] at hQ
  have hQ:o7 p w g all Z d Q ((aQ [59] (all.drop (m+1))).bind fun _ ts=>.ok (.st 8 [] false .nil .nil .nil .nil t.l) ts):=hQ
  conv=>whnf
  obtain⟨t7,r7,Oh⟩:=he2.ne
  obtain⟨ht7,hr7⟩:=b_ Oh
  rw [Oh] at hQ
  refine aap _ k4 ht7 (fun hi7=>?_) (fun hi7=>?_)
  ·rw [aQ,if_pos (show aY [59] (t7 :: r7)=true from hi7)] at hQ
   have hQ:o7 p w g all Z d Q (.ok (.st 8 [] false .nil .nil .nil .nil t.l) r7):=hQ
   have k8:=k4.set (m':=(m+1)+1) (d':=d) (b':=false) (c':=c0) (l':=l0) (aX he2 Oh hi7).1 h.dp
   conv=>whnf
   refine Fin.ref rfl (hQ _ _ _ _ _ _ (y4.trans PO.ext) k8 hr7 ⟨Z1.length,0,.p0,.p0,.sl0,.sl0,by omega,rfl,PO.ext.get (by omega) f4,rfl,rfl,rfl,rfl⟩)
  ·rw [aQ,if_neg (by rw [show aY [59] (t7 :: r7)=iK [59] t7 from rfl,hi7];decide)] at hQ
   have hQ:o7 p w g all Z d Q (.bad 4 t7.l):=hQ
   have k8:=k4.set (m':=(m+1)) (d':=d) (b':=true) (c':=4) (l':=t7.l) k4.at_ h.dp
   conv=>whnf
   exact Fin.ref rfl (hQ _ _ _ _ (y4.trans PO.ext) k8)
 have hw:iK [100,114,97,105,110] t=false:=by simpa using hi
 rw [if_neg (show ¬aY oH (t :: r)=true by rw [show aY oH (t :: r)=iK [100,114,97,105,110] t from rfl,hw];decide)] at hQ
 clear hw hi
 conv=>whnf
 refine sW [114,101,116,117,114,110] k2 ht (fun _ hi=>?_) (fun hi=>?_)
 ·rw [if_pos (show aY fD (t :: r)=true from hi)] at hQ
  obtain⟨hm1,he2,hle⟩:=he1 _ hi
  have k3:=k2.set (m':=m+1) (d':=d) (b':=false) (c':=c0) (l':=l0) hm1 h.dp
  have z3:aN p Z2 _:=PO.ext (p:=p) (w:=w) (g:=g) (n:=all.length) (m:=m+1) (d:=d) (b:=false) (c:=c0) (l:=l0) (Z:=Z2)
  have f3:=z3.get (by omega) b2
  conv=>whnf
  refine ak (aC (T:=fF) ([.i .i64 9,.s [],.b false,.p0,.p0,.sl0,.sl0,.i .i64 t.l]) rfl (f3) rfl rfl (aU rfl) rfl) ?_
  conv=>whnf
  have k4:=k3.st f3 (dK 9 [] false .p0 .p0 .sl0 .sl0 t.l)
  have f4:(_:St)[Z1.length]? =_:=at_set f3 (dK 9 [] false .p0 .p0 .sl0 .sl0 t.l)
  have y4:aN p Z _:=(y2.trans z3).set (o:=Z1.length) (by omega) (dK 9 [] false .p0 .p0 .sl0 .sl0 t.l)
  have l4:=bK f4
  rw [<-hr] at hQ
  obtain⟨t5,r5,hts5⟩:=he2.ne
  obtain⟨ht5,hr5⟩:=b_ hts5
  rw [hts5] at hQ
  conv=>whnf
  refine sW [59] k4 ht5 (fun _ hi5=>?_) (fun hi5=>?_)
  ·rw [if_pos (show aY [59] (t5 :: r5)=true from hi5)] at hQ
   have hQ:o7 p w g all Z d Q (.ok (.st 9 [] false .nil .nil .nil .nil t.l) r5):=hQ
   have k8:=k4.set (m':=m+1+1) (d':=d) (b':=false) (c':=c0) (l':=l0) (aX he2 hts5 hi5).1 h.dp
   conv=>whnf
   exact Fin.ref rfl (hQ _ _ _ _ _ _ (y4.trans PO.ext) k8 hr5 ⟨Z1.length,0,.p0,.p0,.sl0,.sl0,by omega,rfl,PO.ext.get (by omega) f4,rfl,rfl,rfl,rfl⟩)
  ·have hw5:iK [59] t5=false:=by simpa using hi5
   rw [if_neg (show ¬aY [59] (t5 :: r5)=true by rw [show aY [59] (t5 :: r5)=iK [59] t5 from rfl,hw5];decide),<-hts5] at hQ
   conv=>whnf
   have hg:=(FN n).ended d (all.drop (m+1)) he2 (by omega)
   refine endedR_to hno n d _ (m+1) _ _ _ k4 hd he2 (by omega) ?_
   generalize bU n d (all.drop (m+1))=re at hg hQ
   cases re with
   | out=>exact hg.elim
   | bad c l=>
     have hQ:o7 p w g all Z d Q (.bad c l):=hQ
     intro o1 g1 s5 m5 y5' Og
     have f5':=y5'.get (by omega) f4
     conv=>whnf
     refine ak (aC (T:=aW) ([.i .i64 9,.s [],.b false,.p0,.p o1 g1 0,.sl0,.sl0,.i .i64 t.l]) rfl (f5') rfl rfl (aU rfl) rfl) ?_
     conv=>whnf
     exact Fin.ref rfl (hQ _ _ _ _ ((y4.trans y5').set (by omega) _) (Og.st f5' _))
   | ok z bI=>
     have hQ:o7 p w g all Z d Q (.ok (.st 9 [] false .nil z .nil .nil t.l) bI):=hQ
     intro o1 g1 s5 m5 c5 l5 y5' Og hm5 LV
     have f5':=y5'.get (by omega) f4
     have l5':=y5'.len
     conv=>whnf
     refine ak (aC (T:=aW) ([.i .i64 9,.s [],.b false,.p0,.p o1 g1 0,.sl0,.sl0,.i .i64 t.l]) rfl (f5') rfl rfl (aU rfl) rfl) ?_
     conv=>whnf
     refine Fin.ref rfl (hQ _ _ _ _ _ _ ((y4.trans y5').set (by omega) _) (Og.st f5' _) hm5 ⟨Z1.length,0,.p0,.p o1 g1 0,.sl0,.sl0,by omega,rfl,at_set f5' _,rfl,?_,rfl,rfl⟩)
     exact bP.mono (fun i hi=>by first | omega | (simp only [gK,dW] at *;omega)) (fun i hi a ha=>aK ha (by first | omega | (simp only [gK,dW] at *;omega)) _) LV
 have hw:iK [114,101,116,117,114,110] t=false:=by simpa using hi
 rw [if_neg (show ¬aY fD (t :: r)=true by rw [show aY fD (t :: r)=iK [114,101,116,117,114,110] t from rfl,hw];decide)] at hQ
 clear hw hi
 have hg:=(uD n).post d (all.drop m) he (by omega)
 rw [<-hts] at hQ
 conv=>whnf
 refine(allW hno n).1.post d _ m _ _ _ k2 hd he (by omega) ?_
 generalize gW n d (all.drop m)=re at hg hQ
 cases re with
 | out=>exact hg.elim
 | bad c l=>
   have hQ:o7 p w g all Z d Q (.bad c l):=hQ
   intro o g' s3 m3 y3 k3
   conv=>whnf
   refine ak (aj (T:=xH) rfl rfl (ah (k3.obj)) rfl) ?_
   conv=>whnf
   exact Fin.ref rfl (hQ _ _ _ _ (y2.trans y3) k3)
 | ok x bI=>
   intro o g' s3 m3 c3 l3 y3 k3 hm3 hex
   have hnn:=hg.1
   have he3:aZ (all.drop m3):=by rw [hm3];exact hg.2.1
   have lg:=hg.2.2
   rw [<-hm3] at lg
   cases x with
   | nil=>exact hnn.elim
   | ex kx nx nmx txx lx rx ax lnx=>
     have hex':=hex
     obtain⟨o',gg,Lx,Rx,Ax,hS,hv,hobj,_,_,_⟩:=hex'
     cases hv
     have f3:=y3.get (by omega) b2
     have l3':=y3.len
     have lo:=bK hobj
     obtain⟨t4,r4,RN⟩:=he3.ne
     obtain⟨ht4,hr4⟩:=b_ RN
     have hlr4:(all.drop m3).length=r4.length+1:=by rw [RN];rfl
     have hQ:o7 p w g all Z d Q (
        if aY [61] bI=true then
         if kx=2 then(bU n d bI.tail).bind fun y ts=>.ok (.st 2 nmx false .nil y .nil .nil t.l) ts
         else if kx=5\/kx=6 then(bU n d bI.tail).bind fun y ts=>.ok (.st 3 [] false (.ex kx nx nmx txx lx rx ax lnx) y .nil .nil t.l) ts
         else .bad 4 (kW bI)
        else if kx=4 then(aQ [59] bI).bind fun _ ts=>.ok (.st 10 [] false .nil (.ex kx nx nmx txx lx rx ax lnx) .nil .nil t.l) ts
        else .bad 4 (kW bI)):=hQ
     rw [<-hm3,RN] at hQ
     conv=>whnf
     refine ak (aj (T:=xH) rfl rfl (ah (k3.obj)) rfl) ?_
     conv=>whnf
     refine au.to (aaq _ k3 ht4) ?_
     cases hi4:iK [61] t4 with
     | true=>
       rw [if_pos (show aY [61] (t4 :: r4)=true from hi4)] at hQ
       obtain⟨hm4,he4,hle4⟩:=aX he3 RN hi4
       have hQ:o7 p w g all Z d Q (
        if kx=2 then(bU n d r4).bind fun y ts=>.ok (.st 2 nmx false .nil y .nil .nil t.l) ts
        else if kx=5\/kx=6 then(bU n d r4).bind fun y ts=>.ok (.st 3 [] false (.ex kx nx nmx txx lx rx ax lnx) y .nil .nil t.l) ts
        else .bad 4 t4.l):=hQ
       have k5:=k3.set (m':=m3+1) (d':=d) (b':=false) (c':=c3) (l':=l3) hm4 h.dp
       have z5:=PO.ext (p:=p) (w:=w) (g:=g) (n:=all.length) (m:=m3+1) (d:=d) (b:=false) (c:=c3) (l:=l3) (Z:=s3)
       have f5:=z5.get (by omega) f3
       have o5:=z5.get (by omega) hobj
       have y5:aN p Z _:=(y2.trans y3).trans z5
       have hex5:=bP.mono (S':=fun i=>Z2.length<=i) (Z':=V3 p w g all.length s3 (m3+1) d false c3 l3) (fun i hi=>hi) (fun i hi a ha=>z5.get (by omega) ha) hex
       conv=>whnf
       refine ak (aj (T:=fF) rfl rfl (ah (hobj)) rfl) ?_
       conv=>whnf
       by_cases h2:kx=2
       ·rw [if_pos h2,<-hr4] at hQ
        rw [decide_eq_true (by omega)]
        conv=>whnf
        conv=>whnf
        refine au.to (aaq _ k3 ht4) ?_
        rw [hi4]
        conv=>whnf
        refine sW [61] k3 ht4 (fun _ _=>?_) (fun e=>by rw [hi4] at e;cases e)
        conv=>whnf
        refine ak (aC (T:=fF) ([.i .i64 3,.s [],.b false,.p0,.p0,.sl0,.sl0,.i .i64 t.l]) rfl (f5) rfl rfl (aU rfl) rfl) ?_
        conv=>whnf
        have k10:=k5.st f5 (dK 3 [] false .p0 .p0 .sl0 .sl0 t.l)
        have f10:(_:St)[Z1.length]? =_:=at_set f5 (dK 3 [] false .p0 .p0 .sl0 .sl0 t.l)
        have CV:aN p Z _:=y5.set (o:=Z1.length) (by omega) (dK 3 [] false .p0 .p0 .sl0 .sl0 t.l)
        have o10:=aK o5 (show Z1.length≠o by omega) (dK 3 [] false .p0 .p0 .sl0 .sl0 t.l)
        refine ak (aC (T:=aW) ([.i .i64 3,.s [],.b false,.p o g' 0,.p0,.sl0,.sl0,.i .i64 t.l]) rfl (f10) rfl rfl (aU rfl) rfl) ?_
        conv=>whnf
        have k11:=k10.st f10 (dK 3 [] false (.p o g' 0) .p0 .sl0 .sl0 t.l)
        have f11:(_:St)[Z1.length]? =_:=at_set f10 (dK 3 [] false (.p o g' 0) .p0 .sl0 .sl0 t.l)
        have S_:aN p Z _:=CV.set (o:=Z1.length) (by omega) (dK 3 [] false (.p o g' 0) .p0 .sl0 .sl0 t.l)
        have o11:=aK o10 (show Z1.length≠o by omega) (dK 3 [] false (.p o g' 0) .p0 .sl0 .sl0 t.l)
        refine ak (aj (T:=fF) rfl rfl (ah (o11)) rfl) ?_
        conv=>whnf
        rw [decide_eq_true (by omega)]
        conv=>whnf
        conv=>whnf
        refine ak (aC (T:=fF) ([.i .i64 2,.s [],.b false,.p o g' 0,.p0,.sl0,.sl0,.i .i64 t.l]) rfl (f11) rfl rfl (aU rfl) rfl) ?_
        conv=>whnf
        have k12:=k11.st f11 (dK 2 [] false (.p o g' 0) .p0 .sl0 .sl0 t.l)
        have f12:(_:St)[Z1.length]? =_:=at_set f11 (dK 2 [] false (.p o g' 0) .p0 .sl0 .sl0 t.l)
        have y12:aN p Z _:=S_.set (o:=Z1.length) (by omega) (dK 2 [] false (.p o g' 0) .p0 .sl0 .sl0 t.l)
        have o12:=aK o11 (show Z1.length≠o by omega) (dK 2 [] false (.p o g' 0) .p0 .sl0 .sl0 t.l)
        refine ak (aj (T:=fB) rfl rfl (ah (o12)) rfl) ?_
        conv=>whnf
        refine ak (aC (T:=fB) ([.i .i64 2,.s nmx,.b false,.p o g' 0,.p0,.sl0,.sl0,.i .i64 t.l]) rfl (f12) rfl rfl (aU rfl) rfl) ?_
        conv=>whnf
        have k13:=k12.st f12 (dK 2 nmx false (.p o g' 0) .p0 .sl0 .sl0 t.l)
        have f13:(_:St)[Z1.length]? =_:=at_set f12 (dK 2 nmx false (.p o g' 0) .p0 .sl0 .sl0 t.l)
        have y13:aN p Z _:=y12.set (o:=Z1.length) (by omega) (dK 2 nmx false (.p o g' 0) .p0 .sl0 .sl0 t.l)
        have o13:=aK o12 (show Z1.length≠o by omega) (dK 2 nmx false (.p o g' 0) .p0 .sl0 .sl0 t.l)
        refine ak (aC (T:=aW) ([.i .i64 2,.s nmx,.b false,.p0,.p0,.sl0,.sl0,.i .i64 t.l]) rfl (f13) rfl rfl (aU rfl) rfl) ?_
        conv=>whnf
        have k14:=k13.st f13 (dK 2 nmx false .p0 .p0 .sl0 .sl0 t.l)
        have f14:(_:St)[Z1.length]? =_:=at_set f13 (dK 2 nmx false .p0 .p0 .sl0 .sl0 t.l)
        have y14:aN p Z _:=y13.set (o:=Z1.length) (by omega) (dK 2 nmx false .p0 .p0 .sl0 .sl0 t.l)
        have o14:=aK o13 (show Z1.length≠o by omega) (dK 2 nmx false .p0 .p0 .sl0 .sl0 t.l)
        have l15:=bK f14
        have hg:=(FN n).ended d (all.drop (m3+1)) he4 (by omega)
        refine endedR_to hno n d _ (m3+1) _ _ _ k14 hd he4 (by omega) ?_
        generalize bU n d (all.drop (m3+1))=re at hg hQ
        cases re with
        | out=>exact hg.elim
        | bad c l=>
          have hQ:o7 p w g all Z d Q (.bad c l):=hQ
          intro o1 g1 s5 m5 y5' Og
          have f5':=y5'.get (by omega) f14
          conv=>whnf
          refine ak (aC (T:=aW) ([.i .i64 2,.s nmx,.b false,.p0,.p o1 g1 0,.sl0,.sl0,.i .i64 t.l]) rfl (f5') rfl rfl (aU rfl) rfl) ?_
          conv=>whnf
          exact Fin.ref rfl (hQ _ _ _ _ ((y14.trans y5').set (by omega) _) (Og.st f5' _))
        | ok z bI=>
          have hQ:o7 p w g all Z d Q (.ok (.st 2 nmx false .nil z .nil .nil t.l) bI):=hQ
          intro o1 g1 s5 m5 c5 l5 y5' Og hm5 LV
          have f5':=y5'.get (by omega) f14
          have l5':=y5'.len
          conv=>whnf
          refine ak (aC (T:=aW) ([.i .i64 2,.s nmx,.b false,.p0,.p o1 g1 0,.sl0,.sl0,.i .i64 t.l]) rfl (f5') rfl rfl (aU rfl) rfl) ?_
          conv=>whnf
          refine Fin.ref rfl (hQ _ _ _ _ _ _ ((y14.trans y5').set (by omega) _) (Og.st f5' _) hm5 ⟨Z1.length,0,.p0,.p o1 g1 0,.sl0,.sl0,by omega,rfl,at_set f5' _,rfl,?_,rfl,rfl⟩)
          exact bP.mono (fun i hi=>by first | omega | (simp only [gK,dW] at *;omega)) (fun i hi a ha=>aK ha (by first | omega | (simp only [gK,dW] at *;omega)) _) LV
       ·rw [if_neg h2] at hQ
        rw [decide_eq_false (by omega)]
        conv=>whnf
        conv=>whnf
        refine ak (aj (T:=fF) rfl rfl (ah (hobj)) rfl) ?_
        conv=>whnf
        by_cases h5:kx=5\/kx=6
        ·rw [if_pos h5,<-hr4] at hQ
         by_cases h55:kx=5
         case' pos=>
            rw [decide_eq_true (by omega)]
            conv=>whnf
            conv=>whnf
         case' neg=>
            rw [decide_eq_false (by omega)]
            conv=>whnf
            conv=>whnf
            refine ak (aj (T:=fF) rfl rfl (ah (hobj)) rfl) ?_
            conv=>whnf
            rw [decide_eq_true (by omega)]
            conv=>whnf
            conv=>whnf
         all_goals
            refine au.to (aaq _ k3 ht4) ?_
            rw [hi4]
            conv=>whnf
            refine sW [61] k3 ht4 (fun _ _=>?_) (fun e=>by rw [hi4] at e;cases e)
            conv=>whnf
            refine ak (aC (T:=fF) ([.i .i64 3,.s [],.b false,.p0,.p0,.sl0,.sl0,.i .i64 t.l]) rfl (f5) rfl rfl (aU rfl) rfl) ?_
            conv=>whnf
            have k10:=k5.st f5 (dK 3 [] false .p0 .p0 .sl0 .sl0 t.l)
            have f10:(_:St)[Z1.length]? =_:=at_set f5 (dK 3 [] false .p0 .p0 .sl0 .sl0 t.l)
            have CV:aN p Z _:=y5.set (o:=Z1.length) (by omega) (dK 3 [] false .p0 .p0 .sl0 .sl0 t.l)
            have o10:=aK o5 (show Z1.length≠o by omega) (dK 3 [] false .p0 .p0 .sl0 .sl0 t.l)
            refine ak (aC (T:=aW) ([.i .i64 3,.s [],.b false,.p o g' 0,.p0,.sl0,.sl0,.i .i64 t.l]) rfl (f10) rfl rfl (aU rfl) rfl) ?_
            conv=>whnf
            have k11:=k10.st f10 (dK 3 [] false (.p o g' 0) .p0 .sl0 .sl0 t.l)
            have f11:(_:St)[Z1.length]? =_:=at_set f10 (dK 3 [] false (.p o g' 0) .p0 .sl0 .sl0 t.l)
            have S_:aN p Z _:=CV.set (o:=Z1.length) (by omega) (dK 3 [] false (.p o g' 0) .p0 .sl0 .sl0 t.l)
            have o11:=aK o10 (show Z1.length≠o by omega) (dK 3 [] false (.p o g' 0) .p0 .sl0 .sl0 t.l)
            refine ak (aj (T:=fF) rfl rfl (ah (o11)) rfl) ?_
            conv=>whnf
            rw [decide_eq_false (by omega)]
            conv=>whnf
            conv=>whnf
            have l12:=bK f11
            have hg:=(FN n).ended d (all.drop (m3+1)) he4 (by omega)
            refine endedR_to hno n d _ (m3+1) _ _ _ k11 hd he4 (by omega) ?_
            generalize bU n d (all.drop (m3+1))=re at hg hQ
            cases re with
            | out=>exact hg.elim
            | bad c l=>
              have hQ:o7 p w g all Z d Q (.bad c l):=hQ
              intro o1 g1 s5 m5 y5' Og
              have f5':=y5'.get (by omega) f11
              conv=>whnf
              refine ak (aC (T:=aW) ([.i .i64 3,.s [],.b false,.p o g' 0,.p o1 g1 0,.sl0,.sl0,.i .i64 t.l]) rfl (f5') rfl rfl (aU rfl) rfl) ?_
              conv=>whnf
              exact Fin.ref rfl (hQ _ _ _ _ ((S_.trans y5').set (by omega) _) (Og.st f5' _))
            | ok z bI=>
              have hQ:o7 p w g all Z d Q (.ok (.st 3 [] false (.ex kx nx nmx txx lx rx ax lnx) z .nil .nil t.l) bI):=hQ
              intro o1 g1 s5 m5 c5 l5 y5' Og hm5 LV
              have f5':=y5'.get (by omega) f11
              have l5':=y5'.len
              conv=>whnf
              refine ak (aC (T:=aW) ([.i .i64 3,.s [],.b false,.p o g' 0,.p o1 g1 0,.sl0,.sl0,.i .i64 t.l]) rfl (f5') rfl rfl (aU rfl) rfl) ?_
              conv=>whnf
              refine Fin.ref rfl (hQ _ _ _ _ _ _ ((S_.trans y5').set (by omega) _) (Og.st f5' _) hm5 ⟨Z1.length,0,.p o g' 0,.p o1 g1 0,.sl0,.sl0,by omega,rfl,at_set f5' _,bP.mono (fun i hi=>by omega) (fun i hi a ha=>aK (y5'.get (by omega) (aK (aK ha (by omega) _) (by omega) _)) (by omega) _) hex5,?_,rfl,rfl⟩)
              exact bP.mono (fun i hi=>by first | omega | (simp only [gK,dW] at *;omega)) (fun i hi a ha=>aK ha (by first | omega | (simp only [gK,dW] at *;omega)) _) LV
        ·rw [if_neg h5] at hQ
         have hQ:o7 p w g all Z d Q (.bad 4 t4.l):=hQ
         rw [decide_eq_false (by omega)]
         conv=>whnf
         conv=>whnf
         refine ak (aj (T:=fF) rfl rfl (ah (hobj)) rfl) ?_
         conv=>whnf
         rw [decide_eq_false (by omega)]
         conv=>whnf
         conv=>whnf
         refine fail_to 4 k3 ht4 (fun _=>?_) (fun e=>by cases e)
         have k8:=k3.set (m':=m3) (d':=d) (b':=true) (c':=4) (l':=t4.l) k3.at_ h.dp
         conv=>whnf
         exact Fin.ref rfl (hQ _ _ _ _ ((y2.trans y3).trans PO.ext) k8)
     | false=>
       rw [if_neg (show ¬aY [61] (t4 :: r4)=true by rw [show aY [61] (t4 :: r4)=iK [61] t4 from rfl,hi4];decide)] at hQ
       conv=>whnf
       refine au.to (aaq _ k3 ht4) ?_
       rw [hi4]
       conv=>whnf
       refine ak (aj (T:=fF) rfl rfl (ah (hobj)) rfl) ?_
       conv=>whnf
       by_cases h4:kx=4
       ·rw [if_pos h4,<-RN] at hQ
        have hQ:o7 p w g all Z d Q ((aQ [59] (all.drop m3)).bind fun _ ts=>.ok (.st 10 [] false .nil (.ex kx nx nmx txx lx rx ax lnx) .nil .nil t.l) ts):=hQ
        have y23:=y2.trans y3
        rw [decide_eq_true (by omega)]
        conv=>whnf
        conv=>whnf
        refine sW [61] k3 ht4 (fun _ e=>by rw [hi4] at e;cases e) (fun _=>?_)
        conv=>whnf
        refine ak (aC (T:=fF) ([.i .i64 10,.s [],.b false,.p0,.p0,.sl0,.sl0,.i .i64 t.l]) rfl (f3) rfl rfl (aU rfl) rfl) ?_
        conv=>whnf
        have k10:=k3.st f3 (dK 10 [] false .p0 .p0 .sl0 .sl0 t.l)
        have f10:(_:St)[Z1.length]? =_:=at_set f3 (dK 10 [] false .p0 .p0 .sl0 .sl0 t.l)
        have CV:aN p Z _:=y23.set (o:=Z1.length) (by omega) (dK 10 [] false .p0 .p0 .sl0 .sl0 t.l)
        have o10:=aK hobj (show Z1.length≠o by omega) (dK 10 [] false .p0 .p0 .sl0 .sl0 t.l)
        refine ak (aC (T:=aW) ([.i .i64 10,.s [],.b false,.p0,.p o g' 0,.sl0,.sl0,.i .i64 t.l]) rfl (f10) rfl rfl (aU rfl) rfl) ?_
        conv=>whnf
        have k11:=k10.st f10 (dK 10 [] false .p0 (.p o g' 0) .sl0 .sl0 t.l)
        have f11:(_:St)[Z1.length]? =_:=at_set f10 (dK 10 [] false .p0 (.p o g' 0) .sl0 .sl0 t.l)
        have S_:aN p Z _:=CV.set (o:=Z1.length) (by omega) (dK 10 [] false .p0 (.p o g' 0) .sl0 .sl0 t.l)
        have o11:=aK o10 (show Z1.length≠o by omega) (dK 10 [] false .p0 (.p o g' 0) .sl0 .sl0 t.l)
        have l12:=bK f11
        conv=>whnf
        obtain⟨t7,r7,Oh⟩:=he3.ne
        obtain⟨ht7,hr7⟩:=b_ Oh
        rw [Oh] at hQ
        refine aap _ k11 ht7 (fun hi7=>?_) (fun hi7=>?_)
        ·rw [aQ,if_pos (show aY [59] (t7 :: r7)=true from hi7)] at hQ
         have hQ:o7 p w g all Z d Q (.ok (.st 10 [] false .nil (.ex kx nx nmx txx lx rx ax lnx) .nil .nil t.l) r7):=hQ
         have k8:=k11.set (m':=m3+1) (d':=d) (b':=false) (c':=c3) (l':=l3) (aX he3 Oh hi7).1 h.dp
         conv=>whnf
         refine Fin.ref rfl (hQ _ _ _ _ _ _ (S_.trans PO.ext) k8 hr7 ⟨Z1.length,0,.p0,.p o g' 0,.sl0,.sl0,by omega,rfl,PO.ext.get (by omega) f11,rfl,bP.mono (fun i hi=>by omega) (fun i hi a ha=>PO.ext.get (by omega) (aK (aK ha (by omega) _) (by omega) _)) hex,rfl,rfl⟩)
        ·rw [aQ,if_neg (by rw [show aY [59] (t7 :: r7)=iK [59] t7 from rfl,hi7];decide)] at hQ
         have hQ:o7 p w g all Z d Q (.bad 4 t7.l):=hQ
         have k8:=k11.set (m':=m3) (d':=d) (b':=true) (c':=4) (l':=t7.l) k11.at_ h.dp
         conv=>whnf
         exact Fin.ref rfl (hQ _ _ _ _ (S_.trans PO.ext) k8)
       ·rw [if_neg h4] at hQ
        have hQ:o7 p w g all Z d Q (.bad 4 t4.l):=hQ
        rw [decide_eq_false (by omega)]
        conv=>whnf
        conv=>whnf
        refine fail_to 4 k3 ht4 (fun _=>?_) (fun e=>by cases e)
        have k8:=k3.set (m':=m3) (d':=d) (b':=true) (c':=4) (l':=t4.l) k3.at_ h.dp
        conv=>whnf
        exact Fin.ref rfl (hQ _ _ _ _ ((y2.trans y3).trans PO.ext) k8)
end
end Go.Abs.YtlkfbfhkcaldlaaGreatDoor
