/- Texts of this claim, joined: Re2, Re3, Re4. -/
import Derived.Test.YtjcicgkencfbgaaGreatDoorM21
import Derived.Test.YtjcicgkencfbgaaGreatDoorM23
set_option linter.unusedVariables false
set_option linter.unusedSimpArgs false
namespace Go.bG.YtjcicgkencfbgaaGreatDoor
open Go.Proofs
set_option maxRecDepth 4000
def QSs (p w g:Nat)(all:List Tok)(σ:St)(d:Nat)(Q:AV→St→Prop):Re oO→Prop
 | .ok xs ts=>∀A σ' m' c l,aI p σ σ'→PO p w g all σ' m' d false c l→all.drop m'= ts→dN (fun i=>σ.length≤i) σ' A xs→yT A→Q A σ'
 | .bad c l=>∀A σ' m',aI p σ σ'→PO p w g all σ' m' d true c l→yT A→Q A σ'
 | .out=>True
def kL (p w g:Nat)(all:List Tok)(σ:St)(d:Nat)(Q:AV→St→Prop):Re Sm→Prop
 | .ok x ts=>∀o g' σ' m' c l,aI p σ σ'→PO p w g all σ' m' d false c l→all.drop m'= ts→jH (fun i=>σ.length≤i) σ' (.p o g' 0) x→Q (.p o g' 0) σ'
 | .bad c l=>∀o g' σ' m',aI p σ σ'→PO p w g all σ' m' d true c l→Q (.p o g' 0) σ'
 | .out=>True
def QQs (p w g:Nat)(all:List Tok)(B:Nat)(σ:St)(d:Nat)(acc:List Sm)(Q:Out→Env→St→Prop):Re oO→Prop
 | .ok xs ts=>∀v σ' m' c l e',get e' 0= .p p 0 0→get e' 3=v→get e' 1000000= .u→pJ p B σ σ'→PO p w g all σ' m' d false c l→all.drop m'= ts→BQ B σ' v (acc ++ yV xs)→Q (.exit 0) e' σ'
 | .bad c l=>∀v σ' m' e',get e' 0= .p p 0 0→get e' 3=v→get e' 1000000= .u→pJ p B σ σ'→PO p w g all σ' m' d true c l→yT v→Q (.exit 0) e' σ'
 | .out=>True
structure WT (p w g:Nat)(all:List Tok)(n:Nat):Prop where
 block:∀(d:Nat) (σ:St) (m c0 l0:Nat) (Q:AV→St→Prop),PO p w g all σ m d false c0 l0→d≤64→aU (all.drop m)→10*(all.drop m).length+10≤n→QSs p w g all σ d Q (dI n d (all.drop m))→ay X 47 [.p p 0 0] σ Q
 branch:∀(d line:Nat) (σ:St) (m c0 l0:Nat) (Q:AV→St→Prop),PO p w g all σ m d false c0 l0→d≤64→aU (all.drop m)→10*(all.drop m).length+12≤n→kL p w g all σ d Q (dQ n d line (all.drop m))→ay X 115 [.p p 0 0,.i .i64 line] σ Q
 stmt:∀(d:Nat) (σ:St) (m c0 l0:Nat) (Q:AV→St→Prop),PO p w g all σ m d false c0 l0→d≤64→aU (all.drop m)→10*(all.drop m).length+14≤n→kL p w g all σ d Q (kH n d (all.drop m))→ay X 85 [.p p 0 0] σ Q
def vI (p w g:Nat)(all:List Tok)(n:Nat):Prop:=∀(d B:Nat),d≤64→p<B→w<B→
 ∀ (acc:List Sm) (v:AV) (σ:St) (m c0 l0:Nat) (Q:Out→Env→St→Prop),PO p w g all σ m d false c0 l0→B≤σ.length→BQ B σ v acc→aU (all.drop m)→10*(all.drop m).length+15≤n→acc.length+(all.drop m).length≤40001→QQs p w g all B σ d acc Q (gW n d (all.drop m))→aS X [0,3] SV [(0,.p p 0 0),(3,v)] σ Q
section
variable {p w g:Nat} {all:List Tok} {n:Nat}
theorem PO.G8 {m d c l:Nat} {b:Bool} {σ σ':St} (h:PO p w g all σ m d b c l)(x:Ext σ σ'):PO p w g all σ' m d b c l:=h.keep (x.old p (aX h.obj)) (x.old w (aX h.tok))
theorem PO.st {m d c l x k ln:Nat} {nm:List UInt8} {pt b:Bool} {L R T E:AV} {s:St} (h:PO p w g all s m d b c l)(hx:s[x]? =some (bP k nm pt L R T E ln))(b':AO):PO p w g all (s.set x b') m d b c l:=
 ⟨aK h.obj (fun e=>by subst e;have:=hx.symm.trans h.obj;simp [bP] at this) _,aK h.tok (fun e=>by subst e;have:=hx.symm.trans h.tok;simp [bP] at this) _,h.ne,h.len,h.at_,h.dp⟩
theorem PO.extB {B m d m' d' c c' l l':Nat} {b b':Bool} {σ σ2:St} (x:pJ p σ.length (fF p w g B σ m d b c l) σ2):aI p σ (fF p w g B σ2 m' d' b' c' l'):=
 ⟨by rw [bg];have:=x.len;rw [bg] at this;exact this,fun i hi fZ=>by unfold fF;rw [List.getElem?_set_ne (fun e=>fZ e.symm),x.old i hi fZ];unfold fF;rw [List.getElem?_set_ne (fun e=>fZ e.symm)]⟩
theorem qZ {m d c l:Nat} {v:AV} {σ:St} {Q:Out→Env→St→Prop} (h:PO p w g all σ m d true c l)(hv:yT v)
 (q:∀e',get e' 0= .p p 0 0→get e' 3=v→get e' 1000000= .u→Q (.exit 0) e' σ):aS X [0,3] SV [(0,.p p 0 0),(3,v)] σ Q:=by
 rcases hv with rfl | ⟨o,g,k,rfl⟩
 all_goals
  refine aS.round aF (lit:=false) ?_
  conv=>whnf
  refine ak (aj (T:=kY) rfl rfl (ah (h.obj)) rfl) ?_
  conv=>whnf
  exact q _ rfl rfl rfl
theorem YP (ih:WT p w g all n)(NI:vI p w g all n):vI p w g all (n+1):=by
 intro d B hd hp hw acc v σ m c0 l0 Q h hB ha he hn hs hQ
 obtain⟨t,r,hts⟩:=he.ne
 obtain⟨ht,hr⟩:=aW hts
 unfold gW at hQ
 rw [hts] at hQ
 have hsl:yT v:=by obtain⟨cs,hr,_⟩:=ha;exact hr.sl
 rcases hsl with rfl | ⟨oo,gg,kk,rfl⟩
 all_goals
  refine aS.round aF (lit:=false) ?_
  conv=>whnf
  refine ak (aj (T:=kY) rfl rfl (ah (h.obj)) rfl) ?_
  conv=>whnf
  refine ay.to (jI _ h ht) ?_
  cases hi:dH [125] t with
  | true=>
    rw [if_pos (show aY [125] (t :: r)=true from hi)] at hQ
    conv=>whnf
    exact hQ _ σ m c0 l0 _ rfl rfl rfl (.refl _ _ _) h hts (by rw [show acc ++ yV .nil=acc from List.append_nil acc];exact ha)
  | false=>
    rw [if_neg (by rw [show aY [125] (t :: r)=dH [125] t from rfl,hi];decide),←hts] at hQ
    have hg:=(ny n).stmt d (all.drop m) he (by omega)
    conv=>whnf
    refine ih.stmt d σ m c0 l0 _ h hd he (by omega) ?_
    generalize kH n d (all.drop m)=r1 at hg hQ
    cases r1 with
    | out=>exact hg.elim
    | bad c l=>
      intro oy gy s m2 y k
      have ly:=y.len
      conv=>whnf
      refine yX (D:=s.length) ha y hp hB (Nat.le_refl _) ly (by omega) oy gy fun o3 g3 k3 s3 e3 l3 kT kA=>?_
      have k4:=k.keep (e3 p hp) (e3 w hw)
      have yy:pJ p B σ s3:=⟨by omega,fun i hi fZ=>by rw [e3 i hi,y.old i (by omega) fZ]⟩
      conv=>whnf
      exact qZ k4 (.inr ⟨_,_,_,rfl⟩) fun e' q0 q3 q9=>hQ _ s3 m2 e' q0 q3 q9 yy k4 (.inr ⟨_,_,_,rfl⟩)
    | ok y0 bJ=>
      intro oy gy s m2 c2 l2 y k hm2 tY
      have ly:=y.len
      have hQ:QQs p w g all B σ d acc Q ((gW n d bJ).bind fun l ts=>.ok (.cons y0 l) ts):=hQ
      rw [←hm2] at hQ hg
      have lg:=hg.2.2
      conv=>whnf
      refine yX (D:=σ.length) ha y hp hB ly (Nat.le_refl _) (by omega) oy gy fun o3 g3 k3 s3 e3 l3 kT kA=>?_
      have k4:=k.keep (e3 p hp) (e3 w hw)
      have yy:pJ p B σ s3:=⟨by omega,fun i hi fZ=>by rw [e3 i hi,y.old i (by omega) fZ]⟩
      conv=>whnf
      refine NI d B hd hp hw (acc ++ [y0]) _ s3 m2 c2 l2 Q k4 (by omega) (kA y0 tY) hg.2.1 (by omega) (by rw [List.length_append];simp only [List.length_cons,List.length_nil];omega) ?_
      generalize gW n d (all.drop m2)=r2 at hQ
      cases r2 with
      | out=>trivial
      | bad c l=>exact fun v4 eY m4 e' q0 q3 q9 x4=>hQ v4 eY m4 e' q0 q3 q9 (yy.trans x4)
      | ok xs BM=>exact fun v4 eY m4 c4 l4 e' q0 q3 q9 x4 h4 hm4 uZ=>hQ v4 eY m4 c4 l4 e' q0 q3 q9 (yy.trans x4) h4 hm4 (by rw [List.append_assoc] at uZ;exact uZ)
theorem lU {m d c l:Nat} {σ:St} {t:Tok} (h:PO p w g all σ m d true c l)(ht:all[m]? =some t)(hd:d+1≤1000) {Q:AV→St→Prop}
 (q:∀σ',aI p σ σ'→PO p w g all σ' m d true c l→Q .sl0 σ'):ay X 47 [.p p 0 0] σ Q:=by
 refine ay.body (F:=F47) aF (lit:=false) rfl rfl (Nat.le_of_ble_eq_true rfl) ?_
 conv=>whnf
 refine Eo _ h ht hd ?_
 have h1:=h.set (m':=m) (d':=d+1) (b':=true) (c':=c) (l':=l) h.at_ hd
 conv=>whnf
 refine qZ h1 (.inl rfl) fun e' e0 e3 e9=>?_
 conv=>whnf
 rw [show dK.ev e' (.t 0)=get e' 0 from rfl,e0]
 conv=>whnf
 refine gX _ h1 ht ?_
 have h3:=h1.set (m':=m) (d':=d) (b':=true) (c':=c) (l':=l) h.at_ h.dp
 conv=>whnf
 have q3:dK.ev (put (some 22) (.tu []) (put (some 21) (.p p 0 0) e')) (.t 3)= .sl0:=e3
 erw [q3]
 conv=>whnf
 exact u_ (q _ (PO.ext.trans PO.ext) h3) fun _=>q _ (.refl _ _) h
theorem YQ (NI:vI p w g all n)(d:Nat)(σ:St)(m c0 l0:Nat)(Q:AV→St→Prop)(h:PO p w g all σ m d false c0 l0)(hd:d≤64)(he:aU (all.drop m))(hn:10*(all.drop m).length+10≤n+1)(hQ:QSs p w g all σ d Q (dI (n+1) d (all.drop m))):ay X 47 [.p p 0 0] σ Q:=by
 obtain⟨t,r,hts⟩:=he.ne
 obtain⟨ht,hr⟩:=aW hts
 have hpl:=aX h.obj
 have hwl:=aX h.tok
 have hal:=h.len
 have hm:=h.at_
 unfold dI gq at hQ
 rw [hts] at hQ
 refine ay.body (F:=F47) aF (lit:=false) rfl rfl (Nat.le_of_ble_eq_true rfl) ?_
 conv=>whnf
 refine qW [123] h ht (by omega) (fun hi=>(aN he hts hi).1) (fun hi h64=>?_) (fun hi h64=>?_) (fun hi=>?_)
 ·obtain⟨hm1,he1,hl1⟩:=aN he hts hi
  have h1:=h.set (m':=m+1) (d':=d+1) (b':=false) (c':=c0) (l':=l0) hm1 (by omega)
  rw [if_neg (by omega),aP,if_pos (show aY [123] (t :: r)=true from hi)] at hQ
  have hQ:QSs p w g all σ d Q ((gW n (d+1) r).bind fun l ts=>(aP [125] ts).bind fun _ ts=>.ok l ts):=hQ
  rw [←hr] at hQ
  have hg:=(ny n).stmts (d+1) (all.drop (m+1)) he1 (by omega)
  conv=>whnf
  refine NI (d+1) σ.length (by omega) hpl hwl [] .sl0 _ (m+1) _ _ _ h1 (by rw [bg];exact Nat.le_refl _) ⟨[],.inl ⟨rfl,rfl⟩,trivial⟩ he1 (by omega) (by simp only [List.length_nil,List.length_drop];omega) ?_
  generalize gW n (d+1) (all.drop (m+1))=r1 at hg hQ
  cases r1 with
  | out=>exact hg.elim
  | bad c l=>
    have hQ:QSs p w g all σ d Q (.bad c l):=hQ
    intro v σ2 m2 e' e0 e3 e9 x2 h2 hv
    obtain⟨t2,ht2⟩:∃t2,all[m2]? =some t2:=⟨_,List.getElem?_eq_getElem h2.at_⟩
    have h3:=h2.set (m':=m2) (d':=d) (b':=true) (c':=c) (l':=l) h2.at_ h.dp
    have hv':=hv
    rcases hv with rfl | ⟨oo,gg,kk,rfl⟩
    all_goals
        conv=>whnf
        rw [show dK.ev e' (.t 0)=get e' 0 from rfl,e0]
        conv=>whnf
        refine gX _ h2 ht2 ?_
        conv=>whnf
        have q3:dK.ev (put (some 22) (.tu []) (put (some 21) (.p p 0 0) e')) (.t 3)=_:=e3
        erw [q3]
        conv=>whnf
        exact jV h.obj h3.obj (by simp [kK]) (hQ _ _ _ (PO.extB x2) h3 hv')
  | ok xs bJ=>
    intro v σ2 m2 c2 l2 e' e0 e3 e9 x2 h2 hm2 hacc
    have harg:dN (fun i=>σ.length≤i) σ2 v xs:=by have:=hacc.arg;rw [List.nil_append,NH] at this;exact this
    have hv:yT v:=by obtain⟨cs,hr,_⟩:=hacc;exact hr.sl
    have he2:aU (all.drop m2):=by rw [hm2];exact hg.2.1
    have hlg:=hg.2.2
    rw [←hm2] at hlg
    obtain⟨t2,r2,fD⟩:=he2.ne
    obtain⟨ht2,hr2⟩:=aW fD
    have hQ:QSs p w g all σ d Q ((aP [125] bJ).bind fun _ ts=>.ok xs ts):=hQ
    rw [←hm2,fD] at hQ
    have hmm:m<m2+1:=by simp only [List.length_drop] at hlg hl1;omega
    have hv':=hv
    rcases hv with rfl | ⟨oo,gg,kk,rfl⟩
    all_goals
        conv=>whnf
        rw [show dK.ev e' (.t 0)=get e' 0 from rfl,e0]
        conv=>whnf
        refine yS _ h2 ht2 (fun hi2=>(aN he2 fD hi2).1) (fun hi2=>?_) (fun hi2=>?_)
        ·rw [aP,if_pos (show aY [125] (t2 :: r2)=true from hi2)] at hQ
         have h3:=h2.set (m':=m2+1) (d':=d) (b':=false) (c':=c2) (l':=l2) (aN he2 fD hi2).1 h.dp
         conv=>whnf
         have q3:dK.ev (put (some 22) (.tu []) (put (some 21) (.p p 0 0) e')) (.t 3)=_:=e3
         erw [q3]
         conv=>whnf
         exact jV h.obj h3.obj (by simp [kK];omega) (hQ _ _ _ _ _ (PO.extB x2) h3 hr2 (dN.mono (fun i hi=>hi) (fun i hi a ha=>PO.ext.get (by omega) ha) harg) hv')
        ·rw [aP,if_neg (show ¬aY [125] (t2 :: r2)=true by rw [show aY [125] (t2 :: r2)=dH [125] t2 from rfl,hi2];decide)] at hQ
         have h3:=h2.set (m':=m2) (d':=d) (b':=true) (c':=4) (l':=t2.l) h2.at_ h.dp
         conv=>whnf
         have q3:dK.ev (put (some 22) (.tu []) (put (some 21) (.p p 0 0) e')) (.t 3)=_:=e3
         erw [q3]
         conv=>whnf
         exact jV h.obj h3.obj (by simp [kK]) (hQ _ _ _ (PO.extB x2) h3 hv')
 ·rw [if_pos ⟨show aY [123] (t :: r)=true from hi,h64⟩] at hQ
  have hQ:QSs p w g all σ d Q (.bad 3 t.l):=hQ
  have h1:=h.set (m':=m) (d':=d+1) (b':=true) (c':=3) (l':=t.l) h.at_ (by omega)
  conv=>whnf
  refine qZ h1 (.inl rfl) fun e' e0 e3 e9=>?_
  conv=>whnf
  rw [show dK.ev e' (.t 0)=get e' 0 from rfl,e0]
  conv=>whnf
  refine gX _ h1 ht ?_
  have h3:=h1.set (m':=m) (d':=d) (b':=true) (c':=3) (l':=t.l) h.at_ h.dp
  conv=>whnf
  have q3:dK.ev (put (some 22) (.tu []) (put (some 21) (.p p 0 0) e')) (.t 3)= .sl0:=e3
  erw [q3]
  conv=>whnf
  exact jV h.obj h3.obj (by simp [kK]) (hQ _ _ _ (PO.ext.trans PO.ext) h3 (.inl rfl))
 ·have hiw:¬aY [123] (t :: r)=true:=by rw [show aY [123] (t :: r)=dH [123] t from rfl,hi];decide
  rw [if_neg (fun e=>hiw e.1),aP,if_neg hiw] at hQ
  have hQ:QSs p w g all σ d Q (.bad 4 t.l):=hQ
  have h1:=h.set (m':=m) (d':=d+1) (b':=true) (c':=4) (l':=t.l) h.at_ (by omega)
  conv=>whnf
  refine qZ h1 (.inl rfl) fun e' e0 e3 e9=>?_
  conv=>whnf
  rw [show dK.ev e' (.t 0)=get e' 0 from rfl,e0]
  conv=>whnf
  refine gX _ h1 ht ?_
  have h3:=h1.set (m':=m) (d':=d) (b':=true) (c':=4) (l':=t.l) h.at_ h.dp
  conv=>whnf
  have q3:dK.ev (put (some 22) (.tu []) (put (some 21) (.p p 0 0) e')) (.t 3)= .sl0:=e3
  erw [q3]
  conv=>whnf
  exact jV h.obj h3.obj (by simp [kK]) (hQ _ _ _ (PO.ext.trans PO.ext) h3 (.inl rfl))
end
end Go.bG.YtjcicgkencfbgaaGreatDoor
namespace Go.bG.YtjcicgkencfbgaaGreatDoor
open Go.Proofs
set_option maxRecDepth 4000
section
variable {p w g:Nat} {all:List Tok} {n:Nat}
theorem vJ {m d c l:Nat} {b:Bool} {σ:St} (h:PO p w g all σ m d b c l):∃t,all[m]? =some t:=⟨_,List.getElem?_eq_getElem h.at_⟩
theorem VI (V4:WE p w g all n)(ih:WT p w g all n)(d line:Nat)(σ:St)(m c0 l0:Nat)(Q:AV→St→Prop)(h:PO p w g all σ m d false c0 l0)(hd:d≤64)(he:aU (all.drop m))(hn:10*(all.drop m).length+12≤n+1)(hQ:kL p w g all σ d Q (dQ (n+1) d line (all.drop m))):ay X 115 [.p p 0 0,.i .i64 line] σ Q:=by
 have hpl:=aX h.obj
 unfold dQ at hQ
 have hg:=(jr n).expr d 1 (all.drop m) he (by omega)
 refine ay.body (F:=ZV) aF (lit:=false) rfl rfl (Nat.le_of_ble_eq_true rfl) ?_
 conv=>whnf
 refine V4.expr d 1 σ m c0 l0 _ h hd (by omega) he (by omega) ?_
 generalize dO n d 1 (all.drop m)=r1 at hg hQ
 cases r1 with
 | out=>exact hg.elim
 | bad c l=>
   have hQ:kL p w g all σ d Q (.bad c l):=hQ
   intro o g' s0 m2 y k0
   have ly:=y.len
   obtain⟨t2,ht2⟩:=vJ k0
   conv=>whnf
   have b1:(au 114 (AV.ag [.i .i64 4,.s [],.b false,.p0,.p o g' 0,.sl0,.sl0,.i .i64 line]).cells s0)[s0.length]? =some ⟨0,false,.cells 114 [.i .i64 4,.s [],.b false,.p0,.p o g' 0,.sl0,.sl0,.i .i64 line]⟩:=aG _ _ _
   have x1:Ext s0 (au 114 (AV.ag [.i .i64 4,.s [],.b false,.p0,.p o g' 0,.sl0,.sl0,.i .i64 line]).cells s0):=(Ext.refl s0).new _ _
   have l1:(au 114 (AV.ag [.i .i64 4,.s [],.b false,.p0,.p o g' 0,.sl0,.sl0,.i .i64 line]).cells s0).length=s0.length+1:=aH _ _ _
   generalize au 114 (AV.ag [.i .i64 4,.s [],.b false,.p0,.p o g' 0,.sl0,.sl0,.i .i64 line]).cells s0=σ1 at b1 x1 l1 ⊢
   have k:=k0.G8 x1
   have b1:σ1[s0.length]? =some (bP 4 [] false .p0 (.p o g' 0) .sl0 .sl0 line):=b1
   conv=>whnf
   refine lU k ht2 (by have:=h.dp;omega) fun s3 y3 k3=>?_
   have IY:=y3.get (by omega) b1
   conv=>whnf
   refine ak (aC (T:=dM) ([.i .i64 4,.s [],.b false,.p0,.p o g' 0,.sl0,.sl0,.i .i64 line]) rfl (IY) rfl rfl (Nat.le_of_ble_eq_true rfl) rfl) ?_
   conv=>whnf
   have k4:=k3.st IY (bP 4 [] false .p0 (.p o g' 0) .sl0 .sl0 line)
   refine dw [101,108,115,101] k4 ht2 (fun e=>by cases e) (fun _=>?_)
   conv=>whnf
   exact Fin.ref rfl (hQ _ _ _ _ (((y.trans (aI.of x1)).trans y3).set (by omega) _) k4)
 | ok z bJ=>
   intro o g' s0 m2 c2 l2 y k0 hm2 hez0
   have hQ:kL p w g all σ d Q ((dI n d bJ).bind fun th ts=>
    if aY qj ts=true then
        if aY IG ts.tail=true then(dQ n d (jR ts.tail) ts.tail.tail).bind fun b ts=>.ok (.st 4 [] false .nil z th (.cons b .nil) line) ts
        else(dI n d ts.tail).bind fun el ts=>.ok (.st 4 [] false .nil z th el line) ts
    else .ok (.st 4 [] false .nil z th .nil line) ts):=hQ
   have ly:=y.len
   have hez1:=hez0.below
   conv=>whnf
   have b1:(au 114 (AV.ag [.i .i64 4,.s [],.b false,.p0,.p o g' 0,.sl0,.sl0,.i .i64 line]).cells s0)[s0.length]? =some ⟨0,false,.cells 114 [.i .i64 4,.s [],.b false,.p0,.p o g' 0,.sl0,.sl0,.i .i64 line]⟩:=aG _ _ _
   have x1:Ext s0 (au 114 (AV.ag [.i .i64 4,.s [],.b false,.p0,.p o g' 0,.sl0,.sl0,.i .i64 line]).cells s0):=(Ext.refl s0).new _ _
   have l1:(au 114 (AV.ag [.i .i64 4,.s [],.b false,.p0,.p o g' 0,.sl0,.sl0,.i .i64 line]).cells s0).length=s0.length+1:=aH _ _ _
   generalize au 114 (AV.ag [.i .i64 4,.s [],.b false,.p0,.p o g' 0,.sl0,.sl0,.i .i64 line]).cells s0=σ1 at b1 x1 l1 ⊢
   have k:=k0.G8 x1
   have b1:σ1[s0.length]? =some (bP 4 [] false .p0 (.p o g' 0) .sl0 .sl0 line):=b1
   have y1:aI p σ σ1:=y.trans (aI.of x1)
   have rO:bK (fun i=>σ.length≤i∧i<s0.length) σ1 (.p o g' 0) z:=bK.mono (fun i hi=>hi) (fun i hi a ha=>x1.get ha) hez1
   rw [←hm2] at hQ hg
   have lg:=hg.2.2
   have hgb:=(ny n).block d (all.drop m2) hg.2.1 (by omega)
   conv=>whnf
   refine ih.block d _ m2 _ _ _ k hd hg.2.1 (by omega) ?_
   generalize dI n d (all.drop m2)=r2 at hgb hQ
   cases r2 with
   | out=>exact hgb.elim
   | bad c l=>
     have hQ:kL p w g all σ d Q (.bad c l):=hQ
     intro A s3 m3 y3 k3 hA
     have IY:=y3.get (by omega) b1
     obtain⟨t3,ht3⟩:=vJ k3
     refine bU _ _ ?_
     conv=>whnf
     refine ak (dP (T:=dM) [.i .i64 4,.s [],.b false,.p0,.p o g' 0,A,.sl0,.i .i64 line] hA rfl rfl IY (Nat.le_of_ble_eq_true rfl) rfl) ?_
     have k4:=k3.st IY (bP 4 [] false .p0 (.p o g' 0) A .sl0 line)
     conv=>whnf
     refine dw [101,108,115,101] k4 ht3 (fun e=>by cases e) (fun _=>?_)
     conv=>whnf
     exact Fin.ref rfl (hQ _ _ _ _ ((y1.trans y3).set (by omega) _) k4)
   | ok th fU=>
     intro A s3 m3 c3 l3' y3 k3 KU hth hA
     have hQ:kL p w g all σ d Q (
        if aY qj fU=true then
         if aY IG fU.tail=true then(dQ n d (jR fU.tail) fU.tail.tail).bind fun b ts=>.ok (.st 4 [] false .nil z th (.cons b .nil) line) ts
         else(dI n d fU.tail).bind fun el ts=>.ok (.st 4 [] false .nil z th el line) ts
        else .ok (.st 4 [] false .nil z th .nil line) fU):=hQ
     have IY:=y3.get (by omega) b1
     have l3:=y3.len
     have he3:aU (all.drop m3):=by rw [KU];exact hgb.2.1
     obtain⟨t3,r3,jL⟩:=he3.ne
     obtain⟨ht3,hr3⟩:=aW jL
     have hlen3:(all.drop m3).length=r3.length+1:=by rw [jL];rfl
     have lgb:=hgb.2.2
     rw [←KU] at lgb
     rw [←KU,jL] at hQ
     have hQ:kL p w g all σ d Q (
        if aY qj (t3 :: r3)=true then
         if aY IG r3=true then(dQ n d (jR r3) r3.tail).bind fun b ts=>.ok (.st 4 [] false .nil z th (.cons b .nil) line) ts
         else(dI n d r3).bind fun el ts=>.ok (.st 4 [] false .nil z th el line) ts
        else .ok (.st 4 [] false .nil z th .nil line) (t3 :: r3)):=hQ
     refine bU _ _ ?_
     conv=>whnf
     refine ak (dP (T:=dM) [.i .i64 4,.s [],.b false,.p0,.p o g' 0,A,.sl0,.i .i64 line] hA rfl rfl IY (Nat.le_of_ble_eq_true rfl) rfl) ?_
     have k4:=k3.st IY (bP 4 [] false .p0 (.p o g' 0) A .sl0 line)
     have Rh:(s3.set s0.length (bP 4 [] false .p0 (.p o g' 0) A .sl0 line))[s0.length]? =_:=at_set IY _
     have y4:aI p σ (s3.set s0.length (bP 4 [] false .p0 (.p o g' 0) A .sl0 line)):=(y1.trans y3).set (by omega) _
     have hez4:bK (fun i=>σ.length≤i∧i<s0.length) (s3.set s0.length (bP 4 [] false .p0 (.p o g' 0) A .sl0 line)) (.p o g' 0) z:=bK.mono (fun i hi=>hi) (fun i hi a ha=>aK (y3.get (by omega) ha) (by omega) _) rO
     have hth4:dN (fun i=>σ1.length≤i) (s3.set s0.length (bP 4 [] false .p0 (.p o g' 0) A .sl0 line)) A th:=dN.mono (fun i hi=>hi) (fun i hi a ha=>aK ha (by omega) _) hth
     have l4:(s3.set s0.length (bP 4 [] false .p0 (.p o g' 0) A .sl0 line)).length=s3.length:=List.length_set
     have fin:∀(E:AV) (el:oO) (s5:St),aI p (s3.set s0.length (bP 4 [] false .p0 (.p o g' 0) A .sl0 line)) s5→dN (fun i=>σ1.length≤i) (s5.set s0.length (bP 4 [] false .p0 (.p o g' 0) A E line)) E el→jH (fun i=>σ.length≤i) (s5.set s0.length (bP 4 [] false .p0 (.p o g' 0) A E line)) (.p s0.length 0 0) (.st 4 [] false .nil z th el line):=by
        intro E el s5 y5 hE
        refine⟨s0.length,0,.p0,.p o g' 0,A,E,ly,rfl,at_set (y5.get (by omega) Rh) _,rfl,?_,?_,?_⟩
        ·exact bK.mono (fun i hi=>hi.1) (fun i hi a ha=>aK (y5.get (by omega) ha) (by omega) _) hez4
        ·exact dN.mono (fun i hi=>by omega) (fun i hi a ha=>aK (y5.get (by omega) ha) (by omega) _) hth4
        ·exact dN.mono (fun i hi=>by omega) (fun i hi a ha=>ha) hE
     conv=>whnf
     refine dw [101,108,115,101] k4 ht3 (fun _ hi=>?_) (fun hi=>?_)
     ·rw [if_pos (show aY qj (t3 :: r3)=true from hi)] at hQ
      obtain⟨hm4,he4,hle4⟩:=aN he3 jL hi
      obtain⟨t4,r4,oD⟩:=he4.ne
      obtain⟨IL,hr4⟩:=aW oD
      have hrr:r3=t4 :: r4:=by rw [←oD,hr3]
      have hlen4:(all.drop (m3+1)).length=r4.length+1:=by rw [oD];rfl
      have hlr:r3.length=r4.length+1:=by rw [hrr];rfl
      rw [hrr] at hQ
      have k5:=k4.set (m':=m3+1) (d':=d) (b':=false) (c':=c3) (l':=l3') hm4 h.dp
      have y5:=PO.ext (p:=p) (w:=w) (g:=g) (n:=all.length) (m:=m3+1) (d:=d) (b:=false) (c:=c3) (l:=l3') (σ:=s3.set s0.length (bP 4 [] false .p0 (.p o g' 0) A .sl0 line))
      have l5:=y5.len
      conv=>whnf
      refine ay.to (iO k5 IL) ?_
      conv=>whnf
      refine qX t4 k5 fun s6 x6 k6 EU l6=>?_
      have y6:=y5.trans x6
      conv=>whnf
      refine dw [105,102] k6 IL (fun _ hi2=>?_) (fun hi2=>?_)
      ·rw [if_pos (show aY IG (t4 :: r4)=true from hi2)] at hQ
       have hQ:kL p w g all σ d Q ((dQ n d t4.l r4).bind fun b ts=>.ok (.st 4 [] false .nil z th (.cons b .nil) line) ts):=hQ
       obtain⟨Md,ER,hle5⟩:=aN he4 oD hi2
       have hlen5:(all.drop (m3+1+1)).length=r4.length:=by rw [hr4]
       have hg5:=(ny n).branch d t4.l (all.drop (m3+1+1)) ER (by omega)
       have k7:=k6.set (m':=m3+1+1) (d':=d) (b':=false) (c':=c3) (l':=l3') Md h.dp
       have y7:=y6.trans (PO.ext (p:=p) (w:=w) (g:=g) (n:=all.length) (m:=m3+1+1) (d:=d) (b:=false) (c:=c3) (l:=l3') (σ:=s6))
       have l7:=y7.len
       rw [←hr4] at hQ
       conv=>whnf
       refine ak (aj (T:=dA) rfl rfl (ah ((PO.ext.get (by omega) EU))) rfl) ?_
       conv=>whnf
       refine ih.branch d t4.l _ (m3+1+1) _ _ _ k7 hd ER (by omega) ?_
       generalize dQ n d t4.l (all.drop (m3+1+1))=r5 at hg5 hQ
       cases r5 with
       | out=>exact hg5.elim
       | bad c l=>
         have hQ:kL p w g all σ d Q (.bad c l):=hQ
         intro o8 g8 s8 m8 y8 k8
         have Ar:=y7.trans y8
         conv=>whnf
         have b9:(au 102 [.p o8 g8 0] s8)[s8.length]? =some ⟨0,false,.cells 102 [.p o8 g8 0]⟩:=aG _ _ _
         have x9:Ext s8 (au 102 [.p o8 g8 0] s8):=(Ext.refl s8).new _ _
         have l9:(au 102 [.p o8 g8 0] s8).length=s8.length+1:=aH _ _ _
         generalize au 102 [.p o8 g8 0] s8=GU at b9 x9 l9 ⊢
         have Ez:=x9.get (Ar.get (by omega) Rh)
         have k9:=k8.G8 x9
         refine ak (aC (T:=dM) ([.i .i64 4,.s [],.b false,.p0,.p o g' 0,A,.sl s8.length 0 0 1 1,.i .i64 line]) rfl (Ez) rfl rfl (Nat.le_of_ble_eq_true rfl) rfl) ?_
         conv=>whnf
         exact Fin.ref rfl (hQ _ _ _ _ ((y4.trans (Ar.trans (aI.of x9))).set (by omega) _) (k9.st Ez _))
       | ok bs wu=>
         have hQ:kL p w g all σ d Q (.ok (.st 4 [] false .nil z th (.cons bs .nil) line) wu):=hQ
         intro o8 g8 s8 m8 c8 l8' y8 k8 O7 hbs
         have Ar:=y7.trans y8
         have l8:=y8.len
         rw [bg] at l8 hbs
         conv=>whnf
         have b9:(au 102 [.p o8 g8 0] s8)[s8.length]? =some ⟨0,false,.cells 102 [.p o8 g8 0]⟩:=aG _ _ _
         have x9:Ext s8 (au 102 [.p o8 g8 0] s8):=(Ext.refl s8).new _ _
         have l9:(au 102 [.p o8 g8 0] s8).length=s8.length+1:=aH _ _ _
         generalize au 102 [.p o8 g8 0] s8=GU at b9 x9 l9 ⊢
         have Ez:=x9.get (Ar.get (by omega) Rh)
         have k9:=k8.G8 x9
         refine ak (aC (T:=dM) ([.i .i64 4,.s [],.b false,.p0,.p o g' 0,A,.sl s8.length 0 0 1 1,.i .i64 line]) rfl (Ez) rfl rfl (Nat.le_of_ble_eq_true rfl) rfl) ?_
         conv=>whnf
         refine Fin.ref rfl (hQ _ _ _ _ _ _ ((y4.trans (Ar.trans (aI.of x9))).set (by omega) _) (k9.st Ez _) O7 (fin _ _ _ (Ar.trans (aI.of x9)) ?_))
         refine⟨s8.length,0,[.p o8 g8 0],by omega,rfl,aK b9 (by omega) _,_,[],rfl,?_,rfl⟩
         exact jH.mono (fun i hi=>by omega) (fun i hi a ha=>aK (x9.get ha) (by omega) _) hbs
      ·have hni:dH [105,102] t4=false:=by simpa using hi2
       rw [if_neg (show ¬aY IG (t4 :: r4)=true by rw [show aY IG (t4 :: r4)=dH [105,102] t4 from rfl,hni];decide),←oD] at hQ
       have hQ:kL p w g all σ d Q ((dI n d (all.drop (m3+1))).bind fun el ts=>.ok (.st 4 [] false .nil z th el line) ts):=hQ
       have hg5:=(ny n).block d (all.drop (m3+1)) he4 (by omega)
       have l7:=y6.len
       conv=>whnf
       refine ih.block d _ (m3+1) _ _ _ k6 hd he4 (by omega) ?_
       generalize dI n d (all.drop (m3+1))=r5 at hg5 hQ
       cases r5 with
       | out=>exact hg5.elim
       | bad c l=>
         have hQ:kL p w g all σ d Q (.bad c l):=hQ
         intro E s8 m8 y8 k8 hE
         have Ar:=y6.trans y8
         have Ez:=Ar.get (by omega) Rh
         refine bU _ _ ?_
         conv=>whnf
         refine ak (dP (T:=dM) [.i .i64 4,.s [],.b false,.p0,.p o g' 0,A,E,.i .i64 line] hE rfl rfl Ez (Nat.le_of_ble_eq_true rfl) rfl) ?_
         conv=>whnf
         exact Fin.ref rfl (hQ _ _ _ _ ((y4.trans Ar).set (by omega) _) (k8.st Ez _))
       | ok el wu=>
         have hQ:kL p w g all σ d Q (.ok (.st 4 [] false .nil z th el line) wu):=hQ
         intro E s8 m8 c8 l8' y8 k8 O7 hel hE
         have Ar:=y6.trans y8
         have l8:=y8.len
         have Ez:=Ar.get (by omega) Rh
         refine bU _ _ ?_
         conv=>whnf
         refine ak (dP (T:=dM) [.i .i64 4,.s [],.b false,.p0,.p o g' 0,A,E,.i .i64 line] hE rfl rfl Ez (Nat.le_of_ble_eq_true rfl) rfl) ?_
         conv=>whnf
         exact Fin.ref rfl (hQ _ _ _ _ _ _ ((y4.trans Ar).set (by omega) _) (k8.st Ez _) O7 (fin _ _ _ Ar (dN.mono (fun i hi=>by omega) (fun i hi a ha=>aK ha (by omega) _) hel)))
     ·have hni:dH [101,108,115,101] t3=false:=by simpa using hi
      rw [if_neg (show ¬aY qj (t3 :: r3)=true by rw [show aY qj (t3 :: r3)=dH [101,108,115,101] t3 from rfl,hni];decide)] at hQ
      conv=>whnf
      have e4:=uf Rh
      refine Fin.ref rfl (hQ _ _ _ _ _ _ y4 k4 jL ?_)
      have:=fin .sl0 .nil _ (.refl _ _) rfl
      rw [e4] at this
      exact this
end
end Go.bG.YtjcicgkencfbgaaGreatDoor
namespace Go.bG.YtjcicgkencfbgaaGreatDoor
open Go.Proofs
set_option maxRecDepth 4000
section
variable {p w g:Nat} {all:List Tok} {n:Nat}
theorem uw (hno:oC all):∀(n d:Nat) (σ:St) (m c0 l0:Nat) (Q:AV→St→Prop),PO p w g all σ m d false c0 l0→d≤64→aU (all.drop m)→10*(all.drop m).length+10≤n→PE p w g all σ d Q (bW n d (all.drop m))→ay X 116 [.p p 0 0] σ Q
 | 0,_,_,_,_,_,_,_,_,_,h,_=>absurd h (by omega)
 | n+1,d,σ,m,c0,l0,Q,h,hd,he,hn,hQ=>Yp (NG hno n).1 d σ m c0 l0 Q h hd he hn hQ
set_option maxHeartbeats 4000000 in
theorem stmt_w (hno:oC all)(ih:WT p w g all n)(d:Nat)(σ:St)(m c0 l0:Nat)(Q:AV→St→Prop)(h:PO p w g all σ m d false c0 l0)(hd:d≤64)(he:aU (all.drop m))(hn:10*(all.drop m).length+14≤n+1)(hQ:kL p w g all σ d Q (kH (n+1) d (all.drop m))):ay X 85 [.p p 0 0] σ Q:=by
 obtain⟨t,r,hts⟩:=he.ne
 obtain⟨ht,hr⟩:=aW hts
 have hpl:=aX h.obj
 have hlr:(all.drop m).length=r.length+1:=by rw [hts];rfl
 unfold kH at hQ
 rw [hts] at hQ
 simp only at hQ
 refine ay.body (F:=F85) aF (lit:=false) rfl rfl (Nat.le_of_ble_eq_true rfl) ?_
 conv=>whnf
 refine ay.to (iO h ht) ?_
 conv=>whnf
 refine qX t h fun σ1 x1 h1 ht1 hl1=>?_
 conv=>whnf
 refine ak (aj (T:=dA) rfl rfl (ah (ht1)) rfl) ?_
 conv=>whnf
 have b2:(au 114 (AV.ag [.i .i64 0,.s [],.b false,.p0,.p0,.sl0,.sl0,.i .i64 t.l]).cells σ1)[σ1.length]? =some ⟨0,false,.cells 114 [.i .i64 0,.s [],.b false,.p0,.p0,.sl0,.sl0,.i .i64 t.l]⟩:=aG _ _ _
 have x2:Ext σ1 (au 114 (AV.ag [.i .i64 0,.s [],.b false,.p0,.p0,.sl0,.sl0,.i .i64 t.l]).cells σ1):=(Ext.refl σ1).new _ _
 have l2:(au 114 (AV.ag [.i .i64 0,.s [],.b false,.p0,.p0,.sl0,.sl0,.i .i64 t.l]).cells σ1).length=σ1.length+1:=aH _ _ _
 generalize au 114 (AV.ag [.i .i64 0,.s [],.b false,.p0,.p0,.sl0,.sl0,.i .i64 t.l]).cells σ1=σ2 at b2 x2 l2 ⊢
 have b2:σ2[σ1.length]? =some (bP 0 [] false .p0 .p0 .sl0 .sl0 t.l):=b2
 have k2:=h1.G8 x2
 have y2:aI p σ σ2:=x1.trans (aI.of x2)
 have tk2:=x2.get ht1
 have he1:∀s,dH s t=true→m+1<all.length∧aU (all.drop (m+1))∧(all.drop (m+1)).length<(all.drop m).length:=fun s hi=>aN he hts hi
 conv=>whnf
 refine dw [118,97,114] k2 ht (fun _ hi=>?_) (fun hi=>?_)
 ·rw [if_pos (show aY QB (t :: r)=true from hi)] at hQ
  obtain⟨hm1,he2,hle⟩:=he1 _ hi
  have k3:=k2.set (m':=m+1) (d':=d) (b':=false) (c':=c0) (l':=l0) hm1 h.dp
  have z3:aI p σ2 _:=PO.ext (p:=p) (w:=w) (g:=g) (n:=all.length) (m:=m+1) (d:=d) (b:=false) (c:=c0) (l:=l0) (σ:=σ2)
  have f3:=z3.get (by omega) b2
  conv=>whnf
  refine ak (aC (T:=dA) ([.i .i64 1,.s [],.b false,.p0,.p0,.sl0,.sl0,.i .i64 t.l]) rfl (f3) rfl rfl (Nat.le_of_ble_eq_true rfl) rfl) ?_
  conv=>whnf
  have k4:=k3.st f3 (bP 1 [] false .p0 .p0 .sl0 .sl0 t.l)
  have f4:(_:St)[σ1.length]? =_:=at_set f3 (bP 1 [] false .p0 .p0 .sl0 .sl0 t.l)
  have y4:aI p σ _:=(y2.trans z3).set (o:=σ1.length) (by omega) (bP 1 [] false .p0 .p0 .sl0 .sl0 t.l)
  have l4:=aX f4
  rw [←hr] at hQ
  obtain⟨t3,r3,jL⟩:=he2.ne
  obtain⟨ht3,hr3⟩:=aW jL
  have hlr3:(all.drop (m+1)).length=r3.length+1:=by rw [jL];rfl
  rw [jL] at hQ
  refine uY k4 ht3 (fun hk=>jv (by rw [hr3];exact(jL▸he2).tail (by rw [hk];decide))) (fun hk s5 y5 k5=>?_) (fun hk s5 y5 k5=>?_)
  ·rw [dU,if_pos hk] at hQ
   have he3:aU (all.drop (m+1+1)):=by rw [hr3];exact(jL▸he2).tail (by rw [hk];decide)
   have f5:=y5.get (by omega) f4
   have l5:=y5.len
   conv=>whnf
   refine ak (aC (T:=eG) ([.i .i64 1,.s t3.s,.b false,.p0,.p0,.sl0,.sl0,.i .i64 t.l]) rfl (f5) rfl rfl (Nat.le_of_ble_eq_true rfl) rfl) ?_
   conv=>whnf
   have k6:=k5.st f5 (bP 1 t3.s false .p0 .p0 .sl0 .sl0 t.l)
   have f6:(_:St)[σ1.length]? =_:=at_set f5 (bP 1 t3.s false .p0 .p0 .sl0 .sl0 t.l)
   have y6:aI p σ _:=(y4.trans y5).set (o:=σ1.length) (by omega) (bP 1 t3.s false .p0 .p0 .sl0 .sl0 t.l)
   have l6:=aX f6
   obtain⟨t6,r6,gU⟩:=he3.ne
   obtain⟨EU,yZ⟩:=aW gU
   have hlr6:(all.drop (m+1+1)).length=r6.length+1:=by rw [gU];rfl
   have hlr36:r3.length=r6.length+1:=by rw [←hr3,gU];rfl
   have hQ:kL p w g all σ d Q (if aY [61] (if aY fB r3=true then r3.tail else r3)=true then(bW n d (if aY fB r3=true then r3.tail else r3).tail).bind fun x ts=>.ok (.st 1 t3.s (aY fB r3) .nil x .nil .nil t.l) ts else(aP [59] (if aY fB r3=true then r3.tail else r3)).bind fun _ ts=>.ok (.st 1 t3.s (aY fB r3) .nil .nil .nil .nil t.l) ts):=hQ
   rw [←hr3,gU] at hQ
   conv=>whnf
   refine dw _ k6 EU (fun _ fZ=>?_) (fun fZ=>?_)
   ·have hpw:aY fB (t6 :: r6)=true:=fZ
    obtain⟨QN,G9,hle6⟩:=aN he3 gU fZ
    have k7:=k6.set (m':=m+1+1+1) (d':=d) (b':=false) (c':=c0) (l':=l0) QN h.dp
    have z7:=y6.trans (PO.ext (p:=p) (w:=w) (g:=g) (n:=all.length) (m:=m+1+1+1) (d:=d) (b:=false) (c:=c0) (l:=l0))
    have f7:=(PO.ext (p:=p) (w:=w) (g:=g) (n:=all.length) (m:=m+1+1+1) (d:=d) (b:=false) (c:=c0) (l:=l0)).get (by omega) f6
    simp only [hpw,if_true,List.tail_cons] at hQ
    rw [←yZ] at hQ
    conv=>whnf
    refine ak (aC (T:=kY) ([.i .i64 1,.s t3.s,.b true,.p0,.p0,.sl0,.sl0,.i .i64 t.l]) rfl (f7) rfl rfl (Nat.le_of_ble_eq_true rfl) rfl) ?_
    conv=>whnf
    have k8:=k7.st f7 (bP 1 t3.s true .p0 .p0 .sl0 .sl0 t.l)
    have f8:(_:St)[σ1.length]? =_:=at_set f7 (bP 1 t3.s true .p0 .p0 .sl0 .sl0 t.l)
    have y8:aI p σ _:=z7.set (o:=σ1.length) (by omega) (bP 1 t3.s true .p0 .p0 .sl0 .sl0 t.l)
    have l8:=aX f8
    obtain⟨t9,r9,uy⟩:=G9.ne
    obtain⟨ht9,hr9⟩:=aW uy
    have hlr9:(all.drop (m+1+1+1)).length=r9.length+1:=by rw [uy];rfl
    rw [uy] at hQ
    conv=>whnf
    refine dw [61] k8 ht9 (fun _ hi9=>?_) (fun hi9=>?_)
    ·rw [if_pos (show aY [61] (t9 :: r9)=true from hi9)] at hQ
     obtain⟨BD,he9,hle9⟩:=aN G9 uy hi9
     have hQ:kL p w g all σ d Q ((bW n d r9).bind fun x ts=>.ok (.st 1 t3.s true .nil x .nil .nil t.l) ts):=hQ
     rw [←hr9] at hQ
     have k10:=k8.set (m':=(m+1+1+1+1)) (d':=d) (b':=false) (c':=c0) (l':=l0) BD h.dp
     have f10:=aI.get (PO.ext (p:=p) (w:=w) (g:=g) (n:=all.length) (m:=(m+1+1+1+1)) (d:=d) (b:=false) (c:=c0) (l:=l0)) (by omega) f8
     have qw:=y8.trans (PO.ext (p:=p) (w:=w) (g:=g) (n:=all.length) (m:=(m+1+1+1+1)) (d:=d) (b:=false) (c:=c0) (l:=l0))
     have l10:=aX f10
     obtain⟨n',rfl⟩:∃n',n=n'+ 1:=⟨n - 1,by omega⟩
     unfold bW at hQ
     have hQ:kL p w g all σ d Q (((dO n' d 1 (all.drop (m+1+1+1+1))).bind fun x ts=>(aP [59] ts).bind fun _ ts=>.ok x ts).bind fun x ts=>.ok (.st 1 t3.s true .nil x .nil .nil t.l) ts):=hQ
     have hg:=(jr n').expr d 1 (all.drop (m+1+1+1+1)) he9 (by omega)
     conv=>whnf
     refine(NG hno n').1.expr d 1 _ (m+1+1+1+1) _ _ _ k10 hd (by omega) he9 (by omega) ?_
     generalize dO n' d 1 (all.drop (m+1+1+1+1))=re at hg hQ
     cases re with
     | out=>exact hg.elim
     | bad c l=>
       have hQ:kL p w g all σ d Q (.bad c l):=hQ
       intro o g' s11 m11 vk k11
       have f11:=vk.get (by omega) f10
       obtain⟨tt,htt⟩:=vJ k11
       conv=>whnf
       refine ak (aC (T:=bC) ([.i .i64 1,.s t3.s,.b true,.p0,.p o g' 0,.sl0,.sl0,.i .i64 t.l]) rfl (f11) rfl rfl (Nat.le_of_ble_eq_true rfl) rfl) ?_
       conv=>whnf
       refine ou _ (k11.st f11 _) htt ?_
       conv=>whnf
       exact Fin.ref rfl (hQ _ _ _ _ ((qw.trans vk).set (by omega) _) (k11.st f11 _))
     | ok z bJ=>
       have hQ:kL p w g all σ d Q ((aP [59] bJ).bind fun _ ts=>.ok (.st 1 t3.s true .nil z .nil .nil t.l) ts):=by
        have e:((aP [59] bJ).bind fun _ ts=>Re.ok (Sm.st 1 t3.s true .nil z .nil .nil t.l) ts)=((aP [59] bJ).bind fun _ ts=>Re.ok z ts).bind fun x ts=>Re.ok (Sm.st 1 t3.s true .nil x .nil .nil t.l) ts:=by
                cases aP [59] bJ <;> rfl
        rw [e];exact hQ
       intro o g' s11 m11 c11 YE vk k11 VJ rO
       have f11:=vk.get (by omega) f10
       have l11':=vk.len
       have VK:aU (all.drop m11):=by rw [VJ];exact hg.2.1
       rw [←VJ] at hQ
       conv=>whnf
       refine ak (aC (T:=bC) ([.i .i64 1,.s t3.s,.b true,.p0,.p o g' 0,.sl0,.sl0,.i .i64 t.l]) rfl (f11) rfl rfl (Nat.le_of_ble_eq_true rfl) rfl) ?_
       conv=>whnf
       have k12:=k11.st f11 (bP 1 t3.s true .p0 (.p o g' 0) .sl0 .sl0 t.l)
       have f12:(_:St)[σ1.length]? =_:=at_set f11 (bP 1 t3.s true .p0 (.p o g' 0) .sl0 .sl0 t.l)
       have VL:aI p σ _:=(qw.trans vk).set (o:=σ1.length) (by omega) (bP 1 t3.s true .p0 (.p o g' 0) .sl0 .sl0 t.l)
       have l12:=aX f12
       conv=>whnf
       obtain⟨t7,r7,kC⟩:=VK.ne
       obtain⟨QL,L9⟩:=aW kC
       rw [kC] at hQ
       refine jG _ k12 QL (fun zx=>?_) (fun zx=>?_)
       ·rw [aP,if_pos (show aY [59] (t7 :: r7)=true from zx)] at hQ
        have hQ:kL p w g all σ d Q (.ok (.st 1 t3.s true .nil z .nil .nil t.l) r7):=hQ
        have k8:=k12.set (m':=m11+1) (d':=d) (b':=false) (c':=c11) (l':=YE) (aN VK kC zx).1 h.dp
        conv=>whnf
        refine Fin.ref rfl (hQ _ _ _ _ _ _ (VL.trans PO.ext) k8 L9 ⟨σ1.length,0,.p0,.p o g' 0,.sl0,.sl0,by omega,rfl,PO.ext.get (by omega) f12,rfl,bK.mono (fun i hi=>by omega) (fun i hi a ha=>PO.ext.get (by omega) (aK ha (by omega) _)) rO,rfl,rfl⟩)
       ·rw [aP,if_neg (by rw [show aY [59] (t7 :: r7)=dH [59] t7 from rfl,zx];decide)] at hQ
        have hQ:kL p w g all σ d Q (.bad 4 t7.l):=hQ
        have k8:=k12.set (m':=m11) (d':=d) (b':=true) (c':=4) (l':=t7.l) k12.at_ h.dp
        conv=>whnf
        exact Fin.ref rfl (hQ _ _ _ _ (VL.trans PO.ext) k8)
    ·have hw9:dH [61] t9=false:=by simpa using hi9
     rw [if_neg (show ¬aY [61] (t9 :: r9)=true by rw [show aY [61] (t9 :: r9)=dH [61] t9 from rfl,hw9];decide),←uy] at hQ
     have hQ:kL p w g all σ d Q ((aP [59] (all.drop (m+1+1+1))).bind fun _ ts=>.ok (.st 1 t3.s true .nil .nil .nil .nil t.l) ts):=hQ
     conv=>whnf
     obtain⟨t7,r7,kC⟩:=G9.ne
     obtain⟨QL,L9⟩:=aW kC
     rw [kC] at hQ
     refine jG _ k8 QL (fun zx=>?_) (fun zx=>?_)
     ·rw [aP,if_pos (show aY [59] (t7 :: r7)=true from zx)] at hQ
      have hQ:kL p w g all σ d Q (.ok (.st 1 t3.s true .nil .nil .nil .nil t.l) r7):=hQ
      have k8:=k8.set (m':=(m+1+1+1)+1) (d':=d) (b':=false) (c':=c0) (l':=l0) (aN G9 kC zx).1 h.dp
      conv=>whnf
      refine Fin.ref rfl (hQ _ _ _ _ _ _ (y8.trans PO.ext) k8 L9 ⟨σ1.length,0,.p0,.p0,.sl0,.sl0,by omega,rfl,PO.ext.get (by omega) f8,rfl,rfl,rfl,rfl⟩)
     ·rw [aP,if_neg (by rw [show aY [59] (t7 :: r7)=dH [59] t7 from rfl,zx];decide)] at hQ
      have hQ:kL p w g all σ d Q (.bad 4 t7.l):=hQ
      have k8:=k8.set (m':=(m+1+1+1)) (d':=d) (b':=true) (c':=4) (l':=t7.l) k8.at_ h.dp
      conv=>whnf
      exact Fin.ref rfl (hQ _ _ _ _ (y8.trans PO.ext) k8)
   ·have hpw:aY fB (t6 :: r6)=false:=by rw [show aY fB (t6 :: r6)=dH [112,116,114] t6 from rfl];simpa using fZ
    have G9:=he3
    have k7:=k6
    have z7:=y6
    have f7:=f6
    simp only [hpw,Bool.false_eq_true,if_false] at hQ
    rw [←gU] at hQ
    conv=>whnf
    refine ak (aC (T:=kY) ([.i .i64 1,.s t3.s,.b false,.p0,.p0,.sl0,.sl0,.i .i64 t.l]) rfl (f7) rfl rfl (Nat.le_of_ble_eq_true rfl) rfl) ?_
    conv=>whnf
    have k8:=k7.st f7 (bP 1 t3.s false .p0 .p0 .sl0 .sl0 t.l)
    have f8:(_:St)[σ1.length]? =_:=at_set f7 (bP 1 t3.s false .p0 .p0 .sl0 .sl0 t.l)
    have y8:aI p σ _:=z7.set (o:=σ1.length) (by omega) (bP 1 t3.s false .p0 .p0 .sl0 .sl0 t.l)
    have l8:=aX f8
    obtain⟨t9,r9,uy⟩:=G9.ne
    obtain⟨ht9,hr9⟩:=aW uy
    have hlr9:(all.drop (m+1+1)).length=r9.length+1:=by rw [uy];rfl
    rw [uy] at hQ
    conv=>whnf
    refine dw [61] k8 ht9 (fun _ hi9=>?_) (fun hi9=>?_)
    ·rw [if_pos (show aY [61] (t9 :: r9)=true from hi9)] at hQ
     obtain⟨BD,he9,hle9⟩:=aN G9 uy hi9
     have hQ:kL p w g all σ d Q ((bW n d r9).bind fun x ts=>.ok (.st 1 t3.s false .nil x .nil .nil t.l) ts):=hQ
     rw [←hr9] at hQ
     have k10:=k8.set (m':=(m+1+1+1)) (d':=d) (b':=false) (c':=c0) (l':=l0) BD h.dp
     have f10:=aI.get (PO.ext (p:=p) (w:=w) (g:=g) (n:=all.length) (m:=(m+1+1+1)) (d:=d) (b:=false) (c:=c0) (l:=l0)) (by omega) f8
     have qw:=y8.trans (PO.ext (p:=p) (w:=w) (g:=g) (n:=all.length) (m:=(m+1+1+1)) (d:=d) (b:=false) (c:=c0) (l:=l0))
     have l10:=aX f10
     obtain⟨n',rfl⟩:∃n',n=n'+ 1:=⟨n - 1,by omega⟩
     unfold bW at hQ
     have hQ:kL p w g all σ d Q (((dO n' d 1 (all.drop (m+1+1+1))).bind fun x ts=>(aP [59] ts).bind fun _ ts=>.ok x ts).bind fun x ts=>.ok (.st 1 t3.s false .nil x .nil .nil t.l) ts):=hQ
     have hg:=(jr n').expr d 1 (all.drop (m+1+1+1)) he9 (by omega)
     conv=>whnf
     refine(NG hno n').1.expr d 1 _ (m+1+1+1) _ _ _ k10 hd (by omega) he9 (by omega) ?_
     generalize dO n' d 1 (all.drop (m+1+1+1))=re at hg hQ
     cases re with
     | out=>exact hg.elim
     | bad c l=>
       have hQ:kL p w g all σ d Q (.bad c l):=hQ
       intro o g' s11 m11 vk k11
       have f11:=vk.get (by omega) f10
       obtain⟨tt,htt⟩:=vJ k11
       conv=>whnf
       refine ak (aC (T:=bC) ([.i .i64 1,.s t3.s,.b false,.p0,.p o g' 0,.sl0,.sl0,.i .i64 t.l]) rfl (f11) rfl rfl (Nat.le_of_ble_eq_true rfl) rfl) ?_
       conv=>whnf
       refine ou _ (k11.st f11 _) htt ?_
       conv=>whnf
       exact Fin.ref rfl (hQ _ _ _ _ ((qw.trans vk).set (by omega) _) (k11.st f11 _))
     | ok z bJ=>
       have hQ:kL p w g all σ d Q ((aP [59] bJ).bind fun _ ts=>.ok (.st 1 t3.s false .nil z .nil .nil t.l) ts):=by
        have e:((aP [59] bJ).bind fun _ ts=>Re.ok (Sm.st 1 t3.s false .nil z .nil .nil t.l) ts)=((aP [59] bJ).bind fun _ ts=>Re.ok z ts).bind fun x ts=>Re.ok (Sm.st 1 t3.s false .nil x .nil .nil t.l) ts:=by
                cases aP [59] bJ <;> rfl
        rw [e];exact hQ
       intro o g' s11 m11 c11 YE vk k11 VJ rO
       have f11:=vk.get (by omega) f10
       have l11':=vk.len
       have VK:aU (all.drop m11):=by rw [VJ];exact hg.2.1
       rw [←VJ] at hQ
       conv=>whnf
       refine ak (aC (T:=bC) ([.i .i64 1,.s t3.s,.b false,.p0,.p o g' 0,.sl0,.sl0,.i .i64 t.l]) rfl (f11) rfl rfl (Nat.le_of_ble_eq_true rfl) rfl) ?_
       conv=>whnf
       have k12:=k11.st f11 (bP 1 t3.s false .p0 (.p o g' 0) .sl0 .sl0 t.l)
       have f12:(_:St)[σ1.length]? =_:=at_set f11 (bP 1 t3.s false .p0 (.p o g' 0) .sl0 .sl0 t.l)
       have VL:aI p σ _:=(qw.trans vk).set (o:=σ1.length) (by omega) (bP 1 t3.s false .p0 (.p o g' 0) .sl0 .sl0 t.l)
       have l12:=aX f12
       conv=>whnf
       obtain⟨t7,r7,kC⟩:=VK.ne
       obtain⟨QL,L9⟩:=aW kC
       rw [kC] at hQ
       refine jG _ k12 QL (fun zx=>?_) (fun zx=>?_)
       ·rw [aP,if_pos (show aY [59] (t7 :: r7)=true from zx)] at hQ
        have hQ:kL p w g all σ d Q (.ok (.st 1 t3.s false .nil z .nil .nil t.l) r7):=hQ
        have k8:=k12.set (m':=m11+1) (d':=d) (b':=false) (c':=c11) (l':=YE) (aN VK kC zx).1 h.dp
        conv=>whnf
        refine Fin.ref rfl (hQ _ _ _ _ _ _ (VL.trans PO.ext) k8 L9 ⟨σ1.length,0,.p0,.p o g' 0,.sl0,.sl0,by omega,rfl,PO.ext.get (by omega) f12,rfl,bK.mono (fun i hi=>by omega) (fun i hi a ha=>PO.ext.get (by omega) (aK ha (by omega) _)) rO,rfl,rfl⟩)
       ·rw [aP,if_neg (by rw [show aY [59] (t7 :: r7)=dH [59] t7 from rfl,zx];decide)] at hQ
        have hQ:kL p w g all σ d Q (.bad 4 t7.l):=hQ
        have k8:=k12.set (m':=m11) (d':=d) (b':=true) (c':=4) (l':=t7.l) k12.at_ h.dp
        conv=>whnf
        exact Fin.ref rfl (hQ _ _ _ _ (VL.trans PO.ext) k8)
    ·have hw9:dH [61] t9=false:=by simpa using hi9
     rw [if_neg (show ¬aY [61] (t9 :: r9)=true by rw [show aY [61] (t9 :: r9)=dH [61] t9 from rfl,hw9];decide),←uy] at hQ
     have hQ:kL p w g all σ d Q ((aP [59] (all.drop (m+1+1))).bind fun _ ts=>.ok (.st 1 t3.s false .nil .nil .nil .nil t.l) ts):=hQ
     conv=>whnf
     obtain⟨t7,r7,kC⟩:=G9.ne
     obtain⟨QL,L9⟩:=aW kC
     rw [kC] at hQ
     refine jG _ k8 QL (fun zx=>?_) (fun zx=>?_)
     ·rw [aP,if_pos (show aY [59] (t7 :: r7)=true from zx)] at hQ
      have hQ:kL p w g all σ d Q (.ok (.st 1 t3.s false .nil .nil .nil .nil t.l) r7):=hQ
      have k8:=k8.set (m':=(m+1+1)+1) (d':=d) (b':=false) (c':=c0) (l':=l0) (aN G9 kC zx).1 h.dp
      conv=>whnf
      refine Fin.ref rfl (hQ _ _ _ _ _ _ (y8.trans PO.ext) k8 L9 ⟨σ1.length,0,.p0,.p0,.sl0,.sl0,by omega,rfl,PO.ext.get (by omega) f8,rfl,rfl,rfl,rfl⟩)
     ·rw [aP,if_neg (by rw [show aY [59] (t7 :: r7)=dH [59] t7 from rfl,zx];decide)] at hQ
      have hQ:kL p w g all σ d Q (.bad 4 t7.l):=hQ
      have k8:=k8.set (m':=(m+1+1)) (d':=d) (b':=true) (c':=4) (l':=t7.l) k8.at_ h.dp
      conv=>whnf
      exact Fin.ref rfl (hQ _ _ _ _ (y8.trans PO.ext) k8)
  ·rw [dU,if_neg hk] at hQ
   have hQ:kL p w g all σ d Q (.bad 4 t3.l):=hQ
   have f5:=y5.get (by omega) f4
   conv=>whnf
   refine ak (aC (T:=eG) ([.i .i64 1,.s [],.b false,.p0,.p0,.sl0,.sl0,.i .i64 t.l]) rfl (f5) rfl rfl (Nat.le_of_ble_eq_true rfl) rfl) ?_
   conv=>whnf
   have k6:=k5.st f5 (bP 1 [] false .p0 .p0 .sl0 .sl0 t.l)
   have f6:(_:St)[σ1.length]? =_:=at_set f5 (bP 1 [] false .p0 .p0 .sl0 .sl0 t.l)
   have y6:aI p σ _:=(y4.trans y5).set (o:=σ1.length) (by omega) (bP 1 [] false .p0 .p0 .sl0 .sl0 t.l)
   conv=>whnf
   refine dw _ k6 ht3 (fun e=>by cases e) (fun _=>?_)
   conv=>whnf
   refine ak (aC (T:=kY) ([.i .i64 1,.s [],.b false,.p0,.p0,.sl0,.sl0,.i .i64 t.l]) rfl (f6) rfl rfl (Nat.le_of_ble_eq_true rfl) rfl) ?_
   conv=>whnf
   have k7:=k6.st f6 (bP 1 [] false .p0 .p0 .sl0 .sl0 t.l)
   have y7:aI p σ _:=y6.set (o:=σ1.length) (by omega) (bP 1 [] false .p0 .p0 .sl0 .sl0 t.l)
   conv=>whnf
   refine dw _ k7 ht3 (fun e=>by cases e) (fun _=>?_)
   conv=>whnf
   refine ou _ k7 ht3 ?_
   conv=>whnf
   exact Fin.ref rfl (hQ _ _ _ _ y7 k7)
 have hw:dH [118,97,114] t=false:=by simpa using hi
 rw [if_neg (show ¬aY QB (t :: r)=true by rw [show aY QB (t :: r)=dH [118,97,114] t from rfl,hw];decide)] at hQ
 clear hw hi
 conv=>whnf
 refine dw [105,102] k2 ht (fun _ hi=>?_) (fun hi=>?_)
 ·rw [if_pos (show aY IG (t :: r)=true from hi)] at hQ
  obtain⟨hm1,he2,hle⟩:=he1 _ hi
  have k3:=k2.set (m':=m+1) (d':=d) (b':=false) (c':=c0) (l':=l0) hm1 h.dp
  have z3:aI p σ2 _:=PO.ext (p:=p) (w:=w) (g:=g) (n:=all.length) (m:=m+1) (d:=d) (b:=false) (c:=c0) (l:=l0) (σ:=σ2)
  have tk3:=z3.get (by omega) tk2
  have l3:=(y2.trans z3).len
  rw [←hr] at hQ
  have hg:=(ny n).branch d t.l (all.drop (m+1)) he2 (by omega)
  conv=>whnf
  refine ak (aj (T:=dA) rfl rfl (ah (tk3)) rfl) ?_
  conv=>whnf
  refine ih.branch d t.l _ (m+1) _ _ _ k3 hd he2 (by omega) ?_
  generalize dQ n d t.l (all.drop (m+1))=re at hg hQ
  cases re with
  | out=>exact hg.elim
  | bad c l=>
    intro o g' s5 m5 y5 k5
    conv=>whnf
    exact Fin.ref rfl (hQ _ _ _ _ ((y2.trans z3).trans y5) k5)
  | ok z bJ=>
    intro o g' s5 m5 c5 l5 y5 k5 Md rO
    conv=>whnf
    exact Fin.ref rfl (hQ _ _ _ _ _ _ ((y2.trans z3).trans y5) k5 Md (jH.mono (fun i hi=>by omega) (fun i hi a ha=>ha) rO))
 have hw:dH [105,102] t=false:=by simpa using hi
 rw [if_neg (show ¬aY IG (t :: r)=true by rw [show aY IG (t :: r)=dH [105,102] t from rfl,hw];decide)] at hQ
 clear hw hi
 conv=>whnf
 refine dw [119,104,105,108,101] k2 ht (fun _ hi=>?_) (fun hi=>?_)
 ·rw [if_pos (show aY Aj (t :: r)=true from hi)] at hQ
  obtain⟨hm1,he2,hle⟩:=he1 _ hi
  have k3:=k2.set (m':=m+1) (d':=d) (b':=false) (c':=c0) (l':=l0) hm1 h.dp
  have z3:aI p σ2 _:=PO.ext (p:=p) (w:=w) (g:=g) (n:=all.length) (m:=m+1) (d:=d) (b:=false) (c:=c0) (l:=l0) (σ:=σ2)
  have f3:=z3.get (by omega) b2
  conv=>whnf
  refine ak (aC (T:=dA) ([.i .i64 5,.s [],.b false,.p0,.p0,.sl0,.sl0,.i .i64 t.l]) rfl (f3) rfl rfl (Nat.le_of_ble_eq_true rfl) rfl) ?_
  conv=>whnf
  have k4:=k3.st f3 (bP 5 [] false .p0 .p0 .sl0 .sl0 t.l)
  have f4:(_:St)[σ1.length]? =_:=at_set f3 (bP 5 [] false .p0 .p0 .sl0 .sl0 t.l)
  have y4:aI p σ _:=(y2.trans z3).set (o:=σ1.length) (by omega) (bP 5 [] false .p0 .p0 .sl0 .sl0 t.l)
  have l4:=aX f4
  rw [←hr] at hQ
  have hg:=(jr n).expr d 1 (all.drop (m+1)) he2 (by omega)
  conv=>whnf
  refine(NG hno n).1.expr d 1 _ (m+1) _ _ _ k4 hd (by omega) he2 (by omega) ?_
  generalize dO n d 1 (all.drop (m+1))=re at hg hQ
  cases re with
  | out=>exact hg.elim
  | bad c l=>
    have hQ:kL p w g all σ d Q (.bad c l):=hQ
    intro o g' s5 m5 y5 k5
    have f5:=y5.get (by omega) f4
    obtain⟨tt,htt⟩:=vJ k5
    conv=>whnf
    refine ak (aC (T:=bC) ([.i .i64 5,.s [],.b false,.p0,.p o g' 0,.sl0,.sl0,.i .i64 t.l]) rfl (f5) rfl rfl (Nat.le_of_ble_eq_true rfl) rfl) ?_
    conv=>whnf
    have k6:=k5.st f5 (bP 5 [] false .p0 (.p o g' 0) .sl0 .sl0 t.l)
    have f6:(_:St)[σ1.length]? =_:=at_set f5 (bP 5 [] false .p0 (.p o g' 0) .sl0 .sl0 t.l)
    have y6:aI p σ _:=(y4.trans y5).set (o:=σ1.length) (by omega) (bP 5 [] false .p0 (.p o g' 0) .sl0 .sl0 t.l)
    conv=>whnf
    refine lU k6 htt (by have:=h.dp;omega) fun s7 y7 k7=>?_
    have f7:=y7.get (by omega) f6
    conv=>whnf
    refine ak (aC (T:=dM) ([.i .i64 5,.s [],.b false,.p0,.p o g' 0,.sl0,.sl0,.i .i64 t.l]) rfl (f7) rfl rfl (Nat.le_of_ble_eq_true rfl) rfl) ?_
    conv=>whnf
    exact Fin.ref rfl (hQ _ _ _ _ ((y6.trans y7).set (by omega) _) (k7.st f7 _))
  | ok z bJ=>
    have hQ:kL p w g all σ d Q ((dI n d bJ).bind fun th ts=>.ok (.st 5 [] false .nil z th .nil t.l) ts):=hQ
    intro o g' s5 m5 c5 l5 y5 k5 Md rO
    have f5:=y5.get (by omega) f4
    have l5':=y5.len
    rw [←Md] at hQ hg
    have lg:=hg.2.2
    conv=>whnf
    refine ak (aC (T:=bC) ([.i .i64 5,.s [],.b false,.p0,.p o g' 0,.sl0,.sl0,.i .i64 t.l]) rfl (f5) rfl rfl (Nat.le_of_ble_eq_true rfl) rfl) ?_
    conv=>whnf
    have k6:=k5.st f5 (bP 5 [] false .p0 (.p o g' 0) .sl0 .sl0 t.l)
    have f6:(_:St)[σ1.length]? =_:=at_set f5 (bP 5 [] false .p0 (.p o g' 0) .sl0 .sl0 t.l)
    have y6:aI p σ _:=(y4.trans y5).set (o:=σ1.length) (by omega) (bP 5 [] false .p0 (.p o g' 0) .sl0 .sl0 t.l)
    have l6:(s5.set σ1.length (bP 5 [] false .p0 (.p o g' 0) .sl0 .sl0 t.l)).length=s5.length:=List.length_set
    have hez6:bK (fun i=>σ1.length<i∧i<s5.length) (s5.set σ1.length (bP 5 [] false .p0 (.p o g' 0) .sl0 .sl0 t.l)) (.p o g' 0) z:=bK.mono (fun i hi=>⟨by first | omega | (simp only [List.length_set,bg] at *;omega),hi.2⟩) (fun i hi a ha=>aK ha (by first | omega | (simp only [List.length_set,bg] at *;omega)) _) rO.below
    have hgb:=(ny n).block d (all.drop m5) hg.2.1 (by omega)
    conv=>whnf
    refine ih.block d _ m5 _ _ _ k6 hd hg.2.1 (by omega) ?_
    generalize dI n d (all.drop m5)=rb at hgb hQ
    cases rb with
    | out=>exact hgb.elim
    | bad c l=>
      have hQ:kL p w g all σ d Q (.bad c l):=hQ
      intro A s7 m7 y7 k7 hA
      have f7:=y7.get (by omega) f6
      refine bU _ _ ?_
      conv=>whnf
      refine ak (dP (T:=dM) [.i .i64 5,.s [],.b false,.p0,.p o g' 0,A,.sl0,.i .i64 t.l] hA rfl rfl f7 (Nat.le_of_ble_eq_true rfl) rfl) ?_
      conv=>whnf
      exact Fin.ref rfl (hQ _ _ _ _ ((y6.trans y7).set (by omega) _) (k7.st f7 _))
    | ok th fU=>
      have hQ:kL p w g all σ d Q (.ok (.st 5 [] false .nil z th .nil t.l) fU):=hQ
      intro A s7 m7 c7 l7 y7 k7 hm7 hth hA
      have f7:=y7.get (by omega) f6
      have l7':=y7.len
      refine bU _ _ ?_
      conv=>whnf
      refine ak (dP (T:=dM) [.i .i64 5,.s [],.b false,.p0,.p o g' 0,A,.sl0,.i .i64 t.l] hA rfl rfl f7 (Nat.le_of_ble_eq_true rfl) rfl) ?_
      conv=>whnf
      refine Fin.ref rfl (hQ _ _ _ _ _ _ ((y6.trans y7).set (by omega) _) (k7.st f7 _) hm7 ⟨σ1.length,0,.p0,.p o g' 0,A,.sl0,by omega,rfl,at_set f7 _,rfl,?_,?_,rfl⟩)
      ·exact bK.mono (fun i hi=>by omega) (fun i hi a ha=>aK (y7.get (by omega) ha) (by omega) _) hez6
      ·exact dN.mono (fun i hi=>by first | omega | (simp only [List.length_set,bg] at *;omega)) (fun i hi a ha=>aK ha (by first | omega | (simp only [List.length_set,bg] at *;omega)) _) hth
 have hw:dH [119,104,105,108,101] t=false:=by simpa using hi
 rw [if_neg (show ¬aY Aj (t :: r)=true by rw [show aY Aj (t :: r)=dH [119,104,105,108,101] t from rfl,hw];decide)] at hQ
 clear hw hi
 conv=>whnf
 refine dw [111,117,116] k2 ht (fun _ hi=>?_) (fun hi=>?_)
 ·rw [if_pos (show aY QC (t :: r)=true from hi)] at hQ
  obtain⟨hm1,he2,hle⟩:=he1 _ hi
  have k3:=k2.set (m':=m+1) (d':=d) (b':=false) (c':=c0) (l':=l0) hm1 h.dp
  have z3:aI p σ2 _:=PO.ext (p:=p) (w:=w) (g:=g) (n:=all.length) (m:=m+1) (d:=d) (b:=false) (c:=c0) (l:=l0) (σ:=σ2)
  have f3:=z3.get (by omega) b2
  conv=>whnf
  refine ak (aC (T:=dA) ([.i .i64 6,.s [],.b false,.p0,.p0,.sl0,.sl0,.i .i64 t.l]) rfl (f3) rfl rfl (Nat.le_of_ble_eq_true rfl) rfl) ?_
  conv=>whnf
  have k4:=k3.st f3 (bP 6 [] false .p0 .p0 .sl0 .sl0 t.l)
  have f4:(_:St)[σ1.length]? =_:=at_set f3 (bP 6 [] false .p0 .p0 .sl0 .sl0 t.l)
  have y4:aI p σ _:=(y2.trans z3).set (o:=σ1.length) (by omega) (bP 6 [] false .p0 .p0 .sl0 .sl0 t.l)
  have l4:=aX f4
  rw [←hr] at hQ
  conv=>whnf
  have hg:=(ny n).ended d (all.drop (m+1)) he2 (by omega)
  refine uw hno n d _ (m+1) _ _ _ k4 hd he2 (by omega) ?_
  generalize bW n d (all.drop (m+1))=re at hg hQ
  cases re with
  | out=>exact hg.elim
  | bad c l=>
    have hQ:kL p w g all σ d Q (.bad c l):=hQ
    intro o1 g1 s5 m5 oN BP
    have vK:=oN.get (by omega) f4
    conv=>whnf
    refine ak (aC (T:=bC) ([.i .i64 6,.s [],.b false,.p0,.p o1 g1 0,.sl0,.sl0,.i .i64 t.l]) rfl (vK) rfl rfl (Nat.le_of_ble_eq_true rfl) rfl) ?_
    conv=>whnf
    exact Fin.ref rfl (hQ _ _ _ _ ((y4.trans oN).set (by omega) _) (BP.st vK _))
  | ok z bJ=>
    have hQ:kL p w g all σ d Q (.ok (.st 6 [] false .nil z .nil .nil t.l) bJ):=hQ
    intro o1 g1 s5 m5 c5 l5 oN BP Md rO
    have vK:=oN.get (by omega) f4
    have l5':=oN.len
    conv=>whnf
    refine ak (aC (T:=bC) ([.i .i64 6,.s [],.b false,.p0,.p o1 g1 0,.sl0,.sl0,.i .i64 t.l]) rfl (vK) rfl rfl (Nat.le_of_ble_eq_true rfl) rfl) ?_
    conv=>whnf
    refine Fin.ref rfl (hQ _ _ _ _ _ _ ((y4.trans oN).set (by omega) _) (BP.st vK _) Md ⟨σ1.length,0,.p0,.p o1 g1 0,.sl0,.sl0,by omega,rfl,at_set vK _,rfl,?_,rfl,rfl⟩)
    exact bK.mono (fun i hi=>by first | omega | (simp only [List.length_set,bg] at *;omega)) (fun i hi a ha=>aK ha (by first | omega | (simp only [List.length_set,bg] at *;omega)) _) rO
 have hw:dH [111,117,116] t=false:=by simpa using hi
 rw [if_neg (show ¬aY QC (t :: r)=true by rw [show aY QC (t :: r)=dH [111,117,116] t from rfl,hw];decide)] at hQ
 clear hw hi
 conv=>whnf
 refine dw [102,114,101,101] k2 ht (fun _ hi=>?_) (fun hi=>?_)
 ·rw [if_pos (show aY GI (t :: r)=true from hi)] at hQ
  obtain⟨hm1,he2,hle⟩:=he1 _ hi
  have k3:=k2.set (m':=m+1) (d':=d) (b':=false) (c':=c0) (l':=l0) hm1 h.dp
  have z3:aI p σ2 _:=PO.ext (p:=p) (w:=w) (g:=g) (n:=all.length) (m:=m+1) (d:=d) (b:=false) (c:=c0) (l:=l0) (σ:=σ2)
  have f3:=z3.get (by omega) b2
  conv=>whnf
  refine ak (aC (T:=dA) ([.i .i64 7,.s [],.b false,.p0,.p0,.sl0,.sl0,.i .i64 t.l]) rfl (f3) rfl rfl (Nat.le_of_ble_eq_true rfl) rfl) ?_
  conv=>whnf
  have k4:=k3.st f3 (bP 7 [] false .p0 .p0 .sl0 .sl0 t.l)
  have f4:(_:St)[σ1.length]? =_:=at_set f3 (bP 7 [] false .p0 .p0 .sl0 .sl0 t.l)
  have y4:aI p σ _:=(y2.trans z3).set (o:=σ1.length) (by omega) (bP 7 [] false .p0 .p0 .sl0 .sl0 t.l)
  have l4:=aX f4
  rw [←hr] at hQ
  conv=>whnf
  have hg:=(ny n).ended d (all.drop (m+1)) he2 (by omega)
  refine uw hno n d _ (m+1) _ _ _ k4 hd he2 (by omega) ?_
  generalize bW n d (all.drop (m+1))=re at hg hQ
  cases re with
  | out=>exact hg.elim
  | bad c l=>
    have hQ:kL p w g all σ d Q (.bad c l):=hQ
    intro o1 g1 s5 m5 oN BP
    have vK:=oN.get (by omega) f4
    conv=>whnf
    refine ak (aC (T:=bC) ([.i .i64 7,.s [],.b false,.p0,.p o1 g1 0,.sl0,.sl0,.i .i64 t.l]) rfl (vK) rfl rfl (Nat.le_of_ble_eq_true rfl) rfl) ?_
    conv=>whnf
    exact Fin.ref rfl (hQ _ _ _ _ ((y4.trans oN).set (by omega) _) (BP.st vK _))
  | ok z bJ=>
    have hQ:kL p w g all σ d Q (.ok (.st 7 [] false .nil z .nil .nil t.l) bJ):=hQ
    intro o1 g1 s5 m5 c5 l5 oN BP Md rO
    have vK:=oN.get (by omega) f4
    have l5':=oN.len
    conv=>whnf
    refine ak (aC (T:=bC) ([.i .i64 7,.s [],.b false,.p0,.p o1 g1 0,.sl0,.sl0,.i .i64 t.l]) rfl (vK) rfl rfl (Nat.le_of_ble_eq_true rfl) rfl) ?_
    conv=>whnf
    refine Fin.ref rfl (hQ _ _ _ _ _ _ ((y4.trans oN).set (by omega) _) (BP.st vK _) Md ⟨σ1.length,0,.p0,.p o1 g1 0,.sl0,.sl0,by omega,rfl,at_set vK _,rfl,?_,rfl,rfl⟩)
    exact bK.mono (fun i hi=>by first | omega | (simp only [List.length_set,bg] at *;omega)) (fun i hi a ha=>aK ha (by first | omega | (simp only [List.length_set,bg] at *;omega)) _) rO
 have hw:dH [102,114,101,101] t=false:=by simpa using hi
 rw [if_neg (show ¬aY GI (t :: r)=true by rw [show aY GI (t :: r)=dH [102,114,101,101] t from rfl,hw];decide)] at hQ
 clear hw hi
 conv=>whnf
 refine dw [100,114,97,105,110] k2 ht (fun _ hi=>?_) (fun hi=>?_)
 ·rw [if_pos (show aY Ak (t :: r)=true from hi)] at hQ
  obtain⟨hm1,he2,hle⟩:=he1 _ hi
  have k3:=k2.set (m':=m+1) (d':=d) (b':=false) (c':=c0) (l':=l0) hm1 h.dp
  have z3:aI p σ2 _:=PO.ext (p:=p) (w:=w) (g:=g) (n:=all.length) (m:=m+1) (d:=d) (b:=false) (c:=c0) (l:=l0) (σ:=σ2)
  have f3:=z3.get (by omega) b2
  conv=>whnf
  refine ak (aC (T:=dA) ([.i .i64 8,.s [],.b false,.p0,.p0,.sl0,.sl0,.i .i64 t.l]) rfl (f3) rfl rfl (Nat.le_of_ble_eq_true rfl) rfl) ?_
  conv=>whnf
  have k4:=k3.st f3 (bP 8 [] false .p0 .p0 .sl0 .sl0 t.l)
  have f4:(_:St)[σ1.length]? =_:=at_set f3 (bP 8 [] false .p0 .p0 .sl0 .sl0 t.l)
  have y4:aI p σ _:=(y2.trans z3).set (o:=σ1.length) (by omega) (bP 8 [] false .p0 .p0 .sl0 .sl0 t.l)
  have l4:=aX f4
  rw [←hr] at hQ
  have hQ:kL p w g all σ d Q ((aP [59] (all.drop (m+1))).bind fun _ ts=>.ok (.st 8 [] false .nil .nil .nil .nil t.l) ts):=hQ
  conv=>whnf
  obtain⟨t7,r7,kC⟩:=he2.ne
  obtain⟨QL,L9⟩:=aW kC
  rw [kC] at hQ
  refine jG _ k4 QL (fun zx=>?_) (fun zx=>?_)
  ·rw [aP,if_pos (show aY [59] (t7 :: r7)=true from zx)] at hQ
   have hQ:kL p w g all σ d Q (.ok (.st 8 [] false .nil .nil .nil .nil t.l) r7):=hQ
   have k8:=k4.set (m':=(m+1)+1) (d':=d) (b':=false) (c':=c0) (l':=l0) (aN he2 kC zx).1 h.dp
   conv=>whnf
   refine Fin.ref rfl (hQ _ _ _ _ _ _ (y4.trans PO.ext) k8 L9 ⟨σ1.length,0,.p0,.p0,.sl0,.sl0,by omega,rfl,PO.ext.get (by omega) f4,rfl,rfl,rfl,rfl⟩)
  ·rw [aP,if_neg (by rw [show aY [59] (t7 :: r7)=dH [59] t7 from rfl,zx];decide)] at hQ
   have hQ:kL p w g all σ d Q (.bad 4 t7.l):=hQ
   have k8:=k4.set (m':=(m+1)) (d':=d) (b':=true) (c':=4) (l':=t7.l) k4.at_ h.dp
   conv=>whnf
   exact Fin.ref rfl (hQ _ _ _ _ (y4.trans PO.ext) k8)
 have hw:dH [100,114,97,105,110] t=false:=by simpa using hi
 rw [if_neg (show ¬aY Ak (t :: r)=true by rw [show aY Ak (t :: r)=dH [100,114,97,105,110] t from rfl,hw];decide)] at hQ
 clear hw hi
 conv=>whnf
 refine dw [114,101,116,117,114,110] k2 ht (fun _ hi=>?_) (fun hi=>?_)
 ·rw [if_pos (show aY uT (t :: r)=true from hi)] at hQ
  obtain⟨hm1,he2,hle⟩:=he1 _ hi
  have k3:=k2.set (m':=m+1) (d':=d) (b':=false) (c':=c0) (l':=l0) hm1 h.dp
  have z3:aI p σ2 _:=PO.ext (p:=p) (w:=w) (g:=g) (n:=all.length) (m:=m+1) (d:=d) (b:=false) (c:=c0) (l:=l0) (σ:=σ2)
  have f3:=z3.get (by omega) b2
  conv=>whnf
  refine ak (aC (T:=dA) ([.i .i64 9,.s [],.b false,.p0,.p0,.sl0,.sl0,.i .i64 t.l]) rfl (f3) rfl rfl (Nat.le_of_ble_eq_true rfl) rfl) ?_
  conv=>whnf
  have k4:=k3.st f3 (bP 9 [] false .p0 .p0 .sl0 .sl0 t.l)
  have f4:(_:St)[σ1.length]? =_:=at_set f3 (bP 9 [] false .p0 .p0 .sl0 .sl0 t.l)
  have y4:aI p σ _:=(y2.trans z3).set (o:=σ1.length) (by omega) (bP 9 [] false .p0 .p0 .sl0 .sl0 t.l)
  have l4:=aX f4
  rw [←hr] at hQ
  obtain⟨t5,r5,Fv⟩:=he2.ne
  obtain⟨ht5,hr5⟩:=aW Fv
  rw [Fv] at hQ
  conv=>whnf
  refine dw [59] k4 ht5 (fun _ hi5=>?_) (fun hi5=>?_)
  ·rw [if_pos (show aY [59] (t5 :: r5)=true from hi5)] at hQ
   have hQ:kL p w g all σ d Q (.ok (.st 9 [] false .nil .nil .nil .nil t.l) r5):=hQ
   have k8:=k4.set (m':=m+1+1) (d':=d) (b':=false) (c':=c0) (l':=l0) (aN he2 Fv hi5).1 h.dp
   conv=>whnf
   exact Fin.ref rfl (hQ _ _ _ _ _ _ (y4.trans PO.ext) k8 hr5 ⟨σ1.length,0,.p0,.p0,.sl0,.sl0,by omega,rfl,PO.ext.get (by omega) f4,rfl,rfl,rfl,rfl⟩)
  ·have hw5:dH [59] t5=false:=by simpa using hi5
   rw [if_neg (show ¬aY [59] (t5 :: r5)=true by rw [show aY [59] (t5 :: r5)=dH [59] t5 from rfl,hw5];decide),←Fv] at hQ
   conv=>whnf
   have hg:=(ny n).ended d (all.drop (m+1)) he2 (by omega)
   refine uw hno n d _ (m+1) _ _ _ k4 hd he2 (by omega) ?_
   generalize bW n d (all.drop (m+1))=re at hg hQ
   cases re with
   | out=>exact hg.elim
   | bad c l=>
     have hQ:kL p w g all σ d Q (.bad c l):=hQ
     intro o1 g1 s5 m5 oN BP
     have vK:=oN.get (by omega) f4
     conv=>whnf
     refine ak (aC (T:=bC) ([.i .i64 9,.s [],.b false,.p0,.p o1 g1 0,.sl0,.sl0,.i .i64 t.l]) rfl (vK) rfl rfl (Nat.le_of_ble_eq_true rfl) rfl) ?_
     conv=>whnf
     exact Fin.ref rfl (hQ _ _ _ _ ((y4.trans oN).set (by omega) _) (BP.st vK _))
   | ok z bJ=>
     have hQ:kL p w g all σ d Q (.ok (.st 9 [] false .nil z .nil .nil t.l) bJ):=hQ
     intro o1 g1 s5 m5 c5 l5 oN BP Md rO
     have vK:=oN.get (by omega) f4
     have l5':=oN.len
     conv=>whnf
     refine ak (aC (T:=bC) ([.i .i64 9,.s [],.b false,.p0,.p o1 g1 0,.sl0,.sl0,.i .i64 t.l]) rfl (vK) rfl rfl (Nat.le_of_ble_eq_true rfl) rfl) ?_
     conv=>whnf
     refine Fin.ref rfl (hQ _ _ _ _ _ _ ((y4.trans oN).set (by omega) _) (BP.st vK _) Md ⟨σ1.length,0,.p0,.p o1 g1 0,.sl0,.sl0,by omega,rfl,at_set vK _,rfl,?_,rfl,rfl⟩)
     exact bK.mono (fun i hi=>by first | omega | (simp only [List.length_set,bg] at *;omega)) (fun i hi a ha=>aK ha (by first | omega | (simp only [List.length_set,bg] at *;omega)) _) rO
 have hw:dH [114,101,116,117,114,110] t=false:=by simpa using hi
 rw [if_neg (show ¬aY uT (t :: r)=true by rw [show aY uT (t :: r)=dH [114,101,116,117,114,110] t from rfl,hw];decide)] at hQ
 clear hw hi
 have hg:=(jr n).post d (all.drop m) he (by omega)
 rw [←hts] at hQ
 conv=>whnf
 refine(NG hno n).1.post d _ m _ _ _ k2 hd he (by omega) ?_
 generalize iV n d (all.drop m)=re at hg hQ
 cases re with
 | out=>exact hg.elim
 | bad c l=>
   have hQ:kL p w g all σ d Q (.bad c l):=hQ
   intro o g' s3 m3 y3 k3
   conv=>whnf
   refine ak (aj (T:=kY) rfl rfl (ah (k3.obj)) rfl) ?_
   conv=>whnf
   exact Fin.ref rfl (hQ _ _ _ _ (y2.trans y3) k3)
 | ok x bJ=>
   intro o g' s3 m3 c3 l3 y3 k3 KU hex
   have hnn:=hg.1
   have he3:aU (all.drop m3):=by rw [KU];exact hg.2.1
   have lg:=hg.2.2
   rw [←KU] at lg
   cases x with
   | nil=>exact hnn.elim
   | ex kx nx Fz txx lx rx ax lnx=>
     have hex':=hex
     obtain⟨o',gg,Lx,Rx,Ax,hS,hv,BJ,_,_,_⟩:=hex'
     cases hv
     have f3:=y3.get (by omega) b2
     have l3':=y3.len
     have lo:=aX BJ
     obtain⟨t4,r4,oD⟩:=he3.ne
     obtain⟨IL,hr4⟩:=aW oD
     have hlr4:(all.drop m3).length=r4.length+1:=by rw [oD];rfl
     have hQ:kL p w g all σ d Q (
        if aY [61] bJ=true then
         if kx=2 then(bW n d bJ.tail).bind fun y ts=>.ok (.st 2 Fz false .nil y .nil .nil t.l) ts
         else if kx=5∨kx=6 then(bW n d bJ.tail).bind fun y ts=>.ok (.st 3 [] false (.ex kx nx Fz txx lx rx ax lnx) y .nil .nil t.l) ts
         else .bad 4 (jR bJ)
        else if kx=4 then(aP [59] bJ).bind fun _ ts=>.ok (.st 10 [] false .nil (.ex kx nx Fz txx lx rx ax lnx) .nil .nil t.l) ts
        else .bad 4 (jR bJ)):=hQ
     rw [←KU,oD] at hQ
     conv=>whnf
     refine ak (aj (T:=kY) rfl rfl (ah (k3.obj)) rfl) ?_
     conv=>whnf
     refine ay.to (jI _ k3 IL) ?_
     cases hi4:dH [61] t4 with
     | true=>
       rw [if_pos (show aY [61] (t4 :: r4)=true from hi4)] at hQ
       obtain⟨hm4,he4,hle4⟩:=aN he3 oD hi4
       have hQ:kL p w g all σ d Q (
        if kx=2 then(bW n d r4).bind fun y ts=>.ok (.st 2 Fz false .nil y .nil .nil t.l) ts
        else if kx=5∨kx=6 then(bW n d r4).bind fun y ts=>.ok (.st 3 [] false (.ex kx nx Fz txx lx rx ax lnx) y .nil .nil t.l) ts
        else .bad 4 t4.l):=hQ
       have k5:=k3.set (m':=m3+1) (d':=d) (b':=false) (c':=c3) (l':=l3) hm4 h.dp
       have z5:=PO.ext (p:=p) (w:=w) (g:=g) (n:=all.length) (m:=m3+1) (d:=d) (b:=false) (c:=c3) (l:=l3) (σ:=s3)
       have f5:=z5.get (by omega) f3
       have o5:=z5.get (by omega) BJ
       have y5:aI p σ _:=(y2.trans y3).trans z5
       have hex5:=bK.mono (S':=fun i=>σ2.length≤i) (σ':=fF p w g all.length s3 (m3+1) d false c3 l3) (fun i hi=>hi) (fun i hi a ha=>z5.get (by omega) ha) hex
       conv=>whnf
       refine ak (aj (T:=dA) rfl rfl (ah (BJ)) rfl) ?_
       conv=>whnf
       by_cases h2:kx=2
       ·rw [if_pos h2,←hr4] at hQ
        rw [decide_eq_true (by omega)]
        conv=>whnf
        conv=>whnf
        refine ay.to (jI _ k3 IL) ?_
        rw [hi4]
        conv=>whnf
        refine dw [61] k3 IL (fun _ _=>?_) (fun e=>by rw [hi4] at e;cases e)
        conv=>whnf
        refine ak (aC (T:=dA) ([.i .i64 3,.s [],.b false,.p0,.p0,.sl0,.sl0,.i .i64 t.l]) rfl (f5) rfl rfl (Nat.le_of_ble_eq_true rfl) rfl) ?_
        conv=>whnf
        have k10:=k5.st f5 (bP 3 [] false .p0 .p0 .sl0 .sl0 t.l)
        have f10:(_:St)[σ1.length]? =_:=at_set f5 (bP 3 [] false .p0 .p0 .sl0 .sl0 t.l)
        have qw:aI p σ _:=y5.set (o:=σ1.length) (by omega) (bP 3 [] false .p0 .p0 .sl0 .sl0 t.l)
        have o10:=aK o5 (show σ1.length≠o by omega) (bP 3 [] false .p0 .p0 .sl0 .sl0 t.l)
        refine ak (aC (T:=bC) ([.i .i64 3,.s [],.b false,.p o g' 0,.p0,.sl0,.sl0,.i .i64 t.l]) rfl (f10) rfl rfl (Nat.le_of_ble_eq_true rfl) rfl) ?_
        conv=>whnf
        have k11:=k10.st f10 (bP 3 [] false (.p o g' 0) .p0 .sl0 .sl0 t.l)
        have f11:(_:St)[σ1.length]? =_:=at_set f10 (bP 3 [] false (.p o g' 0) .p0 .sl0 .sl0 t.l)
        have vk:aI p σ _:=qw.set (o:=σ1.length) (by omega) (bP 3 [] false (.p o g' 0) .p0 .sl0 .sl0 t.l)
        have o11:=aK o10 (show σ1.length≠o by omega) (bP 3 [] false (.p o g' 0) .p0 .sl0 .sl0 t.l)
        refine ak (aj (T:=dA) rfl rfl (ah (o11)) rfl) ?_
        conv=>whnf
        rw [decide_eq_true (by omega)]
        conv=>whnf
        conv=>whnf
        refine ak (aC (T:=dA) ([.i .i64 2,.s [],.b false,.p o g' 0,.p0,.sl0,.sl0,.i .i64 t.l]) rfl (f11) rfl rfl (Nat.le_of_ble_eq_true rfl) rfl) ?_
        conv=>whnf
        have k12:=k11.st f11 (bP 2 [] false (.p o g' 0) .p0 .sl0 .sl0 t.l)
        have f12:(_:St)[σ1.length]? =_:=at_set f11 (bP 2 [] false (.p o g' 0) .p0 .sl0 .sl0 t.l)
        have VL:aI p σ _:=vk.set (o:=σ1.length) (by omega) (bP 2 [] false (.p o g' 0) .p0 .sl0 .sl0 t.l)
        have o12:=aK o11 (show σ1.length≠o by omega) (bP 2 [] false (.p o g' 0) .p0 .sl0 .sl0 t.l)
        refine ak (aj (T:=eG) rfl rfl (ah (o12)) rfl) ?_
        conv=>whnf
        refine ak (aC (T:=eG) ([.i .i64 2,.s Fz,.b false,.p o g' 0,.p0,.sl0,.sl0,.i .i64 t.l]) rfl (f12) rfl rfl (Nat.le_of_ble_eq_true rfl) rfl) ?_
        conv=>whnf
        have k13:=k12.st f12 (bP 2 Fz false (.p o g' 0) .p0 .sl0 .sl0 t.l)
        have f13:(_:St)[σ1.length]? =_:=at_set f12 (bP 2 Fz false (.p o g' 0) .p0 .sl0 .sl0 t.l)
        have y13:aI p σ _:=VL.set (o:=σ1.length) (by omega) (bP 2 Fz false (.p o g' 0) .p0 .sl0 .sl0 t.l)
        have o13:=aK o12 (show σ1.length≠o by omega) (bP 2 Fz false (.p o g' 0) .p0 .sl0 .sl0 t.l)
        refine ak (aC (T:=bC) ([.i .i64 2,.s Fz,.b false,.p0,.p0,.sl0,.sl0,.i .i64 t.l]) rfl (f13) rfl rfl (Nat.le_of_ble_eq_true rfl) rfl) ?_
        conv=>whnf
        have k14:=k13.st f13 (bP 2 Fz false .p0 .p0 .sl0 .sl0 t.l)
        have f14:(_:St)[σ1.length]? =_:=at_set f13 (bP 2 Fz false .p0 .p0 .sl0 .sl0 t.l)
        have Ji:aI p σ _:=y13.set (o:=σ1.length) (by omega) (bP 2 Fz false .p0 .p0 .sl0 .sl0 t.l)
        have o14:=aK o13 (show σ1.length≠o by omega) (bP 2 Fz false .p0 .p0 .sl0 .sl0 t.l)
        have l15:=aX f14
        have hg:=(ny n).ended d (all.drop (m3+1)) he4 (by omega)
        refine uw hno n d _ (m3+1) _ _ _ k14 hd he4 (by omega) ?_
        generalize bW n d (all.drop (m3+1))=re at hg hQ
        cases re with
        | out=>exact hg.elim
        | bad c l=>
          have hQ:kL p w g all σ d Q (.bad c l):=hQ
          intro o1 g1 s5 m5 oN BP
          have vK:=oN.get (by omega) f14
          conv=>whnf
          refine ak (aC (T:=bC) ([.i .i64 2,.s Fz,.b false,.p0,.p o1 g1 0,.sl0,.sl0,.i .i64 t.l]) rfl (vK) rfl rfl (Nat.le_of_ble_eq_true rfl) rfl) ?_
          conv=>whnf
          exact Fin.ref rfl (hQ _ _ _ _ ((Ji.trans oN).set (by omega) _) (BP.st vK _))
        | ok z bJ=>
          have hQ:kL p w g all σ d Q (.ok (.st 2 Fz false .nil z .nil .nil t.l) bJ):=hQ
          intro o1 g1 s5 m5 c5 l5 oN BP Md rO
          have vK:=oN.get (by omega) f14
          have l5':=oN.len
          conv=>whnf
          refine ak (aC (T:=bC) ([.i .i64 2,.s Fz,.b false,.p0,.p o1 g1 0,.sl0,.sl0,.i .i64 t.l]) rfl (vK) rfl rfl (Nat.le_of_ble_eq_true rfl) rfl) ?_
          conv=>whnf
          refine Fin.ref rfl (hQ _ _ _ _ _ _ ((Ji.trans oN).set (by omega) _) (BP.st vK _) Md ⟨σ1.length,0,.p0,.p o1 g1 0,.sl0,.sl0,by omega,rfl,at_set vK _,rfl,?_,rfl,rfl⟩)
          exact bK.mono (fun i hi=>by first | omega | (simp only [List.length_set,bg] at *;omega)) (fun i hi a ha=>aK ha (by first | omega | (simp only [List.length_set,bg] at *;omega)) _) rO
       ·rw [if_neg h2] at hQ
        rw [decide_eq_false (by omega)]
        conv=>whnf
        conv=>whnf
        refine ak (aj (T:=dA) rfl rfl (ah (BJ)) rfl) ?_
        conv=>whnf
        by_cases h5:kx=5∨kx=6
        ·rw [if_pos h5,←hr4] at hQ
         by_cases h55:kx=5
         case' pos=>
            rw [decide_eq_true (by omega)]
            conv=>whnf
            conv=>whnf
         case' neg=>
            rw [decide_eq_false (by omega)]
            conv=>whnf
            conv=>whnf
            refine ak (aj (T:=dA) rfl rfl (ah (BJ)) rfl) ?_
            conv=>whnf
            rw [decide_eq_true (by omega)]
            conv=>whnf
            conv=>whnf
         all_goals
            refine ay.to (jI _ k3 IL) ?_
            rw [hi4]
            conv=>whnf
            refine dw [61] k3 IL (fun _ _=>?_) (fun e=>by rw [hi4] at e;cases e)
            conv=>whnf
            refine ak (aC (T:=dA) ([.i .i64 3,.s [],.b false,.p0,.p0,.sl0,.sl0,.i .i64 t.l]) rfl (f5) rfl rfl (Nat.le_of_ble_eq_true rfl) rfl) ?_
            conv=>whnf
            have k10:=k5.st f5 (bP 3 [] false .p0 .p0 .sl0 .sl0 t.l)
            have f10:(_:St)[σ1.length]? =_:=at_set f5 (bP 3 [] false .p0 .p0 .sl0 .sl0 t.l)
            have qw:aI p σ _:=y5.set (o:=σ1.length) (by omega) (bP 3 [] false .p0 .p0 .sl0 .sl0 t.l)
            have o10:=aK o5 (show σ1.length≠o by omega) (bP 3 [] false .p0 .p0 .sl0 .sl0 t.l)
            refine ak (aC (T:=bC) ([.i .i64 3,.s [],.b false,.p o g' 0,.p0,.sl0,.sl0,.i .i64 t.l]) rfl (f10) rfl rfl (Nat.le_of_ble_eq_true rfl) rfl) ?_
            conv=>whnf
            have k11:=k10.st f10 (bP 3 [] false (.p o g' 0) .p0 .sl0 .sl0 t.l)
            have f11:(_:St)[σ1.length]? =_:=at_set f10 (bP 3 [] false (.p o g' 0) .p0 .sl0 .sl0 t.l)
            have vk:aI p σ _:=qw.set (o:=σ1.length) (by omega) (bP 3 [] false (.p o g' 0) .p0 .sl0 .sl0 t.l)
            have o11:=aK o10 (show σ1.length≠o by omega) (bP 3 [] false (.p o g' 0) .p0 .sl0 .sl0 t.l)
            refine ak (aj (T:=dA) rfl rfl (ah (o11)) rfl) ?_
            conv=>whnf
            rw [decide_eq_false (by omega)]
            conv=>whnf
            conv=>whnf
            have l12:=aX f11
            have hg:=(ny n).ended d (all.drop (m3+1)) he4 (by omega)
            refine uw hno n d _ (m3+1) _ _ _ k11 hd he4 (by omega) ?_
            generalize bW n d (all.drop (m3+1))=re at hg hQ
            cases re with
            | out=>exact hg.elim
            | bad c l=>
              have hQ:kL p w g all σ d Q (.bad c l):=hQ
              intro o1 g1 s5 m5 oN BP
              have vK:=oN.get (by omega) f11
              conv=>whnf
              refine ak (aC (T:=bC) ([.i .i64 3,.s [],.b false,.p o g' 0,.p o1 g1 0,.sl0,.sl0,.i .i64 t.l]) rfl (vK) rfl rfl (Nat.le_of_ble_eq_true rfl) rfl) ?_
              conv=>whnf
              exact Fin.ref rfl (hQ _ _ _ _ ((vk.trans oN).set (by omega) _) (BP.st vK _))
            | ok z bJ=>
              have hQ:kL p w g all σ d Q (.ok (.st 3 [] false (.ex kx nx Fz txx lx rx ax lnx) z .nil .nil t.l) bJ):=hQ
              intro o1 g1 s5 m5 c5 l5 oN BP Md rO
              have vK:=oN.get (by omega) f11
              have l5':=oN.len
              conv=>whnf
              refine ak (aC (T:=bC) ([.i .i64 3,.s [],.b false,.p o g' 0,.p o1 g1 0,.sl0,.sl0,.i .i64 t.l]) rfl (vK) rfl rfl (Nat.le_of_ble_eq_true rfl) rfl) ?_
              conv=>whnf
              refine Fin.ref rfl (hQ _ _ _ _ _ _ ((vk.trans oN).set (by omega) _) (BP.st vK _) Md ⟨σ1.length,0,.p o g' 0,.p o1 g1 0,.sl0,.sl0,by omega,rfl,at_set vK _,bK.mono (fun i hi=>by omega) (fun i hi a ha=>aK (oN.get (by omega) (aK (aK ha (by omega) _) (by omega) _)) (by omega) _) hex5,?_,rfl,rfl⟩)
              exact bK.mono (fun i hi=>by first | omega | (simp only [List.length_set,bg] at *;omega)) (fun i hi a ha=>aK ha (by first | omega | (simp only [List.length_set,bg] at *;omega)) _) rO
        ·rw [if_neg h5] at hQ
         have hQ:kL p w g all σ d Q (.bad 4 t4.l):=hQ
         rw [decide_eq_false (by omega)]
         conv=>whnf
         conv=>whnf
         refine ak (aj (T:=dA) rfl rfl (ah (BJ)) rfl) ?_
         conv=>whnf
         rw [decide_eq_false (by omega)]
         conv=>whnf
         conv=>whnf
         refine qV 4 k3 IL (fun _=>?_) (fun e=>by cases e)
         have k8:=k3.set (m':=m3) (d':=d) (b':=true) (c':=4) (l':=t4.l) k3.at_ h.dp
         conv=>whnf
         exact Fin.ref rfl (hQ _ _ _ _ ((y2.trans y3).trans PO.ext) k8)
     | false=>
       rw [if_neg (show ¬aY [61] (t4 :: r4)=true by rw [show aY [61] (t4 :: r4)=dH [61] t4 from rfl,hi4];decide)] at hQ
       conv=>whnf
       refine ay.to (jI _ k3 IL) ?_
       rw [hi4]
       conv=>whnf
       refine ak (aj (T:=dA) rfl rfl (ah (BJ)) rfl) ?_
       conv=>whnf
       by_cases h4:kx=4
       ·rw [if_pos h4,←oD] at hQ
        have hQ:kL p w g all σ d Q ((aP [59] (all.drop m3)).bind fun _ ts=>.ok (.st 10 [] false .nil (.ex kx nx Fz txx lx rx ax lnx) .nil .nil t.l) ts):=hQ
        have y23:=y2.trans y3
        rw [decide_eq_true (by omega)]
        conv=>whnf
        conv=>whnf
        refine dw [61] k3 IL (fun _ e=>by rw [hi4] at e;cases e) (fun _=>?_)
        conv=>whnf
        refine ak (aC (T:=dA) ([.i .i64 10,.s [],.b false,.p0,.p0,.sl0,.sl0,.i .i64 t.l]) rfl (f3) rfl rfl (Nat.le_of_ble_eq_true rfl) rfl) ?_
        conv=>whnf
        have k10:=k3.st f3 (bP 10 [] false .p0 .p0 .sl0 .sl0 t.l)
        have f10:(_:St)[σ1.length]? =_:=at_set f3 (bP 10 [] false .p0 .p0 .sl0 .sl0 t.l)
        have qw:aI p σ _:=y23.set (o:=σ1.length) (by omega) (bP 10 [] false .p0 .p0 .sl0 .sl0 t.l)
        have o10:=aK BJ (show σ1.length≠o by omega) (bP 10 [] false .p0 .p0 .sl0 .sl0 t.l)
        refine ak (aC (T:=bC) ([.i .i64 10,.s [],.b false,.p0,.p o g' 0,.sl0,.sl0,.i .i64 t.l]) rfl (f10) rfl rfl (Nat.le_of_ble_eq_true rfl) rfl) ?_
        conv=>whnf
        have k11:=k10.st f10 (bP 10 [] false .p0 (.p o g' 0) .sl0 .sl0 t.l)
        have f11:(_:St)[σ1.length]? =_:=at_set f10 (bP 10 [] false .p0 (.p o g' 0) .sl0 .sl0 t.l)
        have vk:aI p σ _:=qw.set (o:=σ1.length) (by omega) (bP 10 [] false .p0 (.p o g' 0) .sl0 .sl0 t.l)
        have o11:=aK o10 (show σ1.length≠o by omega) (bP 10 [] false .p0 (.p o g' 0) .sl0 .sl0 t.l)
        have l12:=aX f11
        conv=>whnf
        obtain⟨t7,r7,kC⟩:=he3.ne
        obtain⟨QL,L9⟩:=aW kC
        rw [kC] at hQ
        refine jG _ k11 QL (fun zx=>?_) (fun zx=>?_)
        ·rw [aP,if_pos (show aY [59] (t7 :: r7)=true from zx)] at hQ
         have hQ:kL p w g all σ d Q (.ok (.st 10 [] false .nil (.ex kx nx Fz txx lx rx ax lnx) .nil .nil t.l) r7):=hQ
         have k8:=k11.set (m':=m3+1) (d':=d) (b':=false) (c':=c3) (l':=l3) (aN he3 kC zx).1 h.dp
         conv=>whnf
         refine Fin.ref rfl (hQ _ _ _ _ _ _ (vk.trans PO.ext) k8 L9 ⟨σ1.length,0,.p0,.p o g' 0,.sl0,.sl0,by omega,rfl,PO.ext.get (by omega) f11,rfl,bK.mono (fun i hi=>by omega) (fun i hi a ha=>PO.ext.get (by omega) (aK (aK ha (by omega) _) (by omega) _)) hex,rfl,rfl⟩)
        ·rw [aP,if_neg (by rw [show aY [59] (t7 :: r7)=dH [59] t7 from rfl,zx];decide)] at hQ
         have hQ:kL p w g all σ d Q (.bad 4 t7.l):=hQ
         have k8:=k11.set (m':=m3) (d':=d) (b':=true) (c':=4) (l':=t7.l) k11.at_ h.dp
         conv=>whnf
         exact Fin.ref rfl (hQ _ _ _ _ (vk.trans PO.ext) k8)
       ·rw [if_neg h4] at hQ
        have hQ:kL p w g all σ d Q (.bad 4 t4.l):=hQ
        rw [decide_eq_false (by omega)]
        conv=>whnf
        conv=>whnf
        refine qV 4 k3 IL (fun _=>?_) (fun e=>by cases e)
        have k8:=k3.set (m':=m3) (d':=d) (b':=true) (c':=4) (l':=t4.l) k3.at_ h.dp
        conv=>whnf
        exact Fin.ref rfl (hQ _ _ _ _ ((y2.trans y3).trans PO.ext) k8)
end
end Go.bG.YtjcicgkencfbgaaGreatDoor
