/- Texts of this claim, joined: Re2, Re3, Re4. -/
import Derived.Test.YthoodopjoaigdaaGreatDoorM21
import Derived.Test.YthoodopjoaigdaaGreatDoorM23
set_option linter.unusedVariables false
set_option linter.unusedSimpArgs false
namespace Go.bP.YthoodopjoaigdaaGreatDoor
open Go.Proofs
set_option maxRecDepth 4000
def YS (p w g:Nat)(all:List Tok)(σ:St)(d:Nat)(Q:AV→St→Prop):Re ug→Prop
 | .ok xs ts=>∀A σ' m' c l,aI p σ σ'→PO p w g all σ' m' d false c l→all.drop m'= ts→dR (fun i=>σ.length≤i) σ' A xs→wK A→Q A σ'
 | .bad c l=>∀A σ' m',aI p σ σ'→PO p w g all σ' m' d true c l→wK A→Q A σ'
 | .out=>True
def jM (p w g:Nat)(all:List Tok)(σ:St)(d:Nat)(Q:AV→St→Prop):Re Sm→Prop
 | .ok x ts=>∀o g' σ' m' c l,aI p σ σ'→PO p w g all σ' m' d false c l→all.drop m'= ts→kM (fun i=>σ.length≤i) σ' (.p o g' 0) x→Q (.p o g' 0) σ'
 | .bad c l=>∀o g' σ' m',aI p σ σ'→PO p w g all σ' m' d true c l→Q (.p o g' 0) σ'
 | .out=>True
def QQs (p w g:Nat)(all:List Tok)(B:Nat)(σ:St)(d:Nat)(acc:List Sm)(Q:Out→Env→St→Prop):Re ug→Prop
 | .ok xs ts=>∀v σ' m' c l e',get e' 0= .p p 0 0→get e' 3=v→get e' 1000000= .u→n_ p B σ σ'→PO p w g all σ' m' d false c l→all.drop m'= ts→zH B σ' v (acc ++ wM xs)→Q (.exit 0) e' σ'
 | .bad c l=>∀v σ' m' e',get e' 0= .p p 0 0→get e' 3=v→get e' 1000000= .u→n_ p B σ σ'→PO p w g all σ' m' d true c l→wK v→Q (.exit 0) e' σ'
 | .out=>True
structure WT (p w g:Nat)(all:List Tok)(n:Nat):Prop where
 block:∀(d:Nat) (σ:St) (m c0 l0:Nat) (Q:AV→St→Prop),PO p w g all σ m d false c0 l0→d≤64→aS (all.drop m)→10*(all.drop m).length+10≤n→YS p w g all σ d Q (dK n d (all.drop m))→ay X 45 [.p p 0 0] σ Q
 branch:∀(d line:Nat) (σ:St) (m c0 l0:Nat) (Q:AV→St→Prop),PO p w g all σ m d false c0 l0→d≤64→aS (all.drop m)→10*(all.drop m).length+12≤n→jM p w g all σ d Q (eG n d line (all.drop m))→ay X 108 [.p p 0 0,.i .i64 line] σ Q
 stmt:∀(d:Nat) (σ:St) (m c0 l0:Nat) (Q:AV→St→Prop),PO p w g all σ m d false c0 l0→d≤64→aS (all.drop m)→10*(all.drop m).length+14≤n→jM p w g all σ d Q (mZ n d (all.drop m))→ay X 80 [.p p 0 0] σ Q
def sU (p w g:Nat)(all:List Tok)(n:Nat):Prop:=∀(d B:Nat),d≤64→p<B→w<B→
 ∀ (acc:List Sm) (v:AV) (σ:St) (m c0 l0:Nat) (Q:Out→Env→St→Prop),PO p w g all σ m d false c0 l0→B≤σ.length→zH B σ v acc→aS (all.drop m)→10*(all.drop m).length+15≤n→acc.length+(all.drop m).length≤40001→QQs p w g all B σ d acc Q (iC n d (all.drop m))→aW X [0,3] Py [(0,.p p 0 0),(3,v)] σ Q
section
variable {p w g:Nat} {all:List Tok} {n:Nat}
theorem PO.EC {m d c l:Nat} {b:Bool} {σ σ':St} (h:PO p w g all σ m d b c l)(x:Ext σ σ'):PO p w g all σ' m d b c l:=h.keep (x.old p (aX h.obj)) (x.old w (aX h.tok))
theorem PO.st {m d c l x k ln:Nat} {nm:List UInt8} {pt b:Bool} {L R T E:AV} {s:St} (h:PO p w g all s m d b c l)(hx:s[x]? =some (bK k nm pt L R T E ln))(b':AO):PO p w g all (s.set x b') m d b c l:=
 ⟨aK h.obj (fun e=>by subst e;have:=hx.symm.trans h.obj;simp [bK] at this) _,aK h.tok (fun e=>by subst e;have:=hx.symm.trans h.tok;simp [bK] at this) _,h.ne,h.len,h.at_,h.dp⟩
theorem PO.YT {B m d m' d' c c' l l':Nat} {b b':Bool} {σ σ2:St} (x:n_ p σ.length (fD p w g B σ m d b c l) σ2):aI p σ (fD p w g B σ2 m' d' b' c' l'):=
 ⟨by rw [bg];have:=x.len;rw [bg] at this;exact this,fun i hi fP=>by unfold fD;rw [List.getElem?_set_ne (fun e=>fP e.symm),x.old i hi fP];unfold fD;rw [List.getElem?_set_ne (fun e=>fP e.symm)]⟩
theorem pW {m d c l:Nat} {v:AV} {σ:St} {Q:Out→Env→St→Prop} (h:PO p w g all σ m d true c l)(hv:wK v)
 (q:∀e',get e' 0= .p p 0 0→get e' 3=v→get e' 1000000= .u→Q (.exit 0) e' σ):aW X [0,3] Py [(0,.p p 0 0),(3,v)] σ Q:=by
 rcases hv with rfl | ⟨o,g,k,rfl⟩
 all_goals
  refine aW.round aH (lit:=false) ?_
  conv=>whnf
  refine ak (aj (T:=kR) rfl rfl (ah (h.obj)) rfl) ?_
  conv=>whnf
  exact q _ rfl rfl rfl
theorem Vz (ih:WT p w g all n)(J9:sU p w g all n):sU p w g all (n+1):=by
 intro d B hd hp hw acc v σ m c0 l0 Q h hB ha he hn hs hQ
 obtain⟨t,r,hts⟩:=he.ne
 obtain⟨ht,hr⟩:=aV hts
 unfold iC at hQ
 rw [hts] at hQ
 have hsl:wK v:=by obtain⟨cs,hr,_⟩:=ha;exact hr.sl
 rcases hsl with rfl | ⟨oo,gg,kk,rfl⟩
 all_goals
  refine aW.round aH (lit:=false) ?_
  conv=>whnf
  refine ak (aj (T:=kR) rfl rfl (ah (h.obj)) rfl) ?_
  conv=>whnf
  refine ay.to (jg _ h ht) ?_
  cases hi:dF [125] t with
  | true=>
    rw [if_pos (show bf [125] (t :: r)=true from hi)] at hQ
    conv=>whnf
    exact hQ _ σ m c0 l0 _ rfl rfl rfl (.refl _ _ _) h hts (by rw [show acc ++ wM .nil=acc from List.append_nil acc];exact ha)
  | false=>
    rw [if_neg (by rw [show bf [125] (t :: r)=dF [125] t from rfl,hi];decide),←hts] at hQ
    have hg:=(lW n).stmt d (all.drop m) he (by omega)
    conv=>whnf
    refine ih.stmt d σ m c0 l0 _ h hd he (by omega) ?_
    generalize mZ n d (all.drop m)=r1 at hg hQ
    cases r1 with
    | out=>exact hg.elim
    | bad c l=>
      intro oy gy s m2 y k
      have ly:=y.len
      conv=>whnf
      refine wP (D:=s.length) ha y hp hB (Nat.le_refl _) ly (by omega) oy gy fun o3 g3 k3 s3 e3 l3 kT kA=>?_
      have k4:=k.keep (e3 p hp) (e3 w hw)
      have yy:n_ p B σ s3:=⟨by omega,fun i hi fP=>by rw [e3 i hi,y.old i (by omega) fP]⟩
      conv=>whnf
      exact pW k4 (.inr ⟨_,_,_,rfl⟩) fun e' q0 q3 q9=>hQ _ s3 m2 e' q0 q3 q9 yy k4 (.inr ⟨_,_,_,rfl⟩)
    | ok y0 bH=>
      intro oy gy s m2 c2 l2 y k hm2 qV
      have ly:=y.len
      have hQ:QQs p w g all B σ d acc Q ((iC n d bH).bind fun l ts=>.ok (.cons y0 l) ts):=hQ
      rw [←hm2] at hQ hg
      have lg:=hg.2.2
      conv=>whnf
      refine wP (D:=σ.length) ha y hp hB ly (Nat.le_refl _) (by omega) oy gy fun o3 g3 k3 s3 e3 l3 kT kA=>?_
      have k4:=k.keep (e3 p hp) (e3 w hw)
      have yy:n_ p B σ s3:=⟨by omega,fun i hi fP=>by rw [e3 i hi,y.old i (by omega) fP]⟩
      conv=>whnf
      refine J9 d B hd hp hw (acc ++ [y0]) _ s3 m2 c2 l2 Q k4 (by omega) (kA y0 qV) hg.2.1 (by omega) (by rw [List.length_append];simp only [List.length_cons,List.length_nil];omega) ?_
      generalize iC n d (all.drop m2)=r2 at hQ
      cases r2 with
      | out=>trivial
      | bad c l=>exact fun v4 dZ m4 e' q0 q3 q9 x4=>hQ v4 dZ m4 e' q0 q3 q9 (yy.trans x4)
      | ok xs zx=>exact fun v4 dZ m4 c4 l4 e' q0 q3 q9 x4 h4 hm4 sK=>hQ v4 dZ m4 c4 l4 e' q0 q3 q9 (yy.trans x4) h4 hm4 (by rw [List.append_assoc] at sK;exact sK)
theorem kN {m d c l:Nat} {σ:St} {t:Tok} (h:PO p w g all σ m d true c l)(ht:all[m]? =some t)(hd:d+1≤1000) {Q:AV→St→Prop}
 (q:∀σ',aI p σ σ'→PO p w g all σ' m d true c l→Q .sl0 σ'):ay X 45 [.p p 0 0] σ Q:=by
 refine ay.body (F:=F45) aH (lit:=false) rfl rfl (Nat.le_of_ble_eq_true rfl) ?_
 conv=>whnf
 refine Cc _ h ht hd ?_
 have h1:=h.set (m':=m) (d':=d+1) (b':=true) (c':=c) (l':=l) h.at_ hd
 conv=>whnf
 refine pW h1 (.inl rfl) fun e' e0 e3 e9=>?_
 conv=>whnf
 rw [show dI.ev e' (.t 0)=get e' 0 from rfl,e0]
 conv=>whnf
 refine gI _ h1 ht ?_
 have h3:=h1.set (m':=m) (d':=d) (b':=true) (c':=c) (l':=l) h.at_ h.dp
 conv=>whnf
 have q3:dI.ev (put (some 22) (.tu []) (put (some 21) (.p p 0 0) e')) (.t 3)= .sl0:=e3
 erw [q3]
 conv=>whnf
 exact sN (q _ (PO.ext.trans PO.ext) h3) fun _=>q _ (.refl _ _) h
theorem VA (J9:sU p w g all n)(d:Nat)(σ:St)(m c0 l0:Nat)(Q:AV→St→Prop)(h:PO p w g all σ m d false c0 l0)(hd:d≤64)(he:aS (all.drop m))(hn:10*(all.drop m).length+10≤n+1)(hQ:YS p w g all σ d Q (dK (n+1) d (all.drop m))):ay X 45 [.p p 0 0] σ Q:=by
 obtain⟨t,r,hts⟩:=he.ne
 obtain⟨ht,hr⟩:=aV hts
 have hpl:=aX h.obj
 have hwl:=aX h.tok
 have hal:=h.len
 have hm:=h.at_
 unfold dK gG at hQ
 rw [hts] at hQ
 refine ay.body (F:=F45) aH (lit:=false) rfl rfl (Nat.le_of_ble_eq_true rfl) ?_
 conv=>whnf
 refine pU [123] h ht (by omega) (fun hi=>(aN he hts hi).1) (fun hi h64=>?_) (fun hi h64=>?_) (fun hi=>?_)
 ·obtain⟨hm1,he1,hl1⟩:=aN he hts hi
  have h1:=h.set (m':=m+1) (d':=d+1) (b':=false) (c':=c0) (l':=l0) hm1 (by omega)
  rw [if_neg (by omega),aQ,if_pos (show bf [123] (t :: r)=true from hi)] at hQ
  have hQ:YS p w g all σ d Q ((iC n (d+1) r).bind fun l ts=>(aQ [125] ts).bind fun _ ts=>.ok l ts):=hQ
  rw [←hr] at hQ
  have hg:=(lW n).stmts (d+1) (all.drop (m+1)) he1 (by omega)
  conv=>whnf
  refine J9 (d+1) σ.length (by omega) hpl hwl [] .sl0 _ (m+1) _ _ _ h1 (by rw [bg];exact Nat.le_refl _) ⟨[],.inl ⟨rfl,rfl⟩,trivial⟩ he1 (by omega) (by simp only [List.length_nil,List.length_drop];omega) ?_
  generalize iC n (d+1) (all.drop (m+1))=r1 at hg hQ
  cases r1 with
  | out=>exact hg.elim
  | bad c l=>
    have hQ:YS p w g all σ d Q (.bad c l):=hQ
    intro v σ2 m2 e' e0 e3 e9 x2 h2 hv
    obtain⟨t2,ht2⟩:∃t2,all[m2]? =some t2:=⟨_,List.getElem?_eq_getElem h2.at_⟩
    have h3:=h2.set (m':=m2) (d':=d) (b':=true) (c':=c) (l':=l) h2.at_ h.dp
    have hv':=hv
    rcases hv with rfl | ⟨oo,gg,kk,rfl⟩
    all_goals
        conv=>whnf
        rw [show dI.ev e' (.t 0)=get e' 0 from rfl,e0]
        conv=>whnf
        refine gI _ h2 ht2 ?_
        conv=>whnf
        have q3:dI.ev (put (some 22) (.tu []) (put (some 21) (.p p 0 0) e')) (.t 3)=_:=e3
        erw [q3]
        conv=>whnf
        exact jy h.obj h3.obj (by simp [jL]) (hQ _ _ _ (PO.YT x2) h3 hv')
  | ok xs bH=>
    intro v σ2 m2 c2 l2 e' e0 e3 e9 x2 h2 hm2 hacc
    have harg:dR (fun i=>σ.length≤i) σ2 v xs:=by have:=hacc.arg;rw [List.nil_append,J8] at this;exact this
    have hv:wK v:=by obtain⟨cs,hr,_⟩:=hacc;exact hr.sl
    have he2:aS (all.drop m2):=by rw [hm2];exact hg.2.1
    have hlg:=hg.2.2
    rw [←hm2] at hlg
    obtain⟨t2,r2,eU⟩:=he2.ne
    obtain⟨ht2,hr2⟩:=aV eU
    have hQ:YS p w g all σ d Q ((aQ [125] bH).bind fun _ ts=>.ok xs ts):=hQ
    rw [←hm2,eU] at hQ
    have hmm:m<m2+1:=by simp only [List.length_drop] at hlg hl1;omega
    have hv':=hv
    rcases hv with rfl | ⟨oo,gg,kk,rfl⟩
    all_goals
        conv=>whnf
        rw [show dI.ev e' (.t 0)=get e' 0 from rfl,e0]
        conv=>whnf
        refine wJ _ h2 ht2 (fun hi2=>(aN he2 eU hi2).1) (fun hi2=>?_) (fun hi2=>?_)
        ·rw [aQ,if_pos (show bf [125] (t2 :: r2)=true from hi2)] at hQ
         have h3:=h2.set (m':=m2+1) (d':=d) (b':=false) (c':=c2) (l':=l2) (aN he2 eU hi2).1 h.dp
         conv=>whnf
         have q3:dI.ev (put (some 22) (.tu []) (put (some 21) (.p p 0 0) e')) (.t 3)=_:=e3
         erw [q3]
         conv=>whnf
         exact jy h.obj h3.obj (by simp [jL];omega) (hQ _ _ _ _ _ (PO.YT x2) h3 hr2 (dR.mono (fun i hi=>hi) (fun i hi a ha=>PO.ext.get (by omega) ha) harg) hv')
        ·rw [aQ,if_neg (show ¬bf [125] (t2 :: r2)=true by rw [show bf [125] (t2 :: r2)=dF [125] t2 from rfl,hi2];decide)] at hQ
         have h3:=h2.set (m':=m2) (d':=d) (b':=true) (c':=4) (l':=t2.l) h2.at_ h.dp
         conv=>whnf
         have q3:dI.ev (put (some 22) (.tu []) (put (some 21) (.p p 0 0) e')) (.t 3)=_:=e3
         erw [q3]
         conv=>whnf
         exact jy h.obj h3.obj (by simp [jL]) (hQ _ _ _ (PO.YT x2) h3 hv')
 ·rw [if_pos ⟨show bf [123] (t :: r)=true from hi,h64⟩] at hQ
  have hQ:YS p w g all σ d Q (.bad 3 t.l):=hQ
  have h1:=h.set (m':=m) (d':=d+1) (b':=true) (c':=3) (l':=t.l) h.at_ (by omega)
  conv=>whnf
  refine pW h1 (.inl rfl) fun e' e0 e3 e9=>?_
  conv=>whnf
  rw [show dI.ev e' (.t 0)=get e' 0 from rfl,e0]
  conv=>whnf
  refine gI _ h1 ht ?_
  have h3:=h1.set (m':=m) (d':=d) (b':=true) (c':=3) (l':=t.l) h.at_ h.dp
  conv=>whnf
  have q3:dI.ev (put (some 22) (.tu []) (put (some 21) (.p p 0 0) e')) (.t 3)= .sl0:=e3
  erw [q3]
  conv=>whnf
  exact jy h.obj h3.obj (by simp [jL]) (hQ _ _ _ (PO.ext.trans PO.ext) h3 (.inl rfl))
 ·have hiw:¬bf [123] (t :: r)=true:=by rw [show bf [123] (t :: r)=dF [123] t from rfl,hi];decide
  rw [if_neg (fun e=>hiw e.1),aQ,if_neg hiw] at hQ
  have hQ:YS p w g all σ d Q (.bad 4 t.l):=hQ
  have h1:=h.set (m':=m) (d':=d+1) (b':=true) (c':=4) (l':=t.l) h.at_ (by omega)
  conv=>whnf
  refine pW h1 (.inl rfl) fun e' e0 e3 e9=>?_
  conv=>whnf
  rw [show dI.ev e' (.t 0)=get e' 0 from rfl,e0]
  conv=>whnf
  refine gI _ h1 ht ?_
  have h3:=h1.set (m':=m) (d':=d) (b':=true) (c':=4) (l':=t.l) h.at_ h.dp
  conv=>whnf
  have q3:dI.ev (put (some 22) (.tu []) (put (some 21) (.p p 0 0) e')) (.t 3)= .sl0:=e3
  erw [q3]
  conv=>whnf
  exact jy h.obj h3.obj (by simp [jL]) (hQ _ _ _ (PO.ext.trans PO.ext) h3 (.inl rfl))
end
end Go.bP.YthoodopjoaigdaaGreatDoor
namespace Go.bP.YthoodopjoaigdaaGreatDoor
open Go.Proofs
set_option maxRecDepth 4000
section
variable {p w g:Nat} {all:List Tok} {n:Nat}
theorem sW {m d c l:Nat} {b:Bool} {σ:St} (h:PO p w g all σ m d b c l):∃t,all[m]? =some t:=⟨_,List.getElem?_eq_getElem h.at_⟩
theorem RY (SQ:WE p w g all n)(ih:WT p w g all n)(d line:Nat)(σ:St)(m c0 l0:Nat)(Q:AV→St→Prop)(h:PO p w g all σ m d false c0 l0)(hd:d≤64)(he:aS (all.drop m))(hn:10*(all.drop m).length+12≤n+1)(hQ:jM p w g all σ d Q (eG (n+1) d line (all.drop m))):ay X 108 [.p p 0 0,.i .i64 line] σ Q:=by
 have hpl:=aX h.obj
 unfold eG at hQ
 have hg:=(iU n).expr d 1 (all.drop m) he (by omega)
 refine ay.body (F:=Xn) aH (lit:=false) rfl rfl (Nat.le_of_ble_eq_true rfl) ?_
 conv=>whnf
 refine SQ.expr d 1 σ m c0 l0 _ h hd (by omega) he (by omega) ?_
 generalize dQ n d 1 (all.drop m)=r1 at hg hQ
 cases r1 with
 | out=>exact hg.elim
 | bad c l=>
   have hQ:jM p w g all σ d Q (.bad c l):=hQ
   intro o g' s0 m2 y k0
   have ly:=y.len
   obtain⟨t2,ht2⟩:=sW k0
   conv=>whnf
   have b1:(au 120 (AV.ag [.i .i64 4,.s [],.b false,.p0,.p o g' 0,.sl0,.sl0,.i .i64 line]).cells s0)[s0.length]? =some ⟨0,false,.cells 120 [.i .i64 4,.s [],.b false,.p0,.p o g' 0,.sl0,.sl0,.i .i64 line]⟩:=aF _ _ _
   have x1:Ext s0 (au 120 (AV.ag [.i .i64 4,.s [],.b false,.p0,.p o g' 0,.sl0,.sl0,.i .i64 line]).cells s0):=(Ext.refl s0).new _ _
   have l1:(au 120 (AV.ag [.i .i64 4,.s [],.b false,.p0,.p o g' 0,.sl0,.sl0,.i .i64 line]).cells s0).length=s0.length+1:=aG _ _ _
   generalize au 120 (AV.ag [.i .i64 4,.s [],.b false,.p0,.p o g' 0,.sl0,.sl0,.i .i64 line]).cells s0=σ1 at b1 x1 l1 ⊢
   have k:=k0.EC x1
   have b1:σ1[s0.length]? =some (bK 4 [] false .p0 (.p o g' 0) .sl0 .sl0 line):=b1
   conv=>whnf
   refine kN k ht2 (by have:=h.dp;omega) fun s3 y3 k3=>?_
   have Gh:=y3.get (by omega) b1
   conv=>whnf
   refine ak (aC (T:=dN) ([.i .i64 4,.s [],.b false,.p0,.p o g' 0,.sl0,.sl0,.i .i64 line]) rfl (Gh) rfl rfl (Nat.le_of_ble_eq_true rfl) rfl) ?_
   conv=>whnf
   have k4:=k3.st Gh (bK 4 [] false .p0 (.p o g' 0) .sl0 .sl0 line)
   refine dn [101,108,115,101] k4 ht2 (fun e=>by cases e) (fun _=>?_)
   conv=>whnf
   exact Fin.ref rfl (hQ _ _ _ _ (((y.trans (aI.of x1)).trans y3).set (by omega) _) k4)
 | ok z bH=>
   intro o g' s0 m2 c2 l2 y k0 hm2 hez0
   have hQ:jM p w g all σ d Q ((dK n d bH).bind fun th ts=>
    if bf qc ts=true then
        if bf Jo ts.tail=true then(eG n d (jT ts.tail) ts.tail.tail).bind fun b ts=>.ok (.st 4 [] false .nil z th (.cons b .nil) line) ts
        else(dK n d ts.tail).bind fun el ts=>.ok (.st 4 [] false .nil z th el line) ts
    else .ok (.st 4 [] false .nil z th .nil line) ts):=hQ
   have ly:=y.len
   have hez1:=hez0.below
   conv=>whnf
   have b1:(au 120 (AV.ag [.i .i64 4,.s [],.b false,.p0,.p o g' 0,.sl0,.sl0,.i .i64 line]).cells s0)[s0.length]? =some ⟨0,false,.cells 120 [.i .i64 4,.s [],.b false,.p0,.p o g' 0,.sl0,.sl0,.i .i64 line]⟩:=aF _ _ _
   have x1:Ext s0 (au 120 (AV.ag [.i .i64 4,.s [],.b false,.p0,.p o g' 0,.sl0,.sl0,.i .i64 line]).cells s0):=(Ext.refl s0).new _ _
   have l1:(au 120 (AV.ag [.i .i64 4,.s [],.b false,.p0,.p o g' 0,.sl0,.sl0,.i .i64 line]).cells s0).length=s0.length+1:=aG _ _ _
   generalize au 120 (AV.ag [.i .i64 4,.s [],.b false,.p0,.p o g' 0,.sl0,.sl0,.i .i64 line]).cells s0=σ1 at b1 x1 l1 ⊢
   have k:=k0.EC x1
   have b1:σ1[s0.length]? =some (bK 4 [] false .p0 (.p o g' 0) .sl0 .sl0 line):=b1
   have y1:aI p σ σ1:=y.trans (aI.of x1)
   have qj:bJ (fun i=>σ.length≤i∧i<s0.length) σ1 (.p o g' 0) z:=bJ.mono (fun i hi=>hi) (fun i hi a ha=>x1.get ha) hez1
   rw [←hm2] at hQ hg
   have lg:=hg.2.2
   have hgb:=(lW n).block d (all.drop m2) hg.2.1 (by omega)
   conv=>whnf
   refine ih.block d _ m2 _ _ _ k hd hg.2.1 (by omega) ?_
   generalize dK n d (all.drop m2)=r2 at hgb hQ
   cases r2 with
   | out=>exact hgb.elim
   | bad c l=>
     have hQ:jM p w g all σ d Q (.bad c l):=hQ
     intro A s3 m3 y3 k3 hA
     have Gh:=y3.get (by omega) b1
     obtain⟨t3,ht3⟩:=sW k3
     refine jJ _ _ ?_
     conv=>whnf
     refine ak (dL (T:=dN) [.i .i64 4,.s [],.b false,.p0,.p o g' 0,A,.sl0,.i .i64 line] hA rfl rfl Gh (Nat.le_of_ble_eq_true rfl) rfl) ?_
     have k4:=k3.st Gh (bK 4 [] false .p0 (.p o g' 0) A .sl0 line)
     conv=>whnf
     refine dn [101,108,115,101] k4 ht3 (fun e=>by cases e) (fun _=>?_)
     conv=>whnf
     exact Fin.ref rfl (hQ _ _ _ _ ((y1.trans y3).set (by omega) _) k4)
   | ok th fO=>
     intro A s3 m3 c3 l3' y3 k3 IY hth hA
     have hQ:jM p w g all σ d Q (
        if bf qc fO=true then
         if bf Jo fO.tail=true then(eG n d (jT fO.tail) fO.tail.tail).bind fun b ts=>.ok (.st 4 [] false .nil z th (.cons b .nil) line) ts
         else(dK n d fO.tail).bind fun el ts=>.ok (.st 4 [] false .nil z th el line) ts
        else .ok (.st 4 [] false .nil z th .nil line) fO):=hQ
     have Gh:=y3.get (by omega) b1
     have l3:=y3.len
     have he3:aS (all.drop m3):=by rw [IY];exact hgb.2.1
     obtain⟨t3,r3,jl⟩:=he3.ne
     obtain⟨ht3,hr3⟩:=aV jl
     have hlen3:(all.drop m3).length=r3.length+1:=by rw [jl];rfl
     have lgb:=hgb.2.2
     rw [←IY] at lgb
     rw [←IY,jl] at hQ
     have hQ:jM p w g all σ d Q (
        if bf qc (t3 :: r3)=true then
         if bf Jo r3=true then(eG n d (jT r3) r3.tail).bind fun b ts=>.ok (.st 4 [] false .nil z th (.cons b .nil) line) ts
         else(dK n d r3).bind fun el ts=>.ok (.st 4 [] false .nil z th el line) ts
        else .ok (.st 4 [] false .nil z th .nil line) (t3 :: r3)):=hQ
     refine jJ _ _ ?_
     conv=>whnf
     refine ak (dL (T:=dN) [.i .i64 4,.s [],.b false,.p0,.p o g' 0,A,.sl0,.i .i64 line] hA rfl rfl Gh (Nat.le_of_ble_eq_true rfl) rfl) ?_
     have k4:=k3.st Gh (bK 4 [] false .p0 (.p o g' 0) A .sl0 line)
     have Ou:(s3.set s0.length (bK 4 [] false .p0 (.p o g' 0) A .sl0 line))[s0.length]? =_:=at_set Gh _
     have y4:aI p σ (s3.set s0.length (bK 4 [] false .p0 (.p o g' 0) A .sl0 line)):=(y1.trans y3).set (by omega) _
     have YF:bJ (fun i=>σ.length≤i∧i<s0.length) (s3.set s0.length (bK 4 [] false .p0 (.p o g' 0) A .sl0 line)) (.p o g' 0) z:=bJ.mono (fun i hi=>hi) (fun i hi a ha=>aK (y3.get (by omega) ha) (by omega) _) qj
     have YG:dR (fun i=>σ1.length≤i) (s3.set s0.length (bK 4 [] false .p0 (.p o g' 0) A .sl0 line)) A th:=dR.mono (fun i hi=>hi) (fun i hi a ha=>aK ha (by omega) _) hth
     have l4:(s3.set s0.length (bK 4 [] false .p0 (.p o g' 0) A .sl0 line)).length=s3.length:=List.length_set
     have fin:∀(E:AV) (el:ug) (s5:St),aI p (s3.set s0.length (bK 4 [] false .p0 (.p o g' 0) A .sl0 line)) s5→dR (fun i=>σ1.length≤i) (s5.set s0.length (bK 4 [] false .p0 (.p o g' 0) A E line)) E el→kM (fun i=>σ.length≤i) (s5.set s0.length (bK 4 [] false .p0 (.p o g' 0) A E line)) (.p s0.length 0 0) (.st 4 [] false .nil z th el line):=by
        intro E el s5 y5 hE
        refine⟨s0.length,0,.p0,.p o g' 0,A,E,ly,rfl,at_set (y5.get (by omega) Ou) _,rfl,?_,?_,?_⟩
        ·exact bJ.mono (fun i hi=>hi.1) (fun i hi a ha=>aK (y5.get (by omega) ha) (by omega) _) YF
        ·exact dR.mono (fun i hi=>by omega) (fun i hi a ha=>aK (y5.get (by omega) ha) (by omega) _) YG
        ·exact dR.mono (fun i hi=>by omega) (fun i hi a ha=>ha) hE
     conv=>whnf
     refine dn [101,108,115,101] k4 ht3 (fun _ hi=>?_) (fun hi=>?_)
     ·rw [if_pos (show bf qc (t3 :: r3)=true from hi)] at hQ
      obtain⟨hm4,he4,hle4⟩:=aN he3 jl hi
      obtain⟨t4,r4,ny⟩:=he4.ne
      obtain⟨FW,hr4⟩:=aV ny
      have hrr:r3=t4 :: r4:=by rw [←ny,hr3]
      have hlen4:(all.drop (m3+1)).length=r4.length+1:=by rw [ny];rfl
      have hlr:r3.length=r4.length+1:=by rw [hrr];rfl
      rw [hrr] at hQ
      have k5:=k4.set (m':=m3+1) (d':=d) (b':=false) (c':=c3) (l':=l3') hm4 h.dp
      have y5:=PO.ext (p:=p) (w:=w) (g:=g) (n:=all.length) (m:=m3+1) (d:=d) (b:=false) (c:=c3) (l:=l3') (σ:=s3.set s0.length (bK 4 [] false .p0 (.p o g' 0) A .sl0 line))
      have l5:=y5.len
      conv=>whnf
      refine ay.to (iD k5 FW) ?_
      conv=>whnf
      refine pV t4 k5 fun s6 x6 k6 C9 l6=>?_
      have y6:=y5.trans x6
      conv=>whnf
      refine dn [105,102] k6 FW (fun _ hi2=>?_) (fun hi2=>?_)
      ·rw [if_pos (show bf Jo (t4 :: r4)=true from hi2)] at hQ
       have hQ:jM p w g all σ d Q ((eG n d t4.l r4).bind fun b ts=>.ok (.st 4 [] false .nil z th (.cons b .nil) line) ts):=hQ
       obtain⟨Jp,CZ,hle5⟩:=aN he4 ny hi2
       have hlen5:(all.drop (m3+1+1)).length=r4.length:=by rw [hr4]
       have hg5:=(lW n).branch d t4.l (all.drop (m3+1+1)) CZ (by omega)
       have k7:=k6.set (m':=m3+1+1) (d':=d) (b':=false) (c':=c3) (l':=l3') Jp h.dp
       have y7:=y6.trans (PO.ext (p:=p) (w:=w) (g:=g) (n:=all.length) (m:=m3+1+1) (d:=d) (b:=false) (c:=c3) (l:=l3') (σ:=s6))
       have l7:=y7.len
       rw [←hr4] at hQ
       conv=>whnf
       refine ak (aj (T:=cu) rfl rfl (ah ((PO.ext.get (by omega) C9))) rfl) ?_
       conv=>whnf
       refine ih.branch d t4.l _ (m3+1+1) _ _ _ k7 hd CZ (by omega) ?_
       generalize eG n d t4.l (all.drop (m3+1+1))=r5 at hg5 hQ
       cases r5 with
       | out=>exact hg5.elim
       | bad c l=>
         have hQ:jM p w g all σ d Q (.bad c l):=hQ
         intro o8 g8 s8 m8 y8 k8
         have yg:=y7.trans y8
         conv=>whnf
         have b9:(au 121 [.p o8 g8 0] s8)[s8.length]? =some ⟨0,false,.cells 121 [.p o8 g8 0]⟩:=aF _ _ _
         have x9:Ext s8 (au 121 [.p o8 g8 0] s8):=(Ext.refl s8).new _ _
         have l9:(au 121 [.p o8 g8 0] s8).length=s8.length+1:=aG _ _ _
         generalize au 121 [.p o8 g8 0] s8=Vj at b9 x9 l9 ⊢
         have CO:=x9.get (yg.get (by omega) Ou)
         have k9:=k8.EC x9
         refine ak (aC (T:=dN) ([.i .i64 4,.s [],.b false,.p0,.p o g' 0,A,.sl s8.length 0 0 1 1,.i .i64 line]) rfl (CO) rfl rfl (Nat.le_of_ble_eq_true rfl) rfl) ?_
         conv=>whnf
         exact Fin.ref rfl (hQ _ _ _ _ ((y4.trans (yg.trans (aI.of x9))).set (by omega) _) (k9.st CO _))
       | ok bs uj=>
         have hQ:jM p w g all σ d Q (.ok (.st 4 [] false .nil z th (.cons bs .nil) line) uj):=hQ
         intro o8 g8 s8 m8 c8 l8' y8 k8 LP hbs
         have yg:=y7.trans y8
         have l8:=y8.len
         rw [bg] at l8 hbs
         conv=>whnf
         have b9:(au 121 [.p o8 g8 0] s8)[s8.length]? =some ⟨0,false,.cells 121 [.p o8 g8 0]⟩:=aF _ _ _
         have x9:Ext s8 (au 121 [.p o8 g8 0] s8):=(Ext.refl s8).new _ _
         have l9:(au 121 [.p o8 g8 0] s8).length=s8.length+1:=aG _ _ _
         generalize au 121 [.p o8 g8 0] s8=Vj at b9 x9 l9 ⊢
         have CO:=x9.get (yg.get (by omega) Ou)
         have k9:=k8.EC x9
         refine ak (aC (T:=dN) ([.i .i64 4,.s [],.b false,.p0,.p o g' 0,A,.sl s8.length 0 0 1 1,.i .i64 line]) rfl (CO) rfl rfl (Nat.le_of_ble_eq_true rfl) rfl) ?_
         conv=>whnf
         refine Fin.ref rfl (hQ _ _ _ _ _ _ ((y4.trans (yg.trans (aI.of x9))).set (by omega) _) (k9.st CO _) LP (fin _ _ _ (yg.trans (aI.of x9)) ?_))
         refine⟨s8.length,0,[.p o8 g8 0],by omega,rfl,aK b9 (by omega) _,_,[],rfl,?_,rfl⟩
         exact kM.mono (fun i hi=>by omega) (fun i hi a ha=>aK (x9.get ha) (by omega) _) hbs
      ·have hni:dF [105,102] t4=false:=by simpa using hi2
       rw [if_neg (show ¬bf Jo (t4 :: r4)=true by rw [show bf Jo (t4 :: r4)=dF [105,102] t4 from rfl,hni];decide),←ny] at hQ
       have hQ:jM p w g all σ d Q ((dK n d (all.drop (m3+1))).bind fun el ts=>.ok (.st 4 [] false .nil z th el line) ts):=hQ
       have hg5:=(lW n).block d (all.drop (m3+1)) he4 (by omega)
       have l7:=y6.len
       conv=>whnf
       refine ih.block d _ (m3+1) _ _ _ k6 hd he4 (by omega) ?_
       generalize dK n d (all.drop (m3+1))=r5 at hg5 hQ
       cases r5 with
       | out=>exact hg5.elim
       | bad c l=>
         have hQ:jM p w g all σ d Q (.bad c l):=hQ
         intro E s8 m8 y8 k8 hE
         have yg:=y6.trans y8
         have CO:=yg.get (by omega) Ou
         refine jJ _ _ ?_
         conv=>whnf
         refine ak (dL (T:=dN) [.i .i64 4,.s [],.b false,.p0,.p o g' 0,A,E,.i .i64 line] hE rfl rfl CO (Nat.le_of_ble_eq_true rfl) rfl) ?_
         conv=>whnf
         exact Fin.ref rfl (hQ _ _ _ _ ((y4.trans yg).set (by omega) _) (k8.st CO _))
       | ok el uj=>
         have hQ:jM p w g all σ d Q (.ok (.st 4 [] false .nil z th el line) uj):=hQ
         intro E s8 m8 c8 l8' y8 k8 LP hel hE
         have yg:=y6.trans y8
         have l8:=y8.len
         have CO:=yg.get (by omega) Ou
         refine jJ _ _ ?_
         conv=>whnf
         refine ak (dL (T:=dN) [.i .i64 4,.s [],.b false,.p0,.p o g' 0,A,E,.i .i64 line] hE rfl rfl CO (Nat.le_of_ble_eq_true rfl) rfl) ?_
         conv=>whnf
         exact Fin.ref rfl (hQ _ _ _ _ _ _ ((y4.trans yg).set (by omega) _) (k8.st CO _) LP (fin _ _ _ yg (dR.mono (fun i hi=>by omega) (fun i hi a ha=>aK ha (by omega) _) hel)))
     ·have hni:dF [101,108,115,101] t3=false:=by simpa using hi
      rw [if_neg (show ¬bf qc (t3 :: r3)=true by rw [show bf qc (t3 :: r3)=dF [101,108,115,101] t3 from rfl,hni];decide)] at hQ
      conv=>whnf
      have e4:=qY Ou
      refine Fin.ref rfl (hQ _ _ _ _ _ _ y4 k4 jl ?_)
      have:=fin .sl0 .nil _ (.refl _ _) rfl
      rw [e4] at this
      exact this
end
end Go.bP.YthoodopjoaigdaaGreatDoor
namespace Go.bP.YthoodopjoaigdaaGreatDoor
open Go.Proofs
set_option maxRecDepth 4000
section
variable {p w g:Nat} {all:List Tok} {n:Nat}
theorem rF (hno:ni all):∀(n d:Nat) (σ:St) (m c0 l0:Nat) (Q:AV→St→Prop),PO p w g all σ m d false c0 l0→d≤64→aS (all.drop m)→10*(all.drop m).length+10≤n→PE p w g all σ d Q (bW n d (all.drop m))→ay X 109 [.p p 0 0] σ Q
 | 0,_,_,_,_,_,_,_,_,_,h,_=>absurd h (by omega)
 | n+1,d,σ,m,c0,l0,Q,h,hd,he,hn,hQ=>Ve (J7 hno n).1 d σ m c0 l0 Q h hd he hn hQ
set_option maxHeartbeats 4000000 in
theorem YU (hno:ni all)(ih:WT p w g all n)(d:Nat)(σ:St)(m c0 l0:Nat)(Q:AV→St→Prop)(h:PO p w g all σ m d false c0 l0)(hd:d≤64)(he:aS (all.drop m))(hn:10*(all.drop m).length+14≤n+1)(hQ:jM p w g all σ d Q (mZ (n+1) d (all.drop m))):ay X 80 [.p p 0 0] σ Q:=by
 obtain⟨t,r,hts⟩:=he.ne
 obtain⟨ht,hr⟩:=aV hts
 have hpl:=aX h.obj
 have hlr:(all.drop m).length=r.length+1:=by rw [hts];rfl
 unfold mZ at hQ
 rw [hts] at hQ
 simp only at hQ
 refine ay.body (F:=F80) aH (lit:=false) rfl rfl (Nat.le_of_ble_eq_true rfl) ?_
 conv=>whnf
 refine ay.to (iD h ht) ?_
 conv=>whnf
 refine pV t h fun σ1 x1 h1 ht1 hl1=>?_
 conv=>whnf
 refine ak (aj (T:=cu) rfl rfl (ah (ht1)) rfl) ?_
 conv=>whnf
 have b2:(au 120 (AV.ag [.i .i64 0,.s [],.b false,.p0,.p0,.sl0,.sl0,.i .i64 t.l]).cells σ1)[σ1.length]? =some ⟨0,false,.cells 120 [.i .i64 0,.s [],.b false,.p0,.p0,.sl0,.sl0,.i .i64 t.l]⟩:=aF _ _ _
 have x2:Ext σ1 (au 120 (AV.ag [.i .i64 0,.s [],.b false,.p0,.p0,.sl0,.sl0,.i .i64 t.l]).cells σ1):=(Ext.refl σ1).new _ _
 have l2:(au 120 (AV.ag [.i .i64 0,.s [],.b false,.p0,.p0,.sl0,.sl0,.i .i64 t.l]).cells σ1).length=σ1.length+1:=aG _ _ _
 generalize au 120 (AV.ag [.i .i64 0,.s [],.b false,.p0,.p0,.sl0,.sl0,.i .i64 t.l]).cells σ1=σ2 at b2 x2 l2 ⊢
 have b2:σ2[σ1.length]? =some (bK 0 [] false .p0 .p0 .sl0 .sl0 t.l):=b2
 have k2:=h1.EC x2
 have y2:aI p σ σ2:=x1.trans (aI.of x2)
 have tk2:=x2.get ht1
 have he1:∀s,dF s t=true→m+1<all.length∧aS (all.drop (m+1))∧(all.drop (m+1)).length<(all.drop m).length:=fun s hi=>aN he hts hi
 conv=>whnf
 refine dn [118,97,114] k2 ht (fun _ hi=>?_) (fun hi=>?_)
 ·rw [if_pos (show bf U_ (t :: r)=true from hi)] at hQ
  obtain⟨hm1,he2,hle⟩:=he1 _ hi
  have k3:=k2.set (m':=m+1) (d':=d) (b':=false) (c':=c0) (l':=l0) hm1 h.dp
  have z3:aI p σ2 _:=PO.ext (p:=p) (w:=w) (g:=g) (n:=all.length) (m:=m+1) (d:=d) (b:=false) (c:=c0) (l:=l0) (σ:=σ2)
  have f3:=z3.get (by omega) b2
  conv=>whnf
  refine ak (aC (T:=cu) ([.i .i64 1,.s [],.b false,.p0,.p0,.sl0,.sl0,.i .i64 t.l]) rfl (f3) rfl rfl (Nat.le_of_ble_eq_true rfl) rfl) ?_
  conv=>whnf
  have k4:=k3.st f3 (bK 1 [] false .p0 .p0 .sl0 .sl0 t.l)
  have f4:(_:St)[σ1.length]? =_:=at_set f3 (bK 1 [] false .p0 .p0 .sl0 .sl0 t.l)
  have y4:aI p σ _:=(y2.trans z3).set (o:=σ1.length) (by omega) (bK 1 [] false .p0 .p0 .sl0 .sl0 t.l)
  have l4:=aX f4
  rw [←hr] at hQ
  obtain⟨t3,r3,jl⟩:=he2.ne
  obtain⟨ht3,hr3⟩:=aV jl
  have hlr3:(all.drop (m+1)).length=r3.length+1:=by rw [jl];rfl
  rw [jl] at hQ
  refine sJ k4 ht3 (fun hk=>iV (by rw [hr3];exact(jl▸he2).tail (by rw [hk];decide))) (fun hk s5 y5 k5=>?_) (fun hk s5 y5 k5=>?_)
  ·rw [eP,if_pos hk] at hQ
   have he3:aS (all.drop (m+1+1)):=by rw [hr3];exact(jl▸he2).tail (by rw [hk];decide)
   have f5:=y5.get (by omega) f4
   have l5:=y5.len
   conv=>whnf
   refine ak (aC (T:=fA) ([.i .i64 1,.s t3.s,.b false,.p0,.p0,.sl0,.sl0,.i .i64 t.l]) rfl (f5) rfl rfl (Nat.le_of_ble_eq_true rfl) rfl) ?_
   conv=>whnf
   have k6:=k5.st f5 (bK 1 t3.s false .p0 .p0 .sl0 .sl0 t.l)
   have f6:(_:St)[σ1.length]? =_:=at_set f5 (bK 1 t3.s false .p0 .p0 .sl0 .sl0 t.l)
   have y6:aI p σ _:=(y4.trans y5).set (o:=σ1.length) (by omega) (bK 1 t3.s false .p0 .p0 .sl0 .sl0 t.l)
   have l6:=aX f6
   obtain⟨t6,r6,gq⟩:=he3.ne
   obtain⟨C9,wR⟩:=aV gq
   have hlr6:(all.drop (m+1+1)).length=r6.length+1:=by rw [gq];rfl
   have hlr36:r3.length=r6.length+1:=by rw [←hr3,gq];rfl
   have hQ:jM p w g all σ d Q (if bf [61] (if bf fC r3=true then r3.tail else r3)=true then(bW n d (if bf fC r3=true then r3.tail else r3).tail).bind fun x ts=>.ok (.st 1 t3.s (bf fC r3) .nil x .nil .nil t.l) ts else(aQ [59] (if bf fC r3=true then r3.tail else r3)).bind fun _ ts=>.ok (.st 1 t3.s (bf fC r3) .nil .nil .nil .nil t.l) ts):=hQ
   rw [←hr3,gq] at hQ
   conv=>whnf
   refine dn _ k6 C9 (fun _ fP=>?_) (fun fP=>?_)
   ·have hpw:bf fC (t6 :: r6)=true:=fP
    obtain⟨Oc,ED,YV⟩:=aN he3 gq fP
    have k7:=k6.set (m':=m+1+1+1) (d':=d) (b':=false) (c':=c0) (l':=l0) Oc h.dp
    have z7:=y6.trans (PO.ext (p:=p) (w:=w) (g:=g) (n:=all.length) (m:=m+1+1+1) (d:=d) (b:=false) (c:=c0) (l:=l0))
    have f7:=(PO.ext (p:=p) (w:=w) (g:=g) (n:=all.length) (m:=m+1+1+1) (d:=d) (b:=false) (c:=c0) (l:=l0)).get (by omega) f6
    simp only [hpw,if_true,List.tail_cons] at hQ
    rw [←wR] at hQ
    conv=>whnf
    refine ak (aC (T:=kR) ([.i .i64 1,.s t3.s,.b true,.p0,.p0,.sl0,.sl0,.i .i64 t.l]) rfl (f7) rfl rfl (Nat.le_of_ble_eq_true rfl) rfl) ?_
    conv=>whnf
    have k8:=k7.st f7 (bK 1 t3.s true .p0 .p0 .sl0 .sl0 t.l)
    have f8:(_:St)[σ1.length]? =_:=at_set f7 (bK 1 t3.s true .p0 .p0 .sl0 .sl0 t.l)
    have y8:aI p σ _:=z7.set (o:=σ1.length) (by omega) (bK 1 t3.s true .p0 .p0 .sl0 .sl0 t.l)
    have l8:=aX f8
    obtain⟨t9,r9,rG⟩:=ED.ne
    obtain⟨YW,hr9⟩:=aV rG
    have hlr9:(all.drop (m+1+1+1)).length=r9.length+1:=by rw [rG];rfl
    rw [rG] at hQ
    conv=>whnf
    refine dn [61] k8 YW (fun _ hi9=>?_) (fun hi9=>?_)
    ·rw [if_pos (show bf [61] (t9 :: r9)=true from hi9)] at hQ
     obtain⟨yZ,he9,hle9⟩:=aN ED rG hi9
     have hQ:jM p w g all σ d Q ((bW n d r9).bind fun x ts=>.ok (.st 1 t3.s true .nil x .nil .nil t.l) ts):=hQ
     rw [←hr9] at hQ
     have k10:=k8.set (m':=(m+1+1+1+1)) (d':=d) (b':=false) (c':=c0) (l':=l0) yZ h.dp
     have f10:=aI.get (PO.ext (p:=p) (w:=w) (g:=g) (n:=all.length) (m:=(m+1+1+1+1)) (d:=d) (b:=false) (c:=c0) (l:=l0)) (by omega) f8
     have oO:=y8.trans (PO.ext (p:=p) (w:=w) (g:=g) (n:=all.length) (m:=(m+1+1+1+1)) (d:=d) (b:=false) (c:=c0) (l:=l0))
     have l10:=aX f10
     obtain⟨n',rfl⟩:∃n',n=n'+ 1:=⟨n - 1,by omega⟩
     unfold bW at hQ
     have hQ:jM p w g all σ d Q (((dQ n' d 1 (all.drop (m+1+1+1+1))).bind fun x ts=>(aQ [59] ts).bind fun _ ts=>.ok x ts).bind fun x ts=>.ok (.st 1 t3.s true .nil x .nil .nil t.l) ts):=hQ
     have hg:=(iU n').expr d 1 (all.drop (m+1+1+1+1)) he9 (by omega)
     conv=>whnf
     refine(J7 hno n').1.expr d 1 _ (m+1+1+1+1) _ _ _ k10 hd (by omega) he9 (by omega) ?_
     generalize dQ n' d 1 (all.drop (m+1+1+1+1))=re at hg hQ
     cases re with
     | out=>exact hg.elim
     | bad c l=>
       have hQ:jM p w g all σ d Q (.bad c l):=hQ
       intro o g' s11 m11 sQ k11
       have f11:=sQ.get (by omega) f10
       obtain⟨tt,htt⟩:=sW k11
       conv=>whnf
       refine ak (aC (T:=bG) ([.i .i64 1,.s t3.s,.b true,.p0,.p o g' 0,.sl0,.sl0,.i .i64 t.l]) rfl (f11) rfl rfl (Nat.le_of_ble_eq_true rfl) rfl) ?_
       conv=>whnf
       refine ng _ (k11.st f11 _) htt ?_
       conv=>whnf
       exact Fin.ref rfl (hQ _ _ _ _ ((oO.trans sQ).set (by omega) _) (k11.st f11 _))
     | ok z bH=>
       have hQ:jM p w g all σ d Q ((aQ [59] bH).bind fun _ ts=>.ok (.st 1 t3.s true .nil z .nil .nil t.l) ts):=by
        have e:((aQ [59] bH).bind fun _ ts=>Re.ok (Sm.st 1 t3.s true .nil z .nil .nil t.l) ts)=((aQ [59] bH).bind fun _ ts=>Re.ok z ts).bind fun x ts=>Re.ok (Sm.st 1 t3.s true .nil x .nil .nil t.l) ts:=by
               cases aQ [59] bH <;> rfl
        rw [e];exact hQ
       intro o g' s11 m11 c11 Vw sQ k11 RZ qj
       have f11:=sQ.get (by omega) f10
       have l11':=sQ.len
       have R_:aS (all.drop m11):=by rw [RZ];exact hg.2.1
       rw [←RZ] at hQ
       conv=>whnf
       refine ak (aC (T:=bG) ([.i .i64 1,.s t3.s,.b true,.p0,.p o g' 0,.sl0,.sl0,.i .i64 t.l]) rfl (f11) rfl rfl (Nat.le_of_ble_eq_true rfl) rfl) ?_
       conv=>whnf
       have k12:=k11.st f11 (bK 1 t3.s true .p0 (.p o g' 0) .sl0 .sl0 t.l)
       have f12:(_:St)[σ1.length]? =_:=at_set f11 (bK 1 t3.s true .p0 (.p o g' 0) .sl0 .sl0 t.l)
       have Si:aI p σ _:=(oO.trans sQ).set (o:=σ1.length) (by omega) (bK 1 t3.s true .p0 (.p o g' 0) .sl0 .sl0 t.l)
       have l12:=aX f12
       conv=>whnf
       obtain⟨t7,r7,jE⟩:=R_.ne
       obtain⟨Oa,Jm⟩:=aV jE
       rw [jE] at hQ
       refine je _ k12 Oa (fun wZ=>?_) (fun wZ=>?_)
       ·rw [aQ,if_pos (show bf [59] (t7 :: r7)=true from wZ)] at hQ
        have hQ:jM p w g all σ d Q (.ok (.st 1 t3.s true .nil z .nil .nil t.l) r7):=hQ
        have k8:=k12.set (m':=m11+1) (d':=d) (b':=false) (c':=c11) (l':=Vw) (aN R_ jE wZ).1 h.dp
        conv=>whnf
        refine Fin.ref rfl (hQ _ _ _ _ _ _ (Si.trans PO.ext) k8 Jm ⟨σ1.length,0,.p0,.p o g' 0,.sl0,.sl0,by omega,rfl,PO.ext.get (by omega) f12,rfl,bJ.mono (fun i hi=>by omega) (fun i hi a ha=>PO.ext.get (by omega) (aK ha (by omega) _)) qj,rfl,rfl⟩)
       ·rw [aQ,if_neg (by rw [show bf [59] (t7 :: r7)=dF [59] t7 from rfl,wZ];decide)] at hQ
        have hQ:jM p w g all σ d Q (.bad 4 t7.l):=hQ
        have k8:=k12.set (m':=m11) (d':=d) (b':=true) (c':=4) (l':=t7.l) k12.at_ h.dp
        conv=>whnf
        exact Fin.ref rfl (hQ _ _ _ _ (Si.trans PO.ext) k8)
    ·have hw9:dF [61] t9=false:=by simpa using hi9
     rw [if_neg (show ¬bf [61] (t9 :: r9)=true by rw [show bf [61] (t9 :: r9)=dF [61] t9 from rfl,hw9];decide),←rG] at hQ
     have hQ:jM p w g all σ d Q ((aQ [59] (all.drop (m+1+1+1))).bind fun _ ts=>.ok (.st 1 t3.s true .nil .nil .nil .nil t.l) ts):=hQ
     conv=>whnf
     obtain⟨t7,r7,jE⟩:=ED.ne
     obtain⟨Oa,Jm⟩:=aV jE
     rw [jE] at hQ
     refine je _ k8 Oa (fun wZ=>?_) (fun wZ=>?_)
     ·rw [aQ,if_pos (show bf [59] (t7 :: r7)=true from wZ)] at hQ
      have hQ:jM p w g all σ d Q (.ok (.st 1 t3.s true .nil .nil .nil .nil t.l) r7):=hQ
      have k8:=k8.set (m':=(m+1+1+1)+1) (d':=d) (b':=false) (c':=c0) (l':=l0) (aN ED jE wZ).1 h.dp
      conv=>whnf
      refine Fin.ref rfl (hQ _ _ _ _ _ _ (y8.trans PO.ext) k8 Jm ⟨σ1.length,0,.p0,.p0,.sl0,.sl0,by omega,rfl,PO.ext.get (by omega) f8,rfl,rfl,rfl,rfl⟩)
     ·rw [aQ,if_neg (by rw [show bf [59] (t7 :: r7)=dF [59] t7 from rfl,wZ];decide)] at hQ
      have hQ:jM p w g all σ d Q (.bad 4 t7.l):=hQ
      have k8:=k8.set (m':=(m+1+1+1)) (d':=d) (b':=true) (c':=4) (l':=t7.l) k8.at_ h.dp
      conv=>whnf
      exact Fin.ref rfl (hQ _ _ _ _ (y8.trans PO.ext) k8)
   ·have hpw:bf fC (t6 :: r6)=false:=by rw [show bf fC (t6 :: r6)=dF [112,116,114] t6 from rfl];simpa using fP
    have ED:=he3
    have k7:=k6
    have z7:=y6
    have f7:=f6
    simp only [hpw,Bool.false_eq_true,if_false] at hQ
    rw [←gq] at hQ
    conv=>whnf
    refine ak (aC (T:=kR) ([.i .i64 1,.s t3.s,.b false,.p0,.p0,.sl0,.sl0,.i .i64 t.l]) rfl (f7) rfl rfl (Nat.le_of_ble_eq_true rfl) rfl) ?_
    conv=>whnf
    have k8:=k7.st f7 (bK 1 t3.s false .p0 .p0 .sl0 .sl0 t.l)
    have f8:(_:St)[σ1.length]? =_:=at_set f7 (bK 1 t3.s false .p0 .p0 .sl0 .sl0 t.l)
    have y8:aI p σ _:=z7.set (o:=σ1.length) (by omega) (bK 1 t3.s false .p0 .p0 .sl0 .sl0 t.l)
    have l8:=aX f8
    obtain⟨t9,r9,rG⟩:=ED.ne
    obtain⟨YW,hr9⟩:=aV rG
    have hlr9:(all.drop (m+1+1)).length=r9.length+1:=by rw [rG];rfl
    rw [rG] at hQ
    conv=>whnf
    refine dn [61] k8 YW (fun _ hi9=>?_) (fun hi9=>?_)
    ·rw [if_pos (show bf [61] (t9 :: r9)=true from hi9)] at hQ
     obtain⟨yZ,he9,hle9⟩:=aN ED rG hi9
     have hQ:jM p w g all σ d Q ((bW n d r9).bind fun x ts=>.ok (.st 1 t3.s false .nil x .nil .nil t.l) ts):=hQ
     rw [←hr9] at hQ
     have k10:=k8.set (m':=(m+1+1+1)) (d':=d) (b':=false) (c':=c0) (l':=l0) yZ h.dp
     have f10:=aI.get (PO.ext (p:=p) (w:=w) (g:=g) (n:=all.length) (m:=(m+1+1+1)) (d:=d) (b:=false) (c:=c0) (l:=l0)) (by omega) f8
     have oO:=y8.trans (PO.ext (p:=p) (w:=w) (g:=g) (n:=all.length) (m:=(m+1+1+1)) (d:=d) (b:=false) (c:=c0) (l:=l0))
     have l10:=aX f10
     obtain⟨n',rfl⟩:∃n',n=n'+ 1:=⟨n - 1,by omega⟩
     unfold bW at hQ
     have hQ:jM p w g all σ d Q (((dQ n' d 1 (all.drop (m+1+1+1))).bind fun x ts=>(aQ [59] ts).bind fun _ ts=>.ok x ts).bind fun x ts=>.ok (.st 1 t3.s false .nil x .nil .nil t.l) ts):=hQ
     have hg:=(iU n').expr d 1 (all.drop (m+1+1+1)) he9 (by omega)
     conv=>whnf
     refine(J7 hno n').1.expr d 1 _ (m+1+1+1) _ _ _ k10 hd (by omega) he9 (by omega) ?_
     generalize dQ n' d 1 (all.drop (m+1+1+1))=re at hg hQ
     cases re with
     | out=>exact hg.elim
     | bad c l=>
       have hQ:jM p w g all σ d Q (.bad c l):=hQ
       intro o g' s11 m11 sQ k11
       have f11:=sQ.get (by omega) f10
       obtain⟨tt,htt⟩:=sW k11
       conv=>whnf
       refine ak (aC (T:=bG) ([.i .i64 1,.s t3.s,.b false,.p0,.p o g' 0,.sl0,.sl0,.i .i64 t.l]) rfl (f11) rfl rfl (Nat.le_of_ble_eq_true rfl) rfl) ?_
       conv=>whnf
       refine ng _ (k11.st f11 _) htt ?_
       conv=>whnf
       exact Fin.ref rfl (hQ _ _ _ _ ((oO.trans sQ).set (by omega) _) (k11.st f11 _))
     | ok z bH=>
       have hQ:jM p w g all σ d Q ((aQ [59] bH).bind fun _ ts=>.ok (.st 1 t3.s false .nil z .nil .nil t.l) ts):=by
        have e:((aQ [59] bH).bind fun _ ts=>Re.ok (Sm.st 1 t3.s false .nil z .nil .nil t.l) ts)=((aQ [59] bH).bind fun _ ts=>Re.ok z ts).bind fun x ts=>Re.ok (Sm.st 1 t3.s false .nil x .nil .nil t.l) ts:=by
               cases aQ [59] bH <;> rfl
        rw [e];exact hQ
       intro o g' s11 m11 c11 Vw sQ k11 RZ qj
       have f11:=sQ.get (by omega) f10
       have l11':=sQ.len
       have R_:aS (all.drop m11):=by rw [RZ];exact hg.2.1
       rw [←RZ] at hQ
       conv=>whnf
       refine ak (aC (T:=bG) ([.i .i64 1,.s t3.s,.b false,.p0,.p o g' 0,.sl0,.sl0,.i .i64 t.l]) rfl (f11) rfl rfl (Nat.le_of_ble_eq_true rfl) rfl) ?_
       conv=>whnf
       have k12:=k11.st f11 (bK 1 t3.s false .p0 (.p o g' 0) .sl0 .sl0 t.l)
       have f12:(_:St)[σ1.length]? =_:=at_set f11 (bK 1 t3.s false .p0 (.p o g' 0) .sl0 .sl0 t.l)
       have Si:aI p σ _:=(oO.trans sQ).set (o:=σ1.length) (by omega) (bK 1 t3.s false .p0 (.p o g' 0) .sl0 .sl0 t.l)
       have l12:=aX f12
       conv=>whnf
       obtain⟨t7,r7,jE⟩:=R_.ne
       obtain⟨Oa,Jm⟩:=aV jE
       rw [jE] at hQ
       refine je _ k12 Oa (fun wZ=>?_) (fun wZ=>?_)
       ·rw [aQ,if_pos (show bf [59] (t7 :: r7)=true from wZ)] at hQ
        have hQ:jM p w g all σ d Q (.ok (.st 1 t3.s false .nil z .nil .nil t.l) r7):=hQ
        have k8:=k12.set (m':=m11+1) (d':=d) (b':=false) (c':=c11) (l':=Vw) (aN R_ jE wZ).1 h.dp
        conv=>whnf
        refine Fin.ref rfl (hQ _ _ _ _ _ _ (Si.trans PO.ext) k8 Jm ⟨σ1.length,0,.p0,.p o g' 0,.sl0,.sl0,by omega,rfl,PO.ext.get (by omega) f12,rfl,bJ.mono (fun i hi=>by omega) (fun i hi a ha=>PO.ext.get (by omega) (aK ha (by omega) _)) qj,rfl,rfl⟩)
       ·rw [aQ,if_neg (by rw [show bf [59] (t7 :: r7)=dF [59] t7 from rfl,wZ];decide)] at hQ
        have hQ:jM p w g all σ d Q (.bad 4 t7.l):=hQ
        have k8:=k12.set (m':=m11) (d':=d) (b':=true) (c':=4) (l':=t7.l) k12.at_ h.dp
        conv=>whnf
        exact Fin.ref rfl (hQ _ _ _ _ (Si.trans PO.ext) k8)
    ·have hw9:dF [61] t9=false:=by simpa using hi9
     rw [if_neg (show ¬bf [61] (t9 :: r9)=true by rw [show bf [61] (t9 :: r9)=dF [61] t9 from rfl,hw9];decide),←rG] at hQ
     have hQ:jM p w g all σ d Q ((aQ [59] (all.drop (m+1+1))).bind fun _ ts=>.ok (.st 1 t3.s false .nil .nil .nil .nil t.l) ts):=hQ
     conv=>whnf
     obtain⟨t7,r7,jE⟩:=ED.ne
     obtain⟨Oa,Jm⟩:=aV jE
     rw [jE] at hQ
     refine je _ k8 Oa (fun wZ=>?_) (fun wZ=>?_)
     ·rw [aQ,if_pos (show bf [59] (t7 :: r7)=true from wZ)] at hQ
      have hQ:jM p w g all σ d Q (.ok (.st 1 t3.s false .nil .nil .nil .nil t.l) r7):=hQ
      have k8:=k8.set (m':=(m+1+1)+1) (d':=d) (b':=false) (c':=c0) (l':=l0) (aN ED jE wZ).1 h.dp
      conv=>whnf
      refine Fin.ref rfl (hQ _ _ _ _ _ _ (y8.trans PO.ext) k8 Jm ⟨σ1.length,0,.p0,.p0,.sl0,.sl0,by omega,rfl,PO.ext.get (by omega) f8,rfl,rfl,rfl,rfl⟩)
     ·rw [aQ,if_neg (by rw [show bf [59] (t7 :: r7)=dF [59] t7 from rfl,wZ];decide)] at hQ
      have hQ:jM p w g all σ d Q (.bad 4 t7.l):=hQ
      have k8:=k8.set (m':=(m+1+1)) (d':=d) (b':=true) (c':=4) (l':=t7.l) k8.at_ h.dp
      conv=>whnf
      exact Fin.ref rfl (hQ _ _ _ _ (y8.trans PO.ext) k8)
  ·rw [eP,if_neg hk] at hQ
   have hQ:jM p w g all σ d Q (.bad 4 t3.l):=hQ
   have f5:=y5.get (by omega) f4
   conv=>whnf
   refine ak (aC (T:=fA) ([.i .i64 1,.s [],.b false,.p0,.p0,.sl0,.sl0,.i .i64 t.l]) rfl (f5) rfl rfl (Nat.le_of_ble_eq_true rfl) rfl) ?_
   conv=>whnf
   have k6:=k5.st f5 (bK 1 [] false .p0 .p0 .sl0 .sl0 t.l)
   have f6:(_:St)[σ1.length]? =_:=at_set f5 (bK 1 [] false .p0 .p0 .sl0 .sl0 t.l)
   have y6:aI p σ _:=(y4.trans y5).set (o:=σ1.length) (by omega) (bK 1 [] false .p0 .p0 .sl0 .sl0 t.l)
   conv=>whnf
   refine dn _ k6 ht3 (fun e=>by cases e) (fun _=>?_)
   conv=>whnf
   refine ak (aC (T:=kR) ([.i .i64 1,.s [],.b false,.p0,.p0,.sl0,.sl0,.i .i64 t.l]) rfl (f6) rfl rfl (Nat.le_of_ble_eq_true rfl) rfl) ?_
   conv=>whnf
   have k7:=k6.st f6 (bK 1 [] false .p0 .p0 .sl0 .sl0 t.l)
   have y7:aI p σ _:=y6.set (o:=σ1.length) (by omega) (bK 1 [] false .p0 .p0 .sl0 .sl0 t.l)
   conv=>whnf
   refine dn _ k7 ht3 (fun e=>by cases e) (fun _=>?_)
   conv=>whnf
   refine ng _ k7 ht3 ?_
   conv=>whnf
   exact Fin.ref rfl (hQ _ _ _ _ y7 k7)
 have hw:dF [118,97,114] t=false:=by simpa using hi
 rw [if_neg (show ¬bf U_ (t :: r)=true by rw [show bf U_ (t :: r)=dF [118,97,114] t from rfl,hw];decide)] at hQ
 clear hw hi
 conv=>whnf
 refine dn [105,102] k2 ht (fun _ hi=>?_) (fun hi=>?_)
 ·rw [if_pos (show bf Jo (t :: r)=true from hi)] at hQ
  obtain⟨hm1,he2,hle⟩:=he1 _ hi
  have k3:=k2.set (m':=m+1) (d':=d) (b':=false) (c':=c0) (l':=l0) hm1 h.dp
  have z3:aI p σ2 _:=PO.ext (p:=p) (w:=w) (g:=g) (n:=all.length) (m:=m+1) (d:=d) (b:=false) (c:=c0) (l:=l0) (σ:=σ2)
  have tk3:=z3.get (by omega) tk2
  have l3:=(y2.trans z3).len
  rw [←hr] at hQ
  have hg:=(lW n).branch d t.l (all.drop (m+1)) he2 (by omega)
  conv=>whnf
  refine ak (aj (T:=cu) rfl rfl (ah (tk3)) rfl) ?_
  conv=>whnf
  refine ih.branch d t.l _ (m+1) _ _ _ k3 hd he2 (by omega) ?_
  generalize eG n d t.l (all.drop (m+1))=re at hg hQ
  cases re with
  | out=>exact hg.elim
  | bad c l=>
    intro o g' s5 m5 y5 k5
    conv=>whnf
    exact Fin.ref rfl (hQ _ _ _ _ ((y2.trans z3).trans y5) k5)
  | ok z bH=>
    intro o g' s5 m5 c5 l5 y5 k5 Jp qj
    conv=>whnf
    exact Fin.ref rfl (hQ _ _ _ _ _ _ ((y2.trans z3).trans y5) k5 Jp (kM.mono (fun i hi=>by omega) (fun i hi a ha=>ha) qj))
 have hw:dF [105,102] t=false:=by simpa using hi
 rw [if_neg (show ¬bf Jo (t :: r)=true by rw [show bf Jo (t :: r)=dF [105,102] t from rfl,hw];decide)] at hQ
 clear hw hi
 conv=>whnf
 refine dn [119,104,105,108,101] k2 ht (fun _ hi=>?_) (fun hi=>?_)
 ·rw [if_pos (show bf FP (t :: r)=true from hi)] at hQ
  obtain⟨hm1,he2,hle⟩:=he1 _ hi
  have k3:=k2.set (m':=m+1) (d':=d) (b':=false) (c':=c0) (l':=l0) hm1 h.dp
  have z3:aI p σ2 _:=PO.ext (p:=p) (w:=w) (g:=g) (n:=all.length) (m:=m+1) (d:=d) (b:=false) (c:=c0) (l:=l0) (σ:=σ2)
  have f3:=z3.get (by omega) b2
  conv=>whnf
  refine ak (aC (T:=cu) ([.i .i64 5,.s [],.b false,.p0,.p0,.sl0,.sl0,.i .i64 t.l]) rfl (f3) rfl rfl (Nat.le_of_ble_eq_true rfl) rfl) ?_
  conv=>whnf
  have k4:=k3.st f3 (bK 5 [] false .p0 .p0 .sl0 .sl0 t.l)
  have f4:(_:St)[σ1.length]? =_:=at_set f3 (bK 5 [] false .p0 .p0 .sl0 .sl0 t.l)
  have y4:aI p σ _:=(y2.trans z3).set (o:=σ1.length) (by omega) (bK 5 [] false .p0 .p0 .sl0 .sl0 t.l)
  have l4:=aX f4
  rw [←hr] at hQ
  have hg:=(iU n).expr d 1 (all.drop (m+1)) he2 (by omega)
  conv=>whnf
  refine(J7 hno n).1.expr d 1 _ (m+1) _ _ _ k4 hd (by omega) he2 (by omega) ?_
  generalize dQ n d 1 (all.drop (m+1))=re at hg hQ
  cases re with
  | out=>exact hg.elim
  | bad c l=>
    have hQ:jM p w g all σ d Q (.bad c l):=hQ
    intro o g' s5 m5 y5 k5
    have f5:=y5.get (by omega) f4
    obtain⟨tt,htt⟩:=sW k5
    conv=>whnf
    refine ak (aC (T:=bG) ([.i .i64 5,.s [],.b false,.p0,.p o g' 0,.sl0,.sl0,.i .i64 t.l]) rfl (f5) rfl rfl (Nat.le_of_ble_eq_true rfl) rfl) ?_
    conv=>whnf
    have k6:=k5.st f5 (bK 5 [] false .p0 (.p o g' 0) .sl0 .sl0 t.l)
    have f6:(_:St)[σ1.length]? =_:=at_set f5 (bK 5 [] false .p0 (.p o g' 0) .sl0 .sl0 t.l)
    have y6:aI p σ _:=(y4.trans y5).set (o:=σ1.length) (by omega) (bK 5 [] false .p0 (.p o g' 0) .sl0 .sl0 t.l)
    conv=>whnf
    refine kN k6 htt (by have:=h.dp;omega) fun s7 y7 k7=>?_
    have f7:=y7.get (by omega) f6
    conv=>whnf
    refine ak (aC (T:=dN) ([.i .i64 5,.s [],.b false,.p0,.p o g' 0,.sl0,.sl0,.i .i64 t.l]) rfl (f7) rfl rfl (Nat.le_of_ble_eq_true rfl) rfl) ?_
    conv=>whnf
    exact Fin.ref rfl (hQ _ _ _ _ ((y6.trans y7).set (by omega) _) (k7.st f7 _))
  | ok z bH=>
    have hQ:jM p w g all σ d Q ((dK n d bH).bind fun th ts=>.ok (.st 5 [] false .nil z th .nil t.l) ts):=hQ
    intro o g' s5 m5 c5 l5 y5 k5 Jp qj
    have f5:=y5.get (by omega) f4
    have l5':=y5.len
    rw [←Jp] at hQ hg
    have lg:=hg.2.2
    conv=>whnf
    refine ak (aC (T:=bG) ([.i .i64 5,.s [],.b false,.p0,.p o g' 0,.sl0,.sl0,.i .i64 t.l]) rfl (f5) rfl rfl (Nat.le_of_ble_eq_true rfl) rfl) ?_
    conv=>whnf
    have k6:=k5.st f5 (bK 5 [] false .p0 (.p o g' 0) .sl0 .sl0 t.l)
    have f6:(_:St)[σ1.length]? =_:=at_set f5 (bK 5 [] false .p0 (.p o g' 0) .sl0 .sl0 t.l)
    have y6:aI p σ _:=(y4.trans y5).set (o:=σ1.length) (by omega) (bK 5 [] false .p0 (.p o g' 0) .sl0 .sl0 t.l)
    have l6:(s5.set σ1.length (bK 5 [] false .p0 (.p o g' 0) .sl0 .sl0 t.l)).length=s5.length:=List.length_set
    have hez6:bJ (fun i=>σ1.length<i∧i<s5.length) (s5.set σ1.length (bK 5 [] false .p0 (.p o g' 0) .sl0 .sl0 t.l)) (.p o g' 0) z:=bJ.mono (fun i hi=>⟨by first | omega | (simp only [List.length_set,bg] at *;omega),hi.2⟩) (fun i hi a ha=>aK ha (by first | omega | (simp only [List.length_set,bg] at *;omega)) _) qj.below
    have hgb:=(lW n).block d (all.drop m5) hg.2.1 (by omega)
    conv=>whnf
    refine ih.block d _ m5 _ _ _ k6 hd hg.2.1 (by omega) ?_
    generalize dK n d (all.drop m5)=rb at hgb hQ
    cases rb with
    | out=>exact hgb.elim
    | bad c l=>
      have hQ:jM p w g all σ d Q (.bad c l):=hQ
      intro A s7 m7 y7 k7 hA
      have f7:=y7.get (by omega) f6
      refine jJ _ _ ?_
      conv=>whnf
      refine ak (dL (T:=dN) [.i .i64 5,.s [],.b false,.p0,.p o g' 0,A,.sl0,.i .i64 t.l] hA rfl rfl f7 (Nat.le_of_ble_eq_true rfl) rfl) ?_
      conv=>whnf
      exact Fin.ref rfl (hQ _ _ _ _ ((y6.trans y7).set (by omega) _) (k7.st f7 _))
    | ok th fO=>
      have hQ:jM p w g all σ d Q (.ok (.st 5 [] false .nil z th .nil t.l) fO):=hQ
      intro A s7 m7 c7 l7 y7 k7 hm7 hth hA
      have f7:=y7.get (by omega) f6
      have l7':=y7.len
      refine jJ _ _ ?_
      conv=>whnf
      refine ak (dL (T:=dN) [.i .i64 5,.s [],.b false,.p0,.p o g' 0,A,.sl0,.i .i64 t.l] hA rfl rfl f7 (Nat.le_of_ble_eq_true rfl) rfl) ?_
      conv=>whnf
      refine Fin.ref rfl (hQ _ _ _ _ _ _ ((y6.trans y7).set (by omega) _) (k7.st f7 _) hm7 ⟨σ1.length,0,.p0,.p o g' 0,A,.sl0,by omega,rfl,at_set f7 _,rfl,?_,?_,rfl⟩)
      ·exact bJ.mono (fun i hi=>by omega) (fun i hi a ha=>aK (y7.get (by omega) ha) (by omega) _) hez6
      ·exact dR.mono (fun i hi=>by first | omega | (simp only [List.length_set,bg] at *;omega)) (fun i hi a ha=>aK ha (by first | omega | (simp only [List.length_set,bg] at *;omega)) _) hth
 have hw:dF [119,104,105,108,101] t=false:=by simpa using hi
 rw [if_neg (show ¬bf FP (t :: r)=true by rw [show bf FP (t :: r)=dF [119,104,105,108,101] t from rfl,hw];decide)] at hQ
 clear hw hi
 conv=>whnf
 refine dn [111,117,116] k2 ht (fun _ hi=>?_) (fun hi=>?_)
 ·rw [if_pos (show bf Va (t :: r)=true from hi)] at hQ
  obtain⟨hm1,he2,hle⟩:=he1 _ hi
  have k3:=k2.set (m':=m+1) (d':=d) (b':=false) (c':=c0) (l':=l0) hm1 h.dp
  have z3:aI p σ2 _:=PO.ext (p:=p) (w:=w) (g:=g) (n:=all.length) (m:=m+1) (d:=d) (b:=false) (c:=c0) (l:=l0) (σ:=σ2)
  have f3:=z3.get (by omega) b2
  conv=>whnf
  refine ak (aC (T:=cu) ([.i .i64 6,.s [],.b false,.p0,.p0,.sl0,.sl0,.i .i64 t.l]) rfl (f3) rfl rfl (Nat.le_of_ble_eq_true rfl) rfl) ?_
  conv=>whnf
  have k4:=k3.st f3 (bK 6 [] false .p0 .p0 .sl0 .sl0 t.l)
  have f4:(_:St)[σ1.length]? =_:=at_set f3 (bK 6 [] false .p0 .p0 .sl0 .sl0 t.l)
  have y4:aI p σ _:=(y2.trans z3).set (o:=σ1.length) (by omega) (bK 6 [] false .p0 .p0 .sl0 .sl0 t.l)
  have l4:=aX f4
  rw [←hr] at hQ
  conv=>whnf
  have hg:=(lW n).ended d (all.drop (m+1)) he2 (by omega)
  refine rF hno n d _ (m+1) _ _ _ k4 hd he2 (by omega) ?_
  generalize bW n d (all.drop (m+1))=re at hg hQ
  cases re with
  | out=>exact hg.elim
  | bad c l=>
    have hQ:jM p w g all σ d Q (.bad c l):=hQ
    intro o1 g1 s5 m5 nI zG
    have sZ:=nI.get (by omega) f4
    conv=>whnf
    refine ak (aC (T:=bG) ([.i .i64 6,.s [],.b false,.p0,.p o1 g1 0,.sl0,.sl0,.i .i64 t.l]) rfl (sZ) rfl rfl (Nat.le_of_ble_eq_true rfl) rfl) ?_
    conv=>whnf
    exact Fin.ref rfl (hQ _ _ _ _ ((y4.trans nI).set (by omega) _) (zG.st sZ _))
  | ok z bH=>
    have hQ:jM p w g all σ d Q (.ok (.st 6 [] false .nil z .nil .nil t.l) bH):=hQ
    intro o1 g1 s5 m5 c5 l5 nI zG Jp qj
    have sZ:=nI.get (by omega) f4
    have l5':=nI.len
    conv=>whnf
    refine ak (aC (T:=bG) ([.i .i64 6,.s [],.b false,.p0,.p o1 g1 0,.sl0,.sl0,.i .i64 t.l]) rfl (sZ) rfl rfl (Nat.le_of_ble_eq_true rfl) rfl) ?_
    conv=>whnf
    refine Fin.ref rfl (hQ _ _ _ _ _ _ ((y4.trans nI).set (by omega) _) (zG.st sZ _) Jp ⟨σ1.length,0,.p0,.p o1 g1 0,.sl0,.sl0,by omega,rfl,at_set sZ _,rfl,?_,rfl,rfl⟩)
    exact bJ.mono (fun i hi=>by first | omega | (simp only [List.length_set,bg] at *;omega)) (fun i hi a ha=>aK ha (by first | omega | (simp only [List.length_set,bg] at *;omega)) _) qj
 have hw:dF [111,117,116] t=false:=by simpa using hi
 rw [if_neg (show ¬bf Va (t :: r)=true by rw [show bf Va (t :: r)=dF [111,117,116] t from rfl,hw];decide)] at hQ
 clear hw hi
 conv=>whnf
 refine dn [102,114,101,101] k2 ht (fun _ hi=>?_) (fun hi=>?_)
 ·rw [if_pos (show bf LM (t :: r)=true from hi)] at hQ
  obtain⟨hm1,he2,hle⟩:=he1 _ hi
  have k3:=k2.set (m':=m+1) (d':=d) (b':=false) (c':=c0) (l':=l0) hm1 h.dp
  have z3:aI p σ2 _:=PO.ext (p:=p) (w:=w) (g:=g) (n:=all.length) (m:=m+1) (d:=d) (b:=false) (c:=c0) (l:=l0) (σ:=σ2)
  have f3:=z3.get (by omega) b2
  conv=>whnf
  refine ak (aC (T:=cu) ([.i .i64 7,.s [],.b false,.p0,.p0,.sl0,.sl0,.i .i64 t.l]) rfl (f3) rfl rfl (Nat.le_of_ble_eq_true rfl) rfl) ?_
  conv=>whnf
  have k4:=k3.st f3 (bK 7 [] false .p0 .p0 .sl0 .sl0 t.l)
  have f4:(_:St)[σ1.length]? =_:=at_set f3 (bK 7 [] false .p0 .p0 .sl0 .sl0 t.l)
  have y4:aI p σ _:=(y2.trans z3).set (o:=σ1.length) (by omega) (bK 7 [] false .p0 .p0 .sl0 .sl0 t.l)
  have l4:=aX f4
  rw [←hr] at hQ
  conv=>whnf
  have hg:=(lW n).ended d (all.drop (m+1)) he2 (by omega)
  refine rF hno n d _ (m+1) _ _ _ k4 hd he2 (by omega) ?_
  generalize bW n d (all.drop (m+1))=re at hg hQ
  cases re with
  | out=>exact hg.elim
  | bad c l=>
    have hQ:jM p w g all σ d Q (.bad c l):=hQ
    intro o1 g1 s5 m5 nI zG
    have sZ:=nI.get (by omega) f4
    conv=>whnf
    refine ak (aC (T:=bG) ([.i .i64 7,.s [],.b false,.p0,.p o1 g1 0,.sl0,.sl0,.i .i64 t.l]) rfl (sZ) rfl rfl (Nat.le_of_ble_eq_true rfl) rfl) ?_
    conv=>whnf
    exact Fin.ref rfl (hQ _ _ _ _ ((y4.trans nI).set (by omega) _) (zG.st sZ _))
  | ok z bH=>
    have hQ:jM p w g all σ d Q (.ok (.st 7 [] false .nil z .nil .nil t.l) bH):=hQ
    intro o1 g1 s5 m5 c5 l5 nI zG Jp qj
    have sZ:=nI.get (by omega) f4
    have l5':=nI.len
    conv=>whnf
    refine ak (aC (T:=bG) ([.i .i64 7,.s [],.b false,.p0,.p o1 g1 0,.sl0,.sl0,.i .i64 t.l]) rfl (sZ) rfl rfl (Nat.le_of_ble_eq_true rfl) rfl) ?_
    conv=>whnf
    refine Fin.ref rfl (hQ _ _ _ _ _ _ ((y4.trans nI).set (by omega) _) (zG.st sZ _) Jp ⟨σ1.length,0,.p0,.p o1 g1 0,.sl0,.sl0,by omega,rfl,at_set sZ _,rfl,?_,rfl,rfl⟩)
    exact bJ.mono (fun i hi=>by first | omega | (simp only [List.length_set,bg] at *;omega)) (fun i hi a ha=>aK ha (by first | omega | (simp only [List.length_set,bg] at *;omega)) _) qj
 have hw:dF [102,114,101,101] t=false:=by simpa using hi
 rw [if_neg (show ¬bf LM (t :: r)=true by rw [show bf LM (t :: r)=dF [102,114,101,101] t from rfl,hw];decide)] at hQ
 clear hw hi
 conv=>whnf
 refine dn [100,114,97,105,110] k2 ht (fun _ hi=>?_) (fun hi=>?_)
 ·rw [if_pos (show bf FQ (t :: r)=true from hi)] at hQ
  obtain⟨hm1,he2,hle⟩:=he1 _ hi
  have k3:=k2.set (m':=m+1) (d':=d) (b':=false) (c':=c0) (l':=l0) hm1 h.dp
  have z3:aI p σ2 _:=PO.ext (p:=p) (w:=w) (g:=g) (n:=all.length) (m:=m+1) (d:=d) (b:=false) (c:=c0) (l:=l0) (σ:=σ2)
  have f3:=z3.get (by omega) b2
  conv=>whnf
  refine ak (aC (T:=cu) ([.i .i64 8,.s [],.b false,.p0,.p0,.sl0,.sl0,.i .i64 t.l]) rfl (f3) rfl rfl (Nat.le_of_ble_eq_true rfl) rfl) ?_
  conv=>whnf
  have k4:=k3.st f3 (bK 8 [] false .p0 .p0 .sl0 .sl0 t.l)
  have f4:(_:St)[σ1.length]? =_:=at_set f3 (bK 8 [] false .p0 .p0 .sl0 .sl0 t.l)
  have y4:aI p σ _:=(y2.trans z3).set (o:=σ1.length) (by omega) (bK 8 [] false .p0 .p0 .sl0 .sl0 t.l)
  have l4:=aX f4
  rw [←hr] at hQ
  have hQ:jM p w g all σ d Q ((aQ [59] (all.drop (m+1))).bind fun _ ts=>.ok (.st 8 [] false .nil .nil .nil .nil t.l) ts):=hQ
  conv=>whnf
  obtain⟨t7,r7,jE⟩:=he2.ne
  obtain⟨Oa,Jm⟩:=aV jE
  rw [jE] at hQ
  refine je _ k4 Oa (fun wZ=>?_) (fun wZ=>?_)
  ·rw [aQ,if_pos (show bf [59] (t7 :: r7)=true from wZ)] at hQ
   have hQ:jM p w g all σ d Q (.ok (.st 8 [] false .nil .nil .nil .nil t.l) r7):=hQ
   have k8:=k4.set (m':=(m+1)+1) (d':=d) (b':=false) (c':=c0) (l':=l0) (aN he2 jE wZ).1 h.dp
   conv=>whnf
   refine Fin.ref rfl (hQ _ _ _ _ _ _ (y4.trans PO.ext) k8 Jm ⟨σ1.length,0,.p0,.p0,.sl0,.sl0,by omega,rfl,PO.ext.get (by omega) f4,rfl,rfl,rfl,rfl⟩)
  ·rw [aQ,if_neg (by rw [show bf [59] (t7 :: r7)=dF [59] t7 from rfl,wZ];decide)] at hQ
   have hQ:jM p w g all σ d Q (.bad 4 t7.l):=hQ
   have k8:=k4.set (m':=(m+1)) (d':=d) (b':=true) (c':=4) (l':=t7.l) k4.at_ h.dp
   conv=>whnf
   exact Fin.ref rfl (hQ _ _ _ _ (y4.trans PO.ext) k8)
 have hw:dF [100,114,97,105,110] t=false:=by simpa using hi
 rw [if_neg (show ¬bf FQ (t :: r)=true by rw [show bf FQ (t :: r)=dF [100,114,97,105,110] t from rfl,hw];decide)] at hQ
 clear hw hi
 conv=>whnf
 refine dn [114,101,116,117,114,110] k2 ht (fun _ hi=>?_) (fun hi=>?_)
 ·rw [if_pos (show bf zX (t :: r)=true from hi)] at hQ
  obtain⟨hm1,he2,hle⟩:=he1 _ hi
  have k3:=k2.set (m':=m+1) (d':=d) (b':=false) (c':=c0) (l':=l0) hm1 h.dp
  have z3:aI p σ2 _:=PO.ext (p:=p) (w:=w) (g:=g) (n:=all.length) (m:=m+1) (d:=d) (b:=false) (c:=c0) (l:=l0) (σ:=σ2)
  have f3:=z3.get (by omega) b2
  conv=>whnf
  refine ak (aC (T:=cu) ([.i .i64 9,.s [],.b false,.p0,.p0,.sl0,.sl0,.i .i64 t.l]) rfl (f3) rfl rfl (Nat.le_of_ble_eq_true rfl) rfl) ?_
  conv=>whnf
  have k4:=k3.st f3 (bK 9 [] false .p0 .p0 .sl0 .sl0 t.l)
  have f4:(_:St)[σ1.length]? =_:=at_set f3 (bK 9 [] false .p0 .p0 .sl0 .sl0 t.l)
  have y4:aI p σ _:=(y2.trans z3).set (o:=σ1.length) (by omega) (bK 9 [] false .p0 .p0 .sl0 .sl0 t.l)
  have l4:=aX f4
  rw [←hr] at hQ
  obtain⟨t5,r5,Du⟩:=he2.ne
  obtain⟨Zk,hr5⟩:=aV Du
  rw [Du] at hQ
  conv=>whnf
  refine dn [59] k4 Zk (fun _ hi5=>?_) (fun hi5=>?_)
  ·rw [if_pos (show bf [59] (t5 :: r5)=true from hi5)] at hQ
   have hQ:jM p w g all σ d Q (.ok (.st 9 [] false .nil .nil .nil .nil t.l) r5):=hQ
   have k8:=k4.set (m':=m+1+1) (d':=d) (b':=false) (c':=c0) (l':=l0) (aN he2 Du hi5).1 h.dp
   conv=>whnf
   exact Fin.ref rfl (hQ _ _ _ _ _ _ (y4.trans PO.ext) k8 hr5 ⟨σ1.length,0,.p0,.p0,.sl0,.sl0,by omega,rfl,PO.ext.get (by omega) f4,rfl,rfl,rfl,rfl⟩)
  ·have hw5:dF [59] t5=false:=by simpa using hi5
   rw [if_neg (show ¬bf [59] (t5 :: r5)=true by rw [show bf [59] (t5 :: r5)=dF [59] t5 from rfl,hw5];decide),←Du] at hQ
   conv=>whnf
   have hg:=(lW n).ended d (all.drop (m+1)) he2 (by omega)
   refine rF hno n d _ (m+1) _ _ _ k4 hd he2 (by omega) ?_
   generalize bW n d (all.drop (m+1))=re at hg hQ
   cases re with
   | out=>exact hg.elim
   | bad c l=>
     have hQ:jM p w g all σ d Q (.bad c l):=hQ
     intro o1 g1 s5 m5 nI zG
     have sZ:=nI.get (by omega) f4
     conv=>whnf
     refine ak (aC (T:=bG) ([.i .i64 9,.s [],.b false,.p0,.p o1 g1 0,.sl0,.sl0,.i .i64 t.l]) rfl (sZ) rfl rfl (Nat.le_of_ble_eq_true rfl) rfl) ?_
     conv=>whnf
     exact Fin.ref rfl (hQ _ _ _ _ ((y4.trans nI).set (by omega) _) (zG.st sZ _))
   | ok z bH=>
     have hQ:jM p w g all σ d Q (.ok (.st 9 [] false .nil z .nil .nil t.l) bH):=hQ
     intro o1 g1 s5 m5 c5 l5 nI zG Jp qj
     have sZ:=nI.get (by omega) f4
     have l5':=nI.len
     conv=>whnf
     refine ak (aC (T:=bG) ([.i .i64 9,.s [],.b false,.p0,.p o1 g1 0,.sl0,.sl0,.i .i64 t.l]) rfl (sZ) rfl rfl (Nat.le_of_ble_eq_true rfl) rfl) ?_
     conv=>whnf
     refine Fin.ref rfl (hQ _ _ _ _ _ _ ((y4.trans nI).set (by omega) _) (zG.st sZ _) Jp ⟨σ1.length,0,.p0,.p o1 g1 0,.sl0,.sl0,by omega,rfl,at_set sZ _,rfl,?_,rfl,rfl⟩)
     exact bJ.mono (fun i hi=>by first | omega | (simp only [List.length_set,bg] at *;omega)) (fun i hi a ha=>aK ha (by first | omega | (simp only [List.length_set,bg] at *;omega)) _) qj
 have hw:dF [114,101,116,117,114,110] t=false:=by simpa using hi
 rw [if_neg (show ¬bf zX (t :: r)=true by rw [show bf zX (t :: r)=dF [114,101,116,117,114,110] t from rfl,hw];decide)] at hQ
 clear hw hi
 have hg:=(iU n).post d (all.drop m) he (by omega)
 rw [←hts] at hQ
 conv=>whnf
 refine(J7 hno n).1.post d _ m _ _ _ k2 hd he (by omega) ?_
 generalize jV n d (all.drop m)=re at hg hQ
 cases re with
 | out=>exact hg.elim
 | bad c l=>
   have hQ:jM p w g all σ d Q (.bad c l):=hQ
   intro o g' s3 m3 y3 k3
   conv=>whnf
   refine ak (aj (T:=kR) rfl rfl (ah (k3.obj)) rfl) ?_
   conv=>whnf
   exact Fin.ref rfl (hQ _ _ _ _ (y2.trans y3) k3)
 | ok x bH=>
   intro o g' s3 m3 c3 l3 y3 k3 IY hex
   have hnn:=hg.1
   have he3:aS (all.drop m3):=by rw [IY];exact hg.2.1
   have lg:=hg.2.2
   rw [←IY] at lg
   cases x with
   | nil=>exact hnn.elim
   | ex kx nx Dv Zl lx rx ax Zm=>
     have hex':=hex
     obtain⟨o',gg,Lx,Rx,Ax,hS,hv,zl,_,_,_⟩:=hex'
     cases hv
     have f3:=y3.get (by omega) b2
     have l3':=y3.len
     have lo:=aX zl
     obtain⟨t4,r4,ny⟩:=he3.ne
     obtain⟨FW,hr4⟩:=aV ny
     have hlr4:(all.drop m3).length=r4.length+1:=by rw [ny];rfl
     have hQ:jM p w g all σ d Q (
        if bf [61] bH=true then
         if kx=2 then(bW n d bH.tail).bind fun y ts=>.ok (.st 2 Dv false .nil y .nil .nil t.l) ts
         else if kx=5∨kx=6 then(bW n d bH.tail).bind fun y ts=>.ok (.st 3 [] false (.ex kx nx Dv Zl lx rx ax Zm) y .nil .nil t.l) ts
         else .bad 4 (jT bH)
        else if kx=4 then(aQ [59] bH).bind fun _ ts=>.ok (.st 10 [] false .nil (.ex kx nx Dv Zl lx rx ax Zm) .nil .nil t.l) ts
        else .bad 4 (jT bH)):=hQ
     rw [←IY,ny] at hQ
     conv=>whnf
     refine ak (aj (T:=kR) rfl rfl (ah (k3.obj)) rfl) ?_
     conv=>whnf
     refine ay.to (jg _ k3 FW) ?_
     cases hi4:dF [61] t4 with
     | true=>
       rw [if_pos (show bf [61] (t4 :: r4)=true from hi4)] at hQ
       obtain⟨hm4,he4,hle4⟩:=aN he3 ny hi4
       have hQ:jM p w g all σ d Q (
        if kx=2 then(bW n d r4).bind fun y ts=>.ok (.st 2 Dv false .nil y .nil .nil t.l) ts
        else if kx=5∨kx=6 then(bW n d r4).bind fun y ts=>.ok (.st 3 [] false (.ex kx nx Dv Zl lx rx ax Zm) y .nil .nil t.l) ts
        else .bad 4 t4.l):=hQ
       have k5:=k3.set (m':=m3+1) (d':=d) (b':=false) (c':=c3) (l':=l3) hm4 h.dp
       have z5:=PO.ext (p:=p) (w:=w) (g:=g) (n:=all.length) (m:=m3+1) (d:=d) (b:=false) (c:=c3) (l:=l3) (σ:=s3)
       have f5:=z5.get (by omega) f3
       have o5:=z5.get (by omega) zl
       have y5:aI p σ _:=(y2.trans y3).trans z5
       have hex5:=bJ.mono (S':=fun i=>σ2.length≤i) (σ':=fD p w g all.length s3 (m3+1) d false c3 l3) (fun i hi=>hi) (fun i hi a ha=>z5.get (by omega) ha) hex
       conv=>whnf
       refine ak (aj (T:=cu) rfl rfl (ah (zl)) rfl) ?_
       conv=>whnf
       by_cases h2:kx=2
       ·rw [if_pos h2,←hr4] at hQ
        rw [decide_eq_true (by omega)]
        conv=>whnf
        conv=>whnf
        refine ay.to (jg _ k3 FW) ?_
        rw [hi4]
        conv=>whnf
        refine dn [61] k3 FW (fun _ _=>?_) (fun e=>by rw [hi4] at e;cases e)
        conv=>whnf
        refine ak (aC (T:=cu) ([.i .i64 3,.s [],.b false,.p0,.p0,.sl0,.sl0,.i .i64 t.l]) rfl (f5) rfl rfl (Nat.le_of_ble_eq_true rfl) rfl) ?_
        conv=>whnf
        have k10:=k5.st f5 (bK 3 [] false .p0 .p0 .sl0 .sl0 t.l)
        have f10:(_:St)[σ1.length]? =_:=at_set f5 (bK 3 [] false .p0 .p0 .sl0 .sl0 t.l)
        have oO:aI p σ _:=y5.set (o:=σ1.length) (by omega) (bK 3 [] false .p0 .p0 .sl0 .sl0 t.l)
        have o10:=aK o5 (show σ1.length≠o by omega) (bK 3 [] false .p0 .p0 .sl0 .sl0 t.l)
        refine ak (aC (T:=bG) ([.i .i64 3,.s [],.b false,.p o g' 0,.p0,.sl0,.sl0,.i .i64 t.l]) rfl (f10) rfl rfl (Nat.le_of_ble_eq_true rfl) rfl) ?_
        conv=>whnf
        have k11:=k10.st f10 (bK 3 [] false (.p o g' 0) .p0 .sl0 .sl0 t.l)
        have f11:(_:St)[σ1.length]? =_:=at_set f10 (bK 3 [] false (.p o g' 0) .p0 .sl0 .sl0 t.l)
        have sQ:aI p σ _:=oO.set (o:=σ1.length) (by omega) (bK 3 [] false (.p o g' 0) .p0 .sl0 .sl0 t.l)
        have o11:=aK o10 (show σ1.length≠o by omega) (bK 3 [] false (.p o g' 0) .p0 .sl0 .sl0 t.l)
        refine ak (aj (T:=cu) rfl rfl (ah (o11)) rfl) ?_
        conv=>whnf
        rw [decide_eq_true (by omega)]
        conv=>whnf
        conv=>whnf
        refine ak (aC (T:=cu) ([.i .i64 2,.s [],.b false,.p o g' 0,.p0,.sl0,.sl0,.i .i64 t.l]) rfl (f11) rfl rfl (Nat.le_of_ble_eq_true rfl) rfl) ?_
        conv=>whnf
        have k12:=k11.st f11 (bK 2 [] false (.p o g' 0) .p0 .sl0 .sl0 t.l)
        have f12:(_:St)[σ1.length]? =_:=at_set f11 (bK 2 [] false (.p o g' 0) .p0 .sl0 .sl0 t.l)
        have Si:aI p σ _:=sQ.set (o:=σ1.length) (by omega) (bK 2 [] false (.p o g' 0) .p0 .sl0 .sl0 t.l)
        have o12:=aK o11 (show σ1.length≠o by omega) (bK 2 [] false (.p o g' 0) .p0 .sl0 .sl0 t.l)
        refine ak (aj (T:=fA) rfl rfl (ah (o12)) rfl) ?_
        conv=>whnf
        refine ak (aC (T:=fA) ([.i .i64 2,.s Dv,.b false,.p o g' 0,.p0,.sl0,.sl0,.i .i64 t.l]) rfl (f12) rfl rfl (Nat.le_of_ble_eq_true rfl) rfl) ?_
        conv=>whnf
        have k13:=k12.st f12 (bK 2 Dv false (.p o g' 0) .p0 .sl0 .sl0 t.l)
        have f13:(_:St)[σ1.length]? =_:=at_set f12 (bK 2 Dv false (.p o g' 0) .p0 .sl0 .sl0 t.l)
        have y13:aI p σ _:=Si.set (o:=σ1.length) (by omega) (bK 2 Dv false (.p o g' 0) .p0 .sl0 .sl0 t.l)
        have o13:=aK o12 (show σ1.length≠o by omega) (bK 2 Dv false (.p o g' 0) .p0 .sl0 .sl0 t.l)
        refine ak (aC (T:=bG) ([.i .i64 2,.s Dv,.b false,.p0,.p0,.sl0,.sl0,.i .i64 t.l]) rfl (f13) rfl rfl (Nat.le_of_ble_eq_true rfl) rfl) ?_
        conv=>whnf
        have k14:=k13.st f13 (bK 2 Dv false .p0 .p0 .sl0 .sl0 t.l)
        have f14:(_:St)[σ1.length]? =_:=at_set f13 (bK 2 Dv false .p0 .p0 .sl0 .sl0 t.l)
        have Gs:aI p σ _:=y13.set (o:=σ1.length) (by omega) (bK 2 Dv false .p0 .p0 .sl0 .sl0 t.l)
        have o14:=aK o13 (show σ1.length≠o by omega) (bK 2 Dv false .p0 .p0 .sl0 .sl0 t.l)
        have l15:=aX f14
        have hg:=(lW n).ended d (all.drop (m3+1)) he4 (by omega)
        refine rF hno n d _ (m3+1) _ _ _ k14 hd he4 (by omega) ?_
        generalize bW n d (all.drop (m3+1))=re at hg hQ
        cases re with
        | out=>exact hg.elim
        | bad c l=>
          have hQ:jM p w g all σ d Q (.bad c l):=hQ
          intro o1 g1 s5 m5 nI zG
          have sZ:=nI.get (by omega) f14
          conv=>whnf
          refine ak (aC (T:=bG) ([.i .i64 2,.s Dv,.b false,.p0,.p o1 g1 0,.sl0,.sl0,.i .i64 t.l]) rfl (sZ) rfl rfl (Nat.le_of_ble_eq_true rfl) rfl) ?_
          conv=>whnf
          exact Fin.ref rfl (hQ _ _ _ _ ((Gs.trans nI).set (by omega) _) (zG.st sZ _))
        | ok z bH=>
          have hQ:jM p w g all σ d Q (.ok (.st 2 Dv false .nil z .nil .nil t.l) bH):=hQ
          intro o1 g1 s5 m5 c5 l5 nI zG Jp qj
          have sZ:=nI.get (by omega) f14
          have l5':=nI.len
          conv=>whnf
          refine ak (aC (T:=bG) ([.i .i64 2,.s Dv,.b false,.p0,.p o1 g1 0,.sl0,.sl0,.i .i64 t.l]) rfl (sZ) rfl rfl (Nat.le_of_ble_eq_true rfl) rfl) ?_
          conv=>whnf
          refine Fin.ref rfl (hQ _ _ _ _ _ _ ((Gs.trans nI).set (by omega) _) (zG.st sZ _) Jp ⟨σ1.length,0,.p0,.p o1 g1 0,.sl0,.sl0,by omega,rfl,at_set sZ _,rfl,?_,rfl,rfl⟩)
          exact bJ.mono (fun i hi=>by first | omega | (simp only [List.length_set,bg] at *;omega)) (fun i hi a ha=>aK ha (by first | omega | (simp only [List.length_set,bg] at *;omega)) _) qj
       ·rw [if_neg h2] at hQ
        rw [decide_eq_false (by omega)]
        conv=>whnf
        conv=>whnf
        refine ak (aj (T:=cu) rfl rfl (ah (zl)) rfl) ?_
        conv=>whnf
        by_cases h5:kx=5∨kx=6
        ·rw [if_pos h5,←hr4] at hQ
         by_cases h55:kx=5
         case' pos=>
            rw [decide_eq_true (by omega)]
            conv=>whnf
            conv=>whnf
         case' neg=>
            rw [decide_eq_false (by omega)]
            conv=>whnf
            conv=>whnf
            refine ak (aj (T:=cu) rfl rfl (ah (zl)) rfl) ?_
            conv=>whnf
            rw [decide_eq_true (by omega)]
            conv=>whnf
            conv=>whnf
         all_goals
            refine ay.to (jg _ k3 FW) ?_
            rw [hi4]
            conv=>whnf
            refine dn [61] k3 FW (fun _ _=>?_) (fun e=>by rw [hi4] at e;cases e)
            conv=>whnf
            refine ak (aC (T:=cu) ([.i .i64 3,.s [],.b false,.p0,.p0,.sl0,.sl0,.i .i64 t.l]) rfl (f5) rfl rfl (Nat.le_of_ble_eq_true rfl) rfl) ?_
            conv=>whnf
            have k10:=k5.st f5 (bK 3 [] false .p0 .p0 .sl0 .sl0 t.l)
            have f10:(_:St)[σ1.length]? =_:=at_set f5 (bK 3 [] false .p0 .p0 .sl0 .sl0 t.l)
            have oO:aI p σ _:=y5.set (o:=σ1.length) (by omega) (bK 3 [] false .p0 .p0 .sl0 .sl0 t.l)
            have o10:=aK o5 (show σ1.length≠o by omega) (bK 3 [] false .p0 .p0 .sl0 .sl0 t.l)
            refine ak (aC (T:=bG) ([.i .i64 3,.s [],.b false,.p o g' 0,.p0,.sl0,.sl0,.i .i64 t.l]) rfl (f10) rfl rfl (Nat.le_of_ble_eq_true rfl) rfl) ?_
            conv=>whnf
            have k11:=k10.st f10 (bK 3 [] false (.p o g' 0) .p0 .sl0 .sl0 t.l)
            have f11:(_:St)[σ1.length]? =_:=at_set f10 (bK 3 [] false (.p o g' 0) .p0 .sl0 .sl0 t.l)
            have sQ:aI p σ _:=oO.set (o:=σ1.length) (by omega) (bK 3 [] false (.p o g' 0) .p0 .sl0 .sl0 t.l)
            have o11:=aK o10 (show σ1.length≠o by omega) (bK 3 [] false (.p o g' 0) .p0 .sl0 .sl0 t.l)
            refine ak (aj (T:=cu) rfl rfl (ah (o11)) rfl) ?_
            conv=>whnf
            rw [decide_eq_false (by omega)]
            conv=>whnf
            conv=>whnf
            have l12:=aX f11
            have hg:=(lW n).ended d (all.drop (m3+1)) he4 (by omega)
            refine rF hno n d _ (m3+1) _ _ _ k11 hd he4 (by omega) ?_
            generalize bW n d (all.drop (m3+1))=re at hg hQ
            cases re with
            | out=>exact hg.elim
            | bad c l=>
              have hQ:jM p w g all σ d Q (.bad c l):=hQ
              intro o1 g1 s5 m5 nI zG
              have sZ:=nI.get (by omega) f11
              conv=>whnf
              refine ak (aC (T:=bG) ([.i .i64 3,.s [],.b false,.p o g' 0,.p o1 g1 0,.sl0,.sl0,.i .i64 t.l]) rfl (sZ) rfl rfl (Nat.le_of_ble_eq_true rfl) rfl) ?_
              conv=>whnf
              exact Fin.ref rfl (hQ _ _ _ _ ((sQ.trans nI).set (by omega) _) (zG.st sZ _))
            | ok z bH=>
              have hQ:jM p w g all σ d Q (.ok (.st 3 [] false (.ex kx nx Dv Zl lx rx ax Zm) z .nil .nil t.l) bH):=hQ
              intro o1 g1 s5 m5 c5 l5 nI zG Jp qj
              have sZ:=nI.get (by omega) f11
              have l5':=nI.len
              conv=>whnf
              refine ak (aC (T:=bG) ([.i .i64 3,.s [],.b false,.p o g' 0,.p o1 g1 0,.sl0,.sl0,.i .i64 t.l]) rfl (sZ) rfl rfl (Nat.le_of_ble_eq_true rfl) rfl) ?_
              conv=>whnf
              refine Fin.ref rfl (hQ _ _ _ _ _ _ ((sQ.trans nI).set (by omega) _) (zG.st sZ _) Jp ⟨σ1.length,0,.p o g' 0,.p o1 g1 0,.sl0,.sl0,by omega,rfl,at_set sZ _,bJ.mono (fun i hi=>by omega) (fun i hi a ha=>aK (nI.get (by omega) (aK (aK ha (by omega) _) (by omega) _)) (by omega) _) hex5,?_,rfl,rfl⟩)
              exact bJ.mono (fun i hi=>by first | omega | (simp only [List.length_set,bg] at *;omega)) (fun i hi a ha=>aK ha (by first | omega | (simp only [List.length_set,bg] at *;omega)) _) qj
        ·rw [if_neg h5] at hQ
         have hQ:jM p w g all σ d Q (.bad 4 t4.l):=hQ
         rw [decide_eq_false (by omega)]
         conv=>whnf
         conv=>whnf
         refine ak (aj (T:=cu) rfl rfl (ah (zl)) rfl) ?_
         conv=>whnf
         rw [decide_eq_false (by omega)]
         conv=>whnf
         conv=>whnf
         refine pR 4 k3 FW (fun _=>?_) (fun e=>by cases e)
         have k8:=k3.set (m':=m3) (d':=d) (b':=true) (c':=4) (l':=t4.l) k3.at_ h.dp
         conv=>whnf
         exact Fin.ref rfl (hQ _ _ _ _ ((y2.trans y3).trans PO.ext) k8)
     | false=>
       rw [if_neg (show ¬bf [61] (t4 :: r4)=true by rw [show bf [61] (t4 :: r4)=dF [61] t4 from rfl,hi4];decide)] at hQ
       conv=>whnf
       refine ay.to (jg _ k3 FW) ?_
       rw [hi4]
       conv=>whnf
       refine ak (aj (T:=cu) rfl rfl (ah (zl)) rfl) ?_
       conv=>whnf
       by_cases h4:kx=4
       ·rw [if_pos h4,←ny] at hQ
        have hQ:jM p w g all σ d Q ((aQ [59] (all.drop m3)).bind fun _ ts=>.ok (.st 10 [] false .nil (.ex kx nx Dv Zl lx rx ax Zm) .nil .nil t.l) ts):=hQ
        have y23:=y2.trans y3
        rw [decide_eq_true (by omega)]
        conv=>whnf
        conv=>whnf
        refine dn [61] k3 FW (fun _ e=>by rw [hi4] at e;cases e) (fun _=>?_)
        conv=>whnf
        refine ak (aC (T:=cu) ([.i .i64 10,.s [],.b false,.p0,.p0,.sl0,.sl0,.i .i64 t.l]) rfl (f3) rfl rfl (Nat.le_of_ble_eq_true rfl) rfl) ?_
        conv=>whnf
        have k10:=k3.st f3 (bK 10 [] false .p0 .p0 .sl0 .sl0 t.l)
        have f10:(_:St)[σ1.length]? =_:=at_set f3 (bK 10 [] false .p0 .p0 .sl0 .sl0 t.l)
        have oO:aI p σ _:=y23.set (o:=σ1.length) (by omega) (bK 10 [] false .p0 .p0 .sl0 .sl0 t.l)
        have o10:=aK zl (show σ1.length≠o by omega) (bK 10 [] false .p0 .p0 .sl0 .sl0 t.l)
        refine ak (aC (T:=bG) ([.i .i64 10,.s [],.b false,.p0,.p o g' 0,.sl0,.sl0,.i .i64 t.l]) rfl (f10) rfl rfl (Nat.le_of_ble_eq_true rfl) rfl) ?_
        conv=>whnf
        have k11:=k10.st f10 (bK 10 [] false .p0 (.p o g' 0) .sl0 .sl0 t.l)
        have f11:(_:St)[σ1.length]? =_:=at_set f10 (bK 10 [] false .p0 (.p o g' 0) .sl0 .sl0 t.l)
        have sQ:aI p σ _:=oO.set (o:=σ1.length) (by omega) (bK 10 [] false .p0 (.p o g' 0) .sl0 .sl0 t.l)
        have o11:=aK o10 (show σ1.length≠o by omega) (bK 10 [] false .p0 (.p o g' 0) .sl0 .sl0 t.l)
        have l12:=aX f11
        conv=>whnf
        obtain⟨t7,r7,jE⟩:=he3.ne
        obtain⟨Oa,Jm⟩:=aV jE
        rw [jE] at hQ
        refine je _ k11 Oa (fun wZ=>?_) (fun wZ=>?_)
        ·rw [aQ,if_pos (show bf [59] (t7 :: r7)=true from wZ)] at hQ
         have hQ:jM p w g all σ d Q (.ok (.st 10 [] false .nil (.ex kx nx Dv Zl lx rx ax Zm) .nil .nil t.l) r7):=hQ
         have k8:=k11.set (m':=m3+1) (d':=d) (b':=false) (c':=c3) (l':=l3) (aN he3 jE wZ).1 h.dp
         conv=>whnf
         refine Fin.ref rfl (hQ _ _ _ _ _ _ (sQ.trans PO.ext) k8 Jm ⟨σ1.length,0,.p0,.p o g' 0,.sl0,.sl0,by omega,rfl,PO.ext.get (by omega) f11,rfl,bJ.mono (fun i hi=>by omega) (fun i hi a ha=>PO.ext.get (by omega) (aK (aK ha (by omega) _) (by omega) _)) hex,rfl,rfl⟩)
        ·rw [aQ,if_neg (by rw [show bf [59] (t7 :: r7)=dF [59] t7 from rfl,wZ];decide)] at hQ
         have hQ:jM p w g all σ d Q (.bad 4 t7.l):=hQ
         have k8:=k11.set (m':=m3) (d':=d) (b':=true) (c':=4) (l':=t7.l) k11.at_ h.dp
         conv=>whnf
         exact Fin.ref rfl (hQ _ _ _ _ (sQ.trans PO.ext) k8)
       ·rw [if_neg h4] at hQ
        have hQ:jM p w g all σ d Q (.bad 4 t4.l):=hQ
        rw [decide_eq_false (by omega)]
        conv=>whnf
        conv=>whnf
        refine pR 4 k3 FW (fun _=>?_) (fun e=>by cases e)
        have k8:=k3.set (m':=m3) (d':=d) (b':=true) (c':=4) (l':=t4.l) k3.at_ h.dp
        conv=>whnf
        exact Fin.ref rfl (hQ _ _ _ _ ((y2.trans y3).trans PO.ext) k8)
end
end Go.bP.YthoodopjoaigdaaGreatDoor
