/- Texts of this claim, joined: Pa, Pb, Pc, Pd, Pe, Pf, Pg, Ph, Pi, Pj. -/
import Derived.Test.YtjcicgkencfbgaaGreatDoorM21
import Derived.Test.YtjcicgkencfbgaaGreatDoorM20
set_option linter.unusedVariables false
set_option linter.unusedSimpArgs false
namespace Go.bG.YtjcicgkencfbgaaGreatDoor
open Go.Proofs
set_option maxRecDepth 4000
def pK (w g n m d:Nat)(f:AV):List AV:=[.sl w g (3*m) (n - m) 3,.i .i64 d,f]
structure PW (p w g:Nat)(all:List Tok)(σ:St)(m d:Nat)(f:AV):Prop where
 obj:σ[p]? =some ⟨0,false,.cells 83 (pK w g all.length m d f)⟩
 tok:σ[w]? =some ⟨g,false,.cells 38 (dX all)⟩
 ne:w≠p
 len:all.length≤40001
 at_:m<all.length
 dp:d≤1000
def PB (p:Nat)(σ:St)(d c l:Nat):Prop:=∃w g all m fo fg,PW p w g all σ m d (.p fo fg 0)∧fo≠p∧σ[fo]? =some ⟨fg,false,.cells 25 [.i .i64 c,.i .i64 l]⟩
section
variable {p w g m d:Nat} {all:List Tok} {σ σ':St} {f:AV}
theorem PW.keep (h:PW p w g all σ m d f)(h1:σ'[p]? =σ[p]?)(h2:σ'[w]? =σ[w]?):PW p w g all σ' m d f:=⟨h1.trans h.obj,h2.trans h.tok,h.ne,h.len,h.at_,h.dp⟩
theorem PW.new (h:PW p w g all σ m d f)(e:Nat)(cs:List AV):PW p w g all (au e cs σ) m d f:=h.keep (dn (aX h.obj)) (dn (aX h.tok))
theorem PW.b_ (h:PW p w g all σ m d f) {x gx e:Nat} {ro:Bool} {cs:List AV} (hx:σ[x]? =some ⟨gx,ro,.cells e cs⟩)(h1:e≠83)(h2:e≠38)(a:AO):PW p w g all (σ.set x a) m d f:=by
 have n1:x≠p:=fun q=>by subst q;have:=hx.symm.trans h.obj;cases this;exact h1 rfl
 have n2:x≠w:=fun q=>by subst q;have:=hx.symm.trans h.tok;cases this;exact h2 rfl
 exact⟨aK h.obj n1 _,aK h.tok n2 _,h.ne,h.len,h.at_,h.dp⟩
theorem PB.new {c l:Nat} (h:PB p σ d c l)(e:Nat)(cs:List AV):PB p (au e cs σ) d c l:=by
 obtain⟨w,g,all,m,fo,fg,h1,h2,h3⟩:=h
 exact⟨w,g,all,m,fo,fg,h1.new _ _,h2,at_new h3 _ _⟩
theorem PB.b_ {c l:Nat} (h:PB p σ d c l) {x gx e:Nat} {ro:Bool} {cs:List AV} (hx:σ[x]? =some ⟨gx,ro,.cells e cs⟩)(h1:e≠83)(h2:e≠38)(h3:e≠25)(a:AO):PB p (σ.set x a) d c l:=by
 obtain⟨w,g,all,m,fo,fg,q1,q2,q3⟩:=h
 have n3:x≠fo:=fun q=>by subst q;have:=hx.symm.trans q3;cases this;exact h3 rfl
 exact⟨w,g,all,m,fo,fg,q1.b_ hx h1 h2 _,q2,aK q3 n3 _⟩
theorem PW.put (h:PW p w g all σ m d f) {m' d':Nat} (f':AV)(hm:m'< all.length)(hd:d'≤1000):PW p w g all (σ.set p ⟨0,false,.cells 83 (pK w g all.length m' d' f')⟩) m' d' f':=
 ⟨at_set h.obj _,aK h.tok h.ne.symm _,h.ne,h.len,hm,hd⟩
theorem jZ {t:Tok} (h:PW p w g all σ m d f)(ht:all[m]? =some t):ay X 35 [.p p 0 0] σ fun v s=>v= .ag (gI t.k t.s t.l)∧s=σ:=by
 have hm:=h.at_
 have hal:=h.len
 have h1:(au 38 [.i .i64 0,.s [],.i .i64 0] σ)[p]? =_:=at_new h.obj _ _
 have h2:(au 38 [.i .i64 0,.s [],.i .i64 0] σ)[w]? =_:=at_new h.tok _ _
 refine ay.body (F:=F35) aF (lit:=false) rfl rfl (Nat.le_of_ble_eq_true rfl) ?_
 conv=>whnf
 refine ak (aj (T:=oQ) rfl rfl (ah (h1)) rfl) ?_
 conv=>whnf
 refine⟨0,rfl,by omega,?_⟩
 conv=>whnf
 refine ak (bV (T:=fE) rfl rfl (ah h2) (by rw [lQ];show 3*m+0*3+3≤_;omega)) ?_
 rw [show ((dX all).drop (3*m+0*3)).take (fE).size=gI t.k t.s t.l by rw [show 3*m+0*3=m*3 by omega];exact qU all m t ht]
 conv=>whnf
 refine ak (aC (T:=fE) (gI t.k t.s t.l) rfl (aG _ _ _) rfl rfl (Nat.le_of_ble_eq_true rfl) rfl) ?_
 conv=>whnf
 refine ak (bV (T:=fE) rfl rfl (ah (at_set (aG _ _ _) _)) (Nat.le_of_ble_eq_true rfl)) ?_
 conv=>whnf
 exact Fin.flat rfl (((Ext.refl σ).new _ _).set (Nat.le_refl _) _).take ⟨rfl,rfl⟩
theorem PW.ext (h:PW p w g all σ m d f)(x:Ext σ σ'):PW p w g all σ' m d f:=h.keep (x.old _ (aX h.obj)) (x.old _ (aX h.tok))
theorem PB.ext {c l:Nat} (h:PB p σ d c l)(x:Ext σ σ'):PB p σ' d c l:=by
 obtain⟨w,g,all,m,fo,fg,h1,h2,h3⟩:=h
 exact⟨w,g,all,m,fo,fg,h1.ext x,h2,x.get h3⟩
end
end Go.bG.YtjcicgkencfbgaaGreatDoor
namespace Go.bG.YtjcicgkencfbgaaGreatDoor
open Go.Proofs
set_option maxRecDepth 4000
end Go.bG.YtjcicgkencfbgaaGreatDoor
namespace Go.bG.YtjcicgkencfbgaaGreatDoor
open Go.Proofs
set_option maxRecDepth 4000
mutual
theorem lq:∀(v:AV) (Q:AV→Prop),Q v→fq v Q:=by
 intro v Q h
 match v with
 | .u | .b _ | .i _ _ | .s _ | .p0 | .p _ _ _ | .sl0 | .sl _ _ _ _ _ | .fn _ _ _ | .fn0 | .ic _ _ | .gu | .zI | .mp _ _ | .cd _ _=>simpa only [fq] using h
 | .ag cs=>simp only [fq];exact dW cs _ h
 | .tu cs=>simp only [fq];exact dW cs _ h
theorem dW:∀(l:List AV) (Q:List AV→Prop),Q l→J5 l Q:=by
 intro l Q h
 match l with
 | []=>simpa only [J5] using h
 | v :: l=>simp only [J5];exact lq v _ (dW l _ h)
end
section
variable {p w g m d:Nat} {all:List Tok} {σ σ':St} {f:AV}
theorem u_ {σ σ':St} {v:AV} {Q:AV→St→Prop} (q:Q v σ')(q':σ'.take σ.length=σ→Q v σ):Fin σ v σ' Q:=by
 by_cases h:σ'.take σ.length=σ
 ·constructor
  unfold norm
  split
  ·exact q' h
  ·exact q
 ·exact Fin.ne h q
theorem PB.deep {c l:Nat} (h:PB p σ d c l) {d':Nat} (hd:d'≤1000) {Q:St→Prop} (q:∀σ',aI p σ σ'→PB p σ' d' c l→σ'.length=σ.length→Q σ'):∃(w g:Nat) (all:List Tok) (m fo fg:Nat),σ[p]? =some ⟨0,false,.cells 83 (pK w g all.length m d (.p fo fg 0))⟩∧Q (σ.set p ⟨0,false,.cells 83 (pK w g all.length m d' (.p fo fg 0))⟩):=by
 obtain⟨w,g,all,m,fo,fg,h1,h2,h3⟩:=h
 exact⟨w,g,all,m,fo,fg,h1.obj,q _ ((aI.refl p σ).xB _) ⟨w,g,all,m,fo,fg,h1.put _ h1.at_ hd,h2,aK h3 (fun e=>h2 e.symm) _⟩ (by rw [List.length_set])⟩
end
end Go.bG.YtjcicgkencfbgaaGreatDoor
namespace Go.bG.YtjcicgkencfbgaaGreatDoor
open Go.Proofs
set_option maxRecDepth 4000
section
variable {p d c l:Nat} {σ:St}
theorem PB.tok (h:PB p σ d c l):∃t:Tok,ay X 35 [.p p 0 0] σ fun v s=>v= .ag (gI t.k t.s t.l)∧s=σ:=by
 obtain⟨w,g,all,m,fo,fg,h1,h2,h3⟩:=h
 exact⟨_,jZ h1 (List.getElem?_eq_getElem h1.at_)⟩
theorem PB.lt (h:PB p σ d c l):p<σ.length:=by
 obtain⟨w,g,all,m,fo,fg,h1,h2,h3⟩:=h
 exact aX h1.obj
end
end Go.bG.YtjcicgkencfbgaaGreatDoor
namespace Go.bG.YtjcicgkencfbgaaGreatDoor
open Go.Proofs
set_option maxRecDepth 4000
def vP (p w g:Nat)(all:List Tok)(σ:St)(d:Nat)(Q:AV→St→Prop):Re Tr→Prop
 | .ok t ts=>∀o g' σ' m',aI p σ σ'→PW p w g all σ' m' d .p0→all.drop m'= ts→bK (fun i=>σ.length≤i) σ' (.p o g' 0) t→Q (.p o g' 0) σ'
 | .bad c l=>∀o g' σ',aI p σ σ'→PB p σ' d c l→Q (.p o g' 0) σ'
 | .out=>True
theorem vP.to {p w g d:Nat} {all:List Tok} {σ σ1:St} {Q Q':AV→St→Prop} {r:Re Tr} (hQ:vP p w g all σ d Q r)(x1:aI p σ σ1)(k:∀o g' s,Q (.p o g' 0) s→Q' (.p o g' 0) s):vP p w g all σ1 d Q' r:=by
 cases r with
 | out=>trivial
 | bad c l=>exact fun o g' σ2 x2 h2=>k _ _ _ (hQ o g' σ2 (x1.trans x2) h2)
 | ok x ts=>exact fun o g' σ2 m2 x2 h2 hm hex=>k _ _ _ (hQ o g' σ2 m2 (x1.trans x2) h2 hm (bK.mono (fun i hi=>Nat.le_trans x1.len hi) (fun i hi a ha=>ha) hex))
def U8 (k j:Nat)(p w g:Nat)(all:List Tok)(B:Nat)(σ:St)(d:Nat)(Q:Out→Env→St→Prop):Re Tr→Prop
 | .ok t ts=>∀o g' σ' m' e',get e' k= .p o g' 0→get e' 1000000= .u→aI p σ σ'→PW p w g all σ' m' d .p0→all.drop m'= ts→bK (fun i=>B≤i) σ' (.p o g' 0) t→Q (.exit 0) e' σ'
 | .bad c l=>∀o g' σ' e',get e' j= .p o g' 0→get e' 1000000= .u→aI p σ σ'→PB p σ' d c l→Q (.exit 0) e' σ'
 | .out=>True
theorem uf {σ:St} {o:Nat} {a:AO} (h:σ[o]? =some a):σ.set o a=σ:=by
 obtain⟨hl,he⟩:=List.getElem?_eq_some_iff.1 h
 rw [←he];exact List.set_getElem_self hl
theorem pJ.toP {p B:Nat} {σ σ':St} (h:pJ p B σ σ')(hB:B=σ.length):aI p σ σ':=⟨h.len,fun i hi hp=>h.old i (by omega) hp⟩
theorem pJ.at_ {p B i:Nat} {σ σ':St} {a:AO} (h:pJ p B σ σ')(hi:i<B)(hp:i≠p)(ha:σ[i]? =some a):σ'[i]? =some a:=(h.old i hi hp).trans ha
structure cO (p x:Nat)(σ σ':St):Prop where
 len:σ.length≤σ'.length
 old:∀i,i<σ.length→i≠p→i≠x→σ'[i]? =σ[i]?
theorem cO.of {p x:Nat} {a b:St} (h:aI p a b):cO p x a b:=⟨h.len,fun i hi hp _=>h.old i hi hp⟩
theorem cO.trans {p x:Nat} {a b c:St} (h:cO p x a b)(k:cO p x b c):cO p x a c:=⟨Nat.le_trans h.len k.len,fun i hi hp hx=>by rw [k.old i (Nat.lt_of_lt_of_le hi h.len) hp hx,h.old i hi hp hx]⟩
theorem cO.b_ (p x:Nat)(a:St)(o:AO):cO p x a (a.set x o):=⟨by rw [List.length_set];exact Nat.le_refl _,fun i _ _ hx=>by rw [List.getElem?_set_ne (fun e=>hx e.symm)]⟩
theorem cO.get {p x:Nat} {σ σ':St} (h:cO p x σ σ') {o:Nat} {a:AO} (hp:o≠p)(hx:o≠x)(ho:σ[o]? =some a):σ'[o]? =some a:=by rw [h.old o (aX ho) hp hx];exact ho
section
variable {p w g:Nat} {all:List Tok} {n:Nat}
end
end Go.bG.YtjcicgkencfbgaaGreatDoor
namespace Go.bG.YtjcicgkencfbgaaGreatDoor
open Go.Proofs
set_option maxRecDepth 4000
section
variable {p w g:Nat} {all:List Tok} {n:Nat}
def Ew (all:List Tok):Prop:=∀z∈all,z.k=2→z.s≠[]
end
end Go.bG.YtjcicgkencfbgaaGreatDoor
namespace Go.bG.YtjcicgkencfbgaaGreatDoor
open Go.Proofs
set_option maxRecDepth 4000
structure cZ (p x B:Nat)(σ σ':St):Prop where
 len:σ.length≤σ'.length
 old:∀i,i<B→i≠p→i≠x→σ'[i]? =σ[i]?
theorem cZ.refl (p x B:Nat)(σ:St):cZ p x B σ σ:=⟨Nat.le_refl _,fun _ _ _ _=>rfl⟩
theorem cZ.trans {p x B:Nat} {a b c:St} (h:cZ p x B a b)(k:cZ p x B b c):cZ p x B a c:=⟨Nat.le_trans h.len k.len,fun i hi hp hx=>by rw [k.old i hi hp hx,h.old i hi hp hx]⟩
theorem cZ.of {p x B:Nat} {a b:St} (h:aI p a b)(hB:B≤a.length):cZ p x B a b:=⟨h.len,fun i hi hp _=>h.old i (by omega) hp⟩
theorem cZ.get {p x B o:Nat} {σ σ':St} {a:AO} (h:cZ p x B σ σ')(hb:o<B)(hp:o≠p)(hx:o≠x)(ho:σ[o]? =some a):σ'[o]? =some a:=by rw [h.old o hb hp hx];exact ho
theorem kV.keep {B:Nat} {σ σ':St} {v:AV} {xs:List Tr} (h:kV B σ v xs)(k:∀(i:Nat) (a:AO),B≤i→σ[i]? =some a→σ'[i]? =some a):kV B σ' v xs:=by
 obtain⟨cs,h1,h2⟩:=h
 refine⟨cs,?_,h2.mono (fun i hi=>hi) (fun i hi a ha=>k i a hi.1 ha)⟩
 rcases h1 with h | ⟨o,g,q1,q2,q3,q4⟩
 ·exact .inl h
 ·exact .inr ⟨o,g,q1,q2,k o _ q1 q3,q4⟩
section
variable {p w g:Nat} {all:List Tok} {n:Nat}
end
end Go.bG.YtjcicgkencfbgaaGreatDoor
namespace Go.bG.YtjcicgkencfbgaaGreatDoor
open Go.Proofs
set_option maxRecDepth 4000
section
variable {p w g:Nat} {all:List Tok} {n:Nat}
end
end Go.bG.YtjcicgkencfbgaaGreatDoor
namespace Go.bG.YtjcicgkencfbgaaGreatDoor
open Go.Proofs
set_option maxRecDepth 4000
section
variable {p w g:Nat} {all:List Tok} {n:Nat}
theorem U8.ext {k j B d:Nat} {σ σ1:St} {Q:Out→Env→St→Prop} {r:Re Tr} (hQ:U8 k j p w g all B σ d Q r)(x:aI p σ σ1):U8 k j p w g all B σ1 d Q r:=by
 cases r with
 | out=>trivial
 | bad c l=>exact fun o g' σ2 e' q1 q2 x2 h2=>hQ o g' σ2 e' q1 q2 (x.trans x2) h2
 | ok y ts=>exact fun o g' σ2 m2 e' q1 q2 x2 h2=>hQ o g' σ2 m2 e' q1 q2 (x.trans x2) h2
theorem vP.U1 {k d:Nat} {σ σ1:St} {Q:AV→St→Prop} {Q':Out→Env→St→Prop} {r:Re Tr} (hQ:vP p w g all σ d Q r)(x1:aI p σ σ1)(q:∀o g' s e',get e' k= .p o g' 0→get e' 1000000= .u→Q (.p o g' 0) s→Q' (.exit 0) e' s):U8 k k p w g all σ.length σ1 d Q' r:=by
 cases r with
 | out=>trivial
 | bad c l=>exact fun o g' σ2 e' q1 q2 x2 h2=>q o g' σ2 e' q1 q2 (hQ o g' σ2 (x1.trans x2) h2)
 | ok y ts=>exact fun o g' σ2 m2 e' q1 q2 x2 h2 hm hex=>q o g' σ2 e' q1 q2 (hQ o g' σ2 m2 (x1.trans x2) h2 hm hex)
end
end Go.bG.YtjcicgkencfbgaaGreatDoor
namespace Go.bG.YtjcicgkencfbgaaGreatDoor
open Go.Proofs
set_option maxRecDepth 4000
mutual
def jH (S:Nat→Prop)(σ:St)(v:AV):Sm→Prop
 | .st k name ptr l r th el line=>∃(o g:Nat) (L R T E:AV),S o∧v= .p o g 0∧σ[o]? =some ⟨g,false,.cells 114 [.i .i64 k,.s name,.b ptr,L,R,T,E,.i .i64 line]⟩∧bK S σ L l∧bK S σ R r∧dN S σ T th∧dN S σ E el
def dN (S:Nat→Prop)(σ:St)(v:AV):oO→Prop
 | .nil=>v= .sl0
 | .cons s r=>∃(o g:Nat) (cs:List AV),S o∧v= .sl o g 0 cs.length 1∧σ[o]? =some ⟨g,false,.cells 102 cs⟩∧∃a tl,cs=a :: tl∧jH S σ a s∧Ld S σ tl r
def Ld (S:Nat→Prop)(σ:St)(cs:List AV):oO→Prop
 | .nil=>cs=[]
 | .cons s r=>∃a tl,cs=a :: tl∧jH S σ a s∧Ld S σ tl r
end
mutual
theorem jH.mono {S S':Nat→Prop} {σ σ':St} (h1:∀o,S o→S' o)(h2:∀o,S o→∀a,σ[o]? =some a→σ'[o]? =some a):∀{t:Sm} {v:AV},jH S σ v t→jH S' σ' v t
 | .st k name ptr l r th el line,v,h=>by
   obtain⟨o,g,L,R,T,E,hs,hv,ho,hl,hr,ht,he⟩:=h
   exact⟨o,g,L,R,T,E,h1 o hs,hv,h2 o hs _ ho,bK.mono h1 h2 hl,bK.mono h1 h2 hr,dN.mono h1 h2 ht,dN.mono h1 h2 he⟩
theorem dN.mono {S S':Nat→Prop} {σ σ':St} (h1:∀o,S o→S' o)(h2:∀o,S o→∀a,σ[o]? =some a→σ'[o]? =some a):∀{t:oO} {v:AV},dN S σ v t→dN S' σ' v t
 | .nil,v,h=>h
 | .cons t r,v,h=>by
   obtain⟨o,g,cs,hs,hv,ho,a,tl,hc,hx,hl⟩:=h
   exact⟨o,g,cs,h1 o hs,hv,h2 o hs _ ho,a,tl,hc,jH.mono h1 h2 hx,Ld.mono h1 h2 hl⟩
theorem Ld.mono {S S':Nat→Prop} {σ σ':St} (h1:∀o,S o→S' o)(h2:∀o,S o→∀a,σ[o]? =some a→σ'[o]? =some a):∀{t:oO} {cs:List AV},Ld S σ cs t→Ld S' σ' cs t
 | .nil,cs,h=>h
 | .cons t r,cs,h=>by
   obtain⟨a,tl,hc,h3,h4⟩:=h
   exact⟨a,tl,hc,jH.mono h1 h2 h3,Ld.mono h1 h2 h4⟩
end
mutual
theorem jH.below {S:Nat→Prop} {σ:St} :∀{t:Sm} {v:AV},jH S σ v t→jH (fun o=>S o∧o<σ.length) σ v t
 | .st k name ptr l r th el line,v,h=>by
   obtain⟨o,g,L,R,T,E,hs,hv,ho,hl,hr,ht,he⟩:=h
   exact⟨o,g,L,R,T,E,⟨hs,aX ho⟩,hv,ho,bK.below hl,bK.below hr,dN.below ht,dN.below he⟩
theorem dN.below {S:Nat→Prop} {σ:St} :∀{t:oO} {v:AV},dN S σ v t→dN (fun o=>S o∧o<σ.length) σ v t
 | .nil,v,h=>h
 | .cons t r,v,h=>by
   obtain⟨o,g,cs,hs,hv,ho,a,tl,hc,hx,hl⟩:=h
   exact⟨o,g,cs,⟨hs,aX ho⟩,hv,ho,a,tl,hc,jH.below hx,Ld.below hl⟩
theorem Ld.below {S:Nat→Prop} {σ:St} :∀{t:oO} {cs:List AV},Ld S σ cs t→Ld (fun o=>S o∧o<σ.length) σ cs t
 | .nil,cs,h=>h
 | .cons t r,cs,h=>by
   obtain⟨a,tl,hc,h3,h4⟩:=h
   exact⟨a,tl,hc,jH.below h3,Ld.below h4⟩
end
def QK (B:Nat)(σ:St)(v:AV)(cs:List AV):Prop:=(cs=[]∧v= .sl0)∨∃o g,B≤o∧v= .sl o g 0 cs.length 1∧σ[o]? =some ⟨g,false,.cells 102 cs⟩∧cs≠[]
theorem Vb {B:Nat} {σ:St} {v:AV} {cs:List AV} (h:QK B σ v cs) {oy gy:Nat} (hcs:cs.all AV.one=true)(hl:cs.length≤100000) {C:Nat} (hC:σ[C]? =some ⟨0,false,.cells 102 [.p oy gy 0]⟩)(hB:B≤σ.length) {Q:AV→St→Prop}
 (q:∀v' σ',QK B σ' v' (cs ++ [.p oy gy 0])→σ.length≤σ'.length→(∀i,i<σ.length→apart v i→σ'[i]? =σ[i]?∧apart v' i)→(∀i,i<B→σ'[i]? =σ[i]?)→(∀i,σ'.length≤i→apart v' i)→Q v' σ') :
 DX L_.get false 91 v (.sl C 0 0 1 1) σ Q:=by
 constructor
 refine ak (v:=dM) rfl ?_
 refine ak (v:=bZ) rfl ?_
 refine ak (kG hC (Nat.le_of_ble_eq_true rfl)) ?_
 rcases h with ⟨rfl,rfl⟩ | ⟨o,g,h1,rfl,h3,_⟩
 ·refine⟨Nat.le_of_ble_eq_true rfl,?_⟩
  refine q _ _ (.inr ⟨σ.length,0,hB,rfl,?_,by simp⟩) (by rw [aH];omega) (fun i hi _=>⟨dn hi,fun o g n z e=>by cases e;omega⟩) (fun i hi=>dn (by omega)) (fun i hi o g n z e=>by cases e;rw [aH] at hi;omega)
  rw [aG];rfl
 ·refine ak (qc h3) ?_
  refine⟨rfl,by simp,?_,by rw [List.drop_zero,List.take_of_length_le (by omega)];exact hcs,?_⟩
  ·show (cs.length+1)*8≤_;omega
  refine q _ _ (.inr ⟨o,g+1,h1,by simp,?_,by simp⟩) (by rw [List.length_set];exact Nat.le_refl _) (fun i hi ha=>⟨by rw [List.getElem?_set_ne (fun e=>ha o g _ _ rfl e.symm)],fun o' g' n z e=>by cases e;exact ha o g _ _ rfl⟩) (fun i hi=>by rw [List.getElem?_set_ne (by omega)]) (fun i hi o' g' n z e=>by cases e;rw [List.length_set] at hi;have:=aX h3;omega)
  rw [at_set h3]
  simp [List.take_of_length_le]
  rfl
def iY (S:Nat→Prop)(σ:St):List AV→List Sm→Prop
 | [],[]=>True
 | a :: cs,x :: xs=>(∃o g,a= .p o g 0)∧jH S σ a x∧iY S σ cs xs
 | _,_=>False
theorem iY.mono {S S':Nat→Prop} {σ σ':St} (h1:∀o,S o→S' o)(h2:∀o,S o→∀a,σ[o]? =some a→σ'[o]? =some a):∀{cs:List AV} {xs:List Sm},iY S σ cs xs→iY S' σ' cs xs
 | [],[],_=>trivial
 | a :: cs,x :: xs,h=>⟨h.1,jH.mono h1 h2 h.2.1,iY.mono h1 h2 h.2.2⟩
theorem iY.snoc {S:Nat→Prop} {σ:St} :∀{cs:List AV} {xs:List Sm} {a:AV} {x:Sm},iY S σ cs xs→(∃o g,a= .p o g 0)→jH S σ a x→iY S σ (cs ++ [a]) (xs ++ [x])
 | [],[],a,x,_,ha,hx=>⟨ha,hx,trivial⟩
 | b :: cs,y :: xs,a,x,h,ha,hx=>⟨h.1,h.2.1,iY.snoc h.2.2 ha hx⟩
theorem iY.len {S:Nat→Prop} {σ:St} :∀{cs:List AV} {xs:List Sm},iY S σ cs xs→cs.length=xs.length
 | [],[],_=>rfl
 | a :: cs,x :: xs,h=>by have:=iY.len h.2.2;simp [this]
theorem iY.one {S:Nat→Prop} {σ:St} :∀{cs:List AV} {xs:List Sm},iY S σ cs xs→cs.all AV.one=true
 | [],[],_=>rfl
 | a :: cs,x :: xs,h=>by
   obtain⟨o,g,rfl⟩:=h.1
   rw [List.all_cons,iY.one h.2.2];rfl
def Le:List Sm→oO
 | []=>.nil
 | x :: xs=>.cons x (Le xs)
def yV:oO→List Sm
 | .nil=>[]
 | .cons x xs=>x :: yV xs
theorem NH:∀xs:oO,Le (yV xs)=xs
 | .nil=>rfl
 | .cons x xs=>by show oO.cons x (Le (yV xs))=_;rw [NH xs]
theorem iY.lS {S:Nat→Prop} {σ:St} :∀{cs:List AV} {xs:List Sm},iY S σ cs xs→Ld S σ cs (Le xs)
 | [],[],_=>rfl
 | a :: cs,x :: xs,h=>⟨a,cs,rfl,h.2.1,iY.lS h.2.2⟩
def BQ (B:Nat)(σ:St)(v:AV)(xs:List Sm):Prop:=∃cs,QK B σ v cs∧iY (fun i=>B≤i∧apart v i) σ cs xs
theorem BQ.arg {B:Nat} {σ:St} {v:AV} {xs:List Sm} (h:BQ B σ v xs):dN (fun i=>B≤i) σ v (Le xs):=by
 obtain⟨cs,h1,h2'⟩:=h
 have h2:iY (fun i=>B≤i) σ cs xs:=h2'.mono (fun i hi=>hi.1) (fun i hi a ha=>ha)
 rcases h1 with ⟨rfl,rfl⟩ | ⟨o,g,q1,rfl,q3,q4⟩
 ·cases xs with
  | nil=>rfl
  | cons _ _=>exact h2.elim
 ·cases cs with
  | nil=>
    cases xs with
    | nil=>exact(q4 rfl).elim
    | cons _ _=>exact h2.elim
  | cons a cs=>
    cases xs with
    | nil=>exact h2.elim
    | cons x xs=>exact⟨o,g,a :: cs,q1,rfl,q3,a,cs,rfl,h2.2.1,h2.2.2.lS⟩
theorem QK.sl {B:Nat} {σ:St} {v:AV} {cs:List AV} (h:QK B σ v cs):yT v:=by
 rcases h with ⟨_,rfl⟩ | ⟨o,g,_,rfl,_⟩
 ·exact .inl rfl
 ·exact .inr ⟨_,_,_,rfl⟩
theorem iY.below {S:Nat→Prop} {σ:St} :∀{cs:List AV} {xs:List Sm},iY S σ cs xs→iY (fun o=>S o∧o<σ.length) σ cs xs
 | [],[],_=>trivial
 | a :: cs,x :: xs,h=>⟨h.1,h.2.1.below,h.2.2.below⟩
theorem yX {p B D:Nat} {xG σ2:St} {A:AV} {acc:List Sm} (ha:BQ B xG A acc)(x2:aI p xG σ2)(hp:p<B)(hB:B≤xG.length)(hD:D≤σ2.length)(hD0:xG.length≤D)(hl:acc.length≤90000)(oy gy:Nat) {Q:AV→St→Prop}
 (q:∀o3 g3 k σ3,(∀i,i<B→σ3[i]? =σ2[i]?)→σ2.length≤σ3.length→(∀(i:Nat) (a:AO),σ2[i]? =some a→(∀(g:Nat) (ro:Bool) (cs:List AV),a≠⟨g,ro,.cells 102 cs⟩)→σ3[i]? =some a)→(∀y,jH (fun i=>D≤i) σ2 (.p oy gy 0) y→BQ B σ3 (.sl o3 g3 0 k 1) (acc ++ [y]))→Q (.sl o3 g3 0 k 1) σ3) :
 DX L_.get false 91 A (.sl σ2.length 0 0 1 1) (au 102 [.p oy gy 0] σ2) Q:=by
 obtain⟨cs,hraw,hea⟩:=ha
 have hcl:=hea.len
 have hco:=hea.one
 have lx:=x2.len
 have La:QK B (au 102 [.p oy gy 0] σ2) A cs:=by
  rcases hraw with h | ⟨o,g,q1,q2,q3,q4⟩
  ·exact .inl h
  ·exact .inr ⟨o,g,q1,q2,at_new (x2.get (by omega) q3) _ _,q4⟩
 have hlt:∀o g n z,A= .sl o g 0 n z→o<xG.length:=by
  intro o g n z e
  rcases hraw with ⟨_,h⟩ | ⟨o',g',q1,q2,q3,q4⟩
  ·rw [h] at e;cases e
  ·rw [q2] at e;cases e;exact aX q3
 refine Vb (B:=B) (cs:=cs) La hco (by omega) (aG _ _ _) (by rw [aH];omega) fun v' σ3 hr3 hl3 ho3 hb3 U3=>?_
 rw [aH] at hl3
 obtain⟨o3,g3,p1,rfl,p3,p4⟩:=hr3.resolve_left (by simp)
 refine q _ _ _ σ3 (fun i hi=>by rw [hb3 i hi,dn (by omega)]) (by omega) (fun i a hi ht=>?_) (fun y tY=>?_)
 ·rw [(ho3 i (by rw [aH];have:=aX hi;omega) ?_).1]
  ·exact at_new hi _ _
  ·intro o g n z e
   rcases hraw with ⟨_,h⟩ | ⟨o',g',q1,q2,q3,q4⟩
   ·rw [h] at e;cases e
   ·rw [q2] at e
    cases e
    intro e
    subst e
    have:=(x2.get (by omega) q3).symm.trans hi
    exact ht _ _ _ (Option.some.inj this).symm
 refine⟨_,hr3,iY.snoc (iY.mono (fun i hi=>⟨hi.1.1,(ho3 i (by rw [aH];omega) hi.1.2).2⟩) (fun i hi a ha=>by rw [(ho3 i (by rw [aH];omega) hi.1.2).1,dn (by omega),x2.old i hi.2 (by omega)];exact ha) hea.below) ⟨_,_,rfl⟩ ?_⟩
 have hap:∀i,D≤i→apart A i:=fun i hi o g n z e=>by have:=hlt o g n z e;omega
 exact jH.mono (fun i hi=>⟨by omega,(ho3 i (by rw [aH];omega) (hap i hi.1)).2⟩) (fun i hi a ha=>by rw [(ho3 i (by rw [aH];omega) (hap i hi.1)).1];exact at_new ha _ _) tY.below
theorem BQ.keep {B:Nat} {σ σ':St} {v:AV} {xs:List Sm} (h:BQ B σ v xs)(k:∀(i:Nat) (a:AO),B≤i→σ[i]? =some a→σ'[i]? =some a):BQ B σ' v xs:=by
 obtain⟨cs,h1,h2⟩:=h
 refine⟨cs,?_,h2.mono (fun i hi=>hi) (fun i hi a ha=>k i a hi.1 ha)⟩
 rcases h1 with h | ⟨o,g,q1,q2,q3,q4⟩
 ·exact .inl h
 ·exact .inr ⟨o,g,q1,q2,k o _ q1 q3,q4⟩
end Go.bG.YtjcicgkencfbgaaGreatDoor
