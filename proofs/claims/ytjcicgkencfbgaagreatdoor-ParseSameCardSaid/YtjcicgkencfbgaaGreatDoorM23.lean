/- Texts of this claim, joined: Pk, Pl, Pm, Pn. -/
import Derived.Test.YtjcicgkencfbgaaGreatDoorM22
set_option linter.unusedVariables false
set_option linter.unusedSimpArgs false
namespace Go.bG.YtjcicgkencfbgaaGreatDoor
open Go.Proofs
set_option maxRecDepth 4000
def nC (p w g:Nat)(all:List Tok)(σ:St)(d:Nat)(Q:AV→St→Prop):Re Sm→Prop
 | .ok s ts=>∀o g' σ' m',aI p σ σ'→PW p w g all σ' m' d .p0→all.drop m'= ts→jH (fun i=>σ.length≤i) σ' (.p o g' 0) s→Q (.p o g' 0) σ'
 | .bad c l=>∀o g' σ',aI p σ σ'→PB p σ' d c l→Q (.p o g' 0) σ'
 | .out=>True
section
variable {p w g:Nat} {all:List Tok} {n:Nat}
end
end Go.bG.YtjcicgkencfbgaaGreatDoor
namespace Go.bG.YtjcicgkencfbgaaGreatDoor
open Go.Proofs
set_option maxRecDepth 4000
theorem bU (v:AV)(Q:AV→Prop)(h:Q v):fc v Q:=by
 cases v with
 | b t=>cases t <;> exact h
 | _=>exact lq _ _ h
theorem dP {t o g off e:Nat} {T:AT} {σ:St} {cs:List AV} {A:AV} (cs':List AV)(hA:yT A)(hT:L_.get t=some T)(hz:T.size=1)(ho:σ[o]? =some ⟨g,false,.cells e cs⟩)(hc:off+1≤cs.length)(hs:setCells cs off [A]=cs') :
 jW (L_.get t) (.p o g off) A σ=some (σ.set o ⟨g,false,.cells e cs'⟩):=by
 rcases hA with rfl | ⟨o',g',n,rfl⟩
 ·exact aC cs' hT ho (by rw [hz];rfl) rfl (by rw [hz];exact hc) hs
 ·exact aC cs' hT ho (by rw [hz];rfl) rfl (by rw [hz];exact hc) hs
def bP (k:Nat)(nm:List UInt8)(pt:Bool)(L R T E:AV)(ln:Nat):AO:=⟨0,false,.cells 114 [.i .i64 k,.s nm,.b pt,L,R,T,E,.i .i64 ln]⟩
theorem cO.same {p x:Nat} {σ a b:St} (h:cO p x σ a)(k:aI p a b):cO p x σ b:=h.trans (.of k)
section
variable {p w g:Nat} {all:List Tok} {n:Nat}
theorem PW.st {m d:Nat} {f:AV} {σ:St} (h:PW p w g all σ m d f) {x k ln:Nat} {nm:List UInt8} {pt:Bool} {L R T E:AV} (hx:σ[x]? =some (bP k nm pt L R T E ln))(a:AO):PW p w g all (σ.set x a) m d f:=h.b_ hx (by decide) (by decide) a
theorem PB.st {d c l:Nat} {σ:St} (h:PB p σ d c l) {x k ln:Nat} {nm:List UInt8} {pt:Bool} {L R T E:AV} (hx:σ[x]? =some (bP k nm pt L R T E ln))(a:AO):PB p (σ.set x a) d c l:=h.b_ hx (by decide) (by decide) (by decide) a
end
end Go.bG.YtjcicgkencfbgaaGreatDoor
namespace Go.bG.YtjcicgkencfbgaaGreatDoor
open Go.Proofs
set_option maxRecDepth 4000
def Lh (all:List Tok):Prop:=∀z∈all,(z.k=4→z.s∈keys)∧(z.k=3→z.s∉keys)
section
variable {p w g:Nat} {all:List Tok} {n:Nat}
theorem nC.to {d:Nat} {σ σ1:St} {Q Q':AV→St→Prop} {r:Re Sm} (hQ:nC p w g all σ d Q r)(x1:aI p σ σ1)(k:∀o g' s,Q (.p o g' 0) s→Q' (.p o g' 0) s):nC p w g all σ1 d Q' r:=by
 cases r with
 | out=>trivial
 | bad c l=>exact fun o g' σ2 x2 h2=>k _ _ _ (hQ o g' σ2 (x1.trans x2) h2)
 | ok x ts=>exact fun o g' σ2 m2 x2 h2 hm hex=>k _ _ _ (hQ o g' σ2 m2 (x1.trans x2) h2 hm (jH.mono (fun i hi=>Nat.le_trans x1.len hi) (fun i hi a ha=>ha) hex))
end
end Go.bG.YtjcicgkencfbgaaGreatDoor
namespace Go.bG.YtjcicgkencfbgaaGreatDoor
open Go.Proofs
set_option maxRecDepth 4000
section
variable {p w g:Nat} {all:List Tok} {n:Nat}
def nD (l:List (List UInt8×Bool)):List AV:=l.flatMap fun q=>[.s q.1,.b q.2]
theorem oK:∀l:List (List UInt8×Bool),(nD l).length=l.length*2
 | []=>rfl
 | t :: l=>by have:=oK l;simp only [nD,List.flatMap_cons,List.length_append,List.length_cons,List.length_nil] at this ⊢;rw [this];omega
theorem Ll:∀l:List (List UInt8×Bool),(nD l).all AV.one=true
 | []=>rfl
 | t :: l=>by have:=Ll l;simp only [nD,List.flatMap_cons,List.all_append] at this ⊢;rw [this];rfl
theorem QO (l:List (List UInt8×Bool))(q:List UInt8×Bool):nD (l ++ [q])=nD l ++ [.s q.1,.b q.2]:=by simp [nD,List.flatMap_append]
theorem Lm (l:List (List UInt8×Bool)):((nD l).drop 0).take (l.length*2)=nD l:=by rw [List.drop_zero,List.take_of_length_le (by rw [oK];omega)]
def jA (B:Nat)(σ:St)(v:AV)(l:List (List UInt8×Bool)):Prop:=(l=[]∧v= .sl0)∨∃o g,B≤o∧v= .sl o g 0 l.length 2∧σ[o]? =some ⟨g,false,.cells 97 (nD l)⟩
theorem jA.keep {B B':Nat} {σ σ':St} {v:AV} {l:List (List UInt8×Bool)} (h:jA B σ v l)(hb:B'≤B)(k:∀(i:Nat) (a:AO),B≤i→σ[i]? =some a→σ'[i]? =some a):jA B' σ' v l:=by
 rcases h with h | ⟨o,g,h1,h2,h3⟩
 ·exact .inl h
 ·exact .inr ⟨o,g,by omega,h2,k o _ h1 h3⟩
def slP (v:AV):Prop:=v= .sl0∨∃o g n,v= .sl o g 0 n 2
theorem jA.sl {B:Nat} {σ:St} {v:AV} {l:List (List UInt8×Bool)} (h:jA B σ v l):slP v:=by
 rcases h with ⟨_,rfl⟩ | ⟨o,g,_,rfl,_⟩
 ·exact .inl rfl
 ·exact .inr ⟨_,_,_,rfl⟩
theorem kW {B:Nat} {σ:St} {v:AV} {acc:List (List UInt8×Bool)} (h:jA B σ v acc)(x:List UInt8×Bool)(hl:acc.length≤100000) {C:Nat} (hC:σ[C]? =some ⟨0,false,.cells 97 [.s x.1,.b x.2]⟩)(hB:B≤σ.length) {Q:AV→St→Prop}
 (q:∀o3 g3 k3 σ',jA B σ' (.sl o3 g3 0 k3 2) (acc ++ [x])→(∀i,i<B→σ'[i]? =σ[i]?)→σ.length≤σ'.length→(∀(i:Nat) (a:AO),σ[i]? =some a→(∀(g:Nat) (ro:Bool) (cs:List AV),a≠⟨g,ro,.cells 97 cs⟩)→σ'[i]? =some a)→Q (.sl o3 g3 0 k3 2) σ') :
 DX L_.get false 90 v (.sl C 0 0 1 2) σ Q:=by
 constructor
 refine ak (v:=dZ) rfl ?_
 refine ak (v:=kR) rfl ?_
 refine ak (kG hC (Nat.le_of_ble_eq_true rfl)) ?_
 rcases h with ⟨rfl,rfl⟩ | ⟨o,g,h1,rfl,h3⟩
 ·refine⟨Nat.le_of_ble_eq_true rfl,?_⟩
  refine q _ _ _ _ (.inr ⟨σ.length,0,hB,rfl,?_⟩) (fun i hi=>dn (by omega)) (by rw [aH];omega) (fun i a ha _=>at_new ha _ _)
  rw [aG];rfl
 ·refine ak (qc h3) ?_
  refine⟨rfl,by rw [oK];omega,?_,by rw [Lm];exact Ll acc,?_⟩
  ·show (acc.length+1)*24≤_;omega
  refine q _ _ _ _ (.inr ⟨o,g+1,h1,by simp,?_⟩) (fun i hi=>by rw [List.getElem?_set_ne (by omega)]) (by rw [List.length_set];exact Nat.le_refl _) (fun i a ha ht=>aK ha (fun e=>?_) _)
  ·rw [at_set h3,Lm,QO];rfl
  ·subst e
   exact ht _ _ _ (Option.some.inj (ha.symm.trans h3))
def gJ (nm:List UInt8)(A:AV)(pt:Bool)(Bd:AV)(ln:Nat):AO:=⟨0,false,.cells 93 [.s nm,A,.b pt,Bd,.i .i64 ln]⟩
def zh (ts:List Tok):Re (List UInt8×Bool):=(dU ts).bind fun nm ts=>.ok (nm,aY fB ts) (if aY fB ts=true then ts.tail else ts)
theorem YD {α:Type} (ts:List Tok)(f:List UInt8×Bool→List Tok→Re α):((dU ts).bind fun nm ts=>f (nm,aY fB ts) (if aY fB ts=true then ts.tail else ts))=(zh ts).bind f:=by
 unfold zh
 cases dU ts <;> rfl
end
end Go.bG.YtjcicgkencfbgaaGreatDoor
