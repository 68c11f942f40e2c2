/- Texts of this claim, joined: Po, Pp, Tk, Pq, Pr. -/
import Derived.Test.YtlkfbfhkcaldlaaGreatDoorM24
import Derived.Test.YtlkfbfhkcaldlaaGreatDoorM21
set_option linter.unusedVariables false
set_option linter.unusedSimpArgs false
namespace Go.Abs.YtlkfbfhkcaldlaaGreatDoor
open Go.Proofs
set_option maxRecDepth 4000
section
variable {p w g:Nat} {all:List Tok} {n:Nat}
def PAq (p w g:Nat)(all:List Tok)(B xo b4:Nat)(nm:List UInt8)(ln:Nat)(σ:St)(d:Nat)(acc:List (List UInt8×Bool))(Q:Out→Env→St→Prop):Re (List (List UInt8×Bool))→Prop
 | .ok xs ts=>∀A' σ' m' e',get e' 0= .p b4 0 0→dO p xo B σ σ'→PW p w g all σ' m' d .p0→all.drop m'= ts→σ'[xo]? =some (AA nm A' false .sl0 ln)→lG B σ' A' (acc ++ xs)→Q (.exit 0) e' σ'
 | .bad c l=>∀A' σ' e',get e' 0= .p b4 0 0→dO p xo B σ σ'→PB p σ' d c l→σ'[xo]? =some (AA nm A' false .sl0 ln)→slP A'→Q (.exit 0) e' σ'
 | .out=>True
def Jh (p w g:Nat)(all:List Tok)(n:Nat):Prop:=∀(d B xo bx b1 b4 b5:Nat) (nm:List UInt8) (ln:Nat),(p<B∧w<B∧xo<B∧bx<B∧b1<B)→(b4<B∧b5<B)→(xo≠p∧bx≠p∧b1≠p∧bx≠xo∧b1≠xo)→(b4≠p∧b5≠p∧b4≠xo∧b5≠xo)→
 ∀ (acc:List (List UInt8×Bool)) (A:AV) (σ:St) (m:Nat) (Q:Out→Env→St→Prop),PW p w g all σ m d .p0→B≤σ.length→σ[bx]? =some ⟨0,false,.cells 64 [.p xo 0 0]⟩→σ[b1]? =some ⟨0,false,.cells 85 [.p p 0 0]⟩→σ[b4]? =some ⟨0,false,.cells 85 [.p p 0 0]⟩→σ[b5]? =some ⟨0,false,.cells 1 [.fn (.func 58) [] [.p b1 0 0,.p bx 0 0]]⟩→σ[xo]? =some (AA nm A false .sl0 ln)→lG B σ A acc→
   aZ (all.drop m)→(all.drop m).length+1≤n→acc.length+(all.drop m).length≤40001→PAq p w g all B xo b4 nm ln σ d acc Q (cZ n acc.isEmpty (all.drop m))→aV X [0,1,2] Bz [(0,.p b4 0 0),(1,.p b5 0 0),(2,.b acc.isEmpty)] σ Q
theorem Oo (n:Nat)(f:Bool)(ts:List Tok):cZ (n+1) f ts=if aY [41] ts=true then .ok [] ts else(if f=true then Re.ok () ts else aQ [44] ts).bind fun _ ts=>(Jg ts).bind fun q ts=>(cZ n false ts).bind fun l ts=>.ok (q :: l) ts:=by
 rw [cZ]
 simp only [←Zf]
theorem pars_p (Xm:Jh p w g all n):Jh p w g all (n+1):=by
 intro d B xo bx b1 b4 b5 nm ln hlt hlt4 hne oK acc A σ m Q h hB hbx hb1 hb4 hb5 hx ha he hn hs hQ
 obtain⟨t,r,hts⟩:=he.ne
 obtain⟨ht,hr⟩:=b_ hts
 rw [Oo,hts] at hQ
 have key:∀(σ1:St) (m1:Nat) (Q2:AV→St→Prop),dO p xo B σ σ1→PW p w g all σ1 m1 d .p0→m≤m1→aZ (all.drop m1)→σ1[xo]? =some (AA nm A false .sl0 ln)→lG B σ1 A acc→(PAq p w g all B xo b4 nm ln σ d acc Q ((Jg (all.drop m1)).bind fun x ts=>(cZ n false ts).bind fun xs ts=>.ok (x :: xs) ts))→
  (∀s,aV X [0,1,2] Bz [(0,.p b4 0 0),(1,.p b5 0 0),(2,.b false)] s Q→Q2 (.tu []) s)→au X 58 [.p b1 0 0,.p bx 0 0] σ1 Q2:=by
  intro σ1 m1 Q2 x1 h1 hm1 he1 hx1 ha1 hq hk
  have hlen:(all.drop m1).length≤(all.drop m).length:=by rw [pF,pF];omega
  have hg:=gd_par he1
  have lx1:=x1.len
  refine par1_p d B xo bx b1 nm ln acc A σ1 m1 Q2 h1 hlt hne (by omega) (x1.get hlt.2.2.2.1 hne.2.1 hne.2.2.2.1 hbx) (x1.get hlt.2.2.2.2 hne.2.2.1 hne.2.2.2.2 hb1) hx1 ha1 he1 (by omega) ?_
  generalize Jg (all.drop m1)=r1 at hg hq
  cases r1 with
  | out=>exact hg.elim
  | bad c l=>
    intro A' σ2 x2 k2 hx2 hsl
    have x12:=x1.trans x2
    refine hk _ (oJ k2 (x12.get hlt4.1 oK.1 oK.2.2.1 hb4) b5 fun e' e0=>hq A' σ2 e' e0 x12 k2 hx2 hsl)
  | ok y bI=>
    intro A' σ2 m2 x2 k2 hm2 hx2 ha2
    have x12:=x1.trans x2
    have lx2:=x2.len
    have hq:PAq p w g all B xo b4 nm ln σ d acc Q ((cZ n false bI).bind fun xs ts=>.ok (y :: xs) ts):=hq
    rw [←hm2] at hq hg
    have hlt2:=hg.2.2
    have hi:=Xm d B xo bx b1 b4 b5 nm ln hlt hlt4 hne oK (acc ++ [y]) A' σ2 m2 Q k2 (by omega) (x12.get hlt.2.2.2.1 hne.2.1 hne.2.2.2.1 hbx) (x12.get hlt.2.2.2.2 hne.2.2.1 hne.2.2.2.2 hb1) (x12.get hlt4.1 oK.1 oK.2.2.1 hb4) (x12.get hlt4.2 oK.2.1 oK.2.2.2 hb5) hx2 ha2 hg.2.1 (by omega) (by rw [bM];simp only [bg,bZ];omega)
    rw [show (acc ++ [y]).isEmpty=false by cases acc <;> rfl] at hi
    refine hk _ (hi ?_)
    generalize cZ n false (all.drop m2)=r2 at hq
    cases r2 with
    | out=>trivial
    | bad c l=>exact fun A4 dF e' e0 x4=>hq A4 dF e' e0 (x12.trans x4)
    | ok xs wW=>exact fun A4 dF m4 e' e0 x4 h4 hm4 hx4 VB=>hq A4 dF m4 e' e0 (x12.trans x4) h4 hm4 hx4 (by rw [iC] at VB;exact VB)
 have tail:∀(b:Bool),acc.isEmpty=b→PAq p w g all B xo b4 nm ln σ d acc Q (if aY [41] (t :: r)=true then .ok [] (t :: r) else(if b=true then Re.ok () (t :: r) else aQ [44] (t :: r)).bind fun _ ts=>(Jg ts).bind fun x ts=>(cZ n false ts).bind fun xs ts=>.ok (x :: xs) ts)→aV X [0,1,2] Bz [(0,.p b4 0 0),(1,.p b5 0 0),(2,.b b)] σ Q:=by
  intro b hb hQ
  cases b with
  | true=>
    refine aV.round ay (lit:=false) ?_
    conv=>whnf
    refine ak (aj (T:=bf) rfl rfl (ah (hb4)) rfl) ?_
    conv=>whnf
    refine au.to (mW h) ?_
    conv=>whnf
    refine ak (aj (T:=bf) rfl rfl (ah (hb4)) rfl) ?_
    conv=>whnf
    have b7:(newCells 9 [.s [41]] σ)[σ.length]? =some ⟨0,false,.cells 9 [.s [41]]⟩:=aG _ _ _
    have x7:Ext σ (newCells 9 [.s [41]] σ):=(Ext.refl σ).new _ _
    have l7:(newCells 9 [.s [41]] σ).length=σ.length+1:=aH _ _ _
    generalize newCells 9 [.s [41]] σ=xY at b7 x7 l7 ⊢
    have h1:=h.ext x7
    have c4:=x7.get hb4
    have c5:=x7.get hb5
    have y1:dO p xo B σ xY:=.of (aN.of x7) hB
    refine au.to (BX [[41]] h1 ht σ.length 0 (ah b7) (aU rfl)) ?_
    conv=>whnf
    rw [jU]
    cases hi:iK [41] t with
    | true=>
      rw [if_pos (show aY [41] (t :: r)=true from hi)] at hQ
      conv=>whnf
      exact hQ A xY m _ rfl y1 h1 hts (x7.get hx) (by rw [List.append_nil];exact ha.keep (Nat.le_refl _) fun i a _ ha=>x7.get ha)
    | false=>
      rw [if_neg (by rw [show aY [41] (t :: r)=iK [41] t from rfl,hi];decide)] at hQ
      rw [if_pos rfl] at hQ
      conv=>whnf
      refine ak (aj (T:=yT1) rfl rfl (ah (c5)) rfl) ?_
      conv=>whnf
      refine key xY m _ y1 h1 (Nat.le_refl _) he (x7.get hx) (ha.keep (Nat.le_refl _) fun i a _ ha=>x7.get ha) (by rw [hts];exact hQ) fun s q=>?_
      conv=>whnf
      exact q
  | false=>
    refine aV.round ay (lit:=false) ?_
    conv=>whnf
    refine ak (aj (T:=bf) rfl rfl (ah (hb4)) rfl) ?_
    conv=>whnf
    refine au.to (mW h) ?_
    conv=>whnf
    refine ak (aj (T:=bf) rfl rfl (ah (hb4)) rfl) ?_
    conv=>whnf
    have b7:(newCells 9 [.s [41]] σ)[σ.length]? =some ⟨0,false,.cells 9 [.s [41]]⟩:=aG _ _ _
    have x7:Ext σ (newCells 9 [.s [41]] σ):=(Ext.refl σ).new _ _
    have l7:(newCells 9 [.s [41]] σ).length=σ.length+1:=aH _ _ _
    generalize newCells 9 [.s [41]] σ=xY at b7 x7 l7 ⊢
    have h1:=h.ext x7
    have c4:=x7.get hb4
    have c5:=x7.get hb5
    have y1:dO p xo B σ xY:=.of (aN.of x7) hB
    refine au.to (BX [[41]] h1 ht σ.length 0 (ah b7) (aU rfl)) ?_
    conv=>whnf
    rw [jU]
    cases hi:iK [41] t with
    | true=>
      rw [if_pos (show aY [41] (t :: r)=true from hi)] at hQ
      conv=>whnf
      exact hQ A xY m _ rfl y1 h1 hts (x7.get hx) (by rw [List.append_nil];exact ha.keep (Nat.le_refl _) fun i a _ ha=>x7.get ha)
    | false=>
      rw [if_neg (by rw [show aY [41] (t :: r)=iK [41] t from rfl,hi];decide)] at hQ
      rw [if_neg (by decide)] at hQ
      conv=>whnf
      refine ak (aj (T:=bf) rfl rfl (ah (c4)) rfl) ?_
      conv=>whnf
      refine j_ _ h1 ht (fun hi2=>(aX he hts hi2).1) (fun hi2 σ2 x2 h2=>?_) (fun hi2 σ2 x2 h2=>?_)
      ·rw [aQ,if_pos (show aY [44] (t :: r)=true from hi2)] at hQ
       obtain⟨hm1,he1,hle⟩:=aX he hts hi2
       have y2:dO p xo B σ σ2:=y1.trans (.of x2 (by omega))
       conv=>whnf
       refine ak (aj (T:=yT1) rfl rfl (ah (x2.get oK.2.1 c5)) rfl) ?_
       conv=>whnf
       refine key σ2 (m+1) _ y2 h2 (by omega) he1 (x2.get hne.1 (x7.get hx)) (ha.keep (Nat.le_refl _) fun i a hi ha=>x2.get (by omega) (x7.get ha)) (by rw [hr];exact hQ) fun s q=>?_
       conv=>whnf
       exact q
      ·rw [aQ,if_neg (by rw [show aY [44] (t :: r)=iK [44] t from rfl,hi2];decide)] at hQ
       have y2:dO p xo B σ σ2:=y1.trans (.of x2 (by omega))
       conv=>whnf
       refine ak (aj (T:=yT1) rfl rfl (ah (x2.get oK.2.1 c5)) rfl) ?_
       conv=>whnf
       have lx2:=x2.len
       refine par1_b d 4 t.l B xo bx b1 nm ln acc A σ2 _ h2 ⟨hlt.1,hlt.2.2.1,hlt.2.2.2.1,hlt.2.2.2.2⟩ hne (by omega) (y2.get hlt.2.2.2.1 hne.2.1 hne.2.2.2.1 hbx) (y2.get hlt.2.2.2.2 hne.2.2.1 hne.2.2.2.2 hb1) (x2.get hne.1 (x7.get hx)) (ha.keep (Nat.le_refl _) fun i a hi ha=>x2.get (by omega) (x7.get ha)) (by omega) fun A' σ3 x3 h3 hx3 hsl=>?_
       conv=>whnf
       exact oJ h3 ((y2.trans x3).get hlt4.1 oK.1 oK.2.2.1 hb4) b5 fun e' e0=>hQ A' σ3 e' e0 (y2.trans x3) h3 hx3 hsl
 exact tail _ rfl hQ
theorem Qh:∀n,Jh p w g all n
 | 0=>by intro d B xo bx b1 b4 b5 nm ln _ _ _ _ acc A σ m Q _ _ _ _ _ _ _ _ _ h;omega
 | n+1=>pars_p (Qh n)
def P2q (p w g:Nat)(all:List Tok)(xo:Nat)(nm:List UInt8)(ln:Nat)(σ:St)(d:Nat)(Q:AV→St→Prop):Re (List (List UInt8×Bool))→Prop
 | .ok xs ts=>∀A' σ' m',bV p xo σ σ'→PW p w g all σ' m' d .p0→all.drop m'= ts→σ'[xo]? =some (AA nm A' false .sl0 ln)→lG σ.length σ' A' xs→Q (.tu []) σ'
 | .bad c l=>∀A' σ',bV p xo σ σ'→PB p σ' d c l→σ'[xo]? =some (AA nm A' false .sl0 ln)→slP A'→Q (.tu []) σ'
 | .out=>True
theorem VK (d xo bx b1:Nat)(nm:List UInt8)(ln:Nat)(σ:St)(m:Nat)(Q:AV→St→Prop)(h:PW p w g all σ m d .p0)(hd:d≤64)(he:aZ (all.drop m))(hn:10*(all.drop m).length≤n)
 (hbx:σ[bx]? =some ⟨0,false,.cells 64 [.p xo 0 0]⟩) (hb1:σ[b1]? =some ⟨0,false,.cells 85 [.p p 0 0]⟩) (hx:σ[xo]? =some (AA nm .sl0 false .sl0 ln)) (hne:xo≠p∧bx≠p∧b1≠p∧bx≠xo∧b1≠xo)
 (hQ:P2q p w g all xo nm ln σ d Q ((gV [40] d (all.drop m)).bind fun _ ts=>(cZ n true ts).bind fun a ts=>(aQ [41] ts).bind fun _ ts=>.ok a ts)) :
 au X 57 [.p p 0 0,.fn (.func 58) [] [.p b1 0 0,.p bx 0 0]] σ Q:=by
 obtain⟨t,r,hts⟩:=he.ne
 rw [hts] at hQ hn
 simp only [bg] at hn
 obtain⟨ht,hr⟩:=b_ hts
 have hpl:=bK h.obj
 have hwl:=bK h.tok
 have hxl:=bK hx
 have hbl:=bK hbx
 have h1l:=bK hb1
 have hal:=h.len
 have hm:=h.at_
 unfold gV at hQ
 refine au.body (F:=F57) ay (lit:=false) rfl rfl (aU rfl) ?_
 conv=>whnf
 have b4:(newCells 85 (AV.p p 0 0).cells σ)[σ.length]? =some ⟨0,false,.cells 85 [.p p 0 0]⟩:=aG _ _ _
 have x4:Ext σ (newCells 85 (AV.p p 0 0).cells σ):=(Ext.refl σ).new _ _
 have l4:(newCells 85 (AV.p p 0 0).cells σ).length=σ.length+1:=aH _ _ _
 generalize newCells 85 (AV.p p 0 0).cells σ=dF at b4 x4 l4 ⊢
 have b5:(newCells 1 (AV.fn (.func 58) [] [.p b1 0 0,.p bx 0 0]).cells dF)[dF.length]? =some ⟨0,false,.cells 1 [.fn (.func 58) [] [.p b1 0 0,.p bx 0 0]]⟩:=aG _ _ _
 have x5:Ext dF (newCells 1 (AV.fn (.func 58) [] [.p b1 0 0,.p bx 0 0]).cells dF):=(Ext.refl dF).new _ _
 have l5:(newCells 1 (AV.fn (.func 58) [] [.p b1 0 0,.p bx 0 0]).cells dF).length=dF.length+1:=aH _ _ _
 generalize newCells 1 (AV.fn (.func 58) [] [.p b1 0 0,.p bx 0 0]).cells dF=fC at b5 x5 l5 ⊢
 have xx:=x4.trans x5
 have h5:=h.ext xx
 have c4:=x5.get b4
 refine ak (aj (T:=bf) rfl rfl (ah (c4)) rfl) ?_
 conv=>whnf
 refine au.mono (Q:=fun v s=>v= .tu []∧Fin σ (.tu []) s Q) ?_ fun v s q=>?_
 ·have bad:∀(c l:Nat) (s1:St),aN p fC s1→PB p s1 (d+1) c l→P2q p w g all xo nm ln σ d Q (.bad c l)→au X 91 [.p σ.length 0 0,.p dF.length 0 0] s1 (QI p m d (fun v s=>v= .tu []∧Fin σ (.tu []) s Q)):=by
   intro c l s1 y1 k1 hq
   have e4:=y1.get (by omega) c4
   refine au.body (F:=F91) ay (lit:=false) rfl rfl (aU rfl) ?_
   conv=>whnf
   refine oJ k1 e4 dF.length fun e' e0=>?_
   conv=>whnf
   rw [show Opd.ev e' (.t 0)=get e' 0 from rfl,e0]
   conv=>whnf
   refine ak (aj (T:=bf) rfl rfl (ah (e4)) rfl) ?_
   conv=>whnf
   refine au.to (ku [41] k1) ?_
   conv=>whnf
   have k1':=k1
   obtain⟨w2,g2,all2,m2,fo,fg,j1,j2,j3⟩:=k1'
   refine Fin.flat rfl iq ⟨rfl,w2,g2,all2,m2,_,j1,.inr (by simp),fun s3 y3 j4=>⟨rfl,?_⟩⟩
   have hx3:aN p σ s3:=((aN.of xx).trans y1).trans y3
   exact h.ne_of j4 (.inr (by simp)) (hq _ _ (bV.of hx3) ⟨w2,g2,all2,m2,fo,fg,j4,j2,y3.get j2 j3⟩ (hx3.get hne.1 hx) (.inl rfl))
  refine RF [40] h5 ht hd (fun hi=>(aX he hts hi).1) (fun hi h64 s1 y1 k1=>?_) (fun hi h64 s1 y1 k1=>?_) (fun hi s1 y1 k1=>?_)
  ·rw [if_neg (by omega),aQ,if_pos (show aY [40] (t :: r)=true from hi)] at hQ
   have hQ:P2q p w g all xo nm ln σ d Q ((cZ n true r).bind fun a ts=>(aQ [41] ts).bind fun _ ts=>.ok a ts):=hQ
   obtain⟨hm1,he1,hle⟩:=aX he hts hi
   have hg:=vM n true (all.drop (m+1)) he1 (by rw [hr];omega)
   have hx1:aN p σ s1:=(aN.of xx).trans y1
   have e4:=y1.get (by omega) c4
   have e5:=y1.get (by omega) b5
   have ly:=y1.len
   have hall:(all.drop (m+1)).length≤40001:=by rw [pF];omega
   refine au.body (F:=F91) ay (lit:=false) rfl rfl (aU rfl) ?_
   conv=>whnf
   refine Qh n (d+1) s1.length xo bx b1 σ.length dF.length nm ln ⟨by omega,by omega,by omega,by omega,by omega⟩ ⟨by omega,by omega⟩ hne ⟨by omega,by omega,by omega,by omega⟩ [] .sl0 s1 (m+1) _ k1 (Nat.le_refl _) (hx1.get hne.2.1 hbx) (hx1.get hne.2.2.1 hb1) e4 e5 (hx1.get hne.1 hx) (.inl ⟨rfl,rfl⟩) he1 (by rw [hr];omega) (by simp only [bZ];omega) ?_
   rw [hr] at hg ⊢
   show PAq p w g all s1.length xo σ.length nm ln s1 (d+1) [] _ (cZ n true r)
   generalize cZ n true r=r1 at hg hQ
   cases r1 with
   | out=>exact hg.elim
   | bad c l=>
     intro A' s2 e' e0 y2 k2 hx2 hsl
     have f4:=y2.get (by omega) (by omega) (by omega) e4
     conv=>whnf
     rw [show Opd.ev e' (.t 0)=get e' 0 from rfl,e0]
     conv=>whnf
     refine ak (aj (T:=bf) rfl rfl (ah (f4)) rfl) ?_
     conv=>whnf
     refine au.to (ku [41] k2) ?_
     conv=>whnf
     have k2':=k2
     obtain⟨w2,g2,all2,m2,fo,fg,j1,j2,j3⟩:=k2'
     refine k1.ne_of j1 (.inr (by simp)) ⟨rfl,w2,g2,all2,m2,_,j1,.inr (by simp),fun s3 y3 j4=>⟨rfl,?_⟩⟩
     have ly2:=y2.len
     refine h.ne_of j4 (.inr (by simp)) (hQ _ _ ⟨by have:=y3.len;have:=hx1.len;omega,fun i hi o_ hix=>by rw [y3.old i (by have:=hx1.len;omega) o_,y2.old i (by have:=hx1.len;omega) o_ hix,hx1.old i hi o_]⟩ ⟨w2,g2,all2,m2,fo,fg,j4,j2,y3.get j2 j3⟩ (y3.get hne.1 hx2) hsl)
   | ok xs bI=>
     intro A' s2 m2 e' e0 y2 k2 hm2 hx2 ha2
     have he2:aZ (all.drop m2):=by rw [hm2];exact hg.2.1
     obtain⟨t2,r2,jE⟩:=he2.ne
     obtain⟨ht2,hr2⟩:=b_ jE
     have hQ:P2q p w g all xo nm ln σ d Q ((aQ [41] bI).bind fun _ ts=>.ok xs ts):=hQ
     rw [←hm2,jE] at hQ
     have f4:=y2.get (by omega) (by omega) (by omega) e4
     have ly2:=y2.len
     have hmm:m+1≤m2:=by
      have:=hg.2.2
      rw [←hm2,←hr,pF,pF] at this
      omega
     have hsl:=ha2.sl
     have fr:∀s3,aN p s2 s3→bV p xo σ s3:=fun s3 y3=>⟨by have:=y3.len;have:=hx1.len;omega,fun i hi o_ hix=>by rw [y3.old i (by have:=hx1.len;omega) o_,y2.old i (by have:=hx1.len;omega) o_ hix,hx1.old i hi o_]⟩
     conv=>whnf
     rw [show Opd.ev e' (.t 0)=get e' 0 from rfl,e0]
     conv=>whnf
     refine ak (aj (T:=bf) rfl rfl (ah (f4)) rfl) ?_
     conv=>whnf
     refine j_ [41] k2 ht2 (fun hi=>(aX he2 jE hi).1) (fun hi2 s5 y5 k5=>?_) (fun hi2 s5 y5 k5=>?_)
     ·rw [aQ,if_pos (show aY [41] (t2 :: r2)=true from hi2)] at hQ
      conv=>whnf
      refine k1.ne_of k5 (.inl (by omega)) ⟨rfl,w,g,all,m2+1,_,k5,.inl (by omega),fun s3 y3 j4=>⟨rfl,?_⟩⟩
      have RI:=y5.trans y3
      refine h.ne_of j4 (.inl (by omega)) (hQ _ _ _ (fr s3 RI) j4 hr2 (RI.get hne.1 hx2) ?_)
      exact ha2.keep (by have:=hx1.len;omega) fun i a hi ha=>RI.get (by omega) ha
     ·rw [aQ,if_neg (show ¬aY [41] (t2 :: r2)=true by rw [show aY [41] (t2 :: r2)=iK [41] t2 from rfl,hi2];decide)] at hQ
      conv=>whnf
      have Og:=k5
      obtain⟨w2,g2,all2,Vz,fo,fg,j1,j2,j3⟩:=Og
      refine k1.ne_of j1 (.inr (by simp)) ⟨rfl,w2,g2,all2,Vz,_,j1,.inr (by simp),fun s3 y3 j4=>⟨rfl,?_⟩⟩
      have RI:=y5.trans y3
      exact h.ne_of j4 (.inr (by simp)) (hQ _ _ (fr s3 RI) ⟨w2,g2,all2,Vz,fo,fg,j4,j2,y3.get j2 j3⟩ (RI.get hne.1 hx2) hsl)
  ·rw [if_pos ⟨show aY [40] (t :: r)=true from hi,h64⟩] at hQ
   exact bad 3 t.l s1 y1 k1 hQ
  ·have hiw:¬aY [40] (t :: r)=true:=by rw [show aY [40] (t :: r)=iK [40] t from rfl,hi];decide
   rw [if_neg (fun e=>hiw e.1),aQ,if_neg hiw] at hQ
   exact bad 4 t.l s1 y1 k1 hQ
 ·obtain⟨rfl,q⟩:=q
  conv=>whnf
  exact q
theorem VL {d c l k:Nat} {caps:List AV} {σ:St} (h:PB p σ d c l)(hd:d+1≤1000) {Q:AV→St→Prop} (q:∀σ',aN p σ σ'→PB p σ' d c l→Q (.tu []) σ'):au X 57 [.p p 0 0,.fn (.func k) [] caps] σ Q:=by
 have hpl:=PB.lt h
 refine au.body (F:=F57) ay (lit:=false) rfl rfl (aU rfl) ?_
 conv=>whnf
 have b4:(newCells 85 (AV.p p 0 0).cells σ)[σ.length]? =some ⟨0,false,.cells 85 [.p p 0 0]⟩:=aG _ _ _
 have x4:Ext σ (newCells 85 (AV.p p 0 0).cells σ):=(Ext.refl σ).new _ _
 have l4:(newCells 85 (AV.p p 0 0).cells σ).length=σ.length+1:=aH _ _ _
 generalize newCells 85 (AV.p p 0 0).cells σ=dF at b4 x4 l4 ⊢
 have b5:(newCells 1 (AV.fn (.func k) [] caps).cells dF)[dF.length]? =some ⟨0,false,.cells 1 [.fn (.func k) [] caps]⟩:=aG _ _ _
 have x5:Ext dF (newCells 1 (AV.fn (.func k) [] caps).cells dF):=(Ext.refl dF).new _ _
 have l5:(newCells 1 (AV.fn (.func k) [] caps).cells dF).length=dF.length+1:=aH _ _ _
 generalize newCells 1 (AV.fn (.func k) [] caps).cells dF=fC at b5 x5 l5 ⊢
 have xx:=x4.trans x5
 have h5:=h.ext xx
 have c4:=x5.get b4
 refine ak (aj (T:=bf) rfl rfl (ah (c4)) rfl) ?_
 conv=>whnf
 have fin:∀s,aN p fC s→PB p s d c l→Fin σ (.tu []) s Q:=fun s y k=>lZ (q _ ((aN.of xx).trans y) k) fun _=>q _ (.refl _ _) h
 refine au.mono (Q:=fun v s=>v= .tu []∧Fin σ (.tu []) s Q) ?_ fun v s q=>?_
 ·refine in_b (fun s=>aN p fC s) [40] h5 hd (fun s1 y1 k1=>?_) (fun s3 y3 k3=>⟨rfl,fin _ y3 k3⟩) (fun s3 y3 _=>⟨rfl,fin _ (.refl _ _) h5⟩)
  have e4:=y1.get (by omega) c4
  refine au.body (F:=F91) ay (lit:=false) rfl rfl (aU rfl) ?_
  conv=>whnf
  refine oJ k1 e4 dF.length fun e' e0=>?_
  conv=>whnf
  rw [show Opd.ev e' (.t 0)=get e' 0 from rfl,e0]
  conv=>whnf
  refine ak (aj (T:=bf) rfl rfl (ah (e4)) rfl) ?_
  conv=>whnf
  refine au.to (ku [41] k1) ?_
  conv=>whnf
  exact Fin.flat rfl iq ⟨rfl,k1,fun s3 y3 _=>y1.trans y3⟩
 ·obtain⟨rfl,q⟩:=q
  conv=>whnf
  exact q
end
end Go.Abs.YtlkfbfhkcaldlaaGreatDoor
namespace Go.Abs.YtlkfbfhkcaldlaaGreatDoor
open Go.Proofs
set_option maxRecDepth 4000
def sF (S:Nat→Prop)(σ:St)(v:AV)(l:List (List UInt8×Bool)):Prop:=(l=[]∧v= .sl0)∨∃o g,S o∧v= .sl o g 0 l.length 2∧σ[o]? =some ⟨g,false,.cells 71 (pq l)⟩
def pz (S:Nat→Prop)(σ:St)(v:AV)(f:Fm):Prop:=∃o A Bd,S o∧v= .p o 0 0∧σ[o]? =some (AA f.name A f.ptr Bd f.line)∧sF S σ A f.params∧dX S σ Bd f.body
theorem sF.mono {S S':Nat→Prop} {σ σ':St} (h1:∀o,S o→S' o)(h2:∀o,S o→∀a,σ[o]? =some a→σ'[o]? =some a) {l:List (List UInt8×Bool)} {v:AV} (h:sF S σ v l):sF S' σ' v l:=by
 rcases h with h | ⟨o,g,a,b,c⟩
 ·exact .inl h
 ·exact .inr ⟨o,g,h1 _ a,b,h2 _ a _ c⟩
theorem pz.mono {S S':Nat→Prop} {σ σ':St} (h1:∀o,S o→S' o)(h2:∀o,S o→∀a,σ[o]? =some a→σ'[o]? =some a) {f:Fm} {v:AV} (h:pz S σ v f):pz S' σ' v f:=by
 obtain⟨o,A,Bd,a,b,c,d,e⟩:=h
 exact⟨o,A,Bd,h1 _ a,b,h2 _ a _ c,d.mono h1 h2,e.mono h1 h2⟩
theorem pz.below {S:Nat→Prop} {σ:St} {f:Fm} {v:AV} (h:pz S σ v f):pz (fun o=>S o∧o<σ.length) σ v f:=by
 obtain⟨o,A,Bd,a,b,c,d,e⟩:=h
 refine⟨o,A,Bd,⟨a,bK c⟩,b,c,?_,e.below⟩
 rcases d with d | ⟨o,g,a,b,c⟩
 ·exact .inl d
 ·exact .inr ⟨o,g,⟨a,bK c⟩,b,c⟩
section
variable {p w g:Nat} {all:List Tok} {n:Nat}
def Oq (p w g:Nat)(all:List Tok)(σ:St)(Q:AV→St→Prop):Re Fm→Prop
 | .ok f ts=>∀o σ' m',aN p σ σ'→PW p w g all σ' m' 0 .p0→all.drop m'= ts→pz (fun i=>σ.length≤i) σ' (.p o 0 0) f→Q (.p o 0 0) σ'
 | .bad c l=>∀o σ',aN p σ σ'→PB p σ' 0 c l→Q (.p o 0 0) σ'
 | .out=>True
def zf (n:Nat)(ts:List Tok):Re (List (List UInt8×Bool)):=(gV [40] 0 ts).bind fun _ ts=>(cZ n true ts).bind fun a ts=>(aQ [41] ts).bind fun _ ts=>.ok a ts
theorem VN {α:Type} (n:Nat)(ts:List Tok)(f:List (List UInt8×Bool)→List Tok→Re α):((gV [40] 0 ts).bind fun _ ts=>(cZ n true ts).bind fun a ts=>(aQ [41] ts).bind fun _ ts=>f a ts)=(zf n ts).bind f:=by
 unfold zf
 cases gV [40] 0 ts with
 | out=>rfl
 | bad c l=>rfl
 | ok u bI=>
   show ((cZ n true bI).bind fun a ts=>(aQ [41] ts).bind fun _ ts=>f a ts)=((cZ n true bI).bind fun a ts=>(aQ [41] ts).bind fun _ ts=>.ok a ts).bind f
   cases cZ n true bI with
   | out=>rfl
   | bad c l=>rfl
   | ok a dM=>
     show ((aQ [41] dM).bind fun _ ts=>f a ts)=((aQ [41] dM).bind fun _ ts=>.ok a ts).bind f
     cases aQ [41] dM <;> rfl
theorem VO {n:Nat} {ts:List Tok} (he:aZ ts)(hn:ts.length+1≤n):Gd An (zf n ts) ts.length:=
 (vI _ 0 he).bind fun _ vK _ he3 hl3=>(vM n true vK he3 (by omega)).bind fun ps wW _ he4 hl4=>(jq _ he4).bind fun _ su _ Vp hl5=>⟨trivial,Vp,by omega⟩
def fnR (n ln:Nat)(nm:List UInt8)(ps:List (List UInt8×Bool))(bI:List Tok):Re Fm:=(dD n 0 (if aY dA bI=true then bI.tail else bI)).bind fun b dM=>.ok ⟨nm,ps,aY dA bI,b,ln⟩ dM
theorem Ot (hno:EH all)(hnn:EJ all)(hko:LZ all)(σ:St)(m:Nat)(Q:AV→St→Prop)(h:PW p w g all σ m 0 .p0)(he:aZ (all.drop m))(hn:10*(all.drop m).length+10≤n)(hQ:Oq p w g all σ Q (kH n (all.drop m))):au X 26 [.p p 0 0] σ Q:=by
 obtain⟨t,r,hts⟩:=he.ne
 obtain⟨ht,hr⟩:=b_ hts
 have hpl:=bK h.obj
 have hlr:(all.drop m).length=r.length+1:=by rw [hts];rfl
 have hQ:Oq p w g all σ Q ((aQ pV (all.drop m)).bind fun _ bI=>(fA bI).bind fun nm bI=>(zf n bI).bind fun ps bI=>fnR n (kW (all.drop m)) nm ps bI):=by
  simp only [←VN];exact hQ
 rw [hts] at hQ
 have hQ:Oq p w g all σ Q ((aQ pV (t :: r)).bind fun _ bI=>(fA bI).bind fun nm bI=>(zf n bI).bind fun ps bI=>fnR n t.l nm ps bI):=hQ
 refine au.body (F:=F26) ay (lit:=false) rfl rfl (aU rfl) ?_
 conv=>whnf
 have b1:(newCells 85 (AV.p p 0 0).cells σ)[σ.length]? =some ⟨0,false,.cells 85 [.p p 0 0]⟩:=aG _ _ _
 have x1:Ext σ (newCells 85 (AV.p p 0 0).cells σ):=(Ext.refl σ).new _ _
 have l1:(newCells 85 (AV.p p 0 0).cells σ).length=σ.length+1:=aH _ _ _
 generalize newCells 85 (AV.p p 0 0).cells σ=σ1 at b1 x1 l1 ⊢
 have h1:=h.ext x1
 refine ak (aj (T:=bf) rfl rfl (ah (b1)) rfl) ?_
 conv=>whnf
 refine au.to (jZ h1 ht) ?_
 conv=>whnf
 have b3:(newCells 69 (AV.ag [.s [],.sl0,.b false,.sl0,.i .i64 t.l]).cells σ1)[σ1.length]? =some ⟨0,false,.cells 69 [.s [],.sl0,.b false,.sl0,.i .i64 t.l]⟩:=aG _ _ _
 have x3:Ext σ1 (newCells 69 (AV.ag [.s [],.sl0,.b false,.sl0,.i .i64 t.l]).cells σ1):=(Ext.refl σ1).new _ _
 have l3:(newCells 69 (AV.ag [.s [],.sl0,.b false,.sl0,.i .i64 t.l]).cells σ1).length=σ1.length+1:=aH _ _ _
 generalize newCells 69 (AV.ag [.s [],.sl0,.b false,.sl0,.i .i64 t.l]).cells σ1=σ3 at b3 x3 l3 ⊢
 refine ak (aC (T:=dY) ([.p σ1.length 0 0]) rfl (aG _ _ _) rfl rfl (aU rfl) rfl) ?_
 have x4:Ext σ3 ((newCells 64 dY.zero.cells σ3).set σ3.length ⟨0,false,.cells 64 [.p σ1.length 0 0]⟩):=((Ext.refl σ3).new _ _).set (Nat.le_refl _) _
 have b4:((newCells 64 dY.zero.cells σ3).set σ3.length ⟨0,false,.cells 64 [.p σ1.length 0 0]⟩)[σ3.length]? =_:=at_set (aG _ _ _) _
 have l4:((newCells 64 dY.zero.cells σ3).set σ3.length ⟨0,false,.cells 64 [.p σ1.length 0 0]⟩).length=σ3.length+1:=by rw [gK,aH]
 generalize (newCells 64 dY.zero.cells σ3).set σ3.length ⟨0,false,.cells 64 [.p σ1.length 0 0]⟩=dF at b4 x4 l4 ⊢
 conv=>whnf
 have x24:=x3.trans x4
 have k4:=h1.ext x24
 have cp4:=x24.get b1
 have cx4:=x4.get b3
 have cv4:=b4
 have X4:aN p σ dF:=aN.of (x1.trans x24)
 generalize dF=s4 at k4 cp4 cx4 cv4 X4 x4 l4 ⊢
 conv=>whnf
 refine ak (aj (T:=bf) rfl rfl (ah (cp4)) rfl) ?_
 conv=>whnf
 refine j_ [102,117,110,99] k4 ht (fun hi=>(aX he hts hi).1) (fun hi s5 y5 k5=>?_) (fun hi s5 y5 k5=>?_)
 ·rw [aQ,if_pos (show aY pV (t :: r)=true from hi)] at hQ
  have hQ:Oq p w g all σ Q ((fA r).bind fun nm bI=>(zf n bI).bind fun ps bI=>fnR n t.l nm ps bI):=hQ
  obtain⟨hm1,he1,hle⟩:=aX he hts hi
  obtain⟨t6,r6,kX⟩:=he1.ne
  obtain⟨Qg,FV⟩:=b_ kX
  have hlr1:(all.drop (m+1)).length=r.length:=by rw [hr]
  have hl6:(all.drop (m+1)).length=r6.length+1:=by rw [kX];rfl
  rw [←hr,kX] at hQ
  have zK:=y5.get (by omega) cx4
  have uK:=y5.get (by omega) cv4
  have cp5:=y5.get (by omega) cp4
  have X5:=X4.trans y5
  have l5:=y5.len
  conv=>whnf
  refine ak (aj (T:=dY) rfl rfl (ah (uK)) rfl) ?_
  conv=>whnf
  refine ak (aj (T:=bf) rfl rfl (ah (cp5)) rfl) ?_
  conv=>whnf
  refine Jb k5 Qg (fun hk1=>uG (by rw [FV];rw [kX] at he1;exact he1.tail (by rw [hk1];decide))) (fun hk1 s6 y6 k6=>?_) (fun hk1 s6 y6 k6=>?_)
  ·simp only [fA,if_pos hk1] at hQ
   have he2:aZ (all.drop (m+1+1)):=by rw [FV];rw [kX] at he1;exact he1.tail (by rw [hk1];decide)
   have hl62:(all.drop (m+1+1)).length=r6.length:=by rw [FV]
   have hQ:Oq p w g all σ Q ((zf n r6).bind fun ps bI=>fnR n t.l t6.s ps bI):=hQ
   rw [←FV] at hQ
   have hg:=VO (n:=n) he2 (by omega)
   have wI:=y6.get (by omega) zK
   have yZ:=y6.get (by omega) uK
   have cp6:=y6.get (by omega) cp5
   have X6:=X5.trans y6
   have l6:=y6.len
   conv=>whnf
   refine⟨?_,?_⟩
   ·conv=>whnf
    refine ak (aj (T:=dY) rfl rfl (ah (yZ)) rfl) ?_
    rfl
   conv=>whnf
   refine ak (aC (T:=fB) ([.s t6.s,.sl0,.b false,.sl0,.i .i64 t.l]) rfl (wI) rfl rfl (aU rfl) rfl) ?_
   conv=>whnf
   have k7:=k6.bT wI (by decide) (by decide) ⟨0,false,.cells 69 [.s t6.s,.sl0,.b false,.sl0,.i .i64 t.l]⟩
   have wY:(List.set s6 σ1.length ⟨0,false,.cells 69 [.s t6.s,.sl0,.b false,.sl0,.i .i64 t.l]⟩)[σ1.length]? =some ⟨0,false,.cells 69 [.s t6.s,.sl0,.b false,.sl0,.i .i64 t.l]⟩:=at_set wI _
   have wZ:(List.set s6 σ1.length ⟨0,false,.cells 69 [.s t6.s,.sl0,.b false,.sl0,.i .i64 t.l]⟩)[σ3.length]? =_:=aK yZ (by omega) _
   have S9:(List.set s6 σ1.length ⟨0,false,.cells 69 [.s t6.s,.sl0,.b false,.sl0,.i .i64 t.l]⟩)[σ.length]? =_:=aK cp6 (by omega) _
   have X7:aN p σ (List.set s6 σ1.length ⟨0,false,.cells 69 [.s t6.s,.sl0,.b false,.sl0,.i .i64 t.l]⟩):=X6.bJ (bV.bT _ _ _ _) (by omega)
   have l7:(List.set s6 σ1.length ⟨0,false,.cells 69 [.s t6.s,.sl0,.b false,.sl0,.i .i64 t.l]⟩).length=s6.length:=gK
   generalize List.set s6 σ1.length ⟨0,false,.cells 69 [.s t6.s,.sl0,.b false,.sl0,.i .i64 t.l]⟩=s7 at k7 wY wZ S9 X7 l7 ⊢
   conv=>whnf
   refine ak (aj (T:=bf) rfl rfl (ah (S9)) rfl) ?_
   conv=>whnf
   refine VK (n:=n) 0 σ1.length σ3.length σ.length t6.s t.l s7 (m+1+1) _ k7 (by omega) he2 (by omega) wZ S9 wY ⟨by omega,by omega,by omega,by omega,by omega⟩ ?_
   change P2q p w g all σ1.length t6.s t.l s7 0 _ (zf n (all.drop (m+1+1)))
   generalize zf n (all.drop (m+1+1))=r1 at hg hQ
   cases r1 with
   | out=>exact hg.elim
   | bad c l=>
     have hQ:Oq p w g all σ Q (.bad c l):=hQ
     intro A s8 y8 k8 mZ hsl
     have mZ:s8[σ1.length]? =some ⟨0,false,.cells 69 [.s t6.s,A,.b false,.sl0,.i .i64 t.l]⟩:=mZ
     have oM:=y8.get (by omega) (by omega) wZ
     have cp8:=y8.get (by omega) (by omega) S9
     have X8:aN p σ s8:=X7.bJ y8 (by omega)
     have l8:=y8.len
     conv=>whnf
     refine ak (aj (T:=dY) rfl rfl (ah (oM)) rfl) ?_
     conv=>whnf
     refine ak (aj (T:=bf) rfl rfl (ah (cp8)) rfl) ?_
     conv=>whnf
     refine au.to (ni [112,116,114] k8) ?_
     conv=>whnf
     refine⟨?_,?_⟩
     ·conv=>whnf
      refine ak (aj (T:=dY) rfl rfl (ah (oM)) rfl) ?_
      rfl
     conv=>whnf
     refine ak (aC (T:=xH) ([.s t6.s,A,.b false,.sl0,.i .i64 t.l]) rfl (mZ) rfl rfl (aU rfl) rfl) ?_
     conv=>whnf
     have k9:=k8.bT mZ (by decide) (by decide) (by decide) ⟨0,false,.cells 69 [.s t6.s,A,.b false,.sl0,.i .i64 t.l]⟩
     have EM:(List.set s8 σ1.length ⟨0,false,.cells 69 [.s t6.s,A,.b false,.sl0,.i .i64 t.l]⟩)[σ1.length]? =some ⟨0,false,.cells 69 [.s t6.s,A,.b false,.sl0,.i .i64 t.l]⟩:=at_set mZ _
     have CS:(List.set s8 σ1.length ⟨0,false,.cells 69 [.s t6.s,A,.b false,.sl0,.i .i64 t.l]⟩)[σ3.length]? =_:=aK oM (by omega) _
     have Np:(List.set s8 σ1.length ⟨0,false,.cells 69 [.s t6.s,A,.b false,.sl0,.i .i64 t.l]⟩)[σ.length]? =_:=aK cp8 (by omega) _
     have X9:aN p σ (List.set s8 σ1.length ⟨0,false,.cells 69 [.s t6.s,A,.b false,.sl0,.i .i64 t.l]⟩):=X8.bJ (bV.bT _ _ _ _) (by omega)
     have l9:(List.set s8 σ1.length ⟨0,false,.cells 69 [.s t6.s,A,.b false,.sl0,.i .i64 t.l]⟩).length=s8.length:=gK
     generalize List.set s8 σ1.length ⟨0,false,.cells 69 [.s t6.s,A,.b false,.sl0,.i .i64 t.l]⟩=s9 at k9 EM CS Np X9 l9 ⊢
     conv=>whnf
     refine ak (aj (T:=dY) rfl rfl (ah (CS)) rfl) ?_
     conv=>whnf
     refine ak (aj (T:=bf) rfl rfl (ah (Np)) rfl) ?_
     conv=>whnf
     refine yY k9 (aU rfl) fun s10 CV k10=>?_
     have qL:=CV.get (by omega) EM
     have sJ:=CV.get (by omega) CS
     have cp10:=CV.get (by omega) Np
     have RU:=X9.trans CV
     have l10:=CV.len
     conv=>whnf
     refine⟨?_,?_⟩
     ·conv=>whnf
      refine ak (aj (T:=dY) rfl rfl (ah (sJ)) rfl) ?_
      rfl
     conv=>whnf
     refine ak (aC (T:=dL) ([.s t6.s,A,.b false,.sl0,.i .i64 t.l]) rfl (qL) rfl rfl (aU rfl) rfl) ?_
     conv=>whnf
     have k11:=k10.bT qL (by decide) (by decide) (by decide) ⟨0,false,.cells 69 [.s t6.s,A,.b false,.sl0,.i .i64 t.l]⟩
     have B_:(List.set s10 σ1.length ⟨0,false,.cells 69 [.s t6.s,A,.b false,.sl0,.i .i64 t.l]⟩)[σ1.length]? =some ⟨0,false,.cells 69 [.s t6.s,A,.b false,.sl0,.i .i64 t.l]⟩:=at_set qL _
     have AP:(List.set s10 σ1.length ⟨0,false,.cells 69 [.s t6.s,A,.b false,.sl0,.i .i64 t.l]⟩)[σ3.length]? =_:=aK sJ (by omega) _
     have Ou:(List.set s10 σ1.length ⟨0,false,.cells 69 [.s t6.s,A,.b false,.sl0,.i .i64 t.l]⟩)[σ.length]? =_:=aK cp10 (by omega) _
     have VP:aN p σ (List.set s10 σ1.length ⟨0,false,.cells 69 [.s t6.s,A,.b false,.sl0,.i .i64 t.l]⟩):=RU.bJ (bV.bT _ _ _ _) (by omega)
     have l11:(List.set s10 σ1.length ⟨0,false,.cells 69 [.s t6.s,A,.b false,.sl0,.i .i64 t.l]⟩).length=s10.length:=gK
     conv=>whnf
     refine ak (aj (T:=dY) rfl rfl (ah (AP)) rfl) ?_
     conv=>whnf
     exact Fin.ref rfl (hQ _ _ VP k11)
   | ok ps bI=>
     have hQ:Oq p w g all σ Q (fnR n t.l t6.s ps bI):=hQ
     intro A s8 m8 y8 k8 hm8 mZ ha8
     have mZ:s8[σ1.length]? =some ⟨0,false,.cells 69 [.s t6.s,A,.b false,.sl0,.i .i64 t.l]⟩:=mZ
     have oM:=y8.get (by omega) (by omega) wZ
     have cp8:=y8.get (by omega) (by omega) S9
     have X8:aN p σ s8:=X7.bJ y8 (by omega)
     have l8:=y8.len
     have he8:aZ (all.drop m8):=by rw [hm8];exact hg.2.1
     obtain⟨t8,r8,qJ⟩:=he8.ne
     obtain⟨ht8,Xo⟩:=b_ qJ
     have hl8':(all.drop m8).length=r8.length+1:=by rw [qJ];rfl
     have lg:=hg.2.2
     rw [←hm8] at lg
     unfold fnR at hQ
     rw [←hm8,qJ] at hQ
     conv=>whnf
     refine ak (aj (T:=dY) rfl rfl (ah (oM)) rfl) ?_
     conv=>whnf
     refine ak (aj (T:=bf) rfl rfl (ah (cp8)) rfl) ?_
     conv=>whnf
     refine oI [112,116,114] k8 ht8 (fun hi=>(aX he8 qJ hi).1) (fun hi s9 y9 k9=>?_) (fun hi=>?_)
     ·have VH:aY dA (t8 :: r8)=true:=hi
      have hQ:Oq p w g all σ Q ((dD n 0 r8).bind fun b bI=>.ok ⟨t6.s,ps,true,b,t.l⟩ bI):=by
            simp only [VH,if_true] at hQ;exact hQ
      obtain⟨hmA,SY,VJ⟩:=aX he8 qJ hi
      have hlA:(all.drop (m8+1)).length=r8.length:=by rw [Xo]
      rw [←Xo] at hQ
      have EM:=y9.get (by omega) mZ
      have CS:=y9.get (by omega) oM
      have Np:=y9.get (by omega) cp8
      have X9:=X8.trans y9
      have l9:=y9.len
      conv=>whnf
      refine⟨?_,?_⟩
      ·conv=>whnf
       refine ak (aj (T:=dY) rfl rfl (ah (CS)) rfl) ?_
       rfl
      conv=>whnf
      refine ak (aC (T:=xH) ([.s t6.s,A,.b true,.sl0,.i .i64 t.l]) rfl (EM) rfl rfl (aU rfl) rfl) ?_
      conv=>whnf
      have k10:=k9.bT EM (by decide) (by decide) ⟨0,false,.cells 69 [.s t6.s,A,.b true,.sl0,.i .i64 t.l]⟩
      have qL:(List.set s9 σ1.length ⟨0,false,.cells 69 [.s t6.s,A,.b true,.sl0,.i .i64 t.l]⟩)[σ1.length]? =some ⟨0,false,.cells 69 [.s t6.s,A,.b true,.sl0,.i .i64 t.l]⟩:=at_set EM _
      have sJ:(List.set s9 σ1.length ⟨0,false,.cells 69 [.s t6.s,A,.b true,.sl0,.i .i64 t.l]⟩)[σ3.length]? =_:=aK CS (by omega) _
      have cp10:(List.set s9 σ1.length ⟨0,false,.cells 69 [.s t6.s,A,.b true,.sl0,.i .i64 t.l]⟩)[σ.length]? =_:=aK Np (by omega) _
      have RU:aN p σ (List.set s9 σ1.length ⟨0,false,.cells 69 [.s t6.s,A,.b true,.sl0,.i .i64 t.l]⟩):=X9.bJ (bV.bT _ _ _ _) (by omega)
      have l10:(List.set s9 σ1.length ⟨0,false,.cells 69 [.s t6.s,A,.b true,.sl0,.i .i64 t.l]⟩).length=s9.length:=gK
      have ha10:sF (fun i=>σ1.length<i) (List.set s9 σ1.length ⟨0,false,.cells 69 [.s t6.s,A,.b true,.sl0,.i .i64 t.l]⟩) A ps:=(show sF (fun i=>s7.length≤i) s8 A ps from ha8).mono (fun i hi=>by omega) (fun i hi a ha=>aK (y9.get (by omega) ha) (by omega) _)
      generalize List.set s9 σ1.length ⟨0,false,.cells 69 [.s t6.s,A,.b true,.sl0,.i .i64 t.l]⟩=s10 at k10 qL sJ cp10 RU l10 ha10 ⊢
      have hgb:=(FN n).block 0 (all.drop (m8+1)) SY (by omega)
      conv=>whnf
      refine ak (aj (T:=dY) rfl rfl (ah (sJ)) rfl) ?_
      conv=>whnf
      refine ak (aj (T:=bf) rfl rfl (ah (cp10)) rfl) ?_
      conv=>whnf
      refine(allQ (p:=p) (w:=w) (g:=g) hno hnn hko n).1.block 0 s10 (m8+1) _ k10 (by omega) SY (by omega) ?_
      generalize dD n 0 (all.drop (m8+1))=rb at hgb hQ
      cases rb with
      | out=>exact hgb.elim
      | bad c l=>
        have hQ:Oq p w g all σ Q (.bad c l):=hQ
        intro Bd s11 S_ k11 hB
        have B_:=S_.get (by omega) qL
        have AP:=S_.get (by omega) sJ
        have Ou:=S_.get (by omega) cp10
        have VP:=RU.trans S_
        have l11:=S_.len
        refine dJ _ _ ?_
        conv=>whnf
        refine⟨?_,?_⟩
        ·conv=>whnf
         refine ak (aj (T:=dY) rfl rfl (ah (AP)) rfl) ?_
         rfl
        conv=>whnf
        refine ak (ji (T:=dL) [.s t6.s,A,.b true,Bd,.i .i64 t.l] hB rfl rfl B_ (aU rfl) rfl) ?_
        have k12:=k11.bT B_ (by decide) (by decide) (by decide) ⟨0,false,.cells 69 [.s t6.s,A,.b true,Bd,.i .i64 t.l]⟩
        have cx12:(List.set s11 σ1.length ⟨0,false,.cells 69 [.s t6.s,A,.b true,Bd,.i .i64 t.l]⟩)[σ1.length]? =some ⟨0,false,.cells 69 [.s t6.s,A,.b true,Bd,.i .i64 t.l]⟩:=at_set B_ _
        have cv12:(List.set s11 σ1.length ⟨0,false,.cells 69 [.s t6.s,A,.b true,Bd,.i .i64 t.l]⟩)[σ3.length]? =_:=aK AP (by omega) _
        have cp12:(List.set s11 σ1.length ⟨0,false,.cells 69 [.s t6.s,A,.b true,Bd,.i .i64 t.l]⟩)[σ.length]? =_:=aK Ou (by omega) _
        have X12:aN p σ (List.set s11 σ1.length ⟨0,false,.cells 69 [.s t6.s,A,.b true,Bd,.i .i64 t.l]⟩):=VP.bJ (bV.bT _ _ _ _) (by omega)
        have l12:(List.set s11 σ1.length ⟨0,false,.cells 69 [.s t6.s,A,.b true,Bd,.i .i64 t.l]⟩).length=s11.length:=gK
        conv=>whnf
        refine ak (aj (T:=dY) rfl rfl (ah (cv12)) rfl) ?_
        conv=>whnf
        exact Fin.ref rfl (hQ _ _ X12 k12)
      | ok bd dM=>
        have hQ:Oq p w g all σ Q (.ok ⟨t6.s,ps,true,bd,t.l⟩ dM):=hQ
        intro Bd s11 m9 S_ k11 FW hbd hB
        have B_:=S_.get (by omega) qL
        have AP:=S_.get (by omega) sJ
        have Ou:=S_.get (by omega) cp10
        have VP:=RU.trans S_
        have l11:=S_.len
        refine dJ _ _ ?_
        conv=>whnf
        refine⟨?_,?_⟩
        ·conv=>whnf
         refine ak (aj (T:=dY) rfl rfl (ah (AP)) rfl) ?_
         rfl
        conv=>whnf
        refine ak (ji (T:=dL) [.s t6.s,A,.b true,Bd,.i .i64 t.l] hB rfl rfl B_ (aU rfl) rfl) ?_
        have k12:=k11.bT B_ (by decide) (by decide) ⟨0,false,.cells 69 [.s t6.s,A,.b true,Bd,.i .i64 t.l]⟩
        have cx12:(List.set s11 σ1.length ⟨0,false,.cells 69 [.s t6.s,A,.b true,Bd,.i .i64 t.l]⟩)[σ1.length]? =some ⟨0,false,.cells 69 [.s t6.s,A,.b true,Bd,.i .i64 t.l]⟩:=at_set B_ _
        have cv12:(List.set s11 σ1.length ⟨0,false,.cells 69 [.s t6.s,A,.b true,Bd,.i .i64 t.l]⟩)[σ3.length]? =_:=aK AP (by omega) _
        have cp12:(List.set s11 σ1.length ⟨0,false,.cells 69 [.s t6.s,A,.b true,Bd,.i .i64 t.l]⟩)[σ.length]? =_:=aK Ou (by omega) _
        have X12:aN p σ (List.set s11 σ1.length ⟨0,false,.cells 69 [.s t6.s,A,.b true,Bd,.i .i64 t.l]⟩):=VP.bJ (bV.bT _ _ _ _) (by omega)
        have l12:(List.set s11 σ1.length ⟨0,false,.cells 69 [.s t6.s,A,.b true,Bd,.i .i64 t.l]⟩).length=s11.length:=gK
        conv=>whnf
        refine ak (aj (T:=dY) rfl rfl (ah (cv12)) rfl) ?_
        conv=>whnf
        refine Fin.ref rfl (hQ _ _ _ X12 k12 FW ⟨σ1.length,A,Bd,by omega,rfl,cx12,?_,?_⟩)
        ·exact ha10.mono (fun i hi=>by omega) (fun i hi a ha=>aK (S_.get (by have:=bK ha;omega) ha) (by omega) _)
        ·exact dX.mono (fun i hi=>by omega) (fun i hi a ha=>aK ha (by omega) _) hbd
     ·have VH:aY dA (t8 :: r8)=false:=hi
      have hQ:Oq p w g all σ Q ((dD n 0 (t8 :: r8)).bind fun b bI=>.ok ⟨t6.s,ps,false,b,t.l⟩ bI):=by
            simp only [VH,if_neg Bool.false_ne_true] at hQ;exact hQ
      rw [←qJ] at hQ
      conv=>whnf
      refine⟨?_,?_⟩
      ·conv=>whnf
       refine ak (aj (T:=dY) rfl rfl (ah (oM)) rfl) ?_
       rfl
      conv=>whnf
      refine ak (aC (T:=xH) ([.s t6.s,A,.b false,.sl0,.i .i64 t.l]) rfl (mZ) rfl rfl (aU rfl) rfl) ?_
      conv=>whnf
      have k9:=k8.bT mZ (by decide) (by decide) ⟨0,false,.cells 69 [.s t6.s,A,.b false,.sl0,.i .i64 t.l]⟩
      have EM:(List.set s8 σ1.length ⟨0,false,.cells 69 [.s t6.s,A,.b false,.sl0,.i .i64 t.l]⟩)[σ1.length]? =some ⟨0,false,.cells 69 [.s t6.s,A,.b false,.sl0,.i .i64 t.l]⟩:=at_set mZ _
      have CS:(List.set s8 σ1.length ⟨0,false,.cells 69 [.s t6.s,A,.b false,.sl0,.i .i64 t.l]⟩)[σ3.length]? =_:=aK oM (by omega) _
      have Np:(List.set s8 σ1.length ⟨0,false,.cells 69 [.s t6.s,A,.b false,.sl0,.i .i64 t.l]⟩)[σ.length]? =_:=aK cp8 (by omega) _
      have X9:aN p σ (List.set s8 σ1.length ⟨0,false,.cells 69 [.s t6.s,A,.b false,.sl0,.i .i64 t.l]⟩):=X8.bJ (bV.bT _ _ _ _) (by omega)
      have l9:(List.set s8 σ1.length ⟨0,false,.cells 69 [.s t6.s,A,.b false,.sl0,.i .i64 t.l]⟩).length=s8.length:=gK
      have ha9:sF (fun i=>σ1.length<i) (List.set s8 σ1.length ⟨0,false,.cells 69 [.s t6.s,A,.b false,.sl0,.i .i64 t.l]⟩) A ps:=(show sF (fun i=>s7.length≤i) s8 A ps from ha8).mono (fun i hi=>by omega) (fun i hi a ha=>aK ha (by omega) _)
      generalize List.set s8 σ1.length ⟨0,false,.cells 69 [.s t6.s,A,.b false,.sl0,.i .i64 t.l]⟩=s9 at k9 EM CS Np X9 l9 ha9 ⊢
      have hgb:=(FN n).block 0 (all.drop (m8)) he8 (by omega)
      conv=>whnf
      refine ak (aj (T:=dY) rfl rfl (ah (CS)) rfl) ?_
      conv=>whnf
      refine ak (aj (T:=bf) rfl rfl (ah (Np)) rfl) ?_
      conv=>whnf
      refine(allQ (p:=p) (w:=w) (g:=g) hno hnn hko n).1.block 0 s9 (m8) _ k9 (by omega) he8 (by omega) ?_
      generalize dD n 0 (all.drop (m8))=rb at hgb hQ
      cases rb with
      | out=>exact hgb.elim
      | bad c l=>
        have hQ:Oq p w g all σ Q (.bad c l):=hQ
        intro Bd s10 CV k10 hB
        have qL:=CV.get (by omega) EM
        have sJ:=CV.get (by omega) CS
        have cp10:=CV.get (by omega) Np
        have RU:=X9.trans CV
        have l10:=CV.len
        refine dJ _ _ ?_
        conv=>whnf
        refine⟨?_,?_⟩
        ·conv=>whnf
         refine ak (aj (T:=dY) rfl rfl (ah (sJ)) rfl) ?_
         rfl
        conv=>whnf
        refine ak (ji (T:=dL) [.s t6.s,A,.b false,Bd,.i .i64 t.l] hB rfl rfl qL (aU rfl) rfl) ?_
        have k11:=k10.bT qL (by decide) (by decide) (by decide) ⟨0,false,.cells 69 [.s t6.s,A,.b false,Bd,.i .i64 t.l]⟩
        have B_:(List.set s10 σ1.length ⟨0,false,.cells 69 [.s t6.s,A,.b false,Bd,.i .i64 t.l]⟩)[σ1.length]? =some ⟨0,false,.cells 69 [.s t6.s,A,.b false,Bd,.i .i64 t.l]⟩:=at_set qL _
        have AP:(List.set s10 σ1.length ⟨0,false,.cells 69 [.s t6.s,A,.b false,Bd,.i .i64 t.l]⟩)[σ3.length]? =_:=aK sJ (by omega) _
        have Ou:(List.set s10 σ1.length ⟨0,false,.cells 69 [.s t6.s,A,.b false,Bd,.i .i64 t.l]⟩)[σ.length]? =_:=aK cp10 (by omega) _
        have VP:aN p σ (List.set s10 σ1.length ⟨0,false,.cells 69 [.s t6.s,A,.b false,Bd,.i .i64 t.l]⟩):=RU.bJ (bV.bT _ _ _ _) (by omega)
        have l11:(List.set s10 σ1.length ⟨0,false,.cells 69 [.s t6.s,A,.b false,Bd,.i .i64 t.l]⟩).length=s10.length:=gK
        conv=>whnf
        refine ak (aj (T:=dY) rfl rfl (ah (AP)) rfl) ?_
        conv=>whnf
        exact Fin.ref rfl (hQ _ _ VP k11)
      | ok bd dM=>
        have hQ:Oq p w g all σ Q (.ok ⟨t6.s,ps,false,bd,t.l⟩ dM):=hQ
        intro Bd s10 m9 CV k10 FW hbd hB
        have qL:=CV.get (by omega) EM
        have sJ:=CV.get (by omega) CS
        have cp10:=CV.get (by omega) Np
        have RU:=X9.trans CV
        have l10:=CV.len
        refine dJ _ _ ?_
        conv=>whnf
        refine⟨?_,?_⟩
        ·conv=>whnf
         refine ak (aj (T:=dY) rfl rfl (ah (sJ)) rfl) ?_
         rfl
        conv=>whnf
        refine ak (ji (T:=dL) [.s t6.s,A,.b false,Bd,.i .i64 t.l] hB rfl rfl qL (aU rfl) rfl) ?_
        have k11:=k10.bT qL (by decide) (by decide) ⟨0,false,.cells 69 [.s t6.s,A,.b false,Bd,.i .i64 t.l]⟩
        have B_:(List.set s10 σ1.length ⟨0,false,.cells 69 [.s t6.s,A,.b false,Bd,.i .i64 t.l]⟩)[σ1.length]? =some ⟨0,false,.cells 69 [.s t6.s,A,.b false,Bd,.i .i64 t.l]⟩:=at_set qL _
        have AP:(List.set s10 σ1.length ⟨0,false,.cells 69 [.s t6.s,A,.b false,Bd,.i .i64 t.l]⟩)[σ3.length]? =_:=aK sJ (by omega) _
        have Ou:(List.set s10 σ1.length ⟨0,false,.cells 69 [.s t6.s,A,.b false,Bd,.i .i64 t.l]⟩)[σ.length]? =_:=aK cp10 (by omega) _
        have VP:aN p σ (List.set s10 σ1.length ⟨0,false,.cells 69 [.s t6.s,A,.b false,Bd,.i .i64 t.l]⟩):=RU.bJ (bV.bT _ _ _ _) (by omega)
        have l11:(List.set s10 σ1.length ⟨0,false,.cells 69 [.s t6.s,A,.b false,Bd,.i .i64 t.l]⟩).length=s10.length:=gK
        conv=>whnf
        refine ak (aj (T:=dY) rfl rfl (ah (AP)) rfl) ?_
        conv=>whnf
        refine Fin.ref rfl (hQ _ _ _ VP k11 FW ⟨σ1.length,A,Bd,by omega,rfl,B_,?_,?_⟩)
        ·exact ha9.mono (fun i hi=>by omega) (fun i hi a ha=>aK (CV.get (by have:=bK ha;omega) ha) (by omega) _)
        ·exact dX.mono (fun i hi=>by omega) (fun i hi a ha=>aK ha (by omega) _) hbd
  ·simp only [fA,if_neg hk1] at hQ
   have hQ:Oq p w g all σ Q (.bad 4 t6.l):=hQ
   have wI:=y6.get (by omega) zK
   have yZ:=y6.get (by omega) uK
   have cp6:=y6.get (by omega) cp5
   have X6:=X5.trans y6
   have l6:=y6.len
   conv=>whnf
   refine⟨?_,?_⟩
   ·conv=>whnf
    refine ak (aj (T:=dY) rfl rfl (ah (yZ)) rfl) ?_
    rfl
   conv=>whnf
   refine ak (aC (T:=fB) ([.s [],.sl0,.b false,.sl0,.i .i64 t.l]) rfl (wI) rfl rfl (aU rfl) rfl) ?_
   conv=>whnf
   have k7:=k6.bT wI (by decide) (by decide) (by decide) ⟨0,false,.cells 69 [.s [],.sl0,.b false,.sl0,.i .i64 t.l]⟩
   have wY:(List.set s6 σ1.length ⟨0,false,.cells 69 [.s [],.sl0,.b false,.sl0,.i .i64 t.l]⟩)[σ1.length]? =some ⟨0,false,.cells 69 [.s [],.sl0,.b false,.sl0,.i .i64 t.l]⟩:=at_set wI _
   have wZ:(List.set s6 σ1.length ⟨0,false,.cells 69 [.s [],.sl0,.b false,.sl0,.i .i64 t.l]⟩)[σ3.length]? =_:=aK yZ (by omega) _
   have S9:(List.set s6 σ1.length ⟨0,false,.cells 69 [.s [],.sl0,.b false,.sl0,.i .i64 t.l]⟩)[σ.length]? =_:=aK cp6 (by omega) _
   have X7:aN p σ (List.set s6 σ1.length ⟨0,false,.cells 69 [.s [],.sl0,.b false,.sl0,.i .i64 t.l]⟩):=X6.bJ (bV.bT _ _ _ _) (by omega)
   have l7:(List.set s6 σ1.length ⟨0,false,.cells 69 [.s [],.sl0,.b false,.sl0,.i .i64 t.l]⟩).length=s6.length:=gK
   generalize List.set s6 σ1.length ⟨0,false,.cells 69 [.s [],.sl0,.b false,.sl0,.i .i64 t.l]⟩=s7 at k7 wY wZ S9 X7 l7 ⊢
   conv=>whnf
   refine ak (aj (T:=bf) rfl rfl (ah (S9)) rfl) ?_
   conv=>whnf
   refine VL k7 (aU rfl) fun s8 y8 k8=>?_
   have mZ:=y8.get (by omega) wY
   have oM:=y8.get (by omega) wZ
   have cp8:=y8.get (by omega) S9
   have X8:=X7.trans y8
   have l8:=y8.len
   conv=>whnf
   refine ak (aj (T:=dY) rfl rfl (ah (oM)) rfl) ?_
   conv=>whnf
   refine ak (aj (T:=bf) rfl rfl (ah (cp8)) rfl) ?_
   conv=>whnf
   refine au.to (ni [112,116,114] k8) ?_
   conv=>whnf
   refine⟨?_,?_⟩
   ·conv=>whnf
    refine ak (aj (T:=dY) rfl rfl (ah (oM)) rfl) ?_
    rfl
   conv=>whnf
   refine ak (aC (T:=xH) ([.s [],.sl0,.b false,.sl0,.i .i64 t.l]) rfl (mZ) rfl rfl (aU rfl) rfl) ?_
   conv=>whnf
   have k9:=k8.bT mZ (by decide) (by decide) (by decide) ⟨0,false,.cells 69 [.s [],.sl0,.b false,.sl0,.i .i64 t.l]⟩
   have EM:(List.set s8 σ1.length ⟨0,false,.cells 69 [.s [],.sl0,.b false,.sl0,.i .i64 t.l]⟩)[σ1.length]? =some ⟨0,false,.cells 69 [.s [],.sl0,.b false,.sl0,.i .i64 t.l]⟩:=at_set mZ _
   have CS:(List.set s8 σ1.length ⟨0,false,.cells 69 [.s [],.sl0,.b false,.sl0,.i .i64 t.l]⟩)[σ3.length]? =_:=aK oM (by omega) _
   have Np:(List.set s8 σ1.length ⟨0,false,.cells 69 [.s [],.sl0,.b false,.sl0,.i .i64 t.l]⟩)[σ.length]? =_:=aK cp8 (by omega) _
   have X9:aN p σ (List.set s8 σ1.length ⟨0,false,.cells 69 [.s [],.sl0,.b false,.sl0,.i .i64 t.l]⟩):=X8.bJ (bV.bT _ _ _ _) (by omega)
   have l9:(List.set s8 σ1.length ⟨0,false,.cells 69 [.s [],.sl0,.b false,.sl0,.i .i64 t.l]⟩).length=s8.length:=gK
   generalize List.set s8 σ1.length ⟨0,false,.cells 69 [.s [],.sl0,.b false,.sl0,.i .i64 t.l]⟩=s9 at k9 EM CS Np X9 l9 ⊢
   conv=>whnf
   refine ak (aj (T:=dY) rfl rfl (ah (CS)) rfl) ?_
   conv=>whnf
   refine ak (aj (T:=bf) rfl rfl (ah (Np)) rfl) ?_
   conv=>whnf
   refine yY k9 (aU rfl) fun s10 CV k10=>?_
   have qL:=CV.get (by omega) EM
   have sJ:=CV.get (by omega) CS
   have cp10:=CV.get (by omega) Np
   have RU:=X9.trans CV
   have l10:=CV.len
   conv=>whnf
   refine⟨?_,?_⟩
   ·conv=>whnf
    refine ak (aj (T:=dY) rfl rfl (ah (sJ)) rfl) ?_
    rfl
   conv=>whnf
   refine ak (aC (T:=dL) ([.s [],.sl0,.b false,.sl0,.i .i64 t.l]) rfl (qL) rfl rfl (aU rfl) rfl) ?_
   conv=>whnf
   have k11:=k10.bT qL (by decide) (by decide) (by decide) ⟨0,false,.cells 69 [.s [],.sl0,.b false,.sl0,.i .i64 t.l]⟩
   have B_:(List.set s10 σ1.length ⟨0,false,.cells 69 [.s [],.sl0,.b false,.sl0,.i .i64 t.l]⟩)[σ1.length]? =some ⟨0,false,.cells 69 [.s [],.sl0,.b false,.sl0,.i .i64 t.l]⟩:=at_set qL _
   have AP:(List.set s10 σ1.length ⟨0,false,.cells 69 [.s [],.sl0,.b false,.sl0,.i .i64 t.l]⟩)[σ3.length]? =_:=aK sJ (by omega) _
   have Ou:(List.set s10 σ1.length ⟨0,false,.cells 69 [.s [],.sl0,.b false,.sl0,.i .i64 t.l]⟩)[σ.length]? =_:=aK cp10 (by omega) _
   have VP:aN p σ (List.set s10 σ1.length ⟨0,false,.cells 69 [.s [],.sl0,.b false,.sl0,.i .i64 t.l]⟩):=RU.bJ (bV.bT _ _ _ _) (by omega)
   have l11:(List.set s10 σ1.length ⟨0,false,.cells 69 [.s [],.sl0,.b false,.sl0,.i .i64 t.l]⟩).length=s10.length:=gK
   conv=>whnf
   refine ak (aj (T:=dY) rfl rfl (ah (AP)) rfl) ?_
   conv=>whnf
   exact Fin.ref rfl (hQ _ _ VP k11)
 ·rw [aQ,if_neg (show ¬aY pV (t :: r)=true by rw [show aY pV (t :: r)=iK [102,117,110,99] t from rfl,hi];decide)] at hQ
  have hQ:Oq p w g all σ Q (.bad 4 t.l):=hQ
  have zK:=y5.get (by omega) cx4
  have uK:=y5.get (by omega) cv4
  have cp5:=y5.get (by omega) cp4
  have X5:=X4.trans y5
  have l5:=y5.len
  conv=>whnf
  refine ak (aj (T:=dY) rfl rfl (ah (uK)) rfl) ?_
  conv=>whnf
  refine ak (aj (T:=bf) rfl rfl (ah (cp5)) rfl) ?_
  conv=>whnf
  refine au.to (Jc k5) ?_
  conv=>whnf
  refine⟨?_,?_⟩
  ·conv=>whnf
   refine ak (aj (T:=dY) rfl rfl (ah (uK)) rfl) ?_
   rfl
  conv=>whnf
  refine ak (aC (T:=fB) ([.s [],.sl0,.b false,.sl0,.i .i64 t.l]) rfl (zK) rfl rfl (aU rfl) rfl) ?_
  conv=>whnf
  have k6:=k5.bT zK (by decide) (by decide) (by decide) ⟨0,false,.cells 69 [.s [],.sl0,.b false,.sl0,.i .i64 t.l]⟩
  have wI:(List.set s5 σ1.length ⟨0,false,.cells 69 [.s [],.sl0,.b false,.sl0,.i .i64 t.l]⟩)[σ1.length]? =some ⟨0,false,.cells 69 [.s [],.sl0,.b false,.sl0,.i .i64 t.l]⟩:=at_set zK _
  have yZ:(List.set s5 σ1.length ⟨0,false,.cells 69 [.s [],.sl0,.b false,.sl0,.i .i64 t.l]⟩)[σ3.length]? =_:=aK uK (by omega) _
  have cp6:(List.set s5 σ1.length ⟨0,false,.cells 69 [.s [],.sl0,.b false,.sl0,.i .i64 t.l]⟩)[σ.length]? =_:=aK cp5 (by omega) _
  have X6:aN p σ (List.set s5 σ1.length ⟨0,false,.cells 69 [.s [],.sl0,.b false,.sl0,.i .i64 t.l]⟩):=X5.bJ (bV.bT _ _ _ _) (by omega)
  have l6:(List.set s5 σ1.length ⟨0,false,.cells 69 [.s [],.sl0,.b false,.sl0,.i .i64 t.l]⟩).length=s5.length:=gK
  generalize List.set s5 σ1.length ⟨0,false,.cells 69 [.s [],.sl0,.b false,.sl0,.i .i64 t.l]⟩=s6 at k6 wI yZ cp6 X6 l6 ⊢
  conv=>whnf
  refine ak (aj (T:=bf) rfl rfl (ah (cp6)) rfl) ?_
  conv=>whnf
  refine VL k6 (aU rfl) fun s7 y7 k7=>?_
  have wY:=y7.get (by omega) wI
  have wZ:=y7.get (by omega) yZ
  have S9:=y7.get (by omega) cp6
  have X7:=X6.trans y7
  have l7:=y7.len
  conv=>whnf
  refine ak (aj (T:=dY) rfl rfl (ah (wZ)) rfl) ?_
  conv=>whnf
  refine ak (aj (T:=bf) rfl rfl (ah (S9)) rfl) ?_
  conv=>whnf
  refine au.to (ni [112,116,114] k7) ?_
  conv=>whnf
  refine⟨?_,?_⟩
  ·conv=>whnf
   refine ak (aj (T:=dY) rfl rfl (ah (wZ)) rfl) ?_
   rfl
  conv=>whnf
  refine ak (aC (T:=xH) ([.s [],.sl0,.b false,.sl0,.i .i64 t.l]) rfl (wY) rfl rfl (aU rfl) rfl) ?_
  conv=>whnf
  have k8:=k7.bT wY (by decide) (by decide) (by decide) ⟨0,false,.cells 69 [.s [],.sl0,.b false,.sl0,.i .i64 t.l]⟩
  have mZ:(List.set s7 σ1.length ⟨0,false,.cells 69 [.s [],.sl0,.b false,.sl0,.i .i64 t.l]⟩)[σ1.length]? =some ⟨0,false,.cells 69 [.s [],.sl0,.b false,.sl0,.i .i64 t.l]⟩:=at_set wY _
  have oM:(List.set s7 σ1.length ⟨0,false,.cells 69 [.s [],.sl0,.b false,.sl0,.i .i64 t.l]⟩)[σ3.length]? =_:=aK wZ (by omega) _
  have cp8:(List.set s7 σ1.length ⟨0,false,.cells 69 [.s [],.sl0,.b false,.sl0,.i .i64 t.l]⟩)[σ.length]? =_:=aK S9 (by omega) _
  have X8:aN p σ (List.set s7 σ1.length ⟨0,false,.cells 69 [.s [],.sl0,.b false,.sl0,.i .i64 t.l]⟩):=X7.bJ (bV.bT _ _ _ _) (by omega)
  have l8:(List.set s7 σ1.length ⟨0,false,.cells 69 [.s [],.sl0,.b false,.sl0,.i .i64 t.l]⟩).length=s7.length:=gK
  generalize List.set s7 σ1.length ⟨0,false,.cells 69 [.s [],.sl0,.b false,.sl0,.i .i64 t.l]⟩=s8 at k8 mZ oM cp8 X8 l8 ⊢
  conv=>whnf
  refine ak (aj (T:=dY) rfl rfl (ah (oM)) rfl) ?_
  conv=>whnf
  refine ak (aj (T:=bf) rfl rfl (ah (cp8)) rfl) ?_
  conv=>whnf
  refine yY k8 (aU rfl) fun s9 y9 k9=>?_
  have EM:=y9.get (by omega) mZ
  have CS:=y9.get (by omega) oM
  have Np:=y9.get (by omega) cp8
  have X9:=X8.trans y9
  have l9:=y9.len
  conv=>whnf
  refine⟨?_,?_⟩
  ·conv=>whnf
   refine ak (aj (T:=dY) rfl rfl (ah (CS)) rfl) ?_
   rfl
  conv=>whnf
  refine ak (aC (T:=dL) ([.s [],.sl0,.b false,.sl0,.i .i64 t.l]) rfl (EM) rfl rfl (aU rfl) rfl) ?_
  conv=>whnf
  have k10:=k9.bT EM (by decide) (by decide) (by decide) ⟨0,false,.cells 69 [.s [],.sl0,.b false,.sl0,.i .i64 t.l]⟩
  have qL:(List.set s9 σ1.length ⟨0,false,.cells 69 [.s [],.sl0,.b false,.sl0,.i .i64 t.l]⟩)[σ1.length]? =some ⟨0,false,.cells 69 [.s [],.sl0,.b false,.sl0,.i .i64 t.l]⟩:=at_set EM _
  have sJ:(List.set s9 σ1.length ⟨0,false,.cells 69 [.s [],.sl0,.b false,.sl0,.i .i64 t.l]⟩)[σ3.length]? =_:=aK CS (by omega) _
  have cp10:(List.set s9 σ1.length ⟨0,false,.cells 69 [.s [],.sl0,.b false,.sl0,.i .i64 t.l]⟩)[σ.length]? =_:=aK Np (by omega) _
  have RU:aN p σ (List.set s9 σ1.length ⟨0,false,.cells 69 [.s [],.sl0,.b false,.sl0,.i .i64 t.l]⟩):=X9.bJ (bV.bT _ _ _ _) (by omega)
  have l10:(List.set s9 σ1.length ⟨0,false,.cells 69 [.s [],.sl0,.b false,.sl0,.i .i64 t.l]⟩).length=s9.length:=gK
  conv=>whnf
  refine ak (aj (T:=dY) rfl rfl (ah (sJ)) rfl) ?_
  conv=>whnf
  exact Fin.ref rfl (hQ _ _ RU k10)
end
end Go.Abs.YtlkfbfhkcaldlaaGreatDoor
namespace Go.Abs.YtlkfbfhkcaldlaaGreatDoor
open Go.Proofs
def Qi (z:Tok):Prop:=(z.k=2→((∀c∈z.s,48≤c.toNat∧c.toNat≤57)∧lD 0 z.s<4294967296∧z.s.length≤100000)∧z.s≠[])∧(z.k=4→z.s∈keys)∧(z.k=3→z.s∉keys)
theorem Qj:∀(l:List UInt8) (v:Nat),BH v l=true→v<4294967296→lD v l<4294967296
 | [],v,_,hv=>hv
 | c :: l,v,h,_=>by
   unfold BH at h
   split at h
   ·cases h
   ·exact Qj l _ h (by omega)
theorem step_ok (c:UInt8)(t:List UInt8)(k n l:Nat)(hl:(c :: t).length≤32768)(h:step (c :: t)= .tok k n):Qi ⟨k,(c :: t).take n,l⟩:=by
 unfold step at h
 split at h
 ·cases h
 ·simp only at h
  split at h
  ·cases h
  ·split at h
   ·split at h
    ·cases h
    ·split at h
     ·rename_i hk
      cases h
      exact⟨fun e=>by simp at e,fun _=>List.contains_iff_mem.1 hk,fun e=>by simp at e⟩
     ·cases h
      exact⟨fun e=>by simp at e,fun e=>by simp at e,fun e=>by simp at e⟩
   ·rename_i hlet
    split at h
    ·rename_i hd
     split at h
     ·cases h
     ·split at h
      ·cases h
      ·rename_i hbig
       cases h
       have hall:=CJ isDigit (c :: t)
       have hne:(c :: t).take (run isDigit (c :: t))≠[]:=by
                have hp:0<run isDigit (c :: t):=vG _ hd
                obtain⟨k,hk⟩:∃k,run isDigit (c :: t)=k+1:=⟨_,(Nat.sub_add_cancel hp).symm⟩
                rw [hk,List.take_succ_cons];simp
       have hok:BH 0 ((c :: t).take (run isDigit (c :: t)))=true:=by
                rw [Oa hall hne] at hbig
                simpa using hbig
       refine⟨fun _=>⟨⟨fun x hx=>?_,Qj _ 0 hok (by decide),?_⟩,hne⟩,fun e=>by simp at e,fun e=>by simp at e⟩
       ·have:=hall x hx
        simp only [isDigit,fJ,decide_eq_true_eq] at this
        omega
       ·have hr:=rM isDigit (c :: t)
        show ((c :: t).take (run isDigit (c :: t))).length≤100000
        rw [List.length_take];omega
    ·split at h
     ·have hk:∀n,(c :: t).take (n+1)∉keys:=by
       intro n hm
       have hh:∀w∈keys,∀a∈w.head?,bQ a.toNat=true:=by decide
       have:=hh _ hm c (by rw [List.take_succ_cons];rfl)
       exact hlet this
      split at h
      ·cases h
       exact⟨fun e=>by simp at e,fun e=>by simp at e,fun _=>hk 1⟩
      ·cases h
       exact⟨fun e=>by simp at e,fun e=>by simp at e,fun _=>hk 0⟩
     ·cases h
theorem Ji:∀(n:Nat) (s:List UInt8) (l:Nat) (acc l':List Tok) (n':Nat),s.length≤32768→(∀z∈acc,Qi z)→mP n s l acc= .done l' n'→∀z∈l',Qi z
 | _,[],l,acc,l',n',_,ha,h=>by
   unfold mP at h;cases h;exact ha
 | 0,c :: t,l,acc,l',n',_,ha,h=>by
   unfold mP at h;cases h;exact ha
 | n+1,c :: t,l,acc,l',n',hs,ha,h=>by
   unfold mP at h
   have hf:=jh c t
   cases hst:step (c :: t) with
   | skip k nl=>
     rw [hst] at h
     exact Ji n _ _ acc l' n' (by rw [pF];omega) ha h
   | tok k m=>
     rw [hst] at h
     refine Ji n _ _ _ l' n' (by rw [pF];omega) (fun z hz=>?_) h
     rcases List.mem_append.1 hz with hz | hz
     ·exact ha z hz
     ·rw [List.mem_singleton.1 hz]
      exact step_ok c t k m l hs hst
   | err e=>rw [hst] at h;cases h
theorem L_ (z:Tok)(hz:z.k=5):∀l:List Tok,aZ (l ++ [z])
 | []=>by
   show aZ [z]
   unfold aZ
   rw [if_pos rfl];exact hz
 | x :: l=>by
   show aZ (x :: (l ++ [z]))
   unfold aZ
   rw [if_neg (by simp)]
   exact L_ z hz l
theorem Qk {t:List UInt8} {l:List Tok} (h:uj t= .toks l):aZ l∧EH l∧EJ l∧LZ l:=by
 unfold uj at h
 split at h
 ·cases h
 ·cases hG:mP t.length t 0 [] with
  | bad e l=>rw [hG] at h;cases h
  | done l0 n=>
    rw [hG] at h
    cases h
    have h0:=Ji t.length t 0 [] l0 n (by omega) (fun z hz=>by cases hz) hG
    have h1:∀z∈l0 ++ [⟨5,[],n⟩],Qi z:=by
        intro z hz
        rcases List.mem_append.1 hz with hz | hz
        ·exact h0 z hz
        ·rw [List.mem_singleton.1 hz]
         exact⟨fun e=>by simp at e,fun e=>by simp at e,fun e=>by simp at e⟩
    exact⟨L_ _ rfl _,fun z hz hk=>((h1 z hz).1 hk).1,fun z hz hk=>((h1 z hz).1 hk).2,fun z hz=>(h1 z hz).2⟩
end Go.Abs.YtlkfbfhkcaldlaaGreatDoor
namespace Go.Abs.YtlkfbfhkcaldlaaGreatDoor
open Go.Proofs
set_option maxRecDepth 4000
def RV (B:Nat)(σ:St)(v:AV)(cs:List AV):Prop:=(cs=[]∧v= .sl0)∨∃o g,B≤o∧v= .sl o g 0 cs.length 1∧σ[o]? =some ⟨g,false,.cells 64 cs⟩∧cs≠[]
theorem VQ {B:Nat} {σ:St} {v:AV} {cs:List AV} (h:RV B σ v cs) {oy gy:Nat} (hcs:cs.all AV.one=true)(hl:cs.length≤100000) {C:Nat} (hC:σ[C]? =some ⟨0,false,.cells 64 [.p oy gy 0]⟩)(hB:B≤σ.length) {Q:AV→St→Prop}
 (q:∀v' σ',RV B σ' v' (cs ++ [.p oy gy 0])→σ.length≤σ'.length→(∀i,i<σ.length→apart v i→σ'[i]? =σ[i]?∧apart v' i)→(∀i,i<B→σ'[i]? =σ[i]?)→(∀i,σ'.length≤i→apart v' i)→Q v' σ') :
 D8 KL.get false 58 v (.sl C 0 0 1 1) σ Q:=by
 constructor
 refine ak (v:=ug) rfl ?_
 refine ak (v:=dY) rfl ?_
 refine ak (kG hC (aU rfl)) ?_
 rcases h with ⟨rfl,rfl⟩ | ⟨o,g,h1,rfl,h3,_⟩
 ·refine⟨aU rfl,?_⟩
  refine q _ _ (.inr ⟨σ.length,0,hB,rfl,?_,by simp⟩) (by rw [aH];omega) (fun i hi _=>⟨eu hi,fun o g n z e=>by cases e;omega⟩) (fun i hi=>eu (by omega)) (fun i hi o g n z e=>by cases e;rw [aH] at hi;omega)
  rw [aG];rfl
 ·refine ak (oC h3) ?_
  refine⟨rfl,by simp,?_,by rw [List.drop_zero,List.take_of_length_le (by omega)];exact hcs,?_⟩
  ·show (cs.length+1)*8≤_;omega
  refine q _ _ (.inr ⟨o,g+1,h1,by simp,?_,by simp⟩) (by rw [gK];exact Nat.le_refl _) (fun i hi ha=>⟨by rw [rZ (fun e=>ha o g _ _ rfl e.symm)],fun o' g' n z e=>by cases e;exact ha o g _ _ rfl⟩) (fun i hi=>by rw [rZ (by omega)]) (fun i hi o' g' n z e=>by cases e;rw [gK] at hi;have:=bK h3;omega)
  rw [at_set h3]
  simp [List.take_of_length_le]
  rfl
def ig (S:Nat→Prop)(σ:St):List AV→List Fm→Prop
 | [],[]=>True
 | a :: cs,x :: xs=>(∃o g,a= .p o g 0)∧pz S σ a x∧ig S σ cs xs
 | _,_=>False
theorem ig.mono {S S':Nat→Prop} {σ σ':St} (h1:∀o,S o→S' o)(h2:∀o,S o→∀a,σ[o]? =some a→σ'[o]? =some a):∀{cs:List AV} {xs:List Fm},ig S σ cs xs→ig S' σ' cs xs
 | [],[],_=>trivial
 | a :: cs,x :: xs,h=>⟨h.1,h.2.1.mono h1 h2,ig.mono h1 h2 h.2.2⟩
theorem ig.snoc {S:Nat→Prop} {σ:St} :∀{cs:List AV} {xs:List Fm} {a:AV} {x:Fm},ig S σ cs xs→(∃o g,a= .p o g 0)→pz S σ a x→ig S σ (cs ++ [a]) (xs ++ [x])
 | [],[],a,x,_,ha,hx=>⟨ha,hx,trivial⟩
 | b :: cs,y :: xs,a,x,h,ha,hx=>⟨h.1,h.2.1,ig.snoc h.2.2 ha hx⟩
theorem ig.len {S:Nat→Prop} {σ:St} :∀{cs:List AV} {xs:List Fm},ig S σ cs xs→cs.length=xs.length
 | [],[],_=>rfl
 | a :: cs,x :: xs,h=>by have:=ig.len h.2.2;simp [this]
theorem ig.one {S:Nat→Prop} {σ:St} :∀{cs:List AV} {xs:List Fm},ig S σ cs xs→cs.all AV.one=true
 | [],[],_=>rfl
 | a :: cs,x :: xs,h=>by
   obtain⟨o,g,rfl⟩:=h.1
   rw [List.all_cons,ig.one h.2.2];rfl
def FY (B:Nat)(σ:St)(v:AV)(xs:List Fm):Prop:=∃cs,RV B σ v cs∧ig (fun i=>B≤i∧apart v i) σ cs xs
theorem RV.sl {B:Nat} {σ:St} {v:AV} {cs:List AV} (h:RV B σ v cs):JI v:=by
 rcases h with ⟨_,rfl⟩ | ⟨o,g,_,rfl,_⟩
 ·exact .inl rfl
 ·exact .inr ⟨_,_,_,rfl⟩
theorem ig.below {S:Nat→Prop} {σ:St} :∀{cs:List AV} {xs:List Fm},ig S σ cs xs→ig (fun o=>S o∧o<σ.length) σ cs xs
 | [],[],_=>trivial
 | a :: cs,x :: xs,h=>⟨h.1,h.2.1.below,h.2.2.below⟩
theorem Mc {p B D:Nat} {DT σ2:St} {A:AV} {acc:List Fm} (ha:FY B DT A acc)(x2:aN p DT σ2)(hp:p<B)(hB:B≤DT.length)(hD:D≤σ2.length)(hD0:DT.length≤D)(hl:acc.length≤90000)(oy gy:Nat) {Q:AV→St→Prop}
 (q:∀o3 g3 k σ3,(∀i,i<B→σ3[i]? =σ2[i]?)→σ2.length≤σ3.length→(∀(i:Nat) (a:AO),σ2[i]? =some a→(∀(g:Nat) (ro:Bool) (cs:List AV),a≠⟨g,ro,.cells 64 cs⟩)→σ3[i]? =some a)→(∀y,pz (fun i=>D≤i) σ2 (.p oy gy 0) y→FY B σ3 (.sl o3 g3 0 k 1) (acc ++ [y]))→Q (.sl o3 g3 0 k 1) σ3) :
 D8 KL.get false 58 A (.sl σ2.length 0 0 1 1) (newCells 64 [.p oy gy 0] σ2) Q:=by
 obtain⟨cs,hraw,hea⟩:=ha
 have hcl:=hea.len
 have hco:=hea.one
 have lx:=x2.len
 have LQ:RV B (newCells 64 [.p oy gy 0] σ2) A cs:=by
  rcases hraw with h | ⟨o,g,q1,q2,q3,q4⟩
  ·exact .inl h
  ·exact .inr ⟨o,g,q1,q2,at_new (x2.get (by omega) q3) _ _,q4⟩
 have hlt:∀o g n z,A= .sl o g 0 n z→o<DT.length:=by
  intro o g n z e
  rcases hraw with ⟨_,h⟩ | ⟨o',g',q1,q2,q3,q4⟩
  ·rw [h] at e;cases e
  ·rw [q2] at e;cases e;exact bK q3
 refine VQ (B:=B) (cs:=cs) LQ hco (by omega) (aG _ _ _) (by rw [aH];omega) fun v' σ3 hr3 hl3 ho3 hb3 hap3=>?_
 rw [aH] at hl3
 obtain⟨o3,g3,p1,rfl,p3,p4⟩:=hr3.resolve_left (by simp)
 refine q _ _ _ σ3 (fun i hi=>by rw [hb3 i hi,eu (by omega)]) (by omega) (fun i a hi ht=>?_) (fun y LP=>?_)
 ·rw [(ho3 i (by rw [aH];have:=bK hi;omega) ?_).1]
  ·exact at_new hi _ _
  ·intro o g n z e
   rcases hraw with ⟨_,h⟩ | ⟨o',g',q1,q2,q3,q4⟩
   ·rw [h] at e;cases e
   ·rw [q2] at e
    cases e
    intro e
    subst e
    have:=(x2.get (by omega) q3).symm.trans hi
    exact ht _ _ _ (Option.some.inj this).symm
 refine⟨_,hr3,ig.snoc (ig.mono (fun i hi=>⟨hi.1.1,(ho3 i (by rw [aH];omega) hi.1.2).2⟩) (fun i hi a ha=>by rw [(ho3 i (by rw [aH];omega) hi.1.2).1,eu (by omega),x2.old i hi.2 (by omega)];exact ha) hea.below) ⟨_,_,rfl⟩ ?_⟩
 have hap:∀i,D≤i→apart A i:=fun i hi o g n z e=>by have:=hlt o g n z e;omega
 exact pz.mono (fun i hi=>⟨by omega,(ho3 i (by rw [aH];omega) (hap i hi.1)).2⟩) (fun i hi a ha=>by rw [(ho3 i (by rw [aH];omega) (hap i hi.1)).1];exact at_new ha _ _) LP.below
theorem FY.keep {B:Nat} {σ σ':St} {v:AV} {xs:List Fm} (h:FY B σ v xs)(k:∀(i:Nat) (a:AO),B≤i→σ[i]? =some a→σ'[i]? =some a):FY B σ' v xs:=by
 obtain⟨cs,h1,h2⟩:=h
 refine⟨cs,?_,h2.mono (fun i hi=>hi) (fun i hi a ha=>k i a hi.1 ha)⟩
 rcases h1 with h | ⟨o,g,q1,q2,q3,q4⟩
 ·exact .inl h
 ·exact .inr ⟨o,g,q1,q2,k o _ q1 q3,q4⟩
theorem PW.Jj {p w g m d:Nat} {all:List Tok} {σ σ':St} {f:AV} (h:PW p w g all σ m d f)(k:∀(i:Nat) (a:AO),σ[i]? =some a→(∀(g:Nat) (ro:Bool) (cs:List AV),a≠⟨g,ro,.cells 64 cs⟩)→σ'[i]? =some a):PW p w g all σ' m d f:=
 ⟨k _ _ h.obj (fun _ _ _ e=>by cases e),k _ _ h.tok (fun _ _ _ e=>by cases e),h.ne,h.len,h.at_,h.dp⟩
theorem PB.Jj {p d c l:Nat} {σ σ':St} (h:PB p σ d c l)(k:∀(i:Nat) (a:AO),σ[i]? =some a→(∀(g:Nat) (ro:Bool) (cs:List AV),a≠⟨g,ro,.cells 64 cs⟩)→σ'[i]? =some a):PB p σ' d c l:=by
 obtain⟨w,g,all,m,fo,fg,h1,h2,h3⟩:=h
 exact⟨w,g,all,m,fo,fg,h1.Jj k,h2,k _ _ h3 (fun _ _ _ e=>by cases e)⟩
def PFs (p w g:Nat)(all:List Tok)(B q:Nat)(σ:St)(acc:List Fm)(Q:Out→Env→St→Prop):Re (List Fm)→Prop
 | .ok xs ts=>∀A' σ' m' e',get e' 6= .p p 0 0→get e' 7= .p q 0 0→dO p q B σ σ'→PW p w g all σ' m' 0 .p0→all.drop m'= ts→σ'[q]? =some ⟨0,false,.cells 60 [A']⟩→FY B σ' A' (acc ++ xs)→Q (.exit 0) e' σ'
 | .bad c l=>∀e' σ',get e' 6= .p p 0 0→dO p q B σ σ'→PB p σ' 0 c l→Q (.exit 0) e' σ'
 | .out=>True
section
variable {p w g:Nat} {all:List Tok}
theorem Ov {d c l q:Nat} {σ:St} {Q:Out→Env→St→Prop} (h:PB p σ d c l)(hq:∀e',get e' 6= .p p 0 0→Q (.exit 0) e' σ):aV X [6,7] TW [(6,.p p 0 0),(7,.p q 0 0)] σ Q:=by
 refine aV.round ay (lit:=false) ?_
 conv=>whnf
 refine au.to (uH h) ?_
 conv=>whnf
 exact hq _ rfl
theorem Ql (hno:EH all)(hnn:EJ all)(hko:LZ all):∀(n B q:Nat),(p<B∧w<B∧q<B)→q≠p→∀(acc:List Fm) (A:AV) (σ:St) (m:Nat) (Q:Out→Env→St→Prop),PW p w g all σ m 0 .p0→B≤σ.length→σ[q]? =some ⟨0,false,.cells 60 [A]⟩→FY B σ A acc→aZ (all.drop m)→10*(all.drop m).length+11≤n→acc.length+(all.drop m).length≤40001→PFs p w g all B q σ acc Q (eH n (all.drop m))→aV X [6,7] TW [(6,.p p 0 0),(7,.p q 0 0)] σ Q
 | 0=>by intro B q _ _ acc A σ m Q _ _ _ _ _ h;omega
 | n+1=>by
   intro B q hlt hne acc A σ m Q h hB hq ha he hn hs hQ
   have ihS:=Ql hno hnn hko n
   obtain⟨t,r,hts⟩:=he.ne
   obtain⟨ht,hr⟩:=b_ hts
   have hlr:(all.drop m).length=r.length+1:=by rw [hts];rfl
   unfold eH at hQ
   rw [hts] at hQ
   simp only at hQ
   have hsl:JI A:=by obtain⟨cs,hr,_⟩:=ha;exact hr.sl
   refine aV.round ay (lit:=false) ?_
   conv=>whnf
   refine au.to (mW h) ?_
   conv=>whnf
   refine au.to (jZ h ht) ?_
   conv=>whnf
   by_cases h5:t.k=5
   ·rw [if_pos h5] at hQ
    have hQ:PFs p w g all B q σ acc Q (.ok [] (t :: r)):=hQ
    rw [decide_eq_true (by omega)]
    conv=>whnf
    conv=>whnf
    exact hQ A σ m _ rfl rfl (.refl _ _ _ _) h hts hq (by rw [List.append_nil];exact ha)
   ·rw [if_neg h5,←hts] at hQ
    have hg:=Qc n (all.drop m) he (by omega)
    rw [decide_eq_false (by omega)]
    conv=>whnf
    conv=>whnf
    rcases hsl with rfl | ⟨oo,gg,kk,rfl⟩
    all_goals
     refine ak (aj (T:=ug) rfl rfl (ah (hq)) rfl) ?_
     conv=>whnf
     refine Ot (n:=n) hno hnn hko σ m _ h he (by omega) ?_
     generalize kH n (all.drop m)=r1 at hg hQ
     cases r1 with
     | out=>exact hg.elim
     | bad c l=>
       have hQ:PFs p w g all B q σ acc Q (.bad c l):=hQ
       intro o s2 y2 k2
       have cq:=y2.get hne hq
       have lx:=y2.len
       conv=>whnf
       refine⟨?_,?_⟩
       ·conv=>whnf
        refine ak (aj (T:=ug) rfl rfl (ah (cq)) rfl) ?_
        rfl
       conv=>whnf
       refine⟨?_,?_⟩
       ·conv=>whnf
        refine ak (aj (T:=ug) rfl rfl (ah (at_new cq _ _)) rfl) ?_
        rfl
       conv=>whnf
       refine Mc (D:=s2.length) ha y2 hlt.1 hB (Nat.le_refl _) lx (by omega) o 0 fun o3 g3 k3 s3 e3 l3 kT kA=>?_
       have dq:s3[q]? =_:=(e3 q hlt.2.2).trans cq
       have nG:=k2.Jj kT
       conv=>whnf
       refine ak (aC (T:=ug) ([.sl o3 g3 0 k3 1]) rfl (dq) rfl rfl (aU rfl) rfl) ?_
       conv=>whnf
       have k4:=nG.bT dq (by decide) (by decide) (by decide) ⟨0,false,.cells 60 [.sl o3 g3 0 k3 1]⟩
       have JJ:dO p q B σ (s3.set q ⟨0,false,.cells 60 [.sl o3 g3 0 k3 1]⟩):=⟨by rw [gK];omega,fun i hi o_ hix=>by rw [rZ (fun e=>hix e.symm),e3 i hi,y2.old i (by omega) o_]⟩
       exact Ov k4 fun e' e6=>hQ e' _ e6 JJ k4
     | ok f bI=>
       have hQ:PFs p w g all B q σ acc Q ((eH n bI).bind fun l ts=>.ok (f :: l) ts):=hQ
       intro o s2 m2 y2 k2 hm2 hf
       have cq:=y2.get hne hq
       have lx:=y2.len
       rw [←hm2] at hQ hg
       have hlt2:=hg.2.2
       conv=>whnf
       refine⟨?_,?_⟩
       ·conv=>whnf
        refine ak (aj (T:=ug) rfl rfl (ah (cq)) rfl) ?_
        rfl
       conv=>whnf
       refine⟨?_,?_⟩
       ·conv=>whnf
        refine ak (aj (T:=ug) rfl rfl (ah (at_new cq _ _)) rfl) ?_
        rfl
       conv=>whnf
       refine Mc (D:=σ.length) ha y2 hlt.1 hB lx (Nat.le_refl _) (by omega) o 0 fun o3 g3 k3 s3 e3 l3 kT kA=>?_
       have dq:s3[q]? =_:=(e3 q hlt.2.2).trans cq
       have nG:=k2.Jj kT
       conv=>whnf
       refine ak (aC (T:=ug) ([.sl o3 g3 0 k3 1]) rfl (dq) rfl rfl (aU rfl) rfl) ?_
       conv=>whnf
       have k4:=nG.bT dq (by decide) (by decide) ⟨0,false,.cells 60 [.sl o3 g3 0 k3 1]⟩
       have JJ:dO p q B σ (s3.set q ⟨0,false,.cells 60 [.sl o3 g3 0 k3 1]⟩):=⟨by rw [gK];omega,fun i hi o_ hix=>by rw [rZ (fun e=>hix e.symm),e3 i hi,y2.old i (by omega) o_]⟩
       refine ihS B q hlt hne (acc ++ [f]) _ _ m2 Q k4 (by rw [gK];omega) (at_set dq _) ((kA f hf).keep fun i a hi ha=>aK ha (by omega) _) hg.2.1 (by omega) (by rw [bM];simp only [bg,bZ];omega) ?_
       generalize eH n (all.drop m2)=r2 at hQ
       cases r2 with
       | out=>trivial
       | bad c l=>exact fun e' s4 e6 x4=>hQ e' s4 e6 (JJ.trans x4)
       | ok xs wW=>exact fun A4 s4 m4 e' e6 e7 x4 h4 hm4 hq4 VB=>hQ A4 s4 m4 e' e6 e7 (JJ.trans x4) h4 hm4 hq4 (by rw [iC] at VB;exact VB)
end
end Go.Abs.YtlkfbfhkcaldlaaGreatDoor
namespace Go.Abs.YtlkfbfhkcaldlaaGreatDoor
open Go.Proofs
set_option maxRecDepth 4000
def jR (t:List UInt8):Re (List Fm):=match uj t with
 | .bad e l=>.bad e l
 | .toks ts=>eH (10*ts.length+11) ts
def qo (S:Nat→Prop)(σ:St)(v:AV)(fs:List Fm):Prop:=∃o A,S o∧v= .p o 0 0∧σ[o]? =some ⟨0,false,.cells 60 [A]⟩∧((fs=[]∧A= .sl0)∨∃o2 g2 cs,S o2∧A= .sl o2 g2 0 cs.length 1∧σ[o2]? =some ⟨g2,false,.cells 64 cs⟩∧ig S σ cs fs∧cs≠[])
theorem FY.prog {B:Nat} {σ:St} {A:AV} {fs:List Fm} (h:FY B σ A fs) {o:Nat} (ho:B≤o)(hq:σ[o]? =some ⟨0,false,.cells 60 [A]⟩):qo (fun i=>B≤i) σ (.p o 0 0) fs:=by
 obtain⟨cs,h1,h2⟩:=h
 refine⟨o,A,ho,rfl,hq,?_⟩
 have h3:ig (fun i=>B≤i) σ cs fs:=h2.mono (fun i hi=>hi.1) (fun i _ a ha=>ha)
 rcases h1 with ⟨rfl,rfl⟩ | ⟨o2,g2,q1,q2,q3,q4⟩
 ·refine .inl ⟨?_,rfl⟩
  cases fs with
  | nil=>rfl
  | cons _ _=>exact h3.elim
 ·exact .inr ⟨o2,g2,cs,q1,q2,q3,h3,q4⟩
theorem ig.at_ {S S':Nat→Prop} {σ σ':St} {cs:List AV} {xs:List Fm} (h1:∀o,S o→S' o)(h2:∀o,S o→∀a,σ[o]? =some a→σ'[o]? =some a)(h:ig S σ cs xs):ig S' σ' cs xs:=h.mono h1 h2
theorem qo.mono {S S':Nat→Prop} {σ σ':St} (h1:∀o,S o→S' o)(h2:∀o,S o→∀a,σ[o]? =some a→σ'[o]? =some a) {fs:List Fm} {v:AV} (h:qo S σ v fs):qo S' σ' v fs:=by
 obtain⟨o,A,a,b,c,d⟩:=h
 refine⟨o,A,h1 _ a,b,h2 _ a _ c,?_⟩
 rcases d with d | ⟨o2,g2,cs,e,f,g,i,j⟩
 ·exact .inl d
 ·exact .inr ⟨o2,g2,cs,h1 _ e,f,h2 _ e _ g,i.mono h1 h2,j⟩
def PPr (σ:St)(Q:AV→St→Prop):Re (List Fm)→Prop
 | .ok fs _=>∀o σ',Ext σ σ'→qo (fun i=>σ.length≤i) σ' (.p o 0 0) fs→Q (.tu [.p o 0 0,.ic0]) σ'
 | .bad c l=>∀o g σ',Ext σ σ'→σ'[o]? =some ⟨g,false,.cells 25 [.i .i64 c,.i .i64 l]⟩→Q (.tu [.p0,.ic 86 (.p o g 0)]) σ'
 | .out=>True
theorem Jk (t:List UInt8)(σ:St)(hg:σ.take G0.length=G0)(Q:AV→St→Prop)(hQ:PPr σ Q (jR t)):au X 10 [.s t] σ Q:=by
 unfold jR at hQ
 refine au.body (F:=F10) ay (lit:=false) rfl rfl (aU rfl) ?_
 conv=>whnf
 refine Y1 t σ hg _ (fun l out σ1 hl hlen x1 ho=>?_) (fun e l o σ1 hl x1 hol hf=>?_)
 ·rw [hl] at hQ
  obtain⟨he,hno,hnn,hko⟩:=Qk hl
  have hQ:PPr σ Q (eH (10*l.length+11) l):=hQ
  rcases ho with ⟨rfl,_⟩ | ⟨w,g,hw,rfl,htok⟩
  ·exact he.elim
  have lw:=bK htok
  conv=>whnf
  have b5:(newCells 88 (AV.ag [.sl w g 0 l.length 3,.i .i64 0,.p0]).cells σ1)[σ1.length]? =some ⟨0,false,.cells 88 [.sl w g 0 l.length 3,.i .i64 0,.p0]⟩:=aG _ _ _
  have x5:Ext σ1 (newCells 88 (AV.ag [.sl w g 0 l.length 3,.i .i64 0,.p0]).cells σ1):=(Ext.refl σ1).new _ _
  have l5:(newCells 88 (AV.ag [.sl w g 0 l.length 3,.i .i64 0,.p0]).cells σ1).length=σ1.length+1:=aH _ _ _
  generalize newCells 88 (AV.ag [.sl w g 0 l.length 3,.i .i64 0,.p0]).cells σ1=fC at b5 x5 l5 ⊢
  have b6:(newCells 60 (AV.ag [.sl0]).cells fC)[fC.length]? =some ⟨0,false,.cells 60 [.sl0]⟩:=aG _ _ _
  have x6:Ext fC (newCells 60 (AV.ag [.sl0]).cells fC):=(Ext.refl fC).new _ _
  have l6:(newCells 60 (AV.ag [.sl0]).cells fC).length=fC.length+1:=aH _ _ _
  generalize newCells 60 (AV.ag [.sl0]).cells fC=oG at b6 x6 l6 ⊢
  have lx:=x1.len
  have hlp:=bK b5
  have hpos:0<l.length:=by obtain⟨t0,r0,e0⟩:=he.ne;rw [e0];exact Nat.succ_pos _
  have k6:PW σ1.length w g l oG 0 0 .p0:=⟨by rw [x6.get b5];rfl,x6.get (x5.get htok),by omega,by omega,hpos,by omega⟩
  have hge:∀σ',dO σ1.length fC.length oG.length oG σ'→Ext σ σ':=fun σ' y=>by
   refine⟨by have:=y.len;omega,fun i hi=>?_⟩
   rw [y.old i (by omega) (by omega) (by omega),x6.old i (by omega),x5.old i (by omega),x1.old i hi]
  refine Ql hno hnn hko (10*l.length+11) oG.length fC.length ⟨by omega,by omega,by omega⟩ (by omega) [] .sl0 oG 0 _ k6 (Nat.le_refl _) b6 ⟨[],.inl ⟨rfl,rfl⟩,trivial⟩ (by rw [List.drop_zero];exact he) (by rw [List.drop_zero];exact Nat.le_refl _) (by rw [List.drop_zero];simp only [bZ];omega) ?_
  rw [List.drop_zero]
  have hg:=Ls (10*l.length+11) l he (Nat.le_refl _)
  generalize eH (10*l.length+11) l=r1 at hg hQ
  cases r1 with
  | out=>exact hg.elim
  | bad c l'=>
    intro e' xY e6 y7 k7
    conv=>whnf
    rw [show Opd.ev e' (.t 6)=get e' 6 from rfl,e6]
    conv=>whnf
    refine au.to (uH k7) ?_
    conv=>whnf
    have h6:get (put (some 42) (.b true) (put (some 41) (.p σ1.length 0 0) e')) 6= .p σ1.length 0 0:=e6
    erw [h6]
    conv=>whnf
    obtain⟨w2,g2,all2,m2,fo,fg,j1,j2,j3⟩:=k7
    refine ak (aj (T:=Uw) rfl rfl (ah (j1.obj)) rfl) ?_
    conv=>whnf
    exact Fin.ref rfl (hQ _ _ _ (hge _ y7) j3)
  | ok fs ts=>
    intro A xY m7 e' e6 e7 y7 k7 hm7 hq7 ha7
    conv=>whnf
    rw [show Opd.ev e' (.t 6)=get e' 6 from rfl,e6]
    conv=>whnf
    refine au.to (mW k7) ?_
    conv=>whnf
    have h7:get (put (some 42) (.b false) (put (some 41) (.p σ1.length 0 0) e')) 7= .p fC.length 0 0:=e7
    erw [h7]
    conv=>whnf
    refine Fin.ref rfl (hQ _ _ (hge _ y7) ?_)
    have hA:FY oG.length xY A fs:=ha7
    obtain⟨cs,q1,q2⟩:=hA
    have q3:ig (fun i=>σ.length≤i) xY cs fs:=q2.mono (fun i hi=>by omega) (fun i _ a ha=>ha)
    refine⟨fC.length,A,by omega,rfl,hq7,?_⟩
    rcases q1 with ⟨rfl,rfl⟩ | ⟨o2,g2,p1,p2,p3,p4⟩
    ·refine .inl ⟨?_,rfl⟩
     cases fs with
     | nil=>rfl
     | cons _ _=>exact q3.elim
    ·exact .inr ⟨o2,g2,cs,by omega,p2,p3,q3,p4⟩
 ·rw [hl] at hQ
  have hQ:PPr σ Q (.bad e l):=hQ
  conv=>whnf
  exact Fin.ref rfl (hQ _ _ _ x1 hf)
end Go.Abs.YtlkfbfhkcaldlaaGreatDoor
