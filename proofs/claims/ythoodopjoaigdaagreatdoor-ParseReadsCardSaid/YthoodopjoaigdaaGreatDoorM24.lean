/- Texts of this claim, joined: Po, Pp, Tk, Pq, Pr. -/
import Derived.Test.YthoodopjoaigdaaGreatDoorM23
import Derived.Test.YthoodopjoaigdaaGreatDoorM20
set_option linter.unusedVariables false
set_option linter.unusedSimpArgs false
namespace Go.bP.YthoodopjoaigdaaGreatDoor
open Go.Proofs
set_option maxRecDepth 4000
section
variable {p w g:Nat} {all:List Tok} {n:Nat}
def PAq (p w g:Nat)(all:List Tok)(B xo b4:Nat)(nm:List UInt8)(ln:Nat)(σ:St)(d:Nat)(acc:List (List UInt8×Bool))(Q:Out→Env→St→Prop):Re (List (List UInt8×Bool))→Prop
 | .ok xs ts=>∀A' σ' m' e',get e' 0= .p b4 0 0→cO p xo B σ σ'→PW p w g all σ' m' d .p0→all.drop m'= ts→σ'[xo]? =some (gu nm A' false .sl0 ln)→iY B σ' A' (acc ++ xs)→Q (.exit 0) e' σ'
 | .bad c l=>∀A' σ' e',get e' 0= .p b4 0 0→cO p xo B σ σ'→PB p σ' d c l→σ'[xo]? =some (gu nm A' false .sl0 ln)→Zj A'→Q (.exit 0) e' σ'
 | .out=>True
def Gi (p w g:Nat)(all:List Tok)(n:Nat):Prop:=∀(d B xo bx b1 b4 b5:Nat) (nm:List UInt8) (ln:Nat),(p<B∧w<B∧xo<B∧bx<B∧b1<B)→(b4<B∧b5<B)→(xo≠p∧bx≠p∧b1≠p∧bx≠xo∧b1≠xo)→(b4≠p∧b5≠p∧b4≠xo∧b5≠xo)→
 ∀ (acc:List (List UInt8×Bool)) (A:AV) (σ:St) (m:Nat) (Q:Out→Env→St→Prop),PW p w g all σ m d .p0→B≤σ.length→σ[bx]? =some ⟨0,false,.cells 49 [.p xo 0 0]⟩→σ[b1]? =some ⟨0,false,.cells 39 [.p p 0 0]⟩→σ[b4]? =some ⟨0,false,.cells 39 [.p p 0 0]⟩→σ[b5]? =some ⟨0,false,.cells 1 [.fn (.func 34) [] [.p b1 0 0,.p bx 0 0]]⟩→σ[xo]? =some (gu nm A false .sl0 ln)→iY B σ A acc→
   aS (all.drop m)→(all.drop m).length+1≤n→acc.length+(all.drop m).length≤40001→PAq p w g all B xo b4 nm ln σ d acc Q (b_ n acc.isEmpty (all.drop m))→aW X [0,1,2] yS [(0,.p b4 0 0),(1,.p b5 0 0),(2,.b acc.isEmpty)] σ Q
theorem CS (n:Nat)(f:Bool)(ts:List Tok):b_ (n+1) f ts=if bf [41] ts=true then .ok [] ts else(if f=true then Re.ok () ts else aQ [44] ts).bind fun _ ts=>(wW ts).bind fun q ts=>(b_ n false ts).bind fun l ts=>.ok (q :: l) ts:=by
 rw [b_]
 simp only [←Vu]
theorem YQ (zy:Gi p w g all n):Gi p w g all (n+1):=by
 intro d B xo bx b1 b4 b5 nm ln hlt hlt4 hne nG acc A σ m Q h hB hbx hb1 hb4 hb5 hx ha he hn hs hQ
 obtain⟨t,r,hts⟩:=he.ne
 obtain⟨ht,hr⟩:=aV hts
 rw [CS,hts] at hQ
 have key:∀(σ1:St) (m1:Nat) (Q2:AV→St→Prop),cO p xo B σ σ1→PW p w g all σ1 m1 d .p0→m≤m1→aS (all.drop m1)→σ1[xo]? =some (gu nm A false .sl0 ln)→iY B σ1 A acc→(PAq p w g all B xo b4 nm ln σ d acc Q ((wW (all.drop m1)).bind fun x ts=>(b_ n false ts).bind fun xs ts=>.ok (x :: xs) ts))→
  (∀s,aW X [0,1,2] yS [(0,.p b4 0 0),(1,.p b5 0 0),(2,.b false)] s Q→Q2 (.tu []) s)→ay X 34 [.p b1 0 0,.p bx 0 0] σ1 Q2:=by
  intro σ1 m1 Q2 x1 h1 hm1 he1 hx1 ha1 hq hk
  have hlen:(all.drop m1).length≤(all.drop m).length:=by rw [List.length_drop,List.length_drop];omega
  have hg:=YM he1
  have lx1:=x1.len
  refine YN d B xo bx b1 nm ln acc A σ1 m1 Q2 h1 hlt hne (by omega) (x1.get hlt.2.2.2.1 hne.2.1 hne.2.2.2.1 hbx) (x1.get hlt.2.2.2.2 hne.2.2.1 hne.2.2.2.2 hb1) hx1 ha1 he1 (by omega) ?_
  generalize wW (all.drop m1)=r1 at hg hq
  cases r1 with
  | out=>exact hg.elim
  | bad c l=>
    intro A' σ2 x2 k2 hx2 hsl
    have x12:=x1.trans x2
    refine hk _ (nD k2 (x12.get hlt4.1 nG.1 nG.2.2.1 hb4) b5 fun e' e0=>hq A' σ2 e' e0 x12 k2 hx2 hsl)
  | ok y bH=>
    intro A' σ2 m2 x2 k2 hm2 hx2 ha2
    have x12:=x1.trans x2
    have lx2:=x2.len
    have hq:PAq p w g all B xo b4 nm ln σ d acc Q ((b_ n false bH).bind fun xs ts=>.ok (y :: xs) ts):=hq
    rw [←hm2] at hq hg
    have hlt2:=hg.2.2
    have hi:=zy d B xo bx b1 b4 b5 nm ln hlt hlt4 hne nG (acc ++ [y]) A' σ2 m2 Q k2 (by omega) (x12.get hlt.2.2.2.1 hne.2.1 hne.2.2.2.1 hbx) (x12.get hlt.2.2.2.2 hne.2.2.1 hne.2.2.2.2 hb1) (x12.get hlt4.1 nG.1 nG.2.2.1 hb4) (x12.get hlt4.2 nG.2.1 nG.2.2.2 hb5) hx2 ha2 hg.2.1 (by omega) (by rw [List.length_append];simp only [List.length_cons,List.length_nil];omega)
    rw [show (acc ++ [y]).isEmpty=false by cases acc <;> rfl] at hi
    refine hk _ (hi ?_)
    generalize b_ n false (all.drop m2)=r2 at hq
    cases r2 with
    | out=>trivial
    | bad c l=>exact fun A4 dZ e' e0 x4=>hq A4 dZ e' e0 (x12.trans x4)
    | ok xs zx=>exact fun A4 dZ m4 e' e0 x4 h4 hm4 hx4 sK=>hq A4 dZ m4 e' e0 (x12.trans x4) h4 hm4 hx4 (by rw [List.append_assoc] at sK;exact sK)
 have tail:∀(b:Bool),acc.isEmpty=b→PAq p w g all B xo b4 nm ln σ d acc Q (if bf [41] (t :: r)=true then .ok [] (t :: r) else(if b=true then Re.ok () (t :: r) else aQ [44] (t :: r)).bind fun _ ts=>(wW ts).bind fun x ts=>(b_ n false ts).bind fun xs ts=>.ok (x :: xs) ts)→aW X [0,1,2] yS [(0,.p b4 0 0),(1,.p b5 0 0),(2,.b b)] σ Q:=by
  intro b hb hQ
  cases b with
  | true=>
    refine aW.round aH (lit:=false) ?_
    conv=>whnf
    refine ak (aj (T:=bC) rfl rfl (ah (hb4)) rfl) ?_
    conv=>whnf
    refine ay.to (lq h) ?_
    conv=>whnf
    refine ak (aj (T:=bC) rfl rfl (ah (hb4)) rfl) ?_
    conv=>whnf
    have b7:(au 9 [.s [41]] σ)[σ.length]? =some ⟨0,false,.cells 9 [.s [41]]⟩:=aF _ _ _
    have x7:Ext σ (au 9 [.s [41]] σ):=(Ext.refl σ).new _ _
    have l7:(au 9 [.s [41]] σ).length=σ.length+1:=aG _ _ _
    generalize au 9 [.s [41]] σ=oq at b7 x7 l7 ⊢
    have h1:=h.ext x7
    have c4:=x7.get hb4
    have c5:=x7.get hb5
    have y1:cO p xo B σ oq:=.of (aI.of x7) hB
    refine ay.to (zA [[41]] h1 ht σ.length 0 (ah b7) (Nat.le_of_ble_eq_true rfl)) ?_
    conv=>whnf
    rw [jv]
    cases hi:dF [41] t with
    | true=>
      rw [if_pos (show bf [41] (t :: r)=true from hi)] at hQ
      conv=>whnf
      exact hQ A oq m _ rfl y1 h1 hts (x7.get hx) (by rw [List.append_nil];exact ha.keep (Nat.le_refl _) fun i a _ ha=>x7.get ha)
    | false=>
      rw [if_neg (by rw [show bf [41] (t :: r)=dF [41] t from rfl,hi];decide)] at hQ
      rw [if_pos rfl] at hQ
      conv=>whnf
      refine ak (aj (T:=XV) rfl rfl (ah (c5)) rfl) ?_
      conv=>whnf
      refine key oq m _ y1 h1 (Nat.le_refl _) he (x7.get hx) (ha.keep (Nat.le_refl _) fun i a _ ha=>x7.get ha) (by rw [hts];exact hQ) fun s q=>?_
      conv=>whnf
      exact q
  | false=>
    refine aW.round aH (lit:=false) ?_
    conv=>whnf
    refine ak (aj (T:=bC) rfl rfl (ah (hb4)) rfl) ?_
    conv=>whnf
    refine ay.to (lq h) ?_
    conv=>whnf
    refine ak (aj (T:=bC) rfl rfl (ah (hb4)) rfl) ?_
    conv=>whnf
    have b7:(au 9 [.s [41]] σ)[σ.length]? =some ⟨0,false,.cells 9 [.s [41]]⟩:=aF _ _ _
    have x7:Ext σ (au 9 [.s [41]] σ):=(Ext.refl σ).new _ _
    have l7:(au 9 [.s [41]] σ).length=σ.length+1:=aG _ _ _
    generalize au 9 [.s [41]] σ=oq at b7 x7 l7 ⊢
    have h1:=h.ext x7
    have c4:=x7.get hb4
    have c5:=x7.get hb5
    have y1:cO p xo B σ oq:=.of (aI.of x7) hB
    refine ay.to (zA [[41]] h1 ht σ.length 0 (ah b7) (Nat.le_of_ble_eq_true rfl)) ?_
    conv=>whnf
    rw [jv]
    cases hi:dF [41] t with
    | true=>
      rw [if_pos (show bf [41] (t :: r)=true from hi)] at hQ
      conv=>whnf
      exact hQ A oq m _ rfl y1 h1 hts (x7.get hx) (by rw [List.append_nil];exact ha.keep (Nat.le_refl _) fun i a _ ha=>x7.get ha)
    | false=>
      rw [if_neg (by rw [show bf [41] (t :: r)=dF [41] t from rfl,hi];decide)] at hQ
      rw [if_neg (by decide)] at hQ
      conv=>whnf
      refine ak (aj (T:=bC) rfl rfl (ah (c4)) rfl) ?_
      conv=>whnf
      refine jC _ h1 ht (fun hi2=>(aN he hts hi2).1) (fun hi2 σ2 x2 h2=>?_) (fun hi2 σ2 x2 h2=>?_)
      ·rw [aQ,if_pos (show bf [44] (t :: r)=true from hi2)] at hQ
       obtain⟨hm1,he1,hle⟩:=aN he hts hi2
       have y2:cO p xo B σ σ2:=y1.trans (.of x2 (by omega))
       conv=>whnf
       refine ak (aj (T:=XV) rfl rfl (ah (x2.get nG.2.1 c5)) rfl) ?_
       conv=>whnf
       refine key σ2 (m+1) _ y2 h2 (by omega) he1 (x2.get hne.1 (x7.get hx)) (ha.keep (Nat.le_refl _) fun i a hi ha=>x2.get (by omega) (x7.get ha)) (by rw [hr];exact hQ) fun s q=>?_
       conv=>whnf
       exact q
      ·rw [aQ,if_neg (by rw [show bf [44] (t :: r)=dF [44] t from rfl,hi2];decide)] at hQ
       have y2:cO p xo B σ σ2:=y1.trans (.of x2 (by omega))
       conv=>whnf
       refine ak (aj (T:=XV) rfl rfl (ah (x2.get nG.2.1 c5)) rfl) ?_
       conv=>whnf
       have lx2:=x2.len
       refine YP d 4 t.l B xo bx b1 nm ln acc A σ2 _ h2 ⟨hlt.1,hlt.2.2.1,hlt.2.2.2.1,hlt.2.2.2.2⟩ hne (by omega) (y2.get hlt.2.2.2.1 hne.2.1 hne.2.2.2.1 hbx) (y2.get hlt.2.2.2.2 hne.2.2.1 hne.2.2.2.2 hb1) (x2.get hne.1 (x7.get hx)) (ha.keep (Nat.le_refl _) fun i a hi ha=>x2.get (by omega) (x7.get ha)) (by omega) fun A' σ3 x3 h3 hx3 hsl=>?_
       conv=>whnf
       exact nD h3 ((y2.trans x3).get hlt4.1 nG.1 nG.2.2.1 hb4) b5 fun e' e0=>hQ A' σ3 e' e0 (y2.trans x3) h3 hx3 hsl
 exact tail _ rfl hQ
theorem LQ:∀n,Gi p w g all n
 | 0=>by intro d B xo bx b1 b4 b5 nm ln _ _ _ _ acc A σ m Q _ _ _ _ _ _ _ _ _ h;omega
 | n+1=>YQ (LQ n)
def P2q (p w g:Nat)(all:List Tok)(xo:Nat)(nm:List UInt8)(ln:Nat)(σ:St)(d:Nat)(Q:AV→St→Prop):Re (List (List UInt8×Bool))→Prop
 | .ok xs ts=>∀A' σ' m',bZ p xo σ σ'→PW p w g all σ' m' d .p0→all.drop m'= ts→σ'[xo]? =some (gu nm A' false .sl0 ln)→iY σ.length σ' A' xs→Q (.tu []) σ'
 | .bad c l=>∀A' σ',bZ p xo σ σ'→PB p σ' d c l→σ'[xo]? =some (gu nm A' false .sl0 ln)→Zj A'→Q (.tu []) σ'
 | .out=>True
theorem RN (d xo bx b1:Nat)(nm:List UInt8)(ln:Nat)(σ:St)(m:Nat)(Q:AV→St→Prop)(h:PW p w g all σ m d .p0)(hd:d≤64)(he:aS (all.drop m))(hn:10*(all.drop m).length≤n)
 (hbx:σ[bx]? =some ⟨0,false,.cells 49 [.p xo 0 0]⟩) (hb1:σ[b1]? =some ⟨0,false,.cells 39 [.p p 0 0]⟩) (hx:σ[xo]? =some (gu nm .sl0 false .sl0 ln)) (hne:xo≠p∧bx≠p∧b1≠p∧bx≠xo∧b1≠xo)
 (hQ:P2q p w g all xo nm ln σ d Q ((gG [40] d (all.drop m)).bind fun _ ts=>(b_ n true ts).bind fun a ts=>(aQ [41] ts).bind fun _ ts=>.ok a ts)) :
 ay X 33 [.p p 0 0,.fn (.func 34) [] [.p b1 0 0,.p bx 0 0]] σ Q:=by
 obtain⟨t,r,hts⟩:=he.ne
 rw [hts] at hQ hn
 simp only [List.length_cons] at hn
 obtain⟨ht,hr⟩:=aV hts
 have hpl:=aX h.obj
 have hwl:=aX h.tok
 have hxl:=aX hx
 have hbl:=aX hbx
 have h1l:=aX hb1
 have hal:=h.len
 have hm:=h.at_
 unfold gG at hQ
 refine ay.body (F:=ZH) aH (lit:=false) rfl rfl (Nat.le_of_ble_eq_true rfl) ?_
 conv=>whnf
 have b4:(au 39 (AV.p p 0 0).cells σ)[σ.length]? =some ⟨0,false,.cells 39 [.p p 0 0]⟩:=aF _ _ _
 have x4:Ext σ (au 39 (AV.p p 0 0).cells σ):=(Ext.refl σ).new _ _
 have l4:(au 39 (AV.p p 0 0).cells σ).length=σ.length+1:=aG _ _ _
 generalize au 39 (AV.p p 0 0).cells σ=dZ at b4 x4 l4 ⊢
 have b5:(au 1 (AV.fn (.func 34) [] [.p b1 0 0,.p bx 0 0]).cells dZ)[dZ.length]? =some ⟨0,false,.cells 1 [.fn (.func 34) [] [.p b1 0 0,.p bx 0 0]]⟩:=aF _ _ _
 have x5:Ext dZ (au 1 (AV.fn (.func 34) [] [.p b1 0 0,.p bx 0 0]).cells dZ):=(Ext.refl dZ).new _ _
 have l5:(au 1 (AV.fn (.func 34) [] [.p b1 0 0,.p bx 0 0]).cells dZ).length=dZ.length+1:=aG _ _ _
 generalize au 1 (AV.fn (.func 34) [] [.p b1 0 0,.p bx 0 0]).cells dZ=jY at b5 x5 l5 ⊢
 have xx:=x4.trans x5
 have h5:=h.ext xx
 have c4:=x5.get b4
 refine ak (aj (T:=bC) rfl rfl (ah (c4)) rfl) ?_
 conv=>whnf
 refine ay.mono (Q:=fun v s=>v= .tu []∧Fin σ (.tu []) s Q) ?_ fun v s q=>?_
 ·have bad:∀(c l:Nat) (s1:St),aI p jY s1→PB p s1 (d+1) c l→P2q p w g all xo nm ln σ d Q (.bad c l)→ay X 69 [.p σ.length 0 0,.p dZ.length 0 0] s1 (QI p m d (fun v s=>v= .tu []∧Fin σ (.tu []) s Q)):=by
   intro c l s1 y1 k1 hq
   have e4:=y1.get (by omega) c4
   refine ay.body (F:=Xj) aH (lit:=false) rfl rfl (Nat.le_of_ble_eq_true rfl) ?_
   conv=>whnf
   refine nD k1 e4 dZ.length fun e' e0=>?_
   conv=>whnf
   rw [show dI.ev e' (.t 0)=get e' 0 from rfl,e0]
   conv=>whnf
   refine ak (aj (T:=bC) rfl rfl (ah (e4)) rfl) ?_
   conv=>whnf
   refine ay.to (jD [41] k1) ?_
   conv=>whnf
   have k1':=k1
   obtain⟨w2,g2,all2,m2,fo,fg,j1,j2,j3⟩:=k1'
   refine Fin.flat rfl List.take_length ⟨rfl,w2,g2,all2,m2,_,j1,.inr (by simp),fun s3 y3 j4=>⟨rfl,?_⟩⟩
   have hx3:aI p σ s3:=((aI.of xx).trans y1).trans y3
   exact h.ne_of j4 (.inr (by simp)) (hq _ _ (bZ.of hx3) ⟨w2,g2,all2,m2,fo,fg,j4,j2,y3.get j2 j3⟩ (hx3.get hne.1 hx) (.inl rfl))
  refine NZ [40] h5 ht hd (fun hi=>(aN he hts hi).1) (fun hi h64 s1 y1 k1=>?_) (fun hi h64 s1 y1 k1=>?_) (fun hi s1 y1 k1=>?_)
  ·rw [if_neg (by omega),aQ,if_pos (show bf [40] (t :: r)=true from hi)] at hQ
   have hQ:P2q p w g all xo nm ln σ d Q ((b_ n true r).bind fun a ts=>(aQ [41] ts).bind fun _ ts=>.ok a ts):=hQ
   obtain⟨hm1,he1,hle⟩:=aN he hts hi
   have hg:=oK n true (all.drop (m+1)) he1 (by rw [hr];omega)
   have hx1:aI p σ s1:=(aI.of xx).trans y1
   have e4:=y1.get (by omega) c4
   have e5:=y1.get (by omega) b5
   have ly:=y1.len
   have hall:(all.drop (m+1)).length≤40001:=by rw [List.length_drop];omega
   refine ay.body (F:=Xj) aH (lit:=false) rfl rfl (Nat.le_of_ble_eq_true rfl) ?_
   conv=>whnf
   refine LQ n (d+1) s1.length xo bx b1 σ.length dZ.length nm ln ⟨by omega,by omega,by omega,by omega,by omega⟩ ⟨by omega,by omega⟩ hne ⟨by omega,by omega,by omega,by omega⟩ [] .sl0 s1 (m+1) _ k1 (Nat.le_refl _) (hx1.get hne.2.1 hbx) (hx1.get hne.2.2.1 hb1) e4 e5 (hx1.get hne.1 hx) (.inl ⟨rfl,rfl⟩) he1 (by rw [hr];omega) (by simp only [List.length_nil];omega) ?_
   rw [hr] at hg ⊢
   show PAq p w g all s1.length xo σ.length nm ln s1 (d+1) [] _ (b_ n true r)
   generalize b_ n true r=r1 at hg hQ
   cases r1 with
   | out=>exact hg.elim
   | bad c l=>
     intro A' s2 e' e0 y2 k2 hx2 hsl
     have f4:=y2.get (by omega) (by omega) (by omega) e4
     conv=>whnf
     rw [show dI.ev e' (.t 0)=get e' 0 from rfl,e0]
     conv=>whnf
     refine ak (aj (T:=bC) rfl rfl (ah (f4)) rfl) ?_
     conv=>whnf
     refine ay.to (jD [41] k2) ?_
     conv=>whnf
     have k2':=k2
     obtain⟨w2,g2,all2,m2,fo,fg,j1,j2,j3⟩:=k2'
     refine k1.ne_of j1 (.inr (by simp)) ⟨rfl,w2,g2,all2,m2,_,j1,.inr (by simp),fun s3 y3 j4=>⟨rfl,?_⟩⟩
     have ly2:=y2.len
     refine h.ne_of j4 (.inr (by simp)) (hQ _ _ ⟨by have:=y3.len;have:=hx1.len;omega,fun i hi fP hix=>by rw [y3.old i (by have:=hx1.len;omega) fP,y2.old i (by have:=hx1.len;omega) fP hix,hx1.old i hi fP]⟩ ⟨w2,g2,all2,m2,fo,fg,j4,j2,y3.get j2 j3⟩ (y3.get hne.1 hx2) hsl)
   | ok xs bH=>
     intro A' s2 m2 e' e0 y2 k2 hm2 hx2 ha2
     have he2:aS (all.drop m2):=by rw [hm2];exact hg.2.1
     obtain⟨t2,r2,eU⟩:=he2.ne
     obtain⟨ht2,hr2⟩:=aV eU
     have hQ:P2q p w g all xo nm ln σ d Q ((aQ [41] bH).bind fun _ ts=>.ok xs ts):=hQ
     rw [←hm2,eU] at hQ
     have f4:=y2.get (by omega) (by omega) (by omega) e4
     have ly2:=y2.len
     have hmm:m+1≤m2:=by
      have:=hg.2.2
      rw [←hm2,←hr,List.length_drop,List.length_drop] at this
      omega
     have hsl:=ha2.sl
     have fr:∀s3,aI p s2 s3→bZ p xo σ s3:=fun s3 y3=>⟨by have:=y3.len;have:=hx1.len;omega,fun i hi fP hix=>by rw [y3.old i (by have:=hx1.len;omega) fP,y2.old i (by have:=hx1.len;omega) fP hix,hx1.old i hi fP]⟩
     conv=>whnf
     rw [show dI.ev e' (.t 0)=get e' 0 from rfl,e0]
     conv=>whnf
     refine ak (aj (T:=bC) rfl rfl (ah (f4)) rfl) ?_
     conv=>whnf
     refine jC [41] k2 ht2 (fun hi=>(aN he2 eU hi).1) (fun hi2 s5 y5 k5=>?_) (fun hi2 s5 y5 k5=>?_)
     ·rw [aQ,if_pos (show bf [41] (t2 :: r2)=true from hi2)] at hQ
      conv=>whnf
      refine k1.ne_of k5 (.inl (by omega)) ⟨rfl,w,g,all,m2+1,_,k5,.inl (by omega),fun s3 y3 j4=>⟨rfl,?_⟩⟩
      have N9:=y5.trans y3
      refine h.ne_of j4 (.inl (by omega)) (hQ _ _ _ (fr s3 N9) j4 hr2 (N9.get hne.1 hx2) ?_)
      exact ha2.keep (by have:=hx1.len;omega) fun i a hi ha=>N9.get (by omega) ha
     ·rw [aQ,if_neg (show ¬bf [41] (t2 :: r2)=true by rw [show bf [41] (t2 :: r2)=dF [41] t2 from rfl,hi2];decide)] at hQ
      conv=>whnf
      have zG:=k5
      obtain⟨w2,g2,all2,Rw,fo,fg,j1,j2,j3⟩:=zG
      refine k1.ne_of j1 (.inr (by simp)) ⟨rfl,w2,g2,all2,Rw,_,j1,.inr (by simp),fun s3 y3 j4=>⟨rfl,?_⟩⟩
      have N9:=y5.trans y3
      exact h.ne_of j4 (.inr (by simp)) (hQ _ _ (fr s3 N9) ⟨w2,g2,all2,Rw,fo,fg,j4,j2,y3.get j2 j3⟩ (N9.get hne.1 hx2) hsl)
  ·rw [if_pos ⟨show bf [40] (t :: r)=true from hi,h64⟩] at hQ
   exact bad 3 t.l s1 y1 k1 hQ
  ·have hiw:¬bf [40] (t :: r)=true:=by rw [show bf [40] (t :: r)=dF [40] t from rfl,hi];decide
   rw [if_neg (fun e=>hiw e.1),aQ,if_neg hiw] at hQ
   exact bad 4 t.l s1 y1 k1 hQ
 ·obtain⟨rfl,q⟩:=q
  conv=>whnf
  exact q
theorem RP {d c l k:Nat} {caps:List AV} {σ:St} (h:PB p σ d c l)(hd:d+1≤1000) {Q:AV→St→Prop} (q:∀σ',aI p σ σ'→PB p σ' d c l→Q (.tu []) σ'):ay X 33 [.p p 0 0,.fn (.func k) [] caps] σ Q:=by
 have hpl:=PB.lt h
 refine ay.body (F:=ZH) aH (lit:=false) rfl rfl (Nat.le_of_ble_eq_true rfl) ?_
 conv=>whnf
 have b4:(au 39 (AV.p p 0 0).cells σ)[σ.length]? =some ⟨0,false,.cells 39 [.p p 0 0]⟩:=aF _ _ _
 have x4:Ext σ (au 39 (AV.p p 0 0).cells σ):=(Ext.refl σ).new _ _
 have l4:(au 39 (AV.p p 0 0).cells σ).length=σ.length+1:=aG _ _ _
 generalize au 39 (AV.p p 0 0).cells σ=dZ at b4 x4 l4 ⊢
 have b5:(au 1 (AV.fn (.func k) [] caps).cells dZ)[dZ.length]? =some ⟨0,false,.cells 1 [.fn (.func k) [] caps]⟩:=aF _ _ _
 have x5:Ext dZ (au 1 (AV.fn (.func k) [] caps).cells dZ):=(Ext.refl dZ).new _ _
 have l5:(au 1 (AV.fn (.func k) [] caps).cells dZ).length=dZ.length+1:=aG _ _ _
 generalize au 1 (AV.fn (.func k) [] caps).cells dZ=jY at b5 x5 l5 ⊢
 have xx:=x4.trans x5
 have h5:=h.ext xx
 have c4:=x5.get b4
 refine ak (aj (T:=bC) rfl rfl (ah (c4)) rfl) ?_
 conv=>whnf
 have fin:∀s,aI p jY s→PB p s d c l→Fin σ (.tu []) s Q:=fun s y k=>sN (q _ ((aI.of xx).trans y) k) fun _=>q _ (.refl _ _) h
 refine ay.mono (Q:=fun v s=>v= .tu []∧Fin σ (.tu []) s Q) ?_ fun v s q=>?_
 ·refine in_b (fun s=>aI p jY s) [40] h5 hd (fun s1 y1 k1=>?_) (fun s3 y3 k3=>⟨rfl,fin _ y3 k3⟩) (fun s3 y3 _=>⟨rfl,fin _ (.refl _ _) h5⟩)
  have e4:=y1.get (by omega) c4
  refine ay.body (F:=Xj) aH (lit:=false) rfl rfl (Nat.le_of_ble_eq_true rfl) ?_
  conv=>whnf
  refine nD k1 e4 dZ.length fun e' e0=>?_
  conv=>whnf
  rw [show dI.ev e' (.t 0)=get e' 0 from rfl,e0]
  conv=>whnf
  refine ak (aj (T:=bC) rfl rfl (ah (e4)) rfl) ?_
  conv=>whnf
  refine ay.to (jD [41] k1) ?_
  conv=>whnf
  exact Fin.flat rfl List.take_length ⟨rfl,k1,fun s3 y3 _=>y1.trans y3⟩
 ·obtain⟨rfl,q⟩:=q
  conv=>whnf
  exact q
end
end Go.bP.YthoodopjoaigdaaGreatDoor
namespace Go.bP.YthoodopjoaigdaaGreatDoor
open Go.Proofs
set_option maxRecDepth 4000
def uw (S:Nat→Prop)(σ:St)(v:AV)(l:List (List UInt8×Bool)):Prop:=(l=[]∧v= .sl0)∨∃o g,S o∧v= .sl o g 0 l.length 2∧σ[o]? =some ⟨g,false,.cells 90 (oN l)⟩
def yx (S:Nat→Prop)(σ:St)(v:AV)(f:Fm):Prop:=∃o A Bd,S o∧v= .p o 0 0∧σ[o]? =some (gu f.name A f.ptr Bd f.line)∧uw S σ A f.params∧dR S σ Bd f.body
theorem uw.mono {S S':Nat→Prop} {σ σ':St} (h1:∀o,S o→S' o)(h2:∀o,S o→∀a,σ[o]? =some a→σ'[o]? =some a) {l:List (List UInt8×Bool)} {v:AV} (h:uw S σ v l):uw S' σ' v l:=by
 rcases h with h | ⟨o,g,a,b,c⟩
 ·exact .inl h
 ·exact .inr ⟨o,g,h1 _ a,b,h2 _ a _ c⟩
theorem yx.mono {S S':Nat→Prop} {σ σ':St} (h1:∀o,S o→S' o)(h2:∀o,S o→∀a,σ[o]? =some a→σ'[o]? =some a) {f:Fm} {v:AV} (h:yx S σ v f):yx S' σ' v f:=by
 obtain⟨o,A,Bd,a,b,c,d,e⟩:=h
 exact⟨o,A,Bd,h1 _ a,b,h2 _ a _ c,d.mono h1 h2,e.mono h1 h2⟩
theorem yx.below {S:Nat→Prop} {σ:St} {f:Fm} {v:AV} (h:yx S σ v f):yx (fun o=>S o∧o<σ.length) σ v f:=by
 obtain⟨o,A,Bd,a,b,c,d,e⟩:=h
 refine⟨o,A,Bd,⟨a,aX c⟩,b,c,?_,e.below⟩
 rcases d with d | ⟨o,g,a,b,c⟩
 ·exact .inl d
 ·exact .inr ⟨o,g,⟨a,aX c⟩,b,c⟩
section
variable {p w g:Nat} {all:List Tok} {n:Nat}
def Kt (p w g:Nat)(all:List Tok)(σ:St)(Q:AV→St→Prop):Re Fm→Prop
 | .ok f ts=>∀o σ' m',aI p σ σ'→PW p w g all σ' m' 0 .p0→all.drop m'= ts→yx (fun i=>σ.length≤i) σ' (.p o 0 0) f→Q (.p o 0 0) σ'
 | .bad c l=>∀o σ',aI p σ σ'→PB p σ' 0 c l→Q (.p o 0 0) σ'
 | .out=>True
def wX (n:Nat)(ts:List Tok):Re (List (List UInt8×Bool)):=(gG [40] 0 ts).bind fun _ ts=>(b_ n true ts).bind fun a ts=>(aQ [41] ts).bind fun _ ts=>.ok a ts
theorem RQ {α:Type} (n:Nat)(ts:List Tok)(f:List (List UInt8×Bool)→List Tok→Re α):((gG [40] 0 ts).bind fun _ ts=>(b_ n true ts).bind fun a ts=>(aQ [41] ts).bind fun _ ts=>f a ts)=(wX n ts).bind f:=by
 unfold wX
 cases gG [40] 0 ts with
 | out=>rfl
 | bad c l=>rfl
 | ok u bH=>
   show ((b_ n true bH).bind fun a ts=>(aQ [41] ts).bind fun _ ts=>f a ts)=((b_ n true bH).bind fun a ts=>(aQ [41] ts).bind fun _ ts=>.ok a ts).bind f
   cases b_ n true bH with
   | out=>rfl
   | bad c l=>rfl
   | ok a fO=>
     show ((aQ [41] fO).bind fun _ ts=>f a ts)=((aQ [41] fO).bind fun _ ts=>.ok a ts).bind f
     cases aQ [41] fO <;> rfl
theorem RS {n:Nat} {ts:List Tok} (he:aS ts)(hn:ts.length+1≤n):Gd An (wX n ts) ts.length:=
 (sG _ 0 he).bind fun _ Gq _ he3 hl3=>(oK n true Gq he3 (by omega)).bind fun ps zx _ he4 hl4=>(iL _ he4).bind fun _ uj _ CZ hl5=>⟨trivial,CZ,by omega⟩
def LU (n ln:Nat)(nm:List UInt8)(ps:List (List UInt8×Bool))(bH:List Tok):Re Fm:=(dK n 0 (if bf fC bH=true then bH.tail else bH)).bind fun b fO=>.ok ⟨nm,ps,bf fC bH,b,ln⟩ fO
theorem Ku (hno:ni all)(hnn:CB all)(hko:Jc all)(σ:St)(m:Nat)(Q:AV→St→Prop)(h:PW p w g all σ m 0 .p0)(he:aS (all.drop m))(hn:10*(all.drop m).length+10≤n)(hQ:Kt p w g all σ Q (uh n (all.drop m))):ay X 12 [.p p 0 0] σ Q:=by
 obtain⟨t,r,hts⟩:=he.ne
 obtain⟨ht,hr⟩:=aV hts
 have hpl:=aX h.obj
 have hlr:(all.drop m).length=r.length+1:=by rw [hts];rfl
 have hQ:Kt p w g all σ Q ((aQ wI (all.drop m)).bind fun _ bH=>(eP bH).bind fun nm bH=>(wX n bH).bind fun ps bH=>LU n (jT (all.drop m)) nm ps bH):=by
  simp only [←RQ];exact hQ
 rw [hts] at hQ
 have hQ:Kt p w g all σ Q ((aQ wI (t :: r)).bind fun _ bH=>(eP bH).bind fun nm bH=>(wX n bH).bind fun ps bH=>LU n t.l nm ps bH):=hQ
 refine ay.body (F:=F12) aH (lit:=false) rfl rfl (Nat.le_of_ble_eq_true rfl) ?_
 conv=>whnf
 have b1:(au 39 (AV.p p 0 0).cells σ)[σ.length]? =some ⟨0,false,.cells 39 [.p p 0 0]⟩:=aF _ _ _
 have x1:Ext σ (au 39 (AV.p p 0 0).cells σ):=(Ext.refl σ).new _ _
 have l1:(au 39 (AV.p p 0 0).cells σ).length=σ.length+1:=aG _ _ _
 generalize au 39 (AV.p p 0 0).cells σ=σ1 at b1 x1 l1 ⊢
 have h1:=h.ext x1
 refine ak (aj (T:=bC) rfl rfl (ah (b1)) rfl) ?_
 conv=>whnf
 refine ay.to (jB h1 ht) ?_
 conv=>whnf
 have b3:(au 85 (AV.ag [.s [],.sl0,.b false,.sl0,.i .i64 t.l]).cells σ1)[σ1.length]? =some ⟨0,false,.cells 85 [.s [],.sl0,.b false,.sl0,.i .i64 t.l]⟩:=aF _ _ _
 have x3:Ext σ1 (au 85 (AV.ag [.s [],.sl0,.b false,.sl0,.i .i64 t.l]).cells σ1):=(Ext.refl σ1).new _ _
 have l3:(au 85 (AV.ag [.s [],.sl0,.b false,.sl0,.i .i64 t.l]).cells σ1).length=σ1.length+1:=aG _ _ _
 generalize au 85 (AV.ag [.s [],.sl0,.b false,.sl0,.i .i64 t.l]).cells σ1=σ3 at b3 x3 l3 ⊢
 refine ak (aC (T:=dX) ([.p σ1.length 0 0]) rfl (aF _ _ _) rfl rfl (Nat.le_of_ble_eq_true rfl) rfl) ?_
 have x4:Ext σ3 ((au 49 dX.zero.cells σ3).set σ3.length ⟨0,false,.cells 49 [.p σ1.length 0 0]⟩):=((Ext.refl σ3).new _ _).set (Nat.le_refl _) _
 have b4:((au 49 dX.zero.cells σ3).set σ3.length ⟨0,false,.cells 49 [.p σ1.length 0 0]⟩)[σ3.length]? =_:=at_set (aF _ _ _) _
 have l4:((au 49 dX.zero.cells σ3).set σ3.length ⟨0,false,.cells 49 [.p σ1.length 0 0]⟩).length=σ3.length+1:=by rw [List.length_set,aG]
 generalize (au 49 dX.zero.cells σ3).set σ3.length ⟨0,false,.cells 49 [.p σ1.length 0 0]⟩=dZ at b4 x4 l4 ⊢
 conv=>whnf
 have x24:=x3.trans x4
 have k4:=h1.ext x24
 have cp4:=x24.get b1
 have cx4:=x4.get b3
 have cv4:=b4
 have X4:aI p σ dZ:=aI.of (x1.trans x24)
 generalize dZ=s4 at k4 cp4 cx4 cv4 X4 x4 l4 ⊢
 conv=>whnf
 refine ak (aj (T:=bC) rfl rfl (ah (cp4)) rfl) ?_
 conv=>whnf
 refine jC [102,117,110,99] k4 ht (fun hi=>(aN he hts hi).1) (fun hi s5 y5 k5=>?_) (fun hi s5 y5 k5=>?_)
 ·rw [aQ,if_pos (show bf wI (t :: r)=true from hi)] at hQ
  have hQ:Kt p w g all σ Q ((eP r).bind fun nm bH=>(wX n bH).bind fun ps bH=>LU n t.l nm ps bH):=hQ
  obtain⟨hm1,he1,hle⟩:=aN he hts hi
  obtain⟨t6,r6,gq⟩:=he1.ne
  obtain⟨C9,wR⟩:=aV gq
  have hlr1:(all.drop (m+1)).length=r.length:=by rw [hr]
  have hl6:(all.drop (m+1)).length=r6.length+1:=by rw [gq];rfl
  rw [←hr,gq] at hQ
  have xw:=y5.get (by omega) cx4
  have rC:=y5.get (by omega) cv4
  have cp5:=y5.get (by omega) cp4
  have X5:=X4.trans y5
  have l5:=y5.len
  conv=>whnf
  refine ak (aj (T:=dX) rfl rfl (ah (rC)) rfl) ?_
  conv=>whnf
  refine ak (aj (T:=bC) rfl rfl (ah (cp5)) rfl) ?_
  conv=>whnf
  refine FX k5 C9 (fun hk1=>iV (by rw [wR];rw [gq] at he1;exact he1.tail (by rw [hk1];decide))) (fun hk1 s6 y6 k6=>?_) (fun hk1 s6 y6 k6=>?_)
  ·simp only [eP,if_pos hk1] at hQ
   have he2:aS (all.drop (m+1+1)):=by rw [wR];rw [gq] at he1;exact he1.tail (by rw [hk1];decide)
   have hl62:(all.drop (m+1+1)).length=r6.length:=by rw [wR]
   have hQ:Kt p w g all σ Q ((wX n r6).bind fun ps bH=>LU n t.l t6.s ps bH):=hQ
   rw [←wR] at hQ
   have hg:=RS (n:=n) he2 (by omega)
   have tN:=y6.get (by omega) xw
   have wU:=y6.get (by omega) rC
   have cp6:=y6.get (by omega) cp5
   have X6:=X5.trans y6
   have l6:=y6.len
   conv=>whnf
   refine⟨?_,?_⟩
   ·conv=>whnf
    refine ak (aj (T:=dX) rfl rfl (ah (wU)) rfl) ?_
    rfl
   conv=>whnf
   refine ak (aC (T:=fA) ([.s t6.s,.sl0,.b false,.sl0,.i .i64 t.l]) rfl (tN) rfl rfl (Nat.le_of_ble_eq_true rfl) rfl) ?_
   conv=>whnf
   have k7:=k6.bV tN (by decide) (by decide) ⟨0,false,.cells 85 [.s t6.s,.sl0,.b false,.sl0,.i .i64 t.l]⟩
   have uo:(List.set s6 σ1.length ⟨0,false,.cells 85 [.s t6.s,.sl0,.b false,.sl0,.i .i64 t.l]⟩)[σ1.length]? =some ⟨0,false,.cells 85 [.s t6.s,.sl0,.b false,.sl0,.i .i64 t.l]⟩:=at_set tN _
   have uq:(List.set s6 σ1.length ⟨0,false,.cells 85 [.s t6.s,.sl0,.b false,.sl0,.i .i64 t.l]⟩)[σ3.length]? =_:=aK wU (by omega) _
   have Ox:(List.set s6 σ1.length ⟨0,false,.cells 85 [.s t6.s,.sl0,.b false,.sl0,.i .i64 t.l]⟩)[σ.length]? =_:=aK cp6 (by omega) _
   have X7:aI p σ (List.set s6 σ1.length ⟨0,false,.cells 85 [.s t6.s,.sl0,.b false,.sl0,.i .i64 t.l]⟩):=X6.bM (bZ.bV _ _ _ _) (by omega)
   have l7:(List.set s6 σ1.length ⟨0,false,.cells 85 [.s t6.s,.sl0,.b false,.sl0,.i .i64 t.l]⟩).length=s6.length:=List.length_set
   generalize List.set s6 σ1.length ⟨0,false,.cells 85 [.s t6.s,.sl0,.b false,.sl0,.i .i64 t.l]⟩=s7 at k7 uo uq Ox X7 l7 ⊢
   conv=>whnf
   refine ak (aj (T:=bC) rfl rfl (ah (Ox)) rfl) ?_
   conv=>whnf
   refine RN (n:=n) 0 σ1.length σ3.length σ.length t6.s t.l s7 (m+1+1) _ k7 (by omega) he2 (by omega) uq Ox uo ⟨by omega,by omega,by omega,by omega,by omega⟩ ?_
   change P2q p w g all σ1.length t6.s t.l s7 0 _ (wX n (all.drop (m+1+1)))
   generalize wX n (all.drop (m+1+1))=r1 at hg hQ
   cases r1 with
   | out=>exact hg.elim
   | bad c l=>
     have hQ:Kt p w g all σ Q (.bad c l):=hQ
     intro A s8 y8 k8 lu hsl
     have lu:s8[σ1.length]? =some ⟨0,false,.cells 85 [.s t6.s,A,.b false,.sl0,.i .i64 t.l]⟩:=lu
     have nH:=y8.get (by omega) (by omega) uq
     have cp8:=y8.get (by omega) (by omega) Ox
     have X8:aI p σ s8:=X7.bM y8 (by omega)
     have l8:=y8.len
     conv=>whnf
     refine ak (aj (T:=dX) rfl rfl (ah (nH)) rfl) ?_
     conv=>whnf
     refine ak (aj (T:=bC) rfl rfl (ah (cp8)) rfl) ?_
     conv=>whnf
     refine ay.to (lK [112,116,114] k8) ?_
     conv=>whnf
     refine⟨?_,?_⟩
     ·conv=>whnf
      refine ak (aj (T:=dX) rfl rfl (ah (nH)) rfl) ?_
      rfl
     conv=>whnf
     refine ak (aC (T:=kR) ([.s t6.s,A,.b false,.sl0,.i .i64 t.l]) rfl (lu) rfl rfl (Nat.le_of_ble_eq_true rfl) rfl) ?_
     conv=>whnf
     have k9:=k8.bV lu (by decide) (by decide) (by decide) ⟨0,false,.cells 85 [.s t6.s,A,.b false,.sl0,.i .i64 t.l]⟩
     have CQ:(List.set s8 σ1.length ⟨0,false,.cells 85 [.s t6.s,A,.b false,.sl0,.i .i64 t.l]⟩)[σ1.length]? =some ⟨0,false,.cells 85 [.s t6.s,A,.b false,.sl0,.i .i64 t.l]⟩:=at_set lu _
     have Aa:(List.set s8 σ1.length ⟨0,false,.cells 85 [.s t6.s,A,.b false,.sl0,.i .i64 t.l]⟩)[σ3.length]? =_:=aK nH (by omega) _
     have Jq:(List.set s8 σ1.length ⟨0,false,.cells 85 [.s t6.s,A,.b false,.sl0,.i .i64 t.l]⟩)[σ.length]? =_:=aK cp8 (by omega) _
     have X9:aI p σ (List.set s8 σ1.length ⟨0,false,.cells 85 [.s t6.s,A,.b false,.sl0,.i .i64 t.l]⟩):=X8.bM (bZ.bV _ _ _ _) (by omega)
     have l9:(List.set s8 σ1.length ⟨0,false,.cells 85 [.s t6.s,A,.b false,.sl0,.i .i64 t.l]⟩).length=s8.length:=List.length_set
     generalize List.set s8 σ1.length ⟨0,false,.cells 85 [.s t6.s,A,.b false,.sl0,.i .i64 t.l]⟩=s9 at k9 CQ Aa Jq X9 l9 ⊢
     conv=>whnf
     refine ak (aj (T:=dX) rfl rfl (ah (Aa)) rfl) ?_
     conv=>whnf
     refine ak (aj (T:=bC) rfl rfl (ah (Jq)) rfl) ?_
     conv=>whnf
     refine wQ k9 (Nat.le_of_ble_eq_true rfl) fun s10 oO k10=>?_
     have oP:=oO.get (by omega) CQ
     have ql:=oO.get (by omega) Aa
     have cp10:=oO.get (by omega) Jq
     have Og:=X9.trans oO
     have l10:=oO.len
     conv=>whnf
     refine⟨?_,?_⟩
     ·conv=>whnf
      refine ak (aj (T:=dX) rfl rfl (ah (ql)) rfl) ?_
      rfl
     conv=>whnf
     refine ak (aC (T:=dN) ([.s t6.s,A,.b false,.sl0,.i .i64 t.l]) rfl (oP) rfl rfl (Nat.le_of_ble_eq_true rfl) rfl) ?_
     conv=>whnf
     have k11:=k10.bV oP (by decide) (by decide) (by decide) ⟨0,false,.cells 85 [.s t6.s,A,.b false,.sl0,.i .i64 t.l]⟩
     have zJ:(List.set s10 σ1.length ⟨0,false,.cells 85 [.s t6.s,A,.b false,.sl0,.i .i64 t.l]⟩)[σ1.length]? =some ⟨0,false,.cells 85 [.s t6.s,A,.b false,.sl0,.i .i64 t.l]⟩:=at_set oP _
     have yC:(List.set s10 σ1.length ⟨0,false,.cells 85 [.s t6.s,A,.b false,.sl0,.i .i64 t.l]⟩)[σ3.length]? =_:=aK ql (by omega) _
     have Kv:(List.set s10 σ1.length ⟨0,false,.cells 85 [.s t6.s,A,.b false,.sl0,.i .i64 t.l]⟩)[σ.length]? =_:=aK cp10 (by omega) _
     have RU:aI p σ (List.set s10 σ1.length ⟨0,false,.cells 85 [.s t6.s,A,.b false,.sl0,.i .i64 t.l]⟩):=Og.bM (bZ.bV _ _ _ _) (by omega)
     have Vw:(List.set s10 σ1.length ⟨0,false,.cells 85 [.s t6.s,A,.b false,.sl0,.i .i64 t.l]⟩).length=s10.length:=List.length_set
     conv=>whnf
     refine ak (aj (T:=dX) rfl rfl (ah (yC)) rfl) ?_
     conv=>whnf
     exact Fin.ref rfl (hQ _ _ RU k11)
   | ok ps bH=>
     have hQ:Kt p w g all σ Q (LU n t.l t6.s ps bH):=hQ
     intro A s8 m8 y8 k8 LP lu ha8
     have lu:s8[σ1.length]? =some ⟨0,false,.cells 85 [.s t6.s,A,.b false,.sl0,.i .i64 t.l]⟩:=lu
     have nH:=y8.get (by omega) (by omega) uq
     have cp8:=y8.get (by omega) (by omega) Ox
     have X8:aI p σ s8:=X7.bM y8 (by omega)
     have l8:=y8.len
     have Vx:aS (all.drop m8):=by rw [LP];exact hg.2.1
     obtain⟨t8,r8,oM⟩:=Vx.ne
     obtain⟨RI,SV⟩:=aV oM
     have hl8':(all.drop m8).length=r8.length+1:=by rw [oM];rfl
     have lg:=hg.2.2
     rw [←LP] at lg
     unfold LU at hQ
     rw [←LP,oM] at hQ
     conv=>whnf
     refine ak (aj (T:=dX) rfl rfl (ah (nH)) rfl) ?_
     conv=>whnf
     refine ak (aj (T:=bC) rfl rfl (ah (cp8)) rfl) ?_
     conv=>whnf
     refine nC [112,116,114] k8 RI (fun hi=>(aN Vx oM hi).1) (fun hi s9 y9 k9=>?_) (fun hi=>?_)
     ·have RG:bf fC (t8 :: r8)=true:=hi
      have hQ:Kt p w g all σ Q ((dK n 0 r8).bind fun b bH=>.ok ⟨t6.s,ps,true,b,t.l⟩ bH):=by
            simp only [RG,if_true] at hQ;exact hQ
      obtain⟨WA,Ov,RJ⟩:=aN Vx oM hi
      have hlA:(all.drop (m8+1)).length=r8.length:=by rw [SV]
      rw [←SV] at hQ
      have CQ:=y9.get (by omega) lu
      have Aa:=y9.get (by omega) nH
      have Jq:=y9.get (by omega) cp8
      have X9:=X8.trans y9
      have l9:=y9.len
      conv=>whnf
      refine⟨?_,?_⟩
      ·conv=>whnf
       refine ak (aj (T:=dX) rfl rfl (ah (Aa)) rfl) ?_
       rfl
      conv=>whnf
      refine ak (aC (T:=kR) ([.s t6.s,A,.b true,.sl0,.i .i64 t.l]) rfl (CQ) rfl rfl (Nat.le_of_ble_eq_true rfl) rfl) ?_
      conv=>whnf
      have k10:=k9.bV CQ (by decide) (by decide) ⟨0,false,.cells 85 [.s t6.s,A,.b true,.sl0,.i .i64 t.l]⟩
      have oP:(List.set s9 σ1.length ⟨0,false,.cells 85 [.s t6.s,A,.b true,.sl0,.i .i64 t.l]⟩)[σ1.length]? =some ⟨0,false,.cells 85 [.s t6.s,A,.b true,.sl0,.i .i64 t.l]⟩:=at_set CQ _
      have ql:(List.set s9 σ1.length ⟨0,false,.cells 85 [.s t6.s,A,.b true,.sl0,.i .i64 t.l]⟩)[σ3.length]? =_:=aK Aa (by omega) _
      have cp10:(List.set s9 σ1.length ⟨0,false,.cells 85 [.s t6.s,A,.b true,.sl0,.i .i64 t.l]⟩)[σ.length]? =_:=aK Jq (by omega) _
      have Og:aI p σ (List.set s9 σ1.length ⟨0,false,.cells 85 [.s t6.s,A,.b true,.sl0,.i .i64 t.l]⟩):=X9.bM (bZ.bV _ _ _ _) (by omega)
      have l10:(List.set s9 σ1.length ⟨0,false,.cells 85 [.s t6.s,A,.b true,.sl0,.i .i64 t.l]⟩).length=s9.length:=List.length_set
      have RV:uw (fun i=>σ1.length<i) (List.set s9 σ1.length ⟨0,false,.cells 85 [.s t6.s,A,.b true,.sl0,.i .i64 t.l]⟩) A ps:=(show uw (fun i=>s7.length≤i) s8 A ps from ha8).mono (fun i hi=>by omega) (fun i hi a ha=>aK (y9.get (by omega) ha) (by omega) _)
      generalize List.set s9 σ1.length ⟨0,false,.cells 85 [.s t6.s,A,.b true,.sl0,.i .i64 t.l]⟩=s10 at k10 oP ql cp10 Og l10 RV ⊢
      have hgb:=(lW n).block 0 (all.drop (m8+1)) Ov (by omega)
      conv=>whnf
      refine ak (aj (T:=dX) rfl rfl (ah (ql)) rfl) ?_
      conv=>whnf
      refine ak (aj (T:=bC) rfl rfl (ah (cp10)) rfl) ?_
      conv=>whnf
      refine(YL (p:=p) (w:=w) (g:=g) hno hnn hko n).1.block 0 s10 (m8+1) _ k10 (by omega) Ov (by omega) ?_
      generalize dK n 0 (all.drop (m8+1))=rb at hgb hQ
      cases rb with
      | out=>exact hgb.elim
      | bad c l=>
        have hQ:Kt p w g all σ Q (.bad c l):=hQ
        intro Bd s11 sQ k11 hB
        have zJ:=sQ.get (by omega) oP
        have yC:=sQ.get (by omega) ql
        have Kv:=sQ.get (by omega) cp10
        have RU:=Og.trans sQ
        have Vw:=sQ.len
        refine jJ _ _ ?_
        conv=>whnf
        refine⟨?_,?_⟩
        ·conv=>whnf
         refine ak (aj (T:=dX) rfl rfl (ah (yC)) rfl) ?_
         rfl
        conv=>whnf
        refine ak (dL (T:=dN) [.s t6.s,A,.b true,Bd,.i .i64 t.l] hB rfl rfl zJ (Nat.le_of_ble_eq_true rfl) rfl) ?_
        have k12:=k11.bV zJ (by decide) (by decide) (by decide) ⟨0,false,.cells 85 [.s t6.s,A,.b true,Bd,.i .i64 t.l]⟩
        have cx12:(List.set s11 σ1.length ⟨0,false,.cells 85 [.s t6.s,A,.b true,Bd,.i .i64 t.l]⟩)[σ1.length]? =some ⟨0,false,.cells 85 [.s t6.s,A,.b true,Bd,.i .i64 t.l]⟩:=at_set zJ _
        have YR:(List.set s11 σ1.length ⟨0,false,.cells 85 [.s t6.s,A,.b true,Bd,.i .i64 t.l]⟩)[σ3.length]? =_:=aK yC (by omega) _
        have cp12:(List.set s11 σ1.length ⟨0,false,.cells 85 [.s t6.s,A,.b true,Bd,.i .i64 t.l]⟩)[σ.length]? =_:=aK Kv (by omega) _
        have X12:aI p σ (List.set s11 σ1.length ⟨0,false,.cells 85 [.s t6.s,A,.b true,Bd,.i .i64 t.l]⟩):=RU.bM (bZ.bV _ _ _ _) (by omega)
        have l12:(List.set s11 σ1.length ⟨0,false,.cells 85 [.s t6.s,A,.b true,Bd,.i .i64 t.l]⟩).length=s11.length:=List.length_set
        conv=>whnf
        refine ak (aj (T:=dX) rfl rfl (ah (YR)) rfl) ?_
        conv=>whnf
        exact Fin.ref rfl (hQ _ _ X12 k12)
      | ok bd fO=>
        have hQ:Kt p w g all σ Q (.ok ⟨t6.s,ps,true,bd,t.l⟩ fO):=hQ
        intro Bd s11 m9 sQ k11 yZ hbd hB
        have zJ:=sQ.get (by omega) oP
        have yC:=sQ.get (by omega) ql
        have Kv:=sQ.get (by omega) cp10
        have RU:=Og.trans sQ
        have Vw:=sQ.len
        refine jJ _ _ ?_
        conv=>whnf
        refine⟨?_,?_⟩
        ·conv=>whnf
         refine ak (aj (T:=dX) rfl rfl (ah (yC)) rfl) ?_
         rfl
        conv=>whnf
        refine ak (dL (T:=dN) [.s t6.s,A,.b true,Bd,.i .i64 t.l] hB rfl rfl zJ (Nat.le_of_ble_eq_true rfl) rfl) ?_
        have k12:=k11.bV zJ (by decide) (by decide) ⟨0,false,.cells 85 [.s t6.s,A,.b true,Bd,.i .i64 t.l]⟩
        have cx12:(List.set s11 σ1.length ⟨0,false,.cells 85 [.s t6.s,A,.b true,Bd,.i .i64 t.l]⟩)[σ1.length]? =some ⟨0,false,.cells 85 [.s t6.s,A,.b true,Bd,.i .i64 t.l]⟩:=at_set zJ _
        have YR:(List.set s11 σ1.length ⟨0,false,.cells 85 [.s t6.s,A,.b true,Bd,.i .i64 t.l]⟩)[σ3.length]? =_:=aK yC (by omega) _
        have cp12:(List.set s11 σ1.length ⟨0,false,.cells 85 [.s t6.s,A,.b true,Bd,.i .i64 t.l]⟩)[σ.length]? =_:=aK Kv (by omega) _
        have X12:aI p σ (List.set s11 σ1.length ⟨0,false,.cells 85 [.s t6.s,A,.b true,Bd,.i .i64 t.l]⟩):=RU.bM (bZ.bV _ _ _ _) (by omega)
        have l12:(List.set s11 σ1.length ⟨0,false,.cells 85 [.s t6.s,A,.b true,Bd,.i .i64 t.l]⟩).length=s11.length:=List.length_set
        conv=>whnf
        refine ak (aj (T:=dX) rfl rfl (ah (YR)) rfl) ?_
        conv=>whnf
        refine Fin.ref rfl (hQ _ _ _ X12 k12 yZ ⟨σ1.length,A,Bd,by omega,rfl,cx12,?_,?_⟩)
        ·exact RV.mono (fun i hi=>by omega) (fun i hi a ha=>aK (sQ.get (by have:=aX ha;omega) ha) (by omega) _)
        ·exact dR.mono (fun i hi=>by omega) (fun i hi a ha=>aK ha (by omega) _) hbd
     ·have RG:bf fC (t8 :: r8)=false:=hi
      have hQ:Kt p w g all σ Q ((dK n 0 (t8 :: r8)).bind fun b bH=>.ok ⟨t6.s,ps,false,b,t.l⟩ bH):=by
            simp only [RG,if_neg Bool.false_ne_true] at hQ;exact hQ
      rw [←oM] at hQ
      conv=>whnf
      refine⟨?_,?_⟩
      ·conv=>whnf
       refine ak (aj (T:=dX) rfl rfl (ah (nH)) rfl) ?_
       rfl
      conv=>whnf
      refine ak (aC (T:=kR) ([.s t6.s,A,.b false,.sl0,.i .i64 t.l]) rfl (lu) rfl rfl (Nat.le_of_ble_eq_true rfl) rfl) ?_
      conv=>whnf
      have k9:=k8.bV lu (by decide) (by decide) ⟨0,false,.cells 85 [.s t6.s,A,.b false,.sl0,.i .i64 t.l]⟩
      have CQ:(List.set s8 σ1.length ⟨0,false,.cells 85 [.s t6.s,A,.b false,.sl0,.i .i64 t.l]⟩)[σ1.length]? =some ⟨0,false,.cells 85 [.s t6.s,A,.b false,.sl0,.i .i64 t.l]⟩:=at_set lu _
      have Aa:(List.set s8 σ1.length ⟨0,false,.cells 85 [.s t6.s,A,.b false,.sl0,.i .i64 t.l]⟩)[σ3.length]? =_:=aK nH (by omega) _
      have Jq:(List.set s8 σ1.length ⟨0,false,.cells 85 [.s t6.s,A,.b false,.sl0,.i .i64 t.l]⟩)[σ.length]? =_:=aK cp8 (by omega) _
      have X9:aI p σ (List.set s8 σ1.length ⟨0,false,.cells 85 [.s t6.s,A,.b false,.sl0,.i .i64 t.l]⟩):=X8.bM (bZ.bV _ _ _ _) (by omega)
      have l9:(List.set s8 σ1.length ⟨0,false,.cells 85 [.s t6.s,A,.b false,.sl0,.i .i64 t.l]⟩).length=s8.length:=List.length_set
      have ha9:uw (fun i=>σ1.length<i) (List.set s8 σ1.length ⟨0,false,.cells 85 [.s t6.s,A,.b false,.sl0,.i .i64 t.l]⟩) A ps:=(show uw (fun i=>s7.length≤i) s8 A ps from ha8).mono (fun i hi=>by omega) (fun i hi a ha=>aK ha (by omega) _)
      generalize List.set s8 σ1.length ⟨0,false,.cells 85 [.s t6.s,A,.b false,.sl0,.i .i64 t.l]⟩=s9 at k9 CQ Aa Jq X9 l9 ha9 ⊢
      have hgb:=(lW n).block 0 (all.drop (m8)) Vx (by omega)
      conv=>whnf
      refine ak (aj (T:=dX) rfl rfl (ah (Aa)) rfl) ?_
      conv=>whnf
      refine ak (aj (T:=bC) rfl rfl (ah (Jq)) rfl) ?_
      conv=>whnf
      refine(YL (p:=p) (w:=w) (g:=g) hno hnn hko n).1.block 0 s9 (m8) _ k9 (by omega) Vx (by omega) ?_
      generalize dK n 0 (all.drop (m8))=rb at hgb hQ
      cases rb with
      | out=>exact hgb.elim
      | bad c l=>
        have hQ:Kt p w g all σ Q (.bad c l):=hQ
        intro Bd s10 oO k10 hB
        have oP:=oO.get (by omega) CQ
        have ql:=oO.get (by omega) Aa
        have cp10:=oO.get (by omega) Jq
        have Og:=X9.trans oO
        have l10:=oO.len
        refine jJ _ _ ?_
        conv=>whnf
        refine⟨?_,?_⟩
        ·conv=>whnf
         refine ak (aj (T:=dX) rfl rfl (ah (ql)) rfl) ?_
         rfl
        conv=>whnf
        refine ak (dL (T:=dN) [.s t6.s,A,.b false,Bd,.i .i64 t.l] hB rfl rfl oP (Nat.le_of_ble_eq_true rfl) rfl) ?_
        have k11:=k10.bV oP (by decide) (by decide) (by decide) ⟨0,false,.cells 85 [.s t6.s,A,.b false,Bd,.i .i64 t.l]⟩
        have zJ:(List.set s10 σ1.length ⟨0,false,.cells 85 [.s t6.s,A,.b false,Bd,.i .i64 t.l]⟩)[σ1.length]? =some ⟨0,false,.cells 85 [.s t6.s,A,.b false,Bd,.i .i64 t.l]⟩:=at_set oP _
        have yC:(List.set s10 σ1.length ⟨0,false,.cells 85 [.s t6.s,A,.b false,Bd,.i .i64 t.l]⟩)[σ3.length]? =_:=aK ql (by omega) _
        have Kv:(List.set s10 σ1.length ⟨0,false,.cells 85 [.s t6.s,A,.b false,Bd,.i .i64 t.l]⟩)[σ.length]? =_:=aK cp10 (by omega) _
        have RU:aI p σ (List.set s10 σ1.length ⟨0,false,.cells 85 [.s t6.s,A,.b false,Bd,.i .i64 t.l]⟩):=Og.bM (bZ.bV _ _ _ _) (by omega)
        have Vw:(List.set s10 σ1.length ⟨0,false,.cells 85 [.s t6.s,A,.b false,Bd,.i .i64 t.l]⟩).length=s10.length:=List.length_set
        conv=>whnf
        refine ak (aj (T:=dX) rfl rfl (ah (yC)) rfl) ?_
        conv=>whnf
        exact Fin.ref rfl (hQ _ _ RU k11)
      | ok bd fO=>
        have hQ:Kt p w g all σ Q (.ok ⟨t6.s,ps,false,bd,t.l⟩ fO):=hQ
        intro Bd s10 m9 oO k10 yZ hbd hB
        have oP:=oO.get (by omega) CQ
        have ql:=oO.get (by omega) Aa
        have cp10:=oO.get (by omega) Jq
        have Og:=X9.trans oO
        have l10:=oO.len
        refine jJ _ _ ?_
        conv=>whnf
        refine⟨?_,?_⟩
        ·conv=>whnf
         refine ak (aj (T:=dX) rfl rfl (ah (ql)) rfl) ?_
         rfl
        conv=>whnf
        refine ak (dL (T:=dN) [.s t6.s,A,.b false,Bd,.i .i64 t.l] hB rfl rfl oP (Nat.le_of_ble_eq_true rfl) rfl) ?_
        have k11:=k10.bV oP (by decide) (by decide) ⟨0,false,.cells 85 [.s t6.s,A,.b false,Bd,.i .i64 t.l]⟩
        have zJ:(List.set s10 σ1.length ⟨0,false,.cells 85 [.s t6.s,A,.b false,Bd,.i .i64 t.l]⟩)[σ1.length]? =some ⟨0,false,.cells 85 [.s t6.s,A,.b false,Bd,.i .i64 t.l]⟩:=at_set oP _
        have yC:(List.set s10 σ1.length ⟨0,false,.cells 85 [.s t6.s,A,.b false,Bd,.i .i64 t.l]⟩)[σ3.length]? =_:=aK ql (by omega) _
        have Kv:(List.set s10 σ1.length ⟨0,false,.cells 85 [.s t6.s,A,.b false,Bd,.i .i64 t.l]⟩)[σ.length]? =_:=aK cp10 (by omega) _
        have RU:aI p σ (List.set s10 σ1.length ⟨0,false,.cells 85 [.s t6.s,A,.b false,Bd,.i .i64 t.l]⟩):=Og.bM (bZ.bV _ _ _ _) (by omega)
        have Vw:(List.set s10 σ1.length ⟨0,false,.cells 85 [.s t6.s,A,.b false,Bd,.i .i64 t.l]⟩).length=s10.length:=List.length_set
        conv=>whnf
        refine ak (aj (T:=dX) rfl rfl (ah (yC)) rfl) ?_
        conv=>whnf
        refine Fin.ref rfl (hQ _ _ _ RU k11 yZ ⟨σ1.length,A,Bd,by omega,rfl,zJ,?_,?_⟩)
        ·exact ha9.mono (fun i hi=>by omega) (fun i hi a ha=>aK (oO.get (by have:=aX ha;omega) ha) (by omega) _)
        ·exact dR.mono (fun i hi=>by omega) (fun i hi a ha=>aK ha (by omega) _) hbd
  ·simp only [eP,if_neg hk1] at hQ
   have hQ:Kt p w g all σ Q (.bad 4 t6.l):=hQ
   have tN:=y6.get (by omega) xw
   have wU:=y6.get (by omega) rC
   have cp6:=y6.get (by omega) cp5
   have X6:=X5.trans y6
   have l6:=y6.len
   conv=>whnf
   refine⟨?_,?_⟩
   ·conv=>whnf
    refine ak (aj (T:=dX) rfl rfl (ah (wU)) rfl) ?_
    rfl
   conv=>whnf
   refine ak (aC (T:=fA) ([.s [],.sl0,.b false,.sl0,.i .i64 t.l]) rfl (tN) rfl rfl (Nat.le_of_ble_eq_true rfl) rfl) ?_
   conv=>whnf
   have k7:=k6.bV tN (by decide) (by decide) (by decide) ⟨0,false,.cells 85 [.s [],.sl0,.b false,.sl0,.i .i64 t.l]⟩
   have uo:(List.set s6 σ1.length ⟨0,false,.cells 85 [.s [],.sl0,.b false,.sl0,.i .i64 t.l]⟩)[σ1.length]? =some ⟨0,false,.cells 85 [.s [],.sl0,.b false,.sl0,.i .i64 t.l]⟩:=at_set tN _
   have uq:(List.set s6 σ1.length ⟨0,false,.cells 85 [.s [],.sl0,.b false,.sl0,.i .i64 t.l]⟩)[σ3.length]? =_:=aK wU (by omega) _
   have Ox:(List.set s6 σ1.length ⟨0,false,.cells 85 [.s [],.sl0,.b false,.sl0,.i .i64 t.l]⟩)[σ.length]? =_:=aK cp6 (by omega) _
   have X7:aI p σ (List.set s6 σ1.length ⟨0,false,.cells 85 [.s [],.sl0,.b false,.sl0,.i .i64 t.l]⟩):=X6.bM (bZ.bV _ _ _ _) (by omega)
   have l7:(List.set s6 σ1.length ⟨0,false,.cells 85 [.s [],.sl0,.b false,.sl0,.i .i64 t.l]⟩).length=s6.length:=List.length_set
   generalize List.set s6 σ1.length ⟨0,false,.cells 85 [.s [],.sl0,.b false,.sl0,.i .i64 t.l]⟩=s7 at k7 uo uq Ox X7 l7 ⊢
   conv=>whnf
   refine ak (aj (T:=bC) rfl rfl (ah (Ox)) rfl) ?_
   conv=>whnf
   refine RP k7 (Nat.le_of_ble_eq_true rfl) fun s8 y8 k8=>?_
   have lu:=y8.get (by omega) uo
   have nH:=y8.get (by omega) uq
   have cp8:=y8.get (by omega) Ox
   have X8:=X7.trans y8
   have l8:=y8.len
   conv=>whnf
   refine ak (aj (T:=dX) rfl rfl (ah (nH)) rfl) ?_
   conv=>whnf
   refine ak (aj (T:=bC) rfl rfl (ah (cp8)) rfl) ?_
   conv=>whnf
   refine ay.to (lK [112,116,114] k8) ?_
   conv=>whnf
   refine⟨?_,?_⟩
   ·conv=>whnf
    refine ak (aj (T:=dX) rfl rfl (ah (nH)) rfl) ?_
    rfl
   conv=>whnf
   refine ak (aC (T:=kR) ([.s [],.sl0,.b false,.sl0,.i .i64 t.l]) rfl (lu) rfl rfl (Nat.le_of_ble_eq_true rfl) rfl) ?_
   conv=>whnf
   have k9:=k8.bV lu (by decide) (by decide) (by decide) ⟨0,false,.cells 85 [.s [],.sl0,.b false,.sl0,.i .i64 t.l]⟩
   have CQ:(List.set s8 σ1.length ⟨0,false,.cells 85 [.s [],.sl0,.b false,.sl0,.i .i64 t.l]⟩)[σ1.length]? =some ⟨0,false,.cells 85 [.s [],.sl0,.b false,.sl0,.i .i64 t.l]⟩:=at_set lu _
   have Aa:(List.set s8 σ1.length ⟨0,false,.cells 85 [.s [],.sl0,.b false,.sl0,.i .i64 t.l]⟩)[σ3.length]? =_:=aK nH (by omega) _
   have Jq:(List.set s8 σ1.length ⟨0,false,.cells 85 [.s [],.sl0,.b false,.sl0,.i .i64 t.l]⟩)[σ.length]? =_:=aK cp8 (by omega) _
   have X9:aI p σ (List.set s8 σ1.length ⟨0,false,.cells 85 [.s [],.sl0,.b false,.sl0,.i .i64 t.l]⟩):=X8.bM (bZ.bV _ _ _ _) (by omega)
   have l9:(List.set s8 σ1.length ⟨0,false,.cells 85 [.s [],.sl0,.b false,.sl0,.i .i64 t.l]⟩).length=s8.length:=List.length_set
   generalize List.set s8 σ1.length ⟨0,false,.cells 85 [.s [],.sl0,.b false,.sl0,.i .i64 t.l]⟩=s9 at k9 CQ Aa Jq X9 l9 ⊢
   conv=>whnf
   refine ak (aj (T:=dX) rfl rfl (ah (Aa)) rfl) ?_
   conv=>whnf
   refine ak (aj (T:=bC) rfl rfl (ah (Jq)) rfl) ?_
   conv=>whnf
   refine wQ k9 (Nat.le_of_ble_eq_true rfl) fun s10 oO k10=>?_
   have oP:=oO.get (by omega) CQ
   have ql:=oO.get (by omega) Aa
   have cp10:=oO.get (by omega) Jq
   have Og:=X9.trans oO
   have l10:=oO.len
   conv=>whnf
   refine⟨?_,?_⟩
   ·conv=>whnf
    refine ak (aj (T:=dX) rfl rfl (ah (ql)) rfl) ?_
    rfl
   conv=>whnf
   refine ak (aC (T:=dN) ([.s [],.sl0,.b false,.sl0,.i .i64 t.l]) rfl (oP) rfl rfl (Nat.le_of_ble_eq_true rfl) rfl) ?_
   conv=>whnf
   have k11:=k10.bV oP (by decide) (by decide) (by decide) ⟨0,false,.cells 85 [.s [],.sl0,.b false,.sl0,.i .i64 t.l]⟩
   have zJ:(List.set s10 σ1.length ⟨0,false,.cells 85 [.s [],.sl0,.b false,.sl0,.i .i64 t.l]⟩)[σ1.length]? =some ⟨0,false,.cells 85 [.s [],.sl0,.b false,.sl0,.i .i64 t.l]⟩:=at_set oP _
   have yC:(List.set s10 σ1.length ⟨0,false,.cells 85 [.s [],.sl0,.b false,.sl0,.i .i64 t.l]⟩)[σ3.length]? =_:=aK ql (by omega) _
   have Kv:(List.set s10 σ1.length ⟨0,false,.cells 85 [.s [],.sl0,.b false,.sl0,.i .i64 t.l]⟩)[σ.length]? =_:=aK cp10 (by omega) _
   have RU:aI p σ (List.set s10 σ1.length ⟨0,false,.cells 85 [.s [],.sl0,.b false,.sl0,.i .i64 t.l]⟩):=Og.bM (bZ.bV _ _ _ _) (by omega)
   have Vw:(List.set s10 σ1.length ⟨0,false,.cells 85 [.s [],.sl0,.b false,.sl0,.i .i64 t.l]⟩).length=s10.length:=List.length_set
   conv=>whnf
   refine ak (aj (T:=dX) rfl rfl (ah (yC)) rfl) ?_
   conv=>whnf
   exact Fin.ref rfl (hQ _ _ RU k11)
 ·rw [aQ,if_neg (show ¬bf wI (t :: r)=true by rw [show bf wI (t :: r)=dF [102,117,110,99] t from rfl,hi];decide)] at hQ
  have hQ:Kt p w g all σ Q (.bad 4 t.l):=hQ
  have xw:=y5.get (by omega) cx4
  have rC:=y5.get (by omega) cv4
  have cp5:=y5.get (by omega) cp4
  have X5:=X4.trans y5
  have l5:=y5.len
  conv=>whnf
  refine ak (aj (T:=dX) rfl rfl (ah (rC)) rfl) ?_
  conv=>whnf
  refine ak (aj (T:=bC) rfl rfl (ah (cp5)) rfl) ?_
  conv=>whnf
  refine ay.to (FY k5) ?_
  conv=>whnf
  refine⟨?_,?_⟩
  ·conv=>whnf
   refine ak (aj (T:=dX) rfl rfl (ah (rC)) rfl) ?_
   rfl
  conv=>whnf
  refine ak (aC (T:=fA) ([.s [],.sl0,.b false,.sl0,.i .i64 t.l]) rfl (xw) rfl rfl (Nat.le_of_ble_eq_true rfl) rfl) ?_
  conv=>whnf
  have k6:=k5.bV xw (by decide) (by decide) (by decide) ⟨0,false,.cells 85 [.s [],.sl0,.b false,.sl0,.i .i64 t.l]⟩
  have tN:(List.set s5 σ1.length ⟨0,false,.cells 85 [.s [],.sl0,.b false,.sl0,.i .i64 t.l]⟩)[σ1.length]? =some ⟨0,false,.cells 85 [.s [],.sl0,.b false,.sl0,.i .i64 t.l]⟩:=at_set xw _
  have wU:(List.set s5 σ1.length ⟨0,false,.cells 85 [.s [],.sl0,.b false,.sl0,.i .i64 t.l]⟩)[σ3.length]? =_:=aK rC (by omega) _
  have cp6:(List.set s5 σ1.length ⟨0,false,.cells 85 [.s [],.sl0,.b false,.sl0,.i .i64 t.l]⟩)[σ.length]? =_:=aK cp5 (by omega) _
  have X6:aI p σ (List.set s5 σ1.length ⟨0,false,.cells 85 [.s [],.sl0,.b false,.sl0,.i .i64 t.l]⟩):=X5.bM (bZ.bV _ _ _ _) (by omega)
  have l6:(List.set s5 σ1.length ⟨0,false,.cells 85 [.s [],.sl0,.b false,.sl0,.i .i64 t.l]⟩).length=s5.length:=List.length_set
  generalize List.set s5 σ1.length ⟨0,false,.cells 85 [.s [],.sl0,.b false,.sl0,.i .i64 t.l]⟩=s6 at k6 tN wU cp6 X6 l6 ⊢
  conv=>whnf
  refine ak (aj (T:=bC) rfl rfl (ah (cp6)) rfl) ?_
  conv=>whnf
  refine RP k6 (Nat.le_of_ble_eq_true rfl) fun s7 y7 k7=>?_
  have uo:=y7.get (by omega) tN
  have uq:=y7.get (by omega) wU
  have Ox:=y7.get (by omega) cp6
  have X7:=X6.trans y7
  have l7:=y7.len
  conv=>whnf
  refine ak (aj (T:=dX) rfl rfl (ah (uq)) rfl) ?_
  conv=>whnf
  refine ak (aj (T:=bC) rfl rfl (ah (Ox)) rfl) ?_
  conv=>whnf
  refine ay.to (lK [112,116,114] k7) ?_
  conv=>whnf
  refine⟨?_,?_⟩
  ·conv=>whnf
   refine ak (aj (T:=dX) rfl rfl (ah (uq)) rfl) ?_
   rfl
  conv=>whnf
  refine ak (aC (T:=kR) ([.s [],.sl0,.b false,.sl0,.i .i64 t.l]) rfl (uo) rfl rfl (Nat.le_of_ble_eq_true rfl) rfl) ?_
  conv=>whnf
  have k8:=k7.bV uo (by decide) (by decide) (by decide) ⟨0,false,.cells 85 [.s [],.sl0,.b false,.sl0,.i .i64 t.l]⟩
  have lu:(List.set s7 σ1.length ⟨0,false,.cells 85 [.s [],.sl0,.b false,.sl0,.i .i64 t.l]⟩)[σ1.length]? =some ⟨0,false,.cells 85 [.s [],.sl0,.b false,.sl0,.i .i64 t.l]⟩:=at_set uo _
  have nH:(List.set s7 σ1.length ⟨0,false,.cells 85 [.s [],.sl0,.b false,.sl0,.i .i64 t.l]⟩)[σ3.length]? =_:=aK uq (by omega) _
  have cp8:(List.set s7 σ1.length ⟨0,false,.cells 85 [.s [],.sl0,.b false,.sl0,.i .i64 t.l]⟩)[σ.length]? =_:=aK Ox (by omega) _
  have X8:aI p σ (List.set s7 σ1.length ⟨0,false,.cells 85 [.s [],.sl0,.b false,.sl0,.i .i64 t.l]⟩):=X7.bM (bZ.bV _ _ _ _) (by omega)
  have l8:(List.set s7 σ1.length ⟨0,false,.cells 85 [.s [],.sl0,.b false,.sl0,.i .i64 t.l]⟩).length=s7.length:=List.length_set
  generalize List.set s7 σ1.length ⟨0,false,.cells 85 [.s [],.sl0,.b false,.sl0,.i .i64 t.l]⟩=s8 at k8 lu nH cp8 X8 l8 ⊢
  conv=>whnf
  refine ak (aj (T:=dX) rfl rfl (ah (nH)) rfl) ?_
  conv=>whnf
  refine ak (aj (T:=bC) rfl rfl (ah (cp8)) rfl) ?_
  conv=>whnf
  refine wQ k8 (Nat.le_of_ble_eq_true rfl) fun s9 y9 k9=>?_
  have CQ:=y9.get (by omega) lu
  have Aa:=y9.get (by omega) nH
  have Jq:=y9.get (by omega) cp8
  have X9:=X8.trans y9
  have l9:=y9.len
  conv=>whnf
  refine⟨?_,?_⟩
  ·conv=>whnf
   refine ak (aj (T:=dX) rfl rfl (ah (Aa)) rfl) ?_
   rfl
  conv=>whnf
  refine ak (aC (T:=dN) ([.s [],.sl0,.b false,.sl0,.i .i64 t.l]) rfl (CQ) rfl rfl (Nat.le_of_ble_eq_true rfl) rfl) ?_
  conv=>whnf
  have k10:=k9.bV CQ (by decide) (by decide) (by decide) ⟨0,false,.cells 85 [.s [],.sl0,.b false,.sl0,.i .i64 t.l]⟩
  have oP:(List.set s9 σ1.length ⟨0,false,.cells 85 [.s [],.sl0,.b false,.sl0,.i .i64 t.l]⟩)[σ1.length]? =some ⟨0,false,.cells 85 [.s [],.sl0,.b false,.sl0,.i .i64 t.l]⟩:=at_set CQ _
  have ql:(List.set s9 σ1.length ⟨0,false,.cells 85 [.s [],.sl0,.b false,.sl0,.i .i64 t.l]⟩)[σ3.length]? =_:=aK Aa (by omega) _
  have cp10:(List.set s9 σ1.length ⟨0,false,.cells 85 [.s [],.sl0,.b false,.sl0,.i .i64 t.l]⟩)[σ.length]? =_:=aK Jq (by omega) _
  have Og:aI p σ (List.set s9 σ1.length ⟨0,false,.cells 85 [.s [],.sl0,.b false,.sl0,.i .i64 t.l]⟩):=X9.bM (bZ.bV _ _ _ _) (by omega)
  have l10:(List.set s9 σ1.length ⟨0,false,.cells 85 [.s [],.sl0,.b false,.sl0,.i .i64 t.l]⟩).length=s9.length:=List.length_set
  conv=>whnf
  refine ak (aj (T:=dX) rfl rfl (ah (ql)) rfl) ?_
  conv=>whnf
  exact Fin.ref rfl (hQ _ _ Og k10)
end
end Go.bP.YthoodopjoaigdaaGreatDoor
namespace Go.bP.YthoodopjoaigdaaGreatDoor
open Go.Proofs
def LV (z:Tok):Prop:=(z.k=2→((∀c∈z.s,48≤c.toNat∧c.toNat≤57)∧pO 0 z.s<4294967296∧z.s.length≤100000)∧z.s≠[])∧(z.k=4→z.s∈keys)∧(z.k=3→z.s∉keys)
theorem LW:∀(l:List UInt8) (v:Nat),jr v l=true→v<4294967296→pO v l<4294967296
 | [],v,_,hv=>hv
 | c :: l,v,h,_=>by
   unfold jr at h
   split at h
   ·cases h
   ·exact LW l _ h (by omega)
theorem step_ok (c:UInt8)(t:List UInt8)(k n l:Nat)(hl:(c :: t).length≤32768)(h:step (c :: t)= .tok k n):LV ⟨k,(c :: t).take n,l⟩:=by
 unfold step at h
 split at h
 ·cases h
 ·simp only at h
  split at h
  ·cases h
  ·split at h
   ·split at h
    ·cases h
    ·split at h
     ·rename_i hk
      cases h
      exact⟨fun e=>by simp at e,fun _=>List.contains_iff_mem.1 hk,fun e=>by simp at e⟩
     ·cases h
      exact⟨fun e=>by simp at e,fun e=>by simp at e,fun e=>by simp at e⟩
   ·rename_i hlet
    split at h
    ·rename_i hd
     split at h
     ·cases h
     ·split at h
      ·cases h
      ·rename_i hbig
       cases h
       have hall:=wG isDigit (c :: t)
       have hne:(c :: t).take (run isDigit (c :: t))≠[]:=by
                have hp:0<run isDigit (c :: t):=kU _ hd
                obtain⟨k,hk⟩:∃k,run isDigit (c :: t)=k+1:=⟨_,(Nat.sub_add_cancel hp).symm⟩
                rw [hk,List.take_succ_cons];simp
       have hok:jr 0 ((c :: t).take (run isDigit (c :: t)))=true:=by
                rw [BZ hall hne] at hbig
                simpa using hbig
       refine⟨fun _=>⟨⟨fun x hx=>?_,LW _ 0 hok (by decide),?_⟩,hne⟩,fun e=>by simp at e,fun e=>by simp at e⟩
       ·have:=hall x hx
        simp only [isDigit,Bool.and_eq_true,decide_eq_true_eq] at this
        omega
       ·have hr:=mY isDigit (c :: t)
        show ((c :: t).take (run isDigit (c :: t))).length≤100000
        rw [List.length_take];omega
    ·split at h
     ·have hk:∀n,(c :: t).take (n+1)∉keys:=by
       intro n hm
       have hh:∀w∈keys,∀a∈w.head?,bT a.toNat=true:=by decide
       have:=hh _ hm c (by rw [List.take_succ_cons];rfl)
       exact hlet this
      split at h
      ·cases h
       exact⟨fun e=>by simp at e,fun e=>by simp at e,fun _=>hk 1⟩
      ·cases h
       exact⟨fun e=>by simp at e,fun e=>by simp at e,fun _=>hk 0⟩
     ·cases h
theorem Gj:∀(n:Nat) (s:List UInt8) (l:Nat) (acc l':List Tok) (n':Nat),s.length≤32768→(∀z∈acc,LV z)→kJ n s l acc= .done l' n'→∀z∈l',LV z
 | _,[],l,acc,l',n',_,ha,h=>by
   unfold kJ at h;cases h;exact ha
 | 0,c :: t,l,acc,l',n',_,ha,h=>by
   unfold kJ at h;cases h;exact ha
 | n+1,c :: t,l,acc,l',n',hs,ha,h=>by
   unfold kJ at h
   have hf:=r_ c t
   cases hst:step (c :: t) with
   | skip k nl=>
     rw [hst] at h
     exact Gj n _ _ acc l' n' (by rw [List.length_drop];omega) ha h
   | tok k m=>
     rw [hst] at h
     refine Gj n _ _ _ l' n' (by rw [List.length_drop];omega) (fun z hz=>?_) h
     rcases List.mem_append.1 hz with hz | hz
     ·exact ha z hz
     ·rw [List.mem_singleton.1 hz]
      exact step_ok c t k m l hs hst
   | err e=>rw [hst] at h;cases h
theorem Jg (z:Tok)(hz:z.k=5):∀l:List Tok,aS (l ++ [z])
 | []=>by
   show aS [z]
   unfold aS
   rw [if_pos rfl];exact hz
 | x :: l=>by
   show aS (x :: (l ++ [z]))
   unfold aS
   rw [if_neg (by simp)]
   exact Jg z hz l
theorem LX {t:List UInt8} {l:List Tok} (h:qO t= .toks l):aS l∧ni l∧CB l∧Jc l:=by
 unfold qO at h
 split at h
 ·cases h
 ·cases hG:kJ t.length t 0 [] with
  | bad e l=>rw [hG] at h;cases h
  | done l0 n=>
    rw [hG] at h
    cases h
    have h0:=Gj t.length t 0 [] l0 n (by omega) (fun z hz=>by cases hz) hG
    have h1:∀z∈l0 ++ [⟨5,[],n⟩],LV z:=by
        intro z hz
        rcases List.mem_append.1 hz with hz | hz
        ·exact h0 z hz
        ·rw [List.mem_singleton.1 hz]
         exact⟨fun e=>by simp at e,fun e=>by simp at e,fun e=>by simp at e⟩
    exact⟨Jg _ rfl _,fun z hz hk=>((h1 z hz).1 hk).1,fun z hz hk=>((h1 z hz).1 hk).2,fun z hz=>(h1 z hz).2⟩
end Go.bP.YthoodopjoaigdaaGreatDoor
namespace Go.bP.YthoodopjoaigdaaGreatDoor
open Go.Proofs
set_option maxRecDepth 4000
def Oh (B:Nat)(σ:St)(v:AV)(cs:List AV):Prop:=(cs=[]∧v= .sl0)∨∃o g,B≤o∧v= .sl o g 0 cs.length 1∧σ[o]? =some ⟨g,false,.cells 49 cs⟩∧cs≠[]
theorem RX {B:Nat} {σ:St} {v:AV} {cs:List AV} (h:Oh B σ v cs) {oy gy:Nat} (hcs:cs.all AV.one=true)(hl:cs.length≤100000) {C:Nat} (hC:σ[C]? =some ⟨0,false,.cells 49 [.p oy gy 0]⟩)(hB:B≤σ.length) {Q:AV→St→Prop}
 (q:∀v' σ',Oh B σ' v' (cs ++ [.p oy gy 0])→σ.length≤σ'.length→(∀i,i<σ.length→apart v i→σ'[i]? =σ[i]?∧apart v' i)→(∀i,i<B→σ'[i]? =σ[i]?)→(∀i,σ'.length≤i→apart v' i)→Q v' σ') :
 BH Ie.get false 43 v (.sl C 0 0 1 1) σ Q:=by
 constructor
 refine ak (v:=lH) rfl ?_
 refine ak (v:=dX) rfl ?_
 refine ak (jH hC (Nat.le_of_ble_eq_true rfl)) ?_
 rcases h with ⟨rfl,rfl⟩ | ⟨o,g,h1,rfl,h3,_⟩
 ·refine⟨Nat.le_of_ble_eq_true rfl,?_⟩
  refine q _ _ (.inr ⟨σ.length,0,hB,rfl,?_,by simp⟩) (by rw [aG];omega) (fun i hi _=>⟨dh hi,fun o g n z e=>by cases e;omega⟩) (fun i hi=>dh (by omega)) (fun i hi o g n z e=>by cases e;rw [aG] at hi;omega)
  rw [aF];rfl
 ·refine ak (oI h3) ?_
  refine⟨rfl,by simp,?_,by rw [List.drop_zero,List.take_of_length_le (by omega)];exact hcs,?_⟩
  ·show (cs.length+1)*8≤_;omega
  refine q _ _ (.inr ⟨o,g+1,h1,by simp,?_,by simp⟩) (by rw [List.length_set];exact Nat.le_refl _) (fun i hi ha=>⟨by rw [List.getElem?_set_ne (fun e=>ha o g _ _ rfl e.symm)],fun o' g' n z e=>by cases e;exact ha o g _ _ rfl⟩) (fun i hi=>by rw [List.getElem?_set_ne (by omega)]) (fun i hi o' g' n z e=>by cases e;rw [List.length_set] at hi;have:=aX h3;omega)
  rw [at_set h3]
  simp [List.take_of_length_le]
  rfl
def gJ (S:Nat→Prop)(σ:St):List AV→List Fm→Prop
 | [],[]=>True
 | a :: cs,x :: xs=>(∃o g,a= .p o g 0)∧yx S σ a x∧gJ S σ cs xs
 | _,_=>False
theorem gJ.mono {S S':Nat→Prop} {σ σ':St} (h1:∀o,S o→S' o)(h2:∀o,S o→∀a,σ[o]? =some a→σ'[o]? =some a):∀{cs:List AV} {xs:List Fm},gJ S σ cs xs→gJ S' σ' cs xs
 | [],[],_=>trivial
 | a :: cs,x :: xs,h=>⟨h.1,h.2.1.mono h1 h2,gJ.mono h1 h2 h.2.2⟩
theorem gJ.snoc {S:Nat→Prop} {σ:St} :∀{cs:List AV} {xs:List Fm} {a:AV} {x:Fm},gJ S σ cs xs→(∃o g,a= .p o g 0)→yx S σ a x→gJ S σ (cs ++ [a]) (xs ++ [x])
 | [],[],a,x,_,ha,hx=>⟨ha,hx,trivial⟩
 | b :: cs,y :: xs,a,x,h,ha,hx=>⟨h.1,h.2.1,gJ.snoc h.2.2 ha hx⟩
theorem gJ.len {S:Nat→Prop} {σ:St} :∀{cs:List AV} {xs:List Fm},gJ S σ cs xs→cs.length=xs.length
 | [],[],_=>rfl
 | a :: cs,x :: xs,h=>by have:=gJ.len h.2.2;simp [this]
theorem gJ.one {S:Nat→Prop} {σ:St} :∀{cs:List AV} {xs:List Fm},gJ S σ cs xs→cs.all AV.one=true
 | [],[],_=>rfl
 | a :: cs,x :: xs,h=>by
   obtain⟨o,g,rfl⟩:=h.1
   rw [List.all_cons,gJ.one h.2.2];rfl
def yD (B:Nat)(σ:St)(v:AV)(xs:List Fm):Prop:=∃cs,Oh B σ v cs∧gJ (fun i=>B≤i∧apart v i) σ cs xs
theorem Oh.sl {B:Nat} {σ:St} {v:AV} {cs:List AV} (h:Oh B σ v cs):wK v:=by
 rcases h with ⟨_,rfl⟩ | ⟨o,g,_,rfl,_⟩
 ·exact .inl rfl
 ·exact .inr ⟨_,_,_,rfl⟩
theorem gJ.below {S:Nat→Prop} {σ:St} :∀{cs:List AV} {xs:List Fm},gJ S σ cs xs→gJ (fun o=>S o∧o<σ.length) σ cs xs
 | [],[],_=>trivial
 | a :: cs,x :: xs,h=>⟨h.1,h.2.1.below,h.2.2.below⟩
theorem wY {p B D:Nat} {Bf σ2:St} {A:AV} {acc:List Fm} (ha:yD B Bf A acc)(x2:aI p Bf σ2)(hp:p<B)(hB:B≤Bf.length)(hD:D≤σ2.length)(hD0:Bf.length≤D)(hl:acc.length≤90000)(oy gy:Nat) {Q:AV→St→Prop}
 (q:∀o3 g3 k σ3,(∀i,i<B→σ3[i]? =σ2[i]?)→σ2.length≤σ3.length→(∀(i:Nat) (a:AO),σ2[i]? =some a→(∀(g:Nat) (ro:Bool) (cs:List AV),a≠⟨g,ro,.cells 49 cs⟩)→σ3[i]? =some a)→(∀y,yx (fun i=>D≤i) σ2 (.p oy gy 0) y→yD B σ3 (.sl o3 g3 0 k 1) (acc ++ [y]))→Q (.sl o3 g3 0 k 1) σ3) :
 BH Ie.get false 43 A (.sl σ2.length 0 0 1 1) (au 49 [.p oy gy 0] σ2) Q:=by
 obtain⟨cs,hraw,hea⟩:=ha
 have hcl:=hea.len
 have hco:=hea.one
 have lx:=x2.len
 have I9:Oh B (au 49 [.p oy gy 0] σ2) A cs:=by
  rcases hraw with h | ⟨o,g,q1,q2,q3,q4⟩
  ·exact .inl h
  ·exact .inr ⟨o,g,q1,q2,at_new (x2.get (by omega) q3) _ _,q4⟩
 have hlt:∀o g n z,A= .sl o g 0 n z→o<Bf.length:=by
  intro o g n z e
  rcases hraw with ⟨_,h⟩ | ⟨o',g',q1,q2,q3,q4⟩
  ·rw [h] at e;cases e
  ·rw [q2] at e;cases e;exact aX q3
 refine RX (B:=B) (cs:=cs) I9 hco (by omega) (aF _ _ _) (by rw [aG];omega) fun v' σ3 hr3 hl3 ho3 hb3 Rk=>?_
 rw [aG] at hl3
 obtain⟨o3,g3,p1,rfl,p3,p4⟩:=hr3.resolve_left (by simp)
 refine q _ _ _ σ3 (fun i hi=>by rw [hb3 i hi,dh (by omega)]) (by omega) (fun i a hi ht=>?_) (fun y qV=>?_)
 ·rw [(ho3 i (by rw [aG];have:=aX hi;omega) ?_).1]
  ·exact at_new hi _ _
  ·intro o g n z e
   rcases hraw with ⟨_,h⟩ | ⟨o',g',q1,q2,q3,q4⟩
   ·rw [h] at e;cases e
   ·rw [q2] at e
    cases e
    intro e
    subst e
    have:=(x2.get (by omega) q3).symm.trans hi
    exact ht _ _ _ (Option.some.inj this).symm
 refine⟨_,hr3,gJ.snoc (gJ.mono (fun i hi=>⟨hi.1.1,(ho3 i (by rw [aG];omega) hi.1.2).2⟩) (fun i hi a ha=>by rw [(ho3 i (by rw [aG];omega) hi.1.2).1,dh (by omega),x2.old i hi.2 (by omega)];exact ha) hea.below) ⟨_,_,rfl⟩ ?_⟩
 have hap:∀i,D≤i→apart A i:=fun i hi o g n z e=>by have:=hlt o g n z e;omega
 exact yx.mono (fun i hi=>⟨by omega,(ho3 i (by rw [aG];omega) (hap i hi.1)).2⟩) (fun i hi a ha=>by rw [(ho3 i (by rw [aG];omega) (hap i hi.1)).1];exact at_new ha _ _) qV.below
theorem yD.keep {B:Nat} {σ σ':St} {v:AV} {xs:List Fm} (h:yD B σ v xs)(k:∀(i:Nat) (a:AO),B≤i→σ[i]? =some a→σ'[i]? =some a):yD B σ' v xs:=by
 obtain⟨cs,h1,h2⟩:=h
 refine⟨cs,?_,h2.mono (fun i hi=>hi) (fun i hi a ha=>k i a hi.1 ha)⟩
 rcases h1 with h | ⟨o,g,q1,q2,q3,q4⟩
 ·exact .inl h
 ·exact .inr ⟨o,g,q1,q2,k o _ q1 q3,q4⟩
theorem PW.Gl {p w g m d:Nat} {all:List Tok} {σ σ':St} {f:AV} (h:PW p w g all σ m d f)(k:∀(i:Nat) (a:AO),σ[i]? =some a→(∀(g:Nat) (ro:Bool) (cs:List AV),a≠⟨g,ro,.cells 49 cs⟩)→σ'[i]? =some a):PW p w g all σ' m d f:=
 ⟨k _ _ h.obj (fun _ _ _ e=>by cases e),k _ _ h.tok (fun _ _ _ e=>by cases e),h.ne,h.len,h.at_,h.dp⟩
theorem PB.Gl {p d c l:Nat} {σ σ':St} (h:PB p σ d c l)(k:∀(i:Nat) (a:AO),σ[i]? =some a→(∀(g:Nat) (ro:Bool) (cs:List AV),a≠⟨g,ro,.cells 49 cs⟩)→σ'[i]? =some a):PB p σ' d c l:=by
 obtain⟨w,g,all,m,fo,fg,h1,h2,h3⟩:=h
 exact⟨w,g,all,m,fo,fg,h1.Gl k,h2,k _ _ h3 (fun _ _ _ e=>by cases e)⟩
def PFs (p w g:Nat)(all:List Tok)(B q:Nat)(σ:St)(acc:List Fm)(Q:Out→Env→St→Prop):Re (List Fm)→Prop
 | .ok xs ts=>∀A' σ' m' e',get e' 6= .p p 0 0→get e' 7= .p q 0 0→cO p q B σ σ'→PW p w g all σ' m' 0 .p0→all.drop m'= ts→σ'[q]? =some ⟨0,false,.cells 45 [A']⟩→yD B σ' A' (acc ++ xs)→Q (.exit 0) e' σ'
 | .bad c l=>∀e' σ',get e' 6= .p p 0 0→cO p q B σ σ'→PB p σ' 0 c l→Q (.exit 0) e' σ'
 | .out=>True
section
variable {p w g:Nat} {all:List Tok}
theorem Kw {d c l q:Nat} {σ:St} {Q:Out→Env→St→Prop} (h:PB p σ d c l)(hq:∀e',get e' 6= .p p 0 0→Q (.exit 0) e' σ):aW X [6,7] Xh [(6,.p p 0 0),(7,.p q 0 0)] σ Q:=by
 refine aW.round aH (lit:=false) ?_
 conv=>whnf
 refine ay.to (qW h) ?_
 conv=>whnf
 exact hq _ rfl
theorem LY (hno:ni all)(hnn:CB all)(hko:Jc all):∀(n B q:Nat),(p<B∧w<B∧q<B)→q≠p→∀(acc:List Fm) (A:AV) (σ:St) (m:Nat) (Q:Out→Env→St→Prop),PW p w g all σ m 0 .p0→B≤σ.length→σ[q]? =some ⟨0,false,.cells 45 [A]⟩→yD B σ A acc→aS (all.drop m)→10*(all.drop m).length+11≤n→acc.length+(all.drop m).length≤40001→PFs p w g all B q σ acc Q (iJ n (all.drop m))→aW X [6,7] Xh [(6,.p p 0 0),(7,.p q 0 0)] σ Q
 | 0=>by intro B q _ _ acc A σ m Q _ _ _ _ _ h;omega
 | n+1=>by
   intro B q hlt hne acc A σ m Q h hB hq ha he hn hs hQ
   have J9:=LY hno hnn hko n
   obtain⟨t,r,hts⟩:=he.ne
   obtain⟨ht,hr⟩:=aV hts
   have hlr:(all.drop m).length=r.length+1:=by rw [hts];rfl
   unfold iJ at hQ
   rw [hts] at hQ
   simp only at hQ
   have hsl:wK A:=by obtain⟨cs,hr,_⟩:=ha;exact hr.sl
   refine aW.round aH (lit:=false) ?_
   conv=>whnf
   refine ay.to (lq h) ?_
   conv=>whnf
   refine ay.to (jB h ht) ?_
   conv=>whnf
   by_cases h5:t.k=5
   ·rw [if_pos h5] at hQ
    have hQ:PFs p w g all B q σ acc Q (.ok [] (t :: r)):=hQ
    rw [decide_eq_true (by omega)]
    conv=>whnf
    conv=>whnf
    exact hQ A σ m _ rfl rfl (.refl _ _ _ _) h hts hq (by rw [List.append_nil];exact ha)
   ·rw [if_neg h5,←hts] at hQ
    have hg:=FU n (all.drop m) he (by omega)
    rw [decide_eq_false (by omega)]
    conv=>whnf
    conv=>whnf
    rcases hsl with rfl | ⟨oo,gg,kk,rfl⟩
    all_goals
     refine ak (aj (T:=lH) rfl rfl (ah (hq)) rfl) ?_
     conv=>whnf
     refine Ku (n:=n) hno hnn hko σ m _ h he (by omega) ?_
     generalize uh n (all.drop m)=r1 at hg hQ
     cases r1 with
     | out=>exact hg.elim
     | bad c l=>
       have hQ:PFs p w g all B q σ acc Q (.bad c l):=hQ
       intro o s2 y2 k2
       have cq:=y2.get hne hq
       have lx:=y2.len
       conv=>whnf
       refine⟨?_,?_⟩
       ·conv=>whnf
        refine ak (aj (T:=lH) rfl rfl (ah (cq)) rfl) ?_
        rfl
       conv=>whnf
       refine⟨?_,?_⟩
       ·conv=>whnf
        refine ak (aj (T:=lH) rfl rfl (ah (at_new cq _ _)) rfl) ?_
        rfl
       conv=>whnf
       refine wY (D:=s2.length) ha y2 hlt.1 hB (Nat.le_refl _) lx (by omega) o 0 fun o3 g3 k3 s3 e3 l3 kT kA=>?_
       have dq:s3[q]? =_:=(e3 q hlt.2.2).trans cq
       have xu:=k2.Gl kT
       conv=>whnf
       refine ak (aC (T:=lH) ([.sl o3 g3 0 k3 1]) rfl (dq) rfl rfl (Nat.le_of_ble_eq_true rfl) rfl) ?_
       conv=>whnf
       have k4:=xu.bV dq (by decide) (by decide) (by decide) ⟨0,false,.cells 45 [.sl o3 g3 0 k3 1]⟩
       have CG:cO p q B σ (s3.set q ⟨0,false,.cells 45 [.sl o3 g3 0 k3 1]⟩):=⟨by rw [List.length_set];omega,fun i hi fP hix=>by rw [List.getElem?_set_ne (fun e=>hix e.symm),e3 i hi,y2.old i (by omega) fP]⟩
       exact Kw k4 fun e' e6=>hQ e' _ e6 CG k4
     | ok f bH=>
       have hQ:PFs p w g all B q σ acc Q ((iJ n bH).bind fun l ts=>.ok (f :: l) ts):=hQ
       intro o s2 m2 y2 k2 hm2 hf
       have cq:=y2.get hne hq
       have lx:=y2.len
       rw [←hm2] at hQ hg
       have hlt2:=hg.2.2
       conv=>whnf
       refine⟨?_,?_⟩
       ·conv=>whnf
        refine ak (aj (T:=lH) rfl rfl (ah (cq)) rfl) ?_
        rfl
       conv=>whnf
       refine⟨?_,?_⟩
       ·conv=>whnf
        refine ak (aj (T:=lH) rfl rfl (ah (at_new cq _ _)) rfl) ?_
        rfl
       conv=>whnf
       refine wY (D:=σ.length) ha y2 hlt.1 hB lx (Nat.le_refl _) (by omega) o 0 fun o3 g3 k3 s3 e3 l3 kT kA=>?_
       have dq:s3[q]? =_:=(e3 q hlt.2.2).trans cq
       have xu:=k2.Gl kT
       conv=>whnf
       refine ak (aC (T:=lH) ([.sl o3 g3 0 k3 1]) rfl (dq) rfl rfl (Nat.le_of_ble_eq_true rfl) rfl) ?_
       conv=>whnf
       have k4:=xu.bV dq (by decide) (by decide) ⟨0,false,.cells 45 [.sl o3 g3 0 k3 1]⟩
       have CG:cO p q B σ (s3.set q ⟨0,false,.cells 45 [.sl o3 g3 0 k3 1]⟩):=⟨by rw [List.length_set];omega,fun i hi fP hix=>by rw [List.getElem?_set_ne (fun e=>hix e.symm),e3 i hi,y2.old i (by omega) fP]⟩
       refine J9 B q hlt hne (acc ++ [f]) _ _ m2 Q k4 (by rw [List.length_set];omega) (at_set dq _) ((kA f hf).keep fun i a hi ha=>aK ha (by omega) _) hg.2.1 (by omega) (by rw [List.length_append];simp only [List.length_cons,List.length_nil];omega) ?_
       generalize iJ n (all.drop m2)=r2 at hQ
       cases r2 with
       | out=>trivial
       | bad c l=>exact fun e' s4 e6 x4=>hQ e' s4 e6 (CG.trans x4)
       | ok xs zx=>exact fun A4 s4 m4 e' e6 e7 x4 h4 hm4 hq4 sK=>hQ A4 s4 m4 e' e6 e7 (CG.trans x4) h4 hm4 hq4 (by rw [List.append_assoc] at sK;exact sK)
end
end Go.bP.YthoodopjoaigdaaGreatDoor
namespace Go.bP.YthoodopjoaigdaaGreatDoor
open Go.Proofs
set_option maxRecDepth 4000
def uZ (t:List UInt8):Re (List Fm):=match qO t with
 | .bad e l=>.bad e l
 | .toks ts=>iJ (10*ts.length+11) ts
def rD (S:Nat→Prop)(σ:St)(v:AV)(fs:List Fm):Prop:=∃o A,S o∧v= .p o 0 0∧σ[o]? =some ⟨0,false,.cells 45 [A]⟩∧((fs=[]∧A= .sl0)∨∃o2 g2 cs,S o2∧A= .sl o2 g2 0 cs.length 1∧σ[o2]? =some ⟨g2,false,.cells 49 cs⟩∧gJ S σ cs fs∧cs≠[])
theorem yD.prog {B:Nat} {σ:St} {A:AV} {fs:List Fm} (h:yD B σ A fs) {o:Nat} (ho:B≤o)(hq:σ[o]? =some ⟨0,false,.cells 45 [A]⟩):rD (fun i=>B≤i) σ (.p o 0 0) fs:=by
 obtain⟨cs,h1,h2⟩:=h
 refine⟨o,A,ho,rfl,hq,?_⟩
 have h3:gJ (fun i=>B≤i) σ cs fs:=h2.mono (fun i hi=>hi.1) (fun i _ a ha=>ha)
 rcases h1 with ⟨rfl,rfl⟩ | ⟨o2,g2,q1,q2,q3,q4⟩
 ·refine .inl ⟨?_,rfl⟩
  cases fs with
  | nil=>rfl
  | cons _ _=>exact h3.elim
 ·exact .inr ⟨o2,g2,cs,q1,q2,q3,h3,q4⟩
theorem gJ.at_ {S S':Nat→Prop} {σ σ':St} {cs:List AV} {xs:List Fm} (h1:∀o,S o→S' o)(h2:∀o,S o→∀a,σ[o]? =some a→σ'[o]? =some a)(h:gJ S σ cs xs):gJ S' σ' cs xs:=h.mono h1 h2
theorem rD.mono {S S':Nat→Prop} {σ σ':St} (h1:∀o,S o→S' o)(h2:∀o,S o→∀a,σ[o]? =some a→σ'[o]? =some a) {fs:List Fm} {v:AV} (h:rD S σ v fs):rD S' σ' v fs:=by
 obtain⟨o,A,a,b,c,d⟩:=h
 refine⟨o,A,h1 _ a,b,h2 _ a _ c,?_⟩
 rcases d with d | ⟨o2,g2,cs,e,f,g,i,j⟩
 ·exact .inl d
 ·exact .inr ⟨o2,g2,cs,h1 _ e,f,h2 _ e _ g,i.mono h1 h2,j⟩
def PPr (σ:St)(Q:AV→St→Prop):Re (List Fm)→Prop
 | .ok fs _=>∀o σ',Ext σ σ'→rD (fun i=>σ.length≤i) σ' (.p o 0 0) fs→Q (.tu [.p o 0 0,.fM]) σ'
 | .bad c l=>∀o g σ',Ext σ σ'→σ'[o]? =some ⟨g,false,.cells 29 [.i .i64 c,.i .i64 l]⟩→Q (.tu [.p0,.ic 40 (.p o g 0)]) σ'
 | .out=>True
theorem Vy (t:List UInt8)(σ:St)(hg:σ.take G0.length=G0)(Q:AV→St→Prop)(hQ:PPr σ Q (uZ t)):ay X 4 [.s t] σ Q:=by
 unfold uZ at hQ
 refine ay.body (F:=F4) aH (lit:=false) rfl rfl (Nat.le_of_ble_eq_true rfl) ?_
 conv=>whnf
 refine U9 t σ hg _ (fun l out σ1 hl hlen x1 ho=>?_) (fun e l o σ1 hl x1 hol hf=>?_)
 ·rw [hl] at hQ
  obtain⟨he,hno,hnn,hko⟩:=LX hl
  have hQ:PPr σ Q (iJ (10*l.length+11) l):=hQ
  rcases ho with ⟨rfl,_⟩ | ⟨w,g,hw,rfl,htok⟩
  ·exact he.elim
  have lw:=aX htok
  conv=>whnf
  have b5:(au 42 (AV.ag [.sl w g 0 l.length 3,.i .i64 0,.p0]).cells σ1)[σ1.length]? =some ⟨0,false,.cells 42 [.sl w g 0 l.length 3,.i .i64 0,.p0]⟩:=aF _ _ _
  have x5:Ext σ1 (au 42 (AV.ag [.sl w g 0 l.length 3,.i .i64 0,.p0]).cells σ1):=(Ext.refl σ1).new _ _
  have l5:(au 42 (AV.ag [.sl w g 0 l.length 3,.i .i64 0,.p0]).cells σ1).length=σ1.length+1:=aG _ _ _
  generalize au 42 (AV.ag [.sl w g 0 l.length 3,.i .i64 0,.p0]).cells σ1=jY at b5 x5 l5 ⊢
  have b6:(au 45 (AV.ag [.sl0]).cells jY)[jY.length]? =some ⟨0,false,.cells 45 [.sl0]⟩:=aF _ _ _
  have x6:Ext jY (au 45 (AV.ag [.sl0]).cells jY):=(Ext.refl jY).new _ _
  have l6:(au 45 (AV.ag [.sl0]).cells jY).length=jY.length+1:=aG _ _ _
  generalize au 45 (AV.ag [.sl0]).cells jY=lV at b6 x6 l6 ⊢
  have lx:=x1.len
  have hlp:=aX b5
  have hpos:0<l.length:=by obtain⟨t0,r0,e0⟩:=he.ne;rw [e0];exact Nat.succ_pos _
  have k6:PW σ1.length w g l lV 0 0 .p0:=⟨by rw [x6.get b5];rfl,x6.get (x5.get htok),by omega,by omega,hpos,by omega⟩
  have hge:∀σ',cO σ1.length jY.length lV.length lV σ'→Ext σ σ':=fun σ' y=>by
   refine⟨by have:=y.len;omega,fun i hi=>?_⟩
   rw [y.old i (by omega) (by omega) (by omega),x6.old i (by omega),x5.old i (by omega),x1.old i hi]
  refine LY hno hnn hko (10*l.length+11) lV.length jY.length ⟨by omega,by omega,by omega⟩ (by omega) [] .sl0 lV 0 _ k6 (Nat.le_refl _) b6 ⟨[],.inl ⟨rfl,rfl⟩,trivial⟩ (by rw [List.drop_zero];exact he) (by rw [List.drop_zero];exact Nat.le_refl _) (by rw [List.drop_zero];simp only [List.length_nil];omega) ?_
  rw [List.drop_zero]
  have hg:=Cb (10*l.length+11) l he (Nat.le_refl _)
  generalize iJ (10*l.length+11) l=r1 at hg hQ
  cases r1 with
  | out=>exact hg.elim
  | bad c l'=>
    intro e' oq e6 y7 k7
    conv=>whnf
    rw [show dI.ev e' (.t 6)=get e' 6 from rfl,e6]
    conv=>whnf
    refine ay.to (qW k7) ?_
    conv=>whnf
    have h6:get (put (some 42) (.b true) (put (some 41) (.p σ1.length 0 0) e')) 6= .p σ1.length 0 0:=e6
    erw [h6]
    conv=>whnf
    obtain⟨w2,g2,all2,m2,fo,fg,j1,j2,j3⟩:=k7
    refine ak (aj (T:=Ic) rfl rfl (ah (j1.obj)) rfl) ?_
    conv=>whnf
    exact Fin.ref rfl (hQ _ _ _ (hge _ y7) j3)
  | ok fs ts=>
    intro A oq m7 e' e6 e7 y7 k7 hm7 hq7 Oy
    conv=>whnf
    rw [show dI.ev e' (.t 6)=get e' 6 from rfl,e6]
    conv=>whnf
    refine ay.to (lq k7) ?_
    conv=>whnf
    have h7:get (put (some 42) (.b false) (put (some 41) (.p σ1.length 0 0) e')) 7= .p jY.length 0 0:=e7
    erw [h7]
    conv=>whnf
    refine Fin.ref rfl (hQ _ _ (hge _ y7) ?_)
    have hA:yD lV.length oq A fs:=Oy
    obtain⟨cs,q1,q2⟩:=hA
    have q3:gJ (fun i=>σ.length≤i) oq cs fs:=q2.mono (fun i hi=>by omega) (fun i _ a ha=>ha)
    refine⟨jY.length,A,by omega,rfl,hq7,?_⟩
    rcases q1 with ⟨rfl,rfl⟩ | ⟨o2,g2,p1,p2,p3,p4⟩
    ·refine .inl ⟨?_,rfl⟩
     cases fs with
     | nil=>rfl
     | cons _ _=>exact q3.elim
    ·exact .inr ⟨o2,g2,cs,by omega,p2,p3,q3,p4⟩
 ·rw [hl] at hQ
  have hQ:PPr σ Q (.bad e l):=hQ
  conv=>whnf
  exact Fin.ref rfl (hQ _ _ _ x1 hf)
end Go.bP.YthoodopjoaigdaaGreatDoor
