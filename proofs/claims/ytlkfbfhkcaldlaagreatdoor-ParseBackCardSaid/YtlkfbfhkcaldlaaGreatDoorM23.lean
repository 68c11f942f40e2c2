/- Texts of this claim, joined: Po, Pp, Tk, Pq, Pr. -/
import Derived.Test.YtlkfbfhkcaldlaaGreatDoorM22
import Derived.Test.YtlkfbfhkcaldlaaGreatDoorM19
set_option linter.unusedVariables false
set_option linter.unusedSimpArgs false
namespace Go.Abs.YtlkfbfhkcaldlaaGreatDoor
open Go.Proofs
set_option maxRecDepth 4000
section
variable {p w g:Nat} {all:List Tok} {n:Nat}
def PAq (p w g:Nat)(all:List Tok)(B xo b4:Nat)(nm:List UInt8)(ln:Nat)(σ:St)(d:Nat)(acc:List (List UInt8×Bool))(Q:Out→Env→St→Prop):Re (List (List UInt8×Bool))→Prop
 | .ok xs ts=>∀A' σ' m' e',get e' 0= .p b4 0 0→cu p xo B σ σ'→PW p w g all σ' m' d .p0→all.drop m'= ts→σ'[xo]? =some (t_ nm A' false .sl0 ln)→iK B σ' A' (acc ++ xs)→Q (.exit 0) e' σ'
 | .bad c l=>∀A' σ' e',get e' 0= .p b4 0 0→cu p xo B σ σ'→PB p σ' d c l→σ'[xo]? =some (t_ nm A' false .sl0 ln)→slP A'→Q (.exit 0) e' σ'
 | .out=>True
def Ce (p w g:Nat)(all:List Tok)(n:Nat):Prop:=∀(d B xo bx b1 b4 b5:Nat) (nm:List UInt8) (ln:Nat),(p<B∧w<B∧xo<B∧bx<B∧b1<B)→(b4<B∧b5<B)→(xo≠p∧bx≠p∧b1≠p∧bx≠xo∧b1≠xo)→(b4≠p∧b5≠p∧b4≠xo∧b5≠xo)→
 ∀ (acc:List (List UInt8×Bool)) (A:AV) (σ:St) (m:Nat) (Q:Out→Env→St→Prop),PW p w g all σ m d .p0→B≤σ.length→σ[bx]? =some ⟨0,false,.cells 64 [.p xo 0 0]⟩→σ[b1]? =some ⟨0,false,.cells 85 [.p p 0 0]⟩→σ[b4]? =some ⟨0,false,.cells 85 [.p p 0 0]⟩→σ[b5]? =some ⟨0,false,.cells 1 [.fn (.func 58) [] [.p b1 0 0,.p bx 0 0]]⟩→σ[xo]? =some (t_ nm A false .sl0 ln)→iK B σ A acc→
   EndOk (all.drop m)→(all.drop m).length+1≤n→acc.length+(all.drop m).length≤40001→PAq p w g all B xo b4 nm ln σ d acc Q (pParams n acc.isEmpty (all.drop m))→aS X [0,1,2] uM [(0,.p b4 0 0),(1,.p b5 0 0),(2,.b acc.isEmpty)] σ Q
theorem Gz (n:Nat)(f:Bool)(ts:List Tok):pParams (n+1) f ts=if isW [41] ts=true then .ok [] ts else(if f=true then Re.ok () ts else mustW [44] ts).bind fun _ ts=>(Cc ts).bind fun q ts=>(pParams n false ts).bind fun l ts=>.ok (q :: l) ts:=by
 rw [pParams]
 simp only [←Ru]
theorem Vg (OY:Ce p w g all n):Ce p w g all (n+1):=by
 intro d B xo bx b1 b4 b5 nm ln hlt hlt4 hne ku acc A σ m Q h hB hbx hb1 hb4 hb5 hx ha he hn hs hQ
 obtain⟨t,r,hts⟩:=he.ne
 obtain⟨ht,hr⟩:=bJ hts
 rw [Gz,hts] at hQ
 have key:∀(σ1:St) (m1:Nat) (Q2:AV→St→Prop),cu p xo B σ σ1→PW p w g all σ1 m1 d .p0→m≤m1→EndOk (all.drop m1)→σ1[xo]? =some (t_ nm A false .sl0 ln)→iK B σ1 A acc→(PAq p w g all B xo b4 nm ln σ d acc Q ((Cc (all.drop m1)).bind fun x ts=>(pParams n false ts).bind fun xs ts=>.ok (x :: xs) ts))→
  (∀s,aS X [0,1,2] uM [(0,.p b4 0 0),(1,.p b5 0 0),(2,.b false)] s Q→Q2 (.tu []) s)→ay X 58 [.p b1 0 0,.p bx 0 0] σ1 Q2:=by
  intro σ1 m1 Q2 x1 h1 hm1 he1 hx1 ha1 hq hk
  have hlen:(all.drop m1).length≤(all.drop m).length:=by rw [List.length_drop,List.length_drop];omega
  have hg:=Vb he1
  have lx1:=x1.len
  refine Vd d B xo bx b1 nm ln acc A σ1 m1 Q2 h1 hlt hne (by omega) (x1.get hlt.2.2.2.1 hne.2.1 hne.2.2.2.1 hbx) (x1.get hlt.2.2.2.2 hne.2.2.1 hne.2.2.2.2 hb1) hx1 ha1 he1 (by omega) ?_
  generalize Cc (all.drop m1)=r1 at hg hq
  cases r1 with
  | out=>exact hg.elim
  | bad c l=>
    intro A' σ2 x2 k2 hx2 hsl
    have x12:=x1.trans x2
    refine hk _ (j_ k2 (x12.get hlt4.1 ku.1 ku.2.2.1 hb4) b5 fun e' e0=>hq A' σ2 e' e0 x12 k2 hx2 hsl)
  | ok y ts1=>
    intro A' σ2 m2 x2 k2 hm2 hx2 ha2
    have x12:=x1.trans x2
    have lx2:=x2.len
    have hq:PAq p w g all B xo b4 nm ln σ d acc Q ((pParams n false ts1).bind fun xs ts=>.ok (y :: xs) ts):=hq
    rw [←hm2] at hq hg
    have hlt2:=hg.2.2
    have hi:=OY d B xo bx b1 b4 b5 nm ln hlt hlt4 hne ku (acc ++ [y]) A' σ2 m2 Q k2 (by omega) (x12.get hlt.2.2.2.1 hne.2.1 hne.2.2.2.1 hbx) (x12.get hlt.2.2.2.2 hne.2.2.1 hne.2.2.2.2 hb1) (x12.get hlt4.1 ku.1 ku.2.2.1 hb4) (x12.get hlt4.2 ku.2.1 ku.2.2.2 hb5) hx2 ha2 hg.2.1 (by omega) (by rw [List.length_append];simp only [List.length_cons,List.length_nil];omega)
    rw [show (acc ++ [y]).isEmpty=false by cases acc <;> rfl] at hi
    refine hk _ (hi ?_)
    generalize pParams n false (all.drop m2)=r2 at hq
    cases r2 with
    | out=>trivial
    | bad c l=>exact fun A4 bW e' e0 x4=>hq A4 bW e' e0 (x12.trans x4)
    | ok xs ts4=>exact fun A4 bW m4 e' e0 x4 h4 hm4 hx4 N8=>hq A4 bW m4 e' e0 (x12.trans x4) h4 hm4 hx4 (by rw [List.append_assoc] at N8;exact N8)
 have tail:∀(b:Bool),acc.isEmpty=b→PAq p w g all B xo b4 nm ln σ d acc Q (if isW [41] (t :: r)=true then .ok [] (t :: r) else(if b=true then Re.ok () (t :: r) else mustW [44] (t :: r)).bind fun _ ts=>(Cc ts).bind fun x ts=>(pParams n false ts).bind fun xs ts=>.ok (x :: xs) ts)→aS X [0,1,2] uM [(0,.p b4 0 0),(1,.p b5 0 0),(2,.b b)] σ Q:=by
  intro b hb hQ
  cases b with
  | true=>
    refine aS.round aC (lit:=false) ?_
    conv=>whnf
    refine ak (aj (T:=aW) rfl rfl (ah (hb4)) rfl) ?_
    conv=>whnf
    refine ay.to (jk h) ?_
    conv=>whnf
    refine ak (aj (T:=aW) rfl rfl (ah (hb4)) rfl) ?_
    conv=>whnf
    have b7:(au 9 [.s [41]] σ)[σ.length]? =some ⟨0,false,.cells 9 [.s [41]]⟩:=aH _ _ _
    have x7:Ext σ (au 9 [.s [41]] σ):=(Ext.refl σ).new _ _
    have l7:(au 9 [.s [41]] σ).length=σ.length+1:=aI _ _ _
    generalize au 9 [.s [41]] σ=qx at b7 x7 l7 ⊢
    have h1:=h.ext x7
    have c4:=x7.get hb4
    have c5:=x7.get hb5
    have y1:cu p xo B σ qx:=.of (aO.of x7) hB
    refine ay.to (vC [[41]] h1 ht σ.length 0 (ah b7) (Nat.le_of_ble_eq_true rfl)) ?_
    conv=>whnf
    rw [gZ]
    cases hi:fB [41] t with
    | true=>
      rw [if_pos (show isW [41] (t :: r)=true from hi)] at hQ
      conv=>whnf
      exact hQ A qx m _ rfl y1 h1 hts (x7.get hx) (by rw [List.append_nil];exact ha.keep (Nat.le_refl _) fun i a _ ha=>x7.get ha)
    | false=>
      rw [if_neg (by rw [show isW [41] (t :: r)=fB [41] t from rfl,hi];decide)] at hQ
      rw [if_pos rfl] at hQ
      conv=>whnf
      refine ak (aj (T:=UA) rfl rfl (ah (c5)) rfl) ?_
      conv=>whnf
      refine key qx m _ y1 h1 (Nat.le_refl _) he (x7.get hx) (ha.keep (Nat.le_refl _) fun i a _ ha=>x7.get ha) (by rw [hts];exact hQ) fun s q=>?_
      conv=>whnf
      exact q
  | false=>
    refine aS.round aC (lit:=false) ?_
    conv=>whnf
    refine ak (aj (T:=aW) rfl rfl (ah (hb4)) rfl) ?_
    conv=>whnf
    refine ay.to (jk h) ?_
    conv=>whnf
    refine ak (aj (T:=aW) rfl rfl (ah (hb4)) rfl) ?_
    conv=>whnf
    have b7:(au 9 [.s [41]] σ)[σ.length]? =some ⟨0,false,.cells 9 [.s [41]]⟩:=aH _ _ _
    have x7:Ext σ (au 9 [.s [41]] σ):=(Ext.refl σ).new _ _
    have l7:(au 9 [.s [41]] σ).length=σ.length+1:=aI _ _ _
    generalize au 9 [.s [41]] σ=qx at b7 x7 l7 ⊢
    have h1:=h.ext x7
    have c4:=x7.get hb4
    have c5:=x7.get hb5
    have y1:cu p xo B σ qx:=.of (aO.of x7) hB
    refine ay.to (vC [[41]] h1 ht σ.length 0 (ah b7) (Nat.le_of_ble_eq_true rfl)) ?_
    conv=>whnf
    rw [gZ]
    cases hi:fB [41] t with
    | true=>
      rw [if_pos (show isW [41] (t :: r)=true from hi)] at hQ
      conv=>whnf
      exact hQ A qx m _ rfl y1 h1 hts (x7.get hx) (by rw [List.append_nil];exact ha.keep (Nat.le_refl _) fun i a _ ha=>x7.get ha)
    | false=>
      rw [if_neg (by rw [show isW [41] (t :: r)=fB [41] t from rfl,hi];decide)] at hQ
      rw [if_neg (by decide)] at hQ
      conv=>whnf
      refine ak (aj (T:=aW) rfl rfl (ah (c4)) rfl) ?_
      conv=>whnf
      refine ig _ h1 ht (fun hi2=>(aU he hts hi2).1) (fun hi2 σ2 x2 h2=>?_) (fun hi2 σ2 x2 h2=>?_)
      ·rw [mustW,if_pos (show isW [44] (t :: r)=true from hi2)] at hQ
       obtain⟨hm1,he1,hle⟩:=aU he hts hi2
       have y2:cu p xo B σ σ2:=y1.trans (.of x2 (by omega))
       conv=>whnf
       refine ak (aj (T:=UA) rfl rfl (ah (x2.get ku.2.1 c5)) rfl) ?_
       conv=>whnf
       refine key σ2 (m+1) _ y2 h2 (by omega) he1 (x2.get hne.1 (x7.get hx)) (ha.keep (Nat.le_refl _) fun i a hi ha=>x2.get (by omega) (x7.get ha)) (by rw [hr];exact hQ) fun s q=>?_
       conv=>whnf
       exact q
      ·rw [mustW,if_neg (by rw [show isW [44] (t :: r)=fB [44] t from rfl,hi2];decide)] at hQ
       have y2:cu p xo B σ σ2:=y1.trans (.of x2 (by omega))
       conv=>whnf
       refine ak (aj (T:=UA) rfl rfl (ah (x2.get ku.2.1 c5)) rfl) ?_
       conv=>whnf
       have lx2:=x2.len
       refine Vf d 4 t.l B xo bx b1 nm ln acc A σ2 _ h2 ⟨hlt.1,hlt.2.2.1,hlt.2.2.2.1,hlt.2.2.2.2⟩ hne (by omega) (y2.get hlt.2.2.2.1 hne.2.1 hne.2.2.2.1 hbx) (y2.get hlt.2.2.2.2 hne.2.2.1 hne.2.2.2.2 hb1) (x2.get hne.1 (x7.get hx)) (ha.keep (Nat.le_refl _) fun i a hi ha=>x2.get (by omega) (x7.get ha)) (by omega) fun A' σ3 x3 h3 hx3 hsl=>?_
       conv=>whnf
       exact j_ h3 ((y2.trans x3).get hlt4.1 ku.1 ku.2.2.1 hb4) b5 fun e' e0=>hQ A' σ3 e' e0 (y2.trans x3) h3 hx3 hsl
 exact tail _ rfl hQ
theorem II:∀n,Ce p w g all n
 | 0=>by intro d B xo bx b1 b4 b5 nm ln _ _ _ _ acc A σ m Q _ _ _ _ _ _ _ _ _ h;omega
 | n+1=>Vg (II n)
def P2q (p w g:Nat)(all:List Tok)(xo:Nat)(nm:List UInt8)(ln:Nat)(σ:St)(d:Nat)(Q:AV→St→Prop):Re (List (List UInt8×Bool))→Prop
 | .ok xs ts=>∀A' σ' m',bG p xo σ σ'→PW p w g all σ' m' d .p0→all.drop m'= ts→σ'[xo]? =some (t_ nm A' false .sl0 ln)→iK σ.length σ' A' xs→Q (.tu []) σ'
 | .bad c l=>∀A' σ',bG p xo σ σ'→PB p σ' d c l→σ'[xo]? =some (t_ nm A' false .sl0 ln)→slP A'→Q (.tu []) σ'
 | .out=>True
theorem Oh (d xo bx b1:Nat)(nm:List UInt8)(ln:Nat)(σ:St)(m:Nat)(Q:AV→St→Prop)(h:PW p w g all σ m d .p0)(hd:d≤64)(he:EndOk (all.drop m))(hn:10*(all.drop m).length≤n)
 (hbx:σ[bx]? =some ⟨0,false,.cells 64 [.p xo 0 0]⟩) (hb1:σ[b1]? =some ⟨0,false,.cells 85 [.p p 0 0]⟩) (hx:σ[xo]? =some (t_ nm .sl0 false .sl0 ln)) (hne:xo≠p∧bx≠p∧b1≠p∧bx≠xo∧b1≠xo)
 (hQ:P2q p w g all xo nm ln σ d Q ((openW [40] d (all.drop m)).bind fun _ ts=>(pParams n true ts).bind fun a ts=>(mustW [41] ts).bind fun _ ts=>.ok a ts)) :
 ay X 57 [.p p 0 0,.fn (.func 58) [] [.p b1 0 0,.p bx 0 0]] σ Q:=by
 obtain⟨t,r,hts⟩:=he.ne
 rw [hts] at hQ hn
 simp only [List.length_cons] at hn
 obtain⟨ht,hr⟩:=bJ hts
 have hpl:=bn h.obj
 have hwl:=bn h.tok
 have hxl:=bn hx
 have hbl:=bn hbx
 have h1l:=bn hb1
 have hal:=h.len
 have hm:=h.at_
 unfold openW at hQ
 refine ay.body (F:=WG) aC (lit:=false) rfl rfl (Nat.le_of_ble_eq_true rfl) ?_
 conv=>whnf
 have b4:(au 85 (AV.p p 0 0).cells σ)[σ.length]? =some ⟨0,false,.cells 85 [.p p 0 0]⟩:=aH _ _ _
 have x4:Ext σ (au 85 (AV.p p 0 0).cells σ):=(Ext.refl σ).new _ _
 have l4:(au 85 (AV.p p 0 0).cells σ).length=σ.length+1:=aI _ _ _
 generalize au 85 (AV.p p 0 0).cells σ=bW at b4 x4 l4 ⊢
 have b5:(au 1 (AV.fn (.func 58) [] [.p b1 0 0,.p bx 0 0]).cells bW)[bW.length]? =some ⟨0,false,.cells 1 [.fn (.func 58) [] [.p b1 0 0,.p bx 0 0]]⟩:=aH _ _ _
 have x5:Ext bW (au 1 (AV.fn (.func 58) [] [.p b1 0 0,.p bx 0 0]).cells bW):=(Ext.refl bW).new _ _
 have l5:(au 1 (AV.fn (.func 58) [] [.p b1 0 0,.p bx 0 0]).cells bW).length=bW.length+1:=aI _ _ _
 generalize au 1 (AV.fn (.func 58) [] [.p b1 0 0,.p bx 0 0]).cells bW=dL at b5 x5 l5 ⊢
 have xx:=x4.trans x5
 have h5:=h.ext xx
 have c4:=x5.get b4
 refine ak (aj (T:=aW) rfl rfl (ah (c4)) rfl) ?_
 conv=>whnf
 refine ay.mono (Q:=fun v s=>v= .tu []∧Fin σ (.tu []) s Q) ?_ fun v s q=>?_
 ·have bad:∀(c l:Nat) (s1:St),aO p dL s1→PB p s1 (d+1) c l→P2q p w g all xo nm ln σ d Q (.bad c l)→ay X 91 [.p σ.length 0 0,.p bW.length 0 0] s1 (QI p m d (fun v s=>v= .tu []∧Fin σ (.tu []) s Q)):=by
   intro c l s1 y1 k1 hq
   have e4:=y1.get (by omega) c4
   refine ay.body (F:=Ua) aC (lit:=false) rfl rfl (Nat.le_of_ble_eq_true rfl) ?_
   conv=>whnf
   refine j_ k1 e4 bW.length fun e' e0=>?_
   conv=>whnf
   rw [show cZ.ev e' (.t 0)=get e' 0 from rfl,e0]
   conv=>whnf
   refine ak (aj (T:=aW) rfl rfl (ah (e4)) rfl) ?_
   conv=>whnf
   refine ay.to (iq [41] k1) ?_
   conv=>whnf
   have k1':=k1
   obtain⟨w2,g2,all2,m2,fo,fg,j1,j2,j3⟩:=k1'
   refine Fin.flat rfl List.take_length ⟨rfl,w2,g2,all2,m2,_,j1,.inr (by simp),fun s3 y3 j4=>⟨rfl,?_⟩⟩
   have hx3:aO p σ s3:=((aO.of xx).trans y1).trans y3
   exact h.ne_of j4 (.inr (by simp)) (hq _ _ (bG.of hx3) ⟨w2,g2,all2,m2,fo,fg,j4,j2,y3.get j2 j3⟩ (hx3.get hne.1 hx) (.inl rfl))
  refine JK [40] h5 ht hd (fun hi=>(aU he hts hi).1) (fun hi h64 s1 y1 k1=>?_) (fun hi h64 s1 y1 k1=>?_) (fun hi s1 y1 k1=>?_)
  ·rw [if_neg (by omega),mustW,if_pos (show isW [40] (t :: r)=true from hi)] at hQ
   have hQ:P2q p w g all xo nm ln σ d Q ((pParams n true r).bind fun a ts=>(mustW [41] ts).bind fun _ ts=>.ok a ts):=hQ
   obtain⟨hm1,he1,hle⟩:=aU he hts hi
   have hg:=gd_params n true (all.drop (m+1)) he1 (by rw [hr];omega)
   have hx1:aO p σ s1:=(aO.of xx).trans y1
   have e4:=y1.get (by omega) c4
   have e5:=y1.get (by omega) b5
   have ly:=y1.len
   have hall:(all.drop (m+1)).length≤40001:=by rw [List.length_drop];omega
   refine ay.body (F:=Ua) aC (lit:=false) rfl rfl (Nat.le_of_ble_eq_true rfl) ?_
   conv=>whnf
   refine II n (d+1) s1.length xo bx b1 σ.length bW.length nm ln ⟨by omega,by omega,by omega,by omega,by omega⟩ ⟨by omega,by omega⟩ hne ⟨by omega,by omega,by omega,by omega⟩ [] .sl0 s1 (m+1) _ k1 (Nat.le_refl _) (hx1.get hne.2.1 hbx) (hx1.get hne.2.2.1 hb1) e4 e5 (hx1.get hne.1 hx) (.inl ⟨rfl,rfl⟩) he1 (by rw [hr];omega) (by simp only [List.length_nil];omega) ?_
   rw [hr] at hg ⊢
   show PAq p w g all s1.length xo σ.length nm ln s1 (d+1) [] _ (pParams n true r)
   generalize pParams n true r=r1 at hg hQ
   cases r1 with
   | out=>exact hg.elim
   | bad c l=>
     intro A' s2 e' e0 y2 k2 hx2 hsl
     have f4:=y2.get (by omega) (by omega) (by omega) e4
     conv=>whnf
     rw [show cZ.ev e' (.t 0)=get e' 0 from rfl,e0]
     conv=>whnf
     refine ak (aj (T:=aW) rfl rfl (ah (f4)) rfl) ?_
     conv=>whnf
     refine ay.to (iq [41] k2) ?_
     conv=>whnf
     have k2':=k2
     obtain⟨w2,g2,all2,m2,fo,fg,j1,j2,j3⟩:=k2'
     refine k1.ne_of j1 (.inr (by simp)) ⟨rfl,w2,g2,all2,m2,_,j1,.inr (by simp),fun s3 y3 j4=>⟨rfl,?_⟩⟩
     have ly2:=y2.len
     refine h.ne_of j4 (.inr (by simp)) (hQ _ _ ⟨by have:=y3.len;have:=hx1.len;omega,fun i hi kH hix=>by rw [y3.old i (by have:=hx1.len;omega) kH,y2.old i (by have:=hx1.len;omega) kH hix,hx1.old i hi kH]⟩ ⟨w2,g2,all2,m2,fo,fg,j4,j2,y3.get j2 j3⟩ (y3.get hne.1 hx2) hsl)
   | ok xs ts1=>
     intro A' s2 m2 e' e0 y2 k2 hm2 hx2 ha2
     have he2:EndOk (all.drop m2):=by rw [hm2];exact hg.2.1
     obtain⟨t2,r2,gu⟩:=he2.ne
     obtain⟨ht2,hr2⟩:=bJ gu
     have hQ:P2q p w g all xo nm ln σ d Q ((mustW [41] ts1).bind fun _ ts=>.ok xs ts):=hQ
     rw [←hm2,gu] at hQ
     have f4:=y2.get (by omega) (by omega) (by omega) e4
     have ly2:=y2.len
     have hmm:m+1≤m2:=by
      have:=hg.2.2
      rw [←hm2,←hr,List.length_drop,List.length_drop] at this
      omega
     have hsl:=ha2.sl
     have fr:∀s3,aO p s2 s3→bG p xo σ s3:=fun s3 y3=>⟨by have:=y3.len;have:=hx1.len;omega,fun i hi kH hix=>by rw [y3.old i (by have:=hx1.len;omega) kH,y2.old i (by have:=hx1.len;omega) kH hix,hx1.old i hi kH]⟩
     conv=>whnf
     rw [show cZ.ev e' (.t 0)=get e' 0 from rfl,e0]
     conv=>whnf
     refine ak (aj (T:=aW) rfl rfl (ah (f4)) rfl) ?_
     conv=>whnf
     refine ig [41] k2 ht2 (fun hi=>(aU he2 gu hi).1) (fun hi2 s5 y5 k5=>?_) (fun hi2 s5 y5 k5=>?_)
     ·rw [mustW,if_pos (show isW [41] (t2 :: r2)=true from hi2)] at hQ
      conv=>whnf
      refine k1.ne_of k5 (.inl (by omega)) ⟨rfl,w,g,all,m2+1,_,k5,.inl (by omega),fun s3 y3 j4=>⟨rfl,?_⟩⟩
      have JO:=y5.trans y3
      refine h.ne_of j4 (.inl (by omega)) (hQ _ _ _ (fr s3 JO) j4 hr2 (JO.get hne.1 hx2) ?_)
      exact ha2.keep (by have:=hx1.len;omega) fun i a hi ha=>JO.get (by omega) ha
     ·rw [mustW,if_neg (show ¬isW [41] (t2 :: r2)=true by rw [show isW [41] (t2 :: r2)=fB [41] t2 from rfl,hi2];decide)] at hQ
      conv=>whnf
      have Gs:=k5
      obtain⟨w2,g2,all2,NZ,fo,fg,j1,j2,j3⟩:=Gs
      refine k1.ne_of j1 (.inr (by simp)) ⟨rfl,w2,g2,all2,NZ,_,j1,.inr (by simp),fun s3 y3 j4=>⟨rfl,?_⟩⟩
      have JO:=y5.trans y3
      exact h.ne_of j4 (.inr (by simp)) (hQ _ _ (fr s3 JO) ⟨w2,g2,all2,NZ,fo,fg,j4,j2,y3.get j2 j3⟩ (JO.get hne.1 hx2) hsl)
  ·rw [if_pos ⟨show isW [40] (t :: r)=true from hi,h64⟩] at hQ
   exact bad 3 t.l s1 y1 k1 hQ
  ·have hiw:¬isW [40] (t :: r)=true:=by rw [show isW [40] (t :: r)=fB [40] t from rfl,hi];decide
   rw [if_neg (fun e=>hiw e.1),mustW,if_neg hiw] at hQ
   exact bad 4 t.l s1 y1 k1 hQ
 ·obtain⟨rfl,q⟩:=q
  conv=>whnf
  exact q
theorem Oi {d c l k:Nat} {caps:List AV} {σ:St} (h:PB p σ d c l)(hd:d+1≤1000) {Q:AV→St→Prop} (q:∀σ',aO p σ σ'→PB p σ' d c l→Q (.tu []) σ'):ay X 57 [.p p 0 0,.fn (.func k) [] caps] σ Q:=by
 have hpl:=PB.lt h
 refine ay.body (F:=WG) aC (lit:=false) rfl rfl (Nat.le_of_ble_eq_true rfl) ?_
 conv=>whnf
 have b4:(au 85 (AV.p p 0 0).cells σ)[σ.length]? =some ⟨0,false,.cells 85 [.p p 0 0]⟩:=aH _ _ _
 have x4:Ext σ (au 85 (AV.p p 0 0).cells σ):=(Ext.refl σ).new _ _
 have l4:(au 85 (AV.p p 0 0).cells σ).length=σ.length+1:=aI _ _ _
 generalize au 85 (AV.p p 0 0).cells σ=bW at b4 x4 l4 ⊢
 have b5:(au 1 (AV.fn (.func k) [] caps).cells bW)[bW.length]? =some ⟨0,false,.cells 1 [.fn (.func k) [] caps]⟩:=aH _ _ _
 have x5:Ext bW (au 1 (AV.fn (.func k) [] caps).cells bW):=(Ext.refl bW).new _ _
 have l5:(au 1 (AV.fn (.func k) [] caps).cells bW).length=bW.length+1:=aI _ _ _
 generalize au 1 (AV.fn (.func k) [] caps).cells bW=dL at b5 x5 l5 ⊢
 have xx:=x4.trans x5
 have h5:=h.ext xx
 have c4:=x5.get b4
 refine ak (aj (T:=aW) rfl rfl (ah (c4)) rfl) ?_
 conv=>whnf
 have fin:∀s,aO p dL s→PB p s d c l→Fin σ (.tu []) s Q:=fun s y k=>iY (q _ ((aO.of xx).trans y) k) fun _=>q _ (.refl _ _) h
 refine ay.mono (Q:=fun v s=>v= .tu []∧Fin σ (.tu []) s Q) ?_ fun v s q=>?_
 ·refine aad (fun s=>aO p dL s) [40] h5 hd (fun s1 y1 k1=>?_) (fun s3 y3 k3=>⟨rfl,fin _ y3 k3⟩) (fun s3 y3 _=>⟨rfl,fin _ (.refl _ _) h5⟩)
  have e4:=y1.get (by omega) c4
  refine ay.body (F:=Ua) aC (lit:=false) rfl rfl (Nat.le_of_ble_eq_true rfl) ?_
  conv=>whnf
  refine j_ k1 e4 bW.length fun e' e0=>?_
  conv=>whnf
  rw [show cZ.ev e' (.t 0)=get e' 0 from rfl,e0]
  conv=>whnf
  refine ak (aj (T:=aW) rfl rfl (ah (e4)) rfl) ?_
  conv=>whnf
  refine ay.to (iq [41] k1) ?_
  conv=>whnf
  exact Fin.flat rfl List.take_length ⟨rfl,k1,fun s3 y3 _=>y1.trans y3⟩
 ·obtain⟨rfl,q⟩:=q
  conv=>whnf
  exact q
end
end Go.Abs.YtlkfbfhkcaldlaaGreatDoor
namespace Go.Abs.YtlkfbfhkcaldlaaGreatDoor
open Go.Proofs
set_option maxRecDepth 4000
def mM (S:Nat→Prop)(σ:St)(v:AV)(l:List (List UInt8×Bool)):Prop:=(l=[]∧v= .sl0)∨∃o g,S o∧v= .sl o g 0 l.length 2∧σ[o]? =some ⟨g,false,.cells 71 (kJ l)⟩
def kK (S:Nat→Prop)(σ:St)(v:AV)(f:Fm):Prop:=∃o A Bd,S o∧v= .p o 0 0∧σ[o]? =some (t_ f.name A f.ptr Bd f.line)∧mM S σ A f.params∧dn S σ Bd f.body
theorem mM.mono {S S':Nat→Prop} {σ σ':St} (h1:∀o,S o→S' o)(h2:∀o,S o→∀a,σ[o]? =some a→σ'[o]? =some a) {l:List (List UInt8×Bool)} {v:AV} (h:mM S σ v l):mM S' σ' v l:=by
 rcases h with h | ⟨o,g,a,b,c⟩
 ·exact .inl h
 ·exact .inr ⟨o,g,h1 _ a,b,h2 _ a _ c⟩
theorem kK.mono {S S':Nat→Prop} {σ σ':St} (h1:∀o,S o→S' o)(h2:∀o,S o→∀a,σ[o]? =some a→σ'[o]? =some a) {f:Fm} {v:AV} (h:kK S σ v f):kK S' σ' v f:=by
 obtain⟨o,A,Bd,a,b,c,d,e⟩:=h
 exact⟨o,A,Bd,h1 _ a,b,h2 _ a _ c,d.mono h1 h2,e.mono h1 h2⟩
theorem kK.below {S:Nat→Prop} {σ:St} {f:Fm} {v:AV} (h:kK S σ v f):kK (fun o=>S o∧o<σ.length) σ v f:=by
 obtain⟨o,A,Bd,a,b,c,d,e⟩:=h
 refine⟨o,A,Bd,⟨a,bn c⟩,b,c,?_,e.below⟩
 rcases d with d | ⟨o,g,a,b,c⟩
 ·exact .inl d
 ·exact .inr ⟨o,g,⟨a,bn c⟩,b,c⟩
section
variable {p w g:Nat} {all:List Tok} {n:Nat}
def GH (p w g:Nat)(all:List Tok)(σ:St)(Q:AV→St→Prop):Re Fm→Prop
 | .ok f ts=>∀o σ' m',aO p σ σ'→PW p w g all σ' m' 0 .p0→all.drop m'= ts→kK (fun i=>σ.length≤i) σ' (.p o 0 0) f→Q (.p o 0 0) σ'
 | .bad c l=>∀o σ',aO p σ σ'→PB p σ' 0 c l→Q (.p o 0 0) σ'
 | .out=>True
def rP (n:Nat)(ts:List Tok):Re (List (List UInt8×Bool)):=(openW [40] 0 ts).bind fun _ ts=>(pParams n true ts).bind fun a ts=>(mustW [41] ts).bind fun _ ts=>.ok a ts
theorem Oj {α:Type} (n:Nat)(ts:List Tok)(f:List (List UInt8×Bool)→List Tok→Re α):((openW [40] 0 ts).bind fun _ ts=>(pParams n true ts).bind fun a ts=>(mustW [41] ts).bind fun _ ts=>f a ts)=(rP n ts).bind f:=by
 unfold rP
 cases openW [40] 0 ts with
 | out=>rfl
 | bad c l=>rfl
 | ok u ts1=>
   show ((pParams n true ts1).bind fun a ts=>(mustW [41] ts).bind fun _ ts=>f a ts)=((pParams n true ts1).bind fun a ts=>(mustW [41] ts).bind fun _ ts=>.ok a ts).bind f
   cases pParams n true ts1 with
   | out=>rfl
   | bad c l=>rfl
   | ok a ts2=>
     show ((mustW [41] ts2).bind fun _ ts=>f a ts)=((mustW [41] ts2).bind fun _ ts=>.ok a ts).bind f
     cases mustW [41] ts2 <;> rfl
theorem Ol {n:Nat} {ts:List Tok} (he:EndOk ts)(hn:ts.length+1≤n):Gd An (rP n ts) ts.length:=
 (gd_open _ 0 he).bind fun _ ts3 _ he3 hl3=>(gd_params n true ts3 he3 (by omega)).bind fun ps ts4 _ he4 hl4=>(gd_must _ he4).bind fun _ ts5 _ he5 hl5=>⟨trivial,he5,by omega⟩
def V7 (n ln:Nat)(nm:List UInt8)(ps:List (List UInt8×Bool))(ts1:List Tok):Re Fm:=(pBlock n 0 (if isW wPtr ts1=true then ts1.tail else ts1)).bind fun b ts2=>.ok ⟨nm,ps,isW wPtr ts1,b,ln⟩ ts2
theorem GI (hno:yw all)(hnn:yB all)(hko:EN all)(σ:St)(m:Nat)(Q:AV→St→Prop)(h:PW p w g all σ m 0 .p0)(he:EndOk (all.drop m))(hn:10*(all.drop m).length+10≤n)(hQ:GH p w g all σ Q (pFunc n (all.drop m))):ay X 26 [.p p 0 0] σ Q:=by
 obtain⟨t,r,hts⟩:=he.ne
 obtain⟨ht,hr⟩:=bJ hts
 have hpl:=bn h.obj
 have hlr:(all.drop m).length=r.length+1:=by rw [hts];rfl
 have hQ:GH p w g all σ Q ((mustW wFunc (all.drop m)).bind fun _ ts1=>(nameW ts1).bind fun nm ts1=>(rP n ts1).bind fun ps ts1=>V7 n (lineW (all.drop m)) nm ps ts1):=by
  simp only [←Oj];exact hQ
 rw [hts] at hQ
 have hQ:GH p w g all σ Q ((mustW wFunc (t :: r)).bind fun _ ts1=>(nameW ts1).bind fun nm ts1=>(rP n ts1).bind fun ps ts1=>V7 n t.l nm ps ts1):=hQ
 refine ay.body (F:=F26) aC (lit:=false) rfl rfl (Nat.le_of_ble_eq_true rfl) ?_
 conv=>whnf
 have b1:(au 85 (AV.p p 0 0).cells σ)[σ.length]? =some ⟨0,false,.cells 85 [.p p 0 0]⟩:=aH _ _ _
 have x1:Ext σ (au 85 (AV.p p 0 0).cells σ):=(Ext.refl σ).new _ _
 have l1:(au 85 (AV.p p 0 0).cells σ).length=σ.length+1:=aI _ _ _
 generalize au 85 (AV.p p 0 0).cells σ=σ1 at b1 x1 l1 ⊢
 have h1:=h.ext x1
 refine ak (aj (T:=aW) rfl rfl (ah (b1)) rfl) ?_
 conv=>whnf
 refine ay.to (h_ h1 ht) ?_
 conv=>whnf
 have b3:(au 69 (AV.ag [.s [],.sl0,.b false,.sl0,.i .i64 t.l]).cells σ1)[σ1.length]? =some ⟨0,false,.cells 69 [.s [],.sl0,.b false,.sl0,.i .i64 t.l]⟩:=aH _ _ _
 have x3:Ext σ1 (au 69 (AV.ag [.s [],.sl0,.b false,.sl0,.i .i64 t.l]).cells σ1):=(Ext.refl σ1).new _ _
 have l3:(au 69 (AV.ag [.s [],.sl0,.b false,.sl0,.i .i64 t.l]).cells σ1).length=σ1.length+1:=aI _ _ _
 generalize au 69 (AV.ag [.s [],.sl0,.b false,.sl0,.i .i64 t.l]).cells σ1=σ3 at b3 x3 l3 ⊢
 refine ak (aF (T:=dD) ([.p σ1.length 0 0]) rfl (aH _ _ _) rfl rfl (Nat.le_of_ble_eq_true rfl) rfl) ?_
 have x4:Ext σ3 ((au 64 dD.zero.cells σ3).set σ3.length ⟨0,false,.cells 64 [.p σ1.length 0 0]⟩):=((Ext.refl σ3).new _ _).set (Nat.le_refl _) _
 have b4:((au 64 dD.zero.cells σ3).set σ3.length ⟨0,false,.cells 64 [.p σ1.length 0 0]⟩)[σ3.length]? =_:=at_set (aH _ _ _) _
 have l4:((au 64 dD.zero.cells σ3).set σ3.length ⟨0,false,.cells 64 [.p σ1.length 0 0]⟩).length=σ3.length+1:=by rw [List.length_set,aI]
 generalize (au 64 dD.zero.cells σ3).set σ3.length ⟨0,false,.cells 64 [.p σ1.length 0 0]⟩=bW at b4 x4 l4 ⊢
 conv=>whnf
 have x24:=x3.trans x4
 have k4:=h1.ext x24
 have cp4:=x24.get b1
 have cx4:=x4.get b3
 have cv4:=b4
 have X4:aO p σ bW:=aO.of (x1.trans x24)
 generalize bW=s4 at k4 cp4 cx4 cv4 X4 x4 l4 ⊢
 conv=>whnf
 refine ak (aj (T:=aW) rfl rfl (ah (cp4)) rfl) ?_
 conv=>whnf
 refine ig [102,117,110,99] k4 ht (fun hi=>(aU he hts hi).1) (fun hi s5 y5 k5=>?_) (fun hi s5 y5 k5=>?_)
 ·rw [mustW,if_pos (show isW wFunc (t :: r)=true from hi)] at hQ
  have hQ:GH p w g all σ Q ((nameW r).bind fun nm ts1=>(rP n ts1).bind fun ps ts1=>V7 n t.l nm ps ts1):=hQ
  obtain⟨hm1,he1,hle⟩:=aU he hts hi
  obtain⟨t6,r6,iI⟩:=he1.ne
  obtain⟨IG,zf⟩:=bJ iI
  have hlr1:(all.drop (m+1)).length=r.length:=by rw [hr]
  have hl6:(all.drop (m+1)).length=r6.length+1:=by rw [iI];rfl
  rw [←hr,iI] at hQ
  have rY:=y5.get (by omega) cx4
  have nY:=y5.get (by omega) cv4
  have cp5:=y5.get (by omega) cp4
  have X5:=X4.trans y5
  have l5:=y5.len
  conv=>whnf
  refine ak (aj (T:=dD) rfl rfl (ah (nY)) rfl) ?_
  conv=>whnf
  refine ak (aj (T:=aW) rfl rfl (ah (cp5)) rfl) ?_
  conv=>whnf
  refine BU k5 IG (fun hk1=>nR (by rw [zf];rw [iI] at he1;exact he1.tail (by rw [hk1];decide))) (fun hk1 s6 y6 k6=>?_) (fun hk1 s6 y6 k6=>?_)
  ·simp only [nameW,if_pos hk1] at hQ
   have he2:EndOk (all.drop (m+1+1)):=by rw [zf];rw [iI] at he1;exact he1.tail (by rw [hk1];decide)
   have hl62:(all.drop (m+1+1)).length=r6.length:=by rw [zf]
   have hQ:GH p w g all σ Q ((rP n r6).bind fun ps ts1=>V7 n t.l t6.s ps ts1):=hQ
   rw [←zf] at hQ
   have hg:=Ol (n:=n) he2 (by omega)
   have oU:=y6.get (by omega) rY
   have rO:=y6.get (by omega) nY
   have cp6:=y6.get (by omega) cp5
   have X6:=X5.trans y6
   have l6:=y6.len
   conv=>whnf
   refine⟨?_,?_⟩
   ·conv=>whnf
    refine ak (aj (T:=dD) rfl rfl (ah (rO)) rfl) ?_
    rfl
   conv=>whnf
   refine ak (aF (T:=dP) ([.s t6.s,.sl0,.b false,.sl0,.i .i64 t.l]) rfl (oU) rfl rfl (Nat.le_of_ble_eq_true rfl) rfl) ?_
   conv=>whnf
   have k7:=k6.bF oU (by decide) (by decide) ⟨0,false,.cells 69 [.s t6.s,.sl0,.b false,.sl0,.i .i64 t.l]⟩
   have pG:(List.set s6 σ1.length ⟨0,false,.cells 69 [.s t6.s,.sl0,.b false,.sl0,.i .i64 t.l]⟩)[σ1.length]? =some ⟨0,false,.cells 69 [.s t6.s,.sl0,.b false,.sl0,.i .i64 t.l]⟩:=at_set oU _
   have pI:(List.set s6 σ1.length ⟨0,false,.cells 69 [.s t6.s,.sl0,.b false,.sl0,.i .i64 t.l]⟩)[σ3.length]? =_:=aN rO (by omega) _
   have Ku:(List.set s6 σ1.length ⟨0,false,.cells 69 [.s t6.s,.sl0,.b false,.sl0,.i .i64 t.l]⟩)[σ.length]? =_:=aN cp6 (by omega) _
   have X7:aO p σ (List.set s6 σ1.length ⟨0,false,.cells 69 [.s t6.s,.sl0,.b false,.sl0,.i .i64 t.l]⟩):=X6.bg (bG.bF _ _ _ _) (by omega)
   have l7:(List.set s6 σ1.length ⟨0,false,.cells 69 [.s t6.s,.sl0,.b false,.sl0,.i .i64 t.l]⟩).length=s6.length:=List.length_set
   generalize List.set s6 σ1.length ⟨0,false,.cells 69 [.s t6.s,.sl0,.b false,.sl0,.i .i64 t.l]⟩=s7 at k7 pG pI Ku X7 l7 ⊢
   conv=>whnf
   refine ak (aj (T:=aW) rfl rfl (ah (Ku)) rfl) ?_
   conv=>whnf
   refine Oh (n:=n) 0 σ1.length σ3.length σ.length t6.s t.l s7 (m+1+1) _ k7 (by omega) he2 (by omega) pI Ku pG ⟨by omega,by omega,by omega,by omega,by omega⟩ ?_
   change P2q p w g all σ1.length t6.s t.l s7 0 _ (rP n (all.drop (m+1+1)))
   generalize rP n (all.drop (m+1+1))=r1 at hg hQ
   cases r1 with
   | out=>exact hg.elim
   | bad c l=>
     have hQ:GH p w g all σ Q (.bad c l):=hQ
     intro A s8 y8 k8 jl hsl
     have jl:s8[σ1.length]? =some ⟨0,false,.cells 69 [.s t6.s,A,.b false,.sl0,.i .i64 t.l]⟩:=jl
     have kC:=y8.get (by omega) (by omega) pI
     have cp8:=y8.get (by omega) (by omega) Ku
     have X8:aO p σ s8:=X7.bg y8 (by omega)
     have l8:=y8.len
     conv=>whnf
     refine ak (aj (T:=dD) rfl rfl (ah (kC)) rfl) ?_
     conv=>whnf
     refine ak (aj (T:=aW) rfl rfl (ah (cp8)) rfl) ?_
     conv=>whnf
     refine ay.to (jv [112,116,114] k8) ?_
     conv=>whnf
     refine⟨?_,?_⟩
     ·conv=>whnf
      refine ak (aj (T:=dD) rfl rfl (ah (kC)) rfl) ?_
      rfl
     conv=>whnf
     refine ak (aF (T:=qg) ([.s t6.s,A,.b false,.sl0,.i .i64 t.l]) rfl (jl) rfl rfl (Nat.le_of_ble_eq_true rfl) rfl) ?_
     conv=>whnf
     have k9:=k8.bF jl (by decide) (by decide) (by decide) ⟨0,false,.cells 69 [.s t6.s,A,.b false,.sl0,.i .i64 t.l]⟩
     have yE:(List.set s8 σ1.length ⟨0,false,.cells 69 [.s t6.s,A,.b false,.sl0,.i .i64 t.l]⟩)[σ1.length]? =some ⟨0,false,.cells 69 [.s t6.s,A,.b false,.sl0,.i .i64 t.l]⟩:=at_set jl _
     have vT:(List.set s8 σ1.length ⟨0,false,.cells 69 [.s t6.s,A,.b false,.sl0,.i .i64 t.l]⟩)[σ3.length]? =_:=aN kC (by omega) _
     have Fh:(List.set s8 σ1.length ⟨0,false,.cells 69 [.s t6.s,A,.b false,.sl0,.i .i64 t.l]⟩)[σ.length]? =_:=aN cp8 (by omega) _
     have X9:aO p σ (List.set s8 σ1.length ⟨0,false,.cells 69 [.s t6.s,A,.b false,.sl0,.i .i64 t.l]⟩):=X8.bg (bG.bF _ _ _ _) (by omega)
     have l9:(List.set s8 σ1.length ⟨0,false,.cells 69 [.s t6.s,A,.b false,.sl0,.i .i64 t.l]⟩).length=s8.length:=List.length_set
     generalize List.set s8 σ1.length ⟨0,false,.cells 69 [.s t6.s,A,.b false,.sl0,.i .i64 t.l]⟩=s9 at k9 yE vT Fh X9 l9 ⊢
     conv=>whnf
     refine ak (aj (T:=dD) rfl rfl (ah (vT)) rfl) ?_
     conv=>whnf
     refine ak (aj (T:=aW) rfl rfl (ah (Fh)) rfl) ?_
     conv=>whnf
     refine rM k9 (Nat.le_of_ble_eq_true rfl) fun s10 vW k10=>?_
     have lK:=vW.get (by omega) yE
     have mP:=vW.get (by omega) vT
     have cp10:=vW.get (by omega) Fh
     have JX:=X9.trans vW
     have l10:=vW.len
     conv=>whnf
     refine⟨?_,?_⟩
     ·conv=>whnf
      refine ak (aj (T:=dD) rfl rfl (ah (mP)) rfl) ?_
      rfl
     conv=>whnf
     refine ak (aF (T:=cO) ([.s t6.s,A,.b false,.sl0,.i .i64 t.l]) rfl (lK) rfl rfl (Nat.le_of_ble_eq_true rfl) rfl) ?_
     conv=>whnf
     have k11:=k10.bF lK (by decide) (by decide) (by decide) ⟨0,false,.cells 69 [.s t6.s,A,.b false,.sl0,.i .i64 t.l]⟩
     have vG:(List.set s10 σ1.length ⟨0,false,.cells 69 [.s t6.s,A,.b false,.sl0,.i .i64 t.l]⟩)[σ1.length]? =some ⟨0,false,.cells 69 [.s t6.s,A,.b false,.sl0,.i .i64 t.l]⟩:=at_set lK _
     have uh:(List.set s10 σ1.length ⟨0,false,.cells 69 [.s t6.s,A,.b false,.sl0,.i .i64 t.l]⟩)[σ3.length]? =_:=aN mP (by omega) _
     have GK:(List.set s10 σ1.length ⟨0,false,.cells 69 [.s t6.s,A,.b false,.sl0,.i .i64 t.l]⟩)[σ.length]? =_:=aN cp10 (by omega) _
     have Om:aO p σ (List.set s10 σ1.length ⟨0,false,.cells 69 [.s t6.s,A,.b false,.sl0,.i .i64 t.l]⟩):=JX.bg (bG.bF _ _ _ _) (by omega)
     have l11:(List.set s10 σ1.length ⟨0,false,.cells 69 [.s t6.s,A,.b false,.sl0,.i .i64 t.l]⟩).length=s10.length:=List.length_set
     conv=>whnf
     refine ak (aj (T:=dD) rfl rfl (ah (uh)) rfl) ?_
     conv=>whnf
     exact Fin.ref rfl (hQ _ _ Om k11)
   | ok ps ts1=>
     have hQ:GH p w g all σ Q (V7 n t.l t6.s ps ts1):=hQ
     intro A s8 m8 y8 k8 U5 jl ha8
     have jl:s8[σ1.length]? =some ⟨0,false,.cells 69 [.s t6.s,A,.b false,.sl0,.i .i64 t.l]⟩:=jl
     have kC:=y8.get (by omega) (by omega) pI
     have cp8:=y8.get (by omega) (by omega) Ku
     have X8:aO p σ s8:=X7.bg y8 (by omega)
     have l8:=y8.len
     have he8:EndOk (all.drop m8):=by rw [U5];exact hg.2.1
     obtain⟨t8,r8,lI⟩:=he8.ne
     obtain⟨U7,O0⟩:=bJ lI
     have hl8':(all.drop m8).length=r8.length+1:=by rw [lI];rfl
     have lg:=hg.2.2
     rw [←U5] at lg
     unfold V7 at hQ
     rw [←U5,lI] at hQ
     conv=>whnf
     refine ak (aj (T:=dD) rfl rfl (ah (kC)) rfl) ?_
     conv=>whnf
     refine ak (aj (T:=aW) rfl rfl (ah (cp8)) rfl) ?_
     conv=>whnf
     refine jZ [112,116,114] k8 U7 (fun hi=>(aU he8 lI hi).1) (fun hi s9 y9 k9=>?_) (fun hi=>?_)
     ·have Oc:isW wPtr (t8 :: r8)=true:=hi
      have hQ:GH p w g all σ Q ((pBlock n 0 r8).bind fun b ts1=>.ok ⟨t6.s,ps,true,b,t.l⟩ ts1):=by
            simp only [Oc,if_true] at hQ;exact hQ
      obtain⟨Tn,Kt,Og⟩:=aU he8 lI hi
      have hlA:(all.drop (m8+1)).length=r8.length:=by rw [O0]
      rw [←O0] at hQ
      have yE:=y9.get (by omega) jl
      have vT:=y9.get (by omega) kC
      have Fh:=y9.get (by omega) cp8
      have X9:=X8.trans y9
      have l9:=y9.len
      conv=>whnf
      refine⟨?_,?_⟩
      ·conv=>whnf
       refine ak (aj (T:=dD) rfl rfl (ah (vT)) rfl) ?_
       rfl
      conv=>whnf
      refine ak (aF (T:=qg) ([.s t6.s,A,.b true,.sl0,.i .i64 t.l]) rfl (yE) rfl rfl (Nat.le_of_ble_eq_true rfl) rfl) ?_
      conv=>whnf
      have k10:=k9.bF yE (by decide) (by decide) ⟨0,false,.cells 69 [.s t6.s,A,.b true,.sl0,.i .i64 t.l]⟩
      have lK:(List.set s9 σ1.length ⟨0,false,.cells 69 [.s t6.s,A,.b true,.sl0,.i .i64 t.l]⟩)[σ1.length]? =some ⟨0,false,.cells 69 [.s t6.s,A,.b true,.sl0,.i .i64 t.l]⟩:=at_set yE _
      have mP:(List.set s9 σ1.length ⟨0,false,.cells 69 [.s t6.s,A,.b true,.sl0,.i .i64 t.l]⟩)[σ3.length]? =_:=aN vT (by omega) _
      have cp10:(List.set s9 σ1.length ⟨0,false,.cells 69 [.s t6.s,A,.b true,.sl0,.i .i64 t.l]⟩)[σ.length]? =_:=aN Fh (by omega) _
      have JX:aO p σ (List.set s9 σ1.length ⟨0,false,.cells 69 [.s t6.s,A,.b true,.sl0,.i .i64 t.l]⟩):=X9.bg (bG.bF _ _ _ _) (by omega)
      have l10:(List.set s9 σ1.length ⟨0,false,.cells 69 [.s t6.s,A,.b true,.sl0,.i .i64 t.l]⟩).length=s9.length:=List.length_set
      have ha10:mM (fun i=>σ1.length<i) (List.set s9 σ1.length ⟨0,false,.cells 69 [.s t6.s,A,.b true,.sl0,.i .i64 t.l]⟩) A ps:=(show mM (fun i=>s7.length≤i) s8 A ps from ha8).mono (fun i hi=>by omega) (fun i hi a ha=>aN (y9.get (by omega) ha) (by omega) _)
      generalize List.set s9 σ1.length ⟨0,false,.cells 69 [.s t6.s,A,.b true,.sl0,.i .i64 t.l]⟩=s10 at k10 lK mP cp10 JX l10 ha10 ⊢
      have hgb:=(allS n).block 0 (all.drop (m8+1)) Kt (by omega)
      conv=>whnf
      refine ak (aj (T:=dD) rfl rfl (ah (mP)) rfl) ?_
      conv=>whnf
      refine ak (aj (T:=aW) rfl rfl (ah (cp10)) rfl) ?_
      conv=>whnf
      refine(Va (p:=p) (w:=w) (g:=g) hno hnn hko n).1.block 0 s10 (m8+1) _ k10 (by omega) Kt (by omega) ?_
      generalize pBlock n 0 (all.drop (m8+1))=rb at hgb hQ
      cases rb with
      | out=>exact hgb.elim
      | bad c l=>
        have hQ:GH p w g all σ Q (.bad c l):=hQ
        intro Bd s11 Kv k11 hB
        have vG:=Kv.get (by omega) lK
        have uh:=Kv.get (by omega) mP
        have GK:=Kv.get (by omega) cp10
        have Om:=JX.trans Kv
        have l11:=Kv.len
        refine bY _ _ ?_
        conv=>whnf
        refine⟨?_,?_⟩
        ·conv=>whnf
         refine ak (aj (T:=dD) rfl rfl (ah (uh)) rfl) ?_
         rfl
        conv=>whnf
        refine ak (fV (T:=cO) [.s t6.s,A,.b true,Bd,.i .i64 t.l] hB rfl rfl vG (Nat.le_of_ble_eq_true rfl) rfl) ?_
        have k12:=k11.bF vG (by decide) (by decide) (by decide) ⟨0,false,.cells 69 [.s t6.s,A,.b true,Bd,.i .i64 t.l]⟩
        have cx12:(List.set s11 σ1.length ⟨0,false,.cells 69 [.s t6.s,A,.b true,Bd,.i .i64 t.l]⟩)[σ1.length]? =some ⟨0,false,.cells 69 [.s t6.s,A,.b true,Bd,.i .i64 t.l]⟩:=at_set vG _
        have Vh:(List.set s11 σ1.length ⟨0,false,.cells 69 [.s t6.s,A,.b true,Bd,.i .i64 t.l]⟩)[σ3.length]? =_:=aN uh (by omega) _
        have cp12:(List.set s11 σ1.length ⟨0,false,.cells 69 [.s t6.s,A,.b true,Bd,.i .i64 t.l]⟩)[σ.length]? =_:=aN GK (by omega) _
        have X12:aO p σ (List.set s11 σ1.length ⟨0,false,.cells 69 [.s t6.s,A,.b true,Bd,.i .i64 t.l]⟩):=Om.bg (bG.bF _ _ _ _) (by omega)
        have l12:(List.set s11 σ1.length ⟨0,false,.cells 69 [.s t6.s,A,.b true,Bd,.i .i64 t.l]⟩).length=s11.length:=List.length_set
        conv=>whnf
        refine ak (aj (T:=dD) rfl rfl (ah (Vh)) rfl) ?_
        conv=>whnf
        exact Fin.ref rfl (hQ _ _ X12 k12)
      | ok bd ts2=>
        have hQ:GH p w g all σ Q (.ok ⟨t6.s,ps,true,bd,t.l⟩ ts2):=hQ
        intro Bd s11 m9 Kv k11 zh hbd hB
        have vG:=Kv.get (by omega) lK
        have uh:=Kv.get (by omega) mP
        have GK:=Kv.get (by omega) cp10
        have Om:=JX.trans Kv
        have l11:=Kv.len
        refine bY _ _ ?_
        conv=>whnf
        refine⟨?_,?_⟩
        ·conv=>whnf
         refine ak (aj (T:=dD) rfl rfl (ah (uh)) rfl) ?_
         rfl
        conv=>whnf
        refine ak (fV (T:=cO) [.s t6.s,A,.b true,Bd,.i .i64 t.l] hB rfl rfl vG (Nat.le_of_ble_eq_true rfl) rfl) ?_
        have k12:=k11.bF vG (by decide) (by decide) ⟨0,false,.cells 69 [.s t6.s,A,.b true,Bd,.i .i64 t.l]⟩
        have cx12:(List.set s11 σ1.length ⟨0,false,.cells 69 [.s t6.s,A,.b true,Bd,.i .i64 t.l]⟩)[σ1.length]? =some ⟨0,false,.cells 69 [.s t6.s,A,.b true,Bd,.i .i64 t.l]⟩:=at_set vG _
        have Vh:(List.set s11 σ1.length ⟨0,false,.cells 69 [.s t6.s,A,.b true,Bd,.i .i64 t.l]⟩)[σ3.length]? =_:=aN uh (by omega) _
        have cp12:(List.set s11 σ1.length ⟨0,false,.cells 69 [.s t6.s,A,.b true,Bd,.i .i64 t.l]⟩)[σ.length]? =_:=aN GK (by omega) _
        have X12:aO p σ (List.set s11 σ1.length ⟨0,false,.cells 69 [.s t6.s,A,.b true,Bd,.i .i64 t.l]⟩):=Om.bg (bG.bF _ _ _ _) (by omega)
        have l12:(List.set s11 σ1.length ⟨0,false,.cells 69 [.s t6.s,A,.b true,Bd,.i .i64 t.l]⟩).length=s11.length:=List.length_set
        conv=>whnf
        refine ak (aj (T:=dD) rfl rfl (ah (Vh)) rfl) ?_
        conv=>whnf
        refine Fin.ref rfl (hQ _ _ _ X12 k12 zh ⟨σ1.length,A,Bd,by omega,rfl,cx12,?_,?_⟩)
        ·exact ha10.mono (fun i hi=>by omega) (fun i hi a ha=>aN (Kv.get (by have:=bn ha;omega) ha) (by omega) _)
        ·exact dn.mono (fun i hi=>by omega) (fun i hi a ha=>aN ha (by omega) _) hbd
     ·have Oc:isW wPtr (t8 :: r8)=false:=hi
      have hQ:GH p w g all σ Q ((pBlock n 0 (t8 :: r8)).bind fun b ts1=>.ok ⟨t6.s,ps,false,b,t.l⟩ ts1):=by
            simp only [Oc,if_neg Bool.false_ne_true] at hQ;exact hQ
      rw [←lI] at hQ
      conv=>whnf
      refine⟨?_,?_⟩
      ·conv=>whnf
       refine ak (aj (T:=dD) rfl rfl (ah (kC)) rfl) ?_
       rfl
      conv=>whnf
      refine ak (aF (T:=qg) ([.s t6.s,A,.b false,.sl0,.i .i64 t.l]) rfl (jl) rfl rfl (Nat.le_of_ble_eq_true rfl) rfl) ?_
      conv=>whnf
      have k9:=k8.bF jl (by decide) (by decide) ⟨0,false,.cells 69 [.s t6.s,A,.b false,.sl0,.i .i64 t.l]⟩
      have yE:(List.set s8 σ1.length ⟨0,false,.cells 69 [.s t6.s,A,.b false,.sl0,.i .i64 t.l]⟩)[σ1.length]? =some ⟨0,false,.cells 69 [.s t6.s,A,.b false,.sl0,.i .i64 t.l]⟩:=at_set jl _
      have vT:(List.set s8 σ1.length ⟨0,false,.cells 69 [.s t6.s,A,.b false,.sl0,.i .i64 t.l]⟩)[σ3.length]? =_:=aN kC (by omega) _
      have Fh:(List.set s8 σ1.length ⟨0,false,.cells 69 [.s t6.s,A,.b false,.sl0,.i .i64 t.l]⟩)[σ.length]? =_:=aN cp8 (by omega) _
      have X9:aO p σ (List.set s8 σ1.length ⟨0,false,.cells 69 [.s t6.s,A,.b false,.sl0,.i .i64 t.l]⟩):=X8.bg (bG.bF _ _ _ _) (by omega)
      have l9:(List.set s8 σ1.length ⟨0,false,.cells 69 [.s t6.s,A,.b false,.sl0,.i .i64 t.l]⟩).length=s8.length:=List.length_set
      have ha9:mM (fun i=>σ1.length<i) (List.set s8 σ1.length ⟨0,false,.cells 69 [.s t6.s,A,.b false,.sl0,.i .i64 t.l]⟩) A ps:=(show mM (fun i=>s7.length≤i) s8 A ps from ha8).mono (fun i hi=>by omega) (fun i hi a ha=>aN ha (by omega) _)
      generalize List.set s8 σ1.length ⟨0,false,.cells 69 [.s t6.s,A,.b false,.sl0,.i .i64 t.l]⟩=s9 at k9 yE vT Fh X9 l9 ha9 ⊢
      have hgb:=(allS n).block 0 (all.drop (m8)) he8 (by omega)
      conv=>whnf
      refine ak (aj (T:=dD) rfl rfl (ah (vT)) rfl) ?_
      conv=>whnf
      refine ak (aj (T:=aW) rfl rfl (ah (Fh)) rfl) ?_
      conv=>whnf
      refine(Va (p:=p) (w:=w) (g:=g) hno hnn hko n).1.block 0 s9 (m8) _ k9 (by omega) he8 (by omega) ?_
      generalize pBlock n 0 (all.drop (m8))=rb at hgb hQ
      cases rb with
      | out=>exact hgb.elim
      | bad c l=>
        have hQ:GH p w g all σ Q (.bad c l):=hQ
        intro Bd s10 vW k10 hB
        have lK:=vW.get (by omega) yE
        have mP:=vW.get (by omega) vT
        have cp10:=vW.get (by omega) Fh
        have JX:=X9.trans vW
        have l10:=vW.len
        refine bY _ _ ?_
        conv=>whnf
        refine⟨?_,?_⟩
        ·conv=>whnf
         refine ak (aj (T:=dD) rfl rfl (ah (mP)) rfl) ?_
         rfl
        conv=>whnf
        refine ak (fV (T:=cO) [.s t6.s,A,.b false,Bd,.i .i64 t.l] hB rfl rfl lK (Nat.le_of_ble_eq_true rfl) rfl) ?_
        have k11:=k10.bF lK (by decide) (by decide) (by decide) ⟨0,false,.cells 69 [.s t6.s,A,.b false,Bd,.i .i64 t.l]⟩
        have vG:(List.set s10 σ1.length ⟨0,false,.cells 69 [.s t6.s,A,.b false,Bd,.i .i64 t.l]⟩)[σ1.length]? =some ⟨0,false,.cells 69 [.s t6.s,A,.b false,Bd,.i .i64 t.l]⟩:=at_set lK _
        have uh:(List.set s10 σ1.length ⟨0,false,.cells 69 [.s t6.s,A,.b false,Bd,.i .i64 t.l]⟩)[σ3.length]? =_:=aN mP (by omega) _
        have GK:(List.set s10 σ1.length ⟨0,false,.cells 69 [.s t6.s,A,.b false,Bd,.i .i64 t.l]⟩)[σ.length]? =_:=aN cp10 (by omega) _
        have Om:aO p σ (List.set s10 σ1.length ⟨0,false,.cells 69 [.s t6.s,A,.b false,Bd,.i .i64 t.l]⟩):=JX.bg (bG.bF _ _ _ _) (by omega)
        have l11:(List.set s10 σ1.length ⟨0,false,.cells 69 [.s t6.s,A,.b false,Bd,.i .i64 t.l]⟩).length=s10.length:=List.length_set
        conv=>whnf
        refine ak (aj (T:=dD) rfl rfl (ah (uh)) rfl) ?_
        conv=>whnf
        exact Fin.ref rfl (hQ _ _ Om k11)
      | ok bd ts2=>
        have hQ:GH p w g all σ Q (.ok ⟨t6.s,ps,false,bd,t.l⟩ ts2):=hQ
        intro Bd s10 m9 vW k10 zh hbd hB
        have lK:=vW.get (by omega) yE
        have mP:=vW.get (by omega) vT
        have cp10:=vW.get (by omega) Fh
        have JX:=X9.trans vW
        have l10:=vW.len
        refine bY _ _ ?_
        conv=>whnf
        refine⟨?_,?_⟩
        ·conv=>whnf
         refine ak (aj (T:=dD) rfl rfl (ah (mP)) rfl) ?_
         rfl
        conv=>whnf
        refine ak (fV (T:=cO) [.s t6.s,A,.b false,Bd,.i .i64 t.l] hB rfl rfl lK (Nat.le_of_ble_eq_true rfl) rfl) ?_
        have k11:=k10.bF lK (by decide) (by decide) ⟨0,false,.cells 69 [.s t6.s,A,.b false,Bd,.i .i64 t.l]⟩
        have vG:(List.set s10 σ1.length ⟨0,false,.cells 69 [.s t6.s,A,.b false,Bd,.i .i64 t.l]⟩)[σ1.length]? =some ⟨0,false,.cells 69 [.s t6.s,A,.b false,Bd,.i .i64 t.l]⟩:=at_set lK _
        have uh:(List.set s10 σ1.length ⟨0,false,.cells 69 [.s t6.s,A,.b false,Bd,.i .i64 t.l]⟩)[σ3.length]? =_:=aN mP (by omega) _
        have GK:(List.set s10 σ1.length ⟨0,false,.cells 69 [.s t6.s,A,.b false,Bd,.i .i64 t.l]⟩)[σ.length]? =_:=aN cp10 (by omega) _
        have Om:aO p σ (List.set s10 σ1.length ⟨0,false,.cells 69 [.s t6.s,A,.b false,Bd,.i .i64 t.l]⟩):=JX.bg (bG.bF _ _ _ _) (by omega)
        have l11:(List.set s10 σ1.length ⟨0,false,.cells 69 [.s t6.s,A,.b false,Bd,.i .i64 t.l]⟩).length=s10.length:=List.length_set
        conv=>whnf
        refine ak (aj (T:=dD) rfl rfl (ah (uh)) rfl) ?_
        conv=>whnf
        refine Fin.ref rfl (hQ _ _ _ Om k11 zh ⟨σ1.length,A,Bd,by omega,rfl,vG,?_,?_⟩)
        ·exact ha9.mono (fun i hi=>by omega) (fun i hi a ha=>aN (vW.get (by have:=bn ha;omega) ha) (by omega) _)
        ·exact dn.mono (fun i hi=>by omega) (fun i hi a ha=>aN ha (by omega) _) hbd
  ·simp only [nameW,if_neg hk1] at hQ
   have hQ:GH p w g all σ Q (.bad 4 t6.l):=hQ
   have oU:=y6.get (by omega) rY
   have rO:=y6.get (by omega) nY
   have cp6:=y6.get (by omega) cp5
   have X6:=X5.trans y6
   have l6:=y6.len
   conv=>whnf
   refine⟨?_,?_⟩
   ·conv=>whnf
    refine ak (aj (T:=dD) rfl rfl (ah (rO)) rfl) ?_
    rfl
   conv=>whnf
   refine ak (aF (T:=dP) ([.s [],.sl0,.b false,.sl0,.i .i64 t.l]) rfl (oU) rfl rfl (Nat.le_of_ble_eq_true rfl) rfl) ?_
   conv=>whnf
   have k7:=k6.bF oU (by decide) (by decide) (by decide) ⟨0,false,.cells 69 [.s [],.sl0,.b false,.sl0,.i .i64 t.l]⟩
   have pG:(List.set s6 σ1.length ⟨0,false,.cells 69 [.s [],.sl0,.b false,.sl0,.i .i64 t.l]⟩)[σ1.length]? =some ⟨0,false,.cells 69 [.s [],.sl0,.b false,.sl0,.i .i64 t.l]⟩:=at_set oU _
   have pI:(List.set s6 σ1.length ⟨0,false,.cells 69 [.s [],.sl0,.b false,.sl0,.i .i64 t.l]⟩)[σ3.length]? =_:=aN rO (by omega) _
   have Ku:(List.set s6 σ1.length ⟨0,false,.cells 69 [.s [],.sl0,.b false,.sl0,.i .i64 t.l]⟩)[σ.length]? =_:=aN cp6 (by omega) _
   have X7:aO p σ (List.set s6 σ1.length ⟨0,false,.cells 69 [.s [],.sl0,.b false,.sl0,.i .i64 t.l]⟩):=X6.bg (bG.bF _ _ _ _) (by omega)
   have l7:(List.set s6 σ1.length ⟨0,false,.cells 69 [.s [],.sl0,.b false,.sl0,.i .i64 t.l]⟩).length=s6.length:=List.length_set
   generalize List.set s6 σ1.length ⟨0,false,.cells 69 [.s [],.sl0,.b false,.sl0,.i .i64 t.l]⟩=s7 at k7 pG pI Ku X7 l7 ⊢
   conv=>whnf
   refine ak (aj (T:=aW) rfl rfl (ah (Ku)) rfl) ?_
   conv=>whnf
   refine Oi k7 (Nat.le_of_ble_eq_true rfl) fun s8 y8 k8=>?_
   have jl:=y8.get (by omega) pG
   have kC:=y8.get (by omega) pI
   have cp8:=y8.get (by omega) Ku
   have X8:=X7.trans y8
   have l8:=y8.len
   conv=>whnf
   refine ak (aj (T:=dD) rfl rfl (ah (kC)) rfl) ?_
   conv=>whnf
   refine ak (aj (T:=aW) rfl rfl (ah (cp8)) rfl) ?_
   conv=>whnf
   refine ay.to (jv [112,116,114] k8) ?_
   conv=>whnf
   refine⟨?_,?_⟩
   ·conv=>whnf
    refine ak (aj (T:=dD) rfl rfl (ah (kC)) rfl) ?_
    rfl
   conv=>whnf
   refine ak (aF (T:=qg) ([.s [],.sl0,.b false,.sl0,.i .i64 t.l]) rfl (jl) rfl rfl (Nat.le_of_ble_eq_true rfl) rfl) ?_
   conv=>whnf
   have k9:=k8.bF jl (by decide) (by decide) (by decide) ⟨0,false,.cells 69 [.s [],.sl0,.b false,.sl0,.i .i64 t.l]⟩
   have yE:(List.set s8 σ1.length ⟨0,false,.cells 69 [.s [],.sl0,.b false,.sl0,.i .i64 t.l]⟩)[σ1.length]? =some ⟨0,false,.cells 69 [.s [],.sl0,.b false,.sl0,.i .i64 t.l]⟩:=at_set jl _
   have vT:(List.set s8 σ1.length ⟨0,false,.cells 69 [.s [],.sl0,.b false,.sl0,.i .i64 t.l]⟩)[σ3.length]? =_:=aN kC (by omega) _
   have Fh:(List.set s8 σ1.length ⟨0,false,.cells 69 [.s [],.sl0,.b false,.sl0,.i .i64 t.l]⟩)[σ.length]? =_:=aN cp8 (by omega) _
   have X9:aO p σ (List.set s8 σ1.length ⟨0,false,.cells 69 [.s [],.sl0,.b false,.sl0,.i .i64 t.l]⟩):=X8.bg (bG.bF _ _ _ _) (by omega)
   have l9:(List.set s8 σ1.length ⟨0,false,.cells 69 [.s [],.sl0,.b false,.sl0,.i .i64 t.l]⟩).length=s8.length:=List.length_set
   generalize List.set s8 σ1.length ⟨0,false,.cells 69 [.s [],.sl0,.b false,.sl0,.i .i64 t.l]⟩=s9 at k9 yE vT Fh X9 l9 ⊢
   conv=>whnf
   refine ak (aj (T:=dD) rfl rfl (ah (vT)) rfl) ?_
   conv=>whnf
   refine ak (aj (T:=aW) rfl rfl (ah (Fh)) rfl) ?_
   conv=>whnf
   refine rM k9 (Nat.le_of_ble_eq_true rfl) fun s10 vW k10=>?_
   have lK:=vW.get (by omega) yE
   have mP:=vW.get (by omega) vT
   have cp10:=vW.get (by omega) Fh
   have JX:=X9.trans vW
   have l10:=vW.len
   conv=>whnf
   refine⟨?_,?_⟩
   ·conv=>whnf
    refine ak (aj (T:=dD) rfl rfl (ah (mP)) rfl) ?_
    rfl
   conv=>whnf
   refine ak (aF (T:=cO) ([.s [],.sl0,.b false,.sl0,.i .i64 t.l]) rfl (lK) rfl rfl (Nat.le_of_ble_eq_true rfl) rfl) ?_
   conv=>whnf
   have k11:=k10.bF lK (by decide) (by decide) (by decide) ⟨0,false,.cells 69 [.s [],.sl0,.b false,.sl0,.i .i64 t.l]⟩
   have vG:(List.set s10 σ1.length ⟨0,false,.cells 69 [.s [],.sl0,.b false,.sl0,.i .i64 t.l]⟩)[σ1.length]? =some ⟨0,false,.cells 69 [.s [],.sl0,.b false,.sl0,.i .i64 t.l]⟩:=at_set lK _
   have uh:(List.set s10 σ1.length ⟨0,false,.cells 69 [.s [],.sl0,.b false,.sl0,.i .i64 t.l]⟩)[σ3.length]? =_:=aN mP (by omega) _
   have GK:(List.set s10 σ1.length ⟨0,false,.cells 69 [.s [],.sl0,.b false,.sl0,.i .i64 t.l]⟩)[σ.length]? =_:=aN cp10 (by omega) _
   have Om:aO p σ (List.set s10 σ1.length ⟨0,false,.cells 69 [.s [],.sl0,.b false,.sl0,.i .i64 t.l]⟩):=JX.bg (bG.bF _ _ _ _) (by omega)
   have l11:(List.set s10 σ1.length ⟨0,false,.cells 69 [.s [],.sl0,.b false,.sl0,.i .i64 t.l]⟩).length=s10.length:=List.length_set
   conv=>whnf
   refine ak (aj (T:=dD) rfl rfl (ah (uh)) rfl) ?_
   conv=>whnf
   exact Fin.ref rfl (hQ _ _ Om k11)
 ·rw [mustW,if_neg (show ¬isW wFunc (t :: r)=true by rw [show isW wFunc (t :: r)=fB [102,117,110,99] t from rfl,hi];decide)] at hQ
  have hQ:GH p w g all σ Q (.bad 4 t.l):=hQ
  have rY:=y5.get (by omega) cx4
  have nY:=y5.get (by omega) cv4
  have cp5:=y5.get (by omega) cp4
  have X5:=X4.trans y5
  have l5:=y5.len
  conv=>whnf
  refine ak (aj (T:=dD) rfl rfl (ah (nY)) rfl) ?_
  conv=>whnf
  refine ak (aj (T:=aW) rfl rfl (ah (cp5)) rfl) ?_
  conv=>whnf
  refine ay.to (BX k5) ?_
  conv=>whnf
  refine⟨?_,?_⟩
  ·conv=>whnf
   refine ak (aj (T:=dD) rfl rfl (ah (nY)) rfl) ?_
   rfl
  conv=>whnf
  refine ak (aF (T:=dP) ([.s [],.sl0,.b false,.sl0,.i .i64 t.l]) rfl (rY) rfl rfl (Nat.le_of_ble_eq_true rfl) rfl) ?_
  conv=>whnf
  have k6:=k5.bF rY (by decide) (by decide) (by decide) ⟨0,false,.cells 69 [.s [],.sl0,.b false,.sl0,.i .i64 t.l]⟩
  have oU:(List.set s5 σ1.length ⟨0,false,.cells 69 [.s [],.sl0,.b false,.sl0,.i .i64 t.l]⟩)[σ1.length]? =some ⟨0,false,.cells 69 [.s [],.sl0,.b false,.sl0,.i .i64 t.l]⟩:=at_set rY _
  have rO:(List.set s5 σ1.length ⟨0,false,.cells 69 [.s [],.sl0,.b false,.sl0,.i .i64 t.l]⟩)[σ3.length]? =_:=aN nY (by omega) _
  have cp6:(List.set s5 σ1.length ⟨0,false,.cells 69 [.s [],.sl0,.b false,.sl0,.i .i64 t.l]⟩)[σ.length]? =_:=aN cp5 (by omega) _
  have X6:aO p σ (List.set s5 σ1.length ⟨0,false,.cells 69 [.s [],.sl0,.b false,.sl0,.i .i64 t.l]⟩):=X5.bg (bG.bF _ _ _ _) (by omega)
  have l6:(List.set s5 σ1.length ⟨0,false,.cells 69 [.s [],.sl0,.b false,.sl0,.i .i64 t.l]⟩).length=s5.length:=List.length_set
  generalize List.set s5 σ1.length ⟨0,false,.cells 69 [.s [],.sl0,.b false,.sl0,.i .i64 t.l]⟩=s6 at k6 oU rO cp6 X6 l6 ⊢
  conv=>whnf
  refine ak (aj (T:=aW) rfl rfl (ah (cp6)) rfl) ?_
  conv=>whnf
  refine Oi k6 (Nat.le_of_ble_eq_true rfl) fun s7 y7 k7=>?_
  have pG:=y7.get (by omega) oU
  have pI:=y7.get (by omega) rO
  have Ku:=y7.get (by omega) cp6
  have X7:=X6.trans y7
  have l7:=y7.len
  conv=>whnf
  refine ak (aj (T:=dD) rfl rfl (ah (pI)) rfl) ?_
  conv=>whnf
  refine ak (aj (T:=aW) rfl rfl (ah (Ku)) rfl) ?_
  conv=>whnf
  refine ay.to (jv [112,116,114] k7) ?_
  conv=>whnf
  refine⟨?_,?_⟩
  ·conv=>whnf
   refine ak (aj (T:=dD) rfl rfl (ah (pI)) rfl) ?_
   rfl
  conv=>whnf
  refine ak (aF (T:=qg) ([.s [],.sl0,.b false,.sl0,.i .i64 t.l]) rfl (pG) rfl rfl (Nat.le_of_ble_eq_true rfl) rfl) ?_
  conv=>whnf
  have k8:=k7.bF pG (by decide) (by decide) (by decide) ⟨0,false,.cells 69 [.s [],.sl0,.b false,.sl0,.i .i64 t.l]⟩
  have jl:(List.set s7 σ1.length ⟨0,false,.cells 69 [.s [],.sl0,.b false,.sl0,.i .i64 t.l]⟩)[σ1.length]? =some ⟨0,false,.cells 69 [.s [],.sl0,.b false,.sl0,.i .i64 t.l]⟩:=at_set pG _
  have kC:(List.set s7 σ1.length ⟨0,false,.cells 69 [.s [],.sl0,.b false,.sl0,.i .i64 t.l]⟩)[σ3.length]? =_:=aN pI (by omega) _
  have cp8:(List.set s7 σ1.length ⟨0,false,.cells 69 [.s [],.sl0,.b false,.sl0,.i .i64 t.l]⟩)[σ.length]? =_:=aN Ku (by omega) _
  have X8:aO p σ (List.set s7 σ1.length ⟨0,false,.cells 69 [.s [],.sl0,.b false,.sl0,.i .i64 t.l]⟩):=X7.bg (bG.bF _ _ _ _) (by omega)
  have l8:(List.set s7 σ1.length ⟨0,false,.cells 69 [.s [],.sl0,.b false,.sl0,.i .i64 t.l]⟩).length=s7.length:=List.length_set
  generalize List.set s7 σ1.length ⟨0,false,.cells 69 [.s [],.sl0,.b false,.sl0,.i .i64 t.l]⟩=s8 at k8 jl kC cp8 X8 l8 ⊢
  conv=>whnf
  refine ak (aj (T:=dD) rfl rfl (ah (kC)) rfl) ?_
  conv=>whnf
  refine ak (aj (T:=aW) rfl rfl (ah (cp8)) rfl) ?_
  conv=>whnf
  refine rM k8 (Nat.le_of_ble_eq_true rfl) fun s9 y9 k9=>?_
  have yE:=y9.get (by omega) jl
  have vT:=y9.get (by omega) kC
  have Fh:=y9.get (by omega) cp8
  have X9:=X8.trans y9
  have l9:=y9.len
  conv=>whnf
  refine⟨?_,?_⟩
  ·conv=>whnf
   refine ak (aj (T:=dD) rfl rfl (ah (vT)) rfl) ?_
   rfl
  conv=>whnf
  refine ak (aF (T:=cO) ([.s [],.sl0,.b false,.sl0,.i .i64 t.l]) rfl (yE) rfl rfl (Nat.le_of_ble_eq_true rfl) rfl) ?_
  conv=>whnf
  have k10:=k9.bF yE (by decide) (by decide) (by decide) ⟨0,false,.cells 69 [.s [],.sl0,.b false,.sl0,.i .i64 t.l]⟩
  have lK:(List.set s9 σ1.length ⟨0,false,.cells 69 [.s [],.sl0,.b false,.sl0,.i .i64 t.l]⟩)[σ1.length]? =some ⟨0,false,.cells 69 [.s [],.sl0,.b false,.sl0,.i .i64 t.l]⟩:=at_set yE _
  have mP:(List.set s9 σ1.length ⟨0,false,.cells 69 [.s [],.sl0,.b false,.sl0,.i .i64 t.l]⟩)[σ3.length]? =_:=aN vT (by omega) _
  have cp10:(List.set s9 σ1.length ⟨0,false,.cells 69 [.s [],.sl0,.b false,.sl0,.i .i64 t.l]⟩)[σ.length]? =_:=aN Fh (by omega) _
  have JX:aO p σ (List.set s9 σ1.length ⟨0,false,.cells 69 [.s [],.sl0,.b false,.sl0,.i .i64 t.l]⟩):=X9.bg (bG.bF _ _ _ _) (by omega)
  have l10:(List.set s9 σ1.length ⟨0,false,.cells 69 [.s [],.sl0,.b false,.sl0,.i .i64 t.l]⟩).length=s9.length:=List.length_set
  conv=>whnf
  refine ak (aj (T:=dD) rfl rfl (ah (mP)) rfl) ?_
  conv=>whnf
  exact Fin.ref rfl (hQ _ _ JX k10)
end
end Go.Abs.YtlkfbfhkcaldlaaGreatDoor
namespace Go.Abs.YtlkfbfhkcaldlaaGreatDoor
open Go.Proofs
def IJ (z:Tok):Prop:=(z.k=2→((∀c∈z.s,48≤c.toNat∧c.toNat≤57)∧numP 0 z.s<4294967296∧z.s.length≤100000)∧z.s≠[])∧(z.k=4→z.s∈keys)∧(z.k=3→z.s∉keys)
theorem IK:∀(l:List UInt8) (v:Nat),uP v l=true→v<4294967296→numP v l<4294967296
 | [],v,_,hv=>hv
 | c :: l,v,h,_=>by
   unfold uP at h
   split at h
   ·cases h
   ·exact IK l _ h (by omega)
theorem step_ok (c:UInt8)(t:List UInt8)(k n l:Nat)(hl:(c :: t).length≤32768)(h:step (c :: t)= .tok k n):IJ ⟨k,(c :: t).take n,l⟩:=by
 unfold step at h
 split at h
 ·cases h
 ·simp only at h
  split at h
  ·cases h
  ·split at h
   ·split at h
    ·cases h
    ·split at h
     ·rename_i hk
      cases h
      exact⟨fun e=>by simp at e,fun _=>List.contains_iff_mem.1 hk,fun e=>by simp at e⟩
     ·cases h
      exact⟨fun e=>by simp at e,fun e=>by simp at e,fun e=>by simp at e⟩
   ·rename_i hlet
    split at h
    ·rename_i hd
     split at h
     ·cases h
     ·split at h
      ·cases h
      ·rename_i hbig
       cases h
       have hall:=vN isDigit (c :: t)
       have hne:(c :: t).take (run isDigit (c :: t))≠[]:=by
                have hp:0<run isDigit (c :: t):=run_pos _ hd
                obtain⟨k,hk⟩:∃k,run isDigit (c :: t)=k+1:=⟨_,(Nat.sub_add_cancel hp).symm⟩
                rw [hk,List.take_succ_cons];simp
       have hok:uP 0 ((c :: t).take (run isDigit (c :: t)))=true:=by
                rw [Gj hall hne] at hbig
                simpa using hbig
       refine⟨fun _=>⟨⟨fun x hx=>?_,IK _ 0 hok (by decide),?_⟩,hne⟩,fun e=>by simp at e,fun e=>by simp at e⟩
       ·have:=hall x hx
        simp only [isDigit,Bool.and_eq_true,decide_eq_true_eq] at this
        omega
       ·have hr:=run_le isDigit (c :: t)
        show ((c :: t).take (run isDigit (c :: t))).length≤100000
        rw [List.length_take];omega
    ·split at h
     ·have hk:∀n,(c :: t).take (n+1)∉keys:=by
       intro n hm
       have hh:∀w∈keys,∀a∈w.head?,isLetter a.toNat=true:=by decide
       have:=hh _ hm c (by rw [List.take_succ_cons];rfl)
       exact hlet this
      split at h
      ·cases h
       exact⟨fun e=>by simp at e,fun e=>by simp at e,fun _=>hk 1⟩
      ·cases h
       exact⟨fun e=>by simp at e,fun e=>by simp at e,fun _=>hk 0⟩
     ·cases h
theorem Ci:∀(n:Nat) (s:List UInt8) (l:Nat) (acc l':List Tok) (n':Nat),s.length≤32768→(∀z∈acc,IJ z)→lexG n s l acc= .done l' n'→∀z∈l',IJ z
 | _,[],l,acc,l',n',_,ha,h=>by
   unfold lexG at h;cases h;exact ha
 | 0,c :: t,l,acc,l',n',_,ha,h=>by
   unfold lexG at h;cases h;exact ha
 | n+1,c :: t,l,acc,l',n',hs,ha,h=>by
   unfold lexG at h
   have hf:=step_fits c t
   cases hst:step (c :: t) with
   | skip k nl=>
     rw [hst] at h
     exact Ci n _ _ acc l' n' (by rw [List.length_drop];omega) ha h
   | tok k m=>
     rw [hst] at h
     refine Ci n _ _ _ l' n' (by rw [List.length_drop];omega) (fun z hz=>?_) h
     rcases List.mem_append.1 hz with hz | hz
     ·exact ha z hz
     ·rw [List.mem_singleton.1 hz]
      exact step_ok c t k m l hs hst
   | err e=>rw [hst] at h;cases h
theorem ES (z:Tok)(hz:z.k=5):∀l:List Tok,EndOk (l ++ [z])
 | []=>by
   show EndOk [z]
   unfold EndOk
   rw [if_pos rfl];exact hz
 | x :: l=>by
   show EndOk (x :: (l ++ [z]))
   unfold EndOk
   rw [if_neg (by simp)]
   exact ES z hz l
theorem IL {t:List UInt8} {l:List Tok} (h:lexS t= .toks l):EndOk l∧yw l∧yB l∧EN l:=by
 unfold lexS at h
 split at h
 ·cases h
 ·cases hG:lexG t.length t 0 [] with
  | bad e l=>rw [hG] at h;cases h
  | done l0 n=>
    rw [hG] at h
    cases h
    have h0:=Ci t.length t 0 [] l0 n (by omega) (fun z hz=>by cases hz) hG
    have h1:∀z∈l0 ++ [⟨5,[],n⟩],IJ z:=by
        intro z hz
        rcases List.mem_append.1 hz with hz | hz
        ·exact h0 z hz
        ·rw [List.mem_singleton.1 hz]
         exact⟨fun e=>by simp at e,fun e=>by simp at e,fun e=>by simp at e⟩
    exact⟨ES _ rfl _,fun z hz hk=>((h1 z hz).1 hk).1,fun z hz hk=>((h1 z hz).1 hk).2,fun z hz=>(h1 z hz).2⟩
end Go.Abs.YtlkfbfhkcaldlaaGreatDoor
namespace Go.Abs.YtlkfbfhkcaldlaaGreatDoor
open Go.Proofs
set_option maxRecDepth 4000
def JY (B:Nat)(σ:St)(v:AV)(cs:List AV):Prop:=(cs=[]∧v= .sl0)∨∃o g,B≤o∧v= .sl o g 0 cs.length 1∧σ[o]? =some ⟨g,false,.cells 64 cs⟩∧cs≠[]
theorem Oo {B:Nat} {σ:St} {v:AV} {cs:List AV} (h:JY B σ v cs) {oy gy:Nat} (hcs:cs.all AV.one=true)(hl:cs.length≤100000) {C:Nat} (hC:σ[C]? =some ⟨0,false,.cells 64 [.p oy gy 0]⟩)(hB:B≤σ.length) {Q:AV→St→Prop}
 (q:∀v' σ',JY B σ' v' (cs ++ [.p oy gy 0])→σ.length≤σ'.length→(∀i,i<σ.length→apart v i→σ'[i]? =σ[i]?∧apart v' i)→(∀i,i<B→σ'[i]? =σ[i]?)→(∀i,σ'.length≤i→apart v' i)→Q v' σ') :
 xM D7.get false 58 v (.sl C 0 0 1 1) σ Q:=by
 constructor
 refine ak (v:=tq) rfl ?_
 refine ak (v:=dD) rfl ?_
 refine ak (iC hC (Nat.le_of_ble_eq_true rfl)) ?_
 rcases h with ⟨rfl,rfl⟩ | ⟨o,g,h1,rfl,h3,_⟩
 ·refine⟨Nat.le_of_ble_eq_true rfl,?_⟩
  refine q _ _ (.inr ⟨σ.length,0,hB,rfl,?_,by simp⟩) (by rw [aI];omega) (fun i hi _=>⟨dB hi,fun o g n z e=>by cases e;omega⟩) (fun i hi=>dB (by omega)) (fun i hi o g n z e=>by cases e;rw [aI] at hi;omega)
  rw [aH];rfl
 ·refine ak (jV h3) ?_
  refine⟨rfl,by simp,?_,by rw [List.drop_zero,List.take_of_length_le (by omega)];exact hcs,?_⟩
  ·show (cs.length+1)*8≤_;omega
  refine q _ _ (.inr ⟨o,g+1,h1,by simp,?_,by simp⟩) (by rw [List.length_set];exact Nat.le_refl _) (fun i hi ha=>⟨by rw [List.getElem?_set_ne (fun e=>ha o g _ _ rfl e.symm)],fun o' g' n z e=>by cases e;exact ha o g _ _ rfl⟩) (fun i hi=>by rw [List.getElem?_set_ne (by omega)]) (fun i hi o' g' n z e=>by cases e;rw [List.length_set] at hi;have:=bn h3;omega)
  rw [at_set h3]
  simp [List.take_of_length_le]
  rfl
def d_ (S:Nat→Prop)(σ:St):List AV→List Fm→Prop
 | [],[]=>True
 | a :: cs,x :: xs=>(∃o g,a= .p o g 0)∧kK S σ a x∧d_ S σ cs xs
 | _,_=>False
theorem d_.mono {S S':Nat→Prop} {σ σ':St} (h1:∀o,S o→S' o)(h2:∀o,S o→∀a,σ[o]? =some a→σ'[o]? =some a):∀{cs:List AV} {xs:List Fm},d_ S σ cs xs→d_ S' σ' cs xs
 | [],[],_=>trivial
 | a :: cs,x :: xs,h=>⟨h.1,h.2.1.mono h1 h2,d_.mono h1 h2 h.2.2⟩
theorem d_.snoc {S:Nat→Prop} {σ:St} :∀{cs:List AV} {xs:List Fm} {a:AV} {x:Fm},d_ S σ cs xs→(∃o g,a= .p o g 0)→kK S σ a x→d_ S σ (cs ++ [a]) (xs ++ [x])
 | [],[],a,x,_,ha,hx=>⟨ha,hx,trivial⟩
 | b :: cs,y :: xs,a,x,h,ha,hx=>⟨h.1,h.2.1,d_.snoc h.2.2 ha hx⟩
theorem d_.len {S:Nat→Prop} {σ:St} :∀{cs:List AV} {xs:List Fm},d_ S σ cs xs→cs.length=xs.length
 | [],[],_=>rfl
 | a :: cs,x :: xs,h=>by have:=d_.len h.2.2;simp [this]
theorem d_.one {S:Nat→Prop} {σ:St} :∀{cs:List AV} {xs:List Fm},d_ S σ cs xs→cs.all AV.one=true
 | [],[],_=>rfl
 | a :: cs,x :: xs,h=>by
   obtain⟨o,g,rfl⟩:=h.1
   rw [List.all_cons,d_.one h.2.2];rfl
def zk (B:Nat)(σ:St)(v:AV)(xs:List Fm):Prop:=∃cs,JY B σ v cs∧d_ (fun i=>B≤i∧apart v i) σ cs xs
theorem JY.sl {B:Nat} {σ:St} {v:AV} {cs:List AV} (h:JY B σ v cs):CS v:=by
 rcases h with ⟨_,rfl⟩ | ⟨o,g,_,rfl,_⟩
 ·exact .inl rfl
 ·exact .inr ⟨_,_,_,rfl⟩
theorem d_.below {S:Nat→Prop} {σ:St} :∀{cs:List AV} {xs:List Fm},d_ S σ cs xs→d_ (fun o=>S o∧o<σ.length) σ cs xs
 | [],[],_=>trivial
 | a :: cs,x :: xs,h=>⟨h.1,h.2.1.below,h.2.2.below⟩
theorem ET {p B D:Nat} {xu σ2:St} {A:AV} {acc:List Fm} (ha:zk B xu A acc)(x2:aO p xu σ2)(hp:p<B)(hB:B≤xu.length)(hD:D≤σ2.length)(hD0:xu.length≤D)(hl:acc.length≤90000)(oy gy:Nat) {Q:AV→St→Prop}
 (q:∀o3 g3 k σ3,(∀i,i<B→σ3[i]? =σ2[i]?)→σ2.length≤σ3.length→(∀(i:Nat) (a:AO),σ2[i]? =some a→(∀(g:Nat) (ro:Bool) (cs:List AV),a≠⟨g,ro,.cells 64 cs⟩)→σ3[i]? =some a)→(∀y,kK (fun i=>D≤i) σ2 (.p oy gy 0) y→zk B σ3 (.sl o3 g3 0 k 1) (acc ++ [y]))→Q (.sl o3 g3 0 k 1) σ3) :
 xM D7.get false 58 A (.sl σ2.length 0 0 1 1) (au 64 [.p oy gy 0] σ2) Q:=by
 obtain⟨cs,hraw,hea⟩:=ha
 have hcl:=hea.len
 have hco:=hea.one
 have lx:=x2.len
 have EH:JY B (au 64 [.p oy gy 0] σ2) A cs:=by
  rcases hraw with h | ⟨o,g,q1,q2,q3,q4⟩
  ·exact .inl h
  ·exact .inr ⟨o,g,q1,q2,at_new (x2.get (by omega) q3) _ _,q4⟩
 have hlt:∀o g n z,A= .sl o g 0 n z→o<xu.length:=by
  intro o g n z e
  rcases hraw with ⟨_,h⟩ | ⟨o',g',q1,q2,q3,q4⟩
  ·rw [h] at e;cases e
  ·rw [q2] at e;cases e;exact bn q3
 refine Oo (B:=B) (cs:=cs) EH hco (by omega) (aH _ _ _) (by rw [aI];omega) fun v' σ3 hr3 hl3 ho3 hb3 aae=>?_
 rw [aI] at hl3
 obtain⟨o3,g3,p1,rfl,p3,p4⟩:=hr3.resolve_left (by simp)
 refine q _ _ _ σ3 (fun i hi=>by rw [hb3 i hi,dB (by omega)]) (by omega) (fun i a hi ht=>?_) (fun y EG=>?_)
 ·rw [(ho3 i (by rw [aI];have:=bn hi;omega) ?_).1]
  ·exact at_new hi _ _
  ·intro o g n z e
   rcases hraw with ⟨_,h⟩ | ⟨o',g',q1,q2,q3,q4⟩
   ·rw [h] at e;cases e
   ·rw [q2] at e
    cases e
    intro e
    subst e
    have:=(x2.get (by omega) q3).symm.trans hi
    exact ht _ _ _ (Option.some.inj this).symm
 refine⟨_,hr3,d_.snoc (d_.mono (fun i hi=>⟨hi.1.1,(ho3 i (by rw [aI];omega) hi.1.2).2⟩) (fun i hi a ha=>by rw [(ho3 i (by rw [aI];omega) hi.1.2).1,dB (by omega),x2.old i hi.2 (by omega)];exact ha) hea.below) ⟨_,_,rfl⟩ ?_⟩
 have hap:∀i,D≤i→apart A i:=fun i hi o g n z e=>by have:=hlt o g n z e;omega
 exact kK.mono (fun i hi=>⟨by omega,(ho3 i (by rw [aI];omega) (hap i hi.1)).2⟩) (fun i hi a ha=>by rw [(ho3 i (by rw [aI];omega) (hap i hi.1)).1];exact at_new ha _ _) EG.below
theorem zk.keep {B:Nat} {σ σ':St} {v:AV} {xs:List Fm} (h:zk B σ v xs)(k:∀(i:Nat) (a:AO),B≤i→σ[i]? =some a→σ'[i]? =some a):zk B σ' v xs:=by
 obtain⟨cs,h1,h2⟩:=h
 refine⟨cs,?_,h2.mono (fun i hi=>hi) (fun i hi a ha=>k i a hi.1 ha)⟩
 rcases h1 with h | ⟨o,g,q1,q2,q3,q4⟩
 ·exact .inl h
 ·exact .inr ⟨o,g,q1,q2,k o _ q1 q3,q4⟩
theorem PW.Cj {p w g m d:Nat} {all:List Tok} {σ σ':St} {f:AV} (h:PW p w g all σ m d f)(k:∀(i:Nat) (a:AO),σ[i]? =some a→(∀(g:Nat) (ro:Bool) (cs:List AV),a≠⟨g,ro,.cells 64 cs⟩)→σ'[i]? =some a):PW p w g all σ' m d f:=
 ⟨k _ _ h.obj (fun _ _ _ e=>by cases e),k _ _ h.tok (fun _ _ _ e=>by cases e),h.ne,h.len,h.at_,h.dp⟩
theorem PB.Cj {p d c l:Nat} {σ σ':St} (h:PB p σ d c l)(k:∀(i:Nat) (a:AO),σ[i]? =some a→(∀(g:Nat) (ro:Bool) (cs:List AV),a≠⟨g,ro,.cells 64 cs⟩)→σ'[i]? =some a):PB p σ' d c l:=by
 obtain⟨w,g,all,m,fo,fg,h1,h2,h3⟩:=h
 exact⟨w,g,all,m,fo,fg,h1.Cj k,h2,k _ _ h3 (fun _ _ _ e=>by cases e)⟩
def PFs (p w g:Nat)(all:List Tok)(B q:Nat)(σ:St)(acc:List Fm)(Q:Out→Env→St→Prop):Re (List Fm)→Prop
 | .ok xs ts=>∀A' σ' m' e',get e' 6= .p p 0 0→get e' 7= .p q 0 0→cu p q B σ σ'→PW p w g all σ' m' 0 .p0→all.drop m'= ts→σ'[q]? =some ⟨0,false,.cells 60 [A']⟩→zk B σ' A' (acc ++ xs)→Q (.exit 0) e' σ'
 | .bad c l=>∀e' σ',get e' 6= .p p 0 0→cu p q B σ σ'→PB p σ' 0 c l→Q (.exit 0) e' σ'
 | .out=>True
section
variable {p w g:Nat} {all:List Tok}
theorem GL {d c l q:Nat} {σ:St} {Q:Out→Env→St→Prop} (h:PB p σ d c l)(hq:∀e',get e' 6= .p p 0 0→Q (.exit 0) e' σ):aS X [6,7] LJ [(6,.p p 0 0),(7,.p q 0 0)] σ Q:=by
 refine aS.round aC (lit:=false) ?_
 conv=>whnf
 refine ay.to (nU h) ?_
 conv=>whnf
 exact hq _ rfl
theorem IQ (hno:yw all)(hnn:yB all)(hko:EN all):∀(n B q:Nat),(p<B∧w<B∧q<B)→q≠p→∀(acc:List Fm) (A:AV) (σ:St) (m:Nat) (Q:Out→Env→St→Prop),PW p w g all σ m 0 .p0→B≤σ.length→σ[q]? =some ⟨0,false,.cells 60 [A]⟩→zk B σ A acc→EndOk (all.drop m)→10*(all.drop m).length+11≤n→acc.length+(all.drop m).length≤40001→PFs p w g all B q σ acc Q (pFuncs n (all.drop m))→aS X [6,7] LJ [(6,.p p 0 0),(7,.p q 0 0)] σ Q
 | 0=>by intro B q _ _ acc A σ m Q _ _ _ _ _ h;omega
 | n+1=>by
   intro B q hlt hne acc A σ m Q h hB hq ha he hn hs hQ
   have Tj:=IQ hno hnn hko n
   obtain⟨t,r,hts⟩:=he.ne
   obtain⟨ht,hr⟩:=bJ hts
   have hlr:(all.drop m).length=r.length+1:=by rw [hts];rfl
   unfold pFuncs at hQ
   rw [hts] at hQ
   simp only at hQ
   have hsl:CS A:=by obtain⟨cs,hr,_⟩:=ha;exact hr.sl
   refine aS.round aC (lit:=false) ?_
   conv=>whnf
   refine ay.to (jk h) ?_
   conv=>whnf
   refine ay.to (h_ h ht) ?_
   conv=>whnf
   by_cases h5:t.k=5
   ·rw [if_pos h5] at hQ
    have hQ:PFs p w g all B q σ acc Q (.ok [] (t :: r)):=hQ
    rw [decide_eq_true (by omega)]
    conv=>whnf
    conv=>whnf
    exact hQ A σ m _ rfl rfl (.refl _ _ _ _) h hts hq (by rw [List.append_nil];exact ha)
   ·rw [if_neg h5,←hts] at hQ
    have hg:=gd_func n (all.drop m) he (by omega)
    rw [decide_eq_false (by omega)]
    conv=>whnf
    conv=>whnf
    rcases hsl with rfl | ⟨oo,gg,kk,rfl⟩
    all_goals
     refine ak (aj (T:=tq) rfl rfl (ah (hq)) rfl) ?_
     conv=>whnf
     refine GI (n:=n) hno hnn hko σ m _ h he (by omega) ?_
     generalize pFunc n (all.drop m)=r1 at hg hQ
     cases r1 with
     | out=>exact hg.elim
     | bad c l=>
       have hQ:PFs p w g all B q σ acc Q (.bad c l):=hQ
       intro o s2 y2 k2
       have cq:=y2.get hne hq
       have lx:=y2.len
       conv=>whnf
       refine⟨?_,?_⟩
       ·conv=>whnf
        refine ak (aj (T:=tq) rfl rfl (ah (cq)) rfl) ?_
        rfl
       conv=>whnf
       refine⟨?_,?_⟩
       ·conv=>whnf
        refine ak (aj (T:=tq) rfl rfl (ah (at_new cq _ _)) rfl) ?_
        rfl
       conv=>whnf
       refine ET (D:=s2.length) ha y2 hlt.1 hB (Nat.le_refl _) lx (by omega) o 0 fun o3 g3 k3 s3 e3 l3 kT kA=>?_
       have dq:s3[q]? =_:=(e3 q hlt.2.2).trans cq
       have jF:=k2.Cj kT
       conv=>whnf
       refine ak (aF (T:=tq) ([.sl o3 g3 0 k3 1]) rfl (dq) rfl rfl (Nat.le_of_ble_eq_true rfl) rfl) ?_
       conv=>whnf
       have k4:=jF.bF dq (by decide) (by decide) (by decide) ⟨0,false,.cells 60 [.sl o3 g3 0 k3 1]⟩
       have CU:cu p q B σ (s3.set q ⟨0,false,.cells 60 [.sl o3 g3 0 k3 1]⟩):=⟨by rw [List.length_set];omega,fun i hi kH hix=>by rw [List.getElem?_set_ne (fun e=>hix e.symm),e3 i hi,y2.old i (by omega) kH]⟩
       exact GL k4 fun e' e6=>hQ e' _ e6 CU k4
     | ok f ts1=>
       have hQ:PFs p w g all B q σ acc Q ((pFuncs n ts1).bind fun l ts=>.ok (f :: l) ts):=hQ
       intro o s2 m2 y2 k2 hm2 hf
       have cq:=y2.get hne hq
       have lx:=y2.len
       rw [←hm2] at hQ hg
       have hlt2:=hg.2.2
       conv=>whnf
       refine⟨?_,?_⟩
       ·conv=>whnf
        refine ak (aj (T:=tq) rfl rfl (ah (cq)) rfl) ?_
        rfl
       conv=>whnf
       refine⟨?_,?_⟩
       ·conv=>whnf
        refine ak (aj (T:=tq) rfl rfl (ah (at_new cq _ _)) rfl) ?_
        rfl
       conv=>whnf
       refine ET (D:=σ.length) ha y2 hlt.1 hB lx (Nat.le_refl _) (by omega) o 0 fun o3 g3 k3 s3 e3 l3 kT kA=>?_
       have dq:s3[q]? =_:=(e3 q hlt.2.2).trans cq
       have jF:=k2.Cj kT
       conv=>whnf
       refine ak (aF (T:=tq) ([.sl o3 g3 0 k3 1]) rfl (dq) rfl rfl (Nat.le_of_ble_eq_true rfl) rfl) ?_
       conv=>whnf
       have k4:=jF.bF dq (by decide) (by decide) ⟨0,false,.cells 60 [.sl o3 g3 0 k3 1]⟩
       have CU:cu p q B σ (s3.set q ⟨0,false,.cells 60 [.sl o3 g3 0 k3 1]⟩):=⟨by rw [List.length_set];omega,fun i hi kH hix=>by rw [List.getElem?_set_ne (fun e=>hix e.symm),e3 i hi,y2.old i (by omega) kH]⟩
       refine Tj B q hlt hne (acc ++ [f]) _ _ m2 Q k4 (by rw [List.length_set];omega) (at_set dq _) ((kA f hf).keep fun i a hi ha=>aN ha (by omega) _) hg.2.1 (by omega) (by rw [List.length_append];simp only [List.length_cons,List.length_nil];omega) ?_
       generalize pFuncs n (all.drop m2)=r2 at hQ
       cases r2 with
       | out=>trivial
       | bad c l=>exact fun e' s4 e6 x4=>hQ e' s4 e6 (CU.trans x4)
       | ok xs ts4=>exact fun A4 s4 m4 e' e6 e7 x4 h4 hm4 hq4 N8=>hQ A4 s4 m4 e' e6 e7 (CU.trans x4) h4 hm4 hq4 (by rw [List.append_assoc] at N8;exact N8)
end
end Go.Abs.YtlkfbfhkcaldlaaGreatDoor
namespace Go.Abs.YtlkfbfhkcaldlaaGreatDoor
open Go.Proofs
set_option maxRecDepth 4000
def jy (t:List UInt8):Re (List Fm):=match lexS t with
 | .bad e l=>.bad e l
 | .toks ts=>pFuncs (10*ts.length+11) ts
def lq (S:Nat→Prop)(σ:St)(v:AV)(fs:List Fm):Prop:=∃o A,S o∧v= .p o 0 0∧σ[o]? =some ⟨0,false,.cells 60 [A]⟩∧((fs=[]∧A= .sl0)∨∃o2 g2 cs,S o2∧A= .sl o2 g2 0 cs.length 1∧σ[o2]? =some ⟨g2,false,.cells 64 cs⟩∧d_ S σ cs fs∧cs≠[])
theorem zk.prog {B:Nat} {σ:St} {A:AV} {fs:List Fm} (h:zk B σ A fs) {o:Nat} (ho:B≤o)(hq:σ[o]? =some ⟨0,false,.cells 60 [A]⟩):lq (fun i=>B≤i) σ (.p o 0 0) fs:=by
 obtain⟨cs,h1,h2⟩:=h
 refine⟨o,A,ho,rfl,hq,?_⟩
 have h3:d_ (fun i=>B≤i) σ cs fs:=h2.mono (fun i hi=>hi.1) (fun i _ a ha=>ha)
 rcases h1 with ⟨rfl,rfl⟩ | ⟨o2,g2,q1,q2,q3,q4⟩
 ·refine .inl ⟨?_,rfl⟩
  cases fs with
  | nil=>rfl
  | cons _ _=>exact h3.elim
 ·exact .inr ⟨o2,g2,cs,q1,q2,q3,h3,q4⟩
theorem d_.at_ {S S':Nat→Prop} {σ σ':St} {cs:List AV} {xs:List Fm} (h1:∀o,S o→S' o)(h2:∀o,S o→∀a,σ[o]? =some a→σ'[o]? =some a)(h:d_ S σ cs xs):d_ S' σ' cs xs:=h.mono h1 h2
theorem lq.mono {S S':Nat→Prop} {σ σ':St} (h1:∀o,S o→S' o)(h2:∀o,S o→∀a,σ[o]? =some a→σ'[o]? =some a) {fs:List Fm} {v:AV} (h:lq S σ v fs):lq S' σ' v fs:=by
 obtain⟨o,A,a,b,c,d⟩:=h
 refine⟨o,A,h1 _ a,b,h2 _ a _ c,?_⟩
 rcases d with d | ⟨o2,g2,cs,e,f,g,i,j⟩
 ·exact .inl d
 ·exact .inr ⟨o2,g2,cs,h1 _ e,f,h2 _ e _ g,i.mono h1 h2,j⟩
def PPr (σ:St)(Q:AV→St→Prop):Re (List Fm)→Prop
 | .ok fs _=>∀o σ',Ext σ σ'→lq (fun i=>σ.length≤i) σ' (.p o 0 0) fs→Q (.tu [.p o 0 0,.eu]) σ'
 | .bad c l=>∀o g σ',Ext σ σ'→σ'[o]? =some ⟨g,false,.cells 25 [.i .i64 c,.i .i64 l]⟩→Q (.tu [.p0,.ic 86 (.p o g 0)]) σ'
 | .out=>True
theorem Cm (t:List UInt8)(σ:St)(hg:σ.take G0.length=G0)(Q:AV→St→Prop)(hQ:PPr σ Q (jy t)):ay X 10 [.s t] σ Q:=by
 unfold jy at hQ
 refine ay.body (F:=F10) aC (lit:=false) rfl rfl (Nat.le_of_ble_eq_true rfl) ?_
 conv=>whnf
 refine Q7 t σ hg _ (fun l out σ1 hl hlen x1 ho=>?_) (fun e l o σ1 hl x1 hol hf=>?_)
 ·rw [hl] at hQ
  obtain⟨he,hno,hnn,hko⟩:=IL hl
  have hQ:PPr σ Q (pFuncs (10*l.length+11) l):=hQ
  rcases ho with ⟨rfl,_⟩ | ⟨w,g,hw,rfl,htok⟩
  ·exact he.elim
  have lw:=bn htok
  conv=>whnf
  have b5:(au 88 (AV.ag [.sl w g 0 l.length 3,.i .i64 0,.p0]).cells σ1)[σ1.length]? =some ⟨0,false,.cells 88 [.sl w g 0 l.length 3,.i .i64 0,.p0]⟩:=aH _ _ _
  have x5:Ext σ1 (au 88 (AV.ag [.sl w g 0 l.length 3,.i .i64 0,.p0]).cells σ1):=(Ext.refl σ1).new _ _
  have l5:(au 88 (AV.ag [.sl w g 0 l.length 3,.i .i64 0,.p0]).cells σ1).length=σ1.length+1:=aI _ _ _
  generalize au 88 (AV.ag [.sl w g 0 l.length 3,.i .i64 0,.p0]).cells σ1=dL at b5 x5 l5 ⊢
  have b6:(au 60 (AV.ag [.sl0]).cells dL)[dL.length]? =some ⟨0,false,.cells 60 [.sl0]⟩:=aH _ _ _
  have x6:Ext dL (au 60 (AV.ag [.sl0]).cells dL):=(Ext.refl dL).new _ _
  have l6:(au 60 (AV.ag [.sl0]).cells dL).length=dL.length+1:=aI _ _ _
  generalize au 60 (AV.ag [.sl0]).cells dL=jY at b6 x6 l6 ⊢
  have lx:=x1.len
  have hlp:=bn b5
  have hpos:0<l.length:=by obtain⟨t0,r0,e0⟩:=he.ne;rw [e0];exact Nat.succ_pos _
  have k6:PW σ1.length w g l jY 0 0 .p0:=⟨by rw [x6.get b5];rfl,x6.get (x5.get htok),by omega,by omega,hpos,by omega⟩
  have hge:∀σ',cu σ1.length dL.length jY.length jY σ'→Ext σ σ':=fun σ' y=>by
   refine⟨by have:=y.len;omega,fun i hi=>?_⟩
   rw [y.old i (by omega) (by omega) (by omega),x6.old i (by omega),x5.old i (by omega),x1.old i hi]
  refine IQ hno hnn hko (10*l.length+11) jY.length dL.length ⟨by omega,by omega,by omega⟩ (by omega) [] .sl0 jY 0 _ k6 (Nat.le_refl _) b6 ⟨[],.inl ⟨rfl,rfl⟩,trivial⟩ (by rw [List.drop_zero];exact he) (by rw [List.drop_zero];exact Nat.le_refl _) (by rw [List.drop_zero];simp only [List.length_nil];omega) ?_
  rw [List.drop_zero]
  have hg:=gd_funcs (10*l.length+11) l he (Nat.le_refl _)
  generalize pFuncs (10*l.length+11) l=r1 at hg hQ
  cases r1 with
  | out=>exact hg.elim
  | bad c l'=>
    intro e' qx e6 y7 k7
    conv=>whnf
    rw [show cZ.ev e' (.t 6)=get e' 6 from rfl,e6]
    conv=>whnf
    refine ay.to (nU k7) ?_
    conv=>whnf
    have h6:get (put (some 42) (.b true) (put (some 41) (.p σ1.length 0 0) e')) 6= .p σ1.length 0 0:=e6
    erw [h6]
    conv=>whnf
    obtain⟨w2,g2,all2,m2,fo,fg,j1,j2,j3⟩:=k7
    refine ak (aj (T:=MH) rfl rfl (ah (j1.obj)) rfl) ?_
    conv=>whnf
    exact Fin.ref rfl (hQ _ _ _ (hge _ y7) j3)
  | ok fs ts=>
    intro A qx m7 e' e6 e7 y7 k7 hm7 hq7 ha7
    conv=>whnf
    rw [show cZ.ev e' (.t 6)=get e' 6 from rfl,e6]
    conv=>whnf
    refine ay.to (jk k7) ?_
    conv=>whnf
    have h7:get (put (some 42) (.b false) (put (some 41) (.p σ1.length 0 0) e')) 7= .p dL.length 0 0:=e7
    erw [h7]
    conv=>whnf
    refine Fin.ref rfl (hQ _ _ (hge _ y7) ?_)
    have hA:zk jY.length qx A fs:=ha7
    obtain⟨cs,q1,q2⟩:=hA
    have q3:d_ (fun i=>σ.length≤i) qx cs fs:=q2.mono (fun i hi=>by omega) (fun i _ a ha=>ha)
    refine⟨dL.length,A,by omega,rfl,hq7,?_⟩
    rcases q1 with ⟨rfl,rfl⟩ | ⟨o2,g2,p1,p2,p3,p4⟩
    ·refine .inl ⟨?_,rfl⟩
     cases fs with
     | nil=>rfl
     | cons _ _=>exact q3.elim
    ·exact .inr ⟨o2,g2,cs,by omega,p2,p3,q3,p4⟩
 ·rw [hl] at hQ
  have hQ:PPr σ Q (.bad e l):=hQ
  conv=>whnf
  exact Fin.ref rfl (hQ _ _ _ x1 hf)
end Go.Abs.YtlkfbfhkcaldlaaGreatDoor
