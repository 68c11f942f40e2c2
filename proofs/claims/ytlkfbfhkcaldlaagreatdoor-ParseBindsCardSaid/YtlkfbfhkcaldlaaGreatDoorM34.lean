/- Texts of this claim, joined: Uj, Uk. -/
import Derived.Test.YtlkfbfhkcaldlaaGreatDoorM33
import Derived.Test.YtlkfbfhkcaldlaaGreatDoorM26
import Derived.Test.YtlkfbfhkcaldlaaGreatDoorM30
set_option linter.unusedVariables false
set_option linter.unusedSimpArgs false
namespace Go.Abs.YtlkfbfhkcaldlaaGreatDoor
open Go.Proofs
set_option maxRecDepth 4000
@[reducible] def parX (o ox:Nat) (oa ga n:Nat):Env:=put (some 24) (.b false) [(0,.p o 0 0),(1,.p ox 0 0),(21,.sl oa ga 0 n 2),(22,.i .i64 n),(23,.i .i64 n)]
theorem txPar (nm:List UInt8)(p:Bool)(r:List (List UInt8×Bool))(b:Bool):bn (rX ((nm,p) :: r) b)=(if b=true then [] else [44,32]) ++ nm ++ (if p=true then [32,112,116,114] else []) ++ bn (rX r false):=by
 cases b <;> cases p <;> simp [rX,aS,bn,dA]
theorem Fg:∀(ps:List (List UInt8×Bool)),(∀p∈ps,Good 1 p.1)→∀b,ps.length≤(bn (rX ps b)).length
 | [],_,_=>Nat.zero_le _
 | (nm,p) :: r,h,b=>by
   have ih:=Fg r (fun q hq=>h q (List.mem_cons_of_mem _ hq)) false
   obtain⟨c,y,hc,_⟩:=uT (h (nm,p) (List.mem_cons_self ..)) (.inl rfl)
   simp only at hc
   rw [txPar,hc]
   simp only [bM,bg];omega
section
variable {o A d:Nat} {bb:Bool}
theorem Ic (dw:o<A) {S:Nat→Prop} (hS:∀i,S i→i<A∧i≠o) {oa ga ox:Nat} {ps:List (List UInt8×Bool)} (hoa:S oa)(hcl:ps.length≤1000000000):∀(k m:Nat) (σ:St) (l:List UInt8),m+k=ps.length→
 σ[oa]? =some ⟨ga,false,.cells 71 (pq ps)⟩→bY A o σ l d bb→A≤σ.length→l.length+(bn (rX (ps.drop m) (m == 0))).length≤1000000000→∀{Q:Out→Env→St→Prop},
 (∀σ',bY A o σ' (l ++ bn (rX (ps.drop m) (m == 0))) d bb→jg A o σ σ'→Q (.exit 0) (parX o ox oa ga ps.length) σ')→aV X [0,1,21,22,23] TY [(0,.p o 0 0),(1,.p ox 0 0),(21,.sl oa ga 0 ps.length 2),(22,.i .i64 ps.length),(23,.i .i64 m)] σ Q:=by
 intro k
 induction k with
 | zero=>
   intro m σ l hm _ hb _ _ Q q
   obtain rfl:m=ps.length:=by omega
   rw [List.drop_length] at q
   refine aV.round ay (lit:=false) ?_
   conv=>whnf
   rw [decide_eq_false (by omega)]
   conv=>whnf
   conv=>whnf
   exact q σ (by simpa [rX,bn] using hb) (.refl _ _ _)
 | succ k ih=>
   intro m σ l hm hc hb hA hl Q q
   have hxo:=hS oa hoa
   obtain⟨⟨nm,pt⟩,hp⟩:∃p,ps[m]? =some p:=⟨_,sN (by omega)⟩
   have hdr:ps.drop m=(nm,pt) :: ps.drop (m+1):=by
    rw [List.drop_eq_getElem_cons (by omega),(List.getElem?_eq_some_iff.1 hp).2]
   rw [hdr,txPar] at hl q
   simp only [bM] at hl
   have hpl:=qK ps
   have hag:((pq ps).drop (0+m*2)).take (gG).size=[.s nm,.b pt]:=by rw [Nat.zero_add];exact vU ps m _ hp
   have rest:∀(σ3:St),bY A o σ3 (l ++ ((if(m == 0)=true then [] else [44,32]) ++ nm ++ (if pt=true then [32,112,116,114] else []))) d bb→jg A o σ σ3→aV X [0,1,21,22,23] TY [(0,.p o 0 0),(1,.p ox 0 0),(21,.sl oa ga 0 ps.length 2),(22,.i .i64 ps.length),(23,.i .i64 ((m+1:Nat):Int))] σ3 Q:=by
    intro σ3 h3 k3
    have:=k3.len
    refine ih (m+1) σ3 _ (by omega) ((k3.low oa hxo.1 hxo.2).trans hc) h3 (by omega) ?_ fun dF h4 k4=>?_
    ·rw [show (m+1 == 0)=false from rfl];simp only [bM];omega
    ·rw [show (m+1 == 0)=false from rfl] at h4
     exact q dF (by simpa [iC] using h4) (k3.trans k4)
   have named:∀(σ2 σ1:St) (l1:List UInt8),bY A o σ1 l1 d bb→jg A o σ σ1→l1=l ++ (if(m == 0)=true then [] else [44,32])→∀{Q2:AV→St→Prop},(∀σ3,bY A o σ3 (l1 ++ nm) d bb→jg A o σ σ3→jg A o σ1 σ3→Q2 (.tu []) σ3)→
        au X 44 [.p o 0 0,.sl σ1.length 0 0 1 1] (newCells 9 [.s nm] σ1) Q2:=by
    intro _ σ1 l1 h1 k1 e1 Q2 q2
    have:=k1.len
    exact bG [nm] h1 dw (by omega) (by simp) (by rw [e1];simp only [bM,List.flatten_cons,List.flatten_nil,bZ];omega) fun σ3 h3 k3=>q2 σ3 (by simpa using h3) (k1.trans k3) k3
   have box:∀(σ1:St),Ext σ σ1→jg A o σ σ1∧bY A o σ1 l d bb:=by
    intro σ1 x
    refine⟨⟨x.len,fun i hi _=>x.old i (by omega),fun i a ha _ _=>x.get ha⟩,?_⟩
    obtain⟨b0,buf,j1,j2,j3,j4⟩:=hb
    exact⟨b0,buf,x.get j1,j2,j3,j4.same fun o' g' n z e=>by
        rcases j4 with ⟨_,e1⟩ | ⟨o1,g1,_,e1,j5⟩
        ·rw [e1] at e;cases e
        ·rw [e1] at e;cases e;exact x.old _ (bK j5)⟩
   have hoo:∀{σ1:St},Ext σ σ1→σ1.length=σ.length+1→σ.length≠o:=fun _ _=>by omega
   cases m with
   | zero=>
     cases pt with
     | true=>
       refine aV.round ay (lit:=false) ?_
       conv=>whnf
       rw [decide_eq_true (by omega)]
       conv=>whnf
       conv=>whnf
       refine⟨0,rfl,by omega,?_⟩
       conv=>whnf
       refine ak (gU (T:=gG) rfl rfl (ah hc) (by rw [hpl];show 0+0*2+2≤_;omega)) ?_
       rw [hag]
       conv=>whnf
       refine ak (aC (T:=gG) ([.s nm,.b true]) rfl (aG _ _ _) rfl rfl (aU rfl) rfl) ?_
       have x5:Ext σ ((newCells 71 gG.zero.cells σ).set σ.length ⟨0,false,.cells 71 [.s nm,.b true]⟩):=((Ext.refl σ).new _ _).set (Nat.le_refl _) _
       have b5:((newCells 71 gG.zero.cells σ).set σ.length ⟨0,false,.cells 71 [.s nm,.b true]⟩)[σ.length]? =_:=at_set (aG _ _ _) _
       have l5:((newCells 71 gG.zero.cells σ).set σ.length ⟨0,false,.cells 71 [.s nm,.b true]⟩).length=σ.length+1:=by rw [gK,aH]
       generalize (newCells 71 gG.zero.cells σ).set σ.length ⟨0,false,.cells 71 [.s nm,.b true]⟩=fC at b5 x5 l5 ⊢
       conv=>whnf
       obtain⟨kb,hb5⟩:=box fC x5
       refine ak (aj (T:=fB) rfl rfl (ah (b5)) rfl) ?_
       conv=>whnf
       refine named fC fC l hb5 kb (by simp) fun σ3 h3 k3 k35=>?_
       have b3:σ3[σ.length]? =_:=k35.Sv _ _ b5 (by omega) (by intro _ _ _ e;cases e)
       conv=>whnf
       refine ak (aj (T:=xH) rfl rfl (ah (b3)) rfl) ?_
       conv=>whnf
       refine bG [[32,112,116,114]] h3 dw (by have:=k3.len;omega) (by simp) (by simp at hl ⊢;omega) fun dF h4 k4=>?_
       conv=>whnf
       refine⟨((0+1:Nat):Int),wrap_i64 (by omega) (by omega),?_⟩
       conv=>whnf
       exact rest dF (by simpa [iC] using h4) (k3.trans k4)
     | false=>
       refine aV.round ay (lit:=false) ?_
       conv=>whnf
       rw [decide_eq_true (by omega)]
       conv=>whnf
       conv=>whnf
       refine⟨0,rfl,by omega,?_⟩
       conv=>whnf
       refine ak (gU (T:=gG) rfl rfl (ah hc) (by rw [hpl];show 0+0*2+2≤_;omega)) ?_
       rw [hag]
       conv=>whnf
       refine ak (aC (T:=gG) ([.s nm,.b false]) rfl (aG _ _ _) rfl rfl (aU rfl) rfl) ?_
       have x5:Ext σ ((newCells 71 gG.zero.cells σ).set σ.length ⟨0,false,.cells 71 [.s nm,.b false]⟩):=((Ext.refl σ).new _ _).set (Nat.le_refl _) _
       have b5:((newCells 71 gG.zero.cells σ).set σ.length ⟨0,false,.cells 71 [.s nm,.b false]⟩)[σ.length]? =_:=at_set (aG _ _ _) _
       have l5:((newCells 71 gG.zero.cells σ).set σ.length ⟨0,false,.cells 71 [.s nm,.b false]⟩).length=σ.length+1:=by rw [gK,aH]
       generalize (newCells 71 gG.zero.cells σ).set σ.length ⟨0,false,.cells 71 [.s nm,.b false]⟩=fC at b5 x5 l5 ⊢
       conv=>whnf
       obtain⟨kb,hb5⟩:=box fC x5
       refine ak (aj (T:=fB) rfl rfl (ah (b5)) rfl) ?_
       conv=>whnf
       refine named fC fC l hb5 kb (by simp) fun σ3 h3 k3 k35=>?_
       have b3:σ3[σ.length]? =_:=k35.Sv _ _ b5 (by omega) (by intro _ _ _ e;cases e)
       conv=>whnf
       refine ak (aj (T:=xH) rfl rfl (ah (b3)) rfl) ?_
       conv=>whnf
       refine⟨((0+1:Nat):Int),wrap_i64 (by omega) (by omega),?_⟩
       conv=>whnf
       exact rest σ3 (by simpa [iC] using h3) k3
   | succ m=>
     have comma:∀(fC:St),bY A o fC l d bb→jg A o σ fC→∀{Q2:AV→St→Prop},(∀σ1,bY A o σ1 (l ++ [44,32]) d bb→jg A o σ σ1→jg A o fC σ1→Q2 (.tu []) σ1)→au X 44 [.p o 0 0,.sl fC.length 0 0 1 1] (newCells 9 [.s [44,32]] fC) Q2:=by
        intro fC h5 k5 Q2 q2
        have:=k5.len
        exact bG [[44,32]] h5 dw (by omega) (by simp) (by simp at hl ⊢;omega) fun σ1 h1 k1=>q2 σ1 (by simpa using h1) (k5.trans k1) k1
     cases pt with
     | true=>
       refine aV.round ay (lit:=false) ?_
       conv=>whnf
       rw [decide_eq_true (by omega)]
       conv=>whnf
       conv=>whnf
       refine⟨m+1,rfl,by omega,?_⟩
       conv=>whnf
       refine ak (gU (T:=gG) rfl rfl (ah hc) (by rw [hpl];show 0+(m+1)*2+2≤_;omega)) ?_
       rw [hag]
       conv=>whnf
       refine ak (aC (T:=gG) ([.s nm,.b true]) rfl (aG _ _ _) rfl rfl (aU rfl) rfl) ?_
       have x5:Ext σ ((newCells 71 gG.zero.cells σ).set σ.length ⟨0,false,.cells 71 [.s nm,.b true]⟩):=((Ext.refl σ).new _ _).set (Nat.le_refl _) _
       have b5:((newCells 71 gG.zero.cells σ).set σ.length ⟨0,false,.cells 71 [.s nm,.b true]⟩)[σ.length]? =_:=at_set (aG _ _ _) _
       have l5:((newCells 71 gG.zero.cells σ).set σ.length ⟨0,false,.cells 71 [.s nm,.b true]⟩).length=σ.length+1:=by rw [gK,aH]
       generalize (newCells 71 gG.zero.cells σ).set σ.length ⟨0,false,.cells 71 [.s nm,.b true]⟩=fC at b5 x5 l5 ⊢
       conv=>whnf
       obtain⟨kb,hb5⟩:=box fC x5
       rw [decide_eq_true (show (0:Int)<((m+1:Nat):Int) by omega)]
       conv=>whnf
       refine comma fC hb5 kb fun σ1 h1 k1 k51=>?_
       have b1:σ1[σ.length]? =_:=k51.Sv _ _ b5 (by omega) (by intro _ _ _ e;cases e)
       conv=>whnf
       refine ak (aj (T:=fB) rfl rfl (ah (b1)) rfl) ?_
       conv=>whnf
       refine named σ1 σ1 _ h1 k1 (by simp) fun σ3 h3 k3 k35=>?_
       have b3:σ3[σ.length]? =_:=k35.Sv _ _ b1 (by omega) (by intro _ _ _ e;cases e)
       conv=>whnf
       refine ak (aj (T:=xH) rfl rfl (ah (b3)) rfl) ?_
       conv=>whnf
       refine bG [[32,112,116,114]] h3 dw (by have:=k3.len;omega) (by simp) (by simp at hl ⊢;omega) fun dF h4 k4=>?_
       conv=>whnf
       refine⟨((m+1+1:Nat):Int),wrap_i64 (by omega) (by omega),?_⟩
       conv=>whnf
       exact rest dF (by simpa [iC] using h4) (k3.trans k4)
     | false=>
       refine aV.round ay (lit:=false) ?_
       conv=>whnf
       rw [decide_eq_true (by omega)]
       conv=>whnf
       conv=>whnf
       refine⟨m+1,rfl,by omega,?_⟩
       conv=>whnf
       refine ak (gU (T:=gG) rfl rfl (ah hc) (by rw [hpl];show 0+(m+1)*2+2≤_;omega)) ?_
       rw [hag]
       conv=>whnf
       refine ak (aC (T:=gG) ([.s nm,.b false]) rfl (aG _ _ _) rfl rfl (aU rfl) rfl) ?_
       have x5:Ext σ ((newCells 71 gG.zero.cells σ).set σ.length ⟨0,false,.cells 71 [.s nm,.b false]⟩):=((Ext.refl σ).new _ _).set (Nat.le_refl _) _
       have b5:((newCells 71 gG.zero.cells σ).set σ.length ⟨0,false,.cells 71 [.s nm,.b false]⟩)[σ.length]? =_:=at_set (aG _ _ _) _
       have l5:((newCells 71 gG.zero.cells σ).set σ.length ⟨0,false,.cells 71 [.s nm,.b false]⟩).length=σ.length+1:=by rw [gK,aH]
       generalize (newCells 71 gG.zero.cells σ).set σ.length ⟨0,false,.cells 71 [.s nm,.b false]⟩=fC at b5 x5 l5 ⊢
       conv=>whnf
       obtain⟨kb,hb5⟩:=box fC x5
       rw [decide_eq_true (show (0:Int)<((m+1:Nat):Int) by omega)]
       conv=>whnf
       refine comma fC hb5 kb fun σ1 h1 k1 k51=>?_
       have b1:σ1[σ.length]? =_:=k51.Sv _ _ b5 (by omega) (by intro _ _ _ e;cases e)
       conv=>whnf
       refine ak (aj (T:=fB) rfl rfl (ah (b1)) rfl) ?_
       conv=>whnf
       refine named σ1 σ1 _ h1 k1 (by simp) fun σ3 h3 k3 k35=>?_
       have b3:σ3[σ.length]? =_:=k35.Sv _ _ b1 (by omega) (by intro _ _ _ e;cases e)
       conv=>whnf
       refine ak (aj (T:=xH) rfl rfl (ah (b3)) rfl) ?_
       conv=>whnf
       refine⟨((m+1+1:Nat):Int),wrap_i64 (by omega) (by omega),?_⟩
       conv=>whnf
       exact rest σ3 (by simpa [iC] using h3) k3
end
end Go.Abs.YtlkfbfhkcaldlaaGreatDoor
namespace Go.Abs.YtlkfbfhkcaldlaaGreatDoor
open Go.Proofs
set_option maxRecDepth 4000
theorem txF (f:Fm):bn (Nq f)=[102,117,110,99,32] ++ f.name ++ [40] ++ bn (rX f.params true) ++ [41] ++ (if f.ptr=true then [32,112,116,114] else []) ++ Fp f.body 0 ++ [10]:=by
 by_cases h:f.ptr=true <;> simp [Nq,Fp,aS,bn,h,pV,dA]
section
variable {o A:Nat} {bb:Bool}
theorem M_ (dw:o<A)(hG:10≤A∧10≤o) {f:Fm} (hf:Qq f) {S:Nat→Prop} {σ:St} {v:AV} {l:List UInt8} (hS:∀i,S i→i<A∧i≠o)(hv:pz S σ v f)(hb:bY A o σ l 0 bb)(hA:A≤σ.length)(hT:iV σ=true)(hl:l.length+(bn (Nq f)).length≤1000000000) {Q:AV→St→Prop}
 (q:∀σ',bY A o σ' (l ++ bn (Nq f)) 0 bb→jg A o σ σ'→Q (.tu []) σ'):au X 20 [.p o 0 0,v] σ Q:=by
 obtain⟨ox,Ap,Bd,hs,rfl,hx,hP,hB⟩:=hv
 obtain⟨nm,ps,pt,body,ln⟩:=f
 have hps:=hf.ps
 have hbody:=hf.body
 have hdeep:=hf.deep
 simp only at hps hbody hdeep hP hB
 rw [txF] at hl q
 simp only at hl q hx
 simp only [bM,bg,bZ] at hl
 have hxo:=hS ox hs
 have hbl:=oV (bb:=bb) dw hG body hbody
 have tail:∀(σ3:St),bY A o σ3 (l ++ [102,117,110,99,32] ++ nm ++ [40] ++ bn (rX ps true) ++ [41] ++ (if pt=true then [32,112,116,114] else [])) 0 bb→jg A o σ σ3→∀{Q2:AV→St→Prop},(∀dF,bY A o dF (l ++ [102,117,110,99,32] ++ nm ++ [40] ++ bn (rX ps true) ++ [41] ++ (if pt=true then [32,112,116,114] else []) ++ Fp body 0) 0 bb→jg A o σ dF→Q2 (.tu []) dF)→
  au X 45 [.p o 0 0,Bd] σ3 Q2:=by
  intro σ3 h3 k3 Q2 q2
  have:=k3.len
  exact AZ dw hG hS hbl (by omega) (hB.kept hS k3) h3 (by omega) (k3.tab hG hT) (by simp only [bM,bg,bZ];omega) fun dF h4 k4=>q2 dF h4 (k3.trans k4)
 have last:∀(dF:St),bY A o dF (l ++ [102,117,110,99,32] ++ nm ++ [40] ++ bn (rX ps true) ++ [41] ++ (if pt=true then [32,112,116,114] else []) ++ Fp body 0) 0 bb→jg A o σ dF→∀{Q2:AV→St→Prop},(∀fC,bY A o fC (l ++ ([102,117,110,99,32] ++ nm ++ [40] ++ bn (rX ps true) ++ [41] ++ (if pt=true then [32,112,116,114] else []) ++ Fp body 0 ++ [10])) 0 bb→jg A o σ fC→Q2 (.tu []) fC)→
  au X 44 [.p o 0 0,.sl dF.length 0 0 1 1] (newCells 9 [.s [10]] dF) Q2:=by
  intro dF h4 k4 Q2 q2
  have:=k4.len
  exact bG [[10]] h4 dw (by omega) (by simp) (by simp only [bM,List.flatten_cons,List.flatten_nil,bg,bZ];omega) fun fC h5 k5=>q2 fC (by simpa [iC] using h5) (k4.trans k5)
 have shut:∀(σ2:St),bY A o σ2 (l ++ [102,117,110,99,32] ++ nm ++ [40] ++ bn (rX ps true)) 0 bb→jg A o σ σ2→∀{Q2:AV→St→Prop},(∀σ3,bY A o σ3 (l ++ [102,117,110,99,32] ++ nm ++ [40] ++ bn (rX ps true) ++ [41]) 0 bb→jg A o σ σ3→Q2 (.tu []) σ3)→
  au X 44 [.p o 0 0,.sl σ2.length 0 0 1 1] (newCells 9 [.s [41]] σ2) Q2:=by
  intro σ2 h2 k2 Q2 q2
  have:=k2.len
  exact bG [[41]] h2 dw (by omega) (by simp) (by simp only [bM,List.flatten_cons,List.flatten_nil,bg,bZ];omega) fun σ3 h3 k3=>q2 σ3 (by simpa [iC] using h3) (k2.trans k3)
 have ptr:pt=true→∀(σ3:St),bY A o σ3 (l ++ [102,117,110,99,32] ++ nm ++ [40] ++ bn (rX ps true) ++ [41]) 0 bb→jg A o σ σ3→∀{Q2:AV→St→Prop},(∀dF,bY A o dF (l ++ [102,117,110,99,32] ++ nm ++ [40] ++ bn (rX ps true) ++ [41] ++ (if pt=true then [32,112,116,114] else [])) 0 bb→jg A o σ dF→Q2 (.tu []) dF)→
  au X 44 [.p o 0 0,.sl σ3.length 0 0 1 1] (newCells 9 [.s [32,112,116,114]] σ3) Q2:=by
  intro hpt σ3 h3 k3 Q2 q2
  subst hpt
  have:=k3.len
  simp only [if_true,bg,bZ] at hl
  exact bG [[32,112,116,114]] h3 dw (by omega) (by simp) (by simp only [bM,List.flatten_cons,List.flatten_nil,bg,bZ];omega) fun dF h4 k4=>q2 dF (by simpa [iC] using h4) (k3.trans k4)
 have open_:∀{Q2:AV→St→Prop},(∀σ1,bY A o σ1 (l ++ [102,117,110,99,32] ++ nm ++ [40]) 0 bb→jg A o σ σ1→Q2 (.tu []) σ1)→au X 44 [.p o 0 0,.sl σ.length 0 0 3 1] (newCells 9 [.s [102,117,110,99,32],.s nm,.s [40]] σ) Q2:=by
  intro Q2 q2
  exact bG [[102,117,110,99,32],nm,[40]] hb dw hA (by simp) (by simp only [bM,List.flatten_cons,List.flatten_nil,bg,bZ];omega) fun σ1 h1 k1=>q2 σ1 (by simpa [iC] using h1) k1
 have hfin:∀(fC:St),bY A o fC (l ++ ([102,117,110,99,32] ++ nm ++ [40] ++ bn (rX ps true) ++ [41] ++ (if pt=true then [32,112,116,114] else []) ++ Fp body 0 ++ [10])) 0 bb→jg A o σ fC→Fin σ (.tu []) fC Q:=fun fC h5 k5=>hb.fin h5 k5 q
 have nop:pt=false→∀(σ3:St),bY A o σ3 (l ++ [102,117,110,99,32] ++ nm ++ [40] ++ bn (rX ps true) ++ [41]) 0 bb→bY A o σ3 (l ++ [102,117,110,99,32] ++ nm ++ [40] ++ bn (rX ps true) ++ [41] ++ (if pt=true then [32,112,116,114] else [])) 0 bb:=by
  intro hpt σ3 h3;subst hpt;simpa using h3
 clear q hb
 rcases hP with ⟨hpe,rfl⟩ | ⟨oa,ga,hoa,rfl,hc⟩
 ·have he:bn (rX ps true)=[]:=by rw [hpe];rfl
  cases pt with
  | true=>
    refine au.body (F:=F20) ay (lit:=false) rfl rfl (aU rfl) ?_
    conv=>whnf
    refine ak (aj (T:=fB) rfl rfl (ah (hx)) rfl) ?_
    conv=>whnf
    refine open_ fun σ1 h1 k1=>?_
    have hx1:σ1[ox]? =_:=(k1.low ox hxo.1 hxo.2).trans hx
    conv=>whnf
    refine ak (aj (T:=qE) rfl rfl (ah (hx1)) rfl) ?_
    conv=>whnf
    refine aV.round ay (lit:=false) ?_
    conv=>whnf
    refine shut σ1 (by rw [he,List.append_nil];exact h1) k1 fun σ3 h3 k3=>?_
    have hx3:σ3[ox]? =_:=(k3.low ox hxo.1 hxo.2).trans hx
    conv=>whnf
    refine ak (aj (T:=xH) rfl rfl (ah (hx3)) rfl) ?_
    conv=>whnf
    refine ptr rfl σ3 h3 k3 fun dF h4 k4=>?_
    have hx4:dF[ox]? =_:=(k4.low ox hxo.1 hxo.2).trans hx
    conv=>whnf
    refine ak (aj (T:=dL) rfl rfl (ah hx4) rfl) ?_
    refine dJ _ _ ?_
    refine dV _ _ ?_
    refine tail dF h4 k4 fun fC h5 k5=>?_
    conv=>whnf
    refine last fC h5 k5 fun oG h6 k6=>?_
    conv=>whnf
    exact hfin oG h6 k6
  | false=>
    refine au.body (F:=F20) ay (lit:=false) rfl rfl (aU rfl) ?_
    conv=>whnf
    refine ak (aj (T:=fB) rfl rfl (ah (hx)) rfl) ?_
    conv=>whnf
    refine open_ fun σ1 h1 k1=>?_
    have hx1:σ1[ox]? =_:=(k1.low ox hxo.1 hxo.2).trans hx
    conv=>whnf
    refine ak (aj (T:=qE) rfl rfl (ah (hx1)) rfl) ?_
    conv=>whnf
    refine aV.round ay (lit:=false) ?_
    conv=>whnf
    refine shut σ1 (by rw [he,List.append_nil];exact h1) k1 fun σ3 h3 k3=>?_
    have hx3:σ3[ox]? =_:=(k3.low ox hxo.1 hxo.2).trans hx
    conv=>whnf
    refine ak (aj (T:=xH) rfl rfl (ah (hx3)) rfl) ?_
    conv=>whnf
    refine ak (aj (T:=dL) rfl rfl (ah hx3) rfl) ?_
    refine dJ _ _ ?_
    refine dV _ _ ?_
    refine tail σ3 (nop rfl σ3 h3) k3 fun fC h5 k5=>?_
    conv=>whnf
    refine last fC h5 k5 fun oG h6 k6=>?_
    conv=>whnf
    exact hfin oG h6 k6
 ·have hao:=hS oa hoa
  cases pt with
  | true=>
    refine au.body (F:=F20) ay (lit:=false) rfl rfl (aU rfl) ?_
    conv=>whnf
    refine ak (aj (T:=fB) rfl rfl (ah (hx)) rfl) ?_
    conv=>whnf
    refine open_ fun σ1 h1 k1=>?_
    have l1:=k1.len
    have hx1:σ1[ox]? =_:=(k1.low ox hxo.1 hxo.2).trans hx
    conv=>whnf
    refine ak (aj (T:=qE) rfl rfl (ah (hx1)) rfl) ?_
    conv=>whnf
    refine Ic dw hS (ox:=ox) hoa (by have:=Fg ps hps true;omega) ps.length 0 σ1 _ (by omega) ((k1.low oa hao.1 hao.2).trans hc) h1 (by omega) (by rw [List.drop_zero,show (0 == 0)=true from rfl];simp only [bM,bg,bZ];omega) fun σ2 h2 k2'=>?_
    rw [List.drop_zero,show (0 == 0)=true from rfl] at h2
    have k2:=k1.trans k2'
    conv=>whnf
    refine shut σ2 h2 k2 fun σ3 h3 k3=>?_
    have hx3:σ3[ox]? =_:=(k3.low ox hxo.1 hxo.2).trans hx
    conv=>whnf
    refine ak (aj (T:=xH) rfl rfl (ah (hx3)) rfl) ?_
    conv=>whnf
    refine ptr rfl σ3 h3 k3 fun dF h4 k4=>?_
    have hx4:dF[ox]? =_:=(k4.low ox hxo.1 hxo.2).trans hx
    conv=>whnf
    refine ak (aj (T:=dL) rfl rfl (ah hx4) rfl) ?_
    refine dJ _ _ ?_
    refine dV _ _ ?_
    refine tail dF h4 k4 fun fC h5 k5=>?_
    conv=>whnf
    refine last fC h5 k5 fun oG h6 k6=>?_
    conv=>whnf
    exact hfin oG h6 k6
  | false=>
    refine au.body (F:=F20) ay (lit:=false) rfl rfl (aU rfl) ?_
    conv=>whnf
    refine ak (aj (T:=fB) rfl rfl (ah (hx)) rfl) ?_
    conv=>whnf
    refine open_ fun σ1 h1 k1=>?_
    have l1:=k1.len
    have hx1:σ1[ox]? =_:=(k1.low ox hxo.1 hxo.2).trans hx
    conv=>whnf
    refine ak (aj (T:=qE) rfl rfl (ah (hx1)) rfl) ?_
    conv=>whnf
    refine Ic dw hS (ox:=ox) hoa (by have:=Fg ps hps true;omega) ps.length 0 σ1 _ (by omega) ((k1.low oa hao.1 hao.2).trans hc) h1 (by omega) (by rw [List.drop_zero,show (0 == 0)=true from rfl];simp only [bM,bg,bZ];omega) fun σ2 h2 k2'=>?_
    rw [List.drop_zero,show (0 == 0)=true from rfl] at h2
    have k2:=k1.trans k2'
    conv=>whnf
    refine shut σ2 h2 k2 fun σ3 h3 k3=>?_
    have hx3:σ3[ox]? =_:=(k3.low ox hxo.1 hxo.2).trans hx
    conv=>whnf
    refine ak (aj (T:=xH) rfl rfl (ah (hx3)) rfl) ?_
    conv=>whnf
    refine ak (aj (T:=dL) rfl rfl (ah hx3) rfl) ?_
    refine dJ _ _ ?_
    refine dV _ _ ?_
    refine tail σ3 (nop rfl σ3 h3) k3 fun fC h5 k5=>?_
    conv=>whnf
    refine last fC h5 k5 fun oG h6 k6=>?_
    conv=>whnf
    exact hfin oG h6 k6
end
end Go.Abs.YtlkfbfhkcaldlaaGreatDoor
