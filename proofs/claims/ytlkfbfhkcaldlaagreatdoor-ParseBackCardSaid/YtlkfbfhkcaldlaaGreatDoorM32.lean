/- Texts of this claim, joined: Uj, Uk. -/
import Derived.Test.YtlkfbfhkcaldlaaGreatDoorM31
import Derived.Test.YtlkfbfhkcaldlaaGreatDoorM24
import Derived.Test.YtlkfbfhkcaldlaaGreatDoorM28
set_option linter.unusedVariables false
set_option linter.unusedSimpArgs false
namespace Go.Abs.YtlkfbfhkcaldlaaGreatDoor
open Go.Proofs
set_option maxRecDepth 4000
@[reducible] def parX (o ox:Nat) (oa ga n:Nat):Env:=put (some 24) (.b false) [(0,.p o 0 0),(1,.p ox 0 0),(21,.sl oa ga 0 n 2),(22,.i .i64 n),(23,.i .i64 n)]
theorem Tv (nm:List UInt8)(p:Bool)(r:List (List UInt8×Bool))(b:Bool):txP (pcP ((nm,p) :: r) b)=(if b=true then [] else [44,32]) ++ nm ++ (if p=true then [32,112,116,114] else []) ++ txP (pcP r false):=by
 cases b <;> cases p <;> simp [pcP,txP_app,txP,wPtr]
theorem yL:∀(ps:List (List UInt8×Bool)),(∀p∈ps,Good 1 p.1)→∀b,ps.length≤(txP (pcP ps b)).length
 | [],_,_=>Nat.zero_le _
 | (nm,p) :: r,h,b=>by
   have ih:=yL r (fun q hq=>h q (List.mem_cons_of_mem _ hq)) false
   obtain⟨c,y,hc,_⟩:=good_fst (h (nm,p) (List.mem_cons_self ..)) (.inl rfl)
   simp only at hc
   rw [Tv,hc]
   simp only [List.length_append,List.length_cons];omega
section
variable {o A d:Nat} {bb:Bool}
theorem AX (bP:o<A) {S:Nat→Prop} (hS:∀i,S i→i<A∧i≠o) {oa ga ox:Nat} {ps:List (List UInt8×Bool)} (hoa:S oa)(hcl:ps.length≤1000000000):∀(k m:Nat) (σ:St) (l:List UInt8),m+k=ps.length→
 σ[oa]? =some ⟨ga,false,.cells 71 (kJ ps)⟩→bI A o σ l d bb→A≤σ.length→l.length+(txP (pcP (ps.drop m) (m == 0))).length≤1000000000→∀{Q:Out→Env→St→Prop},
 (∀σ',bI A o σ' (l ++ txP (pcP (ps.drop m) (m == 0))) d bb→fP A o σ σ'→Q (.exit 0) (parX o ox oa ga ps.length) σ')→aS X [0,1,21,22,23] LK [(0,.p o 0 0),(1,.p ox 0 0),(21,.sl oa ga 0 ps.length 2),(22,.i .i64 ps.length),(23,.i .i64 m)] σ Q:=by
 intro k
 induction k with
 | zero=>
   intro m σ l hm _ hb _ _ Q q
   obtain rfl:m=ps.length:=by omega
   rw [List.drop_length] at q
   refine aS.round aC (lit:=false) ?_
   conv=>whnf
   rw [decide_eq_false (by omega)]
   conv=>whnf
   conv=>whnf
   exact q σ (by simpa [pcP,txP] using hb) (.refl _ _ _)
 | succ k ih=>
   intro m σ l hm hc hb hA hl Q q
   have hxo:=hS oa hoa
   obtain⟨⟨nm,pt⟩,hp⟩:∃p,ps[m]? =some p:=⟨_,List.getElem?_eq_getElem (by omega)⟩
   have hdr:ps.drop m=(nm,pt) :: ps.drop (m+1):=by
    rw [List.drop_eq_getElem_cons (by omega),(List.getElem?_eq_some_iff.1 hp).2]
   rw [hdr,Tv] at hl q
   simp only [List.length_append] at hl
   have hpl:=lJ ps
   have hag:((kJ ps).drop (0+m*2)).take (dV).size=[.s nm,.b pt]:=by rw [Nat.zero_add];exact oK ps m _ hp
   have rest:∀(σ3:St),bI A o σ3 (l ++ ((if(m == 0)=true then [] else [44,32]) ++ nm ++ (if pt=true then [32,112,116,114] else []))) d bb→fP A o σ σ3→aS X [0,1,21,22,23] LK [(0,.p o 0 0),(1,.p ox 0 0),(21,.sl oa ga 0 ps.length 2),(22,.i .i64 ps.length),(23,.i .i64 ((m+1:Nat):Int))] σ3 Q:=by
    intro σ3 h3 k3
    have:=k3.len
    refine ih (m+1) σ3 _ (by omega) ((k3.low oa hxo.1 hxo.2).trans hc) h3 (by omega) ?_ fun bW h4 k4=>?_
    ·rw [show (m+1 == 0)=false from rfl];simp only [List.length_append];omega
    ·rw [show (m+1 == 0)=false from rfl] at h4
     exact q bW (by simpa [List.append_assoc] using h4) (k3.trans k4)
   have named:∀(σ2 σ1:St) (l1:List UInt8),bI A o σ1 l1 d bb→fP A o σ σ1→l1=l ++ (if(m == 0)=true then [] else [44,32])→∀{Q2:AV→St→Prop},(∀σ3,bI A o σ3 (l1 ++ nm) d bb→fP A o σ σ3→fP A o σ1 σ3→Q2 (.tu []) σ3)→
        ay X 44 [.p o 0 0,.sl σ1.length 0 0 1 1] (au 9 [.s nm] σ1) Q2:=by
    intro _ σ1 l1 h1 k1 e1 Q2 q2
    have:=k1.len
    exact aY [nm] h1 bP (by omega) (by simp) (by rw [e1];simp only [List.length_append,List.flatten_cons,List.flatten_nil,List.length_nil];omega) fun σ3 h3 k3=>q2 σ3 (by simpa using h3) (k1.trans k3) k3
   have box:∀(σ1:St),Ext σ σ1→fP A o σ σ1∧bI A o σ1 l d bb:=by
    intro σ1 x
    refine⟨⟨x.len,fun i hi _=>x.old i (by omega),fun i a ha _ _=>x.get ha⟩,?_⟩
    obtain⟨b0,buf,j1,j2,j3,j4⟩:=hb
    exact⟨b0,buf,x.get j1,j2,j3,j4.same fun o' g' n z e=>by
        rcases j4 with ⟨_,e1⟩ | ⟨o1,g1,_,e1,j5⟩
        ·rw [e1] at e;cases e
        ·rw [e1] at e;cases e;exact x.old _ (bn j5)⟩
   have V4:∀{σ1:St},Ext σ σ1→σ1.length=σ.length+1→σ.length≠o:=fun _ _=>by omega
   cases m with
   | zero=>
     cases pt with
     | true=>
       refine aS.round aC (lit:=false) ?_
       conv=>whnf
       rw [decide_eq_true (by omega)]
       conv=>whnf
       conv=>whnf
       refine⟨0,rfl,by omega,?_⟩
       conv=>whnf
       refine ak (dY (T:=dV) rfl rfl (ah hc) (by rw [hpl];show 0+0*2+2≤_;omega)) ?_
       rw [hag]
       conv=>whnf
       refine ak (aF (T:=dV) ([.s nm,.b true]) rfl (aH _ _ _) rfl rfl (Nat.le_of_ble_eq_true rfl) rfl) ?_
       have x5:Ext σ ((au 71 dV.zero.cells σ).set σ.length ⟨0,false,.cells 71 [.s nm,.b true]⟩):=((Ext.refl σ).new _ _).set (Nat.le_refl _) _
       have b5:((au 71 dV.zero.cells σ).set σ.length ⟨0,false,.cells 71 [.s nm,.b true]⟩)[σ.length]? =_:=at_set (aH _ _ _) _
       have l5:((au 71 dV.zero.cells σ).set σ.length ⟨0,false,.cells 71 [.s nm,.b true]⟩).length=σ.length+1:=by rw [List.length_set,aI]
       generalize (au 71 dV.zero.cells σ).set σ.length ⟨0,false,.cells 71 [.s nm,.b true]⟩=dL at b5 x5 l5 ⊢
       conv=>whnf
       obtain⟨kb,hb5⟩:=box dL x5
       refine ak (aj (T:=dP) rfl rfl (ah (b5)) rfl) ?_
       conv=>whnf
       refine named dL dL l hb5 kb (by simp) fun σ3 h3 k3 VH=>?_
       have b3:σ3[σ.length]? =_:=VH.J7 _ _ b5 (by omega) (by intro _ _ _ e;cases e)
       conv=>whnf
       refine ak (aj (T:=qg) rfl rfl (ah (b3)) rfl) ?_
       conv=>whnf
       refine aY [[32,112,116,114]] h3 bP (by have:=k3.len;omega) (by simp) (by simp at hl ⊢;omega) fun bW h4 k4=>?_
       conv=>whnf
       refine⟨((0+1:Nat):Int),wrap_i64 (by omega) (by omega),?_⟩
       conv=>whnf
       exact rest bW (by simpa [List.append_assoc] using h4) (k3.trans k4)
     | false=>
       refine aS.round aC (lit:=false) ?_
       conv=>whnf
       rw [decide_eq_true (by omega)]
       conv=>whnf
       conv=>whnf
       refine⟨0,rfl,by omega,?_⟩
       conv=>whnf
       refine ak (dY (T:=dV) rfl rfl (ah hc) (by rw [hpl];show 0+0*2+2≤_;omega)) ?_
       rw [hag]
       conv=>whnf
       refine ak (aF (T:=dV) ([.s nm,.b false]) rfl (aH _ _ _) rfl rfl (Nat.le_of_ble_eq_true rfl) rfl) ?_
       have x5:Ext σ ((au 71 dV.zero.cells σ).set σ.length ⟨0,false,.cells 71 [.s nm,.b false]⟩):=((Ext.refl σ).new _ _).set (Nat.le_refl _) _
       have b5:((au 71 dV.zero.cells σ).set σ.length ⟨0,false,.cells 71 [.s nm,.b false]⟩)[σ.length]? =_:=at_set (aH _ _ _) _
       have l5:((au 71 dV.zero.cells σ).set σ.length ⟨0,false,.cells 71 [.s nm,.b false]⟩).length=σ.length+1:=by rw [List.length_set,aI]
       generalize (au 71 dV.zero.cells σ).set σ.length ⟨0,false,.cells 71 [.s nm,.b false]⟩=dL at b5 x5 l5 ⊢
       conv=>whnf
       obtain⟨kb,hb5⟩:=box dL x5
       refine ak (aj (T:=dP) rfl rfl (ah (b5)) rfl) ?_
       conv=>whnf
       refine named dL dL l hb5 kb (by simp) fun σ3 h3 k3 VH=>?_
       have b3:σ3[σ.length]? =_:=VH.J7 _ _ b5 (by omega) (by intro _ _ _ e;cases e)
       conv=>whnf
       refine ak (aj (T:=qg) rfl rfl (ah (b3)) rfl) ?_
       conv=>whnf
       refine⟨((0+1:Nat):Int),wrap_i64 (by omega) (by omega),?_⟩
       conv=>whnf
       exact rest σ3 (by simpa [List.append_assoc] using h3) k3
   | succ m=>
     have comma:∀(dL:St),bI A o dL l d bb→fP A o σ dL→∀{Q2:AV→St→Prop},(∀σ1,bI A o σ1 (l ++ [44,32]) d bb→fP A o σ σ1→fP A o dL σ1→Q2 (.tu []) σ1)→ay X 44 [.p o 0 0,.sl dL.length 0 0 1 1] (au 9 [.s [44,32]] dL) Q2:=by
        intro dL h5 k5 Q2 q2
        have:=k5.len
        exact aY [[44,32]] h5 bP (by omega) (by simp) (by simp at hl ⊢;omega) fun σ1 h1 k1=>q2 σ1 (by simpa using h1) (k5.trans k1) k1
     cases pt with
     | true=>
       refine aS.round aC (lit:=false) ?_
       conv=>whnf
       rw [decide_eq_true (by omega)]
       conv=>whnf
       conv=>whnf
       refine⟨m+1,rfl,by omega,?_⟩
       conv=>whnf
       refine ak (dY (T:=dV) rfl rfl (ah hc) (by rw [hpl];show 0+(m+1)*2+2≤_;omega)) ?_
       rw [hag]
       conv=>whnf
       refine ak (aF (T:=dV) ([.s nm,.b true]) rfl (aH _ _ _) rfl rfl (Nat.le_of_ble_eq_true rfl) rfl) ?_
       have x5:Ext σ ((au 71 dV.zero.cells σ).set σ.length ⟨0,false,.cells 71 [.s nm,.b true]⟩):=((Ext.refl σ).new _ _).set (Nat.le_refl _) _
       have b5:((au 71 dV.zero.cells σ).set σ.length ⟨0,false,.cells 71 [.s nm,.b true]⟩)[σ.length]? =_:=at_set (aH _ _ _) _
       have l5:((au 71 dV.zero.cells σ).set σ.length ⟨0,false,.cells 71 [.s nm,.b true]⟩).length=σ.length+1:=by rw [List.length_set,aI]
       generalize (au 71 dV.zero.cells σ).set σ.length ⟨0,false,.cells 71 [.s nm,.b true]⟩=dL at b5 x5 l5 ⊢
       conv=>whnf
       obtain⟨kb,hb5⟩:=box dL x5
       rw [decide_eq_true (show (0:Int)<((m+1:Nat):Int) by omega)]
       conv=>whnf
       refine comma dL hb5 kb fun σ1 h1 k1 k51=>?_
       have b1:σ1[σ.length]? =_:=k51.J7 _ _ b5 (by omega) (by intro _ _ _ e;cases e)
       conv=>whnf
       refine ak (aj (T:=dP) rfl rfl (ah (b1)) rfl) ?_
       conv=>whnf
       refine named σ1 σ1 _ h1 k1 (by simp) fun σ3 h3 k3 VH=>?_
       have b3:σ3[σ.length]? =_:=VH.J7 _ _ b1 (by omega) (by intro _ _ _ e;cases e)
       conv=>whnf
       refine ak (aj (T:=qg) rfl rfl (ah (b3)) rfl) ?_
       conv=>whnf
       refine aY [[32,112,116,114]] h3 bP (by have:=k3.len;omega) (by simp) (by simp at hl ⊢;omega) fun bW h4 k4=>?_
       conv=>whnf
       refine⟨((m+1+1:Nat):Int),wrap_i64 (by omega) (by omega),?_⟩
       conv=>whnf
       exact rest bW (by simpa [List.append_assoc] using h4) (k3.trans k4)
     | false=>
       refine aS.round aC (lit:=false) ?_
       conv=>whnf
       rw [decide_eq_true (by omega)]
       conv=>whnf
       conv=>whnf
       refine⟨m+1,rfl,by omega,?_⟩
       conv=>whnf
       refine ak (dY (T:=dV) rfl rfl (ah hc) (by rw [hpl];show 0+(m+1)*2+2≤_;omega)) ?_
       rw [hag]
       conv=>whnf
       refine ak (aF (T:=dV) ([.s nm,.b false]) rfl (aH _ _ _) rfl rfl (Nat.le_of_ble_eq_true rfl) rfl) ?_
       have x5:Ext σ ((au 71 dV.zero.cells σ).set σ.length ⟨0,false,.cells 71 [.s nm,.b false]⟩):=((Ext.refl σ).new _ _).set (Nat.le_refl _) _
       have b5:((au 71 dV.zero.cells σ).set σ.length ⟨0,false,.cells 71 [.s nm,.b false]⟩)[σ.length]? =_:=at_set (aH _ _ _) _
       have l5:((au 71 dV.zero.cells σ).set σ.length ⟨0,false,.cells 71 [.s nm,.b false]⟩).length=σ.length+1:=by rw [List.length_set,aI]
       generalize (au 71 dV.zero.cells σ).set σ.length ⟨0,false,.cells 71 [.s nm,.b false]⟩=dL at b5 x5 l5 ⊢
       conv=>whnf
       obtain⟨kb,hb5⟩:=box dL x5
       rw [decide_eq_true (show (0:Int)<((m+1:Nat):Int) by omega)]
       conv=>whnf
       refine comma dL hb5 kb fun σ1 h1 k1 k51=>?_
       have b1:σ1[σ.length]? =_:=k51.J7 _ _ b5 (by omega) (by intro _ _ _ e;cases e)
       conv=>whnf
       refine ak (aj (T:=dP) rfl rfl (ah (b1)) rfl) ?_
       conv=>whnf
       refine named σ1 σ1 _ h1 k1 (by simp) fun σ3 h3 k3 VH=>?_
       have b3:σ3[σ.length]? =_:=VH.J7 _ _ b1 (by omega) (by intro _ _ _ e;cases e)
       conv=>whnf
       refine ak (aj (T:=qg) rfl rfl (ah (b3)) rfl) ?_
       conv=>whnf
       refine⟨((m+1+1:Nat):Int),wrap_i64 (by omega) (by omega),?_⟩
       conv=>whnf
       exact rest σ3 (by simpa [List.append_assoc] using h3) k3
end
end Go.Abs.YtlkfbfhkcaldlaaGreatDoor
namespace Go.Abs.YtlkfbfhkcaldlaaGreatDoor
open Go.Proofs
set_option maxRecDepth 4000
theorem txF (f:Fm):txP (pcF f)=[102,117,110,99,32] ++ f.name ++ [40] ++ txP (pcP f.params true) ++ [41] ++ (if f.ptr=true then [32,112,116,114] else []) ++ yN f.body 0 ++ [10]:=by
 by_cases h:f.ptr=true <;> simp [pcF,yN,txP_app,txP,h,wFunc,wPtr]
section
variable {o A:Nat} {bb:Bool}
theorem E8 (bP:o<A)(hG:10≤A∧10≤o) {f:Fm} (hf:WFm f) {S:Nat→Prop} {σ:St} {v:AV} {l:List UInt8} (hS:∀i,S i→i<A∧i≠o)(hv:kK S σ v f)(hb:bI A o σ l 0 bb)(hA:A≤σ.length)(hT:fJ σ=true)(hl:l.length+(txP (pcF f)).length≤1000000000) {Q:AV→St→Prop}
 (q:∀σ',bI A o σ' (l ++ txP (pcF f)) 0 bb→fP A o σ σ'→Q (.tu []) σ'):ay X 20 [.p o 0 0,v] σ Q:=by
 obtain⟨ox,Ap,Bd,hs,rfl,hx,hP,hB⟩:=hv
 obtain⟨nm,ps,pt,body,ln⟩:=f
 have hps:=hf.ps
 have hbody:=hf.body
 have hdeep:=hf.deep
 simp only at hps hbody hdeep hP hB
 rw [txF] at hl q
 simp only at hl q hx
 simp only [List.length_append,List.length_cons,List.length_nil] at hl
 have hxo:=hS ox hs
 have hbl:=kF (bb:=bb) bP hG body hbody
 have tail:∀(σ3:St),bI A o σ3 (l ++ [102,117,110,99,32] ++ nm ++ [40] ++ txP (pcP ps true) ++ [41] ++ (if pt=true then [32,112,116,114] else [])) 0 bb→fP A o σ σ3→∀{Q2:AV→St→Prop},(∀bW,bI A o bW (l ++ [102,117,110,99,32] ++ nm ++ [40] ++ txP (pcP ps true) ++ [41] ++ (if pt=true then [32,112,116,114] else []) ++ yN body 0) 0 bb→fP A o σ bW→Q2 (.tu []) bW)→
  ay X 45 [.p o 0 0,Bd] σ3 Q2:=by
  intro σ3 h3 k3 Q2 q2
  have:=k3.len
  exact um bP hG hS hbl (by omega) (hB.kept hS k3) h3 (by omega) (k3.tab hG hT) (by simp only [List.length_append,List.length_cons,List.length_nil];omega) fun bW h4 k4=>q2 bW h4 (k3.trans k4)
 have last:∀(bW:St),bI A o bW (l ++ [102,117,110,99,32] ++ nm ++ [40] ++ txP (pcP ps true) ++ [41] ++ (if pt=true then [32,112,116,114] else []) ++ yN body 0) 0 bb→fP A o σ bW→∀{Q2:AV→St→Prop},(∀dL,bI A o dL (l ++ ([102,117,110,99,32] ++ nm ++ [40] ++ txP (pcP ps true) ++ [41] ++ (if pt=true then [32,112,116,114] else []) ++ yN body 0 ++ [10])) 0 bb→fP A o σ dL→Q2 (.tu []) dL)→
  ay X 44 [.p o 0 0,.sl bW.length 0 0 1 1] (au 9 [.s [10]] bW) Q2:=by
  intro bW h4 k4 Q2 q2
  have:=k4.len
  exact aY [[10]] h4 bP (by omega) (by simp) (by simp only [List.length_append,List.flatten_cons,List.flatten_nil,List.length_cons,List.length_nil];omega) fun dL h5 k5=>q2 dL (by simpa [List.append_assoc] using h5) (k4.trans k5)
 have shut:∀(σ2:St),bI A o σ2 (l ++ [102,117,110,99,32] ++ nm ++ [40] ++ txP (pcP ps true)) 0 bb→fP A o σ σ2→∀{Q2:AV→St→Prop},(∀σ3,bI A o σ3 (l ++ [102,117,110,99,32] ++ nm ++ [40] ++ txP (pcP ps true) ++ [41]) 0 bb→fP A o σ σ3→Q2 (.tu []) σ3)→
  ay X 44 [.p o 0 0,.sl σ2.length 0 0 1 1] (au 9 [.s [41]] σ2) Q2:=by
  intro σ2 h2 k2 Q2 q2
  have:=k2.len
  exact aY [[41]] h2 bP (by omega) (by simp) (by simp only [List.length_append,List.flatten_cons,List.flatten_nil,List.length_cons,List.length_nil];omega) fun σ3 h3 k3=>q2 σ3 (by simpa [List.append_assoc] using h3) (k2.trans k3)
 have ptr:pt=true→∀(σ3:St),bI A o σ3 (l ++ [102,117,110,99,32] ++ nm ++ [40] ++ txP (pcP ps true) ++ [41]) 0 bb→fP A o σ σ3→∀{Q2:AV→St→Prop},(∀bW,bI A o bW (l ++ [102,117,110,99,32] ++ nm ++ [40] ++ txP (pcP ps true) ++ [41] ++ (if pt=true then [32,112,116,114] else [])) 0 bb→fP A o σ bW→Q2 (.tu []) bW)→
  ay X 44 [.p o 0 0,.sl σ3.length 0 0 1 1] (au 9 [.s [32,112,116,114]] σ3) Q2:=by
  intro hpt σ3 h3 k3 Q2 q2
  subst hpt
  have:=k3.len
  simp only [if_true,List.length_cons,List.length_nil] at hl
  exact aY [[32,112,116,114]] h3 bP (by omega) (by simp) (by simp only [List.length_append,List.flatten_cons,List.flatten_nil,List.length_cons,List.length_nil];omega) fun bW h4 k4=>q2 bW (by simpa [List.append_assoc] using h4) (k3.trans k4)
 have open_:∀{Q2:AV→St→Prop},(∀σ1,bI A o σ1 (l ++ [102,117,110,99,32] ++ nm ++ [40]) 0 bb→fP A o σ σ1→Q2 (.tu []) σ1)→ay X 44 [.p o 0 0,.sl σ.length 0 0 3 1] (au 9 [.s [102,117,110,99,32],.s nm,.s [40]] σ) Q2:=by
  intro Q2 q2
  exact aY [[102,117,110,99,32],nm,[40]] hb bP hA (by simp) (by simp only [List.length_append,List.flatten_cons,List.flatten_nil,List.length_cons,List.length_nil];omega) fun σ1 h1 k1=>q2 σ1 (by simpa [List.append_assoc] using h1) k1
 have hfin:∀(dL:St),bI A o dL (l ++ ([102,117,110,99,32] ++ nm ++ [40] ++ txP (pcP ps true) ++ [41] ++ (if pt=true then [32,112,116,114] else []) ++ yN body 0 ++ [10])) 0 bb→fP A o σ dL→Fin σ (.tu []) dL Q:=fun dL h5 k5=>hb.fin h5 k5 q
 have nop:pt=false→∀(σ3:St),bI A o σ3 (l ++ [102,117,110,99,32] ++ nm ++ [40] ++ txP (pcP ps true) ++ [41]) 0 bb→bI A o σ3 (l ++ [102,117,110,99,32] ++ nm ++ [40] ++ txP (pcP ps true) ++ [41] ++ (if pt=true then [32,112,116,114] else [])) 0 bb:=by
  intro hpt σ3 h3;subst hpt;simpa using h3
 clear q hb
 rcases hP with ⟨hpe,rfl⟩ | ⟨oa,ga,hoa,rfl,hc⟩
 ·have he:txP (pcP ps true)=[]:=by rw [hpe];rfl
  cases pt with
  | true=>
    refine ay.body (F:=F20) aC (lit:=false) rfl rfl (Nat.le_of_ble_eq_true rfl) ?_
    conv=>whnf
    refine ak (aj (T:=dP) rfl rfl (ah (hx)) rfl) ?_
    conv=>whnf
    refine open_ fun σ1 h1 k1=>?_
    have hx1:σ1[ox]? =_:=(k1.low ox hxo.1 hxo.2).trans hx
    conv=>whnf
    refine ak (aj (T:=lG) rfl rfl (ah (hx1)) rfl) ?_
    conv=>whnf
    refine aS.round aC (lit:=false) ?_
    conv=>whnf
    refine shut σ1 (by rw [he,List.append_nil];exact h1) k1 fun σ3 h3 k3=>?_
    have hx3:σ3[ox]? =_:=(k3.low ox hxo.1 hxo.2).trans hx
    conv=>whnf
    refine ak (aj (T:=qg) rfl rfl (ah (hx3)) rfl) ?_
    conv=>whnf
    refine ptr rfl σ3 h3 k3 fun bW h4 k4=>?_
    have hx4:bW[ox]? =_:=(k4.low ox hxo.1 hxo.2).trans hx
    conv=>whnf
    refine ak (aj (T:=cO) rfl rfl (ah hx4) rfl) ?_
    refine bY _ _ ?_
    refine dh _ _ ?_
    refine tail bW h4 k4 fun dL h5 k5=>?_
    conv=>whnf
    refine last dL h5 k5 fun jY h6 k6=>?_
    conv=>whnf
    exact hfin jY h6 k6
  | false=>
    refine ay.body (F:=F20) aC (lit:=false) rfl rfl (Nat.le_of_ble_eq_true rfl) ?_
    conv=>whnf
    refine ak (aj (T:=dP) rfl rfl (ah (hx)) rfl) ?_
    conv=>whnf
    refine open_ fun σ1 h1 k1=>?_
    have hx1:σ1[ox]? =_:=(k1.low ox hxo.1 hxo.2).trans hx
    conv=>whnf
    refine ak (aj (T:=lG) rfl rfl (ah (hx1)) rfl) ?_
    conv=>whnf
    refine aS.round aC (lit:=false) ?_
    conv=>whnf
    refine shut σ1 (by rw [he,List.append_nil];exact h1) k1 fun σ3 h3 k3=>?_
    have hx3:σ3[ox]? =_:=(k3.low ox hxo.1 hxo.2).trans hx
    conv=>whnf
    refine ak (aj (T:=qg) rfl rfl (ah (hx3)) rfl) ?_
    conv=>whnf
    refine ak (aj (T:=cO) rfl rfl (ah hx3) rfl) ?_
    refine bY _ _ ?_
    refine dh _ _ ?_
    refine tail σ3 (nop rfl σ3 h3) k3 fun dL h5 k5=>?_
    conv=>whnf
    refine last dL h5 k5 fun jY h6 k6=>?_
    conv=>whnf
    exact hfin jY h6 k6
 ·have hao:=hS oa hoa
  cases pt with
  | true=>
    refine ay.body (F:=F20) aC (lit:=false) rfl rfl (Nat.le_of_ble_eq_true rfl) ?_
    conv=>whnf
    refine ak (aj (T:=dP) rfl rfl (ah (hx)) rfl) ?_
    conv=>whnf
    refine open_ fun σ1 h1 k1=>?_
    have l1:=k1.len
    have hx1:σ1[ox]? =_:=(k1.low ox hxo.1 hxo.2).trans hx
    conv=>whnf
    refine ak (aj (T:=lG) rfl rfl (ah (hx1)) rfl) ?_
    conv=>whnf
    refine AX bP hS (ox:=ox) hoa (by have:=yL ps hps true;omega) ps.length 0 σ1 _ (by omega) ((k1.low oa hao.1 hao.2).trans hc) h1 (by omega) (by rw [List.drop_zero,show (0 == 0)=true from rfl];simp only [List.length_append,List.length_cons,List.length_nil];omega) fun σ2 h2 k2'=>?_
    rw [List.drop_zero,show (0 == 0)=true from rfl] at h2
    have k2:=k1.trans k2'
    conv=>whnf
    refine shut σ2 h2 k2 fun σ3 h3 k3=>?_
    have hx3:σ3[ox]? =_:=(k3.low ox hxo.1 hxo.2).trans hx
    conv=>whnf
    refine ak (aj (T:=qg) rfl rfl (ah (hx3)) rfl) ?_
    conv=>whnf
    refine ptr rfl σ3 h3 k3 fun bW h4 k4=>?_
    have hx4:bW[ox]? =_:=(k4.low ox hxo.1 hxo.2).trans hx
    conv=>whnf
    refine ak (aj (T:=cO) rfl rfl (ah hx4) rfl) ?_
    refine bY _ _ ?_
    refine dh _ _ ?_
    refine tail bW h4 k4 fun dL h5 k5=>?_
    conv=>whnf
    refine last dL h5 k5 fun jY h6 k6=>?_
    conv=>whnf
    exact hfin jY h6 k6
  | false=>
    refine ay.body (F:=F20) aC (lit:=false) rfl rfl (Nat.le_of_ble_eq_true rfl) ?_
    conv=>whnf
    refine ak (aj (T:=dP) rfl rfl (ah (hx)) rfl) ?_
    conv=>whnf
    refine open_ fun σ1 h1 k1=>?_
    have l1:=k1.len
    have hx1:σ1[ox]? =_:=(k1.low ox hxo.1 hxo.2).trans hx
    conv=>whnf
    refine ak (aj (T:=lG) rfl rfl (ah (hx1)) rfl) ?_
    conv=>whnf
    refine AX bP hS (ox:=ox) hoa (by have:=yL ps hps true;omega) ps.length 0 σ1 _ (by omega) ((k1.low oa hao.1 hao.2).trans hc) h1 (by omega) (by rw [List.drop_zero,show (0 == 0)=true from rfl];simp only [List.length_append,List.length_cons,List.length_nil];omega) fun σ2 h2 k2'=>?_
    rw [List.drop_zero,show (0 == 0)=true from rfl] at h2
    have k2:=k1.trans k2'
    conv=>whnf
    refine shut σ2 h2 k2 fun σ3 h3 k3=>?_
    have hx3:σ3[ox]? =_:=(k3.low ox hxo.1 hxo.2).trans hx
    conv=>whnf
    refine ak (aj (T:=qg) rfl rfl (ah (hx3)) rfl) ?_
    conv=>whnf
    refine ak (aj (T:=cO) rfl rfl (ah hx3) rfl) ?_
    refine bY _ _ ?_
    refine dh _ _ ?_
    refine tail σ3 (nop rfl σ3 h3) k3 fun dL h5 k5=>?_
    conv=>whnf
    refine last dL h5 k5 fun jY h6 k6=>?_
    conv=>whnf
    exact hfin jY h6 k6
end
end Go.Abs.YtlkfbfhkcaldlaaGreatDoor
