/- Texts of this claim, joined: Ua, Ub, Uc, Ud, Ue. -/
import Derived.Test.YtlkfbfhkcaldlaaGreatDoorM24
import Derived.Test.YtlkfbfhkcaldlaaGreatDoorM28
set_option linter.unusedVariables false
set_option linter.unusedSimpArgs false
namespace Go.Abs.YtlkfbfhkcaldlaaGreatDoor
open Go.Proofs
set_option maxRecDepth 4000
def kW (e A:Nat)(σ:St)(out:AV)(cs:List AV):Prop:=(cs=[]∧out= .sl0)∨∃o g,A≤o∧out= .sl o g 0 cs.length 1∧σ[o]? =some ⟨g,false,.cells e cs⟩
theorem kW.same {e A:Nat} {σ σ':St} {out:AV} {cs:List AV} (h:kW e A σ out cs)(k:∀o g n z,out= .sl o g 0 n z→σ'[o]? =σ[o]?):kW e A σ' out cs:=by
 rcases h with h | ⟨o,g,h1,h2,h3⟩
 ·exact .inl h
 ·exact .inr ⟨o,g,h1,h2,by rw [k o g _ _ h2];exact h3⟩
theorem kW.new {e A:Nat} {σ:St} {out:AV} {cs:List AV} (h:kW e A σ out cs)(e':Nat)(cs':List AV):kW e A (au e' cs' σ) out cs:=by
 rcases h with h | ⟨o,g,h1,h2,h3⟩
 ·exact .inl h
 ·exact .inr ⟨o,g,h1,h2,at_new h3 e' cs'⟩
theorem kW.cases {e A:Nat} {σ:St} {v:AV} {cs:List AV} (h:kW e A σ v cs):v= .sl0∨∃o g,v= .sl o g 0 cs.length 1:=by
 rcases h with ⟨_,rfl⟩ | ⟨o,g,_,rfl,_⟩
 ·exact .inl rfl
 ·exact .inr ⟨o,g,rfl⟩
theorem RH {e t A:Nat} {T E:AT} (hT:D7.get t=some T)(hd:T.d= .slice e)(hE:D7.get e=some E)(hz:E.size=1)(hz2:E.zero.cells.length=1)(hb:Nat.blt 0 E.bytes=true)(hb8:E.bytes≤8)
 {σ:St} {out:AV} {cs:List AV} (h:kW e A σ out cs) {y:AV} {ys:List AV} (hy:eU 1 y σ=some (ys.length,ys)) (hl:cs.length+ys.length≤1000000000) (h1:cs.all AV.one=true) (h2:ys.all AV.one=true) (hq:∀Q:List AV→Prop,Q ys→BH ys Q) (hA:A≤σ.length) {Q:AV→St→Prop}
 (q:∀out' σ',kW e A σ' out' (cs ++ ys)→σ.length≤σ'.length→(∀i,i<σ.length→(∀o g n z,out= .sl o g 0 n z→i≠o)→σ'[i]? =σ[i]?)→(∀o g n z,out'= .sl o g 0 n z→σ.length≤o∨∃g' n' z',out= .sl o g' 0 n' z')→(ys=[]→out'= out)→Q out' σ') :
 xM D7.get false t out y σ Q:=by
 constructor
 refine ak hT ?_
 rw [hd]
 refine ak hE ?_
 rw [hz,hz2]
 have hbl:(Nat.blt 0 1 && Nat.beq 1 1 && Nat.blt 0 E.bytes)=true:=by rw [hb];rfl
 rw [hbl]
 refine ak hy ?_
 cases ys with
 | nil=>
   rcases h with ⟨rfl,rfl⟩ | ⟨o,g,k1,rfl,k3⟩
   ·exact q _ _ (.inl ⟨rfl,rfl⟩) (Nat.le_refl _) (fun _ _ _=>rfl) (fun o g n z h=>by cases h) (fun _=>rfl)
   ·exact q _ _ (.inr ⟨o,g,k1,by simp,by simpa using k3⟩) (Nat.le_refl _) (fun _ _ _=>rfl) (fun o' g' n z h=>by cases h;exact .inr ⟨_,_,_,rfl⟩) (fun _=>rfl)
 | cons y0 ys=>
   show Abs.cB (Nat.beq (ys.length+1) 0) _ _
   conv=>whnf
   rw [h2]
   conv=>whnf
   rcases h with ⟨rfl,rfl⟩ | ⟨o,g,k1,rfl,k3⟩
   ·conv=>whnf
    refine⟨?_,?_⟩
    ·have:(ys.length+1)*E.bytes≤(ys.length+1)*8:=Nat.mul_le_mul_left _ hb8
     simp only [List.length_cons,List.length_nil] at hl ⊢;omega
    refine hq _ ?_
    conv=>whnf
    refine q _ _ (.inr ⟨σ.length,0,hA,rfl,?_⟩) (by rw [aI];omega) (fun i hi _=>dB hi) (fun o g n z h=>by cases h;exact .inl (Nat.le_refl _)) (fun h=>by cases h)
    exact aH _ _ _
   ·conv=>whnf
    refine ak (jV k3) ?_
    refine⟨rfl,by omega,?_,?_,?_⟩
    ·have:(cs.length+(ys.length+1))*E.bytes≤(cs.length+(ys.length+1))*8:=Nat.mul_le_mul_left _ hb8
     simp only [List.length_cons] at hl ⊢;omega
    ·rw [List.drop_zero,List.take_of_length_le (by omega)];exact h1
    ·conv=>whnf
     refine q _ _ (.inr ⟨o,g+1,k1,by simp,?_⟩) (by rw [List.length_set];omega) (fun i hi hne=>by rw [List.getElem?_set_ne (fun e=>hne o g _ _ rfl e.symm)]) (fun o' g' n z h=>by cases h;exact .inr ⟨_,_,_,rfl⟩) (fun h=>by cases h)
     rw [at_set k3,List.drop_zero,List.take_of_length_le (by omega)]
theorem uj:∀l:List UInt8,(fE l).all AV.one=true
 | []=>rfl
 | _ :: l=>by show (_ && (fE l).all AV.one)=true;rw [uj l];rfl
theorem AL:∀(l:List UInt8) (Q:List AV→Prop),Q (fE l)→BH (fE l) Q
 | [],_,h=>h
 | _ :: l,Q,h=>AL l (fun r=>Q (_ :: r)) h
theorem fZ (l:List UInt8):(fE l).length=l.length:=by unfold fE;rw [List.length_map]
theorem J6 (l t:List UInt8):fE (l ++ t)=fE l ++ fE t:=by unfold fE;rw [List.map_append]
def bI (A o:Nat)(σ:St)(l:List UInt8)(d:Nat)(bb:Bool):Prop:=
 ∃ b0 buf,σ[o]? =some ⟨0,false,.cells 79 [b0,buf,.i .i64 d,.b bb]⟩∧(b0= .p0∨b0= .p o 0 0)∧(l=[]→buf= .sl0)∧kW 5 A σ buf (fE l)
structure fP (A o:Nat)(σ σ':St):Prop where
 len:σ.length≤σ'.length
 low:∀i,i<A→i≠o→σ'[i]? =σ[i]?
 J7:∀(i:Nat) (a:AO),σ[i]? =some a→i≠o→(∀(g:Nat) (ro:Bool) (cs:List AV),a≠⟨g,ro,.cells 5 cs⟩)→σ'[i]? =some a
theorem fP.refl (A o:Nat)(σ:St):fP A o σ σ:=⟨Nat.le_refl _,fun _ _ _=>rfl,fun _ _ h _ _=>h⟩
theorem fP.trans {A o:Nat} {a b c:St} (h:fP A o a b)(k:fP A o b c):fP A o a c:=⟨Nat.le_trans h.len k.len,fun i hi ho=>by rw [k.low i hi ho,h.low i hi ho],fun i x hx ho hu=>k.J7 i x (h.J7 i x hx ho hu) ho hu⟩
theorem fP.new {A o:Nat} {σ:St} (hA:A≤σ.length)(e:Nat)(cs:List AV):fP A o σ (au e cs σ):=⟨by rw [aI];omega,fun i hi _=>dB (by omega),fun i x hx _ _=>at_new hx _ _⟩
theorem bI.new {A o d:Nat} {σ:St} {l:List UInt8} {bb:Bool} (h:bI A o σ l d bb)(e:Nat)(cs:List AV):bI A o (au e cs σ) l d bb:=by
 obtain⟨b0,buf,h1,h2,h3,h4⟩:=h
 exact⟨b0,buf,at_new h1 _ _,h2,h3,h4.new _ _⟩
theorem ay.prim {X:Ctx} {f:Nat} {g:List AV→St→Option (AV×St)} {args:List AV} {σ σ':St} {v:AV} {Q:AV→St→Prop} (hp:X.prim f=some g)(hg:g args σ=some (v,σ'))(q:Q v σ'):ay X f args σ Q:=by
 constructor
 rw [jf hp]
 exact⟨(v,σ'),hg,q⟩
theorem AP {l:List UInt8} (h:fE l=[]):l=[]:=by cases l with | nil=>rfl | cons _ _=>cases h
theorem take_at {σ σ':St} (h:σ'.take σ.length=σ) {i:Nat} (hi:i<σ.length):σ'[i]? =σ[i]? :=by
 have:=congrArg (fun l=>l[i]?) h
 simpa [List.getElem?_take,hi] using this
theorem bI.back {A o d:Nat} {σ σ':St} {l l':List UInt8} {bb:Bool} (h:bI A o σ l d bb)(k:bI A o σ' l' d bb)(ht:σ'.take σ.length=σ):bI A o σ l' d bb:=by
 obtain⟨b0,buf,h1,h2,h3,h4⟩:=h
 obtain⟨c0,bug,k1,k2,k3,k4⟩:=k
 have h5:=take_at ht (bn h1)
 rw [k1,h1] at h5
 injection h5 with h5
 injection h5 with _ _ h5
 injection h5 with _ h5
 injection h5 with e1 h5
 injection h5 with e2 h5
 subst e1;subst e2
 refine⟨c0,bug,h1,h2,k3,?_⟩
 rcases k4 with k4 | ⟨o2,g2,q1,q2,q3⟩
 ·exact .inl k4
 ·rcases h4 with ⟨_,e⟩ | ⟨o3,g3,p1,p2,p3⟩
  ·rw [q2] at e;cases e
  ·have:o2=o3:=by rw [q2] at p2;injection p2
   subst this
   exact .inr ⟨o2,g2,q1,q2,by rw [←take_at ht (bn p3)];exact q3⟩
theorem RI {o A d:Nat} {bb:Bool} {σ:St} {l:List UInt8} (t:List UInt8)(hb:bI A o σ l d bb)(bP:o<A)(hA:A≤σ.length)(hl:l.length+t.length≤1000000000) {Q:AV→St→Prop}
 (q:∀σ',bI A o σ' (l ++ t) d bb→fP A o σ σ'→Q (.tu [.i .i64 t.length,.eu]) σ') :
 ay X 78 [.p o 0 0,.s t] σ Q:=by
 have hb':=hb
 obtain⟨b0,buf,hob,hb0,hbn,hs⟩:=hb
 have fin:∀σ',bI A o σ' (l ++ t) d bb→fP A o σ σ'→Fin σ (.tu [.i .i64 t.length,.eu]) σ' Q:=fun σ' h1 h2=>iY (q σ' h1 h2) fun ht=>q σ (hb'.back h1 ht) (.refl _ _ _)
 refine ay.body (F:=F78) aC (lit:=false) rfl rfl (Nat.le_of_ble_eq_true rfl) ?_
 conv=>whnf
 obtain⟨σ1,hcc,h1,hrest,hlen1⟩:∃σ1,UG [.p o 0 0] σ=some (.tu [],σ1)∧σ1[o]? =some ⟨0,false,.cells 79 [.p o 0 0,buf,.i .i64 d,.b bb]⟩∧(∀i,i≠o→σ1[i]? =σ[i]?)∧σ1.length=σ.length:=by
  rcases hb0 with rfl | rfl
  ·exact⟨_,by simp only [UG,hob],at_set hob _,fun i hi=>by rw [List.getElem?_set_ne (fun e=>hi e.symm)],by rw [List.length_set]⟩
  ·exact⟨σ,by simp only [UG,hob,if_true],hob,fun _ _=>rfl,rfl⟩
 refine ay.prim (g:=UG) rfl hcc ?_
 have hs1:kW 5 A σ1 buf (fE l):=by
  rcases hs with h | ⟨o1,g1,k1,k2,k3⟩
  ·exact .inl h
  ·exact .inr ⟨o1,g1,k1,k2,by rw [hrest o1 (by omega)];exact k3⟩
 have hbl:=fZ l
 have V4:∀(o' g' n z:Nat),buf= .sl o' g' 0 n z→A≤o'∧∃cs,σ1[o']? =some ⟨g',false,.cells 5 cs⟩:=fun o' g' n z e=>by
  rcases hs1 with ⟨_,e1⟩ | ⟨o1,g1,k1,e1,k3⟩
  ·rw [e1] at e;cases e
  ·rw [e1] at e;cases e;exact⟨k1,_,k3⟩
 rcases hs.cases with rfl | ⟨o1,g1,rfl⟩
 all_goals
  conv=>whnf
  refine ak (aj (T:=QA) rfl rfl (ah (h1)) rfl) ?_
  conv=>whnf
  refine RH (A:=A) (E:=yT5) rfl rfl rfl rfl rfl rfl (by decide) hs1 (ys:=fE t) (show eU 1 (.s t) σ1=_ from by rw [fZ];rfl) (by rw [fZ,fZ];exact hl) (uj _) (uj _) (AL _) (by omega) fun out' σ2 ho2 hln hk2 hk3 hk4=>?_
  have hob2:σ2[o]? =some ⟨0,false,.cells 79 [.p o 0 0,_,.i .i64 d,.b bb]⟩:=(hk2 o (bn h1) (fun o' g' n z e=>by have:=(V4 o' g' n z e).1;omega)).trans h1
  have hl2:σ.length≤σ2.length:=by omega
  have done:∀v,(l ++ t=[]→v= .sl0)→kW 5 A σ2 v (fE l ++ fE t)→bI A o (σ2.set o ⟨0,false,.cells 79 [.p o 0 0,v,.i .i64 d,.b bb]⟩) (l ++ t) d bb∧fP A o σ (σ2.set o ⟨0,false,.cells 79 [.p o 0 0,v,.i .i64 d,.b bb]⟩):=fun v hz hv=>by
   refine⟨⟨_,_,at_set hob2 _,.inr rfl,hz,?_⟩,⟨by rw [List.length_set];omega,fun i hi hio=>?_,fun i a ha hio hu=>?_⟩⟩
   ·rw [J6]
    rcases hv with h | ⟨o3,g3,k1,k2,k3⟩
    ·exact .inl h
    ·exact .inr ⟨o3,g3,k1,k2,by rw [List.getElem?_set_ne (by omega)];exact k3⟩
   ·rw [List.getElem?_set_ne (fun e=>hio e.symm),hk2 i (by omega) (fun o' g' n z e=>by have:=(V4 o' g' n z e).1;omega),hrest i hio]
   ·have hi:=bn ha
    have ha1:σ1[i]? =some a:=by rw [hrest i hio];exact ha
    rw [List.getElem?_set_ne (fun e=>hio e.symm),hk2 i (by omega) (fun o' g' n z e=>by
     obtain⟨_,cs,k3⟩:=V4 o' g' n z e
     intro e2;subst e2
     rw [ha1] at k3
     exact hu _ _ _ (Option.some.inj k3))]
    exact ha1
  have hd:=done _ (fun h=>by
   obtain⟨e1,e2⟩:=List.append_eq_nil_iff.1 h
   subst e2
   exact(hk4 rfl).trans (hbn e1)) ho2
  rcases ho2.cases with rfl | ⟨o3,g3,rfl⟩
  all_goals
   conv=>whnf
   refine ak (aF [.p o 0 0,_,.i .i64 d,.b bb] rfl hob2 rfl rfl (Nat.le_of_ble_eq_true rfl) rfl) ?_
   conv=>whnf
   exact fin _ hd.1 hd.2
end Go.Abs.YtlkfbfhkcaldlaaGreatDoor
namespace Go.Abs.YtlkfbfhkcaldlaaGreatDoor
open Go.Proofs
set_option maxRecDepth 4000
section
variable {o A d C gC:Nat} {bb:Bool} {ss:List (List UInt8)}
theorem OA (bP:o<A)(OB:C≠o)(hss:ss.length≤100000) {Q:Out→Env→St→Prop} :∀(k m:Nat) (σ:St) (l:List UInt8),m+k=ss.length→bI A o σ l d bb→A≤σ.length→σ[C]? =some ⟨gC,false,.cells 9 (ss.map .s)⟩→l.length+(ss.drop m).flatten.length≤1000000000→
 (∀e' σ',bI A o σ' (l ++ (ss.drop m).flatten) d bb→fP A o σ σ'→Q (.exit 0) e' σ')→aS X [0,6,7,8] SG [(0,.p o 0 0),(6,.sl C gC 0 ss.length 1),(7,.i .i64 ss.length),(8,.i .i64 m)] σ Q:=by
 intro k
 induction k with
 | zero=>
   intro m σ l hm hb hA hC hl q
   rw [List.drop_of_length_le (by omega)] at q
   refine aS.round aC (lit:=false) ?_
   conv=>whnf
   rw [decide_eq_false (by omega)]
   conv=>whnf
   conv=>whnf
   exact q _ σ (by rw [List.flatten_nil,List.append_nil];exact hb) (.refl _ _ _)
 | succ k ih=>
   intro m σ l hm hb hA hC hl q
   obtain⟨s,hs⟩:∃s,ss[m]? =some s:=⟨_,List.getElem?_eq_getElem (by omega)⟩
   have hd:ss.drop m=s :: ss.drop (m+1):=by
    rw [List.drop_eq_getElem_cons (by omega)]
    have:=(List.getElem?_eq_some_iff.1 hs).2
    rw [this]
   have ha:(ss.map AV.s)[0+m*1]? =some (.s s):=by rw [Nat.zero_add,Nat.mul_one,List.getElem?_map,hs];rfl
   rw [hd,List.flatten_cons,List.length_append] at hl
   rw [hd,List.flatten_cons] at q
   refine aS.round aC (lit:=false) ?_
   conv=>whnf
   rw [decide_eq_true (by omega)]
   conv=>whnf
   conv=>whnf
   refine⟨m,rfl,by omega,?_⟩
   conv=>whnf
   refine ak (aj (T:=dP) rfl rfl (ah hC) ha) ?_
   conv=>whnf
   refine RI s hb bP hA (by omega) fun σ1 h1 k1=>?_
   conv=>whnf
   refine⟨((m+1:Nat):Int),wrap_i64 (by omega) (by omega),?_⟩
   conv=>whnf
   refine ih (m+1) σ1 (l ++ s) (by omega) h1 (by have:=k1.len;omega) (k1.J7 _ _ hC OB (by intro _ _ _ e;cases e)) (by rw [List.length_append];omega) fun e' σ' h2 k2=>?_
   exact q e' σ' (by rw [←List.append_assoc];exact h2) (k1.trans k2)
theorem G6 {σ:St} {l:List UInt8} (ss:List (List UInt8))(hb:bI A o σ l d bb)(bP:o<A)(hA:A≤σ.length)(hC:σ[C]? =some ⟨gC,false,.cells 9 (ss.map .s)⟩)(OB:C≠o)(hss:ss.length≤100000)(hl:l.length+ss.flatten.length≤1000000000) {Q:AV→St→Prop}
 (q:∀σ',bI A o σ' (l ++ ss.flatten) d bb→fP A o σ σ'→Q (.tu []) σ'):ay X 44 [.p o 0 0,.sl C gC 0 ss.length 1] σ Q:=by
 refine ay.body (F:=F44) aC (lit:=false) rfl rfl (Nat.le_of_ble_eq_true rfl) ?_
 conv=>whnf
 refine OA bP OB hss ss.length 0 σ l (by omega) hb hA hC hl fun e' σ' h1 k1=>?_
 conv=>whnf
 exact iY (q σ' h1 k1) fun ht=>q σ (hb.back h1 ht) (.refl _ _ _)
end
end Go.Abs.YtlkfbfhkcaldlaaGreatDoor
namespace Go.Abs.YtlkfbfhkcaldlaaGreatDoor
open Go.Proofs
set_option maxRecDepth 4000
def yK (b:Bool)(s:List UInt8):List UInt8:=if b then [40] ++ s ++ [41] else s
mutual
def iJ:Tr→Nat→List UInt8
 | .nil,_=>[]
 | .ex k n nm tx l r ar _,c=>
   if k=1 then Lib.decDigits n
   else if k=2 then nm
   else if k=4 then nm ++ [40] ++ vH ar true ++ [41]
   else if k=5 then iJ l 8 ++ [91] ++ iJ r 1 ++ [93]
   else if k=6 then iJ l 8 ++ [58] ++ (if isNN r=true then iJ r 8 else [40] ++ iJ r 1 ++ [41])
   else if k=7 then [110,101,119,40] ++ iJ l 1 ++ [41]
   else if k=8 then [105,110,40,41]
   else if isNil l=true then yK (decide (7<c)) (tx ++ iJ r 7)
   else yK (decide (bindsP tx<c)) (iJ l (bindsP tx) ++ ([32] ++ tx ++ [32]) ++ iJ r (bindsP tx+1))
def vH:Trs→Bool→List UInt8
 | .nil,_=>[]
 | .cons t r,first=>(if first=true then [] else [44,32]) ++ iJ t 1 ++ vH r false
end
theorem RJ (b:Bool)(s:List Pc):txP (parC b s)=yK b (txP s):=by
 cases b
 ·rfl
 ·show txP ([.w 3 [40]] ++ s ++ [.w 3 [41]])=_
  rw [txP_app,txP_app];rfl
mutual
theorem CV:∀(t:Tr) (c:Nat),txP (pcE t c)=iJ t c
 | .nil,c=>by simp [pcE,iJ,txP]
 | .ex k n nm tx l r ar ln,c=>by
   simp only [pcE,iJ]
   rw [←CV l 8,←CV r 8,←CV r 1,←CV l 1,←CV r 7,←CV l (bindsP tx),←CV r (bindsP tx+1),←txA ar true]
   repeat' split
   all_goals simp [txP_app,txP,RJ,wNew,wIn]
theorem txA:∀(a:Trs) (b:Bool),txP (pcAs a b)=vH a b
 | .nil,b=>by simp [pcAs,vH,txP]
 | .cons t r,b=>by
   simp only [pcAs,vH]
   rw [←CV t 1,←txA r false]
   cases b <;> simp [txP_app,txP]
end
section
variable {o A d:Nat} {bb:Bool}
theorem aY {σ:St} {l:List UInt8} (ss:List (List UInt8))(hb:bI A o σ l d bb)(bP:o<A)(hA:A≤σ.length)(hss:ss.length≤100000)(hl:l.length+ss.flatten.length≤1000000000) {Q:AV→St→Prop}
 (q:∀σ',bI A o σ' (l ++ ss.flatten) d bb→fP A o σ σ'→Q (.tu []) σ'):ay X 44 [.p o 0 0,.sl σ.length 0 0 ss.length 1] (au 9 (ss.map .s) σ) Q:=
 G6 ss (hb.new _ _) bP (by rw [aI];omega) (aH _ _ _) (by omega) hss hl fun σ' h1 k1=>q σ' h1 ((fP.new hA _ _).trans k1)
def gQ (A o d:Nat)(bb:Bool)(t:Tr):Prop:=∀{S:Nat→Prop} {σ:St} {v:AV} {l:List UInt8} (c:Nat),(∀i,S i→i<A∧i≠o)→bC S σ v t→bI A o σ l d bb→A≤σ.length→fJ σ=true→l.length+(iJ t c).length≤1000000000→∀{Q:AV→St→Prop},
 (∀σ',bI A o σ' (l ++ iJ t c) d bb→fP A o σ σ'→Q (.tu []) σ')→ay X 109 [.p o 0 0,v,.i .i64 c] σ Q
theorem bC.kept {S:Nat→Prop} {σ σ':St} {v:AV} {t:Tr} (hS:∀i,S i→i<A∧i≠o)(h:bC S σ v t)(k:fP A o σ σ'):bC S σ' v t:=h.mono (fun _ h=>h) (fun i hi a ha=>by rw [k.low i (hS i hi).1 (hS i hi).2];exact ha)
theorem gK.kept {S:Nat→Prop} {σ σ':St} {v:AV} {t:Trs} (hS:∀i,S i→i<A∧i≠o)(h:gK S σ v t)(k:fP A o σ σ'):gK S σ' v t:=h.mono (fun _ h=>h) (fun i hi a ha=>by rw [k.low i (hS i hi).1 (hS i hi).2];exact ha)
theorem fP.tab {σ σ':St} (k:fP A o σ σ')(hG:10≤A∧10≤o)(h:fJ σ=true):fJ σ'= true:=by
 unfold fJ at h ⊢
 rw [k.low 5 (by omega) (by omega)]
 exact h
theorem bI.fin {σ σ':St} {l l':List UInt8} (h:bI A o σ l d bb)(k:bI A o σ' l' d bb)(hk:fP A o σ σ') {Q:AV→St→Prop} (q:∀σ',bI A o σ' l' d bb→fP A o σ σ'→Q (.tu []) σ'):Fin σ (.tu []) σ' Q:=
 iY (q σ' k hk) fun ht=>q σ (h.back k ht) (.refl _ _ _)
theorem OC (bP:o<A) {k n ln:Nat} {nm tx:List UInt8} {l r:Tr} {ar:Trs} (hk:k=2):gQ A o d bb (.ex k n nm tx l r ar ln):=by
 intro S σ v out c hS hv hb hA hT hl Q q
 obtain⟨ox,gx,L,R,Ax,hs,rfl,hx,_⟩:=hv
 subst hk
 rw [iJ,if_neg (by decide),if_pos rfl] at hl q
 refine ay.body (F:=vg) aC (lit:=false) rfl rfl (Nat.le_of_ble_eq_true rfl) ?_
 conv=>whnf
 refine ak (aj (T:=dJ) rfl rfl (ah (hx)) rfl) ?_
 conv=>whnf
 refine ak (aj (T:=dP) rfl rfl (ah (hx)) rfl) ?_
 conv=>whnf
 refine aY [nm] hb bP hA (by simp) (by simpa using hl) fun σ1 h1 k1=>?_
 conv=>whnf
 rw [show [nm].flatten=nm by simp] at h1
 exact hb.fin h1 k1 q
theorem Vs (bP:o<A) {k n ln:Nat} {nm tx:List UInt8} {l r:Tr} {ar:Trs} (hk:k=8):gQ A o d bb (.ex k n nm tx l r ar ln):=by
 intro S σ v out c hS hv hb hA hT hl Q q
 obtain⟨ox,gx,L,R,Ax,hs,rfl,hx,_⟩:=hv
 subst hk
 rw [iJ,if_neg (by decide),if_neg (by decide),if_neg (by decide),if_neg (by decide),if_neg (by decide),if_neg (by decide),if_pos rfl] at hl q
 refine ay.body (F:=vg) aC (lit:=false) rfl rfl (Nat.le_of_ble_eq_true rfl) ?_
 conv=>whnf
 refine ak (aj (T:=dJ) rfl rfl (ah (hx)) rfl) ?_
 conv=>whnf
 refine aY [[105,110,40,41]] hb bP hA (by simp) (by simpa using hl) fun σ1 h1 k1=>?_
 conv=>whnf
 exact hb.fin h1 k1 q
theorem RN (bP:o<A)(hG:10≤A∧10≤o) {k n ln:Nat} {nm tx:List UInt8} {l r:Tr} {ar:Trs} (hk:k=7)(il:gQ A o d bb l):gQ A o d bb (.ex k n nm tx l r ar ln):=by
 intro S σ v out c hS hv hb hA hT hl Q q
 obtain⟨ox,gx,L,R,Ax,hs,rfl,hx,hL,_,_⟩:=hv
 subst hk
 rw [iJ,if_neg (by decide),if_neg (by decide),if_neg (by decide),if_neg (by decide),if_neg (by decide),if_pos rfl] at hl q
 simp only [List.length_append,List.length_cons,List.length_nil] at hl
 have hxo:=hS ox hs
 refine ay.body (F:=vg) aC (lit:=false) rfl rfl (Nat.le_of_ble_eq_true rfl) ?_
 conv=>whnf
 refine ak (aj (T:=dJ) rfl rfl (ah (hx)) rfl) ?_
 conv=>whnf
 refine aY [[110,101,119,40]] hb bP hA (by simp) (by simp;omega) fun σ1 h1 k1=>?_
 have hx1:σ1[ox]? =_:=(k1.low ox hxo.1 hxo.2).trans hx
 have l1:=k1.len
 conv=>whnf
 refine ak (aj (T:=aV) rfl rfl (ah hx1) rfl) ?_
 refine bY _ _ ?_
 refine dh _ _ ?_
 refine il 1 hS (hL.kept hS k1) h1 (by omega) (k1.tab hG hT) (by simp;omega) fun σ2 h2 k2=>?_
 have l2:=k2.len
 conv=>whnf
 refine aY [[41]] h2 bP (by omega) (by simp) (by simp;omega) fun σ3 h3 k3=>?_
 conv=>whnf
 exact hb.fin (by simpa [List.append_assoc] using h3) ((k1.trans k2).trans k3) (by simpa [List.append_assoc] using q)
end
end Go.Abs.YtlkfbfhkcaldlaaGreatDoor
namespace Go.Abs.YtlkfbfhkcaldlaaGreatDoor
open Go.Proofs
set_option maxRecDepth 4000
section
variable {o A d:Nat} {bb:Bool}
theorem wrap_u32 {a:Nat} (h:a<4294967296):IntKind.u64.wrap a=a:=by
 simp only [IntKind.wrap,IntKind.signed,IntKind.bits,if_false,Bool.false_eq_true,Bool.false_and];omega
theorem Vt {n:Nat} {σ:St} (hT:fJ σ=true)(hn:n<4294967296):ay X 135 [.i .u64 n,.i .i64 10] σ fun v s=>v= .s (Lib.decDigits n)∧s=σ:=by
 refine ay.body (F:=Ug) aC (lit:=false) rfl rfl (Nat.le_of_ble_eq_true rfl) ?_
 conv=>whnf
 refine ay.prim (g:=jh) (v:=.s (Lib.decDigits n)) (σ':=σ) rfl ?_ ?_
 ·simp only [jh]
  rw [if_pos ⟨by omega,by omega,.inr hT⟩,Int.toNat_natCast]
 conv=>whnf
 exact Fin.flat rfl List.take_length ⟨rfl,rfl⟩
theorem RP (bP:o<A) {k n ln:Nat} {nm tx:List UInt8} {l r:Tr} {ar:Trs} (hk:k=1)(hn:n<4294967296):gQ A o d bb (.ex k n nm tx l r ar ln):=by
 intro S σ v out c hS hv hb hA hT hl Q q
 obtain⟨ox,gx,L,R,Ax,hs,rfl,hx,_⟩:=hv
 subst hk
 rw [iJ,if_pos rfl] at hl q
 refine ay.body (F:=vg) aC (lit:=false) rfl rfl (Nat.le_of_ble_eq_true rfl) ?_
 conv=>whnf
 refine ak (aj (T:=dJ) rfl rfl (ah (hx)) rfl) ?_
 conv=>whnf
 refine ak (aj (T:=Qz) rfl rfl (ah (hx)) rfl) ?_
 conv=>whnf
 refine⟨n,wrap_u32 hn,?_⟩
 conv=>whnf
 refine ay.to (Vt hT hn) ?_
 conv=>whnf
 refine aY [Lib.decDigits n] hb bP hA (by simp) (by simpa using hl) fun σ1 h1 k1=>?_
 conv=>whnf
 exact hb.fin (by simpa using h1) k1 q
theorem OD (bP:o<A)(hG:10≤A∧10≤o) {k n ln:Nat} {nm tx:List UInt8} {l r:Tr} {ar:Trs} (hk:k=5)(il:gQ A o d bb l)(ir:gQ A o d bb r):gQ A o d bb (.ex k n nm tx l r ar ln):=by
 intro S σ v out c hS hv hb hA hT hl Q q
 obtain⟨ox,gx,L,R,Ax,hs,rfl,hx,hL,hR,_⟩:=hv
 subst hk
 rw [iJ,if_neg (by decide),if_neg (by decide),if_neg (by decide),if_pos rfl] at hl q
 simp only [List.length_append,List.length_cons,List.length_nil] at hl
 have hxo:=hS ox hs
 refine ay.body (F:=vg) aC (lit:=false) rfl rfl (Nat.le_of_ble_eq_true rfl) ?_
 conv=>whnf
 refine ak (aj (T:=dJ) rfl rfl (ah (hx)) rfl) ?_
 conv=>whnf
 refine ak (aj (T:=aV) rfl rfl (ah hx) rfl) ?_
 refine bY _ _ ?_
 refine dh _ _ ?_
 refine il 8 hS hL hb hA hT (by omega) fun σ1 h1 k1=>?_
 have l1:=k1.len
 conv=>whnf
 refine aY [[91]] h1 bP (by omega) (by simp) (by simp;omega) fun σ2 h2 k2'=>?_
 have k2:=k1.trans k2'
 have l2:=k2.len
 have hx2:σ2[ox]? =_:=(k2.low ox hxo.1 hxo.2).trans hx
 conv=>whnf
 refine ak (aj (T:=aV) rfl rfl (ah hx2) rfl) ?_
 refine bY _ _ ?_
 refine dh _ _ ?_
 refine ir 1 hS (hR.kept hS k2) h2 (by omega) (k2.tab hG hT) (by simp;omega) fun σ3 h3 jF=>?_
 have k3:=k2.trans jF
 have l3:=k3.len
 conv=>whnf
 refine aY [[93]] h3 bP (by omega) (by simp) (by simp;omega) fun bW h4 k4=>?_
 conv=>whnf
 exact hb.fin (by simpa [List.append_assoc] using h4) (k3.trans k4) (by simpa [List.append_assoc] using q)
theorem OE (bP:o<A)(hG:10≤A∧10≤o) {k n ln:Nat} {nm tx:List UInt8} {l r:Tr} {ar:Trs} (hk:k=6)(hr:nnT r)(il:gQ A o d bb l)(ir:gQ A o d bb r):gQ A o d bb (.ex k n nm tx l r ar ln):=by
 intro S σ v out c hS hv hb hA hT hl Q q
 obtain⟨ox,gx,L,R,Ax,hs,rfl,hx,hL,hR,_⟩:=hv
 subst hk
 rw [iJ,if_neg (by decide),if_neg (by decide),if_neg (by decide),if_neg (by decide),if_pos rfl] at hl q
 simp only [List.length_append,List.length_cons,List.length_nil] at hl
 have hxo:=hS ox hs
 refine ay.body (F:=vg) aC (lit:=false) rfl rfl (Nat.le_of_ble_eq_true rfl) ?_
 conv=>whnf
 refine ak (aj (T:=dJ) rfl rfl (ah (hx)) rfl) ?_
 conv=>whnf
 refine ak (aj (T:=aV) rfl rfl (ah hx) rfl) ?_
 refine bY _ _ ?_
 refine dh _ _ ?_
 refine il 8 hS hL hb hA hT (by omega) fun σ1 h1 k1=>?_
 have l1:=k1.len
 conv=>whnf
 refine aY [[58]] h1 bP (by omega) (by simp) (by simp;omega) fun σ2 h2 k2'=>?_
 have k2:=k1.trans k2'
 have l2:=k2.len
 have hx2:σ2[ox]? =_:=(k2.low ox hxo.1 hxo.2).trans hx
 have hR2:=hR.kept hS k2
 cases r with
 | nil=>exact hr.elim
 | ex kr nr nmr txr lr rr arr lnr=>
   have hRR:=hR2
   obtain⟨oy,gy,Ly,Ry,Ay,hsy,rfl,hy,_⟩:=hRR
   conv=>whnf
   refine ak (aj (T:=aV) rfl rfl (ah (hx2)) rfl) ?_
   conv=>whnf
   refine ak (aj (T:=aV) rfl rfl (ah (hx2)) rfl) ?_
   conv=>whnf
   refine ak (aj (T:=dJ) rfl rfl (ah (hy)) rfl) ?_
   conv=>whnf
   have wide:isNN (.ex kr nr nmr txr lr rr arr lnr)=(kr == 1 || kr == 2):=rfl
   rw [wide] at hl q
   by_cases h1':kr=1
   ·rw [if_pos (by simp [h1'])] at hl q
    rw [decide_eq_true (by omega)]
    conv=>whnf
    conv=>whnf
    refine ak (aj (T:=aV) rfl rfl (ah (hx2)) rfl) ?_
    conv=>whnf
    refine ir 8 hS hR2 h2 (by omega) (k2.tab hG hT) (by simp;omega) fun σ3 h3 k3=>?_
    conv=>whnf
    exact hb.fin (by simpa [List.append_assoc] using h3) (k2.trans k3) (by simpa [List.append_assoc] using q)
   ·rw [decide_eq_false (by omega)]
    conv=>whnf
    conv=>whnf
    refine ak (aj (T:=aV) rfl rfl (ah (hx2)) rfl) ?_
    conv=>whnf
    refine ak (aj (T:=dJ) rfl rfl (ah (hy)) rfl) ?_
    conv=>whnf
    by_cases h2':kr=2
    ·rw [if_pos (by simp [h2'])] at hl q
     rw [decide_eq_true (by omega)]
     conv=>whnf
     conv=>whnf
     refine ak (aj (T:=aV) rfl rfl (ah (hx2)) rfl) ?_
     conv=>whnf
     refine ir 8 hS hR2 h2 (by omega) (k2.tab hG hT) (by simp;omega) fun σ3 h3 k3=>?_
     conv=>whnf
     exact hb.fin (by simpa [List.append_assoc] using h3) (k2.trans k3) (by simpa [List.append_assoc] using q)
    ·rw [if_neg (by simp [h1',h2'])] at hl q
     simp only [List.length_append,List.length_cons,List.length_nil] at hl
     rw [decide_eq_false (by omega)]
     conv=>whnf
     conv=>whnf
     refine aY [[40]] h2 bP (by omega) (by simp) (by simp;omega) fun σ3 h3 jF=>?_
     have k3:=k2.trans jF
     have l3:=k3.len
     have hx3:σ3[ox]? =_:=(k3.low ox hxo.1 hxo.2).trans hx
     conv=>whnf
     refine ak (aj (T:=aV) rfl rfl (ah (hx3)) rfl) ?_
     conv=>whnf
     refine ir 1 hS (hR.kept hS k3) h3 (by omega) (k3.tab hG hT) (by simp;omega) fun bW h4 J8=>?_
     have k4:=k3.trans J8
     have l4:=k4.len
     conv=>whnf
     refine aY [[41]] h4 bP (by omega) (by simp) (by simp;omega) fun dL h5 k5=>?_
     conv=>whnf
     exact hb.fin (by simpa [List.append_assoc] using h5) (k4.trans k5) (by simpa [List.append_assoc] using q)
end
end Go.Abs.YtlkfbfhkcaldlaaGreatDoor
namespace Go.Abs.YtlkfbfhkcaldlaaGreatDoor
open Go.Proofs
set_option maxRecDepth 4000
theorem OG {X:Ctx} {τ:kR} {lit:Bool} {C:AC} {e:Env} {σ:St} {K0:Out→Env→St→Prop} (R:Env→St→Prop)(h:∀K:Out→Env→St→Prop,(∀e' σ',R e' σ'→K .normal e' σ')→wC X τ lit C e σ K)(h2:∀e' σ',R e' σ'→K0 .normal e' σ'):wC X τ lit C e σ K0:=h K0 h2
section
variable {o A d:Nat} {bb:Bool}
set_option maxHeartbeats 2000000 in
theorem Vu (bP:o<A)(hG:10≤A∧10≤o) {n ln ox gx c:Nat} {nm tx:List UInt8} {l r:Tr} {L R Ax:AV} {S:Nat→Prop} {σ:St} {out:List UInt8} (hS:∀i,S i→i<A∧i≠o)(hs:S ox)(hx:σ[ox]? =some (exO gx 3 n nm tx L R Ax ln))(hL:bC S σ L l)(hR:bC S σ R r)(hl0:l= .nil)(ir:gQ A o d bb r)
 (hb:bI A o σ out d bb) (hA:A≤σ.length) (hT:fJ σ=true) (hl:out.length+(yK (decide (7<c)) (tx ++ iJ r 7)).length≤1000000000) {Q:AV→St→Prop} (q:∀σ',bI A o σ' (out ++ yK (decide (7<c)) (tx ++ iJ r 7)) d bb→fP A o σ σ'→Q (.tu []) σ'):ay X 136 [.p o 0 0,.p ox gx 0,.i .i64 c] σ Q:=by
 have hxo:=hS ox hs
 subst hl0
 have hL:L= .p0:=hL
 subst hL
 refine ay.body (F:=Qk) aC (lit:=false) rfl rfl (Nat.le_of_ble_eq_true rfl) ?_
 conv=>whnf
 refine ak (aj (T:=aV) rfl rfl (ah (hx)) rfl) ?_
 conv=>whnf
 by_cases hc:7<c
 ·rw [decide_eq_true hc,yK,if_pos rfl] at hl q
  simp only [List.length_append,List.length_cons,List.length_nil] at hl
  rw [show decide ((7:Int)<(c:Int))=true from decide_eq_true (by omega)]
  dsimp only
  rw [wO]
  refine OG (R:=fun e' σ2=>∃σ1,bI A o σ1 (out ++ [[40]].flatten) d bb∧fP A o σ σ1∧σ2[σ1.length]? =some ⟨0,false,.cells 9 [.s [41]]⟩∧Ext σ1 σ2∧σ2.length=σ1.length+1∧e'= put (some 24) (.sl σ1.length 0 0 1 1) (put (some 23) (.p o 0 0) (put (some 22) (.tu []) (put (some 21) (.sl σ.length 0 0 1 1) (put (some 20) (.p o 0 0) [(0,.p o 0 0),(1,.p ox gx 0),(6,.i .i64 7),(19,.b true)]))))) (fun K hK=>?_) ?_
  ·conv=>whnf
   refine aY [[40]] hb bP hA (by simp) (by simp;omega) fun σ1 h1 k1=>?_
   conv=>whnf
   have b2:(au 9 [.s [41]] σ1)[σ1.length]? =some ⟨0,false,.cells 9 [.s [41]]⟩:=aH _ _ _
   have x2:Ext σ1 (au 9 [.s [41]] σ1):=(Ext.refl σ1).new _ _
   have l2:(au 9 [.s [41]] σ1).length=σ1.length+1:=aI _ _ _
   generalize au 9 [.s [41]] σ1=σ2 at b2 x2 l2 ⊢
   exact hK _ _ ⟨σ1,h1,k1,b2,x2,l2,rfl⟩
  rintro e' σ2 ⟨σ1,h1,k1,b2,x2,l2,rfl⟩
  have l1:=k1.len
  conv=>whnf
  have k2:fP A o σ σ2:=k1.trans ⟨by omega,fun i hi _=>x2.old i (by omega),fun i a ha _ _=>x2.get ha⟩
  have h2:bI A o σ2 (out ++ [[40]].flatten) d bb:=by
   obtain⟨b0,buf,j1,j2,j3,j4⟩:=h1
   exact⟨b0,buf,x2.get j1,j2,j3,j4.same fun o' g' n z e=>by
        rcases j4 with ⟨_,e1⟩ | ⟨o1,g1,_,e1,j5⟩
        ·rw [e1] at e;cases e
        ·rw [e1] at e;cases e;exact x2.old _ (bn j5)⟩
  have hC2:σ2[σ1.length]? =some ⟨0,false,.cells 9 ([[41]].map AV.s)⟩:=b2
  have OB:σ1.length≠o:=by omega
  have hx2:σ2[ox]? =_:=(k2.low ox hxo.1 hxo.2).trans hx
  have Vw:A≤σ2.length:=by omega
  refine ak (aj (T:=aV) rfl rfl (ah (hx2)) rfl) ?_
  conv=>whnf
  refine ak (aj (T:=dP) rfl rfl (ah (hx2)) rfl) ?_
  conv=>whnf
  refine aY [tx] h2 bP Vw (by simp) (by simp;omega) fun bW h4 J8=>?_
  have k4:=k2.trans J8
  have l4:=k4.len
  have hC4:bW[σ1.length]? =_:=J8.J7 _ _ hC2 OB (by intro _ _ _ e;cases e)
  have hx4:bW[ox]? =_:=(k4.low ox hxo.1 hxo.2).trans hx
  conv=>whnf
  refine ak (aj (T:=aV) rfl rfl (ah hx4) rfl) ?_
  refine bY _ _ ?_
  refine dh _ _ ?_
  refine ir 7 hS (hR.kept hS k4) h4 (by omega) (k4.tab hG hT) (by simp;omega) fun dL h5 Gs=>?_
  have k5:=k4.trans Gs
  have l5:=k5.len
  conv=>whnf
  have hC5:dL[σ1.length]? =_:=Gs.J7 _ _ hC4 OB (by intro _ _ _ e;cases e)
  refine G6 [[41]] h5 bP (by omega) hC5 OB (by simp) (by simp;omega) fun jY h6 k6=>?_
  conv=>whnf
  exact hb.fin (by simpa [List.append_assoc] using h6) (k5.trans k6) (by simpa [List.append_assoc] using q)
 ·rw [decide_eq_false hc,yK,if_neg (by decide)] at hl q
  simp only [List.length_append,List.length_cons,List.length_nil] at hl
  rw [show decide ((7:Int)<(c:Int))=false from decide_eq_false (by omega)]
  conv=>whnf
  have k2:fP A o σ σ:=.refl _ _ _
  have h2:bI A o σ out d bb:=hb
  have hx2:=hx
  have Vw:A≤σ.length:=by exact hA
  refine ak (aj (T:=aV) rfl rfl (ah (hx2)) rfl) ?_
  conv=>whnf
  refine ak (aj (T:=dP) rfl rfl (ah (hx2)) rfl) ?_
  conv=>whnf
  refine aY [tx] h2 bP Vw (by simp) (by simp;omega) fun bW h4 J8=>?_
  have k4:=k2.trans J8
  have l4:=k4.len
  have hx4:bW[ox]? =_:=(k4.low ox hxo.1 hxo.2).trans hx
  conv=>whnf
  refine ak (aj (T:=aV) rfl rfl (ah hx4) rfl) ?_
  refine bY _ _ ?_
  refine dh _ _ ?_
  refine ir 7 hS (hR.kept hS k4) h4 (by omega) (k4.tab hG hT) (by simp;omega) fun dL h5 Gs=>?_
  have k5:=k4.trans Gs
  have l5:=k5.len
  conv=>whnf
  exact hb.fin (by simpa [List.append_assoc] using h5) k5 (by simpa [List.append_assoc] using q)
set_option maxHeartbeats 2000000 in
theorem Vx (bP:o<A)(hG:10≤A∧10≤o) {n ln ox gx c:Nat} {nm tx:List UInt8} {l r:Tr} {L R Ax:AV} {S:Nat→Prop} {σ:St} {out:List UInt8} (hS:∀i,S i→i<A∧i≠o)(hs:S ox)(hx:σ[ox]? =some (exO gx 3 n nm tx L R Ax ln))(hL:bC S σ L l)(hR:bC S σ R r)(hl0:nnT l)(il:gQ A o d bb l)(ir:gQ A o d bb r)
 (hb:bI A o σ out d bb) (hA:A≤σ.length) (hT:fJ σ=true) (hl:out.length+(yK (decide ((bindsP tx)<c)) (iJ l (bindsP tx) ++ ([32] ++ tx ++ [32]) ++ iJ r (bindsP tx+1))).length≤1000000000) {Q:AV→St→Prop} (q:∀σ',bI A o σ' (out ++ yK (decide ((bindsP tx)<c)) (iJ l (bindsP tx) ++ ([32] ++ tx ++ [32]) ++ iJ r (bindsP tx+1))) d bb→fP A o σ σ'→Q (.tu []) σ'):ay X 136 [.p o 0 0,.p ox gx 0,.i .i64 c] σ Q:=by
 have hxo:=hS ox hs
 have hsh:∃o' g',L= .p o' g' 0:=by
  cases l with
  | nil=>exact hl0.elim
  | ex=>obtain⟨o',g',_,_,_,_,hv,_⟩:=hL;exact⟨o',g',hv⟩
 obtain⟨ol,gl,rfl⟩:=hsh
 have hbn:=Am tx
 refine ay.body (F:=Qk) aC (lit:=false) rfl rfl (Nat.le_of_ble_eq_true rfl) ?_
 conv=>whnf
 refine ak (aj (T:=aV) rfl rfl (ah (hx)) rfl) ?_
 conv=>whnf
 refine ak (aj (T:=dP) rfl rfl (ah (hx)) rfl) ?_
 conv=>whnf
 refine ay.to (IE tx σ) ?_
 conv=>whnf
 by_cases hc:(bindsP tx)<c
 ·rw [decide_eq_true hc,yK,if_pos rfl] at hl q
  simp only [List.length_append,List.length_cons,List.length_nil] at hl
  rw [show decide ((bindsP tx:Int)<(c:Int))=true from decide_eq_true (by omega)]
  dsimp only
  rw [wO]
  refine OG (R:=fun e' σ2=>∃σ1,bI A o σ1 (out ++ [[40]].flatten) d bb∧fP A o σ σ1∧σ2[σ1.length]? =some ⟨0,false,.cells 9 [.s [41]]⟩∧Ext σ1 σ2∧σ2.length=σ1.length+1∧e'= put (some 24) (.sl σ1.length 0 0 1 1) (put (some 23) (.p o 0 0) (put (some 22) (.tu []) (put (some 21) (.sl σ.length 0 0 1 1) (put (some 20) (.p o 0 0) [(0,.p o 0 0),(1,.p ox gx 0),(6,.i .i64 (bindsP tx:Nat)),(19,.b true)]))))) (fun K hK=>?_) ?_
  ·conv=>whnf
   refine aY [[40]] hb bP hA (by simp) (by simp;omega) fun σ1 h1 k1=>?_
   conv=>whnf
   have b2:(au 9 [.s [41]] σ1)[σ1.length]? =some ⟨0,false,.cells 9 [.s [41]]⟩:=aH _ _ _
   have x2:Ext σ1 (au 9 [.s [41]] σ1):=(Ext.refl σ1).new _ _
   have l2:(au 9 [.s [41]] σ1).length=σ1.length+1:=aI _ _ _
   generalize au 9 [.s [41]] σ1=σ2 at b2 x2 l2 ⊢
   exact hK _ _ ⟨σ1,h1,k1,b2,x2,l2,rfl⟩
  rintro e' σ2 ⟨σ1,h1,k1,b2,x2,l2,rfl⟩
  have l1:=k1.len
  conv=>whnf
  have k2:fP A o σ σ2:=k1.trans ⟨by omega,fun i hi _=>x2.old i (by omega),fun i a ha _ _=>x2.get ha⟩
  have h2:bI A o σ2 (out ++ [[40]].flatten) d bb:=by
   obtain⟨b0,buf,j1,j2,j3,j4⟩:=h1
   exact⟨b0,buf,x2.get j1,j2,j3,j4.same fun o' g' n z e=>by
        rcases j4 with ⟨_,e1⟩ | ⟨o1,g1,_,e1,j5⟩
        ·rw [e1] at e;cases e
        ·rw [e1] at e;cases e;exact x2.old _ (bn j5)⟩
  have hC2:σ2[σ1.length]? =some ⟨0,false,.cells 9 ([[41]].map AV.s)⟩:=b2
  have OB:σ1.length≠o:=by omega
  have hx2:σ2[ox]? =_:=(k2.low ox hxo.1 hxo.2).trans hx
  have Vw:A≤σ2.length:=by omega
  refine ak (aj (T:=aV) rfl rfl (ah (hx2)) rfl) ?_
  conv=>whnf
  refine ak (aj (T:=aV) rfl rfl (ah (hx2)) rfl) ?_
  conv=>whnf
  refine il (bindsP tx) hS (hL.kept hS k2) h2 Vw (k2.tab hG hT) (by first | omega | (simp;omega)) fun σ3 h3 jF=>?_
  have k3:=k2.trans jF
  have l3:=k3.len
  have hx3:σ3[ox]? =_:=(k3.low ox hxo.1 hxo.2).trans hx
  conv=>whnf
  refine ak (aj (T:=dP) rfl rfl (ah (hx3)) rfl) ?_
  conv=>whnf
  refine aY [[32],tx,[32]] h3 bP (by omega) (by simp) (by simp;omega) fun bW h4 OH=>?_
  have J8:=jF.trans OH
  have k4:=k3.trans OH
  have l4:=k4.len
  conv=>whnf
  refine⟨((bindsP tx+1:Nat):Int),by rw [wrap_i64 (by omega) (by omega)];omega,?_⟩
  have hC4:bW[σ1.length]? =_:=J8.J7 _ _ hC2 OB (by intro _ _ _ e;cases e)
  have hx4:bW[ox]? =_:=(k4.low ox hxo.1 hxo.2).trans hx
  conv=>whnf
  refine ak (aj (T:=aV) rfl rfl (ah hx4) rfl) ?_
  refine bY _ _ ?_
  refine dh _ _ ?_
  refine ir (bindsP tx+1) hS (hR.kept hS k4) h4 (by omega) (k4.tab hG hT) (by simp;omega) fun dL h5 Gs=>?_
  have k5:=k4.trans Gs
  have l5:=k5.len
  conv=>whnf
  have hC5:dL[σ1.length]? =_:=Gs.J7 _ _ hC4 OB (by intro _ _ _ e;cases e)
  refine G6 [[41]] h5 bP (by omega) hC5 OB (by simp) (by simp;omega) fun jY h6 k6=>?_
  conv=>whnf
  exact hb.fin (by simpa [List.append_assoc] using h6) (k5.trans k6) (by simpa [List.append_assoc] using q)
 ·rw [decide_eq_false hc,yK,if_neg (by decide)] at hl q
  simp only [List.length_append,List.length_cons,List.length_nil] at hl
  rw [show decide ((bindsP tx:Int)<(c:Int))=false from decide_eq_false (by omega)]
  conv=>whnf
  have k2:fP A o σ σ:=.refl _ _ _
  have h2:bI A o σ out d bb:=hb
  have hx2:=hx
  have Vw:A≤σ.length:=by exact hA
  refine ak (aj (T:=aV) rfl rfl (ah (hx2)) rfl) ?_
  conv=>whnf
  refine ak (aj (T:=aV) rfl rfl (ah (hx2)) rfl) ?_
  conv=>whnf
  refine il (bindsP tx) hS (hL.kept hS k2) h2 Vw (k2.tab hG hT) (by first | omega | (simp;omega)) fun σ3 h3 jF=>?_
  have k3:=k2.trans jF
  have l3:=k3.len
  have hx3:σ3[ox]? =_:=(k3.low ox hxo.1 hxo.2).trans hx
  conv=>whnf
  refine ak (aj (T:=dP) rfl rfl (ah (hx3)) rfl) ?_
  conv=>whnf
  refine aY [[32],tx,[32]] h3 bP (by omega) (by simp) (by simp;omega) fun bW h4 OH=>?_
  have J8:=jF.trans OH
  have k4:=k3.trans OH
  have l4:=k4.len
  conv=>whnf
  refine⟨((bindsP tx+1:Nat):Int),by rw [wrap_i64 (by omega) (by omega)];omega,?_⟩
  have hx4:bW[ox]? =_:=(k4.low ox hxo.1 hxo.2).trans hx
  conv=>whnf
  refine ak (aj (T:=aV) rfl rfl (ah hx4) rfl) ?_
  refine bY _ _ ?_
  refine dh _ _ ?_
  refine ir (bindsP tx+1) hS (hR.kept hS k4) h4 (by omega) (k4.tab hG hT) (by simp;omega) fun dL h5 Gs=>?_
  have k5:=k4.trans Gs
  have l5:=k5.len
  conv=>whnf
  exact hb.fin (by simpa [List.append_assoc] using h5) k5 (by simpa [List.append_assoc] using q)
theorem OI (bP:o<A)(hG:10≤A∧10≤o) {k n ln:Nat} {nm tx:List UInt8} {l r:Tr} {ar:Trs} (hk:k=3)(il:nnT l→gQ A o d bb l)(ir:gQ A o d bb r):gQ A o d bb (.ex k n nm tx l r ar ln):=by
 intro S σ v out c hS hv hb hA hT hl Q q
 obtain⟨ox,gx,L,R,Ax,hs,rfl,hx,hL,hR,_⟩:=hv
 subst hk
 rw [iJ,if_neg (by decide),if_neg (by decide),if_neg (by decide),if_neg (by decide),if_neg (by decide),if_neg (by decide),if_neg (by decide)] at hl q
 cases l with
 | nil=>
   rw [if_pos (show isNil .nil=true from rfl)] at hl q
   refine ay.body (F:=vg) aC (lit:=false) rfl rfl (Nat.le_of_ble_eq_true rfl) ?_
   conv=>whnf
   refine ak (aj (T:=dJ) rfl rfl (ah (hx)) rfl) ?_
   conv=>whnf
   refine Vu bP hG hS hs hx hL hR rfl ir hb hA hT hl fun σ1 h1 k1=>?_
   conv=>whnf
   exact hb.fin h1 k1 q
 | ex k1 n1 nm1 tx1 l1 r1 ar1 ln1=>
   rw [if_neg (show ¬isNil (.ex k1 n1 nm1 tx1 l1 r1 ar1 ln1)=true from by simp [isNil])] at hl q
   refine ay.body (F:=vg) aC (lit:=false) rfl rfl (Nat.le_of_ble_eq_true rfl) ?_
   conv=>whnf
   refine ak (aj (T:=dJ) rfl rfl (ah (hx)) rfl) ?_
   conv=>whnf
   refine Vx bP hG hS hs hx hL hR trivial (il trivial) ir hb hA hT hl fun σ1 h1 k1=>?_
   conv=>whnf
   exact hb.fin h1 k1 q
end
end Go.Abs.YtlkfbfhkcaldlaaGreatDoor
