/- Texts of this claim, joined: Ua, Ub, Uc, Ud, Ue, Uf, Ug. -/
import Derived.Test.YtlkfbfhkcaldlaaGreatDoorM19
import Derived.Test.YtlkfbfhkcaldlaaGreatDoorM22
set_option linter.unusedVariables false
set_option linter.unusedSimpArgs false
namespace Go.Abs.YtlkfbfhkcaldlaaGreatDoor
open Go.Proofs
set_option maxRecDepth 4000
def qg (e A:Nat)(Z:St)(out:AV)(cs:List AV):Prop:=(cs=[]/\out= .sl0)\/∃o g,A<=o/\out= .sl o g 0 cs.length 1/\Z[o]? =some ⟨g,false,.cells e cs⟩
theorem qg.same {e A:Nat} {Z Z':St} {out:AV} {cs:List AV} (h:qg e A Z out cs)(k:∀o g n z,out= .sl o g 0 n z->Z'[o]? =Z[o]?):qg e A Z' out cs:=by
 rcases h with h | ⟨o,g,h1,h2,h3⟩
 ·exact .inl h
 ·exact .inr ⟨o,g,h1,h2,by rw [k o g _ _ h2];exact h3⟩
theorem qg.new {e A:Nat} {Z:St} {out:AV} {cs:List AV} (h:qg e A Z out cs)(e':Nat)(cs':List AV):qg e A (newCells e' cs' Z) out cs:=by
 rcases h with h | ⟨o,g,h1,h2,h3⟩
 ·exact .inl h
 ·exact .inr ⟨o,g,h1,h2,at_new h3 e' cs'⟩
theorem qg.cases {e A:Nat} {Z:St} {v:AV} {cs:List AV} (h:qg e A Z v cs):v= .sl0\/∃o g,v= .sl o g 0 cs.length 1:=by
 rcases h with ⟨_,rfl⟩ | ⟨o,g,_,rfl,_⟩
 ·exact .inl rfl
 ·exact .inr ⟨o,g,rfl⟩
theorem ZC {e t A:Nat} {T E:AT} (hT:KL.get t=some T)(hd:T.d= .slice e)(hE:KL.get e=some E)(hz:E.size=1)(hz2:E.zero.cells.length=1)(hb:Nat.blt 0 E.bytes=true)(hb8:E.bytes<=8)
 {Z:St} {out:AV} {cs:List AV} (h:qg e A Z out cs) {y:AV} {ys:List AV} (hy:srcCells 1 y Z=some (ys.length,ys)) (hl:cs.length+ys.length<=1000000000) (h1:cs.all AV.one=true) (h2:ys.all AV.one=true) (hq:∀Q:List AV->Prop,Q ys->II ys Q) (hA:A<=Z.length) {Q:AV->St->Prop}
 (q:∀out' Z',qg e A Z' out' (cs ++ ys)->Z.length<=Z'.length->(∀i,i<Z.length->(∀o g n z,out= .sl o g 0 n z->i≠o)->Z'[i]? =Z[i]?)->(∀o g n z,out'= .sl o g 0 n z->Z.length<=o\/∃g' n' z',out= .sl o g' 0 n' z')->(ys=[]->out'= out)->Q out' Z') :
 D8 KL.get false t out y Z Q:=by
 constructor
 refine ak hT ?_
 rw [hd]
 refine ak hE ?_
 rw [hz,hz2]
 have hbl:(Nat.blt 0 1 && Nat.beq 1 1 && Nat.blt 0 E.bytes)=true:=by rw [hb];rfl
 rw [hbl]
 refine ak hy ?_
 cases ys with
 | nil=>
   rcases h with ⟨rfl,rfl⟩ | ⟨o,g,k1,rfl,k3⟩
   ·exact q _ _ (.inl ⟨rfl,rfl⟩) (Nat.le_refl _) (fun _ _ _=>rfl) (fun o g n z h=>by cases h) (fun _=>rfl)
   ·exact q _ _ (.inr ⟨o,g,k1,by simp,by simpa using k3⟩) (Nat.le_refl _) (fun _ _ _=>rfl) (fun o' g' n z h=>by cases h;exact .inr ⟨_,_,_,rfl⟩) (fun _=>rfl)
 | cons y0 ys=>
   show Abs.cB (Nat.beq (ys.length+1) 0) _ _
   conv=>whnf
   rw [h2]
   conv=>whnf
   rcases h with ⟨rfl,rfl⟩ | ⟨o,g,k1,rfl,k3⟩
   ·conv=>whnf
    refine⟨?_,?_⟩
    ·have:(ys.length+1)*E.bytes<=(ys.length+1)*8:=Nat.mul_le_mul_left _ hb8
     simp only [bg,bZ] at hl ⊢;omega
    refine hq _ ?_
    conv=>whnf
    refine q _ _ (.inr ⟨Z.length,0,hA,rfl,?_⟩) (by rw [aH];omega) (fun i hi _=>eu hi) (fun o g n z h=>by cases h;exact .inl (Nat.le_refl _)) (fun h=>by cases h)
    exact aG _ _ _
   ·conv=>whnf
    refine ak (oC k3) ?_
    refine⟨rfl,by omega,?_,?_,?_⟩
    ·have:(cs.length+(ys.length+1))*E.bytes<=(cs.length+(ys.length+1))*8:=Nat.mul_le_mul_left _ hb8
     simp only [bg] at hl ⊢;omega
    ·rw [List.drop_zero,List.take_of_length_le (by omega)];exact h1
    ·conv=>whnf
     refine q _ _ (.inr ⟨o,g+1,k1,by simp,?_⟩) (by rw [gK];omega) (fun i hi hne=>by rw [rZ (fun e=>hne o g _ _ rfl e.symm)]) (fun o' g' n z h=>by cases h;exact .inr ⟨_,_,_,rfl⟩) (fun h=>by cases h)
     rw [at_set k3,List.drop_zero,List.take_of_length_le (by omega)]
theorem AY:∀l:List UInt8,(iM l).all AV.one=true
 | []=>rfl
 | _ :: l=>by show (_ && (iM l).all AV.one)=true;rw [AY l];rfl
theorem H9:∀(l:List UInt8) (Q:List AV->Prop),Q (iM l)->II (iM l) Q
 | [],_,h=>h
 | _ :: l,Q,h=>H9 l (fun r=>Q (_ :: r)) h
theorem jk (l:List UInt8):(iM l).length=l.length:=by unfold iM;rw [List.length_map]
theorem Sr (l t:List UInt8):iM (l ++ t)=iM l ++ iM t:=by unfold iM;rw [List.map_append]
def bY (A o:Nat)(Z:St)(l:List UInt8)(d:Nat)(bb:Bool):Prop:=
 ∃ b0 buf,Z[o]? =some ⟨0,false,.cells 79 [b0,buf,.i .i64 d,.b bb]⟩/\(b0= .p0\/b0= .p o 0 0)/\(l=[]->buf= .sl0)/\qg 5 A Z buf (iM l)
structure jg (A o:Nat)(Z Z':St):Prop where
 len:Z.length<=Z'.length
 low:∀i,i<A->i≠o->Z'[i]? =Z[i]?
 Sv:∀(i:Nat) (a:AO),Z[i]? =some a->i≠o->(∀(g:Nat) (ro:Bool) (cs:List AV),a≠⟨g,ro,.cells 5 cs⟩)->Z'[i]? =some a
theorem jg.refl (A o:Nat)(Z:St):jg A o Z Z:=⟨Nat.le_refl _,fun _ _ _=>rfl,fun _ _ h _ _=>h⟩
theorem jg.trans {A o:Nat} {a b c:St} (h:jg A o a b)(k:jg A o b c):jg A o a c:=⟨Nat.le_trans h.len k.len,fun i hi ho=>by rw [k.low i hi ho,h.low i hi ho],fun i x hx ho hu=>k.Sv i x (h.Sv i x hx ho hu) ho hu⟩
theorem jg.new {A o:Nat} {Z:St} (hA:A<=Z.length)(e:Nat)(cs:List AV):jg A o Z (newCells e cs Z):=⟨by rw [aH];omega,fun i hi _=>eu (by omega),fun i x hx _ _=>at_new hx _ _⟩
theorem bY.new {A o d:Nat} {Z:St} {l:List UInt8} {bb:Bool} (h:bY A o Z l d bb)(e:Nat)(cs:List AV):bY A o (newCells e cs Z) l d bb:=by
 obtain⟨b0,buf,h1,h2,h3,h4⟩:=h
 exact⟨b0,buf,at_new h1 _ _,h2,h3,h4.new _ _⟩
theorem au.fM {X:Ctx} {f:Nat} {g:List AV->St->Option (AV×St)} {args:List AV} {Z Z':St} {v:AV} {Q:AV->St->Prop} (hp:X.fM f=some g)(hg:g args Z=some (v,Z'))(q:Q v Z'):au X f args Z Q:=by
 constructor
 rw [kR hp]
 exact⟨(v,Z'),hg,q⟩
theorem H_ {l:List UInt8} (h:iM l=[]):l=[]:=by cases l with | nil=>rfl | cons _ _=>cases h
theorem take_at {Z Z':St} (h:Z'.take Z.length=Z) {i:Nat} (hi:i<Z.length):Z'[i]? =Z[i]? :=by
 have:=congrArg (fun l=>l[i]?) h
 simpa [List.getElem?_take,hi] using this
theorem bY.back {A o d:Nat} {Z Z':St} {l l':List UInt8} {bb:Bool} (h:bY A o Z l d bb)(k:bY A o Z' l' d bb)(ht:Z'.take Z.length=Z):bY A o Z l' d bb:=by
 obtain⟨b0,buf,h1,h2,h3,h4⟩:=h
 obtain⟨c0,bug,k1,k2,k3,k4⟩:=k
 have h5:=take_at ht (bK h1)
 rw [k1,h1] at h5
 injection h5 with h5
 injection h5 with _ _ h5
 injection h5 with _ h5
 injection h5 with e1 h5
 injection h5 with e2 h5
 subst e1;subst e2
 refine⟨c0,bug,h1,h2,k3,?_⟩
 rcases k4 with k4 | ⟨o2,g2,q1,q2,q3⟩
 ·exact .inl k4
 ·rcases h4 with ⟨_,e⟩ | ⟨o3,g3,p1,p2,p3⟩
  ·rw [q2] at e;cases e
  ·have:o2=o3:=by rw [q2] at p2;injection p2
   subst this
   exact .inr ⟨o2,g2,q1,q2,by rw [<-take_at ht (bK p3)];exact q3⟩
theorem ZE {o A d:Nat} {bb:Bool} {Z:St} {l:List UInt8} (t:List UInt8)(hb:bY A o Z l d bb)(dw:o<A)(hA:A<=Z.length)(hl:l.length+t.length<=1000000000) {Q:AV->St->Prop}
 (q:∀Z',bY A o Z' (l ++ t) d bb->jg A o Z Z'->Q (.tu [.i .i64 t.length,.ic0]) Z') :
 au X 78 [.p o 0 0,.s t] Z Q:=by
 have hb':=hb
 obtain⟨b0,buf,hob,hb0,hbn,hs⟩:=hb
 have fin:∀Z',bY A o Z' (l ++ t) d bb->jg A o Z Z'->Fin Z (.tu [.i .i64 t.length,.ic0]) Z' Q:=fun Z' h1 h2=>lZ (q Z' h1 h2) fun ht=>q Z (hb'.back h1 ht) (.refl _ _ _)
 refine au.body (F:=F78) ay (lit:=false) rfl rfl (aU rfl) ?_
 conv=>whnf
 obtain⟨Z1,hcc,h1,hrest,hlen1⟩:∃Z1,pCC [.p o 0 0] Z=some (.tu [],Z1)/\Z1[o]? =some ⟨0,false,.cells 79 [.p o 0 0,buf,.i .i64 d,.b bb]⟩/\(∀i,i≠o->Z1[i]? =Z[i]?)/\Z1.length=Z.length:=by
  rcases hb0 with rfl | rfl
  ·exact⟨_,by simp only [pCC,hob],at_set hob _,fun i hi=>by rw [rZ (fun e=>hi e.symm)],by rw [gK]⟩
  ·exact⟨Z,by simp only [pCC,hob,if_true],hob,fun _ _=>rfl,rfl⟩
 refine au.fM (g:=pCC) rfl hcc ?_
 have hs1:qg 5 A Z1 buf (iM l):=by
  rcases hs with h | ⟨o1,g1,k1,k2,k3⟩
  ·exact .inl h
  ·exact .inr ⟨o1,g1,k1,k2,by rw [hrest o1 (by omega)];exact k3⟩
 have hbl:=jk l
 have hoo:∀(o' g' n z:Nat),buf= .sl o' g' 0 n z->A<=o'/\∃cs,Z1[o']? =some ⟨g',false,.cells 5 cs⟩:=fun o' g' n z e=>by
  rcases hs1 with ⟨_,e1⟩ | ⟨o1,g1,k1,e1,k3⟩
  ·rw [e1] at e;cases e
  ·rw [e1] at e;cases e;exact⟨k1,_,k3⟩
 rcases hs.cases with rfl | ⟨o1,g1,rfl⟩
 all_goals
  conv=>whnf
  refine ak (aj (T:=YC) rfl rfl (ah (h1)) rfl) ?_
  conv=>whnf
  refine ZC (A:=A) (E:=yT5) rfl rfl rfl rfl rfl rfl (by decide) hs1 (ys:=iM t) (show srcCells 1 (.s t) Z1=_ from by rw [jk];rfl) (by rw [jk,jk];exact hl) (AY _) (AY _) (H9 _) (by omega) fun out' Z2 ho2 hln hk2 hk3 hk4=>?_
  have hob2:Z2[o]? =some ⟨0,false,.cells 79 [.p o 0 0,_,.i .i64 d,.b bb]⟩:=(hk2 o (bK h1) (fun o' g' n z e=>by have:=(hoo o' g' n z e).1;omega)).trans h1
  have hl2:Z.length<=Z2.length:=by omega
  have done:∀v,(l ++ t=[]->v= .sl0)->qg 5 A Z2 v (iM l ++ iM t)->bY A o (Z2.set o ⟨0,false,.cells 79 [.p o 0 0,v,.i .i64 d,.b bb]⟩) (l ++ t) d bb/\jg A o Z (Z2.set o ⟨0,false,.cells 79 [.p o 0 0,v,.i .i64 d,.b bb]⟩):=fun v hz hv=>by
   refine⟨⟨_,_,at_set hob2 _,.inr rfl,hz,?_⟩,⟨by rw [gK];omega,fun i hi hio=>?_,fun i a ha hio hu=>?_⟩⟩
   ·rw [Sr]
    rcases hv with h | ⟨o3,g3,k1,k2,k3⟩
    ·exact .inl h
    ·exact .inr ⟨o3,g3,k1,k2,by rw [rZ (by omega)];exact k3⟩
   ·rw [rZ (fun e=>hio e.symm),hk2 i (by omega) (fun o' g' n z e=>by have:=(hoo o' g' n z e).1;omega),hrest i hio]
   ·have hi:=bK ha
    have ha1:Z1[i]? =some a:=by rw [hrest i hio];exact ha
    rw [rZ (fun e=>hio e.symm),hk2 i (by omega) (fun o' g' n z e=>by
     obtain⟨_,cs,k3⟩:=hoo o' g' n z e
     intro e2;subst e2
     rw [ha1] at k3
     exact hu _ _ _ (Option.some.inj k3))]
    exact ha1
  have hd:=done _ (fun h=>by
   obtain⟨e1,e2⟩:=List.append_eq_nil_iff.1 h
   subst e2
   exact(hk4 rfl).trans (hbn e1)) ho2
  rcases ho2.cases with rfl | ⟨o3,g3,rfl⟩
  all_goals
   conv=>whnf
   refine ak (aC [.p o 0 0,_,.i .i64 d,.b bb] rfl hob2 rfl rfl (aU rfl) rfl) ?_
   conv=>whnf
   exact fin _ hd.1 hd.2
end Go.Abs.YtlkfbfhkcaldlaaGreatDoor
namespace Go.Abs.YtlkfbfhkcaldlaaGreatDoor
open Go.Proofs
set_option maxRecDepth 4000
section
variable {o A d C gC:Nat} {bb:Bool} {ss:List (List UInt8)}
theorem Wu (dw:o<A)(Wv:C≠o)(hss:ss.length<=100000) {Q:Out->Env->St->Prop} :∀(k m:Nat) (Z:St) (l:List UInt8),m+k=ss.length->bY A o Z l d bb->A<=Z.length->Z[C]? =some ⟨gC,false,.cells 9 (ss.map .s)⟩->l.length+(ss.drop m).flatten.length<=1000000000->
 (∀e' Z',bY A o Z' (l ++ (ss.drop m).flatten) d bb->jg A o Z Z'->Q (.exit 0) e' Z')->aV X [0,6,7,8] aag [(0,.p o 0 0),(6,.sl C gC 0 ss.length 1),(7,.i .i64 ss.length),(8,.i .i64 m)] Z Q:=by
 intro k
 induction k with
 | zero=>
   intro m Z l hm hb hA hC hl q
   rw [List.drop_of_length_le (by omega)] at q
   refine aV.round ay (lit:=false) ?_
   conv=>whnf
   rw [decide_eq_false (by omega)]
   conv=>whnf
   conv=>whnf
   exact q _ Z (by rw [List.flatten_nil,List.append_nil];exact hb) (.refl _ _ _)
 | succ k ih=>
   intro m Z l hm hb hA hC hl q
   obtain⟨s,hs⟩:∃s,ss[m]? =some s:=⟨_,sN (by omega)⟩
   have hd:ss.drop m=s :: ss.drop (m+1):=by
    rw [List.drop_eq_getElem_cons (by omega)]
    have:=(List.getElem?_eq_some_iff.1 hs).2
    rw [this]
   have ha:(ss.map AV.s)[0+m*1]? =some (.s s):=by rw [Nat.zero_add,Nat.mul_one,List.getElem?_map,hs];rfl
   rw [hd,List.flatten_cons,bM] at hl
   rw [hd,List.flatten_cons] at q
   refine aV.round ay (lit:=false) ?_
   conv=>whnf
   rw [decide_eq_true (by omega)]
   conv=>whnf
   conv=>whnf
   refine⟨m,rfl,by omega,?_⟩
   conv=>whnf
   refine ak (aj (T:=fB) rfl rfl (ah hC) ha) ?_
   conv=>whnf
   refine ZE s hb dw hA (by omega) fun Z1 h1 k1=>?_
   conv=>whnf
   refine⟨((m+1:Nat):Int),wrap_i64 (by omega) (by omega),?_⟩
   conv=>whnf
   refine ih (m+1) Z1 (l ++ s) (by omega) h1 (by have:=k1.len;omega) (k1.Sv _ _ hC Wv (by intro _ _ _ e;cases e)) (by rw [bM];omega) fun e' Z' h2 k2=>?_
   exact q e' Z' (by rw [<-iC];exact h2) (k1.trans k2)
theorem OU {Z:St} {l:List UInt8} (ss:List (List UInt8))(hb:bY A o Z l d bb)(dw:o<A)(hA:A<=Z.length)(hC:Z[C]? =some ⟨gC,false,.cells 9 (ss.map .s)⟩)(Wv:C≠o)(hss:ss.length<=100000)(hl:l.length+ss.flatten.length<=1000000000) {Q:AV->St->Prop}
 (q:∀Z',bY A o Z' (l ++ ss.flatten) d bb->jg A o Z Z'->Q (.tu []) Z'):au X 44 [.p o 0 0,.sl C gC 0 ss.length 1] Z Q:=by
 refine au.body (F:=F44) ay (lit:=false) rfl rfl (aU rfl) ?_
 conv=>whnf
 refine Wu dw Wv hss ss.length 0 Z l (by omega) hb hA hC hl fun e' Z' h1 k1=>?_
 conv=>whnf
 exact lZ (q Z' h1 k1) fun ht=>q Z (hb.back h1 ht) (.refl _ _ _)
end
end Go.Abs.YtlkfbfhkcaldlaaGreatDoor
namespace Go.Abs.YtlkfbfhkcaldlaaGreatDoor
open Go.Proofs
set_option maxRecDepth 4000
def Fe (b:Bool)(s:List UInt8):List UInt8:=if b then [40] ++ s ++ [41] else s
mutual
def lF:Tr->Nat->List UInt8
 | .nil,_=>[]
 | .ex k n nm tx l r ar _,c=>
   if k=1 then Lib.decDigits n
   else if k=2 then nm
   else if k=4 then nm ++ [40] ++ Ce ar true ++ [41]
   else if k=5 then lF l 8 ++ [91] ++ lF r 1 ++ [93]
   else if k=6 then lF l 8 ++ [58] ++ (if qM r=true then lF r 8 else [40] ++ lF r 1 ++ [41])
   else if k=7 then [110,101,119,40] ++ lF l 1 ++ [41]
   else if k=8 then [105,110,40,41]
   else if isNil l=true then Fe (decide (7<c)) (tx ++ lF r 7)
   else Fe (decide (aF tx<c)) (lF l (aF tx) ++ ([32] ++ tx ++ [32]) ++ lF r (aF tx+1))
def Ce:jA->Bool->List UInt8
 | .nil,_=>[]
 | .cons t r,first=>(if first=true then [] else [44,32]) ++ lF t 1 ++ Ce r false
end
theorem ZF (b:Bool)(s:List Pc):bn (sK b s)=Fe b (bn s):=by
 cases b
 ·rfl
 ·show bn ([.w 3 [40]] ++ s ++ [.w 3 [41]])=_
  rw [aS,aS];rfl
mutual
theorem JK:∀(t:Tr) (c:Nat),bn (fH t c)=lF t c
 | .nil,c=>by simp [fH,lF,bn]
 | .ex k n nm tx l r ar ln,c=>by
   simp only [fH,lF]
   rw [<-JK l 8,<-JK r 8,<-JK r 1,<-JK l 1,<-JK r 7,<-JK l (aF tx),<-JK r (aF tx+1),<-txA ar true]
   repeat' split
   all_goals simp [aS,bn,ZF,qF,FM]
theorem txA:∀(a:jA) (b:Bool),bn (lV a b)=Ce a b
 | .nil,b=>by simp [lV,Ce,bn]
 | .cons t r,b=>by
   simp only [lV,Ce]
   rw [<-JK t 1,<-txA r false]
   cases b <;> simp [aS,bn]
end
section
variable {o A d:Nat} {bb:Bool}
theorem bG {Z:St} {l:List UInt8} (ss:List (List UInt8))(hb:bY A o Z l d bb)(dw:o<A)(hA:A<=Z.length)(hss:ss.length<=100000)(hl:l.length+ss.flatten.length<=1000000000) {Q:AV->St->Prop}
 (q:∀Z',bY A o Z' (l ++ ss.flatten) d bb->jg A o Z Z'->Q (.tu []) Z'):au X 44 [.p o 0 0,.sl Z.length 0 0 ss.length 1] (newCells 9 (ss.map .s) Z) Q:=
 OU ss (hb.new _ _) dw (by rw [aH];omega) (aG _ _ _) (by omega) hss hl fun Z' h1 k1=>q Z' h1 ((jg.new hA _ _).trans k1)
def jL (A o d:Nat)(bb:Bool)(t:Tr):Prop:=∀{S:Nat->Prop} {Z:St} {v:AV} {l:List UInt8} (c:Nat),(∀i,S i->i<A/\i≠o)->bP S Z v t->bY A o Z l d bb->A<=Z.length->iV Z=true->l.length+(lF t c).length<=1000000000->∀{Q:AV->St->Prop},
 (∀Z',bY A o Z' (l ++ lF t c) d bb->jg A o Z Z'->Q (.tu []) Z')->au X 109 [.p o 0 0,v,.i .i64 c] Z Q
theorem bP.kept {S:Nat->Prop} {Z Z':St} {v:AV} {t:Tr} (hS:∀i,S i->i<A/\i≠o)(h:bP S Z v t)(k:jg A o Z Z'):bP S Z' v t:=h.mono (fun _ h=>h) (fun i hi a ha=>by rw [k.low i (hS i hi).1 (hS i hi).2];exact ha)
theorem jK.kept {S:Nat->Prop} {Z Z':St} {v:AV} {t:jA} (hS:∀i,S i->i<A/\i≠o)(h:jK S Z v t)(k:jg A o Z Z'):jK S Z' v t:=h.mono (fun _ h=>h) (fun i hi a ha=>by rw [k.low i (hS i hi).1 (hS i hi).2];exact ha)
theorem jg.tab {Z Z':St} (k:jg A o Z Z')(hG:10<=A/\10<=o)(h:iV Z=true):iV Z'= true:=by
 unfold iV at h ⊢
 rw [k.low 5 (by omega) (by omega)]
 exact h
theorem bY.fin {Z Z':St} {l l':List UInt8} (h:bY A o Z l d bb)(k:bY A o Z' l' d bb)(hk:jg A o Z Z') {Q:AV->St->Prop} (q:∀Z',bY A o Z' l' d bb->jg A o Z Z'->Q (.tu []) Z'):Fin Z (.tu []) Z' Q:=
 lZ (q Z' k hk) fun ht=>q Z (h.back k ht) (.refl _ _ _)
theorem Wx (dw:o<A) {k n ln:Nat} {nm tx:List UInt8} {l r:Tr} {ar:jA} (hk:k=2):jL A o d bb (.ex k n nm tx l r ar ln):=by
 intro S Z v out c hS hv hb hA hT hl Q q
 obtain⟨ox,gx,L,R,Ax,hs,rfl,hx,_⟩:=hv
 subst hk
 rw [lF,if_neg (by decide),if_pos rfl] at hl q
 refine au.body (F:=BQ) ay (lit:=false) rfl rfl (aU rfl) ?_
 conv=>whnf
 refine ak (aj (T:=fF) rfl rfl (ah (hx)) rfl) ?_
 conv=>whnf
 refine ak (aj (T:=fB) rfl rfl (ah (hx)) rfl) ?_
 conv=>whnf
 refine bG [nm] hb dw hA (by simp) (by simpa using hl) fun Z1 h1 k1=>?_
 conv=>whnf
 rw [show [nm].flatten=nm by simp] at h1
 exact hb.fin h1 k1 q
theorem pre_in (dw:o<A) {k n ln:Nat} {nm tx:List UInt8} {l r:Tr} {ar:jA} (hk:k=8):jL A o d bb (.ex k n nm tx l r ar ln):=by
 intro S Z v out c hS hv hb hA hT hl Q q
 obtain⟨ox,gx,L,R,Ax,hs,rfl,hx,_⟩:=hv
 subst hk
 rw [lF,if_neg (by decide),if_neg (by decide),if_neg (by decide),if_neg (by decide),if_neg (by decide),if_neg (by decide),if_pos rfl] at hl q
 refine au.body (F:=BQ) ay (lit:=false) rfl rfl (aU rfl) ?_
 conv=>whnf
 refine ak (aj (T:=fF) rfl rfl (ah (hx)) rfl) ?_
 conv=>whnf
 refine bG [[105,110,40,41]] hb dw hA (by simp) (by simpa using hl) fun Z1 h1 k1=>?_
 conv=>whnf
 exact hb.fin h1 k1 q
theorem ZG (dw:o<A)(hG:10<=A/\10<=o) {k n ln:Nat} {nm tx:List UInt8} {l r:Tr} {ar:jA} (hk:k=7)(il:jL A o d bb l):jL A o d bb (.ex k n nm tx l r ar ln):=by
 intro S Z v out c hS hv hb hA hT hl Q q
 obtain⟨ox,gx,L,R,Ax,hs,rfl,hx,hL,_,_⟩:=hv
 subst hk
 rw [lF,if_neg (by decide),if_neg (by decide),if_neg (by decide),if_neg (by decide),if_neg (by decide),if_pos rfl] at hl q
 simp only [bM,bg,bZ] at hl
 have hxo:=hS ox hs
 refine au.body (F:=BQ) ay (lit:=false) rfl rfl (aU rfl) ?_
 conv=>whnf
 refine ak (aj (T:=fF) rfl rfl (ah (hx)) rfl) ?_
 conv=>whnf
 refine bG [[110,101,119,40]] hb dw hA (by simp) (by simp;omega) fun Z1 h1 k1=>?_
 have hx1:Z1[ox]? =_:=(k1.low ox hxo.1 hxo.2).trans hx
 have l1:=k1.len
 conv=>whnf
 refine ak (aj (T:=aW) rfl rfl (ah hx1) rfl) ?_
 refine dJ _ _ ?_
 refine dV _ _ ?_
 refine il 1 hS (hL.kept hS k1) h1 (by omega) (k1.tab hG hT) (by simp;omega) fun Z2 h2 k2=>?_
 have l2:=k2.len
 conv=>whnf
 refine bG [[41]] h2 dw (by omega) (by simp) (by simp;omega) fun Z3 h3 k3=>?_
 conv=>whnf
 exact hb.fin (by simpa [iC] using h3) ((k1.trans k2).trans k3) (by simpa [iC] using q)
end
end Go.Abs.YtlkfbfhkcaldlaaGreatDoor
namespace Go.Abs.YtlkfbfhkcaldlaaGreatDoor
open Go.Proofs
set_option maxRecDepth 4000
section
variable {o A d:Nat} {bb:Bool}
theorem wrap_u32 {a:Nat} (h:a<4294967296):IntKind.u64.wrap a=a:=by
 simp only [IntKind.wrap,IntKind.signed,IntKind.bits,if_false,nR,Bool.false_and];omega
theorem fmt_to {n:Nat} {Z:St} (hT:iV Z=true)(hn:n<4294967296):au X 135 [.i .u64 n,.i .i64 10] Z fun v s=>v= .s (Lib.decDigits n)/\s=Z:=by
 refine au.body (F:=F135) ay (lit:=false) rfl rfl (aU rfl) ?_
 conv=>whnf
 refine au.fM (g:=mM) (v:=.s (Lib.decDigits n)) (Z':=Z) rfl ?_ ?_
 ·simp only [mM]
  rw [if_pos ⟨by omega,by omega,.inr hT⟩,Int.toNat_natCast]
 conv=>whnf
 exact Fin.flat rfl iq ⟨rfl,rfl⟩
theorem ZH (dw:o<A) {k n ln:Nat} {nm tx:List UInt8} {l r:Tr} {ar:jA} (hk:k=1)(hn:n<4294967296):jL A o d bb (.ex k n nm tx l r ar ln):=by
 intro S Z v out c hS hv hb hA hT hl Q q
 obtain⟨ox,gx,L,R,Ax,hs,rfl,hx,_⟩:=hv
 subst hk
 rw [lF,if_pos rfl] at hl q
 refine au.body (F:=BQ) ay (lit:=false) rfl rfl (aU rfl) ?_
 conv=>whnf
 refine ak (aj (T:=fF) rfl rfl (ah (hx)) rfl) ?_
 conv=>whnf
 refine ak (aj (T:=wE) rfl rfl (ah (hx)) rfl) ?_
 conv=>whnf
 refine⟨n,wrap_u32 hn,?_⟩
 conv=>whnf
 refine au.to (fmt_to hT hn) ?_
 conv=>whnf
 refine bG [Lib.decDigits n] hb dw hA (by simp) (by simpa using hl) fun Z1 h1 k1=>?_
 conv=>whnf
 exact hb.fin (by simpa using h1) k1 q
theorem Wy (dw:o<A)(hG:10<=A/\10<=o) {k n ln:Nat} {nm tx:List UInt8} {l r:Tr} {ar:jA} (hk:k=5)(il:jL A o d bb l)(ir:jL A o d bb r):jL A o d bb (.ex k n nm tx l r ar ln):=by
 intro S Z v out c hS hv hb hA hT hl Q q
 obtain⟨ox,gx,L,R,Ax,hs,rfl,hx,hL,hR,_⟩:=hv
 subst hk
 rw [lF,if_neg (by decide),if_neg (by decide),if_neg (by decide),if_pos rfl] at hl q
 simp only [bM,bg,bZ] at hl
 have hxo:=hS ox hs
 refine au.body (F:=BQ) ay (lit:=false) rfl rfl (aU rfl) ?_
 conv=>whnf
 refine ak (aj (T:=fF) rfl rfl (ah (hx)) rfl) ?_
 conv=>whnf
 refine ak (aj (T:=aW) rfl rfl (ah hx) rfl) ?_
 refine dJ _ _ ?_
 refine dV _ _ ?_
 refine il 8 hS hL hb hA hT (by omega) fun Z1 h1 k1=>?_
 have l1:=k1.len
 conv=>whnf
 refine bG [[91]] h1 dw (by omega) (by simp) (by simp;omega) fun Z2 h2 k2'=>?_
 have k2:=k1.trans k2'
 have l2:=k2.len
 have hx2:Z2[ox]? =_:=(k2.low ox hxo.1 hxo.2).trans hx
 conv=>whnf
 refine ak (aj (T:=aW) rfl rfl (ah hx2) rfl) ?_
 refine dJ _ _ ?_
 refine dV _ _ ?_
 refine ir 1 hS (hR.kept hS k2) h2 (by omega) (k2.tab hG hT) (by simp;omega) fun Z3 h3 nG=>?_
 have k3:=k2.trans nG
 have l3:=k3.len
 conv=>whnf
 refine bG [[93]] h3 dw (by omega) (by simp) (by simp;omega) fun Z4 h4 k4=>?_
 conv=>whnf
 exact hb.fin (by simpa [iC] using h4) (k3.trans k4) (by simpa [iC] using q)
theorem WA (dw:o<A)(hG:10<=A/\10<=o) {k n ln:Nat} {nm tx:List UInt8} {l r:Tr} {ar:jA} (hk:k=6)(hr:I8 r)(il:jL A o d bb l)(ir:jL A o d bb r):jL A o d bb (.ex k n nm tx l r ar ln):=by
 intro S Z v out c hS hv hb hA hT hl Q q
 obtain⟨ox,gx,L,R,Ax,hs,rfl,hx,hL,hR,_⟩:=hv
 subst hk
 rw [lF,if_neg (by decide),if_neg (by decide),if_neg (by decide),if_neg (by decide),if_pos rfl] at hl q
 simp only [bM,bg,bZ] at hl
 have hxo:=hS ox hs
 refine au.body (F:=BQ) ay (lit:=false) rfl rfl (aU rfl) ?_
 conv=>whnf
 refine ak (aj (T:=fF) rfl rfl (ah (hx)) rfl) ?_
 conv=>whnf
 refine ak (aj (T:=aW) rfl rfl (ah hx) rfl) ?_
 refine dJ _ _ ?_
 refine dV _ _ ?_
 refine il 8 hS hL hb hA hT (by omega) fun Z1 h1 k1=>?_
 have l1:=k1.len
 conv=>whnf
 refine bG [[58]] h1 dw (by omega) (by simp) (by simp;omega) fun Z2 h2 k2'=>?_
 have k2:=k1.trans k2'
 have l2:=k2.len
 have hx2:Z2[ox]? =_:=(k2.low ox hxo.1 hxo.2).trans hx
 have hR2:=hR.kept hS k2
 cases r with
 | nil=>exact hr.elim
 | ex kr nr nmr txr lr rr arr lnr=>
   have hRR:=hR2
   obtain⟨oy,gy,Ly,Ry,Ay,hsy,rfl,hy,_⟩:=hRR
   conv=>whnf
   refine ak (aj (T:=aW) rfl rfl (ah (hx2)) rfl) ?_
   conv=>whnf
   refine ak (aj (T:=aW) rfl rfl (ah (hx2)) rfl) ?_
   conv=>whnf
   refine ak (aj (T:=fF) rfl rfl (ah (hy)) rfl) ?_
   conv=>whnf
   have wide:qM (.ex kr nr nmr txr lr rr arr lnr)=(kr == 1 || kr == 2):=rfl
   rw [wide] at hl q
   by_cases h1':kr=1
   ·rw [if_pos (by simp [h1'])] at hl q
    rw [decide_eq_true (by omega)]
    conv=>whnf
    conv=>whnf
    refine ak (aj (T:=aW) rfl rfl (ah (hx2)) rfl) ?_
    conv=>whnf
    refine ir 8 hS hR2 h2 (by omega) (k2.tab hG hT) (by simp;omega) fun Z3 h3 k3=>?_
    conv=>whnf
    exact hb.fin (by simpa [iC] using h3) (k2.trans k3) (by simpa [iC] using q)
   ·rw [decide_eq_false (by omega)]
    conv=>whnf
    conv=>whnf
    refine ak (aj (T:=aW) rfl rfl (ah (hx2)) rfl) ?_
    conv=>whnf
    refine ak (aj (T:=fF) rfl rfl (ah (hy)) rfl) ?_
    conv=>whnf
    by_cases h2':kr=2
    ·rw [if_pos (by simp [h2'])] at hl q
     rw [decide_eq_true (by omega)]
     conv=>whnf
     conv=>whnf
     refine ak (aj (T:=aW) rfl rfl (ah (hx2)) rfl) ?_
     conv=>whnf
     refine ir 8 hS hR2 h2 (by omega) (k2.tab hG hT) (by simp;omega) fun Z3 h3 k3=>?_
     conv=>whnf
     exact hb.fin (by simpa [iC] using h3) (k2.trans k3) (by simpa [iC] using q)
    ·rw [if_neg (by simp [h1',h2'])] at hl q
     simp only [bM,bg,bZ] at hl
     rw [decide_eq_false (by omega)]
     conv=>whnf
     conv=>whnf
     refine bG [[40]] h2 dw (by omega) (by simp) (by simp;omega) fun Z3 h3 nG=>?_
     have k3:=k2.trans nG
     have l3:=k3.len
     have hx3:Z3[ox]? =_:=(k3.low ox hxo.1 hxo.2).trans hx
     conv=>whnf
     refine ak (aj (T:=aW) rfl rfl (ah (hx3)) rfl) ?_
     conv=>whnf
     refine ir 1 hS (hR.kept hS k3) h3 (by omega) (k3.tab hG hT) (by simp;omega) fun Z4 h4 Sz=>?_
     have k4:=k3.trans Sz
     have l4:=k4.len
     conv=>whnf
     refine bG [[41]] h4 dw (by omega) (by simp) (by simp;omega) fun Z5 h5 k5=>?_
     conv=>whnf
     exact hb.fin (by simpa [iC] using h5) (k4.trans k5) (by simpa [iC] using q)
end
end Go.Abs.YtlkfbfhkcaldlaaGreatDoor
namespace Go.Abs.YtlkfbfhkcaldlaaGreatDoor
open Go.Proofs
set_option maxRecDepth 4000
theorem WB {X:Ctx} {τ:pR} {lit:Bool} {C:AC} {e:Env} {Z:St} {K0:Out->Env->St->Prop} (R:Env->St->Prop)(h:∀K:Out->Env->St->Prop,(∀e' Z',R e' Z'->K .normal e' Z')->wC X τ lit C e Z K)(h2:∀e' Z',R e' Z'->K0 .normal e' Z'):wC X τ lit C e Z K0:=h K0 h2
section
variable {o A d:Nat} {bb:Bool}
set_option maxHeartbeats 2000000 in
theorem op_nil (dw:o<A)(hG:10<=A/\10<=o) {n ln ox gx c:Nat} {nm tx:List UInt8} {l r:Tr} {L R Ax:AV} {S:Nat->Prop} {Z:St} {out:List UInt8} (hS:∀i,S i->i<A/\i≠o)(hs:S ox)(hx:Z[ox]? =some (Zg gx 3 n nm tx L R Ax ln))(hL:bP S Z L l)(hR:bP S Z R r)(hl0:l= .nil)(ir:jL A o d bb r)
 (hb:bY A o Z out d bb) (hA:A<=Z.length) (hT:iV Z=true) (hl:out.length+(Fe (decide (7<c)) (tx ++ lF r 7)).length<=1000000000) {Q:AV->St->Prop} (q:∀Z',bY A o Z' (out ++ Fe (decide (7<c)) (tx ++ lF r 7)) d bb->jg A o Z Z'->Q (.tu []) Z'):au X 136 [.p o 0 0,.p ox gx 0,.i .i64 c] Z Q:=by
 have hxo:=hS ox hs
 subst hl0
 have hL:L= .p0:=hL
 subst hL
 refine au.body (F:=Yn) ay (lit:=false) rfl rfl (aU rfl) ?_
 conv=>whnf
 refine ak (aj (T:=aW) rfl rfl (ah (hx)) rfl) ?_
 conv=>whnf
 by_cases hc:7<c
 ·rw [decide_eq_true hc,Fe,if_pos rfl] at hl q
  simp only [bM,bg,bZ] at hl
  rw [show decide ((7:Int)<(c:Int))=true from decide_eq_true (by omega)]
  dsimp only
  rw [wO]
  refine WB (R:=fun e' Z2=>∃Z1,bY A o Z1 (out ++ [[40]].flatten) d bb/\jg A o Z Z1/\Z2[Z1.length]? =some ⟨0,false,.cells 9 [.s [41]]⟩/\Ext Z1 Z2/\Z2.length=Z1.length+1/\e'= put (some 24) (.sl Z1.length 0 0 1 1) (put (some 23) (.p o 0 0) (put (some 22) (.tu []) (put (some 21) (.sl Z.length 0 0 1 1) (put (some 20) (.p o 0 0) [(0,.p o 0 0),(1,.p ox gx 0),(6,.i .i64 7),(19,.b true)]))))) (fun K hK=>?_) ?_
  ·conv=>whnf
   refine bG [[40]] hb dw hA (by simp) (by simp;omega) fun Z1 h1 k1=>?_
   conv=>whnf
   have b2:(newCells 9 [.s [41]] Z1)[Z1.length]? =some ⟨0,false,.cells 9 [.s [41]]⟩:=aG _ _ _
   have x2:Ext Z1 (newCells 9 [.s [41]] Z1):=(Ext.refl Z1).new _ _
   have l2:(newCells 9 [.s [41]] Z1).length=Z1.length+1:=aH _ _ _
   generalize newCells 9 [.s [41]] Z1=Z2 at b2 x2 l2 ⊢
   exact hK _ _ ⟨Z1,h1,k1,b2,x2,l2,rfl⟩
  rintro e' Z2 ⟨Z1,h1,k1,b2,x2,l2,rfl⟩
  have l1:=k1.len
  conv=>whnf
  have k2:jg A o Z Z2:=k1.trans ⟨by omega,fun i hi _=>x2.old i (by omega),fun i a ha _ _=>x2.get ha⟩
  have h2:bY A o Z2 (out ++ [[40]].flatten) d bb:=by
   obtain⟨b0,buf,j1,j2,j3,j4⟩:=h1
   exact⟨b0,buf,x2.get j1,j2,j3,j4.same fun o' g' n z e=>by
        rcases j4 with ⟨_,e1⟩ | ⟨o1,g1,_,e1,j5⟩
        ·rw [e1] at e;cases e
        ·rw [e1] at e;cases e;exact x2.old _ (bK j5)⟩
  have hC2:Z2[Z1.length]? =some ⟨0,false,.cells 9 ([[41]].map AV.s)⟩:=b2
  have Wv:Z1.length≠o:=by omega
  have hx2:Z2[ox]? =_:=(k2.low ox hxo.1 hxo.2).trans hx
  have l3':A<=Z2.length:=by omega
  refine ak (aj (T:=aW) rfl rfl (ah (hx2)) rfl) ?_
  conv=>whnf
  refine ak (aj (T:=fB) rfl rfl (ah (hx2)) rfl) ?_
  conv=>whnf
  refine bG [tx] h2 dw l3' (by simp) (by simp;omega) fun Z4 h4 Sz=>?_
  have k4:=k2.trans Sz
  have l4:=k4.len
  have hC4:Z4[Z1.length]? =_:=Sz.Sv _ _ hC2 Wv (by intro _ _ _ e;cases e)
  have hx4:Z4[ox]? =_:=(k4.low ox hxo.1 hxo.2).trans hx
  conv=>whnf
  refine ak (aj (T:=aW) rfl rfl (ah hx4) rfl) ?_
  refine dJ _ _ ?_
  refine dV _ _ ?_
  refine ir 7 hS (hR.kept hS k4) h4 (by omega) (k4.tab hG hT) (by simp;omega) fun Z5 h5 Og=>?_
  have k5:=k4.trans Og
  have l5:=k5.len
  conv=>whnf
  have hC5:Z5[Z1.length]? =_:=Og.Sv _ _ hC4 Wv (by intro _ _ _ e;cases e)
  refine OU [[41]] h5 dw (by omega) hC5 Wv (by simp) (by simp;omega) fun Z6 h6 k6=>?_
  conv=>whnf
  exact hb.fin (by simpa [iC] using h6) (k5.trans k6) (by simpa [iC] using q)
 ·rw [decide_eq_false hc,Fe,if_neg (by decide)] at hl q
  simp only [bM,bg,bZ] at hl
  rw [show decide ((7:Int)<(c:Int))=false from decide_eq_false (by omega)]
  conv=>whnf
  have k2:jg A o Z Z:=.refl _ _ _
  have h2:bY A o Z out d bb:=hb
  have hx2:=hx
  have l3':A<=Z.length:=by exact hA
  refine ak (aj (T:=aW) rfl rfl (ah (hx2)) rfl) ?_
  conv=>whnf
  refine ak (aj (T:=fB) rfl rfl (ah (hx2)) rfl) ?_
  conv=>whnf
  refine bG [tx] h2 dw l3' (by simp) (by simp;omega) fun Z4 h4 Sz=>?_
  have k4:=k2.trans Sz
  have l4:=k4.len
  have hx4:Z4[ox]? =_:=(k4.low ox hxo.1 hxo.2).trans hx
  conv=>whnf
  refine ak (aj (T:=aW) rfl rfl (ah hx4) rfl) ?_
  refine dJ _ _ ?_
  refine dV _ _ ?_
  refine ir 7 hS (hR.kept hS k4) h4 (by omega) (k4.tab hG hT) (by simp;omega) fun Z5 h5 Og=>?_
  have k5:=k4.trans Og
  have l5:=k5.len
  conv=>whnf
  exact hb.fin (by simpa [iC] using h5) k5 (by simpa [iC] using q)
set_option maxHeartbeats 2000000 in
theorem op_two (dw:o<A)(hG:10<=A/\10<=o) {n ln ox gx c:Nat} {nm tx:List UInt8} {l r:Tr} {L R Ax:AV} {S:Nat->Prop} {Z:St} {out:List UInt8} (hS:∀i,S i->i<A/\i≠o)(hs:S ox)(hx:Z[ox]? =some (Zg gx 3 n nm tx L R Ax ln))(hL:bP S Z L l)(hR:bP S Z R r)(hl0:I8 l)(il:jL A o d bb l)(ir:jL A o d bb r)
 (hb:bY A o Z out d bb) (hA:A<=Z.length) (hT:iV Z=true) (hl:out.length+(Fe (decide ((aF tx)<c)) (lF l (aF tx) ++ ([32] ++ tx ++ [32]) ++ lF r (aF tx+1))).length<=1000000000) {Q:AV->St->Prop} (q:∀Z',bY A o Z' (out ++ Fe (decide ((aF tx)<c)) (lF l (aF tx) ++ ([32] ++ tx ++ [32]) ++ lF r (aF tx+1))) d bb->jg A o Z Z'->Q (.tu []) Z'):au X 136 [.p o 0 0,.p ox gx 0,.i .i64 c] Z Q:=by
 have hxo:=hS ox hs
 have hsh:∃o' g',L= .p o' g' 0:=by
  cases l with
  | nil=>exact hl0.elim
  | ex=>obtain⟨o',g',_,_,_,_,hv,_⟩:=hL;exact⟨o',g',hv⟩
 obtain⟨ol,gl,rfl⟩:=hsh
 have hbn:=G_ tx
 refine au.body (F:=Yn) ay (lit:=false) rfl rfl (aU rfl) ?_
 conv=>whnf
 refine ak (aj (T:=aW) rfl rfl (ah (hx)) rfl) ?_
 conv=>whnf
 refine ak (aj (T:=fB) rfl rfl (ah (hx)) rfl) ?_
 conv=>whnf
 refine au.to (Qe tx Z) ?_
 conv=>whnf
 by_cases hc:(aF tx)<c
 ·rw [decide_eq_true hc,Fe,if_pos rfl] at hl q
  simp only [bM,bg,bZ] at hl
  rw [show decide ((aF tx:Int)<(c:Int))=true from decide_eq_true (by omega)]
  dsimp only
  rw [wO]
  refine WB (R:=fun e' Z2=>∃Z1,bY A o Z1 (out ++ [[40]].flatten) d bb/\jg A o Z Z1/\Z2[Z1.length]? =some ⟨0,false,.cells 9 [.s [41]]⟩/\Ext Z1 Z2/\Z2.length=Z1.length+1/\e'= put (some 24) (.sl Z1.length 0 0 1 1) (put (some 23) (.p o 0 0) (put (some 22) (.tu []) (put (some 21) (.sl Z.length 0 0 1 1) (put (some 20) (.p o 0 0) [(0,.p o 0 0),(1,.p ox gx 0),(6,.i .i64 (aF tx:Nat)),(19,.b true)]))))) (fun K hK=>?_) ?_
  ·conv=>whnf
   refine bG [[40]] hb dw hA (by simp) (by simp;omega) fun Z1 h1 k1=>?_
   conv=>whnf
   have b2:(newCells 9 [.s [41]] Z1)[Z1.length]? =some ⟨0,false,.cells 9 [.s [41]]⟩:=aG _ _ _
   have x2:Ext Z1 (newCells 9 [.s [41]] Z1):=(Ext.refl Z1).new _ _
   have l2:(newCells 9 [.s [41]] Z1).length=Z1.length+1:=aH _ _ _
   generalize newCells 9 [.s [41]] Z1=Z2 at b2 x2 l2 ⊢
   exact hK _ _ ⟨Z1,h1,k1,b2,x2,l2,rfl⟩
  rintro e' Z2 ⟨Z1,h1,k1,b2,x2,l2,rfl⟩
  have l1:=k1.len
  conv=>whnf
  have k2:jg A o Z Z2:=k1.trans ⟨by omega,fun i hi _=>x2.old i (by omega),fun i a ha _ _=>x2.get ha⟩
  have h2:bY A o Z2 (out ++ [[40]].flatten) d bb:=by
   obtain⟨b0,buf,j1,j2,j3,j4⟩:=h1
   exact⟨b0,buf,x2.get j1,j2,j3,j4.same fun o' g' n z e=>by
        rcases j4 with ⟨_,e1⟩ | ⟨o1,g1,_,e1,j5⟩
        ·rw [e1] at e;cases e
        ·rw [e1] at e;cases e;exact x2.old _ (bK j5)⟩
  have hC2:Z2[Z1.length]? =some ⟨0,false,.cells 9 ([[41]].map AV.s)⟩:=b2
  have Wv:Z1.length≠o:=by omega
  have hx2:Z2[ox]? =_:=(k2.low ox hxo.1 hxo.2).trans hx
  have l3':A<=Z2.length:=by omega
  refine ak (aj (T:=aW) rfl rfl (ah (hx2)) rfl) ?_
  conv=>whnf
  refine ak (aj (T:=aW) rfl rfl (ah (hx2)) rfl) ?_
  conv=>whnf
  refine il (aF tx) hS (hL.kept hS k2) h2 l3' (k2.tab hG hT) (by first | omega | (simp;omega)) fun Z3 h3 nG=>?_
  have k3:=k2.trans nG
  have l3:=k3.len
  have hx3:Z3[ox]? =_:=(k3.low ox hxo.1 hxo.2).trans hx
  conv=>whnf
  refine ak (aj (T:=fB) rfl rfl (ah (hx3)) rfl) ?_
  conv=>whnf
  refine bG [[32],tx,[32]] h3 dw (by omega) (by simp) (by simp;omega) fun Z4 h4 WC=>?_
  have Sz:=nG.trans WC
  have k4:=k3.trans WC
  have l4:=k4.len
  conv=>whnf
  refine⟨((aF tx+1:Nat):Int),by rw [wrap_i64 (by omega) (by omega)];omega,?_⟩
  have hC4:Z4[Z1.length]? =_:=Sz.Sv _ _ hC2 Wv (by intro _ _ _ e;cases e)
  have hx4:Z4[ox]? =_:=(k4.low ox hxo.1 hxo.2).trans hx
  conv=>whnf
  refine ak (aj (T:=aW) rfl rfl (ah hx4) rfl) ?_
  refine dJ _ _ ?_
  refine dV _ _ ?_
  refine ir (aF tx+1) hS (hR.kept hS k4) h4 (by omega) (k4.tab hG hT) (by simp;omega) fun Z5 h5 Og=>?_
  have k5:=k4.trans Og
  have l5:=k5.len
  conv=>whnf
  have hC5:Z5[Z1.length]? =_:=Og.Sv _ _ hC4 Wv (by intro _ _ _ e;cases e)
  refine OU [[41]] h5 dw (by omega) hC5 Wv (by simp) (by simp;omega) fun Z6 h6 k6=>?_
  conv=>whnf
  exact hb.fin (by simpa [iC] using h6) (k5.trans k6) (by simpa [iC] using q)
 ·rw [decide_eq_false hc,Fe,if_neg (by decide)] at hl q
  simp only [bM,bg,bZ] at hl
  rw [show decide ((aF tx:Int)<(c:Int))=false from decide_eq_false (by omega)]
  conv=>whnf
  have k2:jg A o Z Z:=.refl _ _ _
  have h2:bY A o Z out d bb:=hb
  have hx2:=hx
  have l3':A<=Z.length:=by exact hA
  refine ak (aj (T:=aW) rfl rfl (ah (hx2)) rfl) ?_
  conv=>whnf
  refine ak (aj (T:=aW) rfl rfl (ah (hx2)) rfl) ?_
  conv=>whnf
  refine il (aF tx) hS (hL.kept hS k2) h2 l3' (k2.tab hG hT) (by first | omega | (simp;omega)) fun Z3 h3 nG=>?_
  have k3:=k2.trans nG
  have l3:=k3.len
  have hx3:Z3[ox]? =_:=(k3.low ox hxo.1 hxo.2).trans hx
  conv=>whnf
  refine ak (aj (T:=fB) rfl rfl (ah (hx3)) rfl) ?_
  conv=>whnf
  refine bG [[32],tx,[32]] h3 dw (by omega) (by simp) (by simp;omega) fun Z4 h4 WC=>?_
  have Sz:=nG.trans WC
  have k4:=k3.trans WC
  have l4:=k4.len
  conv=>whnf
  refine⟨((aF tx+1:Nat):Int),by rw [wrap_i64 (by omega) (by omega)];omega,?_⟩
  have hx4:Z4[ox]? =_:=(k4.low ox hxo.1 hxo.2).trans hx
  conv=>whnf
  refine ak (aj (T:=aW) rfl rfl (ah hx4) rfl) ?_
  refine dJ _ _ ?_
  refine dV _ _ ?_
  refine ir (aF tx+1) hS (hR.kept hS k4) h4 (by omega) (k4.tab hG hT) (by simp;omega) fun Z5 h5 Og=>?_
  have k5:=k4.trans Og
  have l5:=k5.len
  conv=>whnf
  exact hb.fin (by simpa [iC] using h5) k5 (by simpa [iC] using q)
theorem pre_op (dw:o<A)(hG:10<=A/\10<=o) {k n ln:Nat} {nm tx:List UInt8} {l r:Tr} {ar:jA} (hk:k=3)(il:I8 l->jL A o d bb l)(ir:jL A o d bb r):jL A o d bb (.ex k n nm tx l r ar ln):=by
 intro S Z v out c hS hv hb hA hT hl Q q
 obtain⟨ox,gx,L,R,Ax,hs,rfl,hx,hL,hR,_⟩:=hv
 subst hk
 rw [lF,if_neg (by decide),if_neg (by decide),if_neg (by decide),if_neg (by decide),if_neg (by decide),if_neg (by decide),if_neg (by decide)] at hl q
 cases l with
 | nil=>
   rw [if_pos (show isNil .nil=true from rfl)] at hl q
   refine au.body (F:=BQ) ay (lit:=false) rfl rfl (aU rfl) ?_
   conv=>whnf
   refine ak (aj (T:=fF) rfl rfl (ah (hx)) rfl) ?_
   conv=>whnf
   refine op_nil dw hG hS hs hx hL hR rfl ir hb hA hT hl fun Z1 h1 k1=>?_
   conv=>whnf
   exact hb.fin h1 k1 q
 | ex k1 n1 nm1 tx1 l1 r1 ar1 ln1=>
   rw [if_neg (show ¬isNil (.ex k1 n1 nm1 tx1 l1 r1 ar1 ln1)=true from by simp [isNil])] at hl q
   refine au.body (F:=BQ) ay (lit:=false) rfl rfl (aU rfl) ?_
   conv=>whnf
   refine ak (aj (T:=fF) rfl rfl (ah (hx)) rfl) ?_
   conv=>whnf
   refine op_two dw hG hS hs hx hL hR trivial (il trivial) ir hb hA hT hl fun Z1 h1 k1=>?_
   conv=>whnf
   exact hb.fin h1 k1 q
end
end Go.Abs.YtlkfbfhkcaldlaaGreatDoor
namespace Go.Abs.YtlkfbfhkcaldlaaGreatDoor
open Go.Proofs
set_option maxRecDepth 4000
@[reducible] def argX (o oa ga n:Nat):Env:=put (some 55) (.b false) [(0,.p o 0 0),(52,.sl oa ga 0 n 1),(53,.i .i64 n),(54,.i .i64 n)]
theorem ZI {t:Tr} (h:WT t)(c:Nat):1<=(lF t c).length:=by
 obtain⟨b,y,hb,_⟩:=Cc h c
 rw [<-JK,hb];simp
theorem Qz:∀{a:jA},OI a->∀b,(kM a).length<=(Ce a b).length
 | .nil,_,b=>Nat.zero_le _
 | .cons t r,h,b=>by
   cases h with
   | cons _ _ h1 h2=>
     have h3:=ZI h1 1
     have h4:=Qz h2 false
     simp only [kM,Ce,bg,bM];omega
theorem bP.ptr {S:Nat->Prop} {Z:St} {v:AV} :∀{t:Tr},WT t->bP S Z v t->∃o g,v= .p o g 0
 | .ex ..,_,h=>by obtain⟨o,g,L,R,A,_,hv,_⟩:=h;exact⟨o,g,hv⟩
def ZJ:List Tr->Bool->List UInt8
 | [],_=>[]
 | t :: r,first=>(if first=true then [] else [44,32]) ++ lF t 1 ++ ZJ r false
theorem Jz:∀(a:jA) (b:Bool),Ce a b=ZJ (kM a) b
 | .nil,b=>by simp [Ce,kM,ZJ]
 | .cons t r,b=>by simp only [Ce,kM,ZJ,Jz r false]
theorem QA:∀{a:jA},OI a->∀t∈kM a,WT t
 | .nil,_,t,h=>by cases h
 | .cons s r,h,t,ht=>by
   cases h with
   | cons _ _ h1 h2=>
     rcases List.mem_cons.1 ht with rfl | ht
     ·exact h1
     ·exact QA h2 t ht
section
variable {o A d:Nat} {bb:Bool}
theorem SA (dw:o<A)(hG:10<=A/\10<=o) {S:Nat->Prop} (hS:∀i,S i->i<A/\i≠o) {oa ga:Nat} {cs:List AV} (hoa:S oa)(hcl:cs.length<=1000000000):∀(r:List Tr),(∀t∈r,WT t)->(∀(i:Nat) t,r[i]? =some t->jL A o d bb t)->∀(m:Nat) (Z:St) (l:List UInt8),m+r.length=cs.length->
 (∀(i:Nat) t,r[i]? =some t->∃a,cs[m+i]? =some a/\bP S Z a t)->Z[oa]? =some ⟨ga,false,.cells 44 cs⟩->bY A o Z l d bb->A<=Z.length->iV Z=true->l.length+(ZJ r (m == 0)).length<=1000000000->∀{Q:Out->Env->St->Prop},
 (∀Z',bY A o Z' (l ++ ZJ r (m == 0)) d bb->jg A o Z Z'->Q (.exit 1) (argX o oa ga cs.length) Z')->aV X [0,52,53,54] NJ [(0,.p o 0 0),(52,.sl oa ga 0 cs.length 1),(53,.i .i64 cs.length),(54,.i .i64 m)] Z Q:=by
 intro r
 induction r with
 | nil=>
   intro _ _ m Z l hm _ _ hb _ _ _ Q q
   obtain rfl:m=cs.length:=hm
   refine aV.round ay (lit:=false) ?_
   conv=>whnf
   rw [decide_eq_false (by omega)]
   conv=>whnf
   conv=>whnf
   exact q Z (by simpa [ZJ] using hb) (.refl _ _ _)
 | cons t r ih=>
   intro hw JA m Z l hm hel ho hb hA hT hl Q q
   have hwt:WT t/\∀t∈r,WT t:=⟨hw t (List.mem_cons_self ..),fun x hx=>hw x (List.mem_cons_of_mem _ hx)⟩
   have hxo:=hS oa hoa
   simp only [bg] at hm
   obtain⟨a,ha,hx⟩:=hel 0 t rfl
   obtain⟨ox,gx,rfl⟩:=hx.ptr hwt.1
   have ha':cs[0+m*1]? =some (.p ox gx 0):=by rw [Nat.zero_add,Nat.mul_one];exact ha
   have hnext:∀(i:Nat) t',r[i]? =some t'->∃a,cs[m+1+i]? =some a/\bP S Z a t':=fun i t' ht=>by
    obtain⟨a,h1,h2⟩:=hel (i+1) t' (by simpa using ht)
    exact⟨a,by rw [show m+1+i=m+(i+1) by omega];exact h1,h2⟩
   simp only [ZJ,bM] at hl q
   have step:∀(Z1:St) (l1:List UInt8),bY A o Z1 l1 d bb->jg A o Z Z1->l1=l ++ (if(m == 0)=true then [] else [44,32])->(∀(Q':AV->St->Prop),(∀Z',bY A o Z' (l1 ++ lF t 1) d bb->jg A o Z1 Z'->Q' (.tu []) Z')->au X 109 [.p o 0 0,.p ox gx 0,.i .i64 1] Z1 Q'):=by
    intro Z1 l1 h1 k1 e1 Q' hq
    have:=k1.len
    exact JA 0 t rfl 1 hS (hx.kept hS k1) h1 (by omega) (k1.tab hG hT) (by rw [e1,bM];omega) fun Z' h2 k2=>hq Z' h2 k2
   have rest:∀(Z1 Z2:St) (l1:List UInt8),jg A o Z Z1->l1=l ++ (if(m == 0)=true then [] else [44,32])->bY A o Z2 (l1 ++ lF t 1) d bb->jg A o Z1 Z2->aV X [0,52,53,54] NJ [(0,.p o 0 0),(52,.sl oa ga 0 cs.length 1),(53,.i .i64 cs.length),(54,.i .i64 ((m+1:Nat):Int))] Z2 Q:=by
    intro Z1 Z2 l1 k1 e1 h2 k2
    have k3:=k1.trans k2
    have:=k3.len
    refine ih hwt.2 (fun i t' ht=>JA (i+1) t' (by simpa using ht)) (m+1) Z2 (l1 ++ lF t 1) (by omega) (fun i t' ht=>?_) ((k3.low oa hxo.1 hxo.2).trans ho) h2 (by omega) (k3.tab hG hT) ?_ fun Z' h4 k4=>?_
    ·obtain⟨a,h1,h2⟩:=hnext i t' ht
     exact⟨a,h1,h2.kept hS k3⟩
    ·rw [show (m+1 == 0)=false from rfl,e1,bM,bM];omega
    ·rw [show (m+1 == 0)=false from rfl,e1] at h4
     exact q Z' (by simpa [iC] using h4) (k3.trans k4)
   cases m with
   | zero=>
     refine aV.round ay (lit:=false) ?_
     conv=>whnf
     rw [decide_eq_true (by omega)]
     conv=>whnf
     conv=>whnf
     refine⟨0,rfl,by omega,?_⟩
     conv=>whnf
     refine ak (aj (T:=aW) rfl rfl (ah ho) ha') ?_
     conv=>whnf
     refine step Z l hb (.refl _ _ _) (by simp) _ fun Z2 h2 k2=>?_
     conv=>whnf
     refine⟨((0+1:Nat):Int),wrap_i64 (by omega) (by omega),?_⟩
     conv=>whnf
     exact rest Z Z2 l (.refl _ _ _) (by simp) h2 k2
   | succ m=>
     refine aV.round ay (lit:=false) ?_
     conv=>whnf
     rw [decide_eq_true (by omega)]
     conv=>whnf
     conv=>whnf
     refine⟨m+1,rfl,by omega,?_⟩
     conv=>whnf
     refine ak (aj (T:=aW) rfl rfl (ah ho) ha') ?_
     conv=>whnf
     rw [decide_eq_true (show (0:Int)<((m+1:Nat):Int) by omega)]
     conv=>whnf
     refine bG [[44,32]] hb dw hA (by simp) (by simp at hl ⊢;omega) fun Z1 h1 k1=>?_
     conv=>whnf
     refine step Z1 (l ++ [[44,32]].flatten) h1 k1 (by simp) _ fun Z2 h2 k2=>?_
     conv=>whnf
     refine⟨((m+1+1:Nat):Int),wrap_i64 (by omega) (by omega),?_⟩
     conv=>whnf
     exact rest Z1 Z2 _ k1 (by simp) h2 k2
theorem WG (dw:o<A)(hG:10<=A/\10<=o) {n ln:Nat} {nm tx:List UInt8} {l r:Tr} {ar:jA} (hw:OI ar)(ia:∀(i:Nat) t,(kM ar)[i]? =some t->jL A o d bb t):jL A o d bb (.ex 4 n nm tx l r ar ln):=by
 intro S Z v out c hS hv hb hA hT hl Q q
 obtain⟨ox,gx,L,R,Ax,hs,rfl,hx,_,_,hAx⟩:=hv
 rw [lF,if_neg (by decide),if_neg (by decide),if_pos rfl] at hl q
 simp only [bM,bg,bZ] at hl
 have hxo:=hS ox hs
 have hal:=Qz hw true
 cases ar with
 | nil=>
   obtain rfl:Ax= .sl0:=hAx
   refine au.body (F:=BQ) ay (lit:=false) rfl rfl (aU rfl) ?_
   conv=>whnf
   refine ak (aj (T:=fF) rfl rfl (ah (hx)) rfl) ?_
   conv=>whnf
   refine ak (aj (T:=fB) rfl rfl (ah (hx)) rfl) ?_
   conv=>whnf
   refine bG [nm,[40]] hb dw hA (by simp) (by simp;omega) fun Z1 h1 k1=>?_
   have hx1:Z1[ox]? =_:=(k1.low ox hxo.1 hxo.2).trans hx
   have l1:=k1.len
   conv=>whnf
   refine ak (aj (T:=uf) rfl rfl (ah (hx1)) rfl) ?_
   conv=>whnf
   refine aV.round ay (lit:=false) ?_
   conv=>whnf
   refine bG [[41]] h1 dw (by omega) (by simp) (by simp;omega) fun Z2 h2 k2=>?_
   conv=>whnf
   exact hb.fin (by simpa [Ce,iC] using h2) (k1.trans k2) (by simpa [Ce,iC] using q)
 | cons t y=>
   obtain⟨oa2,ga2,n2,hoa,e2⟩:∃oa ga n,S oa/\Ax= .sl oa ga 0 n 1:=by obtain⟨oa,ga,cs,h1,h2,_⟩:=hAx;exact⟨oa,ga,_,h1,h2⟩
   obtain⟨oa,ga,cs,rfl,ho,hlen,hel⟩:=hAx.list
   injection e2 with e2
   subst e2
   have hao:=hS oa hoa
   refine au.body (F:=BQ) ay (lit:=false) rfl rfl (aU rfl) ?_
   conv=>whnf
   refine ak (aj (T:=fF) rfl rfl (ah (hx)) rfl) ?_
   conv=>whnf
   refine ak (aj (T:=fB) rfl rfl (ah (hx)) rfl) ?_
   conv=>whnf
   refine bG [nm,[40]] hb dw hA (by simp) (by simp;omega) fun Z1 h1 k1=>?_
   have hx1:Z1[ox]? =_:=(k1.low ox hxo.1 hxo.2).trans hx
   have l1:=k1.len
   conv=>whnf
   refine ak (aj (T:=uf) rfl rfl (ah (hx1)) rfl) ?_
   conv=>whnf
   refine SA dw hG hS hoa (by rw [Jz] at hl hal;omega) (kM (.cons t y)) (QA hw) ia 0 Z1 _ (by omega) (fun i t' ht=>?_) ((k1.low oa hao.1 hao.2).trans ho) h1 (by omega) (k1.tab hG hT) (by rw [Jz] at hl;simp only [bM,List.flatten_cons,List.flatten_nil,bg,bZ,List.append_nil];show _+(ZJ _ true).length<=_;omega) fun Z2 h2 k2=>?_
   ·obtain⟨a,q1,q2⟩:=hel i t' ht
    exact⟨a,by rw [Nat.zero_add];exact q1,q2.kept hS k1⟩
   have k12:=k1.trans k2
   have l2:=k12.len
   rw [show (0 == 0)=true from rfl,<-Jz] at h2
   conv=>whnf
   refine bG [[41]] h2 dw (by omega) (by simp) (by simp at hl ⊢;omega) fun Z3 h3 k3=>?_
   conv=>whnf
   exact hb.fin (by simpa [iC] using h3) (k12.trans k3) (by simpa [iC] using q)
theorem nn_of {t:Tr} (h:WT t):I8 t:=by cases h <;> trivial
mutual
theorem gX (dw:o<A)(hG:10<=A/\10<=o):∀(t:Tr),WT t->jL A o d bb t
 | .nil,h=>by cases h
 | .ex k n nm tx l r ar ln,h=>by
   cases h with
   | num _ _ h=>exact ZH dw rfl h
   | name _ _ h=>exact Wx dw rfl
   | un _ _ _ h1 h2=>exact pre_op dw hG rfl (fun(h:I8 .nil)=>False.elim h) (gX dw hG _ h2)
   | bin _ _ _ _ h1 h2 h3=>exact pre_op dw hG rfl (fun _=>gX dw hG _ h2) (gX dw hG _ h3)
   | call _ _ _ h1 h2=>exact WG dw hG h2 (MX dw hG _ h2)
   | cell _ _ _ h1 h2=>exact Wy dw hG rfl (gX dw hG _ h1) (gX dw hG _ h2)
   | link _ _ _ h1 h2=>exact WA dw hG rfl (nn_of h2) (gX dw hG _ h1) (gX dw hG _ h2)
   | new _ _ h=>exact ZG dw hG rfl (gX dw hG _ h)
   | inn _=>exact pre_in dw rfl
theorem MX (dw:o<A)(hG:10<=A/\10<=o):∀(a:jA),OI a->∀(i:Nat) t,(kM a)[i]? =some t->jL A o d bb t
 | .nil,_,i,t,ht=>by simp [kM] at ht
 | .cons s r,h,i,t,ht=>by
   cases h with
   | cons _ _ h1 h2=>
     cases i with
     | zero=>simp only [kM,List.getElem?_cons_zero,oW] at ht;subst ht;exact gX dw hG _ h1
     | succ i=>exact MX dw hG r h2 i t (by simpa [kM] using ht)
end
end
end Go.Abs.YtlkfbfhkcaldlaaGreatDoor
namespace Go.Abs.YtlkfbfhkcaldlaaGreatDoor
open Go.Proofs
set_option maxRecDepth 4000
theorem OV (d:Nat):bn (lu d)=List.replicate d 9:=by
 induction d with
 | zero=>rfl
 | succ d ih=>show bn (.b 9 :: lu d)=_;simp only [bn];rw [ih];rfl
theorem SB (d:Nat):Lib.repeatL [9] d=List.replicate d 9:=by
 induction d with
 | zero=>rfl
 | succ d ih=>show [9] ++ Lib.repeatL [9] d=_;rw [ih];rfl
section
variable {o A:Nat} {bb:Bool}
theorem QB {d:Nat} {Z:St} {l:List UInt8} (hb:bY A o Z l d bb)(dw:o<A)(hA:A<=Z.length)(hd:d<=1000)(hl:l.length+d<=1000000000) {Q:AV->St->Prop}
 (q:∀Z',bY A o Z' (l ++ bn (lu d)) d bb->jg A o Z Z'->Q (.tu []) Z'):au X 79 [.p o 0 0] Z Q:=by
 have hb':=hb
 obtain⟨b0,buf,hob,_⟩:=hb'
 refine au.body (F:=F79) ay (lit:=false) rfl rfl (aU rfl) ?_
 conv=>whnf
 refine ak (aj (T:=fF) rfl rfl (ah (hob)) rfl) ?_
 conv=>whnf
 refine au.fM (g:=yO) (v:=.s (List.replicate d 9)) (Z':=Z) rfl ?_ ?_
 ·simp only [yO]
  rw [if_pos ⟨by omega,by omega,by simp only [Int.toNat_natCast,bg,bZ];omega⟩,Int.toNat_natCast,SB]
 conv=>whnf
 refine bG [List.replicate d 9] hb dw hA (by simp) (by simp;omega) fun Z1 h1 k1=>?_
 conv=>whnf
 exact hb.fin (by rw [OV];simpa using h1) k1 q
theorem zH {d:Nat} {S:Nat->Prop} {Z:St} {v:AV} {l:List UInt8} {t:Tr} (ahead:List UInt8)(hS:∀i,S i->i<A/\i≠o)(hw:WT t)(hv:bP S Z v t)(hb:bY A o Z l d bb)(dw:o<A)(hG:10<=A/\10<=o)(hA:A<=Z.length)(hT:iV Z=true)
 (hl:l.length+(ahead ++ lF t 1 ++ [59]).length<=1000000000) {Q:AV->St->Prop} (q:∀Z',bY A o Z' (l ++ (ahead ++ lF t 1 ++ [59])) d bb->jg A o Z Z'->Q (.tu []) Z'):au X 108 [.p o 0 0,.s ahead,v] Z Q:=by
 obtain⟨ox,gx,rfl⟩:=hv.ptr hw
 simp only [bM,bg,bZ] at hl
 refine au.body (F:=F108) ay (lit:=false) rfl rfl (aU rfl) ?_
 conv=>whnf
 refine bG [ahead] hb dw hA (by simp) (by simp;omega) fun Z1 h1 k1=>?_
 have l1:=k1.len
 conv=>whnf
 refine gX dw hG t hw 1 hS (hv.kept hS k1) h1 (by omega) (k1.tab hG hT) (by simp;omega) fun Z2 h2 k2=>?_
 have k12:=k1.trans k2
 have l2:=k12.len
 conv=>whnf
 refine bG [[59]] h2 dw (by omega) (by simp) (by simp;omega) fun Z3 h3 k3=>?_
 conv=>whnf
 exact hb.fin (by simpa [iC] using h3) (k12.trans k3) (by simpa [iC] using q)
def jM (A o:Nat)(bb:Bool)(f:Nat)(s:Sm)(txt:Nat->List UInt8):Prop:=∀{S:Nat->Prop} {Z:St} {v:AV} {l:List UInt8} (d:Nat),(∀i,S i->i<A/\i≠o)->jc S Z v s->bY A o Z l d bb->A<=Z.length->iV Z=true->d+dS s<=70->l.length+(txt d).length<=1000000000->∀{Q:AV->St->Prop},
 (∀Z',bY A o Z' (l ++ txt d) d bb->jg A o Z Z'->Q (.tu []) Z')->au X f [.p o 0 0,v] Z Q
theorem jc.kept {S:Nat->Prop} {Z Z':St} {v:AV} {t:Sm} (hS:∀i,S i->i<A/\i≠o)(h:jc S Z v t)(k:jg A o Z Z'):jc S Z' v t:=h.mono (fun _ h=>h) (fun i hi a ha=>by rw [k.low i (hS i hi).1 (hS i hi).2];exact ha)
theorem dX.kept {S:Nat->Prop} {Z Z':St} {v:AV} {t:gY} (hS:∀i,S i->i<A/\i≠o)(h:dX S Z v t)(k:jg A o Z Z'):dX S Z' v t:=h.mono (fun _ h=>h) (fun i hi a ha=>by rw [k.low i (hS i hi).1 (hS i hi).2];exact ha)
theorem jc.ptr {S:Nat->Prop} {Z:St} {v:AV} :∀{t:Sm},jc S Z v t->∃o g,v= .p o g 0
 | .st ..,h=>by obtain⟨o,g,L,R,T,E,_,hv,_⟩:=h;exact⟨o,g,hv⟩
def QC (d:Nat):List Sm->List UInt8
 | []=>[]
 | s :: r=>bn (lu d) ++ bn (gu s d) ++ [10] ++ QC d r
theorem txSs:∀(l:gY) (d:Nat),bn (jo l d)=QC d (jy l)
 | .nil,d=>by simp [jo,bn,jy,QC]
 | .cons s r,d=>by simp [jo,aS,bn,jy,QC,txSs r d]
theorem bY.deep {d d':Nat} {Z:St} {l:List UInt8} {b0 buf:AV} (h1:Z[o]? =some ⟨0,false,.cells 79 [b0,buf,.i .i64 d,.b bb]⟩)(h2:b0= .p0\/b0= .p o 0 0)(h3:l=[]->buf= .sl0)(h4:qg 5 A Z buf (iM l))(dw:o<A) :
 bY A o (Z.set o ⟨0,false,.cells 79 [b0,buf,.i .i64 d',.b bb]⟩) l d' bb/\jg A o Z (Z.set o ⟨0,false,.cells 79 [b0,buf,.i .i64 d',.b bb]⟩):=by
 refine⟨⟨b0,buf,at_set h1 _,h2,h3,?_⟩,⟨by rw [gK];omega,fun i _ hi=>by rw [rZ (fun e=>hi e.symm)],fun i a ha hi _=>by rw [rZ (fun e=>hi e.symm)];exact ha⟩⟩
 rcases h4 with h | ⟨o3,g3,q1,q2,q3⟩
 ·exact .inl h
 ·exact .inr ⟨o3,g3,q1,q2,by rw [rZ (by omega)];exact q3⟩
@[reducible] def blkX (o oa ga n:Nat):Env:=put (some 19) (.b false) [(0,.p o 0 0),(16,.sl oa ga 0 n 1),(17,.i .i64 n),(18,.i .i64 n)]
theorem OW (dw:o<A)(hG:10<=A/\10<=o) {S:Nat->Prop} (hS:∀i,S i->i<A/\i≠o) {oa ga d:Nat} {cs:List AV} (hoa:S oa)(hcl:cs.length<=1000000000)(hd:d<=1000):∀(r:List Sm),(∀(i:Nat) s,r[i]? =some s->jM A o bb 80 s (fun d=>bn (gu s d))/\d+dS s<=70)->∀(m:Nat) (Z:St) (l:List UInt8),m+r.length=cs.length->
 (∀(i:Nat) s,r[i]? =some s->∃a,cs[m+i]? =some a/\jc S Z a s)->Z[oa]? =some ⟨ga,false,.cells 96 cs⟩->bY A o Z l d bb->A<=Z.length->iV Z=true->l.length+(QC d r).length<=1000000000->∀{Q:Out->Env->St->Prop},
 (∀Z',bY A o Z' (l ++ QC d r) d bb->jg A o Z Z'->Q (.exit 0) (blkX o oa ga cs.length) Z')->aV X [0,16,17,18] aah [(0,.p o 0 0),(16,.sl oa ga 0 cs.length 1),(17,.i .i64 cs.length),(18,.i .i64 m)] Z Q:=by
 intro r
 induction r with
 | nil=>
   intro _ m Z l hm _ _ hb _ _ _ Q q
   obtain rfl:m=cs.length:=hm
   refine aV.round ay (lit:=false) ?_
   conv=>whnf
   rw [decide_eq_false (by omega)]
   conv=>whnf
   conv=>whnf
   exact q Z (by simpa [QC] using hb) (.refl _ _ _)
 | cons s r ih=>
   intro JA m Z l hm hel ho hb hA hT hl Q q
   have hxo:=hS oa hoa
   simp only [bg] at hm
   obtain⟨a,ha,hx⟩:=hel 0 s rfl
   obtain⟨ox,gx,rfl⟩:=hx.ptr
   have ha':cs[0+m*1]? =some (.p ox gx 0):=by rw [Nat.zero_add,Nat.mul_one];exact ha
   simp only [QC,bM,bg,bZ] at hl q
   have htl:(bn (lu d)).length=d:=by rw [OV];simp
   refine aV.round ay (lit:=false) ?_
   conv=>whnf
   rw [decide_eq_true (by omega)]
   conv=>whnf
   conv=>whnf
   refine⟨m,rfl,by omega,?_⟩
   conv=>whnf
   refine ak (aj (T:=dH) rfl rfl (ah ho) ha') ?_
   conv=>whnf
   refine QB hb dw hA hd (by omega) fun Z1 h1 k1=>?_
   have l1:=k1.len
   conv=>whnf
   obtain⟨q1,q2⟩:=JA 0 s rfl
   refine q1 d hS (hx.kept hS k1) h1 (by omega) (k1.tab hG hT) q2 (by simp only [bM];omega) fun Z2 h2 k2'=>?_
   have k2:=k1.trans k2'
   have l2:=k2.len
   conv=>whnf
   refine bG [[10]] h2 dw (by omega) (by simp) (by simp only [bM,List.flatten_cons,List.flatten_nil,bg,bZ];omega) fun Z3 h3 nG=>?_
   have k3:=k2.trans nG
   have l3:=k3.len
   conv=>whnf
   refine⟨((m+1:Nat):Int),wrap_i64 (by omega) (by omega),?_⟩
   conv=>whnf
   refine ih (fun i t ht=>JA (i+1) t (by simpa using ht)) (m+1) Z3 _ (by omega) (fun i t ht=>?_) ((k3.low oa hxo.1 hxo.2).trans ho) h3 (by omega) (k3.tab hG hT) (by simp only [bM,List.flatten_cons,List.flatten_nil,bg,bZ];omega) fun Z' h4 k4=>?_
   ·obtain⟨a,h1,h2⟩:=hel (i+1) t (by simpa using ht)
    exact⟨a,by rw [show m+1+i=m+(i+1) by omega];exact h1,h2.kept hS k3⟩
   ·exact q Z' (by simpa [iC] using h4) (k3.trans k4)
theorem WH (dw:o<A)(hG:10<=A/\10<=o) {S:Nat->Prop} (hS:∀i,S i->i<A/\i≠o) {d:Nat} {b:gY} (JA:∀(i:Nat) s,(jy b)[i]? =some s->jM A o bb 80 s (fun d=>bn (gu s d))/\d+1+dS s<=70)(hd:d<=70) {Z:St} {v:AV} {l:List UInt8} (hv:dX S Z v b)(hn:(jy b).length<=1000000000)
 (hb:bY A o Z l d bb) (hA:A<=Z.length) (hT:iV Z=true) (hl:l.length+(bn (qp ++ jo b (d+1) ++ oQ d)).length<=1000000000) {Q:AV->St->Prop} (q:∀Z',bY A o Z' (l ++ bn (qp ++ jo b (d+1) ++ oQ d)) d bb->jg A o Z Z'->Q (.tu []) Z') :
 au X 45 [.p o 0 0,v] Z Q:=by
 have et:bn (qp ++ jo b (d+1) ++ oQ d)=[32,123,10] ++ QC (d+1) (jy b) ++ bn (lu d) ++ [125]:=by
  rw [aS,aS,txSs];unfold oQ;rw [aS];simp [qp,bn]
 have htl:(bn (lu d)).length=d:=by rw [OV];simp
 rw [et] at hl q
 simp only [bM,bg,bZ] at hl
 have hfull:v= .sl0/\jy b=[]\/∃oa ga cs,S oa/\v= .sl oa ga 0 cs.length 1/\Z[oa]? =some ⟨ga,false,.cells 96 cs⟩/\cs.length=(jy b).length/\∀(i:Nat) (x:Sm),(jy b)[i]? =some x->∃a,cs[i]? =some a/\jc S Z a x:=by
  cases b with
  | nil=>exact .inl ⟨hv,rfl⟩
  | cons s r=>
    obtain⟨oa2,ga2,n2,hoa,e2⟩:∃oa ga n,S oa/\v= .sl oa ga 0 n 1:=by obtain⟨oa,ga,cs,h1,h2,_⟩:=hv;exact⟨oa,ga,_,h1,h2⟩
    obtain⟨oa,ga,cs,rfl,ho,hlen,hel⟩:=hv.list
    injection e2 with e2
    subst e2
    exact .inr ⟨oa,ga,cs,hoa,rfl,ho,hlen,hel⟩
 have last:∀(Z4:St),bY A o Z4 (l ++ [32,123,10] ++ QC (d+1) (jy b)) d bb->jg A o Z Z4->∀{Q':AV->St->Prop},(∀Z5,bY A o Z5 (l ++ [32,123,10] ++ QC (d+1) (jy b) ++ bn (lu d)) d bb->jg A o Z Z5->A<=Z5.length->Q' (.tu []) Z5)->au X 79 [.p o 0 0] Z4 Q':=by
  intro Z4 h4 k4 Q' q'
  have:=k4.len
  exact QB h4 dw (by omega) (by omega) (by simp only [bM,bg,bZ];omega) fun Z5 h5 k5=>q' Z5 h5 (k4.trans k5) (by have:=(k4.trans k5).len;omega)
 rcases hfull with ⟨rfl,hnil⟩ | ⟨oa,ga,cs,hoa,rfl,ho,hlen,hel⟩
 ·refine au.body (F:=F45) ay (lit:=false) rfl rfl (aU rfl) ?_
  conv=>whnf
  refine bG [[32,123,10]] hb dw hA (by simp) (by simp;omega) fun Z1 h1 k1=>?_
  have l1:=k1.len
  have h1':=h1
  obtain⟨b0,buf,j1,j2,j3,j4⟩:=h1'
  conv=>whnf
  refine ak (aj (T:=fF) rfl rfl (ah (j1)) rfl) ?_
  conv=>whnf
  refine⟨((d+1:Nat):Int),wrap_i64 (by omega) (by omega),?_⟩
  conv=>whnf
  refine ak (aC [b0,buf,.i .i64 (d+1:Nat),.b bb] rfl j1 rfl rfl (aU rfl) rfl) ?_
  obtain⟨h2,k2'⟩:=bY.deep (d':=d+1) j1 j2 j3 j4 dw
  generalize Z1.set o ⟨0,false,.cells 79 [b0,buf,.i .i64 (d+1:Nat),.b bb]⟩=Z2 at h2 k2' ⊢
  have k2:=k1.trans k2'
  have l2:=k2.len
  conv=>whnf
  refine aV.round ay (lit:=false) ?_
  conv=>whnf
  have h2':=h2
  obtain⟨b0,buf,j1,j2,j3,j4⟩:=h2'
  refine ak (aj (T:=fF) rfl rfl (ah (j1)) rfl) ?_
  conv=>whnf
  refine⟨((d:Nat):Int),by rw [wrap_i64 (by omega) (by omega)];omega,?_⟩
  conv=>whnf
  refine ak (aC [b0,buf,.i .i64 (d:Nat),.b bb] rfl j1 rfl rfl (aU rfl) rfl) ?_
  obtain⟨h3,nG⟩:=bY.deep (d':=d) j1 j2 j3 j4 dw
  generalize Z2.set o ⟨0,false,.cells 79 [b0,buf,.i .i64 (d:Nat),.b bb]⟩=Z3 at h3 nG ⊢
  have k3:=k2.trans nG
  conv=>whnf
  refine last Z3 (by rw [hnil];simpa [QC] using h3) k3 fun Z5 h5 k5 l5=>?_
  conv=>whnf
  refine bG [[125]] h5 dw l5 (by simp) (by simp only [bM,List.flatten_cons,List.flatten_nil,bg,bZ];omega) fun Z6 h6 k6=>?_
  conv=>whnf
  exact hb.fin (by simpa [iC] using h6) (k5.trans k6) (by simpa [iC] using q)
 ·have hao:=hS oa hoa
  refine au.body (F:=F45) ay (lit:=false) rfl rfl (aU rfl) ?_
  conv=>whnf
  refine bG [[32,123,10]] hb dw hA (by simp) (by simp;omega) fun Z1 h1 k1=>?_
  have l1:=k1.len
  have h1':=h1
  obtain⟨b0,buf,j1,j2,j3,j4⟩:=h1'
  conv=>whnf
  refine ak (aj (T:=fF) rfl rfl (ah (j1)) rfl) ?_
  conv=>whnf
  refine⟨((d+1:Nat):Int),wrap_i64 (by omega) (by omega),?_⟩
  conv=>whnf
  refine ak (aC [b0,buf,.i .i64 (d+1:Nat),.b bb] rfl j1 rfl rfl (aU rfl) rfl) ?_
  obtain⟨h2,k2'⟩:=bY.deep (d':=d+1) j1 j2 j3 j4 dw
  generalize Z1.set o ⟨0,false,.cells 79 [b0,buf,.i .i64 (d+1:Nat),.b bb]⟩=Z2 at h2 k2' ⊢
  have k2:=k1.trans k2'
  have l2:=k2.len
  conv=>whnf
  refine OW dw hG hS hoa (by omega) (by omega) (jy b) JA 0 Z2 _ (by omega) (fun i t ht=>?_) ((k2.low oa hao.1 hao.2).trans ho) h2 (by omega) (k2.tab hG hT) (by simp only [bM,List.flatten_cons,List.flatten_nil,bg,bZ];omega) fun Z4 h4 Sz=>?_
  ·obtain⟨a,q1,q2⟩:=hel i t ht
   exact⟨a,by rw [Nat.zero_add];exact q1,q2.kept hS k2⟩
  have k4:=k2.trans Sz
  have h4':=h4
  obtain⟨b0,buf,j1,j2,j3,j4⟩:=h4'
  conv=>whnf
  refine ak (aj (T:=fF) rfl rfl (ah (j1)) rfl) ?_
  conv=>whnf
  refine⟨((d:Nat):Int),by rw [wrap_i64 (by omega) (by omega)];omega,?_⟩
  conv=>whnf
  refine ak (aC [b0,buf,.i .i64 (d:Nat),.b bb] rfl j1 rfl rfl (aU rfl) rfl) ?_
  obtain⟨h3,nG⟩:=bY.deep (d':=d) j1 j2 j3 j4 dw
  generalize Z4.set o ⟨0,false,.cells 79 [b0,buf,.i .i64 (d:Nat),.b bb]⟩=Z3 at h3 nG ⊢
  have k3:=k4.trans nG
  conv=>whnf
  refine last Z3 (by simpa [iC] using h3) k3 fun Z5 h5 k5 l5=>?_
  conv=>whnf
  refine bG [[125]] h5 dw l5 (by simp) (by simp only [bM,List.flatten_cons,List.flatten_nil,bg,bZ];omega) fun Z6 h6 k6=>?_
  conv=>whnf
  exact hb.fin (by simpa [iC] using h6) (k5.trans k6) (by simpa [iC] using q)
end
end Go.Abs.YtlkfbfhkcaldlaaGreatDoor
