/- Texts of this claim, joined: Sx, Qa, Qb, Qc, Qd, Qe, Qf. -/
import Derived.Test.YtlkfbfhkcaldlaaGreatDoorM16
import Derived.Test.YtlkfbfhkcaldlaaGreatDoorM18
import Derived.Test.YtlkfbfhkcaldlaaGreatDoorM14
set_option linter.unusedVariables false
set_option linter.unusedSimpArgs false
namespace Go.Abs.YtlkfbfhkcaldlaaGreatDoor
open Go.Proofs
set_option maxRecDepth 4000
mutual
def hT:Tr->Nat
 | .nil=>0
 | .ex _ _ _ _ l r a _=>1+hT l+hT r+hTs a
def hTs:jA->Nat
 | .nil=>0
 | .cons t r=>1+hT t+hTs r
end
theorem VR:∀(l:jA) (i:Nat) (t:Tr),(kM l)[i]? =some t->hT t+1<=hTs l
 | .nil,i,t,h=>by simp [kM] at h
 | .cons a r,0,t,h=>by simp only [kM,List.getElem?_cons_zero,oW] at h;subst h;simp only [hTs];omega
 | .cons a r,i+1,t,h=>by
   simp only [kM,List.getElem?_cons_succ] at h
   have:=VR r i t h;simp only [hTs];omega
theorem bP.shape {S:Nat->Prop} {Z:St} {v:AV} :∀{t:Tr},bP S Z v t->v= .p0\/∃o g,v= .p o g 0
 | .nil,h=>.inl h
 | .ex ..,h=>by obtain⟨o,g,L,R,A,_,hv,_⟩:=h;exact .inr ⟨o,g,hv⟩
theorem bP.two {S S':Nat->Prop} {Z:St} {v v2:AV} :∀{t:Tr},bP S Z v t->bP S' Z v2 t->(v= .p0/\v2= .p0)\/∃o g o' g',v= .p o g 0/\v2= .p o' g' 0
 | .nil,h,k=>.inl ⟨h,k⟩
 | .ex ..,h,k=>by obtain⟨o,g,L,R,A,_,hv,_⟩:=h;obtain⟨o',g',L',R',A',_,hu,_⟩:=k;exact .inr ⟨o,g,o',g',hv,hu⟩
theorem uF.list {S:Nat->Prop} {Z:St} :∀{r:jA} {cs:List AV},uF S Z cs r->cs.length=(kM r).length/\∀(i:Nat) (t:Tr),(kM r)[i]? =some t->∃a,cs[i]? =some a/\bP S Z a t
 | .nil,cs,h=>by have h:cs=[]:=h;subst h;exact⟨rfl,fun i t h=>by simp [kM] at h⟩
 | .cons t r,cs,h=>by
   obtain⟨a,tl,rfl,h1,h2⟩:=h
   obtain⟨h3,h4⟩:=uF.list h2
   refine⟨by simp [kM,h3],fun i t' ht=>?_⟩
   cases i with
   | zero=>simp only [kM,List.getElem?_cons_zero,oW] at ht;subst ht;exact⟨a,rfl,h1⟩
   | succ i=>exact h4 i t' (by simpa [kM] using ht)
theorem jK.list {S:Nat->Prop} {Z:St} {A:AV} {t:Tr} {r:jA} (h:jK S Z A (.cons t r)):∃o g cs,A= .sl o g 0 cs.length 1/\Z[o]? =some ⟨g,false,.cells 44 cs⟩/\cs.length=(kM (.cons t r)).length/\∀(i:Nat) (x:Tr),(kM (.cons t r))[i]? =some x->∃a,cs[i]? =some a/\bP S Z a x:=by
 obtain⟨o,g,cs,_,hv,ho,a,tl,hc,hx,hl⟩:=h
 have h2:uF S Z cs (.cons t r):=⟨a,tl,hc,hx,hl⟩
 obtain⟨h3,h4⟩:=h2.list
 exact⟨o,g,cs,hv,ho,h3,h4⟩
def Zg (g k n:Nat)(nm tx:List UInt8)(L R A:AV)(ln:Nat):AO:=⟨g,false,.cells 48 [.i .i64 k,.i .u32 n,.s nm,.s tx,L,R,A,.i .i64 ln]⟩
mutual
def hS:Sm->Nat
 | .st _ _ _ _ _ th el _=>1+hSs th+hSs el
def hSs:gY->Nat
 | .nil=>0
 | .cons t r=>1+hS t+hSs r
end
theorem VT:∀(l:gY) (i:Nat) (t:Sm),(jy l)[i]? =some t->hS t+1<=hSs l
 | .nil,i,t,h=>by simp [jy] at h
 | .cons a r,0,t,h=>by simp only [jy,List.getElem?_cons_zero,oW] at h;subst h;simp only [hSs];omega
 | .cons a r,i+1,t,h=>by
   simp only [jy,List.getElem?_cons_succ] at h
   have:=VT r i t h;simp only [hSs];omega
theorem LW.list {S:Nat->Prop} {Z:St} :∀{r:gY} {cs:List AV},LW S Z cs r->cs.length=(jy r).length/\∀(i:Nat) (t:Sm),(jy r)[i]? =some t->∃a,cs[i]? =some a/\jc S Z a t
 | .nil,cs,h=>by have h:cs=[]:=h;subst h;exact⟨rfl,fun i t h=>by simp [jy] at h⟩
 | .cons t r,cs,h=>by
   obtain⟨a,tl,rfl,h1,h2⟩:=h
   obtain⟨h3,h4⟩:=LW.list h2
   refine⟨by simp [jy,h3],fun i t' ht=>?_⟩
   cases i with
   | zero=>simp only [jy,List.getElem?_cons_zero,oW] at ht;subst ht;exact⟨a,rfl,h1⟩
   | succ i=>exact h4 i t' (by simpa [jy] using ht)
theorem dX.list {S:Nat->Prop} {Z:St} {A:AV} {t:Sm} {r:gY} (h:dX S Z A (.cons t r)):∃o g cs,A= .sl o g 0 cs.length 1/\Z[o]? =some ⟨g,false,.cells 96 cs⟩/\cs.length=(jy (.cons t r)).length/\∀(i:Nat) (x:Sm),(jy (.cons t r))[i]? =some x->∃a,cs[i]? =some a/\jc S Z a x:=by
 obtain⟨o,g,cs,_,hv,ho,a,tl,hc,hx,hl⟩:=h
 have h2:LW S Z cs (.cons t r):=⟨a,tl,hc,hx,hl⟩
 obtain⟨h3,h4⟩:=h2.list
 exact⟨o,g,cs,hv,ho,h3,h4⟩
def TwoS (a b:AV):Prop:=(a= .sl0/\b= .sl0)\/∃o g n o' g' n',a= .sl o g 0 n 1/\b= .sl o' g' 0 n' 1
theorem dX.two {S S':Nat->Prop} {Z:St} {v x:AV} :∀{t:gY},dX S Z v t->dX S' Z x t->TwoS v x
 | .nil,h,k=>.inl ⟨h,k⟩
 | .cons ..,h,k=>by obtain⟨o,g,cs,_,hv,_⟩:=h;obtain⟨o',g',cs',_,hu,_⟩:=k;exact .inr ⟨o,g,_,o',g',_,hv,hu⟩
def smO (g k:Nat)(nm:List UInt8)(pt:Bool)(L R T E:AV)(ln:Nat):AO:=⟨g,false,.cells 95 [.i .i64 k,.s nm,.b pt,L,R,T,E,.i .i64 ln]⟩
def VU (Z:St)(A:AV)(l:List (List UInt8×Bool)):Prop:=(A= .sl0/\l=[])\/∃o g,A= .sl o g 0 l.length 2/\Z[o]? =some ⟨g,false,.cells 71 (pq l)⟩
theorem ig.list {S:Nat->Prop} {Z:St} :∀{cs:List AV} {fs:List Fm},ig S Z cs fs->cs.length=fs.length/\∀(i:Nat) (f:Fm),fs[i]? =some f->∃a,cs[i]? =some a/\pz S Z a f
 | [],[],_=>⟨rfl,fun i f h=>by simp at h⟩
 | a :: cs,f :: fs,h=>by
   obtain⟨h1,h2⟩:=ig.list h.2.2
   refine⟨by simp [h1],fun i f' hf=>?_⟩
   cases i with
   | zero=>simp only [List.getElem?_cons_zero,oW] at hf;subst hf;exact⟨a,rfl,h.2.1⟩
   | succ i=>exact h2 i f' (by simpa using hf)
theorem sF.or {S:Nat->Prop} {Z:St} {A:AV} {l:List (List UInt8×Bool)} (h:sF S Z A l):VU Z A l:=by
 rcases h with ⟨h1,h2⟩ | ⟨o,g,_,h2,h3⟩
 ·exact .inl ⟨h2,h1⟩
 ·exact .inr ⟨o,g,h2,h3⟩
theorem vU:∀(l:List (List UInt8×Bool)) (m:Nat) (q:List UInt8×Bool),l[m]? =some q->((pq l).drop (m*2)).take 2=[.s q.1,.b q.2]
 | x :: l,0,q,h=>by cases h;simp [pq]
 | x :: l,m+1,q,h=>by
   have e:pq (x :: l)=[.s x.1,.b x.2] ++ pq l:=rfl
   rw [e,show (m+1)*2=2+m*2 by omega,<-List.drop_drop,List.drop_left' (by rfl)]
   exact vU l m q h
end Go.Abs.YtlkfbfhkcaldlaaGreatDoor
namespace Go.Abs.YtlkfbfhkcaldlaaGreatDoor
open Go.Proofs
set_option maxRecDepth 4000
theorem Ox {a b f:AV} {k:Nat} (hf:f= .fn (.func k) [] [])(ha:a= .p0\/∃o g,a= .p o g 0)(hb:b= .p0\/∃o g,b= .p o g 0) {Z:St} {r:Bool} (h00:a= .p0->b= .p0->r=true)(h01:a= .p0->b≠.p0->r=false)(h10:a≠.p0->b= .p0->r=false)
 (h1:a≠.p0->b≠.p0->au X k [a,b] Z fun v s=>v= .b r/\s=Z):au X 125 [a,b,f] Z fun v s=>v= .b r/\s=Z:=by
 subst hf
 rcases ha with rfl | ⟨o,g,rfl⟩ <;> rcases hb with rfl | ⟨o2,g2,rfl⟩
 ·rw [h00 rfl rfl]
  refine au.body (F:=QU) ay (lit:=false) rfl rfl (aU rfl) ?_
  conv=>whnf
  exact Fin.flat rfl iq ⟨rfl,rfl⟩
 ·rw [h01 rfl (by simp)]
  refine au.body (F:=QU) ay (lit:=false) rfl rfl (aU rfl) ?_
  conv=>whnf
  exact Fin.flat rfl iq ⟨rfl,rfl⟩
 ·rw [h10 (by simp) rfl]
  refine au.body (F:=QU) ay (lit:=false) rfl rfl (aU rfl) ?_
  conv=>whnf
  exact Fin.flat rfl iq ⟨rfl,rfl⟩
 ·have h1:=h1 (by simp) (by simp)
  refine au.body (F:=QU) ay (lit:=false) rfl rfl (aU rfl) ?_
  conv=>whnf
  refine au.to h1 ?_
  cases r
  all_goals
   conv=>whnf
   exact Fin.flat rfl iq ⟨rfl,rfl⟩
theorem both_s {a b f:AV} {k:Nat} (hf:f= .fn (.func k) [] [])(ha:a= .p0\/∃o g,a= .p o g 0)(hb:b= .p0\/∃o g,b= .p o g 0) {Z:St} {r:Bool} (h00:a= .p0->b= .p0->r=true)(h01:a= .p0->b≠.p0->r=false)(h10:a≠.p0->b= .p0->r=false)
 (h1:a≠.p0->b≠.p0->au X k [a,b] Z fun v s=>v= .b r/\s=Z):au X 95 [a,b,f] Z fun v s=>v= .b r/\s=Z:=by
 subst hf
 rcases ha with rfl | ⟨o,g,rfl⟩ <;> rcases hb with rfl | ⟨o2,g2,rfl⟩
 ·rw [h00 rfl rfl]
  refine au.body (F:=F95) ay (lit:=false) rfl rfl (aU rfl) ?_
  conv=>whnf
  exact Fin.flat rfl iq ⟨rfl,rfl⟩
 ·rw [h01 rfl (by simp)]
  refine au.body (F:=F95) ay (lit:=false) rfl rfl (aU rfl) ?_
  conv=>whnf
  exact Fin.flat rfl iq ⟨rfl,rfl⟩
 ·rw [h10 (by simp) rfl]
  refine au.body (F:=F95) ay (lit:=false) rfl rfl (aU rfl) ?_
  conv=>whnf
  exact Fin.flat rfl iq ⟨rfl,rfl⟩
 ·have h1:=h1 (by simp) (by simp)
  refine au.body (F:=F95) ay (lit:=false) rfl rfl (aU rfl) ?_
  conv=>whnf
  refine au.to h1 ?_
  cases r
  all_goals
   conv=>whnf
   exact Fin.flat rfl iq ⟨rfl,rfl⟩
theorem both_f {a b f:AV} {k:Nat} (hf:f= .fn (.func k) [] [])(ha:a= .p0\/∃o g,a= .p o g 0)(hb:b= .p0\/∃o g,b= .p o g 0) {Z:St} {r:Bool} (h00:a= .p0->b= .p0->r=true)(h01:a= .p0->b≠.p0->r=false)(h10:a≠.p0->b= .p0->r=false)
 (h1:a≠.p0->b≠.p0->au X k [a,b] Z fun v s=>v= .b r/\s=Z):au X 61 [a,b,f] Z fun v s=>v= .b r/\s=Z:=by
 subst hf
 rcases ha with rfl | ⟨o,g,rfl⟩ <;> rcases hb with rfl | ⟨o2,g2,rfl⟩
 ·rw [h00 rfl rfl]
  refine au.body (F:=F61) ay (lit:=false) rfl rfl (aU rfl) ?_
  conv=>whnf
  exact Fin.flat rfl iq ⟨rfl,rfl⟩
 ·rw [h01 rfl (by simp)]
  refine au.body (F:=F61) ay (lit:=false) rfl rfl (aU rfl) ?_
  conv=>whnf
  exact Fin.flat rfl iq ⟨rfl,rfl⟩
 ·rw [h10 (by simp) rfl]
  refine au.body (F:=F61) ay (lit:=false) rfl rfl (aU rfl) ?_
  conv=>whnf
  exact Fin.flat rfl iq ⟨rfl,rfl⟩
 ·have h1:=h1 (by simp) (by simp)
  refine au.body (F:=F61) ay (lit:=false) rfl rfl (aU rfl) ?_
  conv=>whnf
  refine au.to h1 ?_
  cases r
  all_goals
   conv=>whnf
   exact Fin.flat rfl iq ⟨rfl,rfl⟩
theorem both_p {a b f:AV} {k:Nat} (hf:f= .fn (.func k) [] [])(ha:a= .p0\/∃o g,a= .p o g 0)(hb:b= .p0\/∃o g,b= .p o g 0) {Z:St} {r:Bool} (h00:a= .p0->b= .p0->r=true)(h01:a= .p0->b≠.p0->r=false)(h10:a≠.p0->b= .p0->r=false)
 (h1:a≠.p0->b≠.p0->au X k [a,b] Z fun v s=>v= .b r/\s=Z):au X 27 [a,b,f] Z fun v s=>v= .b r/\s=Z:=by
 subst hf
 rcases ha with rfl | ⟨o,g,rfl⟩ <;> rcases hb with rfl | ⟨o2,g2,rfl⟩
 ·rw [h00 rfl rfl]
  refine au.body (F:=F27) ay (lit:=false) rfl rfl (aU rfl) ?_
  conv=>whnf
  exact Fin.flat rfl iq ⟨rfl,rfl⟩
 ·rw [h01 rfl (by simp)]
  refine au.body (F:=F27) ay (lit:=false) rfl rfl (aU rfl) ?_
  conv=>whnf
  exact Fin.flat rfl iq ⟨rfl,rfl⟩
 ·rw [h10 (by simp) rfl]
  refine au.body (F:=F27) ay (lit:=false) rfl rfl (aU rfl) ?_
  conv=>whnf
  exact Fin.flat rfl iq ⟨rfl,rfl⟩
 ·have h1:=h1 (by simp) (by simp)
  refine au.body (F:=F27) ay (lit:=false) rfl rfl (aU rfl) ?_
  conv=>whnf
  refine au.to h1 ?_
  cases r
  all_goals
   conv=>whnf
   exact Fin.flat rfl iq ⟨rfl,rfl⟩
end Go.Abs.YtlkfbfhkcaldlaaGreatDoor
namespace Go.Abs.YtlkfbfhkcaldlaaGreatDoor
open Go.Proofs
set_option maxRecDepth 4000
section
variable {f:Nat} {Z:St} {o1 g1 o2 g2:Nat} {cs ds:List AV}
theorem Oy (h1:Z[o1]? =some ⟨g1,false,.cells 44 cs⟩)(h2:Z[o2]? =some ⟨g2,false,.cells 44 ds⟩)(hl:cs.length=ds.length)(hb:cs.length<=100000)(hp1:∀(i:Nat) (a:AV),cs[i]? =some a->a= .p0\/∃o g,a= .p o g 0)(hp2:∀(i:Nat) (a:AV),ds[i]? =some a->a= .p0\/∃o g,a= .p o g 0)(R:Nat->Bool)
 (hR:∀(i:Nat) (a b:AV),cs[i]? =some a->ds[i]? =some b->au X f [a,b] Z fun v s=>v= .b (R i)/\s=Z) {Q:Out->Env->St->Prop}
 (q1:(∀i,i<cs.length->R i=true)->∀e',get e' 1000000= .u->Q (.exit 0) e' Z) (q2:(∃i,i<cs.length/\R i=false)->∀e',get e' 6= .b false->Q .ret e' Z):∀(k m:Nat),m+k=cs.length->(∀i,i<m->R i=true)->
 aV X [1,2,15,16,17] Uc [(1,.sl o2 g2 0 ds.length 1),(2,.fn (.func f) [] []),(15,.sl o1 g1 0 cs.length 1),(16,.i .i64 cs.length),(17,.i .i64 m)] Z Q:=by
 intro k
 induction k with
 | zero=>
   intro m hm hall
   refine aV.round ay (lit:=false) ?_
   conv=>whnf
   rw [decide_eq_false (by omega)]
   conv=>whnf
   conv=>whnf
   exact q1 (fun i hi=>hall i (by omega)) _ rfl
 | succ k ih=>
   intro m hm hall
   obtain⟨a,ha⟩:∃a,cs[m]? =some a:=⟨_,sN (by omega)⟩
   obtain⟨b,hb'⟩:∃b,ds[m]? =some b:=⟨_,sN (by omega)⟩
   have hr:=hR m a b ha hb'
   have ha':cs[0+m*1]? =some a:=by rw [Nat.zero_add,Nat.mul_one];exact ha
   have VW:ds[0+m*1]? =some b:=by rw [Nat.zero_add,Nat.mul_one];exact hb'
   rcases hp1 m a ha with rfl | ⟨oa,ga,rfl⟩ <;> rcases hp2 m b hb' with rfl | ⟨ob,gb,rfl⟩
   all_goals
    refine aV.round ay (lit:=false) ?_
    conv=>whnf
    rw [decide_eq_true (by omega)]
    conv=>whnf
    conv=>whnf
    refine⟨m,rfl,by omega,?_⟩
    conv=>whnf
    refine ak (aj (T:=aW) rfl rfl (ah h1) ha') ?_
    conv=>whnf
    refine⟨m,rfl,by omega,?_⟩
    conv=>whnf
    refine ak (aj (T:=aW) rfl rfl (ah h2) VW) ?_
    conv=>whnf
    refine au.to hr ?_
    cases hm':R m with
    | true=>
      conv=>whnf
      refine⟨((m+1:Nat):Int),wrap_i64 (by omega) (by omega),?_⟩
      conv=>whnf
      exact ih (m+1) (by omega) fun i hi=>by
       rcases Nat.lt_or_ge i m with h | h
       ·exact hall i h
       ·obtain rfl:i=m:=by omega
        exact hm'
    | false=>
      conv=>whnf
      exact q2 ⟨m,by omega,hm'⟩ _ rfl
end
section
variable {f:Nat} {Z:St} {o1 g1 o2 g2:Nat} {cs ds:List AV}
theorem Oz (h1:Z[o1]? =some ⟨g1,false,.cells 96 cs⟩)(h2:Z[o2]? =some ⟨g2,false,.cells 96 ds⟩)(hl:cs.length=ds.length)(hb:cs.length<=100000)(hp1:∀(i:Nat) (a:AV),cs[i]? =some a->a= .p0\/∃o g,a= .p o g 0)(hp2:∀(i:Nat) (a:AV),ds[i]? =some a->a= .p0\/∃o g,a= .p o g 0)(R:Nat->Bool)
 (hR:∀(i:Nat) (a b:AV),cs[i]? =some a->ds[i]? =some b->au X f [a,b] Z fun v s=>v= .b (R i)/\s=Z) {Q:Out->Env->St->Prop}
 (q1:(∀i,i<cs.length->R i=true)->∀e',get e' 1000000= .u->Q (.exit 0) e' Z) (q2:(∃i,i<cs.length/\R i=false)->∀e',get e' 6= .b false->Q .ret e' Z):∀(k m:Nat),m+k=cs.length->(∀i,i<m->R i=true)->
 aV X [1,2,15,16,17] aak [(1,.sl o2 g2 0 ds.length 1),(2,.fn (.func f) [] []),(15,.sl o1 g1 0 cs.length 1),(16,.i .i64 cs.length),(17,.i .i64 m)] Z Q:=by
 intro k
 induction k with
 | zero=>
   intro m hm hall
   refine aV.round ay (lit:=false) ?_
   conv=>whnf
   rw [decide_eq_false (by omega)]
   conv=>whnf
   conv=>whnf
   exact q1 (fun i hi=>hall i (by omega)) _ rfl
 | succ k ih=>
   intro m hm hall
   obtain⟨a,ha⟩:∃a,cs[m]? =some a:=⟨_,sN (by omega)⟩
   obtain⟨b,hb'⟩:∃b,ds[m]? =some b:=⟨_,sN (by omega)⟩
   have hr:=hR m a b ha hb'
   have ha':cs[0+m*1]? =some a:=by rw [Nat.zero_add,Nat.mul_one];exact ha
   have VW:ds[0+m*1]? =some b:=by rw [Nat.zero_add,Nat.mul_one];exact hb'
   rcases hp1 m a ha with rfl | ⟨oa,ga,rfl⟩ <;> rcases hp2 m b hb' with rfl | ⟨ob,gb,rfl⟩
   all_goals
    refine aV.round ay (lit:=false) ?_
    conv=>whnf
    rw [decide_eq_true (by omega)]
    conv=>whnf
    conv=>whnf
    refine⟨m,rfl,by omega,?_⟩
    conv=>whnf
    refine ak (aj (T:=dH) rfl rfl (ah h1) ha') ?_
    conv=>whnf
    refine⟨m,rfl,by omega,?_⟩
    conv=>whnf
    refine ak (aj (T:=dH) rfl rfl (ah h2) VW) ?_
    conv=>whnf
    refine au.to hr ?_
    cases hm':R m with
    | true=>
      conv=>whnf
      refine⟨((m+1:Nat):Int),wrap_i64 (by omega) (by omega),?_⟩
      conv=>whnf
      exact ih (m+1) (by omega) fun i hi=>by
       rcases Nat.lt_or_ge i m with h | h
       ·exact hall i h
       ·obtain rfl:i=m:=by omega
        exact hm'
    | false=>
      conv=>whnf
      exact q2 ⟨m,by omega,hm'⟩ _ rfl
end
section
variable {f:Nat} {Z:St} {o1 g1 o2 g2:Nat} {cs ds:List AV}
theorem OA (h1:Z[o1]? =some ⟨g1,false,.cells 64 cs⟩)(h2:Z[o2]? =some ⟨g2,false,.cells 64 ds⟩)(hl:cs.length=ds.length)(hb:cs.length<=100000)(hp1:∀(i:Nat) (a:AV),cs[i]? =some a->a= .p0\/∃o g,a= .p o g 0)(hp2:∀(i:Nat) (a:AV),ds[i]? =some a->a= .p0\/∃o g,a= .p o g 0)(R:Nat->Bool)
 (hR:∀(i:Nat) (a b:AV),cs[i]? =some a->ds[i]? =some b->au X f [a,b] Z fun v s=>v= .b (R i)/\s=Z) {Q:Out->Env->St->Prop}
 (q1:(∀i,i<cs.length->R i=true)->∀e',get e' 1000000= .u->Q (.exit 0) e' Z) (q2:(∃i,i<cs.length/\R i=false)->∀e',get e' 6= .b false->Q .ret e' Z):∀(k m:Nat),m+k=cs.length->(∀i,i<m->R i=true)->
 aV X [1,2,15,16,17] aaf [(1,.sl o2 g2 0 ds.length 1),(2,.fn (.func f) [] []),(15,.sl o1 g1 0 cs.length 1),(16,.i .i64 cs.length),(17,.i .i64 m)] Z Q:=by
 intro k
 induction k with
 | zero=>
   intro m hm hall
   refine aV.round ay (lit:=false) ?_
   conv=>whnf
   rw [decide_eq_false (by omega)]
   conv=>whnf
   conv=>whnf
   exact q1 (fun i hi=>hall i (by omega)) _ rfl
 | succ k ih=>
   intro m hm hall
   obtain⟨a,ha⟩:∃a,cs[m]? =some a:=⟨_,sN (by omega)⟩
   obtain⟨b,hb'⟩:∃b,ds[m]? =some b:=⟨_,sN (by omega)⟩
   have hr:=hR m a b ha hb'
   have ha':cs[0+m*1]? =some a:=by rw [Nat.zero_add,Nat.mul_one];exact ha
   have VW:ds[0+m*1]? =some b:=by rw [Nat.zero_add,Nat.mul_one];exact hb'
   rcases hp1 m a ha with rfl | ⟨oa,ga,rfl⟩ <;> rcases hp2 m b hb' with rfl | ⟨ob,gb,rfl⟩
   all_goals
    refine aV.round ay (lit:=false) ?_
    conv=>whnf
    rw [decide_eq_true (by omega)]
    conv=>whnf
    conv=>whnf
    refine⟨m,rfl,by omega,?_⟩
    conv=>whnf
    refine ak (aj (T:=dY) rfl rfl (ah h1) ha') ?_
    conv=>whnf
    refine⟨m,rfl,by omega,?_⟩
    conv=>whnf
    refine ak (aj (T:=dY) rfl rfl (ah h2) VW) ?_
    conv=>whnf
    refine au.to hr ?_
    cases hm':R m with
    | true=>
      conv=>whnf
      refine⟨((m+1:Nat):Int),wrap_i64 (by omega) (by omega),?_⟩
      conv=>whnf
      exact ih (m+1) (by omega) fun i hi=>by
       rcases Nat.lt_or_ge i m with h | h
       ·exact hall i h
       ·obtain rfl:i=m:=by omega
        exact hm'
    | false=>
      conv=>whnf
      exact q2 ⟨m,by omega,hm'⟩ _ rfl
end
end Go.Abs.YtlkfbfhkcaldlaaGreatDoor
namespace Go.Abs.YtlkfbfhkcaldlaaGreatDoor
open Go.Proofs
set_option maxRecDepth 4000
def rO (e:Nat)(Z:St)(v:AV)(cs:List AV):Prop:=(cs=[]/\v= .sl0)\/∃o g,v= .sl o g 0 cs.length 1/\Z[o]? =some ⟨g,false,.cells e cs⟩
theorem eqf_e {f:Nat} {Z:St} {va vb:AV} {cs ds:List AV} (ha:rO 44 Z va cs)(hb:rO 44 Z vb ds)(hbc:cs.length<=100000)(hbd:ds.length<=100000)(hp1:∀(i:Nat) (a:AV),cs[i]? =some a->a= .p0\/∃o g,a= .p o g 0)(hp2:∀(i:Nat) (a:AV),ds[i]? =some a->a= .p0\/∃o g,a= .p o g 0)(R:Nat->Bool)
 (hR:∀(i:Nat) (a b:AV),cs[i]? =some a->ds[i]? =some b->au X f [a,b] Z fun v s=>v= .b (R i)/\s=Z) {r:Bool}
 (r1:cs.length=ds.length->(∀i,i<cs.length->R i=true)->r=true) (r2:cs.length≠ds.length->r=false) (r3:(∃i,i<cs.length/\R i=false)->r=false) :
 au X 127 [va,vb,.fn (.func f) [] []] Z fun v s=>v= .b r/\s=Z:=by
 rcases ha with ⟨rfl,rfl⟩ | ⟨o1,g1,rfl,h1⟩ <;> rcases hb with ⟨rfl,rfl⟩ | ⟨o2,g2,rfl,h2⟩
 ·rw [r1 rfl (fun i hi=>absurd hi (Nat.not_lt_zero i))]
  refine au.body (F:=IB) ay (lit:=false) rfl rfl (aU rfl) ?_
  conv=>whnf
  refine aV.round ay (lit:=false) ?_
  conv=>whnf
  exact Fin.flat rfl iq ⟨rfl,rfl⟩
 ·by_cases hl:0=ds.length
  ·rw [r1 hl (fun i hi=>absurd hi (Nat.not_lt_zero i))]
   refine au.body (F:=IB) ay (lit:=false) rfl rfl (aU rfl) ?_
   conv=>whnf
   rw [decide_eq_true (by omega)]
   conv=>whnf
   refine aV.round ay (lit:=false) ?_
   conv=>whnf
   exact Fin.flat rfl iq ⟨rfl,rfl⟩
  ·rw [r2 hl]
   refine au.body (F:=IB) ay (lit:=false) rfl rfl (aU rfl) ?_
   conv=>whnf
   rw [decide_eq_false (by omega)]
   conv=>whnf
   exact Fin.flat rfl iq ⟨rfl,rfl⟩
 ·by_cases hl:cs.length=0
  ·rw [r1 hl (fun i hi=>by omega)]
   refine au.body (F:=IB) ay (lit:=false) rfl rfl (aU rfl) ?_
   conv=>whnf
   rw [decide_eq_true (by omega)]
   conv=>whnf
   refine aV.round ay (lit:=false) ?_
   conv=>whnf
   rw [decide_eq_false (by omega)]
   conv=>whnf
   conv=>whnf
   exact Fin.flat rfl iq ⟨rfl,rfl⟩
  ·rw [r2 hl]
   refine au.body (F:=IB) ay (lit:=false) rfl rfl (aU rfl) ?_
   conv=>whnf
   rw [decide_eq_false (by omega)]
   conv=>whnf
   exact Fin.flat rfl iq ⟨rfl,rfl⟩
 ·by_cases hl:cs.length=ds.length
  ·refine au.body (F:=IB) ay (lit:=false) rfl rfl (aU rfl) ?_
   conv=>whnf
   rw [decide_eq_true (by omega)]
   conv=>whnf
   refine Oy h1 h2 hl hbc hp1 hp2 R hR (fun hall e' hu=>?_) (fun hex e' h6=>?_) cs.length 0 (by omega) (fun i hi=>absurd hi (Nat.not_lt_zero i))
   ·rw [r1 hl hall]
    conv=>whnf
    exact Fin.flat rfl iq ⟨rfl,rfl⟩
   ·rw [r3 hex]
    conv=>whnf
    rw [h6]
    conv=>whnf
    exact Fin.flat rfl iq ⟨rfl,rfl⟩
  ·rw [r2 hl]
   refine au.body (F:=IB) ay (lit:=false) rfl rfl (aU rfl) ?_
   conv=>whnf
   rw [decide_eq_false (by omega)]
   conv=>whnf
   exact Fin.flat rfl iq ⟨rfl,rfl⟩
theorem eqf_s {f:Nat} {Z:St} {va vb:AV} {cs ds:List AV} (ha:rO 96 Z va cs)(hb:rO 96 Z vb ds)(hbc:cs.length<=100000)(hbd:ds.length<=100000)(hp1:∀(i:Nat) (a:AV),cs[i]? =some a->a= .p0\/∃o g,a= .p o g 0)(hp2:∀(i:Nat) (a:AV),ds[i]? =some a->a= .p0\/∃o g,a= .p o g 0)(R:Nat->Bool)
 (hR:∀(i:Nat) (a b:AV),cs[i]? =some a->ds[i]? =some b->au X f [a,b] Z fun v s=>v= .b (R i)/\s=Z) {r:Bool}
 (r1:cs.length=ds.length->(∀i,i<cs.length->R i=true)->r=true) (r2:cs.length≠ds.length->r=false) (r3:(∃i,i<cs.length/\R i=false)->r=false) :
 au X 64 [va,vb,.fn (.func f) [] []] Z fun v s=>v= .b r/\s=Z:=by
 rcases ha with ⟨rfl,rfl⟩ | ⟨o1,g1,rfl,h1⟩ <;> rcases hb with ⟨rfl,rfl⟩ | ⟨o2,g2,rfl,h2⟩
 ·rw [r1 rfl (fun i hi=>absurd hi (Nat.not_lt_zero i))]
  refine au.body (F:=Yk) ay (lit:=false) rfl rfl (aU rfl) ?_
  conv=>whnf
  refine aV.round ay (lit:=false) ?_
  conv=>whnf
  exact Fin.flat rfl iq ⟨rfl,rfl⟩
 ·by_cases hl:0=ds.length
  ·rw [r1 hl (fun i hi=>absurd hi (Nat.not_lt_zero i))]
   refine au.body (F:=Yk) ay (lit:=false) rfl rfl (aU rfl) ?_
   conv=>whnf
   rw [decide_eq_true (by omega)]
   conv=>whnf
   refine aV.round ay (lit:=false) ?_
   conv=>whnf
   exact Fin.flat rfl iq ⟨rfl,rfl⟩
  ·rw [r2 hl]
   refine au.body (F:=Yk) ay (lit:=false) rfl rfl (aU rfl) ?_
   conv=>whnf
   rw [decide_eq_false (by omega)]
   conv=>whnf
   exact Fin.flat rfl iq ⟨rfl,rfl⟩
 ·by_cases hl:cs.length=0
  ·rw [r1 hl (fun i hi=>by omega)]
   refine au.body (F:=Yk) ay (lit:=false) rfl rfl (aU rfl) ?_
   conv=>whnf
   rw [decide_eq_true (by omega)]
   conv=>whnf
   refine aV.round ay (lit:=false) ?_
   conv=>whnf
   rw [decide_eq_false (by omega)]
   conv=>whnf
   conv=>whnf
   exact Fin.flat rfl iq ⟨rfl,rfl⟩
  ·rw [r2 hl]
   refine au.body (F:=Yk) ay (lit:=false) rfl rfl (aU rfl) ?_
   conv=>whnf
   rw [decide_eq_false (by omega)]
   conv=>whnf
   exact Fin.flat rfl iq ⟨rfl,rfl⟩
 ·by_cases hl:cs.length=ds.length
  ·refine au.body (F:=Yk) ay (lit:=false) rfl rfl (aU rfl) ?_
   conv=>whnf
   rw [decide_eq_true (by omega)]
   conv=>whnf
   refine Oz h1 h2 hl hbc hp1 hp2 R hR (fun hall e' hu=>?_) (fun hex e' h6=>?_) cs.length 0 (by omega) (fun i hi=>absurd hi (Nat.not_lt_zero i))
   ·rw [r1 hl hall]
    conv=>whnf
    exact Fin.flat rfl iq ⟨rfl,rfl⟩
   ·rw [r3 hex]
    conv=>whnf
    rw [h6]
    conv=>whnf
    exact Fin.flat rfl iq ⟨rfl,rfl⟩
  ·rw [r2 hl]
   refine au.body (F:=Yk) ay (lit:=false) rfl rfl (aU rfl) ?_
   conv=>whnf
   rw [decide_eq_false (by omega)]
   conv=>whnf
   exact Fin.flat rfl iq ⟨rfl,rfl⟩
theorem eqf_f {f:Nat} {Z:St} {va vb:AV} {cs ds:List AV} (ha:rO 64 Z va cs)(hb:rO 64 Z vb ds)(hbc:cs.length<=100000)(hbd:ds.length<=100000)(hp1:∀(i:Nat) (a:AV),cs[i]? =some a->a= .p0\/∃o g,a= .p o g 0)(hp2:∀(i:Nat) (a:AV),ds[i]? =some a->a= .p0\/∃o g,a= .p o g 0)(R:Nat->Bool)
 (hR:∀(i:Nat) (a b:AV),cs[i]? =some a->ds[i]? =some b->au X f [a,b] Z fun v s=>v= .b (R i)/\s=Z) {r:Bool}
 (r1:cs.length=ds.length->(∀i,i<cs.length->R i=true)->r=true) (r2:cs.length≠ds.length->r=false) (r3:(∃i,i<cs.length/\R i=false)->r=false) :
 au X 29 [va,vb,.fn (.func f) [] []] Z fun v s=>v= .b r/\s=Z:=by
 rcases ha with ⟨rfl,rfl⟩ | ⟨o1,g1,rfl,h1⟩ <;> rcases hb with ⟨rfl,rfl⟩ | ⟨o2,g2,rfl,h2⟩
 ·rw [r1 rfl (fun i hi=>absurd hi (Nat.not_lt_zero i))]
  refine au.body (F:=Yi) ay (lit:=false) rfl rfl (aU rfl) ?_
  conv=>whnf
  refine aV.round ay (lit:=false) ?_
  conv=>whnf
  exact Fin.flat rfl iq ⟨rfl,rfl⟩
 ·by_cases hl:0=ds.length
  ·rw [r1 hl (fun i hi=>absurd hi (Nat.not_lt_zero i))]
   refine au.body (F:=Yi) ay (lit:=false) rfl rfl (aU rfl) ?_
   conv=>whnf
   rw [decide_eq_true (by omega)]
   conv=>whnf
   refine aV.round ay (lit:=false) ?_
   conv=>whnf
   exact Fin.flat rfl iq ⟨rfl,rfl⟩
  ·rw [r2 hl]
   refine au.body (F:=Yi) ay (lit:=false) rfl rfl (aU rfl) ?_
   conv=>whnf
   rw [decide_eq_false (by omega)]
   conv=>whnf
   exact Fin.flat rfl iq ⟨rfl,rfl⟩
 ·by_cases hl:cs.length=0
  ·rw [r1 hl (fun i hi=>by omega)]
   refine au.body (F:=Yi) ay (lit:=false) rfl rfl (aU rfl) ?_
   conv=>whnf
   rw [decide_eq_true (by omega)]
   conv=>whnf
   refine aV.round ay (lit:=false) ?_
   conv=>whnf
   rw [decide_eq_false (by omega)]
   conv=>whnf
   conv=>whnf
   exact Fin.flat rfl iq ⟨rfl,rfl⟩
  ·rw [r2 hl]
   refine au.body (F:=Yi) ay (lit:=false) rfl rfl (aU rfl) ?_
   conv=>whnf
   rw [decide_eq_false (by omega)]
   conv=>whnf
   exact Fin.flat rfl iq ⟨rfl,rfl⟩
 ·by_cases hl:cs.length=ds.length
  ·refine au.body (F:=Yi) ay (lit:=false) rfl rfl (aU rfl) ?_
   conv=>whnf
   rw [decide_eq_true (by omega)]
   conv=>whnf
   refine OA h1 h2 hl hbc hp1 hp2 R hR (fun hall e' hu=>?_) (fun hex e' h6=>?_) cs.length 0 (by omega) (fun i hi=>absurd hi (Nat.not_lt_zero i))
   ·rw [r1 hl hall]
    conv=>whnf
    exact Fin.flat rfl iq ⟨rfl,rfl⟩
   ·rw [r3 hex]
    conv=>whnf
    rw [h6]
    conv=>whnf
    exact Fin.flat rfl iq ⟨rfl,rfl⟩
  ·rw [r2 hl]
   refine au.body (F:=Yi) ay (lit:=false) rfl rfl (aU rfl) ?_
   conv=>whnf
   rw [decide_eq_false (by omega)]
   conv=>whnf
   exact Fin.flat rfl iq ⟨rfl,rfl⟩
end Go.Abs.YtlkfbfhkcaldlaaGreatDoor
namespace Go.Abs.YtlkfbfhkcaldlaaGreatDoor
open Go.Proofs
set_option maxRecDepth 4000
theorem Zh {k n ln k' n' OB:Nat} {nm tx nm' tx':List UInt8} {Z:St} {o1 g1 o2 g2:Nat} {L1 R1 A1 L2 R2 A2:AV} (h1:Z[o1]? =some (Zg g1 k n nm tx L1 R1 A1 ln))(h2:Z[o2]? =some (Zg g2 k' n' nm' tx' L2 R2 A2 OB))
 {ra rl rr:Bool} (ca:au X 127 [A1,A2,.fn (.func 97) [] []] Z fun v s=>v= .b ra/\s=Z) (cl:au X 97 [L1,L2] Z fun v s=>v= .b rl/\s=Z) (cr:au X 97 [R1,R2] Z fun v s=>v= .b rr/\s=Z) :
 au X 126 [.p o1 g1 0,.p o2 g2 0] Z fun v s=>v= .b ((k == k' && n == n' && nm == nm' && tx == tx') && (ra && rl && rr))/\s=Z:=by
 generalize hR:((k == k' && n == n' && nm == nm' && tx == tx') && (ra && rl && rr))=R
 have fin:∀{b:Bool},b=R->Fin Z (.b b) Z fun v s=>v= .b R/\s=Z:=fun h=>by
  subst h;exact Fin.flat rfl iq ⟨rfl,rfl⟩
 refine au.body (F:=F126) ay (lit:=false) rfl rfl (aU rfl) ?_
 conv=>whnf
 refine ak (aj (T:=fF) rfl rfl (ah (h1)) rfl) ?_
 conv=>whnf
 refine ak (aj (T:=fF) rfl rfl (ah (h2)) rfl) ?_
 conv=>whnf
 by_cases hk:k=k'
 case' neg=>
  rw [decide_eq_false (by omega)]
  conv=>whnf
  conv=>whnf
  exact fin (by rw [<-hR];simp [hk])
 rw [decide_eq_true (by omega)]
 conv=>whnf
 conv=>whnf
 refine ak (aj (T:=wE) rfl rfl (ah (h1)) rfl) ?_
 conv=>whnf
 refine ak (aj (T:=wE) rfl rfl (ah (h2)) rfl) ?_
 conv=>whnf
 by_cases hn:n=n'
 case' neg=>
  rw [decide_eq_false (by omega)]
  conv=>whnf
  conv=>whnf
  exact fin (by rw [<-hR];simp [hn])
 rw [decide_eq_true (by omega)]
 conv=>whnf
 conv=>whnf
 refine ak (aj (T:=fB) rfl rfl (ah (h1)) rfl) ?_
 conv=>whnf
 refine ak (aj (T:=fB) rfl rfl (ah (h2)) rfl) ?_
 conv=>whnf
 cases hnm:nm == nm'
 case' false=>
  conv=>whnf
  exact fin (by rw [<-hR];simp [hnm])
 conv=>whnf
 refine ak (aj (T:=fB) rfl rfl (ah (h1)) rfl) ?_
 conv=>whnf
 refine ak (aj (T:=fB) rfl rfl (ah (h2)) rfl) ?_
 conv=>whnf
 cases htx:tx == tx'
 case' false=>
  conv=>whnf
  exact fin (by rw [<-hR];simp [htx])
 conv=>whnf
 refine ak (aj (T:=uf) rfl rfl (ah h1) rfl) ?_
 refine dJ _ _ ?_
 conv=>whnf
 refine ak (aj (T:=uf) rfl rfl (ah h2) rfl) ?_
 refine dJ _ _ ?_
 refine dV _ _ ?_
 refine au.to ca ?_
 cases ra
 case' false=>
  conv=>whnf
  exact fin (by rw [<-hR];simp)
 conv=>whnf
 refine ak (aj (T:=aW) rfl rfl (ah h1) rfl) ?_
 refine dJ _ _ ?_
 conv=>whnf
 refine ak (aj (T:=aW) rfl rfl (ah h2) rfl) ?_
 refine dJ _ _ ?_
 refine dV _ _ ?_
 refine au.to cl ?_
 cases rl
 case' false=>
  conv=>whnf
  exact fin (by rw [<-hR];simp)
 conv=>whnf
 refine ak (aj (T:=aW) rfl rfl (ah h1) rfl) ?_
 refine dJ _ _ ?_
 conv=>whnf
 refine ak (aj (T:=aW) rfl rfl (ah h2) rfl) ?_
 refine dJ _ _ ?_
 refine dV _ _ ?_
 refine au.to cr ?_
 cases rr
 case' false=>
  conv=>whnf
  exact fin (by rw [<-hR];simp)
 conv=>whnf
 exact fin (by rw [<-hR,hnm,htx];simp [hk,hn])
theorem EN {a b:AV} {Z:St} {r:Bool} (ha:a= .p0\/∃o g,a= .p o g 0)(hb:b= .p0\/∃o g,b= .p o g 0)(h:au X 125 [a,b,.fn (.func 126) [] []] Z fun v s=>v= .b r/\s=Z):au X 97 [a,b] Z fun v s=>v= .b r/\s=Z:=by
 rcases ha with rfl | ⟨_,_,rfl⟩ <;> rcases hb with rfl | ⟨_,_,rfl⟩
 all_goals
  refine au.body (F:=F97) ay (lit:=false) rfl rfl (aU rfl) ?_
  conv=>whnf
  refine au.to h ?_
  cases r
  all_goals
   conv=>whnf
   exact Fin.flat rfl iq ⟨rfl,rfl⟩
theorem jK.lies {S:Nat->Prop} {Z:St} {A:AV} :∀{r:jA},jK S Z A r->∃cs,rO 44 Z A cs/\cs.length=(kM r).length/\∀(i:Nat) (a:AV),cs[i]? =some a->∃t,(kM r)[i]? =some t/\bP S Z a t
 | .nil,h=>⟨[],.inl ⟨rfl,h⟩,rfl,fun i a h=>by simp at h⟩
 | .cons t r,h=>by
   obtain⟨o,g,cs,h1,h2,h3,h4⟩:=h.list
   refine⟨cs,.inr ⟨o,g,h1,h2⟩,h3,fun i a ha=>?_⟩
   have hi:=(List.getElem?_eq_some_iff.1 ha).1
   obtain⟨y,hy⟩:∃y,(kM (.cons t r))[i]? =some y:=⟨_,sN (by omega)⟩
   obtain⟨a',ha',hx⟩:=h4 i y hy
   rw [ha] at ha'
   cases ha'
   exact⟨y,hy,hx⟩
def rowT (a b:jA)(i:Nat):Bool:=match (kM a)[i]?,(kM b)[i]? with
 | some x,some y=>mV x y
 | _,_=>false
theorem Jl {a b:jA} {i:Nat} {x y:Tr} (hx:(kM a)[i]? =some x)(hy:(kM b)[i]? =some y):rowT a b i=mV x y:=by simp [rowT,hx,hy]
theorem RX {a b:jA} {S S':Nat->Prop} {Z:St} {A B:AV} (ha:jK S Z A a)(hb:jK S' Z B b)(wa:Fj a<=100000)(wb:Fj b<=100000)
 (h:∀(i:Nat) (x y:Tr),(kM a)[i]? =some x->(kM b)[i]? =some y->∀u0 v,bP S Z u0 x->bP S' Z v y->au X 97 [u0,v] Z fun z s=>z= .b (mV x y)/\s=Z) :
 au X 127 [A,B,.fn (.func 97) [] []] Z fun v s=>v= .b (jY a b)/\s=Z:=by
 obtain⟨cs,l1,n1,e1⟩:=ha.lies
 obtain⟨ds,l2,n2,e2⟩:=hb.lies
 have h1:=I9 a
 have h2:=I9 b
 refine eqf_e l1 l2 (by omega) (by omega) (fun i u0 hu=>by obtain⟨t,_,ht⟩:=e1 i u0 hu;exact ht.shape) (fun i u0 hu=>by obtain⟨t,_,ht⟩:=e2 i u0 hu;exact ht.shape) (rowT a b) (fun i u0 v hu hv=>?_) (fun hl hall=>?_) (fun hl=>?_) (fun hex=>?_)
 ·obtain⟨x,hx,hux⟩:=e1 i u0 hu
  obtain⟨y,hy,hvy⟩:=e2 i v hv
  rw [Jl hx hy]
  exact h i x y hx hy u0 v hux hvy
 ·refine Ew a b (by omega) fun i x y hx hy=>?_
  rw [<-Jl hx hy]
  exact hall i (by have:=(List.getElem?_eq_some_iff.1 hx).1;omega)
 ·exact xQ a b (by omega)
 ·obtain⟨i,hi,hf⟩:=hex
  by_cases hl:(kM a).length=(kM b).length
  ·obtain⟨x,hx⟩:∃x,(kM a)[i]? =some x:=⟨_,sN (by omega)⟩
   obtain⟨y,hy⟩:∃y,(kM b)[i]? =some y:=⟨_,sN (by omega)⟩
   rw [Jl hx hy] at hf
   exact Ey a b i x y hx hy hf
  ·exact xQ a b hl
theorem EO:∀(N:Nat) (x:Tr),hT x<=N->∀(y:Tr) {S S':Nat->Prop} {Z:St} {a b:AV},bP S Z a x->bP S' Z b y->wT x<=100000->wT y<=100000->au X 97 [a,b] Z fun v s=>v= .b (mV x y)/\s=Z
 | _,.nil,_,y,S,S',Z,a,b,ha,hb,_,_=>by
   have ea:a= .p0:=ha
   refine EN ha.shape hb.shape (Ox rfl ha.shape hb.shape (fun _ h=>?_) (fun _ h=>?_) (fun h _=>absurd ea h) (fun h _=>absurd ea h))
   ·cases y with
    | nil=>rfl
    | ex=>obtain⟨o,g,_,_,_,_,hv,_⟩:=hb;rw [h] at hv;cases hv
   ·cases y with
    | nil=>exact absurd hb h
    | ex=>rfl
 | 0,.ex ..,h,_,_,_,_,_,_,_,_,_,_=>by simp only [hT] at h;omega
 | N+1,.ex k n nm tx l r ar ln,h,.nil,S,S',Z,a,b,ha,hb,hw,_=>by
   have eb:b= .p0:=hb
   have na:a≠.p0:=by obtain⟨o,g,_,_,_,_,hv,_⟩:=ha;rw [hv];simp
   exact EN ha.shape hb.shape (Ox rfl ha.shape hb.shape (fun h _=>absurd h na) (fun h _=>absurd h na) (fun _ _=>rfl) (fun _ h=>absurd eb h))
 | N+1,.ex k n nm tx l r ar ln,h,.ex k' n' nm' tx' l' r' ar' OB,S,S',Z,a,b,ha,hb,hw,hw'=>by
   simp only [hT] at h
   simp only [wT] at hw hw'
   have sa:=ha.shape
   have sb:=hb.shape
   obtain⟨o1,g1,L1,R1,A1,_,rfl,h1,hl1,hr1,ha1⟩:=ha
   obtain⟨o2,g2,L2,R2,A2,_,rfl,h2,hl2,hr2,ha2⟩:=hb
   refine EN sa sb (Ox rfl sa sb (fun h _=>by cases h) (fun h _=>by cases h) (fun _ h=>by cases h) (fun _ _=>?_))
   rw [mV]
   refine Zh h1 h2 (RX ha1 ha2 (by omega) (by omega) fun i x y hx hy u0 v hu hv=>?_) (EO N l (by omega) l' hl1 hl2 (by omega) (by omega)) (EO N r (by omega) r' hr1 hr2 (by omega) (by omega))
   have h3:=VR _ i x hx
   have h4:=Vq _ i x hx
   have h5:=Vq _ i y hy
   exact EO N x (by omega) y hu hv (by omega) (by omega)
end Go.Abs.YtlkfbfhkcaldlaaGreatDoor
namespace Go.Abs.YtlkfbfhkcaldlaaGreatDoor
open Go.Proofs
set_option maxRecDepth 4000
theorem Zi {k ln k' OB:Nat} {nm nm':List UInt8} {pt Tc:Bool} {Z:St} {o1 g1 o2 g2:Nat} {L1 R1 T1 E1 L2 R2 T2 E2:AV} (h1:Z[o1]? =some (smO g1 k nm pt L1 R1 T1 E1 ln))(h2:Z[o2]? =some (smO g2 k' nm' Tc L2 R2 T2 E2 OB))
 {rl rr rt re:Bool} (cl:au X 97 [L1,L2] Z fun v s=>v= .b rl/\s=Z) (cr:au X 97 [R1,R2] Z fun v s=>v= .b rr/\s=Z)
 (ct:au X 64 [T1,T2,.fn (.func 65) [] []] Z fun v s=>v= .b rt/\s=Z) (ce:au X 64 [E1,E2,.fn (.func 65) [] []] Z fun v s=>v= .b re/\s=Z) :
 au X 96 [.p o1 g1 0,.p o2 g2 0] Z fun v s=>v= .b ((k == k' && nm == nm' && pt == Tc) && (rl && rr && rt && re))/\s=Z:=by
 generalize hR:((k == k' && nm == nm' && pt == Tc) && (rl && rr && rt && re))=R
 have fin:∀{b:Bool},b=R->Fin Z (.b b) Z fun v s=>v= .b R/\s=Z:=fun h=>by
  subst h;exact Fin.flat rfl iq ⟨rfl,rfl⟩
 refine au.body (F:=F96) ay (lit:=false) rfl rfl (aU rfl) ?_
 conv=>whnf
 refine ak (aj (T:=fF) rfl rfl (ah (h1)) rfl) ?_
 conv=>whnf
 refine ak (aj (T:=fF) rfl rfl (ah (h2)) rfl) ?_
 conv=>whnf
 by_cases hk:k=k'
 case' neg=>
  rw [decide_eq_false (by omega)]
  conv=>whnf
  conv=>whnf
  exact fin (by rw [<-hR];simp [hk])
 rw [decide_eq_true (by omega)]
 conv=>whnf
 conv=>whnf
 refine ak (aj (T:=fB) rfl rfl (ah (h1)) rfl) ?_
 conv=>whnf
 refine ak (aj (T:=fB) rfl rfl (ah (h2)) rfl) ?_
 conv=>whnf
 cases hnm:nm == nm'
 case' false=>
  conv=>whnf
  exact fin (by rw [<-hR];simp [hnm])
 conv=>whnf
 refine ak (aj (T:=xH) rfl rfl (ah h1) rfl) ?_
 refine dJ _ _ ?_
 conv=>whnf
 refine ak (aj (T:=xH) rfl rfl (ah h2) rfl) ?_
 refine dJ _ _ ?_
 conv=>whnf
 cases hpt:pt == Tc
 case' false=>
  conv=>whnf
  exact fin (by rw [<-hR];simp [hpt])
 conv=>whnf
 refine ak (aj (T:=aW) rfl rfl (ah h1) rfl) ?_
 refine dJ _ _ ?_
 conv=>whnf
 refine ak (aj (T:=aW) rfl rfl (ah h2) rfl) ?_
 refine dJ _ _ ?_
 refine dV _ _ ?_
 refine au.to cl ?_
 cases rl
 case' false=>
  conv=>whnf
  exact fin (by rw [<-hR];simp)
 conv=>whnf
 refine ak (aj (T:=aW) rfl rfl (ah h1) rfl) ?_
 refine dJ _ _ ?_
 conv=>whnf
 refine ak (aj (T:=aW) rfl rfl (ah h2) rfl) ?_
 refine dJ _ _ ?_
 refine dV _ _ ?_
 refine au.to cr ?_
 cases rr
 case' false=>
  conv=>whnf
  exact fin (by rw [<-hR];simp)
 conv=>whnf
 refine ak (aj (T:=dL) rfl rfl (ah h1) rfl) ?_
 refine dJ _ _ ?_
 conv=>whnf
 refine ak (aj (T:=dL) rfl rfl (ah h2) rfl) ?_
 refine dJ _ _ ?_
 refine dV _ _ ?_
 refine au.to ct ?_
 cases rt
 case' false=>
  conv=>whnf
  exact fin (by rw [<-hR];simp)
 conv=>whnf
 refine ak (aj (T:=dL) rfl rfl (ah h1) rfl) ?_
 refine dJ _ _ ?_
 conv=>whnf
 refine ak (aj (T:=dL) rfl rfl (ah h2) rfl) ?_
 refine dJ _ _ ?_
 refine dV _ _ ?_
 refine au.to ce ?_
 cases re
 case' false=>
  conv=>whnf
  exact fin (by rw [<-hR];simp)
 conv=>whnf
 exact fin (by rw [<-hR,hnm,hpt];simp [hk])
theorem RY {a b:AV} {Z:St} {r:Bool} (ha:a= .p0\/∃o g,a= .p o g 0)(hb:b= .p0\/∃o g,b= .p o g 0)(h:au X 95 [a,b,.fn (.func 96) [] []] Z fun v s=>v= .b r/\s=Z):au X 65 [a,b] Z fun v s=>v= .b r/\s=Z:=by
 rcases ha with rfl | ⟨_,_,rfl⟩ <;> rcases hb with rfl | ⟨_,_,rfl⟩
 all_goals
  refine au.body (F:=F65) ay (lit:=false) rfl rfl (aU rfl) ?_
  conv=>whnf
  refine au.to h ?_
  cases r
  all_goals
   conv=>whnf
   exact Fin.flat rfl iq ⟨rfl,rfl⟩
theorem jc.shape {S:Nat->Prop} {Z:St} {v:AV} :∀{t:Sm},jc S Z v t->v= .p0\/∃o g,v= .p o g 0
 | .st ..,h=>by obtain⟨o,g,_,_,_,_,_,hv,_⟩:=h;exact .inr ⟨o,g,hv⟩
theorem dX.lies {S:Nat->Prop} {Z:St} {A:AV} :∀{r:gY},dX S Z A r->∃cs,rO 96 Z A cs/\cs.length=(jy r).length/\∀(i:Nat) (a:AV),cs[i]? =some a->∃t,(jy r)[i]? =some t/\jc S Z a t
 | .nil,h=>⟨[],.inl ⟨rfl,h⟩,rfl,fun i a h=>by simp at h⟩
 | .cons t r,h=>by
   obtain⟨o,g,cs,h1,h2,h3,h4⟩:=h.list
   refine⟨cs,.inr ⟨o,g,h1,h2⟩,h3,fun i a ha=>?_⟩
   have hi:=(List.getElem?_eq_some_iff.1 ha).1
   obtain⟨y,hy⟩:∃y,(jy (.cons t r))[i]? =some y:=⟨_,sN (by omega)⟩
   obtain⟨a',ha',hx⟩:=h4 i y hy
   rw [ha] at ha'
   cases ha'
   exact⟨y,hy,hx⟩
def rowS (a b:gY)(i:Nat):Bool:=match (jy a)[i]?,(jy b)[i]? with
 | some x,some y=>qH x y
 | _,_=>false
theorem Jm {a b:gY} {i:Nat} {x y:Sm} (hx:(jy a)[i]? =some x)(hy:(jy b)[i]? =some y):rowS a b i=qH x y:=by simp [rowS,hx,hy]
theorem EP {a b:gY} {S S':Nat->Prop} {Z:St} {A B:AV} (ha:dX S Z A a)(hb:dX S' Z B b)(wa:yT a<=100000)(wb:yT b<=100000)
 (h:∀(i:Nat) (x y:Sm),(jy a)[i]? =some x->(jy b)[i]? =some y->∀u0 v,jc S Z u0 x->jc S' Z v y->au X 65 [u0,v] Z fun z s=>z= .b (qH x y)/\s=Z) :
 au X 64 [A,B,.fn (.func 65) [] []] Z fun v s=>v= .b (jl a b)/\s=Z:=by
 obtain⟨cs,l1,n1,e1⟩:=ha.lies
 obtain⟨ds,l2,n2,e2⟩:=hb.lies
 have h1:=I_ a
 have h2:=I_ b
 refine eqf_s l1 l2 (by omega) (by omega) (fun i u0 hu=>by obtain⟨t,_,ht⟩:=e1 i u0 hu;exact ht.shape) (fun i u0 hu=>by obtain⟨t,_,ht⟩:=e2 i u0 hu;exact ht.shape) (rowS a b) (fun i u0 v hu hv=>?_) (fun hl hall=>?_) (fun hl=>?_) (fun hex=>?_)
 ·obtain⟨x,hx,hux⟩:=e1 i u0 hu
  obtain⟨y,hy,hvy⟩:=e2 i v hv
  rw [Jm hx hy]
  exact h i x y hx hy u0 v hux hvy
 ·refine Ez a b (by omega) fun i x y hx hy=>?_
  rw [<-Jm hx hy]
  exact hall i (by have:=(List.getElem?_eq_some_iff.1 hx).1;omega)
 ·exact xR a b (by omega)
 ·obtain⟨i,hi,hf⟩:=hex
  by_cases hl:(jy a).length=(jy b).length
  ·obtain⟨x,hx⟩:∃x,(jy a)[i]? =some x:=⟨_,sN (by omega)⟩
   obtain⟨y,hy⟩:∃y,(jy b)[i]? =some y:=⟨_,sN (by omega)⟩
   rw [Jm hx hy] at hf
   exact EC a b i x y hx hy hf
  ·exact xR a b hl
theorem VX:∀(N:Nat) (x:Sm),hS x<=N->∀(y:Sm) {S S':Nat->Prop} {Z:St} {a b:AV},jc S Z a x->jc S' Z b y->wS x<=100000->wS y<=100000->au X 65 [a,b] Z fun v s=>v= .b (qH x y)/\s=Z
 | 0,.st ..,h,_,_,_,_,_,_,_,_,_,_=>by simp only [hS] at h;omega
 | N+1,.st k nm pt l r th el ln,h,.st k' nm' Tc l' r' Xk Xl OB,S,S',Z,a,b,ha,hb,hw,hw'=>by
   simp only [hS] at h
   simp only [wS] at hw hw'
   have sa:=ha.shape
   have sb:=hb.shape
   obtain⟨o1,g1,L1,R1,T1,E1,_,rfl,h1,hl1,hr1,ht1,he1⟩:=ha
   obtain⟨o2,g2,L2,R2,T2,E2,_,rfl,h2,hl2,hr2,ht2,he2⟩:=hb
   refine RY sa sb (both_s rfl sa sb (fun h _=>by cases h) (fun h _=>by cases h) (fun _ h=>by cases h) (fun _ _=>?_))
   rw [qH]
   refine Zi h1 h2 (EO _ l (Nat.le_refl _) l' hl1 hl2 (by omega) (by omega)) (EO _ r (Nat.le_refl _) r' hr1 hr2 (by omega) (by omega)) (EP ht1 ht2 (by omega) (by omega) fun i x y hx hy u0 v hu hv=>?_) (EP he1 he2 (by omega) (by omega) fun i x y hx hy u0 v hu hv=>?_)
   all_goals
    have h3:=VT _ i x hx
    have h4:=Lu _ i x hx
    have h5:=Lu _ i y hy
    exact VX N x (by omega) y hu hv (by omega) (by omega)
end Go.Abs.YtlkfbfhkcaldlaaGreatDoor
namespace Go.Abs.YtlkfbfhkcaldlaaGreatDoor
open Go.Proofs
set_option maxRecDepth 4000
section
variable {Z:St} {oa ga ob gb:Nat} {l l':List (List UInt8×Bool)}
theorem VY (hc1:Z[oa]? =some ⟨ga,false,.cells 71 (pq l)⟩)(hc2:Z[ob]? =some ⟨gb,false,.cells 71 (pq l')⟩)(hl:l.length=l'.length)(hb:l.length<=100000) {Q:Out->Env->St->Prop}
 (q1:l=l'->∀e',get e' 1000000= .u->Q (.exit 0) e' Z) (q2:l≠l'->∀e',get e' 4= .b false->Q .ret e' Z):∀(d m:Nat),m+d=l.length->(∀i:Nat,i<m->l[i]? =l'[i]?)->
 aV X [0,1,12,13] aaj [(0,.sl oa ga 0 l.length 2),(1,.sl ob gb 0 l'.length 2),(12,.i .i64 l.length),(13,.i .i64 m)] Z Q:=by
 intro d
 induction d with
 | zero=>
   intro m hm he
   refine aV.round ay (lit:=false) ?_
   conv=>whnf
   rw [decide_eq_false (by omega)]
   conv=>whnf
   conv=>whnf
   refine q1 (List.ext_getElem? fun i=>?_) _ rfl
   rcases Nat.lt_or_ge i m with h | h
   ·exact he i h
   ·rw [List.getElem?_eq_none (by omega),List.getElem?_eq_none (by omega)]
 | succ d ih=>
   intro m hm he
   obtain⟨p,hp⟩:∃p,l[m]? =some p:=⟨_,sN (by omega)⟩
   obtain⟨q,hq⟩:∃q,l'[m]? =some q:=⟨_,sN (by omega)⟩
   have hpl:=qK l
   have hpl':=qK l'
   refine aV.round ay (lit:=false) ?_
   conv=>whnf
   rw [decide_eq_true (by omega)]
   conv=>whnf
   conv=>whnf
   refine⟨m,rfl,by omega,?_⟩
   conv=>whnf
   refine ak (gU (T:=gG) rfl rfl (ah hc1) (by rw [hpl];show 0+m*2+2<=_;omega)) ?_
   rw [show ((pq l).drop (0+m*2)).take (gG).size=[.s p.1,.b p.2] by rw [Nat.zero_add];exact vU l m p hp]
   conv=>whnf
   refine⟨m,rfl,by omega,?_⟩
   conv=>whnf
   refine ak (gU (T:=gG) rfl rfl (ah hc2) (by rw [hpl'];show 0+m*2+2<=_;omega)) ?_
   rw [show ((pq l').drop (0+m*2)).take (gG).size=[.s q.1,.b q.2] by rw [Nat.zero_add];exact vU l' m q hq]
   conv=>whnf
   by_cases hpq:p=q
   ·subst hpq
    rw [beq_self_eq_true p.1,beq_self_eq_true p.2]
    conv=>whnf
    refine⟨((m+1:Nat):Int),wrap_i64 (by omega) (by omega),?_⟩
    conv=>whnf
    exact ih (m+1) (by omega) fun i hi=>by
        rcases Nat.lt_or_ge i m with h | h
        ·exact he i h
        ·obtain rfl:i=m:=by omega
         rw [hp,hq]
   ·have hne:(p.1 == q.1 && p.2 == q.2)=false:=by
        rw [Bool.eq_false_iff]
        intro h
        rw [fJ,beq_iff_eq,beq_iff_eq] at h
        exact hpq (Prod.ext h.1 h.2)
    have hll:l≠l':=fun e=>by rw [e,hq] at hp;exact hpq (Option.some.inj hp).symm
    rw [hne]
    conv=>whnf
    exact q2 hll _ rfl
end
theorem eqp_to {Z:St} {A B:AV} {l l':List (List UInt8×Bool)} (ha:VU Z A l)(hb:VU Z B l')(wa:l.length<=100000)(wb:l'.length<=100000):au X 63 [A,B] Z fun v s=>v= .b (l == l')/\s=Z:=by
 generalize hR:(l == l')=R
 have fin:∀{b:Bool},b=R->Fin Z (.b b) Z fun v s=>v= .b R/\s=Z:=fun h=>by
  subst h;exact Fin.flat rfl iq ⟨rfl,rfl⟩
 rcases ha with ⟨rfl,rfl⟩ | ⟨oa,ga,rfl,hc1⟩ <;> rcases hb with ⟨rfl,rfl⟩ | ⟨ob,gb,rfl,hc2⟩
 ·refine au.body (F:=Yj) ay (lit:=false) rfl rfl (aU rfl) ?_
  conv=>whnf
  refine aV.round ay (lit:=false) ?_
  conv=>whnf
  exact fin (by rw [<-hR];rfl)
 ·by_cases hz:l'= []
  ·subst hz
   refine au.body (F:=Yj) ay (lit:=false) rfl rfl (aU rfl) ?_
   conv=>whnf
   refine aV.round ay (lit:=false) ?_
   conv=>whnf
   exact fin (by rw [<-hR];rfl)
  ·have hp:0<l'.length:=List.length_pos_iff.2 hz
   refine au.body (F:=Yj) ay (lit:=false) rfl rfl (aU rfl) ?_
   conv=>whnf
   rw [decide_eq_false (by omega)]
   conv=>whnf
   exact fin (by rw [<-hR];cases l' with | nil=>exact absurd rfl hz | cons _ _=>rfl)
 ·by_cases hz:l=[]
  ·subst hz
   refine au.body (F:=Yj) ay (lit:=false) rfl rfl (aU rfl) ?_
   conv=>whnf
   refine aV.round ay (lit:=false) ?_
   conv=>whnf
   exact fin (by rw [<-hR];rfl)
  ·have hp:0<l.length:=List.length_pos_iff.2 hz
   refine au.body (F:=Yj) ay (lit:=false) rfl rfl (aU rfl) ?_
   conv=>whnf
   rw [decide_eq_false (by omega)]
   conv=>whnf
   exact fin (by rw [<-hR];cases l with | nil=>exact absurd rfl hz | cons _ _=>rfl)
 ·by_cases hl:l.length=l'.length
  ·refine au.body (F:=Yj) ay (lit:=false) rfl rfl (aU rfl) ?_
   conv=>whnf
   rw [decide_eq_true (by omega)]
   conv=>whnf
   refine VY hc1 hc2 hl wa (fun e e' hu=>?_) (fun e e' h4=>?_) l.length 0 (by omega) (fun i hi=>absurd hi (Nat.not_lt_zero i))
   ·conv=>whnf
    exact fin (by rw [<-hR,e];simp)
   ·conv=>whnf
    rw [h4]
    conv=>whnf
    exact fin (by rw [<-hR];simp [e])
  ·refine au.body (F:=Yj) ay (lit:=false) rfl rfl (aU rfl) ?_
   conv=>whnf
   rw [decide_eq_false (by omega)]
   conv=>whnf
   exact fin (by rw [<-hR];rw [eq_comm,beq_eq_false_iff_ne];exact fun e=>hl (by rw [e]))
theorem Zj {nm nm':List UInt8} {pt Tc:Bool} {ln OB:Nat} {Z:St} {o1 o2:Nat} {A1 B1 A2 B2:AV} (h1:Z[o1]? =some (AA nm A1 pt B1 ln))(h2:Z[o2]? =some (AA nm' A2 Tc B2 OB))
 {rp rb:Bool} (cp:au X 63 [A1,A2] Z fun v s=>v= .b rp/\s=Z) (cb:au X 64 [B1,B2,.fn (.func 65) [] []] Z fun v s=>v= .b rb/\s=Z) :
 au X 62 [.p o1 0 0,.p o2 0 0] Z fun v s=>v= .b (nm == nm' && pt == Tc && rp && rb)/\s=Z:=by
 generalize hR:(nm == nm' && pt == Tc && rp && rb)=R
 have fin:∀{b:Bool},b=R->Fin Z (.b b) Z fun v s=>v= .b R/\s=Z:=fun h=>by
  subst h;exact Fin.flat rfl iq ⟨rfl,rfl⟩
 refine au.body (F:=F62) ay (lit:=false) rfl rfl (aU rfl) ?_
 conv=>whnf
 refine ak (aj (T:=fB) rfl rfl (ah (h1)) rfl) ?_
 conv=>whnf
 refine ak (aj (T:=fB) rfl rfl (ah (h2)) rfl) ?_
 conv=>whnf
 cases hnm:nm == nm'
 case' false=>
  conv=>whnf
  exact fin (by rw [<-hR];simp [hnm])
 conv=>whnf
 refine ak (aj (T:=xH) rfl rfl (ah h1) rfl) ?_
 refine dJ _ _ ?_
 conv=>whnf
 refine ak (aj (T:=xH) rfl rfl (ah h2) rfl) ?_
 refine dJ _ _ ?_
 conv=>whnf
 cases hpt:pt == Tc
 case' false=>
  conv=>whnf
  exact fin (by rw [<-hR];simp [hpt])
 conv=>whnf
 refine ak (aj (T:=qE) rfl rfl (ah h1) rfl) ?_
 refine dJ _ _ ?_
 conv=>whnf
 refine ak (aj (T:=qE) rfl rfl (ah h2) rfl) ?_
 refine dJ _ _ ?_
 refine dV _ _ ?_
 refine au.to cp ?_
 cases rp
 case' false=>
  conv=>whnf
  exact fin (by rw [<-hR];simp)
 conv=>whnf
 refine ak (aj (T:=dL) rfl rfl (ah h1) rfl) ?_
 refine dJ _ _ ?_
 conv=>whnf
 refine ak (aj (T:=dL) rfl rfl (ah h2) rfl) ?_
 refine dJ _ _ ?_
 refine dV _ _ ?_
 refine au.to cb ?_
 cases rb
 case' false=>
  conv=>whnf
  exact fin (by rw [<-hR];simp)
 conv=>whnf
 exact fin (by rw [<-hR,hnm,hpt];rfl)
theorem RZ {a b:AV} {Z:St} {r:Bool} (ha:∃o g,a= .p o g 0)(hb:∃o g,b= .p o g 0)(h:au X 61 [a,b,.fn (.func 62) [] []] Z fun v s=>v= .b r/\s=Z):au X 30 [a,b] Z fun v s=>v= .b r/\s=Z:=by
 obtain⟨_,_,rfl⟩:=ha
 obtain⟨_,_,rfl⟩:=hb
 refine au.body (F:=F30) ay (lit:=false) rfl rfl (aU rfl) ?_
 conv=>whnf
 refine au.to h ?_
 cases r
 all_goals
  conv=>whnf
  exact Fin.flat rfl iq ⟨rfl,rfl⟩
theorem same_f {S S':Nat->Prop} {Z:St} {a b:AV} {f g:Fm} (ha:pz S Z a f)(hb:pz S' Z b g)(wa:wF f<=100000)(wb:wF g<=100000):au X 30 [a,b] Z fun v s=>v= .b (yU f g)/\s=Z:=by
 obtain⟨nm,ps,pt,bd,ln⟩:=f
 obtain⟨nm',ps',Tc,bd',OB⟩:=g
 obtain⟨o,A,Bd,_,ea,h1,hA,hB⟩:=ha
 obtain⟨o',A',Bd',_,eb,h2,hA',hB'⟩:=hb
 subst ea;subst eb
 simp only [wF] at wa wb
 have hA:sF S Z A ps:=hA
 have hA':sF S' Z A' ps':=hA'
 have hB:dX S Z Bd bd:=hB
 have hB':dX S' Z Bd' bd':=hB'
 refine RZ ⟨_,_,rfl⟩ ⟨_,_,rfl⟩ (both_f rfl (.inr ⟨_,_,rfl⟩) (.inr ⟨_,_,rfl⟩) (fun h _=>by cases h) (fun h _=>by cases h) (fun _ h=>by cases h) (fun _ _=>?_))
 show au X _ _ Z fun v s=>v= .b (nm == nm' && pt == Tc && (ps == ps') && jl bd bd')/\s=Z
 exact Zj h1 h2 (eqp_to hA.or hA'.or (by omega) (by omega)) (EP hB hB' (by omega) (by omega) fun i x y hx hy u0 v hu hv=>by
  have h4:=Lu _ i x hx
  have h5:=Lu _ i y hy
  exact VX _ x (Nat.le_refl _) y hu hv (by omega) (by omega))
def rowF (a b:List Fm)(i:Nat):Bool:=match a[i]?,b[i]? with
 | some x,some y=>yU x y
 | _,_=>false
theorem Jo {a b:List Fm} {i:Nat} {x y:Fm} (hx:a[i]? =some x)(hy:b[i]? =some y):rowF a b i=yU x y:=by simp [rowF,hx,hy]
theorem pz.shape {S:Nat->Prop} {Z:St} {v:AV} {f:Fm} (h:pz S Z v f):v= .p0\/∃o g,v= .p o g 0:=by
 obtain⟨o,A,Bd,_,ea,_⟩:=h;exact .inr ⟨o,0,ea⟩
def FsAt (S:Nat->Prop)(Z:St)(A:AV)(fs:List Fm):Prop:=∃cs,rO 64 Z A cs/\cs.length=fs.length/\∀(i:Nat) (a:AV),cs[i]? =some a->∃f,fs[i]? =some f/\pz S Z a f
theorem qo.fs {S:Nat->Prop} {Z:St} {v:AV} {fs:List Fm} (h:qo S Z v fs):∃o A,v= .p o 0 0/\Z[o]? =some ⟨0,false,.cells 60 [A]⟩/\FsAt S Z A fs:=by
 obtain⟨o,A,_,hv,ho,d⟩:=h
 refine⟨o,A,hv,ho,?_⟩
 rcases d with ⟨rfl,rfl⟩ | ⟨o2,g2,cs,_,rfl,hc,e,_⟩
 ·exact⟨[],.inl ⟨rfl,rfl⟩,rfl,fun i a h=>by simp at h⟩
 ·obtain⟨h3,h4⟩:=e.list
  refine⟨cs,.inr ⟨o2,g2,rfl,hc⟩,h3,fun i a ha=>?_⟩
  have hi:=(List.getElem?_eq_some_iff.1 ha).1
  obtain⟨y,hy⟩:∃y,fs[i]? =some y:=⟨_,sN (by omega)⟩
  obtain⟨a',ha',hx⟩:=h4 i y hy
  rw [ha] at ha'
  cases ha'
  exact⟨y,hy,hx⟩
theorem OC {a b:List Fm} {S S':Nat->Prop} {Z:St} {A B:AV} (ha:FsAt S Z A a)(hb:FsAt S' Z B b)(wa:Nl a<=100000)(wb:Nl b<=100000) :
 au X 29 [A,B,.fn (.func 30) [] []] Z fun v s=>v= .b (jQ a b)/\s=Z:=by
 obtain⟨cs,l1,n1,e1⟩:=ha
 obtain⟨ds,l2,n2,e2⟩:=hb
 have h1:=Ja a
 have h2:=Ja b
 refine eqf_f l1 l2 (by omega) (by omega) (fun i u0 hu=>by obtain⟨t,_,ht⟩:=e1 i u0 hu;exact ht.shape) (fun i u0 hu=>by obtain⟨t,_,ht⟩:=e2 i u0 hu;exact ht.shape) (rowF a b) (fun i u0 v hu hv=>?_) (fun hl hall=>?_) (fun hl=>?_) (fun hex=>?_)
 ·obtain⟨x,hx,hux⟩:=e1 i u0 hu
  obtain⟨y,hy,hvy⟩:=e2 i v hv
  have h4:=Vr _ i x hx
  have h5:=Vr _ i y hy
  rw [Jo hx hy]
  exact same_f hux hvy (by omega) (by omega)
 ·refine ED a b (by omega) fun i x y hx hy=>?_
  rw [<-Jo hx hy]
  exact hall i (by have:=(List.getElem?_eq_some_iff.1 hx).1;omega)
 ·exact xU a b (by omega)
 ·obtain⟨i,hi,hf⟩:=hex
  by_cases hl:a.length=b.length
  ·obtain⟨x,hx⟩:∃x,a[i]? =some x:=⟨_,sN (by omega)⟩
   obtain⟨y,hy⟩:∃y,b[i]? =some y:=⟨_,sN (by omega)⟩
   rw [Jo hx hy] at hf
   exact EF a b i x y hx hy hf
  ·exact xU a b hl
theorem Zk {Z:St} {o1 o2:Nat} {A1 A2:AV} (h1:Z[o1]? =some ⟨0,false,.cells 60 [A1]⟩)(h2:Z[o2]? =some ⟨0,false,.cells 60 [A2]⟩) {r:Bool} (c:au X 29 [A1,A2,.fn (.func 30) [] []] Z fun v s=>v= .b r/\s=Z) :
 au X 28 [.p o1 0 0,.p o2 0 0] Z fun v s=>v= .b r/\s=Z:=by
 refine au.body (F:=F28) ay (lit:=false) rfl rfl (aU rfl) ?_
 conv=>whnf
 refine ak (aj (T:=ug) rfl rfl (ah h1) rfl) ?_
 refine dJ _ _ ?_
 conv=>whnf
 refine ak (aj (T:=ug) rfl rfl (ah h2) rfl) ?_
 refine dJ _ _ ?_
 refine dV _ _ ?_
 refine au.to c ?_
 cases r
 all_goals
  conv=>whnf
  exact Fin.flat rfl iq ⟨rfl,rfl⟩
theorem R_ {a b:AV} {Z:St} {r:Bool} (ha:a= .p0\/∃o g,a= .p o g 0)(hb:b= .p0\/∃o g,b= .p o g 0)(h:au X 27 [a,b,.fn (.func 28) [] []] Z fun v s=>v= .b r/\s=Z):au X 11 [a,b] Z fun v s=>v= .b r/\s=Z:=by
 rcases ha with rfl | ⟨_,_,rfl⟩ <;> rcases hb with rfl | ⟨_,_,rfl⟩
 all_goals
  refine au.body (F:=F11) ay (lit:=false) rfl rfl (aU rfl) ?_
  conv=>whnf
  refine au.to h ?_
  cases r
  all_goals
   conv=>whnf
   exact Fin.flat rfl iq ⟨rfl,rfl⟩
theorem same_p {S S':Nat->Prop} {Z:St} {a b:AV} {fs gs:List Fm} (ha:qo S Z a fs)(hb:qo S' Z b gs)(wa:Nl fs<=100000)(wb:Nl gs<=100000):au X 11 [a,b] Z fun v s=>v= .b (jQ fs gs)/\s=Z:=by
 obtain⟨o1,A1,rfl,h1,f1⟩:=ha.fs
 obtain⟨o2,A2,rfl,h2,f2⟩:=hb.fs
 exact R_ (.inr ⟨_,_,rfl⟩) (.inr ⟨_,_,rfl⟩) (both_p rfl (.inr ⟨_,_,rfl⟩) (.inr ⟨_,_,rfl⟩) (fun h _=>by cases h) (fun h _=>by cases h) (fun _ h=>by cases h) (fun _ _=>Zk h1 h2 (OC f1 f2 wa wb)))
end Go.Abs.YtlkfbfhkcaldlaaGreatDoor
