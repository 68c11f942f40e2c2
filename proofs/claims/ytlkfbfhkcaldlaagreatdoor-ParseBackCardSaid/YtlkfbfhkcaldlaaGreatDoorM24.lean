/- Texts of this claim, joined: Sx, Qa, Qb, Qc, Qd, Qe, Qf. -/
import Derived.Test.YtlkfbfhkcaldlaaGreatDoorM20
import Derived.Test.YtlkfbfhkcaldlaaGreatDoorM23
import Derived.Test.YtlkfbfhkcaldlaaGreatDoorM18
set_option linter.unusedVariables false
set_option linter.unusedSimpArgs false
namespace Go.Abs.YtlkfbfhkcaldlaaGreatDoor
open Go.Proofs
set_option maxRecDepth 4000
mutual
def hT:Tr→Nat
 | .nil=>0
 | .ex _ _ _ _ l r a _=>1+hT l+hT r+hTs a
def hTs:Trs→Nat
 | .nil=>0
 | .cons t r=>1+hT t+hTs r
end
theorem Oq:∀(l:Trs) (i:Nat) (t:Tr),(trL l)[i]? =some t→hT t+1≤hTs l
 | .nil,i,t,h=>by simp [trL] at h
 | .cons a r,0,t,h=>by simp only [trL,List.getElem?_cons_zero,Option.some.injEq] at h;subst h;simp only [hTs];omega
 | .cons a r,i+1,t,h=>by
   simp only [trL,List.getElem?_cons_succ] at h
   have:=Oq r i t h;simp only [hTs];omega
theorem bC.shape {S:Nat→Prop} {σ:St} {v:AV} :∀{t:Tr},bC S σ v t→v= .p0∨∃o g,v= .p o g 0
 | .nil,h=>.inl h
 | .ex ..,h=>by obtain⟨o,g,L,R,A,_,hv,_⟩:=h;exact .inr ⟨o,g,hv⟩
theorem bC.two {S S':Nat→Prop} {σ:St} {v v2:AV} :∀{t:Tr},bC S σ v t→bC S' σ v2 t→(v= .p0∧v2= .p0)∨∃o g o' g',v= .p o g 0∧v2= .p o' g' 0
 | .nil,h,k=>.inl ⟨h,k⟩
 | .ex ..,h,k=>by obtain⟨o,g,L,R,A,_,hv,_⟩:=h;obtain⟨o',g',L',R',A',_,hu,_⟩:=k;exact .inr ⟨o,g,o',g',hv,hu⟩
theorem nP.list {S:Nat→Prop} {σ:St} :∀{r:Trs} {cs:List AV},nP S σ cs r→cs.length=(trL r).length∧∀(i:Nat) (t:Tr),(trL r)[i]? =some t→∃a,cs[i]? =some a∧bC S σ a t
 | .nil,cs,h=>by have h:cs=[]:=h;subst h;exact⟨rfl,fun i t h=>by simp [trL] at h⟩
 | .cons t r,cs,h=>by
   obtain⟨a,tl,rfl,h1,h2⟩:=h
   obtain⟨h3,h4⟩:=nP.list h2
   refine⟨by simp [trL,h3],fun i t' ht=>?_⟩
   cases i with
   | zero=>simp only [trL,List.getElem?_cons_zero,Option.some.injEq] at ht;subst ht;exact⟨a,rfl,h1⟩
   | succ i=>exact h4 i t' (by simpa [trL] using ht)
theorem gK.list {S:Nat→Prop} {σ:St} {A:AV} {t:Tr} {r:Trs} (h:gK S σ A (.cons t r)):∃o g cs,A= .sl o g 0 cs.length 1∧σ[o]? =some ⟨g,false,.cells 44 cs⟩∧cs.length=(trL (.cons t r)).length∧∀(i:Nat) (x:Tr),(trL (.cons t r))[i]? =some x→∃a,cs[i]? =some a∧bC S σ a x:=by
 obtain⟨o,g,cs,_,hv,ho,a,tl,hc,hx,hl⟩:=h
 have h2:nP S σ cs (.cons t r):=⟨a,tl,hc,hx,hl⟩
 obtain⟨h3,h4⟩:=h2.list
 exact⟨o,g,cs,hv,ho,h3,h4⟩
def exO (g k n:Nat)(nm tx:List UInt8)(L R A:AV)(ln:Nat):AO:=⟨g,false,.cells 48 [.i .i64 k,.i .u32 n,.s nm,.s tx,L,R,A,.i .i64 ln]⟩
mutual
def hS:Sm→Nat
 | .st _ _ _ _ _ th el _=>1+V8 th+V8 el
def V8:Sms→Nat
 | .nil=>0
 | .cons t r=>1+hS t+V8 r
end
theorem Ot:∀(l:Sms) (i:Nat) (t:Sm),(smL l)[i]? =some t→hS t+1≤V8 l
 | .nil,i,t,h=>by simp [smL] at h
 | .cons a r,0,t,h=>by simp only [smL,List.getElem?_cons_zero,Option.some.injEq] at h;subst h;simp only [V8];omega
 | .cons a r,i+1,t,h=>by
   simp only [smL,List.getElem?_cons_succ] at h
   have:=Ot r i t h;simp only [V8];omega
theorem EK.list {S:Nat→Prop} {σ:St} :∀{r:Sms} {cs:List AV},EK S σ cs r→cs.length=(smL r).length∧∀(i:Nat) (t:Sm),(smL r)[i]? =some t→∃a,cs[i]? =some a∧fM S σ a t
 | .nil,cs,h=>by have h:cs=[]:=h;subst h;exact⟨rfl,fun i t h=>by simp [smL] at h⟩
 | .cons t r,cs,h=>by
   obtain⟨a,tl,rfl,h1,h2⟩:=h
   obtain⟨h3,h4⟩:=EK.list h2
   refine⟨by simp [smL,h3],fun i t' ht=>?_⟩
   cases i with
   | zero=>simp only [smL,List.getElem?_cons_zero,Option.some.injEq] at ht;subst ht;exact⟨a,rfl,h1⟩
   | succ i=>exact h4 i t' (by simpa [smL] using ht)
theorem dn.list {S:Nat→Prop} {σ:St} {A:AV} {t:Sm} {r:Sms} (h:dn S σ A (.cons t r)):∃o g cs,A= .sl o g 0 cs.length 1∧σ[o]? =some ⟨g,false,.cells 96 cs⟩∧cs.length=(smL (.cons t r)).length∧∀(i:Nat) (x:Sm),(smL (.cons t r))[i]? =some x→∃a,cs[i]? =some a∧fM S σ a x:=by
 obtain⟨o,g,cs,_,hv,ho,a,tl,hc,hx,hl⟩:=h
 have h2:EK S σ cs (.cons t r):=⟨a,tl,hc,hx,hl⟩
 obtain⟨h3,h4⟩:=h2.list
 exact⟨o,g,cs,hv,ho,h3,h4⟩
def TwoS (a b:AV):Prop:=(a= .sl0∧b= .sl0)∨∃o g n o' g' n',a= .sl o g 0 n 1∧b= .sl o' g' 0 n' 1
theorem dn.two {S S':Nat→Prop} {σ:St} {v x:AV} :∀{t:Sms},dn S σ v t→dn S' σ x t→TwoS v x
 | .nil,h,k=>.inl ⟨h,k⟩
 | .cons ..,h,k=>by obtain⟨o,g,cs,_,hv,_⟩:=h;obtain⟨o',g',cs',_,hu,_⟩:=k;exact .inr ⟨o,g,_,o',g',_,hv,hu⟩
def smO (g k:Nat)(nm:List UInt8)(pt:Bool)(L R T E:AV)(ln:Nat):AO:=⟨g,false,.cells 95 [.i .i64 k,.s nm,.b pt,L,R,T,E,.i .i64 ln]⟩
def Ou (σ:St)(A:AV)(l:List (List UInt8×Bool)):Prop:=(A= .sl0∧l=[])∨∃o g,A= .sl o g 0 l.length 2∧σ[o]? =some ⟨g,false,.cells 71 (kJ l)⟩
theorem d_.list {S:Nat→Prop} {σ:St} :∀{cs:List AV} {fs:List Fm},d_ S σ cs fs→cs.length=fs.length∧∀(i:Nat) (f:Fm),fs[i]? =some f→∃a,cs[i]? =some a∧kK S σ a f
 | [],[],_=>⟨rfl,fun i f h=>by simp at h⟩
 | a :: cs,f :: fs,h=>by
   obtain⟨h1,h2⟩:=d_.list h.2.2
   refine⟨by simp [h1],fun i f' hf=>?_⟩
   cases i with
   | zero=>simp only [List.getElem?_cons_zero,Option.some.injEq] at hf;subst hf;exact⟨a,rfl,h.2.1⟩
   | succ i=>exact h2 i f' (by simpa using hf)
theorem mM.or {S:Nat→Prop} {σ:St} {A:AV} {l:List (List UInt8×Bool)} (h:mM S σ A l):Ou σ A l:=by
 rcases h with ⟨h1,h2⟩ | ⟨o,g,_,h2,h3⟩
 ·exact .inl ⟨h2,h1⟩
 ·exact .inr ⟨o,g,h2,h3⟩
theorem oK:∀(l:List (List UInt8×Bool)) (m:Nat) (q:List UInt8×Bool),l[m]? =some q→((kJ l).drop (m*2)).take 2=[.s q.1,.b q.2]
 | x :: l,0,q,h=>by cases h;simp [kJ]
 | x :: l,m+1,q,h=>by
   have e:kJ (x :: l)=[.s x.1,.b x.2] ++ kJ l:=rfl
   rw [e,show (m+1)*2=2+m*2 by omega,←List.drop_drop,List.drop_left' (by rfl)]
   exact oK l m q h
end Go.Abs.YtlkfbfhkcaldlaaGreatDoor
namespace Go.Abs.YtlkfbfhkcaldlaaGreatDoor
open Go.Proofs
set_option maxRecDepth 4000
theorem GN {a b f:AV} {k:Nat} (hf:f= .fn (.func k) [] [])(ha:a= .p0∨∃o g,a= .p o g 0)(hb:b= .p0∨∃o g,b= .p o g 0) {σ:St} {r:Bool} (h00:a= .p0→b= .p0→r=true)(h01:a= .p0→b≠.p0→r=false)(h10:a≠.p0→b= .p0→r=false)
 (h1:a≠.p0→b≠.p0→ay X k [a,b] σ fun v s=>v= .b r∧s=σ):ay X 125 [a,b,f] σ fun v s=>v= .b r∧s=σ:=by
 subst hf
 rcases ha with rfl | ⟨o,g,rfl⟩ <;> rcases hb with rfl | ⟨o2,g2,rfl⟩
 ·rw [h00 rfl rfl]
  refine ay.body (F:=Jk) aC (lit:=false) rfl rfl (Nat.le_of_ble_eq_true rfl) ?_
  conv=>whnf
  exact Fin.flat rfl List.take_length ⟨rfl,rfl⟩
 ·rw [h01 rfl (by simp)]
  refine ay.body (F:=Jk) aC (lit:=false) rfl rfl (Nat.le_of_ble_eq_true rfl) ?_
  conv=>whnf
  exact Fin.flat rfl List.take_length ⟨rfl,rfl⟩
 ·rw [h10 (by simp) rfl]
  refine ay.body (F:=Jk) aC (lit:=false) rfl rfl (Nat.le_of_ble_eq_true rfl) ?_
  conv=>whnf
  exact Fin.flat rfl List.take_length ⟨rfl,rfl⟩
 ·have h1:=h1 (by simp) (by simp)
  refine ay.body (F:=Jk) aC (lit:=false) rfl rfl (Nat.le_of_ble_eq_true rfl) ?_
  conv=>whnf
  refine ay.to h1 ?_
  cases r
  all_goals
   conv=>whnf
   exact Fin.flat rfl List.take_length ⟨rfl,rfl⟩
theorem Vj {a b f:AV} {k:Nat} (hf:f= .fn (.func k) [] [])(ha:a= .p0∨∃o g,a= .p o g 0)(hb:b= .p0∨∃o g,b= .p o g 0) {σ:St} {r:Bool} (h00:a= .p0→b= .p0→r=true)(h01:a= .p0→b≠.p0→r=false)(h10:a≠.p0→b= .p0→r=false)
 (h1:a≠.p0→b≠.p0→ay X k [a,b] σ fun v s=>v= .b r∧s=σ):ay X 95 [a,b,f] σ fun v s=>v= .b r∧s=σ:=by
 subst hf
 rcases ha with rfl | ⟨o,g,rfl⟩ <;> rcases hb with rfl | ⟨o2,g2,rfl⟩
 ·rw [h00 rfl rfl]
  refine ay.body (F:=VZ) aC (lit:=false) rfl rfl (Nat.le_of_ble_eq_true rfl) ?_
  conv=>whnf
  exact Fin.flat rfl List.take_length ⟨rfl,rfl⟩
 ·rw [h01 rfl (by simp)]
  refine ay.body (F:=VZ) aC (lit:=false) rfl rfl (Nat.le_of_ble_eq_true rfl) ?_
  conv=>whnf
  exact Fin.flat rfl List.take_length ⟨rfl,rfl⟩
 ·rw [h10 (by simp) rfl]
  refine ay.body (F:=VZ) aC (lit:=false) rfl rfl (Nat.le_of_ble_eq_true rfl) ?_
  conv=>whnf
  exact Fin.flat rfl List.take_length ⟨rfl,rfl⟩
 ·have h1:=h1 (by simp) (by simp)
  refine ay.body (F:=VZ) aC (lit:=false) rfl rfl (Nat.le_of_ble_eq_true rfl) ?_
  conv=>whnf
  refine ay.to h1 ?_
  cases r
  all_goals
   conv=>whnf
   exact Fin.flat rfl List.take_length ⟨rfl,rfl⟩
theorem Vk {a b f:AV} {k:Nat} (hf:f= .fn (.func k) [] [])(ha:a= .p0∨∃o g,a= .p o g 0)(hb:b= .p0∨∃o g,b= .p o g 0) {σ:St} {r:Bool} (h00:a= .p0→b= .p0→r=true)(h01:a= .p0→b≠.p0→r=false)(h10:a≠.p0→b= .p0→r=false)
 (h1:a≠.p0→b≠.p0→ay X k [a,b] σ fun v s=>v= .b r∧s=σ):ay X 61 [a,b,f] σ fun v s=>v= .b r∧s=σ:=by
 subst hf
 rcases ha with rfl | ⟨o,g,rfl⟩ <;> rcases hb with rfl | ⟨o2,g2,rfl⟩
 ·rw [h00 rfl rfl]
  refine ay.body (F:=VY) aC (lit:=false) rfl rfl (Nat.le_of_ble_eq_true rfl) ?_
  conv=>whnf
  exact Fin.flat rfl List.take_length ⟨rfl,rfl⟩
 ·rw [h01 rfl (by simp)]
  refine ay.body (F:=VY) aC (lit:=false) rfl rfl (Nat.le_of_ble_eq_true rfl) ?_
  conv=>whnf
  exact Fin.flat rfl List.take_length ⟨rfl,rfl⟩
 ·rw [h10 (by simp) rfl]
  refine ay.body (F:=VY) aC (lit:=false) rfl rfl (Nat.le_of_ble_eq_true rfl) ?_
  conv=>whnf
  exact Fin.flat rfl List.take_length ⟨rfl,rfl⟩
 ·have h1:=h1 (by simp) (by simp)
  refine ay.body (F:=VY) aC (lit:=false) rfl rfl (Nat.le_of_ble_eq_true rfl) ?_
  conv=>whnf
  refine ay.to h1 ?_
  cases r
  all_goals
   conv=>whnf
   exact Fin.flat rfl List.take_length ⟨rfl,rfl⟩
theorem Vl {a b f:AV} {k:Nat} (hf:f= .fn (.func k) [] [])(ha:a= .p0∨∃o g,a= .p o g 0)(hb:b= .p0∨∃o g,b= .p o g 0) {σ:St} {r:Bool} (h00:a= .p0→b= .p0→r=true)(h01:a= .p0→b≠.p0→r=false)(h10:a≠.p0→b= .p0→r=false)
 (h1:a≠.p0→b≠.p0→ay X k [a,b] σ fun v s=>v= .b r∧s=σ):ay X 27 [a,b,f] σ fun v s=>v= .b r∧s=σ:=by
 subst hf
 rcases ha with rfl | ⟨o,g,rfl⟩ <;> rcases hb with rfl | ⟨o2,g2,rfl⟩
 ·rw [h00 rfl rfl]
  refine ay.body (F:=F27) aC (lit:=false) rfl rfl (Nat.le_of_ble_eq_true rfl) ?_
  conv=>whnf
  exact Fin.flat rfl List.take_length ⟨rfl,rfl⟩
 ·rw [h01 rfl (by simp)]
  refine ay.body (F:=F27) aC (lit:=false) rfl rfl (Nat.le_of_ble_eq_true rfl) ?_
  conv=>whnf
  exact Fin.flat rfl List.take_length ⟨rfl,rfl⟩
 ·rw [h10 (by simp) rfl]
  refine ay.body (F:=F27) aC (lit:=false) rfl rfl (Nat.le_of_ble_eq_true rfl) ?_
  conv=>whnf
  exact Fin.flat rfl List.take_length ⟨rfl,rfl⟩
 ·have h1:=h1 (by simp) (by simp)
  refine ay.body (F:=F27) aC (lit:=false) rfl rfl (Nat.le_of_ble_eq_true rfl) ?_
  conv=>whnf
  refine ay.to h1 ?_
  cases r
  all_goals
   conv=>whnf
   exact Fin.flat rfl List.take_length ⟨rfl,rfl⟩
end Go.Abs.YtlkfbfhkcaldlaaGreatDoor
namespace Go.Abs.YtlkfbfhkcaldlaaGreatDoor
open Go.Proofs
set_option maxRecDepth 4000
section
variable {f:Nat} {σ:St} {o1 g1 o2 g2:Nat} {cs ds:List AV}
theorem GR (h1:σ[o1]? =some ⟨g1,false,.cells 44 cs⟩)(h2:σ[o2]? =some ⟨g2,false,.cells 44 ds⟩)(hl:cs.length=ds.length)(hb:cs.length≤100000)(hp1:∀(i:Nat) (a:AV),cs[i]? =some a→a= .p0∨∃o g,a= .p o g 0)(hp2:∀(i:Nat) (a:AV),ds[i]? =some a→a= .p0∨∃o g,a= .p o g 0)(R:Nat→Bool)
 (hR:∀(i:Nat) (a b:AV),cs[i]? =some a→ds[i]? =some b→ay X f [a,b] σ fun v s=>v= .b (R i)∧s=σ) {Q:Out→Env→St→Prop}
 (q1:(∀i,i<cs.length→R i=true)→∀e',get e' 1000000= .u→Q (.exit 0) e' σ) (q2:(∃i,i<cs.length∧R i=false)→∀e',get e' 6= .b false→Q .ret e' σ):∀(k m:Nat),m+k=cs.length→(∀i,i<m→R i=true)→
 aS X [1,2,15,16,17] LU [(1,.sl o2 g2 0 ds.length 1),(2,.fn (.func f) [] []),(15,.sl o1 g1 0 cs.length 1),(16,.i .i64 cs.length),(17,.i .i64 m)] σ Q:=by
 intro k
 induction k with
 | zero=>
   intro m hm hall
   refine aS.round aC (lit:=false) ?_
   conv=>whnf
   rw [decide_eq_false (by omega)]
   conv=>whnf
   conv=>whnf
   exact q1 (fun i hi=>hall i (by omega)) _ rfl
 | succ k ih=>
   intro m hm hall
   obtain⟨a,ha⟩:∃a,cs[m]? =some a:=⟨_,List.getElem?_eq_getElem (by omega)⟩
   obtain⟨b,hb'⟩:∃b,ds[m]? =some b:=⟨_,List.getElem?_eq_getElem (by omega)⟩
   have hr:=hR m a b ha hb'
   have ha':cs[0+m*1]? =some a:=by rw [Nat.zero_add,Nat.mul_one];exact ha
   have Ov:ds[0+m*1]? =some b:=by rw [Nat.zero_add,Nat.mul_one];exact hb'
   rcases hp1 m a ha with rfl | ⟨oa,ga,rfl⟩ <;> rcases hp2 m b hb' with rfl | ⟨ob,gb,rfl⟩
   all_goals
    refine aS.round aC (lit:=false) ?_
    conv=>whnf
    rw [decide_eq_true (by omega)]
    conv=>whnf
    conv=>whnf
    refine⟨m,rfl,by omega,?_⟩
    conv=>whnf
    refine ak (aj (T:=aV) rfl rfl (ah h1) ha') ?_
    conv=>whnf
    refine⟨m,rfl,by omega,?_⟩
    conv=>whnf
    refine ak (aj (T:=aV) rfl rfl (ah h2) Ov) ?_
    conv=>whnf
    refine ay.to hr ?_
    cases hm':R m with
    | true=>
      conv=>whnf
      refine⟨((m+1:Nat):Int),wrap_i64 (by omega) (by omega),?_⟩
      conv=>whnf
      exact ih (m+1) (by omega) fun i hi=>by
       rcases Nat.lt_or_ge i m with h | h
       ·exact hall i h
       ·obtain rfl:i=m:=by omega
        exact hm'
    | false=>
      conv=>whnf
      exact q2 ⟨m,by omega,hm'⟩ _ rfl
end
section
variable {f:Nat} {σ:St} {o1 g1 o2 g2:Nat} {cs ds:List AV}
theorem GU (h1:σ[o1]? =some ⟨g1,false,.cells 96 cs⟩)(h2:σ[o2]? =some ⟨g2,false,.cells 96 ds⟩)(hl:cs.length=ds.length)(hb:cs.length≤100000)(hp1:∀(i:Nat) (a:AV),cs[i]? =some a→a= .p0∨∃o g,a= .p o g 0)(hp2:∀(i:Nat) (a:AV),ds[i]? =some a→a= .p0∨∃o g,a= .p o g 0)(R:Nat→Bool)
 (hR:∀(i:Nat) (a b:AV),cs[i]? =some a→ds[i]? =some b→ay X f [a,b] σ fun v s=>v= .b (R i)∧s=σ) {Q:Out→Env→St→Prop}
 (q1:(∀i,i<cs.length→R i=true)→∀e',get e' 1000000= .u→Q (.exit 0) e' σ) (q2:(∃i,i<cs.length∧R i=false)→∀e',get e' 6= .b false→Q .ret e' σ):∀(k m:Nat),m+k=cs.length→(∀i,i<m→R i=true)→
 aS X [1,2,15,16,17] SL [(1,.sl o2 g2 0 ds.length 1),(2,.fn (.func f) [] []),(15,.sl o1 g1 0 cs.length 1),(16,.i .i64 cs.length),(17,.i .i64 m)] σ Q:=by
 intro k
 induction k with
 | zero=>
   intro m hm hall
   refine aS.round aC (lit:=false) ?_
   conv=>whnf
   rw [decide_eq_false (by omega)]
   conv=>whnf
   conv=>whnf
   exact q1 (fun i hi=>hall i (by omega)) _ rfl
 | succ k ih=>
   intro m hm hall
   obtain⟨a,ha⟩:∃a,cs[m]? =some a:=⟨_,List.getElem?_eq_getElem (by omega)⟩
   obtain⟨b,hb'⟩:∃b,ds[m]? =some b:=⟨_,List.getElem?_eq_getElem (by omega)⟩
   have hr:=hR m a b ha hb'
   have ha':cs[0+m*1]? =some a:=by rw [Nat.zero_add,Nat.mul_one];exact ha
   have Ov:ds[0+m*1]? =some b:=by rw [Nat.zero_add,Nat.mul_one];exact hb'
   rcases hp1 m a ha with rfl | ⟨oa,ga,rfl⟩ <;> rcases hp2 m b hb' with rfl | ⟨ob,gb,rfl⟩
   all_goals
    refine aS.round aC (lit:=false) ?_
    conv=>whnf
    rw [decide_eq_true (by omega)]
    conv=>whnf
    conv=>whnf
    refine⟨m,rfl,by omega,?_⟩
    conv=>whnf
    refine ak (aj (T:=bZ) rfl rfl (ah h1) ha') ?_
    conv=>whnf
    refine⟨m,rfl,by omega,?_⟩
    conv=>whnf
    refine ak (aj (T:=bZ) rfl rfl (ah h2) Ov) ?_
    conv=>whnf
    refine ay.to hr ?_
    cases hm':R m with
    | true=>
      conv=>whnf
      refine⟨((m+1:Nat):Int),wrap_i64 (by omega) (by omega),?_⟩
      conv=>whnf
      exact ih (m+1) (by omega) fun i hi=>by
       rcases Nat.lt_or_ge i m with h | h
       ·exact hall i h
       ·obtain rfl:i=m:=by omega
        exact hm'
    | false=>
      conv=>whnf
      exact q2 ⟨m,by omega,hm'⟩ _ rfl
end
section
variable {f:Nat} {σ:St} {o1 g1 o2 g2:Nat} {cs ds:List AV}
theorem GV (h1:σ[o1]? =some ⟨g1,false,.cells 64 cs⟩)(h2:σ[o2]? =some ⟨g2,false,.cells 64 ds⟩)(hl:cs.length=ds.length)(hb:cs.length≤100000)(hp1:∀(i:Nat) (a:AV),cs[i]? =some a→a= .p0∨∃o g,a= .p o g 0)(hp2:∀(i:Nat) (a:AV),ds[i]? =some a→a= .p0∨∃o g,a= .p o g 0)(R:Nat→Bool)
 (hR:∀(i:Nat) (a b:AV),cs[i]? =some a→ds[i]? =some b→ay X f [a,b] σ fun v s=>v= .b (R i)∧s=σ) {Q:Out→Env→St→Prop}
 (q1:(∀i,i<cs.length→R i=true)→∀e',get e' 1000000= .u→Q (.exit 0) e' σ) (q2:(∃i,i<cs.length∧R i=false)→∀e',get e' 6= .b false→Q .ret e' σ):∀(k m:Nat),m+k=cs.length→(∀i,i<m→R i=true)→
 aS X [1,2,15,16,17] SE [(1,.sl o2 g2 0 ds.length 1),(2,.fn (.func f) [] []),(15,.sl o1 g1 0 cs.length 1),(16,.i .i64 cs.length),(17,.i .i64 m)] σ Q:=by
 intro k
 induction k with
 | zero=>
   intro m hm hall
   refine aS.round aC (lit:=false) ?_
   conv=>whnf
   rw [decide_eq_false (by omega)]
   conv=>whnf
   conv=>whnf
   exact q1 (fun i hi=>hall i (by omega)) _ rfl
 | succ k ih=>
   intro m hm hall
   obtain⟨a,ha⟩:∃a,cs[m]? =some a:=⟨_,List.getElem?_eq_getElem (by omega)⟩
   obtain⟨b,hb'⟩:∃b,ds[m]? =some b:=⟨_,List.getElem?_eq_getElem (by omega)⟩
   have hr:=hR m a b ha hb'
   have ha':cs[0+m*1]? =some a:=by rw [Nat.zero_add,Nat.mul_one];exact ha
   have Ov:ds[0+m*1]? =some b:=by rw [Nat.zero_add,Nat.mul_one];exact hb'
   rcases hp1 m a ha with rfl | ⟨oa,ga,rfl⟩ <;> rcases hp2 m b hb' with rfl | ⟨ob,gb,rfl⟩
   all_goals
    refine aS.round aC (lit:=false) ?_
    conv=>whnf
    rw [decide_eq_true (by omega)]
    conv=>whnf
    conv=>whnf
    refine⟨m,rfl,by omega,?_⟩
    conv=>whnf
    refine ak (aj (T:=dD) rfl rfl (ah h1) ha') ?_
    conv=>whnf
    refine⟨m,rfl,by omega,?_⟩
    conv=>whnf
    refine ak (aj (T:=dD) rfl rfl (ah h2) Ov) ?_
    conv=>whnf
    refine ay.to hr ?_
    cases hm':R m with
    | true=>
      conv=>whnf
      refine⟨((m+1:Nat):Int),wrap_i64 (by omega) (by omega),?_⟩
      conv=>whnf
      exact ih (m+1) (by omega) fun i hi=>by
       rcases Nat.lt_or_ge i m with h | h
       ·exact hall i h
       ·obtain rfl:i=m:=by omega
        exact hm'
    | false=>
      conv=>whnf
      exact q2 ⟨m,by omega,hm'⟩ _ rfl
end
end Go.Abs.YtlkfbfhkcaldlaaGreatDoor
namespace Go.Abs.YtlkfbfhkcaldlaaGreatDoor
open Go.Proofs
set_option maxRecDepth 4000
def mF (e:Nat)(σ:St)(v:AV)(cs:List AV):Prop:=(cs=[]∧v= .sl0)∨∃o g,v= .sl o g 0 cs.length 1∧σ[o]? =some ⟨g,false,.cells e cs⟩
theorem eqf_e {f:Nat} {σ:St} {va vb:AV} {cs ds:List AV} (ha:mF 44 σ va cs)(hb:mF 44 σ vb ds)(hbc:cs.length≤100000)(hbd:ds.length≤100000)(hp1:∀(i:Nat) (a:AV),cs[i]? =some a→a= .p0∨∃o g,a= .p o g 0)(hp2:∀(i:Nat) (a:AV),ds[i]? =some a→a= .p0∨∃o g,a= .p o g 0)(R:Nat→Bool)
 (hR:∀(i:Nat) (a b:AV),cs[i]? =some a→ds[i]? =some b→ay X f [a,b] σ fun v s=>v= .b (R i)∧s=σ) {r:Bool}
 (r1:cs.length=ds.length→(∀i,i<cs.length→R i=true)→r=true) (r2:cs.length≠ds.length→r=false) (r3:(∃i,i<cs.length∧R i=false)→r=false) :
 ay X 127 [va,vb,.fn (.func f) [] []] σ fun v s=>v= .b r∧s=σ:=by
 rcases ha with ⟨rfl,rfl⟩ | ⟨o1,g1,rfl,h1⟩ <;> rcases hb with ⟨rfl,rfl⟩ | ⟨o2,g2,rfl,h2⟩
 ·rw [r1 rfl (fun i hi=>absurd hi (Nat.not_lt_zero i))]
  refine ay.body (F:=BA) aC (lit:=false) rfl rfl (Nat.le_of_ble_eq_true rfl) ?_
  conv=>whnf
  refine aS.round aC (lit:=false) ?_
  conv=>whnf
  exact Fin.flat rfl List.take_length ⟨rfl,rfl⟩
 ·by_cases hl:0=ds.length
  ·rw [r1 hl (fun i hi=>absurd hi (Nat.not_lt_zero i))]
   refine ay.body (F:=BA) aC (lit:=false) rfl rfl (Nat.le_of_ble_eq_true rfl) ?_
   conv=>whnf
   rw [decide_eq_true (by omega)]
   conv=>whnf
   refine aS.round aC (lit:=false) ?_
   conv=>whnf
   exact Fin.flat rfl List.take_length ⟨rfl,rfl⟩
  ·rw [r2 hl]
   refine ay.body (F:=BA) aC (lit:=false) rfl rfl (Nat.le_of_ble_eq_true rfl) ?_
   conv=>whnf
   rw [decide_eq_false (by omega)]
   conv=>whnf
   exact Fin.flat rfl List.take_length ⟨rfl,rfl⟩
 ·by_cases hl:cs.length=0
  ·rw [r1 hl (fun i hi=>by omega)]
   refine ay.body (F:=BA) aC (lit:=false) rfl rfl (Nat.le_of_ble_eq_true rfl) ?_
   conv=>whnf
   rw [decide_eq_true (by omega)]
   conv=>whnf
   refine aS.round aC (lit:=false) ?_
   conv=>whnf
   rw [decide_eq_false (by omega)]
   conv=>whnf
   conv=>whnf
   exact Fin.flat rfl List.take_length ⟨rfl,rfl⟩
  ·rw [r2 hl]
   refine ay.body (F:=BA) aC (lit:=false) rfl rfl (Nat.le_of_ble_eq_true rfl) ?_
   conv=>whnf
   rw [decide_eq_false (by omega)]
   conv=>whnf
   exact Fin.flat rfl List.take_length ⟨rfl,rfl⟩
 ·by_cases hl:cs.length=ds.length
  ·refine ay.body (F:=BA) aC (lit:=false) rfl rfl (Nat.le_of_ble_eq_true rfl) ?_
   conv=>whnf
   rw [decide_eq_true (by omega)]
   conv=>whnf
   refine GR h1 h2 hl hbc hp1 hp2 R hR (fun hall e' hu=>?_) (fun hex e' h6=>?_) cs.length 0 (by omega) (fun i hi=>absurd hi (Nat.not_lt_zero i))
   ·rw [r1 hl hall]
    conv=>whnf
    exact Fin.flat rfl List.take_length ⟨rfl,rfl⟩
   ·rw [r3 hex]
    conv=>whnf
    rw [h6]
    conv=>whnf
    exact Fin.flat rfl List.take_length ⟨rfl,rfl⟩
  ·rw [r2 hl]
   refine ay.body (F:=BA) aC (lit:=false) rfl rfl (Nat.le_of_ble_eq_true rfl) ?_
   conv=>whnf
   rw [decide_eq_false (by omega)]
   conv=>whnf
   exact Fin.flat rfl List.take_length ⟨rfl,rfl⟩
theorem eqf_s {f:Nat} {σ:St} {va vb:AV} {cs ds:List AV} (ha:mF 96 σ va cs)(hb:mF 96 σ vb ds)(hbc:cs.length≤100000)(hbd:ds.length≤100000)(hp1:∀(i:Nat) (a:AV),cs[i]? =some a→a= .p0∨∃o g,a= .p o g 0)(hp2:∀(i:Nat) (a:AV),ds[i]? =some a→a= .p0∨∃o g,a= .p o g 0)(R:Nat→Bool)
 (hR:∀(i:Nat) (a b:AV),cs[i]? =some a→ds[i]? =some b→ay X f [a,b] σ fun v s=>v= .b (R i)∧s=σ) {r:Bool}
 (r1:cs.length=ds.length→(∀i,i<cs.length→R i=true)→r=true) (r2:cs.length≠ds.length→r=false) (r3:(∃i,i<cs.length∧R i=false)→r=false) :
 ay X 64 [va,vb,.fn (.func f) [] []] σ fun v s=>v= .b r∧s=σ:=by
 rcases ha with ⟨rfl,rfl⟩ | ⟨o1,g1,rfl,h1⟩ <;> rcases hb with ⟨rfl,rfl⟩ | ⟨o2,g2,rfl,h2⟩
 ·rw [r1 rfl (fun i hi=>absurd hi (Nat.not_lt_zero i))]
  refine ay.body (F:=Qh) aC (lit:=false) rfl rfl (Nat.le_of_ble_eq_true rfl) ?_
  conv=>whnf
  refine aS.round aC (lit:=false) ?_
  conv=>whnf
  exact Fin.flat rfl List.take_length ⟨rfl,rfl⟩
 ·by_cases hl:0=ds.length
  ·rw [r1 hl (fun i hi=>absurd hi (Nat.not_lt_zero i))]
   refine ay.body (F:=Qh) aC (lit:=false) rfl rfl (Nat.le_of_ble_eq_true rfl) ?_
   conv=>whnf
   rw [decide_eq_true (by omega)]
   conv=>whnf
   refine aS.round aC (lit:=false) ?_
   conv=>whnf
   exact Fin.flat rfl List.take_length ⟨rfl,rfl⟩
  ·rw [r2 hl]
   refine ay.body (F:=Qh) aC (lit:=false) rfl rfl (Nat.le_of_ble_eq_true rfl) ?_
   conv=>whnf
   rw [decide_eq_false (by omega)]
   conv=>whnf
   exact Fin.flat rfl List.take_length ⟨rfl,rfl⟩
 ·by_cases hl:cs.length=0
  ·rw [r1 hl (fun i hi=>by omega)]
   refine ay.body (F:=Qh) aC (lit:=false) rfl rfl (Nat.le_of_ble_eq_true rfl) ?_
   conv=>whnf
   rw [decide_eq_true (by omega)]
   conv=>whnf
   refine aS.round aC (lit:=false) ?_
   conv=>whnf
   rw [decide_eq_false (by omega)]
   conv=>whnf
   conv=>whnf
   exact Fin.flat rfl List.take_length ⟨rfl,rfl⟩
  ·rw [r2 hl]
   refine ay.body (F:=Qh) aC (lit:=false) rfl rfl (Nat.le_of_ble_eq_true rfl) ?_
   conv=>whnf
   rw [decide_eq_false (by omega)]
   conv=>whnf
   exact Fin.flat rfl List.take_length ⟨rfl,rfl⟩
 ·by_cases hl:cs.length=ds.length
  ·refine ay.body (F:=Qh) aC (lit:=false) rfl rfl (Nat.le_of_ble_eq_true rfl) ?_
   conv=>whnf
   rw [decide_eq_true (by omega)]
   conv=>whnf
   refine GU h1 h2 hl hbc hp1 hp2 R hR (fun hall e' hu=>?_) (fun hex e' h6=>?_) cs.length 0 (by omega) (fun i hi=>absurd hi (Nat.not_lt_zero i))
   ·rw [r1 hl hall]
    conv=>whnf
    exact Fin.flat rfl List.take_length ⟨rfl,rfl⟩
   ·rw [r3 hex]
    conv=>whnf
    rw [h6]
    conv=>whnf
    exact Fin.flat rfl List.take_length ⟨rfl,rfl⟩
  ·rw [r2 hl]
   refine ay.body (F:=Qh) aC (lit:=false) rfl rfl (Nat.le_of_ble_eq_true rfl) ?_
   conv=>whnf
   rw [decide_eq_false (by omega)]
   conv=>whnf
   exact Fin.flat rfl List.take_length ⟨rfl,rfl⟩
theorem eqf_f {f:Nat} {σ:St} {va vb:AV} {cs ds:List AV} (ha:mF 64 σ va cs)(hb:mF 64 σ vb ds)(hbc:cs.length≤100000)(hbd:ds.length≤100000)(hp1:∀(i:Nat) (a:AV),cs[i]? =some a→a= .p0∨∃o g,a= .p o g 0)(hp2:∀(i:Nat) (a:AV),ds[i]? =some a→a= .p0∨∃o g,a= .p o g 0)(R:Nat→Bool)
 (hR:∀(i:Nat) (a b:AV),cs[i]? =some a→ds[i]? =some b→ay X f [a,b] σ fun v s=>v= .b (R i)∧s=σ) {r:Bool}
 (r1:cs.length=ds.length→(∀i,i<cs.length→R i=true)→r=true) (r2:cs.length≠ds.length→r=false) (r3:(∃i,i<cs.length∧R i=false)→r=false) :
 ay X 29 [va,vb,.fn (.func f) [] []] σ fun v s=>v= .b r∧s=σ:=by
 rcases ha with ⟨rfl,rfl⟩ | ⟨o1,g1,rfl,h1⟩ <;> rcases hb with ⟨rfl,rfl⟩ | ⟨o2,g2,rfl,h2⟩
 ·rw [r1 rfl (fun i hi=>absurd hi (Nat.not_lt_zero i))]
  refine ay.body (F:=Qe) aC (lit:=false) rfl rfl (Nat.le_of_ble_eq_true rfl) ?_
  conv=>whnf
  refine aS.round aC (lit:=false) ?_
  conv=>whnf
  exact Fin.flat rfl List.take_length ⟨rfl,rfl⟩
 ·by_cases hl:0=ds.length
  ·rw [r1 hl (fun i hi=>absurd hi (Nat.not_lt_zero i))]
   refine ay.body (F:=Qe) aC (lit:=false) rfl rfl (Nat.le_of_ble_eq_true rfl) ?_
   conv=>whnf
   rw [decide_eq_true (by omega)]
   conv=>whnf
   refine aS.round aC (lit:=false) ?_
   conv=>whnf
   exact Fin.flat rfl List.take_length ⟨rfl,rfl⟩
  ·rw [r2 hl]
   refine ay.body (F:=Qe) aC (lit:=false) rfl rfl (Nat.le_of_ble_eq_true rfl) ?_
   conv=>whnf
   rw [decide_eq_false (by omega)]
   conv=>whnf
   exact Fin.flat rfl List.take_length ⟨rfl,rfl⟩
 ·by_cases hl:cs.length=0
  ·rw [r1 hl (fun i hi=>by omega)]
   refine ay.body (F:=Qe) aC (lit:=false) rfl rfl (Nat.le_of_ble_eq_true rfl) ?_
   conv=>whnf
   rw [decide_eq_true (by omega)]
   conv=>whnf
   refine aS.round aC (lit:=false) ?_
   conv=>whnf
   rw [decide_eq_false (by omega)]
   conv=>whnf
   conv=>whnf
   exact Fin.flat rfl List.take_length ⟨rfl,rfl⟩
  ·rw [r2 hl]
   refine ay.body (F:=Qe) aC (lit:=false) rfl rfl (Nat.le_of_ble_eq_true rfl) ?_
   conv=>whnf
   rw [decide_eq_false (by omega)]
   conv=>whnf
   exact Fin.flat rfl List.take_length ⟨rfl,rfl⟩
 ·by_cases hl:cs.length=ds.length
  ·refine ay.body (F:=Qe) aC (lit:=false) rfl rfl (Nat.le_of_ble_eq_true rfl) ?_
   conv=>whnf
   rw [decide_eq_true (by omega)]
   conv=>whnf
   refine GV h1 h2 hl hbc hp1 hp2 R hR (fun hall e' hu=>?_) (fun hex e' h6=>?_) cs.length 0 (by omega) (fun i hi=>absurd hi (Nat.not_lt_zero i))
   ·rw [r1 hl hall]
    conv=>whnf
    exact Fin.flat rfl List.take_length ⟨rfl,rfl⟩
   ·rw [r3 hex]
    conv=>whnf
    rw [h6]
    conv=>whnf
    exact Fin.flat rfl List.take_length ⟨rfl,rfl⟩
  ·rw [r2 hl]
   refine ay.body (F:=Qe) aC (lit:=false) rfl rfl (Nat.le_of_ble_eq_true rfl) ?_
   conv=>whnf
   rw [decide_eq_false (by omega)]
   conv=>whnf
   exact Fin.flat rfl List.take_length ⟨rfl,rfl⟩
end Go.Abs.YtlkfbfhkcaldlaaGreatDoor
namespace Go.Abs.YtlkfbfhkcaldlaaGreatDoor
open Go.Proofs
set_option maxRecDepth 4000
theorem Rw {k n ln k' n' ln':Nat} {nm tx nm' tx':List UInt8} {σ:St} {o1 g1 o2 g2:Nat} {L1 R1 A1 L2 R2 A2:AV} (h1:σ[o1]? =some (exO g1 k n nm tx L1 R1 A1 ln))(h2:σ[o2]? =some (exO g2 k' n' nm' tx' L2 R2 A2 ln'))
 {ra rl rr:Bool} (ca:ay X 127 [A1,A2,.fn (.func 97) [] []] σ fun v s=>v= .b ra∧s=σ) (cl:ay X 97 [L1,L2] σ fun v s=>v= .b rl∧s=σ) (cr:ay X 97 [R1,R2] σ fun v s=>v= .b rr∧s=σ) :
 ay X 126 [.p o1 g1 0,.p o2 g2 0] σ fun v s=>v= .b ((k == k' && n == n' && nm == nm' && tx == tx') && (ra && rl && rr))∧s=σ:=by
 generalize hR:((k == k' && n == n' && nm == nm' && tx == tx') && (ra && rl && rr))=R
 have fin:∀{b:Bool},b=R→Fin σ (.b b) σ fun v s=>v= .b R∧s=σ:=fun h=>by
  subst h;exact Fin.flat rfl List.take_length ⟨rfl,rfl⟩
 refine ay.body (F:=Uf) aC (lit:=false) rfl rfl (Nat.le_of_ble_eq_true rfl) ?_
 conv=>whnf
 refine ak (aj (T:=dJ) rfl rfl (ah (h1)) rfl) ?_
 conv=>whnf
 refine ak (aj (T:=dJ) rfl rfl (ah (h2)) rfl) ?_
 conv=>whnf
 by_cases hk:k=k'
 case' neg=>
  rw [decide_eq_false (by omega)]
  conv=>whnf
  conv=>whnf
  exact fin (by rw [←hR];simp [hk])
 rw [decide_eq_true (by omega)]
 conv=>whnf
 conv=>whnf
 refine ak (aj (T:=Qz) rfl rfl (ah (h1)) rfl) ?_
 conv=>whnf
 refine ak (aj (T:=Qz) rfl rfl (ah (h2)) rfl) ?_
 conv=>whnf
 by_cases hn:n=n'
 case' neg=>
  rw [decide_eq_false (by omega)]
  conv=>whnf
  conv=>whnf
  exact fin (by rw [←hR];simp [hn])
 rw [decide_eq_true (by omega)]
 conv=>whnf
 conv=>whnf
 refine ak (aj (T:=dP) rfl rfl (ah (h1)) rfl) ?_
 conv=>whnf
 refine ak (aj (T:=dP) rfl rfl (ah (h2)) rfl) ?_
 conv=>whnf
 cases hnm:nm == nm'
 case' false=>
  conv=>whnf
  exact fin (by rw [←hR];simp [hnm])
 conv=>whnf
 refine ak (aj (T:=dP) rfl rfl (ah (h1)) rfl) ?_
 conv=>whnf
 refine ak (aj (T:=dP) rfl rfl (ah (h2)) rfl) ?_
 conv=>whnf
 cases htx:tx == tx'
 case' false=>
  conv=>whnf
  exact fin (by rw [←hR];simp [htx])
 conv=>whnf
 refine ak (aj (T:=nJ) rfl rfl (ah h1) rfl) ?_
 refine bY _ _ ?_
 conv=>whnf
 refine ak (aj (T:=nJ) rfl rfl (ah h2) rfl) ?_
 refine bY _ _ ?_
 refine dh _ _ ?_
 refine ay.to ca ?_
 cases ra
 case' false=>
  conv=>whnf
  exact fin (by rw [←hR];simp)
 conv=>whnf
 refine ak (aj (T:=aV) rfl rfl (ah h1) rfl) ?_
 refine bY _ _ ?_
 conv=>whnf
 refine ak (aj (T:=aV) rfl rfl (ah h2) rfl) ?_
 refine bY _ _ ?_
 refine dh _ _ ?_
 refine ay.to cl ?_
 cases rl
 case' false=>
  conv=>whnf
  exact fin (by rw [←hR];simp)
 conv=>whnf
 refine ak (aj (T:=aV) rfl rfl (ah h1) rfl) ?_
 refine bY _ _ ?_
 conv=>whnf
 refine ak (aj (T:=aV) rfl rfl (ah h2) rfl) ?_
 refine bY _ _ ?_
 refine dh _ _ ?_
 refine ay.to cr ?_
 cases rr
 case' false=>
  conv=>whnf
  exact fin (by rw [←hR];simp)
 conv=>whnf
 exact fin (by rw [←hR,hnm,htx];simp [hk,hn])
theorem yF {a b:AV} {σ:St} {r:Bool} (ha:a= .p0∨∃o g,a= .p o g 0)(hb:b= .p0∨∃o g,b= .p o g 0)(h:ay X 125 [a,b,.fn (.func 126) [] []] σ fun v s=>v= .b r∧s=σ):ay X 97 [a,b] σ fun v s=>v= .b r∧s=σ:=by
 rcases ha with rfl | ⟨_,_,rfl⟩ <;> rcases hb with rfl | ⟨_,_,rfl⟩
 all_goals
  refine ay.body (F:=F97) aC (lit:=false) rfl rfl (Nat.le_of_ble_eq_true rfl) ?_
  conv=>whnf
  refine ay.to h ?_
  cases r
  all_goals
   conv=>whnf
   exact Fin.flat rfl List.take_length ⟨rfl,rfl⟩
theorem gK.lies {S:Nat→Prop} {σ:St} {A:AV} :∀{r:Trs},gK S σ A r→∃cs,mF 44 σ A cs∧cs.length=(trL r).length∧∀(i:Nat) (a:AV),cs[i]? =some a→∃t,(trL r)[i]? =some t∧bC S σ a t
 | .nil,h=>⟨[],.inl ⟨rfl,h⟩,rfl,fun i a h=>by simp at h⟩
 | .cons t r,h=>by
   obtain⟨o,g,cs,h1,h2,h3,h4⟩:=h.list
   refine⟨cs,.inr ⟨o,g,h1,h2⟩,h3,fun i a ha=>?_⟩
   have hi:=(List.getElem?_eq_some_iff.1 ha).1
   obtain⟨y,hy⟩:∃y,(trL (.cons t r))[i]? =some y:=⟨_,List.getElem?_eq_getElem (by omega)⟩
   obtain⟨a',ha',hx⟩:=h4 i y hy
   rw [ha] at ha'
   cases ha'
   exact⟨y,hy,hx⟩
def rowT (a b:Trs)(i:Nat):Bool:=match (trL a)[i]?,(trL b)[i]? with
 | some x,some y=>sameT x y
 | _,_=>false
theorem CB {a b:Trs} {i:Nat} {x y:Tr} (hx:(trL a)[i]? =some x)(hy:(trL b)[i]? =some y):rowT a b i=sameT x y:=by simp [rowT,hx,hy]
theorem JZ {a b:Trs} {S S':Nat→Prop} {σ:St} {A B:AV} (ha:gK S σ A a)(hb:gK S' σ B b)(wa:wTs a≤100000)(wb:wTs b≤100000)
 (h:∀(i:Nat) (x y:Tr),(trL a)[i]? =some x→(trL b)[i]? =some y→∀u0 v,bC S σ u0 x→bC S' σ v y→ay X 97 [u0,v] σ fun z s=>z= .b (sameT x y)∧s=σ) :
 ay X 127 [A,B,.fn (.func 97) [] []] σ fun v s=>v= .b (sameTs a b)∧s=σ:=by
 obtain⟨cs,l1,n1,e1⟩:=ha.lies
 obtain⟨ds,l2,n2,e2⟩:=hb.lies
 have h1:=trL_len a
 have h2:=trL_len b
 refine eqf_e l1 l2 (by omega) (by omega) (fun i u0 hu=>by obtain⟨t,_,ht⟩:=e1 i u0 hu;exact ht.shape) (fun i u0 hu=>by obtain⟨t,_,ht⟩:=e2 i u0 hu;exact ht.shape) (rowT a b) (fun i u0 v hu hv=>?_) (fun hl hall=>?_) (fun hl=>?_) (fun hex=>?_)
 ·obtain⟨x,hx,hux⟩:=e1 i u0 hu
  obtain⟨y,hy,hvy⟩:=e2 i v hv
  rw [CB hx hy]
  exact h i x y hx hy u0 v hux hvy
 ·refine sameTs_all a b (by omega) fun i x y hx hy=>?_
  rw [←CB hx hy]
  exact hall i (by have:=(List.getElem?_eq_some_iff.1 hx).1;omega)
 ·exact sameTs_len a b (by omega)
 ·obtain⟨i,hi,hf⟩:=hex
  by_cases hl:(trL a).length=(trL b).length
  ·obtain⟨x,hx⟩:∃x,(trL a)[i]? =some x:=⟨_,List.getElem?_eq_getElem (by omega)⟩
   obtain⟨y,hy⟩:∃y,(trL b)[i]? =some y:=⟨_,List.getElem?_eq_getElem (by omega)⟩
   rw [CB hx hy] at hf
   exact sameTs_one a b i x y hx hy hf
  ·exact sameTs_len a b hl
theorem yG:∀(N:Nat) (x:Tr),hT x≤N→∀(y:Tr) {S S':Nat→Prop} {σ:St} {a b:AV},bC S σ a x→bC S' σ b y→wT x≤100000→wT y≤100000→ay X 97 [a,b] σ fun v s=>v= .b (sameT x y)∧s=σ
 | _,.nil,_,y,S,S',σ,a,b,ha,hb,_,_=>by
   have ea:a= .p0:=ha
   refine yF ha.shape hb.shape (GN rfl ha.shape hb.shape (fun _ h=>?_) (fun _ h=>?_) (fun h _=>absurd ea h) (fun h _=>absurd ea h))
   ·cases y with
    | nil=>rfl
    | ex=>obtain⟨o,g,_,_,_,_,hv,_⟩:=hb;rw [h] at hv;cases hv
   ·cases y with
    | nil=>exact absurd hb h
    | ex=>rfl
 | 0,.ex ..,h,_,_,_,_,_,_,_,_,_,_=>by simp only [hT] at h;omega
 | N+1,.ex k n nm tx l r ar ln,h,.nil,S,S',σ,a,b,ha,hb,hw,_=>by
   have eb:b= .p0:=hb
   have na:a≠.p0:=by obtain⟨o,g,_,_,_,_,hv,_⟩:=ha;rw [hv];simp
   exact yF ha.shape hb.shape (GN rfl ha.shape hb.shape (fun h _=>absurd h na) (fun h _=>absurd h na) (fun _ _=>rfl) (fun _ h=>absurd eb h))
 | N+1,.ex k n nm tx l r ar ln,h,.ex k' n' nm' tx' l' r' ar' ln',S,S',σ,a,b,ha,hb,hw,hw'=>by
   simp only [hT] at h
   simp only [wT] at hw hw'
   have sa:=ha.shape
   have sb:=hb.shape
   obtain⟨o1,g1,L1,R1,A1,_,rfl,h1,hl1,hr1,ha1⟩:=ha
   obtain⟨o2,g2,L2,R2,A2,_,rfl,h2,hl2,hr2,ha2⟩:=hb
   refine yF sa sb (GN rfl sa sb (fun h _=>by cases h) (fun h _=>by cases h) (fun _ h=>by cases h) (fun _ _=>?_))
   rw [sameT]
   refine Rw h1 h2 (JZ ha1 ha2 (by omega) (by omega) fun i x y hx hy u0 v hu hv=>?_) (yG N l (by omega) l' hl1 hl2 (by omega) (by omega)) (yG N r (by omega) r' hr1 hr2 (by omega) (by omega))
   have h3:=Oq _ i x hx
   have h4:=trL_w _ i x hx
   have h5:=trL_w _ i y hy
   exact yG N x (by omega) y hu hv (by omega) (by omega)
end Go.Abs.YtlkfbfhkcaldlaaGreatDoor
namespace Go.Abs.YtlkfbfhkcaldlaaGreatDoor
open Go.Proofs
set_option maxRecDepth 4000
theorem Rx {k ln k' ln':Nat} {nm nm':List UInt8} {pt Kw:Bool} {σ:St} {o1 g1 o2 g2:Nat} {L1 R1 T1 E1 L2 R2 T2 E2:AV} (h1:σ[o1]? =some (smO g1 k nm pt L1 R1 T1 E1 ln))(h2:σ[o2]? =some (smO g2 k' nm' Kw L2 R2 T2 E2 ln'))
 {rl rr rt re:Bool} (cl:ay X 97 [L1,L2] σ fun v s=>v= .b rl∧s=σ) (cr:ay X 97 [R1,R2] σ fun v s=>v= .b rr∧s=σ)
 (ct:ay X 64 [T1,T2,.fn (.func 65) [] []] σ fun v s=>v= .b rt∧s=σ) (ce:ay X 64 [E1,E2,.fn (.func 65) [] []] σ fun v s=>v= .b re∧s=σ) :
 ay X 96 [.p o1 g1 0,.p o2 g2 0] σ fun v s=>v= .b ((k == k' && nm == nm' && pt == Kw) && (rl && rr && rt && re))∧s=σ:=by
 generalize hR:((k == k' && nm == nm' && pt == Kw) && (rl && rr && rt && re))=R
 have fin:∀{b:Bool},b=R→Fin σ (.b b) σ fun v s=>v= .b R∧s=σ:=fun h=>by
  subst h;exact Fin.flat rfl List.take_length ⟨rfl,rfl⟩
 refine ay.body (F:=F96) aC (lit:=false) rfl rfl (Nat.le_of_ble_eq_true rfl) ?_
 conv=>whnf
 refine ak (aj (T:=dJ) rfl rfl (ah (h1)) rfl) ?_
 conv=>whnf
 refine ak (aj (T:=dJ) rfl rfl (ah (h2)) rfl) ?_
 conv=>whnf
 by_cases hk:k=k'
 case' neg=>
  rw [decide_eq_false (by omega)]
  conv=>whnf
  conv=>whnf
  exact fin (by rw [←hR];simp [hk])
 rw [decide_eq_true (by omega)]
 conv=>whnf
 conv=>whnf
 refine ak (aj (T:=dP) rfl rfl (ah (h1)) rfl) ?_
 conv=>whnf
 refine ak (aj (T:=dP) rfl rfl (ah (h2)) rfl) ?_
 conv=>whnf
 cases hnm:nm == nm'
 case' false=>
  conv=>whnf
  exact fin (by rw [←hR];simp [hnm])
 conv=>whnf
 refine ak (aj (T:=qg) rfl rfl (ah h1) rfl) ?_
 refine bY _ _ ?_
 conv=>whnf
 refine ak (aj (T:=qg) rfl rfl (ah h2) rfl) ?_
 refine bY _ _ ?_
 conv=>whnf
 cases hpt:pt == Kw
 case' false=>
  conv=>whnf
  exact fin (by rw [←hR];simp [hpt])
 conv=>whnf
 refine ak (aj (T:=aV) rfl rfl (ah h1) rfl) ?_
 refine bY _ _ ?_
 conv=>whnf
 refine ak (aj (T:=aV) rfl rfl (ah h2) rfl) ?_
 refine bY _ _ ?_
 refine dh _ _ ?_
 refine ay.to cl ?_
 cases rl
 case' false=>
  conv=>whnf
  exact fin (by rw [←hR];simp)
 conv=>whnf
 refine ak (aj (T:=aV) rfl rfl (ah h1) rfl) ?_
 refine bY _ _ ?_
 conv=>whnf
 refine ak (aj (T:=aV) rfl rfl (ah h2) rfl) ?_
 refine bY _ _ ?_
 refine dh _ _ ?_
 refine ay.to cr ?_
 cases rr
 case' false=>
  conv=>whnf
  exact fin (by rw [←hR];simp)
 conv=>whnf
 refine ak (aj (T:=cO) rfl rfl (ah h1) rfl) ?_
 refine bY _ _ ?_
 conv=>whnf
 refine ak (aj (T:=cO) rfl rfl (ah h2) rfl) ?_
 refine bY _ _ ?_
 refine dh _ _ ?_
 refine ay.to ct ?_
 cases rt
 case' false=>
  conv=>whnf
  exact fin (by rw [←hR];simp)
 conv=>whnf
 refine ak (aj (T:=cO) rfl rfl (ah h1) rfl) ?_
 refine bY _ _ ?_
 conv=>whnf
 refine ak (aj (T:=cO) rfl rfl (ah h2) rfl) ?_
 refine bY _ _ ?_
 refine dh _ _ ?_
 refine ay.to ce ?_
 cases re
 case' false=>
  conv=>whnf
  exact fin (by rw [←hR];simp)
 conv=>whnf
 exact fin (by rw [←hR,hnm,hpt];simp [hk])
theorem J3 {a b:AV} {σ:St} {r:Bool} (ha:a= .p0∨∃o g,a= .p o g 0)(hb:b= .p0∨∃o g,b= .p o g 0)(h:ay X 95 [a,b,.fn (.func 96) [] []] σ fun v s=>v= .b r∧s=σ):ay X 65 [a,b] σ fun v s=>v= .b r∧s=σ:=by
 rcases ha with rfl | ⟨_,_,rfl⟩ <;> rcases hb with rfl | ⟨_,_,rfl⟩
 all_goals
  refine ay.body (F:=F65) aC (lit:=false) rfl rfl (Nat.le_of_ble_eq_true rfl) ?_
  conv=>whnf
  refine ay.to h ?_
  cases r
  all_goals
   conv=>whnf
   exact Fin.flat rfl List.take_length ⟨rfl,rfl⟩
theorem fM.shape {S:Nat→Prop} {σ:St} {v:AV} :∀{t:Sm},fM S σ v t→v= .p0∨∃o g,v= .p o g 0
 | .st ..,h=>by obtain⟨o,g,_,_,_,_,_,hv,_⟩:=h;exact .inr ⟨o,g,hv⟩
theorem dn.lies {S:Nat→Prop} {σ:St} {A:AV} :∀{r:Sms},dn S σ A r→∃cs,mF 96 σ A cs∧cs.length=(smL r).length∧∀(i:Nat) (a:AV),cs[i]? =some a→∃t,(smL r)[i]? =some t∧fM S σ a t
 | .nil,h=>⟨[],.inl ⟨rfl,h⟩,rfl,fun i a h=>by simp at h⟩
 | .cons t r,h=>by
   obtain⟨o,g,cs,h1,h2,h3,h4⟩:=h.list
   refine⟨cs,.inr ⟨o,g,h1,h2⟩,h3,fun i a ha=>?_⟩
   have hi:=(List.getElem?_eq_some_iff.1 ha).1
   obtain⟨y,hy⟩:∃y,(smL (.cons t r))[i]? =some y:=⟨_,List.getElem?_eq_getElem (by omega)⟩
   obtain⟨a',ha',hx⟩:=h4 i y hy
   rw [ha] at ha'
   cases ha'
   exact⟨y,hy,hx⟩
def Vm (a b:Sms)(i:Nat):Bool:=match (smL a)[i]?,(smL b)[i]? with
 | some x,some y=>sameS x y
 | _,_=>false
theorem CG {a b:Sms} {i:Nat} {x y:Sm} (hx:(smL a)[i]? =some x)(hy:(smL b)[i]? =some y):Vm a b i=sameS x y:=by simp [Vm,hx,hy]
theorem yH {a b:Sms} {S S':Nat→Prop} {σ:St} {A B:AV} (ha:dn S σ A a)(hb:dn S' σ B b)(wa:wSs a≤100000)(wb:wSs b≤100000)
 (h:∀(i:Nat) (x y:Sm),(smL a)[i]? =some x→(smL b)[i]? =some y→∀u0 v,fM S σ u0 x→fM S' σ v y→ay X 65 [u0,v] σ fun z s=>z= .b (sameS x y)∧s=σ) :
 ay X 64 [A,B,.fn (.func 65) [] []] σ fun v s=>v= .b (sameSs a b)∧s=σ:=by
 obtain⟨cs,l1,n1,e1⟩:=ha.lies
 obtain⟨ds,l2,n2,e2⟩:=hb.lies
 have h1:=smL_len a
 have h2:=smL_len b
 refine eqf_s l1 l2 (by omega) (by omega) (fun i u0 hu=>by obtain⟨t,_,ht⟩:=e1 i u0 hu;exact ht.shape) (fun i u0 hu=>by obtain⟨t,_,ht⟩:=e2 i u0 hu;exact ht.shape) (Vm a b) (fun i u0 v hu hv=>?_) (fun hl hall=>?_) (fun hl=>?_) (fun hex=>?_)
 ·obtain⟨x,hx,hux⟩:=e1 i u0 hu
  obtain⟨y,hy,hvy⟩:=e2 i v hv
  rw [CG hx hy]
  exact h i x y hx hy u0 v hux hvy
 ·refine sameSs_all a b (by omega) fun i x y hx hy=>?_
  rw [←CG hx hy]
  exact hall i (by have:=(List.getElem?_eq_some_iff.1 hx).1;omega)
 ·exact sameSs_len a b (by omega)
 ·obtain⟨i,hi,hf⟩:=hex
  by_cases hl:(smL a).length=(smL b).length
  ·obtain⟨x,hx⟩:∃x,(smL a)[i]? =some x:=⟨_,List.getElem?_eq_getElem (by omega)⟩
   obtain⟨y,hy⟩:∃y,(smL b)[i]? =some y:=⟨_,List.getElem?_eq_getElem (by omega)⟩
   rw [CG hx hy] at hf
   exact sameSs_one a b i x y hx hy hf
  ·exact sameSs_len a b hl
theorem Ox:∀(N:Nat) (x:Sm),hS x≤N→∀(y:Sm) {S S':Nat→Prop} {σ:St} {a b:AV},fM S σ a x→fM S' σ b y→wS x≤100000→wS y≤100000→ay X 65 [a,b] σ fun v s=>v= .b (sameS x y)∧s=σ
 | 0,.st ..,h,_,_,_,_,_,_,_,_,_,_=>by simp only [hS] at h;omega
 | N+1,.st k nm pt l r th el ln,h,.st k' nm' Kw l' r' th' el' ln',S,S',σ,a,b,ha,hb,hw,hw'=>by
   simp only [hS] at h
   simp only [wS] at hw hw'
   have sa:=ha.shape
   have sb:=hb.shape
   obtain⟨o1,g1,L1,R1,T1,E1,_,rfl,h1,hl1,hr1,ht1,he1⟩:=ha
   obtain⟨o2,g2,L2,R2,T2,E2,_,rfl,h2,hl2,hr2,ht2,he2⟩:=hb
   refine J3 sa sb (Vj rfl sa sb (fun h _=>by cases h) (fun h _=>by cases h) (fun _ h=>by cases h) (fun _ _=>?_))
   rw [sameS]
   refine Rx h1 h2 (yG _ l (Nat.le_refl _) l' hl1 hl2 (by omega) (by omega)) (yG _ r (Nat.le_refl _) r' hr1 hr2 (by omega) (by omega)) (yH ht1 ht2 (by omega) (by omega) fun i x y hx hy u0 v hu hv=>?_) (yH he1 he2 (by omega) (by omega) fun i x y hx hy u0 v hu hv=>?_)
   all_goals
    have h3:=Ot _ i x hx
    have h4:=smL_w _ i x hx
    have h5:=smL_w _ i y hy
    exact Ox N x (by omega) y hu hv (by omega) (by omega)
end Go.Abs.YtlkfbfhkcaldlaaGreatDoor
namespace Go.Abs.YtlkfbfhkcaldlaaGreatDoor
open Go.Proofs
set_option maxRecDepth 4000
section
variable {σ:St} {oa ga ob gb:Nat} {l l':List (List UInt8×Bool)}
theorem Oy (hc1:σ[oa]? =some ⟨ga,false,.cells 71 (kJ l)⟩)(hc2:σ[ob]? =some ⟨gb,false,.cells 71 (kJ l')⟩)(hl:l.length=l'.length)(hb:l.length≤100000) {Q:Out→Env→St→Prop}
 (q1:l=l'→∀e',get e' 1000000= .u→Q (.exit 0) e' σ) (q2:l≠l'→∀e',get e' 4= .b false→Q .ret e' σ):∀(d m:Nat),m+d=l.length→(∀i:Nat,i<m→l[i]? =l'[i]?)→
 aS X [0,1,12,13] SK [(0,.sl oa ga 0 l.length 2),(1,.sl ob gb 0 l'.length 2),(12,.i .i64 l.length),(13,.i .i64 m)] σ Q:=by
 intro d
 induction d with
 | zero=>
   intro m hm he
   refine aS.round aC (lit:=false) ?_
   conv=>whnf
   rw [decide_eq_false (by omega)]
   conv=>whnf
   conv=>whnf
   refine q1 (List.ext_getElem? fun i=>?_) _ rfl
   rcases Nat.lt_or_ge i m with h | h
   ·exact he i h
   ·rw [List.getElem?_eq_none (by omega),List.getElem?_eq_none (by omega)]
 | succ d ih=>
   intro m hm he
   obtain⟨p,hp⟩:∃p,l[m]? =some p:=⟨_,List.getElem?_eq_getElem (by omega)⟩
   obtain⟨q,hq⟩:∃q,l'[m]? =some q:=⟨_,List.getElem?_eq_getElem (by omega)⟩
   have hpl:=lJ l
   have hpl':=lJ l'
   refine aS.round aC (lit:=false) ?_
   conv=>whnf
   rw [decide_eq_true (by omega)]
   conv=>whnf
   conv=>whnf
   refine⟨m,rfl,by omega,?_⟩
   conv=>whnf
   refine ak (dY (T:=dV) rfl rfl (ah hc1) (by rw [hpl];show 0+m*2+2≤_;omega)) ?_
   rw [show ((kJ l).drop (0+m*2)).take (dV).size=[.s p.1,.b p.2] by rw [Nat.zero_add];exact oK l m p hp]
   conv=>whnf
   refine⟨m,rfl,by omega,?_⟩
   conv=>whnf
   refine ak (dY (T:=dV) rfl rfl (ah hc2) (by rw [hpl'];show 0+m*2+2≤_;omega)) ?_
   rw [show ((kJ l').drop (0+m*2)).take (dV).size=[.s q.1,.b q.2] by rw [Nat.zero_add];exact oK l' m q hq]
   conv=>whnf
   by_cases hpq:p=q
   ·subst hpq
    rw [beq_self_eq_true p.1,beq_self_eq_true p.2]
    conv=>whnf
    refine⟨((m+1:Nat):Int),wrap_i64 (by omega) (by omega),?_⟩
    conv=>whnf
    exact ih (m+1) (by omega) fun i hi=>by
        rcases Nat.lt_or_ge i m with h | h
        ·exact he i h
        ·obtain rfl:i=m:=by omega
         rw [hp,hq]
   ·have hne:(p.1 == q.1 && p.2 == q.2)=false:=by
        rw [Bool.eq_false_iff]
        intro h
        rw [Bool.and_eq_true,beq_iff_eq,beq_iff_eq] at h
        exact hpq (Prod.ext h.1 h.2)
    have hll:l≠l':=fun e=>by rw [e,hq] at hp;exact hpq (Option.some.inj hp).symm
    rw [hne]
    conv=>whnf
    exact q2 hll _ rfl
end
theorem Vo {σ:St} {A B:AV} {l l':List (List UInt8×Bool)} (ha:Ou σ A l)(hb:Ou σ B l')(wa:l.length≤100000)(wb:l'.length≤100000):ay X 63 [A,B] σ fun v s=>v= .b (l == l')∧s=σ:=by
 generalize hR:(l == l')=R
 have fin:∀{b:Bool},b=R→Fin σ (.b b) σ fun v s=>v= .b R∧s=σ:=fun h=>by
  subst h;exact Fin.flat rfl List.take_length ⟨rfl,rfl⟩
 rcases ha with ⟨rfl,rfl⟩ | ⟨oa,ga,rfl,hc1⟩ <;> rcases hb with ⟨rfl,rfl⟩ | ⟨ob,gb,rfl,hc2⟩
 ·refine ay.body (F:=Qg) aC (lit:=false) rfl rfl (Nat.le_of_ble_eq_true rfl) ?_
  conv=>whnf
  refine aS.round aC (lit:=false) ?_
  conv=>whnf
  exact fin (by rw [←hR];rfl)
 ·by_cases hz:l'= []
  ·subst hz
   refine ay.body (F:=Qg) aC (lit:=false) rfl rfl (Nat.le_of_ble_eq_true rfl) ?_
   conv=>whnf
   refine aS.round aC (lit:=false) ?_
   conv=>whnf
   exact fin (by rw [←hR];rfl)
  ·have hp:0<l'.length:=List.length_pos_iff.2 hz
   refine ay.body (F:=Qg) aC (lit:=false) rfl rfl (Nat.le_of_ble_eq_true rfl) ?_
   conv=>whnf
   rw [decide_eq_false (by omega)]
   conv=>whnf
   exact fin (by rw [←hR];cases l' with | nil=>exact absurd rfl hz | cons _ _=>rfl)
 ·by_cases hz:l=[]
  ·subst hz
   refine ay.body (F:=Qg) aC (lit:=false) rfl rfl (Nat.le_of_ble_eq_true rfl) ?_
   conv=>whnf
   refine aS.round aC (lit:=false) ?_
   conv=>whnf
   exact fin (by rw [←hR];rfl)
  ·have hp:0<l.length:=List.length_pos_iff.2 hz
   refine ay.body (F:=Qg) aC (lit:=false) rfl rfl (Nat.le_of_ble_eq_true rfl) ?_
   conv=>whnf
   rw [decide_eq_false (by omega)]
   conv=>whnf
   exact fin (by rw [←hR];cases l with | nil=>exact absurd rfl hz | cons _ _=>rfl)
 ·by_cases hl:l.length=l'.length
  ·refine ay.body (F:=Qg) aC (lit:=false) rfl rfl (Nat.le_of_ble_eq_true rfl) ?_
   conv=>whnf
   rw [decide_eq_true (by omega)]
   conv=>whnf
   refine Oy hc1 hc2 hl wa (fun e e' hu=>?_) (fun e e' h4=>?_) l.length 0 (by omega) (fun i hi=>absurd hi (Nat.not_lt_zero i))
   ·conv=>whnf
    exact fin (by rw [←hR,e];simp)
   ·conv=>whnf
    rw [h4]
    conv=>whnf
    exact fin (by rw [←hR];simp [e])
  ·refine ay.body (F:=Qg) aC (lit:=false) rfl rfl (Nat.le_of_ble_eq_true rfl) ?_
   conv=>whnf
   rw [decide_eq_false (by omega)]
   conv=>whnf
   exact fin (by rw [←hR];rw [eq_comm,beq_eq_false_iff_ne];exact fun e=>hl (by rw [e]))
theorem RD {nm nm':List UInt8} {pt Kw:Bool} {ln ln':Nat} {σ:St} {o1 o2:Nat} {A1 B1 A2 B2:AV} (h1:σ[o1]? =some (t_ nm A1 pt B1 ln))(h2:σ[o2]? =some (t_ nm' A2 Kw B2 ln'))
 {rp rb:Bool} (cp:ay X 63 [A1,A2] σ fun v s=>v= .b rp∧s=σ) (cb:ay X 64 [B1,B2,.fn (.func 65) [] []] σ fun v s=>v= .b rb∧s=σ) :
 ay X 62 [.p o1 0 0,.p o2 0 0] σ fun v s=>v= .b (nm == nm' && pt == Kw && rp && rb)∧s=σ:=by
 generalize hR:(nm == nm' && pt == Kw && rp && rb)=R
 have fin:∀{b:Bool},b=R→Fin σ (.b b) σ fun v s=>v= .b R∧s=σ:=fun h=>by
  subst h;exact Fin.flat rfl List.take_length ⟨rfl,rfl⟩
 refine ay.body (F:=F62) aC (lit:=false) rfl rfl (Nat.le_of_ble_eq_true rfl) ?_
 conv=>whnf
 refine ak (aj (T:=dP) rfl rfl (ah (h1)) rfl) ?_
 conv=>whnf
 refine ak (aj (T:=dP) rfl rfl (ah (h2)) rfl) ?_
 conv=>whnf
 cases hnm:nm == nm'
 case' false=>
  conv=>whnf
  exact fin (by rw [←hR];simp [hnm])
 conv=>whnf
 refine ak (aj (T:=qg) rfl rfl (ah h1) rfl) ?_
 refine bY _ _ ?_
 conv=>whnf
 refine ak (aj (T:=qg) rfl rfl (ah h2) rfl) ?_
 refine bY _ _ ?_
 conv=>whnf
 cases hpt:pt == Kw
 case' false=>
  conv=>whnf
  exact fin (by rw [←hR];simp [hpt])
 conv=>whnf
 refine ak (aj (T:=lG) rfl rfl (ah h1) rfl) ?_
 refine bY _ _ ?_
 conv=>whnf
 refine ak (aj (T:=lG) rfl rfl (ah h2) rfl) ?_
 refine bY _ _ ?_
 refine dh _ _ ?_
 refine ay.to cp ?_
 cases rp
 case' false=>
  conv=>whnf
  exact fin (by rw [←hR];simp)
 conv=>whnf
 refine ak (aj (T:=cO) rfl rfl (ah h1) rfl) ?_
 refine bY _ _ ?_
 conv=>whnf
 refine ak (aj (T:=cO) rfl rfl (ah h2) rfl) ?_
 refine bY _ _ ?_
 refine dh _ _ ?_
 refine ay.to cb ?_
 cases rb
 case' false=>
  conv=>whnf
  exact fin (by rw [←hR];simp)
 conv=>whnf
 exact fin (by rw [←hR,hnm,hpt];rfl)
theorem J4 {a b:AV} {σ:St} {r:Bool} (ha:∃o g,a= .p o g 0)(hb:∃o g,b= .p o g 0)(h:ay X 61 [a,b,.fn (.func 62) [] []] σ fun v s=>v= .b r∧s=σ):ay X 30 [a,b] σ fun v s=>v= .b r∧s=σ:=by
 obtain⟨_,_,rfl⟩:=ha
 obtain⟨_,_,rfl⟩:=hb
 refine ay.body (F:=F30) aC (lit:=false) rfl rfl (Nat.le_of_ble_eq_true rfl) ?_
 conv=>whnf
 refine ay.to h ?_
 cases r
 all_goals
  conv=>whnf
  exact Fin.flat rfl List.take_length ⟨rfl,rfl⟩
theorem Vp {S S':Nat→Prop} {σ:St} {a b:AV} {f g:Fm} (ha:kK S σ a f)(hb:kK S' σ b g)(wa:wF f≤100000)(wb:wF g≤100000):ay X 30 [a,b] σ fun v s=>v= .b (sameF f g)∧s=σ:=by
 obtain⟨nm,ps,pt,bd,ln⟩:=f
 obtain⟨nm',ps',Kw,bd',ln'⟩:=g
 obtain⟨o,A,Bd,_,ea,h1,hA,hB⟩:=ha
 obtain⟨o',A',Bd',_,eb,h2,hA',hB'⟩:=hb
 subst ea;subst eb
 simp only [wF] at wa wb
 have hA:mM S σ A ps:=hA
 have hA':mM S' σ A' ps':=hA'
 have hB:dn S σ Bd bd:=hB
 have hB':dn S' σ Bd' bd':=hB'
 refine J4 ⟨_,_,rfl⟩ ⟨_,_,rfl⟩ (Vk rfl (.inr ⟨_,_,rfl⟩) (.inr ⟨_,_,rfl⟩) (fun h _=>by cases h) (fun h _=>by cases h) (fun _ h=>by cases h) (fun _ _=>?_))
 show ay X _ _ σ fun v s=>v= .b (nm == nm' && pt == Kw && (ps == ps') && sameSs bd bd')∧s=σ
 exact RD h1 h2 (Vo hA.or hA'.or (by omega) (by omega)) (yH hB hB' (by omega) (by omega) fun i x y hx hy u0 v hu hv=>by
  have h4:=smL_w _ i x hx
  have h5:=smL_w _ i y hy
  exact Ox _ x (Nat.le_refl _) y hu hv (by omega) (by omega))
def Vq (a b:List Fm)(i:Nat):Bool:=match a[i]?,b[i]? with
 | some x,some y=>sameF x y
 | _,_=>false
theorem CJ {a b:List Fm} {i:Nat} {x y:Fm} (hx:a[i]? =some x)(hy:b[i]? =some y):Vq a b i=sameF x y:=by simp [Vq,hx,hy]
theorem kK.shape {S:Nat→Prop} {σ:St} {v:AV} {f:Fm} (h:kK S σ v f):v= .p0∨∃o g,v= .p o g 0:=by
 obtain⟨o,A,Bd,_,ea,_⟩:=h;exact .inr ⟨o,0,ea⟩
def Vr (S:Nat→Prop)(σ:St)(A:AV)(fs:List Fm):Prop:=∃cs,mF 64 σ A cs∧cs.length=fs.length∧∀(i:Nat) (a:AV),cs[i]? =some a→∃f,fs[i]? =some f∧kK S σ a f
theorem lq.fs {S:Nat→Prop} {σ:St} {v:AV} {fs:List Fm} (h:lq S σ v fs):∃o A,v= .p o 0 0∧σ[o]? =some ⟨0,false,.cells 60 [A]⟩∧Vr S σ A fs:=by
 obtain⟨o,A,_,hv,ho,d⟩:=h
 refine⟨o,A,hv,ho,?_⟩
 rcases d with ⟨rfl,rfl⟩ | ⟨o2,g2,cs,_,rfl,hc,e,_⟩
 ·exact⟨[],.inl ⟨rfl,rfl⟩,rfl,fun i a h=>by simp at h⟩
 ·obtain⟨h3,h4⟩:=e.list
  refine⟨cs,.inr ⟨o2,g2,rfl,hc⟩,h3,fun i a ha=>?_⟩
  have hi:=(List.getElem?_eq_some_iff.1 ha).1
  obtain⟨y,hy⟩:∃y,fs[i]? =some y:=⟨_,List.getElem?_eq_getElem (by omega)⟩
  obtain⟨a',ha',hx⟩:=h4 i y hy
  rw [ha] at ha'
  cases ha'
  exact⟨y,hy,hx⟩
theorem GX {a b:List Fm} {S S':Nat→Prop} {σ:St} {A B:AV} (ha:Vr S σ A a)(hb:Vr S' σ B b)(wa:wFs a≤100000)(wb:wFs b≤100000) :
 ay X 29 [A,B,.fn (.func 30) [] []] σ fun v s=>v= .b (sameFs a b)∧s=σ:=by
 obtain⟨cs,l1,n1,e1⟩:=ha
 obtain⟨ds,l2,n2,e2⟩:=hb
 have h1:=wFs_len a
 have h2:=wFs_len b
 refine eqf_f l1 l2 (by omega) (by omega) (fun i u0 hu=>by obtain⟨t,_,ht⟩:=e1 i u0 hu;exact ht.shape) (fun i u0 hu=>by obtain⟨t,_,ht⟩:=e2 i u0 hu;exact ht.shape) (Vq a b) (fun i u0 v hu hv=>?_) (fun hl hall=>?_) (fun hl=>?_) (fun hex=>?_)
 ·obtain⟨x,hx,hux⟩:=e1 i u0 hu
  obtain⟨y,hy,hvy⟩:=e2 i v hv
  have h4:=wFs_w _ i x hx
  have h5:=wFs_w _ i y hy
  rw [CJ hx hy]
  exact Vp hux hvy (by omega) (by omega)
 ·refine sameFs_all a b (by omega) fun i x y hx hy=>?_
  rw [←CJ hx hy]
  exact hall i (by have:=(List.getElem?_eq_some_iff.1 hx).1;omega)
 ·exact sameFs_len a b (by omega)
 ·obtain⟨i,hi,hf⟩:=hex
  by_cases hl:a.length=b.length
  ·obtain⟨x,hx⟩:∃x,a[i]? =some x:=⟨_,List.getElem?_eq_getElem (by omega)⟩
   obtain⟨y,hy⟩:∃y,b[i]? =some y:=⟨_,List.getElem?_eq_getElem (by omega)⟩
   rw [CJ hx hy] at hf
   exact sameFs_one a b i x y hx hy hf
  ·exact sameFs_len a b hl
theorem RF {σ:St} {o1 o2:Nat} {A1 A2:AV} (h1:σ[o1]? =some ⟨0,false,.cells 60 [A1]⟩)(h2:σ[o2]? =some ⟨0,false,.cells 60 [A2]⟩) {r:Bool} (c:ay X 29 [A1,A2,.fn (.func 30) [] []] σ fun v s=>v= .b r∧s=σ) :
 ay X 28 [.p o1 0 0,.p o2 0 0] σ fun v s=>v= .b r∧s=σ:=by
 refine ay.body (F:=F28) aC (lit:=false) rfl rfl (Nat.le_of_ble_eq_true rfl) ?_
 conv=>whnf
 refine ak (aj (T:=tq) rfl rfl (ah h1) rfl) ?_
 refine bY _ _ ?_
 conv=>whnf
 refine ak (aj (T:=tq) rfl rfl (ah h2) rfl) ?_
 refine bY _ _ ?_
 refine dh _ _ ?_
 refine ay.to c ?_
 cases r
 all_goals
  conv=>whnf
  exact Fin.flat rfl List.take_length ⟨rfl,rfl⟩
theorem J5 {a b:AV} {σ:St} {r:Bool} (ha:a= .p0∨∃o g,a= .p o g 0)(hb:b= .p0∨∃o g,b= .p o g 0)(h:ay X 27 [a,b,.fn (.func 28) [] []] σ fun v s=>v= .b r∧s=σ):ay X 11 [a,b] σ fun v s=>v= .b r∧s=σ:=by
 rcases ha with rfl | ⟨_,_,rfl⟩ <;> rcases hb with rfl | ⟨_,_,rfl⟩
 all_goals
  refine ay.body (F:=F11) aC (lit:=false) rfl rfl (Nat.le_of_ble_eq_true rfl) ?_
  conv=>whnf
  refine ay.to h ?_
  cases r
  all_goals
   conv=>whnf
   exact Fin.flat rfl List.take_length ⟨rfl,rfl⟩
theorem Oz {S S':Nat→Prop} {σ:St} {a b:AV} {fs gs:List Fm} (ha:lq S σ a fs)(hb:lq S' σ b gs)(wa:wFs fs≤100000)(wb:wFs gs≤100000):ay X 11 [a,b] σ fun v s=>v= .b (sameFs fs gs)∧s=σ:=by
 obtain⟨o1,A1,rfl,h1,f1⟩:=ha.fs
 obtain⟨o2,A2,rfl,h2,f2⟩:=hb.fs
 exact J5 (.inr ⟨_,_,rfl⟩) (.inr ⟨_,_,rfl⟩) (Vl rfl (.inr ⟨_,_,rfl⟩) (.inr ⟨_,_,rfl⟩) (fun h _=>by cases h) (fun h _=>by cases h) (fun _ h=>by cases h) (fun _ _=>RF h1 h2 (GX f1 f2 wa wb)))
end Go.Abs.YtlkfbfhkcaldlaaGreatDoor
