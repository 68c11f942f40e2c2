/- Texts of this claim, joined: Sx, Qa, Qb, Qc, Qd, Qe, Qf. -/
import Derived.Test.YtjcicgkencfbgaaGreatDoorM21
import Derived.Test.YtjcicgkencfbgaaGreatDoorM24
import Derived.Test.YtjcicgkencfbgaaGreatDoorM19
set_option linter.unusedVariables false
set_option linter.unusedSimpArgs false
namespace Go.bG.YtjcicgkencfbgaaGreatDoor
open Go.Proofs
set_option maxRecDepth 4000
mutual
def hT:Tr→Nat
 | .nil=>0
 | .ex _ _ _ _ l r a _=>1+hT l+hT r+hTs a
def hTs:rF→Nat
 | .nil=>0
 | .cons t r=>1+hT t+hTs r
end
theorem NU:∀(l:rF) (i:Nat) (t:Tr),(mO l)[i]? =some t→hT t+1≤hTs l
 | .nil,i,t,h=>by simp [mO] at h
 | .cons a r,0,t,h=>by simp only [mO,List.getElem?_cons_zero,Option.some.injEq] at h;subst h;simp only [hTs];omega
 | .cons a r,i+1,t,h=>by
   simp only [mO,List.getElem?_cons_succ] at h
   have:=NU r i t h;simp only [hTs];omega
theorem bK.shape {S:Nat→Prop} {σ:St} {v:AV} :∀{t:Tr},bK S σ v t→v= .p0∨∃o g,v= .p o g 0
 | .nil,h=>.inl h
 | .ex ..,h=>by obtain⟨o,g,L,R,A,_,hv,_⟩:=h;exact .inr ⟨o,g,hv⟩
theorem bK.two {S S':Nat→Prop} {σ:St} {v v2:AV} :∀{t:Tr},bK S σ v t→bK S' σ v2 t→(v= .p0∧v2= .p0)∨∃o g o' g',v= .p o g 0∧v2= .p o' g' 0
 | .nil,h,k=>.inl ⟨h,k⟩
 | .ex ..,h,k=>by obtain⟨o,g,L,R,A,_,hv,_⟩:=h;obtain⟨o',g',L',R',A',_,hu,_⟩:=k;exact .inr ⟨o,g,o',g',hv,hu⟩
theorem tX.list {S:Nat→Prop} {σ:St} :∀{r:rF} {cs:List AV},tX S σ cs r→cs.length=(mO r).length∧∀(i:Nat) (t:Tr),(mO r)[i]? =some t→∃a,cs[i]? =some a∧bK S σ a t
 | .nil,cs,h=>by have h:cs=[]:=h;subst h;exact⟨rfl,fun i t h=>by simp [mO] at h⟩
 | .cons t r,cs,h=>by
   obtain⟨a,tl,rfl,h1,h2⟩:=h
   obtain⟨h3,h4⟩:=tX.list h2
   refine⟨by simp [mO,h3],fun i t' ht=>?_⟩
   cases i with
   | zero=>simp only [mO,List.getElem?_cons_zero,Option.some.injEq] at ht;subst ht;exact⟨a,rfl,h1⟩
   | succ i=>exact h4 i t' (by simpa [mO] using ht)
theorem kJ.list {S:Nat→Prop} {σ:St} {A:AV} {t:Tr} {r:rF} (h:kJ S σ A (.cons t r)):∃o g cs,A= .sl o g 0 cs.length 1∧σ[o]? =some ⟨g,false,.cells 62 cs⟩∧cs.length=(mO (.cons t r)).length∧∀(i:Nat) (x:Tr),(mO (.cons t r))[i]? =some x→∃a,cs[i]? =some a∧bK S σ a x:=by
 obtain⟨o,g,cs,_,hv,ho,a,tl,hc,hx,hl⟩:=h
 have h2:tX S σ cs (.cons t r):=⟨a,tl,hc,hx,hl⟩
 obtain⟨h3,h4⟩:=h2.list
 exact⟨o,g,cs,hv,ho,h3,h4⟩
def exO (g k n:Nat)(nm tx:List UInt8)(L R A:AV)(ln:Nat):AO:=⟨g,false,.cells 67 [.i .i64 k,.i .u32 n,.s nm,.s tx,L,R,A,.i .i64 ln]⟩
mutual
def hS:Sm→Nat
 | .st _ _ _ _ _ th el _=>1+hSs th+hSs el
def hSs:oO→Nat
 | .nil=>0
 | .cons t r=>1+hS t+hSs r
end
theorem NV:∀(l:oO) (i:Nat) (t:Sm),(lS l)[i]? =some t→hS t+1≤hSs l
 | .nil,i,t,h=>by simp [lS] at h
 | .cons a r,0,t,h=>by simp only [lS,List.getElem?_cons_zero,Option.some.injEq] at h;subst h;simp only [hSs];omega
 | .cons a r,i+1,t,h=>by
   simp only [lS,List.getElem?_cons_succ] at h
   have:=NV r i t h;simp only [hSs];omega
theorem Ld.list {S:Nat→Prop} {σ:St} :∀{r:oO} {cs:List AV},Ld S σ cs r→cs.length=(lS r).length∧∀(i:Nat) (t:Sm),(lS r)[i]? =some t→∃a,cs[i]? =some a∧jH S σ a t
 | .nil,cs,h=>by have h:cs=[]:=h;subst h;exact⟨rfl,fun i t h=>by simp [lS] at h⟩
 | .cons t r,cs,h=>by
   obtain⟨a,tl,rfl,h1,h2⟩:=h
   obtain⟨h3,h4⟩:=Ld.list h2
   refine⟨by simp [lS,h3],fun i t' ht=>?_⟩
   cases i with
   | zero=>simp only [lS,List.getElem?_cons_zero,Option.some.injEq] at ht;subst ht;exact⟨a,rfl,h1⟩
   | succ i=>exact h4 i t' (by simpa [lS] using ht)
theorem dN.list {S:Nat→Prop} {σ:St} {A:AV} {t:Sm} {r:oO} (h:dN S σ A (.cons t r)):∃o g cs,A= .sl o g 0 cs.length 1∧σ[o]? =some ⟨g,false,.cells 102 cs⟩∧cs.length=(lS (.cons t r)).length∧∀(i:Nat) (x:Sm),(lS (.cons t r))[i]? =some x→∃a,cs[i]? =some a∧jH S σ a x:=by
 obtain⟨o,g,cs,_,hv,ho,a,tl,hc,hx,hl⟩:=h
 have h2:Ld S σ cs (.cons t r):=⟨a,tl,hc,hx,hl⟩
 obtain⟨h3,h4⟩:=h2.list
 exact⟨o,g,cs,hv,ho,h3,h4⟩
def TwoS (a b:AV):Prop:=(a= .sl0∧b= .sl0)∨∃o g n o' g' n',a= .sl o g 0 n 1∧b= .sl o' g' 0 n' 1
theorem dN.two {S S':Nat→Prop} {σ:St} {v x:AV} :∀{t:oO},dN S σ v t→dN S' σ x t→TwoS v x
 | .nil,h,k=>.inl ⟨h,k⟩
 | .cons ..,h,k=>by obtain⟨o,g,cs,_,hv,_⟩:=h;obtain⟨o',g',cs',_,hu,_⟩:=k;exact .inr ⟨o,g,_,o',g',_,hv,hu⟩
def smO (g k:Nat)(nm:List UInt8)(pt:Bool)(L R T E:AV)(ln:Nat):AO:=⟨g,false,.cells 114 [.i .i64 k,.s nm,.b pt,L,R,T,E,.i .i64 ln]⟩
def Lr (σ:St)(A:AV)(l:List (List UInt8×Bool)):Prop:=(A= .sl0∧l=[])∨∃o g,A= .sl o g 0 l.length 2∧σ[o]? =some ⟨g,false,.cells 97 (nD l)⟩
theorem gY.list {S:Nat→Prop} {σ:St} :∀{cs:List AV} {fs:List Fm},gY S σ cs fs→cs.length=fs.length∧∀(i:Nat) (f:Fm),fs[i]? =some f→∃a,cs[i]? =some a∧qp S σ a f
 | [],[],_=>⟨rfl,fun i f h=>by simp at h⟩
 | a :: cs,f :: fs,h=>by
   obtain⟨h1,h2⟩:=gY.list h.2.2
   refine⟨by simp [h1],fun i f' hf=>?_⟩
   cases i with
   | zero=>simp only [List.getElem?_cons_zero,Option.some.injEq] at hf;subst hf;exact⟨a,rfl,h.2.1⟩
   | succ i=>exact h2 i f' (by simpa using hf)
theorem rH.or {S:Nat→Prop} {σ:St} {A:AV} {l:List (List UInt8×Bool)} (h:rH S σ A l):Lr σ A l:=by
 rcases h with ⟨h1,h2⟩ | ⟨o,g,_,h2,h3⟩
 ·exact .inl ⟨h2,h1⟩
 ·exact .inr ⟨o,g,h2,h3⟩
theorem qy:∀(l:List (List UInt8×Bool)) (m:Nat) (q:List UInt8×Bool),l[m]? =some q→((nD l).drop (m*2)).take 2=[.s q.1,.b q.2]
 | x :: l,0,q,h=>by cases h;simp [nD]
 | x :: l,m+1,q,h=>by
   have e:nD (x :: l)=[.s x.1,.b x.2] ++ nD l:=rfl
   rw [e,show (m+1)*2=2+m*2 by omega,←List.drop_drop,List.drop_left' (by rfl)]
   exact qy l m q h
end Go.bG.YtjcicgkencfbgaaGreatDoor
namespace Go.bG.YtjcicgkencfbgaaGreatDoor
open Go.Proofs
set_option maxRecDepth 4000
theorem NW {a b f:AV} {k:Nat} (hf:f= .fn (.func k) [] [])(ha:a= .p0∨∃o g,a= .p o g 0)(hb:b= .p0∨∃o g,b= .p o g 0) {σ:St} {r:Bool} (h00:a= .p0→b= .p0→r=true)(h01:a= .p0→b≠.p0→r=false)(h10:a≠.p0→b= .p0→r=false)
 (h1:a≠.p0→b≠.p0→ay X k [a,b] σ fun v s=>v= .b r∧s=σ):ay X 118 [a,b,f] σ fun v s=>v= .b r∧s=σ:=by
 subst hf
 rcases ha with rfl | ⟨o,g,rfl⟩ <;> rcases hb with rfl | ⟨o2,g2,rfl⟩
 ·rw [h00 rfl rfl]
  refine ay.body (F:=PX) aF (lit:=false) rfl rfl (Nat.le_of_ble_eq_true rfl) ?_
  conv=>whnf
  exact Fin.flat rfl List.take_length ⟨rfl,rfl⟩
 ·rw [h01 rfl (by simp)]
  refine ay.body (F:=PX) aF (lit:=false) rfl rfl (Nat.le_of_ble_eq_true rfl) ?_
  conv=>whnf
  exact Fin.flat rfl List.take_length ⟨rfl,rfl⟩
 ·rw [h10 (by simp) rfl]
  refine ay.body (F:=PX) aF (lit:=false) rfl rfl (Nat.le_of_ble_eq_true rfl) ?_
  conv=>whnf
  exact Fin.flat rfl List.take_length ⟨rfl,rfl⟩
 ·have h1:=h1 (by simp) (by simp)
  refine ay.body (F:=PX) aF (lit:=false) rfl rfl (Nat.le_of_ble_eq_true rfl) ?_
  conv=>whnf
  refine ay.to h1 ?_
  cases r
  all_goals
   conv=>whnf
   exact Fin.flat rfl List.take_length ⟨rfl,rfl⟩
theorem both_s {a b f:AV} {k:Nat} (hf:f= .fn (.func k) [] [])(ha:a= .p0∨∃o g,a= .p o g 0)(hb:b= .p0∨∃o g,b= .p o g 0) {σ:St} {r:Bool} (h00:a= .p0→b= .p0→r=true)(h01:a= .p0→b≠.p0→r=false)(h10:a≠.p0→b= .p0→r=false)
 (h1:a≠.p0→b≠.p0→ay X k [a,b] σ fun v s=>v= .b r∧s=σ):ay X 86 [a,b,f] σ fun v s=>v= .b r∧s=σ:=by
 subst hf
 rcases ha with rfl | ⟨o,g,rfl⟩ <;> rcases hb with rfl | ⟨o2,g2,rfl⟩
 ·rw [h00 rfl rfl]
  refine ay.body (F:=F86) aF (lit:=false) rfl rfl (Nat.le_of_ble_eq_true rfl) ?_
  conv=>whnf
  exact Fin.flat rfl List.take_length ⟨rfl,rfl⟩
 ·rw [h01 rfl (by simp)]
  refine ay.body (F:=F86) aF (lit:=false) rfl rfl (Nat.le_of_ble_eq_true rfl) ?_
  conv=>whnf
  exact Fin.flat rfl List.take_length ⟨rfl,rfl⟩
 ·rw [h10 (by simp) rfl]
  refine ay.body (F:=F86) aF (lit:=false) rfl rfl (Nat.le_of_ble_eq_true rfl) ?_
  conv=>whnf
  exact Fin.flat rfl List.take_length ⟨rfl,rfl⟩
 ·have h1:=h1 (by simp) (by simp)
  refine ay.body (F:=F86) aF (lit:=false) rfl rfl (Nat.le_of_ble_eq_true rfl) ?_
  conv=>whnf
  refine ay.to h1 ?_
  cases r
  all_goals
   conv=>whnf
   exact Fin.flat rfl List.take_length ⟨rfl,rfl⟩
theorem both_f {a b f:AV} {k:Nat} (hf:f= .fn (.func k) [] [])(ha:a= .p0∨∃o g,a= .p o g 0)(hb:b= .p0∨∃o g,b= .p o g 0) {σ:St} {r:Bool} (h00:a= .p0→b= .p0→r=true)(h01:a= .p0→b≠.p0→r=false)(h10:a≠.p0→b= .p0→r=false)
 (h1:a≠.p0→b≠.p0→ay X k [a,b] σ fun v s=>v= .b r∧s=σ):ay X 48 [a,b,f] σ fun v s=>v= .b r∧s=σ:=by
 subst hf
 rcases ha with rfl | ⟨o,g,rfl⟩ <;> rcases hb with rfl | ⟨o2,g2,rfl⟩
 ·rw [h00 rfl rfl]
  refine ay.body (F:=F48) aF (lit:=false) rfl rfl (Nat.le_of_ble_eq_true rfl) ?_
  conv=>whnf
  exact Fin.flat rfl List.take_length ⟨rfl,rfl⟩
 ·rw [h01 rfl (by simp)]
  refine ay.body (F:=F48) aF (lit:=false) rfl rfl (Nat.le_of_ble_eq_true rfl) ?_
  conv=>whnf
  exact Fin.flat rfl List.take_length ⟨rfl,rfl⟩
 ·rw [h10 (by simp) rfl]
  refine ay.body (F:=F48) aF (lit:=false) rfl rfl (Nat.le_of_ble_eq_true rfl) ?_
  conv=>whnf
  exact Fin.flat rfl List.take_length ⟨rfl,rfl⟩
 ·have h1:=h1 (by simp) (by simp)
  refine ay.body (F:=F48) aF (lit:=false) rfl rfl (Nat.le_of_ble_eq_true rfl) ?_
  conv=>whnf
  refine ay.to h1 ?_
  cases r
  all_goals
   conv=>whnf
   exact Fin.flat rfl List.take_length ⟨rfl,rfl⟩
theorem I9 {a b f:AV} {k:Nat} (hf:f= .fn (.func k) [] [])(ha:a= .p0∨∃o g,a= .p o g 0)(hb:b= .p0∨∃o g,b= .p o g 0) {σ:St} {r:Bool} (h00:a= .p0→b= .p0→r=true)(h01:a= .p0→b≠.p0→r=false)(h10:a≠.p0→b= .p0→r=false)
 (h1:a≠.p0→b≠.p0→ay X k [a,b] σ fun v s=>v= .b r∧s=σ):ay X 17 [a,b,f] σ fun v s=>v= .b r∧s=σ:=by
 subst hf
 rcases ha with rfl | ⟨o,g,rfl⟩ <;> rcases hb with rfl | ⟨o2,g2,rfl⟩
 ·rw [h00 rfl rfl]
  refine ay.body (F:=F17) aF (lit:=false) rfl rfl (Nat.le_of_ble_eq_true rfl) ?_
  conv=>whnf
  exact Fin.flat rfl List.take_length ⟨rfl,rfl⟩
 ·rw [h01 rfl (by simp)]
  refine ay.body (F:=F17) aF (lit:=false) rfl rfl (Nat.le_of_ble_eq_true rfl) ?_
  conv=>whnf
  exact Fin.flat rfl List.take_length ⟨rfl,rfl⟩
 ·rw [h10 (by simp) rfl]
  refine ay.body (F:=F17) aF (lit:=false) rfl rfl (Nat.le_of_ble_eq_true rfl) ?_
  conv=>whnf
  exact Fin.flat rfl List.take_length ⟨rfl,rfl⟩
 ·have h1:=h1 (by simp) (by simp)
  refine ay.body (F:=F17) aF (lit:=false) rfl rfl (Nat.le_of_ble_eq_true rfl) ?_
  conv=>whnf
  refine ay.to h1 ?_
  cases r
  all_goals
   conv=>whnf
   exact Fin.flat rfl List.take_length ⟨rfl,rfl⟩
end Go.bG.YtjcicgkencfbgaaGreatDoor
namespace Go.bG.YtjcicgkencfbgaaGreatDoor
open Go.Proofs
set_option maxRecDepth 4000
section
variable {f:Nat} {σ:St} {o1 g1 o2 g2:Nat} {cs ds:List AV}
theorem NY (h1:σ[o1]? =some ⟨g1,false,.cells 62 cs⟩)(h2:σ[o2]? =some ⟨g2,false,.cells 62 ds⟩)(hl:cs.length=ds.length)(hb:cs.length≤100000)(hp1:∀(i:Nat) (a:AV),cs[i]? =some a→a= .p0∨∃o g,a= .p o g 0)(hp2:∀(i:Nat) (a:AV),ds[i]? =some a→a= .p0∨∃o g,a= .p o g 0)(R:Nat→Bool)
 (hR:∀(i:Nat) (a b:AV),cs[i]? =some a→ds[i]? =some b→ay X f [a,b] σ fun v s=>v= .b (R i)∧s=σ) {Q:Out→Env→St→Prop}
 (q1:(∀i,i<cs.length→R i=true)→∀e',get e' 1000000= .u→Q (.exit 0) e' σ) (q2:(∃i,i<cs.length∧R i=false)→∀e',get e' 6= .b false→Q .ret e' σ):∀(k m:Nat),m+k=cs.length→(∀i,i<m→R i=true)→
 aS X [1,2,15,16,17] S9 [(1,.sl o2 g2 0 ds.length 1),(2,.fn (.func f) [] []),(15,.sl o1 g1 0 cs.length 1),(16,.i .i64 cs.length),(17,.i .i64 m)] σ Q:=by
 intro k
 induction k with
 | zero=>
   intro m hm hall
   refine aS.round aF (lit:=false) ?_
   conv=>whnf
   rw [decide_eq_false (by omega)]
   conv=>whnf
   conv=>whnf
   exact q1 (fun i hi=>hall i (by omega)) _ rfl
 | succ k ih=>
   intro m hm hall
   obtain⟨a,ha⟩:∃a,cs[m]? =some a:=⟨_,List.getElem?_eq_getElem (by omega)⟩
   obtain⟨b,hb'⟩:∃b,ds[m]? =some b:=⟨_,List.getElem?_eq_getElem (by omega)⟩
   have hr:=hR m a b ha hb'
   have ha':cs[0+m*1]? =some a:=by rw [Nat.zero_add,Nat.mul_one];exact ha
   have EG:ds[0+m*1]? =some b:=by rw [Nat.zero_add,Nat.mul_one];exact hb'
   rcases hp1 m a ha with rfl | ⟨oa,ga,rfl⟩ <;> rcases hp2 m b hb' with rfl | ⟨ob,gb,rfl⟩
   all_goals
    refine aS.round aF (lit:=false) ?_
    conv=>whnf
    rw [decide_eq_true (by omega)]
    conv=>whnf
    conv=>whnf
    refine⟨m,rfl,by omega,?_⟩
    conv=>whnf
    refine ak (aj (T:=bC) rfl rfl (ah h1) ha') ?_
    conv=>whnf
    refine⟨m,rfl,by omega,?_⟩
    conv=>whnf
    refine ak (aj (T:=bC) rfl rfl (ah h2) EG) ?_
    conv=>whnf
    refine ay.to hr ?_
    cases hm':R m with
    | true=>
      conv=>whnf
      refine⟨((m+1:Nat):Int),wrap_i64 (by omega) (by omega),?_⟩
      conv=>whnf
      exact ih (m+1) (by omega) fun i hi=>by
       rcases Nat.lt_or_ge i m with h | h
       ·exact hall i h
       ·obtain rfl:i=m:=by omega
        exact hm'
    | false=>
      conv=>whnf
      exact q2 ⟨m,by omega,hm'⟩ _ rfl
end
section
variable {f:Nat} {σ:St} {o1 g1 o2 g2:Nat} {cs ds:List AV}
theorem NZ (h1:σ[o1]? =some ⟨g1,false,.cells 102 cs⟩)(h2:σ[o2]? =some ⟨g2,false,.cells 102 ds⟩)(hl:cs.length=ds.length)(hb:cs.length≤100000)(hp1:∀(i:Nat) (a:AV),cs[i]? =some a→a= .p0∨∃o g,a= .p o g 0)(hp2:∀(i:Nat) (a:AV),ds[i]? =some a→a= .p0∨∃o g,a= .p o g 0)(R:Nat→Bool)
 (hR:∀(i:Nat) (a b:AV),cs[i]? =some a→ds[i]? =some b→ay X f [a,b] σ fun v s=>v= .b (R i)∧s=σ) {Q:Out→Env→St→Prop}
 (q1:(∀i,i<cs.length→R i=true)→∀e',get e' 1000000= .u→Q (.exit 0) e' σ) (q2:(∃i,i<cs.length∧R i=false)→∀e',get e' 6= .b false→Q .ret e' σ):∀(k m:Nat),m+k=cs.length→(∀i,i<m→R i=true)→
 aS X [1,2,15,16,17] Y9 [(1,.sl o2 g2 0 ds.length 1),(2,.fn (.func f) [] []),(15,.sl o1 g1 0 cs.length 1),(16,.i .i64 cs.length),(17,.i .i64 m)] σ Q:=by
 intro k
 induction k with
 | zero=>
   intro m hm hall
   refine aS.round aF (lit:=false) ?_
   conv=>whnf
   rw [decide_eq_false (by omega)]
   conv=>whnf
   conv=>whnf
   exact q1 (fun i hi=>hall i (by omega)) _ rfl
 | succ k ih=>
   intro m hm hall
   obtain⟨a,ha⟩:∃a,cs[m]? =some a:=⟨_,List.getElem?_eq_getElem (by omega)⟩
   obtain⟨b,hb'⟩:∃b,ds[m]? =some b:=⟨_,List.getElem?_eq_getElem (by omega)⟩
   have hr:=hR m a b ha hb'
   have ha':cs[0+m*1]? =some a:=by rw [Nat.zero_add,Nat.mul_one];exact ha
   have EG:ds[0+m*1]? =some b:=by rw [Nat.zero_add,Nat.mul_one];exact hb'
   rcases hp1 m a ha with rfl | ⟨oa,ga,rfl⟩ <;> rcases hp2 m b hb' with rfl | ⟨ob,gb,rfl⟩
   all_goals
    refine aS.round aF (lit:=false) ?_
    conv=>whnf
    rw [decide_eq_true (by omega)]
    conv=>whnf
    conv=>whnf
    refine⟨m,rfl,by omega,?_⟩
    conv=>whnf
    refine ak (aj (T:=bZ) rfl rfl (ah h1) ha') ?_
    conv=>whnf
    refine⟨m,rfl,by omega,?_⟩
    conv=>whnf
    refine ak (aj (T:=bZ) rfl rfl (ah h2) EG) ?_
    conv=>whnf
    refine ay.to hr ?_
    cases hm':R m with
    | true=>
      conv=>whnf
      refine⟨((m+1:Nat):Int),wrap_i64 (by omega) (by omega),?_⟩
      conv=>whnf
      exact ih (m+1) (by omega) fun i hi=>by
       rcases Nat.lt_or_ge i m with h | h
       ·exact hall i h
       ·obtain rfl:i=m:=by omega
        exact hm'
    | false=>
      conv=>whnf
      exact q2 ⟨m,by omega,hm'⟩ _ rfl
end
section
variable {f:Nat} {σ:St} {o1 g1 o2 g2:Nat} {cs ds:List AV}
theorem N7 (h1:σ[o1]? =some ⟨g1,false,.cells 54 cs⟩)(h2:σ[o2]? =some ⟨g2,false,.cells 54 ds⟩)(hl:cs.length=ds.length)(hb:cs.length≤100000)(hp1:∀(i:Nat) (a:AV),cs[i]? =some a→a= .p0∨∃o g,a= .p o g 0)(hp2:∀(i:Nat) (a:AV),ds[i]? =some a→a= .p0∨∃o g,a= .p o g 0)(R:Nat→Bool)
 (hR:∀(i:Nat) (a b:AV),cs[i]? =some a→ds[i]? =some b→ay X f [a,b] σ fun v s=>v= .b (R i)∧s=σ) {Q:Out→Env→St→Prop}
 (q1:(∀i,i<cs.length→R i=true)→∀e',get e' 1000000= .u→Q (.exit 0) e' σ) (q2:(∃i,i<cs.length∧R i=false)→∀e',get e' 6= .b false→Q .ret e' σ):∀(k m:Nat),m+k=cs.length→(∀i,i<m→R i=true)→
 aS X [1,2,15,16,17] Y1 [(1,.sl o2 g2 0 ds.length 1),(2,.fn (.func f) [] []),(15,.sl o1 g1 0 cs.length 1),(16,.i .i64 cs.length),(17,.i .i64 m)] σ Q:=by
 intro k
 induction k with
 | zero=>
   intro m hm hall
   refine aS.round aF (lit:=false) ?_
   conv=>whnf
   rw [decide_eq_false (by omega)]
   conv=>whnf
   conv=>whnf
   exact q1 (fun i hi=>hall i (by omega)) _ rfl
 | succ k ih=>
   intro m hm hall
   obtain⟨a,ha⟩:∃a,cs[m]? =some a:=⟨_,List.getElem?_eq_getElem (by omega)⟩
   obtain⟨b,hb'⟩:∃b,ds[m]? =some b:=⟨_,List.getElem?_eq_getElem (by omega)⟩
   have hr:=hR m a b ha hb'
   have ha':cs[0+m*1]? =some a:=by rw [Nat.zero_add,Nat.mul_one];exact ha
   have EG:ds[0+m*1]? =some b:=by rw [Nat.zero_add,Nat.mul_one];exact hb'
   rcases hp1 m a ha with rfl | ⟨oa,ga,rfl⟩ <;> rcases hp2 m b hb' with rfl | ⟨ob,gb,rfl⟩
   all_goals
    refine aS.round aF (lit:=false) ?_
    conv=>whnf
    rw [decide_eq_true (by omega)]
    conv=>whnf
    conv=>whnf
    refine⟨m,rfl,by omega,?_⟩
    conv=>whnf
    refine ak (aj (T:=eu) rfl rfl (ah h1) ha') ?_
    conv=>whnf
    refine⟨m,rfl,by omega,?_⟩
    conv=>whnf
    refine ak (aj (T:=eu) rfl rfl (ah h2) EG) ?_
    conv=>whnf
    refine ay.to hr ?_
    cases hm':R m with
    | true=>
      conv=>whnf
      refine⟨((m+1:Nat):Int),wrap_i64 (by omega) (by omega),?_⟩
      conv=>whnf
      exact ih (m+1) (by omega) fun i hi=>by
       rcases Nat.lt_or_ge i m with h | h
       ·exact hall i h
       ·obtain rfl:i=m:=by omega
        exact hm'
    | false=>
      conv=>whnf
      exact q2 ⟨m,by omega,hm'⟩ _ rfl
end
end Go.bG.YtjcicgkencfbgaaGreatDoor
namespace Go.bG.YtjcicgkencfbgaaGreatDoor
open Go.Proofs
set_option maxRecDepth 4000
def lT (e:Nat)(σ:St)(v:AV)(cs:List AV):Prop:=(cs=[]∧v= .sl0)∨∃o g,v= .sl o g 0 cs.length 1∧σ[o]? =some ⟨g,false,.cells e cs⟩
theorem eqf_e {f:Nat} {σ:St} {va vb:AV} {cs ds:List AV} (ha:lT 62 σ va cs)(hb:lT 62 σ vb ds)(hbc:cs.length≤100000)(hbd:ds.length≤100000)(hp1:∀(i:Nat) (a:AV),cs[i]? =some a→a= .p0∨∃o g,a= .p o g 0)(hp2:∀(i:Nat) (a:AV),ds[i]? =some a→a= .p0∨∃o g,a= .p o g 0)(R:Nat→Bool)
 (hR:∀(i:Nat) (a b:AV),cs[i]? =some a→ds[i]? =some b→ay X f [a,b] σ fun v s=>v= .b (R i)∧s=σ) {r:Bool}
 (r1:cs.length=ds.length→(∀i,i<cs.length→R i=true)→r=true) (r2:cs.length≠ds.length→r=false) (r3:(∃i,i<cs.length∧R i=false)→r=false) :
 ay X 120 [va,vb,.fn (.func f) [] []] σ fun v s=>v= .b r∧s=σ:=by
 rcases ha with ⟨rfl,rfl⟩ | ⟨o1,g1,rfl,h1⟩ <;> rcases hb with ⟨rfl,rfl⟩ | ⟨o2,g2,rfl,h2⟩
 ·rw [r1 rfl (fun i hi=>absurd hi (Nat.not_lt_zero i))]
  refine ay.body (F:=H8) aF (lit:=false) rfl rfl (Nat.le_of_ble_eq_true rfl) ?_
  conv=>whnf
  refine aS.round aF (lit:=false) ?_
  conv=>whnf
  exact Fin.flat rfl List.take_length ⟨rfl,rfl⟩
 ·by_cases hl:0=ds.length
  ·rw [r1 hl (fun i hi=>absurd hi (Nat.not_lt_zero i))]
   refine ay.body (F:=H8) aF (lit:=false) rfl rfl (Nat.le_of_ble_eq_true rfl) ?_
   conv=>whnf
   rw [decide_eq_true (by omega)]
   conv=>whnf
   refine aS.round aF (lit:=false) ?_
   conv=>whnf
   exact Fin.flat rfl List.take_length ⟨rfl,rfl⟩
  ·rw [r2 hl]
   refine ay.body (F:=H8) aF (lit:=false) rfl rfl (Nat.le_of_ble_eq_true rfl) ?_
   conv=>whnf
   rw [decide_eq_false (by omega)]
   conv=>whnf
   exact Fin.flat rfl List.take_length ⟨rfl,rfl⟩
 ·by_cases hl:cs.length=0
  ·rw [r1 hl (fun i hi=>by omega)]
   refine ay.body (F:=H8) aF (lit:=false) rfl rfl (Nat.le_of_ble_eq_true rfl) ?_
   conv=>whnf
   rw [decide_eq_true (by omega)]
   conv=>whnf
   refine aS.round aF (lit:=false) ?_
   conv=>whnf
   rw [decide_eq_false (by omega)]
   conv=>whnf
   conv=>whnf
   exact Fin.flat rfl List.take_length ⟨rfl,rfl⟩
  ·rw [r2 hl]
   refine ay.body (F:=H8) aF (lit:=false) rfl rfl (Nat.le_of_ble_eq_true rfl) ?_
   conv=>whnf
   rw [decide_eq_false (by omega)]
   conv=>whnf
   exact Fin.flat rfl List.take_length ⟨rfl,rfl⟩
 ·by_cases hl:cs.length=ds.length
  ·refine ay.body (F:=H8) aF (lit:=false) rfl rfl (Nat.le_of_ble_eq_true rfl) ?_
   conv=>whnf
   rw [decide_eq_true (by omega)]
   conv=>whnf
   refine NY h1 h2 hl hbc hp1 hp2 R hR (fun hall e' hu=>?_) (fun hex e' h6=>?_) cs.length 0 (by omega) (fun i hi=>absurd hi (Nat.not_lt_zero i))
   ·rw [r1 hl hall]
    conv=>whnf
    exact Fin.flat rfl List.take_length ⟨rfl,rfl⟩
   ·rw [r3 hex]
    conv=>whnf
    rw [h6]
    conv=>whnf
    exact Fin.flat rfl List.take_length ⟨rfl,rfl⟩
  ·rw [r2 hl]
   refine ay.body (F:=H8) aF (lit:=false) rfl rfl (Nat.le_of_ble_eq_true rfl) ?_
   conv=>whnf
   rw [decide_eq_false (by omega)]
   conv=>whnf
   exact Fin.flat rfl List.take_length ⟨rfl,rfl⟩
theorem eqf_s {f:Nat} {σ:St} {va vb:AV} {cs ds:List AV} (ha:lT 102 σ va cs)(hb:lT 102 σ vb ds)(hbc:cs.length≤100000)(hbd:ds.length≤100000)(hp1:∀(i:Nat) (a:AV),cs[i]? =some a→a= .p0∨∃o g,a= .p o g 0)(hp2:∀(i:Nat) (a:AV),ds[i]? =some a→a= .p0∨∃o g,a= .p o g 0)(R:Nat→Bool)
 (hR:∀(i:Nat) (a b:AV),cs[i]? =some a→ds[i]? =some b→ay X f [a,b] σ fun v s=>v= .b (R i)∧s=σ) {r:Bool}
 (r1:cs.length=ds.length→(∀i,i<cs.length→R i=true)→r=true) (r2:cs.length≠ds.length→r=false) (r3:(∃i,i<cs.length∧R i=false)→r=false) :
 ay X 51 [va,vb,.fn (.func f) [] []] σ fun v s=>v= .b r∧s=σ:=by
 rcases ha with ⟨rfl,rfl⟩ | ⟨o1,g1,rfl,h1⟩ <;> rcases hb with ⟨rfl,rfl⟩ | ⟨o2,g2,rfl,h2⟩
 ·rw [r1 rfl (fun i hi=>absurd hi (Nat.not_lt_zero i))]
  refine ay.body (F:=Xj) aF (lit:=false) rfl rfl (Nat.le_of_ble_eq_true rfl) ?_
  conv=>whnf
  refine aS.round aF (lit:=false) ?_
  conv=>whnf
  exact Fin.flat rfl List.take_length ⟨rfl,rfl⟩
 ·by_cases hl:0=ds.length
  ·rw [r1 hl (fun i hi=>absurd hi (Nat.not_lt_zero i))]
   refine ay.body (F:=Xj) aF (lit:=false) rfl rfl (Nat.le_of_ble_eq_true rfl) ?_
   conv=>whnf
   rw [decide_eq_true (by omega)]
   conv=>whnf
   refine aS.round aF (lit:=false) ?_
   conv=>whnf
   exact Fin.flat rfl List.take_length ⟨rfl,rfl⟩
  ·rw [r2 hl]
   refine ay.body (F:=Xj) aF (lit:=false) rfl rfl (Nat.le_of_ble_eq_true rfl) ?_
   conv=>whnf
   rw [decide_eq_false (by omega)]
   conv=>whnf
   exact Fin.flat rfl List.take_length ⟨rfl,rfl⟩
 ·by_cases hl:cs.length=0
  ·rw [r1 hl (fun i hi=>by omega)]
   refine ay.body (F:=Xj) aF (lit:=false) rfl rfl (Nat.le_of_ble_eq_true rfl) ?_
   conv=>whnf
   rw [decide_eq_true (by omega)]
   conv=>whnf
   refine aS.round aF (lit:=false) ?_
   conv=>whnf
   rw [decide_eq_false (by omega)]
   conv=>whnf
   conv=>whnf
   exact Fin.flat rfl List.take_length ⟨rfl,rfl⟩
  ·rw [r2 hl]
   refine ay.body (F:=Xj) aF (lit:=false) rfl rfl (Nat.le_of_ble_eq_true rfl) ?_
   conv=>whnf
   rw [decide_eq_false (by omega)]
   conv=>whnf
   exact Fin.flat rfl List.take_length ⟨rfl,rfl⟩
 ·by_cases hl:cs.length=ds.length
  ·refine ay.body (F:=Xj) aF (lit:=false) rfl rfl (Nat.le_of_ble_eq_true rfl) ?_
   conv=>whnf
   rw [decide_eq_true (by omega)]
   conv=>whnf
   refine NZ h1 h2 hl hbc hp1 hp2 R hR (fun hall e' hu=>?_) (fun hex e' h6=>?_) cs.length 0 (by omega) (fun i hi=>absurd hi (Nat.not_lt_zero i))
   ·rw [r1 hl hall]
    conv=>whnf
    exact Fin.flat rfl List.take_length ⟨rfl,rfl⟩
   ·rw [r3 hex]
    conv=>whnf
    rw [h6]
    conv=>whnf
    exact Fin.flat rfl List.take_length ⟨rfl,rfl⟩
  ·rw [r2 hl]
   refine ay.body (F:=Xj) aF (lit:=false) rfl rfl (Nat.le_of_ble_eq_true rfl) ?_
   conv=>whnf
   rw [decide_eq_false (by omega)]
   conv=>whnf
   exact Fin.flat rfl List.take_length ⟨rfl,rfl⟩
theorem eqf_f {f:Nat} {σ:St} {va vb:AV} {cs ds:List AV} (ha:lT 54 σ va cs)(hb:lT 54 σ vb ds)(hbc:cs.length≤100000)(hbd:ds.length≤100000)(hp1:∀(i:Nat) (a:AV),cs[i]? =some a→a= .p0∨∃o g,a= .p o g 0)(hp2:∀(i:Nat) (a:AV),ds[i]? =some a→a= .p0∨∃o g,a= .p o g 0)(R:Nat→Bool)
 (hR:∀(i:Nat) (a b:AV),cs[i]? =some a→ds[i]? =some b→ay X f [a,b] σ fun v s=>v= .b (R i)∧s=σ) {r:Bool}
 (r1:cs.length=ds.length→(∀i,i<cs.length→R i=true)→r=true) (r2:cs.length≠ds.length→r=false) (r3:(∃i,i<cs.length∧R i=false)→r=false) :
 ay X 19 [va,vb,.fn (.func f) [] []] σ fun v s=>v= .b r∧s=σ:=by
 rcases ha with ⟨rfl,rfl⟩ | ⟨o1,g1,rfl,h1⟩ <;> rcases hb with ⟨rfl,rfl⟩ | ⟨o2,g2,rfl,h2⟩
 ·rw [r1 rfl (fun i hi=>absurd hi (Nat.not_lt_zero i))]
  refine ay.body (F:=Xh) aF (lit:=false) rfl rfl (Nat.le_of_ble_eq_true rfl) ?_
  conv=>whnf
  refine aS.round aF (lit:=false) ?_
  conv=>whnf
  exact Fin.flat rfl List.take_length ⟨rfl,rfl⟩
 ·by_cases hl:0=ds.length
  ·rw [r1 hl (fun i hi=>absurd hi (Nat.not_lt_zero i))]
   refine ay.body (F:=Xh) aF (lit:=false) rfl rfl (Nat.le_of_ble_eq_true rfl) ?_
   conv=>whnf
   rw [decide_eq_true (by omega)]
   conv=>whnf
   refine aS.round aF (lit:=false) ?_
   conv=>whnf
   exact Fin.flat rfl List.take_length ⟨rfl,rfl⟩
  ·rw [r2 hl]
   refine ay.body (F:=Xh) aF (lit:=false) rfl rfl (Nat.le_of_ble_eq_true rfl) ?_
   conv=>whnf
   rw [decide_eq_false (by omega)]
   conv=>whnf
   exact Fin.flat rfl List.take_length ⟨rfl,rfl⟩
 ·by_cases hl:cs.length=0
  ·rw [r1 hl (fun i hi=>by omega)]
   refine ay.body (F:=Xh) aF (lit:=false) rfl rfl (Nat.le_of_ble_eq_true rfl) ?_
   conv=>whnf
   rw [decide_eq_true (by omega)]
   conv=>whnf
   refine aS.round aF (lit:=false) ?_
   conv=>whnf
   rw [decide_eq_false (by omega)]
   conv=>whnf
   conv=>whnf
   exact Fin.flat rfl List.take_length ⟨rfl,rfl⟩
  ·rw [r2 hl]
   refine ay.body (F:=Xh) aF (lit:=false) rfl rfl (Nat.le_of_ble_eq_true rfl) ?_
   conv=>whnf
   rw [decide_eq_false (by omega)]
   conv=>whnf
   exact Fin.flat rfl List.take_length ⟨rfl,rfl⟩
 ·by_cases hl:cs.length=ds.length
  ·refine ay.body (F:=Xh) aF (lit:=false) rfl rfl (Nat.le_of_ble_eq_true rfl) ?_
   conv=>whnf
   rw [decide_eq_true (by omega)]
   conv=>whnf
   refine N7 h1 h2 hl hbc hp1 hp2 R hR (fun hall e' hu=>?_) (fun hex e' h6=>?_) cs.length 0 (by omega) (fun i hi=>absurd hi (Nat.not_lt_zero i))
   ·rw [r1 hl hall]
    conv=>whnf
    exact Fin.flat rfl List.take_length ⟨rfl,rfl⟩
   ·rw [r3 hex]
    conv=>whnf
    rw [h6]
    conv=>whnf
    exact Fin.flat rfl List.take_length ⟨rfl,rfl⟩
  ·rw [r2 hl]
   refine ay.body (F:=Xh) aF (lit:=false) rfl rfl (Nat.le_of_ble_eq_true rfl) ?_
   conv=>whnf
   rw [decide_eq_false (by omega)]
   conv=>whnf
   exact Fin.flat rfl List.take_length ⟨rfl,rfl⟩
end Go.bG.YtjcicgkencfbgaaGreatDoor
namespace Go.bG.YtjcicgkencfbgaaGreatDoor
open Go.Proofs
set_option maxRecDepth 4000
theorem YG {k n ln k' n' AQ:Nat} {nm tx nm' Mc:List UInt8} {σ:St} {o1 g1 o2 g2:Nat} {L1 R1 A1 L2 R2 A2:AV} (h1:σ[o1]? =some (exO g1 k n nm tx L1 R1 A1 ln))(h2:σ[o2]? =some (exO g2 k' n' nm' Mc L2 R2 A2 AQ))
 {ra rl rr:Bool} (ca:ay X 120 [A1,A2,.fn (.func 88) [] []] σ fun v s=>v= .b ra∧s=σ) (cl:ay X 88 [L1,L2] σ fun v s=>v= .b rl∧s=σ) (cr:ay X 88 [R1,R2] σ fun v s=>v= .b rr∧s=σ) :
 ay X 119 [.p o1 g1 0,.p o2 g2 0] σ fun v s=>v= .b ((k == k' && n == n' && nm == nm' && tx == Mc) && (ra && rl && rr))∧s=σ:=by
 generalize hR:((k == k' && n == n' && nm == nm' && tx == Mc) && (ra && rl && rr))=R
 have fin:∀{b:Bool},b=R→Fin σ (.b b) σ fun v s=>v= .b R∧s=σ:=fun h=>by
  subst h;exact Fin.flat rfl List.take_length ⟨rfl,rfl⟩
 refine ay.body (F:=ZX) aF (lit:=false) rfl rfl (Nat.le_of_ble_eq_true rfl) ?_
 conv=>whnf
 refine ak (aj (T:=dA) rfl rfl (ah (h1)) rfl) ?_
 conv=>whnf
 refine ak (aj (T:=dA) rfl rfl (ah (h2)) rfl) ?_
 conv=>whnf
 by_cases hk:k=k'
 case' neg=>
  rw [decide_eq_false (by omega)]
  conv=>whnf
  conv=>whnf
  exact fin (by rw [←hR];simp [hk])
 rw [decide_eq_true (by omega)]
 conv=>whnf
 conv=>whnf
 refine ak (aj (T:=TP) rfl rfl (ah (h1)) rfl) ?_
 conv=>whnf
 refine ak (aj (T:=TP) rfl rfl (ah (h2)) rfl) ?_
 conv=>whnf
 by_cases hn:n=n'
 case' neg=>
  rw [decide_eq_false (by omega)]
  conv=>whnf
  conv=>whnf
  exact fin (by rw [←hR];simp [hn])
 rw [decide_eq_true (by omega)]
 conv=>whnf
 conv=>whnf
 refine ak (aj (T:=eG) rfl rfl (ah (h1)) rfl) ?_
 conv=>whnf
 refine ak (aj (T:=eG) rfl rfl (ah (h2)) rfl) ?_
 conv=>whnf
 cases hnm:nm == nm'
 case' false=>
  conv=>whnf
  exact fin (by rw [←hR];simp [hnm])
 conv=>whnf
 refine ak (aj (T:=eG) rfl rfl (ah (h1)) rfl) ?_
 conv=>whnf
 refine ak (aj (T:=eG) rfl rfl (ah (h2)) rfl) ?_
 conv=>whnf
 cases htx:tx == Mc
 case' false=>
  conv=>whnf
  exact fin (by rw [←hR];simp [htx])
 conv=>whnf
 refine ak (aj (T:=ji) rfl rfl (ah h1) rfl) ?_
 refine bU _ _ ?_
 conv=>whnf
 refine ak (aj (T:=ji) rfl rfl (ah h2) rfl) ?_
 refine bU _ _ ?_
 refine dW _ _ ?_
 refine ay.to ca ?_
 cases ra
 case' false=>
  conv=>whnf
  exact fin (by rw [←hR];simp)
 conv=>whnf
 refine ak (aj (T:=bC) rfl rfl (ah h1) rfl) ?_
 refine bU _ _ ?_
 conv=>whnf
 refine ak (aj (T:=bC) rfl rfl (ah h2) rfl) ?_
 refine bU _ _ ?_
 refine dW _ _ ?_
 refine ay.to cl ?_
 cases rl
 case' false=>
  conv=>whnf
  exact fin (by rw [←hR];simp)
 conv=>whnf
 refine ak (aj (T:=bC) rfl rfl (ah h1) rfl) ?_
 refine bU _ _ ?_
 conv=>whnf
 refine ak (aj (T:=bC) rfl rfl (ah h2) rfl) ?_
 refine bU _ _ ?_
 refine dW _ _ ?_
 refine ay.to cr ?_
 cases rr
 case' false=>
  conv=>whnf
  exact fin (by rw [←hR];simp)
 conv=>whnf
 exact fin (by rw [←hR,hnm,htx];simp [hk,hn])
theorem EH {a b:AV} {σ:St} {r:Bool} (ha:a= .p0∨∃o g,a= .p o g 0)(hb:b= .p0∨∃o g,b= .p o g 0)(h:ay X 118 [a,b,.fn (.func 119) [] []] σ fun v s=>v= .b r∧s=σ):ay X 88 [a,b] σ fun v s=>v= .b r∧s=σ:=by
 rcases ha with rfl | ⟨_,_,rfl⟩ <;> rcases hb with rfl | ⟨_,_,rfl⟩
 all_goals
  refine ay.body (F:=F88) aF (lit:=false) rfl rfl (Nat.le_of_ble_eq_true rfl) ?_
  conv=>whnf
  refine ay.to h ?_
  cases r
  all_goals
   conv=>whnf
   exact Fin.flat rfl List.take_length ⟨rfl,rfl⟩
theorem kJ.lies {S:Nat→Prop} {σ:St} {A:AV} :∀{r:rF},kJ S σ A r→∃cs,lT 62 σ A cs∧cs.length=(mO r).length∧∀(i:Nat) (a:AV),cs[i]? =some a→∃t,(mO r)[i]? =some t∧bK S σ a t
 | .nil,h=>⟨[],.inl ⟨rfl,h⟩,rfl,fun i a h=>by simp at h⟩
 | .cons t r,h=>by
   obtain⟨o,g,cs,h1,h2,h3,h4⟩:=h.list
   refine⟨cs,.inr ⟨o,g,h1,h2⟩,h3,fun i a ha=>?_⟩
   have hi:=(List.getElem?_eq_some_iff.1 ha).1
   obtain⟨y,hy⟩:∃y,(mO (.cons t r))[i]? =some y:=⟨_,List.getElem?_eq_getElem (by omega)⟩
   obtain⟨a',ha',hx⟩:=h4 i y hy
   rw [ha] at ha'
   cases ha'
   exact⟨y,hy,hx⟩
def rowT (a b:rF)(i:Nat):Bool:=match (mO a)[i]?,(mO b)[i]? with
 | some x,some y=>jT x y
 | _,_=>false
theorem vw {a b:rF} {i:Nat} {x y:Tr} (hx:(mO a)[i]? =some x)(hy:(mO b)[i]? =some y):rowT a b i=jT x y:=by simp [rowT,hx,hy]
theorem QU {a b:rF} {S S':Nat→Prop} {σ:St} {A B:AV} (ha:kJ S σ A a)(hb:kJ S' σ B b)(wa:ES a≤100000)(wb:ES b≤100000)
 (h:∀(i:Nat) (x y:Tr),(mO a)[i]? =some x→(mO b)[i]? =some y→∀u0 v,bK S σ u0 x→bK S' σ v y→ay X 88 [u0,v] σ fun z s=>z= .b (jT x y)∧s=σ) :
 ay X 120 [A,B,.fn (.func 88) [] []] σ fun v s=>v= .b (jY a b)∧s=σ:=by
 obtain⟨cs,l1,n1,e1⟩:=ha.lies
 obtain⟨ds,l2,n2,e2⟩:=hb.lies
 have h1:=yN a
 have h2:=yN b
 refine eqf_e l1 l2 (by omega) (by omega) (fun i u0 hu=>by obtain⟨t,_,ht⟩:=e1 i u0 hu;exact ht.shape) (fun i u0 hu=>by obtain⟨t,_,ht⟩:=e2 i u0 hu;exact ht.shape) (rowT a b) (fun i u0 v hu hv=>?_) (fun hl hall=>?_) (fun hl=>?_) (fun hex=>?_)
 ·obtain⟨x,hx,V8⟩:=e1 i u0 hu
  obtain⟨y,hy,V9⟩:=e2 i v hv
  rw [vw hx hy]
  exact h i x y hx hy u0 v V8 V9
 ·refine w_ a b (by omega) fun i x y hx hy=>?_
  rw [←vw hx hy]
  exact hall i (by have:=(List.getElem?_eq_some_iff.1 hx).1;omega)
 ·exact oh a b (by omega)
 ·obtain⟨i,hi,hf⟩:=hex
  by_cases hl:(mO a).length=(mO b).length
  ·obtain⟨x,hx⟩:∃x,(mO a)[i]? =some x:=⟨_,List.getElem?_eq_getElem (by omega)⟩
   obtain⟨y,hy⟩:∃y,(mO b)[i]? =some y:=⟨_,List.getElem?_eq_getElem (by omega)⟩
   rw [vw hx hy] at hf
   exact xk a b i x y hx hy hf
  ·exact oh a b hl
theorem EI:∀(N:Nat) (x:Tr),hT x≤N→∀(y:Tr) {S S':Nat→Prop} {σ:St} {a b:AV},bK S σ a x→bK S' σ b y→wT x≤100000→wT y≤100000→ay X 88 [a,b] σ fun v s=>v= .b (jT x y)∧s=σ
 | _,.nil,_,y,S,S',σ,a,b,ha,hb,_,_=>by
   have ea:a= .p0:=ha
   refine EH ha.shape hb.shape (NW rfl ha.shape hb.shape (fun _ h=>?_) (fun _ h=>?_) (fun h _=>absurd ea h) (fun h _=>absurd ea h))
   ·cases y with
    | nil=>rfl
    | ex=>obtain⟨o,g,_,_,_,_,hv,_⟩:=hb;rw [h] at hv;cases hv
   ·cases y with
    | nil=>exact absurd hb h
    | ex=>rfl
 | 0,.ex ..,h,_,_,_,_,_,_,_,_,_,_=>by simp only [hT] at h;omega
 | N+1,.ex k n nm tx l r ar ln,h,.nil,S,S',σ,a,b,ha,hb,hw,_=>by
   have eb:b= .p0:=hb
   have na:a≠.p0:=by obtain⟨o,g,_,_,_,_,hv,_⟩:=ha;rw [hv];simp
   exact EH ha.shape hb.shape (NW rfl ha.shape hb.shape (fun h _=>absurd h na) (fun h _=>absurd h na) (fun _ _=>rfl) (fun _ h=>absurd eb h))
 | N+1,.ex k n nm tx l r ar ln,h,.ex k' n' nm' Mc l' r' Vr AQ,S,S',σ,a,b,ha,hb,hw,hw'=>by
   simp only [hT] at h
   simp only [wT] at hw hw'
   have sa:=ha.shape
   have sb:=hb.shape
   obtain⟨o1,g1,L1,R1,A1,_,rfl,h1,hl1,hr1,ha1⟩:=ha
   obtain⟨o2,g2,L2,R2,A2,_,rfl,h2,hl2,hr2,ha2⟩:=hb
   refine EH sa sb (NW rfl sa sb (fun h _=>by cases h) (fun h _=>by cases h) (fun _ h=>by cases h) (fun _ _=>?_))
   rw [jT]
   refine YG h1 h2 (QU ha1 ha2 (by omega) (by omega) fun i x y hx hy u0 v hu hv=>?_) (EI N l (by omega) l' hl1 hl2 (by omega) (by omega)) (EI N r (by omega) r' hr1 hr2 (by omega) (by omega))
   have h3:=NU _ i x hx
   have h4:=KN _ i x hx
   have h5:=KN _ i y hy
   exact EI N x (by omega) y hu hv (by omega) (by omega)
end Go.bG.YtjcicgkencfbgaaGreatDoor
namespace Go.bG.YtjcicgkencfbgaaGreatDoor
open Go.Proofs
set_option maxRecDepth 4000
theorem YH {k ln k' AQ:Nat} {nm nm':List UInt8} {pt xH:Bool} {σ:St} {o1 g1 o2 g2:Nat} {L1 R1 T1 E1 L2 R2 T2 E2:AV} (h1:σ[o1]? =some (smO g1 k nm pt L1 R1 T1 E1 ln))(h2:σ[o2]? =some (smO g2 k' nm' xH L2 R2 T2 E2 AQ))
 {rl rr rt re:Bool} (cl:ay X 88 [L1,L2] σ fun v s=>v= .b rl∧s=σ) (cr:ay X 88 [R1,R2] σ fun v s=>v= .b rr∧s=σ)
 (ct:ay X 51 [T1,T2,.fn (.func 52) [] []] σ fun v s=>v= .b rt∧s=σ) (ce:ay X 51 [E1,E2,.fn (.func 52) [] []] σ fun v s=>v= .b re∧s=σ) :
 ay X 87 [.p o1 g1 0,.p o2 g2 0] σ fun v s=>v= .b ((k == k' && nm == nm' && pt == xH) && (rl && rr && rt && re))∧s=σ:=by
 generalize hR:((k == k' && nm == nm' && pt == xH) && (rl && rr && rt && re))=R
 have fin:∀{b:Bool},b=R→Fin σ (.b b) σ fun v s=>v= .b R∧s=σ:=fun h=>by
  subst h;exact Fin.flat rfl List.take_length ⟨rfl,rfl⟩
 refine ay.body (F:=F87) aF (lit:=false) rfl rfl (Nat.le_of_ble_eq_true rfl) ?_
 conv=>whnf
 refine ak (aj (T:=dA) rfl rfl (ah (h1)) rfl) ?_
 conv=>whnf
 refine ak (aj (T:=dA) rfl rfl (ah (h2)) rfl) ?_
 conv=>whnf
 by_cases hk:k=k'
 case' neg=>
  rw [decide_eq_false (by omega)]
  conv=>whnf
  conv=>whnf
  exact fin (by rw [←hR];simp [hk])
 rw [decide_eq_true (by omega)]
 conv=>whnf
 conv=>whnf
 refine ak (aj (T:=eG) rfl rfl (ah (h1)) rfl) ?_
 conv=>whnf
 refine ak (aj (T:=eG) rfl rfl (ah (h2)) rfl) ?_
 conv=>whnf
 cases hnm:nm == nm'
 case' false=>
  conv=>whnf
  exact fin (by rw [←hR];simp [hnm])
 conv=>whnf
 refine ak (aj (T:=kY) rfl rfl (ah h1) rfl) ?_
 refine bU _ _ ?_
 conv=>whnf
 refine ak (aj (T:=kY) rfl rfl (ah h2) rfl) ?_
 refine bU _ _ ?_
 conv=>whnf
 cases hpt:pt == xH
 case' false=>
  conv=>whnf
  exact fin (by rw [←hR];simp [hpt])
 conv=>whnf
 refine ak (aj (T:=bC) rfl rfl (ah h1) rfl) ?_
 refine bU _ _ ?_
 conv=>whnf
 refine ak (aj (T:=bC) rfl rfl (ah h2) rfl) ?_
 refine bU _ _ ?_
 refine dW _ _ ?_
 refine ay.to cl ?_
 cases rl
 case' false=>
  conv=>whnf
  exact fin (by rw [←hR];simp)
 conv=>whnf
 refine ak (aj (T:=bC) rfl rfl (ah h1) rfl) ?_
 refine bU _ _ ?_
 conv=>whnf
 refine ak (aj (T:=bC) rfl rfl (ah h2) rfl) ?_
 refine bU _ _ ?_
 refine dW _ _ ?_
 refine ay.to cr ?_
 cases rr
 case' false=>
  conv=>whnf
  exact fin (by rw [←hR];simp)
 conv=>whnf
 refine ak (aj (T:=dM) rfl rfl (ah h1) rfl) ?_
 refine bU _ _ ?_
 conv=>whnf
 refine ak (aj (T:=dM) rfl rfl (ah h2) rfl) ?_
 refine bU _ _ ?_
 refine dW _ _ ?_
 refine ay.to ct ?_
 cases rt
 case' false=>
  conv=>whnf
  exact fin (by rw [←hR];simp)
 conv=>whnf
 refine ak (aj (T:=dM) rfl rfl (ah h1) rfl) ?_
 refine bU _ _ ?_
 conv=>whnf
 refine ak (aj (T:=dM) rfl rfl (ah h2) rfl) ?_
 refine bU _ _ ?_
 refine dW _ _ ?_
 refine ay.to ce ?_
 cases re
 case' false=>
  conv=>whnf
  exact fin (by rw [←hR];simp)
 conv=>whnf
 exact fin (by rw [←hR,hnm,hpt];simp [hk])
theorem QV {a b:AV} {σ:St} {r:Bool} (ha:a= .p0∨∃o g,a= .p o g 0)(hb:b= .p0∨∃o g,b= .p o g 0)(h:ay X 86 [a,b,.fn (.func 87) [] []] σ fun v s=>v= .b r∧s=σ):ay X 52 [a,b] σ fun v s=>v= .b r∧s=σ:=by
 rcases ha with rfl | ⟨_,_,rfl⟩ <;> rcases hb with rfl | ⟨_,_,rfl⟩
 all_goals
  refine ay.body (F:=F52) aF (lit:=false) rfl rfl (Nat.le_of_ble_eq_true rfl) ?_
  conv=>whnf
  refine ay.to h ?_
  cases r
  all_goals
   conv=>whnf
   exact Fin.flat rfl List.take_length ⟨rfl,rfl⟩
theorem jH.shape {S:Nat→Prop} {σ:St} {v:AV} :∀{t:Sm},jH S σ v t→v= .p0∨∃o g,v= .p o g 0
 | .st ..,h=>by obtain⟨o,g,_,_,_,_,_,hv,_⟩:=h;exact .inr ⟨o,g,hv⟩
theorem dN.lies {S:Nat→Prop} {σ:St} {A:AV} :∀{r:oO},dN S σ A r→∃cs,lT 102 σ A cs∧cs.length=(lS r).length∧∀(i:Nat) (a:AV),cs[i]? =some a→∃t,(lS r)[i]? =some t∧jH S σ a t
 | .nil,h=>⟨[],.inl ⟨rfl,h⟩,rfl,fun i a h=>by simp at h⟩
 | .cons t r,h=>by
   obtain⟨o,g,cs,h1,h2,h3,h4⟩:=h.list
   refine⟨cs,.inr ⟨o,g,h1,h2⟩,h3,fun i a ha=>?_⟩
   have hi:=(List.getElem?_eq_some_iff.1 ha).1
   obtain⟨y,hy⟩:∃y,(lS (.cons t r))[i]? =some y:=⟨_,List.getElem?_eq_getElem (by omega)⟩
   obtain⟨a',ha',hx⟩:=h4 i y hy
   rw [ha] at ha'
   cases ha'
   exact⟨y,hy,hx⟩
def YI (a b:oO)(i:Nat):Bool:=match (lS a)[i]?,(lS b)[i]? with
 | some x,some y=>o_ x y
 | _,_=>false
theorem vC {a b:oO} {i:Nat} {x y:Sm} (hx:(lS a)[i]? =some x)(hy:(lS b)[i]? =some y):YI a b i=o_ x y:=by simp [YI,hx,hy]
theorem EJ {a b:oO} {S S':Nat→Prop} {σ:St} {A B:AV} (ha:dN S σ A a)(hb:dN S' σ B b)(wa:wZ a≤100000)(wb:wZ b≤100000)
 (h:∀(i:Nat) (x y:Sm),(lS a)[i]? =some x→(lS b)[i]? =some y→∀u0 v,jH S σ u0 x→jH S' σ v y→ay X 52 [u0,v] σ fun z s=>z= .b (o_ x y)∧s=σ) :
 ay X 51 [A,B,.fn (.func 52) [] []] σ fun v s=>v= .b (gZ a b)∧s=σ:=by
 obtain⟨cs,l1,n1,e1⟩:=ha.lies
 obtain⟨ds,l2,n2,e2⟩:=hb.lies
 have h1:=yO a
 have h2:=yO b
 refine eqf_s l1 l2 (by omega) (by omega) (fun i u0 hu=>by obtain⟨t,_,ht⟩:=e1 i u0 hu;exact ht.shape) (fun i u0 hu=>by obtain⟨t,_,ht⟩:=e2 i u0 hu;exact ht.shape) (YI a b) (fun i u0 v hu hv=>?_) (fun hl hall=>?_) (fun hl=>?_) (fun hex=>?_)
 ·obtain⟨x,hx,V8⟩:=e1 i u0 hu
  obtain⟨y,hy,V9⟩:=e2 i v hv
  rw [vC hx hy]
  exact h i x y hx hy u0 v V8 V9
 ·refine xq a b (by omega) fun i x y hx hy=>?_
  rw [←vC hx hy]
  exact hall i (by have:=(List.getElem?_eq_some_iff.1 hx).1;omega)
 ·exact oq a b (by omega)
 ·obtain⟨i,hi,hf⟩:=hex
  by_cases hl:(lS a).length=(lS b).length
  ·obtain⟨x,hx⟩:∃x,(lS a)[i]? =some x:=⟨_,List.getElem?_eq_getElem (by omega)⟩
   obtain⟨y,hy⟩:∃y,(lS b)[i]? =some y:=⟨_,List.getElem?_eq_getElem (by omega)⟩
   rw [vC hx hy] at hf
   exact xu a b i x y hx hy hf
  ·exact oq a b hl
theorem Vs:∀(N:Nat) (x:Sm),hS x≤N→∀(y:Sm) {S S':Nat→Prop} {σ:St} {a b:AV},jH S σ a x→jH S' σ b y→wS x≤100000→wS y≤100000→ay X 52 [a,b] σ fun v s=>v= .b (o_ x y)∧s=σ
 | 0,.st ..,h,_,_,_,_,_,_,_,_,_,_=>by simp only [hS] at h;omega
 | N+1,.st k nm pt l r th el ln,h,.st k' nm' xH l' r' th' el' AQ,S,S',σ,a,b,ha,hb,hw,hw'=>by
   simp only [hS] at h
   simp only [wS] at hw hw'
   have sa:=ha.shape
   have sb:=hb.shape
   obtain⟨o1,g1,L1,R1,T1,E1,_,rfl,h1,hl1,hr1,ht1,he1⟩:=ha
   obtain⟨o2,g2,L2,R2,T2,E2,_,rfl,h2,hl2,hr2,ht2,he2⟩:=hb
   refine QV sa sb (both_s rfl sa sb (fun h _=>by cases h) (fun h _=>by cases h) (fun _ h=>by cases h) (fun _ _=>?_))
   rw [o_]
   refine YH h1 h2 (EI _ l (Nat.le_refl _) l' hl1 hl2 (by omega) (by omega)) (EI _ r (Nat.le_refl _) r' hr1 hr2 (by omega) (by omega)) (EJ ht1 ht2 (by omega) (by omega) fun i x y hx hy u0 v hu hv=>?_) (EJ he1 he2 (by omega) (by omega) fun i x y hx hy u0 v hu hv=>?_)
   all_goals
    have h3:=NV _ i x hx
    have h4:=Em _ i x hx
    have h5:=Em _ i y hy
    exact Vs N x (by omega) y hu hv (by omega) (by omega)
end Go.bG.YtjcicgkencfbgaaGreatDoor
namespace Go.bG.YtjcicgkencfbgaaGreatDoor
open Go.Proofs
set_option maxRecDepth 4000
section
variable {σ:St} {oa ga ob gb:Nat} {l l':List (List UInt8×Bool)}
theorem Vt (hc1:σ[oa]? =some ⟨ga,false,.cells 97 (nD l)⟩)(hc2:σ[ob]? =some ⟨gb,false,.cells 97 (nD l')⟩)(hl:l.length=l'.length)(hb:l.length≤100000) {Q:Out→Env→St→Prop}
 (q1:l=l'→∀e',get e' 1000000= .u→Q (.exit 0) e' σ) (q2:l≠l'→∀e',get e' 4= .b false→Q .ret e' σ):∀(d m:Nat),m+d=l.length→(∀i:Nat,i<m→l[i]? =l'[i]?)→
 aS X [0,1,12,13] Y8 [(0,.sl oa ga 0 l.length 2),(1,.sl ob gb 0 l'.length 2),(12,.i .i64 l.length),(13,.i .i64 m)] σ Q:=by
 intro d
 induction d with
 | zero=>
   intro m hm he
   refine aS.round aF (lit:=false) ?_
   conv=>whnf
   rw [decide_eq_false (by omega)]
   conv=>whnf
   conv=>whnf
   refine q1 (List.ext_getElem? fun i=>?_) _ rfl
   rcases Nat.lt_or_ge i m with h | h
   ·exact he i h
   ·rw [List.getElem?_eq_none (by omega),List.getElem?_eq_none (by omega)]
 | succ d ih=>
   intro m hm he
   obtain⟨p,hp⟩:∃p,l[m]? =some p:=⟨_,List.getElem?_eq_getElem (by omega)⟩
   obtain⟨q,hq⟩:∃q,l'[m]? =some q:=⟨_,List.getElem?_eq_getElem (by omega)⟩
   have hpl:=oK l
   have hpl':=oK l'
   refine aS.round aF (lit:=false) ?_
   conv=>whnf
   rw [decide_eq_true (by omega)]
   conv=>whnf
   conv=>whnf
   refine⟨m,rfl,by omega,?_⟩
   conv=>whnf
   refine ak (bV (T:=kR) rfl rfl (ah hc1) (by rw [hpl];show 0+m*2+2≤_;omega)) ?_
   rw [show ((nD l).drop (0+m*2)).take (kR).size=[.s p.1,.b p.2] by rw [Nat.zero_add];exact qy l m p hp]
   conv=>whnf
   refine⟨m,rfl,by omega,?_⟩
   conv=>whnf
   refine ak (bV (T:=kR) rfl rfl (ah hc2) (by rw [hpl'];show 0+m*2+2≤_;omega)) ?_
   rw [show ((nD l').drop (0+m*2)).take (kR).size=[.s q.1,.b q.2] by rw [Nat.zero_add];exact qy l' m q hq]
   conv=>whnf
   by_cases hpq:p=q
   ·subst hpq
    rw [beq_self_eq_true p.1,beq_self_eq_true p.2]
    conv=>whnf
    refine⟨((m+1:Nat):Int),wrap_i64 (by omega) (by omega),?_⟩
    conv=>whnf
    exact ih (m+1) (by omega) fun i hi=>by
        rcases Nat.lt_or_ge i m with h | h
        ·exact he i h
        ·obtain rfl:i=m:=by omega
         rw [hp,hq]
   ·have hne:(p.1 == q.1 && p.2 == q.2)=false:=by
        rw [Bool.eq_false_iff]
        intro h
        rw [Bool.and_eq_true,beq_iff_eq,beq_iff_eq] at h
        exact hpq (Prod.ext h.1 h.2)
    have hll:l≠l':=fun e=>by rw [e,hq] at hp;exact hpq (Option.some.inj hp).symm
    rw [hne]
    conv=>whnf
    exact q2 hll _ rfl
end
theorem eqp_to {σ:St} {A B:AV} {l l':List (List UInt8×Bool)} (ha:Lr σ A l)(hb:Lr σ B l')(wa:l.length≤100000)(wb:l'.length≤100000):ay X 50 [A,B] σ fun v s=>v= .b (l == l')∧s=σ:=by
 generalize hR:(l == l')=R
 have fin:∀{b:Bool},b=R→Fin σ (.b b) σ fun v s=>v= .b R∧s=σ:=fun h=>by
  subst h;exact Fin.flat rfl List.take_length ⟨rfl,rfl⟩
 rcases ha with ⟨rfl,rfl⟩ | ⟨oa,ga,rfl,hc1⟩ <;> rcases hb with ⟨rfl,rfl⟩ | ⟨ob,gb,rfl,hc2⟩
 ·refine ay.body (F:=Xi) aF (lit:=false) rfl rfl (Nat.le_of_ble_eq_true rfl) ?_
  conv=>whnf
  refine aS.round aF (lit:=false) ?_
  conv=>whnf
  exact fin (by rw [←hR];rfl)
 ·by_cases hz:l'= []
  ·subst hz
   refine ay.body (F:=Xi) aF (lit:=false) rfl rfl (Nat.le_of_ble_eq_true rfl) ?_
   conv=>whnf
   refine aS.round aF (lit:=false) ?_
   conv=>whnf
   exact fin (by rw [←hR];rfl)
  ·have hp:0<l'.length:=List.length_pos_iff.2 hz
   refine ay.body (F:=Xi) aF (lit:=false) rfl rfl (Nat.le_of_ble_eq_true rfl) ?_
   conv=>whnf
   rw [decide_eq_false (by omega)]
   conv=>whnf
   exact fin (by rw [←hR];cases l' with | nil=>exact absurd rfl hz | cons _ _=>rfl)
 ·by_cases hz:l=[]
  ·subst hz
   refine ay.body (F:=Xi) aF (lit:=false) rfl rfl (Nat.le_of_ble_eq_true rfl) ?_
   conv=>whnf
   refine aS.round aF (lit:=false) ?_
   conv=>whnf
   exact fin (by rw [←hR];rfl)
  ·have hp:0<l.length:=List.length_pos_iff.2 hz
   refine ay.body (F:=Xi) aF (lit:=false) rfl rfl (Nat.le_of_ble_eq_true rfl) ?_
   conv=>whnf
   rw [decide_eq_false (by omega)]
   conv=>whnf
   exact fin (by rw [←hR];cases l with | nil=>exact absurd rfl hz | cons _ _=>rfl)
 ·by_cases hl:l.length=l'.length
  ·refine ay.body (F:=Xi) aF (lit:=false) rfl rfl (Nat.le_of_ble_eq_true rfl) ?_
   conv=>whnf
   rw [decide_eq_true (by omega)]
   conv=>whnf
   refine Vt hc1 hc2 hl wa (fun e e' hu=>?_) (fun e e' h4=>?_) l.length 0 (by omega) (fun i hi=>absurd hi (Nat.not_lt_zero i))
   ·conv=>whnf
    exact fin (by rw [←hR,e];simp)
   ·conv=>whnf
    rw [h4]
    conv=>whnf
    exact fin (by rw [←hR];simp [e])
  ·refine ay.body (F:=Xi) aF (lit:=false) rfl rfl (Nat.le_of_ble_eq_true rfl) ?_
   conv=>whnf
   rw [decide_eq_false (by omega)]
   conv=>whnf
   exact fin (by rw [←hR];rw [eq_comm,beq_eq_false_iff_ne];exact fun e=>hl (by rw [e]))
theorem YJ {nm nm':List UInt8} {pt xH:Bool} {ln AQ:Nat} {σ:St} {o1 o2:Nat} {A1 B1 A2 B2:AV} (h1:σ[o1]? =some (gJ nm A1 pt B1 ln))(h2:σ[o2]? =some (gJ nm' A2 xH B2 AQ))
 {rp rb:Bool} (cp:ay X 50 [A1,A2] σ fun v s=>v= .b rp∧s=σ) (cb:ay X 51 [B1,B2,.fn (.func 52) [] []] σ fun v s=>v= .b rb∧s=σ) :
 ay X 49 [.p o1 0 0,.p o2 0 0] σ fun v s=>v= .b (nm == nm' && pt == xH && rp && rb)∧s=σ:=by
 generalize hR:(nm == nm' && pt == xH && rp && rb)=R
 have fin:∀{b:Bool},b=R→Fin σ (.b b) σ fun v s=>v= .b R∧s=σ:=fun h=>by
  subst h;exact Fin.flat rfl List.take_length ⟨rfl,rfl⟩
 refine ay.body (F:=F49) aF (lit:=false) rfl rfl (Nat.le_of_ble_eq_true rfl) ?_
 conv=>whnf
 refine ak (aj (T:=eG) rfl rfl (ah (h1)) rfl) ?_
 conv=>whnf
 refine ak (aj (T:=eG) rfl rfl (ah (h2)) rfl) ?_
 conv=>whnf
 cases hnm:nm == nm'
 case' false=>
  conv=>whnf
  exact fin (by rw [←hR];simp [hnm])
 conv=>whnf
 refine ak (aj (T:=kY) rfl rfl (ah h1) rfl) ?_
 refine bU _ _ ?_
 conv=>whnf
 refine ak (aj (T:=kY) rfl rfl (ah h2) rfl) ?_
 refine bU _ _ ?_
 conv=>whnf
 cases hpt:pt == xH
 case' false=>
  conv=>whnf
  exact fin (by rw [←hR];simp [hpt])
 conv=>whnf
 refine ak (aj (T:=dZ) rfl rfl (ah h1) rfl) ?_
 refine bU _ _ ?_
 conv=>whnf
 refine ak (aj (T:=dZ) rfl rfl (ah h2) rfl) ?_
 refine bU _ _ ?_
 refine dW _ _ ?_
 refine ay.to cp ?_
 cases rp
 case' false=>
  conv=>whnf
  exact fin (by rw [←hR];simp)
 conv=>whnf
 refine ak (aj (T:=dM) rfl rfl (ah h1) rfl) ?_
 refine bU _ _ ?_
 conv=>whnf
 refine ak (aj (T:=dM) rfl rfl (ah h2) rfl) ?_
 refine bU _ _ ?_
 refine dW _ _ ?_
 refine ay.to cb ?_
 cases rb
 case' false=>
  conv=>whnf
  exact fin (by rw [←hR];simp)
 conv=>whnf
 exact fin (by rw [←hR,hnm,hpt];rfl)
theorem QW {a b:AV} {σ:St} {r:Bool} (ha:∃o g,a= .p o g 0)(hb:∃o g,b= .p o g 0)(h:ay X 48 [a,b,.fn (.func 49) [] []] σ fun v s=>v= .b r∧s=σ):ay X 20 [a,b] σ fun v s=>v= .b r∧s=σ:=by
 obtain⟨_,_,rfl⟩:=ha
 obtain⟨_,_,rfl⟩:=hb
 refine ay.body (F:=F20) aF (lit:=false) rfl rfl (Nat.le_of_ble_eq_true rfl) ?_
 conv=>whnf
 refine ay.to h ?_
 cases r
 all_goals
  conv=>whnf
  exact Fin.flat rfl List.take_length ⟨rfl,rfl⟩
theorem same_f {S S':Nat→Prop} {σ:St} {a b:AV} {f g:Fm} (ha:qp S σ a f)(hb:qp S' σ b g)(wa:wF f≤100000)(wb:wF g≤100000):ay X 20 [a,b] σ fun v s=>v= .b (wz f g)∧s=σ:=by
 obtain⟨nm,ps,pt,bd,ln⟩:=f
 obtain⟨nm',ps',xH,bd',AQ⟩:=g
 obtain⟨o,A,Bd,_,ea,h1,hA,hB⟩:=ha
 obtain⟨o',A',YK,_,eb,h2,hA',hB'⟩:=hb
 subst ea;subst eb
 simp only [wF] at wa wb
 have hA:rH S σ A ps:=hA
 have hA':rH S' σ A' ps':=hA'
 have hB:dN S σ Bd bd:=hB
 have hB':dN S' σ YK bd':=hB'
 refine QW ⟨_,_,rfl⟩ ⟨_,_,rfl⟩ (both_f rfl (.inr ⟨_,_,rfl⟩) (.inr ⟨_,_,rfl⟩) (fun h _=>by cases h) (fun h _=>by cases h) (fun _ h=>by cases h) (fun _ _=>?_))
 show ay X _ _ σ fun v s=>v= .b (nm == nm' && pt == xH && (ps == ps') && gZ bd bd')∧s=σ
 exact YJ h1 h2 (eqp_to hA.or hA'.or (by omega) (by omega)) (EJ hB hB' (by omega) (by omega) fun i x y hx hy u0 v hu hv=>by
  have h4:=Em _ i x hx
  have h5:=Em _ i y hy
  exact Vs _ x (Nat.le_refl _) y hu hv (by omega) (by omega))
def YL (a b:List Fm)(i:Nat):Bool:=match a[i]?,b[i]? with
 | some x,some y=>wz x y
 | _,_=>false
theorem vF {a b:List Fm} {i:Nat} {x y:Fm} (hx:a[i]? =some x)(hy:b[i]? =some y):YL a b i=wz x y:=by simp [YL,hx,hy]
theorem qp.shape {S:Nat→Prop} {σ:St} {v:AV} {f:Fm} (h:qp S σ v f):v= .p0∨∃o g,v= .p o g 0:=by
 obtain⟨o,A,Bd,_,ea,_⟩:=h;exact .inr ⟨o,0,ea⟩
def Vu (S:Nat→Prop)(σ:St)(A:AV)(fs:List Fm):Prop:=∃cs,lT 54 σ A cs∧cs.length=fs.length∧∀(i:Nat) (a:AV),cs[i]? =some a→∃f,fs[i]? =some f∧qp S σ a f
theorem kD.fs {S:Nat→Prop} {σ:St} {v:AV} {fs:List Fm} (h:kD S σ v fs):∃o A,v= .p o 0 0∧σ[o]? =some ⟨0,false,.cells 52 [A]⟩∧Vu S σ A fs:=by
 obtain⟨o,A,_,hv,ho,d⟩:=h
 refine⟨o,A,hv,ho,?_⟩
 rcases d with ⟨rfl,rfl⟩ | ⟨o2,g2,cs,_,rfl,hc,e,_⟩
 ·exact⟨[],.inl ⟨rfl,rfl⟩,rfl,fun i a h=>by simp at h⟩
 ·obtain⟨h3,h4⟩:=e.list
  refine⟨cs,.inr ⟨o2,g2,rfl,hc⟩,h3,fun i a ha=>?_⟩
  have hi:=(List.getElem?_eq_some_iff.1 ha).1
  obtain⟨y,hy⟩:∃y,fs[i]? =some y:=⟨_,List.getElem?_eq_getElem (by omega)⟩
  obtain⟨a',ha',hx⟩:=h4 i y hy
  rw [ha] at ha'
  cases ha'
  exact⟨y,hy,hx⟩
theorem N8 {a b:List Fm} {S S':Nat→Prop} {σ:St} {A B:AV} (ha:Vu S σ A a)(hb:Vu S' σ B b)(wa:ET a≤100000)(wb:ET b≤100000) :
 ay X 19 [A,B,.fn (.func 20) [] []] σ fun v s=>v= .b (fV a b)∧s=σ:=by
 obtain⟨cs,l1,n1,e1⟩:=ha
 obtain⟨ds,l2,n2,e2⟩:=hb
 have h1:=yP a
 have h2:=yP b
 refine eqf_f l1 l2 (by omega) (by omega) (fun i u0 hu=>by obtain⟨t,_,ht⟩:=e1 i u0 hu;exact ht.shape) (fun i u0 hu=>by obtain⟨t,_,ht⟩:=e2 i u0 hu;exact ht.shape) (YL a b) (fun i u0 v hu hv=>?_) (fun hl hall=>?_) (fun hl=>?_) (fun hex=>?_)
 ·obtain⟨x,hx,V8⟩:=e1 i u0 hu
  obtain⟨y,hy,V9⟩:=e2 i v hv
  have h4:=KO _ i x hx
  have h5:=KO _ i y hy
  rw [vF hx hy]
  exact same_f V8 V9 (by omega) (by omega)
 ·refine xw a b (by omega) fun i x y hx hy=>?_
  rw [←vF hx hy]
  exact hall i (by have:=(List.getElem?_eq_some_iff.1 hx).1;omega)
 ·exact qQ a b (by omega)
 ·obtain⟨i,hi,hf⟩:=hex
  by_cases hl:a.length=b.length
  ·obtain⟨x,hx⟩:∃x,a[i]? =some x:=⟨_,List.getElem?_eq_getElem (by omega)⟩
   obtain⟨y,hy⟩:∃y,b[i]? =some y:=⟨_,List.getElem?_eq_getElem (by omega)⟩
   rw [vF hx hy] at hf
   exact xA a b i x y hx hy hf
  ·exact qQ a b hl
theorem YM {σ:St} {o1 o2:Nat} {A1 A2:AV} (h1:σ[o1]? =some ⟨0,false,.cells 52 [A1]⟩)(h2:σ[o2]? =some ⟨0,false,.cells 52 [A2]⟩) {r:Bool} (c:ay X 19 [A1,A2,.fn (.func 20) [] []] σ fun v s=>v= .b r∧s=σ) :
 ay X 18 [.p o1 0 0,.p o2 0 0] σ fun v s=>v= .b r∧s=σ:=by
 refine ay.body (F:=F18) aF (lit:=false) rfl rfl (Nat.le_of_ble_eq_true rfl) ?_
 conv=>whnf
 refine ak (aj (T:=iM) rfl rfl (ah h1) rfl) ?_
 refine bU _ _ ?_
 conv=>whnf
 refine ak (aj (T:=iM) rfl rfl (ah h2) rfl) ?_
 refine bU _ _ ?_
 refine dW _ _ ?_
 refine ay.to c ?_
 cases r
 all_goals
  conv=>whnf
  exact Fin.flat rfl List.take_length ⟨rfl,rfl⟩
theorem vG {a b:AV} {σ:St} {r:Bool} (ha:a= .p0∨∃o g,a= .p o g 0)(hb:b= .p0∨∃o g,b= .p o g 0)(h:ay X 17 [a,b,.fn (.func 18) [] []] σ fun v s=>v= .b r∧s=σ):ay X 7 [a,b] σ fun v s=>v= .b r∧s=σ:=by
 rcases ha with rfl | ⟨_,_,rfl⟩ <;> rcases hb with rfl | ⟨_,_,rfl⟩
 all_goals
  refine ay.body (F:=F7) aF (lit:=false) rfl rfl (Nat.le_of_ble_eq_true rfl) ?_
  conv=>whnf
  refine ay.to h ?_
  cases r
  all_goals
   conv=>whnf
   exact Fin.flat rfl List.take_length ⟨rfl,rfl⟩
theorem Vw {S S':Nat→Prop} {σ:St} {a b:AV} {fs gs:List Fm} (ha:kD S σ a fs)(hb:kD S' σ b gs)(wa:ET fs≤100000)(wb:ET gs≤100000):ay X 7 [a,b] σ fun v s=>v= .b (fV fs gs)∧s=σ:=by
 obtain⟨o1,A1,rfl,h1,f1⟩:=ha.fs
 obtain⟨o2,A2,rfl,h2,f2⟩:=hb.fs
 exact vG (.inr ⟨_,_,rfl⟩) (.inr ⟨_,_,rfl⟩) (I9 rfl (.inr ⟨_,_,rfl⟩) (.inr ⟨_,_,rfl⟩) (fun h _=>by cases h) (fun h _=>by cases h) (fun _ h=>by cases h) (fun _ _=>YM h1 h2 (N8 f1 f2 wa wb)))
theorem Ls {σ:St} :ay X 7 [.p0,.p0] σ fun v s=>v= .b true∧s=σ:=
 vG (.inl rfl) (.inl rfl) (I9 rfl (.inl rfl) (.inl rfl) (fun _ _=>rfl) (fun _ h=>absurd rfl h) (fun h _=>absurd rfl h) (fun h _=>absurd rfl h))
end Go.bG.YtjcicgkencfbgaaGreatDoor
