/- Texts of this claim, joined: Ss1, Ss2, Ss3. -/
import Derived.Test.YtjcicgkencfbgaaGreatDoorM25
import Derived.Test.YtjcicgkencfbgaaGreatDoorM28
set_option linter.unusedVariables false
set_option linter.unusedSimpArgs false
namespace Go.bG.YtjcicgkencfbgaaGreatDoor
open Go.Proofs
set_option maxRecDepth 4000
@[reducible] def sameXE (o1 g1 o2 g2 oa ga n:Nat):Env:=put (some 95) (.b false) (put (some 94) (.i .i64 n) (put (some 93) (.sl oa ga 0 n 1) (put (some 92) (.p o1 g1 (0+6)) (put (some 91) (.p o1 g1 0) (put (some 90) (.p o1 g1 0) (put (some 89) (.i .i64 n) [(0,.p o1 g1 0),(1,.p o2 g2 0),(2,.b false),(7,.i .i64 n)]))))))
section
variable {σ:St} {o1 g1 o2 g2 k n ln k' n' AQ:Nat} {nm tx nm' Mc:List UInt8} {L1 R1 L2 R2:AV}
set_option maxHeartbeats 1000000 in
theorem LP {oa ga ob gb:Nat} {cs ds:List AV} (h1:σ[o1]? =some (exO g1 k n nm tx L1 R1 (.sl oa ga 0 cs.length 1) ln))(h2:σ[o2]? =some (exO g2 k' n' nm' Mc L2 R2 (.sl ob gb 0 ds.length 1) AQ))
 (hc1:σ[oa]? =some ⟨ga,false,.cells 62 cs⟩) (hc2:σ[ob]? =some ⟨gb,false,.cells 62 ds⟩) (hl:cs.length=ds.length) (hb:cs.length≤100000) (R:Nat→Bool)
 (hp:∀i,i<cs.length→∃a b,cs[i]? =some a∧ds[i]? =some b∧(a= .p0∨∃o g,a= .p o g 0)∧(b= .p0∨∃o g,b= .p o g 0)∧ay X 89 [a,b,.b false] σ fun v s=>v= .b (R i)∧s=σ) {Q:Out→Env→St→Prop}
 (q1:(∀i,i<cs.length→R i=true)→Q (.exit 0) (sameXE o1 g1 o2 g2 oa ga cs.length) σ) (q2:(∃i,i<cs.length∧R i=false)→∀e',get e' 6= .b false→Q .ret e' σ):∀(d m:Nat),m+d=cs.length→(∀i,i<m→R i=true)→
 aS X [0,1,2,7] Zc [(0,.p o1 g1 0),(1,.p o2 g2 0),(2,.b false),(7,.i .i64 m)] σ Q:=by
 intro d
 induction d with
 | zero=>
   intro m hm hall
   obtain rfl:m=cs.length:=hm
   refine aS.round aF (lit:=false) ?_
   conv=>whnf
   refine ak (aj (T:=ji) rfl rfl (ah (h1)) rfl) ?_
   conv=>whnf
   rw [decide_eq_false (by omega)]
   conv=>whnf
   conv=>whnf
   exact q1 hall
 | succ d ih=>
   intro m hm hall
   obtain⟨a,b,ha,hb',hpa,hpb,hr⟩:=hp m (by omega)
   have ha':cs[0+m*1]? =some a:=by rw [Nat.zero_add,Nat.mul_one];exact ha
   have EG:ds[0+m*1]? =some b:=by rw [Nat.zero_add,Nat.mul_one];exact hb'
   rcases hpa with rfl | ⟨oo,gg,rfl⟩ <;> rcases hpb with rfl | ⟨oo2,gg2,rfl⟩
   all_goals
    refine aS.round aF (lit:=false) ?_
    conv=>whnf
    refine ak (aj (T:=ji) rfl rfl (ah (h1)) rfl) ?_
    conv=>whnf
    rw [decide_eq_true (by omega)]
    conv=>whnf
    conv=>whnf
    refine ak (aj (T:=ji) rfl rfl (ah (h1)) rfl) ?_
    conv=>whnf
    refine⟨m,rfl,by omega,?_⟩
    conv=>whnf
    refine ak (aj (T:=bC) rfl rfl (ah hc1) ha') ?_
    conv=>whnf
    refine ak (aj (T:=ji) rfl rfl (ah (h2)) rfl) ?_
    conv=>whnf
    refine⟨m,rfl,by omega,?_⟩
    conv=>whnf
    refine ak (aj (T:=bC) rfl rfl (ah hc2) EG) ?_
    conv=>whnf
    refine ay.to hr ?_
    cases hm':R m with
    | true=>
      conv=>whnf
      refine⟨((m+1:Nat):Int),wrap_i64 (by omega) (by omega),?_⟩
      conv=>whnf
      exact ih (m+1) (by omega) fun i hi=>by
       rcases Nat.lt_or_ge i m with h | h
       ·exact hall i h
       ·obtain rfl:i=m:=by omega
        exact hm'
    | false=>
      conv=>whnf
      exact q2 ⟨m,by omega,hm'⟩ _ rfl
end
set_option maxHeartbeats 4000000 in
theorem VQ {k n ln k' n' AQ:Nat} {nm tx nm' Mc:List UInt8} {σ:St} {o1 g1 o2 g2:Nat} {L1 R1 A1 L2 R2 A2:AV} {cs ds:List AV} (h1:σ[o1]? =some (exO g1 k n nm tx L1 R1 A1 ln))(h2:σ[o2]? =some (exO g2 k' n' nm' Mc L2 R2 A2 AQ))
 (l1:lT 62 σ A1 cs) (l2:lT 62 σ A2 ds) (hbc:cs.length≤100000) (hbd:ds.length≤100000) (R:Nat→Bool)
 (hp:∀i,i<cs.length→cs.length=ds.length→∃a b,cs[i]? =some a∧ds[i]? =some b∧(a= .p0∨∃o g,a= .p o g 0)∧(b= .p0∨∃o g,b= .p o g 0)∧ay X 89 [a,b,.b false] σ fun v s=>v= .b (R i)∧s=σ)
 {ra rl rr:Bool} (r1:cs.length=ds.length→(∀i,i<cs.length→R i=true)→ra=true) (r2:cs.length≠ds.length→ra=false) (r3:(∃i,i<cs.length∧R i=false)→ra=false)
 (cl:ay X 89 [L1,L2,.b false] σ fun v s=>v= .b rl∧s=σ) (cr:ay X 89 [R1,R2,.b false] σ fun v s=>v= .b rr∧s=σ) :
 ay X 89 [.p o1 g1 0,.p o2 g2 0,.b false] σ fun v s=>v= .b ((k == k' && n == n' && nm == nm' && tx == Mc) && (ra && rl && rr))∧s=σ:=by
 generalize hR:((k == k' && n == n' && nm == nm' && tx == Mc) && (ra && rl && rr))=B
 have fin:∀{b:Bool},b=B→Fin σ (.b b) σ fun v s=>v= .b B∧s=σ:=fun h=>by
  subst h;exact Fin.flat rfl List.take_length ⟨rfl,rfl⟩
 refine ay.body (F:=F89) aF (lit:=false) rfl rfl (Nat.le_of_ble_eq_true rfl) ?_
 conv=>whnf
 refine ak (aj (T:=dA) rfl rfl (ah (h1)) rfl) ?_
 conv=>whnf
 refine ak (aj (T:=dA) rfl rfl (ah (h2)) rfl) ?_
 conv=>whnf
 by_cases hk:k=k'
 case' neg=>
  rw [decide_eq_false (by omega)]
  conv=>whnf
  conv=>whnf
  exact fin (by rw [←hR];simp [hk])
 rw [decide_eq_true (by omega)]
 conv=>whnf
 conv=>whnf
 refine ak (aj (T:=TP) rfl rfl (ah (h1)) rfl) ?_
 conv=>whnf
 refine ak (aj (T:=TP) rfl rfl (ah (h2)) rfl) ?_
 conv=>whnf
 by_cases hn:n=n'
 case' neg=>
  rw [decide_eq_false (by omega)]
  conv=>whnf
  conv=>whnf
  exact fin (by rw [←hR];simp [hn])
 rw [decide_eq_true (by omega)]
 conv=>whnf
 conv=>whnf
 refine ak (aj (T:=eG) rfl rfl (ah (h1)) rfl) ?_
 conv=>whnf
 refine ak (aj (T:=eG) rfl rfl (ah (h2)) rfl) ?_
 conv=>whnf
 cases hnm:nm == nm'
 case' false=>
  conv=>whnf
  exact fin (by rw [←hR];simp [hnm])
 conv=>whnf
 refine ak (aj (T:=eG) rfl rfl (ah (h1)) rfl) ?_
 conv=>whnf
 refine ak (aj (T:=eG) rfl rfl (ah (h2)) rfl) ?_
 conv=>whnf
 cases htx:tx == Mc
 case' false=>
  conv=>whnf
  exact fin (by rw [←hR];simp [htx])
 conv=>whnf
 have tail:∀{b:Bool},b=(rl && rr)→ra=true→b=B:=fun h hra=>by rw [←hR,h,hra,hnm,htx];simp [hk,hn]
 have none:ra=false→false=B:=fun h=>by rw [←hR,h];simp
 rcases l1 with ⟨rfl,rfl⟩ | ⟨oa,ga,rfl,hc1⟩ <;> rcases l2 with ⟨rfl,rfl⟩ | ⟨ob,gb,rfl,hc2⟩
 ·have hra:ra=true:=r1 rfl (fun i hi=>absurd hi (Nat.not_lt_zero i))
  refine ak (aj (T:=ji) rfl rfl (ah (h1)) rfl) ?_
  conv=>whnf
  refine ak (aj (T:=ji) rfl rfl (ah (h2)) rfl) ?_
  conv=>whnf
  refine aS.round aF (lit:=false) ?_
  conv=>whnf
  refine ak (aj (T:=ji) rfl rfl (ah (h1)) rfl) ?_
  conv=>whnf
  refine ak (aj (T:=bC) rfl rfl (ah h1) rfl) ?_
  refine bU _ _ ?_
  conv=>whnf
  refine ak (aj (T:=bC) rfl rfl (ah h2) rfl) ?_
  refine bU _ _ ?_
  conv=>whnf
  refine lq _ _ ?_
  refine dW _ _ ?_
  refine ay.to cl ?_
  cases rl
  case' false=>
   conv=>whnf
   exact fin (tail rfl hra)
  conv=>whnf
  refine ak (aj (T:=bC) rfl rfl (ah h1) rfl) ?_
  refine bU _ _ ?_
  conv=>whnf
  refine ak (aj (T:=bC) rfl rfl (ah h2) rfl) ?_
  refine bU _ _ ?_
  conv=>whnf
  refine lq _ _ ?_
  refine dW _ _ ?_
  refine ay.to cr ?_
  cases rr
  all_goals
   conv=>whnf
   exact fin (tail rfl hra)
 ·by_cases hz:0=ds.length
  case' neg=>
   refine ak (aj (T:=ji) rfl rfl (ah (h1)) rfl) ?_
   conv=>whnf
   refine ak (aj (T:=ji) rfl rfl (ah (h2)) rfl) ?_
   conv=>whnf
   rw [decide_eq_false (by omega)]
   conv=>whnf
   conv=>whnf
   exact fin (none (r2 hz))
  have hra:ra=true:=r1 hz (fun i hi=>absurd hi (Nat.not_lt_zero i))
  refine ak (aj (T:=ji) rfl rfl (ah (h1)) rfl) ?_
  conv=>whnf
  refine ak (aj (T:=ji) rfl rfl (ah (h2)) rfl) ?_
  conv=>whnf
  rw [decide_eq_true (by omega)]
  conv=>whnf
  conv=>whnf
  refine aS.round aF (lit:=false) ?_
  conv=>whnf
  refine ak (aj (T:=ji) rfl rfl (ah (h1)) rfl) ?_
  conv=>whnf
  refine ak (aj (T:=bC) rfl rfl (ah h1) rfl) ?_
  refine bU _ _ ?_
  conv=>whnf
  refine ak (aj (T:=bC) rfl rfl (ah h2) rfl) ?_
  refine bU _ _ ?_
  conv=>whnf
  refine lq _ _ ?_
  refine dW _ _ ?_
  refine ay.to cl ?_
  cases rl
  case' false=>
   conv=>whnf
   exact fin (tail rfl hra)
  conv=>whnf
  refine ak (aj (T:=bC) rfl rfl (ah h1) rfl) ?_
  refine bU _ _ ?_
  conv=>whnf
  refine ak (aj (T:=bC) rfl rfl (ah h2) rfl) ?_
  refine bU _ _ ?_
  conv=>whnf
  refine lq _ _ ?_
  refine dW _ _ ?_
  refine ay.to cr ?_
  cases rr
  all_goals
   conv=>whnf
   exact fin (tail rfl hra)
 ·by_cases hz:cs.length=0
  case' neg=>
   refine ak (aj (T:=ji) rfl rfl (ah (h1)) rfl) ?_
   conv=>whnf
   refine ak (aj (T:=ji) rfl rfl (ah (h2)) rfl) ?_
   conv=>whnf
   rw [decide_eq_false (by omega)]
   conv=>whnf
   conv=>whnf
   exact fin (none (r2 hz))
  have hra:ra=true:=r1 hz (fun i hi=>by omega)
  refine ak (aj (T:=ji) rfl rfl (ah (h1)) rfl) ?_
  conv=>whnf
  refine ak (aj (T:=ji) rfl rfl (ah (h2)) rfl) ?_
  conv=>whnf
  rw [decide_eq_true (by omega)]
  conv=>whnf
  conv=>whnf
  refine aS.round aF (lit:=false) ?_
  conv=>whnf
  refine ak (aj (T:=ji) rfl rfl (ah (h1)) rfl) ?_
  conv=>whnf
  rw [decide_eq_false (by omega)]
  conv=>whnf
  conv=>whnf
  refine ak (aj (T:=bC) rfl rfl (ah h1) rfl) ?_
  refine bU _ _ ?_
  conv=>whnf
  refine ak (aj (T:=bC) rfl rfl (ah h2) rfl) ?_
  refine bU _ _ ?_
  conv=>whnf
  refine lq _ _ ?_
  refine dW _ _ ?_
  refine ay.to cl ?_
  cases rl
  case' false=>
   conv=>whnf
   exact fin (tail rfl hra)
  conv=>whnf
  refine ak (aj (T:=bC) rfl rfl (ah h1) rfl) ?_
  refine bU _ _ ?_
  conv=>whnf
  refine ak (aj (T:=bC) rfl rfl (ah h2) rfl) ?_
  refine bU _ _ ?_
  conv=>whnf
  refine lq _ _ ?_
  refine dW _ _ ?_
  refine ay.to cr ?_
  cases rr
  all_goals
   conv=>whnf
   exact fin (tail rfl hra)
 ·by_cases hz:cs.length=ds.length
  case' neg=>
   refine ak (aj (T:=ji) rfl rfl (ah (h1)) rfl) ?_
   conv=>whnf
   refine ak (aj (T:=ji) rfl rfl (ah (h2)) rfl) ?_
   conv=>whnf
   rw [decide_eq_false (by omega)]
   conv=>whnf
   conv=>whnf
   exact fin (none (r2 hz))
  refine ak (aj (T:=ji) rfl rfl (ah (h1)) rfl) ?_
  conv=>whnf
  refine ak (aj (T:=ji) rfl rfl (ah (h2)) rfl) ?_
  conv=>whnf
  rw [decide_eq_true (by omega)]
  conv=>whnf
  conv=>whnf
  refine LP h1 h2 hc1 hc2 hz hbc R (fun i hi=>hp i hi hz) (fun hall=>?_) (fun hex e' h6=>?_) cs.length 0 (by omega) (fun i hi=>absurd hi (Nat.not_lt_zero i))
  case' refine_2=>
   conv=>whnf
   rw [h6]
   conv=>whnf
   exact fin (none (r3 hex))
  have hra:ra=true:=r1 hz hall
  conv=>whnf
  refine ak (aj (T:=bC) rfl rfl (ah h1) rfl) ?_
  refine bU _ _ ?_
  conv=>whnf
  refine ak (aj (T:=bC) rfl rfl (ah h2) rfl) ?_
  refine bU _ _ ?_
  conv=>whnf
  refine lq _ _ ?_
  refine dW _ _ ?_
  refine ay.to cl ?_
  cases rl
  case' false=>
   conv=>whnf
   exact fin (tail rfl hra)
  conv=>whnf
  refine ak (aj (T:=bC) rfl rfl (ah h1) rfl) ?_
  refine bU _ _ ?_
  conv=>whnf
  refine ak (aj (T:=bC) rfl rfl (ah h2) rfl) ?_
  refine bU _ _ ?_
  conv=>whnf
  refine lq _ _ ?_
  refine dW _ _ ?_
  refine ay.to cr ?_
  cases rr
  all_goals
   conv=>whnf
   exact fin (tail rfl hra)
theorem QZ {σ:St} :ay X 89 [.p0,.p0,.b false] σ fun v s=>v= .b true∧s=σ:=by
 refine ay.body (F:=F89) aF (lit:=false) rfl rfl (Nat.le_of_ble_eq_true rfl) ?_
 conv=>whnf
 exact Fin.flat rfl List.take_length ⟨rfl,rfl⟩
theorem Q5 {σ:St} {o g:Nat} :ay X 89 [.p0,.p o g 0,.b false] σ fun v s=>v= .b false∧s=σ:=by
 refine ay.body (F:=F89) aF (lit:=false) rfl rfl (Nat.le_of_ble_eq_true rfl) ?_
 conv=>whnf
 exact Fin.flat rfl List.take_length ⟨rfl,rfl⟩
theorem Q7 {σ:St} {o g:Nat} :ay X 89 [.p o g 0,.p0,.b false] σ fun v s=>v= .b false∧s=σ:=by
 refine ay.body (F:=F89) aF (lit:=false) rfl rfl (Nat.le_of_ble_eq_true rfl) ?_
 conv=>whnf
 exact Fin.flat rfl List.take_length ⟨rfl,rfl⟩
theorem zy:∀(N:Nat) (x:Tr),hT x≤N→∀(y:Tr) {S S':Nat→Prop} {σ:St} {a b:AV},bK S σ a x→bK S' σ b y→wT x≤100000→wT y≤100000→ay X 89 [a,b,.b false] σ fun v s=>v= .b (jT x y)∧s=σ
 | _,.nil,_,.nil,S,S',σ,a,b,ha,hb,_,_=>by
   have ha:a= .p0:=ha
   have hb:b= .p0:=hb
   subst ha;subst hb
   exact QZ
 | _,.nil,_,.ex ..,S,S',σ,a,b,ha,hb,_,_=>by
   have ha:a= .p0:=ha
   obtain⟨o,g,_,_,_,_,hb,_⟩:=hb
   subst ha;subst hb
   exact Q5
 | 0,.ex ..,h,_,_,_,_,_,_,_,_,_,_=>by simp only [hT] at h;omega
 | N+1,.ex k n nm tx l r ar ln,h,.nil,S,S',σ,a,b,ha,hb,hw,_=>by
   have hb:b= .p0:=hb
   obtain⟨o,g,_,_,_,_,ha,_⟩:=ha
   subst ha;subst hb
   exact Q7
 | N+1,.ex k n nm tx l r ar ln,h,.ex k' n' nm' Mc l' r' Vr AQ,S,S',σ,a,b,ha,hb,hw,hw'=>by
   simp only [hT] at h
   simp only [wT] at hw hw'
   obtain⟨o1,g1,L1,R1,A1,_,rfl,h1,hl1,hr1,ha1⟩:=ha
   obtain⟨o2,g2,L2,R2,A2,_,rfl,h2,hl2,hr2,ha2⟩:=hb
   obtain⟨cs,l1,n1,e1⟩:=ha1.lies
   obtain⟨ds,l2,n2,e2⟩:=ha2.lies
   have b1:=yN ar
   have b2:=yN Vr
   rw [jT]
   refine VQ h1 h2 l1 l2 (by omega) (by omega) (rowT ar Vr) (fun i hi hl=>?_) (fun hl hall=>?_) (fun hl=>?_) (fun hex=>?_) (zy N l (by omega) l' hl1 hl2 (by omega) (by omega)) (zy N r (by omega) r' hr1 hr2 (by omega) (by omega))
   ·obtain⟨p,hu⟩:∃p,cs[i]? =some p:=⟨_,List.getElem?_eq_getElem hi⟩
    obtain⟨q,hv⟩:∃q,ds[i]? =some q:=⟨_,List.getElem?_eq_getElem (by omega)⟩
    obtain⟨x,hx,V8⟩:=e1 i p hu
    obtain⟨y,hy,V9⟩:=e2 i q hv
    have h3:=NU _ i x hx
    have h4:=KN _ i x hx
    have h5:=KN _ i y hy
    rw [vw hx hy]
    exact⟨p,q,hu,hv,V8.shape,V9.shape,zy N x (by omega) y V8 V9 (by omega) (by omega)⟩
   ·refine w_ ar Vr (by omega) fun i x y hx hy=>?_
    rw [←vw hx hy]
    exact hall i (by have:=(List.getElem?_eq_some_iff.1 hx).1;omega)
   ·exact oh ar Vr (by omega)
   ·obtain⟨i,hi,hf⟩:=hex
    by_cases hl:(mO ar).length=(mO Vr).length
    ·obtain⟨x,hx⟩:∃x,(mO ar)[i]? =some x:=⟨_,List.getElem?_eq_getElem (by omega)⟩
     obtain⟨y,hy⟩:∃y,(mO Vr)[i]? =some y:=⟨_,List.getElem?_eq_getElem (by omega)⟩
     rw [vw hx hy] at hf
     exact xk ar Vr i x y hx hy hf
    ·exact oh ar Vr hl
end Go.bG.YtjcicgkencfbgaaGreatDoor
namespace Go.bG.YtjcicgkencfbgaaGreatDoor
open Go.Proofs
set_option maxRecDepth 4000
structure Zt (σ:St)(a b:AV)(res:Bool) where
 (o g o' g' k ln k' AQ:Nat) (nm nm':List UInt8) (pt xH:Bool) (L R T E L' R' T' E':AV) (rl rr rt re:Bool)
 ea:a= .p o g 0
 eb:b= .p o' g' 0
 h1:σ[o]? =some (smO g k nm pt L R T E ln)
 h2:σ[o']? =some (smO g' k' nm' xH L' R' T' E' AQ)
 cl:ay X 89 [L,L',.b false] σ fun v s=>v= .b rl∧s=σ
 cr:ay X 89 [R,R',.b false] σ fun v s=>v= .b rr∧s=σ
 ct:ay X 53 [T,T',.b false] σ fun v s=>v= .b rt∧s=σ
 ce:ay X 53 [E,E',.b false] σ fun v s=>v= .b re∧s=σ
 hres:res=((k == k' && nm == nm' && pt == xH) && (rl && rr && rt && re))
@[reducible] def sameXS (oa ga n ob gb:Nat):Env:=put (some 18) (.b false) (put (some 17) (.i .i64 n) (put (some 16) (.sl oa ga 0 n 1) (put (some 15) (.i .i64 n) [(0,.sl oa ga 0 n 1),(1,.sl ob gb 0 n 1),(2,.b false),(7,.i .i64 n)])))
section
variable {σ:St}
set_option maxHeartbeats 4000000 in
theorem LQ {oa ga ob gb:Nat} {cs ds:List AV} (hc1:σ[oa]? =some ⟨ga,false,.cells 102 cs⟩)(hc2:σ[ob]? =some ⟨gb,false,.cells 102 ds⟩)(hl:ds.length=cs.length)(hb:cs.length≤100000)(R:Nat→Bool)
 (hp:∀i,i<cs.length→∃a b,cs[i]? =some a∧ds[i]? =some b∧Nonempty (Zt σ a b (R i))) {Q:Out→Env→St→Prop}
 (q1:(∀i,i<cs.length→R i=true)→Q (.exit 0) (sameXS oa ga cs.length ob gb) σ) (q2:(∃i,i<cs.length∧R i=false)→∀e',get e' 6= .b false→Q .ret e' σ):∀(d m:Nat),m+d=cs.length→(∀i,i<m→R i=true)→
 aS X [0,1,2,7] SX [(0,.sl oa ga 0 cs.length 1),(1,.sl ob gb 0 cs.length 1),(2,.b false),(7,.i .i64 m)] σ Q:=by
 intro d
 induction d with
 | zero=>
   intro m hm hall
   obtain rfl:m=cs.length:=hm
   refine aS.round aF (lit:=false) ?_
   conv=>whnf
   rw [decide_eq_false (by omega)]
   conv=>whnf
   conv=>whnf
   exact q1 hall
 | succ d ih=>
   intro m hm hall
   obtain⟨a,b,ha,hb',⟨o,g,o',g',k,ln,k',AQ,nm,nm',pt,xH,L,R0,T,E,L',R',T',E',rl,rr,rt,re,rfl,rfl,h1,h2,cl,cr,ct,ce,hres⟩⟩:=hp m (by omega)
   have ha':cs[0+m*1]? =some (.p o g 0):=by rw [Nat.zero_add,Nat.mul_one];exact ha
   have EG:ds[0+m*1]? =some (.p o' g' 0):=by rw [Nat.zero_add,Nat.mul_one];exact hb'
   have bad:((k == k' && nm == nm' && pt == xH) && (rl && rr && rt && re))=false→∀e',get e' 6= .b false→Q .ret e' σ:=fun h=>q2 ⟨m,by omega,by rw [hres];exact h⟩
   have step:R m=true→aS X [0,1,2,7] SX [(0,.sl oa ga 0 cs.length 1),(1,.sl ob gb 0 cs.length 1),(2,.b false),(7,.i .i64 (m+1:Nat))] σ Q:=fun hm'=>ih (m+1) (by omega) fun i hi=>by
    rcases Nat.lt_or_ge i m with h | h
    ·exact hall i h
    ·obtain rfl:i=m:=by omega
     exact hm'
   clear ih hp
   refine aS.round aF (lit:=false) ?_
   conv=>whnf
   rw [decide_eq_true (by omega)]
   conv=>whnf
   conv=>whnf
   refine⟨m,rfl,by omega,?_⟩
   conv=>whnf
   refine ak (aj (T:=bZ) rfl rfl (ah hc1) ha') ?_
   conv=>whnf
   refine⟨m,rfl,by omega,?_⟩
   conv=>whnf
   refine ak (aj (T:=bZ) rfl rfl (ah hc2) EG) ?_
   conv=>whnf
   refine ak (aj (T:=dA) rfl rfl (ah (h1)) rfl) ?_
   conv=>whnf
   refine ak (aj (T:=dA) rfl rfl (ah (h2)) rfl) ?_
   conv=>whnf
   by_cases hk:k=k'
   case' neg=>
    rw [decide_eq_false (by omega)]
    conv=>whnf
    conv=>whnf
    exact bad (by simp [hk]) _ rfl
   rw [decide_eq_true (by omega)]
   conv=>whnf
   conv=>whnf
   refine ak (aj (T:=eG) rfl rfl (ah (h1)) rfl) ?_
   conv=>whnf
   refine ak (aj (T:=eG) rfl rfl (ah (h2)) rfl) ?_
   conv=>whnf
   cases hnm:nm == nm'
   case' false=>
    conv=>whnf
    exact bad (by simp [hnm]) _ rfl
   conv=>whnf
   refine ak (aj (T:=kY) rfl rfl (ah h1) rfl) ?_
   refine bU _ _ ?_
   conv=>whnf
   refine ak (aj (T:=kY) rfl rfl (ah h2) rfl) ?_
   refine bU _ _ ?_
   conv=>whnf
   cases hpt:pt == xH
   case' false=>
    conv=>whnf
    exact bad (by simp [hpt]) _ rfl
   conv=>whnf
   refine ak (aj (T:=bC) rfl rfl (ah h1) rfl) ?_
   refine bU _ _ ?_
   conv=>whnf
   refine ak (aj (T:=bC) rfl rfl (ah h2) rfl) ?_
   refine bU _ _ ?_
   conv=>whnf
   refine lq _ _ ?_
   refine dW _ _ ?_
   refine ay.to cl ?_
   cases rl
   case' false=>
    conv=>whnf
    exact bad (by simp) _ rfl
   conv=>whnf
   refine ak (aj (T:=bC) rfl rfl (ah h1) rfl) ?_
   refine bU _ _ ?_
   conv=>whnf
   refine ak (aj (T:=bC) rfl rfl (ah h2) rfl) ?_
   refine bU _ _ ?_
   conv=>whnf
   refine lq _ _ ?_
   refine dW _ _ ?_
   refine ay.to cr ?_
   cases rr
   case' false=>
    conv=>whnf
    exact bad (by simp) _ rfl
   conv=>whnf
   refine ak (aj (T:=dM) rfl rfl (ah h1) rfl) ?_
   refine bU _ _ ?_
   conv=>whnf
   refine ak (aj (T:=dM) rfl rfl (ah h2) rfl) ?_
   refine bU _ _ ?_
   conv=>whnf
   refine lq _ _ ?_
   refine dW _ _ ?_
   refine ay.to ct ?_
   cases rt
   case' false=>
    conv=>whnf
    exact bad (by simp) _ rfl
   conv=>whnf
   refine ak (aj (T:=dM) rfl rfl (ah h1) rfl) ?_
   refine bU _ _ ?_
   conv=>whnf
   refine ak (aj (T:=dM) rfl rfl (ah h2) rfl) ?_
   refine bU _ _ ?_
   conv=>whnf
   refine lq _ _ ?_
   refine dW _ _ ?_
   refine ay.to ce ?_
   cases re
   case' false=>
    conv=>whnf
    exact bad (by simp) _ rfl
   conv=>whnf
   refine⟨((m+1:Nat):Int),wrap_i64 (by omega) (by omega),?_⟩
   conv=>whnf
   exact step (by rw [hres,hnm,hpt];simp [hk])
end
theorem Oh {σ:St} :ay X 53 [.sl0,.sl0,.b false] σ fun v s=>v= .b true∧s=σ:=by
 refine ay.body (F:=Xk) aF (lit:=false) rfl rfl (Nat.le_of_ble_eq_true rfl) ?_
 conv=>whnf
 refine aS.round aF (lit:=false) ?_
 conv=>whnf
 exact Fin.flat rfl List.take_length ⟨rfl,rfl⟩
theorem LU {σ:St} {A B:AV} {cs ds:List AV} (l1:lT 102 σ A cs)(l2:lT 102 σ B ds)(hbc:cs.length≤100000)(hbd:ds.length≤100000)(R:Nat→Bool)
 (hp:∀i,i<cs.length→cs.length=ds.length→∃a b,cs[i]? =some a∧ds[i]? =some b∧Nonempty (Zt σ a b (R i)))
 {r:Bool} (r1:cs.length=ds.length→(∀i,i<cs.length→R i=true)→r=true) (r2:cs.length≠ds.length→r=false) (r3:(∃i,i<cs.length∧R i=false)→r=false) :
 ay X 53 [A,B,.b false] σ fun v s=>v= .b r∧s=σ:=by
 rcases l1 with ⟨rfl,rfl⟩ | ⟨oa,ga,rfl,hc1⟩ <;> rcases l2 with ⟨rfl,rfl⟩ | ⟨ob,gb,rfl,hc2⟩
 ·rw [r1 rfl (fun i hi=>absurd hi (Nat.not_lt_zero i))]
  exact Oh
 ·by_cases hz:0=ds.length
  ·rw [r1 hz (fun i hi=>absurd hi (Nat.not_lt_zero i))]
   refine ay.body (F:=Xk) aF (lit:=false) rfl rfl (Nat.le_of_ble_eq_true rfl) ?_
   conv=>whnf
   rw [decide_eq_true (by omega)]
   conv=>whnf
   conv=>whnf
   refine aS.round aF (lit:=false) ?_
   conv=>whnf
   exact Fin.flat rfl List.take_length ⟨rfl,rfl⟩
  ·rw [r2 hz]
   refine ay.body (F:=Xk) aF (lit:=false) rfl rfl (Nat.le_of_ble_eq_true rfl) ?_
   conv=>whnf
   rw [decide_eq_false (by omega)]
   conv=>whnf
   conv=>whnf
   exact Fin.flat rfl List.take_length ⟨rfl,rfl⟩
 ·by_cases hz:cs.length=0
  ·rw [r1 hz (fun i hi=>by omega)]
   refine ay.body (F:=Xk) aF (lit:=false) rfl rfl (Nat.le_of_ble_eq_true rfl) ?_
   conv=>whnf
   rw [decide_eq_true (by omega)]
   conv=>whnf
   conv=>whnf
   refine aS.round aF (lit:=false) ?_
   conv=>whnf
   rw [decide_eq_false (by omega)]
   conv=>whnf
   conv=>whnf
   exact Fin.flat rfl List.take_length ⟨rfl,rfl⟩
  ·rw [r2 hz]
   refine ay.body (F:=Xk) aF (lit:=false) rfl rfl (Nat.le_of_ble_eq_true rfl) ?_
   conv=>whnf
   rw [decide_eq_false (by omega)]
   conv=>whnf
   conv=>whnf
   exact Fin.flat rfl List.take_length ⟨rfl,rfl⟩
 ·by_cases hz:cs.length=ds.length
  ·rw [←hz]
   refine ay.body (F:=Xk) aF (lit:=false) rfl rfl (Nat.le_of_ble_eq_true rfl) ?_
   conv=>whnf
   rw [decide_eq_true (rfl)]
   conv=>whnf
   conv=>whnf
   refine LQ hc1 hc2 hz.symm hbc R (fun i hi=>hp i hi hz) (fun hall=>?_) (fun hex e' h6=>?_) cs.length 0 (by omega) (fun i hi=>absurd hi (Nat.not_lt_zero i))
   ·rw [r1 hz hall]
    conv=>whnf
    exact Fin.flat rfl List.take_length ⟨rfl,rfl⟩
   ·rw [r3 hex]
    conv=>whnf
    rw [h6]
    conv=>whnf
    exact Fin.flat rfl List.take_length ⟨rfl,rfl⟩
  ·rw [r2 hz]
   refine ay.body (F:=Xk) aF (lit:=false) rfl rfl (Nat.le_of_ble_eq_true rfl) ?_
   conv=>whnf
   rw [decide_eq_false (by omega)]
   conv=>whnf
   conv=>whnf
   exact Fin.flat rfl List.take_length ⟨rfl,rfl⟩
theorem Je:∀(N:Nat) (x:oO),hSs x≤N→∀(y:oO) {S S':Nat→Prop} {σ:St} {a b:AV},dN S σ a x→dN S' σ b y→wZ x≤100000→wZ y≤100000→ay X 53 [a,b,.b false] σ fun v s=>v= .b (gZ x y)∧s=σ
 | N,x,hN,y,S,S',σ,a,b,ha,hb,hw,hw'=>by
   obtain⟨cs,l1,n1,e1⟩:=ha.lies
   obtain⟨ds,l2,n2,e2⟩:=hb.lies
   have b1:=yO x
   have b2:=yO y
   refine LU l1 l2 (by omega) (by omega) (YI x y) (fun i hi hl=>?_) (fun hl hall=>?_) (fun hl=>?_) (fun hex=>?_)
   ·obtain⟨p,hu⟩:∃p,cs[i]? =some p:=⟨_,List.getElem?_eq_getElem hi⟩
    obtain⟨q,hv⟩:∃q,ds[i]? =some q:=⟨_,List.getElem?_eq_getElem (by omega)⟩
    obtain⟨t,hx,V8⟩:=e1 i p hu
    obtain⟨t',hy,V9⟩:=e2 i q hv
    have h3:=NV _ i t hx
    have h4:=Em _ i t hx
    have h5:=Em _ i t' hy
    rw [vC hx hy]
    obtain⟨k,nm,pt,l,r,th,el,ln⟩:=t
    obtain⟨k',nm',xH,l',r',th',el',AQ⟩:=t'
    obtain⟨o,g,L,R,T,E,_,ea,h1,hl1,hr1,ht1,hE1⟩:=V8
    obtain⟨o',g',L',R',T',E',_,eb,h2,hl2,hr2,ht2,hE2⟩:=V9
    simp only [hS] at h3
    simp only [wS] at h4 h5
    match N,h3 with
    | 0,h3=>omega
    | N+1,h3=>
      exact⟨p,q,hu,hv,⟨o,g,o',g',k,ln,k',AQ,nm,nm',pt,xH,L,R,T,E,L',R',T',E',jT l l',jT r r',gZ th th',gZ el el',ea,eb,h1,h2,zy _ l (Nat.le_refl _) l' hl1 hl2 (by omega) (by omega),zy _ r (Nat.le_refl _) r' hr1 hr2 (by omega) (by omega),Je N th (by omega) th' ht1 ht2 (by omega) (by omega),Je N el (by omega) el' hE1 hE2 (by omega) (by omega),by rw [o_]⟩⟩
   ·refine xq x y (by omega) fun i t t' hx hy=>?_
    rw [←vC hx hy]
    exact hall i (by have:=(List.getElem?_eq_some_iff.1 hx).1;omega)
   ·exact oq x y (by omega)
   ·obtain⟨i,hi,hf⟩:=hex
    by_cases hl:(lS x).length=(lS y).length
    ·obtain⟨t,hx⟩:∃t,(lS x)[i]? =some t:=⟨_,List.getElem?_eq_getElem (by omega)⟩
     obtain⟨t',hy⟩:∃t',(lS y)[i]? =some t':=⟨_,List.getElem?_eq_getElem (by omega)⟩
     rw [vC hx hy] at hf
     exact xu x y i t t' hx hy hf
    ·exact oq x y hl
end Go.bG.YtjcicgkencfbgaaGreatDoor
namespace Go.bG.YtjcicgkencfbgaaGreatDoor
open Go.Proofs
set_option maxRecDepth 4000
@[reducible] def sameXP (oA oB i x y oa ga n:Nat):Env:=put (some 135) (.b false) (put (some 134) (.i .i64 n) (put (some 133) (.sl oa ga 0 n 2) (put (some 132) (.p x 0 (0+1)) (put (some 131) (.p x 0 0) (put (some 130) (.p x 0 0) (put (some 129) (.i .i64 n) [(0,.p oA 0 0),(1,.p oB 0 0),(2,.b false),(7,.i .i64 i),(8,.p x 0 0),(9,.p y 0 0),(10,.i .i64 n)]))))))
section
variable {σ:St} {oA oB i x y ln AQ:Nat} {nm nm':List UInt8} {pt xH:Bool} {Bd YK:AV}
theorem LV {oa ga ob gb:Nat} {l l':List (List UInt8×Bool)} (h1:σ[x]? =some (gJ nm (.sl oa ga 0 l.length 2) pt Bd ln))(h2:σ[y]? =some (gJ nm' (.sl ob gb 0 l'.length 2) xH YK AQ))
 (hc1:σ[oa]? =some ⟨ga,false,.cells 97 (nD l)⟩) (hc2:σ[ob]? =some ⟨gb,false,.cells 97 (nD l')⟩) (hl:l.length=l'.length) (hb:l.length≤100000) {Q:Out→Env→St→Prop}
 (q1:l=l'→Q (.exit 2) (sameXP oA oB i x y oa ga l.length) σ) (q2:l≠l'→∀e',get e' 6= .b false→Q .ret e' σ):∀(d m:Nat),m+d=l.length→(∀j:Nat,j<m→l[j]? =l'[j]?)→
 aS X [0,1,2,7,8,9,10] Y2 [(0,.p oA 0 0),(1,.p oB 0 0),(2,.b false),(7,.i .i64 i),(8,.p x 0 0),(9,.p y 0 0),(10,.i .i64 m)] σ Q:=by
 intro d
 induction d with
 | zero=>
   intro m hm he
   obtain rfl:m=l.length:=hm
   refine aS.round aF (lit:=false) ?_
   conv=>whnf
   refine ak (aj (T:=dZ) rfl rfl (ah (h1)) rfl) ?_
   conv=>whnf
   rw [decide_eq_false (by omega)]
   conv=>whnf
   conv=>whnf
   refine q1 (List.ext_getElem? fun j=>?_)
   rcases Nat.lt_or_ge j l.length with h | h
   ·exact he j h
   ·rw [List.getElem?_eq_none (by omega),List.getElem?_eq_none (by omega)]
 | succ d ih=>
   intro m hm he
   obtain⟨p,hp⟩:∃p,l[m]? =some p:=⟨_,List.getElem?_eq_getElem (by omega)⟩
   obtain⟨q,hq⟩:∃q,l'[m]? =some q:=⟨_,List.getElem?_eq_getElem (by omega)⟩
   have hpl:=oK l
   have hpl':=oK l'
   refine aS.round aF (lit:=false) ?_
   conv=>whnf
   refine ak (aj (T:=dZ) rfl rfl (ah (h1)) rfl) ?_
   conv=>whnf
   rw [decide_eq_true (by omega)]
   conv=>whnf
   conv=>whnf
   refine ak (aj (T:=dZ) rfl rfl (ah (h1)) rfl) ?_
   conv=>whnf
   refine⟨m,rfl,by omega,?_⟩
   conv=>whnf
   refine ak (bV (T:=kR) rfl rfl (ah hc1) (by rw [hpl];show 0+m*2+2≤_;omega)) ?_
   rw [show ((nD l).drop (0+m*2)).take (kR).size=[.s p.1,.b p.2] by rw [Nat.zero_add];exact qy l m p hp]
   conv=>whnf
   refine ak (aj (T:=dZ) rfl rfl (ah (h2)) rfl) ?_
   conv=>whnf
   refine⟨m,rfl,by omega,?_⟩
   conv=>whnf
   refine ak (bV (T:=kR) rfl rfl (ah hc2) (by rw [hpl'];show 0+m*2+2≤_;omega)) ?_
   rw [show ((nD l').drop (0+m*2)).take (kR).size=[.s q.1,.b q.2] by rw [Nat.zero_add];exact qy l' m q hq]
   conv=>whnf
   by_cases hpq:p=q
   ·subst hpq
    rw [beq_self_eq_true p.1,beq_self_eq_true p.2]
    conv=>whnf
    refine⟨((m+1:Nat):Int),wrap_i64 (by omega) (by omega),?_⟩
    conv=>whnf
    exact ih (m+1) (by omega) fun j hj=>by
        rcases Nat.lt_or_ge j m with h | h
        ·exact he j h
        ·obtain rfl:j=m:=by omega
         rw [hp,hq]
   ·have hne:(p.1 == q.1 && p.2 == q.2)=false:=by
        rw [Bool.eq_false_iff]
        intro h
        rw [Bool.and_eq_true,beq_iff_eq,beq_iff_eq] at h
        exact hpq (Prod.ext h.1 h.2)
    have hll:l≠l':=fun e=>by rw [e,hq] at hp;exact hpq (Option.some.inj hp).symm
    rw [hne]
    conv=>whnf
    exact q2 hll _ rfl
end
structure Zu (σ:St)(a b:AV)(res:Bool) where
 (o o' ln AQ:Nat) (nm nm':List UInt8) (pt xH:Bool) (l l':List (List UInt8×Bool)) (A Bd A' YK:AV) (rb:Bool)
 ea:a= .p o 0 0
 eb:b= .p o' 0 0
 h1:σ[o]? =some (gJ nm A pt Bd ln)
 h2:σ[o']? =some (gJ nm' A' xH YK AQ)
 hA:Lr σ A l
 hA':Lr σ A' l'
 hl:l.length≤100000
 hl':l'.length≤100000
 cb:ay X 53 [Bd,YK,.b false] σ fun v s=>v= .b rb∧s=σ
 hres:res=(nm == nm' && pt == xH && (l == l') && rb)
@[reducible] def sameXF (oA oB oa ga n:Nat):Env:=put (some 40) (.b false) (put (some 39) (.i .i64 n) (put (some 38) (.sl oa ga 0 n 1) (put (some 37) (.p oA 0 (0+0)) (put (some 36) (.p oA 0 0) (put (some 35) (.p oA 0 0) (put (some 34) (.i .i64 n) [(0,.p oA 0 0),(1,.p oB 0 0),(2,.b false),(7,.i .i64 n)]))))))
section
variable {σ:St} {oA oB:Nat}
set_option maxHeartbeats 4000000 in
theorem LW {oa ga ob gb:Nat} {cs ds:List AV} (hx:σ[oA]? =some (rJ (.sl oa ga 0 cs.length 1)))(hy:σ[oB]? =some (rJ (.sl ob gb 0 ds.length 1)))(hc1:σ[oa]? =some ⟨ga,false,.cells 54 cs⟩)(hc2:σ[ob]? =some ⟨gb,false,.cells 54 ds⟩)(hl:ds.length=cs.length)(hb:cs.length≤100000)(R:Nat→Bool)
 (hp:∀i,i<cs.length→∃a b,cs[i]? =some a∧ds[i]? =some b∧Nonempty (Zu σ a b (R i))) {Q:Out→Env→St→Prop}
 (q1:(∀i,i<cs.length→R i=true)→Q (.exit 0) (sameXF oA oB oa ga cs.length) σ) (q2:(∃i,i<cs.length∧R i=false)→∀e',get e' 6= .b false→Q .ret e' σ):∀(d m:Nat),m+d=cs.length→(∀i,i<m→R i=true)→
 aS X [0,1,2,7] SS [(0,.p oA 0 0),(1,.p oB 0 0),(2,.b false),(7,.i .i64 m)] σ Q:=by
 intro d
 induction d with
 | zero=>
   intro m hm hall
   obtain rfl:m=cs.length:=hm
   refine aS.round aF (lit:=false) ?_
   conv=>whnf
   refine ak (aj (T:=iM) rfl rfl (ah (hx)) rfl) ?_
   conv=>whnf
   rw [decide_eq_false (by omega)]
   conv=>whnf
   conv=>whnf
   exact q1 hall
 | succ d ih=>
   intro m hm hall
   obtain⟨a,b,ha,hb',⟨o,o',ln,AQ,nm,nm',pt,xH,l,l',A,Bd,A',YK,rb,rfl,rfl,h1,h2,hA,hA',hll,hll',cb,hres⟩⟩:=hp m (by omega)
   have ha':cs[0+m*1]? =some (.p o 0 0):=by rw [Nat.zero_add,Nat.mul_one];exact ha
   have EG:ds[0+m*1]? =some (.p o' 0 0):=by rw [Nat.zero_add,Nat.mul_one];exact hb'
   have bad:(nm == nm' && pt == xH && (l == l') && rb)=false→∀e',get e' 6= .b false→Q .ret e' σ:=fun h=>q2 ⟨m,by omega,by rw [hres];exact h⟩
   have step:R m=true→aS X [0,1,2,7] SS [(0,.p oA 0 0),(1,.p oB 0 0),(2,.b false),(7,.i .i64 (m+1:Nat))] σ Q:=fun hm'=>ih (m+1) (by omega) fun i hi=>by
    rcases Nat.lt_or_ge i m with h | h
    ·exact hall i h
    ·obtain rfl:i=m:=by omega
     exact hm'
   clear ih hp
   refine aS.round aF (lit:=false) ?_
   conv=>whnf
   refine ak (aj (T:=iM) rfl rfl (ah (hx)) rfl) ?_
   conv=>whnf
   rw [decide_eq_true (by omega)]
   conv=>whnf
   conv=>whnf
   refine ak (aj (T:=iM) rfl rfl (ah (hx)) rfl) ?_
   conv=>whnf
   refine⟨m,rfl,by omega,?_⟩
   conv=>whnf
   refine ak (aj (T:=eu) rfl rfl (ah hc1) ha') ?_
   conv=>whnf
   refine ak (aj (T:=iM) rfl rfl (ah (hy)) rfl) ?_
   conv=>whnf
   refine⟨m,rfl,by omega,?_⟩
   conv=>whnf
   refine ak (aj (T:=eu) rfl rfl (ah hc2) EG) ?_
   conv=>whnf
   refine ak (aj (T:=eG) rfl rfl (ah (h1)) rfl) ?_
   conv=>whnf
   refine ak (aj (T:=eG) rfl rfl (ah (h2)) rfl) ?_
   conv=>whnf
   cases hnm:nm == nm'
   case' false=>
    conv=>whnf
    exact bad (by simp [hnm]) _ rfl
   conv=>whnf
   refine ak (aj (T:=kY) rfl rfl (ah h1) rfl) ?_
   refine bU _ _ ?_
   conv=>whnf
   refine ak (aj (T:=kY) rfl rfl (ah h2) rfl) ?_
   refine bU _ _ ?_
   conv=>whnf
   cases hpt:pt == xH
   case' false=>
    conv=>whnf
    exact bad (by simp [hpt]) _ rfl
   conv=>whnf
   rcases hA with ⟨rfl,rfl⟩ | ⟨o1,g1,rfl,p1⟩ <;> rcases hA' with ⟨rfl,rfl⟩ | ⟨o2,g2,rfl,p2⟩
   ·refine ak (aj (T:=dZ) rfl rfl (ah (h1)) rfl) ?_
    conv=>whnf
    refine ak (aj (T:=dZ) rfl rfl (ah (h2)) rfl) ?_
    conv=>whnf
    refine ak (aj (T:=dM) rfl rfl (ah h1) rfl) ?_
    refine bU _ _ ?_
    conv=>whnf
    refine ak (aj (T:=dM) rfl rfl (ah h2) rfl) ?_
    refine bU _ _ ?_
    conv=>whnf
    refine lq _ _ ?_
    refine dW _ _ ?_
    refine ay.to cb ?_
    cases rb
    case' false=>
        conv=>whnf
        exact bad (by simp) _ rfl
    conv=>whnf
    refine aS.round aF (lit:=false) ?_
    conv=>whnf
    refine ak (aj (T:=dZ) rfl rfl (ah (h1)) rfl) ?_
    conv=>whnf
    refine⟨((m+1:Nat):Int),wrap_i64 (by omega) (by omega),?_⟩
    conv=>whnf
    exact step (by rw [hres,hnm,hpt];simp)
   ·by_cases hz:0=l'.length
    case' neg=>
        refine ak (aj (T:=dZ) rfl rfl (ah (h1)) rfl) ?_
        conv=>whnf
        refine ak (aj (T:=dZ) rfl rfl (ah (h2)) rfl) ?_
        conv=>whnf
        rw [decide_eq_false (by omega)]
        conv=>whnf
        conv=>whnf
        exact bad (by cases l' with | nil=>exact absurd rfl hz | cons _ _=>simp) _ rfl
    obtain rfl:l'= []:=List.length_eq_zero_iff.1 hz.symm
    refine ak (aj (T:=dZ) rfl rfl (ah (h1)) rfl) ?_
    conv=>whnf
    refine ak (aj (T:=dZ) rfl rfl (ah (h2)) rfl) ?_
    conv=>whnf
    refine ak (aj (T:=dM) rfl rfl (ah h1) rfl) ?_
    refine bU _ _ ?_
    conv=>whnf
    refine ak (aj (T:=dM) rfl rfl (ah h2) rfl) ?_
    refine bU _ _ ?_
    conv=>whnf
    refine lq _ _ ?_
    refine dW _ _ ?_
    refine ay.to cb ?_
    cases rb
    case' false=>
        conv=>whnf
        exact bad (by simp) _ rfl
    conv=>whnf
    refine aS.round aF (lit:=false) ?_
    conv=>whnf
    refine ak (aj (T:=dZ) rfl rfl (ah (h1)) rfl) ?_
    conv=>whnf
    refine⟨((m+1:Nat):Int),wrap_i64 (by omega) (by omega),?_⟩
    conv=>whnf
    exact step (by rw [hres,hnm,hpt];simp)
   ·by_cases hz:l.length=0
    case' neg=>
        refine ak (aj (T:=dZ) rfl rfl (ah (h1)) rfl) ?_
        conv=>whnf
        refine ak (aj (T:=dZ) rfl rfl (ah (h2)) rfl) ?_
        conv=>whnf
        rw [decide_eq_false (by omega)]
        conv=>whnf
        conv=>whnf
        exact bad (by cases l with | nil=>exact absurd rfl hz | cons _ _=>simp) _ rfl
    obtain rfl:l=[]:=List.length_eq_zero_iff.1 hz
    refine ak (aj (T:=dZ) rfl rfl (ah (h1)) rfl) ?_
    conv=>whnf
    refine ak (aj (T:=dZ) rfl rfl (ah (h2)) rfl) ?_
    conv=>whnf
    refine ak (aj (T:=dM) rfl rfl (ah h1) rfl) ?_
    refine bU _ _ ?_
    conv=>whnf
    refine ak (aj (T:=dM) rfl rfl (ah h2) rfl) ?_
    refine bU _ _ ?_
    conv=>whnf
    refine lq _ _ ?_
    refine dW _ _ ?_
    refine ay.to cb ?_
    cases rb
    case' false=>
        conv=>whnf
        exact bad (by simp) _ rfl
    conv=>whnf
    refine aS.round aF (lit:=false) ?_
    conv=>whnf
    refine ak (aj (T:=dZ) rfl rfl (ah (h1)) rfl) ?_
    conv=>whnf
    refine⟨((m+1:Nat):Int),wrap_i64 (by omega) (by omega),?_⟩
    conv=>whnf
    exact step (by rw [hres,hnm,hpt];simp)
   ·by_cases hz:l.length=l'.length
    case' neg=>
        refine ak (aj (T:=dZ) rfl rfl (ah (h1)) rfl) ?_
        conv=>whnf
        refine ak (aj (T:=dZ) rfl rfl (ah (h2)) rfl) ?_
        conv=>whnf
        rw [decide_eq_false (by omega)]
        conv=>whnf
        conv=>whnf
        exact bad (by
         have:(l == l')=false:=by rw [beq_eq_false_iff_ne];exact fun e=>hz (by rw [e])
         simp [this]) _ rfl
    refine ak (aj (T:=dZ) rfl rfl (ah (h1)) rfl) ?_
    conv=>whnf
    refine ak (aj (T:=dZ) rfl rfl (ah (h2)) rfl) ?_
    conv=>whnf
    rw [decide_eq_true (by omega)]
    conv=>whnf
    conv=>whnf
    refine ak (aj (T:=dM) rfl rfl (ah h1) rfl) ?_
    refine bU _ _ ?_
    conv=>whnf
    refine ak (aj (T:=dM) rfl rfl (ah h2) rfl) ?_
    refine bU _ _ ?_
    conv=>whnf
    refine lq _ _ ?_
    refine dW _ _ ?_
    refine ay.to cb ?_
    cases rb
    case' false=>
        conv=>whnf
        exact bad (by simp) _ rfl
    conv=>whnf
    refine LV h1 h2 p1 p2 hz hll (fun e=>?_) (fun e e' h6=>?_) l.length 0 (by omega) (fun i hi=>absurd hi (Nat.not_lt_zero i))
    ·conv=>whnf
     refine⟨((m+1:Nat):Int),wrap_i64 (by omega) (by omega),?_⟩
     conv=>whnf
     exact step (by rw [hres,hnm,hpt];simp [e])
    ·conv=>whnf
     exact bad (by simp [e]) _ h6
end
end Go.bG.YtjcicgkencfbgaaGreatDoor
