/- Texts of this claim, joined: Xb, Xc, Xd, Xe, Xf, Xg. -/
import Derived.Test.YtlkfbfhkcaldlaaGreatDoorM27
import Derived.Test.YtlkfbfhkcaldlaaGreatDoorM24
import Derived.Test.YtlkfbfhkcaldlaaGreatDoorM26
set_option linter.unusedVariables false
set_option linter.unusedSimpArgs false
namespace Go.Abs.YtlkfbfhkcaldlaaGreatDoor
open Go.Proofs
set_option maxRecDepth 4000
@[reducible] def argY (ox gx oa ga n:Nat) (T:List UInt8):Env:=put (some 43) (.b false) (put (some 42) (.i .i64 n) (put (some 41) (.sl oa ga 0 n 1) (put (some 40) (.p ox gx (0+6)) (put (some 39) (.p ox gx 0) (put (some 38) (.p ox gx 0) (put (some 37) (.i .i64 n) [(0,.p ox gx 0),(5,.s T),(6,.i .i64 n)]))))))
section
variable {Z:St}
set_option maxHeartbeats 2000000 in
theorem args_loopX {k n ln:Nat} {nm tx:List UInt8} {L R:AV} {S:Nat->Prop} {ox gx oa ga:Nat} {cs:List AV} (hx:Z[ox]? =some (Zg gx k n nm tx L R (.sl oa ga 0 cs.length 1) ln))(hc:Z[oa]? =some ⟨ga,false,.cells 44 cs⟩)(hcl:cs.length<=1000000000):∀(r:List Tr),(∀t∈r,WT t)->(∀(i:Nat) t,r[i]? =some t->XLaw Z t)->∀(m:Nat) (T:List UInt8),m+r.length=cs.length->
 (∀(i:Nat) t,r[i]? =some t->∃a,cs[m+i]? =some a/\bP S Z a t)->T.length+(ZJ r (m == 0)).length<=1000000000->∀{Q:Out->Env->St->Prop},Q (.exit 1) (argY ox gx oa ga cs.length (T ++ ZJ r (m == 0))) Z->aV X [0,5,6] c76L0 [(0,.p ox gx 0),(5,.s T),(6,.i .i64 m)] Z Q:=by
 intro r
 induction r with
 | nil=>
   intro _ _ m T hm _ _ Q q
   obtain rfl:m=cs.length:=hm
   simp only [ZJ,List.append_nil] at q
   refine aV.round ay (lit:=false) ?_
   conv=>whnf
   refine ak (aj (T:=uf) rfl rfl (ah (hx)) rfl) ?_
   conv=>whnf
   rw [decide_eq_false (by omega)]
   conv=>whnf
   conv=>whnf
   exact q
 | cons t r ih=>
   intro hw JA m T hm hel hl Q q
   simp only [bg] at hm
   obtain⟨a,ha,hxa⟩:=hel 0 t rfl
   have hwt:=hw t (List.mem_cons_self ..)
   obtain⟨oy,gy,rfl⟩:=hxa.ptr hwt
   have ha':cs[0+m*1]? =some (.p oy gy 0):=by rw [Nat.zero_add,Nat.mul_one];exact ha
   simp only [ZJ,bM] at hl q
   have rest:aV X [0,5,6] c76L0 [(0,.p ox gx 0),(5,.s (T ++ (if(m == 0)=true then [] else [44,32]) ++ lF t 1)),(6,.i .i64 ((m+1:Nat):Int))] Z Q:=by
    refine ih (fun t ht=>hw t (List.mem_cons_of_mem _ ht)) (fun i t' ht=>JA (i+1) t' (by simpa using ht)) (m+1) _ (by omega) (fun i t' ht=>?_) ?_ ?_
    ·obtain⟨a,h1,h2⟩:=hel (i+1) t' (by simpa using ht)
     exact⟨a,by rw [show m+1+i=m+(i+1) by omega];exact h1,h2⟩
    ·rw [show (m+1 == 0)=false from rfl];simp only [bM];omega
    ·rw [show (m+1 == 0)=false from rfl];simpa [iC] using q
   have hlaw0:=JA 0 t rfl 1 hxa
   cases m with
   | zero=>
     rw [show (T ++ (if(0 == 0)=true then [] else [44,32]) ++ lF t 1)=T ++ lF t 1 by simp] at rest
     refine aV.round ay (lit:=false) ?_
     conv=>whnf
     refine ak (aj (T:=uf) rfl rfl (ah (hx)) rfl) ?_
     conv=>whnf
     rw [decide_eq_true (by omega)]
     conv=>whnf
     conv=>whnf
     refine ak (aj (T:=uf) rfl rfl (ah (hx)) rfl) ?_
     conv=>whnf
     refine⟨0,rfl,by omega,?_⟩
     conv=>whnf
     refine ak (aj (T:=aW) rfl rfl (ah hc) ha') ?_
     conv=>whnf
     refine au.to hlaw0 ?_
     conv=>whnf
     refine⟨by omega,?_⟩
     conv=>whnf
     refine⟨((0+1:Nat):Int),wrap_i64 (by omega) (by omega),?_⟩
     conv=>whnf
     exact rest
   | succ m=>
     rw [show (T ++ (if(m+1 == 0)=true then [] else [44,32]) ++ lF t 1)=T ++ [44,32] ++ lF t 1 by simp] at rest
     simp only [show (m+1 == 0)=false from rfl,nR,if_false,bg,bZ] at hl
     refine aV.round ay (lit:=false) ?_
     conv=>whnf
     refine ak (aj (T:=uf) rfl rfl (ah (hx)) rfl) ?_
     conv=>whnf
     rw [decide_eq_true (by omega)]
     conv=>whnf
     conv=>whnf
     rw [decide_eq_true (show (0:Int)<((m+1:Nat):Int) by omega)]
     conv=>whnf
     refine⟨by(try simp only [bM,bg,bZ]);omega,?_⟩
     conv=>whnf
     refine ak (aj (T:=uf) rfl rfl (ah (hx)) rfl) ?_
     conv=>whnf
     refine⟨m+1,rfl,by omega,?_⟩
     conv=>whnf
     refine ak (aj (T:=aW) rfl rfl (ah hc) ha') ?_
     conv=>whnf
     refine au.to hlaw0 ?_
     conv=>whnf
     refine⟨by(try simp only [bM,bg,bZ]);omega,?_⟩
     conv=>whnf
     refine⟨((m+1+1:Nat):Int),wrap_i64 (by omega) (by omega),?_⟩
     conv=>whnf
     exact rest
set_option maxHeartbeats 2000000 in
theorem x_call {n ln:Nat} {nm tx:List UInt8} {l r:Tr} {ar:jA} (hnm:nm.length<=32)(hw:OI ar)(hn:Jw ar<=1000000)(ia:∀(i:Nat) t,(kM ar)[i]? =some t->XLaw Z t):XLaw Z (.ex 4 n nm tx l r ar ln):=by
 intro S v c hv
 obtain⟨ox,gx,L,R,Ax,hs,rfl,hx,_,_,hAx⟩:=hv
 have hl:=prA_len2 hw true
 have hal:=Qz hw true
 rw [lF,if_neg (by decide),if_neg (by decide),if_pos rfl]
 cases ar with
 | nil=>
   obtain rfl:Ax= .sl0:=hAx
   refine au.body (F:=F76) ay (lit:=false) rfl rfl (aU rfl) ?_
   conv=>whnf
   refine ak (aj (T:=fF) rfl rfl (ah (hx)) rfl) ?_
   conv=>whnf
   refine ak (aj (T:=fB) rfl rfl (ah (hx)) rfl) ?_
   conv=>whnf
   refine⟨by(try simp only [bM,bg,bZ]);omega,?_⟩
   conv=>whnf
   refine aV.round ay (lit:=false) ?_
   conv=>whnf
   refine ak (aj (T:=uf) rfl rfl (ah (hx)) rfl) ?_
   conv=>whnf
   refine⟨by(try simp only [bM,bg,bZ]);omega,?_⟩
   conv=>whnf
   exact Fin.flat rfl iq ⟨by simp [Ce],rfl⟩
 | cons t y=>
   obtain⟨oa,ga,cs,rfl,ho,hlen,hel⟩:=hAx.list
   rw [Jz] at hl hal ⊢
   refine au.body (F:=F76) ay (lit:=false) rfl rfl (aU rfl) ?_
   conv=>whnf
   refine ak (aj (T:=fF) rfl rfl (ah (hx)) rfl) ?_
   conv=>whnf
   refine ak (aj (T:=fB) rfl rfl (ah (hx)) rfl) ?_
   conv=>whnf
   refine⟨by(try simp only [bM,bg,bZ]);omega,?_⟩
   conv=>whnf
   refine args_loopX hx ho (by omega) (kM (.cons t y)) (QA hw) ia 0 (nm ++ [40]) (by omega) (fun i t' ht=>by rw [Nat.zero_add];exact hel i t' ht) (by show _+(ZJ _ true).length<=_;simp only [bM,bg,bZ];omega) ?_
   rw [show (0 == 0)=true from rfl]
   conv=>whnf
   refine⟨by(try simp only [bM,bg,bZ]);omega,?_⟩
   conv=>whnf
   exact Fin.flat rfl iq ⟨by simp,rfl⟩
mutual
theorem aas:∀(t:Tr),WT t->nT t<=1000000->XLaw Z t
 | .nil,h,_=>by cases h
 | .ex k n nm tx l r ar ln,h,hn=>by
   simp only [nT] at hn
   cases h with
   | num _ _ h=>exact x_num h
   | name _ _ h=>exact x_name
   | un _ _ _ h1 h2=>exact x_un (by rcases h1 with rfl | rfl <;> decide) h2 (by omega) (aas _ h2 (by omega))
   | bin _ _ _ _ h1 h2 h3=>exact x_bin (op_2 h1) h2 h3 (by omega) (by omega) (aas _ h2 (by omega)) (aas _ h3 (by omega))
   | call _ _ _ h1 h2=>exact x_call (vY h1) h2 (by omega) (xs_all _ h2 (by omega))
   | cell _ _ _ h1 h2=>exact x_cell h1 h2 (by omega) (by omega) (aas _ h1 (by omega)) (aas _ h2 (by omega))
   | link _ _ _ h1 h2=>exact x_link h1 h2 (by omega) (by omega) (aas _ h1 (by omega)) (aas _ h2 (by omega))
   | new _ _ h=>exact x_new h (by omega) (aas _ h (by omega))
   | inn _=>exact x_in
theorem xs_all:∀(a:jA),OI a->Jw a<=1000000->∀(i:Nat) t,(kM a)[i]? =some t->XLaw Z t
 | .nil,_,_,i,t,ht=>by simp [kM] at ht
 | .cons s r,h,hn,i,t,ht=>by
   simp only [Jw] at hn
   have h1:WT s:=by cases h with | cons _ _ h1 h2=>exact h1
   have h2:OI r:=by cases h with | cons _ _ h1 h2=>exact h2
   cases i with
   | zero=>simp only [kM,List.getElem?_cons_zero,oW] at ht;subst ht;exact aas _ h1 (by omega)
   | succ i=>exact xs_all r h2 (by omega) i t (by simpa [kM] using ht)
end
end
end Go.Abs.YtlkfbfhkcaldlaaGreatDoor
namespace Go.Abs.YtlkfbfhkcaldlaaGreatDoor
open Go.Proofs
set_option maxRecDepth 4000
@[reducible] def tabY (d:Nat) (T:List UInt8):Env:=put (some 7) (.b false) (put (some 6) (.i .i64 d) (put (some 5) (.i .i64 d) [(0,.i .i64 d),(3,.s T),(4,.i .i64 d)]))
@[reducible] def blkY (v:AV) (d n:Nat) (T:List UInt8):Env:=put (some 10) (.b false) (put (some 9) (.i .i64 n) (put (some 8) v (put (some 7) (.i .i64 n) [(0,v),(1,.i .i64 d),(5,.s T),(6,.i .i64 n)])))
section
variable {Z:St}
theorem tabs_loopX {d:Nat} (hd:d<=1000):∀(k m:Nat) (T:List UInt8),m+k=d->T.length<=m->∀{Q:Out->Env->St->Prop},Q (.exit 0) (tabY d (T ++ List.replicate k 9)) Z->aV X [0,3,4] c42L0 [(0,.i .i64 d),(3,.s T),(4,.i .i64 m)] Z Q:=by
 intro k
 induction k with
 | zero=>
   intro m T hm _ Q q
   obtain rfl:m=d:=hm
   rw [List.replicate_zero,List.append_nil] at q
   refine aV.round ay (lit:=false) ?_
   conv=>whnf
   rw [decide_eq_false (by omega)]
   conv=>whnf
   conv=>whnf
   exact q
 | succ k ih=>
   intro m T hm hT Q q
   refine aV.round ay (lit:=false) ?_
   conv=>whnf
   rw [decide_eq_true (by omega)]
   conv=>whnf
   conv=>whnf
   refine⟨by(try simp only [bM,bg,bZ]);omega,?_⟩
   conv=>whnf
   refine⟨((m+1:Nat):Int),wrap_i64 (by omega) (by omega),?_⟩
   conv=>whnf
   refine ih (m+1) (T ++ [9]) (by omega) (by simp only [bM,bg,bZ];omega) ?_
   rw [iC]
   exact q
theorem tabsX {d:Nat} (hd:d<=1000):StrF 42 [.i .i64 d] Z (bn (lu d)):=by
 rw [OV]
 refine au.body (F:=F42) ay (lit:=false) rfl rfl (aU rfl) ?_
 conv=>whnf
 refine tabs_loopX hd d 0 [] (by omega) (by simp) ?_
 conv=>whnf
 exact Fin.flat rfl iq ⟨rfl,rfl⟩
def SLaw (Z:St)(s:Sm):Prop:=∀{S:Nat->Prop} {v:AV} (d:Nat),jc S Z v s->d+dS s<=70->(bn (gu s d)).length<=1000000000->StrF 43 [v,.i .i64 d] Z (bn (gu s d))
def LSLaw (Z:St)(b:gY):Prop:=∀(i:Nat) s,(jy b)[i]? =some s->SLaw Z s
set_option maxHeartbeats 2000000 in
theorem stmts_loopX {S:Nat->Prop} {oa ga d:Nat} {cs:List AV} (hc:Z[oa]? =some ⟨ga,false,.cells 96 cs⟩)(hcl:cs.length<=1000000000)(hd:d<=1000):∀(r:List Sm),(∀(i:Nat) s,r[i]? =some s->SLaw Z s/\d+dS s<=70)->∀(m:Nat) (T:List UInt8),m+r.length=cs.length->
 (∀(i:Nat) s,r[i]? =some s->∃a,cs[m+i]? =some a/\jc S Z a s)->T.length+(QC d r).length<=1000000000->∀{Q:Out->Env->St->Prop},Q (.exit 0) (blkY (.sl oa ga 0 cs.length 1) d cs.length (T ++ QC d r)) Z->aV X [0,1,5,6] c19L0 [(0,.sl oa ga 0 cs.length 1),(1,.i .i64 d),(5,.s T),(6,.i .i64 m)] Z Q:=by
 intro r
 induction r with
 | nil=>
   intro _ m T hm _ _ Q q
   obtain rfl:m=cs.length:=hm
   simp only [QC,List.append_nil] at q
   refine aV.round ay (lit:=false) ?_
   conv=>whnf
   rw [decide_eq_false (by omega)]
   conv=>whnf
   conv=>whnf
   exact q
 | cons s r ih=>
   intro JA m T hm hel hl Q q
   simp only [bg] at hm
   obtain⟨a,ha,hx⟩:=hel 0 s rfl
   obtain⟨ox,gx,rfl⟩:=hx.ptr
   have ha':cs[0+m*1]? =some (.p ox gx 0):=by rw [Nat.zero_add,Nat.mul_one];exact ha
   simp only [QC,bM,bg,bZ] at hl q
   obtain⟨q1,q2⟩:=JA 0 s rfl
   have hsx:=q1 d hx q2 (by omega)
   have rest:aV X [0,1,5,6] c19L0 [(0,.sl oa ga 0 cs.length 1),(1,.i .i64 d),(5,.s (T ++ bn (lu d) ++ bn (gu s d) ++ [10])),(6,.i .i64 ((m+1:Nat):Int))] Z Q:=by
    refine ih (fun i t ht=>JA (i+1) t (by simpa using ht)) (m+1) _ (by omega) (fun i t ht=>?_) ?_ ?_
    ·obtain⟨a,h1,h2⟩:=hel (i+1) t (by simpa using ht)
     exact⟨a,by rw [show m+1+i=m+(i+1) by omega];exact h1,h2⟩
    ·simp only [bM,bg,bZ];omega
    ·simpa [iC] using q
   generalize bn (gu s d)=U at hl hsx rest
   have htabs:=tabsX (Z:=Z) hd
   generalize bn (lu d)=V at hl htabs rest
   refine aV.round ay (lit:=false) ?_
   conv=>whnf
   rw [decide_eq_true (by omega)]
   conv=>whnf
   conv=>whnf
   refine⟨m,rfl,by omega,?_⟩
   conv=>whnf
   refine ak (aj (T:=dH) rfl rfl (ah hc) ha') ?_
   conv=>whnf
   refine au.to htabs ?_
   conv=>whnf
   refine⟨?_,?_⟩
   ·conv=>whnf
    refine ak (aj (T:=dH) rfl rfl (ah hc) ha') ?_
    rfl
   ·conv=>whnf
    refine⟨by(try simp only [bM,bg,bZ]);omega,?_⟩
    conv=>whnf
    refine au.to hsx ?_
    conv=>whnf
    refine⟨by(try simp only [bM,bg,bZ]);omega,?_⟩
    conv=>whnf
    refine⟨by(try simp only [bM,bg,bZ]);omega,?_⟩
    conv=>whnf
    refine⟨((m+1:Nat):Int),wrap_i64 (by omega) (by omega),?_⟩
    conv=>whnf
    exact rest
theorem blockX {S:Nat->Prop} {v:AV} {b:gY} {d:Nat} (JA:LSLaw Z b)(hd:d+Cb b<=70)(hv:dX S Z v b)(hl:(bn (jo b d)).length<=1000000000):StrF 19 [v,.i .i64 d] Z (bn (jo b d)):=by
 rw [txSs] at hl ⊢
 cases b with
 | nil=>
   obtain rfl:v= .sl0:=hv
   refine au.body (F:=F19) ay (lit:=false) rfl rfl (aU rfl) ?_
   conv=>whnf
   refine aV.round ay (lit:=false) ?_
   conv=>whnf
   conv=>whnf
   exact Fin.flat rfl iq ⟨rfl,rfl⟩
 | cons s r=>
   obtain⟨oa,ga,cs,rfl,ho,hlen,hel⟩:=hv.list
   have hcl:=QD d (jy (.cons s r))
   refine au.body (F:=F19) ay (lit:=false) rfl rfl (aU rfl) ?_
   conv=>whnf
   refine stmts_loopX ho (by omega) (by omega) (jy (.cons s r)) (fun i t ht=>⟨JA i t ht,by have:=QE _ i t ht;omega⟩) 0 [] (by omega) (fun i t ht=>by rw [Nat.zero_add];exact hel i t ht) (by simp only [bZ];omega) ?_
   conv=>whnf
   exact Fin.flat rfl iq ⟨rfl,rfl⟩
end
end Go.Abs.YtlkfbfhkcaldlaaGreatDoor
namespace Go.Abs.YtlkfbfhkcaldlaaGreatDoor
open Go.Proofs
set_option maxRecDepth 4000
theorem txB_eq (b:gY)(d:Nat):Fp b d=[32,123,10] ++ bn (jo b (d+1)) ++ bn (lu d) ++ [125]:=by
 unfold Fp oQ;rw [aS,aS,aS];simp [qp,bn]
section
variable {Z:St}
def BLaw (Z:St)(s:Sm):Prop:=∀{S:Nat->Prop} {v:AV} (d:Nat),jc S Z v s->d+dS s<=70->(bn (gu s d)).length<=1000000000->StrF 77 [v,.i .i64 d] Z (bn (gu s d))
set_option maxHeartbeats 4000000 in
theorem branchX {r:Tr} {th el:gY} {ln:Nat} (hw:WT r)(hn:nT r<=1000000)(hth:LSLaw Z th)(hel:LSLaw Z el)(hif:∀s,el= .cons s .nil->kS s=4->BLaw Z s):BLaw Z (.st 4 [] false .nil r th el ln):=by
 intro S v d hv hd hl
 obtain⟨ox,gx,L,R,T,E,hs,rfl,hx,_,hR,hTh,hEl⟩:=hv
 rw [tx_4,txB_eq] at hl ⊢
 simp only [bM,bg,bZ] at hl
 simp only [dS,if_true] at hd
 obtain⟨oR,gR,rfl⟩:=hR.ptr hw
 have hRx:=aas r hw hn 1 hR
 have hBx:=blockX (d:=d+1) hth (by omega) hTh (by omega)
 have hVx:=tabsX (Z:=Z) (d:=d) (by omega)
 have hshT:=hTh.shape
 generalize lF r 1=U0 at hl hRx ⊢
 generalize bn (jo th (d+1))=U1 at hl hBx ⊢
 generalize hVe:bn (lu d)=V at hl hVx ⊢
 rcases hshT with rfl | ⟨oT,gT,mT,rfl⟩
 all_goals
  refine au.body (F:=F77) ay (lit:=false) rfl rfl (aU rfl) ?_
  conv=>whnf
  refine ak (aj (T:=aW) rfl rfl (ah (hx)) rfl) ?_
  conv=>whnf
  refine ak (aj (T:=dL) rfl rfl (ah (hx)) rfl) ?_
  conv=>whnf
  refine⟨((d+1:Nat):Int),wrap_i64 (by omega) (by omega),?_⟩
  conv=>whnf
  refine au.to hRx ?_
  conv=>whnf
  refine⟨?_,?_⟩
  ·conv=>whnf
   refine ak (aj (T:=dL) rfl rfl (ah (hx)) rfl) ?_
   rfl
  conv=>whnf
  refine⟨by(try simp only [bM,bg,bZ]);omega,?_⟩
  conv=>whnf
  refine⟨by(try simp only [bM,bg,bZ]);omega,?_⟩
  conv=>whnf
  refine au.to hBx ?_
  conv=>whnf
  refine⟨by(try simp only [bM,bg,bZ]);omega,?_⟩
  conv=>whnf
  refine au.to hVx ?_
  conv=>whnf
  refine⟨by(try simp only [bM,bg,bZ]);omega,?_⟩
  conv=>whnf
  refine⟨by(try simp only [bM,bg,bZ]);omega,?_⟩
  conv=>whnf
  cases el with
  | nil=>
    obtain rfl:E= .sl0:=hEl
    rw [tx_el0]
    refine ak (aj (T:=dL) rfl rfl (ah (hx)) rfl) ?_
    conv=>whnf
    refine ak (aj (T:=dL) rfl rfl (ah (hx)) rfl) ?_
    conv=>whnf
    exact Fin.flat rfl iq ⟨by simp [iC],rfl⟩
  | cons s y=>
    have hEl0:=hEl
    obtain⟨oE,gE,cs,hoE,rfl,hE,a,tl,hcs,hsA,hyA⟩:=hEl
    obtain⟨os,gs,rfl⟩:=hsA.ptr
    have hlen:cs.length=tl.length+1:=by rw [hcs];rfl
    have hy0:tl.length=0↔rW y=true:=by
        cases y with
        | nil=>have h:tl=[]:=hyA;subst h;simp [rW]
        | cons=>obtain⟨a2,tl2,h,_⟩:=hyA;subst h;simp [rW]
    have hcell:cs[0+0*1]? =some (.p os gs 0):=by rw [hcs];rfl
    obtain⟨ks,nms,ps,lls,rrs,ths,els,lns⟩:=s
    have hsA':=hsA
    obtain⟨o2,g2,L2,R2,T2,E2,hs2,hv2,hx2s,_⟩:=hsA
    injection hv2 with e1 e2 _
    subst e1;subst e2
    by_cases hk:rW y=true/\ks=4
    ·rw [ZL _ _ _ hk] at hl ⊢
     simp only [bM,bg,bZ] at hl
     have h0:=hy0.2 hk.1
     have hy:y= .nil:=by cases y with
      | nil=>rfl
      | cons=>cases hk.1
     subst hy
     obtain⟨_,rfl⟩:=hk
     rw [show cs.length=1 by omega] at hx
     simp only [Qp,show rW .nil=true from rfl,kS,and_self,if_true] at hd
     have hIx:=hif _ rfl rfl d hsA' (by omega) (by omega)
     generalize bn (gu (.st 4 nms ps lls rrs ths els lns) d)=U2 at hl hIx ⊢
     refine ak (aj (T:=dL) rfl rfl (ah (hx)) rfl) ?_
     conv=>whnf
     refine ak (aj (T:=dL) rfl rfl (ah (hx)) rfl) ?_
     conv=>whnf
     refine⟨0,rfl,by decide,?_⟩
     conv=>whnf
     refine ak (aj (T:=dH) rfl rfl (ah hE) hcell) ?_
     conv=>whnf
     refine ak (aj (T:=fF) rfl rfl (ah (hx2s)) rfl) ?_
     conv=>whnf
     refine⟨by(try simp only [bM,bg,bZ]);omega,?_⟩
     conv=>whnf
     refine ak (aj (T:=dL) rfl rfl (ah (hx)) rfl) ?_
     conv=>whnf
     refine⟨0,rfl,by decide,?_⟩
     conv=>whnf
     refine ak (aj (T:=dH) rfl rfl (ah hE) hcell) ?_
     conv=>whnf
     refine au.to hIx ?_
     conv=>whnf
     refine⟨by(try simp only [bM,bg,bZ]);omega,?_⟩
     conv=>whnf
     exact Fin.flat rfl iq ⟨by simp [iC],rfl⟩
    ·rw [ZM _ _ _ hk,txB_eq] at hl ⊢
     simp only [bM,bg,bZ] at hl
     rw [dEl_no _ _ (show ¬(rW y=true/\kS (.st ks nms ps lls rrs ths els lns)=4) from hk)] at hd
     have hd2:d+1+Cb (.cons (.st ks nms ps lls rrs ths els lns) y)<=70:=by simp only [Cb];omega
     have hIx:=blockX (d:=d+1) hel hd2 hEl0 (by omega)
     generalize bn (jo (.cons (.st ks nms ps lls rrs ths els lns) y) (d+1))=U2 at hl hIx ⊢
     rw [hVe] at hl ⊢
     refine ak (aj (T:=dL) rfl rfl (ah (hx)) rfl) ?_
     conv=>whnf
     by_cases h1c:cs.length=1
     ·have hks:ks≠4:=fun e=>hk ⟨hy0.1 (by omega),e⟩
      rw [show decide ((cs.length:Int)=1)=true from decide_eq_true (by omega)]
      conv=>whnf
      refine ak (aj (T:=dL) rfl rfl (ah (hx)) rfl) ?_
      conv=>whnf
      refine⟨0,rfl,by omega,?_⟩
      conv=>whnf
      refine ak (aj (T:=dH) rfl rfl (ah hE) hcell) ?_
      conv=>whnf
      refine ak (aj (T:=fF) rfl rfl (ah (hx2s)) rfl) ?_
      conv=>whnf
      rw [show decide ((ks:Int)=4)=false from decide_eq_false (by omega)]
      conv=>whnf
      refine ak (aj (T:=dL) rfl rfl (ah (hx)) rfl) ?_
      conv=>whnf
      rw [show decide ((0:Int)<(cs.length:Int))=true from decide_eq_true (by omega)]
      conv=>whnf
      refine⟨by(try simp only [bM,bg,bZ]);omega,?_⟩
      conv=>whnf
      refine ak (aj (T:=dL) rfl rfl (ah (hx)) rfl) ?_
      conv=>whnf
      refine⟨((d+1:Nat):Int),wrap_i64 (by omega) (by omega),?_⟩
      conv=>whnf
      refine au.to hIx ?_
      conv=>whnf
      refine⟨by(try simp only [bM,bg,bZ]);omega,?_⟩
      conv=>whnf
      refine au.to hVx ?_
      conv=>whnf
      refine⟨by(try simp only [bM,bg,bZ]);omega,?_⟩
      conv=>whnf
      refine⟨by(try simp only [bM,bg,bZ]);omega,?_⟩
      conv=>whnf
      exact Fin.flat rfl iq ⟨by simp [iC],rfl⟩
     ·rw [show decide ((cs.length:Int)=1)=false from decide_eq_false (by omega)]
      conv=>whnf
      refine ak (aj (T:=dL) rfl rfl (ah (hx)) rfl) ?_
      conv=>whnf
      rw [show decide ((0:Int)<(cs.length:Int))=true from decide_eq_true (by omega)]
      conv=>whnf
      refine⟨by(try simp only [bM,bg,bZ]);omega,?_⟩
      conv=>whnf
      refine ak (aj (T:=dL) rfl rfl (ah (hx)) rfl) ?_
      conv=>whnf
      refine⟨((d+1:Nat):Int),wrap_i64 (by omega) (by omega),?_⟩
      conv=>whnf
      refine au.to hIx ?_
      conv=>whnf
      refine⟨by(try simp only [bM,bg,bZ]);omega,?_⟩
      conv=>whnf
      refine au.to hVx ?_
      conv=>whnf
      refine⟨by(try simp only [bM,bg,bZ]);omega,?_⟩
      conv=>whnf
      refine⟨by(try simp only [bM,bg,bZ]);omega,?_⟩
      conv=>whnf
      exact Fin.flat rfl iq ⟨by simp [iC],rfl⟩
end
end Go.Abs.YtlkfbfhkcaldlaaGreatDoor
namespace Go.Abs.YtlkfbfhkcaldlaaGreatDoor
open Go.Proofs
set_option maxRecDepth 4000
section
variable {Z:St}
set_option maxHeartbeats 2000000 in
theorem x_out {r:Tr} {ln:Nat} (hw:WT r)(hn:nT r<=1000000):SLaw Z (.st 6 [] false .nil r .nil .nil ln):=by
 intro S v d hv hd hl
 obtain⟨ox,gx,L,R,T,E,hs,rfl,hx,_,hR,_⟩:=hv
 rw [tx_6] at hl ⊢
 simp only [bM,bg,bZ] at hl
 obtain⟨oR,gR,rfl⟩:=hR.ptr hw
 have hRx:=aas r hw hn 1 hR
 generalize lF r 1=U0 at hl hRx ⊢
 refine au.body (F:=F43) ay (lit:=false) rfl rfl (aU rfl) ?_
 conv=>whnf
 refine ak (aj (T:=fF) rfl rfl (ah (hx)) rfl) ?_
 conv=>whnf
 refine ak (aj (T:=aW) rfl rfl (ah (hx)) rfl) ?_
 conv=>whnf
 refine au.to hRx ?_
 conv=>whnf
 refine⟨by(try simp only [bM,bg,bZ]);omega,?_⟩
 conv=>whnf
 refine⟨by(try simp only [bM,bg,bZ]);omega,?_⟩
 conv=>whnf
 exact Fin.flat rfl iq ⟨by simp [iC],rfl⟩
set_option maxHeartbeats 2000000 in
theorem x_free {r:Tr} {ln:Nat} (hw:WT r)(hn:nT r<=1000000):SLaw Z (.st 7 [] false .nil r .nil .nil ln):=by
 intro S v d hv hd hl
 obtain⟨ox,gx,L,R,T,E,hs,rfl,hx,_,hR,_⟩:=hv
 rw [tx_7] at hl ⊢
 simp only [bM,bg,bZ] at hl
 obtain⟨oR,gR,rfl⟩:=hR.ptr hw
 have hRx:=aas r hw hn 1 hR
 generalize lF r 1=U0 at hl hRx ⊢
 refine au.body (F:=F43) ay (lit:=false) rfl rfl (aU rfl) ?_
 conv=>whnf
 refine ak (aj (T:=fF) rfl rfl (ah (hx)) rfl) ?_
 conv=>whnf
 refine ak (aj (T:=aW) rfl rfl (ah (hx)) rfl) ?_
 conv=>whnf
 refine au.to hRx ?_
 conv=>whnf
 refine⟨by(try simp only [bM,bg,bZ]);omega,?_⟩
 conv=>whnf
 refine⟨by(try simp only [bM,bg,bZ]);omega,?_⟩
 conv=>whnf
 exact Fin.flat rfl iq ⟨by simp [iC],rfl⟩
set_option maxHeartbeats 2000000 in
theorem x_callS {r:Tr} {ln:Nat} (hw:WT r)(hn:nT r<=1000000):SLaw Z (.st 10 [] false .nil r .nil .nil ln):=by
 intro S v d hv hd hl
 obtain⟨ox,gx,L,R,T,E,hs,rfl,hx,_,hR,_⟩:=hv
 rw [tx_10] at hl ⊢
 simp only [bM,bg,bZ] at hl
 obtain⟨oR,gR,rfl⟩:=hR.ptr hw
 have hRx:=aas r hw hn 1 hR
 generalize lF r 1=U0 at hl hRx ⊢
 refine au.body (F:=F43) ay (lit:=false) rfl rfl (aU rfl) ?_
 conv=>whnf
 refine ak (aj (T:=fF) rfl rfl (ah (hx)) rfl) ?_
 conv=>whnf
 refine ak (aj (T:=aW) rfl rfl (ah (hx)) rfl) ?_
 conv=>whnf
 refine au.to hRx ?_
 conv=>whnf
 refine⟨by(try simp only [bM,bg,bZ]);omega,?_⟩
 conv=>whnf
 exact Fin.flat rfl iq ⟨by simp [iC],rfl⟩
set_option maxHeartbeats 2000000 in
theorem x_ret {r:Tr} {ln:Nat} (hw:WT r)(hn:nT r<=1000000):SLaw Z (.st 9 [] false .nil r .nil .nil ln):=by
 intro S v d hv hd hl
 obtain⟨ox,gx,L,R,T,E,hs,rfl,hx,_,hR,_⟩:=hv
 rw [tx_9,if_neg (show ¬isNil r=true from by rw [hw.nn];decide)] at hl ⊢
 simp only [bM,bg,bZ] at hl
 obtain⟨oR,gR,rfl⟩:=hR.ptr hw
 have hRx:=aas r hw hn 1 hR
 generalize lF r 1=U0 at hl hRx ⊢
 refine au.body (F:=F43) ay (lit:=false) rfl rfl (aU rfl) ?_
 conv=>whnf
 refine ak (aj (T:=fF) rfl rfl (ah (hx)) rfl) ?_
 conv=>whnf
 refine ak (aj (T:=aW) rfl rfl (ah (hx)) rfl) ?_
 conv=>whnf
 refine ak (aj (T:=aW) rfl rfl (ah (hx)) rfl) ?_
 conv=>whnf
 refine au.to hRx ?_
 conv=>whnf
 refine⟨by(try simp only [bM,bg,bZ]);omega,?_⟩
 conv=>whnf
 refine⟨by(try simp only [bM,bg,bZ]);omega,?_⟩
 conv=>whnf
 exact Fin.flat rfl iq ⟨by simp [iC],rfl⟩
theorem x_ret0 {ln:Nat} :SLaw Z (.st 9 [] false .nil .nil .nil .nil ln):=by
 intro S v d hv hd hl
 obtain⟨ox,gx,L,R,T,E,hs,rfl,hx,_,hR,_⟩:=hv
 obtain rfl:R= .p0:=hR
 rw [tx_9,if_pos (show isNil .nil=true from rfl)]
 refine au.body (F:=F43) ay (lit:=false) rfl rfl (aU rfl) ?_
 conv=>whnf
 refine ak (aj (T:=fF) rfl rfl (ah (hx)) rfl) ?_
 conv=>whnf
 refine ak (aj (T:=aW) rfl rfl (ah (hx)) rfl) ?_
 conv=>whnf
 exact Fin.flat rfl iq ⟨rfl,rfl⟩
theorem x_drain {ln:Nat} :SLaw Z (.st 8 [] false .nil .nil .nil .nil ln):=by
 intro S v d hv hd hl
 obtain⟨ox,gx,L,R,T,E,hs,rfl,hx,_⟩:=hv
 rw [tx_8]
 refine au.body (F:=F43) ay (lit:=false) rfl rfl (aU rfl) ?_
 conv=>whnf
 refine ak (aj (T:=fF) rfl rfl (ah (hx)) rfl) ?_
 conv=>whnf
 exact Fin.flat rfl iq ⟨rfl,rfl⟩
set_option maxHeartbeats 2000000 in
theorem x_set {nm:List UInt8} {r:Tr} {ln:Nat} (hw:WT r)(hn:nT r<=1000000):SLaw Z (.st 2 nm false .nil r .nil .nil ln):=by
 intro S v d hv hd hl
 obtain⟨ox,gx,L,R,T,E,hs,rfl,hx,_,hR,_⟩:=hv
 rw [tx_2] at hl ⊢
 simp only [bM,bg,bZ] at hl
 obtain⟨oR,gR,rfl⟩:=hR.ptr hw
 have hRx:=aas r hw hn 1 hR
 generalize lF r 1=U0 at hl hRx ⊢
 refine au.body (F:=F43) ay (lit:=false) rfl rfl (aU rfl) ?_
 conv=>whnf
 refine ak (aj (T:=fF) rfl rfl (ah (hx)) rfl) ?_
 conv=>whnf
 refine ak (aj (T:=fB) rfl rfl (ah (hx)) rfl) ?_
 conv=>whnf
 refine⟨by(try simp only [bM,bg,bZ]);omega,?_⟩
 conv=>whnf
 refine ak (aj (T:=aW) rfl rfl (ah (hx)) rfl) ?_
 conv=>whnf
 refine au.to hRx ?_
 conv=>whnf
 refine⟨?_,?_⟩
 ·conv=>whnf
  refine ak (aj (T:=fB) rfl rfl (ah (hx)) rfl) ?_
  rfl
 ·conv=>whnf
  refine⟨by(try simp only [bM,bg,bZ]);omega,?_⟩
  conv=>whnf
  refine⟨by(try simp only [bM,bg,bZ]);omega,?_⟩
  conv=>whnf
  exact Fin.flat rfl iq ⟨by simp [iC],rfl⟩
set_option maxHeartbeats 2000000 in
theorem x_cellS {l r:Tr} {ln:Nat} (hw1:WT l)(hn1:nT l<=1000000)(hw:WT r)(hn:nT r<=1000000):SLaw Z (.st 3 [] false l r .nil .nil ln):=by
 intro S v d hv hd hl
 obtain⟨ox,gx,L,R,T,E,hs,rfl,hx,hL,hR,_⟩:=hv
 rw [tx_3] at hl ⊢
 simp only [bM,bg,bZ] at hl
 obtain⟨oL,gL,rfl⟩:=hL.ptr hw1
 have hLx:=aas l hw1 hn1 8 hL
 generalize lF l 8=U1 at hl hLx ⊢
 obtain⟨oR,gR,rfl⟩:=hR.ptr hw
 have hRx:=aas r hw hn 1 hR
 generalize lF r 1=U0 at hl hRx ⊢
 refine au.body (F:=F43) ay (lit:=false) rfl rfl (aU rfl) ?_
 conv=>whnf
 refine ak (aj (T:=fF) rfl rfl (ah (hx)) rfl) ?_
 conv=>whnf
 refine ak (aj (T:=aW) rfl rfl (ah (hx)) rfl) ?_
 conv=>whnf
 refine ak (aj (T:=aW) rfl rfl (ah (hx)) rfl) ?_
 conv=>whnf
 refine au.to hLx ?_
 conv=>whnf
 refine⟨?_,?_⟩
 ·conv=>whnf
  refine ak (aj (T:=aW) rfl rfl (ah (hx)) rfl) ?_
  rfl
 ·conv=>whnf
  refine⟨by(try simp only [bM,bg,bZ]);omega,?_⟩
  conv=>whnf
  refine au.to hRx ?_
  conv=>whnf
  refine⟨by(try simp only [bM,bg,bZ]);omega,?_⟩
  conv=>whnf
  refine⟨by(try simp only [bM,bg,bZ]);omega,?_⟩
  conv=>whnf
  exact Fin.flat rfl iq ⟨by simp [iC],rfl⟩
set_option maxHeartbeats 4000000 in
theorem x_while {r:Tr} {th:gY} {ln:Nat} (hw:WT r)(hn:nT r<=1000000)(hth:LSLaw Z th):SLaw Z (.st 5 [] false .nil r th .nil ln):=by
 intro S v d hv hd hl
 obtain⟨ox,gx,L,R,T,E,hs,rfl,hx,_,hR,hTh,_⟩:=hv
 rw [tx_5,txB_eq] at hl ⊢
 simp only [bM,bg,bZ] at hl
 simp only [dS,show ¬(5:Nat)=4 by decide,if_false,if_true] at hd
 obtain⟨oR,gR,rfl⟩:=hR.ptr hw
 have hRx:=aas r hw hn 1 hR
 have hBx:=blockX (d:=d+1) hth (by omega) hTh (by omega)
 have hVx:=tabsX (Z:=Z) (d:=d) (by omega)
 have hshT:=hTh.shape
 generalize lF r 1=U0 at hl hRx ⊢
 generalize bn (jo th (d+1))=U1 at hl hBx ⊢
 generalize bn (lu d)=V at hl hVx ⊢
 rcases hshT with rfl | ⟨oT,gT,mT,rfl⟩
 all_goals
  refine au.body (F:=F43) ay (lit:=false) rfl rfl (aU rfl) ?_
  conv=>whnf
  refine ak (aj (T:=fF) rfl rfl (ah (hx)) rfl) ?_
  conv=>whnf
  refine ak (aj (T:=aW) rfl rfl (ah (hx)) rfl) ?_
  conv=>whnf
  refine ak (aj (T:=dL) rfl rfl (ah (hx)) rfl) ?_
  conv=>whnf
  refine⟨((d+1:Nat):Int),wrap_i64 (by omega) (by omega),?_⟩
  conv=>whnf
  refine au.to hRx ?_
  conv=>whnf
  refine⟨?_,?_⟩
  ·conv=>whnf
   refine ak (aj (T:=dL) rfl rfl (ah (hx)) rfl) ?_
   rfl
  conv=>whnf
  refine⟨by(try simp only [bM,bg,bZ]);omega,?_⟩
  conv=>whnf
  refine⟨by(try simp only [bM,bg,bZ]);omega,?_⟩
  conv=>whnf
  refine au.to hBx ?_
  conv=>whnf
  refine⟨by(try simp only [bM,bg,bZ]);omega,?_⟩
  conv=>whnf
  refine au.to hVx ?_
  conv=>whnf
  refine⟨by(try simp only [bM,bg,bZ]);omega,?_⟩
  conv=>whnf
  refine⟨by(try simp only [bM,bg,bZ]);omega,?_⟩
  conv=>whnf
  exact Fin.flat rfl iq ⟨by simp [iC],rfl⟩
set_option maxHeartbeats 2000000 in
theorem x_if {r:Tr} {th el:gY} {ln:Nat} (h:BLaw Z (.st 4 [] false .nil r th el ln)):SLaw Z (.st 4 [] false .nil r th el ln):=by
 intro S v d hv hd hl
 have hB:=h d hv hd hl
 obtain⟨ox,gx,L,R,T,E,hs,rfl,hx,_⟩:=hv
 generalize bn (gu (.st 4 [] false .nil r th el ln) d)=U0 at hl hB ⊢
 refine au.body (F:=F43) ay (lit:=false) rfl rfl (aU rfl) ?_
 conv=>whnf
 refine ak (aj (T:=fF) rfl rfl (ah (hx)) rfl) ?_
 conv=>whnf
 refine au.to hB ?_
 conv=>whnf
 exact Fin.flat rfl iq ⟨rfl,rfl⟩
set_option maxHeartbeats 4000000 in
theorem x_var {nm:List UInt8} {p:Bool} {r:Tr} {ln:Nat} (hr:r= .nil\/WT r)(hn:nT r<=1000000):SLaw Z (.st 1 nm p .nil r .nil .nil ln):=by
 intro S v d hv hd hl
 obtain⟨ox,gx,L,R,T,E,hs,rfl,hx,_,hR,_⟩:=hv
 rw [tx_1] at hl ⊢
 rcases hr with rfl | hw
 ·obtain rfl:R= .p0:=hR
  rw [if_pos (show isNil .nil=true from rfl)] at hl ⊢
  cases p with
  | true=>
    simp only [if_true,bM,bg,bZ] at hl
    refine au.body (F:=F43) ay (lit:=false) rfl rfl (aU rfl) ?_
    conv=>whnf
    refine ak (aj (T:=fF) rfl rfl (ah (hx)) rfl) ?_
    conv=>whnf
    refine ak (aj (T:=fB) rfl rfl (ah (hx)) rfl) ?_
    conv=>whnf
    refine⟨by(try simp only [bM,bg,bZ]);omega,?_⟩
    conv=>whnf
    refine ak (aj (T:=xH) rfl rfl (ah (hx)) rfl) ?_
    conv=>whnf
    refine⟨by(try simp only [bM,bg,bZ]);omega,?_⟩
    conv=>whnf
    refine ak (aj (T:=aW) rfl rfl (ah (hx)) rfl) ?_
    conv=>whnf
    refine⟨by(try simp only [bM,bg,bZ]);omega,?_⟩
    conv=>whnf
    exact Fin.flat rfl iq ⟨by simp [iC],rfl⟩
  | false=>
    simp only [nR,if_false,bM,bg,bZ] at hl
    refine au.body (F:=F43) ay (lit:=false) rfl rfl (aU rfl) ?_
    conv=>whnf
    refine ak (aj (T:=fF) rfl rfl (ah (hx)) rfl) ?_
    conv=>whnf
    refine ak (aj (T:=fB) rfl rfl (ah (hx)) rfl) ?_
    conv=>whnf
    refine⟨by(try simp only [bM,bg,bZ]);omega,?_⟩
    conv=>whnf
    refine ak (aj (T:=xH) rfl rfl (ah (hx)) rfl) ?_
    conv=>whnf
    refine ak (aj (T:=aW) rfl rfl (ah (hx)) rfl) ?_
    conv=>whnf
    refine⟨by(try simp only [bM,bg,bZ]);omega,?_⟩
    conv=>whnf
    exact Fin.flat rfl iq ⟨by simp [iC],rfl⟩
 ·rw [if_neg (show ¬isNil r=true from by rw [hw.nn];decide)] at hl ⊢
  obtain⟨oR,gR,rfl⟩:=hR.ptr hw
  have hRx:=aas r hw hn 1 hR
  generalize lF r 1=U0 at hl hRx ⊢
  cases p with
  | true=>
    simp only [if_true,bM,bg,bZ] at hl
    refine au.body (F:=F43) ay (lit:=false) rfl rfl (aU rfl) ?_
    conv=>whnf
    refine ak (aj (T:=fF) rfl rfl (ah (hx)) rfl) ?_
    conv=>whnf
    refine ak (aj (T:=fB) rfl rfl (ah (hx)) rfl) ?_
    conv=>whnf
    refine⟨by(try simp only [bM,bg,bZ]);omega,?_⟩
    conv=>whnf
    refine ak (aj (T:=xH) rfl rfl (ah (hx)) rfl) ?_
    conv=>whnf
    refine⟨by(try simp only [bM,bg,bZ]);omega,?_⟩
    conv=>whnf
    refine ak (aj (T:=aW) rfl rfl (ah (hx)) rfl) ?_
    conv=>whnf
    refine⟨by(try simp only [bM,bg,bZ]);omega,?_⟩
    conv=>whnf
    refine ak (aj (T:=aW) rfl rfl (ah (hx)) rfl) ?_
    conv=>whnf
    refine au.to hRx ?_
    conv=>whnf
    refine⟨by(try simp only [bM,bg,bZ]);omega,?_⟩
    conv=>whnf
    refine⟨by(try simp only [bM,bg,bZ]);omega,?_⟩
    conv=>whnf
    exact Fin.flat rfl iq ⟨by simp [iC],rfl⟩
  | false=>
    simp only [nR,if_false,bM,bg,bZ] at hl
    refine au.body (F:=F43) ay (lit:=false) rfl rfl (aU rfl) ?_
    conv=>whnf
    refine ak (aj (T:=fF) rfl rfl (ah (hx)) rfl) ?_
    conv=>whnf
    refine ak (aj (T:=fB) rfl rfl (ah (hx)) rfl) ?_
    conv=>whnf
    refine⟨by(try simp only [bM,bg,bZ]);omega,?_⟩
    conv=>whnf
    refine ak (aj (T:=xH) rfl rfl (ah (hx)) rfl) ?_
    conv=>whnf
    refine ak (aj (T:=aW) rfl rfl (ah (hx)) rfl) ?_
    conv=>whnf
    refine⟨by(try simp only [bM,bg,bZ]);omega,?_⟩
    conv=>whnf
    refine ak (aj (T:=aW) rfl rfl (ah (hx)) rfl) ?_
    conv=>whnf
    refine au.to hRx ?_
    conv=>whnf
    refine⟨by(try simp only [bM,bg,bZ]);omega,?_⟩
    conv=>whnf
    refine⟨by(try simp only [bM,bg,bZ]);omega,?_⟩
    conv=>whnf
    exact Fin.flat rfl iq ⟨by simp [iC],rfl⟩
mutual
theorem xS_all:∀(s:Sm),WS s->nS s<=1000000->SLaw Z s
 | .st k nm p l r th el ln,h,hn=>by
   simp only [nS] at hn
   cases h with
   | var _ _ _ _ _ h2=>exact x_var h2 (by omega)
   | set _ _ _ h1 h2=>exact x_set h2 (by omega)
   | cell _ _ _ h1 h2 h3=>exact x_cellS h1 (by omega) h3 (by omega)
   | iff _ _ _ _ h1 h2 h3=>exact x_if (branchX h1 (by omega) (xL_all _ h2 (by omega)) (xL_all _ h3 (by omega)) (xI_all _ h3 (by omega)))
   | whl _ _ _ h1 h2=>exact x_while h1 (by omega) (xL_all _ h2 (by omega))
   | out _ _ h1=>exact x_out h1 (by omega)
   | free _ _ h1=>exact x_free h1 (by omega)
   | drain _=>exact x_drain
   | ret _ _ h1=>
     rcases h1 with rfl | h1
     ·exact x_ret0
     ·exact x_ret h1 (by omega)
   | call _ _ h1 h2=>exact x_callS h1 (by omega)
theorem xL_all:∀(b:gY),Hr b->sG b<=1000000->LSLaw Z b
 | .nil,_,_=>fun i s h=>by simp [jy] at h
 | .cons a r,hw,hn=>by
   simp only [sG] at hn
   have h1:WS a:=by cases hw with | cons _ _ h1 h2=>exact h1
   have h2:Hr r:=by cases hw with | cons _ _ h1 h2=>exact h2
   have ha:SLaw Z a:=xS_all a h1 (by omega)
   have hr:LSLaw Z r:=xL_all r h2 (by omega)
   intro i s h
   cases i with
   | zero=>simp only [jy,List.getElem?_cons_zero,oW] at h;subst h;exact ha
   | succ i=>exact hr i s (by simpa [jy] using h)
theorem xB_all:∀(s:Sm),WS s->nS s<=1000000->kS s=4->BLaw Z s
 | .st k nm p l r th el ln,h,hn,hk=>by
   simp only [nS] at hn
   cases h with
   | iff _ _ _ _ h1 h2 h3=>exact branchX h1 (by omega) (xL_all _ h2 (by omega)) (xL_all _ h3 (by omega)) (xI_all _ h3 (by omega))
   | _=>cases hk
theorem xI_all:∀(el:gY),Hr el->sG el<=1000000->∀s,el= .cons s .nil->kS s=4->BLaw Z s
 | .nil,_,_,s,he,_=>by cases he
 | .cons a r,hw,hn,s,he,hk=>by
   simp only [sG] at hn
   have h1:WS a:=by cases hw with | cons _ _ h1 h2=>exact h1
   cases he
   exact xB_all a h1 (by omega) hk
end
end
end Go.Abs.YtlkfbfhkcaldlaaGreatDoor
namespace Go.Abs.YtlkfbfhkcaldlaaGreatDoor
open Go.Proofs
set_option maxRecDepth 4000
@[reducible] def parY (op ox oa ga n i:Nat) (T:List UInt8):Env:=put (some 37) (.b false) (put (some 36) (.i .i64 n) (put (some 35) (.sl oa ga 0 n 2) (put (some 34) (.p ox 0 (0+1)) (put (some 33) (.p ox 0 0) (put (some 32) (.p ox 0 0) (put (some 31) (.i .i64 n) [(0,.p op 0 0),(3,.s T),(4,.i .i64 i),(5,.p ox 0 0),(6,.i .i64 n)]))))))
section
variable {Z:St}
theorem pmsV_at:∀(l:List (List UInt8×Bool)) (m:Nat) (nm:List UInt8) (pt:Bool),l[m]? =some (nm,pt)->(pq l)[0+m*2+0]? =some (.s nm)/\(pq l)[0+m*2+1]? =some (.b pt):=by
 intro l m nm pt h
 have h1:=vU l m _ h
 rw [Nat.zero_add]
 have h2:∀j,j<2->(pq l)[m*2+j]? =((.s nm :: [.b pt]:List AV))[j]? :=by
  intro j hj
  rw [<-show ((pq l).drop (m*2)).take 2=[.s nm,.b pt] from h1,List.getElem?_take,if_pos hj,List.getElem?_drop]
 exact⟨h2 0 (by decide),h2 1 (by decide)⟩
set_option maxHeartbeats 4000000 in
theorem pars_loopX {Bd:AV} {nmF:List UInt8} {ptF:Bool} {op ox oa ga i lnF:Nat} {ps:List (List UInt8×Bool)} (hx:Z[ox]? =some (AA nmF (.sl oa ga 0 ps.length 2) ptF Bd lnF))(hc:Z[oa]? =some ⟨ga,false,.cells 71 (pq ps)⟩)(hcl:ps.length<=1000000000) :
 ∀ (k m:Nat) (T:List UInt8),m+k=ps.length->T.length+(bn (rX (ps.drop m) (m == 0))).length<=1000000000->∀{Q:Out->Env->St->Prop},
 Q (.exit 2) (parY op ox oa ga ps.length i (T ++ bn (rX (ps.drop m) (m == 0)))) Z->aV X [0,3,4,5,6] c8L0 [(0,.p op 0 0),(3,.s T),(4,.i .i64 i),(5,.p ox 0 0),(6,.i .i64 m)] Z Q:=by
 intro k
 induction k with
 | zero=>
   intro m T hm _ Q q
   obtain rfl:m=ps.length:=by omega
   rw [List.drop_length] at q
   rw [show T ++ bn (rX [] (ps.length == 0))=T from List.append_nil T] at q
   refine aV.round ay (lit:=false) ?_
   conv=>whnf
   refine ak (aj (T:=qE) rfl rfl (ah (hx)) rfl) ?_
   conv=>whnf
   rw [decide_eq_false (by omega)]
   conv=>whnf
   conv=>whnf
   exact q
 | succ k ih=>
   intro m T hm hl Q q
   obtain⟨⟨nm,pt⟩,hp⟩:∃p,ps[m]? =some p:=⟨_,sN (by omega)⟩
   have hdr:ps.drop m=(nm,pt) :: ps.drop (m+1):=by
    rw [List.drop_eq_getElem_cons (by omega),(List.getElem?_eq_some_iff.1 hp).2]
   rw [hdr,txPar] at hl q
   obtain⟨hn,hb⟩:=pmsV_at ps m nm pt hp
   simp only [bM] at hl
   have rest:aV X [0,3,4,5,6] c8L0 [(0,.p op 0 0),(3,.s (T ++ (if(m == 0)=true then [] else [44,32]) ++ nm ++ (if pt=true then [32,112,116,114] else []))),(4,.i .i64 i),(5,.p ox 0 0),(6,.i .i64 ((m+1:Nat):Int))] Z Q:=by
    refine ih (m+1) _ (by omega) ?_ ?_
    ·rw [show (m+1 == 0)=false from rfl];simp only [bM];omega
    ·rw [show (m+1 == 0)=false from rfl];simpa [iC] using q
   cases m with
   | zero=>
     rw [show (T ++ (if(0 == 0)=true then [] else [44,32]) ++ nm ++ (if pt=true then [32,112,116,114] else []))=T ++ nm ++ (if pt=true then [32,112,116,114] else []) by simp] at rest
     cases pt with
     | true=>
       simp only [if_true,bg,bZ] at hl rest
       refine aV.round ay (lit:=false) ?_
       conv=>whnf
       refine ak (aj (T:=qE) rfl rfl (ah (hx)) rfl) ?_
       conv=>whnf
       rw [decide_eq_true (by omega)]
       conv=>whnf
       conv=>whnf
       refine ak (aj (T:=qE) rfl rfl (ah (hx)) rfl) ?_
       conv=>whnf
       refine⟨0,rfl,by omega,?_⟩
       conv=>whnf
       refine ak (aj (T:=fB) rfl rfl (ah hc) hn) ?_
       conv=>whnf
       refine⟨by(try simp only [bM,bg,bZ]);omega,?_⟩
       conv=>whnf
       refine ak (aj (T:=qE) rfl rfl (ah (hx)) rfl) ?_
       conv=>whnf
       refine⟨0,rfl,by omega,?_⟩
       conv=>whnf
       refine ak (aj (T:=xH) rfl rfl (ah hc) hb) ?_
       conv=>whnf
       refine⟨by(try simp only [bM,bg,bZ]);omega,?_⟩
       conv=>whnf
       refine⟨((0+1:Nat):Int),wrap_i64 (by omega) (by omega),?_⟩
       conv=>whnf
       exact rest
     | false=>
       simp only [nR,if_false,List.append_nil,bg,bZ] at hl rest
       refine aV.round ay (lit:=false) ?_
       conv=>whnf
       refine ak (aj (T:=qE) rfl rfl (ah (hx)) rfl) ?_
       conv=>whnf
       rw [decide_eq_true (by omega)]
       conv=>whnf
       conv=>whnf
       refine ak (aj (T:=qE) rfl rfl (ah (hx)) rfl) ?_
       conv=>whnf
       refine⟨0,rfl,by omega,?_⟩
       conv=>whnf
       refine ak (aj (T:=fB) rfl rfl (ah hc) hn) ?_
       conv=>whnf
       refine⟨by(try simp only [bM,bg,bZ]);omega,?_⟩
       conv=>whnf
       refine ak (aj (T:=qE) rfl rfl (ah (hx)) rfl) ?_
       conv=>whnf
       refine⟨0,rfl,by omega,?_⟩
       conv=>whnf
       refine ak (aj (T:=xH) rfl rfl (ah hc) hb) ?_
       conv=>whnf
       refine⟨((0+1:Nat):Int),wrap_i64 (by omega) (by omega),?_⟩
       conv=>whnf
       exact rest
   | succ m=>
     rw [show (T ++ (if(m+1 == 0)=true then [] else [44,32]) ++ nm ++ (if pt=true then [32,112,116,114] else []))=T ++ [44,32] ++ nm ++ (if pt=true then [32,112,116,114] else []) by simp] at rest
     simp only [show (m+1 == 0)=false from rfl,nR,if_false,bg,bZ] at hl
     cases pt with
     | true=>
       simp only [if_true,bg,bZ] at hl rest
       refine aV.round ay (lit:=false) ?_
       conv=>whnf
       refine ak (aj (T:=qE) rfl rfl (ah (hx)) rfl) ?_
       conv=>whnf
       rw [decide_eq_true (by omega)]
       conv=>whnf
       conv=>whnf
       rw [decide_eq_true (show (0:Int)<((m+1:Nat):Int) by omega)]
       conv=>whnf
       refine⟨by(try simp only [bM,bg,bZ]);omega,?_⟩
       conv=>whnf
       refine ak (aj (T:=qE) rfl rfl (ah (hx)) rfl) ?_
       conv=>whnf
       refine⟨m+1,rfl,by omega,?_⟩
       conv=>whnf
       refine ak (aj (T:=fB) rfl rfl (ah hc) hn) ?_
       conv=>whnf
       refine⟨by(try simp only [bM,bg,bZ]);omega,?_⟩
       conv=>whnf
       refine ak (aj (T:=qE) rfl rfl (ah (hx)) rfl) ?_
       conv=>whnf
       refine⟨m+1,rfl,by omega,?_⟩
       conv=>whnf
       refine ak (aj (T:=xH) rfl rfl (ah hc) hb) ?_
       conv=>whnf
       refine⟨by(try simp only [bM,bg,bZ]);omega,?_⟩
       conv=>whnf
       refine⟨((m+1+1:Nat):Int),wrap_i64 (by omega) (by omega),?_⟩
       conv=>whnf
       exact rest
     | false=>
       simp only [nR,if_false,List.append_nil,bg,bZ] at hl rest
       refine aV.round ay (lit:=false) ?_
       conv=>whnf
       refine ak (aj (T:=qE) rfl rfl (ah (hx)) rfl) ?_
       conv=>whnf
       rw [decide_eq_true (by omega)]
       conv=>whnf
       conv=>whnf
       rw [decide_eq_true (show (0:Int)<((m+1:Nat):Int) by omega)]
       conv=>whnf
       refine⟨by(try simp only [bM,bg,bZ]);omega,?_⟩
       conv=>whnf
       refine ak (aj (T:=qE) rfl rfl (ah (hx)) rfl) ?_
       conv=>whnf
       refine⟨m+1,rfl,by omega,?_⟩
       conv=>whnf
       refine ak (aj (T:=fB) rfl rfl (ah hc) hn) ?_
       conv=>whnf
       refine⟨by(try simp only [bM,bg,bZ]);omega,?_⟩
       conv=>whnf
       refine ak (aj (T:=qE) rfl rfl (ah (hx)) rfl) ?_
       conv=>whnf
       refine⟨m+1,rfl,by omega,?_⟩
       conv=>whnf
       refine ak (aj (T:=xH) rfl rfl (ah hc) hb) ?_
       conv=>whnf
       refine⟨((m+1+1:Nat):Int),wrap_i64 (by omega) (by omega),?_⟩
       conv=>whnf
       exact rest
@[reducible] def srcY (op oa ga n:Nat) (T:List UInt8):Env:=put (some 13) (.b false) (put (some 12) (.i .i64 n) (put (some 11) (.sl oa ga 0 n 1) (put (some 10) (.p op 0 (0+0)) (put (some 9) (.p op 0 0) (put (some 8) (.p op 0 0) (put (some 7) (.i .i64 n) [(0,.p op 0 0),(3,.s T),(4,.i .i64 n)]))))))
set_option maxHeartbeats 4000000 in
theorem func_bodyX {S:Nat->Prop} {op oa ga m ox:Nat} {cs:List AV} {f:Fm} (hop:Z[op]? =some ⟨0,false,.cells 60 [.sl oa ga 0 cs.length 1]⟩)(hc:Z[oa]? =some ⟨ga,false,.cells 64 cs⟩)(hcl:cs.length<=1000000000)(hm:m<cs.length)
 (ha:cs[0+m*1]? =some (.p ox 0 0)) (hv:pz S Z (.p ox 0 0) f) (hw:Qq f) (hn:nF f<=1000000) (T:List UInt8) (hl:T.length+(bn (Nq f)).length<=1000000000) {Q:Out->Env->St->Prop}
 (q:aV X [0,3,4] c8L1 [(0,.p op 0 0),(3,.s (T ++ bn (Nq f))),(4,.i .i64 ((m+1:Nat):Int))] Z Q):aV X [0,3,4] c8L1 [(0,.p op 0 0),(3,.s T),(4,.i .i64 m)] Z Q:=by
 obtain⟨ox',A,Bd,hs,e,hx,hpm,hbd⟩:=hv
 cases e
 have hpl:=Fg f.params hw.ps true
 have hB:=xL_all (Z:=Z) f.body hw.body (by unfold nF at hn;omega)
 rw [txF,txB_eq] at hl q
 simp only [bM,bg,bZ] at hl
 have hBx:=blockX (d:=0+1) hB (by have:=hw.deep;omega) hbd (by omega)
 rw [show bn (lu 0)=[] from rfl,List.append_nil] at q
 generalize bn (jo f.body (0+1))=U at hl hBx q
 obtain⟨nm,ps,pt,body,lnf⟩:=f
 simp only at hl q hx hpm hpl hw
 have qq:∀t,t=T ++ ([102,117,110,99,32] ++ nm ++ [40] ++ bn (rX ps true) ++ [41] ++ (if pt=true then [32,112,116,114] else []) ++ ([32,123,10] ++ U ++ [125]) ++ [10])->aV X [0,3,4] c8L1 [(0,.p op 0 0),(3,.s t),(4,.i .i64 ((m+1:Nat):Int))] Z Q:=fun t e=>by rw [e];simpa only [List.nil_append] using q
 refine aV.round ay (lit:=false) ?_
 conv=>whnf
 refine ak (aj (T:=ug) rfl rfl (ah (hop)) rfl) ?_
 conv=>whnf
 rw [decide_eq_true (by omega)]
 conv=>whnf
 conv=>whnf
 refine ak (aj (T:=ug) rfl rfl (ah (hop)) rfl) ?_
 conv=>whnf
 refine⟨m,rfl,by omega,?_⟩
 conv=>whnf
 refine ak (aj (T:=dY) rfl rfl (ah hc) ha) ?_
 conv=>whnf
 refine⟨by(try simp only [bM,bg,bZ]);omega,?_⟩
 conv=>whnf
 refine ak (aj (T:=fB) rfl rfl (ah (hx)) rfl) ?_
 conv=>whnf
 refine⟨by(try simp only [bM,bg,bZ]);omega,?_⟩
 conv=>whnf
 refine⟨by(try simp only [bM,bg,bZ]);omega,?_⟩
 conv=>whnf
 have hBx:StrF 19 [Bd,.i .i64 1] Z U:=hBx
 rcases hpm with ⟨rfl,rfl⟩ | ⟨op2,gp2,hsp,rfl,hpo⟩
 refine aV.round ay (lit:=false) ?_
 conv=>whnf
 refine ak (aj (T:=qE) rfl rfl (ah (hx)) rfl) ?_
 conv=>whnf
 rotate_left
 refine pars_loopX hx hpo (by omega) ps.length 0 _ (by omega) (by rw [show (0 == 0)=true from rfl,List.drop_zero];simp only [bM,bg,bZ];omega) ?_
 rw [show (0 == 0)=true from rfl,List.drop_zero]
 conv=>whnf
 all_goals
  cases pt with
  | true=>
    simp only [if_true,bg,bZ] at hl
    refine⟨by(try simp only [bM,bg,bZ]);omega,?_⟩
    conv=>whnf
    refine ak (aj (T:=xH) rfl rfl (ah (hx)) rfl) ?_
    conv=>whnf
    refine⟨by(try simp only [bM,bg,bZ]);omega,?_⟩
    conv=>whnf
    refine⟨by(try simp only [bM,bg,bZ]);omega,?_⟩
    conv=>whnf
    refine ak (aj (T:=dL) rfl rfl (ah hx) rfl) ?_
    refine dJ _ _ ?_
    refine dV _ _ ?_
    refine au.to hBx ?_
    conv=>whnf
    refine⟨by(try simp only [bM,bg,bZ]);omega,?_⟩
    conv=>whnf
    refine⟨by(try simp only [bM,bg,bZ]);omega,?_⟩
    conv=>whnf
    refine⟨((m+1:Nat):Int),wrap_i64 (by omega) (by omega),?_⟩
    conv=>whnf
    exact qq _ (by simp [rX,bn,iC])
  | false=>
    simp only [nR,if_false,bZ] at hl
    refine⟨by(try simp only [bM,bg,bZ]);omega,?_⟩
    conv=>whnf
    refine ak (aj (T:=xH) rfl rfl (ah (hx)) rfl) ?_
    conv=>whnf
    refine⟨by(try simp only [bM,bg,bZ]);omega,?_⟩
    conv=>whnf
    refine ak (aj (T:=dL) rfl rfl (ah hx) rfl) ?_
    refine dJ _ _ ?_
    refine dV _ _ ?_
    refine au.to hBx ?_
    conv=>whnf
    refine⟨by(try simp only [bM,bg,bZ]);omega,?_⟩
    conv=>whnf
    refine⟨by(try simp only [bM,bg,bZ]);omega,?_⟩
    conv=>whnf
    refine⟨((m+1:Nat):Int),wrap_i64 (by omega) (by omega),?_⟩
    conv=>whnf
    exact qq _ (by simp [rX,bn,iC])
theorem funcs_loopX {S:Nat->Prop} {op oa ga:Nat} {cs:List AV} (hop:Z[op]? =some ⟨0,false,.cells 60 [.sl oa ga 0 cs.length 1]⟩)(hc:Z[oa]? =some ⟨ga,false,.cells 64 cs⟩)(hcl:cs.length<=1000000000):∀(r:List Fm),(∀f∈r,Qq f)->nFs r<=1000000->∀(m:Nat) (T:List UInt8),m+r.length=cs.length->
 (∀(i:Nat) f,r[i]? =some f->∃a,cs[m+i]? =some a/\pz S Z a f)->T.length+(bn (iF r)).length<=1000000000->∀{Q:Out->Env->St->Prop},Q (.exit 0) (srcY op oa ga cs.length (T ++ bn (iF r))) Z->aV X [0,3,4] c8L1 [(0,.p op 0 0),(3,.s T),(4,.i .i64 m)] Z Q:=by
 intro r
 induction r with
 | nil=>
   intro _ _ m T hm _ _ Q q
   obtain rfl:m=cs.length:=hm
   rw [show T ++ bn (iF [])=T from List.append_nil T] at q
   refine aV.round ay (lit:=false) ?_
   conv=>whnf
   refine ak (aj (T:=ug) rfl rfl (ah (hop)) rfl) ?_
   conv=>whnf
   rw [decide_eq_false (by omega)]
   conv=>whnf
   conv=>whnf
   exact q
 | cons f r ih=>
   intro hw hn m T hm hel hl Q q
   simp only [bg] at hm
   simp only [nFs] at hn
   obtain⟨a,ha,hx⟩:=hel 0 f rfl
   obtain⟨ox,rfl⟩:∃ox,a= .p ox 0 0:=by obtain⟨ox,_,_,_,h,_⟩:=hx;exact⟨ox,h⟩
   rw [Ie] at hl q
   rw [bM] at hl
   refine func_bodyX hop hc hcl (by omega) (by rw [Nat.zero_add,Nat.mul_one];exact ha) hx (hw f (List.mem_cons_self ..)) (by omega) T (by omega) ?_
   refine ih (fun f hf=>hw f (List.mem_cons_of_mem _ hf)) (by omega) (m+1) _ (by omega) (fun i t ht=>?_) (by rw [bM];omega) (by rw [iC];exact q)
   obtain⟨a,h1,h2⟩:=hel (i+1) t (by simpa using ht)
   exact⟨a,by rw [show m+1+i=m+(i+1) by omega];exact h1,h2⟩
theorem sourceX {S:Nat->Prop} {v:AV} {fs:List Fm} (hv:qo S Z v fs)(hw:∀f∈fs,Qq f)(hn:nFs fs<=1000000)(hl:(bn (iF fs)).length<=1000000000):StrF 8 [v] Z (bn (iF fs)):=by
 obtain⟨op,A,hsp,rfl,hop,hA⟩:=hv
 rcases hA with ⟨rfl,rfl⟩ | ⟨oa,ga,cs,hs2,rfl,hc,hea,hne⟩
 ·refine au.body (F:=F8) ay (lit:=false) rfl rfl (aU rfl) ?_
  conv=>whnf
  refine aV.round ay (lit:=false) ?_
  conv=>whnf
  refine ak (aj (T:=ug) rfl rfl (ah (hop)) rfl) ?_
  conv=>whnf
  exact Fin.flat rfl iq ⟨rfl,rfl⟩
 ·have hel:=hea.list
  have hfl:=Na fs
  refine au.body (F:=F8) ay (lit:=false) rfl rfl (aU rfl) ?_
  conv=>whnf
  refine funcs_loopX hop hc (by omega) fs hw hn 0 [] (by omega) (fun i f hf=>by rw [Nat.zero_add];exact hel.2 i f hf) (by simp only [bZ];omega) ?_
  conv=>whnf
  exact Fin.flat rfl iq ⟨rfl,rfl⟩
end
end Go.Abs.YtlkfbfhkcaldlaaGreatDoor
namespace Go.Abs.YtlkfbfhkcaldlaaGreatDoor
open Go.Proofs
set_option maxRecDepth 4000
theorem prog_n {t:List UInt8} {fs:List Fm} {ts:List Tok} (h:jR t= .ok fs ts):nFs fs<=1000000:=by
 unfold jR at h
 split at h
 ·cases h
 ·rename_i l hl
  have h2:=MV hl
  have h3:=MQ (10*l.length+11) l
  rw [h] at h3
  have h3:nFs fs+2*ts.length<=2*l.length:=h3
  omega
set_option maxHeartbeats 2000000 in
theorem prints_to (t:List UInt8)(Z:St)(hg:Z.take G0.length=G0):au X 3 [.s t] Z fun v s=>v= .b true/\s=Z:=by
 refine au.body (F:=F3) ay (lit:=false) rfl rfl (aU rfl) ?_
 conv=>whnf
 refine parse_w t Z _ ?_
 cases hr:jR t with
 | out=>trivial
 | bad c l=>
   show _
   conv=>whnf
   refine ak (aC (T:=aaw) ([.i .i64 c,.i .i64 l]) rfl (aG _ _ _) rfl rfl (aU rfl) rfl) ?_
   have x6:Ext Z ((newCells 25 aaw.zero.cells Z).set Z.length ⟨0,false,.cells 25 [.i .i64 c,.i .i64 l]⟩):=((Ext.refl Z).new _ _).set (Nat.le_refl _) _
   have b6:((newCells 25 aaw.zero.cells Z).set Z.length ⟨0,false,.cells 25 [.i .i64 c,.i .i64 l]⟩)[Z.length]? =_:=at_set (aG _ _ _) _
   have l6:((newCells 25 aaw.zero.cells Z).set Z.length ⟨0,false,.cells 25 [.i .i64 c,.i .i64 l]⟩).length=Z.length+1:=by rw [gK,aH]
   generalize (newCells 25 aaw.zero.cells Z).set Z.length ⟨0,false,.cells 25 [.i .i64 c,.i .i64 l]⟩=Z6 at b6 x6 l6 ⊢
   conv=>whnf
   refine Lj _ (iJ x6 hg) ?_
   conv=>whnf
   exact Fin.flat rfl x6.take ⟨rfl,rfl⟩
 | ok fs ts=>
   have hp:=ZB hr
   have hn:=prog_n hr
   have hlen:=hp.len
   intro o Z2 x2 hp2
   conv=>whnf
   refine ak (aC (T:=aaw) ([.i .i64 0,.i .i64 0]) rfl (aG _ _ _) rfl rfl (aU rfl) rfl) ?_
   have x6:Ext Z2 ((newCells 25 aaw.zero.cells Z2).set Z2.length ⟨0,false,.cells 25 [.i .i64 0,.i .i64 0]⟩):=((Ext.refl Z2).new _ _).set (Nat.le_refl _) _
   have b6:((newCells 25 aaw.zero.cells Z2).set Z2.length ⟨0,false,.cells 25 [.i .i64 0,.i .i64 0]⟩)[Z2.length]? =_:=at_set (aG _ _ _) _
   have l6:((newCells 25 aaw.zero.cells Z2).set Z2.length ⟨0,false,.cells 25 [.i .i64 0,.i .i64 0]⟩).length=Z2.length+1:=by rw [gK,aH]
   generalize (newCells 25 aaw.zero.cells Z2).set Z2.length ⟨0,false,.cells 25 [.i .i64 0,.i .i64 0]⟩=Z6 at b6 x6 l6 ⊢
   conv=>whnf
   have x26:=x2.trans x6
   have hp6:=hp2.mono (fun i hi=>hi) (fun i hi a ha=>x6.get ha)
   refine au.to (sourceX hp6 hp.wf hn (by omega)) ?_
   conv=>whnf
   refine WO (iJ x26 hg) hp6 hp (fun hbig Z3 x3=>?_) (fun hsm Z3 x3=>?_)
   ·conv=>whnf
    rw [decide_eq_true (show (32768:Int)<((bn (iF fs)).length:Int) by omega)]
    conv=>whnf
    refine Lj _ (iJ (x26.trans x3) hg) ?_
    conv=>whnf
    exact Fin.flat rfl (x26.trans x3).take ⟨rfl,rfl⟩
   ·conv=>whnf
    rw [decide_eq_false (show ¬(32768:Int)<((bn (iF fs)).length:Int) by omega)]
    conv=>whnf
    rw [beq_self_eq_true]
    conv=>whnf
    refine Lj _ (iJ (x26.trans x3) hg) ?_
    conv=>whnf
    exact Fin.flat rfl (x26.trans x3).take ⟨rfl,rfl⟩
end Go.Abs.YtlkfbfhkcaldlaaGreatDoor
