/- Texts of this claim, joined: Uf, Ug. -/
import Derived.Test.YtlkfbfhkcaldlaaGreatDoorM31
set_option linter.unusedVariables false
set_option linter.unusedSimpArgs false
namespace Go.Abs.YtlkfbfhkcaldlaaGreatDoor
open Go.Proofs
set_option maxRecDepth 4000
@[reducible] def argX (o oa ga n:Nat):Env:=put (some 55) (.b false) [(0,.p o 0 0),(52,.sl oa ga 0 n 1),(53,.i .i64 n),(54,.i .i64 n)]
theorem ZI {t:Tr} (h:WT t)(c:Nat):1≤(lF t c).length:=by
 obtain⟨b,y,hb,_⟩:=Cc h c
 rw [←JK,hb];simp
theorem Qz:∀{a:jA},OI a→∀b,(kM a).length≤(Ce a b).length
 | .nil,_,b=>Nat.zero_le _
 | .cons t r,h,b=>by
   cases h with
   | cons _ _ h1 h2=>
     have h3:=ZI h1 1
     have h4:=Qz h2 false
     simp only [kM,Ce,bg,bM];omega
theorem bP.ptr {S:Nat→Prop} {σ:St} {v:AV} :∀{t:Tr},WT t→bP S σ v t→∃o g,v= .p o g 0
 | .ex ..,_,h=>by obtain⟨o,g,L,R,A,_,hv,_⟩:=h;exact⟨o,g,hv⟩
def ZJ:List Tr→Bool→List UInt8
 | [],_=>[]
 | t :: r,first=>(if first=true then [] else [44,32]) ++ lF t 1 ++ ZJ r false
theorem Jz:∀(a:jA) (b:Bool),Ce a b=ZJ (kM a) b
 | .nil,b=>by simp [Ce,kM,ZJ]
 | .cons t r,b=>by simp only [Ce,kM,ZJ,Jz r false]
theorem QA:∀{a:jA},OI a→∀t∈kM a,WT t
 | .nil,_,t,h=>by cases h
 | .cons s r,h,t,ht=>by
   cases h with
   | cons _ _ h1 h2=>
     rcases List.mem_cons.1 ht with rfl | ht
     ·exact h1
     ·exact QA h2 t ht
section
variable {o A d:Nat} {bb:Bool}
theorem SA (dw:o<A)(hG:10≤A∧10≤o) {S:Nat→Prop} (hS:∀i,S i→i<A∧i≠o) {oa ga:Nat} {cs:List AV} (hoa:S oa)(hcl:cs.length≤1000000000):∀(r:List Tr),(∀t∈r,WT t)→(∀(i:Nat) t,r[i]? =some t→jL A o d bb t)→∀(m:Nat) (σ:St) (l:List UInt8),m+r.length=cs.length→
 (∀(i:Nat) t,r[i]? =some t→∃a,cs[m+i]? =some a∧bP S σ a t)→σ[oa]? =some ⟨ga,false,.cells 44 cs⟩→bY A o σ l d bb→A≤σ.length→iV σ=true→l.length+(ZJ r (m == 0)).length≤1000000000→∀{Q:Out→Env→St→Prop},
 (∀σ',bY A o σ' (l ++ ZJ r (m == 0)) d bb→jg A o σ σ'→Q (.exit 1) (argX o oa ga cs.length) σ')→aV X [0,52,53,54] NJ [(0,.p o 0 0),(52,.sl oa ga 0 cs.length 1),(53,.i .i64 cs.length),(54,.i .i64 m)] σ Q:=by
 intro r
 induction r with
 | nil=>
   intro _ _ m σ l hm _ _ hb _ _ _ Q q
   obtain rfl:m=cs.length:=hm
   refine aV.round ay (lit:=false) ?_
   conv=>whnf
   rw [decide_eq_false (by omega)]
   conv=>whnf
   conv=>whnf
   exact q σ (by simpa [ZJ] using hb) (.refl _ _ _)
 | cons t r ih=>
   intro hw JA m σ l hm hel ho hb hA hT hl Q q
   have hwt:WT t∧∀t∈r,WT t:=⟨hw t (List.mem_cons_self ..),fun x hx=>hw x (List.mem_cons_of_mem _ hx)⟩
   have hxo:=hS oa hoa
   simp only [bg] at hm
   obtain⟨a,ha,hx⟩:=hel 0 t rfl
   obtain⟨ox,gx,rfl⟩:=hx.ptr hwt.1
   have ha':cs[0+m*1]? =some (.p ox gx 0):=by rw [Nat.zero_add,Nat.mul_one];exact ha
   have hnext:∀(i:Nat) t',r[i]? =some t'→∃a,cs[m+1+i]? =some a∧bP S σ a t':=fun i t' ht=>by
    obtain⟨a,h1,h2⟩:=hel (i+1) t' (by simpa using ht)
    exact⟨a,by rw [show m+1+i=m+(i+1) by omega];exact h1,h2⟩
   simp only [ZJ,bM] at hl q
   have step:∀(σ1:St) (l1:List UInt8),bY A o σ1 l1 d bb→jg A o σ σ1→l1=l ++ (if(m == 0)=true then [] else [44,32])→(∀(Q':AV→St→Prop),(∀σ',bY A o σ' (l1 ++ lF t 1) d bb→jg A o σ1 σ'→Q' (.tu []) σ')→au X 109 [.p o 0 0,.p ox gx 0,.i .i64 1] σ1 Q'):=by
    intro σ1 l1 h1 k1 e1 Q' hq
    have:=k1.len
    exact JA 0 t rfl 1 hS (hx.kept hS k1) h1 (by omega) (k1.tab hG hT) (by rw [e1,bM];omega) fun σ' h2 k2=>hq σ' h2 k2
   have rest:∀(σ1 σ2:St) (l1:List UInt8),jg A o σ σ1→l1=l ++ (if(m == 0)=true then [] else [44,32])→bY A o σ2 (l1 ++ lF t 1) d bb→jg A o σ1 σ2→aV X [0,52,53,54] NJ [(0,.p o 0 0),(52,.sl oa ga 0 cs.length 1),(53,.i .i64 cs.length),(54,.i .i64 ((m+1:Nat):Int))] σ2 Q:=by
    intro σ1 σ2 l1 k1 e1 h2 k2
    have k3:=k1.trans k2
    have:=k3.len
    refine ih hwt.2 (fun i t' ht=>JA (i+1) t' (by simpa using ht)) (m+1) σ2 (l1 ++ lF t 1) (by omega) (fun i t' ht=>?_) ((k3.low oa hxo.1 hxo.2).trans ho) h2 (by omega) (k3.tab hG hT) ?_ fun σ' h4 k4=>?_
    ·obtain⟨a,h1,h2⟩:=hnext i t' ht
     exact⟨a,h1,h2.kept hS k3⟩
    ·rw [show (m+1 == 0)=false from rfl,e1,bM,bM];omega
    ·rw [show (m+1 == 0)=false from rfl,e1] at h4
     exact q σ' (by simpa [iC] using h4) (k3.trans k4)
   cases m with
   | zero=>
     refine aV.round ay (lit:=false) ?_
     conv=>whnf
     rw [decide_eq_true (by omega)]
     conv=>whnf
     conv=>whnf
     refine⟨0,rfl,by omega,?_⟩
     conv=>whnf
     refine ak (aj (T:=aW) rfl rfl (ah ho) ha') ?_
     conv=>whnf
     refine step σ l hb (.refl _ _ _) (by simp) _ fun σ2 h2 k2=>?_
     conv=>whnf
     refine⟨((0+1:Nat):Int),wrap_i64 (by omega) (by omega),?_⟩
     conv=>whnf
     exact rest σ σ2 l (.refl _ _ _) (by simp) h2 k2
   | succ m=>
     refine aV.round ay (lit:=false) ?_
     conv=>whnf
     rw [decide_eq_true (by omega)]
     conv=>whnf
     conv=>whnf
     refine⟨m+1,rfl,by omega,?_⟩
     conv=>whnf
     refine ak (aj (T:=aW) rfl rfl (ah ho) ha') ?_
     conv=>whnf
     rw [decide_eq_true (show (0:Int)<((m+1:Nat):Int) by omega)]
     conv=>whnf
     refine bG [[44,32]] hb dw hA (by simp) (by simp at hl ⊢;omega) fun σ1 h1 k1=>?_
     conv=>whnf
     refine step σ1 (l ++ [[44,32]].flatten) h1 k1 (by simp) _ fun σ2 h2 k2=>?_
     conv=>whnf
     refine⟨((m+1+1:Nat):Int),wrap_i64 (by omega) (by omega),?_⟩
     conv=>whnf
     exact rest σ1 σ2 _ k1 (by simp) h2 k2
theorem WG (dw:o<A)(hG:10≤A∧10≤o) {n ln:Nat} {nm tx:List UInt8} {l r:Tr} {ar:jA} (hw:OI ar)(ia:∀(i:Nat) t,(kM ar)[i]? =some t→jL A o d bb t):jL A o d bb (.ex 4 n nm tx l r ar ln):=by
 intro S σ v out c hS hv hb hA hT hl Q q
 obtain⟨ox,gx,L,R,Ax,hs,rfl,hx,_,_,hAx⟩:=hv
 rw [lF,if_neg (by decide),if_neg (by decide),if_pos rfl] at hl q
 simp only [bM,bg,bZ] at hl
 have hxo:=hS ox hs
 have hal:=Qz hw true
 cases ar with
 | nil=>
   obtain rfl:Ax= .sl0:=hAx
   refine au.body (F:=BQ) ay (lit:=false) rfl rfl (aU rfl) ?_
   conv=>whnf
   refine ak (aj (T:=fF) rfl rfl (ah (hx)) rfl) ?_
   conv=>whnf
   refine ak (aj (T:=fB) rfl rfl (ah (hx)) rfl) ?_
   conv=>whnf
   refine bG [nm,[40]] hb dw hA (by simp) (by simp;omega) fun σ1 h1 k1=>?_
   have hx1:σ1[ox]? =_:=(k1.low ox hxo.1 hxo.2).trans hx
   have l1:=k1.len
   conv=>whnf
   refine ak (aj (T:=uf) rfl rfl (ah (hx1)) rfl) ?_
   conv=>whnf
   refine aV.round ay (lit:=false) ?_
   conv=>whnf
   refine bG [[41]] h1 dw (by omega) (by simp) (by simp;omega) fun σ2 h2 k2=>?_
   conv=>whnf
   exact hb.fin (by simpa [Ce,iC] using h2) (k1.trans k2) (by simpa [Ce,iC] using q)
 | cons t y=>
   obtain⟨oa2,ga2,n2,hoa,e2⟩:∃oa ga n,S oa∧Ax= .sl oa ga 0 n 1:=by obtain⟨oa,ga,cs,h1,h2,_⟩:=hAx;exact⟨oa,ga,_,h1,h2⟩
   obtain⟨oa,ga,cs,rfl,ho,hlen,hel⟩:=hAx.list
   injection e2 with e2
   subst e2
   have hao:=hS oa hoa
   refine au.body (F:=BQ) ay (lit:=false) rfl rfl (aU rfl) ?_
   conv=>whnf
   refine ak (aj (T:=fF) rfl rfl (ah (hx)) rfl) ?_
   conv=>whnf
   refine ak (aj (T:=fB) rfl rfl (ah (hx)) rfl) ?_
   conv=>whnf
   refine bG [nm,[40]] hb dw hA (by simp) (by simp;omega) fun σ1 h1 k1=>?_
   have hx1:σ1[ox]? =_:=(k1.low ox hxo.1 hxo.2).trans hx
   have l1:=k1.len
   conv=>whnf
   refine ak (aj (T:=uf) rfl rfl (ah (hx1)) rfl) ?_
   conv=>whnf
   refine SA dw hG hS hoa (by rw [Jz] at hl hal;omega) (kM (.cons t y)) (QA hw) ia 0 σ1 _ (by omega) (fun i t' ht=>?_) ((k1.low oa hao.1 hao.2).trans ho) h1 (by omega) (k1.tab hG hT) (by rw [Jz] at hl;simp only [bM,List.flatten_cons,List.flatten_nil,bg,bZ,List.append_nil];show _+(ZJ _ true).length≤_;omega) fun σ2 h2 k2=>?_
   ·obtain⟨a,q1,q2⟩:=hel i t' ht
    exact⟨a,by rw [Nat.zero_add];exact q1,q2.kept hS k1⟩
   have k12:=k1.trans k2
   have l2:=k12.len
   rw [show (0 == 0)=true from rfl,←Jz] at h2
   conv=>whnf
   refine bG [[41]] h2 dw (by omega) (by simp) (by simp at hl ⊢;omega) fun σ3 h3 k3=>?_
   conv=>whnf
   exact hb.fin (by simpa [iC] using h3) (k12.trans k3) (by simpa [iC] using q)
theorem nn_of {t:Tr} (h:WT t):I8 t:=by cases h <;> trivial
mutual
theorem gX (dw:o<A)(hG:10≤A∧10≤o):∀(t:Tr),WT t→jL A o d bb t
 | .nil,h=>by cases h
 | .ex k n nm tx l r ar ln,h=>by
   cases h with
   | num _ _ h=>exact ZH dw rfl h
   | name _ _ h=>exact Wx dw rfl
   | un _ _ _ h1 h2=>exact WE dw hG rfl (fun(h:I8 .nil)=>False.elim h) (gX dw hG _ h2)
   | bin _ _ _ _ h1 h2 h3=>exact WE dw hG rfl (fun _=>gX dw hG _ h2) (gX dw hG _ h3)
   | call _ _ _ h1 h2=>exact WG dw hG h2 (MX dw hG _ h2)
   | cell _ _ _ h1 h2=>exact Wy dw hG rfl (gX dw hG _ h1) (gX dw hG _ h2)
   | link _ _ _ h1 h2=>exact WA dw hG rfl (nn_of h2) (gX dw hG _ h1) (gX dw hG _ h2)
   | new _ _ h=>exact ZG dw hG rfl (gX dw hG _ h)
   | inn _=>exact pre_in dw rfl
theorem MX (dw:o<A)(hG:10≤A∧10≤o):∀(a:jA),OI a→∀(i:Nat) t,(kM a)[i]? =some t→jL A o d bb t
 | .nil,_,i,t,ht=>by simp [kM] at ht
 | .cons s r,h,i,t,ht=>by
   cases h with
   | cons _ _ h1 h2=>
     cases i with
     | zero=>simp only [kM,List.getElem?_cons_zero,oW] at ht;subst ht;exact gX dw hG _ h1
     | succ i=>exact MX dw hG r h2 i t (by simpa [kM] using ht)
end
end
end Go.Abs.YtlkfbfhkcaldlaaGreatDoor
namespace Go.Abs.YtlkfbfhkcaldlaaGreatDoor
open Go.Proofs
set_option maxRecDepth 4000
theorem OV (d:Nat):bn (lu d)=List.replicate d 9:=by
 induction d with
 | zero=>rfl
 | succ d ih=>show bn (.b 9 :: lu d)=_;simp only [bn];rw [ih];rfl
theorem SB (d:Nat):Lib.repeatL [9] d=List.replicate d 9:=by
 induction d with
 | zero=>rfl
 | succ d ih=>show [9] ++ Lib.repeatL [9] d=_;rw [ih];rfl
section
variable {o A:Nat} {bb:Bool}
theorem QB {d:Nat} {σ:St} {l:List UInt8} (hb:bY A o σ l d bb)(dw:o<A)(hA:A≤σ.length)(hd:d≤1000)(hl:l.length+d≤1000000000) {Q:AV→St→Prop}
 (q:∀σ',bY A o σ' (l ++ bn (lu d)) d bb→jg A o σ σ'→Q (.tu []) σ'):au X 79 [.p o 0 0] σ Q:=by
 have hb':=hb
 obtain⟨b0,buf,hob,_⟩:=hb'
 refine au.body (F:=F79) ay (lit:=false) rfl rfl (aU rfl) ?_
 conv=>whnf
 refine ak (aj (T:=fF) rfl rfl (ah (hob)) rfl) ?_
 conv=>whnf
 refine au.fM (g:=yO) (v:=.s (List.replicate d 9)) (σ':=σ) rfl ?_ ?_
 ·simp only [yO]
  rw [if_pos ⟨by omega,by omega,by simp only [Int.toNat_natCast,bg,bZ];omega⟩,Int.toNat_natCast,SB]
 conv=>whnf
 refine bG [List.replicate d 9] hb dw hA (by simp) (by simp;omega) fun σ1 h1 k1=>?_
 conv=>whnf
 exact hb.fin (by rw [OV];simpa using h1) k1 q
theorem zH {d:Nat} {S:Nat→Prop} {σ:St} {v:AV} {l:List UInt8} {t:Tr} (ahead:List UInt8)(hS:∀i,S i→i<A∧i≠o)(hw:WT t)(hv:bP S σ v t)(hb:bY A o σ l d bb)(dw:o<A)(hG:10≤A∧10≤o)(hA:A≤σ.length)(hT:iV σ=true)
 (hl:l.length+(ahead ++ lF t 1 ++ [59]).length≤1000000000) {Q:AV→St→Prop} (q:∀σ',bY A o σ' (l ++ (ahead ++ lF t 1 ++ [59])) d bb→jg A o σ σ'→Q (.tu []) σ'):au X 108 [.p o 0 0,.s ahead,v] σ Q:=by
 obtain⟨ox,gx,rfl⟩:=hv.ptr hw
 simp only [bM,bg,bZ] at hl
 refine au.body (F:=F108) ay (lit:=false) rfl rfl (aU rfl) ?_
 conv=>whnf
 refine bG [ahead] hb dw hA (by simp) (by simp;omega) fun σ1 h1 k1=>?_
 have l1:=k1.len
 conv=>whnf
 refine gX dw hG t hw 1 hS (hv.kept hS k1) h1 (by omega) (k1.tab hG hT) (by simp;omega) fun σ2 h2 k2=>?_
 have k12:=k1.trans k2
 have l2:=k12.len
 conv=>whnf
 refine bG [[59]] h2 dw (by omega) (by simp) (by simp;omega) fun σ3 h3 k3=>?_
 conv=>whnf
 exact hb.fin (by simpa [iC] using h3) (k12.trans k3) (by simpa [iC] using q)
def jM (A o:Nat)(bb:Bool)(f:Nat)(s:Sm)(txt:Nat→List UInt8):Prop:=∀{S:Nat→Prop} {σ:St} {v:AV} {l:List UInt8} (d:Nat),(∀i,S i→i<A∧i≠o)→jc S σ v s→bY A o σ l d bb→A≤σ.length→iV σ=true→d+dS s≤70→l.length+(txt d).length≤1000000000→∀{Q:AV→St→Prop},
 (∀σ',bY A o σ' (l ++ txt d) d bb→jg A o σ σ'→Q (.tu []) σ')→au X f [.p o 0 0,v] σ Q
theorem jc.kept {S:Nat→Prop} {σ σ':St} {v:AV} {t:Sm} (hS:∀i,S i→i<A∧i≠o)(h:jc S σ v t)(k:jg A o σ σ'):jc S σ' v t:=h.mono (fun _ h=>h) (fun i hi a ha=>by rw [k.low i (hS i hi).1 (hS i hi).2];exact ha)
theorem dX.kept {S:Nat→Prop} {σ σ':St} {v:AV} {t:gY} (hS:∀i,S i→i<A∧i≠o)(h:dX S σ v t)(k:jg A o σ σ'):dX S σ' v t:=h.mono (fun _ h=>h) (fun i hi a ha=>by rw [k.low i (hS i hi).1 (hS i hi).2];exact ha)
theorem jc.ptr {S:Nat→Prop} {σ:St} {v:AV} :∀{t:Sm},jc S σ v t→∃o g,v= .p o g 0
 | .st ..,h=>by obtain⟨o,g,L,R,T,E,_,hv,_⟩:=h;exact⟨o,g,hv⟩
def QC (d:Nat):List Sm→List UInt8
 | []=>[]
 | s :: r=>bn (lu d) ++ bn (gu s d) ++ [10] ++ QC d r
theorem txSs:∀(l:gY) (d:Nat),bn (jo l d)=QC d (jy l)
 | .nil,d=>by simp [jo,bn,jy,QC]
 | .cons s r,d=>by simp [jo,aS,bn,jy,QC,txSs r d]
theorem bY.deep {d d':Nat} {σ:St} {l:List UInt8} {b0 buf:AV} (h1:σ[o]? =some ⟨0,false,.cells 79 [b0,buf,.i .i64 d,.b bb]⟩)(h2:b0= .p0∨b0= .p o 0 0)(h3:l=[]→buf= .sl0)(h4:qg 5 A σ buf (iM l))(dw:o<A) :
 bY A o (σ.set o ⟨0,false,.cells 79 [b0,buf,.i .i64 d',.b bb]⟩) l d' bb∧jg A o σ (σ.set o ⟨0,false,.cells 79 [b0,buf,.i .i64 d',.b bb]⟩):=by
 refine⟨⟨b0,buf,at_set h1 _,h2,h3,?_⟩,⟨by rw [gK];omega,fun i _ hi=>by rw [rZ (fun e=>hi e.symm)],fun i a ha hi _=>by rw [rZ (fun e=>hi e.symm)];exact ha⟩⟩
 rcases h4 with h | ⟨o3,g3,q1,q2,q3⟩
 ·exact .inl h
 ·exact .inr ⟨o3,g3,q1,q2,by rw [rZ (by omega)];exact q3⟩
@[reducible] def blkX (o oa ga n:Nat):Env:=put (some 19) (.b false) [(0,.p o 0 0),(16,.sl oa ga 0 n 1),(17,.i .i64 n),(18,.i .i64 n)]
theorem OW (dw:o<A)(hG:10≤A∧10≤o) {S:Nat→Prop} (hS:∀i,S i→i<A∧i≠o) {oa ga d:Nat} {cs:List AV} (hoa:S oa)(hcl:cs.length≤1000000000)(hd:d≤1000):∀(r:List Sm),(∀(i:Nat) s,r[i]? =some s→jM A o bb 80 s (fun d=>bn (gu s d))∧d+dS s≤70)→∀(m:Nat) (σ:St) (l:List UInt8),m+r.length=cs.length→
 (∀(i:Nat) s,r[i]? =some s→∃a,cs[m+i]? =some a∧jc S σ a s)→σ[oa]? =some ⟨ga,false,.cells 96 cs⟩→bY A o σ l d bb→A≤σ.length→iV σ=true→l.length+(QC d r).length≤1000000000→∀{Q:Out→Env→St→Prop},
 (∀σ',bY A o σ' (l ++ QC d r) d bb→jg A o σ σ'→Q (.exit 0) (blkX o oa ga cs.length) σ')→aV X [0,16,17,18] aah [(0,.p o 0 0),(16,.sl oa ga 0 cs.length 1),(17,.i .i64 cs.length),(18,.i .i64 m)] σ Q:=by
 intro r
 induction r with
 | nil=>
   intro _ m σ l hm _ _ hb _ _ _ Q q
   obtain rfl:m=cs.length:=hm
   refine aV.round ay (lit:=false) ?_
   conv=>whnf
   rw [decide_eq_false (by omega)]
   conv=>whnf
   conv=>whnf
   exact q σ (by simpa [QC] using hb) (.refl _ _ _)
 | cons s r ih=>
   intro JA m σ l hm hel ho hb hA hT hl Q q
   have hxo:=hS oa hoa
   simp only [bg] at hm
   obtain⟨a,ha,hx⟩:=hel 0 s rfl
   obtain⟨ox,gx,rfl⟩:=hx.ptr
   have ha':cs[0+m*1]? =some (.p ox gx 0):=by rw [Nat.zero_add,Nat.mul_one];exact ha
   simp only [QC,bM,bg,bZ] at hl q
   have htl:(bn (lu d)).length=d:=by rw [OV];simp
   refine aV.round ay (lit:=false) ?_
   conv=>whnf
   rw [decide_eq_true (by omega)]
   conv=>whnf
   conv=>whnf
   refine⟨m,rfl,by omega,?_⟩
   conv=>whnf
   refine ak (aj (T:=dH) rfl rfl (ah ho) ha') ?_
   conv=>whnf
   refine QB hb dw hA hd (by omega) fun σ1 h1 k1=>?_
   have l1:=k1.len
   conv=>whnf
   obtain⟨q1,q2⟩:=JA 0 s rfl
   refine q1 d hS (hx.kept hS k1) h1 (by omega) (k1.tab hG hT) q2 (by simp only [bM];omega) fun σ2 h2 k2'=>?_
   have k2:=k1.trans k2'
   have l2:=k2.len
   conv=>whnf
   refine bG [[10]] h2 dw (by omega) (by simp) (by simp only [bM,List.flatten_cons,List.flatten_nil,bg,bZ];omega) fun σ3 h3 nG=>?_
   have k3:=k2.trans nG
   have l3:=k3.len
   conv=>whnf
   refine⟨((m+1:Nat):Int),wrap_i64 (by omega) (by omega),?_⟩
   conv=>whnf
   refine ih (fun i t ht=>JA (i+1) t (by simpa using ht)) (m+1) σ3 _ (by omega) (fun i t ht=>?_) ((k3.low oa hxo.1 hxo.2).trans ho) h3 (by omega) (k3.tab hG hT) (by simp only [bM,List.flatten_cons,List.flatten_nil,bg,bZ];omega) fun σ' h4 k4=>?_
   ·obtain⟨a,h1,h2⟩:=hel (i+1) t (by simpa using ht)
    exact⟨a,by rw [show m+1+i=m+(i+1) by omega];exact h1,h2.kept hS k3⟩
   ·exact q σ' (by simpa [iC] using h4) (k3.trans k4)
theorem WH (dw:o<A)(hG:10≤A∧10≤o) {S:Nat→Prop} (hS:∀i,S i→i<A∧i≠o) {d:Nat} {b:gY} (JA:∀(i:Nat) s,(jy b)[i]? =some s→jM A o bb 80 s (fun d=>bn (gu s d))∧d+1+dS s≤70)(hd:d≤70) {σ:St} {v:AV} {l:List UInt8} (hv:dX S σ v b)(hn:(jy b).length≤1000000000)
 (hb:bY A o σ l d bb) (hA:A≤σ.length) (hT:iV σ=true) (hl:l.length+(bn (qp ++ jo b (d+1) ++ oQ d)).length≤1000000000) {Q:AV→St→Prop} (q:∀σ',bY A o σ' (l ++ bn (qp ++ jo b (d+1) ++ oQ d)) d bb→jg A o σ σ'→Q (.tu []) σ') :
 au X 45 [.p o 0 0,v] σ Q:=by
 have et:bn (qp ++ jo b (d+1) ++ oQ d)=[32,123,10] ++ QC (d+1) (jy b) ++ bn (lu d) ++ [125]:=by
  rw [aS,aS,txSs];unfold oQ;rw [aS];simp [qp,bn]
 have htl:(bn (lu d)).length=d:=by rw [OV];simp
 rw [et] at hl q
 simp only [bM,bg,bZ] at hl
 have hfull:v= .sl0∧jy b=[]∨∃oa ga cs,S oa∧v= .sl oa ga 0 cs.length 1∧σ[oa]? =some ⟨ga,false,.cells 96 cs⟩∧cs.length=(jy b).length∧∀(i:Nat) (x:Sm),(jy b)[i]? =some x→∃a,cs[i]? =some a∧jc S σ a x:=by
  cases b with
  | nil=>exact .inl ⟨hv,rfl⟩
  | cons s r=>
    obtain⟨oa2,ga2,n2,hoa,e2⟩:∃oa ga n,S oa∧v= .sl oa ga 0 n 1:=by obtain⟨oa,ga,cs,h1,h2,_⟩:=hv;exact⟨oa,ga,_,h1,h2⟩
    obtain⟨oa,ga,cs,rfl,ho,hlen,hel⟩:=hv.list
    injection e2 with e2
    subst e2
    exact .inr ⟨oa,ga,cs,hoa,rfl,ho,hlen,hel⟩
 have last:∀(dF:St),bY A o dF (l ++ [32,123,10] ++ QC (d+1) (jy b)) d bb→jg A o σ dF→∀{Q':AV→St→Prop},(∀fC,bY A o fC (l ++ [32,123,10] ++ QC (d+1) (jy b) ++ bn (lu d)) d bb→jg A o σ fC→A≤fC.length→Q' (.tu []) fC)→au X 79 [.p o 0 0] dF Q':=by
  intro dF h4 k4 Q' q'
  have:=k4.len
  exact QB h4 dw (by omega) (by omega) (by simp only [bM,bg,bZ];omega) fun fC h5 k5=>q' fC h5 (k4.trans k5) (by have:=(k4.trans k5).len;omega)
 rcases hfull with ⟨rfl,hnil⟩ | ⟨oa,ga,cs,hoa,rfl,ho,hlen,hel⟩
 ·refine au.body (F:=F45) ay (lit:=false) rfl rfl (aU rfl) ?_
  conv=>whnf
  refine bG [[32,123,10]] hb dw hA (by simp) (by simp;omega) fun σ1 h1 k1=>?_
  have l1:=k1.len
  have h1':=h1
  obtain⟨b0,buf,j1,j2,j3,j4⟩:=h1'
  conv=>whnf
  refine ak (aj (T:=fF) rfl rfl (ah (j1)) rfl) ?_
  conv=>whnf
  refine⟨((d+1:Nat):Int),wrap_i64 (by omega) (by omega),?_⟩
  conv=>whnf
  refine ak (aC [b0,buf,.i .i64 (d+1:Nat),.b bb] rfl j1 rfl rfl (aU rfl) rfl) ?_
  obtain⟨h2,k2'⟩:=bY.deep (d':=d+1) j1 j2 j3 j4 dw
  generalize σ1.set o ⟨0,false,.cells 79 [b0,buf,.i .i64 (d+1:Nat),.b bb]⟩=σ2 at h2 k2' ⊢
  have k2:=k1.trans k2'
  have l2:=k2.len
  conv=>whnf
  refine aV.round ay (lit:=false) ?_
  conv=>whnf
  have h2':=h2
  obtain⟨b0,buf,j1,j2,j3,j4⟩:=h2'
  refine ak (aj (T:=fF) rfl rfl (ah (j1)) rfl) ?_
  conv=>whnf
  refine⟨((d:Nat):Int),by rw [wrap_i64 (by omega) (by omega)];omega,?_⟩
  conv=>whnf
  refine ak (aC [b0,buf,.i .i64 (d:Nat),.b bb] rfl j1 rfl rfl (aU rfl) rfl) ?_
  obtain⟨h3,nG⟩:=bY.deep (d':=d) j1 j2 j3 j4 dw
  generalize σ2.set o ⟨0,false,.cells 79 [b0,buf,.i .i64 (d:Nat),.b bb]⟩=σ3 at h3 nG ⊢
  have k3:=k2.trans nG
  conv=>whnf
  refine last σ3 (by rw [hnil];simpa [QC] using h3) k3 fun fC h5 k5 l5=>?_
  conv=>whnf
  refine bG [[125]] h5 dw l5 (by simp) (by simp only [bM,List.flatten_cons,List.flatten_nil,bg,bZ];omega) fun oG h6 k6=>?_
  conv=>whnf
  exact hb.fin (by simpa [iC] using h6) (k5.trans k6) (by simpa [iC] using q)
 ·have hao:=hS oa hoa
  refine au.body (F:=F45) ay (lit:=false) rfl rfl (aU rfl) ?_
  conv=>whnf
  refine bG [[32,123,10]] hb dw hA (by simp) (by simp;omega) fun σ1 h1 k1=>?_
  have l1:=k1.len
  have h1':=h1
  obtain⟨b0,buf,j1,j2,j3,j4⟩:=h1'
  conv=>whnf
  refine ak (aj (T:=fF) rfl rfl (ah (j1)) rfl) ?_
  conv=>whnf
  refine⟨((d+1:Nat):Int),wrap_i64 (by omega) (by omega),?_⟩
  conv=>whnf
  refine ak (aC [b0,buf,.i .i64 (d+1:Nat),.b bb] rfl j1 rfl rfl (aU rfl) rfl) ?_
  obtain⟨h2,k2'⟩:=bY.deep (d':=d+1) j1 j2 j3 j4 dw
  generalize σ1.set o ⟨0,false,.cells 79 [b0,buf,.i .i64 (d+1:Nat),.b bb]⟩=σ2 at h2 k2' ⊢
  have k2:=k1.trans k2'
  have l2:=k2.len
  conv=>whnf
  refine OW dw hG hS hoa (by omega) (by omega) (jy b) JA 0 σ2 _ (by omega) (fun i t ht=>?_) ((k2.low oa hao.1 hao.2).trans ho) h2 (by omega) (k2.tab hG hT) (by simp only [bM,List.flatten_cons,List.flatten_nil,bg,bZ];omega) fun dF h4 Sz=>?_
  ·obtain⟨a,q1,q2⟩:=hel i t ht
   exact⟨a,by rw [Nat.zero_add];exact q1,q2.kept hS k2⟩
  have k4:=k2.trans Sz
  have h4':=h4
  obtain⟨b0,buf,j1,j2,j3,j4⟩:=h4'
  conv=>whnf
  refine ak (aj (T:=fF) rfl rfl (ah (j1)) rfl) ?_
  conv=>whnf
  refine⟨((d:Nat):Int),by rw [wrap_i64 (by omega) (by omega)];omega,?_⟩
  conv=>whnf
  refine ak (aC [b0,buf,.i .i64 (d:Nat),.b bb] rfl j1 rfl rfl (aU rfl) rfl) ?_
  obtain⟨h3,nG⟩:=bY.deep (d':=d) j1 j2 j3 j4 dw
  generalize dF.set o ⟨0,false,.cells 79 [b0,buf,.i .i64 (d:Nat),.b bb]⟩=σ3 at h3 nG ⊢
  have k3:=k4.trans nG
  conv=>whnf
  refine last σ3 (by simpa [iC] using h3) k3 fun fC h5 k5 l5=>?_
  conv=>whnf
  refine bG [[125]] h5 dw l5 (by simp) (by simp only [bM,List.flatten_cons,List.flatten_nil,bg,bZ];omega) fun oG h6 k6=>?_
  conv=>whnf
  exact hb.fin (by simpa [iC] using h6) (k5.trans k6) (by simpa [iC] using q)
end
end Go.Abs.YtlkfbfhkcaldlaaGreatDoor
