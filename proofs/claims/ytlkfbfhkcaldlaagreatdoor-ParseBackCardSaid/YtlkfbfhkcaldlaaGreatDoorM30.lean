/- Texts of this claim, joined: Uf, Ug. -/
import Derived.Test.YtlkfbfhkcaldlaaGreatDoorM29
set_option linter.unusedVariables false
set_option linter.unusedSimpArgs false
namespace Go.Abs.YtlkfbfhkcaldlaaGreatDoor
open Go.Proofs
set_option maxRecDepth 4000
@[reducible] def argX (o oa ga n:Nat):Env:=put (some 55) (.b false) [(0,.p o 0 0),(52,.sl oa ga 0 n 1),(53,.i .i64 n),(54,.i .i64 n)]
theorem RQ {t:Tr} (h:WT t)(c:Nat):1≤(iJ t c).length:=by
 obtain⟨b,y,hb,_⟩:=fstE h c
 rw [←CV,hb];simp
theorem IW:∀{a:Trs},WTs a→∀b,(trL a).length≤(vH a b).length
 | .nil,_,b=>Nat.zero_le _
 | .cons t r,h,b=>by
   cases h with
   | cons _ _ h1 h2=>
     have h3:=RQ h1 1
     have h4:=IW h2 false
     simp only [trL,vH,List.length_cons,List.length_append];omega
theorem bC.ptr {S:Nat→Prop} {σ:St} {v:AV} :∀{t:Tr},WT t→bC S σ v t→∃o g,v= .p o g 0
 | .ex ..,_,h=>by obtain⟨o,g,L,R,A,_,hv,_⟩:=h;exact⟨o,g,hv⟩
def RS:List Tr→Bool→List UInt8
 | [],_=>[]
 | t :: r,first=>(if first=true then [] else [44,32]) ++ iJ t 1 ++ RS r false
theorem CO:∀(a:Trs) (b:Bool),vH a b=RS (trL a) b
 | .nil,b=>by simp [vH,trL,RS]
 | .cons t r,b=>by simp only [vH,trL,RS,CO r false]
theorem IX:∀{a:Trs},WTs a→∀t∈trL a,WT t
 | .nil,_,t,h=>by cases h
 | .cons s r,h,t,ht=>by
   cases h with
   | cons _ _ h1 h2=>
     rcases List.mem_cons.1 ht with rfl | ht
     ·exact h1
     ·exact IX h2 t ht
section
variable {o A d:Nat} {bb:Bool}
theorem J9 (bP:o<A)(hG:10≤A∧10≤o) {S:Nat→Prop} (hS:∀i,S i→i<A∧i≠o) {oa ga:Nat} {cs:List AV} (hoa:S oa)(hcl:cs.length≤1000000000):∀(r:List Tr),(∀t∈r,WT t)→(∀(i:Nat) t,r[i]? =some t→gQ A o d bb t)→∀(m:Nat) (σ:St) (l:List UInt8),m+r.length=cs.length→
 (∀(i:Nat) t,r[i]? =some t→∃a,cs[m+i]? =some a∧bC S σ a t)→σ[oa]? =some ⟨ga,false,.cells 44 cs⟩→bI A o σ l d bb→A≤σ.length→fJ σ=true→l.length+(RS r (m == 0)).length≤1000000000→∀{Q:Out→Env→St→Prop},
 (∀σ',bI A o σ' (l ++ RS r (m == 0)) d bb→fP A o σ σ'→Q (.exit 1) (argX o oa ga cs.length) σ')→aS X [0,52,53,54] FP [(0,.p o 0 0),(52,.sl oa ga 0 cs.length 1),(53,.i .i64 cs.length),(54,.i .i64 m)] σ Q:=by
 intro r
 induction r with
 | nil=>
   intro _ _ m σ l hm _ _ hb _ _ _ Q q
   obtain rfl:m=cs.length:=hm
   refine aS.round aC (lit:=false) ?_
   conv=>whnf
   rw [decide_eq_false (by omega)]
   conv=>whnf
   conv=>whnf
   exact q σ (by simpa [RS] using hb) (.refl _ _ _)
 | cons t r ih=>
   intro hw CP m σ l hm hel ho hb hA hT hl Q q
   have hwt:WT t∧∀t∈r,WT t:=⟨hw t (List.mem_cons_self ..),fun x hx=>hw x (List.mem_cons_of_mem _ hx)⟩
   have hxo:=hS oa hoa
   simp only [List.length_cons] at hm
   obtain⟨a,ha,hx⟩:=hel 0 t rfl
   obtain⟨ox,gx,rfl⟩:=hx.ptr hwt.1
   have ha':cs[0+m*1]? =some (.p ox gx 0):=by rw [Nat.zero_add,Nat.mul_one];exact ha
   have hnext:∀(i:Nat) t',r[i]? =some t'→∃a,cs[m+1+i]? =some a∧bC S σ a t':=fun i t' ht=>by
    obtain⟨a,h1,h2⟩:=hel (i+1) t' (by simpa using ht)
    exact⟨a,by rw [show m+1+i=m+(i+1) by omega];exact h1,h2⟩
   simp only [RS,List.length_append] at hl q
   have step:∀(σ1:St) (l1:List UInt8),bI A o σ1 l1 d bb→fP A o σ σ1→l1=l ++ (if(m == 0)=true then [] else [44,32])→(∀(Q':AV→St→Prop),(∀σ',bI A o σ' (l1 ++ iJ t 1) d bb→fP A o σ1 σ'→Q' (.tu []) σ')→ay X 109 [.p o 0 0,.p ox gx 0,.i .i64 1] σ1 Q'):=by
    intro σ1 l1 h1 k1 e1 Q' hq
    have:=k1.len
    exact CP 0 t rfl 1 hS (hx.kept hS k1) h1 (by omega) (k1.tab hG hT) (by rw [e1,List.length_append];omega) fun σ' h2 k2=>hq σ' h2 k2
   have rest:∀(σ1 σ2:St) (l1:List UInt8),fP A o σ σ1→l1=l ++ (if(m == 0)=true then [] else [44,32])→bI A o σ2 (l1 ++ iJ t 1) d bb→fP A o σ1 σ2→aS X [0,52,53,54] FP [(0,.p o 0 0),(52,.sl oa ga 0 cs.length 1),(53,.i .i64 cs.length),(54,.i .i64 ((m+1:Nat):Int))] σ2 Q:=by
    intro σ1 σ2 l1 k1 e1 h2 k2
    have k3:=k1.trans k2
    have:=k3.len
    refine ih hwt.2 (fun i t' ht=>CP (i+1) t' (by simpa using ht)) (m+1) σ2 (l1 ++ iJ t 1) (by omega) (fun i t' ht=>?_) ((k3.low oa hxo.1 hxo.2).trans ho) h2 (by omega) (k3.tab hG hT) ?_ fun σ' h4 k4=>?_
    ·obtain⟨a,h1,h2⟩:=hnext i t' ht
     exact⟨a,h1,h2.kept hS k3⟩
    ·rw [show (m+1 == 0)=false from rfl,e1,List.length_append,List.length_append];omega
    ·rw [show (m+1 == 0)=false from rfl,e1] at h4
     exact q σ' (by simpa [List.append_assoc] using h4) (k3.trans k4)
   cases m with
   | zero=>
     refine aS.round aC (lit:=false) ?_
     conv=>whnf
     rw [decide_eq_true (by omega)]
     conv=>whnf
     conv=>whnf
     refine⟨0,rfl,by omega,?_⟩
     conv=>whnf
     refine ak (aj (T:=aV) rfl rfl (ah ho) ha') ?_
     conv=>whnf
     refine step σ l hb (.refl _ _ _) (by simp) _ fun σ2 h2 k2=>?_
     conv=>whnf
     refine⟨((0+1:Nat):Int),wrap_i64 (by omega) (by omega),?_⟩
     conv=>whnf
     exact rest σ σ2 l (.refl _ _ _) (by simp) h2 k2
   | succ m=>
     refine aS.round aC (lit:=false) ?_
     conv=>whnf
     rw [decide_eq_true (by omega)]
     conv=>whnf
     conv=>whnf
     refine⟨m+1,rfl,by omega,?_⟩
     conv=>whnf
     refine ak (aj (T:=aV) rfl rfl (ah ho) ha') ?_
     conv=>whnf
     rw [decide_eq_true (show (0:Int)<((m+1:Nat):Int) by omega)]
     conv=>whnf
     refine aY [[44,32]] hb bP hA (by simp) (by simp at hl ⊢;omega) fun σ1 h1 k1=>?_
     conv=>whnf
     refine step σ1 (l ++ [[44,32]].flatten) h1 k1 (by simp) _ fun σ2 h2 k2=>?_
     conv=>whnf
     refine⟨((m+1+1:Nat):Int),wrap_i64 (by omega) (by omega),?_⟩
     conv=>whnf
     exact rest σ1 σ2 _ k1 (by simp) h2 k2
theorem OJ (bP:o<A)(hG:10≤A∧10≤o) {n ln:Nat} {nm tx:List UInt8} {l r:Tr} {ar:Trs} (hw:WTs ar)(ia:∀(i:Nat) t,(trL ar)[i]? =some t→gQ A o d bb t):gQ A o d bb (.ex 4 n nm tx l r ar ln):=by
 intro S σ v out c hS hv hb hA hT hl Q q
 obtain⟨ox,gx,L,R,Ax,hs,rfl,hx,_,_,hAx⟩:=hv
 rw [iJ,if_neg (by decide),if_neg (by decide),if_pos rfl] at hl q
 simp only [List.length_append,List.length_cons,List.length_nil] at hl
 have hxo:=hS ox hs
 have hal:=IW hw true
 cases ar with
 | nil=>
   obtain rfl:Ax= .sl0:=hAx
   refine ay.body (F:=vg) aC (lit:=false) rfl rfl (Nat.le_of_ble_eq_true rfl) ?_
   conv=>whnf
   refine ak (aj (T:=dJ) rfl rfl (ah (hx)) rfl) ?_
   conv=>whnf
   refine ak (aj (T:=dP) rfl rfl (ah (hx)) rfl) ?_
   conv=>whnf
   refine aY [nm,[40]] hb bP hA (by simp) (by simp;omega) fun σ1 h1 k1=>?_
   have hx1:σ1[ox]? =_:=(k1.low ox hxo.1 hxo.2).trans hx
   have l1:=k1.len
   conv=>whnf
   refine ak (aj (T:=nJ) rfl rfl (ah (hx1)) rfl) ?_
   conv=>whnf
   refine aS.round aC (lit:=false) ?_
   conv=>whnf
   refine aY [[41]] h1 bP (by omega) (by simp) (by simp;omega) fun σ2 h2 k2=>?_
   conv=>whnf
   exact hb.fin (by simpa [vH,List.append_assoc] using h2) (k1.trans k2) (by simpa [vH,List.append_assoc] using q)
 | cons t y=>
   obtain⟨oa2,ga2,n2,hoa,e2⟩:∃oa ga n,S oa∧Ax= .sl oa ga 0 n 1:=by obtain⟨oa,ga,cs,h1,h2,_⟩:=hAx;exact⟨oa,ga,_,h1,h2⟩
   obtain⟨oa,ga,cs,rfl,ho,hlen,hel⟩:=hAx.list
   injection e2 with e2
   subst e2
   have hao:=hS oa hoa
   refine ay.body (F:=vg) aC (lit:=false) rfl rfl (Nat.le_of_ble_eq_true rfl) ?_
   conv=>whnf
   refine ak (aj (T:=dJ) rfl rfl (ah (hx)) rfl) ?_
   conv=>whnf
   refine ak (aj (T:=dP) rfl rfl (ah (hx)) rfl) ?_
   conv=>whnf
   refine aY [nm,[40]] hb bP hA (by simp) (by simp;omega) fun σ1 h1 k1=>?_
   have hx1:σ1[ox]? =_:=(k1.low ox hxo.1 hxo.2).trans hx
   have l1:=k1.len
   conv=>whnf
   refine ak (aj (T:=nJ) rfl rfl (ah (hx1)) rfl) ?_
   conv=>whnf
   refine J9 bP hG hS hoa (by rw [CO] at hl hal;omega) (trL (.cons t y)) (IX hw) ia 0 σ1 _ (by omega) (fun i t' ht=>?_) ((k1.low oa hao.1 hao.2).trans ho) h1 (by omega) (k1.tab hG hT) (by rw [CO] at hl;simp only [List.length_append,List.flatten_cons,List.flatten_nil,List.length_cons,List.length_nil,List.append_nil];show _+(RS _ true).length≤_;omega) fun σ2 h2 k2=>?_
   ·obtain⟨a,q1,q2⟩:=hel i t' ht
    exact⟨a,by rw [Nat.zero_add];exact q1,q2.kept hS k1⟩
   have k12:=k1.trans k2
   have l2:=k12.len
   rw [show (0 == 0)=true from rfl,←CO] at h2
   conv=>whnf
   refine aY [[41]] h2 bP (by omega) (by simp) (by simp at hl ⊢;omega) fun σ3 h3 k3=>?_
   conv=>whnf
   exact hb.fin (by simpa [List.append_assoc] using h3) (k12.trans k3) (by simpa [List.append_assoc] using q)
theorem nn_of {t:Tr} (h:WT t):nnT t:=by cases h <;> trivial
mutual
theorem dZ (bP:o<A)(hG:10≤A∧10≤o):∀(t:Tr),WT t→gQ A o d bb t
 | .nil,h=>by cases h
 | .ex k n nm tx l r ar ln,h=>by
   cases h with
   | num _ _ h=>exact RP bP rfl h
   | name _ _ h=>exact OC bP rfl
   | un _ _ _ h1 h2=>exact OI bP hG rfl (fun(h:nnT .nil)=>False.elim h) (dZ bP hG _ h2)
   | bin _ _ _ _ h1 h2 h3=>exact OI bP hG rfl (fun _=>dZ bP hG _ h2) (dZ bP hG _ h3)
   | call _ _ _ h1 h2=>exact OJ bP hG h2 (EZ bP hG _ h2)
   | cell _ _ _ h1 h2=>exact OD bP hG rfl (dZ bP hG _ h1) (dZ bP hG _ h2)
   | link _ _ _ h1 h2=>exact OE bP hG rfl (nn_of h2) (dZ bP hG _ h1) (dZ bP hG _ h2)
   | new _ _ h=>exact RN bP hG rfl (dZ bP hG _ h)
   | inn _=>exact Vs bP rfl
theorem EZ (bP:o<A)(hG:10≤A∧10≤o):∀(a:Trs),WTs a→∀(i:Nat) t,(trL a)[i]? =some t→gQ A o d bb t
 | .nil,_,i,t,ht=>by simp [trL] at ht
 | .cons s r,h,i,t,ht=>by
   cases h with
   | cons _ _ h1 h2=>
     cases i with
     | zero=>simp only [trL,List.getElem?_cons_zero,Option.some.injEq] at ht;subst ht;exact dZ bP hG _ h1
     | succ i=>exact EZ bP hG r h2 i t (by simpa [trL] using ht)
end
end
end Go.Abs.YtlkfbfhkcaldlaaGreatDoor
namespace Go.Abs.YtlkfbfhkcaldlaaGreatDoor
open Go.Proofs
set_option maxRecDepth 4000
theorem G7 (d:Nat):txP (tabsP d)=List.replicate d 9:=by
 induction d with
 | zero=>rfl
 | succ d ih=>show txP (.b 9 :: tabsP d)=_;simp only [txP];rw [ih];rfl
theorem J_ (d:Nat):Lib.repeatL [9] d=List.replicate d 9:=by
 induction d with
 | zero=>rfl
 | succ d ih=>show [9] ++ Lib.repeatL [9] d=_;rw [ih];rfl
section
variable {o A:Nat} {bb:Bool}
theorem IY {d:Nat} {σ:St} {l:List UInt8} (hb:bI A o σ l d bb)(bP:o<A)(hA:A≤σ.length)(hd:d≤1000)(hl:l.length+d≤1000000000) {Q:AV→St→Prop}
 (q:∀σ',bI A o σ' (l ++ txP (tabsP d)) d bb→fP A o σ σ'→Q (.tu []) σ'):ay X 79 [.p o 0 0] σ Q:=by
 have hb':=hb
 obtain⟨b0,buf,hob,_⟩:=hb'
 refine ay.body (F:=F79) aC (lit:=false) rfl rfl (Nat.le_of_ble_eq_true rfl) ?_
 conv=>whnf
 refine ak (aj (T:=dJ) rfl rfl (ah (hob)) rfl) ?_
 conv=>whnf
 refine ay.prim (g:=qZ) (v:=.s (List.replicate d 9)) (σ':=σ) rfl ?_ ?_
 ·simp only [qZ]
  rw [if_pos ⟨by omega,by omega,by simp only [Int.toNat_natCast,List.length_cons,List.length_nil];omega⟩,Int.toNat_natCast,J_]
 conv=>whnf
 refine aY [List.replicate d 9] hb bP hA (by simp) (by simp;omega) fun σ1 h1 k1=>?_
 conv=>whnf
 exact hb.fin (by rw [G7];simpa using h1) k1 q
theorem rV {d:Nat} {S:Nat→Prop} {σ:St} {v:AV} {l:List UInt8} {t:Tr} (ahead:List UInt8)(hS:∀i,S i→i<A∧i≠o)(hw:WT t)(hv:bC S σ v t)(hb:bI A o σ l d bb)(bP:o<A)(hG:10≤A∧10≤o)(hA:A≤σ.length)(hT:fJ σ=true)
 (hl:l.length+(ahead ++ iJ t 1 ++ [59]).length≤1000000000) {Q:AV→St→Prop} (q:∀σ',bI A o σ' (l ++ (ahead ++ iJ t 1 ++ [59])) d bb→fP A o σ σ'→Q (.tu []) σ'):ay X 108 [.p o 0 0,.s ahead,v] σ Q:=by
 obtain⟨ox,gx,rfl⟩:=hv.ptr hw
 simp only [List.length_append,List.length_cons,List.length_nil] at hl
 refine ay.body (F:=Ub) aC (lit:=false) rfl rfl (Nat.le_of_ble_eq_true rfl) ?_
 conv=>whnf
 refine aY [ahead] hb bP hA (by simp) (by simp;omega) fun σ1 h1 k1=>?_
 have l1:=k1.len
 conv=>whnf
 refine dZ bP hG t hw 1 hS (hv.kept hS k1) h1 (by omega) (k1.tab hG hT) (by simp;omega) fun σ2 h2 k2=>?_
 have k12:=k1.trans k2
 have l2:=k12.len
 conv=>whnf
 refine aY [[59]] h2 bP (by omega) (by simp) (by simp;omega) fun σ3 h3 k3=>?_
 conv=>whnf
 exact hb.fin (by simpa [List.append_assoc] using h3) (k12.trans k3) (by simpa [List.append_assoc] using q)
def gU (A o:Nat)(bb:Bool)(f:Nat)(s:Sm)(txt:Nat→List UInt8):Prop:=∀{S:Nat→Prop} {σ:St} {v:AV} {l:List UInt8} (d:Nat),(∀i,S i→i<A∧i≠o)→fM S σ v s→bI A o σ l d bb→A≤σ.length→fJ σ=true→d+dS s≤70→l.length+(txt d).length≤1000000000→∀{Q:AV→St→Prop},
 (∀σ',bI A o σ' (l ++ txt d) d bb→fP A o σ σ'→Q (.tu []) σ')→ay X f [.p o 0 0,v] σ Q
theorem fM.kept {S:Nat→Prop} {σ σ':St} {v:AV} {t:Sm} (hS:∀i,S i→i<A∧i≠o)(h:fM S σ v t)(k:fP A o σ σ'):fM S σ' v t:=h.mono (fun _ h=>h) (fun i hi a ha=>by rw [k.low i (hS i hi).1 (hS i hi).2];exact ha)
theorem dn.kept {S:Nat→Prop} {σ σ':St} {v:AV} {t:Sms} (hS:∀i,S i→i<A∧i≠o)(h:dn S σ v t)(k:fP A o σ σ'):dn S σ' v t:=h.mono (fun _ h=>h) (fun i hi a ha=>by rw [k.low i (hS i hi).1 (hS i hi).2];exact ha)
theorem fM.ptr {S:Nat→Prop} {σ:St} {v:AV} :∀{t:Sm},fM S σ v t→∃o g,v= .p o g 0
 | .st ..,h=>by obtain⟨o,g,L,R,T,E,_,hv,_⟩:=h;exact⟨o,g,hv⟩
def IZ (d:Nat):List Sm→List UInt8
 | []=>[]
 | s :: r=>txP (tabsP d) ++ txP (pcS s d) ++ [10] ++ IZ d r
theorem Vy:∀(l:Sms) (d:Nat),txP (pcSs l d)=IZ d (smL l)
 | .nil,d=>by simp [pcSs,txP,smL,IZ]
 | .cons s r,d=>by simp [pcSs,txP_app,txP,smL,IZ,Vy r d]
theorem bI.deep {d d':Nat} {σ:St} {l:List UInt8} {b0 buf:AV} (h1:σ[o]? =some ⟨0,false,.cells 79 [b0,buf,.i .i64 d,.b bb]⟩)(h2:b0= .p0∨b0= .p o 0 0)(h3:l=[]→buf= .sl0)(h4:kW 5 A σ buf (fE l))(bP:o<A) :
 bI A o (σ.set o ⟨0,false,.cells 79 [b0,buf,.i .i64 d',.b bb]⟩) l d' bb∧fP A o σ (σ.set o ⟨0,false,.cells 79 [b0,buf,.i .i64 d',.b bb]⟩):=by
 refine⟨⟨b0,buf,at_set h1 _,h2,h3,?_⟩,⟨by rw [List.length_set];omega,fun i _ hi=>by rw [List.getElem?_set_ne (fun e=>hi e.symm)],fun i a ha hi _=>by rw [List.getElem?_set_ne (fun e=>hi e.symm)];exact ha⟩⟩
 rcases h4 with h | ⟨o3,g3,q1,q2,q3⟩
 ·exact .inl h
 ·exact .inr ⟨o3,g3,q1,q2,by rw [List.getElem?_set_ne (by omega)];exact q3⟩
@[reducible] def blkX (o oa ga n:Nat):Env:=put (some 19) (.b false) [(0,.p o 0 0),(16,.sl oa ga 0 n 1),(17,.i .i64 n),(18,.i .i64 n)]
theorem G8 (bP:o<A)(hG:10≤A∧10≤o) {S:Nat→Prop} (hS:∀i,S i→i<A∧i≠o) {oa ga d:Nat} {cs:List AV} (hoa:S oa)(hcl:cs.length≤1000000000)(hd:d≤1000):∀(r:List Sm),(∀(i:Nat) s,r[i]? =some s→gU A o bb 80 s (fun d=>txP (pcS s d))∧d+dS s≤70)→∀(m:Nat) (σ:St) (l:List UInt8),m+r.length=cs.length→
 (∀(i:Nat) s,r[i]? =some s→∃a,cs[m+i]? =some a∧fM S σ a s)→σ[oa]? =some ⟨ga,false,.cells 96 cs⟩→bI A o σ l d bb→A≤σ.length→fJ σ=true→l.length+(IZ d r).length≤1000000000→∀{Q:Out→Env→St→Prop},
 (∀σ',bI A o σ' (l ++ IZ d r) d bb→fP A o σ σ'→Q (.exit 0) (blkX o oa ga cs.length) σ')→aS X [0,16,17,18] SH [(0,.p o 0 0),(16,.sl oa ga 0 cs.length 1),(17,.i .i64 cs.length),(18,.i .i64 m)] σ Q:=by
 intro r
 induction r with
 | nil=>
   intro _ m σ l hm _ _ hb _ _ _ Q q
   obtain rfl:m=cs.length:=hm
   refine aS.round aC (lit:=false) ?_
   conv=>whnf
   rw [decide_eq_false (by omega)]
   conv=>whnf
   conv=>whnf
   exact q σ (by simpa [IZ] using hb) (.refl _ _ _)
 | cons s r ih=>
   intro CP m σ l hm hel ho hb hA hT hl Q q
   have hxo:=hS oa hoa
   simp only [List.length_cons] at hm
   obtain⟨a,ha,hx⟩:=hel 0 s rfl
   obtain⟨ox,gx,rfl⟩:=hx.ptr
   have ha':cs[0+m*1]? =some (.p ox gx 0):=by rw [Nat.zero_add,Nat.mul_one];exact ha
   simp only [IZ,List.length_append,List.length_cons,List.length_nil] at hl q
   have htl:(txP (tabsP d)).length=d:=by rw [G7];simp
   refine aS.round aC (lit:=false) ?_
   conv=>whnf
   rw [decide_eq_true (by omega)]
   conv=>whnf
   conv=>whnf
   refine⟨m,rfl,by omega,?_⟩
   conv=>whnf
   refine ak (aj (T:=bZ) rfl rfl (ah ho) ha') ?_
   conv=>whnf
   refine IY hb bP hA hd (by omega) fun σ1 h1 k1=>?_
   have l1:=k1.len
   conv=>whnf
   obtain⟨q1,q2⟩:=CP 0 s rfl
   refine q1 d hS (hx.kept hS k1) h1 (by omega) (k1.tab hG hT) q2 (by simp only [List.length_append];omega) fun σ2 h2 k2'=>?_
   have k2:=k1.trans k2'
   have l2:=k2.len
   conv=>whnf
   refine aY [[10]] h2 bP (by omega) (by simp) (by simp only [List.length_append,List.flatten_cons,List.flatten_nil,List.length_cons,List.length_nil];omega) fun σ3 h3 jF=>?_
   have k3:=k2.trans jF
   have l3:=k3.len
   conv=>whnf
   refine⟨((m+1:Nat):Int),wrap_i64 (by omega) (by omega),?_⟩
   conv=>whnf
   refine ih (fun i t ht=>CP (i+1) t (by simpa using ht)) (m+1) σ3 _ (by omega) (fun i t ht=>?_) ((k3.low oa hxo.1 hxo.2).trans ho) h3 (by omega) (k3.tab hG hT) (by simp only [List.length_append,List.flatten_cons,List.flatten_nil,List.length_cons,List.length_nil];omega) fun σ' h4 k4=>?_
   ·obtain⟨a,h1,h2⟩:=hel (i+1) t (by simpa using ht)
    exact⟨a,by rw [show m+1+i=m+(i+1) by omega];exact h1,h2.kept hS k3⟩
   ·exact q σ' (by simpa [List.append_assoc] using h4) (k3.trans k4)
theorem OL (bP:o<A)(hG:10≤A∧10≤o) {S:Nat→Prop} (hS:∀i,S i→i<A∧i≠o) {d:Nat} {b:Sms} (CP:∀(i:Nat) s,(smL b)[i]? =some s→gU A o bb 80 s (fun d=>txP (pcS s d))∧d+1+dS s≤70)(hd:d≤70) {σ:St} {v:AV} {l:List UInt8} (hv:dn S σ v b)(hn:(smL b).length≤1000000000)
 (hb:bI A o σ l d bb) (hA:A≤σ.length) (hT:fJ σ=true) (hl:l.length+(txP (opnP ++ pcSs b (d+1) ++ clsP d)).length≤1000000000) {Q:AV→St→Prop} (q:∀σ',bI A o σ' (l ++ txP (opnP ++ pcSs b (d+1) ++ clsP d)) d bb→fP A o σ σ'→Q (.tu []) σ') :
 ay X 45 [.p o 0 0,v] σ Q:=by
 have et:txP (opnP ++ pcSs b (d+1) ++ clsP d)=[32,123,10] ++ IZ (d+1) (smL b) ++ txP (tabsP d) ++ [125]:=by
  rw [txP_app,txP_app,Vy];unfold clsP;rw [txP_app];simp [opnP,txP]
 have htl:(txP (tabsP d)).length=d:=by rw [G7];simp
 rw [et] at hl q
 simp only [List.length_append,List.length_cons,List.length_nil] at hl
 have hfull:v= .sl0∧smL b=[]∨∃oa ga cs,S oa∧v= .sl oa ga 0 cs.length 1∧σ[oa]? =some ⟨ga,false,.cells 96 cs⟩∧cs.length=(smL b).length∧∀(i:Nat) (x:Sm),(smL b)[i]? =some x→∃a,cs[i]? =some a∧fM S σ a x:=by
  cases b with
  | nil=>exact .inl ⟨hv,rfl⟩
  | cons s r=>
    obtain⟨oa2,ga2,n2,hoa,e2⟩:∃oa ga n,S oa∧v= .sl oa ga 0 n 1:=by obtain⟨oa,ga,cs,h1,h2,_⟩:=hv;exact⟨oa,ga,_,h1,h2⟩
    obtain⟨oa,ga,cs,rfl,ho,hlen,hel⟩:=hv.list
    injection e2 with e2
    subst e2
    exact .inr ⟨oa,ga,cs,hoa,rfl,ho,hlen,hel⟩
 have last:∀(bW:St),bI A o bW (l ++ [32,123,10] ++ IZ (d+1) (smL b)) d bb→fP A o σ bW→∀{Q':AV→St→Prop},(∀dL,bI A o dL (l ++ [32,123,10] ++ IZ (d+1) (smL b) ++ txP (tabsP d)) d bb→fP A o σ dL→A≤dL.length→Q' (.tu []) dL)→ay X 79 [.p o 0 0] bW Q':=by
  intro bW h4 k4 Q' q'
  have:=k4.len
  exact IY h4 bP (by omega) (by omega) (by simp only [List.length_append,List.length_cons,List.length_nil];omega) fun dL h5 k5=>q' dL h5 (k4.trans k5) (by have:=(k4.trans k5).len;omega)
 rcases hfull with ⟨rfl,hnil⟩ | ⟨oa,ga,cs,hoa,rfl,ho,hlen,hel⟩
 ·refine ay.body (F:=F45) aC (lit:=false) rfl rfl (Nat.le_of_ble_eq_true rfl) ?_
  conv=>whnf
  refine aY [[32,123,10]] hb bP hA (by simp) (by simp;omega) fun σ1 h1 k1=>?_
  have l1:=k1.len
  have h1':=h1
  obtain⟨b0,buf,j1,j2,j3,j4⟩:=h1'
  conv=>whnf
  refine ak (aj (T:=dJ) rfl rfl (ah (j1)) rfl) ?_
  conv=>whnf
  refine⟨((d+1:Nat):Int),wrap_i64 (by omega) (by omega),?_⟩
  conv=>whnf
  refine ak (aF [b0,buf,.i .i64 (d+1:Nat),.b bb] rfl j1 rfl rfl (Nat.le_of_ble_eq_true rfl) rfl) ?_
  obtain⟨h2,k2'⟩:=bI.deep (d':=d+1) j1 j2 j3 j4 bP
  generalize σ1.set o ⟨0,false,.cells 79 [b0,buf,.i .i64 (d+1:Nat),.b bb]⟩=σ2 at h2 k2' ⊢
  have k2:=k1.trans k2'
  have l2:=k2.len
  conv=>whnf
  refine aS.round aC (lit:=false) ?_
  conv=>whnf
  have h2':=h2
  obtain⟨b0,buf,j1,j2,j3,j4⟩:=h2'
  refine ak (aj (T:=dJ) rfl rfl (ah (j1)) rfl) ?_
  conv=>whnf
  refine⟨((d:Nat):Int),by rw [wrap_i64 (by omega) (by omega)];omega,?_⟩
  conv=>whnf
  refine ak (aF [b0,buf,.i .i64 (d:Nat),.b bb] rfl j1 rfl rfl (Nat.le_of_ble_eq_true rfl) rfl) ?_
  obtain⟨h3,jF⟩:=bI.deep (d':=d) j1 j2 j3 j4 bP
  generalize σ2.set o ⟨0,false,.cells 79 [b0,buf,.i .i64 (d:Nat),.b bb]⟩=σ3 at h3 jF ⊢
  have k3:=k2.trans jF
  conv=>whnf
  refine last σ3 (by rw [hnil];simpa [IZ] using h3) k3 fun dL h5 k5 l5=>?_
  conv=>whnf
  refine aY [[125]] h5 bP l5 (by simp) (by simp only [List.length_append,List.flatten_cons,List.flatten_nil,List.length_cons,List.length_nil];omega) fun jY h6 k6=>?_
  conv=>whnf
  exact hb.fin (by simpa [List.append_assoc] using h6) (k5.trans k6) (by simpa [List.append_assoc] using q)
 ·have hao:=hS oa hoa
  refine ay.body (F:=F45) aC (lit:=false) rfl rfl (Nat.le_of_ble_eq_true rfl) ?_
  conv=>whnf
  refine aY [[32,123,10]] hb bP hA (by simp) (by simp;omega) fun σ1 h1 k1=>?_
  have l1:=k1.len
  have h1':=h1
  obtain⟨b0,buf,j1,j2,j3,j4⟩:=h1'
  conv=>whnf
  refine ak (aj (T:=dJ) rfl rfl (ah (j1)) rfl) ?_
  conv=>whnf
  refine⟨((d+1:Nat):Int),wrap_i64 (by omega) (by omega),?_⟩
  conv=>whnf
  refine ak (aF [b0,buf,.i .i64 (d+1:Nat),.b bb] rfl j1 rfl rfl (Nat.le_of_ble_eq_true rfl) rfl) ?_
  obtain⟨h2,k2'⟩:=bI.deep (d':=d+1) j1 j2 j3 j4 bP
  generalize σ1.set o ⟨0,false,.cells 79 [b0,buf,.i .i64 (d+1:Nat),.b bb]⟩=σ2 at h2 k2' ⊢
  have k2:=k1.trans k2'
  have l2:=k2.len
  conv=>whnf
  refine G8 bP hG hS hoa (by omega) (by omega) (smL b) CP 0 σ2 _ (by omega) (fun i t ht=>?_) ((k2.low oa hao.1 hao.2).trans ho) h2 (by omega) (k2.tab hG hT) (by simp only [List.length_append,List.flatten_cons,List.flatten_nil,List.length_cons,List.length_nil];omega) fun bW h4 J8=>?_
  ·obtain⟨a,q1,q2⟩:=hel i t ht
   exact⟨a,by rw [Nat.zero_add];exact q1,q2.kept hS k2⟩
  have k4:=k2.trans J8
  have h4':=h4
  obtain⟨b0,buf,j1,j2,j3,j4⟩:=h4'
  conv=>whnf
  refine ak (aj (T:=dJ) rfl rfl (ah (j1)) rfl) ?_
  conv=>whnf
  refine⟨((d:Nat):Int),by rw [wrap_i64 (by omega) (by omega)];omega,?_⟩
  conv=>whnf
  refine ak (aF [b0,buf,.i .i64 (d:Nat),.b bb] rfl j1 rfl rfl (Nat.le_of_ble_eq_true rfl) rfl) ?_
  obtain⟨h3,jF⟩:=bI.deep (d':=d) j1 j2 j3 j4 bP
  generalize bW.set o ⟨0,false,.cells 79 [b0,buf,.i .i64 (d:Nat),.b bb]⟩=σ3 at h3 jF ⊢
  have k3:=k4.trans jF
  conv=>whnf
  refine last σ3 (by simpa [List.append_assoc] using h3) k3 fun dL h5 k5 l5=>?_
  conv=>whnf
  refine aY [[125]] h5 bP l5 (by simp) (by simp only [List.length_append,List.flatten_cons,List.flatten_nil,List.length_cons,List.length_nil];omega) fun jY h6 k6=>?_
  conv=>whnf
  exact hb.fin (by simpa [List.append_assoc] using h6) (k5.trans k6) (by simpa [List.append_assoc] using q)
end
end Go.Abs.YtlkfbfhkcaldlaaGreatDoor
