/- Texts of this claim, joined: Ss4, Ss5, Ss6. -/
import Derived.Test.YtjcicgkencfbgaaGreatDoorM29
import Derived.Test.YtjcicgkencfbgaaGreatDoorM26
import Derived.Test.YtjcicgkencfbgaaGreatDoorM19
set_option linter.unusedVariables false
set_option linter.unusedSimpArgs false
namespace Go.bG.YtjcicgkencfbgaaGreatDoor
open Go.Proofs
set_option maxRecDepth 4000
theorem pair_f {S S':Nat→Prop} {σ:St} {a b:AV} {f g:Fm} (ha:qp S σ a f)(hb:qp S' σ b g)(wa:wF f≤100000)(wb:wF g≤100000):Nonempty (Zu σ a b (wz f g)):=by
 obtain⟨nm,ps,pt,bd,ln⟩:=f
 obtain⟨nm',ps',xH,bd',AQ⟩:=g
 obtain⟨o,A,Bd,_,ea,h1,hA,hB⟩:=ha
 obtain⟨o',A',YK,_,eb,h2,hA',hB'⟩:=hb
 simp only [wF] at wa wb
 exact⟨o,o',ln,AQ,nm,nm',pt,xH,ps,ps',A,Bd,A',YK,gZ bd bd',ea,eb,h1,h2,hA.or,hA'.or,by omega,by omega,Je _ bd (Nat.le_refl _) bd' hB hB' (by omega) (by omega),rfl⟩
theorem LX {S S':Nat→Prop} {σ:St} {oA oB:Nat} {A B:AV} {fs gs:List Fm} (hx:σ[oA]? =some (rJ A))(hy:σ[oB]? =some (rJ B))(ha:Vu S σ A fs)(hb:Vu S' σ B gs)(wa:ET fs≤100000)(wb:ET gs≤100000) :
 ay X 21 [.p oA 0 0,.p oB 0 0,.b false] σ fun v s=>v= .b (fV fs gs)∧s=σ:=by
 obtain⟨cs,l1,n1,e1⟩:=ha
 obtain⟨ds,l2,n2,e2⟩:=hb
 have h1:=yP fs
 have h2:=yP gs
 have r2:cs.length≠ds.length→fV fs gs=false:=fun h=>qQ fs gs (by omega)
 rcases l1 with ⟨rfl,rfl⟩ | ⟨oa,ga,rfl,hc1⟩ <;> rcases l2 with ⟨rfl,rfl⟩ | ⟨ob,gb,rfl,hc2⟩
 ·rw [show fV fs gs=true from by
   obtain rfl:fs=[]:=List.length_eq_zero_iff.1 n1.symm
   obtain rfl:gs=[]:=List.length_eq_zero_iff.1 n2.symm
   rfl]
  refine ay.body (F:=Q_) aF (lit:=false) rfl rfl (Nat.le_of_ble_eq_true rfl) ?_
  conv=>whnf
  refine ak (aj (T:=iM) rfl rfl (ah (hx)) rfl) ?_
  conv=>whnf
  refine ak (aj (T:=iM) rfl rfl (ah (hy)) rfl) ?_
  conv=>whnf
  refine aS.round aF (lit:=false) ?_
  conv=>whnf
  refine ak (aj (T:=iM) rfl rfl (ah (hx)) rfl) ?_
  conv=>whnf
  exact Fin.flat rfl List.take_length ⟨rfl,rfl⟩
 ·by_cases hz:0=ds.length
  ·rw [show fV fs gs=true from by
        obtain rfl:fs=[]:=List.length_eq_zero_iff.1 n1.symm
        obtain rfl:gs=[]:=List.length_eq_zero_iff.1 (by omega)
        rfl]
   refine ay.body (F:=Q_) aF (lit:=false) rfl rfl (Nat.le_of_ble_eq_true rfl) ?_
   conv=>whnf
   refine ak (aj (T:=iM) rfl rfl (ah (hx)) rfl) ?_
   conv=>whnf
   refine ak (aj (T:=iM) rfl rfl (ah (hy)) rfl) ?_
   conv=>whnf
   rw [decide_eq_true (by omega)]
   conv=>whnf
   conv=>whnf
   refine aS.round aF (lit:=false) ?_
   conv=>whnf
   refine ak (aj (T:=iM) rfl rfl (ah (hx)) rfl) ?_
   conv=>whnf
   exact Fin.flat rfl List.take_length ⟨rfl,rfl⟩
  ·rw [r2 hz]
   refine ay.body (F:=Q_) aF (lit:=false) rfl rfl (Nat.le_of_ble_eq_true rfl) ?_
   conv=>whnf
   refine ak (aj (T:=iM) rfl rfl (ah (hx)) rfl) ?_
   conv=>whnf
   refine ak (aj (T:=iM) rfl rfl (ah (hy)) rfl) ?_
   conv=>whnf
   rw [decide_eq_false (by omega)]
   conv=>whnf
   conv=>whnf
   exact Fin.flat rfl List.take_length ⟨rfl,rfl⟩
 ·by_cases hz:cs.length=0
  ·rw [show fV fs gs=true from by
        obtain rfl:fs=[]:=List.length_eq_zero_iff.1 (by omega)
        obtain rfl:gs=[]:=List.length_eq_zero_iff.1 n2.symm
        rfl]
   refine ay.body (F:=Q_) aF (lit:=false) rfl rfl (Nat.le_of_ble_eq_true rfl) ?_
   conv=>whnf
   refine ak (aj (T:=iM) rfl rfl (ah (hx)) rfl) ?_
   conv=>whnf
   refine ak (aj (T:=iM) rfl rfl (ah (hy)) rfl) ?_
   conv=>whnf
   rw [decide_eq_true (by omega)]
   conv=>whnf
   conv=>whnf
   refine aS.round aF (lit:=false) ?_
   conv=>whnf
   refine ak (aj (T:=iM) rfl rfl (ah (hx)) rfl) ?_
   conv=>whnf
   rw [decide_eq_false (by omega)]
   conv=>whnf
   conv=>whnf
   exact Fin.flat rfl List.take_length ⟨rfl,rfl⟩
  ·rw [r2 hz]
   refine ay.body (F:=Q_) aF (lit:=false) rfl rfl (Nat.le_of_ble_eq_true rfl) ?_
   conv=>whnf
   refine ak (aj (T:=iM) rfl rfl (ah (hx)) rfl) ?_
   conv=>whnf
   refine ak (aj (T:=iM) rfl rfl (ah (hy)) rfl) ?_
   conv=>whnf
   rw [decide_eq_false (by omega)]
   conv=>whnf
   conv=>whnf
   exact Fin.flat rfl List.take_length ⟨rfl,rfl⟩
 ·by_cases hz:cs.length=ds.length
  ·generalize hR:fV fs gs=r
   refine ay.body (F:=Q_) aF (lit:=false) rfl rfl (Nat.le_of_ble_eq_true rfl) ?_
   conv=>whnf
   refine ak (aj (T:=iM) rfl rfl (ah (hx)) rfl) ?_
   conv=>whnf
   refine ak (aj (T:=iM) rfl rfl (ah (hy)) rfl) ?_
   conv=>whnf
   rw [decide_eq_true (by omega)]
   conv=>whnf
   conv=>whnf
   refine LW hx hy hc1 hc2 hz.symm (by omega) (YL fs gs) (fun i hi=>?_) (fun hall=>?_) (fun hex e' h6=>?_) cs.length 0 (by omega) (fun i hi=>absurd hi (Nat.not_lt_zero i))
   ·obtain⟨p,hu⟩:∃p,cs[i]? =some p:=⟨_,List.getElem?_eq_getElem hi⟩
    obtain⟨q,hv⟩:∃q,ds[i]? =some q:=⟨_,List.getElem?_eq_getElem (by omega)⟩
    obtain⟨f,hf,hpf⟩:=e1 i p hu
    obtain⟨g,hg,hqg⟩:=e2 i q hv
    have h4:=KO _ i f hf
    have h5:=KO _ i g hg
    rw [vF hf hg]
    exact⟨p,q,hu,hv,pair_f hpf hqg (by omega) (by omega)⟩
   ·obtain rfl:true=r:=by
     rw [←hR]
     refine(xw fs gs (by omega) fun i x y hx hy=>?_).symm
     rw [←vF hx hy]
     exact hall i (by have:=(List.getElem?_eq_some_iff.1 hx).1;omega)
    conv=>whnf
    exact Fin.flat rfl List.take_length ⟨rfl,rfl⟩
   ·obtain rfl:false=r:=by
     rw [←hR]
     obtain⟨i,hi,hf⟩:=hex
     obtain⟨x,hx⟩:∃x,fs[i]? =some x:=⟨_,List.getElem?_eq_getElem (by omega)⟩
     obtain⟨y,hy⟩:∃y,gs[i]? =some y:=⟨_,List.getElem?_eq_getElem (by omega)⟩
     rw [vF hx hy] at hf
     exact(xA fs gs i x y hx hy hf).symm
    conv=>whnf
    rw [h6]
    conv=>whnf
    exact Fin.flat rfl List.take_length ⟨rfl,rfl⟩
  ·rw [r2 hz]
   refine ay.body (F:=Q_) aF (lit:=false) rfl rfl (Nat.le_of_ble_eq_true rfl) ?_
   conv=>whnf
   refine ak (aj (T:=iM) rfl rfl (ah (hx)) rfl) ?_
   conv=>whnf
   refine ak (aj (T:=iM) rfl rfl (ah (hy)) rfl) ?_
   conv=>whnf
   rw [decide_eq_false (by omega)]
   conv=>whnf
   conv=>whnf
   exact Fin.flat rfl List.take_length ⟨rfl,rfl⟩
theorem VR {S S':Nat→Prop} {σ:St} {a b:AV} {fs gs:List Fm} (ha:kD S σ a fs)(hb:kD S' σ b gs)(wa:ET fs≤100000)(wb:ET gs≤100000):ay X 21 [a,b,.b false] σ fun v s=>v= .b (fV fs gs)∧s=σ:=by
 obtain⟨oA,A,rfl,hx,fa⟩:=ha.fs
 obtain⟨oB,B,rfl,hy,fb⟩:=hb.fs
 exact LX hx hy fa fb wa wb
theorem VT {σ:St} :ay X 21 [.p0,.p0,.b false] σ fun v s=>v= .b true∧s=σ:=by
 refine ay.body (F:=Q_) aF (lit:=false) rfl rfl (Nat.le_of_ble_eq_true rfl) ?_
 conv=>whnf
 exact Fin.flat rfl List.take_length ⟨rfl,rfl⟩
theorem VU {σ:St} {o g:Nat} :ay X 21 [.p0,.p o g 0,.b false] σ fun v s=>v= .b false∧s=σ:=by
 refine ay.body (F:=Q_) aF (lit:=false) rfl rfl (Nat.le_of_ble_eq_true rfl) ?_
 conv=>whnf
 exact Fin.flat rfl List.take_length ⟨rfl,rfl⟩
theorem VW {σ:St} {o g:Nat} :ay X 21 [.p o g 0,.p0,.b false] σ fun v s=>v= .b false∧s=σ:=by
 refine ay.body (F:=Q_) aF (lit:=false) rfl rfl (Nat.le_of_ble_eq_true rfl) ?_
 conv=>whnf
 exact Fin.flat rfl List.take_length ⟨rfl,rfl⟩
end Go.bG.YtjcicgkencfbgaaGreatDoor
namespace Go.bG.YtjcicgkencfbgaaGreatDoor
open Go.Proofs
set_option maxRecDepth 4000
def lu (S:Nat→Prop)(σ:St)(v:AV):Option (List Fm)→Prop
 | none=>v= .p0
 | some fs=>kD S σ v fs∧ET fs≤100000
def uz:Option (List Fm)→Option (List Fm)→Bool
 | none,none=>true
 | some a,some b=>fV a b
 | _,_=>false
theorem jC:∀r,uz r r=true
 | none=>rfl
 | some a=>uq a
theorem lu.mono {S S':Nat→Prop} {σ σ':St} (h1:∀o,S o→S' o)(h2:∀o,S o→∀a,σ[o]? =some a→σ'[o]? =some a) {v:AV} :∀{r:Option (List Fm)},lu S σ v r→lu S' σ' v r
 | none,h=>h
 | some _,h=>⟨h.1.mono h1 h2,h.2⟩
theorem lu.shape {S:Nat→Prop} {σ:St} {v:AV} :∀{r:Option (List Fm)},lu S σ v r→v= .p0∨∃o g,v= .p o g 0
 | none,h=>.inl h
 | some _,h=>by obtain⟨o,A,hv,_⟩:=h.1.fs;exact .inr ⟨o,0,hv⟩
theorem iZ {S S':Nat→Prop} {σ:St} {a b:AV} :∀{r q:Option (List Fm)},lu S σ a r→lu S' σ b q→ay X 7 [a,b] σ fun v s=>v= .b (uz r q)∧s=σ
 | none,none,ha,hb=>by
   have ha:a= .p0:=ha
   have hb:b= .p0:=hb
   subst ha;subst hb
   exact Ls
 | none,some gs,ha,hb=>by
   have ha:a= .p0:=ha
   subst ha
   exact Vx hb.1
 | some fs,none,ha,hb=>by
   have hb:b= .p0:=hb
   subst hb
   exact Vy ha.1
 | some fs,some gs,ha,hb=>Vw ha.1 hb.1 ha.2 hb.2
theorem Q8 {S S':Nat→Prop} {σ:St} {a b:AV} :∀{r q:Option (List Fm)},lu S σ a r→lu S' σ b q→ay X 21 [a,b,.b false] σ fun v s=>v= .b (uz r q)∧s=σ
 | none,none,ha,hb=>by
   have ha:a= .p0:=ha
   have hb:b= .p0:=hb
   subst ha;subst hb
   exact VT
 | none,some gs,ha,hb=>by
   have ha:a= .p0:=ha
   subst ha
   obtain⟨o,A,rfl,_⟩:=hb.1.fs
   exact VU
 | some fs,none,ha,hb=>by
   have hb:b= .p0:=hb
   subst hb
   obtain⟨o,A,rfl,_⟩:=ha.1.fs
   exact VW
 | some fs,some gs,ha,hb=>VR ha.1 hb.1 ha.2 hb.2
theorem oM:∀(k:Nat) (s:List UInt8) (l:Nat) (acc:List Tok) {a:List Tok} {n:Nat},iE k s l acc= .done a n→a.length≤acc.length+k
 | 0,[],l,acc,a,n,h=>by cases h;simp
 | 0,_ :: _,l,acc,a,n,h=>by cases h;simp
 | k+1,[],l,acc,a,n,h=>by cases h;omega
 | k+1,c :: r,l,acc,a,n,h=>by
   simp only [iE] at h
   split at h
   ·have:=oM k _ _ _ h;omega
   ·have:=oM k _ _ _ h;rw [List.length_append] at this;simp only [List.length_cons,List.length_nil] at this;omega
   ·cases h
theorem EK {t:List UInt8} {l:List Tok} (h:mG t= .toks l):l.length≤40000:=by
 unfold mG at h
 split at h
 ·cases h
 ·rename_i hl
  cases hr:iE t.length t 0 [] with
  | done a b=>
    rw [hr] at h
    have:=oM _ _ _ _ hr
    cases h
    rw [List.length_append]
    simp only [List.length_cons,List.length_nil] at this ⊢
    omega
  | bad a b=>rw [hr] at h;cases h
theorem qB {t:List UInt8} {fs:List Fm} {ts:List Tok} (h:jB t= .ok fs ts):ET fs≤100000:=by
 unfold jB at h
 split at h
 ·cases h
 ·rename_i l hl
  have h1:=EK hl
  have h2:=En (10*l.length+11) l
  rw [h] at h2
  have h2:ET fs+ts.length≤l.length:=h2
  omega
end Go.bG.YtjcicgkencfbgaaGreatDoor
namespace Go.bG.YtjcicgkencfbgaaGreatDoor
open Go.Proofs
set_option maxRecDepth 4000
theorem mM {S S':Nat→Prop} {σ:St} {a b:AV} {r q:Option (List Fm)} (ha:lu S σ a r)(hb:lu S' σ b q):ay X 8 [a,b] σ fun v s=>v= .b (uz r q)∧s=σ:=by
 have h:=Q8 ha hb
 rcases ha.shape with rfl | ⟨_,_,rfl⟩ <;> rcases hb.shape with rfl | ⟨_,_,rfl⟩
 all_goals
  refine ay.body (F:=F8) aF (lit:=false) rfl rfl (Nat.le_of_ble_eq_true rfl) ?_
  conv=>whnf
  refine ay.to h ?_
  cases uz r q
  all_goals
   conv=>whnf
   exact Fin.flat rfl List.take_length ⟨rfl,rfl⟩
theorem VX (t u:List UInt8)(σ:St)(hg:σ.take G0.length=G0):ay X 3 [.s t,.s u] σ fun v s=>v= .b true∧s=σ:=by
 refine ay.body (F:=F3) aF (lit:=false) rfl rfl (Nat.le_of_ble_eq_true rfl) ?_
 conv=>whnf
 refine Jd t σ _ ?_
 cases hr:jB t with
 | out=>trivial
 | ok fs ts=>
   have hw:=qB hr
   intro o σ1 x1 hp1
   conv=>whnf
   refine ak (aC (T:=iw) ([.i .i64 0,.i .i64 0]) rfl (aG _ _ _) rfl rfl (Nat.le_of_ble_eq_true rfl) rfl) ?_
   have x6:Ext σ1 ((au 25 iw.zero.cells σ1).set σ1.length ⟨0,false,.cells 25 [.i .i64 0,.i .i64 0]⟩):=((Ext.refl σ1).new _ _).set (Nat.le_refl _) _
   have b6:((au 25 iw.zero.cells σ1).set σ1.length ⟨0,false,.cells 25 [.i .i64 0,.i .i64 0]⟩)[σ1.length]? =_:=at_set (aG _ _ _) _
   have l6:((au 25 iw.zero.cells σ1).set σ1.length ⟨0,false,.cells 25 [.i .i64 0,.i .i64 0]⟩).length=σ1.length+1:=by rw [List.length_set,aH]
   generalize (au 25 iw.zero.cells σ1).set σ1.length ⟨0,false,.cells 25 [.i .i64 0,.i .i64 0]⟩=iU at b6 x6 l6 ⊢
   conv=>whnf
   refine Jd u iU _ ?_
   cases hq:jB u with
   | out=>trivial
   | ok gs us=>
     have hw':=qB hq
     intro o2 σ2 x2 hp2
     conv=>whnf
     refine ak (aC (T:=iw) ([.i .i64 0,.i .i64 0]) rfl (aG _ _ _) rfl rfl (Nat.le_of_ble_eq_true rfl) rfl) ?_
     have x9:Ext σ2 ((au 25 iw.zero.cells σ2).set σ2.length ⟨0,false,.cells 25 [.i .i64 0,.i .i64 0]⟩):=((Ext.refl σ2).new _ _).set (Nat.le_refl _) _
     have b9:((au 25 iw.zero.cells σ2).set σ2.length ⟨0,false,.cells 25 [.i .i64 0,.i .i64 0]⟩)[σ2.length]? =_:=at_set (aG _ _ _) _
     have l9:((au 25 iw.zero.cells σ2).set σ2.length ⟨0,false,.cells 25 [.i .i64 0,.i .i64 0]⟩).length=σ2.length+1:=by rw [List.length_set,aH]
     generalize (au 25 iw.zero.cells σ2).set σ2.length ⟨0,false,.cells 25 [.i .i64 0,.i .i64 0]⟩=GU at b9 x9 l9 ⊢
     conv=>whnf
     have xt:=((x1.trans x6).trans x2).trans x9
     have A:lu (fun i=>σ.length≤i) GU (.p o 0 0) (some fs):=⟨hp1.mono (fun i hi=>hi) (fun i hi a ha=>x9.get (x2.get (x6.get ha))),hw⟩
     have B:lu (fun i=>iU.length≤i) GU (.p o2 0 0) (some gs):=⟨hp2.mono (fun i hi=>hi) (fun i hi a ha=>x9.get ha),hw'⟩
     refine ay.to (iZ A B) ?_
     have EO:=mM A B
     revert EO
     cases uz (some fs) (some gs)
     all_goals
        intro EO
        conv=>whnf
        refine ay.to EO ?_
        conv=>whnf
        refine ay.to (iZ B A) ?_
        have EP:=mM B A
        revert EP
        cases uz (some gs) (some fs)
        all_goals
         intro EP
         conv=>whnf
         refine ay.to EP ?_
         conv=>whnf
         refine ay.to (iZ A A) ?_
         rw [jC]
         conv=>whnf
         refine tV _ (jo xt hg) ?_
         conv=>whnf
         exact Fin.flat rfl (xt).take ⟨rfl,rfl⟩
   | bad c l=>
     show _
     conv=>whnf
     refine ak (aC (T:=iw) ([.i .i64 c,.i .i64 l]) rfl (aG _ _ _) rfl rfl (Nat.le_of_ble_eq_true rfl) rfl) ?_
     have x9:Ext iU ((au 25 iw.zero.cells iU).set iU.length ⟨0,false,.cells 25 [.i .i64 c,.i .i64 l]⟩):=((Ext.refl iU).new _ _).set (Nat.le_refl _) _
     have b9:((au 25 iw.zero.cells iU).set iU.length ⟨0,false,.cells 25 [.i .i64 c,.i .i64 l]⟩)[iU.length]? =_:=at_set (aG _ _ _) _
     have l9:((au 25 iw.zero.cells iU).set iU.length ⟨0,false,.cells 25 [.i .i64 c,.i .i64 l]⟩).length=iU.length+1:=by rw [List.length_set,aH]
     generalize (au 25 iw.zero.cells iU).set iU.length ⟨0,false,.cells 25 [.i .i64 c,.i .i64 l]⟩=GU at b9 x9 l9 ⊢
     conv=>whnf
     have xt:=(x1.trans x6).trans x9
     have A:lu (fun i=>σ.length≤i) GU (.p o 0 0) (some fs):=⟨hp1.mono (fun i hi=>hi) (fun i hi a ha=>x9.get (x6.get ha)),hw⟩
     have B:lu (fun i=>σ.length≤i) GU .p0 none:=rfl
     refine ay.to (iZ A B) ?_
     have EO:=mM A B
     revert EO
     cases uz (some fs) none
     all_goals
        intro EO
        conv=>whnf
        refine ay.to EO ?_
        conv=>whnf
        refine ay.to (iZ B A) ?_
        have EP:=mM B A
        revert EP
        cases uz none (some fs)
        all_goals
         intro EP
         conv=>whnf
         refine ay.to EP ?_
         conv=>whnf
         refine ay.to (iZ A A) ?_
         rw [jC]
         conv=>whnf
         refine tV _ (jo xt hg) ?_
         conv=>whnf
         exact Fin.flat rfl (xt).take ⟨rfl,rfl⟩
 | bad c l=>
   show _
   conv=>whnf
   refine ak (aC (T:=iw) ([.i .i64 c,.i .i64 l]) rfl (aG _ _ _) rfl rfl (Nat.le_of_ble_eq_true rfl) rfl) ?_
   have x6:Ext σ ((au 25 iw.zero.cells σ).set σ.length ⟨0,false,.cells 25 [.i .i64 c,.i .i64 l]⟩):=((Ext.refl σ).new _ _).set (Nat.le_refl _) _
   have b6:((au 25 iw.zero.cells σ).set σ.length ⟨0,false,.cells 25 [.i .i64 c,.i .i64 l]⟩)[σ.length]? =_:=at_set (aG _ _ _) _
   have l6:((au 25 iw.zero.cells σ).set σ.length ⟨0,false,.cells 25 [.i .i64 c,.i .i64 l]⟩).length=σ.length+1:=by rw [List.length_set,aH]
   generalize (au 25 iw.zero.cells σ).set σ.length ⟨0,false,.cells 25 [.i .i64 c,.i .i64 l]⟩=iU at b6 x6 l6 ⊢
   conv=>whnf
   refine Jd u iU _ ?_
   cases hq:jB u with
   | out=>trivial
   | ok gs us=>
     have hw':=qB hq
     intro o2 σ2 x2 hp2
     conv=>whnf
     refine ak (aC (T:=iw) ([.i .i64 0,.i .i64 0]) rfl (aG _ _ _) rfl rfl (Nat.le_of_ble_eq_true rfl) rfl) ?_
     have x9:Ext σ2 ((au 25 iw.zero.cells σ2).set σ2.length ⟨0,false,.cells 25 [.i .i64 0,.i .i64 0]⟩):=((Ext.refl σ2).new _ _).set (Nat.le_refl _) _
     have b9:((au 25 iw.zero.cells σ2).set σ2.length ⟨0,false,.cells 25 [.i .i64 0,.i .i64 0]⟩)[σ2.length]? =_:=at_set (aG _ _ _) _
     have l9:((au 25 iw.zero.cells σ2).set σ2.length ⟨0,false,.cells 25 [.i .i64 0,.i .i64 0]⟩).length=σ2.length+1:=by rw [List.length_set,aH]
     generalize (au 25 iw.zero.cells σ2).set σ2.length ⟨0,false,.cells 25 [.i .i64 0,.i .i64 0]⟩=GU at b9 x9 l9 ⊢
     conv=>whnf
     have xt:=(x6.trans x2).trans x9
     have A:lu (fun i=>σ.length≤i) GU .p0 none:=rfl
     have B:lu (fun i=>iU.length≤i) GU (.p o2 0 0) (some gs):=⟨hp2.mono (fun i hi=>hi) (fun i hi a ha=>x9.get ha),hw'⟩
     refine ay.to (iZ A B) ?_
     have EO:=mM A B
     revert EO
     cases uz none (some gs)
     all_goals
       intro EO
       conv=>whnf
       refine ay.to EO ?_
       conv=>whnf
       refine ay.to (iZ B A) ?_
       have EP:=mM B A
       revert EP
       cases uz (some gs) none
       all_goals
         intro EP
         conv=>whnf
         refine ay.to EP ?_
         conv=>whnf
         refine ay.to (iZ A A) ?_
         rw [jC]
         conv=>whnf
         refine tV _ (jo xt hg) ?_
         conv=>whnf
         exact Fin.flat rfl (xt).take ⟨rfl,rfl⟩
   | bad c l=>
     show _
     conv=>whnf
     refine ak (aC (T:=iw) ([.i .i64 c,.i .i64 l]) rfl (aG _ _ _) rfl rfl (Nat.le_of_ble_eq_true rfl) rfl) ?_
     have x9:Ext iU ((au 25 iw.zero.cells iU).set iU.length ⟨0,false,.cells 25 [.i .i64 c,.i .i64 l]⟩):=((Ext.refl iU).new _ _).set (Nat.le_refl _) _
     have b9:((au 25 iw.zero.cells iU).set iU.length ⟨0,false,.cells 25 [.i .i64 c,.i .i64 l]⟩)[iU.length]? =_:=at_set (aG _ _ _) _
     have l9:((au 25 iw.zero.cells iU).set iU.length ⟨0,false,.cells 25 [.i .i64 c,.i .i64 l]⟩).length=iU.length+1:=by rw [List.length_set,aH]
     generalize (au 25 iw.zero.cells iU).set iU.length ⟨0,false,.cells 25 [.i .i64 c,.i .i64 l]⟩=GU at b9 x9 l9 ⊢
     conv=>whnf
     have xt:=x6.trans x9
     have A:lu (fun i=>σ.length≤i) GU .p0 none:=rfl
     refine ay.to (iZ A A) ?_
     rw [jC]
     conv=>whnf
     refine ay.to (mM A A) ?_
     rw [jC]
     conv=>whnf
     refine ay.to (iZ A A) ?_
     rw [jC]
     conv=>whnf
     refine ay.to (mM A A) ?_
     rw [jC]
     conv=>whnf
     refine ay.to (iZ A A) ?_
     rw [jC]
     conv=>whnf
     refine tV _ (jo xt hg) ?_
     conv=>whnf
     exact Fin.flat rfl xt.take ⟨rfl,rfl⟩
end Go.bG.YtjcicgkencfbgaaGreatDoor
