/- Texts of this claim, joined: Ti, Tj. -/
import Derived.Test.YtnbdedokjfpckaaGreatDoorM24
set_option linter.unusedVariables false
set_option linter.unusedSimpArgs false
namespace Go.cO.YtnbdedokjfpckaaGreatDoor
open Go.Proofs
set_option maxRecDepth 1000000
mutual
theorem fq_of:∀(v:AV) (Q:AV→Prop),Q v→fq v Q:=by
 intro v Q h
 match v with
 | .u | .b _ | .i _ _ | .s _ | .p0 | .p _ _ _ | .sl0 | .sl _ _ _ _ _ | .fn _ _ _ | .fn0 | .ic _ _ | .gK | .qX | .mp _ _ | .cd _ _=>simpa only [fq] using h
 | .ag cs=>simp only [fq];exact D8 cs _ h
 | .tu cs=>simp only [fq];exact D8 cs _ h
theorem D8:∀(l:List AV) (Q:List AV→Prop),Q l→E8 l Q:=by
 intro l Q h
 match l with
 | []=>simpa only [E8] using h
 | v :: l=>simp only [E8];exact fq_of v _ (D8 l _ h)
end
theorem Ko (v:AV)(Q:AV→Prop)(h:Q v):fc v Q:=by
 cases v with
 | b t=>cases t <;> exact h
 | _=>exact fq_of _ _ h
section
variable {σ:St} {s t m:Int}
def hrt (m s t:Int):List AV:=Vh m ++ [.p 31 0 0,.i .i64 s,.i .i64 t,.i .u64 0]
theorem hrt_p (m s t:Int):(hrt m s t)[136]? =some (.p 31 0 0):=by kernel_rfl
theorem hrt_s (m s t:Int):(hrt m s t)[137]? =some (.i .i64 s):=by kernel_rfl
theorem hrt_t (m s t:Int):(hrt m s t)[138]? =some (.i .i64 t):=by kernel_rfl
theorem hrt_n (m s t:Int):(hrt m s t)[139]? =some (.i .u64 0):=by kernel_rfl
theorem hrt_f (m s t:Int):((hrt m s t).drop 0).take 136=Vh m:=by kernel_rfl
theorem hrt_l (m s t:Int):(hrt m s t).length=140:=by kernel_rfl
def uP (m s t:Int):List AV:=Vh m ++ [.i .i64 s,.i .i64 t,.i .i64 0,.i .u64 0]
theorem aai (m s t:Int):iV (fun i=>([(0,37,false),(136,3,false),(137,38,false),(138,3,false),(139,39,false)][i]? :Option (Nat×Nat×Bool)).bind fun f=>Option.map (fun F=>(f.fst,AT.size F)) (aN.get f.snd.fst)) Dq.zero.cells
 [(0,.ag (Vh m)),(1,.i .i64 s),(2,.i .i64 t),(3,.i .i64 0),(4,.i .u64 0)]=some (uP m s t):=by kernel_rfl
theorem vw_l (m s t:Int):(uP m s t).length=140:=by kernel_rfl
theorem UM (m s t:Int):(uP m s t).all AV.one=true:=by kernel_rfl
theorem UN (m s t:Int):setCells Dq.zero.cells 0 (uP m s t)=uP m s t:=by kernel_rfl
theorem aaj (m s t:Int):((uP m s t).drop 0).take 140=uP m s t:=by kernel_rfl
theorem aak (m s t:Int):(AV.ag (uP m s t)).flat=true:=by kernel_rfl
attribute [local irreducible] hrt Vh uP
theorem UO (hH:σ[32]? =some ⟨0,false,.cells 77 (hrt m s t)⟩):dH XZ 27 [.p 32 0 0] σ fun a s=>a= .b false∧s=σ:=by
 refine dH.body (F:=F27) aG (lit:=false) rfl rfl (Nat.le_of_ble_eq_true rfl) ?_
 conv=>whnf
 refine fO (dP (T:=yT73) rfl rfl (bW hH) (hrt_p m s t)) ?_
 conv=>whnf
 exact Fin.flat rfl (iP σ) ⟨rfl,rfl⟩
theorem UQ {e:Nat} {o g off z:Nat} (hS:σ[31]? =some ⟨0,false,.cells e [.sl o g off 0 z]⟩):dH XZ 35 [.p 31 0 0] σ fun a s=>a= .i .i64 0∧s=σ:=by
 refine dH.body (F:=F35) aG (lit:=false) rfl rfl (Nat.le_of_ble_eq_true rfl) ?_
 conv=>whnf
 refine fO (dP (T:=yT59) rfl rfl (bW hS) rfl) ?_
 conv=>whnf
 refine⟨by decide,0,by decide,?_⟩
 conv=>whnf
 exact Fin.flat rfl (iP σ) ⟨rfl,rfl⟩
theorem aal {e:Nat} {o g off z:Nat} (hH:σ[32]? =some ⟨0,false,.cells 77 (hrt m s t)⟩)(hS:σ[31]? =some ⟨0,false,.cells e [.sl o g off 0 z]⟩) :
 dH XZ 12 [.p 32 0 0] σ fun a s'=>a= .ag (uP m s t)∧s'= σ:=by
 have hl1:=(List.getElem?_eq_some_iff.1 hH).1
 refine dH.body (F:=F12) aG (lit:=false) rfl rfl (Nat.le_of_ble_eq_true rfl) ?_
 conv=>whnf
 have x1:Ext σ (bg 41 Dq.zero.cells σ):=(Ext.refl σ).new _ _
 have b1:=xP 41 Dq.zero.cells σ
 generalize bg 41 Dq.zero.cells σ=σ1 at b1 x1 ⊢
 refine dH.to (UO (x1.get hH)) ?_
 conv=>whnf
 have hload:fG (aN.get 37) (.p 32 0 0) σ1=some (.ag (Vh m)):=by
  rw [uw (T:=yT37) rfl rfl (bW (x1.get hH)) (by rw [hrt_l];exact Nat.le_of_ble_eq_true rfl)]
  exact congrArg (fun l=>some (AV.ag l)) (hrt_f m s t)
 refine fO hload ?_
 refine Ko _ _ ?_
 conv=>whnf
 refine fO (dP (T:=yT3) rfl rfl (bW (x1.get hH)) (hrt_s m s t)) ?_
 conv=>whnf
 refine fO (dP (T:=yT38) rfl rfl (bW (x1.get hH)) (hrt_t m s t)) ?_
 conv=>whnf
 refine fO (dP (T:=yT73) rfl rfl (bW (x1.get hH)) (hrt_p m s t)) ?_
 conv=>whnf
 refine fO (dP (T:=O1) rfl rfl (bW (x1.get hH)) (hrt_n m s t)) ?_
 conv=>whnf
 refine dH.to (UQ (x1.get hS)) ?_
 conv=>whnf
 refine⟨?_,?_⟩
 ·conv=>whnf
  refine fO hload ?_
  refine Ko _ _ ?_
  rfl
 refine⟨?_,?_⟩
 ·conv=>whnf
  refine fO (dP (T:=yT3) rfl rfl (bW (x1.get hH)) (hrt_s m s t)) ?_
  rfl
 refine⟨?_,?_⟩
 ·conv=>whnf
  refine fO (dP (T:=yT38) rfl rfl (bW (x1.get hH)) (hrt_t m s t)) ?_
  rfl
 refine⟨?_,?_⟩
 ·conv=>whnf
  refine fO (dP (T:=O1) rfl rfl (bW (x1.get hH)) (hrt_n m s t)) ?_
  rfl
 conv=>whnf
 refine fO (aai m s t) ?_
 refine D8 _ _ ?_
 conv=>whnf
 refine fO (qI (T:=Dq) (uP m s t) rfl b1 (vw_l m s t) (UM m s t) (Nat.le_of_ble_eq_true rfl) (UN m s t)) ?_
 have x2:Ext σ (σ1.set σ.length ⟨0,false,.cells 41 (uP m s t)⟩):=x1.set (Nat.le_refl _) _
 have b2:(σ1.set σ.length ⟨0,false,.cells 41 (uP m s t)⟩)[σ.length]? =some ⟨0,false,.cells 41 (uP m s t)⟩:=at_set b1 _
 generalize σ1.set σ.length ⟨0,false,.cells 41 (uP m s t)⟩=σ2 at b2 x2 ⊢
 conv=>whnf
 have hload2:fG (aN.get 41) (.p σ.length 0 0) σ2=some (.ag (uP m s t)):=by
  rw [uw (T:=Dq) rfl rfl (bW b2) (by rw [vw_l];exact Nat.le_of_ble_eq_true rfl)]
  exact congrArg (fun l=>some (AV.ag l)) (aaj m s t)
 refine fO hload2 ?_
 refine Ko _ _ ?_
 conv=>whnf
 exact Fin.flat (aak m s t) x2.take ⟨rfl,rfl⟩
end
end Go.cO.YtnbdedokjfpckaaGreatDoor
namespace Go.cO.YtnbdedokjfpckaaGreatDoor
open Go.Proofs
set_option maxRecDepth 1000000
section
variable {X:Ctx} {e:Env} {σ:St} {Q:Out→Env→St→Prop}
theorem seq_assoc {a b c:AC} (h:EvC X (.seq (.seq a b) c) e σ Q):EvC X (.seq a (.seq b c)) e σ Q:=by
 rw [jg,jg] at h
 rw [jg]
 refine j_ h fun o e s q=>?_
 cases o with
 | normal=>rw [Out.gW] at q ⊢;rw [jg];exact q
 | exit j=>rw [Out.kX] at q ⊢;rw [Out.kX] at q;exact q
 | ret=>rw [Out.nO] at q ⊢;rw [Out.nO] at q;exact q
def UR:AC→AC→AC
 | .seq a b,c=>.seq a (UR b c)
 | x,c=>.seq x c
theorem D9:∀(p c:AC) {e:Env} {σ:St},EvC X (.seq p c) e σ Q→EvC X (UR p c) e σ Q
 | .seq a b,c,e,σ,h=>by
   have h:=seq_assoc h
   show EvC X (.seq a (UR b c)) e σ Q
   rw [jg] at h ⊢
   refine j_ h fun o e s q=>?_
   cases o with
   | normal=>rw [Out.gW] at q ⊢;exact D9 b c q
   | exit j=>rw [Out.kX] at q ⊢;exact q
   | ret=>rw [Out.nO] at q ⊢;exact q
 | .skip,_,_,_,h | .reg _,_,_,_,h | .l9 _,_,_,_,h | .cond _ _ _,_,_,_,h | .blk _ _,_,_,_,h | .loop _ _,_,_,_,h | .cut _ _,_,_,_,h | .exit _,_,_,_,h | .ret,_,_,_,h=>h
theorem kF {p c:AC} {P:Env→St→Prop} (h:EvC X p e σ fun o e σ=>o= .normal∧P e σ)(k:∀e σ,P e σ→EvC X c e σ Q):EvC X (.seq p c) e σ Q:=by
 rw [jg]
 refine j_ h fun o e s q=>?_
 obtain⟨rfl,q⟩:=q
 rw [Out.gW]
 exact k e s q
theorem Gz {l:List Nat} {r c:AC} (h:EvC X (.seq (.cut l r) c) (clear l e) σ Q):EvC X (.seq (.cut l r) c) e σ Q:=by
 rw [jg,mM,ku] at h
 rw [jg,mM];exact h
end
def E1 (set st t:Int):Env:=[(1000000,.u),(0,.i .u16 set),(1,.i .u8 st),(6,.p 32 0 0),(10,.i .i64 t)]
theorem BU (set st:Int):EvC XZ preA (eX 0 [.i .u16 set,.i .u8 st]) G0 fun o e σ=>o= .normal∧get e 0= .i .u16 set∧get e 1= .i .u8 st∧get e 6= .p 32 0 0∧get e 10= .i .i64 0∧σ=S0 0 0:=by
 have h:=UL set st
 rw [Option.map_eq_some_iff] at h
 obtain⟨⟨o,e,σ⟩,h1,h2⟩:=h
 simp only [Prod.mk.injEq] at h2
 obtain⟨rfl,q0,q1,q6,q10,rfl⟩:=h2
 exact⟨40,_,h1,rfl,q0,q1,q6,q10,rfl⟩
theorem partB {set st c t:Int} (hc:st.tmod 5=c)(ht:(c=4∧t=7)∨(c≠4∧t=0)) {e:Env} (h0:get e 0= .i .u16 set)(h1:get e 1= .i .u8 st)(h6:get e 6= .p 32 0 0)(h10:get e 10= .i .i64 0) {σ:St} :
 EvC XZ (AC.hd U5) e σ fun o e' σ'=>o= .normal∧clear [1000000,0,1,6,10] e'= E1 set st t∧σ'= σ:=by
 refine Gz ?_
 have hcl:clear [0,1,6,10] e=[(0,.i .u16 set),(1,.i .u8 st),(6,.p 32 0 0),(10,.i .i64 0)]:=by
  unfold clear;simp only [List.map_cons,List.map_nil,h0,h1,h6,h10]
 rw [hcl]
 refine wQ aG (lit:=false) ?_
 conv=>whnf
 refine⟨by decide,?_⟩
 rw [hc]
 conv=>whnf
 rcases ht with ⟨h4,rfl⟩ | ⟨h4,rfl⟩
 ·rw [show decide (c=4)=true from decide_eq_true h4]
  conv=>whnf
  exact⟨rfl,rfl,rfl⟩
 ·rw [show decide (c=4)=false from decide_eq_false h4]
  conv=>whnf
  exact⟨rfl,rfl,rfl⟩
def AC.cb:AC→AC
 | .cut _ c=>c
 | c=>c
def U6:AC:=AC.cb (AC.tl U5)
def U7:AC:=AC.tl U6
def U8:AC:=AC.tl U7
def U9:AC:=AC.tl U8
def preB:AC:=.seq (AC.hd U6) (.seq (AC.hd U7) (AC.hd U8))
theorem dH.run {X:Ctx} {n f:Nat} {args:List AV} {σ σ':St} {v:AV} {Q:AV→St→Prop} (h:aFn X n f args σ=some (v,σ'))(q:Q v σ'):dH X f args σ Q:=⟨n,(v,σ'),h,q⟩
theorem partC {set st c t:Int} (hc:st.tmod 5=c)(h0:0≤c)(h5:c<5)(hgo:aFn XZ 20 16 [.p 32 0 0,.i .i64 c,.i .i64 t] (S0 0 0)=some (.b true,S0 c t)) :
 EvC XZ preB (E1 set st t) (S0 0 0) fun o e σ=>o= .normal∧get e 0= .i .u16 set∧get e 6= .p 32 0 0∧get e 11= .p 59 0 0∧get e 12= .i .i64 0∧σ=S1 c t 0:=by
 refine wQ aG (lit:=false) ?_
 conv=>whnf
 refine⟨by decide,?_⟩
 rw [hc]
 conv=>whnf
 refine⟨c,wrap_i64 (by omega) (by omega),?_⟩
 conv=>whnf
 refine dH.run hgo ?_
 conv=>whnf
 refine dH.run (aah c t) ?_
 conv=>whnf
 exact⟨rfl,rfl,rfl,rfl,rfl,rfl⟩
end Go.cO.YtnbdedokjfpckaaGreatDoor
