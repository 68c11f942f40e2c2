/- Texts of this claim, joined: Kc, Kd. -/
import Derived.Test.YtlkfbfhkcaldlaaGreatDoorM36
set_option linter.unusedVariables false
set_option linter.unusedSimpArgs false
namespace Go.Abs.YtlkfbfhkcaldlaaGreatDoor
open Go.Proofs
set_option maxRecDepth 4000
theorem sg_all:∀k,k<18→aF ((sgL[k]?).getD [])=(sgN[k]?).getD 0∧aF ((sgL[k]?).getD [])≠0:=by decide
theorem sg_ok (n:Nat):aF (mQ n)=Xi n∧aF (mQ n)≠0:=sg_all (n%18) (Nat.mod_lt _ (by decide))
theorem qx {s:List UInt8} (h:aF s≠0):s.length≤2:=op_2 h
theorem iT {n:Nat} (h:n<4294967296):(Lib.decDigits n).length≤50:=by
 have:=qw (t:=jB n) (.num _ _ h) 1
 simpa [fH,bn,nT,Jw,jB] using this
section
variable {a b:List UInt8} {x y z:Nat}
theorem wtL (ha:aF a≠0)(hb:aF b≠0)(hx:x<4294967296)(hy:y<4294967296)(hz:z<4294967296):WT (nK b (nK a (jB x) (jB y)) (jB z)):=.bin _ _ _ _ hb (.bin _ _ _ _ ha (.num _ _ hx) (.num _ _ hy)) (.num _ _ hz)
theorem wtR (ha:aF a≠0)(hb:aF b≠0)(hx:x<4294967296)(hy:y<4294967296)(hz:z<4294967296):WT (nK a (jB x) (nK b (jB y) (jB z))):=.bin _ _ _ _ ha (.num _ _ hx) (.bin _ _ _ _ hb (.num _ _ hy) (.num _ _ hz))
theorem Z8 (ha:aF a≠0)(hb:aF b≠0):bn (fH (nK b (nK a (jB x) (jB y)) (jB z)) 1)=if aF b≤aF a then Lib.decDigits x ++ [32] ++ a ++ [32] ++ Lib.decDigits y ++ [32] ++ b ++ [32] ++ Lib.decDigits z else [40] ++ Lib.decDigits x ++ [32] ++ a ++ [32] ++ Lib.decDigits y ++ [41,32] ++ b ++ [32] ++ Lib.decDigits z:=by
 have h1:¬aF b<1:=by omega
 by_cases h:aF b≤aF a
 ·have h2:¬aF a<aF b:=by omega
  simp [fH,isNil,sK,h,h1,h2,aS,bn]
 ·have h2:aF a<aF b:=by omega
  simp [fH,isNil,sK,h,h1,h2,aS,bn]
theorem Z9 (ha:aF a≠0)(hb:aF b≠0):bn (fH (nK a (jB x) (nK b (jB y) (jB z))) 1)=if aF b≤aF a then Lib.decDigits x ++ [32] ++ a ++ [32,40] ++ Lib.decDigits y ++ [32] ++ b ++ [32] ++ Lib.decDigits z ++ [41] else Lib.decDigits x ++ [32] ++ a ++ [32] ++ Lib.decDigits y ++ [32] ++ b ++ [32] ++ Lib.decDigits z:=by
 have h1:¬aF a<1:=by omega
 by_cases h:aF b≤aF a
 ·have h2:aF b<aF a+1:=by omega
  simp [fH,isNil,sK,h,h1,h2,aS,bn]
 ·have h2:¬aF b<aF a+1:=by omega
  simp [fH,isNil,sK,h,h1,h2,aS,bn]
theorem O1:WY [59,10,125]:=⟨59,_,rfl,by decide +kernel⟩
theorem cl59:Cl [tS [59],tS [125],iG]:=oO (by decide)
theorem no59:rQ 1 [tS [59],tS [125],iG]:=jI (.inl (by decide))
theorem Xb (ha:aF a≠0)(hb:aF b≠0)(hx:x<4294967296)(hy:y<4294967296)(hz:z<4294967296):Val [dW x,sW a,dW y,sW b,dW z] (if aF b≤aF a then nK b (nK a (jB x) (jB y)) (jB z) else nK a (jB x) (nK b (jB y) (jB z))):=by
 have l1:=iT hx
 have l2:=iT hy
 have l3:=iT hz
 have l4:=qx ha
 have l5:=qx hb
 have hlen:(bn [dW x,sW a,dW y,sW b,dW z]).length≤1000:=by simp only [bn,bM,bZ];omega
 have hok:lH [dW x,sW a,dW y,sW b,dW z] [59,10,125]:=by
  obtain⟨h1,h2⟩:=JC hz (r:=[]) (x:=[59,10,125]) O1 trivial
  obtain⟨h1,h2⟩:=SE hb h2 h1
  obtain⟨h1,h2⟩:=JC hy h2 h1
  obtain⟨h1,h2⟩:=SE ha h2 h1
  exact(JC hx h2 h1).1
 refine⟨hlen,?_,?_,A8 hok (by omega) (Nat.le_refl _) rfl fun n hn=>W_ ha hb hx hy hz (by omega) cl59 no59 (by simp only [bg,bZ];omega)⟩
 ·split
  ·rename_i h;rw [Z8 ha hb,if_pos h];simp only [bM,bg,bZ];omega
  ·rename_i h;rw [Z9 ha hb,if_neg h];simp only [bM,bg,bZ];omega
 ·split
  ·exact wtL ha hb hx hy hz
  ·exact wtR ha hb hx hy hz
theorem Xc (ha:aF a≠0)(hb:aF b≠0)(hx:x<4294967296)(hy:y<4294967296)(hz:z<4294967296):Val [sW [40],dW x,sW a,dW y,sW [41],sW b,dW z] (nK b (nK a (jB x) (jB y)) (jB z)):=by
 have l1:=iT hx
 have l2:=iT hy
 have l3:=iT hz
 have l4:=qx ha
 have l5:=qx hb
 have hlen:(bn [sW [40],dW x,sW a,dW y,sW [41],sW b,dW z]).length≤1000:=by simp only [bn,bM,bg,bZ];omega
 have hok:lH [sW [40],dW x,sW a,dW y,sW [41],sW b,dW z] [59,10,125]:=by
  obtain⟨h1,h2⟩:=JC hz (r:=[]) (x:=[59,10,125]) O1 trivial
  obtain⟨h1,h2⟩:=SE hb h2 h1
  obtain⟨h1,h2⟩:=okp2 h2 h1
  obtain⟨h1,h2⟩:=JC hy h2 h1
  obtain⟨h1,h2⟩:=SE ha h2 h1
  obtain⟨h1,h2⟩:=JC hx h2 h1
  exact(okp1 h2 h1).1
 refine⟨hlen,?_,wtL ha hb hx hy hz,A8 hok (by omega) (by simp [jf]) rfl fun n hn=>W9 ha hb hx hy hz (by omega) cl59 no59 (by simp only [bg,bZ];omega)⟩
 rw [Z8 ha hb]
 split <;> (simp only [bM,bg,bZ];omega)
theorem SH (ha:aF a≠0)(hb:aF b≠0)(hx:x<4294967296)(hy:y<4294967296)(hz:z<4294967296):Val [dW x,sW a,sW [40],dW y,sW b,dW z,sW [41]] (nK a (jB x) (nK b (jB y) (jB z))):=by
 have l1:=iT hx
 have l2:=iT hy
 have l3:=iT hz
 have l4:=qx ha
 have l5:=qx hb
 have hlen:(bn [dW x,sW a,sW [40],dW y,sW b,dW z,sW [41]]).length≤1000:=by simp only [bn,bM,bg,bZ];omega
 have hok:lH [dW x,sW a,sW [40],dW y,sW b,dW z,sW [41]] [59,10,125]:=by
  obtain⟨h1,h2⟩:=okp2 (r:=[]) (x:=[59,10,125]) O1 trivial
  obtain⟨h1,h2⟩:=JC hz h2 h1
  obtain⟨h1,h2⟩:=SE hb h2 h1
  obtain⟨h1,h2⟩:=JC hy h2 h1
  obtain⟨h1,h2⟩:=okp1 h2 h1
  obtain⟨h1,h2⟩:=SE ha h2 h1
  exact(JC hx h2 h1).1
 refine⟨hlen,?_,wtR ha hb hx hy hz,A8 hok (by omega) (by simp [jf]) rfl fun n hn=>SG ha hb hx hy hz (by omega) cl59 no59 (by simp only [bg,bZ];omega)⟩
 rw [Z9 ha hb]
 split <;> (simp only [bM,bg,bZ];omega)
end
theorem JF {S:Nat→Prop} {σ:St} {v:AV} {R A B:Tr} {s:List UInt8} (h:bP S σ v R)(e:eT R=nK s A B):∃o g L Rv Ax ln l r,v= .p o g 0∧σ[o]? =some (Zg g 3 0 [] s L Rv Ax ln)∧bP S σ L l∧eT l=A∧bP S σ Rv r∧eT r=B:=by
 cases R with
 | nil=>cases e
 | ex k n nm tx l r ar ln=>
   simp only [eT,nK,Tr.ex.injEq] at e
   obtain⟨rfl,rfl,rfl,rfl,e1,e2,_⟩:=e
   obtain⟨o,g,L,Rv,Ax,_,rfl,ho,hl,hr,_⟩:=h
   exact⟨o,g,L,Rv,Ax,ln,l,r,rfl,ho,hl,e1,hr,e2⟩
def O3 (σ:St)(v:AV)(s s2:List UInt8):Prop:=∃o g Rv Ax ln o2 g2 L2 R2 A2 qQ,v= .p o g 0∧σ[o]? =some (Zg g 3 0 [] s (.p o2 g2 0) Rv Ax ln)∧σ[o2]? =some (Zg g2 3 0 [] s2 L2 R2 A2 qQ)
def O4 (σ:St)(v:AV)(s s2:List UInt8):Prop:=∃o g L Ax ln o2 g2 L2 R2 A2 qQ,v= .p o g 0∧σ[o]? =some (Zg g 3 0 [] s L (.p o2 g2 0) Ax ln)∧σ[o2]? =some (Zg g2 3 0 [] s2 L2 R2 A2 qQ)
theorem Xd {S:Nat→Prop} {σ:St} {v:AV} {R A B C:Tr} {s s2:List UInt8} (h:bP S σ v R)(e:eT R=nK s (nK s2 A B) C):O3 σ v s s2:=by
 obtain⟨o,g,L,Rv,Ax,ln,l,r,h1,h2,h3,h4,_⟩:=JF h e
 obtain⟨o2,g2,L2,R2,A2,qQ,_,_,rfl,k2,_⟩:=JF h3 h4
 exact⟨o,g,Rv,Ax,ln,o2,g2,L2,R2,A2,qQ,h1,h2,k2⟩
theorem Xe {S:Nat→Prop} {σ:St} {v:AV} {R A B C:Tr} {s s2:List UInt8} (h:bP S σ v R)(e:eT R=nK s C (nK s2 A B)):O4 σ v s s2:=by
 obtain⟨o,g,L,Rv,Ax,ln,l,r,h1,h2,_,_,h3,h4⟩:=JF h e
 obtain⟨o2,g2,L2,R2,A2,qQ,_,_,rfl,k2,_⟩:=JF h3 h4
 exact⟨o,g,L,Ax,ln,o2,g2,L2,R2,A2,qQ,h1,h2,k2⟩
theorem O3.ext {σ σ':St} {v:AV} {s s2:List UInt8} (h:O3 σ v s s2)(x:Ext σ σ'):O3 σ' v s s2:=by
 obtain⟨o,g,Rv,Ax,ln,o2,g2,L2,R2,A2,qQ,h1,h2,h3⟩:=h
 exact⟨o,g,Rv,Ax,ln,o2,g2,L2,R2,A2,qQ,h1,x.get h2,x.get h3⟩
theorem O4.ext {σ σ':St} {v:AV} {s s2:List UInt8} (h:O4 σ v s s2)(x:Ext σ σ'):O4 σ' v s s2:=by
 obtain⟨o,g,Rv,Ax,ln,o2,g2,L2,R2,A2,qQ,h1,h2,h3⟩:=h
 exact⟨o,g,Rv,Ax,ln,o2,g2,L2,R2,A2,qQ,h1,x.get h2,x.get h3⟩
end Go.Abs.YtlkfbfhkcaldlaaGreatDoor
namespace Go.Abs.YtlkfbfhkcaldlaaGreatDoor
open Go.Proofs
set_option maxRecDepth 4000
abbrev O5 (f:Nat)(args:List AV)(σ:St)(txt:List UInt8):Prop:=au X f args σ fun v s=>v= .s txt∧s=σ
set_option maxHeartbeats 8000000 in
theorem SI {a b tx ty tz:List UInt8} {m n x y z ka kb:Nat} (σ:St)(hg:σ.take G0.length=G0)(hk:kb≤ka)
 (la:a.length≤2) (lb:b.length≤2) (lx:tx.length≤50) (ly:ty.length≤50) (lz:tz.length≤50)
 (s1:∀(σ:St),σ.take G0.length=G0→∀{Q:AV→St→Prop},Q (.tu [.s a,.i .i64 ka]) σ→au X 12 [.i .u8 m] σ Q)
 (s2:∀(σ:St),σ.take G0.length=G0→∀{Q:AV→St→Prop},Q (.tu [.s b,.i .i64 kb]) σ→au X 12 [.i .u8 n] σ Q)
 (dx:∀σ:St,O5 13 [.i .u32 x] σ tx) (dy:∀σ:St,O5 13 [.i .u32 y] σ ty) (dz:∀σ:St,O5 13 [.i .u32 z] σ tz)
 (v1:∀(σ:St),σ.take G0.length=G0→∀{Q:AV→St→Prop},(∀v σ',Ext σ σ'→O3 σ' v b a→Q v σ')→au X 14 [.s (tx ++ a ++ ty ++ b ++ tz)] σ Q)
 (v2:∀(σ:St),σ.take G0.length=G0→∀{Q:AV→St→Prop},(∀v σ',Ext σ σ'→O3 σ' v b a→Q v σ')→au X 14 [.s ([40] ++ tx ++ a ++ ty ++ [41] ++ b ++ tz)] σ Q)
 (v3:∀(σ:St),σ.take G0.length=G0→∀{Q:AV→St→Prop},(∀v σ',Ext σ σ'→O4 σ' v a b→Q v σ')→au X 14 [.s (tx ++ a ++ [40] ++ ty ++ b ++ tz ++ [41])] σ Q)
 (p1:∀(σ:St),σ.take G0.length=G0→∀{Q:AV→St→Prop},Q (.s (tx ++ [32] ++ a ++ [32] ++ ty ++ [32] ++ b ++ [32] ++ tz)) σ→au X 15 [.s ([40] ++ tx ++ a ++ ty ++ [41] ++ b ++ tz)] σ Q)
 (p2:∀(σ:St),σ.take G0.length=G0→∀{Q:AV→St→Prop},Q (.s (tx ++ [32] ++ a ++ [32,40] ++ ty ++ [32] ++ b ++ [32] ++ tz ++ [41])) σ→au X 15 [.s (tx ++ a ++ [40] ++ ty ++ b ++ tz ++ [41])] σ Q) :
 au X 5 [.ag [.i .u8 m,.i .u8 n],.ag [.i .u32 x,.i .u32 y,.i .u32 z]] σ fun v s=>v= .b true∧s=σ:=by
 refine au.body (F:=F5) ay (lit:=false) rfl rfl (aU rfl) ?_
 conv=>whnf
 have b1:(newCells 38 (AV.ag [.i .u8 m,.i .u8 n]).cells σ)[σ.length]? =some ⟨0,false,.cells 38 [.i .u8 m,.i .u8 n]⟩:=aG _ _ _
 have x1:Ext σ (newCells 38 (AV.ag [.i .u8 m,.i .u8 n]).cells σ):=(Ext.refl σ).new _ _
 have l1:(newCells 38 (AV.ag [.i .u8 m,.i .u8 n]).cells σ).length=σ.length+1:=aH _ _ _
 generalize newCells 38 (AV.ag [.i .u8 m,.i .u8 n]).cells σ=σ1 at b1 x1 l1 ⊢
 conv=>whnf
 have b2:(newCells 40 (AV.ag [.i .u32 x,.i .u32 y,.i .u32 z]).cells σ1)[σ1.length]? =some ⟨0,false,.cells 40 [.i .u32 x,.i .u32 y,.i .u32 z]⟩:=aG _ _ _
 have x2:Ext σ1 (newCells 40 (AV.ag [.i .u32 x,.i .u32 y,.i .u32 z]).cells σ1):=(Ext.refl σ1).new _ _
 have l2:(newCells 40 (AV.ag [.i .u32 x,.i .u32 y,.i .u32 z]).cells σ1).length=σ1.length+1:=aH _ _ _
 generalize newCells 40 (AV.ag [.i .u32 x,.i .u32 y,.i .u32 z]).cells σ1=σ2 at b2 x2 l2 ⊢
 have xx:=x1.trans x2
 have c1:=x2.get b1
 have hg2:=iJ xx hg
 conv=>whnf
 refine Lj σ2 hg2 ?_
 conv=>whnf
 refine⟨0,rfl,by decide,?_⟩
 conv=>whnf
 refine ak (aj (T:=yT5) rfl rfl (ah (c1)) rfl) ?_
 conv=>whnf
 refine s1 σ2 hg2 ?_
 conv=>whnf
 refine⟨1,rfl,by decide,?_⟩
 conv=>whnf
 refine ak (aj (T:=yT5) rfl rfl (ah (c1)) rfl) ?_
 conv=>whnf
 refine s2 σ2 hg2 ?_
 conv=>whnf
 refine⟨0,rfl,by decide,?_⟩
 conv=>whnf
 refine ak (aj (T:=wE) rfl rfl (ah (b2)) rfl) ?_
 conv=>whnf
 refine⟨1,rfl,by decide,?_⟩
 conv=>whnf
 refine ak (aj (T:=wE) rfl rfl (ah (b2)) rfl) ?_
 conv=>whnf
 refine⟨2,rfl,by decide,?_⟩
 conv=>whnf
 refine ak (aj (T:=wE) rfl rfl (ah (b2)) rfl) ?_
 conv=>whnf
 refine au.to (dx σ2) ?_
 conv=>whnf
 refine⟨?_,?_,?_⟩
 ·conv=>whnf
  refine ak (aj (T:=wE) rfl rfl (ah (b2)) rfl) ?_
  rfl
 ·conv=>whnf
  refine ak (aj (T:=wE) rfl rfl (ah (b2)) rfl) ?_
  rfl
 conv=>whnf
 refine au.to (dy σ2) ?_
 conv=>whnf
 refine⟨?_,?_⟩
 ·conv=>whnf
  refine ak (aj (T:=wE) rfl rfl (ah (b2)) rfl) ?_
  rfl
 conv=>whnf
 refine au.to (dz σ2) ?_
 conv=>whnf
 refine⟨by(try simp only [bM,bg,bZ]);omega,?_⟩
 conv=>whnf
 refine⟨by(try simp only [bM,bg,bZ]);omega,?_⟩
 conv=>whnf
 refine⟨by(try simp only [bM,bg,bZ]);omega,?_⟩
 conv=>whnf
 refine⟨by(try simp only [bM,bg,bZ]);omega,?_⟩
 conv=>whnf
 refine v1 σ2 hg2 fun w1 σ3 x3 t1=>?_
 obtain⟨o1,g1,R1,A1,n1,o1',g1',L1',R1',A1',n1',rfl,e1,e1'⟩:=t1
 conv=>whnf
 refine⟨by(try simp only [bM,bg,bZ]);omega,?_⟩
 conv=>whnf
 refine⟨by(try simp only [bM,bg,bZ]);omega,?_⟩
 conv=>whnf
 refine⟨by(try simp only [bM,bg,bZ]);omega,?_⟩
 conv=>whnf
 refine⟨by(try simp only [bM,bg,bZ]);omega,?_⟩
 conv=>whnf
 refine⟨by(try simp only [bM,bg,bZ]);omega,?_⟩
 conv=>whnf
 refine⟨by(try simp only [bM,bg,bZ]);omega,?_⟩
 conv=>whnf
 refine v2 σ3 (iJ x3 hg2) fun w2 dF x4 t2=>?_
 obtain⟨o2,g2,R2,A2,n2,o2',g2',L2',R2',A2',n2',rfl,e2,e2'⟩:=t2
 conv=>whnf
 refine⟨by(try simp only [bM,bg,bZ]);omega,?_⟩
 conv=>whnf
 refine⟨by(try simp only [bM,bg,bZ]);omega,?_⟩
 conv=>whnf
 refine⟨by(try simp only [bM,bg,bZ]);omega,?_⟩
 conv=>whnf
 refine⟨by(try simp only [bM,bg,bZ]);omega,?_⟩
 conv=>whnf
 refine⟨by(try simp only [bM,bg,bZ]);omega,?_⟩
 conv=>whnf
 refine⟨by(try simp only [bM,bg,bZ]);omega,?_⟩
 conv=>whnf
 refine v3 dF (iJ (x3.trans x4) hg2) fun w3 fC x5 t3=>?_
 obtain⟨o3,g3,L3,A3,n3,o3',g3',L3',R3',A3',n3',rfl,e3,e3'⟩:=t3
 have SX:=x4.trans x5
 have f1:=SX.get e1
 have f1':=SX.get e1'
 have f2:=x5.get e2
 have f2':=x5.get e2'
 conv=>whnf
 refine ak (aj (T:=fB) rfl rfl (ah (f2)) rfl) ?_
 conv=>whnf
 rw [beq_self_eq_true]
 conv=>whnf
 refine ak (aj (T:=aW) rfl rfl (ah (f2)) rfl) ?_
 conv=>whnf
 refine ak (aj (T:=fB) rfl rfl (ah (f2')) rfl) ?_
 conv=>whnf
 rw [beq_self_eq_true]
 conv=>whnf
 refine ak (aj (T:=fB) rfl rfl (ah (e3)) rfl) ?_
 conv=>whnf
 rw [beq_self_eq_true]
 conv=>whnf
 refine ak (aj (T:=aW) rfl rfl (ah (e3)) rfl) ?_
 conv=>whnf
 refine ak (aj (T:=fB) rfl rfl (ah (e3')) rfl) ?_
 conv=>whnf
 rw [beq_self_eq_true]
 conv=>whnf
 rw [decide_eq_true (show ((kb:Int)≤(ka:Int)) by omega)]
 conv=>whnf
 refine ak (aj (T:=fB) rfl rfl (ah (f1)) rfl) ?_
 conv=>whnf
 rw [beq_self_eq_true]
 conv=>whnf
 refine ak (aj (T:=aW) rfl rfl (ah (f1)) rfl) ?_
 conv=>whnf
 refine ak (aj (T:=fB) rfl rfl (ah (f1')) rfl) ?_
 conv=>whnf
 rw [beq_self_eq_true]
 conv=>whnf
 rw [decide_eq_false (show ¬((ka:Int)<(kb:Int)) by omega)]
 conv=>whnf
 refine⟨by(try simp only [bM,bg,bZ]);omega,?_⟩
 conv=>whnf
 refine⟨by(try simp only [bM,bg,bZ]);omega,?_⟩
 conv=>whnf
 refine⟨by(try simp only [bM,bg,bZ]);omega,?_⟩
 conv=>whnf
 refine⟨by(try simp only [bM,bg,bZ]);omega,?_⟩
 conv=>whnf
 refine⟨by(try simp only [bM,bg,bZ]);omega,?_⟩
 conv=>whnf
 refine⟨by(try simp only [bM,bg,bZ]);omega,?_⟩
 conv=>whnf
 refine⟨by(try simp only [bM,bg,bZ]);omega,?_⟩
 conv=>whnf
 refine⟨by(try simp only [bM,bg,bZ]);omega,?_⟩
 conv=>whnf
 refine⟨by(try simp only [bM,bg,bZ]);omega,?_⟩
 conv=>whnf
 refine⟨by(try simp only [bM,bg,bZ]);omega,?_⟩
 conv=>whnf
 refine⟨by(try simp only [bM,bg,bZ]);omega,?_⟩
 conv=>whnf
 refine⟨by(try simp only [bM,bg,bZ]);omega,?_⟩
 conv=>whnf
 refine⟨by(try simp only [bM,bg,bZ]);omega,?_⟩
 conv=>whnf
 refine⟨by(try simp only [bM,bg,bZ]);omega,?_⟩
 conv=>whnf
 refine⟨by(try simp only [bM,bg,bZ]);omega,?_⟩
 conv=>whnf
 refine⟨by(try simp only [bM,bg,bZ]);omega,?_⟩
 conv=>whnf
 refine⟨by(try simp only [bM,bg,bZ]);omega,?_⟩
 conv=>whnf
 refine⟨by(try simp only [bM,bg,bZ]);omega,?_⟩
 conv=>whnf
 refine⟨by(try simp only [bM,bg,bZ]);omega,?_⟩
 conv=>whnf
 refine⟨by(try simp only [bM,bg,bZ]);omega,?_⟩
 conv=>whnf
 refine⟨by(try simp only [bM,bg,bZ]);omega,?_⟩
 conv=>whnf
 refine⟨by(try simp only [bM,bg,bZ]);omega,?_⟩
 conv=>whnf
 refine⟨by(try simp only [bM,bg,bZ]);omega,?_⟩
 conv=>whnf
 refine⟨by(try simp only [bM,bg,bZ]);omega,?_⟩
 conv=>whnf
 refine⟨by(try simp only [bM,bg,bZ]);omega,?_⟩
 conv=>whnf
 refine⟨by(try simp only [bM,bg,bZ]);omega,?_⟩
 conv=>whnf
 rw [decide_eq_true (show ((kb:Int)≤(ka:Int)) by omega)]
 conv=>whnf
 refine⟨by(try simp only [bM,bg,bZ]);omega,?_⟩
 conv=>whnf
 refine⟨by(try simp only [bM,bg,bZ]);omega,?_⟩
 conv=>whnf
 refine⟨by(try simp only [bM,bg,bZ]);omega,?_⟩
 conv=>whnf
 refine⟨by(try simp only [bM,bg,bZ]);omega,?_⟩
 conv=>whnf
 refine⟨by(try simp only [bM,bg,bZ]);omega,?_⟩
 conv=>whnf
 refine⟨by(try simp only [bM,bg,bZ]);omega,?_⟩
 conv=>whnf
 have x25:=x3.trans SX
 have hg5:=iJ x25 hg2
 refine p1 fC hg5 ?_
 conv=>whnf
 rw [beq_self_eq_true]
 conv=>whnf
 refine⟨by(try simp only [bM,bg,bZ]);omega,?_⟩
 conv=>whnf
 refine⟨by(try simp only [bM,bg,bZ]);omega,?_⟩
 conv=>whnf
 refine⟨by(try simp only [bM,bg,bZ]);omega,?_⟩
 conv=>whnf
 refine⟨by(try simp only [bM,bg,bZ]);omega,?_⟩
 conv=>whnf
 refine⟨by(try simp only [bM,bg,bZ]);omega,?_⟩
 conv=>whnf
 refine⟨by(try simp only [bM,bg,bZ]);omega,?_⟩
 conv=>whnf
 refine p2 fC hg5 ?_
 conv=>whnf
 rw [beq_self_eq_true]
 conv=>whnf
 exact Fin.flat rfl (xx.trans x25).take ⟨rfl,rfl⟩
set_option maxHeartbeats 8000000 in
theorem SK {a b tx ty tz:List UInt8} {m n x y z ka kb:Nat} (σ:St)(hg:σ.take G0.length=G0)(hk:ka<kb)
 (la:a.length≤2) (lb:b.length≤2) (lx:tx.length≤50) (ly:ty.length≤50) (lz:tz.length≤50)
 (s1:∀(σ:St),σ.take G0.length=G0→∀{Q:AV→St→Prop},Q (.tu [.s a,.i .i64 ka]) σ→au X 12 [.i .u8 m] σ Q)
 (s2:∀(σ:St),σ.take G0.length=G0→∀{Q:AV→St→Prop},Q (.tu [.s b,.i .i64 kb]) σ→au X 12 [.i .u8 n] σ Q)
 (dx:∀σ:St,O5 13 [.i .u32 x] σ tx) (dy:∀σ:St,O5 13 [.i .u32 y] σ ty) (dz:∀σ:St,O5 13 [.i .u32 z] σ tz)
 (v1:∀(σ:St),σ.take G0.length=G0→∀{Q:AV→St→Prop},(∀v σ',Ext σ σ'→O4 σ' v a b→Q v σ')→au X 14 [.s (tx ++ a ++ ty ++ b ++ tz)] σ Q)
 (v2:∀(σ:St),σ.take G0.length=G0→∀{Q:AV→St→Prop},(∀v σ',Ext σ σ'→O3 σ' v b a→Q v σ')→au X 14 [.s ([40] ++ tx ++ a ++ ty ++ [41] ++ b ++ tz)] σ Q)
 (v3:∀(σ:St),σ.take G0.length=G0→∀{Q:AV→St→Prop},(∀v σ',Ext σ σ'→O4 σ' v a b→Q v σ')→au X 14 [.s (tx ++ a ++ [40] ++ ty ++ b ++ tz ++ [41])] σ Q)
 (p1:∀(σ:St),σ.take G0.length=G0→∀{Q:AV→St→Prop},Q (.s ([40] ++ tx ++ [32] ++ a ++ [32] ++ ty ++ [41,32] ++ b ++ [32] ++ tz)) σ→au X 15 [.s ([40] ++ tx ++ a ++ ty ++ [41] ++ b ++ tz)] σ Q)
 (p2:∀(σ:St),σ.take G0.length=G0→∀{Q:AV→St→Prop},Q (.s (tx ++ [32] ++ a ++ [32] ++ ty ++ [32] ++ b ++ [32] ++ tz)) σ→au X 15 [.s (tx ++ a ++ [40] ++ ty ++ b ++ tz ++ [41])] σ Q) :
 au X 5 [.ag [.i .u8 m,.i .u8 n],.ag [.i .u32 x,.i .u32 y,.i .u32 z]] σ fun v s=>v= .b true∧s=σ:=by
 refine au.body (F:=F5) ay (lit:=false) rfl rfl (aU rfl) ?_
 conv=>whnf
 have b1:(newCells 38 (AV.ag [.i .u8 m,.i .u8 n]).cells σ)[σ.length]? =some ⟨0,false,.cells 38 [.i .u8 m,.i .u8 n]⟩:=aG _ _ _
 have x1:Ext σ (newCells 38 (AV.ag [.i .u8 m,.i .u8 n]).cells σ):=(Ext.refl σ).new _ _
 have l1:(newCells 38 (AV.ag [.i .u8 m,.i .u8 n]).cells σ).length=σ.length+1:=aH _ _ _
 generalize newCells 38 (AV.ag [.i .u8 m,.i .u8 n]).cells σ=σ1 at b1 x1 l1 ⊢
 conv=>whnf
 have b2:(newCells 40 (AV.ag [.i .u32 x,.i .u32 y,.i .u32 z]).cells σ1)[σ1.length]? =some ⟨0,false,.cells 40 [.i .u32 x,.i .u32 y,.i .u32 z]⟩:=aG _ _ _
 have x2:Ext σ1 (newCells 40 (AV.ag [.i .u32 x,.i .u32 y,.i .u32 z]).cells σ1):=(Ext.refl σ1).new _ _
 have l2:(newCells 40 (AV.ag [.i .u32 x,.i .u32 y,.i .u32 z]).cells σ1).length=σ1.length+1:=aH _ _ _
 generalize newCells 40 (AV.ag [.i .u32 x,.i .u32 y,.i .u32 z]).cells σ1=σ2 at b2 x2 l2 ⊢
 have xx:=x1.trans x2
 have c1:=x2.get b1
 have hg2:=iJ xx hg
 conv=>whnf
 refine Lj σ2 hg2 ?_
 conv=>whnf
 refine⟨0,rfl,by decide,?_⟩
 conv=>whnf
 refine ak (aj (T:=yT5) rfl rfl (ah (c1)) rfl) ?_
 conv=>whnf
 refine s1 σ2 hg2 ?_
 conv=>whnf
 refine⟨1,rfl,by decide,?_⟩
 conv=>whnf
 refine ak (aj (T:=yT5) rfl rfl (ah (c1)) rfl) ?_
 conv=>whnf
 refine s2 σ2 hg2 ?_
 conv=>whnf
 refine⟨0,rfl,by decide,?_⟩
 conv=>whnf
 refine ak (aj (T:=wE) rfl rfl (ah (b2)) rfl) ?_
 conv=>whnf
 refine⟨1,rfl,by decide,?_⟩
 conv=>whnf
 refine ak (aj (T:=wE) rfl rfl (ah (b2)) rfl) ?_
 conv=>whnf
 refine⟨2,rfl,by decide,?_⟩
 conv=>whnf
 refine ak (aj (T:=wE) rfl rfl (ah (b2)) rfl) ?_
 conv=>whnf
 refine au.to (dx σ2) ?_
 conv=>whnf
 refine⟨?_,?_,?_⟩
 ·conv=>whnf
  refine ak (aj (T:=wE) rfl rfl (ah (b2)) rfl) ?_
  rfl
 ·conv=>whnf
  refine ak (aj (T:=wE) rfl rfl (ah (b2)) rfl) ?_
  rfl
 conv=>whnf
 refine au.to (dy σ2) ?_
 conv=>whnf
 refine⟨?_,?_⟩
 ·conv=>whnf
  refine ak (aj (T:=wE) rfl rfl (ah (b2)) rfl) ?_
  rfl
 conv=>whnf
 refine au.to (dz σ2) ?_
 conv=>whnf
 refine⟨by(try simp only [bM,bg,bZ]);omega,?_⟩
 conv=>whnf
 refine⟨by(try simp only [bM,bg,bZ]);omega,?_⟩
 conv=>whnf
 refine⟨by(try simp only [bM,bg,bZ]);omega,?_⟩
 conv=>whnf
 refine⟨by(try simp only [bM,bg,bZ]);omega,?_⟩
 conv=>whnf
 refine v1 σ2 hg2 fun w1 σ3 x3 t1=>?_
 obtain⟨o1,g1,L1,A1,n1,o1',g1',L1',R1',A1',n1',rfl,e1,e1'⟩:=t1
 conv=>whnf
 refine⟨by(try simp only [bM,bg,bZ]);omega,?_⟩
 conv=>whnf
 refine⟨by(try simp only [bM,bg,bZ]);omega,?_⟩
 conv=>whnf
 refine⟨by(try simp only [bM,bg,bZ]);omega,?_⟩
 conv=>whnf
 refine⟨by(try simp only [bM,bg,bZ]);omega,?_⟩
 conv=>whnf
 refine⟨by(try simp only [bM,bg,bZ]);omega,?_⟩
 conv=>whnf
 refine⟨by(try simp only [bM,bg,bZ]);omega,?_⟩
 conv=>whnf
 refine v2 σ3 (iJ x3 hg2) fun w2 dF x4 t2=>?_
 obtain⟨o2,g2,R2,A2,n2,o2',g2',L2',R2',A2',n2',rfl,e2,e2'⟩:=t2
 conv=>whnf
 refine⟨by(try simp only [bM,bg,bZ]);omega,?_⟩
 conv=>whnf
 refine⟨by(try simp only [bM,bg,bZ]);omega,?_⟩
 conv=>whnf
 refine⟨by(try simp only [bM,bg,bZ]);omega,?_⟩
 conv=>whnf
 refine⟨by(try simp only [bM,bg,bZ]);omega,?_⟩
 conv=>whnf
 refine⟨by(try simp only [bM,bg,bZ]);omega,?_⟩
 conv=>whnf
 refine⟨by(try simp only [bM,bg,bZ]);omega,?_⟩
 conv=>whnf
 refine v3 dF (iJ (x3.trans x4) hg2) fun w3 fC x5 t3=>?_
 obtain⟨o3,g3,L3,A3,n3,o3',g3',L3',R3',A3',n3',rfl,e3,e3'⟩:=t3
 have SX:=x4.trans x5
 have f1:=SX.get e1
 have f1':=SX.get e1'
 have f2:=x5.get e2
 have f2':=x5.get e2'
 conv=>whnf
 refine ak (aj (T:=fB) rfl rfl (ah (f2)) rfl) ?_
 conv=>whnf
 rw [beq_self_eq_true]
 conv=>whnf
 refine ak (aj (T:=aW) rfl rfl (ah (f2)) rfl) ?_
 conv=>whnf
 refine ak (aj (T:=fB) rfl rfl (ah (f2')) rfl) ?_
 conv=>whnf
 rw [beq_self_eq_true]
 conv=>whnf
 refine ak (aj (T:=fB) rfl rfl (ah (e3)) rfl) ?_
 conv=>whnf
 rw [beq_self_eq_true]
 conv=>whnf
 refine ak (aj (T:=aW) rfl rfl (ah (e3)) rfl) ?_
 conv=>whnf
 refine ak (aj (T:=fB) rfl rfl (ah (e3')) rfl) ?_
 conv=>whnf
 rw [beq_self_eq_true]
 conv=>whnf
 rw [decide_eq_false (show ¬((kb:Int)≤(ka:Int)) by omega)]
 conv=>whnf
 rw [decide_eq_true (show ((ka:Int)<(kb:Int)) by omega)]
 conv=>whnf
 refine ak (aj (T:=fB) rfl rfl (ah (f1)) rfl) ?_
 conv=>whnf
 rw [beq_self_eq_true]
 conv=>whnf
 refine ak (aj (T:=aW) rfl rfl (ah (f1)) rfl) ?_
 conv=>whnf
 refine ak (aj (T:=fB) rfl rfl (ah (f1')) rfl) ?_
 conv=>whnf
 rw [beq_self_eq_true]
 conv=>whnf
 refine⟨by(try simp only [bM,bg,bZ]);omega,?_⟩
 conv=>whnf
 refine⟨by(try simp only [bM,bg,bZ]);omega,?_⟩
 conv=>whnf
 refine⟨by(try simp only [bM,bg,bZ]);omega,?_⟩
 conv=>whnf
 refine⟨by(try simp only [bM,bg,bZ]);omega,?_⟩
 conv=>whnf
 refine⟨by(try simp only [bM,bg,bZ]);omega,?_⟩
 conv=>whnf
 refine⟨by(try simp only [bM,bg,bZ]);omega,?_⟩
 conv=>whnf
 refine⟨by(try simp only [bM,bg,bZ]);omega,?_⟩
 conv=>whnf
 refine⟨by(try simp only [bM,bg,bZ]);omega,?_⟩
 conv=>whnf
 refine⟨by(try simp only [bM,bg,bZ]);omega,?_⟩
 conv=>whnf
 refine⟨by(try simp only [bM,bg,bZ]);omega,?_⟩
 conv=>whnf
 refine⟨by(try simp only [bM,bg,bZ]);omega,?_⟩
 conv=>whnf
 refine⟨by(try simp only [bM,bg,bZ]);omega,?_⟩
 conv=>whnf
 refine⟨by(try simp only [bM,bg,bZ]);omega,?_⟩
 conv=>whnf
 refine⟨by(try simp only [bM,bg,bZ]);omega,?_⟩
 conv=>whnf
 refine⟨by(try simp only [bM,bg,bZ]);omega,?_⟩
 conv=>whnf
 refine⟨by(try simp only [bM,bg,bZ]);omega,?_⟩
 conv=>whnf
 refine⟨by(try simp only [bM,bg,bZ]);omega,?_⟩
 conv=>whnf
 refine⟨by(try simp only [bM,bg,bZ]);omega,?_⟩
 conv=>whnf
 refine⟨by(try simp only [bM,bg,bZ]);omega,?_⟩
 conv=>whnf
 refine⟨by(try simp only [bM,bg,bZ]);omega,?_⟩
 conv=>whnf
 refine⟨by(try simp only [bM,bg,bZ]);omega,?_⟩
 conv=>whnf
 refine⟨by(try simp only [bM,bg,bZ]);omega,?_⟩
 conv=>whnf
 refine⟨by(try simp only [bM,bg,bZ]);omega,?_⟩
 conv=>whnf
 refine⟨by(try simp only [bM,bg,bZ]);omega,?_⟩
 conv=>whnf
 refine⟨by(try simp only [bM,bg,bZ]);omega,?_⟩
 conv=>whnf
 refine⟨by(try simp only [bM,bg,bZ]);omega,?_⟩
 conv=>whnf
 rw [decide_eq_false (show ¬((kb:Int)≤(ka:Int)) by omega)]
 conv=>whnf
 refine⟨by(try simp only [bM,bg,bZ]);omega,?_⟩
 conv=>whnf
 refine⟨by(try simp only [bM,bg,bZ]);omega,?_⟩
 conv=>whnf
 refine⟨by(try simp only [bM,bg,bZ]);omega,?_⟩
 conv=>whnf
 refine⟨by(try simp only [bM,bg,bZ]);omega,?_⟩
 conv=>whnf
 refine⟨by(try simp only [bM,bg,bZ]);omega,?_⟩
 conv=>whnf
 refine⟨by(try simp only [bM,bg,bZ]);omega,?_⟩
 conv=>whnf
 have x25:=x3.trans SX
 have hg5:=iJ x25 hg2
 refine p1 fC hg5 ?_
 conv=>whnf
 rw [beq_self_eq_true]
 conv=>whnf
 refine⟨by(try simp only [bM,bg,bZ]);omega,?_⟩
 conv=>whnf
 refine⟨by(try simp only [bM,bg,bZ]);omega,?_⟩
 conv=>whnf
 refine⟨by(try simp only [bM,bg,bZ]);omega,?_⟩
 conv=>whnf
 refine⟨by(try simp only [bM,bg,bZ]);omega,?_⟩
 conv=>whnf
 refine⟨by(try simp only [bM,bg,bZ]);omega,?_⟩
 conv=>whnf
 refine⟨by(try simp only [bM,bg,bZ]);omega,?_⟩
 conv=>whnf
 refine p2 fC hg5 ?_
 conv=>whnf
 rw [beq_self_eq_true]
 conv=>whnf
 exact Fin.flat rfl (xx.trans x25).take ⟨rfl,rfl⟩
theorem A_ {n:Nat} (h:n<4294967296)(σ:St):O5 13 [.i .u32 n] σ (Lib.decDigits n):=by
 refine au.fM (g:=KU) (v:=.s (Lib.decDigits n)) (σ':=σ) rfl ?_ ⟨rfl,rfl⟩
 simp only [KU]
 rw [if_pos ⟨by omega,by omega⟩,Int.toNat_natCast]
theorem SL {m n x y z:Nat} (hm:m<256)(hn:n<256)(hx:x<4294967296)(hy:y<4294967296)(hz:z<4294967296)(σ:St)(hg:σ.take G0.length=G0):au X 5 [.ag [.i .u8 m,.i .u8 n],.ag [.i .u32 x,.i .u32 y,.i .u32 z]] σ fun v s=>v= .b true∧s=σ:=by
 obtain⟨ea,ha⟩:=sg_ok m
 obtain⟨eb,hb⟩:=sg_ok n
 have V1:=Xb ha hb hx hy hz
 have V2:=Xc ha hb hx hy hz
 have V3:=SH ha hb hx hy hz
 by_cases h:aF (mQ n)≤aF (mQ m)
 ·
   rw [if_pos h] at V1
   refine SI σ hg (a:=mQ m) (b:=mQ n) (tx:=Lib.decDigits x) (ty:=Lib.decDigits y) (tz:=Lib.decDigits z) (ka:=Xi m) (kb:=Xi n) (by omega) (qx ha) (qx hb) (iT hx) (iT hy) (iT hz) (fun σ h _ q=>CG hm σ h q) (fun σ h _ q=>CG hn σ h q) (fun σ=>A_ hx σ) (fun σ=>A_ hy σ) (fun σ=>A_ hz σ) ?_ ?_ ?_ ?_ ?_
   ·intro σ hg Q q
    rw [show Lib.decDigits x ++ mQ m ++ Lib.decDigits y ++ mQ n ++ Lib.decDigits z=bn [dW x,sW (mQ m),dW y,sW (mQ n),dW z] by simp [bn]]
    exact qP V1 hg fun S v R σ' x hE hT=>q v σ' x (Xd hE hT)
   ·intro σ hg Q q
    rw [show [40] ++ Lib.decDigits x ++ mQ m ++ Lib.decDigits y ++ [41] ++ mQ n ++ Lib.decDigits z=bn [sW [40],dW x,sW (mQ m),dW y,sW [41],sW (mQ n),dW z] by simp [bn]]
    exact qP V2 hg fun S v R σ' x hE hT=>q v σ' x (Xd hE hT)
   ·intro σ hg Q q
    rw [show Lib.decDigits x ++ mQ m ++ [40] ++ Lib.decDigits y ++ mQ n ++ Lib.decDigits z ++ [41]=bn [dW x,sW (mQ m),sW [40],dW y,sW (mQ n),dW z,sW [41]] by simp [bn]]
    exact qP V3 hg fun S v R σ' x hE hT=>q v σ' x (Xe hE hT)
   ·intro σ hg Q q
    rw [show [40] ++ Lib.decDigits x ++ mQ m ++ Lib.decDigits y ++ [41] ++ mQ n ++ Lib.decDigits z=bn [sW [40],dW x,sW (mQ m),dW y,sW [41],sW (mQ n),dW z] by simp [bn]]
    refine vZ V2 hg ?_
    rw [Z8 ha hb,if_pos h]
    exact q
   ·intro σ hg Q q
    rw [show Lib.decDigits x ++ mQ m ++ [40] ++ Lib.decDigits y ++ mQ n ++ Lib.decDigits z ++ [41]=bn [dW x,sW (mQ m),sW [40],dW y,sW (mQ n),dW z,sW [41]] by simp [bn]]
    refine vZ V3 hg ?_
    rw [Z9 ha hb,if_pos h]
    exact q
 ·
   rw [if_neg h] at V1
   refine SK σ hg (a:=mQ m) (b:=mQ n) (tx:=Lib.decDigits x) (ty:=Lib.decDigits y) (tz:=Lib.decDigits z) (ka:=Xi m) (kb:=Xi n) (by omega) (qx ha) (qx hb) (iT hx) (iT hy) (iT hz) (fun σ h _ q=>CG hm σ h q) (fun σ h _ q=>CG hn σ h q) (fun σ=>A_ hx σ) (fun σ=>A_ hy σ) (fun σ=>A_ hz σ) ?_ ?_ ?_ ?_ ?_
   ·intro σ hg Q q
    rw [show Lib.decDigits x ++ mQ m ++ Lib.decDigits y ++ mQ n ++ Lib.decDigits z=bn [dW x,sW (mQ m),dW y,sW (mQ n),dW z] by simp [bn]]
    exact qP V1 hg fun S v R σ' x hE hT=>q v σ' x (Xe hE hT)
   ·intro σ hg Q q
    rw [show [40] ++ Lib.decDigits x ++ mQ m ++ Lib.decDigits y ++ [41] ++ mQ n ++ Lib.decDigits z=bn [sW [40],dW x,sW (mQ m),dW y,sW [41],sW (mQ n),dW z] by simp [bn]]
    exact qP V2 hg fun S v R σ' x hE hT=>q v σ' x (Xd hE hT)
   ·intro σ hg Q q
    rw [show Lib.decDigits x ++ mQ m ++ [40] ++ Lib.decDigits y ++ mQ n ++ Lib.decDigits z ++ [41]=bn [dW x,sW (mQ m),sW [40],dW y,sW (mQ n),dW z,sW [41]] by simp [bn]]
    exact qP V3 hg fun S v R σ' x hE hT=>q v σ' x (Xe hE hT)
   ·intro σ hg Q q
    rw [show [40] ++ Lib.decDigits x ++ mQ m ++ Lib.decDigits y ++ [41] ++ mQ n ++ Lib.decDigits z=bn [sW [40],dW x,sW (mQ m),dW y,sW [41],sW (mQ n),dW z] by simp [bn]]
    refine vZ V2 hg ?_
    rw [Z8 ha hb,if_neg h]
    exact q
   ·intro σ hg Q q
    rw [show Lib.decDigits x ++ mQ m ++ [40] ++ Lib.decDigits y ++ mQ n ++ Lib.decDigits z ++ [41]=bn [dW x,sW (mQ m),sW [40],dW y,sW (mQ n),dW z,sW [41]] by simp [bn]]
    refine vZ V3 hg ?_
    rw [Z9 ha hb,if_neg h]
    exact q
end Go.Abs.YtlkfbfhkcaldlaaGreatDoor
