/- Texts of this claim, joined: Tc. -/
import Derived.Test.YtnbdedokjfpckaaGreatDoorM19
set_option linter.unusedVariables false
set_option linter.unusedSimpArgs false
namespace Go.cO.YtnbdedokjfpckaaGreatDoor
open Go.Proofs
set_option maxRecDepth 1000000
noncomputable def capF (c b t p v:Nat):FV:=.c 0 0 [.n 8589934592 c,.n 512 0,.n 131072 b,.n 131072 t,.n 131072 p,.n 131072 0,.n 8589934592 0,.n 1 v]
def I4 (c b t p:Int):List AV:=[.i .u32 c,.i .u8 0,.i .u16 b,.i .u16 t,.i .u16 p,.i .u16 0,.i .u32 0]
noncomputable def dU (c b t p v:Nat)(top:Int):RunT:=⟨121,[capF c b t p v],.tu [.i .u32 c,.i .u64 top]⟩
noncomputable def Nb (i:Nat):RunT:=⟨15,[.c 0 0 [.n 8589934592 (1024+16*i),.n 8589934592 16],.n 131072 1],.tu [.ag (I4 (1024+16*i:Nat) (1024+16*i:Nat) (1040+16*i:Nat) 1 ++ [.b true]),.b true]⟩
noncomputable def TBL:List RunT:=[⟨8,[],.b true⟩,Nb 0,Nb 1,Nb 2,Nb 3,Nb 4,Nb 5,Nb 6,Nb 7,Nb 8,Nb 9,Nb 10,Nb 11,
 dU 0 0 0 0 0 0,dU 0 0 0 0 1 0,dU 1024 1024 1280 27 0 1280,dU 1024 1024 1280 27 1 1280,dU 0 0 256 5 0 256,dU 0 0 256 5 1 256,
 dU 1024 1024 1040 1 0 1040,dU 1024 1024 1040 1 1 1040,dU 1040 1040 1056 1 0 1056,dU 1040 1040 1056 1 1 1056,dU 1056 1056 1072 1 0 1072,dU 1056 1056 1072 1 1 1072,
 dU 1072 1072 1088 1 0 1088,dU 1072 1072 1088 1 1 1088,dU 1088 1088 1104 1 0 1104,dU 1088 1088 1104 1 1 1104,dU 1104 1104 1120 1 0 1120,dU 1104 1104 1120 1 1 1120,
 dU 1120 1120 1136 1 0 1136,dU 1120 1120 1136 1 1 1136,dU 1136 1136 1152 1 0 1152,dU 1136 1136 1152 1 1 1152,dU 1152 1152 1168 1 0 1168,dU 1152 1152 1168 1 1 1168,
 dU 1168 1168 1184 1 0 1184,dU 1168 1168 1184 1 1 1184,dU 1184 1184 1200 1 0 1200,dU 1184 1184 1200 1 1 1200,dU 1200 1200 1216 1 0 1216,dU 1200 1200 1216 1 1 1216]
theorem Z_:(TBL.all fun r=>r.run && r.v.flat && AV.vY (r.args.map FV.av))=true:=by kernel_rfl
theorem Ah:∀r∈TBL,r.Good:=by
 intro r hr
 have h:=List.all_eq_true.1 Z_ r hr
 simp only [Bool.and_eq_true] at h
 exact⟨h.1.1,h.1.2,h.2⟩
@[reducible] noncomputable def XT:Ctx:=((XB.add 8 (Gv TBL 8)).add 15 (Gv TBL 15)).add 121 (Gv TBL 121)
theorem Gx:XT.Sound 10:=
 Ctx.jS (Ctx.jS (Ctx.jS y9 _ _ (fun _ _ _ _ h _ _ _ hs hr=>D7 Ah h hs hr)) _ _ (fun _ _ _ _ h _ _ _ hs hr=>D7 Ah h hs hr)) _ _ (fun _ _ _ _ h _ _ _ hs hr=>D7 Ah h hs hr)
theorem dH.prm {X:Ctx} {f:Nat} {g:List AV→St→Option (AV×St)} {args:List AV} {σ σ':St} {v:AV} {Q:AV→St→Prop} (hp:X.lD f=some g)(h:g args σ=some (v,σ'))(q:Q v σ'):dH X f args σ Q:=
 ⟨(NP hp).2 ⟨(v,σ'),h,q⟩⟩
def Ai:List AV→Option Nat
 | [.i .u32 c,.i .u8 0,.i .u16 b,.i .u16 t,.i .u16 p,.i .u16 0,.i .u32 0]=>
   if c=0∧b=0∧t=0∧p=0 then some 0 else if c=1024∧b=1024∧t=1280∧p=27 then some 1024 else if c=0∧b=0∧t=256∧p=5 then some 0
   else if 1024≤c∧c≤1200∧c%16=0∧b=c∧t=c+16∧p=1 then some c.toNat else none
 | _=>none
theorem aac {l:List AV} {k:Nat} (v:Bool)(h:Ai l=some k) {σ:St} (ht:oW (σ.take 10) G0=true):∃top:Int,Gv TBL 121 [.ag (l ++ [.b v])] σ=some (.tu [.i .u32 k,.i .u64 top],σ):=by
 have key:∀(r:RunT),(TBL.find? fun r=>Nat.beq r.f 121 && AV.eqvs (r.args.map FV.av) [.ag (l ++ [.b v])])=some r→∀top,r.v= .tu [.i .u32 k,.i .u64 top]→∃top:Int,Gv TBL 121 [.ag (l ++ [.b v])] σ=some (.tu [.i .u32 k,.i .u64 top],σ):=by
  intro r hr top hv
  refine⟨top,?_⟩
  unfold Gv
  rw [if_pos ht,hr,Option.map_some,hv]
 unfold Ai at h
 split at h
 ·rename_i c b t p
  split at h
  ·rename_i hc
   obtain⟨rfl,rfl,rfl,rfl⟩:=hc
   cases h
   cases v
   ·exact key (dU 0 0 0 0 0 0) (by kernel_rfl) _ rfl
   ·exact key (dU 0 0 0 0 1 0) (by kernel_rfl) _ rfl
  ·split at h
   ·rename_i hc
    obtain⟨rfl,rfl,rfl,rfl⟩:=hc
    cases h
    cases v
    ·exact key (dU 1024 1024 1280 27 0 1280) (by kernel_rfl) _ rfl
    ·exact key (dU 1024 1024 1280 27 1 1280) (by kernel_rfl) _ rfl
   ·split at h
    ·rename_i hc
     obtain⟨rfl,rfl,rfl,rfl⟩:=hc
     cases h
     cases v
     ·exact key (dU 0 0 256 5 0 256) (by kernel_rfl) _ rfl
     ·exact key (dU 0 0 256 5 1 256) (by kernel_rfl) _ rfl
    ·split at h
     ·rename_i hc
      obtain⟨h1,h2,h3,rfl,rfl,rfl⟩:=hc
      cases h
      obtain⟨i,hi,rfl⟩:∃i:Nat,i<12∧b=((1024+16*i:Nat):Int):=⟨((b - 1024) / 16).toNat,by omega,by omega⟩
      obtain rfl | rfl | rfl | rfl | rfl | rfl | rfl | rfl | rfl | rfl | rfl | rfl:i=0∨i=1∨i=2∨i=3∨i=4∨i=5∨i=6∨i=7∨i=8∨i=9∨i=10∨i=11:=by omega
      all_goals cases v
      ·exact key (dU 1024 1024 1040 1 0 1040) (by kernel_rfl) _ rfl
      ·exact key (dU 1024 1024 1040 1 1 1040) (by kernel_rfl) _ rfl
      ·exact key (dU 1040 1040 1056 1 0 1056) (by kernel_rfl) _ rfl
      ·exact key (dU 1040 1040 1056 1 1 1056) (by kernel_rfl) _ rfl
      ·exact key (dU 1056 1056 1072 1 0 1072) (by kernel_rfl) _ rfl
      ·exact key (dU 1056 1056 1072 1 1 1072) (by kernel_rfl) _ rfl
      ·exact key (dU 1072 1072 1088 1 0 1088) (by kernel_rfl) _ rfl
      ·exact key (dU 1072 1072 1088 1 1 1088) (by kernel_rfl) _ rfl
      ·exact key (dU 1088 1088 1104 1 0 1104) (by kernel_rfl) _ rfl
      ·exact key (dU 1088 1088 1104 1 1 1104) (by kernel_rfl) _ rfl
      ·exact key (dU 1104 1104 1120 1 0 1120) (by kernel_rfl) _ rfl
      ·exact key (dU 1104 1104 1120 1 1 1120) (by kernel_rfl) _ rfl
      ·exact key (dU 1120 1120 1136 1 0 1136) (by kernel_rfl) _ rfl
      ·exact key (dU 1120 1120 1136 1 1 1136) (by kernel_rfl) _ rfl
      ·exact key (dU 1136 1136 1152 1 0 1152) (by kernel_rfl) _ rfl
      ·exact key (dU 1136 1136 1152 1 1 1152) (by kernel_rfl) _ rfl
      ·exact key (dU 1152 1152 1168 1 0 1168) (by kernel_rfl) _ rfl
      ·exact key (dU 1152 1152 1168 1 1 1168) (by kernel_rfl) _ rfl
      ·exact key (dU 1168 1168 1184 1 0 1184) (by kernel_rfl) _ rfl
      ·exact key (dU 1168 1168 1184 1 1 1184) (by kernel_rfl) _ rfl
      ·exact key (dU 1184 1184 1200 1 0 1200) (by kernel_rfl) _ rfl
      ·exact key (dU 1184 1184 1200 1 1 1200) (by kernel_rfl) _ rfl
      ·exact key (dU 1200 1200 1216 1 0 1216) (by kernel_rfl) _ rfl
      ·exact key (dU 1200 1200 1216 1 1 1216) (by kernel_rfl) _ rfl
     ·cases h
 ·cases h
end Go.cO.YtnbdedokjfpckaaGreatDoor
