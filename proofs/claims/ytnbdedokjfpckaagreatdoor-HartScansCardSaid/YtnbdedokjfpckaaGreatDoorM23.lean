/- Texts of this claim, joined: Tg. -/
import Derived.Test.YtnbdedokjfpckaaGreatDoorM22
set_option linter.unusedVariables false
set_option linter.unusedSimpArgs false
namespace Go.cO.YtnbdedokjfpckaaGreatDoor
open Go.Proofs
set_option maxRecDepth 1000000
def AC.hd:AC→AC
 | .seq a _=>a
 | c=>c
def AC.tl:AC→AC
 | .seq _ b=>b
 | c=>c
def vW (i:Nat)(v:Bool):List AV:=I4 (1024+16*i:Nat) (1024+16*i:Nat) (1040+16*i:Nat) 1 ++ [.b v]
def frmC (v1 v4 v5 v6 v7 v8 v9 v10 v11 v12 v13 v14 v15 vp:Bool):List AV:=
 o_ ++ (I4 1024 1024 1280 27 ++ [.b v1]) ++ o_ ++ o_ ++ vW 0 v4 ++ vW 1 v5 ++ vW 2 v6 ++ vW 3 v7 ++ vW 4 v8 ++ vW 5 v9 ++ vW 6 v10 ++ vW 7 v11 ++ vW 8 v12 ++ vW 9 v13 ++ vW 10 v14 ++ vW 11 v15 ++ (I4 0 0 256 5 ++ [.b vp])
def U1:AC:=AC.tl c5
def U2:AC:=AC.tl U1
def U3:AC:=AC.tl U2
def U4:AC:=AC.tl U3
def U5:AC:=AC.tl U4
def preA:AC:=.seq (AC.hd c5) (.seq (AC.hd U1) (.seq (AC.hd U2) (.seq (AC.hd U3) (AC.hd U4))))
def kV (i:Nat):AO:=⟨0,false,.cells 31 (vW i true)⟩
def begD:St:=[dead,dead,dead,dead,dead,dead,dead,dead,dead,dead,dead,dead,dead,dead,dead,dead,dead,dead,dead,dead,dead]
def capsO:St:=[kV 0,kV 0,kV 1,kV 1,kV 2,kV 2,kV 3,kV 3,kV 4,kV 4,kV 5,kV 5,kV 6,kV 6,kV 7,kV 7,kV 8,kV 8,kV 9,kV 9,kV 10,kV 10,kV 11,kV 11]
def S0 (s t:Int):St:=G0 ++ begD ++ [⟨0,false,.cells 131 [.sl0]⟩,⟨0,false,.cells 77 (frmC true true true true true true true true true true true true true true ++ [.p 31 0 0,.i .i64 s,.i .i64 t,.i .u64 0])⟩] ++ capsO
@[reducible] noncomputable def XZ:Ctx:=XS.add 19 (bFn XS 40 19)
theorem UK:XZ.Sound 10:=Ctx.jS Gy _ _ (fun _ _ _ _ h _ _ _ hs hr=>b_ok Gy 40 _ _ _ _ _ h _ _ _ hs hr)
theorem UL (set st:Int):(bJ XZ (aFn XZ 40) 40 preA (eX 0 [.i .u16 set,.i .u8 st]) G0).map (fun p=>(p.1,get p.2.1 0,get p.2.1 1,get p.2.1 6,get p.2.1 10,p.2.2)) =
 some (.normal,.i .u16 set,.i .u8 st,.p 32 0 0,.i .i64 0,S0 0 0):=by kernel_rfl
def S1 (s t m:Int):St:=S0 s t ++ [⟨0,false,.cells 39 [.i .u64 0,.i .u64 m,.i .u64 0,.i .u64 0]⟩,⟨0,false,.cells 152 [.i .i64 256,.sl 57 0 0 4 1]⟩,⟨0,false,.cells 96 [.p 58 0 0]⟩]
theorem go0:aFn XZ 20 16 [.p 32 0 0,.i .i64 0,.i .i64 0] (S0 0 0)=some (.b true,S0 0 0):=by kernel_rfl
theorem go1:aFn XZ 20 16 [.p 32 0 0,.i .i64 1,.i .i64 0] (S0 0 0)=some (.b true,S0 1 0):=by kernel_rfl
theorem go2:aFn XZ 20 16 [.p 32 0 0,.i .i64 2,.i .i64 0] (S0 0 0)=some (.b true,S0 2 0):=by kernel_rfl
theorem go3:aFn XZ 20 16 [.p 32 0 0,.i .i64 3,.i .i64 0] (S0 0 0)=some (.b true,S0 3 0):=by kernel_rfl
theorem go4:aFn XZ 20 16 [.p 32 0 0,.i .i64 4,.i .i64 7] (S0 0 0)=some (.b true,S0 4 7):=by kernel_rfl
theorem aah (s t:Int):aFn XZ 20 17 [.i .i64 4096] (S0 s t)=some (.p 59 0 0,S1 s t 0):=by kernel_rfl
end Go.cO.YtnbdedokjfpckaaGreatDoor
