/- Texts of this claim, joined: Th. -/
import Derived.Test.YtnbdedokjfpckaaGreatDoorM23
set_option linter.unusedVariables false
set_option linter.unusedSimpArgs false
namespace Go.cO.YtnbdedokjfpckaaGreatDoor
open Go.Proofs
set_option maxRecDepth 1000000
def rZ (b:Bool)(n:Int):Int:=bif b then IntKind.i64.wrap (n+1) else n
def Vh (m:Int):List AV:=frmC (!bU m 0) (!bU m 0) (!bU m 1) (!bU m 2) (!bU m 3) (!bU m 4) (!bU m 5) (!bU m 6) (!bU m 7) (!bU m 8) (!bU m 9) (!bU m 10) (!bU m 11) (!bU 0 0)
def k1 (m:Int):Int:=rZ (bU 0 0) (rZ (bU m 11) (rZ (bU m 10) (rZ (bU m 9) (rZ (bU m 8) (rZ (bU m 7) (rZ (bU m 6) (rZ (bU m 5) (rZ (bU m 4) (rZ (bU m 3) (rZ (bU m 2) (rZ (bU m 1) (rZ (bU m 0) (rZ (bU m 0) 0)))))))))))))
def stO:AO:=⟨0,false,.cells 206 [.fn (.func 133) [.ag [.p 59 0 0]] []]⟩
def scanO (fr:List AV)(k:Int):St:=[⟨0,false,.cells 37 fr⟩,⟨0,false,.cells 37 fr⟩,stO,⟨0,false,.cells 3 [.i .i64 k]⟩,⟨0,false,.cells 37 fr⟩,⟨0,false,.cells 31 []⟩,stO,⟨0,false,.cells 3 [.i .i64 0]⟩]
def SX (stk:AV)(fr:List AV)(s t m:Int):St:=G0 ++ begD ++ [⟨0,false,.cells 131 [stk]⟩,⟨0,false,.cells 77 (fr ++ [.p 31 0 0,.i .i64 s,.i .i64 t,.i .u64 0])⟩] ++ capsO ++
 [⟨0,false,.cells 39 [.i .u64 0,.i .u64 m,.i .u64 0,.i .u64 0]⟩,⟨0,false,.cells 152 [.i .i64 256,.sl 57 0 0 4 1]⟩,⟨0,false,.cells 96 [.p 58 0 0]⟩]
def S2 (s t m:Int):St:=SX (.sl 65 0 0 0 8) (Vh m) s t m ++ scanO (Vh m) (k1 m)
theorem scan1 (s t m:Int):bFn XS 40 19 [.p 32 0 0,.p 59 0 0] (S1 s t m)=some (.i .i64 (IntKind.i64.wrap (k1 m+0)),S2 s t m):=by kernel_rfl
def k2 (m:Int):Int:=rZ (!bU 0 0 && bU 0 0) (rZ (!bU m 11 && bU m 11) (rZ (!bU m 10 && bU m 10) (rZ (!bU m 9 && bU m 9) (rZ (!bU m 8 && bU m 8) (rZ (!bU m 7 && bU m 7) (rZ (!bU m 6 && bU m 6) (rZ (!bU m 5 && bU m 5)
 (rZ (!bU m 4 && bU m 4) (rZ (!bU m 3 && bU m 3) (rZ (!bU m 2 && bU m 2) (rZ (!bU m 1 && bU m 1) (rZ (!bU m 0 && bU m 0) (rZ (!bU m 0 && bU m 0) 0)))))))))))))
theorem scan2 (s t m:Int)(vo:AO):(bFn XS 40 19 [.p 32 0 0,.p 59 0 0] (S2 s t m ++ [vo])).map (·.1)=some (.i .i64 (IntKind.i64.wrap (k2 m+0))):=by kernel_rfl
end Go.cO.YtnbdedokjfpckaaGreatDoor
