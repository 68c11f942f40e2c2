/- Texts of this claim, joined: Wqb3. -/
import Derived.Test.YtjcicgkencfbgaaGreatDoorM13
set_option linter.unusedVariables false
set_option linter.unusedSimpArgs false
namespace Go.bG.YtjcicgkencfbgaaGreatDoor
open Go.Proofs
set_option maxRecDepth 10000000
def pk3:Pk:=⟨11,[102,117,110,99,32,109,97,105,110,40,41,32,123,10,9,120,32,61,32,49,32,43,32,50,32,42,32,51,59,10,125,10],.tu [.p 60 0 0,.gu],[60,235,64,227,102,219,151,215,179,207],[(52,[.sl 235 0 0 1 1]),(54,[.p 64 0 0]),(93,[.s [109,97,105,110],.sl0,.b false,.sl 227 0 0 1 1,.i .i64 0]),(102,[.p 102 0 0]),(114,[.i .i64 2,.s [120],.b false,.p0,.p 219 0 0,.sl0,.sl0,.i .i64 1]),(67,[.i .i64 3,.i .u32 0,.s [],.s [43],.p 151 0 0,.p 215 0 0,.sl0,.i .i64 1]),(67,[.i .i64 1,.i .u32 1,.s [],.s [],.p0,.p0,.sl0,.i .i64 1]),(67,[.i .i64 3,.i .u32 0,.s [],.s [42],.p 179 0 0,.p 207 0 0,.sl0,.i .i64 1]),(67,[.i .i64 1,.i .u32 2,.s [],.s [],.p0,.p0,.sl0,.i .i64 1]),(67,[.i .i64 1,.i .u32 3,.s [],.s [],.p0,.p0,.sl0,.i .i64 1])]⟩
theorem Uw:pk3.Good X1:=⟨⟨1000,by kernel_rfl⟩,by kernel_rfl,by decide⟩
end Go.bG.YtjcicgkencfbgaaGreatDoor
