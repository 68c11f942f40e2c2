/- Texts of this claim, joined: Wqb4. -/
import Derived.Test.YtjcicgkencfbgaaGreatDoorM13
set_option linter.unusedVariables false
set_option linter.unusedSimpArgs false
namespace Go.bG.YtjcicgkencfbgaaGreatDoor
open Go.Proofs
set_option maxRecDepth 10000000
def pk4:Pk:=⟨11,[102,117,110,99,32,102,40,41,32,123,10,9,114,101,116,117,114,110,32,40,49,32,43,32,50,41,32,42,32,51,59,10,125,10],.tu [.p 62 0 0,.gu],[62,252,66,244,104,236,194,158,186,228],[(52,[.sl 252 0 0 1 1]),(54,[.p 66 0 0]),(93,[.s [102],.sl0,.b false,.sl 244 0 0 1 1,.i .i64 0]),(102,[.p 104 0 0]),(114,[.i .i64 9,.s [],.b false,.p0,.p 236 0 0,.sl0,.sl0,.i .i64 1]),(67,[.i .i64 3,.i .u32 0,.s [],.s [42],.p 194 0 0,.p 228 0 0,.sl0,.i .i64 1]),(67,[.i .i64 3,.i .u32 0,.s [],.s [43],.p 158 0 0,.p 186 0 0,.sl0,.i .i64 1]),(67,[.i .i64 1,.i .u32 1,.s [],.s [],.p0,.p0,.sl0,.i .i64 1]),(67,[.i .i64 1,.i .u32 2,.s [],.s [],.p0,.p0,.sl0,.i .i64 1]),(67,[.i .i64 1,.i .u32 3,.s [],.s [],.p0,.p0,.sl0,.i .i64 1])]⟩
theorem Ux:pk4.Good X1:=⟨⟨1000,by kernel_rfl⟩,by kernel_rfl,by decide⟩
end Go.bG.YtjcicgkencfbgaaGreatDoor
