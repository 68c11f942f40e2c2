/- Texts of this claim, joined: Wqb0. -/
import Derived.Test.YtjcicgkencfbgaaGreatDoorM13
set_option linter.unusedVariables false
set_option linter.unusedSimpArgs false
namespace Go.bG.YtjcicgkencfbgaaGreatDoor
open Go.Proofs
set_option maxRecDepth 10000000
def pk0:Pk:=⟨11,[102,117,110,99,32,109,97,105,110,40,41,123,120,61,49,43,50,42,51,59,125],.tu [.p 59 0 0,.gu],[59,234,63,226,101,218,150,214,178,206],[(52,[.sl 234 0 0 1 1]),(54,[.p 63 0 0]),(93,[.s [109,97,105,110],.sl0,.b false,.sl 226 0 0 1 1,.i .i64 0]),(102,[.p 101 0 0]),(114,[.i .i64 2,.s [120],.b false,.p0,.p 218 0 0,.sl0,.sl0,.i .i64 0]),(67,[.i .i64 3,.i .u32 0,.s [],.s [43],.p 150 0 0,.p 214 0 0,.sl0,.i .i64 0]),(67,[.i .i64 1,.i .u32 1,.s [],.s [],.p0,.p0,.sl0,.i .i64 0]),(67,[.i .i64 3,.i .u32 0,.s [],.s [42],.p 178 0 0,.p 206 0 0,.sl0,.i .i64 0]),(67,[.i .i64 1,.i .u32 2,.s [],.s [],.p0,.p0,.sl0,.i .i64 0]),(67,[.i .i64 1,.i .u32 3,.s [],.s [],.p0,.p0,.sl0,.i .i64 0])]⟩
theorem Us:pk0.Good X1:=⟨⟨1000,by kernel_rfl⟩,by kernel_rfl,by decide⟩
end Go.bG.YtjcicgkencfbgaaGreatDoor
