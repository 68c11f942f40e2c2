/- Texts of this claim, joined: Wqb1. -/
import Derived.Test.YtjcicgkencfbgaaGreatDoorM13
set_option linter.unusedVariables false
set_option linter.unusedSimpArgs false
namespace Go.bG.YtjcicgkencfbgaaGreatDoor
open Go.Proofs
set_option maxRecDepth 10000000
def pk1:Pk:=⟨11,[102,117,110,99,32,102,40,41,32,123,10,114,101,116,117,114,110,32,49,43,50,42,51,59,10,125],.tu [.p 57 0 0,.gu],[57,208,61,200,99,192,124,188,152,180],[(52,[.sl 208 0 0 1 1]),(54,[.p 61 0 0]),(93,[.s [102],.sl0,.b false,.sl 200 0 0 1 1,.i .i64 0]),(102,[.p 99 0 0]),(114,[.i .i64 9,.s [],.b false,.p0,.p 192 0 0,.sl0,.sl0,.i .i64 1]),(67,[.i .i64 3,.i .u32 0,.s [],.s [43],.p 124 0 0,.p 188 0 0,.sl0,.i .i64 1]),(67,[.i .i64 1,.i .u32 1,.s [],.s [],.p0,.p0,.sl0,.i .i64 1]),(67,[.i .i64 3,.i .u32 0,.s [],.s [42],.p 152 0 0,.p 180 0 0,.sl0,.i .i64 1]),(67,[.i .i64 1,.i .u32 2,.s [],.s [],.p0,.p0,.sl0,.i .i64 1]),(67,[.i .i64 1,.i .u32 3,.s [],.s [],.p0,.p0,.sl0,.i .i64 1])]⟩
theorem Ut:pk1.Good X1:=⟨⟨1000,by kernel_rfl⟩,by kernel_rfl,by decide⟩
end Go.bG.YtjcicgkencfbgaaGreatDoor
