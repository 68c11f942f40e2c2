/- Texts of this claim, joined: Wqb0. -/
import Derived.Test.YtlkfbfhkcaldlaaGreatDoorM14
set_option linter.unusedVariables false
set_option linter.unusedSimpArgs false
namespace Go.Abs.YtlkfbfhkcaldlaaGreatDoor
open Go.Proofs
set_option maxRecDepth 10000000
def pk0:Pk:=⟨10,[102,117,110,99,32,109,97,105,110,40,41,123,120,61,49,43,50,42,51,59,125],.tu [.p 58 0 0,.ic0],[58,233,62,225,100,217,149,213,177,205],[(60,[.sl 233 0 0 1 1]),(64,[.p 62 0 0]),(69,[.s [109,97,105,110],.sl0,.b false,.sl 225 0 0 1 1,.i .i64 0]),(96,[.p 100 0 0]),(95,[.i .i64 2,.s [120],.b false,.p0,.p 217 0 0,.sl0,.sl0,.i .i64 0]),(48,[.i .i64 3,.i .u32 0,.s [],.s [43],.p 149 0 0,.p 213 0 0,.sl0,.i .i64 0]),(48,[.i .i64 1,.i .u32 1,.s [],.s [],.p0,.p0,.sl0,.i .i64 0]),(48,[.i .i64 3,.i .u32 0,.s [],.s [42],.p 177 0 0,.p 205 0 0,.sl0,.i .i64 0]),(48,[.i .i64 1,.i .u32 2,.s [],.s [],.p0,.p0,.sl0,.i .i64 0]),(48,[.i .i64 1,.i .u32 3,.s [],.s [],.p0,.p0,.sl0,.i .i64 0])]⟩
theorem U4:pk0.Good X1:=⟨⟨1000,by kernel_rfl⟩,by kernel_rfl,by decide⟩
end Go.Abs.YtlkfbfhkcaldlaaGreatDoor
