/- Texts of this claim, joined: Wqb1. -/
import Derived.Test.YtlkfbfhkcaldlaaGreatDoorM14
set_option linter.unusedVariables false
set_option linter.unusedSimpArgs false
namespace Go.Abs.YtlkfbfhkcaldlaaGreatDoor
open Go.Proofs
set_option maxRecDepth 10000000
def pk1:Pk:=⟨10,[102,117,110,99,32,102,40,41,32,123,10,114,101,116,117,114,110,32,49,43,50,42,51,59,10,125],.tu [.p 56 0 0,.ic0],[56,207,60,199,98,191,123,187,151,179],[(60,[.sl 207 0 0 1 1]),(64,[.p 60 0 0]),(69,[.s [102],.sl0,.b false,.sl 199 0 0 1 1,.i .i64 0]),(96,[.p 98 0 0]),(95,[.i .i64 9,.s [],.b false,.p0,.p 191 0 0,.sl0,.sl0,.i .i64 1]),(48,[.i .i64 3,.i .u32 0,.s [],.s [43],.p 123 0 0,.p 187 0 0,.sl0,.i .i64 1]),(48,[.i .i64 1,.i .u32 1,.s [],.s [],.p0,.p0,.sl0,.i .i64 1]),(48,[.i .i64 3,.i .u32 0,.s [],.s [42],.p 151 0 0,.p 179 0 0,.sl0,.i .i64 1]),(48,[.i .i64 1,.i .u32 2,.s [],.s [],.p0,.p0,.sl0,.i .i64 1]),(48,[.i .i64 1,.i .u32 3,.s [],.s [],.p0,.p0,.sl0,.i .i64 1])]⟩
theorem U5:pk1.Good X1:=⟨⟨1000,by kernel_rfl⟩,by kernel_rfl,by decide⟩
end Go.Abs.YtlkfbfhkcaldlaaGreatDoor
