/- Texts of this claim, joined: Wqb2. -/
import Derived.Test.YtjcicgkencfbgaaGreatDoorM13
set_option linter.unusedVariables false
set_option linter.unusedSimpArgs false
namespace Go.bG.YtjcicgkencfbgaaGreatDoor
open Go.Proofs
set_option maxRecDepth 10000000
def pk2:Pk:=⟨11,[102,117,110,99,32,102,40,41,32,123,10,114,101,116,117,114,110,32,40,49,43,50,41,42,51,59,10,125],.tu [.p 61 0 0,.gu],[61,251,65,243,103,235,193,157,185,227],[(52,[.sl 251 0 0 1 1]),(54,[.p 65 0 0]),(93,[.s [102],.sl0,.b false,.sl 243 0 0 1 1,.i .i64 0]),(102,[.p 103 0 0]),(114,[.i .i64 9,.s [],.b false,.p0,.p 235 0 0,.sl0,.sl0,.i .i64 1]),(67,[.i .i64 3,.i .u32 0,.s [],.s [42],.p 193 0 0,.p 227 0 0,.sl0,.i .i64 1]),(67,[.i .i64 3,.i .u32 0,.s [],.s [43],.p 157 0 0,.p 185 0 0,.sl0,.i .i64 1]),(67,[.i .i64 1,.i .u32 1,.s [],.s [],.p0,.p0,.sl0,.i .i64 1]),(67,[.i .i64 1,.i .u32 2,.s [],.s [],.p0,.p0,.sl0,.i .i64 1]),(67,[.i .i64 1,.i .u32 3,.s [],.s [],.p0,.p0,.sl0,.i .i64 1])]⟩
theorem Uu:pk2.Good X1:=⟨⟨1000,by kernel_rfl⟩,by kernel_rfl,by decide⟩
end Go.bG.YtjcicgkencfbgaaGreatDoor
