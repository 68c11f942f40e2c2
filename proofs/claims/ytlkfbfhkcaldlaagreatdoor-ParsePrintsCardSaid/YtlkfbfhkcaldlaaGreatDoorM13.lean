/- Texts of this claim, joined: Wqb3, Wqb4. -/
import Derived.Test.YtlkfbfhkcaldlaaGreatDoorM11
set_option linter.unusedVariables false
set_option linter.unusedSimpArgs false
namespace Go.Abs.YtlkfbfhkcaldlaaGreatDoor
open Go.Proofs
set_option maxRecDepth 10000000
def pk3:Pk:=⟨10,[102,117,110,99,32,109,97,105,110,40,41,32,123,10,9,120,32,61,32,49,32,43,32,50,32,42,32,51,59,10,125,10],.tu [.p 59 0 0,.ic0],[59,234,63,226,101,218,150,214,178,206],[(60,[.sl 234 0 0 1 1]),(64,[.p 63 0 0]),(69,[.s [109,97,105,110],.sl0,.b false,.sl 226 0 0 1 1,.i .i64 0]),(96,[.p 101 0 0]),(95,[.i .i64 2,.s [120],.b false,.p0,.p 218 0 0,.sl0,.sl0,.i .i64 1]),(48,[.i .i64 3,.i .u32 0,.s [],.s [43],.p 150 0 0,.p 214 0 0,.sl0,.i .i64 1]),(48,[.i .i64 1,.i .u32 1,.s [],.s [],.p0,.p0,.sl0,.i .i64 1]),(48,[.i .i64 3,.i .u32 0,.s [],.s [42],.p 178 0 0,.p 206 0 0,.sl0,.i .i64 1]),(48,[.i .i64 1,.i .u32 2,.s [],.s [],.p0,.p0,.sl0,.i .i64 1]),(48,[.i .i64 1,.i .u32 3,.s [],.s [],.p0,.p0,.sl0,.i .i64 1])]⟩
theorem U7:pk3.Good X1:=⟨⟨1000,by kernel_rfl⟩,by kernel_rfl,by decide⟩
end Go.Abs.YtlkfbfhkcaldlaaGreatDoor
namespace Go.Abs.YtlkfbfhkcaldlaaGreatDoor
open Go.Proofs
set_option maxRecDepth 10000000
def pk4:Pk:=⟨10,[102,117,110,99,32,102,40,41,32,123,10,9,114,101,116,117,114,110,32,40,49,32,43,32,50,41,32,42,32,51,59,10,125,10],.tu [.p 61 0 0,.ic0],[61,251,65,243,103,235,193,157,185,227],[(60,[.sl 251 0 0 1 1]),(64,[.p 65 0 0]),(69,[.s [102],.sl0,.b false,.sl 243 0 0 1 1,.i .i64 0]),(96,[.p 103 0 0]),(95,[.i .i64 9,.s [],.b false,.p0,.p 235 0 0,.sl0,.sl0,.i .i64 1]),(48,[.i .i64 3,.i .u32 0,.s [],.s [42],.p 193 0 0,.p 227 0 0,.sl0,.i .i64 1]),(48,[.i .i64 3,.i .u32 0,.s [],.s [43],.p 157 0 0,.p 185 0 0,.sl0,.i .i64 1]),(48,[.i .i64 1,.i .u32 1,.s [],.s [],.p0,.p0,.sl0,.i .i64 1]),(48,[.i .i64 1,.i .u32 2,.s [],.s [],.p0,.p0,.sl0,.i .i64 1]),(48,[.i .i64 1,.i .u32 3,.s [],.s [],.p0,.p0,.sl0,.i .i64 1])]⟩
theorem U8:pk4.Good X1:=⟨⟨1000,by kernel_rfl⟩,by kernel_rfl,by decide⟩
end Go.Abs.YtlkfbfhkcaldlaaGreatDoor
