/- Texts of this claim, joined: Wqb0, Wqb1, Wqb2. -/
import Derived.Test.YtlkfbfhkcaldlaaGreatDoorM11
set_option linter.unusedVariables false
set_option linter.unusedSimpArgs false
namespace Go.Abs.YtlkfbfhkcaldlaaGreatDoor
open Go.Proofs
set_option maxRecDepth 10000000
def pk0:Pk:=⟨10,[102,117,110,99,32,109,97,105,110,40,41,123,120,61,49,43,50,42,51,59,125],.tu [.p 58 0 0,.ic0],[58,233,62,225,100,217,149,213,177,205],[(60,[.sl 233 0 0 1 1]),(64,[.p 62 0 0]),(69,[.s [109,97,105,110],.sl0,.b false,.sl 225 0 0 1 1,.i .i64 0]),(96,[.p 100 0 0]),(95,[.i .i64 2,.s [120],.b false,.p0,.p 217 0 0,.sl0,.sl0,.i .i64 0]),(48,[.i .i64 3,.i .u32 0,.s [],.s [43],.p 149 0 0,.p 213 0 0,.sl0,.i .i64 0]),(48,[.i .i64 1,.i .u32 1,.s [],.s [],.p0,.p0,.sl0,.i .i64 0]),(48,[.i .i64 3,.i .u32 0,.s [],.s [42],.p 177 0 0,.p 205 0 0,.sl0,.i .i64 0]),(48,[.i .i64 1,.i .u32 2,.s [],.s [],.p0,.p0,.sl0,.i .i64 0]),(48,[.i .i64 1,.i .u32 3,.s [],.s [],.p0,.p0,.sl0,.i .i64 0])]⟩
theorem U4:pk0.Good X1:=⟨⟨1000,by kernel_rfl⟩,by kernel_rfl,by decide⟩
end Go.Abs.YtlkfbfhkcaldlaaGreatDoor
namespace Go.Abs.YtlkfbfhkcaldlaaGreatDoor
open Go.Proofs
set_option maxRecDepth 10000000
def pk1:Pk:=⟨10,[102,117,110,99,32,102,40,41,32,123,10,114,101,116,117,114,110,32,49,43,50,42,51,59,10,125],.tu [.p 56 0 0,.ic0],[56,207,60,199,98,191,123,187,151,179],[(60,[.sl 207 0 0 1 1]),(64,[.p 60 0 0]),(69,[.s [102],.sl0,.b false,.sl 199 0 0 1 1,.i .i64 0]),(96,[.p 98 0 0]),(95,[.i .i64 9,.s [],.b false,.p0,.p 191 0 0,.sl0,.sl0,.i .i64 1]),(48,[.i .i64 3,.i .u32 0,.s [],.s [43],.p 123 0 0,.p 187 0 0,.sl0,.i .i64 1]),(48,[.i .i64 1,.i .u32 1,.s [],.s [],.p0,.p0,.sl0,.i .i64 1]),(48,[.i .i64 3,.i .u32 0,.s [],.s [42],.p 151 0 0,.p 179 0 0,.sl0,.i .i64 1]),(48,[.i .i64 1,.i .u32 2,.s [],.s [],.p0,.p0,.sl0,.i .i64 1]),(48,[.i .i64 1,.i .u32 3,.s [],.s [],.p0,.p0,.sl0,.i .i64 1])]⟩
theorem U5:pk1.Good X1:=⟨⟨1000,by kernel_rfl⟩,by kernel_rfl,by decide⟩
end Go.Abs.YtlkfbfhkcaldlaaGreatDoor
namespace Go.Abs.YtlkfbfhkcaldlaaGreatDoor
open Go.Proofs
set_option maxRecDepth 10000000
def pk2:Pk:=⟨10,[102,117,110,99,32,102,40,41,32,123,10,114,101,116,117,114,110,32,40,49,43,50,41,42,51,59,10,125],.tu [.p 60 0 0,.ic0],[60,250,64,242,102,234,192,156,184,226],[(60,[.sl 250 0 0 1 1]),(64,[.p 64 0 0]),(69,[.s [102],.sl0,.b false,.sl 242 0 0 1 1,.i .i64 0]),(96,[.p 102 0 0]),(95,[.i .i64 9,.s [],.b false,.p0,.p 234 0 0,.sl0,.sl0,.i .i64 1]),(48,[.i .i64 3,.i .u32 0,.s [],.s [42],.p 192 0 0,.p 226 0 0,.sl0,.i .i64 1]),(48,[.i .i64 3,.i .u32 0,.s [],.s [43],.p 156 0 0,.p 184 0 0,.sl0,.i .i64 1]),(48,[.i .i64 1,.i .u32 1,.s [],.s [],.p0,.p0,.sl0,.i .i64 1]),(48,[.i .i64 1,.i .u32 2,.s [],.s [],.p0,.p0,.sl0,.i .i64 1]),(48,[.i .i64 1,.i .u32 3,.s [],.s [],.p0,.p0,.sl0,.i .i64 1])]⟩
theorem U6:pk2.Good X1:=⟨⟨1000,by kernel_rfl⟩,by kernel_rfl,by decide⟩
end Go.Abs.YtlkfbfhkcaldlaaGreatDoor
