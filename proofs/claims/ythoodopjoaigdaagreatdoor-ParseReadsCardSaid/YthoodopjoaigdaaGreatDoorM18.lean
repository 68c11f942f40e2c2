/- Texts of this claim, joined: Wqb4. -/
import Derived.Test.YthoodopjoaigdaaGreatDoorM13
set_option linter.unusedVariables false
set_option linter.unusedSimpArgs false
namespace Go.bP.YthoodopjoaigdaaGreatDoor
open Go.Proofs
set_option maxRecDepth 10000000
def pk4:Pk:=⟨4,[102,117,110,99,32,102,40,41,32,123,10,9,114,101,116,117,114,110,32,40,49,32,43,32,50,41,32,42,32,51,59,10,125,10],.tu [.p 62 0 0,.fM],[62,252,66,244,104,236,194,158,186,228],[(45,[.sl 252 0 0 1 1]),(49,[.p 66 0 0]),(85,[.s [102],.sl0,.b false,.sl 244 0 0 1 1,.i .i64 0]),(121,[.p 104 0 0]),(120,[.i .i64 9,.s [],.b false,.p0,.p 236 0 0,.sl0,.sl0,.i .i64 1]),(68,[.i .i64 3,.i .u32 0,.s [],.s [42],.p 194 0 0,.p 228 0 0,.sl0,.i .i64 1]),(68,[.i .i64 3,.i .u32 0,.s [],.s [43],.p 158 0 0,.p 186 0 0,.sl0,.i .i64 1]),(68,[.i .i64 1,.i .u32 1,.s [],.s [],.p0,.p0,.sl0,.i .i64 1]),(68,[.i .i64 1,.i .u32 2,.s [],.s [],.p0,.p0,.sl0,.i .i64 1]),(68,[.i .i64 1,.i .u32 3,.s [],.s [],.p0,.p0,.sl0,.i .i64 1])]⟩
theorem QM:pk4.Good X1:=⟨⟨1000,by kernel_rfl⟩,by kernel_rfl,by decide⟩
end Go.bP.YthoodopjoaigdaaGreatDoor
