/- Texts of this claim, joined: C1. -/
import Derived.Test.YtnbdedokjfpckaaGreatDoorM17
set_option linter.unusedVariables false
set_option linter.unusedSimpArgs false
namespace Go.dB.YtnbdedokjfpckaaGreatDoor
open Go.Proofs
set_option maxRecDepth 10000000
theorem cr0:bU TT 1000 3 [.n 512 0] G0 isTrue=true:=by kernel_rfl
theorem cr5:bU TT 1000 3 [.n 512 5] G0 isTrue=true:=by kernel_rfl
theorem cr10:bU TT 1000 3 [.n 512 10] G0 isTrue=true:=by kernel_rfl
theorem cr17:bU TT 1000 3 [.n 512 17] G0 isTrue=true:=by kernel_rfl
theorem cr22:bU TT 1000 3 [.n 512 22] G0 isTrue=true:=by kernel_rfl
theorem cr26:bU TT 1000 3 [.n 512 26] G0 isTrue=true:=by kernel_rfl
theorem cr37:bU TT 1000 3 [.n 512 37] G0 isTrue=true:=by kernel_rfl
theorem cr38:bU TT 1000 3 [.n 512 38] G0 isTrue=true:=by kernel_rfl
theorem cr49:bU TT 1000 3 [.n 512 49] G0 isTrue=true:=by kernel_rfl
end Go.dB.YtnbdedokjfpckaaGreatDoor
