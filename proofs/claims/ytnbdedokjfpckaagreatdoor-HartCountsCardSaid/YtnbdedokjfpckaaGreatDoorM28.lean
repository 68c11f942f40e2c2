/- Texts of this claim, joined: C6. -/
import Derived.Test.YtnbdedokjfpckaaGreatDoorM17
set_option linter.unusedVariables false
set_option linter.unusedSimpArgs false
namespace Go.dB.YtnbdedokjfpckaaGreatDoor
open Go.Proofs
set_option maxRecDepth 10000000
theorem cr7:bU TT 1000 3 [.n 512 7] G0 isTrue=true:=by kernel_rfl
theorem cr8:bU TT 1000 3 [.n 512 8] G0 isTrue=true:=by kernel_rfl
theorem cr19:bU TT 1000 3 [.n 512 19] G0 isTrue=true:=by kernel_rfl
theorem cr20:bU TT 1000 3 [.n 512 20] G0 isTrue=true:=by kernel_rfl
theorem cr31:bU TT 1000 3 [.n 512 31] G0 isTrue=true:=by kernel_rfl
theorem cr32:bU TT 1000 3 [.n 512 32] G0 isTrue=true:=by kernel_rfl
theorem cr43:bU TT 1000 3 [.n 512 43] G0 isTrue=true:=by kernel_rfl
theorem cr44:bU TT 1000 3 [.n 512 44] G0 isTrue=true:=by kernel_rfl
end Go.dB.YtnbdedokjfpckaaGreatDoor
