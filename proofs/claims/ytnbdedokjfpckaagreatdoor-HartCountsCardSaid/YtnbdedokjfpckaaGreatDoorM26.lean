/- Texts of this claim, joined: C4. -/
import Derived.Test.YtnbdedokjfpckaaGreatDoorM17
set_option linter.unusedVariables false
set_option linter.unusedSimpArgs false
namespace Go.dB.YtnbdedokjfpckaaGreatDoor
open Go.Proofs
set_option maxRecDepth 10000000
theorem cr4:bU TT 1000 3 [.n 512 4] G0 isTrue=true:=by kernel_rfl
theorem cr11:bU TT 1000 3 [.n 512 11] G0 isTrue=true:=by kernel_rfl
theorem cr16:bU TT 1000 3 [.n 512 16] G0 isTrue=true:=by kernel_rfl
theorem cr23:bU TT 1000 3 [.n 512 23] G0 isTrue=true:=by kernel_rfl
theorem cr29:bU TT 1000 3 [.n 512 29] G0 isTrue=true:=by kernel_rfl
theorem cr34:bU TT 1000 3 [.n 512 34] G0 isTrue=true:=by kernel_rfl
theorem cr41:bU TT 1000 3 [.n 512 41] G0 isTrue=true:=by kernel_rfl
theorem cr46:bU TT 1000 3 [.n 512 46] G0 isTrue=true:=by kernel_rfl
end Go.dB.YtnbdedokjfpckaaGreatDoor
