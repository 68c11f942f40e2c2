/- Texts of this claim, joined: C3. -/
import Derived.Test.YtnbdedokjfpckaaGreatDoorM17
set_option linter.unusedVariables false
set_option linter.unusedSimpArgs false
namespace Go.dB.YtnbdedokjfpckaaGreatDoor
open Go.Proofs
set_option maxRecDepth 10000000
theorem cr3:bU TT 1000 3 [.n 512 3] G0 isTrue=true:=by kernel_rfl
theorem cr12:bU TT 1000 3 [.n 512 12] G0 isTrue=true:=by kernel_rfl
theorem cr15:bU TT 1000 3 [.n 512 15] G0 isTrue=true:=by kernel_rfl
theorem cr24:bU TT 1000 3 [.n 512 24] G0 isTrue=true:=by kernel_rfl
theorem cr28:bU TT 1000 3 [.n 512 28] G0 isTrue=true:=by kernel_rfl
theorem cr35:bU TT 1000 3 [.n 512 35] G0 isTrue=true:=by kernel_rfl
theorem cr40:bU TT 1000 3 [.n 512 40] G0 isTrue=true:=by kernel_rfl
theorem cr47:bU TT 1000 3 [.n 512 47] G0 isTrue=true:=by kernel_rfl
end Go.dB.YtnbdedokjfpckaaGreatDoor
