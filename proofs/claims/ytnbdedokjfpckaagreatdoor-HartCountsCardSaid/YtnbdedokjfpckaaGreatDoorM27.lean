/- Texts of this claim, joined: C5. -/
import Derived.Test.YtnbdedokjfpckaaGreatDoorM17
set_option linter.unusedVariables false
set_option linter.unusedSimpArgs false
namespace Go.dB.YtnbdedokjfpckaaGreatDoor
open Go.Proofs
set_option maxRecDepth 10000000
theorem cr6:bU TT 1000 3 [.n 512 6] G0 isTrue=true:=by kernel_rfl
theorem cr9:bU TT 1000 3 [.n 512 9] G0 isTrue=true:=by kernel_rfl
theorem cr18:bU TT 1000 3 [.n 512 18] G0 isTrue=true:=by kernel_rfl
theorem cr21:bU TT 1000 3 [.n 512 21] G0 isTrue=true:=by kernel_rfl
theorem cr30:bU TT 1000 3 [.n 512 30] G0 isTrue=true:=by kernel_rfl
theorem cr33:bU TT 1000 3 [.n 512 33] G0 isTrue=true:=by kernel_rfl
theorem cr42:bU TT 1000 3 [.n 512 42] G0 isTrue=true:=by kernel_rfl
theorem cr45:bU TT 1000 3 [.n 512 45] G0 isTrue=true:=by kernel_rfl
end Go.dB.YtnbdedokjfpckaaGreatDoor
