/- Texts of this claim, joined: C2. -/
import Derived.Test.YtnbdedokjfpckaaGreatDoorM17
set_option linter.unusedVariables false
set_option linter.unusedSimpArgs false
namespace Go.dB.YtnbdedokjfpckaaGreatDoor
open Go.Proofs
set_option maxRecDepth 10000000
theorem cr1:bU TT 1000 3 [.n 512 1] G0 isTrue=true:=by kernel_rfl
theorem cr2:bU TT 1000 3 [.n 512 2] G0 isTrue=true:=by kernel_rfl
theorem cr13:bU TT 1000 3 [.n 512 13] G0 isTrue=true:=by kernel_rfl
theorem cr14:bU TT 1000 3 [.n 512 14] G0 isTrue=true:=by kernel_rfl
theorem cr25:bU TT 1000 3 [.n 512 25] G0 isTrue=true:=by kernel_rfl
theorem cr27:bU TT 1000 3 [.n 512 27] G0 isTrue=true:=by kernel_rfl
theorem cr36:bU TT 1000 3 [.n 512 36] G0 isTrue=true:=by kernel_rfl
theorem cr39:bU TT 1000 3 [.n 512 39] G0 isTrue=true:=by kernel_rfl
theorem cr48:bU TT 1000 3 [.n 512 48] G0 isTrue=true:=by kernel_rfl
end Go.dB.YtnbdedokjfpckaaGreatDoor
