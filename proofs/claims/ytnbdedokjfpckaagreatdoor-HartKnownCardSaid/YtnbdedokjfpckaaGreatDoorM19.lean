/- Texts of this claim, joined: Kn. -/
import Derived.Test.YtnbdedokjfpckaaGreatDoorM18
set_option linter.unusedVariables false
set_option linter.unusedSimpArgs false
namespace Go.dD.YtnbdedokjfpckaaGreatDoor
open Go.Proofs
set_option maxRecDepth 10000000 in
theorem KL:gTop TT 1000 6 [] G0 isTrue=true:=by kernel_rfl
end Go.dD.YtnbdedokjfpckaaGreatDoor
