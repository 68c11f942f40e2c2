/- ParseKnown as a closed run, by the kernel. -/
import Derived.Test.YtobmjhfgmhfocaaGreatDoorM18
set_option linter.unusedVariables false
set_option linter.unusedSimpArgs false
namespace Go.Abs.YtobmjhfgmhfocaaGreatDoor
open Go.Proofs
set_option maxRecDepth 10000000 in
theorem known_run : gTop TT 1000 10 [] G0 isTrue = true := by kernel_rfl
end Go.Abs.YtobmjhfgmhfocaaGreatDoor
