/- Texts of this claim, joined: Kn. -/
import Derived.Test.YthggaoedidfpcaaGreatDoorM20
import Derived.Test.YthggaoedidfpcaaGreatDoorM09
set_option linter.unusedVariables false
set_option linter.unusedSimpArgs false
namespace Go.dX.YthggaoedidfpcaaGreatDoor
open Go.Proofs
set_option maxRecDepth 10000000 in
theorem QD:gTop TT 1000 3 [] G0 isTrue=true:=by kernel_rfl
end Go.dX.YthggaoedidfpcaaGreatDoor
