/- Texts of this claim, joined: KwA. -/
import Derived.Test.YthggaoedidfpcaaGreatDoorM10
import Derived.Test.YthggaoedidfpcaaGreatDoorTie
import Derived.SevenTiedAt
set_option linter.unusedVariables false
set_option linter.unusedSimpArgs false
namespace Go.Proofs.YthggaoedidfpcaaGreatDoor
open Go Go.ChangeShapes Go.WideShapes Go.ChangeAt Go.ChangeMaps Go.RowKit
set_option maxRecDepth 100000
theorem kw2 (os:Os):World.variablesRefB Tryz.checked.prog ((World.doorLaid Tryz.prog 1500 os).forCall (fun _ _=>0) { blocks:=#[],args:=#[] })=true:=by kernel_rfl
end Go.Proofs.YthggaoedidfpcaaGreatDoor
