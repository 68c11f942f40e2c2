/- Texts of this claim, joined: KwB. -/
import Derived.Test.YthggaoedidfpcaaGreatDoorM10
import Derived.Test.YthggaoedidfpcaaGreatDoorTie
import Derived.SevenTiedAt
set_option linter.unusedVariables false
set_option linter.unusedSimpArgs false
namespace Go.Proofs.YthggaoedidfpcaaGreatDoor
open Go Go.ChangeShapes Go.WideShapes Go.ChangeAt Go.ChangeMaps Go.RowKit
set_option maxRecDepth 100000
theorem kw3 (os:Os):List.take ((begin Tryz.checked.prog (fun _ _=>0) default).world.heap.size - Tryz.checked.prog.globals.size) (List.drop Tryz.checked.prog.globals.size ((World.doorLaid Tryz.prog 1500 os).forCall (fun _ _=>0) { blocks:=#[],args:=#[] }).heap.toList)=List.drop Tryz.checked.prog.globals.size (begin Tryz.checked.prog (fun _ _=>0) default).world.heap.toList:=by kernel_rfl
end Go.Proofs.YthggaoedidfpcaaGreatDoor
