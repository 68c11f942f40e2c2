/- Texts of this claim, joined: RmC. -/
import Derived.Test.YthggaoedidfpcaaGreatDoorM10
set_option linter.unusedVariables false
set_option linter.unusedSimpArgs false
namespace Go.Proofs.YthggaoedidfpcaaGreatDoor
open Go Go.ChangeShapes Go.RowKit
set_option maxRecDepth 100000
theorem met3 (os:Os)(args:Array Value):(List.filter (fun x=>x.2.handleName?.isSome && x.2.funcsIn?.isNone) Rows.compileKnownRow.laid).all (handleAtB Tryz.prog ((World.doorLaid Tryz.prog 1500 os).forCall (fun _ _=>0) ⟨#[],args,[]⟩).memory)=true:=by kernel_rfl
end Go.Proofs.YthggaoedidfpcaaGreatDoor
