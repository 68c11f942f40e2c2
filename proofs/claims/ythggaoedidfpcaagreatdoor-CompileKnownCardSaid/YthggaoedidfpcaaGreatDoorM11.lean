/- Texts of this claim, joined: RmA. -/
import Derived.Test.YthggaoedidfpcaaGreatDoorM10
set_option linter.unusedVariables false
set_option linter.unusedSimpArgs false
namespace Go.Proofs.YthggaoedidfpcaaGreatDoor
open Go Go.ChangeShapes Go.RowKit
set_option maxRecDepth 100000
theorem met1 (os:Os)(args:Array Value):(DataW.laidRun Tryz.prog ((World.doorLaid Tryz.prog 1500 os).forCall (fun _ _=>0) ⟨#[],args,[]⟩).memory 8 ((List.filter (fun x=>x.2.handleName?.isNone) Rows.compileKnownRow.laid).map (·.1))).map (·.1)=some (List.filter (fun x=>x.2.handleName?.isNone) Rows.compileKnownRow.laid):=by kernel_rfl
end Go.Proofs.YthggaoedidfpcaaGreatDoor
