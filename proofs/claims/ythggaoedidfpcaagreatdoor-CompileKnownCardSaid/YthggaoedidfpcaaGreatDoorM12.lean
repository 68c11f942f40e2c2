/- Texts of this claim, joined: RmB. -/
import Derived.Test.YthggaoedidfpcaaGreatDoorM10
import Derived.LaidOnce
set_option linter.unusedVariables false
set_option linter.unusedSimpArgs false
namespace Go.Proofs.YthggaoedidfpcaaGreatDoor
open Go Go.ChangeShapes Go.RowKit
set_option maxRecDepth 100000
theorem met2a (os:Os)(args:Array Value):(DataW.laidRun Tryz.prog ((World.doorLaid Tryz.prog 1500 os).forCall (fun _ _=>0) ⟨#[],args,[]⟩).memory 8 ((List.filter (fun x=>x.2.handleName?.isNone) Rows.compileKnownRow.laid).map (·.1))).map (fun x=>nodupBits 1024 x.2 0)=some true:=by kernel_rfl
end Go.Proofs.YthggaoedidfpcaaGreatDoor
