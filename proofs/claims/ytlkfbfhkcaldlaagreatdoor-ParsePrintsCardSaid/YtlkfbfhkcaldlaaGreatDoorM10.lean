/- Texts of this claim, joined: Rm. -/
import Derived.Test.YtlkfbfhkcaldlaaGreatDoorM09
set_option linter.unusedVariables false
set_option linter.unusedSimpArgs false
namespace Go.Proofs.YtlkfbfhkcaldlaaGreatDoor
open Go Go.ChangeShapes Go.RowKit
set_option maxRecDepth 100000
theorem prints_met (os:Os)(args:Array Value):laidMetH Tryz.prog Rows.parsePrintsRow.laid ((World.doorLaid Tryz.prog 400 os).forCall (fun _ _=>0) ⟨#[],args,[]⟩).memory:=
 laidMetH_of_parts3 (fuel:=8) (laidMet_of_run' 8 (by kernel_rfl) (by kernel_rfl)) (by kernel_rfl) (by kernel_rfl)
end Go.Proofs.YtlkfbfhkcaldlaaGreatDoor
