/- A world that meets the rows' condition on the package-level variables. -/
import Derived.Test.YtjphfiieapclhaaDoorRdB
namespace Go.Proofs.YtjphfiieapclhaaDoor
open Go Go.ChangeShapes Go.RowKit
set_option maxRecDepth 100000

theorem keys_met (os : Os) (args : Array Value) : laidMetH Tryd.prog Rows.lexKeysRow.laid ((World.doorLaid Tryd.prog 400 os).forCall (fun _ _ => 0) ⟨#[], args, []⟩).memory :=
  laidMetH_of_parts3 (fuel := 8) (laidMet_of_run' 8 (by kernel_rfl) (by kernel_rfl)) (by kernel_rfl) (by kernel_rfl)
end Go.Proofs.YtjphfiieapclhaaDoor
