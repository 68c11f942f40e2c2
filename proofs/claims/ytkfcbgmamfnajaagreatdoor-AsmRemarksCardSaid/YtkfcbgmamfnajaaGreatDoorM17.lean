/- A world that meets the rows' condition on the package-level variables. -/
import Derived.Test.YtkfcbgmamfnajaaGreatDoorM16
set_option linter.unusedVariables false
set_option linter.unusedSimpArgs false
namespace Go.Proofs.YtkfcbgmamfnajaaGreatDoor
open Go Go.ChangeShapes Go.RowKit
set_option maxRecDepth 100000
/-- The start of the witness: what the door's run leaves, the pinned table laid beside it. -/
noncomputable def w0 (os : Os) : World :=
  { World.doorLaid Tryz.prog 1500 os with heap := (World.doorLaid Tryz.prog 1500 os).heap.modify 4 fun
      | .cells _ t frozen => .cells (Go.Pinned.utf8FirstZ.map fun (z : Nat) => Value.int .u8 (z : Int)).toArray t frozen
      | o => o }
theorem lines_met (os : Os) (args : Array Value) : laidMetH Tryz.prog Rows.asmLinesUptoRow.laid ((w0 os).forCall (fun _ _ => 0) ⟨#[], args, []⟩).memory :=
  laidMet_of_run' 8 (by kernel_rfl) (by kernel_rfl)
end Go.Proofs.YtkfcbgmamfnajaaGreatDoor
