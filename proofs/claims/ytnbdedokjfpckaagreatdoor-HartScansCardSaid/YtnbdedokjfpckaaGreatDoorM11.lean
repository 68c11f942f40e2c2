/- Texts of this claim, joined: Rm. -/
import Derived.Test.YtnbdedokjfpckaaGreatDoorM10
set_option linter.unusedVariables false
set_option linter.unusedSimpArgs false
namespace Go.Proofs.YtnbdedokjfpckaaGreatDoor
open Go Go.ChangeShapes Go.RowKit
set_option maxRecDepth 100000
noncomputable def w0 (os:Os):World:=
 { World.doorLaid Tryz.prog 1500 os with heap:=(World.doorLaid Tryz.prog 1500 os).heap.modify 2 fun
  | .cells _ t frozen=>.cells (Go.Pinned.utf8FirstZ.map fun(z:Nat)=>Value.int .u8 (z:Int)).toArray t frozen
  | o=>o }
theorem laid_met (os:Os)(args:Array Value):laidMetH Tryz.prog Rows.hartCountsRow.laid ((w0 os).forCall (fun _ _=>0) ⟨#[],args,[]⟩).memory:=
 laidMet_of_run' 8 (by kernel_rfl) (by kernel_rfl)
theorem Il {W:World} (h:laidMetH Tryz.prog Rows.hartCountsRow.laid W):Start W:=
 Pq (show laidMet Tryz.prog Rows.hartCountsRow.laid W from h) (by simp [Rows.hartCountsRow]) (by simp [Rows.hartCountsRow]) (by simp [Rows.hartCountsRow])
end Go.Proofs.YtnbdedokjfpckaaGreatDoor
