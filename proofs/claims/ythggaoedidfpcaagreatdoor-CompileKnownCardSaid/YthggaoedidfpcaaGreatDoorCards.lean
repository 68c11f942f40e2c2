/-
  DERIVED. GIVEN WITH THE SEED: THE CARDS: each row of YthggaoedidfpcaaGreatDoorRows.lean that lists a variable, with what it lists TIED to the program's text (the seventh form; the later family's looks); each row that meets fmt, with fmt's text TOLD by the authors' own Lean function (tested against real Go, not proved from fmt's source: count such statements apart). THE CARD IS WHAT COUNTS. Prove the row's statement (the work); the ties are given (YthggaoedidfpcaaGreatDoorTie.lean); close each card by the builder's one call (the guide's Derived/Test/ToyasCard.lean, 'card_holds'). Laid BY PROGRAM, IN A SANDBOX (cutbox-door.mjs). By AI agents, Wed Nov 11 2026. No macro, syntax, notation, axiom, sorry.
-/
import Derived.Test.YthggaoedidfpcaaGreatDoorRows
import GoSem.ClaimSeven
namespace Go.Proofs.YthggaoedidfpcaaGreatDoor
namespace Rows

/-- THE TIED CARD OF 'fallowlaw27.CompileKnown'. -/
def compileKnownCard : Claim7 := { stood := { row := compileKnownRow, standIns := [], harness := (true, "821812468222e1213fdd9f6bc35effb63d7697be44f20163695326b99262b6d2"), looks := true }, kinds := [], alts := [], laidByText := true, laidKinds := [.data, .data, .data, .handle, .sentinel, .sentinel, .data, .listed, .data], laidTests := true, laidLooks := .later }
def CompileKnownCardSaid : Prop := Claim7.holds Tryz.pinned (.plain (OpenSpec.ofChange compileKnownSpec)) compileKnownCard

/-- THE SECOND FORM's CARD OF 'fallowlaw27.CompileKnown'. -/
def compileKnownUptoCard : Claim7 := { stood := { row := compileKnownUptoRow, standIns := [], harness := (true, "821812468222e1213fdd9f6bc35effb63d7697be44f20163695326b99262b6d2"), looks := true }, kinds := [], alts := [], laidByText := true, laidKinds := [.data, .data, .data, .handle, .sentinel, .sentinel, .data, .listed, .data], laidTests := true, laidLooks := .later }
def CompileKnownUptoCardSaid : Prop := Claim7.holds Tryz.pinned (.plain (OpenSpec.upto compileKnownSpec)) compileKnownUptoCard
end Rows
end Go.Proofs.YthggaoedidfpcaaGreatDoor
