/-
  DERIVED. GIVEN WITH THE SEED: THE CARDS: each row of YtnbdedokjfpckaaGreatDoorRows.lean that lists a variable, with what it lists TIED to the program's text (the seventh form; the later family's looks); each row that meets fmt, with fmt's text TOLD by the authors' own Lean function (tested against real Go, not proved from fmt's source: count such statements apart). THE CARD IS WHAT COUNTS. Prove the row's statement (the work); the ties are given (YtnbdedokjfpckaaGreatDoorTie.lean); close each card by the builder's one call (the guide's Derived/Test/ToyasCard.lean, 'card_holds'). Laid BY PROGRAM, IN A SANDBOX (cutbox-door.mjs). By AI agents, Wed Nov 11 2026. No macro, syntax, notation, axiom, sorry.
-/
import Derived.Test.YtnbdedokjfpckaaGreatDoorRows
import GoSem.ClaimSeven
namespace Go.Proofs.YtnbdedokjfpckaaGreatDoor
namespace Rows

/-- THE TIED CARD OF 'fallowlaw28.HartCounts'. -/
def hartCountsCard : Claim7 := { stood := { row := hartCountsRow, standIns := [], harness := (true, "44de0674d937870543f6c338b5e132a69b5694a812bc896de138d79231795445"), looks := true }, kinds := [], alts := [], laidByText := true, laidKinds := [.data, .data, .data, .data, .sentinel, .sentinel, .data, .pinned], laidTests := true, laidLooks := .later }
def HartCountsCardSaid : Prop := Claim7.holds Tryz.pinned (.plain (OpenSpec.ofChange hartCountsSpec)) hartCountsCard

/-- THE TIED CARD OF 'fallowlaw28.HartNeeds'. -/
def hartNeedsCard : Claim7 := { stood := { row := hartNeedsRow, standIns := [], harness := (true, "44de0674d937870543f6c338b5e132a69b5694a812bc896de138d79231795445"), looks := true }, kinds := [], alts := [], laidByText := true, laidKinds := [.data, .data, .data, .data, .sentinel, .sentinel, .data, .pinned], laidTests := true, laidLooks := .later }
def HartNeedsCardSaid : Prop := Claim7.holds Tryz.pinned (.plain (OpenSpec.ofChange hartNeedsSpec)) hartNeedsCard

/-- THE TIED CARD OF 'fallowlaw28.HartScans'. -/
def hartScansCard : Claim7 := { stood := { row := hartScansRow, standIns := [], harness := (true, "44de0674d937870543f6c338b5e132a69b5694a812bc896de138d79231795445"), looks := true }, kinds := [], alts := [], laidByText := true, laidKinds := [.data, .data, .data, .data, .sentinel, .sentinel, .data, .pinned], laidTests := true, laidLooks := .later }
def HartScansCardSaid : Prop := Claim7.holds Tryz.pinned (.plain (OpenSpec.ofChange hartScansSpec)) hartScansCard

/-- THE TIED CARD OF 'fallowlaw28.HartKnown'. -/
def hartKnownCard : Claim7 := { stood := { row := hartKnownRow, standIns := [], harness := (true, "44de0674d937870543f6c338b5e132a69b5694a812bc896de138d79231795445"), looks := true }, kinds := [], alts := [], laidByText := true, laidKinds := [.data, .data, .data, .data, .sentinel, .sentinel, .data, .pinned], laidTests := true, laidLooks := .later }
def HartKnownCardSaid : Prop := Claim7.holds Tryz.pinned (.plain (OpenSpec.ofChange hartKnownSpec)) hartKnownCard

/-- THE SECOND FORM's CARD OF 'fallowlaw28.HartCounts'. -/
def hartCountsUptoCard : Claim7 := { stood := { row := hartCountsUptoRow, standIns := [], harness := (true, "44de0674d937870543f6c338b5e132a69b5694a812bc896de138d79231795445"), looks := true }, kinds := [], alts := [], laidByText := true, laidKinds := [.data, .data, .data, .data, .sentinel, .sentinel, .data, .pinned], laidTests := true, laidLooks := .later }
def HartCountsUptoCardSaid : Prop := Claim7.holds Tryz.pinned (.plain (OpenSpec.upto hartCountsSpec)) hartCountsUptoCard

/-- THE SECOND FORM's CARD OF 'fallowlaw28.HartNeeds'. -/
def hartNeedsUptoCard : Claim7 := { stood := { row := hartNeedsUptoRow, standIns := [], harness := (true, "44de0674d937870543f6c338b5e132a69b5694a812bc896de138d79231795445"), looks := true }, kinds := [], alts := [], laidByText := true, laidKinds := [.data, .data, .data, .data, .sentinel, .sentinel, .data, .pinned], laidTests := true, laidLooks := .later }
def HartNeedsUptoCardSaid : Prop := Claim7.holds Tryz.pinned (.plain (OpenSpec.upto hartNeedsSpec)) hartNeedsUptoCard

/-- THE SECOND FORM's CARD OF 'fallowlaw28.HartScans'. -/
def hartScansUptoCard : Claim7 := { stood := { row := hartScansUptoRow, standIns := [], harness := (true, "44de0674d937870543f6c338b5e132a69b5694a812bc896de138d79231795445"), looks := true }, kinds := [], alts := [], laidByText := true, laidKinds := [.data, .data, .data, .data, .sentinel, .sentinel, .data, .pinned], laidTests := true, laidLooks := .later }
def HartScansUptoCardSaid : Prop := Claim7.holds Tryz.pinned (.plain (OpenSpec.upto hartScansSpec)) hartScansUptoCard

/-- THE SECOND FORM's CARD OF 'fallowlaw28.HartKnown'. -/
def hartKnownUptoCard : Claim7 := { stood := { row := hartKnownUptoRow, standIns := [], harness := (true, "44de0674d937870543f6c338b5e132a69b5694a812bc896de138d79231795445"), looks := true }, kinds := [], alts := [], laidByText := true, laidKinds := [.data, .data, .data, .data, .sentinel, .sentinel, .data, .pinned], laidTests := true, laidLooks := .later }
def HartKnownUptoCardSaid : Prop := Claim7.holds Tryz.pinned (.plain (OpenSpec.upto hartKnownSpec)) hartKnownUptoCard
end Rows
end Go.Proofs.YtnbdedokjfpckaaGreatDoor
