/-
  NARROWER THAN 'FOR EVERY INPUT', by the rows' own cells (each row's printed sentence says how): HartCounts: laid · HartNeeds: laid · HartScans: laid · HartKnown: laid.
  DERIVED. THE GIVEN ROWS OF THIS SEAT. 4 by the template 'for every input the law returns true; each argument reads behind the call as it read before'; 0 by the template 'total and deterministic' (their statements: YtnbdedokjfpckaaGreatDoorTotals.lean).
  GIVEN WITH THE SEED: the statements are not yours to turn. If you find one false, say at which input.
  Laid BY PROGRAM, IN A SANDBOX (cutbox-rows.mjs): the forced cells as the released guide's own fill.sh prints them over the translation f05602590c5743d3… (all of the seat's roots in one cut). By AI agents, Wed Nov 11 2026. No macro, syntax, notation, axiom, sorry.
-/
import Derived.Test.YtnbdedokjfpckaaGreatDoorChecked
import GoSem.PinnedTables
import GoSem.Claim
import GoSem.ClaimJoined
import GoSem.ClaimMapViews
import Derived.JoinedTies
import Derived.KernelRfl
namespace Go.Proofs.YtnbdedokjfpckaaGreatDoor
/- THE CELL 'sum', in the pinned program and in every row, IS THE sha256 OF THE DUMP (.gsa) THAT YtnbdedokjfpckaaGreatDoorProg.lean LOADS. Nothing in Lean hashes anything: it is a label: what it is worth is what the hold of that sum in a sandbox is worth. -/
noncomputable def Tryz.pinned : Pinned := { name := "ytnbdedokjfpckaagreatdoor", sum := "f05602590c5743d319c389f80584c3599134cdf93668bbd19db36a80deb15d8d", checked := Tryz.checked }
namespace Rows
def none {H : Type} : Left H := { results := [], args := [] }

/- WHAT THE LISTED PACKAGE-LEVEL VARIABLES READ AS WHEN THE CALL BEGINS. Each datum BY PROGRAM (the guide's laid-datum.mjs) off the statement by which the dump's own 'gosem.cut.vars' lays the variable. In a bare row this is a premise. The card (YtnbdedokjfpckaaGreatDoorCards.lean) ties it to the program's text. -/
def laid_math_bits_deBruijn32tab {H : Type} : DataW H := .agg [.lit (.int .u8 0), .lit (.int .u8 1), .lit (.int .u8 28), .lit (.int .u8 2), .lit (.int .u8 29), .lit (.int .u8 14), .lit (.int .u8 24), .lit (.int .u8 3), .lit (.int .u8 30), .lit (.int .u8 22), .lit (.int .u8 20), .lit (.int .u8 15), .lit (.int .u8 25), .lit (.int .u8 17), .lit (.int .u8 4), .lit (.int .u8 8), .lit (.int .u8 31), .lit (.int .u8 27), .lit (.int .u8 13), .lit (.int .u8 23), .lit (.int .u8 21), .lit (.int .u8 19), .lit (.int .u8 16), .lit (.int .u8 7), .lit (.int .u8 26), .lit (.int .u8 12), .lit (.int .u8 18), .lit (.int .u8 6), .lit (.int .u8 11), .lit (.int .u8 5), .lit (.int .u8 10), .lit (.int .u8 9)]
def laid_math_bits_deBruijn64tab {H : Type} : DataW H := .agg [.lit (.int .u8 0), .lit (.int .u8 1), .lit (.int .u8 56), .lit (.int .u8 2), .lit (.int .u8 57), .lit (.int .u8 49), .lit (.int .u8 28), .lit (.int .u8 3), .lit (.int .u8 61), .lit (.int .u8 58), .lit (.int .u8 42), .lit (.int .u8 50), .lit (.int .u8 38), .lit (.int .u8 29), .lit (.int .u8 17), .lit (.int .u8 4), .lit (.int .u8 62), .lit (.int .u8 47), .lit (.int .u8 59), .lit (.int .u8 36), .lit (.int .u8 45), .lit (.int .u8 43), .lit (.int .u8 51), .lit (.int .u8 22), .lit (.int .u8 53), .lit (.int .u8 39), .lit (.int .u8 33), .lit (.int .u8 30), .lit (.int .u8 24), .lit (.int .u8 18), .lit (.int .u8 12), .lit (.int .u8 5), .lit (.int .u8 63), .lit (.int .u8 55), .lit (.int .u8 48), .lit (.int .u8 27), .lit (.int .u8 60), .lit (.int .u8 41), .lit (.int .u8 37), .lit (.int .u8 16), .lit (.int .u8 46), .lit (.int .u8 35), .lit (.int .u8 44), .lit (.int .u8 21), .lit (.int .u8 52), .lit (.int .u8 32), .lit (.int .u8 23), .lit (.int .u8 11), .lit (.int .u8 54), .lit (.int .u8 26), .lit (.int .u8 40), .lit (.int .u8 15), .lit (.int .u8 34), .lit (.int .u8 20), .lit (.int .u8 31), .lit (.int .u8 10), .lit (.int .u8 25), .lit (.int .u8 14), .lit (.int .u8 19), .lit (.int .u8 9), .lit (.int .u8 13), .lit (.int .u8 8), .lit (.int .u8 7), .lit (.int .u8 6)]
def laid_internal_strconv_uint64pow10 {H : Type} : DataW H := .agg [.lit (.int .u64 1), .lit (.int .u64 10), .lit (.int .u64 100), .lit (.int .u64 1000), .lit (.int .u64 10000), .lit (.int .u64 100000), .lit (.int .u64 1000000), .lit (.int .u64 10000000), .lit (.int .u64 100000000), .lit (.int .u64 1000000000), .lit (.int .u64 10000000000), .lit (.int .u64 100000000000), .lit (.int .u64 1000000000000), .lit (.int .u64 10000000000000), .lit (.int .u64 100000000000000), .lit (.int .u64 1000000000000000), .lit (.int .u64 10000000000000000), .lit (.int .u64 100000000000000000), .lit (.int .u64 1000000000000000000), .lit (.int .u64 10000000000000000000)]
def laid_unicode_utf8_acceptRanges {H : Type} : DataW H := .agg [.agg [.lit (.int .u8 128), .lit (.int .u8 191)], .agg [.lit (.int .u8 160), .lit (.int .u8 191)], .agg [.lit (.int .u8 128), .lit (.int .u8 159)], .agg [.lit (.int .u8 144), .lit (.int .u8 191)], .agg [.lit (.int .u8 128), .lit (.int .u8 143)], .agg [.lit (.int .u8 0), .lit (.int .u8 0)], .agg [.lit (.int .u8 0), .lit (.int .u8 0)], .agg [.lit (.int .u8 0), .lit (.int .u8 0)], .agg [.lit (.int .u8 0), .lit (.int .u8 0)], .agg [.lit (.int .u8 0), .lit (.int .u8 0)], .agg [.lit (.int .u8 0), .lit (.int .u8 0)], .agg [.lit (.int .u8 0), .lit (.int .u8 0)], .agg [.lit (.int .u8 0), .lit (.int .u8 0)], .agg [.lit (.int .u8 0), .lit (.int .u8 0)], .agg [.lit (.int .u8 0), .lit (.int .u8 0)], .agg [.lit (.int .u8 0), .lit (.int .u8 0)]]
def laid_strconv_ErrRange {H : Type} : DataW H := .iface "*errors.errorString" (.ptr (.agg [.lit (.string [118, 97, 108, 117, 101, 32, 111, 117, 116, 32, 111, 102, 32, 114, 97, 110, 103, 101])]))
def laid_strconv_ErrSyntax {H : Type} : DataW H := .iface "*errors.errorString" (.ptr (.agg [.lit (.string [105, 110, 118, 97, 108, 105, 100, 32, 115, 121, 110, 116, 97, 120])]))
def laid_fallow_isa_rows {H : Type} : DataW H := .agg [.agg [.lit (.string []), .lit (.string [])], .agg [.lit (.string [108, 105]), .lit (.string [97, 105])], .agg [.lit (.string [108, 117, 105]), .lit (.string [97, 106])], .agg [.lit (.string [97, 100, 100]), .lit (.string [97, 98, 99])], .agg [.lit (.string [115, 117, 98]), .lit (.string [97, 98, 99])], .agg [.lit (.string [109, 117, 108]), .lit (.string [97, 98, 99])], .agg [.lit (.string [100, 105, 118]), .lit (.string [97, 98, 99])], .agg [.lit (.string [114, 101, 109]), .lit (.string [97, 98, 99])], .agg [.lit (.string [97, 110, 100]), .lit (.string [97, 98, 99])], .agg [.lit (.string [111, 114]), .lit (.string [97, 98, 99])], .agg [.lit (.string [120, 111, 114]), .lit (.string [97, 98, 99])], .agg [.lit (.string [115, 104, 108]), .lit (.string [97, 98, 99])], .agg [.lit (.string [115, 104, 114]), .lit (.string [97, 98, 99])], .agg [.lit (.string [108, 116]), .lit (.string [97, 98, 99])], .agg [.lit (.string [108, 116, 117]), .lit (.string [97, 98, 99])], .agg [.lit (.string [101, 113]), .lit (.string [97, 98, 99])], .agg [.lit (.string [97, 100, 100, 105]), .lit (.string [97, 98, 105])], .agg [.lit (.string [108, 98]), .lit (.string [97, 98, 105])], .agg [.lit (.string [108, 104]), .lit (.string [97, 98, 105])], .agg [.lit (.string [108, 119]), .lit (.string [97, 98, 105])], .agg [.lit (.string [115, 98]), .lit (.string [97, 98, 105])], .agg [.lit (.string [115, 104]), .lit (.string [97, 98, 105])], .agg [.lit (.string [115, 119]), .lit (.string [97, 98, 105])], .agg [.lit (.string [108, 99]), .lit (.string [97, 98, 105])], .agg [.lit (.string [115, 99]), .lit (.string [97, 98, 105])], .agg [.lit (.string [98, 101, 113]), .lit (.string [97, 98, 105])], .agg [.lit (.string [98, 110, 101]), .lit (.string [97, 98, 105])], .agg [.lit (.string [98, 108, 116]), .lit (.string [97, 98, 105])], .agg [.lit (.string [98, 103, 101]), .lit (.string [97, 98, 105])], .agg [.lit (.string [106, 97, 108]), .lit (.string [97, 106])], .agg [.lit (.string [106, 97, 108, 114]), .lit (.string [97, 98])], .agg [.lit (.string [109, 111, 118, 101]), .lit (.string [97, 98])], .agg [.lit (.string [105, 110, 99]), .lit (.string [97, 98, 99])], .agg [.lit (.string [105, 110, 99, 105]), .lit (.string [97, 98, 105])], .agg [.lit (.string [97, 100, 100, 114]), .lit (.string [97, 98, 99])], .agg [.lit (.string [115, 101, 116]), .lit (.string [97, 98, 99])], .agg [.lit (.string [101, 120, 97, 99, 116]), .lit (.string [97, 98, 99])], .agg [.lit (.string [97, 110, 100, 115]), .lit (.string [97, 98, 99])], .agg [.lit (.string [115, 101, 97, 108]), .lit (.string [97, 98, 99])], .agg [.lit (.string [111, 112, 101, 110]), .lit (.string [97, 98, 99])], .agg [.lit (.string [98, 117, 105, 108, 100]), .lit (.string [97, 98, 99])], .agg [.lit (.string [99, 108, 101, 97, 114]), .lit (.string [97, 98])], .agg [.lit (.string [103, 97, 100, 100, 114]), .lit (.string [97, 98])], .agg [.lit (.string [103, 98, 97, 115, 101]), .lit (.string [97, 98])], .agg [.lit (.string [103, 108, 101, 110]), .lit (.string [97, 98])], .agg [.lit (.string [103, 112, 101, 114, 109]), .lit (.string [97, 98])], .agg [.lit (.string [103, 116, 121, 112, 101]), .lit (.string [97, 98])], .agg [.lit (.string [103, 116, 97, 103]), .lit (.string [97, 98])], .agg [.lit (.string [105, 115, 105, 110, 116]), .lit (.string [97, 98])], .agg [.lit (.string [112, 99]), .lit (.string [97, 106])], .agg [.lit (.string [99, 97, 108, 108]), .lit (.string [97, 98])], .agg [.lit (.string [114, 101, 116]), .lit (.string [])], .agg [.lit (.string [101, 99, 97, 108, 108]), .lit (.string [105])], .agg [.lit (.string [116, 114, 97, 112]), .lit (.string [])]]
/-- One of Go's own tables, pinned by name: the form's constant. -/
def laid_unicode_utf8_first : DataW Unit := Go.Pinned.utf8First

/-- 'fallowlaw28.HartCounts': WHATEVER THE INPUT: true; the input reads as it did. -/
def hartCountsSpec : ChangeSpec := { name := "hartCounts", fn := fun _ => fun
  | [d] => { results := [.lit (.bool true)], args := [d] }
  | _ => none }
def hartCountsRow : OpenClaim := { program := "ytnbdedokjfpckaagreatdoor", sum := "f05602590c5743d319c389f80584c3599134cdf93668bbd19db36a80deb15d8d", func := "fallow/fallowlaw28.HartCounts", spec := "hartCounts", inPlace := ["internal/bytealg.IndexByteString", "internal/bytealg.IndexString", "internal/bytealg.CountString"], unfollowed := true, recurses := true, named := ["unicode/utf8.first", "unicode/utf8.acceptRanges", "internal/bytealg.MaxLen", "strconv.ErrSyntax", "strconv.ErrRange", "internal/strconv.uint64pow10", "math/bits.deBruijn32tab", "math/bits.deBruijn64tab", "fallow/isa.rows"], apart := false, laid := [("math/bits.deBruijn32tab", laid_math_bits_deBruijn32tab), ("math/bits.deBruijn64tab", laid_math_bits_deBruijn64tab), ("internal/strconv.uint64pow10", laid_internal_strconv_uint64pow10), ("unicode/utf8.acceptRanges", laid_unicode_utf8_acceptRanges), ("strconv.ErrRange", laid_strconv_ErrRange), ("strconv.ErrSyntax", laid_strconv_ErrSyntax), ("fallow/isa.rows", laid_fallow_isa_rows), ("unicode/utf8.first", laid_unicode_utf8_first)] }
def HartCountsSaid : Prop := hartCountsRow.holds Tryz.pinned (OpenSpec.ofChange hartCountsSpec)

/-- ITS FALSE NEIGHBOUR: 'it returns false'. Refute it at one input. -/
def hartCountsWrong : ChangeSpec := { name := "hartCounts", fn := fun _ => fun
  | [d] => { results := [.lit (.bool false)], args := [d] }
  | _ => none }
def HartCountsWrongFalsely : Prop := hartCountsRow.holds Tryz.pinned (OpenSpec.ofChange hartCountsWrong)

/-- 'fallowlaw28.HartNeeds': WHATEVER THE INPUT: true; the input reads as it did. -/
def hartNeedsSpec : ChangeSpec := { name := "hartNeeds", fn := fun _ => fun
  | [d1, d2] => { results := [.lit (.bool true)], args := [d1, d2] }
  | _ => none }
def hartNeedsRow : OpenClaim := { program := "ytnbdedokjfpckaagreatdoor", sum := "f05602590c5743d319c389f80584c3599134cdf93668bbd19db36a80deb15d8d", func := "fallow/fallowlaw28.HartNeeds", spec := "hartNeeds", inPlace := ["internal/bytealg.IndexByteString", "internal/bytealg.IndexString", "internal/bytealg.CountString"], unfollowed := true, recurses := true, named := ["unicode/utf8.first", "unicode/utf8.acceptRanges", "internal/bytealg.MaxLen", "strconv.ErrSyntax", "strconv.ErrRange", "internal/strconv.uint64pow10", "math/bits.deBruijn32tab", "math/bits.deBruijn64tab", "fallow/isa.rows"], apart := false, laid := [("math/bits.deBruijn32tab", laid_math_bits_deBruijn32tab), ("math/bits.deBruijn64tab", laid_math_bits_deBruijn64tab), ("internal/strconv.uint64pow10", laid_internal_strconv_uint64pow10), ("unicode/utf8.acceptRanges", laid_unicode_utf8_acceptRanges), ("strconv.ErrRange", laid_strconv_ErrRange), ("strconv.ErrSyntax", laid_strconv_ErrSyntax), ("fallow/isa.rows", laid_fallow_isa_rows), ("unicode/utf8.first", laid_unicode_utf8_first)] }
def HartNeedsSaid : Prop := hartNeedsRow.holds Tryz.pinned (OpenSpec.ofChange hartNeedsSpec)

/-- ITS FALSE NEIGHBOUR: 'it returns false'. Refute it at one input. -/
def hartNeedsWrong : ChangeSpec := { name := "hartNeeds", fn := fun _ => fun
  | [d1, d2] => { results := [.lit (.bool false)], args := [d1, d2] }
  | _ => none }
def HartNeedsWrongFalsely : Prop := hartNeedsRow.holds Tryz.pinned (OpenSpec.ofChange hartNeedsWrong)

/-- 'fallowlaw28.HartScans': WHATEVER THE INPUT: true; the input reads as it did. -/
def hartScansSpec : ChangeSpec := { name := "hartScans", fn := fun _ => fun
  | [d1, d2] => { results := [.lit (.bool true)], args := [d1, d2] }
  | _ => none }
def hartScansRow : OpenClaim := { program := "ytnbdedokjfpckaagreatdoor", sum := "f05602590c5743d319c389f80584c3599134cdf93668bbd19db36a80deb15d8d", func := "fallow/fallowlaw28.HartScans", spec := "hartScans", inPlace := ["internal/bytealg.IndexByteString", "internal/bytealg.IndexString", "internal/bytealg.CountString"], unfollowed := true, recurses := true, named := ["unicode/utf8.first", "unicode/utf8.acceptRanges", "internal/bytealg.MaxLen", "strconv.ErrSyntax", "strconv.ErrRange", "internal/strconv.uint64pow10", "math/bits.deBruijn32tab", "math/bits.deBruijn64tab", "fallow/isa.rows"], apart := false, laid := [("math/bits.deBruijn32tab", laid_math_bits_deBruijn32tab), ("math/bits.deBruijn64tab", laid_math_bits_deBruijn64tab), ("internal/strconv.uint64pow10", laid_internal_strconv_uint64pow10), ("unicode/utf8.acceptRanges", laid_unicode_utf8_acceptRanges), ("strconv.ErrRange", laid_strconv_ErrRange), ("strconv.ErrSyntax", laid_strconv_ErrSyntax), ("fallow/isa.rows", laid_fallow_isa_rows), ("unicode/utf8.first", laid_unicode_utf8_first)] }
def HartScansSaid : Prop := hartScansRow.holds Tryz.pinned (OpenSpec.ofChange hartScansSpec)

/-- ITS FALSE NEIGHBOUR: 'it returns false'. Refute it at one input. -/
def hartScansWrong : ChangeSpec := { name := "hartScans", fn := fun _ => fun
  | [d1, d2] => { results := [.lit (.bool false)], args := [d1, d2] }
  | _ => none }
def HartScansWrongFalsely : Prop := hartScansRow.holds Tryz.pinned (OpenSpec.ofChange hartScansWrong)

/-- 'fallowlaw28.HartKnown': WHATEVER THE INPUT: true; the input reads as it did. -/
def hartKnownSpec : ChangeSpec := { name := "hartKnown", fn := fun _ => fun
  | [] => { results := [.lit (.bool true)], args := [] }
  | _ => none }
def hartKnownRow : OpenClaim := { program := "ytnbdedokjfpckaagreatdoor", sum := "f05602590c5743d319c389f80584c3599134cdf93668bbd19db36a80deb15d8d", func := "fallow/fallowlaw28.HartKnown", spec := "hartKnown", inPlace := ["internal/bytealg.IndexByteString", "internal/bytealg.IndexString", "internal/bytealg.CountString"], unfollowed := true, recurses := true, named := ["unicode/utf8.first", "unicode/utf8.acceptRanges", "internal/bytealg.MaxLen", "strconv.ErrSyntax", "strconv.ErrRange", "internal/strconv.uint64pow10", "math/bits.deBruijn32tab", "math/bits.deBruijn64tab", "fallow/isa.rows"], apart := false, laid := [("math/bits.deBruijn32tab", laid_math_bits_deBruijn32tab), ("math/bits.deBruijn64tab", laid_math_bits_deBruijn64tab), ("internal/strconv.uint64pow10", laid_internal_strconv_uint64pow10), ("unicode/utf8.acceptRanges", laid_unicode_utf8_acceptRanges), ("strconv.ErrRange", laid_strconv_ErrRange), ("strconv.ErrSyntax", laid_strconv_ErrSyntax), ("fallow/isa.rows", laid_fallow_isa_rows), ("unicode/utf8.first", laid_unicode_utf8_first)] }
def HartKnownSaid : Prop := hartKnownRow.holds Tryz.pinned (OpenSpec.ofChange hartKnownSpec)

/-- ITS FALSE NEIGHBOUR: 'it returns false'. Refute it at one input. -/
def hartKnownWrong : ChangeSpec := { name := "hartKnown", fn := fun _ => fun
  | [] => { results := [.lit (.bool false)], args := [] }
  | _ => none }
def HartKnownWrongFalsely : Prop := hartKnownRow.holds Tryz.pinned (OpenSpec.ofChange hartKnownWrong)

/- THE SECOND FORM. 'bulk': how many values and letters a reading holds, each counted each time it is reached (what is shared counts as often as it is met; a slice's spare places count too). A statement '..UptoSaid' is the law's where the arguments, and the package variables that the reading takes, are together of bulk at most 1048576: NARROWER than '..Said'. Prove '..Said' where nothing that the law and all that it calls make is longer than what came in: it says more and counts as full. Else prove '..UptoSaid'. A law counts once. -/
mutual
def uptoBulk {H : Type} : DataW H → Nat
  | .lit (.string bytes) => bytes.length + 1
  | .lit _ => 1
  | .nil => 1
  | .ptr d => uptoBulk d + 1
  | .slice elems spare => uptoBulkAll elems + uptoBulkAll spare + 1
  | .agg parts => uptoBulkAll parts + 1
  | .iface _ d => uptoBulk d + 1
  | .map entries => uptoBulkEntries entries + 1
  | .held _ => 1
def uptoBulkAll {H : Type} : List (DataW H) → Nat
  | [] => 0
  | d :: r => uptoBulk d + uptoBulkAll r
def uptoBulkEntries {H : Type} : List (Lit × DataW H) → Nat
  | [] => 0
  | x :: r => uptoBulkEntry x + uptoBulkEntries r
def uptoBulkEntry {H : Type} : Lit × DataW H → Nat
  | (.string bytes, d) => bytes.length + uptoBulk d + 1
  | (_, d) => uptoBulk d + 1
 end
def uptoSmall : (H : Type) → List (DataW H) → Bool := fun _ ds => decide (uptoBulkAll ds ≤ 1048576)
def OpenSpec.upto (s : _root_.Go.ChangeSpec) : _root_.Go.OpenSpec := { _root_.Go.OpenSpec.ofChange s with cond := some uptoSmall }

/-- 'fallowlaw28.HartCounts', WHERE WHAT IT READS IS OF BULK AT MOST 1048576: true; the input reads as it did. -/
def hartCountsUptoRow : OpenClaim := { program := "ytnbdedokjfpckaagreatdoor", sum := "f05602590c5743d319c389f80584c3599134cdf93668bbd19db36a80deb15d8d", func := "fallow/fallowlaw28.HartCounts", spec := "hartCounts", inPlace := ["internal/bytealg.IndexByteString", "internal/bytealg.IndexString", "internal/bytealg.CountString"], unfollowed := true, recurses := true, named := ["unicode/utf8.first", "unicode/utf8.acceptRanges", "internal/bytealg.MaxLen", "strconv.ErrSyntax", "strconv.ErrRange", "internal/strconv.uint64pow10", "math/bits.deBruijn32tab", "math/bits.deBruijn64tab", "fallow/isa.rows"], apart := false, laid := [("math/bits.deBruijn32tab", laid_math_bits_deBruijn32tab), ("math/bits.deBruijn64tab", laid_math_bits_deBruijn64tab), ("internal/strconv.uint64pow10", laid_internal_strconv_uint64pow10), ("unicode/utf8.acceptRanges", laid_unicode_utf8_acceptRanges), ("strconv.ErrRange", laid_strconv_ErrRange), ("strconv.ErrSyntax", laid_strconv_ErrSyntax), ("fallow/isa.rows", laid_fallow_isa_rows), ("unicode/utf8.first", laid_unicode_utf8_first)], narrowed := true }
def HartCountsUptoSaid : Prop := hartCountsUptoRow.holds Tryz.pinned (OpenSpec.upto hartCountsSpec)

/-- 'fallowlaw28.HartNeeds', WHERE WHAT IT READS IS OF BULK AT MOST 1048576: true; the input reads as it did. -/
def hartNeedsUptoRow : OpenClaim := { program := "ytnbdedokjfpckaagreatdoor", sum := "f05602590c5743d319c389f80584c3599134cdf93668bbd19db36a80deb15d8d", func := "fallow/fallowlaw28.HartNeeds", spec := "hartNeeds", inPlace := ["internal/bytealg.IndexByteString", "internal/bytealg.IndexString", "internal/bytealg.CountString"], unfollowed := true, recurses := true, named := ["unicode/utf8.first", "unicode/utf8.acceptRanges", "internal/bytealg.MaxLen", "strconv.ErrSyntax", "strconv.ErrRange", "internal/strconv.uint64pow10", "math/bits.deBruijn32tab", "math/bits.deBruijn64tab", "fallow/isa.rows"], apart := false, laid := [("math/bits.deBruijn32tab", laid_math_bits_deBruijn32tab), ("math/bits.deBruijn64tab", laid_math_bits_deBruijn64tab), ("internal/strconv.uint64pow10", laid_internal_strconv_uint64pow10), ("unicode/utf8.acceptRanges", laid_unicode_utf8_acceptRanges), ("strconv.ErrRange", laid_strconv_ErrRange), ("strconv.ErrSyntax", laid_strconv_ErrSyntax), ("fallow/isa.rows", laid_fallow_isa_rows), ("unicode/utf8.first", laid_unicode_utf8_first)], narrowed := true }
def HartNeedsUptoSaid : Prop := hartNeedsUptoRow.holds Tryz.pinned (OpenSpec.upto hartNeedsSpec)

/-- 'fallowlaw28.HartScans', WHERE WHAT IT READS IS OF BULK AT MOST 1048576: true; the input reads as it did. -/
def hartScansUptoRow : OpenClaim := { program := "ytnbdedokjfpckaagreatdoor", sum := "f05602590c5743d319c389f80584c3599134cdf93668bbd19db36a80deb15d8d", func := "fallow/fallowlaw28.HartScans", spec := "hartScans", inPlace := ["internal/bytealg.IndexByteString", "internal/bytealg.IndexString", "internal/bytealg.CountString"], unfollowed := true, recurses := true, named := ["unicode/utf8.first", "unicode/utf8.acceptRanges", "internal/bytealg.MaxLen", "strconv.ErrSyntax", "strconv.ErrRange", "internal/strconv.uint64pow10", "math/bits.deBruijn32tab", "math/bits.deBruijn64tab", "fallow/isa.rows"], apart := false, laid := [("math/bits.deBruijn32tab", laid_math_bits_deBruijn32tab), ("math/bits.deBruijn64tab", laid_math_bits_deBruijn64tab), ("internal/strconv.uint64pow10", laid_internal_strconv_uint64pow10), ("unicode/utf8.acceptRanges", laid_unicode_utf8_acceptRanges), ("strconv.ErrRange", laid_strconv_ErrRange), ("strconv.ErrSyntax", laid_strconv_ErrSyntax), ("fallow/isa.rows", laid_fallow_isa_rows), ("unicode/utf8.first", laid_unicode_utf8_first)], narrowed := true }
def HartScansUptoSaid : Prop := hartScansUptoRow.holds Tryz.pinned (OpenSpec.upto hartScansSpec)

/-- 'fallowlaw28.HartKnown', WHERE WHAT IT READS IS OF BULK AT MOST 1048576: true; the input reads as it did. -/
def hartKnownUptoRow : OpenClaim := { program := "ytnbdedokjfpckaagreatdoor", sum := "f05602590c5743d319c389f80584c3599134cdf93668bbd19db36a80deb15d8d", func := "fallow/fallowlaw28.HartKnown", spec := "hartKnown", inPlace := ["internal/bytealg.IndexByteString", "internal/bytealg.IndexString", "internal/bytealg.CountString"], unfollowed := true, recurses := true, named := ["unicode/utf8.first", "unicode/utf8.acceptRanges", "internal/bytealg.MaxLen", "strconv.ErrSyntax", "strconv.ErrRange", "internal/strconv.uint64pow10", "math/bits.deBruijn32tab", "math/bits.deBruijn64tab", "fallow/isa.rows"], apart := false, laid := [("math/bits.deBruijn32tab", laid_math_bits_deBruijn32tab), ("math/bits.deBruijn64tab", laid_math_bits_deBruijn64tab), ("internal/strconv.uint64pow10", laid_internal_strconv_uint64pow10), ("unicode/utf8.acceptRanges", laid_unicode_utf8_acceptRanges), ("strconv.ErrRange", laid_strconv_ErrRange), ("strconv.ErrSyntax", laid_strconv_ErrSyntax), ("fallow/isa.rows", laid_fallow_isa_rows), ("unicode/utf8.first", laid_unicode_utf8_first)], narrowed := true }
def HartKnownUptoSaid : Prop := hartKnownUptoRow.holds Tryz.pinned (OpenSpec.upto hartKnownSpec)

end Rows
end Go.Proofs.YtnbdedokjfpckaaGreatDoor
