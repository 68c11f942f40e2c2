/- Texts of this claim, joined: Code, Ok. -/
import Derived.Test.YtkfcbgmamfnajaaGreatDoorM01
import Derived.Test.YtkfcbgmamfnajaaGreatDoorM02
import Derived.Test.YtkfcbgmamfnajaaGreatDoorProg
set_option linter.unusedVariables false
set_option linter.unusedSimpArgs false
/- The functions of this translation as code of the layer Abs: written by a program off the model's own form; held against it in Lean (okFn). -/
namespace Go.Abs.YtkfcbgmamfnajaaGreatDoor
/-- gosem.cut.init -/
def c2 : AC := (.reg [⟨some 0, none, .call (.c (.fn (.func 1) [] [])) []⟩])
def F2 : AF := ⟨1, [], c2⟩
/-- fallow/fallowlaw08.AsmLines -/
def c3 : AC := (.seq (.reg [⟨some 2, none, .mv (.c (.b false))⟩])
 (.seq (.cut [0] (.reg [⟨some 8, none, .mv (.t 0)⟩,
 ⟨some 9, none, .call (.c (.fn (.func 10) [] [])) [.t 8]⟩,
 ⟨some 7, none, .mv (.t 9)⟩,
 ⟨some 10, none, .ext (.t 7) 0⟩,
 ⟨some 11, none, .ext (.t 7) 1⟩,
 ⟨some 3, none, .mv (.t 10)⟩,
 ⟨some 4, none, .mv (.t 11)⟩]))
 (.seq (.cut [0, 3, 4] (.reg [⟨some 13, none, .mv (.t 0)⟩,
 ⟨some 14, none, .call (.c (.fn (.func 11) [] [])) [.t 13]⟩,
 ⟨some 12, none, .mv (.t 14)⟩,
 ⟨some 15, none, .ext (.t 12) 0⟩,
 ⟨some 16, none, .ext (.t 12) 1⟩,
 ⟨some 5, none, .mv (.t 15)⟩,
 ⟨some 6, none, .mv (.t 16)⟩]))
 (.seq (.cut [3, 4, 5, 6] (.reg [⟨some 17, none, .mv (.t 3)⟩,
 ⟨some 18, none, .mv (.t 5)⟩,
 ⟨some 19, none, .bin .eql 22 (.t 17) (.t 18)⟩,
 ⟨some 20, none, .mv (.t 19)⟩,
 ⟨some 21, some (20, true), .mv (.t 4)⟩,
 ⟨some 22, some (20, true), .mv (.t 6)⟩,
 ⟨some 23, some (20, true), .bin .eql 23 (.t 21) (.t 22)⟩,
 ⟨some 24, none, .pick (.t 20) (.t 23) (.c (.b false))⟩,
 ⟨some 25, none, .mv (.t 24)⟩,
 ⟨some 26, some (25, true), .call (.c (.fn (.func 12) [] [])) []⟩,
 ⟨some 27, none, .pick (.t 25) (.t 26) (.c (.b false))⟩,
 ⟨some 2, none, .mv (.t 27)⟩]))
 .ret))))
def F3 : AF := ⟨28, [.t 2], c3⟩
/-- fallow/fallowlaw08.AsmPrints -/
def c4L0 : AC := (.seq (.seq (.cut [0, 3] (.reg [⟨some 9, none, .mv (.t 3)⟩,
 ⟨some 10, none, .mv (.t 0)⟩,
 ⟨some 11, none, .len 28 (.t 10)⟩,
 ⟨some 12, none, .bin .lss 3 (.t 9) (.t 11)⟩]))
 (.cond (.t 12)
 .skip
 (.exit 0)))
 (.seq (.blk 1
 (.seq (.cut [0, 3] (.drw [(⟨some 15, none, .mv (.t 0)⟩, []),
 (⟨some 16, none, .mv (.t 3)⟩, []),
 (⟨some 17, none, .iad 28 (.t 15) (.t 16)⟩, []),
 (⟨some 18, none, .load 22 (.t 17)⟩, []),
 (⟨some 20, none, .mv (.t 0)⟩, []),
 (⟨some 21, none, .mv (.t 3)⟩, []),
 (⟨some 22, none, .iad 28 (.t 20) (.t 21)⟩, []),
 (⟨some 23, none, .load 22 (.t 22)⟩, []),
 (⟨some 19, none, .call (.c (.fn (.func 13) [] [])) [.t 18]⟩, [⟨some 23, none, .load 22 (.t 22)⟩]),
 (⟨some 24, none, .call (.c (.fn (.func 14) [] [])) [.t 23]⟩, []),
 (⟨some 25, none, .bin .neq 9 (.t 19) (.t 24)⟩, [])]))
 (.cond (.t 25)
 (.seq (.reg [⟨some 2, none, .mv (.c (.b false))⟩])
 .ret)
 .skip)))
 (.cut [0, 3] (.reg [⟨some 13, none, .mv (.t 3)⟩,
 ⟨some 14, none, .bin .add 3 (.t 13) (.c (.i .i64 1))⟩,
 ⟨some 3, none, .mv (.t 14)⟩]))))
def c4 : AC := (.seq (.reg [⟨some 2, none, .mv (.c (.b false))⟩])
 (.seq (.cut [0] (.reg [⟨some 4, none, .mv (.t 0)⟩,
 ⟨some 5, none, .mv (.t 0)⟩,
 ⟨some 6, none, .len 28 (.t 5)⟩,
 ⟨some 7, none, .mn false [.t 6, .c (.i .i64 100)]⟩,
 ⟨some 8, none, .slc 28 (.t 4) none (some (.t 7))⟩,
 ⟨some 0, none, .mv (.t 8)⟩]))
 (.seq (.seq (.reg [⟨some 3, none, .mv (.c (.i .i64 0))⟩])
 (.blk 0
 (.loop [0, 3] c4L0)))
 (.seq (.cut [0] (.reg [⟨some 26, none, .mv (.t 0)⟩,
 ⟨some 27, none, .call (.c (.fn (.func 15) [] [])) [.t 26]⟩,
 ⟨some 28, none, .mv (.t 0)⟩,
 ⟨some 29, none, .call (.c (.fn (.func 16) [] [])) [.t 28]⟩,
 ⟨some 30, none, .bin .eql 9 (.t 27) (.t 29)⟩,
 ⟨some 31, none, .mv (.t 30)⟩,
 ⟨some 32, some (31, true), .call (.c (.fn (.func 12) [] [])) []⟩,
 ⟨some 33, none, .pick (.t 31) (.t 32) (.c (.b false))⟩,
 ⟨some 2, none, .mv (.t 33)⟩]))
 .ret))))
def F4 : AF := ⟨34, [.t 2], c4⟩
/-- fallow/fallowlaw08.AsmBack -/
def c5L0 : AC := (.seq (.seq (.cut [0, 1, 5] (.reg [⟨some 19, none, .mv (.t 5)⟩,
 ⟨some 20, none, .mv (.t 0)⟩,
 ⟨some 21, none, .len 28 (.t 20)⟩,
 ⟨some 22, none, .bin .lss 3 (.t 19) (.t 21)⟩]))
 (.cond (.t 22)
 .skip
 (.exit 0)))
 (.seq (.blk 1
 (.seq (.cut [0, 1, 5] (.reg [⟨some 26, none, .mv (.t 0)⟩,
 ⟨some 27, none, .mv (.t 5)⟩,
 ⟨some 28, none, .iad 28 (.t 26) (.t 27)⟩,
 ⟨some 29, none, .load 22 (.t 28)⟩,
 ⟨some 30, none, .call (.c (.fn (.func 13) [] [])) [.t 29]⟩,
 ⟨some 31, none, .call (.c (.fn (.func 10) [] [])) [.t 30]⟩,
 ⟨some 25, none, .mv (.t 31)⟩,
 ⟨some 32, none, .ext (.t 25) 0⟩,
 ⟨some 33, none, .ext (.t 25) 1⟩,
 ⟨some 6, none, .mv (.t 32)⟩,
 ⟨some 7, none, .mv (.t 33)⟩]))
 (.seq (.cut [0, 1, 5, 6, 7] (.reg [⟨some 34, none, .mv (.t 7)⟩,
 ⟨some 35, none, .bin .neq 23 (.t 34) (.c (.i .i64 0))⟩,
 ⟨some 36, none, .mv (.t 35)⟩,
 ⟨some 37, some (36, false), .mv (.t 6)⟩,
 ⟨some 38, some (36, false), .mv (.t 0)⟩,
 ⟨some 39, some (36, false), .mv (.t 5)⟩,
 ⟨some 40, some (36, false), .iad 28 (.t 38) (.t 39)⟩,
 ⟨some 41, some (36, false), .load 22 (.t 40)⟩,
 ⟨some 42, some (36, false), .bin .neq 22 (.t 37) (.t 41)⟩,
 ⟨some 43, none, .pick (.t 36) (.c (.b true)) (.t 42)⟩]))
 (.cond (.t 43)
 (.seq (.reg [⟨some 4, none, .mv (.c (.b false))⟩])
 .ret)
 .skip))))
 (.cut [0, 1, 5] (.reg [⟨some 23, none, .mv (.t 5)⟩,
 ⟨some 24, none, .bin .add 3 (.t 23) (.c (.i .i64 1))⟩,
 ⟨some 5, none, .mv (.t 24)⟩]))))
def c5 : AC := (.seq (.reg [⟨some 4, none, .mv (.c (.b false))⟩])
 (.seq (.seq (.reg [⟨some 12, none, .call (.c (.fn (.func 12) [] [])) []⟩,
 ⟨some 13, none, .un .not (.t 12)⟩])
 (.cond (.t 13)
 (.seq (.reg [⟨some 4, none, .mv (.c (.b false))⟩])
 .ret)
 .skip))
 (.seq (.cut [0, 1] (.reg [⟨some 14, none, .mv (.t 0)⟩,
 ⟨some 15, none, .mv (.t 0)⟩,
 ⟨some 16, none, .len 28 (.t 15)⟩,
 ⟨some 17, none, .mn false [.t 16, .c (.i .i64 100)]⟩,
 ⟨some 18, none, .slc 28 (.t 14) none (some (.t 17))⟩,
 ⟨some 0, none, .mv (.t 18)⟩]))
 (.seq (.seq (.reg [⟨some 5, none, .mv (.c (.i .i64 0))⟩])
 (.blk 0
 (.loop [0, 1, 5] c5L0)))
 (.cut [1000000, 0, 1] (.seq (.cut [0, 1] (.reg [⟨some 45, none, .mv (.t 0)⟩,
 ⟨some 46, none, .call (.c (.fn (.func 15) [] [])) [.t 45]⟩,
 ⟨some 47, none, .call (.c (.fn (.func 17) [] [])) [.t 46]⟩,
 ⟨some 44, none, .mv (.t 47)⟩,
 ⟨some 48, none, .ext (.t 44) 0⟩,
 ⟨some 49, none, .ext (.t 44) 1⟩,
 ⟨some 8, none, .mv (.t 48)⟩,
 ⟨some 9, none, .mv (.t 49)⟩]))
 (.seq (.seq (.cut [0, 1, 8, 9] (.reg [⟨some 50, none, .mv (.t 9)⟩,
 ⟨some 51, none, .bin .neq 33 (.t 50) (.c (.ic0))⟩,
 ⟨some 52, none, .mv (.t 51)⟩,
 ⟨some 53, some (52, false), .mv (.t 8)⟩,
 ⟨some 54, some (52, false), .mv (.t 0)⟩,
 ⟨some 55, some (52, false), .call (.c (.fn (.func 18) [] [])) [.t 53, .t 54]⟩,
 ⟨some 56, some (52, false), .un .not (.t 55)⟩,
 ⟨some 57, none, .pick (.t 52) (.c (.b true)) (.t 56)⟩]))
 (.cond (.t 57)
 (.seq (.reg [⟨some 4, none, .mv (.c (.b false))⟩])
 .ret)
 .skip))
 (.seq (.cut [1] (.reg [⟨some 59, none, .mv (.t 1)⟩,
 ⟨some 60, none, .call (.c (.fn (.func 10) [] [])) [.t 59]⟩,
 ⟨some 58, none, .mv (.t 60)⟩,
 ⟨some 61, none, .ext (.t 58) 0⟩,
 ⟨some 62, none, .ext (.t 58) 1⟩,
 ⟨some 10, none, .mv (.t 61)⟩,
 ⟨some 11, none, .mv (.t 62)⟩]))
 (.cut [1000000, 1, 10, 11] (.seq (.cut [1, 10, 11] (.reg [⟨some 63, none, .mv (.t 11)⟩,
 ⟨some 64, none, .bin .eql 23 (.t 63) (.c (.i .i64 4))⟩,
 ⟨some 65, none, .mv (.t 64)⟩,
 ⟨some 66, some (65, true), .mv (.t 10)⟩,
 ⟨some 67, some (65, true), .bin .eql 22 (.t 66) (.c (.i .u32 0))⟩,
 ⟨some 68, none, .pick (.t 65) (.t 67) (.c (.b false))⟩,
 ⟨some 69, none, .mv (.t 68)⟩,
 ⟨some 70, some (69, false), .mv (.t 11)⟩,
 ⟨some 71, some (69, false), .bin .eql 23 (.t 70) (.c (.i .i64 0))⟩,
 ⟨some 72, some (69, false), .mv (.t 71)⟩,
 ⟨some 73, some (72, true), .mv (.t 10)⟩,
 ⟨some 74, some (72, true), .call (.c (.fn (.func 13) [] [])) [.t 73]⟩,
 ⟨some 75, some (72, true), .mv (.t 1)⟩,
 ⟨some 76, some (72, true), .bin .eql 9 (.t 74) (.t 75)⟩,
 ⟨some 77, some (69, false), .pick (.t 72) (.t 76) (.c (.b false))⟩,
 ⟨some 78, none, .pick (.t 69) (.c (.b true)) (.t 77)⟩,
 ⟨some 4, none, .mv (.t 78)⟩]))
 .ret))))))))))
def F5 : AF := ⟨79, [.t 4], c5⟩
/-- fallow/fallowlaw08.AsmRemarks -/
def c6L0 : AC := (.seq (.seq (.cut [0, 1, 2, 7, 8] (.reg [⟨some 27, none, .mv (.t 8)⟩,
 ⟨some 28, none, .mv (.t 0)⟩,
 ⟨some 29, none, .len 28 (.t 28)⟩,
 ⟨some 30, none, .bin .lss 3 (.t 27) (.t 29)⟩]))
 (.cond (.t 30)
 .skip
 (.exit 0)))
 (.seq (.blk 1
 (.seq (.cut [0, 1, 2, 7, 8] (.reg [⟨some 33, none, .mv (.t 0)⟩,
 ⟨some 34, none, .mv (.t 8)⟩,
 ⟨some 35, none, .iad 28 (.t 33) (.t 34)⟩,
 ⟨some 36, none, .load 22 (.t 35)⟩,
 ⟨some 37, none, .call (.c (.fn (.func 13) [] [])) [.t 36]⟩,
 ⟨some 9, none, .mv (.t 37)⟩]))
 (.seq (.reg [⟨some 10, none, .mv (.c (.i .u8 0))⟩])
 (.seq (.seq (.cut [0, 1, 2, 7, 8, 9, 10] (.reg [⟨some 38, none, .mv (.t 8)⟩,
 ⟨some 39, none, .mv (.t 2)⟩,
 ⟨some 40, none, .len 38 (.t 39)⟩,
 ⟨some 41, none, .bin .lss 3 (.t 38) (.t 40)⟩]))
 (.cond (.t 41)
 (.cut [0, 1, 2, 7, 8, 9] (.reg [⟨some 42, none, .mv (.t 2)⟩,
 ⟨some 43, none, .mv (.t 8)⟩,
 ⟨some 44, none, .iad 38 (.t 42) (.t 43)⟩,
 ⟨some 45, none, .load 5 (.t 44)⟩,
 ⟨some 10, none, .mv (.t 45)⟩]))
 .skip))
 (.cut [1000000, 0, 1, 2, 7, 8, 9, 10] (.seq (.seq (.cut [0, 1, 2, 7, 8, 9, 10] (.reg [⟨some 46, none, .mv (.t 10)⟩,
 ⟨some 47, none, .bin .and 5 (.t 46) (.c (.i .u8 1))⟩,
 ⟨some 48, none, .bin .neq 5 (.t 47) (.c (.i .u8 0))⟩]))
 (.cond (.t 48)
 (.cut [0, 1, 2, 7, 8, 9, 10] (.reg [⟨some 49, none, .mv (.t 9)⟩,
 ⟨some 50, none, .call (.c (.fn (.func 20) [] [])) [.t 49, .c (.s [32]), .c (.s [32, 32, 32])]⟩,
 ⟨some 51, none, .bin .add 9 (.c (.s [32, 32])) (.t 50)⟩,
 ⟨some 52, none, .bin .add 9 (.t 51) (.c (.s [32]))⟩,
 ⟨some 9, none, .mv (.t 52)⟩]))
 .skip))
 (.cut [1000000, 0, 1, 2, 7, 8, 9, 10] (.seq (.seq (.cut [0, 1, 2, 7, 8, 9, 10] (.reg [⟨some 53, none, .mv (.t 10)⟩,
 ⟨some 54, none, .bin .and 5 (.t 53) (.c (.i .u8 2))⟩,
 ⟨some 55, none, .bin .neq 5 (.t 54) (.c (.i .u8 0))⟩]))
 (.cond (.t 55)
 (.cut [0, 1, 2, 7, 8, 9, 10] (.reg [⟨some 56, none, .mv (.t 9)⟩,
 ⟨some 57, none, .bin .add 9 (.t 56) (.c (.s [59]))⟩,
 ⟨some 58, none, .mv (.t 1)⟩,
 ⟨some 59, none, .bin .add 9 (.t 57) (.t 58)⟩,
 ⟨some 9, none, .mv (.t 59)⟩]))
 .skip))
 (.cut [1000000, 0, 1, 2, 7, 8, 9, 10] (.seq (.seq (.cut [0, 1, 2, 7, 8, 9, 10] (.reg [⟨some 60, none, .mv (.t 10)⟩,
 ⟨some 61, none, .bin .and 5 (.t 60) (.c (.i .u8 4))⟩,
 ⟨some 62, none, .bin .neq 5 (.t 61) (.c (.i .u8 0))⟩]))
 (.cond (.t 62)
 (.cut [0, 1, 2, 7, 8, 9, 10] (.reg [⟨some 63, none, .mv (.t 1)⟩,
 ⟨some 64, none, .bin .add 9 (.c (.s [10, 59])) (.t 63)⟩,
 ⟨some 65, none, .bin .add 9 (.t 64) (.c (.s [10]))⟩,
 ⟨some 66, none, .mv (.t 9)⟩,
 ⟨some 67, none, .bin .add 9 (.t 65) (.t 66)⟩,
 ⟨some 9, none, .mv (.t 67)⟩]))
 .skip))
 (.cut [1000000, 0, 1, 2, 7, 8, 9, 10] (.seq (.seq (.cut [0, 1, 2, 7, 8, 9, 10] (.reg [⟨some 68, none, .mv (.t 10)⟩,
 ⟨some 69, none, .bin .and 5 (.t 68) (.c (.i .u8 8))⟩,
 ⟨some 70, none, .bin .neq 5 (.t 69) (.c (.i .u8 0))⟩]))
 (.cond (.t 70)
 (.cut [0, 1, 2, 7, 8, 9] (.reg [⟨some 71, none, .mv (.t 8)⟩,
 ⟨some 72, none, .bin .rem 3 (.t 71) (.c (.i .i64 26))⟩,
 ⟨some 73, none, .conv 3 5 (.t 72)⟩,
 ⟨some 74, none, .bin .add 5 (.c (.i .u8 97)) (.t 73)⟩,
 ⟨some 75, none, .mv (.t 8)⟩,
 ⟨some 76, none, .bin .quo 3 (.t 75) (.c (.i .i64 26))⟩,
 ⟨some 77, none, .conv 3 5 (.t 76)⟩,
 ⟨some 78, none, .bin .add 5 (.c (.i .u8 97)) (.t 77)⟩,
 ⟨some 79, none, .bsl 38 2 [(0, .t 74), (1, .t 78)]⟩,
 ⟨some 80, none, .conv 38 9 (.t 79)⟩,
 ⟨some 81, none, .bin .add 9 (.c (.s [32, 108])) (.t 80)⟩,
 ⟨some 82, none, .bin .add 9 (.t 81) (.c (.s [58, 32, 59]))⟩,
 ⟨some 83, none, .mv (.t 1)⟩,
 ⟨some 84, none, .bin .add 9 (.t 82) (.t 83)⟩,
 ⟨some 85, none, .bin .add 9 (.t 84) (.c (.s [10]))⟩,
 ⟨some 86, none, .mv (.t 9)⟩,
 ⟨some 87, none, .bin .add 9 (.t 85) (.t 86)⟩,
 ⟨some 9, none, .mv (.t 87)⟩]))
 .skip))
 (.cut [1000000, 0, 1, 2, 7, 8, 9] (.cut [0, 1, 2, 7, 8, 9] (.reg [⟨some 88, none, .mv (.t 7)⟩,
 ⟨some 89, none, .mv (.t 9)⟩,
 ⟨some 90, none, .bin .add 9 (.t 88) (.t 89)⟩,
 ⟨some 91, none, .bin .add 9 (.t 90) (.c (.s [10]))⟩,
 ⟨some 7, none, .mv (.t 91)⟩])))))))))))))))
 (.cut [0, 1, 2, 7, 8] (.reg [⟨some 31, none, .mv (.t 8)⟩,
 ⟨some 32, none, .bin .add 3 (.t 31) (.c (.i .i64 1))⟩,
 ⟨some 8, none, .mv (.t 32)⟩]))))
def c6 : AC := (.seq (.reg [⟨some 6, none, .mv (.c (.b false))⟩])
 (.seq (.seq (.reg [⟨some 13, none, .call (.c (.fn (.func 12) [] [])) []⟩,
 ⟨some 14, none, .un .not (.t 13)⟩])
 (.cond (.t 14)
 (.seq (.reg [⟨some 6, none, .mv (.c (.b false))⟩])
 .ret)
 .skip))
 (.seq (.cut [0, 1, 2] (.reg [⟨some 15, none, .mv (.t 0)⟩,
 ⟨some 16, none, .mv (.t 0)⟩,
 ⟨some 17, none, .len 28 (.t 16)⟩,
 ⟨some 18, none, .mn false [.t 17, .c (.i .i64 30)]⟩,
 ⟨some 19, none, .slc 28 (.t 15) none (some (.t 18))⟩,
 ⟨some 0, none, .mv (.t 19)⟩]))
 (.seq (.cut [0, 1, 2] (.reg [⟨some 20, none, .mv (.t 1)⟩,
 ⟨some 21, none, .mv (.t 1)⟩,
 ⟨some 22, none, .len 9 (.t 21)⟩,
 ⟨some 23, none, .mn false [.t 22, .c (.i .i64 100)]⟩,
 ⟨some 24, none, .slc 9 (.t 20) none (some (.t 23))⟩,
 ⟨some 1, none, .mv (.t 24)⟩]))
 (.seq (.seq (.reg [⟨some 25, none, .mv (.t 1)⟩,
 ⟨some 26, none, .call (.c (.fn (.func 19) [] [])) [.t 25, .c (.s [10])]⟩])
 (.cond (.t 26)
 (.seq (.reg [⟨some 6, none, .mv (.c (.b true))⟩])
 .ret)
 .skip))
 (.seq (.reg [⟨some 7, none, .mv (.c (.s []))⟩])
 (.seq (.seq (.reg [⟨some 8, none, .mv (.c (.i .i64 0))⟩])
 (.blk 0
 (.loop [0, 1, 2, 7, 8] c6L0)))
 (.seq (.cut [0, 7] (.reg [⟨some 93, none, .mv (.t 7)⟩,
 ⟨some 94, none, .call (.c (.fn (.func 17) [] [])) [.t 93]⟩,
 ⟨some 92, none, .mv (.t 94)⟩,
 ⟨some 95, none, .ext (.t 92) 0⟩,
 ⟨some 96, none, .ext (.t 92) 1⟩,
 ⟨some 11, none, .mv (.t 95)⟩,
 ⟨some 12, none, .mv (.t 96)⟩]))
 (.seq (.cut [0, 11, 12] (.reg [⟨some 97, none, .mv (.t 12)⟩,
 ⟨some 98, none, .bin .eql 33 (.t 97) (.c (.ic0))⟩,
 ⟨some 99, none, .mv (.t 98)⟩,
 ⟨some 100, some (99, true), .mv (.t 11)⟩,
 ⟨some 101, some (99, true), .mv (.t 0)⟩,
 ⟨some 102, some (99, true), .call (.c (.fn (.func 18) [] [])) [.t 100, .t 101]⟩,
 ⟨some 103, none, .pick (.t 99) (.t 102) (.c (.b false))⟩,
 ⟨some 6, none, .mv (.t 103)⟩]))
 .ret)))))))))
def F6 : AF := ⟨104, [.t 6], c6⟩
/-- fallow/fallowlaw08.AsmAssembles -/
def c8 : AC := (.seq (.reg [⟨some 2, none, .mv (.c (.b false))⟩])
 (.seq (.cut [0] (.reg [⟨some 8, none, .mv (.t 0)⟩,
 ⟨some 9, none, .call (.c (.fn (.func 17) [] [])) [.t 8]⟩,
 ⟨some 7, none, .mv (.t 9)⟩,
 ⟨some 10, none, .ext (.t 7) 0⟩,
 ⟨some 11, none, .ext (.t 7) 1⟩,
 ⟨some 3, none, .mv (.t 10)⟩,
 ⟨some 4, none, .mv (.t 11)⟩]))
 (.seq (.cut [0, 3, 4] (.reg [⟨some 13, none, .mv (.t 0)⟩,
 ⟨some 14, none, .call (.c (.fn (.func 23) [] [])) [.t 13]⟩,
 ⟨some 12, none, .mv (.t 14)⟩,
 ⟨some 15, none, .ext (.t 12) 0⟩,
 ⟨some 16, none, .ext (.t 12) 1⟩,
 ⟨some 5, none, .mv (.t 15)⟩,
 ⟨some 6, none, .mv (.t 16)⟩]))
 (.seq (.cut [3, 4, 5, 6] (.reg [⟨some 17, none, .mv (.t 3)⟩,
 ⟨some 18, none, .mv (.t 5)⟩,
 ⟨some 19, none, .call (.c (.fn (.func 18) [] [])) [.t 17, .t 18]⟩,
 ⟨some 20, none, .mv (.t 19)⟩,
 ⟨some 21, some (20, true), .mv (.t 4)⟩,
 ⟨some 22, some (20, true), .mv (.t 6)⟩,
 ⟨some 23, some (20, true), .call (.c (.fn (.func 24) [] [])) [.t 21, .t 22]⟩,
 ⟨some 24, none, .pick (.t 20) (.t 23) (.c (.b false))⟩,
 ⟨some 25, none, .mv (.t 24)⟩,
 ⟨some 26, some (25, true), .call (.c (.fn (.func 12) [] [])) []⟩,
 ⟨some 27, none, .pick (.t 25) (.t 26) (.c (.b false))⟩,
 ⟨some 2, none, .mv (.t 27)⟩]))
 .ret))))
def F8 : AF := ⟨28, [.t 2], c8⟩
/-- fallow/fallowlaw08.AsmKnown -/
def c9L0 : AC := (.seq (.reg [⟨some 32, none, .bin .lss 3 (.t 31) (.t 30)⟩])
 (.seq (.cond (.t 32)
 .skip
 (.exit 0))
 (.seq (.blk 1
 (.seq (.cut [29, 30, 31] (.reg [⟨some 33, none, .mv (.t 31)⟩,
 ⟨some 34, none, .iad 52 (.t 29) (.t 31)⟩,
 ⟨some 35, none, .load 9 (.t 34)⟩,
 ⟨some 1, none, .mv (.t 33)⟩,
 ⟨some 2, none, .mv (.t 35)⟩]))
 (.seq (.cut [1, 2, 29, 30, 31] (.reg [⟨some 37, none, .mv (.t 2)⟩,
 ⟨some 38, none, .call (.c (.fn (.func 10) [] [])) [.t 37]⟩,
 ⟨some 36, none, .mv (.t 38)⟩,
 ⟨some 39, none, .ext (.t 36) 0⟩,
 ⟨some 40, none, .ext (.t 36) 1⟩,
 ⟨some 3, none, .mv (.t 39)⟩,
 ⟨some 4, none, .mv (.t 40)⟩]))
 (.seq (.cut [1, 4, 29, 30, 31] (.reg [⟨some 41, none, .mv (.t 4)⟩,
 ⟨some 42, none, .bin .neq 23 (.t 41) (.c (.i .i64 4))⟩,
 ⟨some 43, none, .mv (.t 42)⟩,
 ⟨some 44, some (43, true), .mv (.t 1)⟩,
 ⟨some 45, some (43, true), .bin .lss 3 (.t 44) (.c (.i .i64 14))⟩,
 ⟨some 46, none, .pick (.t 43) (.t 45) (.c (.b false))⟩]))
 (.cond (.t 46)
 (.seq (.reg [⟨some 0, none, .mv (.c (.b false))⟩])
 .ret)
 .skip)))))
 (.reg [⟨some 47, none, .bin .add 3 (.t 31) (.c (.i .i64 1))⟩,
 ⟨some 31, none, .mv (.t 47)⟩]))))
def c9 : AC := (.seq (.reg [⟨some 0, none, .mv (.c (.b false))⟩])
 (.seq (.seq (.cut [] (.reg [⟨some 29, none, .bsl 52 15 [(0, .c (.s [108, 105, 32, 32, 99, 51, 32, 45, 55])), (1, .c (.s [108, 105, 32, 99, 49, 54, 32, 48])), (2, .c (.s [108, 105, 32, 99, 51, 32, 45, 48, 55])), (3, .c (.s [119, 111, 114, 100, 32, 48, 49])), (4, .c (.s [])), (5, .c (.s [32, 114, 101, 116])), (6, .c (.s [114, 101, 116, 32])), (7, .c (.s [108, 105, 32, 99, 51])), (8, .c (.s [108, 105, 32, 99, 51, 32, 50, 48, 52, 56])), (9, .c (.s [108, 105, 32, 99, 51, 32, 45, 48])), (10, .c (.s [98, 101, 113, 32, 99, 48, 32, 99, 48, 32, 111, 110])), (11, .c (.s [119, 111, 114, 100, 32, 52, 50, 57, 52, 57, 54, 55, 50, 57, 54])), (12, .c (.s [97, 100, 100, 32, 99, 49, 32, 99, 50, 32, 99, 51, 32, 99, 52])), (13, .c (.s [76, 105, 32, 99, 51, 32, 49])), (14, .c (.s [119, 111, 114, 100, 32, 49, 57, 57, 50, 50, 57, 52, 52]))]⟩,
 ⟨some 30, none, .len 52 (.t 29)⟩,
 ⟨some 31, none, .mv (.c (.i .i64 0))⟩]))
 (.blk 0
 (.loop [29, 30, 31] c9L0)))
 (.seq (.cut [] (.reg [⟨some 49, none, .call (.c (.fn (.func 17) [] [])) [.c (.s [98, 101, 113, 32, 99, 48, 32, 99, 48, 32, 111, 110])]⟩,
 ⟨some 48, none, .mv (.t 49)⟩,
 ⟨some 50, none, .ext (.t 48) 0⟩,
 ⟨some 51, none, .ext (.t 48) 1⟩,
 ⟨some 5, none, .mv (.t 50)⟩,
 ⟨some 6, none, .mv (.t 51)⟩]))
 (.cut [1000000, 6] (.seq (.cut [6] (.reg [⟨some 53, none, .call (.c (.fn (.func 17) [] [])) [.c (.s [97, 58, 10, 97, 58])]⟩,
 ⟨some 52, none, .mv (.t 53)⟩,
 ⟨some 54, none, .ext (.t 52) 0⟩,
 ⟨some 55, none, .ext (.t 52) 1⟩,
 ⟨some 7, none, .mv (.t 54)⟩,
 ⟨some 8, none, .mv (.t 55)⟩]))
 (.seq (.cut [6, 8] (.reg [⟨some 57, none, .call (.c (.fn (.func 17) [] [])) [.c (.s [98])]⟩,
 ⟨some 56, none, .mv (.t 57)⟩,
 ⟨some 58, none, .ext (.t 56) 0⟩,
 ⟨some 59, none, .ext (.t 56) 1⟩,
 ⟨some 9, none, .mv (.t 58)⟩,
 ⟨some 10, none, .mv (.t 59)⟩]))
 (.seq (.cut [6, 8, 10] (.reg [⟨some 61, none, .call (.c (.fn (.func 17) [] [])) [.c (.s [])]⟩,
 ⟨some 60, none, .mv (.t 61)⟩,
 ⟨some 62, none, .ext (.t 60) 0⟩,
 ⟨some 63, none, .ext (.t 60) 1⟩,
 ⟨some 11, none, .mv (.t 62)⟩,
 ⟨some 12, none, .mv (.t 63)⟩]))
 (.seq (.cut [6, 8, 10, 11, 12] (.reg [⟨some 65, none, .call (.c (.fn (.func 21) [] [])) [.c (.s [10]), .c (.i .i64 32769)]⟩,
 ⟨some 66, none, .call (.c (.fn (.func 17) [] [])) [.t 65]⟩,
 ⟨some 64, none, .mv (.t 66)⟩,
 ⟨some 67, none, .ext (.t 64) 0⟩,
 ⟨some 68, none, .ext (.t 64) 1⟩,
 ⟨some 13, none, .mv (.t 67)⟩,
 ⟨some 14, none, .mv (.t 68)⟩]))
 (.cut [1000000, 6, 8, 10, 11, 12, 14] (.seq (.cut [6, 8, 10, 11, 12, 14] (.reg [⟨some 70, none, .call (.c (.fn (.func 21) [] [])) [.c (.s [114, 101, 116, 10]), .c (.i .i64 4097)]⟩,
 ⟨some 71, none, .call (.c (.fn (.func 17) [] [])) [.t 70]⟩,
 ⟨some 69, none, .mv (.t 71)⟩,
 ⟨some 72, none, .ext (.t 69) 0⟩,
 ⟨some 73, none, .ext (.t 69) 1⟩,
 ⟨some 15, none, .mv (.t 72)⟩,
 ⟨some 16, none, .mv (.t 73)⟩]))
 (.seq (.cut [6, 8, 10, 11, 12, 14, 16] (.reg [⟨some 75, none, .call (.c (.fn (.func 21) [] [])) [.c (.s [114, 101, 116, 10]), .c (.i .i64 4096)]⟩,
 ⟨some 76, none, .call (.c (.fn (.func 17) [] [])) [.t 75]⟩,
 ⟨some 74, none, .mv (.t 76)⟩,
 ⟨some 77, none, .ext (.t 74) 0⟩,
 ⟨some 78, none, .ext (.t 74) 1⟩,
 ⟨some 17, none, .mv (.t 77)⟩,
 ⟨some 18, none, .mv (.t 78)⟩]))
 (.seq (.cut [6, 8, 10, 11, 12, 14, 16, 17, 18] (.reg [⟨some 80, none, .call (.c (.fn (.func 17) [] [])) [.c (.s [108, 105, 32, 99, 49, 32, 120, 10])]⟩,
 ⟨some 79, none, .mv (.t 80)⟩,
 ⟨some 81, none, .ext (.t 79) 0⟩,
 ⟨some 82, none, .ext (.t 79) 1⟩,
 ⟨some 19, none, .mv (.t 81)⟩,
 ⟨some 20, none, .mv (.t 82)⟩]))
 (.seq (.cut [6, 8, 10, 11, 12, 14, 16, 17, 18, 20] (.reg [⟨some 84, none, .call (.c (.fn (.func 17) [] [])) [.c (.s [57, 97, 58])]⟩,
 ⟨some 83, none, .mv (.t 84)⟩,
 ⟨some 85, none, .ext (.t 83) 0⟩,
 ⟨some 86, none, .ext (.t 83) 1⟩,
 ⟨some 21, none, .mv (.t 85)⟩,
 ⟨some 22, none, .mv (.t 86)⟩]))
 (.cut [1000000, 6, 8, 10, 11, 12, 14, 16, 17, 18, 20, 22] (.seq (.cut [6, 8, 10, 11, 12, 14, 16, 17, 18, 20, 22] (.reg [⟨some 88, none, .call (.c (.fn (.func 17) [] [])) [.c (.s [119, 111, 114, 100, 32, 53])]⟩,
 ⟨some 87, none, .mv (.t 88)⟩,
 ⟨some 89, none, .ext (.t 87) 0⟩,
 ⟨some 90, none, .ext (.t 87) 1⟩,
 ⟨some 23, none, .mv (.t 89)⟩,
 ⟨some 24, none, .mv (.t 90)⟩]))
 (.seq (.cut [6, 8, 10, 11, 12, 14, 16, 17, 18, 20, 22, 23, 24] (.reg [⟨some 92, none, .call (.c (.fn (.func 17) [] [])) [.c (.s [108, 105, 32, 99, 49, 32, 48, 55])]⟩,
 ⟨some 91, none, .mv (.t 92)⟩,
 ⟨some 93, none, .ext (.t 91) 0⟩,
 ⟨some 94, none, .ext (.t 91) 1⟩,
 ⟨some 25, none, .mv (.t 93)⟩,
 ⟨some 26, none, .mv (.t 94)⟩]))
 (.seq (.cut [6, 8, 10, 11, 12, 14, 16, 17, 18, 20, 22, 23, 24, 26] (.reg [⟨some 96, none, .call (.c (.fn (.func 17) [] [])) [.c (.s [109, 111, 118, 101, 32, 99, 48, 49, 32, 99, 50])]⟩,
 ⟨some 95, none, .mv (.t 96)⟩,
 ⟨some 97, none, .ext (.t 95) 0⟩,
 ⟨some 98, none, .ext (.t 95) 1⟩,
 ⟨some 27, none, .mv (.t 97)⟩,
 ⟨some 28, none, .mv (.t 98)⟩]))
 (.seq (.cut [6, 8, 10, 11, 12, 14, 16, 17, 18, 20, 22, 23, 24, 26, 28] (.reg [⟨some 99, none, .mv (.c (.b true))⟩,
 ⟨some 100, some (99, true), .call (.c (.fn (.func 12) [] [])) []⟩,
 ⟨some 101, none, .pick (.t 99) (.t 100) (.c (.b false))⟩,
 ⟨some 102, none, .mv (.t 101)⟩,
 ⟨some 103, some (102, true), .mv (.t 6)⟩,
 ⟨some 104, some (102, true), .build 54 [(0, .c (.i .i64 9))]⟩,
 ⟨some 105, some (102, true), .box 54 (.t 104)⟩,
 ⟨some 106, some (102, true), .call (.c (.fn (.func 24) [] [])) [.t 103, .t 105]⟩,
 ⟨some 107, none, .pick (.t 102) (.t 106) (.c (.b false))⟩,
 ⟨some 108, none, .mv (.t 107)⟩,
 ⟨some 109, some (108, true), .mv (.t 8)⟩,
 ⟨some 110, some (108, true), .build 54 [(0, .c (.i .i64 11)), (1, .c (.i .i64 1))]⟩,
 ⟨some 111, some (108, true), .box 54 (.t 110)⟩,
 ⟨some 112, some (108, true), .call (.c (.fn (.func 24) [] [])) [.t 109, .t 111]⟩,
 ⟨some 113, none, .pick (.t 108) (.t 112) (.c (.b false))⟩,
 ⟨some 114, none, .mv (.t 113)⟩,
 ⟨some 115, some (114, true), .mv (.t 10)⟩,
 ⟨some 116, some (114, true), .build 54 [(0, .c (.i .i64 4))]⟩,
 ⟨some 117, some (114, true), .box 54 (.t 116)⟩,
 ⟨some 118, some (114, true), .call (.c (.fn (.func 24) [] [])) [.t 115, .t 117]⟩,
 ⟨some 119, none, .pick (.t 114) (.t 118) (.c (.b false))⟩,
 ⟨some 120, none, .mv (.t 119)⟩,
 ⟨some 121, some (120, true), .mv (.t 12)⟩,
 ⟨some 122, some (120, true), .bin .eql 33 (.t 121) (.c (.ic0))⟩,
 ⟨some 123, none, .pick (.t 120) (.t 122) (.c (.b false))⟩,
 ⟨some 124, none, .mv (.t 123)⟩,
 ⟨some 125, some (124, true), .mv (.t 11)⟩,
 ⟨some 126, some (124, true), .len 28 (.t 125)⟩,
 ⟨some 127, some (124, true), .bin .eql 3 (.t 126) (.c (.i .i64 0))⟩,
 ⟨some 128, none, .pick (.t 124) (.t 127) (.c (.b false))⟩,
 ⟨some 129, none, .mv (.t 128)⟩,
 ⟨some 130, some (129, true), .mv (.t 14)⟩,
 ⟨some 131, some (129, true), .build 54 [(0, .c (.i .i64 3))]⟩,
 ⟨some 132, some (129, true), .box 54 (.t 131)⟩,
 ⟨some 133, some (129, true), .call (.c (.fn (.func 24) [] [])) [.t 130, .t 132]⟩,
 ⟨some 134, none, .pick (.t 129) (.t 133) (.c (.b false))⟩,
 ⟨some 135, none, .mv (.t 134)⟩,
 ⟨some 136, some (135, true), .mv (.t 16)⟩,
 ⟨some 137, some (135, true), .build 54 [(0, .c (.i .i64 3)), (1, .c (.i .i64 4096))]⟩,
 ⟨some 138, some (135, true), .box 54 (.t 137)⟩,
 ⟨some 139, some (135, true), .call (.c (.fn (.func 24) [] [])) [.t 136, .t 138]⟩,
 ⟨some 140, none, .pick (.t 135) (.t 139) (.c (.b false))⟩,
 ⟨some 141, none, .mv (.t 140)⟩,
 ⟨some 142, some (141, true), .mv (.t 18)⟩,
 ⟨some 143, some (141, true), .bin .eql 33 (.t 142) (.c (.ic0))⟩,
 ⟨some 144, none, .pick (.t 141) (.t 143) (.c (.b false))⟩,
 ⟨some 145, none, .mv (.t 144)⟩,
 ⟨some 146, some (145, true), .mv (.t 17)⟩,
 ⟨some 147, some (145, true), .len 28 (.t 146)⟩,
 ⟨some 148, some (145, true), .bin .eql 3 (.t 147) (.c (.i .i64 4096))⟩,
 ⟨some 149, none, .pick (.t 145) (.t 148) (.c (.b false))⟩,
 ⟨some 150, none, .mv (.t 149)⟩,
 ⟨some 151, some (150, true), .mv (.t 20)⟩,
 ⟨some 152, some (150, true), .build 54 [(0, .c (.i .i64 4))]⟩,
 ⟨some 153, some (150, true), .box 54 (.t 152)⟩,
 ⟨some 154, some (150, true), .call (.c (.fn (.func 24) [] [])) [.t 151, .t 153]⟩,
 ⟨some 155, none, .pick (.t 150) (.t 154) (.c (.b false))⟩,
 ⟨some 156, none, .mv (.t 155)⟩,
 ⟨some 157, some (156, true), .mv (.t 22)⟩,
 ⟨some 158, some (156, true), .build 54 [(0, .c (.i .i64 4))]⟩,
 ⟨some 159, some (156, true), .box 54 (.t 158)⟩,
 ⟨some 160, some (156, true), .call (.c (.fn (.func 24) [] [])) [.t 157, .t 159]⟩,
 ⟨some 161, none, .pick (.t 156) (.t 160) (.c (.b false))⟩,
 ⟨some 162, none, .mv (.t 161)⟩,
 ⟨some 163, some (162, true), .mv (.t 24)⟩,
 ⟨some 164, some (162, true), .bin .eql 33 (.t 163) (.c (.ic0))⟩,
 ⟨some 165, none, .pick (.t 162) (.t 164) (.c (.b false))⟩,
 ⟨some 166, none, .mv (.t 165)⟩,
 ⟨some 167, some (166, true), .mv (.t 23)⟩,
 ⟨some 168, some (166, true), .bsl 28 1 [(0, .c (.i .u32 5))]⟩,
 ⟨some 169, some (166, true), .call (.c (.fn (.func 18) [] [])) [.t 167, .t 168]⟩,
 ⟨some 170, none, .pick (.t 166) (.t 169) (.c (.b false))⟩,
 ⟨some 171, none, .mv (.t 170)⟩,
 ⟨some 172, some (171, true), .mv (.t 26)⟩,
 ⟨some 173, some (171, true), .build 54 [(0, .c (.i .i64 4))]⟩,
 ⟨some 174, some (171, true), .box 54 (.t 173)⟩,
 ⟨some 175, some (171, true), .call (.c (.fn (.func 24) [] [])) [.t 172, .t 174]⟩,
 ⟨some 176, none, .pick (.t 171) (.t 175) (.c (.b false))⟩,
 ⟨some 177, none, .mv (.t 176)⟩,
 ⟨some 178, some (177, true), .mv (.t 28)⟩,
 ⟨some 179, some (177, true), .build 54 [(0, .c (.i .i64 4))]⟩,
 ⟨some 180, some (177, true), .box 54 (.t 179)⟩,
 ⟨some 181, some (177, true), .call (.c (.fn (.func 24) [] [])) [.t 178, .t 180]⟩,
 ⟨some 182, none, .pick (.t 177) (.t 181) (.c (.b false))⟩,
 ⟨some 0, none, .mv (.t 182)⟩]))
 (.cut [1000000, 0] .ret)))))))))))))))))))
def F9 : AF := ⟨183, [.t 0], c9⟩
/-- fallow/asm.Line -/
def c10 : AC := (.seq (.reg [⟨some 2, none, .mv (.c (.i .u32 0))⟩,
 ⟨some 3, none, .mv (.c (.i .i64 0))⟩])
 (.seq (.cut [0] (.reg [⟨some 7, none, .mv (.t 0)⟩,
 ⟨some 8, none, .call (.c (.fn (.func 25) [] [])) [.t 7]⟩,
 ⟨some 4, none, .mv (.t 8)⟩]))
 (.seq (.seq (.cut [0, 4] (.reg [⟨some 9, none, .mv (.t 4)⟩,
 ⟨some 10, none, .len 52 (.t 9)⟩,
 ⟨some 11, none, .bin .eql 3 (.t 10) (.c (.i .i64 0))⟩]))
 (.cond (.t 11)
 (.seq (.reg [⟨some 2, none, .mv (.c (.i .u32 0))⟩,
 ⟨some 3, none, .mv (.c (.i .i64 4))⟩])
 .ret)
 .skip))
 (.seq (.cut [0, 4] (.reg [⟨some 13, none, .mv (.t 4)⟩,
 ⟨some 14, none, .call (.c (.fn (.func 26) [] [])) [.t 13]⟩,
 ⟨some 12, none, .mv (.t 14)⟩,
 ⟨some 15, none, .ext (.t 12) 0⟩,
 ⟨some 16, none, .ext (.t 12) 1⟩,
 ⟨some 5, none, .alloc 57⟩,
 ⟨none, none, .store 57 (.t 5) (.t 15)⟩,
 ⟨some 6, none, .mv (.t 16)⟩]))
 (.seq (.seq (.cut [0, 5, 6] (.reg [⟨some 17, none, .mv (.t 6)⟩,
 ⟨some 18, none, .un .not (.t 17)⟩,
 ⟨some 19, none, .mv (.t 18)⟩,
 ⟨some 20, some (19, false), .fad 57 (.t 5) 2⟩,
 ⟨some 21, some (19, false), .load 9 (.t 20)⟩,
 ⟨some 22, some (19, false), .bin .neq 9 (.t 21) (.c (.s []))⟩,
 ⟨some 23, none, .pick (.t 19) (.c (.b true)) (.t 22)⟩,
 ⟨some 24, none, .mv (.t 23)⟩,
 ⟨some 25, some (24, false), .fad 57 (.t 5) 1⟩,
 ⟨some 26, some (24, false), .load 22 (.t 25)⟩,
 ⟨some 27, some (24, false), .call (.c (.fn (.func 13) [] [])) [.t 26]⟩,
 ⟨some 28, some (24, false), .mv (.t 0)⟩,
 ⟨some 29, some (24, false), .bin .neq 9 (.t 27) (.t 28)⟩,
 ⟨some 30, none, .pick (.t 24) (.c (.b true)) (.t 29)⟩]))
 (.cond (.t 30)
 (.seq (.reg [⟨some 2, none, .mv (.c (.i .u32 0))⟩,
 ⟨some 3, none, .mv (.c (.i .i64 4))⟩])
 .ret)
 .skip))
 (.cut [1000000, 5] (.seq (.cut [5] (.reg [⟨some 31, none, .fad 57 (.t 5) 1⟩,
 ⟨some 32, none, .load 22 (.t 31)⟩,
 ⟨some 2, none, .mv (.t 32)⟩,
 ⟨some 3, none, .mv (.c (.i .i64 0))⟩]))
 .ret)))))))
def F10 : AF := ⟨33, [.t 2, .t 3], c10⟩
/-- fallow/fallowref08.Line -/
def c11 : AC := (.seq (.reg [⟨some 2, none, .mv (.c (.i .u32 0))⟩,
 ⟨some 3, none, .mv (.c (.i .i64 0))⟩])
 (.seq (.cut [0] (.reg [⟨some 7, none, .mv (.t 0)⟩,
 ⟨some 8, none, .call (.c (.fn (.func 27) [] [])) [.t 7]⟩,
 ⟨some 4, none, .mv (.t 8)⟩]))
 (.seq (.seq (.cut [0, 4] (.reg [⟨some 9, none, .mv (.t 4)⟩,
 ⟨some 10, none, .len 52 (.t 9)⟩,
 ⟨some 11, none, .bin .eql 3 (.t 10) (.c (.i .i64 0))⟩]))
 (.cond (.t 11)
 (.seq (.reg [⟨some 2, none, .mv (.c (.i .u32 0))⟩,
 ⟨some 3, none, .mv (.c (.i .i64 4))⟩])
 .ret)
 .skip))
 (.seq (.cut [0, 4] (.reg [⟨some 13, none, .mv (.t 4)⟩,
 ⟨some 14, none, .call (.c (.fn (.func 28) [] [])) [.t 13]⟩,
 ⟨some 12, none, .mv (.t 14)⟩,
 ⟨some 15, none, .ext (.t 12) 0⟩,
 ⟨some 16, none, .ext (.t 12) 1⟩,
 ⟨some 5, none, .alloc 61⟩,
 ⟨none, none, .store 61 (.t 5) (.t 15)⟩,
 ⟨some 6, none, .mv (.t 16)⟩]))
 (.seq (.seq (.cut [0, 5, 6] (.reg [⟨some 17, none, .mv (.t 6)⟩,
 ⟨some 18, none, .un .not (.t 17)⟩,
 ⟨some 19, none, .mv (.t 18)⟩,
 ⟨some 20, some (19, false), .fad 61 (.t 5) 2⟩,
 ⟨some 21, some (19, false), .load 9 (.t 20)⟩,
 ⟨some 22, some (19, false), .bin .neq 9 (.t 21) (.c (.s []))⟩,
 ⟨some 23, none, .pick (.t 19) (.c (.b true)) (.t 22)⟩,
 ⟨some 24, none, .mv (.t 23)⟩,
 ⟨some 25, some (24, false), .fad 61 (.t 5) 0⟩,
 ⟨some 26, some (24, false), .load 22 (.t 25)⟩,
 ⟨some 27, some (24, false), .call (.c (.fn (.func 14) [] [])) [.t 26]⟩,
 ⟨some 28, some (24, false), .mv (.t 0)⟩,
 ⟨some 29, some (24, false), .bin .neq 9 (.t 27) (.t 28)⟩,
 ⟨some 30, none, .pick (.t 24) (.c (.b true)) (.t 29)⟩]))
 (.cond (.t 30)
 (.seq (.reg [⟨some 2, none, .mv (.c (.i .u32 0))⟩,
 ⟨some 3, none, .mv (.c (.i .i64 4))⟩])
 .ret)
 .skip))
 (.cut [1000000, 5] (.seq (.cut [5] (.reg [⟨some 31, none, .fad 61 (.t 5) 0⟩,
 ⟨some 32, none, .load 22 (.t 31)⟩,
 ⟨some 2, none, .mv (.t 32)⟩,
 ⟨some 3, none, .mv (.c (.i .i64 0))⟩]))
 .ret)))))))
def F11 : AF := ⟨33, [.t 2, .t 3], c11⟩
/-- fallow/fallowlaw08.works -/
def c12 : AC := (.seq (.reg [⟨some 0, none, .mv (.c (.b false))⟩])
 (.seq (.cut [] (.reg [⟨some 9, none, .call (.c (.fn (.func 10) [] [])) [.c (.s [108, 105, 32, 99, 51, 32, 45, 55])]⟩,
 ⟨some 8, none, .mv (.t 9)⟩,
 ⟨some 10, none, .ext (.t 8) 0⟩,
 ⟨some 11, none, .ext (.t 8) 1⟩,
 ⟨some 1, none, .mv (.t 10)⟩,
 ⟨some 2, none, .mv (.t 11)⟩]))
 (.seq (.cut [1, 2] (.reg [⟨some 13, none, .build 45 [(0, .c (.i .i64 1)), (1, .c (.i .i64 3)), (4, .c (.i .i64 (-7)))]⟩,
 ⟨some 14, none, .call (.c (.fn (.func 29) [] [])) [.t 13]⟩,
 ⟨some 12, none, .mv (.t 14)⟩,
 ⟨some 15, none, .ext (.t 12) 0⟩,
 ⟨some 16, none, .ext (.t 12) 1⟩,
 ⟨some 3, none, .mv (.t 15)⟩,
 ⟨some 4, none, .mv (.t 16)⟩]))
 (.seq (.cut [1, 2, 3, 4] (.reg [⟨some 18, none, .call (.c (.fn (.func 17) [] [])) [.c (.s [108, 111, 111, 112, 58, 10, 32, 97, 100, 100, 105, 32, 99, 49, 32, 99, 49, 32, 45, 49, 32, 59, 32, 108, 101, 115, 115, 10, 32, 98, 110, 101, 32, 99, 49, 32, 99, 48, 32, 108, 111, 111, 112, 10, 116, 114, 97, 112])]⟩,
 ⟨some 17, none, .mv (.t 18)⟩,
 ⟨some 19, none, .ext (.t 17) 0⟩,
 ⟨some 20, none, .ext (.t 17) 1⟩,
 ⟨some 5, none, .mv (.t 19)⟩,
 ⟨some 6, none, .mv (.t 20)⟩]))
 (.seq (.seq (.cut [1, 2, 3, 4, 5, 6] (.reg [⟨some 21, none, .mv (.t 2)⟩,
 ⟨some 22, none, .bin .neq 23 (.t 21) (.c (.i .i64 0))⟩,
 ⟨some 23, none, .mv (.t 22)⟩,
 ⟨some 24, some (23, false), .mv (.t 4)⟩,
 ⟨some 25, some (23, false), .bin .neq 23 (.t 24) (.c (.i .i64 0))⟩,
 ⟨some 26, none, .pick (.t 23) (.c (.b true)) (.t 25)⟩,
 ⟨some 27, none, .mv (.t 26)⟩,
 ⟨some 28, some (27, false), .mv (.t 1)⟩,
 ⟨some 29, some (27, false), .mv (.t 3)⟩,
 ⟨some 30, some (27, false), .bin .neq 22 (.t 28) (.t 29)⟩,
 ⟨some 31, none, .pick (.t 27) (.c (.b true)) (.t 30)⟩,
 ⟨some 32, none, .mv (.t 31)⟩,
 ⟨some 33, some (32, false), .mv (.t 3)⟩,
 ⟨some 34, some (32, false), .call (.c (.fn (.func 13) [] [])) [.t 33]⟩,
 ⟨some 35, some (32, false), .bin .neq 9 (.t 34) (.c (.s [108, 105, 32, 99, 51, 32, 45, 55]))⟩,
 ⟨some 36, none, .pick (.t 32) (.c (.b true)) (.t 35)⟩,
 ⟨some 37, none, .mv (.t 36)⟩,
 ⟨some 38, some (37, false), .call (.c (.fn (.func 13) [] [])) [.c (.i .u32 4294967295)]⟩,
 ⟨some 39, some (37, false), .bin .neq 9 (.t 38) (.c (.s [119, 111, 114, 100, 32, 52, 50, 57, 52, 57, 54, 55, 50, 57, 53]))⟩,
 ⟨some 40, none, .pick (.t 37) (.c (.b true)) (.t 39)⟩,
 ⟨some 41, none, .mv (.t 40)⟩,
 ⟨some 42, some (41, false), .mv (.t 6)⟩,
 ⟨some 43, some (41, false), .bin .neq 33 (.t 42) (.c (.ic0))⟩,
 ⟨some 44, none, .pick (.t 41) (.c (.b true)) (.t 43)⟩,
 ⟨some 45, none, .mv (.t 44)⟩,
 ⟨some 46, some (45, false), .mv (.t 5)⟩,
 ⟨some 47, some (45, false), .len 28 (.t 46)⟩,
 ⟨some 48, some (45, false), .bin .neq 3 (.t 47) (.c (.i .i64 3))⟩,
 ⟨some 49, none, .pick (.t 45) (.c (.b true)) (.t 48)⟩]))
 (.cut [1000000, 5, 49] (.cond (.t 49)
 (.seq (.reg [⟨some 0, none, .mv (.c (.b false))⟩])
 .ret)
 .skip)))
 (.seq (.cut [5] (.reg [⟨some 50, none, .mv (.t 5)⟩,
 ⟨some 51, none, .iad 28 (.t 50) (.c (.i .i64 1))⟩,
 ⟨some 52, none, .load 22 (.t 51)⟩,
 ⟨some 53, none, .call (.c (.fn (.func 22) [] [])) [.t 52]⟩,
 ⟨some 7, none, .alloc 45⟩,
 ⟨none, none, .store 45 (.t 7) (.t 53)⟩]))
 (.seq (.cut [5, 7] (.reg [⟨some 54, none, .fad 45 (.t 7) 0⟩,
 ⟨some 55, none, .load 3 (.t 54)⟩,
 ⟨some 56, none, .bin .eql 3 (.t 55) (.c (.i .i64 26))⟩,
 ⟨some 57, none, .mv (.t 56)⟩,
 ⟨some 58, some (57, true), .fad 45 (.t 7) 1⟩,
 ⟨some 59, some (57, true), .load 3 (.t 58)⟩,
 ⟨some 60, some (57, true), .bin .eql 3 (.t 59) (.c (.i .i64 1))⟩,
 ⟨some 61, none, .pick (.t 57) (.t 60) (.c (.b false))⟩,
 ⟨some 62, none, .mv (.t 61)⟩,
 ⟨some 63, some (62, true), .fad 45 (.t 7) 2⟩,
 ⟨some 64, some (62, true), .load 3 (.t 63)⟩,
 ⟨some 65, some (62, true), .bin .eql 3 (.t 64) (.c (.i .i64 0))⟩,
 ⟨some 66, none, .pick (.t 62) (.t 65) (.c (.b false))⟩,
 ⟨some 67, none, .mv (.t 66)⟩,
 ⟨some 68, some (67, true), .fad 45 (.t 7) 4⟩,
 ⟨some 69, some (67, true), .load 3 (.t 68)⟩,
 ⟨some 70, some (67, true), .bin .eql 3 (.t 69) (.c (.i .i64 (-1)))⟩,
 ⟨some 71, none, .pick (.t 67) (.t 70) (.c (.b false))⟩,
 ⟨some 72, none, .mv (.t 71)⟩,
 ⟨some 73, some (72, true), .mv (.t 5)⟩,
 ⟨some 74, some (72, true), .iad 28 (.t 73) (.c (.i .i64 2))⟩,
 ⟨some 75, some (72, true), .load 22 (.t 74)⟩,
 ⟨some 76, some (72, true), .call (.c (.fn (.func 22) [] [])) [.t 75]⟩,
 ⟨some 77, some (72, true), .fld 45 (.t 76) 0⟩,
 ⟨some 78, some (72, true), .bin .eql 3 (.t 77) (.c (.i .i64 53))⟩,
 ⟨some 79, none, .pick (.t 72) (.t 78) (.c (.b false))⟩,
 ⟨some 0, none, .mv (.t 79)⟩]))
 .ret)))))))
def F12 : AF := ⟨80, [.t 0], c12⟩
/-- fallow/asm.Print -/
def c13L0 : AC := (.seq (.reg [⟨some 25, none, .nxt (.t 24)⟩,
 ⟨some 26, none, .ext (.t 25) 0⟩])
 (.seq (.cond (.t 26)
 .skip
 (.exit 0))
 (.blk 1
 (.seq (.reg [⟨some 27, none, .ext (.t 25) 2⟩,
 ⟨some 6, none, .mv (.t 27)⟩])
 (.seq (.reg [⟨some 28, none, .mv (.t 6)⟩])
 (.blk 2
 (.seq (.reg [⟨some 36, none, .bin .eql 21 (.t 28) (.c (.i .i32 97))⟩,
 ⟨some 35, none, .mv (.t 36)⟩])
 (.cond (.t 35)
 (.cut [3, 4, 24] (.reg [⟨some 37, none, .mv (.t 4)⟩,
 ⟨some 38, none, .fad 45 (.t 3) 1⟩,
 ⟨some 39, none, .load 3 (.t 38)⟩,
 ⟨some 40, none, .call (.c (.fn (.func 34) [] [])) [.t 39]⟩,
 ⟨some 41, none, .bin .add 9 (.c (.s [99])) (.t 40)⟩,
 ⟨some 42, none, .bsl 52 1 [(0, .t 41)]⟩,
 ⟨some 43, none, .app 52 false (.t 37) (.t 42)⟩,
 ⟨some 4, none, .mv (.t 43)⟩]))
 (.seq (.reg [⟨some 45, none, .bin .eql 21 (.t 28) (.c (.i .i32 98))⟩,
 ⟨some 44, none, .mv (.t 45)⟩])
 (.cond (.t 44)
 (.cut [3, 4, 24] (.reg [⟨some 46, none, .mv (.t 4)⟩,
 ⟨some 47, none, .fad 45 (.t 3) 2⟩,
 ⟨some 48, none, .load 3 (.t 47)⟩,
 ⟨some 49, none, .call (.c (.fn (.func 34) [] [])) [.t 48]⟩,
 ⟨some 50, none, .bin .add 9 (.c (.s [99])) (.t 49)⟩,
 ⟨some 51, none, .bsl 52 1 [(0, .t 50)]⟩,
 ⟨some 52, none, .app 52 false (.t 46) (.t 51)⟩,
 ⟨some 4, none, .mv (.t 52)⟩]))
 (.seq (.reg [⟨some 54, none, .bin .eql 21 (.t 28) (.c (.i .i32 99))⟩,
 ⟨some 53, none, .mv (.t 54)⟩])
 (.cond (.t 53)
 (.cut [3, 4, 24] (.reg [⟨some 55, none, .mv (.t 4)⟩,
 ⟨some 56, none, .fad 45 (.t 3) 3⟩,
 ⟨some 57, none, .load 3 (.t 56)⟩,
 ⟨some 58, none, .call (.c (.fn (.func 34) [] [])) [.t 57]⟩,
 ⟨some 59, none, .bin .add 9 (.c (.s [99])) (.t 58)⟩,
 ⟨some 60, none, .bsl 52 1 [(0, .t 59)]⟩,
 ⟨some 61, none, .app 52 false (.t 55) (.t 60)⟩,
 ⟨some 4, none, .mv (.t 61)⟩]))
 (.cut [3, 4, 24] (.reg [⟨some 29, none, .mv (.t 4)⟩,
 ⟨some 30, none, .fad 45 (.t 3) 4⟩,
 ⟨some 31, none, .load 3 (.t 30)⟩,
 ⟨some 32, none, .call (.c (.fn (.func 34) [] [])) [.t 31]⟩,
 ⟨some 33, none, .bsl 52 1 [(0, .t 32)]⟩,
 ⟨some 34, none, .app 52 false (.t 29) (.t 33)⟩,
 ⟨some 4, none, .mv (.t 34)⟩]))))))))))))))
def c13 : AC := (.seq (.reg [⟨some 2, none, .mv (.c (.s []))⟩])
 (.seq (.cut [0] (.reg [⟨some 7, none, .mv (.t 0)⟩,
 ⟨some 8, none, .call (.c (.fn (.func 22) [] [])) [.t 7]⟩,
 ⟨some 3, none, .alloc 45⟩,
 ⟨none, none, .store 45 (.t 3) (.t 8)⟩]))
 (.seq (.seq (.cut [0, 3] (.reg [⟨some 9, none, .fad 45 (.t 3) 0⟩,
 ⟨some 10, none, .load 3 (.t 9)⟩,
 ⟨some 11, none, .bin .eql 3 (.t 10) (.c (.i .i64 0))⟩]))
 (.cond (.t 11)
 (.seq (.cut [0] (.reg [⟨some 12, none, .mv (.t 0)⟩,
 ⟨some 13, none, .conv 22 67 (.t 12)⟩,
 ⟨some 14, none, .call (.c (.fn (.func 31) [] [])) [.t 13, .c (.i .i64 10)]⟩,
 ⟨some 15, none, .bsl 52 2 [(0, .c (.s [119, 111, 114, 100])), (1, .t 14)]⟩,
 ⟨some 16, none, .call (.c (.fn (.func 30) [] [])) [.t 15]⟩,
 ⟨some 2, none, .mv (.t 16)⟩]))
 .ret)
 .skip))
 (.seq (.cut [3] (.reg [⟨some 17, none, .fad 45 (.t 3) 0⟩,
 ⟨some 18, none, .load 3 (.t 17)⟩,
 ⟨some 19, none, .call (.c (.fn (.func 32) [] [])) [.t 18]⟩,
 ⟨some 20, none, .bsl 52 1 [(0, .t 19)]⟩,
 ⟨some 4, none, .mv (.t 20)⟩]))
 (.seq (.seq (.cut [3, 4] (.reg [⟨some 21, none, .fad 45 (.t 3) 0⟩,
 ⟨some 22, none, .load 3 (.t 21)⟩,
 ⟨some 23, none, .call (.c (.fn (.func 33) [] [])) [.t 22]⟩,
 ⟨some 24, none, .rng 9 (.t 23)⟩]))
 (.blk 0
 (.loop [3, 4, 24] c13L0)))
 (.seq (.cut [4] (.reg [⟨some 62, none, .mv (.t 4)⟩,
 ⟨some 63, none, .call (.c (.fn (.func 30) [] [])) [.t 62]⟩,
 ⟨some 2, none, .mv (.t 63)⟩]))
 .ret))))))
def F13 : AF := ⟨64, [.t 2], c13⟩
/-- fallow/fallowref08.Print -/
def c14L0 : AC := (.seq (.seq (.cut [3, 4, 5, 6] (.reg [⟨some 22, none, .mv (.t 6)⟩,
 ⟨some 23, none, .mv (.t 5)⟩,
 ⟨some 24, none, .len 9 (.t 23)⟩,
 ⟨some 25, none, .bin .lss 3 (.t 22) (.t 24)⟩]))
 (.cond (.t 25)
 .skip
 (.exit 0)))
 (.seq (.blk 1
 (.seq (.cut [3, 4, 5, 6] (.reg [⟨some 28, none, .mv (.t 5)⟩,
 ⟨some 29, none, .mv (.t 6)⟩,
 ⟨some 30, none, .idx 9 (.t 28) (.t 29)⟩]))
 (.blk 2
 (.seq (.reg [⟨some 38, none, .bin .eql 5 (.t 30) (.c (.i .u8 97))⟩,
 ⟨some 37, none, .mv (.t 38)⟩])
 (.cond (.t 37)
 (.cut [3, 4, 5, 6] (.reg [⟨some 39, none, .mv (.t 4)⟩,
 ⟨some 40, none, .bin .add 9 (.t 39) (.c (.s [32, 99]))⟩,
 ⟨some 41, none, .fad 45 (.t 3) 1⟩,
 ⟨some 42, none, .load 3 (.t 41)⟩,
 ⟨some 43, none, .conv 3 67 (.t 42)⟩,
 ⟨some 44, none, .call (.c (.fn (.func 36) [] [])) [.t 43]⟩,
 ⟨some 45, none, .bin .add 9 (.t 40) (.t 44)⟩,
 ⟨some 4, none, .mv (.t 45)⟩]))
 (.seq (.reg [⟨some 47, none, .bin .eql 5 (.t 30) (.c (.i .u8 98))⟩,
 ⟨some 46, none, .mv (.t 47)⟩])
 (.cond (.t 46)
 (.cut [3, 4, 5, 6] (.reg [⟨some 48, none, .mv (.t 4)⟩,
 ⟨some 49, none, .bin .add 9 (.t 48) (.c (.s [32, 99]))⟩,
 ⟨some 50, none, .fad 45 (.t 3) 2⟩,
 ⟨some 51, none, .load 3 (.t 50)⟩,
 ⟨some 52, none, .conv 3 67 (.t 51)⟩,
 ⟨some 53, none, .call (.c (.fn (.func 36) [] [])) [.t 52]⟩,
 ⟨some 54, none, .bin .add 9 (.t 49) (.t 53)⟩,
 ⟨some 4, none, .mv (.t 54)⟩]))
 (.seq (.reg [⟨some 56, none, .bin .eql 5 (.t 30) (.c (.i .u8 99))⟩,
 ⟨some 55, none, .mv (.t 56)⟩])
 (.cond (.t 55)
 (.cut [3, 4, 5, 6] (.reg [⟨some 57, none, .mv (.t 4)⟩,
 ⟨some 58, none, .bin .add 9 (.t 57) (.c (.s [32, 99]))⟩,
 ⟨some 59, none, .fad 45 (.t 3) 3⟩,
 ⟨some 60, none, .load 3 (.t 59)⟩,
 ⟨some 61, none, .conv 3 67 (.t 60)⟩,
 ⟨some 62, none, .call (.c (.fn (.func 36) [] [])) [.t 61]⟩,
 ⟨some 63, none, .bin .add 9 (.t 58) (.t 62)⟩,
 ⟨some 4, none, .mv (.t 63)⟩]))
 (.cut [3, 4, 5, 6] (.reg [⟨some 31, none, .mv (.t 4)⟩,
 ⟨some 32, none, .bin .add 9 (.t 31) (.c (.s [32]))⟩,
 ⟨some 33, none, .fad 45 (.t 3) 4⟩,
 ⟨some 34, none, .load 3 (.t 33)⟩,
 ⟨some 35, none, .call (.c (.fn (.func 39) [] [])) [.t 34]⟩,
 ⟨some 36, none, .bin .add 9 (.t 32) (.t 35)⟩,
 ⟨some 4, none, .mv (.t 36)⟩])))))))))))
 (.cut [1000000, 3, 4, 5, 6] (.cut [3, 4, 5, 6] (.reg [⟨some 26, none, .mv (.t 6)⟩,
 ⟨some 27, none, .bin .add 3 (.t 26) (.c (.i .i64 1))⟩,
 ⟨some 6, none, .mv (.t 27)⟩])))))
def c14 : AC := (.seq (.reg [⟨some 2, none, .mv (.c (.s []))⟩])
 (.seq (.cut [0] (.reg [⟨some 7, none, .mv (.t 0)⟩,
 ⟨some 8, none, .call (.c (.fn (.func 35) [] [])) [.t 7]⟩,
 ⟨some 3, none, .alloc 45⟩,
 ⟨none, none, .store 45 (.t 3) (.t 8)⟩]))
 (.seq (.seq (.cut [0, 3] (.reg [⟨some 9, none, .fad 45 (.t 3) 0⟩,
 ⟨some 10, none, .load 3 (.t 9)⟩,
 ⟨some 11, none, .bin .eql 3 (.t 10) (.c (.i .i64 0))⟩]))
 (.cond (.t 11)
 (.seq (.cut [0] (.reg [⟨some 12, none, .mv (.t 0)⟩,
 ⟨some 13, none, .conv 22 67 (.t 12)⟩,
 ⟨some 14, none, .call (.c (.fn (.func 36) [] [])) [.t 13]⟩,
 ⟨some 15, none, .bin .add 9 (.c (.s [119, 111, 114, 100, 32])) (.t 14)⟩,
 ⟨some 2, none, .mv (.t 15)⟩]))
 .ret)
 .skip))
 (.seq (.cut [3] (.reg [⟨some 16, none, .fad 45 (.t 3) 0⟩,
 ⟨some 17, none, .load 3 (.t 16)⟩,
 ⟨some 18, none, .call (.c (.fn (.func 37) [] [])) [.t 17]⟩,
 ⟨some 4, none, .mv (.t 18)⟩]))
 (.seq (.cut [3, 4] (.reg [⟨some 19, none, .fad 45 (.t 3) 0⟩,
 ⟨some 20, none, .load 3 (.t 19)⟩,
 ⟨some 21, none, .call (.c (.fn (.func 38) [] [])) [.t 20]⟩,
 ⟨some 5, none, .mv (.t 21)⟩]))
 (.seq (.seq (.reg [⟨some 6, none, .mv (.c (.i .i64 0))⟩])
 (.blk 0
 (.loop [3, 4, 5, 6] c14L0)))
 (.seq (.reg [⟨some 64, none, .mv (.t 4)⟩,
 ⟨some 2, none, .mv (.t 64)⟩])
 .ret)))))))
def F14 : AF := ⟨65, [.t 2], c14⟩
/-- fallow/asm.Disassemble -/
def c15L0 : AC := (.seq (.reg [⟨some 9, none, .bin .lss 3 (.t 8) (.t 7)⟩])
 (.seq (.cond (.t 9)
 .skip
 (.exit 0))
 (.seq (.blk 1
 (.seq (.cut [3, 6, 7, 8] (.reg [⟨some 10, none, .iad 28 (.t 6) (.t 8)⟩,
 ⟨some 11, none, .load 22 (.t 10)⟩,
 ⟨some 5, none, .mv (.t 11)⟩]))
 (.cut [3, 5, 6, 7, 8] (.reg [⟨some 12, none, .mv (.t 5)⟩,
 ⟨some 13, none, .call (.c (.fn (.func 13) [] [])) [.t 12]⟩,
 ⟨some 14, none, .bin .add 9 (.t 13) (.c (.s [10]))⟩,
 ⟨some 15, none, .call (.c (.fn (.func 40) [] [])) [.t 3, .t 14]⟩]))))
 (.reg [⟨some 16, none, .bin .add 3 (.t 8) (.c (.i .i64 1))⟩,
 ⟨some 8, none, .mv (.t 16)⟩]))))
def c15 : AC := (.seq (.reg [⟨some 2, none, .mv (.c (.s []))⟩])
 (.seq (.reg [⟨some 3, none, .alloc 72⟩])
 (.seq (.seq (.cut [0, 3] (.reg [⟨some 6, none, .mv (.t 0)⟩,
 ⟨some 7, none, .len 28 (.t 6)⟩,
 ⟨some 8, none, .mv (.c (.i .i64 0))⟩]))
 (.blk 0
 (.loop [3, 6, 7, 8] c15L0)))
 (.seq (.reg [⟨some 17, none, .call (.c (.fn (.func 41) [] [])) [.t 3]⟩,
 ⟨some 2, none, .mv (.t 17)⟩])
 .ret))))
def F15 : AF := ⟨18, [.t 2], c15⟩
/-- fallow/fallowref08.Disassemble -/
def c16L0 : AC := (.seq (.seq (.cut [0, 3, 4] (.reg [⟨some 5, none, .mv (.t 4)⟩,
 ⟨some 6, none, .mv (.t 0)⟩,
 ⟨some 7, none, .len 28 (.t 6)⟩,
 ⟨some 8, none, .bin .lss 3 (.t 5) (.t 7)⟩]))
 (.cond (.t 8)
 .skip
 (.exit 0)))
 (.seq (.blk 1
 (.cut [0, 3, 4] (.reg [⟨some 11, none, .mv (.t 3)⟩,
 ⟨some 12, none, .mv (.t 0)⟩,
 ⟨some 13, none, .mv (.t 4)⟩,
 ⟨some 14, none, .iad 28 (.t 12) (.t 13)⟩,
 ⟨some 15, none, .load 22 (.t 14)⟩,
 ⟨some 16, none, .call (.c (.fn (.func 14) [] [])) [.t 15]⟩,
 ⟨some 17, none, .bin .add 9 (.t 11) (.t 16)⟩,
 ⟨some 18, none, .bin .add 9 (.t 17) (.c (.s [10]))⟩,
 ⟨some 3, none, .mv (.t 18)⟩])))
 (.cut [0, 3, 4] (.reg [⟨some 9, none, .mv (.t 4)⟩,
 ⟨some 10, none, .bin .add 3 (.t 9) (.c (.i .i64 1))⟩,
 ⟨some 4, none, .mv (.t 10)⟩]))))
def c16 : AC := (.seq (.reg [⟨some 2, none, .mv (.c (.s []))⟩])
 (.seq (.reg [⟨some 3, none, .mv (.c (.s []))⟩])
 (.seq (.seq (.reg [⟨some 4, none, .mv (.c (.i .i64 0))⟩])
 (.blk 0
 (.loop [0, 3, 4] c16L0)))
 (.seq (.reg [⟨some 19, none, .mv (.t 3)⟩,
 ⟨some 2, none, .mv (.t 19)⟩])
 .ret))))
def F16 : AF := ⟨20, [.t 2], c16⟩
/-- fallow/asm.Assemble -/
def c17L0 : AC := (.seq (.reg [⟨some 27, none, .bin .lss 3 (.t 26) (.t 25)⟩])
 (.seq (.cond (.t 27)
 .skip
 (.exit 0))
 (.seq (.blk 1
 (.seq (.cut [4, 5, 6, 24, 25, 26] (.reg [⟨some 28, none, .mv (.t 26)⟩,
 ⟨some 29, none, .iad 52 (.t 24) (.t 26)⟩,
 ⟨some 30, none, .load 9 (.t 29)⟩,
 ⟨some 7, none, .mv (.t 28)⟩,
 ⟨some 8, none, .mv (.t 30)⟩]))
 (.seq (.cut [4, 5, 6, 7, 8, 24, 25, 26] (.reg [⟨some 32, none, .mv (.t 8)⟩,
 ⟨some 33, none, .call (.c (.fn (.func 47) [] [])) [.t 32, .c (.s [59])]⟩,
 ⟨some 31, none, .mv (.t 33)⟩,
 ⟨some 34, none, .ext (.t 31) 0⟩,
 ⟨some 35, none, .ext (.t 31) 1⟩,
 ⟨some 36, none, .ext (.t 31) 2⟩,
 ⟨some 8, none, .mv (.t 34)⟩]))
 (.seq (.cut [4, 5, 6, 7, 8, 24, 25, 26] (.reg [⟨some 37, none, .mv (.t 8)⟩,
 ⟨some 38, none, .call (.c (.fn (.func 25) [] [])) [.t 37]⟩,
 ⟨some 9, none, .mv (.t 38)⟩]))
 (.seq (.cut [4, 5, 6, 7, 9, 24, 25, 26] (.reg [⟨some 39, none, .mv (.t 9)⟩,
 ⟨some 40, none, .len 52 (.t 39)⟩,
 ⟨some 41, none, .bin .gtr 3 (.t 40) (.c (.i .i64 0))⟩]))
 (.cond (.t 41)
 (.seq (.cut [4, 5, 6, 7, 9, 24, 25, 26] (.reg [⟨some 42, none, .mv (.t 6)⟩,
 ⟨some 43, none, .mv (.t 9)⟩,
 ⟨some 44, none, .mv (.t 7)⟩,
 ⟨some 45, none, .call (.t 42) [.t 43, .t 44]⟩,
 ⟨some 10, none, .mv (.t 45)⟩]))
 (.seq (.reg [⟨some 46, none, .mv (.t 10)⟩,
 ⟨some 47, none, .bin .neq 33 (.t 46) (.c (.ic0))⟩])
 (.cond (.t 47)
 (.seq (.cut [10] (.reg [⟨some 48, none, .mv (.t 10)⟩,
 ⟨some 2, none, .mv (.c (.sl0))⟩,
 ⟨some 3, none, .mv (.t 48)⟩]))
 .ret)
 .skip)))
 .skip))))))
 (.reg [⟨some 49, none, .bin .add 3 (.t 26) (.c (.i .i64 1))⟩,
 ⟨some 26, none, .mv (.t 49)⟩]))))
def c17L1 : AC := (.seq (.reg [⟨some 53, none, .bin .lss 3 (.t 52) (.t 51)⟩])
 (.seq (.cond (.t 53)
 .skip
 (.exit 2))
 (.seq (.blk 3
 (.seq (.cut [4, 11, 50, 51, 52] (.reg [⟨some 54, none, .mv (.t 52)⟩,
 ⟨some 55, none, .iad 78 (.t 50) (.t 52)⟩,
 ⟨some 56, none, .load 57 (.t 55)⟩,
 ⟨some 13, none, .alloc 57⟩,
 ⟨some 12, none, .mv (.t 54)⟩,
 ⟨none, none, .store 57 (.t 13) (.t 56)⟩]))
 (.seq (.seq (.cut [4, 11, 12, 13, 50, 51, 52] (.reg [⟨some 57, none, .fad 57 (.t 13) 2⟩,
 ⟨some 58, none, .load 9 (.t 57)⟩,
 ⟨some 59, none, .bin .neq 9 (.t 58) (.c (.s []))⟩]))
 (.cond (.t 59)
 (.seq (.cut [4, 11, 12, 13, 50, 51, 52] (.reg [⟨some 61, none, .load 77 (.t 4)⟩,
 ⟨some 62, none, .fad 57 (.t 13) 2⟩,
 ⟨some 63, none, .load 9 (.t 62)⟩,
 ⟨some 64, none, .lku 77 (.t 61) (.t 63) true⟩,
 ⟨some 60, none, .mv (.t 64)⟩,
 ⟨some 65, none, .ext (.t 60) 0⟩,
 ⟨some 66, none, .ext (.t 60) 1⟩,
 ⟨some 14, none, .mv (.t 65)⟩,
 ⟨some 15, none, .mv (.t 66)⟩]))
 (.seq (.seq (.reg [⟨some 67, none, .mv (.t 15)⟩,
 ⟨some 68, none, .un .not (.t 67)⟩])
 (.cond (.t 68)
 (.seq (.cut [13] (.reg [⟨some 69, none, .fad 57 (.t 13) 3⟩,
 ⟨some 70, none, .load 3 (.t 69)⟩,
 ⟨some 71, none, .call (.c (.fn (.func 42) [] [])) [.c (.i .i64 9), .t 70]⟩,
 ⟨some 2, none, .mv (.c (.sl0))⟩,
 ⟨some 3, none, .mv (.t 71)⟩]))
 .ret)
 .skip))
 (.cut [1000000, 4, 11, 12, 13, 14, 50, 51, 52] (.seq (.cut [4, 11, 12, 13, 14, 50, 51, 52] (.reg [⟨some 72, none, .mv (.t 14)⟩,
 ⟨some 73, none, .mv (.t 12)⟩,
 ⟨some 74, none, .bin .sub 3 (.t 72) (.t 73)⟩,
 ⟨some 75, none, .fad 57 (.t 13) 0⟩,
 ⟨some 76, none, .fad 45 (.t 75) 4⟩,
 ⟨none, none, .store 3 (.t 76) (.t 74)⟩]))
 (.seq (.reg [⟨some 16, none, .mv (.c (.i .i64 0))⟩])
 (.seq (.cut [4, 11, 13, 50, 51, 52] (.reg [⟨some 78, none, .fad 57 (.t 13) 0⟩,
 ⟨some 79, none, .load 45 (.t 78)⟩,
 ⟨some 80, none, .call (.c (.fn (.func 29) [] [])) [.t 79]⟩,
 ⟨some 77, none, .mv (.t 80)⟩,
 ⟨some 81, none, .ext (.t 77) 0⟩,
 ⟨some 82, none, .ext (.t 77) 1⟩,
 ⟨some 83, none, .fad 57 (.t 13) 1⟩,
 ⟨none, none, .store 22 (.t 83) (.t 81)⟩,
 ⟨some 16, none, .mv (.t 82)⟩]))
 (.seq (.reg [⟨some 84, none, .mv (.t 16)⟩,
 ⟨some 85, none, .bin .neq 23 (.t 84) (.c (.i .i64 0))⟩])
 (.cond (.t 85)
 (.seq (.cut [13] (.reg [⟨some 86, none, .fad 57 (.t 13) 3⟩,
 ⟨some 87, none, .load 3 (.t 86)⟩,
 ⟨some 88, none, .call (.c (.fn (.func 42) [] [])) [.c (.i .i64 3), .t 87]⟩,
 ⟨some 2, none, .mv (.c (.sl0))⟩,
 ⟨some 3, none, .mv (.t 88)⟩]))
 .ret)
 .skip))))))))
 .skip))
 (.cut [1000000, 4, 11, 13, 50, 51, 52] (.cut [4, 11, 13, 50, 51, 52] (.reg [⟨some 89, none, .mv (.t 11)⟩,
 ⟨some 90, none, .fad 57 (.t 13) 1⟩,
 ⟨some 91, none, .load 22 (.t 90)⟩,
 ⟨some 92, none, .bsl 28 1 [(0, .t 91)]⟩,
 ⟨some 93, none, .app 28 false (.t 89) (.t 92)⟩,
 ⟨some 11, none, .mv (.t 93)⟩]))))))
 (.reg [⟨some 94, none, .bin .add 3 (.t 52) (.c (.i .i64 1))⟩,
 ⟨some 52, none, .mv (.t 94)⟩]))))
def c17 : AC := (.seq (.reg [⟨some 2, none, .mv (.c (.sl0))⟩,
 ⟨some 3, none, .mv (.c (.ic0))⟩])
 (.seq (.seq (.cut [0] (.reg [⟨some 17, none, .mv (.t 0)⟩,
 ⟨some 18, none, .len 9 (.t 17)⟩,
 ⟨some 19, none, .bin .gtr 3 (.t 18) (.c (.i .i64 32768))⟩]))
 (.cond (.t 19)
 (.seq (.cut [] (.reg [⟨some 20, none, .call (.c (.fn (.func 42) [] [])) [.c (.i .i64 3), .c (.i .i64 0)]⟩,
 ⟨some 2, none, .mv (.c (.sl0))⟩,
 ⟨some 3, none, .mv (.t 20)⟩]))
 .ret)
 .skip))
 (.seq (.cut [0] (.reg [⟨some 21, none, .mkm 77 none⟩,
 ⟨some 4, none, .alloc 77⟩,
 ⟨none, none, .store 77 (.t 4) (.t 21)⟩]))
 (.seq (.reg [⟨some 5, none, .alloc 78⟩])
 (.seq (.reg [⟨some 22, none, .mkf (.func 43) [] [.t 4, .t 5]⟩,
 ⟨some 6, none, .mv (.t 22)⟩])
 (.seq (.seq (.cut [0, 4, 5, 6] (.reg [⟨some 23, none, .mv (.t 0)⟩,
 ⟨some 24, none, .call (.c (.fn (.func 46) [] [])) [.t 23, .c (.s [10])]⟩,
 ⟨some 25, none, .len 52 (.t 24)⟩,
 ⟨some 26, none, .mv (.c (.i .i64 0))⟩]))
 (.blk 0
 (.loop [4, 5, 6, 24, 25, 26] c17L0)))
 (.cut [1000000, 4, 5] (.seq (.reg [⟨some 11, none, .mv (.c (.sl0))⟩])
 (.seq (.seq (.cut [4, 5, 11] (.reg [⟨some 50, none, .load 78 (.t 5)⟩,
 ⟨some 51, none, .len 78 (.t 50)⟩,
 ⟨some 52, none, .mv (.c (.i .i64 0))⟩]))
 (.blk 2
 (.loop [4, 11, 50, 51, 52] c17L1)))
 (.seq (.cut [11] (.reg [⟨some 95, none, .mv (.t 11)⟩,
 ⟨some 2, none, .mv (.t 95)⟩,
 ⟨some 3, none, .mv (.c (.ic0))⟩]))
 .ret))))))))))
def F17 : AF := ⟨96, [.t 2, .t 3], c17⟩
/-- fallow/fallowlaw08.words -/
def c18L0 : AC := (.seq (.seq (.cut [0, 1, 5] (.reg [⟨some 11, none, .mv (.t 5)⟩,
 ⟨some 12, none, .mv (.t 0)⟩,
 ⟨some 13, none, .len 28 (.t 12)⟩,
 ⟨some 14, none, .bin .lss 3 (.t 11) (.t 13)⟩]))
 (.cond (.t 14)
 .skip
 (.exit 0)))
 (.seq (.blk 1
 (.seq (.cut [0, 1, 5] (.drw [(⟨some 17, none, .mv (.t 0)⟩, []),
 (⟨some 18, none, .mv (.t 5)⟩, []),
 (⟨some 19, none, .iad 28 (.t 17) (.t 18)⟩, []),
 (⟨some 20, none, .load 22 (.t 19)⟩, []),
 (⟨some 21, none, .mv (.t 1)⟩, []),
 (⟨some 22, none, .mv (.t 5)⟩, []),
 (⟨some 23, none, .iad 28 (.t 21) (.t 22)⟩, []),
 (⟨some 24, none, .load 22 (.t 23)⟩, []),
 (⟨some 25, none, .bin .neq 22 (.t 20) (.t 24)⟩, [])]))
 (.cond (.t 25)
 (.seq (.reg [⟨some 4, none, .mv (.c (.b false))⟩])
 .ret)
 .skip)))
 (.cut [0, 1, 5] (.reg [⟨some 15, none, .mv (.t 5)⟩,
 ⟨some 16, none, .bin .add 3 (.t 15) (.c (.i .i64 1))⟩,
 ⟨some 5, none, .mv (.t 16)⟩]))))
def c18 : AC := (.seq (.reg [⟨some 4, none, .mv (.c (.b false))⟩])
 (.seq (.seq (.cut [0, 1] (.reg [⟨some 6, none, .mv (.t 0)⟩,
 ⟨some 7, none, .len 28 (.t 6)⟩,
 ⟨some 8, none, .mv (.t 1)⟩,
 ⟨some 9, none, .len 28 (.t 8)⟩,
 ⟨some 10, none, .bin .neq 3 (.t 7) (.t 9)⟩]))
 (.cond (.t 10)
 (.seq (.reg [⟨some 4, none, .mv (.c (.b false))⟩])
 .ret)
 .skip))
 (.seq (.seq (.reg [⟨some 5, none, .mv (.c (.i .i64 0))⟩])
 (.blk 0
 (.loop [0, 1, 5] c18L0)))
 (.seq (.reg [⟨some 4, none, .mv (.c (.b true))⟩])
 .ret))))
def F18 : AF := ⟨26, [.t 4], c18⟩
/-- fallow/isa.Decode -/
def c22L0 : AC := (.seq (.reg [⟨some 20, none, .nxt (.t 19)⟩,
 ⟨some 21, none, .ext (.t 20) 0⟩])
 (.seq (.cond (.t 21)
 .skip
 (.exit 0))
 (.blk 1
 (.seq (.reg [⟨some 22, none, .ext (.t 20) 2⟩,
 ⟨some 7, none, .mv (.t 22)⟩])
 (.seq (.reg [⟨some 23, none, .mv (.t 7)⟩])
 (.blk 2
 (.seq (.reg [⟨some 25, none, .bin .eql 21 (.t 23) (.c (.i .i32 97))⟩,
 ⟨some 24, none, .mv (.t 25)⟩])
 (.cond (.t 24)
 (.cut [1, 2, 3, 4, 5, 19] (.reg [⟨some 26, none, .load 93 (.t 4)⟩,
 ⟨some 27, none, .call (.t 26) [.c (.i .i64 20), .c (.i .i64 4)]⟩,
 ⟨some 28, none, .fad 45 (.t 3) 1⟩,
 ⟨none, none, .store 3 (.t 28) (.t 27)⟩]))
 (.seq (.reg [⟨some 30, none, .bin .eql 21 (.t 23) (.c (.i .i32 98))⟩,
 ⟨some 29, none, .mv (.t 30)⟩])
 (.cond (.t 29)
 (.cut [1, 2, 3, 4, 5, 19] (.reg [⟨some 31, none, .load 93 (.t 4)⟩,
 ⟨some 32, none, .call (.t 31) [.c (.i .i64 16), .c (.i .i64 4)]⟩,
 ⟨some 33, none, .fad 45 (.t 3) 2⟩,
 ⟨none, none, .store 3 (.t 33) (.t 32)⟩]))
 (.seq (.reg [⟨some 35, none, .bin .eql 21 (.t 23) (.c (.i .i32 99))⟩,
 ⟨some 34, none, .mv (.t 35)⟩])
 (.cond (.t 34)
 (.cut [1, 2, 3, 4, 5, 19] (.reg [⟨some 36, none, .load 93 (.t 4)⟩,
 ⟨some 37, none, .call (.t 36) [.c (.i .i64 12), .c (.i .i64 4)]⟩,
 ⟨some 38, none, .fad 45 (.t 3) 3⟩,
 ⟨none, none, .store 3 (.t 38) (.t 37)⟩]))
 (.seq (.reg [⟨some 40, none, .bin .eql 21 (.t 23) (.c (.i .i32 105))⟩,
 ⟨some 39, none, .mv (.t 40)⟩])
 (.cond (.t 39)
 (.cut [1, 2, 3, 4, 5, 19] (.reg [⟨some 41, none, .mv (.t 5)⟩,
 ⟨some 42, none, .call (.t 41) [.c (.i .i64 12)]⟩,
 ⟨some 43, none, .fad 45 (.t 3) 4⟩,
 ⟨none, none, .store 3 (.t 43) (.t 42)⟩]))
 (.seq (.reg [⟨some 45, none, .bin .eql 21 (.t 23) (.c (.i .i32 106))⟩,
 ⟨some 44, none, .mv (.t 45)⟩])
 (.cond (.t 44)
 (.cut [1, 2, 3, 4, 5, 19] (.reg [⟨some 46, none, .mv (.t 5)⟩,
 ⟨some 47, none, .call (.t 46) [.c (.i .i64 20)]⟩,
 ⟨some 48, none, .fad 45 (.t 3) 4⟩,
 ⟨none, none, .store 3 (.t 48) (.t 47)⟩]))
 .skip))))))))))))))))
def c22 : AC := (.seq (.reg [⟨some 1, none, .box 22 (.t 0)⟩,
 ⟨some 2, none, .alloc 45⟩])
 (.seq (.cut [1, 2] (.reg [⟨some 10, none, .load 22 (.t 1)⟩,
 ⟨some 11, none, .bin .shr 22 (.t 10) (.c (.i .u64 24))⟩,
 ⟨some 12, none, .conv 22 3 (.t 11)⟩,
 ⟨some 13, none, .build 45 [(0, .t 12)]⟩,
 ⟨some 3, none, .alloc 45⟩,
 ⟨none, none, .store 45 (.t 3) (.t 13)⟩]))
 (.seq (.cut [1, 2, 3] (.reg [⟨some 14, none, .mkf (.func 54) [] [.t 1]⟩,
 ⟨some 4, none, .alloc 93⟩,
 ⟨none, none, .store 93 (.t 4) (.t 14)⟩]))
 (.seq (.reg [⟨some 15, none, .mkf (.func 55) [] [.t 4]⟩,
 ⟨some 5, none, .mv (.t 15)⟩])
 (.seq (.seq (.cut [1, 2, 3, 4, 5] (.reg [⟨some 16, none, .fad 45 (.t 3) 0⟩,
 ⟨some 17, none, .load 3 (.t 16)⟩,
 ⟨some 18, none, .call (.c (.fn (.func 33) [] [])) [.t 17]⟩,
 ⟨some 19, none, .rng 9 (.t 18)⟩]))
 (.blk 0
 (.loop [1, 2, 3, 4, 5, 19] c22L0)))
 (.cut [1000000, 1, 2, 3] (.seq (.seq (.cut [1, 2, 3] (.reg [⟨some 50, none, .load 45 (.t 3)⟩,
 ⟨some 51, none, .call (.c (.fn (.func 29) [] [])) [.t 50]⟩,
 ⟨some 49, none, .mv (.t 51)⟩,
 ⟨some 52, none, .ext (.t 49) 0⟩,
 ⟨some 53, none, .ext (.t 49) 1⟩,
 ⟨some 8, none, .mv (.t 52)⟩,
 ⟨some 9, none, .mv (.t 53)⟩]))
 (.seq (.cut [1, 2, 3, 8, 9] (.reg [⟨some 54, none, .mv (.t 9)⟩,
 ⟨some 55, none, .bin .neq 23 (.t 54) (.c (.i .i64 0))⟩,
 ⟨some 56, none, .mv (.t 55)⟩,
 ⟨some 57, some (56, false), .mv (.t 8)⟩,
 ⟨some 58, some (56, false), .load 22 (.t 1)⟩,
 ⟨some 59, some (56, false), .bin .neq 22 (.t 57) (.t 58)⟩,
 ⟨some 60, none, .pick (.t 56) (.c (.b true)) (.t 59)⟩]))
 (.cond (.t 60)
 (.seq (.reg [⟨some 61, none, .build 45 []⟩,
 ⟨none, none, .store 45 (.t 2) (.t 61)⟩])
 .ret)
 .skip)))
 (.seq (.reg [⟨some 62, none, .load 45 (.t 3)⟩,
 ⟨none, none, .store 45 (.t 2) (.t 62)⟩])
 .ret))))))))
def F22 : AF := ⟨63, [.cell 2 45], c22⟩
/-- fallow/fallowref08.Assemble -/
def c23L0 : AC := (.seq (.seq (.cut [4, 5, 6, 7, 8, 9] (.reg [⟨some 27, none, .mv (.t 9)⟩,
 ⟨some 28, none, .mv (.t 8)⟩,
 ⟨some 29, none, .len 52 (.t 28)⟩,
 ⟨some 30, none, .bin .lss 3 (.t 27) (.t 29)⟩]))
 (.cond (.t 30)
 .skip
 (.exit 0)))
 (.seq (.blk 1
 (.seq (.cut [4, 5, 6, 7, 8, 9] (.reg [⟨some 33, none, .mv (.t 8)⟩,
 ⟨some 34, none, .mv (.t 9)⟩,
 ⟨some 35, none, .iad 52 (.t 33) (.t 34)⟩,
 ⟨some 36, none, .load 9 (.t 35)⟩,
 ⟨some 37, none, .call (.c (.fn (.func 57) [] [])) [.t 36]⟩,
 ⟨some 38, none, .call (.c (.fn (.func 27) [] [])) [.t 37]⟩,
 ⟨some 10, none, .mv (.t 38)⟩]))
 (.seq (.seq (.cut [4, 5, 6, 7, 8, 9, 10] (.reg [⟨some 39, none, .mv (.t 10)⟩,
 ⟨some 40, none, .len 52 (.t 39)⟩,
 ⟨some 41, none, .bin .eql 3 (.t 40) (.c (.i .i64 0))⟩]))
 (.cond (.t 41)
 (.exit 1)
 .skip))
 (.seq (.cut [4, 5, 6, 7, 8, 9, 10] (.reg [⟨some 42, none, .mv (.t 10)⟩,
 ⟨some 43, none, .iad 52 (.t 42) (.c (.i .i64 0))⟩,
 ⟨some 44, none, .load 9 (.t 43)⟩,
 ⟨some 45, none, .len 9 (.t 44)⟩,
 ⟨some 11, none, .mv (.t 45)⟩]))
 (.seq (.seq (.cut [4, 5, 6, 7, 8, 9, 10, 11] (.reg [⟨some 46, none, .mv (.t 10)⟩,
 ⟨some 47, none, .len 52 (.t 46)⟩,
 ⟨some 48, none, .bin .eql 3 (.t 47) (.c (.i .i64 1))⟩,
 ⟨some 49, none, .mv (.t 48)⟩,
 ⟨some 50, some (49, true), .mv (.t 10)⟩,
 ⟨some 51, some (49, true), .iad 52 (.t 50) (.c (.i .i64 0))⟩,
 ⟨some 52, some (49, true), .load 9 (.t 51)⟩,
 ⟨some 53, some (49, true), .mv (.t 11)⟩,
 ⟨some 54, some (49, true), .bin .sub 3 (.t 53) (.c (.i .i64 1))⟩,
 ⟨some 55, some (49, true), .idx 9 (.t 52) (.t 54)⟩,
 ⟨some 56, some (49, true), .bin .eql 5 (.t 55) (.c (.i .u8 58))⟩,
 ⟨some 57, none, .pick (.t 49) (.t 56) (.c (.b false))⟩,
 ⟨some 58, none, .mv (.t 57)⟩,
 ⟨some 59, some (58, true), .mv (.t 10)⟩,
 ⟨some 60, some (58, true), .iad 52 (.t 59) (.c (.i .i64 0))⟩,
 ⟨some 61, some (58, true), .load 9 (.t 60)⟩,
 ⟨some 62, some (58, true), .mv (.t 11)⟩,
 ⟨some 63, some (58, true), .bin .sub 3 (.t 62) (.c (.i .i64 1))⟩,
 ⟨some 64, some (58, true), .slc 9 (.t 61) none (some (.t 63))⟩,
 ⟨some 65, some (58, true), .call (.c (.fn (.func 58) [] [])) [.t 64]⟩,
 ⟨some 66, none, .pick (.t 58) (.t 65) (.c (.b false))⟩]))
 (.cut [1000000, 4, 5, 6, 7, 8, 9, 10, 11, 66] (.cond (.t 66)
 (.seq (.seq (.cut [4, 5, 6, 7, 8, 9, 10, 11] (.reg [⟨some 67, none, .mv (.t 6)⟩,
 ⟨some 68, none, .mv (.t 10)⟩,
 ⟨some 69, none, .iad 52 (.t 68) (.c (.i .i64 0))⟩,
 ⟨some 70, none, .load 9 (.t 69)⟩,
 ⟨some 71, none, .mv (.t 11)⟩,
 ⟨some 72, none, .bin .sub 3 (.t 71) (.c (.i .i64 1))⟩,
 ⟨some 73, none, .slc 9 (.t 70) none (some (.t 72))⟩,
 ⟨some 74, none, .call (.c (.fn (.func 59) [] [])) [.t 67, .t 73]⟩,
 ⟨some 75, none, .bin .geq 3 (.t 74) (.c (.i .i64 0))⟩]))
 (.cond (.t 75)
 (.seq (.cut [9] (.reg [⟨some 76, none, .mv (.t 9)⟩,
 ⟨some 77, none, .build 54 [(0, .c (.i .i64 11)), (1, .t 76)]⟩,
 ⟨some 78, none, .box 54 (.t 77)⟩,
 ⟨some 2, none, .mv (.c (.sl0))⟩,
 ⟨some 3, none, .mv (.t 78)⟩]))
 .ret)
 .skip))
 (.seq (.cut [4, 5, 6, 7, 8, 9, 10, 11] (.reg [⟨some 79, none, .mv (.t 6)⟩,
 ⟨some 80, none, .mv (.t 10)⟩,
 ⟨some 81, none, .iad 52 (.t 80) (.c (.i .i64 0))⟩,
 ⟨some 82, none, .load 9 (.t 81)⟩,
 ⟨some 83, none, .mv (.t 11)⟩,
 ⟨some 84, none, .bin .sub 3 (.t 83) (.c (.i .i64 1))⟩,
 ⟨some 85, none, .slc 9 (.t 82) none (some (.t 84))⟩,
 ⟨some 86, none, .bsl 52 1 [(0, .t 85)]⟩,
 ⟨some 87, none, .app 52 false (.t 79) (.t 86)⟩,
 ⟨some 6, none, .mv (.t 87)⟩]))
 (.seq (.cut [4, 5, 6, 7, 8, 9] (.reg [⟨some 88, none, .mv (.t 7)⟩,
 ⟨some 89, none, .mv (.t 4)⟩,
 ⟨some 90, none, .len 95 (.t 89)⟩,
 ⟨some 91, none, .bsl 96 1 [(0, .t 90)]⟩,
 ⟨some 92, none, .app 96 false (.t 88) (.t 91)⟩,
 ⟨some 7, none, .mv (.t 92)⟩]))
 (.exit 1))))
 .skip)))
 (.cut [1000000, 4, 5, 6, 7, 8, 9, 10] (.seq (.cut [4, 5, 6, 7, 8, 9, 10] (.reg [⟨some 94, none, .mv (.t 10)⟩,
 ⟨some 95, none, .call (.c (.fn (.func 28) [] [])) [.t 94]⟩,
 ⟨some 93, none, .mv (.t 95)⟩,
 ⟨some 96, none, .ext (.t 93) 0⟩,
 ⟨some 97, none, .ext (.t 93) 1⟩,
 ⟨some 12, none, .alloc 61⟩,
 ⟨none, none, .store 61 (.t 12) (.t 96)⟩,
 ⟨some 13, none, .mv (.t 97)⟩]))
 (.seq (.seq (.reg [⟨some 98, none, .mv (.t 13)⟩,
 ⟨some 99, none, .un .not (.t 98)⟩])
 (.cond (.t 99)
 (.seq (.cut [9] (.reg [⟨some 100, none, .mv (.t 9)⟩,
 ⟨some 101, none, .build 54 [(0, .c (.i .i64 4)), (1, .t 100)]⟩,
 ⟨some 102, none, .box 54 (.t 101)⟩,
 ⟨some 2, none, .mv (.c (.sl0))⟩,
 ⟨some 3, none, .mv (.t 102)⟩]))
 .ret)
 .skip))
 (.seq (.seq (.cut [4, 5, 6, 7, 8, 9, 12] (.reg [⟨some 103, none, .mv (.t 4)⟩,
 ⟨some 104, none, .len 95 (.t 103)⟩,
 ⟨some 105, none, .bin .geq 3 (.t 104) (.c (.i .i64 4096))⟩]))
 (.cond (.t 105)
 (.seq (.cut [9] (.reg [⟨some 106, none, .mv (.t 9)⟩,
 ⟨some 107, none, .build 54 [(0, .c (.i .i64 3)), (1, .t 106)]⟩,
 ⟨some 108, none, .box 54 (.t 107)⟩,
 ⟨some 2, none, .mv (.c (.sl0))⟩,
 ⟨some 3, none, .mv (.t 108)⟩]))
 .ret)
 .skip))
 (.seq (.cut [4, 5, 6, 7, 8, 9, 12] (.reg [⟨some 109, none, .mv (.t 4)⟩,
 ⟨some 110, none, .load 61 (.t 12)⟩,
 ⟨some 111, none, .bsl 95 1 [(0, .t 110)]⟩,
 ⟨some 112, none, .app 95 false (.t 109) (.t 111)⟩,
 ⟨some 4, none, .mv (.t 112)⟩]))
 (.cut [4, 5, 6, 7, 8, 9] (.reg [⟨some 113, none, .mv (.t 5)⟩,
 ⟨some 114, none, .mv (.t 9)⟩,
 ⟨some 115, none, .bsl 96 1 [(0, .t 114)]⟩,
 ⟨some 116, none, .app 96 false (.t 113) (.t 115)⟩,
 ⟨some 5, none, .mv (.t 116)⟩]))))))))))))
 (.cut [1000000, 4, 5, 6, 7, 8, 9] (.cut [4, 5, 6, 7, 8, 9] (.reg [⟨some 31, none, .mv (.t 9)⟩,
 ⟨some 32, none, .bin .add 3 (.t 31) (.c (.i .i64 1))⟩,
 ⟨some 9, none, .mv (.t 32)⟩])))))
def c23L1 : AC := (.seq (.seq (.cut [4, 5, 6, 7, 14, 15] (.reg [⟨some 117, none, .mv (.t 15)⟩,
 ⟨some 118, none, .mv (.t 4)⟩,
 ⟨some 119, none, .len 95 (.t 118)⟩,
 ⟨some 120, none, .bin .lss 3 (.t 117) (.t 119)⟩]))
 (.cond (.t 120)
 .skip
 (.exit 2)))
 (.seq (.blk 3
 (.seq (.cut [4, 5, 6, 7, 14, 15] (.reg [⟨some 123, none, .mv (.t 4)⟩,
 ⟨some 124, none, .mv (.t 15)⟩,
 ⟨some 125, none, .iad 95 (.t 123) (.t 124)⟩,
 ⟨some 126, none, .load 61 (.t 125)⟩,
 ⟨some 16, none, .alloc 61⟩,
 ⟨none, none, .store 61 (.t 16) (.t 126)⟩]))
 (.seq (.seq (.cut [4, 5, 6, 7, 14, 15, 16] (.reg [⟨some 127, none, .fad 61 (.t 16) 2⟩,
 ⟨some 128, none, .load 9 (.t 127)⟩,
 ⟨some 129, none, .bin .neq 9 (.t 128) (.c (.s []))⟩]))
 (.cond (.t 129)
 (.seq (.cut [4, 5, 6, 7, 14, 15, 16] (.reg [⟨some 130, none, .mv (.t 6)⟩,
 ⟨some 131, none, .fad 61 (.t 16) 2⟩,
 ⟨some 132, none, .load 9 (.t 131)⟩,
 ⟨some 133, none, .call (.c (.fn (.func 59) [] [])) [.t 130, .t 132]⟩,
 ⟨some 17, none, .mv (.t 133)⟩]))
 (.seq (.seq (.reg [⟨some 134, none, .mv (.t 17)⟩,
 ⟨some 135, none, .bin .lss 3 (.t 134) (.c (.i .i64 0))⟩])
 (.cond (.t 135)
 (.seq (.cut [5, 15] (.drw [(⟨some 136, none, .mv (.t 5)⟩, []),
 (⟨some 137, none, .mv (.t 15)⟩, []),
 (⟨some 138, none, .iad 96 (.t 136) (.t 137)⟩, []),
 (⟨some 139, none, .load 3 (.t 138)⟩, []),
 (⟨some 140, none, .build 54 [(0, .c (.i .i64 9)), (1, .t 139)]⟩, []),
 (⟨some 2, none, .mv (.c (.sl0))⟩, []),
 (⟨some 141, none, .box 54 (.t 140)⟩, []),
 (⟨some 3, none, .mv (.t 141)⟩, [])]))
 .ret)
 .skip))
 (.cut [1000000, 4, 5, 6, 7, 14, 15, 16, 17] (.seq (.cut [4, 5, 6, 7, 14, 15, 16, 17] (.reg [⟨some 142, none, .mv (.t 7)⟩,
 ⟨some 143, none, .mv (.t 17)⟩,
 ⟨some 144, none, .iad 96 (.t 142) (.t 143)⟩,
 ⟨some 145, none, .load 3 (.t 144)⟩,
 ⟨some 146, none, .mv (.t 15)⟩,
 ⟨some 147, none, .bin .sub 3 (.t 145) (.t 146)⟩,
 ⟨some 148, none, .fad 61 (.t 16) 1⟩,
 ⟨some 149, none, .fad 45 (.t 148) 4⟩,
 ⟨none, none, .store 3 (.t 149) (.t 147)⟩]))
 (.seq (.cut [4, 5, 6, 7, 14, 15, 16] (.reg [⟨some 151, none, .fad 61 (.t 16) 1⟩,
 ⟨some 152, none, .load 45 (.t 151)⟩,
 ⟨some 153, none, .call (.c (.fn (.func 60) [] [])) [.t 152]⟩,
 ⟨some 150, none, .mv (.t 153)⟩,
 ⟨some 154, none, .ext (.t 150) 0⟩,
 ⟨some 155, none, .ext (.t 150) 1⟩,
 ⟨some 18, none, .mv (.t 154)⟩,
 ⟨some 19, none, .mv (.t 155)⟩]))
 (.seq (.seq (.reg [⟨some 156, none, .mv (.t 19)⟩,
 ⟨some 157, none, .bin .neq 23 (.t 156) (.c (.i .i64 0))⟩])
 (.cond (.t 157)
 (.seq (.cut [5, 15] (.drw [(⟨some 158, none, .mv (.t 5)⟩, []),
 (⟨some 159, none, .mv (.t 15)⟩, []),
 (⟨some 160, none, .iad 96 (.t 158) (.t 159)⟩, []),
 (⟨some 161, none, .load 3 (.t 160)⟩, []),
 (⟨some 162, none, .build 54 [(0, .c (.i .i64 3)), (1, .t 161)]⟩, []),
 (⟨some 2, none, .mv (.c (.sl0))⟩, []),
 (⟨some 163, none, .box 54 (.t 162)⟩, []),
 (⟨some 3, none, .mv (.t 163)⟩, [])]))
 .ret)
 .skip))
 (.cut [4, 5, 6, 7, 14, 15, 16, 18] (.reg [⟨some 164, none, .mv (.t 18)⟩,
 ⟨some 165, none, .fad 61 (.t 16) 0⟩,
 ⟨none, none, .store 22 (.t 165) (.t 164)⟩]))))))))
 .skip))
 (.cut [1000000, 4, 5, 6, 7, 14, 15, 16] (.cut [4, 5, 6, 7, 14, 15, 16] (.reg [⟨some 166, none, .mv (.t 14)⟩,
 ⟨some 167, none, .fad 61 (.t 16) 0⟩,
 ⟨some 168, none, .load 22 (.t 167)⟩,
 ⟨some 169, none, .bsl 28 1 [(0, .t 168)]⟩,
 ⟨some 170, none, .app 28 false (.t 166) (.t 169)⟩,
 ⟨some 14, none, .mv (.t 170)⟩]))))))
 (.cut [4, 5, 6, 7, 14, 15] (.reg [⟨some 121, none, .mv (.t 15)⟩,
 ⟨some 122, none, .bin .add 3 (.t 121) (.c (.i .i64 1))⟩,
 ⟨some 15, none, .mv (.t 122)⟩]))))
def c23 : AC := (.seq (.reg [⟨some 2, none, .mv (.c (.sl0))⟩,
 ⟨some 3, none, .mv (.c (.p0))⟩])
 (.seq (.seq (.cut [0] (.reg [⟨some 20, none, .mv (.t 0)⟩,
 ⟨some 21, none, .len 9 (.t 20)⟩,
 ⟨some 22, none, .bin .gtr 3 (.t 21) (.c (.i .i64 32768))⟩]))
 (.cond (.t 22)
 (.seq (.cut [] (.reg [⟨some 23, none, .build 54 [(0, .c (.i .i64 3))]⟩,
 ⟨some 24, none, .box 54 (.t 23)⟩,
 ⟨some 2, none, .mv (.c (.sl0))⟩,
 ⟨some 3, none, .mv (.t 24)⟩]))
 .ret)
 .skip))
 (.seq (.reg [⟨some 4, none, .mv (.c (.sl0))⟩])
 (.seq (.reg [⟨some 5, none, .mv (.c (.sl0))⟩])
 (.seq (.reg [⟨some 6, none, .mv (.c (.sl0))⟩])
 (.seq (.reg [⟨some 7, none, .mv (.c (.sl0))⟩])
 (.seq (.cut [0, 4, 5, 6, 7] (.reg [⟨some 25, none, .mv (.t 0)⟩,
 ⟨some 26, none, .call (.c (.fn (.func 56) [] [])) [.t 25]⟩,
 ⟨some 8, none, .mv (.t 26)⟩]))
 (.seq (.seq (.reg [⟨some 9, none, .mv (.c (.i .i64 0))⟩])
 (.blk 0
 (.loop [4, 5, 6, 7, 8, 9] c23L0)))
 (.seq (.reg [⟨some 14, none, .mv (.c (.sl0))⟩])
 (.seq (.seq (.reg [⟨some 15, none, .mv (.c (.i .i64 0))⟩])
 (.blk 2
 (.loop [4, 5, 6, 7, 14, 15] c23L1)))
 (.seq (.cut [14] (.reg [⟨some 171, none, .mv (.t 14)⟩,
 ⟨some 2, none, .mv (.t 171)⟩,
 ⟨some 3, none, .mv (.c (.p0))⟩]))
 .ret)))))))))))
def F23 : AF := ⟨172, [.t 2, .t 3], c23⟩
/-- fallow/fallowlaw08.told -/
def c24 : AC := (.seq (.reg [⟨some 4, none, .mv (.c (.b false))⟩])
 (.seq (.seq (.cut [0, 1] (.reg [⟨some 6, none, .mv (.t 0)⟩,
 ⟨some 7, none, .bin .eql 33 (.t 6) (.c (.ic0))⟩,
 ⟨some 8, none, .mv (.t 7)⟩,
 ⟨some 9, some (8, false), .mv (.t 1)⟩,
 ⟨some 10, some (8, false), .bin .eql 48 (.t 9) (.c (.p0))⟩,
 ⟨some 11, none, .pick (.t 8) (.c (.b true)) (.t 10)⟩]))
 (.cond (.t 11)
 (.seq (.cut [0, 1] (.reg [⟨some 12, none, .mv (.t 0)⟩,
 ⟨some 13, none, .bin .eql 33 (.t 12) (.c (.ic0))⟩,
 ⟨some 14, none, .mv (.t 13)⟩,
 ⟨some 15, some (14, true), .mv (.t 1)⟩,
 ⟨some 16, some (14, true), .bin .eql 48 (.t 15) (.c (.p0))⟩,
 ⟨some 17, none, .pick (.t 14) (.t 16) (.c (.b false))⟩,
 ⟨some 4, none, .mv (.t 17)⟩]))
 .ret)
 .skip))
 (.seq (.reg [⟨some 5, none, .alloc 48⟩])
 (.seq (.cut [0, 1, 5] (.drw [(⟨some 18, none, .mv (.t 0)⟩, []),
 (⟨some 19, none, .mki 100 (.t 5)⟩, []),
 (⟨some 20, none, .call (.c (.fn (.func 61) [] [])) [.t 18, .t 19]⟩, []),
 (⟨some 21, none, .mv (.t 20)⟩, []),
 (⟨some 22, some (21, true), .load 48 (.t 5)⟩, []),
 (⟨some 23, some (21, true), .nilck (.t 22)⟩, []),
 (⟨some 24, some (21, true), .fad 54 (.t 23) 0⟩, []),
 (⟨some 25, some (21, true), .load 23 (.t 24)⟩, []),
 (⟨some 26, some (21, true), .mv (.t 1)⟩, []),
 (⟨some 27, some (21, true), .nilck (.t 26)⟩, []),
 (⟨some 28, some (21, true), .fad 54 (.t 27) 0⟩, []),
 (⟨some 29, some (21, true), .load 23 (.t 28)⟩, []),
 (⟨some 30, some (21, true), .bin .eql 23 (.t 25) (.t 29)⟩, []),
 (⟨some 31, none, .pick (.t 21) (.t 30) (.c (.b false))⟩, []),
 (⟨some 32, none, .mv (.t 31)⟩, []),
 (⟨some 33, some (32, true), .load 48 (.t 5)⟩, []),
 (⟨some 34, some (32, true), .nilck (.t 33)⟩, []),
 (⟨some 35, some (32, true), .fad 54 (.t 34) 1⟩, []),
 (⟨some 36, some (32, true), .load 3 (.t 35)⟩, []),
 (⟨some 37, some (32, true), .mv (.t 1)⟩, []),
 (⟨some 38, some (32, true), .nilck (.t 37)⟩, []),
 (⟨some 39, some (32, true), .fad 54 (.t 38) 1⟩, []),
 (⟨some 40, some (32, true), .load 3 (.t 39)⟩, []),
 (⟨some 41, some (32, true), .bin .eql 3 (.t 36) (.t 40)⟩, []),
 (⟨some 42, none, .pick (.t 32) (.t 41) (.c (.b false))⟩, []),
 (⟨some 43, none, .mv (.t 42)⟩, []),
 (⟨some 44, some (43, true), .mv (.t 0)⟩, []),
 (⟨some 45, some (43, true), .mv (.t 1)⟩, []),
 (⟨some 46, some (43, true), .nilck (.t 45)⟩, []),
 (⟨some 47, some (43, true), .fad 54 (.t 46) 0⟩, []),
 (⟨some 48, some (43, true), .load 23 (.t 47)⟩, []),
 (⟨some 49, some (43, true), .mki 23 (.t 48)⟩, []),
 (⟨some 50, some (43, true), .call (.c (.fn (.func 62) [] [])) [.t 44, .t 49]⟩, []),
 (⟨some 51, none, .pick (.t 43) (.t 50) (.c (.b false))⟩, []),
 (⟨some 4, none, .mv (.t 51)⟩, [])]))
 (.cut [1000000, 4] .ret)))))
def F24 : AF := ⟨52, [.t 4], c24⟩
/-- fallow/asm.split -/
def c25 : AC := (.seq (.reg [⟨some 2, none, .mv (.c (.sl0))⟩])
 (.seq (.cut [0] (.reg [⟨some 3, none, .mv (.t 0)⟩,
 ⟨some 4, none, .call (.c (.fn (.func 63) [] [])) [.t 3, .c (.fn (.func 64) [] [])]⟩,
 ⟨some 2, none, .mv (.t 4)⟩]))
 .ret))
def F25 : AF := ⟨5, [.t 2], c25⟩
/-- fallow/asm.read -/
def c26L0 : AC := (.seq (.reg [⟨some 65, none, .nxt (.t 64)⟩,
 ⟨some 66, none, .ext (.t 65) 0⟩])
 (.seq (.cond (.t 66)
 .skip
 (.exit 0))
 (.blk 1
 (.seq (.cut [0, 2, 6, 64, 65] (.reg [⟨some 67, none, .ext (.t 65) 1⟩,
 ⟨some 68, none, .ext (.t 65) 2⟩,
 ⟨some 8, none, .mv (.t 67)⟩,
 ⟨some 9, none, .mv (.t 68)⟩]))
 (.seq (.cut [0, 2, 6, 8, 9, 64] (.reg [⟨some 69, none, .mv (.t 0)⟩,
 ⟨some 70, none, .mv (.t 8)⟩,
 ⟨some 71, none, .bin .add 3 (.t 70) (.c (.i .i64 1))⟩,
 ⟨some 72, none, .iad 52 (.t 69) (.t 71)⟩,
 ⟨some 73, none, .load 9 (.t 72)⟩,
 ⟨some 10, none, .mv (.t 73)⟩]))
 (.seq (.reg [⟨some 11, none, .mv (.c (.b false))⟩])
 (.seq (.seq (.reg [⟨some 74, none, .mv (.t 9)⟩])
 (.blk 2
 (.seq (.reg [⟨some 99, none, .bin .eql 21 (.t 74) (.c (.i .i32 97))⟩,
 ⟨some 98, none, .mv (.t 99)⟩])
 (.cond (.t 98)
 (.cut [0, 2, 6, 10, 64] (.reg [⟨some 101, none, .mv (.t 10)⟩,
 ⟨some 102, none, .call (.c (.fn (.func 67) [] [])) [.t 101]⟩,
 ⟨some 100, none, .mv (.t 102)⟩,
 ⟨some 103, none, .ext (.t 100) 0⟩,
 ⟨some 104, none, .ext (.t 100) 1⟩,
 ⟨some 105, none, .fad 57 (.t 6) 0⟩,
 ⟨some 106, none, .fad 45 (.t 105) 1⟩,
 ⟨none, none, .store 3 (.t 106) (.t 103)⟩,
 ⟨some 11, none, .mv (.t 104)⟩]))
 (.seq (.reg [⟨some 108, none, .bin .eql 21 (.t 74) (.c (.i .i32 98))⟩,
 ⟨some 107, none, .mv (.t 108)⟩])
 (.cond (.t 107)
 (.cut [0, 2, 6, 10, 64] (.reg [⟨some 110, none, .mv (.t 10)⟩,
 ⟨some 111, none, .call (.c (.fn (.func 67) [] [])) [.t 110]⟩,
 ⟨some 109, none, .mv (.t 111)⟩,
 ⟨some 112, none, .ext (.t 109) 0⟩,
 ⟨some 113, none, .ext (.t 109) 1⟩,
 ⟨some 114, none, .fad 57 (.t 6) 0⟩,
 ⟨some 115, none, .fad 45 (.t 114) 2⟩,
 ⟨none, none, .store 3 (.t 115) (.t 112)⟩,
 ⟨some 11, none, .mv (.t 113)⟩]))
 (.seq (.reg [⟨some 117, none, .bin .eql 21 (.t 74) (.c (.i .i32 99))⟩,
 ⟨some 116, none, .mv (.t 117)⟩])
 (.cond (.t 116)
 (.cut [0, 2, 6, 10, 64] (.reg [⟨some 119, none, .mv (.t 10)⟩,
 ⟨some 120, none, .call (.c (.fn (.func 67) [] [])) [.t 119]⟩,
 ⟨some 118, none, .mv (.t 120)⟩,
 ⟨some 121, none, .ext (.t 118) 0⟩,
 ⟨some 122, none, .ext (.t 118) 1⟩,
 ⟨some 123, none, .fad 57 (.t 6) 0⟩,
 ⟨some 124, none, .fad 45 (.t 123) 3⟩,
 ⟨none, none, .store 3 (.t 124) (.t 121)⟩,
 ⟨some 11, none, .mv (.t 122)⟩]))
 (.seq (.cut [0, 2, 6, 10, 64] (.reg [⟨some 76, none, .mv (.t 10)⟩,
 ⟨some 77, none, .call (.c (.fn (.func 65) [] [])) [.t 76]⟩,
 ⟨some 75, none, .mv (.t 77)⟩,
 ⟨some 78, none, .ext (.t 75) 0⟩,
 ⟨some 79, none, .ext (.t 75) 1⟩,
 ⟨some 80, none, .fad 57 (.t 6) 0⟩,
 ⟨some 81, none, .fad 45 (.t 80) 4⟩,
 ⟨none, none, .store 3 (.t 81) (.t 78)⟩,
 ⟨some 11, none, .mv (.t 79)⟩]))
 (.cut [1000000, 0, 2, 6, 10, 11, 64] (.seq (.cut [0, 2, 6, 10, 11, 64] (.reg [⟨some 82, none, .mv (.t 11)⟩,
 ⟨some 83, none, .un .not (.t 82)⟩,
 ⟨some 84, none, .mv (.t 83)⟩,
 ⟨some 85, some (84, true), .fad 57 (.t 6) 0⟩,
 ⟨some 86, some (84, true), .fad 45 (.t 85) 0⟩,
 ⟨some 87, some (84, true), .load 3 (.t 86)⟩,
 ⟨some 88, some (84, true), .call (.c (.fn (.func 68) [] [])) [.t 87]⟩,
 ⟨some 89, none, .pick (.t 84) (.t 88) (.c (.b false))⟩,
 ⟨some 90, none, .mv (.t 89)⟩,
 ⟨some 91, some (90, true), .mv (.t 10)⟩,
 ⟨some 92, some (90, true), .call (.c (.fn (.func 45) [] [])) [.t 91]⟩,
 ⟨some 93, none, .pick (.t 90) (.t 92) (.c (.b false))⟩]))
 (.cond (.t 93)
 (.cut [0, 2, 6, 10, 64] (.reg [⟨some 94, none, .mv (.t 10)⟩,
 ⟨some 95, none, .fad 57 (.t 6) 0⟩,
 ⟨some 96, none, .fad 45 (.t 95) 4⟩,
 ⟨none, none, .store 3 (.t 96) (.c (.i .i64 0))⟩,
 ⟨some 97, none, .fad 57 (.t 6) 2⟩,
 ⟨none, none, .store 9 (.t 97) (.t 94)⟩,
 ⟨some 11, none, .mv (.c (.b true))⟩]))
 .skip))))))))))))
 (.cut [1000000, 0, 2, 6, 11, 64] (.seq (.reg [⟨some 125, none, .mv (.t 11)⟩,
 ⟨some 126, none, .un .not (.t 125)⟩])
 (.cond (.t 126)
 (.seq (.cut [2] (.reg [⟨some 127, none, .build 57 []⟩,
 ⟨none, none, .store 57 (.t 2) (.t 127)⟩,
 ⟨some 3, none, .mv (.c (.b false))⟩]))
 .ret)
 .skip))))))))))
def c26 : AC := (.seq (.reg [⟨some 2, none, .alloc 57⟩,
 ⟨some 3, none, .mv (.c (.b false))⟩])
 (.seq (.seq (.cut [0, 2] (.reg [⟨some 13, none, .mv (.t 0)⟩,
 ⟨some 14, none, .iad 52 (.t 13) (.c (.i .i64 0))⟩,
 ⟨some 15, none, .load 9 (.t 14)⟩,
 ⟨some 16, none, .bin .eql 9 (.t 15) (.c (.s [119, 111, 114, 100]))⟩]))
 (.cond (.t 16)
 (.seq (.seq (.cut [0, 2] (.reg [⟨some 17, none, .mv (.t 0)⟩,
 ⟨some 18, none, .len 52 (.t 17)⟩,
 ⟨some 19, none, .bin .neq 3 (.t 18) (.c (.i .i64 2))⟩]))
 (.cond (.t 19)
 (.seq (.cut [2] (.reg [⟨some 20, none, .build 57 []⟩,
 ⟨none, none, .store 57 (.t 2) (.t 20)⟩,
 ⟨some 3, none, .mv (.c (.b false))⟩]))
 .ret)
 .skip))
 (.seq (.cut [0, 2] (.reg [⟨some 22, none, .mv (.t 0)⟩,
 ⟨some 23, none, .iad 52 (.t 22) (.c (.i .i64 1))⟩,
 ⟨some 24, none, .load 9 (.t 23)⟩,
 ⟨some 25, none, .call (.c (.fn (.func 65) [] [])) [.t 24]⟩,
 ⟨some 21, none, .mv (.t 25)⟩,
 ⟨some 26, none, .ext (.t 21) 0⟩,
 ⟨some 27, none, .ext (.t 21) 1⟩,
 ⟨some 4, none, .mv (.t 26)⟩,
 ⟨some 5, none, .mv (.t 27)⟩]))
 (.seq (.cut [2, 4, 5] (.reg [⟨some 28, none, .mv (.t 4)⟩,
 ⟨some 29, none, .conv 3 22 (.t 28)⟩,
 ⟨some 30, none, .build 57 [(1, .t 29)]⟩,
 ⟨some 31, none, .mv (.t 5)⟩,
 ⟨some 32, none, .mv (.t 31)⟩,
 ⟨some 33, some (32, true), .mv (.t 4)⟩,
 ⟨some 34, some (32, true), .bin .geq 3 (.t 33) (.c (.i .i64 0))⟩,
 ⟨some 35, none, .pick (.t 32) (.t 34) (.c (.b false))⟩,
 ⟨some 36, none, .mv (.t 35)⟩,
 ⟨some 37, some (36, true), .mv (.t 4)⟩,
 ⟨some 38, some (36, true), .bin .lss 3 (.t 37) (.c (.i .i64 4294967296))⟩,
 ⟨some 39, none, .pick (.t 36) (.t 38) (.c (.b false))⟩,
 ⟨none, none, .store 57 (.t 2) (.t 30)⟩,
 ⟨some 3, none, .mv (.t 39)⟩]))
 .ret)))
 .skip))
 (.cut [1000000, 0, 2] (.seq (.reg [⟨some 6, none, .alloc 57⟩])
 (.seq (.cut [0, 2, 6] (.reg [⟨some 40, none, .mv (.t 0)⟩,
 ⟨some 41, none, .iad 52 (.t 40) (.c (.i .i64 0))⟩,
 ⟨some 42, none, .load 9 (.t 41)⟩,
 ⟨some 43, none, .call (.c (.fn (.func 66) [] [])) [.t 42]⟩,
 ⟨some 44, none, .fad 57 (.t 6) 0⟩,
 ⟨some 45, none, .fad 45 (.t 44) 0⟩,
 ⟨none, none, .store 3 (.t 45) (.t 43)⟩]))
 (.seq (.cut [0, 2, 6] (.reg [⟨some 46, none, .fad 57 (.t 6) 0⟩,
 ⟨some 47, none, .fad 45 (.t 46) 0⟩,
 ⟨some 48, none, .load 3 (.t 47)⟩,
 ⟨some 49, none, .call (.c (.fn (.func 33) [] [])) [.t 48]⟩,
 ⟨some 7, none, .mv (.t 49)⟩]))
 (.seq (.seq (.cut [0, 2, 6, 7] (.reg [⟨some 50, none, .fad 57 (.t 6) 0⟩,
 ⟨some 51, none, .fad 45 (.t 50) 0⟩,
 ⟨some 52, none, .load 3 (.t 51)⟩,
 ⟨some 53, none, .bin .eql 3 (.t 52) (.c (.i .i64 0))⟩,
 ⟨some 54, none, .mv (.t 53)⟩,
 ⟨some 55, some (54, false), .mv (.t 0)⟩,
 ⟨some 56, some (54, false), .len 52 (.t 55)⟩,
 ⟨some 57, some (54, false), .mv (.t 7)⟩,
 ⟨some 58, some (54, false), .len 9 (.t 57)⟩,
 ⟨some 59, some (54, false), .bin .add 3 (.c (.i .i64 1)) (.t 58)⟩,
 ⟨some 60, some (54, false), .bin .neq 3 (.t 56) (.t 59)⟩,
 ⟨some 61, none, .pick (.t 54) (.c (.b true)) (.t 60)⟩]))
 (.cond (.t 61)
 (.seq (.cut [2] (.reg [⟨some 62, none, .build 57 []⟩,
 ⟨none, none, .store 57 (.t 2) (.t 62)⟩,
 ⟨some 3, none, .mv (.c (.b false))⟩]))
 .ret)
 .skip))
 (.cut [1000000, 0, 2, 6, 7] (.seq (.seq (.reg [⟨some 63, none, .mv (.t 7)⟩,
 ⟨some 64, none, .rng 9 (.t 63)⟩])
 (.blk 0
 (.loop [0, 2, 6, 64] c26L0)))
 (.seq (.reg [⟨some 12, none, .mv (.c (.i .i64 0))⟩])
 (.seq (.cut [2, 6] (.reg [⟨some 129, none, .fad 57 (.t 6) 0⟩,
 ⟨some 130, none, .load 45 (.t 129)⟩,
 ⟨some 131, none, .call (.c (.fn (.func 29) [] [])) [.t 130]⟩,
 ⟨some 128, none, .mv (.t 131)⟩,
 ⟨some 132, none, .ext (.t 128) 0⟩,
 ⟨some 133, none, .ext (.t 128) 1⟩,
 ⟨some 134, none, .fad 57 (.t 6) 1⟩,
 ⟨none, none, .store 22 (.t 134) (.t 132)⟩,
 ⟨some 12, none, .mv (.t 133)⟩]))
 (.seq (.cut [2, 6, 12] (.reg [⟨some 135, none, .load 57 (.t 6)⟩,
 ⟨some 136, none, .mv (.t 12)⟩,
 ⟨some 137, none, .bin .eql 23 (.t 136) (.c (.i .i64 0))⟩,
 ⟨none, none, .store 57 (.t 2) (.t 135)⟩,
 ⟨some 3, none, .mv (.t 137)⟩]))
 .ret))))))))))))
def F26 : AF := ⟨138, [.cell 2 57, .t 3], c26⟩
/-- fallow/fallowref08.words -/
def c27L0 : AC := (.seq (.seq (.cut [0, 3, 4, 5] (.reg [⟨some 6, none, .mv (.t 5)⟩,
 ⟨some 7, none, .mv (.t 0)⟩,
 ⟨some 8, none, .len 9 (.t 7)⟩,
 ⟨some 9, none, .bin .lss 3 (.t 6) (.t 8)⟩]))
 (.cond (.t 9)
 .skip
 (.exit 0)))
 (.seq (.blk 1
 (.seq (.seq (.cut [0, 3, 4, 5] (.reg [⟨some 12, none, .mv (.t 0)⟩,
 ⟨some 13, none, .mv (.t 5)⟩,
 ⟨some 14, none, .idx 9 (.t 12) (.t 13)⟩,
 ⟨some 15, none, .bin .neq 5 (.t 14) (.c (.i .u8 32))⟩]))
 (.cond (.t 15)
 (.seq (.cut [0, 3, 4, 5] (.reg [⟨some 16, none, .mv (.t 4)⟩,
 ⟨some 17, none, .mv (.t 0)⟩,
 ⟨some 18, none, .mv (.t 5)⟩,
 ⟨some 19, none, .mv (.t 5)⟩,
 ⟨some 20, none, .bin .add 3 (.t 19) (.c (.i .i64 1))⟩,
 ⟨some 21, none, .slc 9 (.t 17) (some (.t 18)) (some (.t 20))⟩,
 ⟨some 22, none, .bin .add 9 (.t 16) (.t 21)⟩,
 ⟨some 4, none, .mv (.t 22)⟩]))
 (.exit 1))
 .skip))
 (.seq (.seq (.reg [⟨some 23, none, .mv (.t 4)⟩,
 ⟨some 24, none, .bin .neq 9 (.t 23) (.c (.s []))⟩])
 (.cond (.t 24)
 (.cut [0, 3, 4, 5] (.reg [⟨some 25, none, .mv (.t 3)⟩,
 ⟨some 26, none, .mv (.t 4)⟩,
 ⟨some 27, none, .bsl 52 1 [(0, .t 26)]⟩,
 ⟨some 28, none, .app 52 false (.t 25) (.t 27)⟩,
 ⟨some 3, none, .mv (.t 28)⟩]))
 .skip))
 (.reg [⟨some 4, none, .mv (.c (.s []))⟩]))))
 (.cut [1000000, 0, 3, 4, 5] (.cut [0, 3, 4, 5] (.reg [⟨some 10, none, .mv (.t 5)⟩,
 ⟨some 11, none, .bin .add 3 (.t 10) (.c (.i .i64 1))⟩,
 ⟨some 5, none, .mv (.t 11)⟩])))))
def c27 : AC := (.seq (.reg [⟨some 2, none, .mv (.c (.sl0))⟩])
 (.seq (.reg [⟨some 3, none, .mv (.c (.sl0))⟩])
 (.seq (.reg [⟨some 4, none, .mv (.c (.s []))⟩])
 (.seq (.seq (.reg [⟨some 5, none, .mv (.c (.i .i64 0))⟩])
 (.blk 0
 (.loop [0, 3, 4, 5] c27L0)))
 (.seq (.seq (.reg [⟨some 29, none, .mv (.t 4)⟩,
 ⟨some 30, none, .bin .neq 9 (.t 29) (.c (.s []))⟩])
 (.cond (.t 30)
 (.cut [3, 4] (.reg [⟨some 31, none, .mv (.t 3)⟩,
 ⟨some 32, none, .mv (.t 4)⟩,
 ⟨some 33, none, .bsl 52 1 [(0, .t 32)]⟩,
 ⟨some 34, none, .app 52 false (.t 31) (.t 33)⟩,
 ⟨some 3, none, .mv (.t 34)⟩]))
 .skip))
 (.seq (.reg [⟨some 35, none, .mv (.t 3)⟩,
 ⟨some 2, none, .mv (.t 35)⟩])
 .ret))))))
def F27 : AF := ⟨36, [.t 2], c27⟩
/-- fallow/fallowref08.read -/
def c28L0 : AC := (.seq (.seq (.cut [0, 2, 6, 7, 8] (.reg [⟨some 56, none, .mv (.t 8)⟩,
 ⟨some 57, none, .mv (.t 7)⟩,
 ⟨some 58, none, .len 9 (.t 57)⟩,
 ⟨some 59, none, .bin .lss 3 (.t 56) (.t 58)⟩]))
 (.cond (.t 59)
 .skip
 (.exit 0)))
 (.seq (.blk 1
 (.seq (.cut [0, 2, 6, 7, 8] (.reg [⟨some 62, none, .mv (.t 0)⟩,
 ⟨some 63, none, .mv (.t 8)⟩,
 ⟨some 64, none, .bin .add 3 (.t 63) (.c (.i .i64 1))⟩,
 ⟨some 65, none, .iad 52 (.t 62) (.t 64)⟩,
 ⟨some 66, none, .load 9 (.t 65)⟩,
 ⟨some 9, none, .mv (.t 66)⟩]))
 (.seq (.cut [0, 2, 6, 7, 8, 9] (.reg [⟨some 68, none, .mv (.t 9)⟩,
 ⟨some 69, none, .call (.c (.fn (.func 71) [] [])) [.t 68]⟩,
 ⟨some 67, none, .mv (.t 69)⟩,
 ⟨some 70, none, .ext (.t 67) 0⟩,
 ⟨some 71, none, .ext (.t 67) 1⟩,
 ⟨some 10, none, .mv (.t 70)⟩,
 ⟨some 11, none, .mv (.t 71)⟩]))
 (.seq (.seq (.cut [0, 2, 6, 7, 8, 9, 10, 11] (.reg [⟨some 72, none, .mv (.t 7)⟩,
 ⟨some 73, none, .mv (.t 8)⟩,
 ⟨some 74, none, .idx 9 (.t 72) (.t 73)⟩]))
 (.blk 2
 (.seq (.reg [⟨some 97, none, .bin .eql 5 (.t 74) (.c (.i .u8 97))⟩,
 ⟨some 96, none, .mv (.t 97)⟩])
 (.cond (.t 96)
 (.cut [0, 2, 6, 7, 8, 10, 11] (.reg [⟨some 98, none, .mv (.t 10)⟩,
 ⟨some 99, none, .fad 61 (.t 6) 1⟩,
 ⟨some 100, none, .fad 45 (.t 99) 1⟩,
 ⟨none, none, .store 3 (.t 100) (.t 98)⟩]))
 (.seq (.reg [⟨some 102, none, .bin .eql 5 (.t 74) (.c (.i .u8 98))⟩,
 ⟨some 101, none, .mv (.t 102)⟩])
 (.cut [1000000, 0, 2, 6, 7, 8, 9, 10, 11, 74, 101] (.cond (.t 101)
 (.cut [0, 2, 6, 7, 8, 10, 11] (.reg [⟨some 103, none, .mv (.t 10)⟩,
 ⟨some 104, none, .fad 61 (.t 6) 1⟩,
 ⟨some 105, none, .fad 45 (.t 104) 2⟩,
 ⟨none, none, .store 3 (.t 105) (.t 103)⟩]))
 (.seq (.reg [⟨some 107, none, .bin .eql 5 (.t 74) (.c (.i .u8 99))⟩,
 ⟨some 106, none, .mv (.t 107)⟩])
 (.cond (.t 106)
 (.cut [0, 2, 6, 7, 8, 10, 11] (.reg [⟨some 108, none, .mv (.t 10)⟩,
 ⟨some 109, none, .fad 61 (.t 6) 1⟩,
 ⟨some 110, none, .fad 45 (.t 109) 3⟩,
 ⟨none, none, .store 3 (.t 110) (.t 108)⟩]))
 (.seq (.cut [0, 2, 6, 7, 8, 9] (.reg [⟨some 76, none, .mv (.t 9)⟩,
 ⟨some 77, none, .call (.c (.fn (.func 72) [] [])) [.t 76]⟩,
 ⟨some 75, none, .mv (.t 77)⟩,
 ⟨some 78, none, .ext (.t 75) 0⟩,
 ⟨some 79, none, .ext (.t 75) 1⟩,
 ⟨some 80, none, .fad 61 (.t 6) 1⟩,
 ⟨some 81, none, .fad 45 (.t 80) 4⟩,
 ⟨none, none, .store 3 (.t 81) (.t 78)⟩,
 ⟨some 11, none, .mv (.t 79)⟩]))
 (.seq (.cut [0, 2, 6, 7, 8, 9, 11] (.reg [⟨some 82, none, .mv (.t 11)⟩,
 ⟨some 83, none, .un .not (.t 82)⟩,
 ⟨some 84, none, .mv (.t 83)⟩,
 ⟨some 85, some (84, true), .fad 61 (.t 6) 1⟩,
 ⟨some 86, some (84, true), .fad 45 (.t 85) 0⟩,
 ⟨some 87, some (84, true), .load 3 (.t 86)⟩,
 ⟨some 88, some (84, true), .call (.c (.fn (.func 73) [] [])) [.t 87]⟩,
 ⟨some 89, none, .pick (.t 84) (.t 88) (.c (.b false))⟩,
 ⟨some 90, none, .mv (.t 89)⟩,
 ⟨some 91, some (90, true), .mv (.t 9)⟩,
 ⟨some 92, some (90, true), .call (.c (.fn (.func 58) [] [])) [.t 91]⟩,
 ⟨some 93, none, .pick (.t 90) (.t 92) (.c (.b false))⟩]))
 (.cond (.t 93)
 (.seq (.cut [0, 2, 6, 7, 8, 9] (.reg [⟨some 94, none, .mv (.t 9)⟩,
 ⟨some 95, none, .fad 61 (.t 6) 2⟩,
 ⟨none, none, .store 9 (.t 95) (.t 94)⟩]))
 (.reg [⟨some 11, none, .mv (.c (.b true))⟩]))
 .skip))))))))))))
 (.cut [1000000, 0, 2, 6, 7, 8, 11] (.seq (.reg [⟨some 111, none, .mv (.t 11)⟩,
 ⟨some 112, none, .un .not (.t 111)⟩])
 (.cond (.t 112)
 (.seq (.cut [2] (.reg [⟨some 113, none, .build 61 []⟩,
 ⟨none, none, .store 61 (.t 2) (.t 113)⟩,
 ⟨some 3, none, .mv (.c (.b false))⟩]))
 .ret)
 .skip)))))))
 (.cut [0, 2, 6, 7, 8] (.reg [⟨some 60, none, .mv (.t 8)⟩,
 ⟨some 61, none, .bin .add 3 (.t 60) (.c (.i .i64 1))⟩,
 ⟨some 8, none, .mv (.t 61)⟩]))))
def c28 : AC := (.seq (.reg [⟨some 2, none, .alloc 61⟩,
 ⟨some 3, none, .mv (.c (.b false))⟩])
 (.seq (.seq (.cut [0, 2] (.reg [⟨some 14, none, .mv (.t 0)⟩,
 ⟨some 15, none, .iad 52 (.t 14) (.c (.i .i64 0))⟩,
 ⟨some 16, none, .load 9 (.t 15)⟩,
 ⟨some 17, none, .bin .eql 9 (.t 16) (.c (.s [119, 111, 114, 100]))⟩]))
 (.cond (.t 17)
 (.seq (.seq (.cut [0, 2] (.reg [⟨some 18, none, .mv (.t 0)⟩,
 ⟨some 19, none, .len 52 (.t 18)⟩,
 ⟨some 20, none, .bin .neq 3 (.t 19) (.c (.i .i64 2))⟩]))
 (.cond (.t 20)
 (.seq (.cut [2] (.reg [⟨some 21, none, .build 61 []⟩,
 ⟨none, none, .store 61 (.t 2) (.t 21)⟩,
 ⟨some 3, none, .mv (.c (.b false))⟩]))
 .ret)
 .skip))
 (.seq (.cut [0, 2] (.reg [⟨some 23, none, .mv (.t 0)⟩,
 ⟨some 24, none, .iad 52 (.t 23) (.c (.i .i64 1))⟩,
 ⟨some 25, none, .load 9 (.t 24)⟩,
 ⟨some 26, none, .call (.c (.fn (.func 69) [] [])) [.t 25, .c (.i .u64 4294967296)]⟩,
 ⟨some 22, none, .mv (.t 26)⟩,
 ⟨some 27, none, .ext (.t 22) 0⟩,
 ⟨some 28, none, .ext (.t 22) 1⟩,
 ⟨some 4, none, .mv (.t 27)⟩,
 ⟨some 5, none, .mv (.t 28)⟩]))
 (.seq (.cut [2, 4, 5] (.reg [⟨some 29, none, .mv (.t 4)⟩,
 ⟨some 30, none, .conv 67 22 (.t 29)⟩,
 ⟨some 31, none, .build 61 [(0, .t 30)]⟩,
 ⟨some 32, none, .mv (.t 5)⟩,
 ⟨none, none, .store 61 (.t 2) (.t 31)⟩,
 ⟨some 3, none, .mv (.t 32)⟩]))
 .ret)))
 .skip))
 (.cut [1000000, 0, 2] (.seq (.cut [0, 2] (.reg [⟨some 33, none, .mv (.t 0)⟩,
 ⟨some 34, none, .iad 52 (.t 33) (.c (.i .i64 0))⟩,
 ⟨some 35, none, .load 9 (.t 34)⟩,
 ⟨some 36, none, .call (.c (.fn (.func 70) [] [])) [.t 35]⟩,
 ⟨some 37, none, .build 45 [(0, .t 36)]⟩,
 ⟨some 38, none, .build 61 [(1, .t 37)]⟩,
 ⟨some 6, none, .alloc 61⟩,
 ⟨none, none, .store 61 (.t 6) (.t 38)⟩]))
 (.seq (.cut [0, 2, 6] (.reg [⟨some 39, none, .fad 61 (.t 6) 1⟩,
 ⟨some 40, none, .fad 45 (.t 39) 0⟩,
 ⟨some 41, none, .load 3 (.t 40)⟩,
 ⟨some 42, none, .call (.c (.fn (.func 38) [] [])) [.t 41]⟩,
 ⟨some 7, none, .mv (.t 42)⟩]))
 (.seq (.seq (.cut [0, 2, 6, 7] (.reg [⟨some 43, none, .fad 61 (.t 6) 1⟩,
 ⟨some 44, none, .fad 45 (.t 43) 0⟩,
 ⟨some 45, none, .load 3 (.t 44)⟩,
 ⟨some 46, none, .bin .eql 3 (.t 45) (.c (.i .i64 0))⟩,
 ⟨some 47, none, .mv (.t 46)⟩,
 ⟨some 48, some (47, false), .mv (.t 0)⟩,
 ⟨some 49, some (47, false), .len 52 (.t 48)⟩,
 ⟨some 50, some (47, false), .mv (.t 7)⟩,
 ⟨some 51, some (47, false), .len 9 (.t 50)⟩,
 ⟨some 52, some (47, false), .bin .add 3 (.c (.i .i64 1)) (.t 51)⟩,
 ⟨some 53, some (47, false), .bin .neq 3 (.t 49) (.t 52)⟩,
 ⟨some 54, none, .pick (.t 47) (.c (.b true)) (.t 53)⟩]))
 (.cond (.t 54)
 (.seq (.cut [2] (.reg [⟨some 55, none, .build 61 []⟩,
 ⟨none, none, .store 61 (.t 2) (.t 55)⟩,
 ⟨some 3, none, .mv (.c (.b false))⟩]))
 .ret)
 .skip))
 (.cut [1000000, 0, 2, 6, 7] (.seq (.seq (.reg [⟨some 8, none, .mv (.c (.i .i64 0))⟩])
 (.blk 0
 (.loop [0, 2, 6, 7, 8] c28L0)))
 (.seq (.cut [2, 6] (.reg [⟨some 115, none, .fad 61 (.t 6) 1⟩,
 ⟨some 116, none, .load 45 (.t 115)⟩,
 ⟨some 117, none, .call (.c (.fn (.func 60) [] [])) [.t 116]⟩,
 ⟨some 114, none, .mv (.t 117)⟩,
 ⟨some 118, none, .ext (.t 114) 0⟩,
 ⟨some 119, none, .ext (.t 114) 1⟩,
 ⟨some 12, none, .mv (.t 118)⟩,
 ⟨some 13, none, .mv (.t 119)⟩]))
 (.seq (.cut [2, 6, 12, 13] (.reg [⟨some 120, none, .mv (.t 12)⟩,
 ⟨some 121, none, .fad 61 (.t 6) 0⟩,
 ⟨none, none, .store 22 (.t 121) (.t 120)⟩]))
 (.seq (.cut [2, 6, 13] (.reg [⟨some 122, none, .load 61 (.t 6)⟩,
 ⟨some 123, none, .mv (.t 13)⟩,
 ⟨some 124, none, .bin .eql 23 (.t 123) (.c (.i .i64 0))⟩,
 ⟨none, none, .store 61 (.t 2) (.t 122)⟩,
 ⟨some 3, none, .mv (.t 124)⟩]))
 .ret)))))))))))
def F28 : AF := ⟨125, [.cell 2 61, .t 3], c28⟩
/-- fallow/isa.Encode -/
def c29L0 : AC := (.seq (.reg [⟨some 24, none, .nxt (.t 23)⟩,
 ⟨some 25, none, .ext (.t 24) 0⟩])
 (.seq (.cond (.t 25)
 .skip
 (.exit 0))
 (.blk 1
 (.seq (.reg [⟨some 26, none, .ext (.t 24) 2⟩,
 ⟨some 9, none, .mv (.t 26)⟩])
 (.seq (.reg [⟨some 27, none, .mv (.t 9)⟩])
 (.blk 2
 (.seq (.reg [⟨some 29, none, .bin .eql 21 (.t 27) (.c (.i .i32 97))⟩,
 ⟨some 28, none, .mv (.t 29)⟩])
 (.cond (.t 28)
 (.cut [1, 4, 5, 6, 7, 23] (.reg [⟨some 30, none, .mv (.t 6)⟩,
 ⟨some 31, none, .fad 45 (.t 1) 1⟩,
 ⟨some 32, none, .call (.t 30) [.t 31, .c (.i .i64 20), .c (.i .i64 4), .c (.b false)]⟩]))
 (.seq (.reg [⟨some 34, none, .bin .eql 21 (.t 27) (.c (.i .i32 98))⟩,
 ⟨some 33, none, .mv (.t 34)⟩])
 (.cond (.t 33)
 (.cut [1, 4, 5, 6, 7, 23] (.reg [⟨some 35, none, .mv (.t 6)⟩,
 ⟨some 36, none, .fad 45 (.t 1) 2⟩,
 ⟨some 37, none, .call (.t 35) [.t 36, .c (.i .i64 16), .c (.i .i64 4), .c (.b false)]⟩]))
 (.seq (.reg [⟨some 39, none, .bin .eql 21 (.t 27) (.c (.i .i32 99))⟩,
 ⟨some 38, none, .mv (.t 39)⟩])
 (.cond (.t 38)
 (.cut [1, 4, 5, 6, 7, 23] (.reg [⟨some 40, none, .mv (.t 6)⟩,
 ⟨some 41, none, .fad 45 (.t 1) 3⟩,
 ⟨some 42, none, .call (.t 40) [.t 41, .c (.i .i64 12), .c (.i .i64 4), .c (.b false)]⟩]))
 (.seq (.reg [⟨some 44, none, .bin .eql 21 (.t 27) (.c (.i .i32 105))⟩,
 ⟨some 43, none, .mv (.t 44)⟩])
 (.cond (.t 43)
 (.cut [1, 4, 5, 6, 7, 23] (.reg [⟨some 45, none, .mv (.t 6)⟩,
 ⟨some 46, none, .fad 45 (.t 1) 4⟩,
 ⟨some 47, none, .call (.t 45) [.t 46, .c (.i .i64 0), .c (.i .i64 12), .c (.b true)]⟩]))
 (.seq (.reg [⟨some 49, none, .bin .eql 21 (.t 27) (.c (.i .i32 106))⟩,
 ⟨some 48, none, .mv (.t 49)⟩])
 (.cond (.t 48)
 (.cut [1, 4, 5, 6, 7, 23] (.reg [⟨some 50, none, .mv (.t 6)⟩,
 ⟨some 51, none, .fad 45 (.t 1) 4⟩,
 ⟨some 52, none, .call (.t 50) [.t 51, .c (.i .i64 0), .c (.i .i64 20), .c (.b true)]⟩]))
 .skip))))))))))))))))
def c29 : AC := (.seq (.cut [0] (.reg [⟨some 1, none, .box 45 (.t 0)⟩,
 ⟨some 2, none, .mv (.c (.i .u32 0))⟩,
 ⟨some 3, none, .mv (.c (.i .i64 0))⟩]))
 (.seq (.seq (.cut [1] (.reg [⟨some 10, none, .fad 45 (.t 1) 0⟩,
 ⟨some 11, none, .load 3 (.t 10)⟩,
 ⟨some 12, none, .call (.c (.fn (.func 32) [] [])) [.t 11]⟩,
 ⟨some 13, none, .bin .eql 9 (.t 12) (.c (.s []))⟩]))
 (.cond (.t 13)
 (.seq (.reg [⟨some 2, none, .mv (.c (.i .u32 0))⟩,
 ⟨some 3, none, .mv (.c (.i .i64 2))⟩])
 .ret)
 .skip))
 (.seq (.cut [1] (.reg [⟨some 14, none, .fad 45 (.t 1) 0⟩,
 ⟨some 15, none, .load 3 (.t 14)⟩,
 ⟨some 16, none, .conv 3 22 (.t 15)⟩,
 ⟨some 17, none, .bin .shl 22 (.t 16) (.c (.i .u64 24))⟩,
 ⟨some 4, none, .alloc 22⟩,
 ⟨none, none, .store 22 (.t 4) (.t 17)⟩]))
 (.seq (.reg [⟨some 5, none, .alloc 4⟩,
 ⟨none, none, .store 4 (.t 5) (.c (.b false))⟩])
 (.seq (.reg [⟨some 18, none, .mkf (.func 74) [] [.t 5, .t 4]⟩,
 ⟨some 6, none, .mv (.t 18)⟩])
 (.seq (.cut [1, 4, 5, 6] (.reg [⟨some 19, none, .fad 45 (.t 1) 0⟩,
 ⟨some 20, none, .load 3 (.t 19)⟩,
 ⟨some 7, none, .mv (.t 20)⟩]))
 (.seq (.seq (.cut [1, 4, 5, 6, 7] (.reg [⟨some 21, none, .mv (.t 7)⟩,
 ⟨some 22, none, .call (.c (.fn (.func 33) [] [])) [.t 21]⟩,
 ⟨some 23, none, .rng 9 (.t 22)⟩]))
 (.blk 0
 (.loop [1, 4, 5, 6, 7, 23] c29L0)))
 (.seq (.seq (.cut [1, 4, 5, 7] (.reg [⟨some 53, none, .load 4 (.t 5)⟩,
 ⟨some 54, none, .mv (.t 53)⟩,
 ⟨some 55, some (54, false), .load 45 (.t 1)⟩,
 ⟨some 56, some (54, false), .mv (.t 7)⟩,
 ⟨some 57, some (54, false), .build 45 [(0, .t 56)]⟩,
 ⟨some 58, some (54, false), .bin .neq 45 (.t 55) (.t 57)⟩,
 ⟨some 59, none, .pick (.t 54) (.c (.b true)) (.t 58)⟩]))
 (.cond (.t 59)
 (.seq (.reg [⟨some 2, none, .mv (.c (.i .u32 0))⟩,
 ⟨some 3, none, .mv (.c (.i .i64 2))⟩])
 .ret)
 .skip))
 (.seq (.cut [4] (.reg [⟨some 60, none, .load 22 (.t 4)⟩,
 ⟨some 2, none, .mv (.t 60)⟩,
 ⟨some 3, none, .mv (.c (.i .i64 0))⟩]))
 .ret)))))))))
def F29 : AF := ⟨61, [.t 2, .t 3], c29⟩
/-- fallow/asm.join -/
def c30 : AC := (.seq (.reg [⟨some 2, none, .mv (.c (.s []))⟩])
 (.seq (.cut [0] (.reg [⟨some 3, none, .mv (.t 0)⟩,
 ⟨some 4, none, .call (.c (.fn (.func 75) [] [])) [.t 3, .c (.s [32])]⟩,
 ⟨some 2, none, .mv (.t 4)⟩]))
 .ret))
def F30 : AF := ⟨5, [.t 2], c30⟩
/-- strconv.FormatUint -/
def c31 : AC := (.seq (.reg [⟨some 4, none, .mv (.c (.s []))⟩])
 (.seq (.cut [0, 1] (.reg [⟨some 5, none, .mv (.t 0)⟩,
 ⟨some 6, none, .mv (.t 1)⟩,
 ⟨some 7, none, .call (.c (.fn (.func 76) [] [])) [.t 5, .t 6]⟩,
 ⟨some 4, none, .mv (.t 7)⟩]))
 .ret))
def F31 : AF := ⟨8, [.t 4], c31⟩
/-- fallow/isa.Name -/
def c32 : AC := (.seq (.reg [⟨some 2, none, .mv (.c (.s []))⟩])
 (.seq (.cut [0] (.reg [⟨some 3, none, .mv (.t 0)⟩,
 ⟨some 4, none, .call (.c (.fn (.func 77) [] [])) [.t 3]⟩,
 ⟨some 5, none, .fld 113 (.t 4) 0⟩,
 ⟨some 2, none, .mv (.t 5)⟩]))
 .ret))
def F32 : AF := ⟨6, [.t 2], c32⟩
/-- fallow/isa.Form -/
def c33 : AC := (.seq (.reg [⟨some 2, none, .mv (.c (.s []))⟩])
 (.seq (.cut [0] (.reg [⟨some 3, none, .mv (.t 0)⟩,
 ⟨some 4, none, .call (.c (.fn (.func 77) [] [])) [.t 3]⟩,
 ⟨some 5, none, .fld 113 (.t 4) 1⟩,
 ⟨some 2, none, .mv (.t 5)⟩]))
 .ret))
def F33 : AF := ⟨6, [.t 2], c33⟩
/-- fallow/fallowref07.Decode -/
def c35 : AC := (.seq (.reg [⟨some 2, none, .alloc 45⟩])
 (.seq (.cut [0, 2] (.reg [⟨some 7, none, .mv (.t 0)⟩,
 ⟨some 8, none, .bin .quo 22 (.t 7) (.c (.i .u32 16777216))⟩,
 ⟨some 9, none, .conv 22 3 (.t 8)⟩,
 ⟨some 10, none, .build 45 [(0, .t 9)]⟩,
 ⟨some 3, none, .alloc 45⟩,
 ⟨none, none, .store 45 (.t 3) (.t 10)⟩]))
 (.seq (.cut [0, 2, 3] (.reg [⟨some 11, none, .fad 45 (.t 3) 0⟩,
 ⟨some 12, none, .load 3 (.t 11)⟩,
 ⟨some 13, none, .call (.c (.fn (.func 38) [] [])) [.t 12]⟩,
 ⟨some 4, none, .mv (.t 13)⟩]))
 (.seq (.cut [0, 2, 3, 4] (.reg [⟨some 14, none, .mv (.t 0)⟩,
 ⟨some 15, none, .bin .quo 22 (.t 14) (.c (.i .u32 1048576))⟩,
 ⟨some 16, none, .bin .rem 22 (.t 15) (.c (.i .u32 16))⟩,
 ⟨some 17, none, .conv 22 3 (.t 16)⟩,
 ⟨some 18, none, .fad 45 (.t 3) 1⟩,
 ⟨none, none, .store 3 (.t 18) (.t 17)⟩]))
 (.seq (.seq (.reg [⟨some 19, none, .mv (.t 4)⟩,
 ⟨some 20, none, .call (.c (.fn (.func 79) [] [])) [.t 19, .c (.i .u8 106)]⟩])
 (.cond (.t 20)
 (.seq (.cut [0, 2, 3] (.reg [⟨some 21, none, .mv (.t 0)⟩,
 ⟨some 22, none, .bin .rem 22 (.t 21) (.c (.i .u32 1048576))⟩,
 ⟨some 23, none, .conv 22 3 (.t 22)⟩,
 ⟨some 24, none, .fad 45 (.t 3) 4⟩,
 ⟨none, none, .store 3 (.t 24) (.t 23)⟩]))
 (.seq (.cut [0, 2, 3] (.reg [⟨some 25, none, .fad 45 (.t 3) 4⟩,
 ⟨some 26, none, .load 3 (.t 25)⟩,
 ⟨some 27, none, .bin .geq 3 (.t 26) (.c (.i .i64 524288))⟩]))
 (.cond (.t 27)
 (.cut [0, 2, 3] (.reg [⟨some 28, none, .fad 45 (.t 3) 4⟩,
 ⟨some 29, none, .load 3 (.t 28)⟩,
 ⟨some 30, none, .bin .sub 3 (.t 29) (.c (.i .i64 1048576))⟩,
 ⟨some 31, none, .fad 45 (.t 3) 4⟩,
 ⟨none, none, .store 3 (.t 31) (.t 30)⟩]))
 .skip)))
 (.seq (.cut [0, 2, 3] (.reg [⟨some 32, none, .mv (.t 0)⟩,
 ⟨some 33, none, .bin .quo 22 (.t 32) (.c (.i .u32 65536))⟩,
 ⟨some 34, none, .bin .rem 22 (.t 33) (.c (.i .u32 16))⟩,
 ⟨some 35, none, .conv 22 3 (.t 34)⟩,
 ⟨some 36, none, .fad 45 (.t 3) 2⟩,
 ⟨none, none, .store 3 (.t 36) (.t 35)⟩]))
 (.cut [1000000, 0, 2, 3] (.seq (.cut [0, 2, 3] (.reg [⟨some 37, none, .mv (.t 0)⟩,
 ⟨some 38, none, .bin .quo 22 (.t 37) (.c (.i .u32 4096))⟩,
 ⟨some 39, none, .bin .rem 22 (.t 38) (.c (.i .u32 16))⟩,
 ⟨some 40, none, .conv 22 3 (.t 39)⟩,
 ⟨some 41, none, .fad 45 (.t 3) 3⟩,
 ⟨none, none, .store 3 (.t 41) (.t 40)⟩]))
 (.seq (.cut [0, 2, 3] (.reg [⟨some 42, none, .mv (.t 0)⟩,
 ⟨some 43, none, .bin .rem 22 (.t 42) (.c (.i .u32 4096))⟩,
 ⟨some 44, none, .conv 22 3 (.t 43)⟩,
 ⟨some 45, none, .fad 45 (.t 3) 4⟩,
 ⟨none, none, .store 3 (.t 45) (.t 44)⟩]))
 (.seq (.cut [0, 2, 3] (.reg [⟨some 46, none, .fad 45 (.t 3) 4⟩,
 ⟨some 47, none, .load 3 (.t 46)⟩,
 ⟨some 48, none, .bin .geq 3 (.t 47) (.c (.i .i64 2048))⟩]))
 (.cond (.t 48)
 (.cut [0, 2, 3] (.reg [⟨some 49, none, .fad 45 (.t 3) 4⟩,
 ⟨some 50, none, .load 3 (.t 49)⟩,
 ⟨some 51, none, .bin .sub 3 (.t 50) (.c (.i .i64 4096))⟩,
 ⟨some 52, none, .fad 45 (.t 3) 4⟩,
 ⟨none, none, .store 3 (.t 52) (.t 51)⟩]))
 .skip))))))))
 (.cut [1000000, 0, 2, 3] (.seq (.cut [0, 2, 3] (.reg [⟨some 54, none, .load 45 (.t 3)⟩,
 ⟨some 55, none, .call (.c (.fn (.func 60) [] [])) [.t 54]⟩,
 ⟨some 53, none, .mv (.t 55)⟩,
 ⟨some 56, none, .ext (.t 53) 0⟩,
 ⟨some 57, none, .ext (.t 53) 1⟩,
 ⟨some 5, none, .mv (.t 56)⟩,
 ⟨some 6, none, .mv (.t 57)⟩]))
 (.seq (.seq (.cut [0, 2, 3, 5, 6] (.reg [⟨some 58, none, .mv (.t 6)⟩,
 ⟨some 59, none, .bin .neq 23 (.t 58) (.c (.i .i64 0))⟩,
 ⟨some 60, none, .mv (.t 59)⟩,
 ⟨some 61, some (60, false), .mv (.t 5)⟩,
 ⟨some 62, some (60, false), .mv (.t 0)⟩,
 ⟨some 63, some (60, false), .bin .neq 22 (.t 61) (.t 62)⟩,
 ⟨some 64, none, .pick (.t 60) (.c (.b true)) (.t 63)⟩]))
 (.cond (.t 64)
 (.seq (.reg [⟨some 65, none, .build 45 []⟩,
 ⟨none, none, .store 45 (.t 2) (.t 65)⟩])
 .ret)
 .skip))
 (.seq (.reg [⟨some 66, none, .load 45 (.t 3)⟩,
 ⟨none, none, .store 45 (.t 2) (.t 66)⟩])
 .ret)))))))))
def F35 : AF := ⟨67, [.cell 2 45], c35⟩
/-- fallow/fallowref07.Name -/
def c37 : AC := (.seq (.reg [⟨some 2, none, .mv (.c (.s []))⟩])
 (.seq (.seq (.reg [⟨some 3, none, .mv (.t 0)⟩])
 (.blk 0
 (.seq (.reg [⟨some 5, none, .bin .eql 3 (.t 3) (.c (.i .i64 1))⟩,
 ⟨some 4, none, .mv (.t 5)⟩])
 (.cond (.t 4)
 (.seq (.reg [⟨some 2, none, .mv (.c (.s [108, 105]))⟩])
 .ret)
 (.seq (.reg [⟨some 7, none, .bin .eql 3 (.t 3) (.c (.i .i64 2))⟩,
 ⟨some 6, none, .mv (.t 7)⟩])
 (.cond (.t 6)
 (.seq (.reg [⟨some 2, none, .mv (.c (.s [108, 117, 105]))⟩])
 .ret)
 (.seq (.reg [⟨some 9, none, .bin .eql 3 (.t 3) (.c (.i .i64 3))⟩,
 ⟨some 8, none, .mv (.t 9)⟩])
 (.cond (.t 8)
 (.seq (.reg [⟨some 2, none, .mv (.c (.s [97, 100, 100]))⟩])
 .ret)
 (.seq (.reg [⟨some 11, none, .bin .eql 3 (.t 3) (.c (.i .i64 4))⟩,
 ⟨some 10, none, .mv (.t 11)⟩])
 (.cond (.t 10)
 (.seq (.reg [⟨some 2, none, .mv (.c (.s [115, 117, 98]))⟩])
 .ret)
 (.seq (.reg [⟨some 13, none, .bin .eql 3 (.t 3) (.c (.i .i64 5))⟩,
 ⟨some 12, none, .mv (.t 13)⟩])
 (.cond (.t 12)
 (.seq (.reg [⟨some 2, none, .mv (.c (.s [109, 117, 108]))⟩])
 .ret)
 (.seq (.reg [⟨some 15, none, .bin .eql 3 (.t 3) (.c (.i .i64 6))⟩,
 ⟨some 14, none, .mv (.t 15)⟩])
 (.cond (.t 14)
 (.seq (.reg [⟨some 2, none, .mv (.c (.s [100, 105, 118]))⟩])
 .ret)
 (.seq (.reg [⟨some 17, none, .bin .eql 3 (.t 3) (.c (.i .i64 7))⟩,
 ⟨some 16, none, .mv (.t 17)⟩])
 (.cond (.t 16)
 (.seq (.reg [⟨some 2, none, .mv (.c (.s [114, 101, 109]))⟩])
 .ret)
 (.seq (.reg [⟨some 19, none, .bin .eql 3 (.t 3) (.c (.i .i64 8))⟩,
 ⟨some 18, none, .mv (.t 19)⟩])
 (.cut [1000000, 3, 18] (.cond (.t 18)
 (.seq (.reg [⟨some 2, none, .mv (.c (.s [97, 110, 100]))⟩])
 .ret)
 (.seq (.reg [⟨some 21, none, .bin .eql 3 (.t 3) (.c (.i .i64 9))⟩,
 ⟨some 20, none, .mv (.t 21)⟩])
 (.cond (.t 20)
 (.seq (.reg [⟨some 2, none, .mv (.c (.s [111, 114]))⟩])
 .ret)
 (.seq (.reg [⟨some 23, none, .bin .eql 3 (.t 3) (.c (.i .i64 10))⟩,
 ⟨some 22, none, .mv (.t 23)⟩])
 (.cond (.t 22)
 (.seq (.reg [⟨some 2, none, .mv (.c (.s [120, 111, 114]))⟩])
 .ret)
 (.seq (.reg [⟨some 25, none, .bin .eql 3 (.t 3) (.c (.i .i64 11))⟩,
 ⟨some 24, none, .mv (.t 25)⟩])
 (.cond (.t 24)
 (.seq (.reg [⟨some 2, none, .mv (.c (.s [115, 104, 108]))⟩])
 .ret)
 (.seq (.reg [⟨some 27, none, .bin .eql 3 (.t 3) (.c (.i .i64 12))⟩,
 ⟨some 26, none, .mv (.t 27)⟩])
 (.cond (.t 26)
 (.seq (.reg [⟨some 2, none, .mv (.c (.s [115, 104, 114]))⟩])
 .ret)
 (.seq (.reg [⟨some 29, none, .bin .eql 3 (.t 3) (.c (.i .i64 13))⟩,
 ⟨some 28, none, .mv (.t 29)⟩])
 (.cond (.t 28)
 (.seq (.reg [⟨some 2, none, .mv (.c (.s [108, 116]))⟩])
 .ret)
 (.seq (.reg [⟨some 31, none, .bin .eql 3 (.t 3) (.c (.i .i64 14))⟩,
 ⟨some 30, none, .mv (.t 31)⟩])
 (.cond (.t 30)
 (.seq (.reg [⟨some 2, none, .mv (.c (.s [108, 116, 117]))⟩])
 .ret)
 (.seq (.reg [⟨some 33, none, .bin .eql 3 (.t 3) (.c (.i .i64 15))⟩,
 ⟨some 32, none, .mv (.t 33)⟩])
 (.cond (.t 32)
 (.seq (.reg [⟨some 2, none, .mv (.c (.s [101, 113]))⟩])
 .ret)
 (.seq (.reg [⟨some 35, none, .bin .eql 3 (.t 3) (.c (.i .i64 16))⟩,
 ⟨some 34, none, .mv (.t 35)⟩])
 (.cond (.t 34)
 (.seq (.reg [⟨some 2, none, .mv (.c (.s [97, 100, 100, 105]))⟩])
 .ret)
 (.seq (.reg [⟨some 37, none, .bin .eql 3 (.t 3) (.c (.i .i64 17))⟩,
 ⟨some 36, none, .mv (.t 37)⟩])
 (.cut [1000000, 3, 36] (.cond (.t 36)
 (.seq (.reg [⟨some 2, none, .mv (.c (.s [108, 98]))⟩])
 .ret)
 (.seq (.reg [⟨some 39, none, .bin .eql 3 (.t 3) (.c (.i .i64 18))⟩,
 ⟨some 38, none, .mv (.t 39)⟩])
 (.cond (.t 38)
 (.seq (.reg [⟨some 2, none, .mv (.c (.s [108, 104]))⟩])
 .ret)
 (.seq (.reg [⟨some 41, none, .bin .eql 3 (.t 3) (.c (.i .i64 19))⟩,
 ⟨some 40, none, .mv (.t 41)⟩])
 (.cond (.t 40)
 (.seq (.reg [⟨some 2, none, .mv (.c (.s [108, 119]))⟩])
 .ret)
 (.seq (.reg [⟨some 43, none, .bin .eql 3 (.t 3) (.c (.i .i64 20))⟩,
 ⟨some 42, none, .mv (.t 43)⟩])
 (.cond (.t 42)
 (.seq (.reg [⟨some 2, none, .mv (.c (.s [115, 98]))⟩])
 .ret)
 (.seq (.reg [⟨some 45, none, .bin .eql 3 (.t 3) (.c (.i .i64 21))⟩,
 ⟨some 44, none, .mv (.t 45)⟩])
 (.cond (.t 44)
 (.seq (.reg [⟨some 2, none, .mv (.c (.s [115, 104]))⟩])
 .ret)
 (.seq (.reg [⟨some 47, none, .bin .eql 3 (.t 3) (.c (.i .i64 22))⟩,
 ⟨some 46, none, .mv (.t 47)⟩])
 (.cond (.t 46)
 (.seq (.reg [⟨some 2, none, .mv (.c (.s [115, 119]))⟩])
 .ret)
 (.seq (.reg [⟨some 49, none, .bin .eql 3 (.t 3) (.c (.i .i64 23))⟩,
 ⟨some 48, none, .mv (.t 49)⟩])
 (.cond (.t 48)
 (.seq (.reg [⟨some 2, none, .mv (.c (.s [108, 99]))⟩])
 .ret)
 (.seq (.reg [⟨some 51, none, .bin .eql 3 (.t 3) (.c (.i .i64 24))⟩,
 ⟨some 50, none, .mv (.t 51)⟩])
 (.cond (.t 50)
 (.seq (.reg [⟨some 2, none, .mv (.c (.s [115, 99]))⟩])
 .ret)
 (.seq (.reg [⟨some 53, none, .bin .eql 3 (.t 3) (.c (.i .i64 25))⟩,
 ⟨some 52, none, .mv (.t 53)⟩])
 (.cond (.t 52)
 (.seq (.reg [⟨some 2, none, .mv (.c (.s [98, 101, 113]))⟩])
 .ret)
 (.seq (.reg [⟨some 55, none, .bin .eql 3 (.t 3) (.c (.i .i64 26))⟩,
 ⟨some 54, none, .mv (.t 55)⟩])
 (.cut [1000000, 3, 54] (.cond (.t 54)
 (.seq (.reg [⟨some 2, none, .mv (.c (.s [98, 110, 101]))⟩])
 .ret)
 (.seq (.reg [⟨some 57, none, .bin .eql 3 (.t 3) (.c (.i .i64 27))⟩,
 ⟨some 56, none, .mv (.t 57)⟩])
 (.cond (.t 56)
 (.seq (.reg [⟨some 2, none, .mv (.c (.s [98, 108, 116]))⟩])
 .ret)
 (.seq (.reg [⟨some 59, none, .bin .eql 3 (.t 3) (.c (.i .i64 28))⟩,
 ⟨some 58, none, .mv (.t 59)⟩])
 (.cond (.t 58)
 (.seq (.reg [⟨some 2, none, .mv (.c (.s [98, 103, 101]))⟩])
 .ret)
 (.seq (.reg [⟨some 61, none, .bin .eql 3 (.t 3) (.c (.i .i64 29))⟩,
 ⟨some 60, none, .mv (.t 61)⟩])
 (.cond (.t 60)
 (.seq (.reg [⟨some 2, none, .mv (.c (.s [106, 97, 108]))⟩])
 .ret)
 (.seq (.reg [⟨some 63, none, .bin .eql 3 (.t 3) (.c (.i .i64 30))⟩,
 ⟨some 62, none, .mv (.t 63)⟩])
 (.cond (.t 62)
 (.seq (.reg [⟨some 2, none, .mv (.c (.s [106, 97, 108, 114]))⟩])
 .ret)
 (.seq (.reg [⟨some 65, none, .bin .eql 3 (.t 3) (.c (.i .i64 31))⟩,
 ⟨some 64, none, .mv (.t 65)⟩])
 (.cond (.t 64)
 (.seq (.reg [⟨some 2, none, .mv (.c (.s [109, 111, 118, 101]))⟩])
 .ret)
 (.seq (.reg [⟨some 67, none, .bin .eql 3 (.t 3) (.c (.i .i64 32))⟩,
 ⟨some 66, none, .mv (.t 67)⟩])
 (.cond (.t 66)
 (.seq (.reg [⟨some 2, none, .mv (.c (.s [105, 110, 99]))⟩])
 .ret)
 (.seq (.reg [⟨some 69, none, .bin .eql 3 (.t 3) (.c (.i .i64 33))⟩,
 ⟨some 68, none, .mv (.t 69)⟩])
 (.cond (.t 68)
 (.seq (.reg [⟨some 2, none, .mv (.c (.s [105, 110, 99, 105]))⟩])
 .ret)
 (.seq (.reg [⟨some 71, none, .bin .eql 3 (.t 3) (.c (.i .i64 34))⟩,
 ⟨some 70, none, .mv (.t 71)⟩])
 (.cond (.t 70)
 (.seq (.reg [⟨some 2, none, .mv (.c (.s [97, 100, 100, 114]))⟩])
 .ret)
 (.seq (.reg [⟨some 73, none, .bin .eql 3 (.t 3) (.c (.i .i64 35))⟩,
 ⟨some 72, none, .mv (.t 73)⟩])
 (.cut [1000000, 3, 72] (.cond (.t 72)
 (.seq (.reg [⟨some 2, none, .mv (.c (.s [115, 101, 116]))⟩])
 .ret)
 (.seq (.reg [⟨some 75, none, .bin .eql 3 (.t 3) (.c (.i .i64 36))⟩,
 ⟨some 74, none, .mv (.t 75)⟩])
 (.cond (.t 74)
 (.seq (.reg [⟨some 2, none, .mv (.c (.s [101, 120, 97, 99, 116]))⟩])
 .ret)
 (.seq (.reg [⟨some 77, none, .bin .eql 3 (.t 3) (.c (.i .i64 37))⟩,
 ⟨some 76, none, .mv (.t 77)⟩])
 (.cond (.t 76)
 (.seq (.reg [⟨some 2, none, .mv (.c (.s [97, 110, 100, 115]))⟩])
 .ret)
 (.seq (.reg [⟨some 79, none, .bin .eql 3 (.t 3) (.c (.i .i64 38))⟩,
 ⟨some 78, none, .mv (.t 79)⟩])
 (.cond (.t 78)
 (.seq (.reg [⟨some 2, none, .mv (.c (.s [115, 101, 97, 108]))⟩])
 .ret)
 (.seq (.reg [⟨some 81, none, .bin .eql 3 (.t 3) (.c (.i .i64 39))⟩,
 ⟨some 80, none, .mv (.t 81)⟩])
 (.cond (.t 80)
 (.seq (.reg [⟨some 2, none, .mv (.c (.s [111, 112, 101, 110]))⟩])
 .ret)
 (.seq (.reg [⟨some 83, none, .bin .eql 3 (.t 3) (.c (.i .i64 40))⟩,
 ⟨some 82, none, .mv (.t 83)⟩])
 (.cond (.t 82)
 (.seq (.reg [⟨some 2, none, .mv (.c (.s [98, 117, 105, 108, 100]))⟩])
 .ret)
 (.seq (.reg [⟨some 85, none, .bin .eql 3 (.t 3) (.c (.i .i64 41))⟩,
 ⟨some 84, none, .mv (.t 85)⟩])
 (.cond (.t 84)
 (.seq (.reg [⟨some 2, none, .mv (.c (.s [99, 108, 101, 97, 114]))⟩])
 .ret)
 (.seq (.reg [⟨some 87, none, .bin .eql 3 (.t 3) (.c (.i .i64 42))⟩,
 ⟨some 86, none, .mv (.t 87)⟩])
 (.cond (.t 86)
 (.seq (.reg [⟨some 2, none, .mv (.c (.s [103, 97, 100, 100, 114]))⟩])
 .ret)
 (.seq (.reg [⟨some 89, none, .bin .eql 3 (.t 3) (.c (.i .i64 43))⟩,
 ⟨some 88, none, .mv (.t 89)⟩])
 (.cond (.t 88)
 (.seq (.reg [⟨some 2, none, .mv (.c (.s [103, 98, 97, 115, 101]))⟩])
 .ret)
 (.seq (.reg [⟨some 91, none, .bin .eql 3 (.t 3) (.c (.i .i64 44))⟩,
 ⟨some 90, none, .mv (.t 91)⟩])
 (.cut [1000000, 3, 90] (.cond (.t 90)
 (.seq (.reg [⟨some 2, none, .mv (.c (.s [103, 108, 101, 110]))⟩])
 .ret)
 (.seq (.reg [⟨some 93, none, .bin .eql 3 (.t 3) (.c (.i .i64 45))⟩,
 ⟨some 92, none, .mv (.t 93)⟩])
 (.cond (.t 92)
 (.seq (.reg [⟨some 2, none, .mv (.c (.s [103, 112, 101, 114, 109]))⟩])
 .ret)
 (.seq (.reg [⟨some 95, none, .bin .eql 3 (.t 3) (.c (.i .i64 46))⟩,
 ⟨some 94, none, .mv (.t 95)⟩])
 (.cond (.t 94)
 (.seq (.reg [⟨some 2, none, .mv (.c (.s [103, 116, 121, 112, 101]))⟩])
 .ret)
 (.seq (.reg [⟨some 97, none, .bin .eql 3 (.t 3) (.c (.i .i64 47))⟩,
 ⟨some 96, none, .mv (.t 97)⟩])
 (.cond (.t 96)
 (.seq (.reg [⟨some 2, none, .mv (.c (.s [103, 116, 97, 103]))⟩])
 .ret)
 (.seq (.reg [⟨some 99, none, .bin .eql 3 (.t 3) (.c (.i .i64 48))⟩,
 ⟨some 98, none, .mv (.t 99)⟩])
 (.cond (.t 98)
 (.seq (.reg [⟨some 2, none, .mv (.c (.s [105, 115, 105, 110, 116]))⟩])
 .ret)
 (.seq (.reg [⟨some 101, none, .bin .eql 3 (.t 3) (.c (.i .i64 49))⟩,
 ⟨some 100, none, .mv (.t 101)⟩])
 (.cond (.t 100)
 (.seq (.reg [⟨some 2, none, .mv (.c (.s [112, 99]))⟩])
 .ret)
 (.seq (.reg [⟨some 103, none, .bin .eql 3 (.t 3) (.c (.i .i64 50))⟩,
 ⟨some 102, none, .mv (.t 103)⟩])
 (.cond (.t 102)
 (.seq (.reg [⟨some 2, none, .mv (.c (.s [99, 97, 108, 108]))⟩])
 .ret)
 (.seq (.reg [⟨some 105, none, .bin .eql 3 (.t 3) (.c (.i .i64 51))⟩,
 ⟨some 104, none, .mv (.t 105)⟩])
 (.cond (.t 104)
 (.seq (.reg [⟨some 2, none, .mv (.c (.s [114, 101, 116]))⟩])
 .ret)
 (.seq (.reg [⟨some 107, none, .bin .eql 3 (.t 3) (.c (.i .i64 52))⟩,
 ⟨some 106, none, .mv (.t 107)⟩])
 (.cond (.t 106)
 (.seq (.reg [⟨some 2, none, .mv (.c (.s [101, 99, 97, 108, 108]))⟩])
 .ret)
 (.seq (.reg [⟨some 109, none, .bin .eql 3 (.t 3) (.c (.i .i64 53))⟩,
 ⟨some 108, none, .mv (.t 109)⟩])
 (.cond (.t 108)
 (.seq (.reg [⟨some 2, none, .mv (.c (.s [116, 114, 97, 112]))⟩])
 .ret)
 .skip)))))))))))))))))))))))))))))))))))))))))))))))))))))))))))))))))))))))))))))))))))))))))))))))))))))))))))))))))
 (.seq (.reg [⟨some 2, none, .mv (.c (.s []))⟩])
 .ret)))
def F37 : AF := ⟨110, [.t 2], c37⟩
/-- fallow/fallowref07.Form -/
def c38 : AC := (.seq (.reg [⟨some 2, none, .mv (.c (.s []))⟩])
 (.seq (.seq (.reg [⟨some 3, none, .mv (.t 0)⟩])
 (.blk 0
 (.seq (.reg [⟨some 5, none, .bin .eql 3 (.t 3) (.c (.i .i64 1))⟩,
 ⟨some 4, none, .mv (.t 5)⟩])
 (.cond (.t 4)
 (.seq (.reg [⟨some 2, none, .mv (.c (.s [97, 105]))⟩])
 .ret)
 (.seq (.seq (.reg [⟨some 7, none, .bin .eql 3 (.t 3) (.c (.i .i64 2))⟩,
 ⟨some 6, none, .mv (.t 7)⟩])
 (.cond (.t 6)
 .skip
 (.seq (.reg [⟨some 8, none, .bin .eql 3 (.t 3) (.c (.i .i64 29))⟩,
 ⟨some 6, none, .mv (.t 8)⟩])
 (.cond (.t 6)
 .skip
 (.reg [⟨some 9, none, .bin .eql 3 (.t 3) (.c (.i .i64 49))⟩,
 ⟨some 6, none, .mv (.t 9)⟩])))))
 (.cut [1000000, 3, 6] (.cond (.t 6)
 (.seq (.reg [⟨some 2, none, .mv (.c (.s [97, 106]))⟩])
 .ret)
 (.seq (.seq (.reg [⟨some 11, none, .bin .eql 3 (.t 3) (.c (.i .i64 3))⟩,
 ⟨some 10, none, .mv (.t 11)⟩])
 (.cond (.t 10)
 .skip
 (.seq (.reg [⟨some 12, none, .bin .eql 3 (.t 3) (.c (.i .i64 4))⟩,
 ⟨some 10, none, .mv (.t 12)⟩])
 (.cond (.t 10)
 .skip
 (.seq (.reg [⟨some 13, none, .bin .eql 3 (.t 3) (.c (.i .i64 5))⟩,
 ⟨some 10, none, .mv (.t 13)⟩])
 (.cond (.t 10)
 .skip
 (.seq (.reg [⟨some 14, none, .bin .eql 3 (.t 3) (.c (.i .i64 6))⟩,
 ⟨some 10, none, .mv (.t 14)⟩])
 (.cond (.t 10)
 .skip
 (.seq (.reg [⟨some 15, none, .bin .eql 3 (.t 3) (.c (.i .i64 7))⟩,
 ⟨some 10, none, .mv (.t 15)⟩])
 (.cond (.t 10)
 .skip
 (.seq (.reg [⟨some 16, none, .bin .eql 3 (.t 3) (.c (.i .i64 8))⟩,
 ⟨some 10, none, .mv (.t 16)⟩])
 (.cond (.t 10)
 .skip
 (.seq (.reg [⟨some 17, none, .bin .eql 3 (.t 3) (.c (.i .i64 9))⟩,
 ⟨some 10, none, .mv (.t 17)⟩])
 (.cond (.t 10)
 .skip
 (.seq (.reg [⟨some 18, none, .bin .eql 3 (.t 3) (.c (.i .i64 10))⟩,
 ⟨some 10, none, .mv (.t 18)⟩])
 (.cond (.t 10)
 .skip
 (.seq (.reg [⟨some 19, none, .bin .eql 3 (.t 3) (.c (.i .i64 11))⟩,
 ⟨some 10, none, .mv (.t 19)⟩])
 (.cut [1000000, 3, 10] (.cond (.t 10)
 .skip
 (.seq (.reg [⟨some 20, none, .bin .eql 3 (.t 3) (.c (.i .i64 12))⟩,
 ⟨some 10, none, .mv (.t 20)⟩])
 (.cond (.t 10)
 .skip
 (.seq (.reg [⟨some 21, none, .bin .eql 3 (.t 3) (.c (.i .i64 13))⟩,
 ⟨some 10, none, .mv (.t 21)⟩])
 (.cond (.t 10)
 .skip
 (.seq (.reg [⟨some 22, none, .bin .eql 3 (.t 3) (.c (.i .i64 14))⟩,
 ⟨some 10, none, .mv (.t 22)⟩])
 (.cond (.t 10)
 .skip
 (.seq (.reg [⟨some 23, none, .bin .eql 3 (.t 3) (.c (.i .i64 15))⟩,
 ⟨some 10, none, .mv (.t 23)⟩])
 (.cond (.t 10)
 .skip
 (.seq (.reg [⟨some 24, none, .bin .eql 3 (.t 3) (.c (.i .i64 32))⟩,
 ⟨some 10, none, .mv (.t 24)⟩])
 (.cond (.t 10)
 .skip
 (.seq (.reg [⟨some 25, none, .bin .eql 3 (.t 3) (.c (.i .i64 34))⟩,
 ⟨some 10, none, .mv (.t 25)⟩])
 (.cond (.t 10)
 .skip
 (.seq (.reg [⟨some 26, none, .bin .eql 3 (.t 3) (.c (.i .i64 35))⟩,
 ⟨some 10, none, .mv (.t 26)⟩])
 (.cond (.t 10)
 .skip
 (.seq (.reg [⟨some 27, none, .bin .eql 3 (.t 3) (.c (.i .i64 36))⟩,
 ⟨some 10, none, .mv (.t 27)⟩])
 (.cond (.t 10)
 .skip
 (.seq (.reg [⟨some 28, none, .bin .eql 3 (.t 3) (.c (.i .i64 37))⟩,
 ⟨some 10, none, .mv (.t 28)⟩])
 (.cond (.t 10)
 .skip
 (.seq (.reg [⟨some 29, none, .bin .eql 3 (.t 3) (.c (.i .i64 38))⟩,
 ⟨some 10, none, .mv (.t 29)⟩])
 (.cond (.t 10)
 .skip
 (.seq (.reg [⟨some 30, none, .bin .eql 3 (.t 3) (.c (.i .i64 39))⟩,
 ⟨some 10, none, .mv (.t 30)⟩])
 (.cond (.t 10)
 .skip
 (.reg [⟨some 31, none, .bin .eql 3 (.t 3) (.c (.i .i64 40))⟩,
 ⟨some 10, none, .mv (.t 31)⟩]))))))))))))))))))))))))))))))))))))))))))
 (.cut [1000000, 3, 10] (.cond (.t 10)
 (.seq (.reg [⟨some 2, none, .mv (.c (.s [97, 98, 99]))⟩])
 .ret)
 (.seq (.seq (.reg [⟨some 33, none, .bin .eql 3 (.t 3) (.c (.i .i64 16))⟩,
 ⟨some 32, none, .mv (.t 33)⟩])
 (.cond (.t 32)
 .skip
 (.seq (.reg [⟨some 34, none, .bin .eql 3 (.t 3) (.c (.i .i64 17))⟩,
 ⟨some 32, none, .mv (.t 34)⟩])
 (.cond (.t 32)
 .skip
 (.seq (.reg [⟨some 35, none, .bin .eql 3 (.t 3) (.c (.i .i64 18))⟩,
 ⟨some 32, none, .mv (.t 35)⟩])
 (.cond (.t 32)
 .skip
 (.seq (.reg [⟨some 36, none, .bin .eql 3 (.t 3) (.c (.i .i64 19))⟩,
 ⟨some 32, none, .mv (.t 36)⟩])
 (.cond (.t 32)
 .skip
 (.seq (.reg [⟨some 37, none, .bin .eql 3 (.t 3) (.c (.i .i64 20))⟩,
 ⟨some 32, none, .mv (.t 37)⟩])
 (.cond (.t 32)
 .skip
 (.seq (.reg [⟨some 38, none, .bin .eql 3 (.t 3) (.c (.i .i64 21))⟩,
 ⟨some 32, none, .mv (.t 38)⟩])
 (.cond (.t 32)
 .skip
 (.seq (.reg [⟨some 39, none, .bin .eql 3 (.t 3) (.c (.i .i64 22))⟩,
 ⟨some 32, none, .mv (.t 39)⟩])
 (.cond (.t 32)
 .skip
 (.seq (.reg [⟨some 40, none, .bin .eql 3 (.t 3) (.c (.i .i64 23))⟩,
 ⟨some 32, none, .mv (.t 40)⟩])
 (.cond (.t 32)
 .skip
 (.seq (.reg [⟨some 41, none, .bin .eql 3 (.t 3) (.c (.i .i64 24))⟩,
 ⟨some 32, none, .mv (.t 41)⟩])
 (.cut [1000000, 3, 32] (.cond (.t 32)
 .skip
 (.seq (.reg [⟨some 42, none, .bin .eql 3 (.t 3) (.c (.i .i64 25))⟩,
 ⟨some 32, none, .mv (.t 42)⟩])
 (.cond (.t 32)
 .skip
 (.seq (.reg [⟨some 43, none, .bin .eql 3 (.t 3) (.c (.i .i64 26))⟩,
 ⟨some 32, none, .mv (.t 43)⟩])
 (.cond (.t 32)
 .skip
 (.seq (.reg [⟨some 44, none, .bin .eql 3 (.t 3) (.c (.i .i64 27))⟩,
 ⟨some 32, none, .mv (.t 44)⟩])
 (.cond (.t 32)
 .skip
 (.seq (.reg [⟨some 45, none, .bin .eql 3 (.t 3) (.c (.i .i64 28))⟩,
 ⟨some 32, none, .mv (.t 45)⟩])
 (.cond (.t 32)
 .skip
 (.reg [⟨some 46, none, .bin .eql 3 (.t 3) (.c (.i .i64 33))⟩,
 ⟨some 32, none, .mv (.t 46)⟩]))))))))))))))))))))))))))))
 (.cut [1000000, 3, 32] (.cond (.t 32)
 (.seq (.reg [⟨some 2, none, .mv (.c (.s [97, 98, 105]))⟩])
 .ret)
 (.seq (.seq (.reg [⟨some 48, none, .bin .eql 3 (.t 3) (.c (.i .i64 30))⟩,
 ⟨some 47, none, .mv (.t 48)⟩])
 (.cond (.t 47)
 .skip
 (.seq (.reg [⟨some 49, none, .bin .eql 3 (.t 3) (.c (.i .i64 31))⟩,
 ⟨some 47, none, .mv (.t 49)⟩])
 (.cond (.t 47)
 .skip
 (.seq (.reg [⟨some 50, none, .bin .eql 3 (.t 3) (.c (.i .i64 41))⟩,
 ⟨some 47, none, .mv (.t 50)⟩])
 (.cond (.t 47)
 .skip
 (.seq (.reg [⟨some 51, none, .bin .eql 3 (.t 3) (.c (.i .i64 42))⟩,
 ⟨some 47, none, .mv (.t 51)⟩])
 (.cond (.t 47)
 .skip
 (.seq (.reg [⟨some 52, none, .bin .eql 3 (.t 3) (.c (.i .i64 43))⟩,
 ⟨some 47, none, .mv (.t 52)⟩])
 (.cond (.t 47)
 .skip
 (.seq (.reg [⟨some 53, none, .bin .eql 3 (.t 3) (.c (.i .i64 44))⟩,
 ⟨some 47, none, .mv (.t 53)⟩])
 (.cond (.t 47)
 .skip
 (.seq (.reg [⟨some 54, none, .bin .eql 3 (.t 3) (.c (.i .i64 45))⟩,
 ⟨some 47, none, .mv (.t 54)⟩])
 (.cond (.t 47)
 .skip
 (.seq (.reg [⟨some 55, none, .bin .eql 3 (.t 3) (.c (.i .i64 46))⟩,
 ⟨some 47, none, .mv (.t 55)⟩])
 (.cond (.t 47)
 .skip
 (.seq (.reg [⟨some 56, none, .bin .eql 3 (.t 3) (.c (.i .i64 47))⟩,
 ⟨some 47, none, .mv (.t 56)⟩])
 (.cond (.t 47)
 .skip
 (.seq (.reg [⟨some 57, none, .bin .eql 3 (.t 3) (.c (.i .i64 48))⟩,
 ⟨some 47, none, .mv (.t 57)⟩])
 (.cond (.t 47)
 .skip
 (.reg [⟨some 58, none, .bin .eql 3 (.t 3) (.c (.i .i64 50))⟩,
 ⟨some 47, none, .mv (.t 58)⟩])))))))))))))))))))))
 (.cut [1000000, 3, 47] (.cond (.t 47)
 (.seq (.reg [⟨some 2, none, .mv (.c (.s [97, 98]))⟩])
 .ret)
 (.seq (.reg [⟨some 60, none, .bin .eql 3 (.t 3) (.c (.i .i64 52))⟩,
 ⟨some 59, none, .mv (.t 60)⟩])
 (.cond (.t 59)
 (.seq (.reg [⟨some 2, none, .mv (.c (.s [105]))⟩])
 .ret)
 .skip))))))))))))))))))
 (.seq (.reg [⟨some 2, none, .mv (.c (.s []))⟩])
 .ret)))
def F38 : AF := ⟨61, [.t 2], c38⟩
/-- fallow/fallowref08.signed -/
def c39 : AC := (.seq (.reg [⟨some 2, none, .mv (.c (.s []))⟩])
 (.seq (.seq (.reg [⟨some 3, none, .mv (.t 0)⟩,
 ⟨some 4, none, .bin .lss 3 (.t 3) (.c (.i .i64 0))⟩])
 (.cond (.t 4)
 (.seq (.cut [0] (.reg [⟨some 5, none, .mv (.t 0)⟩,
 ⟨some 6, none, .un .neg (.t 5)⟩,
 ⟨some 7, none, .conv 3 67 (.t 6)⟩,
 ⟨some 8, none, .call (.c (.fn (.func 36) [] [])) [.t 7]⟩,
 ⟨some 9, none, .bin .add 9 (.c (.s [45])) (.t 8)⟩,
 ⟨some 2, none, .mv (.t 9)⟩]))
 .ret)
 .skip))
 (.seq (.cut [0] (.reg [⟨some 10, none, .mv (.t 0)⟩,
 ⟨some 11, none, .conv 3 67 (.t 10)⟩,
 ⟨some 12, none, .call (.c (.fn (.func 36) [] [])) [.t 11]⟩,
 ⟨some 2, none, .mv (.t 12)⟩]))
 .ret)))
def F39 : AF := ⟨13, [.t 2], c39⟩
/-- (*strings.Builder).WriteString -/
def c40 : AC := (.seq (.reg [⟨some 4, none, .mv (.c (.i .i64 0))⟩,
 ⟨some 5, none, .mv (.c (.ic0))⟩])
 (.seq (.reg [⟨some 6, none, .mv (.t 0)⟩,
 ⟨some 7, none, .call (.c (.fn (.func 80) [] [])) [.t 6]⟩])
 (.seq (.cut [0, 1] (.reg [⟨some 8, none, .mv (.t 0)⟩,
 ⟨some 9, none, .mv (.t 0)⟩,
 ⟨some 10, none, .nilck (.t 9)⟩,
 ⟨some 11, none, .fad 72 (.t 10) 1⟩,
 ⟨some 12, none, .load 38 (.t 11)⟩,
 ⟨some 13, none, .mv (.t 1)⟩,
 ⟨some 14, none, .app 38 true (.t 12) (.t 13)⟩,
 ⟨some 15, none, .nilck (.t 8)⟩,
 ⟨some 16, none, .fad 72 (.t 15) 1⟩,
 ⟨none, none, .store 38 (.t 16) (.t 14)⟩]))
 (.seq (.cut [1] (.reg [⟨some 17, none, .mv (.t 1)⟩,
 ⟨some 18, none, .len 9 (.t 17)⟩,
 ⟨some 4, none, .mv (.t 18)⟩,
 ⟨some 5, none, .mv (.c (.ic0))⟩]))
 .ret))))
def F40 : AF := ⟨19, [.t 4, .t 5], c40⟩
/-- fallow/asm.fault -/
def c42 : AC := (.seq (.reg [⟨some 4, none, .mv (.c (.ic0))⟩])
 (.seq (.cut [0, 1] (.reg [⟨some 5, none, .mv (.t 0)⟩,
 ⟨some 6, none, .mv (.t 1)⟩,
 ⟨some 7, none, .build 54 [(0, .t 5), (1, .t 6)]⟩,
 ⟨some 8, none, .box 54 (.t 7)⟩,
 ⟨some 9, none, .mki 48 (.t 8)⟩,
 ⟨some 4, none, .mv (.t 9)⟩]))
 .ret))
def F42 : AF := ⟨10, [.t 4], c42⟩
/-- fallow/asm.Assemble$1 -/
def c43 : AC := (.seq (.reg [⟨some 6, none, .mv (.c (.ic0))⟩])
 (.seq (.cut [0, 1, 2, 3] (.reg [⟨some 13, none, .mv (.t 0)⟩,
 ⟨some 14, none, .iad 52 (.t 13) (.c (.i .i64 0))⟩,
 ⟨some 15, none, .load 9 (.t 14)⟩,
 ⟨some 16, none, .call (.c (.fn (.func 44) [] [])) [.t 15, .c (.s [58])]⟩,
 ⟨some 12, none, .mv (.t 16)⟩,
 ⟨some 17, none, .ext (.t 12) 0⟩,
 ⟨some 18, none, .ext (.t 12) 1⟩,
 ⟨some 7, none, .mv (.t 17)⟩,
 ⟨some 8, none, .mv (.t 18)⟩]))
 (.seq (.seq (.cut [0, 1, 2, 3, 7, 8] (.reg [⟨some 19, none, .mv (.t 8)⟩,
 ⟨some 20, none, .mv (.t 19)⟩,
 ⟨some 21, some (20, true), .mv (.t 0)⟩,
 ⟨some 22, some (20, true), .len 52 (.t 21)⟩,
 ⟨some 23, some (20, true), .bin .eql 3 (.t 22) (.c (.i .i64 1))⟩,
 ⟨some 24, none, .pick (.t 20) (.t 23) (.c (.b false))⟩,
 ⟨some 25, none, .mv (.t 24)⟩,
 ⟨some 26, some (25, true), .mv (.t 7)⟩,
 ⟨some 27, some (25, true), .call (.c (.fn (.func 45) [] [])) [.t 26]⟩,
 ⟨some 28, none, .pick (.t 25) (.t 27) (.c (.b false))⟩]))
 (.cond (.t 28)
 (.seq (.seq (.cut [1, 2, 3, 7] (.reg [⟨some 30, none, .load 77 (.t 2)⟩,
 ⟨some 31, none, .mv (.t 7)⟩,
 ⟨some 32, none, .lku 77 (.t 30) (.t 31) true⟩,
 ⟨some 29, none, .mv (.t 32)⟩,
 ⟨some 33, none, .ext (.t 29) 0⟩,
 ⟨some 34, none, .ext (.t 29) 1⟩,
 ⟨some 9, none, .mv (.t 33)⟩,
 ⟨some 10, none, .mv (.t 34)⟩]))
 (.seq (.reg [⟨some 35, none, .mv (.t 10)⟩])
 (.cond (.t 35)
 (.seq (.cut [1] (.reg [⟨some 36, none, .mv (.t 1)⟩,
 ⟨some 37, none, .call (.c (.fn (.func 42) [] [])) [.c (.i .i64 11), .t 36]⟩,
 ⟨some 6, none, .mv (.t 37)⟩]))
 .ret)
 .skip)))
 (.cut [1000000, 2, 3, 7] (.seq (.cut [2, 3, 7] (.reg [⟨some 38, none, .load 77 (.t 2)⟩,
 ⟨some 39, none, .mv (.t 7)⟩,
 ⟨some 40, none, .load 78 (.t 3)⟩,
 ⟨some 41, none, .len 78 (.t 40)⟩,
 ⟨none, none, .mup 77 (.t 38) (.t 39) (.t 41)⟩]))
 (.seq (.reg [⟨some 6, none, .mv (.c (.ic0))⟩])
 .ret))))
 .skip))
 (.seq (.cut [0, 1, 3] (.reg [⟨some 43, none, .mv (.t 0)⟩,
 ⟨some 44, none, .call (.c (.fn (.func 26) [] [])) [.t 43]⟩,
 ⟨some 42, none, .mv (.t 44)⟩,
 ⟨some 45, none, .ext (.t 42) 0⟩,
 ⟨some 46, none, .ext (.t 42) 1⟩,
 ⟨some 11, none, .alloc 57⟩,
 ⟨none, none, .store 57 (.t 11) (.t 45)⟩,
 ⟨some 8, none, .mv (.t 46)⟩]))
 (.cut [1000000, 1, 3, 8, 11] (.seq (.blk 0
 (.seq (.cut [1, 3, 8, 11] (.reg [⟨some 48, none, .mv (.t 8)⟩,
 ⟨some 49, none, .un .not (.t 48)⟩,
 ⟨some 47, none, .mv (.t 49)⟩]))
 (.cond (.t 47)
 (.seq (.cut [1] (.reg [⟨some 50, none, .mv (.t 1)⟩,
 ⟨some 51, none, .call (.c (.fn (.func 42) [] [])) [.c (.i .i64 4), .t 50]⟩,
 ⟨some 6, none, .mv (.t 51)⟩]))
 .ret)
 (.seq (.cut [1, 3, 11] (.reg [⟨some 53, none, .load 78 (.t 3)⟩,
 ⟨some 54, none, .len 78 (.t 53)⟩,
 ⟨some 55, none, .bin .geq 3 (.t 54) (.c (.i .i64 4096))⟩,
 ⟨some 52, none, .mv (.t 55)⟩]))
 (.cond (.t 52)
 (.seq (.cut [1] (.reg [⟨some 56, none, .mv (.t 1)⟩,
 ⟨some 57, none, .call (.c (.fn (.func 42) [] [])) [.c (.i .i64 3), .t 56]⟩,
 ⟨some 6, none, .mv (.t 57)⟩]))
 .ret)
 .skip)))))
 (.seq (.cut [1, 3, 11] (.reg [⟨some 58, none, .mv (.t 1)⟩,
 ⟨some 59, none, .fad 57 (.t 11) 3⟩,
 ⟨none, none, .store 3 (.t 59) (.t 58)⟩]))
 (.seq (.cut [3, 11] (.reg [⟨some 60, none, .load 78 (.t 3)⟩,
 ⟨some 61, none, .load 57 (.t 11)⟩,
 ⟨some 62, none, .bsl 78 1 [(0, .t 61)]⟩,
 ⟨some 63, none, .app 78 false (.t 60) (.t 62)⟩,
 ⟨none, none, .store 78 (.t 3) (.t 63)⟩]))
 (.seq (.reg [⟨some 6, none, .mv (.c (.ic0))⟩])
 .ret)))))))))
def F43 : AF := ⟨64, [.t 6], c43⟩
/-- fallow/asm.name -/
def c45 : AC := (.seq (.reg [⟨some 2, none, .mv (.c (.b false))⟩])
 (.seq (.cut [0] (.reg [⟨some 3, none, .mv (.t 0)⟩,
 ⟨some 4, none, .len 9 (.t 3)⟩,
 ⟨some 5, none, .bin .geq 3 (.t 4) (.c (.i .i64 1))⟩,
 ⟨some 6, none, .mv (.t 5)⟩,
 ⟨some 7, some (6, true), .mv (.t 0)⟩,
 ⟨some 8, some (6, true), .len 9 (.t 7)⟩,
 ⟨some 9, some (6, true), .bin .leq 3 (.t 8) (.c (.i .i64 32))⟩,
 ⟨some 10, none, .pick (.t 6) (.t 9) (.c (.b false))⟩,
 ⟨some 11, none, .mv (.t 10)⟩,
 ⟨some 12, some (11, true), .mv (.t 0)⟩,
 ⟨some 13, some (11, true), .call (.c (.fn (.func 82) [] [])) [.t 12, .c (.s [97, 98, 99, 100, 101, 102, 103, 104, 105, 106, 107, 108, 109, 110, 111, 112, 113, 114, 115, 116, 117, 118, 119, 120, 121, 122, 95, 48, 49, 50, 51, 52, 53, 54, 55, 56, 57])]⟩,
 ⟨some 14, some (11, true), .bin .eql 9 (.t 13) (.c (.s []))⟩,
 ⟨some 15, none, .pick (.t 11) (.t 14) (.c (.b false))⟩,
 ⟨some 16, none, .mv (.t 15)⟩,
 ⟨some 17, some (16, true), .mv (.t 0)⟩,
 ⟨some 18, some (16, true), .slc 9 (.t 17) none (some (.c (.i .i64 1)))⟩,
 ⟨some 19, some (16, true), .call (.c (.fn (.func 19) [] [])) [.c (.s [48, 49, 50, 51, 52, 53, 54, 55, 56, 57]), .t 18]⟩,
 ⟨some 20, some (16, true), .un .not (.t 19)⟩,
 ⟨some 21, none, .pick (.t 16) (.t 20) (.c (.b false))⟩,
 ⟨some 2, none, .mv (.t 21)⟩]))
 .ret))
def F45 : AF := ⟨22, [.t 2], c45⟩
/-- fallow/isa.Decode$1 -/
def c54 : AC := (.seq (.reg [⟨some 5, none, .mv (.c (.i .i64 0))⟩])
 (.seq (.cut [0, 1, 2] (.drw [(⟨some 6, none, .load 22 (.t 2)⟩, []),
 (⟨some 7, none, .mv (.t 0)⟩, []),
 (⟨some 8, none, .bin .shr 22 (.t 6) (.t 7)⟩, []),
 (⟨some 9, none, .mv (.t 1)⟩, []),
 (⟨some 10, none, .bin .shl 22 (.c (.i .u32 1)) (.t 9)⟩, []),
 (⟨some 11, none, .bin .sub 22 (.t 10) (.c (.i .u32 1))⟩, []),
 (⟨some 12, none, .bin .and 22 (.t 8) (.t 11)⟩, []),
 (⟨some 13, none, .conv 22 3 (.t 12)⟩, []),
 (⟨some 5, none, .mv (.t 13)⟩, [])]))
 .ret))
def F54 : AF := ⟨14, [.t 5], c54⟩
/-- fallow/isa.Decode$2 -/
def c55 : AC := (.seq (.reg [⟨some 3, none, .mv (.c (.i .i64 0))⟩])
 (.seq (.cut [0, 1] (.drw [(⟨some 4, none, .load 93 (.t 1)⟩, []),
 (⟨some 5, none, .mv (.t 0)⟩, []),
 (⟨some 7, none, .load 93 (.t 1)⟩, []),
 (⟨some 8, none, .mv (.t 0)⟩, []),
 (⟨some 9, none, .bin .sub 3 (.t 8) (.c (.i .i64 1))⟩, []),
 (⟨some 11, none, .mv (.t 0)⟩, []),
 (⟨some 6, none, .call (.t 4) [.c (.i .i64 0), .t 5]⟩, [⟨some 7, none, .load 93 (.t 1)⟩]),
 (⟨some 10, none, .call (.t 7) [.t 9, .c (.i .i64 1)]⟩, []),
 (⟨some 12, none, .bin .shl 3 (.t 10) (.t 11)⟩, []),
 (⟨some 13, none, .bin .sub 3 (.t 6) (.t 12)⟩, []),
 (⟨some 3, none, .mv (.t 13)⟩, [])]))
 .ret))
def F55 : AF := ⟨14, [.t 3], c55⟩
/-- fallow/fallowref08.lines -/
def c56L0 : AC := (.seq (.seq (.cut [0, 3, 4, 5] (.reg [⟨some 6, none, .mv (.t 5)⟩,
 ⟨some 7, none, .mv (.t 0)⟩,
 ⟨some 8, none, .len 9 (.t 7)⟩,
 ⟨some 9, none, .bin .lss 3 (.t 6) (.t 8)⟩]))
 (.cond (.t 9)
 .skip
 (.exit 0)))
 (.seq (.blk 1
 (.seq (.cut [0, 3, 4, 5] (.reg [⟨some 12, none, .mv (.t 0)⟩,
 ⟨some 13, none, .mv (.t 5)⟩,
 ⟨some 14, none, .idx 9 (.t 12) (.t 13)⟩,
 ⟨some 15, none, .bin .eql 5 (.t 14) (.c (.i .u8 10))⟩]))
 (.cond (.t 15)
 (.seq (.cut [0, 3, 4, 5] (.reg [⟨some 16, none, .mv (.t 3)⟩,
 ⟨some 17, none, .mv (.t 0)⟩,
 ⟨some 18, none, .mv (.t 4)⟩,
 ⟨some 19, none, .mv (.t 5)⟩,
 ⟨some 20, none, .slc 9 (.t 17) (some (.t 18)) (some (.t 19))⟩,
 ⟨some 21, none, .bsl 52 1 [(0, .t 20)]⟩,
 ⟨some 22, none, .app 52 false (.t 16) (.t 21)⟩,
 ⟨some 3, none, .mv (.t 22)⟩]))
 (.cut [0, 3, 5] (.reg [⟨some 23, none, .mv (.t 5)⟩,
 ⟨some 24, none, .bin .add 3 (.t 23) (.c (.i .i64 1))⟩,
 ⟨some 4, none, .mv (.t 24)⟩])))
 .skip)))
 (.cut [1000000, 0, 3, 4, 5] (.cut [0, 3, 4, 5] (.reg [⟨some 10, none, .mv (.t 5)⟩,
 ⟨some 11, none, .bin .add 3 (.t 10) (.c (.i .i64 1))⟩,
 ⟨some 5, none, .mv (.t 11)⟩])))))
def c56 : AC := (.seq (.reg [⟨some 2, none, .mv (.c (.sl0))⟩])
 (.seq (.reg [⟨some 3, none, .mv (.c (.sl0))⟩])
 (.seq (.reg [⟨some 4, none, .mv (.c (.i .i64 0))⟩])
 (.seq (.seq (.reg [⟨some 5, none, .mv (.c (.i .i64 0))⟩])
 (.blk 0
 (.loop [0, 3, 4, 5] c56L0)))
 (.seq (.cut [0, 3, 4] (.reg [⟨some 25, none, .mv (.t 3)⟩,
 ⟨some 26, none, .mv (.t 0)⟩,
 ⟨some 27, none, .mv (.t 4)⟩,
 ⟨some 28, none, .slc 9 (.t 26) (some (.t 27)) none⟩,
 ⟨some 29, none, .bsl 52 1 [(0, .t 28)]⟩,
 ⟨some 30, none, .app 52 false (.t 25) (.t 29)⟩,
 ⟨some 2, none, .mv (.t 30)⟩]))
 .ret)))))
def F56 : AF := ⟨31, [.t 2], c56⟩
/-- fallow/fallowref08.remark -/
def c57L0 : AC := (.seq (.seq (.cut [0, 3] (.reg [⟨some 4, none, .mv (.t 3)⟩,
 ⟨some 5, none, .mv (.t 0)⟩,
 ⟨some 6, none, .len 9 (.t 5)⟩,
 ⟨some 7, none, .bin .lss 3 (.t 4) (.t 6)⟩]))
 (.cond (.t 7)
 .skip
 (.exit 0)))
 (.seq (.blk 1
 (.seq (.cut [0, 3] (.reg [⟨some 10, none, .mv (.t 0)⟩,
 ⟨some 11, none, .mv (.t 3)⟩,
 ⟨some 12, none, .idx 9 (.t 10) (.t 11)⟩,
 ⟨some 13, none, .bin .eql 5 (.t 12) (.c (.i .u8 59))⟩]))
 (.cond (.t 13)
 (.seq (.cut [0, 3] (.reg [⟨some 14, none, .mv (.t 0)⟩,
 ⟨some 15, none, .mv (.t 3)⟩,
 ⟨some 16, none, .slc 9 (.t 14) none (some (.t 15))⟩,
 ⟨some 2, none, .mv (.t 16)⟩]))
 .ret)
 .skip)))
 (.cut [0, 3] (.reg [⟨some 8, none, .mv (.t 3)⟩,
 ⟨some 9, none, .bin .add 3 (.t 8) (.c (.i .i64 1))⟩,
 ⟨some 3, none, .mv (.t 9)⟩]))))
def c57 : AC := (.seq (.reg [⟨some 2, none, .mv (.c (.s []))⟩])
 (.seq (.seq (.reg [⟨some 3, none, .mv (.c (.i .i64 0))⟩])
 (.blk 0
 (.loop [0, 3] c57L0)))
 (.seq (.reg [⟨some 17, none, .mv (.t 0)⟩,
 ⟨some 2, none, .mv (.t 17)⟩])
 .ret)))
def F57 : AF := ⟨18, [.t 2], c57⟩
/-- fallow/fallowref08.Name -/
def c58L0 : AC := (.seq (.seq (.cut [0, 3] (.reg [⟨some 23, none, .mv (.t 3)⟩,
 ⟨some 24, none, .mv (.t 0)⟩,
 ⟨some 25, none, .len 9 (.t 24)⟩,
 ⟨some 26, none, .bin .lss 3 (.t 23) (.t 25)⟩]))
 (.cond (.t 26)
 .skip
 (.exit 0)))
 (.seq (.blk 1
 (.seq (.cut [0, 3] (.reg [⟨some 29, none, .mv (.t 0)⟩,
 ⟨some 30, none, .mv (.t 3)⟩,
 ⟨some 31, none, .idx 9 (.t 29) (.t 30)⟩,
 ⟨some 4, none, .mv (.t 31)⟩]))
 (.seq (.cut [0, 3, 4] (.reg [⟨some 32, none, .mv (.t 4)⟩,
 ⟨some 33, none, .bin .geq 5 (.t 32) (.c (.i .u8 97))⟩,
 ⟨some 34, none, .mv (.t 33)⟩,
 ⟨some 35, some (34, true), .mv (.t 4)⟩,
 ⟨some 36, some (34, true), .bin .leq 5 (.t 35) (.c (.i .u8 122))⟩,
 ⟨some 37, none, .pick (.t 34) (.t 36) (.c (.b false))⟩,
 ⟨some 38, none, .mv (.t 37)⟩,
 ⟨some 39, some (38, false), .mv (.t 4)⟩,
 ⟨some 40, some (38, false), .bin .geq 5 (.t 39) (.c (.i .u8 48))⟩,
 ⟨some 41, some (38, false), .mv (.t 40)⟩,
 ⟨some 42, some (41, true), .mv (.t 4)⟩,
 ⟨some 43, some (41, true), .bin .leq 5 (.t 42) (.c (.i .u8 57))⟩,
 ⟨some 44, some (38, false), .pick (.t 41) (.t 43) (.c (.b false))⟩,
 ⟨some 45, none, .pick (.t 38) (.c (.b true)) (.t 44)⟩,
 ⟨some 46, none, .mv (.t 45)⟩,
 ⟨some 47, some (46, false), .mv (.t 4)⟩,
 ⟨some 48, some (46, false), .bin .eql 5 (.t 47) (.c (.i .u8 95))⟩,
 ⟨some 49, none, .pick (.t 46) (.c (.b true)) (.t 48)⟩,
 ⟨some 50, none, .un .not (.t 49)⟩]))
 (.cond (.t 50)
 (.seq (.reg [⟨some 2, none, .mv (.c (.b false))⟩])
 .ret)
 .skip))))
 (.cut [0, 3] (.reg [⟨some 27, none, .mv (.t 3)⟩,
 ⟨some 28, none, .bin .add 3 (.t 27) (.c (.i .i64 1))⟩,
 ⟨some 3, none, .mv (.t 28)⟩]))))
def c58 : AC := (.seq (.reg [⟨some 2, none, .mv (.c (.b false))⟩])
 (.seq (.seq (.cut [0] (.reg [⟨some 5, none, .mv (.t 0)⟩,
 ⟨some 6, none, .len 9 (.t 5)⟩,
 ⟨some 7, none, .bin .lss 3 (.t 6) (.c (.i .i64 1))⟩,
 ⟨some 8, none, .mv (.t 7)⟩,
 ⟨some 9, some (8, false), .mv (.t 0)⟩,
 ⟨some 10, some (8, false), .len 9 (.t 9)⟩,
 ⟨some 11, some (8, false), .bin .gtr 3 (.t 10) (.c (.i .i64 32))⟩,
 ⟨some 12, none, .pick (.t 8) (.c (.b true)) (.t 11)⟩,
 ⟨some 13, none, .mv (.t 12)⟩,
 ⟨some 14, some (13, false), .mv (.t 0)⟩,
 ⟨some 15, some (13, false), .idx 9 (.t 14) (.c (.i .i64 0))⟩,
 ⟨some 16, some (13, false), .bin .geq 5 (.t 15) (.c (.i .u8 48))⟩,
 ⟨some 17, some (13, false), .mv (.t 16)⟩,
 ⟨some 18, some (17, true), .mv (.t 0)⟩,
 ⟨some 19, some (17, true), .idx 9 (.t 18) (.c (.i .i64 0))⟩,
 ⟨some 20, some (17, true), .bin .leq 5 (.t 19) (.c (.i .u8 57))⟩,
 ⟨some 21, some (13, false), .pick (.t 17) (.t 20) (.c (.b false))⟩,
 ⟨some 22, none, .pick (.t 13) (.c (.b true)) (.t 21)⟩]))
 (.cond (.t 22)
 (.seq (.reg [⟨some 2, none, .mv (.c (.b false))⟩])
 .ret)
 .skip))
 (.seq (.seq (.reg [⟨some 3, none, .mv (.c (.i .i64 0))⟩])
 (.blk 0
 (.loop [0, 3] c58L0)))
 (.seq (.reg [⟨some 2, none, .mv (.c (.b true))⟩])
 .ret))))
def F58 : AF := ⟨51, [.t 2], c58⟩
/-- fallow/fallowref08.find -/
def c59L0 : AC := (.seq (.seq (.cut [0, 1, 5] (.reg [⟨some 6, none, .mv (.t 5)⟩,
 ⟨some 7, none, .mv (.t 0)⟩,
 ⟨some 8, none, .len 52 (.t 7)⟩,
 ⟨some 9, none, .bin .lss 3 (.t 6) (.t 8)⟩]))
 (.cond (.t 9)
 .skip
 (.exit 0)))
 (.seq (.blk 1
 (.seq (.cut [0, 1, 5] (.reg [⟨some 12, none, .mv (.t 0)⟩,
 ⟨some 13, none, .mv (.t 5)⟩,
 ⟨some 14, none, .iad 52 (.t 12) (.t 13)⟩,
 ⟨some 15, none, .load 9 (.t 14)⟩,
 ⟨some 16, none, .mv (.t 1)⟩,
 ⟨some 17, none, .bin .eql 9 (.t 15) (.t 16)⟩]))
 (.cond (.t 17)
 (.seq (.reg [⟨some 18, none, .mv (.t 5)⟩,
 ⟨some 4, none, .mv (.t 18)⟩])
 .ret)
 .skip)))
 (.cut [0, 1, 5] (.reg [⟨some 10, none, .mv (.t 5)⟩,
 ⟨some 11, none, .bin .add 3 (.t 10) (.c (.i .i64 1))⟩,
 ⟨some 5, none, .mv (.t 11)⟩]))))
def c59 : AC := (.seq (.reg [⟨some 4, none, .mv (.c (.i .i64 0))⟩])
 (.seq (.seq (.reg [⟨some 5, none, .mv (.c (.i .i64 0))⟩])
 (.blk 0
 (.loop [0, 1, 5] c59L0)))
 (.seq (.reg [⟨some 4, none, .mv (.c (.i .i64 (-1)))⟩])
 .ret)))
def F59 : AF := ⟨19, [.t 4], c59⟩
/-- fallow/fallowref07.Encode -/
def c60 : AC := (.seq (.cut [0] (.reg [⟨some 1, none, .box 45 (.t 0)⟩,
 ⟨some 2, none, .mv (.c (.i .u32 0))⟩,
 ⟨some 3, none, .mv (.c (.i .i64 0))⟩]))
 (.seq (.seq (.cut [1] (.reg [⟨some 6, none, .load 45 (.t 1)⟩,
 ⟨some 7, none, .call (.c (.fn (.func 92) [] [])) [.t 6]⟩,
 ⟨some 8, none, .un .not (.t 7)⟩]))
 (.cond (.t 8)
 (.seq (.reg [⟨some 2, none, .mv (.c (.i .u32 0))⟩,
 ⟨some 3, none, .mv (.c (.i .i64 2))⟩])
 .ret)
 .skip))
 (.seq (.cut [1] (.reg [⟨some 9, none, .fad 45 (.t 1) 0⟩,
 ⟨some 10, none, .load 3 (.t 9)⟩,
 ⟨some 11, none, .conv 3 22 (.t 10)⟩,
 ⟨some 12, none, .bin .mul 22 (.t 11) (.c (.i .u32 16777216))⟩,
 ⟨some 13, none, .fad 45 (.t 1) 1⟩,
 ⟨some 14, none, .load 3 (.t 13)⟩,
 ⟨some 15, none, .conv 3 22 (.t 14)⟩,
 ⟨some 16, none, .bin .mul 22 (.t 15) (.c (.i .u32 1048576))⟩,
 ⟨some 17, none, .bin .add 22 (.t 12) (.t 16)⟩,
 ⟨some 18, none, .fad 45 (.t 1) 2⟩,
 ⟨some 19, none, .load 3 (.t 18)⟩,
 ⟨some 20, none, .conv 3 22 (.t 19)⟩,
 ⟨some 21, none, .bin .mul 22 (.t 20) (.c (.i .u32 65536))⟩,
 ⟨some 22, none, .bin .add 22 (.t 17) (.t 21)⟩,
 ⟨some 23, none, .fad 45 (.t 1) 3⟩,
 ⟨some 24, none, .load 3 (.t 23)⟩,
 ⟨some 25, none, .conv 3 22 (.t 24)⟩,
 ⟨some 26, none, .bin .mul 22 (.t 25) (.c (.i .u32 4096))⟩,
 ⟨some 27, none, .bin .add 22 (.t 22) (.t 26)⟩,
 ⟨some 4, none, .mv (.t 27)⟩]))
 (.cut [1000000, 1, 4] (.seq (.cut [1, 4] (.reg [⟨some 28, none, .fad 45 (.t 1) 4⟩,
 ⟨some 29, none, .load 3 (.t 28)⟩,
 ⟨some 5, none, .mv (.t 29)⟩]))
 (.seq (.seq (.cut [1, 4, 5] (.reg [⟨some 30, none, .mv (.t 5)⟩,
 ⟨some 31, none, .bin .lss 3 (.t 30) (.c (.i .i64 0))⟩,
 ⟨some 32, none, .mv (.t 31)⟩,
 ⟨some 33, some (32, true), .fad 45 (.t 1) 0⟩,
 ⟨some 34, some (32, true), .load 3 (.t 33)⟩,
 ⟨some 35, some (32, true), .call (.c (.fn (.func 38) [] [])) [.t 34]⟩,
 ⟨some 36, some (32, true), .call (.c (.fn (.func 79) [] [])) [.t 35, .c (.i .u8 106)]⟩,
 ⟨some 37, none, .pick (.t 32) (.t 36) (.c (.b false))⟩]))
 (.cond (.t 37)
 (.cut [4, 5] (.reg [⟨some 38, none, .mv (.t 5)⟩,
 ⟨some 39, none, .bin .add 3 (.t 38) (.c (.i .i64 1048576))⟩,
 ⟨some 5, none, .mv (.t 39)⟩]))
 (.seq (.reg [⟨some 40, none, .mv (.t 5)⟩,
 ⟨some 41, none, .bin .lss 3 (.t 40) (.c (.i .i64 0))⟩])
 (.cond (.t 41)
 (.cut [4, 5] (.reg [⟨some 42, none, .mv (.t 5)⟩,
 ⟨some 43, none, .bin .add 3 (.t 42) (.c (.i .i64 4096))⟩,
 ⟨some 5, none, .mv (.t 43)⟩]))
 .skip))))
 (.cut [1000000, 4, 5] (.seq (.cut [4, 5] (.reg [⟨some 44, none, .mv (.t 4)⟩,
 ⟨some 45, none, .mv (.t 5)⟩,
 ⟨some 46, none, .conv 3 22 (.t 45)⟩,
 ⟨some 47, none, .bin .add 22 (.t 44) (.t 46)⟩,
 ⟨some 2, none, .mv (.t 47)⟩,
 ⟨some 3, none, .mv (.c (.i .i64 0))⟩]))
 .ret))))))))
def F60 : AF := ⟨48, [.t 2, .t 3], c60⟩
/-- errors.Is -/
def c62 : AC := (.seq (.reg [⟨some 4, none, .mv (.c (.b false))⟩])
 (.seq (.seq (.cut [0, 1] (.reg [⟨some 6, none, .mv (.t 0)⟩,
 ⟨some 7, none, .bin .eql 33 (.t 6) (.c (.ic0))⟩,
 ⟨some 8, none, .mv (.t 7)⟩,
 ⟨some 9, some (8, false), .mv (.t 1)⟩,
 ⟨some 10, some (8, false), .bin .eql 33 (.t 9) (.c (.ic0))⟩,
 ⟨some 11, none, .pick (.t 8) (.c (.b true)) (.t 10)⟩]))
 (.cond (.t 11)
 (.seq (.cut [0, 1] (.reg [⟨some 12, none, .mv (.t 0)⟩,
 ⟨some 13, none, .mv (.t 1)⟩,
 ⟨some 14, none, .bin .eql 33 (.t 12) (.t 13)⟩,
 ⟨some 4, none, .mv (.t 14)⟩]))
 .ret)
 .skip))
 (.seq (.cut [0, 1] (.reg [⟨some 15, none, .mv (.t 1)⟩,
 ⟨some 16, none, .call (.c (.fn (.func 97) [] [])) [.t 15]⟩,
 ⟨some 17, none, .inv (.t 16) "Comparable" []⟩,
 ⟨some 5, none, .mv (.t 17)⟩]))
 (.seq (.cut [0, 1, 5] (.reg [⟨some 18, none, .mv (.t 0)⟩,
 ⟨some 19, none, .mv (.t 1)⟩,
 ⟨some 20, none, .mv (.t 5)⟩,
 ⟨some 21, none, .call (.c (.fn (.func 98) [] [])) [.t 18, .t 19, .t 20]⟩,
 ⟨some 4, none, .mv (.t 21)⟩]))
 .ret))))
def F62 : AF := ⟨22, [.t 4], c62⟩
/-- fallow/asm.plain -/
def c65 : AC := (.seq (.reg [⟨some 2, none, .mv (.c (.i .i64 0))⟩,
 ⟨some 3, none, .mv (.c (.b false))⟩])
 (.seq (.cut [0] (.reg [⟨some 7, none, .mv (.t 0)⟩,
 ⟨some 8, none, .call (.c (.fn (.func 99) [] [])) [.t 7, .c (.i .i64 10), .c (.i .i64 64)]⟩,
 ⟨some 6, none, .mv (.t 8)⟩,
 ⟨some 9, none, .ext (.t 6) 0⟩,
 ⟨some 10, none, .ext (.t 6) 1⟩,
 ⟨some 4, none, .mv (.t 9)⟩,
 ⟨some 5, none, .mv (.t 10)⟩]))
 (.seq (.cut [0, 4, 5] (.reg [⟨some 11, none, .mv (.t 4)⟩,
 ⟨some 12, none, .mv (.t 5)⟩,
 ⟨some 13, none, .bin .eql 33 (.t 12) (.c (.ic0))⟩,
 ⟨some 14, none, .mv (.t 13)⟩,
 ⟨some 15, some (14, true), .mv (.t 4)⟩,
 ⟨some 16, some (14, true), .call (.c (.fn (.func 100) [] [])) [.t 15, .c (.i .i64 10)]⟩,
 ⟨some 17, some (14, true), .mv (.t 0)⟩,
 ⟨some 18, some (14, true), .bin .eql 9 (.t 16) (.t 17)⟩,
 ⟨some 19, none, .pick (.t 14) (.t 18) (.c (.b false))⟩,
 ⟨some 2, none, .mv (.t 11)⟩,
 ⟨some 3, none, .mv (.t 19)⟩]))
 .ret)))
def F65 : AF := ⟨20, [.t 2, .t 3], c65⟩
/-- fallow/isa.Op -/
def c66L0 : AC := (.seq (.reg [⟨some 7, none, .bin .lss 3 (.t 6) (.c (.i .i64 54))⟩])
 (.seq (.cond (.t 7)
 .skip
 (.exit 0))
 (.seq (.blk 1
 (.seq (.cut [0, 5, 6] (.reg [⟨some 8, none, .mv (.t 6)⟩,
 ⟨some 9, none, .idx 146 (.t 5) (.t 6)⟩,
 ⟨some 4, none, .alloc 113⟩,
 ⟨some 3, none, .mv (.t 8)⟩,
 ⟨none, none, .store 113 (.t 4) (.t 9)⟩]))
 (.seq (.cut [0, 3, 4, 5, 6] (.reg [⟨some 10, none, .fad 113 (.t 4) 0⟩,
 ⟨some 11, none, .load 9 (.t 10)⟩,
 ⟨some 12, none, .mv (.t 0)⟩,
 ⟨some 13, none, .bin .eql 9 (.t 11) (.t 12)⟩,
 ⟨some 14, none, .mv (.t 13)⟩,
 ⟨some 15, some (14, true), .mv (.t 0)⟩,
 ⟨some 16, some (14, true), .bin .neq 9 (.t 15) (.c (.s []))⟩,
 ⟨some 17, none, .pick (.t 14) (.t 16) (.c (.b false))⟩]))
 (.cond (.t 17)
 (.seq (.reg [⟨some 18, none, .mv (.t 3)⟩,
 ⟨some 2, none, .mv (.t 18)⟩])
 .ret)
 .skip))))
 (.reg [⟨some 19, none, .bin .add 3 (.t 6) (.c (.i .i64 1))⟩,
 ⟨some 6, none, .mv (.t 19)⟩]))))
def c66 : AC := (.seq (.reg [⟨some 2, none, .mv (.c (.i .i64 0))⟩])
 (.seq (.seq (.reg [⟨some 5, none, .load 146 (.c (.p 1 0 0))⟩,
 ⟨some 6, none, .mv (.c (.i .i64 0))⟩])
 (.blk 0
 (.loop [0, 5, 6] c66L0)))
 (.seq (.reg [⟨some 2, none, .mv (.c (.i .i64 0))⟩])
 .ret)))
def F66 : AF := ⟨20, [.t 2], c66⟩
/-- fallow/asm.register -/
def c67 : AC := (.seq (.reg [⟨some 2, none, .mv (.c (.i .i64 0))⟩,
 ⟨some 3, none, .mv (.c (.b false))⟩])
 (.seq (.cut [0] (.reg [⟨some 7, none, .mv (.t 0)⟩,
 ⟨some 8, none, .call (.c (.fn (.func 101) [] [])) [.t 7, .c (.s [99])]⟩,
 ⟨some 9, none, .call (.c (.fn (.func 65) [] [])) [.t 8]⟩,
 ⟨some 6, none, .mv (.t 9)⟩,
 ⟨some 10, none, .ext (.t 6) 0⟩,
 ⟨some 11, none, .ext (.t 6) 1⟩,
 ⟨some 4, none, .mv (.t 10)⟩,
 ⟨some 5, none, .mv (.t 11)⟩]))
 (.seq (.cut [0, 4, 5] (.reg [⟨some 12, none, .mv (.t 4)⟩,
 ⟨some 13, none, .mv (.t 5)⟩,
 ⟨some 14, none, .mv (.t 13)⟩,
 ⟨some 15, some (14, true), .mv (.t 0)⟩,
 ⟨some 16, some (14, true), .call (.c (.fn (.func 51) [] [])) [.t 15, .c (.s [99])]⟩,
 ⟨some 17, none, .pick (.t 14) (.t 16) (.c (.b false))⟩,
 ⟨some 18, none, .mv (.t 17)⟩,
 ⟨some 19, some (18, true), .mv (.t 4)⟩,
 ⟨some 20, some (18, true), .bin .geq 3 (.t 19) (.c (.i .i64 0))⟩,
 ⟨some 21, none, .pick (.t 18) (.t 20) (.c (.b false))⟩,
 ⟨some 22, none, .mv (.t 21)⟩,
 ⟨some 23, some (22, true), .mv (.t 4)⟩,
 ⟨some 24, some (22, true), .bin .lss 3 (.t 23) (.c (.i .i64 16))⟩,
 ⟨some 25, none, .pick (.t 22) (.t 24) (.c (.b false))⟩,
 ⟨some 2, none, .mv (.t 12)⟩,
 ⟨some 3, none, .mv (.t 25)⟩]))
 .ret)))
def F67 : AF := ⟨26, [.t 2, .t 3], c67⟩
/-- fallow/asm.jumps -/
def c68 : AC := (.seq (.reg [⟨some 2, none, .mv (.c (.b false))⟩])
 (.seq (.seq (.reg [⟨some 3, none, .mv (.t 0)⟩])
 (.blk 0
 (.seq (.seq (.reg [⟨some 5, none, .bin .eql 3 (.t 3) (.c (.i .i64 25))⟩,
 ⟨some 4, none, .mv (.t 5)⟩])
 (.cond (.t 4)
 .skip
 (.seq (.reg [⟨some 6, none, .bin .eql 3 (.t 3) (.c (.i .i64 26))⟩,
 ⟨some 4, none, .mv (.t 6)⟩])
 (.cond (.t 4)
 .skip
 (.seq (.reg [⟨some 7, none, .bin .eql 3 (.t 3) (.c (.i .i64 27))⟩,
 ⟨some 4, none, .mv (.t 7)⟩])
 (.cond (.t 4)
 .skip
 (.seq (.reg [⟨some 8, none, .bin .eql 3 (.t 3) (.c (.i .i64 28))⟩,
 ⟨some 4, none, .mv (.t 8)⟩])
 (.cond (.t 4)
 .skip
 (.reg [⟨some 9, none, .bin .eql 3 (.t 3) (.c (.i .i64 29))⟩,
 ⟨some 4, none, .mv (.t 9)⟩])))))))))
 (.cut [1000000, 4] (.cond (.t 4)
 (.seq (.reg [⟨some 2, none, .mv (.c (.b true))⟩])
 .ret)
 .skip)))))
 (.seq (.reg [⟨some 2, none, .mv (.c (.b false))⟩])
 .ret)))
def F68 : AF := ⟨10, [.t 2], c68⟩
/-- fallow/fallowref08.value -/
def c69L0 : AC := (.seq (.seq (.cut [0, 1, 6, 7] (.reg [⟨some 25, none, .mv (.t 7)⟩,
 ⟨some 26, none, .mv (.t 0)⟩,
 ⟨some 27, none, .len 9 (.t 26)⟩,
 ⟨some 28, none, .bin .lss 3 (.t 25) (.t 27)⟩]))
 (.cond (.t 28)
 .skip
 (.exit 0)))
 (.seq (.blk 1
 (.seq (.seq (.cut [0, 1, 6, 7] (.reg [⟨some 31, none, .mv (.t 0)⟩,
 ⟨some 32, none, .mv (.t 7)⟩,
 ⟨some 33, none, .idx 9 (.t 31) (.t 32)⟩,
 ⟨some 34, none, .bin .lss 5 (.t 33) (.c (.i .u8 48))⟩,
 ⟨some 35, none, .mv (.t 34)⟩,
 ⟨some 36, some (35, false), .mv (.t 0)⟩,
 ⟨some 37, some (35, false), .mv (.t 7)⟩,
 ⟨some 38, some (35, false), .idx 9 (.t 36) (.t 37)⟩,
 ⟨some 39, some (35, false), .bin .gtr 5 (.t 38) (.c (.i .u8 57))⟩,
 ⟨some 40, none, .pick (.t 35) (.c (.b true)) (.t 39)⟩]))
 (.cond (.t 40)
 (.seq (.reg [⟨some 4, none, .mv (.c (.i .u64 0))⟩,
 ⟨some 5, none, .mv (.c (.b false))⟩])
 .ret)
 .skip))
 (.cut [0, 1, 6, 7] (.reg [⟨some 41, none, .mv (.t 6)⟩,
 ⟨some 42, none, .bin .mul 67 (.c (.i .u64 10)) (.t 41)⟩,
 ⟨some 43, none, .mv (.t 0)⟩,
 ⟨some 44, none, .mv (.t 7)⟩,
 ⟨some 45, none, .idx 9 (.t 43) (.t 44)⟩,
 ⟨some 46, none, .bin .sub 5 (.t 45) (.c (.i .u8 48))⟩,
 ⟨some 47, none, .conv 5 67 (.t 46)⟩,
 ⟨some 48, none, .bin .add 67 (.t 42) (.t 47)⟩,
 ⟨some 6, none, .mv (.t 48)⟩]))))
 (.cut [0, 1, 6, 7] (.reg [⟨some 29, none, .mv (.t 7)⟩,
 ⟨some 30, none, .bin .add 3 (.t 29) (.c (.i .i64 1))⟩,
 ⟨some 7, none, .mv (.t 30)⟩]))))
def c69 : AC := (.seq (.reg [⟨some 4, none, .mv (.c (.i .u64 0))⟩,
 ⟨some 5, none, .mv (.c (.b false))⟩])
 (.seq (.seq (.cut [0, 1] (.reg [⟨some 8, none, .mv (.t 0)⟩,
 ⟨some 9, none, .bin .eql 9 (.t 8) (.c (.s []))⟩,
 ⟨some 10, none, .mv (.t 9)⟩,
 ⟨some 11, some (10, false), .mv (.t 0)⟩,
 ⟨some 12, some (10, false), .len 9 (.t 11)⟩,
 ⟨some 13, some (10, false), .bin .gtr 3 (.t 12) (.c (.i .i64 10))⟩,
 ⟨some 14, none, .pick (.t 10) (.c (.b true)) (.t 13)⟩,
 ⟨some 15, none, .mv (.t 14)⟩,
 ⟨some 16, some (15, false), .mv (.t 0)⟩,
 ⟨some 17, some (15, false), .len 9 (.t 16)⟩,
 ⟨some 18, some (15, false), .bin .gtr 3 (.t 17) (.c (.i .i64 1))⟩,
 ⟨some 19, some (15, false), .mv (.t 18)⟩,
 ⟨some 20, some (19, true), .mv (.t 0)⟩,
 ⟨some 21, some (19, true), .idx 9 (.t 20) (.c (.i .i64 0))⟩,
 ⟨some 22, some (19, true), .bin .eql 5 (.t 21) (.c (.i .u8 48))⟩,
 ⟨some 23, some (15, false), .pick (.t 19) (.t 22) (.c (.b false))⟩,
 ⟨some 24, none, .pick (.t 15) (.c (.b true)) (.t 23)⟩]))
 (.cond (.t 24)
 (.seq (.reg [⟨some 4, none, .mv (.c (.i .u64 0))⟩,
 ⟨some 5, none, .mv (.c (.b false))⟩])
 .ret)
 .skip))
 (.seq (.reg [⟨some 6, none, .mv (.c (.i .u64 0))⟩])
 (.seq (.seq (.reg [⟨some 7, none, .mv (.c (.i .i64 0))⟩])
 (.blk 0
 (.loop [0, 1, 6, 7] c69L0)))
 (.seq (.cut [1, 6] (.reg [⟨some 49, none, .mv (.t 6)⟩,
 ⟨some 50, none, .mv (.t 6)⟩,
 ⟨some 51, none, .mv (.t 1)⟩,
 ⟨some 52, none, .bin .lss 67 (.t 50) (.t 51)⟩,
 ⟨some 4, none, .mv (.t 49)⟩,
 ⟨some 5, none, .mv (.t 52)⟩]))
 .ret)))))
def F69 : AF := ⟨53, [.t 4, .t 5], c69⟩
/-- fallow/fallowref07.Op -/
def c70L0 : AC := (.seq (.seq (.reg [⟨some 4, none, .mv (.t 3)⟩,
 ⟨some 5, none, .bin .leq 3 (.t 4) (.c (.i .i64 53))⟩])
 (.cond (.t 5)
 .skip
 (.exit 0)))
 (.seq (.blk 1
 (.seq (.cut [0, 3] (.reg [⟨some 8, none, .mv (.t 3)⟩,
 ⟨some 9, none, .call (.c (.fn (.func 37) [] [])) [.t 8]⟩,
 ⟨some 10, none, .mv (.t 0)⟩,
 ⟨some 11, none, .bin .eql 9 (.t 9) (.t 10)⟩]))
 (.cond (.t 11)
 (.seq (.reg [⟨some 12, none, .mv (.t 3)⟩,
 ⟨some 2, none, .mv (.t 12)⟩])
 .ret)
 .skip)))
 (.cut [0, 3] (.reg [⟨some 6, none, .mv (.t 3)⟩,
 ⟨some 7, none, .bin .add 3 (.t 6) (.c (.i .i64 1))⟩,
 ⟨some 3, none, .mv (.t 7)⟩]))))
def c70 : AC := (.seq (.reg [⟨some 2, none, .mv (.c (.i .i64 0))⟩])
 (.seq (.seq (.reg [⟨some 3, none, .mv (.c (.i .i64 1))⟩])
 (.blk 0
 (.loop [0, 3] c70L0)))
 (.seq (.reg [⟨some 2, none, .mv (.c (.i .i64 0))⟩])
 .ret)))
def F70 : AF := ⟨13, [.t 2], c70⟩
/-- fallow/fallowref08.register -/
def c71 : AC := (.seq (.reg [⟨some 2, none, .mv (.c (.i .i64 0))⟩,
 ⟨some 3, none, .mv (.c (.b false))⟩])
 (.seq (.seq (.cut [0] (.reg [⟨some 6, none, .mv (.t 0)⟩,
 ⟨some 7, none, .len 9 (.t 6)⟩,
 ⟨some 8, none, .bin .lss 3 (.t 7) (.c (.i .i64 2))⟩,
 ⟨some 9, none, .mv (.t 8)⟩,
 ⟨some 10, some (9, false), .mv (.t 0)⟩,
 ⟨some 11, some (9, false), .idx 9 (.t 10) (.c (.i .i64 0))⟩,
 ⟨some 12, some (9, false), .bin .neq 5 (.t 11) (.c (.i .u8 99))⟩,
 ⟨some 13, none, .pick (.t 9) (.c (.b true)) (.t 12)⟩]))
 (.cond (.t 13)
 (.seq (.reg [⟨some 2, none, .mv (.c (.i .i64 0))⟩,
 ⟨some 3, none, .mv (.c (.b false))⟩])
 .ret)
 .skip))
 (.seq (.cut [0] (.reg [⟨some 15, none, .mv (.t 0)⟩,
 ⟨some 16, none, .slc 9 (.t 15) (some (.c (.i .i64 1))) none⟩,
 ⟨some 17, none, .call (.c (.fn (.func 69) [] [])) [.t 16, .c (.i .u64 16)]⟩,
 ⟨some 14, none, .mv (.t 17)⟩,
 ⟨some 18, none, .ext (.t 14) 0⟩,
 ⟨some 19, none, .ext (.t 14) 1⟩,
 ⟨some 4, none, .mv (.t 18)⟩,
 ⟨some 5, none, .mv (.t 19)⟩]))
 (.seq (.cut [4, 5] (.reg [⟨some 20, none, .mv (.t 4)⟩,
 ⟨some 21, none, .conv 67 3 (.t 20)⟩,
 ⟨some 22, none, .mv (.t 5)⟩,
 ⟨some 2, none, .mv (.t 21)⟩,
 ⟨some 3, none, .mv (.t 22)⟩]))
 .ret))))
def F71 : AF := ⟨23, [.t 2, .t 3], c71⟩
/-- fallow/fallowref08.number -/
def c72 : AC := (.seq (.reg [⟨some 2, none, .mv (.c (.i .i64 0))⟩,
 ⟨some 3, none, .mv (.c (.b false))⟩])
 (.seq (.seq (.cut [0] (.reg [⟨some 8, none, .mv (.t 0)⟩,
 ⟨some 9, none, .len 9 (.t 8)⟩,
 ⟨some 10, none, .bin .gtr 3 (.t 9) (.c (.i .i64 1))⟩,
 ⟨some 11, none, .mv (.t 10)⟩,
 ⟨some 12, some (11, true), .mv (.t 0)⟩,
 ⟨some 13, some (11, true), .idx 9 (.t 12) (.c (.i .i64 0))⟩,
 ⟨some 14, some (11, true), .bin .eql 5 (.t 13) (.c (.i .u8 45))⟩,
 ⟨some 15, none, .pick (.t 11) (.t 14) (.c (.b false))⟩]))
 (.cond (.t 15)
 (.seq (.cut [0] (.reg [⟨some 17, none, .mv (.t 0)⟩,
 ⟨some 18, none, .slc 9 (.t 17) (some (.c (.i .i64 1))) none⟩,
 ⟨some 19, none, .call (.c (.fn (.func 69) [] [])) [.t 18, .c (.i .u64 4294967296)]⟩,
 ⟨some 16, none, .mv (.t 19)⟩,
 ⟨some 20, none, .ext (.t 16) 0⟩,
 ⟨some 21, none, .ext (.t 16) 1⟩,
 ⟨some 4, none, .mv (.t 20)⟩,
 ⟨some 5, none, .mv (.t 21)⟩]))
 (.seq (.cut [4, 5] (.reg [⟨some 22, none, .mv (.t 4)⟩,
 ⟨some 23, none, .conv 67 3 (.t 22)⟩,
 ⟨some 24, none, .un .neg (.t 23)⟩,
 ⟨some 25, none, .mv (.t 5)⟩,
 ⟨some 26, none, .mv (.t 25)⟩,
 ⟨some 27, some (26, true), .mv (.t 4)⟩,
 ⟨some 28, some (26, true), .bin .gtr 67 (.t 27) (.c (.i .u64 0))⟩,
 ⟨some 29, none, .pick (.t 26) (.t 28) (.c (.b false))⟩,
 ⟨some 2, none, .mv (.t 24)⟩,
 ⟨some 3, none, .mv (.t 29)⟩]))
 .ret))
 .skip))
 (.cut [1000000, 0] (.seq (.cut [0] (.reg [⟨some 31, none, .mv (.t 0)⟩,
 ⟨some 32, none, .call (.c (.fn (.func 69) [] [])) [.t 31, .c (.i .u64 4294967296)]⟩,
 ⟨some 30, none, .mv (.t 32)⟩,
 ⟨some 33, none, .ext (.t 30) 0⟩,
 ⟨some 34, none, .ext (.t 30) 1⟩,
 ⟨some 6, none, .mv (.t 33)⟩,
 ⟨some 7, none, .mv (.t 34)⟩]))
 (.seq (.cut [6, 7] (.reg [⟨some 35, none, .mv (.t 6)⟩,
 ⟨some 36, none, .conv 67 3 (.t 35)⟩,
 ⟨some 37, none, .mv (.t 7)⟩,
 ⟨some 2, none, .mv (.t 36)⟩,
 ⟨some 3, none, .mv (.t 37)⟩]))
 .ret)))))
def F72 : AF := ⟨38, [.t 2, .t 3], c72⟩
/-- fallow/fallowref08.jumps -/
def c73 : AC := (.seq (.reg [⟨some 2, none, .mv (.c (.b false))⟩])
 (.seq (.cut [0] (.reg [⟨some 3, none, .mv (.t 0)⟩,
 ⟨some 4, none, .bin .eql 3 (.t 3) (.c (.i .i64 25))⟩,
 ⟨some 5, none, .mv (.t 4)⟩,
 ⟨some 6, some (5, false), .mv (.t 0)⟩,
 ⟨some 7, some (5, false), .bin .eql 3 (.t 6) (.c (.i .i64 26))⟩,
 ⟨some 8, none, .pick (.t 5) (.c (.b true)) (.t 7)⟩,
 ⟨some 9, none, .mv (.t 8)⟩,
 ⟨some 10, some (9, false), .mv (.t 0)⟩,
 ⟨some 11, some (9, false), .bin .eql 3 (.t 10) (.c (.i .i64 27))⟩,
 ⟨some 12, none, .pick (.t 9) (.c (.b true)) (.t 11)⟩,
 ⟨some 13, none, .mv (.t 12)⟩,
 ⟨some 14, some (13, false), .mv (.t 0)⟩,
 ⟨some 15, some (13, false), .bin .eql 3 (.t 14) (.c (.i .i64 28))⟩,
 ⟨some 16, none, .pick (.t 13) (.c (.b true)) (.t 15)⟩,
 ⟨some 17, none, .mv (.t 16)⟩,
 ⟨some 18, some (17, false), .mv (.t 0)⟩,
 ⟨some 19, some (17, false), .bin .eql 3 (.t 18) (.c (.i .i64 29))⟩,
 ⟨some 20, none, .pick (.t 17) (.c (.b true)) (.t 19)⟩,
 ⟨some 2, none, .mv (.t 20)⟩]))
 .ret))
def F73 : AF := ⟨21, [.t 2], c73⟩
/-- fallow/isa.Encode$1 -/
def c74 : AC := (.seq (.cut [0, 1, 2, 3, 4, 5] (.drw [(⟨some 12, none, .mv (.t 2)⟩, []),
 (⟨some 13, none, .bin .shl 3 (.c (.i .i64 1)) (.t 12)⟩, []),
 (⟨some 10, none, .mv (.c (.i .i64 0))⟩, []),
 (⟨some 11, none, .mv (.t 13)⟩, [])]))
 (.seq (.seq (.reg [⟨some 14, none, .mv (.t 3)⟩])
 (.cond (.t 14)
 (.cut [0, 1, 2, 4, 5] (.drw [(⟨some 15, none, .mv (.t 2)⟩, []),
 (⟨some 16, none, .bin .sub 3 (.t 15) (.c (.i .i64 1))⟩, []),
 (⟨some 17, none, .bin .shl 3 (.c (.i .i64 (-1))) (.t 16)⟩, []),
 (⟨some 18, none, .mv (.t 2)⟩, []),
 (⟨some 19, none, .bin .sub 3 (.t 18) (.c (.i .i64 1))⟩, []),
 (⟨some 20, none, .bin .shl 3 (.c (.i .i64 1)) (.t 19)⟩, []),
 (⟨some 10, none, .mv (.t 17)⟩, []),
 (⟨some 11, none, .mv (.t 20)⟩, [])]))
 .skip))
 (.cut [1000000, 0, 1, 2, 4, 5, 10, 11] (.seq (.cut [0, 1, 2, 4, 5, 10, 11] (.reg [⟨some 21, none, .load 4 (.t 4)⟩,
 ⟨some 22, none, .mv (.t 21)⟩,
 ⟨some 23, some (22, false), .mv (.t 0)⟩,
 ⟨some 24, some (22, false), .nilck (.t 23)⟩,
 ⟨some 25, some (22, false), .load 3 (.t 24)⟩,
 ⟨some 26, some (22, false), .mv (.t 10)⟩,
 ⟨some 27, some (22, false), .bin .lss 3 (.t 25) (.t 26)⟩,
 ⟨some 28, none, .pick (.t 22) (.c (.b true)) (.t 27)⟩,
 ⟨some 29, none, .mv (.t 28)⟩,
 ⟨some 30, some (29, false), .mv (.t 0)⟩,
 ⟨some 31, some (29, false), .nilck (.t 30)⟩,
 ⟨some 32, some (29, false), .load 3 (.t 31)⟩,
 ⟨some 33, some (29, false), .mv (.t 11)⟩,
 ⟨some 34, some (29, false), .bin .geq 3 (.t 32) (.t 33)⟩,
 ⟨some 35, none, .pick (.t 29) (.c (.b true)) (.t 34)⟩,
 ⟨none, none, .store 4 (.t 4) (.t 35)⟩]))
 (.seq (.cut [0, 1, 2, 5] (.drw [(⟨some 36, none, .load 22 (.t 5)⟩, []),
 (⟨some 37, none, .mv (.t 0)⟩, []),
 (⟨some 38, none, .nilck (.t 37)⟩, []),
 (⟨some 39, none, .load 3 (.t 38)⟩, []),
 (⟨some 41, none, .mv (.t 2)⟩, []),
 (⟨some 42, none, .bin .shl 22 (.c (.i .u32 1)) (.t 41)⟩, []),
 (⟨some 43, none, .bin .sub 22 (.t 42) (.c (.i .u32 1))⟩, []),
 (⟨some 45, none, .mv (.t 1)⟩, []),
 (⟨some 40, none, .conv 3 22 (.t 39)⟩, [⟨some 36, none, .load 22 (.t 5)⟩]),
 (⟨some 44, none, .bin .and 22 (.t 40) (.t 43)⟩, []),
 (⟨some 46, none, .bin .shl 22 (.t 44) (.t 45)⟩, []),
 (⟨some 47, none, .bin .or 22 (.t 36) (.t 46)⟩, []),
 (⟨none, none, .store 22 (.t 5) (.t 47)⟩, [])]))
 (.cut [0] (.reg [⟨some 48, none, .mv (.t 0)⟩,
 ⟨some 49, none, .nilck (.t 48)⟩,
 ⟨none, none, .store 3 (.t 49) (.c (.i .i64 0))⟩])))))))
def F74 : AF := ⟨50, [], c74⟩
/-- fallow/isa.of -/
def c77 : AC := (.seq (.reg [⟨some 2, none, .alloc 113⟩])
 (.seq (.seq (.cut [0, 2] (.reg [⟨some 3, none, .mv (.t 0)⟩,
 ⟨some 4, none, .bin .lss 3 (.t 3) (.c (.i .i64 0))⟩,
 ⟨some 5, none, .mv (.t 4)⟩,
 ⟨some 6, some (5, false), .mv (.t 0)⟩,
 ⟨some 7, some (5, false), .bin .gtr 3 (.t 6) (.c (.i .i64 53))⟩,
 ⟨some 8, none, .pick (.t 5) (.c (.b true)) (.t 7)⟩]))
 (.cond (.t 8)
 (.seq (.reg [⟨some 9, none, .build 113 []⟩,
 ⟨none, none, .store 113 (.t 2) (.t 9)⟩])
 .ret)
 .skip))
 (.seq (.cut [0, 2] (.reg [⟨some 10, none, .mv (.t 0)⟩,
 ⟨some 11, none, .iad 146 (.c (.p 1 0 0)) (.t 10)⟩,
 ⟨some 12, none, .load 113 (.t 11)⟩,
 ⟨none, none, .store 113 (.t 2) (.t 12)⟩]))
 .ret)))
def F77 : AF := ⟨13, [.cell 2 113], c77⟩
/-- fallow/fallowref07.has -/
def c79L0 : AC := (.seq (.seq (.cut [0, 1, 5] (.reg [⟨some 6, none, .mv (.t 5)⟩,
 ⟨some 7, none, .mv (.t 0)⟩,
 ⟨some 8, none, .len 9 (.t 7)⟩,
 ⟨some 9, none, .bin .lss 3 (.t 6) (.t 8)⟩]))
 (.cond (.t 9)
 .skip
 (.exit 0)))
 (.seq (.blk 1
 (.seq (.cut [0, 1, 5] (.reg [⟨some 12, none, .mv (.t 0)⟩,
 ⟨some 13, none, .mv (.t 5)⟩,
 ⟨some 14, none, .idx 9 (.t 12) (.t 13)⟩,
 ⟨some 15, none, .mv (.t 1)⟩,
 ⟨some 16, none, .bin .eql 5 (.t 14) (.t 15)⟩]))
 (.cond (.t 16)
 (.seq (.reg [⟨some 4, none, .mv (.c (.b true))⟩])
 .ret)
 .skip)))
 (.cut [0, 1, 5] (.reg [⟨some 10, none, .mv (.t 5)⟩,
 ⟨some 11, none, .bin .add 3 (.t 10) (.c (.i .i64 1))⟩,
 ⟨some 5, none, .mv (.t 11)⟩]))))
def c79 : AC := (.seq (.reg [⟨some 4, none, .mv (.c (.b false))⟩])
 (.seq (.seq (.reg [⟨some 5, none, .mv (.c (.i .i64 0))⟩])
 (.blk 0
 (.loop [0, 1, 5] c79L0)))
 (.seq (.reg [⟨some 4, none, .mv (.c (.b false))⟩])
 .ret)))
def F79 : AF := ⟨17, [.t 4], c79⟩
/-- fallow/fallowref07.May -/
def c92 : AC := (.seq (.reg [⟨some 1, none, .box 45 (.t 0)⟩,
 ⟨some 2, none, .mv (.c (.b false))⟩])
 (.seq (.seq (.cut [1] (.reg [⟨some 4, none, .fad 45 (.t 1) 0⟩,
 ⟨some 5, none, .load 3 (.t 4)⟩,
 ⟨some 6, none, .bin .lss 3 (.t 5) (.c (.i .i64 1))⟩,
 ⟨some 7, none, .mv (.t 6)⟩,
 ⟨some 8, some (7, false), .fad 45 (.t 1) 0⟩,
 ⟨some 9, some (7, false), .load 3 (.t 8)⟩,
 ⟨some 10, some (7, false), .bin .gtr 3 (.t 9) (.c (.i .i64 53))⟩,
 ⟨some 11, none, .pick (.t 7) (.c (.b true)) (.t 10)⟩]))
 (.cond (.t 11)
 (.seq (.reg [⟨some 2, none, .mv (.c (.b false))⟩])
 .ret)
 .skip))
 (.seq (.cut [1] (.reg [⟨some 12, none, .fad 45 (.t 1) 0⟩,
 ⟨some 13, none, .load 3 (.t 12)⟩,
 ⟨some 14, none, .call (.c (.fn (.func 38) [] [])) [.t 13]⟩,
 ⟨some 3, none, .mv (.t 14)⟩]))
 (.seq (.seq (.cut [1, 3] (.reg [⟨some 15, none, .mv (.t 3)⟩,
 ⟨some 16, none, .fad 45 (.t 1) 1⟩,
 ⟨some 17, none, .load 3 (.t 16)⟩,
 ⟨some 18, none, .call (.c (.fn (.func 125) [] [])) [.t 15, .c (.i .u8 97), .t 17]⟩,
 ⟨some 19, none, .un .not (.t 18)⟩,
 ⟨some 20, none, .mv (.t 19)⟩,
 ⟨some 21, some (20, false), .mv (.t 3)⟩,
 ⟨some 22, some (20, false), .fad 45 (.t 1) 2⟩,
 ⟨some 23, some (20, false), .load 3 (.t 22)⟩,
 ⟨some 24, some (20, false), .call (.c (.fn (.func 125) [] [])) [.t 21, .c (.i .u8 98), .t 23]⟩,
 ⟨some 25, some (20, false), .un .not (.t 24)⟩,
 ⟨some 26, none, .pick (.t 20) (.c (.b true)) (.t 25)⟩,
 ⟨some 27, none, .mv (.t 26)⟩,
 ⟨some 28, some (27, false), .mv (.t 3)⟩,
 ⟨some 29, some (27, false), .fad 45 (.t 1) 3⟩,
 ⟨some 30, some (27, false), .load 3 (.t 29)⟩,
 ⟨some 31, some (27, false), .call (.c (.fn (.func 125) [] [])) [.t 28, .c (.i .u8 99), .t 30]⟩,
 ⟨some 32, some (27, false), .un .not (.t 31)⟩,
 ⟨some 33, none, .pick (.t 27) (.c (.b true)) (.t 32)⟩]))
 (.cond (.t 33)
 (.seq (.reg [⟨some 2, none, .mv (.c (.b false))⟩])
 .ret)
 .skip))
 (.cut [1000000, 1, 3] (.seq (.seq (.reg [⟨some 34, none, .mv (.t 3)⟩,
 ⟨some 35, none, .call (.c (.fn (.func 79) [] [])) [.t 34, .c (.i .u8 106)]⟩])
 (.cond (.t 35)
 (.seq (.cut [1] (.reg [⟨some 36, none, .fad 45 (.t 1) 4⟩,
 ⟨some 37, none, .load 3 (.t 36)⟩,
 ⟨some 38, none, .bin .geq 3 (.t 37) (.c (.i .i64 (-524288)))⟩,
 ⟨some 39, none, .mv (.t 38)⟩,
 ⟨some 40, some (39, true), .fad 45 (.t 1) 4⟩,
 ⟨some 41, some (39, true), .load 3 (.t 40)⟩,
 ⟨some 42, some (39, true), .bin .leq 3 (.t 41) (.c (.i .i64 524287))⟩,
 ⟨some 43, none, .pick (.t 39) (.t 42) (.c (.b false))⟩,
 ⟨some 2, none, .mv (.t 43)⟩]))
 .ret)
 .skip))
 (.seq (.seq (.reg [⟨some 44, none, .mv (.t 3)⟩,
 ⟨some 45, none, .call (.c (.fn (.func 79) [] [])) [.t 44, .c (.i .u8 105)]⟩])
 (.cond (.t 45)
 (.seq (.cut [1] (.reg [⟨some 46, none, .fad 45 (.t 1) 4⟩,
 ⟨some 47, none, .load 3 (.t 46)⟩,
 ⟨some 48, none, .bin .geq 3 (.t 47) (.c (.i .i64 (-2048)))⟩,
 ⟨some 49, none, .mv (.t 48)⟩,
 ⟨some 50, some (49, true), .fad 45 (.t 1) 4⟩,
 ⟨some 51, some (49, true), .load 3 (.t 50)⟩,
 ⟨some 52, some (49, true), .bin .leq 3 (.t 51) (.c (.i .i64 2047))⟩,
 ⟨some 53, none, .pick (.t 49) (.t 52) (.c (.b false))⟩,
 ⟨some 2, none, .mv (.t 53)⟩]))
 .ret)
 .skip))
 (.seq (.cut [1] (.reg [⟨some 54, none, .fad 45 (.t 1) 4⟩,
 ⟨some 55, none, .load 3 (.t 54)⟩,
 ⟨some 56, none, .bin .eql 3 (.t 55) (.c (.i .i64 0))⟩,
 ⟨some 2, none, .mv (.t 56)⟩]))
 .ret))))))))
def F92 : AF := ⟨57, [.t 2], c92⟩
/-- errors.is -/
def c98L0 : AC := (.seq (.reg [⟨some 46, none, .bin .lss 3 (.t 45) (.t 44)⟩])
 (.seq (.cond (.t 46)
 .skip
 (.exit 3))
 (.seq (.blk 4
 (.seq (.cut [1, 2, 43, 44, 45] (.reg [⟨some 47, none, .iad 175 (.t 43) (.t 45)⟩,
 ⟨some 48, none, .load 33 (.t 47)⟩,
 ⟨some 12, none, .mv (.t 48)⟩]))
 (.seq (.cut [1, 2, 12, 43, 44, 45] (.reg [⟨some 49, none, .mv (.t 12)⟩,
 ⟨some 50, none, .mv (.t 1)⟩,
 ⟨some 51, none, .mv (.t 2)⟩,
 ⟨some 52, none, .call (.c (.fn (.func 98) [] [])) [.t 49, .t 50, .t 51]⟩]))
 (.cond (.t 52)
 (.seq (.reg [⟨some 6, none, .mv (.c (.b true))⟩])
 .ret)
 .skip))))
 (.reg [⟨some 53, none, .bin .add 3 (.t 45) (.c (.i .i64 1))⟩,
 ⟨some 45, none, .mv (.t 53)⟩]))))
def c98L1 : AC := (.blk 1
 (.seq (.seq (.cut [0, 1, 2] (.reg [⟨some 14, none, .mv (.t 2)⟩,
 ⟨some 15, none, .mv (.t 14)⟩,
 ⟨some 16, some (15, true), .mv (.t 0)⟩,
 ⟨some 17, some (15, true), .mv (.t 1)⟩,
 ⟨some 18, some (15, true), .bin .eql 33 (.t 16) (.t 17)⟩,
 ⟨some 19, none, .pick (.t 15) (.t 18) (.c (.b false))⟩]))
 (.cond (.t 19)
 (.seq (.reg [⟨some 6, none, .mv (.c (.b true))⟩])
 .ret)
 .skip))
 (.seq (.seq (.cut [0, 1, 2] (.reg [⟨some 21, none, .mv (.t 0)⟩,
 ⟨some 22, none, .tas (.t 21) 33 177 true⟩,
 ⟨some 20, none, .mv (.t 22)⟩,
 ⟨some 23, none, .ext (.t 20) 0⟩,
 ⟨some 24, none, .ext (.t 20) 1⟩,
 ⟨some 7, none, .mv (.t 23)⟩,
 ⟨some 8, none, .mv (.t 24)⟩]))
 (.seq (.cut [0, 1, 2, 7, 8] (.reg [⟨some 25, none, .mv (.t 8)⟩,
 ⟨some 26, none, .mv (.t 25)⟩,
 ⟨some 27, some (26, true), .mv (.t 7)⟩,
 ⟨some 28, some (26, true), .mv (.t 1)⟩,
 ⟨some 29, some (26, true), .inv (.t 27) "Is" [.t 28]⟩,
 ⟨some 30, none, .pick (.t 26) (.t 29) (.c (.b false))⟩]))
 (.cond (.t 30)
 (.seq (.reg [⟨some 6, none, .mv (.c (.b true))⟩])
 .ret)
 .skip)))
 (.seq (.reg [⟨some 31, none, .mv (.t 0)⟩])
 (.blk 2
 (.seq (.cut [1, 2, 31] (.reg [⟨some 32, none, .tas (.t 31) 33 172 true⟩,
 ⟨some 33, none, .ext (.t 32) 1⟩,
 ⟨some 34, none, .ext (.t 32) 0⟩]))
 (.cut [1000000, 1, 2, 31, 33, 34] (.cond (.t 33)
 (.seq (.reg [⟨some 9, none, .mv (.t 34)⟩])
 (.seq (.cut [1, 2, 9] (.reg [⟨some 35, none, .mv (.t 9)⟩,
 ⟨some 36, none, .inv (.t 35) "Unwrap" []⟩,
 ⟨some 0, none, .mv (.t 36)⟩]))
 (.seq (.reg [⟨some 37, none, .mv (.t 0)⟩,
 ⟨some 38, none, .bin .eql 33 (.t 37) (.c (.ic0))⟩])
 (.cond (.t 38)
 (.seq (.reg [⟨some 6, none, .mv (.c (.b false))⟩])
 .ret)
 .skip))))
 (.seq (.cut [1, 2, 31] (.reg [⟨some 39, none, .tas (.t 31) 33 174 true⟩,
 ⟨some 40, none, .ext (.t 39) 1⟩,
 ⟨some 41, none, .ext (.t 39) 0⟩]))
 (.cond (.t 40)
 (.seq (.reg [⟨some 10, none, .mv (.t 41)⟩])
 (.seq (.seq (.cut [1, 2, 10] (.reg [⟨some 42, none, .mv (.t 10)⟩,
 ⟨some 43, none, .inv (.t 42) "Unwrap" []⟩,
 ⟨some 44, none, .len 175 (.t 43)⟩,
 ⟨some 45, none, .mv (.c (.i .i64 0))⟩]))
 (.blk 3
 (.loop [1, 2, 43, 44, 45] c98L0)))
 (.seq (.reg [⟨some 6, none, .mv (.c (.b false))⟩])
 .ret)))
 (.seq (.reg [⟨some 13, none, .mv (.t 31)⟩])
 (.seq (.reg [⟨some 6, none, .mv (.c (.b false))⟩])
 .ret))))))))))))
def c98 : AC := (.seq (.reg [⟨some 6, none, .mv (.c (.b false))⟩])
 (.blk 0
 (.loop [0, 1, 2] c98L1)))
def F98 : AF := ⟨54, [.t 6], c98⟩
/-- fallow/fallowref07.field -/
def c125 : AC := (.seq (.reg [⟨some 6, none, .mv (.c (.b false))⟩])
 (.seq (.seq (.cut [0, 1, 2] (.reg [⟨some 7, none, .mv (.t 0)⟩,
 ⟨some 8, none, .mv (.t 1)⟩,
 ⟨some 9, none, .call (.c (.fn (.func 79) [] [])) [.t 7, .t 8]⟩,
 ⟨some 10, none, .un .not (.t 9)⟩]))
 (.cond (.t 10)
 (.seq (.cut [2] (.reg [⟨some 11, none, .mv (.t 2)⟩,
 ⟨some 12, none, .bin .eql 3 (.t 11) (.c (.i .i64 0))⟩,
 ⟨some 6, none, .mv (.t 12)⟩]))
 .ret)
 .skip))
 (.seq (.cut [2] (.reg [⟨some 13, none, .mv (.t 2)⟩,
 ⟨some 14, none, .bin .geq 3 (.t 13) (.c (.i .i64 0))⟩,
 ⟨some 15, none, .mv (.t 14)⟩,
 ⟨some 16, some (15, true), .mv (.t 2)⟩,
 ⟨some 17, some (15, true), .bin .leq 3 (.t 16) (.c (.i .i64 15))⟩,
 ⟨some 18, none, .pick (.t 15) (.t 17) (.c (.b false))⟩,
 ⟨some 6, none, .mv (.t 18)⟩]))
 .ret)))
def F125 : AF := ⟨19, [.t 6], c125⟩
/-- (*fallow/api.Fault).Unwrap -/
def c175 : AC := (.seq (.reg [⟨some 2, none, .mv (.c (.ic0))⟩])
 (.seq (.seq (.reg [⟨some 3, none, .mv (.t 0)⟩,
 ⟨some 4, none, .bin .eql 48 (.t 3) (.c (.p0))⟩])
 (.cond (.t 4)
 (.seq (.reg [⟨some 2, none, .mv (.c (.ic0))⟩])
 .ret)
 .skip))
 (.seq (.cut [0] (.reg [⟨some 5, none, .mv (.t 0)⟩,
 ⟨some 6, none, .nilck (.t 5)⟩,
 ⟨some 7, none, .fad 54 (.t 6) 0⟩,
 ⟨some 8, none, .load 23 (.t 7)⟩,
 ⟨some 9, none, .mki 23 (.t 8)⟩,
 ⟨some 2, none, .mv (.t 9)⟩]))
 .ret)))
def F175 : AF := ⟨10, [.t 2], c175⟩
def fns : Nat → Option AF
  | 2 => some F2
  | 3 => some F3
  | 4 => some F4
  | 5 => some F5
  | 6 => some F6
  | 8 => some F8
  | 9 => some F9
  | 10 => some F10
  | 11 => some F11
  | 12 => some F12
  | 13 => some F13
  | 14 => some F14
  | 15 => some F15
  | 16 => some F16
  | 17 => some F17
  | 18 => some F18
  | 22 => some F22
  | 23 => some F23
  | 24 => some F24
  | 25 => some F25
  | 26 => some F26
  | 27 => some F27
  | 28 => some F28
  | 29 => some F29
  | 30 => some F30
  | 31 => some F31
  | 32 => some F32
  | 33 => some F33
  | 35 => some F35
  | 37 => some F37
  | 38 => some F38
  | 39 => some F39
  | 40 => some F40
  | 42 => some F42
  | 43 => some F43
  | 45 => some F45
  | 54 => some F54
  | 55 => some F55
  | 56 => some F56
  | 57 => some F57
  | 58 => some F58
  | 59 => some F59
  | 60 => some F60
  | 62 => some F62
  | 65 => some F65
  | 66 => some F66
  | 67 => some F67
  | 68 => some F68
  | 69 => some F69
  | 70 => some F70
  | 71 => some F71
  | 72 => some F72
  | 73 => some F73
  | 74 => some F74
  | 77 => some F77
  | 79 => some F79
  | 92 => some F92
  | 98 => some F98
  | 125 => some F125
  | 175 => some F175
  | _ => none
end Go.Abs.YtkfcbgmamfnajaaGreatDoor
/- The functions as code of the layer Abs, each held against the model's own form of it: closed facts. -/
namespace Go.Abs.YtkfcbgmamfnajaaGreatDoor
theorem ok2 : okFn Go.Proofs.Tryz.prog 11 2 F2 = true := by kernel_rfl
theorem ok3 : okFn Go.Proofs.Tryz.prog 11 3 F3 = true := by kernel_rfl
theorem ok4 : okFn Go.Proofs.Tryz.prog 11 4 F4 = true := by kernel_rfl
theorem ok5 : okFn Go.Proofs.Tryz.prog 11 5 F5 = true := by kernel_rfl
theorem ok6 : okFn Go.Proofs.Tryz.prog 11 6 F6 = true := by kernel_rfl
theorem ok8 : okFn Go.Proofs.Tryz.prog 11 8 F8 = true := by kernel_rfl
theorem ok9 : okFn Go.Proofs.Tryz.prog 11 9 F9 = true := by kernel_rfl
theorem ok10 : okFn Go.Proofs.Tryz.prog 11 10 F10 = true := by kernel_rfl
theorem ok11 : okFn Go.Proofs.Tryz.prog 11 11 F11 = true := by kernel_rfl
theorem ok12 : okFn Go.Proofs.Tryz.prog 11 12 F12 = true := by kernel_rfl
theorem ok13 : okFn Go.Proofs.Tryz.prog 11 13 F13 = true := by kernel_rfl
theorem ok14 : okFn Go.Proofs.Tryz.prog 11 14 F14 = true := by kernel_rfl
theorem ok15 : okFn Go.Proofs.Tryz.prog 11 15 F15 = true := by kernel_rfl
theorem ok16 : okFn Go.Proofs.Tryz.prog 11 16 F16 = true := by kernel_rfl
theorem ok17 : okFn Go.Proofs.Tryz.prog 11 17 F17 = true := by kernel_rfl
theorem ok18 : okFn Go.Proofs.Tryz.prog 11 18 F18 = true := by kernel_rfl
theorem ok22 : okFn Go.Proofs.Tryz.prog 11 22 F22 = true := by kernel_rfl
theorem ok23 : okFn Go.Proofs.Tryz.prog 11 23 F23 = true := by kernel_rfl
theorem ok24 : okFn Go.Proofs.Tryz.prog 11 24 F24 = true := by kernel_rfl
theorem ok25 : okFn Go.Proofs.Tryz.prog 11 25 F25 = true := by kernel_rfl
theorem ok26 : okFn Go.Proofs.Tryz.prog 11 26 F26 = true := by kernel_rfl
theorem ok27 : okFn Go.Proofs.Tryz.prog 11 27 F27 = true := by kernel_rfl
theorem ok28 : okFn Go.Proofs.Tryz.prog 11 28 F28 = true := by kernel_rfl
theorem ok29 : okFn Go.Proofs.Tryz.prog 11 29 F29 = true := by kernel_rfl
theorem ok30 : okFn Go.Proofs.Tryz.prog 11 30 F30 = true := by kernel_rfl
theorem ok31 : okFn Go.Proofs.Tryz.prog 11 31 F31 = true := by kernel_rfl
theorem ok32 : okFn Go.Proofs.Tryz.prog 11 32 F32 = true := by kernel_rfl
theorem ok33 : okFn Go.Proofs.Tryz.prog 11 33 F33 = true := by kernel_rfl
theorem ok35 : okFn Go.Proofs.Tryz.prog 11 35 F35 = true := by kernel_rfl
theorem ok37 : okFn Go.Proofs.Tryz.prog 11 37 F37 = true := by kernel_rfl
theorem ok38 : okFn Go.Proofs.Tryz.prog 11 38 F38 = true := by kernel_rfl
theorem ok39 : okFn Go.Proofs.Tryz.prog 11 39 F39 = true := by kernel_rfl
theorem ok40 : okFn Go.Proofs.Tryz.prog 11 40 F40 = true := by kernel_rfl
theorem ok42 : okFn Go.Proofs.Tryz.prog 11 42 F42 = true := by kernel_rfl
theorem ok43 : okFn Go.Proofs.Tryz.prog 11 43 F43 = true := by kernel_rfl
theorem ok45 : okFn Go.Proofs.Tryz.prog 11 45 F45 = true := by kernel_rfl
theorem ok54 : okFn Go.Proofs.Tryz.prog 11 54 F54 = true := by kernel_rfl
theorem ok55 : okFn Go.Proofs.Tryz.prog 11 55 F55 = true := by kernel_rfl
theorem ok56 : okFn Go.Proofs.Tryz.prog 11 56 F56 = true := by kernel_rfl
theorem ok57 : okFn Go.Proofs.Tryz.prog 11 57 F57 = true := by kernel_rfl
theorem ok58 : okFn Go.Proofs.Tryz.prog 11 58 F58 = true := by kernel_rfl
theorem ok59 : okFn Go.Proofs.Tryz.prog 11 59 F59 = true := by kernel_rfl
theorem ok60 : okFn Go.Proofs.Tryz.prog 11 60 F60 = true := by kernel_rfl
theorem ok62 : okFn Go.Proofs.Tryz.prog 11 62 F62 = true := by kernel_rfl
theorem ok65 : okFn Go.Proofs.Tryz.prog 11 65 F65 = true := by kernel_rfl
theorem ok66 : okFn Go.Proofs.Tryz.prog 11 66 F66 = true := by kernel_rfl
theorem ok67 : okFn Go.Proofs.Tryz.prog 11 67 F67 = true := by kernel_rfl
theorem ok68 : okFn Go.Proofs.Tryz.prog 11 68 F68 = true := by kernel_rfl
theorem ok69 : okFn Go.Proofs.Tryz.prog 11 69 F69 = true := by kernel_rfl
theorem ok70 : okFn Go.Proofs.Tryz.prog 11 70 F70 = true := by kernel_rfl
theorem ok71 : okFn Go.Proofs.Tryz.prog 11 71 F71 = true := by kernel_rfl
theorem ok72 : okFn Go.Proofs.Tryz.prog 11 72 F72 = true := by kernel_rfl
theorem ok73 : okFn Go.Proofs.Tryz.prog 11 73 F73 = true := by kernel_rfl
theorem ok74 : okFn Go.Proofs.Tryz.prog 11 74 F74 = true := by kernel_rfl
theorem ok77 : okFn Go.Proofs.Tryz.prog 11 77 F77 = true := by kernel_rfl
theorem ok79 : okFn Go.Proofs.Tryz.prog 11 79 F79 = true := by kernel_rfl
theorem ok92 : okFn Go.Proofs.Tryz.prog 11 92 F92 = true := by kernel_rfl
theorem ok98 : okFn Go.Proofs.Tryz.prog 11 98 F98 = true := by kernel_rfl
theorem ok125 : okFn Go.Proofs.Tryz.prog 11 125 F125 = true := by kernel_rfl
theorem ok175 : okFn Go.Proofs.Tryz.prog 11 175 F175 = true := by kernel_rfl
theorem fns_ok (f : Nat) (F : AF) (h : fns f = some F) : okFn Go.Proofs.Tryz.prog 11 f F = true := by
  unfold fns at h
  split at h
  · cases h; exact ok2
  · cases h; exact ok3
  · cases h; exact ok4
  · cases h; exact ok5
  · cases h; exact ok6
  · cases h; exact ok8
  · cases h; exact ok9
  · cases h; exact ok10
  · cases h; exact ok11
  · cases h; exact ok12
  · cases h; exact ok13
  · cases h; exact ok14
  · cases h; exact ok15
  · cases h; exact ok16
  · cases h; exact ok17
  · cases h; exact ok18
  · cases h; exact ok22
  · cases h; exact ok23
  · cases h; exact ok24
  · cases h; exact ok25
  · cases h; exact ok26
  · cases h; exact ok27
  · cases h; exact ok28
  · cases h; exact ok29
  · cases h; exact ok30
  · cases h; exact ok31
  · cases h; exact ok32
  · cases h; exact ok33
  · cases h; exact ok35
  · cases h; exact ok37
  · cases h; exact ok38
  · cases h; exact ok39
  · cases h; exact ok40
  · cases h; exact ok42
  · cases h; exact ok43
  · cases h; exact ok45
  · cases h; exact ok54
  · cases h; exact ok55
  · cases h; exact ok56
  · cases h; exact ok57
  · cases h; exact ok58
  · cases h; exact ok59
  · cases h; exact ok60
  · cases h; exact ok62
  · cases h; exact ok65
  · cases h; exact ok66
  · cases h; exact ok67
  · cases h; exact ok68
  · cases h; exact ok69
  · cases h; exact ok70
  · cases h; exact ok71
  · cases h; exact ok72
  · cases h; exact ok73
  · cases h; exact ok74
  · cases h; exact ok77
  · cases h; exact ok79
  · cases h; exact ok92
  · cases h; exact ok98
  · cases h; exact ok125
  · cases h; exact ok175
  · cases h
end Go.Abs.YtkfcbgmamfnajaaGreatDoor
