/- The functions of this translation as code of the layer Abs: written by a program off the model's own form; held against it in Lean (okFn). -/
import Derived.Test.YtobmjhfgmhfocaaGreatDoorM01
set_option linter.unusedVariables false
set_option linter.unusedSimpArgs false
namespace Go.Abs.YtobmjhfgmhfocaaGreatDoor
/-- gosem.cut.init -/
def c2 : AC := (.reg [⟨some 0, none, .call (.c (.fn (.func 1) [] [])) []⟩])
def F2 : AF := ⟨1, [], c2⟩
/-- fallow/fallowlaw24.ParsePrints -/
def c3 : AC := (.seq (.reg [⟨some 2, none, .mv (.c (.b false))⟩])
 (.seq (.cut [0] (.reg [⟨some 10, none, .mv (.t 0)⟩,
 ⟨some 11, none, .call (.c (.fn (.func 11) [] [])) [.t 10]⟩,
 ⟨some 9, none, .mv (.t 11)⟩,
 ⟨some 12, none, .ext (.t 9) 0⟩,
 ⟨some 13, none, .ext (.t 9) 1⟩,
 ⟨some 14, none, .ext (.t 9) 2⟩,
 ⟨some 4, none, .alloc 25⟩,
 ⟨some 3, none, .mv (.t 12)⟩,
 ⟨none, none, .store 25 (.t 4) (.t 13)⟩,
 ⟨some 5, none, .mv (.t 14)⟩]))
 (.seq (.seq (.reg [⟨some 15, none, .mv (.t 5)⟩])
 (.cond (.t 15)
 (.seq (.reg [⟨some 16, none, .call (.c (.fn (.func 12) [] [])) []⟩,
 ⟨some 2, none, .mv (.t 16)⟩])
 .ret)
 .skip))
 (.seq (.cut [3] (.reg [⟨some 17, none, .mv (.t 3)⟩,
 ⟨some 18, none, .call (.c (.fn (.func 13) [] [])) [.t 17]⟩,
 ⟨some 6, none, .mv (.t 18)⟩]))
 (.seq (.cut [3, 6] (.reg [⟨some 20, none, .mv (.t 3)⟩,
 ⟨some 21, none, .call (.c (.fn (.func 14) [] [])) [.t 20]⟩,
 ⟨some 19, none, .mv (.t 21)⟩,
 ⟨some 22, none, .ext (.t 19) 0⟩,
 ⟨some 23, none, .ext (.t 19) 1⟩,
 ⟨some 7, none, .mv (.t 22)⟩,
 ⟨some 8, none, .mv (.t 23)⟩]))
 (.cut [1000000, 6, 7, 8] (.seq (.seq (.cut [6, 7, 8] (.reg [⟨some 24, none, .mv (.t 6)⟩,
 ⟨some 25, none, .len 9 (.t 24)⟩,
 ⟨some 26, none, .bin .gtr 3 (.t 25) (.c (.i .i64 32768))⟩]))
 (.cond (.t 26)
 (.seq (.cut [7, 8] (.reg [⟨some 27, none, .mv (.t 8)⟩,
 ⟨some 28, none, .bin .eql 23 (.t 27) (.c (.i .i64 3))⟩,
 ⟨some 29, none, .mv (.t 28)⟩,
 ⟨some 30, some (29, true), .mv (.t 7)⟩,
 ⟨some 31, some (29, true), .bin .eql 9 (.t 30) (.c (.s []))⟩,
 ⟨some 32, none, .pick (.t 29) (.t 31) (.c (.b false))⟩,
 ⟨some 33, none, .mv (.t 32)⟩,
 ⟨some 34, some (33, true), .call (.c (.fn (.func 12) [] [])) []⟩,
 ⟨some 35, none, .pick (.t 33) (.t 34) (.c (.b false))⟩,
 ⟨some 2, none, .mv (.t 35)⟩]))
 .ret)
 .skip))
 (.seq (.cut [6, 7, 8] (.reg [⟨some 36, none, .mv (.t 8)⟩,
 ⟨some 37, none, .bin .eql 23 (.t 36) (.c (.i .i64 0))⟩,
 ⟨some 38, none, .mv (.t 37)⟩,
 ⟨some 39, some (38, true), .mv (.t 7)⟩,
 ⟨some 40, some (38, true), .mv (.t 6)⟩,
 ⟨some 41, some (38, true), .bin .eql 9 (.t 39) (.t 40)⟩,
 ⟨some 42, none, .pick (.t 38) (.t 41) (.c (.b false))⟩,
 ⟨some 43, none, .mv (.t 42)⟩,
 ⟨some 44, some (43, true), .call (.c (.fn (.func 12) [] [])) []⟩,
 ⟨some 45, none, .pick (.t 43) (.t 44) (.c (.b false))⟩,
 ⟨some 2, none, .mv (.t 45)⟩]))
 .ret))))))))
def F3 : AF := ⟨46, [.t 2], c3⟩
/-- fallow/fallowlaw24.ParseBack -/
def c5 : AC := (.seq (.reg [⟨some 2, none, .mv (.c (.b false))⟩])
 (.seq (.seq (.reg [⟨some 11, none, .call (.c (.fn (.func 12) [] [])) []⟩,
 ⟨some 12, none, .un .not (.t 11)⟩])
 (.cond (.t 12)
 (.seq (.reg [⟨some 2, none, .mv (.c (.b false))⟩])
 .ret)
 .skip))
 (.seq (.cut [0] (.reg [⟨some 14, none, .mv (.t 0)⟩,
 ⟨some 15, none, .call (.c (.fn (.func 17) [] [])) [.t 14]⟩,
 ⟨some 13, none, .mv (.t 15)⟩,
 ⟨some 16, none, .ext (.t 13) 0⟩,
 ⟨some 17, none, .ext (.t 13) 1⟩,
 ⟨some 3, none, .mv (.t 16)⟩,
 ⟨some 4, none, .mv (.t 17)⟩]))
 (.seq (.seq (.reg [⟨some 18, none, .mv (.t 4)⟩,
 ⟨some 19, none, .bin .neq 36 (.t 18) (.c (.ic0))⟩])
 (.cond (.t 19)
 (.seq (.cut [3] (.reg [⟨some 20, none, .mv (.t 3)⟩,
 ⟨some 21, none, .bin .eql 22 (.t 20) (.c (.p0))⟩,
 ⟨some 2, none, .mv (.t 21)⟩]))
 .ret)
 .skip))
 (.seq (.cut [3] (.reg [⟨some 23, none, .mv (.t 3)⟩,
 ⟨some 24, none, .call (.c (.fn (.func 14) [] [])) [.t 23]⟩,
 ⟨some 22, none, .mv (.t 24)⟩,
 ⟨some 25, none, .ext (.t 22) 0⟩,
 ⟨some 26, none, .ext (.t 22) 1⟩,
 ⟨some 5, none, .mv (.t 25)⟩,
 ⟨some 6, none, .mv (.t 26)⟩]))
 (.cut [1000000, 3, 5, 6] (.seq (.seq (.reg [⟨some 27, none, .mv (.t 6)⟩,
 ⟨some 28, none, .bin .eql 23 (.t 27) (.c (.i .i64 3))⟩])
 (.cond (.t 28)
 (.seq (.cut [5] (.reg [⟨some 29, none, .mv (.t 5)⟩,
 ⟨some 30, none, .bin .eql 9 (.t 29) (.c (.s []))⟩,
 ⟨some 2, none, .mv (.t 30)⟩]))
 .ret)
 .skip))
 (.seq (.cut [3, 5, 6] (.reg [⟨some 32, none, .mv (.t 5)⟩,
 ⟨some 33, none, .call (.c (.fn (.func 17) [] [])) [.t 32]⟩,
 ⟨some 31, none, .mv (.t 33)⟩,
 ⟨some 34, none, .ext (.t 31) 0⟩,
 ⟨some 35, none, .ext (.t 31) 1⟩,
 ⟨some 7, none, .mv (.t 34)⟩,
 ⟨some 8, none, .mv (.t 35)⟩]))
 (.seq (.seq (.cut [3, 5, 6, 7, 8] (.reg [⟨some 36, none, .mv (.t 6)⟩,
 ⟨some 37, none, .bin .neq 23 (.t 36) (.c (.i .i64 0))⟩,
 ⟨some 38, none, .mv (.t 37)⟩,
 ⟨some 39, some (38, false), .mv (.t 8)⟩,
 ⟨some 40, some (38, false), .bin .neq 36 (.t 39) (.c (.ic0))⟩,
 ⟨some 41, none, .pick (.t 38) (.c (.b true)) (.t 40)⟩,
 ⟨some 42, none, .mv (.t 41)⟩,
 ⟨some 43, some (42, false), .mv (.t 3)⟩,
 ⟨some 44, some (42, false), .mv (.t 7)⟩,
 ⟨some 45, some (42, false), .call (.c (.fn (.func 15) [] [])) [.t 43, .t 44]⟩,
 ⟨some 46, some (42, false), .un .not (.t 45)⟩,
 ⟨some 47, none, .pick (.t 42) (.c (.b true)) (.t 46)⟩]))
 (.cond (.t 47)
 (.seq (.reg [⟨some 2, none, .mv (.c (.b false))⟩])
 .ret)
 .skip))
 (.cut [1000000, 5, 7] (.seq (.cut [5, 7] (.reg [⟨some 49, none, .mv (.t 7)⟩,
 ⟨some 50, none, .call (.c (.fn (.func 14) [] [])) [.t 49]⟩,
 ⟨some 48, none, .mv (.t 50)⟩,
 ⟨some 51, none, .ext (.t 48) 0⟩,
 ⟨some 52, none, .ext (.t 48) 1⟩,
 ⟨some 9, none, .mv (.t 51)⟩,
 ⟨some 10, none, .mv (.t 52)⟩]))
 (.seq (.cut [5, 9, 10] (.reg [⟨some 53, none, .mv (.t 10)⟩,
 ⟨some 54, none, .bin .eql 23 (.t 53) (.c (.i .i64 0))⟩,
 ⟨some 55, none, .mv (.t 54)⟩,
 ⟨some 56, some (55, true), .mv (.t 9)⟩,
 ⟨some 57, some (55, true), .mv (.t 5)⟩,
 ⟨some 58, some (55, true), .bin .eql 9 (.t 56) (.t 57)⟩,
 ⟨some 59, none, .pick (.t 55) (.t 58) (.c (.b false))⟩,
 ⟨some 2, none, .mv (.t 59)⟩]))
 .ret))))))))))))
def F5 : AF := ⟨60, [.t 2], c5⟩
/-- fallow/fallowlaw24.ParseBlanks -/
def c6L0 : AC := (.seq (.seq (.cut [0, 1, 5, 7, 8] (.reg [⟨some 28, none, .mv (.t 8)⟩,
 ⟨some 29, none, .mv (.t 5)⟩,
 ⟨some 30, none, .len 40 (.t 29)⟩,
 ⟨some 31, none, .bin .lss 3 (.t 28) (.t 30)⟩]))
 (.cond (.t 31)
 .skip
 (.exit 0)))
 (.seq (.blk 1
 (.seq (.reg [⟨some 9, none, .mv (.c (.i .u8 0))⟩])
 (.seq (.seq (.cut [0, 1, 5, 7, 8, 9] (.reg [⟨some 34, none, .mv (.t 8)⟩,
 ⟨some 35, none, .mv (.t 1)⟩,
 ⟨some 36, none, .len 39 (.t 35)⟩,
 ⟨some 37, none, .bin .lss 3 (.t 34) (.t 36)⟩]))
 (.cond (.t 37)
 (.cut [0, 1, 5, 7, 8] (.reg [⟨some 38, none, .mv (.t 1)⟩,
 ⟨some 39, none, .mv (.t 8)⟩,
 ⟨some 40, none, .iad 39 (.t 38) (.t 39)⟩,
 ⟨some 41, none, .load 5 (.t 40)⟩,
 ⟨some 9, none, .mv (.t 41)⟩]))
 .skip))
 (.cut [1000000, 0, 1, 5, 7, 8, 9] (.seq (.seq (.reg [⟨some 42, none, .mv (.t 9)⟩,
 ⟨some 43, none, .bin .rem 5 (.t 42) (.c (.i .u8 4))⟩])
 (.blk 2
 (.seq (.reg [⟨some 47, none, .bin .eql 5 (.t 43) (.c (.i .u8 0))⟩,
 ⟨some 46, none, .mv (.t 47)⟩])
 (.cond (.t 46)
 (.cut [0, 1, 5, 7, 8] (.reg [⟨some 48, none, .mv (.t 7)⟩,
 ⟨some 49, none, .bin .add 9 (.t 48) (.c (.s [32]))⟩,
 ⟨some 7, none, .mv (.t 49)⟩]))
 (.seq (.reg [⟨some 51, none, .bin .eql 5 (.t 43) (.c (.i .u8 1))⟩,
 ⟨some 50, none, .mv (.t 51)⟩])
 (.cond (.t 50)
 (.cut [0, 1, 5, 7, 8] (.reg [⟨some 52, none, .mv (.t 7)⟩,
 ⟨some 53, none, .bin .add 9 (.t 52) (.c (.s [10]))⟩,
 ⟨some 7, none, .mv (.t 53)⟩]))
 (.seq (.reg [⟨some 55, none, .bin .eql 5 (.t 43) (.c (.i .u8 2))⟩,
 ⟨some 54, none, .mv (.t 55)⟩])
 (.cond (.t 54)
 (.cut [0, 1, 5, 7, 8] (.reg [⟨some 56, none, .mv (.t 7)⟩,
 ⟨some 57, none, .bin .add 9 (.t 56) (.c (.s [9, 13, 32]))⟩,
 ⟨some 7, none, .mv (.t 57)⟩]))
 (.cut [0, 1, 5, 7, 8] (.reg [⟨some 44, none, .mv (.t 7)⟩,
 ⟨some 45, none, .bin .add 9 (.t 44) (.c (.s [32, 47, 47, 32, 97, 32, 114, 101, 109, 97, 114, 107, 32, 123, 10]))⟩,
 ⟨some 7, none, .mv (.t 45)⟩]))))))))))
 (.cut [1000000, 0, 1, 5, 7, 8] (.cut [0, 1, 5, 7, 8] (.reg [⟨some 58, none, .mv (.t 7)⟩,
 ⟨some 59, none, .mv (.t 5)⟩,
 ⟨some 60, none, .mv (.t 8)⟩,
 ⟨some 61, none, .iad 40 (.t 59) (.t 60)⟩,
 ⟨some 62, none, .fad 44 (.t 61) 1⟩,
 ⟨some 63, none, .load 9 (.t 62)⟩,
 ⟨some 64, none, .bin .add 9 (.t 58) (.t 63)⟩,
 ⟨some 7, none, .mv (.t 64)⟩]))))))))
 (.cut [0, 1, 5, 7, 8] (.reg [⟨some 32, none, .mv (.t 8)⟩,
 ⟨some 33, none, .bin .add 3 (.t 32) (.c (.i .i64 1))⟩,
 ⟨some 8, none, .mv (.t 33)⟩]))))
def c6 : AC := (.seq (.reg [⟨some 4, none, .mv (.c (.b false))⟩])
 (.seq (.seq (.reg [⟨some 14, none, .call (.c (.fn (.func 12) [] [])) []⟩,
 ⟨some 15, none, .un .not (.t 14)⟩])
 (.cond (.t 15)
 (.seq (.reg [⟨some 4, none, .mv (.c (.b false))⟩])
 .ret)
 .skip))
 (.seq (.cut [0, 1] (.reg [⟨some 17, none, .mv (.t 0)⟩,
 ⟨some 18, none, .call (.c (.fn (.func 18) [] [])) [.t 17]⟩,
 ⟨some 16, none, .mv (.t 18)⟩,
 ⟨some 19, none, .ext (.t 16) 0⟩,
 ⟨some 20, none, .ext (.t 16) 1⟩,
 ⟨some 5, none, .mv (.t 19)⟩,
 ⟨some 6, none, .mv (.t 20)⟩]))
 (.seq (.seq (.cut [0, 1, 5, 6] (.reg [⟨some 21, none, .mv (.t 6)⟩,
 ⟨some 22, none, .bin .neq 36 (.t 21) (.c (.ic0))⟩,
 ⟨some 23, none, .mv (.t 22)⟩,
 ⟨some 24, some (23, false), .mv (.t 0)⟩,
 ⟨some 25, some (23, false), .len 9 (.t 24)⟩,
 ⟨some 26, some (23, false), .bin .gtr 3 (.t 25) (.c (.i .i64 2000))⟩,
 ⟨some 27, none, .pick (.t 23) (.c (.b true)) (.t 26)⟩]))
 (.cond (.t 27)
 (.seq (.reg [⟨some 4, none, .mv (.c (.b true))⟩])
 .ret)
 .skip))
 (.seq (.reg [⟨some 7, none, .mv (.c (.s []))⟩])
 (.seq (.seq (.reg [⟨some 8, none, .mv (.c (.i .i64 0))⟩])
 (.blk 0
 (.loop [0, 1, 5, 7, 8] c6L0)))
 (.seq (.cut [0, 7] (.reg [⟨some 66, none, .mv (.t 0)⟩,
 ⟨some 67, none, .call (.c (.fn (.func 17) [] [])) [.t 66]⟩,
 ⟨some 65, none, .mv (.t 67)⟩,
 ⟨some 68, none, .ext (.t 65) 0⟩,
 ⟨some 69, none, .ext (.t 65) 1⟩,
 ⟨some 10, none, .mv (.t 68)⟩,
 ⟨some 11, none, .mv (.t 69)⟩]))
 (.seq (.cut [7, 10, 11] (.reg [⟨some 71, none, .mv (.t 7)⟩,
 ⟨some 72, none, .call (.c (.fn (.func 17) [] [])) [.t 71]⟩,
 ⟨some 70, none, .mv (.t 72)⟩,
 ⟨some 73, none, .ext (.t 70) 0⟩,
 ⟨some 74, none, .ext (.t 70) 1⟩,
 ⟨some 12, none, .mv (.t 73)⟩,
 ⟨some 13, none, .mv (.t 74)⟩]))
 (.seq (.cut [10, 11, 12, 13] (.drw [(⟨some 75, none, .mv (.t 11)⟩, []),
 (⟨some 76, none, .bin .eql 36 (.t 75) (.c (.ic0))⟩, []),
 (⟨some 77, none, .mv (.t 13)⟩, []),
 (⟨some 78, none, .bin .eql 36 (.t 77) (.c (.ic0))⟩, []),
 (⟨some 79, none, .bin .eql 4 (.t 76) (.t 78)⟩, []),
 (⟨some 80, none, .mv (.t 79)⟩, []),
 (⟨some 81, some (80, true), .mv (.t 10)⟩, []),
 (⟨some 82, some (80, true), .mv (.t 12)⟩, []),
 (⟨some 83, some (80, true), .call (.c (.fn (.func 15) [] [])) [.t 81, .t 82]⟩, []),
 (⟨some 84, none, .pick (.t 80) (.t 83) (.c (.b false))⟩, []),
 (⟨some 4, none, .mv (.t 84)⟩, [])]))
 .ret)))))))))
def F6 : AF := ⟨85, [.t 4], c6⟩
/-- fallow/fallowlaw24.ParseKnown -/
def c10L0 : AC := (.seq (.seq (.reg [⟨some 34, none, .mv (.t 2)⟩,
 ⟨some 35, none, .bin .lss 3 (.t 34) (.c (.i .i64 6))⟩])
 (.cond (.t 35)
 .skip
 (.exit 0)))
 (.seq (.blk 1
 (.seq (.cut [1, 2] (.drw [(⟨some 38, none, .mv (.t 2)⟩, []),
 (⟨some 39, none, .iad 62 (.t 1) (.t 38)⟩, []),
 (⟨some 40, none, .iad 61 (.t 39) (.c (.i .i64 0))⟩, []),
 (⟨some 41, none, .load 9 (.t 40)⟩, []),
 (⟨some 43, none, .mv (.t 2)⟩, []),
 (⟨some 44, none, .iad 62 (.t 1) (.t 43)⟩, []),
 (⟨some 45, none, .iad 61 (.t 44) (.c (.i .i64 1))⟩, []),
 (⟨some 46, none, .load 9 (.t 45)⟩, []),
 (⟨some 42, none, .call (.c (.fn (.func 22) [] [])) [.t 41]⟩, [⟨some 46, none, .load 9 (.t 45)⟩]),
 (⟨some 47, none, .bin .neq 9 (.t 42) (.t 46)⟩, [])]))
 (.cond (.t 47)
 (.seq (.reg [⟨some 0, none, .mv (.c (.b false))⟩])
 .ret)
 .skip)))
 (.cut [1, 2] (.reg [⟨some 36, none, .mv (.t 2)⟩,
 ⟨some 37, none, .bin .add 3 (.t 36) (.c (.i .i64 1))⟩,
 ⟨some 2, none, .mv (.t 37)⟩]))))
def c10L1 : AC := (.seq (.reg [⟨some 51, none, .bin .lss 3 (.t 50) (.t 49)⟩])
 (.seq (.cond (.t 51)
 .skip
 (.exit 2))
 (.seq (.blk 3
 (.seq (.cut [48, 49, 50] (.reg [⟨some 52, none, .mv (.t 50)⟩,
 ⟨some 53, none, .iad 63 (.t 48) (.t 50)⟩,
 ⟨some 54, none, .load 9 (.t 53)⟩,
 ⟨some 3, none, .mv (.t 52)⟩,
 ⟨some 4, none, .mv (.t 54)⟩]))
 (.seq (.cut [3, 4, 48, 49, 50] (.reg [⟨some 56, none, .mv (.t 4)⟩,
 ⟨some 57, none, .call (.c (.fn (.func 17) [] [])) [.t 56]⟩,
 ⟨some 55, none, .mv (.t 57)⟩,
 ⟨some 58, none, .ext (.t 55) 0⟩,
 ⟨some 59, none, .ext (.t 55) 1⟩,
 ⟨some 5, none, .mv (.t 58)⟩,
 ⟨some 6, none, .mv (.t 59)⟩]))
 (.seq (.cut [3, 6, 48, 49, 50] (.reg [⟨some 60, none, .build 64 [(0, .c (.i .i64 0)), (1, .c (.i .i64 0)), (2, .c (.i .i64 1)), (3, .c (.i .i64 2)), (4, .c (.i .i64 1)), (5, .c (.i .i64 1))]⟩,
 ⟨some 7, none, .alloc 64⟩,
 ⟨none, none, .store 64 (.t 7) (.t 60)⟩]))
 (.seq (.cut [3, 6, 7, 48, 49, 50] (.reg [⟨some 61, none, .mv (.t 6)⟩,
 ⟨some 62, none, .mv (.t 3)⟩,
 ⟨some 63, none, .iad 64 (.t 7) (.t 62)⟩,
 ⟨some 64, none, .load 3 (.t 63)⟩,
 ⟨some 65, none, .build 25 [(0, .c (.i .i64 4)), (1, .t 64)]⟩,
 ⟨some 66, none, .call (.c (.fn (.func 23) [] [])) [.t 61, .t 65, .c (.b true)]⟩,
 ⟨some 67, none, .un .not (.t 66)⟩]))
 (.cond (.t 67)
 (.seq (.reg [⟨some 0, none, .mv (.c (.b false))⟩])
 .ret)
 .skip))))))
 (.reg [⟨some 68, none, .bin .add 3 (.t 50) (.c (.i .i64 1))⟩,
 ⟨some 50, none, .mv (.t 68)⟩]))))
def c10 : AC := (.seq (.reg [⟨some 0, none, .mv (.c (.b false))⟩])
 (.seq (.cut [] (.reg [⟨some 27, none, .build 61 [(0, .c (.s [49, 45, 40, 50, 45, 51, 41])), (1, .c (.s [49, 32, 45, 32, 40, 50, 32, 45, 32, 51, 41]))]⟩,
 ⟨some 28, none, .build 61 [(0, .c (.s [40, 49, 45, 50, 41, 45, 51])), (1, .c (.s [49, 32, 45, 32, 50, 32, 45, 32, 51]))]⟩,
 ⟨some 29, none, .build 61 [(0, .c (.s [45, 40, 112, 41, 91, 48, 93])), (1, .c (.s [45, 112, 91, 48, 93]))]⟩,
 ⟨some 30, none, .build 61 [(0, .c (.s [40, 45, 112, 41, 91, 48, 93])), (1, .c (.s [40, 45, 112, 41, 91, 48, 93]))]⟩,
 ⟨some 31, none, .build 61 [(0, .c (.s [112, 58, 40, 49, 41])), (1, .c (.s [112, 58, 49]))]⟩,
 ⟨some 32, none, .build 61 [(0, .c (.s [112, 58, 40, 105, 43, 49, 41])), (1, .c (.s [112, 58, 40, 105, 32, 43, 32, 49, 41]))]⟩,
 ⟨some 33, none, .build 62 [(0, .t 27), (1, .t 28), (2, .t 29), (3, .t 30), (4, .t 31), (5, .t 32)]⟩,
 ⟨some 1, none, .alloc 62⟩,
 ⟨none, none, .store 62 (.t 1) (.t 33)⟩]))
 (.seq (.seq (.reg [⟨some 2, none, .mv (.c (.i .i64 0))⟩])
 (.blk 0
 (.loop [1, 2] c10L0)))
 (.seq (.seq (.cut [] (.reg [⟨some 48, none, .bsl 63 6 [(0, .c (.s [102, 117, 110, 99, 32, 102, 40])), (1, .c (.s [120])), (2, .c (.s [102, 117, 110, 99, 32, 102, 40, 41, 32, 123, 10, 49, 59, 10, 125])), (3, .c (.s [102, 117, 110, 99, 32, 102, 40, 41, 32, 123, 10, 120, 10, 125])), (4, .c (.s [102, 117, 110, 99, 32, 102, 40, 41, 32, 123, 10, 40, 120, 41, 61, 49, 32, 50, 59, 10, 125])), (5, .c (.s [102, 117, 110, 99, 32, 102, 40, 41, 32, 123, 10, 102, 40, 41, 61, 49, 59, 10, 125]))]⟩,
 ⟨some 49, none, .len 63 (.t 48)⟩,
 ⟨some 50, none, .mv (.c (.i .i64 0))⟩]))
 (.blk 2
 (.loop [48, 49, 50] c10L1)))
 (.cut [1000000] (.seq (.reg [⟨some 8, none, .mv (.c (.s [102, 117, 110, 99, 32, 102, 40, 97, 44, 32, 98, 32, 112, 116, 114, 41, 32, 112, 116, 114, 32, 123, 10, 9, 118, 97, 114, 32, 120, 32, 61, 32, 97, 59, 10, 9, 118, 97, 114, 32, 112, 32, 112, 116, 114, 59, 10, 9, 112, 91, 48, 93, 32, 61, 32, 49, 59, 10, 9, 112, 58, 120, 32, 61, 32, 98, 59, 10, 9, 105, 102, 32, 97, 32, 123, 10, 9, 9, 111, 117, 116, 32, 49, 59, 10, 9, 125, 32, 101, 108, 115, 101, 32, 105, 102, 32, 33, 97, 32, 123, 10, 9, 9, 102, 114, 101, 101, 32, 112, 59, 10, 9, 125, 32, 101, 108, 115, 101, 32, 123, 10, 9, 9, 100, 114, 97, 105, 110, 59, 10, 9, 125, 10, 9, 119, 104, 105, 108, 101, 32, 105, 110, 40, 41, 32, 123, 10, 9, 9, 102, 40, 97, 44, 32, 98, 41, 59, 10, 9, 125, 10, 9, 105, 102, 32, 97, 32, 123, 10, 9, 125, 10, 9, 114, 101, 116, 117, 114, 110, 59, 10, 125, 10, 102, 117, 110, 99, 32, 103, 40, 41, 32, 123, 10, 9, 114, 101, 116, 117, 114, 110, 32, 110, 101, 119, 40, 51, 41, 59, 10, 125, 10]))⟩])
 (.seq (.cut [8] (.reg [⟨some 70, none, .mv (.t 8)⟩,
 ⟨some 71, none, .call (.c (.fn (.func 17) [] [])) [.t 70]⟩,
 ⟨some 69, none, .mv (.t 71)⟩,
 ⟨some 72, none, .ext (.t 69) 0⟩,
 ⟨some 73, none, .ext (.t 69) 1⟩,
 ⟨some 9, none, .mv (.t 72)⟩,
 ⟨some 10, none, .mv (.t 73)⟩]))
 (.seq (.seq (.cut [8, 9, 10] (.reg [⟨some 74, none, .mv (.t 10)⟩,
 ⟨some 75, none, .bin .neq 36 (.t 74) (.c (.ic0))⟩,
 ⟨some 76, none, .mv (.t 75)⟩,
 ⟨some 77, some (76, false), .mv (.t 9)⟩,
 ⟨some 78, some (76, false), .bin .eql 22 (.t 77) (.c (.p0))⟩,
 ⟨some 79, none, .pick (.t 76) (.c (.b true)) (.t 78)⟩,
 ⟨some 80, none, .mv (.t 79)⟩,
 ⟨some 81, some (80, false), .mv (.t 9)⟩,
 ⟨some 82, some (80, false), .nilck (.t 81)⟩,
 ⟨some 83, some (80, false), .fad 67 (.t 82) 0⟩,
 ⟨some 84, some (80, false), .load 65 (.t 83)⟩,
 ⟨some 85, some (80, false), .len 65 (.t 84)⟩,
 ⟨some 86, some (80, false), .bin .neq 3 (.t 85) (.c (.i .i64 2))⟩,
 ⟨some 87, none, .pick (.t 80) (.c (.b true)) (.t 86)⟩,
 ⟨some 88, none, .mv (.t 87)⟩,
 ⟨some 89, some (88, false), .mv (.t 9)⟩,
 ⟨some 90, some (88, false), .nilck (.t 89)⟩,
 ⟨some 91, some (88, false), .fad 67 (.t 90) 0⟩,
 ⟨some 92, some (88, false), .load 65 (.t 91)⟩,
 ⟨some 93, some (88, false), .iad 65 (.t 92) (.c (.i .i64 0))⟩,
 ⟨some 94, some (88, false), .load 72 (.t 93)⟩,
 ⟨some 95, some (88, false), .nilck (.t 94)⟩,
 ⟨some 96, some (88, false), .fad 71 (.t 95) 3⟩,
 ⟨some 97, some (88, false), .load 69 (.t 96)⟩,
 ⟨some 98, some (88, false), .len 69 (.t 97)⟩,
 ⟨some 99, some (88, false), .bin .neq 3 (.t 98) (.c (.i .i64 8))⟩,
 ⟨some 100, none, .pick (.t 88) (.c (.b true)) (.t 99)⟩,
 ⟨some 101, none, .mv (.t 100)⟩,
 ⟨some 102, some (101, false), .mv (.t 9)⟩,
 ⟨some 103, some (101, false), .nilck (.t 102)⟩,
 ⟨some 104, some (101, false), .fad 67 (.t 103) 0⟩,
 ⟨some 105, some (101, false), .load 65 (.t 104)⟩,
 ⟨some 106, some (101, false), .iad 65 (.t 105) (.c (.i .i64 0))⟩,
 ⟨some 107, some (101, false), .load 72 (.t 106)⟩,
 ⟨some 108, some (101, false), .nilck (.t 107)⟩,
 ⟨some 109, some (101, false), .fad 71 (.t 108) 1⟩,
 ⟨some 110, some (101, false), .load 68 (.t 109)⟩,
 ⟨some 111, some (101, false), .len 68 (.t 110)⟩,
 ⟨some 112, some (101, false), .bin .neq 3 (.t 111) (.c (.i .i64 2))⟩,
 ⟨some 113, none, .pick (.t 101) (.c (.b true)) (.t 112)⟩]))
 (.cut [1000000, 8, 9, 113] (.cond (.t 113)
 (.seq (.reg [⟨some 0, none, .mv (.c (.b false))⟩])
 .ret)
 .skip)))
 (.seq (.cut [8, 9] (.reg [⟨some 115, none, .mv (.t 9)⟩,
 ⟨some 116, none, .call (.c (.fn (.func 14) [] [])) [.t 115]⟩,
 ⟨some 114, none, .mv (.t 116)⟩,
 ⟨some 117, none, .ext (.t 114) 0⟩,
 ⟨some 118, none, .ext (.t 114) 1⟩,
 ⟨some 11, none, .mv (.t 117)⟩,
 ⟨some 12, none, .mv (.t 118)⟩]))
 (.seq (.cut [8, 9, 11, 12] (.reg [⟨some 120, none, .call (.c (.fn (.func 14) [] [])) [.c (.p0)]⟩,
 ⟨some 119, none, .mv (.t 120)⟩,
 ⟨some 121, none, .ext (.t 119) 0⟩,
 ⟨some 122, none, .ext (.t 119) 1⟩,
 ⟨some 13, none, .mv (.t 121)⟩,
 ⟨some 14, none, .mv (.t 122)⟩]))
 (.seq (.cut [8, 9, 11, 12, 14] (.reg [⟨some 124, none, .build 71 [(0, .c (.s [49, 120]))]⟩,
 ⟨some 125, none, .box 71 (.t 124)⟩,
 ⟨some 126, none, .bsl 65 1 [(0, .t 125)]⟩,
 ⟨some 127, none, .build 67 [(0, .t 126)]⟩,
 ⟨some 128, none, .box 67 (.t 127)⟩,
 ⟨some 129, none, .call (.c (.fn (.func 14) [] [])) [.t 128]⟩,
 ⟨some 123, none, .mv (.t 129)⟩,
 ⟨some 130, none, .ext (.t 123) 0⟩,
 ⟨some 131, none, .ext (.t 123) 1⟩,
 ⟨some 15, none, .mv (.t 130)⟩,
 ⟨some 16, none, .mv (.t 131)⟩]))
 (.cut [1000000, 8, 9, 11, 12, 14, 16] (.seq (.cut [8, 9, 11, 12, 14, 16] (.reg [⟨some 133, none, .bsl 65 1 [(0, .c (.p0))]⟩,
 ⟨some 134, none, .build 67 [(0, .t 133)]⟩,
 ⟨some 135, none, .box 67 (.t 134)⟩,
 ⟨some 136, none, .call (.c (.fn (.func 14) [] [])) [.t 135]⟩,
 ⟨some 132, none, .mv (.t 136)⟩,
 ⟨some 137, none, .ext (.t 132) 0⟩,
 ⟨some 138, none, .ext (.t 132) 1⟩,
 ⟨some 17, none, .mv (.t 137)⟩,
 ⟨some 18, none, .mv (.t 138)⟩]))
 (.seq (.cut [8, 9, 11, 12, 14, 16, 18] (.reg [⟨some 140, none, .build 75 [(0, .c (.i .i64 6))]⟩,
 ⟨some 141, none, .box 75 (.t 140)⟩,
 ⟨some 142, none, .bsl 69 1 [(0, .t 141)]⟩,
 ⟨some 143, none, .build 71 [(0, .c (.s [102])), (3, .t 142)]⟩,
 ⟨some 144, none, .box 71 (.t 143)⟩,
 ⟨some 145, none, .bsl 65 1 [(0, .t 144)]⟩,
 ⟨some 146, none, .build 67 [(0, .t 145)]⟩,
 ⟨some 147, none, .box 67 (.t 146)⟩,
 ⟨some 148, none, .call (.c (.fn (.func 14) [] [])) [.t 147]⟩,
 ⟨some 139, none, .mv (.t 148)⟩,
 ⟨some 149, none, .ext (.t 139) 0⟩,
 ⟨some 150, none, .ext (.t 139) 1⟩,
 ⟨some 19, none, .mv (.t 149)⟩,
 ⟨some 20, none, .mv (.t 150)⟩]))
 (.seq (.cut [8, 9, 11, 12, 14, 16, 18, 20] (.reg [⟨some 152, none, .build 75 [(0, .c (.i .i64 99))]⟩,
 ⟨some 153, none, .box 75 (.t 152)⟩,
 ⟨some 154, none, .bsl 69 1 [(0, .t 153)]⟩,
 ⟨some 155, none, .build 71 [(0, .c (.s [102])), (3, .t 154)]⟩,
 ⟨some 156, none, .box 71 (.t 155)⟩,
 ⟨some 157, none, .bsl 65 1 [(0, .t 156)]⟩,
 ⟨some 158, none, .build 67 [(0, .t 157)]⟩,
 ⟨some 159, none, .box 67 (.t 158)⟩,
 ⟨some 160, none, .call (.c (.fn (.func 14) [] [])) [.t 159]⟩,
 ⟨some 151, none, .mv (.t 160)⟩,
 ⟨some 161, none, .ext (.t 151) 0⟩,
 ⟨some 162, none, .ext (.t 151) 1⟩,
 ⟨some 21, none, .mv (.t 161)⟩,
 ⟨some 22, none, .mv (.t 162)⟩]))
 (.cut [1000000, 8, 9, 11, 12, 14, 16, 18, 20, 22] (.seq (.cut [8, 9, 11, 12, 14, 16, 18, 20, 22] (.reg [⟨some 164, none, .call (.c (.fn (.func 17) [] [])) [.c (.s [102, 117, 110, 99, 32, 102, 40, 41, 32, 123, 32, 120, 32, 61, 32, 48, 49, 50, 59, 32, 125])]⟩,
 ⟨some 163, none, .mv (.t 164)⟩,
 ⟨some 165, none, .ext (.t 163) 0⟩,
 ⟨some 166, none, .ext (.t 163) 1⟩,
 ⟨some 23, none, .mv (.t 165)⟩,
 ⟨some 24, none, .mv (.t 166)⟩]))
 (.seq (.cut [8, 9, 11, 12, 14, 16, 18, 20, 22, 24] (.reg [⟨some 168, none, .call (.c (.fn (.func 17) [] [])) [.c (.s [])]⟩,
 ⟨some 167, none, .mv (.t 168)⟩,
 ⟨some 169, none, .ext (.t 167) 0⟩,
 ⟨some 170, none, .ext (.t 167) 1⟩,
 ⟨some 25, none, .mv (.t 169)⟩,
 ⟨some 26, none, .mv (.t 170)⟩]))
 (.seq (.cut [8, 9, 11, 12, 14, 16, 18, 20, 22, 24, 25, 26] (.reg [⟨some 171, none, .mv (.c (.b true))⟩,
 ⟨some 172, some (171, true), .call (.c (.fn (.func 12) [] [])) []⟩,
 ⟨some 173, none, .pick (.t 171) (.t 172) (.c (.b false))⟩,
 ⟨some 174, none, .mv (.t 173)⟩,
 ⟨some 175, some (174, true), .mv (.t 12)⟩,
 ⟨some 176, some (174, true), .bin .eql 23 (.t 175) (.c (.i .i64 0))⟩,
 ⟨some 177, none, .pick (.t 174) (.t 176) (.c (.b false))⟩,
 ⟨some 178, none, .mv (.t 177)⟩,
 ⟨some 179, some (178, true), .mv (.t 11)⟩,
 ⟨some 180, some (178, true), .mv (.t 8)⟩,
 ⟨some 181, some (178, true), .bin .eql 9 (.t 179) (.t 180)⟩,
 ⟨some 182, none, .pick (.t 178) (.t 181) (.c (.b false))⟩,
 ⟨some 183, none, .mv (.t 182)⟩,
 ⟨some 184, some (183, true), .mv (.t 14)⟩,
 ⟨some 185, some (183, true), .bin .eql 23 (.t 184) (.c (.i .i64 1))⟩,
 ⟨some 186, none, .pick (.t 183) (.t 185) (.c (.b false))⟩,
 ⟨some 187, none, .mv (.t 186)⟩,
 ⟨some 188, some (187, true), .mv (.t 16)⟩,
 ⟨some 189, some (187, true), .bin .eql 23 (.t 188) (.c (.i .i64 2))⟩,
 ⟨some 190, none, .pick (.t 187) (.t 189) (.c (.b false))⟩,
 ⟨some 191, none, .mv (.t 190)⟩,
 ⟨some 192, some (191, true), .mv (.t 18)⟩,
 ⟨some 193, some (191, true), .bin .eql 23 (.t 192) (.c (.i .i64 2))⟩,
 ⟨some 194, none, .pick (.t 191) (.t 193) (.c (.b false))⟩,
 ⟨some 195, none, .mv (.t 194)⟩,
 ⟨some 196, some (195, true), .mv (.t 20)⟩,
 ⟨some 197, some (195, true), .bin .eql 23 (.t 196) (.c (.i .i64 2))⟩,
 ⟨some 198, none, .pick (.t 195) (.t 197) (.c (.b false))⟩,
 ⟨some 199, none, .mv (.t 198)⟩,
 ⟨some 200, some (199, true), .mv (.t 22)⟩,
 ⟨some 201, some (199, true), .bin .eql 23 (.t 200) (.c (.i .i64 2))⟩,
 ⟨some 202, none, .pick (.t 199) (.t 201) (.c (.b false))⟩,
 ⟨some 203, none, .mv (.t 202)⟩,
 ⟨some 204, some (203, true), .mv (.t 24)⟩,
 ⟨some 205, some (203, true), .build 25 [(0, .c (.i .i64 9))]⟩,
 ⟨some 206, some (203, true), .call (.c (.fn (.func 23) [] [])) [.t 204, .t 205, .c (.b true)]⟩,
 ⟨some 207, none, .pick (.t 203) (.t 206) (.c (.b false))⟩,
 ⟨some 208, none, .mv (.t 207)⟩,
 ⟨some 209, some (208, true), .mv (.t 26)⟩,
 ⟨some 210, some (208, true), .bin .eql 36 (.t 209) (.c (.ic0))⟩,
 ⟨some 211, none, .pick (.t 208) (.t 210) (.c (.b false))⟩,
 ⟨some 212, none, .mv (.t 211)⟩,
 ⟨some 213, some (212, true), .mv (.t 25)⟩,
 ⟨some 214, some (212, true), .nilck (.t 213)⟩,
 ⟨some 215, some (212, true), .fad 67 (.t 214) 0⟩,
 ⟨some 216, some (212, true), .load 65 (.t 215)⟩,
 ⟨some 217, some (212, true), .len 65 (.t 216)⟩,
 ⟨some 218, some (212, true), .bin .eql 3 (.t 217) (.c (.i .i64 0))⟩,
 ⟨some 219, none, .pick (.t 212) (.t 218) (.c (.b false))⟩,
 ⟨some 220, none, .mv (.t 219)⟩,
 ⟨some 221, some (220, true), .call (.c (.fn (.func 15) [] [])) [.c (.p0), .c (.p0)]⟩,
 ⟨some 222, none, .pick (.t 220) (.t 221) (.c (.b false))⟩,
 ⟨some 223, none, .mv (.t 222)⟩,
 ⟨some 224, some (223, true), .mv (.t 25)⟩,
 ⟨some 225, some (223, true), .call (.c (.fn (.func 15) [] [])) [.c (.p0), .t 224]⟩,
 ⟨some 226, some (223, true), .un .not (.t 225)⟩,
 ⟨some 227, none, .pick (.t 223) (.t 226) (.c (.b false))⟩,
 ⟨some 228, none, .mv (.t 227)⟩,
 ⟨some 229, some (228, true), .mv (.t 9)⟩,
 ⟨some 230, some (228, true), .mv (.t 25)⟩,
 ⟨some 231, some (228, true), .call (.c (.fn (.func 15) [] [])) [.t 229, .t 230]⟩,
 ⟨some 232, some (228, true), .un .not (.t 231)⟩,
 ⟨some 233, none, .pick (.t 228) (.t 232) (.c (.b false))⟩,
 ⟨some 0, none, .mv (.t 233)⟩]))
 (.cut [1000000, 0] .ret))))))))))))))))))))
def F10 : AF := ⟨234, [.t 0], c10⟩
/-- fallow/fallowlaw24.works -/
def c12 : AC := (.seq (.reg [⟨some 0, none, .mv (.c (.b false))⟩])
 (.seq (.cut [] (.reg [⟨some 7, none, .call (.c (.fn (.func 17) [] [])) [.c (.s [102, 117, 110, 99, 32, 109, 97, 105, 110, 40, 41, 123, 120, 61, 49, 43, 50, 42, 51, 59, 125])]⟩,
 ⟨some 6, none, .mv (.t 7)⟩,
 ⟨some 8, none, .ext (.t 6) 0⟩,
 ⟨some 9, none, .ext (.t 6) 1⟩,
 ⟨some 1, none, .mv (.t 8)⟩,
 ⟨some 2, none, .mv (.t 9)⟩]))
 (.seq (.seq (.reg [⟨some 10, none, .mv (.t 2)⟩,
 ⟨some 11, none, .bin .neq 36 (.t 10) (.c (.ic0))⟩])
 (.cond (.t 11)
 (.seq (.reg [⟨some 0, none, .mv (.c (.b false))⟩])
 .ret)
 .skip))
 (.seq (.cut [1] (.reg [⟨some 13, none, .mv (.t 1)⟩,
 ⟨some 14, none, .call (.c (.fn (.func 14) [] [])) [.t 13]⟩,
 ⟨some 12, none, .mv (.t 14)⟩,
 ⟨some 15, none, .ext (.t 12) 0⟩,
 ⟨some 16, none, .ext (.t 12) 1⟩,
 ⟨some 3, none, .mv (.t 15)⟩,
 ⟨some 4, none, .mv (.t 16)⟩]))
 (.seq (.reg [⟨some 17, none, .call (.c (.fn (.func 21) [] [])) [.c (.s [49, 43, 50, 42, 51])]⟩,
 ⟨some 5, none, .mv (.t 17)⟩])
 (.seq (.cut [3, 4, 5] (.reg [⟨some 18, none, .mv (.t 4)⟩,
 ⟨some 19, none, .bin .eql 23 (.t 18) (.c (.i .i64 0))⟩,
 ⟨some 20, none, .mv (.t 19)⟩,
 ⟨some 21, some (20, true), .mv (.t 3)⟩,
 ⟨some 22, some (20, true), .bin .eql 9 (.t 21) (.c (.s [102, 117, 110, 99, 32, 109, 97, 105, 110, 40, 41, 32, 123, 10, 9, 120, 32, 61, 32, 49, 32, 43, 32, 50, 32, 42, 32, 51, 59, 10, 125, 10]))⟩,
 ⟨some 23, none, .pick (.t 20) (.t 22) (.c (.b false))⟩,
 ⟨some 24, none, .mv (.t 23)⟩,
 ⟨some 25, some (24, true), .mv (.t 5)⟩,
 ⟨some 26, some (24, true), .bin .neq 52 (.t 25) (.c (.p0))⟩,
 ⟨some 27, none, .pick (.t 24) (.t 26) (.c (.b false))⟩,
 ⟨some 28, none, .mv (.t 27)⟩,
 ⟨some 29, some (28, true), .mv (.t 5)⟩,
 ⟨some 30, some (28, true), .nilck (.t 29)⟩,
 ⟨some 31, some (28, true), .fad 56 (.t 30) 3⟩,
 ⟨some 32, some (28, true), .load 9 (.t 31)⟩,
 ⟨some 33, some (28, true), .bin .eql 9 (.t 32) (.c (.s [43]))⟩,
 ⟨some 34, none, .pick (.t 28) (.t 33) (.c (.b false))⟩,
 ⟨some 35, none, .mv (.t 34)⟩,
 ⟨some 36, some (35, true), .mv (.t 5)⟩,
 ⟨some 37, some (35, true), .nilck (.t 36)⟩,
 ⟨some 38, some (35, true), .fad 56 (.t 37) 4⟩,
 ⟨some 39, some (35, true), .load 52 (.t 38)⟩,
 ⟨some 40, some (35, true), .bin .neq 52 (.t 39) (.c (.p0))⟩,
 ⟨some 41, none, .pick (.t 35) (.t 40) (.c (.b false))⟩,
 ⟨some 42, none, .mv (.t 41)⟩,
 ⟨some 43, some (42, true), .mv (.t 5)⟩,
 ⟨some 44, some (42, true), .nilck (.t 43)⟩,
 ⟨some 45, some (42, true), .fad 56 (.t 44) 4⟩,
 ⟨some 46, some (42, true), .load 52 (.t 45)⟩,
 ⟨some 47, some (42, true), .nilck (.t 46)⟩,
 ⟨some 48, some (42, true), .fad 56 (.t 47) 1⟩,
 ⟨some 49, some (42, true), .load 47 (.t 48)⟩,
 ⟨some 50, some (42, true), .bin .eql 47 (.t 49) (.c (.i .u32 1))⟩,
 ⟨some 51, none, .pick (.t 42) (.t 50) (.c (.b false))⟩,
 ⟨some 52, none, .mv (.t 51)⟩,
 ⟨some 53, some (52, true), .mv (.t 5)⟩,
 ⟨some 54, some (52, true), .nilck (.t 53)⟩,
 ⟨some 55, some (52, true), .fad 56 (.t 54) 5⟩,
 ⟨some 56, some (52, true), .load 52 (.t 55)⟩,
 ⟨some 57, some (52, true), .bin .neq 52 (.t 56) (.c (.p0))⟩,
 ⟨some 58, none, .pick (.t 52) (.t 57) (.c (.b false))⟩,
 ⟨some 59, none, .mv (.t 58)⟩,
 ⟨some 60, some (59, true), .mv (.t 5)⟩,
 ⟨some 61, some (59, true), .nilck (.t 60)⟩,
 ⟨some 62, some (59, true), .fad 56 (.t 61) 5⟩,
 ⟨some 63, some (59, true), .load 52 (.t 62)⟩,
 ⟨some 64, some (59, true), .nilck (.t 63)⟩,
 ⟨some 65, some (59, true), .fad 56 (.t 64) 3⟩,
 ⟨some 66, some (59, true), .load 9 (.t 65)⟩,
 ⟨some 67, some (59, true), .bin .eql 9 (.t 66) (.c (.s [42]))⟩,
 ⟨some 68, none, .pick (.t 59) (.t 67) (.c (.b false))⟩,
 ⟨some 69, none, .mv (.t 68)⟩,
 ⟨some 70, some (69, true), .call (.c (.fn (.func 22) [] [])) [.c (.s [40, 49, 43, 50, 41, 42, 51])]⟩,
 ⟨some 71, some (69, true), .bin .eql 9 (.t 70) (.c (.s [40, 49, 32, 43, 32, 50, 41, 32, 42, 32, 51]))⟩,
 ⟨some 72, none, .pick (.t 69) (.t 71) (.c (.b false))⟩,
 ⟨some 0, none, .mv (.t 72)⟩]))
 (.cut [1000000, 0] .ret)))))))
def F12 : AF := ⟨73, [.t 0], c12⟩
/-- fallow/parse.Print -/
def c14L0 : AC := (.seq (.reg [⟨some 19, none, .bin .lss 3 (.t 18) (.t 17)⟩])
 (.seq (.cond (.t 19)
 .skip
 (.exit 0))
 (.seq (.blk 1
 (.seq (.cut [0, 4, 16, 17, 18] (.reg [⟨some 20, none, .iad 65 (.t 16) (.t 18)⟩,
 ⟨some 21, none, .load 72 (.t 20)⟩,
 ⟨some 6, none, .mv (.t 21)⟩]))
 (.cut [0, 4, 6, 16, 17, 18] (.reg [⟨some 22, none, .mv (.t 4)⟩,
 ⟨some 23, none, .mv (.t 6)⟩,
 ⟨some 24, none, .call (.c (.fn (.func 29) [] [])) [.t 22, .t 23]⟩]))))
 (.reg [⟨some 25, none, .bin .add 3 (.t 18) (.c (.i .i64 1))⟩,
 ⟨some 18, none, .mv (.t 25)⟩]))))
def c14 : AC := (.seq (.reg [⟨some 2, none, .mv (.c (.s []))⟩,
 ⟨some 3, none, .mv (.c (.i .i64 0))⟩])
 (.seq (.seq (.reg [⟨some 9, none, .mv (.t 0)⟩,
 ⟨some 10, none, .bin .eql 22 (.t 9) (.c (.p0))⟩])
 (.cond (.t 10)
 (.seq (.reg [⟨some 2, none, .mv (.c (.s []))⟩,
 ⟨some 3, none, .mv (.c (.i .i64 1))⟩])
 .ret)
 .skip))
 (.seq (.cut [0] (.reg [⟨some 11, none, .build 92 []⟩,
 ⟨some 12, none, .box 92 (.t 11)⟩,
 ⟨some 4, none, .mv (.t 12)⟩]))
 (.seq (.seq (.cut [0, 4] (.reg [⟨some 13, none, .mv (.t 0)⟩,
 ⟨some 14, none, .nilck (.t 13)⟩,
 ⟨some 15, none, .fad 67 (.t 14) 0⟩,
 ⟨some 16, none, .load 65 (.t 15)⟩,
 ⟨some 17, none, .len 65 (.t 16)⟩,
 ⟨some 18, none, .mv (.c (.i .i64 0))⟩]))
 (.blk 0
 (.loop [0, 4, 16, 17, 18] c14L0)))
 (.seq (.seq (.cut [0, 4] (.reg [⟨some 26, none, .mv (.t 4)⟩,
 ⟨some 27, none, .nilck (.t 26)⟩,
 ⟨some 28, none, .fad 92 (.t 27) 0⟩,
 ⟨some 29, none, .call (.c (.fn (.func 30) [] [])) [.t 28]⟩,
 ⟨some 30, none, .bin .gtr 3 (.t 29) (.c (.i .i64 32768))⟩]))
 (.cond (.t 30)
 (.seq (.reg [⟨some 2, none, .mv (.c (.s []))⟩,
 ⟨some 3, none, .mv (.c (.i .i64 3))⟩])
 .ret)
 .skip))
 (.seq (.cut [0, 4] (.reg [⟨some 32, none, .mv (.t 4)⟩,
 ⟨some 33, none, .nilck (.t 32)⟩,
 ⟨some 34, none, .fad 92 (.t 33) 0⟩,
 ⟨some 35, none, .call (.c (.fn (.func 31) [] [])) [.t 34]⟩,
 ⟨some 36, none, .call (.c (.fn (.func 17) [] [])) [.t 35]⟩,
 ⟨some 31, none, .mv (.t 36)⟩,
 ⟨some 37, none, .ext (.t 31) 0⟩,
 ⟨some 38, none, .ext (.t 31) 1⟩,
 ⟨some 7, none, .mv (.t 37)⟩,
 ⟨some 8, none, .mv (.t 38)⟩]))
 (.cut [1000000, 0, 4, 7, 8] (.seq (.seq (.cut [0, 4, 7, 8] (.reg [⟨some 39, none, .mv (.t 4)⟩,
 ⟨some 40, none, .nilck (.t 39)⟩,
 ⟨some 41, none, .fad 92 (.t 40) 2⟩,
 ⟨some 42, none, .load 4 (.t 41)⟩,
 ⟨some 43, none, .mv (.t 42)⟩,
 ⟨some 44, some (43, false), .mv (.t 8)⟩,
 ⟨some 45, some (43, false), .bin .neq 36 (.t 44) (.c (.ic0))⟩,
 ⟨some 46, none, .pick (.t 43) (.c (.b true)) (.t 45)⟩,
 ⟨some 47, none, .mv (.t 46)⟩,
 ⟨some 48, some (47, false), .mv (.t 0)⟩,
 ⟨some 49, some (47, false), .mv (.t 7)⟩,
 ⟨some 50, some (47, false), .call (.c (.fn (.func 15) [] [])) [.t 48, .t 49]⟩,
 ⟨some 51, some (47, false), .un .not (.t 50)⟩,
 ⟨some 52, none, .pick (.t 47) (.c (.b true)) (.t 51)⟩]))
 (.cond (.t 52)
 (.seq (.reg [⟨some 2, none, .mv (.c (.s []))⟩,
 ⟨some 3, none, .mv (.c (.i .i64 2))⟩])
 .ret)
 .skip))
 (.seq (.cut [4] (.reg [⟨some 53, none, .mv (.t 4)⟩,
 ⟨some 54, none, .nilck (.t 53)⟩,
 ⟨some 55, none, .fad 92 (.t 54) 0⟩,
 ⟨some 56, none, .call (.c (.fn (.func 31) [] [])) [.t 55]⟩,
 ⟨some 2, none, .mv (.t 56)⟩,
 ⟨some 3, none, .mv (.c (.i .i64 0))⟩]))
 .ret)))))))))
def F14 : AF := ⟨57, [.t 2, .t 3], c14⟩
/-- fallow/parse.Same -/
def c15 : AC := (.seq (.reg [⟨some 4, none, .mv (.c (.b false))⟩])
 (.seq (.cut [0, 1] (.reg [⟨some 5, none, .mv (.t 0)⟩,
 ⟨some 6, none, .mv (.t 1)⟩,
 ⟨some 7, none, .call (.c (.fn (.func 32) [] [])) [.t 5, .t 6, .c (.fn (.func 33) [] [])]⟩,
 ⟨some 4, none, .mv (.t 7)⟩]))
 .ret))
def F15 : AF := ⟨8, [.t 4], c15⟩
/-- fallow/parse.Parse -/
def c17L0 : AC := (.seq (.seq (.cut [6, 7] (.reg [⟨some 21, none, .mv (.t 6)⟩,
 ⟨some 22, none, .call (.c (.fn (.func 37) [] [])) [.t 21]⟩,
 ⟨some 23, none, .un .not (.t 22)⟩,
 ⟨some 24, none, .mv (.t 23)⟩,
 ⟨some 25, some (24, true), .mv (.t 6)⟩,
 ⟨some 26, some (24, true), .call (.c (.fn (.func 38) [] [])) [.t 25]⟩,
 ⟨some 27, some (24, true), .fld 44 (.t 26) 0⟩,
 ⟨some 28, some (24, true), .bin .neq 3 (.t 27) (.c (.i .i64 5))⟩,
 ⟨some 29, none, .pick (.t 24) (.t 28) (.c (.b false))⟩]))
 (.cond (.t 29)
 .skip
 (.exit 0)))
 (.blk 1
 (.cut [6, 7] (.drw [(⟨some 30, none, .mv (.t 7)⟩, []),
 (⟨some 31, none, .mv (.t 7)⟩, []),
 (⟨some 32, none, .nilck (.t 31)⟩, []),
 (⟨some 33, none, .fad 67 (.t 32) 0⟩, []),
 (⟨some 34, none, .load 65 (.t 33)⟩, []),
 (⟨some 35, none, .mv (.t 6)⟩, []),
 (⟨some 36, none, .call (.c (.fn (.func 39) [] [])) [.t 35]⟩, [⟨some 34, none, .load 65 (.t 33)⟩]),
 (⟨some 37, none, .bsl 65 1 [(0, .t 36)]⟩, [⟨some 34, none, .load 65 (.t 33)⟩]),
 (⟨some 38, none, .app 65 false (.t 34) (.t 37)⟩, []),
 (⟨some 39, none, .nilck (.t 30)⟩, []),
 (⟨some 40, none, .fad 67 (.t 39) 0⟩, []),
 (⟨none, none, .store 65 (.t 40) (.t 38)⟩, [])]))))
def c17 : AC := (.seq (.reg [⟨some 2, none, .mv (.c (.p0))⟩,
 ⟨some 3, none, .mv (.c (.ic0))⟩])
 (.seq (.cut [0] (.reg [⟨some 9, none, .mv (.t 0)⟩,
 ⟨some 10, none, .call (.c (.fn (.func 18) [] [])) [.t 9]⟩,
 ⟨some 8, none, .mv (.t 10)⟩,
 ⟨some 11, none, .ext (.t 8) 0⟩,
 ⟨some 12, none, .ext (.t 8) 1⟩,
 ⟨some 4, none, .mv (.t 11)⟩,
 ⟨some 5, none, .mv (.t 12)⟩]))
 (.seq (.seq (.reg [⟨some 13, none, .mv (.t 5)⟩,
 ⟨some 14, none, .bin .neq 36 (.t 13) (.c (.ic0))⟩])
 (.cond (.t 14)
 (.seq (.cut [5] (.reg [⟨some 15, none, .mv (.t 5)⟩,
 ⟨some 2, none, .mv (.c (.p0))⟩,
 ⟨some 3, none, .mv (.t 15)⟩]))
 .ret)
 .skip))
 (.seq (.cut [4] (.reg [⟨some 16, none, .mv (.t 4)⟩,
 ⟨some 17, none, .build 103 [(0, .t 16)]⟩,
 ⟨some 18, none, .box 103 (.t 17)⟩,
 ⟨some 6, none, .mv (.t 18)⟩]))
 (.seq (.cut [6] (.reg [⟨some 19, none, .build 67 []⟩,
 ⟨some 20, none, .box 67 (.t 19)⟩,
 ⟨some 7, none, .mv (.t 20)⟩]))
 (.seq (.blk 0
 (.loop [6, 7] c17L0))
 (.seq (.seq (.reg [⟨some 41, none, .mv (.t 6)⟩,
 ⟨some 42, none, .call (.c (.fn (.func 37) [] [])) [.t 41]⟩])
 (.cond (.t 42)
 (.seq (.cut [6] (.drw [(⟨some 43, none, .mv (.t 6)⟩, []),
 (⟨some 44, none, .nilck (.t 43)⟩, []),
 (⟨some 45, none, .fad 103 (.t 44) 2⟩, []),
 (⟨some 46, none, .load 101 (.t 45)⟩, []),
 (⟨some 47, none, .mki 101 (.t 46)⟩, []),
 (⟨some 2, none, .mv (.c (.p0))⟩, []),
 (⟨some 3, none, .mv (.t 47)⟩, [])]))
 .ret)
 .skip))
 (.seq (.cut [7] (.reg [⟨some 48, none, .mv (.t 7)⟩,
 ⟨some 2, none, .mv (.t 48)⟩,
 ⟨some 3, none, .mv (.c (.ic0))⟩]))
 .ret))))))))
def F17 : AF := ⟨49, [.t 2, .t 3], c17⟩
/-- fallow/lex.Tokens -/
def c18L0 : AC := (.seq (.seq (.cut [1, 4, 5, 6, 7] (.reg [⟨some 20, none, .load 9 (.t 1)⟩,
 ⟨some 21, none, .len 9 (.t 20)⟩,
 ⟨some 22, none, .bin .gtr 3 (.t 21) (.c (.i .i64 0))⟩]))
 (.cond (.t 22)
 .skip
 (.exit 0)))
 (.blk 1
 (.seq (.seq (.reg [⟨some 23, none, .load 9 (.t 1)⟩,
 ⟨some 24, none, .call (.c (.fn (.func 41) [] [])) [.t 23, .c (.s [47, 47])]⟩])
 (.cond (.t 24)
 (.seq (.cut [1, 4, 5, 6, 7] (.reg [⟨some 25, none, .load 9 (.t 1)⟩,
 ⟨some 26, none, .call (.c (.fn (.func 42) [] [])) [.t 25, .c (.i .u8 10)]⟩,
 ⟨some 8, none, .mv (.t 26)⟩]))
 (.seq (.seq (.reg [⟨some 27, none, .mv (.t 8)⟩,
 ⟨some 28, none, .bin .lss 3 (.t 27) (.c (.i .i64 0))⟩])
 (.cond (.t 28)
 (.cut [1, 4, 5, 6, 7] (.reg [⟨some 29, none, .load 9 (.t 1)⟩,
 ⟨some 30, none, .len 9 (.t 29)⟩,
 ⟨some 8, none, .mv (.t 30)⟩]))
 .skip))
 (.cut [1000000, 1, 4, 5, 6, 7, 8] (.seq (.cut [1, 4, 5, 6, 7, 8] (.reg [⟨some 31, none, .load 9 (.t 1)⟩,
 ⟨some 32, none, .mv (.t 8)⟩,
 ⟨some 33, none, .slc 9 (.t 31) (some (.t 32)) none⟩,
 ⟨none, none, .store 9 (.t 1) (.t 33)⟩]))
 (.exit 1)))))
 .skip))
 (.seq (.cut [1, 4, 5, 6, 7] (.reg [⟨some 34, none, .load 9 (.t 1)⟩,
 ⟨some 35, none, .idx 9 (.t 34) (.c (.i .i64 0))⟩,
 ⟨some 36, none, .conv 5 21 (.t 35)⟩,
 ⟨some 37, none, .call (.c (.fn (.func 43) [] [])) [.t 36]⟩]))
 (.blk 2
 (.seq (.reg [⟨some 39, none, .bin .eql 106 (.t 37) (.c (.i .i64 1))⟩,
 ⟨some 38, none, .mv (.t 39)⟩])
 (.cond (.t 38)
 (.seq (.seq (.cut [1, 4, 5, 6, 7] (.reg [⟨some 40, none, .load 9 (.t 1)⟩,
 ⟨some 41, none, .idx 9 (.t 40) (.c (.i .i64 0))⟩,
 ⟨some 42, none, .bin .eql 5 (.t 41) (.c (.i .u8 10))⟩]))
 (.cond (.t 42)
 (.cut [1, 4, 5, 6, 7] (.reg [⟨some 43, none, .load 3 (.t 5)⟩,
 ⟨some 44, none, .bin .add 3 (.t 43) (.c (.i .i64 1))⟩,
 ⟨none, none, .store 3 (.t 5) (.t 44)⟩]))
 .skip))
 (.cut [1000000, 1, 4, 5, 6, 7] (.cut [1, 4, 5, 6, 7] (.reg [⟨some 45, none, .load 9 (.t 1)⟩,
 ⟨some 46, none, .slc 9 (.t 45) (some (.c (.i .i64 1))) none⟩,
 ⟨none, none, .store 9 (.t 1) (.t 46)⟩]))))
 (.seq (.reg [⟨some 48, none, .bin .eql 106 (.t 37) (.c (.i .i64 2))⟩,
 ⟨some 47, none, .mv (.t 48)⟩])
 (.cond (.t 47)
 (.seq (.cut [1, 4, 5, 6, 7] (.reg [⟨some 49, none, .load 9 (.t 1)⟩,
 ⟨some 50, none, .bsl 137 2 [(0, .c (.i .i64 2)), (1, .c (.i .i64 3))]⟩,
 ⟨some 51, none, .call (.c (.fn (.func 44) [] [])) [.t 49, .t 50]⟩,
 ⟨some 9, none, .mv (.t 51)⟩]))
 (.blk 3
 (.seq (.cut [1, 4, 5, 6, 7, 9] (.reg [⟨some 56, none, .mv (.t 9)⟩,
 ⟨some 57, none, .bin .gtr 3 (.t 56) (.c (.i .i64 32))⟩,
 ⟨some 55, none, .mv (.t 57)⟩]))
 (.cond (.t 55)
 (.seq (.reg [⟨some 7, none, .mv (.c (.i .i64 9))⟩])
 (.exit 0))
 (.seq (.cut [1, 4, 5, 6, 7, 9] (.drw [(⟨some 60, none, .load 9 (.t 1)⟩, []),
 (⟨some 61, none, .mv (.t 9)⟩, []),
 (⟨some 62, none, .slc 9 (.t 60) none (some (.t 61))⟩, []),
 (⟨some 59, none, .call (.c (.fn (.func 46) [] [])) []⟩, [⟨some 60, none, .load 9 (.t 1)⟩, ⟨some 62, none, .slc 9 (.t 60) none (some (.t 61))⟩]),
 (⟨some 63, none, .call (.c (.fn (.func 45) [] [])) [.t 59, .t 62]⟩, []),
 (⟨some 58, none, .mv (.t 63)⟩, [])]))
 (.cond (.t 58)
 (.cut [1, 4, 5, 6, 7, 9] (.reg [⟨some 64, none, .mv (.t 6)⟩,
 ⟨some 65, none, .mv (.t 9)⟩,
 ⟨some 66, none, .call (.t 64) [.c (.i .i64 4), .t 65]⟩]))
 (.cut [1, 4, 5, 6, 7, 9] (.reg [⟨some 52, none, .mv (.t 6)⟩,
 ⟨some 53, none, .mv (.t 9)⟩,
 ⟨some 54, none, .call (.t 52) [.c (.i .i64 1), .t 53]⟩]))))))))
 (.seq (.reg [⟨some 68, none, .bin .eql 106 (.t 37) (.c (.i .i64 3))⟩,
 ⟨some 67, none, .mv (.t 68)⟩])
 (.cond (.t 67)
 (.seq (.cut [1, 4, 5, 6, 7] (.reg [⟨some 69, none, .load 9 (.t 1)⟩,
 ⟨some 70, none, .bsl 137 1 [(0, .c (.i .i64 3))]⟩,
 ⟨some 71, none, .call (.c (.fn (.func 44) [] [])) [.t 69, .t 70]⟩,
 ⟨some 10, none, .mv (.t 71)⟩]))
 (.seq (.seq (.cut [1, 4, 5, 6, 7, 10] (.reg [⟨some 72, none, .load 9 (.t 1)⟩,
 ⟨some 73, none, .idx 9 (.t 72) (.c (.i .i64 0))⟩,
 ⟨some 74, none, .bin .eql 5 (.t 73) (.c (.i .u8 48))⟩,
 ⟨some 75, none, .mv (.t 74)⟩,
 ⟨some 76, some (75, true), .mv (.t 10)⟩,
 ⟨some 77, some (75, true), .bin .gtr 3 (.t 76) (.c (.i .i64 1))⟩,
 ⟨some 78, none, .pick (.t 75) (.t 77) (.c (.b false))⟩,
 ⟨some 79, none, .mv (.t 78)⟩,
 ⟨some 80, some (79, false), .load 9 (.t 1)⟩,
 ⟨some 81, some (79, false), .mv (.t 10)⟩,
 ⟨some 82, some (79, false), .slc 9 (.t 80) (some (.t 81)) none⟩,
 ⟨some 83, some (79, false), .bsl 137 1 [(0, .c (.i .i64 2))]⟩,
 ⟨some 84, some (79, false), .call (.c (.fn (.func 44) [] [])) [.t 82, .t 83]⟩,
 ⟨some 85, some (79, false), .bin .gtr 3 (.t 84) (.c (.i .i64 0))⟩,
 ⟨some 86, none, .pick (.t 79) (.c (.b true)) (.t 85)⟩]))
 (.cut [1000000, 1, 4, 5, 6, 7, 10, 86] (.cond (.t 86)
 (.seq (.reg [⟨some 7, none, .mv (.c (.i .i64 9))⟩])
 (.exit 0))
 .skip)))
 (.seq (.seq (.cut [1, 4, 5, 6, 7, 10] (.reg [⟨some 88, none, .load 9 (.t 1)⟩,
 ⟨some 89, none, .mv (.t 10)⟩,
 ⟨some 90, none, .slc 9 (.t 88) none (some (.t 89))⟩,
 ⟨some 91, none, .call (.c (.fn (.func 47) [] [])) [.t 90, .c (.i .i64 10), .c (.i .i64 32)]⟩,
 ⟨some 87, none, .mv (.t 91)⟩,
 ⟨some 92, none, .ext (.t 87) 0⟩,
 ⟨some 93, none, .ext (.t 87) 1⟩,
 ⟨some 11, none, .mv (.t 92)⟩,
 ⟨some 12, none, .mv (.t 93)⟩]))
 (.seq (.reg [⟨some 94, none, .mv (.t 12)⟩,
 ⟨some 95, none, .bin .neq 36 (.t 94) (.c (.ic0))⟩])
 (.cond (.t 95)
 (.seq (.reg [⟨some 7, none, .mv (.c (.i .i64 3))⟩])
 (.exit 0))
 .skip)))
 (.cut [1, 4, 5, 6, 7, 10] (.reg [⟨some 96, none, .mv (.t 6)⟩,
 ⟨some 97, none, .mv (.t 10)⟩,
 ⟨some 98, none, .call (.t 96) [.c (.i .i64 2), .t 97]⟩])))))
 (.seq (.reg [⟨some 100, none, .bin .eql 106 (.t 37) (.c (.i .i64 4))⟩,
 ⟨some 99, none, .mv (.t 100)⟩])
 (.cond (.t 99)
 (.seq (.reg [⟨some 101, none, .load 9 (.t 1)⟩,
 ⟨some 102, none, .call (.c (.fn (.func 48) [] [])) [.t 101]⟩])
 (.cond (.t 102)
 (.reg [⟨some 103, none, .mv (.t 6)⟩,
 ⟨some 104, none, .call (.t 103) [.c (.i .i64 3), .c (.i .i64 2)]⟩])
 (.reg [⟨some 105, none, .mv (.t 6)⟩,
 ⟨some 106, none, .call (.t 105) [.c (.i .i64 3), .c (.i .i64 1)]⟩])))
 (.seq (.reg [⟨some 7, none, .mv (.c (.i .i64 9))⟩])
 (.exit 0)))))))))))))))
def c18 : AC := (.seq (.cut [0] (.reg [⟨some 1, none, .box 9 (.t 0)⟩,
 ⟨some 2, none, .mv (.c (.sl0))⟩,
 ⟨some 3, none, .mv (.c (.ic0))⟩]))
 (.seq (.seq (.cut [1] (.reg [⟨some 13, none, .load 9 (.t 1)⟩,
 ⟨some 14, none, .len 9 (.t 13)⟩,
 ⟨some 15, none, .bin .gtr 3 (.t 14) (.c (.i .i64 32768))⟩]))
 (.cond (.t 15)
 (.seq (.cut [] (.reg [⟨some 16, none, .build 25 [(0, .c (.i .i64 3))]⟩,
 ⟨some 17, none, .box 25 (.t 16)⟩,
 ⟨some 18, none, .mki 101 (.t 17)⟩,
 ⟨some 2, none, .mv (.c (.sl0))⟩,
 ⟨some 3, none, .mv (.t 18)⟩]))
 .ret)
 .skip))
 (.seq (.reg [⟨some 4, none, .alloc 40⟩])
 (.seq (.reg [⟨some 5, none, .alloc 3⟩,
 ⟨none, none, .store 3 (.t 5) (.c (.i .i64 0))⟩])
 (.seq (.reg [⟨some 19, none, .mkf (.func 40) [] [.t 4, .t 1, .t 5]⟩,
 ⟨some 6, none, .mv (.t 19)⟩])
 (.seq (.reg [⟨some 7, none, .mv (.c (.i .i64 0))⟩])
 (.seq .skip
 (.seq (.blk 0
 (.loop [1, 4, 5, 6, 7] c18L0))
 (.cut [1000000, 4, 5, 7] (.seq (.seq (.reg [⟨some 107, none, .mv (.t 7)⟩,
 ⟨some 108, none, .bin .neq 23 (.t 107) (.c (.i .i64 0))⟩])
 (.cond (.t 108)
 (.seq (.cut [5, 7] (.drw [(⟨some 109, none, .mv (.t 7)⟩, []),
 (⟨some 110, none, .load 3 (.t 5)⟩, []),
 (⟨some 111, none, .build 25 [(0, .t 109), (1, .t 110)]⟩, []),
 (⟨some 2, none, .mv (.c (.sl0))⟩, []),
 (⟨some 112, none, .box 25 (.t 111)⟩, []),
 (⟨some 113, none, .mki 101 (.t 112)⟩, []),
 (⟨some 3, none, .mv (.t 113)⟩, [])]))
 .ret)
 .skip))
 (.seq (.cut [4, 5] (.reg [⟨some 114, none, .load 40 (.t 4)⟩,
 ⟨some 115, none, .load 3 (.t 5)⟩,
 ⟨some 116, none, .build 44 [(0, .c (.i .i64 5)), (2, .t 115)]⟩,
 ⟨some 117, none, .bsl 40 1 [(0, .t 116)]⟩,
 ⟨some 118, none, .app 40 false (.t 114) (.t 117)⟩,
 ⟨some 2, none, .mv (.t 118)⟩,
 ⟨some 3, none, .mv (.c (.ic0))⟩]))
 .ret)))))))))))
def F18 : AF := ⟨119, [.t 2, .t 3], c18⟩
/-- fallow/fallowlaw24.value -/
def c21 : AC := (.seq (.reg [⟨some 2, none, .mv (.c (.p0))⟩])
 (.seq (.cut [0] (.reg [⟨some 6, none, .mv (.t 0)⟩,
 ⟨some 7, none, .bin .add 9 (.c (.s [102, 117, 110, 99, 32, 102, 40, 41, 32, 123, 10, 114, 101, 116, 117, 114, 110, 32])) (.t 6)⟩,
 ⟨some 8, none, .bin .add 9 (.t 7) (.c (.s [59, 10, 125]))⟩,
 ⟨some 9, none, .call (.c (.fn (.func 17) [] [])) [.t 8]⟩,
 ⟨some 5, none, .mv (.t 9)⟩,
 ⟨some 10, none, .ext (.t 5) 0⟩,
 ⟨some 11, none, .ext (.t 5) 1⟩,
 ⟨some 3, none, .mv (.t 10)⟩,
 ⟨some 4, none, .mv (.t 11)⟩]))
 (.seq (.seq (.cut [3, 4] (.reg [⟨some 12, none, .mv (.t 4)⟩,
 ⟨some 13, none, .bin .neq 36 (.t 12) (.c (.ic0))⟩,
 ⟨some 14, none, .mv (.t 13)⟩,
 ⟨some 15, some (14, false), .mv (.t 3)⟩,
 ⟨some 16, some (14, false), .bin .eql 22 (.t 15) (.c (.p0))⟩,
 ⟨some 17, none, .pick (.t 14) (.c (.b true)) (.t 16)⟩,
 ⟨some 18, none, .mv (.t 17)⟩,
 ⟨some 19, some (18, false), .mv (.t 3)⟩,
 ⟨some 20, some (18, false), .nilck (.t 19)⟩,
 ⟨some 21, some (18, false), .fad 67 (.t 20) 0⟩,
 ⟨some 22, some (18, false), .load 65 (.t 21)⟩,
 ⟨some 23, some (18, false), .len 65 (.t 22)⟩,
 ⟨some 24, some (18, false), .bin .neq 3 (.t 23) (.c (.i .i64 1))⟩,
 ⟨some 25, none, .pick (.t 18) (.c (.b true)) (.t 24)⟩,
 ⟨some 26, none, .mv (.t 25)⟩,
 ⟨some 27, some (26, false), .mv (.t 3)⟩,
 ⟨some 28, some (26, false), .nilck (.t 27)⟩,
 ⟨some 29, some (26, false), .fad 67 (.t 28) 0⟩,
 ⟨some 30, some (26, false), .load 65 (.t 29)⟩,
 ⟨some 31, some (26, false), .iad 65 (.t 30) (.c (.i .i64 0))⟩,
 ⟨some 32, some (26, false), .load 72 (.t 31)⟩,
 ⟨some 33, some (26, false), .nilck (.t 32)⟩,
 ⟨some 34, some (26, false), .fad 71 (.t 33) 3⟩,
 ⟨some 35, some (26, false), .load 69 (.t 34)⟩,
 ⟨some 36, some (26, false), .len 69 (.t 35)⟩,
 ⟨some 37, some (26, false), .bin .neq 3 (.t 36) (.c (.i .i64 1))⟩,
 ⟨some 38, none, .pick (.t 26) (.c (.b true)) (.t 37)⟩,
 ⟨some 39, none, .mv (.t 38)⟩,
 ⟨some 40, some (39, false), .mv (.t 3)⟩,
 ⟨some 41, some (39, false), .nilck (.t 40)⟩,
 ⟨some 42, some (39, false), .fad 67 (.t 41) 0⟩,
 ⟨some 43, some (39, false), .load 65 (.t 42)⟩,
 ⟨some 44, some (39, false), .iad 65 (.t 43) (.c (.i .i64 0))⟩,
 ⟨some 45, some (39, false), .load 72 (.t 44)⟩,
 ⟨some 46, some (39, false), .nilck (.t 45)⟩,
 ⟨some 47, some (39, false), .fad 71 (.t 46) 3⟩,
 ⟨some 48, some (39, false), .load 69 (.t 47)⟩,
 ⟨some 49, some (39, false), .iad 69 (.t 48) (.c (.i .i64 0))⟩,
 ⟨some 50, some (39, false), .load 73 (.t 49)⟩,
 ⟨some 51, some (39, false), .nilck (.t 50)⟩,
 ⟨some 52, some (39, false), .fad 75 (.t 51) 0⟩,
 ⟨some 53, some (39, false), .load 3 (.t 52)⟩,
 ⟨some 54, some (39, false), .bin .neq 3 (.t 53) (.c (.i .i64 9))⟩,
 ⟨some 55, none, .pick (.t 39) (.c (.b true)) (.t 54)⟩]))
 (.cut [1000000, 3, 55] (.cond (.t 55)
 (.seq (.reg [⟨some 2, none, .mv (.c (.p0))⟩])
 .ret)
 .skip)))
 (.seq (.cut [3] (.reg [⟨some 56, none, .mv (.t 3)⟩,
 ⟨some 57, none, .nilck (.t 56)⟩,
 ⟨some 58, none, .fad 67 (.t 57) 0⟩,
 ⟨some 59, none, .load 65 (.t 58)⟩,
 ⟨some 60, none, .iad 65 (.t 59) (.c (.i .i64 0))⟩,
 ⟨some 61, none, .load 72 (.t 60)⟩,
 ⟨some 62, none, .nilck (.t 61)⟩,
 ⟨some 63, none, .fad 71 (.t 62) 3⟩,
 ⟨some 64, none, .load 69 (.t 63)⟩,
 ⟨some 65, none, .iad 69 (.t 64) (.c (.i .i64 0))⟩,
 ⟨some 66, none, .load 73 (.t 65)⟩,
 ⟨some 67, none, .nilck (.t 66)⟩,
 ⟨some 68, none, .fad 75 (.t 67) 4⟩,
 ⟨some 69, none, .load 52 (.t 68)⟩,
 ⟨some 2, none, .mv (.t 69)⟩]))
 .ret))))
def F21 : AF := ⟨70, [.t 2], c21⟩
/-- fallow/fallowlaw24.printed -/
def c22 : AC := (.seq (.reg [⟨some 2, none, .mv (.c (.s []))⟩])
 (.seq (.cut [0] (.reg [⟨some 10, none, .mv (.t 0)⟩,
 ⟨some 11, none, .bin .add 9 (.c (.s [102, 117, 110, 99, 32, 102, 40, 41, 32, 123, 10, 114, 101, 116, 117, 114, 110, 32])) (.t 10)⟩,
 ⟨some 12, none, .bin .add 9 (.t 11) (.c (.s [59, 10, 125]))⟩,
 ⟨some 13, none, .call (.c (.fn (.func 17) [] [])) [.t 12]⟩,
 ⟨some 9, none, .mv (.t 13)⟩,
 ⟨some 14, none, .ext (.t 9) 0⟩,
 ⟨some 15, none, .ext (.t 9) 1⟩,
 ⟨some 3, none, .mv (.t 14)⟩,
 ⟨some 4, none, .mv (.t 15)⟩]))
 (.seq (.seq (.reg [⟨some 16, none, .mv (.t 4)⟩,
 ⟨some 17, none, .bin .neq 36 (.t 16) (.c (.ic0))⟩])
 (.cond (.t 17)
 (.seq (.reg [⟨some 2, none, .mv (.c (.s []))⟩])
 .ret)
 .skip))
 (.seq (.cut [3] (.reg [⟨some 19, none, .mv (.t 3)⟩,
 ⟨some 20, none, .call (.c (.fn (.func 14) [] [])) [.t 19]⟩,
 ⟨some 18, none, .mv (.t 20)⟩,
 ⟨some 21, none, .ext (.t 18) 0⟩,
 ⟨some 22, none, .ext (.t 18) 1⟩,
 ⟨some 5, none, .mv (.t 21)⟩,
 ⟨some 6, none, .mv (.t 22)⟩]))
 (.seq (.cut [5, 6] (.reg [⟨some 24, none, .mv (.t 5)⟩,
 ⟨some 25, none, .call (.c (.fn (.func 49) [] [])) [.t 24, .c (.s [102, 117, 110, 99, 32, 102, 40, 41, 32, 123, 10, 9, 114, 101, 116, 117, 114, 110, 32])]⟩,
 ⟨some 23, none, .mv (.t 25)⟩,
 ⟨some 26, none, .ext (.t 23) 0⟩,
 ⟨some 27, none, .ext (.t 23) 1⟩,
 ⟨some 5, none, .mv (.t 26)⟩,
 ⟨some 7, none, .mv (.t 27)⟩]))
 (.cut [1000000, 5, 6, 7] (.seq (.cut [5, 6, 7] (.reg [⟨some 29, none, .mv (.t 5)⟩,
 ⟨some 30, none, .call (.c (.fn (.func 50) [] [])) [.t 29, .c (.s [59, 10, 125, 10])]⟩,
 ⟨some 28, none, .mv (.t 30)⟩,
 ⟨some 31, none, .ext (.t 28) 0⟩,
 ⟨some 32, none, .ext (.t 28) 1⟩,
 ⟨some 5, none, .mv (.t 31)⟩,
 ⟨some 8, none, .mv (.t 32)⟩]))
 (.seq (.seq (.cut [5, 6, 7, 8] (.reg [⟨some 33, none, .mv (.t 6)⟩,
 ⟨some 34, none, .bin .neq 23 (.t 33) (.c (.i .i64 0))⟩,
 ⟨some 35, none, .mv (.t 34)⟩,
 ⟨some 36, some (35, false), .mv (.t 7)⟩,
 ⟨some 37, some (35, false), .un .not (.t 36)⟩,
 ⟨some 38, none, .pick (.t 35) (.c (.b true)) (.t 37)⟩,
 ⟨some 39, none, .mv (.t 38)⟩,
 ⟨some 40, some (39, false), .mv (.t 8)⟩,
 ⟨some 41, some (39, false), .un .not (.t 40)⟩,
 ⟨some 42, none, .pick (.t 39) (.c (.b true)) (.t 41)⟩]))
 (.cond (.t 42)
 (.seq (.reg [⟨some 2, none, .mv (.c (.s []))⟩])
 .ret)
 .skip))
 (.seq (.reg [⟨some 43, none, .mv (.t 5)⟩,
 ⟨some 2, none, .mv (.t 43)⟩])
 .ret)))))))))
def F22 : AF := ⟨44, [.t 2], c22⟩
/-- fallow/fallowlaw24.told -/
def c23 : AC := (.seq (.reg [⟨some 4, none, .box 25 (.t 1)⟩,
 ⟨some 6, none, .mv (.c (.b false))⟩])
 (.seq (.seq (.cut [0, 2, 4] (.reg [⟨some 8, none, .mv (.t 0)⟩,
 ⟨some 9, none, .bin .eql 36 (.t 8) (.c (.ic0))⟩,
 ⟨some 10, none, .mv (.t 9)⟩,
 ⟨some 11, some (10, false), .mv (.t 2)⟩,
 ⟨some 12, some (10, false), .un .not (.t 11)⟩,
 ⟨some 13, none, .pick (.t 10) (.c (.b true)) (.t 12)⟩]))
 (.cond (.t 13)
 (.seq (.cut [0, 2] (.reg [⟨some 14, none, .mv (.t 0)⟩,
 ⟨some 15, none, .bin .eql 36 (.t 14) (.c (.ic0))⟩,
 ⟨some 16, none, .mv (.t 15)⟩,
 ⟨some 17, some (16, true), .mv (.t 2)⟩,
 ⟨some 18, some (16, true), .un .not (.t 17)⟩,
 ⟨some 19, none, .pick (.t 16) (.t 18) (.c (.b false))⟩,
 ⟨some 6, none, .mv (.t 19)⟩]))
 .ret)
 .skip))
 (.seq (.reg [⟨some 7, none, .alloc 101⟩])
 (.seq (.cut [0, 4, 7] (.drw [(⟨some 20, none, .mv (.t 0)⟩, []),
 (⟨some 21, none, .mki 119 (.t 7)⟩, []),
 (⟨some 22, none, .call (.c (.fn (.func 51) [] [])) [.t 20, .t 21]⟩, []),
 (⟨some 23, none, .mv (.t 22)⟩, []),
 (⟨some 24, some (23, true), .load 101 (.t 7)⟩, []),
 (⟨some 25, some (23, true), .nilck (.t 24)⟩, []),
 (⟨some 26, some (23, true), .fad 25 (.t 25) 0⟩, []),
 (⟨some 27, some (23, true), .load 23 (.t 26)⟩, []),
 (⟨some 28, some (23, true), .fad 25 (.t 4) 0⟩, []),
 (⟨some 29, some (23, true), .load 23 (.t 28)⟩, []),
 (⟨some 30, some (23, true), .bin .eql 23 (.t 27) (.t 29)⟩, []),
 (⟨some 31, none, .pick (.t 23) (.t 30) (.c (.b false))⟩, []),
 (⟨some 32, none, .mv (.t 31)⟩, []),
 (⟨some 33, some (32, true), .load 101 (.t 7)⟩, []),
 (⟨some 34, some (32, true), .nilck (.t 33)⟩, []),
 (⟨some 35, some (32, true), .fad 25 (.t 34) 1⟩, []),
 (⟨some 36, some (32, true), .load 3 (.t 35)⟩, []),
 (⟨some 37, some (32, true), .fad 25 (.t 4) 1⟩, []),
 (⟨some 38, some (32, true), .load 3 (.t 37)⟩, []),
 (⟨some 39, some (32, true), .bin .eql 3 (.t 36) (.t 38)⟩, []),
 (⟨some 40, none, .pick (.t 32) (.t 39) (.c (.b false))⟩, []),
 (⟨some 41, none, .mv (.t 40)⟩, []),
 (⟨some 42, some (41, true), .mv (.t 0)⟩, []),
 (⟨some 43, some (41, true), .fad 25 (.t 4) 0⟩, []),
 (⟨some 44, some (41, true), .load 23 (.t 43)⟩, []),
 (⟨some 45, some (41, true), .mki 23 (.t 44)⟩, []),
 (⟨some 46, some (41, true), .call (.c (.fn (.func 52) [] [])) [.t 42, .t 45]⟩, []),
 (⟨some 47, none, .pick (.t 41) (.t 46) (.c (.b false))⟩, []),
 (⟨some 6, none, .mv (.t 47)⟩, [])]))
 (.cut [1000000, 6] .ret)))))
def F23 : AF := ⟨48, [.t 6], c23⟩
/-- (*fallow/parse.printer).function -/
def c29L0 : AC := (.seq (.reg [⟨some 24, none, .bin .lss 3 (.t 23) (.t 22)⟩])
 (.seq (.cond (.t 24)
 .skip
 (.exit 0))
 (.seq (.blk 1
 (.seq (.cut [0, 1, 21, 22, 23] (.reg [⟨some 25, none, .mv (.t 23)⟩,
 ⟨some 26, none, .iad 68 (.t 21) (.t 23)⟩,
 ⟨some 27, none, .load 85 (.t 26)⟩,
 ⟨some 5, none, .alloc 85⟩,
 ⟨some 4, none, .mv (.t 25)⟩,
 ⟨none, none, .store 85 (.t 5) (.t 27)⟩]))
 (.seq (.seq (.reg [⟨some 28, none, .mv (.t 4)⟩,
 ⟨some 29, none, .bin .gtr 3 (.t 28) (.c (.i .i64 0))⟩])
 (.cond (.t 29)
 (.cut [0, 1, 5, 21, 22, 23] (.reg [⟨some 30, none, .mv (.t 0)⟩,
 ⟨some 31, none, .bsl 63 1 [(0, .c (.s [44, 32]))]⟩,
 ⟨some 32, none, .call (.c (.fn (.func 64) [] [])) [.t 30, .t 31]⟩]))
 .skip))
 (.cut [1000000, 0, 1, 5, 21, 22, 23] (.seq (.cut [0, 1, 5, 21, 22, 23] (.reg [⟨some 33, none, .mv (.t 0)⟩,
 ⟨some 34, none, .fad 85 (.t 5) 0⟩,
 ⟨some 35, none, .load 9 (.t 34)⟩,
 ⟨some 36, none, .bsl 63 1 [(0, .t 35)]⟩,
 ⟨some 37, none, .call (.c (.fn (.func 64) [] [])) [.t 33, .t 36]⟩]))
 (.seq (.reg [⟨some 38, none, .fad 85 (.t 5) 1⟩,
 ⟨some 39, none, .load 4 (.t 38)⟩])
 (.cond (.t 39)
 (.cut [0, 1, 21, 22, 23] (.reg [⟨some 40, none, .mv (.t 0)⟩,
 ⟨some 41, none, .bsl 63 1 [(0, .c (.s [32, 112, 116, 114]))]⟩,
 ⟨some 42, none, .call (.c (.fn (.func 64) [] [])) [.t 40, .t 41]⟩]))
 .skip)))))))
 (.reg [⟨some 43, none, .bin .add 3 (.t 23) (.c (.i .i64 1))⟩,
 ⟨some 23, none, .mv (.t 43)⟩]))))
def c29 : AC := (.seq (.seq (.reg [⟨some 6, none, .mv (.t 1)⟩,
 ⟨some 7, none, .bin .eql 72 (.t 6) (.c (.p0))⟩])
 (.cond (.t 7)
 (.seq (.cut [0] (.reg [⟨some 8, none, .mv (.t 0)⟩,
 ⟨some 9, none, .nilck (.t 8)⟩,
 ⟨some 10, none, .fad 92 (.t 9) 2⟩,
 ⟨none, none, .store 4 (.t 10) (.c (.b true))⟩]))
 .ret)
 .skip))
 (.seq (.cut [0, 1] (.reg [⟨some 11, none, .mv (.t 0)⟩,
 ⟨some 12, none, .mv (.t 1)⟩,
 ⟨some 13, none, .nilck (.t 12)⟩,
 ⟨some 14, none, .fad 71 (.t 13) 0⟩,
 ⟨some 15, none, .load 9 (.t 14)⟩,
 ⟨some 16, none, .bsl 63 3 [(0, .c (.s [102, 117, 110, 99, 32])), (1, .t 15), (2, .c (.s [40]))]⟩,
 ⟨some 17, none, .call (.c (.fn (.func 64) [] [])) [.t 11, .t 16]⟩]))
 (.seq (.seq (.cut [0, 1] (.reg [⟨some 18, none, .mv (.t 1)⟩,
 ⟨some 19, none, .nilck (.t 18)⟩,
 ⟨some 20, none, .fad 71 (.t 19) 1⟩,
 ⟨some 21, none, .load 68 (.t 20)⟩,
 ⟨some 22, none, .len 68 (.t 21)⟩,
 ⟨some 23, none, .mv (.c (.i .i64 0))⟩]))
 (.blk 0
 (.loop [0, 1, 21, 22, 23] c29L0)))
 (.seq (.cut [0, 1] (.reg [⟨some 44, none, .mv (.t 0)⟩,
 ⟨some 45, none, .bsl 63 1 [(0, .c (.s [41]))]⟩,
 ⟨some 46, none, .call (.c (.fn (.func 64) [] [])) [.t 44, .t 45]⟩]))
 (.seq (.seq (.cut [0, 1] (.reg [⟨some 47, none, .mv (.t 1)⟩,
 ⟨some 48, none, .nilck (.t 47)⟩,
 ⟨some 49, none, .fad 71 (.t 48) 2⟩,
 ⟨some 50, none, .load 4 (.t 49)⟩]))
 (.cond (.t 50)
 (.cut [0, 1] (.reg [⟨some 51, none, .mv (.t 0)⟩,
 ⟨some 52, none, .bsl 63 1 [(0, .c (.s [32, 112, 116, 114]))]⟩,
 ⟨some 53, none, .call (.c (.fn (.func 64) [] [])) [.t 51, .t 52]⟩]))
 .skip))
 (.cut [1000000, 0, 1] (.seq (.cut [0, 1] (.reg [⟨some 54, none, .mv (.t 0)⟩,
 ⟨some 55, none, .mv (.t 1)⟩,
 ⟨some 56, none, .nilck (.t 55)⟩,
 ⟨some 57, none, .fad 71 (.t 56) 3⟩,
 ⟨some 58, none, .load 69 (.t 57)⟩,
 ⟨some 59, none, .call (.c (.fn (.func 65) [] [])) [.t 54, .t 58]⟩]))
 (.cut [0] (.reg [⟨some 60, none, .mv (.t 0)⟩,
 ⟨some 61, none, .bsl 63 1 [(0, .c (.s [10]))]⟩,
 ⟨some 62, none, .call (.c (.fn (.func 64) [] [])) [.t 60, .t 61]⟩])))))))))
def F29 : AF := ⟨63, [], c29⟩
/-- (*strings.Builder).Len -/
def c30 : AC := (.seq (.reg [⟨some 2, none, .mv (.c (.i .i64 0))⟩])
 (.seq (.cut [0] (.reg [⟨some 3, none, .mv (.t 0)⟩,
 ⟨some 4, none, .nilck (.t 3)⟩,
 ⟨some 5, none, .fad 90 (.t 4) 1⟩,
 ⟨some 6, none, .load 39 (.t 5)⟩,
 ⟨some 7, none, .len 39 (.t 6)⟩,
 ⟨some 2, none, .mv (.t 7)⟩]))
 .ret))
def F30 : AF := ⟨8, [.t 2], c30⟩
/-- fallow/parse.both[fallow/api.Prog] -/
def c32 : AC := (.seq (.reg [⟨some 6, none, .mv (.c (.b false))⟩])
 (.seq (.seq (.cut [0, 1, 2] (.reg [⟨some 7, none, .mv (.t 0)⟩,
 ⟨some 8, none, .bin .eql 22 (.t 7) (.c (.p0))⟩,
 ⟨some 9, none, .mv (.t 8)⟩,
 ⟨some 10, some (9, false), .mv (.t 1)⟩,
 ⟨some 11, some (9, false), .bin .eql 22 (.t 10) (.c (.p0))⟩,
 ⟨some 12, none, .pick (.t 9) (.c (.b true)) (.t 11)⟩]))
 (.cond (.t 12)
 (.seq (.cut [0, 1] (.reg [⟨some 13, none, .mv (.t 0)⟩,
 ⟨some 14, none, .bin .eql 22 (.t 13) (.c (.p0))⟩,
 ⟨some 15, none, .mv (.t 14)⟩,
 ⟨some 16, some (15, true), .mv (.t 1)⟩,
 ⟨some 17, some (15, true), .bin .eql 22 (.t 16) (.c (.p0))⟩,
 ⟨some 18, none, .pick (.t 15) (.t 17) (.c (.b false))⟩,
 ⟨some 6, none, .mv (.t 18)⟩]))
 .ret)
 .skip))
 (.seq (.cut [0, 1, 2] (.reg [⟨some 19, none, .mv (.t 2)⟩,
 ⟨some 20, none, .mv (.t 0)⟩,
 ⟨some 21, none, .mv (.t 1)⟩,
 ⟨some 22, none, .call (.t 19) [.t 20, .t 21]⟩,
 ⟨some 6, none, .mv (.t 22)⟩]))
 .ret)))
def F32 : AF := ⟨23, [.t 6], c32⟩
/-- fallow/parse.Same$1 -/
def c33 : AC := (.seq (.reg [⟨some 4, none, .mv (.c (.b false))⟩])
 (.seq (.cut [0, 1] (.drw [(⟨some 5, none, .mv (.t 0)⟩, []),
 (⟨some 6, none, .nilck (.t 5)⟩, []),
 (⟨some 7, none, .fad 67 (.t 6) 0⟩, []),
 (⟨some 8, none, .load 65 (.t 7)⟩, []),
 (⟨some 9, none, .mv (.t 1)⟩, []),
 (⟨some 10, none, .nilck (.t 9)⟩, []),
 (⟨some 11, none, .fad 67 (.t 10) 0⟩, []),
 (⟨some 12, none, .load 65 (.t 11)⟩, []),
 (⟨some 13, none, .call (.c (.fn (.func 34) [] [])) [.t 8, .t 12, .c (.fn (.func 35) [] [])]⟩, []),
 (⟨some 4, none, .mv (.t 13)⟩, [])]))
 .ret))
def F33 : AF := ⟨14, [.t 4], c33⟩
/-- slices.EqualFunc[[]*fallow/api.Func,[]*fallow/api.Func,*fallow/api.Func,*fallow/api.Func] -/
def c34L0 : AC := (.seq (.reg [⟨some 18, none, .bin .lss 3 (.t 17) (.t 16)⟩])
 (.seq (.cond (.t 18)
 .skip
 (.exit 0))
 (.seq (.blk 1
 (.seq (.cut [1, 2, 15, 16, 17] (.reg [⟨some 19, none, .mv (.t 17)⟩,
 ⟨some 20, none, .iad 65 (.t 15) (.t 17)⟩,
 ⟨some 21, none, .load 72 (.t 20)⟩,
 ⟨some 7, none, .mv (.t 19)⟩,
 ⟨some 8, none, .mv (.t 21)⟩]))
 (.seq (.cut [1, 2, 7, 8, 15, 16, 17] (.reg [⟨some 22, none, .mv (.t 1)⟩,
 ⟨some 23, none, .mv (.t 7)⟩,
 ⟨some 24, none, .iad 65 (.t 22) (.t 23)⟩,
 ⟨some 25, none, .load 72 (.t 24)⟩,
 ⟨some 9, none, .mv (.t 25)⟩]))
 (.seq (.cut [1, 2, 8, 9, 15, 16, 17] (.reg [⟨some 26, none, .mv (.t 2)⟩,
 ⟨some 27, none, .mv (.t 8)⟩,
 ⟨some 28, none, .mv (.t 9)⟩,
 ⟨some 29, none, .call (.t 26) [.t 27, .t 28]⟩,
 ⟨some 30, none, .un .not (.t 29)⟩]))
 (.cond (.t 30)
 (.seq (.reg [⟨some 6, none, .mv (.c (.b false))⟩])
 .ret)
 .skip)))))
 (.reg [⟨some 31, none, .bin .add 3 (.t 17) (.c (.i .i64 1))⟩,
 ⟨some 17, none, .mv (.t 31)⟩]))))
def c34 : AC := (.seq (.reg [⟨some 6, none, .mv (.c (.b false))⟩])
 (.seq (.seq (.cut [0, 1, 2] (.reg [⟨some 10, none, .mv (.t 0)⟩,
 ⟨some 11, none, .len 65 (.t 10)⟩,
 ⟨some 12, none, .mv (.t 1)⟩,
 ⟨some 13, none, .len 65 (.t 12)⟩,
 ⟨some 14, none, .bin .neq 3 (.t 11) (.t 13)⟩]))
 (.cond (.t 14)
 (.seq (.reg [⟨some 6, none, .mv (.c (.b false))⟩])
 .ret)
 .skip))
 (.seq (.seq (.cut [0, 1, 2] (.reg [⟨some 15, none, .mv (.t 0)⟩,
 ⟨some 16, none, .len 65 (.t 15)⟩,
 ⟨some 17, none, .mv (.c (.i .i64 0))⟩]))
 (.blk 0
 (.loop [1, 2, 15, 16, 17] c34L0)))
 (.seq (.reg [⟨some 6, none, .mv (.c (.b true))⟩])
 .ret))))
def F34 : AF := ⟨32, [.t 6], c34⟩
/-- fallow/parse.sameFunc -/
def c35 : AC := (.seq (.reg [⟨some 4, none, .mv (.c (.b false))⟩])
 (.seq (.cut [0, 1] (.reg [⟨some 5, none, .mv (.t 0)⟩,
 ⟨some 6, none, .mv (.t 1)⟩,
 ⟨some 7, none, .call (.c (.fn (.func 66) [] [])) [.t 5, .t 6, .c (.fn (.func 67) [] [])]⟩,
 ⟨some 4, none, .mv (.t 7)⟩]))
 .ret))
def F35 : AF := ⟨8, [.t 4], c35⟩
/-- (*fallow/parse.parser).bad -/
def c37 : AC := (.seq (.reg [⟨some 2, none, .mv (.c (.b false))⟩])
 (.seq (.cut [0] (.reg [⟨some 3, none, .mv (.t 0)⟩,
 ⟨some 4, none, .nilck (.t 3)⟩,
 ⟨some 5, none, .fad 103 (.t 4) 2⟩,
 ⟨some 6, none, .load 101 (.t 5)⟩,
 ⟨some 7, none, .bin .neq 101 (.t 6) (.c (.p0))⟩,
 ⟨some 2, none, .mv (.t 7)⟩]))
 .ret))
def F37 : AF := ⟨8, [.t 2], c37⟩
/-- (*fallow/parse.parser).next -/
def c38 : AC := (.seq (.reg [⟨some 2, none, .alloc 44⟩])
 (.seq (.cut [0, 2] (.reg [⟨some 3, none, .mv (.t 0)⟩,
 ⟨some 4, none, .nilck (.t 3)⟩,
 ⟨some 5, none, .fad 103 (.t 4) 0⟩,
 ⟨some 6, none, .load 40 (.t 5)⟩,
 ⟨some 7, none, .iad 40 (.t 6) (.c (.i .i64 0))⟩,
 ⟨some 8, none, .load 44 (.t 7)⟩,
 ⟨none, none, .store 44 (.t 2) (.t 8)⟩]))
 .ret))
def F38 : AF := ⟨9, [.cell 2 44], c38⟩
/-- (*fallow/parse.parser).function -/
def c39 : AC := (.seq (.reg [⟨some 1, none, .box 100 (.t 0)⟩,
 ⟨some 2, none, .mv (.c (.p0))⟩])
 (.seq (.cut [1] (.reg [⟨some 4, none, .load 100 (.t 1)⟩,
 ⟨some 5, none, .call (.c (.fn (.func 38) [] [])) [.t 4]⟩,
 ⟨some 6, none, .fld 44 (.t 5) 2⟩,
 ⟨some 7, none, .build 71 [(4, .t 6)]⟩,
 ⟨some 8, none, .box 71 (.t 7)⟩,
 ⟨some 3, none, .alloc 72⟩,
 ⟨none, none, .store 72 (.t 3) (.t 8)⟩]))
 (.seq (.reg [⟨some 9, none, .load 100 (.t 1)⟩,
 ⟨some 10, none, .call (.c (.fn (.func 72) [] [])) [.t 9, .c (.s [102, 117, 110, 99])]⟩])
 (.seq (.cut [1, 3] (.drw [(⟨some 11, none, .load 72 (.t 3)⟩, []),
 (⟨some 12, none, .load 100 (.t 1)⟩, []),
 (⟨some 13, none, .call (.c (.fn (.func 73) [] [])) [.t 12]⟩, [⟨some 11, none, .load 72 (.t 3)⟩]),
 (⟨some 14, none, .nilck (.t 11)⟩, []),
 (⟨some 15, none, .fad 71 (.t 14) 0⟩, []),
 (⟨none, none, .store 9 (.t 15) (.t 13)⟩, [])]))
 (.seq (.cut [1, 3] (.reg [⟨some 16, none, .load 100 (.t 1)⟩,
 ⟨some 17, none, .mkf (.func 75) [] [.t 1, .t 3]⟩,
 ⟨some 18, none, .call (.c (.fn (.func 74) [] [])) [.t 16, .t 17]⟩]))
 (.seq (.cut [1, 3] (.drw [(⟨some 19, none, .load 72 (.t 3)⟩, []),
 (⟨some 20, none, .load 100 (.t 1)⟩, []),
 (⟨some 21, none, .call (.c (.fn (.func 76) [] [])) [.t 20, .c (.s [112, 116, 114])]⟩, [⟨some 19, none, .load 72 (.t 3)⟩]),
 (⟨some 22, none, .nilck (.t 19)⟩, []),
 (⟨some 23, none, .fad 71 (.t 22) 2⟩, []),
 (⟨none, none, .store 4 (.t 23) (.t 21)⟩, [])]))
 (.seq (.cut [1, 3] (.drw [(⟨some 24, none, .load 72 (.t 3)⟩, []),
 (⟨some 25, none, .load 100 (.t 1)⟩, []),
 (⟨some 26, none, .call (.c (.fn (.func 77) [] [])) [.t 25]⟩, [⟨some 24, none, .load 72 (.t 3)⟩]),
 (⟨some 27, none, .nilck (.t 24)⟩, []),
 (⟨some 28, none, .fad 71 (.t 27) 3⟩, []),
 (⟨none, none, .store 69 (.t 28) (.t 26)⟩, [])]))
 (.seq (.reg [⟨some 29, none, .load 72 (.t 3)⟩,
 ⟨some 2, none, .mv (.t 29)⟩])
 .ret))))))))
def F39 : AF := ⟨30, [.t 2], c39⟩
/-- fallow/lex.Tokens$1 -/
def c40 : AC := (.seq (.cut [0, 1, 2, 3, 4] (.drw [(⟨some 7, none, .load 40 (.t 2)⟩, []),
 (⟨some 8, none, .mv (.t 0)⟩, []),
 (⟨some 9, none, .load 9 (.t 3)⟩, []),
 (⟨some 10, none, .mv (.t 1)⟩, []),
 (⟨some 11, none, .slc 9 (.t 9) none (some (.t 10))⟩, []),
 (⟨some 12, none, .load 3 (.t 4)⟩, []),
 (⟨some 13, none, .build 44 [(0, .t 8), (1, .t 11), (2, .t 12)]⟩, []),
 (⟨some 14, none, .bsl 40 1 [(0, .t 13)]⟩, [⟨some 7, none, .load 40 (.t 2)⟩]),
 (⟨some 15, none, .app 40 false (.t 7) (.t 14)⟩, []),
 (⟨none, none, .store 40 (.t 2) (.t 15)⟩, [])]))
 (.cut [1, 3] (.reg [⟨some 16, none, .load 9 (.t 3)⟩,
 ⟨some 17, none, .mv (.t 1)⟩,
 ⟨some 18, none, .slc 9 (.t 16) (some (.t 17)) none⟩,
 ⟨none, none, .store 9 (.t 3) (.t 18)⟩])))
def F40 : AF := ⟨19, [], c40⟩
/-- strings.HasPrefix -/
def c41 : AC := (.seq (.reg [⟨some 4, none, .mv (.c (.b false))⟩])
 (.seq (.cut [0, 1] (.reg [⟨some 5, none, .mv (.t 0)⟩,
 ⟨some 6, none, .mv (.t 1)⟩,
 ⟨some 7, none, .call (.c (.fn (.func 78) [] [])) [.t 5, .t 6]⟩,
 ⟨some 4, none, .mv (.t 7)⟩]))
 .ret))
def F41 : AF := ⟨8, [.t 4], c41⟩
/-- fallow/lex.of -/
def c43 : AC := (.seq (.reg [⟨some 2, none, .mv (.c (.i .i64 0))⟩])
 (.seq (.blk 0
 (.seq (.cut [0] (.reg [⟨some 4, none, .mv (.t 0)⟩,
 ⟨some 5, none, .bin .eql 21 (.t 4) (.c (.i .i32 32))⟩,
 ⟨some 6, none, .mv (.t 5)⟩,
 ⟨some 7, some (6, false), .mv (.t 0)⟩,
 ⟨some 8, some (6, false), .bin .eql 21 (.t 7) (.c (.i .i32 9))⟩,
 ⟨some 9, none, .pick (.t 6) (.c (.b true)) (.t 8)⟩,
 ⟨some 10, none, .mv (.t 9)⟩,
 ⟨some 11, some (10, false), .mv (.t 0)⟩,
 ⟨some 12, some (10, false), .bin .eql 21 (.t 11) (.c (.i .i32 13))⟩,
 ⟨some 13, none, .pick (.t 10) (.c (.b true)) (.t 12)⟩,
 ⟨some 14, none, .mv (.t 13)⟩,
 ⟨some 15, some (14, false), .mv (.t 0)⟩,
 ⟨some 16, some (14, false), .bin .eql 21 (.t 15) (.c (.i .i32 10))⟩,
 ⟨some 17, none, .pick (.t 14) (.c (.b true)) (.t 16)⟩,
 ⟨some 3, none, .mv (.t 17)⟩]))
 (.cond (.t 3)
 (.seq (.reg [⟨some 2, none, .mv (.c (.i .i64 1))⟩])
 .ret)
 (.seq (.cut [0] (.reg [⟨some 19, none, .mv (.t 0)⟩,
 ⟨some 20, none, .bin .geq 21 (.t 19) (.c (.i .i32 97))⟩,
 ⟨some 21, none, .mv (.t 20)⟩,
 ⟨some 22, some (21, true), .mv (.t 0)⟩,
 ⟨some 23, some (21, true), .bin .leq 21 (.t 22) (.c (.i .i32 122))⟩,
 ⟨some 24, none, .pick (.t 21) (.t 23) (.c (.b false))⟩,
 ⟨some 25, none, .mv (.t 24)⟩,
 ⟨some 26, some (25, false), .mv (.t 0)⟩,
 ⟨some 27, some (25, false), .bin .geq 21 (.t 26) (.c (.i .i32 65))⟩,
 ⟨some 28, some (25, false), .mv (.t 27)⟩,
 ⟨some 29, some (28, true), .mv (.t 0)⟩,
 ⟨some 30, some (28, true), .bin .leq 21 (.t 29) (.c (.i .i32 90))⟩,
 ⟨some 31, some (25, false), .pick (.t 28) (.t 30) (.c (.b false))⟩,
 ⟨some 32, none, .pick (.t 25) (.c (.b true)) (.t 31)⟩,
 ⟨some 33, none, .mv (.t 32)⟩,
 ⟨some 34, some (33, false), .mv (.t 0)⟩,
 ⟨some 35, some (33, false), .bin .eql 21 (.t 34) (.c (.i .i32 95))⟩,
 ⟨some 36, none, .pick (.t 33) (.c (.b true)) (.t 35)⟩,
 ⟨some 18, none, .mv (.t 36)⟩]))
 (.cut [1000000, 0, 18] (.cond (.t 18)
 (.seq (.reg [⟨some 2, none, .mv (.c (.i .i64 2))⟩])
 .ret)
 (.seq (.cut [0] (.reg [⟨some 38, none, .mv (.t 0)⟩,
 ⟨some 39, none, .bin .geq 21 (.t 38) (.c (.i .i32 48))⟩,
 ⟨some 40, none, .mv (.t 39)⟩,
 ⟨some 41, some (40, true), .mv (.t 0)⟩,
 ⟨some 42, some (40, true), .bin .leq 21 (.t 41) (.c (.i .i32 57))⟩,
 ⟨some 43, none, .pick (.t 40) (.t 42) (.c (.b false))⟩,
 ⟨some 37, none, .mv (.t 43)⟩]))
 (.cond (.t 37)
 (.seq (.reg [⟨some 2, none, .mv (.c (.i .i64 3))⟩])
 .ret)
 (.seq (.cut [0] (.reg [⟨some 45, none, .mv (.t 0)⟩,
 ⟨some 46, none, .conv 21 5 (.t 45)⟩,
 ⟨some 47, none, .call (.c (.fn (.func 42) [] [])) [.c (.s [40, 41, 123, 125, 91, 93, 44, 59, 58, 61, 60, 62, 43, 45, 124, 94, 38, 42, 47, 37, 33]), .t 46]⟩,
 ⟨some 48, none, .bin .geq 3 (.t 47) (.c (.i .i64 0))⟩,
 ⟨some 49, none, .mv (.t 48)⟩,
 ⟨some 50, some (49, true), .mv (.t 0)⟩,
 ⟨some 51, some (49, true), .bin .lss 21 (.t 50) (.c (.i .i32 128))⟩,
 ⟨some 52, none, .pick (.t 49) (.t 51) (.c (.b false))⟩,
 ⟨some 44, none, .mv (.t 52)⟩]))
 (.cond (.t 44)
 (.seq (.reg [⟨some 2, none, .mv (.c (.i .i64 4))⟩])
 .ret)
 .skip))))))))))
 (.seq (.reg [⟨some 2, none, .mv (.c (.i .i64 0))⟩])
 .ret)))
def F43 : AF := ⟨53, [.t 2], c43⟩
/-- fallow/lex.long -/
def c44L0 : AC := (.seq (.reg [⟨some 9, none, .nxt (.t 8)⟩,
 ⟨some 10, none, .ext (.t 9) 0⟩])
 (.seq (.cond (.t 10)
 .skip
 (.exit 0))
 (.blk 1
 (.seq (.cut [0, 1, 8, 9] (.reg [⟨some 11, none, .ext (.t 9) 1⟩,
 ⟨some 12, none, .ext (.t 9) 2⟩,
 ⟨some 5, none, .mv (.t 11)⟩,
 ⟨some 6, none, .mv (.t 12)⟩]))
 (.seq (.cut [0, 1, 5, 6, 8] (.reg [⟨some 13, none, .mv (.t 1)⟩,
 ⟨some 14, none, .mv (.t 6)⟩,
 ⟨some 15, none, .call (.c (.fn (.func 43) [] [])) [.t 14]⟩,
 ⟨some 16, none, .call (.c (.fn (.func 80) [] [])) [.t 13, .t 15]⟩,
 ⟨some 17, none, .un .not (.t 16)⟩]))
 (.cond (.t 17)
 (.seq (.reg [⟨some 18, none, .mv (.t 5)⟩,
 ⟨some 4, none, .mv (.t 18)⟩])
 .ret)
 .skip))))))
def c44 : AC := (.seq (.reg [⟨some 4, none, .mv (.c (.i .i64 0))⟩])
 (.seq (.seq (.reg [⟨some 7, none, .mv (.t 0)⟩,
 ⟨some 8, none, .rng 9 (.t 7)⟩])
 (.blk 0
 (.loop [0, 1, 8] c44L0)))
 (.seq (.cut [0] (.reg [⟨some 19, none, .mv (.t 0)⟩,
 ⟨some 20, none, .len 9 (.t 19)⟩,
 ⟨some 4, none, .mv (.t 20)⟩]))
 .ret)))
def F44 : AF := ⟨21, [.t 4], c44⟩
/-- slices.Contains[[]string,string] -/
def c45 : AC := (.seq (.reg [⟨some 4, none, .mv (.c (.b false))⟩])
 (.seq (.cut [0, 1] (.reg [⟨some 5, none, .mv (.t 0)⟩,
 ⟨some 6, none, .mv (.t 1)⟩,
 ⟨some 7, none, .call (.c (.fn (.func 81) [] [])) [.t 5, .t 6]⟩,
 ⟨some 8, none, .bin .geq 3 (.t 7) (.c (.i .i64 0))⟩,
 ⟨some 4, none, .mv (.t 8)⟩]))
 .ret))
def F45 : AF := ⟨9, [.t 4], c45⟩
/-- fallow/lex.Keys -/
def c46 : AC := (.seq (.reg [⟨some 0, none, .mv (.c (.sl0))⟩])
 (.seq (.reg [⟨some 1, none, .call (.c (.fn (.func 82) [] [])) [.c (.s [102, 117, 110, 99, 32, 118, 97, 114, 32, 112, 116, 114, 32, 105, 102, 32, 101, 108, 115, 101, 32, 119, 104, 105, 108, 101, 32, 111, 117, 116, 32, 102, 114, 101, 101, 32, 100, 114, 97, 105, 110, 32, 114, 101, 116, 117, 114, 110, 32, 110, 101, 119, 32, 105, 110])]⟩,
 ⟨some 0, none, .mv (.t 1)⟩])
 .ret))
def F46 : AF := ⟨2, [.t 0], c46⟩
/-- fallow/lex.two -/
def c48 : AC := (.seq (.reg [⟨some 2, none, .mv (.c (.b false))⟩])
 (.seq (.cut [0] (.drw [(⟨some 3, none, .mv (.t 0)⟩, []),
 (⟨some 4, none, .len 9 (.t 3)⟩, []),
 (⟨some 5, none, .bin .geq 3 (.t 4) (.c (.i .i64 2))⟩, []),
 (⟨some 6, none, .mv (.t 5)⟩, []),
 (⟨some 8, some (6, true), .mv (.t 0)⟩, []),
 (⟨some 9, some (6, true), .slc 9 (.t 8) none (some (.c (.i .i64 2)))⟩, []),
 (⟨some 7, some (6, true), .call (.c (.fn (.func 82) [] [])) [.c (.s [124, 124, 32, 38, 38, 32, 61, 61, 32, 33, 61, 32, 60, 61, 32, 62, 61, 32, 60, 60, 32, 62, 62])]⟩, [⟨some 9, some (6, true), .slc 9 (.t 8) none (some (.c (.i .i64 2)))⟩]),
 (⟨some 10, some (6, true), .call (.c (.fn (.func 45) [] [])) [.t 7, .t 9]⟩, []),
 (⟨some 11, none, .pick (.t 6) (.t 10) (.c (.b false))⟩, []),
 (⟨some 2, none, .mv (.t 11)⟩, [])]))
 .ret))
def F48 : AF := ⟨12, [.t 2], c48⟩
/-- strings.CutPrefix -/
def c49 : AC := (.seq (.reg [⟨some 4, none, .mv (.c (.s []))⟩,
 ⟨some 5, none, .mv (.c (.b false))⟩])
 (.seq (.cut [0, 1] (.reg [⟨some 6, none, .mv (.t 0)⟩,
 ⟨some 7, none, .mv (.t 1)⟩,
 ⟨some 8, none, .call (.c (.fn (.func 85) [] [])) [.t 6, .t 7]⟩,
 ⟨some 9, none, .ext (.t 8) 0⟩,
 ⟨some 10, none, .ext (.t 8) 1⟩,
 ⟨some 4, none, .mv (.t 9)⟩,
 ⟨some 5, none, .mv (.t 10)⟩]))
 .ret))
def F49 : AF := ⟨11, [.t 4, .t 5], c49⟩
/-- strings.CutSuffix -/
def c50 : AC := (.seq (.reg [⟨some 4, none, .mv (.c (.s []))⟩,
 ⟨some 5, none, .mv (.c (.b false))⟩])
 (.seq (.cut [0, 1] (.reg [⟨some 6, none, .mv (.t 0)⟩,
 ⟨some 7, none, .mv (.t 1)⟩,
 ⟨some 8, none, .call (.c (.fn (.func 86) [] [])) [.t 6, .t 7]⟩,
 ⟨some 9, none, .ext (.t 8) 0⟩,
 ⟨some 10, none, .ext (.t 8) 1⟩,
 ⟨some 4, none, .mv (.t 9)⟩,
 ⟨some 5, none, .mv (.t 10)⟩]))
 .ret))
def F50 : AF := ⟨11, [.t 4, .t 5], c50⟩
/-- errors.Is -/
def c52 : AC := (.seq (.reg [⟨some 4, none, .mv (.c (.b false))⟩])
 (.seq (.seq (.cut [0, 1] (.reg [⟨some 6, none, .mv (.t 0)⟩,
 ⟨some 7, none, .bin .eql 36 (.t 6) (.c (.ic0))⟩,
 ⟨some 8, none, .mv (.t 7)⟩,
 ⟨some 9, some (8, false), .mv (.t 1)⟩,
 ⟨some 10, some (8, false), .bin .eql 36 (.t 9) (.c (.ic0))⟩,
 ⟨some 11, none, .pick (.t 8) (.c (.b true)) (.t 10)⟩]))
 (.cond (.t 11)
 (.seq (.cut [0, 1] (.reg [⟨some 12, none, .mv (.t 0)⟩,
 ⟨some 13, none, .mv (.t 1)⟩,
 ⟨some 14, none, .bin .eql 36 (.t 12) (.t 13)⟩,
 ⟨some 4, none, .mv (.t 14)⟩]))
 .ret)
 .skip))
 (.seq (.cut [0, 1] (.reg [⟨some 15, none, .mv (.t 1)⟩,
 ⟨some 16, none, .call (.c (.fn (.func 91) [] [])) [.t 15]⟩,
 ⟨some 17, none, .inv (.t 16) "Comparable" []⟩,
 ⟨some 5, none, .mv (.t 17)⟩]))
 (.seq (.cut [0, 1, 5] (.reg [⟨some 18, none, .mv (.t 0)⟩,
 ⟨some 19, none, .mv (.t 1)⟩,
 ⟨some 20, none, .mv (.t 5)⟩,
 ⟨some 21, none, .call (.c (.fn (.func 92) [] [])) [.t 18, .t 19, .t 20]⟩,
 ⟨some 4, none, .mv (.t 21)⟩]))
 .ret))))
def F52 : AF := ⟨22, [.t 4], c52⟩
/-- (*fallow/parse.printer).put -/
def c64L0 : AC := (.seq (.reg [⟨some 9, none, .bin .lss 3 (.t 8) (.t 7)⟩])
 (.seq (.cond (.t 9)
 .skip
 (.exit 0))
 (.seq (.blk 1
 (.seq (.cut [0, 6, 7, 8] (.reg [⟨some 10, none, .iad 63 (.t 6) (.t 8)⟩,
 ⟨some 11, none, .load 9 (.t 10)⟩,
 ⟨some 5, none, .mv (.t 11)⟩]))
 (.cut [0, 5, 6, 7, 8] (.reg [⟨some 12, none, .mv (.t 0)⟩,
 ⟨some 13, none, .nilck (.t 12)⟩,
 ⟨some 14, none, .fad 92 (.t 13) 0⟩,
 ⟨some 15, none, .mv (.t 5)⟩,
 ⟨some 16, none, .call (.c (.fn (.func 103) [] [])) [.t 14, .t 15]⟩]))))
 (.reg [⟨some 17, none, .bin .add 3 (.t 8) (.c (.i .i64 1))⟩,
 ⟨some 8, none, .mv (.t 17)⟩]))))
def c64 : AC := (.seq (.cut [0, 1] (.reg [⟨some 6, none, .mv (.t 1)⟩,
 ⟨some 7, none, .len 63 (.t 6)⟩,
 ⟨some 8, none, .mv (.c (.i .i64 0))⟩]))
 (.blk 0
 (.loop [0, 6, 7, 8] c64L0)))
def F64 : AF := ⟨18, [], c64⟩
/-- (*fallow/parse.printer).block -/
def c65L0 : AC := (.seq (.reg [⟨some 19, none, .bin .lss 3 (.t 18) (.t 17)⟩])
 (.seq (.cond (.t 19)
 .skip
 (.exit 0))
 (.seq (.blk 1
 (.seq (.cut [0, 16, 17, 18] (.reg [⟨some 20, none, .iad 69 (.t 16) (.t 18)⟩,
 ⟨some 21, none, .load 73 (.t 20)⟩,
 ⟨some 5, none, .mv (.t 21)⟩]))
 (.seq (.reg [⟨some 22, none, .mv (.t 0)⟩,
 ⟨some 23, none, .call (.c (.fn (.func 104) [] [])) [.t 22]⟩])
 (.seq (.cut [0, 5, 16, 17, 18] (.reg [⟨some 24, none, .mv (.t 0)⟩,
 ⟨some 25, none, .mv (.t 5)⟩,
 ⟨some 26, none, .call (.c (.fn (.func 105) [] [])) [.t 24, .t 25]⟩]))
 (.cut [0, 16, 17, 18] (.reg [⟨some 27, none, .mv (.t 0)⟩,
 ⟨some 28, none, .bsl 63 1 [(0, .c (.s [10]))]⟩,
 ⟨some 29, none, .call (.c (.fn (.func 64) [] [])) [.t 27, .t 28]⟩]))))))
 (.reg [⟨some 30, none, .bin .add 3 (.t 18) (.c (.i .i64 1))⟩,
 ⟨some 18, none, .mv (.t 30)⟩]))))
def c65 : AC := (.seq (.cut [0, 1] (.reg [⟨some 6, none, .mv (.t 0)⟩,
 ⟨some 7, none, .bsl 63 1 [(0, .c (.s [32, 123, 10]))]⟩,
 ⟨some 8, none, .call (.c (.fn (.func 64) [] [])) [.t 6, .t 7]⟩]))
 (.seq (.cut [0, 1] (.reg [⟨some 9, none, .mv (.t 0)⟩,
 ⟨some 10, none, .nilck (.t 9)⟩,
 ⟨some 11, none, .fad 92 (.t 10) 1⟩,
 ⟨some 12, none, .load 3 (.t 11)⟩,
 ⟨some 13, none, .bin .add 3 (.t 12) (.c (.i .i64 1))⟩,
 ⟨some 14, none, .nilck (.t 9)⟩,
 ⟨some 15, none, .fad 92 (.t 14) 1⟩,
 ⟨none, none, .store 3 (.t 15) (.t 13)⟩]))
 (.seq (.seq (.cut [0, 1] (.reg [⟨some 16, none, .mv (.t 1)⟩,
 ⟨some 17, none, .len 69 (.t 16)⟩,
 ⟨some 18, none, .mv (.c (.i .i64 0))⟩]))
 (.blk 0
 (.loop [0, 16, 17, 18] c65L0)))
 (.seq (.cut [0] (.reg [⟨some 31, none, .mv (.t 0)⟩,
 ⟨some 32, none, .nilck (.t 31)⟩,
 ⟨some 33, none, .fad 92 (.t 32) 1⟩,
 ⟨some 34, none, .load 3 (.t 33)⟩,
 ⟨some 35, none, .bin .sub 3 (.t 34) (.c (.i .i64 1))⟩,
 ⟨some 36, none, .nilck (.t 31)⟩,
 ⟨some 37, none, .fad 92 (.t 36) 1⟩,
 ⟨none, none, .store 3 (.t 37) (.t 35)⟩]))
 (.seq (.reg [⟨some 38, none, .mv (.t 0)⟩,
 ⟨some 39, none, .call (.c (.fn (.func 104) [] [])) [.t 38]⟩])
 (.cut [0] (.reg [⟨some 40, none, .mv (.t 0)⟩,
 ⟨some 41, none, .bsl 63 1 [(0, .c (.s [125]))]⟩,
 ⟨some 42, none, .call (.c (.fn (.func 64) [] [])) [.t 40, .t 41]⟩])))))))
def F65 : AF := ⟨43, [], c65⟩
/-- fallow/parse.both[fallow/api.Func] -/
def c66 : AC := (.seq (.reg [⟨some 6, none, .mv (.c (.b false))⟩])
 (.seq (.seq (.cut [0, 1, 2] (.reg [⟨some 7, none, .mv (.t 0)⟩,
 ⟨some 8, none, .bin .eql 72 (.t 7) (.c (.p0))⟩,
 ⟨some 9, none, .mv (.t 8)⟩,
 ⟨some 10, some (9, false), .mv (.t 1)⟩,
 ⟨some 11, some (9, false), .bin .eql 72 (.t 10) (.c (.p0))⟩,
 ⟨some 12, none, .pick (.t 9) (.c (.b true)) (.t 11)⟩]))
 (.cond (.t 12)
 (.seq (.cut [0, 1] (.reg [⟨some 13, none, .mv (.t 0)⟩,
 ⟨some 14, none, .bin .eql 72 (.t 13) (.c (.p0))⟩,
 ⟨some 15, none, .mv (.t 14)⟩,
 ⟨some 16, some (15, true), .mv (.t 1)⟩,
 ⟨some 17, some (15, true), .bin .eql 72 (.t 16) (.c (.p0))⟩,
 ⟨some 18, none, .pick (.t 15) (.t 17) (.c (.b false))⟩,
 ⟨some 6, none, .mv (.t 18)⟩]))
 .ret)
 .skip))
 (.seq (.cut [0, 1, 2] (.reg [⟨some 19, none, .mv (.t 2)⟩,
 ⟨some 20, none, .mv (.t 0)⟩,
 ⟨some 21, none, .mv (.t 1)⟩,
 ⟨some 22, none, .call (.t 19) [.t 20, .t 21]⟩,
 ⟨some 6, none, .mv (.t 22)⟩]))
 .ret)))
def F66 : AF := ⟨23, [.t 6], c66⟩
/-- fallow/parse.sameFunc$1 -/
def c67 : AC := (.seq (.reg [⟨some 4, none, .mv (.c (.b false))⟩])
 (.seq (.cut [0, 1] (.drw [(⟨some 5, none, .mv (.t 0)⟩, []),
 (⟨some 6, none, .nilck (.t 5)⟩, []),
 (⟨some 7, none, .fad 71 (.t 6) 0⟩, []),
 (⟨some 8, none, .load 9 (.t 7)⟩, []),
 (⟨some 9, none, .mv (.t 1)⟩, []),
 (⟨some 10, none, .nilck (.t 9)⟩, []),
 (⟨some 11, none, .fad 71 (.t 10) 0⟩, []),
 (⟨some 12, none, .load 9 (.t 11)⟩, []),
 (⟨some 13, none, .bin .eql 9 (.t 8) (.t 12)⟩, []),
 (⟨some 14, none, .mv (.t 13)⟩, []),
 (⟨some 15, some (14, true), .mv (.t 0)⟩, []),
 (⟨some 16, some (14, true), .nilck (.t 15)⟩, []),
 (⟨some 17, some (14, true), .fad 71 (.t 16) 2⟩, []),
 (⟨some 18, some (14, true), .load 4 (.t 17)⟩, []),
 (⟨some 19, some (14, true), .mv (.t 1)⟩, []),
 (⟨some 20, some (14, true), .nilck (.t 19)⟩, []),
 (⟨some 21, some (14, true), .fad 71 (.t 20) 2⟩, []),
 (⟨some 22, some (14, true), .load 4 (.t 21)⟩, []),
 (⟨some 23, some (14, true), .bin .eql 4 (.t 18) (.t 22)⟩, []),
 (⟨some 24, none, .pick (.t 14) (.t 23) (.c (.b false))⟩, []),
 (⟨some 25, none, .mv (.t 24)⟩, []),
 (⟨some 26, some (25, true), .mv (.t 0)⟩, []),
 (⟨some 27, some (25, true), .nilck (.t 26)⟩, []),
 (⟨some 28, some (25, true), .fad 71 (.t 27) 1⟩, []),
 (⟨some 29, some (25, true), .load 68 (.t 28)⟩, []),
 (⟨some 30, some (25, true), .mv (.t 1)⟩, []),
 (⟨some 31, some (25, true), .nilck (.t 30)⟩, []),
 (⟨some 32, some (25, true), .fad 71 (.t 31) 1⟩, []),
 (⟨some 33, some (25, true), .load 68 (.t 32)⟩, []),
 (⟨some 34, some (25, true), .call (.c (.fn (.func 68) [] [])) [.t 29, .t 33]⟩, []),
 (⟨some 35, none, .pick (.t 25) (.t 34) (.c (.b false))⟩, []),
 (⟨some 36, none, .mv (.t 35)⟩, []),
 (⟨some 37, some (36, true), .mv (.t 0)⟩, []),
 (⟨some 38, some (36, true), .nilck (.t 37)⟩, []),
 (⟨some 39, some (36, true), .fad 71 (.t 38) 3⟩, []),
 (⟨some 40, some (36, true), .load 69 (.t 39)⟩, []),
 (⟨some 41, some (36, true), .mv (.t 1)⟩, []),
 (⟨some 42, some (36, true), .nilck (.t 41)⟩, []),
 (⟨some 43, some (36, true), .fad 71 (.t 42) 3⟩, []),
 (⟨some 44, some (36, true), .load 69 (.t 43)⟩, []),
 (⟨some 45, some (36, true), .call (.c (.fn (.func 69) [] [])) [.t 40, .t 44, .c (.fn (.func 70) [] [])]⟩, []),
 (⟨some 46, none, .pick (.t 36) (.t 45) (.c (.b false))⟩, []),
 (⟨some 4, none, .mv (.t 46)⟩, [])]))
 (.cut [1000000, 4] .ret)))
def F67 : AF := ⟨47, [.t 4], c67⟩
/-- slices.Equal[[]fallow/api.Param,fallow/api.Param] -/
def c68L0 : AC := (.seq (.reg [⟨some 14, none, .bin .lss 3 (.t 13) (.t 12)⟩])
 (.seq (.cond (.t 14)
 .skip
 (.exit 0))
 (.seq (.blk 1
 (.seq (.reg [⟨some 15, none, .mv (.t 13)⟩,
 ⟨some 5, none, .mv (.t 15)⟩])
 (.seq (.cut [0, 1, 5, 12, 13] (.drw [(⟨some 16, none, .mv (.t 0)⟩, []),
 (⟨some 17, none, .mv (.t 5)⟩, []),
 (⟨some 18, none, .iad 68 (.t 16) (.t 17)⟩, []),
 (⟨some 19, none, .load 85 (.t 18)⟩, []),
 (⟨some 20, none, .mv (.t 1)⟩, []),
 (⟨some 21, none, .mv (.t 5)⟩, []),
 (⟨some 22, none, .iad 68 (.t 20) (.t 21)⟩, []),
 (⟨some 23, none, .load 85 (.t 22)⟩, []),
 (⟨some 24, none, .bin .neq 85 (.t 19) (.t 23)⟩, [])]))
 (.cond (.t 24)
 (.seq (.reg [⟨some 4, none, .mv (.c (.b false))⟩])
 .ret)
 .skip))))
 (.reg [⟨some 25, none, .bin .add 3 (.t 13) (.c (.i .i64 1))⟩,
 ⟨some 13, none, .mv (.t 25)⟩]))))
def c68 : AC := (.seq (.reg [⟨some 4, none, .mv (.c (.b false))⟩])
 (.seq (.seq (.cut [0, 1] (.reg [⟨some 6, none, .mv (.t 0)⟩,
 ⟨some 7, none, .len 68 (.t 6)⟩,
 ⟨some 8, none, .mv (.t 1)⟩,
 ⟨some 9, none, .len 68 (.t 8)⟩,
 ⟨some 10, none, .bin .neq 3 (.t 7) (.t 9)⟩]))
 (.cond (.t 10)
 (.seq (.reg [⟨some 4, none, .mv (.c (.b false))⟩])
 .ret)
 .skip))
 (.seq (.seq (.cut [0, 1] (.reg [⟨some 11, none, .mv (.t 0)⟩,
 ⟨some 12, none, .len 68 (.t 11)⟩,
 ⟨some 13, none, .mv (.c (.i .i64 0))⟩]))
 (.blk 0
 (.loop [0, 1, 12, 13] c68L0)))
 (.seq (.reg [⟨some 4, none, .mv (.c (.b true))⟩])
 .ret))))
def F68 : AF := ⟨26, [.t 4], c68⟩
/-- slices.EqualFunc[[]*fallow/api.Stmt,[]*fallow/api.Stmt,*fallow/api.Stmt,*fallow/api.Stmt] -/
def c69L0 : AC := (.seq (.reg [⟨some 18, none, .bin .lss 3 (.t 17) (.t 16)⟩])
 (.seq (.cond (.t 18)
 .skip
 (.exit 0))
 (.seq (.blk 1
 (.seq (.cut [1, 2, 15, 16, 17] (.reg [⟨some 19, none, .mv (.t 17)⟩,
 ⟨some 20, none, .iad 69 (.t 15) (.t 17)⟩,
 ⟨some 21, none, .load 73 (.t 20)⟩,
 ⟨some 7, none, .mv (.t 19)⟩,
 ⟨some 8, none, .mv (.t 21)⟩]))
 (.seq (.cut [1, 2, 7, 8, 15, 16, 17] (.reg [⟨some 22, none, .mv (.t 1)⟩,
 ⟨some 23, none, .mv (.t 7)⟩,
 ⟨some 24, none, .iad 69 (.t 22) (.t 23)⟩,
 ⟨some 25, none, .load 73 (.t 24)⟩,
 ⟨some 9, none, .mv (.t 25)⟩]))
 (.seq (.cut [1, 2, 8, 9, 15, 16, 17] (.reg [⟨some 26, none, .mv (.t 2)⟩,
 ⟨some 27, none, .mv (.t 8)⟩,
 ⟨some 28, none, .mv (.t 9)⟩,
 ⟨some 29, none, .call (.t 26) [.t 27, .t 28]⟩,
 ⟨some 30, none, .un .not (.t 29)⟩]))
 (.cond (.t 30)
 (.seq (.reg [⟨some 6, none, .mv (.c (.b false))⟩])
 .ret)
 .skip)))))
 (.reg [⟨some 31, none, .bin .add 3 (.t 17) (.c (.i .i64 1))⟩,
 ⟨some 17, none, .mv (.t 31)⟩]))))
def c69 : AC := (.seq (.reg [⟨some 6, none, .mv (.c (.b false))⟩])
 (.seq (.seq (.cut [0, 1, 2] (.reg [⟨some 10, none, .mv (.t 0)⟩,
 ⟨some 11, none, .len 69 (.t 10)⟩,
 ⟨some 12, none, .mv (.t 1)⟩,
 ⟨some 13, none, .len 69 (.t 12)⟩,
 ⟨some 14, none, .bin .neq 3 (.t 11) (.t 13)⟩]))
 (.cond (.t 14)
 (.seq (.reg [⟨some 6, none, .mv (.c (.b false))⟩])
 .ret)
 .skip))
 (.seq (.seq (.cut [0, 1, 2] (.reg [⟨some 15, none, .mv (.t 0)⟩,
 ⟨some 16, none, .len 69 (.t 15)⟩,
 ⟨some 17, none, .mv (.c (.i .i64 0))⟩]))
 (.blk 0
 (.loop [1, 2, 15, 16, 17] c69L0)))
 (.seq (.reg [⟨some 6, none, .mv (.c (.b true))⟩])
 .ret))))
def F69 : AF := ⟨32, [.t 6], c69⟩
/-- fallow/parse.sameStmt -/
def c70 : AC := (.seq (.reg [⟨some 4, none, .mv (.c (.b false))⟩])
 (.seq (.cut [0, 1] (.reg [⟨some 5, none, .mv (.t 0)⟩,
 ⟨some 6, none, .mv (.t 1)⟩,
 ⟨some 7, none, .call (.c (.fn (.func 106) [] [])) [.t 5, .t 6, .c (.fn (.func 107) [] [])]⟩,
 ⟨some 4, none, .mv (.t 7)⟩]))
 .ret))
def F70 : AF := ⟨8, [.t 4], c70⟩
/-- (*fallow/parse.parser).must -/
def c72 : AC := (.seq (.cut [0, 1] (.reg [⟨some 4, none, .mv (.t 0)⟩,
 ⟨some 5, none, .mv (.t 1)⟩,
 ⟨some 6, none, .call (.c (.fn (.func 76) [] [])) [.t 4, .t 5]⟩,
 ⟨some 7, none, .un .not (.t 6)⟩]))
 (.cond (.t 7)
 (.reg [⟨some 8, none, .mv (.t 0)⟩,
 ⟨some 9, none, .call (.c (.fn (.func 110) [] [])) [.t 8, .c (.i .i64 4)]⟩])
 .skip))
def F72 : AF := ⟨10, [], c72⟩
/-- (*fallow/parse.parser).name -/
def c73 : AC := (.seq (.reg [⟨some 2, none, .mv (.c (.s []))⟩])
 (.seq (.cut [0] (.reg [⟨some 4, none, .mv (.t 0)⟩,
 ⟨some 5, none, .call (.c (.fn (.func 38) [] [])) [.t 4]⟩,
 ⟨some 3, none, .alloc 44⟩,
 ⟨none, none, .store 44 (.t 3) (.t 5)⟩]))
 (.seq (.seq (.cut [0, 3] (.reg [⟨some 6, none, .mv (.t 0)⟩,
 ⟨some 7, none, .call (.c (.fn (.func 37) [] [])) [.t 6]⟩,
 ⟨some 8, none, .mv (.t 7)⟩,
 ⟨some 9, some (8, false), .fad 44 (.t 3) 0⟩,
 ⟨some 10, some (8, false), .load 3 (.t 9)⟩,
 ⟨some 11, some (8, false), .bin .neq 3 (.t 10) (.c (.i .i64 1))⟩,
 ⟨some 12, none, .pick (.t 8) (.c (.b true)) (.t 11)⟩]))
 (.cond (.t 12)
 (.seq (.reg [⟨some 13, none, .mv (.t 0)⟩,
 ⟨some 14, none, .call (.c (.fn (.func 110) [] [])) [.t 13, .c (.i .i64 4)]⟩])
 (.seq (.reg [⟨some 2, none, .mv (.c (.s []))⟩])
 .ret))
 .skip))
 (.seq (.reg [⟨some 15, none, .mv (.t 0)⟩,
 ⟨some 16, none, .call (.c (.fn (.func 111) [] [])) [.t 15]⟩])
 (.seq (.cut [3] (.reg [⟨some 17, none, .fad 44 (.t 3) 1⟩,
 ⟨some 18, none, .load 9 (.t 17)⟩,
 ⟨some 2, none, .mv (.t 18)⟩]))
 .ret)))))
def F73 : AF := ⟨19, [.t 2], c73⟩
/-- (*fallow/parse.parser).list -/
def c74 : AC := (.seq (.reg [⟨some 2, none, .box 100 (.t 0)⟩,
 ⟨some 3, none, .box 1 (.t 1)⟩])
 (.cut [2, 3] (.reg [⟨some 4, none, .load 100 (.t 2)⟩,
 ⟨some 5, none, .mkf (.func 113) [] [.t 2, .t 3]⟩,
 ⟨some 6, none, .call (.c (.fn (.func 112) [] [])) [.t 4, .c (.s [40]), .t 5]⟩])))
def F74 : AF := ⟨7, [], c74⟩
/-- (*fallow/parse.parser).function$1 -/
def c75 : AC := (.seq (.cut [0, 1] (.reg [⟨some 3, none, .load 100 (.t 0)⟩,
 ⟨some 4, none, .call (.c (.fn (.func 73) [] [])) [.t 3]⟩,
 ⟨some 5, none, .build 85 [(0, .t 4)]⟩,
 ⟨some 2, none, .alloc 85⟩,
 ⟨none, none, .store 85 (.t 2) (.t 5)⟩]))
 (.seq (.cut [0, 1, 2] (.reg [⟨some 6, none, .load 100 (.t 0)⟩,
 ⟨some 7, none, .call (.c (.fn (.func 76) [] [])) [.t 6, .c (.s [112, 116, 114])]⟩,
 ⟨some 8, none, .fad 85 (.t 2) 1⟩,
 ⟨none, none, .store 4 (.t 8) (.t 7)⟩]))
 (.cut [1, 2] (.drw [(⟨some 9, none, .load 72 (.t 1)⟩, []),
 (⟨some 10, none, .load 72 (.t 1)⟩, []),
 (⟨some 11, none, .nilck (.t 10)⟩, []),
 (⟨some 12, none, .fad 71 (.t 11) 1⟩, []),
 (⟨some 13, none, .load 68 (.t 12)⟩, []),
 (⟨some 14, none, .load 85 (.t 2)⟩, []),
 (⟨some 15, none, .bsl 68 1 [(0, .t 14)]⟩, [⟨some 9, none, .load 72 (.t 1)⟩, ⟨some 10, none, .load 72 (.t 1)⟩, ⟨some 13, none, .load 68 (.t 12)⟩]),
 (⟨some 16, none, .app 68 false (.t 13) (.t 15)⟩, [⟨some 9, none, .load 72 (.t 1)⟩]),
 (⟨some 17, none, .nilck (.t 9)⟩, []),
 (⟨some 18, none, .fad 71 (.t 17) 1⟩, []),
 (⟨none, none, .store 68 (.t 18) (.t 16)⟩, [])]))))
def F75 : AF := ⟨19, [], c75⟩
/-- (*fallow/parse.parser).take -/
def c76 : AC := (.seq (.reg [⟨some 4, none, .mv (.c (.b false))⟩])
 (.seq (.seq (.cut [0, 1] (.reg [⟨some 5, none, .mv (.t 0)⟩,
 ⟨some 6, none, .mv (.t 1)⟩,
 ⟨some 7, none, .bsl 63 1 [(0, .t 6)]⟩,
 ⟨some 8, none, .call (.c (.fn (.func 114) [] [])) [.t 5, .t 7]⟩,
 ⟨some 9, none, .un .not (.t 8)⟩]))
 (.cond (.t 9)
 (.seq (.reg [⟨some 4, none, .mv (.c (.b false))⟩])
 .ret)
 .skip))
 (.seq (.reg [⟨some 10, none, .mv (.t 0)⟩,
 ⟨some 11, none, .call (.c (.fn (.func 111) [] [])) [.t 10]⟩])
 (.seq (.reg [⟨some 4, none, .mv (.c (.b true))⟩])
 .ret))))
def F76 : AF := ⟨12, [.t 4], c76⟩
/-- (*fallow/parse.parser).block -/
def c77 : AC := (.seq (.reg [⟨some 1, none, .box 100 (.t 0)⟩,
 ⟨some 2, none, .alloc 69⟩])
 (.seq (.cut [1, 2] (.reg [⟨some 3, none, .load 100 (.t 1)⟩,
 ⟨some 4, none, .mkf (.func 115) [] [.t 1, .t 2]⟩,
 ⟨some 5, none, .call (.c (.fn (.func 112) [] [])) [.t 3, .c (.s [123]), .t 4]⟩]))
 (.seq (.reg [⟨some 6, none, .load 69 (.t 2)⟩,
 ⟨none, none, .store 69 (.t 2) (.t 6)⟩])
 .ret)))
def F77 : AF := ⟨7, [.cell 2 69], c77⟩
/-- internal/stringslite.HasPrefix -/
def c78 : AC := (.seq (.reg [⟨some 4, none, .mv (.c (.b false))⟩])
 (.seq (.cut [0, 1] (.reg [⟨some 5, none, .mv (.t 0)⟩,
 ⟨some 6, none, .len 9 (.t 5)⟩,
 ⟨some 7, none, .mv (.t 1)⟩,
 ⟨some 8, none, .len 9 (.t 7)⟩,
 ⟨some 9, none, .bin .geq 3 (.t 6) (.t 8)⟩,
 ⟨some 10, none, .mv (.t 9)⟩,
 ⟨some 11, some (10, true), .mv (.t 0)⟩,
 ⟨some 12, some (10, true), .mv (.t 1)⟩,
 ⟨some 13, some (10, true), .len 9 (.t 12)⟩,
 ⟨some 14, some (10, true), .slc 9 (.t 11) none (some (.t 13))⟩,
 ⟨some 15, some (10, true), .mv (.t 1)⟩,
 ⟨some 16, some (10, true), .bin .eql 9 (.t 14) (.t 15)⟩,
 ⟨some 17, none, .pick (.t 10) (.t 16) (.c (.b false))⟩,
 ⟨some 4, none, .mv (.t 17)⟩]))
 .ret))
def F78 : AF := ⟨18, [.t 4], c78⟩
/-- slices.Contains[[]fallow/lex.kind,fallow/lex.kind] -/
def c80 : AC := (.seq (.reg [⟨some 4, none, .mv (.c (.b false))⟩])
 (.seq (.cut [0, 1] (.reg [⟨some 5, none, .mv (.t 0)⟩,
 ⟨some 6, none, .mv (.t 1)⟩,
 ⟨some 7, none, .call (.c (.fn (.func 118) [] [])) [.t 5, .t 6]⟩,
 ⟨some 8, none, .bin .geq 3 (.t 7) (.c (.i .i64 0))⟩,
 ⟨some 4, none, .mv (.t 8)⟩]))
 .ret))
def F80 : AF := ⟨9, [.t 4], c80⟩
/-- slices.Index[[]string,string] -/
def c81L0 : AC := (.seq (.reg [⟨some 9, none, .bin .lss 3 (.t 8) (.t 7)⟩])
 (.seq (.cond (.t 9)
 .skip
 (.exit 0))
 (.seq (.blk 1
 (.seq (.reg [⟨some 10, none, .mv (.t 8)⟩,
 ⟨some 5, none, .mv (.t 10)⟩])
 (.seq (.cut [0, 1, 5, 7, 8] (.reg [⟨some 11, none, .mv (.t 1)⟩,
 ⟨some 12, none, .mv (.t 0)⟩,
 ⟨some 13, none, .mv (.t 5)⟩,
 ⟨some 14, none, .iad 63 (.t 12) (.t 13)⟩,
 ⟨some 15, none, .load 9 (.t 14)⟩,
 ⟨some 16, none, .bin .eql 9 (.t 11) (.t 15)⟩]))
 (.cond (.t 16)
 (.seq (.reg [⟨some 17, none, .mv (.t 5)⟩,
 ⟨some 4, none, .mv (.t 17)⟩])
 .ret)
 .skip))))
 (.reg [⟨some 18, none, .bin .add 3 (.t 8) (.c (.i .i64 1))⟩,
 ⟨some 8, none, .mv (.t 18)⟩]))))
def c81 : AC := (.seq (.reg [⟨some 4, none, .mv (.c (.i .i64 0))⟩])
 (.seq (.seq (.cut [0, 1] (.reg [⟨some 6, none, .mv (.t 0)⟩,
 ⟨some 7, none, .len 63 (.t 6)⟩,
 ⟨some 8, none, .mv (.c (.i .i64 0))⟩]))
 (.blk 0
 (.loop [0, 1, 7, 8] c81L0)))
 (.seq (.reg [⟨some 4, none, .mv (.c (.i .i64 (-1)))⟩])
 .ret)))
def F81 : AF := ⟨19, [.t 4], c81⟩
/-- strings.Fields -/
def c82L0 : AC := (.seq (.seq (.cut [0, 3, 4, 5, 6] (.reg [⟨some 13, none, .mv (.t 6)⟩,
 ⟨some 14, none, .mv (.t 0)⟩,
 ⟨some 15, none, .len 9 (.t 14)⟩,
 ⟨some 16, none, .bin .lss 3 (.t 13) (.t 15)⟩]))
 (.cond (.t 16)
 .skip
 (.exit 0)))
 (.seq (.blk 1
 (.seq (.cut [0, 3, 4, 5, 6] (.reg [⟨some 19, none, .mv (.t 0)⟩,
 ⟨some 20, none, .mv (.t 6)⟩,
 ⟨some 21, none, .idx 9 (.t 19) (.t 20)⟩,
 ⟨some 7, none, .mv (.t 21)⟩]))
 (.seq (.cut [0, 3, 4, 5, 6, 7] (.reg [⟨some 22, none, .mv (.t 5)⟩,
 ⟨some 23, none, .mv (.t 7)⟩,
 ⟨some 24, none, .bin .or 5 (.t 22) (.t 23)⟩,
 ⟨some 5, none, .mv (.t 24)⟩]))
 (.seq (.cut [0, 3, 4, 5, 6, 7] (.reg [⟨some 25, none, .mv (.t 7)⟩,
 ⟨some 26, none, .iad 170 (.c (.p 1 0 0)) (.t 25)⟩,
 ⟨some 27, none, .load 5 (.t 26)⟩,
 ⟨some 28, none, .conv 5 3 (.t 27)⟩,
 ⟨some 8, none, .mv (.t 28)⟩]))
 (.seq (.cut [0, 3, 4, 5, 6, 8] (.reg [⟨some 29, none, .mv (.t 3)⟩,
 ⟨some 30, none, .mv (.t 4)⟩,
 ⟨some 31, none, .mv (.t 8)⟩,
 ⟨some 32, none, .un .xor (.t 31)⟩,
 ⟨some 33, none, .bin .and 3 (.t 30) (.t 32)⟩,
 ⟨some 34, none, .bin .add 3 (.t 29) (.t 33)⟩,
 ⟨some 3, none, .mv (.t 34)⟩]))
 (.reg [⟨some 35, none, .mv (.t 8)⟩,
 ⟨some 4, none, .mv (.t 35)⟩]))))))
 (.cut [0, 3, 4, 5, 6] (.reg [⟨some 17, none, .mv (.t 6)⟩,
 ⟨some 18, none, .bin .add 3 (.t 17) (.c (.i .i64 1))⟩,
 ⟨some 6, none, .mv (.t 18)⟩]))))
def c82L1 : AC := (.seq (.seq (.cut [0, 9, 10, 12] (.reg [⟨some 42, none, .mv (.t 12)⟩,
 ⟨some 43, none, .mv (.t 0)⟩,
 ⟨some 44, none, .len 9 (.t 43)⟩,
 ⟨some 45, none, .bin .lss 3 (.t 42) (.t 44)⟩,
 ⟨some 46, none, .mv (.t 45)⟩,
 ⟨some 47, some (46, true), .mv (.t 0)⟩,
 ⟨some 48, some (46, true), .mv (.t 12)⟩,
 ⟨some 49, some (46, true), .idx 9 (.t 47) (.t 48)⟩,
 ⟨some 50, some (46, true), .iad 170 (.c (.p 1 0 0)) (.t 49)⟩,
 ⟨some 51, some (46, true), .load 5 (.t 50)⟩,
 ⟨some 52, some (46, true), .bin .neq 5 (.t 51) (.c (.i .u8 0))⟩,
 ⟨some 53, none, .pick (.t 46) (.t 52) (.c (.b false))⟩]))
 (.cond (.t 53)
 .skip
 (.exit 2)))
 (.blk 3
 (.cut [0, 9, 10, 12] (.reg [⟨some 54, none, .mv (.t 12)⟩,
 ⟨some 55, none, .bin .add 3 (.t 54) (.c (.i .i64 1))⟩,
 ⟨some 12, none, .mv (.t 55)⟩]))))
def c82L2 : AC := (.seq (.seq (.cut [0, 9, 10, 12] (.reg [⟨some 80, none, .mv (.t 12)⟩,
 ⟨some 81, none, .mv (.t 0)⟩,
 ⟨some 82, none, .len 9 (.t 81)⟩,
 ⟨some 83, none, .bin .lss 3 (.t 80) (.t 82)⟩,
 ⟨some 84, none, .mv (.t 83)⟩,
 ⟨some 85, some (84, true), .mv (.t 0)⟩,
 ⟨some 86, some (84, true), .mv (.t 12)⟩,
 ⟨some 87, some (84, true), .idx 9 (.t 85) (.t 86)⟩,
 ⟨some 88, some (84, true), .iad 170 (.c (.p 1 0 0)) (.t 87)⟩,
 ⟨some 89, some (84, true), .load 5 (.t 88)⟩,
 ⟨some 90, some (84, true), .bin .neq 5 (.t 89) (.c (.i .u8 0))⟩,
 ⟨some 91, none, .pick (.t 84) (.t 90) (.c (.b false))⟩]))
 (.cond (.t 91)
 .skip
 (.exit 6)))
 (.blk 7
 (.cut [0, 9, 10, 12] (.reg [⟨some 92, none, .mv (.t 12)⟩,
 ⟨some 93, none, .bin .add 3 (.t 92) (.c (.i .i64 1))⟩,
 ⟨some 12, none, .mv (.t 93)⟩]))))
def c82L3 : AC := (.seq (.seq (.cut [0, 9, 10, 11, 12] (.reg [⟨some 57, none, .mv (.t 12)⟩,
 ⟨some 58, none, .mv (.t 0)⟩,
 ⟨some 59, none, .len 9 (.t 58)⟩,
 ⟨some 60, none, .bin .lss 3 (.t 57) (.t 59)⟩]))
 (.cond (.t 60)
 .skip
 (.exit 4)))
 (.blk 5
 (.seq (.seq (.cut [0, 9, 10, 11, 12] (.reg [⟨some 61, none, .mv (.t 0)⟩,
 ⟨some 62, none, .mv (.t 12)⟩,
 ⟨some 63, none, .idx 9 (.t 61) (.t 62)⟩,
 ⟨some 64, none, .iad 170 (.c (.p 1 0 0)) (.t 63)⟩,
 ⟨some 65, none, .load 5 (.t 64)⟩,
 ⟨some 66, none, .bin .eql 5 (.t 65) (.c (.i .u8 0))⟩]))
 (.cond (.t 66)
 (.seq (.cut [0, 9, 10, 11, 12] (.reg [⟨some 67, none, .mv (.t 12)⟩,
 ⟨some 68, none, .bin .add 3 (.t 67) (.c (.i .i64 1))⟩,
 ⟨some 12, none, .mv (.t 68)⟩]))
 (.exit 5))
 .skip))
 (.seq (.cut [0, 9, 10, 11, 12] (.reg [⟨some 69, none, .mv (.t 9)⟩,
 ⟨some 70, none, .mv (.t 10)⟩,
 ⟨some 71, none, .mv (.t 0)⟩,
 ⟨some 72, none, .mv (.t 11)⟩,
 ⟨some 73, none, .mv (.t 12)⟩,
 ⟨some 74, none, .slc 9 (.t 71) (some (.t 72)) (some (.t 73))⟩,
 ⟨some 75, none, .iad 63 (.t 69) (.t 70)⟩,
 ⟨none, none, .store 9 (.t 75) (.t 74)⟩]))
 (.seq (.cut [0, 9, 10, 12] (.reg [⟨some 76, none, .mv (.t 10)⟩,
 ⟨some 77, none, .bin .add 3 (.t 76) (.c (.i .i64 1))⟩,
 ⟨some 10, none, .mv (.t 77)⟩]))
 (.seq (.cut [0, 9, 10, 12] (.reg [⟨some 78, none, .mv (.t 12)⟩,
 ⟨some 79, none, .bin .add 3 (.t 78) (.c (.i .i64 1))⟩,
 ⟨some 12, none, .mv (.t 79)⟩]))
 (.seq (.blk 6
 (.loop [0, 9, 10, 12] c82L2))
 (.reg [⟨some 94, none, .mv (.t 12)⟩,
 ⟨some 11, none, .mv (.t 94)⟩]))))))))
def c82 : AC := (.seq (.reg [⟨some 2, none, .mv (.c (.sl0))⟩])
 (.seq (.reg [⟨some 3, none, .mv (.c (.i .i64 0))⟩])
 (.seq (.reg [⟨some 4, none, .mv (.c (.i .i64 1))⟩])
 (.seq (.reg [⟨some 5, none, .mv (.c (.i .u8 0))⟩])
 (.seq (.seq (.reg [⟨some 6, none, .mv (.c (.i .i64 0))⟩])
 (.blk 0
 (.loop [0, 3, 4, 5, 6] c82L0)))
 (.cut [1000000, 0, 3, 5] (.seq (.seq (.reg [⟨some 36, none, .mv (.t 5)⟩,
 ⟨some 37, none, .bin .geq 5 (.t 36) (.c (.i .u8 128))⟩])
 (.cond (.t 37)
 (.seq (.cut [0] (.reg [⟨some 38, none, .mv (.t 0)⟩,
 ⟨some 39, none, .call (.c (.fn (.func 119) [] [])) [.t 38, .c (.fn (.func 120) [] [])]⟩,
 ⟨some 2, none, .mv (.t 39)⟩]))
 .ret)
 .skip))
 (.seq (.cut [0, 3] (.reg [⟨some 40, none, .mv (.t 3)⟩,
 ⟨some 41, none, .mks 63 (.t 40) (.t 40)⟩,
 ⟨some 9, none, .mv (.t 41)⟩]))
 (.seq (.reg [⟨some 10, none, .mv (.c (.i .i64 0))⟩])
 (.seq (.reg [⟨some 11, none, .mv (.c (.i .i64 0))⟩])
 (.seq (.reg [⟨some 12, none, .mv (.c (.i .i64 0))⟩])
 (.seq (.blk 2
 (.loop [0, 9, 10, 12] c82L1))
 (.seq (.reg [⟨some 56, none, .mv (.t 12)⟩,
 ⟨some 11, none, .mv (.t 56)⟩])
 (.seq (.blk 4
 (.loop [0, 9, 10, 11, 12] c82L3))
 (.seq (.seq (.cut [0, 9, 10, 11] (.reg [⟨some 95, none, .mv (.t 11)⟩,
 ⟨some 96, none, .mv (.t 0)⟩,
 ⟨some 97, none, .len 9 (.t 96)⟩,
 ⟨some 98, none, .bin .lss 3 (.t 95) (.t 97)⟩]))
 (.cond (.t 98)
 (.cut [0, 9, 10, 11] (.reg [⟨some 99, none, .mv (.t 9)⟩,
 ⟨some 100, none, .mv (.t 10)⟩,
 ⟨some 101, none, .mv (.t 0)⟩,
 ⟨some 102, none, .mv (.t 11)⟩,
 ⟨some 103, none, .slc 9 (.t 101) (some (.t 102)) none⟩,
 ⟨some 104, none, .iad 63 (.t 99) (.t 100)⟩,
 ⟨none, none, .store 9 (.t 104) (.t 103)⟩]))
 .skip))
 (.seq (.reg [⟨some 105, none, .mv (.t 9)⟩,
 ⟨some 2, none, .mv (.t 105)⟩])
 .ret))))))))))))))))
def F82 : AF := ⟨106, [.t 2], c82⟩
/-- internal/stringslite.CutPrefix -/
def c85 : AC := (.seq (.reg [⟨some 4, none, .mv (.c (.s []))⟩,
 ⟨some 5, none, .mv (.c (.b false))⟩])
 (.seq (.seq (.cut [0, 1] (.reg [⟨some 6, none, .mv (.t 0)⟩,
 ⟨some 7, none, .mv (.t 1)⟩,
 ⟨some 8, none, .call (.c (.fn (.func 78) [] [])) [.t 6, .t 7]⟩,
 ⟨some 9, none, .un .not (.t 8)⟩]))
 (.cond (.t 9)
 (.seq (.cut [0] (.reg [⟨some 10, none, .mv (.t 0)⟩,
 ⟨some 4, none, .mv (.t 10)⟩,
 ⟨some 5, none, .mv (.c (.b false))⟩]))
 .ret)
 .skip))
 (.seq (.cut [0, 1] (.reg [⟨some 11, none, .mv (.t 0)⟩,
 ⟨some 12, none, .mv (.t 1)⟩,
 ⟨some 13, none, .len 9 (.t 12)⟩,
 ⟨some 14, none, .slc 9 (.t 11) (some (.t 13)) none⟩,
 ⟨some 4, none, .mv (.t 14)⟩,
 ⟨some 5, none, .mv (.c (.b true))⟩]))
 .ret)))
def F85 : AF := ⟨15, [.t 4, .t 5], c85⟩
/-- internal/stringslite.CutSuffix -/
def c86 : AC := (.seq (.reg [⟨some 4, none, .mv (.c (.s []))⟩,
 ⟨some 5, none, .mv (.c (.b false))⟩])
 (.seq (.seq (.cut [0, 1] (.reg [⟨some 6, none, .mv (.t 0)⟩,
 ⟨some 7, none, .mv (.t 1)⟩,
 ⟨some 8, none, .call (.c (.fn (.func 127) [] [])) [.t 6, .t 7]⟩,
 ⟨some 9, none, .un .not (.t 8)⟩]))
 (.cond (.t 9)
 (.seq (.cut [0] (.reg [⟨some 10, none, .mv (.t 0)⟩,
 ⟨some 4, none, .mv (.t 10)⟩,
 ⟨some 5, none, .mv (.c (.b false))⟩]))
 .ret)
 .skip))
 (.seq (.cut [0, 1] (.reg [⟨some 11, none, .mv (.t 0)⟩,
 ⟨some 12, none, .mv (.t 0)⟩,
 ⟨some 13, none, .len 9 (.t 12)⟩,
 ⟨some 14, none, .mv (.t 1)⟩,
 ⟨some 15, none, .len 9 (.t 14)⟩,
 ⟨some 16, none, .bin .sub 3 (.t 13) (.t 15)⟩,
 ⟨some 17, none, .slc 9 (.t 11) none (some (.t 16))⟩,
 ⟨some 4, none, .mv (.t 17)⟩,
 ⟨some 5, none, .mv (.c (.b true))⟩]))
 .ret)))
def F86 : AF := ⟨18, [.t 4, .t 5], c86⟩
/-- errors.is -/
def c92L0 : AC := (.seq (.reg [⟨some 46, none, .bin .lss 3 (.t 45) (.t 44)⟩])
 (.seq (.cond (.t 46)
 .skip
 (.exit 3))
 (.seq (.blk 4
 (.seq (.cut [1, 2, 43, 44, 45] (.reg [⟨some 47, none, .iad 190 (.t 43) (.t 45)⟩,
 ⟨some 48, none, .load 36 (.t 47)⟩,
 ⟨some 12, none, .mv (.t 48)⟩]))
 (.seq (.cut [1, 2, 12, 43, 44, 45] (.reg [⟨some 49, none, .mv (.t 12)⟩,
 ⟨some 50, none, .mv (.t 1)⟩,
 ⟨some 51, none, .mv (.t 2)⟩,
 ⟨some 52, none, .call (.c (.fn (.func 92) [] [])) [.t 49, .t 50, .t 51]⟩]))
 (.cond (.t 52)
 (.seq (.reg [⟨some 6, none, .mv (.c (.b true))⟩])
 .ret)
 .skip))))
 (.reg [⟨some 53, none, .bin .add 3 (.t 45) (.c (.i .i64 1))⟩,
 ⟨some 45, none, .mv (.t 53)⟩]))))
def c92L1 : AC := (.blk 1
 (.seq (.seq (.cut [0, 1, 2] (.reg [⟨some 14, none, .mv (.t 2)⟩,
 ⟨some 15, none, .mv (.t 14)⟩,
 ⟨some 16, some (15, true), .mv (.t 0)⟩,
 ⟨some 17, some (15, true), .mv (.t 1)⟩,
 ⟨some 18, some (15, true), .bin .eql 36 (.t 16) (.t 17)⟩,
 ⟨some 19, none, .pick (.t 15) (.t 18) (.c (.b false))⟩]))
 (.cond (.t 19)
 (.seq (.reg [⟨some 6, none, .mv (.c (.b true))⟩])
 .ret)
 .skip))
 (.seq (.seq (.cut [0, 1, 2] (.reg [⟨some 21, none, .mv (.t 0)⟩,
 ⟨some 22, none, .tas (.t 21) 36 192 true⟩,
 ⟨some 20, none, .mv (.t 22)⟩,
 ⟨some 23, none, .ext (.t 20) 0⟩,
 ⟨some 24, none, .ext (.t 20) 1⟩,
 ⟨some 7, none, .mv (.t 23)⟩,
 ⟨some 8, none, .mv (.t 24)⟩]))
 (.seq (.cut [0, 1, 2, 7, 8] (.reg [⟨some 25, none, .mv (.t 8)⟩,
 ⟨some 26, none, .mv (.t 25)⟩,
 ⟨some 27, some (26, true), .mv (.t 7)⟩,
 ⟨some 28, some (26, true), .mv (.t 1)⟩,
 ⟨some 29, some (26, true), .inv (.t 27) "Is" [.t 28]⟩,
 ⟨some 30, none, .pick (.t 26) (.t 29) (.c (.b false))⟩]))
 (.cond (.t 30)
 (.seq (.reg [⟨some 6, none, .mv (.c (.b true))⟩])
 .ret)
 .skip)))
 (.seq (.reg [⟨some 31, none, .mv (.t 0)⟩])
 (.blk 2
 (.seq (.cut [1, 2, 31] (.reg [⟨some 32, none, .tas (.t 31) 36 187 true⟩,
 ⟨some 33, none, .ext (.t 32) 1⟩,
 ⟨some 34, none, .ext (.t 32) 0⟩]))
 (.cut [1000000, 1, 2, 31, 33, 34] (.cond (.t 33)
 (.seq (.reg [⟨some 9, none, .mv (.t 34)⟩])
 (.seq (.cut [1, 2, 9] (.reg [⟨some 35, none, .mv (.t 9)⟩,
 ⟨some 36, none, .inv (.t 35) "Unwrap" []⟩,
 ⟨some 0, none, .mv (.t 36)⟩]))
 (.seq (.reg [⟨some 37, none, .mv (.t 0)⟩,
 ⟨some 38, none, .bin .eql 36 (.t 37) (.c (.ic0))⟩])
 (.cond (.t 38)
 (.seq (.reg [⟨some 6, none, .mv (.c (.b false))⟩])
 .ret)
 .skip))))
 (.seq (.cut [1, 2, 31] (.reg [⟨some 39, none, .tas (.t 31) 36 189 true⟩,
 ⟨some 40, none, .ext (.t 39) 1⟩,
 ⟨some 41, none, .ext (.t 39) 0⟩]))
 (.cond (.t 40)
 (.seq (.reg [⟨some 10, none, .mv (.t 41)⟩])
 (.seq (.seq (.cut [1, 2, 10] (.reg [⟨some 42, none, .mv (.t 10)⟩,
 ⟨some 43, none, .inv (.t 42) "Unwrap" []⟩,
 ⟨some 44, none, .len 190 (.t 43)⟩,
 ⟨some 45, none, .mv (.c (.i .i64 0))⟩]))
 (.blk 3
 (.loop [1, 2, 43, 44, 45] c92L0)))
 (.seq (.reg [⟨some 6, none, .mv (.c (.b false))⟩])
 .ret)))
 (.seq (.reg [⟨some 13, none, .mv (.t 31)⟩])
 (.seq (.reg [⟨some 6, none, .mv (.c (.b false))⟩])
 .ret))))))))))))
def c92 : AC := (.seq (.reg [⟨some 6, none, .mv (.c (.b false))⟩])
 (.blk 0
 (.loop [0, 1, 2] c92L1)))
def F92 : AF := ⟨54, [.t 6], c92⟩
/-- (*strings.Builder).WriteString -/
def c103 : AC := (.seq (.reg [⟨some 4, none, .mv (.c (.i .i64 0))⟩,
 ⟨some 5, none, .mv (.c (.ic0))⟩])
 (.seq (.reg [⟨some 6, none, .mv (.t 0)⟩,
 ⟨some 7, none, .call (.c (.fn (.func 137) [] [])) [.t 6]⟩])
 (.seq (.cut [0, 1] (.reg [⟨some 8, none, .mv (.t 0)⟩,
 ⟨some 9, none, .mv (.t 0)⟩,
 ⟨some 10, none, .nilck (.t 9)⟩,
 ⟨some 11, none, .fad 90 (.t 10) 1⟩,
 ⟨some 12, none, .load 39 (.t 11)⟩,
 ⟨some 13, none, .mv (.t 1)⟩,
 ⟨some 14, none, .app 39 true (.t 12) (.t 13)⟩,
 ⟨some 15, none, .nilck (.t 8)⟩,
 ⟨some 16, none, .fad 90 (.t 15) 1⟩,
 ⟨none, none, .store 39 (.t 16) (.t 14)⟩]))
 (.seq (.cut [1] (.reg [⟨some 17, none, .mv (.t 1)⟩,
 ⟨some 18, none, .len 9 (.t 17)⟩,
 ⟨some 4, none, .mv (.t 18)⟩,
 ⟨some 5, none, .mv (.c (.ic0))⟩]))
 .ret))))
def F103 : AF := ⟨19, [.t 4, .t 5], c103⟩
/-- (*fallow/parse.printer).tabs -/
def c104 : AC := (.cut [0] (.reg [⟨some 2, none, .mv (.t 0)⟩,
 ⟨some 3, none, .mv (.t 0)⟩,
 ⟨some 4, none, .nilck (.t 3)⟩,
 ⟨some 5, none, .fad 92 (.t 4) 1⟩,
 ⟨some 6, none, .load 3 (.t 5)⟩,
 ⟨some 7, none, .call (.c (.fn (.func 138) [] [])) [.c (.s [9]), .t 6]⟩,
 ⟨some 8, none, .bsl 63 1 [(0, .t 7)]⟩,
 ⟨some 9, none, .call (.c (.fn (.func 64) [] [])) [.t 2, .t 8]⟩]))
def F104 : AF := ⟨10, [], c104⟩
/-- (*fallow/parse.printer).stmt -/
def c105 : AC := (.seq (.seq (.reg [⟨some 4, none, .mv (.t 1)⟩,
 ⟨some 5, none, .bin .eql 73 (.t 4) (.c (.p0))⟩])
 (.cond (.t 5)
 (.seq (.cut [0] (.reg [⟨some 6, none, .mv (.t 0)⟩,
 ⟨some 7, none, .nilck (.t 6)⟩,
 ⟨some 8, none, .fad 92 (.t 7) 2⟩,
 ⟨none, none, .store 4 (.t 8) (.c (.b true))⟩]))
 .ret)
 .skip))
 (.seq (.cut [0, 1] (.reg [⟨some 9, none, .mv (.t 1)⟩,
 ⟨some 10, none, .nilck (.t 9)⟩,
 ⟨some 11, none, .fad 75 (.t 10) 0⟩,
 ⟨some 12, none, .load 3 (.t 11)⟩]))
 (.blk 0
 (.seq (.reg [⟨some 17, none, .bin .eql 3 (.t 12) (.c (.i .i64 1))⟩,
 ⟨some 16, none, .mv (.t 17)⟩])
 (.cond (.t 16)
 (.seq (.cut [0, 1] (.reg [⟨some 18, none, .mv (.t 0)⟩,
 ⟨some 19, none, .mv (.t 1)⟩,
 ⟨some 20, none, .nilck (.t 19)⟩,
 ⟨some 21, none, .fad 75 (.t 20) 1⟩,
 ⟨some 22, none, .load 9 (.t 21)⟩,
 ⟨some 23, none, .bsl 63 2 [(0, .c (.s [118, 97, 114, 32])), (1, .t 22)]⟩,
 ⟨some 24, none, .call (.c (.fn (.func 64) [] [])) [.t 18, .t 23]⟩]))
 (.seq (.seq (.cut [0, 1] (.reg [⟨some 25, none, .mv (.t 1)⟩,
 ⟨some 26, none, .nilck (.t 25)⟩,
 ⟨some 27, none, .fad 75 (.t 26) 2⟩,
 ⟨some 28, none, .load 4 (.t 27)⟩]))
 (.cond (.t 28)
 (.cut [0, 1] (.reg [⟨some 29, none, .mv (.t 0)⟩,
 ⟨some 30, none, .bsl 63 1 [(0, .c (.s [32, 112, 116, 114]))]⟩,
 ⟨some 31, none, .call (.c (.fn (.func 64) [] [])) [.t 29, .t 30]⟩]))
 .skip))
 (.cut [1000000, 0, 1] (.seq (.seq (.cut [0, 1] (.reg [⟨some 32, none, .mv (.t 1)⟩,
 ⟨some 33, none, .nilck (.t 32)⟩,
 ⟨some 34, none, .fad 75 (.t 33) 4⟩,
 ⟨some 35, none, .load 52 (.t 34)⟩,
 ⟨some 36, none, .bin .eql 52 (.t 35) (.c (.p0))⟩]))
 (.cond (.t 36)
 (.seq (.cut [0] (.reg [⟨some 37, none, .mv (.t 0)⟩,
 ⟨some 38, none, .bsl 63 1 [(0, .c (.s [59]))]⟩,
 ⟨some 39, none, .call (.c (.fn (.func 64) [] [])) [.t 37, .t 38]⟩]))
 .ret)
 .skip))
 (.cut [0, 1] (.reg [⟨some 40, none, .mv (.t 0)⟩,
 ⟨some 41, none, .mv (.t 1)⟩,
 ⟨some 42, none, .nilck (.t 41)⟩,
 ⟨some 43, none, .fad 75 (.t 42) 4⟩,
 ⟨some 44, none, .load 52 (.t 43)⟩,
 ⟨some 45, none, .call (.c (.fn (.func 139) [] [])) [.t 40, .c (.s [32, 61, 32]), .t 44]⟩]))))))
 (.seq (.reg [⟨some 47, none, .bin .eql 3 (.t 12) (.c (.i .i64 2))⟩,
 ⟨some 46, none, .mv (.t 47)⟩])
 (.cond (.t 46)
 (.cut [0, 1] (.drw [(⟨some 48, none, .mv (.t 0)⟩, []),
 (⟨some 49, none, .mv (.t 1)⟩, []),
 (⟨some 50, none, .nilck (.t 49)⟩, []),
 (⟨some 51, none, .fad 75 (.t 50) 1⟩, []),
 (⟨some 52, none, .load 9 (.t 51)⟩, []),
 (⟨some 53, none, .bin .add 9 (.t 52) (.c (.s [32, 61, 32]))⟩, []),
 (⟨some 54, none, .mv (.t 1)⟩, []),
 (⟨some 55, none, .nilck (.t 54)⟩, []),
 (⟨some 56, none, .fad 75 (.t 55) 4⟩, []),
 (⟨some 57, none, .load 52 (.t 56)⟩, []),
 (⟨some 58, none, .call (.c (.fn (.func 139) [] [])) [.t 48, .t 53, .t 57]⟩, [])]))
 (.seq (.reg [⟨some 60, none, .bin .eql 3 (.t 12) (.c (.i .i64 3))⟩,
 ⟨some 59, none, .mv (.t 60)⟩])
 (.cond (.t 59)
 (.seq (.cut [0, 1] (.reg [⟨some 61, none, .mv (.t 0)⟩,
 ⟨some 62, none, .mv (.t 1)⟩,
 ⟨some 63, none, .nilck (.t 62)⟩,
 ⟨some 64, none, .fad 75 (.t 63) 3⟩,
 ⟨some 65, none, .load 52 (.t 64)⟩,
 ⟨some 66, none, .call (.c (.fn (.func 140) [] [])) [.t 61, .t 65, .c (.i .i64 8)]⟩]))
 (.cut [0, 1] (.reg [⟨some 67, none, .mv (.t 0)⟩,
 ⟨some 68, none, .mv (.t 1)⟩,
 ⟨some 69, none, .nilck (.t 68)⟩,
 ⟨some 70, none, .fad 75 (.t 69) 4⟩,
 ⟨some 71, none, .load 52 (.t 70)⟩,
 ⟨some 72, none, .call (.c (.fn (.func 139) [] [])) [.t 67, .c (.s [32, 61, 32]), .t 71]⟩])))
 (.seq (.reg [⟨some 74, none, .bin .eql 3 (.t 12) (.c (.i .i64 4))⟩,
 ⟨some 73, none, .mv (.t 74)⟩])
 (.cond (.t 73)
 (.cut [0, 1] (.reg [⟨some 75, none, .mv (.t 0)⟩,
 ⟨some 76, none, .mv (.t 1)⟩,
 ⟨some 77, none, .call (.c (.fn (.func 141) [] [])) [.t 75, .t 76]⟩]))
 (.seq (.reg [⟨some 79, none, .bin .eql 3 (.t 12) (.c (.i .i64 5))⟩,
 ⟨some 78, none, .mv (.t 79)⟩])
 (.cut [1000000, 0, 1, 12, 78] (.cond (.t 78)
 (.seq (.cut [0, 1] (.reg [⟨some 80, none, .mv (.t 0)⟩,
 ⟨some 81, none, .bsl 63 1 [(0, .c (.s [119, 104, 105, 108, 101, 32]))]⟩,
 ⟨some 82, none, .call (.c (.fn (.func 64) [] [])) [.t 80, .t 81]⟩]))
 (.seq (.cut [0, 1] (.reg [⟨some 83, none, .mv (.t 0)⟩,
 ⟨some 84, none, .mv (.t 1)⟩,
 ⟨some 85, none, .nilck (.t 84)⟩,
 ⟨some 86, none, .fad 75 (.t 85) 4⟩,
 ⟨some 87, none, .load 52 (.t 86)⟩,
 ⟨some 88, none, .call (.c (.fn (.func 140) [] [])) [.t 83, .t 87, .c (.i .i64 1)]⟩]))
 (.cut [0, 1] (.reg [⟨some 89, none, .mv (.t 0)⟩,
 ⟨some 90, none, .mv (.t 1)⟩,
 ⟨some 91, none, .nilck (.t 90)⟩,
 ⟨some 92, none, .fad 75 (.t 91) 5⟩,
 ⟨some 93, none, .load 69 (.t 92)⟩,
 ⟨some 94, none, .call (.c (.fn (.func 65) [] [])) [.t 89, .t 93]⟩]))))
 (.seq (.reg [⟨some 96, none, .bin .eql 3 (.t 12) (.c (.i .i64 6))⟩,
 ⟨some 95, none, .mv (.t 96)⟩])
 (.cond (.t 95)
 (.cut [0, 1] (.reg [⟨some 97, none, .mv (.t 0)⟩,
 ⟨some 98, none, .mv (.t 1)⟩,
 ⟨some 99, none, .nilck (.t 98)⟩,
 ⟨some 100, none, .fad 75 (.t 99) 4⟩,
 ⟨some 101, none, .load 52 (.t 100)⟩,
 ⟨some 102, none, .call (.c (.fn (.func 139) [] [])) [.t 97, .c (.s [111, 117, 116, 32]), .t 101]⟩]))
 (.seq (.reg [⟨some 104, none, .bin .eql 3 (.t 12) (.c (.i .i64 7))⟩,
 ⟨some 103, none, .mv (.t 104)⟩])
 (.cond (.t 103)
 (.cut [0, 1] (.reg [⟨some 105, none, .mv (.t 0)⟩,
 ⟨some 106, none, .mv (.t 1)⟩,
 ⟨some 107, none, .nilck (.t 106)⟩,
 ⟨some 108, none, .fad 75 (.t 107) 4⟩,
 ⟨some 109, none, .load 52 (.t 108)⟩,
 ⟨some 110, none, .call (.c (.fn (.func 139) [] [])) [.t 105, .c (.s [102, 114, 101, 101, 32]), .t 109]⟩]))
 (.seq (.reg [⟨some 112, none, .bin .eql 3 (.t 12) (.c (.i .i64 8))⟩,
 ⟨some 111, none, .mv (.t 112)⟩])
 (.cond (.t 111)
 (.cut [0] (.reg [⟨some 113, none, .mv (.t 0)⟩,
 ⟨some 114, none, .bsl 63 1 [(0, .c (.s [100, 114, 97, 105, 110, 59]))]⟩,
 ⟨some 115, none, .call (.c (.fn (.func 64) [] [])) [.t 113, .t 114]⟩]))
 (.seq (.reg [⟨some 117, none, .bin .eql 3 (.t 12) (.c (.i .i64 9))⟩,
 ⟨some 116, none, .mv (.t 117)⟩])
 (.cond (.t 116)
 (.seq (.seq (.cut [0, 1] (.reg [⟨some 118, none, .mv (.t 1)⟩,
 ⟨some 119, none, .nilck (.t 118)⟩,
 ⟨some 120, none, .fad 75 (.t 119) 4⟩,
 ⟨some 121, none, .load 52 (.t 120)⟩,
 ⟨some 122, none, .bin .eql 52 (.t 121) (.c (.p0))⟩]))
 (.cond (.t 122)
 (.seq (.cut [0] (.reg [⟨some 123, none, .mv (.t 0)⟩,
 ⟨some 124, none, .bsl 63 1 [(0, .c (.s [114, 101, 116, 117, 114, 110, 59]))]⟩,
 ⟨some 125, none, .call (.c (.fn (.func 64) [] [])) [.t 123, .t 124]⟩]))
 .ret)
 .skip))
 (.cut [0, 1] (.reg [⟨some 126, none, .mv (.t 0)⟩,
 ⟨some 127, none, .mv (.t 1)⟩,
 ⟨some 128, none, .nilck (.t 127)⟩,
 ⟨some 129, none, .fad 75 (.t 128) 4⟩,
 ⟨some 130, none, .load 52 (.t 129)⟩,
 ⟨some 131, none, .call (.c (.fn (.func 139) [] [])) [.t 126, .c (.s [114, 101, 116, 117, 114, 110, 32]), .t 130]⟩])))
 (.seq (.reg [⟨some 133, none, .bin .eql 3 (.t 12) (.c (.i .i64 10))⟩,
 ⟨some 132, none, .mv (.t 133)⟩])
 (.cond (.t 132)
 (.cut [0, 1] (.reg [⟨some 134, none, .mv (.t 0)⟩,
 ⟨some 135, none, .mv (.t 1)⟩,
 ⟨some 136, none, .nilck (.t 135)⟩,
 ⟨some 137, none, .fad 75 (.t 136) 4⟩,
 ⟨some 138, none, .load 52 (.t 137)⟩,
 ⟨some 139, none, .call (.c (.fn (.func 139) [] [])) [.t 134, .c (.s []), .t 138]⟩]))
 (.cut [0] (.reg [⟨some 13, none, .mv (.t 0)⟩,
 ⟨some 14, none, .nilck (.t 13)⟩,
 ⟨some 15, none, .fad 92 (.t 14) 2⟩,
 ⟨none, none, .store 4 (.t 15) (.c (.b true))⟩]))))))))))))))))))))))))))
def F105 : AF := ⟨140, [], c105⟩
/-- fallow/parse.both[fallow/api.Stmt] -/
def c106 : AC := (.seq (.reg [⟨some 6, none, .mv (.c (.b false))⟩])
 (.seq (.seq (.cut [0, 1, 2] (.reg [⟨some 7, none, .mv (.t 0)⟩,
 ⟨some 8, none, .bin .eql 73 (.t 7) (.c (.p0))⟩,
 ⟨some 9, none, .mv (.t 8)⟩,
 ⟨some 10, some (9, false), .mv (.t 1)⟩,
 ⟨some 11, some (9, false), .bin .eql 73 (.t 10) (.c (.p0))⟩,
 ⟨some 12, none, .pick (.t 9) (.c (.b true)) (.t 11)⟩]))
 (.cond (.t 12)
 (.seq (.cut [0, 1] (.reg [⟨some 13, none, .mv (.t 0)⟩,
 ⟨some 14, none, .bin .eql 73 (.t 13) (.c (.p0))⟩,
 ⟨some 15, none, .mv (.t 14)⟩,
 ⟨some 16, some (15, true), .mv (.t 1)⟩,
 ⟨some 17, some (15, true), .bin .eql 73 (.t 16) (.c (.p0))⟩,
 ⟨some 18, none, .pick (.t 15) (.t 17) (.c (.b false))⟩,
 ⟨some 6, none, .mv (.t 18)⟩]))
 .ret)
 .skip))
 (.seq (.cut [0, 1, 2] (.reg [⟨some 19, none, .mv (.t 2)⟩,
 ⟨some 20, none, .mv (.t 0)⟩,
 ⟨some 21, none, .mv (.t 1)⟩,
 ⟨some 22, none, .call (.t 19) [.t 20, .t 21]⟩,
 ⟨some 6, none, .mv (.t 22)⟩]))
 .ret)))
def F106 : AF := ⟨23, [.t 6], c106⟩
/-- fallow/parse.sameStmt$1 -/
def c107 : AC := (.seq (.reg [⟨some 4, none, .mv (.c (.b false))⟩])
 (.seq (.cut [0, 1] (.drw [(⟨some 6, none, .mv (.t 0)⟩, []),
 (⟨some 7, none, .nilck (.t 6)⟩, []),
 (⟨some 8, none, .fad 75 (.t 7) 0⟩, []),
 (⟨some 9, none, .load 3 (.t 8)⟩, []),
 (⟨some 10, none, .mv (.t 1)⟩, []),
 (⟨some 11, none, .nilck (.t 10)⟩, []),
 (⟨some 12, none, .fad 75 (.t 11) 0⟩, []),
 (⟨some 13, none, .load 3 (.t 12)⟩, []),
 (⟨some 14, none, .bin .eql 3 (.t 9) (.t 13)⟩, []),
 (⟨some 15, none, .mv (.t 14)⟩, []),
 (⟨some 16, some (15, true), .mv (.t 0)⟩, []),
 (⟨some 17, some (15, true), .nilck (.t 16)⟩, []),
 (⟨some 18, some (15, true), .fad 75 (.t 17) 1⟩, []),
 (⟨some 19, some (15, true), .load 9 (.t 18)⟩, []),
 (⟨some 20, some (15, true), .mv (.t 1)⟩, []),
 (⟨some 21, some (15, true), .nilck (.t 20)⟩, []),
 (⟨some 22, some (15, true), .fad 75 (.t 21) 1⟩, []),
 (⟨some 23, some (15, true), .load 9 (.t 22)⟩, []),
 (⟨some 24, some (15, true), .bin .eql 9 (.t 19) (.t 23)⟩, []),
 (⟨some 25, none, .pick (.t 15) (.t 24) (.c (.b false))⟩, []),
 (⟨some 26, none, .mv (.t 25)⟩, []),
 (⟨some 27, some (26, true), .mv (.t 0)⟩, []),
 (⟨some 28, some (26, true), .nilck (.t 27)⟩, []),
 (⟨some 29, some (26, true), .fad 75 (.t 28) 2⟩, []),
 (⟨some 30, some (26, true), .load 4 (.t 29)⟩, []),
 (⟨some 31, some (26, true), .mv (.t 1)⟩, []),
 (⟨some 32, some (26, true), .nilck (.t 31)⟩, []),
 (⟨some 33, some (26, true), .fad 75 (.t 32) 2⟩, []),
 (⟨some 34, some (26, true), .load 4 (.t 33)⟩, []),
 (⟨some 35, some (26, true), .bin .eql 4 (.t 30) (.t 34)⟩, []),
 (⟨some 36, none, .pick (.t 26) (.t 35) (.c (.b false))⟩, []),
 (⟨some 5, none, .mv (.t 36)⟩, [])]))
 (.cut [1000000, 0, 1, 5] (.seq (.cut [0, 1, 5] (.drw [(⟨some 37, none, .mv (.t 5)⟩, []),
 (⟨some 38, none, .mv (.t 37)⟩, []),
 (⟨some 39, some (38, true), .mv (.t 0)⟩, []),
 (⟨some 40, some (38, true), .nilck (.t 39)⟩, []),
 (⟨some 41, some (38, true), .fad 75 (.t 40) 3⟩, []),
 (⟨some 42, some (38, true), .load 52 (.t 41)⟩, []),
 (⟨some 43, some (38, true), .mv (.t 1)⟩, []),
 (⟨some 44, some (38, true), .nilck (.t 43)⟩, []),
 (⟨some 45, some (38, true), .fad 75 (.t 44) 3⟩, []),
 (⟨some 46, some (38, true), .load 52 (.t 45)⟩, []),
 (⟨some 47, some (38, true), .call (.c (.fn (.func 108) [] [])) [.t 42, .t 46]⟩, []),
 (⟨some 48, none, .pick (.t 38) (.t 47) (.c (.b false))⟩, []),
 (⟨some 49, none, .mv (.t 48)⟩, []),
 (⟨some 50, some (49, true), .mv (.t 0)⟩, []),
 (⟨some 51, some (49, true), .nilck (.t 50)⟩, []),
 (⟨some 52, some (49, true), .fad 75 (.t 51) 4⟩, []),
 (⟨some 53, some (49, true), .load 52 (.t 52)⟩, []),
 (⟨some 54, some (49, true), .mv (.t 1)⟩, []),
 (⟨some 55, some (49, true), .nilck (.t 54)⟩, []),
 (⟨some 56, some (49, true), .fad 75 (.t 55) 4⟩, []),
 (⟨some 57, some (49, true), .load 52 (.t 56)⟩, []),
 (⟨some 58, some (49, true), .call (.c (.fn (.func 108) [] [])) [.t 53, .t 57]⟩, []),
 (⟨some 59, none, .pick (.t 49) (.t 58) (.c (.b false))⟩, []),
 (⟨some 60, none, .mv (.t 59)⟩, []),
 (⟨some 61, some (60, true), .mv (.t 0)⟩, []),
 (⟨some 62, some (60, true), .nilck (.t 61)⟩, []),
 (⟨some 63, some (60, true), .fad 75 (.t 62) 5⟩, []),
 (⟨some 64, some (60, true), .load 69 (.t 63)⟩, []),
 (⟨some 65, some (60, true), .mv (.t 1)⟩, []),
 (⟨some 66, some (60, true), .nilck (.t 65)⟩, []),
 (⟨some 67, some (60, true), .fad 75 (.t 66) 5⟩, []),
 (⟨some 68, some (60, true), .load 69 (.t 67)⟩, []),
 (⟨some 69, some (60, true), .call (.c (.fn (.func 69) [] [])) [.t 64, .t 68, .c (.fn (.func 70) [] [])]⟩, []),
 (⟨some 70, none, .pick (.t 60) (.t 69) (.c (.b false))⟩, []),
 (⟨some 71, none, .mv (.t 70)⟩, []),
 (⟨some 72, some (71, true), .mv (.t 0)⟩, []),
 (⟨some 73, some (71, true), .nilck (.t 72)⟩, []),
 (⟨some 74, some (71, true), .fad 75 (.t 73) 6⟩, []),
 (⟨some 75, some (71, true), .load 69 (.t 74)⟩, []),
 (⟨some 76, some (71, true), .mv (.t 1)⟩, []),
 (⟨some 77, some (71, true), .nilck (.t 76)⟩, []),
 (⟨some 78, some (71, true), .fad 75 (.t 77) 6⟩, []),
 (⟨some 79, some (71, true), .load 69 (.t 78)⟩, []),
 (⟨some 80, some (71, true), .call (.c (.fn (.func 69) [] [])) [.t 75, .t 79, .c (.fn (.func 70) [] [])]⟩, []),
 (⟨some 81, none, .pick (.t 71) (.t 80) (.c (.b false))⟩, []),
 (⟨some 4, none, .mv (.t 81)⟩, [])]))
 (.cut [1000000, 4] .ret)))))
def F107 : AF := ⟨82, [.t 4], c107⟩
/-- fallow/parse.sameExpr -/
def c108 : AC := (.seq (.reg [⟨some 4, none, .mv (.c (.b false))⟩])
 (.seq (.cut [0, 1] (.reg [⟨some 5, none, .mv (.t 0)⟩,
 ⟨some 6, none, .mv (.t 1)⟩,
 ⟨some 7, none, .call (.c (.fn (.func 142) [] [])) [.t 5, .t 6, .c (.fn (.func 143) [] [])]⟩,
 ⟨some 4, none, .mv (.t 7)⟩]))
 .ret))
def F108 : AF := ⟨8, [.t 4], c108⟩
/-- (*fallow/parse.parser).fail -/
def c110 : AC := (.seq (.cut [0, 1] (.reg [⟨some 4, none, .mv (.t 0)⟩,
 ⟨some 5, none, .call (.c (.fn (.func 37) [] [])) [.t 4]⟩,
 ⟨some 6, none, .un .not (.t 5)⟩]))
 (.cond (.t 6)
 (.cut [0, 1] (.reg [⟨some 7, none, .mv (.t 0)⟩,
 ⟨some 8, none, .mv (.t 1)⟩,
 ⟨some 9, none, .mv (.t 0)⟩,
 ⟨some 10, none, .call (.c (.fn (.func 38) [] [])) [.t 9]⟩,
 ⟨some 11, none, .fld 44 (.t 10) 2⟩,
 ⟨some 12, none, .build 25 [(0, .t 8), (1, .t 11)]⟩,
 ⟨some 13, none, .box 25 (.t 12)⟩,
 ⟨some 14, none, .nilck (.t 7)⟩,
 ⟨some 15, none, .fad 103 (.t 14) 2⟩,
 ⟨none, none, .store 101 (.t 15) (.t 13)⟩]))
 .skip))
def F110 : AF := ⟨16, [], c110⟩
/-- (*fallow/parse.parser).step -/
def c111 : AC := (.seq (.cut [0] (.reg [⟨some 2, none, .mv (.t 0)⟩,
 ⟨some 3, none, .nilck (.t 2)⟩,
 ⟨some 4, none, .fad 103 (.t 3) 0⟩,
 ⟨some 5, none, .load 40 (.t 4)⟩,
 ⟨some 6, none, .len 40 (.t 5)⟩,
 ⟨some 7, none, .bin .gtr 3 (.t 6) (.c (.i .i64 1))⟩]))
 (.cond (.t 7)
 (.cut [0] (.reg [⟨some 8, none, .mv (.t 0)⟩,
 ⟨some 9, none, .mv (.t 0)⟩,
 ⟨some 10, none, .nilck (.t 9)⟩,
 ⟨some 11, none, .fad 103 (.t 10) 0⟩,
 ⟨some 12, none, .load 40 (.t 11)⟩,
 ⟨some 13, none, .slc 40 (.t 12) (some (.c (.i .i64 1))) none⟩,
 ⟨some 14, none, .nilck (.t 8)⟩,
 ⟨some 15, none, .fad 103 (.t 14) 0⟩,
 ⟨none, none, .store 40 (.t 15) (.t 13)⟩]))
 .skip))
def F111 : AF := ⟨16, [], c111⟩
/-- (*fallow/parse.parser).in -/
def c112 : AC := (.seq (.seq (.cut [0, 1, 2] (.reg [⟨some 6, none, .mv (.t 0)⟩,
 ⟨some 7, none, .mv (.t 1)⟩,
 ⟨some 8, none, .bsl 63 1 [(0, .t 7)]⟩,
 ⟨some 9, none, .call (.c (.fn (.func 114) [] [])) [.t 6, .t 8]⟩,
 ⟨some 10, none, .mv (.t 9)⟩,
 ⟨some 11, some (10, true), .mv (.t 0)⟩,
 ⟨some 12, some (10, true), .nilck (.t 11)⟩,
 ⟨some 13, some (10, true), .fad 103 (.t 12) 1⟩,
 ⟨some 14, some (10, true), .load 3 (.t 13)⟩,
 ⟨some 15, some (10, true), .bin .geq 3 (.t 14) (.c (.i .i64 64))⟩,
 ⟨some 16, none, .pick (.t 10) (.t 15) (.c (.b false))⟩]))
 (.cond (.t 16)
 (.reg [⟨some 17, none, .mv (.t 0)⟩,
 ⟨some 18, none, .call (.c (.fn (.func 110) [] [])) [.t 17, .c (.i .i64 3)]⟩])
 .skip))
 (.cut [1000000, 0, 1, 2] (.seq (.cut [0, 1, 2] (.reg [⟨some 19, none, .mv (.t 0)⟩,
 ⟨some 20, none, .mv (.t 1)⟩,
 ⟨some 21, none, .call (.c (.fn (.func 72) [] [])) [.t 19, .t 20]⟩]))
 (.seq (.cut [0, 2] (.reg [⟨some 22, none, .mv (.t 0)⟩,
 ⟨some 23, none, .nilck (.t 22)⟩,
 ⟨some 24, none, .fad 103 (.t 23) 1⟩,
 ⟨some 25, none, .load 3 (.t 24)⟩,
 ⟨some 26, none, .bin .add 3 (.t 25) (.c (.i .i64 1))⟩,
 ⟨some 27, none, .nilck (.t 22)⟩,
 ⟨some 28, none, .fad 103 (.t 27) 1⟩,
 ⟨none, none, .store 3 (.t 28) (.t 26)⟩]))
 (.seq (.reg [⟨some 29, none, .mv (.t 2)⟩,
 ⟨some 30, none, .call (.t 29) []⟩])
 (.cut [0] (.reg [⟨some 31, none, .mv (.t 0)⟩,
 ⟨some 32, none, .nilck (.t 31)⟩,
 ⟨some 33, none, .fad 103 (.t 32) 1⟩,
 ⟨some 34, none, .load 3 (.t 33)⟩,
 ⟨some 35, none, .bin .sub 3 (.t 34) (.c (.i .i64 1))⟩,
 ⟨some 36, none, .nilck (.t 31)⟩,
 ⟨some 37, none, .fad 103 (.t 36) 1⟩,
 ⟨none, none, .store 3 (.t 37) (.t 35)⟩])))))))
def F112 : AF := ⟨38, [], c112⟩
/-- (*fallow/parse.parser).list$1 -/
def c113L0 : AC := (.seq (.seq (.cut [0, 1, 2] (.reg [⟨some 3, none, .load 100 (.t 0)⟩,
 ⟨some 4, none, .call (.c (.fn (.func 37) [] [])) [.t 3]⟩,
 ⟨some 5, none, .un .not (.t 4)⟩,
 ⟨some 6, none, .mv (.t 5)⟩,
 ⟨some 7, some (6, true), .load 100 (.t 0)⟩,
 ⟨some 8, some (6, true), .bsl 63 1 [(0, .c (.s [41]))]⟩,
 ⟨some 9, some (6, true), .call (.c (.fn (.func 114) [] [])) [.t 7, .t 8]⟩,
 ⟨some 10, some (6, true), .un .not (.t 9)⟩,
 ⟨some 11, none, .pick (.t 6) (.t 10) (.c (.b false))⟩]))
 (.cond (.t 11)
 .skip
 (.exit 0)))
 (.seq (.blk 1
 (.seq (.seq (.reg [⟨some 12, none, .mv (.t 2)⟩,
 ⟨some 13, none, .un .not (.t 12)⟩])
 (.cond (.t 13)
 (.reg [⟨some 14, none, .load 100 (.t 0)⟩,
 ⟨some 15, none, .call (.c (.fn (.func 72) [] [])) [.t 14, .c (.s [44])]⟩])
 .skip))
 (.reg [⟨some 16, none, .load 1 (.t 1)⟩,
 ⟨some 17, none, .call (.t 16) []⟩])))
 (.reg [⟨some 2, none, .mv (.c (.b false))⟩])))
def c113 : AC := (.seq (.seq (.reg [⟨some 2, none, .mv (.c (.b true))⟩])
 (.blk 0
 (.loop [0, 1, 2] c113L0)))
 (.reg [⟨some 18, none, .load 100 (.t 0)⟩,
 ⟨some 19, none, .call (.c (.fn (.func 72) [] [])) [.t 18, .c (.s [41])]⟩]))
def F113 : AF := ⟨20, [], c113⟩
/-- (*fallow/parse.parser).is -/
def c114 : AC := (.seq (.reg [⟨some 4, none, .mv (.c (.b false))⟩])
 (.seq (.cut [0, 1] (.reg [⟨some 6, none, .mv (.t 0)⟩,
 ⟨some 7, none, .call (.c (.fn (.func 38) [] [])) [.t 6]⟩,
 ⟨some 5, none, .alloc 44⟩,
 ⟨none, none, .store 44 (.t 5) (.t 7)⟩]))
 (.seq (.cut [0, 1, 5] (.reg [⟨some 8, none, .mv (.t 0)⟩,
 ⟨some 9, none, .call (.c (.fn (.func 37) [] [])) [.t 8]⟩,
 ⟨some 10, none, .un .not (.t 9)⟩,
 ⟨some 11, none, .mv (.t 10)⟩,
 ⟨some 12, some (11, true), .fad 44 (.t 5) 0⟩,
 ⟨some 13, some (11, true), .load 3 (.t 12)⟩,
 ⟨some 14, some (11, true), .bin .eql 3 (.t 13) (.c (.i .i64 4))⟩,
 ⟨some 15, some (11, true), .mv (.t 14)⟩,
 ⟨some 16, some (15, false), .fad 44 (.t 5) 0⟩,
 ⟨some 17, some (15, false), .load 3 (.t 16)⟩,
 ⟨some 18, some (15, false), .bin .eql 3 (.t 17) (.c (.i .i64 3))⟩,
 ⟨some 19, some (11, true), .pick (.t 15) (.c (.b true)) (.t 18)⟩,
 ⟨some 20, none, .pick (.t 11) (.t 19) (.c (.b false))⟩,
 ⟨some 21, none, .mv (.t 20)⟩,
 ⟨some 22, some (21, true), .mv (.t 1)⟩,
 ⟨some 23, some (21, true), .fad 44 (.t 5) 1⟩,
 ⟨some 24, some (21, true), .load 9 (.t 23)⟩,
 ⟨some 25, some (21, true), .call (.c (.fn (.func 45) [] [])) [.t 22, .t 24]⟩,
 ⟨some 26, none, .pick (.t 21) (.t 25) (.c (.b false))⟩,
 ⟨some 4, none, .mv (.t 26)⟩]))
 .ret)))
def F114 : AF := ⟨27, [.t 4], c114⟩
/-- (*fallow/parse.parser).block$1 -/
def c115L0 : AC := (.seq (.seq (.cut [0, 1] (.reg [⟨some 2, none, .load 100 (.t 0)⟩,
 ⟨some 3, none, .call (.c (.fn (.func 37) [] [])) [.t 2]⟩,
 ⟨some 4, none, .un .not (.t 3)⟩,
 ⟨some 5, none, .mv (.t 4)⟩,
 ⟨some 6, some (5, true), .load 100 (.t 0)⟩,
 ⟨some 7, some (5, true), .bsl 63 1 [(0, .c (.s [125]))]⟩,
 ⟨some 8, some (5, true), .call (.c (.fn (.func 114) [] [])) [.t 6, .t 7]⟩,
 ⟨some 9, some (5, true), .un .not (.t 8)⟩,
 ⟨some 10, none, .pick (.t 5) (.t 9) (.c (.b false))⟩]))
 (.cond (.t 10)
 .skip
 (.exit 0)))
 (.blk 1
 (.cut [0, 1] (.drw [(⟨some 11, none, .load 69 (.t 1)⟩, []),
 (⟨some 12, none, .load 100 (.t 0)⟩, []),
 (⟨some 13, none, .call (.c (.fn (.func 116) [] [])) [.t 12]⟩, [⟨some 11, none, .load 69 (.t 1)⟩]),
 (⟨some 14, none, .bsl 69 1 [(0, .t 13)]⟩, [⟨some 11, none, .load 69 (.t 1)⟩]),
 (⟨some 15, none, .app 69 false (.t 11) (.t 14)⟩, []),
 (⟨none, none, .store 69 (.t 1) (.t 15)⟩, [])]))))
def c115 : AC := (.seq (.blk 0
 (.loop [0, 1] c115L0))
 (.reg [⟨some 16, none, .load 100 (.t 0)⟩,
 ⟨some 17, none, .call (.c (.fn (.func 72) [] [])) [.t 16, .c (.s [125])]⟩]))
def F115 : AF := ⟨18, [], c115⟩
/-- (*fallow/parse.parser).stmt -/
def c116 : AC := (.seq (.reg [⟨some 1, none, .box 100 (.t 0)⟩,
 ⟨some 2, none, .mv (.c (.p0))⟩])
 (.seq (.cut [1] (.reg [⟨some 8, none, .load 100 (.t 1)⟩,
 ⟨some 9, none, .call (.c (.fn (.func 38) [] [])) [.t 8]⟩,
 ⟨some 3, none, .alloc 44⟩,
 ⟨none, none, .store 44 (.t 3) (.t 9)⟩]))
 (.seq (.cut [1, 3] (.reg [⟨some 10, none, .fad 44 (.t 3) 2⟩,
 ⟨some 11, none, .load 3 (.t 10)⟩,
 ⟨some 12, none, .build 75 [(7, .t 11)]⟩,
 ⟨some 13, none, .box 75 (.t 12)⟩,
 ⟨some 4, none, .alloc 73⟩,
 ⟨none, none, .store 73 (.t 4) (.t 13)⟩]))
 (.seq (.reg [⟨some 14, none, .mkf (.func 145) [] [.t 4, .t 1]⟩,
 ⟨some 5, none, .mv (.t 14)⟩])
 (.seq (.seq (.cut [1, 3, 4, 5] (.reg [⟨some 15, none, .fad 44 (.t 3) 0⟩,
 ⟨some 16, none, .load 3 (.t 15)⟩,
 ⟨some 17, none, .bin .eql 3 (.t 16) (.c (.i .i64 4))⟩,
 ⟨some 18, none, .mv (.t 17)⟩,
 ⟨some 19, some (18, true), .load 100 (.t 1)⟩,
 ⟨some 20, some (18, true), .call (.c (.fn (.func 37) [] [])) [.t 19]⟩,
 ⟨some 21, some (18, true), .un .not (.t 20)⟩,
 ⟨some 22, none, .pick (.t 18) (.t 21) (.c (.b false))⟩,
 ⟨some 23, none, .mv (.t 22)⟩,
 ⟨some 24, some (23, true), .fad 44 (.t 3) 1⟩,
 ⟨some 25, some (23, true), .load 9 (.t 24)⟩,
 ⟨some 26, some (23, true), .bin .neq 9 (.t 25) (.c (.s [110, 101, 119]))⟩,
 ⟨some 27, none, .pick (.t 23) (.t 26) (.c (.b false))⟩,
 ⟨some 28, none, .mv (.t 27)⟩,
 ⟨some 29, some (28, true), .fad 44 (.t 3) 1⟩,
 ⟨some 30, some (28, true), .load 9 (.t 29)⟩,
 ⟨some 31, some (28, true), .bin .neq 9 (.t 30) (.c (.s [105, 110]))⟩,
 ⟨some 32, none, .pick (.t 28) (.t 31) (.c (.b false))⟩]))
 (.cut [1000000, 1, 3, 4, 5, 32] (.cond (.t 32)
 (.seq (.reg [⟨some 33, none, .load 100 (.t 1)⟩,
 ⟨some 34, none, .call (.c (.fn (.func 111) [] [])) [.t 33]⟩])
 (.seq (.seq (.reg [⟨some 35, none, .fad 44 (.t 3) 1⟩,
 ⟨some 36, none, .load 9 (.t 35)⟩])
 (.blk 0
 (.seq (.reg [⟨some 38, none, .bin .eql 9 (.t 36) (.c (.s [118, 97, 114]))⟩,
 ⟨some 37, none, .mv (.t 38)⟩])
 (.cond (.t 37)
 (.seq (.cut [1, 4, 5] (.drw [(⟨some 39, none, .load 73 (.t 4)⟩, []),
 (⟨some 40, none, .load 73 (.t 4)⟩, []),
 (⟨some 41, none, .load 100 (.t 1)⟩, []),
 (⟨some 42, none, .call (.c (.fn (.func 73) [] [])) [.t 41]⟩, [⟨some 39, none, .load 73 (.t 4)⟩, ⟨some 40, none, .load 73 (.t 4)⟩]),
 (⟨some 43, none, .nilck (.t 39)⟩, []),
 (⟨some 44, none, .fad 75 (.t 43) 0⟩, []),
 (⟨none, none, .store 3 (.t 44) (.c (.i .i64 1))⟩, [⟨some 40, none, .load 73 (.t 4)⟩]),
 (⟨some 45, none, .nilck (.t 40)⟩, []),
 (⟨some 46, none, .fad 75 (.t 45) 1⟩, []),
 (⟨none, none, .store 9 (.t 46) (.t 42)⟩, [])]))
 (.seq (.cut [1, 4, 5] (.drw [(⟨some 47, none, .load 73 (.t 4)⟩, []),
 (⟨some 48, none, .load 100 (.t 1)⟩, []),
 (⟨some 49, none, .call (.c (.fn (.func 76) [] [])) [.t 48, .c (.s [112, 116, 114])]⟩, [⟨some 47, none, .load 73 (.t 4)⟩]),
 (⟨some 50, none, .nilck (.t 47)⟩, []),
 (⟨some 51, none, .fad 75 (.t 50) 2⟩, []),
 (⟨none, none, .store 4 (.t 51) (.t 49)⟩, [])]))
 (.seq (.seq (.reg [⟨some 52, none, .load 100 (.t 1)⟩,
 ⟨some 53, none, .call (.c (.fn (.func 76) [] [])) [.t 52, .c (.s [61])]⟩])
 (.cond (.t 53)
 (.seq (.cut [5] (.reg [⟨some 54, none, .mv (.t 5)⟩,
 ⟨some 55, none, .call (.t 54) [.c (.i .i64 1)]⟩,
 ⟨some 2, none, .mv (.t 55)⟩]))
 .ret)
 .skip))
 (.seq (.reg [⟨some 56, none, .load 100 (.t 1)⟩,
 ⟨some 57, none, .call (.c (.fn (.func 72) [] [])) [.t 56, .c (.s [59])]⟩])
 (.seq (.reg [⟨some 58, none, .load 73 (.t 4)⟩,
 ⟨some 2, none, .mv (.t 58)⟩])
 .ret)))))
 (.seq (.reg [⟨some 60, none, .bin .eql 9 (.t 36) (.c (.s [105, 102]))⟩,
 ⟨some 59, none, .mv (.t 60)⟩])
 (.cond (.t 59)
 (.seq (.cut [1, 3] (.reg [⟨some 61, none, .load 100 (.t 1)⟩,
 ⟨some 62, none, .fad 44 (.t 3) 2⟩,
 ⟨some 63, none, .load 3 (.t 62)⟩,
 ⟨some 64, none, .call (.c (.fn (.func 147) [] [])) [.t 61, .t 63]⟩,
 ⟨some 2, none, .mv (.t 64)⟩]))
 .ret)
 (.seq (.reg [⟨some 66, none, .bin .eql 9 (.t 36) (.c (.s [119, 104, 105, 108, 101]))⟩,
 ⟨some 65, none, .mv (.t 66)⟩])
 (.cond (.t 65)
 (.seq (.cut [1, 4] (.drw [(⟨some 67, none, .load 73 (.t 4)⟩, []),
 (⟨some 68, none, .load 73 (.t 4)⟩, []),
 (⟨some 69, none, .load 100 (.t 1)⟩, []),
 (⟨some 70, none, .call (.c (.fn (.func 146) [] [])) [.t 69, .c (.i .i64 1)]⟩, [⟨some 67, none, .load 73 (.t 4)⟩, ⟨some 68, none, .load 73 (.t 4)⟩]),
 (⟨some 71, none, .nilck (.t 67)⟩, []),
 (⟨some 72, none, .fad 75 (.t 71) 0⟩, []),
 (⟨none, none, .store 3 (.t 72) (.c (.i .i64 5))⟩, [⟨some 68, none, .load 73 (.t 4)⟩]),
 (⟨some 73, none, .nilck (.t 68)⟩, []),
 (⟨some 74, none, .fad 75 (.t 73) 4⟩, []),
 (⟨none, none, .store 52 (.t 74) (.t 70)⟩, [])]))
 (.seq (.cut [1, 4] (.drw [(⟨some 75, none, .load 73 (.t 4)⟩, []),
 (⟨some 76, none, .load 100 (.t 1)⟩, []),
 (⟨some 77, none, .call (.c (.fn (.func 77) [] [])) [.t 76]⟩, [⟨some 75, none, .load 73 (.t 4)⟩]),
 (⟨some 78, none, .nilck (.t 75)⟩, []),
 (⟨some 79, none, .fad 75 (.t 78) 5⟩, []),
 (⟨none, none, .store 69 (.t 79) (.t 77)⟩, [])]))
 (.seq (.reg [⟨some 80, none, .load 73 (.t 4)⟩,
 ⟨some 2, none, .mv (.t 80)⟩])
 .ret)))
 (.seq (.reg [⟨some 82, none, .bin .eql 9 (.t 36) (.c (.s [111, 117, 116]))⟩,
 ⟨some 81, none, .mv (.t 82)⟩])
 (.cond (.t 81)
 (.seq (.cut [5] (.reg [⟨some 83, none, .mv (.t 5)⟩,
 ⟨some 84, none, .call (.t 83) [.c (.i .i64 6)]⟩,
 ⟨some 2, none, .mv (.t 84)⟩]))
 .ret)
 (.seq (.reg [⟨some 86, none, .bin .eql 9 (.t 36) (.c (.s [102, 114, 101, 101]))⟩,
 ⟨some 85, none, .mv (.t 86)⟩])
 (.cond (.t 85)
 (.seq (.cut [5] (.reg [⟨some 87, none, .mv (.t 5)⟩,
 ⟨some 88, none, .call (.t 87) [.c (.i .i64 7)]⟩,
 ⟨some 2, none, .mv (.t 88)⟩]))
 .ret)
 (.seq (.reg [⟨some 90, none, .bin .eql 9 (.t 36) (.c (.s [100, 114, 97, 105, 110]))⟩,
 ⟨some 89, none, .mv (.t 90)⟩])
 (.cond (.t 89)
 (.seq (.cut [1, 4] (.reg [⟨some 91, none, .load 73 (.t 4)⟩,
 ⟨some 92, none, .nilck (.t 91)⟩,
 ⟨some 93, none, .fad 75 (.t 92) 0⟩,
 ⟨none, none, .store 3 (.t 93) (.c (.i .i64 8))⟩]))
 (.seq (.reg [⟨some 94, none, .load 100 (.t 1)⟩,
 ⟨some 95, none, .call (.c (.fn (.func 72) [] [])) [.t 94, .c (.s [59])]⟩])
 (.seq (.reg [⟨some 96, none, .load 73 (.t 4)⟩,
 ⟨some 2, none, .mv (.t 96)⟩])
 .ret)))
 (.seq (.reg [⟨some 98, none, .bin .eql 9 (.t 36) (.c (.s [114, 101, 116, 117, 114, 110]))⟩,
 ⟨some 97, none, .mv (.t 98)⟩])
 (.cut [1000000, 1, 3, 4, 5, 97] (.cond (.t 97)
 (.seq (.seq (.reg [⟨some 99, none, .load 100 (.t 1)⟩,
 ⟨some 100, none, .call (.c (.fn (.func 76) [] [])) [.t 99, .c (.s [59])]⟩])
 (.cond (.t 100)
 (.seq (.cut [4] (.reg [⟨some 101, none, .load 73 (.t 4)⟩,
 ⟨some 102, none, .nilck (.t 101)⟩,
 ⟨some 103, none, .fad 75 (.t 102) 0⟩,
 ⟨none, none, .store 3 (.t 103) (.c (.i .i64 9))⟩]))
 (.seq (.reg [⟨some 104, none, .load 73 (.t 4)⟩,
 ⟨some 2, none, .mv (.t 104)⟩])
 .ret))
 .skip))
 (.seq (.cut [5] (.reg [⟨some 105, none, .mv (.t 5)⟩,
 ⟨some 106, none, .call (.t 105) [.c (.i .i64 9)]⟩,
 ⟨some 2, none, .mv (.t 106)⟩]))
 .ret))
 .skip)))))))))))))))))
 (.cut [1000000, 1, 3, 4] (.seq (.cut [1, 3, 4] (.drw [(⟨some 107, none, .load 100 (.t 1)⟩, []),
 (⟨some 108, none, .load 44 (.t 3)⟩, []),
 (⟨some 110, none, .load 100 (.t 1)⟩, []),
 (⟨some 111, none, .nilck (.t 110)⟩, []),
 (⟨some 112, none, .fad 103 (.t 111) 0⟩, []),
 (⟨some 113, none, .load 40 (.t 112)⟩, []),
 (⟨some 109, none, .bsl 40 1 [(0, .t 108)]⟩, [⟨some 107, none, .load 100 (.t 1)⟩, ⟨some 110, none, .load 100 (.t 1)⟩, ⟨some 113, none, .load 40 (.t 112)⟩]),
 (⟨some 114, none, .app 40 false (.t 109) (.t 113)⟩, [⟨some 107, none, .load 100 (.t 1)⟩]),
 (⟨some 115, none, .nilck (.t 107)⟩, []),
 (⟨some 116, none, .fad 103 (.t 115) 0⟩, []),
 (⟨none, none, .store 40 (.t 116) (.t 114)⟩, [])]))
 (.seq (.reg [⟨some 117, none, .load 100 (.t 1)⟩,
 ⟨some 118, none, .call (.c (.fn (.func 110) [] [])) [.t 117, .c (.i .i64 4)]⟩])
 (.seq (.reg [⟨some 119, none, .load 73 (.t 4)⟩,
 ⟨some 2, none, .mv (.t 119)⟩])
 .ret))))))
 .skip)))
 (.seq (.cut [1, 4, 5] (.reg [⟨some 120, none, .load 100 (.t 1)⟩,
 ⟨some 121, none, .call (.c (.fn (.func 148) [] [])) [.t 120]⟩,
 ⟨some 6, none, .mv (.t 121)⟩]))
 (.seq (.seq (.cut [1, 4, 5, 6] (.reg [⟨some 122, none, .load 100 (.t 1)⟩,
 ⟨some 123, none, .bsl 63 1 [(0, .c (.s [61]))]⟩,
 ⟨some 124, none, .call (.c (.fn (.func 114) [] [])) [.t 122, .t 123]⟩,
 ⟨some 7, none, .mv (.t 124)⟩]))
 (.blk 1
 (.seq (.cut [1, 4, 5, 6, 7] (.reg [⟨some 128, none, .load 100 (.t 1)⟩,
 ⟨some 129, none, .call (.c (.fn (.func 37) [] [])) [.t 128]⟩,
 ⟨some 127, none, .mv (.t 129)⟩]))
 (.cut [1000000, 1, 4, 5, 6, 7, 127] (.cond (.t 127)
 .skip
 (.seq (.cut [1, 4, 5, 6, 7] (.reg [⟨some 131, none, .mv (.t 7)⟩,
 ⟨some 132, none, .un .not (.t 131)⟩,
 ⟨some 133, none, .mv (.t 132)⟩,
 ⟨some 134, some (133, true), .mv (.t 6)⟩,
 ⟨some 135, some (133, true), .nilck (.t 134)⟩,
 ⟨some 136, some (133, true), .fad 56 (.t 135) 0⟩,
 ⟨some 137, some (133, true), .load 3 (.t 136)⟩,
 ⟨some 138, some (133, true), .bin .eql 3 (.t 137) (.c (.i .i64 4))⟩,
 ⟨some 139, none, .pick (.t 133) (.t 138) (.c (.b false))⟩,
 ⟨some 130, none, .mv (.t 139)⟩]))
 (.cond (.t 130)
 (.seq (.cut [1, 4, 6] (.drw [(⟨some 140, none, .load 73 (.t 4)⟩, []),
 (⟨some 141, none, .load 73 (.t 4)⟩, []),
 (⟨some 142, none, .mv (.t 6)⟩, []),
 (⟨some 143, none, .nilck (.t 140)⟩, []),
 (⟨some 144, none, .fad 75 (.t 143) 0⟩, []),
 (⟨none, none, .store 3 (.t 144) (.c (.i .i64 10))⟩, [⟨some 141, none, .load 73 (.t 4)⟩]),
 (⟨some 145, none, .nilck (.t 141)⟩, []),
 (⟨some 146, none, .fad 75 (.t 145) 4⟩, []),
 (⟨none, none, .store 52 (.t 146) (.t 142)⟩, [])]))
 (.reg [⟨some 147, none, .load 100 (.t 1)⟩,
 ⟨some 148, none, .call (.c (.fn (.func 72) [] [])) [.t 147, .c (.s [59])]⟩]))
 (.seq (.cut [1, 4, 5, 6, 7] (.reg [⟨some 150, none, .mv (.t 7)⟩,
 ⟨some 151, none, .mv (.t 150)⟩,
 ⟨some 152, some (151, true), .mv (.t 6)⟩,
 ⟨some 153, some (151, true), .nilck (.t 152)⟩,
 ⟨some 154, some (151, true), .fad 56 (.t 153) 0⟩,
 ⟨some 155, some (151, true), .load 3 (.t 154)⟩,
 ⟨some 156, some (151, true), .bin .eql 3 (.t 155) (.c (.i .i64 2))⟩,
 ⟨some 157, none, .pick (.t 151) (.t 156) (.c (.b false))⟩,
 ⟨some 149, none, .mv (.t 157)⟩]))
 (.cond (.t 149)
 (.seq (.reg [⟨some 158, none, .load 100 (.t 1)⟩,
 ⟨some 159, none, .call (.c (.fn (.func 111) [] [])) [.t 158]⟩])
 (.seq (.cut [4, 5, 6] (.drw [(⟨some 160, none, .load 73 (.t 4)⟩, []),
 (⟨some 161, none, .mv (.t 6)⟩, []),
 (⟨some 162, none, .nilck (.t 161)⟩, []),
 (⟨some 163, none, .fad 56 (.t 162) 2⟩, []),
 (⟨some 164, none, .load 9 (.t 163)⟩, []),
 (⟨some 165, none, .nilck (.t 160)⟩, []),
 (⟨some 166, none, .fad 75 (.t 165) 1⟩, []),
 (⟨none, none, .store 9 (.t 166) (.t 164)⟩, [])]))
 (.seq (.cut [5] (.reg [⟨some 167, none, .mv (.t 5)⟩,
 ⟨some 168, none, .call (.t 167) [.c (.i .i64 2)]⟩,
 ⟨some 2, none, .mv (.t 168)⟩]))
 .ret)))
 (.seq (.cut [1, 4, 5, 6, 7] (.reg [⟨some 170, none, .mv (.t 7)⟩,
 ⟨some 171, none, .mv (.t 170)⟩,
 ⟨some 172, some (171, true), .mv (.t 6)⟩,
 ⟨some 173, some (171, true), .nilck (.t 172)⟩,
 ⟨some 174, some (171, true), .fad 56 (.t 173) 0⟩,
 ⟨some 175, some (171, true), .load 3 (.t 174)⟩,
 ⟨some 176, some (171, true), .bin .eql 3 (.t 175) (.c (.i .i64 5))⟩,
 ⟨some 177, some (171, true), .mv (.t 176)⟩,
 ⟨some 178, some (177, false), .mv (.t 6)⟩,
 ⟨some 179, some (177, false), .nilck (.t 178)⟩,
 ⟨some 180, some (177, false), .fad 56 (.t 179) 0⟩,
 ⟨some 181, some (177, false), .load 3 (.t 180)⟩,
 ⟨some 182, some (177, false), .bin .eql 3 (.t 181) (.c (.i .i64 6))⟩,
 ⟨some 183, some (171, true), .pick (.t 177) (.c (.b true)) (.t 182)⟩,
 ⟨some 184, none, .pick (.t 171) (.t 183) (.c (.b false))⟩,
 ⟨some 169, none, .mv (.t 184)⟩]))
 (.cut [1000000, 1, 4, 5, 6, 169] (.cond (.t 169)
 (.seq (.reg [⟨some 185, none, .load 100 (.t 1)⟩,
 ⟨some 186, none, .call (.c (.fn (.func 111) [] [])) [.t 185]⟩])
 (.seq (.cut [4, 5, 6] (.reg [⟨some 187, none, .load 73 (.t 4)⟩,
 ⟨some 188, none, .mv (.t 6)⟩,
 ⟨some 189, none, .nilck (.t 187)⟩,
 ⟨some 190, none, .fad 75 (.t 189) 3⟩,
 ⟨none, none, .store 52 (.t 190) (.t 188)⟩]))
 (.seq (.cut [5] (.reg [⟨some 191, none, .mv (.t 5)⟩,
 ⟨some 192, none, .call (.t 191) [.c (.i .i64 3)]⟩,
 ⟨some 2, none, .mv (.t 192)⟩]))
 .ret)))
 (.reg [⟨some 125, none, .load 100 (.t 1)⟩,
 ⟨some 126, none, .call (.c (.fn (.func 110) [] [])) [.t 125, .c (.i .i64 4)]⟩])))))))))))))
 (.seq (.reg [⟨some 193, none, .load 73 (.t 4)⟩,
 ⟨some 2, none, .mv (.t 193)⟩])
 .ret))))))))
def F116 : AF := ⟨194, [.t 2], c116⟩
/-- slices.Index[[]fallow/lex.kind,fallow/lex.kind] -/
def c118L0 : AC := (.seq (.reg [⟨some 9, none, .bin .lss 3 (.t 8) (.t 7)⟩])
 (.seq (.cond (.t 9)
 .skip
 (.exit 0))
 (.seq (.blk 1
 (.seq (.reg [⟨some 10, none, .mv (.t 8)⟩,
 ⟨some 5, none, .mv (.t 10)⟩])
 (.seq (.cut [0, 1, 5, 7, 8] (.reg [⟨some 11, none, .mv (.t 1)⟩,
 ⟨some 12, none, .mv (.t 0)⟩,
 ⟨some 13, none, .mv (.t 5)⟩,
 ⟨some 14, none, .iad 137 (.t 12) (.t 13)⟩,
 ⟨some 15, none, .load 106 (.t 14)⟩,
 ⟨some 16, none, .bin .eql 106 (.t 11) (.t 15)⟩]))
 (.cond (.t 16)
 (.seq (.reg [⟨some 17, none, .mv (.t 5)⟩,
 ⟨some 4, none, .mv (.t 17)⟩])
 .ret)
 .skip))))
 (.reg [⟨some 18, none, .bin .add 3 (.t 8) (.c (.i .i64 1))⟩,
 ⟨some 8, none, .mv (.t 18)⟩]))))
def c118 : AC := (.seq (.reg [⟨some 4, none, .mv (.c (.i .i64 0))⟩])
 (.seq (.seq (.cut [0, 1] (.reg [⟨some 6, none, .mv (.t 0)⟩,
 ⟨some 7, none, .len 137 (.t 6)⟩,
 ⟨some 8, none, .mv (.c (.i .i64 0))⟩]))
 (.blk 0
 (.loop [0, 1, 7, 8] c118L0)))
 (.seq (.reg [⟨some 4, none, .mv (.c (.i .i64 (-1)))⟩])
 .ret)))
def F118 : AF := ⟨19, [.t 4], c118⟩
/-- strings.FieldsFunc -/
def c119L0 : AC := (.seq (.reg [⟨some 15, none, .nxt (.t 14)⟩,
 ⟨some 16, none, .ext (.t 15) 0⟩])
 (.seq (.cond (.t 16)
 .skip
 (.exit 0))
 (.blk 1
 (.seq (.cut [0, 1, 5, 6, 14, 15] (.reg [⟨some 17, none, .ext (.t 15) 1⟩,
 ⟨some 18, none, .ext (.t 15) 2⟩,
 ⟨some 7, none, .mv (.t 17)⟩,
 ⟨some 8, none, .mv (.t 18)⟩]))
 (.seq (.cut [0, 1, 5, 6, 7, 8, 14] (.reg [⟨some 19, none, .mv (.t 1)⟩,
 ⟨some 20, none, .mv (.t 8)⟩,
 ⟨some 21, none, .call (.t 19) [.t 20]⟩]))
 (.cond (.t 21)
 (.seq (.reg [⟨some 22, none, .mv (.t 6)⟩,
 ⟨some 23, none, .bin .geq 3 (.t 22) (.c (.i .i64 0))⟩])
 (.cond (.t 23)
 (.seq (.cut [0, 1, 5, 6, 7, 14] (.reg [⟨some 24, none, .mv (.t 5)⟩,
 ⟨some 25, none, .mv (.t 6)⟩,
 ⟨some 26, none, .mv (.t 7)⟩,
 ⟨some 27, none, .build 207 [(0, .t 25), (1, .t 26)]⟩,
 ⟨some 28, none, .bsl 205 1 [(0, .t 27)]⟩,
 ⟨some 29, none, .app 205 false (.t 24) (.t 28)⟩,
 ⟨some 5, none, .mv (.t 29)⟩]))
 (.cut [0, 1, 5, 6, 14] (.reg [⟨some 30, none, .mv (.t 6)⟩,
 ⟨some 31, none, .un .xor (.t 30)⟩,
 ⟨some 6, none, .mv (.t 31)⟩])))
 .skip))
 (.seq (.reg [⟨some 32, none, .mv (.t 6)⟩,
 ⟨some 33, none, .bin .lss 3 (.t 32) (.c (.i .i64 0))⟩])
 (.cond (.t 33)
 (.reg [⟨some 34, none, .mv (.t 7)⟩,
 ⟨some 6, none, .mv (.t 34)⟩])
 .skip))))))))
def c119L1 : AC := (.seq (.reg [⟨some 50, none, .bin .lss 3 (.t 49) (.t 48)⟩])
 (.seq (.cond (.t 50)
 .skip
 (.exit 2))
 (.seq (.blk 3
 (.seq (.cut [0, 9, 47, 48, 49] (.reg [⟨some 51, none, .mv (.t 49)⟩,
 ⟨some 52, none, .iad 205 (.t 47) (.t 49)⟩,
 ⟨some 53, none, .load 207 (.t 52)⟩,
 ⟨some 11, none, .alloc 207⟩,
 ⟨some 10, none, .mv (.t 51)⟩,
 ⟨none, none, .store 207 (.t 11) (.t 53)⟩]))
 (.cut [0, 9, 10, 11, 47, 48, 49] (.reg [⟨some 54, none, .mv (.t 9)⟩,
 ⟨some 55, none, .mv (.t 10)⟩,
 ⟨some 56, none, .mv (.t 0)⟩,
 ⟨some 57, none, .fad 207 (.t 11) 0⟩,
 ⟨some 58, none, .load 3 (.t 57)⟩,
 ⟨some 59, none, .fad 207 (.t 11) 1⟩,
 ⟨some 60, none, .load 3 (.t 59)⟩,
 ⟨some 61, none, .slc 9 (.t 56) (some (.t 58)) (some (.t 60))⟩,
 ⟨some 62, none, .iad 63 (.t 54) (.t 55)⟩,
 ⟨none, none, .store 9 (.t 62) (.t 61)⟩]))))
 (.reg [⟨some 63, none, .bin .add 3 (.t 49) (.c (.i .i64 1))⟩,
 ⟨some 49, none, .mv (.t 63)⟩]))))
def c119 : AC := (.seq (.reg [⟨some 4, none, .mv (.c (.sl0))⟩])
 (.seq (.reg [⟨some 12, none, .mks 205 (.c (.i .i64 0)) (.c (.i .i64 32))⟩,
 ⟨some 5, none, .mv (.t 12)⟩])
 (.seq (.reg [⟨some 6, none, .mv (.c (.i .i64 (-1)))⟩])
 (.seq (.seq (.reg [⟨some 13, none, .mv (.t 0)⟩,
 ⟨some 14, none, .rng 9 (.t 13)⟩])
 (.blk 0
 (.loop [0, 1, 5, 6, 14] c119L0)))
 (.seq (.seq (.reg [⟨some 35, none, .mv (.t 6)⟩,
 ⟨some 36, none, .bin .geq 3 (.t 35) (.c (.i .i64 0))⟩])
 (.cond (.t 36)
 (.cut [0, 5, 6] (.reg [⟨some 37, none, .mv (.t 5)⟩,
 ⟨some 38, none, .mv (.t 6)⟩,
 ⟨some 39, none, .mv (.t 0)⟩,
 ⟨some 40, none, .len 9 (.t 39)⟩,
 ⟨some 41, none, .build 207 [(0, .t 38), (1, .t 40)]⟩,
 ⟨some 42, none, .bsl 205 1 [(0, .t 41)]⟩,
 ⟨some 43, none, .app 205 false (.t 37) (.t 42)⟩,
 ⟨some 5, none, .mv (.t 43)⟩]))
 .skip))
 (.cut [1000000, 0, 5] (.seq (.cut [0, 5] (.reg [⟨some 44, none, .mv (.t 5)⟩,
 ⟨some 45, none, .len 205 (.t 44)⟩,
 ⟨some 46, none, .mks 63 (.t 45) (.t 45)⟩,
 ⟨some 9, none, .mv (.t 46)⟩]))
 (.seq (.seq (.cut [0, 5, 9] (.reg [⟨some 47, none, .mv (.t 5)⟩,
 ⟨some 48, none, .len 205 (.t 47)⟩,
 ⟨some 49, none, .mv (.c (.i .i64 0))⟩]))
 (.blk 2
 (.loop [0, 9, 47, 48, 49] c119L1)))
 (.seq (.reg [⟨some 64, none, .mv (.t 9)⟩,
 ⟨some 4, none, .mv (.t 64)⟩])
 .ret)))))))))
def F119 : AF := ⟨65, [.t 4], c119⟩
/-- unicode.IsSpace -/
def c120 : AC := (.seq (.reg [⟨some 2, none, .mv (.c (.b false))⟩])
 (.seq (.seq (.cut [0] (.reg [⟨some 3, none, .mv (.t 0)⟩,
 ⟨some 4, none, .conv 21 47 (.t 3)⟩,
 ⟨some 5, none, .bin .leq 47 (.t 4) (.c (.i .u32 255))⟩]))
 (.cond (.t 5)
 (.seq (.seq (.reg [⟨some 6, none, .mv (.t 0)⟩])
 (.blk 0
 (.seq (.seq (.reg [⟨some 8, none, .bin .eql 21 (.t 6) (.c (.i .i32 9))⟩,
 ⟨some 7, none, .mv (.t 8)⟩])
 (.cond (.t 7)
 .skip
 (.seq (.reg [⟨some 9, none, .bin .eql 21 (.t 6) (.c (.i .i32 10))⟩,
 ⟨some 7, none, .mv (.t 9)⟩])
 (.cond (.t 7)
 .skip
 (.seq (.reg [⟨some 10, none, .bin .eql 21 (.t 6) (.c (.i .i32 11))⟩,
 ⟨some 7, none, .mv (.t 10)⟩])
 (.cond (.t 7)
 .skip
 (.seq (.reg [⟨some 11, none, .bin .eql 21 (.t 6) (.c (.i .i32 12))⟩,
 ⟨some 7, none, .mv (.t 11)⟩])
 (.cond (.t 7)
 .skip
 (.seq (.reg [⟨some 12, none, .bin .eql 21 (.t 6) (.c (.i .i32 13))⟩,
 ⟨some 7, none, .mv (.t 12)⟩])
 (.cond (.t 7)
 .skip
 (.seq (.reg [⟨some 13, none, .bin .eql 21 (.t 6) (.c (.i .i32 32))⟩,
 ⟨some 7, none, .mv (.t 13)⟩])
 (.cond (.t 7)
 .skip
 (.seq (.reg [⟨some 14, none, .bin .eql 21 (.t 6) (.c (.i .i32 133))⟩,
 ⟨some 7, none, .mv (.t 14)⟩])
 (.cond (.t 7)
 .skip
 (.reg [⟨some 15, none, .bin .eql 21 (.t 6) (.c (.i .i32 160))⟩,
 ⟨some 7, none, .mv (.t 15)⟩])))))))))))))))
 (.cut [1000000, 7] (.cond (.t 7)
 (.seq (.reg [⟨some 2, none, .mv (.c (.b true))⟩])
 .ret)
 .skip)))))
 (.seq (.reg [⟨some 2, none, .mv (.c (.b false))⟩])
 .ret))
 .skip))
 (.seq (.cut [0] (.reg [⟨some 16, none, .load 209 (.c (.p 3 0 0))⟩,
 ⟨some 17, none, .mv (.t 0)⟩,
 ⟨some 18, none, .call (.c (.fn (.func 149) [] [])) [.t 16, .t 17]⟩,
 ⟨some 2, none, .mv (.t 18)⟩]))
 .ret)))
def F120 : AF := ⟨19, [.t 2], c120⟩
/-- internal/stringslite.HasSuffix -/
def c127 : AC := (.seq (.reg [⟨some 4, none, .mv (.c (.b false))⟩])
 (.seq (.cut [0, 1] (.reg [⟨some 5, none, .mv (.t 0)⟩,
 ⟨some 6, none, .len 9 (.t 5)⟩,
 ⟨some 7, none, .mv (.t 1)⟩,
 ⟨some 8, none, .len 9 (.t 7)⟩,
 ⟨some 9, none, .bin .geq 3 (.t 6) (.t 8)⟩,
 ⟨some 10, none, .mv (.t 9)⟩,
 ⟨some 11, some (10, true), .mv (.t 0)⟩,
 ⟨some 12, some (10, true), .mv (.t 0)⟩,
 ⟨some 13, some (10, true), .len 9 (.t 12)⟩,
 ⟨some 14, some (10, true), .mv (.t 1)⟩,
 ⟨some 15, some (10, true), .len 9 (.t 14)⟩,
 ⟨some 16, some (10, true), .bin .sub 3 (.t 13) (.t 15)⟩,
 ⟨some 17, some (10, true), .slc 9 (.t 11) (some (.t 16)) none⟩,
 ⟨some 18, some (10, true), .mv (.t 1)⟩,
 ⟨some 19, some (10, true), .bin .eql 9 (.t 17) (.t 18)⟩,
 ⟨some 20, none, .pick (.t 10) (.t 19) (.c (.b false))⟩,
 ⟨some 4, none, .mv (.t 20)⟩]))
 .ret))
def F127 : AF := ⟨21, [.t 4], c127⟩
/-- (*fallow/parse.printer).ended -/
def c139 : AC := (.seq (.cut [0, 1, 2] (.reg [⟨some 6, none, .mv (.t 0)⟩,
 ⟨some 7, none, .mv (.t 1)⟩,
 ⟨some 8, none, .bsl 63 1 [(0, .t 7)]⟩,
 ⟨some 9, none, .call (.c (.fn (.func 64) [] [])) [.t 6, .t 8]⟩]))
 (.seq (.cut [0, 2] (.reg [⟨some 10, none, .mv (.t 0)⟩,
 ⟨some 11, none, .mv (.t 2)⟩,
 ⟨some 12, none, .call (.c (.fn (.func 140) [] [])) [.t 10, .t 11, .c (.i .i64 1)]⟩]))
 (.cut [0] (.reg [⟨some 13, none, .mv (.t 0)⟩,
 ⟨some 14, none, .bsl 63 1 [(0, .c (.s [59]))]⟩,
 ⟨some 15, none, .call (.c (.fn (.func 64) [] [])) [.t 13, .t 14]⟩]))))
def F139 : AF := ⟨16, [], c139⟩
/-- (*fallow/parse.printer).expr -/
def c140L0 : AC := (.seq (.reg [⟨some 55, none, .bin .lss 3 (.t 54) (.t 53)⟩])
 (.seq (.cond (.t 55)
 .skip
 (.exit 1))
 (.seq (.blk 2
 (.seq (.cut [0, 52, 53, 54] (.reg [⟨some 56, none, .mv (.t 54)⟩,
 ⟨some 57, none, .iad 54 (.t 52) (.t 54)⟩,
 ⟨some 58, none, .load 52 (.t 57)⟩,
 ⟨some 6, none, .mv (.t 56)⟩,
 ⟨some 7, none, .mv (.t 58)⟩]))
 (.seq (.seq (.reg [⟨some 59, none, .mv (.t 6)⟩,
 ⟨some 60, none, .bin .gtr 3 (.t 59) (.c (.i .i64 0))⟩])
 (.cond (.t 60)
 (.cut [0, 7, 52, 53, 54] (.reg [⟨some 61, none, .mv (.t 0)⟩,
 ⟨some 62, none, .bsl 63 1 [(0, .c (.s [44, 32]))]⟩,
 ⟨some 63, none, .call (.c (.fn (.func 64) [] [])) [.t 61, .t 62]⟩]))
 .skip))
 (.cut [1000000, 0, 7, 52, 53, 54] (.cut [0, 7, 52, 53, 54] (.reg [⟨some 64, none, .mv (.t 0)⟩,
 ⟨some 65, none, .mv (.t 7)⟩,
 ⟨some 66, none, .call (.c (.fn (.func 140) [] [])) [.t 64, .t 65, .c (.i .i64 1)]⟩]))))))
 (.reg [⟨some 67, none, .bin .add 3 (.t 54) (.c (.i .i64 1))⟩,
 ⟨some 54, none, .mv (.t 67)⟩]))))
def c140 : AC := (.seq (.seq (.reg [⟨some 8, none, .mv (.t 1)⟩,
 ⟨some 9, none, .bin .eql 52 (.t 8) (.c (.p0))⟩])
 (.cond (.t 9)
 (.seq (.cut [0] (.reg [⟨some 10, none, .mv (.t 0)⟩,
 ⟨some 11, none, .nilck (.t 10)⟩,
 ⟨some 12, none, .fad 92 (.t 11) 2⟩,
 ⟨none, none, .store 4 (.t 12) (.c (.b true))⟩]))
 .ret)
 .skip))
 (.seq (.cut [0, 1, 2] (.reg [⟨some 13, none, .mv (.t 1)⟩,
 ⟨some 14, none, .nilck (.t 13)⟩,
 ⟨some 15, none, .fad 56 (.t 14) 0⟩,
 ⟨some 16, none, .load 3 (.t 15)⟩]))
 (.blk 0
 (.seq (.reg [⟨some 21, none, .bin .eql 3 (.t 16) (.c (.i .i64 1))⟩,
 ⟨some 20, none, .mv (.t 21)⟩])
 (.cond (.t 20)
 (.cut [0, 1] (.reg [⟨some 22, none, .mv (.t 0)⟩,
 ⟨some 23, none, .mv (.t 1)⟩,
 ⟨some 24, none, .nilck (.t 23)⟩,
 ⟨some 25, none, .fad 56 (.t 24) 1⟩,
 ⟨some 26, none, .load 47 (.t 25)⟩,
 ⟨some 27, none, .conv 47 111 (.t 26)⟩,
 ⟨some 28, none, .call (.c (.fn (.func 160) [] [])) [.t 27, .c (.i .i64 10)]⟩,
 ⟨some 29, none, .bsl 63 1 [(0, .t 28)]⟩,
 ⟨some 30, none, .call (.c (.fn (.func 64) [] [])) [.t 22, .t 29]⟩]))
 (.seq (.reg [⟨some 32, none, .bin .eql 3 (.t 16) (.c (.i .i64 2))⟩,
 ⟨some 31, none, .mv (.t 32)⟩])
 (.cond (.t 31)
 (.cut [0, 1] (.reg [⟨some 33, none, .mv (.t 0)⟩,
 ⟨some 34, none, .mv (.t 1)⟩,
 ⟨some 35, none, .nilck (.t 34)⟩,
 ⟨some 36, none, .fad 56 (.t 35) 2⟩,
 ⟨some 37, none, .load 9 (.t 36)⟩,
 ⟨some 38, none, .bsl 63 1 [(0, .t 37)]⟩,
 ⟨some 39, none, .call (.c (.fn (.func 64) [] [])) [.t 33, .t 38]⟩]))
 (.seq (.reg [⟨some 41, none, .bin .eql 3 (.t 16) (.c (.i .i64 4))⟩,
 ⟨some 40, none, .mv (.t 41)⟩])
 (.cond (.t 40)
 (.seq (.cut [0, 1] (.reg [⟨some 42, none, .mv (.t 0)⟩,
 ⟨some 43, none, .mv (.t 1)⟩,
 ⟨some 44, none, .nilck (.t 43)⟩,
 ⟨some 45, none, .fad 56 (.t 44) 2⟩,
 ⟨some 46, none, .load 9 (.t 45)⟩,
 ⟨some 47, none, .bsl 63 2 [(0, .t 46), (1, .c (.s [40]))]⟩,
 ⟨some 48, none, .call (.c (.fn (.func 64) [] [])) [.t 42, .t 47]⟩]))
 (.seq (.seq (.cut [0, 1] (.reg [⟨some 49, none, .mv (.t 1)⟩,
 ⟨some 50, none, .nilck (.t 49)⟩,
 ⟨some 51, none, .fad 56 (.t 50) 6⟩,
 ⟨some 52, none, .load 54 (.t 51)⟩,
 ⟨some 53, none, .len 54 (.t 52)⟩,
 ⟨some 54, none, .mv (.c (.i .i64 0))⟩]))
 (.blk 1
 (.loop [0, 52, 53, 54] c140L0)))
 (.cut [0] (.reg [⟨some 68, none, .mv (.t 0)⟩,
 ⟨some 69, none, .bsl 63 1 [(0, .c (.s [41]))]⟩,
 ⟨some 70, none, .call (.c (.fn (.func 64) [] [])) [.t 68, .t 69]⟩]))))
 (.seq (.reg [⟨some 72, none, .bin .eql 3 (.t 16) (.c (.i .i64 5))⟩,
 ⟨some 71, none, .mv (.t 72)⟩])
 (.cond (.t 71)
 (.seq (.cut [0, 1] (.reg [⟨some 73, none, .mv (.t 0)⟩,
 ⟨some 74, none, .mv (.t 1)⟩,
 ⟨some 75, none, .nilck (.t 74)⟩,
 ⟨some 76, none, .fad 56 (.t 75) 4⟩,
 ⟨some 77, none, .load 52 (.t 76)⟩,
 ⟨some 78, none, .call (.c (.fn (.func 140) [] [])) [.t 73, .t 77, .c (.i .i64 8)]⟩]))
 (.cut [1000000, 0, 1] (.seq (.cut [0, 1] (.reg [⟨some 79, none, .mv (.t 0)⟩,
 ⟨some 80, none, .bsl 63 1 [(0, .c (.s [91]))]⟩,
 ⟨some 81, none, .call (.c (.fn (.func 64) [] [])) [.t 79, .t 80]⟩]))
 (.seq (.cut [0, 1] (.reg [⟨some 82, none, .mv (.t 0)⟩,
 ⟨some 83, none, .mv (.t 1)⟩,
 ⟨some 84, none, .nilck (.t 83)⟩,
 ⟨some 85, none, .fad 56 (.t 84) 5⟩,
 ⟨some 86, none, .load 52 (.t 85)⟩,
 ⟨some 87, none, .call (.c (.fn (.func 140) [] [])) [.t 82, .t 86, .c (.i .i64 1)]⟩]))
 (.cut [0] (.reg [⟨some 88, none, .mv (.t 0)⟩,
 ⟨some 89, none, .bsl 63 1 [(0, .c (.s [93]))]⟩,
 ⟨some 90, none, .call (.c (.fn (.func 64) [] [])) [.t 88, .t 89]⟩]))))))
 (.seq (.reg [⟨some 92, none, .bin .eql 3 (.t 16) (.c (.i .i64 6))⟩,
 ⟨some 91, none, .mv (.t 92)⟩])
 (.cut [1000000, 0, 1, 2, 16, 91] (.cond (.t 91)
 (.seq (.cut [0, 1] (.reg [⟨some 93, none, .mv (.t 0)⟩,
 ⟨some 94, none, .mv (.t 1)⟩,
 ⟨some 95, none, .nilck (.t 94)⟩,
 ⟨some 96, none, .fad 56 (.t 95) 4⟩,
 ⟨some 97, none, .load 52 (.t 96)⟩,
 ⟨some 98, none, .call (.c (.fn (.func 140) [] [])) [.t 93, .t 97, .c (.i .i64 8)]⟩]))
 (.seq (.cut [0, 1] (.reg [⟨some 99, none, .mv (.t 0)⟩,
 ⟨some 100, none, .bsl 63 1 [(0, .c (.s [58]))]⟩,
 ⟨some 101, none, .call (.c (.fn (.func 64) [] [])) [.t 99, .t 100]⟩]))
 (.seq (.seq (.cut [0, 1] (.reg [⟨some 102, none, .mv (.t 1)⟩,
 ⟨some 103, none, .nilck (.t 102)⟩,
 ⟨some 104, none, .fad 56 (.t 103) 5⟩,
 ⟨some 105, none, .load 52 (.t 104)⟩,
 ⟨some 106, none, .bin .neq 52 (.t 105) (.c (.p0))⟩,
 ⟨some 107, none, .mv (.t 106)⟩,
 ⟨some 108, some (107, true), .mv (.t 1)⟩,
 ⟨some 109, some (107, true), .nilck (.t 108)⟩,
 ⟨some 110, some (107, true), .fad 56 (.t 109) 5⟩,
 ⟨some 111, some (107, true), .load 52 (.t 110)⟩,
 ⟨some 112, some (107, true), .nilck (.t 111)⟩,
 ⟨some 113, some (107, true), .fad 56 (.t 112) 0⟩,
 ⟨some 114, some (107, true), .load 3 (.t 113)⟩,
 ⟨some 115, some (107, true), .bin .eql 3 (.t 114) (.c (.i .i64 1))⟩,
 ⟨some 116, some (107, true), .mv (.t 115)⟩,
 ⟨some 117, some (116, false), .mv (.t 1)⟩,
 ⟨some 118, some (116, false), .nilck (.t 117)⟩,
 ⟨some 119, some (116, false), .fad 56 (.t 118) 5⟩,
 ⟨some 120, some (116, false), .load 52 (.t 119)⟩,
 ⟨some 121, some (116, false), .nilck (.t 120)⟩,
 ⟨some 122, some (116, false), .fad 56 (.t 121) 0⟩,
 ⟨some 123, some (116, false), .load 3 (.t 122)⟩,
 ⟨some 124, some (116, false), .bin .eql 3 (.t 123) (.c (.i .i64 2))⟩,
 ⟨some 125, some (107, true), .pick (.t 116) (.c (.b true)) (.t 124)⟩,
 ⟨some 126, none, .pick (.t 107) (.t 125) (.c (.b false))⟩]))
 (.cut [1000000, 0, 1, 126] (.cond (.t 126)
 (.seq (.cut [0, 1] (.reg [⟨some 127, none, .mv (.t 0)⟩,
 ⟨some 128, none, .mv (.t 1)⟩,
 ⟨some 129, none, .nilck (.t 128)⟩,
 ⟨some 130, none, .fad 56 (.t 129) 5⟩,
 ⟨some 131, none, .load 52 (.t 130)⟩,
 ⟨some 132, none, .call (.c (.fn (.func 140) [] [])) [.t 127, .t 131, .c (.i .i64 8)]⟩]))
 .ret)
 .skip)))
 (.seq (.cut [0, 1] (.reg [⟨some 133, none, .mv (.t 0)⟩,
 ⟨some 134, none, .bsl 63 1 [(0, .c (.s [40]))]⟩,
 ⟨some 135, none, .call (.c (.fn (.func 64) [] [])) [.t 133, .t 134]⟩]))
 (.seq (.cut [0, 1] (.reg [⟨some 136, none, .mv (.t 0)⟩,
 ⟨some 137, none, .mv (.t 1)⟩,
 ⟨some 138, none, .nilck (.t 137)⟩,
 ⟨some 139, none, .fad 56 (.t 138) 5⟩,
 ⟨some 140, none, .load 52 (.t 139)⟩,
 ⟨some 141, none, .call (.c (.fn (.func 140) [] [])) [.t 136, .t 140, .c (.i .i64 1)]⟩]))
 (.cut [0] (.reg [⟨some 142, none, .mv (.t 0)⟩,
 ⟨some 143, none, .bsl 63 1 [(0, .c (.s [41]))]⟩,
 ⟨some 144, none, .call (.c (.fn (.func 64) [] [])) [.t 142, .t 143]⟩])))))))
 (.seq (.reg [⟨some 146, none, .bin .eql 3 (.t 16) (.c (.i .i64 7))⟩,
 ⟨some 145, none, .mv (.t 146)⟩])
 (.cond (.t 145)
 (.seq (.cut [0, 1] (.reg [⟨some 147, none, .mv (.t 0)⟩,
 ⟨some 148, none, .bsl 63 1 [(0, .c (.s [110, 101, 119, 40]))]⟩,
 ⟨some 149, none, .call (.c (.fn (.func 64) [] [])) [.t 147, .t 148]⟩]))
 (.seq (.cut [0, 1] (.reg [⟨some 150, none, .mv (.t 0)⟩,
 ⟨some 151, none, .mv (.t 1)⟩,
 ⟨some 152, none, .nilck (.t 151)⟩,
 ⟨some 153, none, .fad 56 (.t 152) 4⟩,
 ⟨some 154, none, .load 52 (.t 153)⟩,
 ⟨some 155, none, .call (.c (.fn (.func 140) [] [])) [.t 150, .t 154, .c (.i .i64 1)]⟩]))
 (.cut [0] (.reg [⟨some 156, none, .mv (.t 0)⟩,
 ⟨some 157, none, .bsl 63 1 [(0, .c (.s [41]))]⟩,
 ⟨some 158, none, .call (.c (.fn (.func 64) [] [])) [.t 156, .t 157]⟩]))))
 (.seq (.reg [⟨some 160, none, .bin .eql 3 (.t 16) (.c (.i .i64 8))⟩,
 ⟨some 159, none, .mv (.t 160)⟩])
 (.cond (.t 159)
 (.cut [0] (.reg [⟨some 161, none, .mv (.t 0)⟩,
 ⟨some 162, none, .bsl 63 1 [(0, .c (.s [105, 110, 40, 41]))]⟩,
 ⟨some 163, none, .call (.c (.fn (.func 64) [] [])) [.t 161, .t 162]⟩]))
 (.seq (.reg [⟨some 165, none, .bin .eql 3 (.t 16) (.c (.i .i64 3))⟩,
 ⟨some 164, none, .mv (.t 165)⟩])
 (.cond (.t 164)
 (.cut [0, 1, 2] (.reg [⟨some 166, none, .mv (.t 0)⟩,
 ⟨some 167, none, .mv (.t 1)⟩,
 ⟨some 168, none, .mv (.t 2)⟩,
 ⟨some 169, none, .call (.c (.fn (.func 161) [] [])) [.t 166, .t 167, .t 168]⟩]))
 (.cut [0] (.reg [⟨some 17, none, .mv (.t 0)⟩,
 ⟨some 18, none, .nilck (.t 17)⟩,
 ⟨some 19, none, .fad 92 (.t 18) 2⟩,
 ⟨none, none, .store 4 (.t 19) (.c (.b true))⟩]))))))))))))))))))))))
def F140 : AF := ⟨170, [], c140⟩
/-- (*fallow/parse.printer).branch -/
def c141 : AC := (.seq (.cut [0, 1] (.reg [⟨some 4, none, .mv (.t 0)⟩,
 ⟨some 5, none, .bsl 63 1 [(0, .c (.s [105, 102, 32]))]⟩,
 ⟨some 6, none, .call (.c (.fn (.func 64) [] [])) [.t 4, .t 5]⟩]))
 (.seq (.cut [0, 1] (.reg [⟨some 7, none, .mv (.t 0)⟩,
 ⟨some 8, none, .mv (.t 1)⟩,
 ⟨some 9, none, .nilck (.t 8)⟩,
 ⟨some 10, none, .fad 75 (.t 9) 4⟩,
 ⟨some 11, none, .load 52 (.t 10)⟩,
 ⟨some 12, none, .call (.c (.fn (.func 140) [] [])) [.t 7, .t 11, .c (.i .i64 1)]⟩]))
 (.seq (.cut [0, 1] (.reg [⟨some 13, none, .mv (.t 0)⟩,
 ⟨some 14, none, .mv (.t 1)⟩,
 ⟨some 15, none, .nilck (.t 14)⟩,
 ⟨some 16, none, .fad 75 (.t 15) 5⟩,
 ⟨some 17, none, .load 69 (.t 16)⟩,
 ⟨some 18, none, .call (.c (.fn (.func 65) [] [])) [.t 13, .t 17]⟩]))
 (.blk 0
 (.seq (.cut [0, 1] (.reg [⟨some 20, none, .mv (.t 1)⟩,
 ⟨some 21, none, .nilck (.t 20)⟩,
 ⟨some 22, none, .fad 75 (.t 21) 6⟩,
 ⟨some 23, none, .load 69 (.t 22)⟩,
 ⟨some 24, none, .len 69 (.t 23)⟩,
 ⟨some 25, none, .bin .eql 3 (.t 24) (.c (.i .i64 1))⟩,
 ⟨some 26, none, .mv (.t 25)⟩,
 ⟨some 27, some (26, true), .mv (.t 1)⟩,
 ⟨some 28, some (26, true), .nilck (.t 27)⟩,
 ⟨some 29, some (26, true), .fad 75 (.t 28) 6⟩,
 ⟨some 30, some (26, true), .load 69 (.t 29)⟩,
 ⟨some 31, some (26, true), .iad 69 (.t 30) (.c (.i .i64 0))⟩,
 ⟨some 32, some (26, true), .load 73 (.t 31)⟩,
 ⟨some 33, some (26, true), .bin .neq 73 (.t 32) (.c (.p0))⟩,
 ⟨some 34, none, .pick (.t 26) (.t 33) (.c (.b false))⟩,
 ⟨some 35, none, .mv (.t 34)⟩,
 ⟨some 36, some (35, true), .mv (.t 1)⟩,
 ⟨some 37, some (35, true), .nilck (.t 36)⟩,
 ⟨some 38, some (35, true), .fad 75 (.t 37) 6⟩,
 ⟨some 39, some (35, true), .load 69 (.t 38)⟩,
 ⟨some 40, some (35, true), .iad 69 (.t 39) (.c (.i .i64 0))⟩,
 ⟨some 41, some (35, true), .load 73 (.t 40)⟩,
 ⟨some 42, some (35, true), .nilck (.t 41)⟩,
 ⟨some 43, some (35, true), .fad 75 (.t 42) 0⟩,
 ⟨some 44, some (35, true), .load 3 (.t 43)⟩,
 ⟨some 45, some (35, true), .bin .eql 3 (.t 44) (.c (.i .i64 4))⟩,
 ⟨some 46, none, .pick (.t 35) (.t 45) (.c (.b false))⟩,
 ⟨some 19, none, .mv (.t 46)⟩]))
 (.cut [1000000, 0, 1, 19] (.cond (.t 19)
 (.seq (.cut [0, 1] (.reg [⟨some 47, none, .mv (.t 0)⟩,
 ⟨some 48, none, .bsl 63 1 [(0, .c (.s [32, 101, 108, 115, 101, 32]))]⟩,
 ⟨some 49, none, .call (.c (.fn (.func 64) [] [])) [.t 47, .t 48]⟩]))
 (.cut [0, 1] (.reg [⟨some 50, none, .mv (.t 0)⟩,
 ⟨some 51, none, .mv (.t 1)⟩,
 ⟨some 52, none, .nilck (.t 51)⟩,
 ⟨some 53, none, .fad 75 (.t 52) 6⟩,
 ⟨some 54, none, .load 69 (.t 53)⟩,
 ⟨some 55, none, .iad 69 (.t 54) (.c (.i .i64 0))⟩,
 ⟨some 56, none, .load 73 (.t 55)⟩,
 ⟨some 57, none, .call (.c (.fn (.func 141) [] [])) [.t 50, .t 56]⟩])))
 (.seq (.cut [0, 1] (.reg [⟨some 59, none, .mv (.t 1)⟩,
 ⟨some 60, none, .nilck (.t 59)⟩,
 ⟨some 61, none, .fad 75 (.t 60) 6⟩,
 ⟨some 62, none, .load 69 (.t 61)⟩,
 ⟨some 63, none, .len 69 (.t 62)⟩,
 ⟨some 64, none, .bin .gtr 3 (.t 63) (.c (.i .i64 0))⟩,
 ⟨some 58, none, .mv (.t 64)⟩]))
 (.cond (.t 58)
 (.seq (.cut [0, 1] (.reg [⟨some 65, none, .mv (.t 0)⟩,
 ⟨some 66, none, .bsl 63 1 [(0, .c (.s [32, 101, 108, 115, 101]))]⟩,
 ⟨some 67, none, .call (.c (.fn (.func 64) [] [])) [.t 65, .t 66]⟩]))
 (.cut [0, 1] (.reg [⟨some 68, none, .mv (.t 0)⟩,
 ⟨some 69, none, .mv (.t 1)⟩,
 ⟨some 70, none, .nilck (.t 69)⟩,
 ⟨some 71, none, .fad 75 (.t 70) 6⟩,
 ⟨some 72, none, .load 69 (.t 71)⟩,
 ⟨some 73, none, .call (.c (.fn (.func 65) [] [])) [.t 68, .t 72]⟩])))
 .skip)))))))))
def F141 : AF := ⟨74, [], c141⟩
/-- fallow/parse.both[fallow/api.Expr] -/
def c142 : AC := (.seq (.reg [⟨some 6, none, .mv (.c (.b false))⟩])
 (.seq (.seq (.cut [0, 1, 2] (.reg [⟨some 7, none, .mv (.t 0)⟩,
 ⟨some 8, none, .bin .eql 52 (.t 7) (.c (.p0))⟩,
 ⟨some 9, none, .mv (.t 8)⟩,
 ⟨some 10, some (9, false), .mv (.t 1)⟩,
 ⟨some 11, some (9, false), .bin .eql 52 (.t 10) (.c (.p0))⟩,
 ⟨some 12, none, .pick (.t 9) (.c (.b true)) (.t 11)⟩]))
 (.cond (.t 12)
 (.seq (.cut [0, 1] (.reg [⟨some 13, none, .mv (.t 0)⟩,
 ⟨some 14, none, .bin .eql 52 (.t 13) (.c (.p0))⟩,
 ⟨some 15, none, .mv (.t 14)⟩,
 ⟨some 16, some (15, true), .mv (.t 1)⟩,
 ⟨some 17, some (15, true), .bin .eql 52 (.t 16) (.c (.p0))⟩,
 ⟨some 18, none, .pick (.t 15) (.t 17) (.c (.b false))⟩,
 ⟨some 6, none, .mv (.t 18)⟩]))
 .ret)
 .skip))
 (.seq (.cut [0, 1, 2] (.reg [⟨some 19, none, .mv (.t 2)⟩,
 ⟨some 20, none, .mv (.t 0)⟩,
 ⟨some 21, none, .mv (.t 1)⟩,
 ⟨some 22, none, .call (.t 19) [.t 20, .t 21]⟩,
 ⟨some 6, none, .mv (.t 22)⟩]))
 .ret)))
def F142 : AF := ⟨23, [.t 6], c142⟩
/-- fallow/parse.sameExpr$1 -/
def c143 : AC := (.seq (.reg [⟨some 4, none, .mv (.c (.b false))⟩])
 (.seq (.cut [0, 1] (.drw [(⟨some 6, none, .mv (.t 0)⟩, []),
 (⟨some 7, none, .nilck (.t 6)⟩, []),
 (⟨some 8, none, .fad 56 (.t 7) 0⟩, []),
 (⟨some 9, none, .load 3 (.t 8)⟩, []),
 (⟨some 10, none, .mv (.t 1)⟩, []),
 (⟨some 11, none, .nilck (.t 10)⟩, []),
 (⟨some 12, none, .fad 56 (.t 11) 0⟩, []),
 (⟨some 13, none, .load 3 (.t 12)⟩, []),
 (⟨some 14, none, .bin .eql 3 (.t 9) (.t 13)⟩, []),
 (⟨some 15, none, .mv (.t 14)⟩, []),
 (⟨some 16, some (15, true), .mv (.t 0)⟩, []),
 (⟨some 17, some (15, true), .nilck (.t 16)⟩, []),
 (⟨some 18, some (15, true), .fad 56 (.t 17) 1⟩, []),
 (⟨some 19, some (15, true), .load 47 (.t 18)⟩, []),
 (⟨some 20, some (15, true), .mv (.t 1)⟩, []),
 (⟨some 21, some (15, true), .nilck (.t 20)⟩, []),
 (⟨some 22, some (15, true), .fad 56 (.t 21) 1⟩, []),
 (⟨some 23, some (15, true), .load 47 (.t 22)⟩, []),
 (⟨some 24, some (15, true), .bin .eql 47 (.t 19) (.t 23)⟩, []),
 (⟨some 25, none, .pick (.t 15) (.t 24) (.c (.b false))⟩, []),
 (⟨some 26, none, .mv (.t 25)⟩, []),
 (⟨some 27, some (26, true), .mv (.t 0)⟩, []),
 (⟨some 28, some (26, true), .nilck (.t 27)⟩, []),
 (⟨some 29, some (26, true), .fad 56 (.t 28) 2⟩, []),
 (⟨some 30, some (26, true), .load 9 (.t 29)⟩, []),
 (⟨some 31, some (26, true), .mv (.t 1)⟩, []),
 (⟨some 32, some (26, true), .nilck (.t 31)⟩, []),
 (⟨some 33, some (26, true), .fad 56 (.t 32) 2⟩, []),
 (⟨some 34, some (26, true), .load 9 (.t 33)⟩, []),
 (⟨some 35, some (26, true), .bin .eql 9 (.t 30) (.t 34)⟩, []),
 (⟨some 36, none, .pick (.t 26) (.t 35) (.c (.b false))⟩, []),
 (⟨some 37, none, .mv (.t 36)⟩, []),
 (⟨some 38, some (37, true), .mv (.t 0)⟩, []),
 (⟨some 39, some (37, true), .nilck (.t 38)⟩, []),
 (⟨some 40, some (37, true), .fad 56 (.t 39) 3⟩, []),
 (⟨some 41, some (37, true), .load 9 (.t 40)⟩, []),
 (⟨some 42, some (37, true), .mv (.t 1)⟩, []),
 (⟨some 43, some (37, true), .nilck (.t 42)⟩, []),
 (⟨some 44, some (37, true), .fad 56 (.t 43) 3⟩, []),
 (⟨some 45, some (37, true), .load 9 (.t 44)⟩, []),
 (⟨some 46, some (37, true), .bin .eql 9 (.t 41) (.t 45)⟩, []),
 (⟨some 47, none, .pick (.t 37) (.t 46) (.c (.b false))⟩, []),
 (⟨some 5, none, .mv (.t 47)⟩, [])]))
 (.cut [1000000, 0, 1, 5] (.seq (.cut [0, 1, 5] (.drw [(⟨some 48, none, .mv (.t 5)⟩, []),
 (⟨some 49, none, .mv (.t 48)⟩, []),
 (⟨some 50, some (49, true), .mv (.t 0)⟩, []),
 (⟨some 51, some (49, true), .nilck (.t 50)⟩, []),
 (⟨some 52, some (49, true), .fad 56 (.t 51) 6⟩, []),
 (⟨some 53, some (49, true), .load 54 (.t 52)⟩, []),
 (⟨some 54, some (49, true), .mv (.t 1)⟩, []),
 (⟨some 55, some (49, true), .nilck (.t 54)⟩, []),
 (⟨some 56, some (49, true), .fad 56 (.t 55) 6⟩, []),
 (⟨some 57, some (49, true), .load 54 (.t 56)⟩, []),
 (⟨some 58, some (49, true), .call (.c (.fn (.func 144) [] [])) [.t 53, .t 57, .c (.fn (.func 108) [] [])]⟩, []),
 (⟨some 59, none, .pick (.t 49) (.t 58) (.c (.b false))⟩, []),
 (⟨some 60, none, .mv (.t 59)⟩, []),
 (⟨some 61, some (60, true), .mv (.t 0)⟩, []),
 (⟨some 62, some (60, true), .nilck (.t 61)⟩, []),
 (⟨some 63, some (60, true), .fad 56 (.t 62) 4⟩, []),
 (⟨some 64, some (60, true), .load 52 (.t 63)⟩, []),
 (⟨some 65, some (60, true), .mv (.t 1)⟩, []),
 (⟨some 66, some (60, true), .nilck (.t 65)⟩, []),
 (⟨some 67, some (60, true), .fad 56 (.t 66) 4⟩, []),
 (⟨some 68, some (60, true), .load 52 (.t 67)⟩, []),
 (⟨some 69, some (60, true), .call (.c (.fn (.func 108) [] [])) [.t 64, .t 68]⟩, []),
 (⟨some 70, none, .pick (.t 60) (.t 69) (.c (.b false))⟩, []),
 (⟨some 71, none, .mv (.t 70)⟩, []),
 (⟨some 72, some (71, true), .mv (.t 0)⟩, []),
 (⟨some 73, some (71, true), .nilck (.t 72)⟩, []),
 (⟨some 74, some (71, true), .fad 56 (.t 73) 5⟩, []),
 (⟨some 75, some (71, true), .load 52 (.t 74)⟩, []),
 (⟨some 76, some (71, true), .mv (.t 1)⟩, []),
 (⟨some 77, some (71, true), .nilck (.t 76)⟩, []),
 (⟨some 78, some (71, true), .fad 56 (.t 77) 5⟩, []),
 (⟨some 79, some (71, true), .load 52 (.t 78)⟩, []),
 (⟨some 80, some (71, true), .call (.c (.fn (.func 108) [] [])) [.t 75, .t 79]⟩, []),
 (⟨some 81, none, .pick (.t 71) (.t 80) (.c (.b false))⟩, []),
 (⟨some 4, none, .mv (.t 81)⟩, [])]))
 .ret))))
def F143 : AF := ⟨82, [.t 4], c143⟩
/-- slices.EqualFunc[[]*fallow/api.Expr,[]*fallow/api.Expr,*fallow/api.Expr,*fallow/api.Expr] -/
def c144L0 : AC := (.seq (.reg [⟨some 18, none, .bin .lss 3 (.t 17) (.t 16)⟩])
 (.seq (.cond (.t 18)
 .skip
 (.exit 0))
 (.seq (.blk 1
 (.seq (.cut [1, 2, 15, 16, 17] (.reg [⟨some 19, none, .mv (.t 17)⟩,
 ⟨some 20, none, .iad 54 (.t 15) (.t 17)⟩,
 ⟨some 21, none, .load 52 (.t 20)⟩,
 ⟨some 7, none, .mv (.t 19)⟩,
 ⟨some 8, none, .mv (.t 21)⟩]))
 (.seq (.cut [1, 2, 7, 8, 15, 16, 17] (.reg [⟨some 22, none, .mv (.t 1)⟩,
 ⟨some 23, none, .mv (.t 7)⟩,
 ⟨some 24, none, .iad 54 (.t 22) (.t 23)⟩,
 ⟨some 25, none, .load 52 (.t 24)⟩,
 ⟨some 9, none, .mv (.t 25)⟩]))
 (.seq (.cut [1, 2, 8, 9, 15, 16, 17] (.reg [⟨some 26, none, .mv (.t 2)⟩,
 ⟨some 27, none, .mv (.t 8)⟩,
 ⟨some 28, none, .mv (.t 9)⟩,
 ⟨some 29, none, .call (.t 26) [.t 27, .t 28]⟩,
 ⟨some 30, none, .un .not (.t 29)⟩]))
 (.cond (.t 30)
 (.seq (.reg [⟨some 6, none, .mv (.c (.b false))⟩])
 .ret)
 .skip)))))
 (.reg [⟨some 31, none, .bin .add 3 (.t 17) (.c (.i .i64 1))⟩,
 ⟨some 17, none, .mv (.t 31)⟩]))))
def c144 : AC := (.seq (.reg [⟨some 6, none, .mv (.c (.b false))⟩])
 (.seq (.seq (.cut [0, 1, 2] (.reg [⟨some 10, none, .mv (.t 0)⟩,
 ⟨some 11, none, .len 54 (.t 10)⟩,
 ⟨some 12, none, .mv (.t 1)⟩,
 ⟨some 13, none, .len 54 (.t 12)⟩,
 ⟨some 14, none, .bin .neq 3 (.t 11) (.t 13)⟩]))
 (.cond (.t 14)
 (.seq (.reg [⟨some 6, none, .mv (.c (.b false))⟩])
 .ret)
 .skip))
 (.seq (.seq (.cut [0, 1, 2] (.reg [⟨some 15, none, .mv (.t 0)⟩,
 ⟨some 16, none, .len 54 (.t 15)⟩,
 ⟨some 17, none, .mv (.c (.i .i64 0))⟩]))
 (.blk 0
 (.loop [1, 2, 15, 16, 17] c144L0)))
 (.seq (.reg [⟨some 6, none, .mv (.c (.b true))⟩])
 .ret))))
def F144 : AF := ⟨32, [.t 6], c144⟩
/-- (*fallow/parse.parser).stmt$1 -/
def c145 : AC := (.seq (.reg [⟨some 4, none, .mv (.c (.p0))⟩])
 (.seq (.cut [0, 1, 2] (.reg [⟨some 5, none, .load 73 (.t 1)⟩,
 ⟨some 6, none, .mv (.t 0)⟩,
 ⟨some 7, none, .nilck (.t 5)⟩,
 ⟨some 8, none, .fad 75 (.t 7) 0⟩,
 ⟨none, none, .store 3 (.t 8) (.t 6)⟩]))
 (.seq (.cut [1, 2] (.drw [(⟨some 9, none, .load 73 (.t 1)⟩, []),
 (⟨some 10, none, .load 100 (.t 2)⟩, []),
 (⟨some 11, none, .call (.c (.fn (.func 146) [] [])) [.t 10, .c (.i .i64 1)]⟩, [⟨some 9, none, .load 73 (.t 1)⟩]),
 (⟨some 12, none, .nilck (.t 9)⟩, []),
 (⟨some 13, none, .fad 75 (.t 12) 4⟩, []),
 (⟨none, none, .store 52 (.t 13) (.t 11)⟩, [])]))
 (.seq (.reg [⟨some 14, none, .load 100 (.t 2)⟩,
 ⟨some 15, none, .call (.c (.fn (.func 72) [] [])) [.t 14, .c (.s [59])]⟩])
 (.seq (.reg [⟨some 16, none, .load 73 (.t 1)⟩,
 ⟨some 4, none, .mv (.t 16)⟩])
 .ret)))))
def F145 : AF := ⟨17, [.t 4], c145⟩
/-- (*fallow/parse.parser).expr -/
def c146L0 : AC := (.seq (.seq (.cut [0, 1, 5] (.reg [⟨some 10, none, .mv (.t 0)⟩,
 ⟨some 11, none, .call (.c (.fn (.func 37) [] [])) [.t 10]⟩,
 ⟨some 12, none, .un .not (.t 11)⟩]))
 (.cond (.t 12)
 .skip
 (.exit 0)))
 (.blk 1
 (.seq (.cut [0, 1, 5] (.reg [⟨some 13, none, .mv (.t 0)⟩,
 ⟨some 14, none, .call (.c (.fn (.func 38) [] [])) [.t 13]⟩,
 ⟨some 6, none, .alloc 44⟩,
 ⟨none, none, .store 44 (.t 6) (.t 14)⟩]))
 (.seq (.cut [0, 1, 5, 6] (.reg [⟨some 15, none, .fad 44 (.t 6) 1⟩,
 ⟨some 16, none, .load 9 (.t 15)⟩,
 ⟨some 17, none, .call (.c (.fn (.func 163) [] [])) [.t 16]⟩,
 ⟨some 7, none, .mv (.t 17)⟩]))
 (.seq (.seq (.cut [0, 1, 5, 6, 7] (.reg [⟨some 18, none, .fad 44 (.t 6) 0⟩,
 ⟨some 19, none, .load 3 (.t 18)⟩,
 ⟨some 20, none, .bin .neq 3 (.t 19) (.c (.i .i64 3))⟩,
 ⟨some 21, none, .mv (.t 20)⟩,
 ⟨some 22, some (21, false), .mv (.t 7)⟩,
 ⟨some 23, some (21, false), .bin .eql 3 (.t 22) (.c (.i .i64 0))⟩,
 ⟨some 24, none, .pick (.t 21) (.c (.b true)) (.t 23)⟩,
 ⟨some 25, none, .mv (.t 24)⟩,
 ⟨some 26, some (25, false), .mv (.t 7)⟩,
 ⟨some 27, some (25, false), .mv (.t 1)⟩,
 ⟨some 28, some (25, false), .bin .lss 3 (.t 26) (.t 27)⟩,
 ⟨some 29, none, .pick (.t 25) (.c (.b true)) (.t 28)⟩]))
 (.cond (.t 29)
 (.exit 0)
 .skip))
 (.seq (.reg [⟨some 30, none, .mv (.t 0)⟩,
 ⟨some 31, none, .call (.c (.fn (.func 111) [] [])) [.t 30]⟩])
 (.cut [0, 1, 5, 6, 7] (.drw [(⟨some 32, none, .fad 44 (.t 6) 1⟩, []),
 (⟨some 33, none, .load 9 (.t 32)⟩, []),
 (⟨some 34, none, .mv (.t 5)⟩, []),
 (⟨some 35, none, .mv (.t 0)⟩, []),
 (⟨some 36, none, .mv (.t 7)⟩, []),
 (⟨some 37, none, .bin .add 3 (.t 36) (.c (.i .i64 1))⟩, []),
 (⟨some 39, none, .fad 44 (.t 6) 2⟩, []),
 (⟨some 40, none, .load 3 (.t 39)⟩, []),
 (⟨some 38, none, .call (.c (.fn (.func 146) [] [])) [.t 35, .t 37]⟩, [⟨some 33, none, .load 9 (.t 32)⟩, ⟨some 40, none, .load 3 (.t 39)⟩]),
 (⟨some 41, none, .build 56 [(0, .c (.i .i64 3)), (3, .t 33), (4, .t 34), (5, .t 38), (7, .t 40)]⟩, []),
 (⟨some 42, none, .box 56 (.t 41)⟩, []),
 (⟨some 5, none, .mv (.t 42)⟩, [])]))))))))
def c146 : AC := (.seq (.reg [⟨some 4, none, .mv (.c (.p0))⟩])
 (.seq (.cut [0, 1] (.reg [⟨some 8, none, .mv (.t 0)⟩,
 ⟨some 9, none, .call (.c (.fn (.func 162) [] [])) [.t 8]⟩,
 ⟨some 5, none, .mv (.t 9)⟩]))
 (.seq (.blk 0
 (.loop [0, 1, 5] c146L0))
 (.cut [1000000, 5] (.seq (.reg [⟨some 43, none, .mv (.t 5)⟩,
 ⟨some 4, none, .mv (.t 43)⟩])
 .ret)))))
def F146 : AF := ⟨44, [.t 4], c146⟩
/-- (*fallow/parse.parser).branch -/
def c147 : AC := (.seq (.reg [⟨some 4, none, .mv (.c (.p0))⟩])
 (.seq (.cut [0, 1] (.reg [⟨some 7, none, .mv (.t 1)⟩,
 ⟨some 8, none, .build 75 [(0, .c (.i .i64 4)), (7, .t 7)]⟩,
 ⟨some 9, none, .box 75 (.t 8)⟩,
 ⟨some 5, none, .mv (.t 9)⟩]))
 (.seq (.cut [0, 5] (.reg [⟨some 10, none, .mv (.t 5)⟩,
 ⟨some 11, none, .mv (.t 0)⟩,
 ⟨some 12, none, .call (.c (.fn (.func 146) [] [])) [.t 11, .c (.i .i64 1)]⟩,
 ⟨some 13, none, .nilck (.t 10)⟩,
 ⟨some 14, none, .fad 75 (.t 13) 4⟩,
 ⟨none, none, .store 52 (.t 14) (.t 12)⟩]))
 (.seq (.cut [0, 5] (.reg [⟨some 15, none, .mv (.t 5)⟩,
 ⟨some 16, none, .mv (.t 0)⟩,
 ⟨some 17, none, .call (.c (.fn (.func 77) [] [])) [.t 16]⟩,
 ⟨some 18, none, .nilck (.t 15)⟩,
 ⟨some 19, none, .fad 75 (.t 18) 5⟩,
 ⟨none, none, .store 69 (.t 19) (.t 17)⟩]))
 (.seq (.seq (.reg [⟨some 20, none, .mv (.t 0)⟩,
 ⟨some 21, none, .call (.c (.fn (.func 76) [] [])) [.t 20, .c (.s [101, 108, 115, 101])]⟩])
 (.cond (.t 21)
 (.seq (.cut [0, 5] (.reg [⟨some 22, none, .mv (.t 0)⟩,
 ⟨some 23, none, .call (.c (.fn (.func 38) [] [])) [.t 22]⟩,
 ⟨some 6, none, .alloc 44⟩,
 ⟨none, none, .store 44 (.t 6) (.t 23)⟩]))
 (.seq (.reg [⟨some 24, none, .mv (.t 0)⟩,
 ⟨some 25, none, .call (.c (.fn (.func 76) [] [])) [.t 24, .c (.s [105, 102])]⟩])
 (.cut [1000000, 0, 5, 6, 25] (.cond (.t 25)
 (.cut [0, 5, 6] (.reg [⟨some 26, none, .mv (.t 5)⟩,
 ⟨some 27, none, .mv (.t 0)⟩,
 ⟨some 28, none, .fad 44 (.t 6) 2⟩,
 ⟨some 29, none, .load 3 (.t 28)⟩,
 ⟨some 30, none, .call (.c (.fn (.func 147) [] [])) [.t 27, .t 29]⟩,
 ⟨some 31, none, .bsl 69 1 [(0, .t 30)]⟩,
 ⟨some 32, none, .nilck (.t 26)⟩,
 ⟨some 33, none, .fad 75 (.t 32) 6⟩,
 ⟨none, none, .store 69 (.t 33) (.t 31)⟩]))
 (.cut [0, 5] (.reg [⟨some 34, none, .mv (.t 5)⟩,
 ⟨some 35, none, .mv (.t 0)⟩,
 ⟨some 36, none, .call (.c (.fn (.func 77) [] [])) [.t 35]⟩,
 ⟨some 37, none, .nilck (.t 34)⟩,
 ⟨some 38, none, .fad 75 (.t 37) 6⟩,
 ⟨none, none, .store 69 (.t 38) (.t 36)⟩]))))))
 .skip))
 (.seq (.reg [⟨some 39, none, .mv (.t 5)⟩,
 ⟨some 4, none, .mv (.t 39)⟩])
 .ret))))))
def F147 : AF := ⟨40, [.t 4], c147⟩
/-- (*fallow/parse.parser).post -/
def c148L0 : AC := (.seq (.seq (.cut [0, 3] (.reg [⟨some 7, none, .mv (.t 0)⟩,
 ⟨some 8, none, .bsl 63 2 [(0, .c (.s [91])), (1, .c (.s [58]))]⟩,
 ⟨some 9, none, .call (.c (.fn (.func 114) [] [])) [.t 7, .t 8]⟩]))
 (.cond (.t 9)
 .skip
 (.exit 0)))
 (.blk 1
 (.seq (.cut [0, 3] (.reg [⟨some 10, none, .mv (.t 0)⟩,
 ⟨some 11, none, .call (.c (.fn (.func 38) [] [])) [.t 10]⟩,
 ⟨some 4, none, .alloc 44⟩,
 ⟨none, none, .store 44 (.t 4) (.t 11)⟩]))
 (.seq (.cut [0, 3, 4] (.reg [⟨some 12, none, .fad 44 (.t 4) 1⟩,
 ⟨some 13, none, .load 9 (.t 12)⟩,
 ⟨some 14, none, .bin .eql 9 (.t 13) (.c (.s [91]))⟩]))
 (.cond (.t 14)
 (.cut [0, 3, 4] (.drw [(⟨some 15, none, .mv (.t 3)⟩, []),
 (⟨some 16, none, .mv (.t 0)⟩, []),
 (⟨some 18, none, .fad 44 (.t 4) 2⟩, []),
 (⟨some 19, none, .load 3 (.t 18)⟩, []),
 (⟨some 17, none, .call (.c (.fn (.func 165) [] [])) [.t 16, .c (.s [91]), .c (.s [93])]⟩, [⟨some 19, none, .load 3 (.t 18)⟩]),
 (⟨some 20, none, .build 56 [(0, .c (.i .i64 5)), (4, .t 15), (5, .t 17), (7, .t 19)]⟩, []),
 (⟨some 21, none, .box 56 (.t 20)⟩, []),
 (⟨some 3, none, .mv (.t 21)⟩, [])]))
 (.seq (.reg [⟨some 22, none, .mv (.t 0)⟩,
 ⟨some 23, none, .call (.c (.fn (.func 111) [] [])) [.t 22]⟩])
 (.cut [0, 3, 4] (.drw [(⟨some 24, none, .mv (.t 3)⟩, []),
 (⟨some 25, none, .mv (.t 0)⟩, []),
 (⟨some 27, none, .fad 44 (.t 4) 2⟩, []),
 (⟨some 28, none, .load 3 (.t 27)⟩, []),
 (⟨some 26, none, .call (.c (.fn (.func 166) [] [])) [.t 25]⟩, [⟨some 28, none, .load 3 (.t 27)⟩]),
 (⟨some 29, none, .build 56 [(0, .c (.i .i64 6)), (4, .t 24), (5, .t 26), (7, .t 28)]⟩, []),
 (⟨some 30, none, .box 56 (.t 29)⟩, []),
 (⟨some 3, none, .mv (.t 30)⟩, [])]))))))))
def c148 : AC := (.seq (.reg [⟨some 2, none, .mv (.c (.p0))⟩])
 (.seq (.cut [0] (.reg [⟨some 5, none, .mv (.t 0)⟩,
 ⟨some 6, none, .call (.c (.fn (.func 164) [] [])) [.t 5]⟩,
 ⟨some 3, none, .mv (.t 6)⟩]))
 (.seq (.blk 0
 (.loop [0, 3] c148L0))
 (.seq (.reg [⟨some 31, none, .mv (.t 3)⟩,
 ⟨some 2, none, .mv (.t 31)⟩])
 .ret))))
def F148 : AF := ⟨32, [.t 2], c148⟩
/-- unicode.isExcludingLatin -/
def c149 : AC := (.seq (.reg [⟨some 4, none, .mv (.c (.b false))⟩])
 (.seq (.cut [0, 1] (.reg [⟨some 8, none, .mv (.t 0)⟩,
 ⟨some 9, none, .nilck (.t 8)⟩,
 ⟨some 10, none, .fad 222 (.t 9) 0⟩,
 ⟨some 11, none, .load 219 (.t 10)⟩,
 ⟨some 5, none, .mv (.t 11)⟩]))
 (.seq (.seq (.cut [0, 1, 5] (.reg [⟨some 12, none, .mv (.t 0)⟩,
 ⟨some 13, none, .nilck (.t 12)⟩,
 ⟨some 14, none, .fad 222 (.t 13) 2⟩,
 ⟨some 15, none, .load 3 (.t 14)⟩,
 ⟨some 6, none, .mv (.t 15)⟩]))
 (.seq (.cut [0, 1, 5, 6] (.reg [⟨some 16, none, .mv (.t 5)⟩,
 ⟨some 17, none, .len 219 (.t 16)⟩,
 ⟨some 18, none, .mv (.t 6)⟩,
 ⟨some 19, none, .bin .gtr 3 (.t 17) (.t 18)⟩,
 ⟨some 20, none, .mv (.t 19)⟩,
 ⟨some 21, some (20, true), .mv (.t 1)⟩,
 ⟨some 22, some (20, true), .conv 21 47 (.t 21)⟩,
 ⟨some 23, some (20, true), .mv (.t 5)⟩,
 ⟨some 24, some (20, true), .mv (.t 5)⟩,
 ⟨some 25, some (20, true), .len 219 (.t 24)⟩,
 ⟨some 26, some (20, true), .bin .sub 3 (.t 25) (.c (.i .i64 1))⟩,
 ⟨some 27, some (20, true), .iad 219 (.t 23) (.t 26)⟩,
 ⟨some 28, some (20, true), .fad 225 (.t 27) 1⟩,
 ⟨some 29, some (20, true), .load 223 (.t 28)⟩,
 ⟨some 30, some (20, true), .conv 223 47 (.t 29)⟩,
 ⟨some 31, some (20, true), .bin .leq 47 (.t 22) (.t 30)⟩,
 ⟨some 32, none, .pick (.t 20) (.t 31) (.c (.b false))⟩]))
 (.cond (.t 32)
 (.seq (.cut [1, 5, 6] (.reg [⟨some 33, none, .mv (.t 5)⟩,
 ⟨some 34, none, .mv (.t 6)⟩,
 ⟨some 35, none, .slc 219 (.t 33) (some (.t 34)) none⟩,
 ⟨some 36, none, .mv (.t 1)⟩,
 ⟨some 37, none, .conv 21 223 (.t 36)⟩,
 ⟨some 38, none, .call (.c (.fn (.func 167) [] [])) [.t 35, .t 37]⟩,
 ⟨some 4, none, .mv (.t 38)⟩]))
 .ret)
 .skip)))
 (.cut [1000000, 0, 1] (.seq (.cut [0, 1] (.reg [⟨some 39, none, .mv (.t 0)⟩,
 ⟨some 40, none, .nilck (.t 39)⟩,
 ⟨some 41, none, .fad 222 (.t 40) 1⟩,
 ⟨some 42, none, .load 220 (.t 41)⟩,
 ⟨some 7, none, .mv (.t 42)⟩]))
 (.seq (.seq (.cut [1, 7] (.reg [⟨some 43, none, .mv (.t 7)⟩,
 ⟨some 44, none, .len 220 (.t 43)⟩,
 ⟨some 45, none, .bin .gtr 3 (.t 44) (.c (.i .i64 0))⟩,
 ⟨some 46, none, .mv (.t 45)⟩,
 ⟨some 47, some (46, true), .mv (.t 1)⟩,
 ⟨some 48, some (46, true), .mv (.t 7)⟩,
 ⟨some 49, some (46, true), .iad 220 (.t 48) (.c (.i .i64 0))⟩,
 ⟨some 50, some (46, true), .fad 228 (.t 49) 0⟩,
 ⟨some 51, some (46, true), .load 47 (.t 50)⟩,
 ⟨some 52, some (46, true), .conv 47 21 (.t 51)⟩,
 ⟨some 53, some (46, true), .bin .geq 21 (.t 47) (.t 52)⟩,
 ⟨some 54, none, .pick (.t 46) (.t 53) (.c (.b false))⟩]))
 (.cond (.t 54)
 (.seq (.cut [1, 7] (.reg [⟨some 55, none, .mv (.t 7)⟩,
 ⟨some 56, none, .mv (.t 1)⟩,
 ⟨some 57, none, .conv 21 47 (.t 56)⟩,
 ⟨some 58, none, .call (.c (.fn (.func 168) [] [])) [.t 55, .t 57]⟩,
 ⟨some 4, none, .mv (.t 58)⟩]))
 .ret)
 .skip))
 (.seq (.reg [⟨some 4, none, .mv (.c (.b false))⟩])
 .ret)))))))
def F149 : AF := ⟨59, [.t 4], c149⟩
/-- strconv.FormatUint -/
def c160 : AC := (.seq (.reg [⟨some 4, none, .mv (.c (.s []))⟩])
 (.seq (.cut [0, 1] (.reg [⟨some 5, none, .mv (.t 0)⟩,
 ⟨some 6, none, .mv (.t 1)⟩,
 ⟨some 7, none, .call (.c (.fn (.func 174) [] [])) [.t 5, .t 6]⟩,
 ⟨some 4, none, .mv (.t 7)⟩]))
 .ret))
def F160 : AF := ⟨8, [.t 4], c160⟩
/-- (*fallow/parse.printer).op -/
def c161 : AC := (.seq (.seq (.reg [⟨some 6, none, .mv (.c (.i .i64 7))⟩])
 (.seq (.seq (.cut [0, 1, 2, 6, 23, 24] (.reg [⟨some 7, none, .mv (.t 1)⟩,
 ⟨some 8, none, .nilck (.t 7)⟩,
 ⟨some 9, none, .fad 56 (.t 8) 4⟩,
 ⟨some 10, none, .load 52 (.t 9)⟩,
 ⟨some 11, none, .bin .neq 52 (.t 10) (.c (.p0))⟩]))
 (.cond (.t 11)
 (.cut [0, 1, 2, 23, 24] (.reg [⟨some 12, none, .mv (.t 1)⟩,
 ⟨some 13, none, .nilck (.t 12)⟩,
 ⟨some 14, none, .fad 56 (.t 13) 3⟩,
 ⟨some 15, none, .load 9 (.t 14)⟩,
 ⟨some 16, none, .call (.c (.fn (.func 163) [] [])) [.t 15]⟩,
 ⟨some 6, none, .mv (.t 16)⟩]))
 .skip))
 (.cut [1000000, 0, 1, 2, 6, 23, 24] (.seq (.seq (.cut [0, 1, 2, 6, 23, 24] (.reg [⟨some 17, none, .mv (.t 6)⟩,
 ⟨some 18, none, .mv (.t 2)⟩,
 ⟨some 19, none, .bin .lss 3 (.t 17) (.t 18)⟩]))
 (.cond (.t 19)
 (.seq (.cut [0, 1, 6, 19] (.reg [⟨some 20, none, .mv (.t 0)⟩,
 ⟨some 21, none, .bsl 63 1 [(0, .c (.s [40]))]⟩,
 ⟨some 22, none, .call (.c (.fn (.func 64) [] [])) [.t 20, .t 21]⟩]))
 (.reg [⟨some 23, none, .mv (.t 0)⟩,
 ⟨some 24, none, .bsl 63 1 [(0, .c (.s [41]))]⟩]))
 .skip))
 (.cut [1000000, 0, 1, 6, 19, 23, 24] (.seq (.seq (.cut [0, 1, 6, 19, 23, 24] (.reg [⟨some 25, none, .mv (.t 1)⟩,
 ⟨some 26, none, .nilck (.t 25)⟩,
 ⟨some 27, none, .fad 56 (.t 26) 4⟩,
 ⟨some 28, none, .load 52 (.t 27)⟩,
 ⟨some 29, none, .bin .neq 52 (.t 28) (.c (.p0))⟩]))
 (.cond (.t 29)
 (.seq (.cut [0, 1, 6, 19, 23, 24] (.reg [⟨some 30, none, .mv (.t 0)⟩,
 ⟨some 31, none, .mv (.t 1)⟩,
 ⟨some 32, none, .nilck (.t 31)⟩,
 ⟨some 33, none, .fad 56 (.t 32) 4⟩,
 ⟨some 34, none, .load 52 (.t 33)⟩,
 ⟨some 35, none, .mv (.t 6)⟩,
 ⟨some 36, none, .call (.c (.fn (.func 140) [] [])) [.t 30, .t 34, .t 35]⟩]))
 (.seq (.cut [0, 1, 6, 19, 23, 24] (.reg [⟨some 37, none, .mv (.t 0)⟩,
 ⟨some 38, none, .mv (.t 1)⟩,
 ⟨some 39, none, .nilck (.t 38)⟩,
 ⟨some 40, none, .fad 56 (.t 39) 3⟩,
 ⟨some 41, none, .load 9 (.t 40)⟩,
 ⟨some 42, none, .bsl 63 3 [(0, .c (.s [32])), (1, .t 41), (2, .c (.s [32]))]⟩,
 ⟨some 43, none, .call (.c (.fn (.func 64) [] [])) [.t 37, .t 42]⟩]))
 (.cut [0, 1, 6, 19, 23, 24] (.reg [⟨some 44, none, .mv (.t 6)⟩,
 ⟨some 45, none, .bin .add 3 (.t 44) (.c (.i .i64 1))⟩,
 ⟨some 6, none, .mv (.t 45)⟩]))))
 (.cut [0, 1, 6, 19, 23, 24] (.reg [⟨some 46, none, .mv (.t 0)⟩,
 ⟨some 47, none, .mv (.t 1)⟩,
 ⟨some 48, none, .nilck (.t 47)⟩,
 ⟨some 49, none, .fad 56 (.t 48) 3⟩,
 ⟨some 50, none, .load 9 (.t 49)⟩,
 ⟨some 51, none, .bsl 63 1 [(0, .t 50)]⟩,
 ⟨some 52, none, .call (.c (.fn (.func 64) [] [])) [.t 46, .t 51]⟩]))))
 (.cut [1000000, 0, 1, 6, 19, 23, 24] (.cut [0, 1, 6, 19, 23, 24] (.reg [⟨some 53, none, .mv (.t 0)⟩,
 ⟨some 54, none, .mv (.t 1)⟩,
 ⟨some 55, none, .nilck (.t 54)⟩,
 ⟨some 56, none, .fad 56 (.t 55) 5⟩,
 ⟨some 57, none, .load 52 (.t 56)⟩,
 ⟨some 58, none, .mv (.t 6)⟩,
 ⟨some 59, none, .call (.c (.fn (.func 140) [] [])) [.t 53, .t 57, .t 58]⟩])))))))))
 (.cond (.t 19)
 (.reg [⟨none, none, .call (.c (.fn (.func 64) [] [])) [.t 23, .t 24]⟩])
 .skip))
def F161 : AF := ⟨60, [], c161⟩
/-- (*fallow/parse.parser).sign -/
def c162 : AC := (.seq (.reg [⟨some 1, none, .box 100 (.t 0)⟩,
 ⟨some 2, none, .mv (.c (.p0))⟩])
 (.seq (.cut [1] (.reg [⟨some 5, none, .load 100 (.t 1)⟩,
 ⟨some 6, none, .call (.c (.fn (.func 38) [] [])) [.t 5]⟩,
 ⟨some 3, none, .alloc 44⟩,
 ⟨none, none, .store 44 (.t 3) (.t 6)⟩]))
 (.seq (.seq (.cut [1, 3] (.reg [⟨some 7, none, .load 100 (.t 1)⟩,
 ⟨some 8, none, .bsl 63 2 [(0, .c (.s [33])), (1, .c (.s [45]))]⟩,
 ⟨some 9, none, .call (.c (.fn (.func 114) [] [])) [.t 7, .t 8]⟩,
 ⟨some 10, none, .un .not (.t 9)⟩]))
 (.cond (.t 10)
 (.seq (.cut [1] (.reg [⟨some 11, none, .load 100 (.t 1)⟩,
 ⟨some 12, none, .call (.c (.fn (.func 148) [] [])) [.t 11]⟩,
 ⟨some 2, none, .mv (.t 12)⟩]))
 .ret)
 .skip))
 (.seq (.cut [1, 3] (.reg [⟨some 13, none, .fad 44 (.t 3) 1⟩,
 ⟨some 14, none, .load 9 (.t 13)⟩,
 ⟨some 15, none, .fad 44 (.t 3) 2⟩,
 ⟨some 16, none, .load 3 (.t 15)⟩,
 ⟨some 17, none, .build 56 [(0, .c (.i .i64 3)), (3, .t 14), (7, .t 16)]⟩,
 ⟨some 18, none, .box 56 (.t 17)⟩,
 ⟨some 4, none, .alloc 52⟩,
 ⟨none, none, .store 52 (.t 4) (.t 18)⟩]))
 (.seq (.cut [1, 3, 4] (.reg [⟨some 19, none, .load 100 (.t 1)⟩,
 ⟨some 20, none, .fad 44 (.t 3) 1⟩,
 ⟨some 21, none, .load 9 (.t 20)⟩,
 ⟨some 22, none, .mkf (.func 175) [] [.t 1, .t 4]⟩,
 ⟨some 23, none, .call (.c (.fn (.func 112) [] [])) [.t 19, .t 21, .t 22]⟩]))
 (.seq (.reg [⟨some 24, none, .load 52 (.t 4)⟩,
 ⟨some 2, none, .mv (.t 24)⟩])
 .ret))))))
def F162 : AF := ⟨25, [.t 2], c162⟩
/-- fallow/parse.binds -/
def c163 : AC := (.seq (.reg [⟨some 2, none, .mv (.c (.i .i64 0))⟩])
 (.seq (.cut [0] (.reg [⟨some 3, none, .mkm 238 none⟩,
 ⟨none, none, .mup 238 (.t 3) (.c (.s [124, 124])) (.c (.i .i64 1))⟩,
 ⟨none, none, .mup 238 (.t 3) (.c (.s [38, 38])) (.c (.i .i64 2))⟩,
 ⟨none, none, .mup 238 (.t 3) (.c (.s [61, 61])) (.c (.i .i64 3))⟩,
 ⟨none, none, .mup 238 (.t 3) (.c (.s [33, 61])) (.c (.i .i64 3))⟩,
 ⟨none, none, .mup 238 (.t 3) (.c (.s [60])) (.c (.i .i64 4))⟩,
 ⟨none, none, .mup 238 (.t 3) (.c (.s [60, 61])) (.c (.i .i64 4))⟩,
 ⟨none, none, .mup 238 (.t 3) (.c (.s [62])) (.c (.i .i64 4))⟩,
 ⟨none, none, .mup 238 (.t 3) (.c (.s [62, 61])) (.c (.i .i64 4))⟩,
 ⟨none, none, .mup 238 (.t 3) (.c (.s [43])) (.c (.i .i64 5))⟩,
 ⟨none, none, .mup 238 (.t 3) (.c (.s [45])) (.c (.i .i64 5))⟩,
 ⟨none, none, .mup 238 (.t 3) (.c (.s [124])) (.c (.i .i64 5))⟩,
 ⟨none, none, .mup 238 (.t 3) (.c (.s [94])) (.c (.i .i64 5))⟩,
 ⟨none, none, .mup 238 (.t 3) (.c (.s [42])) (.c (.i .i64 6))⟩,
 ⟨none, none, .mup 238 (.t 3) (.c (.s [47])) (.c (.i .i64 6))⟩,
 ⟨none, none, .mup 238 (.t 3) (.c (.s [37])) (.c (.i .i64 6))⟩,
 ⟨none, none, .mup 238 (.t 3) (.c (.s [38])) (.c (.i .i64 6))⟩,
 ⟨none, none, .mup 238 (.t 3) (.c (.s [60, 60])) (.c (.i .i64 6))⟩,
 ⟨none, none, .mup 238 (.t 3) (.c (.s [62, 62])) (.c (.i .i64 6))⟩,
 ⟨some 4, none, .mv (.t 3)⟩,
 ⟨some 5, none, .mv (.t 0)⟩,
 ⟨some 6, none, .lku 238 (.t 4) (.t 5) false⟩,
 ⟨some 2, none, .mv (.t 6)⟩]))
 .ret))
def F163 : AF := ⟨7, [.t 2], c163⟩
/-- (*fallow/parse.parser).first -/
def c164 : AC := (.seq (.reg [⟨some 1, none, .box 100 (.t 0)⟩,
 ⟨some 2, none, .mv (.c (.p0))⟩])
 (.seq (.cut [1] (.reg [⟨some 5, none, .load 100 (.t 1)⟩,
 ⟨some 6, none, .call (.c (.fn (.func 38) [] [])) [.t 5]⟩,
 ⟨some 3, none, .alloc 44⟩,
 ⟨none, none, .store 44 (.t 3) (.t 6)⟩]))
 (.seq (.blk 0
 (.seq (.cut [1, 3] (.reg [⟨some 8, none, .load 100 (.t 1)⟩,
 ⟨some 9, none, .call (.c (.fn (.func 76) [] [])) [.t 8, .c (.s [110, 101, 119])]⟩,
 ⟨some 7, none, .mv (.t 9)⟩]))
 (.cond (.t 7)
 (.seq (.cut [1, 3] (.drw [(⟨some 10, none, .load 100 (.t 1)⟩, []),
 (⟨some 12, none, .fad 44 (.t 3) 2⟩, []),
 (⟨some 13, none, .load 3 (.t 12)⟩, []),
 (⟨some 11, none, .call (.c (.fn (.func 165) [] [])) [.t 10, .c (.s [40]), .c (.s [41])]⟩, [⟨some 13, none, .load 3 (.t 12)⟩]),
 (⟨some 14, none, .build 56 [(0, .c (.i .i64 7)), (4, .t 11), (7, .t 13)]⟩, []),
 (⟨some 15, none, .box 56 (.t 14)⟩, []),
 (⟨some 2, none, .mv (.t 15)⟩, [])]))
 .ret)
 (.seq (.cut [1, 3] (.reg [⟨some 17, none, .load 100 (.t 1)⟩,
 ⟨some 18, none, .call (.c (.fn (.func 76) [] [])) [.t 17, .c (.s [105, 110])]⟩,
 ⟨some 16, none, .mv (.t 18)⟩]))
 (.cond (.t 16)
 (.seq (.cut [1, 3] (.reg [⟨some 19, none, .load 100 (.t 1)⟩,
 ⟨some 20, none, .mkf (.func 176) [] [.t 1]⟩,
 ⟨some 21, none, .call (.c (.fn (.func 112) [] [])) [.t 19, .c (.s [40]), .t 20]⟩]))
 (.seq (.cut [3] (.reg [⟨some 22, none, .fad 44 (.t 3) 2⟩,
 ⟨some 23, none, .load 3 (.t 22)⟩,
 ⟨some 24, none, .build 56 [(0, .c (.i .i64 8)), (7, .t 23)]⟩,
 ⟨some 25, none, .box 56 (.t 24)⟩,
 ⟨some 2, none, .mv (.t 25)⟩]))
 .ret))
 .skip)))))
 (.seq (.cut [1, 3] (.reg [⟨some 26, none, .load 100 (.t 1)⟩,
 ⟨some 27, none, .call (.c (.fn (.func 166) [] [])) [.t 26]⟩,
 ⟨some 4, none, .alloc 52⟩,
 ⟨none, none, .store 52 (.t 4) (.t 27)⟩]))
 (.cut [1000000, 1, 3, 4] (.seq (.seq (.cut [1, 3, 4] (.reg [⟨some 28, none, .fad 44 (.t 3) 0⟩,
 ⟨some 29, none, .load 3 (.t 28)⟩,
 ⟨some 30, none, .bin .eql 3 (.t 29) (.c (.i .i64 1))⟩,
 ⟨some 31, none, .mv (.t 30)⟩,
 ⟨some 32, some (31, true), .load 52 (.t 4)⟩,
 ⟨some 33, some (31, true), .nilck (.t 32)⟩,
 ⟨some 34, some (31, true), .fad 56 (.t 33) 0⟩,
 ⟨some 35, some (31, true), .load 3 (.t 34)⟩,
 ⟨some 36, some (31, true), .bin .eql 3 (.t 35) (.c (.i .i64 2))⟩,
 ⟨some 37, none, .pick (.t 31) (.t 36) (.c (.b false))⟩,
 ⟨some 38, none, .mv (.t 37)⟩,
 ⟨some 39, some (38, true), .load 100 (.t 1)⟩,
 ⟨some 40, some (38, true), .bsl 63 1 [(0, .c (.s [40]))]⟩,
 ⟨some 41, some (38, true), .call (.c (.fn (.func 114) [] [])) [.t 39, .t 40]⟩,
 ⟨some 42, none, .pick (.t 38) (.t 41) (.c (.b false))⟩]))
 (.cond (.t 42)
 (.seq (.cut [1, 4] (.reg [⟨some 43, none, .load 52 (.t 4)⟩,
 ⟨some 44, none, .nilck (.t 43)⟩,
 ⟨some 45, none, .fad 56 (.t 44) 0⟩,
 ⟨none, none, .store 3 (.t 45) (.c (.i .i64 4))⟩]))
 (.cut [1, 4] (.reg [⟨some 46, none, .load 100 (.t 1)⟩,
 ⟨some 47, none, .mkf (.func 177) [] [.t 4, .t 1]⟩,
 ⟨some 48, none, .call (.c (.fn (.func 74) [] [])) [.t 46, .t 47]⟩])))
 .skip))
 (.seq (.reg [⟨some 49, none, .load 52 (.t 4)⟩,
 ⟨some 2, none, .mv (.t 49)⟩])
 .ret)))))))
def F164 : AF := ⟨50, [.t 2], c164⟩
/-- (*fallow/parse.parser).within -/
def c165 : AC := (.seq (.cut [0, 1, 2] (.reg [⟨some 3, none, .box 100 (.t 0)⟩,
 ⟨some 5, none, .box 9 (.t 2)⟩,
 ⟨some 6, none, .alloc 52⟩]))
 (.seq (.cut [1, 3, 5, 6] (.reg [⟨some 7, none, .load 100 (.t 3)⟩,
 ⟨some 8, none, .mv (.t 1)⟩,
 ⟨some 9, none, .mkf (.func 178) [] [.t 3, .t 6, .t 5]⟩,
 ⟨some 10, none, .call (.c (.fn (.func 112) [] [])) [.t 7, .t 8, .t 9]⟩]))
 (.seq (.reg [⟨some 11, none, .load 52 (.t 6)⟩,
 ⟨none, none, .store 52 (.t 6) (.t 11)⟩])
 .ret)))
def F165 : AF := ⟨12, [.cell 6 52], c165⟩
/-- (*fallow/parse.parser).atom -/
def c166 : AC := (.seq (.reg [⟨some 2, none, .mv (.c (.p0))⟩])
 (.seq (.cut [0] (.reg [⟨some 6, none, .mv (.t 0)⟩,
 ⟨some 7, none, .call (.c (.fn (.func 38) [] [])) [.t 6]⟩,
 ⟨some 3, none, .alloc 44⟩,
 ⟨none, none, .store 44 (.t 3) (.t 7)⟩]))
 (.seq (.blk 0
 (.seq (.cut [0, 3] (.reg [⟨some 9, none, .mv (.t 0)⟩,
 ⟨some 10, none, .bsl 63 1 [(0, .c (.s [40]))]⟩,
 ⟨some 11, none, .call (.c (.fn (.func 114) [] [])) [.t 9, .t 10]⟩,
 ⟨some 8, none, .mv (.t 11)⟩]))
 (.cond (.t 8)
 (.seq (.cut [0] (.reg [⟨some 12, none, .mv (.t 0)⟩,
 ⟨some 13, none, .call (.c (.fn (.func 165) [] [])) [.t 12, .c (.s [40]), .c (.s [41])]⟩,
 ⟨some 2, none, .mv (.t 13)⟩]))
 .ret)
 (.seq (.cut [0, 3] (.reg [⟨some 15, none, .fad 44 (.t 3) 0⟩,
 ⟨some 16, none, .load 3 (.t 15)⟩,
 ⟨some 17, none, .bin .eql 3 (.t 16) (.c (.i .i64 2))⟩,
 ⟨some 18, none, .mv (.t 17)⟩,
 ⟨some 19, some (18, true), .mv (.t 0)⟩,
 ⟨some 20, some (18, true), .call (.c (.fn (.func 37) [] [])) [.t 19]⟩,
 ⟨some 21, some (18, true), .un .not (.t 20)⟩,
 ⟨some 22, none, .pick (.t 18) (.t 21) (.c (.b false))⟩,
 ⟨some 14, none, .mv (.t 22)⟩]))
 (.cond (.t 14)
 (.seq (.reg [⟨some 23, none, .mv (.t 0)⟩,
 ⟨some 24, none, .call (.c (.fn (.func 111) [] [])) [.t 23]⟩])
 (.seq (.cut [3] (.reg [⟨some 26, none, .fad 44 (.t 3) 1⟩,
 ⟨some 27, none, .load 9 (.t 26)⟩,
 ⟨some 28, none, .call (.c (.fn (.func 47) [] [])) [.t 27, .c (.i .i64 10), .c (.i .i64 32)]⟩,
 ⟨some 25, none, .mv (.t 28)⟩,
 ⟨some 29, none, .ext (.t 25) 0⟩,
 ⟨some 30, none, .ext (.t 25) 1⟩,
 ⟨some 4, none, .mv (.t 29)⟩,
 ⟨some 5, none, .mv (.t 30)⟩]))
 (.seq (.cut [3, 4] (.reg [⟨some 31, none, .mv (.t 4)⟩,
 ⟨some 32, none, .conv 111 47 (.t 31)⟩,
 ⟨some 33, none, .fad 44 (.t 3) 2⟩,
 ⟨some 34, none, .load 3 (.t 33)⟩,
 ⟨some 35, none, .build 56 [(0, .c (.i .i64 1)), (1, .t 32), (7, .t 34)]⟩,
 ⟨some 36, none, .box 56 (.t 35)⟩,
 ⟨some 2, none, .mv (.t 36)⟩]))
 .ret)))
 .skip)))))
 (.cut [1000000, 0, 3] (.seq (.cut [0, 3] (.drw [(⟨some 37, none, .mv (.t 0)⟩, []),
 (⟨some 39, none, .fad 44 (.t 3) 2⟩, []),
 (⟨some 40, none, .load 3 (.t 39)⟩, []),
 (⟨some 38, none, .call (.c (.fn (.func 73) [] [])) [.t 37]⟩, [⟨some 40, none, .load 3 (.t 39)⟩]),
 (⟨some 41, none, .build 56 [(0, .c (.i .i64 2)), (2, .t 38), (7, .t 40)]⟩, []),
 (⟨some 42, none, .box 56 (.t 41)⟩, []),
 (⟨some 2, none, .mv (.t 42)⟩, [])]))
 .ret)))))
def F166 : AF := ⟨43, [.t 2], c166⟩
/-- unicode.is16 -/
def c167L0 : AC := (.seq (.reg [⟨some 21, none, .bin .lss 3 (.t 20) (.t 19)⟩])
 (.seq (.cond (.t 21)
 .skip
 (.exit 0))
 (.seq (.blk 1
 (.seq (.reg [⟨some 22, none, .mv (.t 20)⟩,
 ⟨some 5, none, .mv (.t 22)⟩])
 (.seq (.cut [0, 1, 5, 19, 20] (.reg [⟨some 23, none, .mv (.t 0)⟩,
 ⟨some 24, none, .mv (.t 5)⟩,
 ⟨some 25, none, .iad 219 (.t 23) (.t 24)⟩,
 ⟨some 6, none, .mv (.t 25)⟩]))
 (.seq (.seq (.cut [0, 1, 6, 19, 20] (.reg [⟨some 26, none, .mv (.t 1)⟩,
 ⟨some 27, none, .mv (.t 6)⟩,
 ⟨some 28, none, .nilck (.t 27)⟩,
 ⟨some 29, none, .fad 225 (.t 28) 0⟩,
 ⟨some 30, none, .load 223 (.t 29)⟩,
 ⟨some 31, none, .bin .lss 223 (.t 26) (.t 30)⟩]))
 (.cond (.t 31)
 (.seq (.reg [⟨some 4, none, .mv (.c (.b false))⟩])
 .ret)
 .skip))
 (.seq (.cut [0, 1, 6, 19, 20] (.reg [⟨some 32, none, .mv (.t 1)⟩,
 ⟨some 33, none, .mv (.t 6)⟩,
 ⟨some 34, none, .nilck (.t 33)⟩,
 ⟨some 35, none, .fad 225 (.t 34) 1⟩,
 ⟨some 36, none, .load 223 (.t 35)⟩,
 ⟨some 37, none, .bin .leq 223 (.t 32) (.t 36)⟩]))
 (.cond (.t 37)
 (.seq (.cut [1, 6] (.drw [(⟨some 38, none, .mv (.t 6)⟩, []),
 (⟨some 39, none, .nilck (.t 38)⟩, []),
 (⟨some 40, none, .fad 225 (.t 39) 2⟩, []),
 (⟨some 41, none, .load 223 (.t 40)⟩, []),
 (⟨some 42, none, .bin .eql 223 (.t 41) (.c (.i .u16 1))⟩, []),
 (⟨some 43, none, .mv (.t 42)⟩, []),
 (⟨some 44, some (43, false), .mv (.t 1)⟩, []),
 (⟨some 45, some (43, false), .mv (.t 6)⟩, []),
 (⟨some 46, some (43, false), .nilck (.t 45)⟩, []),
 (⟨some 47, some (43, false), .fad 225 (.t 46) 0⟩, []),
 (⟨some 48, some (43, false), .load 223 (.t 47)⟩, []),
 (⟨some 49, some (43, false), .bin .sub 223 (.t 44) (.t 48)⟩, []),
 (⟨some 50, some (43, false), .mv (.t 6)⟩, []),
 (⟨some 51, some (43, false), .nilck (.t 50)⟩, []),
 (⟨some 52, some (43, false), .fad 225 (.t 51) 2⟩, []),
 (⟨some 53, some (43, false), .load 223 (.t 52)⟩, []),
 (⟨some 54, some (43, false), .bin .rem 223 (.t 49) (.t 53)⟩, []),
 (⟨some 55, some (43, false), .bin .eql 223 (.t 54) (.c (.i .u16 0))⟩, []),
 (⟨some 56, none, .pick (.t 43) (.c (.b true)) (.t 55)⟩, []),
 (⟨some 4, none, .mv (.t 56)⟩, [])]))
 (.cut [1000000, 4] .ret))
 .skip))))))
 (.reg [⟨some 57, none, .bin .add 3 (.t 20) (.c (.i .i64 1))⟩,
 ⟨some 20, none, .mv (.t 57)⟩]))))
def c167L1 : AC := (.seq (.seq (.cut [0, 1, 7, 8] (.reg [⟨some 60, none, .mv (.t 7)⟩,
 ⟨some 61, none, .mv (.t 8)⟩,
 ⟨some 62, none, .bin .lss 3 (.t 60) (.t 61)⟩]))
 (.cond (.t 62)
 .skip
 (.exit 2)))
 (.blk 3
 (.seq (.cut [0, 1, 7, 8] (.reg [⟨some 63, none, .mv (.t 7)⟩,
 ⟨some 64, none, .mv (.t 8)⟩,
 ⟨some 65, none, .bin .add 3 (.t 63) (.t 64)⟩,
 ⟨some 66, none, .conv 3 175 (.t 65)⟩,
 ⟨some 67, none, .bin .shr 175 (.t 66) (.c (.i .u64 1))⟩,
 ⟨some 68, none, .conv 175 3 (.t 67)⟩,
 ⟨some 9, none, .mv (.t 68)⟩]))
 (.seq (.cut [0, 1, 7, 8, 9] (.reg [⟨some 69, none, .mv (.t 0)⟩,
 ⟨some 70, none, .mv (.t 9)⟩,
 ⟨some 71, none, .iad 219 (.t 69) (.t 70)⟩,
 ⟨some 10, none, .mv (.t 71)⟩]))
 (.seq (.seq (.cut [0, 1, 7, 8, 9, 10] (.reg [⟨some 72, none, .mv (.t 10)⟩,
 ⟨some 73, none, .nilck (.t 72)⟩,
 ⟨some 74, none, .fad 225 (.t 73) 0⟩,
 ⟨some 75, none, .load 223 (.t 74)⟩,
 ⟨some 76, none, .mv (.t 1)⟩,
 ⟨some 77, none, .bin .leq 223 (.t 75) (.t 76)⟩,
 ⟨some 78, none, .mv (.t 77)⟩,
 ⟨some 79, some (78, true), .mv (.t 1)⟩,
 ⟨some 80, some (78, true), .mv (.t 10)⟩,
 ⟨some 81, some (78, true), .nilck (.t 80)⟩,
 ⟨some 82, some (78, true), .fad 225 (.t 81) 1⟩,
 ⟨some 83, some (78, true), .load 223 (.t 82)⟩,
 ⟨some 84, some (78, true), .bin .leq 223 (.t 79) (.t 83)⟩,
 ⟨some 85, none, .pick (.t 78) (.t 84) (.c (.b false))⟩]))
 (.cut [1000000, 0, 1, 7, 8, 9, 10, 85] (.cond (.t 85)
 (.seq (.cut [1, 10] (.drw [(⟨some 86, none, .mv (.t 10)⟩, []),
 (⟨some 87, none, .nilck (.t 86)⟩, []),
 (⟨some 88, none, .fad 225 (.t 87) 2⟩, []),
 (⟨some 89, none, .load 223 (.t 88)⟩, []),
 (⟨some 90, none, .bin .eql 223 (.t 89) (.c (.i .u16 1))⟩, []),
 (⟨some 91, none, .mv (.t 90)⟩, []),
 (⟨some 92, some (91, false), .mv (.t 1)⟩, []),
 (⟨some 93, some (91, false), .mv (.t 10)⟩, []),
 (⟨some 94, some (91, false), .nilck (.t 93)⟩, []),
 (⟨some 95, some (91, false), .fad 225 (.t 94) 0⟩, []),
 (⟨some 96, some (91, false), .load 223 (.t 95)⟩, []),
 (⟨some 97, some (91, false), .bin .sub 223 (.t 92) (.t 96)⟩, []),
 (⟨some 98, some (91, false), .mv (.t 10)⟩, []),
 (⟨some 99, some (91, false), .nilck (.t 98)⟩, []),
 (⟨some 100, some (91, false), .fad 225 (.t 99) 2⟩, []),
 (⟨some 101, some (91, false), .load 223 (.t 100)⟩, []),
 (⟨some 102, some (91, false), .bin .rem 223 (.t 97) (.t 101)⟩, []),
 (⟨some 103, some (91, false), .bin .eql 223 (.t 102) (.c (.i .u16 0))⟩, []),
 (⟨some 104, none, .pick (.t 91) (.c (.b true)) (.t 103)⟩, []),
 (⟨some 4, none, .mv (.t 104)⟩, [])]))
 .ret)
 .skip)))
 (.seq (.cut [0, 1, 7, 8, 9, 10] (.reg [⟨some 105, none, .mv (.t 1)⟩,
 ⟨some 106, none, .mv (.t 10)⟩,
 ⟨some 107, none, .nilck (.t 106)⟩,
 ⟨some 108, none, .fad 225 (.t 107) 0⟩,
 ⟨some 109, none, .load 223 (.t 108)⟩,
 ⟨some 110, none, .bin .lss 223 (.t 105) (.t 109)⟩]))
 (.cond (.t 110)
 (.reg [⟨some 111, none, .mv (.t 9)⟩,
 ⟨some 8, none, .mv (.t 111)⟩])
 (.cut [0, 1, 8, 9] (.reg [⟨some 112, none, .mv (.t 9)⟩,
 ⟨some 113, none, .bin .add 3 (.t 112) (.c (.i .i64 1))⟩,
 ⟨some 7, none, .mv (.t 113)⟩])))))))))
def c167 : AC := (.seq (.reg [⟨some 4, none, .mv (.c (.b false))⟩])
 (.seq (.seq (.cut [0, 1] (.reg [⟨some 11, none, .mv (.t 0)⟩,
 ⟨some 12, none, .len 219 (.t 11)⟩,
 ⟨some 13, none, .bin .leq 3 (.t 12) (.c (.i .i64 18))⟩,
 ⟨some 14, none, .mv (.t 13)⟩,
 ⟨some 15, some (14, false), .mv (.t 1)⟩,
 ⟨some 16, some (14, false), .bin .leq 223 (.t 15) (.c (.i .u16 255))⟩,
 ⟨some 17, none, .pick (.t 14) (.c (.b true)) (.t 16)⟩]))
 (.cond (.t 17)
 (.seq (.seq (.cut [0, 1] (.reg [⟨some 18, none, .mv (.t 0)⟩,
 ⟨some 19, none, .len 219 (.t 18)⟩,
 ⟨some 20, none, .mv (.c (.i .i64 0))⟩]))
 (.blk 0
 (.loop [0, 1, 19, 20] c167L0)))
 (.seq (.reg [⟨some 4, none, .mv (.c (.b false))⟩])
 .ret))
 .skip))
 (.seq (.reg [⟨some 7, none, .mv (.c (.i .i64 0))⟩])
 (.seq (.cut [0, 1, 7] (.reg [⟨some 58, none, .mv (.t 0)⟩,
 ⟨some 59, none, .len 219 (.t 58)⟩,
 ⟨some 8, none, .mv (.t 59)⟩]))
 (.seq (.blk 2
 (.loop [0, 1, 7, 8] c167L1))
 (.seq (.reg [⟨some 4, none, .mv (.c (.b false))⟩])
 .ret))))))
def F167 : AF := ⟨114, [.t 4], c167⟩
/-- unicode.is32 -/
def c168L0 : AC := (.seq (.reg [⟨some 17, none, .bin .lss 3 (.t 16) (.t 15)⟩])
 (.seq (.cond (.t 17)
 .skip
 (.exit 0))
 (.seq (.blk 1
 (.seq (.reg [⟨some 18, none, .mv (.t 16)⟩,
 ⟨some 5, none, .mv (.t 18)⟩])
 (.seq (.cut [0, 1, 5, 15, 16] (.reg [⟨some 19, none, .mv (.t 0)⟩,
 ⟨some 20, none, .mv (.t 5)⟩,
 ⟨some 21, none, .iad 220 (.t 19) (.t 20)⟩,
 ⟨some 6, none, .mv (.t 21)⟩]))
 (.seq (.seq (.cut [0, 1, 6, 15, 16] (.reg [⟨some 22, none, .mv (.t 1)⟩,
 ⟨some 23, none, .mv (.t 6)⟩,
 ⟨some 24, none, .nilck (.t 23)⟩,
 ⟨some 25, none, .fad 228 (.t 24) 0⟩,
 ⟨some 26, none, .load 47 (.t 25)⟩,
 ⟨some 27, none, .bin .lss 47 (.t 22) (.t 26)⟩]))
 (.cond (.t 27)
 (.seq (.reg [⟨some 4, none, .mv (.c (.b false))⟩])
 .ret)
 .skip))
 (.seq (.cut [0, 1, 6, 15, 16] (.reg [⟨some 28, none, .mv (.t 1)⟩,
 ⟨some 29, none, .mv (.t 6)⟩,
 ⟨some 30, none, .nilck (.t 29)⟩,
 ⟨some 31, none, .fad 228 (.t 30) 1⟩,
 ⟨some 32, none, .load 47 (.t 31)⟩,
 ⟨some 33, none, .bin .leq 47 (.t 28) (.t 32)⟩]))
 (.cond (.t 33)
 (.seq (.cut [1, 6] (.drw [(⟨some 34, none, .mv (.t 6)⟩, []),
 (⟨some 35, none, .nilck (.t 34)⟩, []),
 (⟨some 36, none, .fad 228 (.t 35) 2⟩, []),
 (⟨some 37, none, .load 47 (.t 36)⟩, []),
 (⟨some 38, none, .bin .eql 47 (.t 37) (.c (.i .u32 1))⟩, []),
 (⟨some 39, none, .mv (.t 38)⟩, []),
 (⟨some 40, some (39, false), .mv (.t 1)⟩, []),
 (⟨some 41, some (39, false), .mv (.t 6)⟩, []),
 (⟨some 42, some (39, false), .nilck (.t 41)⟩, []),
 (⟨some 43, some (39, false), .fad 228 (.t 42) 0⟩, []),
 (⟨some 44, some (39, false), .load 47 (.t 43)⟩, []),
 (⟨some 45, some (39, false), .bin .sub 47 (.t 40) (.t 44)⟩, []),
 (⟨some 46, some (39, false), .mv (.t 6)⟩, []),
 (⟨some 47, some (39, false), .nilck (.t 46)⟩, []),
 (⟨some 48, some (39, false), .fad 228 (.t 47) 2⟩, []),
 (⟨some 49, some (39, false), .load 47 (.t 48)⟩, []),
 (⟨some 50, some (39, false), .bin .rem 47 (.t 45) (.t 49)⟩, []),
 (⟨some 51, some (39, false), .bin .eql 47 (.t 50) (.c (.i .u32 0))⟩, []),
 (⟨some 52, none, .pick (.t 39) (.c (.b true)) (.t 51)⟩, []),
 (⟨some 4, none, .mv (.t 52)⟩, [])]))
 (.cut [1000000, 4] .ret))
 .skip))))))
 (.reg [⟨some 53, none, .bin .add 3 (.t 16) (.c (.i .i64 1))⟩,
 ⟨some 16, none, .mv (.t 53)⟩]))))
def c168L1 : AC := (.seq (.seq (.cut [0, 1, 7, 8] (.reg [⟨some 56, none, .mv (.t 7)⟩,
 ⟨some 57, none, .mv (.t 8)⟩,
 ⟨some 58, none, .bin .lss 3 (.t 56) (.t 57)⟩]))
 (.cond (.t 58)
 .skip
 (.exit 2)))
 (.blk 3
 (.seq (.cut [0, 1, 7, 8] (.reg [⟨some 59, none, .mv (.t 7)⟩,
 ⟨some 60, none, .mv (.t 8)⟩,
 ⟨some 61, none, .bin .add 3 (.t 59) (.t 60)⟩,
 ⟨some 62, none, .conv 3 175 (.t 61)⟩,
 ⟨some 63, none, .bin .shr 175 (.t 62) (.c (.i .u64 1))⟩,
 ⟨some 64, none, .conv 175 3 (.t 63)⟩,
 ⟨some 9, none, .mv (.t 64)⟩]))
 (.seq (.cut [0, 1, 7, 8, 9] (.reg [⟨some 65, none, .mv (.t 0)⟩,
 ⟨some 66, none, .mv (.t 9)⟩,
 ⟨some 67, none, .iad 220 (.t 65) (.t 66)⟩,
 ⟨some 68, none, .load 228 (.t 67)⟩,
 ⟨some 10, none, .alloc 228⟩,
 ⟨none, none, .store 228 (.t 10) (.t 68)⟩]))
 (.seq (.seq (.cut [0, 1, 7, 8, 9, 10] (.reg [⟨some 69, none, .fad 228 (.t 10) 0⟩,
 ⟨some 70, none, .load 47 (.t 69)⟩,
 ⟨some 71, none, .mv (.t 1)⟩,
 ⟨some 72, none, .bin .leq 47 (.t 70) (.t 71)⟩,
 ⟨some 73, none, .mv (.t 72)⟩,
 ⟨some 74, some (73, true), .mv (.t 1)⟩,
 ⟨some 75, some (73, true), .fad 228 (.t 10) 1⟩,
 ⟨some 76, some (73, true), .load 47 (.t 75)⟩,
 ⟨some 77, some (73, true), .bin .leq 47 (.t 74) (.t 76)⟩,
 ⟨some 78, none, .pick (.t 73) (.t 77) (.c (.b false))⟩]))
 (.cut [1000000, 0, 1, 7, 8, 9, 10, 78] (.cond (.t 78)
 (.seq (.cut [1, 10] (.reg [⟨some 79, none, .fad 228 (.t 10) 2⟩,
 ⟨some 80, none, .load 47 (.t 79)⟩,
 ⟨some 81, none, .bin .eql 47 (.t 80) (.c (.i .u32 1))⟩,
 ⟨some 82, none, .mv (.t 81)⟩,
 ⟨some 83, some (82, false), .mv (.t 1)⟩,
 ⟨some 84, some (82, false), .fad 228 (.t 10) 0⟩,
 ⟨some 85, some (82, false), .load 47 (.t 84)⟩,
 ⟨some 86, some (82, false), .bin .sub 47 (.t 83) (.t 85)⟩,
 ⟨some 87, some (82, false), .fad 228 (.t 10) 2⟩,
 ⟨some 88, some (82, false), .load 47 (.t 87)⟩,
 ⟨some 89, some (82, false), .bin .rem 47 (.t 86) (.t 88)⟩,
 ⟨some 90, some (82, false), .bin .eql 47 (.t 89) (.c (.i .u32 0))⟩,
 ⟨some 91, none, .pick (.t 82) (.c (.b true)) (.t 90)⟩,
 ⟨some 4, none, .mv (.t 91)⟩]))
 .ret)
 .skip)))
 (.seq (.cut [0, 1, 7, 8, 9, 10] (.reg [⟨some 92, none, .mv (.t 1)⟩,
 ⟨some 93, none, .fad 228 (.t 10) 0⟩,
 ⟨some 94, none, .load 47 (.t 93)⟩,
 ⟨some 95, none, .bin .lss 47 (.t 92) (.t 94)⟩]))
 (.cond (.t 95)
 (.reg [⟨some 96, none, .mv (.t 9)⟩,
 ⟨some 8, none, .mv (.t 96)⟩])
 (.cut [0, 1, 8, 9] (.reg [⟨some 97, none, .mv (.t 9)⟩,
 ⟨some 98, none, .bin .add 3 (.t 97) (.c (.i .i64 1))⟩,
 ⟨some 7, none, .mv (.t 98)⟩])))))))))
def c168 : AC := (.seq (.reg [⟨some 4, none, .mv (.c (.b false))⟩])
 (.seq (.seq (.cut [0, 1] (.reg [⟨some 11, none, .mv (.t 0)⟩,
 ⟨some 12, none, .len 220 (.t 11)⟩,
 ⟨some 13, none, .bin .leq 3 (.t 12) (.c (.i .i64 18))⟩]))
 (.cond (.t 13)
 (.seq (.seq (.cut [0, 1] (.reg [⟨some 14, none, .mv (.t 0)⟩,
 ⟨some 15, none, .len 220 (.t 14)⟩,
 ⟨some 16, none, .mv (.c (.i .i64 0))⟩]))
 (.blk 0
 (.loop [0, 1, 15, 16] c168L0)))
 (.seq (.reg [⟨some 4, none, .mv (.c (.b false))⟩])
 .ret))
 .skip))
 (.seq (.reg [⟨some 7, none, .mv (.c (.i .i64 0))⟩])
 (.seq (.cut [0, 1, 7] (.reg [⟨some 54, none, .mv (.t 0)⟩,
 ⟨some 55, none, .len 220 (.t 54)⟩,
 ⟨some 8, none, .mv (.t 55)⟩]))
 (.seq (.blk 2
 (.loop [0, 1, 7, 8] c168L1))
 (.seq (.reg [⟨some 4, none, .mv (.c (.b false))⟩])
 .ret))))))
def F168 : AF := ⟨99, [.t 4], c168⟩
/-- (*fallow/parse.parser).sign$1 -/
def c175 : AC := (.cut [0, 1] (.drw [(⟨some 2, none, .load 52 (.t 1)⟩, []),
 (⟨some 3, none, .load 100 (.t 0)⟩, []),
 (⟨some 4, none, .call (.c (.fn (.func 162) [] [])) [.t 3]⟩, [⟨some 2, none, .load 52 (.t 1)⟩]),
 (⟨some 5, none, .nilck (.t 2)⟩, []),
 (⟨some 6, none, .fad 56 (.t 5) 5⟩, []),
 (⟨none, none, .store 52 (.t 6) (.t 4)⟩, [])]))
def F175 : AF := ⟨7, [], c175⟩
/-- (*fallow/parse.parser).first$1 -/
def c176 : AC := (.reg [⟨some 1, none, .load 100 (.t 0)⟩,
 ⟨some 2, none, .call (.c (.fn (.func 72) [] [])) [.t 1, .c (.s [41])]⟩])
def F176 : AF := ⟨3, [], c176⟩
/-- (*fallow/parse.parser).first$2 -/
def c177 : AC := (.cut [0, 1] (.drw [(⟨some 2, none, .load 52 (.t 0)⟩, []),
 (⟨some 3, none, .load 52 (.t 0)⟩, []),
 (⟨some 4, none, .nilck (.t 3)⟩, []),
 (⟨some 5, none, .fad 56 (.t 4) 6⟩, []),
 (⟨some 6, none, .load 54 (.t 5)⟩, []),
 (⟨some 7, none, .load 100 (.t 1)⟩, []),
 (⟨some 8, none, .call (.c (.fn (.func 146) [] [])) [.t 7, .c (.i .i64 1)]⟩, [⟨some 2, none, .load 52 (.t 0)⟩, ⟨some 3, none, .load 52 (.t 0)⟩, ⟨some 6, none, .load 54 (.t 5)⟩]),
 (⟨some 9, none, .bsl 54 1 [(0, .t 8)]⟩, [⟨some 2, none, .load 52 (.t 0)⟩, ⟨some 3, none, .load 52 (.t 0)⟩, ⟨some 6, none, .load 54 (.t 5)⟩]),
 (⟨some 10, none, .app 54 false (.t 6) (.t 9)⟩, [⟨some 2, none, .load 52 (.t 0)⟩]),
 (⟨some 11, none, .nilck (.t 2)⟩, []),
 (⟨some 12, none, .fad 56 (.t 11) 6⟩, []),
 (⟨none, none, .store 54 (.t 12) (.t 10)⟩, [])]))
def F177 : AF := ⟨13, [], c177⟩
/-- (*fallow/parse.parser).within$1 -/
def c178 : AC := (.seq (.cut [0, 1, 2] (.reg [⟨some 3, none, .load 100 (.t 0)⟩,
 ⟨some 4, none, .call (.c (.fn (.func 146) [] [])) [.t 3, .c (.i .i64 1)]⟩,
 ⟨none, none, .store 52 (.t 1) (.t 4)⟩]))
 (.cut [0, 2] (.reg [⟨some 5, none, .load 100 (.t 0)⟩,
 ⟨some 6, none, .load 9 (.t 2)⟩,
 ⟨some 7, none, .call (.c (.fn (.func 72) [] [])) [.t 5, .t 6]⟩])))
def F178 : AF := ⟨8, [], c178⟩
/-- (*fallow/api.Fault).Unwrap -/
def c212 : AC := (.seq (.reg [⟨some 2, none, .mv (.c (.ic0))⟩])
 (.seq (.seq (.reg [⟨some 3, none, .mv (.t 0)⟩,
 ⟨some 4, none, .bin .eql 101 (.t 3) (.c (.p0))⟩])
 (.cond (.t 4)
 (.seq (.reg [⟨some 2, none, .mv (.c (.ic0))⟩])
 .ret)
 .skip))
 (.seq (.cut [0] (.reg [⟨some 5, none, .mv (.t 0)⟩,
 ⟨some 6, none, .nilck (.t 5)⟩,
 ⟨some 7, none, .fad 25 (.t 6) 0⟩,
 ⟨some 8, none, .load 23 (.t 7)⟩,
 ⟨some 9, none, .mki 23 (.t 8)⟩,
 ⟨some 2, none, .mv (.t 9)⟩]))
 .ret)))
def F212 : AF := ⟨10, [.t 2], c212⟩
def fns : Nat → Option AF
  | 2 => some F2
  | 3 => some F3
  | 5 => some F5
  | 6 => some F6
  | 10 => some F10
  | 12 => some F12
  | 14 => some F14
  | 15 => some F15
  | 17 => some F17
  | 18 => some F18
  | 21 => some F21
  | 22 => some F22
  | 23 => some F23
  | 29 => some F29
  | 30 => some F30
  | 32 => some F32
  | 33 => some F33
  | 34 => some F34
  | 35 => some F35
  | 37 => some F37
  | 38 => some F38
  | 39 => some F39
  | 40 => some F40
  | 41 => some F41
  | 43 => some F43
  | 44 => some F44
  | 45 => some F45
  | 46 => some F46
  | 48 => some F48
  | 49 => some F49
  | 50 => some F50
  | 52 => some F52
  | 64 => some F64
  | 65 => some F65
  | 66 => some F66
  | 67 => some F67
  | 68 => some F68
  | 69 => some F69
  | 70 => some F70
  | 72 => some F72
  | 73 => some F73
  | 74 => some F74
  | 75 => some F75
  | 76 => some F76
  | 77 => some F77
  | 78 => some F78
  | 80 => some F80
  | 81 => some F81
  | 82 => some F82
  | 85 => some F85
  | 86 => some F86
  | 92 => some F92
  | 103 => some F103
  | 104 => some F104
  | 105 => some F105
  | 106 => some F106
  | 107 => some F107
  | 108 => some F108
  | 110 => some F110
  | 111 => some F111
  | 112 => some F112
  | 113 => some F113
  | 114 => some F114
  | 115 => some F115
  | 116 => some F116
  | 118 => some F118
  | 119 => some F119
  | 120 => some F120
  | 127 => some F127
  | 139 => some F139
  | 140 => some F140
  | 141 => some F141
  | 142 => some F142
  | 143 => some F143
  | 144 => some F144
  | 145 => some F145
  | 146 => some F146
  | 147 => some F147
  | 148 => some F148
  | 149 => some F149
  | 160 => some F160
  | 161 => some F161
  | 162 => some F162
  | 163 => some F163
  | 164 => some F164
  | 165 => some F165
  | 166 => some F166
  | 167 => some F167
  | 168 => some F168
  | 175 => some F175
  | 176 => some F176
  | 177 => some F177
  | 178 => some F178
  | 212 => some F212
  | _ => none
end Go.Abs.YtobmjhfgmhfocaaGreatDoor
