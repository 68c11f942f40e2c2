/- The functions of this translation as code of the layer Abs: written by a program off the model's own form; held against it in Lean (okFn). -/
import Derived.Test.YtjphfiieapclhaaDoorAbs2
namespace Go.Abs.YtjphfiieapclhaaDoor
/-- gosem.cut.init -/
def c2 : AC :=
  (.reg [⟨some 0, none, .call (.c (.fn (.func 1) [] [])) []⟩])
def F2 : AF := ⟨1, [], c2⟩
/-- fallow/fallowlaw23.LexKeys -/
def c3L0 : AC :=
  (.seq (.seq (.cut [0, 3, 4, 5] (.reg [⟨some 16, none, .mv (.t 5)⟩,
      ⟨some 17, none, .mv (.t 3)⟩,
      ⟨some 18, none, .len 22 (.t 17)⟩,
      ⟨some 19, none, .bin .lss 3 (.t 16) (.t 18)⟩]))
   (.cond (.t 19)
    .skip
    (.exit 0)))
  (.seq (.blk 1
    (.seq (.cut [0, 3, 4, 5] (.drw [(⟨some 22, none, .mv (.t 3)⟩, []),
       (⟨some 23, none, .mv (.t 5)⟩, []),
       (⟨some 24, none, .iad 22 (.t 22) (.t 23)⟩, []),
       (⟨some 25, none, .load 9 (.t 24)⟩, []),
       (⟨some 26, none, .mv (.t 4)⟩, []),
       (⟨some 27, none, .mv (.t 5)⟩, []),
       (⟨some 28, none, .iad 22 (.t 26) (.t 27)⟩, []),
       (⟨some 29, none, .load 9 (.t 28)⟩, []),
       (⟨some 30, none, .bin .neq 9 (.t 25) (.t 29)⟩, [])]))
    (.cond (.t 30)
     (.seq (.reg [⟨some 2, none, .mv (.c (.b false))⟩])
     .ret)
     .skip)))
  (.cut [0, 3, 4, 5] (.reg [⟨some 20, none, .mv (.t 5)⟩,
    ⟨some 21, none, .bin .add 3 (.t 20) (.c (.i .i64 1))⟩,
    ⟨some 5, none, .mv (.t 21)⟩]))))
def c3 : AC :=
  (.seq (.reg [⟨some 2, none, .mv (.c (.b false))⟩])
  (.seq (.cut [0] (.reg [⟨some 9, none, .call (.c (.fn (.func 8) [] [])) []⟩,
     ⟨some 10, none, .call (.c (.fn (.func 9) [] [])) []⟩,
     ⟨some 3, none, .mv (.t 9)⟩,
     ⟨some 4, none, .mv (.t 10)⟩]))
  (.seq (.seq (.cut [0, 3, 4] (.reg [⟨some 11, none, .mv (.t 3)⟩,
      ⟨some 12, none, .len 22 (.t 11)⟩,
      ⟨some 13, none, .mv (.t 4)⟩,
      ⟨some 14, none, .len 22 (.t 13)⟩,
      ⟨some 15, none, .bin .neq 3 (.t 12) (.t 14)⟩]))
   (.cond (.t 15)
    (.seq (.reg [⟨some 2, none, .mv (.c (.b false))⟩])
    .ret)
    .skip))
  (.seq (.seq (.reg [⟨some 5, none, .mv (.c (.i .i64 0))⟩])
   (.blk 0
    (.loop [0, 3, 4, 5] c3L0)))
  (.seq (.cut [0, 3, 4] (.reg [⟨some 31, none, .mv (.t 3)⟩,
     ⟨some 32, none, .mv (.t 0)⟩,
     ⟨some 33, none, .conv 5 3 (.t 32)⟩,
     ⟨some 34, none, .mv (.t 4)⟩,
     ⟨some 35, none, .len 22 (.t 34)⟩,
     ⟨some 36, none, .bin .rem 3 (.t 33) (.t 35)⟩,
     ⟨some 37, none, .iad 22 (.t 31) (.t 36)⟩,
     ⟨some 38, none, .load 9 (.t 37)⟩,
     ⟨some 6, none, .mv (.t 38)⟩]))
  (.seq (.cut [6] (.reg [⟨some 40, none, .mv (.t 6)⟩,
     ⟨some 41, none, .bin .add 9 (.t 40) (.c (.s [32]))⟩,
     ⟨some 42, none, .mv (.t 6)⟩,
     ⟨some 43, none, .bin .add 9 (.t 41) (.t 42)⟩,
     ⟨some 44, none, .bin .add 9 (.t 43) (.c (.s [115]))⟩,
     ⟨some 45, none, .call (.c (.fn (.func 10) [] [])) [.t 44]⟩,
     ⟨some 39, none, .mv (.t 45)⟩,
     ⟨some 46, none, .ext (.t 39) 0⟩,
     ⟨some 47, none, .ext (.t 39) 1⟩,
     ⟨some 7, none, .mv (.t 46)⟩,
     ⟨some 8, none, .mv (.t 47)⟩]))
  (.seq (.cut [6, 7, 8] (.reg [⟨some 48, none, .mv (.t 8)⟩,
     ⟨some 49, none, .bin .eql 26 (.t 48) (.c (.ic0))⟩,
     ⟨some 50, none, .mv (.t 49)⟩,
     ⟨some 51, some (50, true), .mv (.t 7)⟩,
     ⟨some 52, some (50, true), .len 24 (.t 51)⟩,
     ⟨some 53, some (50, true), .bin .eql 3 (.t 52) (.c (.i .i64 3))⟩,
     ⟨some 54, none, .pick (.t 50) (.t 53) (.c (.b false))⟩,
     ⟨some 55, none, .mv (.t 54)⟩,
     ⟨some 56, some (55, true), .mv (.t 7)⟩,
     ⟨some 57, some (55, true), .iad 24 (.t 56) (.c (.i .i64 0))⟩,
     ⟨some 58, some (55, true), .load 30 (.t 57)⟩,
     ⟨some 59, some (55, true), .mv (.t 6)⟩,
     ⟨some 60, some (55, true), .build 30 [(0, .c (.i .i64 4)), (1, .t 59)]⟩,
     ⟨some 61, some (55, true), .bin .eql 30 (.t 58) (.t 60)⟩,
     ⟨some 62, none, .pick (.t 55) (.t 61) (.c (.b false))⟩,
     ⟨some 63, none, .mv (.t 62)⟩,
     ⟨some 64, some (63, true), .mv (.t 7)⟩,
     ⟨some 65, some (63, true), .iad 24 (.t 64) (.c (.i .i64 1))⟩,
     ⟨some 66, some (63, true), .load 30 (.t 65)⟩,
     ⟨some 67, some (63, true), .mv (.t 6)⟩,
     ⟨some 68, some (63, true), .bin .add 9 (.t 67) (.c (.s [115]))⟩,
     ⟨some 69, some (63, true), .build 30 [(0, .c (.i .i64 1)), (1, .t 68)]⟩,
     ⟨some 70, some (63, true), .bin .eql 30 (.t 66) (.t 69)⟩,
     ⟨some 71, none, .pick (.t 63) (.t 70) (.c (.b false))⟩,
     ⟨some 72, none, .mv (.t 71)⟩,
     ⟨some 73, some (72, true), .call (.c (.fn (.func 11) [] [])) []⟩,
     ⟨some 74, none, .pick (.t 72) (.t 73) (.c (.b false))⟩,
     ⟨some 2, none, .mv (.t 74)⟩]))
  .ret)))))))
def F3 : AF := ⟨75, [.t 2], c3⟩
/-- fallow/fallowlaw23.LexBack -/
def c4L0 : AC :=
  (.seq (.seq (.cut [1, 5, 7, 8, 9, 10] (.reg [⟨some 32, none, .mv (.t 10)⟩,
      ⟨some 33, none, .mv (.t 5)⟩,
      ⟨some 34, none, .len 24 (.t 33)⟩,
      ⟨some 35, none, .bin .lss 3 (.t 32) (.t 34)⟩]))
   (.cond (.t 35)
    .skip
    (.exit 0)))
  (.seq (.blk 1
    (.seq (.cut [1, 5, 7, 8, 9, 10] (.reg [⟨some 38, none, .mv (.t 9)⟩,
       ⟨some 39, none, .mv (.t 8)⟩,
       ⟨some 40, none, .bsl 34 1 [(0, .t 39)]⟩,
       ⟨some 41, none, .app 34 false (.t 38) (.t 40)⟩,
       ⟨some 9, none, .mv (.t 41)⟩]))
    (.seq (.cut [1, 5, 7, 8, 9, 10] (.reg [⟨some 42, none, .mv (.t 7)⟩,
       ⟨some 43, none, .mv (.t 5)⟩,
       ⟨some 44, none, .mv (.t 10)⟩,
       ⟨some 45, none, .iad 24 (.t 43) (.t 44)⟩,
       ⟨some 46, none, .fad 30 (.t 45) 1⟩,
       ⟨some 47, none, .load 9 (.t 46)⟩,
       ⟨some 48, none, .app 33 true (.t 42) (.t 47)⟩,
       ⟨some 7, none, .mv (.t 48)⟩]))
    (.seq (.reg [⟨some 11, none, .mv (.c (.i .u8 0))⟩])
    (.seq (.seq (.cut [1, 5, 7, 8, 9, 10, 11] (.reg [⟨some 49, none, .mv (.t 1)⟩,
        ⟨some 50, none, .len 33 (.t 49)⟩,
        ⟨some 51, none, .bin .gtr 3 (.t 50) (.c (.i .i64 0))⟩]))
     (.cond (.t 51)
      (.cut [1, 5, 7, 8, 9, 10] (.reg [⟨some 52, none, .mv (.t 1)⟩,
        ⟨some 53, none, .mv (.t 10)⟩,
        ⟨some 54, none, .mv (.t 1)⟩,
        ⟨some 55, none, .len 33 (.t 54)⟩,
        ⟨some 56, none, .bin .rem 3 (.t 53) (.t 55)⟩,
        ⟨some 57, none, .iad 33 (.t 52) (.t 56)⟩,
        ⟨some 58, none, .load 5 (.t 57)⟩,
        ⟨some 59, none, .bin .rem 5 (.t 58) (.c (.i .u8 4))⟩,
        ⟨some 11, none, .mv (.t 59)⟩]))
      .skip))
    (.seq (.reg [⟨some 60, none, .mv (.t 11)⟩])
    (.blk 2
     (.seq (.reg [⟨some 64, none, .bin .eql 5 (.t 60) (.c (.i .u8 0))⟩,
        ⟨some 63, none, .mv (.t 64)⟩])
     (.cond (.t 63)
      (.cut [1, 5, 7, 8, 9, 10] (.reg [⟨some 65, none, .mv (.t 7)⟩,
        ⟨some 66, none, .bsl 33 1 [(0, .c (.i .u8 32))]⟩,
        ⟨some 67, none, .app 33 false (.t 65) (.t 66)⟩,
        ⟨some 7, none, .mv (.t 67)⟩]))
      (.seq (.reg [⟨some 69, none, .bin .eql 5 (.t 60) (.c (.i .u8 1))⟩,
         ⟨some 68, none, .mv (.t 69)⟩])
      (.cond (.t 68)
       (.seq (.cut [1, 5, 7, 8, 9, 10] (.reg [⟨some 70, none, .mv (.t 7)⟩,
          ⟨some 71, none, .bsl 33 1 [(0, .c (.i .u8 10))]⟩,
          ⟨some 72, none, .app 33 false (.t 70) (.t 71)⟩,
          ⟨some 7, none, .mv (.t 72)⟩]))
       (.cut [1, 5, 7, 8, 9, 10] (.reg [⟨some 73, none, .mv (.t 8)⟩,
         ⟨some 74, none, .bin .add 3 (.t 73) (.c (.i .i64 1))⟩,
         ⟨some 8, none, .mv (.t 74)⟩])))
       (.seq (.reg [⟨some 76, none, .bin .eql 5 (.t 60) (.c (.i .u8 2))⟩,
          ⟨some 75, none, .mv (.t 76)⟩])
       (.cond (.t 75)
        (.seq (.cut [1, 5, 7, 8, 9, 10] (.reg [⟨some 77, none, .mv (.t 7)⟩,
           ⟨some 78, none, .app 33 true (.t 77) (.c (.s [32, 47, 47, 32, 120, 32, 43, 32, 49, 32, 36, 10]))⟩,
           ⟨some 7, none, .mv (.t 78)⟩]))
        (.cut [1, 5, 7, 8, 9, 10] (.reg [⟨some 79, none, .mv (.t 8)⟩,
          ⟨some 80, none, .bin .add 3 (.t 79) (.c (.i .i64 1))⟩,
          ⟨some 8, none, .mv (.t 80)⟩])))
        (.cut [1, 5, 7, 8, 9, 10] (.reg [⟨some 61, none, .mv (.t 7)⟩,
          ⟨some 62, none, .app 33 true (.t 61) (.c (.s [9, 13, 32]))⟩,
          ⟨some 7, none, .mv (.t 62)⟩])))))))))))))))
  (.cut [1, 5, 7, 8, 9, 10] (.reg [⟨some 36, none, .mv (.t 10)⟩,
    ⟨some 37, none, .bin .add 3 (.t 36) (.c (.i .i64 1))⟩,
    ⟨some 10, none, .mv (.t 37)⟩]))))
def c4L1 : AC :=
  (.seq (.seq (.cut [5, 8, 9, 12, 13] (.reg [⟨some 96, none, .mv (.t 13)⟩,
      ⟨some 97, none, .mv (.t 5)⟩,
      ⟨some 98, none, .len 24 (.t 97)⟩,
      ⟨some 99, none, .bin .lss 3 (.t 96) (.t 98)⟩]))
   (.cond (.t 99)
    .skip
    (.exit 3)))
  (.seq (.blk 4
    (.seq (.cut [5, 8, 9, 12, 13] (.reg [⟨some 102, none, .mv (.t 9)⟩,
       ⟨some 103, none, .mv (.t 13)⟩,
       ⟨some 104, none, .iad 34 (.t 102) (.t 103)⟩,
       ⟨some 105, none, .load 3 (.t 104)⟩,
       ⟨some 14, none, .mv (.t 105)⟩]))
    (.seq (.seq (.cut [5, 8, 9, 12, 13, 14] (.reg [⟨some 106, none, .mv (.t 13)⟩,
        ⟨some 107, none, .mv (.t 5)⟩,
        ⟨some 108, none, .len 24 (.t 107)⟩,
        ⟨some 109, none, .bin .sub 3 (.t 108) (.c (.i .i64 1))⟩,
        ⟨some 110, none, .bin .eql 3 (.t 106) (.t 109)⟩]))
     (.cond (.t 110)
      (.reg [⟨some 111, none, .mv (.t 8)⟩,
        ⟨some 14, none, .mv (.t 111)⟩])
      .skip))
    (.seq (.cut [5, 8, 9, 12, 13, 14] (.drw [(⟨some 112, none, .mv (.t 12)⟩, []),
       (⟨some 113, none, .mv (.t 13)⟩, []),
       (⟨some 114, none, .iad 24 (.t 112) (.t 113)⟩, []),
       (⟨some 115, none, .fad 30 (.t 114) 0⟩, []),
       (⟨some 116, none, .load 3 (.t 115)⟩, []),
       (⟨some 117, none, .mv (.t 5)⟩, []),
       (⟨some 118, none, .mv (.t 13)⟩, []),
       (⟨some 119, none, .iad 24 (.t 117) (.t 118)⟩, []),
       (⟨some 120, none, .fad 30 (.t 119) 0⟩, []),
       (⟨some 121, none, .load 3 (.t 120)⟩, []),
       (⟨some 122, none, .bin .neq 3 (.t 116) (.t 121)⟩, []),
       (⟨some 123, none, .mv (.t 122)⟩, []),
       (⟨some 124, some (123, false), .mv (.t 12)⟩, []),
       (⟨some 125, some (123, false), .mv (.t 13)⟩, []),
       (⟨some 126, some (123, false), .iad 24 (.t 124) (.t 125)⟩, []),
       (⟨some 127, some (123, false), .fad 30 (.t 126) 1⟩, []),
       (⟨some 128, some (123, false), .load 9 (.t 127)⟩, []),
       (⟨some 129, some (123, false), .mv (.t 5)⟩, []),
       (⟨some 130, some (123, false), .mv (.t 13)⟩, []),
       (⟨some 131, some (123, false), .iad 24 (.t 129) (.t 130)⟩, []),
       (⟨some 132, some (123, false), .fad 30 (.t 131) 1⟩, []),
       (⟨some 133, some (123, false), .load 9 (.t 132)⟩, []),
       (⟨some 134, some (123, false), .bin .neq 9 (.t 128) (.t 133)⟩, []),
       (⟨some 135, none, .pick (.t 123) (.c (.b true)) (.t 134)⟩, []),
       (⟨some 136, none, .mv (.t 135)⟩, []),
       (⟨some 137, some (136, false), .mv (.t 12)⟩, []),
       (⟨some 138, some (136, false), .mv (.t 13)⟩, []),
       (⟨some 139, some (136, false), .iad 24 (.t 137) (.t 138)⟩, []),
       (⟨some 140, some (136, false), .fad 30 (.t 139) 2⟩, []),
       (⟨some 141, some (136, false), .load 3 (.t 140)⟩, []),
       (⟨some 142, some (136, false), .mv (.t 14)⟩, []),
       (⟨some 143, some (136, false), .bin .neq 3 (.t 141) (.t 142)⟩, []),
       (⟨some 144, none, .pick (.t 136) (.c (.b true)) (.t 143)⟩, [])]))
    (.cond (.t 144)
     (.seq (.reg [⟨some 4, none, .mv (.c (.b false))⟩])
     .ret)
     .skip)))))
  (.cut [5, 8, 9, 12, 13] (.reg [⟨some 100, none, .mv (.t 13)⟩,
    ⟨some 101, none, .bin .add 3 (.t 100) (.c (.i .i64 1))⟩,
    ⟨some 13, none, .mv (.t 101)⟩]))))
def c4 : AC :=
  (.seq (.reg [⟨some 4, none, .mv (.c (.b false))⟩])
  (.seq (.cut [0, 1] (.reg [⟨some 16, none, .mv (.t 0)⟩,
     ⟨some 17, none, .mv (.t 0)⟩,
     ⟨some 18, none, .len 9 (.t 17)⟩,
     ⟨some 19, none, .mn false [.t 18, .c (.i .i64 2000)]⟩,
     ⟨some 20, none, .slc 9 (.t 16) none (some (.t 19))⟩,
     ⟨some 21, none, .call (.c (.fn (.func 10) [] [])) [.t 20]⟩,
     ⟨some 15, none, .mv (.t 21)⟩,
     ⟨some 22, none, .ext (.t 15) 0⟩,
     ⟨some 23, none, .ext (.t 15) 1⟩,
     ⟨some 5, none, .mv (.t 22)⟩,
     ⟨some 6, none, .mv (.t 23)⟩]))
  (.seq (.seq (.reg [⟨some 24, none, .mv (.t 6)⟩,
      ⟨some 25, none, .bin .neq 26 (.t 24) (.c (.ic0))⟩])
   (.cond (.t 25)
    (.seq (.cut [5] (.reg [⟨some 26, none, .mv (.t 5)⟩,
       ⟨some 27, none, .len 24 (.t 26)⟩,
       ⟨some 28, none, .bin .eql 3 (.t 27) (.c (.i .i64 0))⟩,
       ⟨some 29, none, .mv (.t 28)⟩,
       ⟨some 30, some (29, true), .call (.c (.fn (.func 11) [] [])) []⟩,
       ⟨some 31, none, .pick (.t 29) (.t 30) (.c (.b false))⟩,
       ⟨some 4, none, .mv (.t 31)⟩]))
    .ret)
    .skip))
  (.seq (.reg [⟨some 7, none, .mv (.c (.sl0))⟩])
  (.seq (.reg [⟨some 8, none, .mv (.c (.i .i64 0))⟩])
  (.seq (.reg [⟨some 9, none, .mv (.c (.sl0))⟩])
  (.seq (.seq (.reg [⟨some 10, none, .mv (.c (.i .i64 0))⟩])
   (.blk 0
    (.loop [1, 5, 7, 8, 9, 10] c4L0)))
  (.seq (.cut [5, 7, 8, 9] (.reg [⟨some 82, none, .mv (.t 7)⟩,
     ⟨some 83, none, .conv 33 9 (.t 82)⟩,
     ⟨some 84, none, .call (.c (.fn (.func 10) [] [])) [.t 83]⟩,
     ⟨some 81, none, .mv (.t 84)⟩,
     ⟨some 85, none, .ext (.t 81) 0⟩,
     ⟨some 86, none, .ext (.t 81) 1⟩,
     ⟨some 12, none, .mv (.t 85)⟩,
     ⟨some 6, none, .mv (.t 86)⟩]))
  (.seq (.seq (.cut [5, 6, 8, 9, 12] (.reg [⟨some 87, none, .mv (.t 6)⟩,
      ⟨some 88, none, .bin .neq 26 (.t 87) (.c (.ic0))⟩,
      ⟨some 89, none, .mv (.t 88)⟩,
      ⟨some 90, some (89, false), .mv (.t 12)⟩,
      ⟨some 91, some (89, false), .len 24 (.t 90)⟩,
      ⟨some 92, some (89, false), .mv (.t 5)⟩,
      ⟨some 93, some (89, false), .len 24 (.t 92)⟩,
      ⟨some 94, some (89, false), .bin .neq 3 (.t 91) (.t 93)⟩,
      ⟨some 95, none, .pick (.t 89) (.c (.b true)) (.t 94)⟩]))
   (.cond (.t 95)
    (.seq (.reg [⟨some 4, none, .mv (.c (.b false))⟩])
    .ret)
    .skip))
  (.seq (.seq (.reg [⟨some 13, none, .mv (.c (.i .i64 0))⟩])
   (.blk 3
    (.loop [5, 8, 9, 12, 13] c4L1)))
  (.seq (.reg [⟨some 145, none, .call (.c (.fn (.func 11) [] [])) []⟩,
     ⟨some 4, none, .mv (.t 145)⟩])
  .ret)))))))))))
def F4 : AF := ⟨146, [.t 4], c4⟩
/-- fallow/fallowlaw23.LexLines -/
def c5L0 : AC :=
  (.seq (.seq (.cut [0, 1, 5, 6] (.reg [⟨some 19, none, .mv (.t 6)⟩,
      ⟨some 20, none, .mv (.t 1)⟩,
      ⟨some 21, none, .bin .rem 5 (.t 20) (.c (.i .u8 100))⟩,
      ⟨some 22, none, .conv 5 3 (.t 21)⟩,
      ⟨some 23, none, .bin .lss 3 (.t 19) (.t 22)⟩]))
   (.cond (.t 23)
    .skip
    (.exit 0)))
  (.seq (.blk 1
    (.seq (.cut [0, 1, 5, 6] (.reg [⟨some 26, none, .mv (.t 6)⟩,
       ⟨some 27, none, .bin .rem 3 (.t 26) (.c (.i .i64 2))⟩,
       ⟨some 28, none, .bin .eql 3 (.t 27) (.c (.i .i64 0))⟩]))
    (.cond (.t 28)
     (.cut [0, 1, 5, 6] (.reg [⟨some 29, none, .mv (.t 5)⟩,
       ⟨some 30, none, .bin .add 9 (.t 29) (.c (.s [10]))⟩,
       ⟨some 5, none, .mv (.t 30)⟩]))
     (.cut [0, 1, 5, 6] (.reg [⟨some 31, none, .mv (.t 5)⟩,
       ⟨some 32, none, .bin .add 9 (.t 31) (.c (.s [32, 47, 47, 32, 114, 101, 109, 97, 114, 107, 10]))⟩,
       ⟨some 5, none, .mv (.t 32)⟩])))))
  (.cut [0, 1, 5, 6] (.reg [⟨some 24, none, .mv (.t 6)⟩,
    ⟨some 25, none, .bin .add 3 (.t 24) (.c (.i .i64 1))⟩,
    ⟨some 6, none, .mv (.t 25)⟩]))))
def c5L1 : AC :=
  (.seq (.seq (.cut [0, 1, 5, 7, 9, 10] (.reg [⟨some 62, none, .mv (.t 10)⟩,
      ⟨some 63, none, .mv (.t 7)⟩,
      ⟨some 64, none, .len 24 (.t 63)⟩,
      ⟨some 65, none, .bin .lss 3 (.t 62) (.t 64)⟩]))
   (.cond (.t 65)
    .skip
    (.exit 2)))
  (.seq (.blk 3
    (.seq (.cut [0, 1, 5, 7, 9, 10] (.reg [⟨some 68, none, .mv (.t 7)⟩,
       ⟨some 69, none, .mv (.t 10)⟩,
       ⟨some 70, none, .iad 24 (.t 68) (.t 69)⟩,
       ⟨some 71, none, .load 30 (.t 70)⟩,
       ⟨some 11, none, .alloc 30⟩,
       ⟨none, none, .store 30 (.t 11) (.t 71)⟩]))
    (.seq (.cut [0, 1, 5, 7, 9, 10, 11] (.reg [⟨some 72, none, .fad 30 (.t 11) 2⟩,
       ⟨some 73, none, .load 3 (.t 72)⟩,
       ⟨some 74, none, .mv (.t 1)⟩,
       ⟨some 75, none, .bin .rem 5 (.t 74) (.c (.i .u8 100))⟩,
       ⟨some 76, none, .conv 5 3 (.t 75)⟩,
       ⟨some 77, none, .bin .add 3 (.t 73) (.t 76)⟩,
       ⟨some 78, none, .fad 30 (.t 11) 2⟩,
       ⟨none, none, .store 3 (.t 78) (.t 77)⟩]))
    (.seq (.cut [0, 1, 5, 7, 9, 10, 11] (.drw [(⟨some 79, none, .mv (.t 9)⟩, []),
       (⟨some 80, none, .mv (.t 10)⟩, []),
       (⟨some 81, none, .iad 24 (.t 79) (.t 80)⟩, []),
       (⟨some 82, none, .load 30 (.t 81)⟩, []),
       (⟨some 83, none, .load 30 (.t 11)⟩, []),
       (⟨some 84, none, .bin .neq 30 (.t 82) (.t 83)⟩, [])]))
    (.cond (.t 84)
     (.seq (.reg [⟨some 4, none, .mv (.c (.b false))⟩])
     .ret)
     .skip)))))
  (.cut [0, 1, 5, 7, 9, 10] (.reg [⟨some 66, none, .mv (.t 10)⟩,
    ⟨some 67, none, .bin .add 3 (.t 66) (.c (.i .i64 1))⟩,
    ⟨some 10, none, .mv (.t 67)⟩]))))
def c5 : AC :=
  (.seq (.reg [⟨some 4, none, .mv (.c (.b false))⟩])
  (.seq (.cut [0, 1] (.reg [⟨some 14, none, .mv (.t 0)⟩,
     ⟨some 15, none, .mv (.t 0)⟩,
     ⟨some 16, none, .len 9 (.t 15)⟩,
     ⟨some 17, none, .mn false [.t 16, .c (.i .i64 2000)]⟩,
     ⟨some 18, none, .slc 9 (.t 14) none (some (.t 17))⟩,
     ⟨some 0, none, .mv (.t 18)⟩]))
  (.seq (.reg [⟨some 5, none, .mv (.c (.s []))⟩])
  (.seq (.seq (.reg [⟨some 6, none, .mv (.c (.i .i64 0))⟩])
   (.blk 0
    (.loop [0, 1, 5, 6] c5L0)))
  (.seq (.cut [0, 1, 5] (.reg [⟨some 34, none, .mv (.t 0)⟩,
     ⟨some 35, none, .call (.c (.fn (.func 10) [] [])) [.t 34]⟩,
     ⟨some 33, none, .mv (.t 35)⟩,
     ⟨some 36, none, .ext (.t 33) 0⟩,
     ⟨some 37, none, .ext (.t 33) 1⟩,
     ⟨some 7, none, .mv (.t 36)⟩,
     ⟨some 8, none, .mv (.t 37)⟩]))
  (.seq (.seq (.reg [⟨some 38, none, .mv (.t 8)⟩,
      ⟨some 39, none, .bin .neq 26 (.t 38) (.c (.ic0))⟩])
   (.cond (.t 39)
    (.seq (.reg [⟨some 40, none, .call (.c (.fn (.func 11) [] [])) []⟩,
       ⟨some 4, none, .mv (.t 40)⟩])
    .ret)
    .skip))
  (.seq (.cut [0, 1, 5, 7] (.reg [⟨some 42, none, .mv (.t 5)⟩,
     ⟨some 43, none, .mv (.t 0)⟩,
     ⟨some 44, none, .bin .add 9 (.t 42) (.t 43)⟩,
     ⟨some 45, none, .call (.c (.fn (.func 10) [] [])) [.t 44]⟩,
     ⟨some 41, none, .mv (.t 45)⟩,
     ⟨some 46, none, .ext (.t 41) 0⟩,
     ⟨some 47, none, .ext (.t 41) 1⟩,
     ⟨some 9, none, .mv (.t 46)⟩,
     ⟨some 8, none, .mv (.t 47)⟩]))
  (.seq (.seq (.cut [0, 1, 5, 7, 8, 9] (.reg [⟨some 48, none, .mv (.t 8)⟩,
      ⟨some 49, none, .bin .neq 26 (.t 48) (.c (.ic0))⟩,
      ⟨some 50, none, .mv (.t 49)⟩,
      ⟨some 51, some (50, false), .mv (.t 7)⟩,
      ⟨some 52, some (50, false), .len 24 (.t 51)⟩,
      ⟨some 53, some (50, false), .mv (.t 9)⟩,
      ⟨some 54, some (50, false), .len 24 (.t 53)⟩,
      ⟨some 55, some (50, false), .bin .neq 3 (.t 52) (.t 54)⟩,
      ⟨some 56, none, .pick (.t 50) (.c (.b true)) (.t 55)⟩,
      ⟨some 57, none, .mv (.t 56)⟩,
      ⟨some 58, some (57, false), .mv (.t 7)⟩,
      ⟨some 59, some (57, false), .len 24 (.t 58)⟩,
      ⟨some 60, some (57, false), .bin .eql 3 (.t 59) (.c (.i .i64 0))⟩,
      ⟨some 61, none, .pick (.t 57) (.c (.b true)) (.t 60)⟩]))
   (.cond (.t 61)
    (.seq (.reg [⟨some 4, none, .mv (.c (.b false))⟩])
    .ret)
    .skip))
  (.seq (.seq (.reg [⟨some 10, none, .mv (.c (.i .i64 0))⟩])
   (.blk 2
    (.loop [0, 1, 5, 7, 9, 10] c5L1)))
  (.seq (.cut [0, 1, 5, 7] (.reg [⟨some 86, none, .mv (.t 5)⟩,
     ⟨some 87, none, .mv (.t 0)⟩,
     ⟨some 88, none, .bin .add 9 (.t 86) (.t 87)⟩,
     ⟨some 89, none, .bin .add 9 (.t 88) (.c (.s [10, 36]))⟩,
     ⟨some 90, none, .call (.c (.fn (.func 10) [] [])) [.t 89]⟩,
     ⟨some 85, none, .mv (.t 90)⟩,
     ⟨some 91, none, .ext (.t 85) 0⟩,
     ⟨some 92, none, .ext (.t 85) 1⟩,
     ⟨some 12, none, .mv (.t 91)⟩,
     ⟨some 8, none, .mv (.t 92)⟩]))
  (.seq (.reg [⟨some 13, none, .alloc 36⟩])
  (.seq (.cut [1, 7, 8, 12, 13] (.drw [(⟨some 93, none, .mv (.t 8)⟩, []),
     (⟨some 94, none, .mki 38 (.t 13)⟩, []),
     (⟨some 95, none, .call (.c (.fn (.func 12) [] [])) [.t 93, .t 94]⟩, []),
     (⟨some 96, none, .mv (.t 95)⟩, []),
     (⟨some 97, some (96, true), .load 36 (.t 13)⟩, []),
     (⟨some 98, some (96, true), .bin .neq 36 (.t 97) (.c (.p0))⟩, []),
     (⟨some 99, none, .pick (.t 96) (.t 98) (.c (.b false))⟩, []),
     (⟨some 100, none, .mv (.t 99)⟩, []),
     (⟨some 101, some (100, true), .load 36 (.t 13)⟩, []),
     (⟨some 102, some (100, true), .nilck (.t 101)⟩, []),
     (⟨some 103, some (100, true), .fad 41 (.t 102) 0⟩, []),
     (⟨some 104, some (100, true), .load 39 (.t 103)⟩, []),
     (⟨some 105, some (100, true), .bin .eql 39 (.t 104) (.c (.i .i64 9))⟩, []),
     (⟨some 106, none, .pick (.t 100) (.t 105) (.c (.b false))⟩, []),
     (⟨some 107, none, .mv (.t 106)⟩, []),
     (⟨some 108, some (107, true), .load 36 (.t 13)⟩, []),
     (⟨some 109, some (107, true), .nilck (.t 108)⟩, []),
     (⟨some 110, some (107, true), .fad 41 (.t 109) 1⟩, []),
     (⟨some 111, some (107, true), .load 3 (.t 110)⟩, []),
     (⟨some 112, some (107, true), .mv (.t 7)⟩, []),
     (⟨some 113, some (107, true), .mv (.t 7)⟩, []),
     (⟨some 114, some (107, true), .len 24 (.t 113)⟩, []),
     (⟨some 115, some (107, true), .bin .sub 3 (.t 114) (.c (.i .i64 1))⟩, []),
     (⟨some 116, some (107, true), .iad 24 (.t 112) (.t 115)⟩, []),
     (⟨some 117, some (107, true), .fad 30 (.t 116) 2⟩, []),
     (⟨some 118, some (107, true), .load 3 (.t 117)⟩, []),
     (⟨some 119, some (107, true), .mv (.t 1)⟩, []),
     (⟨some 120, some (107, true), .bin .rem 5 (.t 119) (.c (.i .u8 100))⟩, []),
     (⟨some 121, some (107, true), .conv 5 3 (.t 120)⟩, [⟨some 108, some (107, true), .load 36 (.t 13)⟩, ⟨some 111, some (107, true), .load 3 (.t 110)⟩, ⟨some 118, some (107, true), .load 3 (.t 117)⟩]),
     (⟨some 122, some (107, true), .bin .add 3 (.t 118) (.t 121)⟩, []),
     (⟨some 123, some (107, true), .bin .add 3 (.t 122) (.c (.i .i64 1))⟩, []),
     (⟨some 124, some (107, true), .bin .eql 3 (.t 111) (.t 123)⟩, []),
     (⟨some 125, none, .pick (.t 107) (.t 124) (.c (.b false))⟩, []),
     (⟨some 126, none, .mv (.t 125)⟩, []),
     (⟨some 127, some (126, true), .mv (.t 12)⟩, []),
     (⟨some 128, some (126, true), .len 24 (.t 127)⟩, []),
     (⟨some 129, some (126, true), .bin .eql 3 (.t 128) (.c (.i .i64 0))⟩, []),
     (⟨some 130, none, .pick (.t 126) (.t 129) (.c (.b false))⟩, []),
     (⟨some 131, none, .mv (.t 130)⟩, []),
     (⟨some 132, some (131, true), .call (.c (.fn (.func 11) [] [])) []⟩, []),
     (⟨some 133, none, .pick (.t 131) (.t 132) (.c (.b false))⟩, []),
     (⟨some 4, none, .mv (.t 133)⟩, [])]))
  .ret))))))))))))
def F5 : AF := ⟨134, [.t 4], c5⟩
/-- fallow/fallowlaw23.LexKnown -/
def c6L0 : AC :=
  (.seq (.reg [⟨some 80, none, .bin .lss 3 (.t 79) (.t 78)⟩])
  (.seq (.cond (.t 80)
    .skip
    (.exit 0))
  (.seq (.blk 1
    (.seq (.cut [4, 77, 78, 79] (.reg [⟨some 81, none, .mv (.t 79)⟩,
       ⟨some 82, none, .iad 22 (.t 77) (.t 79)⟩,
       ⟨some 83, none, .load 9 (.t 82)⟩,
       ⟨some 5, none, .mv (.t 81)⟩,
       ⟨some 6, none, .mv (.t 83)⟩]))
    (.seq (.cut [4, 5, 6, 77, 78, 79] (.reg [⟨some 85, none, .mv (.t 6)⟩,
       ⟨some 86, none, .call (.c (.fn (.func 10) [] [])) [.t 85]⟩,
       ⟨some 84, none, .mv (.t 86)⟩,
       ⟨some 87, none, .ext (.t 84) 0⟩,
       ⟨some 88, none, .ext (.t 84) 1⟩,
       ⟨some 7, none, .mv (.t 87)⟩,
       ⟨some 8, none, .mv (.t 88)⟩]))
    (.seq (.reg [⟨some 9, none, .alloc 36⟩])
    (.seq (.reg [⟨some 10, none, .mv (.c (.i .i64 9))⟩])
    (.seq (.seq (.reg [⟨some 89, none, .mv (.t 5)⟩,
        ⟨some 90, none, .bin .gtr 3 (.t 89) (.c (.i .i64 9))⟩])
     (.cond (.t 90)
      (.reg [⟨some 10, none, .mv (.c (.i .i64 3))⟩])
      .skip))
    (.seq (.cut [4, 5, 8, 9, 10, 77, 78, 79] (.drw [(⟨some 91, none, .mv (.t 8)⟩, []),
       (⟨some 92, none, .mki 38 (.t 9)⟩, []),
       (⟨some 93, none, .call (.c (.fn (.func 12) [] [])) [.t 91, .t 92]⟩, []),
       (⟨some 94, none, .un .not (.t 93)⟩, []),
       (⟨some 95, none, .mv (.t 94)⟩, []),
       (⟨some 96, some (95, false), .load 36 (.t 9)⟩, []),
       (⟨some 97, some (95, false), .bin .eql 36 (.t 96) (.c (.p0))⟩, []),
       (⟨some 98, none, .pick (.t 95) (.c (.b true)) (.t 97)⟩, []),
       (⟨some 99, none, .mv (.t 98)⟩, []),
       (⟨some 100, some (99, false), .load 36 (.t 9)⟩, []),
       (⟨some 101, some (99, false), .nilck (.t 100)⟩, []),
       (⟨some 102, some (99, false), .fad 41 (.t 101) 0⟩, []),
       (⟨some 103, some (99, false), .load 39 (.t 102)⟩, []),
       (⟨some 104, some (99, false), .mv (.t 10)⟩, []),
       (⟨some 105, some (99, false), .bin .neq 39 (.t 103) (.t 104)⟩, []),
       (⟨some 106, none, .pick (.t 99) (.c (.b true)) (.t 105)⟩, []),
       (⟨some 107, none, .mv (.t 106)⟩, []),
       (⟨some 108, some (107, false), .load 36 (.t 9)⟩, []),
       (⟨some 109, some (107, false), .nilck (.t 108)⟩, []),
       (⟨some 110, some (107, false), .fad 41 (.t 109) 1⟩, []),
       (⟨some 111, some (107, false), .load 3 (.t 110)⟩, []),
       (⟨some 113, some (107, false), .mv (.t 5)⟩, []),
       (⟨some 112, some (107, false), .bsl 34 13 [(0, .c (.i .i64 1)), (1, .c (.i .i64 2)), (2, .c (.i .i64 0)), (3, .c (.i .i64 0)), (4, .c (.i .i64 0)), (5, .c (.i .i64 0)), (6, .c (.i .i64 0)), (7, .c (.i .i64 0)), (8, .c (.i .i64 0)), (9, .c (.i .i64 0)), (10, .c (.i .i64 0)), (11, .c (.i .i64 1)), (12, .c (.i .i64 0))]⟩, [⟨some 108, some (107, false), .load 36 (.t 9)⟩, ⟨some 111, some (107, false), .load 3 (.t 110)⟩]),
       (⟨some 114, some (107, false), .iad 34 (.t 112) (.t 113)⟩, []),
       (⟨some 115, some (107, false), .load 3 (.t 114)⟩, []),
       (⟨some 116, some (107, false), .bin .neq 3 (.t 111) (.t 115)⟩, []),
       (⟨some 117, none, .pick (.t 107) (.c (.b true)) (.t 116)⟩, [])]))
    (.cond (.t 117)
     (.seq (.reg [⟨some 0, none, .mv (.c (.b false))⟩])
     .ret)
     .skip))))))))
  (.reg [⟨some 118, none, .bin .add 3 (.t 79) (.c (.i .i64 1))⟩,
    ⟨some 79, none, .mv (.t 118)⟩]))))
def c6L1 : AC :=
  (.seq (.reg [⟨some 123, none, .bin .lss 3 (.t 122) (.t 121)⟩])
  (.seq (.cond (.t 123)
    .skip
    (.exit 2))
  (.seq (.blk 3
    (.seq (.cut [120, 121, 122] (.reg [⟨some 124, none, .mv (.t 122)⟩,
       ⟨some 125, none, .iad 22 (.t 120) (.t 122)⟩,
       ⟨some 126, none, .load 9 (.t 125)⟩,
       ⟨some 11, none, .mv (.t 124)⟩,
       ⟨some 12, none, .mv (.t 126)⟩]))
    (.seq (.cut [11, 12, 120, 121, 122] (.reg [⟨some 128, none, .mv (.t 12)⟩,
       ⟨some 129, none, .call (.c (.fn (.func 10) [] [])) [.t 128]⟩,
       ⟨some 127, none, .mv (.t 129)⟩,
       ⟨some 130, none, .ext (.t 127) 0⟩,
       ⟨some 131, none, .ext (.t 127) 1⟩,
       ⟨some 13, none, .mv (.t 130)⟩,
       ⟨some 14, none, .mv (.t 131)⟩]))
    (.seq (.cut [11, 13, 14, 120, 121, 122] (.reg [⟨some 132, none, .mv (.t 14)⟩,
       ⟨some 133, none, .bin .neq 26 (.t 132) (.c (.ic0))⟩,
       ⟨some 134, none, .mv (.t 133)⟩,
       ⟨some 135, some (134, false), .mv (.t 13)⟩,
       ⟨some 136, some (134, false), .len 24 (.t 135)⟩,
       ⟨some 137, some (134, false), .bsl 34 9 [(0, .c (.i .i64 5)), (1, .c (.i .i64 3)), (2, .c (.i .i64 2)), (3, .c (.i .i64 3)), (4, .c (.i .i64 3)), (5, .c (.i .i64 3)), (6, .c (.i .i64 2)), (7, .c (.i .i64 2)), (8, .c (.i .i64 2))]⟩,
       ⟨some 138, some (134, false), .mv (.t 11)⟩,
       ⟨some 139, some (134, false), .iad 34 (.t 137) (.t 138)⟩,
       ⟨some 140, some (134, false), .load 3 (.t 139)⟩,
       ⟨some 141, some (134, false), .bin .neq 3 (.t 136) (.t 140)⟩,
       ⟨some 142, none, .pick (.t 134) (.c (.b true)) (.t 141)⟩]))
    (.cond (.t 142)
     (.seq (.reg [⟨some 0, none, .mv (.c (.b false))⟩])
     .ret)
     .skip)))))
  (.reg [⟨some 143, none, .bin .add 3 (.t 122) (.c (.i .i64 1))⟩,
    ⟨some 122, none, .mv (.t 143)⟩]))))
def c6 : AC :=
  (.seq (.reg [⟨some 0, none, .mv (.c (.b false))⟩])
  (.seq (.cut [] (.reg [⟨some 16, none, .call (.c (.fn (.func 10) [] [])) [.c (.s [105, 102, 32, 120, 32, 123, 32, 47, 47, 32, 110, 111, 10, 125])]⟩,
     ⟨some 15, none, .mv (.t 16)⟩,
     ⟨some 17, none, .ext (.t 15) 0⟩,
     ⟨some 18, none, .ext (.t 15) 1⟩,
     ⟨some 1, none, .mv (.t 17)⟩,
     ⟨some 2, none, .mv (.t 18)⟩]))
  (.seq (.seq (.cut [1, 2] (.reg [⟨some 19, none, .mv (.t 2)⟩,
      ⟨some 20, none, .bin .neq 26 (.t 19) (.c (.ic0))⟩,
      ⟨some 21, none, .mv (.t 20)⟩,
      ⟨some 22, some (21, false), .mv (.t 1)⟩,
      ⟨some 23, some (21, false), .len 24 (.t 22)⟩,
      ⟨some 24, some (21, false), .bin .neq 3 (.t 23) (.c (.i .i64 5))⟩,
      ⟨some 25, none, .pick (.t 21) (.c (.b true)) (.t 24)⟩,
      ⟨some 26, none, .mv (.t 25)⟩,
      ⟨some 27, some (26, false), .mv (.t 1)⟩,
      ⟨some 28, some (26, false), .iad 24 (.t 27) (.c (.i .i64 0))⟩,
      ⟨some 29, some (26, false), .load 30 (.t 28)⟩,
      ⟨some 30, some (26, false), .build 30 [(0, .c (.i .i64 4)), (1, .c (.s [105, 102]))]⟩,
      ⟨some 31, some (26, false), .bin .neq 30 (.t 29) (.t 30)⟩,
      ⟨some 32, none, .pick (.t 26) (.c (.b true)) (.t 31)⟩,
      ⟨some 33, none, .mv (.t 32)⟩,
      ⟨some 34, some (33, false), .mv (.t 1)⟩,
      ⟨some 35, some (33, false), .iad 24 (.t 34) (.c (.i .i64 2))⟩,
      ⟨some 36, some (33, false), .load 30 (.t 35)⟩,
      ⟨some 37, some (33, false), .build 30 [(0, .c (.i .i64 3)), (1, .c (.s [123]))]⟩,
      ⟨some 38, some (33, false), .bin .neq 30 (.t 36) (.t 37)⟩,
      ⟨some 39, none, .pick (.t 33) (.c (.b true)) (.t 38)⟩,
      ⟨some 40, none, .mv (.t 39)⟩,
      ⟨some 41, some (40, false), .mv (.t 1)⟩,
      ⟨some 42, some (40, false), .iad 24 (.t 41) (.c (.i .i64 3))⟩,
      ⟨some 43, some (40, false), .load 30 (.t 42)⟩,
      ⟨some 44, some (40, false), .build 30 [(0, .c (.i .i64 3)), (1, .c (.s [125])), (2, .c (.i .i64 1))]⟩,
      ⟨some 45, some (40, false), .bin .neq 30 (.t 43) (.t 44)⟩,
      ⟨some 46, none, .pick (.t 40) (.c (.b true)) (.t 45)⟩,
      ⟨some 47, none, .mv (.t 46)⟩,
      ⟨some 48, some (47, false), .mv (.t 1)⟩,
      ⟨some 49, some (47, false), .iad 24 (.t 48) (.c (.i .i64 4))⟩,
      ⟨some 50, some (47, false), .load 30 (.t 49)⟩,
      ⟨some 51, some (47, false), .build 30 [(0, .c (.i .i64 5)), (2, .c (.i .i64 1))]⟩,
      ⟨some 52, some (47, false), .bin .neq 30 (.t 50) (.t 51)⟩,
      ⟨some 53, none, .pick (.t 47) (.c (.b true)) (.t 52)⟩]))
   (.cond (.t 53)
    (.seq (.reg [⟨some 0, none, .mv (.c (.b false))⟩])
    .ret)
    .skip))
  (.seq (.cut [] (.reg [⟨some 55, none, .call (.c (.fn (.func 10) [] [])) [.c (.s [])]⟩,
     ⟨some 54, none, .mv (.t 55)⟩,
     ⟨some 56, none, .ext (.t 54) 0⟩,
     ⟨some 57, none, .ext (.t 54) 1⟩,
     ⟨some 1, none, .mv (.t 56)⟩,
     ⟨some 2, none, .mv (.t 57)⟩]))
  (.seq (.seq (.cut [1, 2] (.reg [⟨some 58, none, .mv (.t 2)⟩,
      ⟨some 59, none, .bin .neq 26 (.t 58) (.c (.ic0))⟩,
      ⟨some 60, none, .mv (.t 59)⟩,
      ⟨some 61, some (60, false), .mv (.t 1)⟩,
      ⟨some 62, some (60, false), .len 24 (.t 61)⟩,
      ⟨some 63, some (60, false), .bin .neq 3 (.t 62) (.c (.i .i64 1))⟩,
      ⟨some 64, none, .pick (.t 60) (.c (.b true)) (.t 63)⟩,
      ⟨some 65, none, .mv (.t 64)⟩,
      ⟨some 66, some (65, false), .mv (.t 1)⟩,
      ⟨some 67, some (65, false), .iad 24 (.t 66) (.c (.i .i64 0))⟩,
      ⟨some 68, some (65, false), .load 30 (.t 67)⟩,
      ⟨some 69, some (65, false), .build 30 [(0, .c (.i .i64 5))]⟩,
      ⟨some 70, some (65, false), .bin .neq 30 (.t 68) (.t 69)⟩,
      ⟨some 71, none, .pick (.t 65) (.c (.b true)) (.t 70)⟩]))
   (.cond (.t 71)
    (.seq (.reg [⟨some 0, none, .mv (.c (.b false))⟩])
    .ret)
    .skip))
  (.seq (.cut [] (.reg [⟨some 72, none, .mks 33 (.c (.i .i64 32769)) (.c (.i .i64 32769))⟩,
     ⟨some 73, none, .conv 33 9 (.t 72)⟩,
     ⟨some 3, none, .mv (.t 73)⟩]))
  (.seq (.reg [⟨some 4, none, .mv (.c (.s [97, 98, 99, 100, 101, 102, 103, 104, 105, 106, 107, 108, 109, 110, 111, 112, 113, 114, 115, 116, 117, 118, 119, 120, 121, 122, 65, 66, 67, 68, 69, 95]))⟩])
  (.seq (.seq (.cut [3, 4] (.reg [⟨some 74, none, .mv (.t 4)⟩,
      ⟨some 75, none, .bin .add 9 (.t 74) (.c (.s [70]))⟩,
      ⟨some 76, none, .mv (.t 3)⟩,
      ⟨some 77, none, .bsl 22 13 [(0, .c (.s [97, 10, 48, 49, 50])), (1, .c (.s [97, 10, 10, 36])), (2, .c (.s [49, 120])), (3, .c (.s [48, 48])), (4, .t 75), (5, .c (.s [195, 164])), (6, .c (.s [97, 0])), (7, .c (.s [48, 95])), (8, .c (.s [34])), (9, .c (.s [35])), (10, .c (.s [52, 50, 57, 52, 57, 54, 55, 50, 57, 54])), (11, .c (.s [97, 10, 57, 57, 57, 57, 57, 57, 57, 57, 57, 57, 57, 57, 57, 57, 57, 57, 57, 57, 57, 57, 57, 57, 57])), (12, .t 76)]⟩,
      ⟨some 78, none, .len 22 (.t 77)⟩,
      ⟨some 79, none, .mv (.c (.i .i64 0))⟩]))
   (.blk 0
    (.loop [4, 77, 78, 79] c6L0)))
  (.seq (.seq (.cut [4] (.reg [⟨some 119, none, .mv (.t 4)⟩,
      ⟨some 120, none, .bsl 22 9 [(0, .c (.s [97, 61, 61, 61, 98])), (1, .c (.s [60, 60, 60, 61])), (2, .c (.s [97, 47, 47, 98])), (3, .c (.s [47, 32, 47])), (4, .c (.s [33, 33, 61])), (5, .c (.s [38, 38, 38])), (6, .c (.s [52, 50, 57, 52, 57, 54, 55, 50, 57, 53])), (7, .t 119), (8, .c (.s [120, 49, 95, 50]))]⟩,
      ⟨some 121, none, .len 22 (.t 120)⟩,
      ⟨some 122, none, .mv (.c (.i .i64 0))⟩]))
   (.blk 2
    (.loop [120, 121, 122] c6L1)))
  (.seq (.cut [] (.reg [⟨some 144, none, .call (.c (.fn (.func 8) [] [])) []⟩,
     ⟨some 145, none, .len 22 (.t 144)⟩,
     ⟨some 146, none, .bin .eql 3 (.t 145) (.c (.i .i64 12))⟩,
     ⟨some 147, none, .mv (.t 146)⟩,
     ⟨some 148, some (147, true), .call (.c (.fn (.func 11) [] [])) []⟩,
     ⟨some 149, none, .pick (.t 147) (.t 148) (.c (.b false))⟩,
     ⟨some 0, none, .mv (.t 149)⟩]))
  .ret))))))))))
def F6 : AF := ⟨150, [.t 0], c6⟩
/-- fallow/fallowlaw23.LexReads -/
def c7 : AC :=
  (.seq (.reg [⟨some 2, none, .mv (.c (.b false))⟩])
  (.seq (.cut [0] (.reg [⟨some 8, none, .mv (.t 0)⟩,
     ⟨some 9, none, .call (.c (.fn (.func 10) [] [])) [.t 8]⟩,
     ⟨some 7, none, .mv (.t 9)⟩,
     ⟨some 10, none, .ext (.t 7) 0⟩,
     ⟨some 11, none, .ext (.t 7) 1⟩,
     ⟨some 3, none, .mv (.t 10)⟩,
     ⟨some 4, none, .mv (.t 11)⟩]))
  (.seq (.cut [0, 3, 4] (.reg [⟨some 13, none, .mv (.t 0)⟩,
     ⟨some 14, none, .call (.c (.fn (.func 13) [] [])) [.t 13]⟩,
     ⟨some 12, none, .mv (.t 14)⟩,
     ⟨some 15, none, .ext (.t 12) 0⟩,
     ⟨some 16, none, .ext (.t 12) 1⟩,
     ⟨some 6, none, .alloc 43⟩,
     ⟨some 5, none, .mv (.t 15)⟩,
     ⟨none, none, .store 43 (.t 6) (.t 16)⟩]))
  (.seq (.cut [3, 4, 5, 6] (.reg [⟨some 17, none, .mv (.t 3)⟩,
     ⟨some 18, none, .mv (.t 5)⟩,
     ⟨some 19, none, .call (.c (.fn (.func 14) [] [])) [.t 17, .t 18]⟩,
     ⟨some 20, none, .mv (.t 19)⟩,
     ⟨some 21, some (20, true), .mv (.t 4)⟩,
     ⟨some 22, some (20, true), .load 43 (.t 6)⟩,
     ⟨some 23, some (20, true), .call (.c (.fn (.func 15) [] [])) [.t 21, .t 22]⟩,
     ⟨some 24, none, .pick (.t 20) (.t 23) (.c (.b false))⟩,
     ⟨some 25, none, .mv (.t 24)⟩,
     ⟨some 26, some (25, true), .call (.c (.fn (.func 11) [] [])) []⟩,
     ⟨some 27, none, .pick (.t 25) (.t 26) (.c (.b false))⟩,
     ⟨some 2, none, .mv (.t 27)⟩]))
  .ret))))
def F7 : AF := ⟨28, [.t 2], c7⟩
/-- fallow/lex.Keys -/
def c8 : AC :=
  (.seq (.reg [⟨some 0, none, .mv (.c (.sl0))⟩])
  (.seq (.reg [⟨some 1, none, .call (.c (.fn (.func 16) [] [])) [.c (.s [102, 117, 110, 99, 32, 118, 97, 114, 32, 112, 116, 114, 32, 105, 102, 32, 101, 108, 115, 101, 32, 119, 104, 105, 108, 101, 32, 111, 117, 116, 32, 102, 114, 101, 101, 32, 100, 114, 97, 105, 110, 32, 114, 101, 116, 117, 114, 110, 32, 110, 101, 119, 32, 105, 110])]⟩,
     ⟨some 0, none, .mv (.t 1)⟩])
  .ret))
def F8 : AF := ⟨2, [.t 0], c8⟩
/-- fallow/fallowref23.Keys -/
def c9 : AC :=
  (.seq (.reg [⟨some 0, none, .mv (.c (.sl0))⟩])
  (.seq (.reg [⟨some 1, none, .bsl 22 12 [(0, .c (.s [102, 117, 110, 99])), (1, .c (.s [118, 97, 114])), (2, .c (.s [112, 116, 114])), (3, .c (.s [105, 102])), (4, .c (.s [101, 108, 115, 101])), (5, .c (.s [119, 104, 105, 108, 101])), (6, .c (.s [111, 117, 116])), (7, .c (.s [102, 114, 101, 101])), (8, .c (.s [100, 114, 97, 105, 110])), (9, .c (.s [114, 101, 116, 117, 114, 110])), (10, .c (.s [110, 101, 119])), (11, .c (.s [105, 110]))]⟩,
     ⟨some 0, none, .mv (.t 1)⟩])
  .ret))
def F9 : AF := ⟨2, [.t 0], c9⟩
/-- fallow/lex.Tokens -/
def c10L0 : AC :=
  (.seq (.seq (.cut [1, 4, 5, 6, 7] (.reg [⟨some 20, none, .load 9 (.t 1)⟩,
      ⟨some 21, none, .len 9 (.t 20)⟩,
      ⟨some 22, none, .bin .gtr 3 (.t 21) (.c (.i .i64 0))⟩]))
   (.cond (.t 22)
    .skip
    (.exit 0)))
  (.blk 1
   (.seq (.seq (.reg [⟨some 23, none, .load 9 (.t 1)⟩,
       ⟨some 24, none, .call (.c (.fn (.func 18) [] [])) [.t 23, .c (.s [47, 47])]⟩])
    (.cond (.t 24)
     (.seq (.cut [1, 4, 5, 6, 7] (.reg [⟨some 25, none, .load 9 (.t 1)⟩,
        ⟨some 26, none, .call (.c (.fn (.func 19) [] [])) [.t 25, .c (.i .u8 10)]⟩,
        ⟨some 8, none, .mv (.t 26)⟩]))
     (.seq (.seq (.reg [⟨some 27, none, .mv (.t 8)⟩,
         ⟨some 28, none, .bin .lss 3 (.t 27) (.c (.i .i64 0))⟩])
      (.cond (.t 28)
       (.cut [1, 4, 5, 6, 7] (.reg [⟨some 29, none, .load 9 (.t 1)⟩,
         ⟨some 30, none, .len 9 (.t 29)⟩,
         ⟨some 8, none, .mv (.t 30)⟩]))
       .skip))
     (.seq (.cut [1, 4, 5, 6, 7, 8] (.reg [⟨some 31, none, .load 9 (.t 1)⟩,
        ⟨some 32, none, .mv (.t 8)⟩,
        ⟨some 33, none, .slc 9 (.t 31) (some (.t 32)) none⟩,
        ⟨none, none, .store 9 (.t 1) (.t 33)⟩]))
     (.exit 1))))
     .skip))
   (.seq (.cut [1, 4, 5, 6, 7] (.reg [⟨some 34, none, .load 9 (.t 1)⟩,
      ⟨some 35, none, .idx 9 (.t 34) (.c (.i .i64 0))⟩,
      ⟨some 36, none, .conv 5 21 (.t 35)⟩,
      ⟨some 37, none, .call (.c (.fn (.func 20) [] [])) [.t 36]⟩]))
   (.blk 2
    (.seq (.reg [⟨some 39, none, .bin .eql 53 (.t 37) (.c (.i .i64 1))⟩,
       ⟨some 38, none, .mv (.t 39)⟩])
    (.cond (.t 38)
     (.seq (.seq (.cut [1, 4, 5, 6, 7] (.reg [⟨some 40, none, .load 9 (.t 1)⟩,
         ⟨some 41, none, .idx 9 (.t 40) (.c (.i .i64 0))⟩,
         ⟨some 42, none, .bin .eql 5 (.t 41) (.c (.i .u8 10))⟩]))
      (.cond (.t 42)
       (.cut [1, 4, 5, 6, 7] (.reg [⟨some 43, none, .load 3 (.t 5)⟩,
         ⟨some 44, none, .bin .add 3 (.t 43) (.c (.i .i64 1))⟩,
         ⟨none, none, .store 3 (.t 5) (.t 44)⟩]))
       .skip))
     (.cut [1, 4, 5, 6, 7] (.reg [⟨some 45, none, .load 9 (.t 1)⟩,
       ⟨some 46, none, .slc 9 (.t 45) (some (.c (.i .i64 1))) none⟩,
       ⟨none, none, .store 9 (.t 1) (.t 46)⟩])))
     (.seq (.reg [⟨some 48, none, .bin .eql 53 (.t 37) (.c (.i .i64 2))⟩,
        ⟨some 47, none, .mv (.t 48)⟩])
     (.cond (.t 47)
      (.seq (.cut [1, 4, 5, 6, 7] (.reg [⟨some 49, none, .load 9 (.t 1)⟩,
         ⟨some 50, none, .bsl 79 2 [(0, .c (.i .i64 2)), (1, .c (.i .i64 3))]⟩,
         ⟨some 51, none, .call (.c (.fn (.func 21) [] [])) [.t 49, .t 50]⟩,
         ⟨some 9, none, .mv (.t 51)⟩]))
      (.blk 3
       (.seq (.cut [1, 4, 5, 6, 7, 9] (.reg [⟨some 56, none, .mv (.t 9)⟩,
          ⟨some 57, none, .bin .gtr 3 (.t 56) (.c (.i .i64 32))⟩,
          ⟨some 55, none, .mv (.t 57)⟩]))
       (.cond (.t 55)
        (.seq (.reg [⟨some 7, none, .mv (.c (.i .i64 9))⟩])
        (.exit 0))
        (.seq (.cut [1, 4, 5, 6, 7, 9] (.drw [(⟨some 60, none, .load 9 (.t 1)⟩, []),
           (⟨some 61, none, .mv (.t 9)⟩, []),
           (⟨some 62, none, .slc 9 (.t 60) none (some (.t 61))⟩, []),
           (⟨some 59, none, .call (.c (.fn (.func 8) [] [])) []⟩, [⟨some 60, none, .load 9 (.t 1)⟩, ⟨some 62, none, .slc 9 (.t 60) none (some (.t 61))⟩]),
           (⟨some 63, none, .call (.c (.fn (.func 22) [] [])) [.t 59, .t 62]⟩, []),
           (⟨some 58, none, .mv (.t 63)⟩, [])]))
        (.cond (.t 58)
         (.cut [1, 4, 5, 6, 7, 9] (.reg [⟨some 64, none, .mv (.t 6)⟩,
           ⟨some 65, none, .mv (.t 9)⟩,
           ⟨some 66, none, .call (.t 64) [.c (.i .i64 4), .t 65]⟩]))
         (.cut [1, 4, 5, 6, 7, 9] (.reg [⟨some 52, none, .mv (.t 6)⟩,
           ⟨some 53, none, .mv (.t 9)⟩,
           ⟨some 54, none, .call (.t 52) [.c (.i .i64 1), .t 53]⟩]))))))))
      (.seq (.reg [⟨some 68, none, .bin .eql 53 (.t 37) (.c (.i .i64 3))⟩,
         ⟨some 67, none, .mv (.t 68)⟩])
      (.cond (.t 67)
       (.seq (.cut [1, 4, 5, 6, 7] (.reg [⟨some 69, none, .load 9 (.t 1)⟩,
          ⟨some 70, none, .bsl 79 1 [(0, .c (.i .i64 3))]⟩,
          ⟨some 71, none, .call (.c (.fn (.func 21) [] [])) [.t 69, .t 70]⟩,
          ⟨some 10, none, .mv (.t 71)⟩]))
       (.seq (.seq (.cut [1, 4, 5, 6, 7, 10] (.reg [⟨some 72, none, .load 9 (.t 1)⟩,
           ⟨some 73, none, .idx 9 (.t 72) (.c (.i .i64 0))⟩,
           ⟨some 74, none, .bin .eql 5 (.t 73) (.c (.i .u8 48))⟩,
           ⟨some 75, none, .mv (.t 74)⟩,
           ⟨some 76, some (75, true), .mv (.t 10)⟩,
           ⟨some 77, some (75, true), .bin .gtr 3 (.t 76) (.c (.i .i64 1))⟩,
           ⟨some 78, none, .pick (.t 75) (.t 77) (.c (.b false))⟩,
           ⟨some 79, none, .mv (.t 78)⟩,
           ⟨some 80, some (79, false), .load 9 (.t 1)⟩,
           ⟨some 81, some (79, false), .mv (.t 10)⟩,
           ⟨some 82, some (79, false), .slc 9 (.t 80) (some (.t 81)) none⟩,
           ⟨some 83, some (79, false), .bsl 79 1 [(0, .c (.i .i64 2))]⟩,
           ⟨some 84, some (79, false), .call (.c (.fn (.func 21) [] [])) [.t 82, .t 83]⟩,
           ⟨some 85, some (79, false), .bin .gtr 3 (.t 84) (.c (.i .i64 0))⟩,
           ⟨some 86, none, .pick (.t 79) (.c (.b true)) (.t 85)⟩]))
        (.cond (.t 86)
         (.seq (.reg [⟨some 7, none, .mv (.c (.i .i64 9))⟩])
         (.exit 0))
         .skip))
       (.seq (.seq (.cut [1, 4, 5, 6, 7, 10] (.reg [⟨some 88, none, .load 9 (.t 1)⟩,
           ⟨some 89, none, .mv (.t 10)⟩,
           ⟨some 90, none, .slc 9 (.t 88) none (some (.t 89))⟩,
           ⟨some 91, none, .call (.c (.fn (.func 23) [] [])) [.t 90, .c (.i .i64 10), .c (.i .i64 32)]⟩,
           ⟨some 87, none, .mv (.t 91)⟩,
           ⟨some 92, none, .ext (.t 87) 0⟩,
           ⟨some 93, none, .ext (.t 87) 1⟩,
           ⟨some 11, none, .mv (.t 92)⟩,
           ⟨some 12, none, .mv (.t 93)⟩]))
        (.seq (.reg [⟨some 94, none, .mv (.t 12)⟩,
           ⟨some 95, none, .bin .neq 26 (.t 94) (.c (.ic0))⟩])
        (.cond (.t 95)
         (.seq (.reg [⟨some 7, none, .mv (.c (.i .i64 3))⟩])
         (.exit 0))
         .skip)))
       (.cut [1, 4, 5, 6, 7, 10] (.reg [⟨some 96, none, .mv (.t 6)⟩,
         ⟨some 97, none, .mv (.t 10)⟩,
         ⟨some 98, none, .call (.t 96) [.c (.i .i64 2), .t 97]⟩])))))
       (.seq (.reg [⟨some 100, none, .bin .eql 53 (.t 37) (.c (.i .i64 4))⟩,
          ⟨some 99, none, .mv (.t 100)⟩])
       (.cond (.t 99)
        (.seq (.reg [⟨some 101, none, .load 9 (.t 1)⟩,
           ⟨some 102, none, .call (.c (.fn (.func 24) [] [])) [.t 101]⟩])
        (.cond (.t 102)
         (.reg [⟨some 103, none, .mv (.t 6)⟩,
           ⟨some 104, none, .call (.t 103) [.c (.i .i64 3), .c (.i .i64 2)]⟩])
         (.reg [⟨some 105, none, .mv (.t 6)⟩,
           ⟨some 106, none, .call (.t 105) [.c (.i .i64 3), .c (.i .i64 1)]⟩])))
        (.seq (.reg [⟨some 7, none, .mv (.c (.i .i64 9))⟩])
        (.exit 0)))))))))))))))
def c10 : AC :=
  (.seq (.cut [0] (.reg [⟨some 1, none, .box 9 (.t 0)⟩,
     ⟨some 2, none, .mv (.c (.sl0))⟩,
     ⟨some 3, none, .mv (.c (.ic0))⟩]))
  (.seq (.seq (.cut [1] (.reg [⟨some 13, none, .load 9 (.t 1)⟩,
      ⟨some 14, none, .len 9 (.t 13)⟩,
      ⟨some 15, none, .bin .gtr 3 (.t 14) (.c (.i .i64 32768))⟩]))
   (.cond (.t 15)
    (.seq (.cut [] (.reg [⟨some 16, none, .build 41 [(0, .c (.i .i64 3))]⟩,
       ⟨some 17, none, .box 41 (.t 16)⟩,
       ⟨some 18, none, .mki 36 (.t 17)⟩,
       ⟨some 2, none, .mv (.c (.sl0))⟩,
       ⟨some 3, none, .mv (.t 18)⟩]))
    .ret)
    .skip))
  (.seq (.reg [⟨some 4, none, .alloc 24⟩])
  (.seq (.reg [⟨some 5, none, .alloc 3⟩,
     ⟨none, none, .store 3 (.t 5) (.c (.i .i64 0))⟩])
  (.seq (.reg [⟨some 19, none, .mkf (.func 17) [] [.t 4, .t 1, .t 5]⟩,
     ⟨some 6, none, .mv (.t 19)⟩])
  (.seq (.reg [⟨some 7, none, .mv (.c (.i .i64 0))⟩])
  (.seq .skip
  (.seq (.blk 0
    (.loop [1, 4, 5, 6, 7] c10L0))
  (.seq (.seq (.reg [⟨some 107, none, .mv (.t 7)⟩,
      ⟨some 108, none, .bin .neq 39 (.t 107) (.c (.i .i64 0))⟩])
   (.cond (.t 108)
    (.seq (.cut [5, 7] (.drw [(⟨some 109, none, .mv (.t 7)⟩, []),
       (⟨some 110, none, .load 3 (.t 5)⟩, []),
       (⟨some 111, none, .build 41 [(0, .t 109), (1, .t 110)]⟩, []),
       (⟨some 2, none, .mv (.c (.sl0))⟩, []),
       (⟨some 112, none, .box 41 (.t 111)⟩, []),
       (⟨some 113, none, .mki 36 (.t 112)⟩, []),
       (⟨some 3, none, .mv (.t 113)⟩, [])]))
    .ret)
    .skip))
  (.seq (.cut [4, 5] (.reg [⟨some 114, none, .load 24 (.t 4)⟩,
     ⟨some 115, none, .load 3 (.t 5)⟩,
     ⟨some 116, none, .build 30 [(0, .c (.i .i64 5)), (2, .t 115)]⟩,
     ⟨some 117, none, .bsl 24 1 [(0, .t 116)]⟩,
     ⟨some 118, none, .app 24 false (.t 114) (.t 117)⟩,
     ⟨some 2, none, .mv (.t 118)⟩,
     ⟨some 3, none, .mv (.c (.ic0))⟩]))
  .ret))))))))))
def F10 : AF := ⟨119, [.t 2, .t 3], c10⟩
/-- fallow/fallowlaw23.works -/
def c11 : AC :=
  (.seq (.reg [⟨some 0, none, .mv (.c (.b false))⟩])
  (.seq (.cut [] (.reg [⟨some 4, none, .call (.c (.fn (.func 10) [] [])) [.c (.s [120, 32, 61, 32, 97, 60, 60, 50, 59])]⟩,
     ⟨some 3, none, .mv (.t 4)⟩,
     ⟨some 5, none, .ext (.t 3) 0⟩,
     ⟨some 6, none, .ext (.t 3) 1⟩,
     ⟨some 1, none, .mv (.t 5)⟩,
     ⟨some 2, none, .mv (.t 6)⟩]))
  (.seq (.cut [1, 2] (.reg [⟨some 7, none, .mv (.t 2)⟩,
     ⟨some 8, none, .bin .eql 26 (.t 7) (.c (.ic0))⟩,
     ⟨some 9, none, .mv (.t 8)⟩,
     ⟨some 10, some (9, true), .mv (.t 1)⟩,
     ⟨some 11, some (9, true), .len 24 (.t 10)⟩,
     ⟨some 12, some (9, true), .bin .eql 3 (.t 11) (.c (.i .i64 7))⟩,
     ⟨some 13, none, .pick (.t 9) (.t 12) (.c (.b false))⟩,
     ⟨some 14, none, .mv (.t 13)⟩,
     ⟨some 15, some (14, true), .mv (.t 1)⟩,
     ⟨some 16, some (14, true), .iad 24 (.t 15) (.c (.i .i64 0))⟩,
     ⟨some 17, some (14, true), .load 30 (.t 16)⟩,
     ⟨some 18, some (14, true), .build 30 [(0, .c (.i .i64 1)), (1, .c (.s [120]))]⟩,
     ⟨some 19, some (14, true), .bin .eql 30 (.t 17) (.t 18)⟩,
     ⟨some 20, none, .pick (.t 14) (.t 19) (.c (.b false))⟩,
     ⟨some 21, none, .mv (.t 20)⟩,
     ⟨some 22, some (21, true), .mv (.t 1)⟩,
     ⟨some 23, some (21, true), .iad 24 (.t 22) (.c (.i .i64 3))⟩,
     ⟨some 24, some (21, true), .load 30 (.t 23)⟩,
     ⟨some 25, some (21, true), .build 30 [(0, .c (.i .i64 3)), (1, .c (.s [60, 60]))]⟩,
     ⟨some 26, some (21, true), .bin .eql 30 (.t 24) (.t 25)⟩,
     ⟨some 27, none, .pick (.t 21) (.t 26) (.c (.b false))⟩,
     ⟨some 28, none, .mv (.t 27)⟩,
     ⟨some 29, some (28, true), .mv (.t 1)⟩,
     ⟨some 30, some (28, true), .iad 24 (.t 29) (.c (.i .i64 4))⟩,
     ⟨some 31, some (28, true), .load 30 (.t 30)⟩,
     ⟨some 32, some (28, true), .build 30 [(0, .c (.i .i64 2)), (1, .c (.s [50]))]⟩,
     ⟨some 33, some (28, true), .bin .eql 30 (.t 31) (.t 32)⟩,
     ⟨some 34, none, .pick (.t 28) (.t 33) (.c (.b false))⟩,
     ⟨some 35, none, .mv (.t 34)⟩,
     ⟨some 36, some (35, true), .mv (.t 1)⟩,
     ⟨some 37, some (35, true), .iad 24 (.t 36) (.c (.i .i64 6))⟩,
     ⟨some 38, some (35, true), .load 30 (.t 37)⟩,
     ⟨some 39, some (35, true), .build 30 [(0, .c (.i .i64 5))]⟩,
     ⟨some 40, some (35, true), .bin .eql 30 (.t 38) (.t 39)⟩,
     ⟨some 41, none, .pick (.t 35) (.t 40) (.c (.b false))⟩,
     ⟨some 0, none, .mv (.t 41)⟩]))
  .ret)))
def F11 : AF := ⟨42, [.t 0], c11⟩
/-- errors.As -/
def c12 : AC :=
  (.seq (.reg [⟨some 4, none, .mv (.c (.b false))⟩])
  (.seq (.seq (.reg [⟨some 8, none, .mv (.t 0)⟩,
      ⟨some 9, none, .bin .eql 26 (.t 8) (.c (.ic0))⟩])
   (.cond (.t 9)
    (.seq (.reg [⟨some 4, none, .mv (.c (.b false))⟩])
    .ret)
    .skip))
  (.seq (.seq (.reg [⟨some 10, none, .mv (.t 1)⟩,
      ⟨some 11, none, .bin .eql 20 (.t 10) (.c (.ic0))⟩])
   (.cond (.t 11)
    (.reg [⟨some 12, none, .mki 9 (.c (.s [101, 114, 114, 111, 114, 115, 58, 32, 116, 97, 114, 103, 101, 116, 32, 99, 97, 110, 110, 111, 116, 32, 98, 101, 32, 110, 105, 108]))⟩,
      ⟨none, none, .pnc (.t 12)⟩])
    .skip))
  (.seq (.cut [0, 1] (.reg [⟨some 13, none, .mv (.t 1)⟩,
     ⟨some 14, none, .call (.c (.fn (.func 25) [] [])) [.t 13]⟩,
     ⟨some 5, none, .alloc 63⟩,
     ⟨none, none, .store 63 (.t 5) (.t 14)⟩]))
  (.seq (.cut [0, 1, 5] (.reg [⟨some 15, none, .load 63 (.t 5)⟩,
     ⟨some 16, none, .call (.c (.fn (.func 26) [] [])) [.t 15]⟩,
     ⟨some 6, none, .mv (.t 16)⟩]))
  (.seq (.seq (.cut [0, 1, 5, 6] (.reg [⟨some 17, none, .mv (.t 6)⟩,
      ⟨some 18, none, .inv (.t 17) "Kind" []⟩,
      ⟨some 19, none, .bin .neq 68 (.t 18) (.c (.i .u8 22))⟩,
      ⟨some 20, none, .mv (.t 19)⟩,
      ⟨some 21, some (20, false), .load 63 (.t 5)⟩,
      ⟨some 22, some (20, false), .call (.c (.fn (.func 27) [] [])) [.t 21]⟩,
      ⟨some 23, none, .pick (.t 20) (.c (.b true)) (.t 22)⟩]))
   (.cond (.t 23)
    (.reg [⟨some 24, none, .mki 9 (.c (.s [101, 114, 114, 111, 114, 115, 58, 32, 116, 97, 114, 103, 101, 116, 32, 109, 117, 115, 116, 32, 98, 101, 32, 97, 32, 110, 111, 110, 45, 110, 105, 108, 32, 112, 111, 105, 110, 116, 101, 114]))⟩,
      ⟨none, none, .pnc (.t 24)⟩])
    .skip))
  (.seq (.cut [0, 1, 5, 6] (.reg [⟨some 25, none, .mv (.t 6)⟩,
     ⟨some 26, none, .inv (.t 25) "Elem" []⟩,
     ⟨some 7, none, .mv (.t 26)⟩]))
  (.seq (.seq (.cut [0, 1, 5, 7] (.reg [⟨some 27, none, .mv (.t 7)⟩,
      ⟨some 28, none, .inv (.t 27) "Kind" []⟩,
      ⟨some 29, none, .bin .neq 68 (.t 28) (.c (.i .u8 20))⟩,
      ⟨some 30, none, .mv (.t 29)⟩,
      ⟨some 31, some (30, true), .mv (.t 7)⟩,
      ⟨some 32, some (30, true), .load 66 (.c (.p 0 0 0))⟩,
      ⟨some 33, some (30, true), .inv (.t 31) "Implements" [.t 32]⟩,
      ⟨some 34, some (30, true), .un .not (.t 33)⟩,
      ⟨some 35, none, .pick (.t 30) (.t 34) (.c (.b false))⟩]))
   (.cond (.t 35)
    (.reg [⟨some 36, none, .mki 9 (.c (.s [101, 114, 114, 111, 114, 115, 58, 32, 42, 116, 97, 114, 103, 101, 116, 32, 109, 117, 115, 116, 32, 98, 101, 32, 105, 110, 116, 101, 114, 102, 97, 99, 101, 32, 111, 114, 32, 105, 109, 112, 108, 101, 109, 101, 110, 116, 32, 101, 114, 114, 111, 114]))⟩,
      ⟨none, none, .pnc (.t 36)⟩])
    .skip))
  (.seq (.cut [0, 1, 5, 7] (.reg [⟨some 37, none, .mv (.t 0)⟩,
     ⟨some 38, none, .mv (.t 1)⟩,
     ⟨some 39, none, .load 63 (.t 5)⟩,
     ⟨some 40, none, .mv (.t 7)⟩,
     ⟨some 41, none, .call (.c (.fn (.func 28) [] [])) [.t 37, .t 38, .t 39, .t 40]⟩,
     ⟨some 4, none, .mv (.t 41)⟩]))
  .ret)))))))))
def F12 : AF := ⟨42, [.t 4], c12⟩
/-- fallow/fallowref23.Tokens -/
def c13L0 : AC :=
  (.seq (.seq (.cut [0, 3, 4, 5, 6] (.reg [⟨some 14, none, .mv (.t 6)⟩,
      ⟨some 15, none, .mv (.t 0)⟩,
      ⟨some 16, none, .len 9 (.t 15)⟩,
      ⟨some 17, none, .bin .lss 3 (.t 14) (.t 16)⟩]))
   (.cond (.t 17)
    .skip
    (.exit 0)))
  (.blk 1
   (.seq (.cut [0, 3, 4, 5, 6] (.reg [⟨some 18, none, .mv (.t 0)⟩,
      ⟨some 19, none, .mv (.t 6)⟩,
      ⟨some 20, none, .call (.c (.fn (.func 29) [] [])) [.t 18, .t 19]⟩,
      ⟨some 7, none, .mv (.t 20)⟩]))
   (.seq (.seq (.reg [⟨some 21, none, .mv (.t 7)⟩,
       ⟨some 22, none, .bin .gtr 3 (.t 21) (.c (.i .i64 0))⟩])
    (.cond (.t 22)
     (.seq (.seq (.cut [0, 3, 4, 5, 6, 7] (.reg [⟨some 23, none, .mv (.t 0)⟩,
         ⟨some 24, none, .mv (.t 6)⟩,
         ⟨some 25, none, .idx 9 (.t 23) (.t 24)⟩,
         ⟨some 26, none, .bin .eql 5 (.t 25) (.c (.i .u8 10))⟩]))
      (.cond (.t 26)
       (.cut [0, 3, 4, 5, 6, 7] (.reg [⟨some 27, none, .mv (.t 5)⟩,
         ⟨some 28, none, .bin .add 3 (.t 27) (.c (.i .i64 1))⟩,
         ⟨some 5, none, .mv (.t 28)⟩]))
       .skip))
     (.seq (.cut [0, 3, 4, 5, 6, 7] (.reg [⟨some 29, none, .mv (.t 6)⟩,
        ⟨some 30, none, .mv (.t 7)⟩,
        ⟨some 31, none, .bin .add 3 (.t 29) (.t 30)⟩,
        ⟨some 6, none, .mv (.t 31)⟩]))
     (.exit 1)))
     .skip))
   (.seq (.cut [0, 3, 4, 5, 6] (.reg [⟨some 33, none, .mv (.t 0)⟩,
      ⟨some 34, none, .mv (.t 6)⟩,
      ⟨some 35, none, .call (.c (.fn (.func 30) [] [])) [.t 33, .t 34]⟩,
      ⟨some 32, none, .mv (.t 35)⟩,
      ⟨some 36, none, .ext (.t 32) 0⟩,
      ⟨some 37, none, .ext (.t 32) 1⟩,
      ⟨some 8, none, .alloc 30⟩,
      ⟨none, none, .store 30 (.t 8) (.t 36)⟩,
      ⟨some 9, none, .mv (.t 37)⟩]))
   (.seq (.seq (.reg [⟨some 38, none, .mv (.t 9)⟩,
       ⟨some 39, none, .bin .neq 39 (.t 38) (.c (.i .i64 0))⟩])
    (.cond (.t 39)
     (.seq (.cut [3, 5, 9] (.reg [⟨some 40, none, .mv (.t 9)⟩,
        ⟨some 41, none, .mv (.t 5)⟩,
        ⟨some 42, none, .build 43 [(0, .t 40), (1, .t 41)]⟩,
        ⟨some 2, none, .mv (.c (.sl0))⟩,
        ⟨none, none, .store 43 (.t 3) (.t 42)⟩]))
     .ret)
     .skip))
   (.seq (.cut [0, 3, 4, 5, 6, 8] (.reg [⟨some 43, none, .mv (.t 5)⟩,
      ⟨some 44, none, .fad 30 (.t 8) 2⟩,
      ⟨none, none, .store 3 (.t 44) (.t 43)⟩]))
   (.seq (.cut [0, 3, 4, 5, 6, 8] (.reg [⟨some 45, none, .mv (.t 4)⟩,
      ⟨some 46, none, .load 30 (.t 8)⟩,
      ⟨some 47, none, .bsl 24 1 [(0, .t 46)]⟩,
      ⟨some 48, none, .app 24 false (.t 45) (.t 47)⟩,
      ⟨some 4, none, .mv (.t 48)⟩]))
   (.cut [0, 3, 4, 5, 6, 8] (.reg [⟨some 49, none, .mv (.t 6)⟩,
     ⟨some 50, none, .fad 30 (.t 8) 1⟩,
     ⟨some 51, none, .load 9 (.t 50)⟩,
     ⟨some 52, none, .len 9 (.t 51)⟩,
     ⟨some 53, none, .bin .add 3 (.t 49) (.t 52)⟩,
     ⟨some 6, none, .mv (.t 53)⟩]))))))))))
def c13 : AC :=
  (.seq (.reg [⟨some 2, none, .mv (.c (.sl0))⟩,
     ⟨some 3, none, .alloc 43⟩])
  (.seq (.seq (.cut [0, 3] (.reg [⟨some 10, none, .mv (.t 0)⟩,
      ⟨some 11, none, .len 9 (.t 10)⟩,
      ⟨some 12, none, .bin .gtr 3 (.t 11) (.c (.i .i64 32768))⟩]))
   (.cond (.t 12)
    (.seq (.cut [3] (.reg [⟨some 13, none, .build 43 [(0, .c (.i .i64 3)), (1, .c (.i .i64 0))]⟩,
       ⟨some 2, none, .mv (.c (.sl0))⟩,
       ⟨none, none, .store 43 (.t 3) (.t 13)⟩]))
    .ret)
    .skip))
  (.seq (.reg [⟨some 4, none, .mv (.c (.sl0))⟩])
  (.seq (.reg [⟨some 5, none, .mv (.c (.i .i64 0))⟩])
  (.seq (.seq (.reg [⟨some 6, none, .mv (.c (.i .i64 0))⟩])
   (.blk 0
    (.loop [0, 3, 4, 5, 6] c13L0)))
  (.seq (.cut [3, 4, 5] (.reg [⟨some 54, none, .mv (.t 4)⟩,
     ⟨some 55, none, .mv (.t 5)⟩,
     ⟨some 56, none, .build 30 [(0, .c (.i .i64 5)), (2, .t 55)]⟩,
     ⟨some 57, none, .bsl 24 1 [(0, .t 56)]⟩,
     ⟨some 58, none, .app 24 false (.t 54) (.t 57)⟩,
     ⟨some 59, none, .build 43 []⟩,
     ⟨some 2, none, .mv (.t 58)⟩,
     ⟨none, none, .store 43 (.t 3) (.t 59)⟩]))
  .ret))))))
def F13 : AF := ⟨60, [.t 2, .cell 3 43], c13⟩
/-- fallow/fallowref23.Same -/
def c14L0 : AC :=
  (.seq (.seq (.cut [0, 1, 5] (.reg [⟨some 11, none, .mv (.t 5)⟩,
      ⟨some 12, none, .mv (.t 0)⟩,
      ⟨some 13, none, .len 24 (.t 12)⟩,
      ⟨some 14, none, .bin .lss 3 (.t 11) (.t 13)⟩]))
   (.cond (.t 14)
    .skip
    (.exit 0)))
  (.seq (.blk 1
    (.seq (.cut [0, 1, 5] (.drw [(⟨some 17, none, .mv (.t 0)⟩, []),
       (⟨some 18, none, .mv (.t 5)⟩, []),
       (⟨some 19, none, .iad 24 (.t 17) (.t 18)⟩, []),
       (⟨some 20, none, .load 30 (.t 19)⟩, []),
       (⟨some 21, none, .mv (.t 1)⟩, []),
       (⟨some 22, none, .mv (.t 5)⟩, []),
       (⟨some 23, none, .iad 24 (.t 21) (.t 22)⟩, []),
       (⟨some 24, none, .load 30 (.t 23)⟩, []),
       (⟨some 25, none, .bin .neq 30 (.t 20) (.t 24)⟩, [])]))
    (.cond (.t 25)
     (.seq (.reg [⟨some 4, none, .mv (.c (.b false))⟩])
     .ret)
     .skip)))
  (.cut [0, 1, 5] (.reg [⟨some 15, none, .mv (.t 5)⟩,
    ⟨some 16, none, .bin .add 3 (.t 15) (.c (.i .i64 1))⟩,
    ⟨some 5, none, .mv (.t 16)⟩]))))
def c14 : AC :=
  (.seq (.reg [⟨some 4, none, .mv (.c (.b false))⟩])
  (.seq (.seq (.cut [0, 1] (.reg [⟨some 6, none, .mv (.t 0)⟩,
      ⟨some 7, none, .len 24 (.t 6)⟩,
      ⟨some 8, none, .mv (.t 1)⟩,
      ⟨some 9, none, .len 24 (.t 8)⟩,
      ⟨some 10, none, .bin .neq 3 (.t 7) (.t 9)⟩]))
   (.cond (.t 10)
    (.seq (.reg [⟨some 4, none, .mv (.c (.b false))⟩])
    .ret)
    .skip))
  (.seq (.seq (.reg [⟨some 5, none, .mv (.c (.i .i64 0))⟩])
   (.blk 0
    (.loop [0, 1, 5] c14L0)))
  (.seq (.reg [⟨some 4, none, .mv (.c (.b true))⟩])
  .ret))))
def F14 : AF := ⟨26, [.t 4], c14⟩
/-- fallow/fallowlaw23.fault -/
def c15 : AC :=
  (.seq (.reg [⟨some 3, none, .box 43 (.t 1)⟩,
     ⟨some 4, none, .mv (.c (.b false))⟩])
  (.seq (.seq (.cut [0, 3] (.reg [⟨some 6, none, .fad 43 (.t 3) 0⟩,
      ⟨some 7, none, .load 39 (.t 6)⟩,
      ⟨some 8, none, .bin .eql 39 (.t 7) (.c (.i .i64 0))⟩]))
   (.cond (.t 8)
    (.seq (.cut [0] (.reg [⟨some 9, none, .mv (.t 0)⟩,
       ⟨some 10, none, .bin .eql 26 (.t 9) (.c (.ic0))⟩,
       ⟨some 4, none, .mv (.t 10)⟩]))
    .ret)
    .skip))
  (.seq (.reg [⟨some 5, none, .alloc 36⟩])
  (.seq (.cut [0, 3, 5] (.drw [(⟨some 11, none, .mv (.t 0)⟩, []),
     (⟨some 12, none, .bin .neq 26 (.t 11) (.c (.ic0))⟩, []),
     (⟨some 13, none, .mv (.t 12)⟩, []),
     (⟨some 14, some (13, true), .mv (.t 0)⟩, []),
     (⟨some 15, some (13, true), .mki 38 (.t 5)⟩, []),
     (⟨some 16, some (13, true), .call (.c (.fn (.func 12) [] [])) [.t 14, .t 15]⟩, []),
     (⟨some 17, none, .pick (.t 13) (.t 16) (.c (.b false))⟩, []),
     (⟨some 18, none, .mv (.t 17)⟩, []),
     (⟨some 19, some (18, true), .load 36 (.t 5)⟩, []),
     (⟨some 20, some (18, true), .bin .neq 36 (.t 19) (.c (.p0))⟩, []),
     (⟨some 21, none, .pick (.t 18) (.t 20) (.c (.b false))⟩, []),
     (⟨some 22, none, .mv (.t 21)⟩, []),
     (⟨some 23, some (22, true), .load 36 (.t 5)⟩, []),
     (⟨some 24, some (22, true), .nilck (.t 23)⟩, []),
     (⟨some 25, some (22, true), .fad 41 (.t 24) 0⟩, []),
     (⟨some 26, some (22, true), .load 39 (.t 25)⟩, []),
     (⟨some 27, some (22, true), .fad 43 (.t 3) 0⟩, []),
     (⟨some 28, some (22, true), .load 39 (.t 27)⟩, []),
     (⟨some 29, some (22, true), .bin .eql 39 (.t 26) (.t 28)⟩, []),
     (⟨some 30, none, .pick (.t 22) (.t 29) (.c (.b false))⟩, []),
     (⟨some 31, none, .mv (.t 30)⟩, []),
     (⟨some 32, some (31, true), .load 36 (.t 5)⟩, []),
     (⟨some 33, some (31, true), .nilck (.t 32)⟩, []),
     (⟨some 34, some (31, true), .fad 41 (.t 33) 1⟩, []),
     (⟨some 35, some (31, true), .load 3 (.t 34)⟩, []),
     (⟨some 36, some (31, true), .fad 43 (.t 3) 1⟩, []),
     (⟨some 37, some (31, true), .load 3 (.t 36)⟩, []),
     (⟨some 38, some (31, true), .bin .eql 3 (.t 35) (.t 37)⟩, []),
     (⟨some 39, none, .pick (.t 31) (.t 38) (.c (.b false))⟩, []),
     (⟨some 40, none, .mv (.t 39)⟩, []),
     (⟨some 41, some (40, true), .mv (.t 0)⟩, []),
     (⟨some 42, some (40, true), .fad 43 (.t 3) 0⟩, []),
     (⟨some 43, some (40, true), .load 39 (.t 42)⟩, []),
     (⟨some 44, some (40, true), .mki 39 (.t 43)⟩, []),
     (⟨some 45, some (40, true), .call (.c (.fn (.func 31) [] [])) [.t 41, .t 44]⟩, []),
     (⟨some 46, none, .pick (.t 40) (.t 45) (.c (.b false))⟩, []),
     (⟨some 4, none, .mv (.t 46)⟩, [])]))
  .ret))))
def F15 : AF := ⟨47, [.t 4], c15⟩
/-- strings.Fields -/
def c16L0 : AC :=
  (.seq (.seq (.cut [0, 3, 4, 5, 6] (.reg [⟨some 13, none, .mv (.t 6)⟩,
      ⟨some 14, none, .mv (.t 0)⟩,
      ⟨some 15, none, .len 9 (.t 14)⟩,
      ⟨some 16, none, .bin .lss 3 (.t 13) (.t 15)⟩]))
   (.cond (.t 16)
    .skip
    (.exit 0)))
  (.seq (.blk 1
    (.seq (.cut [0, 3, 4, 5, 6] (.reg [⟨some 19, none, .mv (.t 0)⟩,
       ⟨some 20, none, .mv (.t 6)⟩,
       ⟨some 21, none, .idx 9 (.t 19) (.t 20)⟩,
       ⟨some 7, none, .mv (.t 21)⟩]))
    (.seq (.cut [0, 3, 4, 5, 6, 7] (.reg [⟨some 22, none, .mv (.t 5)⟩,
       ⟨some 23, none, .mv (.t 7)⟩,
       ⟨some 24, none, .bin .or 5 (.t 22) (.t 23)⟩,
       ⟨some 5, none, .mv (.t 24)⟩]))
    (.seq (.cut [0, 3, 4, 5, 6, 7] (.reg [⟨some 25, none, .mv (.t 7)⟩,
       ⟨some 26, none, .iad 76 (.c (.p 1 0 0)) (.t 25)⟩,
       ⟨some 27, none, .load 5 (.t 26)⟩,
       ⟨some 28, none, .conv 5 3 (.t 27)⟩,
       ⟨some 8, none, .mv (.t 28)⟩]))
    (.seq (.cut [0, 3, 4, 5, 6, 8] (.reg [⟨some 29, none, .mv (.t 3)⟩,
       ⟨some 30, none, .mv (.t 4)⟩,
       ⟨some 31, none, .mv (.t 8)⟩,
       ⟨some 32, none, .un .xor (.t 31)⟩,
       ⟨some 33, none, .bin .and 3 (.t 30) (.t 32)⟩,
       ⟨some 34, none, .bin .add 3 (.t 29) (.t 33)⟩,
       ⟨some 3, none, .mv (.t 34)⟩]))
    (.reg [⟨some 35, none, .mv (.t 8)⟩,
      ⟨some 4, none, .mv (.t 35)⟩]))))))
  (.cut [0, 3, 4, 5, 6] (.reg [⟨some 17, none, .mv (.t 6)⟩,
    ⟨some 18, none, .bin .add 3 (.t 17) (.c (.i .i64 1))⟩,
    ⟨some 6, none, .mv (.t 18)⟩]))))
def c16L1 : AC :=
  (.seq (.seq (.cut [0, 9, 10, 12] (.reg [⟨some 42, none, .mv (.t 12)⟩,
      ⟨some 43, none, .mv (.t 0)⟩,
      ⟨some 44, none, .len 9 (.t 43)⟩,
      ⟨some 45, none, .bin .lss 3 (.t 42) (.t 44)⟩,
      ⟨some 46, none, .mv (.t 45)⟩,
      ⟨some 47, some (46, true), .mv (.t 0)⟩,
      ⟨some 48, some (46, true), .mv (.t 12)⟩,
      ⟨some 49, some (46, true), .idx 9 (.t 47) (.t 48)⟩,
      ⟨some 50, some (46, true), .iad 76 (.c (.p 1 0 0)) (.t 49)⟩,
      ⟨some 51, some (46, true), .load 5 (.t 50)⟩,
      ⟨some 52, some (46, true), .bin .neq 5 (.t 51) (.c (.i .u8 0))⟩,
      ⟨some 53, none, .pick (.t 46) (.t 52) (.c (.b false))⟩]))
   (.cond (.t 53)
    .skip
    (.exit 2)))
  (.blk 3
   (.cut [0, 9, 10, 12] (.reg [⟨some 54, none, .mv (.t 12)⟩,
     ⟨some 55, none, .bin .add 3 (.t 54) (.c (.i .i64 1))⟩,
     ⟨some 12, none, .mv (.t 55)⟩]))))
def c16L2 : AC :=
  (.seq (.seq (.cut [0, 9, 10, 12] (.reg [⟨some 80, none, .mv (.t 12)⟩,
      ⟨some 81, none, .mv (.t 0)⟩,
      ⟨some 82, none, .len 9 (.t 81)⟩,
      ⟨some 83, none, .bin .lss 3 (.t 80) (.t 82)⟩,
      ⟨some 84, none, .mv (.t 83)⟩,
      ⟨some 85, some (84, true), .mv (.t 0)⟩,
      ⟨some 86, some (84, true), .mv (.t 12)⟩,
      ⟨some 87, some (84, true), .idx 9 (.t 85) (.t 86)⟩,
      ⟨some 88, some (84, true), .iad 76 (.c (.p 1 0 0)) (.t 87)⟩,
      ⟨some 89, some (84, true), .load 5 (.t 88)⟩,
      ⟨some 90, some (84, true), .bin .neq 5 (.t 89) (.c (.i .u8 0))⟩,
      ⟨some 91, none, .pick (.t 84) (.t 90) (.c (.b false))⟩]))
   (.cond (.t 91)
    .skip
    (.exit 6)))
  (.blk 7
   (.cut [0, 9, 10, 12] (.reg [⟨some 92, none, .mv (.t 12)⟩,
     ⟨some 93, none, .bin .add 3 (.t 92) (.c (.i .i64 1))⟩,
     ⟨some 12, none, .mv (.t 93)⟩]))))
def c16L3 : AC :=
  (.seq (.seq (.cut [0, 9, 10, 11, 12] (.reg [⟨some 57, none, .mv (.t 12)⟩,
      ⟨some 58, none, .mv (.t 0)⟩,
      ⟨some 59, none, .len 9 (.t 58)⟩,
      ⟨some 60, none, .bin .lss 3 (.t 57) (.t 59)⟩]))
   (.cond (.t 60)
    .skip
    (.exit 4)))
  (.blk 5
   (.seq (.seq (.cut [0, 9, 10, 11, 12] (.reg [⟨some 61, none, .mv (.t 0)⟩,
       ⟨some 62, none, .mv (.t 12)⟩,
       ⟨some 63, none, .idx 9 (.t 61) (.t 62)⟩,
       ⟨some 64, none, .iad 76 (.c (.p 1 0 0)) (.t 63)⟩,
       ⟨some 65, none, .load 5 (.t 64)⟩,
       ⟨some 66, none, .bin .eql 5 (.t 65) (.c (.i .u8 0))⟩]))
    (.cond (.t 66)
     (.seq (.cut [0, 9, 10, 11, 12] (.reg [⟨some 67, none, .mv (.t 12)⟩,
        ⟨some 68, none, .bin .add 3 (.t 67) (.c (.i .i64 1))⟩,
        ⟨some 12, none, .mv (.t 68)⟩]))
     (.exit 5))
     .skip))
   (.seq (.cut [0, 9, 10, 11, 12] (.reg [⟨some 69, none, .mv (.t 9)⟩,
      ⟨some 70, none, .mv (.t 10)⟩,
      ⟨some 71, none, .mv (.t 0)⟩,
      ⟨some 72, none, .mv (.t 11)⟩,
      ⟨some 73, none, .mv (.t 12)⟩,
      ⟨some 74, none, .slc 9 (.t 71) (some (.t 72)) (some (.t 73))⟩,
      ⟨some 75, none, .iad 22 (.t 69) (.t 70)⟩,
      ⟨none, none, .store 9 (.t 75) (.t 74)⟩]))
   (.seq (.cut [0, 9, 10, 12] (.reg [⟨some 76, none, .mv (.t 10)⟩,
      ⟨some 77, none, .bin .add 3 (.t 76) (.c (.i .i64 1))⟩,
      ⟨some 10, none, .mv (.t 77)⟩]))
   (.seq (.cut [0, 9, 10, 12] (.reg [⟨some 78, none, .mv (.t 12)⟩,
      ⟨some 79, none, .bin .add 3 (.t 78) (.c (.i .i64 1))⟩,
      ⟨some 12, none, .mv (.t 79)⟩]))
   (.seq (.blk 6
     (.loop [0, 9, 10, 12] c16L2))
   (.reg [⟨some 94, none, .mv (.t 12)⟩,
     ⟨some 11, none, .mv (.t 94)⟩]))))))))
def c16 : AC :=
  (.seq (.reg [⟨some 2, none, .mv (.c (.sl0))⟩])
  (.seq (.reg [⟨some 3, none, .mv (.c (.i .i64 0))⟩])
  (.seq (.reg [⟨some 4, none, .mv (.c (.i .i64 1))⟩])
  (.seq (.reg [⟨some 5, none, .mv (.c (.i .u8 0))⟩])
  (.seq (.seq (.reg [⟨some 6, none, .mv (.c (.i .i64 0))⟩])
   (.blk 0
    (.loop [0, 3, 4, 5, 6] c16L0)))
  (.seq (.seq (.reg [⟨some 36, none, .mv (.t 5)⟩,
      ⟨some 37, none, .bin .geq 5 (.t 36) (.c (.i .u8 128))⟩])
   (.cond (.t 37)
    (.seq (.cut [0] (.reg [⟨some 38, none, .mv (.t 0)⟩,
       ⟨some 39, none, .call (.c (.fn (.func 32) [] [])) [.t 38, .c (.fn (.func 33) [] [])]⟩,
       ⟨some 2, none, .mv (.t 39)⟩]))
    .ret)
    .skip))
  (.seq (.cut [0, 3] (.reg [⟨some 40, none, .mv (.t 3)⟩,
     ⟨some 41, none, .mks 22 (.t 40) (.t 40)⟩,
     ⟨some 9, none, .mv (.t 41)⟩]))
  (.seq (.reg [⟨some 10, none, .mv (.c (.i .i64 0))⟩])
  (.seq (.reg [⟨some 11, none, .mv (.c (.i .i64 0))⟩])
  (.seq (.reg [⟨some 12, none, .mv (.c (.i .i64 0))⟩])
  (.seq (.blk 2
    (.loop [0, 9, 10, 12] c16L1))
  (.seq (.reg [⟨some 56, none, .mv (.t 12)⟩,
     ⟨some 11, none, .mv (.t 56)⟩])
  (.seq (.blk 4
    (.loop [0, 9, 10, 11, 12] c16L3))
  (.seq (.seq (.cut [0, 9, 10, 11] (.reg [⟨some 95, none, .mv (.t 11)⟩,
      ⟨some 96, none, .mv (.t 0)⟩,
      ⟨some 97, none, .len 9 (.t 96)⟩,
      ⟨some 98, none, .bin .lss 3 (.t 95) (.t 97)⟩]))
   (.cond (.t 98)
    (.cut [0, 9, 10, 11] (.reg [⟨some 99, none, .mv (.t 9)⟩,
      ⟨some 100, none, .mv (.t 10)⟩,
      ⟨some 101, none, .mv (.t 0)⟩,
      ⟨some 102, none, .mv (.t 11)⟩,
      ⟨some 103, none, .slc 9 (.t 101) (some (.t 102)) none⟩,
      ⟨some 104, none, .iad 22 (.t 99) (.t 100)⟩,
      ⟨none, none, .store 9 (.t 104) (.t 103)⟩]))
    .skip))
  (.seq (.reg [⟨some 105, none, .mv (.t 9)⟩,
     ⟨some 2, none, .mv (.t 105)⟩])
  .ret)))))))))))))))
def F16 : AF := ⟨106, [.t 2], c16⟩
/-- fallow/lex.Tokens$1 -/
def c17 : AC :=
  (.seq (.cut [0, 1, 2, 3, 4] (.drw [(⟨some 7, none, .load 24 (.t 2)⟩, []),
     (⟨some 8, none, .mv (.t 0)⟩, []),
     (⟨some 9, none, .load 9 (.t 3)⟩, []),
     (⟨some 10, none, .mv (.t 1)⟩, []),
     (⟨some 11, none, .slc 9 (.t 9) none (some (.t 10))⟩, []),
     (⟨some 12, none, .load 3 (.t 4)⟩, []),
     (⟨some 13, none, .build 30 [(0, .t 8), (1, .t 11), (2, .t 12)]⟩, []),
     (⟨some 14, none, .bsl 24 1 [(0, .t 13)]⟩, [⟨some 7, none, .load 24 (.t 2)⟩]),
     (⟨some 15, none, .app 24 false (.t 7) (.t 14)⟩, []),
     (⟨none, none, .store 24 (.t 2) (.t 15)⟩, [])]))
  (.cut [1, 3] (.reg [⟨some 16, none, .load 9 (.t 3)⟩,
    ⟨some 17, none, .mv (.t 1)⟩,
    ⟨some 18, none, .slc 9 (.t 16) (some (.t 17)) none⟩,
    ⟨none, none, .store 9 (.t 3) (.t 18)⟩])))
def F17 : AF := ⟨19, [], c17⟩
/-- strings.HasPrefix -/
def c18 : AC :=
  (.seq (.reg [⟨some 4, none, .mv (.c (.b false))⟩])
  (.seq (.cut [0, 1] (.reg [⟨some 5, none, .mv (.t 0)⟩,
     ⟨some 6, none, .mv (.t 1)⟩,
     ⟨some 7, none, .call (.c (.fn (.func 34) [] [])) [.t 5, .t 6]⟩,
     ⟨some 4, none, .mv (.t 7)⟩]))
  .ret))
def F18 : AF := ⟨8, [.t 4], c18⟩
/-- strings.IndexByte -/
def c19 : AC :=
  (.seq (.reg [⟨some 4, none, .mv (.c (.i .i64 0))⟩])
  (.seq (.cut [0, 1] (.reg [⟨some 5, none, .mv (.t 0)⟩,
     ⟨some 6, none, .mv (.t 1)⟩,
     ⟨some 7, none, .call (.c (.fn (.func 35) [] [])) [.t 5, .t 6]⟩,
     ⟨some 4, none, .mv (.t 7)⟩]))
  .ret))
def F19 : AF := ⟨8, [.t 4], c19⟩
/-- fallow/lex.of -/
def c20 : AC :=
  (.seq (.reg [⟨some 2, none, .mv (.c (.i .i64 0))⟩])
  (.seq (.blk 0
    (.seq (.cut [0] (.reg [⟨some 4, none, .mv (.t 0)⟩,
       ⟨some 5, none, .bin .eql 21 (.t 4) (.c (.i .i32 32))⟩,
       ⟨some 6, none, .mv (.t 5)⟩,
       ⟨some 7, some (6, false), .mv (.t 0)⟩,
       ⟨some 8, some (6, false), .bin .eql 21 (.t 7) (.c (.i .i32 9))⟩,
       ⟨some 9, none, .pick (.t 6) (.c (.b true)) (.t 8)⟩,
       ⟨some 10, none, .mv (.t 9)⟩,
       ⟨some 11, some (10, false), .mv (.t 0)⟩,
       ⟨some 12, some (10, false), .bin .eql 21 (.t 11) (.c (.i .i32 13))⟩,
       ⟨some 13, none, .pick (.t 10) (.c (.b true)) (.t 12)⟩,
       ⟨some 14, none, .mv (.t 13)⟩,
       ⟨some 15, some (14, false), .mv (.t 0)⟩,
       ⟨some 16, some (14, false), .bin .eql 21 (.t 15) (.c (.i .i32 10))⟩,
       ⟨some 17, none, .pick (.t 14) (.c (.b true)) (.t 16)⟩,
       ⟨some 3, none, .mv (.t 17)⟩]))
    (.cond (.t 3)
     (.seq (.reg [⟨some 2, none, .mv (.c (.i .i64 1))⟩])
     .ret)
     (.seq (.cut [0] (.reg [⟨some 19, none, .mv (.t 0)⟩,
        ⟨some 20, none, .bin .geq 21 (.t 19) (.c (.i .i32 97))⟩,
        ⟨some 21, none, .mv (.t 20)⟩,
        ⟨some 22, some (21, true), .mv (.t 0)⟩,
        ⟨some 23, some (21, true), .bin .leq 21 (.t 22) (.c (.i .i32 122))⟩,
        ⟨some 24, none, .pick (.t 21) (.t 23) (.c (.b false))⟩,
        ⟨some 25, none, .mv (.t 24)⟩,
        ⟨some 26, some (25, false), .mv (.t 0)⟩,
        ⟨some 27, some (25, false), .bin .geq 21 (.t 26) (.c (.i .i32 65))⟩,
        ⟨some 28, some (25, false), .mv (.t 27)⟩,
        ⟨some 29, some (28, true), .mv (.t 0)⟩,
        ⟨some 30, some (28, true), .bin .leq 21 (.t 29) (.c (.i .i32 90))⟩,
        ⟨some 31, some (25, false), .pick (.t 28) (.t 30) (.c (.b false))⟩,
        ⟨some 32, none, .pick (.t 25) (.c (.b true)) (.t 31)⟩,
        ⟨some 33, none, .mv (.t 32)⟩,
        ⟨some 34, some (33, false), .mv (.t 0)⟩,
        ⟨some 35, some (33, false), .bin .eql 21 (.t 34) (.c (.i .i32 95))⟩,
        ⟨some 36, none, .pick (.t 33) (.c (.b true)) (.t 35)⟩,
        ⟨some 18, none, .mv (.t 36)⟩]))
     (.cond (.t 18)
      (.seq (.reg [⟨some 2, none, .mv (.c (.i .i64 2))⟩])
      .ret)
      (.seq (.cut [0] (.reg [⟨some 38, none, .mv (.t 0)⟩,
         ⟨some 39, none, .bin .geq 21 (.t 38) (.c (.i .i32 48))⟩,
         ⟨some 40, none, .mv (.t 39)⟩,
         ⟨some 41, some (40, true), .mv (.t 0)⟩,
         ⟨some 42, some (40, true), .bin .leq 21 (.t 41) (.c (.i .i32 57))⟩,
         ⟨some 43, none, .pick (.t 40) (.t 42) (.c (.b false))⟩,
         ⟨some 37, none, .mv (.t 43)⟩]))
      (.cond (.t 37)
       (.seq (.reg [⟨some 2, none, .mv (.c (.i .i64 3))⟩])
       .ret)
       (.seq (.cut [0] (.reg [⟨some 45, none, .mv (.t 0)⟩,
          ⟨some 46, none, .conv 21 5 (.t 45)⟩,
          ⟨some 47, none, .call (.c (.fn (.func 19) [] [])) [.c (.s [40, 41, 123, 125, 91, 93, 44, 59, 58, 61, 60, 62, 43, 45, 124, 94, 38, 42, 47, 37, 33]), .t 46]⟩,
          ⟨some 48, none, .bin .geq 3 (.t 47) (.c (.i .i64 0))⟩,
          ⟨some 49, none, .mv (.t 48)⟩,
          ⟨some 50, some (49, true), .mv (.t 0)⟩,
          ⟨some 51, some (49, true), .bin .lss 21 (.t 50) (.c (.i .i32 128))⟩,
          ⟨some 52, none, .pick (.t 49) (.t 51) (.c (.b false))⟩,
          ⟨some 44, none, .mv (.t 52)⟩]))
       (.cond (.t 44)
        (.seq (.reg [⟨some 2, none, .mv (.c (.i .i64 4))⟩])
        .ret)
        .skip)))))))))
  (.seq (.reg [⟨some 2, none, .mv (.c (.i .i64 0))⟩])
  .ret)))
def F20 : AF := ⟨53, [.t 2], c20⟩
/-- fallow/lex.long -/
def c21L0 : AC :=
  (.seq (.reg [⟨some 9, none, .nxt (.t 8)⟩,
     ⟨some 10, none, .ext (.t 9) 0⟩])
  (.seq (.cond (.t 10)
    .skip
    (.exit 0))
  (.blk 1
   (.seq (.cut [0, 1, 8, 9] (.reg [⟨some 11, none, .ext (.t 9) 1⟩,
      ⟨some 12, none, .ext (.t 9) 2⟩,
      ⟨some 5, none, .mv (.t 11)⟩,
      ⟨some 6, none, .mv (.t 12)⟩]))
   (.seq (.cut [0, 1, 5, 6, 8] (.reg [⟨some 13, none, .mv (.t 1)⟩,
      ⟨some 14, none, .mv (.t 6)⟩,
      ⟨some 15, none, .call (.c (.fn (.func 20) [] [])) [.t 14]⟩,
      ⟨some 16, none, .call (.c (.fn (.func 36) [] [])) [.t 13, .t 15]⟩,
      ⟨some 17, none, .un .not (.t 16)⟩]))
   (.cond (.t 17)
    (.seq (.reg [⟨some 18, none, .mv (.t 5)⟩,
       ⟨some 4, none, .mv (.t 18)⟩])
    .ret)
    .skip))))))
def c21 : AC :=
  (.seq (.reg [⟨some 4, none, .mv (.c (.i .i64 0))⟩])
  (.seq (.seq (.reg [⟨some 7, none, .mv (.t 0)⟩,
      ⟨some 8, none, .rng 9 (.t 7)⟩])
   (.blk 0
    (.loop [0, 1, 8] c21L0)))
  (.seq (.cut [0] (.reg [⟨some 19, none, .mv (.t 0)⟩,
     ⟨some 20, none, .len 9 (.t 19)⟩,
     ⟨some 4, none, .mv (.t 20)⟩]))
  .ret)))
def F21 : AF := ⟨21, [.t 4], c21⟩
/-- slices.Contains[[]string,string] -/
def c22 : AC :=
  (.seq (.reg [⟨some 4, none, .mv (.c (.b false))⟩])
  (.seq (.cut [0, 1] (.reg [⟨some 5, none, .mv (.t 0)⟩,
     ⟨some 6, none, .mv (.t 1)⟩,
     ⟨some 7, none, .call (.c (.fn (.func 37) [] [])) [.t 5, .t 6]⟩,
     ⟨some 8, none, .bin .geq 3 (.t 7) (.c (.i .i64 0))⟩,
     ⟨some 4, none, .mv (.t 8)⟩]))
  .ret))
def F22 : AF := ⟨9, [.t 4], c22⟩
/-- strconv.ParseUint -/
def c23 : AC :=
  (.seq (.reg [⟨some 6, none, .mv (.c (.i .u64 0))⟩,
     ⟨some 7, none, .mv (.c (.ic0))⟩])
  (.seq (.cut [0, 1, 2] (.reg [⟨some 11, none, .mv (.t 0)⟩,
     ⟨some 12, none, .mv (.t 1)⟩,
     ⟨some 13, none, .mv (.t 2)⟩,
     ⟨some 14, none, .call (.c (.fn (.func 38) [] [])) [.t 11, .t 12, .t 13]⟩,
     ⟨some 10, none, .mv (.t 14)⟩,
     ⟨some 15, none, .ext (.t 10) 0⟩,
     ⟨some 16, none, .ext (.t 10) 1⟩,
     ⟨some 8, none, .mv (.t 15)⟩,
     ⟨some 9, none, .mv (.t 16)⟩]))
  (.seq (.seq (.reg [⟨some 17, none, .mv (.t 9)⟩,
      ⟨some 18, none, .bin .neq 26 (.t 17) (.c (.ic0))⟩])
   (.cond (.t 18)
    (.seq (.cut [0, 1, 2, 8, 9] (.reg [⟨some 19, none, .mv (.t 8)⟩,
       ⟨some 20, none, .mv (.t 0)⟩,
       ⟨some 21, none, .mv (.t 1)⟩,
       ⟨some 22, none, .mv (.t 2)⟩,
       ⟨some 23, none, .mv (.t 9)⟩,
       ⟨some 24, none, .call (.c (.fn (.func 39) [] [])) [.c (.s [80, 97, 114, 115, 101, 85, 105, 110, 116]), .t 20, .t 21, .t 22, .t 23]⟩,
       ⟨some 6, none, .mv (.t 19)⟩,
       ⟨some 7, none, .mv (.t 24)⟩]))
    .ret)
    .skip))
  (.seq (.cut [8] (.reg [⟨some 25, none, .mv (.t 8)⟩,
     ⟨some 6, none, .mv (.t 25)⟩,
     ⟨some 7, none, .mv (.c (.ic0))⟩]))
  .ret))))
def F23 : AF := ⟨26, [.t 6, .t 7], c23⟩
/-- fallow/lex.two -/
def c24 : AC :=
  (.seq (.reg [⟨some 2, none, .mv (.c (.b false))⟩])
  (.seq (.cut [0] (.drw [(⟨some 3, none, .mv (.t 0)⟩, []),
     (⟨some 4, none, .len 9 (.t 3)⟩, []),
     (⟨some 5, none, .bin .geq 3 (.t 4) (.c (.i .i64 2))⟩, []),
     (⟨some 6, none, .mv (.t 5)⟩, []),
     (⟨some 8, some (6, true), .mv (.t 0)⟩, []),
     (⟨some 9, some (6, true), .slc 9 (.t 8) none (some (.c (.i .i64 2)))⟩, []),
     (⟨some 7, some (6, true), .call (.c (.fn (.func 16) [] [])) [.c (.s [124, 124, 32, 38, 38, 32, 61, 61, 32, 33, 61, 32, 60, 61, 32, 62, 61, 32, 60, 60, 32, 62, 62])]⟩, [⟨some 9, some (6, true), .slc 9 (.t 8) none (some (.c (.i .i64 2)))⟩]),
     (⟨some 10, some (6, true), .call (.c (.fn (.func 22) [] [])) [.t 7, .t 9]⟩, []),
     (⟨some 11, none, .pick (.t 6) (.t 10) (.c (.b false))⟩, []),
     (⟨some 2, none, .mv (.t 11)⟩, [])]))
  .ret))
def F24 : AF := ⟨12, [.t 2], c24⟩
/-- errors.as -/
def c28L0 : AC :=
  (.seq (.reg [⟨some 51, none, .bin .lss 3 (.t 50) (.t 49)⟩])
  (.seq (.cond (.t 51)
    .skip
    (.exit 3))
  (.seq (.blk 4
    (.seq (.cut [1, 3, 6, 48, 49, 50] (.reg [⟨some 52, none, .iad 95 (.t 48) (.t 50)⟩,
       ⟨some 53, none, .load 26 (.t 52)⟩,
       ⟨some 14, none, .mv (.t 53)⟩]))
    (.seq (.seq (.reg [⟨some 54, none, .mv (.t 14)⟩,
        ⟨some 55, none, .bin .eql 26 (.t 54) (.c (.ic0))⟩])
     (.cond (.t 55)
      (.exit 4)
      .skip))
    (.seq (.cut [1, 3, 6, 14, 48, 49, 50] (.reg [⟨some 56, none, .mv (.t 14)⟩,
       ⟨some 57, none, .mv (.t 1)⟩,
       ⟨some 58, none, .load 63 (.t 6)⟩,
       ⟨some 59, none, .mv (.t 3)⟩,
       ⟨some 60, none, .call (.c (.fn (.func 28) [] [])) [.t 56, .t 57, .t 58, .t 59]⟩]))
    (.cond (.t 60)
     (.seq (.reg [⟨some 8, none, .mv (.c (.b true))⟩])
     .ret)
     .skip)))))
  (.reg [⟨some 61, none, .bin .add 3 (.t 50) (.c (.i .i64 1))⟩,
    ⟨some 50, none, .mv (.t 61)⟩]))))
def c28L1 : AC :=
  (.blk 1
   (.seq (.seq (.cut [0, 1, 3, 6] (.reg [⟨some 16, none, .mv (.t 0)⟩,
       ⟨some 17, none, .call (.c (.fn (.func 40) [] [])) [.t 16]⟩,
       ⟨some 18, none, .mv (.t 3)⟩,
       ⟨some 19, none, .inv (.t 17) "AssignableTo" [.t 18]⟩]))
    (.cond (.t 19)
     (.seq (.cut [0, 6] (.reg [⟨some 20, none, .load 63 (.t 6)⟩,
        ⟨some 21, none, .call (.c (.fn (.func 41) [] [])) [.t 20]⟩,
        ⟨some 22, none, .mv (.t 0)⟩,
        ⟨some 23, none, .call (.c (.fn (.func 25) [] [])) [.t 22]⟩,
        ⟨some 24, none, .call (.c (.fn (.func 42) [] [])) [.t 21, .t 23]⟩]))
     (.seq (.reg [⟨some 8, none, .mv (.c (.b true))⟩])
     .ret))
     .skip))
   (.seq (.seq (.cut [0, 1, 3, 6] (.reg [⟨some 26, none, .mv (.t 0)⟩,
       ⟨some 27, none, .tas (.t 26) 26 89 true⟩,
       ⟨some 25, none, .mv (.t 27)⟩,
       ⟨some 28, none, .ext (.t 25) 0⟩,
       ⟨some 29, none, .ext (.t 25) 1⟩,
       ⟨some 9, none, .mv (.t 28)⟩,
       ⟨some 10, none, .mv (.t 29)⟩]))
    (.seq (.cut [0, 1, 3, 6, 9, 10] (.reg [⟨some 30, none, .mv (.t 10)⟩,
       ⟨some 31, none, .mv (.t 30)⟩,
       ⟨some 32, some (31, true), .mv (.t 9)⟩,
       ⟨some 33, some (31, true), .mv (.t 1)⟩,
       ⟨some 34, some (31, true), .inv (.t 32) "As" [.t 33]⟩,
       ⟨some 35, none, .pick (.t 31) (.t 34) (.c (.b false))⟩]))
    (.cond (.t 35)
     (.seq (.reg [⟨some 8, none, .mv (.c (.b true))⟩])
     .ret)
     .skip)))
   (.seq (.reg [⟨some 36, none, .mv (.t 0)⟩])
   (.blk 2
    (.seq (.cut [1, 3, 6, 36] (.reg [⟨some 37, none, .tas (.t 36) 26 92 true⟩,
       ⟨some 38, none, .ext (.t 37) 1⟩,
       ⟨some 39, none, .ext (.t 37) 0⟩]))
    (.cond (.t 38)
     (.seq (.reg [⟨some 11, none, .mv (.t 39)⟩])
     (.seq (.cut [1, 3, 6, 11] (.reg [⟨some 40, none, .mv (.t 11)⟩,
        ⟨some 41, none, .inv (.t 40) "Unwrap" []⟩,
        ⟨some 0, none, .mv (.t 41)⟩]))
     (.seq (.reg [⟨some 42, none, .mv (.t 0)⟩,
        ⟨some 43, none, .bin .eql 26 (.t 42) (.c (.ic0))⟩])
     (.cond (.t 43)
      (.seq (.reg [⟨some 8, none, .mv (.c (.b false))⟩])
      .ret)
      .skip))))
     (.seq (.cut [1, 3, 6, 36] (.reg [⟨some 44, none, .tas (.t 36) 26 94 true⟩,
        ⟨some 45, none, .ext (.t 44) 1⟩,
        ⟨some 46, none, .ext (.t 44) 0⟩]))
     (.cond (.t 45)
      (.seq (.reg [⟨some 12, none, .mv (.t 46)⟩])
      (.seq (.seq (.cut [1, 3, 6, 12] (.reg [⟨some 47, none, .mv (.t 12)⟩,
          ⟨some 48, none, .inv (.t 47) "Unwrap" []⟩,
          ⟨some 49, none, .len 95 (.t 48)⟩,
          ⟨some 50, none, .mv (.c (.i .i64 0))⟩]))
       (.blk 3
        (.loop [1, 3, 6, 48, 49, 50] c28L0)))
      (.seq (.reg [⟨some 8, none, .mv (.c (.b false))⟩])
      .ret)))
      (.seq (.reg [⟨some 15, none, .mv (.t 36)⟩])
      (.seq (.reg [⟨some 8, none, .mv (.c (.b false))⟩])
      .ret)))))))))))
def c28 : AC :=
  (.seq (.reg [⟨some 6, none, .box 63 (.t 2)⟩,
     ⟨some 8, none, .mv (.c (.b false))⟩])
  (.blk 0
   (.loop [0, 1, 3, 6] c28L1)))
def F28 : AF := ⟨62, [.t 8], c28⟩
/-- fallow/fallowref23.blank -/
def c29L0 : AC :=
  (.seq (.seq (.cut [0, 1, 6] (.reg [⟨some 28, none, .mv (.t 1)⟩,
      ⟨some 29, none, .mv (.t 6)⟩,
      ⟨some 30, none, .bin .add 3 (.t 28) (.t 29)⟩,
      ⟨some 31, none, .mv (.t 0)⟩,
      ⟨some 32, none, .len 9 (.t 31)⟩,
      ⟨some 33, none, .bin .lss 3 (.t 30) (.t 32)⟩,
      ⟨some 34, none, .mv (.t 33)⟩,
      ⟨some 35, some (34, true), .mv (.t 0)⟩,
      ⟨some 36, some (34, true), .mv (.t 1)⟩,
      ⟨some 37, some (34, true), .mv (.t 6)⟩,
      ⟨some 38, some (34, true), .bin .add 3 (.t 36) (.t 37)⟩,
      ⟨some 39, some (34, true), .idx 9 (.t 35) (.t 38)⟩,
      ⟨some 40, some (34, true), .bin .neq 5 (.t 39) (.c (.i .u8 10))⟩,
      ⟨some 41, none, .pick (.t 34) (.t 40) (.c (.b false))⟩]))
   (.cond (.t 41)
    .skip
    (.exit 0)))
  (.blk 1
   (.cut [0, 1, 6] (.reg [⟨some 42, none, .mv (.t 6)⟩,
     ⟨some 43, none, .bin .add 3 (.t 42) (.c (.i .i64 1))⟩,
     ⟨some 6, none, .mv (.t 43)⟩]))))
def c29 : AC :=
  (.seq (.reg [⟨some 4, none, .mv (.c (.i .i64 0))⟩])
  (.seq (.cut [0, 1] (.reg [⟨some 7, none, .mv (.t 0)⟩,
     ⟨some 8, none, .mv (.t 1)⟩,
     ⟨some 9, none, .idx 9 (.t 7) (.t 8)⟩,
     ⟨some 5, none, .mv (.t 9)⟩]))
  (.seq (.seq (.cut [0, 1, 5] (.reg [⟨some 10, none, .mv (.t 5)⟩,
      ⟨some 11, none, .bin .eql 5 (.t 10) (.c (.i .u8 32))⟩,
      ⟨some 12, none, .mv (.t 11)⟩,
      ⟨some 13, some (12, false), .mv (.t 5)⟩,
      ⟨some 14, some (12, false), .bin .eql 5 (.t 13) (.c (.i .u8 9))⟩,
      ⟨some 15, none, .pick (.t 12) (.c (.b true)) (.t 14)⟩,
      ⟨some 16, none, .mv (.t 15)⟩,
      ⟨some 17, some (16, false), .mv (.t 5)⟩,
      ⟨some 18, some (16, false), .bin .eql 5 (.t 17) (.c (.i .u8 13))⟩,
      ⟨some 19, none, .pick (.t 16) (.c (.b true)) (.t 18)⟩,
      ⟨some 20, none, .mv (.t 19)⟩,
      ⟨some 21, some (20, false), .mv (.t 5)⟩,
      ⟨some 22, some (20, false), .bin .eql 5 (.t 21) (.c (.i .u8 10))⟩,
      ⟨some 23, none, .pick (.t 20) (.c (.b true)) (.t 22)⟩]))
   (.cond (.t 23)
    (.seq (.reg [⟨some 4, none, .mv (.c (.i .i64 1))⟩])
    .ret)
    .skip))
  (.seq (.seq (.cut [0, 1] (.reg [⟨some 24, none, .mv (.t 0)⟩,
      ⟨some 25, none, .mv (.t 1)⟩,
      ⟨some 26, none, .call (.c (.fn (.func 43) [] [])) [.t 24, .t 25, .c (.s [47, 47])]⟩,
      ⟨some 27, none, .un .not (.t 26)⟩]))
   (.cond (.t 27)
    (.seq (.reg [⟨some 4, none, .mv (.c (.i .i64 0))⟩])
    .ret)
    .skip))
  (.seq (.reg [⟨some 6, none, .mv (.c (.i .i64 0))⟩])
  (.seq (.blk 0
    (.loop [0, 1, 6] c29L0))
  (.seq (.reg [⟨some 44, none, .mv (.t 6)⟩,
     ⟨some 4, none, .mv (.t 44)⟩])
  .ret)))))))
def F29 : AF := ⟨45, [.t 4], c29⟩
/-- fallow/fallowref23.word -/
def c30L0 : AC :=
  (.seq (.seq (.cut [0, 1, 4, 7] (.reg [⟨some 17, none, .mv (.t 1)⟩,
      ⟨some 18, none, .mv (.t 7)⟩,
      ⟨some 19, none, .bin .add 3 (.t 17) (.t 18)⟩,
      ⟨some 20, none, .mv (.t 0)⟩,
      ⟨some 21, none, .len 9 (.t 20)⟩,
      ⟨some 22, none, .bin .lss 3 (.t 19) (.t 21)⟩,
      ⟨some 23, none, .mv (.t 22)⟩,
      ⟨some 24, some (23, true), .mv (.t 0)⟩,
      ⟨some 25, some (23, true), .mv (.t 1)⟩,
      ⟨some 26, some (23, true), .mv (.t 7)⟩,
      ⟨some 27, some (23, true), .bin .add 3 (.t 25) (.t 26)⟩,
      ⟨some 28, some (23, true), .idx 9 (.t 24) (.t 27)⟩,
      ⟨some 29, some (23, true), .call (.c (.fn (.func 44) [] [])) [.t 28]⟩,
      ⟨some 30, some (23, true), .mv (.t 29)⟩,
      ⟨some 31, some (30, false), .mv (.t 0)⟩,
      ⟨some 32, some (30, false), .mv (.t 1)⟩,
      ⟨some 33, some (30, false), .mv (.t 7)⟩,
      ⟨some 34, some (30, false), .bin .add 3 (.t 32) (.t 33)⟩,
      ⟨some 35, some (30, false), .idx 9 (.t 31) (.t 34)⟩,
      ⟨some 36, some (30, false), .call (.c (.fn (.func 45) [] [])) [.t 35]⟩,
      ⟨some 37, some (23, true), .pick (.t 30) (.c (.b true)) (.t 36)⟩,
      ⟨some 38, none, .pick (.t 23) (.t 37) (.c (.b false))⟩]))
   (.cond (.t 38)
    .skip
    (.exit 0)))
  (.blk 1
   (.cut [0, 1, 4, 7] (.reg [⟨some 39, none, .mv (.t 7)⟩,
     ⟨some 40, none, .bin .add 3 (.t 39) (.c (.i .i64 1))⟩,
     ⟨some 7, none, .mv (.t 40)⟩]))))
def c30L1 : AC :=
  (.seq (.seq (.cut [0, 1, 4, 6, 7] (.reg [⟨some 58, none, .mv (.t 1)⟩,
      ⟨some 59, none, .mv (.t 7)⟩,
      ⟨some 60, none, .bin .add 3 (.t 58) (.t 59)⟩,
      ⟨some 61, none, .mv (.t 0)⟩,
      ⟨some 62, none, .len 9 (.t 61)⟩,
      ⟨some 63, none, .bin .lss 3 (.t 60) (.t 62)⟩,
      ⟨some 64, none, .mv (.t 63)⟩,
      ⟨some 65, some (64, true), .mv (.t 0)⟩,
      ⟨some 66, some (64, true), .mv (.t 1)⟩,
      ⟨some 67, some (64, true), .mv (.t 7)⟩,
      ⟨some 68, some (64, true), .bin .add 3 (.t 66) (.t 67)⟩,
      ⟨some 69, some (64, true), .idx 9 (.t 65) (.t 68)⟩,
      ⟨some 70, some (64, true), .call (.c (.fn (.func 45) [] [])) [.t 69]⟩,
      ⟨some 71, none, .pick (.t 64) (.t 70) (.c (.b false))⟩]))
   (.cond (.t 71)
    .skip
    (.exit 2)))
  (.blk 3
   (.cut [0, 1, 4, 6, 7] (.reg [⟨some 72, none, .mv (.t 7)⟩,
     ⟨some 73, none, .bin .add 3 (.t 72) (.c (.i .i64 1))⟩,
     ⟨some 7, none, .mv (.t 73)⟩]))))
def c30L2 : AC :=
  (.seq (.seq (.cut [0, 1, 4, 10, 11] (.reg [⟨some 110, none, .mv (.t 11)⟩,
      ⟨some 111, none, .mv (.t 10)⟩,
      ⟨some 112, none, .len 22 (.t 111)⟩,
      ⟨some 113, none, .bin .lss 3 (.t 110) (.t 112)⟩]))
   (.cond (.t 113)
    .skip
    (.exit 4)))
  (.seq (.blk 5
    (.seq (.cut [0, 1, 4, 10, 11] (.reg [⟨some 116, none, .mv (.t 0)⟩,
       ⟨some 117, none, .mv (.t 1)⟩,
       ⟨some 118, none, .mv (.t 10)⟩,
       ⟨some 119, none, .mv (.t 11)⟩,
       ⟨some 120, none, .iad 22 (.t 118) (.t 119)⟩,
       ⟨some 121, none, .load 9 (.t 120)⟩,
       ⟨some 122, none, .call (.c (.fn (.func 43) [] [])) [.t 116, .t 117, .t 121]⟩]))
    (.cond (.t 122)
     (.seq (.cut [4, 10, 11] (.reg [⟨some 123, none, .mv (.t 10)⟩,
        ⟨some 124, none, .mv (.t 11)⟩,
        ⟨some 125, none, .iad 22 (.t 123) (.t 124)⟩,
        ⟨some 126, none, .load 9 (.t 125)⟩,
        ⟨some 127, none, .build 30 [(0, .c (.i .i64 3)), (1, .t 126)]⟩,
        ⟨none, none, .store 30 (.t 4) (.t 127)⟩,
        ⟨some 5, none, .mv (.c (.i .i64 0))⟩]))
     .ret)
     .skip)))
  (.cut [0, 1, 4, 10, 11] (.reg [⟨some 114, none, .mv (.t 11)⟩,
    ⟨some 115, none, .bin .add 3 (.t 114) (.c (.i .i64 1))⟩,
    ⟨some 11, none, .mv (.t 115)⟩]))))
def c30 : AC :=
  (.seq (.reg [⟨some 4, none, .alloc 30⟩,
     ⟨some 5, none, .mv (.c (.i .i64 0))⟩])
  (.seq (.cut [0, 1, 4] (.reg [⟨some 12, none, .mv (.t 0)⟩,
     ⟨some 13, none, .mv (.t 1)⟩,
     ⟨some 14, none, .idx 9 (.t 12) (.t 13)⟩,
     ⟨some 6, none, .mv (.t 14)⟩]))
  (.seq (.reg [⟨some 7, none, .mv (.c (.i .i64 0))⟩])
  (.seq (.seq (.reg [⟨some 15, none, .mv (.t 6)⟩,
      ⟨some 16, none, .call (.c (.fn (.func 44) [] [])) [.t 15]⟩])
   (.cond (.t 16)
    (.seq (.blk 0
      (.loop [0, 1, 4, 7] c30L0))
    (.seq (.cut [0, 1, 4, 7] (.reg [⟨some 41, none, .mv (.t 0)⟩,
       ⟨some 42, none, .mv (.t 1)⟩,
       ⟨some 43, none, .mv (.t 1)⟩,
       ⟨some 44, none, .mv (.t 7)⟩,
       ⟨some 45, none, .bin .add 3 (.t 43) (.t 44)⟩,
       ⟨some 46, none, .slc 9 (.t 41) (some (.t 42)) (some (.t 45))⟩,
       ⟨some 8, none, .mv (.t 46)⟩]))
    (.seq (.seq (.reg [⟨some 47, none, .mv (.t 7)⟩,
        ⟨some 48, none, .bin .gtr 3 (.t 47) (.c (.i .i64 32))⟩])
     (.cond (.t 48)
      (.seq (.cut [4] (.reg [⟨some 49, none, .build 30 []⟩,
         ⟨none, none, .store 30 (.t 4) (.t 49)⟩,
         ⟨some 5, none, .mv (.c (.i .i64 9))⟩]))
      .ret)
      .skip))
    (.seq (.seq (.reg [⟨some 50, none, .mv (.t 8)⟩,
        ⟨some 51, none, .call (.c (.fn (.func 46) [] [])) [.t 50]⟩])
     (.cond (.t 51)
      (.seq (.cut [4, 8] (.reg [⟨some 52, none, .mv (.t 8)⟩,
         ⟨some 53, none, .build 30 [(0, .c (.i .i64 4)), (1, .t 52)]⟩,
         ⟨none, none, .store 30 (.t 4) (.t 53)⟩,
         ⟨some 5, none, .mv (.c (.i .i64 0))⟩]))
      .ret)
      .skip))
    (.seq (.cut [4, 8] (.reg [⟨some 54, none, .mv (.t 8)⟩,
       ⟨some 55, none, .build 30 [(0, .c (.i .i64 1)), (1, .t 54)]⟩,
       ⟨none, none, .store 30 (.t 4) (.t 55)⟩,
       ⟨some 5, none, .mv (.c (.i .i64 0))⟩]))
    .ret)))))
    .skip))
  (.seq (.seq (.reg [⟨some 56, none, .mv (.t 6)⟩,
      ⟨some 57, none, .call (.c (.fn (.func 45) [] [])) [.t 56]⟩])
   (.cond (.t 57)
    (.seq (.blk 2
      (.loop [0, 1, 4, 6, 7] c30L1))
    (.seq (.cut [0, 1, 4, 6, 7] (.reg [⟨some 74, none, .mv (.t 0)⟩,
       ⟨some 75, none, .mv (.t 1)⟩,
       ⟨some 76, none, .mv (.t 1)⟩,
       ⟨some 77, none, .mv (.t 7)⟩,
       ⟨some 78, none, .bin .add 3 (.t 76) (.t 77)⟩,
       ⟨some 79, none, .slc 9 (.t 74) (some (.t 75)) (some (.t 78))⟩,
       ⟨some 9, none, .mv (.t 79)⟩]))
    (.seq (.seq (.cut [0, 1, 4, 6, 7, 9] (.reg [⟨some 80, none, .mv (.t 7)⟩,
        ⟨some 81, none, .bin .gtr 3 (.t 80) (.c (.i .i64 1))⟩,
        ⟨some 82, none, .mv (.t 81)⟩,
        ⟨some 83, some (82, true), .mv (.t 6)⟩,
        ⟨some 84, some (82, true), .bin .eql 5 (.t 83) (.c (.i .u8 48))⟩,
        ⟨some 85, none, .pick (.t 82) (.t 84) (.c (.b false))⟩,
        ⟨some 86, none, .mv (.t 85)⟩,
        ⟨some 87, some (86, false), .mv (.t 1)⟩,
        ⟨some 88, some (86, false), .mv (.t 7)⟩,
        ⟨some 89, some (86, false), .bin .add 3 (.t 87) (.t 88)⟩,
        ⟨some 90, some (86, false), .mv (.t 0)⟩,
        ⟨some 91, some (86, false), .len 9 (.t 90)⟩,
        ⟨some 92, some (86, false), .bin .lss 3 (.t 89) (.t 91)⟩,
        ⟨some 93, some (86, false), .mv (.t 92)⟩,
        ⟨some 94, some (93, true), .mv (.t 0)⟩,
        ⟨some 95, some (93, true), .mv (.t 1)⟩,
        ⟨some 96, some (93, true), .mv (.t 7)⟩,
        ⟨some 97, some (93, true), .bin .add 3 (.t 95) (.t 96)⟩,
        ⟨some 98, some (93, true), .idx 9 (.t 94) (.t 97)⟩,
        ⟨some 99, some (93, true), .call (.c (.fn (.func 44) [] [])) [.t 98]⟩,
        ⟨some 100, some (86, false), .pick (.t 93) (.t 99) (.c (.b false))⟩,
        ⟨some 101, none, .pick (.t 86) (.c (.b true)) (.t 100)⟩]))
     (.cond (.t 101)
      (.seq (.cut [4] (.reg [⟨some 102, none, .build 30 []⟩,
         ⟨none, none, .store 30 (.t 4) (.t 102)⟩,
         ⟨some 5, none, .mv (.c (.i .i64 9))⟩]))
      .ret)
      .skip))
    (.seq (.seq (.cut [4, 9] (.reg [⟨some 103, none, .mv (.t 9)⟩,
        ⟨some 104, none, .call (.c (.fn (.func 47) [] [])) [.t 103]⟩,
        ⟨some 105, none, .un .not (.t 104)⟩]))
     (.cond (.t 105)
      (.seq (.cut [4] (.reg [⟨some 106, none, .build 30 []⟩,
         ⟨none, none, .store 30 (.t 4) (.t 106)⟩,
         ⟨some 5, none, .mv (.c (.i .i64 3))⟩]))
      .ret)
      .skip))
    (.seq (.cut [4, 9] (.reg [⟨some 107, none, .mv (.t 9)⟩,
       ⟨some 108, none, .build 30 [(0, .c (.i .i64 2)), (1, .t 107)]⟩,
       ⟨none, none, .store 30 (.t 4) (.t 108)⟩,
       ⟨some 5, none, .mv (.c (.i .i64 0))⟩]))
    .ret)))))
    .skip))
  (.seq (.reg [⟨some 109, none, .call (.c (.fn (.func 48) [] [])) []⟩,
     ⟨some 10, none, .mv (.t 109)⟩])
  (.seq (.seq (.reg [⟨some 11, none, .mv (.c (.i .i64 0))⟩])
   (.blk 4
    (.loop [0, 1, 4, 10, 11] c30L2)))
  (.seq (.cut [4] (.reg [⟨some 128, none, .build 30 []⟩,
     ⟨none, none, .store 30 (.t 4) (.t 128)⟩,
     ⟨some 5, none, .mv (.c (.i .i64 9))⟩]))
  .ret))))))))
def F30 : AF := ⟨129, [.cell 4 30, .t 5], c30⟩
/-- errors.Is -/
def c31 : AC :=
  (.seq (.reg [⟨some 4, none, .mv (.c (.b false))⟩])
  (.seq (.seq (.cut [0, 1] (.reg [⟨some 6, none, .mv (.t 0)⟩,
      ⟨some 7, none, .bin .eql 26 (.t 6) (.c (.ic0))⟩,
      ⟨some 8, none, .mv (.t 7)⟩,
      ⟨some 9, some (8, false), .mv (.t 1)⟩,
      ⟨some 10, some (8, false), .bin .eql 26 (.t 9) (.c (.ic0))⟩,
      ⟨some 11, none, .pick (.t 8) (.c (.b true)) (.t 10)⟩]))
   (.cond (.t 11)
    (.seq (.cut [0, 1] (.reg [⟨some 12, none, .mv (.t 0)⟩,
       ⟨some 13, none, .mv (.t 1)⟩,
       ⟨some 14, none, .bin .eql 26 (.t 12) (.t 13)⟩,
       ⟨some 4, none, .mv (.t 14)⟩]))
    .ret)
    .skip))
  (.seq (.cut [0, 1] (.reg [⟨some 15, none, .mv (.t 1)⟩,
     ⟨some 16, none, .call (.c (.fn (.func 40) [] [])) [.t 15]⟩,
     ⟨some 17, none, .inv (.t 16) "Comparable" []⟩,
     ⟨some 5, none, .mv (.t 17)⟩]))
  (.seq (.cut [0, 1, 5] (.reg [⟨some 18, none, .mv (.t 0)⟩,
     ⟨some 19, none, .mv (.t 1)⟩,
     ⟨some 20, none, .mv (.t 5)⟩,
     ⟨some 21, none, .call (.c (.fn (.func 49) [] [])) [.t 18, .t 19, .t 20]⟩,
     ⟨some 4, none, .mv (.t 21)⟩]))
  .ret))))
def F31 : AF := ⟨22, [.t 4], c31⟩
/-- strings.FieldsFunc -/
def c32L0 : AC :=
  (.seq (.reg [⟨some 15, none, .nxt (.t 14)⟩,
     ⟨some 16, none, .ext (.t 15) 0⟩])
  (.seq (.cond (.t 16)
    .skip
    (.exit 0))
  (.blk 1
   (.seq (.cut [0, 1, 5, 6, 14, 15] (.reg [⟨some 17, none, .ext (.t 15) 1⟩,
      ⟨some 18, none, .ext (.t 15) 2⟩,
      ⟨some 7, none, .mv (.t 17)⟩,
      ⟨some 8, none, .mv (.t 18)⟩]))
   (.seq (.cut [0, 1, 5, 6, 7, 8, 14] (.reg [⟨some 19, none, .mv (.t 1)⟩,
      ⟨some 20, none, .mv (.t 8)⟩,
      ⟨some 21, none, .call (.t 19) [.t 20]⟩]))
   (.cond (.t 21)
    (.seq (.reg [⟨some 22, none, .mv (.t 6)⟩,
       ⟨some 23, none, .bin .geq 3 (.t 22) (.c (.i .i64 0))⟩])
    (.cond (.t 23)
     (.seq (.cut [0, 1, 5, 6, 7, 14] (.reg [⟨some 24, none, .mv (.t 5)⟩,
        ⟨some 25, none, .mv (.t 6)⟩,
        ⟨some 26, none, .mv (.t 7)⟩,
        ⟨some 27, none, .build 101 [(0, .t 25), (1, .t 26)]⟩,
        ⟨some 28, none, .bsl 99 1 [(0, .t 27)]⟩,
        ⟨some 29, none, .app 99 false (.t 24) (.t 28)⟩,
        ⟨some 5, none, .mv (.t 29)⟩]))
     (.cut [0, 1, 5, 6, 14] (.reg [⟨some 30, none, .mv (.t 6)⟩,
       ⟨some 31, none, .un .xor (.t 30)⟩,
       ⟨some 6, none, .mv (.t 31)⟩])))
     .skip))
    (.seq (.reg [⟨some 32, none, .mv (.t 6)⟩,
       ⟨some 33, none, .bin .lss 3 (.t 32) (.c (.i .i64 0))⟩])
    (.cond (.t 33)
     (.reg [⟨some 34, none, .mv (.t 7)⟩,
       ⟨some 6, none, .mv (.t 34)⟩])
     .skip))))))))
def c32L1 : AC :=
  (.seq (.reg [⟨some 50, none, .bin .lss 3 (.t 49) (.t 48)⟩])
  (.seq (.cond (.t 50)
    .skip
    (.exit 2))
  (.seq (.blk 3
    (.seq (.cut [0, 9, 47, 48, 49] (.reg [⟨some 51, none, .mv (.t 49)⟩,
       ⟨some 52, none, .iad 99 (.t 47) (.t 49)⟩,
       ⟨some 53, none, .load 101 (.t 52)⟩,
       ⟨some 11, none, .alloc 101⟩,
       ⟨some 10, none, .mv (.t 51)⟩,
       ⟨none, none, .store 101 (.t 11) (.t 53)⟩]))
    (.cut [0, 9, 10, 11, 47, 48, 49] (.reg [⟨some 54, none, .mv (.t 9)⟩,
      ⟨some 55, none, .mv (.t 10)⟩,
      ⟨some 56, none, .mv (.t 0)⟩,
      ⟨some 57, none, .fad 101 (.t 11) 0⟩,
      ⟨some 58, none, .load 3 (.t 57)⟩,
      ⟨some 59, none, .fad 101 (.t 11) 1⟩,
      ⟨some 60, none, .load 3 (.t 59)⟩,
      ⟨some 61, none, .slc 9 (.t 56) (some (.t 58)) (some (.t 60))⟩,
      ⟨some 62, none, .iad 22 (.t 54) (.t 55)⟩,
      ⟨none, none, .store 9 (.t 62) (.t 61)⟩]))))
  (.reg [⟨some 63, none, .bin .add 3 (.t 49) (.c (.i .i64 1))⟩,
    ⟨some 49, none, .mv (.t 63)⟩]))))
def c32 : AC :=
  (.seq (.reg [⟨some 4, none, .mv (.c (.sl0))⟩])
  (.seq (.reg [⟨some 12, none, .mks 99 (.c (.i .i64 0)) (.c (.i .i64 32))⟩,
     ⟨some 5, none, .mv (.t 12)⟩])
  (.seq (.reg [⟨some 6, none, .mv (.c (.i .i64 (-1)))⟩])
  (.seq (.seq (.reg [⟨some 13, none, .mv (.t 0)⟩,
      ⟨some 14, none, .rng 9 (.t 13)⟩])
   (.blk 0
    (.loop [0, 1, 5, 6, 14] c32L0)))
  (.seq (.seq (.reg [⟨some 35, none, .mv (.t 6)⟩,
      ⟨some 36, none, .bin .geq 3 (.t 35) (.c (.i .i64 0))⟩])
   (.cond (.t 36)
    (.cut [0, 5, 6] (.reg [⟨some 37, none, .mv (.t 5)⟩,
      ⟨some 38, none, .mv (.t 6)⟩,
      ⟨some 39, none, .mv (.t 0)⟩,
      ⟨some 40, none, .len 9 (.t 39)⟩,
      ⟨some 41, none, .build 101 [(0, .t 38), (1, .t 40)]⟩,
      ⟨some 42, none, .bsl 99 1 [(0, .t 41)]⟩,
      ⟨some 43, none, .app 99 false (.t 37) (.t 42)⟩,
      ⟨some 5, none, .mv (.t 43)⟩]))
    .skip))
  (.seq (.cut [0, 5] (.reg [⟨some 44, none, .mv (.t 5)⟩,
     ⟨some 45, none, .len 99 (.t 44)⟩,
     ⟨some 46, none, .mks 22 (.t 45) (.t 45)⟩,
     ⟨some 9, none, .mv (.t 46)⟩]))
  (.seq (.seq (.cut [0, 5, 9] (.reg [⟨some 47, none, .mv (.t 5)⟩,
      ⟨some 48, none, .len 99 (.t 47)⟩,
      ⟨some 49, none, .mv (.c (.i .i64 0))⟩]))
   (.blk 2
    (.loop [0, 9, 47, 48, 49] c32L1)))
  (.seq (.reg [⟨some 64, none, .mv (.t 9)⟩,
     ⟨some 4, none, .mv (.t 64)⟩])
  .ret))))))))
def F32 : AF := ⟨65, [.t 4], c32⟩
/-- unicode.IsSpace -/
def c33 : AC :=
  (.seq (.reg [⟨some 2, none, .mv (.c (.b false))⟩])
  (.seq (.seq (.cut [0] (.reg [⟨some 3, none, .mv (.t 0)⟩,
      ⟨some 4, none, .conv 21 102 (.t 3)⟩,
      ⟨some 5, none, .bin .leq 102 (.t 4) (.c (.i .u32 255))⟩]))
   (.cond (.t 5)
    (.seq (.seq (.reg [⟨some 6, none, .mv (.t 0)⟩])
     (.blk 0
      (.seq (.seq (.reg [⟨some 8, none, .bin .eql 21 (.t 6) (.c (.i .i32 9))⟩,
          ⟨some 7, none, .mv (.t 8)⟩])
       (.cond (.t 7)
        .skip
        (.seq (.reg [⟨some 9, none, .bin .eql 21 (.t 6) (.c (.i .i32 10))⟩,
           ⟨some 7, none, .mv (.t 9)⟩])
        (.cond (.t 7)
         .skip
         (.seq (.reg [⟨some 10, none, .bin .eql 21 (.t 6) (.c (.i .i32 11))⟩,
            ⟨some 7, none, .mv (.t 10)⟩])
         (.cond (.t 7)
          .skip
          (.seq (.reg [⟨some 11, none, .bin .eql 21 (.t 6) (.c (.i .i32 12))⟩,
             ⟨some 7, none, .mv (.t 11)⟩])
          (.cond (.t 7)
           .skip
           (.seq (.reg [⟨some 12, none, .bin .eql 21 (.t 6) (.c (.i .i32 13))⟩,
              ⟨some 7, none, .mv (.t 12)⟩])
           (.cond (.t 7)
            .skip
            (.seq (.reg [⟨some 13, none, .bin .eql 21 (.t 6) (.c (.i .i32 32))⟩,
               ⟨some 7, none, .mv (.t 13)⟩])
            (.cond (.t 7)
             .skip
             (.seq (.reg [⟨some 14, none, .bin .eql 21 (.t 6) (.c (.i .i32 133))⟩,
                ⟨some 7, none, .mv (.t 14)⟩])
             (.cond (.t 7)
              .skip
              (.reg [⟨some 15, none, .bin .eql 21 (.t 6) (.c (.i .i32 160))⟩,
                ⟨some 7, none, .mv (.t 15)⟩])))))))))))))))
      (.cond (.t 7)
       (.seq (.reg [⟨some 2, none, .mv (.c (.b true))⟩])
       .ret)
       .skip))))
    (.seq (.reg [⟨some 2, none, .mv (.c (.b false))⟩])
    .ret))
    .skip))
  (.seq (.cut [0] (.reg [⟨some 16, none, .load 104 (.c (.p 2 0 0))⟩,
     ⟨some 17, none, .mv (.t 0)⟩,
     ⟨some 18, none, .call (.c (.fn (.func 50) [] [])) [.t 16, .t 17]⟩,
     ⟨some 2, none, .mv (.t 18)⟩]))
  .ret)))
def F33 : AF := ⟨19, [.t 2], c33⟩
/-- internal/stringslite.HasPrefix -/
def c34 : AC :=
  (.seq (.reg [⟨some 4, none, .mv (.c (.b false))⟩])
  (.seq (.cut [0, 1] (.reg [⟨some 5, none, .mv (.t 0)⟩,
     ⟨some 6, none, .len 9 (.t 5)⟩,
     ⟨some 7, none, .mv (.t 1)⟩,
     ⟨some 8, none, .len 9 (.t 7)⟩,
     ⟨some 9, none, .bin .geq 3 (.t 6) (.t 8)⟩,
     ⟨some 10, none, .mv (.t 9)⟩,
     ⟨some 11, some (10, true), .mv (.t 0)⟩,
     ⟨some 12, some (10, true), .mv (.t 1)⟩,
     ⟨some 13, some (10, true), .len 9 (.t 12)⟩,
     ⟨some 14, some (10, true), .slc 9 (.t 11) none (some (.t 13))⟩,
     ⟨some 15, some (10, true), .mv (.t 1)⟩,
     ⟨some 16, some (10, true), .bin .eql 9 (.t 14) (.t 15)⟩,
     ⟨some 17, none, .pick (.t 10) (.t 16) (.c (.b false))⟩,
     ⟨some 4, none, .mv (.t 17)⟩]))
  .ret))
def F34 : AF := ⟨18, [.t 4], c34⟩
/-- internal/stringslite.IndexByte -/
def c35 : AC :=
  (.seq (.reg [⟨some 4, none, .mv (.c (.i .i64 0))⟩])
  (.seq (.cut [0, 1] (.reg [⟨some 5, none, .mv (.t 0)⟩,
     ⟨some 6, none, .mv (.t 1)⟩,
     ⟨some 7, none, .call (.c (.fn (.func 51) [] [])) [.t 5, .t 6]⟩,
     ⟨some 4, none, .mv (.t 7)⟩]))
  .ret))
def F35 : AF := ⟨8, [.t 4], c35⟩
/-- slices.Contains[[]fallow/lex.kind,fallow/lex.kind] -/
def c36 : AC :=
  (.seq (.reg [⟨some 4, none, .mv (.c (.b false))⟩])
  (.seq (.cut [0, 1] (.reg [⟨some 5, none, .mv (.t 0)⟩,
     ⟨some 6, none, .mv (.t 1)⟩,
     ⟨some 7, none, .call (.c (.fn (.func 52) [] [])) [.t 5, .t 6]⟩,
     ⟨some 8, none, .bin .geq 3 (.t 7) (.c (.i .i64 0))⟩,
     ⟨some 4, none, .mv (.t 8)⟩]))
  .ret))
def F36 : AF := ⟨9, [.t 4], c36⟩
/-- slices.Index[[]string,string] -/
def c37L0 : AC :=
  (.seq (.reg [⟨some 9, none, .bin .lss 3 (.t 8) (.t 7)⟩])
  (.seq (.cond (.t 9)
    .skip
    (.exit 0))
  (.seq (.blk 1
    (.seq (.reg [⟨some 10, none, .mv (.t 8)⟩,
       ⟨some 5, none, .mv (.t 10)⟩])
    (.seq (.cut [0, 1, 5, 7, 8] (.reg [⟨some 11, none, .mv (.t 1)⟩,
       ⟨some 12, none, .mv (.t 0)⟩,
       ⟨some 13, none, .mv (.t 5)⟩,
       ⟨some 14, none, .iad 22 (.t 12) (.t 13)⟩,
       ⟨some 15, none, .load 9 (.t 14)⟩,
       ⟨some 16, none, .bin .eql 9 (.t 11) (.t 15)⟩]))
    (.cond (.t 16)
     (.seq (.reg [⟨some 17, none, .mv (.t 5)⟩,
        ⟨some 4, none, .mv (.t 17)⟩])
     .ret)
     .skip))))
  (.reg [⟨some 18, none, .bin .add 3 (.t 8) (.c (.i .i64 1))⟩,
    ⟨some 8, none, .mv (.t 18)⟩]))))
def c37 : AC :=
  (.seq (.reg [⟨some 4, none, .mv (.c (.i .i64 0))⟩])
  (.seq (.seq (.cut [0, 1] (.reg [⟨some 6, none, .mv (.t 0)⟩,
      ⟨some 7, none, .len 22 (.t 6)⟩,
      ⟨some 8, none, .mv (.c (.i .i64 0))⟩]))
   (.blk 0
    (.loop [0, 1, 7, 8] c37L0)))
  (.seq (.reg [⟨some 4, none, .mv (.c (.i .i64 (-1)))⟩])
  .ret)))
def F37 : AF := ⟨19, [.t 4], c37⟩
/-- internal/strconv.ParseUint -/
def c38L0 : AC :=
  (.seq (.reg [⟨some 102, none, .bin .lss 3 (.t 101) (.t 100)⟩])
  (.seq (.cond (.t 102)
    .skip
    (.exit 3))
  (.seq (.blk 4
    (.seq (.cut [1, 8, 9, 10, 11, 12, 13, 99, 100, 101] (.reg [⟨some 103, none, .iad 33 (.t 99) (.t 101)⟩,
       ⟨some 104, none, .load 5 (.t 103)⟩,
       ⟨some 15, none, .mv (.t 104)⟩]))
    (.seq (.reg [⟨some 16, none, .mv (.c (.i .u8 0))⟩])
    (.seq (.blk 5
      (.seq (.cut [1, 8, 9, 10, 11, 12, 13, 15, 99, 100, 101] (.reg [⟨some 107, none, .mv (.t 15)⟩,
         ⟨some 108, none, .bin .eql 5 (.t 107) (.c (.i .u8 95))⟩,
         ⟨some 109, none, .mv (.t 108)⟩,
         ⟨some 110, some (109, true), .mv (.t 8)⟩,
         ⟨some 111, none, .pick (.t 109) (.t 110) (.c (.b false))⟩,
         ⟨some 106, none, .mv (.t 111)⟩]))
      (.cond (.t 106)
       (.seq (.reg [⟨some 12, none, .mv (.c (.b true))⟩])
       (.exit 4))
       (.seq (.cut [1, 8, 9, 10, 11, 12, 13, 15, 99, 100, 101] (.reg [⟨some 113, none, .mv (.t 15)⟩,
          ⟨some 114, none, .bin .leq 5 (.c (.i .u8 48)) (.t 113)⟩,
          ⟨some 115, none, .mv (.t 114)⟩,
          ⟨some 116, some (115, true), .mv (.t 15)⟩,
          ⟨some 117, some (115, true), .bin .leq 5 (.t 116) (.c (.i .u8 57))⟩,
          ⟨some 118, none, .pick (.t 115) (.t 117) (.c (.b false))⟩,
          ⟨some 112, none, .mv (.t 118)⟩]))
       (.cond (.t 112)
        (.cut [1, 8, 9, 10, 11, 12, 13, 15, 99, 100, 101] (.reg [⟨some 119, none, .mv (.t 15)⟩,
          ⟨some 120, none, .bin .sub 5 (.t 119) (.c (.i .u8 48))⟩,
          ⟨some 16, none, .mv (.t 120)⟩]))
        (.seq (.cut [1, 8, 9, 10, 11, 12, 13, 15, 99, 100, 101] (.reg [⟨some 122, none, .mv (.t 15)⟩,
           ⟨some 123, none, .call (.c (.fn (.func 53) [] [])) [.t 122]⟩,
           ⟨some 124, none, .bin .leq 5 (.c (.i .u8 97)) (.t 123)⟩,
           ⟨some 125, none, .mv (.t 124)⟩,
           ⟨some 126, some (125, true), .mv (.t 15)⟩,
           ⟨some 127, some (125, true), .call (.c (.fn (.func 53) [] [])) [.t 126]⟩,
           ⟨some 128, some (125, true), .bin .leq 5 (.t 127) (.c (.i .u8 122))⟩,
           ⟨some 129, none, .pick (.t 125) (.t 128) (.c (.b false))⟩,
           ⟨some 121, none, .mv (.t 129)⟩]))
        (.cond (.t 121)
         (.cut [1, 8, 9, 10, 11, 12, 13, 15, 99, 100, 101] (.reg [⟨some 130, none, .mv (.t 15)⟩,
           ⟨some 131, none, .call (.c (.fn (.func 53) [] [])) [.t 130]⟩,
           ⟨some 132, none, .bin .sub 5 (.t 131) (.c (.i .u8 97))⟩,
           ⟨some 133, none, .bin .add 5 (.t 132) (.c (.i .u8 10))⟩,
           ⟨some 16, none, .mv (.t 133)⟩]))
         (.seq (.cut [] (.reg [⟨some 105, none, .mki 106 (.c (.i .i64 2))⟩,
            ⟨some 6, none, .mv (.c (.i .u64 0))⟩,
            ⟨some 7, none, .mv (.t 105)⟩]))
         .ret))))))))
    (.seq (.seq (.cut [1, 8, 9, 10, 11, 12, 13, 16, 99, 100, 101] (.reg [⟨some 134, none, .mv (.t 16)⟩,
        ⟨some 135, none, .mv (.t 1)⟩,
        ⟨some 136, none, .conv 3 5 (.t 135)⟩,
        ⟨some 137, none, .bin .geq 5 (.t 134) (.t 136)⟩]))
     (.cond (.t 137)
      (.seq (.cut [] (.reg [⟨some 138, none, .mki 106 (.c (.i .i64 2))⟩,
         ⟨some 6, none, .mv (.c (.i .u64 0))⟩,
         ⟨some 7, none, .mv (.t 138)⟩]))
      .ret)
      .skip))
    (.seq (.seq (.cut [1, 8, 9, 10, 11, 12, 13, 16, 99, 100, 101] (.reg [⟨some 139, none, .mv (.t 13)⟩,
        ⟨some 140, none, .mv (.t 10)⟩,
        ⟨some 141, none, .bin .geq 57 (.t 139) (.t 140)⟩]))
     (.cond (.t 141)
      (.seq (.cut [11] (.reg [⟨some 142, none, .mv (.t 11)⟩,
         ⟨some 143, none, .mki 106 (.c (.i .i64 1))⟩,
         ⟨some 6, none, .mv (.t 142)⟩,
         ⟨some 7, none, .mv (.t 143)⟩]))
      .ret)
      .skip))
    (.seq (.cut [1, 8, 9, 10, 11, 12, 13, 16, 99, 100, 101] (.reg [⟨some 144, none, .mv (.t 13)⟩,
       ⟨some 145, none, .mv (.t 1)⟩,
       ⟨some 146, none, .conv 3 57 (.t 145)⟩,
       ⟨some 147, none, .bin .mul 57 (.t 144) (.t 146)⟩,
       ⟨some 13, none, .mv (.t 147)⟩]))
    (.seq (.cut [1, 8, 9, 10, 11, 12, 13, 16, 99, 100, 101] (.reg [⟨some 148, none, .mv (.t 13)⟩,
       ⟨some 149, none, .mv (.t 16)⟩,
       ⟨some 150, none, .conv 5 57 (.t 149)⟩,
       ⟨some 151, none, .bin .add 57 (.t 148) (.t 150)⟩,
       ⟨some 17, none, .mv (.t 151)⟩]))
    (.seq (.seq (.cut [1, 8, 9, 10, 11, 12, 13, 17, 99, 100, 101] (.reg [⟨some 152, none, .mv (.t 17)⟩,
        ⟨some 153, none, .mv (.t 13)⟩,
        ⟨some 154, none, .bin .lss 57 (.t 152) (.t 153)⟩,
        ⟨some 155, none, .mv (.t 154)⟩,
        ⟨some 156, some (155, false), .mv (.t 17)⟩,
        ⟨some 157, some (155, false), .mv (.t 11)⟩,
        ⟨some 158, some (155, false), .bin .gtr 57 (.t 156) (.t 157)⟩,
        ⟨some 159, none, .pick (.t 155) (.c (.b true)) (.t 158)⟩]))
     (.cond (.t 159)
      (.seq (.cut [11] (.reg [⟨some 160, none, .mv (.t 11)⟩,
         ⟨some 161, none, .mki 106 (.c (.i .i64 1))⟩,
         ⟨some 6, none, .mv (.t 160)⟩,
         ⟨some 7, none, .mv (.t 161)⟩]))
      .ret)
      .skip))
    (.reg [⟨some 162, none, .mv (.t 17)⟩,
      ⟨some 13, none, .mv (.t 162)⟩]))))))))))
  (.reg [⟨some 163, none, .bin .add 3 (.t 101) (.c (.i .i64 1))⟩,
    ⟨some 101, none, .mv (.t 163)⟩]))))
def c38 : AC :=
  (.seq (.reg [⟨some 6, none, .mv (.c (.i .u64 0))⟩,
     ⟨some 7, none, .mv (.c (.ic0))⟩])
  (.seq (.seq (.reg [⟨some 18, none, .mv (.t 0)⟩,
      ⟨some 19, none, .bin .eql 9 (.t 18) (.c (.s []))⟩])
   (.cond (.t 19)
    (.seq (.cut [] (.reg [⟨some 20, none, .mki 106 (.c (.i .i64 2))⟩,
       ⟨some 6, none, .mv (.c (.i .u64 0))⟩,
       ⟨some 7, none, .mv (.t 20)⟩]))
    .ret)
    .skip))
  (.seq (.cut [0, 1, 2] (.reg [⟨some 21, none, .mv (.t 1)⟩,
     ⟨some 22, none, .bin .eql 3 (.t 21) (.c (.i .i64 0))⟩,
     ⟨some 8, none, .mv (.t 22)⟩]))
  (.seq (.reg [⟨some 23, none, .mv (.t 0)⟩,
     ⟨some 9, none, .mv (.t 23)⟩])
  (.seq (.blk 0
    (.seq (.cut [0, 1, 2, 8, 9] (.reg [⟨some 26, none, .mv (.t 1)⟩,
       ⟨some 27, none, .bin .leq 3 (.c (.i .i64 2)) (.t 26)⟩,
       ⟨some 28, none, .mv (.t 27)⟩,
       ⟨some 29, some (28, true), .mv (.t 1)⟩,
       ⟨some 30, some (28, true), .bin .leq 3 (.t 29) (.c (.i .i64 36))⟩,
       ⟨some 31, none, .pick (.t 28) (.t 30) (.c (.b false))⟩,
       ⟨some 25, none, .mv (.t 31)⟩]))
    (.cond (.t 25)
     .skip
     (.seq (.cut [0, 1, 2, 8, 9] (.reg [⟨some 33, none, .mv (.t 1)⟩,
        ⟨some 34, none, .bin .eql 3 (.t 33) (.c (.i .i64 0))⟩,
        ⟨some 32, none, .mv (.t 34)⟩]))
     (.cond (.t 32)
      (.seq (.reg [⟨some 1, none, .mv (.c (.i .i64 10))⟩])
      (.seq (.cut [0, 1, 2, 8, 9] (.reg [⟨some 35, none, .mv (.t 0)⟩,
         ⟨some 36, none, .idx 9 (.t 35) (.c (.i .i64 0))⟩,
         ⟨some 37, none, .bin .eql 5 (.t 36) (.c (.i .u8 48))⟩]))
      (.cond (.t 37)
       (.blk 1
        (.seq (.cut [0, 2, 8, 9] (.reg [⟨some 41, none, .mv (.t 0)⟩,
           ⟨some 42, none, .len 9 (.t 41)⟩,
           ⟨some 43, none, .bin .geq 3 (.t 42) (.c (.i .i64 3))⟩,
           ⟨some 44, none, .mv (.t 43)⟩,
           ⟨some 45, some (44, true), .mv (.t 0)⟩,
           ⟨some 46, some (44, true), .idx 9 (.t 45) (.c (.i .i64 1))⟩,
           ⟨some 47, some (44, true), .call (.c (.fn (.func 53) [] [])) [.t 46]⟩,
           ⟨some 48, some (44, true), .bin .eql 5 (.t 47) (.c (.i .u8 98))⟩,
           ⟨some 49, none, .pick (.t 44) (.t 48) (.c (.b false))⟩,
           ⟨some 40, none, .mv (.t 49)⟩]))
        (.cond (.t 40)
         (.seq (.reg [⟨some 1, none, .mv (.c (.i .i64 2))⟩])
         (.cut [0, 1, 2, 8, 9] (.reg [⟨some 50, none, .mv (.t 0)⟩,
           ⟨some 51, none, .slc 9 (.t 50) (some (.c (.i .i64 2))) none⟩,
           ⟨some 0, none, .mv (.t 51)⟩])))
         (.seq (.cut [0, 2, 8, 9] (.reg [⟨some 53, none, .mv (.t 0)⟩,
            ⟨some 54, none, .len 9 (.t 53)⟩,
            ⟨some 55, none, .bin .geq 3 (.t 54) (.c (.i .i64 3))⟩,
            ⟨some 56, none, .mv (.t 55)⟩,
            ⟨some 57, some (56, true), .mv (.t 0)⟩,
            ⟨some 58, some (56, true), .idx 9 (.t 57) (.c (.i .i64 1))⟩,
            ⟨some 59, some (56, true), .call (.c (.fn (.func 53) [] [])) [.t 58]⟩,
            ⟨some 60, some (56, true), .bin .eql 5 (.t 59) (.c (.i .u8 111))⟩,
            ⟨some 61, none, .pick (.t 56) (.t 60) (.c (.b false))⟩,
            ⟨some 52, none, .mv (.t 61)⟩]))
         (.cond (.t 52)
          (.seq (.reg [⟨some 1, none, .mv (.c (.i .i64 8))⟩])
          (.cut [0, 1, 2, 8, 9] (.reg [⟨some 62, none, .mv (.t 0)⟩,
            ⟨some 63, none, .slc 9 (.t 62) (some (.c (.i .i64 2))) none⟩,
            ⟨some 0, none, .mv (.t 63)⟩])))
          (.seq (.cut [0, 2, 8, 9] (.reg [⟨some 65, none, .mv (.t 0)⟩,
             ⟨some 66, none, .len 9 (.t 65)⟩,
             ⟨some 67, none, .bin .geq 3 (.t 66) (.c (.i .i64 3))⟩,
             ⟨some 68, none, .mv (.t 67)⟩,
             ⟨some 69, some (68, true), .mv (.t 0)⟩,
             ⟨some 70, some (68, true), .idx 9 (.t 69) (.c (.i .i64 1))⟩,
             ⟨some 71, some (68, true), .call (.c (.fn (.func 53) [] [])) [.t 70]⟩,
             ⟨some 72, some (68, true), .bin .eql 5 (.t 71) (.c (.i .u8 120))⟩,
             ⟨some 73, none, .pick (.t 68) (.t 72) (.c (.b false))⟩,
             ⟨some 64, none, .mv (.t 73)⟩]))
          (.cond (.t 64)
           (.seq (.reg [⟨some 1, none, .mv (.c (.i .i64 16))⟩])
           (.cut [0, 1, 2, 8, 9] (.reg [⟨some 74, none, .mv (.t 0)⟩,
             ⟨some 75, none, .slc 9 (.t 74) (some (.c (.i .i64 2))) none⟩,
             ⟨some 0, none, .mv (.t 75)⟩])))
           (.seq (.reg [⟨some 1, none, .mv (.c (.i .i64 8))⟩])
           (.cut [0, 1, 2, 8, 9] (.reg [⟨some 38, none, .mv (.t 0)⟩,
             ⟨some 39, none, .slc 9 (.t 38) (some (.c (.i .i64 1))) none⟩,
             ⟨some 0, none, .mv (.t 39)⟩]))))))))))
       .skip)))
      (.seq (.cut [] (.reg [⟨some 24, none, .mki 106 (.c (.i .i64 3))⟩,
         ⟨some 6, none, .mv (.c (.i .u64 0))⟩,
         ⟨some 7, none, .mv (.t 24)⟩]))
      .ret))))))
  (.seq (.seq (.reg [⟨some 76, none, .mv (.t 2)⟩,
      ⟨some 77, none, .bin .eql 3 (.t 76) (.c (.i .i64 0))⟩])
   (.cond (.t 77)
    (.reg [⟨some 2, none, .mv (.c (.i .i64 64))⟩])
    (.seq (.cut [0, 1, 2, 8, 9] (.reg [⟨some 78, none, .mv (.t 2)⟩,
       ⟨some 79, none, .bin .lss 3 (.t 78) (.c (.i .i64 0))⟩,
       ⟨some 80, none, .mv (.t 79)⟩,
       ⟨some 81, some (80, false), .mv (.t 2)⟩,
       ⟨some 82, some (80, false), .bin .gtr 3 (.t 81) (.c (.i .i64 64))⟩,
       ⟨some 83, none, .pick (.t 80) (.c (.b true)) (.t 82)⟩]))
    (.cond (.t 83)
     (.seq (.cut [] (.reg [⟨some 84, none, .mki 106 (.c (.i .i64 4))⟩,
        ⟨some 6, none, .mv (.c (.i .u64 0))⟩,
        ⟨some 7, none, .mv (.t 84)⟩]))
     .ret)
     .skip))))
  (.seq (.reg [⟨some 10, none, .mv (.c (.i .u64 0))⟩])
  (.seq (.seq (.reg [⟨some 85, none, .mv (.t 1)⟩])
   (.blk 2
    (.seq (.reg [⟨some 91, none, .bin .eql 3 (.t 85) (.c (.i .i64 10))⟩,
       ⟨some 90, none, .mv (.t 91)⟩])
    (.cond (.t 90)
     (.reg [⟨some 10, none, .mv (.c (.i .u64 1844674407370955162))⟩])
     (.seq (.reg [⟨some 93, none, .bin .eql 3 (.t 85) (.c (.i .i64 16))⟩,
        ⟨some 92, none, .mv (.t 93)⟩])
     (.cond (.t 92)
      (.reg [⟨some 10, none, .mv (.c (.i .u64 1152921504606846976))⟩])
      (.cut [0, 1, 2, 8, 9] (.reg [⟨some 86, none, .mv (.t 1)⟩,
        ⟨some 87, none, .conv 3 57 (.t 86)⟩,
        ⟨some 88, none, .bin .quo 57 (.c (.i .u64 18446744073709551615)) (.t 87)⟩,
        ⟨some 89, none, .bin .add 57 (.t 88) (.c (.i .u64 1))⟩,
        ⟨some 10, none, .mv (.t 89)⟩]))))))))
  (.seq (.cut [0, 1, 2, 8, 9, 10] (.reg [⟨some 94, none, .mv (.t 2)⟩,
     ⟨some 95, none, .conv 3 108 (.t 94)⟩,
     ⟨some 96, none, .bin .shl 57 (.c (.i .u64 1)) (.t 95)⟩,
     ⟨some 97, none, .bin .sub 57 (.t 96) (.c (.i .u64 1))⟩,
     ⟨some 11, none, .mv (.t 97)⟩]))
  (.seq (.reg [⟨some 12, none, .mv (.c (.b false))⟩])
  (.seq (.reg [⟨some 13, none, .mv (.c (.i .u64 0))⟩])
  (.seq (.seq (.cut [0, 1, 8, 9, 10, 11, 12, 13] (.reg [⟨some 98, none, .mv (.t 0)⟩,
      ⟨some 99, none, .conv 9 33 (.t 98)⟩,
      ⟨some 100, none, .len 33 (.t 99)⟩,
      ⟨some 101, none, .mv (.c (.i .i64 0))⟩]))
   (.blk 3
    (.loop [1, 8, 9, 10, 11, 12, 13, 99, 100, 101] c38L0)))
  (.seq (.seq (.cut [9, 12, 13] (.reg [⟨some 164, none, .mv (.t 12)⟩,
      ⟨some 165, none, .mv (.t 164)⟩,
      ⟨some 166, some (165, true), .mv (.t 9)⟩,
      ⟨some 167, some (165, true), .call (.c (.fn (.func 54) [] [])) [.t 166]⟩,
      ⟨some 168, some (165, true), .un .not (.t 167)⟩,
      ⟨some 169, none, .pick (.t 165) (.t 168) (.c (.b false))⟩]))
   (.cond (.t 169)
    (.seq (.cut [] (.reg [⟨some 170, none, .mki 106 (.c (.i .i64 2))⟩,
       ⟨some 6, none, .mv (.c (.i .u64 0))⟩,
       ⟨some 7, none, .mv (.t 170)⟩]))
    .ret)
    .skip))
  (.seq (.cut [13] (.reg [⟨some 171, none, .mv (.t 13)⟩,
     ⟨some 6, none, .mv (.t 171)⟩,
     ⟨some 7, none, .mv (.c (.ic0))⟩]))
  .ret))))))))))))))
def F38 : AF := ⟨172, [.t 6, .t 7], c38⟩
/-- strconv.toError -/
def c39 : AC :=
  (.seq (.reg [⟨some 10, none, .mv (.c (.ic0))⟩])
  (.seq (.seq (.reg [⟨some 11, none, .mv (.t 4)⟩])
   (.blk 0
    (.seq (.cut [0, 1, 2, 3, 4, 11] (.reg [⟨some 13, none, .mki 106 (.c (.i .i64 2))⟩,
       ⟨some 14, none, .bin .eql 26 (.t 11) (.t 13)⟩,
       ⟨some 12, none, .mv (.t 14)⟩]))
    (.cond (.t 12)
     (.seq (.cut [0, 1] (.reg [⟨some 15, none, .mv (.t 0)⟩,
        ⟨some 16, none, .mv (.t 1)⟩,
        ⟨some 17, none, .call (.c (.fn (.func 55) [] [])) [.t 15, .t 16]⟩,
        ⟨some 18, none, .mki 109 (.t 17)⟩,
        ⟨some 10, none, .mv (.t 18)⟩]))
     .ret)
     (.seq (.cut [0, 1, 2, 3, 4, 11] (.reg [⟨some 20, none, .mki 106 (.c (.i .i64 1))⟩,
        ⟨some 21, none, .bin .eql 26 (.t 11) (.t 20)⟩,
        ⟨some 19, none, .mv (.t 21)⟩]))
     (.cond (.t 19)
      (.seq (.cut [0, 1] (.reg [⟨some 22, none, .mv (.t 0)⟩,
         ⟨some 23, none, .mv (.t 1)⟩,
         ⟨some 24, none, .call (.c (.fn (.func 56) [] [])) [.t 22, .t 23]⟩,
         ⟨some 25, none, .mki 109 (.t 24)⟩,
         ⟨some 10, none, .mv (.t 25)⟩]))
      .ret)
      (.seq (.cut [0, 1, 2, 3, 4, 11] (.reg [⟨some 27, none, .mki 106 (.c (.i .i64 3))⟩,
         ⟨some 28, none, .bin .eql 26 (.t 11) (.t 27)⟩,
         ⟨some 26, none, .mv (.t 28)⟩]))
      (.cond (.t 26)
       (.seq (.cut [0, 1, 2] (.reg [⟨some 29, none, .mv (.t 0)⟩,
          ⟨some 30, none, .mv (.t 1)⟩,
          ⟨some 31, none, .mv (.t 2)⟩,
          ⟨some 32, none, .call (.c (.fn (.func 57) [] [])) [.t 29, .t 30, .t 31]⟩,
          ⟨some 33, none, .mki 109 (.t 32)⟩,
          ⟨some 10, none, .mv (.t 33)⟩]))
       .ret)
       (.seq (.cut [0, 1, 3, 4, 11] (.reg [⟨some 35, none, .mki 106 (.c (.i .i64 4))⟩,
          ⟨some 36, none, .bin .eql 26 (.t 11) (.t 35)⟩,
          ⟨some 34, none, .mv (.t 36)⟩]))
       (.cond (.t 34)
        (.seq (.cut [0, 1, 3] (.reg [⟨some 37, none, .mv (.t 0)⟩,
           ⟨some 38, none, .mv (.t 1)⟩,
           ⟨some 39, none, .mv (.t 3)⟩,
           ⟨some 40, none, .call (.c (.fn (.func 58) [] [])) [.t 37, .t 38, .t 39]⟩,
           ⟨some 41, none, .mki 109 (.t 40)⟩,
           ⟨some 10, none, .mv (.t 41)⟩]))
        .ret)
        .skip))))))))))
  (.seq (.reg [⟨some 42, none, .mv (.t 4)⟩,
     ⟨some 10, none, .mv (.t 42)⟩])
  .ret)))
def F39 : AF := ⟨43, [.t 10], c39⟩
/-- fallow/fallowref23.begins -/
def c43 : AC :=
  (.seq (.reg [⟨some 6, none, .mv (.c (.b false))⟩])
  (.seq (.cut [0, 1, 2] (.reg [⟨some 7, none, .mv (.t 1)⟩,
     ⟨some 8, none, .mv (.t 2)⟩,
     ⟨some 9, none, .len 9 (.t 8)⟩,
     ⟨some 10, none, .bin .add 3 (.t 7) (.t 9)⟩,
     ⟨some 11, none, .mv (.t 0)⟩,
     ⟨some 12, none, .len 9 (.t 11)⟩,
     ⟨some 13, none, .bin .leq 3 (.t 10) (.t 12)⟩,
     ⟨some 14, none, .mv (.t 13)⟩,
     ⟨some 15, some (14, true), .mv (.t 0)⟩,
     ⟨some 16, some (14, true), .mv (.t 1)⟩,
     ⟨some 17, some (14, true), .mv (.t 1)⟩,
     ⟨some 18, some (14, true), .mv (.t 2)⟩,
     ⟨some 19, some (14, true), .len 9 (.t 18)⟩,
     ⟨some 20, some (14, true), .bin .add 3 (.t 17) (.t 19)⟩,
     ⟨some 21, some (14, true), .slc 9 (.t 15) (some (.t 16)) (some (.t 20))⟩,
     ⟨some 22, some (14, true), .mv (.t 2)⟩,
     ⟨some 23, some (14, true), .bin .eql 9 (.t 21) (.t 22)⟩,
     ⟨some 24, none, .pick (.t 14) (.t 23) (.c (.b false))⟩,
     ⟨some 6, none, .mv (.t 24)⟩]))
  .ret))
def F43 : AF := ⟨25, [.t 6], c43⟩
/-- fallow/fallowref23.letter -/
def c44 : AC :=
  (.seq (.reg [⟨some 2, none, .mv (.c (.b false))⟩])
  (.seq (.cut [0] (.reg [⟨some 3, none, .mv (.t 0)⟩,
     ⟨some 4, none, .bin .geq 5 (.t 3) (.c (.i .u8 97))⟩,
     ⟨some 5, none, .mv (.t 4)⟩,
     ⟨some 6, some (5, true), .mv (.t 0)⟩,
     ⟨some 7, some (5, true), .bin .leq 5 (.t 6) (.c (.i .u8 122))⟩,
     ⟨some 8, none, .pick (.t 5) (.t 7) (.c (.b false))⟩,
     ⟨some 9, none, .mv (.t 8)⟩,
     ⟨some 10, some (9, false), .mv (.t 0)⟩,
     ⟨some 11, some (9, false), .bin .geq 5 (.t 10) (.c (.i .u8 65))⟩,
     ⟨some 12, some (9, false), .mv (.t 11)⟩,
     ⟨some 13, some (12, true), .mv (.t 0)⟩,
     ⟨some 14, some (12, true), .bin .leq 5 (.t 13) (.c (.i .u8 90))⟩,
     ⟨some 15, some (9, false), .pick (.t 12) (.t 14) (.c (.b false))⟩,
     ⟨some 16, none, .pick (.t 9) (.c (.b true)) (.t 15)⟩,
     ⟨some 17, none, .mv (.t 16)⟩,
     ⟨some 18, some (17, false), .mv (.t 0)⟩,
     ⟨some 19, some (17, false), .bin .eql 5 (.t 18) (.c (.i .u8 95))⟩,
     ⟨some 20, none, .pick (.t 17) (.c (.b true)) (.t 19)⟩,
     ⟨some 2, none, .mv (.t 20)⟩]))
  .ret))
def F44 : AF := ⟨21, [.t 2], c44⟩
/-- fallow/fallowref23.digit -/
def c45 : AC :=
  (.seq (.reg [⟨some 2, none, .mv (.c (.b false))⟩])
  (.seq (.cut [0] (.reg [⟨some 3, none, .mv (.t 0)⟩,
     ⟨some 4, none, .bin .geq 5 (.t 3) (.c (.i .u8 48))⟩,
     ⟨some 5, none, .mv (.t 4)⟩,
     ⟨some 6, some (5, true), .mv (.t 0)⟩,
     ⟨some 7, some (5, true), .bin .leq 5 (.t 6) (.c (.i .u8 57))⟩,
     ⟨some 8, none, .pick (.t 5) (.t 7) (.c (.b false))⟩,
     ⟨some 2, none, .mv (.t 8)⟩]))
  .ret))
def F45 : AF := ⟨9, [.t 2], c45⟩
/-- fallow/fallowref23.key -/
def c46L0 : AC :=
  (.seq (.seq (.cut [0, 3, 4] (.reg [⟨some 6, none, .mv (.t 4)⟩,
      ⟨some 7, none, .mv (.t 3)⟩,
      ⟨some 8, none, .len 22 (.t 7)⟩,
      ⟨some 9, none, .bin .lss 3 (.t 6) (.t 8)⟩]))
   (.cond (.t 9)
    .skip
    (.exit 0)))
  (.seq (.blk 1
    (.seq (.cut [0, 3, 4] (.reg [⟨some 12, none, .mv (.t 3)⟩,
       ⟨some 13, none, .mv (.t 4)⟩,
       ⟨some 14, none, .iad 22 (.t 12) (.t 13)⟩,
       ⟨some 15, none, .load 9 (.t 14)⟩,
       ⟨some 16, none, .mv (.t 0)⟩,
       ⟨some 17, none, .bin .eql 9 (.t 15) (.t 16)⟩]))
    (.cond (.t 17)
     (.seq (.reg [⟨some 2, none, .mv (.c (.b true))⟩])
     .ret)
     .skip)))
  (.cut [0, 3, 4] (.reg [⟨some 10, none, .mv (.t 4)⟩,
    ⟨some 11, none, .bin .add 3 (.t 10) (.c (.i .i64 1))⟩,
    ⟨some 4, none, .mv (.t 11)⟩]))))
def c46 : AC :=
  (.seq (.reg [⟨some 2, none, .mv (.c (.b false))⟩])
  (.seq (.reg [⟨some 5, none, .call (.c (.fn (.func 9) [] [])) []⟩,
     ⟨some 3, none, .mv (.t 5)⟩])
  (.seq (.seq (.reg [⟨some 4, none, .mv (.c (.i .i64 0))⟩])
   (.blk 0
    (.loop [0, 3, 4] c46L0)))
  (.seq (.reg [⟨some 2, none, .mv (.c (.b false))⟩])
  .ret))))
def F46 : AF := ⟨18, [.t 2], c46⟩
/-- fallow/fallowref23.number -/
def c47L0 : AC :=
  (.seq (.seq (.cut [0, 3, 4] (.reg [⟨some 5, none, .mv (.t 4)⟩,
      ⟨some 6, none, .mv (.t 0)⟩,
      ⟨some 7, none, .len 9 (.t 6)⟩,
      ⟨some 8, none, .bin .lss 3 (.t 5) (.t 7)⟩]))
   (.cond (.t 8)
    .skip
    (.exit 0)))
  (.seq (.blk 1
    (.seq (.cut [0, 3, 4] (.reg [⟨some 11, none, .mv (.t 3)⟩,
       ⟨some 12, none, .bin .mul 57 (.c (.i .u64 10)) (.t 11)⟩,
       ⟨some 13, none, .mv (.t 0)⟩,
       ⟨some 14, none, .mv (.t 4)⟩,
       ⟨some 15, none, .idx 9 (.t 13) (.t 14)⟩,
       ⟨some 16, none, .bin .sub 5 (.t 15) (.c (.i .u8 48))⟩,
       ⟨some 17, none, .conv 5 57 (.t 16)⟩,
       ⟨some 18, none, .bin .add 57 (.t 12) (.t 17)⟩,
       ⟨some 3, none, .mv (.t 18)⟩]))
    (.seq (.reg [⟨some 19, none, .mv (.t 3)⟩,
       ⟨some 20, none, .bin .geq 57 (.t 19) (.c (.i .u64 4294967296))⟩])
    (.cond (.t 20)
     (.seq (.reg [⟨some 2, none, .mv (.c (.b false))⟩])
     .ret)
     .skip))))
  (.cut [0, 3, 4] (.reg [⟨some 9, none, .mv (.t 4)⟩,
    ⟨some 10, none, .bin .add 3 (.t 9) (.c (.i .i64 1))⟩,
    ⟨some 4, none, .mv (.t 10)⟩]))))
def c47 : AC :=
  (.seq (.reg [⟨some 2, none, .mv (.c (.b false))⟩])
  (.seq (.reg [⟨some 3, none, .mv (.c (.i .u64 0))⟩])
  (.seq (.seq (.reg [⟨some 4, none, .mv (.c (.i .i64 0))⟩])
   (.blk 0
    (.loop [0, 3, 4] c47L0)))
  (.seq (.reg [⟨some 2, none, .mv (.c (.b true))⟩])
  .ret))))
def F47 : AF := ⟨21, [.t 2], c47⟩
/-- fallow/fallowref23.signs -/
def c48 : AC :=
  (.seq (.reg [⟨some 0, none, .mv (.c (.sl0))⟩])
  (.seq (.reg [⟨some 1, none, .bsl 22 29 [(0, .c (.s [124, 124])), (1, .c (.s [38, 38])), (2, .c (.s [61, 61])), (3, .c (.s [33, 61])), (4, .c (.s [60, 61])), (5, .c (.s [62, 61])), (6, .c (.s [60, 60])), (7, .c (.s [62, 62])), (8, .c (.s [40])), (9, .c (.s [41])), (10, .c (.s [123])), (11, .c (.s [125])), (12, .c (.s [91])), (13, .c (.s [93])), (14, .c (.s [44])), (15, .c (.s [59])), (16, .c (.s [58])), (17, .c (.s [61])), (18, .c (.s [60])), (19, .c (.s [62])), (20, .c (.s [43])), (21, .c (.s [45])), (22, .c (.s [124])), (23, .c (.s [94])), (24, .c (.s [38])), (25, .c (.s [42])), (26, .c (.s [47])), (27, .c (.s [37])), (28, .c (.s [33]))]⟩,
     ⟨some 0, none, .mv (.t 1)⟩])
  .ret))
def F48 : AF := ⟨2, [.t 0], c48⟩
/-- errors.is -/
def c49L0 : AC :=
  (.seq (.reg [⟨some 46, none, .bin .lss 3 (.t 45) (.t 44)⟩])
  (.seq (.cond (.t 46)
    .skip
    (.exit 3))
  (.seq (.blk 4
    (.seq (.cut [1, 2, 43, 44, 45] (.reg [⟨some 47, none, .iad 95 (.t 43) (.t 45)⟩,
       ⟨some 48, none, .load 26 (.t 47)⟩,
       ⟨some 12, none, .mv (.t 48)⟩]))
    (.seq (.cut [1, 2, 12, 43, 44, 45] (.reg [⟨some 49, none, .mv (.t 12)⟩,
       ⟨some 50, none, .mv (.t 1)⟩,
       ⟨some 51, none, .mv (.t 2)⟩,
       ⟨some 52, none, .call (.c (.fn (.func 49) [] [])) [.t 49, .t 50, .t 51]⟩]))
    (.cond (.t 52)
     (.seq (.reg [⟨some 6, none, .mv (.c (.b true))⟩])
     .ret)
     .skip))))
  (.reg [⟨some 53, none, .bin .add 3 (.t 45) (.c (.i .i64 1))⟩,
    ⟨some 45, none, .mv (.t 53)⟩]))))
def c49L1 : AC :=
  (.blk 1
   (.seq (.seq (.cut [0, 1, 2] (.reg [⟨some 14, none, .mv (.t 2)⟩,
       ⟨some 15, none, .mv (.t 14)⟩,
       ⟨some 16, some (15, true), .mv (.t 0)⟩,
       ⟨some 17, some (15, true), .mv (.t 1)⟩,
       ⟨some 18, some (15, true), .bin .eql 26 (.t 16) (.t 17)⟩,
       ⟨some 19, none, .pick (.t 15) (.t 18) (.c (.b false))⟩]))
    (.cond (.t 19)
     (.seq (.reg [⟨some 6, none, .mv (.c (.b true))⟩])
     .ret)
     .skip))
   (.seq (.seq (.cut [0, 1, 2] (.reg [⟨some 21, none, .mv (.t 0)⟩,
       ⟨some 22, none, .tas (.t 21) 26 112 true⟩,
       ⟨some 20, none, .mv (.t 22)⟩,
       ⟨some 23, none, .ext (.t 20) 0⟩,
       ⟨some 24, none, .ext (.t 20) 1⟩,
       ⟨some 7, none, .mv (.t 23)⟩,
       ⟨some 8, none, .mv (.t 24)⟩]))
    (.seq (.cut [0, 1, 2, 7, 8] (.reg [⟨some 25, none, .mv (.t 8)⟩,
       ⟨some 26, none, .mv (.t 25)⟩,
       ⟨some 27, some (26, true), .mv (.t 7)⟩,
       ⟨some 28, some (26, true), .mv (.t 1)⟩,
       ⟨some 29, some (26, true), .inv (.t 27) "Is" [.t 28]⟩,
       ⟨some 30, none, .pick (.t 26) (.t 29) (.c (.b false))⟩]))
    (.cond (.t 30)
     (.seq (.reg [⟨some 6, none, .mv (.c (.b true))⟩])
     .ret)
     .skip)))
   (.seq (.reg [⟨some 31, none, .mv (.t 0)⟩])
   (.blk 2
    (.seq (.cut [1, 2, 31] (.reg [⟨some 32, none, .tas (.t 31) 26 92 true⟩,
       ⟨some 33, none, .ext (.t 32) 1⟩,
       ⟨some 34, none, .ext (.t 32) 0⟩]))
    (.cond (.t 33)
     (.seq (.reg [⟨some 9, none, .mv (.t 34)⟩])
     (.seq (.cut [1, 2, 9] (.reg [⟨some 35, none, .mv (.t 9)⟩,
        ⟨some 36, none, .inv (.t 35) "Unwrap" []⟩,
        ⟨some 0, none, .mv (.t 36)⟩]))
     (.seq (.reg [⟨some 37, none, .mv (.t 0)⟩,
        ⟨some 38, none, .bin .eql 26 (.t 37) (.c (.ic0))⟩])
     (.cond (.t 38)
      (.seq (.reg [⟨some 6, none, .mv (.c (.b false))⟩])
      .ret)
      .skip))))
     (.seq (.cut [1, 2, 31] (.reg [⟨some 39, none, .tas (.t 31) 26 94 true⟩,
        ⟨some 40, none, .ext (.t 39) 1⟩,
        ⟨some 41, none, .ext (.t 39) 0⟩]))
     (.cond (.t 40)
      (.seq (.reg [⟨some 10, none, .mv (.t 41)⟩])
      (.seq (.seq (.cut [1, 2, 10] (.reg [⟨some 42, none, .mv (.t 10)⟩,
          ⟨some 43, none, .inv (.t 42) "Unwrap" []⟩,
          ⟨some 44, none, .len 95 (.t 43)⟩,
          ⟨some 45, none, .mv (.c (.i .i64 0))⟩]))
       (.blk 3
        (.loop [1, 2, 43, 44, 45] c49L0)))
      (.seq (.reg [⟨some 6, none, .mv (.c (.b false))⟩])
      .ret)))
      (.seq (.reg [⟨some 13, none, .mv (.t 31)⟩])
      (.seq (.reg [⟨some 6, none, .mv (.c (.b false))⟩])
      .ret)))))))))))
def c49 : AC :=
  (.seq (.reg [⟨some 6, none, .mv (.c (.b false))⟩])
  (.blk 0
   (.loop [0, 1, 2] c49L1)))
def F49 : AF := ⟨54, [.t 6], c49⟩
/-- unicode.isExcludingLatin -/
def c50 : AC :=
  (.seq (.reg [⟨some 4, none, .mv (.c (.b false))⟩])
  (.seq (.cut [0, 1] (.reg [⟨some 8, none, .mv (.t 0)⟩,
     ⟨some 9, none, .nilck (.t 8)⟩,
     ⟨some 10, none, .fad 118 (.t 9) 0⟩,
     ⟨some 11, none, .load 115 (.t 10)⟩,
     ⟨some 5, none, .mv (.t 11)⟩]))
  (.seq (.seq (.cut [0, 1, 5] (.reg [⟨some 12, none, .mv (.t 0)⟩,
      ⟨some 13, none, .nilck (.t 12)⟩,
      ⟨some 14, none, .fad 118 (.t 13) 2⟩,
      ⟨some 15, none, .load 3 (.t 14)⟩,
      ⟨some 6, none, .mv (.t 15)⟩]))
   (.seq (.cut [0, 1, 5, 6] (.reg [⟨some 16, none, .mv (.t 5)⟩,
      ⟨some 17, none, .len 115 (.t 16)⟩,
      ⟨some 18, none, .mv (.t 6)⟩,
      ⟨some 19, none, .bin .gtr 3 (.t 17) (.t 18)⟩,
      ⟨some 20, none, .mv (.t 19)⟩,
      ⟨some 21, some (20, true), .mv (.t 1)⟩,
      ⟨some 22, some (20, true), .conv 21 102 (.t 21)⟩,
      ⟨some 23, some (20, true), .mv (.t 5)⟩,
      ⟨some 24, some (20, true), .mv (.t 5)⟩,
      ⟨some 25, some (20, true), .len 115 (.t 24)⟩,
      ⟨some 26, some (20, true), .bin .sub 3 (.t 25) (.c (.i .i64 1))⟩,
      ⟨some 27, some (20, true), .iad 115 (.t 23) (.t 26)⟩,
      ⟨some 28, some (20, true), .fad 121 (.t 27) 1⟩,
      ⟨some 29, some (20, true), .load 119 (.t 28)⟩,
      ⟨some 30, some (20, true), .conv 119 102 (.t 29)⟩,
      ⟨some 31, some (20, true), .bin .leq 102 (.t 22) (.t 30)⟩,
      ⟨some 32, none, .pick (.t 20) (.t 31) (.c (.b false))⟩]))
   (.cond (.t 32)
    (.seq (.cut [1, 5, 6] (.reg [⟨some 33, none, .mv (.t 5)⟩,
       ⟨some 34, none, .mv (.t 6)⟩,
       ⟨some 35, none, .slc 115 (.t 33) (some (.t 34)) none⟩,
       ⟨some 36, none, .mv (.t 1)⟩,
       ⟨some 37, none, .conv 21 119 (.t 36)⟩,
       ⟨some 38, none, .call (.c (.fn (.func 59) [] [])) [.t 35, .t 37]⟩,
       ⟨some 4, none, .mv (.t 38)⟩]))
    .ret)
    .skip)))
  (.seq (.cut [0, 1] (.reg [⟨some 39, none, .mv (.t 0)⟩,
     ⟨some 40, none, .nilck (.t 39)⟩,
     ⟨some 41, none, .fad 118 (.t 40) 1⟩,
     ⟨some 42, none, .load 116 (.t 41)⟩,
     ⟨some 7, none, .mv (.t 42)⟩]))
  (.seq (.seq (.cut [1, 7] (.reg [⟨some 43, none, .mv (.t 7)⟩,
      ⟨some 44, none, .len 116 (.t 43)⟩,
      ⟨some 45, none, .bin .gtr 3 (.t 44) (.c (.i .i64 0))⟩,
      ⟨some 46, none, .mv (.t 45)⟩,
      ⟨some 47, some (46, true), .mv (.t 1)⟩,
      ⟨some 48, some (46, true), .mv (.t 7)⟩,
      ⟨some 49, some (46, true), .iad 116 (.t 48) (.c (.i .i64 0))⟩,
      ⟨some 50, some (46, true), .fad 124 (.t 49) 0⟩,
      ⟨some 51, some (46, true), .load 102 (.t 50)⟩,
      ⟨some 52, some (46, true), .conv 102 21 (.t 51)⟩,
      ⟨some 53, some (46, true), .bin .geq 21 (.t 47) (.t 52)⟩,
      ⟨some 54, none, .pick (.t 46) (.t 53) (.c (.b false))⟩]))
   (.cond (.t 54)
    (.seq (.cut [1, 7] (.reg [⟨some 55, none, .mv (.t 7)⟩,
       ⟨some 56, none, .mv (.t 1)⟩,
       ⟨some 57, none, .conv 21 102 (.t 56)⟩,
       ⟨some 58, none, .call (.c (.fn (.func 60) [] [])) [.t 55, .t 57]⟩,
       ⟨some 4, none, .mv (.t 58)⟩]))
    .ret)
    .skip))
  (.seq (.reg [⟨some 4, none, .mv (.c (.b false))⟩])
  .ret))))))
def F50 : AF := ⟨59, [.t 4], c50⟩
/-- slices.Index[[]fallow/lex.kind,fallow/lex.kind] -/
def c52L0 : AC :=
  (.seq (.reg [⟨some 9, none, .bin .lss 3 (.t 8) (.t 7)⟩])
  (.seq (.cond (.t 9)
    .skip
    (.exit 0))
  (.seq (.blk 1
    (.seq (.reg [⟨some 10, none, .mv (.t 8)⟩,
       ⟨some 5, none, .mv (.t 10)⟩])
    (.seq (.cut [0, 1, 5, 7, 8] (.reg [⟨some 11, none, .mv (.t 1)⟩,
       ⟨some 12, none, .mv (.t 0)⟩,
       ⟨some 13, none, .mv (.t 5)⟩,
       ⟨some 14, none, .iad 79 (.t 12) (.t 13)⟩,
       ⟨some 15, none, .load 53 (.t 14)⟩,
       ⟨some 16, none, .bin .eql 53 (.t 11) (.t 15)⟩]))
    (.cond (.t 16)
     (.seq (.reg [⟨some 17, none, .mv (.t 5)⟩,
        ⟨some 4, none, .mv (.t 17)⟩])
     .ret)
     .skip))))
  (.reg [⟨some 18, none, .bin .add 3 (.t 8) (.c (.i .i64 1))⟩,
    ⟨some 8, none, .mv (.t 18)⟩]))))
def c52 : AC :=
  (.seq (.reg [⟨some 4, none, .mv (.c (.i .i64 0))⟩])
  (.seq (.seq (.cut [0, 1] (.reg [⟨some 6, none, .mv (.t 0)⟩,
      ⟨some 7, none, .len 79 (.t 6)⟩,
      ⟨some 8, none, .mv (.c (.i .i64 0))⟩]))
   (.blk 0
    (.loop [0, 1, 7, 8] c52L0)))
  (.seq (.reg [⟨some 4, none, .mv (.c (.i .i64 (-1)))⟩])
  .ret)))
def F52 : AF := ⟨19, [.t 4], c52⟩
/-- internal/strconv.lower -/
def c53 : AC :=
  (.seq (.reg [⟨some 2, none, .mv (.c (.i .u8 0))⟩])
  (.seq (.cut [0] (.reg [⟨some 3, none, .mv (.t 0)⟩,
     ⟨some 4, none, .bin .or 5 (.t 3) (.c (.i .u8 32))⟩,
     ⟨some 2, none, .mv (.t 4)⟩]))
  .ret))
def F53 : AF := ⟨5, [.t 2], c53⟩
/-- internal/strconv.underscoreOK -/
def c54L0 : AC :=
  (.seq (.seq (.cut [0, 3, 4, 5] (.reg [⟨some 51, none, .mv (.t 4)⟩,
      ⟨some 52, none, .mv (.t 0)⟩,
      ⟨some 53, none, .len 9 (.t 52)⟩,
      ⟨some 54, none, .bin .lss 3 (.t 51) (.t 53)⟩]))
   (.cond (.t 54)
    .skip
    (.exit 0)))
  (.seq (.blk 1
    (.seq (.seq (.cut [0, 3, 4, 5] (.reg [⟨some 57, none, .mv (.t 0)⟩,
        ⟨some 58, none, .mv (.t 4)⟩,
        ⟨some 59, none, .idx 9 (.t 57) (.t 58)⟩,
        ⟨some 60, none, .bin .leq 5 (.c (.i .u8 48)) (.t 59)⟩,
        ⟨some 61, none, .mv (.t 60)⟩,
        ⟨some 62, some (61, true), .mv (.t 0)⟩,
        ⟨some 63, some (61, true), .mv (.t 4)⟩,
        ⟨some 64, some (61, true), .idx 9 (.t 62) (.t 63)⟩,
        ⟨some 65, some (61, true), .bin .leq 5 (.t 64) (.c (.i .u8 57))⟩,
        ⟨some 66, none, .pick (.t 61) (.t 65) (.c (.b false))⟩,
        ⟨some 67, none, .mv (.t 66)⟩,
        ⟨some 68, some (67, false), .mv (.t 5)⟩,
        ⟨some 69, some (67, false), .mv (.t 68)⟩,
        ⟨some 70, some (69, true), .mv (.t 0)⟩,
        ⟨some 71, some (69, true), .mv (.t 4)⟩,
        ⟨some 72, some (69, true), .idx 9 (.t 70) (.t 71)⟩,
        ⟨some 73, some (69, true), .call (.c (.fn (.func 53) [] [])) [.t 72]⟩,
        ⟨some 74, some (69, true), .bin .leq 5 (.c (.i .u8 97)) (.t 73)⟩,
        ⟨some 75, some (67, false), .pick (.t 69) (.t 74) (.c (.b false))⟩,
        ⟨some 76, some (67, false), .mv (.t 75)⟩,
        ⟨some 77, some (76, true), .mv (.t 0)⟩,
        ⟨some 78, some (76, true), .mv (.t 4)⟩,
        ⟨some 79, some (76, true), .idx 9 (.t 77) (.t 78)⟩,
        ⟨some 80, some (76, true), .call (.c (.fn (.func 53) [] [])) [.t 79]⟩,
        ⟨some 81, some (76, true), .bin .leq 5 (.t 80) (.c (.i .u8 102))⟩,
        ⟨some 82, some (67, false), .pick (.t 76) (.t 81) (.c (.b false))⟩,
        ⟨some 83, none, .pick (.t 67) (.c (.b true)) (.t 82)⟩]))
     (.cond (.t 83)
      (.seq (.reg [⟨some 3, none, .mv (.c (.i .i32 48))⟩])
      (.exit 1))
      .skip))
    (.seq (.seq (.cut [0, 3, 4, 5] (.reg [⟨some 84, none, .mv (.t 0)⟩,
        ⟨some 85, none, .mv (.t 4)⟩,
        ⟨some 86, none, .idx 9 (.t 84) (.t 85)⟩,
        ⟨some 87, none, .bin .eql 5 (.t 86) (.c (.i .u8 95))⟩]))
     (.cond (.t 87)
      (.seq (.seq (.reg [⟨some 88, none, .mv (.t 3)⟩,
          ⟨some 89, none, .bin .neq 21 (.t 88) (.c (.i .i32 48))⟩])
       (.cond (.t 89)
        (.seq (.reg [⟨some 2, none, .mv (.c (.b false))⟩])
        .ret)
        .skip))
      (.seq (.reg [⟨some 3, none, .mv (.c (.i .i32 95))⟩])
      (.exit 1)))
      .skip))
    (.seq (.seq (.reg [⟨some 90, none, .mv (.t 3)⟩,
        ⟨some 91, none, .bin .eql 21 (.t 90) (.c (.i .i32 95))⟩])
     (.cond (.t 91)
      (.seq (.reg [⟨some 2, none, .mv (.c (.b false))⟩])
      .ret)
      .skip))
    (.reg [⟨some 3, none, .mv (.c (.i .i32 33))⟩])))))
  (.cut [0, 3, 4, 5] (.reg [⟨some 55, none, .mv (.t 4)⟩,
    ⟨some 56, none, .bin .add 3 (.t 55) (.c (.i .i64 1))⟩,
    ⟨some 4, none, .mv (.t 56)⟩]))))
def c54 : AC :=
  (.seq (.reg [⟨some 2, none, .mv (.c (.b false))⟩])
  (.seq (.reg [⟨some 3, none, .mv (.c (.i .i32 94))⟩])
  (.seq (.reg [⟨some 4, none, .mv (.c (.i .i64 0))⟩])
  (.seq (.seq (.cut [0, 3, 4] (.reg [⟨some 6, none, .mv (.t 0)⟩,
      ⟨some 7, none, .len 9 (.t 6)⟩,
      ⟨some 8, none, .bin .geq 3 (.t 7) (.c (.i .i64 1))⟩,
      ⟨some 9, none, .mv (.t 8)⟩,
      ⟨some 10, some (9, true), .mv (.t 0)⟩,
      ⟨some 11, some (9, true), .idx 9 (.t 10) (.c (.i .i64 0))⟩,
      ⟨some 12, some (9, true), .bin .eql 5 (.t 11) (.c (.i .u8 45))⟩,
      ⟨some 13, some (9, true), .mv (.t 12)⟩,
      ⟨some 14, some (13, false), .mv (.t 0)⟩,
      ⟨some 15, some (13, false), .idx 9 (.t 14) (.c (.i .i64 0))⟩,
      ⟨some 16, some (13, false), .bin .eql 5 (.t 15) (.c (.i .u8 43))⟩,
      ⟨some 17, some (9, true), .pick (.t 13) (.c (.b true)) (.t 16)⟩,
      ⟨some 18, none, .pick (.t 9) (.t 17) (.c (.b false))⟩]))
   (.cond (.t 18)
    (.cut [0, 3, 4] (.reg [⟨some 19, none, .mv (.t 0)⟩,
      ⟨some 20, none, .slc 9 (.t 19) (some (.c (.i .i64 1))) none⟩,
      ⟨some 0, none, .mv (.t 20)⟩]))
    .skip))
  (.seq (.reg [⟨some 5, none, .mv (.c (.b false))⟩])
  (.seq (.seq (.cut [0, 3, 4, 5] (.reg [⟨some 21, none, .mv (.t 0)⟩,
      ⟨some 22, none, .len 9 (.t 21)⟩,
      ⟨some 23, none, .bin .geq 3 (.t 22) (.c (.i .i64 2))⟩,
      ⟨some 24, none, .mv (.t 23)⟩,
      ⟨some 25, some (24, true), .mv (.t 0)⟩,
      ⟨some 26, some (24, true), .idx 9 (.t 25) (.c (.i .i64 0))⟩,
      ⟨some 27, some (24, true), .bin .eql 5 (.t 26) (.c (.i .u8 48))⟩,
      ⟨some 28, none, .pick (.t 24) (.t 27) (.c (.b false))⟩,
      ⟨some 29, none, .mv (.t 28)⟩,
      ⟨some 30, some (29, true), .mv (.t 0)⟩,
      ⟨some 31, some (29, true), .idx 9 (.t 30) (.c (.i .i64 1))⟩,
      ⟨some 32, some (29, true), .call (.c (.fn (.func 53) [] [])) [.t 31]⟩,
      ⟨some 33, some (29, true), .bin .eql 5 (.t 32) (.c (.i .u8 98))⟩,
      ⟨some 34, some (29, true), .mv (.t 33)⟩,
      ⟨some 35, some (34, false), .mv (.t 0)⟩,
      ⟨some 36, some (34, false), .idx 9 (.t 35) (.c (.i .i64 1))⟩,
      ⟨some 37, some (34, false), .call (.c (.fn (.func 53) [] [])) [.t 36]⟩,
      ⟨some 38, some (34, false), .bin .eql 5 (.t 37) (.c (.i .u8 111))⟩,
      ⟨some 39, some (29, true), .pick (.t 34) (.c (.b true)) (.t 38)⟩,
      ⟨some 40, some (29, true), .mv (.t 39)⟩,
      ⟨some 41, some (40, false), .mv (.t 0)⟩,
      ⟨some 42, some (40, false), .idx 9 (.t 41) (.c (.i .i64 1))⟩,
      ⟨some 43, some (40, false), .call (.c (.fn (.func 53) [] [])) [.t 42]⟩,
      ⟨some 44, some (40, false), .bin .eql 5 (.t 43) (.c (.i .u8 120))⟩,
      ⟨some 45, some (29, true), .pick (.t 40) (.c (.b true)) (.t 44)⟩,
      ⟨some 46, none, .pick (.t 29) (.t 45) (.c (.b false))⟩]))
   (.cond (.t 46)
    (.seq (.reg [⟨some 4, none, .mv (.c (.i .i64 2))⟩])
    (.seq (.reg [⟨some 3, none, .mv (.c (.i .i32 48))⟩])
    (.cut [0, 3, 4] (.reg [⟨some 47, none, .mv (.t 0)⟩,
      ⟨some 48, none, .idx 9 (.t 47) (.c (.i .i64 1))⟩,
      ⟨some 49, none, .call (.c (.fn (.func 53) [] [])) [.t 48]⟩,
      ⟨some 50, none, .bin .eql 5 (.t 49) (.c (.i .u8 120))⟩,
      ⟨some 5, none, .mv (.t 50)⟩]))))
    .skip))
  (.seq (.blk 0
    (.loop [0, 3, 4, 5] c54L0))
  (.seq (.cut [3] (.reg [⟨some 92, none, .mv (.t 3)⟩,
     ⟨some 93, none, .bin .neq 21 (.t 92) (.c (.i .i32 95))⟩,
     ⟨some 2, none, .mv (.t 93)⟩]))
  .ret))))))))
def F54 : AF := ⟨94, [.t 2], c54⟩
/-- strconv.syntaxError -/
def c55 : AC :=
  (.seq (.reg [⟨some 4, none, .mv (.c (.p0))⟩])
  (.seq (.cut [0, 1] (.drw [(⟨some 5, none, .mv (.t 0)⟩, []),
     (⟨some 6, none, .mv (.t 1)⟩, []),
     (⟨some 8, none, .load 26 (.c (.p 4 0 0))⟩, []),
     (⟨some 7, none, .call (.c (.fn (.func 61) [] [])) [.t 6]⟩, [⟨some 8, none, .load 26 (.c (.p 4 0 0))⟩]),
     (⟨some 9, none, .build 128 [(0, .t 5), (1, .t 7), (2, .t 8)]⟩, []),
     (⟨some 10, none, .box 128 (.t 9)⟩, []),
     (⟨some 4, none, .mv (.t 10)⟩, [])]))
  .ret))
def F55 : AF := ⟨11, [.t 4], c55⟩
/-- strconv.rangeError -/
def c56 : AC :=
  (.seq (.reg [⟨some 4, none, .mv (.c (.p0))⟩])
  (.seq (.cut [0, 1] (.drw [(⟨some 5, none, .mv (.t 0)⟩, []),
     (⟨some 6, none, .mv (.t 1)⟩, []),
     (⟨some 8, none, .load 26 (.c (.p 5 0 0))⟩, []),
     (⟨some 7, none, .call (.c (.fn (.func 61) [] [])) [.t 6]⟩, [⟨some 8, none, .load 26 (.c (.p 5 0 0))⟩]),
     (⟨some 9, none, .build 128 [(0, .t 5), (1, .t 7), (2, .t 8)]⟩, []),
     (⟨some 10, none, .box 128 (.t 9)⟩, []),
     (⟨some 4, none, .mv (.t 10)⟩, [])]))
  .ret))
def F56 : AF := ⟨11, [.t 4], c56⟩
/-- strconv.baseError -/
def c57 : AC :=
  (.seq (.reg [⟨some 6, none, .mv (.c (.p0))⟩])
  (.seq (.cut [0, 1, 2] (.reg [⟨some 7, none, .mv (.t 0)⟩,
     ⟨some 8, none, .mv (.t 1)⟩,
     ⟨some 9, none, .call (.c (.fn (.func 61) [] [])) [.t 8]⟩,
     ⟨some 10, none, .mv (.t 2)⟩,
     ⟨some 11, none, .call (.c (.fn (.func 63) [] [])) [.t 10]⟩,
     ⟨some 12, none, .bin .add 9 (.c (.s [105, 110, 118, 97, 108, 105, 100, 32, 98, 97, 115, 101, 32])) (.t 11)⟩,
     ⟨some 13, none, .call (.c (.fn (.func 62) [] [])) [.t 12]⟩,
     ⟨some 14, none, .build 128 [(0, .t 7), (1, .t 9), (2, .t 13)]⟩,
     ⟨some 15, none, .box 128 (.t 14)⟩,
     ⟨some 6, none, .mv (.t 15)⟩]))
  .ret))
def F57 : AF := ⟨16, [.t 6], c57⟩
/-- strconv.bitSizeError -/
def c58 : AC :=
  (.seq (.reg [⟨some 6, none, .mv (.c (.p0))⟩])
  (.seq (.cut [0, 1, 2] (.reg [⟨some 7, none, .mv (.t 0)⟩,
     ⟨some 8, none, .mv (.t 1)⟩,
     ⟨some 9, none, .call (.c (.fn (.func 61) [] [])) [.t 8]⟩,
     ⟨some 10, none, .mv (.t 2)⟩,
     ⟨some 11, none, .call (.c (.fn (.func 63) [] [])) [.t 10]⟩,
     ⟨some 12, none, .bin .add 9 (.c (.s [105, 110, 118, 97, 108, 105, 100, 32, 98, 105, 116, 32, 115, 105, 122, 101, 32])) (.t 11)⟩,
     ⟨some 13, none, .call (.c (.fn (.func 62) [] [])) [.t 12]⟩,
     ⟨some 14, none, .build 128 [(0, .t 7), (1, .t 9), (2, .t 13)]⟩,
     ⟨some 15, none, .box 128 (.t 14)⟩,
     ⟨some 6, none, .mv (.t 15)⟩]))
  .ret))
def F58 : AF := ⟨16, [.t 6], c58⟩
/-- unicode.is16 -/
def c59L0 : AC :=
  (.seq (.reg [⟨some 21, none, .bin .lss 3 (.t 20) (.t 19)⟩])
  (.seq (.cond (.t 21)
    .skip
    (.exit 0))
  (.seq (.blk 1
    (.seq (.reg [⟨some 22, none, .mv (.t 20)⟩,
       ⟨some 5, none, .mv (.t 22)⟩])
    (.seq (.cut [0, 1, 5, 19, 20] (.reg [⟨some 23, none, .mv (.t 0)⟩,
       ⟨some 24, none, .mv (.t 5)⟩,
       ⟨some 25, none, .iad 115 (.t 23) (.t 24)⟩,
       ⟨some 6, none, .mv (.t 25)⟩]))
    (.seq (.seq (.cut [0, 1, 6, 19, 20] (.reg [⟨some 26, none, .mv (.t 1)⟩,
        ⟨some 27, none, .mv (.t 6)⟩,
        ⟨some 28, none, .nilck (.t 27)⟩,
        ⟨some 29, none, .fad 121 (.t 28) 0⟩,
        ⟨some 30, none, .load 119 (.t 29)⟩,
        ⟨some 31, none, .bin .lss 119 (.t 26) (.t 30)⟩]))
     (.cond (.t 31)
      (.seq (.reg [⟨some 4, none, .mv (.c (.b false))⟩])
      .ret)
      .skip))
    (.seq (.cut [0, 1, 6, 19, 20] (.reg [⟨some 32, none, .mv (.t 1)⟩,
       ⟨some 33, none, .mv (.t 6)⟩,
       ⟨some 34, none, .nilck (.t 33)⟩,
       ⟨some 35, none, .fad 121 (.t 34) 1⟩,
       ⟨some 36, none, .load 119 (.t 35)⟩,
       ⟨some 37, none, .bin .leq 119 (.t 32) (.t 36)⟩]))
    (.cond (.t 37)
     (.seq (.cut [1, 6] (.drw [(⟨some 38, none, .mv (.t 6)⟩, []),
        (⟨some 39, none, .nilck (.t 38)⟩, []),
        (⟨some 40, none, .fad 121 (.t 39) 2⟩, []),
        (⟨some 41, none, .load 119 (.t 40)⟩, []),
        (⟨some 42, none, .bin .eql 119 (.t 41) (.c (.i .u16 1))⟩, []),
        (⟨some 43, none, .mv (.t 42)⟩, []),
        (⟨some 44, some (43, false), .mv (.t 1)⟩, []),
        (⟨some 45, some (43, false), .mv (.t 6)⟩, []),
        (⟨some 46, some (43, false), .nilck (.t 45)⟩, []),
        (⟨some 47, some (43, false), .fad 121 (.t 46) 0⟩, []),
        (⟨some 48, some (43, false), .load 119 (.t 47)⟩, []),
        (⟨some 49, some (43, false), .bin .sub 119 (.t 44) (.t 48)⟩, []),
        (⟨some 50, some (43, false), .mv (.t 6)⟩, []),
        (⟨some 51, some (43, false), .nilck (.t 50)⟩, []),
        (⟨some 52, some (43, false), .fad 121 (.t 51) 2⟩, []),
        (⟨some 53, some (43, false), .load 119 (.t 52)⟩, []),
        (⟨some 54, some (43, false), .bin .rem 119 (.t 49) (.t 53)⟩, []),
        (⟨some 55, some (43, false), .bin .eql 119 (.t 54) (.c (.i .u16 0))⟩, []),
        (⟨some 56, none, .pick (.t 43) (.c (.b true)) (.t 55)⟩, []),
        (⟨some 4, none, .mv (.t 56)⟩, [])]))
     .ret)
     .skip))))))
  (.reg [⟨some 57, none, .bin .add 3 (.t 20) (.c (.i .i64 1))⟩,
    ⟨some 20, none, .mv (.t 57)⟩]))))
def c59L1 : AC :=
  (.seq (.seq (.cut [0, 1, 7, 8] (.reg [⟨some 60, none, .mv (.t 7)⟩,
      ⟨some 61, none, .mv (.t 8)⟩,
      ⟨some 62, none, .bin .lss 3 (.t 60) (.t 61)⟩]))
   (.cond (.t 62)
    .skip
    (.exit 2)))
  (.blk 3
   (.seq (.cut [0, 1, 7, 8] (.reg [⟨some 63, none, .mv (.t 7)⟩,
      ⟨some 64, none, .mv (.t 8)⟩,
      ⟨some 65, none, .bin .add 3 (.t 63) (.t 64)⟩,
      ⟨some 66, none, .conv 3 108 (.t 65)⟩,
      ⟨some 67, none, .bin .shr 108 (.t 66) (.c (.i .u64 1))⟩,
      ⟨some 68, none, .conv 108 3 (.t 67)⟩,
      ⟨some 9, none, .mv (.t 68)⟩]))
   (.seq (.cut [0, 1, 7, 8, 9] (.reg [⟨some 69, none, .mv (.t 0)⟩,
      ⟨some 70, none, .mv (.t 9)⟩,
      ⟨some 71, none, .iad 115 (.t 69) (.t 70)⟩,
      ⟨some 10, none, .mv (.t 71)⟩]))
   (.seq (.seq (.cut [0, 1, 7, 8, 9, 10] (.reg [⟨some 72, none, .mv (.t 10)⟩,
       ⟨some 73, none, .nilck (.t 72)⟩,
       ⟨some 74, none, .fad 121 (.t 73) 0⟩,
       ⟨some 75, none, .load 119 (.t 74)⟩,
       ⟨some 76, none, .mv (.t 1)⟩,
       ⟨some 77, none, .bin .leq 119 (.t 75) (.t 76)⟩,
       ⟨some 78, none, .mv (.t 77)⟩,
       ⟨some 79, some (78, true), .mv (.t 1)⟩,
       ⟨some 80, some (78, true), .mv (.t 10)⟩,
       ⟨some 81, some (78, true), .nilck (.t 80)⟩,
       ⟨some 82, some (78, true), .fad 121 (.t 81) 1⟩,
       ⟨some 83, some (78, true), .load 119 (.t 82)⟩,
       ⟨some 84, some (78, true), .bin .leq 119 (.t 79) (.t 83)⟩,
       ⟨some 85, none, .pick (.t 78) (.t 84) (.c (.b false))⟩]))
    (.cond (.t 85)
     (.seq (.cut [1, 10] (.drw [(⟨some 86, none, .mv (.t 10)⟩, []),
        (⟨some 87, none, .nilck (.t 86)⟩, []),
        (⟨some 88, none, .fad 121 (.t 87) 2⟩, []),
        (⟨some 89, none, .load 119 (.t 88)⟩, []),
        (⟨some 90, none, .bin .eql 119 (.t 89) (.c (.i .u16 1))⟩, []),
        (⟨some 91, none, .mv (.t 90)⟩, []),
        (⟨some 92, some (91, false), .mv (.t 1)⟩, []),
        (⟨some 93, some (91, false), .mv (.t 10)⟩, []),
        (⟨some 94, some (91, false), .nilck (.t 93)⟩, []),
        (⟨some 95, some (91, false), .fad 121 (.t 94) 0⟩, []),
        (⟨some 96, some (91, false), .load 119 (.t 95)⟩, []),
        (⟨some 97, some (91, false), .bin .sub 119 (.t 92) (.t 96)⟩, []),
        (⟨some 98, some (91, false), .mv (.t 10)⟩, []),
        (⟨some 99, some (91, false), .nilck (.t 98)⟩, []),
        (⟨some 100, some (91, false), .fad 121 (.t 99) 2⟩, []),
        (⟨some 101, some (91, false), .load 119 (.t 100)⟩, []),
        (⟨some 102, some (91, false), .bin .rem 119 (.t 97) (.t 101)⟩, []),
        (⟨some 103, some (91, false), .bin .eql 119 (.t 102) (.c (.i .u16 0))⟩, []),
        (⟨some 104, none, .pick (.t 91) (.c (.b true)) (.t 103)⟩, []),
        (⟨some 4, none, .mv (.t 104)⟩, [])]))
     .ret)
     .skip))
   (.seq (.cut [0, 1, 7, 8, 9, 10] (.reg [⟨some 105, none, .mv (.t 1)⟩,
      ⟨some 106, none, .mv (.t 10)⟩,
      ⟨some 107, none, .nilck (.t 106)⟩,
      ⟨some 108, none, .fad 121 (.t 107) 0⟩,
      ⟨some 109, none, .load 119 (.t 108)⟩,
      ⟨some 110, none, .bin .lss 119 (.t 105) (.t 109)⟩]))
   (.cond (.t 110)
    (.reg [⟨some 111, none, .mv (.t 9)⟩,
      ⟨some 8, none, .mv (.t 111)⟩])
    (.cut [0, 1, 8, 9] (.reg [⟨some 112, none, .mv (.t 9)⟩,
      ⟨some 113, none, .bin .add 3 (.t 112) (.c (.i .i64 1))⟩,
      ⟨some 7, none, .mv (.t 113)⟩])))))))))
def c59 : AC :=
  (.seq (.reg [⟨some 4, none, .mv (.c (.b false))⟩])
  (.seq (.seq (.cut [0, 1] (.reg [⟨some 11, none, .mv (.t 0)⟩,
      ⟨some 12, none, .len 115 (.t 11)⟩,
      ⟨some 13, none, .bin .leq 3 (.t 12) (.c (.i .i64 18))⟩,
      ⟨some 14, none, .mv (.t 13)⟩,
      ⟨some 15, some (14, false), .mv (.t 1)⟩,
      ⟨some 16, some (14, false), .bin .leq 119 (.t 15) (.c (.i .u16 255))⟩,
      ⟨some 17, none, .pick (.t 14) (.c (.b true)) (.t 16)⟩]))
   (.cond (.t 17)
    (.seq (.seq (.cut [0, 1] (.reg [⟨some 18, none, .mv (.t 0)⟩,
        ⟨some 19, none, .len 115 (.t 18)⟩,
        ⟨some 20, none, .mv (.c (.i .i64 0))⟩]))
     (.blk 0
      (.loop [0, 1, 19, 20] c59L0)))
    (.seq (.reg [⟨some 4, none, .mv (.c (.b false))⟩])
    .ret))
    .skip))
  (.seq (.reg [⟨some 7, none, .mv (.c (.i .i64 0))⟩])
  (.seq (.cut [0, 1, 7] (.reg [⟨some 58, none, .mv (.t 0)⟩,
     ⟨some 59, none, .len 115 (.t 58)⟩,
     ⟨some 8, none, .mv (.t 59)⟩]))
  (.seq (.blk 2
    (.loop [0, 1, 7, 8] c59L1))
  (.seq (.reg [⟨some 4, none, .mv (.c (.b false))⟩])
  .ret))))))
def F59 : AF := ⟨114, [.t 4], c59⟩
/-- unicode.is32 -/
def c60L0 : AC :=
  (.seq (.reg [⟨some 17, none, .bin .lss 3 (.t 16) (.t 15)⟩])
  (.seq (.cond (.t 17)
    .skip
    (.exit 0))
  (.seq (.blk 1
    (.seq (.reg [⟨some 18, none, .mv (.t 16)⟩,
       ⟨some 5, none, .mv (.t 18)⟩])
    (.seq (.cut [0, 1, 5, 15, 16] (.reg [⟨some 19, none, .mv (.t 0)⟩,
       ⟨some 20, none, .mv (.t 5)⟩,
       ⟨some 21, none, .iad 116 (.t 19) (.t 20)⟩,
       ⟨some 6, none, .mv (.t 21)⟩]))
    (.seq (.seq (.cut [0, 1, 6, 15, 16] (.reg [⟨some 22, none, .mv (.t 1)⟩,
        ⟨some 23, none, .mv (.t 6)⟩,
        ⟨some 24, none, .nilck (.t 23)⟩,
        ⟨some 25, none, .fad 124 (.t 24) 0⟩,
        ⟨some 26, none, .load 102 (.t 25)⟩,
        ⟨some 27, none, .bin .lss 102 (.t 22) (.t 26)⟩]))
     (.cond (.t 27)
      (.seq (.reg [⟨some 4, none, .mv (.c (.b false))⟩])
      .ret)
      .skip))
    (.seq (.cut [0, 1, 6, 15, 16] (.reg [⟨some 28, none, .mv (.t 1)⟩,
       ⟨some 29, none, .mv (.t 6)⟩,
       ⟨some 30, none, .nilck (.t 29)⟩,
       ⟨some 31, none, .fad 124 (.t 30) 1⟩,
       ⟨some 32, none, .load 102 (.t 31)⟩,
       ⟨some 33, none, .bin .leq 102 (.t 28) (.t 32)⟩]))
    (.cond (.t 33)
     (.seq (.cut [1, 6] (.drw [(⟨some 34, none, .mv (.t 6)⟩, []),
        (⟨some 35, none, .nilck (.t 34)⟩, []),
        (⟨some 36, none, .fad 124 (.t 35) 2⟩, []),
        (⟨some 37, none, .load 102 (.t 36)⟩, []),
        (⟨some 38, none, .bin .eql 102 (.t 37) (.c (.i .u32 1))⟩, []),
        (⟨some 39, none, .mv (.t 38)⟩, []),
        (⟨some 40, some (39, false), .mv (.t 1)⟩, []),
        (⟨some 41, some (39, false), .mv (.t 6)⟩, []),
        (⟨some 42, some (39, false), .nilck (.t 41)⟩, []),
        (⟨some 43, some (39, false), .fad 124 (.t 42) 0⟩, []),
        (⟨some 44, some (39, false), .load 102 (.t 43)⟩, []),
        (⟨some 45, some (39, false), .bin .sub 102 (.t 40) (.t 44)⟩, []),
        (⟨some 46, some (39, false), .mv (.t 6)⟩, []),
        (⟨some 47, some (39, false), .nilck (.t 46)⟩, []),
        (⟨some 48, some (39, false), .fad 124 (.t 47) 2⟩, []),
        (⟨some 49, some (39, false), .load 102 (.t 48)⟩, []),
        (⟨some 50, some (39, false), .bin .rem 102 (.t 45) (.t 49)⟩, []),
        (⟨some 51, some (39, false), .bin .eql 102 (.t 50) (.c (.i .u32 0))⟩, []),
        (⟨some 52, none, .pick (.t 39) (.c (.b true)) (.t 51)⟩, []),
        (⟨some 4, none, .mv (.t 52)⟩, [])]))
     .ret)
     .skip))))))
  (.reg [⟨some 53, none, .bin .add 3 (.t 16) (.c (.i .i64 1))⟩,
    ⟨some 16, none, .mv (.t 53)⟩]))))
def c60L1 : AC :=
  (.seq (.seq (.cut [0, 1, 7, 8] (.reg [⟨some 56, none, .mv (.t 7)⟩,
      ⟨some 57, none, .mv (.t 8)⟩,
      ⟨some 58, none, .bin .lss 3 (.t 56) (.t 57)⟩]))
   (.cond (.t 58)
    .skip
    (.exit 2)))
  (.blk 3
   (.seq (.cut [0, 1, 7, 8] (.reg [⟨some 59, none, .mv (.t 7)⟩,
      ⟨some 60, none, .mv (.t 8)⟩,
      ⟨some 61, none, .bin .add 3 (.t 59) (.t 60)⟩,
      ⟨some 62, none, .conv 3 108 (.t 61)⟩,
      ⟨some 63, none, .bin .shr 108 (.t 62) (.c (.i .u64 1))⟩,
      ⟨some 64, none, .conv 108 3 (.t 63)⟩,
      ⟨some 9, none, .mv (.t 64)⟩]))
   (.seq (.cut [0, 1, 7, 8, 9] (.reg [⟨some 65, none, .mv (.t 0)⟩,
      ⟨some 66, none, .mv (.t 9)⟩,
      ⟨some 67, none, .iad 116 (.t 65) (.t 66)⟩,
      ⟨some 68, none, .load 124 (.t 67)⟩,
      ⟨some 10, none, .alloc 124⟩,
      ⟨none, none, .store 124 (.t 10) (.t 68)⟩]))
   (.seq (.seq (.cut [0, 1, 7, 8, 9, 10] (.reg [⟨some 69, none, .fad 124 (.t 10) 0⟩,
       ⟨some 70, none, .load 102 (.t 69)⟩,
       ⟨some 71, none, .mv (.t 1)⟩,
       ⟨some 72, none, .bin .leq 102 (.t 70) (.t 71)⟩,
       ⟨some 73, none, .mv (.t 72)⟩,
       ⟨some 74, some (73, true), .mv (.t 1)⟩,
       ⟨some 75, some (73, true), .fad 124 (.t 10) 1⟩,
       ⟨some 76, some (73, true), .load 102 (.t 75)⟩,
       ⟨some 77, some (73, true), .bin .leq 102 (.t 74) (.t 76)⟩,
       ⟨some 78, none, .pick (.t 73) (.t 77) (.c (.b false))⟩]))
    (.cond (.t 78)
     (.seq (.cut [1, 10] (.reg [⟨some 79, none, .fad 124 (.t 10) 2⟩,
        ⟨some 80, none, .load 102 (.t 79)⟩,
        ⟨some 81, none, .bin .eql 102 (.t 80) (.c (.i .u32 1))⟩,
        ⟨some 82, none, .mv (.t 81)⟩,
        ⟨some 83, some (82, false), .mv (.t 1)⟩,
        ⟨some 84, some (82, false), .fad 124 (.t 10) 0⟩,
        ⟨some 85, some (82, false), .load 102 (.t 84)⟩,
        ⟨some 86, some (82, false), .bin .sub 102 (.t 83) (.t 85)⟩,
        ⟨some 87, some (82, false), .fad 124 (.t 10) 2⟩,
        ⟨some 88, some (82, false), .load 102 (.t 87)⟩,
        ⟨some 89, some (82, false), .bin .rem 102 (.t 86) (.t 88)⟩,
        ⟨some 90, some (82, false), .bin .eql 102 (.t 89) (.c (.i .u32 0))⟩,
        ⟨some 91, none, .pick (.t 82) (.c (.b true)) (.t 90)⟩,
        ⟨some 4, none, .mv (.t 91)⟩]))
     .ret)
     .skip))
   (.seq (.cut [0, 1, 7, 8, 9, 10] (.reg [⟨some 92, none, .mv (.t 1)⟩,
      ⟨some 93, none, .fad 124 (.t 10) 0⟩,
      ⟨some 94, none, .load 102 (.t 93)⟩,
      ⟨some 95, none, .bin .lss 102 (.t 92) (.t 94)⟩]))
   (.cond (.t 95)
    (.reg [⟨some 96, none, .mv (.t 9)⟩,
      ⟨some 8, none, .mv (.t 96)⟩])
    (.cut [0, 1, 8, 9] (.reg [⟨some 97, none, .mv (.t 9)⟩,
      ⟨some 98, none, .bin .add 3 (.t 97) (.c (.i .i64 1))⟩,
      ⟨some 7, none, .mv (.t 98)⟩])))))))))
def c60 : AC :=
  (.seq (.reg [⟨some 4, none, .mv (.c (.b false))⟩])
  (.seq (.seq (.cut [0, 1] (.reg [⟨some 11, none, .mv (.t 0)⟩,
      ⟨some 12, none, .len 116 (.t 11)⟩,
      ⟨some 13, none, .bin .leq 3 (.t 12) (.c (.i .i64 18))⟩]))
   (.cond (.t 13)
    (.seq (.seq (.cut [0, 1] (.reg [⟨some 14, none, .mv (.t 0)⟩,
        ⟨some 15, none, .len 116 (.t 14)⟩,
        ⟨some 16, none, .mv (.c (.i .i64 0))⟩]))
     (.blk 0
      (.loop [0, 1, 15, 16] c60L0)))
    (.seq (.reg [⟨some 4, none, .mv (.c (.b false))⟩])
    .ret))
    .skip))
  (.seq (.reg [⟨some 7, none, .mv (.c (.i .i64 0))⟩])
  (.seq (.cut [0, 1, 7] (.reg [⟨some 54, none, .mv (.t 0)⟩,
     ⟨some 55, none, .len 116 (.t 54)⟩,
     ⟨some 8, none, .mv (.t 55)⟩]))
  (.seq (.blk 2
    (.loop [0, 1, 7, 8] c60L1))
  (.seq (.reg [⟨some 4, none, .mv (.c (.b false))⟩])
  .ret))))))
def F60 : AF := ⟨99, [.t 4], c60⟩
/-- errors.New -/
def c62 : AC :=
  (.seq (.reg [⟨some 2, none, .mv (.c (.ic0))⟩])
  (.seq (.cut [0] (.reg [⟨some 3, none, .mv (.t 0)⟩,
     ⟨some 4, none, .build 136 [(0, .t 3)]⟩,
     ⟨some 5, none, .box 136 (.t 4)⟩,
     ⟨some 6, none, .mki 134 (.t 5)⟩,
     ⟨some 2, none, .mv (.t 6)⟩]))
  .ret))
def F62 : AF := ⟨7, [.t 2], c62⟩
/-- strconv.Itoa -/
def c63 : AC :=
  (.seq (.reg [⟨some 2, none, .mv (.c (.s []))⟩])
  (.seq (.cut [0] (.reg [⟨some 3, none, .mv (.t 0)⟩,
     ⟨some 4, none, .call (.c (.fn (.func 64) [] [])) [.t 3]⟩,
     ⟨some 2, none, .mv (.t 4)⟩]))
  .ret))
def F63 : AF := ⟨5, [.t 2], c63⟩
/-- internal/strconv.Itoa -/
def c64 : AC :=
  (.seq (.reg [⟨some 2, none, .mv (.c (.s []))⟩])
  (.seq (.cut [0] (.reg [⟨some 3, none, .mv (.t 0)⟩,
     ⟨some 4, none, .call (.c (.fn (.func 65) [] [])) [.t 3, .c (.i .i64 10)]⟩,
     ⟨some 2, none, .mv (.t 4)⟩]))
  .ret))
def F64 : AF := ⟨5, [.t 2], c64⟩
/-- internal/strconv.FormatInt -/
def c65 : AC :=
  (.seq (.reg [⟨some 4, none, .mv (.c (.s []))⟩])
  (.seq (.seq (.reg [⟨some 10, none, .mv (.t 1)⟩,
      ⟨some 11, none, .bin .eql 3 (.t 10) (.c (.i .i64 10))⟩])
   (.cond (.t 11)
    (.seq (.seq (.cut [0] (.reg [⟨some 12, none, .mv (.t 0)⟩,
        ⟨some 13, none, .bin .leq 2 (.c (.i .i64 0)) (.t 12)⟩,
        ⟨some 14, none, .mv (.t 13)⟩,
        ⟨some 15, some (14, true), .mv (.t 0)⟩,
        ⟨some 16, some (14, true), .bin .lss 2 (.t 15) (.c (.i .i64 100))⟩,
        ⟨some 17, none, .pick (.t 14) (.t 16) (.c (.b false))⟩]))
     (.cond (.t 17)
      (.seq (.cut [0] (.reg [⟨some 18, none, .mv (.t 0)⟩,
         ⟨some 19, none, .call (.c (.fn (.func 66) [] [])) [.t 18]⟩,
         ⟨some 4, none, .mv (.t 19)⟩]))
      .ret)
      .skip))
    (.seq (.reg [⟨some 5, none, .alloc 138⟩])
    (.seq (.cut [0, 5] (.reg [⟨some 20, none, .mv (.t 0)⟩,
       ⟨some 21, none, .conv 2 57 (.t 20)⟩,
       ⟨some 6, none, .mv (.t 21)⟩]))
    (.seq (.seq (.reg [⟨some 22, none, .mv (.t 0)⟩,
        ⟨some 23, none, .bin .lss 2 (.t 22) (.c (.i .i64 0))⟩])
     (.cond (.t 23)
      (.cut [0, 5, 6] (.reg [⟨some 24, none, .mv (.t 6)⟩,
        ⟨some 25, none, .un .neg (.t 24)⟩,
        ⟨some 6, none, .mv (.t 25)⟩]))
      .skip))
    (.seq (.cut [0, 5, 6] (.reg [⟨some 26, none, .mv (.t 6)⟩,
       ⟨some 27, none, .call (.c (.fn (.func 67) [] [])) [.t 26]⟩,
       ⟨some 7, none, .mv (.t 27)⟩]))
    (.seq (.cut [0, 5, 6, 7] (.reg [⟨some 28, none, .mv (.t 7)⟩,
       ⟨some 29, none, .bin .add 3 (.c (.i .i64 1)) (.t 28)⟩,
       ⟨some 30, none, .slc 138 (.t 5) (some (.c (.i .i64 1))) (some (.t 29))⟩,
       ⟨some 31, none, .mv (.t 6)⟩,
       ⟨some 32, none, .call (.c (.fn (.func 68) [] [])) [.t 30, .t 31]⟩]))
    (.seq (.seq (.reg [⟨some 33, none, .mv (.t 0)⟩,
        ⟨some 34, none, .bin .lss 2 (.t 33) (.c (.i .i64 0))⟩])
     (.cond (.t 34)
      (.seq (.reg [⟨some 35, none, .iad 138 (.t 5) (.c (.i .i64 0))⟩,
         ⟨none, none, .store 5 (.t 35) (.c (.i .u8 45))⟩])
      (.seq (.cut [5, 7] (.reg [⟨some 36, none, .mv (.t 7)⟩,
         ⟨some 37, none, .bin .add 3 (.c (.i .i64 1)) (.t 36)⟩,
         ⟨some 38, none, .slc 138 (.t 5) none (some (.t 37))⟩,
         ⟨some 39, none, .conv 33 9 (.t 38)⟩,
         ⟨some 4, none, .mv (.t 39)⟩]))
      .ret))
      .skip))
    (.seq (.cut [5, 7] (.reg [⟨some 40, none, .mv (.t 7)⟩,
       ⟨some 41, none, .bin .add 3 (.c (.i .i64 1)) (.t 40)⟩,
       ⟨some 42, none, .slc 138 (.t 5) (some (.c (.i .i64 1))) (some (.t 41))⟩,
       ⟨some 43, none, .conv 33 9 (.t 42)⟩,
       ⟨some 4, none, .mv (.t 43)⟩]))
    .ret))))))))
    .skip))
  (.seq (.cut [0, 1] (.reg [⟨some 45, none, .mv (.t 0)⟩,
     ⟨some 46, none, .conv 2 57 (.t 45)⟩,
     ⟨some 47, none, .mv (.t 1)⟩,
     ⟨some 48, none, .mv (.t 0)⟩,
     ⟨some 49, none, .bin .lss 2 (.t 48) (.c (.i .i64 0))⟩,
     ⟨some 50, none, .call (.c (.fn (.func 69) [] [])) [.c (.sl0), .t 46, .t 47, .t 49, .c (.b false)]⟩,
     ⟨some 44, none, .mv (.t 50)⟩,
     ⟨some 51, none, .ext (.t 44) 0⟩,
     ⟨some 52, none, .ext (.t 44) 1⟩,
     ⟨some 8, none, .mv (.t 51)⟩,
     ⟨some 9, none, .mv (.t 52)⟩]))
  (.seq (.reg [⟨some 53, none, .mv (.t 9)⟩,
     ⟨some 4, none, .mv (.t 53)⟩])
  .ret))))
def F65 : AF := ⟨54, [.t 4], c65⟩
/-- internal/strconv.small -/
def c66 : AC :=
  (.seq (.reg [⟨some 2, none, .mv (.c (.s []))⟩])
  (.seq (.seq (.reg [⟨some 3, none, .mv (.t 0)⟩,
      ⟨some 4, none, .bin .lss 3 (.t 3) (.c (.i .i64 10))⟩])
   (.cond (.t 4)
    (.seq (.cut [0] (.reg [⟨some 5, none, .mv (.t 0)⟩,
       ⟨some 6, none, .mv (.t 0)⟩,
       ⟨some 7, none, .bin .add 3 (.t 6) (.c (.i .i64 1))⟩,
       ⟨some 8, none, .slc 9 (.c (.s [48, 49, 50, 51, 52, 53, 54, 55, 56, 57, 97, 98, 99, 100, 101, 102, 103, 104, 105, 106, 107, 108, 109, 110, 111, 112, 113, 114, 115, 116, 117, 118, 119, 120, 121, 122])) (some (.t 5)) (some (.t 7))⟩,
       ⟨some 2, none, .mv (.t 8)⟩]))
    .ret)
    .skip))
  (.seq (.cut [0] (.reg [⟨some 9, none, .mv (.t 0)⟩,
     ⟨some 10, none, .bin .mul 3 (.t 9) (.c (.i .i64 2))⟩,
     ⟨some 11, none, .mv (.t 0)⟩,
     ⟨some 12, none, .bin .mul 3 (.t 11) (.c (.i .i64 2))⟩,
     ⟨some 13, none, .bin .add 3 (.t 12) (.c (.i .i64 2))⟩,
     ⟨some 14, none, .slc 9 (.c (.s [48, 48, 48, 49, 48, 50, 48, 51, 48, 52, 48, 53, 48, 54, 48, 55, 48, 56, 48, 57, 49, 48, 49, 49, 49, 50, 49, 51, 49, 52, 49, 53, 49, 54, 49, 55, 49, 56, 49, 57, 50, 48, 50, 49, 50, 50, 50, 51, 50, 52, 50, 53, 50, 54, 50, 55, 50, 56, 50, 57, 51, 48, 51, 49, 51, 50, 51, 51, 51, 52, 51, 53, 51, 54, 51, 55, 51, 56, 51, 57, 52, 48, 52, 49, 52, 50, 52, 51, 52, 52, 52, 53, 52, 54, 52, 55, 52, 56, 52, 57, 53, 48, 53, 49, 53, 50, 53, 51, 53, 52, 53, 53, 53, 54, 53, 55, 53, 56, 53, 57, 54, 48, 54, 49, 54, 50, 54, 51, 54, 52, 54, 53, 54, 54, 54, 55, 54, 56, 54, 57, 55, 48, 55, 49, 55, 50, 55, 51, 55, 52, 55, 53, 55, 54, 55, 55, 55, 56, 55, 57, 56, 48, 56, 49, 56, 50, 56, 51, 56, 52, 56, 53, 56, 54, 56, 55, 56, 56, 56, 57, 57, 48, 57, 49, 57, 50, 57, 51, 57, 52, 57, 53, 57, 54, 57, 55, 57, 56, 57, 57])) (some (.t 10)) (some (.t 13))⟩,
     ⟨some 2, none, .mv (.t 14)⟩]))
  .ret)))
def F66 : AF := ⟨15, [.t 2], c66⟩
/-- internal/strconv.numDigits -/
def c67 : AC :=
  (.seq (.reg [⟨some 2, none, .mv (.c (.i .i64 0))⟩])
  (.seq (.cut [0] (.reg [⟨some 4, none, .mv (.t 0)⟩,
     ⟨some 5, none, .call (.c (.fn (.func 71) [] [])) [.t 4]⟩,
     ⟨some 6, none, .call (.c (.fn (.func 70) [] [])) [.t 5]⟩,
     ⟨some 3, none, .mv (.t 6)⟩]))
  (.seq (.cut [0, 3] (.reg [⟨some 7, none, .mv (.t 3)⟩,
     ⟨some 8, none, .mv (.t 0)⟩,
     ⟨some 9, none, .mv (.t 3)⟩,
     ⟨some 10, none, .iad 145 (.c (.p 6 0 0)) (.t 9)⟩,
     ⟨some 11, none, .load 57 (.t 10)⟩,
     ⟨some 12, none, .bin .geq 57 (.t 8) (.t 11)⟩,
     ⟨some 13, none, .call (.c (.fn (.func 72) [] [])) [.t 12]⟩,
     ⟨some 14, none, .bin .add 3 (.t 7) (.t 13)⟩,
     ⟨some 2, none, .mv (.t 14)⟩]))
  .ret)))
def F67 : AF := ⟨15, [.t 2], c67⟩
/-- internal/strconv.formatBase10 -/
def c68L0 : AC :=
  (.seq (.seq (.reg [⟨some 19, none, .mv (.t 4)⟩,
      ⟨some 20, none, .bin .geq 3 (.t 19) (.c (.i .i64 8))⟩])
   (.cond (.t 20)
    .skip
    (.exit 0)))
  (.blk 1
   (.seq (.cut [0, 1, 4] (.reg [⟨some 21, none, .mv (.t 1)⟩,
      ⟨some 22, none, .bin .rem 57 (.t 21) (.c (.i .u64 100000000))⟩,
      ⟨some 23, none, .conv 57 102 (.t 22)⟩,
      ⟨some 5, none, .mv (.t 23)⟩]))
   (.seq (.cut [0, 1, 4, 5] (.reg [⟨some 24, none, .mv (.t 1)⟩,
      ⟨some 25, none, .bin .quo 57 (.t 24) (.c (.i .u64 100000000))⟩,
      ⟨some 1, none, .mv (.t 25)⟩]))
   (.seq (.cut [0, 1, 4, 5] (.reg [⟨some 26, none, .mv (.t 5)⟩,
      ⟨some 27, none, .bin .quo 102 (.t 26) (.c (.i .u32 10000))⟩,
      ⟨some 28, none, .mv (.t 5)⟩,
      ⟨some 29, none, .bin .rem 102 (.t 28) (.c (.i .u32 10000))⟩,
      ⟨some 6, none, .mv (.t 27)⟩,
      ⟨some 7, none, .mv (.t 29)⟩]))
   (.seq (.cut [0, 1, 4, 6, 7] (.reg [⟨some 30, none, .mv (.t 7)⟩,
      ⟨some 31, none, .bin .quo 102 (.t 30) (.c (.i .u32 100))⟩,
      ⟨some 32, none, .bin .mul 102 (.t 31) (.c (.i .u32 2))⟩,
      ⟨some 33, none, .mv (.t 7)⟩,
      ⟨some 34, none, .bin .rem 102 (.t 33) (.c (.i .u32 100))⟩,
      ⟨some 35, none, .bin .mul 102 (.t 34) (.c (.i .u32 2))⟩,
      ⟨some 8, none, .mv (.t 32)⟩,
      ⟨some 9, none, .mv (.t 35)⟩]))
   (.seq (.cut [0, 1, 4, 6, 8, 9] (.reg [⟨some 36, none, .mv (.t 6)⟩,
      ⟨some 37, none, .bin .quo 102 (.t 36) (.c (.i .u32 100))⟩,
      ⟨some 38, none, .bin .mul 102 (.t 37) (.c (.i .u32 2))⟩,
      ⟨some 39, none, .mv (.t 6)⟩,
      ⟨some 40, none, .bin .rem 102 (.t 39) (.c (.i .u32 100))⟩,
      ⟨some 41, none, .bin .mul 102 (.t 40) (.c (.i .u32 2))⟩,
      ⟨some 10, none, .mv (.t 38)⟩,
      ⟨some 11, none, .mv (.t 41)⟩]))
   (.seq (.cut [0, 1, 4, 8, 9, 10, 11] (.drw [(⟨some 42, none, .mv (.t 0)⟩, []),
      (⟨some 43, none, .mv (.t 4)⟩, []),
      (⟨some 44, none, .bin .sub 3 (.t 43) (.c (.i .i64 1))⟩, []),
      (⟨some 45, none, .mv (.t 0)⟩, []),
      (⟨some 46, none, .mv (.t 4)⟩, []),
      (⟨some 47, none, .bin .sub 3 (.t 46) (.c (.i .i64 2))⟩, []),
      (⟨some 48, none, .mv (.t 9)⟩, []),
      (⟨some 49, none, .bin .add 102 (.t 48) (.c (.i .u32 1))⟩, []),
      (⟨some 50, none, .idx 9 (.c (.s [48, 48, 48, 49, 48, 50, 48, 51, 48, 52, 48, 53, 48, 54, 48, 55, 48, 56, 48, 57, 49, 48, 49, 49, 49, 50, 49, 51, 49, 52, 49, 53, 49, 54, 49, 55, 49, 56, 49, 57, 50, 48, 50, 49, 50, 50, 50, 51, 50, 52, 50, 53, 50, 54, 50, 55, 50, 56, 50, 57, 51, 48, 51, 49, 51, 50, 51, 51, 51, 52, 51, 53, 51, 54, 51, 55, 51, 56, 51, 57, 52, 48, 52, 49, 52, 50, 52, 51, 52, 52, 52, 53, 52, 54, 52, 55, 52, 56, 52, 57, 53, 48, 53, 49, 53, 50, 53, 51, 53, 52, 53, 53, 53, 54, 53, 55, 53, 56, 53, 57, 54, 48, 54, 49, 54, 50, 54, 51, 54, 52, 54, 53, 54, 54, 54, 55, 54, 56, 54, 57, 55, 48, 55, 49, 55, 50, 55, 51, 55, 52, 55, 53, 55, 54, 55, 55, 55, 56, 55, 57, 56, 48, 56, 49, 56, 50, 56, 51, 56, 52, 56, 53, 56, 54, 56, 55, 56, 56, 56, 57, 57, 48, 57, 49, 57, 50, 57, 51, 57, 52, 57, 53, 57, 54, 57, 55, 57, 56, 57, 57])) (.t 49)⟩, []),
      (⟨some 51, none, .mv (.t 9)⟩, []),
      (⟨some 52, none, .idx 9 (.c (.s [48, 48, 48, 49, 48, 50, 48, 51, 48, 52, 48, 53, 48, 54, 48, 55, 48, 56, 48, 57, 49, 48, 49, 49, 49, 50, 49, 51, 49, 52, 49, 53, 49, 54, 49, 55, 49, 56, 49, 57, 50, 48, 50, 49, 50, 50, 50, 51, 50, 52, 50, 53, 50, 54, 50, 55, 50, 56, 50, 57, 51, 48, 51, 49, 51, 50, 51, 51, 51, 52, 51, 53, 51, 54, 51, 55, 51, 56, 51, 57, 52, 48, 52, 49, 52, 50, 52, 51, 52, 52, 52, 53, 52, 54, 52, 55, 52, 56, 52, 57, 53, 48, 53, 49, 53, 50, 53, 51, 53, 52, 53, 53, 53, 54, 53, 55, 53, 56, 53, 57, 54, 48, 54, 49, 54, 50, 54, 51, 54, 52, 54, 53, 54, 54, 54, 55, 54, 56, 54, 57, 55, 48, 55, 49, 55, 50, 55, 51, 55, 52, 55, 53, 55, 54, 55, 55, 55, 56, 55, 57, 56, 48, 56, 49, 56, 50, 56, 51, 56, 52, 56, 53, 56, 54, 56, 55, 56, 56, 56, 57, 57, 48, 57, 49, 57, 50, 57, 51, 57, 52, 57, 53, 57, 54, 57, 55, 57, 56, 57, 57])) (.t 51)⟩, []),
      (⟨some 53, none, .iad 33 (.t 42) (.t 44)⟩, []),
      (⟨none, none, .store 5 (.t 53) (.t 50)⟩, []),
      (⟨some 54, none, .iad 33 (.t 45) (.t 47)⟩, []),
      (⟨none, none, .store 5 (.t 54) (.t 52)⟩, [])]))
   (.seq (.cut [0, 1, 4, 8, 10, 11] (.drw [(⟨some 55, none, .mv (.t 0)⟩, []),
      (⟨some 56, none, .mv (.t 4)⟩, []),
      (⟨some 57, none, .bin .sub 3 (.t 56) (.c (.i .i64 3))⟩, []),
      (⟨some 58, none, .mv (.t 0)⟩, []),
      (⟨some 59, none, .mv (.t 4)⟩, []),
      (⟨some 60, none, .bin .sub 3 (.t 59) (.c (.i .i64 4))⟩, []),
      (⟨some 61, none, .mv (.t 8)⟩, []),
      (⟨some 62, none, .bin .add 102 (.t 61) (.c (.i .u32 1))⟩, []),
      (⟨some 63, none, .idx 9 (.c (.s [48, 48, 48, 49, 48, 50, 48, 51, 48, 52, 48, 53, 48, 54, 48, 55, 48, 56, 48, 57, 49, 48, 49, 49, 49, 50, 49, 51, 49, 52, 49, 53, 49, 54, 49, 55, 49, 56, 49, 57, 50, 48, 50, 49, 50, 50, 50, 51, 50, 52, 50, 53, 50, 54, 50, 55, 50, 56, 50, 57, 51, 48, 51, 49, 51, 50, 51, 51, 51, 52, 51, 53, 51, 54, 51, 55, 51, 56, 51, 57, 52, 48, 52, 49, 52, 50, 52, 51, 52, 52, 52, 53, 52, 54, 52, 55, 52, 56, 52, 57, 53, 48, 53, 49, 53, 50, 53, 51, 53, 52, 53, 53, 53, 54, 53, 55, 53, 56, 53, 57, 54, 48, 54, 49, 54, 50, 54, 51, 54, 52, 54, 53, 54, 54, 54, 55, 54, 56, 54, 57, 55, 48, 55, 49, 55, 50, 55, 51, 55, 52, 55, 53, 55, 54, 55, 55, 55, 56, 55, 57, 56, 48, 56, 49, 56, 50, 56, 51, 56, 52, 56, 53, 56, 54, 56, 55, 56, 56, 56, 57, 57, 48, 57, 49, 57, 50, 57, 51, 57, 52, 57, 53, 57, 54, 57, 55, 57, 56, 57, 57])) (.t 62)⟩, []),
      (⟨some 64, none, .mv (.t 8)⟩, []),
      (⟨some 65, none, .idx 9 (.c (.s [48, 48, 48, 49, 48, 50, 48, 51, 48, 52, 48, 53, 48, 54, 48, 55, 48, 56, 48, 57, 49, 48, 49, 49, 49, 50, 49, 51, 49, 52, 49, 53, 49, 54, 49, 55, 49, 56, 49, 57, 50, 48, 50, 49, 50, 50, 50, 51, 50, 52, 50, 53, 50, 54, 50, 55, 50, 56, 50, 57, 51, 48, 51, 49, 51, 50, 51, 51, 51, 52, 51, 53, 51, 54, 51, 55, 51, 56, 51, 57, 52, 48, 52, 49, 52, 50, 52, 51, 52, 52, 52, 53, 52, 54, 52, 55, 52, 56, 52, 57, 53, 48, 53, 49, 53, 50, 53, 51, 53, 52, 53, 53, 53, 54, 53, 55, 53, 56, 53, 57, 54, 48, 54, 49, 54, 50, 54, 51, 54, 52, 54, 53, 54, 54, 54, 55, 54, 56, 54, 57, 55, 48, 55, 49, 55, 50, 55, 51, 55, 52, 55, 53, 55, 54, 55, 55, 55, 56, 55, 57, 56, 48, 56, 49, 56, 50, 56, 51, 56, 52, 56, 53, 56, 54, 56, 55, 56, 56, 56, 57, 57, 48, 57, 49, 57, 50, 57, 51, 57, 52, 57, 53, 57, 54, 57, 55, 57, 56, 57, 57])) (.t 64)⟩, []),
      (⟨some 66, none, .iad 33 (.t 55) (.t 57)⟩, []),
      (⟨none, none, .store 5 (.t 66) (.t 63)⟩, []),
      (⟨some 67, none, .iad 33 (.t 58) (.t 60)⟩, []),
      (⟨none, none, .store 5 (.t 67) (.t 65)⟩, [])]))
   (.seq (.cut [0, 1, 4, 10, 11] (.drw [(⟨some 68, none, .mv (.t 0)⟩, []),
      (⟨some 69, none, .mv (.t 4)⟩, []),
      (⟨some 70, none, .bin .sub 3 (.t 69) (.c (.i .i64 5))⟩, []),
      (⟨some 71, none, .mv (.t 0)⟩, []),
      (⟨some 72, none, .mv (.t 4)⟩, []),
      (⟨some 73, none, .bin .sub 3 (.t 72) (.c (.i .i64 6))⟩, []),
      (⟨some 74, none, .mv (.t 11)⟩, []),
      (⟨some 75, none, .bin .add 102 (.t 74) (.c (.i .u32 1))⟩, []),
      (⟨some 76, none, .idx 9 (.c (.s [48, 48, 48, 49, 48, 50, 48, 51, 48, 52, 48, 53, 48, 54, 48, 55, 48, 56, 48, 57, 49, 48, 49, 49, 49, 50, 49, 51, 49, 52, 49, 53, 49, 54, 49, 55, 49, 56, 49, 57, 50, 48, 50, 49, 50, 50, 50, 51, 50, 52, 50, 53, 50, 54, 50, 55, 50, 56, 50, 57, 51, 48, 51, 49, 51, 50, 51, 51, 51, 52, 51, 53, 51, 54, 51, 55, 51, 56, 51, 57, 52, 48, 52, 49, 52, 50, 52, 51, 52, 52, 52, 53, 52, 54, 52, 55, 52, 56, 52, 57, 53, 48, 53, 49, 53, 50, 53, 51, 53, 52, 53, 53, 53, 54, 53, 55, 53, 56, 53, 57, 54, 48, 54, 49, 54, 50, 54, 51, 54, 52, 54, 53, 54, 54, 54, 55, 54, 56, 54, 57, 55, 48, 55, 49, 55, 50, 55, 51, 55, 52, 55, 53, 55, 54, 55, 55, 55, 56, 55, 57, 56, 48, 56, 49, 56, 50, 56, 51, 56, 52, 56, 53, 56, 54, 56, 55, 56, 56, 56, 57, 57, 48, 57, 49, 57, 50, 57, 51, 57, 52, 57, 53, 57, 54, 57, 55, 57, 56, 57, 57])) (.t 75)⟩, []),
      (⟨some 77, none, .mv (.t 11)⟩, []),
      (⟨some 78, none, .idx 9 (.c (.s [48, 48, 48, 49, 48, 50, 48, 51, 48, 52, 48, 53, 48, 54, 48, 55, 48, 56, 48, 57, 49, 48, 49, 49, 49, 50, 49, 51, 49, 52, 49, 53, 49, 54, 49, 55, 49, 56, 49, 57, 50, 48, 50, 49, 50, 50, 50, 51, 50, 52, 50, 53, 50, 54, 50, 55, 50, 56, 50, 57, 51, 48, 51, 49, 51, 50, 51, 51, 51, 52, 51, 53, 51, 54, 51, 55, 51, 56, 51, 57, 52, 48, 52, 49, 52, 50, 52, 51, 52, 52, 52, 53, 52, 54, 52, 55, 52, 56, 52, 57, 53, 48, 53, 49, 53, 50, 53, 51, 53, 52, 53, 53, 53, 54, 53, 55, 53, 56, 53, 57, 54, 48, 54, 49, 54, 50, 54, 51, 54, 52, 54, 53, 54, 54, 54, 55, 54, 56, 54, 57, 55, 48, 55, 49, 55, 50, 55, 51, 55, 52, 55, 53, 55, 54, 55, 55, 55, 56, 55, 57, 56, 48, 56, 49, 56, 50, 56, 51, 56, 52, 56, 53, 56, 54, 56, 55, 56, 56, 56, 57, 57, 48, 57, 49, 57, 50, 57, 51, 57, 52, 57, 53, 57, 54, 57, 55, 57, 56, 57, 57])) (.t 77)⟩, []),
      (⟨some 79, none, .iad 33 (.t 68) (.t 70)⟩, []),
      (⟨none, none, .store 5 (.t 79) (.t 76)⟩, []),
      (⟨some 80, none, .iad 33 (.t 71) (.t 73)⟩, []),
      (⟨none, none, .store 5 (.t 80) (.t 78)⟩, [])]))
   (.seq (.cut [0, 1, 4, 10] (.drw [(⟨some 81, none, .mv (.t 0)⟩, []),
      (⟨some 82, none, .mv (.t 4)⟩, []),
      (⟨some 83, none, .bin .sub 3 (.t 82) (.c (.i .i64 7))⟩, []),
      (⟨some 84, none, .mv (.t 0)⟩, []),
      (⟨some 85, none, .mv (.t 4)⟩, []),
      (⟨some 86, none, .bin .sub 3 (.t 85) (.c (.i .i64 8))⟩, []),
      (⟨some 87, none, .mv (.t 10)⟩, []),
      (⟨some 88, none, .bin .add 102 (.t 87) (.c (.i .u32 1))⟩, []),
      (⟨some 89, none, .idx 9 (.c (.s [48, 48, 48, 49, 48, 50, 48, 51, 48, 52, 48, 53, 48, 54, 48, 55, 48, 56, 48, 57, 49, 48, 49, 49, 49, 50, 49, 51, 49, 52, 49, 53, 49, 54, 49, 55, 49, 56, 49, 57, 50, 48, 50, 49, 50, 50, 50, 51, 50, 52, 50, 53, 50, 54, 50, 55, 50, 56, 50, 57, 51, 48, 51, 49, 51, 50, 51, 51, 51, 52, 51, 53, 51, 54, 51, 55, 51, 56, 51, 57, 52, 48, 52, 49, 52, 50, 52, 51, 52, 52, 52, 53, 52, 54, 52, 55, 52, 56, 52, 57, 53, 48, 53, 49, 53, 50, 53, 51, 53, 52, 53, 53, 53, 54, 53, 55, 53, 56, 53, 57, 54, 48, 54, 49, 54, 50, 54, 51, 54, 52, 54, 53, 54, 54, 54, 55, 54, 56, 54, 57, 55, 48, 55, 49, 55, 50, 55, 51, 55, 52, 55, 53, 55, 54, 55, 55, 55, 56, 55, 57, 56, 48, 56, 49, 56, 50, 56, 51, 56, 52, 56, 53, 56, 54, 56, 55, 56, 56, 56, 57, 57, 48, 57, 49, 57, 50, 57, 51, 57, 52, 57, 53, 57, 54, 57, 55, 57, 56, 57, 57])) (.t 88)⟩, []),
      (⟨some 90, none, .mv (.t 10)⟩, []),
      (⟨some 91, none, .idx 9 (.c (.s [48, 48, 48, 49, 48, 50, 48, 51, 48, 52, 48, 53, 48, 54, 48, 55, 48, 56, 48, 57, 49, 48, 49, 49, 49, 50, 49, 51, 49, 52, 49, 53, 49, 54, 49, 55, 49, 56, 49, 57, 50, 48, 50, 49, 50, 50, 50, 51, 50, 52, 50, 53, 50, 54, 50, 55, 50, 56, 50, 57, 51, 48, 51, 49, 51, 50, 51, 51, 51, 52, 51, 53, 51, 54, 51, 55, 51, 56, 51, 57, 52, 48, 52, 49, 52, 50, 52, 51, 52, 52, 52, 53, 52, 54, 52, 55, 52, 56, 52, 57, 53, 48, 53, 49, 53, 50, 53, 51, 53, 52, 53, 53, 53, 54, 53, 55, 53, 56, 53, 57, 54, 48, 54, 49, 54, 50, 54, 51, 54, 52, 54, 53, 54, 54, 54, 55, 54, 56, 54, 57, 55, 48, 55, 49, 55, 50, 55, 51, 55, 52, 55, 53, 55, 54, 55, 55, 55, 56, 55, 57, 56, 48, 56, 49, 56, 50, 56, 51, 56, 52, 56, 53, 56, 54, 56, 55, 56, 56, 56, 57, 57, 48, 57, 49, 57, 50, 57, 51, 57, 52, 57, 53, 57, 54, 57, 55, 57, 56, 57, 57])) (.t 90)⟩, []),
      (⟨some 92, none, .iad 33 (.t 81) (.t 83)⟩, []),
      (⟨none, none, .store 5 (.t 92) (.t 89)⟩, []),
      (⟨some 93, none, .iad 33 (.t 84) (.t 86)⟩, []),
      (⟨none, none, .store 5 (.t 93) (.t 91)⟩, [])]))
   (.cut [0, 1, 4] (.reg [⟨some 94, none, .mv (.t 4)⟩,
     ⟨some 95, none, .bin .sub 3 (.t 94) (.c (.i .i64 8))⟩,
     ⟨some 4, none, .mv (.t 95)⟩])))))))))))))
def c68 : AC :=
  (.seq (.cut [0, 1] (.reg [⟨some 17, none, .mv (.t 0)⟩,
     ⟨some 18, none, .len 33 (.t 17)⟩,
     ⟨some 4, none, .mv (.t 18)⟩]))
  (.seq (.blk 0
    (.loop [0, 1, 4] c68L0))
  (.seq (.cut [0, 1, 4] (.reg [⟨some 96, none, .mv (.t 1)⟩,
     ⟨some 97, none, .conv 57 102 (.t 96)⟩,
     ⟨some 12, none, .mv (.t 97)⟩]))
  (.seq (.seq (.reg [⟨some 98, none, .mv (.t 4)⟩,
      ⟨some 99, none, .bin .geq 3 (.t 98) (.c (.i .i64 4))⟩])
   (.cond (.t 99)
    (.seq (.cut [0, 4, 12] (.reg [⟨some 100, none, .mv (.t 12)⟩,
       ⟨some 101, none, .bin .rem 102 (.t 100) (.c (.i .u32 10000))⟩,
       ⟨some 13, none, .mv (.t 101)⟩]))
    (.seq (.cut [0, 4, 12, 13] (.reg [⟨some 102, none, .mv (.t 12)⟩,
       ⟨some 103, none, .bin .quo 102 (.t 102) (.c (.i .u32 10000))⟩,
       ⟨some 12, none, .mv (.t 103)⟩]))
    (.seq (.cut [0, 4, 12, 13] (.reg [⟨some 104, none, .mv (.t 13)⟩,
       ⟨some 105, none, .bin .quo 102 (.t 104) (.c (.i .u32 100))⟩,
       ⟨some 106, none, .bin .mul 102 (.t 105) (.c (.i .u32 2))⟩,
       ⟨some 107, none, .mv (.t 13)⟩,
       ⟨some 108, none, .bin .rem 102 (.t 107) (.c (.i .u32 100))⟩,
       ⟨some 109, none, .bin .mul 102 (.t 108) (.c (.i .u32 2))⟩,
       ⟨some 14, none, .mv (.t 106)⟩,
       ⟨some 15, none, .mv (.t 109)⟩]))
    (.seq (.cut [0, 4, 12, 14, 15] (.drw [(⟨some 110, none, .mv (.t 0)⟩, []),
       (⟨some 111, none, .mv (.t 4)⟩, []),
       (⟨some 112, none, .bin .sub 3 (.t 111) (.c (.i .i64 1))⟩, []),
       (⟨some 113, none, .mv (.t 0)⟩, []),
       (⟨some 114, none, .mv (.t 4)⟩, []),
       (⟨some 115, none, .bin .sub 3 (.t 114) (.c (.i .i64 2))⟩, []),
       (⟨some 116, none, .mv (.t 15)⟩, []),
       (⟨some 117, none, .bin .add 102 (.t 116) (.c (.i .u32 1))⟩, []),
       (⟨some 118, none, .idx 9 (.c (.s [48, 48, 48, 49, 48, 50, 48, 51, 48, 52, 48, 53, 48, 54, 48, 55, 48, 56, 48, 57, 49, 48, 49, 49, 49, 50, 49, 51, 49, 52, 49, 53, 49, 54, 49, 55, 49, 56, 49, 57, 50, 48, 50, 49, 50, 50, 50, 51, 50, 52, 50, 53, 50, 54, 50, 55, 50, 56, 50, 57, 51, 48, 51, 49, 51, 50, 51, 51, 51, 52, 51, 53, 51, 54, 51, 55, 51, 56, 51, 57, 52, 48, 52, 49, 52, 50, 52, 51, 52, 52, 52, 53, 52, 54, 52, 55, 52, 56, 52, 57, 53, 48, 53, 49, 53, 50, 53, 51, 53, 52, 53, 53, 53, 54, 53, 55, 53, 56, 53, 57, 54, 48, 54, 49, 54, 50, 54, 51, 54, 52, 54, 53, 54, 54, 54, 55, 54, 56, 54, 57, 55, 48, 55, 49, 55, 50, 55, 51, 55, 52, 55, 53, 55, 54, 55, 55, 55, 56, 55, 57, 56, 48, 56, 49, 56, 50, 56, 51, 56, 52, 56, 53, 56, 54, 56, 55, 56, 56, 56, 57, 57, 48, 57, 49, 57, 50, 57, 51, 57, 52, 57, 53, 57, 54, 57, 55, 57, 56, 57, 57])) (.t 117)⟩, []),
       (⟨some 119, none, .mv (.t 15)⟩, []),
       (⟨some 120, none, .idx 9 (.c (.s [48, 48, 48, 49, 48, 50, 48, 51, 48, 52, 48, 53, 48, 54, 48, 55, 48, 56, 48, 57, 49, 48, 49, 49, 49, 50, 49, 51, 49, 52, 49, 53, 49, 54, 49, 55, 49, 56, 49, 57, 50, 48, 50, 49, 50, 50, 50, 51, 50, 52, 50, 53, 50, 54, 50, 55, 50, 56, 50, 57, 51, 48, 51, 49, 51, 50, 51, 51, 51, 52, 51, 53, 51, 54, 51, 55, 51, 56, 51, 57, 52, 48, 52, 49, 52, 50, 52, 51, 52, 52, 52, 53, 52, 54, 52, 55, 52, 56, 52, 57, 53, 48, 53, 49, 53, 50, 53, 51, 53, 52, 53, 53, 53, 54, 53, 55, 53, 56, 53, 57, 54, 48, 54, 49, 54, 50, 54, 51, 54, 52, 54, 53, 54, 54, 54, 55, 54, 56, 54, 57, 55, 48, 55, 49, 55, 50, 55, 51, 55, 52, 55, 53, 55, 54, 55, 55, 55, 56, 55, 57, 56, 48, 56, 49, 56, 50, 56, 51, 56, 52, 56, 53, 56, 54, 56, 55, 56, 56, 56, 57, 57, 48, 57, 49, 57, 50, 57, 51, 57, 52, 57, 53, 57, 54, 57, 55, 57, 56, 57, 57])) (.t 119)⟩, []),
       (⟨some 121, none, .iad 33 (.t 110) (.t 112)⟩, []),
       (⟨none, none, .store 5 (.t 121) (.t 118)⟩, []),
       (⟨some 122, none, .iad 33 (.t 113) (.t 115)⟩, []),
       (⟨none, none, .store 5 (.t 122) (.t 120)⟩, [])]))
    (.seq (.cut [0, 4, 12, 14] (.drw [(⟨some 123, none, .mv (.t 0)⟩, []),
       (⟨some 124, none, .mv (.t 4)⟩, []),
       (⟨some 125, none, .bin .sub 3 (.t 124) (.c (.i .i64 3))⟩, []),
       (⟨some 126, none, .mv (.t 0)⟩, []),
       (⟨some 127, none, .mv (.t 4)⟩, []),
       (⟨some 128, none, .bin .sub 3 (.t 127) (.c (.i .i64 4))⟩, []),
       (⟨some 129, none, .mv (.t 14)⟩, []),
       (⟨some 130, none, .bin .add 102 (.t 129) (.c (.i .u32 1))⟩, []),
       (⟨some 131, none, .idx 9 (.c (.s [48, 48, 48, 49, 48, 50, 48, 51, 48, 52, 48, 53, 48, 54, 48, 55, 48, 56, 48, 57, 49, 48, 49, 49, 49, 50, 49, 51, 49, 52, 49, 53, 49, 54, 49, 55, 49, 56, 49, 57, 50, 48, 50, 49, 50, 50, 50, 51, 50, 52, 50, 53, 50, 54, 50, 55, 50, 56, 50, 57, 51, 48, 51, 49, 51, 50, 51, 51, 51, 52, 51, 53, 51, 54, 51, 55, 51, 56, 51, 57, 52, 48, 52, 49, 52, 50, 52, 51, 52, 52, 52, 53, 52, 54, 52, 55, 52, 56, 52, 57, 53, 48, 53, 49, 53, 50, 53, 51, 53, 52, 53, 53, 53, 54, 53, 55, 53, 56, 53, 57, 54, 48, 54, 49, 54, 50, 54, 51, 54, 52, 54, 53, 54, 54, 54, 55, 54, 56, 54, 57, 55, 48, 55, 49, 55, 50, 55, 51, 55, 52, 55, 53, 55, 54, 55, 55, 55, 56, 55, 57, 56, 48, 56, 49, 56, 50, 56, 51, 56, 52, 56, 53, 56, 54, 56, 55, 56, 56, 56, 57, 57, 48, 57, 49, 57, 50, 57, 51, 57, 52, 57, 53, 57, 54, 57, 55, 57, 56, 57, 57])) (.t 130)⟩, []),
       (⟨some 132, none, .mv (.t 14)⟩, []),
       (⟨some 133, none, .idx 9 (.c (.s [48, 48, 48, 49, 48, 50, 48, 51, 48, 52, 48, 53, 48, 54, 48, 55, 48, 56, 48, 57, 49, 48, 49, 49, 49, 50, 49, 51, 49, 52, 49, 53, 49, 54, 49, 55, 49, 56, 49, 57, 50, 48, 50, 49, 50, 50, 50, 51, 50, 52, 50, 53, 50, 54, 50, 55, 50, 56, 50, 57, 51, 48, 51, 49, 51, 50, 51, 51, 51, 52, 51, 53, 51, 54, 51, 55, 51, 56, 51, 57, 52, 48, 52, 49, 52, 50, 52, 51, 52, 52, 52, 53, 52, 54, 52, 55, 52, 56, 52, 57, 53, 48, 53, 49, 53, 50, 53, 51, 53, 52, 53, 53, 53, 54, 53, 55, 53, 56, 53, 57, 54, 48, 54, 49, 54, 50, 54, 51, 54, 52, 54, 53, 54, 54, 54, 55, 54, 56, 54, 57, 55, 48, 55, 49, 55, 50, 55, 51, 55, 52, 55, 53, 55, 54, 55, 55, 55, 56, 55, 57, 56, 48, 56, 49, 56, 50, 56, 51, 56, 52, 56, 53, 56, 54, 56, 55, 56, 56, 56, 57, 57, 48, 57, 49, 57, 50, 57, 51, 57, 52, 57, 53, 57, 54, 57, 55, 57, 56, 57, 57])) (.t 132)⟩, []),
       (⟨some 134, none, .iad 33 (.t 123) (.t 125)⟩, []),
       (⟨none, none, .store 5 (.t 134) (.t 131)⟩, []),
       (⟨some 135, none, .iad 33 (.t 126) (.t 128)⟩, []),
       (⟨none, none, .store 5 (.t 135) (.t 133)⟩, [])]))
    (.cut [0, 4, 12] (.reg [⟨some 136, none, .mv (.t 4)⟩,
      ⟨some 137, none, .bin .sub 3 (.t 136) (.c (.i .i64 4))⟩,
      ⟨some 4, none, .mv (.t 137)⟩])))))))
    .skip))
  (.seq (.seq (.reg [⟨some 138, none, .mv (.t 4)⟩,
      ⟨some 139, none, .bin .geq 3 (.t 138) (.c (.i .i64 2))⟩])
   (.cond (.t 139)
    (.seq (.cut [0, 4, 12] (.reg [⟨some 140, none, .mv (.t 12)⟩,
       ⟨some 141, none, .bin .rem 102 (.t 140) (.c (.i .u32 100))⟩,
       ⟨some 142, none, .bin .mul 102 (.t 141) (.c (.i .u32 2))⟩,
       ⟨some 16, none, .mv (.t 142)⟩]))
    (.seq (.cut [0, 4, 12, 16] (.reg [⟨some 143, none, .mv (.t 12)⟩,
       ⟨some 144, none, .bin .quo 102 (.t 143) (.c (.i .u32 100))⟩,
       ⟨some 12, none, .mv (.t 144)⟩]))
    (.seq (.cut [0, 4, 12, 16] (.drw [(⟨some 145, none, .mv (.t 0)⟩, []),
       (⟨some 146, none, .mv (.t 4)⟩, []),
       (⟨some 147, none, .bin .sub 3 (.t 146) (.c (.i .i64 1))⟩, []),
       (⟨some 148, none, .mv (.t 0)⟩, []),
       (⟨some 149, none, .mv (.t 4)⟩, []),
       (⟨some 150, none, .bin .sub 3 (.t 149) (.c (.i .i64 2))⟩, []),
       (⟨some 151, none, .mv (.t 16)⟩, []),
       (⟨some 152, none, .bin .add 102 (.t 151) (.c (.i .u32 1))⟩, []),
       (⟨some 153, none, .idx 9 (.c (.s [48, 48, 48, 49, 48, 50, 48, 51, 48, 52, 48, 53, 48, 54, 48, 55, 48, 56, 48, 57, 49, 48, 49, 49, 49, 50, 49, 51, 49, 52, 49, 53, 49, 54, 49, 55, 49, 56, 49, 57, 50, 48, 50, 49, 50, 50, 50, 51, 50, 52, 50, 53, 50, 54, 50, 55, 50, 56, 50, 57, 51, 48, 51, 49, 51, 50, 51, 51, 51, 52, 51, 53, 51, 54, 51, 55, 51, 56, 51, 57, 52, 48, 52, 49, 52, 50, 52, 51, 52, 52, 52, 53, 52, 54, 52, 55, 52, 56, 52, 57, 53, 48, 53, 49, 53, 50, 53, 51, 53, 52, 53, 53, 53, 54, 53, 55, 53, 56, 53, 57, 54, 48, 54, 49, 54, 50, 54, 51, 54, 52, 54, 53, 54, 54, 54, 55, 54, 56, 54, 57, 55, 48, 55, 49, 55, 50, 55, 51, 55, 52, 55, 53, 55, 54, 55, 55, 55, 56, 55, 57, 56, 48, 56, 49, 56, 50, 56, 51, 56, 52, 56, 53, 56, 54, 56, 55, 56, 56, 56, 57, 57, 48, 57, 49, 57, 50, 57, 51, 57, 52, 57, 53, 57, 54, 57, 55, 57, 56, 57, 57])) (.t 152)⟩, []),
       (⟨some 154, none, .mv (.t 16)⟩, []),
       (⟨some 155, none, .idx 9 (.c (.s [48, 48, 48, 49, 48, 50, 48, 51, 48, 52, 48, 53, 48, 54, 48, 55, 48, 56, 48, 57, 49, 48, 49, 49, 49, 50, 49, 51, 49, 52, 49, 53, 49, 54, 49, 55, 49, 56, 49, 57, 50, 48, 50, 49, 50, 50, 50, 51, 50, 52, 50, 53, 50, 54, 50, 55, 50, 56, 50, 57, 51, 48, 51, 49, 51, 50, 51, 51, 51, 52, 51, 53, 51, 54, 51, 55, 51, 56, 51, 57, 52, 48, 52, 49, 52, 50, 52, 51, 52, 52, 52, 53, 52, 54, 52, 55, 52, 56, 52, 57, 53, 48, 53, 49, 53, 50, 53, 51, 53, 52, 53, 53, 53, 54, 53, 55, 53, 56, 53, 57, 54, 48, 54, 49, 54, 50, 54, 51, 54, 52, 54, 53, 54, 54, 54, 55, 54, 56, 54, 57, 55, 48, 55, 49, 55, 50, 55, 51, 55, 52, 55, 53, 55, 54, 55, 55, 55, 56, 55, 57, 56, 48, 56, 49, 56, 50, 56, 51, 56, 52, 56, 53, 56, 54, 56, 55, 56, 56, 56, 57, 57, 48, 57, 49, 57, 50, 57, 51, 57, 52, 57, 53, 57, 54, 57, 55, 57, 56, 57, 57])) (.t 154)⟩, []),
       (⟨some 156, none, .iad 33 (.t 145) (.t 147)⟩, []),
       (⟨none, none, .store 5 (.t 156) (.t 153)⟩, []),
       (⟨some 157, none, .iad 33 (.t 148) (.t 150)⟩, []),
       (⟨none, none, .store 5 (.t 157) (.t 155)⟩, [])]))
    (.cut [0, 4, 12] (.reg [⟨some 158, none, .mv (.t 4)⟩,
      ⟨some 159, none, .bin .sub 3 (.t 158) (.c (.i .i64 2))⟩,
      ⟨some 4, none, .mv (.t 159)⟩])))))
    .skip))
  (.seq (.reg [⟨some 160, none, .mv (.t 4)⟩,
     ⟨some 161, none, .bin .gtr 3 (.t 160) (.c (.i .i64 0))⟩])
  (.cond (.t 161)
   (.cut [0, 12] (.reg [⟨some 162, none, .mv (.t 0)⟩,
     ⟨some 163, none, .mv (.t 12)⟩,
     ⟨some 164, none, .bin .add 102 (.c (.i .u32 48)) (.t 163)⟩,
     ⟨some 165, none, .conv 102 5 (.t 164)⟩,
     ⟨some 166, none, .iad 33 (.t 162) (.c (.i .i64 0))⟩,
     ⟨none, none, .store 5 (.t 166) (.t 165)⟩]))
   .skip)))))))
def F68 : AF := ⟨167, [], c68⟩
/-- internal/strconv.formatBits -/
def c69L0 : AC :=
  (.seq (.seq (.cut [0, 1, 3, 4, 10, 11, 12, 13, 14, 15, 16] (.reg [⟨some 44, none, .mv (.t 1)⟩,
      ⟨some 45, none, .mv (.t 15)⟩,
      ⟨some 46, none, .bin .geq 57 (.t 44) (.t 45)⟩]))
   (.cond (.t 46)
    .skip
    (.exit 0)))
  (.blk 1
   (.seq (.cut [0, 1, 3, 4, 10, 11, 12, 13, 14, 15, 16] (.reg [⟨some 47, none, .mv (.t 13)⟩,
      ⟨some 48, none, .bin .sub 3 (.t 47) (.c (.i .i64 1))⟩,
      ⟨some 13, none, .mv (.t 48)⟩]))
   (.seq (.cut [0, 1, 3, 4, 10, 11, 12, 13, 14, 15, 16] (.reg [⟨some 49, none, .mv (.t 13)⟩,
      ⟨some 50, none, .mv (.t 1)⟩,
      ⟨some 51, none, .mv (.t 16)⟩,
      ⟨some 52, none, .bin .and 108 (.t 50) (.t 51)⟩,
      ⟨some 53, none, .idx 9 (.c (.s [48, 49, 50, 51, 52, 53, 54, 55, 56, 57, 97, 98, 99, 100, 101, 102, 103, 104, 105, 106, 107, 108, 109, 110, 111, 112, 113, 114, 115, 116, 117, 118, 119, 120, 121, 122])) (.t 52)⟩,
      ⟨some 54, none, .iad 146 (.t 12) (.t 49)⟩,
      ⟨none, none, .store 5 (.t 54) (.t 53)⟩]))
   (.cut [0, 1, 3, 4, 10, 11, 12, 13, 14, 15, 16] (.reg [⟨some 55, none, .mv (.t 1)⟩,
     ⟨some 56, none, .mv (.t 14)⟩,
     ⟨some 57, none, .bin .shr 57 (.t 55) (.t 56)⟩,
     ⟨some 1, none, .mv (.t 57)⟩]))))))
def c69L1 : AC :=
  (.seq (.seq (.cut [0, 1, 3, 4, 10, 11, 12, 13, 17] (.reg [⟨some 66, none, .mv (.t 1)⟩,
      ⟨some 67, none, .mv (.t 17)⟩,
      ⟨some 68, none, .bin .geq 57 (.t 66) (.t 67)⟩]))
   (.cond (.t 68)
    .skip
    (.exit 2)))
  (.blk 3
   (.seq (.cut [0, 1, 3, 4, 10, 11, 12, 13, 17] (.reg [⟨some 69, none, .mv (.t 13)⟩,
      ⟨some 70, none, .bin .sub 3 (.t 69) (.c (.i .i64 1))⟩,
      ⟨some 13, none, .mv (.t 70)⟩]))
   (.seq (.cut [0, 1, 3, 4, 10, 11, 12, 13, 17] (.reg [⟨some 71, none, .mv (.t 1)⟩,
      ⟨some 72, none, .mv (.t 17)⟩,
      ⟨some 73, none, .bin .quo 57 (.t 71) (.t 72)⟩,
      ⟨some 18, none, .mv (.t 73)⟩]))
   (.seq (.cut [0, 1, 3, 4, 10, 11, 12, 13, 17, 18] (.reg [⟨some 74, none, .mv (.t 13)⟩,
      ⟨some 75, none, .mv (.t 1)⟩,
      ⟨some 76, none, .mv (.t 18)⟩,
      ⟨some 77, none, .mv (.t 17)⟩,
      ⟨some 78, none, .bin .mul 57 (.t 76) (.t 77)⟩,
      ⟨some 79, none, .bin .sub 57 (.t 75) (.t 78)⟩,
      ⟨some 80, none, .idx 9 (.c (.s [48, 49, 50, 51, 52, 53, 54, 55, 56, 57, 97, 98, 99, 100, 101, 102, 103, 104, 105, 106, 107, 108, 109, 110, 111, 112, 113, 114, 115, 116, 117, 118, 119, 120, 121, 122])) (.t 79)⟩,
      ⟨some 81, none, .iad 146 (.t 12) (.t 74)⟩,
      ⟨none, none, .store 5 (.t 81) (.t 80)⟩]))
   (.reg [⟨some 82, none, .mv (.t 18)⟩,
     ⟨some 1, none, .mv (.t 82)⟩]))))))
def c69 : AC :=
  (.seq (.reg [⟨some 10, none, .mv (.c (.sl0))⟩,
     ⟨some 11, none, .mv (.c (.s []))⟩])
  (.seq (.seq (.cut [0, 1, 2, 3, 4, 10, 11] (.reg [⟨some 19, none, .mv (.t 2)⟩,
      ⟨some 20, none, .bin .lss 3 (.t 19) (.c (.i .i64 2))⟩,
      ⟨some 21, none, .mv (.t 20)⟩,
      ⟨some 22, some (21, false), .mv (.t 2)⟩,
      ⟨some 23, some (21, false), .bin .eql 3 (.t 22) (.c (.i .i64 10))⟩,
      ⟨some 24, none, .pick (.t 21) (.c (.b true)) (.t 23)⟩,
      ⟨some 25, none, .mv (.t 24)⟩,
      ⟨some 26, some (25, false), .mv (.t 2)⟩,
      ⟨some 27, some (25, false), .bin .gtr 3 (.t 26) (.c (.i .i64 36))⟩,
      ⟨some 28, none, .pick (.t 25) (.c (.b true)) (.t 27)⟩]))
   (.cond (.t 28)
    (.reg [⟨some 29, none, .mki 9 (.c (.s [115, 116, 114, 99, 111, 110, 118, 58, 32, 105, 108, 108, 101, 103, 97, 108, 32, 65, 112, 112, 101, 110, 100, 73, 110, 116, 47, 70, 111, 114, 109, 97, 116, 73, 110, 116, 32, 98, 97, 115, 101]))⟩,
      ⟨none, none, .pnc (.t 29)⟩])
    .skip))
  (.seq (.reg [⟨some 12, none, .alloc 146⟩])
  (.seq (.reg [⟨some 13, none, .mv (.c (.i .i64 65))⟩])
  (.seq (.seq (.reg [⟨some 30, none, .mv (.t 3)⟩])
   (.cond (.t 30)
    (.cut [0, 1, 2, 3, 4, 10, 11, 12, 13] (.reg [⟨some 31, none, .mv (.t 1)⟩,
      ⟨some 32, none, .un .neg (.t 31)⟩,
      ⟨some 1, none, .mv (.t 32)⟩]))
    .skip))
  (.seq (.seq (.reg [⟨some 33, none, .mv (.t 2)⟩,
      ⟨some 34, none, .call (.c (.fn (.func 73) [] [])) [.t 33]⟩])
   (.cond (.t 34)
    (.seq (.cut [0, 1, 2, 3, 4, 10, 11, 12, 13] (.reg [⟨some 35, none, .mv (.t 2)⟩,
       ⟨some 36, none, .conv 3 108 (.t 35)⟩,
       ⟨some 37, none, .call (.c (.fn (.func 74) [] [])) [.t 36]⟩,
       ⟨some 38, none, .conv 3 108 (.t 37)⟩,
       ⟨some 14, none, .mv (.t 38)⟩]))
    (.seq (.cut [0, 1, 2, 3, 4, 10, 11, 12, 13, 14] (.reg [⟨some 39, none, .mv (.t 2)⟩,
       ⟨some 40, none, .conv 3 57 (.t 39)⟩,
       ⟨some 15, none, .mv (.t 40)⟩]))
    (.seq (.cut [0, 1, 2, 3, 4, 10, 11, 12, 13, 14, 15] (.reg [⟨some 41, none, .mv (.t 2)⟩,
       ⟨some 42, none, .conv 3 108 (.t 41)⟩,
       ⟨some 43, none, .bin .sub 108 (.t 42) (.c (.i .u64 1))⟩,
       ⟨some 16, none, .mv (.t 43)⟩]))
    (.seq (.blk 0
      (.loop [0, 1, 3, 4, 10, 11, 12, 13, 14, 15, 16] c69L0))
    (.seq (.cut [0, 1, 3, 4, 10, 11, 12, 13] (.reg [⟨some 58, none, .mv (.t 13)⟩,
       ⟨some 59, none, .bin .sub 3 (.t 58) (.c (.i .i64 1))⟩,
       ⟨some 13, none, .mv (.t 59)⟩]))
    (.cut [0, 1, 3, 4, 10, 11, 12, 13] (.reg [⟨some 60, none, .mv (.t 13)⟩,
      ⟨some 61, none, .mv (.t 1)⟩,
      ⟨some 62, none, .idx 9 (.c (.s [48, 49, 50, 51, 52, 53, 54, 55, 56, 57, 97, 98, 99, 100, 101, 102, 103, 104, 105, 106, 107, 108, 109, 110, 111, 112, 113, 114, 115, 116, 117, 118, 119, 120, 121, 122])) (.t 61)⟩,
      ⟨some 63, none, .iad 146 (.t 12) (.t 60)⟩,
      ⟨none, none, .store 5 (.t 63) (.t 62)⟩])))))))
    (.seq (.cut [0, 1, 2, 3, 4, 10, 11, 12, 13] (.reg [⟨some 64, none, .mv (.t 2)⟩,
       ⟨some 65, none, .conv 3 57 (.t 64)⟩,
       ⟨some 17, none, .mv (.t 65)⟩]))
    (.seq (.blk 2
      (.loop [0, 1, 3, 4, 10, 11, 12, 13, 17] c69L1))
    (.seq (.cut [0, 1, 3, 4, 10, 11, 12, 13] (.reg [⟨some 83, none, .mv (.t 13)⟩,
       ⟨some 84, none, .bin .sub 3 (.t 83) (.c (.i .i64 1))⟩,
       ⟨some 13, none, .mv (.t 84)⟩]))
    (.cut [0, 1, 3, 4, 10, 11, 12, 13] (.reg [⟨some 85, none, .mv (.t 13)⟩,
      ⟨some 86, none, .mv (.t 1)⟩,
      ⟨some 87, none, .idx 9 (.c (.s [48, 49, 50, 51, 52, 53, 54, 55, 56, 57, 97, 98, 99, 100, 101, 102, 103, 104, 105, 106, 107, 108, 109, 110, 111, 112, 113, 114, 115, 116, 117, 118, 119, 120, 121, 122])) (.t 86)⟩,
      ⟨some 88, none, .iad 146 (.t 12) (.t 85)⟩,
      ⟨none, none, .store 5 (.t 88) (.t 87)⟩])))))))
  (.seq (.seq (.reg [⟨some 89, none, .mv (.t 3)⟩])
   (.cond (.t 89)
    (.seq (.cut [0, 4, 10, 11, 12, 13] (.reg [⟨some 90, none, .mv (.t 13)⟩,
       ⟨some 91, none, .bin .sub 3 (.t 90) (.c (.i .i64 1))⟩,
       ⟨some 13, none, .mv (.t 91)⟩]))
    (.cut [0, 4, 10, 11, 12, 13] (.reg [⟨some 92, none, .mv (.t 13)⟩,
      ⟨some 93, none, .iad 146 (.t 12) (.t 92)⟩,
      ⟨none, none, .store 5 (.t 93) (.c (.i .u8 45))⟩])))
    .skip))
  (.seq (.seq (.reg [⟨some 94, none, .mv (.t 4)⟩])
   (.cond (.t 94)
    (.seq (.cut [0, 11, 12, 13] (.reg [⟨some 95, none, .mv (.t 0)⟩,
       ⟨some 96, none, .mv (.t 13)⟩,
       ⟨some 97, none, .slc 146 (.t 12) (some (.t 96)) none⟩,
       ⟨some 98, none, .app 33 false (.t 95) (.t 97)⟩,
       ⟨some 10, none, .mv (.t 98)⟩]))
    .ret)
    .skip))
  (.seq (.cut [10, 12, 13] (.reg [⟨some 99, none, .mv (.t 13)⟩,
     ⟨some 100, none, .slc 146 (.t 12) (some (.t 99)) none⟩,
     ⟨some 101, none, .conv 33 9 (.t 100)⟩,
     ⟨some 11, none, .mv (.t 101)⟩]))
  .ret)))))))))
def F69 : AF := ⟨102, [.t 10, .t 11], c69⟩
/-- internal/strconv.log10Pow2 -/
def c70 : AC :=
  (.seq (.reg [⟨some 2, none, .mv (.c (.i .i64 0))⟩])
  (.seq (.cut [0] (.reg [⟨some 3, none, .mv (.t 0)⟩,
     ⟨some 4, none, .bin .mul 3 (.t 3) (.c (.i .i64 78913))⟩,
     ⟨some 5, none, .bin .shr 3 (.t 4) (.c (.i .u64 18))⟩,
     ⟨some 2, none, .mv (.t 5)⟩]))
  .ret))
def F70 : AF := ⟨6, [.t 2], c70⟩
/-- math/bits.Len64 -/
def c71 : AC :=
  (.seq (.reg [⟨some 2, none, .mv (.c (.i .i64 0))⟩])
  (.seq (.seq (.reg [⟨some 3, none, .mv (.t 0)⟩,
      ⟨some 4, none, .bin .geq 57 (.t 3) (.c (.i .u64 4294967296))⟩])
   (.cond (.t 4)
    (.seq (.cut [0] (.reg [⟨some 5, none, .mv (.t 0)⟩,
       ⟨some 6, none, .bin .shr 57 (.t 5) (.c (.i .u64 32))⟩,
       ⟨some 0, none, .mv (.t 6)⟩]))
    (.reg [⟨some 2, none, .mv (.c (.i .i64 32))⟩]))
    .skip))
  (.seq (.seq (.reg [⟨some 7, none, .mv (.t 0)⟩,
      ⟨some 8, none, .bin .geq 57 (.t 7) (.c (.i .u64 65536))⟩])
   (.cond (.t 8)
    (.seq (.cut [0, 2] (.reg [⟨some 9, none, .mv (.t 0)⟩,
       ⟨some 10, none, .bin .shr 57 (.t 9) (.c (.i .u64 16))⟩,
       ⟨some 0, none, .mv (.t 10)⟩]))
    (.cut [0, 2] (.reg [⟨some 11, none, .mv (.t 2)⟩,
      ⟨some 12, none, .bin .add 3 (.t 11) (.c (.i .i64 16))⟩,
      ⟨some 2, none, .mv (.t 12)⟩])))
    .skip))
  (.seq (.seq (.reg [⟨some 13, none, .mv (.t 0)⟩,
      ⟨some 14, none, .bin .geq 57 (.t 13) (.c (.i .u64 256))⟩])
   (.cond (.t 14)
    (.seq (.cut [0, 2] (.reg [⟨some 15, none, .mv (.t 0)⟩,
       ⟨some 16, none, .bin .shr 57 (.t 15) (.c (.i .u64 8))⟩,
       ⟨some 0, none, .mv (.t 16)⟩]))
    (.cut [0, 2] (.reg [⟨some 17, none, .mv (.t 2)⟩,
      ⟨some 18, none, .bin .add 3 (.t 17) (.c (.i .i64 8))⟩,
      ⟨some 2, none, .mv (.t 18)⟩])))
    .skip))
  (.seq (.cut [0, 2] (.reg [⟨some 19, none, .mv (.t 2)⟩,
     ⟨some 20, none, .mv (.t 0)⟩,
     ⟨some 21, none, .conv 57 5 (.t 20)⟩,
     ⟨some 22, none, .idx 9 (.c (.s [0, 1, 2, 2, 3, 3, 3, 3, 4, 4, 4, 4, 4, 4, 4, 4, 5, 5, 5, 5, 5, 5, 5, 5, 5, 5, 5, 5, 5, 5, 5, 5, 6, 6, 6, 6, 6, 6, 6, 6, 6, 6, 6, 6, 6, 6, 6, 6, 6, 6, 6, 6, 6, 6, 6, 6, 6, 6, 6, 6, 6, 6, 6, 6, 7, 7, 7, 7, 7, 7, 7, 7, 7, 7, 7, 7, 7, 7, 7, 7, 7, 7, 7, 7, 7, 7, 7, 7, 7, 7, 7, 7, 7, 7, 7, 7, 7, 7, 7, 7, 7, 7, 7, 7, 7, 7, 7, 7, 7, 7, 7, 7, 7, 7, 7, 7, 7, 7, 7, 7, 7, 7, 7, 7, 7, 7, 7, 7, 8, 8, 8, 8, 8, 8, 8, 8, 8, 8, 8, 8, 8, 8, 8, 8, 8, 8, 8, 8, 8, 8, 8, 8, 8, 8, 8, 8, 8, 8, 8, 8, 8, 8, 8, 8, 8, 8, 8, 8, 8, 8, 8, 8, 8, 8, 8, 8, 8, 8, 8, 8, 8, 8, 8, 8, 8, 8, 8, 8, 8, 8, 8, 8, 8, 8, 8, 8, 8, 8, 8, 8, 8, 8, 8, 8, 8, 8, 8, 8, 8, 8, 8, 8, 8, 8, 8, 8, 8, 8, 8, 8, 8, 8, 8, 8, 8, 8, 8, 8, 8, 8, 8, 8, 8, 8, 8, 8, 8, 8, 8, 8, 8, 8, 8, 8, 8, 8, 8, 8, 8, 8, 8, 8, 8, 8, 8, 8])) (.t 21)⟩,
     ⟨some 23, none, .conv 5 3 (.t 22)⟩,
     ⟨some 24, none, .bin .add 3 (.t 19) (.t 23)⟩,
     ⟨some 2, none, .mv (.t 24)⟩]))
  .ret)))))
def F71 : AF := ⟨25, [.t 2], c71⟩
/-- internal/strconv.bool2[int] -/
def c72 : AC :=
  (.seq (.reg [⟨some 2, none, .mv (.c (.i .i64 0))⟩])
  (.seq (.seq (.reg [⟨some 3, none, .mv (.t 0)⟩])
   (.cond (.t 3)
    (.seq (.reg [⟨some 2, none, .mv (.c (.i .i64 1))⟩])
    .ret)
    .skip))
  (.seq (.reg [⟨some 2, none, .mv (.c (.i .i64 0))⟩])
  .ret)))
def F72 : AF := ⟨4, [.t 2], c72⟩
/-- internal/strconv.isPowerOfTwo -/
def c73 : AC :=
  (.seq (.reg [⟨some 2, none, .mv (.c (.b false))⟩])
  (.seq (.cut [0] (.reg [⟨some 3, none, .mv (.t 0)⟩,
     ⟨some 4, none, .mv (.t 0)⟩,
     ⟨some 5, none, .bin .sub 3 (.t 4) (.c (.i .i64 1))⟩,
     ⟨some 6, none, .bin .and 3 (.t 3) (.t 5)⟩,
     ⟨some 7, none, .bin .eql 3 (.t 6) (.c (.i .i64 0))⟩,
     ⟨some 2, none, .mv (.t 7)⟩]))
  .ret))
def F73 : AF := ⟨8, [.t 2], c73⟩
/-- math/bits.TrailingZeros -/
def c74 : AC :=
  (.seq (.reg [⟨some 2, none, .mv (.c (.i .i64 0))⟩])
  (.seq (.cond (.c (.b false))
    (.seq (.cut [0] (.reg [⟨some 3, none, .mv (.t 0)⟩,
       ⟨some 4, none, .conv 108 102 (.t 3)⟩,
       ⟨some 5, none, .call (.c (.fn (.func 75) [] [])) [.t 4]⟩,
       ⟨some 2, none, .mv (.t 5)⟩]))
    .ret)
    .skip)
  (.seq (.cut [0] (.reg [⟨some 6, none, .mv (.t 0)⟩,
     ⟨some 7, none, .call (.c (.fn (.func 76) [] [])) [.t 6]⟩,
     ⟨some 2, none, .mv (.t 7)⟩]))
  .ret)))
def F74 : AF := ⟨8, [.t 2], c74⟩
/-- math/bits.TrailingZeros32 -/
def c75 : AC :=
  (.seq (.reg [⟨some 2, none, .mv (.c (.i .i64 0))⟩])
  (.seq (.seq (.reg [⟨some 3, none, .mv (.t 0)⟩,
      ⟨some 4, none, .bin .eql 102 (.t 3) (.c (.i .u32 0))⟩])
   (.cond (.t 4)
    (.seq (.reg [⟨some 2, none, .mv (.c (.i .i64 32))⟩])
    .ret)
    .skip))
  (.seq (.cut [0] (.reg [⟨some 5, none, .mv (.t 0)⟩,
     ⟨some 6, none, .mv (.t 0)⟩,
     ⟨some 7, none, .un .neg (.t 6)⟩,
     ⟨some 8, none, .bin .and 102 (.t 5) (.t 7)⟩,
     ⟨some 9, none, .bin .mul 102 (.t 8) (.c (.i .u32 125613361))⟩,
     ⟨some 10, none, .bin .shr 102 (.t 9) (.c (.i .u64 27))⟩,
     ⟨some 11, none, .iad 150 (.c (.p 7 0 0)) (.t 10)⟩,
     ⟨some 12, none, .load 5 (.t 11)⟩,
     ⟨some 13, none, .conv 5 3 (.t 12)⟩,
     ⟨some 2, none, .mv (.t 13)⟩]))
  .ret)))
def F75 : AF := ⟨14, [.t 2], c75⟩
/-- math/bits.TrailingZeros64 -/
def c76 : AC :=
  (.seq (.reg [⟨some 2, none, .mv (.c (.i .i64 0))⟩])
  (.seq (.seq (.reg [⟨some 3, none, .mv (.t 0)⟩,
      ⟨some 4, none, .bin .eql 57 (.t 3) (.c (.i .u64 0))⟩])
   (.cond (.t 4)
    (.seq (.reg [⟨some 2, none, .mv (.c (.i .i64 64))⟩])
    .ret)
    .skip))
  (.seq (.cut [0] (.reg [⟨some 5, none, .mv (.t 0)⟩,
     ⟨some 6, none, .mv (.t 0)⟩,
     ⟨some 7, none, .un .neg (.t 6)⟩,
     ⟨some 8, none, .bin .and 57 (.t 5) (.t 7)⟩,
     ⟨some 9, none, .bin .mul 57 (.t 8) (.c (.i .u64 285870213051353865))⟩,
     ⟨some 10, none, .bin .shr 57 (.t 9) (.c (.i .u64 58))⟩,
     ⟨some 11, none, .iad 151 (.c (.p 8 0 0)) (.t 10)⟩,
     ⟨some 12, none, .load 5 (.t 11)⟩,
     ⟨some 13, none, .conv 5 3 (.t 12)⟩,
     ⟨some 2, none, .mv (.t 13)⟩]))
  .ret)))
def F76 : AF := ⟨14, [.t 2], c76⟩
/-- (*fallow/api.Fault).Unwrap -/
def c95 : AC :=
  (.seq (.reg [⟨some 2, none, .mv (.c (.ic0))⟩])
  (.seq (.seq (.reg [⟨some 3, none, .mv (.t 0)⟩,
      ⟨some 4, none, .bin .eql 36 (.t 3) (.c (.p0))⟩])
   (.cond (.t 4)
    (.seq (.reg [⟨some 2, none, .mv (.c (.ic0))⟩])
    .ret)
    .skip))
  (.seq (.cut [0] (.reg [⟨some 5, none, .mv (.t 0)⟩,
     ⟨some 6, none, .nilck (.t 5)⟩,
     ⟨some 7, none, .fad 41 (.t 6) 0⟩,
     ⟨some 8, none, .load 39 (.t 7)⟩,
     ⟨some 9, none, .mki 39 (.t 8)⟩,
     ⟨some 2, none, .mv (.t 9)⟩]))
  .ret)))
def F95 : AF := ⟨10, [.t 2], c95⟩
/-- (*strconv.NumError).Unwrap -/
def c113 : AC :=
  (.seq (.reg [⟨some 2, none, .mv (.c (.ic0))⟩])
  (.seq (.cut [0] (.reg [⟨some 3, none, .mv (.t 0)⟩,
     ⟨some 4, none, .nilck (.t 3)⟩,
     ⟨some 5, none, .fad 128 (.t 4) 2⟩,
     ⟨some 6, none, .load 26 (.t 5)⟩,
     ⟨some 2, none, .mv (.t 6)⟩]))
  .ret))
def F113 : AF := ⟨7, [.t 2], c113⟩
/-- gosem.cut.vars -/
def c129 : AC :=
  (.seq (.reg [⟨some 0, none, .build 150 [(0, .c (.i .u8 0)), (1, .c (.i .u8 1)), (2, .c (.i .u8 28)), (3, .c (.i .u8 2)), (4, .c (.i .u8 29)), (5, .c (.i .u8 14)), (6, .c (.i .u8 24)), (7, .c (.i .u8 3)), (8, .c (.i .u8 30)), (9, .c (.i .u8 22)), (10, .c (.i .u8 20)), (11, .c (.i .u8 15)), (12, .c (.i .u8 25)), (13, .c (.i .u8 17)), (14, .c (.i .u8 4)), (15, .c (.i .u8 8)), (16, .c (.i .u8 31)), (17, .c (.i .u8 27)), (18, .c (.i .u8 13)), (19, .c (.i .u8 23)), (20, .c (.i .u8 21)), (21, .c (.i .u8 19)), (22, .c (.i .u8 16)), (23, .c (.i .u8 7)), (24, .c (.i .u8 26)), (25, .c (.i .u8 12)), (26, .c (.i .u8 18)), (27, .c (.i .u8 6)), (28, .c (.i .u8 11)), (29, .c (.i .u8 5)), (30, .c (.i .u8 10)), (31, .c (.i .u8 9))]⟩,
     ⟨none, none, .store 150 (.c (.p 7 0 0)) (.t 0)⟩])
  (.seq (.reg [⟨some 1, none, .build 151 [(0, .c (.i .u8 0)), (1, .c (.i .u8 1)), (2, .c (.i .u8 56)), (3, .c (.i .u8 2)), (4, .c (.i .u8 57)), (5, .c (.i .u8 49)), (6, .c (.i .u8 28)), (7, .c (.i .u8 3)), (8, .c (.i .u8 61)), (9, .c (.i .u8 58)), (10, .c (.i .u8 42)), (11, .c (.i .u8 50)), (12, .c (.i .u8 38)), (13, .c (.i .u8 29)), (14, .c (.i .u8 17)), (15, .c (.i .u8 4)), (16, .c (.i .u8 62)), (17, .c (.i .u8 47)), (18, .c (.i .u8 59)), (19, .c (.i .u8 36)), (20, .c (.i .u8 45)), (21, .c (.i .u8 43)), (22, .c (.i .u8 51)), (23, .c (.i .u8 22)), (24, .c (.i .u8 53)), (25, .c (.i .u8 39)), (26, .c (.i .u8 33)), (27, .c (.i .u8 30)), (28, .c (.i .u8 24)), (29, .c (.i .u8 18)), (30, .c (.i .u8 12)), (31, .c (.i .u8 5)), (32, .c (.i .u8 63)), (33, .c (.i .u8 55)), (34, .c (.i .u8 48)), (35, .c (.i .u8 27)), (36, .c (.i .u8 60)), (37, .c (.i .u8 41)), (38, .c (.i .u8 37)), (39, .c (.i .u8 16)), (40, .c (.i .u8 46)), (41, .c (.i .u8 35)), (42, .c (.i .u8 44)), (43, .c (.i .u8 21)), (44, .c (.i .u8 52)), (45, .c (.i .u8 32)), (46, .c (.i .u8 23)), (47, .c (.i .u8 11)), (48, .c (.i .u8 54)), (49, .c (.i .u8 26)), (50, .c (.i .u8 40)), (51, .c (.i .u8 15)), (52, .c (.i .u8 34)), (53, .c (.i .u8 20)), (54, .c (.i .u8 31)), (55, .c (.i .u8 10)), (56, .c (.i .u8 25)), (57, .c (.i .u8 14)), (58, .c (.i .u8 19)), (59, .c (.i .u8 9)), (60, .c (.i .u8 13)), (61, .c (.i .u8 8)), (62, .c (.i .u8 7)), (63, .c (.i .u8 6))]⟩,
     ⟨none, none, .store 151 (.c (.p 8 0 0)) (.t 1)⟩])
  (.seq (.reg [⟨some 2, none, .build 145 [(0, .c (.i .u64 1)), (1, .c (.i .u64 10)), (2, .c (.i .u64 100)), (3, .c (.i .u64 1000)), (4, .c (.i .u64 10000)), (5, .c (.i .u64 100000)), (6, .c (.i .u64 1000000)), (7, .c (.i .u64 10000000)), (8, .c (.i .u64 100000000)), (9, .c (.i .u64 1000000000)), (10, .c (.i .u64 10000000000)), (11, .c (.i .u64 100000000000)), (12, .c (.i .u64 1000000000000)), (13, .c (.i .u64 10000000000000)), (14, .c (.i .u64 100000000000000)), (15, .c (.i .u64 1000000000000000)), (16, .c (.i .u64 10000000000000000)), (17, .c (.i .u64 100000000000000000)), (18, .c (.i .u64 1000000000000000000)), (19, .c (.i .u64 10000000000000000000))]⟩,
     ⟨none, none, .store 145 (.c (.p 6 0 0)) (.t 2)⟩])
  (.seq (.cut [] (.reg [⟨some 3, none, .mki 178 (.c (.p0))⟩,
     ⟨some 4, none, .call (.c (.fn (.func 40) [] [])) [.t 3]⟩,
     ⟨some 5, none, .inv (.t 4) "Elem" []⟩,
     ⟨none, none, .store 66 (.c (.p 0 0 0)) (.t 5)⟩]))
  (.seq (.reg [⟨some 6, none, .call (.c (.fn (.func 62) [] [])) [.c (.s [118, 97, 108, 117, 101, 32, 111, 117, 116, 32, 111, 102, 32, 114, 97, 110, 103, 101])]⟩,
     ⟨none, none, .store 26 (.c (.p 5 0 0)) (.t 6)⟩])
  (.seq (.reg [⟨some 7, none, .call (.c (.fn (.func 62) [] [])) [.c (.s [105, 110, 118, 97, 108, 105, 100, 32, 115, 121, 110, 116, 97, 120])]⟩,
     ⟨none, none, .store 26 (.c (.p 4 0 0)) (.t 7)⟩])
  (.seq (.cut [] (.reg [⟨some 8, none, .build 121 [(0, .c (.i .u16 9)), (1, .c (.i .u16 13)), (2, .c (.i .u16 1))]⟩,
     ⟨some 9, none, .build 121 [(0, .c (.i .u16 32)), (1, .c (.i .u16 133)), (2, .c (.i .u16 101))]⟩,
     ⟨some 10, none, .build 121 [(0, .c (.i .u16 160)), (1, .c (.i .u16 5760)), (2, .c (.i .u16 5600))]⟩,
     ⟨some 11, none, .build 121 [(0, .c (.i .u16 8192)), (1, .c (.i .u16 8202)), (2, .c (.i .u16 1))]⟩,
     ⟨some 12, none, .build 121 [(0, .c (.i .u16 8232)), (1, .c (.i .u16 8233)), (2, .c (.i .u16 1))]⟩,
     ⟨some 13, none, .build 121 [(0, .c (.i .u16 8239)), (1, .c (.i .u16 8287)), (2, .c (.i .u16 48))]⟩,
     ⟨some 14, none, .build 121 [(0, .c (.i .u16 12288)), (1, .c (.i .u16 12288)), (2, .c (.i .u16 1))]⟩,
     ⟨some 15, none, .bsl 115 7 [(0, .t 8), (1, .t 9), (2, .t 10), (3, .t 11), (4, .t 12), (5, .t 13), (6, .t 14)]⟩,
     ⟨some 16, none, .build 118 [(0, .t 15), (2, .c (.i .i64 2))]⟩,
     ⟨some 17, none, .box 118 (.t 16)⟩,
     ⟨none, none, .store 104 (.c (.p 9 0 0)) (.t 17)⟩]))
  (.seq (.reg [⟨some 18, none, .load 104 (.c (.p 9 0 0))⟩,
     ⟨none, none, .store 104 (.c (.p 2 0 0)) (.t 18)⟩])
  (.reg [⟨some 19, none, .build 76 [(9, .c (.i .u8 1)), (10, .c (.i .u8 1)), (11, .c (.i .u8 1)), (12, .c (.i .u8 1)), (13, .c (.i .u8 1)), (32, .c (.i .u8 1))]⟩,
    ⟨none, none, .store 76 (.c (.p 1 0 0)) (.t 19)⟩])))))))))
def F129 : AF := ⟨20, [], c129⟩
def fns : Nat → Option AF
  | 2 => some F2
  | 3 => some F3
  | 4 => some F4
  | 5 => some F5
  | 6 => some F6
  | 7 => some F7
  | 8 => some F8
  | 9 => some F9
  | 10 => some F10
  | 11 => some F11
  | 12 => some F12
  | 13 => some F13
  | 14 => some F14
  | 15 => some F15
  | 16 => some F16
  | 17 => some F17
  | 18 => some F18
  | 19 => some F19
  | 20 => some F20
  | 21 => some F21
  | 22 => some F22
  | 23 => some F23
  | 24 => some F24
  | 28 => some F28
  | 29 => some F29
  | 30 => some F30
  | 31 => some F31
  | 32 => some F32
  | 33 => some F33
  | 34 => some F34
  | 35 => some F35
  | 36 => some F36
  | 37 => some F37
  | 38 => some F38
  | 39 => some F39
  | 43 => some F43
  | 44 => some F44
  | 45 => some F45
  | 46 => some F46
  | 47 => some F47
  | 48 => some F48
  | 49 => some F49
  | 50 => some F50
  | 52 => some F52
  | 53 => some F53
  | 54 => some F54
  | 55 => some F55
  | 56 => some F56
  | 57 => some F57
  | 58 => some F58
  | 59 => some F59
  | 60 => some F60
  | 62 => some F62
  | 63 => some F63
  | 64 => some F64
  | 65 => some F65
  | 66 => some F66
  | 67 => some F67
  | 68 => some F68
  | 69 => some F69
  | 70 => some F70
  | 71 => some F71
  | 72 => some F72
  | 73 => some F73
  | 74 => some F74
  | 75 => some F75
  | 76 => some F76
  | 95 => some F95
  | 113 => some F113
  | 129 => some F129
  | _ => none
end Go.Abs.YtjphfiieapclhaaDoor
