/- Texts of this claim, joined: Code. -/
import Derived.Test.YtnbdedokjfpckaaGreatDoorM01
set_option linter.unusedVariables false
set_option linter.unusedSimpArgs false
namespace Go.dB.YtnbdedokjfpckaaGreatDoor
@[reducible] def zo (d:Nat) (o:dG):AI:=⟨some d,none,o⟩
@[reducible] def cu (d g:Nat) (o:dG):AI:=⟨some d,some (g,true),o⟩
@[reducible] def dX (d g:Nat) (o:dG):AI:=⟨some d,some (g,false),o⟩
@[reducible] def zn (o:dG):AI:=⟨none,none,o⟩
@[reducible] def zV (d a:Nat):AI:=⟨some d,none,.mv (.t a)⟩
@[reducible] def gB (d g a:Nat):AI:=⟨some d,some (g,true),.mv (.t a)⟩
@[reducible] def jK (d g a:Nat):AI:=⟨some d,some (g,false),.mv (.t a)⟩
@[reducible] def zL (d t a:Nat):AI:=⟨some d,none,.load t (.t a)⟩
@[reducible] def zN (d a:Nat):AI:=⟨some d,none,.iP (.t a)⟩
@[reducible] def zF (d t a k:Nat):AI:=⟨some d,none,.ku t (.t a) k⟩
@[reducible] def zE (d a k:Nat):AI:=⟨some d,none,.ext (.t a) k⟩
@[reducible] def zS (t a b:Nat):AI:=⟨none,none,.store t (.t a) (.t b)⟩
@[reducible] def zC (d f:Nat) (l:List bJ):AI:=⟨some d,none,.call (.c (.fn (.func f) [] [])) l⟩
@[reducible] def zB (d:Nat) (o:BinOp) (t a b:Nat):AI:=⟨some d,none,.bin o t (.t a) (.t b)⟩
@[reducible] def zD (d:Nat) (o:BinOp) (t a:Nat) (b:Int):AI:=⟨some d,none,.bin o t (.t a) (.c (.i .i64 b))⟩
def c3L0:AC:=(.seq (.seq (.cut [3,4,5,6] (.reg [zV 35 6,zV 36 5,zB 37 .lss 3 35 36]))
 (.cond (.t 37)
 .skip
 (.exit 0)))
 (.seq (.blk 1
 (.seq (.cut [3,4,5,6] (.reg [zV 41 4,zV 42 3,zC 43 11 [.t 41,.t 42],zV 40 43,zE 44 40 0,zE 45 40 1,zV 7 44,zV 8 45]))
 (.seq (.cut [3,4,5,6,7,8] (.reg [zV 47 4,zV 48 3,zC 49 11 [.t 47,.t 48],zV 46 49,zE 50 46 0,zE 51 46 1,zV 9 50,zV 10 51]))
 (.seq (.cut [3,4,5,6,7,8,10] (.reg [zV 53 4,zV 54 3,zC 55 11 [.t 53,.t 54],zV 52 55,zE 56 52 0,zE 57 52 1,zV 11 56,zV 12 57]))
 (.cut [1000000,3,4,5,6,7,8,10,12] (.seq (.cut [3,4,5,6,7,8,10,12] (.reg [zV 58 7,zD 59 .neq 3 58 6,zV 60 59,jK 61 60 8,dX 62 60 (.un .not (.t 61)),zo 63 (.pick (.t 60) (.c (.b true)) (.t 62)),zV 64 63,jK 65 64 10,zo 66 (.pick (.t 64) (.c (.b true)) (.t 65)),zV 67 66,jK 68 67 12,zo 69 (.pick (.t 67) (.c (.b true)) (.t 68))]))
 (.cond (.t 69)
 (.seq (.reg [zo 2 (.mv (.c (.b false)))])
 .ret)
 .skip)))))))
 (.cut [3,4,5,6] (.reg [zV 38 6,zD 39 .add 3 38 1,zV 6 39]))))
def c3:AC:=(.seq (.reg [zo 2 (.mv (.c (.b false)))])
 (.seq (.cut [0] (.reg [zC 17 7 [.c (.s [97,103,97,105,110,58,10,101,99,97,108,108,32,54,10,97,100,100,105,32,99,53,32,99,53,32,49,10,98,110,101,32,99,53,32,99,54,32,97,103,97,105,110,10,101,99,97,108,108,32,48])],zV 16 17,zE 18 16 0,zE 19 16 1,zV 3 18,zV 4 19]))
 (.seq (.seq (.cut [0,3,4] (.reg [zV 20 3,zo 21 (.bin .eql 22 (.t 20) (.c (.p0))),zV 22 21,dX 23 22 (.call (.c (.fn (.func 8) [] [])) []),dX 24 22 (.un .not (.t 23)),zo 25 (.pick (.t 22) (.c (.b true)) (.t 24))]))
 (.cond (.t 25)
 (.seq (.reg [zo 2 (.mv (.c (.b false)))])
 .ret)
 .skip))
 (.seq (.cut [0,3,4] (.reg [zV 26 0,zo 27 (.bin .rem 5 (.t 26) (.c (.i .u8 50))),zo 28 (.conv 5 3 (.t 27)),zo 29 (.bin .add 3 (.c (.i .i64 1)) (.t 28)),zV 5 29]))
 (.seq (.cut [3,4,5] (.reg [zV 30 4,zV 31 5,zo 32 (.conv 3 28 (.t 31)),zC 33 10 [.t 32],zC 34 9 [.t 30,.c (.i .i64 6),.t 33]]))
 (.cut [1000000,3,4,5] (.seq (.seq (.reg [zo 6 (.mv (.c (.i .i64 0)))])
 (.blk 0
 (.loop [3,4,5,6] c3L0)))
 (.seq (.cut [3,4,5] (.reg [zV 71 4,zV 72 3,zC 73 11 [.t 71,.t 72],zV 70 73,zE 74 70 0,zE 75 70 1,zV 13 74,zV 14 75]))
 (.cut [1000000,4,5,13,14] (.seq (.cut [4,5,13,14] (.reg [zV 76 4,zC 77 12 [.t 76],zo 15 (.alloc 41),zS 41 15 77]))
 (.seq (.cut [5,13,14,15] (.j_ [(zV 78 13,[]),(zD 79 .eql 3 78 0,[]),(zV 80 79,[]),(gB 81 80 14,[]),(zo 82 (.pick (.t 80) (.t 81) (.c (.b false))),[]),(zV 83 82,[]),(cu 84 83 (.ku 41 (.t 15) 4),[]),(cu 85 83 (.load 39 (.t 84)),[]),(gB 86 83 5,[]),(cu 87 83 (.bin .mul 3 (.c (.i .i64 3)) (.t 86)),[]),(cu 88 83 (.bin .add 3 (.t 87) (.c (.i .i64 1))),[]),(cu 89 83 (.qQ true 3 39 (.t 88)),[]),(cu 90 83 (.bin .eql 39 (.t 85) (.t 89)),[]),(zo 91 (.pick (.t 83) (.t 90) (.c (.b false))),[]),(zV 92 91,[]),(cu 93 92 (.ku 41 (.t 15) 0),[]),(cu 94 92 (.ku 37 (.t 93) 0),[]),(cu 95 92 (.fC 35 (.t 94) (.c (.i .i64 5))),[]),(cu 96 92 (.load 31 (.t 95)),[]),(gB 97 92 5,[]),(cu 98 92 (.qQ true 3 28 (.t 97)),[]),(cu 99 92 (.call (.c (.fn (.func 10) [] [])) [.t 98]),[cu 96 92 (.load 31 (.t 95))]),(cu 100 92 (.bin .eql 31 (.t 96) (.t 99)),[]),(zo 101 (.pick (.t 92) (.t 100) (.c (.b false))),[]),(zV 102 101,[]),(cu 103 102 (.ku 41 (.t 15) 1),[]),(cu 104 102 (.load 3 (.t 103)),[]),(cu 105 102 (.bin .eql 3 (.t 104) (.c (.i .i64 0))),[]),(zo 106 (.pick (.t 102) (.t 105) (.c (.b false))),[]),(zV 107 106,[]),(cu 108 107 (.ku 41 (.t 15) 0),[]),(cu 109 107 (.ku 37 (.t 108) 1),[]),(cu 110 107 (.ku 31 (.t 109) 0),[]),(cu 111 107 (.load 28 (.t 110)),[]),(cu 112 107 (.bin .eql 28 (.t 111) (.c (.i .u32 16))),[]),(zo 113 (.pick (.t 107) (.t 112) (.c (.b false))),[]),(zV 2 113,[])]))
 (.cut [1000000,2] .ret))))))))))))
def F3:AF:=⟨114,[.t 2],c3⟩
def c4L0:AC:=(.seq (.seq (.cut [5,6,8] (.reg [zV 37 8,zo 38 (.len 9 (.t 37)),zD 39 .gtr 3 38 1,zV 40 39,gB 41 40 8,cu 42 40 (.idx 9 (.t 41) (.c (.i .i64 0))),cu 43 40 (.bin .eql 5 (.t 42) (.c (.i .u8 48))),zo 44 (.pick (.t 40) (.t 43) (.c (.b false)))]))
 (.cond (.t 44)
 .skip
 (.exit 0)))
 (.blk 1
 (.cut [5,6,8] (.reg [zV 45 8,zo 46 (.slc 9 (.t 45) (some (.c (.i .i64 1))) none),zV 8 46]))))
def c4:AC:=(.seq (.reg [zo 4 (.mv (.c (.b false)))])
 (.seq (.cut [0,1] (.reg [zo 14 (.build 44 [(0,.c (.s [108,99,32,99,52,32,99,49,32])),(1,.c (.s [108,119,32,99,52,32,99,49,32])),(2,.c (.s [115,99,32,99,52,32,99,49,32])),(3,.c (.s [105,110,99,105,32,99,52,32,99,49,32]))]),zo 5 (.alloc 44),zS 44 5 14]))
 (.seq (.cut [0,1,5] (.reg [zV 15 1,zo 16 (.bin .rem 5 (.t 15) (.c (.i .u8 4))),zo 17 (.conv 5 3 (.t 16)),zV 6 17]))
 (.seq (.cut [0,5,6] (.reg [zV 18 0,zo 19 (.conv 5 3 (.t 18)),zD 20 .quo 3 19 16,zD 21 .mul 3 20 16,zV 7 21]))
 (.seq (.cut [5,6,7] (.reg [zV 22 7,zD 23 .quo 3 22 100,zo 24 (.bin .add 3 (.c (.i .i64 48)) (.t 23)),zo 25 (.conv 3 5 (.t 24)),zV 26 7,zD 27 .quo 3 26 10,zD 28 .rem 3 27 10,zo 29 (.bin .add 3 (.c (.i .i64 48)) (.t 28)),zo 30 (.conv 3 5 (.t 29)),zV 31 7,zD 32 .rem 3 31 10,zo 33 (.bin .add 3 (.c (.i .i64 48)) (.t 32)),zo 34 (.conv 3 5 (.t 33)),zo 35 (.vH 45 3 [(0,.t 25),(1,.t 30),(2,.t 34)]),zo 36 (.conv 45 9 (.t 35)),zV 8 36]))
 (.cut [1000000,5,6,8] (.seq (.blk 0
 (.loop [5,6,8] c4L0))
 (.seq (.cut [5,6,8] (.reg [zV 48 6,zo 49 (.fC 44 (.t 5) (.t 48)),zL 50 9 49,zV 51 8,zB 52 .add 9 50 51,zC 53 7 [.t 52],zV 47 53,zE 54 47 0,zE 55 47 1,zV 9 54,zV 10 55]))
 (.seq (.seq (.cut [6,9,10] (.reg [zV 56 9,zo 57 (.bin .eql 22 (.t 56) (.c (.p0))),zV 58 57,dX 59 58 (.call (.c (.fn (.func 8) [] [])) []),dX 60 58 (.un .not (.t 59)),zo 61 (.pick (.t 58) (.c (.b true)) (.t 60))]))
 (.cond (.t 61)
 (.seq (.reg [zo 4 (.mv (.c (.b false)))])
 .ret)
 .skip))
 (.cut [1000000,6,9,10] (.seq (.cut [6,9,10] (.reg [zV 63 10,zV 64 9,zC 65 13 [.t 63,.t 64],zV 62 65,zE 66 62 0,zE 67 62 1,zV 11 66,zV 12 67]))
 (.seq (.cut [6,9,10,11,12] (.reg [zV 68 10,zC 69 12 [.t 68],zo 13 (.alloc 41),zS 41 13 69]))
 (.seq (.cut [6,9,10,11,12,13] (.reg [zV 70 10,zV 71 9,zC 72 11 [.t 70,.t 71]]))
 (.seq (.cut [6,10,11,12,13] (.reg [zV 73 12,zV 74 6,zD 75 .eql 3 74 0,zB 76 .eql 4 73 75,zV 77 76,gB 78 77 11,gB 79 77 12,cu 80 77 (.call (.c (.fn (.func 14) [] [])) [.t 79]),cu 81 77 (.bin .mul 3 (.c (.i .i64 4)) (.t 80)),cu 82 77 (.bin .eql 3 (.t 78) (.t 81)),zo 83 (.pick (.t 77) (.t 82) (.c (.b false))),zV 84 83,cu 85 84 (.ku 41 (.t 13) 4),cu 86 84 (.load 39 (.t 85)),cu 87 84 (.bin .eql 39 (.t 86) (.c (.i .u64 0))),zo 88 (.pick (.t 84) (.t 87) (.c (.b false))),zV 89 88,gB 90 89 10,cu 91 89 (.call (.c (.fn (.func 12) [] [])) [.t 90]),cu 92 89 (.Jg 41 (.t 91) 4),cu 93 89 (.bin .eql 39 (.t 92) (.c (.i .u64 1))),zo 94 (.pick (.t 89) (.t 93) (.c (.b false))),zV 4 94]))
 .ret))))))))))))))
def F4:AF:=⟨95,[.t 4],c4⟩
def c7L0:AC:=(.seq (.seq (.cut [4,6,8] (.reg [zV 25 8,zV 26 6,zo 27 (.len 64 (.t 26)),zB 28 .lss 3 25 27]))
 (.cond (.t 28)
 .skip
 (.exit 0)))
 (.seq (.blk 1
 (.cut [4,6,8] (.reg [zV 31 4,zV 32 8,zo 33 (.bin .mul 3 (.c (.i .i64 4)) (.t 32)),zo 34 (.conv 3 28 (.t 33)),zV 35 6,zV 36 8,zo 37 (.fC 64 (.t 35) (.t 36)),zL 38 28 37,zC 39 25 [.t 31,.t 34,.c (.i .i64 4),.t 38]])))
 (.cut [4,6,8] (.reg [zV 29 8,zD 30 .add 3 29 1,zV 8 30]))))
def c7:AC:=(.seq (.reg [zo 2 (.mv (.c (.p0))),zo 3 (.mv (.c (.p0)))])
 (.seq (.cut [0] (.reg [zC 11 23 [.c (.i .i64 16)],zV 10 11,zE 12 10 0,zE 13 10 1,zV 4 12,zV 5 13]))
 (.seq (.cut [0,4,5] (.reg [zV 15 0,zC 16 24 [.t 15],zV 14 16,zE 17 14 0,zE 18 14 1,zV 6 17,zV 7 18]))
 (.seq (.seq (.cut [4,5,6,7] (.reg [zV 19 5,zD 20 .neq 61 19 0,zV 21 20,jK 22 21 7,dX 23 21 (.bin .neq 66 (.t 22) (.c (.gK))),zo 24 (.pick (.t 21) (.c (.b true)) (.t 23))]))
 (.cond (.t 24)
 (.seq (.reg [zo 2 (.mv (.c (.p0))),zo 3 (.mv (.c (.p0)))])
 .ret)
 .skip))
 (.seq (.seq (.reg [zo 8 (.mv (.c (.i .i64 0)))])
 (.blk 0
 (.loop [4,6,8] c7L0)))
 (.seq (.reg [zo 9 (.alloc 37)])
 (.seq (.cut [4,9] (.reg [zo 41 (.build 51 [(1,.c (.i .u32 256))]),zC 42 15 [.t 41,.c (.i .u16 5)],zV 40 42,zE 43 40 0,zE 44 40 1,zF 45 37 9 1,zS 31 45 43]))
 (.seq (.cut [4,9] (.reg [zo 47 (.build 51 [(0,.c (.i .u32 1024)),(1,.c (.i .u32 256))]),zC 48 15 [.t 47,.c (.i .u16 27)],zV 46 48,zE 49 46 0,zE 50 46 1,zF 51 37 9 0,zo 52 (.fC 35 (.t 51) (.c (.i .i64 1))),zS 31 52 49]))
 (.seq (.cut [4,9] (.reg [zV 53 4,zL 54 37 9,zC 55 26 [.t 54],zV 2 53,zV 3 55]))
 .ret)))))))))
def F7:AF:=⟨56,[.t 2,.t 3],c7⟩
def c8:AC:=(.seq (.reg [zo 0 (.mv (.c (.b false)))])
 (.seq (.cut [] (.reg [zC 13 7 [.c (.s [108,105,32,99,51,32,49,10,101,99,97,108,108,32,52,10,116,114,97,112])],zV 12 13,zE 14 12 0,zE 15 12 1,zV 1 14,zV 2 15]))
 (.seq (.seq (.cut [1,2] (.reg [zV 16 1,zo 17 (.bin .eql 22 (.t 16) (.c (.p0))),zV 18 17,jK 19 18 2,dX 20 18 (.bin .eql 23 (.t 19) (.c (.p0))),zo 21 (.pick (.t 18) (.c (.b true)) (.t 20))]))
 (.cond (.t 21)
 (.seq (.reg [zo 0 (.mv (.c (.b false)))])
 .ret)
 .skip))
 (.seq (.cut [1,2] (.reg [zV 23 2,zV 24 1,zC 25 11 [.t 23,.t 24],zV 22 25,zE 26 22 0,zE 27 22 1,zV 3 26,zV 4 27]))
 (.seq (.cut [1,2,4] (.reg [zV 29 2,zV 30 1,zC 31 11 [.t 29,.t 30],zV 28 31,zE 32 28 0,zE 33 28 1,zV 5 32,zV 6 33]))
 (.cut [1000000,1,2,4,5,6] (.seq (.cut [1,2,4,5,6] (.reg [zV 35 2,zV 36 1,zC 37 11 [.t 35,.t 36],zV 34 37,zE 38 34 0,zE 39 34 1,zV 7 38,zV 8 39]))
 (.seq (.cut [1,2,4,5,6,8] (.reg [zV 40 2,zC 41 12 [.t 40],zo 9 (.alloc 41),zS 41 9 41]))
 (.seq (.cut [1,2,4,5,6,8,9] (.reg [zV 43 2,zV 44 1,zC 45 11 [.t 43,.t 44],zV 42 45,zE 46 42 0,zE 47 42 1,zV 10 46,zV 11 47]))
 (.seq (.cut [2,4,5,6,8,9,11] (.j_ [(zV 48 4,[]),(zo 49 (.un .not (.t 48)),[]),(zV 50 49,[]),(gB 51 50 5,[]),(cu 52 50 (.bin .eql 3 (.t 51) (.c (.i .i64 4))),[]),(zo 53 (.pick (.t 50) (.t 52) (.c (.b false))),[]),(zV 54 53,[]),(gB 55 54 6,[]),(zo 56 (.pick (.t 54) (.t 55) (.c (.b false))),[]),(zV 57 56,[]),(gB 58 57 8,[]),(cu 59 57 (.un .not (.t 58)),[]),(zo 60 (.pick (.t 57) (.t 59) (.c (.b false))),[]),(zV 61 60,[]),(gB 62 61 11,[]),(cu 63 61 (.un .not (.t 62)),[]),(zo 64 (.pick (.t 61) (.t 63) (.c (.b false))),[]),(zV 65 64,[]),(cu 66 65 (.ku 41 (.t 9) 1),[]),(cu 67 65 (.load 3 (.t 66)),[]),(cu 68 65 (.bin .eql 3 (.t 67) (.c (.i .i64 4))),[]),(zo 69 (.pick (.t 65) (.t 68) (.c (.b false))),[]),(zV 70 69,[]),(cu 71 70 (.ku 41 (.t 9) 2),[]),(cu 72 70 (.load 38 (.t 71)),[]),(cu 73 70 (.bin .eql 38 (.t 72) (.c (.i .i64 6))),[]),(zo 74 (.pick (.t 70) (.t 73) (.c (.b false))),[]),(zV 75 74,[]),(cu 76 75 (.ku 41 (.t 9) 4),[]),(cu 77 75 (.load 39 (.t 76)),[]),(cu 78 75 (.bin .eql 39 (.t 77) (.c (.i .u64 2))),[]),(zo 79 (.pick (.t 75) (.t 78) (.c (.b false))),[]),(zV 80 79,[]),(cu 81 80 (.ku 41 (.t 9) 0),[]),(cu 82 80 (.ku 37 (.t 81) 1),[]),(cu 83 80 (.ku 31 (.t 82) 0),[]),(cu 84 80 (.load 28 (.t 83)),[]),(cu 85 80 (.bin .eql 28 (.t 84) (.c (.i .u32 8))),[]),(zo 86 (.pick (.t 80) (.t 85) (.c (.b false))),[]),(zV 87 86,[]),(cu 88 87 (.ku 41 (.t 9) 0),[]),(cu 89 87 (.ku 37 (.t 88) 0),[]),(cu 90 87 (.fC 35 (.t 89) (.c (.i .i64 3))),[]),(cu 91 87 (.load 31 (.t 90)),[]),(cu 92 87 (.call (.c (.fn (.func 10) [] [])) [.c (.i .u32 1)]),[cu 91 87 (.load 31 (.t 90))]),(cu 93 87 (.bin .eql 31 (.t 91) (.t 92)),[]),(zo 94 (.pick (.t 87) (.t 93) (.c (.b false))),[]),(zV 95 94,[]),(gB 96 95 2,[]),(cu 97 95 (.call (.c (.fn (.func 16) [] [])) [.t 96,.c (.i .i64 0),.c (.i .i64 0)]),[]),(cu 98 95 (.un .not (.t 97)),[]),(zo 99 (.pick (.t 95) (.t 98) (.c (.b false))),[]),(zV 100 99,[]),(gB 101 100 2,[]),(cu 102 100 (.call (.c (.fn (.func 10) [] [])) [.c (.i .u32 2)]),[]),(cu 103 100 (.call (.c (.fn (.func 9) [] [])) [.t 101,.c (.i .i64 3),.t 102]),[]),(cu 104 100 (.un .not (.t 103)),[]),(zo 105 (.pick (.t 100) (.t 104) (.c (.b false))),[]),(zV 0 105,[])]))
 (.cut [1000000,0] .ret)))))))))))
def F8:AF:=⟨106,[.t 0],c8⟩
def c9:AC:=(.seq (.reg [zo 5 (.box 31 (.t 2)),zo 6 (.mv (.c (.b false)))])
 (.seq (.seq (.cut [0,1,5] (.reg [zV 7 0,zC 8 27 [.t 7],zV 9 8,jK 10 9 0,dX 11 9 (.call (.c (.fn (.func 28) [] [])) [.t 10]),zo 12 (.pick (.t 9) (.c (.b true)) (.t 11)),zV 13 12,jK 14 13 1,dX 15 13 (.bin .lss 3 (.t 14) (.c (.i .i64 0))),zo 16 (.pick (.t 13) (.c (.b true)) (.t 15)),zV 17 16,jK 18 17 1,dX 19 17 (.bin .geq 3 (.t 18) (.c (.i .i64 16))),zo 20 (.pick (.t 17) (.c (.b true)) (.t 19))]))
 (.cond (.t 20)
 (.seq (.reg [zo 6 (.mv (.c (.b false)))])
 .ret)
 .skip))
 (.seq (.cut [0,1,5] (.j_ [(zV 21 0,[]),(zV 22 1,[]),(zL 23 31 5,[]),(zN 24 21,[]),(zF 25 77 24 0,[]),(zF 26 72 25 0,[]),(zF 27 37 26 0,[]),(zo 28 (.fC 35 (.t 27) (.t 22)),[]),(zS 31 28 23,[])]))
 (.seq (.reg [zo 6 (.mv (.c (.b true)))])
 .ret))))
def F9:AF:=⟨29,[.t 6],c9⟩
def c10:AC:=(.seq (.reg [zo 2 (.alloc 31)])
 (.seq (.cut [0,2] (.reg [zV 3 0,zo 4 (.build 31 [(0,.t 3)]),zS 31 2 4]))
 .ret))
def F10:AF:=⟨5,[.cell 2 31],c10⟩
def c11:AC:=(.seq (.cut [0,1] (.reg [zo 2 (.box 23 (.t 0)),zo 4 (.mv (.c (.i .i64 0))),zo 5 (.mv (.c (.b false)))]))
 (.seq (.seq (.cut [1,2] (.reg [zL 9 23 2,zC 10 27 [.t 9],zV 11 10,dX 12 11 (.load 23 (.t 2)),dX 13 11 (.iP (.t 12)),dX 14 11 (.ku 77 (.t 13) 2),dX 15 11 (.load 3 (.t 14)),dX 16 11 (.bin .neq 3 (.t 15) (.c (.i .i64 0))),zo 17 (.pick (.t 11) (.c (.b true)) (.t 16))]))
 (.cond (.t 17)
 (.seq (.reg [zo 4 (.mv (.c (.i .i64 0))),zo 5 (.mv (.c (.b false)))])
 .ret)
 .skip))
 (.seq (.reg [zo 18 (.vI (.func 29) [] [.t 2]),zV 6 18])
 (.seq (.cut [1,2,6] (.reg [zL 20 23 2,zN 21 20,zF 22 77 21 0,zF 23 72 22 0,zL 24 37 23,zV 25 1,zC 26 30 [.t 24,.t 25],zV 19 26,zE 27 19 0,zE 28 19 1,zo 7 (.alloc 80),zS 80 7 27,zV 8 28]))
 (.cut [1000000,1,2,6,7,8] (.seq (.seq (.reg [zV 29 8,zD 30 .neq 38 29 0])
 (.cond (.t 30)
 (.seq (.cut [2,6,8] (.reg [zV 31 6,zL 32 23 2,zN 33 32,zF 34 77 33 0,zF 35 72 34 0,zL 36 37 35,zV 37 8,zo 38 (.call (.t 31) [.t 36,.t 37])]))
 (.seq (.reg [zo 4 (.mv (.c (.i .i64 0))),zo 5 (.mv (.c (.b false)))])
 .ret))
 .skip))
 (.seq (.seq (.reg [zF 39 80 7 0,zL 40 3 39])
 (.blk 0
 (.seq (.reg [zD 54 .eql 3 40 52,zV 53 54])
 (.cond (.t 53)
 (.seq (.seq (.cut [2,6,7] (.reg [zF 55 80 7 4,zL 56 3 55,zD 57 .lss 3 56 0,zV 58 57,dX 59 58 (.ku 80 (.t 7) 4),dX 60 58 (.load 3 (.t 59)),dX 61 58 (.bin .gtr 3 (.t 60) (.c (.i .i64 6))),zo 62 (.pick (.t 58) (.c (.b true)) (.t 61))]))
 (.cond (.t 62)
 (.seq (.cut [2,6] (.reg [zV 63 6,zL 64 23 2,zN 65 64,zF 66 77 65 0,zF 67 72 66 0,zL 68 37 67,zo 69 (.call (.t 63) [.t 68,.c (.i .i64 10)])]))
 (.seq (.reg [zo 4 (.mv (.c (.i .i64 0))),zo 5 (.mv (.c (.b false)))])
 .ret))
 .skip))
 (.cut [1000000,2,6,7] (.seq (.cut [2,6,7] (.j_ [(zF 70 80 7 4,[]),(zL 71 3 70,[]),(zV 72 6,[]),(zL 73 23 2,[]),(zN 74 73,[]),(zF 75 77 74 0,[]),(zF 76 72 75 0,[]),(zL 77 37 76,[]),(zC 78 31 [.t 77],[zL 71 3 70]),(zo 79 (.call (.t 72) [.t 78,.c (.i .i64 0)]),[zL 71 3 70]),(zV 4 71,[]),(zV 5 79,[])]))
 .ret)))
 (.seq (.reg [zD 81 .eql 3 40 50,zV 80 81])
 (.cond (.t 80)
 (.cut [2,6,7] (.j_ [(zV 82 6,[]),(zL 83 23 2,[]),(zN 84 83,[]),(zF 85 77 84 1,[]),(zF 86 75 85 0,[]),(zL 87 73 86,[]),(zL 88 23 2,[]),(zN 89 88,[]),(zF 90 77 89 0,[]),(zF 91 72 90 0,[]),(zL 92 37 91,[]),(zL 93 23 2,[]),(zF 94 80 7 1,[]),(zL 95 3 94,[]),(zN 96 93,[]),(zF 97 77 96 0,[]),(zF 98 72 97 0,[]),(zF 99 37 98 0,[]),(zo 100 (.fC 35 (.t 99) (.t 95)),[]),(zL 101 31 100,[]),(zL 102 23 2,[]),(zF 103 80 7 2,[]),(zL 104 3 103,[]),(zN 105 102,[]),(zF 106 77 105 0,[]),(zF 107 72 106 0,[]),(zF 108 37 107 0,[]),(zo 109 (.fC 35 (.t 108) (.t 104)),[]),(zL 110 31 109,[]),(zC 111 32 [.t 87,.t 92,.t 101,.t 110],[]),(zE 112 111 0,[]),(zE 113 111 1,[]),(zo 114 (.call (.t 82) [.t 112,.t 113]),[])]))
 (.seq (.reg [zD 116 .eql 3 40 51,zV 115 116])
 (.cond (.t 115)
 (.cut [2,6] (.j_ [(zV 117 6,[]),(zL 118 23 2,[]),(zN 119 118,[]),(zF 120 77 119 1,[]),(zF 121 75 120 0,[]),(zL 122 73 121,[]),(zL 123 23 2,[]),(zN 124 123,[]),(zF 125 77 124 0,[]),(zF 126 72 125 0,[]),(zL 127 37 126,[]),(zC 128 33 [.t 122,.t 127],[]),(zE 129 128 0,[]),(zE 130 128 1,[]),(zo 131 (.call (.t 117) [.t 129,.t 130]),[])]))
 (.cut [1,2,6,7] (.j_ [(zV 41 6,[]),(zL 42 23 2,[]),(zN 43 42,[]),(zF 44 77 43 0,[]),(zF 45 72 44 0,[]),(zL 46 37 45,[]),(zL 47 80 7,[]),(zV 48 1,[]),(zC 49 34 [.t 46,.t 47,.t 48],[]),(zE 50 49 0,[]),(zE 51 49 1,[]),(zo 52 (.call (.t 41) [.t 50,.t 51]),[])]))))))))))
 (.cut [1000000] (.seq (.reg [zo 4 (.mv (.c (.i .i64 0))),zo 5 (.mv (.c (.b false)))])
 .ret)))))))))
def F11:AF:=⟨132,[.t 4,.t 5],c11⟩
def c12:AC:=(.seq (.reg [zo 2 (.alloc 41)])
 (.seq (.seq (.reg [zV 3 0,zC 4 27 [.t 3]])
 (.cond (.t 4)
 (.seq (.reg [zo 5 (.build 41 []),zS 41 2 5])
 .ret)
 .skip))
 (.seq (.cut [0,2] (.j_ [(zV 6 0,[]),(zN 7 6,[]),(zF 8 77 7 0,[]),(zF 9 72 8 0,[]),(zL 10 37 9,[]),(zV 11 0,[]),(zN 12 11,[]),(zF 13 77 12 2,[]),(zL 14 3 13,[]),(zV 15 0,[]),(zN 16 15,[]),(zF 17 77 16 3,[]),(zL 18 38 17,[]),(zV 19 0,[]),(zN 20 19,[]),(zF 21 77 20 1,[]),(zF 22 75 21 0,[]),(zL 23 73 22,[]),(zV 25 0,[]),(zN 26 25,[]),(zF 27 77 26 4,[]),(zL 28 39 27,[]),(zC 24 35 [.t 23],[zL 10 37 9,zL 14 3 13,zL 18 38 17,zL 28 39 27]),(zo 29 (.build 41 [(0,.t 10),(1,.t 14),(2,.t 18),(3,.t 24),(4,.t 28)]),[]),(zS 41 2 29,[])]))
 .ret)))
def F12:AF:=⟨30,[.cell 2 41],c12⟩
def c13:AC:=(.seq (.reg [zo 4 (.mv (.c (.i .i64 0))),zo 5 (.mv (.c (.b false)))])
 (.seq (.seq (.cut [0,1] (.reg [zV 8 0,zC 9 27 [.t 8],zV 10 9,jK 11 10 0,dX 12 10 (.iP (.t 11)),dX 13 10 (.ku 77 (.t 12) 2),dX 14 10 (.load 3 (.t 13)),dX 15 10 (.bin .neq 3 (.t 14) (.c (.i .i64 0))),zo 16 (.pick (.t 10) (.c (.b true)) (.t 15))]))
 (.cond (.t 16)
 (.seq (.reg [zo 4 (.mv (.c (.i .i64 0))),zo 5 (.mv (.c (.b false)))])
 .ret)
 .skip))
 (.seq (.cut [0,1] (.reg [zV 18 0,zN 19 18,zF 20 77 19 0,zF 21 72 20 0,zL 22 37 21,zV 23 1,zC 24 30 [.t 22,.t 23],zV 17 24,zE 25 17 0,zE 26 17 1,zo 6 (.alloc 80),zS 80 6 25,zV 7 26]))
 (.cut [1000000,0,1,6,7] (.seq (.seq (.reg [zV 27 7,zD 28 .neq 38 27 0])
 (.cond (.t 28)
 (.seq (.reg [zo 4 (.mv (.c (.i .i64 0))),zo 5 (.mv (.c (.b false)))])
 .ret)
 .skip))
 (.seq (.cut [0,1,6] (.j_ [(zV 29 0,[]),(zN 30 29,[]),(zF 31 77 30 0,[]),(zF 32 72 31 0,[]),(zL 33 37 32,[]),(zL 34 80 6,[]),(zV 35 1,[]),(zC 36 36 [.t 33,.t 34,.t 35],[]),(zE 37 36 0,[]),(zE 38 36 1,[]),(zV 4 37,[]),(zV 5 38,[])]))
 .ret))))))
def F13:AF:=⟨39,[.t 4,.t 5],c13⟩
def c14:AC:=(.seq (.reg [zo 2 (.mv (.c (.i .i64 0)))])
 (.seq (.seq (.reg [zV 3 0])
 (.cond (.t 3)
 (.seq (.reg [zo 2 (.mv (.c (.i .i64 1)))])
 .ret)
 .skip))
 (.seq (.reg [zo 2 (.mv (.c (.i .i64 0)))])
 .ret)))
def F14:AF:=⟨4,[.t 2],c14⟩
def c15:AC:=(.seq (.cut [0,1] (.reg [zo 2 (.box 51 (.t 0)),zo 4 (.alloc 31),zo 5 (.mv (.c (.b false)))]))
 (.seq (.seq (.cut [1,2,4] (.reg [zV 11 1,zo 12 (.bin .gtr 29 (.t 11) (.c (.i .u16 255))),zV 13 12,dX 14 13 (.load 51 (.t 2)),dX 15 13 (.call (.c (.fn (.func 37) [] [])) [.t 14]),dX 16 13 (.bin .gtr 39 (.t 15) (.c (.i .u64 4294967296))),zo 17 (.pick (.t 13) (.c (.b true)) (.t 16))]))
 (.cond (.t 17)
 (.seq (.cut [4] (.reg [zo 18 (.build 31 []),zS 31 4 18,zo 5 (.mv (.c (.b false)))]))
 .ret)
 .skip))
 (.seq (.cut [1,2,4] (.j_ [(zF 20 51 2 0,[]),(zL 21 28 20,[]),(zL 22 51 2,[]),(zC 23 37 [.t 22],[zL 21 28 20]),(zC 24 38 [.t 21,.t 23],[]),(zV 19 24,[]),(zE 25 19 0,[]),(zE 26 19 1,[]),(zE 27 19 2,[]),(zE 28 19 3,[]),(zE 29 19 4,[]),(zV 6 25,[]),(zV 7 26,[]),(zV 8 27,[]),(zV 9 28,[]),(zV 10 29,[])]))
 (.cut [1000000,1,2,4,6,7,8,9,10] (.seq (.seq (.cut [1,2,4,6,7,8,9,10] (.reg [zV 30 10,zo 31 (.un .not (.t 30)),zV 32 31,jK 33 32 9,dX 34 32 (.un .not (.t 33)),zo 35 (.pick (.t 32) (.c (.b true)) (.t 34))]))
 (.cond (.t 35)
 (.seq (.cut [4] (.reg [zo 36 (.build 31 []),zS 31 4 36,zo 5 (.mv (.c (.b false)))]))
 .ret)
 .skip))
 (.seq (.cut [1,2,4,6,7,8] (.reg [zF 37 51 2 0,zL 38 28 37,zV 39 6,zV 40 7,zV 41 8,zV 42 1,zo 43 (.build 31 [(0,.t 38),(1,.t 39),(2,.t 40),(3,.t 41),(4,.t 42),(7,.c (.b true))]),zS 31 4 43,zo 5 (.mv (.c (.b true)))]))
 .ret))))))
def F15:AF:=⟨44,[.cell 4 31,.t 5],c15⟩
def c16:AC:=(.seq (.reg [zo 6 (.mv (.c (.b false)))])
 (.seq (.cut [0,1,2] (.reg [zV 8 1,zD 9 .eql 3 8 4,zV 7 9]))
 (.seq (.blk 0
 (.seq (.cut [0,1,2,7] (.reg [zV 11 0,zC 12 27 [.t 11],zV 13 12,jK 14 13 0,dX 15 13 (.call (.c (.fn (.func 28) [] [])) [.t 14]),zo 16 (.pick (.t 13) (.c (.b true)) (.t 15)),zV 17 16,jK 18 17 1,dX 19 17 (.bin .lss 3 (.t 18) (.c (.i .i64 0))),zo 20 (.pick (.t 17) (.c (.b true)) (.t 19)),zV 21 20,jK 22 21 1,dX 23 21 (.bin .gtr 3 (.t 22) (.c (.i .i64 4))),zo 24 (.pick (.t 21) (.c (.b true)) (.t 23)),zV 10 24]))
 (.cond (.t 10)
 (.seq (.reg [zo 6 (.mv (.c (.b false)))])
 .ret)
 (.seq (.cut [0,1,2,7] (.reg [zV 26 7,zV 27 26,gB 28 27 2,cu 29 27 (.bin .lss 38 (.t 28) (.c (.i .i64 1))),gB 30 27 29,jK 31 30 2,dX 32 30 (.bin .gtr 38 (.t 31) (.c (.i .i64 10))),cu 33 27 (.pick (.t 30) (.c (.b true)) (.t 32)),zo 34 (.pick (.t 27) (.t 33) (.c (.b false))),zV 35 34,jK 36 35 7,dX 37 35 (.un .not (.t 36)),jK 38 35 37,gB 39 38 2,cu 40 38 (.bin .neq 38 (.t 39) (.c (.i .i64 0))),dX 41 35 (.pick (.t 38) (.t 40) (.c (.b false))),zo 42 (.pick (.t 35) (.c (.b true)) (.t 41)),zV 25 42]))
 (.cut [1000000,0,1,2,25] (.cond (.t 25)
 (.seq (.reg [zo 6 (.mv (.c (.b false)))])
 .ret)
 .skip))))))
 (.seq (.cut [0,1,2] (.reg [zV 43 0,zV 44 0,zV 45 1,zV 46 2,zN 47 43,zF 48 77 47 2,zS 3 48 45,zN 49 44,zF 50 77 49 3,zS 38 50 46]))
 (.seq (.reg [zo 6 (.mv (.c (.b true)))])
 .ret)))))
def F16:AF:=⟨51,[.t 6],c16⟩
def c17:AC:=(.seq (.reg [zo 2 (.mv (.c (.p0)))])
 (.seq (.seq (.cut [0] (.reg [zV 3 0,zD 4 .lss 3 3 0,zV 5 4,jK 6 5 0,dX 7 5 (.bin .rem 3 (.t 6) (.c (.i .i64 16))),dX 8 5 (.bin .neq 3 (.t 7) (.c (.i .i64 0))),zo 9 (.pick (.t 5) (.c (.b true)) (.t 8)),zV 10 9,jK 11 10 0,dX 12 10 (.bin .gtr 3 (.t 11) (.c (.i .i64 262144))),zo 13 (.pick (.t 10) (.c (.b true)) (.t 12))]))
 (.cond (.t 13)
 (.seq (.reg [zo 2 (.mv (.c (.p0)))])
 .ret)
 .skip))
 (.seq (.cut [0] (.reg [zV 14 0,zD 15 .quo 3 14 16,zC 16 39 [.t 15],zo 17 (.build 96 [(0,.t 16)]),zo 18 (.box 96 (.t 17)),zV 2 18]))
 .ret)))
def F17:AF:=⟨19,[.t 2],c17⟩
def c23:AC:=(.seq (.reg [zo 2 (.mv (.c (.p0))),zo 3 (.mv (.c (.i .i64 0)))])
 (.seq (.blk 0
 (.seq (.cut [0] (.reg [zV 6 0,zD 7 .lss 3 6 16,zV 5 7]))
 (.cond (.t 5)
 (.seq (.reg [zo 2 (.mv (.c (.p0))),zo 3 (.mv (.c (.i .i64 2)))])
 .ret)
 (.seq (.cut [0] (.reg [zV 9 0,zD 10 .gtr 3 9 1024,zV 8 10]))
 (.cond (.t 8)
 (.seq (.reg [zo 2 (.mv (.c (.p0))),zo 3 (.mv (.c (.i .i64 3)))])
 .ret)
 .skip)))))
 (.seq (.cut [0] (.reg [zV 11 0,zD 12 .mul 3 11 256,zV 4 12]))
 (.seq (.cond (.c .u)
 (.exit 999999)
 (.exit 999999))
 .ret))))
def F23:AF:=⟨20,[.t 2,.t 3],c23⟩
def c24L0:AC:=(.seq (.reg [zB 27 .lss 3 26 25])
 (.seq (.cond (.t 27)
 .skip
 (.exit 0))
 (.seq (.blk 1
 (.seq (.cut [4,5,6,24,25,26] (.reg [zV 28 26,zo 29 (.fC 107 (.t 24) (.t 26)),zL 30 9 29,zV 7 28,zV 8 30]))
 (.seq (.cut [4,5,6,7,8,24,25,26] (.reg [zV 32 8,zC 33 52 [.t 32,.c (.s [59])],zV 31 33,zE 34 31 0,zE 35 31 1,zE 36 31 2,zV 8 34]))
 (.seq (.cut [4,5,6,7,8,24,25,26] (.reg [zV 37 8,zC 38 53 [.t 37],zV 9 38]))
 (.seq (.cut [4,5,6,7,9,24,25,26] (.reg [zV 39 9,zo 40 (.len 107 (.t 39)),zD 41 .gtr 3 40 0]))
 (.cond (.t 41)
 (.seq (.cut [4,5,6,7,9,24,25,26] (.reg [zV 42 6,zV 43 9,zV 44 7,zo 45 (.call (.t 42) [.t 43,.t 44]),zV 10 45]))
 (.seq (.reg [zV 46 10,zo 47 (.bin .neq 66 (.t 46) (.c (.gK)))])
 (.cond (.t 47)
 (.seq (.cut [10] (.reg [zV 48 10,zo 2 (.mv (.c (.sl0))),zV 3 48]))
 .ret)
 .skip)))
 .skip))))))
 (.reg [zD 49 .add 3 26 1,zV 26 49]))))
def c24L1:AC:=(.seq (.reg [zB 53 .lss 3 52 51])
 (.seq (.cond (.t 53)
 .skip
 (.exit 2))
 (.seq (.blk 3
 (.seq (.cut [4,11,50,51,52] (.reg [zV 54 52,zo 55 (.fC 106 (.t 50) (.t 52)),zL 56 112 55,zo 13 (.alloc 112),zV 12 54,zS 112 13 56]))
 (.seq (.seq (.cut [4,11,12,13,50,51,52] (.reg [zF 57 112 13 2,zL 58 9 57,zo 59 (.bin .neq 9 (.t 58) (.c (.s [])))]))
 (.cond (.t 59)
 (.seq (.cut [4,11,12,13,50,51,52] (.reg [zL 61 105 4,zF 62 112 13 2,zL 63 9 62,zo 64 (.E8 105 (.t 61) (.t 63) true),zV 60 64,zE 65 60 0,zE 66 60 1,zV 14 65,zV 15 66]))
 (.seq (.seq (.reg [zV 67 15,zo 68 (.un .not (.t 67))])
 (.cond (.t 68)
 (.seq (.cut [13] (.reg [zF 69 112 13 3,zL 70 3 69,zC 71 46 [.c (.i .i64 9),.t 70],zo 2 (.mv (.c (.sl0))),zV 3 71]))
 .ret)
 .skip))
 (.cut [1000000,4,11,12,13,14,50,51,52] (.seq (.cut [4,11,12,13,14,50,51,52] (.reg [zV 72 14,zV 73 12,zB 74 .sub 3 72 73,zF 75 112 13 0,zF 76 80 75 4,zS 3 76 74]))
 (.seq (.reg [zo 16 (.mv (.c (.i .i64 0)))])
 (.seq (.cut [4,11,13,50,51,52] (.reg [zF 78 112 13 0,zL 79 80 78,zC 80 54 [.t 79],zV 77 80,zE 81 77 0,zE 82 77 1,zF 83 112 13 1,zS 28 83 81,zV 16 82]))
 (.seq (.reg [zV 84 16,zD 85 .neq 61 84 0])
 (.cond (.t 85)
 (.seq (.cut [13] (.reg [zF 86 112 13 3,zL 87 3 86,zC 88 46 [.c (.i .i64 3),.t 87],zo 2 (.mv (.c (.sl0))),zV 3 88]))
 .ret)
 .skip))))))))
 .skip))
 (.cut [1000000,4,11,13,50,51,52] (.cut [4,11,13,50,51,52] (.reg [zV 89 11,zF 90 112 13 1,zL 91 28 90,zo 92 (.vH 64 1 [(0,.t 91)]),zo 93 (.app 64 false (.t 89) (.t 92)),zV 11 93]))))))
 (.reg [zD 94 .add 3 52 1,zV 52 94]))))
def c24:AC:=(.seq (.reg [zo 2 (.mv (.c (.sl0))),zo 3 (.mv (.c (.gK)))])
 (.seq (.seq (.cut [0] (.reg [zV 17 0,zo 18 (.len 9 (.t 17)),zD 19 .gtr 3 18 32768]))
 (.cond (.t 19)
 (.seq (.cut [] (.reg [zC 20 46 [.c (.i .i64 3),.c (.i .i64 0)],zo 2 (.mv (.c (.sl0))),zV 3 20]))
 .ret)
 .skip))
 (.seq (.cut [0] (.reg [zo 21 (.VA 105 none),zo 4 (.alloc 105),zS 105 4 21]))
 (.seq (.reg [zo 5 (.alloc 106)])
 (.seq (.reg [zo 22 (.vI (.func 47) [] [.t 4,.t 5]),zV 6 22])
 (.seq (.seq (.cut [0,4,5,6] (.reg [zV 23 0,zC 24 51 [.t 23,.c (.s [10])],zo 25 (.len 107 (.t 24)),zo 26 (.mv (.c (.i .i64 0)))]))
 (.blk 0
 (.loop [4,5,6,24,25,26] c24L0)))
 (.cut [1000000,4,5] (.seq (.reg [zo 11 (.mv (.c (.sl0)))])
 (.seq (.seq (.cut [4,5,11] (.reg [zL 50 106 5,zo 51 (.len 106 (.t 50)),zo 52 (.mv (.c (.i .i64 0)))]))
 (.blk 2
 (.loop [4,11,50,51,52] c24L1)))
 (.seq (.cut [11] (.reg [zV 95 11,zV 2 95,zo 3 (.mv (.c (.gK)))]))
 .ret))))))))))
def VF:AF:=⟨96,[.t 2,.t 3],c24⟩
def c25:AC:=(.seq (.reg [zo 8 (.mv (.c (.b false)))])
 (.seq (.seq (.cut [0,1,2,3] (.reg [zV 10 2,zV 11 3,zC 12 55 [.c (.s []),.t 10,.t 11],zV 9 12]))
 (.seq (.reg [zV 13 9,zo 14 (.bin .neq 9 (.t 13) (.c (.s [])))])
 (.cond (.t 14)
 (.seq (.cut [0,1,9] (.reg [zV 15 0,zV 16 1,zV 17 9,zo 18 (.conv 9 45 (.t 17)),zC 19 56 [.t 15,.t 16,.t 18],zV 8 19]))
 .ret)
 .skip)))
 (.seq (.reg [zo 8 (.mv (.c (.b false)))])
 .ret)))
def F25:AF:=⟨20,[.t 8],c25⟩
def c26:AC:=(.seq (.reg [zo 1 (.box 37 (.t 0)),zo 2 (.mv (.c (.p0)))])
 (.seq (.cut [1] (.j_ [(zL 3 37 1,[]),(zo 4 (.build 72 [(0,.t 3)]),[]),(zC 5 57 [],[zL 3 37 1]),(zo 6 (.build 75 [(0,.t 5)]),[]),(zo 7 (.build 77 [(0,.t 4),(1,.t 6)]),[]),(zo 8 (.box 77 (.t 7)),[]),(zV 2 8,[])]))
 .ret))
def F26:AF:=⟨9,[.t 2],c26⟩
def c27:AC:=(.seq (.reg [zo 2 (.mv (.c (.b false)))])
 (.seq (.cut [0] (.reg [zV 3 0,zo 4 (.bin .eql 23 (.t 3) (.c (.p0))),zV 5 4,jK 6 5 0,dX 7 5 (.iP (.t 6)),dX 8 5 (.ku 77 (.t 7) 1),dX 9 5 (.ku 75 (.t 8) 0),dX 10 5 (.load 73 (.t 9)),dX 11 5 (.bin .eql 73 (.t 10) (.c (.p0))),zo 12 (.pick (.t 5) (.c (.b true)) (.t 11)),zV 2 12]))
 .ret))
def F27:AF:=⟨13,[.t 2],c27⟩
def c28:AC:=(.seq (.reg [zo 2 (.mv (.c (.b false)))])
 (.seq (.cut [0] (.reg [zV 3 0,zN 4 3,zF 5 77 4 2,zL 6 3 5,zD 7 .eql 3 6 3,zV 8 7,jK 9 8 0,dX 10 8 (.iP (.t 9)),dX 11 8 (.ku 77 (.t 10) 2),dX 12 8 (.load 3 (.t 11)),dX 13 8 (.bin .eql 3 (.t 12) (.c (.i .i64 4))),zo 14 (.pick (.t 8) (.c (.b true)) (.t 13)),zV 2 14]))
 .ret))
def F28:AF:=⟨15,[.t 2],c28⟩
def c29:AC:=(.seq (.reg [zo 3 (.box 37 (.t 0)),zo 5 (.mv (.c (.b false)))])
 (.seq (.seq (.reg [zV 6 1,zD 7 .neq 38 6 0])
 (.cond (.t 7)
 (.seq (.cut [1,2] (.j_ [(zL 8 23 2,[]),(zL 9 23 2,[]),(zV 10 1,[]),(zN 11 8,[]),(zF 12 77 11 2,[]),(zn (.store 3 (.t 12) (.c (.i .i64 4))),[zL 9 23 2]),(zN 13 9,[]),(zF 14 77 13 3,[]),(zS 38 14 10,[])]))
 (.seq (.reg [zo 5 (.mv (.c (.b false)))])
 .ret))
 .skip))
 (.seq (.cut [2,3] (.reg [zL 15 23 2,zL 16 37 3,zN 17 15,zF 18 77 17 0,zF 19 72 18 0,zS 37 19 16]))
 (.seq (.cut [2] (.reg [zL 20 23 2,zN 21 20,zF 22 77 21 4,zL 23 39 22,zo 24 (.bin .add 39 (.t 23) (.c (.i .u64 1))),zN 25 20,zF 26 77 25 4,zS 39 26 24]))
 (.seq (.reg [zo 5 (.mv (.c (.b true)))])
 .ret)))))
def F29:AF:=⟨27,[.t 5],c29⟩
def c30:AC:=(.seq (.cut [0,1] (.reg [zo 2 (.box 37 (.t 0)),zo 4 (.alloc 80),zo 5 (.mv (.c (.i .i64 0)))]))
 (.seq (.seq (.cut [1,2,4] (.reg [zF 9 37 2 1,zL 10 31 9,zF 11 37 2 1,zF 12 31 11 0,zL 13 28 12,zV 14 1,zC 15 58 [.t 10,.t 13,.c (.i .i64 4),.c (.i .u16 4),.t 14],zV 6 15]))
 (.seq (.reg [zV 16 6,zD 17 .neq 38 16 0])
 (.cond (.t 17)
 (.seq (.cut [4,6] (.reg [zo 18 (.build 80 []),zV 19 6,zS 80 4 18,zV 5 19]))
 .ret)
 .skip)))
 (.seq (.cut [1,2,4] (.reg [zV 21 1,zF 22 37 2 1,zF 23 31 22 0,zL 24 28 23,zC 25 59 [.t 21,.t 24,.c (.i .i64 4)],zV 20 25,zE 26 20 0,zE 27 20 1,zV 7 26,zV 8 27]))
 (.seq (.cut [4,7] (.reg [zV 28 7,zC 29 60 [.t 28],zS 80 4 29,zo 5 (.mv (.c (.i .i64 0)))]))
 .ret))))
def F30:AF:=⟨30,[.cell 4 80,.t 5],c30⟩
def c31:AC:=(.seq (.reg [zo 1 (.box 37 (.t 0)),zo 2 (.alloc 37)])
 (.seq (.cut [1,2] (.reg [zL 3 37 1,zC 4 61 [.t 3,.c (.i .i64 1)],zF 5 37 1 1,zS 31 5 4]))
 (.seq (.reg [zL 6 37 1,zS 37 2 6])
 .ret)))
def F31:AF:=⟨7,[.cell 2 37],c31⟩
def c34:AC:=(.seq (.cut [0,1,2] (.reg [zo 3 (.box 37 (.t 0)),zo 4 (.box 80 (.t 1)),zo 6 (.alloc 37),zo 7 (.mv (.c (.i .i64 0)))]))
 (.seq (.cut [2,3,4,6] (.reg [zL 16 37 3,zC 17 31 [.t 16],zo 8 (.alloc 37),zS 37 8 17]))
 (.seq (.reg [zo 9 (.alloc 38),zn (.store 38 (.t 9) (.c (.i .i64 0)))])
 (.seq (.reg [zo 18 (.vI (.func 66) [] [.t 9,.t 8,.t 4]),zV 10 18])
 (.seq (.blk 0
 (.seq (.cut [2,3,4,6,8,9,10] (.reg [zL 75 80 4,zC 76 67 [.t 75],zo 77 (.un .not (.t 76)),zV 78 77,dX 79 78 (.ku 80 (.t 4) 0),dX 80 78 (.load 3 (.t 79)),dX 81 78 (.bin .eql 3 (.t 80) (.c (.i .i64 53))),zo 82 (.pick (.t 78) (.c (.b true)) (.t 81)),zV 74 82]))
 (.cond (.t 74)
 (.seq (.cut [6] (.reg [zo 83 (.build 37 []),zS 37 6 83,zo 7 (.mv (.c (.i .i64 6)))]))
 .ret)
 (.seq (.cut [2,3,4,6,8,9,10] (.reg [zF 85 80 4 0,zL 86 3 85,zD 87 .eql 3 86 50,zV 88 87,dX 89 88 (.ku 80 (.t 4) 0),dX 90 88 (.load 3 (.t 89)),dX 91 88 (.bin .eql 3 (.t 90) (.c (.i .i64 51))),zo 92 (.pick (.t 88) (.c (.b true)) (.t 91)),zV 93 92,dX 94 93 (.ku 80 (.t 4) 0),dX 95 93 (.load 3 (.t 94)),dX 96 93 (.bin .eql 3 (.t 95) (.c (.i .i64 52))),zo 97 (.pick (.t 93) (.c (.b true)) (.t 96)),zV 84 97]))
 (.cut [1000000,2,3,4,6,8,9,10,84] (.cond (.t 84)
 (.seq (.cut [3,6] (.reg [zL 98 37 3,zS 37 6 98,zo 7 (.mv (.c (.i .i64 0)))]))
 .ret)
 (.seq (.cut [2,3,4,6,8,9,10] (.reg [zF 100 80 4 0,zL 101 3 100,zD 102 .eql 3 101 29,zV 99 102]))
 (.cond (.t 99)
 (.seq (.cut [3,4,6,8,9,10] (.reg [zV 103 10,zL 104 37 3,zC 105 61 [.t 104,.c (.i .i64 1)],zo 106 (.call (.t 103) [.t 105,.c (.i .i64 0)])]))
 (.cut [3,4,6,8,9] (.reg [zL 107 37 3,zF 108 80 4 4,zL 109 3 108,zC 110 61 [.t 107,.t 109],zF 111 37 8 1,zS 31 111 110])))
 (.seq (.cut [2,3,4,6,8,9,10] (.reg [zF 113 80 4 0,zL 114 3 113,zD 115 .eql 3 114 30,zV 112 115]))
 (.cond (.t 112)
 (.seq (.cut [3,4,6,8,9,10] (.j_ [(zV 116 10,[]),(zL 117 37 3,[]),(zF 119 80 4 2,[]),(zL 120 3 119,[]),(zF 121 37 3 0,[]),(zo 122 (.fC 35 (.t 121) (.t 120)),[]),(zL 123 31 122,[]),(zC 118 61 [.t 117,.c (.i .i64 1)],[zL 120 3 119,zL 123 31 122]),(zC 124 68 [.t 123,.c (.i .u16 4)],[]),(zo 125 (.call (.t 116) [.t 118,.t 124]),[])]))
 (.cut [3,4,6,8,9] (.reg [zF 126 80 4 2,zL 127 3 126,zF 128 37 3 0,zo 129 (.fC 35 (.t 128) (.t 127)),zL 130 31 129,zF 131 37 8 1,zS 31 131 130])))
 (.seq (.cut [2,3,4,6,8,9,10] (.reg [zF 133 80 4 0,zL 134 3 133,zC 135 69 [.t 134],zD 136 .gtr 3 135 0,zV 132 136]))
 (.cond (.t 132)
 (.cut [2,3,4,6,8,9,10] (.reg [zV 137 10,zL 138 37 3,zL 139 80 4,zV 140 2,zC 141 70 [.t 138,.t 139,.t 140],zE 142 141 0,zE 143 141 1,zo 144 (.call (.t 137) [.t 142,.t 143])]))
 (.seq (.cut [3,4,6,8,9,10] (.j_ [(zF 20 80 4 0,[]),(zL 21 3 20,[]),(zF 22 80 4 1,[]),(zL 23 3 22,[]),(zF 24 37 3 0,[]),(zo 25 (.fC 35 (.t 24) (.t 23)),[]),(zF 26 31 25 0,[]),(zL 27 28 26,[]),(zF 28 80 4 2,[]),(zL 29 3 28,[]),(zF 30 37 3 0,[]),(zo 31 (.fC 35 (.t 30) (.t 29)),[]),(zF 32 31 31 0,[]),(zL 33 28 32,[]),(zC 34 71 [.t 21,.t 27,.t 33],[]),(zV 19 34,[]),(zE 35 19 0,[]),(zE 36 19 1,[]),(zV 11 35,[]),(zV 12 36,[])]))
 (.cut [1000000,3,4,6,8,9,10,11,12] (.seq (.reg [zV 37 12])
 (.cond (.t 37)
 (.seq (.reg [zV 38 11])
 (.cond (.t 38)
 (.cut [3,4,6,8,9] (.reg [zL 39 37 3,zF 40 80 4 4,zL 41 3 40,zC 42 61 [.t 39,.t 41],zF 43 37 8 1,zS 31 43 42]))
 .skip))
 (.seq (.cut [3,4,6,8,9,10] (.j_ [(zF 45 80 4 0,[]),(zL 46 3 45,[]),(zF 47 80 4 2,[]),(zL 48 3 47,[]),(zF 49 37 3 0,[]),(zo 50 (.fC 35 (.t 49) (.t 48)),[]),(zF 51 31 50 0,[]),(zL 52 28 51,[]),(zF 53 80 4 3,[]),(zL 54 3 53,[]),(zF 55 37 3 0,[]),(zo 56 (.fC 35 (.t 55) (.t 54)),[]),(zF 57 31 56 0,[]),(zL 58 28 57,[]),(zC 59 72 [.t 46,.t 52,.t 58],[]),(zV 44 59,[]),(zE 60 44 0,[]),(zE 61 44 1,[]),(zE 62 44 2,[]),(zV 13 60,[]),(zV 14 61,[]),(zV 15 62,[])]))
 (.seq (.reg [zV 63 15])
 (.cond (.t 63)
 (.cut [6,8,9,10,13,14] (.reg [zV 64 10,zV 65 13,zC 66 10 [.t 65],zV 67 14,zo 68 (.call (.t 64) [.t 66,.t 67])]))
 (.cut [3,4,6,8,9,10] (.reg [zV 69 10,zL 70 37 3,zL 71 80 4,zC 72 73 [.t 70,.t 71],zo 73 (.call (.t 69) [.t 72,.c (.i .i64 0)])])))))))))))))))))))))
 (.cut [1000000,6,8,9] (.seq (.seq (.reg [zL 145 38 9,zD 146 .neq 38 145 0])
 (.cond (.t 146)
 (.seq (.cut [6,9] (.j_ [(zo 147 (.build 37 []),[]),(zL 148 38 9,[]),(zS 37 6 147,[zL 148 38 9]),(zV 7 148,[])]))
 .ret)
 .skip))
 (.seq (.cut [6,8] (.reg [zL 149 37 8,zS 37 6 149,zo 7 (.mv (.c (.i .i64 0)))]))
 .ret))))))))
def F34:AF:=⟨150,[.cell 6 37,.t 7],c34⟩
def c35:AC:=(.seq (.reg [zo 2 (.mv (.c (.i .i64 0)))])
 (.seq (.seq (.reg [zV 3 0,zo 4 (.bin .eql 73 (.t 3) (.c (.p0)))])
 (.cond (.t 4)
 (.seq (.reg [zo 2 (.mv (.c (.i .i64 0)))])
 .ret)
 .skip))
 (.seq (.cut [0] (.reg [zV 5 0,zN 6 5,zF 7 131 6 0,zL 8 59 7,zo 9 (.len 59 (.t 8)),zD 10 .quo 3 9 3,zV 2 10]))
 .ret)))
def F35:AF:=⟨11,[.t 2],c35⟩
def c36:AC:=(.seq (.cut [0,1,2] (.reg [zo 3 (.box 37 (.t 0)),zo 4 (.box 80 (.t 1)),zo 6 (.mv (.c (.i .i64 0))),zo 7 (.mv (.c (.b false)))]))
 (.seq (.seq (.cut [2,3,4] (.reg [zF 10 80 4 0,zL 11 3 10,zD 12 .neq 3 11 23,zV 13 12,dX 14 13 (.load 80 (.t 4)),dX 15 13 (.call (.c (.fn (.func 67) [] [])) [.t 14]),dX 16 13 (.un .not (.t 15)),zo 17 (.pick (.t 13) (.c (.b true)) (.t 16))]))
 (.cond (.t 17)
 (.seq (.reg [zo 6 (.mv (.c (.i .i64 0))),zo 7 (.mv (.c (.b false)))])
 .ret)
 .skip))
 (.seq (.cut [2,3,4] (.reg [zF 18 80 4 2,zL 19 3 18,zF 20 37 3 0,zo 21 (.fC 35 (.t 20) (.t 19)),zL 22 31 21,zo 8 (.alloc 31),zS 31 8 22]))
 (.seq (.cut [2,4,8] (.reg [zF 23 31 8 0,zL 24 28 23,zF 25 80 4 4,zL 26 3 25,zo 27 (.conv 3 28 (.t 26)),zB 28 .add 28 24 27,zV 9 28]))
 (.cut [1000000,2,8,9] (.seq (.seq (.cut [2,8,9] (.reg [zL 29 31 8,zV 30 9,zV 31 2,zC 32 58 [.t 29,.t 30,.c (.i .i64 16),.c (.i .u16 1),.t 31],zD 33 .neq 38 32 0]))
 (.cond (.t 33)
 (.seq (.reg [zo 6 (.mv (.c (.i .i64 0))),zo 7 (.mv (.c (.b false)))])
 .ret)
 .skip))
 (.seq (.cut [9] (.reg [zV 34 9,zo 35 (.conv 28 3 (.t 34)),zD 36 .quo 3 35 256,zV 6 36,zo 7 (.mv (.c (.b true)))]))
 .ret)))))))
def F36:AF:=⟨37,[.t 6,.t 7],c36⟩
def c37:AC:=(.seq (.reg [zo 1 (.box 51 (.t 0)),zo 2 (.mv (.c (.i .u64 0)))])
 (.seq (.cut [1] (.reg [zF 3 51 1 0,zL 4 28 3,zo 5 (.conv 28 39 (.t 4)),zF 6 51 1 1,zL 7 28 6,zo 8 (.conv 28 39 (.t 7)),zB 9 .add 39 5 8,zV 2 9]))
 .ret))
def F37:AF:=⟨10,[.t 2],c37⟩
def c38:AC:=(.seq (.cut [0,1] (.reg [zo 4 (.mv (.c (.i .u8 0))),zo 5 (.mv (.c (.i .u16 0))),zo 6 (.mv (.c (.i .u16 0))),zo 7 (.mv (.c (.b false))),zo 8 (.mv (.c (.b false)))]))
 (.seq (.seq (.cut [0,1] (.reg [zV 12 0,zV 13 1,zC 14 74 [.t 12,.t 13],zo 15 (.un .not (.t 14))]))
 (.cond (.t 15)
 (.seq (.cut [] (.reg [zo 4 (.mv (.c (.i .u8 0))),zo 5 (.mv (.c (.i .u16 0))),zo 6 (.mv (.c (.i .u16 0))),zo 7 (.mv (.c (.b false))),zo 8 (.mv (.c (.b false)))]))
 .ret)
 .skip))
 (.seq (.cut [0,1] (.reg [zV 16 0,zV 17 1,zC 18 75 [.t 16,.t 17],zV 9 18]))
 (.seq (.cut [0,1,9] (.reg [zV 20 0,zV 21 1,zV 22 9,zC 23 76 [.t 20,.t 21,.t 22],zV 19 23,zE 24 19 0,zE 25 19 1,zV 10 24,zV 11 25]))
 (.cut [1000000,0,1,9,10,11] (.seq (.cut [0,1,9,10,11] (.j_ [(zV 26 9,[]),(zo 27 (.qQ true 3 5 (.t 26)),[]),(zV 28 10,[]),(zV 29 9,[]),(zB 30 .shr 39 28 29,[]),(zo 31 (.bin .and 39 (.t 30) (.c (.i .u64 4095))),[]),(zo 32 (.qQ true 39 29 (.t 31)),[]),(zV 33 11,[]),(zV 34 9,[]),(zB 35 .shr 39 33 34,[]),(zo 36 (.bin .and 39 (.t 35) (.c (.i .u64 4095))),[]),(zo 37 (.qQ true 39 29 (.t 36)),[]),(zV 38 10,[]),(zV 39 0,[]),(zo 40 (.qQ true 28 39 (.t 39)),[]),(zB 41 .eql 39 38 40,[]),(zV 42 41,[]),(gB 43 42 11,[]),(gB 44 42 1,[]),(cu 45 42 (.bin .eql 39 (.t 43) (.t 44)),[]),(zo 46 (.pick (.t 42) (.t 45) (.c (.b false))),[]),(zV 4 27,[]),(zV 5 32,[]),(zV 6 37,[]),(zV 7 46,[]),(zo 8 (.mv (.c (.b true))),[])]))
 .ret))))))
def F38:AF:=⟨47,[.t 4,.t 5,.t 6,.t 7,.t 8],c38⟩
def c47:AC:=(.seq (.reg [zo 6 (.mv (.c (.gK)))])
 (.seq (.cut [0,1,2,3] (.reg [zV 13 0,zo 14 (.fC 107 (.t 13) (.c (.i .i64 0))),zL 15 9 14,zC 16 48 [.t 15,.c (.s [58])],zV 12 16,zE 17 12 0,zE 18 12 1,zV 7 17,zV 8 18]))
 (.seq (.seq (.cut [0,1,2,3,7,8] (.reg [zV 19 8,zV 20 19,gB 21 20 0,cu 22 20 (.len 107 (.t 21)),cu 23 20 (.bin .eql 3 (.t 22) (.c (.i .i64 1))),zo 24 (.pick (.t 20) (.t 23) (.c (.b false))),zV 25 24,gB 26 25 7,cu 27 25 (.call (.c (.fn (.func 49) [] [])) [.t 26]),zo 28 (.pick (.t 25) (.t 27) (.c (.b false)))]))
 (.cond (.t 28)
 (.seq (.seq (.cut [1,2,3,7] (.reg [zL 30 105 2,zV 31 7,zo 32 (.E8 105 (.t 30) (.t 31) true),zV 29 32,zE 33 29 0,zE 34 29 1,zV 9 33,zV 10 34]))
 (.seq (.reg [zV 35 10])
 (.cond (.t 35)
 (.seq (.cut [1] (.reg [zV 36 1,zC 37 46 [.c (.i .i64 11),.t 36],zV 6 37]))
 .ret)
 .skip)))
 (.cut [1000000,2,3,7] (.seq (.cut [2,3,7] (.reg [zL 38 105 2,zV 39 7,zL 40 106 3,zo 41 (.len 106 (.t 40)),zn (.KL 105 (.t 38) (.t 39) (.t 41))]))
 (.seq (.reg [zo 6 (.mv (.c (.gK)))])
 .ret))))
 .skip))
 (.seq (.cut [0,1,3] (.reg [zV 43 0,zC 44 50 [.t 43],zV 42 44,zE 45 42 0,zE 46 42 1,zo 11 (.alloc 112),zS 112 11 45,zV 8 46]))
 (.cut [1000000,1,3,8,11] (.seq (.blk 0
 (.seq (.cut [1,3,8,11] (.reg [zV 48 8,zo 49 (.un .not (.t 48)),zV 47 49]))
 (.cond (.t 47)
 (.seq (.cut [1] (.reg [zV 50 1,zC 51 46 [.c (.i .i64 4),.t 50],zV 6 51]))
 .ret)
 (.seq (.cut [1,3,11] (.reg [zL 53 106 3,zo 54 (.len 106 (.t 53)),zD 55 .geq 3 54 4096,zV 52 55]))
 (.cond (.t 52)
 (.seq (.cut [1] (.reg [zV 56 1,zC 57 46 [.c (.i .i64 3),.t 56],zV 6 57]))
 .ret)
 .skip)))))
 (.seq (.cut [1,3,11] (.reg [zV 58 1,zF 59 112 11 3,zS 3 59 58]))
 (.seq (.cut [3,11] (.reg [zL 60 106 3,zL 61 112 11,zo 62 (.vH 106 1 [(0,.t 61)]),zo 63 (.app 106 false (.t 60) (.t 62)),zS 106 3 63]))
 (.seq (.reg [zo 6 (.mv (.c (.gK)))])
 .ret)))))))))
def F47:AF:=⟨64,[.t 6],c47⟩
def c48:AC:=(.seq (.reg [zo 4 (.mv (.c (.s []))),zo 5 (.mv (.c (.b false)))])
 (.seq (.cut [0,1] (.reg [zV 6 0,zV 7 1,zC 8 87 [.t 6,.t 7],zE 9 8 0,zE 10 8 1,zV 4 9,zV 5 10]))
 .ret))
def F48:AF:=⟨11,[.t 4,.t 5],c48⟩
def c49:AC:=(.seq (.reg [zo 2 (.mv (.c (.b false)))])
 (.seq (.cut [0] (.reg [zV 3 0,zo 4 (.len 9 (.t 3)),zD 5 .geq 3 4 1,zV 6 5,gB 7 6 0,cu 8 6 (.len 9 (.t 7)),cu 9 6 (.bin .leq 3 (.t 8) (.c (.i .i64 32))),zo 10 (.pick (.t 6) (.t 9) (.c (.b false))),zV 11 10,gB 12 11 0,cu 13 11 (.call (.c (.fn (.func 88) [] [])) [.t 12,.c (.s [97,98,99,100,101,102,103,104,105,106,107,108,109,110,111,112,113,114,115,116,117,118,119,120,121,122,95,48,49,50,51,52,53,54,55,56,57])]),cu 14 11 (.bin .eql 9 (.t 13) (.c (.s []))),zo 15 (.pick (.t 11) (.t 14) (.c (.b false))),zV 16 15,gB 17 16 0,cu 18 16 (.slc 9 (.t 17) none (some (.c (.i .i64 1)))),cu 19 16 (.call (.c (.fn (.func 89) [] [])) [.c (.s [48,49,50,51,52,53,54,55,56,57]),.t 18]),cu 20 16 (.un .not (.t 19)),zo 21 (.pick (.t 16) (.t 20) (.c (.b false))),zV 2 21]))
 .ret))
def F49:AF:=⟨22,[.t 2],c49⟩
def c50L0:AC:=(.seq (.reg [zo 65 (.G8 (.t 64)),zE 66 65 0])
 (.seq (.cond (.t 66)
 .skip
 (.exit 0))
 (.blk 1
 (.seq (.cut [0,2,6,64,65] (.reg [zE 67 65 1,zE 68 65 2,zV 8 67,zV 9 68]))
 (.seq (.cut [0,2,6,8,9,64] (.reg [zV 69 0,zV 70 8,zD 71 .add 3 70 1,zo 72 (.fC 107 (.t 69) (.t 71)),zL 73 9 72,zV 10 73]))
 (.seq (.reg [zo 11 (.mv (.c (.b false)))])
 (.seq (.seq (.reg [zV 74 9])
 (.blk 2
 (.seq (.reg [zo 99 (.bin .eql 21 (.t 74) (.c (.i .i32 97))),zV 98 99])
 (.cond (.t 98)
 (.cut [0,2,6,10,64] (.reg [zV 101 10,zC 102 93 [.t 101],zV 100 102,zE 103 100 0,zE 104 100 1,zF 105 112 6 0,zF 106 80 105 1,zS 3 106 103,zV 11 104]))
 (.seq (.reg [zo 108 (.bin .eql 21 (.t 74) (.c (.i .i32 98))),zV 107 108])
 (.cond (.t 107)
 (.cut [0,2,6,10,64] (.reg [zV 110 10,zC 111 93 [.t 110],zV 109 111,zE 112 109 0,zE 113 109 1,zF 114 112 6 0,zF 115 80 114 2,zS 3 115 112,zV 11 113]))
 (.seq (.reg [zo 117 (.bin .eql 21 (.t 74) (.c (.i .i32 99))),zV 116 117])
 (.cond (.t 116)
 (.cut [0,2,6,10,64] (.reg [zV 119 10,zC 120 93 [.t 119],zV 118 120,zE 121 118 0,zE 122 118 1,zF 123 112 6 0,zF 124 80 123 3,zS 3 124 121,zV 11 122]))
 (.seq (.cut [0,2,6,10,64] (.reg [zV 76 10,zC 77 90 [.t 76],zV 75 77,zE 78 75 0,zE 79 75 1,zF 80 112 6 0,zF 81 80 80 4,zS 3 81 78,zV 11 79]))
 (.cut [1000000,0,2,6,10,11,64] (.seq (.cut [0,2,6,10,11,64] (.reg [zV 82 11,zo 83 (.un .not (.t 82)),zV 84 83,cu 85 84 (.ku 112 (.t 6) 0),cu 86 84 (.ku 80 (.t 85) 0),cu 87 84 (.load 3 (.t 86)),cu 88 84 (.call (.c (.fn (.func 94) [] [])) [.t 87]),zo 89 (.pick (.t 84) (.t 88) (.c (.b false))),zV 90 89,gB 91 90 10,cu 92 90 (.call (.c (.fn (.func 49) [] [])) [.t 91]),zo 93 (.pick (.t 90) (.t 92) (.c (.b false)))]))
 (.cond (.t 93)
 (.cut [0,2,6,10,64] (.reg [zV 94 10,zF 95 112 6 0,zF 96 80 95 4,zn (.store 3 (.t 96) (.c (.i .i64 0))),zF 97 112 6 2,zS 9 97 94,zo 11 (.mv (.c (.b true)))]))
 .skip))))))))))))
 (.cut [1000000,0,2,6,11,64] (.seq (.reg [zV 125 11,zo 126 (.un .not (.t 125))])
 (.cond (.t 126)
 (.seq (.cut [2] (.reg [zo 127 (.build 112 []),zS 112 2 127,zo 3 (.mv (.c (.b false)))]))
 .ret)
 .skip))))))))))
def c50:AC:=(.seq (.reg [zo 2 (.alloc 112),zo 3 (.mv (.c (.b false)))])
 (.seq (.seq (.cut [0,2] (.reg [zV 13 0,zo 14 (.fC 107 (.t 13) (.c (.i .i64 0))),zL 15 9 14,zo 16 (.bin .eql 9 (.t 15) (.c (.s [119,111,114,100])))]))
 (.cond (.t 16)
 (.seq (.seq (.cut [0,2] (.reg [zV 17 0,zo 18 (.len 107 (.t 17)),zD 19 .neq 3 18 2]))
 (.cond (.t 19)
 (.seq (.cut [2] (.reg [zo 20 (.build 112 []),zS 112 2 20,zo 3 (.mv (.c (.b false)))]))
 .ret)
 .skip))
 (.seq (.cut [0,2] (.reg [zV 22 0,zo 23 (.fC 107 (.t 22) (.c (.i .i64 1))),zL 24 9 23,zC 25 90 [.t 24],zV 21 25,zE 26 21 0,zE 27 21 1,zV 4 26,zV 5 27]))
 (.seq (.cut [2,4,5] (.reg [zV 28 4,zo 29 (.conv 3 28 (.t 28)),zo 30 (.build 112 [(1,.t 29)]),zV 31 5,zV 32 31,gB 33 32 4,cu 34 32 (.bin .geq 3 (.t 33) (.c (.i .i64 0))),zo 35 (.pick (.t 32) (.t 34) (.c (.b false))),zV 36 35,gB 37 36 4,cu 38 36 (.bin .lss 3 (.t 37) (.c (.i .i64 4294967296))),zo 39 (.pick (.t 36) (.t 38) (.c (.b false))),zS 112 2 30,zV 3 39]))
 .ret)))
 .skip))
 (.cut [1000000,0,2] (.seq (.reg [zo 6 (.alloc 112)])
 (.seq (.cut [0,2,6] (.reg [zV 40 0,zo 41 (.fC 107 (.t 40) (.c (.i .i64 0))),zL 42 9 41,zC 43 91 [.t 42],zF 44 112 6 0,zF 45 80 44 0,zS 3 45 43]))
 (.seq (.cut [0,2,6] (.reg [zF 46 112 6 0,zF 47 80 46 0,zL 48 3 47,zC 49 92 [.t 48],zV 7 49]))
 (.seq (.seq (.cut [0,2,6,7] (.reg [zF 50 112 6 0,zF 51 80 50 0,zL 52 3 51,zD 53 .eql 3 52 0,zV 54 53,jK 55 54 0,dX 56 54 (.len 107 (.t 55)),jK 57 54 7,dX 58 54 (.len 9 (.t 57)),dX 59 54 (.bin .add 3 (.c (.i .i64 1)) (.t 58)),dX 60 54 (.bin .neq 3 (.t 56) (.t 59)),zo 61 (.pick (.t 54) (.c (.b true)) (.t 60))]))
 (.cond (.t 61)
 (.seq (.cut [2] (.reg [zo 62 (.build 112 []),zS 112 2 62,zo 3 (.mv (.c (.b false)))]))
 .ret)
 .skip))
 (.cut [1000000,0,2,6,7] (.seq (.seq (.reg [zV 63 7,zo 64 (.rng 9 (.t 63))])
 (.blk 0
 (.loop [0,2,6,64] c50L0)))
 (.seq (.reg [zo 12 (.mv (.c (.i .i64 0)))])
 (.seq (.cut [2,6] (.reg [zF 129 112 6 0,zL 130 80 129,zC 131 54 [.t 130],zV 128 131,zE 132 128 0,zE 133 128 1,zF 134 112 6 1,zS 28 134 132,zV 12 133]))
 (.seq (.cut [2,6,12] (.reg [zL 135 112 6,zV 136 12,zD 137 .eql 61 136 0,zS 112 2 135,zV 3 137]))
 .ret))))))))))))
def VG:AF:=⟨138,[.cell 2 112,.t 3],c50⟩
def c51:AC:=(.seq (.reg [zo 4 (.mv (.c (.sl0)))])
 (.seq (.cut [0,1] (.reg [zV 5 0,zV 6 1,zC 7 95 [.t 5,.t 6,.c (.i .i64 0),.c (.i .i64 (-1))],zV 4 7]))
 .ret))
def F51:AF:=⟨8,[.t 4],c51⟩
def c52:AC:=(.seq (.cut [0,1] (.reg [zo 4 (.mv (.c (.s []))),zo 5 (.mv (.c (.s []))),zo 6 (.mv (.c (.b false)))]))
 (.seq (.cut [0,1] (.reg [zV 7 0,zV 8 1,zC 9 96 [.t 7,.t 8],zE 10 9 0,zE 11 9 1,zE 12 9 2,zV 4 10,zV 5 11,zV 6 12]))
 .ret))
def F52:AF:=⟨13,[.t 4,.t 5,.t 6],c52⟩
def c53:AC:=(.seq (.reg [zo 2 (.mv (.c (.sl0)))])
 (.seq (.cut [0] (.reg [zV 3 0,zC 4 97 [.t 3,.c (.fn (.func 98) [] [])],zV 2 4]))
 .ret))
def F53:AF:=⟨5,[.t 2],c53⟩
def c54L0:AC:=(.seq (.reg [zo 24 (.G8 (.t 23)),zE 25 24 0])
 (.seq (.cond (.t 25)
 .skip
 (.exit 0))
 (.blk 1
 (.seq (.reg [zE 26 24 2,zV 9 26])
 (.seq (.reg [zV 27 9])
 (.blk 2
 (.seq (.reg [zo 29 (.bin .eql 21 (.t 27) (.c (.i .i32 97))),zV 28 29])
 (.cond (.t 28)
 (.cut [1,4,5,6,7,23] (.reg [zV 30 6,zF 31 80 1 1,zo 32 (.call (.t 30) [.t 31,.c (.i .i64 20),.c (.i .i64 4),.c (.b false)])]))
 (.seq (.reg [zo 34 (.bin .eql 21 (.t 27) (.c (.i .i32 98))),zV 33 34])
 (.cond (.t 33)
 (.cut [1,4,5,6,7,23] (.reg [zV 35 6,zF 36 80 1 2,zo 37 (.call (.t 35) [.t 36,.c (.i .i64 16),.c (.i .i64 4),.c (.b false)])]))
 (.seq (.reg [zo 39 (.bin .eql 21 (.t 27) (.c (.i .i32 99))),zV 38 39])
 (.cond (.t 38)
 (.cut [1,4,5,6,7,23] (.reg [zV 40 6,zF 41 80 1 3,zo 42 (.call (.t 40) [.t 41,.c (.i .i64 12),.c (.i .i64 4),.c (.b false)])]))
 (.seq (.reg [zo 44 (.bin .eql 21 (.t 27) (.c (.i .i32 105))),zV 43 44])
 (.cond (.t 43)
 (.cut [1,4,5,6,7,23] (.reg [zV 45 6,zF 46 80 1 4,zo 47 (.call (.t 45) [.t 46,.c (.i .i64 0),.c (.i .i64 12),.c (.b true)])]))
 (.seq (.reg [zo 49 (.bin .eql 21 (.t 27) (.c (.i .i32 106))),zV 48 49])
 (.cond (.t 48)
 (.cut [1,4,5,6,7,23] (.reg [zV 50 6,zF 51 80 1 4,zo 52 (.call (.t 50) [.t 51,.c (.i .i64 0),.c (.i .i64 20),.c (.b true)])]))
 .skip))))))))))))))))
def c54:AC:=(.seq (.cut [0] (.reg [zo 1 (.box 80 (.t 0)),zo 2 (.mv (.c (.i .u32 0))),zo 3 (.mv (.c (.i .i64 0)))]))
 (.seq (.seq (.cut [1] (.reg [zF 10 80 1 0,zL 11 3 10,zC 12 99 [.t 11],zo 13 (.bin .eql 9 (.t 12) (.c (.s [])))]))
 (.cond (.t 13)
 (.seq (.reg [zo 2 (.mv (.c (.i .u32 0))),zo 3 (.mv (.c (.i .i64 2)))])
 .ret)
 .skip))
 (.seq (.cut [1] (.reg [zF 14 80 1 0,zL 15 3 14,zo 16 (.conv 3 28 (.t 15)),zo 17 (.bin .shl 28 (.t 16) (.c (.i .u64 24))),zo 4 (.alloc 28),zS 28 4 17]))
 (.seq (.reg [zo 5 (.alloc 4),zn (.store 4 (.t 5) (.c (.b false)))])
 (.seq (.reg [zo 18 (.vI (.func 100) [] [.t 5,.t 4]),zV 6 18])
 (.seq (.cut [1,4,5,6] (.reg [zF 19 80 1 0,zL 20 3 19,zV 7 20]))
 (.seq (.seq (.cut [1,4,5,6,7] (.reg [zV 21 7,zC 22 92 [.t 21],zo 23 (.rng 9 (.t 22))]))
 (.blk 0
 (.loop [1,4,5,6,7,23] c54L0)))
 (.seq (.seq (.cut [1,4,5,7] (.reg [zL 53 4 5,zV 54 53,dX 55 54 (.load 80 (.t 1)),jK 56 54 7,dX 57 54 (.build 80 [(0,.t 56)]),dX 58 54 (.bin .neq 80 (.t 55) (.t 57)),zo 59 (.pick (.t 54) (.c (.b true)) (.t 58))]))
 (.cond (.t 59)
 (.seq (.reg [zo 2 (.mv (.c (.i .u32 0))),zo 3 (.mv (.c (.i .i64 2)))])
 .ret)
 .skip))
 (.seq (.cut [4] (.reg [zL 60 28 4,zV 2 60,zo 3 (.mv (.c (.i .i64 0)))]))
 .ret)))))))))
def F54:AF:=⟨61,[.t 2,.t 3],c54⟩
def c55:AC:=(.seq (.reg [zo 6 (.mv (.c (.s [])))])
 (.seq (.seq (.cut [0,1,2] (.reg [zV 8 1,zC 9 101 [.t 8],zo 10 (.un .not (.t 9))]))
 (.cond (.t 10)
 (.seq (.reg [zV 11 0,zV 6 11])
 .ret)
 .skip))
 (.seq (.reg [zo 7 (.alloc 181)])
 (.seq (.cut [0,1,2,7] (.reg [zo 12 (.slc 181 (.t 7) none none),zV 13 1,zV 14 2,zC 15 102 [.t 12,.c (.i .i64 0),.t 13,.t 14]]))
 (.seq (.cut [0,1,7] (.reg [zV 16 0,zV 17 1,zo 18 (.slc 181 (.t 7) none (some (.t 17))),zo 19 (.conv 45 9 (.t 18)),zB 20 .add 9 16 19,zV 6 20]))
 .ret)))))
def F55:AF:=⟨21,[.t 6],c55⟩
def c56:AC:=(.seq (.reg [zo 6 (.mv (.c (.b false)))])
 (.seq (.seq (.cut [0,1,2] (.reg [zV 7 0,zV 8 1,zV 9 2,zo 10 (.len 45 (.t 9)),zC 11 103 [.t 7,.t 8,.t 10],zo 12 (.un .not (.t 11))]))
 (.cond (.t 12)
 (.seq (.reg [zo 6 (.mv (.c (.b false)))])
 .ret)
 .skip))
 (.seq (.cut [0,1,2] (.reg [zV 13 0,zN 14 13,zF 15 103 14 1,zL 16 45 15,zV 17 1,zo 18 (.slc 45 (.t 16) (some (.t 17)) none),zV 19 2,zo 20 (.copy 45 (.t 18) (.t 19))]))
 (.seq (.seq (.cut [0,1,2] (.reg [zV 21 2,zo 22 (.len 45 (.t 21)),zD 23 .gtr 3 22 0]))
 (.cond (.t 23)
 (.cut [0,1,2] (.reg [zV 24 0,zN 25 24,zF 26 103 25 0,zL 27 93 26,zV 28 1,zo 29 (.conv 28 3 (.t 28)),zD 30 .quo 3 29 16,zV 31 1,zo 32 (.conv 28 3 (.t 31)),zV 33 2,zo 34 (.len 45 (.t 33)),zB 35 .add 3 32 34,zD 36 .sub 3 35 1,zD 37 .quo 3 36 16,zD 38 .add 3 37 1,zC 39 104 [.t 27,.t 30,.t 38]]))
 .skip))
 (.seq (.reg [zo 6 (.mv (.c (.b true)))])
 .ret)))))
def F56:AF:=⟨40,[.t 6],c56⟩
def c57:AC:=(.seq (.reg [zo 0 (.mv (.c (.p0)))])
 (.seq (.cut [] (.reg [zo 1 (.build 131 []),zo 2 (.box 131 (.t 1)),zV 0 2]))
 .ret))
def F57:AF:=⟨3,[.t 0],c57⟩
def c58:AC:=(.seq (.reg [zo 5 (.box 31 (.t 0)),zo 10 (.mv (.c (.i .i64 0)))])
 (.seq (.seq (.cut [1,2,3,4,5] (.reg [zL 13 31 5,zV 14 3,zC 15 68 [.t 13,.t 14],zV 11 15]))
 (.seq (.reg [zV 16 11,zD 17 .neq 38 16 0])
 (.cond (.t 17)
 (.seq (.reg [zV 18 11,zV 10 18])
 .ret)
 .skip)))
 (.seq (.cut [1,2,4,5] (.reg [zV 19 1,zV 20 2,zo 21 (.conv 3 28 (.t 20)),zo 22 (.build 51 [(0,.t 19),(1,.t 21)]),zo 12 (.alloc 51),zS 51 12 22]))
 (.seq (.blk 0
 (.seq (.cut [1,2,4,5,12] (.reg [zL 24 31 5,zL 25 51 12,zC 26 105 [.t 24,.t 25],zo 27 (.un .not (.t 26)),zV 28 27,jK 29 28 1,dX 30 28 (.conv 28 39 (.t 29)),jK 31 28 2,dX 32 28 (.conv 3 39 (.t 31)),dX 33 28 (.bin .add 39 (.t 30) (.t 32)),jK 34 28 4,dX 35 28 (.call (.c (.fn (.func 106) [] [])) [.t 34]),dX 36 28 (.conv 3 39 (.t 35)),dX 37 28 (.bin .gtr 39 (.t 33) (.t 36)),zo 38 (.pick (.t 28) (.c (.b true)) (.t 37)),zV 23 38]))
 (.cut [1000000,1,12,23] (.cond (.t 23)
 (.seq (.reg [zo 10 (.mv (.c (.i .i64 4)))])
 .ret)
 (.seq (.cut [1,12] (.reg [zV 40 1,zF 41 51 12 1,zL 42 28 41,zB 43 .rem 28 40 42,zo 44 (.bin .neq 28 (.t 43) (.c (.i .u32 0))),zV 39 44]))
 (.cond (.t 39)
 (.seq (.reg [zo 10 (.mv (.c (.i .i64 5)))])
 .ret)
 .skip))))))
 (.seq (.reg [zo 10 (.mv (.c (.i .i64 0)))])
 .ret)))))
def F58:AF:=⟨45,[.t 10],c58⟩
def c59:AC:=(.seq (.reg [zo 6 (.mv (.c (.i .u32 0))),zo 7 (.mv (.c (.b false)))])
 (.seq (.seq (.cut [0,1,2] (.reg [zV 8 0,zV 9 1,zV 10 2,zC 11 103 [.t 8,.t 9,.t 10],zo 12 (.un .not (.t 11))]))
 (.cond (.t 12)
 (.seq (.reg [zo 6 (.mv (.c (.i .u32 0))),zo 7 (.mv (.c (.b false)))])
 .ret)
 .skip))
 (.seq (.cut [0,1,2] (.reg [zV 13 0,zN 14 13,zF 15 103 14 1,zL 16 45 15,zV 17 1,zo 18 (.conv 28 3 (.t 17)),zV 19 2,zC 20 107 [.t 16,.t 18,.t 19],zE 21 20 0,zE 22 20 1,zV 6 21,zV 7 22]))
 .ret)))
def F59:AF:=⟨23,[.t 6,.t 7],c59⟩
def c60L0:AC:=(.seq (.reg [zo 20 (.G8 (.t 19)),zE 21 20 0])
 (.seq (.cond (.t 21)
 .skip
 (.exit 0))
 (.blk 1
 (.seq (.reg [zE 22 20 2,zV 7 22])
 (.seq (.reg [zV 23 7])
 (.blk 2
 (.seq (.reg [zo 25 (.bin .eql 21 (.t 23) (.c (.i .i32 97))),zV 24 25])
 (.cond (.t 24)
 (.cut [1,2,3,4,5,19] (.reg [zL 26 184 4,zo 27 (.call (.t 26) [.c (.i .i64 20),.c (.i .i64 4)]),zF 28 80 3 1,zS 3 28 27]))
 (.seq (.reg [zo 30 (.bin .eql 21 (.t 23) (.c (.i .i32 98))),zV 29 30])
 (.cond (.t 29)
 (.cut [1,2,3,4,5,19] (.reg [zL 31 184 4,zo 32 (.call (.t 31) [.c (.i .i64 16),.c (.i .i64 4)]),zF 33 80 3 2,zS 3 33 32]))
 (.seq (.reg [zo 35 (.bin .eql 21 (.t 23) (.c (.i .i32 99))),zV 34 35])
 (.cond (.t 34)
 (.cut [1,2,3,4,5,19] (.reg [zL 36 184 4,zo 37 (.call (.t 36) [.c (.i .i64 12),.c (.i .i64 4)]),zF 38 80 3 3,zS 3 38 37]))
 (.seq (.reg [zo 40 (.bin .eql 21 (.t 23) (.c (.i .i32 105))),zV 39 40])
 (.cond (.t 39)
 (.cut [1,2,3,4,5,19] (.reg [zV 41 5,zo 42 (.call (.t 41) [.c (.i .i64 12)]),zF 43 80 3 4,zS 3 43 42]))
 (.seq (.reg [zo 45 (.bin .eql 21 (.t 23) (.c (.i .i32 106))),zV 44 45])
 (.cond (.t 44)
 (.cut [1,2,3,4,5,19] (.reg [zV 46 5,zo 47 (.call (.t 46) [.c (.i .i64 20)]),zF 48 80 3 4,zS 3 48 47]))
 .skip))))))))))))))))
def c60:AC:=(.seq (.reg [zo 1 (.box 28 (.t 0)),zo 2 (.alloc 80)])
 (.seq (.cut [1,2] (.reg [zL 10 28 1,zo 11 (.bin .shr 28 (.t 10) (.c (.i .u64 24))),zo 12 (.conv 28 3 (.t 11)),zo 13 (.build 80 [(0,.t 12)]),zo 3 (.alloc 80),zS 80 3 13]))
 (.seq (.cut [1,2,3] (.reg [zo 14 (.vI (.func 108) [] [.t 1]),zo 4 (.alloc 184),zS 184 4 14]))
 (.seq (.reg [zo 15 (.vI (.func 109) [] [.t 4]),zV 5 15])
 (.seq (.seq (.cut [1,2,3,4,5] (.reg [zF 16 80 3 0,zL 17 3 16,zC 18 92 [.t 17],zo 19 (.rng 9 (.t 18))]))
 (.blk 0
 (.loop [1,2,3,4,5,19] c60L0)))
 (.cut [1000000,1,2,3] (.seq (.seq (.cut [1,2,3] (.reg [zL 50 80 3,zC 51 54 [.t 50],zV 49 51,zE 52 49 0,zE 53 49 1,zV 8 52,zV 9 53]))
 (.seq (.cut [1,2,3,8,9] (.reg [zV 54 9,zD 55 .neq 61 54 0,zV 56 55,jK 57 56 8,dX 58 56 (.load 28 (.t 1)),dX 59 56 (.bin .neq 28 (.t 57) (.t 58)),zo 60 (.pick (.t 56) (.c (.b true)) (.t 59))]))
 (.cond (.t 60)
 (.seq (.reg [zo 61 (.build 80 []),zS 80 2 61])
 .ret)
 .skip)))
 (.seq (.reg [zL 62 80 3,zS 80 2 62])
 .ret))))))))
def F60:AF:=⟨63,[.cell 2 80],c60⟩
def c61:AC:=(.seq (.reg [zo 2 (.box 37 (.t 0)),zo 4 (.alloc 31)])
 (.seq (.cut [1,2,4] (.reg [zF 5 37 2 1,zL 6 31 5,zF 7 37 2 1,zF 8 31 7 0,zL 9 28 8,zV 10 1,zo 11 (.conv 3 28 (.t 10)),zo 12 (.bin .mul 28 (.c (.i .u32 4)) (.t 11)),zB 13 .add 28 9 12,zC 14 63 [.t 6,.t 13],zS 31 4 14]))
 .ret))
def F61:AF:=⟨15,[.cell 4 31],c61⟩
def c62:AC:=(.seq (.cut [0,1] (.reg [zo 2 (.box 31 (.t 0)),zo 3 (.box 31 (.t 1)),zo 4 (.mv (.c (.i .i64 0)))]))
 (.seq (.cut [2,3] (.reg [zF 6 31 2 4,zL 7 29 6,zF 8 31 3 4,zL 9 29 8,zB 10 .and 29 7 9,zV 5 10]))
 (.seq (.blk 0
 (.seq (.cut [2,3,5] (.reg [zF 12 31 2 7,zL 13 4 12,zo 14 (.un .not (.t 13)),zV 15 14,dX 16 15 (.ku 31 (.t 3) 7),dX 17 15 (.load 4 (.t 16)),dX 18 15 (.un .not (.t 17)),zo 19 (.pick (.t 15) (.c (.b true)) (.t 18)),zV 11 19]))
 (.cond (.t 11)
 (.seq (.reg [zo 4 (.mv (.c (.i .i64 1)))])
 .ret)
 (.seq (.cut [2,3,5] (.reg [zF 21 31 2 5,zL 22 29 21,zo 23 (.bin .eql 29 (.t 22) (.c (.i .u16 0))),zV 24 23,dX 25 24 (.ku 31 (.t 3) 5),dX 26 24 (.load 29 (.t 25)),dX 27 24 (.bin .eql 29 (.t 26) (.c (.i .u16 0))),zo 28 (.pick (.t 24) (.c (.b true)) (.t 27)),zV 20 28]))
 (.cut [1000000,2,3,5,20] (.cond (.t 20)
 (.seq (.reg [zo 4 (.mv (.c (.i .i64 2)))])
 .ret)
 (.seq (.cut [2,3,5] (.reg [zF 30 31 2 5,zL 31 29 30,zF 32 31 3 5,zL 33 29 32,zB 34 .neq 29 31 33,zV 29 34]))
 (.cond (.t 29)
 (.seq (.reg [zo 4 (.mv (.c (.i .i64 8)))])
 .ret)
 (.seq (.cut [2,3,5] (.reg [zV 36 5,zo 37 (.bin .and 29 (.t 36) (.c (.i .u16 128))),zo 38 (.bin .eql 29 (.t 37) (.c (.i .u16 0))),zV 39 38,dX 40 39 (.ku 31 (.t 2) 4),dX 41 39 (.load 29 (.t 40)),dX 42 39 (.bin .and 29 (.t 41) (.c (.i .u16 4))),dX 43 39 (.bin .eql 29 (.t 42) (.c (.i .u16 0))),zo 44 (.pick (.t 39) (.c (.b true)) (.t 43)),zV 45 44,dX 46 45 (.ku 31 (.t 3) 4),dX 47 45 (.load 29 (.t 46)),dX 48 45 (.bin .and 29 (.t 47) (.c (.i .u16 4))),dX 49 45 (.bin .neq 29 (.t 48) (.c (.i .u16 0))),zo 50 (.pick (.t 45) (.c (.b true)) (.t 49)),zV 35 50]))
 (.cond (.t 35)
 (.seq (.reg [zo 4 (.mv (.c (.i .i64 3)))])
 .ret)
 .skip))))))))))
 (.seq (.reg [zo 4 (.mv (.c (.i .i64 0)))])
 .ret))))
def F62:AF:=⟨51,[.t 4],c62⟩
def c63:AC:=(.seq (.cut [0,1] (.reg [zo 2 (.box 31 (.t 0)),zo 3 (.box 28 (.t 1)),zo 4 (.alloc 31)]))
 (.seq (.cut [2,3,4] (.reg [zL 7 31 2,zo 5 (.alloc 31),zS 31 5 7]))
 (.seq (.cut [2,3,4,5] (.reg [zL 8 28 3,zF 9 31 5 0,zS 28 9 8]))
 (.seq (.reg [zo 6 (.alloc 187),zn (.store 187 (.t 6) (.c (.fn (.func 110) [] [])))])
 (.seq (.cut [2,3,4,5,6] (.reg [zL 10 31 5,zo 11 (.vI (.func 112) [] [.t 6,.t 2]),zo 12 (.vI (.func 113) [] [.t 2,.t 3]),zo 13 (.vH 235 2 [(0,.t 11),(1,.t 12)]),zC 14 111 [.t 10,.t 13],zS 31 4 14]))
 .ret)))))
def F63:AF:=⟨15,[.cell 4 31],c63⟩
def c64L0:AC:=(.seq (.reg [zD 10 .lss 3 9 16])
 (.seq (.cond (.t 10)
 .skip
 (.exit 0))
 (.seq (.blk 1
 (.seq (.reg [zV 11 9,zV 6 11])
 (.cut [1,2,4,5,6,9] (.reg [zV 12 6,zC 13 10 [.c (.i .u32 0)],zF 14 37 5 0,zo 15 (.fC 35 (.t 14) (.t 12)),zS 31 15 13]))))
 (.reg [zD 16 .add 3 9 1,zV 9 16]))))
def c64L1:AC:=(.seq (.reg [zB 20 .lss 3 19 18])
 (.seq (.cond (.t 20)
 .skip
 (.exit 2))
 (.seq (.blk 3
 (.seq (.cut [2,4,5,17,18,19] (.reg [zo 21 (.fC 192 (.t 17) (.t 19)),zL 22 3 21,zV 8 22]))
 (.cut [2,4,5,8,17,18,19] (.reg [zV 23 8,zV 24 8,zF 25 37 2 0,zo 26 (.fC 35 (.t 25) (.t 24)),zL 27 31 26,zF 28 37 5 0,zo 29 (.fC 35 (.t 28) (.t 23)),zS 31 29 27]))))
 (.reg [zD 30 .add 3 19 1,zV 19 30]))))
def c64:AC:=(.seq (.reg [zo 2 (.box 37 (.t 0)),zo 4 (.alloc 37)])
 (.seq (.reg [zo 5 (.alloc 37)])
 (.seq (.seq (.reg [zo 9 (.mv (.c (.i .i64 0)))])
 (.blk 0
 (.loop [1,2,4,5,9] c64L0)))
 (.seq (.seq (.cut [1,2,4,5] (.reg [zV 17 1,zo 18 (.len 192 (.t 17)),zo 19 (.mv (.c (.i .i64 0)))]))
 (.blk 2
 (.loop [2,4,5,17,18,19] c64L1)))
 (.seq (.reg [zL 31 37 5,zS 37 4 31])
 .ret)))))
def F64:AF:=⟨32,[.cell 4 37],c64⟩
def c65:AC:=(.seq (.reg [zo 1 (.box 31 (.t 0)),zo 2 (.alloc 31)])
 (.seq (.reg [zF 3 31 1 5,zn (.store 29 (.t 3) (.c (.i .u16 0)))])
 (.seq (.reg [zL 4 31 1,zS 31 2 4])
 .ret)))
def F65:AF:=⟨5,[.cell 2 31],c65⟩
def c66:AC:=(.seq (.reg [zo 5 (.box 31 (.t 0))])
 (.seq (.reg [zV 7 1,zS 38 2 7])
 (.cut [3,4,5] (.reg [zF 8 80 4 1,zL 9 3 8,zL 10 31 5,zF 11 37 3 0,zo 12 (.fC 35 (.t 11) (.t 9)),zS 31 12 10]))))
def F66:AF:=⟨13,[],c66⟩
def c67:AC:=(.seq (.reg [zo 1 (.box 80 (.t 0)),zo 2 (.mv (.c (.b false)))])
 (.seq (.cut [1] (.reg [zL 6 80 1,zC 7 54 [.t 6],zV 5 7,zE 8 5 0,zE 9 5 1,zV 3 8,zV 4 9]))
 (.seq (.cut [4] (.reg [zV 10 4,zD 11 .eql 61 10 0,zV 2 11]))
 .ret)))
def F67:AF:=⟨12,[.t 2],c67⟩
def c68:AC:=(.seq (.reg [zo 2 (.box 31 (.t 0)),zo 4 (.mv (.c (.i .i64 0)))])
 (.seq (.blk 0
 (.seq (.cut [1,2] (.reg [zF 6 31 2 7,zL 7 4 6,zo 8 (.un .not (.t 7)),zV 5 8]))
 (.cond (.t 5)
 (.seq (.reg [zo 4 (.mv (.c (.i .i64 1)))])
 .ret)
 (.seq (.cut [1,2] (.reg [zF 10 31 2 5,zL 11 29 10,zo 12 (.bin .neq 29 (.t 11) (.c (.i .u16 0))),zV 9 12]))
 (.cond (.t 9)
 (.seq (.reg [zo 4 (.mv (.c (.i .i64 2)))])
 .ret)
 (.seq (.cut [1,2] (.reg [zF 14 31 2 4,zL 15 29 14,zV 16 1,zB 17 .and 29 15 16,zV 18 1,zB 19 .neq 29 17 18,zV 13 19]))
 (.cond (.t 13)
 (.seq (.reg [zo 4 (.mv (.c (.i .i64 3)))])
 .ret)
 .skip)))))))
 (.seq (.reg [zo 4 (.mv (.c (.i .i64 0)))])
 .ret)))
def F68:AF:=⟨20,[.t 4],c68⟩
def c69:AC:=(.seq (.reg [zo 2 (.mv (.c (.i .i64 0)))])
 (.seq (.seq (.reg [zV 3 0])
 (.blk 0
 (.seq (.seq (.reg [zD 5 .eql 3 3 17,zV 4 5])
 (.cond (.t 4)
 .skip
 (.reg [zD 6 .eql 3 3 20,zV 4 6])))
 (.cut [1000000,3,4] (.cond (.t 4)
 (.seq (.reg [zo 2 (.mv (.c (.i .i64 1)))])
 .ret)
 (.seq (.seq (.reg [zD 8 .eql 3 3 18,zV 7 8])
 (.cond (.t 7)
 .skip
 (.reg [zD 9 .eql 3 3 21,zV 7 9])))
 (.cut [1000000,3,7] (.cond (.t 7)
 (.seq (.reg [zo 2 (.mv (.c (.i .i64 2)))])
 .ret)
 (.seq (.seq (.reg [zD 11 .eql 3 3 19,zV 10 11])
 (.cond (.t 10)
 .skip
 (.reg [zD 12 .eql 3 3 22,zV 10 12])))
 (.cut [1000000,3,10] (.cond (.t 10)
 (.seq (.reg [zo 2 (.mv (.c (.i .i64 4)))])
 .ret)
 (.seq (.seq (.reg [zD 14 .eql 3 3 23,zV 13 14])
 (.cond (.t 13)
 .skip
 (.reg [zD 15 .eql 3 3 24,zV 13 15])))
 (.cut [1000000,13] (.cond (.t 13)
 (.seq (.reg [zo 2 (.mv (.c (.i .i64 16)))])
 .ret)
 .skip))))))))))))))
 (.seq (.reg [zo 2 (.mv (.c (.i .i64 0)))])
 .ret)))
def WO:AF:=⟨16,[.t 2],c69⟩
def c70:AC:=(.seq (.cut [0,1,2] (.reg [zo 3 (.box 37 (.t 0)),zo 4 (.box 80 (.t 1)),zo 6 (.alloc 31),zo 7 (.mv (.c (.i .i64 0)))]))
 (.seq (.cut [2,3,4,6] (.reg [zF 16 80 4 1,zL 17 3 16,zF 18 37 3 0,zo 19 (.fC 35 (.t 18) (.t 17)),zL 20 31 19,zF 21 80 4 2,zL 22 3 21,zF 23 37 3 0,zo 24 (.fC 35 (.t 23) (.t 22)),zL 25 31 24,zo 8 (.alloc 31),zS 31 8 20,zo 9 (.alloc 31),zS 31 9 25]))
 (.seq (.cut [2,4,6,8,9] (.reg [zF 26 31 9 0,zL 27 28 26,zF 28 80 4 4,zL 29 3 28,zo 30 (.conv 3 28 (.t 29)),zB 31 .add 28 27 30,zV 10 31]))
 (.cut [1000000,2,4,6,8,9,10] (.seq (.cut [2,4,6,8,9,10] (.reg [zF 32 80 4 0,zL 33 3 32,zC 34 69 [.t 33],zV 11 34]))
 (.seq (.cut [2,4,6,8,9,10,11] (.reg [zo 35 (.vH 239 1 [(0,.c (.i .u16 1))]),zC 36 115 [.t 35],zV 12 36]))
 (.seq (.seq (.reg [zF 37 80 4 0,zL 38 3 37])
 (.blk 0
 (.seq (.reg [zD 40 .eql 3 38 24,zV 39 40])
 (.cond (.t 39)
 (.seq (.cut [2,4,6,8,9,10,11] (.reg [zo 41 (.vH 239 1 [(0,.c (.i .u16 2))]),zC 42 115 [.t 41],zV 12 42]))
 (.seq (.reg [zF 43 31 8 7,zL 44 4 43])
 (.cond (.t 44)
 (.cut [2,4,6,8,9,10,11] (.reg [zo 45 (.vH 239 2 [(0,.c (.i .u16 2)),(1,.c (.i .u16 16))]),zC 46 115 [.t 45],zV 12 46]))
 .skip)))
 (.seq (.seq (.reg [zD 48 .eql 3 38 20,zV 47 48])
 (.cond (.t 47)
 .skip
 (.seq (.reg [zD 49 .eql 3 38 21,zV 47 49])
 (.cond (.t 47)
 .skip
 (.reg [zD 50 .eql 3 38 22,zV 47 50])))))
 (.cut [1000000,2,4,6,8,9,10,11,12,47] (.cond (.t 47)
 (.cut [2,4,6,8,9,10,11] (.reg [zo 51 (.vH 239 1 [(0,.c (.i .u16 2))]),zC 52 115 [.t 51],zV 12 52]))
 .skip)))))))
 (.cut [1000000,2,4,6,8,9,10,11,12] (.seq (.seq (.cut [2,4,6,8,9,10,11,12] (.reg [zL 53 31 9,zV 54 10,zV 55 11,zV 56 12,zV 57 2,zC 58 58 [.t 53,.t 54,.t 55,.t 56,.t 57],zV 13 58]))
 (.seq (.reg [zV 59 13,zD 60 .neq 38 59 0])
 (.cond (.t 60)
 (.seq (.cut [6,13] (.reg [zo 61 (.build 31 []),zV 62 13,zS 31 6 61,zV 7 62]))
 .ret)
 .skip)))
 (.seq (.seq (.reg [zF 63 80 4 0,zL 64 3 63])
 (.blk 1
 (.seq (.reg [zD 75 .eql 3 64 24,zV 74 75])
 (.cond (.t 74)
 (.cut [2,6,8,10] (.reg [zV 76 2,zV 77 10,zL 78 31 8,zC 79 116 [.t 76,.t 77,.t 78]]))
 (.seq (.seq (.reg [zD 81 .eql 3 64 20,zV 80 81])
 (.cond (.t 80)
 .skip
 (.seq (.reg [zD 82 .eql 3 64 21,zV 80 82])
 (.cond (.t 80)
 .skip
 (.reg [zD 83 .eql 3 64 22,zV 80 83])))))
 (.cut [1000000,2,6,8,9,10,11,64,80] (.cond (.t 80)
 (.cut [2,6,8,10,11] (.reg [zV 84 2,zV 85 10,zV 86 11,zF 87 31 8 0,zL 88 28 87,zC 89 25 [.t 84,.t 85,.t 86,.t 88]]))
 (.seq (.reg [zD 91 .eql 3 64 23,zV 90 91])
 (.cond (.t 90)
 (.seq (.cut [2,6,8,9,10] (.reg [zV 93 2,zV 94 10,zC 95 117 [.t 93,.t 94],zV 92 95,zE 96 92 0,zE 97 92 1,zS 31 8 96]))
 (.cut [6,8,9] (.reg [zF 98 31 8 7,zL 99 4 98,zV 100 99,cu 101 100 (.ku 31 (.t 9) 4),cu 102 100 (.load 29 (.t 101)),cu 103 100 (.bin .and 29 (.t 102) (.c (.i .u16 8))),cu 104 100 (.bin .neq 29 (.t 103) (.c (.i .u16 0))),zo 105 (.pick (.t 100) (.t 104) (.c (.b false))),zF 106 31 8 7,zS 4 106 105])))
 (.seq (.cut [2,6,8,10,11] (.reg [zV 66 2,zV 67 10,zV 68 11,zC 69 59 [.t 66,.t 67,.t 68],zV 65 69,zE 70 65 0,zE 71 65 1,zV 14 70,zV 15 71]))
 (.cut [6,8,14] (.reg [zV 72 14,zC 73 10 [.t 72],zS 31 8 73]))))))))))))
 (.cut [1000000,6,8] (.seq (.cut [6,8] (.reg [zL 107 31 8,zS 31 6 107,zo 7 (.mv (.c (.i .i64 0)))]))
 .ret))))))))))))
def VH:AF:=⟨108,[.cell 6 31,.t 7],c70⟩
def c71:AC:=(.seq (.reg [zo 6 (.mv (.c (.b false))),zo 7 (.mv (.c (.b false)))])
 (.seq (.seq (.reg [zV 8 0])
 (.blk 0
 (.seq (.reg [zD 10 .eql 3 8 25,zV 9 10])
 (.cond (.t 9)
 (.seq (.cut [1,2] (.reg [zV 11 1,zV 12 2,zB 13 .eql 28 11 12,zV 6 13,zo 7 (.mv (.c (.b true)))]))
 .ret)
 (.seq (.reg [zD 15 .eql 3 8 26,zV 14 15])
 (.cond (.t 14)
 (.seq (.cut [1,2] (.reg [zV 16 1,zV 17 2,zB 18 .neq 28 16 17,zV 6 18,zo 7 (.mv (.c (.b true)))]))
 .ret)
 (.seq (.reg [zD 20 .eql 3 8 27,zV 19 20])
 (.cond (.t 19)
 (.seq (.cut [1,2] (.reg [zV 21 1,zV 22 2,zC 23 118 [.t 21,.t 22],zV 6 23,zo 7 (.mv (.c (.b true)))]))
 .ret)
 (.seq (.reg [zD 25 .eql 3 8 28,zV 24 25])
 (.cond (.t 24)
 (.seq (.cut [1,2] (.reg [zV 26 1,zV 27 2,zC 28 118 [.t 26,.t 27],zo 29 (.un .not (.t 28)),zV 6 29,zo 7 (.mv (.c (.b true)))]))
 .ret)
 .skip))))))))))
 (.seq (.reg [zo 6 (.mv (.c (.b false))),zo 7 (.mv (.c (.b false)))])
 .ret)))
def F71:AF:=⟨30,[.t 6,.t 7],c71⟩
def c72L0:AC:=(.seq (.reg [zB 14 .lss 3 13 12])
 (.seq (.cond (.t 14)
 .skip
 (.exit 0))
 (.seq (.blk 1
 (.seq (.cut [0,6,7,8,11,12,13] (.reg [zo 15 (.fC 197 (.t 11) (.t 13)),zL 16 201 15,zo 10 (.alloc 201),zS 201 10 16]))
 (.seq (.seq (.cut [0,6,7,8,10,11,12,13] (.reg [zF 17 201 10 0,zL 18 3 17,zV 19 0,zB 20 .neq 3 18 19]))
 (.cond (.t 20)
 (.exit 1)
 .skip))
 (.seq (.cond (.c .u)
 (.exit 999999)
 (.exit 999999))
 (.seq (.cut [1,2,6,7,8,10] (.reg [zF 22 201 10 1,zL 23 199 22,zV 24 1,zV 25 2,zo 26 (.call (.t 23) [.t 24,.t 25]),zS 28 6 26,zn (.store 38 (.t 7) (.c (.i .i64 0))),zn (.store 4 (.t 8) (.c (.b true)))]))
 .ret)))))
 (.reg [zD 27 .add 3 13 1,zV 13 27]))))
def c72:AC:=(.seq (.cut [0] (.reg [zo 6 (.alloc 28),zo 7 (.alloc 38),zo 8 (.alloc 4)]))
 (.seq (.seq (.cut [0,6,7,8] (.reg [zC 11 119 [],zo 12 (.len 197 (.t 11)),zo 13 (.mv (.c (.i .i64 0)))]))
 (.blk 0
 (.loop [0,6,7,8,11,12,13] c72L0)))
 (.seq (.cut [6,7,8] (.reg [zn (.store 28 (.t 6) (.c (.i .u32 0))),zn (.store 38 (.t 7) (.c (.i .i64 0))),zn (.store 4 (.t 8) (.c (.b false)))]))
 .ret)))
def F72:AF:=⟨28,[.cell 6 28,.cell 7 38,.cell 8 4],c72⟩
def c73:AC:=(.seq (.cut [0,1] (.reg [zo 2 (.box 37 (.t 0)),zo 3 (.box 80 (.t 1)),zo 4 (.alloc 31)]))
 (.seq (.cut [2,3,4] (.reg [zF 9 80 3 2,zL 10 3 9,zF 11 37 2 0,zo 12 (.fC 35 (.t 11) (.t 10)),zL 13 31 12,zF 14 80 3 3,zL 15 3 14,zF 16 37 2 0,zo 17 (.fC 35 (.t 16) (.t 15)),zL 18 31 17,zo 5 (.alloc 31),zS 31 5 13,zo 6 (.alloc 31),zS 31 6 18]))
 (.seq (.cut [2,3,4,5,6] (.reg [zL 20 31 5,zC 21 121 [.t 20],zV 19 21,zE 22 19 0,zE 23 19 1,zV 7 22,zV 8 23]))
 (.seq (.seq (.reg [zF 24 80 3 0,zL 25 3 24])
 (.cut [1000000,2,3,4,5,6,7,8,25] (.blk 0
 (.seq (.reg [zD 27 .eql 3 25 1,zV 26 27])
 (.cond (.t 26)
 (.seq (.cut [3,4] (.reg [zF 28 80 3 4,zL 29 3 28,zo 30 (.conv 3 28 (.t 29)),zC 31 10 [.t 30],zS 31 4 31]))
 .ret)
 (.seq (.reg [zD 33 .eql 3 25 2,zV 32 33])
 (.cond (.t 32)
 (.seq (.cut [3,4] (.reg [zF 34 80 3 4,zL 35 3 34,zo 36 (.conv 3 28 (.t 35)),zo 37 (.bin .shl 28 (.t 36) (.c (.i .u64 12))),zC 38 10 [.t 37],zS 31 4 38]))
 .ret)
 (.seq (.reg [zD 40 .eql 3 25 16,zV 39 40])
 (.cond (.t 39)
 (.seq (.cut [3,4,5] (.reg [zF 41 31 5 0,zL 42 28 41,zF 43 80 3 4,zL 44 3 43,zo 45 (.conv 3 28 (.t 44)),zB 46 .add 28 42 45,zC 47 10 [.t 46],zS 31 4 47]))
 .ret)
 (.seq (.reg [zD 49 .eql 3 25 41,zV 48 49])
 (.cond (.t 48)
 (.seq (.cut [4,5] (.reg [zL 50 31 5,zC 51 122 [.t 50],zS 31 4 51]))
 .ret)
 (.seq (.reg [zD 53 .eql 3 25 32,zV 52 53])
 (.cond (.t 52)
 (.seq (.cut [4,5,6] (.reg [zL 54 31 5,zF 55 31 5 0,zL 56 28 55,zF 57 31 6 0,zL 58 28 57,zB 59 .add 28 56 58,zC 60 63 [.t 54,.t 59],zS 31 4 60]))
 .ret)
 (.seq (.reg [zD 62 .eql 3 25 33,zV 61 62])
 (.cond (.t 61)
 (.seq (.cut [3,4,5] (.reg [zL 63 31 5,zF 64 31 5 0,zL 65 28 64,zF 66 80 3 4,zL 67 3 66,zo 68 (.conv 3 28 (.t 67)),zB 69 .add 28 65 68,zC 70 63 [.t 63,.t 69],zS 31 4 70]))
 .ret)
 (.seq (.reg [zD 72 .eql 3 25 34,zV 71 72])
 (.cond (.t 71)
 (.seq (.cut [4,5,6] (.reg [zL 73 31 5,zF 74 31 6 0,zL 75 28 74,zC 76 63 [.t 73,.t 75],zS 31 4 76]))
 .ret)
 (.seq (.reg [zD 78 .eql 3 25 35,zV 77 78])
 (.cond (.t 77)
 (.seq (.cut [4,5,6] (.reg [zL 79 31 5,zF 80 31 6 0,zL 81 28 80,zC 82 123 [.t 79,.t 81],zS 31 4 82]))
 .ret)
 (.seq (.reg [zD 84 .eql 3 25 36,zV 83 84])
 (.cut [1000000,2,3,4,5,6,7,8,25,83] (.cond (.t 83)
 (.seq (.cut [4,5,6] (.reg [zL 85 31 5,zF 86 31 6 0,zL 87 28 86,zC 88 124 [.t 85,.t 87],zS 31 4 88]))
 .ret)
 (.seq (.reg [zD 90 .eql 3 25 37,zV 89 90])
 (.cond (.t 89)
 (.seq (.cut [4,5,6] (.reg [zL 91 31 5,zF 92 31 6 0,zL 93 28 92,zC 94 125 [.t 91,.t 93],zS 31 4 94]))
 .ret)
 (.seq (.reg [zD 96 .eql 3 25 38,zV 95 96])
 (.cond (.t 95)
 (.seq (.cut [4,5,6] (.reg [zL 97 31 5,zL 98 31 6,zC 99 126 [.t 97,.t 98],zS 31 4 99]))
 .ret)
 (.seq (.reg [zD 101 .eql 3 25 39,zV 100 101])
 (.cond (.t 100)
 (.seq (.cut [4,5,6] (.reg [zL 102 31 5,zL 103 31 6,zC 104 127 [.t 102,.t 103],zS 31 4 104]))
 .ret)
 (.seq (.reg [zD 106 .eql 3 25 40,zV 105 106])
 (.cond (.t 105)
 (.seq (.cut [4,5,6] (.reg [zL 107 31 6,zL 108 31 5,zC 109 128 [.t 107,.t 108],zS 31 4 109]))
 .ret)
 (.seq (.reg [zD 111 .eql 3 25 42,zV 110 111])
 (.cond (.t 110)
 (.seq (.cut [4,5] (.reg [zF 112 31 5 0,zL 113 28 112,zC 114 10 [.t 113],zS 31 4 114]))
 .ret)
 (.seq (.reg [zD 116 .eql 3 25 43,zV 115 116])
 (.cond (.t 115)
 (.seq (.cut [4,7] (.reg [zV 117 7,zC 118 10 [.t 117],zS 31 4 118]))
 .ret)
 (.seq (.reg [zD 120 .eql 3 25 44,zV 119 120])
 (.cond (.t 119)
 (.seq (.cut [4,7,8] (.reg [zV 121 8,zV 122 7,zo 123 (.conv 28 39 (.t 122)),zB 124 .sub 39 121 123,zo 125 (.mn false [.t 124,.c (.i .u64 4294967295)]),zo 126 (.conv 39 28 (.t 125)),zC 127 10 [.t 126],zS 31 4 127]))
 .ret)
 (.seq (.reg [zD 129 .eql 3 25 45,zV 128 129])
 (.cond (.t 128)
 (.seq (.cut [4,5] (.reg [zF 130 31 5 4,zL 131 29 130,zo 132 (.conv 29 28 (.t 131)),zC 133 10 [.t 132],zS 31 4 133]))
 .ret)
 (.seq (.reg [zD 135 .eql 3 25 46,zV 134 135])
 (.cut [1000000,2,3,4,5,25,134] (.cond (.t 134)
 (.seq (.cut [4,5] (.reg [zF 136 31 5 5,zL 137 29 136,zo 138 (.conv 29 28 (.t 137)),zC 139 10 [.t 138],zS 31 4 139]))
 .ret)
 (.seq (.reg [zD 141 .eql 3 25 47,zV 140 141])
 (.cond (.t 140)
 (.seq (.cut [4,5] (.reg [zF 142 31 5 7,zL 143 4 142,zC 144 129 [.t 143],zS 31 4 144]))
 .ret)
 (.seq (.reg [zD 146 .eql 3 25 48,zV 145 146])
 (.cond (.t 145)
 (.seq (.cut [4,5] (.reg [zL 147 31 5,zC 148 130 [.t 147],zC 149 129 [.t 148],zS 31 4 149]))
 .ret)
 (.seq (.reg [zD 151 .eql 3 25 49,zV 150 151])
 (.cond (.t 150)
 (.seq (.cut [2,3,4] (.reg [zL 152 37 2,zF 153 80 3 4,zL 154 3 153,zC 155 61 [.t 152,.t 154],zS 31 4 155]))
 .ret)
 .skip)))))))))))))))))))))))))))))))))))))))))))))))
 (.seq (.reg [zL 156 31 5,zS 31 4 156])
 .ret)))))
def F73:AF:=⟨157,[.cell 4 31],c73⟩
def c74:AC:=(.seq (.reg [zo 4 (.mv (.c (.b false)))])
 (.seq (.cut [0,1] (.reg [zV 5 0,zo 6 (.conv 28 39 (.t 5)),zV 7 1,zB 8 .leq 39 6 7,zV 9 8,gB 10 9 1,cu 11 9 (.bin .leq 39 (.t 10) (.c (.i .u64 4294967296))),zo 12 (.pick (.t 9) (.t 11) (.c (.b false))),zV 4 12]))
 .ret))
def F74:AF:=⟨13,[.t 4],c74⟩
def c75L0:AC:=(.seq (.reg [zD 9 .lss 3 8 21])
 (.seq (.cond (.t 9)
 .skip
 (.exit 0))
 (.seq (.blk 1
 (.seq (.reg [zV 10 8,zV 5 10])
 (.seq (.cut [0,1,5,8] (.reg [zV 12 0,zV 13 1,zV 14 5,zC 15 76 [.t 12,.t 13,.t 14],zV 11 15,zE 16 11 0,zE 17 11 1,zV 6 16,zV 7 17]))
 (.seq (.cut [0,1,5,6,7,8] (.reg [zV 18 7,zV 19 6,zB 20 .sub 39 18 19,zV 21 5,zo 22 (.bin .shl 39 (.c (.i .u64 2048)) (.t 21)),zB 23 .leq 39 20 22]))
 (.cond (.t 23)
 (.seq (.reg [zV 24 5,zV 4 24])
 .ret)
 .skip)))))
 (.reg [zD 25 .add 3 8 1,zV 8 25]))))
def c75:AC:=(.seq (.reg [zo 4 (.mv (.c (.i .i64 0)))])
 (.seq (.seq (.reg [zo 8 (.mv (.c (.i .i64 0)))])
 (.blk 0
 (.loop [0,1,8] c75L0)))
 (.seq (.reg [zo 4 (.mv (.c (.i .i64 21)))])
 .ret)))
def F75:AF:=⟨26,[.t 4],c75⟩
def c76:AC:=(.seq (.reg [zo 6 (.mv (.c (.i .u64 0))),zo 7 (.mv (.c (.i .u64 0)))])
 (.seq (.cut [0,1,2] (.reg [zV 9 2,zo 10 (.bin .shl 39 (.c (.i .u64 1)) (.t 9)),zo 11 (.bin .sub 39 (.t 10) (.c (.i .u64 1))),zV 8 11]))
 (.seq (.cut [0,1,8] (.reg [zV 12 0,zo 13 (.conv 28 39 (.t 12)),zV 14 8,zB 15 .andNot 39 13 14,zV 16 1,zV 17 8,zB 18 .add 39 16 17,zV 19 8,zB 20 .andNot 39 18 19,zV 6 15,zV 7 20]))
 .ret)))
def F76:AF:=⟨21,[.t 6,.t 7],c76⟩
def c79:AC:=(.seq (.reg [zo 2 (.mv (.c (.i .i64 0)))])
 (.seq (.seq (.reg [zV 3 0,zo 4 (.bin .eql 93 (.t 3) (.c (.p0)))])
 (.cond (.t 4)
 (.seq (.reg [zo 2 (.mv (.c (.i .i64 0)))])
 .ret)
 .skip))
 (.seq (.cut [0] (.reg [zV 5 0,zN 6 5,zF 7 152 6 0,zL 8 3 7,zV 2 8]))
 .ret)))
def F79:AF:=⟨9,[.t 2],c79⟩
def c80:AC:=(.seq (.reg [zo 1 (.box 51 (.t 0)),zo 2 (.mv (.c (.fn0)))])
 (.seq (.reg [zo 3 (.vI (.func 131) [] [.t 1]),zV 2 3])
 .ret))
def F80:AF:=⟨4,[.t 2],c80⟩
def c81:AC:=(.seq (.reg [zo 4 (.mv (.c (.b false)))])
 (.seq (.cut [0,1] (.reg [zV 5 0,zV 6 1,zC 7 132 [.t 5,.t 6],zV 8 7,gB 9 8 0,cu 10 8 (.iP (.t 9)),cu 11 8 (.ku 152 (.t 10) 1),cu 12 8 (.load 150 (.t 11)),gB 13 8 1,cu 14 8 (.bin .quo 3 (.t 13) (.c (.i .i64 64))),cu 15 8 (.fC 150 (.t 12) (.t 14)),cu 16 8 (.load 39 (.t 15)),gB 17 8 1,cu 18 8 (.bin .rem 3 (.t 17) (.c (.i .i64 64))),cu 19 8 (.bin .shr 39 (.t 16) (.t 18)),cu 20 8 (.bin .and 39 (.t 19) (.c (.i .u64 1))),cu 21 8 (.bin .eql 39 (.t 20) (.c (.i .u64 1))),zo 22 (.pick (.t 8) (.t 21) (.c (.b false))),zV 4 22]))
 .ret))
def F81:AF:=⟨23,[.t 4],c81⟩
def c82:AC:=(.seq (.reg [zo 6 (.mv (.c (.b false)))])
 (.seq (.seq (.cut [0,1,2] (.reg [zV 8 0,zV 9 1,zC 10 132 [.t 8,.t 9],zo 11 (.un .not (.t 10))]))
 (.cond (.t 11)
 (.seq (.reg [zo 6 (.mv (.c (.b false)))])
 .ret)
 .skip))
 (.seq (.cut [0,1,2] (.reg [zV 12 1,zD 13 .rem 3 12 64,zo 14 (.bin .shl 39 (.c (.i .u64 1)) (.t 13)),zV 7 14]))
 (.seq (.seq (.reg [zV 15 2])
 (.cond (.t 15)
 (.cut [0,1,7] (.reg [zV 16 0,zN 17 16,zF 18 152 17 1,zL 19 150 18,zV 20 1,zD 21 .quo 3 20 64,zo 22 (.fC 150 (.t 19) (.t 21)),zL 23 39 22,zV 24 7,zB 25 .or 39 23 24,zo 26 (.fC 150 (.t 19) (.t 21)),zS 39 26 25]))
 (.cut [0,1,7] (.reg [zV 27 0,zN 28 27,zF 29 152 28 1,zL 30 150 29,zV 31 1,zD 32 .quo 3 31 64,zo 33 (.fC 150 (.t 30) (.t 32)),zL 34 39 33,zV 35 7,zB 36 .andNot 39 34 35,zo 37 (.fC 150 (.t 30) (.t 32)),zS 39 37 36]))))
 (.seq (.reg [zo 6 (.mv (.c (.b true)))])
 .ret)))))
def F82:AF:=⟨38,[.t 6],c82⟩
def c83:AC:=(.seq (.reg [zo 6 (.mv (.c (.i .i64 0)))])
 (.seq (.cut [0,1,2] (.reg [zV 9 1,zo 10 (.build 209 [(0,.t 9)]),zo 11 (.vI (.func 133) [.t 10] []),zo 7 (.alloc 206),zS 206 7 11]))
 (.seq (.reg [zo 8 (.alloc 3),zn (.store 3 (.t 8) (.c (.i .i64 0)))])
 (.seq (.cut [0,2,7,8] (.reg [zV 12 2,zV 13 0,zo 14 (.vI (.func 134) [] [.t 7,.t 8]),zo 15 (.call (.t 12) [.t 13,.t 14])]))
 (.seq (.reg [zL 16 3 8,zV 6 16])
 .ret)))))
def F83:AF:=⟨17,[.t 6],c83⟩
def c86:AC:=(.seq (.reg [zo 2 (.mv (.c (.sl0)))])
 (.seq (.seq (.reg [zV 3 0,zo 4 (.bin .eql 59 (.t 3) (.c (.sl0)))])
 (.cond (.t 4)
 (.seq (.reg [zo 2 (.mv (.c (.sl0)))])
 .ret)
 .skip))
 (.seq (.cut [0] (.reg [zo 5 (.vH 59 0 []),zV 6 0,zo 7 (.app 59 false (.t 5) (.t 6)),zV 2 7]))
 .ret)))
def F86:AF:=⟨8,[.t 2],c86⟩
def c87:AC:=(.seq (.reg [zo 4 (.mv (.c (.s []))),zo 5 (.mv (.c (.b false)))])
 (.seq (.seq (.cut [0,1] (.reg [zV 6 0,zV 7 1,zC 8 137 [.t 6,.t 7],zo 9 (.un .not (.t 8))]))
 (.cond (.t 9)
 (.seq (.cut [0] (.reg [zV 10 0,zV 4 10,zo 5 (.mv (.c (.b false)))]))
 .ret)
 .skip))
 (.seq (.cut [0,1] (.reg [zV 11 0,zV 12 0,zo 13 (.len 9 (.t 12)),zV 14 1,zo 15 (.len 9 (.t 14)),zB 16 .sub 3 13 15,zo 17 (.slc 9 (.t 11) none (some (.t 16))),zV 4 17,zo 5 (.mv (.c (.b true)))]))
 .ret)))
def F87:AF:=⟨18,[.t 4,.t 5],c87⟩
def c88:AC:=(.seq (.reg [zo 4 (.mv (.c (.s [])))])
 (.seq (.seq (.cut [0,1] (.reg [zV 7 0,zo 8 (.bin .eql 9 (.t 7) (.c (.s []))),zV 9 8,jK 10 9 1,dX 11 9 (.bin .eql 9 (.t 10) (.c (.s []))),zo 12 (.pick (.t 9) (.c (.b true)) (.t 11))]))
 (.cond (.t 12)
 (.seq (.reg [zV 13 0,zV 4 13])
 .ret)
 .skip))
 (.seq (.seq (.cut [0,1] (.reg [zV 14 1,zo 15 (.len 9 (.t 14)),zD 16 .eql 3 15 1,zV 17 16,gB 18 17 1,cu 19 17 (.idx 9 (.t 18) (.c (.i .i64 0))),cu 20 17 (.bin .lss 5 (.t 19) (.c (.i .u8 128))),zo 21 (.pick (.t 17) (.t 20) (.c (.b false)))]))
 (.cond (.t 21)
 (.seq (.cut [0,1] (.j_ [(zV 22 0,[]),(zV 23 1,[]),(zo 24 (.idx 9 (.t 23) (.c (.i .i64 0))),[]),(zV 26 1,[]),(zo 27 (.idx 9 (.t 26) (.c (.i .i64 0))),[]),(zC 25 139 [.t 22,.t 24],[]),(zC 28 138 [.t 25,.t 27],[]),(zV 4 28,[])]))
 .ret)
 .skip))
 (.cut [1000000,0,1] (.seq (.seq (.cut [0,1] (.reg [zV 30 1,zC 31 140 [.t 30],zV 29 31,zE 32 29 0,zE 33 29 1,zo 5 (.alloc 214),zS 214 5 32,zV 6 33]))
 (.seq (.reg [zV 34 6])
 (.cond (.t 34)
 (.seq (.cut [0,5] (.reg [zV 35 0,zC 36 142 [.t 35,.t 5],zC 37 141 [.t 36,.t 5],zV 4 37]))
 .ret)
 .skip)))
 (.seq (.cut [0,1] (.reg [zV 38 0,zV 39 1,zC 40 144 [.t 38,.t 39],zV 41 1,zC 42 143 [.t 40,.t 41],zV 4 42]))
 .ret))))))
def F88:AF:=⟨43,[.t 4],c88⟩
def c89:AC:=(.seq (.reg [zo 4 (.mv (.c (.b false)))])
 (.seq (.cut [0,1] (.reg [zV 5 0,zV 6 1,zC 7 145 [.t 5,.t 6],zD 8 .geq 3 7 0,zV 4 8]))
 .ret))
def F89:AF:=⟨9,[.t 4],c89⟩
def c90:AC:=(.seq (.reg [zo 2 (.mv (.c (.i .i64 0))),zo 3 (.mv (.c (.b false)))])
 (.seq (.cut [0] (.reg [zV 7 0,zC 8 146 [.t 7,.c (.i .i64 10),.c (.i .i64 64)],zV 6 8,zE 9 6 0,zE 10 6 1,zV 4 9,zV 5 10]))
 (.seq (.cut [0,4,5] (.reg [zV 11 4,zV 12 5,zo 13 (.bin .eql 66 (.t 12) (.c (.gK))),zV 14 13,gB 15 14 4,cu 16 14 (.call (.c (.fn (.func 147) [] [])) [.t 15,.c (.i .i64 10)]),gB 17 14 0,cu 18 14 (.bin .eql 9 (.t 16) (.t 17)),zo 19 (.pick (.t 14) (.t 18) (.c (.b false))),zV 2 11,zV 3 19]))
 .ret)))
def F90:AF:=⟨20,[.t 2,.t 3],c90⟩
def c91L0:AC:=(.seq (.reg [zD 7 .lss 3 6 54])
 (.seq (.cond (.t 7)
 .skip
 (.exit 0))
 (.seq (.blk 1
 (.seq (.cut [0,5,6] (.reg [zV 8 6,zo 9 (.idx 225 (.t 5) (.t 6)),zo 4 (.alloc 224),zV 3 8,zS 224 4 9]))
 (.seq (.cut [0,3,4,5,6] (.reg [zF 10 224 4 0,zL 11 9 10,zV 12 0,zB 13 .eql 9 11 12,zV 14 13,gB 15 14 0,cu 16 14 (.bin .neq 9 (.t 15) (.c (.s []))),zo 17 (.pick (.t 14) (.t 16) (.c (.b false)))]))
 (.cond (.t 17)
 (.seq (.reg [zV 18 3,zV 2 18])
 .ret)
 .skip))))
 (.reg [zD 19 .add 3 6 1,zV 6 19]))))
def c91:AC:=(.seq (.reg [zo 2 (.mv (.c (.i .i64 0)))])
 (.seq (.seq (.reg [zo 5 (.load 225 (.c (.p 0 0 0))),zo 6 (.mv (.c (.i .i64 0)))])
 (.blk 0
 (.loop [0,5,6] c91L0)))
 (.seq (.reg [zo 2 (.mv (.c (.i .i64 0)))])
 .ret)))
def F91:AF:=⟨20,[.t 2],c91⟩
def c92:AC:=(.seq (.reg [zo 2 (.mv (.c (.s [])))])
 (.seq (.cut [0] (.reg [zV 3 0,zC 4 148 [.t 3],zo 5 (.Jg 224 (.t 4) 1),zV 2 5]))
 .ret))
def F92:AF:=⟨6,[.t 2],c92⟩
def c93:AC:=(.seq (.reg [zo 2 (.mv (.c (.i .i64 0))),zo 3 (.mv (.c (.b false)))])
 (.seq (.cut [0] (.reg [zV 7 0,zC 8 149 [.t 7,.c (.s [99])],zC 9 90 [.t 8],zV 6 9,zE 10 6 0,zE 11 6 1,zV 4 10,zV 5 11]))
 (.seq (.cut [0,4,5] (.reg [zV 12 4,zV 13 5,zV 14 13,gB 15 14 0,cu 16 14 (.call (.c (.fn (.func 150) [] [])) [.t 15,.c (.s [99])]),zo 17 (.pick (.t 14) (.t 16) (.c (.b false))),zV 18 17,gB 19 18 4,cu 20 18 (.bin .geq 3 (.t 19) (.c (.i .i64 0))),zo 21 (.pick (.t 18) (.t 20) (.c (.b false))),zV 22 21,gB 23 22 4,cu 24 22 (.bin .lss 3 (.t 23) (.c (.i .i64 16))),zo 25 (.pick (.t 22) (.t 24) (.c (.b false))),zV 2 12,zV 3 25]))
 .ret)))
def F93:AF:=⟨26,[.t 2,.t 3],c93⟩
def c94:AC:=(.seq (.reg [zo 2 (.mv (.c (.b false)))])
 (.seq (.seq (.reg [zV 3 0])
 (.blk 0
 (.seq (.seq (.reg [zD 5 .eql 3 3 25,zV 4 5])
 (.cond (.t 4)
 .skip
 (.seq (.reg [zD 6 .eql 3 3 26,zV 4 6])
 (.cond (.t 4)
 .skip
 (.seq (.reg [zD 7 .eql 3 3 27,zV 4 7])
 (.cond (.t 4)
 .skip
 (.seq (.reg [zD 8 .eql 3 3 28,zV 4 8])
 (.cond (.t 4)
 .skip
 (.reg [zD 9 .eql 3 3 29,zV 4 9])))))))))
 (.cut [1000000,4] (.cond (.t 4)
 (.seq (.reg [zo 2 (.mv (.c (.b true)))])
 .ret)
 .skip)))))
 (.seq (.reg [zo 2 (.mv (.c (.b false)))])
 .ret)))
def F94:AF:=⟨10,[.t 2],c94⟩
def c95L0:AC:=(.seq (.seq (.cut [0,1,2,3,9,10] (.reg [zV 34 10,zV 35 3,zB 36 .lss 3 34 35]))
 (.cond (.t 36)
 .skip
 (.exit 0)))
 (.blk 1
 (.seq (.cut [0,1,2,3,9,10] (.reg [zV 37 0,zV 38 1,zC 39 145 [.t 37,.t 38],zV 11 39]))
 (.seq (.seq (.reg [zV 40 11,zD 41 .lss 3 40 0])
 (.cond (.t 41)
 (.exit 0)
 .skip))
 (.seq (.cut [0,1,2,3,9,10,11] (.reg [zV 42 9,zV 43 10,zV 44 0,zV 45 11,zV 46 2,zB 47 .add 3 45 46,zo 48 (.slc 9 (.t 44) none (some (.t 47))),zo 49 (.fC 107 (.t 42) (.t 43)),zS 9 49 48]))
 (.seq (.cut [0,1,2,3,9,10,11] (.reg [zV 50 0,zV 51 11,zV 52 1,zo 53 (.len 9 (.t 52)),zB 54 .add 3 51 53,zo 55 (.slc 9 (.t 50) (some (.t 54)) none),zV 0 55]))
 (.cut [0,1,2,3,9,10] (.reg [zV 56 10,zD 57 .add 3 56 1,zV 10 57]))))))))
def c95:AC:=(.seq (.reg [zo 8 (.mv (.c (.sl0)))])
 (.seq (.seq (.reg [zV 12 3,zD 13 .eql 3 12 0])
 (.cond (.t 13)
 (.seq (.reg [zo 8 (.mv (.c (.sl0)))])
 .ret)
 .skip))
 (.seq (.seq (.reg [zV 14 1,zo 15 (.bin .eql 9 (.t 14) (.c (.s [])))])
 (.cond (.t 15)
 (.seq (.cut [0,3] (.reg [zV 16 0,zV 17 3,zC 18 151 [.t 16,.t 17],zV 8 18]))
 .ret)
 .skip))
 (.seq (.seq (.reg [zV 19 3,zD 20 .lss 3 19 0])
 (.cond (.t 20)
 (.cut [0,1,2] (.reg [zV 21 0,zV 22 1,zC 23 152 [.t 21,.t 22],zD 24 .add 3 23 1,zV 3 24]))
 .skip))
 (.cut [1000000,0,1,2,3] (.seq (.cut [0,1,2,3] (.reg [zV 25 3,zV 26 0,zo 27 (.len 9 (.t 26)),zD 28 .add 3 27 1,zo 29 (.mn false [.t 25,.t 28]),zV 3 29]))
 (.seq (.cut [0,1,2,3] (.reg [zV 30 3,zo 31 (.Jf 107 (.t 30) (.t 30)),zV 9 31]))
 (.seq (.cut [0,1,2,3,9] (.reg [zV 32 3,zD 33 .sub 3 32 1,zV 3 33]))
 (.seq (.reg [zo 10 (.mv (.c (.i .i64 0)))])
 (.seq (.blk 0
 (.loop [0,1,2,3,9,10] c95L0))
 (.cut [1000000,0,9,10] (.seq (.cut [0,9,10] (.reg [zV 58 9,zV 59 10,zV 60 0,zo 61 (.fC 107 (.t 58) (.t 59)),zS 9 61 60]))
 (.seq (.cut [9,10] (.reg [zV 62 9,zV 63 10,zD 64 .add 3 63 1,zo 65 (.slc 107 (.t 62) none (some (.t 64))),zV 8 65]))
 .ret)))))))))))))
def F95:AF:=⟨66,[.t 8],c95⟩
def c96:AC:=(.seq (.cut [0,1] (.reg [zo 4 (.mv (.c (.s []))),zo 5 (.mv (.c (.s []))),zo 6 (.mv (.c (.b false)))]))
 (.seq (.seq (.cut [0,1] (.reg [zV 8 0,zV 9 1,zC 10 153 [.t 8,.t 9],zV 7 10]))
 (.seq (.reg [zV 11 7,zD 12 .geq 3 11 0])
 (.cond (.t 12)
 (.seq (.cut [0,1,7] (.j_ [(zV 13 0,[]),(zV 14 7,[]),(zo 15 (.slc 9 (.t 13) none (some (.t 14))),[]),(zV 16 0,[]),(zV 17 7,[]),(zV 18 1,[]),(zo 19 (.len 9 (.t 18)),[]),(zB 20 .add 3 17 19,[]),(zo 21 (.slc 9 (.t 16) (some (.t 20)) none),[]),(zV 4 15,[]),(zV 5 21,[]),(zo 6 (.mv (.c (.b true))),[])]))
 .ret)
 .skip)))
 (.seq (.cut [0] (.reg [zV 22 0,zV 4 22,zo 5 (.mv (.c (.s []))),zo 6 (.mv (.c (.b false)))]))
 .ret)))
def F96:AF:=⟨23,[.t 4,.t 5,.t 6],c96⟩
def c97L0:AC:=(.seq (.reg [zo 15 (.G8 (.t 14)),zE 16 15 0])
 (.seq (.cond (.t 16)
 .skip
 (.exit 0))
 (.blk 1
 (.seq (.cut [0,1,5,6,14,15] (.reg [zE 17 15 1,zE 18 15 2,zV 7 17,zV 8 18]))
 (.seq (.cut [0,1,5,6,7,8,14] (.reg [zV 19 1,zV 20 8,zo 21 (.call (.t 19) [.t 20])]))
 (.cond (.t 21)
 (.seq (.reg [zV 22 6,zD 23 .geq 3 22 0])
 (.cond (.t 23)
 (.seq (.cut [0,1,5,6,7,14] (.reg [zV 24 5,zV 25 6,zV 26 7,zo 27 (.build 230 [(0,.t 25),(1,.t 26)]),zo 28 (.vH 228 1 [(0,.t 27)]),zo 29 (.app 228 false (.t 24) (.t 28)),zV 5 29]))
 (.cut [0,1,5,6,14] (.reg [zV 30 6,zo 31 (.un .xor (.t 30)),zV 6 31])))
 .skip))
 (.seq (.reg [zV 32 6,zD 33 .lss 3 32 0])
 (.cond (.t 33)
 (.reg [zV 34 7,zV 6 34])
 .skip))))))))
def c97L1:AC:=(.seq (.reg [zB 50 .lss 3 49 48])
 (.seq (.cond (.t 50)
 .skip
 (.exit 2))
 (.seq (.blk 3
 (.seq (.cut [0,9,47,48,49] (.reg [zV 51 49,zo 52 (.fC 228 (.t 47) (.t 49)),zL 53 230 52,zo 11 (.alloc 230),zV 10 51,zS 230 11 53]))
 (.cut [0,9,10,11,47,48,49] (.reg [zV 54 9,zV 55 10,zV 56 0,zF 57 230 11 0,zL 58 3 57,zF 59 230 11 1,zL 60 3 59,zo 61 (.slc 9 (.t 56) (some (.t 58)) (some (.t 60))),zo 62 (.fC 107 (.t 54) (.t 55)),zS 9 62 61]))))
 (.reg [zD 63 .add 3 49 1,zV 49 63]))))
def c97:AC:=(.seq (.reg [zo 4 (.mv (.c (.sl0)))])
 (.seq (.reg [zo 12 (.Jf 228 (.c (.i .i64 0)) (.c (.i .i64 32))),zV 5 12])
 (.seq (.reg [zo 6 (.mv (.c (.i .i64 (-1))))])
 (.seq (.seq (.reg [zV 13 0,zo 14 (.rng 9 (.t 13))])
 (.blk 0
 (.loop [0,1,5,6,14] c97L0)))
 (.seq (.seq (.reg [zV 35 6,zD 36 .geq 3 35 0])
 (.cond (.t 36)
 (.cut [0,5,6] (.reg [zV 37 5,zV 38 6,zV 39 0,zo 40 (.len 9 (.t 39)),zo 41 (.build 230 [(0,.t 38),(1,.t 40)]),zo 42 (.vH 228 1 [(0,.t 41)]),zo 43 (.app 228 false (.t 37) (.t 42)),zV 5 43]))
 .skip))
 (.cut [1000000,0,5] (.seq (.cut [0,5] (.reg [zV 44 5,zo 45 (.len 228 (.t 44)),zo 46 (.Jf 107 (.t 45) (.t 45)),zV 9 46]))
 (.seq (.seq (.cut [0,5,9] (.reg [zV 47 5,zo 48 (.len 228 (.t 47)),zo 49 (.mv (.c (.i .i64 0)))]))
 (.blk 2
 (.loop [0,9,47,48,49] c97L1)))
 (.seq (.reg [zV 64 9,zV 4 64])
 .ret)))))))))
def F97:AF:=⟨65,[.t 4],c97⟩
def c98:AC:=(.seq (.reg [zo 2 (.mv (.c (.b false)))])
 (.seq (.cut [0] (.reg [zV 3 0,zo 4 (.bin .eql 21 (.t 3) (.c (.i .i32 32))),zV 2 4]))
 .ret))
def F98:AF:=⟨5,[.t 2],c98⟩
def c99:AC:=(.seq (.reg [zo 2 (.mv (.c (.s [])))])
 (.seq (.cut [0] (.reg [zV 3 0,zC 4 148 [.t 3],zo 5 (.Jg 224 (.t 4) 0),zV 2 5]))
 .ret))
def F99:AF:=⟨6,[.t 2],c99⟩
def c100:AC:=(.seq (.cut [0,1,2,3,4,5] (.j_ [(zV 12 2,[]),(zo 13 (.bin .shl 3 (.c (.i .i64 1)) (.t 12)),[]),(zo 10 (.mv (.c (.i .i64 0))),[]),(zV 11 13,[])]))
 (.seq (.seq (.reg [zV 14 3])
 (.cond (.t 14)
 (.cut [0,1,2,4,5] (.j_ [(zV 15 2,[]),(zD 16 .sub 3 15 1,[]),(zo 17 (.bin .shl 3 (.c (.i .i64 (-1))) (.t 16)),[]),(zV 18 2,[]),(zD 19 .sub 3 18 1,[]),(zo 20 (.bin .shl 3 (.c (.i .i64 1)) (.t 19)),[]),(zV 10 17,[]),(zV 11 20,[])]))
 .skip))
 (.cut [1000000,0,1,2,4,5,10,11] (.seq (.cut [0,1,2,4,5,10,11] (.reg [zL 21 4 4,zV 22 21,jK 23 22 0,dX 24 22 (.iP (.t 23)),dX 25 22 (.load 3 (.t 24)),jK 26 22 10,dX 27 22 (.bin .lss 3 (.t 25) (.t 26)),zo 28 (.pick (.t 22) (.c (.b true)) (.t 27)),zV 29 28,jK 30 29 0,dX 31 29 (.iP (.t 30)),dX 32 29 (.load 3 (.t 31)),jK 33 29 11,dX 34 29 (.bin .geq 3 (.t 32) (.t 33)),zo 35 (.pick (.t 29) (.c (.b true)) (.t 34)),zS 4 4 35]))
 (.seq (.cut [0,1,2,5] (.j_ [(zL 36 28 5,[]),(zV 37 0,[]),(zN 38 37,[]),(zL 39 3 38,[]),(zo 40 (.qQ true 3 28 (.t 39)),[]),(zV 41 2,[]),(zo 42 (.bin .shl 28 (.c (.i .u32 1)) (.t 41)),[]),(zo 43 (.bin .sub 28 (.t 42) (.c (.i .u32 1))),[]),(zB 44 .and 28 40 43,[]),(zV 45 1,[]),(zB 46 .shl 28 44 45,[]),(zB 47 .or 28 36 46,[]),(zS 28 5 47,[])]))
 (.cut [0] (.reg [zV 48 0,zN 49 48,zn (.store 3 (.t 49) (.c (.i .i64 0)))])))))))
def JH:AF:=⟨50,[],c100⟩
def c101:AC:=(.seq (.reg [zo 2 (.mv (.c (.b false)))])
 (.seq (.cut [0] (.reg [zV 3 0,zD 4 .eql 3 3 1,zV 5 4,jK 6 5 0,dX 7 5 (.bin .eql 3 (.t 6) (.c (.i .i64 2))),zo 8 (.pick (.t 5) (.c (.b true)) (.t 7)),zV 9 8,jK 10 9 0,dX 11 9 (.bin .eql 3 (.t 10) (.c (.i .i64 4))),zo 12 (.pick (.t 9) (.c (.b true)) (.t 11)),zV 2 12]))
 .ret))
def Mc:AF:=⟨13,[.t 2],c101⟩
def c102L0:AC:=(.seq (.reg [zB 27 .lss 3 26 25])
 (.seq (.cond (.t 27)
 .skip
 (.exit 0))
 (.seq (.blk 1
 (.seq (.reg [zV 28 26,zV 9 28])
 (.cut [0,1,3,9,25,26] (.reg [zV 29 0,zV 30 1,zV 31 9,zB 32 .add 3 30 31,zV 33 3,zV 34 9,zo 35 (.bin .mul 3 (.c (.i .i64 8)) (.t 34)),zB 36 .shr 28 33 35,zo 37 (.conv 28 5 (.t 36)),zo 38 (.fC 45 (.t 29) (.t 32)),zS 5 38 37]))))
 (.reg [zD 39 .add 3 26 1,zV 26 39]))))
def c102:AC:=(.seq (.reg [zo 8 (.mv (.c (.b false)))])
 (.seq (.seq (.cut [0,1,2,3] (.reg [zV 10 2,zC 11 101 [.t 10],zo 12 (.un .not (.t 11)),zV 13 12,jK 14 13 1,dX 15 13 (.bin .lss 3 (.t 14) (.c (.i .i64 0))),zo 16 (.pick (.t 13) (.c (.b true)) (.t 15)),zV 17 16,jK 18 17 1,jK 19 17 0,dX 20 17 (.len 45 (.t 19)),jK 21 17 2,dX 22 17 (.bin .sub 3 (.t 20) (.t 21)),dX 23 17 (.bin .gtr 3 (.t 18) (.t 22)),zo 24 (.pick (.t 17) (.c (.b true)) (.t 23))]))
 (.cond (.t 24)
 (.seq (.reg [zo 8 (.mv (.c (.b false)))])
 .ret)
 .skip))
 (.seq (.seq (.reg [zV 25 2,zo 26 (.mv (.c (.i .i64 0)))])
 (.blk 0
 (.loop [0,1,3,25,26] c102L0)))
 (.seq (.reg [zo 8 (.mv (.c (.b true)))])
 .ret))))
def JI:AF:=⟨40,[.t 8],c102⟩
def c103:AC:=(.seq (.reg [zo 6 (.mv (.c (.b false)))])
 (.seq (.cut [0,1,2] (.reg [zV 7 0,zC 8 154 [.t 7],zo 9 (.un .not (.t 8)),zV 10 9,gB 11 10 2,cu 12 10 (.bin .geq 3 (.t 11) (.c (.i .i64 0))),zo 13 (.pick (.t 10) (.t 12) (.c (.b false))),zV 14 13,gB 15 14 2,gB 16 14 0,cu 17 14 (.iP (.t 16)),cu 18 14 (.ku 103 (.t 17) 1),cu 19 14 (.load 45 (.t 18)),cu 20 14 (.len 45 (.t 19)),cu 21 14 (.bin .leq 3 (.t 15) (.t 20)),zo 22 (.pick (.t 14) (.t 21) (.c (.b false))),zV 23 22,gB 24 23 1,cu 25 23 (.conv 28 3 (.t 24)),gB 26 23 0,cu 27 23 (.iP (.t 26)),cu 28 23 (.ku 103 (.t 27) 1),cu 29 23 (.load 45 (.t 28)),cu 30 23 (.len 45 (.t 29)),gB 31 23 2,cu 32 23 (.bin .sub 3 (.t 30) (.t 31)),cu 33 23 (.bin .leq 3 (.t 25) (.t 32)),zo 34 (.pick (.t 23) (.t 33) (.c (.b false))),zV 6 34]))
 .ret))
def Md:AF:=⟨35,[.t 6],c103⟩
def c104L0:AC:=(.seq (.seq (.cut [0,1,2,7,8] (.reg [zV 22 8,zD 23 .mul 3 22 64,zV 24 2,zB 25 .lss 3 23 24]))
 (.cond (.t 25)
 .skip
 (.exit 0)))
 (.seq (.blk 1
 (.seq (.cut [0,1,2,7,8] (.reg [zV 28 0,zV 29 8,zV 30 1,zV 31 2,zC 32 156 [.t 28,.t 29,.t 30,.t 31],zV 9 32]))
 (.seq (.cut [0,1,2,7,8,9] (.reg [zV 33 7,zV 34 0,zN 35 34,zF 36 152 35 1,zL 37 150 36,zV 38 8,zo 39 (.fC 150 (.t 37) (.t 38)),zL 40 39 39,zV 41 9,zB 42 .and 39 40 41,zC 43 157 [.t 42],zB 44 .add 3 33 43,zV 7 44]))
 (.cut [0,1,2,7,8,9] (.reg [zV 45 0,zN 46 45,zF 47 152 46 1,zL 48 150 47,zV 49 8,zo 50 (.fC 150 (.t 48) (.t 49)),zL 51 39 50,zV 52 9,zB 53 .andNot 39 51 52,zo 54 (.fC 150 (.t 48) (.t 49)),zS 39 54 53])))))
 (.cut [0,1,2,7,8] (.reg [zV 26 8,zD 27 .add 3 26 1,zV 8 27]))))
def c104:AC:=(.seq (.reg [zo 6 (.mv (.c (.i .i64 0)))])
 (.seq (.cut [0,1,2] (.reg [zV 11 0,zV 12 1,zV 13 2,zC 14 155 [.t 11,.t 12,.t 13],zV 10 14,zE 15 10 0,zE 16 10 1,zV 1 15,zV 2 16]))
 (.seq (.seq (.cut [0,1,2] (.reg [zV 17 1,zV 18 2,zB 19 .geq 3 17 18]))
 (.cond (.t 19)
 (.seq (.reg [zo 6 (.mv (.c (.i .i64 0)))])
 .ret)
 .skip))
 (.seq (.reg [zo 7 (.mv (.c (.i .i64 0)))])
 (.seq (.seq (.cut [0,1,2,7] (.reg [zV 20 1,zD 21 .quo 3 20 64,zV 8 21]))
 (.blk 0
 (.loop [0,1,2,7,8] c104L0)))
 (.cut [1000000,7] (.seq (.reg [zV 55 7,zV 6 55])
 .ret)))))))
def F5:AF:=⟨56,[.t 6],c104⟩
def c105:AC:=(.seq (.cut [0,1] (.reg [zo 2 (.box 31 (.t 0)),zo 3 (.box 51 (.t 1)),zo 4 (.mv (.c (.b false)))]))
 (.seq (.cut [2,3] (.reg [zL 8 31 2,zC 9 121 [.t 8],zV 7 9,zE 10 7 0,zE 11 7 1,zV 5 10,zV 6 11]))
 (.seq (.cut [3,5,6] (.reg [zF 12 51 3 0,zL 13 28 12,zV 14 5,zB 15 .geq 28 13 14,zV 16 15,cu 17 16 (.load 51 (.t 3)),cu 18 16 (.call (.c (.fn (.func 37) [] [])) [.t 17]),gB 19 16 6,cu 20 16 (.bin .leq 39 (.t 18) (.t 19)),zo 21 (.pick (.t 16) (.t 20) (.c (.b false))),zV 4 21]))
 .ret)))
def Me:AF:=⟨22,[.t 4],c105⟩
def c106:AC:=(.seq (.reg [zo 2 (.mv (.c (.i .i64 0)))])
 (.seq (.seq (.reg [zV 3 0,zC 4 154 [.t 3]])
 (.cond (.t 4)
 (.seq (.reg [zo 2 (.mv (.c (.i .i64 0)))])
 .ret)
 .skip))
 (.seq (.cut [0] (.reg [zV 5 0,zN 6 5,zF 7 103 6 1,zL 8 45 7,zo 9 (.len 45 (.t 8)),zV 2 9]))
 .ret)))
def MB:AF:=⟨10,[.t 2],c106⟩
def c107:AC:=(.seq (.reg [zo 6 (.mv (.c (.i .u32 0))),zo 7 (.mv (.c (.b false)))])
 (.seq (.seq (.cut [0,1,2] (.reg [zV 10 2,zC 11 101 [.t 10],zo 12 (.un .not (.t 11)),zV 13 12,jK 14 13 1,dX 15 13 (.bin .lss 3 (.t 14) (.c (.i .i64 0))),zo 16 (.pick (.t 13) (.c (.b true)) (.t 15)),zV 17 16,jK 18 17 1,jK 19 17 0,dX 20 17 (.len 45 (.t 19)),jK 21 17 2,dX 22 17 (.bin .sub 3 (.t 20) (.t 21)),dX 23 17 (.bin .gtr 3 (.t 18) (.t 22)),zo 24 (.pick (.t 17) (.c (.b true)) (.t 23))]))
 (.cond (.t 24)
 (.seq (.reg [zo 6 (.mv (.c (.i .u32 0))),zo 7 (.mv (.c (.b false)))])
 .ret)
 .skip))
 (.seq (.cut [0,1,2] (.reg [zV 25 0,zV 26 1,zV 27 1,zV 28 2,zB 29 .add 3 27 28,zV 30 1,zV 31 2,zB 32 .add 3 30 31,zo 33 (.sl3 45 (.t 25) (some (.t 26)) (.t 29) (.t 32)),zV 8 33]))
 (.cut [1000000,2,8] (.seq (.reg [zo 9 (.mv (.c (.i .u32 0)))])
 (.seq (.seq (.reg [zV 34 2])
 (.blk 0
 (.seq (.blk 3
 (.seq (.blk 2
 (.seq (.blk 1
 (.seq (.seq (.seq (.reg [zD 36 .eql 3 34 4,zV 35 36])
 (.cond (.t 35)
 (.exit 1)
 .skip))
 (.seq (.reg [zD 38 .eql 3 34 2,zV 37 38])
 (.cond (.t 37)
 (.exit 2)
 .skip)))
 (.exit 3)))
 (.cut [8] (.j_ [(zV 39 8,[]),(zo 40 (.fC 45 (.t 39) (.c (.i .i64 3))),[]),(zL 41 5 40,[]),(zo 42 (.qQ true 5 28 (.t 41)),[]),(zo 43 (.bin .shl 28 (.t 42) (.c (.i .u64 24))),[]),(zV 44 8,[]),(zo 45 (.fC 45 (.t 44) (.c (.i .i64 2))),[]),(zL 46 5 45,[]),(zo 47 (.qQ true 5 28 (.t 46)),[]),(zo 48 (.bin .shl 28 (.t 47) (.c (.i .u64 16))),[]),(zB 49 .or 28 43 48,[]),(zV 9 49,[])]))))
 (.cut [1000000,8,9] (.cut [8,9] (.reg [zV 50 9,zV 51 8,zo 52 (.fC 45 (.t 51) (.c (.i .i64 1))),zL 53 5 52,zo 54 (.conv 5 28 (.t 53)),zo 55 (.bin .shl 28 (.t 54) (.c (.i .u64 8))),zB 56 .or 28 50 55,zV 9 56])))))
 (.cut [1000000,8,9] (.seq (.cut [8,9] (.reg [zV 57 9,zV 58 8,zo 59 (.fC 45 (.t 58) (.c (.i .i64 0))),zL 60 5 59,zo 61 (.conv 5 28 (.t 60)),zB 62 .or 28 57 61,zV 9 62]))
 (.exit 0))))))
 (.seq (.cut [9] (.reg [zV 63 9,zV 6 63,zo 7 (.mv (.c (.b true)))]))
 .ret)))))))
def DW:AF:=⟨64,[.t 6,.t 7],c107⟩
def c108:AC:=(.seq (.reg [zo 5 (.mv (.c (.i .i64 0)))])
 (.seq (.cut [0,1,2] (.j_ [(zL 6 28 2,[]),(zV 7 0,[]),(zB 8 .shr 28 6 7,[]),(zV 9 1,[]),(zo 10 (.bin .shl 28 (.c (.i .u32 1)) (.t 9)),[]),(zo 11 (.bin .sub 28 (.t 10) (.c (.i .u32 1))),[]),(zB 12 .and 28 8 11,[]),(zo 13 (.qQ true 28 3 (.t 12)),[]),(zV 5 13,[])]))
 .ret))
def MC:AF:=⟨14,[.t 5],c108⟩
def c109:AC:=(.seq (.reg [zo 3 (.mv (.c (.i .i64 0)))])
 (.seq (.cut [0,1] (.j_ [(zL 4 184 1,[]),(zV 5 0,[]),(zL 7 184 1,[]),(zV 8 0,[]),(zD 9 .sub 3 8 1,[]),(zV 11 0,[]),(zo 6 (.call (.t 4) [.c (.i .i64 0),.t 5]),[zL 7 184 1]),(zo 10 (.call (.t 7) [.t 9,.c (.i .i64 1)]),[]),(zB 12 .shl 3 10 11,[]),(zB 13 .sub 3 6 12,[]),(zV 3 13,[])]))
 .ret))
def MF:AF:=⟨14,[.t 3],c109⟩
def c110:AC:=(.seq (.reg [zo 1 (.box 189 (.t 0)),zo 2 (.mv (.c (.b false)))])
 (.seq (.cut [1] (.reg [zF 3 189 1 0,zF 4 31 3 7,zL 5 4 4,zV 6 5,cu 7 6 (.ku 189 (.t 1) 0),cu 8 6 (.ku 31 (.t 7) 5),cu 9 6 (.load 29 (.t 8)),cu 10 6 (.bin .eql 29 (.t 9) (.c (.i .u16 0))),zo 11 (.pick (.t 6) (.t 10) (.c (.b false))),zV 2 11]))
 .ret))
def MG:AF:=⟨12,[.t 2],c110⟩
def c111L0:AC:=(.seq (.reg [zB 11 .lss 3 10 9])
 (.seq (.cond (.t 11)
 .skip
 (.exit 0))
 (.seq (.blk 1
 (.seq (.cut [2,4,8,9,10] (.reg [zo 12 (.fC 235 (.t 8) (.t 10)),zL 13 26 12,zV 6 13]))
 (.cut [2,4,6,8,9,10] (.reg [zF 14 31 2 7,zL 15 4 14,zV 16 15,gB 17 16 6,cu 18 16 (.call (.t 17) []),zo 19 (.pick (.t 16) (.t 18) (.c (.b false))),zF 20 31 2 7,zS 4 20 19]))))
 (.reg [zD 21 .add 3 10 1,zV 10 21]))))
def c111:AC:=(.seq (.reg [zo 2 (.box 31 (.t 0)),zo 4 (.alloc 31)])
 (.seq (.reg [zF 7 31 2 7,zn (.store 4 (.t 7) (.c (.b true)))])
 (.seq (.seq (.cut [1,2,4] (.reg [zV 8 1,zo 9 (.len 235 (.t 8)),zo 10 (.mv (.c (.i .i64 0)))]))
 (.blk 0
 (.loop [2,4,8,9,10] c111L0)))
 (.seq (.reg [zL 22 31 2,zS 31 4 22])
 .ret))))
def JJ:AF:=⟨23,[.cell 4 31],c111⟩
def c112:AC:=(.seq (.reg [zo 2 (.mv (.c (.b false)))])
 (.seq (.cut [0,1] (.reg [zL 3 187 0,zL 4 31 1,zo 5 (.build 189 [(0,.t 4)]),zo 6 (.call (.t 3) [.t 5]),zV 2 6]))
 .ret))
def MH:AF:=⟨7,[.t 2],c112⟩
def c113:AC:=(.seq (.reg [zo 2 (.mv (.c (.b false)))])
 (.seq (.cut [0,1] (.reg [zF 3 31 0 1,zL 4 5 3,zF 5 31 0 2,zL 6 29 5,zF 7 31 0 3,zL 8 29 7,zF 9 31 0 0,zL 10 28 9,zL 11 28 1,zC 12 114 [.t 4,.t 6,.t 8,.t 10,.t 11],zV 2 12]))
 .ret))
def MI:AF:=⟨13,[.t 2],c113⟩
def c114:AC:=(.seq (.reg [zo 10 (.mv (.c (.b false)))])
 (.seq (.cut [0,1,2,3,4] (.reg [zV 16 0,zV 17 1,zV 18 2,zV 19 3,zC 20 158 [.t 16,.t 17,.t 18,.t 19],zV 15 20,zE 21 15 0,zE 22 15 1,zo 11 (.alloc 236),zS 236 11 21,zV 12 22]))
 (.seq (.cut [0,1,2,4,11,12] (.reg [zV 24 0,zV 25 1,zV 26 2,zV 27 4,zC 28 158 [.t 24,.t 25,.t 26,.t 27],zV 23 28,zE 29 23 0,zE 30 23 1,zo 13 (.alloc 236),zS 236 13 29,zV 14 30]))
 (.seq (.cut [11,12,13] (.reg [zV 31 12,zV 32 31,cu 33 32 (.load 236 (.t 11)),cu 34 32 (.load 236 (.t 13)),cu 35 32 (.bin .eql 236 (.t 33) (.t 34)),zo 36 (.pick (.t 32) (.t 35) (.c (.b false))),zV 10 36]))
 .ret))))
def MJ:AF:=⟨37,[.t 10],c114⟩
def c115L0:AC:=(.seq (.reg [zB 9 .lss 3 8 7])
 (.seq (.cond (.t 9)
 .skip
 (.exit 0))
 (.seq (.blk 1
 (.seq (.cut [3,6,7,8] (.reg [zo 10 (.fC 239 (.t 6) (.t 8)),zL 11 29 10,zV 5 11]))
 (.cut [3,5,6,7,8] (.reg [zV 12 3,zV 13 5,zB 14 .or 29 12 13,zV 3 14]))))
 (.reg [zD 15 .add 3 8 1,zV 8 15]))))
def c115:AC:=(.seq (.reg [zo 2 (.mv (.c (.i .u16 0)))])
 (.seq (.reg [zo 3 (.mv (.c (.i .u16 0)))])
 (.seq (.seq (.cut [0,3] (.reg [zV 6 0,zo 7 (.len 239 (.t 6)),zo 8 (.mv (.c (.i .i64 0)))]))
 (.blk 0
 (.loop [3,6,7,8] c115L0)))
 (.seq (.reg [zV 16 3,zV 2 16])
 .ret))))
def JK:AF:=⟨17,[.t 2],c115⟩
def c116:AC:=(.seq (.reg [zo 5 (.box 31 (.t 2)),zo 6 (.mv (.c (.b false)))])
 (.seq (.seq (.cut [0,1,5] (.reg [zV 7 0,zV 8 1,zC 9 159 [.t 7,.t 8],zo 10 (.un .not (.t 9))]))
 (.cond (.t 10)
 (.seq (.reg [zo 6 (.mv (.c (.b false)))])
 .ret)
 .skip))
 (.seq (.cut [0,1,5] (.reg [zV 11 0,zV 12 1,zL 13 31 5,zC 14 161 [.t 13],zC 15 160 [.t 11,.t 12,.t 14]]))
 (.seq (.cut [0,1,5] (.j_ [(zV 16 0,[]),(zN 17 16,[]),(zF 18 103 17 0,[]),(zL 19 93 18,[]),(zV 20 1,[]),(zo 21 (.qQ true 28 3 (.t 20)),[]),(zD 22 .quo 3 21 16,[]),(zF 23 31 5 7,[]),(zL 24 4 23,[]),(zV 25 24,[]),(cu 26 25 (.load 31 (.t 5)),[]),(cu 27 25 (.call (.c (.fn (.func 162) [] [])) [.t 26]),[zL 19 93 18]),(zo 28 (.pick (.t 25) (.t 27) (.c (.b false))),[]),(zC 29 82 [.t 19,.t 22,.t 28],[]),(zV 6 29,[])]))
 .ret))))
def MK:AF:=⟨30,[.t 6],c116⟩
def c117:AC:=(.seq (.reg [zo 4 (.alloc 31),zo 5 (.mv (.c (.b false)))])
 (.seq (.seq (.cut [0,1,4] (.reg [zV 6 0,zV 7 1,zC 8 159 [.t 6,.t 7],zo 9 (.un .not (.t 8))]))
 (.cond (.t 9)
 (.seq (.cut [4] (.reg [zo 10 (.build 31 []),zS 31 4 10,zo 5 (.mv (.c (.b false)))]))
 .ret)
 .skip))
 (.seq (.cut [0,1,4] (.j_ [(zV 11 0,[]),(zN 12 11,[]),(zF 13 103 12 1,[]),(zL 14 45 13,[]),(zV 15 1,[]),(zV 16 1,[]),(zo 17 (.bin .add 28 (.t 16) (.c (.i .u32 16))),[]),(zo 18 (.slc 45 (.t 14) (some (.t 15)) (some (.t 17))),[]),(zo 19 (.qQ false 45 9 (.t 18)),[]),(zV 20 0,[]),(zN 21 20,[]),(zF 22 103 21 0,[]),(zL 23 93 22,[]),(zV 24 1,[]),(zo 25 (.qQ true 28 3 (.t 24)),[]),(zD 26 .quo 3 25 16,[]),(zC 27 81 [.t 23,.t 26],[zL 14 45 13,zo 18 (.slc 45 (.t 14) (some (.t 15)) (some (.t 17))),zo 19 (.qQ false 45 9 (.t 18))]),(zC 28 163 [.t 19,.t 27],[]),(zE 29 28 0,[]),(zE 30 28 1,[]),(zS 31 4 29,[]),(zV 5 30,[])]))
 .ret)))
def ML:AF:=⟨31,[.cell 4 31,.t 5],c117⟩
def c118:AC:=(.seq (.reg [zo 4 (.mv (.c (.b false)))])
 (.seq (.cut [0,1] (.reg [zV 5 0,zo 6 (.conv 28 21 (.t 5)),zV 7 1,zo 8 (.conv 28 21 (.t 7)),zC 9 164 [.t 6,.t 8],zV 4 9]))
 .ret))
def MN:AF:=⟨10,[.t 4],c118⟩
def c119:AC:=(.seq (.reg [zo 0 (.mv (.c (.sl0)))])
 (.seq (.cut [] (.reg [zo 1 (.build 201 [(0,.c (.i .i64 3)),(1,.c (.fn (.func 165) [] []))]),zo 2 (.build 201 [(0,.c (.i .i64 4)),(1,.c (.fn (.func 166) [] []))]),zo 3 (.build 201 [(0,.c (.i .i64 5)),(1,.c (.fn (.func 167) [] []))]),zo 4 (.build 201 [(0,.c (.i .i64 6)),(1,.c (.fn (.func 168) [] []))]),zo 5 (.build 201 [(0,.c (.i .i64 7)),(1,.c (.fn (.func 169) [] []))]),zo 6 (.build 201 [(0,.c (.i .i64 8)),(1,.c (.fn (.func 170) [] []))]),zo 7 (.build 201 [(0,.c (.i .i64 9)),(1,.c (.fn (.func 171) [] []))]),zo 8 (.build 201 [(0,.c (.i .i64 10)),(1,.c (.fn (.func 172) [] []))]),zo 9 (.build 201 [(0,.c (.i .i64 11)),(1,.c (.fn (.func 173) [] []))]),zo 10 (.build 201 [(0,.c (.i .i64 12)),(1,.c (.fn (.func 174) [] []))]),zo 11 (.build 201 [(0,.c (.i .i64 13)),(1,.c (.fn (.func 175) [] []))]),zo 12 (.build 201 [(0,.c (.i .i64 14)),(1,.c (.fn (.func 177) [] []))]),zo 13 (.build 201 [(0,.c (.i .i64 15)),(1,.c (.fn (.func 179) [] []))]),zo 14 (.vH 197 13 [(0,.t 1),(1,.t 2),(2,.t 3),(3,.t 4),(4,.t 5),(5,.t 6),(6,.t 7),(7,.t 8),(8,.t 9),(9,.t 10),(10,.t 11),(11,.t 12),(12,.t 13)]),zV 0 14]))
 .ret))
def MO:AF:=⟨15,[.t 0],c119⟩
def c121:AC:=(.seq (.cut [0] (.reg [zo 1 (.box 31 (.t 0)),zo 2 (.mv (.c (.i .u32 0))),zo 3 (.mv (.c (.i .u64 0)))]))
 (.seq (.cut [1] (.reg [zF 4 31 1 1,zL 5 5 4,zF 6 31 1 2,zL 7 29 6,zF 8 31 1 3,zL 9 29 8,zF 10 31 1 0,zL 11 28 10,zC 12 180 [.t 5,.t 7,.t 9,.t 11],zE 13 12 0,zE 14 12 1,zV 2 13,zV 3 14]))
 .ret))
def MP:AF:=⟨15,[.t 2,.t 3],c121⟩
def c132:AC:=(.seq (.reg [zo 4 (.mv (.c (.b false)))])
 (.seq (.cut [0,1] (.reg [zV 5 0,zo 6 (.bin .neq 93 (.t 5) (.c (.p0))),zV 7 6,gB 8 7 1,cu 9 7 (.bin .geq 3 (.t 8) (.c (.i .i64 0))),zo 10 (.pick (.t 7) (.t 9) (.c (.b false))),zV 11 10,gB 12 11 1,gB 13 11 0,cu 14 11 (.iP (.t 13)),cu 15 11 (.ku 152 (.t 14) 0),cu 16 11 (.load 3 (.t 15)),cu 17 11 (.bin .lss 3 (.t 12) (.t 16)),zo 18 (.pick (.t 11) (.t 17) (.c (.b false))),zV 4 18]))
 .ret))
def MQ:AF:=⟨19,[.t 4],c132⟩
def c133:AC:=(.seq (.cut [0,1] (.reg [zo 2 (.box 209 (.t 0)),zo 3 (.box 31 (.t 1)),zo 4 (.mv (.c (.b false)))]))
 (.seq (.cut [2,3] (.reg [zL 8 31 3,zC 9 121 [.t 8],zV 7 9,zE 10 7 0,zE 11 7 1,zV 5 10,zV 6 11]))
 (.seq (.cut [2,3,5] (.reg [zF 12 31 3 7,zL 13 4 12,zV 14 13,cu 15 14 (.ku 209 (.t 2) 0),cu 16 14 (.load 53 (.t 15)),gB 17 14 5,cu 18 14 (.call (.c (.fn (.func 186) [] [])) [.t 16,.t 17]),zo 19 (.pick (.t 14) (.t 18) (.c (.b false))),zV 4 19]))
 .ret)))
def MR:AF:=⟨20,[.t 4],c133⟩
def c137:AC:=(.seq (.reg [zo 4 (.mv (.c (.b false)))])
 (.seq (.cut [0,1] (.reg [zV 5 0,zo 6 (.len 9 (.t 5)),zV 7 1,zo 8 (.len 9 (.t 7)),zB 9 .geq 3 6 8,zV 10 9,gB 11 10 0,gB 12 10 0,cu 13 10 (.len 9 (.t 12)),gB 14 10 1,cu 15 10 (.len 9 (.t 14)),cu 16 10 (.bin .sub 3 (.t 13) (.t 15)),cu 17 10 (.slc 9 (.t 11) (some (.t 16)) none),gB 18 10 1,cu 19 10 (.bin .eql 9 (.t 17) (.t 18)),zo 20 (.pick (.t 10) (.t 19) (.c (.b false))),zV 4 20]))
 .ret))
def MS:AF:=⟨21,[.t 4],c137⟩
def c140L0:AC:=(.seq (.seq (.cut [0,2,4] (.reg [zV 6 4,zV 7 0,zo 8 (.len 9 (.t 7)),zB 9 .lss 3 6 8]))
 (.cond (.t 9)
 .skip
 (.exit 0)))
 (.seq (.blk 1
 (.seq (.cut [0,2,4] (.reg [zV 12 0,zV 13 4,zo 14 (.idx 9 (.t 12) (.t 13)),zV 5 14]))
 (.seq (.seq (.reg [zV 15 5,zo 16 (.bin .geq 5 (.t 15) (.c (.i .u8 128)))])
 (.cond (.t 16)
 (.seq (.cut [2] (.reg [zL 17 214 2,zS 214 2 17,zo 3 (.mv (.c (.b false)))]))
 .ret)
 .skip))
 (.cut [0,2,4,5] (.reg [zV 18 5,zo 19 (.fC 214 (.t 2) (.t 18)),zn (.store 4 (.t 19) (.c (.b true)))])))))
 (.cut [0,2,4] (.reg [zV 10 4,zD 11 .add 3 10 1,zV 4 11]))))
def c140:AC:=(.seq (.reg [zo 2 (.alloc 214),zo 3 (.mv (.c (.b false)))])
 (.seq (.seq (.reg [zo 4 (.mv (.c (.i .i64 0)))])
 (.blk 0
 (.loop [0,2,4] c140L0)))
 (.seq (.cut [2] (.reg [zL 20 214 2,zS 214 2 20,zo 3 (.mv (.c (.b true)))]))
 .ret)))
def JL:AF:=⟨21,[.cell 2 214,.t 3],c140⟩
def c141L0:AC:=(.seq (.seq (.cut [0,1] (.reg [zV 5 0,zo 6 (.len 9 (.t 5)),zD 7 .gtr 3 6 0]))
 (.cond (.t 7)
 .skip
 (.exit 0)))
 (.blk 1
 (.seq (.seq (.cut [0,1] (.reg [zV 8 1,zV 9 0,zo 10 (.idx 9 (.t 9) (.c (.i .i64 0))),zC 11 188 [.t 8,.t 10],zo 12 (.un .not (.t 11))]))
 (.cond (.t 12)
 (.exit 0)
 .skip))
 (.cut [0,1] (.reg [zV 13 0,zo 14 (.slc 9 (.t 13) (some (.c (.i .i64 1))) none),zV 0 14])))))
def c141:AC:=(.seq (.reg [zo 4 (.mv (.c (.s [])))])
 (.seq (.blk 0
 (.loop [0,1] c141L0))
 (.seq (.reg [zV 15 0,zV 4 15])
 .ret)))
def JM:AF:=⟨16,[.t 4],c141⟩
def c142L0:AC:=(.seq (.seq (.cut [0,1] (.reg [zV 5 0,zo 6 (.len 9 (.t 5)),zD 7 .gtr 3 6 0]))
 (.cond (.t 7)
 .skip
 (.exit 0)))
 (.blk 1
 (.seq (.seq (.cut [0,1] (.reg [zV 8 1,zV 9 0,zV 10 0,zo 11 (.len 9 (.t 10)),zD 12 .sub 3 11 1,zo 13 (.idx 9 (.t 9) (.t 12)),zC 14 188 [.t 8,.t 13],zo 15 (.un .not (.t 14))]))
 (.cond (.t 15)
 (.exit 0)
 .skip))
 (.cut [0,1] (.reg [zV 16 0,zV 17 0,zo 18 (.len 9 (.t 17)),zD 19 .sub 3 18 1,zo 20 (.slc 9 (.t 16) none (some (.t 19))),zV 0 20])))))
def c142:AC:=(.seq (.reg [zo 4 (.mv (.c (.s [])))])
 (.seq (.blk 0
 (.loop [0,1] c142L0))
 (.seq (.reg [zV 21 0,zV 4 21])
 .ret)))
def JO:AF:=⟨22,[.t 4],c142⟩
def c145:AC:=(.seq (.reg [zo 4 (.mv (.c (.i .i64 0)))])
 (.seq (.cut [0,1] (.reg [zV 5 0,zV 6 1,zC 7 153 [.t 5,.t 6],zV 4 7]))
 .ret))
def MV:AF:=⟨8,[.t 4],c145⟩
def c147:AC:=(.seq (.reg [zo 4 (.mv (.c (.s [])))])
 (.seq (.cut [0,1] (.reg [zV 5 0,zV 6 1,zC 7 194 [.t 5,.t 6],zV 4 7]))
 .ret))
def MW:AF:=⟨8,[.t 4],c147⟩
def c148:AC:=(.seq (.reg [zo 2 (.alloc 224)])
 (.seq (.seq (.cut [0,2] (.reg [zV 3 0,zD 4 .lss 3 3 0,zV 5 4,jK 6 5 0,dX 7 5 (.bin .gtr 3 (.t 6) (.c (.i .i64 53))),zo 8 (.pick (.t 5) (.c (.b true)) (.t 7))]))
 (.cond (.t 8)
 (.seq (.reg [zo 9 (.build 224 []),zS 224 2 9])
 .ret)
 .skip))
 (.seq (.cut [0,2] (.reg [zV 10 0,zo 11 (.fC 225 (.c (.p 0 0 0)) (.t 10)),zL 12 224 11,zS 224 2 12]))
 .ret)))
def MX:AF:=⟨13,[.cell 2 224],c148⟩
def c149:AC:=(.seq (.reg [zo 4 (.mv (.c (.s [])))])
 (.seq (.cut [0,1] (.reg [zV 5 0,zV 6 1,zC 7 195 [.t 5,.t 6],zV 4 7]))
 .ret))
def MZ:AF:=⟨8,[.t 4],c149⟩
def c150:AC:=(.seq (.reg [zo 4 (.mv (.c (.b false)))])
 (.seq (.cut [0,1] (.reg [zV 5 0,zV 6 1,zC 7 196 [.t 5,.t 6],zV 4 7]))
 .ret))
def M_:AF:=⟨8,[.t 4],c150⟩
def c151L0:AC:=(.seq (.seq (.cut [0,1,6,7] (.reg [zV 22 7,zV 23 1,zD 24 .sub 3 23 1,zB 25 .lss 3 22 24]))
 (.cond (.t 25)
 .skip
 (.exit 0)))
 (.seq (.blk 1
 (.seq (.cut [0,1,6,7] (.reg [zV 29 0,zC 30 189 [.t 29],zV 28 30,zE 31 28 0,zE 32 28 1,zV 8 31,zV 9 32]))
 (.seq (.cut [0,1,6,7,9] (.reg [zV 33 6,zV 34 7,zV 35 0,zV 36 9,zo 37 (.slc 9 (.t 35) none (some (.t 36))),zo 38 (.fC 107 (.t 33) (.t 34)),zS 9 38 37]))
 (.cut [0,1,6,7,9] (.reg [zV 39 0,zV 40 9,zo 41 (.slc 9 (.t 39) (some (.t 40)) none),zV 0 41])))))
 (.cut [0,1,6,7] (.reg [zV 26 7,zD 27 .add 3 26 1,zV 7 27]))))
def c151:AC:=(.seq (.reg [zo 4 (.mv (.c (.sl0)))])
 (.seq (.cut [0,1] (.reg [zV 10 0,zC 11 197 [.t 10],zV 5 11]))
 (.seq (.seq (.cut [0,1,5] (.reg [zV 12 1,zD 13 .lss 3 12 0,zV 14 13,jK 15 14 1,jK 16 14 5,dX 17 14 (.bin .gtr 3 (.t 15) (.t 16)),zo 18 (.pick (.t 14) (.c (.b true)) (.t 17))]))
 (.cond (.t 18)
 (.reg [zV 19 5,zV 1 19])
 .skip))
 (.cut [1000000,0,1] (.seq (.cut [0,1] (.reg [zV 20 1,zo 21 (.Jf 107 (.t 20) (.t 20)),zV 6 21]))
 (.seq (.seq (.reg [zo 7 (.mv (.c (.i .i64 0)))])
 (.blk 0
 (.loop [0,1,6,7] c151L0)))
 (.seq (.seq (.reg [zV 42 1,zD 43 .gtr 3 42 0])
 (.cond (.t 43)
 (.cut [0,1,6] (.reg [zV 44 6,zV 45 1,zD 46 .sub 3 45 1,zV 47 0,zo 48 (.fC 107 (.t 44) (.t 46)),zS 9 48 47]))
 .skip))
 (.seq (.reg [zV 49 6,zV 4 49])
 .ret))))))))
def F6:AF:=⟨50,[.t 4],c151⟩
def c152L0:AC:=(.blk 1
 (.seq (.cut [0,1,5] (.reg [zV 20 0,zV 21 1,zC 22 145 [.t 20,.t 21],zV 6 22]))
 (.seq (.seq (.reg [zV 23 6,zo 24 (.bin .eql 3 (.t 23) (.c (.i .i64 (-1))))])
 (.cond (.t 24)
 (.seq (.reg [zV 25 5,zV 4 25])
 .ret)
 .skip))
 (.seq (.cut [0,1,5,6] (.reg [zV 26 5,zD 27 .add 3 26 1,zV 5 27]))
 (.cut [0,1,5,6] (.reg [zV 28 0,zV 29 6,zV 30 1,zo 31 (.len 9 (.t 30)),zB 32 .add 3 29 31,zo 33 (.slc 9 (.t 28) (some (.t 32)) none),zV 0 33]))))))
def c152:AC:=(.seq (.reg [zo 4 (.mv (.c (.i .i64 0)))])
 (.seq (.seq (.cut [0,1] (.reg [zV 7 1,zo 8 (.len 9 (.t 7)),zD 9 .eql 3 8 0]))
 (.cond (.t 9)
 (.seq (.cut [0] (.reg [zV 10 0,zC 11 197 [.t 10],zD 12 .add 3 11 1,zV 4 12]))
 .ret)
 .skip))
 (.seq (.seq (.cut [0,1] (.reg [zV 13 1,zo 14 (.len 9 (.t 13)),zD 15 .eql 3 14 1]))
 (.cond (.t 15)
 (.seq (.cut [0,1] (.reg [zV 16 0,zV 17 1,zo 18 (.idx 9 (.t 17) (.c (.i .i64 0))),zC 19 198 [.t 16,.t 18],zV 4 19]))
 .ret)
 .skip))
 (.seq (.reg [zo 5 (.mv (.c (.i .i64 0)))])
 (.blk 0
 (.loop [0,1,5] c152L0))))))
def JQ:AF:=⟨34,[.t 4],c152⟩
def c153L0:AC:=(.seq (.seq (.cut [0,1,5,6,7,8,9,10] (.reg [zV 57 8,zV 58 9,zB 59 .lss 3 57 58]))
 (.cond (.t 59)
 .skip
 (.exit 1)))
 (.blk 2
 (.seq (.seq (.cut [0,1,5,6,7,8,9,10] (.reg [zV 60 0,zV 61 8,zo 62 (.idx 9 (.t 60) (.t 61)),zV 63 6,zB 64 .neq 5 62 63]))
 (.cond (.t 64)
 (.seq (.cut [0,1,5,6,7,8,9,10] (.reg [zV 65 0,zV 66 8,zD 67 .add 3 66 1,zV 68 9,zo 69 (.slc 9 (.t 65) (some (.t 67)) (some (.t 68))),zV 70 6,zC 71 199 [.t 69,.t 70],zV 11 71]))
 (.seq (.seq (.reg [zV 72 11,zD 73 .lss 3 72 0])
 (.cond (.t 73)
 (.seq (.reg [zo 4 (.mv (.c (.i .i64 (-1))))])
 .ret)
 .skip))
 (.cut [0,1,5,6,7,8,9,10,11] (.reg [zV 74 8,zV 75 11,zD 76 .add 3 75 1,zB 77 .add 3 74 76,zV 8 77]))))
 .skip))
 (.cut [1000000,0,1,5,6,7,8,9,10] (.seq (.seq (.cut [0,1,5,6,7,8,9,10] (.reg [zV 78 0,zV 79 8,zD 80 .add 3 79 1,zo 81 (.idx 9 (.t 78) (.t 80)),zV 82 7,zB 83 .eql 5 81 82,zV 84 83,gB 85 84 0,gB 86 84 8,gB 87 84 8,gB 88 84 5,cu 89 84 (.bin .add 3 (.t 87) (.t 88)),cu 90 84 (.slc 9 (.t 85) (some (.t 86)) (some (.t 89))),gB 91 84 1,cu 92 84 (.bin .eql 9 (.t 90) (.t 91)),zo 93 (.pick (.t 84) (.t 92) (.c (.b false)))]))
 (.cond (.t 93)
 (.seq (.reg [zV 94 8,zV 4 94])
 .ret)
 .skip))
 (.seq (.cut [0,1,5,6,7,8,9,10] (.reg [zV 95 8,zD 96 .add 3 95 1,zV 8 96]))
 (.seq (.cut [0,1,5,6,7,8,9,10] (.reg [zV 97 10,zD 98 .add 3 97 1,zV 10 98]))
 (.cut [1000000,0,1,5,6,7,8,9,10] (.seq (.cut [0,1,5,6,7,8,9,10] (.reg [zV 99 5,zo 100 (.load 3 (.c (.p 1 0 0))),zB 101 .leq 3 99 100,zV 102 101,gB 103 102 10,gB 104 102 8,cu 105 102 (.call (.c (.fn (.func 201) [] [])) [.t 104]),cu 106 102 (.bin .gtr 3 (.t 103) (.t 105)),zo 107 (.pick (.t 102) (.t 106) (.c (.b false)))]))
 (.cond (.t 107)
 (.seq (.cut [0,1,8] (.reg [zV 108 0,zV 109 8,zo 110 (.slc 9 (.t 108) (some (.t 109)) none),zV 111 1,zC 112 200 [.t 110,.t 111],zV 12 112]))
 (.seq (.seq (.reg [zV 113 12,zD 114 .geq 3 113 0])
 (.cond (.t 114)
 (.seq (.cut [8,12] (.reg [zV 115 12,zV 116 8,zB 117 .add 3 115 116,zV 4 117]))
 .ret)
 .skip))
 (.seq (.reg [zo 4 (.mv (.c (.i .i64 (-1))))])
 .ret)))
 (.seq (.cut [0,1,5,6,7,8,9,10] (.reg [zV 118 5,zo 119 (.load 3 (.c (.p 1 0 0))),zB 120 .gtr 3 118 119,zV 121 120,gB 122 121 10,gB 123 121 8,cu 124 121 (.bin .shr 3 (.t 123) (.c (.i .u64 4))),cu 125 121 (.bin .add 3 (.c (.i .i64 4)) (.t 124)),cu 126 121 (.bin .geq 3 (.t 122) (.t 125)),zo 127 (.pick (.t 121) (.t 126) (.c (.b false))),zV 128 127,gB 129 128 8,gB 130 128 9,cu 131 128 (.bin .lss 3 (.t 129) (.t 130)),zo 132 (.pick (.t 128) (.t 131) (.c (.b false)))]))
 (.cut [1000000,0,1,5,6,7,8,9,10,132] (.cond (.t 132)
 (.seq (.cut [0,1,8] (.reg [zV 133 0,zV 134 8,zo 135 (.slc 9 (.t 133) (some (.t 134)) none),zV 136 1,zC 137 202 [.t 135,.t 136],zV 13 137]))
 (.seq (.seq (.reg [zV 138 13,zD 139 .lss 3 138 0])
 (.cond (.t 139)
 (.seq (.reg [zo 4 (.mv (.c (.i .i64 (-1))))])
 .ret)
 .skip))
 (.seq (.cut [8,13] (.reg [zV 140 8,zV 141 13,zB 142 .add 3 140 141,zV 4 142]))
 .ret)))
 .skip)))))))))))))
def c153:AC:=(.seq (.reg [zo 4 (.mv (.c (.i .i64 0)))])
 (.seq (.cut [0,1] (.reg [zV 14 1,zo 15 (.len 9 (.t 14)),zV 5 15]))
 (.seq (.blk 0
 (.seq (.cut [0,1,5] (.reg [zV 17 5,zD 18 .eql 3 17 0,zV 19 18,jK 20 19 1,jK 21 19 0,dX 22 19 (.bin .eql 9 (.t 20) (.t 21)),zo 23 (.pick (.t 19) (.c (.b true)) (.t 22)),zV 16 23]))
 (.cond (.t 16)
 (.seq (.reg [zo 4 (.mv (.c (.i .i64 0)))])
 .ret)
 (.seq (.cut [0,1,5] (.reg [zV 25 5,zD 26 .eql 3 25 1,zV 24 26]))
 (.cond (.t 24)
 (.seq (.cut [0,1] (.reg [zV 27 0,zV 28 1,zo 29 (.idx 9 (.t 28) (.c (.i .i64 0))),zC 30 199 [.t 27,.t 29],zV 4 30]))
 .ret)
 (.seq (.cut [0,1,5] (.reg [zV 32 5,zV 33 0,zo 34 (.len 9 (.t 33)),zB 35 .geq 3 32 34,zV 31 35]))
 (.cond (.t 31)
 (.seq (.reg [zo 4 (.mv (.c (.i .i64 (-1))))])
 .ret)
 (.seq (.cut [0,1,5] (.reg [zV 37 5,zo 38 (.load 3 (.c (.p 1 0 0))),zB 39 .leq 3 37 38,zV 40 39,gB 41 40 0,cu 42 40 (.len 9 (.t 41)),cu 43 40 (.bin .leq 3 (.t 42) (.c (.i .i64 64))),zo 44 (.pick (.t 40) (.t 43) (.c (.b false))),zV 36 44]))
 (.cond (.t 36)
 (.seq (.cut [0,1] (.reg [zV 45 0,zV 46 1,zC 47 200 [.t 45,.t 46],zV 4 47]))
 .ret)
 .skip)))))))))
 (.cut [1000000,0,1,5] (.seq (.cut [0,1,5] (.reg [zV 48 1,zo 49 (.idx 9 (.t 48) (.c (.i .i64 0))),zV 6 49]))
 (.seq (.cut [0,1,5,6] (.reg [zV 50 1,zo 51 (.idx 9 (.t 50) (.c (.i .i64 1))),zV 7 51]))
 (.seq (.reg [zo 8 (.mv (.c (.i .i64 0)))])
 (.seq (.cut [0,1,5,6,7,8] (.reg [zV 52 0,zo 53 (.len 9 (.t 52)),zV 54 5,zB 55 .sub 3 53 54,zD 56 .add 3 55 1,zV 9 56]))
 (.seq (.reg [zo 10 (.mv (.c (.i .i64 0)))])
 (.seq (.blk 1
 (.loop [0,1,5,6,7,8,9,10] c153L0))
 (.seq (.reg [zo 4 (.mv (.c (.i .i64 (-1))))])
 .ret)))))))))))
def yZ:AF:=⟨143,[.t 4],c153⟩
def c154:AC:=(.seq (.reg [zo 2 (.mv (.c (.b false)))])
 (.seq (.cut [0] (.reg [zV 3 0,zo 4 (.bin .eql 22 (.t 3) (.c (.p0))),zV 5 4,jK 6 5 0,dX 7 5 (.iP (.t 6)),dX 8 5 (.ku 103 (.t 7) 0),dX 9 5 (.load 93 (.t 8)),dX 10 5 (.bin .eql 93 (.t 9) (.c (.p0))),zo 11 (.pick (.t 5) (.c (.b true)) (.t 10)),zV 2 11]))
 .ret))
def Na:AF:=⟨12,[.t 2],c154⟩
def c155:AC:=(.seq (.reg [zo 6 (.mv (.c (.i .i64 0))),zo 7 (.mv (.c (.i .i64 0)))])
 (.seq (.cut [0,1,2] (.reg [zV 8 1,zo 9 (.mn true [.t 8,.c (.i .i64 0)]),zV 10 2,zV 11 0,zC 12 79 [.t 11],zo 13 (.mn false [.t 10,.t 12]),zV 6 9,zV 7 13]))
 .ret))
def Nb:AF:=⟨14,[.t 6,.t 7],c155⟩
def c156:AC:=(.seq (.reg [zo 8 (.mv (.c (.i .u64 0)))])
 (.seq (.cut [1,2,3] (.reg [zV 11 2,zV 12 1,zD 13 .mul 3 12 64,zB 14 .sub 3 11 13,zo 15 (.mn true [.t 14,.c (.i .i64 0)]),zV 16 3,zV 17 1,zD 18 .mul 3 17 64,zB 19 .sub 3 16 18,zo 20 (.mn false [.t 19,.c (.i .i64 64)]),zV 9 15,zV 10 20]))
 (.seq (.seq (.cut [9,10] (.reg [zV 21 9,zV 22 10,zB 23 .geq 3 21 22]))
 (.cond (.t 23)
 (.seq (.reg [zo 8 (.mv (.c (.i .u64 0)))])
 .ret)
 .skip))
 (.seq (.cut [9,10] (.reg [zV 24 10,zV 25 9,zB 26 .sub 3 24 25,zo 27 (.bin .sub 3 (.c (.i .i64 64)) (.t 26)),zo 28 (.bin .shr 39 (.c (.i .u64 18446744073709551615)) (.t 27)),zV 29 9,zB 30 .shl 39 28 29,zV 8 30]))
 .ret))))
def Nc:AF:=⟨31,[.t 8],c156⟩
def c157:AC:=(.seq (.reg [zo 2 (.mv (.c (.i .i64 0)))])
 (.seq (.cut [0] (.reg [zV 3 0,zo 4 (.bin .shr 39 (.t 3) (.c (.i .u64 1))),zo 5 (.bin .and 39 (.t 4) (.c (.i .u64 6148914691236517205))),zV 6 0,zo 7 (.bin .and 39 (.t 6) (.c (.i .u64 6148914691236517205))),zB 8 .add 39 5 7,zV 0 8]))
 (.seq (.cut [0] (.reg [zV 9 0,zo 10 (.bin .shr 39 (.t 9) (.c (.i .u64 2))),zo 11 (.bin .and 39 (.t 10) (.c (.i .u64 3689348814741910323))),zV 12 0,zo 13 (.bin .and 39 (.t 12) (.c (.i .u64 3689348814741910323))),zB 14 .add 39 11 13,zV 0 14]))
 (.seq (.cut [0] (.reg [zV 15 0,zo 16 (.bin .shr 39 (.t 15) (.c (.i .u64 4))),zV 17 0,zB 18 .add 39 16 17,zo 19 (.bin .and 39 (.t 18) (.c (.i .u64 1085102592571150095))),zV 0 19]))
 (.seq (.cut [0] (.reg [zV 20 0,zV 21 0,zo 22 (.bin .shr 39 (.t 21) (.c (.i .u64 8))),zB 23 .add 39 20 22,zV 0 23]))
 (.cut [1000000,0] (.seq (.cut [0] (.reg [zV 24 0,zV 25 0,zo 26 (.bin .shr 39 (.t 25) (.c (.i .u64 16))),zB 27 .add 39 24 26,zV 0 27]))
 (.seq (.cut [0] (.reg [zV 28 0,zV 29 0,zo 30 (.bin .shr 39 (.t 29) (.c (.i .u64 32))),zB 31 .add 39 28 30,zV 0 31]))
 (.seq (.cut [0] (.reg [zV 32 0,zo 33 (.conv 39 3 (.t 32)),zD 34 .and 3 33 127,zV 2 34]))
 .ret)))))))))
def JR:AF:=⟨35,[.t 2],c157⟩
def c158:AC:=(.seq (.cut [0,1,2,3] (.reg [zo 4 (.box 5 (.t 0)),zo 8 (.alloc 236),zo 9 (.mv (.c (.b false)))]))
 (.seq (.seq (.cut [1,2,3,4,8] (.reg [zL 16 5 4,zo 17 (.bin .gtr 5 (.t 16) (.c (.i .u8 21))),zV 18 17,jK 19 18 1,dX 20 18 (.bin .gtr 29 (.t 19) (.c (.i .u16 4095))),zo 21 (.pick (.t 18) (.c (.b true)) (.t 20)),zV 22 21,jK 23 22 2,dX 24 22 (.bin .gtr 29 (.t 23) (.c (.i .u16 4095))),zo 25 (.pick (.t 22) (.c (.b true)) (.t 24))]))
 (.cond (.t 25)
 (.seq (.cut [8] (.reg [zo 26 (.build 236 []),zS 236 8 26,zo 9 (.mv (.c (.b false)))]))
 .ret)
 .skip))
 (.seq (.cut [1,2,3,4,8] (.reg [zV 27 1,zo 28 (.bin .sub 29 (.t 27) (.c (.i .u16 1024))),zo 29 (.bin .and 29 (.t 28) (.c (.i .u16 4095))),zo 10 (.alloc 29),zS 29 10 29]))
 (.seq (.cut [1,2,3,4,8,10] (.reg [zo 30 (.vI (.func 203) [] [.t 10]),zo 11 (.alloc 255),zS 255 11 30]))
 (.cut [1000000,1,2,3,4,8,11] (.seq (.cut [1,2,3,4,8,11] (.reg [zV 31 3,zo 32 (.conv 28 2 (.t 31)),zL 33 5 4,zB 34 .shr 2 32 33,zV 12 34]))
 (.seq (.cut [1,2,4,8,11,12] (.reg [zV 35 12,zo 36 (.bin .shr 2 (.t 35) (.c (.i .u64 12))),zL 37 255 11,zV 38 12,zD 39 .and 2 38 4095,zo 40 (.conv 2 29 (.t 39)),zo 41 (.call (.t 37) [.t 40]),zB 42 .sub 2 36 41,zo 13 (.alloc 2),zS 2 13 42]))
 (.seq (.reg [zo 43 (.vI (.func 204) [] [.t 13,.t 11,.t 4]),zV 14 43])
 (.seq (.cut [1,2,8,14] (.reg [zV 44 14,zV 45 1,zo 46 (.call (.t 44) [.t 45]),zV 47 14,zV 48 2,zo 49 (.call (.t 47) [.t 48]),zo 50 (.build 236 [(0,.t 46),(1,.t 49)]),zo 15 (.alloc 236),zS 236 15 50]))
 (.cut [1000000,8,15] (.seq (.cut [8,15] (.j_ [(zL 51 236 15,[]),(zo 52 (.fC 236 (.t 15) (.c (.i .i64 0))),[]),(zL 53 2 52,[]),(zD 54 .geq 2 53 0,[]),(zV 55 54,[]),(cu 56 55 (.fC 236 (.t 15) (.c (.i .i64 0))),[]),(cu 57 55 (.load 2 (.t 56)),[]),(cu 58 55 (.fC 236 (.t 15) (.c (.i .i64 1))),[]),(cu 59 55 (.load 2 (.t 58)),[]),(cu 60 55 (.bin .leq 2 (.t 57) (.t 59)),[]),(zo 61 (.pick (.t 55) (.t 60) (.c (.b false))),[]),(zV 62 61,[]),(cu 63 62 (.fC 236 (.t 15) (.c (.i .i64 1))),[]),(cu 64 62 (.load 2 (.t 63)),[]),(cu 65 62 (.bin .leq 2 (.t 64) (.c (.i .i64 4294967296))),[]),(zo 66 (.pick (.t 62) (.t 65) (.c (.b false))),[]),(zS 236 8 51,[cu 64 62 (.load 2 (.t 63))]),(zV 9 66,[])]))
 .ret)))))))))))
def Gf:AF:=⟨67,[.cell 8 236,.t 9],c158⟩
def c159:AC:=(.seq (.reg [zo 4 (.mv (.c (.b false)))])
 (.seq (.cut [0,1] (.reg [zV 5 1,zo 6 (.bin .rem 28 (.t 5) (.c (.i .u32 16))),zo 7 (.bin .eql 28 (.t 6) (.c (.i .u32 0))),zV 8 7,gB 9 8 0,gB 10 8 1,cu 11 8 (.call (.c (.fn (.func 103) [] [])) [.t 9,.t 10,.c (.i .i64 16)]),zo 12 (.pick (.t 8) (.t 11) (.c (.b false))),zV 4 12]))
 .ret))
def Nh:AF:=⟨13,[.t 4],c159⟩
def c160:AC:=(.seq (.reg [zo 6 (.mv (.c (.b false)))])
 (.seq (.cut [0,1,2] (.reg [zV 7 0,zV 8 1,zV 9 2,zo 10 (.conv 9 45 (.t 9)),zC 11 56 [.t 7,.t 8,.t 10],zV 6 11]))
 .ret))
def Nj:AF:=⟨12,[.t 6],c160⟩
def c161L0:AC:=(.seq (.reg [zB 25 .lss 3 24 23])
 (.seq (.cond (.t 25)
 .skip
 (.exit 0))
 (.seq (.blk 1
 (.seq (.cut [1,3,22,23,24] (.reg [zo 26 (.fC 239 (.t 22) (.t 24)),zL 27 29 26,zV 5 27]))
 (.cut [1,3,5,22,23,24] (.reg [zV 28 3,zV 29 5,zo 30 (.conv 29 28 (.t 29)),zC 31 55 [.t 28,.c (.i .i64 2),.t 30],zV 3 31]))))
 (.reg [zD 32 .add 3 24 1,zV 24 32]))))
def c161:AC:=(.seq (.reg [zo 1 (.box 31 (.t 0)),zo 2 (.mv (.c (.s [])))])
 (.seq (.cut [1] (.reg [zF 6 31 1 0,zL 7 28 6,zC 8 55 [.c (.s []),.c (.i .i64 4),.t 7],zV 3 8]))
 (.seq (.cut [1,3] (.reg [zV 9 3,zF 10 31 1 1,zL 11 5 10,zo 12 (.conv 5 28 (.t 11)),zC 13 55 [.t 9,.c (.i .i64 1),.t 12],zV 3 13]))
 (.seq (.seq (.cut [1,3] (.reg [zF 14 31 1 2,zL 15 29 14,zF 16 31 1 3,zL 17 29 16,zF 18 31 1 4,zL 19 29 18,zF 20 31 1 5,zL 21 29 20,zo 22 (.vH 239 4 [(0,.t 15),(1,.t 17),(2,.t 19),(3,.t 21)]),zo 23 (.len 239 (.t 22)),zo 24 (.mv (.c (.i .i64 0)))]))
 (.blk 0
 (.loop [1,3,22,23,24] c161L0)))
 (.seq (.cut [1,3] (.j_ [(zV 33 3,[]),(zF 34 31 1 6,[]),(zL 35 28 34,[]),(zo 36 (.bin .and 28 (.t 35) (.c (.i .u32 65535))),[]),(zF 38 31 1 6,[]),(zL 39 28 38,[]),(zo 40 (.bin .shr 28 (.t 39) (.c (.i .u64 16))),[]),(zo 41 (.bin .and 28 (.t 40) (.c (.i .u32 255))),[]),(zC 37 55 [.t 33,.c (.i .i64 2),.t 36],[zL 39 28 38]),(zC 42 55 [.t 37,.c (.i .i64 1),.t 41],[]),(zV 2 42,[])]))
 .ret)))))
def JU:AF:=⟨43,[.t 2],c161⟩
def c162:AC:=(.seq (.reg [zo 1 (.box 31 (.t 0)),zo 2 (.mv (.c (.b false)))])
 (.seq (.cut [1] (.reg [zF 3 31 1 1,zL 4 5 3,zo 5 (.conv 5 28 (.t 4)),zF 6 31 1 2,zL 7 29 6,zo 8 (.conv 29 28 (.t 7)),zF 9 31 1 3,zL 10 29 9,zo 11 (.conv 29 28 (.t 10)),zF 12 31 1 4,zL 13 29 12,zo 14 (.conv 29 28 (.t 13)),zF 15 31 1 5,zL 16 29 15,zo 17 (.conv 29 28 (.t 16)),zF 18 31 1 6,zL 19 28 18,zo 20 (.vH 64 12 [(0,.t 5),(1,.c (.i .u32 22)),(2,.t 8),(3,.c (.i .u32 4096)),(4,.t 11),(5,.c (.i .u32 4096)),(6,.t 14),(7,.c (.i .u32 256)),(8,.t 17),(9,.c (.i .u32 4096)),(10,.t 19),(11,.c (.i .u32 16777216))]),zC 21 205 [.t 20],zV 2 21]))
 .ret))
def Nk:AF:=⟨22,[.t 2],c162⟩
def c163L0:AC:=(.seq (.reg [zB 32 .lss 3 31 30])
 (.seq (.cond (.t 32)
 .skip
 (.exit 0))
 (.seq (.blk 1
 (.seq (.cut [1,4,7,8,29,30,31] (.reg [zo 33 (.fC 262 (.t 29) (.t 31)),zL 34 261 33,zV 10 34]))
 (.cut [1,4,7,8,10,29,30,31] (.reg [zV 35 10,zV 36 7,zo 37 (.call (.t 36) [.c (.i .i64 2)]),zo 38 (.conv 28 29 (.t 37)),zN 39 35,zS 29 39 38]))))
 (.reg [zD 40 .add 3 31 1,zV 31 40]))))
def c163:AC:=(.seq (.reg [zo 4 (.alloc 31),zo 5 (.mv (.c (.b false)))])
 (.seq (.seq (.cut [0,1,4] (.reg [zV 11 0,zo 12 (.len 9 (.t 11)),zD 13 .neq 3 12 16]))
 (.cond (.t 13)
 (.seq (.cut [4] (.reg [zo 14 (.build 31 []),zS 31 4 14,zo 5 (.mv (.c (.b false)))]))
 .ret)
 .skip))
 (.seq (.cut [0,1,4] (.reg [zV 15 0,zC 16 206 [.t 15],zo 6 (.alloc 257),zS 257 6 16]))
 (.seq (.reg [zo 17 (.vI (.func 207) [] [.t 6]),zV 7 17])
 (.seq (.reg [zo 8 (.alloc 31)])
 (.seq (.cut [1,4,7,8] (.reg [zV 18 7,zo 19 (.call (.t 18) [.c (.i .i64 4)]),zF 20 31 8 0,zS 28 20 19]))
 (.seq (.cut [1,4,7,8] (.reg [zV 21 7,zo 22 (.call (.t 21) [.c (.i .i64 1)]),zo 23 (.conv 28 5 (.t 22)),zF 24 31 8 1,zS 5 24 23]))
 (.cut [1000000,1,4,7,8] (.seq (.seq (.cut [1,4,7,8] (.reg [zF 25 31 8 2,zF 26 31 8 3,zF 27 31 8 4,zF 28 31 8 5,zo 29 (.vH 262 4 [(0,.t 25),(1,.t 26),(2,.t 27),(3,.t 28)]),zo 30 (.len 262 (.t 29)),zo 31 (.mv (.c (.i .i64 0)))]))
 (.blk 0
 (.loop [1,4,7,8,29,30,31] c163L0)))
 (.seq (.cut [1,4,7,8] (.reg [zV 41 7,zo 42 (.call (.t 41) [.c (.i .i64 2)]),zF 43 31 8 6,zS 28 43 42]))
 (.seq (.cut [1,4,7,8] (.j_ [(zF 44 31 8 6,[]),(zL 45 28 44,[]),(zV 46 7,[]),(zo 47 (.call (.t 46) [.c (.i .i64 1)]),[zL 45 28 44]),(zo 48 (.bin .shl 28 (.t 47) (.c (.i .u64 16))),[]),(zB 49 .or 28 45 48,[]),(zF 50 31 8 6,[]),(zS 28 50 49,[])]))
 (.seq (.cut [1,4,8] (.reg [zV 51 1,zV 52 51,cu 53 52 (.load 31 (.t 8)),cu 54 52 (.call (.c (.fn (.func 162) [] [])) [.t 53]),zo 55 (.pick (.t 52) (.t 54) (.c (.b false))),zF 56 31 8 7,zS 4 56 55]))
 (.seq (.cut [4,8] (.reg [zL 57 31 8,zS 31 4 57,zo 5 (.mv (.c (.b true)))]))
 .ret)))))))))))))
def Gg:AF:=⟨58,[.cell 4 31,.t 5],c163⟩
def c180:AC:=(.seq (.reg [zo 8 (.mv (.c (.i .u32 0))),zo 9 (.mv (.c (.i .u64 0)))])
 (.seq (.cut [0,1,2,3] (.reg [zV 13 0,zV 14 1,zV 15 2,zV 16 3,zC 17 158 [.t 13,.t 14,.t 15,.t 16],zV 12 17,zE 18 12 0,zE 19 12 1,zo 10 (.alloc 236),zS 236 10 18,zV 11 19]))
 (.seq (.seq (.cut [10,11] (.reg [zV 20 11,zo 21 (.un .not (.t 20)),zV 22 21,dX 23 22 (.fC 236 (.t 10) (.c (.i .i64 0))),dX 24 22 (.load 2 (.t 23)),dX 25 22 (.bin .eql 2 (.t 24) (.c (.i .i64 4294967296))),zo 26 (.pick (.t 22) (.c (.b true)) (.t 25))]))
 (.cond (.t 26)
 (.seq (.reg [zo 8 (.mv (.c (.i .u32 0))),zo 9 (.mv (.c (.i .u64 0)))])
 .ret)
 .skip))
 (.seq (.cut [10] (.j_ [(zo 27 (.fC 236 (.t 10) (.c (.i .i64 0))),[]),(zL 28 2 27,[]),(zo 29 (.qQ true 2 28 (.t 28)),[]),(zo 30 (.fC 236 (.t 10) (.c (.i .i64 1))),[]),(zL 31 2 30,[]),(zo 32 (.qQ true 2 39 (.t 31)),[]),(zV 8 29,[]),(zV 9 32,[])]))
 .ret))))
def Nl:AF:=⟨33,[.t 8,.t 9],c180⟩
def c187:AC:=(.seq (.cut [0,1,2] (.j_ [(zL 4 206 1,[]),(zV 5 0,[]),(zN 6 5,[]),(zL 7 31 6,[]),(zo 8 (.call (.t 4) [.t 7]),[])]))
 (.cond (.t 8)
 (.seq (.cut [0,2] (.reg [zV 9 0,zN 10 9,zF 11 31 10 7,zn (.store 4 (.t 11) (.c (.b false)))]))
 (.cut [2] (.reg [zL 12 3 2,zD 13 .add 3 12 1,zS 3 2 13])))
 .skip))
def Np:AF:=⟨14,[],c187⟩
def c188:AC:=(.seq (.reg [zo 4 (.mv (.c (.b false)))])
 (.seq (.cut [0,1] (.reg [zV 5 0,zV 6 1,zN 7 5,zo 8 (.fC 214 (.t 7) (.t 6)),zL 9 4 8,zV 4 9]))
 .ret))
def Nq:AF:=⟨10,[.t 4],c188⟩
def c189:AC:=(.seq (.reg [zo 2 (.mv (.c (.i .i32 0))),zo 3 (.mv (.c (.i .i64 0)))])
 (.seq (.seq (.cut [0] (.reg [zV 4 0,zo 5 (.bin .neq 9 (.t 4) (.c (.s []))),zV 6 5,gB 7 6 0,cu 8 6 (.idx 9 (.t 7) (.c (.i .i64 0))),cu 9 6 (.bin .lss 5 (.t 8) (.c (.i .u8 128))),zo 10 (.pick (.t 6) (.t 9) (.c (.b false)))]))
 (.cond (.t 10)
 (.seq (.cut [0] (.reg [zV 11 0,zo 12 (.idx 9 (.t 11) (.c (.i .i64 0))),zo 13 (.conv 5 21 (.t 12)),zV 2 13,zo 3 (.mv (.c (.i .i64 1)))]))
 .ret)
 (.cut [0] (.reg [zV 15 0,zC 16 212 [.t 15],zV 14 16,zE 17 14 0,zE 18 14 1,zV 2 17,zV 3 18]))))
 .ret))
def Nr:AF:=⟨19,[.t 2,.t 3],c189⟩
def c194:AC:=(.seq (.reg [zo 4 (.mv (.c (.s [])))])
 (.seq (.seq (.reg [zV 10 1,zD 11 .eql 3 10 10])
 (.cond (.t 11)
 (.seq (.seq (.cut [0] (.reg [zV 12 0,zo 13 (.bin .leq 2 (.c (.i .i64 0)) (.t 12)),zV 14 13,gB 15 14 0,cu 16 14 (.bin .lss 2 (.t 15) (.c (.i .i64 100))),zo 17 (.pick (.t 14) (.t 16) (.c (.b false)))]))
 (.cond (.t 17)
 (.seq (.cut [0] (.reg [zV 18 0,zC 19 220 [.t 18],zV 4 19]))
 .ret)
 .skip))
 (.seq (.reg [zo 5 (.alloc 272)])
 (.seq (.cut [0,5] (.reg [zV 20 0,zo 21 (.conv 2 39 (.t 20)),zV 6 21]))
 (.seq (.seq (.reg [zV 22 0,zD 23 .lss 2 22 0])
 (.cond (.t 23)
 (.cut [0,5,6] (.reg [zV 24 6,zo 25 (.un .neg (.t 24)),zV 6 25]))
 .skip))
 (.cut [1000000,0,5,6] (.seq (.cut [0,5,6] (.reg [zV 26 6,zC 27 221 [.t 26],zV 7 27]))
 (.seq (.cut [0,5,6,7] (.reg [zV 28 7,zo 29 (.bin .add 3 (.c (.i .i64 1)) (.t 28)),zo 30 (.slc 272 (.t 5) (some (.c (.i .i64 1))) (some (.t 29))),zV 31 6,zC 32 222 [.t 30,.t 31]]))
 (.seq (.seq (.reg [zV 33 0,zD 34 .lss 2 33 0])
 (.cond (.t 34)
 (.seq (.reg [zo 35 (.fC 272 (.t 5) (.c (.i .i64 0))),zn (.store 5 (.t 35) (.c (.i .u8 45)))])
 (.seq (.cut [5,7] (.reg [zV 36 7,zo 37 (.bin .add 3 (.c (.i .i64 1)) (.t 36)),zo 38 (.slc 272 (.t 5) none (some (.t 37))),zo 39 (.conv 45 9 (.t 38)),zV 4 39]))
 .ret))
 .skip))
 (.seq (.cut [5,7] (.reg [zV 40 7,zo 41 (.bin .add 3 (.c (.i .i64 1)) (.t 40)),zo 42 (.slc 272 (.t 5) (some (.c (.i .i64 1))) (some (.t 41))),zo 43 (.conv 45 9 (.t 42)),zV 4 43]))
 .ret)))))))))
 .skip))
 (.seq (.cut [0,1] (.reg [zV 45 0,zo 46 (.conv 2 39 (.t 45)),zV 47 1,zV 48 0,zD 49 .lss 2 48 0,zC 50 223 [.c (.sl0),.t 46,.t 47,.t 49,.c (.b false)],zV 44 50,zE 51 44 0,zE 52 44 1,zV 8 51,zV 9 52]))
 (.seq (.reg [zV 53 9,zV 4 53])
 .ret))))
def JV:AF:=⟨54,[.t 4],c194⟩
def c195:AC:=(.seq (.reg [zo 4 (.mv (.c (.s [])))])
 (.seq (.seq (.cut [0,1] (.reg [zV 5 0,zV 6 1,zC 7 196 [.t 5,.t 6]]))
 (.cond (.t 7)
 (.seq (.cut [0,1] (.reg [zV 8 0,zV 9 1,zo 10 (.len 9 (.t 9)),zo 11 (.slc 9 (.t 8) (some (.t 10)) none),zV 4 11]))
 .ret)
 .skip))
 (.seq (.reg [zV 12 0,zV 4 12])
 .ret)))
def Ns:AF:=⟨13,[.t 4],c195⟩
def c196:AC:=(.seq (.reg [zo 4 (.mv (.c (.b false)))])
 (.seq (.cut [0,1] (.reg [zV 5 0,zo 6 (.len 9 (.t 5)),zV 7 1,zo 8 (.len 9 (.t 7)),zB 9 .geq 3 6 8,zV 10 9,gB 11 10 0,gB 12 10 1,cu 13 10 (.len 9 (.t 12)),cu 14 10 (.slc 9 (.t 11) none (some (.t 13))),gB 15 10 1,cu 16 10 (.bin .eql 9 (.t 14) (.t 15)),zo 17 (.pick (.t 10) (.t 16) (.c (.b false))),zV 4 17]))
 .ret))
def Nu:AF:=⟨18,[.t 4],c196⟩
def c197L0:AC:=(.seq (.reg [zo 5 (.G8 (.t 4)),zE 6 5 0])
 (.seq (.cond (.t 6)
 .skip
 (.exit 0))
 (.blk 1
 (.cut [2,4] (.reg [zV 7 2,zD 8 .add 3 7 1,zV 2 8])))))
def c197:AC:=(.seq (.reg [zo 2 (.mv (.c (.i .i64 0)))])
 (.seq (.seq (.reg [zV 3 0,zo 4 (.rng 9 (.t 3))])
 (.blk 0
 (.loop [2,4] c197L0)))
 (.seq (.reg [zV 9 2,zV 2 9])
 .ret)))
def JW:AF:=⟨10,[.t 2],c197⟩
def c199:AC:=(.seq (.reg [zo 4 (.mv (.c (.i .i64 0)))])
 (.seq (.cut [0,1] (.reg [zV 5 0,zV 6 1,zC 7 224 [.t 5,.t 6],zV 4 7]))
 .ret))
def Nv:AF:=⟨8,[.t 4],c199⟩
def c201:AC:=(.seq (.reg [zo 2 (.mv (.c (.i .i64 0)))])
 (.seq (.cut [0] (.reg [zV 3 0,zD 4 .add 3 3 16,zD 5 .quo 3 4 8,zV 2 5]))
 .ret))
def Nw:AF:=⟨6,[.t 2],c201⟩
def c202L0:AC:=(.seq (.seq (.cut [0,1,5,6,7,8,9] (.reg [zV 18 9,zV 19 7,zB 20 .lss 3 18 19]))
 (.cond (.t 20)
 .skip
 (.exit 0)))
 (.seq (.blk 1
 (.cut [0,1,5,6,7,8,9] (.reg [zV 23 8,zo 24 (.bin .mul 28 (.t 23) (.c (.i .u32 16777619))),zV 25 0,zV 26 9,zo 27 (.idx 9 (.t 25) (.t 26)),zo 28 (.conv 5 28 (.t 27)),zB 29 .add 28 24 28,zV 8 29])))
 (.cut [0,1,5,6,7,8,9] (.reg [zV 21 9,zD 22 .add 3 21 1,zV 9 22]))))
def c202L1:AC:=(.seq (.seq (.cut [0,1,5,6,7,8,10] (.reg [zV 41 10,zV 42 0,zo 43 (.len 9 (.t 42)),zB 44 .lss 3 41 43]))
 (.cond (.t 44)
 .skip
 (.exit 2)))
 (.blk 3
 (.seq (.cut [0,1,5,6,7,8,10] (.reg [zV 45 8,zo 46 (.bin .mul 28 (.t 45) (.c (.i .u32 16777619))),zV 8 46]))
 (.seq (.cut [0,1,5,6,7,8,10] (.reg [zV 47 8,zV 48 0,zV 49 10,zo 50 (.idx 9 (.t 48) (.t 49)),zo 51 (.conv 5 28 (.t 50)),zB 52 .add 28 47 51,zV 8 52]))
 (.seq (.cut [0,1,5,6,7,8,10] (.reg [zV 53 8,zV 54 6,zV 55 0,zV 56 10,zV 57 7,zB 58 .sub 3 56 57,zo 59 (.idx 9 (.t 55) (.t 58)),zo 60 (.conv 5 28 (.t 59)),zB 61 .mul 28 54 60,zB 62 .sub 28 53 61,zV 8 62]))
 (.cut [1000000,0,1,5,6,7,8,10] (.seq (.cut [0,1,5,6,7,8,10] (.reg [zV 63 10,zD 64 .add 3 63 1,zV 10 64]))
 (.seq (.cut [0,1,5,6,7,8,10] (.reg [zV 65 8,zV 66 5,zB 67 .eql 28 65 66,zV 68 67,gB 69 68 0,gB 70 68 10,gB 71 68 7,cu 72 68 (.bin .sub 3 (.t 70) (.t 71)),gB 73 68 10,cu 74 68 (.slc 9 (.t 69) (some (.t 72)) (some (.t 73))),gB 75 68 1,cu 76 68 (.bin .eql 9 (.t 74) (.t 75)),zo 77 (.pick (.t 68) (.t 76) (.c (.b false)))]))
 (.cond (.t 77)
 (.seq (.cut [7,10] (.reg [zV 78 10,zV 79 7,zB 80 .sub 3 78 79,zV 4 80]))
 .ret)
 .skip)))))))))
def c202:AC:=(.seq (.reg [zo 4 (.mv (.c (.i .i64 0)))])
 (.seq (.cut [0,1] (.reg [zV 12 1,zC 13 225 [.t 12],zV 11 13,zE 14 11 0,zE 15 11 1,zV 5 14,zV 6 15]))
 (.seq (.cut [0,1,5,6] (.reg [zV 16 1,zo 17 (.len 9 (.t 16)),zV 7 17]))
 (.seq (.reg [zo 8 (.mv (.c (.i .u32 0)))])
 (.seq (.seq (.reg [zo 9 (.mv (.c (.i .i64 0)))])
 (.blk 0
 (.loop [0,1,5,6,7,8,9] c202L0)))
 (.seq (.seq (.cut [0,1,5,6,7,8] (.reg [zV 30 8,zV 31 5,zB 32 .eql 28 30 31,zV 33 32,gB 34 33 0,gB 35 33 7,cu 36 33 (.slc 9 (.t 34) none (some (.t 35))),gB 37 33 1,cu 38 33 (.bin .eql 9 (.t 36) (.t 37)),zo 39 (.pick (.t 33) (.t 38) (.c (.b false)))]))
 (.cond (.t 39)
 (.seq (.reg [zo 4 (.mv (.c (.i .i64 0)))])
 .ret)
 .skip))
 (.seq (.seq (.reg [zV 40 7,zV 10 40])
 (.blk 2
 (.loop [0,1,5,6,7,8,10] c202L1)))
 (.seq (.reg [zo 4 (.mv (.c (.i .i64 (-1))))])
 .ret))))))))
def DX:AF:=⟨81,[.t 4],c202⟩
def c203:AC:=(.seq (.reg [zo 3 (.mv (.c (.i .i64 0)))])
 (.seq (.seq (.cut [0,1] (.reg [zV 4 0,zL 5 29 1,zB 6 .lss 29 4 5]))
 (.cond (.t 6)
 (.seq (.reg [zo 3 (.mv (.c (.i .i64 1)))])
 .ret)
 .skip))
 (.seq (.reg [zo 3 (.mv (.c (.i .i64 0)))])
 .ret)))
def Ny:AF:=⟨7,[.t 3],c203⟩
def c204:AC:=(.seq (.reg [zo 5 (.mv (.c (.i .i64 0)))])
 (.seq (.cut [0,1,2,3] (.j_ [(zL 6 2 1,[]),(zL 7 255 2,[]),(zV 8 0,[]),(zV 12 0,[]),(zo 13 (.qQ true 29 2 (.t 12)),[]),(zL 15 5 3,[]),(zo 9 (.call (.t 7) [.t 8]),[zL 6 2 1,zL 15 5 3]),(zB 10 .add 2 6 9,[]),(zo 11 (.bin .shl 2 (.t 10) (.c (.i .u64 12))),[]),(zB 14 .add 2 11 13,[]),(zB 16 .shl 2 14 15,[]),(zV 5 16,[])]))
 .ret))
def Nz:AF:=⟨17,[.t 5],c204⟩
def c206:AC:=(.seq (.reg [zo 2 (.mv (.c (.p0)))])
 (.seq (.cut [0] (.reg [zV 3 0,zo 4 (.conv 9 45 (.t 3)),zo 5 (.build 279 [(0,.t 4)]),zo 6 (.box 279 (.t 5)),zV 2 6]))
 .ret))
def NC:AF:=⟨7,[.t 2],c206⟩
def c207:AC:=(.seq (.reg [zo 3 (.mv (.c (.i .u32 0)))])
 (.seq (.cut [0,1] (.reg [zL 7 257 1,zV 8 0,zC 9 208 [.t 7,.t 8],zV 6 9,zE 10 6 0,zE 11 6 1,zV 4 10,zV 5 11]))
 (.seq (.reg [zV 12 4,zV 3 12])
 .ret)))
def ND:AF:=⟨13,[.t 3],c207⟩
def c208:AC:=(.seq (.reg [zo 4 (.mv (.c (.i .u32 0))),zo 5 (.mv (.c (.b false)))])
 (.seq (.seq (.reg [zV 9 0,zo 10 (.bin .eql 257 (.t 9) (.c (.p0)))])
 (.cond (.t 10)
 (.seq (.reg [zo 4 (.mv (.c (.i .u32 0))),zo 5 (.mv (.c (.b false)))])
 .ret)
 .skip))
 (.seq (.cut [0,1] (.reg [zV 12 0,zN 13 12,zF 14 279 13 0,zL 15 45 14,zV 16 1,zC 17 107 [.t 15,.c (.i .i64 0),.t 16],zV 11 17,zE 18 11 0,zE 19 11 1,zV 6 18,zV 7 19]))
 (.seq (.seq (.reg [zV 20 7,zo 21 (.un .not (.t 20))])
 (.cond (.t 21)
 (.seq (.reg [zo 4 (.mv (.c (.i .u32 0))),zo 5 (.mv (.c (.b false)))])
 .ret)
 .skip))
 (.seq (.cut [0,1,6] (.reg [zV 22 0,zo 23 (.vI (.func 226) [.t 22] []),zV 8 23]))
 (.seq (.cut [1,6,8] (.reg [zV 24 8,zV 25 1,zo 26 (.call (.t 24) [.t 25])]))
 (.seq (.cut [6] (.reg [zV 27 6,zV 4 27,zo 5 (.mv (.c (.b true)))]))
 .ret)))))))
def NG:AF:=⟨28,[.t 4,.t 5],c208⟩
def c214:AC:=(.seq (.reg [zo 2 (.mv (.c (.b false)))])
 (.seq (.cut [0] (.reg [zV 3 0,zo 4 (.bin .and 5 (.t 3) (.c (.i .u8 192))),zo 5 (.bin .neq 5 (.t 4) (.c (.i .u8 128))),zV 2 5]))
 .ret))
def NH:AF:=⟨6,[.t 2],c214⟩
def c220:AC:=(.seq (.reg [zo 2 (.mv (.c (.s [])))])
 (.seq (.seq (.reg [zV 3 0,zD 4 .lss 3 3 10])
 (.cond (.t 4)
 (.seq (.cut [0] (.reg [zV 5 0,zV 6 0,zD 7 .add 3 6 1,zo 8 (.slc 9 (.c (.s [48,49,50,51,52,53,54,55,56,57,97,98,99,100,101,102,103,104,105,106,107,108,109,110,111,112,113,114,115,116,117,118,119,120,121,122])) (some (.t 5)) (some (.t 7))),zV 2 8]))
 .ret)
 .skip))
 (.seq (.cut [0] (.reg [zV 9 0,zD 10 .mul 3 9 2,zV 11 0,zD 12 .mul 3 11 2,zD 13 .add 3 12 2,zo 14 (.slc 9 (.c (.s [48,48,48,49,48,50,48,51,48,52,48,53,48,54,48,55,48,56,48,57,49,48,49,49,49,50,49,51,49,52,49,53,49,54,49,55,49,56,49,57,50,48,50,49,50,50,50,51,50,52,50,53,50,54,50,55,50,56,50,57,51,48,51,49,51,50,51,51,51,52,51,53,51,54,51,55,51,56,51,57,52,48,52,49,52,50,52,51,52,52,52,53,52,54,52,55,52,56,52,57,53,48,53,49,53,50,53,51,53,52,53,53,53,54,53,55,53,56,53,57,54,48,54,49,54,50,54,51,54,52,54,53,54,54,54,55,54,56,54,57,55,48,55,49,55,50,55,51,55,52,55,53,55,54,55,55,55,56,55,57,56,48,56,49,56,50,56,51,56,52,56,53,56,54,56,55,56,56,56,57,57,48,57,49,57,50,57,51,57,52,57,53,57,54,57,55,57,56,57,57])) (some (.t 10)) (some (.t 13))),zV 2 14]))
 .ret)))
def NI:AF:=⟨15,[.t 2],c220⟩
def c221:AC:=(.seq (.reg [zo 2 (.mv (.c (.i .i64 0)))])
 (.seq (.cut [0] (.reg [zV 4 0,zC 5 235 [.t 4],zC 6 234 [.t 5],zV 3 6]))
 (.seq (.cut [0,3] (.reg [zV 7 3,zV 8 0,zV 9 3,zo 10 (.fC 290 (.c (.p 6 0 0)) (.t 9)),zL 11 39 10,zB 12 .geq 39 8 11,zC 13 236 [.t 12],zB 14 .add 3 7 13,zV 2 14]))
 .ret)))
def NJ:AF:=⟨15,[.t 2],c221⟩
def c222L0:AC:=(.seq (.seq (.reg [zV 19 4,zD 20 .geq 3 19 8])
 (.cond (.t 20)
 .skip
 (.exit 0)))
 (.blk 1
 (.seq (.cut [0,1,4] (.reg [zV 21 1,zo 22 (.bin .rem 39 (.t 21) (.c (.i .u64 100000000))),zo 23 (.conv 39 28 (.t 22)),zV 5 23]))
 (.seq (.cut [0,1,4,5] (.reg [zV 24 1,zo 25 (.bin .quo 39 (.t 24) (.c (.i .u64 100000000))),zV 1 25]))
 (.seq (.cut [0,1,4,5] (.reg [zV 26 5,zo 27 (.bin .quo 28 (.t 26) (.c (.i .u32 10000))),zV 28 5,zo 29 (.bin .rem 28 (.t 28) (.c (.i .u32 10000))),zV 6 27,zV 7 29]))
 (.seq (.cut [0,1,4,6,7] (.reg [zV 30 7,zo 31 (.bin .quo 28 (.t 30) (.c (.i .u32 100))),zo 32 (.bin .mul 28 (.t 31) (.c (.i .u32 2))),zV 33 7,zo 34 (.bin .rem 28 (.t 33) (.c (.i .u32 100))),zo 35 (.bin .mul 28 (.t 34) (.c (.i .u32 2))),zV 8 32,zV 9 35]))
 (.seq (.cut [0,1,4,6,8,9] (.reg [zV 36 6,zo 37 (.bin .quo 28 (.t 36) (.c (.i .u32 100))),zo 38 (.bin .mul 28 (.t 37) (.c (.i .u32 2))),zV 39 6,zo 40 (.bin .rem 28 (.t 39) (.c (.i .u32 100))),zo 41 (.bin .mul 28 (.t 40) (.c (.i .u32 2))),zV 10 38,zV 11 41]))
 (.cut [1000000,0,1,4,8,9,10,11] (.seq (.cut [0,1,4,8,9,10,11] (.j_ [(zV 42 0,[]),(zV 43 4,[]),(zD 44 .sub 3 43 1,[]),(zV 45 0,[]),(zV 46 4,[]),(zD 47 .sub 3 46 2,[]),(zV 48 9,[]),(zo 49 (.bin .add 28 (.t 48) (.c (.i .u32 1))),[]),(zo 50 (.idx 9 (.c (.s [48,48,48,49,48,50,48,51,48,52,48,53,48,54,48,55,48,56,48,57,49,48,49,49,49,50,49,51,49,52,49,53,49,54,49,55,49,56,49,57,50,48,50,49,50,50,50,51,50,52,50,53,50,54,50,55,50,56,50,57,51,48,51,49,51,50,51,51,51,52,51,53,51,54,51,55,51,56,51,57,52,48,52,49,52,50,52,51,52,52,52,53,52,54,52,55,52,56,52,57,53,48,53,49,53,50,53,51,53,52,53,53,53,54,53,55,53,56,53,57,54,48,54,49,54,50,54,51,54,52,54,53,54,54,54,55,54,56,54,57,55,48,55,49,55,50,55,51,55,52,55,53,55,54,55,55,55,56,55,57,56,48,56,49,56,50,56,51,56,52,56,53,56,54,56,55,56,56,56,57,57,48,57,49,57,50,57,51,57,52,57,53,57,54,57,55,57,56,57,57])) (.t 49)),[]),(zV 51 9,[]),(zo 52 (.idx 9 (.c (.s [48,48,48,49,48,50,48,51,48,52,48,53,48,54,48,55,48,56,48,57,49,48,49,49,49,50,49,51,49,52,49,53,49,54,49,55,49,56,49,57,50,48,50,49,50,50,50,51,50,52,50,53,50,54,50,55,50,56,50,57,51,48,51,49,51,50,51,51,51,52,51,53,51,54,51,55,51,56,51,57,52,48,52,49,52,50,52,51,52,52,52,53,52,54,52,55,52,56,52,57,53,48,53,49,53,50,53,51,53,52,53,53,53,54,53,55,53,56,53,57,54,48,54,49,54,50,54,51,54,52,54,53,54,54,54,55,54,56,54,57,55,48,55,49,55,50,55,51,55,52,55,53,55,54,55,55,55,56,55,57,56,48,56,49,56,50,56,51,56,52,56,53,56,54,56,55,56,56,56,57,57,48,57,49,57,50,57,51,57,52,57,53,57,54,57,55,57,56,57,57])) (.t 51)),[]),(zo 53 (.fC 45 (.t 42) (.t 44)),[]),(zS 5 53 50,[]),(zo 54 (.fC 45 (.t 45) (.t 47)),[]),(zS 5 54 52,[])]))
 (.seq (.cut [0,1,4,8,10,11] (.j_ [(zV 55 0,[]),(zV 56 4,[]),(zD 57 .sub 3 56 3,[]),(zV 58 0,[]),(zV 59 4,[]),(zD 60 .sub 3 59 4,[]),(zV 61 8,[]),(zo 62 (.bin .add 28 (.t 61) (.c (.i .u32 1))),[]),(zo 63 (.idx 9 (.c (.s [48,48,48,49,48,50,48,51,48,52,48,53,48,54,48,55,48,56,48,57,49,48,49,49,49,50,49,51,49,52,49,53,49,54,49,55,49,56,49,57,50,48,50,49,50,50,50,51,50,52,50,53,50,54,50,55,50,56,50,57,51,48,51,49,51,50,51,51,51,52,51,53,51,54,51,55,51,56,51,57,52,48,52,49,52,50,52,51,52,52,52,53,52,54,52,55,52,56,52,57,53,48,53,49,53,50,53,51,53,52,53,53,53,54,53,55,53,56,53,57,54,48,54,49,54,50,54,51,54,52,54,53,54,54,54,55,54,56,54,57,55,48,55,49,55,50,55,51,55,52,55,53,55,54,55,55,55,56,55,57,56,48,56,49,56,50,56,51,56,52,56,53,56,54,56,55,56,56,56,57,57,48,57,49,57,50,57,51,57,52,57,53,57,54,57,55,57,56,57,57])) (.t 62)),[]),(zV 64 8,[]),(zo 65 (.idx 9 (.c (.s [48,48,48,49,48,50,48,51,48,52,48,53,48,54,48,55,48,56,48,57,49,48,49,49,49,50,49,51,49,52,49,53,49,54,49,55,49,56,49,57,50,48,50,49,50,50,50,51,50,52,50,53,50,54,50,55,50,56,50,57,51,48,51,49,51,50,51,51,51,52,51,53,51,54,51,55,51,56,51,57,52,48,52,49,52,50,52,51,52,52,52,53,52,54,52,55,52,56,52,57,53,48,53,49,53,50,53,51,53,52,53,53,53,54,53,55,53,56,53,57,54,48,54,49,54,50,54,51,54,52,54,53,54,54,54,55,54,56,54,57,55,48,55,49,55,50,55,51,55,52,55,53,55,54,55,55,55,56,55,57,56,48,56,49,56,50,56,51,56,52,56,53,56,54,56,55,56,56,56,57,57,48,57,49,57,50,57,51,57,52,57,53,57,54,57,55,57,56,57,57])) (.t 64)),[]),(zo 66 (.fC 45 (.t 55) (.t 57)),[]),(zS 5 66 63,[]),(zo 67 (.fC 45 (.t 58) (.t 60)),[]),(zS 5 67 65,[])]))
 (.cut [1000000,0,1,4,10,11] (.seq (.cut [0,1,4,10,11] (.j_ [(zV 68 0,[]),(zV 69 4,[]),(zD 70 .sub 3 69 5,[]),(zV 71 0,[]),(zV 72 4,[]),(zD 73 .sub 3 72 6,[]),(zV 74 11,[]),(zo 75 (.bin .add 28 (.t 74) (.c (.i .u32 1))),[]),(zo 76 (.idx 9 (.c (.s [48,48,48,49,48,50,48,51,48,52,48,53,48,54,48,55,48,56,48,57,49,48,49,49,49,50,49,51,49,52,49,53,49,54,49,55,49,56,49,57,50,48,50,49,50,50,50,51,50,52,50,53,50,54,50,55,50,56,50,57,51,48,51,49,51,50,51,51,51,52,51,53,51,54,51,55,51,56,51,57,52,48,52,49,52,50,52,51,52,52,52,53,52,54,52,55,52,56,52,57,53,48,53,49,53,50,53,51,53,52,53,53,53,54,53,55,53,56,53,57,54,48,54,49,54,50,54,51,54,52,54,53,54,54,54,55,54,56,54,57,55,48,55,49,55,50,55,51,55,52,55,53,55,54,55,55,55,56,55,57,56,48,56,49,56,50,56,51,56,52,56,53,56,54,56,55,56,56,56,57,57,48,57,49,57,50,57,51,57,52,57,53,57,54,57,55,57,56,57,57])) (.t 75)),[]),(zV 77 11,[]),(zo 78 (.idx 9 (.c (.s [48,48,48,49,48,50,48,51,48,52,48,53,48,54,48,55,48,56,48,57,49,48,49,49,49,50,49,51,49,52,49,53,49,54,49,55,49,56,49,57,50,48,50,49,50,50,50,51,50,52,50,53,50,54,50,55,50,56,50,57,51,48,51,49,51,50,51,51,51,52,51,53,51,54,51,55,51,56,51,57,52,48,52,49,52,50,52,51,52,52,52,53,52,54,52,55,52,56,52,57,53,48,53,49,53,50,53,51,53,52,53,53,53,54,53,55,53,56,53,57,54,48,54,49,54,50,54,51,54,52,54,53,54,54,54,55,54,56,54,57,55,48,55,49,55,50,55,51,55,52,55,53,55,54,55,55,55,56,55,57,56,48,56,49,56,50,56,51,56,52,56,53,56,54,56,55,56,56,56,57,57,48,57,49,57,50,57,51,57,52,57,53,57,54,57,55,57,56,57,57])) (.t 77)),[]),(zo 79 (.fC 45 (.t 68) (.t 70)),[]),(zS 5 79 76,[]),(zo 80 (.fC 45 (.t 71) (.t 73)),[]),(zS 5 80 78,[])]))
 (.seq (.cut [0,1,4,10] (.j_ [(zV 81 0,[]),(zV 82 4,[]),(zD 83 .sub 3 82 7,[]),(zV 84 0,[]),(zV 85 4,[]),(zD 86 .sub 3 85 8,[]),(zV 87 10,[]),(zo 88 (.bin .add 28 (.t 87) (.c (.i .u32 1))),[]),(zo 89 (.idx 9 (.c (.s [48,48,48,49,48,50,48,51,48,52,48,53,48,54,48,55,48,56,48,57,49,48,49,49,49,50,49,51,49,52,49,53,49,54,49,55,49,56,49,57,50,48,50,49,50,50,50,51,50,52,50,53,50,54,50,55,50,56,50,57,51,48,51,49,51,50,51,51,51,52,51,53,51,54,51,55,51,56,51,57,52,48,52,49,52,50,52,51,52,52,52,53,52,54,52,55,52,56,52,57,53,48,53,49,53,50,53,51,53,52,53,53,53,54,53,55,53,56,53,57,54,48,54,49,54,50,54,51,54,52,54,53,54,54,54,55,54,56,54,57,55,48,55,49,55,50,55,51,55,52,55,53,55,54,55,55,55,56,55,57,56,48,56,49,56,50,56,51,56,52,56,53,56,54,56,55,56,56,56,57,57,48,57,49,57,50,57,51,57,52,57,53,57,54,57,55,57,56,57,57])) (.t 88)),[]),(zV 90 10,[]),(zo 91 (.idx 9 (.c (.s [48,48,48,49,48,50,48,51,48,52,48,53,48,54,48,55,48,56,48,57,49,48,49,49,49,50,49,51,49,52,49,53,49,54,49,55,49,56,49,57,50,48,50,49,50,50,50,51,50,52,50,53,50,54,50,55,50,56,50,57,51,48,51,49,51,50,51,51,51,52,51,53,51,54,51,55,51,56,51,57,52,48,52,49,52,50,52,51,52,52,52,53,52,54,52,55,52,56,52,57,53,48,53,49,53,50,53,51,53,52,53,53,53,54,53,55,53,56,53,57,54,48,54,49,54,50,54,51,54,52,54,53,54,54,54,55,54,56,54,57,55,48,55,49,55,50,55,51,55,52,55,53,55,54,55,55,55,56,55,57,56,48,56,49,56,50,56,51,56,52,56,53,56,54,56,55,56,56,56,57,57,48,57,49,57,50,57,51,57,52,57,53,57,54,57,55,57,56,57,57])) (.t 90)),[]),(zo 92 (.fC 45 (.t 81) (.t 83)),[]),(zS 5 92 89,[]),(zo 93 (.fC 45 (.t 84) (.t 86)),[]),(zS 5 93 91,[])]))
 (.cut [0,1,4] (.reg [zV 94 4,zD 95 .sub 3 94 8,zV 4 95])))))))))))))))
def c222:AC:=(.seq (.cut [0,1] (.reg [zV 17 0,zo 18 (.len 45 (.t 17)),zV 4 18]))
 (.seq (.blk 0
 (.loop [0,1,4] c222L0))
 (.cut [1000000,0,1,4] (.seq (.cut [0,1,4] (.reg [zV 96 1,zo 97 (.conv 39 28 (.t 96)),zV 12 97]))
 (.seq (.seq (.reg [zV 98 4,zD 99 .geq 3 98 4])
 (.cond (.t 99)
 (.seq (.cut [0,4,12] (.reg [zV 100 12,zo 101 (.bin .rem 28 (.t 100) (.c (.i .u32 10000))),zV 13 101]))
 (.seq (.cut [0,4,12,13] (.reg [zV 102 12,zo 103 (.bin .quo 28 (.t 102) (.c (.i .u32 10000))),zV 12 103]))
 (.seq (.cut [0,4,12,13] (.reg [zV 104 13,zo 105 (.bin .quo 28 (.t 104) (.c (.i .u32 100))),zo 106 (.bin .mul 28 (.t 105) (.c (.i .u32 2))),zV 107 13,zo 108 (.bin .rem 28 (.t 107) (.c (.i .u32 100))),zo 109 (.bin .mul 28 (.t 108) (.c (.i .u32 2))),zV 14 106,zV 15 109]))
 (.seq (.cut [0,4,12,14,15] (.j_ [(zV 110 0,[]),(zV 111 4,[]),(zD 112 .sub 3 111 1,[]),(zV 113 0,[]),(zV 114 4,[]),(zD 115 .sub 3 114 2,[]),(zV 116 15,[]),(zo 117 (.bin .add 28 (.t 116) (.c (.i .u32 1))),[]),(zo 118 (.idx 9 (.c (.s [48,48,48,49,48,50,48,51,48,52,48,53,48,54,48,55,48,56,48,57,49,48,49,49,49,50,49,51,49,52,49,53,49,54,49,55,49,56,49,57,50,48,50,49,50,50,50,51,50,52,50,53,50,54,50,55,50,56,50,57,51,48,51,49,51,50,51,51,51,52,51,53,51,54,51,55,51,56,51,57,52,48,52,49,52,50,52,51,52,52,52,53,52,54,52,55,52,56,52,57,53,48,53,49,53,50,53,51,53,52,53,53,53,54,53,55,53,56,53,57,54,48,54,49,54,50,54,51,54,52,54,53,54,54,54,55,54,56,54,57,55,48,55,49,55,50,55,51,55,52,55,53,55,54,55,55,55,56,55,57,56,48,56,49,56,50,56,51,56,52,56,53,56,54,56,55,56,56,56,57,57,48,57,49,57,50,57,51,57,52,57,53,57,54,57,55,57,56,57,57])) (.t 117)),[]),(zV 119 15,[]),(zo 120 (.idx 9 (.c (.s [48,48,48,49,48,50,48,51,48,52,48,53,48,54,48,55,48,56,48,57,49,48,49,49,49,50,49,51,49,52,49,53,49,54,49,55,49,56,49,57,50,48,50,49,50,50,50,51,50,52,50,53,50,54,50,55,50,56,50,57,51,48,51,49,51,50,51,51,51,52,51,53,51,54,51,55,51,56,51,57,52,48,52,49,52,50,52,51,52,52,52,53,52,54,52,55,52,56,52,57,53,48,53,49,53,50,53,51,53,52,53,53,53,54,53,55,53,56,53,57,54,48,54,49,54,50,54,51,54,52,54,53,54,54,54,55,54,56,54,57,55,48,55,49,55,50,55,51,55,52,55,53,55,54,55,55,55,56,55,57,56,48,56,49,56,50,56,51,56,52,56,53,56,54,56,55,56,56,56,57,57,48,57,49,57,50,57,51,57,52,57,53,57,54,57,55,57,56,57,57])) (.t 119)),[]),(zo 121 (.fC 45 (.t 110) (.t 112)),[]),(zS 5 121 118,[]),(zo 122 (.fC 45 (.t 113) (.t 115)),[]),(zS 5 122 120,[])]))
 (.cut [1000000,0,4,12,14] (.seq (.cut [0,4,12,14] (.j_ [(zV 123 0,[]),(zV 124 4,[]),(zD 125 .sub 3 124 3,[]),(zV 126 0,[]),(zV 127 4,[]),(zD 128 .sub 3 127 4,[]),(zV 129 14,[]),(zo 130 (.bin .add 28 (.t 129) (.c (.i .u32 1))),[]),(zo 131 (.idx 9 (.c (.s [48,48,48,49,48,50,48,51,48,52,48,53,48,54,48,55,48,56,48,57,49,48,49,49,49,50,49,51,49,52,49,53,49,54,49,55,49,56,49,57,50,48,50,49,50,50,50,51,50,52,50,53,50,54,50,55,50,56,50,57,51,48,51,49,51,50,51,51,51,52,51,53,51,54,51,55,51,56,51,57,52,48,52,49,52,50,52,51,52,52,52,53,52,54,52,55,52,56,52,57,53,48,53,49,53,50,53,51,53,52,53,53,53,54,53,55,53,56,53,57,54,48,54,49,54,50,54,51,54,52,54,53,54,54,54,55,54,56,54,57,55,48,55,49,55,50,55,51,55,52,55,53,55,54,55,55,55,56,55,57,56,48,56,49,56,50,56,51,56,52,56,53,56,54,56,55,56,56,56,57,57,48,57,49,57,50,57,51,57,52,57,53,57,54,57,55,57,56,57,57])) (.t 130)),[]),(zV 132 14,[]),(zo 133 (.idx 9 (.c (.s [48,48,48,49,48,50,48,51,48,52,48,53,48,54,48,55,48,56,48,57,49,48,49,49,49,50,49,51,49,52,49,53,49,54,49,55,49,56,49,57,50,48,50,49,50,50,50,51,50,52,50,53,50,54,50,55,50,56,50,57,51,48,51,49,51,50,51,51,51,52,51,53,51,54,51,55,51,56,51,57,52,48,52,49,52,50,52,51,52,52,52,53,52,54,52,55,52,56,52,57,53,48,53,49,53,50,53,51,53,52,53,53,53,54,53,55,53,56,53,57,54,48,54,49,54,50,54,51,54,52,54,53,54,54,54,55,54,56,54,57,55,48,55,49,55,50,55,51,55,52,55,53,55,54,55,55,55,56,55,57,56,48,56,49,56,50,56,51,56,52,56,53,56,54,56,55,56,56,56,57,57,48,57,49,57,50,57,51,57,52,57,53,57,54,57,55,57,56,57,57])) (.t 132)),[]),(zo 134 (.fC 45 (.t 123) (.t 125)),[]),(zS 5 134 131,[]),(zo 135 (.fC 45 (.t 126) (.t 128)),[]),(zS 5 135 133,[])]))
 (.cut [0,4,12] (.reg [zV 136 4,zD 137 .sub 3 136 4,zV 4 137]))))))))
 .skip))
 (.cut [1000000,0,4,12] (.seq (.seq (.reg [zV 138 4,zD 139 .geq 3 138 2])
 (.cond (.t 139)
 (.seq (.cut [0,4,12] (.reg [zV 140 12,zo 141 (.bin .rem 28 (.t 140) (.c (.i .u32 100))),zo 142 (.bin .mul 28 (.t 141) (.c (.i .u32 2))),zV 16 142]))
 (.seq (.cut [0,4,12,16] (.reg [zV 143 12,zo 144 (.bin .quo 28 (.t 143) (.c (.i .u32 100))),zV 12 144]))
 (.seq (.cut [0,4,12,16] (.j_ [(zV 145 0,[]),(zV 146 4,[]),(zD 147 .sub 3 146 1,[]),(zV 148 0,[]),(zV 149 4,[]),(zD 150 .sub 3 149 2,[]),(zV 151 16,[]),(zo 152 (.bin .add 28 (.t 151) (.c (.i .u32 1))),[]),(zo 153 (.idx 9 (.c (.s [48,48,48,49,48,50,48,51,48,52,48,53,48,54,48,55,48,56,48,57,49,48,49,49,49,50,49,51,49,52,49,53,49,54,49,55,49,56,49,57,50,48,50,49,50,50,50,51,50,52,50,53,50,54,50,55,50,56,50,57,51,48,51,49,51,50,51,51,51,52,51,53,51,54,51,55,51,56,51,57,52,48,52,49,52,50,52,51,52,52,52,53,52,54,52,55,52,56,52,57,53,48,53,49,53,50,53,51,53,52,53,53,53,54,53,55,53,56,53,57,54,48,54,49,54,50,54,51,54,52,54,53,54,54,54,55,54,56,54,57,55,48,55,49,55,50,55,51,55,52,55,53,55,54,55,55,55,56,55,57,56,48,56,49,56,50,56,51,56,52,56,53,56,54,56,55,56,56,56,57,57,48,57,49,57,50,57,51,57,52,57,53,57,54,57,55,57,56,57,57])) (.t 152)),[]),(zV 154 16,[]),(zo 155 (.idx 9 (.c (.s [48,48,48,49,48,50,48,51,48,52,48,53,48,54,48,55,48,56,48,57,49,48,49,49,49,50,49,51,49,52,49,53,49,54,49,55,49,56,49,57,50,48,50,49,50,50,50,51,50,52,50,53,50,54,50,55,50,56,50,57,51,48,51,49,51,50,51,51,51,52,51,53,51,54,51,55,51,56,51,57,52,48,52,49,52,50,52,51,52,52,52,53,52,54,52,55,52,56,52,57,53,48,53,49,53,50,53,51,53,52,53,53,53,54,53,55,53,56,53,57,54,48,54,49,54,50,54,51,54,52,54,53,54,54,54,55,54,56,54,57,55,48,55,49,55,50,55,51,55,52,55,53,55,54,55,55,55,56,55,57,56,48,56,49,56,50,56,51,56,52,56,53,56,54,56,55,56,56,56,57,57,48,57,49,57,50,57,51,57,52,57,53,57,54,57,55,57,56,57,57])) (.t 154)),[]),(zo 156 (.fC 45 (.t 145) (.t 147)),[]),(zS 5 156 153,[]),(zo 157 (.fC 45 (.t 148) (.t 150)),[]),(zS 5 157 155,[])]))
 (.cut [0,4,12] (.reg [zV 158 4,zD 159 .sub 3 158 2,zV 4 159])))))
 .skip))
 (.cut [1000000,0,4,12] (.seq (.reg [zV 160 4,zD 161 .gtr 3 160 0])
 (.cond (.t 161)
 (.cut [0,12] (.reg [zV 162 0,zV 163 12,zo 164 (.bin .add 28 (.c (.i .u32 48)) (.t 163)),zo 165 (.conv 28 5 (.t 164)),zo 166 (.fC 45 (.t 162) (.c (.i .i64 0))),zS 5 166 165]))
 .skip))))))))))
def vN:AF:=⟨167,[],c222⟩
def c223L0:AC:=(.seq (.seq (.cut [0,1,3,4,10,11,12,13,14,15,16] (.reg [zV 44 1,zV 45 15,zB 46 .geq 39 44 45]))
 (.cond (.t 46)
 .skip
 (.exit 0)))
 (.blk 1
 (.seq (.cut [0,1,3,4,10,11,12,13,14,15,16] (.reg [zV 47 13,zD 48 .sub 3 47 1,zV 13 48]))
 (.seq (.cut [0,1,3,4,10,11,12,13,14,15,16] (.reg [zV 49 13,zV 50 1,zV 51 16,zB 52 .and 178 50 51,zo 53 (.idx 9 (.c (.s [48,49,50,51,52,53,54,55,56,57,97,98,99,100,101,102,103,104,105,106,107,108,109,110,111,112,113,114,115,116,117,118,119,120,121,122])) (.t 52)),zo 54 (.fC 291 (.t 12) (.t 49)),zS 5 54 53]))
 (.cut [0,1,3,4,10,11,12,13,14,15,16] (.reg [zV 55 1,zV 56 14,zB 57 .shr 39 55 56,zV 1 57]))))))
def c223L1:AC:=(.seq (.seq (.cut [0,1,3,4,10,11,12,13,17] (.reg [zV 66 1,zV 67 17,zB 68 .geq 39 66 67]))
 (.cond (.t 68)
 .skip
 (.exit 2)))
 (.blk 3
 (.seq (.cut [0,1,3,4,10,11,12,13,17] (.reg [zV 69 13,zD 70 .sub 3 69 1,zV 13 70]))
 (.seq (.cut [0,1,3,4,10,11,12,13,17] (.reg [zV 71 1,zV 72 17,zB 73 .quo 39 71 72,zV 18 73]))
 (.seq (.cut [0,1,3,4,10,11,12,13,17,18] (.reg [zV 74 13,zV 75 1,zV 76 18,zV 77 17,zB 78 .mul 39 76 77,zB 79 .sub 39 75 78,zo 80 (.idx 9 (.c (.s [48,49,50,51,52,53,54,55,56,57,97,98,99,100,101,102,103,104,105,106,107,108,109,110,111,112,113,114,115,116,117,118,119,120,121,122])) (.t 79)),zo 81 (.fC 291 (.t 12) (.t 74)),zS 5 81 80]))
 (.reg [zV 82 18,zV 1 82]))))))
def c223:AC:=(.seq (.reg [zo 10 (.mv (.c (.sl0))),zo 11 (.mv (.c (.s [])))])
 (.seq (.seq (.cut [0,1,2,3,4,10,11] (.reg [zV 19 2,zD 20 .lss 3 19 2,zV 21 20,jK 22 21 2,dX 23 21 (.bin .eql 3 (.t 22) (.c (.i .i64 10))),zo 24 (.pick (.t 21) (.c (.b true)) (.t 23)),zV 25 24,jK 26 25 2,dX 27 25 (.bin .gtr 3 (.t 26) (.c (.i .i64 36))),zo 28 (.pick (.t 25) (.c (.b true)) (.t 27))]))
 (.cond (.t 28)
 (.reg [zo 29 (.Vz 9 (.c (.s [115,116,114,99,111,110,118,58,32,105,108,108,101,103,97,108,32,65,112,112,101,110,100,73,110,116,47,70,111,114,109,97,116,73,110,116,32,98,97,115,101]))),zn (.pnc (.t 29))])
 .skip))
 (.cut [1000000,0,1,2,3,4,10,11] (.seq (.reg [zo 12 (.alloc 291)])
 (.seq (.reg [zo 13 (.mv (.c (.i .i64 65)))])
 (.seq (.seq (.reg [zV 30 3])
 (.cond (.t 30)
 (.cut [0,1,2,3,4,10,11,12,13] (.reg [zV 31 1,zo 32 (.un .neg (.t 31)),zV 1 32]))
 .skip))
 (.cut [1000000,0,1,2,3,4,10,11,12,13] (.seq (.seq (.reg [zV 33 2,zC 34 237 [.t 33]])
 (.cond (.t 34)
 (.seq (.cut [0,1,2,3,4,10,11,12,13] (.reg [zV 35 2,zo 36 (.conv 3 178 (.t 35)),zC 37 238 [.t 36],zo 38 (.conv 3 178 (.t 37)),zV 14 38]))
 (.seq (.cut [0,1,2,3,4,10,11,12,13,14] (.reg [zV 39 2,zo 40 (.conv 3 39 (.t 39)),zV 15 40]))
 (.seq (.cut [0,1,2,3,4,10,11,12,13,14,15] (.reg [zV 41 2,zo 42 (.conv 3 178 (.t 41)),zo 43 (.bin .sub 178 (.t 42) (.c (.i .u64 1))),zV 16 43]))
 (.seq (.blk 0
 (.loop [0,1,3,4,10,11,12,13,14,15,16] c223L0))
 (.seq (.cut [0,1,3,4,10,11,12,13] (.reg [zV 58 13,zD 59 .sub 3 58 1,zV 13 59]))
 (.cut [0,1,3,4,10,11,12,13] (.reg [zV 60 13,zV 61 1,zo 62 (.idx 9 (.c (.s [48,49,50,51,52,53,54,55,56,57,97,98,99,100,101,102,103,104,105,106,107,108,109,110,111,112,113,114,115,116,117,118,119,120,121,122])) (.t 61)),zo 63 (.fC 291 (.t 12) (.t 60)),zS 5 63 62])))))))
 (.seq (.cut [0,1,2,3,4,10,11,12,13] (.reg [zV 64 2,zo 65 (.conv 3 39 (.t 64)),zV 17 65]))
 (.seq (.blk 2
 (.loop [0,1,3,4,10,11,12,13,17] c223L1))
 (.seq (.cut [0,1,3,4,10,11,12,13] (.reg [zV 83 13,zD 84 .sub 3 83 1,zV 13 84]))
 (.cut [0,1,3,4,10,11,12,13] (.reg [zV 85 13,zV 86 1,zo 87 (.idx 9 (.c (.s [48,49,50,51,52,53,54,55,56,57,97,98,99,100,101,102,103,104,105,106,107,108,109,110,111,112,113,114,115,116,117,118,119,120,121,122])) (.t 86)),zo 88 (.fC 291 (.t 12) (.t 85)),zS 5 88 87])))))))
 (.cut [1000000,0,3,4,10,11,12,13] (.seq (.seq (.reg [zV 89 3])
 (.cond (.t 89)
 (.seq (.cut [0,4,10,11,12,13] (.reg [zV 90 13,zD 91 .sub 3 90 1,zV 13 91]))
 (.cut [0,4,10,11,12,13] (.reg [zV 92 13,zo 93 (.fC 291 (.t 12) (.t 92)),zn (.store 5 (.t 93) (.c (.i .u8 45)))])))
 .skip))
 (.cut [1000000,0,4,10,11,12,13] (.seq (.seq (.reg [zV 94 4])
 (.cond (.t 94)
 (.seq (.cut [0,11,12,13] (.reg [zV 95 0,zV 96 13,zo 97 (.slc 291 (.t 12) (some (.t 96)) none),zo 98 (.app 45 false (.t 95) (.t 97)),zV 10 98]))
 .ret)
 .skip))
 (.seq (.cut [10,12,13] (.reg [zV 99 13,zo 100 (.slc 291 (.t 12) (some (.t 99)) none),zo 101 (.conv 45 9 (.t 100)),zV 11 101]))
 .ret)))))))))))))
def xO:AF:=⟨102,[.t 10,.t 11],c223⟩
def c225L0:AC:=(.seq (.seq (.cut [0,4,5] (.reg [zV 9 5,zV 10 0,zo 11 (.len 9 (.t 10)),zB 12 .lss 3 9 11]))
 (.cond (.t 12)
 .skip
 (.exit 0)))
 (.seq (.blk 1
 (.cut [0,4,5] (.reg [zV 15 4,zo 16 (.bin .mul 28 (.t 15) (.c (.i .u32 16777619))),zV 17 0,zV 18 5,zo 19 (.idx 9 (.t 17) (.t 18)),zo 20 (.conv 5 28 (.t 19)),zB 21 .add 28 16 20,zV 4 21])))
 (.cut [0,4,5] (.reg [zV 13 5,zD 14 .add 3 13 1,zV 5 14]))))
def c225L1:AC:=(.seq (.seq (.reg [zV 24 8,zD 25 .gtr 3 24 0])
 (.cond (.t 25)
 .skip
 (.exit 2)))
 (.seq (.blk 3
 (.seq (.seq (.cut [4,6,7,8] (.reg [zV 28 8,zD 29 .and 3 28 1,zD 30 .neq 3 29 0]))
 (.cond (.t 30)
 (.cut [4,6,7,8] (.reg [zV 31 6,zV 32 7,zB 33 .mul 28 31 32,zV 6 33]))
 .skip))
 (.cut [1000000,4,6,7,8] (.cut [4,6,7,8] (.reg [zV 34 7,zV 35 7,zB 36 .mul 28 34 35,zV 7 36])))))
 (.cut [4,6,7,8] (.reg [zV 26 8,zo 27 (.bin .shr 3 (.t 26) (.c (.i .u64 1))),zV 8 27]))))
def c225:AC:=(.seq (.reg [zo 2 (.mv (.c (.i .u32 0))),zo 3 (.mv (.c (.i .u32 0)))])
 (.seq (.reg [zo 4 (.mv (.c (.i .u32 0)))])
 (.seq (.seq (.reg [zo 5 (.mv (.c (.i .i64 0)))])
 (.blk 0
 (.loop [0,4,5] c225L0)))
 (.seq (.reg [zo 6 (.mv (.c (.i .u32 1))),zo 7 (.mv (.c (.i .u32 16777619)))])
 (.seq (.seq (.cut [0,4,6,7] (.reg [zV 22 0,zo 23 (.len 9 (.t 22)),zV 8 23]))
 (.blk 2
 (.loop [4,6,7,8] c225L1)))
 (.seq (.cut [4,6] (.reg [zV 37 4,zV 38 6,zV 2 37,zV 3 38]))
 .ret))))))
def DY:AF:=⟨39,[.t 2,.t 3],c225⟩
def c226:AC:=(.seq (.reg [zo 4 (.mv (.c (.s []))),zo 5 (.mv (.c (.b false)))])
 (.seq (.seq (.cut [0,1] (.reg [zV 7 1,zD 8 .lss 3 7 0,zV 9 8,jK 10 9 1,jK 11 9 0,dX 12 9 (.call (.c (.fn (.func 239) [] [])) [.t 11]),dX 13 9 (.bin .gtr 3 (.t 10) (.t 12)),zo 14 (.pick (.t 9) (.c (.b true)) (.t 13)),zV 15 14,jK 16 15 0,dX 17 15 (.bin .eql 257 (.t 16) (.c (.p0))),zo 18 (.pick (.t 15) (.c (.b true)) (.t 17))]))
 (.cond (.t 18)
 (.seq (.reg [zo 4 (.mv (.c (.s []))),zo 5 (.mv (.c (.b false)))])
 .ret)
 .skip))
 (.seq (.cut [0,1] (.reg [zV 19 0,zN 20 19,zF 21 279 20 0,zL 22 45 21,zV 23 1,zV 24 1,zo 25 (.sl3 45 (.t 22) none (.t 23) (.t 24)),zo 26 (.conv 45 9 (.t 25)),zV 6 26]))
 (.seq (.cut [0,1,6] (.reg [zV 27 0,zV 28 0,zN 29 28,zF 30 279 29 0,zL 31 45 30,zV 32 1,zo 33 (.slc 45 (.t 31) (some (.t 32)) none),zN 34 27,zF 35 279 34 0,zS 45 35 33]))
 (.seq (.cut [6] (.reg [zV 36 6,zV 4 36,zo 5 (.mv (.c (.b true)))]))
 .ret)))))
def NK:AF:=⟨37,[.t 4,.t 5],c226⟩
def c227:AC:=(.seq (.reg [zo 4 (.mv (.c (.i .i64 0)))])
 (.seq (.cut [0,1] (.reg [zV 5 0,zV 6 1,zC 7 199 [.t 5,.t 6],zV 4 7]))
 .ret))
def NM:AF:=⟨8,[.t 4],c227⟩
def c228:AC:=(.seq (.reg [zo 2 (.mv (.c (.b false)))])
 (.seq (.blk 0
 (.seq (.cut [0] (.reg [zV 4 0,zo 5 (.bin .leq 21 (.c (.i .i32 0)) (.t 4)),zV 6 5,gB 7 6 0,cu 8 6 (.bin .lss 21 (.t 7) (.c (.i .i32 55296))),zo 9 (.pick (.t 6) (.t 8) (.c (.b false))),zV 3 9]))
 (.cond (.t 3)
 (.seq (.reg [zo 2 (.mv (.c (.b true)))])
 .ret)
 (.seq (.cut [0] (.reg [zV 11 0,zo 12 (.bin .lss 21 (.c (.i .i32 57343)) (.t 11)),zV 13 12,gB 14 13 0,cu 15 13 (.bin .leq 21 (.t 14) (.c (.i .i32 1114111))),zo 16 (.pick (.t 13) (.t 15) (.c (.b false))),zV 10 16]))
 (.cond (.t 10)
 (.seq (.reg [zo 2 (.mv (.c (.b true)))])
 .ret)
 .skip)))))
 (.seq (.reg [zo 2 (.mv (.c (.b false)))])
 .ret)))
def NP:AF:=⟨17,[.t 2],c228⟩
def c234:AC:=(.seq (.reg [zo 2 (.mv (.c (.i .i64 0)))])
 (.seq (.cut [0] (.reg [zV 3 0,zD 4 .mul 3 3 78913,zo 5 (.bin .shr 3 (.t 4) (.c (.i .u64 18))),zV 2 5]))
 .ret))
def NQ:AF:=⟨6,[.t 2],c234⟩
def c235:AC:=(.seq (.reg [zo 2 (.mv (.c (.i .i64 0)))])
 (.seq (.seq (.reg [zV 3 0,zo 4 (.bin .geq 39 (.t 3) (.c (.i .u64 4294967296)))])
 (.cond (.t 4)
 (.seq (.cut [0] (.reg [zV 5 0,zo 6 (.bin .shr 39 (.t 5) (.c (.i .u64 32))),zV 0 6]))
 (.reg [zo 2 (.mv (.c (.i .i64 32)))]))
 .skip))
 (.cut [1000000,0,2] (.seq (.seq (.reg [zV 7 0,zo 8 (.bin .geq 39 (.t 7) (.c (.i .u64 65536)))])
 (.cond (.t 8)
 (.seq (.cut [0,2] (.reg [zV 9 0,zo 10 (.bin .shr 39 (.t 9) (.c (.i .u64 16))),zV 0 10]))
 (.cut [0,2] (.reg [zV 11 2,zD 12 .add 3 11 16,zV 2 12])))
 .skip))
 (.cut [1000000,0,2] (.seq (.seq (.reg [zV 13 0,zo 14 (.bin .geq 39 (.t 13) (.c (.i .u64 256)))])
 (.cond (.t 14)
 (.seq (.cut [0,2] (.reg [zV 15 0,zo 16 (.bin .shr 39 (.t 15) (.c (.i .u64 8))),zV 0 16]))
 (.cut [0,2] (.reg [zV 17 2,zD 18 .add 3 17 8,zV 2 18])))
 .skip))
 (.cut [1000000,0,2] (.seq (.cut [0,2] (.reg [zV 19 2,zV 20 0,zo 21 (.conv 39 5 (.t 20)),zo 22 (.idx 9 (.c (.s [0,1,2,2,3,3,3,3,4,4,4,4,4,4,4,4,5,5,5,5,5,5,5,5,5,5,5,5,5,5,5,5,6,6,6,6,6,6,6,6,6,6,6,6,6,6,6,6,6,6,6,6,6,6,6,6,6,6,6,6,6,6,6,6,7,7,7,7,7,7,7,7,7,7,7,7,7,7,7,7,7,7,7,7,7,7,7,7,7,7,7,7,7,7,7,7,7,7,7,7,7,7,7,7,7,7,7,7,7,7,7,7,7,7,7,7,7,7,7,7,7,7,7,7,7,7,7,7,8,8,8,8,8,8,8,8,8,8,8,8,8,8,8,8,8,8,8,8,8,8,8,8,8,8,8,8,8,8,8,8,8,8,8,8,8,8,8,8,8,8,8,8,8,8,8,8,8,8,8,8,8,8,8,8,8,8,8,8,8,8,8,8,8,8,8,8,8,8,8,8,8,8,8,8,8,8,8,8,8,8,8,8,8,8,8,8,8,8,8,8,8,8,8,8,8,8,8,8,8,8,8,8,8,8,8,8,8,8,8,8,8,8,8,8,8,8,8,8,8,8,8,8,8,8,8,8])) (.t 21)),zo 23 (.conv 5 3 (.t 22)),zB 24 .add 3 19 23,zV 2 24]))
 .ret))))))))
def DZ:AF:=⟨25,[.t 2],c235⟩
def c236:AC:=(.seq (.reg [zo 2 (.mv (.c (.i .i64 0)))])
 (.seq (.seq (.reg [zV 3 0])
 (.cond (.t 3)
 (.seq (.reg [zo 2 (.mv (.c (.i .i64 1)))])
 .ret)
 .skip))
 (.seq (.reg [zo 2 (.mv (.c (.i .i64 0)))])
 .ret)))
def NR:AF:=⟨4,[.t 2],c236⟩
def c237:AC:=(.seq (.reg [zo 2 (.mv (.c (.b false)))])
 (.seq (.cut [0] (.reg [zV 3 0,zV 4 0,zD 5 .sub 3 4 1,zB 6 .and 3 3 5,zD 7 .eql 3 6 0,zV 2 7]))
 .ret))
def NS:AF:=⟨8,[.t 2],c237⟩
def c238:AC:=(.seq (.reg [zo 2 (.mv (.c (.i .i64 0)))])
 (.seq (.cond (.c (.b false))
 (.seq (.cut [0] (.reg [zV 3 0,zo 4 (.conv 178 28 (.t 3)),zC 5 241 [.t 4],zV 2 5]))
 .ret)
 .skip)
 (.seq (.cut [0] (.reg [zV 6 0,zC 7 242 [.t 6],zV 2 7]))
 .ret)))
def NT:AF:=⟨8,[.t 2],c238⟩
def c239:AC:=(.seq (.reg [zo 2 (.mv (.c (.i .i64 0)))])
 (.seq (.seq (.reg [zV 3 0,zo 4 (.bin .eql 257 (.t 3) (.c (.p0)))])
 (.cond (.t 4)
 (.seq (.reg [zo 2 (.mv (.c (.i .i64 0)))])
 .ret)
 .skip))
 (.seq (.cut [0] (.reg [zV 5 0,zN 6 5,zF 7 279 6 0,zL 8 45 7,zo 9 (.len 45 (.t 8)),zV 2 9]))
 .ret)))
def NU:AF:=⟨10,[.t 2],c239⟩
def fns:Nat→Option AF
 | 3=>some F3
 | 4=>some F4
 | 7=>some F7
 | 8=>some F8
 | 9=>some F9
 | 10=>some F10
 | 11=>some F11
 | 12=>some F12
 | 13=>some F13
 | 14=>some F14
 | 15=>some F15
 | 16=>some F16
 | 17=>some F17
 | 23=>some F23
 | 24=>some VF
 | 25=>some F25
 | 26=>some F26
 | 27=>some F27
 | 28=>some F28
 | 29=>some F29
 | 30=>some F30
 | 31=>some F31
 | 34=>some F34
 | 35=>some F35
 | 36=>some F36
 | 37=>some F37
 | 38=>some F38
 | 47=>some F47
 | 48=>some F48
 | 49=>some F49
 | 50=>some VG
 | 51=>some F51
 | 52=>some F52
 | 53=>some F53
 | 54=>some F54
 | 55=>some F55
 | 56=>some F56
 | 57=>some F57
 | 58=>some F58
 | 59=>some F59
 | 60=>some F60
 | 61=>some F61
 | 62=>some F62
 | 63=>some F63
 | 64=>some F64
 | 65=>some F65
 | 66=>some F66
 | 67=>some F67
 | 68=>some F68
 | 69=>some WO
 | 70=>some VH
 | 71=>some F71
 | 72=>some F72
 | 73=>some F73
 | 74=>some F74
 | 75=>some F75
 | 76=>some F76
 | 79=>some F79
 | 80=>some F80
 | 81=>some F81
 | 82=>some F82
 | 83=>some F83
 | 86=>some F86
 | 87=>some F87
 | 88=>some F88
 | 89=>some F89
 | 90=>some F90
 | 91=>some F91
 | 92=>some F92
 | 93=>some F93
 | 94=>some F94
 | 95=>some F95
 | 96=>some F96
 | 97=>some F97
 | 98=>some F98
 | 99=>some F99
 | 100=>some JH
 | 101=>some Mc
 | 102=>some JI
 | 103=>some Md
 | 104=>some F5
 | 105=>some Me
 | 106=>some MB
 | 107=>some DW
 | 108=>some MC
 | 109=>some MF
 | 110=>some MG
 | 111=>some JJ
 | 112=>some MH
 | 113=>some MI
 | 114=>some MJ
 | 115=>some JK
 | 116=>some MK
 | 117=>some ML
 | 118=>some MN
 | 119=>some MO
 | 121=>some MP
 | 132=>some MQ
 | 133=>some MR
 | 137=>some MS
 | 140=>some JL
 | 141=>some JM
 | 142=>some JO
 | 145=>some MV
 | 147=>some MW
 | 148=>some MX
 | 149=>some MZ
 | 150=>some M_
 | 151=>some F6
 | 152=>some JQ
 | 153=>some yZ
 | 154=>some Na
 | 155=>some Nb
 | 156=>some Nc
 | 157=>some JR
 | 158=>some Gf
 | 159=>some Nh
 | 160=>some Nj
 | 161=>some JU
 | 162=>some Nk
 | 163=>some Gg
 | 180=>some Nl
 | 187=>some Np
 | 188=>some Nq
 | 189=>some Nr
 | 194=>some JV
 | 195=>some Ns
 | 196=>some Nu
 | 197=>some JW
 | 199=>some Nv
 | 201=>some Nw
 | 202=>some DX
 | 203=>some Ny
 | 204=>some Nz
 | 206=>some NC
 | 207=>some ND
 | 208=>some NG
 | 214=>some NH
 | 220=>some NI
 | 221=>some NJ
 | 222=>some vN
 | 223=>some xO
 | 225=>some DY
 | 226=>some NK
 | 227=>some NM
 | 228=>some NP
 | 234=>some NQ
 | 235=>some DZ
 | 236=>some NR
 | 237=>some NS
 | 238=>some NT
 | 239=>some NU
 | _=>none
end Go.dB.YtnbdedokjfpckaaGreatDoor
