/- Texts of this claim, joined: Code. -/
import Derived.Test.YthoodopjoaigdaaGreatDoorM01
set_option linter.unusedVariables false
set_option linter.unusedSimpArgs false
namespace Go.bP.YthoodopjoaigdaaGreatDoor
@[reducible] def zo (d:Nat) (o:eH):AI:=⟨some d,none,o⟩
@[reducible] def aZ (d g:Nat) (o:eH):AI:=⟨some d,some (g,true),o⟩
@[reducible] def bY (d g:Nat) (o:eH):AI:=⟨some d,some (g,false),o⟩
@[reducible] def zn (o:eH):AI:=⟨none,none,o⟩
@[reducible] def zV (d a:Nat):AI:=⟨some d,none,.mv (.t a)⟩
@[reducible] def eu (d g a:Nat):AI:=⟨some d,some (g,true),.mv (.t a)⟩
@[reducible] def gY (d g a:Nat):AI:=⟨some d,some (g,false),.mv (.t a)⟩
@[reducible] def zL (d t a:Nat):AI:=⟨some d,none,.load t (.t a)⟩
@[reducible] def zN (d a:Nat):AI:=⟨some d,none,.bn (.t a)⟩
@[reducible] def zF (d t a k:Nat):AI:=⟨some d,none,.eY t (.t a) k⟩
@[reducible] def zE (d a k:Nat):AI:=⟨some d,none,.ext (.t a) k⟩
@[reducible] def zS (t a b:Nat):AI:=⟨none,none,.store t (.t a) (.t b)⟩
@[reducible] def zC (d f:Nat) (l:List dI):AI:=⟨some d,none,.call (.c (.fn (.func f) [] [])) l⟩
@[reducible] def zB (d:Nat) (o:BinOp) (t a b:Nat):AI:=⟨some d,none,.bin o t (.t a) (.t b)⟩
@[reducible] def zD (d:Nat) (o:BinOp) (t a:Nat) (b:Int):AI:=⟨some d,none,.bin o t (.t a) (.c (.i .i64 b))⟩
def c2:AC:=(.reg [zC 0 1 []])
def F2:AF:=⟨1,[],c2⟩
def c3:AC:=(.seq (.reg [zo 2 (.mv (.c (.b false)))])
 (.seq (.cut [0] (.reg [zV 9 0,zC 10 4 [.t 9],zV 8 10,zE 11 8 0,zE 12 8 1,zV 3 11,zV 4 12]))
 (.seq (.cut [0,3,4] (.reg [zV 14 0,zC 15 5 [.t 14],zV 13 15,zE 16 13 0,zE 17 13 1,zE 18 13 2,zo 6 (.alloc 29),zV 5 16,zS 29 6 17,zV 7 18]))
 (.seq (.cut [3,4,5,6,7] (.reg [zV 19 4,zL 20 29 6,zV 21 7,zC 22 6 [.t 19,.t 20,.t 21],zV 23 22,eu 24 23 3,eu 25 23 5,aZ 26 23 (.call (.c (.fn (.func 7) [] [])) [.t 24,.t 25]),zo 27 (.pick (.t 23) (.t 26) (.c (.b false))),zV 28 27,aZ 29 28 (.call (.c (.fn (.func 8) [] [])) []),zo 30 (.pick (.t 28) (.t 29) (.c (.b false))),zV 2 30]))
 .ret))))
def F3:AF:=⟨31,[.t 2],c3⟩
def Xh:AC:=(.seq (.seq (.cut [6,7] (.reg [zV 21 6,zC 22 10 [.t 21],zo 23 (.un .not (.t 22)),zV 24 23,eu 25 24 6,aZ 26 24 (.call (.c (.fn (.func 11) [] [])) [.t 25]),aZ 27 24 (.MB 47 (.t 26) 0),aZ 28 24 (.bin .neq 3 (.t 27) (.c (.i .i64 5))),zo 29 (.pick (.t 24) (.t 28) (.c (.b false)))]))
 (.cond (.t 29)
 .skip
 (.exit 0)))
 (.blk 1
 (.cut [6,7] (.jm [(zV 30 7,[]),(zV 31 7,[]),(zN 32 31,[]),(zF 33 45 32 0,[]),(zL 34 43 33,[]),(zV 35 6,[]),(zC 36 12 [.t 35],[zL 34 43 33]),(zo 37 (.iM 43 1 [(0,.t 36)]),[zL 34 43 33]),(zo 38 (.app 43 false (.t 34) (.t 37)),[]),(zN 39 30,[]),(zF 40 45 39 0,[]),(zS 43 40 38,[])]))))
def c4:AC:=(.seq (.reg [zo 2 (.mv (.c (.p0))),zo 3 (.mv (.c (.fM)))])
 (.seq (.cut [0] (.reg [zV 9 0,zC 10 9 [.t 9],zV 8 10,zE 11 8 0,zE 12 8 1,zV 4 11,zV 5 12]))
 (.seq (.seq (.reg [zV 13 5,zo 14 (.bin .neq 24 (.t 13) (.c (.fM)))])
 (.cond (.t 14)
 (.seq (.cut [5] (.reg [zV 15 5,zo 2 (.mv (.c (.p0))),zV 3 15]))
 .ret)
 .skip))
 (.seq (.cut [4] (.reg [zV 16 4,zo 17 (.build 42 [(0,.t 16)]),zo 18 (.box 42 (.t 17)),zV 6 18]))
 (.seq (.cut [6] (.reg [zo 19 (.build 45 []),zo 20 (.box 45 (.t 19)),zV 7 20]))
 (.seq (.blk 0
 (.loop [6,7] Xh))
 (.seq (.seq (.reg [zV 41 6,zC 42 10 [.t 41]])
 (.cond (.t 42)
 (.seq (.cut [6] (.jm [(zV 43 6,[]),(zN 44 43,[]),(zF 45 42 44 2,[]),(zL 46 40 45,[]),(zo 47 (.Me 40 (.t 46)),[]),(zo 2 (.mv (.c (.p0))),[]),(zV 3 47,[])]))
 .ret)
 .skip))
 (.seq (.cut [7] (.reg [zV 48 7,zV 2 48,zo 3 (.mv (.c (.fM)))]))
 .ret))))))))
def F4:AF:=⟨49,[.t 2,.t 3],c4⟩
def Xi:AC:=(.seq (.seq (.cut [3,7,8] (.reg [zV 27 7,zN 28 27,zF 29 56 28 3,zL 30 4 29,zo 31 (.un .not (.t 30)),zV 32 31,eu 33 32 7,aZ 34 32 (.call (.c (.fn (.func 14) [] [])) [.t 33]),aZ 35 32 (.MB 47 (.t 34) 0),aZ 36 32 (.bin .neq 3 (.t 35) (.c (.i .i64 5))),zo 37 (.pick (.t 32) (.t 36) (.c (.b false)))]))
 (.cond (.t 37)
 .skip
 (.exit 0)))
 (.blk 1
 (.cut [3,7,8] (.jm [(zV 38 8,[]),(zV 39 8,[]),(zN 40 39,[]),(zF 41 45 40 0,[]),(zL 42 43 41,[]),(zV 43 7,[]),(zC 44 15 [.t 43],[zL 42 43 41]),(zo 45 (.iM 43 1 [(0,.t 44)]),[zL 42 43 41]),(zo 46 (.app 43 false (.t 42) (.t 45)),[]),(zN 47 38,[]),(zF 48 45 47 0,[]),(zS 43 48 46,[])]))))
def c5:AC:=(.seq (.cut [0] (.reg [zo 2 (.mv (.c (.p0))),zo 3 (.alloc 29),zo 4 (.mv (.c (.b false)))]))
 (.seq (.cut [0,3] (.reg [zV 10 0,zC 11 13 [.t 10],zV 9 11,zE 12 9 0,zE 13 9 1,zo 6 (.alloc 51),zV 5 12,zS 51 6 13]))
 (.seq (.seq (.cut [3,5,6] (.reg [zF 14 51 6 0,zL 15 27 14,zD 16 .neq 27 15 0]))
 (.cond (.t 16)
 (.seq (.cut [3,6] (.jm [(zF 17 51 6 0,[]),(zL 18 27 17,[]),(zF 19 51 6 1,[]),(zL 20 3 19,[]),(zo 21 (.build 29 [(0,.t 18),(1,.t 20)]),[]),(zo 2 (.mv (.c (.p0))),[]),(zS 29 3 21,[]),(zo 4 (.mv (.c (.b true))),[])]))
 .ret)
 .skip))
 (.seq (.cut [3,5] (.reg [zV 22 5,zo 23 (.build 56 [(0,.t 22)]),zo 24 (.box 56 (.t 23)),zV 7 24]))
 (.cut [1000000,3,7] (.seq (.cut [3,7] (.reg [zo 25 (.build 45 []),zo 26 (.box 45 (.t 25)),zV 8 26]))
 (.seq (.blk 0
 (.loop [3,7,8] Xi))
 (.seq (.seq (.cut [3,7,8] (.reg [zV 49 7,zN 50 49,zF 51 56 50 3,zL 52 4 51]))
 (.cond (.t 52)
 (.seq (.cut [3,7] (.jm [(zV 53 7,[]),(zN 54 53,[]),(zF 55 56 54 4,[]),(zL 56 29 55,[]),(zo 2 (.mv (.c (.p0))),[]),(zS 29 3 56,[]),(zo 4 (.mv (.c (.b true))),[])]))
 .ret)
 .skip))
 (.cut [1000000,3,8] (.seq (.cut [3,8] (.reg [zV 57 8,zo 58 (.build 29 []),zV 2 57,zS 29 3 58,zo 4 (.mv (.c (.b false)))]))
 .ret))))))))))
def F5:AF:=⟨59,[.t 2,.cell 3 29,.t 4],c5⟩
def c6:AC:=(.seq (.reg [zo 4 (.box 29 (.t 1)),zo 6 (.mv (.c (.b false)))])
 (.seq (.seq (.cut [0,2,4] (.reg [zV 8 0,zo 9 (.bin .eql 24 (.t 8) (.c (.fM))),zV 10 9,gY 11 10 2,bY 12 10 (.un .not (.t 11)),zo 13 (.pick (.t 10) (.c (.b true)) (.t 12))]))
 (.cond (.t 13)
 (.seq (.cut [0,2] (.reg [zV 14 0,zo 15 (.bin .eql 24 (.t 14) (.c (.fM))),zV 16 15,eu 17 16 2,aZ 18 16 (.un .not (.t 17)),zo 19 (.pick (.t 16) (.t 18) (.c (.b false))),zV 6 19]))
 .ret)
 .skip))
 (.seq (.reg [zo 7 (.alloc 40)])
 (.seq (.cut [0,4,7] (.jm [(zV 20 0,[]),(zo 21 (.Me 58 (.t 7)),[]),(zC 22 16 [.t 20,.t 21],[]),(zV 23 22,[]),(aZ 24 23 (.load 40 (.t 7)),[]),(aZ 25 23 (.bn (.t 24)),[]),(aZ 26 23 (.eY 29 (.t 25) 0),[]),(aZ 27 23 (.load 27 (.t 26)),[]),(aZ 28 23 (.eY 29 (.t 4) 0),[]),(aZ 29 23 (.load 27 (.t 28)),[]),(aZ 30 23 (.bin .eql 27 (.t 27) (.t 29)),[]),(zo 31 (.pick (.t 23) (.t 30) (.c (.b false))),[]),(zV 32 31,[]),(aZ 33 32 (.load 40 (.t 7)),[]),(aZ 34 32 (.bn (.t 33)),[]),(aZ 35 32 (.eY 29 (.t 34) 1),[]),(aZ 36 32 (.load 3 (.t 35)),[]),(aZ 37 32 (.eY 29 (.t 4) 1),[]),(aZ 38 32 (.load 3 (.t 37)),[]),(aZ 39 32 (.bin .eql 3 (.t 36) (.t 38)),[]),(zo 40 (.pick (.t 32) (.t 39) (.c (.b false))),[]),(zV 41 40,[]),(eu 42 41 0,[]),(aZ 43 41 (.eY 29 (.t 4) 0),[]),(aZ 44 41 (.load 27 (.t 43)),[]),(aZ 45 41 (.Me 27 (.t 44)),[]),(aZ 46 41 (.call (.c (.fn (.func 17) [] [])) [.t 42,.t 45]),[]),(zo 47 (.pick (.t 41) (.t 46) (.c (.b false))),[]),(zV 6 47,[])]))
 (.cut [1000000,6] .ret)))))
def F6:AF:=⟨48,[.t 6],c6⟩
def c7:AC:=(.seq (.reg [zo 4 (.mv (.c (.b false)))])
 (.seq (.cut [0,1] (.reg [zV 5 0,zV 6 1,zC 7 18 [.t 5,.t 6,.c (.b true)],zV 4 7]))
 .ret))
def F7:AF:=⟨8,[.t 4],c7⟩
def c8:AC:=(.seq (.reg [zo 0 (.mv (.c (.b false)))])
 (.seq (.cut [] (.reg [zC 7 4 [.c (.s [102,117,110,99,32,109,97,105,110,40,41,123,120,61,49,43,50,42,51,59,125])],zV 6 7,zE 8 6 0,zE 9 6 1,zV 1 8,zV 2 9]))
 (.seq (.seq (.reg [zV 10 2,zo 11 (.bin .neq 24 (.t 10) (.c (.fM)))])
 (.cond (.t 11)
 (.seq (.reg [zo 0 (.mv (.c (.b false)))])
 .ret)
 .skip))
 (.seq (.cut [1] (.reg [zV 13 1,zC 14 19 [.t 13],zV 12 14,zE 15 12 0,zE 16 12 1,zV 3 15,zV 4 16]))
 (.seq (.reg [zC 17 20 [.c (.s [49,43,50,42,51])],zV 5 17])
 (.seq (.cut [3,4,5] (.reg [zV 18 4,zD 19 .eql 27 18 0,zV 20 19,eu 21 20 3,aZ 22 20 (.bin .eql 9 (.t 21) (.c (.s [102,117,110,99,32,109,97,105,110,40,41,32,123,10,9,120,32,61,32,49,32,43,32,50,32,42,32,51,59,10,125,10]))),zo 23 (.pick (.t 20) (.t 22) (.c (.b false))),zV 24 23,eu 25 24 5,aZ 26 24 (.bin .neq 63 (.t 25) (.c (.p0))),zo 27 (.pick (.t 24) (.t 26) (.c (.b false))),zV 28 27,eu 29 28 5,aZ 30 28 (.bn (.t 29)),aZ 31 28 (.eY 68 (.t 30) 3),aZ 32 28 (.load 9 (.t 31)),aZ 33 28 (.bin .eql 9 (.t 32) (.c (.s [43]))),zo 34 (.pick (.t 28) (.t 33) (.c (.b false))),zV 35 34,eu 36 35 5,aZ 37 35 (.bn (.t 36)),aZ 38 35 (.eY 68 (.t 37) 4),aZ 39 35 (.load 63 (.t 38)),aZ 40 35 (.bin .neq 63 (.t 39) (.c (.p0))),zo 41 (.pick (.t 35) (.t 40) (.c (.b false))),zV 42 41,eu 43 42 5,aZ 44 42 (.bn (.t 43)),aZ 45 42 (.eY 68 (.t 44) 4),aZ 46 42 (.load 63 (.t 45)),aZ 47 42 (.bn (.t 46)),aZ 48 42 (.eY 68 (.t 47) 1),aZ 49 42 (.load 65 (.t 48)),aZ 50 42 (.bin .eql 65 (.t 49) (.c (.i .u32 1))),zo 51 (.pick (.t 42) (.t 50) (.c (.b false))),zV 52 51,eu 53 52 5,aZ 54 52 (.bn (.t 53)),aZ 55 52 (.eY 68 (.t 54) 5),aZ 56 52 (.load 63 (.t 55)),aZ 57 52 (.bin .neq 63 (.t 56) (.c (.p0))),zo 58 (.pick (.t 52) (.t 57) (.c (.b false))),zV 59 58,eu 60 59 5,aZ 61 59 (.bn (.t 60)),aZ 62 59 (.eY 68 (.t 61) 5),aZ 63 59 (.load 63 (.t 62)),aZ 64 59 (.bn (.t 63)),aZ 65 59 (.eY 68 (.t 64) 3),aZ 66 59 (.load 9 (.t 65)),aZ 67 59 (.bin .eql 9 (.t 66) (.c (.s [42]))),zo 68 (.pick (.t 59) (.t 67) (.c (.b false))),zV 69 68,aZ 70 69 (.call (.c (.fn (.func 21) [] [])) [.c (.s [40,49,43,50,41,42,51])]),aZ 71 69 (.bin .eql 9 (.t 70) (.c (.s [40,49,32,43,32,50,41,32,42,32,51]))),zo 72 (.pick (.t 69) (.t 71) (.c (.b false))),zV 0 72]))
 (.cut [1000000,0] .ret)))))))
def F8:AF:=⟨73,[.t 0],c8⟩
def Uh:AC:=(.seq (.seq (.cut [1,4,5,6,7] (.reg [zL 20 9 1,zo 21 (.len 9 (.t 20)),zD 22 .gtr 3 21 0]))
 (.cond (.t 22)
 .skip
 (.exit 0)))
 (.blk 1
 (.seq (.seq (.reg [zL 23 9 1,zC 24 23 [.t 23,.c (.s [47,47])]])
 (.cond (.t 24)
 (.seq (.cut [1,4,5,6,7] (.reg [zL 25 9 1,zC 26 24 [.t 25,.c (.i .u8 10)],zV 8 26]))
 (.seq (.seq (.reg [zV 27 8,zD 28 .lss 3 27 0])
 (.cond (.t 28)
 (.cut [1,4,5,6,7] (.reg [zL 29 9 1,zo 30 (.len 9 (.t 29)),zV 8 30]))
 .skip))
 (.cut [1000000,1,4,5,6,7,8] (.seq (.cut [1,4,5,6,7,8] (.reg [zL 31 9 1,zV 32 8,zo 33 (.slc 9 (.t 31) (some (.t 32)) none),zS 9 1 33]))
 (.exit 1)))))
 .skip))
 (.seq (.cut [1,4,5,6,7] (.reg [zL 34 9 1,zo 35 (.idx 9 (.t 34) (.c (.i .i64 0))),zo 36 (.conv 5 21 (.t 35)),zC 37 25 [.t 36]]))
 (.blk 2
 (.seq (.reg [zD 39 .eql 73 37 1,zV 38 39])
 (.cond (.t 38)
 (.seq (.seq (.cut [1,4,5,6,7] (.reg [zL 40 9 1,zo 41 (.idx 9 (.t 40) (.c (.i .i64 0))),zo 42 (.bin .eql 5 (.t 41) (.c (.i .u8 10)))]))
 (.cond (.t 42)
 (.cut [1,4,5,6,7] (.reg [zL 43 3 5,zD 44 .add 3 43 1,zS 3 5 44]))
 .skip))
 (.cut [1000000,1,4,5,6,7] (.cut [1,4,5,6,7] (.reg [zL 45 9 1,zo 46 (.slc 9 (.t 45) (some (.c (.i .i64 1))) none),zS 9 1 46]))))
 (.seq (.reg [zD 48 .eql 73 37 2,zV 47 48])
 (.cond (.t 47)
 (.seq (.cut [1,4,5,6,7] (.reg [zL 49 9 1,zo 50 (.iM 124 2 [(0,.c (.i .i64 2)),(1,.c (.i .i64 3))]),zC 51 26 [.t 49,.t 50],zV 9 51]))
 (.blk 3
 (.seq (.cut [1,4,5,6,7,9] (.reg [zV 56 9,zD 57 .gtr 3 56 32,zV 55 57]))
 (.cond (.t 55)
 (.seq (.reg [zo 7 (.mv (.c (.i .i64 9)))])
 (.exit 0))
 (.seq (.cut [1,4,5,6,7,9] (.jm [(zL 60 9 1,[]),(zV 61 9,[]),(zo 62 (.slc 9 (.t 60) none (some (.t 61))),[]),(zC 59 28 [],[zL 60 9 1,zo 62 (.slc 9 (.t 60) none (some (.t 61)))]),(zC 63 27 [.t 59,.t 62],[]),(zV 58 63,[])]))
 (.cond (.t 58)
 (.cut [1,4,5,6,7,9] (.reg [zV 64 6,zV 65 9,zo 66 (.call (.t 64) [.c (.i .i64 4),.t 65])]))
 (.cut [1,4,5,6,7,9] (.reg [zV 52 6,zV 53 9,zo 54 (.call (.t 52) [.c (.i .i64 1),.t 53])]))))))))
 (.seq (.reg [zD 68 .eql 73 37 3,zV 67 68])
 (.cond (.t 67)
 (.seq (.cut [1,4,5,6,7] (.reg [zL 69 9 1,zo 70 (.iM 124 1 [(0,.c (.i .i64 3))]),zC 71 26 [.t 69,.t 70],zV 10 71]))
 (.seq (.seq (.cut [1,4,5,6,7,10] (.reg [zL 72 9 1,zo 73 (.idx 9 (.t 72) (.c (.i .i64 0))),zo 74 (.bin .eql 5 (.t 73) (.c (.i .u8 48))),zV 75 74,eu 76 75 10,aZ 77 75 (.bin .gtr 3 (.t 76) (.c (.i .i64 1))),zo 78 (.pick (.t 75) (.t 77) (.c (.b false))),zV 79 78,bY 80 79 (.load 9 (.t 1)),gY 81 79 10,bY 82 79 (.slc 9 (.t 80) (some (.t 81)) none),bY 83 79 (.iM 124 1 [(0,.c (.i .i64 2))]),bY 84 79 (.call (.c (.fn (.func 26) [] [])) [.t 82,.t 83]),bY 85 79 (.bin .gtr 3 (.t 84) (.c (.i .i64 0))),zo 86 (.pick (.t 79) (.c (.b true)) (.t 85))]))
 (.cut [1000000,1,4,5,6,7,10,86] (.cond (.t 86)
 (.seq (.reg [zo 7 (.mv (.c (.i .i64 9)))])
 (.exit 0))
 .skip)))
 (.seq (.seq (.cut [1,4,5,6,7,10] (.reg [zL 88 9 1,zV 89 10,zo 90 (.slc 9 (.t 88) none (some (.t 89))),zC 91 29 [.t 90,.c (.i .i64 10),.c (.i .i64 32)],zV 87 91,zE 92 87 0,zE 93 87 1,zV 11 92,zV 12 93]))
 (.seq (.reg [zV 94 12,zo 95 (.bin .neq 24 (.t 94) (.c (.fM)))])
 (.cond (.t 95)
 (.seq (.reg [zo 7 (.mv (.c (.i .i64 3)))])
 (.exit 0))
 .skip)))
 (.cut [1,4,5,6,7,10] (.reg [zV 96 6,zV 97 10,zo 98 (.call (.t 96) [.c (.i .i64 2),.t 97])])))))
 (.seq (.reg [zD 100 .eql 73 37 4,zV 99 100])
 (.cond (.t 99)
 (.seq (.reg [zL 101 9 1,zC 102 30 [.t 101]])
 (.cond (.t 102)
 (.reg [zV 103 6,zo 104 (.call (.t 103) [.c (.i .i64 3),.c (.i .i64 2)])])
 (.reg [zV 105 6,zo 106 (.call (.t 105) [.c (.i .i64 3),.c (.i .i64 1)])])))
 (.seq (.reg [zo 7 (.mv (.c (.i .i64 9)))])
 (.exit 0)))))))))))))))
def c9:AC:=(.seq (.cut [0] (.reg [zo 1 (.box 9 (.t 0)),zo 2 (.mv (.c (.sl0))),zo 3 (.mv (.c (.fM)))]))
 (.seq (.seq (.cut [1] (.reg [zL 13 9 1,zo 14 (.len 9 (.t 13)),zD 15 .gtr 3 14 32768]))
 (.cond (.t 15)
 (.seq (.cut [] (.reg [zo 16 (.build 29 [(0,.c (.i .i64 3))]),zo 17 (.box 29 (.t 16)),zo 18 (.Me 40 (.t 17)),zo 2 (.mv (.c (.sl0))),zV 3 18]))
 .ret)
 .skip))
 (.seq (.reg [zo 4 (.alloc 36)])
 (.seq (.reg [zo 5 (.alloc 3),zn (.store 3 (.t 5) (.c (.i .i64 0)))])
 (.seq (.reg [zo 19 (.Gt (.func 22) [] [.t 4,.t 1,.t 5]),zV 6 19])
 (.seq (.reg [zo 7 (.mv (.c (.i .i64 0)))])
 (.seq .skip
 (.seq (.blk 0
 (.loop [1,4,5,6,7] Uh))
 (.cut [1000000,4,5,7] (.seq (.seq (.reg [zV 107 7,zD 108 .neq 27 107 0])
 (.cond (.t 108)
 (.seq (.cut [5,7] (.jm [(zV 109 7,[]),(zL 110 3 5,[]),(zo 111 (.build 29 [(0,.t 109),(1,.t 110)]),[]),(zo 2 (.mv (.c (.sl0))),[]),(zo 112 (.box 29 (.t 111)),[]),(zo 113 (.Me 40 (.t 112)),[]),(zV 3 113,[])]))
 .ret)
 .skip))
 (.seq (.cut [4,5] (.reg [zL 114 36 4,zL 115 3 5,zo 116 (.build 47 [(0,.c (.i .i64 5)),(2,.t 115)]),zo 117 (.iM 36 1 [(0,.t 116)]),zo 118 (.app 36 false (.t 114) (.t 117)),zV 2 118,zo 3 (.mv (.c (.fM)))]))
 .ret)))))))))))
def F9:AF:=⟨119,[.t 2,.t 3],c9⟩
def c10:AC:=(.seq (.reg [zo 2 (.mv (.c (.b false)))])
 (.seq (.cut [0] (.reg [zV 3 0,zN 4 3,zF 5 42 4 2,zL 6 40 5,zo 7 (.bin .neq 40 (.t 6) (.c (.p0))),zV 2 7]))
 .ret))
def F10:AF:=⟨8,[.t 2],c10⟩
def c11:AC:=(.seq (.reg [zo 2 (.alloc 47)])
 (.seq (.cut [0,2] (.reg [zV 3 0,zN 4 3,zF 5 42 4 0,zL 6 36 5,zo 7 (.mD 36 (.t 6) (.c (.i .i64 0))),zL 8 47 7,zS 47 2 8]))
 .ret))
def F11:AF:=⟨9,[.cell 2 47],c11⟩
def c12:AC:=(.seq (.reg [zo 1 (.box 39 (.t 0)),zo 2 (.mv (.c (.p0)))])
 (.seq (.cut [1] (.reg [zL 4 39 1,zC 5 11 [.t 4],zo 6 (.MB 47 (.t 5) 2),zo 7 (.build 85 [(4,.t 6)]),zo 8 (.box 85 (.t 7)),zo 3 (.alloc 49),zS 49 3 8]))
 (.seq (.reg [zL 9 39 1,zC 10 31 [.t 9,.c (.s [102,117,110,99])]])
 (.seq (.cut [1,3] (.jm [(zL 11 49 3,[]),(zL 12 39 1,[]),(zC 13 32 [.t 12],[zL 11 49 3]),(zN 14 11,[]),(zF 15 85 14 0,[]),(zS 9 15 13,[])]))
 (.seq (.cut [1,3] (.reg [zL 16 39 1,zo 17 (.Gt (.func 34) [] [.t 1,.t 3]),zC 18 33 [.t 16,.t 17]]))
 (.seq (.cut [1,3] (.jm [(zL 19 49 3,[]),(zL 20 39 1,[]),(zC 21 35 [.t 20,.c (.s [112,116,114])],[zL 19 49 3]),(zN 22 19,[]),(zF 23 85 22 2,[]),(zS 4 23 21,[])]))
 (.seq (.cut [1,3] (.jm [(zL 24 49 3,[]),(zL 25 39 1,[]),(zC 26 36 [.t 25],[zL 24 49 3]),(zN 27 24,[]),(zF 28 85 27 3,[]),(zS 83 28 26,[])]))
 (.seq (.reg [zL 29 49 3,zV 2 29])
 .ret))))))))
def F12:AF:=⟨30,[.t 2],c12⟩
def VT:AC:=(.seq (.seq (.cut [0,3,4,5,6] (.reg [zV 14 6,zV 15 0,zo 16 (.len 9 (.t 15)),zB 17 .lss 3 14 16]))
 (.cond (.t 17)
 .skip
 (.exit 0)))
 (.blk 1
 (.seq (.cut [0,3,4,5,6] (.reg [zV 18 0,zV 19 6,zC 20 37 [.t 18,.t 19],zV 7 20]))
 (.seq (.seq (.reg [zV 21 7,zD 22 .gtr 3 21 0])
 (.cond (.t 22)
 (.seq (.seq (.cut [0,3,4,5,6,7] (.reg [zV 23 0,zV 24 6,zo 25 (.idx 9 (.t 23) (.t 24)),zo 26 (.bin .eql 5 (.t 25) (.c (.i .u8 10)))]))
 (.cond (.t 26)
 (.cut [0,3,4,5,6,7] (.reg [zV 27 5,zD 28 .add 3 27 1,zV 5 28]))
 .skip))
 (.cut [1000000,0,3,4,5,6,7] (.seq (.cut [0,3,4,5,6,7] (.reg [zV 29 6,zV 30 7,zB 31 .add 3 29 30,zV 6 31]))
 (.exit 1))))
 .skip))
 (.seq (.cut [0,3,4,5,6] (.reg [zV 33 0,zV 34 6,zC 35 38 [.t 33,.t 34],zV 32 35,zE 36 32 0,zE 37 32 1,zo 8 (.alloc 47),zS 47 8 36,zV 9 37]))
 (.seq (.seq (.reg [zV 38 9,zD 39 .neq 27 38 0])
 (.cond (.t 39)
 (.seq (.cut [3,5,9] (.reg [zV 40 9,zV 41 5,zo 42 (.build 51 [(0,.t 40),(1,.t 41)]),zo 2 (.mv (.c (.sl0))),zS 51 3 42]))
 .ret)
 .skip))
 (.cut [1000000,0,3,4,5,6,8] (.seq (.cut [0,3,4,5,6,8] (.reg [zV 43 5,zF 44 47 8 2,zS 3 44 43]))
 (.seq (.cut [0,3,4,5,6,8] (.reg [zV 45 4,zL 46 47 8,zo 47 (.iM 36 1 [(0,.t 46)]),zo 48 (.app 36 false (.t 45) (.t 47)),zV 4 48]))
 (.cut [0,3,4,5,6,8] (.reg [zV 49 6,zF 50 47 8 1,zL 51 9 50,zo 52 (.len 9 (.t 51)),zB 53 .add 3 49 52,zV 6 53])))))))))))
def c13:AC:=(.seq (.reg [zo 2 (.mv (.c (.sl0))),zo 3 (.alloc 51)])
 (.seq (.seq (.cut [0,3] (.reg [zV 10 0,zo 11 (.len 9 (.t 10)),zD 12 .gtr 3 11 32768]))
 (.cond (.t 12)
 (.seq (.cut [3] (.reg [zo 13 (.build 51 [(0,.c (.i .i64 3)),(1,.c (.i .i64 0))]),zo 2 (.mv (.c (.sl0))),zS 51 3 13]))
 .ret)
 .skip))
 (.seq (.reg [zo 4 (.mv (.c (.sl0)))])
 (.seq (.reg [zo 5 (.mv (.c (.i .i64 0)))])
 (.seq (.seq (.reg [zo 6 (.mv (.c (.i .i64 0)))])
 (.blk 0
 (.loop [0,3,4,5,6] VT)))
 (.seq (.cut [3,4,5] (.reg [zV 54 4,zV 55 5,zo 56 (.build 47 [(0,.c (.i .i64 5)),(2,.t 55)]),zo 57 (.iM 36 1 [(0,.t 56)]),zo 58 (.app 36 false (.t 54) (.t 57)),zo 59 (.build 51 []),zV 2 58,zS 51 3 59]))
 .ret))))))
def F13:AF:=⟨60,[.t 2,.cell 3 51],c13⟩
def c14:AC:=(.seq (.reg [zo 2 (.alloc 47)])
 (.seq (.cut [0,2] (.jm [(zV 3 0,[]),(zN 4 3,[]),(zF 5 56 4 0,[]),(zL 6 36 5,[]),(zV 7 0,[]),(zN 8 7,[]),(zF 9 56 8 1,[]),(zL 10 3 9,[]),(zV 11 0,[]),(zN 12 11,[]),(zF 13 56 12 0,[]),(zL 14 36 13,[]),(zo 15 (.len 36 (.t 14)),[]),(zD 16 .sub 3 15 1,[]),(zo 17 (.mn false [.t 10,.t 16]),[]),(zo 18 (.mD 36 (.t 6) (.t 17)),[]),(zL 19 47 18,[]),(zS 47 2 19,[])]))
 .ret))
def F14:AF:=⟨20,[.cell 2 47],c14⟩
def Px:AC:=(.seq (.seq (.cut [0,3] (.reg [zV 19 0,zN 20 19,zF 21 56 20 3,zL 22 4 21,zo 23 (.un .not (.t 22)),zV 24 23,eu 25 24 0,aZ 26 24 (.call (.c (.fn (.func 42) [] [])) [.t 25,.c (.s [41])]),aZ 27 24 (.un .not (.t 26)),zo 28 (.pick (.t 24) (.t 27) (.c (.b false)))]))
 (.cond (.t 28)
 .skip
 (.exit 0)))
 (.blk 1
 (.seq (.seq (.cut [0,3] (.reg [zV 29 3,zN 30 29,zF 31 85 30 1,zL 32 82 31,zo 33 (.len 82 (.t 32)),zD 34 .gtr 3 33 0]))
 (.cond (.t 34)
 (.reg [zV 35 0,zC 36 39 [.t 35,.c (.s [44])]])
 .skip))
 (.cut [1000000,0,3] (.seq (.cut [0,3] (.reg [zV 37 0,zC 38 40 [.t 37],zV 4 38]))
 (.cut [0,3,4] (.jm [(zV 39 3,[]),(zV 40 3,[]),(zN 41 40,[]),(zF 42 85 41 1,[]),(zL 43 82 42,[]),(zV 44 4,[]),(zV 45 0,[]),(zC 46 43 [.t 45,.c (.s [112,116,114])],[zL 43 82 42]),(zo 47 (.build 90 [(0,.t 44),(1,.t 46)]),[]),(zo 48 (.iM 82 1 [(0,.t 47)]),[zL 43 82 42]),(zo 49 (.app 82 false (.t 43) (.t 48)),[]),(zN 50 39,[]),(zF 51 85 50 1,[]),(zS 82 51 49,[])])))))))
def c15:AC:=(.seq (.reg [zo 2 (.mv (.c (.p0)))])
 (.seq (.cut [0] (.reg [zV 5 0,zC 6 14 [.t 5],zo 7 (.MB 47 (.t 6) 2),zo 8 (.build 85 [(4,.t 7)]),zo 9 (.box 85 (.t 8)),zV 3 9]))
 (.seq (.reg [zV 10 0,zC 11 39 [.t 10,.c (.s [102,117,110,99])]])
 (.seq (.cut [0,3] (.reg [zV 12 3,zV 13 0,zC 14 40 [.t 13],zN 15 12,zF 16 85 15 0,zS 9 16 14]))
 (.seq (.reg [zV 17 0,zC 18 41 [.t 17,.c (.s [40])]])
 (.seq (.blk 0
 (.loop [0,3] Px))
 (.seq (.reg [zV 52 0,zC 53 44 [.t 52,.c (.s [41])]])
 (.seq (.cut [0,3] (.reg [zV 54 3,zV 55 0,zC 56 43 [.t 55,.c (.s [112,116,114])],zN 57 54,zF 58 85 57 2,zS 4 58 56]))
 (.seq (.cut [0,3] (.reg [zV 59 3,zV 60 0,zC 61 45 [.t 60],zN 62 59,zF 63 85 62 3,zS 83 63 61]))
 (.seq (.reg [zV 64 3,zV 2 64])
 .ret))))))))))
def F15:AF:=⟨65,[.t 2],c15⟩
def c17:AC:=(.seq (.reg [zo 4 (.mv (.c (.b false)))])
 (.seq (.seq (.cut [0,1] (.reg [zV 6 0,zo 7 (.bin .eql 24 (.t 6) (.c (.fM))),zV 8 7,gY 9 8 1,bY 10 8 (.bin .eql 24 (.t 9) (.c (.fM))),zo 11 (.pick (.t 8) (.c (.b true)) (.t 10))]))
 (.cond (.t 11)
 (.seq (.cut [0,1] (.reg [zV 12 0,zV 13 1,zB 14 .eql 24 12 13,zV 4 14]))
 .ret)
 .skip))
 (.seq (.cut [0,1] (.reg [zV 15 1,zC 16 50 [.t 15],zo 17 (.inv (.t 16) "Comparable" []),zV 5 17]))
 (.seq (.cut [0,1,5] (.reg [zV 18 0,zV 19 1,zV 20 5,zC 21 51 [.t 18,.t 19,.t 20],zV 4 21]))
 .ret))))
def F17:AF:=⟨22,[.t 4],c17⟩
def VU:AC:=(.seq (.seq (.cut [0,1,2,7,8,9,10] (.reg [zV 129 10,zV 130 8,zN 131 130,zF 132 85 131 1,zL 133 82 132,zo 134 (.len 82 (.t 133)),zB 135 .lss 3 129 134]))
 (.cond (.t 135)
 .skip
 (.exit 2)))
 (.seq (.blk 3
 (.seq (.cut [0,1,2,7,8,9,10] (.jm [(zV 138 8,[]),(zN 139 138,[]),(zF 140 85 139 1,[]),(zL 141 82 140,[]),(zV 142 10,[]),(zo 143 (.mD 82 (.t 141) (.t 142)),[]),(zL 144 90 143,[]),(zV 145 9,[]),(zN 146 145,[]),(zF 147 85 146 1,[]),(zL 148 82 147,[]),(zV 149 10,[]),(zo 150 (.mD 82 (.t 148) (.t 149)),[]),(zL 151 90 150,[]),(zB 152 .neq 90 144 151,[])]))
 (.cond (.t 152)
 (.seq (.reg [zo 6 (.mv (.c (.b false)))])
 .ret)
 .skip)))
 (.cut [0,1,2,7,8,9,10] (.reg [zV 136 10,zD 137 .add 3 136 1,zV 10 137]))))
def VW:AC:=(.seq (.seq (.cut [0,1,2,7] (.reg [zV 34 7,zV 35 0,zN 36 35,zF 37 45 36 0,zL 38 43 37,zo 39 (.len 43 (.t 38)),zB 40 .lss 3 34 39]))
 (.cond (.t 40)
 .skip
 (.exit 0)))
 (.seq (.blk 1
 (.seq (.cut [0,1,2,7] (.jm [(zV 43 0,[]),(zN 44 43,[]),(zF 45 45 44 0,[]),(zL 46 43 45,[]),(zV 47 7,[]),(zo 48 (.mD 43 (.t 46) (.t 47)),[]),(zL 49 49 48,[]),(zV 50 1,[]),(zN 51 50,[]),(zF 52 45 51 0,[]),(zL 53 43 52,[]),(zV 54 7,[]),(zo 55 (.mD 43 (.t 53) (.t 54)),[]),(zL 56 49 55,[]),(zV 8 49,[]),(zV 9 56,[])]))
 (.seq (.seq (.cut [0,1,2,7,8,9] (.reg [zV 57 8,zo 58 (.bin .eql 49 (.t 57) (.c (.p0))),zV 59 58,gY 60 59 9,bY 61 59 (.bin .eql 49 (.t 60) (.c (.p0))),zo 62 (.pick (.t 59) (.c (.b true)) (.t 61))]))
 (.cut [1000000,0,1,2,7,8,9,62] (.cond (.t 62)
 (.seq (.seq (.cut [0,1,2,7,8,9] (.reg [zV 63 8,zo 64 (.bin .neq 49 (.t 63) (.c (.p0))),zV 65 64,gY 66 65 9,bY 67 65 (.bin .neq 49 (.t 66) (.c (.p0))),zo 68 (.pick (.t 65) (.c (.b true)) (.t 67))]))
 (.cond (.t 68)
 (.seq (.reg [zo 6 (.mv (.c (.b false)))])
 .ret)
 .skip))
 (.exit 1))
 .skip)))
 (.seq (.seq (.cut [0,1,2,7,8,9] (.jm [(zV 69 8,[]),(zN 70 69,[]),(zF 71 85 70 0,[]),(zL 72 9 71,[]),(zV 73 9,[]),(zN 74 73,[]),(zF 75 85 74 0,[]),(zL 76 9 75,[]),(zB 77 .neq 9 72 76,[]),(zV 78 77,[]),(gY 79 78 8,[]),(bY 80 78 (.bn (.t 79)),[]),(bY 81 78 (.eY 85 (.t 80) 2),[]),(bY 82 78 (.load 4 (.t 81)),[]),(gY 83 78 9,[]),(bY 84 78 (.bn (.t 83)),[]),(bY 85 78 (.eY 85 (.t 84) 2),[]),(bY 86 78 (.load 4 (.t 85)),[]),(bY 87 78 (.bin .neq 4 (.t 82) (.t 86)),[]),(zo 88 (.pick (.t 78) (.c (.b true)) (.t 87)),[]),(zV 89 88,[]),(gY 90 89 8,[]),(bY 91 89 (.bn (.t 90)),[]),(bY 92 89 (.eY 85 (.t 91) 1),[]),(bY 93 89 (.load 82 (.t 92)),[]),(bY 94 89 (.len 82 (.t 93)),[]),(gY 95 89 9,[]),(bY 96 89 (.bn (.t 95)),[]),(bY 97 89 (.eY 85 (.t 96) 1),[]),(bY 98 89 (.load 82 (.t 97)),[]),(bY 99 89 (.len 82 (.t 98)),[]),(bY 100 89 (.bin .neq 3 (.t 94) (.t 99)),[]),(zo 101 (.pick (.t 89) (.c (.b true)) (.t 100)),[]),(zV 102 101,[]),(gY 103 102 2,[]),(gY 104 102 103,[]),(eu 105 104 8,[]),(aZ 106 104 (.bn (.t 105)),[]),(aZ 107 104 (.eY 85 (.t 106) 4),[]),(aZ 108 104 (.load 3 (.t 107)),[]),(eu 109 104 9,[]),(aZ 110 104 (.bn (.t 109)),[]),(aZ 111 104 (.eY 85 (.t 110) 4),[]),(aZ 112 104 (.load 3 (.t 111)),[]),(aZ 113 104 (.bin .neq 3 (.t 108) (.t 112)),[]),(bY 114 102 (.pick (.t 104) (.t 113) (.c (.b false))),[]),(zo 115 (.pick (.t 102) (.c (.b true)) (.t 114)),[]),(zV 116 115,[]),(gY 117 116 8,[]),(bY 118 116 (.bn (.t 117)),[]),(bY 119 116 (.eY 85 (.t 118) 3),[]),(bY 120 116 (.load 83 (.t 119)),[]),(gY 121 116 9,[]),(bY 122 116 (.bn (.t 121)),[]),(bY 123 116 (.eY 85 (.t 122) 3),[]),(bY 124 116 (.load 83 (.t 123)),[]),(gY 125 116 2,[]),(bY 126 116 (.call (.c (.fn (.func 52) [] [])) [.t 120,.t 124,.t 125]),[]),(bY 127 116 (.un .not (.t 126)),[]),(zo 128 (.pick (.t 116) (.c (.b true)) (.t 127)),[])]))
 (.cut [1000000,0,1,2,7,8,9,128] (.cond (.t 128)
 (.seq (.reg [zo 6 (.mv (.c (.b false)))])
 .ret)
 .skip)))
 (.seq (.reg [zo 10 (.mv (.c (.i .i64 0)))])
 (.blk 2
 (.loop [0,1,2,7,8,9,10] VU)))))))
 (.cut [1000000,0,1,2,7] (.cut [0,1,2,7] (.reg [zV 41 7,zD 42 .add 3 41 1,zV 7 42])))))
def c18:AC:=(.seq (.reg [zo 6 (.mv (.c (.b false)))])
 (.seq (.seq (.cut [0,1,2] (.reg [zV 11 0,zo 12 (.bin .eql 22 (.t 11) (.c (.p0))),zV 13 12,gY 14 13 1,bY 15 13 (.bin .eql 22 (.t 14) (.c (.p0))),zo 16 (.pick (.t 13) (.c (.b true)) (.t 15))]))
 (.cond (.t 16)
 (.seq (.cut [0,1] (.reg [zV 17 0,zo 18 (.bin .eql 22 (.t 17) (.c (.p0))),zV 19 18,eu 20 19 1,aZ 21 19 (.bin .eql 22 (.t 20) (.c (.p0))),zo 22 (.pick (.t 19) (.t 21) (.c (.b false))),zV 6 22]))
 .ret)
 .skip))
 (.seq (.seq (.cut [0,1,2] (.jm [(zV 23 0,[]),(zN 24 23,[]),(zF 25 45 24 0,[]),(zL 26 43 25,[]),(zo 27 (.len 43 (.t 26)),[]),(zV 28 1,[]),(zN 29 28,[]),(zF 30 45 29 0,[]),(zL 31 43 30,[]),(zo 32 (.len 43 (.t 31)),[]),(zB 33 .neq 3 27 32,[])]))
 (.cond (.t 33)
 (.seq (.reg [zo 6 (.mv (.c (.b false)))])
 .ret)
 .skip))
 (.seq (.seq (.reg [zo 7 (.mv (.c (.i .i64 0)))])
 (.blk 0
 (.loop [0,1,2,7] VW)))
 (.seq (.reg [zo 6 (.mv (.c (.b true)))])
 .ret)))))
def ZF:AF:=⟨153,[.t 6],c18⟩
def ZG:AC:=(.seq (.reg [zB 19 .lss 3 18 17])
 (.seq (.cond (.t 19)
 .skip
 (.exit 0))
 (.seq (.blk 1
 (.seq (.cut [0,4,16,17,18] (.reg [zo 20 (.mD 43 (.t 16) (.t 18)),zL 21 49 20,zV 6 21]))
 (.cut [0,4,6,16,17,18] (.reg [zV 22 4,zV 23 6,zC 24 53 [.t 22,.t 23]]))))
 (.reg [zD 25 .add 3 18 1,zV 18 25]))))
def c19:AC:=(.seq (.reg [zo 2 (.mv (.c (.s []))),zo 3 (.mv (.c (.i .i64 0)))])
 (.seq (.seq (.reg [zV 9 0,zo 10 (.bin .eql 22 (.t 9) (.c (.p0)))])
 (.cond (.t 10)
 (.seq (.reg [zo 2 (.mv (.c (.s []))),zo 3 (.mv (.c (.i .i64 1)))])
 .ret)
 .skip))
 (.seq (.cut [0] (.reg [zo 11 (.build 116 []),zo 12 (.box 116 (.t 11)),zV 4 12]))
 (.seq (.seq (.cut [0,4] (.reg [zV 13 0,zN 14 13,zF 15 45 14 0,zL 16 43 15,zo 17 (.len 43 (.t 16)),zo 18 (.mv (.c (.i .i64 0)))]))
 (.blk 0
 (.loop [0,4,16,17,18] ZG)))
 (.seq (.seq (.cut [0,4] (.reg [zV 26 4,zN 27 26,zF 28 116 27 0,zC 29 54 [.t 28],zD 30 .gtr 3 29 32768]))
 (.cond (.t 30)
 (.seq (.reg [zo 2 (.mv (.c (.s []))),zo 3 (.mv (.c (.i .i64 3)))])
 .ret)
 .skip))
 (.seq (.cut [0,4] (.reg [zV 32 4,zN 33 32,zF 34 116 33 0,zC 35 55 [.t 34],zC 36 4 [.t 35],zV 31 36,zE 37 31 0,zE 38 31 1,zV 7 37,zV 8 38]))
 (.cut [1000000,0,4,7,8] (.seq (.seq (.cut [0,4,7,8] (.reg [zV 39 4,zN 40 39,zF 41 116 40 2,zL 42 4 41,zV 43 42,gY 44 43 8,bY 45 43 (.bin .neq 24 (.t 44) (.c (.fM))),zo 46 (.pick (.t 43) (.c (.b true)) (.t 45)),zV 47 46,gY 48 47 0,gY 49 47 7,bY 50 47 (.call (.c (.fn (.func 56) [] [])) [.t 48,.t 49]),bY 51 47 (.un .not (.t 50)),zo 52 (.pick (.t 47) (.c (.b true)) (.t 51))]))
 (.cond (.t 52)
 (.seq (.reg [zo 2 (.mv (.c (.s []))),zo 3 (.mv (.c (.i .i64 2)))])
 .ret)
 .skip))
 (.seq (.cut [4] (.reg [zV 53 4,zN 54 53,zF 55 116 54 0,zC 56 55 [.t 55],zV 2 56,zo 3 (.mv (.c (.i .i64 0)))]))
 .ret)))))))))
def F19:AF:=⟨57,[.t 2,.t 3],c19⟩
def c20:AC:=(.seq (.reg [zo 2 (.mv (.c (.p0)))])
 (.seq (.cut [0] (.reg [zV 6 0,zo 7 (.bin .add 9 (.c (.s [102,117,110,99,32,102,40,41,32,123,10,114,101,116,117,114,110,32])) (.t 6)),zo 8 (.bin .add 9 (.t 7) (.c (.s [59,10,125]))),zC 9 4 [.t 8],zV 5 9,zE 10 5 0,zE 11 5 1,zV 3 10,zV 4 11]))
 (.seq (.seq (.cut [3,4] (.reg [zV 12 4,zo 13 (.bin .neq 24 (.t 12) (.c (.fM))),zV 14 13,gY 15 14 3,bY 16 14 (.bin .eql 22 (.t 15) (.c (.p0))),zo 17 (.pick (.t 14) (.c (.b true)) (.t 16)),zV 18 17,gY 19 18 3,bY 20 18 (.bn (.t 19)),bY 21 18 (.eY 45 (.t 20) 0),bY 22 18 (.load 43 (.t 21)),bY 23 18 (.len 43 (.t 22)),bY 24 18 (.bin .neq 3 (.t 23) (.c (.i .i64 1))),zo 25 (.pick (.t 18) (.c (.b true)) (.t 24)),zV 26 25,gY 27 26 3,bY 28 26 (.bn (.t 27)),bY 29 26 (.eY 45 (.t 28) 0),bY 30 26 (.load 43 (.t 29)),bY 31 26 (.mD 43 (.t 30) (.c (.i .i64 0))),bY 32 26 (.load 49 (.t 31)),bY 33 26 (.bn (.t 32)),bY 34 26 (.eY 85 (.t 33) 3),bY 35 26 (.load 83 (.t 34)),bY 36 26 (.len 83 (.t 35)),bY 37 26 (.bin .neq 3 (.t 36) (.c (.i .i64 1))),zo 38 (.pick (.t 26) (.c (.b true)) (.t 37)),zV 39 38,gY 40 39 3,bY 41 39 (.bn (.t 40)),bY 42 39 (.eY 45 (.t 41) 0),bY 43 39 (.load 43 (.t 42)),bY 44 39 (.mD 43 (.t 43) (.c (.i .i64 0))),bY 45 39 (.load 49 (.t 44)),bY 46 39 (.bn (.t 45)),bY 47 39 (.eY 85 (.t 46) 3),bY 48 39 (.load 83 (.t 47)),bY 49 39 (.mD 83 (.t 48) (.c (.i .i64 0))),bY 50 39 (.load 121 (.t 49)),bY 51 39 (.bn (.t 50)),bY 52 39 (.eY 120 (.t 51) 0),bY 53 39 (.load 3 (.t 52)),bY 54 39 (.bin .neq 3 (.t 53) (.c (.i .i64 9))),zo 55 (.pick (.t 39) (.c (.b true)) (.t 54))]))
 (.cut [1000000,3,55] (.cond (.t 55)
 (.seq (.reg [zo 2 (.mv (.c (.p0)))])
 .ret)
 .skip)))
 (.seq (.cut [3] (.reg [zV 56 3,zN 57 56,zF 58 45 57 0,zL 59 43 58,zo 60 (.mD 43 (.t 59) (.c (.i .i64 0))),zL 61 49 60,zN 62 61,zF 63 85 62 3,zL 64 83 63,zo 65 (.mD 83 (.t 64) (.c (.i .i64 0))),zL 66 121 65,zN 67 66,zF 68 120 67 4,zL 69 63 68,zV 2 69]))
 .ret))))
def F20:AF:=⟨70,[.t 2],c20⟩
def c21:AC:=(.seq (.reg [zo 2 (.mv (.c (.s [])))])
 (.seq (.cut [0] (.reg [zV 10 0,zo 11 (.bin .add 9 (.c (.s [102,117,110,99,32,102,40,41,32,123,10,114,101,116,117,114,110,32])) (.t 10)),zo 12 (.bin .add 9 (.t 11) (.c (.s [59,10,125]))),zC 13 4 [.t 12],zV 9 13,zE 14 9 0,zE 15 9 1,zV 3 14,zV 4 15]))
 (.seq (.seq (.reg [zV 16 4,zo 17 (.bin .neq 24 (.t 16) (.c (.fM)))])
 (.cond (.t 17)
 (.seq (.reg [zo 2 (.mv (.c (.s [])))])
 .ret)
 .skip))
 (.seq (.cut [3] (.reg [zV 19 3,zC 20 19 [.t 19],zV 18 20,zE 21 18 0,zE 22 18 1,zV 5 21,zV 6 22]))
 (.seq (.cut [5,6] (.reg [zV 24 5,zC 25 57 [.t 24,.c (.s [102,117,110,99,32,102,40,41,32,123,10,9,114,101,116,117,114,110,32])],zV 23 25,zE 26 23 0,zE 27 23 1,zV 5 26,zV 7 27]))
 (.cut [1000000,5,6,7] (.seq (.cut [5,6,7] (.reg [zV 29 5,zC 30 58 [.t 29,.c (.s [59,10,125,10])],zV 28 30,zE 31 28 0,zE 32 28 1,zV 5 31,zV 8 32]))
 (.seq (.seq (.cut [5,6,7,8] (.reg [zV 33 6,zD 34 .neq 27 33 0,zV 35 34,gY 36 35 7,bY 37 35 (.un .not (.t 36)),zo 38 (.pick (.t 35) (.c (.b true)) (.t 37)),zV 39 38,gY 40 39 8,bY 41 39 (.un .not (.t 40)),zo 42 (.pick (.t 39) (.c (.b true)) (.t 41))]))
 (.cond (.t 42)
 (.seq (.reg [zo 2 (.mv (.c (.s [])))])
 .ret)
 .skip))
 (.seq (.reg [zV 43 5,zV 2 43])
 .ret)))))))))
def F21:AF:=⟨44,[.t 2],c21⟩
def c22:AC:=(.seq (.cut [0,1,2,3,4] (.jm [(zL 7 36 2,[]),(zV 8 0,[]),(zL 9 9 3,[]),(zV 10 1,[]),(zo 11 (.slc 9 (.t 9) none (some (.t 10))),[]),(zL 12 3 4,[]),(zo 13 (.build 47 [(0,.t 8),(1,.t 11),(2,.t 12)]),[]),(zo 14 (.iM 36 1 [(0,.t 13)]),[zL 7 36 2]),(zo 15 (.app 36 false (.t 7) (.t 14)),[]),(zS 36 2 15,[])]))
 (.cut [1,3] (.reg [zL 16 9 3,zV 17 1,zo 18 (.slc 9 (.t 16) (some (.t 17)) none),zS 9 3 18])))
def F22:AF:=⟨19,[],c22⟩
def c23:AC:=(.seq (.reg [zo 4 (.mv (.c (.b false)))])
 (.seq (.cut [0,1] (.reg [zV 5 0,zV 6 1,zC 7 59 [.t 5,.t 6],zV 4 7]))
 .ret))
def F23:AF:=⟨8,[.t 4],c23⟩
def c25:AC:=(.seq (.reg [zo 2 (.mv (.c (.i .i64 0)))])
 (.seq (.blk 0
 (.seq (.cut [0] (.reg [zV 4 0,zo 5 (.bin .eql 21 (.t 4) (.c (.i .i32 32))),zV 6 5,gY 7 6 0,bY 8 6 (.bin .eql 21 (.t 7) (.c (.i .i32 9))),zo 9 (.pick (.t 6) (.c (.b true)) (.t 8)),zV 10 9,gY 11 10 0,bY 12 10 (.bin .eql 21 (.t 11) (.c (.i .i32 13))),zo 13 (.pick (.t 10) (.c (.b true)) (.t 12)),zV 14 13,gY 15 14 0,bY 16 14 (.bin .eql 21 (.t 15) (.c (.i .i32 10))),zo 17 (.pick (.t 14) (.c (.b true)) (.t 16)),zV 3 17]))
 (.cond (.t 3)
 (.seq (.reg [zo 2 (.mv (.c (.i .i64 1)))])
 .ret)
 (.seq (.cut [0] (.reg [zV 19 0,zo 20 (.bin .geq 21 (.t 19) (.c (.i .i32 97))),zV 21 20,eu 22 21 0,aZ 23 21 (.bin .leq 21 (.t 22) (.c (.i .i32 122))),zo 24 (.pick (.t 21) (.t 23) (.c (.b false))),zV 25 24,gY 26 25 0,bY 27 25 (.bin .geq 21 (.t 26) (.c (.i .i32 65))),gY 28 25 27,eu 29 28 0,aZ 30 28 (.bin .leq 21 (.t 29) (.c (.i .i32 90))),bY 31 25 (.pick (.t 28) (.t 30) (.c (.b false))),zo 32 (.pick (.t 25) (.c (.b true)) (.t 31)),zV 33 32,gY 34 33 0,bY 35 33 (.bin .eql 21 (.t 34) (.c (.i .i32 95))),zo 36 (.pick (.t 33) (.c (.b true)) (.t 35)),zV 18 36]))
 (.cut [1000000,0,18] (.cond (.t 18)
 (.seq (.reg [zo 2 (.mv (.c (.i .i64 2)))])
 .ret)
 (.seq (.cut [0] (.reg [zV 38 0,zo 39 (.bin .geq 21 (.t 38) (.c (.i .i32 48))),zV 40 39,eu 41 40 0,aZ 42 40 (.bin .leq 21 (.t 41) (.c (.i .i32 57))),zo 43 (.pick (.t 40) (.t 42) (.c (.b false))),zV 37 43]))
 (.cond (.t 37)
 (.seq (.reg [zo 2 (.mv (.c (.i .i64 3)))])
 .ret)
 (.seq (.cut [0] (.reg [zV 45 0,zo 46 (.conv 21 5 (.t 45)),zC 47 24 [.c (.s [40,41,123,125,91,93,44,59,58,61,60,62,43,45,124,94,38,42,47,37,33]),.t 46],zD 48 .geq 3 47 0,zV 49 48,eu 50 49 0,aZ 51 49 (.bin .lss 21 (.t 50) (.c (.i .i32 128))),zo 52 (.pick (.t 49) (.t 51) (.c (.b false))),zV 44 52]))
 (.cond (.t 44)
 (.seq (.reg [zo 2 (.mv (.c (.i .i64 4)))])
 .ret)
 .skip))))))))))
 (.seq (.reg [zo 2 (.mv (.c (.i .i64 0)))])
 .ret)))
def F25:AF:=⟨53,[.t 2],c25⟩
def VX:AC:=(.seq (.reg [zo 9 (.WR (.t 8)),zE 10 9 0])
 (.seq (.cond (.t 10)
 .skip
 (.exit 0))
 (.blk 1
 (.seq (.cut [0,1,8,9] (.reg [zE 11 9 1,zE 12 9 2,zV 5 11,zV 6 12]))
 (.seq (.cut [0,1,5,6,8] (.reg [zV 13 1,zV 14 6,zC 15 25 [.t 14],zC 16 61 [.t 13,.t 15],zo 17 (.un .not (.t 16))]))
 (.cond (.t 17)
 (.seq (.reg [zV 18 5,zV 4 18])
 .ret)
 .skip))))))
def c26:AC:=(.seq (.reg [zo 4 (.mv (.c (.i .i64 0)))])
 (.seq (.seq (.reg [zV 7 0,zo 8 (.rng 9 (.t 7))])
 (.blk 0
 (.loop [0,1,8] VX)))
 (.seq (.cut [0] (.reg [zV 19 0,zo 20 (.len 9 (.t 19)),zV 4 20]))
 .ret)))
def F26:AF:=⟨21,[.t 4],c26⟩
def c27:AC:=(.seq (.reg [zo 4 (.mv (.c (.b false)))])
 (.seq (.cut [0,1] (.reg [zV 5 0,zV 6 1,zC 7 62 [.t 5,.t 6],zD 8 .geq 3 7 0,zV 4 8]))
 .ret))
def F27:AF:=⟨9,[.t 4],c27⟩
def c28:AC:=(.seq (.reg [zo 0 (.mv (.c (.sl0)))])
 (.seq (.reg [zC 1 63 [.c (.s [102,117,110,99,32,118,97,114,32,112,116,114,32,105,102,32,101,108,115,101,32,119,104,105,108,101,32,111,117,116,32,102,114,101,101,32,100,114,97,105,110,32,114,101,116,117,114,110,32,110,101,119,32,105,110])],zV 0 1])
 .ret))
def F28:AF:=⟨2,[.t 0],c28⟩
def c30:AC:=(.seq (.reg [zo 2 (.mv (.c (.b false)))])
 (.seq (.cut [0] (.jm [(zV 3 0,[]),(zo 4 (.len 9 (.t 3)),[]),(zD 5 .geq 3 4 2,[]),(zV 6 5,[]),(eu 8 6 0,[]),(aZ 9 6 (.slc 9 (.t 8) none (some (.c (.i .i64 2)))),[]),(aZ 7 6 (.call (.c (.fn (.func 63) [] [])) [.c (.s [124,124,32,38,38,32,61,61,32,33,61,32,60,61,32,62,61,32,60,60,32,62,62])]),[aZ 9 6 (.slc 9 (.t 8) none (some (.c (.i .i64 2))))]),(aZ 10 6 (.call (.c (.fn (.func 27) [] [])) [.t 7,.t 9]),[]),(zo 11 (.pick (.t 6) (.t 10) (.c (.b false))),[]),(zV 2 11,[])]))
 .ret))
def F30:AF:=⟨12,[.t 2],c30⟩
def c31:AC:=(.seq (.cut [0,1] (.reg [zV 4 0,zV 5 1,zC 6 35 [.t 4,.t 5],zo 7 (.un .not (.t 6))]))
 (.cond (.t 7)
 (.reg [zV 8 0,zC 9 66 [.t 8,.c (.i .i64 4)]])
 .skip))
def F31:AF:=⟨10,[],c31⟩
def c32:AC:=(.seq (.reg [zo 2 (.mv (.c (.s [])))])
 (.seq (.cut [0] (.reg [zV 4 0,zC 5 11 [.t 4],zo 3 (.alloc 47),zS 47 3 5]))
 (.seq (.seq (.cut [0,3] (.reg [zV 6 0,zC 7 10 [.t 6],zV 8 7,bY 9 8 (.eY 47 (.t 3) 0),bY 10 8 (.load 3 (.t 9)),bY 11 8 (.bin .neq 3 (.t 10) (.c (.i .i64 1))),zo 12 (.pick (.t 8) (.c (.b true)) (.t 11))]))
 (.cond (.t 12)
 (.seq (.reg [zV 13 0,zC 14 66 [.t 13,.c (.i .i64 4)]])
 (.seq (.reg [zo 2 (.mv (.c (.s [])))])
 .ret))
 .skip))
 (.seq (.reg [zV 15 0,zC 16 67 [.t 15]])
 (.seq (.cut [3] (.reg [zF 17 47 3 1,zL 18 9 17,zV 2 18]))
 .ret)))))
def F32:AF:=⟨19,[.t 2],c32⟩
def c33:AC:=(.seq (.reg [zo 2 (.box 39 (.t 0)),zo 3 (.box 1 (.t 1))])
 (.cut [2,3] (.reg [zL 4 39 2,zo 5 (.Gt (.func 69) [] [.t 2,.t 3]),zC 6 68 [.t 4,.c (.s [40]),.t 5]])))
def ZH:AF:=⟨7,[],c33⟩
def c34:AC:=(.seq (.cut [0,1] (.reg [zL 3 39 0,zC 4 32 [.t 3],zo 5 (.build 90 [(0,.t 4)]),zo 2 (.alloc 90),zS 90 2 5]))
 (.seq (.cut [0,1,2] (.reg [zL 6 39 0,zC 7 35 [.t 6,.c (.s [112,116,114])],zF 8 90 2 1,zS 4 8 7]))
 (.cut [1,2] (.jm [(zL 9 49 1,[]),(zL 10 49 1,[]),(zN 11 10,[]),(zF 12 85 11 1,[]),(zL 13 82 12,[]),(zL 14 90 2,[]),(zo 15 (.iM 82 1 [(0,.t 14)]),[zL 9 49 1,zL 10 49 1,zL 13 82 12]),(zo 16 (.app 82 false (.t 13) (.t 15)),[zL 9 49 1]),(zN 17 9,[]),(zF 18 85 17 1,[]),(zS 82 18 16,[])]))))
def F34:AF:=⟨19,[],c34⟩
def c35:AC:=(.seq (.reg [zo 4 (.mv (.c (.b false)))])
 (.seq (.seq (.cut [0,1] (.reg [zV 5 0,zV 6 1,zo 7 (.iM 77 1 [(0,.t 6)]),zC 8 70 [.t 5,.t 7],zo 9 (.un .not (.t 8))]))
 (.cond (.t 9)
 (.seq (.reg [zo 4 (.mv (.c (.b false)))])
 .ret)
 .skip))
 (.seq (.reg [zV 10 0,zC 11 67 [.t 10]])
 (.seq (.reg [zo 4 (.mv (.c (.b true)))])
 .ret))))
def F35:AF:=⟨12,[.t 4],c35⟩
def c36:AC:=(.seq (.reg [zo 1 (.box 39 (.t 0)),zo 2 (.alloc 83)])
 (.seq (.cut [1,2] (.reg [zL 3 39 1,zo 4 (.Gt (.func 71) [] [.t 1,.t 2]),zC 5 68 [.t 3,.c (.s [123]),.t 4]]))
 (.seq (.reg [zL 6 83 2,zS 83 2 6])
 .ret)))
def F36:AF:=⟨7,[.cell 2 83],c36⟩
def VY:AC:=(.seq (.seq (.cut [0,1,6] (.reg [zV 28 1,zV 29 6,zB 30 .add 3 28 29,zV 31 0,zo 32 (.len 9 (.t 31)),zB 33 .lss 3 30 32,zV 34 33,eu 35 34 0,eu 36 34 1,eu 37 34 6,aZ 38 34 (.bin .add 3 (.t 36) (.t 37)),aZ 39 34 (.idx 9 (.t 35) (.t 38)),aZ 40 34 (.bin .neq 5 (.t 39) (.c (.i .u8 10))),zo 41 (.pick (.t 34) (.t 40) (.c (.b false)))]))
 (.cond (.t 41)
 .skip
 (.exit 0)))
 (.blk 1
 (.cut [0,1,6] (.reg [zV 42 6,zD 43 .add 3 42 1,zV 6 43]))))
def c37:AC:=(.seq (.reg [zo 4 (.mv (.c (.i .i64 0)))])
 (.seq (.cut [0,1] (.reg [zV 7 0,zV 8 1,zo 9 (.idx 9 (.t 7) (.t 8)),zV 5 9]))
 (.seq (.seq (.cut [0,1,5] (.reg [zV 10 5,zo 11 (.bin .eql 5 (.t 10) (.c (.i .u8 32))),zV 12 11,gY 13 12 5,bY 14 12 (.bin .eql 5 (.t 13) (.c (.i .u8 9))),zo 15 (.pick (.t 12) (.c (.b true)) (.t 14)),zV 16 15,gY 17 16 5,bY 18 16 (.bin .eql 5 (.t 17) (.c (.i .u8 13))),zo 19 (.pick (.t 16) (.c (.b true)) (.t 18)),zV 20 19,gY 21 20 5,bY 22 20 (.bin .eql 5 (.t 21) (.c (.i .u8 10))),zo 23 (.pick (.t 20) (.c (.b true)) (.t 22))]))
 (.cond (.t 23)
 (.seq (.reg [zo 4 (.mv (.c (.i .i64 1)))])
 .ret)
 .skip))
 (.seq (.seq (.cut [0,1] (.reg [zV 24 0,zV 25 1,zC 26 73 [.t 24,.t 25,.c (.s [47,47])],zo 27 (.un .not (.t 26))]))
 (.cond (.t 27)
 (.seq (.reg [zo 4 (.mv (.c (.i .i64 0)))])
 .ret)
 .skip))
 (.seq (.reg [zo 6 (.mv (.c (.i .i64 0)))])
 (.seq (.blk 0
 (.loop [0,1,6] VY))
 (.seq (.reg [zV 44 6,zV 4 44])
 .ret)))))))
def F37:AF:=⟨45,[.t 4],c37⟩
def VZ:AC:=(.seq (.seq (.cut [0,1,4,7] (.reg [zV 17 1,zV 18 7,zB 19 .add 3 17 18,zV 20 0,zo 21 (.len 9 (.t 20)),zB 22 .lss 3 19 21,zV 23 22,eu 24 23 0,eu 25 23 1,eu 26 23 7,aZ 27 23 (.bin .add 3 (.t 25) (.t 26)),aZ 28 23 (.idx 9 (.t 24) (.t 27)),aZ 29 23 (.call (.c (.fn (.func 74) [] [])) [.t 28]),eu 30 23 29,gY 31 30 0,gY 32 30 1,gY 33 30 7,bY 34 30 (.bin .add 3 (.t 32) (.t 33)),bY 35 30 (.idx 9 (.t 31) (.t 34)),bY 36 30 (.call (.c (.fn (.func 75) [] [])) [.t 35]),aZ 37 23 (.pick (.t 30) (.c (.b true)) (.t 36)),zo 38 (.pick (.t 23) (.t 37) (.c (.b false)))]))
 (.cond (.t 38)
 .skip
 (.exit 0)))
 (.blk 1
 (.cut [0,1,4,7] (.reg [zV 39 7,zD 40 .add 3 39 1,zV 7 40]))))
def V3:AC:=(.seq (.seq (.cut [0,1,4,6,7] (.reg [zV 58 1,zV 59 7,zB 60 .add 3 58 59,zV 61 0,zo 62 (.len 9 (.t 61)),zB 63 .lss 3 60 62,zV 64 63,eu 65 64 0,eu 66 64 1,eu 67 64 7,aZ 68 64 (.bin .add 3 (.t 66) (.t 67)),aZ 69 64 (.idx 9 (.t 65) (.t 68)),aZ 70 64 (.call (.c (.fn (.func 75) [] [])) [.t 69]),zo 71 (.pick (.t 64) (.t 70) (.c (.b false)))]))
 (.cond (.t 71)
 .skip
 (.exit 2)))
 (.blk 3
 (.cut [0,1,4,6,7] (.reg [zV 72 7,zD 73 .add 3 72 1,zV 7 73]))))
def V4:AC:=(.seq (.seq (.cut [0,1,4,10,11] (.reg [zV 110 11,zV 111 10,zo 112 (.len 77 (.t 111)),zB 113 .lss 3 110 112]))
 (.cond (.t 113)
 .skip
 (.exit 4)))
 (.seq (.blk 5
 (.seq (.cut [0,1,4,10,11] (.reg [zV 116 0,zV 117 1,zV 118 10,zV 119 11,zo 120 (.mD 77 (.t 118) (.t 119)),zL 121 9 120,zC 122 73 [.t 116,.t 117,.t 121]]))
 (.cond (.t 122)
 (.seq (.cut [4,10,11] (.reg [zV 123 10,zV 124 11,zo 125 (.mD 77 (.t 123) (.t 124)),zL 126 9 125,zo 127 (.build 47 [(0,.c (.i .i64 3)),(1,.t 126)]),zS 47 4 127,zo 5 (.mv (.c (.i .i64 0)))]))
 .ret)
 .skip)))
 (.cut [0,1,4,10,11] (.reg [zV 114 11,zD 115 .add 3 114 1,zV 11 115]))))
def c38:AC:=(.seq (.reg [zo 4 (.alloc 47),zo 5 (.mv (.c (.i .i64 0)))])
 (.seq (.cut [0,1,4] (.reg [zV 12 0,zV 13 1,zo 14 (.idx 9 (.t 12) (.t 13)),zV 6 14]))
 (.seq (.reg [zo 7 (.mv (.c (.i .i64 0)))])
 (.seq (.seq (.reg [zV 15 6,zC 16 74 [.t 15]])
 (.cond (.t 16)
 (.seq (.blk 0
 (.loop [0,1,4,7] VZ))
 (.cut [1000000,0,1,4,7] (.seq (.cut [0,1,4,7] (.reg [zV 41 0,zV 42 1,zV 43 1,zV 44 7,zB 45 .add 3 43 44,zo 46 (.slc 9 (.t 41) (some (.t 42)) (some (.t 45))),zV 8 46]))
 (.seq (.seq (.reg [zV 47 7,zD 48 .gtr 3 47 32])
 (.cond (.t 48)
 (.seq (.cut [4] (.reg [zo 49 (.build 47 []),zS 47 4 49,zo 5 (.mv (.c (.i .i64 9)))]))
 .ret)
 .skip))
 (.seq (.seq (.reg [zV 50 8,zC 51 76 [.t 50]])
 (.cond (.t 51)
 (.seq (.cut [4,8] (.reg [zV 52 8,zo 53 (.build 47 [(0,.c (.i .i64 4)),(1,.t 52)]),zS 47 4 53,zo 5 (.mv (.c (.i .i64 0)))]))
 .ret)
 .skip))
 (.seq (.cut [4,8] (.reg [zV 54 8,zo 55 (.build 47 [(0,.c (.i .i64 1)),(1,.t 54)]),zS 47 4 55,zo 5 (.mv (.c (.i .i64 0)))]))
 .ret))))))
 .skip))
 (.seq (.seq (.reg [zV 56 6,zC 57 75 [.t 56]])
 (.cut [1000000,0,1,4,6,7,57] (.cond (.t 57)
 (.seq (.blk 2
 (.loop [0,1,4,6,7] V3))
 (.seq (.cut [0,1,4,6,7] (.reg [zV 74 0,zV 75 1,zV 76 1,zV 77 7,zB 78 .add 3 76 77,zo 79 (.slc 9 (.t 74) (some (.t 75)) (some (.t 78))),zV 9 79]))
 (.cut [1000000,0,1,4,6,7,9] (.seq (.seq (.cut [0,1,4,6,7,9] (.reg [zV 80 7,zD 81 .gtr 3 80 1,zV 82 81,eu 83 82 6,aZ 84 82 (.bin .eql 5 (.t 83) (.c (.i .u8 48))),zo 85 (.pick (.t 82) (.t 84) (.c (.b false))),zV 86 85,gY 87 86 1,gY 88 86 7,bY 89 86 (.bin .add 3 (.t 87) (.t 88)),gY 90 86 0,bY 91 86 (.len 9 (.t 90)),bY 92 86 (.bin .lss 3 (.t 89) (.t 91)),gY 93 86 92,eu 94 93 0,eu 95 93 1,eu 96 93 7,aZ 97 93 (.bin .add 3 (.t 95) (.t 96)),aZ 98 93 (.idx 9 (.t 94) (.t 97)),aZ 99 93 (.call (.c (.fn (.func 74) [] [])) [.t 98]),bY 100 86 (.pick (.t 93) (.t 99) (.c (.b false))),zo 101 (.pick (.t 86) (.c (.b true)) (.t 100))]))
 (.cond (.t 101)
 (.seq (.cut [4] (.reg [zo 102 (.build 47 []),zS 47 4 102,zo 5 (.mv (.c (.i .i64 9)))]))
 .ret)
 .skip))
 (.seq (.seq (.cut [4,9] (.reg [zV 103 9,zC 104 77 [.t 103],zo 105 (.un .not (.t 104))]))
 (.cond (.t 105)
 (.seq (.cut [4] (.reg [zo 106 (.build 47 []),zS 47 4 106,zo 5 (.mv (.c (.i .i64 3)))]))
 .ret)
 .skip))
 (.seq (.cut [4,9] (.reg [zV 107 9,zo 108 (.build 47 [(0,.c (.i .i64 2)),(1,.t 107)]),zS 47 4 108,zo 5 (.mv (.c (.i .i64 0)))]))
 .ret))))))
 .skip)))
 (.cut [1000000,0,1,4] (.seq (.reg [zC 109 78 [],zV 10 109])
 (.seq (.seq (.reg [zo 11 (.mv (.c (.i .i64 0)))])
 (.blk 4
 (.loop [0,1,4,10,11] V4)))
 (.seq (.cut [4] (.reg [zo 128 (.build 47 []),zS 47 4 128,zo 5 (.mv (.c (.i .i64 9)))]))
 .ret)))))))))
def F38:AF:=⟨129,[.cell 4 47,.t 5],c38⟩
def c39:AC:=(.seq (.cut [0,1] (.reg [zV 4 0,zV 5 1,zC 6 43 [.t 4,.t 5],zo 7 (.un .not (.t 6))]))
 (.cond (.t 7)
 (.reg [zV 8 0,zC 9 79 [.t 8,.c (.i .i64 4)]])
 .skip))
def F39:AF:=⟨10,[],c39⟩
def c40:AC:=(.seq (.reg [zo 2 (.mv (.c (.s [])))])
 (.seq (.cut [0] (.reg [zV 4 0,zC 5 14 [.t 4],zo 3 (.alloc 47),zS 47 3 5]))
 (.seq (.seq (.cut [0,3] (.reg [zV 6 0,zN 7 6,zF 8 56 7 3,zL 9 4 8,zV 10 9,bY 11 10 (.eY 47 (.t 3) 0),bY 12 10 (.load 3 (.t 11)),bY 13 10 (.bin .neq 3 (.t 12) (.c (.i .i64 1))),zo 14 (.pick (.t 10) (.c (.b true)) (.t 13))]))
 (.cond (.t 14)
 (.seq (.reg [zV 15 0,zC 16 79 [.t 15,.c (.i .i64 4)]])
 (.seq (.reg [zo 2 (.mv (.c (.s [])))])
 .ret))
 .skip))
 (.seq (.cut [0,3] (.reg [zV 17 0,zN 18 17,zF 19 56 18 1,zL 20 3 19,zD 21 .add 3 20 1,zN 22 17,zF 23 56 22 1,zS 3 23 21]))
 (.seq (.cut [3] (.reg [zF 24 47 3 1,zL 25 9 24,zV 2 25]))
 .ret)))))
def F40:AF:=⟨26,[.t 2],c40⟩
def c41:AC:=(.seq (.seq (.cut [0,1] (.reg [zV 4 0,zV 5 1,zC 6 42 [.t 4,.t 5],zV 7 6,eu 8 7 0,aZ 9 7 (.bn (.t 8)),aZ 10 7 (.eY 56 (.t 9) 2),aZ 11 7 (.load 3 (.t 10)),aZ 12 7 (.bin .geq 3 (.t 11) (.c (.i .i64 64))),zo 13 (.pick (.t 7) (.t 12) (.c (.b false)))]))
 (.cond (.t 13)
 (.reg [zV 14 0,zC 15 79 [.t 14,.c (.i .i64 3)]])
 .skip))
 (.cut [1000000,0,1] (.seq (.cut [0,1] (.reg [zV 16 0,zV 17 1,zC 18 39 [.t 16,.t 17]]))
 (.cut [0] (.reg [zV 19 0,zN 20 19,zF 21 56 20 2,zL 22 3 21,zD 23 .add 3 22 1,zN 24 19,zF 25 56 24 2,zS 3 25 23])))))
def F41:AF:=⟨26,[],c41⟩
def c42:AC:=(.seq (.reg [zo 4 (.mv (.c (.b false)))])
 (.seq (.cut [0,1] (.reg [zV 6 0,zC 7 14 [.t 6],zo 5 (.alloc 47),zS 47 5 7]))
 (.seq (.cut [0,1,5] (.reg [zV 8 0,zN 9 8,zF 10 56 9 3,zL 11 4 10,zo 12 (.un .not (.t 11)),zV 13 12,aZ 14 13 (.eY 47 (.t 5) 0),aZ 15 13 (.load 3 (.t 14)),aZ 16 13 (.bin .eql 3 (.t 15) (.c (.i .i64 4))),eu 17 13 16,bY 18 17 (.eY 47 (.t 5) 0),bY 19 17 (.load 3 (.t 18)),bY 20 17 (.bin .eql 3 (.t 19) (.c (.i .i64 3))),aZ 21 13 (.pick (.t 17) (.c (.b true)) (.t 20)),zo 22 (.pick (.t 13) (.t 21) (.c (.b false))),zV 23 22,aZ 24 23 (.eY 47 (.t 5) 1),aZ 25 23 (.load 9 (.t 24)),eu 26 23 1,aZ 27 23 (.bin .eql 9 (.t 25) (.t 26)),zo 28 (.pick (.t 23) (.t 27) (.c (.b false))),zV 4 28]))
 .ret)))
def F42:AF:=⟨29,[.t 4],c42⟩
def c43:AC:=(.seq (.reg [zo 4 (.mv (.c (.b false)))])
 (.seq (.seq (.cut [0,1] (.reg [zV 5 0,zV 6 1,zC 7 42 [.t 5,.t 6],zo 8 (.un .not (.t 7))]))
 (.cond (.t 8)
 (.seq (.reg [zo 4 (.mv (.c (.b false)))])
 .ret)
 .skip))
 (.seq (.cut [0] (.reg [zV 9 0,zN 10 9,zF 11 56 10 1,zL 12 3 11,zD 13 .add 3 12 1,zN 14 9,zF 15 56 14 1,zS 3 15 13]))
 (.seq (.reg [zo 4 (.mv (.c (.b true)))])
 .ret))))
def F43:AF:=⟨16,[.t 4],c43⟩
def c44:AC:=(.seq (.cut [0,1] (.reg [zV 4 0,zV 5 1,zC 6 39 [.t 4,.t 5]]))
 (.cut [0] (.reg [zV 7 0,zN 8 7,zF 9 56 8 2,zL 10 3 9,zD 11 .sub 3 10 1,zN 12 7,zF 13 56 12 2,zS 3 13 11])))
def F44:AF:=⟨14,[],c44⟩
def Py:AC:=(.seq (.seq (.cut [0,3] (.reg [zV 6 0,zN 7 6,zF 8 56 7 3,zL 9 4 8,zo 10 (.un .not (.t 9)),zV 11 10,eu 12 11 0,aZ 13 11 (.call (.c (.fn (.func 42) [] [])) [.t 12,.c (.s [125])]),aZ 14 11 (.un .not (.t 13)),zo 15 (.pick (.t 11) (.t 14) (.c (.b false)))]))
 (.cond (.t 15)
 .skip
 (.exit 0)))
 (.blk 1
 (.cut [0,3] (.reg [zV 16 3,zV 17 0,zC 18 80 [.t 17],zo 19 (.iM 83 1 [(0,.t 18)]),zo 20 (.app 83 false (.t 16) (.t 19)),zV 3 20]))))
def c45:AC:=(.seq (.reg [zo 2 (.mv (.c (.sl0)))])
 (.seq (.reg [zV 4 0,zC 5 41 [.t 4,.c (.s [123])]])
 (.seq (.reg [zo 3 (.mv (.c (.sl0)))])
 (.seq (.blk 0
 (.loop [0,3] Py))
 (.seq (.reg [zV 21 0,zC 22 44 [.t 21,.c (.s [125])]])
 (.seq (.reg [zV 23 3,zV 2 23])
 .ret))))))
def F45:AF:=⟨24,[.t 2],c45⟩
def ZI:AC:=(.seq (.reg [zB 46 .lss 3 45 44])
 (.seq (.cond (.t 46)
 .skip
 (.exit 3))
 (.seq (.blk 4
 (.seq (.cut [1,2,43,44,45] (.reg [zo 47 (.mD 146 (.t 43) (.t 45)),zL 48 24 47,zV 12 48]))
 (.seq (.cut [1,2,12,43,44,45] (.reg [zV 49 12,zV 50 1,zV 51 2,zC 52 51 [.t 49,.t 50,.t 51]]))
 (.cond (.t 52)
 (.seq (.reg [zo 6 (.mv (.c (.b true)))])
 .ret)
 .skip))))
 (.reg [zD 53 .add 3 45 1,zV 45 53]))))
def ZJ:AC:=(.blk 1
 (.seq (.seq (.cut [0,1,2] (.reg [zV 14 2,zV 15 14,eu 16 15 0,eu 17 15 1,aZ 18 15 (.bin .eql 24 (.t 16) (.t 17)),zo 19 (.pick (.t 15) (.t 18) (.c (.b false)))]))
 (.cond (.t 19)
 (.seq (.reg [zo 6 (.mv (.c (.b true)))])
 .ret)
 .skip))
 (.seq (.seq (.cut [0,1,2] (.reg [zV 21 0,zo 22 (.SK (.t 21) 24 148 true),zV 20 22,zE 23 20 0,zE 24 20 1,zV 7 23,zV 8 24]))
 (.seq (.cut [0,1,2,7,8] (.reg [zV 25 8,zV 26 25,eu 27 26 7,eu 28 26 1,aZ 29 26 (.inv (.t 27) "Is" [.t 28]),zo 30 (.pick (.t 26) (.t 29) (.c (.b false)))]))
 (.cond (.t 30)
 (.seq (.reg [zo 6 (.mv (.c (.b true)))])
 .ret)
 .skip)))
 (.seq (.reg [zV 31 0])
 (.blk 2
 (.seq (.cut [1,2,31] (.reg [zo 32 (.SK (.t 31) 24 143 true),zE 33 32 1,zE 34 32 0]))
 (.cut [1000000,1,2,31,33,34] (.cond (.t 33)
 (.seq (.reg [zV 9 34])
 (.seq (.cut [1,2,9] (.reg [zV 35 9,zo 36 (.inv (.t 35) "Unwrap" []),zV 0 36]))
 (.seq (.reg [zV 37 0,zo 38 (.bin .eql 24 (.t 37) (.c (.fM)))])
 (.cond (.t 38)
 (.seq (.reg [zo 6 (.mv (.c (.b false)))])
 .ret)
 .skip))))
 (.seq (.cut [1,2,31] (.reg [zo 39 (.SK (.t 31) 24 145 true),zE 40 39 1,zE 41 39 0]))
 (.cond (.t 40)
 (.seq (.reg [zV 10 41])
 (.seq (.seq (.cut [1,2,10] (.reg [zV 42 10,zo 43 (.inv (.t 42) "Unwrap" []),zo 44 (.len 146 (.t 43)),zo 45 (.mv (.c (.i .i64 0)))]))
 (.blk 3
 (.loop [1,2,43,44,45] ZI)))
 (.seq (.reg [zo 6 (.mv (.c (.b false)))])
 .ret)))
 (.seq (.reg [zV 13 31])
 (.seq (.reg [zo 6 (.mv (.c (.b false)))])
 .ret))))))))))))
def c51:AC:=(.seq (.reg [zo 6 (.mv (.c (.b false)))])
 (.blk 0
 (.loop [0,1,2] ZJ)))
def F51:AF:=⟨54,[.t 6],c51⟩
def V5:AC:=(.seq (.seq (.cut [0,1,2,7] (.reg [zV 15 7,zV 16 0,zo 17 (.len 83 (.t 16)),zB 18 .lss 3 15 17]))
 (.cond (.t 18)
 .skip
 (.exit 0)))
 (.seq (.blk 1
 (.seq (.cut [0,1,2,7] (.jm [(zV 21 0,[]),(zV 22 7,[]),(zo 23 (.mD 83 (.t 21) (.t 22)),[]),(zL 24 121 23,[]),(zV 25 1,[]),(zV 26 7,[]),(zo 27 (.mD 83 (.t 25) (.t 26)),[]),(zL 28 121 27,[]),(zV 8 24,[]),(zV 9 28,[])]))
 (.seq (.seq (.cut [0,1,2,7,8,9] (.reg [zV 29 8,zo 30 (.bin .eql 121 (.t 29) (.c (.p0))),zV 31 30,gY 32 31 9,bY 33 31 (.bin .eql 121 (.t 32) (.c (.p0))),zo 34 (.pick (.t 31) (.c (.b true)) (.t 33))]))
 (.cond (.t 34)
 (.seq (.seq (.cut [0,1,2,7,8,9] (.reg [zV 35 8,zo 36 (.bin .neq 121 (.t 35) (.c (.p0))),zV 37 36,gY 38 37 9,bY 39 37 (.bin .neq 121 (.t 38) (.c (.p0))),zo 40 (.pick (.t 37) (.c (.b true)) (.t 39))]))
 (.cond (.t 40)
 (.seq (.reg [zo 6 (.mv (.c (.b false)))])
 .ret)
 .skip))
 (.exit 1))
 .skip))
 (.cut [1000000,0,1,2,7,8,9] (.seq (.cut [0,1,2,7,8,9] (.jm [(zV 41 8,[]),(zN 42 41,[]),(zF 43 120 42 0,[]),(zL 44 3 43,[]),(zV 45 9,[]),(zN 46 45,[]),(zF 47 120 46 0,[]),(zL 48 3 47,[]),(zB 49 .neq 3 44 48,[]),(zV 50 49,[]),(gY 51 50 8,[]),(bY 52 50 (.bn (.t 51)),[]),(bY 53 50 (.eY 120 (.t 52) 1),[]),(bY 54 50 (.load 9 (.t 53)),[]),(gY 55 50 9,[]),(bY 56 50 (.bn (.t 55)),[]),(bY 57 50 (.eY 120 (.t 56) 1),[]),(bY 58 50 (.load 9 (.t 57)),[]),(bY 59 50 (.bin .neq 9 (.t 54) (.t 58)),[]),(zo 60 (.pick (.t 50) (.c (.b true)) (.t 59)),[]),(zV 61 60,[]),(gY 62 61 8,[]),(bY 63 61 (.bn (.t 62)),[]),(bY 64 61 (.eY 120 (.t 63) 2),[]),(bY 65 61 (.load 4 (.t 64)),[]),(gY 66 61 9,[]),(bY 67 61 (.bn (.t 66)),[]),(bY 68 61 (.eY 120 (.t 67) 2),[]),(bY 69 61 (.load 4 (.t 68)),[]),(bY 70 61 (.bin .neq 4 (.t 65) (.t 69)),[]),(zo 71 (.pick (.t 61) (.c (.b true)) (.t 70)),[]),(zV 72 71,[]),(gY 73 72 2,[]),(gY 74 72 73,[]),(eu 75 74 8,[]),(aZ 76 74 (.bn (.t 75)),[]),(aZ 77 74 (.eY 120 (.t 76) 7),[]),(aZ 78 74 (.load 3 (.t 77)),[]),(eu 79 74 9,[]),(aZ 80 74 (.bn (.t 79)),[]),(aZ 81 74 (.eY 120 (.t 80) 7),[]),(aZ 82 74 (.load 3 (.t 81)),[]),(aZ 83 74 (.bin .neq 3 (.t 78) (.t 82)),[]),(bY 84 72 (.pick (.t 74) (.t 83) (.c (.b false))),[]),(zo 85 (.pick (.t 72) (.c (.b true)) (.t 84)),[]),(zV 86 85,[]),(gY 87 86 8,[]),(bY 88 86 (.bn (.t 87)),[]),(bY 89 86 (.eY 120 (.t 88) 3),[]),(bY 90 86 (.load 63 (.t 89)),[]),(gY 91 86 9,[]),(bY 92 86 (.bn (.t 91)),[]),(bY 93 86 (.eY 120 (.t 92) 3),[]),(bY 94 86 (.load 63 (.t 93)),[]),(gY 95 86 2,[]),(bY 96 86 (.call (.c (.fn (.func 83) [] [])) [.t 90,.t 94,.t 95]),[]),(bY 97 86 (.un .not (.t 96)),[]),(zo 98 (.pick (.t 86) (.c (.b true)) (.t 97)),[]),(zV 99 98,[]),(gY 100 99 8,[]),(bY 101 99 (.bn (.t 100)),[]),(bY 102 99 (.eY 120 (.t 101) 4),[]),(bY 103 99 (.load 63 (.t 102)),[]),(gY 104 99 9,[]),(bY 105 99 (.bn (.t 104)),[]),(bY 106 99 (.eY 120 (.t 105) 4),[]),(bY 107 99 (.load 63 (.t 106)),[]),(gY 108 99 2,[]),(bY 109 99 (.call (.c (.fn (.func 83) [] [])) [.t 103,.t 107,.t 108]),[]),(bY 110 99 (.un .not (.t 109)),[]),(zo 111 (.pick (.t 99) (.c (.b true)) (.t 110)),[]),(zV 112 111,[]),(gY 113 112 8,[]),(bY 114 112 (.bn (.t 113)),[]),(bY 115 112 (.eY 120 (.t 114) 5),[]),(bY 116 112 (.load 83 (.t 115)),[]),(gY 117 112 9,[]),(bY 118 112 (.bn (.t 117)),[]),(bY 119 112 (.eY 120 (.t 118) 5),[]),(bY 120 112 (.load 83 (.t 119)),[]),(gY 121 112 2,[]),(bY 122 112 (.call (.c (.fn (.func 52) [] [])) [.t 116,.t 120,.t 121]),[]),(bY 123 112 (.un .not (.t 122)),[]),(zo 124 (.pick (.t 112) (.c (.b true)) (.t 123)),[]),(zV 125 124,[]),(gY 126 125 8,[]),(bY 127 125 (.bn (.t 126)),[]),(bY 128 125 (.eY 120 (.t 127) 6),[]),(bY 129 125 (.load 83 (.t 128)),[]),(gY 130 125 9,[]),(bY 131 125 (.bn (.t 130)),[]),(bY 132 125 (.eY 120 (.t 131) 6),[]),(bY 133 125 (.load 83 (.t 132)),[]),(gY 134 125 2,[]),(bY 135 125 (.call (.c (.fn (.func 52) [] [])) [.t 129,.t 133,.t 134]),[]),(bY 136 125 (.un .not (.t 135)),[]),(zo 137 (.pick (.t 125) (.c (.b true)) (.t 136)),[])]))
 (.cut [1000000,0,1,2,7,137] (.cond (.t 137)
 (.seq (.reg [zo 6 (.mv (.c (.b false)))])
 .ret)
 .skip)))))))
 (.cut [1000000,0,1,2,7] (.cut [0,1,2,7] (.reg [zV 19 7,zD 20 .add 3 19 1,zV 7 20])))))
def c52:AC:=(.seq (.reg [zo 6 (.mv (.c (.b false)))])
 (.seq (.seq (.cut [0,1,2] (.reg [zV 10 0,zo 11 (.len 83 (.t 10)),zV 12 1,zo 13 (.len 83 (.t 12)),zB 14 .neq 3 11 13]))
 (.cond (.t 14)
 (.seq (.reg [zo 6 (.mv (.c (.b false)))])
 .ret)
 .skip))
 (.seq (.seq (.reg [zo 7 (.mv (.c (.i .i64 0)))])
 (.blk 0
 (.loop [0,1,2,7] V5)))
 (.seq (.reg [zo 6 (.mv (.c (.b true)))])
 .ret))))
def F52:AF:=⟨138,[.t 6],c52⟩
def ZK:AC:=(.seq (.reg [zB 24 .lss 3 23 22])
 (.seq (.cond (.t 24)
 .skip
 (.exit 0))
 (.seq (.blk 1
 (.seq (.cut [0,1,21,22,23] (.reg [zV 25 23,zo 26 (.mD 82 (.t 21) (.t 23)),zL 27 90 26,zo 5 (.alloc 90),zV 4 25,zS 90 5 27]))
 (.seq (.seq (.reg [zV 28 4,zD 29 .gtr 3 28 0])
 (.cond (.t 29)
 (.cut [0,1,5,21,22,23] (.reg [zV 30 0,zo 31 (.iM 77 1 [(0,.c (.s [44,32]))]),zC 32 84 [.t 30,.t 31]]))
 .skip))
 (.cut [1000000,0,1,5,21,22,23] (.seq (.cut [0,1,5,21,22,23] (.reg [zV 33 0,zF 34 90 5 0,zL 35 9 34,zo 36 (.iM 77 1 [(0,.t 35)]),zC 37 84 [.t 33,.t 36]]))
 (.seq (.reg [zF 38 90 5 1,zL 39 4 38])
 (.cond (.t 39)
 (.cut [0,1,21,22,23] (.reg [zV 40 0,zo 41 (.iM 77 1 [(0,.c (.s [32,112,116,114]))]),zC 42 84 [.t 40,.t 41]]))
 .skip)))))))
 (.reg [zD 43 .add 3 23 1,zV 23 43]))))
def c53:AC:=(.seq (.seq (.reg [zV 6 1,zo 7 (.bin .eql 49 (.t 6) (.c (.p0)))])
 (.cond (.t 7)
 (.seq (.cut [0] (.reg [zV 8 0,zN 9 8,zF 10 116 9 2,zn (.store 4 (.t 10) (.c (.b true)))]))
 .ret)
 .skip))
 (.seq (.cut [0,1] (.reg [zV 11 0,zV 12 1,zN 13 12,zF 14 85 13 0,zL 15 9 14,zo 16 (.iM 77 3 [(0,.c (.s [102,117,110,99,32])),(1,.t 15),(2,.c (.s [40]))]),zC 17 84 [.t 11,.t 16]]))
 (.seq (.seq (.cut [0,1] (.reg [zV 18 1,zN 19 18,zF 20 85 19 1,zL 21 82 20,zo 22 (.len 82 (.t 21)),zo 23 (.mv (.c (.i .i64 0)))]))
 (.blk 0
 (.loop [0,1,21,22,23] ZK)))
 (.seq (.cut [0,1] (.reg [zV 44 0,zo 45 (.iM 77 1 [(0,.c (.s [41]))]),zC 46 84 [.t 44,.t 45]]))
 (.seq (.seq (.cut [0,1] (.reg [zV 47 1,zN 48 47,zF 49 85 48 2,zL 50 4 49]))
 (.cond (.t 50)
 (.cut [0,1] (.reg [zV 51 0,zo 52 (.iM 77 1 [(0,.c (.s [32,112,116,114]))]),zC 53 84 [.t 51,.t 52]]))
 .skip))
 (.cut [1000000,0,1] (.seq (.cut [0,1] (.reg [zV 54 0,zV 55 1,zN 56 55,zF 57 85 56 3,zL 58 83 57,zC 59 85 [.t 54,.t 58]]))
 (.cut [0] (.reg [zV 60 0,zo 61 (.iM 77 1 [(0,.c (.s [10]))]),zC 62 84 [.t 60,.t 61]])))))))))
def F53:AF:=⟨63,[],c53⟩
def c54:AC:=(.seq (.reg [zo 2 (.mv (.c (.i .i64 0)))])
 (.seq (.cut [0] (.reg [zV 3 0,zN 4 3,zF 5 114 4 1,zL 6 112 5,zo 7 (.len 112 (.t 6)),zV 2 7]))
 .ret))
def F54:AF:=⟨8,[.t 2],c54⟩
def c56:AC:=(.seq (.reg [zo 4 (.mv (.c (.b false)))])
 (.seq (.cut [0,1] (.reg [zV 5 0,zV 6 1,zC 7 86 [.t 5,.t 6,.c (.fn (.func 87) [] [])],zV 4 7]))
 .ret))
def F56:AF:=⟨8,[.t 4],c56⟩
def c57:AC:=(.seq (.reg [zo 4 (.mv (.c (.s []))),zo 5 (.mv (.c (.b false)))])
 (.seq (.cut [0,1] (.reg [zV 6 0,zV 7 1,zC 8 90 [.t 6,.t 7],zE 9 8 0,zE 10 8 1,zV 4 9,zV 5 10]))
 .ret))
def F57:AF:=⟨11,[.t 4,.t 5],c57⟩
def c58:AC:=(.seq (.reg [zo 4 (.mv (.c (.s []))),zo 5 (.mv (.c (.b false)))])
 (.seq (.cut [0,1] (.reg [zV 6 0,zV 7 1,zC 8 91 [.t 6,.t 7],zE 9 8 0,zE 10 8 1,zV 4 9,zV 5 10]))
 .ret))
def F58:AF:=⟨11,[.t 4,.t 5],c58⟩
def c59:AC:=(.seq (.reg [zo 4 (.mv (.c (.b false)))])
 (.seq (.cut [0,1] (.reg [zV 5 0,zo 6 (.len 9 (.t 5)),zV 7 1,zo 8 (.len 9 (.t 7)),zB 9 .geq 3 6 8,zV 10 9,eu 11 10 0,eu 12 10 1,aZ 13 10 (.len 9 (.t 12)),aZ 14 10 (.slc 9 (.t 11) none (some (.t 13))),eu 15 10 1,aZ 16 10 (.bin .eql 9 (.t 14) (.t 15)),zo 17 (.pick (.t 10) (.t 16) (.c (.b false))),zV 4 17]))
 .ret))
def F59:AF:=⟨18,[.t 4],c59⟩
def c61:AC:=(.seq (.reg [zo 4 (.mv (.c (.b false)))])
 (.seq (.cut [0,1] (.reg [zV 5 0,zV 6 1,zC 7 93 [.t 5,.t 6],zD 8 .geq 3 7 0,zV 4 8]))
 .ret))
def F61:AF:=⟨9,[.t 4],c61⟩
def V6:AC:=(.seq (.reg [zB 9 .lss 3 8 7])
 (.seq (.cond (.t 9)
 .skip
 (.exit 0))
 (.seq (.blk 1
 (.seq (.reg [zV 10 8,zV 5 10])
 (.seq (.cut [0,1,5,7,8] (.reg [zV 11 1,zV 12 0,zV 13 5,zo 14 (.mD 77 (.t 12) (.t 13)),zL 15 9 14,zB 16 .eql 9 11 15]))
 (.cond (.t 16)
 (.seq (.reg [zV 17 5,zV 4 17])
 .ret)
 .skip))))
 (.reg [zD 18 .add 3 8 1,zV 8 18]))))
def c62:AC:=(.seq (.reg [zo 4 (.mv (.c (.i .i64 0)))])
 (.seq (.seq (.cut [0,1] (.reg [zV 6 0,zo 7 (.len 77 (.t 6)),zo 8 (.mv (.c (.i .i64 0)))]))
 (.blk 0
 (.loop [0,1,7,8] V6)))
 (.seq (.reg [zo 4 (.mv (.c (.i .i64 (-1))))])
 .ret)))
def F62:AF:=⟨19,[.t 4],c62⟩
def ZL:AC:=(.seq (.seq (.cut [0,3,4,5,6] (.reg [zV 13 6,zV 14 0,zo 15 (.len 9 (.t 14)),zB 16 .lss 3 13 15]))
 (.cond (.t 16)
 .skip
 (.exit 0)))
 (.seq (.blk 1
 (.seq (.cut [0,3,4,5,6] (.reg [zV 19 0,zV 20 6,zo 21 (.idx 9 (.t 19) (.t 20)),zV 7 21]))
 (.seq (.cut [0,3,4,5,6,7] (.reg [zV 22 5,zV 23 7,zB 24 .or 5 22 23,zV 5 24]))
 (.seq (.cut [0,3,4,5,6,7] (.reg [zV 25 7,zo 26 (.mD 159 (.c (.p 1 0 0)) (.t 25)),zL 27 5 26,zo 28 (.conv 5 3 (.t 27)),zV 8 28]))
 (.seq (.cut [0,3,4,5,6,8] (.reg [zV 29 3,zV 30 4,zV 31 8,zo 32 (.un .xor (.t 31)),zB 33 .and 3 30 32,zB 34 .add 3 29 33,zV 3 34]))
 (.reg [zV 35 8,zV 4 35]))))))
 (.cut [0,3,4,5,6] (.reg [zV 17 6,zD 18 .add 3 17 1,zV 6 18]))))
def ZM:AC:=(.seq (.seq (.cut [0,9,10,12] (.reg [zV 42 12,zV 43 0,zo 44 (.len 9 (.t 43)),zB 45 .lss 3 42 44,zV 46 45,eu 47 46 0,eu 48 46 12,aZ 49 46 (.idx 9 (.t 47) (.t 48)),aZ 50 46 (.mD 159 (.c (.p 1 0 0)) (.t 49)),aZ 51 46 (.load 5 (.t 50)),aZ 52 46 (.bin .neq 5 (.t 51) (.c (.i .u8 0))),zo 53 (.pick (.t 46) (.t 52) (.c (.b false)))]))
 (.cond (.t 53)
 .skip
 (.exit 2)))
 (.blk 3
 (.cut [0,9,10,12] (.reg [zV 54 12,zD 55 .add 3 54 1,zV 12 55]))))
def ZN:AC:=(.seq (.seq (.cut [0,9,10,12] (.reg [zV 80 12,zV 81 0,zo 82 (.len 9 (.t 81)),zB 83 .lss 3 80 82,zV 84 83,eu 85 84 0,eu 86 84 12,aZ 87 84 (.idx 9 (.t 85) (.t 86)),aZ 88 84 (.mD 159 (.c (.p 1 0 0)) (.t 87)),aZ 89 84 (.load 5 (.t 88)),aZ 90 84 (.bin .neq 5 (.t 89) (.c (.i .u8 0))),zo 91 (.pick (.t 84) (.t 90) (.c (.b false)))]))
 (.cond (.t 91)
 .skip
 (.exit 6)))
 (.blk 7
 (.cut [0,9,10,12] (.reg [zV 92 12,zD 93 .add 3 92 1,zV 12 93]))))
def ZO:AC:=(.seq (.seq (.cut [0,9,10,11,12] (.reg [zV 57 12,zV 58 0,zo 59 (.len 9 (.t 58)),zB 60 .lss 3 57 59]))
 (.cond (.t 60)
 .skip
 (.exit 4)))
 (.blk 5
 (.seq (.seq (.cut [0,9,10,11,12] (.reg [zV 61 0,zV 62 12,zo 63 (.idx 9 (.t 61) (.t 62)),zo 64 (.mD 159 (.c (.p 1 0 0)) (.t 63)),zL 65 5 64,zo 66 (.bin .eql 5 (.t 65) (.c (.i .u8 0)))]))
 (.cond (.t 66)
 (.seq (.cut [0,9,10,11,12] (.reg [zV 67 12,zD 68 .add 3 67 1,zV 12 68]))
 (.exit 5))
 .skip))
 (.seq (.cut [0,9,10,11,12] (.reg [zV 69 9,zV 70 10,zV 71 0,zV 72 11,zV 73 12,zo 74 (.slc 9 (.t 71) (some (.t 72)) (some (.t 73))),zo 75 (.mD 77 (.t 69) (.t 70)),zS 9 75 74]))
 (.seq (.cut [0,9,10,12] (.reg [zV 76 10,zD 77 .add 3 76 1,zV 10 77]))
 (.seq (.cut [0,9,10,12] (.reg [zV 78 12,zD 79 .add 3 78 1,zV 12 79]))
 (.seq (.blk 6
 (.loop [0,9,10,12] ZN))
 (.reg [zV 94 12,zV 11 94]))))))))
def c63:AC:=(.seq (.reg [zo 2 (.mv (.c (.sl0)))])
 (.seq (.reg [zo 3 (.mv (.c (.i .i64 0)))])
 (.seq (.reg [zo 4 (.mv (.c (.i .i64 1)))])
 (.seq (.reg [zo 5 (.mv (.c (.i .u8 0)))])
 (.seq (.seq (.reg [zo 6 (.mv (.c (.i .i64 0)))])
 (.blk 0
 (.loop [0,3,4,5,6] ZL)))
 (.cut [1000000,0,3,5] (.seq (.seq (.reg [zV 36 5,zo 37 (.bin .geq 5 (.t 36) (.c (.i .u8 128)))])
 (.cond (.t 37)
 (.seq (.cut [0] (.reg [zV 38 0,zC 39 94 [.t 38,.c (.fn (.func 95) [] [])],zV 2 39]))
 .ret)
 .skip))
 (.seq (.cut [0,3] (.reg [zV 40 3,zo 41 (.WO 77 (.t 40) (.t 40)),zV 9 41]))
 (.seq (.reg [zo 10 (.mv (.c (.i .i64 0)))])
 (.seq (.reg [zo 11 (.mv (.c (.i .i64 0)))])
 (.seq (.reg [zo 12 (.mv (.c (.i .i64 0)))])
 (.seq (.blk 2
 (.loop [0,9,10,12] ZM))
 (.seq (.reg [zV 56 12,zV 11 56])
 (.seq (.blk 4
 (.loop [0,9,10,11,12] ZO))
 (.seq (.seq (.cut [0,9,10,11] (.reg [zV 95 11,zV 96 0,zo 97 (.len 9 (.t 96)),zB 98 .lss 3 95 97]))
 (.cond (.t 98)
 (.cut [0,9,10,11] (.reg [zV 99 9,zV 100 10,zV 101 0,zV 102 11,zo 103 (.slc 9 (.t 101) (some (.t 102)) none),zo 104 (.mD 77 (.t 99) (.t 100)),zS 9 104 103]))
 .skip))
 (.seq (.reg [zV 105 9,zV 2 105])
 .ret))))))))))))))))
def F63:AF:=⟨106,[.t 2],c63⟩
def c66:AC:=(.seq (.cut [0,1] (.reg [zV 4 0,zC 5 10 [.t 4],zo 6 (.un .not (.t 5))]))
 (.cond (.t 6)
 (.cut [0,1] (.reg [zV 7 0,zV 8 1,zV 9 0,zC 10 11 [.t 9],zo 11 (.MB 47 (.t 10) 2),zo 12 (.build 29 [(0,.t 8),(1,.t 11)]),zo 13 (.box 29 (.t 12)),zN 14 7,zF 15 42 14 2,zS 40 15 13]))
 .skip))
def F66:AF:=⟨16,[],c66⟩
def c67:AC:=(.seq (.cut [0] (.reg [zV 2 0,zN 3 2,zF 4 42 3 0,zL 5 36 4,zo 6 (.len 36 (.t 5)),zD 7 .gtr 3 6 1]))
 (.cond (.t 7)
 (.cut [0] (.reg [zV 8 0,zV 9 0,zN 10 9,zF 11 42 10 0,zL 12 36 11,zo 13 (.slc 36 (.t 12) (some (.c (.i .i64 1))) none),zN 14 8,zF 15 42 14 0,zS 36 15 13]))
 .skip))
def F67:AF:=⟨16,[],c67⟩
def c68:AC:=(.seq (.seq (.cut [0,1,2] (.reg [zV 6 0,zV 7 1,zo 8 (.iM 77 1 [(0,.t 7)]),zC 9 70 [.t 6,.t 8],zV 10 9,eu 11 10 0,aZ 12 10 (.bn (.t 11)),aZ 13 10 (.eY 42 (.t 12) 1),aZ 14 10 (.load 3 (.t 13)),aZ 15 10 (.bin .geq 3 (.t 14) (.c (.i .i64 64))),zo 16 (.pick (.t 10) (.t 15) (.c (.b false)))]))
 (.cond (.t 16)
 (.reg [zV 17 0,zC 18 66 [.t 17,.c (.i .i64 3)]])
 .skip))
 (.cut [1000000,0,1,2] (.seq (.cut [0,1,2] (.reg [zV 19 0,zV 20 1,zC 21 31 [.t 19,.t 20]]))
 (.seq (.cut [0,2] (.reg [zV 22 0,zN 23 22,zF 24 42 23 1,zL 25 3 24,zD 26 .add 3 25 1,zN 27 22,zF 28 42 27 1,zS 3 28 26]))
 (.seq (.reg [zV 29 2,zo 30 (.call (.t 29) [])])
 (.cut [0] (.reg [zV 31 0,zN 32 31,zF 33 42 32 1,zL 34 3 33,zD 35 .sub 3 34 1,zN 36 31,zF 37 42 36 1,zS 3 37 35])))))))
def F68:AF:=⟨38,[],c68⟩
def yS:AC:=(.seq (.seq (.cut [0,1,2] (.reg [zL 3 39 0,zC 4 10 [.t 3],zo 5 (.un .not (.t 4)),zV 6 5,aZ 7 6 (.load 39 (.t 0)),aZ 8 6 (.iM 77 1 [(0,.c (.s [41]))]),aZ 9 6 (.call (.c (.fn (.func 70) [] [])) [.t 7,.t 8]),aZ 10 6 (.un .not (.t 9)),zo 11 (.pick (.t 6) (.t 10) (.c (.b false)))]))
 (.cond (.t 11)
 .skip
 (.exit 0)))
 (.seq (.blk 1
 (.seq (.seq (.reg [zV 12 2,zo 13 (.un .not (.t 12))])
 (.cond (.t 13)
 (.reg [zL 14 39 0,zC 15 31 [.t 14,.c (.s [44])]])
 .skip))
 (.reg [zL 16 1 1,zo 17 (.call (.t 16) [])])))
 (.reg [zo 2 (.mv (.c (.b false)))])))
def c69:AC:=(.seq (.seq (.reg [zo 2 (.mv (.c (.b true)))])
 (.blk 0
 (.loop [0,1,2] yS)))
 (.reg [zL 18 39 0,zC 19 31 [.t 18,.c (.s [41])]]))
def Xj:AF:=⟨20,[],c69⟩
def c70:AC:=(.seq (.reg [zo 4 (.mv (.c (.b false)))])
 (.seq (.cut [0,1] (.reg [zV 6 0,zC 7 11 [.t 6],zo 5 (.alloc 47),zS 47 5 7]))
 (.seq (.cut [0,1,5] (.reg [zV 8 0,zC 9 10 [.t 8],zo 10 (.un .not (.t 9)),zV 11 10,aZ 12 11 (.eY 47 (.t 5) 0),aZ 13 11 (.load 3 (.t 12)),aZ 14 11 (.bin .eql 3 (.t 13) (.c (.i .i64 4))),eu 15 11 14,bY 16 15 (.eY 47 (.t 5) 0),bY 17 15 (.load 3 (.t 16)),bY 18 15 (.bin .eql 3 (.t 17) (.c (.i .i64 3))),aZ 19 11 (.pick (.t 15) (.c (.b true)) (.t 18)),zo 20 (.pick (.t 11) (.t 19) (.c (.b false))),zV 21 20,eu 22 21 1,aZ 23 21 (.eY 47 (.t 5) 1),aZ 24 21 (.load 9 (.t 23)),aZ 25 21 (.call (.c (.fn (.func 27) [] [])) [.t 22,.t 24]),zo 26 (.pick (.t 21) (.t 25) (.c (.b false))),zV 4 26]))
 .ret)))
def F70:AF:=⟨27,[.t 4],c70⟩
def Pz:AC:=(.seq (.seq (.cut [0,1] (.reg [zL 2 39 0,zC 3 10 [.t 2],zo 4 (.un .not (.t 3)),zV 5 4,aZ 6 5 (.load 39 (.t 0)),aZ 7 5 (.iM 77 1 [(0,.c (.s [125]))]),aZ 8 5 (.call (.c (.fn (.func 70) [] [])) [.t 6,.t 7]),aZ 9 5 (.un .not (.t 8)),zo 10 (.pick (.t 5) (.t 9) (.c (.b false)))]))
 (.cond (.t 10)
 .skip
 (.exit 0)))
 (.blk 1
 (.cut [0,1] (.jm [(zL 11 83 1,[]),(zL 12 39 0,[]),(zC 13 72 [.t 12],[zL 11 83 1]),(zo 14 (.iM 83 1 [(0,.t 13)]),[zL 11 83 1]),(zo 15 (.app 83 false (.t 11) (.t 14)),[]),(zS 83 1 15,[])]))))
def c71:AC:=(.seq (.blk 0
 (.loop [0,1] Pz))
 (.reg [zL 16 39 0,zC 17 31 [.t 16,.c (.s [125])]]))
def ZP:AF:=⟨18,[],c71⟩
def c72:AC:=(.seq (.reg [zo 1 (.box 39 (.t 0)),zo 2 (.mv (.c (.p0)))])
 (.seq (.cut [1] (.reg [zL 8 39 1,zC 9 11 [.t 8],zo 3 (.alloc 47),zS 47 3 9]))
 (.seq (.cut [1,3] (.reg [zF 10 47 3 2,zL 11 3 10,zo 12 (.build 120 [(7,.t 11)]),zo 13 (.box 120 (.t 12)),zo 4 (.alloc 121),zS 121 4 13]))
 (.seq (.reg [zo 14 (.Gt (.func 102) [] [.t 4,.t 1]),zV 5 14])
 (.seq (.seq (.cut [1,3,4,5] (.reg [zF 15 47 3 0,zL 16 3 15,zD 17 .eql 3 16 4,zV 18 17,aZ 19 18 (.load 39 (.t 1)),aZ 20 18 (.call (.c (.fn (.func 10) [] [])) [.t 19]),aZ 21 18 (.un .not (.t 20)),zo 22 (.pick (.t 18) (.t 21) (.c (.b false))),zV 23 22,aZ 24 23 (.eY 47 (.t 3) 1),aZ 25 23 (.load 9 (.t 24)),aZ 26 23 (.bin .neq 9 (.t 25) (.c (.s [110,101,119]))),zo 27 (.pick (.t 23) (.t 26) (.c (.b false))),zV 28 27,aZ 29 28 (.eY 47 (.t 3) 1),aZ 30 28 (.load 9 (.t 29)),aZ 31 28 (.bin .neq 9 (.t 30) (.c (.s [105,110]))),zo 32 (.pick (.t 28) (.t 31) (.c (.b false)))]))
 (.cut [1000000,1,3,4,5,32] (.cond (.t 32)
 (.seq (.reg [zL 33 39 1,zC 34 67 [.t 33]])
 (.seq (.seq (.reg [zF 35 47 3 1,zL 36 9 35])
 (.blk 0
 (.seq (.reg [zo 38 (.bin .eql 9 (.t 36) (.c (.s [118,97,114]))),zV 37 38])
 (.cond (.t 37)
 (.seq (.cut [1,4,5] (.jm [(zL 39 121 4,[]),(zL 40 121 4,[]),(zL 41 39 1,[]),(zC 42 32 [.t 41],[zL 39 121 4,zL 40 121 4]),(zN 43 39,[]),(zF 44 120 43 0,[]),(zn (.store 3 (.t 44) (.c (.i .i64 1))),[zL 40 121 4]),(zN 45 40,[]),(zF 46 120 45 1,[]),(zS 9 46 42,[])]))
 (.seq (.cut [1,4,5] (.jm [(zL 47 121 4,[]),(zL 48 39 1,[]),(zC 49 35 [.t 48,.c (.s [112,116,114])],[zL 47 121 4]),(zN 50 47,[]),(zF 51 120 50 2,[]),(zS 4 51 49,[])]))
 (.seq (.seq (.reg [zL 52 39 1,zC 53 35 [.t 52,.c (.s [61])]])
 (.cond (.t 53)
 (.seq (.cut [5] (.reg [zV 54 5,zo 55 (.call (.t 54) [.c (.i .i64 1)]),zV 2 55]))
 .ret)
 .skip))
 (.seq (.reg [zL 56 39 1,zC 57 31 [.t 56,.c (.s [59])]])
 (.seq (.reg [zL 58 121 4,zV 2 58])
 .ret)))))
 (.seq (.reg [zo 60 (.bin .eql 9 (.t 36) (.c (.s [105,102]))),zV 59 60])
 (.cond (.t 59)
 (.seq (.cut [1,3] (.reg [zL 61 39 1,zF 62 47 3 2,zL 63 3 62,zC 64 104 [.t 61,.t 63],zV 2 64]))
 .ret)
 (.seq (.reg [zo 66 (.bin .eql 9 (.t 36) (.c (.s [119,104,105,108,101]))),zV 65 66])
 (.cond (.t 65)
 (.seq (.cut [1,4] (.jm [(zL 67 121 4,[]),(zL 68 121 4,[]),(zL 69 39 1,[]),(zC 70 103 [.t 69,.c (.i .i64 1)],[zL 67 121 4,zL 68 121 4]),(zN 71 67,[]),(zF 72 120 71 0,[]),(zn (.store 3 (.t 72) (.c (.i .i64 5))),[zL 68 121 4]),(zN 73 68,[]),(zF 74 120 73 4,[]),(zS 63 74 70,[])]))
 (.seq (.cut [1,4] (.jm [(zL 75 121 4,[]),(zL 76 39 1,[]),(zC 77 36 [.t 76],[zL 75 121 4]),(zN 78 75,[]),(zF 79 120 78 5,[]),(zS 83 79 77,[])]))
 (.seq (.reg [zL 80 121 4,zV 2 80])
 .ret)))
 (.seq (.reg [zo 82 (.bin .eql 9 (.t 36) (.c (.s [111,117,116]))),zV 81 82])
 (.cond (.t 81)
 (.seq (.cut [5] (.reg [zV 83 5,zo 84 (.call (.t 83) [.c (.i .i64 6)]),zV 2 84]))
 .ret)
 (.seq (.reg [zo 86 (.bin .eql 9 (.t 36) (.c (.s [102,114,101,101]))),zV 85 86])
 (.cond (.t 85)
 (.seq (.cut [5] (.reg [zV 87 5,zo 88 (.call (.t 87) [.c (.i .i64 7)]),zV 2 88]))
 .ret)
 (.seq (.reg [zo 90 (.bin .eql 9 (.t 36) (.c (.s [100,114,97,105,110]))),zV 89 90])
 (.cond (.t 89)
 (.seq (.cut [1,4] (.reg [zL 91 121 4,zN 92 91,zF 93 120 92 0,zn (.store 3 (.t 93) (.c (.i .i64 8)))]))
 (.seq (.reg [zL 94 39 1,zC 95 31 [.t 94,.c (.s [59])]])
 (.seq (.reg [zL 96 121 4,zV 2 96])
 .ret)))
 (.seq (.reg [zo 98 (.bin .eql 9 (.t 36) (.c (.s [114,101,116,117,114,110]))),zV 97 98])
 (.cut [1000000,1,3,4,5,97] (.cond (.t 97)
 (.seq (.seq (.reg [zL 99 39 1,zC 100 35 [.t 99,.c (.s [59])]])
 (.cond (.t 100)
 (.seq (.cut [4] (.reg [zL 101 121 4,zN 102 101,zF 103 120 102 0,zn (.store 3 (.t 103) (.c (.i .i64 9)))]))
 (.seq (.reg [zL 104 121 4,zV 2 104])
 .ret))
 .skip))
 (.seq (.cut [5] (.reg [zV 105 5,zo 106 (.call (.t 105) [.c (.i .i64 9)]),zV 2 106]))
 .ret))
 .skip)))))))))))))))))
 (.cut [1000000,1,3,4] (.seq (.cut [1,3,4] (.jm [(zL 107 39 1,[]),(zL 108 47 3,[]),(zL 110 39 1,[]),(zN 111 110,[]),(zF 112 42 111 0,[]),(zL 113 36 112,[]),(zo 109 (.iM 36 1 [(0,.t 108)]),[zL 107 39 1,zL 110 39 1,zL 113 36 112]),(zo 114 (.app 36 false (.t 109) (.t 113)),[zL 107 39 1]),(zN 115 107,[]),(zF 116 42 115 0,[]),(zS 36 116 114,[])]))
 (.seq (.reg [zL 117 39 1,zC 118 66 [.t 117,.c (.i .i64 4)]])
 (.seq (.reg [zL 119 121 4,zV 2 119])
 .ret))))))
 .skip)))
 (.seq (.cut [1,4,5] (.reg [zL 120 39 1,zC 121 105 [.t 120],zV 6 121]))
 (.seq (.seq (.cut [1,4,5,6] (.reg [zL 122 39 1,zo 123 (.iM 77 1 [(0,.c (.s [61]))]),zC 124 70 [.t 122,.t 123],zV 7 124]))
 (.blk 1
 (.seq (.cut [1,4,5,6,7] (.reg [zL 128 39 1,zC 129 10 [.t 128],zV 127 129]))
 (.cut [1000000,1,4,5,6,7,127] (.cond (.t 127)
 .skip
 (.seq (.cut [1,4,5,6,7] (.reg [zV 131 7,zo 132 (.un .not (.t 131)),zV 133 132,eu 134 133 6,aZ 135 133 (.bn (.t 134)),aZ 136 133 (.eY 68 (.t 135) 0),aZ 137 133 (.load 3 (.t 136)),aZ 138 133 (.bin .eql 3 (.t 137) (.c (.i .i64 4))),zo 139 (.pick (.t 133) (.t 138) (.c (.b false))),zV 130 139]))
 (.cond (.t 130)
 (.seq (.cut [1,4,6] (.jm [(zL 140 121 4,[]),(zL 141 121 4,[]),(zV 142 6,[]),(zN 143 140,[]),(zF 144 120 143 0,[]),(zn (.store 3 (.t 144) (.c (.i .i64 10))),[zL 141 121 4]),(zN 145 141,[]),(zF 146 120 145 4,[]),(zS 63 146 142,[])]))
 (.reg [zL 147 39 1,zC 148 31 [.t 147,.c (.s [59])]]))
 (.seq (.cut [1,4,5,6,7] (.reg [zV 150 7,zV 151 150,eu 152 151 6,aZ 153 151 (.bn (.t 152)),aZ 154 151 (.eY 68 (.t 153) 0),aZ 155 151 (.load 3 (.t 154)),aZ 156 151 (.bin .eql 3 (.t 155) (.c (.i .i64 2))),zo 157 (.pick (.t 151) (.t 156) (.c (.b false))),zV 149 157]))
 (.cond (.t 149)
 (.seq (.reg [zL 158 39 1,zC 159 67 [.t 158]])
 (.seq (.cut [4,5,6] (.jm [(zL 160 121 4,[]),(zV 161 6,[]),(zN 162 161,[]),(zF 163 68 162 2,[]),(zL 164 9 163,[]),(zN 165 160,[]),(zF 166 120 165 1,[]),(zS 9 166 164,[])]))
 (.seq (.cut [5] (.reg [zV 167 5,zo 168 (.call (.t 167) [.c (.i .i64 2)]),zV 2 168]))
 .ret)))
 (.seq (.cut [1,4,5,6,7] (.reg [zV 170 7,zV 171 170,eu 172 171 6,aZ 173 171 (.bn (.t 172)),aZ 174 171 (.eY 68 (.t 173) 0),aZ 175 171 (.load 3 (.t 174)),aZ 176 171 (.bin .eql 3 (.t 175) (.c (.i .i64 5))),eu 177 171 176,gY 178 177 6,bY 179 177 (.bn (.t 178)),bY 180 177 (.eY 68 (.t 179) 0),bY 181 177 (.load 3 (.t 180)),bY 182 177 (.bin .eql 3 (.t 181) (.c (.i .i64 6))),aZ 183 171 (.pick (.t 177) (.c (.b true)) (.t 182)),zo 184 (.pick (.t 171) (.t 183) (.c (.b false))),zV 169 184]))
 (.cut [1000000,1,4,5,6,169] (.cond (.t 169)
 (.seq (.reg [zL 185 39 1,zC 186 67 [.t 185]])
 (.seq (.cut [4,5,6] (.reg [zL 187 121 4,zV 188 6,zN 189 187,zF 190 120 189 3,zS 63 190 188]))
 (.seq (.cut [5] (.reg [zV 191 5,zo 192 (.call (.t 191) [.c (.i .i64 3)]),zV 2 192]))
 .ret)))
 (.reg [zL 125 39 1,zC 126 66 [.t 125,.c (.i .i64 4)]])))))))))))))
 (.seq (.reg [zL 193 121 4,zV 2 193])
 .ret))))))))
def F72:AF:=⟨194,[.t 2],c72⟩
def c73:AC:=(.seq (.reg [zo 6 (.mv (.c (.b false)))])
 (.seq (.cut [0,1,2] (.reg [zV 7 1,zV 8 2,zo 9 (.len 9 (.t 8)),zB 10 .add 3 7 9,zV 11 0,zo 12 (.len 9 (.t 11)),zB 13 .leq 3 10 12,zV 14 13,eu 15 14 0,eu 16 14 1,eu 17 14 1,eu 18 14 2,aZ 19 14 (.len 9 (.t 18)),aZ 20 14 (.bin .add 3 (.t 17) (.t 19)),aZ 21 14 (.slc 9 (.t 15) (some (.t 16)) (some (.t 20))),eu 22 14 2,aZ 23 14 (.bin .eql 9 (.t 21) (.t 22)),zo 24 (.pick (.t 14) (.t 23) (.c (.b false))),zV 6 24]))
 .ret))
def F73:AF:=⟨25,[.t 6],c73⟩
def c74:AC:=(.seq (.reg [zo 2 (.mv (.c (.b false)))])
 (.seq (.cut [0] (.reg [zV 3 0,zo 4 (.bin .geq 5 (.t 3) (.c (.i .u8 97))),zV 5 4,eu 6 5 0,aZ 7 5 (.bin .leq 5 (.t 6) (.c (.i .u8 122))),zo 8 (.pick (.t 5) (.t 7) (.c (.b false))),zV 9 8,gY 10 9 0,bY 11 9 (.bin .geq 5 (.t 10) (.c (.i .u8 65))),gY 12 9 11,eu 13 12 0,aZ 14 12 (.bin .leq 5 (.t 13) (.c (.i .u8 90))),bY 15 9 (.pick (.t 12) (.t 14) (.c (.b false))),zo 16 (.pick (.t 9) (.c (.b true)) (.t 15)),zV 17 16,gY 18 17 0,bY 19 17 (.bin .eql 5 (.t 18) (.c (.i .u8 95))),zo 20 (.pick (.t 17) (.c (.b true)) (.t 19)),zV 2 20]))
 .ret))
def F74:AF:=⟨21,[.t 2],c74⟩
def c75:AC:=(.seq (.reg [zo 2 (.mv (.c (.b false)))])
 (.seq (.cut [0] (.reg [zV 3 0,zo 4 (.bin .geq 5 (.t 3) (.c (.i .u8 48))),zV 5 4,eu 6 5 0,aZ 7 5 (.bin .leq 5 (.t 6) (.c (.i .u8 57))),zo 8 (.pick (.t 5) (.t 7) (.c (.b false))),zV 2 8]))
 .ret))
def F75:AF:=⟨9,[.t 2],c75⟩
def V7:AC:=(.seq (.seq (.cut [0,3,4] (.reg [zV 6 4,zV 7 3,zo 8 (.len 77 (.t 7)),zB 9 .lss 3 6 8]))
 (.cond (.t 9)
 .skip
 (.exit 0)))
 (.seq (.blk 1
 (.seq (.cut [0,3,4] (.reg [zV 12 3,zV 13 4,zo 14 (.mD 77 (.t 12) (.t 13)),zL 15 9 14,zV 16 0,zB 17 .eql 9 15 16]))
 (.cond (.t 17)
 (.seq (.reg [zo 2 (.mv (.c (.b true)))])
 .ret)
 .skip)))
 (.cut [0,3,4] (.reg [zV 10 4,zD 11 .add 3 10 1,zV 4 11]))))
def c76:AC:=(.seq (.reg [zo 2 (.mv (.c (.b false)))])
 (.seq (.reg [zC 5 106 [],zV 3 5])
 (.seq (.seq (.reg [zo 4 (.mv (.c (.i .i64 0)))])
 (.blk 0
 (.loop [0,3,4] V7)))
 (.seq (.reg [zo 2 (.mv (.c (.b false)))])
 .ret))))
def F76:AF:=⟨18,[.t 2],c76⟩
def V8:AC:=(.seq (.seq (.cut [0,3,4] (.reg [zV 5 4,zV 6 0,zo 7 (.len 9 (.t 6)),zB 8 .lss 3 5 7]))
 (.cond (.t 8)
 .skip
 (.exit 0)))
 (.seq (.blk 1
 (.seq (.cut [0,3,4] (.reg [zV 11 3,zo 12 (.bin .mul 79 (.c (.i .u64 10)) (.t 11)),zV 13 0,zV 14 4,zo 15 (.idx 9 (.t 13) (.t 14)),zo 16 (.bin .sub 5 (.t 15) (.c (.i .u8 48))),zo 17 (.conv 5 79 (.t 16)),zB 18 .add 79 12 17,zV 3 18]))
 (.seq (.reg [zV 19 3,zo 20 (.bin .geq 79 (.t 19) (.c (.i .u64 4294967296)))])
 (.cond (.t 20)
 (.seq (.reg [zo 2 (.mv (.c (.b false)))])
 .ret)
 .skip))))
 (.cut [0,3,4] (.reg [zV 9 4,zD 10 .add 3 9 1,zV 4 10]))))
def c77:AC:=(.seq (.reg [zo 2 (.mv (.c (.b false)))])
 (.seq (.reg [zo 3 (.mv (.c (.i .u64 0)))])
 (.seq (.seq (.reg [zo 4 (.mv (.c (.i .i64 0)))])
 (.blk 0
 (.loop [0,3,4] V8)))
 (.seq (.reg [zo 2 (.mv (.c (.b true)))])
 .ret))))
def F77:AF:=⟨21,[.t 2],c77⟩
def c78:AC:=(.seq (.reg [zo 0 (.mv (.c (.sl0)))])
 (.seq (.reg [zo 1 (.iM 77 29 [(0,.c (.s [124,124])),(1,.c (.s [38,38])),(2,.c (.s [61,61])),(3,.c (.s [33,61])),(4,.c (.s [60,61])),(5,.c (.s [62,61])),(6,.c (.s [60,60])),(7,.c (.s [62,62])),(8,.c (.s [40])),(9,.c (.s [41])),(10,.c (.s [123])),(11,.c (.s [125])),(12,.c (.s [91])),(13,.c (.s [93])),(14,.c (.s [44])),(15,.c (.s [59])),(16,.c (.s [58])),(17,.c (.s [61])),(18,.c (.s [60])),(19,.c (.s [62])),(20,.c (.s [43])),(21,.c (.s [45])),(22,.c (.s [124])),(23,.c (.s [94])),(24,.c (.s [38])),(25,.c (.s [42])),(26,.c (.s [47])),(27,.c (.s [37])),(28,.c (.s [33]))]),zV 0 1])
 .ret))
def F78:AF:=⟨2,[.t 0],c78⟩
def c79:AC:=(.seq (.cut [0,1] (.reg [zV 4 0,zN 5 4,zF 6 56 5 3,zL 7 4 6,zo 8 (.un .not (.t 7))]))
 (.cond (.t 8)
 (.seq (.cut [0,1] (.reg [zV 9 0,zN 10 9,zF 11 56 10 3,zn (.store 4 (.t 11) (.c (.b true)))]))
 (.cut [0,1] (.reg [zV 12 0,zV 13 1,zV 14 0,zC 15 14 [.t 14],zo 16 (.MB 47 (.t 15) 2),zo 17 (.build 29 [(0,.t 13),(1,.t 16)]),zN 18 12,zF 19 56 18 4,zS 29 19 17])))
 .skip))
def F79:AF:=⟨20,[],c79⟩
def c80:AC:=(.seq (.reg [zo 2 (.mv (.c (.p0)))])
 (.seq (.cut [0] (.reg [zV 6 0,zC 7 14 [.t 6],zo 3 (.alloc 47),zS 47 3 7]))
 (.seq (.cut [0,3] (.reg [zF 8 47 3 2,zL 9 3 8,zo 10 (.build 120 [(7,.t 9)]),zo 11 (.box 120 (.t 10)),zV 4 11]))
 (.seq (.seq (.reg [zV 12 0,zC 13 43 [.t 12,.c (.s [118,97,114])]])
 (.cond (.t 13)
 (.seq (.cut [0,4] (.reg [zV 14 4,zN 15 14,zF 16 120 15 0,zn (.store 3 (.t 16) (.c (.i .i64 1)))]))
 (.seq (.cut [0,4] (.reg [zV 17 4,zV 18 0,zC 19 40 [.t 18],zN 20 17,zF 21 120 20 1,zS 9 21 19]))
 (.seq (.cut [0,4] (.reg [zV 22 4,zV 23 0,zC 24 43 [.t 23,.c (.s [112,116,114])],zN 25 22,zF 26 120 25 2,zS 4 26 24]))
 (.cut [1000000,0,4] (.seq (.seq (.reg [zV 27 0,zC 28 43 [.t 27,.c (.s [61])]])
 (.cond (.t 28)
 (.cut [0,4] (.reg [zV 29 4,zV 30 0,zC 31 107 [.t 30,.c (.i .i64 1)],zN 32 29,zF 33 120 32 4,zS 63 33 31]))
 .skip))
 (.cut [1000000,0,4] (.seq (.reg [zV 34 0,zC 35 39 [.t 34,.c (.s [59])]])
 (.seq (.reg [zV 36 4,zV 2 36])
 .ret))))))))
 .skip))
 (.seq (.seq (.reg [zV 37 0,zC 38 43 [.t 37,.c (.s [105,102])]])
 (.cond (.t 38)
 (.seq (.cut [0,3] (.reg [zV 39 0,zF 40 47 3 2,zL 41 3 40,zC 42 108 [.t 39,.t 41],zV 2 42]))
 .ret)
 .skip))
 (.seq (.seq (.reg [zV 43 0,zC 44 43 [.t 43,.c (.s [119,104,105,108,101])]])
 (.cond (.t 44)
 (.seq (.cut [0,4] (.reg [zV 45 4,zN 46 45,zF 47 120 46 0,zn (.store 3 (.t 47) (.c (.i .i64 5)))]))
 (.cut [1000000,0,4] (.seq (.cut [0,4] (.reg [zV 48 4,zV 49 0,zC 50 107 [.t 49,.c (.i .i64 1)],zN 51 48,zF 52 120 51 4,zS 63 52 50]))
 (.seq (.cut [0,4] (.reg [zV 53 4,zV 54 0,zC 55 45 [.t 54],zN 56 53,zF 57 120 56 5,zS 83 57 55]))
 (.seq (.reg [zV 58 4,zV 2 58])
 .ret)))))
 .skip))
 (.seq (.seq (.reg [zV 59 0,zC 60 43 [.t 59,.c (.s [111,117,116])]])
 (.cut [1000000,0,4,60] (.cond (.t 60)
 (.seq (.cut [0,4] (.reg [zV 61 4,zN 62 61,zF 63 120 62 0,zn (.store 3 (.t 63) (.c (.i .i64 6)))]))
 (.seq (.cut [0,4] (.reg [zV 64 4,zV 65 0,zC 66 109 [.t 65],zN 67 64,zF 68 120 67 4,zS 63 68 66]))
 (.seq (.reg [zV 69 4,zV 2 69])
 .ret)))
 .skip)))
 (.seq (.seq (.reg [zV 70 0,zC 71 43 [.t 70,.c (.s [102,114,101,101])]])
 (.cond (.t 71)
 (.seq (.cut [0,4] (.reg [zV 72 4,zN 73 72,zF 74 120 73 0,zn (.store 3 (.t 74) (.c (.i .i64 7)))]))
 (.seq (.cut [0,4] (.reg [zV 75 4,zV 76 0,zC 77 109 [.t 76],zN 78 75,zF 79 120 78 4,zS 63 79 77]))
 (.seq (.reg [zV 80 4,zV 2 80])
 .ret)))
 .skip))
 (.cut [1000000,0,4] (.seq (.seq (.reg [zV 81 0,zC 82 43 [.t 81,.c (.s [100,114,97,105,110])]])
 (.cond (.t 82)
 (.seq (.cut [0,4] (.reg [zV 83 4,zN 84 83,zF 85 120 84 0,zn (.store 3 (.t 85) (.c (.i .i64 8)))]))
 (.seq (.reg [zV 86 0,zC 87 39 [.t 86,.c (.s [59])]])
 (.seq (.reg [zV 88 4,zV 2 88])
 .ret)))
 .skip))
 (.seq (.seq (.reg [zV 89 0,zC 90 43 [.t 89,.c (.s [114,101,116,117,114,110])]])
 (.cond (.t 90)
 (.seq (.cut [0,4] (.reg [zV 91 4,zN 92 91,zF 93 120 92 0,zn (.store 3 (.t 93) (.c (.i .i64 9)))]))
 (.seq (.seq (.cut [0,4] (.reg [zV 94 0,zC 95 43 [.t 94,.c (.s [59])],zo 96 (.un .not (.t 95))]))
 (.cond (.t 96)
 (.cut [0,4] (.reg [zV 97 4,zV 98 0,zC 99 109 [.t 98],zN 100 97,zF 101 120 100 4,zS 63 101 99]))
 .skip))
 (.seq (.reg [zV 102 4,zV 2 102])
 .ret)))
 .skip))
 (.cut [1000000,0,4] (.seq (.cut [0,4] (.reg [zV 103 0,zC 104 110 [.t 103],zV 5 104]))
 (.seq (.seq (.cut [0,4,5] (.reg [zV 105 0,zN 106 105,zF 107 56 106 3,zL 108 4 107]))
 (.cond (.t 108)
 (.seq (.reg [zV 109 4,zV 2 109])
 .ret)
 .skip))
 (.seq (.seq (.cut [0,4,5] (.reg [zV 110 0,zC 111 42 [.t 110,.c (.s [61])],zV 112 111,eu 113 112 5,aZ 114 112 (.bn (.t 113)),aZ 115 112 (.eY 68 (.t 114) 0),aZ 116 112 (.load 3 (.t 115)),aZ 117 112 (.bin .neq 3 (.t 116) (.c (.i .i64 2))),zo 118 (.pick (.t 112) (.t 117) (.c (.b false))),zV 119 118,eu 120 119 5,aZ 121 119 (.bn (.t 120)),aZ 122 119 (.eY 68 (.t 121) 0),aZ 123 119 (.load 3 (.t 122)),aZ 124 119 (.bin .neq 3 (.t 123) (.c (.i .i64 5))),zo 125 (.pick (.t 119) (.t 124) (.c (.b false))),zV 126 125,eu 127 126 5,aZ 128 126 (.bn (.t 127)),aZ 129 126 (.eY 68 (.t 128) 0),aZ 130 126 (.load 3 (.t 129)),aZ 131 126 (.bin .neq 3 (.t 130) (.c (.i .i64 6))),zo 132 (.pick (.t 126) (.t 131) (.c (.b false))),zV 133 132,gY 134 133 0,bY 135 133 (.call (.c (.fn (.func 42) [] [])) [.t 134,.c (.s [61])]),bY 136 133 (.un .not (.t 135)),gY 137 133 136,eu 138 137 5,aZ 139 137 (.bn (.t 138)),aZ 140 137 (.eY 68 (.t 139) 0),aZ 141 137 (.load 3 (.t 140)),aZ 142 137 (.bin .neq 3 (.t 141) (.c (.i .i64 4))),bY 143 133 (.pick (.t 137) (.t 142) (.c (.b false))),zo 144 (.pick (.t 133) (.c (.b true)) (.t 143))]))
 (.cut [1000000,0,4,5,144] (.cond (.t 144)
 (.seq (.reg [zV 145 0,zC 146 79 [.t 145,.c (.i .i64 4)]])
 (.seq (.reg [zV 147 4,zV 2 147])
 .ret))
 .skip)))
 (.seq (.seq (.cut [0,4,5] (.reg [zV 148 0,zC 149 43 [.t 148,.c (.s [61])],zo 150 (.un .not (.t 149))]))
 (.cond (.t 150)
 (.seq (.cut [0,4,5] (.reg [zV 151 4,zN 152 151,zF 153 120 152 0,zn (.store 3 (.t 153) (.c (.i .i64 10)))]))
 (.seq (.cut [0,4,5] (.reg [zV 154 4,zV 155 5,zN 156 154,zF 157 120 156 4,zS 63 157 155]))
 (.seq (.reg [zV 158 0,zC 159 39 [.t 158,.c (.s [59])]])
 (.seq (.reg [zV 160 4,zV 2 160])
 .ret))))
 .skip))
 (.seq (.cut [0,4,5] (.reg [zV 161 4,zN 162 161,zF 163 120 162 0,zn (.store 3 (.t 163) (.c (.i .i64 3)))]))
 (.cut [1000000,0,4,5] (.seq (.cut [0,4,5] (.reg [zV 164 4,zV 165 5,zN 166 164,zF 167 120 166 3,zS 63 167 165]))
 (.seq (.seq (.cut [0,4,5] (.reg [zV 168 5,zN 169 168,zF 170 68 169 0,zL 171 3 170,zD 172 .eql 3 171 2]))
 (.cond (.t 172)
 (.seq (.cut [0,4,5] (.reg [zV 173 4,zN 174 173,zF 175 120 174 0,zn (.store 3 (.t 175) (.c (.i .i64 2)))]))
 (.seq (.cut [0,4,5] (.reg [zV 176 4,zV 177 5,zN 178 177,zF 179 68 178 2,zL 180 9 179,zN 181 176,zF 182 120 181 1,zS 9 182 180]))
 (.cut [0,4] (.reg [zV 183 4,zN 184 183,zF 185 120 184 3,zn (.store 63 (.t 185) (.c (.p0)))]))))
 .skip))
 (.cut [1000000,0,4] (.seq (.cut [0,4] (.reg [zV 186 4,zV 187 0,zC 188 109 [.t 187],zN 189 186,zF 190 120 189 4,zS 63 190 188]))
 (.seq (.reg [zV 191 4,zV 2 191])
 .ret)))))))))))))))))))))))
def F80:AF:=⟨192,[.t 2],c80⟩
def V9:AC:=(.seq (.seq (.cut [0,1,2,7] (.reg [zV 89 7,zV 90 0,zN 91 90,zF 92 68 91 6,zL 93 66 92,zo 94 (.len 66 (.t 93)),zB 95 .lss 3 89 94]))
 (.cond (.t 95)
 .skip
 (.exit 0)))
 (.seq (.blk 1
 (.seq (.cut [0,1,2,7] (.jm [(zV 98 0,[]),(zN 99 98,[]),(zF 100 68 99 6,[]),(zL 101 66 100,[]),(zV 102 7,[]),(zo 103 (.mD 66 (.t 101) (.t 102)),[]),(zL 104 63 103,[]),(zV 105 1,[]),(zN 106 105,[]),(zF 107 68 106 6,[]),(zL 108 66 107,[]),(zV 109 7,[]),(zo 110 (.mD 66 (.t 108) (.t 109)),[]),(zL 111 63 110,[]),(zV 112 2,[]),(zC 113 83 [.t 104,.t 111,.t 112],[]),(zo 114 (.un .not (.t 113)),[])]))
 (.cond (.t 114)
 (.seq (.reg [zo 6 (.mv (.c (.b false)))])
 .ret)
 .skip)))
 (.cut [0,1,2,7] (.reg [zV 96 7,zD 97 .add 3 96 1,zV 7 97]))))
def c83:AC:=(.seq (.reg [zo 6 (.mv (.c (.b false)))])
 (.seq (.seq (.cut [0,1,2] (.reg [zV 8 0,zo 9 (.bin .eql 63 (.t 8) (.c (.p0))),zV 10 9,gY 11 10 1,bY 12 10 (.bin .eql 63 (.t 11) (.c (.p0))),zo 13 (.pick (.t 10) (.c (.b true)) (.t 12))]))
 (.cond (.t 13)
 (.seq (.cut [0,1] (.reg [zV 14 0,zo 15 (.bin .eql 63 (.t 14) (.c (.p0))),zV 16 15,eu 17 16 1,aZ 18 16 (.bin .eql 63 (.t 17) (.c (.p0))),zo 19 (.pick (.t 16) (.t 18) (.c (.b false))),zV 6 19]))
 .ret)
 .skip))
 (.seq (.seq (.cut [0,1,2] (.jm [(zV 20 0,[]),(zN 21 20,[]),(zF 22 68 21 0,[]),(zL 23 3 22,[]),(zV 24 1,[]),(zN 25 24,[]),(zF 26 68 25 0,[]),(zL 27 3 26,[]),(zB 28 .neq 3 23 27,[]),(zV 29 28,[]),(gY 30 29 0,[]),(bY 31 29 (.bn (.t 30)),[]),(bY 32 29 (.eY 68 (.t 31) 1),[]),(bY 33 29 (.load 65 (.t 32)),[]),(gY 34 29 1,[]),(bY 35 29 (.bn (.t 34)),[]),(bY 36 29 (.eY 68 (.t 35) 1),[]),(bY 37 29 (.load 65 (.t 36)),[]),(bY 38 29 (.bin .neq 65 (.t 33) (.t 37)),[]),(zo 39 (.pick (.t 29) (.c (.b true)) (.t 38)),[]),(zV 40 39,[]),(gY 41 40 0,[]),(bY 42 40 (.bn (.t 41)),[]),(bY 43 40 (.eY 68 (.t 42) 2),[]),(bY 44 40 (.load 9 (.t 43)),[]),(gY 45 40 1,[]),(bY 46 40 (.bn (.t 45)),[]),(bY 47 40 (.eY 68 (.t 46) 2),[]),(bY 48 40 (.load 9 (.t 47)),[]),(bY 49 40 (.bin .neq 9 (.t 44) (.t 48)),[]),(zo 50 (.pick (.t 40) (.c (.b true)) (.t 49)),[]),(zV 51 50,[]),(gY 52 51 0,[]),(bY 53 51 (.bn (.t 52)),[]),(bY 54 51 (.eY 68 (.t 53) 3),[]),(bY 55 51 (.load 9 (.t 54)),[]),(gY 56 51 1,[]),(bY 57 51 (.bn (.t 56)),[]),(bY 58 51 (.eY 68 (.t 57) 3),[]),(bY 59 51 (.load 9 (.t 58)),[]),(bY 60 51 (.bin .neq 9 (.t 55) (.t 59)),[]),(zo 61 (.pick (.t 51) (.c (.b true)) (.t 60)),[]),(zV 62 61,[]),(gY 63 62 0,[]),(bY 64 62 (.bn (.t 63)),[]),(bY 65 62 (.eY 68 (.t 64) 6),[]),(bY 66 62 (.load 66 (.t 65)),[]),(bY 67 62 (.len 66 (.t 66)),[]),(gY 68 62 1,[]),(bY 69 62 (.bn (.t 68)),[]),(bY 70 62 (.eY 68 (.t 69) 6),[]),(bY 71 62 (.load 66 (.t 70)),[]),(bY 72 62 (.len 66 (.t 71)),[]),(bY 73 62 (.bin .neq 3 (.t 67) (.t 72)),[]),(zo 74 (.pick (.t 62) (.c (.b true)) (.t 73)),[]),(zV 75 74,[]),(gY 76 75 2,[]),(gY 77 75 76,[]),(eu 78 77 0,[]),(aZ 79 77 (.bn (.t 78)),[]),(aZ 80 77 (.eY 68 (.t 79) 7),[]),(aZ 81 77 (.load 3 (.t 80)),[]),(eu 82 77 1,[]),(aZ 83 77 (.bn (.t 82)),[]),(aZ 84 77 (.eY 68 (.t 83) 7),[]),(aZ 85 77 (.load 3 (.t 84)),[]),(aZ 86 77 (.bin .neq 3 (.t 81) (.t 85)),[]),(bY 87 75 (.pick (.t 77) (.t 86) (.c (.b false))),[]),(zo 88 (.pick (.t 75) (.c (.b true)) (.t 87)),[])]))
 (.cut [1000000,0,1,2,88] (.cond (.t 88)
 (.seq (.reg [zo 6 (.mv (.c (.b false)))])
 .ret)
 .skip)))
 (.seq (.seq (.reg [zo 7 (.mv (.c (.i .i64 0)))])
 (.blk 0
 (.loop [0,1,2,7] V9)))
 (.cut [1000000,0,1,2] (.seq (.cut [0,1,2] (.jm [(zV 115 0,[]),(zN 116 115,[]),(zF 117 68 116 4,[]),(zL 118 63 117,[]),(zV 119 1,[]),(zN 120 119,[]),(zF 121 68 120 4,[]),(zL 122 63 121,[]),(zV 123 2,[]),(zC 124 83 [.t 118,.t 122,.t 123],[]),(zV 125 124,[]),(eu 126 125 0,[]),(aZ 127 125 (.bn (.t 126)),[]),(aZ 128 125 (.eY 68 (.t 127) 5),[]),(aZ 129 125 (.load 63 (.t 128)),[]),(eu 130 125 1,[]),(aZ 131 125 (.bn (.t 130)),[]),(aZ 132 125 (.eY 68 (.t 131) 5),[]),(aZ 133 125 (.load 63 (.t 132)),[]),(eu 134 125 2,[]),(aZ 135 125 (.call (.c (.fn (.func 83) [] [])) [.t 129,.t 133,.t 134]),[]),(zo 136 (.pick (.t 125) (.t 135) (.c (.b false))),[]),(zV 6 136,[])]))
 .ret))))))
def ZQ:AF:=⟨137,[.t 6],c83⟩
def ZR:AC:=(.seq (.reg [zB 9 .lss 3 8 7])
 (.seq (.cond (.t 9)
 .skip
 (.exit 0))
 (.seq (.blk 1
 (.seq (.cut [0,6,7,8] (.reg [zo 10 (.mD 77 (.t 6) (.t 8)),zL 11 9 10,zV 5 11]))
 (.cut [0,5,6,7,8] (.reg [zV 12 0,zN 13 12,zF 14 116 13 0,zV 15 5,zC 16 111 [.t 14,.t 15]]))))
 (.reg [zD 17 .add 3 8 1,zV 8 17]))))
def c84:AC:=(.seq (.cut [0,1] (.reg [zV 6 1,zo 7 (.len 77 (.t 6)),zo 8 (.mv (.c (.i .i64 0)))]))
 (.blk 0
 (.loop [0,6,7,8] ZR)))
def F84:AF:=⟨18,[],c84⟩
def ZT:AC:=(.seq (.reg [zB 19 .lss 3 18 17])
 (.seq (.cond (.t 19)
 .skip
 (.exit 0))
 (.seq (.blk 1
 (.seq (.cut [0,16,17,18] (.reg [zo 20 (.mD 83 (.t 16) (.t 18)),zL 21 121 20,zV 5 21]))
 (.seq (.reg [zV 22 0,zC 23 112 [.t 22]])
 (.seq (.cut [0,5,16,17,18] (.reg [zV 24 0,zV 25 5,zC 26 113 [.t 24,.t 25]]))
 (.cut [0,16,17,18] (.reg [zV 27 0,zo 28 (.iM 77 1 [(0,.c (.s [10]))]),zC 29 84 [.t 27,.t 28]]))))))
 (.reg [zD 30 .add 3 18 1,zV 18 30]))))
def c85:AC:=(.seq (.cut [0,1] (.reg [zV 6 0,zo 7 (.iM 77 1 [(0,.c (.s [32,123,10]))]),zC 8 84 [.t 6,.t 7]]))
 (.seq (.cut [0,1] (.reg [zV 9 0,zN 10 9,zF 11 116 10 1,zL 12 3 11,zD 13 .add 3 12 1,zN 14 9,zF 15 116 14 1,zS 3 15 13]))
 (.seq (.seq (.cut [0,1] (.reg [zV 16 1,zo 17 (.len 83 (.t 16)),zo 18 (.mv (.c (.i .i64 0)))]))
 (.blk 0
 (.loop [0,16,17,18] ZT)))
 (.seq (.cut [0] (.reg [zV 31 0,zN 32 31,zF 33 116 32 1,zL 34 3 33,zD 35 .sub 3 34 1,zN 36 31,zF 37 116 36 1,zS 3 37 35]))
 (.seq (.reg [zV 38 0,zC 39 112 [.t 38]])
 (.cut [0] (.reg [zV 40 0,zo 41 (.iM 77 1 [(0,.c (.s [125]))]),zC 42 84 [.t 40,.t 41]])))))))
def F85:AF:=⟨43,[],c85⟩
def c86:AC:=(.seq (.reg [zo 6 (.mv (.c (.b false)))])
 (.seq (.seq (.cut [0,1,2] (.reg [zV 7 0,zo 8 (.bin .eql 22 (.t 7) (.c (.p0))),zV 9 8,gY 10 9 1,bY 11 9 (.bin .eql 22 (.t 10) (.c (.p0))),zo 12 (.pick (.t 9) (.c (.b true)) (.t 11))]))
 (.cond (.t 12)
 (.seq (.cut [0,1] (.reg [zV 13 0,zo 14 (.bin .eql 22 (.t 13) (.c (.p0))),zV 15 14,eu 16 15 1,aZ 17 15 (.bin .eql 22 (.t 16) (.c (.p0))),zo 18 (.pick (.t 15) (.t 17) (.c (.b false))),zV 6 18]))
 .ret)
 .skip))
 (.seq (.cut [0,1,2] (.reg [zV 19 2,zV 20 0,zV 21 1,zo 22 (.call (.t 19) [.t 20,.t 21]),zV 6 22]))
 .ret)))
def F86:AF:=⟨23,[.t 6],c86⟩
def c87:AC:=(.seq (.reg [zo 4 (.mv (.c (.b false)))])
 (.seq (.cut [0,1] (.jm [(zV 5 0,[]),(zN 6 5,[]),(zF 7 45 6 0,[]),(zL 8 43 7,[]),(zV 9 1,[]),(zN 10 9,[]),(zF 11 45 10 0,[]),(zL 12 43 11,[]),(zC 13 88 [.t 8,.t 12,.c (.fn (.func 89) [] [])],[]),(zV 4 13,[])]))
 .ret))
def F87:AF:=⟨14,[.t 4],c87⟩
def ZU:AC:=(.seq (.reg [zB 18 .lss 3 17 16])
 (.seq (.cond (.t 18)
 .skip
 (.exit 0))
 (.seq (.blk 1
 (.seq (.cut [1,2,15,16,17] (.reg [zV 19 17,zo 20 (.mD 43 (.t 15) (.t 17)),zL 21 49 20,zV 7 19,zV 8 21]))
 (.seq (.cut [1,2,7,8,15,16,17] (.reg [zV 22 1,zV 23 7,zo 24 (.mD 43 (.t 22) (.t 23)),zL 25 49 24,zV 9 25]))
 (.seq (.cut [1,2,8,9,15,16,17] (.reg [zV 26 2,zV 27 8,zV 28 9,zo 29 (.call (.t 26) [.t 27,.t 28]),zo 30 (.un .not (.t 29))]))
 (.cond (.t 30)
 (.seq (.reg [zo 6 (.mv (.c (.b false)))])
 .ret)
 .skip)))))
 (.reg [zD 31 .add 3 17 1,zV 17 31]))))
def c88:AC:=(.seq (.reg [zo 6 (.mv (.c (.b false)))])
 (.seq (.seq (.cut [0,1,2] (.reg [zV 10 0,zo 11 (.len 43 (.t 10)),zV 12 1,zo 13 (.len 43 (.t 12)),zB 14 .neq 3 11 13]))
 (.cond (.t 14)
 (.seq (.reg [zo 6 (.mv (.c (.b false)))])
 .ret)
 .skip))
 (.seq (.seq (.cut [0,1,2] (.reg [zV 15 0,zo 16 (.len 43 (.t 15)),zo 17 (.mv (.c (.i .i64 0)))]))
 (.blk 0
 (.loop [1,2,15,16,17] ZU)))
 (.seq (.reg [zo 6 (.mv (.c (.b true)))])
 .ret))))
def F88:AF:=⟨32,[.t 6],c88⟩
def c89:AC:=(.seq (.reg [zo 4 (.mv (.c (.b false)))])
 (.seq (.cut [0,1] (.reg [zV 5 0,zV 6 1,zC 7 114 [.t 5,.t 6,.c (.fn (.func 115) [] [])],zV 4 7]))
 .ret))
def F89:AF:=⟨8,[.t 4],c89⟩
def c90:AC:=(.seq (.reg [zo 4 (.mv (.c (.s []))),zo 5 (.mv (.c (.b false)))])
 (.seq (.seq (.cut [0,1] (.reg [zV 6 0,zV 7 1,zC 8 59 [.t 6,.t 7],zo 9 (.un .not (.t 8))]))
 (.cond (.t 9)
 (.seq (.cut [0] (.reg [zV 10 0,zV 4 10,zo 5 (.mv (.c (.b false)))]))
 .ret)
 .skip))
 (.seq (.cut [0,1] (.reg [zV 11 0,zV 12 1,zo 13 (.len 9 (.t 12)),zo 14 (.slc 9 (.t 11) (some (.t 13)) none),zV 4 14,zo 5 (.mv (.c (.b true)))]))
 .ret)))
def F90:AF:=⟨15,[.t 4,.t 5],c90⟩
def c91:AC:=(.seq (.reg [zo 4 (.mv (.c (.s []))),zo 5 (.mv (.c (.b false)))])
 (.seq (.seq (.cut [0,1] (.reg [zV 6 0,zV 7 1,zC 8 119 [.t 6,.t 7],zo 9 (.un .not (.t 8))]))
 (.cond (.t 9)
 (.seq (.cut [0] (.reg [zV 10 0,zV 4 10,zo 5 (.mv (.c (.b false)))]))
 .ret)
 .skip))
 (.seq (.cut [0,1] (.reg [zV 11 0,zV 12 0,zo 13 (.len 9 (.t 12)),zV 14 1,zo 15 (.len 9 (.t 14)),zB 16 .sub 3 13 15,zo 17 (.slc 9 (.t 11) none (some (.t 16))),zV 4 17,zo 5 (.mv (.c (.b true)))]))
 .ret)))
def F91:AF:=⟨18,[.t 4,.t 5],c91⟩
def V_:AC:=(.seq (.reg [zB 9 .lss 3 8 7])
 (.seq (.cond (.t 9)
 .skip
 (.exit 0))
 (.seq (.blk 1
 (.seq (.reg [zV 10 8,zV 5 10])
 (.seq (.cut [0,1,5,7,8] (.reg [zV 11 1,zV 12 0,zV 13 5,zo 14 (.mD 124 (.t 12) (.t 13)),zL 15 73 14,zB 16 .eql 73 11 15]))
 (.cond (.t 16)
 (.seq (.reg [zV 17 5,zV 4 17])
 .ret)
 .skip))))
 (.reg [zD 18 .add 3 8 1,zV 8 18]))))
def c93:AC:=(.seq (.reg [zo 4 (.mv (.c (.i .i64 0)))])
 (.seq (.seq (.cut [0,1] (.reg [zV 6 0,zo 7 (.len 124 (.t 6)),zo 8 (.mv (.c (.i .i64 0)))]))
 (.blk 0
 (.loop [0,1,7,8] V_)))
 (.seq (.reg [zo 4 (.mv (.c (.i .i64 (-1))))])
 .ret)))
def F93:AF:=⟨19,[.t 4],c93⟩
def c102:AC:=(.seq (.reg [zo 4 (.mv (.c (.p0)))])
 (.seq (.cut [0,1,2] (.reg [zL 5 121 1,zV 6 0,zN 7 5,zF 8 120 7 0,zS 3 8 6]))
 (.seq (.cut [1,2] (.jm [(zL 9 121 1,[]),(zL 10 39 2,[]),(zC 11 103 [.t 10,.c (.i .i64 1)],[zL 9 121 1]),(zN 12 9,[]),(zF 13 120 12 4,[]),(zS 63 13 11,[])]))
 (.seq (.reg [zL 14 39 2,zC 15 31 [.t 14,.c (.s [59])]])
 (.seq (.reg [zL 16 121 1,zV 4 16])
 .ret)))))
def Xk:AF:=⟨17,[.t 4],c102⟩
def EX:AC:=(.seq (.seq (.cut [0,1,5] (.reg [zV 10 0,zC 11 10 [.t 10],zo 12 (.un .not (.t 11))]))
 (.cond (.t 12)
 .skip
 (.exit 0)))
 (.blk 1
 (.seq (.cut [0,1,5] (.reg [zV 13 0,zC 14 11 [.t 13],zo 6 (.alloc 47),zS 47 6 14]))
 (.seq (.cut [0,1,5,6] (.reg [zF 15 47 6 1,zL 16 9 15,zC 17 125 [.t 16],zV 7 17]))
 (.seq (.seq (.cut [0,1,5,6,7] (.reg [zF 18 47 6 0,zL 19 3 18,zD 20 .neq 3 19 3,zV 21 20,gY 22 21 7,bY 23 21 (.bin .eql 3 (.t 22) (.c (.i .i64 0))),zo 24 (.pick (.t 21) (.c (.b true)) (.t 23)),zV 25 24,gY 26 25 7,gY 27 25 1,bY 28 25 (.bin .lss 3 (.t 26) (.t 27)),zo 29 (.pick (.t 25) (.c (.b true)) (.t 28))]))
 (.cond (.t 29)
 (.exit 0)
 .skip))
 (.seq (.reg [zV 30 0,zC 31 67 [.t 30]])
 (.cut [0,1,5,6,7] (.jm [(zF 32 47 6 1,[]),(zL 33 9 32,[]),(zV 34 5,[]),(zV 35 0,[]),(zV 36 7,[]),(zD 37 .add 3 36 1,[]),(zF 39 47 6 2,[]),(zL 40 3 39,[]),(zC 38 103 [.t 35,.t 37],[zL 33 9 32,zL 40 3 39]),(zo 41 (.build 68 [(0,.c (.i .i64 3)),(3,.t 33),(4,.t 34),(5,.t 38),(7,.t 40)]),[]),(zo 42 (.box 68 (.t 41)),[]),(zV 5 42,[])]))))))))
def c103:AC:=(.seq (.reg [zo 4 (.mv (.c (.p0)))])
 (.seq (.cut [0,1] (.reg [zV 8 0,zC 9 124 [.t 8],zV 5 9]))
 (.seq (.blk 0
 (.loop [0,1,5] EX))
 (.cut [1000000,5] (.seq (.reg [zV 43 5,zV 4 43])
 .ret)))))
def Ui:AF:=⟨44,[.t 4],c103⟩
def c104:AC:=(.seq (.reg [zo 4 (.mv (.c (.p0)))])
 (.seq (.cut [0,1] (.reg [zV 7 1,zo 8 (.build 120 [(0,.c (.i .i64 4)),(7,.t 7)]),zo 9 (.box 120 (.t 8)),zV 5 9]))
 (.seq (.cut [0,5] (.reg [zV 10 5,zV 11 0,zC 12 103 [.t 11,.c (.i .i64 1)],zN 13 10,zF 14 120 13 4,zS 63 14 12]))
 (.seq (.cut [0,5] (.reg [zV 15 5,zV 16 0,zC 17 36 [.t 16],zN 18 15,zF 19 120 18 5,zS 83 19 17]))
 (.seq (.seq (.reg [zV 20 0,zC 21 35 [.t 20,.c (.s [101,108,115,101])]])
 (.cond (.t 21)
 (.seq (.cut [0,5] (.reg [zV 22 0,zC 23 11 [.t 22],zo 6 (.alloc 47),zS 47 6 23]))
 (.seq (.reg [zV 24 0,zC 25 35 [.t 24,.c (.s [105,102])]])
 (.cut [1000000,0,5,6,25] (.cond (.t 25)
 (.cut [0,5,6] (.reg [zV 26 5,zV 27 0,zF 28 47 6 2,zL 29 3 28,zC 30 104 [.t 27,.t 29],zo 31 (.iM 83 1 [(0,.t 30)]),zN 32 26,zF 33 120 32 6,zS 83 33 31]))
 (.cut [0,5] (.reg [zV 34 5,zV 35 0,zC 36 36 [.t 35],zN 37 34,zF 38 120 37 6,zS 83 38 36]))))))
 .skip))
 (.seq (.reg [zV 39 5,zV 4 39])
 .ret))))))
def Xl:AF:=⟨40,[.t 4],c104⟩
def EY:AC:=(.seq (.seq (.cut [0,3] (.reg [zV 7 0,zo 8 (.iM 77 2 [(0,.c (.s [91])),(1,.c (.s [58]))]),zC 9 70 [.t 7,.t 8]]))
 (.cond (.t 9)
 .skip
 (.exit 0)))
 (.blk 1
 (.seq (.cut [0,3] (.reg [zV 10 0,zC 11 11 [.t 10],zo 4 (.alloc 47),zS 47 4 11]))
 (.seq (.cut [0,3,4] (.reg [zF 12 47 4 1,zL 13 9 12,zo 14 (.bin .eql 9 (.t 13) (.c (.s [91])))]))
 (.cond (.t 14)
 (.cut [0,3,4] (.jm [(zV 15 3,[]),(zV 16 0,[]),(zF 18 47 4 2,[]),(zL 19 3 18,[]),(zC 17 127 [.t 16,.c (.s [91]),.c (.s [93])],[zL 19 3 18]),(zo 20 (.build 68 [(0,.c (.i .i64 5)),(4,.t 15),(5,.t 17),(7,.t 19)]),[]),(zo 21 (.box 68 (.t 20)),[]),(zV 3 21,[])]))
 (.seq (.reg [zV 22 0,zC 23 67 [.t 22]])
 (.cut [0,3,4] (.jm [(zV 24 3,[]),(zV 25 0,[]),(zF 27 47 4 2,[]),(zL 28 3 27,[]),(zC 26 128 [.t 25],[zL 28 3 27]),(zo 29 (.build 68 [(0,.c (.i .i64 6)),(4,.t 24),(5,.t 26),(7,.t 28)]),[]),(zo 30 (.box 68 (.t 29)),[]),(zV 3 30,[])]))))))))
def c105:AC:=(.seq (.reg [zo 2 (.mv (.c (.p0)))])
 (.seq (.cut [0] (.reg [zV 5 0,zC 6 126 [.t 5],zV 3 6]))
 (.seq (.blk 0
 (.loop [0,3] EY))
 (.seq (.reg [zV 31 3,zV 2 31])
 .ret))))
def Uj:AF:=⟨32,[.t 2],c105⟩
def c106:AC:=(.seq (.reg [zo 0 (.mv (.c (.sl0)))])
 (.seq (.reg [zo 1 (.iM 77 12 [(0,.c (.s [102,117,110,99])),(1,.c (.s [118,97,114])),(2,.c (.s [112,116,114])),(3,.c (.s [105,102])),(4,.c (.s [101,108,115,101])),(5,.c (.s [119,104,105,108,101])),(6,.c (.s [111,117,116])),(7,.c (.s [102,114,101,101])),(8,.c (.s [100,114,97,105,110])),(9,.c (.s [114,101,116,117,114,110])),(10,.c (.s [110,101,119])),(11,.c (.s [105,110]))]),zV 0 1])
 .ret))
def Xm:AF:=⟨2,[.t 0],c106⟩
def EZ:AC:=(.seq (.seq (.cut [0,1,5] (.reg [zV 11 0,zN 12 11,zF 13 56 12 3,zL 14 4 13,zo 15 (.un .not (.t 14))]))
 (.cond (.t 15)
 .skip
 (.exit 0)))
 (.blk 1
 (.seq (.cut [0,1,5] (.reg [zV 16 0,zC 17 14 [.t 16],zo 6 (.alloc 47),zS 47 6 17]))
 (.seq (.reg [zo 7 (.mv (.c (.i .i64 0)))])
 (.seq (.seq (.cut [0,1,5,6,7] (.reg [zF 18 47 6 0,zL 19 3 18,zD 20 .eql 3 19 3]))
 (.cond (.t 20)
 (.cut [0,1,5,6] (.reg [zF 21 47 6 1,zL 22 9 21,zC 23 130 [.t 22],zV 7 23]))
 .skip))
 (.cut [1000000,0,1,5,6,7] (.seq (.seq (.cut [0,1,5,6,7] (.reg [zV 24 7,zV 25 1,zB 26 .lss 3 24 25,zV 27 26,gY 28 27 7,bY 29 27 (.bin .eql 3 (.t 28) (.c (.i .i64 0))),zo 30 (.pick (.t 27) (.c (.b true)) (.t 29))]))
 (.cond (.t 30)
 (.seq (.reg [zV 31 5,zV 4 31])
 .ret)
 .skip))
 (.seq (.cut [0,1,5,6,7] (.reg [zV 32 0,zN 33 32,zF 34 56 33 1,zL 35 3 34,zD 36 .add 3 35 1,zN 37 32,zF 38 56 37 1,zS 3 38 36]))
 (.seq (.cut [0,1,5,6,7] (.reg [zV 39 0,zV 40 7,zD 41 .add 3 40 1,zC 42 107 [.t 39,.t 41],zV 8 42]))
 (.cut [0,1,5,6,8] (.reg [zF 43 47 6 1,zL 44 9 43,zV 45 5,zV 46 8,zF 47 47 6 2,zL 48 3 47,zo 49 (.build 68 [(0,.c (.i .i64 3)),(3,.t 44),(4,.t 45),(5,.t 46),(7,.t 48)]),zo 50 (.box 68 (.t 49)),zV 5 50])))))))))))
def c107:AC:=(.seq (.reg [zo 4 (.mv (.c (.p0)))])
 (.seq (.cut [0,1] (.reg [zV 9 0,zC 10 129 [.t 9],zV 5 10]))
 (.seq (.blk 0
 (.loop [0,1,5] EZ))
 (.seq (.reg [zV 51 5,zV 4 51])
 .ret))))
def Uk:AF:=⟨52,[.t 4],c107⟩
def c108:AC:=(.seq (.reg [zo 4 (.mv (.c (.p0)))])
 (.seq (.cut [0,1] (.reg [zV 7 0,zC 8 107 [.t 7,.c (.i .i64 1)],zV 9 1,zo 10 (.build 120 [(0,.c (.i .i64 4)),(4,.t 8),(7,.t 9)]),zo 11 (.box 120 (.t 10)),zV 5 11]))
 (.seq (.cut [0,5] (.reg [zV 12 5,zV 13 0,zC 14 45 [.t 13],zN 15 12,zF 16 120 15 5,zS 83 16 14]))
 (.seq (.seq (.reg [zV 17 0,zC 18 43 [.t 17,.c (.s [101,108,115,101])]])
 (.cond (.t 18)
 (.seq (.cut [0,5] (.reg [zV 19 0,zC 20 14 [.t 19],zo 6 (.alloc 47),zS 47 6 20]))
 (.seq (.reg [zV 21 0,zC 22 43 [.t 21,.c (.s [105,102])]])
 (.cond (.t 22)
 (.cut [0,5,6] (.reg [zV 23 5,zV 24 0,zF 25 47 6 2,zL 26 3 25,zC 27 108 [.t 24,.t 26],zo 28 (.iM 83 1 [(0,.t 27)]),zN 29 23,zF 30 120 29 6,zS 83 30 28]))
 (.cut [0,5] (.reg [zV 31 5,zV 32 0,zC 33 45 [.t 32],zN 34 31,zF 35 120 34 6,zS 83 35 33])))))
 .skip))
 (.seq (.reg [zV 36 5,zV 4 36])
 .ret)))))
def Xn:AF:=⟨37,[.t 4],c108⟩
def c109:AC:=(.seq (.reg [zo 2 (.mv (.c (.p0)))])
 (.seq (.cut [0] (.reg [zV 4 0,zC 5 107 [.t 4,.c (.i .i64 1)],zV 3 5]))
 (.seq (.reg [zV 6 0,zC 7 39 [.t 6,.c (.s [59])]])
 (.seq (.reg [zV 8 3,zV 2 8])
 .ret))))
def Xo:AF:=⟨9,[.t 2],c109⟩
def E5:AC:=(.seq (.seq (.cut [0,3] (.reg [zV 9 0,zN 10 9,zF 11 56 10 3,zL 12 4 11,zo 13 (.un .not (.t 12))]))
 (.cond (.t 13)
 .skip
 (.exit 0)))
 (.blk 1
 (.seq (.cut [0,3] (.reg [zV 14 0,zC 15 14 [.t 14],zo 4 (.alloc 47),zS 47 4 15]))
 (.seq (.reg [zV 16 0,zC 17 42 [.t 16,.c (.s [91])]])
 (.cond (.t 17)
 (.seq (.cut [0,3,4] (.reg [zV 18 0,zC 19 132 [.t 18,.c (.s [91]),.c (.s [93])],zV 5 19]))
 (.cut [0,3,4,5] (.reg [zV 20 3,zV 21 5,zF 22 47 4 2,zL 23 3 22,zo 24 (.build 68 [(0,.c (.i .i64 5)),(4,.t 20),(5,.t 21),(7,.t 23)]),zo 25 (.box 68 (.t 24)),zV 3 25])))
 (.seq (.reg [zV 26 0,zC 27 43 [.t 26,.c (.s [58])]])
 (.cond (.t 27)
 (.seq (.cut [0,3,4] (.reg [zV 28 0,zC 29 133 [.t 28],zV 6 29]))
 (.cut [0,3,4,6] (.reg [zV 30 3,zV 31 6,zF 32 47 4 2,zL 33 3 32,zo 34 (.build 68 [(0,.c (.i .i64 6)),(4,.t 30),(5,.t 31),(7,.t 33)]),zo 35 (.box 68 (.t 34)),zV 3 35])))
 (.seq (.reg [zV 36 3,zV 2 36])
 .ret))))))))
def c110:AC:=(.seq (.reg [zo 2 (.mv (.c (.p0)))])
 (.seq (.cut [0] (.reg [zV 7 0,zC 8 131 [.t 7],zV 3 8]))
 (.seq (.blk 0
 (.loop [0,3] E5))
 (.seq (.reg [zV 37 3,zV 2 37])
 .ret))))
def Ul:AF:=⟨38,[.t 2],c110⟩
def c111:AC:=(.seq (.reg [zo 4 (.mv (.c (.i .i64 0))),zo 5 (.mv (.c (.fM)))])
 (.seq (.reg [zV 6 0,zC 7 134 [.t 6]])
 (.seq (.cut [0,1] (.reg [zV 8 0,zV 9 0,zN 10 9,zF 11 114 10 1,zL 12 112 11,zV 13 1,zo 14 (.app 112 true (.t 12) (.t 13)),zN 15 8,zF 16 114 15 1,zS 112 16 14]))
 (.seq (.cut [1] (.reg [zV 17 1,zo 18 (.len 9 (.t 17)),zV 4 18,zo 5 (.mv (.c (.fM)))]))
 .ret))))
def ZV:AF:=⟨19,[.t 4,.t 5],c111⟩
def c112:AC:=(.cut [0] (.reg [zV 2 0,zV 3 0,zN 4 3,zF 5 116 4 1,zL 6 3 5,zC 7 135 [.c (.s [9]),.t 6],zo 8 (.iM 77 1 [(0,.t 7)]),zC 9 84 [.t 2,.t 8]]))
def ZW:AF:=⟨10,[],c112⟩
def c113:AC:=(.seq (.seq (.reg [zV 4 1,zo 5 (.bin .eql 121 (.t 4) (.c (.p0)))])
 (.cond (.t 5)
 (.seq (.cut [0] (.reg [zV 6 0,zN 7 6,zF 8 116 7 2,zn (.store 4 (.t 8) (.c (.b true)))]))
 .ret)
 .skip))
 (.seq (.cut [0,1] (.reg [zV 9 1,zN 10 9,zF 11 120 10 0,zL 12 3 11]))
 (.blk 0
 (.seq (.reg [zD 17 .eql 3 12 1,zV 16 17])
 (.cond (.t 16)
 (.seq (.cut [0,1] (.reg [zV 18 0,zV 19 1,zN 20 19,zF 21 120 20 1,zL 22 9 21,zo 23 (.iM 77 2 [(0,.c (.s [118,97,114,32])),(1,.t 22)]),zC 24 84 [.t 18,.t 23]]))
 (.seq (.seq (.cut [0,1] (.reg [zV 25 1,zN 26 25,zF 27 120 26 2,zL 28 4 27]))
 (.cond (.t 28)
 (.cut [0,1] (.reg [zV 29 0,zo 30 (.iM 77 1 [(0,.c (.s [32,112,116,114]))]),zC 31 84 [.t 29,.t 30]]))
 .skip))
 (.cut [1000000,0,1] (.seq (.seq (.cut [0,1] (.reg [zV 32 1,zN 33 32,zF 34 120 33 4,zL 35 63 34,zo 36 (.bin .eql 63 (.t 35) (.c (.p0)))]))
 (.cond (.t 36)
 (.seq (.cut [0] (.reg [zV 37 0,zo 38 (.iM 77 1 [(0,.c (.s [59]))]),zC 39 84 [.t 37,.t 38]]))
 .ret)
 .skip))
 (.cut [0,1] (.reg [zV 40 0,zV 41 1,zN 42 41,zF 43 120 42 4,zL 44 63 43,zC 45 136 [.t 40,.c (.s [32,61,32]),.t 44]]))))))
 (.seq (.reg [zD 47 .eql 3 12 2,zV 46 47])
 (.cond (.t 46)
 (.cut [0,1] (.jm [(zV 48 0,[]),(zV 49 1,[]),(zN 50 49,[]),(zF 51 120 50 1,[]),(zL 52 9 51,[]),(zo 53 (.bin .add 9 (.t 52) (.c (.s [32,61,32]))),[]),(zV 54 1,[]),(zN 55 54,[]),(zF 56 120 55 4,[]),(zL 57 63 56,[]),(zC 58 136 [.t 48,.t 53,.t 57],[])]))
 (.seq (.reg [zD 60 .eql 3 12 3,zV 59 60])
 (.cond (.t 59)
 (.seq (.cut [0,1] (.reg [zV 61 0,zV 62 1,zN 63 62,zF 64 120 63 3,zL 65 63 64,zC 66 137 [.t 61,.t 65,.c (.i .i64 8)]]))
 (.cut [0,1] (.reg [zV 67 0,zV 68 1,zN 69 68,zF 70 120 69 4,zL 71 63 70,zC 72 136 [.t 67,.c (.s [32,61,32]),.t 71]])))
 (.seq (.reg [zD 74 .eql 3 12 4,zV 73 74])
 (.cond (.t 73)
 (.cut [0,1] (.reg [zV 75 0,zV 76 1,zC 77 138 [.t 75,.t 76]]))
 (.seq (.reg [zD 79 .eql 3 12 5,zV 78 79])
 (.cut [1000000,0,1,12,78] (.cond (.t 78)
 (.seq (.cut [0,1] (.reg [zV 80 0,zo 81 (.iM 77 1 [(0,.c (.s [119,104,105,108,101,32]))]),zC 82 84 [.t 80,.t 81]]))
 (.seq (.cut [0,1] (.reg [zV 83 0,zV 84 1,zN 85 84,zF 86 120 85 4,zL 87 63 86,zC 88 137 [.t 83,.t 87,.c (.i .i64 1)]]))
 (.cut [0,1] (.reg [zV 89 0,zV 90 1,zN 91 90,zF 92 120 91 5,zL 93 83 92,zC 94 85 [.t 89,.t 93]]))))
 (.seq (.reg [zD 96 .eql 3 12 6,zV 95 96])
 (.cond (.t 95)
 (.cut [0,1] (.reg [zV 97 0,zV 98 1,zN 99 98,zF 100 120 99 4,zL 101 63 100,zC 102 136 [.t 97,.c (.s [111,117,116,32]),.t 101]]))
 (.seq (.reg [zD 104 .eql 3 12 7,zV 103 104])
 (.cond (.t 103)
 (.cut [0,1] (.reg [zV 105 0,zV 106 1,zN 107 106,zF 108 120 107 4,zL 109 63 108,zC 110 136 [.t 105,.c (.s [102,114,101,101,32]),.t 109]]))
 (.seq (.reg [zD 112 .eql 3 12 8,zV 111 112])
 (.cond (.t 111)
 (.cut [0] (.reg [zV 113 0,zo 114 (.iM 77 1 [(0,.c (.s [100,114,97,105,110,59]))]),zC 115 84 [.t 113,.t 114]]))
 (.seq (.reg [zD 117 .eql 3 12 9,zV 116 117])
 (.cond (.t 116)
 (.seq (.seq (.cut [0,1] (.reg [zV 118 1,zN 119 118,zF 120 120 119 4,zL 121 63 120,zo 122 (.bin .eql 63 (.t 121) (.c (.p0)))]))
 (.cond (.t 122)
 (.seq (.cut [0] (.reg [zV 123 0,zo 124 (.iM 77 1 [(0,.c (.s [114,101,116,117,114,110,59]))]),zC 125 84 [.t 123,.t 124]]))
 .ret)
 .skip))
 (.cut [0,1] (.reg [zV 126 0,zV 127 1,zN 128 127,zF 129 120 128 4,zL 130 63 129,zC 131 136 [.t 126,.c (.s [114,101,116,117,114,110,32]),.t 130]])))
 (.seq (.reg [zD 133 .eql 3 12 10,zV 132 133])
 (.cond (.t 132)
 (.cut [0,1] (.reg [zV 134 0,zV 135 1,zN 136 135,zF 137 120 136 4,zL 138 63 137,zC 139 136 [.t 134,.c (.s []),.t 138]]))
 (.cut [0] (.reg [zV 13 0,zN 14 13,zF 15 116 14 2,zn (.store 4 (.t 15) (.c (.b true)))]))))))))))))))))))))))))))
def ZX:AF:=⟨140,[],c113⟩
def c114:AC:=(.seq (.reg [zo 6 (.mv (.c (.b false)))])
 (.seq (.seq (.cut [0,1,2] (.reg [zV 7 0,zo 8 (.bin .eql 49 (.t 7) (.c (.p0))),zV 9 8,gY 10 9 1,bY 11 9 (.bin .eql 49 (.t 10) (.c (.p0))),zo 12 (.pick (.t 9) (.c (.b true)) (.t 11))]))
 (.cond (.t 12)
 (.seq (.cut [0,1] (.reg [zV 13 0,zo 14 (.bin .eql 49 (.t 13) (.c (.p0))),zV 15 14,eu 16 15 1,aZ 17 15 (.bin .eql 49 (.t 16) (.c (.p0))),zo 18 (.pick (.t 15) (.t 17) (.c (.b false))),zV 6 18]))
 .ret)
 .skip))
 (.seq (.cut [0,1,2] (.reg [zV 19 2,zV 20 0,zV 21 1,zo 22 (.call (.t 19) [.t 20,.t 21]),zV 6 22]))
 .ret)))
def ZY:AF:=⟨23,[.t 6],c114⟩
def c115:AC:=(.seq (.reg [zo 4 (.mv (.c (.b false)))])
 (.seq (.cut [0,1] (.jm [(zV 5 0,[]),(zN 6 5,[]),(zF 7 85 6 0,[]),(zL 8 9 7,[]),(zV 9 1,[]),(zN 10 9,[]),(zF 11 85 10 0,[]),(zL 12 9 11,[]),(zB 13 .eql 9 8 12,[]),(zV 14 13,[]),(eu 15 14 0,[]),(aZ 16 14 (.bn (.t 15)),[]),(aZ 17 14 (.eY 85 (.t 16) 2),[]),(aZ 18 14 (.load 4 (.t 17)),[]),(eu 19 14 1,[]),(aZ 20 14 (.bn (.t 19)),[]),(aZ 21 14 (.eY 85 (.t 20) 2),[]),(aZ 22 14 (.load 4 (.t 21)),[]),(aZ 23 14 (.bin .eql 4 (.t 18) (.t 22)),[]),(zo 24 (.pick (.t 14) (.t 23) (.c (.b false))),[]),(zV 25 24,[]),(eu 26 25 0,[]),(aZ 27 25 (.bn (.t 26)),[]),(aZ 28 25 (.eY 85 (.t 27) 1),[]),(aZ 29 25 (.load 82 (.t 28)),[]),(eu 30 25 1,[]),(aZ 31 25 (.bn (.t 30)),[]),(aZ 32 25 (.eY 85 (.t 31) 1),[]),(aZ 33 25 (.load 82 (.t 32)),[]),(aZ 34 25 (.call (.c (.fn (.func 116) [] [])) [.t 29,.t 33]),[]),(zo 35 (.pick (.t 25) (.t 34) (.c (.b false))),[]),(zV 36 35,[]),(eu 37 36 0,[]),(aZ 38 36 (.bn (.t 37)),[]),(aZ 39 36 (.eY 85 (.t 38) 3),[]),(aZ 40 36 (.load 83 (.t 39)),[]),(eu 41 36 1,[]),(aZ 42 36 (.bn (.t 41)),[]),(aZ 43 36 (.eY 85 (.t 42) 3),[]),(aZ 44 36 (.load 83 (.t 43)),[]),(aZ 45 36 (.call (.c (.fn (.func 117) [] [])) [.t 40,.t 44,.c (.fn (.func 118) [] [])]),[]),(zo 46 (.pick (.t 36) (.t 45) (.c (.b false))),[]),(zV 4 46,[])]))
 (.cut [1000000,4] .ret)))
def Z4:AF:=⟨47,[.t 4],c115⟩
def Xp:AC:=(.seq (.reg [zB 14 .lss 3 13 12])
 (.seq (.cond (.t 14)
 .skip
 (.exit 0))
 (.seq (.blk 1
 (.seq (.reg [zV 15 13,zV 5 15])
 (.seq (.cut [0,1,5,12,13] (.jm [(zV 16 0,[]),(zV 17 5,[]),(zo 18 (.mD 82 (.t 16) (.t 17)),[]),(zL 19 90 18,[]),(zV 20 1,[]),(zV 21 5,[]),(zo 22 (.mD 82 (.t 20) (.t 21)),[]),(zL 23 90 22,[]),(zB 24 .neq 90 19 23,[])]))
 (.cond (.t 24)
 (.seq (.reg [zo 4 (.mv (.c (.b false)))])
 .ret)
 .skip))))
 (.reg [zD 25 .add 3 13 1,zV 13 25]))))
def c116:AC:=(.seq (.reg [zo 4 (.mv (.c (.b false)))])
 (.seq (.seq (.cut [0,1] (.reg [zV 6 0,zo 7 (.len 82 (.t 6)),zV 8 1,zo 9 (.len 82 (.t 8)),zB 10 .neq 3 7 9]))
 (.cond (.t 10)
 (.seq (.reg [zo 4 (.mv (.c (.b false)))])
 .ret)
 .skip))
 (.seq (.seq (.cut [0,1] (.reg [zV 11 0,zo 12 (.len 82 (.t 11)),zo 13 (.mv (.c (.i .i64 0)))]))
 (.blk 0
 (.loop [0,1,12,13] Xp)))
 (.seq (.reg [zo 4 (.mv (.c (.b true)))])
 .ret))))
def Z5:AF:=⟨26,[.t 4],c116⟩
def Xq:AC:=(.seq (.reg [zB 18 .lss 3 17 16])
 (.seq (.cond (.t 18)
 .skip
 (.exit 0))
 (.seq (.blk 1
 (.seq (.cut [1,2,15,16,17] (.reg [zV 19 17,zo 20 (.mD 83 (.t 15) (.t 17)),zL 21 121 20,zV 7 19,zV 8 21]))
 (.seq (.cut [1,2,7,8,15,16,17] (.reg [zV 22 1,zV 23 7,zo 24 (.mD 83 (.t 22) (.t 23)),zL 25 121 24,zV 9 25]))
 (.seq (.cut [1,2,8,9,15,16,17] (.reg [zV 26 2,zV 27 8,zV 28 9,zo 29 (.call (.t 26) [.t 27,.t 28]),zo 30 (.un .not (.t 29))]))
 (.cond (.t 30)
 (.seq (.reg [zo 6 (.mv (.c (.b false)))])
 .ret)
 .skip)))))
 (.reg [zD 31 .add 3 17 1,zV 17 31]))))
def c117:AC:=(.seq (.reg [zo 6 (.mv (.c (.b false)))])
 (.seq (.seq (.cut [0,1,2] (.reg [zV 10 0,zo 11 (.len 83 (.t 10)),zV 12 1,zo 13 (.len 83 (.t 12)),zB 14 .neq 3 11 13]))
 (.cond (.t 14)
 (.seq (.reg [zo 6 (.mv (.c (.b false)))])
 .ret)
 .skip))
 (.seq (.seq (.cut [0,1,2] (.reg [zV 15 0,zo 16 (.len 83 (.t 15)),zo 17 (.mv (.c (.i .i64 0)))]))
 (.blk 0
 (.loop [1,2,15,16,17] Xq)))
 (.seq (.reg [zo 6 (.mv (.c (.b true)))])
 .ret))))
def Z7:AF:=⟨32,[.t 6],c117⟩
def c118:AC:=(.seq (.reg [zo 4 (.mv (.c (.b false)))])
 (.seq (.cut [0,1] (.reg [zV 5 0,zV 6 1,zC 7 139 [.t 5,.t 6,.c (.fn (.func 140) [] [])],zV 4 7]))
 .ret))
def Z8:AF:=⟨8,[.t 4],c118⟩
def c119:AC:=(.seq (.reg [zo 4 (.mv (.c (.b false)))])
 (.seq (.cut [0,1] (.reg [zV 5 0,zo 6 (.len 9 (.t 5)),zV 7 1,zo 8 (.len 9 (.t 7)),zB 9 .geq 3 6 8,zV 10 9,eu 11 10 0,eu 12 10 0,aZ 13 10 (.len 9 (.t 12)),eu 14 10 1,aZ 15 10 (.len 9 (.t 14)),aZ 16 10 (.bin .sub 3 (.t 13) (.t 15)),aZ 17 10 (.slc 9 (.t 11) (some (.t 16)) none),eu 18 10 1,aZ 19 10 (.bin .eql 9 (.t 17) (.t 18)),zo 20 (.pick (.t 10) (.t 19) (.c (.b false))),zV 4 20]))
 .ret))
def Z9:AF:=⟨21,[.t 4],c119⟩
def c124:AC:=(.seq (.reg [zo 1 (.box 39 (.t 0)),zo 2 (.mv (.c (.p0)))])
 (.seq (.cut [1] (.reg [zL 5 39 1,zC 6 11 [.t 5],zo 3 (.alloc 47),zS 47 3 6]))
 (.seq (.seq (.cut [1,3] (.reg [zL 7 39 1,zo 8 (.iM 77 2 [(0,.c (.s [33])),(1,.c (.s [45]))]),zC 9 70 [.t 7,.t 8],zo 10 (.un .not (.t 9))]))
 (.cond (.t 10)
 (.seq (.cut [1] (.reg [zL 11 39 1,zC 12 105 [.t 11],zV 2 12]))
 .ret)
 .skip))
 (.seq (.cut [1,3] (.reg [zF 13 47 3 1,zL 14 9 13,zF 15 47 3 2,zL 16 3 15,zo 17 (.build 68 [(0,.c (.i .i64 3)),(3,.t 14),(7,.t 16)]),zo 18 (.box 68 (.t 17)),zo 4 (.alloc 63),zS 63 4 18]))
 (.seq (.cut [1,3,4] (.reg [zL 19 39 1,zF 20 47 3 1,zL 21 9 20,zo 22 (.Gt (.func 145) [] [.t 1,.t 4]),zC 23 68 [.t 19,.t 21,.t 22]]))
 (.seq (.reg [zL 24 63 4,zV 2 24])
 .ret))))))
def Um:AF:=⟨25,[.t 2],c124⟩
def c125:AC:=(.seq (.reg [zo 2 (.mv (.c (.i .i64 0)))])
 (.seq (.cut [0] (.reg [zo 3 (.VN 208 none),zn (.yG 208 (.t 3) (.c (.s [124,124])) (.c (.i .i64 1))),zn (.yG 208 (.t 3) (.c (.s [38,38])) (.c (.i .i64 2))),zn (.yG 208 (.t 3) (.c (.s [61,61])) (.c (.i .i64 3))),zn (.yG 208 (.t 3) (.c (.s [33,61])) (.c (.i .i64 3))),zn (.yG 208 (.t 3) (.c (.s [60])) (.c (.i .i64 4))),zn (.yG 208 (.t 3) (.c (.s [60,61])) (.c (.i .i64 4))),zn (.yG 208 (.t 3) (.c (.s [62])) (.c (.i .i64 4))),zn (.yG 208 (.t 3) (.c (.s [62,61])) (.c (.i .i64 4))),zn (.yG 208 (.t 3) (.c (.s [43])) (.c (.i .i64 5))),zn (.yG 208 (.t 3) (.c (.s [45])) (.c (.i .i64 5))),zn (.yG 208 (.t 3) (.c (.s [124])) (.c (.i .i64 5))),zn (.yG 208 (.t 3) (.c (.s [94])) (.c (.i .i64 5))),zn (.yG 208 (.t 3) (.c (.s [42])) (.c (.i .i64 6))),zn (.yG 208 (.t 3) (.c (.s [47])) (.c (.i .i64 6))),zn (.yG 208 (.t 3) (.c (.s [37])) (.c (.i .i64 6))),zn (.yG 208 (.t 3) (.c (.s [38])) (.c (.i .i64 6))),zn (.yG 208 (.t 3) (.c (.s [60,60])) (.c (.i .i64 6))),zn (.yG 208 (.t 3) (.c (.s [62,62])) (.c (.i .i64 6))),zV 4 3,zV 5 0,zo 6 (.S9 208 (.t 4) (.t 5) false),zV 2 6]))
 .ret))
def Xr:AF:=⟨7,[.t 2],c125⟩
def c126:AC:=(.seq (.reg [zo 1 (.box 39 (.t 0)),zo 2 (.mv (.c (.p0)))])
 (.seq (.cut [1] (.reg [zL 5 39 1,zC 6 11 [.t 5],zo 3 (.alloc 47),zS 47 3 6]))
 (.seq (.blk 0
 (.seq (.cut [1,3] (.reg [zL 8 39 1,zC 9 35 [.t 8,.c (.s [110,101,119])],zV 7 9]))
 (.cond (.t 7)
 (.seq (.cut [1,3] (.jm [(zL 10 39 1,[]),(zF 12 47 3 2,[]),(zL 13 3 12,[]),(zC 11 127 [.t 10,.c (.s [40]),.c (.s [41])],[zL 13 3 12]),(zo 14 (.build 68 [(0,.c (.i .i64 7)),(4,.t 11),(7,.t 13)]),[]),(zo 15 (.box 68 (.t 14)),[]),(zV 2 15,[])]))
 .ret)
 (.seq (.cut [1,3] (.reg [zL 17 39 1,zC 18 35 [.t 17,.c (.s [105,110])],zV 16 18]))
 (.cond (.t 16)
 (.seq (.cut [1,3] (.reg [zL 19 39 1,zo 20 (.Gt (.func 146) [] [.t 1]),zC 21 68 [.t 19,.c (.s [40]),.t 20]]))
 (.seq (.cut [3] (.reg [zF 22 47 3 2,zL 23 3 22,zo 24 (.build 68 [(0,.c (.i .i64 8)),(7,.t 23)]),zo 25 (.box 68 (.t 24)),zV 2 25]))
 .ret))
 .skip)))))
 (.seq (.cut [1,3] (.reg [zL 26 39 1,zC 27 128 [.t 26],zo 4 (.alloc 63),zS 63 4 27]))
 (.cut [1000000,1,3,4] (.seq (.seq (.cut [1,3,4] (.reg [zF 28 47 3 0,zL 29 3 28,zD 30 .eql 3 29 1,zV 31 30,aZ 32 31 (.load 63 (.t 4)),aZ 33 31 (.bn (.t 32)),aZ 34 31 (.eY 68 (.t 33) 0),aZ 35 31 (.load 3 (.t 34)),aZ 36 31 (.bin .eql 3 (.t 35) (.c (.i .i64 2))),zo 37 (.pick (.t 31) (.t 36) (.c (.b false))),zV 38 37,aZ 39 38 (.load 39 (.t 1)),aZ 40 38 (.iM 77 1 [(0,.c (.s [40]))]),aZ 41 38 (.call (.c (.fn (.func 70) [] [])) [.t 39,.t 40]),zo 42 (.pick (.t 38) (.t 41) (.c (.b false)))]))
 (.cond (.t 42)
 (.seq (.cut [1,4] (.reg [zL 43 63 4,zN 44 43,zF 45 68 44 0,zn (.store 3 (.t 45) (.c (.i .i64 4)))]))
 (.cut [1,4] (.reg [zL 46 39 1,zo 47 (.Gt (.func 147) [] [.t 4,.t 1]),zC 48 33 [.t 46,.t 47]])))
 .skip))
 (.seq (.reg [zL 49 63 4,zV 2 49])
 .ret)))))))
def Un:AF:=⟨50,[.t 2],c126⟩
def c127:AC:=(.seq (.cut [0,1,2] (.reg [zo 3 (.box 39 (.t 0)),zo 5 (.box 9 (.t 2)),zo 6 (.alloc 63)]))
 (.seq (.cut [1,3,5,6] (.reg [zL 7 39 3,zV 8 1,zo 9 (.Gt (.func 148) [] [.t 3,.t 6,.t 5]),zC 10 68 [.t 7,.t 8,.t 9]]))
 (.seq (.reg [zL 11 63 6,zS 63 6 11])
 .ret)))
def Xt:AF:=⟨12,[.cell 6 63],c127⟩
def c128:AC:=(.seq (.reg [zo 2 (.mv (.c (.p0)))])
 (.seq (.cut [0] (.reg [zV 6 0,zC 7 11 [.t 6],zo 3 (.alloc 47),zS 47 3 7]))
 (.seq (.blk 0
 (.seq (.cut [0,3] (.reg [zV 9 0,zo 10 (.iM 77 1 [(0,.c (.s [40]))]),zC 11 70 [.t 9,.t 10],zV 8 11]))
 (.cond (.t 8)
 (.seq (.cut [0] (.reg [zV 12 0,zC 13 127 [.t 12,.c (.s [40]),.c (.s [41])],zV 2 13]))
 .ret)
 (.seq (.cut [0,3] (.reg [zF 15 47 3 0,zL 16 3 15,zD 17 .eql 3 16 2,zV 18 17,eu 19 18 0,aZ 20 18 (.call (.c (.fn (.func 10) [] [])) [.t 19]),aZ 21 18 (.un .not (.t 20)),zo 22 (.pick (.t 18) (.t 21) (.c (.b false))),zV 14 22]))
 (.cond (.t 14)
 (.seq (.reg [zV 23 0,zC 24 67 [.t 23]])
 (.seq (.cut [3] (.reg [zF 26 47 3 1,zL 27 9 26,zC 28 29 [.t 27,.c (.i .i64 10),.c (.i .i64 32)],zV 25 28,zE 29 25 0,zE 30 25 1,zV 4 29,zV 5 30]))
 (.seq (.cut [3,4] (.reg [zV 31 4,zo 32 (.conv 79 65 (.t 31)),zF 33 47 3 2,zL 34 3 33,zo 35 (.build 68 [(0,.c (.i .i64 1)),(1,.t 32),(7,.t 34)]),zo 36 (.box 68 (.t 35)),zV 2 36]))
 .ret)))
 .skip)))))
 (.cut [1000000,0,3] (.seq (.cut [0,3] (.jm [(zV 37 0,[]),(zF 39 47 3 2,[]),(zL 40 3 39,[]),(zC 38 32 [.t 37],[zL 40 3 39]),(zo 41 (.build 68 [(0,.c (.i .i64 2)),(2,.t 38),(7,.t 40)]),[]),(zo 42 (.box 68 (.t 41)),[]),(zV 2 42,[])]))
 .ret)))))
def Uo:AF:=⟨43,[.t 2],c128⟩
def c129:AC:=(.seq (.reg [zo 2 (.mv (.c (.p0)))])
 (.seq (.cut [0] (.reg [zV 5 0,zC 6 14 [.t 5],zo 3 (.alloc 47),zS 47 3 6]))
 (.seq (.seq (.cut [0,3] (.reg [zV 7 0,zC 8 42 [.t 7,.c (.s [33])],zo 9 (.un .not (.t 8)),zV 10 9,eu 11 10 0,aZ 12 10 (.call (.c (.fn (.func 42) [] [])) [.t 11,.c (.s [45])]),aZ 13 10 (.un .not (.t 12)),zo 14 (.pick (.t 10) (.t 13) (.c (.b false)))]))
 (.cond (.t 14)
 (.seq (.cut [0] (.reg [zV 15 0,zC 16 110 [.t 15],zV 2 16]))
 .ret)
 .skip))
 (.seq (.cut [0,3] (.reg [zV 17 0,zF 18 47 3 1,zL 19 9 18,zC 20 41 [.t 17,.t 19]]))
 (.seq (.cut [0,3] (.reg [zV 21 0,zC 22 129 [.t 21],zV 4 22]))
 (.seq (.cut [0,3,4] (.reg [zV 23 0,zN 24 23,zF 25 56 24 2,zL 26 3 25,zD 27 .sub 3 26 1,zN 28 23,zF 29 56 28 2,zS 3 29 27]))
 (.cut [1000000,3,4] (.seq (.cut [3,4] (.reg [zF 30 47 3 1,zL 31 9 30,zV 32 4,zF 33 47 3 2,zL 34 3 33,zo 35 (.build 68 [(0,.c (.i .i64 3)),(3,.t 31),(5,.t 32),(7,.t 34)]),zo 36 (.box 68 (.t 35)),zV 2 36]))
 .ret))))))))
def Ur:AF:=⟨37,[.t 2],c129⟩
def c130:AC:=(.seq (.reg [zo 2 (.mv (.c (.i .i64 0)))])
 (.seq (.seq (.reg [zV 3 0])
 (.blk 0
 (.seq (.reg [zo 5 (.bin .eql 9 (.t 3) (.c (.s [124,124]))),zV 4 5])
 (.cond (.t 4)
 (.seq (.reg [zo 2 (.mv (.c (.i .i64 1)))])
 .ret)
 (.seq (.reg [zo 7 (.bin .eql 9 (.t 3) (.c (.s [38,38]))),zV 6 7])
 (.cond (.t 6)
 (.seq (.reg [zo 2 (.mv (.c (.i .i64 2)))])
 .ret)
 (.seq (.seq (.reg [zo 9 (.bin .eql 9 (.t 3) (.c (.s [61,61]))),zV 8 9])
 (.cond (.t 8)
 .skip
 (.reg [zo 10 (.bin .eql 9 (.t 3) (.c (.s [33,61]))),zV 8 10])))
 (.cut [1000000,3,8] (.cond (.t 8)
 (.seq (.reg [zo 2 (.mv (.c (.i .i64 3)))])
 .ret)
 (.seq (.seq (.reg [zo 12 (.bin .eql 9 (.t 3) (.c (.s [60]))),zV 11 12])
 (.cond (.t 11)
 .skip
 (.seq (.reg [zo 13 (.bin .eql 9 (.t 3) (.c (.s [60,61]))),zV 11 13])
 (.cond (.t 11)
 .skip
 (.seq (.reg [zo 14 (.bin .eql 9 (.t 3) (.c (.s [62]))),zV 11 14])
 (.cond (.t 11)
 .skip
 (.reg [zo 15 (.bin .eql 9 (.t 3) (.c (.s [62,61]))),zV 11 15])))))))
 (.cut [1000000,3,11] (.cond (.t 11)
 (.seq (.reg [zo 2 (.mv (.c (.i .i64 4)))])
 .ret)
 (.seq (.seq (.reg [zo 17 (.bin .eql 9 (.t 3) (.c (.s [43]))),zV 16 17])
 (.cond (.t 16)
 .skip
 (.seq (.reg [zo 18 (.bin .eql 9 (.t 3) (.c (.s [45]))),zV 16 18])
 (.cond (.t 16)
 .skip
 (.seq (.reg [zo 19 (.bin .eql 9 (.t 3) (.c (.s [124]))),zV 16 19])
 (.cond (.t 16)
 .skip
 (.reg [zo 20 (.bin .eql 9 (.t 3) (.c (.s [94]))),zV 16 20])))))))
 (.cut [1000000,3,16] (.cond (.t 16)
 (.seq (.reg [zo 2 (.mv (.c (.i .i64 5)))])
 .ret)
 (.seq (.seq (.reg [zo 22 (.bin .eql 9 (.t 3) (.c (.s [42]))),zV 21 22])
 (.cond (.t 21)
 .skip
 (.seq (.reg [zo 23 (.bin .eql 9 (.t 3) (.c (.s [47]))),zV 21 23])
 (.cond (.t 21)
 .skip
 (.seq (.reg [zo 24 (.bin .eql 9 (.t 3) (.c (.s [37]))),zV 21 24])
 (.cond (.t 21)
 .skip
 (.seq (.reg [zo 25 (.bin .eql 9 (.t 3) (.c (.s [38]))),zV 21 25])
 (.cond (.t 21)
 .skip
 (.seq (.reg [zo 26 (.bin .eql 9 (.t 3) (.c (.s [60,60]))),zV 21 26])
 (.cond (.t 21)
 .skip
 (.reg [zo 27 (.bin .eql 9 (.t 3) (.c (.s [62,62]))),zV 21 27])))))))))))
 (.cut [1000000,21] (.cond (.t 21)
 (.seq (.reg [zo 2 (.mv (.c (.i .i64 6)))])
 .ret)
 .skip))))))))))))))))))
 (.seq (.reg [zo 2 (.mv (.c (.i .i64 0)))])
 .ret)))
def Xu:AF:=⟨28,[.t 2],c130⟩
def Bl:AC:=(.seq (.seq (.cut [0,3,4,5] (.reg [zV 66 0,zN 67 66,zF 68 56 67 3,zL 69 4 68,zo 70 (.un .not (.t 69)),zV 71 70,eu 72 71 0,aZ 73 71 (.call (.c (.fn (.func 42) [] [])) [.t 72,.c (.s [41])]),aZ 74 71 (.un .not (.t 73)),zo 75 (.pick (.t 71) (.t 74) (.c (.b false)))]))
 (.cond (.t 75)
 .skip
 (.exit 0)))
 (.blk 1
 (.seq (.seq (.cut [0,3,4,5] (.reg [zV 76 5,zo 77 (.len 66 (.t 76)),zD 78 .gtr 3 77 0]))
 (.cond (.t 78)
 (.reg [zV 79 0,zC 80 39 [.t 79,.c (.s [44])]])
 .skip))
 (.cut [1000000,0,3,4,5] (.cut [0,3,4,5] (.reg [zV 81 5,zV 82 0,zC 83 107 [.t 82,.c (.i .i64 1)],zo 84 (.iM 66 1 [(0,.t 83)]),zo 85 (.app 66 false (.t 81) (.t 84)),zV 5 85]))))))
def c131:AC:=(.seq (.reg [zo 2 (.mv (.c (.p0)))])
 (.seq (.cut [0] (.reg [zV 6 0,zC 7 14 [.t 6],zo 3 (.alloc 47),zS 47 3 7]))
 (.seq (.seq (.reg [zV 8 0,zC 9 42 [.t 8,.c (.s [40])]])
 (.cond (.t 9)
 (.seq (.cut [0] (.reg [zV 10 0,zC 11 132 [.t 10,.c (.s [40]),.c (.s [41])],zV 2 11]))
 .ret)
 .skip))
 (.seq (.seq (.reg [zV 12 0,zC 13 43 [.t 12,.c (.s [110,101,119])]])
 (.cond (.t 13)
 (.seq (.cut [0,3] (.jm [(zV 14 0,[]),(zF 16 47 3 2,[]),(zL 17 3 16,[]),(zC 15 132 [.t 14,.c (.s [40]),.c (.s [41])],[zL 17 3 16]),(zo 18 (.build 68 [(0,.c (.i .i64 7)),(4,.t 15),(7,.t 17)]),[]),(zo 19 (.box 68 (.t 18)),[]),(zV 2 19,[])]))
 .ret)
 .skip))
 (.seq (.seq (.reg [zV 20 0,zC 21 43 [.t 20,.c (.s [105,110])]])
 (.cond (.t 21)
 (.seq (.reg [zV 22 0,zC 23 41 [.t 22,.c (.s [40])]])
 (.seq (.reg [zV 24 0,zC 25 44 [.t 24,.c (.s [41])]])
 (.seq (.cut [3] (.reg [zF 26 47 3 2,zL 27 3 26,zo 28 (.build 68 [(0,.c (.i .i64 8)),(7,.t 27)]),zo 29 (.box 68 (.t 28)),zV 2 29]))
 .ret)))
 .skip))
 (.cut [1000000,0,3] (.seq (.seq (.cut [0,3] (.reg [zF 30 47 3 0,zL 31 3 30,zD 32 .eql 3 31 2,zV 33 32,eu 34 33 0,aZ 35 33 (.bn (.t 34)),aZ 36 33 (.eY 56 (.t 35) 3),aZ 37 33 (.load 4 (.t 36)),aZ 38 33 (.un .not (.t 37)),zo 39 (.pick (.t 33) (.t 38) (.c (.b false)))]))
 (.cond (.t 39)
 (.seq (.cut [0,3] (.reg [zV 40 0,zN 41 40,zF 42 56 41 1,zL 43 3 42,zD 44 .add 3 43 1,zN 45 40,zF 46 56 45 1,zS 3 46 44]))
 (.seq (.cut [3] (.jm [(zF 47 47 3 1,[]),(zL 48 9 47,[]),(zF 50 47 3 2,[]),(zL 51 3 50,[]),(zC 49 149 [.t 48],[zL 51 3 50]),(zo 52 (.build 68 [(0,.c (.i .i64 1)),(1,.t 49),(7,.t 51)]),[]),(zo 53 (.box 68 (.t 52)),[]),(zV 2 53,[])]))
 .ret))
 .skip))
 (.cut [1000000,0,3] (.seq (.cut [0,3] (.reg [zV 54 0,zC 55 40 [.t 54],zV 4 55]))
 (.seq (.seq (.cut [0,3,4] (.reg [zV 56 0,zC 57 42 [.t 56,.c (.s [40])],zo 58 (.un .not (.t 57))]))
 (.cond (.t 58)
 (.seq (.cut [3,4] (.reg [zV 59 4,zF 60 47 3 2,zL 61 3 60,zo 62 (.build 68 [(0,.c (.i .i64 2)),(2,.t 59),(7,.t 61)]),zo 63 (.box 68 (.t 62)),zV 2 63]))
 .ret)
 .skip))
 (.seq (.reg [zV 64 0,zC 65 41 [.t 64,.c (.s [40])]])
 (.seq (.reg [zo 5 (.mv (.c (.sl0)))])
 (.seq (.blk 0
 (.loop [0,3,4,5] Bl))
 (.seq (.reg [zV 86 0,zC 87 44 [.t 86,.c (.s [41])]])
 (.seq (.cut [3,4,5] (.reg [zV 88 4,zV 89 5,zF 90 47 3 2,zL 91 3 90,zo 92 (.build 68 [(0,.c (.i .i64 4)),(2,.t 88),(6,.t 89),(7,.t 91)]),zo 93 (.box 68 (.t 92)),zV 2 93]))
 .ret)))))))))))))))
def Us:AF:=⟨94,[.t 2],c131⟩
def c132:AC:=(.seq (.reg [zo 6 (.mv (.c (.p0)))])
 (.seq (.cut [0,1,2] (.reg [zV 8 0,zV 9 1,zC 10 41 [.t 8,.t 9]]))
 (.seq (.cut [0,2] (.reg [zV 11 0,zC 12 107 [.t 11,.c (.i .i64 1)],zV 7 12]))
 (.seq (.cut [0,2,7] (.reg [zV 13 0,zV 14 2,zC 15 44 [.t 13,.t 14]]))
 (.seq (.reg [zV 16 7,zV 6 16])
 .ret)))))
def Xv:AF:=⟨17,[.t 6],c132⟩
def c133:AC:=(.seq (.reg [zo 2 (.mv (.c (.p0)))])
 (.seq (.cut [0] (.reg [zV 4 0,zC 5 14 [.t 4],zo 3 (.alloc 47),zS 47 3 5]))
 (.seq (.seq (.reg [zV 6 0,zC 7 42 [.t 6,.c (.s [40])]])
 (.cond (.t 7)
 (.seq (.cut [0] (.reg [zV 8 0,zC 9 132 [.t 8,.c (.s [40]),.c (.s [41])],zV 2 9]))
 .ret)
 .skip))
 (.seq (.seq (.cut [0,3] (.reg [zF 10 47 3 0,zL 11 3 10,zD 12 .eql 3 11 2,zV 13 12,eu 14 13 0,aZ 15 13 (.bn (.t 14)),aZ 16 13 (.eY 56 (.t 15) 3),aZ 17 13 (.load 4 (.t 16)),aZ 18 13 (.un .not (.t 17)),zo 19 (.pick (.t 13) (.t 18) (.c (.b false)))]))
 (.cond (.t 19)
 (.seq (.cut [0,3] (.reg [zV 20 0,zN 21 20,zF 22 56 21 1,zL 23 3 22,zD 24 .add 3 23 1,zN 25 20,zF 26 56 25 1,zS 3 26 24]))
 (.seq (.cut [3] (.jm [(zF 27 47 3 1,[]),(zL 28 9 27,[]),(zF 30 47 3 2,[]),(zL 31 3 30,[]),(zC 29 149 [.t 28],[zL 31 3 30]),(zo 32 (.build 68 [(0,.c (.i .i64 1)),(1,.t 29),(7,.t 31)]),[]),(zo 33 (.box 68 (.t 32)),[]),(zV 2 33,[])]))
 .ret))
 .skip))
 (.cut [1000000,0,3] (.seq (.cut [0,3] (.jm [(zV 34 0,[]),(zF 36 47 3 2,[]),(zL 37 3 36,[]),(zC 35 40 [.t 34],[zL 37 3 36]),(zo 38 (.build 68 [(0,.c (.i .i64 2)),(2,.t 35),(7,.t 37)]),[]),(zo 39 (.box 68 (.t 38)),[]),(zV 2 39,[])]))
 .ret))))))
def Xw:AF:=⟨40,[.t 2],c133⟩
def c136:AC:=(.seq (.cut [0,1,2] (.reg [zV 6 0,zV 7 1,zo 8 (.iM 77 1 [(0,.t 7)]),zC 9 84 [.t 6,.t 8]]))
 (.seq (.cut [0,2] (.reg [zV 10 0,zV 11 2,zC 12 137 [.t 10,.t 11,.c (.i .i64 1)]]))
 (.cut [0] (.reg [zV 13 0,zo 14 (.iM 77 1 [(0,.c (.s [59]))]),zC 15 84 [.t 13,.t 14]]))))
def Z_:AF:=⟨16,[],c136⟩
def Xx:AC:=(.seq (.reg [zB 55 .lss 3 54 53])
 (.seq (.cond (.t 55)
 .skip
 (.exit 1))
 (.seq (.blk 2
 (.seq (.cut [0,52,53,54] (.reg [zV 56 54,zo 57 (.mD 66 (.t 52) (.t 54)),zL 58 63 57,zV 6 56,zV 7 58]))
 (.seq (.seq (.reg [zV 59 6,zD 60 .gtr 3 59 0])
 (.cond (.t 60)
 (.cut [0,7,52,53,54] (.reg [zV 61 0,zo 62 (.iM 77 1 [(0,.c (.s [44,32]))]),zC 63 84 [.t 61,.t 62]]))
 .skip))
 (.cut [1000000,0,7,52,53,54] (.cut [0,7,52,53,54] (.reg [zV 64 0,zV 65 7,zC 66 137 [.t 64,.t 65,.c (.i .i64 1)]]))))))
 (.reg [zD 67 .add 3 54 1,zV 54 67]))))
def c137:AC:=(.seq (.seq (.reg [zV 8 1,zo 9 (.bin .eql 63 (.t 8) (.c (.p0)))])
 (.cond (.t 9)
 (.seq (.cut [0] (.reg [zV 10 0,zN 11 10,zF 12 116 11 2,zn (.store 4 (.t 12) (.c (.b true)))]))
 .ret)
 .skip))
 (.seq (.cut [0,1,2] (.reg [zV 13 1,zN 14 13,zF 15 68 14 0,zL 16 3 15]))
 (.blk 0
 (.seq (.reg [zD 21 .eql 3 16 1,zV 20 21])
 (.cond (.t 20)
 (.cut [0,1] (.reg [zV 22 0,zV 23 1,zN 24 23,zF 25 68 24 1,zL 26 65 25,zo 27 (.conv 65 79 (.t 26)),zC 28 153 [.t 27,.c (.i .i64 10)],zo 29 (.iM 77 1 [(0,.t 28)]),zC 30 84 [.t 22,.t 29]]))
 (.seq (.reg [zD 32 .eql 3 16 2,zV 31 32])
 (.cond (.t 31)
 (.cut [0,1] (.reg [zV 33 0,zV 34 1,zN 35 34,zF 36 68 35 2,zL 37 9 36,zo 38 (.iM 77 1 [(0,.t 37)]),zC 39 84 [.t 33,.t 38]]))
 (.seq (.reg [zD 41 .eql 3 16 4,zV 40 41])
 (.cond (.t 40)
 (.seq (.cut [0,1] (.reg [zV 42 0,zV 43 1,zN 44 43,zF 45 68 44 2,zL 46 9 45,zo 47 (.iM 77 2 [(0,.t 46),(1,.c (.s [40]))]),zC 48 84 [.t 42,.t 47]]))
 (.seq (.seq (.cut [0,1] (.reg [zV 49 1,zN 50 49,zF 51 68 50 6,zL 52 66 51,zo 53 (.len 66 (.t 52)),zo 54 (.mv (.c (.i .i64 0)))]))
 (.blk 1
 (.loop [0,52,53,54] Xx)))
 (.cut [0] (.reg [zV 68 0,zo 69 (.iM 77 1 [(0,.c (.s [41]))]),zC 70 84 [.t 68,.t 69]]))))
 (.seq (.reg [zD 72 .eql 3 16 5,zV 71 72])
 (.cond (.t 71)
 (.seq (.cut [0,1] (.reg [zV 73 0,zV 74 1,zN 75 74,zF 76 68 75 4,zL 77 63 76,zC 78 137 [.t 73,.t 77,.c (.i .i64 8)]]))
 (.cut [1000000,0,1] (.seq (.cut [0,1] (.reg [zV 79 0,zo 80 (.iM 77 1 [(0,.c (.s [91]))]),zC 81 84 [.t 79,.t 80]]))
 (.seq (.cut [0,1] (.reg [zV 82 0,zV 83 1,zN 84 83,zF 85 68 84 5,zL 86 63 85,zC 87 137 [.t 82,.t 86,.c (.i .i64 1)]]))
 (.cut [0] (.reg [zV 88 0,zo 89 (.iM 77 1 [(0,.c (.s [93]))]),zC 90 84 [.t 88,.t 89]]))))))
 (.seq (.reg [zD 92 .eql 3 16 6,zV 91 92])
 (.cut [1000000,0,1,2,16,91] (.cond (.t 91)
 (.seq (.cut [0,1] (.reg [zV 93 0,zV 94 1,zN 95 94,zF 96 68 95 4,zL 97 63 96,zC 98 137 [.t 93,.t 97,.c (.i .i64 8)]]))
 (.seq (.cut [0,1] (.reg [zV 99 0,zo 100 (.iM 77 1 [(0,.c (.s [58]))]),zC 101 84 [.t 99,.t 100]]))
 (.seq (.seq (.cut [0,1] (.reg [zV 102 1,zN 103 102,zF 104 68 103 5,zL 105 63 104,zo 106 (.bin .neq 63 (.t 105) (.c (.p0))),zV 107 106,eu 108 107 1,aZ 109 107 (.bn (.t 108)),aZ 110 107 (.eY 68 (.t 109) 5),aZ 111 107 (.load 63 (.t 110)),aZ 112 107 (.bn (.t 111)),aZ 113 107 (.eY 68 (.t 112) 0),aZ 114 107 (.load 3 (.t 113)),aZ 115 107 (.bin .eql 3 (.t 114) (.c (.i .i64 1))),eu 116 107 115,gY 117 116 1,bY 118 116 (.bn (.t 117)),bY 119 116 (.eY 68 (.t 118) 5),bY 120 116 (.load 63 (.t 119)),bY 121 116 (.bn (.t 120)),bY 122 116 (.eY 68 (.t 121) 0),bY 123 116 (.load 3 (.t 122)),bY 124 116 (.bin .eql 3 (.t 123) (.c (.i .i64 2))),aZ 125 107 (.pick (.t 116) (.c (.b true)) (.t 124)),zo 126 (.pick (.t 107) (.t 125) (.c (.b false)))]))
 (.cut [1000000,0,1,126] (.cond (.t 126)
 (.seq (.cut [0,1] (.reg [zV 127 0,zV 128 1,zN 129 128,zF 130 68 129 5,zL 131 63 130,zC 132 137 [.t 127,.t 131,.c (.i .i64 8)]]))
 .ret)
 .skip)))
 (.seq (.cut [0,1] (.reg [zV 133 0,zo 134 (.iM 77 1 [(0,.c (.s [40]))]),zC 135 84 [.t 133,.t 134]]))
 (.seq (.cut [0,1] (.reg [zV 136 0,zV 137 1,zN 138 137,zF 139 68 138 5,zL 140 63 139,zC 141 137 [.t 136,.t 140,.c (.i .i64 1)]]))
 (.cut [0] (.reg [zV 142 0,zo 143 (.iM 77 1 [(0,.c (.s [41]))]),zC 144 84 [.t 142,.t 143]])))))))
 (.seq (.reg [zD 146 .eql 3 16 7,zV 145 146])
 (.cond (.t 145)
 (.seq (.cut [0,1] (.reg [zV 147 0,zo 148 (.iM 77 1 [(0,.c (.s [110,101,119,40]))]),zC 149 84 [.t 147,.t 148]]))
 (.seq (.cut [0,1] (.reg [zV 150 0,zV 151 1,zN 152 151,zF 153 68 152 4,zL 154 63 153,zC 155 137 [.t 150,.t 154,.c (.i .i64 1)]]))
 (.cut [0] (.reg [zV 156 0,zo 157 (.iM 77 1 [(0,.c (.s [41]))]),zC 158 84 [.t 156,.t 157]]))))
 (.seq (.reg [zD 160 .eql 3 16 8,zV 159 160])
 (.cond (.t 159)
 (.cut [0] (.reg [zV 161 0,zo 162 (.iM 77 1 [(0,.c (.s [105,110,40,41]))]),zC 163 84 [.t 161,.t 162]]))
 (.seq (.reg [zD 165 .eql 3 16 3,zV 164 165])
 (.cond (.t 164)
 (.cut [0,1,2] (.reg [zV 166 0,zV 167 1,zV 168 2,zC 169 154 [.t 166,.t 167,.t 168]]))
 (.cut [0] (.reg [zV 17 0,zN 18 17,zF 19 116 18 2,zn (.store 4 (.t 19) (.c (.b true)))]))))))))))))))))))))))
def aac:AF:=⟨170,[],c137⟩
def c139:AC:=(.seq (.reg [zo 6 (.mv (.c (.b false)))])
 (.seq (.seq (.cut [0,1,2] (.reg [zV 7 0,zo 8 (.bin .eql 121 (.t 7) (.c (.p0))),zV 9 8,gY 10 9 1,bY 11 9 (.bin .eql 121 (.t 10) (.c (.p0))),zo 12 (.pick (.t 9) (.c (.b true)) (.t 11))]))
 (.cond (.t 12)
 (.seq (.cut [0,1] (.reg [zV 13 0,zo 14 (.bin .eql 121 (.t 13) (.c (.p0))),zV 15 14,eu 16 15 1,aZ 17 15 (.bin .eql 121 (.t 16) (.c (.p0))),zo 18 (.pick (.t 15) (.t 17) (.c (.b false))),zV 6 18]))
 .ret)
 .skip))
 (.seq (.cut [0,1,2] (.reg [zV 19 2,zV 20 0,zV 21 1,zo 22 (.call (.t 19) [.t 20,.t 21]),zV 6 22]))
 .ret)))
def aad:AF:=⟨23,[.t 6],c139⟩
def c140:AC:=(.seq (.reg [zo 4 (.mv (.c (.b false)))])
 (.seq (.cut [0,1] (.jm [(zV 6 0,[]),(zN 7 6,[]),(zF 8 120 7 0,[]),(zL 9 3 8,[]),(zV 10 1,[]),(zN 11 10,[]),(zF 12 120 11 0,[]),(zL 13 3 12,[]),(zB 14 .eql 3 9 13,[]),(zV 15 14,[]),(eu 16 15 0,[]),(aZ 17 15 (.bn (.t 16)),[]),(aZ 18 15 (.eY 120 (.t 17) 1),[]),(aZ 19 15 (.load 9 (.t 18)),[]),(eu 20 15 1,[]),(aZ 21 15 (.bn (.t 20)),[]),(aZ 22 15 (.eY 120 (.t 21) 1),[]),(aZ 23 15 (.load 9 (.t 22)),[]),(aZ 24 15 (.bin .eql 9 (.t 19) (.t 23)),[]),(zo 25 (.pick (.t 15) (.t 24) (.c (.b false))),[]),(zV 26 25,[]),(eu 27 26 0,[]),(aZ 28 26 (.bn (.t 27)),[]),(aZ 29 26 (.eY 120 (.t 28) 2),[]),(aZ 30 26 (.load 4 (.t 29)),[]),(eu 31 26 1,[]),(aZ 32 26 (.bn (.t 31)),[]),(aZ 33 26 (.eY 120 (.t 32) 2),[]),(aZ 34 26 (.load 4 (.t 33)),[]),(aZ 35 26 (.bin .eql 4 (.t 30) (.t 34)),[]),(zo 36 (.pick (.t 26) (.t 35) (.c (.b false))),[]),(zV 5 36,[])]))
 (.cut [1000000,0,1,5] (.seq (.cut [0,1,5] (.jm [(zV 37 5,[]),(zV 38 37,[]),(eu 39 38 0,[]),(aZ 40 38 (.bn (.t 39)),[]),(aZ 41 38 (.eY 120 (.t 40) 3),[]),(aZ 42 38 (.load 63 (.t 41)),[]),(eu 43 38 1,[]),(aZ 44 38 (.bn (.t 43)),[]),(aZ 45 38 (.eY 120 (.t 44) 3),[]),(aZ 46 38 (.load 63 (.t 45)),[]),(aZ 47 38 (.call (.c (.fn (.func 141) [] [])) [.t 42,.t 46]),[]),(zo 48 (.pick (.t 38) (.t 47) (.c (.b false))),[]),(zV 49 48,[]),(eu 50 49 0,[]),(aZ 51 49 (.bn (.t 50)),[]),(aZ 52 49 (.eY 120 (.t 51) 4),[]),(aZ 53 49 (.load 63 (.t 52)),[]),(eu 54 49 1,[]),(aZ 55 49 (.bn (.t 54)),[]),(aZ 56 49 (.eY 120 (.t 55) 4),[]),(aZ 57 49 (.load 63 (.t 56)),[]),(aZ 58 49 (.call (.c (.fn (.func 141) [] [])) [.t 53,.t 57]),[]),(zo 59 (.pick (.t 49) (.t 58) (.c (.b false))),[]),(zV 60 59,[]),(eu 61 60 0,[]),(aZ 62 60 (.bn (.t 61)),[]),(aZ 63 60 (.eY 120 (.t 62) 5),[]),(aZ 64 60 (.load 83 (.t 63)),[]),(eu 65 60 1,[]),(aZ 66 60 (.bn (.t 65)),[]),(aZ 67 60 (.eY 120 (.t 66) 5),[]),(aZ 68 60 (.load 83 (.t 67)),[]),(aZ 69 60 (.call (.c (.fn (.func 117) [] [])) [.t 64,.t 68,.c (.fn (.func 118) [] [])]),[]),(zo 70 (.pick (.t 60) (.t 69) (.c (.b false))),[]),(zV 71 70,[]),(eu 72 71 0,[]),(aZ 73 71 (.bn (.t 72)),[]),(aZ 74 71 (.eY 120 (.t 73) 6),[]),(aZ 75 71 (.load 83 (.t 74)),[]),(eu 76 71 1,[]),(aZ 77 71 (.bn (.t 76)),[]),(aZ 78 71 (.eY 120 (.t 77) 6),[]),(aZ 79 71 (.load 83 (.t 78)),[]),(aZ 80 71 (.call (.c (.fn (.func 117) [] [])) [.t 75,.t 79,.c (.fn (.func 118) [] [])]),[]),(zo 81 (.pick (.t 71) (.t 80) (.c (.b false))),[]),(zV 4 81,[])]))
 (.cut [1000000,4] .ret)))))
def aae:AF:=⟨82,[.t 4],c140⟩
def c141:AC:=(.seq (.reg [zo 4 (.mv (.c (.b false)))])
 (.seq (.cut [0,1] (.reg [zV 5 0,zV 6 1,zC 7 155 [.t 5,.t 6,.c (.fn (.func 156) [] [])],zV 4 7]))
 .ret))
def aaf:AF:=⟨8,[.t 4],c141⟩
def c145:AC:=(.cut [0,1] (.jm [(zL 2 63 1,[]),(zL 3 39 0,[]),(zC 4 124 [.t 3],[zL 2 63 1]),(zN 5 2,[]),(zF 6 68 5 5,[]),(zS 63 6 4,[])]))
def Ut:AF:=⟨7,[],c145⟩
def c146:AC:=(.reg [zL 1 39 0,zC 2 31 [.t 1,.c (.s [41])]])
def Uu:AF:=⟨3,[],c146⟩
def c147:AC:=(.cut [0,1] (.jm [(zL 2 63 0,[]),(zL 3 63 0,[]),(zN 4 3,[]),(zF 5 68 4 6,[]),(zL 6 66 5,[]),(zL 7 39 1,[]),(zC 8 103 [.t 7,.c (.i .i64 1)],[zL 2 63 0,zL 3 63 0,zL 6 66 5]),(zo 9 (.iM 66 1 [(0,.t 8)]),[zL 2 63 0,zL 3 63 0,zL 6 66 5]),(zo 10 (.app 66 false (.t 6) (.t 9)),[zL 2 63 0]),(zN 11 2,[]),(zF 12 68 11 6,[]),(zS 66 12 10,[])]))
def Uw:AF:=⟨13,[],c147⟩
def c148:AC:=(.seq (.cut [0,1,2] (.reg [zL 3 39 0,zC 4 103 [.t 3,.c (.i .i64 1)],zS 63 1 4]))
 (.cut [0,2] (.reg [zL 5 39 0,zL 6 9 2,zC 7 31 [.t 5,.t 6]])))
def Ux:AF:=⟨8,[],c148⟩
def PD:AC:=(.seq (.seq (.cut [0,3,4] (.reg [zV 5 4,zV 6 0,zo 7 (.len 9 (.t 6)),zB 8 .lss 3 5 7]))
 (.cond (.t 8)
 .skip
 (.exit 0)))
 (.seq (.blk 1
 (.cut [0,3,4] (.reg [zV 11 3,zo 12 (.bin .mul 65 (.c (.i .u32 10)) (.t 11)),zV 13 0,zV 14 4,zo 15 (.idx 9 (.t 13) (.t 14)),zo 16 (.bin .sub 5 (.t 15) (.c (.i .u8 48))),zo 17 (.conv 5 65 (.t 16)),zB 18 .add 65 12 17,zV 3 18])))
 (.cut [0,3,4] (.reg [zV 9 4,zD 10 .add 3 9 1,zV 4 10]))))
def c149:AC:=(.seq (.reg [zo 2 (.mv (.c (.i .u32 0)))])
 (.seq (.reg [zo 3 (.mv (.c (.i .u32 0)))])
 (.seq (.seq (.reg [zo 4 (.mv (.c (.i .i64 0)))])
 (.blk 0
 (.loop [0,3,4] PD)))
 (.seq (.reg [zV 19 3,zV 2 19])
 .ret))))
def Xy:AF:=⟨20,[.t 2],c149⟩
def c153:AC:=(.seq (.reg [zo 4 (.mv (.c (.s [])))])
 (.seq (.cut [0,1] (.reg [zV 5 0,zV 6 1,zC 7 162 [.t 5,.t 6],zV 4 7]))
 .ret))
def aag:AF:=⟨8,[.t 4],c153⟩
def c154:AC:=(.seq (.seq (.reg [zo 6 (.mv (.c (.i .i64 7)))])
 (.seq (.seq (.cut [0,1,2,6,23,24] (.reg [zV 7 1,zN 8 7,zF 9 68 8 4,zL 10 63 9,zo 11 (.bin .neq 63 (.t 10) (.c (.p0)))]))
 (.cond (.t 11)
 (.cut [0,1,2,23,24] (.reg [zV 12 1,zN 13 12,zF 14 68 13 3,zL 15 9 14,zC 16 125 [.t 15],zV 6 16]))
 .skip))
 (.cut [1000000,0,1,2,6,23,24] (.seq (.seq (.cut [0,1,2,6,23,24] (.reg [zV 17 6,zV 18 2,zB 19 .lss 3 17 18]))
 (.cond (.t 19)
 (.seq (.cut [0,1,6,19] (.reg [zV 20 0,zo 21 (.iM 77 1 [(0,.c (.s [40]))]),zC 22 84 [.t 20,.t 21]]))
 (.reg [zV 23 0,zo 24 (.iM 77 1 [(0,.c (.s [41]))])]))
 .skip))
 (.cut [1000000,0,1,6,19,23,24] (.seq (.seq (.cut [0,1,6,19,23,24] (.reg [zV 25 1,zN 26 25,zF 27 68 26 4,zL 28 63 27,zo 29 (.bin .neq 63 (.t 28) (.c (.p0)))]))
 (.cond (.t 29)
 (.seq (.cut [0,1,6,19,23,24] (.reg [zV 30 0,zV 31 1,zN 32 31,zF 33 68 32 4,zL 34 63 33,zV 35 6,zC 36 137 [.t 30,.t 34,.t 35]]))
 (.seq (.cut [0,1,6,19,23,24] (.reg [zV 37 0,zV 38 1,zN 39 38,zF 40 68 39 3,zL 41 9 40,zo 42 (.iM 77 3 [(0,.c (.s [32])),(1,.t 41),(2,.c (.s [32]))]),zC 43 84 [.t 37,.t 42]]))
 (.cut [0,1,6,19,23,24] (.reg [zV 44 6,zD 45 .add 3 44 1,zV 6 45]))))
 (.cut [0,1,6,19,23,24] (.reg [zV 46 0,zV 47 1,zN 48 47,zF 49 68 48 3,zL 50 9 49,zo 51 (.iM 77 1 [(0,.t 50)]),zC 52 84 [.t 46,.t 51]]))))
 (.cut [1000000,0,1,6,19,23,24] (.cut [0,1,6,19,23,24] (.reg [zV 53 0,zV 54 1,zN 55 54,zF 56 68 55 5,zL 57 63 56,zV 58 6,zC 59 137 [.t 53,.t 57,.t 58]])))))))))
 (.cond (.t 19)
 (.reg [zn (.call (.c (.fn (.func 84) [] [])) [.t 23,.t 24])])
 .skip))
def aah:AF:=⟨60,[],c154⟩
def c155:AC:=(.seq (.reg [zo 6 (.mv (.c (.b false)))])
 (.seq (.seq (.cut [0,1,2] (.reg [zV 7 0,zo 8 (.bin .eql 63 (.t 7) (.c (.p0))),zV 9 8,gY 10 9 1,bY 11 9 (.bin .eql 63 (.t 10) (.c (.p0))),zo 12 (.pick (.t 9) (.c (.b true)) (.t 11))]))
 (.cond (.t 12)
 (.seq (.cut [0,1] (.reg [zV 13 0,zo 14 (.bin .eql 63 (.t 13) (.c (.p0))),zV 15 14,eu 16 15 1,aZ 17 15 (.bin .eql 63 (.t 16) (.c (.p0))),zo 18 (.pick (.t 15) (.t 17) (.c (.b false))),zV 6 18]))
 .ret)
 .skip))
 (.seq (.cut [0,1,2] (.reg [zV 19 2,zV 20 0,zV 21 1,zo 22 (.call (.t 19) [.t 20,.t 21]),zV 6 22]))
 .ret)))
def aai:AF:=⟨23,[.t 6],c155⟩
def c156:AC:=(.seq (.reg [zo 4 (.mv (.c (.b false)))])
 (.seq (.cut [0,1] (.jm [(zV 6 0,[]),(zN 7 6,[]),(zF 8 68 7 0,[]),(zL 9 3 8,[]),(zV 10 1,[]),(zN 11 10,[]),(zF 12 68 11 0,[]),(zL 13 3 12,[]),(zB 14 .eql 3 9 13,[]),(zV 15 14,[]),(eu 16 15 0,[]),(aZ 17 15 (.bn (.t 16)),[]),(aZ 18 15 (.eY 68 (.t 17) 1),[]),(aZ 19 15 (.load 65 (.t 18)),[]),(eu 20 15 1,[]),(aZ 21 15 (.bn (.t 20)),[]),(aZ 22 15 (.eY 68 (.t 21) 1),[]),(aZ 23 15 (.load 65 (.t 22)),[]),(aZ 24 15 (.bin .eql 65 (.t 19) (.t 23)),[]),(zo 25 (.pick (.t 15) (.t 24) (.c (.b false))),[]),(zV 26 25,[]),(eu 27 26 0,[]),(aZ 28 26 (.bn (.t 27)),[]),(aZ 29 26 (.eY 68 (.t 28) 2),[]),(aZ 30 26 (.load 9 (.t 29)),[]),(eu 31 26 1,[]),(aZ 32 26 (.bn (.t 31)),[]),(aZ 33 26 (.eY 68 (.t 32) 2),[]),(aZ 34 26 (.load 9 (.t 33)),[]),(aZ 35 26 (.bin .eql 9 (.t 30) (.t 34)),[]),(zo 36 (.pick (.t 26) (.t 35) (.c (.b false))),[]),(zV 37 36,[]),(eu 38 37 0,[]),(aZ 39 37 (.bn (.t 38)),[]),(aZ 40 37 (.eY 68 (.t 39) 3),[]),(aZ 41 37 (.load 9 (.t 40)),[]),(eu 42 37 1,[]),(aZ 43 37 (.bn (.t 42)),[]),(aZ 44 37 (.eY 68 (.t 43) 3),[]),(aZ 45 37 (.load 9 (.t 44)),[]),(aZ 46 37 (.bin .eql 9 (.t 41) (.t 45)),[]),(zo 47 (.pick (.t 37) (.t 46) (.c (.b false))),[]),(zV 5 47,[])]))
 (.cut [1000000,0,1,5] (.seq (.cut [0,1,5] (.jm [(zV 48 5,[]),(zV 49 48,[]),(eu 50 49 0,[]),(aZ 51 49 (.bn (.t 50)),[]),(aZ 52 49 (.eY 68 (.t 51) 6),[]),(aZ 53 49 (.load 66 (.t 52)),[]),(eu 54 49 1,[]),(aZ 55 49 (.bn (.t 54)),[]),(aZ 56 49 (.eY 68 (.t 55) 6),[]),(aZ 57 49 (.load 66 (.t 56)),[]),(aZ 58 49 (.call (.c (.fn (.func 157) [] [])) [.t 53,.t 57,.c (.fn (.func 141) [] [])]),[]),(zo 59 (.pick (.t 49) (.t 58) (.c (.b false))),[]),(zV 60 59,[]),(eu 61 60 0,[]),(aZ 62 60 (.bn (.t 61)),[]),(aZ 63 60 (.eY 68 (.t 62) 4),[]),(aZ 64 60 (.load 63 (.t 63)),[]),(eu 65 60 1,[]),(aZ 66 60 (.bn (.t 65)),[]),(aZ 67 60 (.eY 68 (.t 66) 4),[]),(aZ 68 60 (.load 63 (.t 67)),[]),(aZ 69 60 (.call (.c (.fn (.func 141) [] [])) [.t 64,.t 68]),[]),(zo 70 (.pick (.t 60) (.t 69) (.c (.b false))),[]),(zV 71 70,[]),(eu 72 71 0,[]),(aZ 73 71 (.bn (.t 72)),[]),(aZ 74 71 (.eY 68 (.t 73) 5),[]),(aZ 75 71 (.load 63 (.t 74)),[]),(eu 76 71 1,[]),(aZ 77 71 (.bn (.t 76)),[]),(aZ 78 71 (.eY 68 (.t 77) 5),[]),(aZ 79 71 (.load 63 (.t 78)),[]),(aZ 80 71 (.call (.c (.fn (.func 141) [] [])) [.t 75,.t 79]),[]),(zo 81 (.pick (.t 71) (.t 80) (.c (.b false))),[]),(zV 4 81,[])]))
 .ret))))
def aaj:AF:=⟨82,[.t 4],c156⟩
def Xz:AC:=(.seq (.reg [zB 18 .lss 3 17 16])
 (.seq (.cond (.t 18)
 .skip
 (.exit 0))
 (.seq (.blk 1
 (.seq (.cut [1,2,15,16,17] (.reg [zV 19 17,zo 20 (.mD 66 (.t 15) (.t 17)),zL 21 63 20,zV 7 19,zV 8 21]))
 (.seq (.cut [1,2,7,8,15,16,17] (.reg [zV 22 1,zV 23 7,zo 24 (.mD 66 (.t 22) (.t 23)),zL 25 63 24,zV 9 25]))
 (.seq (.cut [1,2,8,9,15,16,17] (.reg [zV 26 2,zV 27 8,zV 28 9,zo 29 (.call (.t 26) [.t 27,.t 28]),zo 30 (.un .not (.t 29))]))
 (.cond (.t 30)
 (.seq (.reg [zo 6 (.mv (.c (.b false)))])
 .ret)
 .skip)))))
 (.reg [zD 31 .add 3 17 1,zV 17 31]))))
def c157:AC:=(.seq (.reg [zo 6 (.mv (.c (.b false)))])
 (.seq (.seq (.cut [0,1,2] (.reg [zV 10 0,zo 11 (.len 66 (.t 10)),zV 12 1,zo 13 (.len 66 (.t 12)),zB 14 .neq 3 11 13]))
 (.cond (.t 14)
 (.seq (.reg [zo 6 (.mv (.c (.b false)))])
 .ret)
 .skip))
 (.seq (.seq (.cut [0,1,2] (.reg [zV 15 0,zo 16 (.len 66 (.t 15)),zo 17 (.mv (.c (.i .i64 0)))]))
 (.blk 0
 (.loop [1,2,15,16,17] Xz)))
 (.seq (.reg [zo 6 (.mv (.c (.b true)))])
 .ret))))
def aak:AF:=⟨32,[.t 6],c157⟩
def c194:AC:=(.seq (.reg [zo 2 (.mv (.c (.fM)))])
 (.seq (.seq (.reg [zV 3 0,zo 4 (.bin .eql 40 (.t 3) (.c (.p0)))])
 (.cond (.t 4)
 (.seq (.reg [zo 2 (.mv (.c (.fM)))])
 .ret)
 .skip))
 (.seq (.cut [0] (.reg [zV 5 0,zN 6 5,zF 7 29 6 0,zL 8 27 7,zo 9 (.Me 27 (.t 8)),zV 2 9]))
 .ret)))
def XA:AF:=⟨10,[.t 2],c194⟩
def fns:Nat→Option AF
 | 2=>some F2
 | 3=>some F3
 | 4=>some F4
 | 5=>some F5
 | 6=>some F6
 | 7=>some F7
 | 8=>some F8
 | 9=>some F9
 | 10=>some F10
 | 11=>some F11
 | 12=>some F12
 | 13=>some F13
 | 14=>some F14
 | 15=>some F15
 | 17=>some F17
 | 18=>some ZF
 | 19=>some F19
 | 20=>some F20
 | 21=>some F21
 | 22=>some F22
 | 23=>some F23
 | 25=>some F25
 | 26=>some F26
 | 27=>some F27
 | 28=>some F28
 | 30=>some F30
 | 31=>some F31
 | 32=>some F32
 | 33=>some ZH
 | 34=>some F34
 | 35=>some F35
 | 36=>some F36
 | 37=>some F37
 | 38=>some F38
 | 39=>some F39
 | 40=>some F40
 | 41=>some F41
 | 42=>some F42
 | 43=>some F43
 | 44=>some F44
 | 45=>some F45
 | 51=>some F51
 | 52=>some F52
 | 53=>some F53
 | 54=>some F54
 | 56=>some F56
 | 57=>some F57
 | 58=>some F58
 | 59=>some F59
 | 61=>some F61
 | 62=>some F62
 | 63=>some F63
 | 66=>some F66
 | 67=>some F67
 | 68=>some F68
 | 69=>some Xj
 | 70=>some F70
 | 71=>some ZP
 | 72=>some F72
 | 73=>some F73
 | 74=>some F74
 | 75=>some F75
 | 76=>some F76
 | 77=>some F77
 | 78=>some F78
 | 79=>some F79
 | 80=>some F80
 | 83=>some ZQ
 | 84=>some F84
 | 85=>some F85
 | 86=>some F86
 | 87=>some F87
 | 88=>some F88
 | 89=>some F89
 | 90=>some F90
 | 91=>some F91
 | 93=>some F93
 | 102=>some Xk
 | 103=>some Ui
 | 104=>some Xl
 | 105=>some Uj
 | 106=>some Xm
 | 107=>some Uk
 | 108=>some Xn
 | 109=>some Xo
 | 110=>some Ul
 | 111=>some ZV
 | 112=>some ZW
 | 113=>some ZX
 | 114=>some ZY
 | 115=>some Z4
 | 116=>some Z5
 | 117=>some Z7
 | 118=>some Z8
 | 119=>some Z9
 | 124=>some Um
 | 125=>some Xr
 | 126=>some Un
 | 127=>some Xt
 | 128=>some Uo
 | 129=>some Ur
 | 130=>some Xu
 | 131=>some Us
 | 132=>some Xv
 | 133=>some Xw
 | 136=>some Z_
 | 137=>some aac
 | 139=>some aad
 | 140=>some aae
 | 141=>some aaf
 | 145=>some Ut
 | 146=>some Uu
 | 147=>some Uw
 | 148=>some Ux
 | 149=>some Xy
 | 153=>some aag
 | 154=>some aah
 | 155=>some aai
 | 156=>some aaj
 | 157=>some aak
 | 194=>some XA
 | _=>none
end Go.bP.YthoodopjoaigdaaGreatDoor
