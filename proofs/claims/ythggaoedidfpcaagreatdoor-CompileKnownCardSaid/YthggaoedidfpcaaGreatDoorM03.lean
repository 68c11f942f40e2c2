/- Texts of this claim, joined: Code. -/
import Derived.Test.YthggaoedidfpcaaGreatDoorM01
set_option linter.unusedVariables false
set_option linter.unusedSimpArgs false
namespace Go.dX.YthggaoedidfpcaaGreatDoor
@[reducible] def zo (d:Nat) (o:dM):AI:=⟨some d,none,o⟩
@[reducible] def dn (d g:Nat) (o:dM):AI:=⟨some d,some (g,true),o⟩
@[reducible] def fC (d g:Nat) (o:dM):AI:=⟨some d,some (g,false),o⟩
@[reducible] def zn (o:dM):AI:=⟨none,none,o⟩
@[reducible] def zV (d a:Nat):AI:=⟨some d,none,.mv (.t a)⟩
@[reducible] def fM (d g a:Nat):AI:=⟨some d,some (g,true),.mv (.t a)⟩
@[reducible] def j_ (d g a:Nat):AI:=⟨some d,some (g,false),.mv (.t a)⟩
@[reducible] def zL (d t a:Nat):AI:=⟨some d,none,.load t (.t a)⟩
@[reducible] def zN (d a:Nat):AI:=⟨some d,none,.fF (.t a)⟩
@[reducible] def zF (d t a k:Nat):AI:=⟨some d,none,.mF t (.t a) k⟩
@[reducible] def zE (d a k:Nat):AI:=⟨some d,none,.ext (.t a) k⟩
@[reducible] def zS (t a b:Nat):AI:=⟨none,none,.store t (.t a) (.t b)⟩
@[reducible] def zC (d f:Nat) (l:List bT):AI:=⟨some d,none,.call (.c (.fn (.func f) [] [])) l⟩
@[reducible] def zB (d:Nat) (o:BinOp) (t a b:Nat):AI:=⟨some d,none,.bin o t (.t a) (.t b)⟩
@[reducible] def zD (d:Nat) (o:BinOp) (t a:Nat) (b:Int):AI:=⟨some d,none,.bin o t (.t a) (.c (.i .i64 b))⟩
def c3L0:AC:=(.seq (.reg [zB 20 .lss 3 19 18])
 (.seq (.cond (.t 20)
 .skip
 (.exit 0))
 (.seq (.blk 1
 (.seq (.cut [17,18,19] (.reg [zV 21 19,zo 22 (.iF 22 (.t 17) (.t 19)),zL 23 3 22,zV 1 21,zV 2 23]))
 (.seq (.cut [1,2,17,18,19] (.reg [zV 25 2,zC 26 4 [.c (.s [102,117,110,99,32,109,97,105,110,40,41,32,123,10,111,117,116,32,55,59,10,125]),.t 25],zV 24 26,zE 27 24 0,zE 28 24 1,zV 3 27,zV 4 28]))
 (.seq (.cut [1,4,17,18,19] (.reg [zV 29 4,zC 30 5 [.t 29,.c (.i .i64 2),.c (.i .i64 0)],zo 31 (.un .not (.t 30))]))
 (.cond (.t 31)
 (.seq (.cut [1] (.reg [zV 32 1,zD 33 .lss 3 32 0,zV 0 33]))
 .ret)
 .skip)))))
 (.reg [zD 34 .add 3 19 1,zV 19 34]))))
def c3:AC:=(.seq (.reg [zo 0 (.mv (.c (.b false)))])
 (.seq (.seq (.cut [] (.reg [zo 17 (.jo 22 5 [(0,.c (.i .i64 15)),(1,.c (.i .i64 1025)),(2,.c (.i .i64 (-1))),(3,.c (.i .i64 0)),(4,.c (.i .i64 4611686018427387904))]),zo 18 (.len 22 (.t 17)),zo 19 (.mv (.c (.i .i64 0)))]))
 (.blk 0
 (.loop [17,18,19] c3L0)))
 (.seq (.cut [] (.reg [zC 36 4 [.c (.s [102,117,110,99,32,109,97,105,110,40,41,32,123,10,111,117,116,32,55,10,125]),.c (.i .i64 16)],zV 35 36,zE 37 35 0,zE 38 35 1,zV 5 37,zV 6 38]))
 (.cut [1000000,6] (.seq (.cut [6] (.reg [zC 40 4 [.c (.s [102,117,110,99,32,109,97,105,110,40,41,32,123,10,111,117,116,32,120,59,10,125]),.c (.i .i64 16)],zV 39 40,zE 41 39 0,zE 42 39 1,zV 7 41,zV 8 42]))
 (.seq (.cut [6,8] (.reg [zC 44 4 [.c (.s []),.c (.i .i64 16)],zV 43 44,zE 45 43 0,zE 46 43 1,zV 9 45,zV 10 46]))
 (.seq (.cut [6,8,10] (.reg [zo 48 (.Kt 29 (.c (.i .i64 32769)) (.c (.i .i64 32769))),zo 49 (.conv 29 9 (.t 48)),zC 50 4 [.t 49,.c (.i .i64 16)],zV 47 50,zE 51 47 0,zE 52 47 1,zV 11 51,zV 12 52]))
 (.seq (.cut [6,8,10,12] (.reg [zC 54 6 [.c (.p0),.c (.i .i64 16)],zV 53 54,zE 55 53 0,zE 56 53 1,zo 13 (.alloc 33),zS 33 13 55,zV 14 56]))
 (.cut [1000000,6,8,10,12,14] (.seq (.cut [6,8,10,12,14] (.reg [zo 58 (.build 39 []),zo 59 (.box 39 (.t 58)),zC 60 6 [.t 59,.c (.i .i64 16)],zV 57 60,zE 61 57 0,zE 62 57 1,zo 15 (.alloc 33),zS 33 15 61,zV 16 62]))
 (.seq (.cut [6,8,10,12,14,16] (.reg [zV 63 6,zC 64 5 [.t 63,.c (.i .i64 4),.c (.i .i64 2)],zV 65 64,fM 66 65 8,dn 67 65 (.call (.c (.fn (.func 5) [] [])) [.t 66,.c (.i .i64 5),.c (.i .i64 1)]),zo 68 (.pick (.t 65) (.t 67) (.c (.b false))),zV 69 68,fM 70 69 10,dn 71 69 (.call (.c (.fn (.func 5) [] [])) [.t 70,.c (.i .i64 5),.c (.i .i64 0)]),zo 72 (.pick (.t 69) (.t 71) (.c (.b false))),zV 73 72,fM 74 73 12,dn 75 73 (.call (.c (.fn (.func 5) [] [])) [.t 74,.c (.i .i64 3),.c (.i .i64 0)]),zo 76 (.pick (.t 73) (.t 75) (.c (.b false))),zV 77 76,fM 78 77 14,dn 79 77 (.bin .eql 28 (.t 78) (.c (.i .i64 1))),zo 80 (.pick (.t 77) (.t 79) (.c (.b false))),zV 81 80,fM 82 81 16,dn 83 81 (.bin .eql 28 (.t 82) (.c (.i .i64 2))),zo 84 (.pick (.t 81) (.t 83) (.c (.b false))),zV 85 84,dn 86 85 (.call (.c (.fn (.func 7) [] [])) []),zo 87 (.pick (.t 85) (.t 86) (.c (.b false))),zV 0 87]))
 .ret)))))))))))
def F3:AF:=⟨88,[.t 0],c3⟩
def c4L0:AC:=(.seq (.reg [zB 18 .lss 3 17 16])
 (.seq (.cond (.t 18)
 .skip
 (.exit 0))
 (.seq (.blk 1
 (.seq (.cut [6,15,16,17] (.reg [zo 19 (.iF 44 (.t 15) (.t 17)),zL 20 48 19,zo 8 (.alloc 48),zS 48 8 20]))
 (.seq (.cut [6,8,15,16,17] (.reg [zF 21 48 8 0,zL 22 46 21,zV 23 6,zo 24 (.call (.t 22) [.t 23]),zV 9 24]))
 (.seq (.reg [zV 25 9,zo 26 (.bin .neq 24 (.t 25) (.c (.fK)))])
 (.cond (.t 26)
 (.seq (.reg [zo 10 (.alloc 49)])
 (.seq (.seq (.cut [9,10] (.reg [zV 27 9,zo 28 (.qG 51 (.t 10)),zC 29 9 [.t 27,.t 28]]))
 (.cond (.t 29)
 (.seq (.cut [10] (.gJ [(zL 30 49 10,[]),(zo 31 (.qG 49 (.t 30)),[]),(zo 4 (.mv (.c (.s []))),[]),(zV 5 31,[])]))
 .ret)
 .skip))
 (.seq (.cut [9] (.reg [zV 32 9,zo 4 (.mv (.c (.s []))),zV 5 32]))
 .ret)))
 .skip)))))
 (.reg [zD 33 .add 3 17 1,zV 17 33]))))
def c4:AC:=(.seq (.reg [zo 4 (.mv (.c (.s []))),zo 5 (.mv (.c (.fK)))])
 (.seq (.cut [0,1] (.reg [zV 11 0,zV 12 1,zo 13 (.build 43 [(0,.t 11),(1,.t 12)]),zo 14 (.box 43 (.t 13)),zV 6 14]))
 (.seq (.seq (.cut [6] (.reg [zC 15 8 [],zo 16 (.len 44 (.t 15)),zo 17 (.mv (.c (.i .i64 0)))]))
 (.blk 0
 (.loop [6,15,16,17] c4L0)))
 (.seq (.cut [6] (.reg [zV 34 6,zN 35 34,zF 36 43 35 3,zL 37 9 36,zV 4 37,zo 5 (.mv (.c (.fK)))]))
 .ret))))
def F4:AF:=⟨38,[.t 4,.t 5],c4⟩
def c5:AC:=(.seq (.reg [zo 6 (.mv (.c (.b false)))])
 (.seq (.reg [zo 7 (.alloc 49)])
 (.seq (.cut [0,1,2,7] (.reg [zV 8 0,zo 9 (.bin .neq 24 (.t 8) (.c (.fK))),zV 10 9,fM 11 10 0,dn 12 10 (.qG 51 (.t 7)),dn 13 10 (.call (.c (.fn (.func 9) [] [])) [.t 11,.t 12]),zo 14 (.pick (.t 10) (.t 13) (.c (.b false))),zV 15 14,dn 16 15 (.load 49 (.t 7)),dn 17 15 (.bin .neq 49 (.t 16) (.c (.p0))),zo 18 (.pick (.t 15) (.t 17) (.c (.b false))),zV 19 18,dn 20 19 (.load 49 (.t 7)),dn 21 19 (.fF (.t 20)),dn 22 19 (.mF 53 (.t 21) 0),dn 23 19 (.load 28 (.t 22)),fM 24 19 1,dn 25 19 (.bin .eql 28 (.t 23) (.t 24)),zo 26 (.pick (.t 19) (.t 25) (.c (.b false))),zV 27 26,dn 28 27 (.load 49 (.t 7)),dn 29 27 (.fF (.t 28)),dn 30 27 (.mF 53 (.t 29) 1),dn 31 27 (.load 3 (.t 30)),fM 32 27 2,dn 33 27 (.bin .eql 3 (.t 31) (.t 32)),zo 34 (.pick (.t 27) (.t 33) (.c (.b false))),zV 35 34,fM 36 35 0,fM 37 35 1,dn 38 35 (.qG 28 (.t 37)),dn 39 35 (.call (.c (.fn (.func 10) [] [])) [.t 36,.t 38]),zo 40 (.pick (.t 35) (.t 39) (.c (.b false))),zV 6 40]))
 .ret)))
def F5:AF:=⟨41,[.t 6],c5⟩
def c6:AC:=(.seq (.reg [zo 4 (.alloc 33),zo 5 (.mv (.c (.i .i64 0)))])
 (.seq (.cut [0,1,4] (.reg [zV 12 0,zC 13 11 [.t 12],zV 11 13,zE 14 11 0,zE 15 11 1,zV 6 14,zV 7 15]))
 (.seq (.seq (.reg [zV 16 7,zD 17 .neq 28 16 0])
 (.cond (.t 17)
 (.seq (.cut [4,7] (.reg [zo 18 (.build 33 []),zV 19 7,zS 33 4 18,zV 5 19]))
 .ret)
 .skip))
 (.seq (.cut [0,1,4,6] (.reg [zV 21 0,zC 22 12 [.t 21],zV 20 22,zE 23 20 0,zE 24 20 1,zV 8 23,zV 7 24]))
 (.seq (.seq (.reg [zV 25 7,zD 26 .neq 28 25 0])
 (.cond (.t 26)
 (.seq (.cut [4,7] (.reg [zo 27 (.build 33 []),zV 28 7,zS 33 4 27,zV 5 28]))
 .ret)
 .skip))
 (.cut [1000000,1,4,6,8] (.seq (.cut [1,4,6,8] (.reg [zV 29 1,zV 30 8,zV 31 6,zo 32 (.jo 30 1 [(0,.c (.i .u32 0))]),zo 33 (.build 33 [(0,.t 29),(1,.t 30),(3,.t 31),(6,.t 32)]),zo 9 (.alloc 33),zS 33 9 33]))
 (.seq (.seq (.cut [4,9] (.reg [zL 34 33 9,zC 35 13 [.t 34],zV 10 35]))
 (.seq (.reg [zV 36 10,zD 37 .neq 28 36 0])
 (.cond (.t 37)
 (.seq (.cut [4,10] (.reg [zo 38 (.build 33 []),zV 39 10,zS 33 4 38,zV 5 39]))
 .ret)
 .skip)))
 (.seq (.cut [4,9] (.reg [zL 40 33 9,zS 33 4 40,zo 5 (.mv (.c (.i .i64 0)))]))
 .ret)))))))))
def F6:AF:=⟨41,[.cell 4 33,.t 5],c6⟩
def c7:AC:=(.seq (.reg [zo 0 (.mv (.c (.b false)))])
 (.seq (.cut [] (.reg [zC 6 4 [.c (.s [102,117,110,99,32,109,97,105,110,40,41,32,123,10,111,117,116,32,55,59,10,125]),.c (.i .i64 16)],zV 5 6,zE 7 5 0,zE 8 5 1,zV 1 7,zV 2 8]))
 (.seq (.cut [1,2] (.reg [zV 10 1,zC 11 14 [.t 10],zV 9 11,zE 12 9 0,zE 13 9 1,zo 3 (.alloc 33),zS 33 3 12,zV 4 13]))
 (.seq (.cut [2,3,4] (.reg [zV 14 2,zo 15 (.bin .eql 24 (.t 14) (.c (.fK))),zV 16 15,fM 17 16 4,dn 18 16 (.bin .eql 28 (.t 17) (.c (.i .i64 0))),zo 19 (.pick (.t 16) (.t 18) (.c (.b false))),zV 20 19,dn 21 20 (.mF 33 (.t 3) 0),dn 22 20 (.load 3 (.t 21)),dn 23 20 (.bin .eql 3 (.t 22) (.c (.i .i64 16))),zo 24 (.pick (.t 20) (.t 23) (.c (.b false))),zV 25 24,dn 26 25 (.mF 33 (.t 3) 3),dn 27 25 (.load 30 (.t 26)),dn 28 25 (.len 30 (.t 27)),dn 29 25 (.bin .gtr 3 (.t 28) (.c (.i .i64 0))),zo 30 (.pick (.t 25) (.t 29) (.c (.b false))),zV 31 30,dn 32 31 (.mF 33 (.t 3) 6),dn 33 31 (.load 30 (.t 32)),dn 34 31 (.len 30 (.t 33)),dn 35 31 (.bin .eql 3 (.t 34) (.c (.i .i64 1))),zo 36 (.pick (.t 31) (.t 35) (.c (.b false))),zV 0 36]))
 .ret))))
def F7:AF:=⟨37,[.t 0],c7⟩
def c8:AC:=(.seq (.reg [zo 0 (.mv (.c (.sl0)))])
 (.seq (.cut [] (.reg [zo 1 (.build 48 [(0,.c (.fn (.func 15) [] []))]),zo 2 (.build 48 [(0,.c (.fn (.func 17) [] []))]),zo 3 (.build 48 [(0,.c (.fn (.func 19) [] []))]),zo 4 (.jo 44 3 [(0,.t 1),(1,.t 2),(2,.t 3)]),zV 0 4]))
 .ret))
def F8:AF:=⟨5,[.t 0],c8⟩
def c10:AC:=(.seq (.reg [zo 4 (.mv (.c (.b false)))])
 (.seq (.seq (.cut [0,1] (.reg [zV 6 0,zo 7 (.bin .eql 24 (.t 6) (.c (.fK))),zV 8 7,j_ 9 8 1,fC 10 8 (.bin .eql 24 (.t 9) (.c (.fK))),zo 11 (.pick (.t 8) (.c (.b true)) (.t 10))]))
 (.cond (.t 11)
 (.seq (.cut [0,1] (.reg [zV 12 0,zV 13 1,zB 14 .eql 24 12 13,zV 4 14]))
 .ret)
 .skip))
 (.seq (.cut [0,1] (.reg [zV 15 1,zC 16 25 [.t 15],zo 17 (.inv (.t 16) "Comparable" []),zV 5 17]))
 (.seq (.cut [0,1,5] (.reg [zV 18 0,zV 19 1,zV 20 5,zC 21 26 [.t 18,.t 19,.t 20],zV 4 21]))
 .ret))))
def F10:AF:=⟨22,[.t 4],c10⟩
def c11:AC:=(.seq (.reg [zo 2 (.mv (.c (.sl0))),zo 3 (.mv (.c (.i .i64 0)))])
 (.seq (.cut [0] (.reg [zV 8 0,zC 9 27 [.t 8],zV 7 9,zE 10 7 0,zE 11 7 1,zE 12 7 2,zV 4 10,zV 5 11,zV 6 12]))
 (.seq (.cut [4,6] (.reg [zV 13 4,zV 14 6,zV 2 13,zV 3 14]))
 .ret)))
def F11:AF:=⟨15,[.t 2,.t 3],c11⟩
def c12:AC:=(.seq (.reg [zo 2 (.mv (.c (.i .i64 0))),zo 3 (.mv (.c (.i .i64 0)))])
 (.seq (.cut [0] (.reg [zV 8 0,zC 9 27 [.t 8],zV 7 9,zE 10 7 0,zE 11 7 1,zE 12 7 2,zV 4 10,zV 5 11,zV 6 12]))
 (.seq (.cut [5,6] (.reg [zV 13 5,zV 14 6,zV 2 13,zV 3 14]))
 .ret)))
def F12:AF:=⟨15,[.t 2,.t 3],c12⟩
def c13:AC:=(.seq (.reg [zo 1 (.box 33 (.t 0)),zo 2 (.mv (.c (.i .i64 0)))])
 (.seq (.cut [1] (.reg [zL 6 33 1,zC 7 28 [.t 6],zV 5 7,zE 8 5 0,zE 9 5 1,zo 3 (.alloc 86),zS 86 3 8,zV 4 9]))
 (.seq (.reg [zV 10 4,zV 2 10])
 .ret)))
def F13:AF:=⟨11,[.t 2],c13⟩
def c14:AC:=(.seq (.reg [zo 2 (.alloc 33),zo 3 (.mv (.c (.i .i64 0)))])
 (.seq (.cut [0,2] (.reg [zV 11 0,zC 12 29 [.t 11],zo 4 (.alloc 89),zS 89 4 12]))
 (.seq (.reg [zo 5 (.alloc 4),zn (.store 4 (.t 5) (.c (.b true)))])
 (.seq (.cut [2,4,5] (.reg [zo 13 (.rQ (.func 30) [] [.t 4,.t 5]),zo 6 (.alloc 93),zS 93 6 13]))
 (.seq (.reg [zo 14 (.rQ (.func 32) [] [.t 6,.t 5]),zV 7 14])
 (.seq (.cut [2,4,5,6,7] (.gJ [(zL 15 93 6,[]),(zL 18 93 6,[]),(zL 21 93 6,[]),(zo 16 (.call (.t 15) [.c (.i .i64 4)]),[zL 18 93 6,zL 21 93 6]),(zo 17 (.wu true 59 3 (.t 16)),[]),(zo 19 (.call (.t 18) [.c (.i .i64 4)]),[zL 21 93 6]),(zo 20 (.wu true 59 3 (.t 19)),[]),(zo 22 (.call (.t 21) [.c (.i .i64 4)]),[]),(zo 23 (.wu true 59 3 (.t 22)),[]),(zo 24 (.build 33 [(0,.t 17),(1,.t 20),(2,.t 23)]),[]),(zo 8 (.alloc 33),[zL 15 93 6,zL 18 93 6,zL 21 93 6]),(zS 33 8 24,[])]))
 (.cut [1000000,2,4,5,6,7,8] (.seq (.cut [2,4,5,6,7,8] (.reg [zV 25 7,zo 26 (.rQ (.func 33) [] [.t 8,.t 6]),zo 27 (.call (.t 25) [.c (.i .i64 4096),.t 26])]))
 (.seq (.cut [2,4,5,6,7,8] (.gJ [(zL 29 89 4,[]),(zL 30 93 6,[]),(zo 31 (.call (.t 30) [.c (.i .i64 4)]),[zL 29 89 4]),(zo 32 (.wu true 59 3 (.t 31)),[]),(zC 33 34 [.t 29,.t 32],[]),(zV 28 33,[]),(zE 34 28 0,[]),(zE 35 28 1,[]),(zV 9 34,[]),(zV 10 35,[])]))
 (.seq (.cut [2,4,5,6,7,8,9,10] (.reg [zL 36 4 5,zV 37 36,fM 38 37 10,zo 39 (.pick (.t 37) (.t 38) (.c (.b false))),zS 4 5 39]))
 (.seq (.cut [2,4,5,6,7,8,9] (.reg [zV 40 9,zF 41 33 8 4,zS 9 41 40]))
 (.seq (.cut [2,4,5,6,7,8] (.reg [zV 42 7,zo 43 (.rQ (.func 35) [] [.t 6,.t 5,.t 8]),zo 44 (.call (.t 42) [.c (.i .i64 256),.t 43])]))
 (.seq (.cut [2,4,5,6,7,8] (.reg [zV 45 7,zo 46 (.rQ (.func 36) [] [.t 8,.t 6]),zo 47 (.call (.t 45) [.c (.i .i64 4),.t 46])]))
 (.cut [1000000,2,4,5,8] (.seq (.seq (.cut [2,4,5,8] (.reg [zL 48 4 5,zo 49 (.un .not (.t 48)),zV 50 49,fC 51 50 (.load 89 (.t 4)),fC 52 50 (.call (.c (.fn (.func 37) [] [])) [.t 51]),fC 53 50 (.bin .neq 3 (.t 52) (.c (.i .i64 0))),zo 54 (.pick (.t 50) (.c (.b true)) (.t 53)),zV 55 54,fC 56 55 (.load 33 (.t 8)),fC 57 55 (.call (.c (.fn (.func 13) [] [])) [.t 56]),fC 58 55 (.bin .neq 28 (.t 57) (.c (.i .i64 0))),zo 59 (.pick (.t 55) (.c (.b true)) (.t 58))]))
 (.cond (.t 59)
 (.seq (.cut [2] (.reg [zo 60 (.build 33 []),zS 33 2 60,zo 3 (.mv (.c (.i .i64 4)))]))
 .ret)
 .skip))
 (.seq (.cut [2,8] (.reg [zL 61 33 8,zS 33 2 61,zo 3 (.mv (.c (.i .i64 0)))]))
 .ret))))))))))))))))
def F14:AF:=⟨62,[.cell 2 33,.t 3],c14⟩
def c15:AC:=(.seq (.reg [zo 2 (.mv (.c (.fK)))])
 (.seq (.cut [0] (.reg [zV 4 0,zV 5 0,zN 6 5,zF 7 43 6 0,zL 8 9 7,zC 9 16 [.t 8],zV 3 9,zE 10 3 0,zE 11 3 1,zN 12 4,zF 13 43 12 2,zS 36 13 10,zV 2 11]))
 (.seq (.reg [zV 14 2,zV 2 14])
 .ret)))
def F15:AF:=⟨15,[.t 2],c15⟩
def c16L0:AC:=(.seq (.seq (.cut [6,7] (.reg [zV 21 6,zC 22 39 [.t 21],zo 23 (.un .not (.t 22)),zV 24 23,fM 25 24 6,dn 26 24 (.call (.c (.fn (.func 40) [] [])) [.t 25]),dn 27 24 (.J9 108 (.t 26) 0),dn 28 24 (.bin .neq 3 (.t 27) (.c (.i .i64 5))),zo 29 (.pick (.t 24) (.t 28) (.c (.b false)))]))
 (.cond (.t 29)
 .skip
 (.exit 0)))
 (.blk 1
 (.cut [6,7] (.gJ [(zV 30 7,[]),(zV 31 7,[]),(zN 32 31,[]),(zF 33 39 32 0,[]),(zL 34 37 33,[]),(zV 35 6,[]),(zC 36 41 [.t 35],[zL 34 37 33]),(zo 37 (.jo 37 1 [(0,.t 36)]),[zL 34 37 33]),(zo 38 (.app 37 false (.t 34) (.t 37)),[]),(zN 39 30,[]),(zF 40 39 39 0,[]),(zS 37 40 38,[])]))))
def c16:AC:=(.seq (.reg [zo 2 (.mv (.c (.p0))),zo 3 (.mv (.c (.fK)))])
 (.seq (.cut [0] (.reg [zV 9 0,zC 10 38 [.t 9],zV 8 10,zE 11 8 0,zE 12 8 1,zV 4 11,zV 5 12]))
 (.seq (.seq (.reg [zV 13 5,zo 14 (.bin .neq 24 (.t 13) (.c (.fK)))])
 (.cond (.t 14)
 (.seq (.cut [5] (.reg [zV 15 5,zo 2 (.mv (.c (.p0))),zV 3 15]))
 .ret)
 .skip))
 (.seq (.cut [4] (.reg [zV 16 4,zo 17 (.build 106 [(0,.t 16)]),zo 18 (.box 106 (.t 17)),zV 6 18]))
 (.seq (.cut [6] (.reg [zo 19 (.build 39 []),zo 20 (.box 39 (.t 19)),zV 7 20]))
 (.seq (.blk 0
 (.loop [6,7] c16L0))
 (.seq (.seq (.reg [zV 41 6,zC 42 39 [.t 41]])
 (.cond (.t 42)
 (.seq (.cut [6] (.gJ [(zV 43 6,[]),(zN 44 43,[]),(zF 45 106 44 2,[]),(zL 46 49 45,[]),(zo 47 (.qG 49 (.t 46)),[]),(zo 2 (.mv (.c (.p0))),[]),(zV 3 47,[])]))
 .ret)
 .skip))
 (.seq (.cut [7] (.reg [zV 48 7,zV 2 48,zo 3 (.mv (.c (.fK)))]))
 .ret))))))))
def F16:AF:=⟨49,[.t 2,.t 3],c16⟩
def c17:AC:=(.seq (.reg [zo 2 (.mv (.c (.fK)))])
 (.seq (.cut [0] (.reg [zV 3 0,zN 4 3,zF 5 43 4 2,zL 6 36 5,zC 7 18 [.t 6],zV 2 7]))
 .ret))
def F17:AF:=⟨8,[.t 2],c17⟩
def c18:AC:=(.seq (.reg [zo 2 (.mv (.c (.fK)))])
 (.seq (.seq (.cut [0] (.reg [zV 6 0,zC 7 42 [.t 6],zV 5 7,zE 8 5 0,zE 9 5 1,zV 3 8,zV 4 9]))
 (.seq (.reg [zV 10 4,zo 11 (.bin .neq 49 (.t 10) (.c (.p0)))])
 (.cond (.t 11)
 (.seq (.cut [4] (.reg [zV 12 4,zo 13 (.qG 49 (.t 12)),zV 2 13]))
 .ret)
 .skip)))
 (.seq (.reg [zo 2 (.mv (.c (.fK)))])
 .ret)))
def F18:AF:=⟨14,[.t 2],c18⟩
def c19:AC:=(.seq (.reg [zo 2 (.mv (.c (.fK)))])
 (.seq (.cut [0] (.gJ [(zV 6 0,[]),(zN 7 6,[]),(zF 8 43 7 2,[]),(zL 9 36 8,[]),(zV 10 0,[]),(zN 11 10,[]),(zF 12 43 11 1,[]),(zL 13 3 12,[]),(zC 14 6 [.t 9,.t 13],[]),(zV 5 14,[]),(zE 15 5 0,[]),(zE 16 5 1,[]),(zo 3 (.alloc 33),[zL 9 36 8,zL 13 3 12]),(zS 33 3 15,[]),(zV 4 16,[])]))
 (.seq (.seq (.reg [zV 17 4,zD 18 .neq 28 17 0])
 (.cond (.t 18)
 (.seq (.cut [4] (.reg [zV 19 4,zo 20 (.build 53 [(0,.t 19)]),zo 21 (.box 53 (.t 20)),zo 22 (.qG 49 (.t 21)),zV 2 22]))
 .ret)
 .skip))
 (.seq (.cut [0,3] (.reg [zV 24 0,zL 25 33 3,zC 26 20 [.t 25],zV 23 26,zE 27 23 0,zE 28 23 1,zN 29 24,zF 30 43 29 3,zS 9 30 27]))
 (.seq (.reg [zo 2 (.mv (.c (.fK)))])
 .ret)))))
def F19:AF:=⟨31,[.t 2],c19⟩
def c20L0:AC:=(.seq (.reg [zB 58 .lss 3 57 56])
 (.seq (.cond (.t 58)
 .skip
 (.exit 0))
 (.seq (.blk 1
 (.seq (.cut [1,5,6,55,56,57] (.reg [zo 59 (.iF 31 (.t 55) (.t 57)),zL 60 99 59,zo 8 (.alloc 99),zS 99 8 60]))
 (.seq (.cut [1,5,6,8,55,56,57] (.reg [zV 61 6,zF 62 99 8 0,zL 63 59 62,zF 64 99 8 2,zL 65 59 64,zF 66 99 8 3,zL 67 59 66,zo 68 (.jo 30 3 [(0,.t 63),(1,.t 65),(2,.t 67)]),zo 69 (.call (.t 61) [.c (.i .i64 4),.t 68])]))
 (.seq (.reg [zo 9 (.mv (.c (.i .u32 0)))])
 (.seq (.seq (.reg [zF 70 99 8 1,zL 71 4 70])
 (.cond (.t 71)
 (.reg [zo 9 (.mv (.c (.i .u32 1)))])
 .skip))
 (.cut [1000000,1,5,6,8,9,55,56,57] (.seq (.cut [1,5,6,8,9,55,56,57] (.reg [zV 72 6,zV 73 9,zo 74 (.jo 30 1 [(0,.t 73)]),zo 75 (.call (.t 72) [.c (.i .i64 1),.t 74])]))
 (.cut [1,5,6,8,55,56,57] (.reg [zV 76 6,zF 77 99 8 4,zL 78 97 77,zo 79 (.conv 97 59 (.t 78)),zF 80 99 8 5,zL 81 97 80,zo 82 (.conv 97 59 (.t 81)),zo 83 (.jo 30 2 [(0,.t 79),(1,.t 82)]),zo 84 (.call (.t 76) [.c (.i .i64 2),.t 83])])))))))))
 (.reg [zD 85 .add 3 57 1,zV 57 85]))))
def c20:AC:=(.seq (.cut [0] (.reg [zo 1 (.box 33 (.t 0)),zo 2 (.mv (.c (.s []))),zo 3 (.mv (.c (.i .i64 0)))]))
 (.seq (.seq (.cut [1] (.reg [zL 10 33 1,zC 11 13 [.t 10],zV 4 11]))
 (.seq (.reg [zV 12 4,zD 13 .neq 28 12 0])
 (.cond (.t 13)
 (.seq (.cut [4] (.reg [zV 14 4,zo 2 (.mv (.c (.s []))),zV 3 14]))
 .ret)
 .skip)))
 (.seq (.reg [zo 5 (.alloc 29)])
 (.seq (.reg [zo 15 (.rQ (.func 43) [] [.t 5]),zV 6 15])
 (.seq (.cut [1,5,6] (.reg [zV 16 6,zF 17 33 1 0,zL 18 3 17,zo 19 (.conv 3 59 (.t 18)),zF 20 33 1 1,zL 21 3 20,zo 22 (.conv 3 59 (.t 21)),zF 23 33 1 2,zL 24 3 23,zo 25 (.conv 3 59 (.t 24)),zF 26 33 1 3,zL 27 30 26,zo 28 (.len 30 (.t 27)),zo 29 (.conv 3 59 (.t 28)),zo 30 (.jo 30 4 [(0,.t 19),(1,.t 22),(2,.t 25),(3,.t 29)]),zo 31 (.call (.t 16) [.c (.i .i64 4),.t 30])]))
 (.cut [1000000,1,5,6] (.seq (.cut [1,5,6] (.reg [zV 32 6,zF 33 33 1 3,zL 34 30 33,zo 35 (.call (.t 32) [.c (.i .i64 4),.t 34])]))
 (.seq (.cut [1,5,6] (.reg [zV 36 6,zF 37 33 1 4,zL 38 9 37,zo 39 (.len 9 (.t 38)),zo 40 (.conv 3 59 (.t 39)),zo 41 (.jo 30 1 [(0,.t 40)]),zo 42 (.call (.t 36) [.c (.i .i64 4),.t 41])]))
 (.seq (.cut [1,5,6] (.reg [zL 43 29 5,zF 44 33 1 4,zL 45 9 44,zo 46 (.app 29 true (.t 43) (.t 45)),zS 29 5 46]))
 (.seq (.cut [1,5,6] (.reg [zV 47 6,zF 48 33 1 5,zL 49 31 48,zo 50 (.len 31 (.t 49)),zo 51 (.conv 3 59 (.t 50)),zo 52 (.jo 30 1 [(0,.t 51)]),zo 53 (.call (.t 47) [.c (.i .i64 4),.t 52])]))
 (.seq (.seq (.cut [1,5,6] (.reg [zF 54 33 1 5,zL 55 31 54,zo 56 (.len 31 (.t 55)),zo 57 (.mv (.c (.i .i64 0)))]))
 (.blk 0
 (.loop [1,5,6,55,56,57] c20L0)))
 (.seq (.cut [1,5,6] (.reg [zV 86 6,zF 87 33 1 6,zL 88 30 87,zo 89 (.len 30 (.t 88)),zo 90 (.conv 3 59 (.t 89)),zo 91 (.jo 30 1 [(0,.t 90)]),zo 92 (.call (.t 86) [.c (.i .i64 4),.t 91])]))
 (.seq (.cut [1,5,6] (.reg [zV 93 6,zF 94 33 1 6,zL 95 30 94,zo 96 (.call (.t 93) [.c (.i .i64 4),.t 95])]))
 (.seq (.cut [5] (.reg [zL 97 29 5,zo 98 (.conv 29 9 (.t 97)),zV 2 98,zo 3 (.mv (.c (.i .i64 0)))]))
 .ret))))))))))))))
def F20:AF:=⟨99,[.t 2,.t 3],c20⟩
def c26L0:AC:=(.seq (.reg [zB 46 .lss 3 45 44])
 (.seq (.cond (.t 46)
 .skip
 (.exit 3))
 (.seq (.blk 4
 (.seq (.cut [1,2,43,44,45] (.reg [zo 47 (.iF 127 (.t 43) (.t 45)),zL 48 24 47,zV 12 48]))
 (.seq (.cut [1,2,12,43,44,45] (.reg [zV 49 12,zV 50 1,zV 51 2,zC 52 26 [.t 49,.t 50,.t 51]]))
 (.cond (.t 52)
 (.seq (.reg [zo 6 (.mv (.c (.b true)))])
 .ret)
 .skip))))
 (.reg [zD 53 .add 3 45 1,zV 45 53]))))
def c26L1:AC:=(.blk 1
 (.seq (.seq (.cut [0,1,2] (.reg [zV 14 2,zV 15 14,fM 16 15 0,fM 17 15 1,dn 18 15 (.bin .eql 24 (.t 16) (.t 17)),zo 19 (.pick (.t 15) (.t 18) (.c (.b false)))]))
 (.cond (.t 19)
 (.seq (.reg [zo 6 (.mv (.c (.b true)))])
 .ret)
 .skip))
 (.seq (.seq (.cut [0,1,2] (.reg [zV 21 0,zo 22 (.J_ (.t 21) 24 129 true),zV 20 22,zE 23 20 0,zE 24 20 1,zV 7 23,zV 8 24]))
 (.seq (.cut [0,1,2,7,8] (.reg [zV 25 8,zV 26 25,fM 27 26 7,fM 28 26 1,dn 29 26 (.inv (.t 27) "Is" [.t 28]),zo 30 (.pick (.t 26) (.t 29) (.c (.b false)))]))
 (.cond (.t 30)
 (.seq (.reg [zo 6 (.mv (.c (.b true)))])
 .ret)
 .skip)))
 (.seq (.reg [zV 31 0])
 (.blk 2
 (.seq (.cut [1,2,31] (.reg [zo 32 (.J_ (.t 31) 24 124 true),zE 33 32 1,zE 34 32 0]))
 (.cut [1000000,1,2,31,33,34] (.cond (.t 33)
 (.seq (.reg [zV 9 34])
 (.seq (.cut [1,2,9] (.reg [zV 35 9,zo 36 (.inv (.t 35) "Unwrap" []),zV 0 36]))
 (.seq (.reg [zV 37 0,zo 38 (.bin .eql 24 (.t 37) (.c (.fK)))])
 (.cond (.t 38)
 (.seq (.reg [zo 6 (.mv (.c (.b false)))])
 .ret)
 .skip))))
 (.seq (.cut [1,2,31] (.reg [zo 39 (.J_ (.t 31) 24 126 true),zE 40 39 1,zE 41 39 0]))
 (.cond (.t 40)
 (.seq (.reg [zV 10 41])
 (.seq (.seq (.cut [1,2,10] (.reg [zV 42 10,zo 43 (.inv (.t 42) "Unwrap" []),zo 44 (.len 127 (.t 43)),zo 45 (.mv (.c (.i .i64 0)))]))
 (.blk 3
 (.loop [1,2,43,44,45] c26L0)))
 (.seq (.reg [zo 6 (.mv (.c (.b false)))])
 .ret)))
 (.seq (.reg [zV 13 31])
 (.seq (.reg [zo 6 (.mv (.c (.b false)))])
 .ret))))))))))))
def c26:AC:=(.seq (.reg [zo 6 (.mv (.c (.b false)))])
 (.blk 0
 (.loop [0,1,2] c26L1)))
def F26:AF:=⟨54,[.t 6],c26⟩
def c27L0:AC:=(.seq (.reg [zB 33 .lss 3 32 31])
 (.seq (.cond (.t 33)
 .skip
 (.exit 0))
 (.seq (.blk 1
 (.seq (.cut [0,7,30,31,32] (.reg [zo 34 (.iF 22 (.t 30) (.t 32)),zL 35 3 34,zV 9 35]))
 (.cut [0,7,9,30,31,32] (.reg [zV 36 7,zV 37 0,zN 38 37,zF 39 39 38 0,zL 40 37 39,zV 41 9,zo 42 (.iF 37 (.t 40) (.t 41)),zL 43 110 42,zC 44 50 [.t 36,.t 43]]))))
 (.reg [zD 45 .add 3 32 1,zV 32 45]))))
def c27:AC:=(.seq (.cut [0] (.reg [zo 2 (.mv (.c (.sl0))),zo 3 (.mv (.c (.i .i64 0))),zo 4 (.mv (.c (.i .i64 0)))]))
 (.seq (.seq (.reg [zV 11 0,zo 12 (.bin .eql 36 (.t 11) (.c (.p0)))])
 (.cond (.t 12)
 (.seq (.cut [] (.reg [zo 2 (.mv (.c (.sl0))),zo 3 (.mv (.c (.i .i64 0))),zo 4 (.mv (.c (.i .i64 1)))]))
 .ret)
 .skip))
 (.seq (.seq (.cut [0] (.reg [zV 13 0,zC 14 18 [.t 13],zo 15 (.bin .neq 24 (.t 14) (.c (.fK)))]))
 (.cond (.t 15)
 (.seq (.cut [] (.reg [zo 2 (.mv (.c (.sl0))),zo 3 (.mv (.c (.i .i64 0))),zo 4 (.mv (.c (.i .i64 2)))]))
 .ret)
 .skip))
 (.seq (.cut [0] (.reg [zV 17 0,zC 18 47 [.t 17],zV 16 18,zE 19 16 0,zE 20 16 1,zV 5 19,zV 6 20]))
 (.seq (.seq (.reg [zV 21 6,zD 22 .neq 28 21 0])
 (.cond (.t 22)
 (.seq (.cut [] (.reg [zo 2 (.mv (.c (.sl0))),zo 3 (.mv (.c (.i .i64 0))),zo 4 (.mv (.c (.i .i64 2)))]))
 .ret)
 .skip))
 (.cut [1000000,0,5] (.seq (.cut [0,5] (.reg [zo 23 (.Ei 135 none),zo 24 (.build 139 [(1,.t 23)]),zo 25 (.box 139 (.t 24)),zV 7 25]))
 (.seq (.reg [zV 26 7,zC 27 48 [.t 26,.c (.i .i64 5)]])
 (.seq (.reg [zV 28 7,zC 29 49 [.t 28,.c (.i .i64 0)]])
 (.seq (.seq (.cut [0,5,7] (.reg [zV 30 5,zo 31 (.len 22 (.t 30)),zo 32 (.mv (.c (.i .i64 0)))]))
 (.blk 0
 (.loop [0,7,30,31,32] c27L0)))
 (.seq (.cut [7] (.reg [zV 46 7,zV 47 7,zN 48 47,zF 49 139 48 1,zL 50 135 49,zo 51 (.uN 135 (.t 50) (.c (.s [109,97,105,110])) false),zN 52 51,zF 53 146 52 0,zL 54 3 53,zC 55 51 [.t 46,.c (.i .i64 0),.c (.i .i64 5),.t 54]]))
 (.cut [1000000,7] (.seq (.cut [7] (.reg [zV 56 7,zN 57 56,zF 58 139 57 2,zL 59 3 58,zD 60 .add 3 59 256,zD 61 .sub 3 60 1,zo 62 (.mn true [.t 61,.c (.i .i64 256)]),zD 63 .quo 3 62 256,zD 64 .mul 3 63 256,zV 10 64]))
 (.seq (.seq (.cut [7,10] (.reg [zV 65 7,zN 66 65,zF 67 139 66 5,zL 68 4 67,zV 69 68,j_ 70 69 7,fC 71 69 (.fF (.t 70)),fC 72 69 (.mF 139 (.t 71) 0),fC 73 69 (.load 30 (.t 72)),fC 74 69 (.len 30 (.t 73)),fC 75 69 (.bin .gtr 3 (.t 74) (.c (.i .i64 4096))),zo 76 (.pick (.t 69) (.c (.b true)) (.t 75)),zV 77 76,j_ 78 77 10,fC 79 77 (.bin .gtr 3 (.t 78) (.c (.i .i64 4096))),zo 80 (.pick (.t 77) (.c (.b true)) (.t 79))]))
 (.cond (.t 80)
 (.seq (.cut [] (.reg [zo 2 (.mv (.c (.sl0))),zo 3 (.mv (.c (.i .i64 0))),zo 4 (.mv (.c (.i .i64 13)))]))
 .ret)
 .skip))
 (.seq (.cut [7,10] (.reg [zV 81 7,zN 82 81,zF 83 139 82 0,zL 84 30 83,zV 85 10,zV 2 84,zV 3 85,zo 4 (.mv (.c (.i .i64 0)))]))
 .ret)))))))))))))))
def F27:AF:=⟨86,[.t 2,.t 3,.t 4],c27⟩
def c28L0:AC:=(.seq (.reg [zB 83 .lss 3 82 81])
 (.seq (.cond (.t 83)
 .skip
 (.exit 1))
 (.seq (.blk 2
 (.seq (.cut [1,2,4,6,80,81,82] (.reg [zo 84 (.iF 31 (.t 80) (.t 82)),zL 85 99 84,zo 8 (.alloc 99),zS 99 8 85]))
 (.seq (.seq (.cut [1,2,4,6,8,80,81,82] (.reg [zL 86 33 1,zL 87 86 4,zL 88 99 8,zV 89 6,zC 90 56 [.t 86,.t 87,.t 88,.t 89],zo 91 (.un .not (.t 90))]))
 (.cond (.t 91)
 (.seq (.cut [2] (.reg [zo 92 (.build 86 []),zS 86 2 92,zo 3 (.mv (.c (.i .i64 2)))]))
 .ret)
 .skip))
 (.cut [1,2,4,8,80,81,82] (.reg [zF 93 99 8 0,zL 94 59 93,zo 95 (.bin .add 59 (.t 94) (.c (.i .u32 16))),zV 6 95])))))
 (.reg [zD 96 .add 3 82 1,zV 82 96]))))
def c28:AC:=(.seq (.cut [0] (.reg [zo 1 (.box 33 (.t 0)),zo 2 (.alloc 86),zo 3 (.mv (.c (.i .i64 0)))]))
 (.seq (.blk 0
 (.seq (.cut [1,2] (.reg [zF 10 33 1 3,zL 11 30 10,zo 12 (.len 30 (.t 11)),zD 13 .gtr 3 12 4096,zF 14 33 1 4,zL 15 9 14,zo 16 (.len 9 (.t 15)),zD 17 .gtr 3 16 16384,zF 18 33 1 5,zL 19 31 18,zo 20 (.len 31 (.t 19)),zD 21 .gtr 3 20 256,zF 22 33 1 6,zL 23 30 22,zo 24 (.len 30 (.t 23)),zD 25 .gtr 3 24 4,zo 26 (.jo 201 4 [(0,.t 13),(1,.t 17),(2,.t 21),(3,.t 25)]),zC 27 52 [.t 26],zo 28 (.un .not (.t 27)),zV 9 28]))
 (.cond (.t 9)
 (.seq (.cut [2] (.reg [zo 29 (.build 86 []),zS 86 2 29,zo 3 (.mv (.c (.i .i64 3)))]))
 .ret)
 (.seq (.cut [1,2] (.reg [zF 31 33 1 0,zL 32 3 31,zD 33 .lss 3 32 16,zF 34 33 1 0,zL 35 3 34,zD 36 .gtr 3 35 1024,zF 37 33 1 1,zL 38 3 37,zD 39 .lss 3 38 256,zF 40 33 1 1,zL 41 3 40,zD 42 .gtr 3 41 4096,zF 43 33 1 1,zL 44 3 43,zD 45 .rem 3 44 256,zD 46 .neq 3 45 0,zF 47 33 1 2,zL 48 3 47,zD 49 .lss 3 48 0,zF 50 33 1 2,zL 51 3 50,zD 52 .gtr 3 51 2048,zF 53 33 1 3,zL 54 30 53,zo 55 (.len 30 (.t 54)),zD 56 .eql 3 55 0,zF 57 33 1 6,zL 58 30 57,zo 59 (.len 30 (.t 58)),zD 60 .eql 3 59 0,zo 61 (.jo 201 9 [(0,.t 33),(1,.t 36),(2,.t 39),(3,.t 42),(4,.t 46),(5,.t 49),(6,.t 52),(7,.t 56),(8,.t 60)]),zC 62 52 [.t 61],zo 63 (.un .not (.t 62)),zV 30 63]))
 (.cut [1000000,1,2,30] (.cond (.t 30)
 (.seq (.cut [2] (.reg [zo 64 (.build 86 []),zS 86 2 64,zo 3 (.mv (.c (.i .i64 2)))]))
 .ret)
 (.seq (.cut [1,2] (.reg [zF 66 33 1 6,zL 67 30 66,zo 68 (.rQ (.func 54) [] [.t 1]),zC 69 53 [.t 67,.t 68],zV 65 69]))
 (.cond (.t 65)
 (.seq (.cut [2] (.reg [zo 70 (.build 86 []),zS 86 2 70,zo 3 (.mv (.c (.i .i64 2)))]))
 .ret)
 .skip))))))))
 (.cut [1000000,1,2] (.seq (.cut [1,2] (.reg [zL 72 33 1,zC 73 55 [.t 72],zV 71 73,zE 74 71 0,zE 75 71 1,zo 4 (.alloc 86),zS 86 4 74,zV 5 75]))
 (.seq (.seq (.reg [zV 76 5,zo 77 (.un .not (.t 76))])
 (.cond (.t 77)
 (.seq (.cut [2] (.reg [zo 78 (.build 86 []),zS 86 2 78,zo 3 (.mv (.c (.i .i64 13)))]))
 .ret)
 .skip))
 (.seq (.reg [zo 6 (.mv (.c (.i .u32 0)))])
 (.seq (.seq (.cut [1,2,4,6] (.reg [zF 79 33 1 5,zL 80 31 79,zo 81 (.len 31 (.t 80)),zo 82 (.mv (.c (.i .i64 0)))]))
 (.blk 1
 (.loop [1,2,4,6,80,81,82] c28L0)))
 (.seq (.cut [2,4] (.reg [zL 97 86 4,zS 86 2 97,zo 3 (.mv (.c (.i .i64 0)))]))
 .ret))))))))
def F28:AF:=⟨98,[.cell 2 86,.t 3],c28⟩
def c29:AC:=(.seq (.reg [zo 2 (.mv (.c (.p0)))])
 (.seq (.cut [0] (.reg [zV 3 0,zo 4 (.conv 9 29 (.t 3)),zo 5 (.build 154 [(0,.t 4)]),zo 6 (.box 154 (.t 5)),zV 2 6]))
 .ret))
def F29:AF:=⟨7,[.t 2],c29⟩
def c30:AC:=(.seq (.reg [zo 4 (.mv (.c (.i .u32 0)))])
 (.seq (.cut [0,1,2] (.reg [zL 8 89 1,zV 9 0,zC 10 31 [.t 8,.t 9],zV 7 10,zE 11 7 0,zE 12 7 1,zV 5 11,zV 6 12]))
 (.seq (.cut [2,5,6] (.reg [zL 13 4 2,zV 14 13,fM 15 14 6,zo 16 (.pick (.t 14) (.t 15) (.c (.b false))),zS 4 2 16]))
 (.seq (.reg [zV 17 5,zV 4 17])
 .ret))))
def F30:AF:=⟨18,[.t 4],c30⟩
def c31:AC:=(.seq (.reg [zo 4 (.mv (.c (.i .u32 0))),zo 5 (.mv (.c (.b false)))])
 (.seq (.seq (.reg [zV 9 0,zo 10 (.bin .eql 89 (.t 9) (.c (.p0)))])
 (.cond (.t 10)
 (.seq (.reg [zo 4 (.mv (.c (.i .u32 0))),zo 5 (.mv (.c (.b false)))])
 .ret)
 .skip))
 (.seq (.cut [0,1] (.reg [zV 12 0,zN 13 12,zF 14 154 13 0,zL 15 29 14,zV 16 1,zC 17 57 [.t 15,.c (.i .i64 0),.t 16],zV 11 17,zE 18 11 0,zE 19 11 1,zV 6 18,zV 7 19]))
 (.seq (.seq (.reg [zV 20 7,zo 21 (.un .not (.t 20))])
 (.cond (.t 21)
 (.seq (.reg [zo 4 (.mv (.c (.i .u32 0))),zo 5 (.mv (.c (.b false)))])
 .ret)
 .skip))
 (.seq (.cut [0,1,6] (.reg [zV 22 0,zo 23 (.rQ (.func 34) [.t 22] []),zV 8 23]))
 (.seq (.cut [1,6,8] (.reg [zV 24 8,zV 25 1,zo 26 (.call (.t 24) [.t 25])]))
 (.seq (.cut [6] (.reg [zV 27 6,zV 4 27,zo 5 (.mv (.c (.b true)))]))
 .ret)))))))
def F31:AF:=⟨28,[.t 4,.t 5],c31⟩
def c32L0:AC:=(.seq (.seq (.cut [1,3,6] (.reg [zV 16 6,zo 17 (.bin .gtr 59 (.t 16) (.c (.i .u32 0))),zV 18 17,dn 19 18 (.load 4 (.t 3)),zo 20 (.pick (.t 18) (.t 19) (.c (.b false)))]))
 (.cond (.t 20)
 .skip
 (.exit 0)))
 (.seq (.blk 1
 (.reg [zV 23 1,zo 24 (.call (.t 23) [])]))
 (.cut [1,3,6] (.reg [zV 21 6,zo 22 (.bin .sub 59 (.t 21) (.c (.i .u32 1))),zV 6 22]))))
def c32:AC:=(.seq (.cut [0,1,2,3] (.reg [zL 7 93 2,zo 8 (.call (.t 7) [.c (.i .i64 4)]),zV 6 8]))
 (.seq (.cut [0,1,3,6] (.reg [zL 9 4 3,zV 10 9,fM 11 10 6,fM 12 10 0,dn 13 10 (.conv 3 59 (.t 12)),dn 14 10 (.bin .leq 59 (.t 11) (.t 13)),zo 15 (.pick (.t 10) (.t 14) (.c (.b false))),zS 4 3 15]))
 (.blk 0
 (.loop [1,3,6] c32L0))))
def F32:AF:=⟨25,[],c32⟩
def c33:AC:=(.cut [0,1] (.gJ [(zF 2 33 0 3,[]),(zL 3 30 2,[]),(zL 4 93 1,[]),(zo 5 (.call (.t 4) [.c (.i .i64 4)]),[zL 3 30 2]),(zo 6 (.jo 30 1 [(0,.t 5)]),[zL 3 30 2]),(zo 7 (.app 30 false (.t 3) (.t 6)),[]),(zF 8 33 0 3,[]),(zS 30 8 7,[])]))
def F33:AF:=⟨9,[],c33⟩
def c34:AC:=(.seq (.reg [zo 4 (.mv (.c (.s []))),zo 5 (.mv (.c (.b false)))])
 (.seq (.seq (.cut [0,1] (.reg [zV 7 1,zD 8 .lss 3 7 0,zV 9 8,j_ 10 9 1,j_ 11 9 0,fC 12 9 (.call (.c (.fn (.func 37) [] [])) [.t 11]),fC 13 9 (.bin .gtr 3 (.t 10) (.t 12)),zo 14 (.pick (.t 9) (.c (.b true)) (.t 13)),zV 15 14,j_ 16 15 0,fC 17 15 (.bin .eql 89 (.t 16) (.c (.p0))),zo 18 (.pick (.t 15) (.c (.b true)) (.t 17))]))
 (.cond (.t 18)
 (.seq (.reg [zo 4 (.mv (.c (.s []))),zo 5 (.mv (.c (.b false)))])
 .ret)
 .skip))
 (.seq (.cut [0,1] (.reg [zV 19 0,zN 20 19,zF 21 154 20 0,zL 22 29 21,zV 23 1,zV 24 1,zo 25 (.sl3 29 (.t 22) none (.t 23) (.t 24)),zo 26 (.conv 29 9 (.t 25)),zV 6 26]))
 (.seq (.cut [0,1,6] (.reg [zV 27 0,zV 28 0,zN 29 28,zF 30 154 29 0,zL 31 29 30,zV 32 1,zo 33 (.slc 29 (.t 31) (some (.t 32)) none),zN 34 27,zF 35 154 34 0,zS 29 35 33]))
 (.seq (.cut [6] (.reg [zV 36 6,zV 4 36,zo 5 (.mv (.c (.b true)))]))
 .ret)))))
def F34:AF:=⟨37,[.t 4,.t 5],c34⟩
def c35:AC:=(.seq (.cut [0,1,2] (.gJ [(zL 5 93 0,[]),(zL 7 93 0,[]),(zL 9 93 0,[]),(zo 6 (.call (.t 5) [.c (.i .i64 4)]),[zL 7 93 0,zL 9 93 0]),(zo 8 (.call (.t 7) [.c (.i .i64 4)]),[zL 9 93 0]),(zo 10 (.call (.t 9) [.c (.i .i64 4)]),[]),(zo 11 (.build 99 [(0,.t 6),(2,.t 8),(3,.t 10)]),[]),(zo 3 (.alloc 99),[zL 5 93 0,zL 7 93 0,zL 9 93 0]),(zS 99 3 11,[])]))
 (.seq (.cut [0,1,2,3] (.reg [zL 12 93 0,zo 13 (.call (.t 12) [.c (.i .i64 1)]),zV 4 13]))
 (.seq (.cut [0,1,2,3,4] (.reg [zL 14 4 1,zV 15 14,fM 16 15 4,dn 17 15 (.bin .leq 59 (.t 16) (.c (.i .u32 1))),zo 18 (.pick (.t 15) (.t 17) (.c (.b false))),zS 4 1 18]))
 (.seq (.cut [0,2,3,4] (.gJ [(zV 19 4,[]),(zo 20 (.bin .eql 59 (.t 19) (.c (.i .u32 1))),[]),(zL 21 93 0,[]),(zL 24 93 0,[]),(zF 27 99 3 1,[]),(zo 22 (.call (.t 21) [.c (.i .i64 2)]),[zL 24 93 0]),(zo 23 (.wu true 59 97 (.t 22)),[]),(zo 25 (.call (.t 24) [.c (.i .i64 2)]),[]),(zo 26 (.wu true 59 97 (.t 25)),[]),(zS 4 27 20,[]),(zF 28 99 3 4,[]),(zS 97 28 23,[]),(zF 29 99 3 5,[]),(zS 97 29 26,[])]))
 (.cut [2,3] (.reg [zF 30 33 2 5,zL 31 31 30,zL 32 99 3,zo 33 (.jo 31 1 [(0,.t 32)]),zo 34 (.app 31 false (.t 31) (.t 33)),zF 35 33 2 5,zS 31 35 34]))))))
def F35:AF:=⟨36,[],c35⟩
def c36:AC:=(.cut [0,1] (.gJ [(zF 2 33 0 6,[]),(zL 3 30 2,[]),(zL 4 93 1,[]),(zo 5 (.call (.t 4) [.c (.i .i64 4)]),[zL 3 30 2]),(zo 6 (.jo 30 1 [(0,.t 5)]),[zL 3 30 2]),(zo 7 (.app 30 false (.t 3) (.t 6)),[]),(zF 8 33 0 6,[]),(zS 30 8 7,[])]))
def F36:AF:=⟨9,[],c36⟩
def c37:AC:=(.seq (.reg [zo 2 (.mv (.c (.i .i64 0)))])
 (.seq (.seq (.reg [zV 3 0,zo 4 (.bin .eql 89 (.t 3) (.c (.p0)))])
 (.cond (.t 4)
 (.seq (.reg [zo 2 (.mv (.c (.i .i64 0)))])
 .ret)
 .skip))
 (.seq (.cut [0] (.reg [zV 5 0,zN 6 5,zF 7 154 6 0,zL 8 29 7,zo 9 (.len 29 (.t 8)),zV 2 9]))
 .ret)))
def F37:AF:=⟨10,[.t 2],c37⟩
def c38L0:AC:=(.seq (.seq (.cut [1,4,5,6,7] (.reg [zL 20 9 1,zo 21 (.len 9 (.t 20)),zD 22 .gtr 3 21 0]))
 (.cond (.t 22)
 .skip
 (.exit 0)))
 (.blk 1
 (.seq (.seq (.reg [zL 23 9 1,zC 24 59 [.t 23,.c (.s [47,47])]])
 (.cond (.t 24)
 (.seq (.cut [1,4,5,6,7] (.reg [zL 25 9 1,zC 26 60 [.t 25,.c (.i .u8 10)],zV 8 26]))
 (.seq (.seq (.reg [zV 27 8,zD 28 .lss 3 27 0])
 (.cond (.t 28)
 (.cut [1,4,5,6,7] (.reg [zL 29 9 1,zo 30 (.len 9 (.t 29)),zV 8 30]))
 .skip))
 (.cut [1000000,1,4,5,6,7,8] (.seq (.cut [1,4,5,6,7,8] (.reg [zL 31 9 1,zV 32 8,zo 33 (.slc 9 (.t 31) (some (.t 32)) none),zS 9 1 33]))
 (.exit 1)))))
 .skip))
 (.seq (.cut [1,4,5,6,7] (.reg [zL 34 9 1,zo 35 (.idx 9 (.t 34) (.c (.i .i64 0))),zo 36 (.conv 5 21 (.t 35)),zC 37 61 [.t 36]]))
 (.blk 2
 (.seq (.reg [zD 39 .eql 159 37 1,zV 38 39])
 (.cond (.t 38)
 (.seq (.seq (.cut [1,4,5,6,7] (.reg [zL 40 9 1,zo 41 (.idx 9 (.t 40) (.c (.i .i64 0))),zo 42 (.bin .eql 5 (.t 41) (.c (.i .u8 10)))]))
 (.cond (.t 42)
 (.cut [1,4,5,6,7] (.reg [zL 43 3 5,zD 44 .add 3 43 1,zS 3 5 44]))
 .skip))
 (.cut [1000000,1,4,5,6,7] (.cut [1,4,5,6,7] (.reg [zL 45 9 1,zo 46 (.slc 9 (.t 45) (some (.c (.i .i64 1))) none),zS 9 1 46]))))
 (.seq (.reg [zD 48 .eql 159 37 2,zV 47 48])
 (.cond (.t 47)
 (.seq (.cut [1,4,5,6,7] (.reg [zL 49 9 1,zo 50 (.jo 210 2 [(0,.c (.i .i64 2)),(1,.c (.i .i64 3))]),zC 51 62 [.t 49,.t 50],zV 9 51]))
 (.blk 3
 (.seq (.cut [1,4,5,6,7,9] (.reg [zV 56 9,zD 57 .gtr 3 56 32,zV 55 57]))
 (.cond (.t 55)
 (.seq (.reg [zo 7 (.mv (.c (.i .i64 9)))])
 (.exit 0))
 (.seq (.cut [1,4,5,6,7,9] (.gJ [(zL 60 9 1,[]),(zV 61 9,[]),(zo 62 (.slc 9 (.t 60) none (some (.t 61))),[]),(zC 59 64 [],[zL 60 9 1,zo 62 (.slc 9 (.t 60) none (some (.t 61)))]),(zC 63 63 [.t 59,.t 62],[]),(zV 58 63,[])]))
 (.cond (.t 58)
 (.cut [1,4,5,6,7,9] (.reg [zV 64 6,zV 65 9,zo 66 (.call (.t 64) [.c (.i .i64 4),.t 65])]))
 (.cut [1,4,5,6,7,9] (.reg [zV 52 6,zV 53 9,zo 54 (.call (.t 52) [.c (.i .i64 1),.t 53])]))))))))
 (.seq (.reg [zD 68 .eql 159 37 3,zV 67 68])
 (.cond (.t 67)
 (.seq (.cut [1,4,5,6,7] (.reg [zL 69 9 1,zo 70 (.jo 210 1 [(0,.c (.i .i64 3))]),zC 71 62 [.t 69,.t 70],zV 10 71]))
 (.seq (.seq (.cut [1,4,5,6,7,10] (.reg [zL 72 9 1,zo 73 (.idx 9 (.t 72) (.c (.i .i64 0))),zo 74 (.bin .eql 5 (.t 73) (.c (.i .u8 48))),zV 75 74,fM 76 75 10,dn 77 75 (.bin .gtr 3 (.t 76) (.c (.i .i64 1))),zo 78 (.pick (.t 75) (.t 77) (.c (.b false))),zV 79 78,fC 80 79 (.load 9 (.t 1)),j_ 81 79 10,fC 82 79 (.slc 9 (.t 80) (some (.t 81)) none),fC 83 79 (.jo 210 1 [(0,.c (.i .i64 2))]),fC 84 79 (.call (.c (.fn (.func 62) [] [])) [.t 82,.t 83]),fC 85 79 (.bin .gtr 3 (.t 84) (.c (.i .i64 0))),zo 86 (.pick (.t 79) (.c (.b true)) (.t 85))]))
 (.cut [1000000,1,4,5,6,7,10,86] (.cond (.t 86)
 (.seq (.reg [zo 7 (.mv (.c (.i .i64 9)))])
 (.exit 0))
 .skip)))
 (.seq (.seq (.cut [1,4,5,6,7,10] (.reg [zL 88 9 1,zV 89 10,zo 90 (.slc 9 (.t 88) none (some (.t 89))),zC 91 65 [.t 90,.c (.i .i64 10),.c (.i .i64 32)],zV 87 91,zE 92 87 0,zE 93 87 1,zV 11 92,zV 12 93]))
 (.seq (.reg [zV 94 12,zo 95 (.bin .neq 24 (.t 94) (.c (.fK)))])
 (.cond (.t 95)
 (.seq (.reg [zo 7 (.mv (.c (.i .i64 3)))])
 (.exit 0))
 .skip)))
 (.cut [1,4,5,6,7,10] (.reg [zV 96 6,zV 97 10,zo 98 (.call (.t 96) [.c (.i .i64 2),.t 97])])))))
 (.seq (.reg [zD 100 .eql 159 37 4,zV 99 100])
 (.cond (.t 99)
 (.seq (.reg [zL 101 9 1,zC 102 66 [.t 101]])
 (.cond (.t 102)
 (.reg [zV 103 6,zo 104 (.call (.t 103) [.c (.i .i64 3),.c (.i .i64 2)])])
 (.reg [zV 105 6,zo 106 (.call (.t 105) [.c (.i .i64 3),.c (.i .i64 1)])])))
 (.seq (.reg [zo 7 (.mv (.c (.i .i64 9)))])
 (.exit 0)))))))))))))))
def c38:AC:=(.seq (.cut [0] (.reg [zo 1 (.box 9 (.t 0)),zo 2 (.mv (.c (.sl0))),zo 3 (.mv (.c (.fK)))]))
 (.seq (.seq (.cut [1] (.reg [zL 13 9 1,zo 14 (.len 9 (.t 13)),zD 15 .gtr 3 14 32768]))
 (.cond (.t 15)
 (.seq (.cut [] (.reg [zo 16 (.build 53 [(0,.c (.i .i64 3))]),zo 17 (.box 53 (.t 16)),zo 18 (.qG 49 (.t 17)),zo 2 (.mv (.c (.sl0))),zV 3 18]))
 .ret)
 .skip))
 (.seq (.reg [zo 4 (.alloc 101)])
 (.seq (.reg [zo 5 (.alloc 3),zn (.store 3 (.t 5) (.c (.i .i64 0)))])
 (.seq (.reg [zo 19 (.rQ (.func 58) [] [.t 4,.t 1,.t 5]),zV 6 19])
 (.seq (.reg [zo 7 (.mv (.c (.i .i64 0)))])
 (.seq .skip
 (.seq (.blk 0
 (.loop [1,4,5,6,7] c38L0))
 (.cut [1000000,4,5,7] (.seq (.seq (.reg [zV 107 7,zD 108 .neq 28 107 0])
 (.cond (.t 108)
 (.seq (.cut [5,7] (.gJ [(zV 109 7,[]),(zL 110 3 5,[]),(zo 111 (.build 53 [(0,.t 109),(1,.t 110)]),[]),(zo 2 (.mv (.c (.sl0))),[]),(zo 112 (.box 53 (.t 111)),[]),(zo 113 (.qG 49 (.t 112)),[]),(zV 3 113,[])]))
 .ret)
 .skip))
 (.seq (.cut [4,5] (.reg [zL 114 101 4,zL 115 3 5,zo 116 (.build 108 [(0,.c (.i .i64 5)),(2,.t 115)]),zo 117 (.jo 101 1 [(0,.t 116)]),zo 118 (.app 101 false (.t 114) (.t 117)),zV 2 118,zo 3 (.mv (.c (.fK)))]))
 .ret)))))))))))
def F38:AF:=⟨119,[.t 2,.t 3],c38⟩
def c39:AC:=(.seq (.reg [zo 2 (.mv (.c (.b false)))])
 (.seq (.cut [0] (.reg [zV 3 0,zN 4 3,zF 5 106 4 2,zL 6 49 5,zo 7 (.bin .neq 49 (.t 6) (.c (.p0))),zV 2 7]))
 .ret))
def F39:AF:=⟨8,[.t 2],c39⟩
def c40:AC:=(.seq (.reg [zo 2 (.alloc 108)])
 (.seq (.cut [0,2] (.reg [zV 3 0,zN 4 3,zF 5 106 4 0,zL 6 101 5,zo 7 (.iF 101 (.t 6) (.c (.i .i64 0))),zL 8 108 7,zS 108 2 8]))
 .ret))
def F40:AF:=⟨9,[.cell 2 108],c40⟩
def c41:AC:=(.seq (.reg [zo 1 (.box 104 (.t 0)),zo 2 (.mv (.c (.p0)))])
 (.seq (.cut [1] (.reg [zL 4 104 1,zC 5 40 [.t 4],zo 6 (.J9 108 (.t 5) 2),zo 7 (.build 172 [(4,.t 6)]),zo 8 (.box 172 (.t 7)),zo 3 (.alloc 110),zS 110 3 8]))
 (.seq (.reg [zL 9 104 1,zC 10 67 [.t 9,.c (.s [102,117,110,99])]])
 (.seq (.cut [1,3] (.gJ [(zL 11 110 3,[]),(zL 12 104 1,[]),(zC 13 68 [.t 12],[zL 11 110 3]),(zN 14 11,[]),(zF 15 172 14 0,[]),(zS 9 15 13,[])]))
 (.seq (.cut [1,3] (.reg [zL 16 104 1,zo 17 (.rQ (.func 70) [] [.t 1,.t 3]),zC 18 69 [.t 16,.t 17]]))
 (.seq (.cut [1,3] (.gJ [(zL 19 110 3,[]),(zL 20 104 1,[]),(zC 21 71 [.t 20,.c (.s [112,116,114])],[zL 19 110 3]),(zN 22 19,[]),(zF 23 172 22 2,[]),(zS 4 23 21,[])]))
 (.seq (.cut [1,3] (.gJ [(zL 24 110 3,[]),(zL 25 104 1,[]),(zC 26 72 [.t 25],[zL 24 110 3]),(zN 27 24,[]),(zF 28 172 27 3,[]),(zS 170 28 26,[])]))
 (.seq (.reg [zL 29 110 3,zV 2 29])
 .ret))))))))
def F41:AF:=⟨30,[.t 2],c41⟩
def c42L0:AC:=(.seq (.reg [zB 27 .lss 3 26 25])
 (.seq (.cond (.t 27)
 .skip
 (.exit 0))
 (.seq (.blk 1
 (.seq (.cut [0,2,3,4,13,24,25,26] (.reg [zo 28 (.iF 37 (.t 24) (.t 26)),zL 29 110 28,zV 6 29]))
 (.cut [0,2,3,4,6,13,24,25,26] (.iO [zV 30 4,zV 31 6,zC 32 75 [.t 30,.t 31]]))))
 (.reg [zD 33 .add 3 26 1,zV 26 33]))))
def c42L1:AC:=(.seq (.reg [zB 51 .lss 3 50 49])
 (.seq (.cond (.t 51)
 .skip
 (.exit 2))
 (.seq (.blk 3
 (.seq (.cut [2,3,4,13,48,49,50] (.reg [zo 52 (.iF 37 (.t 48) (.t 50)),zL 53 110 52,zV 8 53]))
 (.cut [2,3,4,8,13,48,49,50] (.iM [(zV 54 4,[]),(zV 55 8,[]),(zN 56 55,[]),(zF 57 172 56 0,[]),(zL 58 9 57,[]),(zV 61 8,[]),(zN 62 61,[]),(zF 63 172 62 4,[]),(zL 64 3 63,[]),(zC 59 78 [.t 54,.t 58],[zL 64 3 63]),(zo 60 (.un .not (.t 59)),[]),(zC 65 77 [.t 60,.c (.i .i64 12),.t 64],[])]))))
 (.reg [zD 66 .add 3 50 1,zV 50 66]))))
def c42:AC:=(.hnd 13 73 4
 (.seq (.reg [zo 2 (.alloc 22),zo 3 (.alloc 49)])
 (.seq (.seq (.reg [zV 9 0,zo 10 (.bin .eql 36 (.t 9) (.c (.p0)))])
 (.cond (.t 10)
 (.seq (.cut [2,3,13] (.reg [zo 11 (.build 53 [(0,.c (.i .i64 1))]),zo 12 (.box 53 (.t 11)),zn (.store 22 (.t 2) (.c (.sl0))),zS 49 3 12]))
 .ret)
 .skip))
 (.seq (.Kv (zo 13 (.rQ (.func 73) [] [.t 2,.t 3])))
 (.seq (.cut [0,2,3,13] (.reg [zo 14 (.Ei 182 none),zo 15 (.Ei 183 none),zo 16 (.build 185 [(0,.t 14),(1,.t 15),(2,.c (.i .i64 65536))]),zo 17 (.box 185 (.t 16)),zV 4 17]))
 (.seq (.cut [0,2,3,4,13] (.iO [zV 18 4,zV 19 0,zC 20 74 [.t 18,.t 19]]))
 (.seq (.seq (.cut [0,2,3,4,13] (.reg [zV 21 0,zN 22 21,zF 23 39 22 0,zL 24 37 23,zo 25 (.len 37 (.t 24)),zo 26 (.mv (.c (.i .i64 0)))]))
 (.blk 0
 (.loop [0,2,3,4,13,24,25,26] c42L0)))
 (.seq (.cut [0,2,3,4,13] (.reg [zV 34 4,zV 35 0,zC 36 76 [.t 34,.t 35],zS 22 2 36]))
 (.seq (.seq (.cut [0,2,3,4,13] (.gJ [(zL 37 22 2,[]),(zo 38 (.len 22 (.t 37)),[]),(zV 39 0,[]),(zN 40 39,[]),(zF 41 39 40 0,[]),(zL 42 37 41,[]),(zo 43 (.len 37 (.t 42)),[]),(zB 44 .lss 3 38 43,[])]))
 (.cond (.t 44)
 (.seq (.cut [0,2,3,4,13] (.reg [zV 45 0,zN 46 45,zF 47 39 46 0,zL 48 37 47,zo 49 (.len 37 (.t 48)),zo 50 (.mv (.c (.i .i64 0)))]))
 (.blk 2
 (.loop [2,3,4,13,48,49,50] c42L1)))
 .skip))
 (.cut [1000000,2,3,13] (.seq (.cut [2,3,13] (.reg [zL 67 22 2,zS 22 2 67,zn (.store 49 (.t 3) (.c (.p0)))]))
 .ret))))))))))
 (.seq (.reg [zV 2 4])
 (.seq (.reg [zV 5 2,zo 6 (.bin .neq 20 (.t 5) (.c (.fK)))])
 (.cond (.t 6)
 (.seq (.reg [zV 7 2,zo 8 (.J_ (.t 7) 20 180 false),zo 9 (.J9 180 (.t 8) 0),zo 3 (.alloc 53),zS 53 3 9])
 (.reg [zn (.store 22 (.t 0) (.c (.sl0))),zS 49 1 3]))
 .skip))))
def F42:AF:=⟨68,[.cell 2 22,.cell 3 49],c42⟩
def c43L0:AC:=(.seq (.reg [zB 10 .lss 3 9 8])
 (.seq (.cond (.t 10)
 .skip
 (.exit 0))
 (.seq (.blk 1
 (.seq (.cut [0,2,7,8,9] (.reg [zo 11 (.iF 30 (.t 7) (.t 9)),zL 12 59 11,zV 6 12]))
 (.cut [0,2,6,7,8,9] (.gJ [(zL 13 29 2,[]),(zV 14 0,[]),(zV 15 6,[]),(zC 16 44 [.c (.s []),.t 14,.t 15],[zL 13 29 2]),(zo 17 (.app 29 true (.t 13) (.t 16)),[]),(zS 29 2 17,[])]))))
 (.reg [zD 18 .add 3 9 1,zV 9 18]))))
def c43:AC:=(.seq (.cut [0,1,2] (.reg [zV 7 1,zo 8 (.len 30 (.t 7)),zo 9 (.mv (.c (.i .i64 0)))]))
 (.blk 0
 (.loop [0,2,7,8,9] c43L0)))
def F43:AF:=⟨19,[],c43⟩
def c44:AC:=(.seq (.reg [zo 6 (.mv (.c (.s [])))])
 (.seq (.seq (.cut [0,1,2] (.reg [zV 8 1,zC 9 79 [.t 8],zo 10 (.un .not (.t 9))]))
 (.cond (.t 10)
 (.seq (.reg [zV 11 0,zV 6 11])
 .ret)
 .skip))
 (.seq (.reg [zo 7 (.alloc 190)])
 (.seq (.cut [0,1,2,7] (.reg [zo 12 (.slc 190 (.t 7) none none),zV 13 1,zV 14 2,zC 15 80 [.t 12,.c (.i .i64 0),.t 13,.t 14]]))
 (.seq (.cut [0,1,7] (.reg [zV 16 0,zV 17 1,zo 18 (.slc 190 (.t 7) none (some (.t 17))),zo 19 (.conv 29 9 (.t 18)),zB 20 .add 9 16 19,zV 6 20]))
 .ret)))))
def F44:AF:=⟨21,[.t 6],c44⟩
def c47:AC:=(.seq (.reg [zo 2 (.mv (.c (.sl0))),zo 3 (.mv (.c (.i .i64 0)))])
 (.seq (.cut [0] (.reg [zV 7 0,zC 8 42 [.t 7],zV 6 8,zE 9 6 0,zE 10 6 1,zV 4 9,zV 5 10]))
 (.seq (.seq (.reg [zV 11 5,zo 12 (.bin .neq 49 (.t 11) (.c (.p0)))])
 (.cond (.t 12)
 (.seq (.cut [5] (.gJ [(zV 13 5,[]),(zN 14 13,[]),(zF 15 53 14 0,[]),(zL 16 28 15,[]),(zo 2 (.mv (.c (.sl0))),[]),(zV 3 16,[])]))
 .ret)
 .skip))
 (.seq (.cut [4] (.reg [zV 17 4,zV 2 17,zo 3 (.mv (.c (.i .i64 0)))]))
 .ret))))
def F47:AF:=⟨18,[.t 2,.t 3],c47⟩
def c48:AC:=(.seq (.cut [0,1] (.reg [zo 2 (.box 134 (.t 0)),zo 3 (.box 3 (.t 1)),zo 4 (.mv (.c (.fn0)))]))
 (.seq (.cut [2,3] (.reg [zL 6 134 2,zN 7 6,zF 8 139 7 0,zL 9 30 8,zo 10 (.len 30 (.t 9)),zo 5 (.alloc 3),zS 3 5 10]))
 (.seq (.cut [2,3,5] (.reg [zL 11 134 2,zL 12 3 3,zo 13 (.build 194 [(0,.c (.i .i64 29)),(1,.t 12),(4,.c (.i .i64 1))]),zo 14 (.jo 229 1 [(0,.t 13)]),zC 15 81 [.t 11,.t 14]]))
 (.seq (.reg [zo 16 (.rQ (.func 82) [] [.t 2,.t 5,.t 3]),zV 4 16])
 .ret))))
def F48:AF:=⟨17,[.t 4],c48⟩
def c49:AC:=(.cut [0,1] (.reg [zV 4 0,zV 5 1,zo 6 (.build 194 [(0,.c (.i .i64 52)),(4,.t 5)]),zo 7 (.jo 229 1 [(0,.t 6)]),zC 8 81 [.t 4,.t 7]]))
def F49:AF:=⟨9,[],c49⟩
def c50L0:AC:=(.seq (.reg [zB 42 .lss 3 41 40])
 (.seq (.cond (.t 42)
 .skip
 (.exit 0))
 (.seq (.blk 1
 (.seq (.cut [0,1,39,40,41] (.reg [zV 43 41,zo 44 (.iF 169 (.t 39) (.t 41)),zL 45 177 44,zo 5 (.alloc 177),zV 4 43,zS 177 5 45]))
 (.seq (.cut [0,1,4,5,39,40,41] (.gJ [(zV 46 0,[]),(zN 47 46,[]),(zF 48 139 47 3,[]),(zL 49 136 48,[]),(zN 50 49,[]),(zF 51 146 50 2,[]),(zL 52 144 51,[]),(zF 53 177 5 0,[]),(zL 54 9 53,[]),(zV 55 0,[]),(zN 56 55,[]),(zF 57 139 56 3,[]),(zL 58 136 57,[]),(zN 59 58,[]),(zF 60 146 59 1,[]),(zL 61 3 60,[]),(zV 62 4,[]),(zo 63 (.bin .add 3 (.c (.i .i64 1)) (.t 62)),[]),(zo 64 (.bin .mul 3 (.c (.i .i64 16)) (.t 63)),[]),(zB 65 .add 3 61 64,[]),(zn (.mW 144 (.t 52) (.t 54) (.t 65)),[])]))
 (.cut [0,1,39,40,41] (.reg [zV 66 0,zN 67 66,zF 68 139 67 3,zL 69 136 68,zN 70 69,zF 71 146 70 3,zL 72 3 71,zD 73 .add 3 72 1,zN 74 69,zF 75 146 74 3,zS 3 75 73])))))
 (.cut [1000000,0,1,39,40,41] (.reg [zD 76 .add 3 41 1,zV 41 76])))))
def c50L1:AC:=(.seq (.reg [zB 105 .lss 3 104 103])
 (.seq (.cond (.t 105)
 .skip
 (.exit 2))
 (.seq (.blk 3
 (.seq (.cut [0,102,103,104] (.reg [zo 106 (.iF 137 (.t 102) (.t 104)),zL 107 1 106,zV 7 107]))
 (.reg [zV 108 7,zo 109 (.call (.t 108) [])])))
 (.reg [zD 110 .add 3 104 1,zV 104 110]))))
def c50:AC:=(.seq (.cut [0,1] (.gJ [(zV 8 0,[]),(zV 9 0,[]),(zN 10 9,[]),(zF 11 139 10 0,[]),(zL 12 30 11,[]),(zo 13 (.len 30 (.t 12)),[]),(zV 14 0,[]),(zN 15 14,[]),(zF 16 139 15 2,[]),(zL 17 3 16,[]),(zo 18 (.Ei 144 none),[zL 12 30 11,zL 17 3 16]),(zo 19 (.build 146 [(0,.t 13),(1,.t 17),(2,.t 18)]),[]),(zo 20 (.box 146 (.t 19)),[]),(zN 21 8,[]),(zF 22 139 21 3,[]),(zS 136 22 20,[])]))
 (.seq (.cut [0,1] (.gJ [(zV 23 0,[]),(zN 24 23,[]),(zF 25 139 24 1,[]),(zL 26 135 25,[]),(zV 27 1,[]),(zN 28 27,[]),(zF 29 172 28 0,[]),(zL 30 9 29,[]),(zV 31 0,[]),(zN 32 31,[]),(zF 33 139 32 3,[]),(zL 34 136 33,[]),(zn (.mW 135 (.t 26) (.t 30) (.t 34)),[])]))
 (.cut [1000000,0,1] (.seq (.cut [0,1] (.reg [zV 35 0,zN 36 35,zF 37 139 36 4,zn (.store 137 (.t 37) (.c (.sl0)))]))
 (.seq (.seq (.cut [0,1] (.reg [zV 38 1,zC 39 83 [.t 38],zo 40 (.len 169 (.t 39)),zo 41 (.mv (.c (.i .i64 0)))]))
 (.blk 0
 (.loop [0,1,39,40,41] c50L0)))
 (.seq (.cut [0,1] (.reg [zV 77 0,zV 78 0,zN 79 78,zF 80 139 79 3,zL 81 136 80,zN 82 81,zF 83 146 82 1,zL 84 3 83,zC 85 84 [.t 77,.c (.i .i64 5),.t 84]]))
 (.seq (.cut [0,1] (.reg [zV 86 0,zV 87 1,zV 88 1,zN 89 88,zF 90 172 89 3,zL 91 170 90,zC 92 85 [.t 86,.t 87,.t 91]]))
 (.seq (.cut [0,1] (.reg [zV 93 0,zV 94 1,zN 95 94,zF 96 172 95 2,zL 97 4 96,zC 98 86 [.t 93,.c (.p0),.t 97]]))
 (.seq (.seq (.cut [0] (.reg [zV 99 0,zN 100 99,zF 101 139 100 4,zL 102 137 101,zo 103 (.len 137 (.t 102)),zo 104 (.mv (.c (.i .i64 0)))]))
 (.blk 2
 (.loop [0,102,103,104] c50L1)))
 (.seq (.cut [0] (.reg [zV 111 0,zV 112 0,zN 113 112,zF 114 139 113 3,zL 115 136 114,zN 116 115,zF 117 146 116 1,zL 118 3 117,zC 119 87 [.t 111,.c (.i .i64 5),.t 118]]))
 (.seq (.cut [0] (.reg [zV 120 0,zC 121 88 [.c (.i .i64 30),.c (.i .i64 6),.c (.i .i64 5),.c (.i .i64 0)],zo 122 (.jo 229 1 [(0,.t 121)]),zC 123 81 [.t 120,.t 122]]))
 (.cut [0] (.gJ [(zV 124 0,[]),(zN 125 124,[]),(zF 126 139 125 2,[]),(zL 127 3 126,[]),(zV 128 0,[]),(zN 129 128,[]),(zF 130 139 129 3,[]),(zL 131 136 130,[]),(zN 132 131,[]),(zF 133 146 132 3,[]),(zL 134 3 133,[]),(zo 135 (.bin .add 3 (.c (.i .i64 1)) (.t 134)),[]),(zV 136 0,[]),(zN 137 136,[]),(zF 138 139 137 3,[]),(zL 139 136 138,[]),(zN 140 139,[]),(zF 141 146 140 4,[]),(zL 142 3 141,[]),(zB 143 .add 3 135 142,[]),(zo 144 (.bin .mul 3 (.c (.i .i64 16)) (.t 143)),[]),(zB 145 .add 3 127 144,[]),(zN 146 124,[]),(zF 147 139 146 2,[]),(zS 3 147 145,[])])))))))))))))
def F50:AF:=⟨148,[],c50⟩
def c51:AC:=(.seq (.cut [0,1,2,3] (.reg [zV 10 1,zV 11 0,zN 12 11,zF 13 139 12 0,zL 14 30 13,zo 15 (.len 30 (.t 14)),zB 16 .lss 3 10 15]))
 (.cond (.t 16)
 (.seq (.cut [0,1,2,3] (.reg [zV 18 2,zV 19 3,zV 20 1,zB 21 .sub 3 19 20,zo 22 (.build 194 [(0,.c (.i .i64 29)),(1,.t 18),(4,.t 21)]),zC 23 89 [.t 22],zV 17 23,zE 24 17 0,zE 25 17 1,zV 8 24,zV 9 25]))
 (.seq (.cut [0,1,8,9] (.reg [zV 26 0,zN 27 26,zF 28 139 27 0,zL 29 30 28,zV 30 1,zV 31 8,zo 32 (.iF 30 (.t 29) (.t 30)),zS 59 32 31]))
 (.cut [0,9] (.reg [zV 33 0,zV 34 0,zN 35 34,zF 36 139 35 5,zL 37 4 36,zV 38 37,j_ 39 38 9,fC 40 38 (.bin .neq 28 (.t 39) (.c (.i .i64 0))),zo 41 (.pick (.t 38) (.c (.b true)) (.t 40)),zN 42 33,zF 43 139 42 5,zS 4 43 41]))))
 .skip))
def F51:AF:=⟨44,[],c51⟩
def c52:AC:=(.seq (.reg [zo 2 (.mv (.c (.b false)))])
 (.seq (.cut [0] (.reg [zV 3 0,zC 4 90 [.t 3,.c (.b true)],zo 5 (.un .not (.t 4)),zV 2 5]))
 .ret))
def F52:AF:=⟨6,[.t 2],c52⟩
def c53:AC:=(.seq (.reg [zo 4 (.mv (.c (.b false)))])
 (.seq (.cut [0,1] (.reg [zV 5 0,zV 6 1,zC 7 91 [.t 5,.t 6],zD 8 .geq 3 7 0,zV 4 8]))
 .ret))
def F53:AF:=⟨9,[.t 4],c53⟩
def c54:AC:=(.seq (.reg [zo 3 (.mv (.c (.b false)))])
 (.seq (.cut [0,1] (.reg [zV 4 0,zo 5 (.conv 59 2 (.t 4)),zF 6 33 1 3,zL 7 30 6,zo 8 (.len 30 (.t 7)),zB 9 .geq 2 5 8,zV 3 9]))
 .ret))
def F54:AF:=⟨10,[.t 3],c54⟩
def c55:AC:=(.seq (.cut [0] (.reg [zo 1 (.box 33 (.t 0)),zo 2 (.alloc 86),zo 3 (.mv (.c (.b false)))]))
 (.seq (.reg [zo 4 (.alloc 59),zn (.store 59 (.t 4) (.c (.i .u32 0)))])
 (.seq (.reg [zo 8 (.rQ (.func 92) [] [.t 4]),zV 5 8])
 (.seq (.cut [1,2,4,5] (.reg [zV 9 5,zF 10 33 1 3,zL 11 30 10,zo 12 (.len 30 (.t 11)),zo 13 (.bin .mul 3 (.c (.i .i64 4)) (.t 12)),zC 14 93 [.t 13],zE 15 14 0,zE 16 14 1,zo 17 (.call (.t 9) [.t 15,.t 16]),zo 18 (.build 86 [(0,.t 17)]),zo 6 (.alloc 86),zS 86 6 18]))
 (.seq (.cut [1,2,4,5,6] (.reg [zV 19 5,zF 20 33 1 4,zL 21 9 20,zo 22 (.len 9 (.t 21)),zC 23 93 [.t 22],zE 24 23 0,zE 25 23 1,zo 26 (.call (.t 19) [.t 24,.t 25]),zF 27 86 6 1,zS 84 27 26]))
 (.cut [1000000,1,2,4,5,6] (.seq (.cut [1,2,4,5,6] (.reg [zV 28 5,zF 29 33 1 1,zL 30 3 29,zF 31 33 1 6,zL 32 30 31,zo 33 (.len 30 (.t 32)),zB 34 .mul 3 30 33,zo 35 (.conv 3 59 (.t 34)),zo 36 (.call (.t 28) [.t 35,.c (.i .u32 256)]),zF 37 86 6 2,zS 84 37 36]))
 (.seq (.cut [1,2,4,5,6] (.reg [zF 38 33 1 0,zL 39 3 38,zo 40 (.conv 3 59 (.t 39)),zo 41 (.bin .mul 59 (.t 40) (.c (.i .u32 256))),zV 7 41]))
 (.seq (.seq (.cut [2,4,5,6,7] (.reg [zL 42 59 4,zo 43 (.bin .add 59 (.t 42) (.c (.i .u32 256))),zV 44 7,zB 45 .gtr 59 43 44]))
 (.cond (.t 45)
 (.seq (.cut [2] (.reg [zo 46 (.build 86 []),zS 86 2 46,zo 3 (.mv (.c (.b false)))]))
 .ret)
 .skip))
 (.seq (.cut [2,4,5,6,7] (.reg [zV 47 5,zV 48 7,zL 49 59 4,zB 50 .sub 59 48 49,zo 51 (.call (.t 47) [.t 50,.c (.i .u32 256)]),zF 52 86 6 3,zS 84 52 51]))
 (.seq (.cut [2,6] (.reg [zL 53 86 6,zS 86 2 53,zo 3 (.mv (.c (.b true)))]))
 .ret)))))))))))
def F55:AF:=⟨54,[.cell 2 86,.t 3],c55⟩
def c56:AC:=(.seq (.cut [0,1,2,3] (.reg [zo 4 (.box 33 (.t 0)),zo 5 (.box 86 (.t 1)),zo 6 (.box 99 (.t 2)),zo 8 (.mv (.c (.b false)))]))
 (.seq (.cut [3,4,5,6] (.gJ [(zF 18 86 5 1,[]),(zL 19 84 18,[]),(zF 20 33 4 4,[]),(zL 21 9 20,[]),(zo 22 (.len 9 (.t 21)),[]),(zo 23 (.wu true 3 165 (.t 22)),[]),(zo 9 (.alloc 84),[zL 19 84 18,zL 21 9 20]),(zS 84 9 19,[zL 21 9 20]),(zV 10 23,[]),(zo 11 (.mv (.c (.i .u16 155))),[])]))
 (.seq (.seq (.reg [zF 24 99 6 1,zL 25 4 24])
 (.cond (.t 25)
 (.cut [3,4,5,6,9] (.gJ [(zF 26 86 5 0,[]),(zL 27 84 26,[]),(zF 28 33 4 3,[]),(zL 29 30 28,[]),(zo 30 (.len 30 (.t 29)),[]),(zo 31 (.wu true 3 165 (.t 30)),[]),(zo 32 (.bin .mul 165 (.c (.i .u64 4)) (.t 31)),[]),(zS 84 9 27,[zL 29 30 28]),(zV 10 32,[]),(zo 11 (.mv (.c (.i .u16 133))),[])]))
 .skip))
 (.cut [1000000,3,4,6,9,10,11] (.seq (.seq (.cut [3,4,6,9,10,11] (.reg [zF 33 99 6 0,zL 34 59 33,zo 35 (.bin .rem 59 (.t 34) (.c (.i .u32 16))),zo 36 (.bin .neq 59 (.t 35) (.c (.i .u32 0))),zF 37 99 6 0,zL 38 59 37,zV 39 3,zB 40 .lss 59 38 39,zF 41 99 6 0,zL 42 59 41,zo 43 (.conv 59 165 (.t 42)),zo 44 (.bin .add 165 (.t 43) (.c (.i .u64 16))),zF 45 33 4 4,zL 46 9 45,zo 47 (.len 9 (.t 46)),zo 48 (.conv 3 165 (.t 47)),zB 49 .gtr 165 44 48,zF 50 99 6 2,zL 51 59 50,zo 52 (.conv 59 165 (.t 51)),zF 53 99 6 3,zL 54 59 53,zo 55 (.conv 59 165 (.t 54)),zB 56 .add 165 52 55,zV 57 10,zB 58 .gtr 165 56 57,zF 59 99 6 4,zL 60 97 59,zV 61 11,zB 62 .andNot 97 60 61,zo 63 (.bin .neq 97 (.t 62) (.c (.i .u16 0))),zF 64 99 6 5,zL 65 97 64,zo 66 (.conv 97 3 (.t 65)),zF 67 33 4 2,zL 68 3 67,zB 69 .gtr 3 66 68,zo 70 (.jo 201 6 [(0,.t 36),(1,.t 40),(2,.t 49),(3,.t 58),(4,.t 63),(5,.t 69)]),zC 71 52 [.t 70],zo 72 (.un .not (.t 71))]))
 (.cut [1000000,6,9,72] (.cond (.t 72)
 (.seq (.reg [zo 8 (.mv (.c (.b false)))])
 .ret)
 .skip)))
 (.seq (.cut [6,9] (.reg [zF 73 84 9 0,zL 74 59 73,zF 75 99 6 2,zL 76 59 75,zB 77 .add 59 74 76,zV 12 77]))
 (.seq (.cut [6,12] (.reg [zV 79 12,zV 80 12,zo 81 (.conv 59 165 (.t 80)),zF 82 99 6 3,zL 83 59 82,zo 84 (.conv 59 165 (.t 83)),zB 85 .add 165 81 84,zC 86 94 [.t 79,.t 85],zV 78 86,zE 87 78 0,zE 88 78 1,zE 89 78 2,zE 90 78 3,zE 91 78 4,zV 13 87,zV 14 88,zV 15 89,zV 16 90,zV 17 91]))
 (.seq (.reg [zV 92 16,zV 8 92])
 .ret))))))))
def F56:AF:=⟨93,[.t 8],c56⟩
def c57:AC:=(.seq (.reg [zo 6 (.mv (.c (.i .u32 0))),zo 7 (.mv (.c (.b false)))])
 (.seq (.seq (.cut [0,1,2] (.reg [zV 10 2,zC 11 79 [.t 10],zo 12 (.un .not (.t 11)),zV 13 12,j_ 14 13 1,fC 15 13 (.bin .lss 3 (.t 14) (.c (.i .i64 0))),zo 16 (.pick (.t 13) (.c (.b true)) (.t 15)),zV 17 16,j_ 18 17 1,j_ 19 17 0,fC 20 17 (.len 29 (.t 19)),j_ 21 17 2,fC 22 17 (.bin .sub 3 (.t 20) (.t 21)),fC 23 17 (.bin .gtr 3 (.t 18) (.t 22)),zo 24 (.pick (.t 17) (.c (.b true)) (.t 23))]))
 (.cond (.t 24)
 (.seq (.reg [zo 6 (.mv (.c (.i .u32 0))),zo 7 (.mv (.c (.b false)))])
 .ret)
 .skip))
 (.seq (.cut [0,1,2] (.reg [zV 25 0,zV 26 1,zV 27 1,zV 28 2,zB 29 .add 3 27 28,zV 30 1,zV 31 2,zB 32 .add 3 30 31,zo 33 (.sl3 29 (.t 25) (some (.t 26)) (.t 29) (.t 32)),zV 8 33]))
 (.cut [1000000,2,8] (.seq (.reg [zo 9 (.mv (.c (.i .u32 0)))])
 (.seq (.seq (.reg [zV 34 2])
 (.blk 0
 (.seq (.blk 3
 (.seq (.blk 2
 (.seq (.blk 1
 (.seq (.seq (.seq (.reg [zD 36 .eql 3 34 4,zV 35 36])
 (.cond (.t 35)
 (.exit 1)
 .skip))
 (.seq (.reg [zD 38 .eql 3 34 2,zV 37 38])
 (.cond (.t 37)
 (.exit 2)
 .skip)))
 (.exit 3)))
 (.cut [8] (.gJ [(zV 39 8,[]),(zo 40 (.iF 29 (.t 39) (.c (.i .i64 3))),[]),(zL 41 5 40,[]),(zo 42 (.wu true 5 59 (.t 41)),[]),(zo 43 (.bin .shl 59 (.t 42) (.c (.i .u64 24))),[]),(zV 44 8,[]),(zo 45 (.iF 29 (.t 44) (.c (.i .i64 2))),[]),(zL 46 5 45,[]),(zo 47 (.wu true 5 59 (.t 46)),[]),(zo 48 (.bin .shl 59 (.t 47) (.c (.i .u64 16))),[]),(zB 49 .or 59 43 48,[]),(zV 9 49,[])]))))
 (.cut [1000000,8,9] (.cut [8,9] (.reg [zV 50 9,zV 51 8,zo 52 (.iF 29 (.t 51) (.c (.i .i64 1))),zL 53 5 52,zo 54 (.conv 5 59 (.t 53)),zo 55 (.bin .shl 59 (.t 54) (.c (.i .u64 8))),zB 56 .or 59 50 55,zV 9 56])))))
 (.cut [1000000,8,9] (.seq (.cut [8,9] (.reg [zV 57 9,zV 58 8,zo 59 (.iF 29 (.t 58) (.c (.i .i64 0))),zL 60 5 59,zo 61 (.conv 5 59 (.t 60)),zB 62 .or 59 57 61,zV 9 62]))
 (.exit 0))))))
 (.seq (.cut [9] (.reg [zV 63 9,zV 6 63,zo 7 (.mv (.c (.b true)))]))
 .ret)))))))
def F57:AF:=⟨64,[.t 6,.t 7],c57⟩
def c58:AC:=(.seq (.cut [0,1,2,3,4] (.gJ [(zL 7 101 2,[]),(zV 8 0,[]),(zL 9 9 3,[]),(zV 10 1,[]),(zo 11 (.slc 9 (.t 9) none (some (.t 10))),[]),(zL 12 3 4,[]),(zo 13 (.build 108 [(0,.t 8),(1,.t 11),(2,.t 12)]),[]),(zo 14 (.jo 101 1 [(0,.t 13)]),[zL 7 101 2]),(zo 15 (.app 101 false (.t 7) (.t 14)),[]),(zS 101 2 15,[])]))
 (.cut [1,3] (.reg [zL 16 9 3,zV 17 1,zo 18 (.slc 9 (.t 16) (some (.t 17)) none),zS 9 3 18])))
def F58:AF:=⟨19,[],c58⟩
def c59:AC:=(.seq (.reg [zo 4 (.mv (.c (.b false)))])
 (.seq (.cut [0,1] (.reg [zV 5 0,zV 6 1,zC 7 95 [.t 5,.t 6],zV 4 7]))
 .ret))
def F59:AF:=⟨8,[.t 4],c59⟩
def c61:AC:=(.seq (.reg [zo 2 (.mv (.c (.i .i64 0)))])
 (.seq (.blk 0
 (.seq (.cut [0] (.reg [zV 4 0,zo 5 (.bin .eql 21 (.t 4) (.c (.i .i32 32))),zV 6 5,j_ 7 6 0,fC 8 6 (.bin .eql 21 (.t 7) (.c (.i .i32 9))),zo 9 (.pick (.t 6) (.c (.b true)) (.t 8)),zV 10 9,j_ 11 10 0,fC 12 10 (.bin .eql 21 (.t 11) (.c (.i .i32 13))),zo 13 (.pick (.t 10) (.c (.b true)) (.t 12)),zV 14 13,j_ 15 14 0,fC 16 14 (.bin .eql 21 (.t 15) (.c (.i .i32 10))),zo 17 (.pick (.t 14) (.c (.b true)) (.t 16)),zV 3 17]))
 (.cond (.t 3)
 (.seq (.reg [zo 2 (.mv (.c (.i .i64 1)))])
 .ret)
 (.seq (.cut [0] (.reg [zV 19 0,zo 20 (.bin .geq 21 (.t 19) (.c (.i .i32 97))),zV 21 20,fM 22 21 0,dn 23 21 (.bin .leq 21 (.t 22) (.c (.i .i32 122))),zo 24 (.pick (.t 21) (.t 23) (.c (.b false))),zV 25 24,j_ 26 25 0,fC 27 25 (.bin .geq 21 (.t 26) (.c (.i .i32 65))),j_ 28 25 27,fM 29 28 0,dn 30 28 (.bin .leq 21 (.t 29) (.c (.i .i32 90))),fC 31 25 (.pick (.t 28) (.t 30) (.c (.b false))),zo 32 (.pick (.t 25) (.c (.b true)) (.t 31)),zV 33 32,j_ 34 33 0,fC 35 33 (.bin .eql 21 (.t 34) (.c (.i .i32 95))),zo 36 (.pick (.t 33) (.c (.b true)) (.t 35)),zV 18 36]))
 (.cut [1000000,0,18] (.cond (.t 18)
 (.seq (.reg [zo 2 (.mv (.c (.i .i64 2)))])
 .ret)
 (.seq (.cut [0] (.reg [zV 38 0,zo 39 (.bin .geq 21 (.t 38) (.c (.i .i32 48))),zV 40 39,fM 41 40 0,dn 42 40 (.bin .leq 21 (.t 41) (.c (.i .i32 57))),zo 43 (.pick (.t 40) (.t 42) (.c (.b false))),zV 37 43]))
 (.cond (.t 37)
 (.seq (.reg [zo 2 (.mv (.c (.i .i64 3)))])
 .ret)
 (.seq (.cut [0] (.reg [zV 45 0,zo 46 (.conv 21 5 (.t 45)),zC 47 60 [.c (.s [40,41,123,125,91,93,44,59,58,61,60,62,43,45,124,94,38,42,47,37,33]),.t 46],zD 48 .geq 3 47 0,zV 49 48,fM 50 49 0,dn 51 49 (.bin .lss 21 (.t 50) (.c (.i .i32 128))),zo 52 (.pick (.t 49) (.t 51) (.c (.b false))),zV 44 52]))
 (.cond (.t 44)
 (.seq (.reg [zo 2 (.mv (.c (.i .i64 4)))])
 .ret)
 .skip))))))))))
 (.seq (.reg [zo 2 (.mv (.c (.i .i64 0)))])
 .ret)))
def F61:AF:=⟨53,[.t 2],c61⟩
def c62L0:AC:=(.seq (.reg [zo 9 (.MR (.t 8)),zE 10 9 0])
 (.seq (.cond (.t 10)
 .skip
 (.exit 0))
 (.blk 1
 (.seq (.cut [0,1,8,9] (.reg [zE 11 9 1,zE 12 9 2,zV 5 11,zV 6 12]))
 (.seq (.cut [0,1,5,6,8] (.reg [zV 13 1,zV 14 6,zC 15 61 [.t 14],zC 16 97 [.t 13,.t 15],zo 17 (.un .not (.t 16))]))
 (.cond (.t 17)
 (.seq (.reg [zV 18 5,zV 4 18])
 .ret)
 .skip))))))
def c62:AC:=(.seq (.reg [zo 4 (.mv (.c (.i .i64 0)))])
 (.seq (.seq (.reg [zV 7 0,zo 8 (.rng 9 (.t 7))])
 (.blk 0
 (.loop [0,1,8] c62L0)))
 (.seq (.cut [0] (.reg [zV 19 0,zo 20 (.len 9 (.t 19)),zV 4 20]))
 .ret)))
def F62:AF:=⟨21,[.t 4],c62⟩
def c63:AC:=(.seq (.reg [zo 4 (.mv (.c (.b false)))])
 (.seq (.cut [0,1] (.reg [zV 5 0,zV 6 1,zC 7 98 [.t 5,.t 6],zD 8 .geq 3 7 0,zV 4 8]))
 .ret))
def F63:AF:=⟨9,[.t 4],c63⟩
def c64:AC:=(.seq (.reg [zo 0 (.mv (.c (.sl0)))])
 (.seq (.reg [zC 1 99 [.c (.s [102,117,110,99,32,118,97,114,32,112,116,114,32,105,102,32,101,108,115,101,32,119,104,105,108,101,32,111,117,116,32,102,114,101,101,32,100,114,97,105,110,32,114,101,116,117,114,110,32,110,101,119,32,105,110])],zV 0 1])
 .ret))
def F64:AF:=⟨2,[.t 0],c64⟩
def c66:AC:=(.seq (.reg [zo 2 (.mv (.c (.b false)))])
 (.seq (.cut [0] (.gJ [(zV 3 0,[]),(zo 4 (.len 9 (.t 3)),[]),(zD 5 .geq 3 4 2,[]),(zV 6 5,[]),(fM 8 6 0,[]),(dn 9 6 (.slc 9 (.t 8) none (some (.c (.i .i64 2)))),[]),(dn 7 6 (.call (.c (.fn (.func 99) [] [])) [.c (.s [124,124,32,38,38,32,61,61,32,33,61,32,60,61,32,62,61,32,60,60,32,62,62])]),[dn 9 6 (.slc 9 (.t 8) none (some (.c (.i .i64 2))))]),(dn 10 6 (.call (.c (.fn (.func 63) [] [])) [.t 7,.t 9]),[]),(zo 11 (.pick (.t 6) (.t 10) (.c (.b false))),[]),(zV 2 11,[])]))
 .ret))
def F66:AF:=⟨12,[.t 2],c66⟩
def c67:AC:=(.seq (.cut [0,1] (.reg [zV 4 0,zV 5 1,zC 6 71 [.t 4,.t 5],zo 7 (.un .not (.t 6))]))
 (.cond (.t 7)
 (.reg [zV 8 0,zC 9 102 [.t 8,.c (.i .i64 4)]])
 .skip))
def F67:AF:=⟨10,[],c67⟩
def c68:AC:=(.seq (.reg [zo 2 (.mv (.c (.s [])))])
 (.seq (.cut [0] (.reg [zV 4 0,zC 5 40 [.t 4],zo 3 (.alloc 108),zS 108 3 5]))
 (.seq (.seq (.cut [0,3] (.reg [zV 6 0,zC 7 39 [.t 6],zV 8 7,fC 9 8 (.mF 108 (.t 3) 0),fC 10 8 (.load 3 (.t 9)),fC 11 8 (.bin .neq 3 (.t 10) (.c (.i .i64 1))),zo 12 (.pick (.t 8) (.c (.b true)) (.t 11))]))
 (.cond (.t 12)
 (.seq (.reg [zV 13 0,zC 14 102 [.t 13,.c (.i .i64 4)]])
 (.seq (.reg [zo 2 (.mv (.c (.s [])))])
 .ret))
 .skip))
 (.seq (.reg [zV 15 0,zC 16 103 [.t 15]])
 (.seq (.cut [3] (.reg [zF 17 108 3 1,zL 18 9 17,zV 2 18]))
 .ret)))))
def F68:AF:=⟨19,[.t 2],c68⟩
def c69:AC:=(.seq (.reg [zo 2 (.box 104 (.t 0)),zo 3 (.box 1 (.t 1))])
 (.cut [2,3] (.reg [zL 4 104 2,zo 5 (.rQ (.func 105) [] [.t 2,.t 3]),zC 6 104 [.t 4,.c (.s [40]),.t 5]])))
def F69:AF:=⟨7,[],c69⟩
def c70:AC:=(.seq (.cut [0,1] (.reg [zL 3 104 0,zC 4 68 [.t 3],zo 5 (.build 177 [(0,.t 4)]),zo 2 (.alloc 177),zS 177 2 5]))
 (.seq (.cut [0,1,2] (.reg [zL 6 104 0,zC 7 71 [.t 6,.c (.s [112,116,114])],zF 8 177 2 1,zS 4 8 7]))
 (.cut [1,2] (.gJ [(zL 9 110 1,[]),(zL 10 110 1,[]),(zN 11 10,[]),(zF 12 172 11 1,[]),(zL 13 169 12,[]),(zL 14 177 2,[]),(zo 15 (.jo 169 1 [(0,.t 14)]),[zL 9 110 1,zL 10 110 1,zL 13 169 12]),(zo 16 (.app 169 false (.t 13) (.t 15)),[zL 9 110 1]),(zN 17 9,[]),(zF 18 172 17 1,[]),(zS 169 18 16,[])]))))
def F70:AF:=⟨19,[],c70⟩
def c71:AC:=(.seq (.reg [zo 4 (.mv (.c (.b false)))])
 (.seq (.seq (.cut [0,1] (.reg [zV 5 0,zV 6 1,zo 7 (.jo 163 1 [(0,.t 6)]),zC 8 106 [.t 5,.t 7],zo 9 (.un .not (.t 8))]))
 (.cond (.t 9)
 (.seq (.reg [zo 4 (.mv (.c (.b false)))])
 .ret)
 .skip))
 (.seq (.reg [zV 10 0,zC 11 103 [.t 10]])
 (.seq (.reg [zo 4 (.mv (.c (.b true)))])
 .ret))))
def F71:AF:=⟨12,[.t 4],c71⟩
def c72:AC:=(.seq (.reg [zo 1 (.box 104 (.t 0)),zo 2 (.alloc 170)])
 (.seq (.cut [1,2] (.reg [zL 3 104 1,zo 4 (.rQ (.func 107) [] [.t 1,.t 2]),zC 5 104 [.t 3,.c (.s [123]),.t 4]]))
 (.seq (.reg [zL 6 170 2,zS 170 2 6])
 .ret)))
def F72:AF:=⟨7,[.cell 2 170],c72⟩
def c74L0:AC:=(.seq (.reg [zB 16 .lss 3 15 14])
 (.seq (.cond (.t 16)
 .skip
 (.exit 0))
 (.seq (.blk 1
 (.seq (.cut [0,13,14,15] (.reg [zV 17 15,zo 18 (.iF 37 (.t 13) (.t 15)),zL 19 110 18,zV 4 17,zV 5 19]))
 (.seq (.cut [0,4,5,13,14,15] (.iO [zV 20 5,zo 21 (.bin .neq 110 (.t 20) (.c (.p0))),zC 22 77 [.t 21,.c (.i .i64 2),.c (.i .i64 0)]]))
 (.seq (.cut [0,4,5,13,14,15] (.iO [zV 23 4,zD 24 .lss 3 23 200,zV 25 5,zN 26 25,zF 27 172 26 4,zL 28 3 27,zC 29 77 [.t 24,.c (.i .i64 3),.t 28]]))
 (.seq (.cut [0,5,13,14,15] (.gJ [(zV 31 0,[]),(zN 32 31,[]),(zF 33 185 32 0,[]),(zL 34 182 33,[]),(zV 35 5,[]),(zN 36 35,[]),(zF 37 172 36 0,[]),(zL 38 9 37,[]),(zo 39 (.uN 182 (.t 34) (.t 38) true),[]),(zV 30 39,[]),(zE 40 30 0,[]),(zE 41 30 1,[]),(zV 6 40,[]),(zV 7 41,[])]))
 (.cut [1000000,0,5,7,13,14,15] (.seq (.cut [0,5,7,13,14,15] (.iO [zV 42 7,zo 43 (.un .not (.t 42)),zV 44 5,zN 45 44,zF 46 172 45 4,zL 47 3 46,zC 48 77 [.t 43,.c (.i .i64 11),.t 47]]))
 (.cut [0,5,13,14,15] (.gJ [(zV 49 0,[]),(zN 50 49,[]),(zF 51 185 50 0,[]),(zL 52 182 51,[]),(zV 53 5,[]),(zN 54 53,[]),(zF 55 172 54 0,[]),(zL 56 9 55,[]),(zV 57 5,[]),(zn (.mW 182 (.t 52) (.t 56) (.t 57)),[])])))))))))
 (.reg [zD 58 .add 3 15 1,zV 15 58]))))
def c74:AC:=(.seq (.seq (.cut [0,1] (.reg [zV 10 1,zN 11 10,zF 12 39 11 0,zL 13 37 12,zo 14 (.len 37 (.t 13)),zo 15 (.mv (.c (.i .i64 0)))]))
 (.blk 0
 (.loop [0,13,14,15] c74L0)))
 (.seq (.cut [0] (.reg [zV 60 0,zN 61 60,zF 62 185 61 0,zL 63 182 62,zo 64 (.uN 182 (.t 63) (.c (.s [109,97,105,110])) true),zV 59 64,zE 65 59 0,zE 66 59 1,zV 8 65,zV 9 66]))
 (.cut [1000000,8,9] (.seq (.iO [zV 67 9,zC 68 77 [.t 67,.c (.i .i64 5),.c (.i .i64 0)]])
 (.cut [8] (.iM [(zV 69 8,[]),(zN 70 69,[]),(zF 71 172 70 1,[]),(zL 72 169 71,[]),(zo 73 (.len 169 (.t 72)),[]),(zD 74 .eql 3 73 0,[]),(zV 75 74,[]),(fM 76 75 8,[]),(dn 77 75 (.fF (.t 76)),[]),(dn 78 75 (.mF 172 (.t 77) 2),[]),(dn 79 75 (.load 4 (.t 78)),[]),(dn 80 75 (.un .not (.t 79)),[]),(zo 81 (.pick (.t 75) (.t 80) (.c (.b false))),[]),(zV 82 8,[]),(zN 83 82,[]),(zF 84 172 83 4,[]),(zL 85 3 84,[]),(zC 86 77 [.t 81,.c (.i .i64 10),.t 85],[])]))))))
def F74:AF:=⟨87,[],c74⟩
def c75L0:AC:=(.seq (.reg [zB 19 .lss 3 18 17])
 (.seq (.cond (.t 19)
 .skip
 (.exit 0))
 (.seq (.blk 1
 (.seq (.cut [1,4,16,17,18] (.reg [zo 20 (.iF 169 (.t 16) (.t 18)),zL 21 177 20,zo 6 (.alloc 177),zS 177 6 21]))
 (.cut [1,4,6,16,17,18] (.iM [(zV 22 4,[]),(zF 23 177 6 0,[]),(zL 24 9 23,[]),(zF 25 177 6 1,[]),(zL 26 4 25,[]),(zV 27 1,[]),(zN 28 27,[]),(zF 29 172 28 4,[]),(zL 30 3 29,[]),(zC 31 109 [.t 22,.t 24,.t 26,.t 30],[])]))))
 (.reg [zD 32 .add 3 18 1,zV 18 32]))))
def c75:AC:=(.seq (.cut [0,1] (.reg [zV 7 0,zV 8 1,zo 9 (.Ei 222 none),zo 10 (.Ei 222 none),zo 11 (.build 224 [(0,.t 7),(1,.t 8),(2,.t 9),(3,.t 10)]),zo 12 (.box 224 (.t 11)),zV 4 12]))
 (.seq (.seq (.cut [1,4] (.reg [zV 13 1,zN 14 13,zF 15 172 14 1,zL 16 169 15,zo 17 (.len 169 (.t 16)),zo 18 (.mv (.c (.i .i64 0)))]))
 (.blk 0
 (.loop [1,4,16,17,18] c75L0)))
 (.cut [1,4] (.iM [(zV 33 4,[]),(zV 34 1,[]),(zN 35 34,[]),(zF 36 172 35 3,[]),(zL 37 170 36,[]),(zV 38 1,[]),(zN 39 38,[]),(zF 40 172 39 4,[]),(zL 41 3 40,[]),(zC 42 110 [.t 33,.t 37,.t 41],[])]))))
def F75:AF:=⟨43,[],c75⟩
def c76L0:AC:=(.seq (.reg [zB 18 .lss 3 17 16])
 (.seq (.cond (.t 18)
 .skip
 (.exit 2))
 (.seq (.blk 3
 (.seq (.cut [1,5,6,7,15,16,17] (.reg [zV 19 17,zo 20 (.iF 37 (.t 15) (.t 17)),zL 21 110 20,zV 8 19,zV 9 21]))
 (.seq (.cut [1,5,6,7,8,9,15,16,17] (.reg [zV 22 7,zV 23 9,zo 24 (.call (.t 22) [.t 23])]))
 (.cond (.t 24)
 (.seq (.cut [1,5,6,7,8,9] (.gJ [(zL 25 144 6,[]),(zV 26 9,[]),(zN 27 26,[]),(zF 28 172 27 0,[]),(zL 29 9 28,[]),(zn (.mW 144 (.t 25) (.t 29) (.c (.i .i64 1))),[])]))
 (.seq (.cut [1,5,6,7,8] (.reg [zV 30 5,zV 31 8,zo 32 (.jo 22 1 [(0,.t 31)]),zo 33 (.app 22 false (.t 30) (.t 32)),zV 5 33]))
 (.exit 1)))
 .skip))))
 (.reg [zD 34 .add 3 17 1,zV 17 34]))))
def c76L1:AC:=(.blk 1
 (.seq (.seq (.cut [1,5,6,7] (.reg [zV 12 1,zN 13 12,zF 14 39 13 0,zL 15 37 14,zo 16 (.len 37 (.t 15)),zo 17 (.mv (.c (.i .i64 0)))]))
 (.blk 2
 (.loop [1,5,6,7,15,16,17] c76L0)))
 (.seq (.reg [zV 35 5,zV 4 35])
 .ret)))
def c76:AC:=(.seq (.reg [zo 2 (.box 181 (.t 0)),zo 4 (.mv (.c (.sl0)))])
 (.seq (.reg [zo 5 (.mv (.c (.sl0)))])
 (.seq (.cut [1,2,5] (.reg [zo 10 (.Ei 144 none),zo 6 (.alloc 144),zS 144 6 10]))
 (.seq (.reg [zo 11 (.rQ (.func 111) [] [.t 2,.t 6]),zV 7 11])
 (.seq .skip
 (.blk 0
 (.loop [1,5,6,7] c76L1)))))))
def F76:AF:=⟨36,[.t 4],c76⟩
def c77:AC:=(.seq (.reg [zV 6 0,zo 7 (.un .not (.t 6))])
 (.cond (.t 7)
 (.cut [1,2] (.iO [zV 8 1,zV 9 2,zC 10 112 [.t 8,.t 9]]))
 .skip))
def F77:AF:=⟨11,[],c77⟩
def c78:AC:=(.seq (.reg [zo 2 (.box 181 (.t 0)),zo 4 (.mv (.c (.b false)))])
 (.seq (.cut [1,2] (.reg [zo 7 (.Ei 144 none),zo 5 (.alloc 144),zS 144 5 7]))
 (.seq (.reg [zo 6 (.alloc 173)])
 (.seq (.reg [zo 8 (.rQ (.func 113) [] [.t 2,.t 5,.t 6]),zS 173 6 8])
 (.seq (.cut [1,5,6] (.reg [zL 9 173 6,zV 10 1,zo 11 (.call (.t 9) [.t 10])]))
 (.seq (.cut [1,5] (.reg [zL 12 144 5,zV 13 1,zo 14 (.uN 144 (.t 12) (.t 13) false),zD 15 .gtr 3 14 0,zV 4 15]))
 .ret))))))
def F78:AF:=⟨16,[.t 4],c78⟩
def c79:AC:=(.seq (.reg [zo 2 (.mv (.c (.b false)))])
 (.seq (.cut [0] (.reg [zV 3 0,zD 4 .eql 3 3 1,zV 5 4,j_ 6 5 0,fC 7 5 (.bin .eql 3 (.t 6) (.c (.i .i64 2))),zo 8 (.pick (.t 5) (.c (.b true)) (.t 7)),zV 9 8,j_ 10 9 0,fC 11 9 (.bin .eql 3 (.t 10) (.c (.i .i64 4))),zo 12 (.pick (.t 9) (.c (.b true)) (.t 11)),zV 2 12]))
 .ret))
def F79:AF:=⟨13,[.t 2],c79⟩
def c80L0:AC:=(.seq (.reg [zB 27 .lss 3 26 25])
 (.seq (.cond (.t 27)
 .skip
 (.exit 0))
 (.seq (.blk 1
 (.seq (.reg [zV 28 26,zV 9 28])
 (.cut [0,1,3,9,25,26] (.reg [zV 29 0,zV 30 1,zV 31 9,zB 32 .add 3 30 31,zV 33 3,zV 34 9,zo 35 (.bin .mul 3 (.c (.i .i64 8)) (.t 34)),zB 36 .shr 59 33 35,zo 37 (.conv 59 5 (.t 36)),zo 38 (.iF 29 (.t 29) (.t 32)),zS 5 38 37]))))
 (.reg [zD 39 .add 3 26 1,zV 26 39]))))
def c80:AC:=(.seq (.reg [zo 8 (.mv (.c (.b false)))])
 (.seq (.seq (.cut [0,1,2,3] (.reg [zV 10 2,zC 11 79 [.t 10],zo 12 (.un .not (.t 11)),zV 13 12,j_ 14 13 1,fC 15 13 (.bin .lss 3 (.t 14) (.c (.i .i64 0))),zo 16 (.pick (.t 13) (.c (.b true)) (.t 15)),zV 17 16,j_ 18 17 1,j_ 19 17 0,fC 20 17 (.len 29 (.t 19)),j_ 21 17 2,fC 22 17 (.bin .sub 3 (.t 20) (.t 21)),fC 23 17 (.bin .gtr 3 (.t 18) (.t 22)),zo 24 (.pick (.t 17) (.c (.b true)) (.t 23))]))
 (.cond (.t 24)
 (.seq (.reg [zo 8 (.mv (.c (.b false)))])
 .ret)
 .skip))
 (.seq (.seq (.reg [zV 25 2,zo 26 (.mv (.c (.i .i64 0)))])
 (.blk 0
 (.loop [0,1,3,25,26] c80L0)))
 (.seq (.reg [zo 8 (.mv (.c (.b true)))])
 .ret))))
def F80:AF:=⟨40,[.t 8],c80⟩
def c81L0:AC:=(.seq (.reg [zB 11 .lss 3 10 9])
 (.seq (.cond (.t 11)
 .skip
 (.exit 0))
 (.seq (.blk 1
 (.seq (.cut [0,8,9,10] (.reg [zo 12 (.iF 229 (.t 8) (.t 10)),zL 13 194 12,zo 5 (.alloc 194),zS 194 5 13]))
 (.seq (.cut [0,5,8,9,10] (.reg [zL 15 194 5,zC 16 89 [.t 15],zV 14 16,zE 17 14 0,zE 18 14 1,zV 6 17,zV 7 18]))
 (.seq (.cut [0,6,7,8,9,10] (.reg [zV 19 0,zV 20 0,zN 21 20,zF 22 139 21 5,zL 23 4 22,zV 24 23,j_ 25 24 7,fC 26 24 (.bin .neq 28 (.t 25) (.c (.i .i64 0))),zo 27 (.pick (.t 24) (.c (.b true)) (.t 26)),zV 28 27,j_ 29 28 0,fC 30 28 (.fF (.t 29)),fC 31 28 (.mF 139 (.t 30) 0),fC 32 28 (.load 30 (.t 31)),fC 33 28 (.len 30 (.t 32)),fC 34 28 (.bin .geq 3 (.t 33) (.c (.i .i64 4096))),zo 35 (.pick (.t 28) (.c (.b true)) (.t 34)),zN 36 19,zF 37 139 36 5,zS 4 37 35]))
 (.cut [1000000,0,6,8,9,10] (.cut [0,6,8,9,10] (.reg [zV 38 0,zV 39 0,zN 40 39,zF 41 139 40 0,zL 42 30 41,zV 43 6,zo 44 (.jo 30 1 [(0,.t 43)]),zo 45 (.app 30 false (.t 42) (.t 44)),zN 46 38,zF 47 139 46 0,zS 30 47 45])))))))
 (.reg [zD 48 .add 3 10 1,zV 10 48]))))
def c81:AC:=(.seq (.cut [0,1] (.reg [zV 8 1,zo 9 (.len 229 (.t 8)),zo 10 (.mv (.c (.i .i64 0)))]))
 (.blk 0
 (.loop [0,8,9,10] c81L0)))
def F81:AF:=⟨49,[],c81⟩
def c82:AC:=(.cut [0,1,2] (.gJ [(zL 3 134 0,[]),(zL 4 3 1,[]),(zL 5 3 2,[]),(zL 6 134 0,[]),(zN 7 6,[]),(zF 8 139 7 0,[]),(zL 9 30 8,[]),(zo 10 (.len 30 (.t 9)),[]),(zC 11 51 [.t 3,.t 4,.t 5,.t 10],[])]))
def F82:AF:=⟨12,[],c82⟩
def c83:AC:=(.seq (.reg [zo 2 (.mv (.c (.sl0)))])
 (.seq (.seq (.reg [zV 6 0,zo 7 (.bin .eql 110 (.t 6) (.c (.p0)))])
 (.cond (.t 7)
 (.seq (.reg [zo 2 (.mv (.c (.sl0)))])
 .ret)
 .skip))
 (.seq (.cut [0] (.reg [zV 8 0,zN 9 8,zF 10 172 9 1,zL 11 169 10,zo 12 (.app 169 false (.c (.sl0)) (.t 11)),zo 3 (.alloc 169),zS 169 3 12]))
 (.seq (.reg [zo 4 (.alloc 3),zn (.store 3 (.t 4) (.c (.i .i64 65536)))])
 (.seq (.reg [zo 5 (.alloc 230)])
 (.seq (.reg [zo 13 (.rQ (.func 114) [] [.t 4,.t 3,.t 5]),zS 230 5 13])
 (.seq (.cut [0,3,5] (.gJ [(zL 14 230 5,[]),(zV 15 0,[]),(zN 16 15,[]),(zF 17 172 16 3,[]),(zL 18 170 17,[]),(zo 19 (.call (.t 14) [.t 18]),[])]))
 (.seq (.reg [zL 20 169 3,zV 2 20])
 .ret))))))))
def F83:AF:=⟨21,[.t 2],c83⟩
def c84:AC:=(.cut [0,1,2] (.reg [zV 6 0,zV 7 1,zV 8 2,zC 9 115 [.t 6,.c (.i .i64 24),.t 7,.t 8]]))
def F84:AF:=⟨10,[],c84⟩
def c85L0:AC:=(.seq (.reg [zB 11 .lss 3 10 9])
 (.seq (.cond (.t 11)
 .skip
 (.exit 0))
 (.seq (.blk 1
 (.seq (.cut [0,1,8,9,10] (.reg [zo 12 (.iF 170 (.t 8) (.t 10)),zL 13 218 12,zV 7 13]))
 (.cut [0,1,7,8,9,10] (.reg [zV 14 0,zV 15 1,zV 16 7,zC 17 116 [.t 14,.t 15,.t 16]]))))
 (.reg [zD 18 .add 3 10 1,zV 10 18]))))
def c85:AC:=(.seq (.cut [0,1,2] (.reg [zV 8 2,zo 9 (.len 170 (.t 8)),zo 10 (.mv (.c (.i .i64 0)))]))
 (.blk 0
 (.loop [0,1,8,9,10] c85L0)))
def F85:AF:=⟨19,[],c85⟩
def c86:AC:=(.blk 0
 (.seq (.cut [0,1,2] (.reg [zV 9 1,zo 10 (.bin .neq 231 (.t 9) (.c (.p0))),zV 8 10]))
 (.cond (.t 8)
 (.seq (.cut [0,1] (.reg [zV 11 0,zV 12 1,zC 13 117 [.t 11,.t 12,.c (.i .i64 0)]]))
 (.cut [0] (.reg [zV 14 0,zC 15 88 [.c (.i .i64 31),.c (.i .i64 10),.c (.i .i64 3),.c (.i .i64 0)],zo 16 (.jo 229 1 [(0,.t 15)]),zC 17 81 [.t 14,.t 16]])))
 (.seq (.reg [zV 19 2,zV 18 19])
 (.cond (.t 18)
 (.reg [zV 20 0,zC 21 118 [.t 20,.c (.i .i64 10)]])
 (.reg [zV 6 0,zC 7 119 [.t 6,.c (.i .i64 10),.c (.i .u32 0)]]))))))
def F86:AF:=⟨22,[],c86⟩
def c87:AC:=(.cut [0,1,2] (.reg [zV 6 0,zV 7 1,zV 8 2,zC 9 115 [.t 6,.c (.i .i64 23),.t 7,.t 8]]))
def F87:AF:=⟨10,[],c87⟩
def c88:AC:=(.seq (.reg [zo 8 (.alloc 194)])
 (.seq (.cut [0,1,2,3,8] (.reg [zV 9 0,zV 10 1,zV 11 2,zV 12 3,zo 13 (.build 194 [(0,.t 9),(1,.t 10),(2,.t 11),(3,.t 12)]),zS 194 8 13]))
 .ret))
def F88:AF:=⟨14,[.cell 8 194],c88⟩
def c89L0:AC:=(.seq (.reg [zo 24 (.MR (.t 23)),zE 25 24 0])
 (.seq (.cond (.t 25)
 .skip
 (.exit 0))
 (.blk 1
 (.seq (.reg [zE 26 24 2,zV 9 26])
 (.seq (.reg [zV 27 9])
 (.blk 2
 (.seq (.reg [zo 29 (.bin .eql 21 (.t 27) (.c (.i .i32 97))),zV 28 29])
 (.cond (.t 28)
 (.cut [1,4,5,6,7,23] (.reg [zV 30 6,zF 31 194 1 1,zo 32 (.call (.t 30) [.t 31,.c (.i .i64 20),.c (.i .i64 4),.c (.b false)])]))
 (.seq (.reg [zo 34 (.bin .eql 21 (.t 27) (.c (.i .i32 98))),zV 33 34])
 (.cond (.t 33)
 (.cut [1,4,5,6,7,23] (.reg [zV 35 6,zF 36 194 1 2,zo 37 (.call (.t 35) [.t 36,.c (.i .i64 16),.c (.i .i64 4),.c (.b false)])]))
 (.seq (.reg [zo 39 (.bin .eql 21 (.t 27) (.c (.i .i32 99))),zV 38 39])
 (.cond (.t 38)
 (.cut [1,4,5,6,7,23] (.reg [zV 40 6,zF 41 194 1 3,zo 42 (.call (.t 40) [.t 41,.c (.i .i64 12),.c (.i .i64 4),.c (.b false)])]))
 (.seq (.reg [zo 44 (.bin .eql 21 (.t 27) (.c (.i .i32 105))),zV 43 44])
 (.cond (.t 43)
 (.cut [1,4,5,6,7,23] (.reg [zV 45 6,zF 46 194 1 4,zo 47 (.call (.t 45) [.t 46,.c (.i .i64 0),.c (.i .i64 12),.c (.b true)])]))
 (.seq (.reg [zo 49 (.bin .eql 21 (.t 27) (.c (.i .i32 106))),zV 48 49])
 (.cond (.t 48)
 (.cut [1,4,5,6,7,23] (.reg [zV 50 6,zF 51 194 1 4,zo 52 (.call (.t 50) [.t 51,.c (.i .i64 0),.c (.i .i64 20),.c (.b true)])]))
 .skip))))))))))))))))
def c89:AC:=(.seq (.cut [0] (.reg [zo 1 (.box 194 (.t 0)),zo 2 (.mv (.c (.i .u32 0))),zo 3 (.mv (.c (.i .i64 0)))]))
 (.seq (.seq (.cut [1] (.reg [zF 10 194 1 0,zL 11 3 10,zC 12 120 [.t 11],zo 13 (.bin .eql 9 (.t 12) (.c (.s [])))]))
 (.cond (.t 13)
 (.seq (.reg [zo 2 (.mv (.c (.i .u32 0))),zo 3 (.mv (.c (.i .i64 2)))])
 .ret)
 .skip))
 (.seq (.cut [1] (.reg [zF 14 194 1 0,zL 15 3 14,zo 16 (.conv 3 59 (.t 15)),zo 17 (.bin .shl 59 (.t 16) (.c (.i .u64 24))),zo 4 (.alloc 59),zS 59 4 17]))
 (.seq (.reg [zo 5 (.alloc 4),zn (.store 4 (.t 5) (.c (.b false)))])
 (.seq (.reg [zo 18 (.rQ (.func 121) [] [.t 5,.t 4]),zV 6 18])
 (.seq (.cut [1,4,5,6] (.reg [zF 19 194 1 0,zL 20 3 19,zV 7 20]))
 (.seq (.seq (.cut [1,4,5,6,7] (.reg [zV 21 7,zC 22 122 [.t 21],zo 23 (.rng 9 (.t 22))]))
 (.blk 0
 (.loop [1,4,5,6,7,23] c89L0)))
 (.seq (.seq (.cut [1,4,5,7] (.reg [zL 53 4 5,zV 54 53,fC 55 54 (.load 194 (.t 1)),j_ 56 54 7,fC 57 54 (.build 194 [(0,.t 56)]),fC 58 54 (.bin .neq 194 (.t 55) (.t 57)),zo 59 (.pick (.t 54) (.c (.b true)) (.t 58))]))
 (.cond (.t 59)
 (.seq (.reg [zo 2 (.mv (.c (.i .u32 0))),zo 3 (.mv (.c (.i .i64 2)))])
 .ret)
 .skip))
 (.seq (.cut [4] (.reg [zL 60 59 4,zV 2 60,zo 3 (.mv (.c (.i .i64 0)))]))
 .ret)))))))))
def F89:AF:=⟨61,[.t 2,.t 3],c89⟩
def c90:AC:=(.seq (.reg [zo 4 (.mv (.c (.b false)))])
 (.seq (.cut [0,1] (.reg [zV 5 0,zV 6 1,zC 7 123 [.t 5,.t 6],zD 8 .geq 3 7 0,zV 4 8]))
 .ret))
def F90:AF:=⟨9,[.t 4],c90⟩
def c91L0:AC:=(.seq (.reg [zB 9 .lss 3 8 7])
 (.seq (.cond (.t 9)
 .skip
 (.exit 0))
 (.seq (.blk 1
 (.seq (.reg [zV 10 8,zV 5 10])
 (.seq (.cut [0,1,5,7,8] (.reg [zV 11 1,zV 12 0,zV 13 5,zo 14 (.iF 30 (.t 12) (.t 13)),zL 15 59 14,zo 16 (.call (.t 11) [.t 15])]))
 (.cond (.t 16)
 (.seq (.reg [zV 17 5,zV 4 17])
 .ret)
 .skip))))
 (.reg [zD 18 .add 3 8 1,zV 8 18]))))
def c91:AC:=(.seq (.reg [zo 4 (.mv (.c (.i .i64 0)))])
 (.seq (.seq (.cut [0,1] (.reg [zV 6 0,zo 7 (.len 30 (.t 6)),zo 8 (.mv (.c (.i .i64 0)))]))
 (.blk 0
 (.loop [0,1,7,8] c91L0)))
 (.seq (.reg [zo 4 (.mv (.c (.i .i64 (-1))))])
 .ret)))
def F91:AF:=⟨19,[.t 4],c91⟩
def c92:AC:=(.seq (.reg [zo 5 (.alloc 84)])
 (.seq (.cut [0,1,2,5] (.reg [zL 7 59 2,zV 8 1,zB 9 .add 59 7 8,zo 10 (.bin .sub 59 (.t 9) (.c (.i .u32 1))),zV 11 1,zo 12 (.bin .sub 59 (.t 11) (.c (.i .u32 1))),zB 13 .andNot 59 10 12,zS 59 2 13]))
 (.seq (.cut [0,2,5] (.reg [zL 14 59 2,zV 15 0,zo 16 (.build 84 [(0,.t 14),(1,.t 15)]),zo 6 (.alloc 84),zS 84 6 16]))
 (.seq (.cut [0,2,5,6] (.reg [zL 17 59 2,zV 18 0,zB 19 .add 59 17 18,zS 59 2 19]))
 (.seq (.reg [zL 20 84 6,zS 84 5 20])
 .ret)))))
def F92:AF:=⟨21,[.cell 5 84],c92⟩
def c93:AC:=(.seq (.reg [zo 2 (.mv (.c (.i .u32 0))),zo 3 (.mv (.c (.i .u32 0)))])
 (.seq (.cut [0] (.reg [zV 5 0,zD 6 .add 3 5 256,zD 7 .sub 3 6 1,zo 8 (.conv 3 59 (.t 7)),zo 9 (.bin .andNot 59 (.t 8) (.c (.i .u32 255))),zC 10 124 [.t 9],zV 4 10,zE 11 4 0,zE 12 4 1,zV 2 11,zV 3 12]))
 (.seq (.cut [2,3] (.reg [zV 13 2,zV 14 3,zo 15 (.mn true [.t 14,.c (.i .u32 256)]),zV 2 13,zV 3 15]))
 .ret)))
def F93:AF:=⟨16,[.t 2,.t 3],c93⟩
def c94:AC:=(.seq (.cut [0,1] (.reg [zo 4 (.mv (.c (.i .u8 0))),zo 5 (.mv (.c (.i .u16 0))),zo 6 (.mv (.c (.i .u16 0))),zo 7 (.mv (.c (.b false))),zo 8 (.mv (.c (.b false)))]))
 (.seq (.seq (.cut [0,1] (.reg [zV 12 0,zV 13 1,zC 14 125 [.t 12,.t 13],zo 15 (.un .not (.t 14))]))
 (.cond (.t 15)
 (.seq (.cut [] (.reg [zo 4 (.mv (.c (.i .u8 0))),zo 5 (.mv (.c (.i .u16 0))),zo 6 (.mv (.c (.i .u16 0))),zo 7 (.mv (.c (.b false))),zo 8 (.mv (.c (.b false)))]))
 .ret)
 .skip))
 (.seq (.cut [0,1] (.reg [zV 16 0,zV 17 1,zC 18 126 [.t 16,.t 17],zV 9 18]))
 (.seq (.cut [0,1,9] (.reg [zV 20 0,zV 21 1,zV 22 9,zC 23 127 [.t 20,.t 21,.t 22],zV 19 23,zE 24 19 0,zE 25 19 1,zV 10 24,zV 11 25]))
 (.cut [1000000,0,1,9,10,11] (.seq (.cut [0,1,9,10,11] (.gJ [(zV 26 9,[]),(zo 27 (.wu true 3 5 (.t 26)),[]),(zV 28 10,[]),(zV 29 9,[]),(zB 30 .shr 165 28 29,[]),(zo 31 (.bin .and 165 (.t 30) (.c (.i .u64 4095))),[]),(zo 32 (.wu true 165 97 (.t 31)),[]),(zV 33 11,[]),(zV 34 9,[]),(zB 35 .shr 165 33 34,[]),(zo 36 (.bin .and 165 (.t 35) (.c (.i .u64 4095))),[]),(zo 37 (.wu true 165 97 (.t 36)),[]),(zV 38 10,[]),(zV 39 0,[]),(zo 40 (.wu true 59 165 (.t 39)),[]),(zB 41 .eql 165 38 40,[]),(zV 42 41,[]),(fM 43 42 11,[]),(fM 44 42 1,[]),(dn 45 42 (.bin .eql 165 (.t 43) (.t 44)),[]),(zo 46 (.pick (.t 42) (.t 45) (.c (.b false))),[]),(zV 4 27,[]),(zV 5 32,[]),(zV 6 37,[]),(zV 7 46,[]),(zo 8 (.mv (.c (.b true))),[])]))
 .ret))))))
def F94:AF:=⟨47,[.t 4,.t 5,.t 6,.t 7,.t 8],c94⟩
def c95:AC:=(.seq (.reg [zo 4 (.mv (.c (.b false)))])
 (.seq (.cut [0,1] (.reg [zV 5 0,zo 6 (.len 9 (.t 5)),zV 7 1,zo 8 (.len 9 (.t 7)),zB 9 .geq 3 6 8,zV 10 9,fM 11 10 0,fM 12 10 1,dn 13 10 (.len 9 (.t 12)),dn 14 10 (.slc 9 (.t 11) none (some (.t 13))),fM 15 10 1,dn 16 10 (.bin .eql 9 (.t 14) (.t 15)),zo 17 (.pick (.t 10) (.t 16) (.c (.b false))),zV 4 17]))
 .ret))
def F95:AF:=⟨18,[.t 4],c95⟩
def c97:AC:=(.seq (.reg [zo 4 (.mv (.c (.b false)))])
 (.seq (.cut [0,1] (.reg [zV 5 0,zV 6 1,zC 7 129 [.t 5,.t 6],zD 8 .geq 3 7 0,zV 4 8]))
 .ret))
def F97:AF:=⟨9,[.t 4],c97⟩
def c98L0:AC:=(.seq (.reg [zB 9 .lss 3 8 7])
 (.seq (.cond (.t 9)
 .skip
 (.exit 0))
 (.seq (.blk 1
 (.seq (.reg [zV 10 8,zV 5 10])
 (.seq (.cut [0,1,5,7,8] (.reg [zV 11 1,zV 12 0,zV 13 5,zo 14 (.iF 163 (.t 12) (.t 13)),zL 15 9 14,zB 16 .eql 9 11 15]))
 (.cond (.t 16)
 (.seq (.reg [zV 17 5,zV 4 17])
 .ret)
 .skip))))
 (.reg [zD 18 .add 3 8 1,zV 8 18]))))
def c98:AC:=(.seq (.reg [zo 4 (.mv (.c (.i .i64 0)))])
 (.seq (.seq (.cut [0,1] (.reg [zV 6 0,zo 7 (.len 163 (.t 6)),zo 8 (.mv (.c (.i .i64 0)))]))
 (.blk 0
 (.loop [0,1,7,8] c98L0)))
 (.seq (.reg [zo 4 (.mv (.c (.i .i64 (-1))))])
 .ret)))
def F98:AF:=⟨19,[.t 4],c98⟩
def c99L0:AC:=(.seq (.seq (.cut [0,3,4,5,6] (.reg [zV 13 6,zV 14 0,zo 15 (.len 9 (.t 14)),zB 16 .lss 3 13 15]))
 (.cond (.t 16)
 .skip
 (.exit 0)))
 (.seq (.blk 1
 (.seq (.cut [0,3,4,5,6] (.reg [zV 19 0,zV 20 6,zo 21 (.idx 9 (.t 19) (.t 20)),zV 7 21]))
 (.seq (.cut [0,3,4,5,6,7] (.reg [zV 22 5,zV 23 7,zB 24 .or 5 22 23,zV 5 24]))
 (.seq (.cut [0,3,4,5,6,7] (.reg [zV 25 7,zo 26 (.iF 247 (.c (.p 1 0 0)) (.t 25)),zL 27 5 26,zo 28 (.conv 5 3 (.t 27)),zV 8 28]))
 (.seq (.cut [0,3,4,5,6,8] (.reg [zV 29 3,zV 30 4,zV 31 8,zo 32 (.un .xor (.t 31)),zB 33 .and 3 30 32,zB 34 .add 3 29 33,zV 3 34]))
 (.reg [zV 35 8,zV 4 35]))))))
 (.cut [0,3,4,5,6] (.reg [zV 17 6,zD 18 .add 3 17 1,zV 6 18]))))
def c99L1:AC:=(.seq (.seq (.cut [0,9,10,12] (.reg [zV 42 12,zV 43 0,zo 44 (.len 9 (.t 43)),zB 45 .lss 3 42 44,zV 46 45,fM 47 46 0,fM 48 46 12,dn 49 46 (.idx 9 (.t 47) (.t 48)),dn 50 46 (.iF 247 (.c (.p 1 0 0)) (.t 49)),dn 51 46 (.load 5 (.t 50)),dn 52 46 (.bin .neq 5 (.t 51) (.c (.i .u8 0))),zo 53 (.pick (.t 46) (.t 52) (.c (.b false)))]))
 (.cond (.t 53)
 .skip
 (.exit 2)))
 (.blk 3
 (.cut [0,9,10,12] (.reg [zV 54 12,zD 55 .add 3 54 1,zV 12 55]))))
def c99L2:AC:=(.seq (.seq (.cut [0,9,10,12] (.reg [zV 80 12,zV 81 0,zo 82 (.len 9 (.t 81)),zB 83 .lss 3 80 82,zV 84 83,fM 85 84 0,fM 86 84 12,dn 87 84 (.idx 9 (.t 85) (.t 86)),dn 88 84 (.iF 247 (.c (.p 1 0 0)) (.t 87)),dn 89 84 (.load 5 (.t 88)),dn 90 84 (.bin .neq 5 (.t 89) (.c (.i .u8 0))),zo 91 (.pick (.t 84) (.t 90) (.c (.b false)))]))
 (.cond (.t 91)
 .skip
 (.exit 6)))
 (.blk 7
 (.cut [0,9,10,12] (.reg [zV 92 12,zD 93 .add 3 92 1,zV 12 93]))))
def c99L3:AC:=(.seq (.seq (.cut [0,9,10,11,12] (.reg [zV 57 12,zV 58 0,zo 59 (.len 9 (.t 58)),zB 60 .lss 3 57 59]))
 (.cond (.t 60)
 .skip
 (.exit 4)))
 (.blk 5
 (.seq (.seq (.cut [0,9,10,11,12] (.reg [zV 61 0,zV 62 12,zo 63 (.idx 9 (.t 61) (.t 62)),zo 64 (.iF 247 (.c (.p 1 0 0)) (.t 63)),zL 65 5 64,zo 66 (.bin .eql 5 (.t 65) (.c (.i .u8 0)))]))
 (.cond (.t 66)
 (.seq (.cut [0,9,10,11,12] (.reg [zV 67 12,zD 68 .add 3 67 1,zV 12 68]))
 (.exit 5))
 .skip))
 (.seq (.cut [0,9,10,11,12] (.reg [zV 69 9,zV 70 10,zV 71 0,zV 72 11,zV 73 12,zo 74 (.slc 9 (.t 71) (some (.t 72)) (some (.t 73))),zo 75 (.iF 163 (.t 69) (.t 70)),zS 9 75 74]))
 (.seq (.cut [0,9,10,12] (.reg [zV 76 10,zD 77 .add 3 76 1,zV 10 77]))
 (.seq (.cut [0,9,10,12] (.reg [zV 78 12,zD 79 .add 3 78 1,zV 12 79]))
 (.seq (.blk 6
 (.loop [0,9,10,12] c99L2))
 (.reg [zV 94 12,zV 11 94]))))))))
def c99:AC:=(.seq (.reg [zo 2 (.mv (.c (.sl0)))])
 (.seq (.reg [zo 3 (.mv (.c (.i .i64 0)))])
 (.seq (.reg [zo 4 (.mv (.c (.i .i64 1)))])
 (.seq (.reg [zo 5 (.mv (.c (.i .u8 0)))])
 (.seq (.seq (.reg [zo 6 (.mv (.c (.i .i64 0)))])
 (.blk 0
 (.loop [0,3,4,5,6] c99L0)))
 (.cut [1000000,0,3,5] (.seq (.seq (.reg [zV 36 5,zo 37 (.bin .geq 5 (.t 36) (.c (.i .u8 128)))])
 (.cond (.t 37)
 (.seq (.cut [0] (.reg [zV 38 0,zC 39 130 [.t 38,.c (.fn (.func 131) [] [])],zV 2 39]))
 .ret)
 .skip))
 (.seq (.cut [0,3] (.reg [zV 40 3,zo 41 (.Kt 163 (.t 40) (.t 40)),zV 9 41]))
 (.seq (.reg [zo 10 (.mv (.c (.i .i64 0)))])
 (.seq (.reg [zo 11 (.mv (.c (.i .i64 0)))])
 (.seq (.reg [zo 12 (.mv (.c (.i .i64 0)))])
 (.seq (.blk 2
 (.loop [0,9,10,12] c99L1))
 (.seq (.reg [zV 56 12,zV 11 56])
 (.seq (.blk 4
 (.loop [0,9,10,11,12] c99L3))
 (.seq (.seq (.cut [0,9,10,11] (.reg [zV 95 11,zV 96 0,zo 97 (.len 9 (.t 96)),zB 98 .lss 3 95 97]))
 (.cond (.t 98)
 (.cut [0,9,10,11] (.reg [zV 99 9,zV 100 10,zV 101 0,zV 102 11,zo 103 (.slc 9 (.t 101) (some (.t 102)) none),zo 104 (.iF 163 (.t 99) (.t 100)),zS 9 104 103]))
 .skip))
 (.seq (.reg [zV 105 9,zV 2 105])
 .ret))))))))))))))))
def F99:AF:=⟨106,[.t 2],c99⟩
def c102:AC:=(.seq (.cut [0,1] (.reg [zV 4 0,zC 5 39 [.t 4],zo 6 (.un .not (.t 5))]))
 (.cond (.t 6)
 (.cut [0,1] (.reg [zV 7 0,zV 8 1,zV 9 0,zC 10 40 [.t 9],zo 11 (.J9 108 (.t 10) 2),zo 12 (.build 53 [(0,.t 8),(1,.t 11)]),zo 13 (.box 53 (.t 12)),zN 14 7,zF 15 106 14 2,zS 49 15 13]))
 .skip))
def Si:AF:=⟨16,[],c102⟩
def c103:AC:=(.seq (.cut [0] (.reg [zV 2 0,zN 3 2,zF 4 106 3 0,zL 5 101 4,zo 6 (.len 101 (.t 5)),zD 7 .gtr 3 6 1]))
 (.cond (.t 7)
 (.cut [0] (.reg [zV 8 0,zV 9 0,zN 10 9,zF 11 106 10 0,zL 12 101 11,zo 13 (.slc 101 (.t 12) (some (.c (.i .i64 1))) none),zN 14 8,zF 15 106 14 0,zS 101 15 13]))
 .skip))
def Sj:AF:=⟨16,[],c103⟩
def c104:AC:=(.seq (.seq (.cut [0,1,2] (.reg [zV 6 0,zV 7 1,zo 8 (.jo 163 1 [(0,.t 7)]),zC 9 106 [.t 6,.t 8],zV 10 9,fM 11 10 0,dn 12 10 (.fF (.t 11)),dn 13 10 (.mF 106 (.t 12) 1),dn 14 10 (.load 3 (.t 13)),dn 15 10 (.bin .geq 3 (.t 14) (.c (.i .i64 64))),zo 16 (.pick (.t 10) (.t 15) (.c (.b false)))]))
 (.cond (.t 16)
 (.reg [zV 17 0,zC 18 102 [.t 17,.c (.i .i64 3)]])
 .skip))
 (.cut [1000000,0,1,2] (.seq (.cut [0,1,2] (.reg [zV 19 0,zV 20 1,zC 21 67 [.t 19,.t 20]]))
 (.seq (.cut [0,2] (.reg [zV 22 0,zN 23 22,zF 24 106 23 1,zL 25 3 24,zD 26 .add 3 25 1,zN 27 22,zF 28 106 27 1,zS 3 28 26]))
 (.seq (.reg [zV 29 2,zo 30 (.call (.t 29) [])])
 (.cut [0] (.reg [zV 31 0,zN 32 31,zF 33 106 32 1,zL 34 3 33,zD 35 .sub 3 34 1,zN 36 31,zF 37 106 36 1,zS 3 37 35])))))))
def Ph:AF:=⟨38,[],c104⟩
def c105L0:AC:=(.seq (.seq (.cut [0,1,2] (.reg [zL 3 104 0,zC 4 39 [.t 3],zo 5 (.un .not (.t 4)),zV 6 5,dn 7 6 (.load 104 (.t 0)),dn 8 6 (.jo 163 1 [(0,.c (.s [41]))]),dn 9 6 (.call (.c (.fn (.func 106) [] [])) [.t 7,.t 8]),dn 10 6 (.un .not (.t 9)),zo 11 (.pick (.t 6) (.t 10) (.c (.b false)))]))
 (.cond (.t 11)
 .skip
 (.exit 0)))
 (.seq (.blk 1
 (.seq (.seq (.reg [zV 12 2,zo 13 (.un .not (.t 12))])
 (.cond (.t 13)
 (.reg [zL 14 104 0,zC 15 67 [.t 14,.c (.s [44])]])
 .skip))
 (.reg [zL 16 1 1,zo 17 (.call (.t 16) [])])))
 (.reg [zo 2 (.mv (.c (.b false)))])))
def c105:AC:=(.seq (.seq (.reg [zo 2 (.mv (.c (.b true)))])
 (.blk 0
 (.loop [0,1,2] c105L0)))
 (.reg [zL 18 104 0,zC 19 67 [.t 18,.c (.s [41])]]))
def Pj:AF:=⟨20,[],c105⟩
def c106:AC:=(.seq (.reg [zo 4 (.mv (.c (.b false)))])
 (.seq (.cut [0,1] (.reg [zV 6 0,zC 7 40 [.t 6],zo 5 (.alloc 108),zS 108 5 7]))
 (.seq (.cut [0,1,5] (.reg [zV 8 0,zC 9 39 [.t 8],zo 10 (.un .not (.t 9)),zV 11 10,dn 12 11 (.mF 108 (.t 5) 0),dn 13 11 (.load 3 (.t 12)),dn 14 11 (.bin .eql 3 (.t 13) (.c (.i .i64 4))),fM 15 11 14,fC 16 15 (.mF 108 (.t 5) 0),fC 17 15 (.load 3 (.t 16)),fC 18 15 (.bin .eql 3 (.t 17) (.c (.i .i64 3))),dn 19 11 (.pick (.t 15) (.c (.b true)) (.t 18)),zo 20 (.pick (.t 11) (.t 19) (.c (.b false))),zV 21 20,fM 22 21 1,dn 23 21 (.mF 108 (.t 5) 1),dn 24 21 (.load 9 (.t 23)),dn 25 21 (.call (.c (.fn (.func 63) [] [])) [.t 22,.t 24]),zo 26 (.pick (.t 21) (.t 25) (.c (.b false))),zV 4 26]))
 .ret)))
def Sl:AF:=⟨27,[.t 4],c106⟩
def c107L0:AC:=(.seq (.seq (.cut [0,1] (.reg [zL 2 104 0,zC 3 39 [.t 2],zo 4 (.un .not (.t 3)),zV 5 4,dn 6 5 (.load 104 (.t 0)),dn 7 5 (.jo 163 1 [(0,.c (.s [125]))]),dn 8 5 (.call (.c (.fn (.func 106) [] [])) [.t 6,.t 7]),dn 9 5 (.un .not (.t 8)),zo 10 (.pick (.t 5) (.t 9) (.c (.b false)))]))
 (.cond (.t 10)
 .skip
 (.exit 0)))
 (.blk 1
 (.cut [0,1] (.gJ [(zL 11 170 1,[]),(zL 12 104 0,[]),(zC 13 108 [.t 12],[zL 11 170 1]),(zo 14 (.jo 170 1 [(0,.t 13)]),[zL 11 170 1]),(zo 15 (.app 170 false (.t 11) (.t 14)),[]),(zS 170 1 15,[])]))))
def c107:AC:=(.seq (.blk 0
 (.loop [0,1] c107L0))
 (.reg [zL 16 104 0,zC 17 67 [.t 16,.c (.s [125])]]))
def Pm:AF:=⟨18,[],c107⟩
def c108:AC:=(.seq (.reg [zo 1 (.box 104 (.t 0)),zo 2 (.mv (.c (.p0)))])
 (.seq (.cut [1] (.reg [zL 8 104 1,zC 9 40 [.t 8],zo 3 (.alloc 108),zS 108 3 9]))
 (.seq (.cut [1,3] (.reg [zF 10 108 3 2,zL 11 3 10,zo 12 (.build 233 [(7,.t 11)]),zo 13 (.box 233 (.t 12)),zo 4 (.alloc 218),zS 218 4 13]))
 (.seq (.reg [zo 14 (.rQ (.func 138) [] [.t 4,.t 1]),zV 5 14])
 (.seq (.seq (.cut [1,3,4,5] (.reg [zF 15 108 3 0,zL 16 3 15,zD 17 .eql 3 16 4,zV 18 17,dn 19 18 (.load 104 (.t 1)),dn 20 18 (.call (.c (.fn (.func 39) [] [])) [.t 19]),dn 21 18 (.un .not (.t 20)),zo 22 (.pick (.t 18) (.t 21) (.c (.b false))),zV 23 22,dn 24 23 (.mF 108 (.t 3) 1),dn 25 23 (.load 9 (.t 24)),dn 26 23 (.bin .neq 9 (.t 25) (.c (.s [110,101,119]))),zo 27 (.pick (.t 23) (.t 26) (.c (.b false))),zV 28 27,dn 29 28 (.mF 108 (.t 3) 1),dn 30 28 (.load 9 (.t 29)),dn 31 28 (.bin .neq 9 (.t 30) (.c (.s [105,110]))),zo 32 (.pick (.t 28) (.t 31) (.c (.b false)))]))
 (.cut [1000000,1,3,4,5,32] (.cond (.t 32)
 (.seq (.reg [zL 33 104 1,zC 34 103 [.t 33]])
 (.seq (.seq (.reg [zF 35 108 3 1,zL 36 9 35])
 (.blk 0
 (.seq (.reg [zo 38 (.bin .eql 9 (.t 36) (.c (.s [118,97,114]))),zV 37 38])
 (.cond (.t 37)
 (.seq (.cut [1,4,5] (.gJ [(zL 39 218 4,[]),(zL 40 218 4,[]),(zL 41 104 1,[]),(zC 42 68 [.t 41],[zL 39 218 4,zL 40 218 4]),(zN 43 39,[]),(zF 44 233 43 0,[]),(zn (.store 3 (.t 44) (.c (.i .i64 1))),[zL 40 218 4]),(zN 45 40,[]),(zF 46 233 45 1,[]),(zS 9 46 42,[])]))
 (.seq (.cut [1,4,5] (.gJ [(zL 47 218 4,[]),(zL 48 104 1,[]),(zC 49 71 [.t 48,.c (.s [112,116,114])],[zL 47 218 4]),(zN 50 47,[]),(zF 51 233 50 2,[]),(zS 4 51 49,[])]))
 (.seq (.seq (.reg [zL 52 104 1,zC 53 71 [.t 52,.c (.s [61])]])
 (.cond (.t 53)
 (.seq (.cut [5] (.reg [zV 54 5,zo 55 (.call (.t 54) [.c (.i .i64 1)]),zV 2 55]))
 .ret)
 .skip))
 (.seq (.reg [zL 56 104 1,zC 57 67 [.t 56,.c (.s [59])]])
 (.seq (.reg [zL 58 218 4,zV 2 58])
 .ret)))))
 (.seq (.reg [zo 60 (.bin .eql 9 (.t 36) (.c (.s [105,102]))),zV 59 60])
 (.cond (.t 59)
 (.seq (.cut [1,3] (.reg [zL 61 104 1,zF 62 108 3 2,zL 63 3 62,zC 64 140 [.t 61,.t 63],zV 2 64]))
 .ret)
 (.seq (.reg [zo 66 (.bin .eql 9 (.t 36) (.c (.s [119,104,105,108,101]))),zV 65 66])
 (.cond (.t 65)
 (.seq (.cut [1,4] (.gJ [(zL 67 218 4,[]),(zL 68 218 4,[]),(zL 69 104 1,[]),(zC 70 139 [.t 69,.c (.i .i64 1)],[zL 67 218 4,zL 68 218 4]),(zN 71 67,[]),(zF 72 233 71 0,[]),(zn (.store 3 (.t 72) (.c (.i .i64 5))),[zL 68 218 4]),(zN 73 68,[]),(zF 74 233 73 4,[]),(zS 231 74 70,[])]))
 (.seq (.cut [1,4] (.gJ [(zL 75 218 4,[]),(zL 76 104 1,[]),(zC 77 72 [.t 76],[zL 75 218 4]),(zN 78 75,[]),(zF 79 233 78 5,[]),(zS 170 79 77,[])]))
 (.seq (.reg [zL 80 218 4,zV 2 80])
 .ret)))
 (.seq (.reg [zo 82 (.bin .eql 9 (.t 36) (.c (.s [111,117,116]))),zV 81 82])
 (.cond (.t 81)
 (.seq (.cut [5] (.reg [zV 83 5,zo 84 (.call (.t 83) [.c (.i .i64 6)]),zV 2 84]))
 .ret)
 (.seq (.reg [zo 86 (.bin .eql 9 (.t 36) (.c (.s [102,114,101,101]))),zV 85 86])
 (.cond (.t 85)
 (.seq (.cut [5] (.reg [zV 87 5,zo 88 (.call (.t 87) [.c (.i .i64 7)]),zV 2 88]))
 .ret)
 (.seq (.reg [zo 90 (.bin .eql 9 (.t 36) (.c (.s [100,114,97,105,110]))),zV 89 90])
 (.cond (.t 89)
 (.seq (.cut [1,4] (.reg [zL 91 218 4,zN 92 91,zF 93 233 92 0,zn (.store 3 (.t 93) (.c (.i .i64 8)))]))
 (.seq (.reg [zL 94 104 1,zC 95 67 [.t 94,.c (.s [59])]])
 (.seq (.reg [zL 96 218 4,zV 2 96])
 .ret)))
 (.seq (.reg [zo 98 (.bin .eql 9 (.t 36) (.c (.s [114,101,116,117,114,110]))),zV 97 98])
 (.cut [1000000,1,3,4,5,97] (.cond (.t 97)
 (.seq (.seq (.reg [zL 99 104 1,zC 100 71 [.t 99,.c (.s [59])]])
 (.cond (.t 100)
 (.seq (.cut [4] (.reg [zL 101 218 4,zN 102 101,zF 103 233 102 0,zn (.store 3 (.t 103) (.c (.i .i64 9)))]))
 (.seq (.reg [zL 104 218 4,zV 2 104])
 .ret))
 .skip))
 (.seq (.cut [5] (.reg [zV 105 5,zo 106 (.call (.t 105) [.c (.i .i64 9)]),zV 2 106]))
 .ret))
 .skip)))))))))))))))))
 (.cut [1000000,1,3,4] (.seq (.cut [1,3,4] (.gJ [(zL 107 104 1,[]),(zL 108 108 3,[]),(zL 110 104 1,[]),(zN 111 110,[]),(zF 112 106 111 0,[]),(zL 113 101 112,[]),(zo 109 (.jo 101 1 [(0,.t 108)]),[zL 107 104 1,zL 110 104 1,zL 113 101 112]),(zo 114 (.app 101 false (.t 109) (.t 113)),[zL 107 104 1]),(zN 115 107,[]),(zF 116 106 115 0,[]),(zS 101 116 114,[])]))
 (.seq (.reg [zL 117 104 1,zC 118 102 [.t 117,.c (.i .i64 4)]])
 (.seq (.reg [zL 119 218 4,zV 2 119])
 .ret))))))
 .skip)))
 (.seq (.cut [1,4,5] (.reg [zL 120 104 1,zC 121 141 [.t 120],zV 6 121]))
 (.seq (.seq (.cut [1,4,5,6] (.reg [zL 122 104 1,zo 123 (.jo 163 1 [(0,.c (.s [61]))]),zC 124 106 [.t 122,.t 123],zV 7 124]))
 (.blk 1
 (.seq (.cut [1,4,5,6,7] (.reg [zL 128 104 1,zC 129 39 [.t 128],zV 127 129]))
 (.cut [1000000,1,4,5,6,7,127] (.cond (.t 127)
 .skip
 (.seq (.cut [1,4,5,6,7] (.reg [zV 131 7,zo 132 (.un .not (.t 131)),zV 133 132,fM 134 133 6,dn 135 133 (.fF (.t 134)),dn 136 133 (.mF 260 (.t 135) 0),dn 137 133 (.load 3 (.t 136)),dn 138 133 (.bin .eql 3 (.t 137) (.c (.i .i64 4))),zo 139 (.pick (.t 133) (.t 138) (.c (.b false))),zV 130 139]))
 (.cond (.t 130)
 (.seq (.cut [1,4,6] (.gJ [(zL 140 218 4,[]),(zL 141 218 4,[]),(zV 142 6,[]),(zN 143 140,[]),(zF 144 233 143 0,[]),(zn (.store 3 (.t 144) (.c (.i .i64 10))),[zL 141 218 4]),(zN 145 141,[]),(zF 146 233 145 4,[]),(zS 231 146 142,[])]))
 (.reg [zL 147 104 1,zC 148 67 [.t 147,.c (.s [59])]]))
 (.seq (.cut [1,4,5,6,7] (.reg [zV 150 7,zV 151 150,fM 152 151 6,dn 153 151 (.fF (.t 152)),dn 154 151 (.mF 260 (.t 153) 0),dn 155 151 (.load 3 (.t 154)),dn 156 151 (.bin .eql 3 (.t 155) (.c (.i .i64 2))),zo 157 (.pick (.t 151) (.t 156) (.c (.b false))),zV 149 157]))
 (.cond (.t 149)
 (.seq (.reg [zL 158 104 1,zC 159 103 [.t 158]])
 (.seq (.cut [4,5,6] (.gJ [(zL 160 218 4,[]),(zV 161 6,[]),(zN 162 161,[]),(zF 163 260 162 2,[]),(zL 164 9 163,[]),(zN 165 160,[]),(zF 166 233 165 1,[]),(zS 9 166 164,[])]))
 (.seq (.cut [5] (.reg [zV 167 5,zo 168 (.call (.t 167) [.c (.i .i64 2)]),zV 2 168]))
 .ret)))
 (.seq (.cut [1,4,5,6,7] (.reg [zV 170 7,zV 171 170,fM 172 171 6,dn 173 171 (.fF (.t 172)),dn 174 171 (.mF 260 (.t 173) 0),dn 175 171 (.load 3 (.t 174)),dn 176 171 (.bin .eql 3 (.t 175) (.c (.i .i64 5))),fM 177 171 176,j_ 178 177 6,fC 179 177 (.fF (.t 178)),fC 180 177 (.mF 260 (.t 179) 0),fC 181 177 (.load 3 (.t 180)),fC 182 177 (.bin .eql 3 (.t 181) (.c (.i .i64 6))),dn 183 171 (.pick (.t 177) (.c (.b true)) (.t 182)),zo 184 (.pick (.t 171) (.t 183) (.c (.b false))),zV 169 184]))
 (.cut [1000000,1,4,5,6,169] (.cond (.t 169)
 (.seq (.reg [zL 185 104 1,zC 186 103 [.t 185]])
 (.seq (.cut [4,5,6] (.reg [zL 187 218 4,zV 188 6,zN 189 187,zF 190 233 189 3,zS 231 190 188]))
 (.seq (.cut [5] (.reg [zV 191 5,zo 192 (.call (.t 191) [.c (.i .i64 3)]),zV 2 192]))
 .ret)))
 (.reg [zL 125 104 1,zC 126 102 [.t 125,.c (.i .i64 4)]])))))))))))))
 (.seq (.reg [zL 193 218 4,zV 2 193])
 .ret))))))))
def D7:AF:=⟨194,[.t 2],c108⟩
def c109:AC:=(.seq (.cut [0,1,3] (.iO [zV 8 0,zN 9 8,zF 10 224 9 2,zL 11 222 10,zV 12 1,zo 13 (.uN 222 (.t 11) (.t 12) false),zo 14 (.un .not (.t 13)),zV 15 3,zC 16 77 [.t 14,.c (.i .i64 11),.t 15]]))
 (.seq (.cut [0,3] (.iO [zV 17 0,zN 18 17,zF 19 224 18 2,zL 20 222 19,zo 21 (.Ku 222 (.t 20)),zD 22 .lss 3 21 200,zV 23 3,zC 24 77 [.t 22,.c (.i .i64 3),.t 23]]))
 (.cond (.c .u)
 (.exit 999999)
 (.exit 999999))))
def Sm:AF:=⟨40,[],c109⟩
def c110L0:AC:=(.seq (.reg [zB 33 .lss 3 32 31])
 (.seq (.cond (.t 33)
 .skip
 (.exit 2))
 (.seq (.blk 3
 (.seq (.cut [0,2,6,30,31,32] (.reg [zo 34 (.iF 170 (.t 30) (.t 32)),zL 35 218 34,zV 10 35]))
 (.cut [0,2,6,10,30,31,32] (.iO [zV 36 0,zV 37 10,zV 38 2,zC 39 142 [.t 36,.t 37,.t 38]]))))
 (.reg [zD 40 .add 3 32 1,zV 32 40]))))
def Sr:AC:=(.seq (.cut [0,1,2] (.reg [zV 11 0,zN 12 11,zF 13 224 12 3,zL 14 222 13,zo 15 (.Ku 222 (.t 14)),zo 16 (.Ei 222 (some (.t 15))),zV 6 16]))
 (.seq (.seq (.cut [0,1,2,6] (.reg [zV 17 0,zN 18 17,zF 19 224 18 3,zL 20 222 19,zo 21 (.Ku 222 (.t 20)),zD 23 .eql 3 21 0]))
 (.cond (.t 23)
 .skip
 (.cond (.c .u)
 (.exit 999999)
 (.exit 999999))))
 (.seq (.seq (.cut [0,1,2,6] (.reg [zV 30 1,zo 31 (.len 170 (.t 30)),zo 32 (.mv (.c (.i .i64 0)))]))
 (.blk 2
 (.loop [0,2,6,30,31,32] c110L0)))
 (.cut [0,6] (.reg [zV 41 0,zV 42 6,zN 43 41,zF 44 224 43 3,zS 222 44 42])))))
def Je:AF:=⟨45,[],Sr⟩
def c111L0:AC:=(.seq (.reg [zB 18 .lss 3 17 16])
 (.seq (.cond (.t 18)
 .skip
 (.exit 0))
 (.seq (.blk 1
 (.seq (.cut [0,2,15,16,17] (.reg [zo 19 (.iF 163 (.t 15) (.t 17)),zL 20 9 19,zV 6 20]))
 (.seq (.cut [0,2,6,15,16,17] (.reg [zL 21 144 2,zV 22 6,zo 23 (.uN 144 (.t 21) (.t 22) false),zD 24 .eql 3 23 0]))
 (.cond (.t 24)
 (.seq (.reg [zo 4 (.mv (.c (.b false)))])
 .ret)
 .skip))))
 (.reg [zD 25 .add 3 17 1,zV 17 25]))))
def c111:AC:=(.seq (.reg [zo 4 (.mv (.c (.b false)))])
 (.seq (.seq (.cut [0,1,2] (.gJ [(zL 7 181 1,[]),(zN 8 7,[]),(zF 9 185 8 1,[]),(zL 10 183 9,[]),(zV 11 0,[]),(zN 12 11,[]),(zF 13 172 12 0,[]),(zL 14 9 13,[]),(zo 15 (.uN 183 (.t 10) (.t 14) false),[]),(zo 16 (.len 163 (.t 15)),[]),(zo 17 (.mv (.c (.i .i64 0))),[])]))
 (.blk 0
 (.loop [0,2,15,16,17] c111L0)))
 (.seq (.cut [0,2] (.gJ [(zL 26 144 2,[]),(zV 27 0,[]),(zN 28 27,[]),(zF 29 172 28 0,[]),(zL 30 9 29,[]),(zo 31 (.uN 144 (.t 26) (.t 30) false),[]),(zD 32 .eql 3 31 0,[]),(zV 4 32,[])]))
 .ret)))
def Pn:AF:=⟨33,[.t 4],c111⟩
def c112:AC:=(.cut [0,1] (.iO [zV 4 0,zV 5 1,zo 6 (.build 53 [(0,.t 4),(1,.t 5)]),zo 7 (.build 180 [(0,.t 6)]),zo 8 (.qG 180 (.t 7)),zn (.gu (.t 8))]))
def Sv:AF:=⟨9,[],c112⟩
def c113L0:AC:=(.seq (.reg [zB 15 .lss 3 14 13])
 (.seq (.cond (.t 15)
 .skip
 (.exit 0))
 (.seq (.blk 1
 (.seq (.cut [2,3,12,13,14] (.reg [zo 16 (.iF 163 (.t 12) (.t 14)),zL 17 9 16,zV 6 17]))
 (.seq (.cut [2,3,6,12,13,14] (.reg [zL 18 144 2,zV 19 6,zo 20 (.uN 144 (.t 18) (.t 19) false),zD 21 .eql 3 20 0]))
 (.cond (.t 21)
 (.seq (.cut [2,3,6,12,13,14] (.reg [zL 22 144 2,zV 23 6,zn (.mW 144 (.t 22) (.t 23) (.c (.i .i64 1)))]))
 (.cut [2,3,6,12,13,14] (.reg [zL 24 173 3,zV 25 6,zo 26 (.call (.t 24) [.t 25])])))
 .skip))))
 (.reg [zD 27 .add 3 14 1,zV 14 27]))))
def c113:AC:=(.seq (.cut [0,1,2,3] (.reg [zL 7 181 1,zN 8 7,zF 9 185 8 1,zL 10 183 9,zV 11 0,zo 12 (.uN 183 (.t 10) (.t 11) false),zo 13 (.len 163 (.t 12)),zo 14 (.mv (.c (.i .i64 0)))]))
 (.blk 0
 (.loop [2,3,12,13,14] c113L0)))
def Po:AF:=⟨28,[],c113⟩
def c114L0:AC:=(.seq (.reg [zB 10 .lss 3 9 8])
 (.seq (.cond (.t 10)
 .skip
 (.exit 0))
 (.seq (.blk 1
 (.seq (.cut [1,2,3,7,8,9] (.reg [zo 11 (.iF 170 (.t 7) (.t 9)),zL 12 218 11,zV 6 12]))
 (.seq (.seq (.reg [zL 13 3 1,zD 14 .eql 3 13 0])
 (.cond (.t 14)
 .ret
 .skip))
 (.seq (.cut [1,2,3,6,7,8,9] (.reg [zL 15 3 1,zD 16 .sub 3 15 1,zS 3 1 16]))
 (.seq (.seq (.reg [zV 17 6,zo 18 (.bin .eql 218 (.t 17) (.c (.p0)))])
 (.cond (.t 18)
 (.exit 1)
 .skip))
 (.seq (.seq (.cut [1,2,3,6,7,8,9] (.reg [zV 19 6,zN 20 19,zF 21 233 20 0,zL 22 3 21,zD 23 .eql 3 22 1]))
 (.cond (.t 23)
 (.cut [1,2,3,6,7,8,9] (.gJ [(zL 24 169 2,[]),(zV 25 6,[]),(zN 26 25,[]),(zF 27 233 26 1,[]),(zL 28 9 27,[]),(zV 29 6,[]),(zN 30 29,[]),(zF 31 233 30 2,[]),(zL 32 4 31,[]),(zo 33 (.build 177 [(0,.t 28),(1,.t 32)]),[]),(zo 34 (.jo 169 1 [(0,.t 33)]),[zL 24 169 2]),(zo 35 (.app 169 false (.t 24) (.t 34)),[]),(zS 169 2 35,[])]))
 .skip))
 (.cut [1000000,1,2,3,6,7,8,9] (.seq (.cut [1,2,3,6,7,8,9] (.gJ [(zL 36 230 3,[]),(zV 37 6,[]),(zN 38 37,[]),(zF 39 233 38 5,[]),(zL 40 170 39,[]),(zo 41 (.call (.t 36) [.t 40]),[])]))
 (.cut [1,2,3,6,7,8,9] (.gJ [(zL 42 230 3,[]),(zV 43 6,[]),(zN 44 43,[]),(zF 45 233 44 6,[]),(zL 46 170 45,[]),(zo 47 (.call (.t 42) [.t 46]),[])]))))))))))
 (.reg [zD 48 .add 3 9 1,zV 9 48]))))
def c114:AC:=(.seq (.cut [0,1,2,3] (.reg [zV 7 0,zo 8 (.len 170 (.t 7)),zo 9 (.mv (.c (.i .i64 0)))]))
 (.blk 0
 (.loop [1,2,3,7,8,9] c114L0)))
def Lp:AF:=⟨49,[],c114⟩
def c115:AC:=(.seq (.seq (.reg [zV 8 3,zD 9 .leq 3 8 2047])
 (.cond (.t 9)
 (.seq (.cut [0,1,2,3] (.reg [zV 10 0,zV 11 1,zV 12 2,zV 13 3,zo 14 (.build 194 [(0,.t 11),(1,.t 12),(2,.c (.i .i64 14)),(4,.t 13)]),zo 15 (.jo 229 1 [(0,.t 14)]),zC 16 81 [.t 10,.t 15]]))
 .ret)
 .skip))
 (.seq (.cut [0,1,2,3] (.reg [zV 17 0,zV 18 3,zo 19 (.conv 3 59 (.t 18)),zC 20 119 [.t 17,.c (.i .i64 9),.t 19]]))
 (.cut [0,1,2] (.reg [zV 21 0,zC 22 88 [.c (.i .i64 32),.c (.i .i64 9),.c (.i .i64 14),.c (.i .i64 9)],zV 23 1,zV 24 2,zo 25 (.build 194 [(0,.t 23),(1,.t 24),(2,.c (.i .i64 9))]),zo 26 (.jo 229 2 [(0,.t 22),(1,.t 25)]),zC 27 81 [.t 21,.t 26]]))))
def Sz:AF:=⟨28,[],c115⟩
def c116:AC:=(.seq (.cut [0,1,2] (.reg [zV 11 2,zN 12 11,zF 13 233 12 0,zL 14 3 13]))
 (.blk 0
 (.seq (.reg [zD 16 .eql 3 14 1,zV 15 16])
 (.cond (.t 15)
 (.seq (.blk 1
 (.seq (.cut [0,2] (.reg [zV 20 2,zN 21 20,zF 22 233 21 4,zL 23 231 22,zo 24 (.bin .neq 231 (.t 23) (.c (.p0))),zV 19 24]))
 (.cond (.t 19)
 (.cut [0,2] (.reg [zV 25 0,zV 26 2,zN 27 26,zF 28 233 27 4,zL 29 231 28,zC 30 117 [.t 25,.t 29,.c (.i .i64 0)]]))
 (.seq (.cut [0,2] (.reg [zV 32 2,zN 33 32,zF 34 233 33 2,zL 35 4 34,zV 31 35]))
 (.cond (.t 31)
 (.reg [zV 36 0,zC 37 118 [.t 36,.c (.i .i64 3)]])
 (.reg [zV 17 0,zC 18 119 [.t 17,.c (.i .i64 3),.c (.i .u32 0)]]))))))
 (.cut [1000000,0,2] (.cut [0,2] (.gJ [(zV 38 0,[]),(zV 39 0,[]),(zN 40 39,[]),(zF 41 139 40 3,[]),(zL 42 136 41,[]),(zN 43 42,[]),(zF 44 146 43 2,[]),(zL 45 144 44,[]),(zV 46 2,[]),(zN 47 46,[]),(zF 48 233 47 1,[]),(zL 49 9 48,[]),(zo 50 (.uN 144 (.t 45) (.t 49) false),[]),(zC 51 84 [.t 38,.c (.i .i64 3),.t 50],[])]))))
 (.seq (.reg [zD 53 .eql 3 14 2,zV 52 53])
 (.cond (.t 52)
 (.seq (.cut [0,2] (.reg [zV 54 0,zV 55 2,zN 56 55,zF 57 233 56 4,zL 58 231 57,zC 59 117 [.t 54,.t 58,.c (.i .i64 0)]]))
 (.cut [0,2] (.gJ [(zV 60 0,[]),(zV 61 0,[]),(zN 62 61,[]),(zF 63 139 62 3,[]),(zL 64 136 63,[]),(zN 65 64,[]),(zF 66 146 65 2,[]),(zL 67 144 66,[]),(zV 68 2,[]),(zN 69 68,[]),(zF 70 233 69 1,[]),(zL 71 9 70,[]),(zo 72 (.uN 144 (.t 67) (.t 71) false),[]),(zC 73 84 [.t 60,.c (.i .i64 3),.t 72],[])])))
 (.seq (.reg [zD 75 .eql 3 14 3,zV 74 75])
 (.cond (.t 74)
 (.seq (.cut [0,2] (.reg [zV 76 0,zV 77 2,zN 78 77,zF 79 233 78 3,zL 80 231 79,zN 81 80,zF 82 260 81 4,zL 83 231 82,zC 84 117 [.t 76,.t 83,.c (.i .i64 0)]]))
 (.seq (.cut [0,2] (.reg [zV 85 0,zV 86 0,zC 87 143 [.t 86,.c (.i .i64 0)],zC 88 84 [.t 85,.c (.i .i64 3),.t 87]]))
 (.cut [1000000,0,2] (.seq (.cut [0,2] (.reg [zV 89 0,zV 90 2,zN 91 90,zF 92 233 91 3,zL 93 231 92,zN 94 93,zF 95 260 94 5,zL 96 231 95,zC 97 117 [.t 89,.t 96,.c (.i .i64 1)]]))
 (.seq (.cut [0,2] (.reg [zV 98 0,zV 99 0,zC 100 143 [.t 99,.c (.i .i64 1)],zC 101 84 [.t 98,.c (.i .i64 3),.t 100]]))
 (.seq (.cut [0,2] (.reg [zV 102 0,zV 103 2,zN 104 103,zF 105 233 104 4,zL 106 231 105,zC 107 117 [.t 102,.t 106,.c (.i .i64 2)]]))
 (.seq (.cut [0] (.reg [zV 108 0,zV 109 0,zC 110 143 [.t 109,.c (.i .i64 0)],zC 111 87 [.t 108,.c (.i .i64 4),.t 110]]))
 (.seq (.cut [0] (.reg [zV 112 0,zV 113 0,zC 114 143 [.t 113,.c (.i .i64 1)],zC 115 87 [.t 112,.c (.i .i64 7),.t 114]]))
 (.seq (.reg [zV 116 0,zC 117 144 [.t 116,.c (.i .i64 11),.c (.i .i64 7),.c (.i .i64 7),.c (.i .i64 4)]])
 (.cut [0] (.reg [zV 118 0,zC 119 88 [.c (.i .i64 32),.c (.i .i64 4),.c (.i .i64 4),.c (.i .i64 7)],zo 120 (.build 194 [(0,.c (.i .i64 24)),(1,.c (.i .i64 3)),(2,.c (.i .i64 4))]),zo 121 (.jo 229 2 [(0,.t 119),(1,.t 120)]),zC 122 81 [.t 118,.t 121]])))))))))))
 (.seq (.reg [zD 124 .eql 3 14 4,zV 123 124])
 (.cond (.t 123)
 (.seq (.cut [0,1,2] (.reg [zV 125 0,zV 126 2,zN 127 126,zF 128 233 127 4,zL 129 231 128,zC 130 117 [.t 125,.t 129,.c (.i .i64 0)]]))
 (.seq (.cut [0,1,2] (.reg [zV 131 0,zC 132 145 [.t 131,.c (.i .i64 3)],zV 6 132]))
 (.cut [1000000,0,1,2,6] (.seq (.cut [0,1,2,6] (.reg [zV 133 0,zV 134 1,zV 135 2,zN 136 135,zF 137 233 136 5,zL 138 170 137,zC 139 85 [.t 133,.t 134,.t 138]]))
 (.seq (.cut [0,1,2,6] (.reg [zV 140 0,zC 141 48 [.t 140,.c (.i .i64 6)],zV 7 141]))
 (.seq (.reg [zV 142 6,zo 143 (.call (.t 142) [])])
 (.seq (.cut [0,1,2,7] (.reg [zV 144 0,zV 145 1,zV 146 2,zN 147 146,zF 148 233 147 6,zL 149 170 148,zC 150 85 [.t 144,.t 145,.t 149]]))
 (.reg [zV 151 7,zo 152 (.call (.t 151) [])]))))))))
 (.seq (.reg [zD 154 .eql 3 14 5,zV 153 154])
 (.cond (.t 153)
 (.seq (.cut [0,1,2] (.reg [zV 155 0,zN 156 155,zF 157 139 156 0,zL 158 30 157,zo 159 (.len 30 (.t 158)),zV 8 159]))
 (.cut [1000000,0,1,2,8] (.seq (.cut [0,1,2,8] (.reg [zV 160 0,zV 161 2,zN 162 161,zF 163 233 162 4,zL 164 231 163,zC 165 117 [.t 160,.t 164,.c (.i .i64 0)]]))
 (.seq (.cut [0,1,2,8] (.reg [zV 166 0,zC 167 145 [.t 166,.c (.i .i64 3)],zV 9 167]))
 (.seq (.cut [0,1,2,8,9] (.reg [zV 168 0,zV 169 1,zV 170 2,zN 171 170,zF 172 233 171 5,zL 173 170 172,zC 174 85 [.t 168,.t 169,.t 173]]))
 (.seq (.cut [0,8,9] (.reg [zV 175 0,zN 176 175,zF 177 139 176 0,zL 178 30 177,zo 179 (.len 30 (.t 178)),zV 10 179]))
 (.seq (.reg [zV 180 0,zC 181 48 [.t 180,.c (.i .i64 6)]])
 (.seq (.cut [0,8,9,10] (.reg [zV 182 0,zV 183 10,zV 184 8,zC 185 51 [.t 182,.t 183,.c (.i .i64 6),.t 184]]))
 (.reg [zV 186 9,zo 187 (.call (.t 186) [])])))))))))
 (.seq (.reg [zD 189 .eql 3 14 6,zV 188 189])
 (.cond (.t 188)
 (.seq (.cut [0,2] (.reg [zV 190 0,zV 191 2,zN 192 191,zF 193 233 192 4,zL 194 231 193,zC 195 86 [.t 190,.t 194,.c (.b false)]]))
 (.reg [zV 196 0,zC 197 49 [.t 196,.c (.i .i64 4)]]))
 (.seq (.reg [zD 199 .eql 3 14 7,zV 198 199])
 (.cond (.t 198)
 (.seq (.cut [0,2] (.reg [zV 200 0,zV 201 2,zN 202 201,zF 203 233 202 4,zL 204 231 203,zC 205 86 [.t 200,.t 204,.c (.b false)]]))
 (.reg [zV 206 0,zC 207 49 [.t 206,.c (.i .i64 2)]]))
 (.seq (.reg [zD 209 .eql 3 14 8,zV 208 209])
 (.cut [1000000,0,1,2,14,208] (.cond (.t 208)
 (.reg [zV 210 0,zC 211 49 [.t 210,.c (.i .i64 3)]])
 (.seq (.reg [zD 213 .eql 3 14 9,zV 212 213])
 (.cond (.t 212)
 (.seq (.cut [0,1,2] (.gJ [(zV 214 0,[]),(zV 215 2,[]),(zN 216 215,[]),(zF 217 233 216 4,[]),(zL 218 231 217,[]),(zV 219 1,[]),(zN 220 219,[]),(zF 221 172 220 2,[]),(zL 222 4 221,[]),(zC 223 86 [.t 214,.t 218,.t 222],[])]))
 (.cut [0] (.gJ [(zV 224 0,[]),(zV 225 0,[]),(zN 226 225,[]),(zF 227 139 226 4,[]),(zL 228 137 227,[]),(zV 229 0,[]),(zC 230 48 [.t 229,.c (.i .i64 6)],[zL 228 137 227]),(zo 231 (.jo 137 1 [(0,.t 230)]),[zL 228 137 227]),(zo 232 (.app 137 false (.t 228) (.t 231)),[]),(zN 233 224,[]),(zF 234 139 233 4,[]),(zS 137 234 232,[])])))
 (.seq (.reg [zD 236 .eql 3 14 10,zV 235 236])
 (.cond (.t 235)
 (.cut [0,2] (.reg [zV 237 0,zV 238 2,zN 239 238,zF 240 233 239 4,zL 241 231 240,zC 242 117 [.t 237,.t 241,.c (.i .i64 0)]]))
 .skip)))))))))))))))))))))))
def D8:AF:=⟨243,[],c116⟩
def c117:AC:=(.seq (.cut [0,1,2] (.reg [zV 6 1,zN 7 6,zF 8 260 7 0,zL 9 3 8]))
 (.blk 0
 (.seq (.reg [zD 15 .eql 3 9 1,zV 14 15])
 (.cond (.t 14)
 (.cut [0,1] (.reg [zV 16 0,zV 17 1,zN 18 17,zF 19 260 18 1,zL 20 59 19,zC 21 119 [.t 16,.c (.i .i64 3),.t 20]]))
 (.seq (.reg [zD 23 .eql 3 9 2,zV 22 23])
 (.cond (.t 22)
 (.cut [0,1] (.gJ [(zV 24 0,[]),(zV 25 0,[]),(zN 26 25,[]),(zF 27 139 26 3,[]),(zL 28 136 27,[]),(zN 29 28,[]),(zF 30 146 29 2,[]),(zL 31 144 30,[]),(zV 32 1,[]),(zN 33 32,[]),(zF 34 260 33 2,[]),(zL 35 9 34,[]),(zo 36 (.uN 144 (.t 31) (.t 35) false),[]),(zC 37 87 [.t 24,.c (.i .i64 3),.t 36],[])]))
 (.seq (.reg [zD 39 .eql 3 9 4,zV 38 39])
 (.cond (.t 38)
 (.cut [0,1,2] (.reg [zV 40 0,zV 41 1,zV 42 2,zC 43 146 [.t 40,.t 41,.t 42]]))
 (.seq (.reg [zD 45 .eql 3 9 7,zV 44 45])
 (.cond (.t 44)
 (.cut [0,1,2] (.reg [zV 46 0,zV 47 1,zV 48 2,zC 49 147 [.t 46,.t 47,.t 48]]))
 (.seq (.reg [zD 51 .eql 3 9 8,zV 50 51])
 (.cond (.t 50)
 (.seq (.reg [zV 52 0,zC 53 49 [.t 52,.c (.i .i64 5)]])
 (.cut [0] (.reg [zV 54 0,zC 55 88 [.c (.i .i64 31),.c (.i .i64 3),.c (.i .i64 10),.c (.i .i64 0)],zo 56 (.jo 229 1 [(0,.t 55)]),zC 57 81 [.t 54,.t 56]])))
 (.seq (.seq (.reg [zD 59 .eql 3 9 5,zV 58 59])
 (.cond (.t 58)
 .skip
 (.reg [zD 60 .eql 3 9 6,zV 58 60])))
 (.cut [1000000,0,1,2,58] (.cond (.t 58)
 (.seq (.cut [0,1,2] (.gJ [(zV 61 0,[]),(zV 62 1,[]),(zN 63 62,[]),(zF 64 260 63 4,[]),(zL 65 231 64,[]),(zV 66 1,[]),(zN 67 66,[]),(zF 68 260 67 5,[]),(zL 69 231 68,[]),(zV 70 2,[]),(zC 71 148 [.t 61,.t 65,.t 69,.t 70],[])]))
 (.seq (.reg [zV 72 0,zC 73 144 [.t 72,.c (.i .i64 11),.c (.i .i64 3),.c (.i .i64 3),.c (.i .i64 4)]])
 (.seq (.cut [0,1] (.reg [zV 74 0,zC 75 88 [.c (.i .i64 32),.c (.i .i64 4),.c (.i .i64 4),.c (.i .i64 3)],zo 76 (.build 194 [(0,.c (.i .i64 23)),(1,.c (.i .i64 3)),(2,.c (.i .i64 4))]),zo 77 (.jo 229 2 [(0,.t 75),(1,.t 76)]),zC 78 81 [.t 74,.t 77]]))
 (.seq (.cut [0,1] (.reg [zV 79 1,zN 80 79,zF 81 260 80 0,zL 82 3 81,zD 83 .eql 3 82 5]))
 (.cond (.t 83)
 (.cut [0] (.reg [zV 84 0,zC 85 88 [.c (.i .i64 48),.c (.i .i64 6),.c (.i .i64 3),.c (.i .i64 0)],zo 86 (.build 194 [(0,.c (.i .i64 26)),(1,.c (.i .i64 6)),(2,.c (.i .i64 0)),(4,.c (.i .i64 2))]),zC 87 88 [.c (.i .i64 53),.c (.i .i64 0),.c (.i .i64 0),.c (.i .i64 0)],zo 88 (.jo 229 3 [(0,.t 85),(1,.t 86),(2,.t 87)]),zC 89 81 [.t 84,.t 88]]))
 .skip)))))
 (.cut [0,1,2] (.reg [zV 10 0,zV 11 1,zV 12 2,zC 13 149 [.t 10,.t 11,.t 12]])))))))))))))))))
def Pq:AF:=⟨90,[],c117⟩
def c118:AC:=(.cut [0,1] (.reg [zV 4 0,zV 5 1,zC 6 88 [.c (.i .i64 41),.t 5,.c (.i .i64 14),.c (.i .i64 0)],zo 7 (.jo 229 1 [(0,.t 6)]),zC 8 81 [.t 4,.t 7]]))
def SA:AF:=⟨9,[],c118⟩
def c119:AC:=(.seq (.cut [0,1,2] (.reg [zV 8 2,zo 9 (.bin .shl 59 (.t 8) (.c (.i .u64 20))),zo 10 (.conv 59 21 (.t 9)),zo 11 (.bin .shr 21 (.t 10) (.c (.i .u64 20))),zo 12 (.conv 21 3 (.t 11)),zV 6 12]))
 (.seq (.cut [0,1,2,6] (.reg [zV 13 2,zV 14 6,zo 15 (.conv 3 59 (.t 14)),zB 16 .sub 59 13 15,zo 17 (.conv 59 21 (.t 16)),zo 18 (.bin .shr 21 (.t 17) (.c (.i .u64 12))),zo 19 (.conv 21 3 (.t 18)),zV 7 19]))
 (.seq (.seq (.reg [zV 20 7,zD 21 .eql 3 20 0])
 (.cond (.t 21)
 (.seq (.cut [0,1,6] (.reg [zV 22 0,zV 23 1,zV 24 6,zo 25 (.build 194 [(0,.c (.i .i64 1)),(1,.t 23),(4,.t 24)]),zo 26 (.jo 229 1 [(0,.t 25)]),zC 27 81 [.t 22,.t 26]]))
 .ret)
 .skip))
 (.cut [0,1,6,7] (.reg [zV 28 0,zV 29 1,zV 30 7,zo 31 (.build 194 [(0,.c (.i .i64 2)),(1,.t 29),(4,.t 30)]),zV 32 1,zV 33 1,zV 34 6,zo 35 (.build 194 [(0,.c (.i .i64 16)),(1,.t 32),(2,.t 33),(4,.t 34)]),zo 36 (.jo 229 2 [(0,.t 31),(1,.t 35)]),zC 37 81 [.t 28,.t 36]])))))
def SB:AF:=⟨38,[],c119⟩
def c120:AC:=(.seq (.reg [zo 2 (.mv (.c (.s [])))])
 (.seq (.cut [0] (.reg [zV 3 0,zC 4 150 [.t 3],zo 5 (.J9 266 (.t 4) 0),zV 2 5]))
 .ret))
def SC:AF:=⟨6,[.t 2],c120⟩
def c121:AC:=(.seq (.cut [0,1,2,3,4,5] (.gJ [(zV 12 2,[]),(zo 13 (.bin .shl 3 (.c (.i .i64 1)) (.t 12)),[]),(zo 10 (.mv (.c (.i .i64 0))),[]),(zV 11 13,[])]))
 (.seq (.seq (.reg [zV 14 3])
 (.cond (.t 14)
 (.cut [0,1,2,4,5] (.gJ [(zV 15 2,[]),(zD 16 .sub 3 15 1,[]),(zo 17 (.bin .shl 3 (.c (.i .i64 (-1))) (.t 16)),[]),(zV 18 2,[]),(zD 19 .sub 3 18 1,[]),(zo 20 (.bin .shl 3 (.c (.i .i64 1)) (.t 19)),[]),(zV 10 17,[]),(zV 11 20,[])]))
 .skip))
 (.cut [1000000,0,1,2,4,5,10,11] (.seq (.cut [0,1,2,4,5,10,11] (.reg [zL 21 4 4,zV 22 21,j_ 23 22 0,fC 24 22 (.fF (.t 23)),fC 25 22 (.load 3 (.t 24)),j_ 26 22 10,fC 27 22 (.bin .lss 3 (.t 25) (.t 26)),zo 28 (.pick (.t 22) (.c (.b true)) (.t 27)),zV 29 28,j_ 30 29 0,fC 31 29 (.fF (.t 30)),fC 32 29 (.load 3 (.t 31)),j_ 33 29 11,fC 34 29 (.bin .geq 3 (.t 32) (.t 33)),zo 35 (.pick (.t 29) (.c (.b true)) (.t 34)),zS 4 4 35]))
 (.seq (.cut [0,1,2,5] (.gJ [(zL 36 59 5,[]),(zV 37 0,[]),(zN 38 37,[]),(zL 39 3 38,[]),(zo 40 (.wu true 3 59 (.t 39)),[]),(zV 41 2,[]),(zo 42 (.bin .shl 59 (.c (.i .u32 1)) (.t 41)),[]),(zo 43 (.bin .sub 59 (.t 42) (.c (.i .u32 1))),[]),(zB 44 .and 59 40 43,[]),(zV 45 1,[]),(zB 46 .shl 59 44 45,[]),(zB 47 .or 59 36 46,[]),(zS 59 5 47,[])]))
 (.cut [0] (.reg [zV 48 0,zN 49 48,zn (.store 3 (.t 49) (.c (.i .i64 0)))])))))))
def Pv:AF:=⟨50,[],c121⟩
def c122:AC:=(.seq (.reg [zo 2 (.mv (.c (.s [])))])
 (.seq (.cut [0] (.reg [zV 3 0,zC 4 150 [.t 3],zo 5 (.J9 266 (.t 4) 1),zV 2 5]))
 .ret))
def SE:AF:=⟨6,[.t 2],c122⟩
def c123L0:AC:=(.seq (.reg [zB 9 .lss 3 8 7])
 (.seq (.cond (.t 9)
 .skip
 (.exit 0))
 (.seq (.blk 1
 (.seq (.reg [zV 10 8,zV 5 10])
 (.seq (.cut [0,1,5,7,8] (.reg [zV 11 1,zV 12 0,zV 13 5,zo 14 (.iF 201 (.t 12) (.t 13)),zL 15 4 14,zB 16 .eql 4 11 15]))
 (.cond (.t 16)
 (.seq (.reg [zV 17 5,zV 4 17])
 .ret)
 .skip))))
 (.reg [zD 18 .add 3 8 1,zV 8 18]))))
def c123:AC:=(.seq (.reg [zo 4 (.mv (.c (.i .i64 0)))])
 (.seq (.seq (.cut [0,1] (.reg [zV 6 0,zo 7 (.len 201 (.t 6)),zo 8 (.mv (.c (.i .i64 0)))]))
 (.blk 0
 (.loop [0,1,7,8] c123L0)))
 (.seq (.reg [zo 4 (.mv (.c (.i .i64 (-1))))])
 .ret)))
def Px:AF:=⟨19,[.t 4],c123⟩
def c124:AC:=(.seq (.reg [zo 2 (.mv (.c (.i .u32 0))),zo 3 (.mv (.c (.i .u32 0)))])
 (.seq (.cut [0] (.reg [zV 7 0,zo 8 (.conv 59 165 (.t 7)),zC 9 126 [.c (.i .u32 0),.t 8],zV 4 9]))
 (.seq (.cut [0,4] (.reg [zV 11 0,zo 12 (.conv 59 165 (.t 11)),zV 13 4,zC 14 127 [.c (.i .u32 0),.t 12,.t 13],zV 10 14,zE 15 10 0,zE 16 10 1,zV 5 15,zV 6 16]))
 (.seq (.seq (.reg [zV 17 6,zo 18 (.bin .eql 165 (.t 17) (.c (.i .u64 4294967296)))])
 (.cond (.t 18)
 (.seq (.reg [zo 2 (.mv (.c (.i .u32 0))),zo 3 (.mv (.c (.i .u32 0)))])
 .ret)
 .skip))
 (.seq (.cut [4,6] (.gJ [(zV 19 6,[]),(zo 20 (.wu true 165 59 (.t 19)),[]),(zV 21 4,[]),(zo 22 (.bin .shl 59 (.c (.i .u32 1)) (.t 21)),[]),(zV 2 20,[]),(zV 3 22,[])]))
 .ret)))))
def SG:AF:=⟨23,[.t 2,.t 3],c124⟩
def c125:AC:=(.seq (.reg [zo 4 (.mv (.c (.b false)))])
 (.seq (.cut [0,1] (.reg [zV 5 0,zo 6 (.conv 59 165 (.t 5)),zV 7 1,zB 8 .leq 165 6 7,zV 9 8,fM 10 9 1,dn 11 9 (.bin .leq 165 (.t 10) (.c (.i .u64 4294967296))),zo 12 (.pick (.t 9) (.t 11) (.c (.b false))),zV 4 12]))
 .ret))
def SH:AF:=⟨13,[.t 4],c125⟩
def c126L0:AC:=(.seq (.reg [zD 9 .lss 3 8 21])
 (.seq (.cond (.t 9)
 .skip
 (.exit 0))
 (.seq (.blk 1
 (.seq (.reg [zV 10 8,zV 5 10])
 (.seq (.cut [0,1,5,8] (.reg [zV 12 0,zV 13 1,zV 14 5,zC 15 127 [.t 12,.t 13,.t 14],zV 11 15,zE 16 11 0,zE 17 11 1,zV 6 16,zV 7 17]))
 (.seq (.cut [0,1,5,6,7,8] (.reg [zV 18 7,zV 19 6,zB 20 .sub 165 18 19,zV 21 5,zo 22 (.bin .shl 165 (.c (.i .u64 2048)) (.t 21)),zB 23 .leq 165 20 22]))
 (.cond (.t 23)
 (.seq (.reg [zV 24 5,zV 4 24])
 .ret)
 .skip)))))
 (.reg [zD 25 .add 3 8 1,zV 8 25]))))
def c126:AC:=(.seq (.reg [zo 4 (.mv (.c (.i .i64 0)))])
 (.seq (.seq (.reg [zo 8 (.mv (.c (.i .i64 0)))])
 (.blk 0
 (.loop [0,1,8] c126L0)))
 (.seq (.reg [zo 4 (.mv (.c (.i .i64 21)))])
 .ret)))
def Py:AF:=⟨26,[.t 4],c126⟩
def c127:AC:=(.seq (.reg [zo 6 (.mv (.c (.i .u64 0))),zo 7 (.mv (.c (.i .u64 0)))])
 (.seq (.cut [0,1,2] (.reg [zV 9 2,zo 10 (.bin .shl 165 (.c (.i .u64 1)) (.t 9)),zo 11 (.bin .sub 165 (.t 10) (.c (.i .u64 1))),zV 8 11]))
 (.seq (.cut [0,1,8] (.reg [zV 12 0,zo 13 (.conv 59 165 (.t 12)),zV 14 8,zB 15 .andNot 165 13 14,zV 16 1,zV 17 8,zB 18 .add 165 16 17,zV 19 8,zB 20 .andNot 165 18 19,zV 6 15,zV 7 20]))
 .ret)))
def SI:AF:=⟨21,[.t 6,.t 7],c127⟩
def c129L0:AC:=(.seq (.reg [zB 9 .lss 3 8 7])
 (.seq (.cond (.t 9)
 .skip
 (.exit 0))
 (.seq (.blk 1
 (.seq (.reg [zV 10 8,zV 5 10])
 (.seq (.cut [0,1,5,7,8] (.reg [zV 11 1,zV 12 0,zV 13 5,zo 14 (.iF 210 (.t 12) (.t 13)),zL 15 159 14,zB 16 .eql 159 11 15]))
 (.cond (.t 16)
 (.seq (.reg [zV 17 5,zV 4 17])
 .ret)
 .skip))))
 (.reg [zD 18 .add 3 8 1,zV 8 18]))))
def c129:AC:=(.seq (.reg [zo 4 (.mv (.c (.i .i64 0)))])
 (.seq (.seq (.cut [0,1] (.reg [zV 6 0,zo 7 (.len 210 (.t 6)),zo 8 (.mv (.c (.i .i64 0)))]))
 (.blk 0
 (.loop [0,1,7,8] c129L0)))
 (.seq (.reg [zo 4 (.mv (.c (.i .i64 (-1))))])
 .ret)))
def Pz:AF:=⟨19,[.t 4],c129⟩
def c130L0:AC:=(.seq (.reg [zo 15 (.MR (.t 14)),zE 16 15 0])
 (.seq (.cond (.t 16)
 .skip
 (.exit 0))
 (.blk 1
 (.seq (.cut [0,1,5,6,14,15] (.reg [zE 17 15 1,zE 18 15 2,zV 7 17,zV 8 18]))
 (.seq (.cut [0,1,5,6,7,8,14] (.reg [zV 19 1,zV 20 8,zo 21 (.call (.t 19) [.t 20])]))
 (.cond (.t 21)
 (.seq (.reg [zV 22 6,zD 23 .geq 3 22 0])
 (.cond (.t 23)
 (.seq (.cut [0,1,5,6,7,14] (.reg [zV 24 5,zV 25 6,zV 26 7,zo 27 (.build 270 [(0,.t 25),(1,.t 26)]),zo 28 (.jo 268 1 [(0,.t 27)]),zo 29 (.app 268 false (.t 24) (.t 28)),zV 5 29]))
 (.cut [0,1,5,6,14] (.reg [zV 30 6,zo 31 (.un .xor (.t 30)),zV 6 31])))
 .skip))
 (.seq (.reg [zV 32 6,zD 33 .lss 3 32 0])
 (.cond (.t 33)
 (.reg [zV 34 7,zV 6 34])
 .skip))))))))
def c130L1:AC:=(.seq (.reg [zB 50 .lss 3 49 48])
 (.seq (.cond (.t 50)
 .skip
 (.exit 2))
 (.seq (.blk 3
 (.seq (.cut [0,9,47,48,49] (.reg [zV 51 49,zo 52 (.iF 268 (.t 47) (.t 49)),zL 53 270 52,zo 11 (.alloc 270),zV 10 51,zS 270 11 53]))
 (.cut [0,9,10,11,47,48,49] (.reg [zV 54 9,zV 55 10,zV 56 0,zF 57 270 11 0,zL 58 3 57,zF 59 270 11 1,zL 60 3 59,zo 61 (.slc 9 (.t 56) (some (.t 58)) (some (.t 60))),zo 62 (.iF 163 (.t 54) (.t 55)),zS 9 62 61]))))
 (.reg [zD 63 .add 3 49 1,zV 49 63]))))
def c130:AC:=(.seq (.reg [zo 4 (.mv (.c (.sl0)))])
 (.seq (.reg [zo 12 (.Kt 268 (.c (.i .i64 0)) (.c (.i .i64 32))),zV 5 12])
 (.seq (.reg [zo 6 (.mv (.c (.i .i64 (-1))))])
 (.seq (.seq (.reg [zV 13 0,zo 14 (.rng 9 (.t 13))])
 (.blk 0
 (.loop [0,1,5,6,14] c130L0)))
 (.seq (.seq (.reg [zV 35 6,zD 36 .geq 3 35 0])
 (.cond (.t 36)
 (.cut [0,5,6] (.reg [zV 37 5,zV 38 6,zV 39 0,zo 40 (.len 9 (.t 39)),zo 41 (.build 270 [(0,.t 38),(1,.t 40)]),zo 42 (.jo 268 1 [(0,.t 41)]),zo 43 (.app 268 false (.t 37) (.t 42)),zV 5 43]))
 .skip))
 (.cut [1000000,0,5] (.seq (.cut [0,5] (.reg [zV 44 5,zo 45 (.len 268 (.t 44)),zo 46 (.Kt 163 (.t 45) (.t 45)),zV 9 46]))
 (.seq (.seq (.cut [0,5,9] (.reg [zV 47 5,zo 48 (.len 268 (.t 47)),zo 49 (.mv (.c (.i .i64 0)))]))
 (.blk 2
 (.loop [0,9,47,48,49] c130L1)))
 (.seq (.reg [zV 64 9,zV 4 64])
 .ret)))))))))
def Jf:AF:=⟨65,[.t 4],c130⟩
def c131:AC:=(.seq (.reg [zo 2 (.mv (.c (.b false)))])
 (.seq (.seq (.cut [0] (.reg [zV 3 0,zo 4 (.conv 21 59 (.t 3)),zo 5 (.bin .leq 59 (.t 4) (.c (.i .u32 255)))]))
 (.cond (.t 5)
 (.seq (.seq (.reg [zV 6 0])
 (.blk 0
 (.seq (.seq (.reg [zo 8 (.bin .eql 21 (.t 6) (.c (.i .i32 9))),zV 7 8])
 (.cond (.t 7)
 .skip
 (.seq (.reg [zo 9 (.bin .eql 21 (.t 6) (.c (.i .i32 10))),zV 7 9])
 (.cond (.t 7)
 .skip
 (.seq (.reg [zo 10 (.bin .eql 21 (.t 6) (.c (.i .i32 11))),zV 7 10])
 (.cond (.t 7)
 .skip
 (.seq (.reg [zo 11 (.bin .eql 21 (.t 6) (.c (.i .i32 12))),zV 7 11])
 (.cond (.t 7)
 .skip
 (.seq (.reg [zo 12 (.bin .eql 21 (.t 6) (.c (.i .i32 13))),zV 7 12])
 (.cond (.t 7)
 .skip
 (.seq (.reg [zo 13 (.bin .eql 21 (.t 6) (.c (.i .i32 32))),zV 7 13])
 (.cond (.t 7)
 .skip
 (.seq (.reg [zo 14 (.bin .eql 21 (.t 6) (.c (.i .i32 133))),zV 7 14])
 (.cond (.t 7)
 .skip
 (.reg [zo 15 (.bin .eql 21 (.t 6) (.c (.i .i32 160))),zV 7 15])))))))))))))))
 (.cut [1000000,7] (.cond (.t 7)
 (.seq (.reg [zo 2 (.mv (.c (.b true)))])
 .ret)
 .skip)))))
 (.seq (.reg [zo 2 (.mv (.c (.b false)))])
 .ret))
 .skip))
 (.seq (.cut [0] (.reg [zo 16 (.load 272 (.c (.p 3 0 0))),zV 17 0,zC 18 151 [.t 16,.t 17],zV 2 18]))
 .ret)))
def PE:AF:=⟨19,[.t 2],c131⟩
def c138:AC:=(.seq (.reg [zo 4 (.mv (.c (.p0)))])
 (.seq (.cut [0,1,2] (.reg [zL 5 218 1,zV 6 0,zN 7 5,zF 8 233 7 0,zS 3 8 6]))
 (.seq (.cut [1,2] (.gJ [(zL 9 218 1,[]),(zL 10 104 2,[]),(zC 11 139 [.t 10,.c (.i .i64 1)],[zL 9 218 1]),(zN 12 9,[]),(zF 13 233 12 4,[]),(zS 231 13 11,[])]))
 (.seq (.reg [zL 14 104 2,zC 15 67 [.t 14,.c (.s [59])]])
 (.seq (.reg [zL 16 218 1,zV 4 16])
 .ret)))))
def SV:AF:=⟨17,[.t 4],c138⟩
def c139L0:AC:=(.seq (.seq (.cut [0,1,5] (.reg [zV 10 0,zC 11 39 [.t 10],zo 12 (.un .not (.t 11))]))
 (.cond (.t 12)
 .skip
 (.exit 0)))
 (.blk 1
 (.seq (.cut [0,1,5] (.reg [zV 13 0,zC 14 40 [.t 13],zo 6 (.alloc 108),zS 108 6 14]))
 (.seq (.cut [0,1,5,6] (.reg [zF 15 108 6 1,zL 16 9 15,zC 17 156 [.t 16],zV 7 17]))
 (.seq (.seq (.cut [0,1,5,6,7] (.reg [zF 18 108 6 0,zL 19 3 18,zD 20 .neq 3 19 3,zV 21 20,j_ 22 21 7,fC 23 21 (.bin .eql 3 (.t 22) (.c (.i .i64 0))),zo 24 (.pick (.t 21) (.c (.b true)) (.t 23)),zV 25 24,j_ 26 25 7,j_ 27 25 1,fC 28 25 (.bin .lss 3 (.t 26) (.t 27)),zo 29 (.pick (.t 25) (.c (.b true)) (.t 28))]))
 (.cond (.t 29)
 (.exit 0)
 .skip))
 (.seq (.reg [zV 30 0,zC 31 103 [.t 30]])
 (.cut [0,1,5,6,7] (.gJ [(zF 32 108 6 1,[]),(zL 33 9 32,[]),(zV 34 5,[]),(zV 35 0,[]),(zV 36 7,[]),(zD 37 .add 3 36 1,[]),(zF 39 108 6 2,[]),(zL 40 3 39,[]),(zC 38 139 [.t 35,.t 37],[zL 33 9 32,zL 40 3 39]),(zo 41 (.build 260 [(0,.c (.i .i64 3)),(3,.t 33),(4,.t 34),(5,.t 38),(7,.t 40)]),[]),(zo 42 (.box 260 (.t 41)),[]),(zV 5 42,[])]))))))))
def c139:AC:=(.seq (.reg [zo 4 (.mv (.c (.p0)))])
 (.seq (.cut [0,1] (.reg [zV 8 0,zC 9 155 [.t 8],zV 5 9]))
 (.seq (.blk 0
 (.loop [0,1,5] c139L0))
 (.cut [1000000,5] (.seq (.reg [zV 43 5,zV 4 43])
 .ret)))))
def Lr:AF:=⟨44,[.t 4],c139⟩
def c140:AC:=(.seq (.reg [zo 4 (.mv (.c (.p0)))])
 (.seq (.cut [0,1] (.reg [zV 7 1,zo 8 (.build 233 [(0,.c (.i .i64 4)),(7,.t 7)]),zo 9 (.box 233 (.t 8)),zV 5 9]))
 (.seq (.cut [0,5] (.reg [zV 10 5,zV 11 0,zC 12 139 [.t 11,.c (.i .i64 1)],zN 13 10,zF 14 233 13 4,zS 231 14 12]))
 (.seq (.cut [0,5] (.reg [zV 15 5,zV 16 0,zC 17 72 [.t 16],zN 18 15,zF 19 233 18 5,zS 170 19 17]))
 (.seq (.seq (.reg [zV 20 0,zC 21 71 [.t 20,.c (.s [101,108,115,101])]])
 (.cond (.t 21)
 (.seq (.cut [0,5] (.reg [zV 22 0,zC 23 40 [.t 22],zo 6 (.alloc 108),zS 108 6 23]))
 (.seq (.reg [zV 24 0,zC 25 71 [.t 24,.c (.s [105,102])]])
 (.cut [1000000,0,5,6,25] (.cond (.t 25)
 (.cut [0,5,6] (.reg [zV 26 5,zV 27 0,zF 28 108 6 2,zL 29 3 28,zC 30 140 [.t 27,.t 29],zo 31 (.jo 170 1 [(0,.t 30)]),zN 32 26,zF 33 233 32 6,zS 170 33 31]))
 (.cut [0,5] (.reg [zV 34 5,zV 35 0,zC 36 72 [.t 35],zN 37 34,zF 38 233 37 6,zS 170 38 36]))))))
 .skip))
 (.seq (.reg [zV 39 5,zV 4 39])
 .ret))))))
def PG:AF:=⟨40,[.t 4],c140⟩
def c141L0:AC:=(.seq (.seq (.cut [0,3] (.reg [zV 7 0,zo 8 (.jo 163 2 [(0,.c (.s [91])),(1,.c (.s [58]))]),zC 9 106 [.t 7,.t 8]]))
 (.cond (.t 9)
 .skip
 (.exit 0)))
 (.blk 1
 (.seq (.cut [0,3] (.reg [zV 10 0,zC 11 40 [.t 10],zo 4 (.alloc 108),zS 108 4 11]))
 (.seq (.cut [0,3,4] (.reg [zF 12 108 4 1,zL 13 9 12,zo 14 (.bin .eql 9 (.t 13) (.c (.s [91])))]))
 (.cond (.t 14)
 (.cut [0,3,4] (.gJ [(zV 15 3,[]),(zV 16 0,[]),(zF 18 108 4 2,[]),(zL 19 3 18,[]),(zC 17 158 [.t 16,.c (.s [91]),.c (.s [93])],[zL 19 3 18]),(zo 20 (.build 260 [(0,.c (.i .i64 5)),(4,.t 15),(5,.t 17),(7,.t 19)]),[]),(zo 21 (.box 260 (.t 20)),[]),(zV 3 21,[])]))
 (.seq (.reg [zV 22 0,zC 23 103 [.t 22]])
 (.cut [0,3,4] (.gJ [(zV 24 3,[]),(zV 25 0,[]),(zF 27 108 4 2,[]),(zL 28 3 27,[]),(zC 26 159 [.t 25],[zL 28 3 27]),(zo 29 (.build 260 [(0,.c (.i .i64 6)),(4,.t 24),(5,.t 26),(7,.t 28)]),[]),(zo 30 (.box 260 (.t 29)),[]),(zV 3 30,[])]))))))))
def c141:AC:=(.seq (.reg [zo 2 (.mv (.c (.p0)))])
 (.seq (.cut [0] (.reg [zV 5 0,zC 6 157 [.t 5],zV 3 6]))
 (.seq (.blk 0
 (.loop [0,3] c141L0))
 (.seq (.reg [zV 31 3,zV 2 31])
 .ret))))
def PI:AF:=⟨32,[.t 2],c141⟩
def c142:AC:=(.seq (.cut [0,1,2] (.iO [zV 6 1,zo 7 (.bin .neq 218 (.t 6) (.c (.p0))),zV 8 2,zC 9 77 [.t 7,.c (.i .i64 2),.t 8]]))
 (.seq (.cut [0,1] (.iM [(zV 10 0,[]),(zN 11 10,[]),(zF 12 224 11 0,[]),(zL 13 181 12,[]),(zV 14 1,[]),(zN 15 14,[]),(zF 16 233 15 7,[]),(zL 17 3 16,[]),(zC 18 160 [.t 13,.t 17],[])]))
 (.seq (.cut [0,1] (.reg [zV 19 1,zN 20 19,zF 21 233 20 0,zL 22 3 21]))
 (.blk 0
 (.seq (.reg [zD 29 .eql 3 22 1,zV 28 29])
 (.cond (.t 28)
 (.seq (.seq (.cut [0,1] (.reg [zV 30 1,zN 31 30,zF 32 233 31 4,zL 33 231 32,zo 34 (.bin .neq 231 (.t 33) (.c (.p0)))]))
 (.cut [1000000,0,1,34] (.cond (.t 34)
 (.cut [0,1] (.iM [(zV 35 0,[]),(zV 36 1,[]),(zN 37 36,[]),(zF 38 233 37 4,[]),(zL 39 231 38,[]),(zV 40 1,[]),(zN 41 40,[]),(zF 42 233 41 2,[]),(zL 43 4 42,[]),(zV 44 1,[]),(zN 45 44,[]),(zF 46 233 45 7,[]),(zL 47 3 46,[]),(zC 48 161 [.t 35,.t 39,.t 43,.t 47],[])]))
 .skip)))
 (.cut [1000000,0,1] (.cut [0,1] (.iM [(zV 49 0,[]),(zV 50 1,[]),(zN 51 50,[]),(zF 52 233 51 1,[]),(zL 53 9 52,[]),(zV 54 1,[]),(zN 55 54,[]),(zF 56 233 55 2,[]),(zL 57 4 56,[]),(zV 58 1,[]),(zN 59 58,[]),(zF 60 233 59 7,[]),(zL 61 3 60,[]),(zC 62 109 [.t 49,.t 53,.t 57,.t 61],[])]))))
 (.seq (.reg [zD 64 .eql 3 22 2,zV 63 64])
 (.cond (.t 63)
 (.cut [0,1] (.iM [(zV 65 0,[]),(zV 66 1,[]),(zN 67 66,[]),(zF 68 233 67 4,[]),(zL 69 231 68,[]),(zV 70 0,[]),(zV 71 1,[]),(zN 72 71,[]),(zF 73 233 72 1,[]),(zL 74 9 73,[]),(zV 75 1,[]),(zN 76 75,[]),(zF 77 233 76 7,[]),(zL 78 3 77,[]),(zV 80 1,[]),(zN 81 80,[]),(zF 82 233 81 7,[]),(zL 83 3 82,[]),(zC 79 162 [.t 70,.t 74,.t 78],[zL 69 231 68,zL 83 3 82]),(zC 84 161 [.t 65,.t 69,.t 79,.t 83],[])]))
 (.seq (.reg [zD 86 .eql 3 22 3,zV 85 86])
 (.cut [1000000,0,1,22,85] (.cond (.t 85)
 (.seq (.cut [0,1] (.iM [(zV 87 1,[]),(zN 88 87,[]),(zF 89 233 88 3,[]),(zL 90 231 89,[]),(zo 91 (.bin .neq 231 (.t 90) (.c (.p0))),[]),(zV 92 91,[]),(fM 93 92 1,[]),(dn 94 92 (.fF (.t 93)),[]),(dn 95 92 (.mF 233 (.t 94) 3),[]),(dn 96 92 (.load 231 (.t 95)),[]),(dn 97 92 (.fF (.t 96)),[]),(dn 98 92 (.mF 260 (.t 97) 0),[]),(dn 99 92 (.load 3 (.t 98)),[]),(dn 100 92 (.bin .eql 3 (.t 99) (.c (.i .i64 5))),[]),(fM 101 92 100,[]),(j_ 102 101 1,[]),(fC 103 101 (.fF (.t 102)),[]),(fC 104 101 (.mF 233 (.t 103) 3),[]),(fC 105 101 (.load 231 (.t 104)),[]),(fC 106 101 (.fF (.t 105)),[]),(fC 107 101 (.mF 260 (.t 106) 0),[]),(fC 108 101 (.load 3 (.t 107)),[]),(fC 109 101 (.bin .eql 3 (.t 108) (.c (.i .i64 6))),[]),(dn 110 92 (.pick (.t 101) (.c (.b true)) (.t 109)),[]),(zo 111 (.pick (.t 92) (.t 110) (.c (.b false))),[]),(zV 112 1,[]),(zN 113 112,[]),(zF 114 233 113 7,[]),(zL 115 3 114,[]),(zC 116 77 [.t 111,.c (.i .i64 10),.t 115],[])]))
 (.cut [1000000,0,1] (.cut [0,1] (.iM [(zV 117 0,[]),(zV 118 1,[]),(zN 119 118,[]),(zF 120 233 119 4,[]),(zL 121 231 120,[]),(zV 122 0,[]),(zV 123 1,[]),(zN 124 123,[]),(zF 125 233 124 3,[]),(zL 126 231 125,[]),(zV 127 1,[]),(zN 128 127,[]),(zF 129 233 128 7,[]),(zL 130 3 129,[]),(zV 132 1,[]),(zN 133 132,[]),(zF 134 233 133 7,[]),(zL 135 3 134,[]),(zC 131 163 [.t 122,.t 126,.t 130],[zL 121 231 120,zL 135 3 134]),(zC 136 161 [.t 117,.t 121,.t 131,.t 135],[])]))))
 (.seq (.seq (.reg [zD 138 .eql 3 22 4,zV 137 138])
 (.cond (.t 137)
 .skip
 (.reg [zD 139 .eql 3 22 5,zV 137 139])))
 (.cut [1000000,0,1,22,137] (.cond (.t 137)
 (.seq (.cut [0,1] (.iM [(zV 140 0,[]),(zV 141 1,[]),(zN 142 141,[]),(zF 143 233 142 4,[]),(zL 144 231 143,[]),(zV 145 1,[]),(zN 146 145,[]),(zF 147 233 146 7,[]),(zL 148 3 147,[]),(zC 149 161 [.t 140,.t 144,.c (.b false),.t 148],[])]))
 (.seq (.cut [0,1] (.iM [(zV 150 0,[]),(zV 151 1,[]),(zN 152 151,[]),(zF 153 233 152 5,[]),(zL 154 170 153,[]),(zV 155 1,[]),(zN 156 155,[]),(zF 157 233 156 7,[]),(zL 158 3 157,[]),(zC 159 110 [.t 150,.t 154,.t 158],[])]))
 (.seq (.cut [0,1] (.reg [zV 160 1,zN 161 160,zF 162 233 161 0,zL 163 3 162,zD 164 .eql 3 163 4]))
 (.cond (.t 164)
 (.cut [0,1] (.iM [(zV 165 0,[]),(zV 166 1,[]),(zN 167 166,[]),(zF 168 233 167 6,[]),(zL 169 170 168,[]),(zV 170 1,[]),(zN 171 170,[]),(zF 172 233 171 7,[]),(zL 173 3 172,[]),(zC 174 110 [.t 165,.t 169,.t 173],[])]))
 .skip))))
 (.seq (.seq (.reg [zD 176 .eql 3 22 6,zV 175 176])
 (.cond (.t 175)
 .skip
 (.reg [zD 177 .eql 3 22 7,zV 175 177])))
 (.cut [1000000,0,1,22,175] (.cond (.t 175)
 (.cut [0,1] (.iM [(zV 178 0,[]),(zV 179 1,[]),(zN 180 179,[]),(zF 181 233 180 4,[]),(zL 182 231 181,[]),(zV 183 1,[]),(zN 184 183,[]),(zF 185 233 184 0,[]),(zL 186 3 185,[]),(zD 187 .eql 3 186 7,[]),(zV 188 1,[]),(zN 189 188,[]),(zF 190 233 189 7,[]),(zL 191 3 190,[]),(zC 192 161 [.t 178,.t 182,.t 187,.t 191],[])]))
 (.seq (.reg [zD 194 .eql 3 22 8,zV 193 194])
 (.cond (.t 193)
 .skip
 (.seq (.reg [zD 196 .eql 3 22 9,zV 195 196])
 (.cond (.t 195)
 (.seq (.cut [0,1] (.reg [zV 197 1,zN 198 197,zF 199 233 198 4,zL 200 231 199,zo 201 (.bin .neq 231 (.t 200) (.c (.p0)))]))
 (.cond (.t 201)
 (.cut [0,1] (.iM [(zV 202 0,[]),(zV 203 1,[]),(zN 204 203,[]),(zF 205 233 204 4,[]),(zL 206 231 205,[]),(zV 207 0,[]),(zN 208 207,[]),(zF 209 224 208 1,[]),(zL 210 110 209,[]),(zN 211 210,[]),(zF 212 172 211 2,[]),(zL 213 4 212,[]),(zV 214 1,[]),(zN 215 214,[]),(zF 216 233 215 7,[]),(zL 217 3 216,[]),(zC 218 161 [.t 202,.t 206,.t 213,.t 217],[])]))
 .skip))
 (.seq (.reg [zD 220 .eql 3 22 10,zV 219 220])
 (.cond (.t 219)
 (.seq (.cut [0,1] (.iM [(zV 221 1,[]),(zN 222 221,[]),(zF 223 233 222 4,[]),(zL 224 231 223,[]),(zo 225 (.bin .neq 231 (.t 224) (.c (.p0))),[]),(zV 226 225,[]),(fM 227 226 1,[]),(dn 228 226 (.fF (.t 227)),[]),(dn 229 226 (.mF 233 (.t 228) 4),[]),(dn 230 226 (.load 231 (.t 229)),[]),(dn 231 226 (.fF (.t 230)),[]),(dn 232 226 (.mF 260 (.t 231) 0),[]),(dn 233 226 (.load 3 (.t 232)),[]),(dn 234 226 (.bin .eql 3 (.t 233) (.c (.i .i64 4))),[]),(zo 235 (.pick (.t 226) (.t 234) (.c (.b false))),[]),(zV 236 1,[]),(zN 237 236,[]),(zF 238 233 237 7,[]),(zL 239 3 238,[]),(zC 240 77 [.t 235,.c (.i .i64 10),.t 239],[])]))
 (.cut [0,1] (.iM [(zV 241 0,[]),(zV 242 1,[]),(zN 243 242,[]),(zF 244 233 243 4,[]),(zL 245 231 244,[]),(zV 246 1,[]),(zN 247 246,[]),(zF 248 233 247 7,[]),(zL 249 3 248,[]),(zC 250 163 [.t 241,.t 245,.t 249],[])])))
 (.cut [1] (.iO [zV 23 1,zN 24 23,zF 25 233 24 7,zL 26 3 25,zC 27 112 [.c (.i .i64 2),.t 26]])))))))))))))))))))))))))
def Cb:AF:=⟨251,[],c142⟩
def c143:AC:=(.seq (.reg [zo 4 (.mv (.c (.i .i64 0)))])
 (.seq (.cut [0,1] (.gJ [(zV 5 0,[]),(zN 6 5,[]),(zF 7 139 6 3,[]),(zL 8 136 7,[]),(zV 9 0,[]),(zN 10 9,[]),(zF 11 139 10 3,[]),(zL 12 136 11,[]),(zN 13 12,[]),(zF 14 146 13 4,[]),(zL 15 3 14,[]),(zV 16 1,[]),(zD 17 .add 3 16 1,[]),(zo 18 (.mn true [.t 15,.t 17]),[]),(zN 19 8,[]),(zF 20 146 19 4,[]),(zS 3 20 18,[])]))
 (.seq (.cut [0,1] (.gJ [(zV 21 0,[]),(zN 22 21,[]),(zF 23 139 22 3,[]),(zL 24 136 23,[]),(zN 25 24,[]),(zF 26 146 25 1,[]),(zL 27 3 26,[]),(zV 28 0,[]),(zN 29 28,[]),(zF 30 139 29 3,[]),(zL 31 136 30,[]),(zN 32 31,[]),(zF 33 146 32 3,[]),(zL 34 3 33,[]),(zo 35 (.bin .add 3 (.c (.i .i64 1)) (.t 34)),[]),(zV 36 1,[]),(zB 37 .add 3 35 36,[]),(zo 38 (.bin .mul 3 (.c (.i .i64 16)) (.t 37)),[]),(zB 39 .add 3 27 38,[]),(zV 4 39,[])]))
 .ret)))
def SX:AF:=⟨40,[.t 4],c143⟩
def c150:AC:=(.seq (.reg [zo 2 (.alloc 266)])
 (.seq (.seq (.cut [0,2] (.reg [zV 3 0,zD 4 .lss 3 3 0,zV 5 4,j_ 6 5 0,fC 7 5 (.bin .gtr 3 (.t 6) (.c (.i .i64 53))),zo 8 (.pick (.t 5) (.c (.b true)) (.t 7))]))
 (.cond (.t 8)
 (.seq (.reg [zo 9 (.build 266 []),zS 266 2 9])
 .ret)
 .skip))
 (.seq (.cut [0,2] (.reg [zV 10 0,zo 11 (.iF 284 (.c (.p 6 0 0)) (.t 10)),zL 12 266 11,zS 266 2 12]))
 .ret)))
def Td:AF:=⟨13,[.cell 2 266],c150⟩
def c151:AC:=(.seq (.reg [zo 4 (.mv (.c (.b false)))])
 (.seq (.cut [0,1] (.reg [zV 8 0,zN 9 8,zF 10 288 9 0,zL 11 285 10,zV 5 11]))
 (.seq (.seq (.cut [0,1,5] (.reg [zV 12 0,zN 13 12,zF 14 288 13 2,zL 15 3 14,zV 6 15]))
 (.seq (.cut [0,1,5,6] (.reg [zV 16 5,zo 17 (.len 285 (.t 16)),zV 18 6,zB 19 .gtr 3 17 18,zV 20 19,fM 21 20 1,dn 22 20 (.conv 21 59 (.t 21)),fM 23 20 5,fM 24 20 5,dn 25 20 (.len 285 (.t 24)),dn 26 20 (.bin .sub 3 (.t 25) (.c (.i .i64 1))),dn 27 20 (.iF 285 (.t 23) (.t 26)),dn 28 20 (.mF 290 (.t 27) 1),dn 29 20 (.load 97 (.t 28)),dn 30 20 (.conv 97 59 (.t 29)),dn 31 20 (.bin .leq 59 (.t 22) (.t 30)),zo 32 (.pick (.t 20) (.t 31) (.c (.b false)))]))
 (.cond (.t 32)
 (.seq (.cut [1,5,6] (.reg [zV 33 5,zV 34 6,zo 35 (.slc 285 (.t 33) (some (.t 34)) none),zV 36 1,zo 37 (.conv 21 97 (.t 36)),zC 38 168 [.t 35,.t 37],zV 4 38]))
 .ret)
 .skip)))
 (.cut [1000000,0,1] (.seq (.cut [0,1] (.reg [zV 39 0,zN 40 39,zF 41 288 40 1,zL 42 286 41,zV 7 42]))
 (.seq (.seq (.cut [1,7] (.reg [zV 43 7,zo 44 (.len 286 (.t 43)),zD 45 .gtr 3 44 0,zV 46 45,fM 47 46 1,fM 48 46 7,dn 49 46 (.iF 286 (.t 48) (.c (.i .i64 0))),dn 50 46 (.mF 293 (.t 49) 0),dn 51 46 (.load 59 (.t 50)),dn 52 46 (.conv 59 21 (.t 51)),dn 53 46 (.bin .geq 21 (.t 47) (.t 52)),zo 54 (.pick (.t 46) (.t 53) (.c (.b false)))]))
 (.cond (.t 54)
 (.seq (.cut [1,7] (.reg [zV 55 7,zV 56 1,zo 57 (.conv 21 59 (.t 56)),zC 58 169 [.t 55,.t 57],zV 4 58]))
 .ret)
 .skip))
 (.seq (.reg [zo 4 (.mv (.c (.b false)))])
 .ret)))))))
def PK:AF:=⟨59,[.t 4],c151⟩
def c155:AC:=(.seq (.reg [zo 1 (.box 104 (.t 0)),zo 2 (.mv (.c (.p0)))])
 (.seq (.cut [1] (.reg [zL 5 104 1,zC 6 40 [.t 5],zo 3 (.alloc 108),zS 108 3 6]))
 (.seq (.seq (.cut [1,3] (.reg [zL 7 104 1,zo 8 (.jo 163 2 [(0,.c (.s [33])),(1,.c (.s [45]))]),zC 9 106 [.t 7,.t 8],zo 10 (.un .not (.t 9))]))
 (.cond (.t 10)
 (.seq (.cut [1] (.reg [zL 11 104 1,zC 12 141 [.t 11],zV 2 12]))
 .ret)
 .skip))
 (.seq (.cut [1,3] (.reg [zF 13 108 3 1,zL 14 9 13,zF 15 108 3 2,zL 16 3 15,zo 17 (.build 260 [(0,.c (.i .i64 3)),(3,.t 14),(7,.t 16)]),zo 18 (.box 260 (.t 17)),zo 4 (.alloc 231),zS 231 4 18]))
 (.seq (.cut [1,3,4] (.reg [zL 19 104 1,zF 20 108 3 1,zL 21 9 20,zo 22 (.rQ (.func 171) [] [.t 1,.t 4]),zC 23 104 [.t 19,.t 21,.t 22]]))
 (.seq (.reg [zL 24 231 4,zV 2 24])
 .ret))))))
def Tm:AF:=⟨25,[.t 2],c155⟩
def c156:AC:=(.seq (.reg [zo 2 (.mv (.c (.i .i64 0)))])
 (.seq (.cut [0] (.reg [zo 3 (.Ei 144 none),zn (.mW 144 (.t 3) (.c (.s [124,124])) (.c (.i .i64 1))),zn (.mW 144 (.t 3) (.c (.s [38,38])) (.c (.i .i64 2))),zn (.mW 144 (.t 3) (.c (.s [61,61])) (.c (.i .i64 3))),zn (.mW 144 (.t 3) (.c (.s [33,61])) (.c (.i .i64 3))),zn (.mW 144 (.t 3) (.c (.s [60])) (.c (.i .i64 4))),zn (.mW 144 (.t 3) (.c (.s [60,61])) (.c (.i .i64 4))),zn (.mW 144 (.t 3) (.c (.s [62])) (.c (.i .i64 4))),zn (.mW 144 (.t 3) (.c (.s [62,61])) (.c (.i .i64 4))),zn (.mW 144 (.t 3) (.c (.s [43])) (.c (.i .i64 5))),zn (.mW 144 (.t 3) (.c (.s [45])) (.c (.i .i64 5))),zn (.mW 144 (.t 3) (.c (.s [124])) (.c (.i .i64 5))),zn (.mW 144 (.t 3) (.c (.s [94])) (.c (.i .i64 5))),zn (.mW 144 (.t 3) (.c (.s [42])) (.c (.i .i64 6))),zn (.mW 144 (.t 3) (.c (.s [47])) (.c (.i .i64 6))),zn (.mW 144 (.t 3) (.c (.s [37])) (.c (.i .i64 6))),zn (.mW 144 (.t 3) (.c (.s [38])) (.c (.i .i64 6))),zn (.mW 144 (.t 3) (.c (.s [60,60])) (.c (.i .i64 6))),zn (.mW 144 (.t 3) (.c (.s [62,62])) (.c (.i .i64 6))),zV 4 3,zV 5 0,zo 6 (.uN 144 (.t 4) (.t 5) false),zV 2 6]))
 .ret))
def Tn:AF:=⟨7,[.t 2],c156⟩
def c157:AC:=(.seq (.reg [zo 1 (.box 104 (.t 0)),zo 2 (.mv (.c (.p0)))])
 (.seq (.cut [1] (.reg [zL 5 104 1,zC 6 40 [.t 5],zo 3 (.alloc 108),zS 108 3 6]))
 (.seq (.blk 0
 (.seq (.cut [1,3] (.reg [zL 8 104 1,zC 9 71 [.t 8,.c (.s [110,101,119])],zV 7 9]))
 (.cond (.t 7)
 (.seq (.cut [1,3] (.gJ [(zL 10 104 1,[]),(zF 12 108 3 2,[]),(zL 13 3 12,[]),(zC 11 158 [.t 10,.c (.s [40]),.c (.s [41])],[zL 13 3 12]),(zo 14 (.build 260 [(0,.c (.i .i64 7)),(4,.t 11),(7,.t 13)]),[]),(zo 15 (.box 260 (.t 14)),[]),(zV 2 15,[])]))
 .ret)
 (.seq (.cut [1,3] (.reg [zL 17 104 1,zC 18 71 [.t 17,.c (.s [105,110])],zV 16 18]))
 (.cond (.t 16)
 (.seq (.cut [1,3] (.reg [zL 19 104 1,zo 20 (.rQ (.func 172) [] [.t 1]),zC 21 104 [.t 19,.c (.s [40]),.t 20]]))
 (.seq (.cut [3] (.reg [zF 22 108 3 2,zL 23 3 22,zo 24 (.build 260 [(0,.c (.i .i64 8)),(7,.t 23)]),zo 25 (.box 260 (.t 24)),zV 2 25]))
 .ret))
 .skip)))))
 (.seq (.cut [1,3] (.reg [zL 26 104 1,zC 27 159 [.t 26],zo 4 (.alloc 231),zS 231 4 27]))
 (.cut [1000000,1,3,4] (.seq (.seq (.cut [1,3,4] (.reg [zF 28 108 3 0,zL 29 3 28,zD 30 .eql 3 29 1,zV 31 30,dn 32 31 (.load 231 (.t 4)),dn 33 31 (.fF (.t 32)),dn 34 31 (.mF 260 (.t 33) 0),dn 35 31 (.load 3 (.t 34)),dn 36 31 (.bin .eql 3 (.t 35) (.c (.i .i64 2))),zo 37 (.pick (.t 31) (.t 36) (.c (.b false))),zV 38 37,dn 39 38 (.load 104 (.t 1)),dn 40 38 (.jo 163 1 [(0,.c (.s [40]))]),dn 41 38 (.call (.c (.fn (.func 106) [] [])) [.t 39,.t 40]),zo 42 (.pick (.t 38) (.t 41) (.c (.b false)))]))
 (.cond (.t 42)
 (.seq (.cut [1,4] (.reg [zL 43 231 4,zN 44 43,zF 45 260 44 0,zn (.store 3 (.t 45) (.c (.i .i64 4)))]))
 (.cut [1,4] (.reg [zL 46 104 1,zo 47 (.rQ (.func 173) [] [.t 4,.t 1]),zC 48 69 [.t 46,.t 47]])))
 .skip))
 (.seq (.reg [zL 49 231 4,zV 2 49])
 .ret)))))))
def PL:AF:=⟨50,[.t 2],c157⟩
def c158:AC:=(.seq (.cut [0,1,2] (.reg [zo 3 (.box 104 (.t 0)),zo 5 (.box 9 (.t 2)),zo 6 (.alloc 231)]))
 (.seq (.cut [1,3,5,6] (.reg [zL 7 104 3,zV 8 1,zo 9 (.rQ (.func 174) [] [.t 3,.t 6,.t 5]),zC 10 104 [.t 7,.t 8,.t 9]]))
 (.seq (.reg [zL 11 231 6,zS 231 6 11])
 .ret)))
def Tq:AF:=⟨12,[.cell 6 231],c158⟩
def c159:AC:=(.seq (.reg [zo 2 (.mv (.c (.p0)))])
 (.seq (.cut [0] (.reg [zV 6 0,zC 7 40 [.t 6],zo 3 (.alloc 108),zS 108 3 7]))
 (.seq (.blk 0
 (.seq (.cut [0,3] (.reg [zV 9 0,zo 10 (.jo 163 1 [(0,.c (.s [40]))]),zC 11 106 [.t 9,.t 10],zV 8 11]))
 (.cond (.t 8)
 (.seq (.cut [0] (.reg [zV 12 0,zC 13 158 [.t 12,.c (.s [40]),.c (.s [41])],zV 2 13]))
 .ret)
 (.seq (.cut [0,3] (.reg [zF 15 108 3 0,zL 16 3 15,zD 17 .eql 3 16 2,zV 18 17,fM 19 18 0,dn 20 18 (.call (.c (.fn (.func 39) [] [])) [.t 19]),dn 21 18 (.un .not (.t 20)),zo 22 (.pick (.t 18) (.t 21) (.c (.b false))),zV 14 22]))
 (.cond (.t 14)
 (.seq (.reg [zV 23 0,zC 24 103 [.t 23]])
 (.seq (.cut [3] (.reg [zF 26 108 3 1,zL 27 9 26,zC 28 65 [.t 27,.c (.i .i64 10),.c (.i .i64 32)],zV 25 28,zE 29 25 0,zE 30 25 1,zV 4 29,zV 5 30]))
 (.seq (.cut [3,4] (.reg [zV 31 4,zo 32 (.conv 165 59 (.t 31)),zF 33 108 3 2,zL 34 3 33,zo 35 (.build 260 [(0,.c (.i .i64 1)),(1,.t 32),(7,.t 34)]),zo 36 (.box 260 (.t 35)),zV 2 36]))
 .ret)))
 .skip)))))
 (.cut [1000000,0,3] (.seq (.cut [0,3] (.gJ [(zV 37 0,[]),(zF 39 108 3 2,[]),(zL 40 3 39,[]),(zC 38 68 [.t 37],[zL 40 3 39]),(zo 41 (.build 260 [(0,.c (.i .i64 2)),(2,.t 38),(7,.t 40)]),[]),(zo 42 (.box 260 (.t 41)),[]),(zV 2 42,[])]))
 .ret)))))
def PN:AF:=⟨43,[.t 2],c159⟩
def c160:AC:=(.seq (.cut [0,1] (.iO [zV 4 0,zN 5 4,zF 6 185 5 2,zL 7 3 6,zD 8 .gtr 3 7 0,zV 9 1,zC 10 77 [.t 8,.c (.i .i64 3),.t 9]]))
 (.cut [0] (.reg [zV 11 0,zN 12 11,zF 13 185 12 2,zL 14 3 13,zD 15 .sub 3 14 1,zN 16 11,zF 17 185 16 2,zS 3 17 15])))
def Tt:AF:=⟨18,[],c160⟩
def c161:AC:=(.cut [0,1,2,3] (.iO [zV 8 0,zV 9 1,zV 10 3,zC 11 163 [.t 8,.t 9,.t 10],zV 12 2,zB 13 .eql 4 11 12,zV 14 3,zC 15 77 [.t 13,.c (.i .i64 10),.t 14]]))
def Tv:AF:=⟨16,[],c161⟩
def c162:AC:=(.seq (.reg [zo 6 (.mv (.c (.b false)))])
 (.seq (.cut [0,1,2] (.reg [zV 10 0,zN 11 10,zF 12 224 11 3,zL 13 222 12,zV 14 1,zo 15 (.uN 222 (.t 13) (.t 14) true),zV 9 15,zE 16 9 0,zE 17 9 1,zV 7 16,zV 8 17]))
 (.seq (.cut [2,7,8] (.iO [zV 18 8,zV 19 2,zC 20 77 [.t 18,.c (.i .i64 5),.t 19]]))
 (.seq (.reg [zV 21 7,zV 6 21])
 .ret))))
def Tz:AF:=⟨22,[.t 6],c162⟩
def c163:AC:=(.seq (.reg [zo 6 (.mv (.c (.b false)))])
 (.seq (.cut [0,1,2] (.iO [zV 9 1,zo 10 (.bin .neq 231 (.t 9) (.c (.p0))),zV 11 2,zC 12 77 [.t 10,.c (.i .i64 2),.t 11]]))
 (.seq (.cut [0,1] (.iM [(zV 13 0,[]),(zN 14 13,[]),(zF 15 224 14 0,[]),(zL 16 181 15,[]),(zV 17 1,[]),(zN 18 17,[]),(zF 19 260 18 7,[]),(zL 20 3 19,[]),(zC 21 160 [.t 16,.t 20],[])]))
 (.seq (.seq (.cut [0,1] (.reg [zV 22 1,zN 23 22,zF 24 260 23 0,zL 25 3 24]))
 (.blk 0
 (.seq (.seq (.reg [zD 27 .eql 3 25 1,zV 26 27])
 (.cond (.t 26)
 .skip
 (.reg [zD 28 .eql 3 25 8,zV 26 28])))
 (.cut [1000000,0,1,25,26] (.cond (.t 26)
 (.seq (.reg [zo 6 (.mv (.c (.b false)))])
 .ret)
 (.seq (.reg [zD 30 .eql 3 25 2,zV 29 30])
 (.cond (.t 29)
 (.seq (.cut [0,1] (.iM [(zV 31 0,[]),(zV 32 1,[]),(zN 33 32,[]),(zF 34 260 33 2,[]),(zL 35 9 34,[]),(zV 36 1,[]),(zN 37 36,[]),(zF 38 260 37 7,[]),(zL 39 3 38,[]),(zC 40 162 [.t 31,.t 35,.t 39],[]),(zV 6 40,[])]))
 .ret)
 (.seq (.reg [zD 42 .eql 3 25 3,zV 41 42])
 (.cond (.t 41)
 (.seq (.cut [0,1] (.iO [zV 43 0,zV 44 1,zC 45 175 [.t 43,.t 44]]))
 (.seq (.reg [zo 6 (.mv (.c (.b false)))])
 .ret))
 (.seq (.reg [zD 47 .eql 3 25 4,zV 46 47])
 (.cond (.t 46)
 (.seq (.cut [0,1] (.iO [zV 48 0,zV 49 1,zC 50 176 [.t 48,.t 49],zV 6 50]))
 .ret)
 (.seq (.seq (.reg [zD 52 .eql 3 25 5,zV 51 52])
 (.cond (.t 51)
 .skip
 (.reg [zD 53 .eql 3 25 6,zV 51 53])))
 (.cut [1000000,0,1,25,51] (.cond (.t 51)
 (.seq (.cut [0,1] (.iO [zV 55 0,zV 56 1,zC 57 177 [.t 55,.t 56],zV 54 57,zE 58 54 0,zE 59 54 1,zV 7 58,zV 8 59]))
 (.seq (.cut [1,7,8] (.iO [zV 60 7,zV 61 60,fM 62 61 8,dn 63 61 (.un .not (.t 62)),zo 64 (.pick (.t 61) (.t 63) (.c (.b false))),zV 65 1,zN 66 65,zF 67 260 66 7,zL 68 3 67,zC 69 77 [.t 64,.c (.i .i64 10),.t 68]]))
 (.seq (.cut [1] (.reg [zV 70 1,zN 71 70,zF 72 260 71 0,zL 73 3 72,zD 74 .eql 3 73 6,zV 6 74]))
 .ret)))
 (.seq (.reg [zD 76 .eql 3 25 7,zV 75 76])
 (.cond (.t 75)
 (.seq (.cut [0,1] (.iM [(zV 77 0,[]),(zV 78 1,[]),(zN 79 78,[]),(zF 80 260 79 4,[]),(zL 81 231 80,[]),(zV 82 1,[]),(zN 83 82,[]),(zF 84 260 83 7,[]),(zL 85 3 84,[]),(zC 86 161 [.t 77,.t 81,.c (.b false),.t 85],[])]))
 (.seq (.reg [zo 6 (.mv (.c (.b true)))])
 .ret))
 .skip))))))))))))))))
 (.seq (.cut [1] (.iO [zV 87 1,zN 88 87,zF 89 260 88 7,zL 90 3 89,zC 91 112 [.c (.i .i64 2),.t 90]]))
 (.seq (.reg [zo 6 (.mv (.c (.b false)))])
 .ret))))))
def Ls:AF:=⟨92,[.t 6],c163⟩
def c164:AC:=(.seq (.reg [zo 6 (.mv (.c (.fn0)))])
 (.seq (.cut [0,1,2] (.reg [zV 7 0,zV 8 1,zV 9 2,zo 10 (.build 194 [(0,.t 8),(1,.t 9),(2,.c (.i .i64 0)),(4,.c (.i .i64 2))]),zo 11 (.jo 229 1 [(0,.t 10)]),zC 12 81 [.t 7,.t 11]]))
 (.seq (.cut [0] (.reg [zV 13 0,zC 14 48 [.t 13,.c (.i .i64 6)],zV 6 14]))
 .ret)))
def TA:AF:=⟨15,[.t 6],c164⟩
def c224:AC:=(.seq (.reg [zo 2 (.mv (.c (.fK)))])
 (.seq (.seq (.reg [zV 3 0,zo 4 (.bin .eql 49 (.t 3) (.c (.p0)))])
 (.cond (.t 4)
 (.seq (.reg [zo 2 (.mv (.c (.fK)))])
 .ret)
 .skip))
 (.seq (.cut [0] (.reg [zV 5 0,zN 6 5,zF 7 53 6 0,zL 8 28 7,zo 9 (.qG 28 (.t 8)),zV 2 9]))
 .ret)))
def Uh:AF:=⟨10,[.t 2],c224⟩
def fns:Nat→Option AF
 | 3=>some F3
 | 4=>some F4
 | 5=>some F5
 | 6=>some F6
 | 7=>some F7
 | 8=>some F8
 | 10=>some F10
 | 11=>some F11
 | 12=>some F12
 | 13=>some F13
 | 14=>some F14
 | 15=>some F15
 | 16=>some F16
 | 17=>some F17
 | 18=>some F18
 | 19=>some F19
 | 20=>some F20
 | 26=>some F26
 | 27=>some F27
 | 28=>some F28
 | 29=>some F29
 | 30=>some F30
 | 31=>some F31
 | 32=>some F32
 | 33=>some F33
 | 34=>some F34
 | 35=>some F35
 | 36=>some F36
 | 37=>some F37
 | 38=>some F38
 | 39=>some F39
 | 40=>some F40
 | 41=>some F41
 | 42=>some F42
 | 43=>some F43
 | 44=>some F44
 | 47=>some F47
 | 48=>some F48
 | 49=>some F49
 | 50=>some F50
 | 51=>some F51
 | 52=>some F52
 | 53=>some F53
 | 54=>some F54
 | 55=>some F55
 | 56=>some F56
 | 57=>some F57
 | 58=>some F58
 | 59=>some F59
 | 61=>some F61
 | 62=>some F62
 | 63=>some F63
 | 64=>some F64
 | 66=>some F66
 | 67=>some F67
 | 68=>some F68
 | 69=>some F69
 | 70=>some F70
 | 71=>some F71
 | 72=>some F72
 | 74=>some F74
 | 75=>some F75
 | 76=>some F76
 | 77=>some F77
 | 78=>some F78
 | 79=>some F79
 | 80=>some F80
 | 81=>some F81
 | 82=>some F82
 | 83=>some F83
 | 84=>some F84
 | 85=>some F85
 | 86=>some F86
 | 87=>some F87
 | 88=>some F88
 | 89=>some F89
 | 90=>some F90
 | 91=>some F91
 | 92=>some F92
 | 93=>some F93
 | 94=>some F94
 | 95=>some F95
 | 97=>some F97
 | 98=>some F98
 | 99=>some F99
 | 102=>some Si
 | 103=>some Sj
 | 104=>some Ph
 | 105=>some Pj
 | 106=>some Sl
 | 107=>some Pm
 | 108=>some D7
 | 109=>some Sm
 | 110=>some Je
 | 111=>some Pn
 | 112=>some Sv
 | 113=>some Po
 | 114=>some Lp
 | 115=>some Sz
 | 116=>some D8
 | 117=>some Pq
 | 118=>some SA
 | 119=>some SB
 | 120=>some SC
 | 121=>some Pv
 | 122=>some SE
 | 123=>some Px
 | 124=>some SG
 | 125=>some SH
 | 126=>some Py
 | 127=>some SI
 | 129=>some Pz
 | 130=>some Jf
 | 131=>some PE
 | 138=>some SV
 | 139=>some Lr
 | 140=>some PG
 | 141=>some PI
 | 142=>some Cb
 | 143=>some SX
 | 150=>some Td
 | 151=>some PK
 | 155=>some Tm
 | 156=>some Tn
 | 157=>some PL
 | 158=>some Tq
 | 159=>some PN
 | 160=>some Tt
 | 161=>some Tv
 | 162=>some Tz
 | 163=>some Ls
 | 164=>some TA
 | 224=>some Uh
 | _=>none
end Go.dX.YthggaoedidfpcaaGreatDoor
