/- Texts of this claim, joined: Code. -/
import Derived.Test.YtjcicgkencfbgaaGreatDoorM01
set_option linter.unusedVariables false
set_option linter.unusedSimpArgs false
namespace Go.bG.YtjcicgkencfbgaaGreatDoor
@[reducible] def zo (d:Nat) (o:fC):AI:=⟨some d,none,o⟩
@[reducible] def bf (d g:Nat) (o:fC):AI:=⟨some d,some (g,true),o⟩
@[reducible] def cu (d g:Nat) (o:fC):AI:=⟨some d,some (g,false),o⟩
@[reducible] def zn (o:fC):AI:=⟨none,none,o⟩
@[reducible] def zV (d a:Nat):AI:=⟨some d,none,.mv (.t a)⟩
@[reducible] def eH (d g a:Nat):AI:=⟨some d,some (g,true),.mv (.t a)⟩
@[reducible] def iD (d g a:Nat):AI:=⟨some d,some (g,false),.mv (.t a)⟩
@[reducible] def zL (d t a:Nat):AI:=⟨some d,none,.load t (.t a)⟩
@[reducible] def zN (d a:Nat):AI:=⟨some d,none,.bn (.t a)⟩
@[reducible] def zF (d t a k:Nat):AI:=⟨some d,none,.fH t (.t a) k⟩
@[reducible] def zE (d a k:Nat):AI:=⟨some d,none,.ext (.t a) k⟩
@[reducible] def zS (t a b:Nat):AI:=⟨none,none,.store t (.t a) (.t b)⟩
@[reducible] def zC (d f:Nat) (l:List dK):AI:=⟨some d,none,.call (.c (.fn (.func f) [] [])) l⟩
@[reducible] def zB (d:Nat) (o:BinOp) (t a b:Nat):AI:=⟨some d,none,.bin o t (.t a) (.t b)⟩
@[reducible] def zD (d:Nat) (o:BinOp) (t a:Nat) (b:Int):AI:=⟨some d,none,.bin o t (.t a) (.c (.i .i64 b))⟩
def c2:AC:=(.reg [zC 0 1 []])
def F2:AF:=⟨1,[],c2⟩
def c3:AC:=(.seq (.reg [zo 4 (.mv (.c (.b false)))])
 (.seq (.cut [0,1] (.reg [zV 12 0,zC 13 6 [.t 12],zV 11 13,zE 14 11 0,zE 15 11 1,zE 16 11 2,zo 6 (.alloc 25),zV 5 14,zS 25 6 15,zV 7 16]))
 (.seq (.cut [1,5] (.reg [zV 18 1,zC 19 6 [.t 18],zV 17 19,zE 20 17 0,zE 21 17 1,zE 22 17 2,zo 9 (.alloc 25),zV 8 20,zS 25 9 21,zV 10 22]))
 (.seq (.cut [5,8] (.reg [zV 23 5,zV 24 8,zC 25 7 [.t 23,.t 24],zV 26 5,zV 27 8,zC 28 8 [.t 26,.t 27],zB 29 .eql 4 25 28,zV 30 29,eH 31 30 8,eH 32 30 5,bf 33 30 (.call (.c (.fn (.func 7) [] [])) [.t 31,.t 32]),eH 34 30 8,eH 35 30 5,bf 36 30 (.call (.c (.fn (.func 8) [] [])) [.t 34,.t 35]),bf 37 30 (.bin .eql 4 (.t 33) (.t 36)),zo 38 (.pick (.t 30) (.t 37) (.c (.b false))),zV 39 38,eH 40 39 5,eH 41 39 5,bf 42 39 (.call (.c (.fn (.func 7) [] [])) [.t 40,.t 41]),zo 43 (.pick (.t 39) (.t 42) (.c (.b false))),zV 44 43,bf 45 44 (.call (.c (.fn (.func 9) [] [])) []),zo 46 (.pick (.t 44) (.t 45) (.c (.b false))),zV 4 46]))
 (.cut [1000000,4] .ret)))))
def F3:AF:=⟨47,[.t 4],c3⟩
def ZP:AC:=(.seq (.seq (.cut [0,1,5,7,8] (.reg [zV 28 8,zV 29 5,zo 30 (.len 32 (.t 29)),zB 31 .lss 3 28 30]))
 (.cond (.t 31)
 .skip
 (.exit 0)))
 (.seq (.blk 1
 (.seq (.reg [zo 9 (.mv (.c (.i .u8 0)))])
 (.seq (.seq (.cut [0,1,5,7,8,9] (.reg [zV 34 8,zV 35 1,zo 36 (.len 31 (.t 35)),zB 37 .lss 3 34 36]))
 (.cond (.t 37)
 (.cut [0,1,5,7,8] (.reg [zV 38 1,zV 39 8,zo 40 (.nG 31 (.t 38) (.t 39)),zL 41 5 40,zV 9 41]))
 .skip))
 (.cut [1000000,0,1,5,7,8,9] (.seq (.seq (.reg [zV 42 9,zo 43 (.bin .rem 5 (.t 42) (.c (.i .u8 4)))])
 (.blk 2
 (.seq (.reg [zo 47 (.bin .eql 5 (.t 43) (.c (.i .u8 0))),zV 46 47])
 (.cond (.t 46)
 (.cut [0,1,5,7,8] (.reg [zV 48 7,zo 49 (.bin .add 9 (.t 48) (.c (.s [32]))),zV 7 49]))
 (.seq (.reg [zo 51 (.bin .eql 5 (.t 43) (.c (.i .u8 1))),zV 50 51])
 (.cond (.t 50)
 (.cut [0,1,5,7,8] (.reg [zV 52 7,zo 53 (.bin .add 9 (.t 52) (.c (.s [10]))),zV 7 53]))
 (.seq (.reg [zo 55 (.bin .eql 5 (.t 43) (.c (.i .u8 2))),zV 54 55])
 (.cond (.t 54)
 (.cut [0,1,5,7,8] (.reg [zV 56 7,zo 57 (.bin .add 9 (.t 56) (.c (.s [9,13,32]))),zV 7 57]))
 (.cut [0,1,5,7,8] (.reg [zV 44 7,zo 45 (.bin .add 9 (.t 44) (.c (.s [32,47,47,32,97,32,114,101,109,97,114,107,32,123,10]))),zV 7 45]))))))))))
 (.cut [1000000,0,1,5,7,8] (.cut [0,1,5,7,8] (.reg [zV 58 7,zV 59 5,zV 60 8,zo 61 (.nG 32 (.t 59) (.t 60)),zF 62 38 61 1,zL 63 9 62,zB 64 .add 9 58 63,zV 7 64]))))))))
 (.cut [0,1,5,7,8] (.reg [zV 32 8,zD 33 .add 3 32 1,zV 8 33]))))
def c4:AC:=(.seq (.reg [zo 4 (.mv (.c (.b false)))])
 (.seq (.seq (.reg [zC 14 9 [],zo 15 (.un .not (.t 14))])
 (.cond (.t 15)
 (.seq (.reg [zo 4 (.mv (.c (.b false)))])
 .ret)
 .skip))
 (.seq (.cut [0,1] (.reg [zV 17 0,zC 18 10 [.t 17],zV 16 18,zE 19 16 0,zE 20 16 1,zV 5 19,zV 6 20]))
 (.seq (.seq (.cut [0,1,5,6] (.reg [zV 21 6,zo 22 (.bin .neq 34 (.t 21) (.c (.gu))),zV 23 22,iD 24 23 0,cu 25 23 (.len 9 (.t 24)),cu 26 23 (.bin .gtr 3 (.t 25) (.c (.i .i64 2000))),zo 27 (.pick (.t 23) (.c (.b true)) (.t 26))]))
 (.cond (.t 27)
 (.seq (.reg [zo 4 (.mv (.c (.b true)))])
 .ret)
 .skip))
 (.seq (.reg [zo 7 (.mv (.c (.s [])))])
 (.seq (.seq (.reg [zo 8 (.mv (.c (.i .i64 0)))])
 (.blk 0
 (.loop [0,1,5,7,8] ZP)))
 (.seq (.cut [0,7] (.reg [zV 66 0,zC 67 11 [.t 66],zV 65 67,zE 68 65 0,zE 69 65 1,zV 10 68,zV 11 69]))
 (.seq (.cut [7,10,11] (.reg [zV 71 7,zC 72 11 [.t 71],zV 70 72,zE 73 70 0,zE 74 70 1,zV 12 73,zV 13 74]))
 (.seq (.cut [10,11,12,13] (.jM [(zV 75 11,[]),(zo 76 (.bin .eql 34 (.t 75) (.c (.gu))),[]),(zV 77 13,[]),(zo 78 (.bin .eql 34 (.t 77) (.c (.gu))),[]),(zB 79 .eql 4 76 78,[]),(zV 80 79,[]),(eH 81 80 10,[]),(eH 82 80 12,[]),(bf 83 80 (.call (.c (.fn (.func 7) [] [])) [.t 81,.t 82]),[]),(zo 84 (.pick (.t 80) (.t 83) (.c (.b false))),[]),(zV 4 84,[])]))
 .ret)))))))))
def F4:AF:=⟨85,[.t 4],c4⟩
def c5:AC:=(.seq (.reg [zo 2 (.mv (.c (.b false)))])
 (.seq (.cut [0] (.reg [zV 9 0,zC 10 11 [.t 9],zV 8 10,zE 11 8 0,zE 12 8 1,zV 3 11,zV 4 12]))
 (.seq (.cut [0,3,4] (.reg [zV 14 0,zC 15 6 [.t 14],zV 13 15,zE 16 13 0,zE 17 13 1,zE 18 13 2,zo 6 (.alloc 25),zV 5 16,zS 25 6 17,zV 7 18]))
 (.seq (.cut [3,4,5,6,7] (.reg [zV 19 4,zL 20 25 6,zV 21 7,zC 22 12 [.t 19,.t 20,.t 21],zV 23 22,eH 24 23 3,eH 25 23 5,bf 26 23 (.call (.c (.fn (.func 13) [] [])) [.t 24,.t 25]),zo 27 (.pick (.t 23) (.t 26) (.c (.b false))),zV 28 27,bf 29 28 (.call (.c (.fn (.func 9) [] [])) []),zo 30 (.pick (.t 28) (.t 29) (.c (.b false))),zV 2 30]))
 .ret))))
def F5:AF:=⟨31,[.t 2],c5⟩
def ZQ:AC:=(.seq (.seq (.cut [3,7,8] (.reg [zV 27 7,zN 28 27,zF 29 49 28 3,zL 30 4 29,zo 31 (.un .not (.t 30)),zV 32 31,eH 33 32 7,bf 34 32 (.call (.c (.fn (.func 15) [] [])) [.t 33]),bf 35 32 (.Pn 38 (.t 34) 0),bf 36 32 (.bin .neq 3 (.t 35) (.c (.i .i64 5))),zo 37 (.pick (.t 32) (.t 36) (.c (.b false)))]))
 (.cond (.t 37)
 .skip
 (.exit 0)))
 (.blk 1
 (.cut [3,7,8] (.jM [(zV 38 8,[]),(zV 39 8,[]),(zN 40 39,[]),(zF 41 52 40 0,[]),(zL 42 50 41,[]),(zV 43 7,[]),(zC 44 16 [.t 43],[zL 42 50 41]),(zo 45 (.jh 50 1 [(0,.t 44)]),[zL 42 50 41]),(zo 46 (.app 50 false (.t 42) (.t 45)),[]),(zN 47 38,[]),(zF 48 52 47 0,[]),(zS 50 48 46,[])]))))
def c6:AC:=(.seq (.cut [0] (.reg [zo 2 (.mv (.c (.p0))),zo 3 (.alloc 25),zo 4 (.mv (.c (.b false)))]))
 (.seq (.cut [0,3] (.reg [zV 10 0,zC 11 14 [.t 10],zV 9 11,zE 12 9 0,zE 13 9 1,zo 6 (.alloc 44),zV 5 12,zS 44 6 13]))
 (.seq (.seq (.cut [3,5,6] (.reg [zF 14 44 6 0,zL 15 23 14,zD 16 .neq 23 15 0]))
 (.cond (.t 16)
 (.seq (.cut [3,6] (.jM [(zF 17 44 6 0,[]),(zL 18 23 17,[]),(zF 19 44 6 1,[]),(zL 20 3 19,[]),(zo 21 (.build 25 [(0,.t 18),(1,.t 20)]),[]),(zo 2 (.mv (.c (.p0))),[]),(zS 25 3 21,[]),(zo 4 (.mv (.c (.b true))),[])]))
 .ret)
 .skip))
 (.seq (.cut [3,5] (.reg [zV 22 5,zo 23 (.build 49 [(0,.t 22)]),zo 24 (.box 49 (.t 23)),zV 7 24]))
 (.cut [1000000,3,7] (.seq (.cut [3,7] (.reg [zo 25 (.build 52 []),zo 26 (.box 52 (.t 25)),zV 8 26]))
 (.seq (.blk 0
 (.loop [3,7,8] ZQ))
 (.seq (.seq (.cut [3,7,8] (.reg [zV 49 7,zN 50 49,zF 51 49 50 3,zL 52 4 51]))
 (.cond (.t 52)
 (.seq (.cut [3,7] (.jM [(zV 53 7,[]),(zN 54 53,[]),(zF 55 49 54 4,[]),(zL 56 25 55,[]),(zo 2 (.mv (.c (.p0))),[]),(zS 25 3 56,[]),(zo 4 (.mv (.c (.b true))),[])]))
 .ret)
 .skip))
 (.cut [1000000,3,8] (.seq (.cut [3,8] (.reg [zV 57 8,zo 58 (.build 25 []),zV 2 57,zS 25 3 58,zo 4 (.mv (.c (.b false)))]))
 .ret))))))))))
def F6:AF:=⟨59,[.t 2,.cell 3 25,.t 4],c6⟩
def c7:AC:=(.seq (.reg [zo 4 (.mv (.c (.b false)))])
 (.seq (.cut [0,1] (.reg [zV 5 0,zV 6 1,zC 7 17 [.t 5,.t 6,.c (.fn (.func 18) [] [])],zV 4 7]))
 .ret))
def F7:AF:=⟨8,[.t 4],c7⟩
def c8:AC:=(.seq (.reg [zo 4 (.mv (.c (.b false)))])
 (.seq (.cut [0,1] (.reg [zV 5 0,zV 6 1,zC 7 21 [.t 5,.t 6,.c (.b false)],zV 4 7]))
 .ret))
def F8:AF:=⟨8,[.t 4],c8⟩
def c9:AC:=(.seq (.reg [zo 0 (.mv (.c (.b false)))])
 (.seq (.cut [] (.reg [zC 7 11 [.c (.s [102,117,110,99,32,109,97,105,110,40,41,123,120,61,49,43,50,42,51,59,125])],zV 6 7,zE 8 6 0,zE 9 6 1,zV 1 8,zV 2 9]))
 (.seq (.seq (.reg [zV 10 2,zo 11 (.bin .neq 34 (.t 10) (.c (.gu)))])
 (.cond (.t 11)
 (.seq (.reg [zo 0 (.mv (.c (.b false)))])
 .ret)
 .skip))
 (.seq (.cut [1] (.reg [zV 13 1,zC 14 22 [.t 13],zV 12 14,zE 15 12 0,zE 16 12 1,zV 3 15,zV 4 16]))
 (.seq (.reg [zC 17 23 [.c (.s [49,43,50,42,51])],zV 5 17])
 (.seq (.cut [3,4,5] (.reg [zV 18 4,zD 19 .eql 23 18 0,zV 20 19,eH 21 20 3,bf 22 20 (.bin .eql 9 (.t 21) (.c (.s [102,117,110,99,32,109,97,105,110,40,41,32,123,10,9,120,32,61,32,49,32,43,32,50,32,42,32,51,59,10,125,10]))),zo 23 (.pick (.t 20) (.t 22) (.c (.b false))),zV 24 23,eH 25 24 5,bf 26 24 (.bin .neq 62 (.t 25) (.c (.p0))),zo 27 (.pick (.t 24) (.t 26) (.c (.b false))),zV 28 27,eH 29 28 5,bf 30 28 (.bn (.t 29)),bf 31 28 (.fH 67 (.t 30) 3),bf 32 28 (.load 9 (.t 31)),bf 33 28 (.bin .eql 9 (.t 32) (.c (.s [43]))),zo 34 (.pick (.t 28) (.t 33) (.c (.b false))),zV 35 34,eH 36 35 5,bf 37 35 (.bn (.t 36)),bf 38 35 (.fH 67 (.t 37) 4),bf 39 35 (.load 62 (.t 38)),bf 40 35 (.bin .neq 62 (.t 39) (.c (.p0))),zo 41 (.pick (.t 35) (.t 40) (.c (.b false))),zV 42 41,eH 43 42 5,bf 44 42 (.bn (.t 43)),bf 45 42 (.fH 67 (.t 44) 4),bf 46 42 (.load 62 (.t 45)),bf 47 42 (.bn (.t 46)),bf 48 42 (.fH 67 (.t 47) 1),bf 49 42 (.load 64 (.t 48)),bf 50 42 (.bin .eql 64 (.t 49) (.c (.i .u32 1))),zo 51 (.pick (.t 42) (.t 50) (.c (.b false))),zV 52 51,eH 53 52 5,bf 54 52 (.bn (.t 53)),bf 55 52 (.fH 67 (.t 54) 5),bf 56 52 (.load 62 (.t 55)),bf 57 52 (.bin .neq 62 (.t 56) (.c (.p0))),zo 58 (.pick (.t 52) (.t 57) (.c (.b false))),zV 59 58,eH 60 59 5,bf 61 59 (.bn (.t 60)),bf 62 59 (.fH 67 (.t 61) 5),bf 63 59 (.load 62 (.t 62)),bf 64 59 (.bn (.t 63)),bf 65 59 (.fH 67 (.t 64) 3),bf 66 59 (.load 9 (.t 65)),bf 67 59 (.bin .eql 9 (.t 66) (.c (.s [42]))),zo 68 (.pick (.t 59) (.t 67) (.c (.b false))),zV 69 68,bf 70 69 (.call (.c (.fn (.func 24) [] [])) [.c (.s [40,49,43,50,41,42,51])]),bf 71 69 (.bin .eql 9 (.t 70) (.c (.s [40,49,32,43,32,50,41,32,42,32,51]))),zo 72 (.pick (.t 69) (.t 71) (.c (.b false))),zV 0 72]))
 (.cut [1000000,0] .ret)))))))
def F9:AF:=⟨73,[.t 0],c9⟩
def OQ:AC:=(.seq (.seq (.cut [1,4,5,6,7] (.reg [zL 20 9 1,zo 21 (.len 9 (.t 20)),zD 22 .gtr 3 21 0]))
 (.cond (.t 22)
 .skip
 (.exit 0)))
 (.blk 1
 (.seq (.seq (.reg [zL 23 9 1,zC 24 26 [.t 23,.c (.s [47,47])]])
 (.cond (.t 24)
 (.seq (.cut [1,4,5,6,7] (.reg [zL 25 9 1,zC 26 27 [.t 25,.c (.i .u8 10)],zV 8 26]))
 (.seq (.seq (.reg [zV 27 8,zD 28 .lss 3 27 0])
 (.cond (.t 28)
 (.cut [1,4,5,6,7] (.reg [zL 29 9 1,zo 30 (.len 9 (.t 29)),zV 8 30]))
 .skip))
 (.cut [1000000,1,4,5,6,7,8] (.seq (.cut [1,4,5,6,7,8] (.reg [zL 31 9 1,zV 32 8,zo 33 (.slc 9 (.t 31) (some (.t 32)) none),zS 9 1 33]))
 (.exit 1)))))
 .skip))
 (.seq (.cut [1,4,5,6,7] (.reg [zL 34 9 1,zo 35 (.idx 9 (.t 34) (.c (.i .i64 0))),zo 36 (.conv 5 21 (.t 35)),zC 37 28 [.t 36]]))
 (.blk 2
 (.seq (.reg [zD 39 .eql 72 37 1,zV 38 39])
 (.cond (.t 38)
 (.seq (.seq (.cut [1,4,5,6,7] (.reg [zL 40 9 1,zo 41 (.idx 9 (.t 40) (.c (.i .i64 0))),zo 42 (.bin .eql 5 (.t 41) (.c (.i .u8 10)))]))
 (.cond (.t 42)
 (.cut [1,4,5,6,7] (.reg [zL 43 3 5,zD 44 .add 3 43 1,zS 3 5 44]))
 .skip))
 (.cut [1000000,1,4,5,6,7] (.cut [1,4,5,6,7] (.reg [zL 45 9 1,zo 46 (.slc 9 (.t 45) (some (.c (.i .i64 1))) none),zS 9 1 46]))))
 (.seq (.reg [zD 48 .eql 72 37 2,zV 47 48])
 (.cond (.t 47)
 (.seq (.cut [1,4,5,6,7] (.reg [zL 49 9 1,zo 50 (.jh 117 2 [(0,.c (.i .i64 2)),(1,.c (.i .i64 3))]),zC 51 29 [.t 49,.t 50],zV 9 51]))
 (.blk 3
 (.seq (.cut [1,4,5,6,7,9] (.reg [zV 56 9,zD 57 .gtr 3 56 32,zV 55 57]))
 (.cond (.t 55)
 (.seq (.reg [zo 7 (.mv (.c (.i .i64 9)))])
 (.exit 0))
 (.seq (.cut [1,4,5,6,7,9] (.jM [(zL 60 9 1,[]),(zV 61 9,[]),(zo 62 (.slc 9 (.t 60) none (some (.t 61))),[]),(zC 59 31 [],[zL 60 9 1,zo 62 (.slc 9 (.t 60) none (some (.t 61)))]),(zC 63 30 [.t 59,.t 62],[]),(zV 58 63,[])]))
 (.cond (.t 58)
 (.cut [1,4,5,6,7,9] (.reg [zV 64 6,zV 65 9,zo 66 (.call (.t 64) [.c (.i .i64 4),.t 65])]))
 (.cut [1,4,5,6,7,9] (.reg [zV 52 6,zV 53 9,zo 54 (.call (.t 52) [.c (.i .i64 1),.t 53])]))))))))
 (.seq (.reg [zD 68 .eql 72 37 3,zV 67 68])
 (.cond (.t 67)
 (.seq (.cut [1,4,5,6,7] (.reg [zL 69 9 1,zo 70 (.jh 117 1 [(0,.c (.i .i64 3))]),zC 71 29 [.t 69,.t 70],zV 10 71]))
 (.seq (.seq (.cut [1,4,5,6,7,10] (.reg [zL 72 9 1,zo 73 (.idx 9 (.t 72) (.c (.i .i64 0))),zo 74 (.bin .eql 5 (.t 73) (.c (.i .u8 48))),zV 75 74,eH 76 75 10,bf 77 75 (.bin .gtr 3 (.t 76) (.c (.i .i64 1))),zo 78 (.pick (.t 75) (.t 77) (.c (.b false))),zV 79 78,cu 80 79 (.load 9 (.t 1)),iD 81 79 10,cu 82 79 (.slc 9 (.t 80) (some (.t 81)) none),cu 83 79 (.jh 117 1 [(0,.c (.i .i64 2))]),cu 84 79 (.call (.c (.fn (.func 29) [] [])) [.t 82,.t 83]),cu 85 79 (.bin .gtr 3 (.t 84) (.c (.i .i64 0))),zo 86 (.pick (.t 79) (.c (.b true)) (.t 85))]))
 (.cut [1000000,1,4,5,6,7,10,86] (.cond (.t 86)
 (.seq (.reg [zo 7 (.mv (.c (.i .i64 9)))])
 (.exit 0))
 .skip)))
 (.seq (.seq (.cut [1,4,5,6,7,10] (.reg [zL 88 9 1,zV 89 10,zo 90 (.slc 9 (.t 88) none (some (.t 89))),zC 91 32 [.t 90,.c (.i .i64 10),.c (.i .i64 32)],zV 87 91,zE 92 87 0,zE 93 87 1,zV 11 92,zV 12 93]))
 (.seq (.reg [zV 94 12,zo 95 (.bin .neq 34 (.t 94) (.c (.gu)))])
 (.cond (.t 95)
 (.seq (.reg [zo 7 (.mv (.c (.i .i64 3)))])
 (.exit 0))
 .skip)))
 (.cut [1,4,5,6,7,10] (.reg [zV 96 6,zV 97 10,zo 98 (.call (.t 96) [.c (.i .i64 2),.t 97])])))))
 (.seq (.reg [zD 100 .eql 72 37 4,zV 99 100])
 (.cond (.t 99)
 (.seq (.reg [zL 101 9 1,zC 102 33 [.t 101]])
 (.cond (.t 102)
 (.reg [zV 103 6,zo 104 (.call (.t 103) [.c (.i .i64 3),.c (.i .i64 2)])])
 (.reg [zV 105 6,zo 106 (.call (.t 105) [.c (.i .i64 3),.c (.i .i64 1)])])))
 (.seq (.reg [zo 7 (.mv (.c (.i .i64 9)))])
 (.exit 0)))))))))))))))
def c10:AC:=(.seq (.cut [0] (.reg [zo 1 (.box 9 (.t 0)),zo 2 (.mv (.c (.sl0))),zo 3 (.mv (.c (.gu)))]))
 (.seq (.seq (.cut [1] (.reg [zL 13 9 1,zo 14 (.len 9 (.t 13)),zD 15 .gtr 3 14 32768]))
 (.cond (.t 15)
 (.seq (.cut [] (.reg [zo 16 (.build 25 [(0,.c (.i .i64 3))]),zo 17 (.box 25 (.t 16)),zo 18 (.VY 69 (.t 17)),zo 2 (.mv (.c (.sl0))),zV 3 18]))
 .ret)
 .skip))
 (.seq (.reg [zo 4 (.alloc 32)])
 (.seq (.reg [zo 5 (.alloc 3),zn (.store 3 (.t 5) (.c (.i .i64 0)))])
 (.seq (.reg [zo 19 (.Jj (.func 25) [] [.t 4,.t 1,.t 5]),zV 6 19])
 (.seq (.reg [zo 7 (.mv (.c (.i .i64 0)))])
 (.seq .skip
 (.seq (.blk 0
 (.loop [1,4,5,6,7] OQ))
 (.cut [1000000,4,5,7] (.seq (.seq (.reg [zV 107 7,zD 108 .neq 23 107 0])
 (.cond (.t 108)
 (.seq (.cut [5,7] (.jM [(zV 109 7,[]),(zL 110 3 5,[]),(zo 111 (.build 25 [(0,.t 109),(1,.t 110)]),[]),(zo 2 (.mv (.c (.sl0))),[]),(zo 112 (.box 25 (.t 111)),[]),(zo 113 (.VY 69 (.t 112)),[]),(zV 3 113,[])]))
 .ret)
 .skip))
 (.seq (.cut [4,5] (.reg [zL 114 32 4,zL 115 3 5,zo 116 (.build 38 [(0,.c (.i .i64 5)),(2,.t 115)]),zo 117 (.jh 32 1 [(0,.t 116)]),zo 118 (.app 32 false (.t 114) (.t 117)),zV 2 118,zo 3 (.mv (.c (.gu)))]))
 .ret)))))))))))
def F10:AF:=⟨119,[.t 2,.t 3],c10⟩
def SN:AC:=(.seq (.seq (.cut [6,7] (.reg [zV 21 6,zC 22 34 [.t 21],zo 23 (.un .not (.t 22)),zV 24 23,eH 25 24 6,bf 26 24 (.call (.c (.fn (.func 35) [] [])) [.t 25]),bf 27 24 (.Pn 38 (.t 26) 0),bf 28 24 (.bin .neq 3 (.t 27) (.c (.i .i64 5))),zo 29 (.pick (.t 24) (.t 28) (.c (.b false)))]))
 (.cond (.t 29)
 .skip
 (.exit 0)))
 (.blk 1
 (.cut [6,7] (.jM [(zV 30 7,[]),(zV 31 7,[]),(zN 32 31,[]),(zF 33 52 32 0,[]),(zL 34 50 33,[]),(zV 35 6,[]),(zC 36 36 [.t 35],[zL 34 50 33]),(zo 37 (.jh 50 1 [(0,.t 36)]),[zL 34 50 33]),(zo 38 (.app 50 false (.t 34) (.t 37)),[]),(zN 39 30,[]),(zF 40 52 39 0,[]),(zS 50 40 38,[])]))))
def c11:AC:=(.seq (.reg [zo 2 (.mv (.c (.p0))),zo 3 (.mv (.c (.gu)))])
 (.seq (.cut [0] (.reg [zV 9 0,zC 10 10 [.t 9],zV 8 10,zE 11 8 0,zE 12 8 1,zV 4 11,zV 5 12]))
 (.seq (.seq (.reg [zV 13 5,zo 14 (.bin .neq 34 (.t 13) (.c (.gu)))])
 (.cond (.t 14)
 (.seq (.cut [5] (.reg [zV 15 5,zo 2 (.mv (.c (.p0))),zV 3 15]))
 .ret)
 .skip))
 (.seq (.cut [4] (.reg [zV 16 4,zo 17 (.build 83 [(0,.t 16)]),zo 18 (.box 83 (.t 17)),zV 6 18]))
 (.seq (.cut [6] (.reg [zo 19 (.build 52 []),zo 20 (.box 52 (.t 19)),zV 7 20]))
 (.seq (.blk 0
 (.loop [6,7] SN))
 (.seq (.seq (.reg [zV 41 6,zC 42 34 [.t 41]])
 (.cond (.t 42)
 (.seq (.cut [6] (.jM [(zV 43 6,[]),(zN 44 43,[]),(zF 45 83 44 2,[]),(zL 46 69 45,[]),(zo 47 (.VY 69 (.t 46)),[]),(zo 2 (.mv (.c (.p0))),[]),(zV 3 47,[])]))
 .ret)
 .skip))
 (.seq (.cut [7] (.reg [zV 48 7,zV 2 48,zo 3 (.mv (.c (.gu)))]))
 .ret))))))))
def F11:AF:=⟨49,[.t 2,.t 3],c11⟩
def c17:AC:=(.seq (.reg [zo 6 (.mv (.c (.b false)))])
 (.seq (.seq (.cut [0,1,2] (.reg [zV 7 0,zo 8 (.bin .eql 22 (.t 7) (.c (.p0))),zV 9 8,iD 10 9 1,cu 11 9 (.bin .eql 22 (.t 10) (.c (.p0))),zo 12 (.pick (.t 9) (.c (.b true)) (.t 11))]))
 (.cond (.t 12)
 (.seq (.cut [0,1] (.reg [zV 13 0,zo 14 (.bin .eql 22 (.t 13) (.c (.p0))),zV 15 14,eH 16 15 1,bf 17 15 (.bin .eql 22 (.t 16) (.c (.p0))),zo 18 (.pick (.t 15) (.t 17) (.c (.b false))),zV 6 18]))
 .ret)
 .skip))
 (.seq (.cut [0,1,2] (.reg [zV 19 2,zV 20 0,zV 21 1,zo 22 (.call (.t 19) [.t 20,.t 21]),zV 6 22]))
 .ret)))
def F17:AF:=⟨23,[.t 6],c17⟩
def c18:AC:=(.seq (.reg [zo 4 (.mv (.c (.b false)))])
 (.seq (.cut [0,1] (.jM [(zV 5 0,[]),(zN 6 5,[]),(zF 7 52 6 0,[]),(zL 8 50 7,[]),(zV 9 1,[]),(zN 10 9,[]),(zF 11 52 10 0,[]),(zL 12 50 11,[]),(zC 13 19 [.t 8,.t 12,.c (.fn (.func 20) [] [])],[]),(zV 4 13,[])]))
 .ret))
def F18:AF:=⟨14,[.t 4],c18⟩
def Y1:AC:=(.seq (.reg [zB 18 .lss 3 17 16])
 (.seq (.cond (.t 18)
 .skip
 (.exit 0))
 (.seq (.blk 1
 (.seq (.cut [1,2,15,16,17] (.reg [zV 19 17,zo 20 (.nG 50 (.t 15) (.t 17)),zL 21 54 20,zV 7 19,zV 8 21]))
 (.seq (.cut [1,2,7,8,15,16,17] (.reg [zV 22 1,zV 23 7,zo 24 (.nG 50 (.t 22) (.t 23)),zL 25 54 24,zV 9 25]))
 (.seq (.cut [1,2,8,9,15,16,17] (.reg [zV 26 2,zV 27 8,zV 28 9,zo 29 (.call (.t 26) [.t 27,.t 28]),zo 30 (.un .not (.t 29))]))
 (.cond (.t 30)
 (.seq (.reg [zo 6 (.mv (.c (.b false)))])
 .ret)
 .skip)))))
 (.reg [zD 31 .add 3 17 1,zV 17 31]))))
def c19:AC:=(.seq (.reg [zo 6 (.mv (.c (.b false)))])
 (.seq (.seq (.cut [0,1,2] (.reg [zV 10 0,zo 11 (.len 50 (.t 10)),zV 12 1,zo 13 (.len 50 (.t 12)),zB 14 .neq 3 11 13]))
 (.cond (.t 14)
 (.seq (.reg [zo 6 (.mv (.c (.b false)))])
 .ret)
 .skip))
 (.seq (.seq (.cut [0,1,2] (.reg [zV 15 0,zo 16 (.len 50 (.t 15)),zo 17 (.mv (.c (.i .i64 0)))]))
 (.blk 0
 (.loop [1,2,15,16,17] Y1)))
 (.seq (.reg [zo 6 (.mv (.c (.b true)))])
 .ret))))
def Xh:AF:=⟨32,[.t 6],c19⟩
def c20:AC:=(.seq (.reg [zo 4 (.mv (.c (.b false)))])
 (.seq (.cut [0,1] (.reg [zV 5 0,zV 6 1,zC 7 48 [.t 5,.t 6,.c (.fn (.func 49) [] [])],zV 4 7]))
 .ret))
def F20:AF:=⟨8,[.t 4],c20⟩
def c22L0:AC:=(.seq (.reg [zB 19 .lss 3 18 17])
 (.seq (.cond (.t 19)
 .skip
 (.exit 0))
 (.seq (.blk 1
 (.seq (.cut [0,4,16,17,18] (.reg [zo 20 (.nG 50 (.t 16) (.t 18)),zL 21 54 20,zV 6 21]))
 (.cut [0,4,6,16,17,18] (.reg [zV 22 4,zV 23 6,zC 24 54 [.t 22,.t 23]]))))
 (.reg [zD 25 .add 3 18 1,zV 18 25]))))
def c22:AC:=(.seq (.reg [zo 2 (.mv (.c (.s []))),zo 3 (.mv (.c (.i .i64 0)))])
 (.seq (.seq (.reg [zV 9 0,zo 10 (.bin .eql 22 (.t 9) (.c (.p0)))])
 (.cond (.t 10)
 (.seq (.reg [zo 2 (.mv (.c (.s []))),zo 3 (.mv (.c (.i .i64 1)))])
 .ret)
 .skip))
 (.seq (.cut [0] (.reg [zo 11 (.build 110 []),zo 12 (.box 110 (.t 11)),zV 4 12]))
 (.seq (.seq (.cut [0,4] (.reg [zV 13 0,zN 14 13,zF 15 52 14 0,zL 16 50 15,zo 17 (.len 50 (.t 16)),zo 18 (.mv (.c (.i .i64 0)))]))
 (.blk 0
 (.loop [0,4,16,17,18] c22L0)))
 (.seq (.seq (.cut [0,4] (.reg [zV 26 4,zN 27 26,zF 28 110 27 0,zC 29 55 [.t 28],zD 30 .gtr 3 29 32768]))
 (.cond (.t 30)
 (.seq (.reg [zo 2 (.mv (.c (.s []))),zo 3 (.mv (.c (.i .i64 3)))])
 .ret)
 .skip))
 (.seq (.cut [0,4] (.reg [zV 32 4,zN 33 32,zF 34 110 33 0,zC 35 56 [.t 34],zC 36 11 [.t 35],zV 31 36,zE 37 31 0,zE 38 31 1,zV 7 37,zV 8 38]))
 (.cut [1000000,0,4,7,8] (.seq (.seq (.cut [0,4,7,8] (.reg [zV 39 4,zN 40 39,zF 41 110 40 2,zL 42 4 41,zV 43 42,iD 44 43 8,cu 45 43 (.bin .neq 34 (.t 44) (.c (.gu))),zo 46 (.pick (.t 43) (.c (.b true)) (.t 45)),zV 47 46,iD 48 47 0,iD 49 47 7,cu 50 47 (.call (.c (.fn (.func 7) [] [])) [.t 48,.t 49]),cu 51 47 (.un .not (.t 50)),zo 52 (.pick (.t 47) (.c (.b true)) (.t 51))]))
 (.cond (.t 52)
 (.seq (.reg [zo 2 (.mv (.c (.s []))),zo 3 (.mv (.c (.i .i64 2)))])
 .ret)
 .skip))
 (.seq (.cut [4] (.reg [zV 53 4,zN 54 53,zF 55 110 54 0,zC 56 56 [.t 55],zV 2 56,zo 3 (.mv (.c (.i .i64 0)))]))
 .ret)))))))))
def F22:AF:=⟨57,[.t 2,.t 3],c22⟩
def c23:AC:=(.seq (.reg [zo 2 (.mv (.c (.p0)))])
 (.seq (.cut [0] (.reg [zV 6 0,zo 7 (.bin .add 9 (.c (.s [102,117,110,99,32,102,40,41,32,123,10,114,101,116,117,114,110,32])) (.t 6)),zo 8 (.bin .add 9 (.t 7) (.c (.s [59,10,125]))),zC 9 11 [.t 8],zV 5 9,zE 10 5 0,zE 11 5 1,zV 3 10,zV 4 11]))
 (.seq (.seq (.cut [3,4] (.reg [zV 12 4,zo 13 (.bin .neq 34 (.t 12) (.c (.gu))),zV 14 13,iD 15 14 3,cu 16 14 (.bin .eql 22 (.t 15) (.c (.p0))),zo 17 (.pick (.t 14) (.c (.b true)) (.t 16)),zV 18 17,iD 19 18 3,cu 20 18 (.bn (.t 19)),cu 21 18 (.fH 52 (.t 20) 0),cu 22 18 (.load 50 (.t 21)),cu 23 18 (.len 50 (.t 22)),cu 24 18 (.bin .neq 3 (.t 23) (.c (.i .i64 1))),zo 25 (.pick (.t 18) (.c (.b true)) (.t 24)),zV 26 25,iD 27 26 3,cu 28 26 (.bn (.t 27)),cu 29 26 (.fH 52 (.t 28) 0),cu 30 26 (.load 50 (.t 29)),cu 31 26 (.nG 50 (.t 30) (.c (.i .i64 0))),cu 32 26 (.load 54 (.t 31)),cu 33 26 (.bn (.t 32)),cu 34 26 (.fH 93 (.t 33) 3),cu 35 26 (.load 91 (.t 34)),cu 36 26 (.len 91 (.t 35)),cu 37 26 (.bin .neq 3 (.t 36) (.c (.i .i64 1))),zo 38 (.pick (.t 26) (.c (.b true)) (.t 37)),zV 39 38,iD 40 39 3,cu 41 39 (.bn (.t 40)),cu 42 39 (.fH 52 (.t 41) 0),cu 43 39 (.load 50 (.t 42)),cu 44 39 (.nG 50 (.t 43) (.c (.i .i64 0))),cu 45 39 (.load 54 (.t 44)),cu 46 39 (.bn (.t 45)),cu 47 39 (.fH 93 (.t 46) 3),cu 48 39 (.load 91 (.t 47)),cu 49 39 (.nG 91 (.t 48) (.c (.i .i64 0))),cu 50 39 (.load 102 (.t 49)),cu 51 39 (.bn (.t 50)),cu 52 39 (.fH 114 (.t 51) 0),cu 53 39 (.load 3 (.t 52)),cu 54 39 (.bin .neq 3 (.t 53) (.c (.i .i64 9))),zo 55 (.pick (.t 39) (.c (.b true)) (.t 54))]))
 (.cut [1000000,3,55] (.cond (.t 55)
 (.seq (.reg [zo 2 (.mv (.c (.p0)))])
 .ret)
 .skip)))
 (.seq (.cut [3] (.reg [zV 56 3,zN 57 56,zF 58 52 57 0,zL 59 50 58,zo 60 (.nG 50 (.t 59) (.c (.i .i64 0))),zL 61 54 60,zN 62 61,zF 63 93 62 3,zL 64 91 63,zo 65 (.nG 91 (.t 64) (.c (.i .i64 0))),zL 66 102 65,zN 67 66,zF 68 114 67 4,zL 69 62 68,zV 2 69]))
 .ret))))
def F23:AF:=⟨70,[.t 2],c23⟩
def c24:AC:=(.seq (.reg [zo 2 (.mv (.c (.s [])))])
 (.seq (.cut [0] (.reg [zV 10 0,zo 11 (.bin .add 9 (.c (.s [102,117,110,99,32,102,40,41,32,123,10,114,101,116,117,114,110,32])) (.t 10)),zo 12 (.bin .add 9 (.t 11) (.c (.s [59,10,125]))),zC 13 11 [.t 12],zV 9 13,zE 14 9 0,zE 15 9 1,zV 3 14,zV 4 15]))
 (.seq (.seq (.reg [zV 16 4,zo 17 (.bin .neq 34 (.t 16) (.c (.gu)))])
 (.cond (.t 17)
 (.seq (.reg [zo 2 (.mv (.c (.s [])))])
 .ret)
 .skip))
 (.seq (.cut [3] (.reg [zV 19 3,zC 20 22 [.t 19],zV 18 20,zE 21 18 0,zE 22 18 1,zV 5 21,zV 6 22]))
 (.seq (.cut [5,6] (.reg [zV 24 5,zC 25 57 [.t 24,.c (.s [102,117,110,99,32,102,40,41,32,123,10,9,114,101,116,117,114,110,32])],zV 23 25,zE 26 23 0,zE 27 23 1,zV 5 26,zV 7 27]))
 (.cut [1000000,5,6,7] (.seq (.cut [5,6,7] (.reg [zV 29 5,zC 30 58 [.t 29,.c (.s [59,10,125,10])],zV 28 30,zE 31 28 0,zE 32 28 1,zV 5 31,zV 8 32]))
 (.seq (.seq (.cut [5,6,7,8] (.reg [zV 33 6,zD 34 .neq 23 33 0,zV 35 34,iD 36 35 7,cu 37 35 (.un .not (.t 36)),zo 38 (.pick (.t 35) (.c (.b true)) (.t 37)),zV 39 38,iD 40 39 8,cu 41 39 (.un .not (.t 40)),zo 42 (.pick (.t 39) (.c (.b true)) (.t 41))]))
 (.cond (.t 42)
 (.seq (.reg [zo 2 (.mv (.c (.s [])))])
 .ret)
 .skip))
 (.seq (.reg [zV 43 5,zV 2 43])
 .ret)))))))))
def F24:AF:=⟨44,[.t 2],c24⟩
def c25:AC:=(.seq (.cut [0,1,2,3,4] (.jM [(zL 7 32 2,[]),(zV 8 0,[]),(zL 9 9 3,[]),(zV 10 1,[]),(zo 11 (.slc 9 (.t 9) none (some (.t 10))),[]),(zL 12 3 4,[]),(zo 13 (.build 38 [(0,.t 8),(1,.t 11),(2,.t 12)]),[]),(zo 14 (.jh 32 1 [(0,.t 13)]),[zL 7 32 2]),(zo 15 (.app 32 false (.t 7) (.t 14)),[]),(zS 32 2 15,[])]))
 (.cut [1,3] (.reg [zL 16 9 3,zV 17 1,zo 18 (.slc 9 (.t 16) (some (.t 17)) none),zS 9 3 18])))
def F25:AF:=⟨19,[],c25⟩
def c26:AC:=(.seq (.reg [zo 4 (.mv (.c (.b false)))])
 (.seq (.cut [0,1] (.reg [zV 5 0,zV 6 1,zC 7 59 [.t 5,.t 6],zV 4 7]))
 .ret))
def F26:AF:=⟨8,[.t 4],c26⟩
def c28:AC:=(.seq (.reg [zo 2 (.mv (.c (.i .i64 0)))])
 (.seq (.blk 0
 (.seq (.cut [0] (.reg [zV 4 0,zo 5 (.bin .eql 21 (.t 4) (.c (.i .i32 32))),zV 6 5,iD 7 6 0,cu 8 6 (.bin .eql 21 (.t 7) (.c (.i .i32 9))),zo 9 (.pick (.t 6) (.c (.b true)) (.t 8)),zV 10 9,iD 11 10 0,cu 12 10 (.bin .eql 21 (.t 11) (.c (.i .i32 13))),zo 13 (.pick (.t 10) (.c (.b true)) (.t 12)),zV 14 13,iD 15 14 0,cu 16 14 (.bin .eql 21 (.t 15) (.c (.i .i32 10))),zo 17 (.pick (.t 14) (.c (.b true)) (.t 16)),zV 3 17]))
 (.cond (.t 3)
 (.seq (.reg [zo 2 (.mv (.c (.i .i64 1)))])
 .ret)
 (.seq (.cut [0] (.reg [zV 19 0,zo 20 (.bin .geq 21 (.t 19) (.c (.i .i32 97))),zV 21 20,eH 22 21 0,bf 23 21 (.bin .leq 21 (.t 22) (.c (.i .i32 122))),zo 24 (.pick (.t 21) (.t 23) (.c (.b false))),zV 25 24,iD 26 25 0,cu 27 25 (.bin .geq 21 (.t 26) (.c (.i .i32 65))),iD 28 25 27,eH 29 28 0,bf 30 28 (.bin .leq 21 (.t 29) (.c (.i .i32 90))),cu 31 25 (.pick (.t 28) (.t 30) (.c (.b false))),zo 32 (.pick (.t 25) (.c (.b true)) (.t 31)),zV 33 32,iD 34 33 0,cu 35 33 (.bin .eql 21 (.t 34) (.c (.i .i32 95))),zo 36 (.pick (.t 33) (.c (.b true)) (.t 35)),zV 18 36]))
 (.cut [1000000,0,18] (.cond (.t 18)
 (.seq (.reg [zo 2 (.mv (.c (.i .i64 2)))])
 .ret)
 (.seq (.cut [0] (.reg [zV 38 0,zo 39 (.bin .geq 21 (.t 38) (.c (.i .i32 48))),zV 40 39,eH 41 40 0,bf 42 40 (.bin .leq 21 (.t 41) (.c (.i .i32 57))),zo 43 (.pick (.t 40) (.t 42) (.c (.b false))),zV 37 43]))
 (.cond (.t 37)
 (.seq (.reg [zo 2 (.mv (.c (.i .i64 3)))])
 .ret)
 (.seq (.cut [0] (.reg [zV 45 0,zo 46 (.conv 21 5 (.t 45)),zC 47 27 [.c (.s [40,41,123,125,91,93,44,59,58,61,60,62,43,45,124,94,38,42,47,37,33]),.t 46],zD 48 .geq 3 47 0,zV 49 48,eH 50 49 0,bf 51 49 (.bin .lss 21 (.t 50) (.c (.i .i32 128))),zo 52 (.pick (.t 49) (.t 51) (.c (.b false))),zV 44 52]))
 (.cond (.t 44)
 (.seq (.reg [zo 2 (.mv (.c (.i .i64 4)))])
 .ret)
 .skip))))))))))
 (.seq (.reg [zo 2 (.mv (.c (.i .i64 0)))])
 .ret)))
def F28:AF:=⟨53,[.t 2],c28⟩
def Y3:AC:=(.seq (.reg [zo 9 (.Zw (.t 8)),zE 10 9 0])
 (.seq (.cond (.t 10)
 .skip
 (.exit 0))
 (.blk 1
 (.seq (.cut [0,1,8,9] (.reg [zE 11 9 1,zE 12 9 2,zV 5 11,zV 6 12]))
 (.seq (.cut [0,1,5,6,8] (.reg [zV 13 1,zV 14 6,zC 15 28 [.t 14],zC 16 61 [.t 13,.t 15],zo 17 (.un .not (.t 16))]))
 (.cond (.t 17)
 (.seq (.reg [zV 18 5,zV 4 18])
 .ret)
 .skip))))))
def c29:AC:=(.seq (.reg [zo 4 (.mv (.c (.i .i64 0)))])
 (.seq (.seq (.reg [zV 7 0,zo 8 (.rng 9 (.t 7))])
 (.blk 0
 (.loop [0,1,8] Y3)))
 (.seq (.cut [0] (.reg [zV 19 0,zo 20 (.len 9 (.t 19)),zV 4 20]))
 .ret)))
def F29:AF:=⟨21,[.t 4],c29⟩
def c30:AC:=(.seq (.reg [zo 4 (.mv (.c (.b false)))])
 (.seq (.cut [0,1] (.reg [zV 5 0,zV 6 1,zC 7 62 [.t 5,.t 6],zD 8 .geq 3 7 0,zV 4 8]))
 .ret))
def F30:AF:=⟨9,[.t 4],c30⟩
def c31:AC:=(.seq (.reg [zo 0 (.mv (.c (.sl0)))])
 (.seq (.reg [zC 1 63 [.c (.s [102,117,110,99,32,118,97,114,32,112,116,114,32,105,102,32,101,108,115,101,32,119,104,105,108,101,32,111,117,116,32,102,114,101,101,32,100,114,97,105,110,32,114,101,116,117,114,110,32,110,101,119,32,105,110])],zV 0 1])
 .ret))
def F31:AF:=⟨2,[.t 0],c31⟩
def c33:AC:=(.seq (.reg [zo 2 (.mv (.c (.b false)))])
 (.seq (.cut [0] (.jM [(zV 3 0,[]),(zo 4 (.len 9 (.t 3)),[]),(zD 5 .geq 3 4 2,[]),(zV 6 5,[]),(eH 8 6 0,[]),(bf 9 6 (.slc 9 (.t 8) none (some (.c (.i .i64 2)))),[]),(bf 7 6 (.call (.c (.fn (.func 63) [] [])) [.c (.s [124,124,32,38,38,32,61,61,32,33,61,32,60,61,32,62,61,32,60,60,32,62,62])]),[bf 9 6 (.slc 9 (.t 8) none (some (.c (.i .i64 2))))]),(bf 10 6 (.call (.c (.fn (.func 30) [] [])) [.t 7,.t 9]),[]),(zo 11 (.pick (.t 6) (.t 10) (.c (.b false))),[]),(zV 2 11,[])]))
 .ret))
def F33:AF:=⟨12,[.t 2],c33⟩
def c34:AC:=(.seq (.reg [zo 2 (.mv (.c (.b false)))])
 (.seq (.cut [0] (.reg [zV 3 0,zN 4 3,zF 5 83 4 2,zL 6 69 5,zo 7 (.bin .neq 69 (.t 6) (.c (.p0))),zV 2 7]))
 .ret))
def F34:AF:=⟨8,[.t 2],c34⟩
def c35:AC:=(.seq (.reg [zo 2 (.alloc 38)])
 (.seq (.cut [0,2] (.reg [zV 3 0,zN 4 3,zF 5 83 4 0,zL 6 32 5,zo 7 (.nG 32 (.t 6) (.c (.i .i64 0))),zL 8 38 7,zS 38 2 8]))
 .ret))
def F35:AF:=⟨9,[.cell 2 38],c35⟩
def c36:AC:=(.seq (.reg [zo 1 (.box 81 (.t 0)),zo 2 (.mv (.c (.p0)))])
 (.seq (.cut [1] (.reg [zL 4 81 1,zC 5 35 [.t 4],zo 6 (.Pn 38 (.t 5) 2),zo 7 (.build 93 [(4,.t 6)]),zo 8 (.box 93 (.t 7)),zo 3 (.alloc 54),zS 54 3 8]))
 (.seq (.reg [zL 9 81 1,zC 10 66 [.t 9,.c (.s [102,117,110,99])]])
 (.seq (.cut [1,3] (.jM [(zL 11 54 3,[]),(zL 12 81 1,[]),(zC 13 67 [.t 12],[zL 11 54 3]),(zN 14 11,[]),(zF 15 93 14 0,[]),(zS 9 15 13,[])]))
 (.seq (.cut [1,3] (.reg [zL 16 81 1,zo 17 (.Jj (.func 69) [] [.t 1,.t 3]),zC 18 68 [.t 16,.t 17]]))
 (.seq (.cut [1,3] (.jM [(zL 19 54 3,[]),(zL 20 81 1,[]),(zC 21 70 [.t 20,.c (.s [112,116,114])],[zL 19 54 3]),(zN 22 19,[]),(zF 23 93 22 2,[]),(zS 4 23 21,[])]))
 (.seq (.cut [1,3] (.jM [(zL 24 54 3,[]),(zL 25 81 1,[]),(zC 26 71 [.t 25],[zL 24 54 3]),(zN 27 24,[]),(zF 28 93 27 3,[]),(zS 91 28 26,[])]))
 (.seq (.reg [zL 29 54 3,zV 2 29])
 .ret))))))))
def F36:AF:=⟨30,[.t 2],c36⟩
def c48:AC:=(.seq (.reg [zo 6 (.mv (.c (.b false)))])
 (.seq (.seq (.cut [0,1,2] (.reg [zV 7 0,zo 8 (.bin .eql 54 (.t 7) (.c (.p0))),zV 9 8,iD 10 9 1,cu 11 9 (.bin .eql 54 (.t 10) (.c (.p0))),zo 12 (.pick (.t 9) (.c (.b true)) (.t 11))]))
 (.cond (.t 12)
 (.seq (.cut [0,1] (.reg [zV 13 0,zo 14 (.bin .eql 54 (.t 13) (.c (.p0))),zV 15 14,eH 16 15 1,bf 17 15 (.bin .eql 54 (.t 16) (.c (.p0))),zo 18 (.pick (.t 15) (.t 17) (.c (.b false))),zV 6 18]))
 .ret)
 .skip))
 (.seq (.cut [0,1,2] (.reg [zV 19 2,zV 20 0,zV 21 1,zo 22 (.call (.t 19) [.t 20,.t 21]),zV 6 22]))
 .ret)))
def F48:AF:=⟨23,[.t 6],c48⟩
def c49:AC:=(.seq (.reg [zo 4 (.mv (.c (.b false)))])
 (.seq (.cut [0,1] (.jM [(zV 5 0,[]),(zN 6 5,[]),(zF 7 93 6 0,[]),(zL 8 9 7,[]),(zV 9 1,[]),(zN 10 9,[]),(zF 11 93 10 0,[]),(zL 12 9 11,[]),(zB 13 .eql 9 8 12,[]),(zV 14 13,[]),(eH 15 14 0,[]),(bf 16 14 (.bn (.t 15)),[]),(bf 17 14 (.fH 93 (.t 16) 2),[]),(bf 18 14 (.load 4 (.t 17)),[]),(eH 19 14 1,[]),(bf 20 14 (.bn (.t 19)),[]),(bf 21 14 (.fH 93 (.t 20) 2),[]),(bf 22 14 (.load 4 (.t 21)),[]),(bf 23 14 (.bin .eql 4 (.t 18) (.t 22)),[]),(zo 24 (.pick (.t 14) (.t 23) (.c (.b false))),[]),(zV 25 24,[]),(eH 26 25 0,[]),(bf 27 25 (.bn (.t 26)),[]),(bf 28 25 (.fH 93 (.t 27) 1),[]),(bf 29 25 (.load 90 (.t 28)),[]),(eH 30 25 1,[]),(bf 31 25 (.bn (.t 30)),[]),(bf 32 25 (.fH 93 (.t 31) 1),[]),(bf 33 25 (.load 90 (.t 32)),[]),(bf 34 25 (.call (.c (.fn (.func 50) [] [])) [.t 29,.t 33]),[]),(zo 35 (.pick (.t 25) (.t 34) (.c (.b false))),[]),(zV 36 35,[]),(eH 37 36 0,[]),(bf 38 36 (.bn (.t 37)),[]),(bf 39 36 (.fH 93 (.t 38) 3),[]),(bf 40 36 (.load 91 (.t 39)),[]),(eH 41 36 1,[]),(bf 42 36 (.bn (.t 41)),[]),(bf 43 36 (.fH 93 (.t 42) 3),[]),(bf 44 36 (.load 91 (.t 43)),[]),(bf 45 36 (.call (.c (.fn (.func 51) [] [])) [.t 40,.t 44,.c (.fn (.func 52) [] [])]),[]),(zo 46 (.pick (.t 36) (.t 45) (.c (.b false))),[]),(zV 4 46,[])]))
 (.cut [1000000,4] .ret)))
def F49:AF:=⟨47,[.t 4],c49⟩
def Y8:AC:=(.seq (.reg [zB 14 .lss 3 13 12])
 (.seq (.cond (.t 14)
 .skip
 (.exit 0))
 (.seq (.blk 1
 (.seq (.reg [zV 15 13,zV 5 15])
 (.seq (.cut [0,1,5,12,13] (.jM [(zV 16 0,[]),(zV 17 5,[]),(zo 18 (.nG 90 (.t 16) (.t 17)),[]),(zL 19 97 18,[]),(zV 20 1,[]),(zV 21 5,[]),(zo 22 (.nG 90 (.t 20) (.t 21)),[]),(zL 23 97 22,[]),(zB 24 .neq 97 19 23,[])]))
 (.cond (.t 24)
 (.seq (.reg [zo 4 (.mv (.c (.b false)))])
 .ret)
 .skip))))
 (.reg [zD 25 .add 3 13 1,zV 13 25]))))
def c50:AC:=(.seq (.reg [zo 4 (.mv (.c (.b false)))])
 (.seq (.seq (.cut [0,1] (.reg [zV 6 0,zo 7 (.len 90 (.t 6)),zV 8 1,zo 9 (.len 90 (.t 8)),zB 10 .neq 3 7 9]))
 (.cond (.t 10)
 (.seq (.reg [zo 4 (.mv (.c (.b false)))])
 .ret)
 .skip))
 (.seq (.seq (.cut [0,1] (.reg [zV 11 0,zo 12 (.len 90 (.t 11)),zo 13 (.mv (.c (.i .i64 0)))]))
 (.blk 0
 (.loop [0,1,12,13] Y8)))
 (.seq (.reg [zo 4 (.mv (.c (.b true)))])
 .ret))))
def Xi:AF:=⟨26,[.t 4],c50⟩
def Y9:AC:=(.seq (.reg [zB 18 .lss 3 17 16])
 (.seq (.cond (.t 18)
 .skip
 (.exit 0))
 (.seq (.blk 1
 (.seq (.cut [1,2,15,16,17] (.reg [zV 19 17,zo 20 (.nG 91 (.t 15) (.t 17)),zL 21 102 20,zV 7 19,zV 8 21]))
 (.seq (.cut [1,2,7,8,15,16,17] (.reg [zV 22 1,zV 23 7,zo 24 (.nG 91 (.t 22) (.t 23)),zL 25 102 24,zV 9 25]))
 (.seq (.cut [1,2,8,9,15,16,17] (.reg [zV 26 2,zV 27 8,zV 28 9,zo 29 (.call (.t 26) [.t 27,.t 28]),zo 30 (.un .not (.t 29))]))
 (.cond (.t 30)
 (.seq (.reg [zo 6 (.mv (.c (.b false)))])
 .ret)
 .skip)))))
 (.reg [zD 31 .add 3 17 1,zV 17 31]))))
def c51:AC:=(.seq (.reg [zo 6 (.mv (.c (.b false)))])
 (.seq (.seq (.cut [0,1,2] (.reg [zV 10 0,zo 11 (.len 91 (.t 10)),zV 12 1,zo 13 (.len 91 (.t 12)),zB 14 .neq 3 11 13]))
 (.cond (.t 14)
 (.seq (.reg [zo 6 (.mv (.c (.b false)))])
 .ret)
 .skip))
 (.seq (.seq (.cut [0,1,2] (.reg [zV 15 0,zo 16 (.len 91 (.t 15)),zo 17 (.mv (.c (.i .i64 0)))]))
 (.blk 0
 (.loop [1,2,15,16,17] Y9)))
 (.seq (.reg [zo 6 (.mv (.c (.b true)))])
 .ret))))
def Xj:AF:=⟨32,[.t 6],c51⟩
def c52:AC:=(.seq (.reg [zo 4 (.mv (.c (.b false)))])
 (.seq (.cut [0,1] (.reg [zV 5 0,zV 6 1,zC 7 86 [.t 5,.t 6,.c (.fn (.func 87) [] [])],zV 4 7]))
 .ret))
def F52:AF:=⟨8,[.t 4],c52⟩
def c54L0:AC:=(.seq (.reg [zB 24 .lss 3 23 22])
 (.seq (.cond (.t 24)
 .skip
 (.exit 0))
 (.seq (.blk 1
 (.seq (.cut [0,1,21,22,23] (.reg [zV 25 23,zo 26 (.nG 90 (.t 21) (.t 23)),zL 27 97 26,zo 5 (.alloc 97),zV 4 25,zS 97 5 27]))
 (.seq (.seq (.reg [zV 28 4,zD 29 .gtr 3 28 0])
 (.cond (.t 29)
 (.cut [0,1,5,21,22,23] (.reg [zV 30 0,zo 31 (.jh 76 1 [(0,.c (.s [44,32]))]),zC 32 90 [.t 30,.t 31]]))
 .skip))
 (.cut [1000000,0,1,5,21,22,23] (.seq (.cut [0,1,5,21,22,23] (.reg [zV 33 0,zF 34 97 5 0,zL 35 9 34,zo 36 (.jh 76 1 [(0,.t 35)]),zC 37 90 [.t 33,.t 36]]))
 (.seq (.reg [zF 38 97 5 1,zL 39 4 38])
 (.cond (.t 39)
 (.cut [0,1,21,22,23] (.reg [zV 40 0,zo 41 (.jh 76 1 [(0,.c (.s [32,112,116,114]))]),zC 42 90 [.t 40,.t 41]]))
 .skip)))))))
 (.reg [zD 43 .add 3 23 1,zV 23 43]))))
def c54:AC:=(.seq (.seq (.reg [zV 6 1,zo 7 (.bin .eql 54 (.t 6) (.c (.p0)))])
 (.cond (.t 7)
 (.seq (.cut [0] (.reg [zV 8 0,zN 9 8,zF 10 110 9 2,zn (.store 4 (.t 10) (.c (.b true)))]))
 .ret)
 .skip))
 (.seq (.cut [0,1] (.reg [zV 11 0,zV 12 1,zN 13 12,zF 14 93 13 0,zL 15 9 14,zo 16 (.jh 76 3 [(0,.c (.s [102,117,110,99,32])),(1,.t 15),(2,.c (.s [40]))]),zC 17 90 [.t 11,.t 16]]))
 (.seq (.seq (.cut [0,1] (.reg [zV 18 1,zN 19 18,zF 20 93 19 1,zL 21 90 20,zo 22 (.len 90 (.t 21)),zo 23 (.mv (.c (.i .i64 0)))]))
 (.blk 0
 (.loop [0,1,21,22,23] c54L0)))
 (.seq (.cut [0,1] (.reg [zV 44 0,zo 45 (.jh 76 1 [(0,.c (.s [41]))]),zC 46 90 [.t 44,.t 45]]))
 (.seq (.seq (.cut [0,1] (.reg [zV 47 1,zN 48 47,zF 49 93 48 2,zL 50 4 49]))
 (.cond (.t 50)
 (.cut [0,1] (.reg [zV 51 0,zo 52 (.jh 76 1 [(0,.c (.s [32,112,116,114]))]),zC 53 90 [.t 51,.t 52]]))
 .skip))
 (.cut [1000000,0,1] (.seq (.cut [0,1] (.reg [zV 54 0,zV 55 1,zN 56 55,zF 57 93 56 3,zL 58 91 57,zC 59 91 [.t 54,.t 58]]))
 (.cut [0] (.reg [zV 60 0,zo 61 (.jh 76 1 [(0,.c (.s [10]))]),zC 62 90 [.t 60,.t 61]])))))))))
def F54:AF:=⟨63,[],c54⟩
def c55:AC:=(.seq (.reg [zo 2 (.mv (.c (.i .i64 0)))])
 (.seq (.cut [0] (.reg [zV 3 0,zN 4 3,zF 5 108 4 1,zL 6 31 5,zo 7 (.len 31 (.t 6)),zV 2 7]))
 .ret))
def F55:AF:=⟨8,[.t 2],c55⟩
def c57:AC:=(.seq (.reg [zo 4 (.mv (.c (.s []))),zo 5 (.mv (.c (.b false)))])
 (.seq (.cut [0,1] (.reg [zV 6 0,zV 7 1,zC 8 92 [.t 6,.t 7],zE 9 8 0,zE 10 8 1,zV 4 9,zV 5 10]))
 .ret))
def F57:AF:=⟨11,[.t 4,.t 5],c57⟩
def c58:AC:=(.seq (.reg [zo 4 (.mv (.c (.s []))),zo 5 (.mv (.c (.b false)))])
 (.seq (.cut [0,1] (.reg [zV 6 0,zV 7 1,zC 8 93 [.t 6,.t 7],zE 9 8 0,zE 10 8 1,zV 4 9,zV 5 10]))
 .ret))
def F58:AF:=⟨11,[.t 4,.t 5],c58⟩
def c59:AC:=(.seq (.reg [zo 4 (.mv (.c (.b false)))])
 (.seq (.cut [0,1] (.reg [zV 5 0,zo 6 (.len 9 (.t 5)),zV 7 1,zo 8 (.len 9 (.t 7)),zB 9 .geq 3 6 8,zV 10 9,eH 11 10 0,eH 12 10 1,bf 13 10 (.len 9 (.t 12)),bf 14 10 (.slc 9 (.t 11) none (some (.t 13))),eH 15 10 1,bf 16 10 (.bin .eql 9 (.t 14) (.t 15)),zo 17 (.pick (.t 10) (.t 16) (.c (.b false))),zV 4 17]))
 .ret))
def F59:AF:=⟨18,[.t 4],c59⟩
def c61:AC:=(.seq (.reg [zo 4 (.mv (.c (.b false)))])
 (.seq (.cut [0,1] (.reg [zV 5 0,zV 6 1,zC 7 95 [.t 5,.t 6],zD 8 .geq 3 7 0,zV 4 8]))
 .ret))
def F61:AF:=⟨9,[.t 4],c61⟩
def Y_:AC:=(.seq (.reg [zB 9 .lss 3 8 7])
 (.seq (.cond (.t 9)
 .skip
 (.exit 0))
 (.seq (.blk 1
 (.seq (.reg [zV 10 8,zV 5 10])
 (.seq (.cut [0,1,5,7,8] (.reg [zV 11 1,zV 12 0,zV 13 5,zo 14 (.nG 76 (.t 12) (.t 13)),zL 15 9 14,zB 16 .eql 9 11 15]))
 (.cond (.t 16)
 (.seq (.reg [zV 17 5,zV 4 17])
 .ret)
 .skip))))
 (.reg [zD 18 .add 3 8 1,zV 8 18]))))
def c62:AC:=(.seq (.reg [zo 4 (.mv (.c (.i .i64 0)))])
 (.seq (.seq (.cut [0,1] (.reg [zV 6 0,zo 7 (.len 76 (.t 6)),zo 8 (.mv (.c (.i .i64 0)))]))
 (.blk 0
 (.loop [0,1,7,8] Y_)))
 (.seq (.reg [zo 4 (.mv (.c (.i .i64 (-1))))])
 .ret)))
def F62:AF:=⟨19,[.t 4],c62⟩
def c63L0:AC:=(.seq (.seq (.cut [0,3,4,5,6] (.reg [zV 13 6,zV 14 0,zo 15 (.len 9 (.t 14)),zB 16 .lss 3 13 15]))
 (.cond (.t 16)
 .skip
 (.exit 0)))
 (.seq (.blk 1
 (.seq (.cut [0,3,4,5,6] (.reg [zV 19 0,zV 20 6,zo 21 (.idx 9 (.t 19) (.t 20)),zV 7 21]))
 (.seq (.cut [0,3,4,5,6,7] (.reg [zV 22 5,zV 23 7,zB 24 .or 5 22 23,zV 5 24]))
 (.seq (.cut [0,3,4,5,6,7] (.reg [zV 25 7,zo 26 (.nG 148 (.c (.p 1 0 0)) (.t 25)),zL 27 5 26,zo 28 (.conv 5 3 (.t 27)),zV 8 28]))
 (.seq (.cut [0,3,4,5,6,8] (.reg [zV 29 3,zV 30 4,zV 31 8,zo 32 (.un .xor (.t 31)),zB 33 .and 3 30 32,zB 34 .add 3 29 33,zV 3 34]))
 (.reg [zV 35 8,zV 4 35]))))))
 (.cut [0,3,4,5,6] (.reg [zV 17 6,zD 18 .add 3 17 1,zV 6 18]))))
def c63L1:AC:=(.seq (.seq (.cut [0,9,10,12] (.reg [zV 42 12,zV 43 0,zo 44 (.len 9 (.t 43)),zB 45 .lss 3 42 44,zV 46 45,eH 47 46 0,eH 48 46 12,bf 49 46 (.idx 9 (.t 47) (.t 48)),bf 50 46 (.nG 148 (.c (.p 1 0 0)) (.t 49)),bf 51 46 (.load 5 (.t 50)),bf 52 46 (.bin .neq 5 (.t 51) (.c (.i .u8 0))),zo 53 (.pick (.t 46) (.t 52) (.c (.b false)))]))
 (.cond (.t 53)
 .skip
 (.exit 2)))
 (.blk 3
 (.cut [0,9,10,12] (.reg [zV 54 12,zD 55 .add 3 54 1,zV 12 55]))))
def c63L2:AC:=(.seq (.seq (.cut [0,9,10,12] (.reg [zV 80 12,zV 81 0,zo 82 (.len 9 (.t 81)),zB 83 .lss 3 80 82,zV 84 83,eH 85 84 0,eH 86 84 12,bf 87 84 (.idx 9 (.t 85) (.t 86)),bf 88 84 (.nG 148 (.c (.p 1 0 0)) (.t 87)),bf 89 84 (.load 5 (.t 88)),bf 90 84 (.bin .neq 5 (.t 89) (.c (.i .u8 0))),zo 91 (.pick (.t 84) (.t 90) (.c (.b false)))]))
 (.cond (.t 91)
 .skip
 (.exit 6)))
 (.blk 7
 (.cut [0,9,10,12] (.reg [zV 92 12,zD 93 .add 3 92 1,zV 12 93]))))
def c63L3:AC:=(.seq (.seq (.cut [0,9,10,11,12] (.reg [zV 57 12,zV 58 0,zo 59 (.len 9 (.t 58)),zB 60 .lss 3 57 59]))
 (.cond (.t 60)
 .skip
 (.exit 4)))
 (.blk 5
 (.seq (.seq (.cut [0,9,10,11,12] (.reg [zV 61 0,zV 62 12,zo 63 (.idx 9 (.t 61) (.t 62)),zo 64 (.nG 148 (.c (.p 1 0 0)) (.t 63)),zL 65 5 64,zo 66 (.bin .eql 5 (.t 65) (.c (.i .u8 0)))]))
 (.cond (.t 66)
 (.seq (.cut [0,9,10,11,12] (.reg [zV 67 12,zD 68 .add 3 67 1,zV 12 68]))
 (.exit 5))
 .skip))
 (.seq (.cut [0,9,10,11,12] (.reg [zV 69 9,zV 70 10,zV 71 0,zV 72 11,zV 73 12,zo 74 (.slc 9 (.t 71) (some (.t 72)) (some (.t 73))),zo 75 (.nG 76 (.t 69) (.t 70)),zS 9 75 74]))
 (.seq (.cut [0,9,10,12] (.reg [zV 76 10,zD 77 .add 3 76 1,zV 10 77]))
 (.seq (.cut [0,9,10,12] (.reg [zV 78 12,zD 79 .add 3 78 1,zV 12 79]))
 (.seq (.blk 6
 (.loop [0,9,10,12] c63L2))
 (.reg [zV 94 12,zV 11 94]))))))))
def c63:AC:=(.seq (.reg [zo 2 (.mv (.c (.sl0)))])
 (.seq (.reg [zo 3 (.mv (.c (.i .i64 0)))])
 (.seq (.reg [zo 4 (.mv (.c (.i .i64 1)))])
 (.seq (.reg [zo 5 (.mv (.c (.i .u8 0)))])
 (.seq (.seq (.reg [zo 6 (.mv (.c (.i .i64 0)))])
 (.blk 0
 (.loop [0,3,4,5,6] c63L0)))
 (.cut [1000000,0,3,5] (.seq (.seq (.reg [zV 36 5,zo 37 (.bin .geq 5 (.t 36) (.c (.i .u8 128)))])
 (.cond (.t 37)
 (.seq (.cut [0] (.reg [zV 38 0,zC 39 96 [.t 38,.c (.fn (.func 97) [] [])],zV 2 39]))
 .ret)
 .skip))
 (.seq (.cut [0,3] (.reg [zV 40 3,zo 41 (.Zv 76 (.t 40) (.t 40)),zV 9 41]))
 (.seq (.reg [zo 10 (.mv (.c (.i .i64 0)))])
 (.seq (.reg [zo 11 (.mv (.c (.i .i64 0)))])
 (.seq (.reg [zo 12 (.mv (.c (.i .i64 0)))])
 (.seq (.blk 2
 (.loop [0,9,10,12] c63L1))
 (.seq (.reg [zV 56 12,zV 11 56])
 (.seq (.blk 4
 (.loop [0,9,10,11,12] c63L3))
 (.seq (.seq (.cut [0,9,10,11] (.reg [zV 95 11,zV 96 0,zo 97 (.len 9 (.t 96)),zB 98 .lss 3 95 97]))
 (.cond (.t 98)
 (.cut [0,9,10,11] (.reg [zV 99 9,zV 100 10,zV 101 0,zV 102 11,zo 103 (.slc 9 (.t 101) (some (.t 102)) none),zo 104 (.nG 76 (.t 99) (.t 100)),zS 9 104 103]))
 .skip))
 (.seq (.reg [zV 105 9,zV 2 105])
 .ret))))))))))))))))
def F63:AF:=⟨106,[.t 2],c63⟩
def c66:AC:=(.seq (.cut [0,1] (.reg [zV 4 0,zV 5 1,zC 6 70 [.t 4,.t 5],zo 7 (.un .not (.t 6))]))
 (.cond (.t 7)
 (.reg [zV 8 0,zC 9 104 [.t 8,.c (.i .i64 4)]])
 .skip))
def F66:AF:=⟨10,[],c66⟩
def c67:AC:=(.seq (.reg [zo 2 (.mv (.c (.s [])))])
 (.seq (.cut [0] (.reg [zV 4 0,zC 5 35 [.t 4],zo 3 (.alloc 38),zS 38 3 5]))
 (.seq (.seq (.cut [0,3] (.reg [zV 6 0,zC 7 34 [.t 6],zV 8 7,cu 9 8 (.fH 38 (.t 3) 0),cu 10 8 (.load 3 (.t 9)),cu 11 8 (.bin .neq 3 (.t 10) (.c (.i .i64 1))),zo 12 (.pick (.t 8) (.c (.b true)) (.t 11))]))
 (.cond (.t 12)
 (.seq (.reg [zV 13 0,zC 14 104 [.t 13,.c (.i .i64 4)]])
 (.seq (.reg [zo 2 (.mv (.c (.s [])))])
 .ret))
 .skip))
 (.seq (.reg [zV 15 0,zC 16 105 [.t 15]])
 (.seq (.cut [3] (.reg [zF 17 38 3 1,zL 18 9 17,zV 2 18]))
 .ret)))))
def F67:AF:=⟨19,[.t 2],c67⟩
def c68:AC:=(.seq (.reg [zo 2 (.box 81 (.t 0)),zo 3 (.box 1 (.t 1))])
 (.cut [2,3] (.reg [zL 4 81 2,zo 5 (.Jj (.func 107) [] [.t 2,.t 3]),zC 6 106 [.t 4,.c (.s [40]),.t 5]])))
def F68:AF:=⟨7,[],c68⟩
def c69:AC:=(.seq (.cut [0,1] (.reg [zL 3 81 0,zC 4 67 [.t 3],zo 5 (.build 97 [(0,.t 4)]),zo 2 (.alloc 97),zS 97 2 5]))
 (.seq (.cut [0,1,2] (.reg [zL 6 81 0,zC 7 70 [.t 6,.c (.s [112,116,114])],zF 8 97 2 1,zS 4 8 7]))
 (.cut [1,2] (.jM [(zL 9 54 1,[]),(zL 10 54 1,[]),(zN 11 10,[]),(zF 12 93 11 1,[]),(zL 13 90 12,[]),(zL 14 97 2,[]),(zo 15 (.jh 90 1 [(0,.t 14)]),[zL 9 54 1,zL 10 54 1,zL 13 90 12]),(zo 16 (.app 90 false (.t 13) (.t 15)),[zL 9 54 1]),(zN 17 9,[]),(zF 18 93 17 1,[]),(zS 90 18 16,[])]))))
def F69:AF:=⟨19,[],c69⟩
def c70:AC:=(.seq (.reg [zo 4 (.mv (.c (.b false)))])
 (.seq (.seq (.cut [0,1] (.reg [zV 5 0,zV 6 1,zo 7 (.jh 76 1 [(0,.t 6)]),zC 8 108 [.t 5,.t 7],zo 9 (.un .not (.t 8))]))
 (.cond (.t 9)
 (.seq (.reg [zo 4 (.mv (.c (.b false)))])
 .ret)
 .skip))
 (.seq (.reg [zV 10 0,zC 11 105 [.t 10]])
 (.seq (.reg [zo 4 (.mv (.c (.b true)))])
 .ret))))
def F70:AF:=⟨12,[.t 4],c70⟩
def c71:AC:=(.seq (.reg [zo 1 (.box 81 (.t 0)),zo 2 (.alloc 91)])
 (.seq (.cut [1,2] (.reg [zL 3 81 1,zo 4 (.Jj (.func 109) [] [.t 1,.t 2]),zC 5 106 [.t 3,.c (.s [123]),.t 4]]))
 (.seq (.reg [zL 6 91 2,zS 91 2 6])
 .ret)))
def F71:AF:=⟨7,[.cell 2 91],c71⟩
def c86:AC:=(.seq (.reg [zo 6 (.mv (.c (.b false)))])
 (.seq (.seq (.cut [0,1,2] (.reg [zV 7 0,zo 8 (.bin .eql 102 (.t 7) (.c (.p0))),zV 9 8,iD 10 9 1,cu 11 9 (.bin .eql 102 (.t 10) (.c (.p0))),zo 12 (.pick (.t 9) (.c (.b true)) (.t 11))]))
 (.cond (.t 12)
 (.seq (.cut [0,1] (.reg [zV 13 0,zo 14 (.bin .eql 102 (.t 13) (.c (.p0))),zV 15 14,eH 16 15 1,bf 17 15 (.bin .eql 102 (.t 16) (.c (.p0))),zo 18 (.pick (.t 15) (.t 17) (.c (.b false))),zV 6 18]))
 .ret)
 .skip))
 (.seq (.cut [0,1,2] (.reg [zV 19 2,zV 20 0,zV 21 1,zo 22 (.call (.t 19) [.t 20,.t 21]),zV 6 22]))
 .ret)))
def F86:AF:=⟨23,[.t 6],c86⟩
def c87:AC:=(.seq (.reg [zo 4 (.mv (.c (.b false)))])
 (.seq (.cut [0,1] (.jM [(zV 6 0,[]),(zN 7 6,[]),(zF 8 114 7 0,[]),(zL 9 3 8,[]),(zV 10 1,[]),(zN 11 10,[]),(zF 12 114 11 0,[]),(zL 13 3 12,[]),(zB 14 .eql 3 9 13,[]),(zV 15 14,[]),(eH 16 15 0,[]),(bf 17 15 (.bn (.t 16)),[]),(bf 18 15 (.fH 114 (.t 17) 1),[]),(bf 19 15 (.load 9 (.t 18)),[]),(eH 20 15 1,[]),(bf 21 15 (.bn (.t 20)),[]),(bf 22 15 (.fH 114 (.t 21) 1),[]),(bf 23 15 (.load 9 (.t 22)),[]),(bf 24 15 (.bin .eql 9 (.t 19) (.t 23)),[]),(zo 25 (.pick (.t 15) (.t 24) (.c (.b false))),[]),(zV 26 25,[]),(eH 27 26 0,[]),(bf 28 26 (.bn (.t 27)),[]),(bf 29 26 (.fH 114 (.t 28) 2),[]),(bf 30 26 (.load 4 (.t 29)),[]),(eH 31 26 1,[]),(bf 32 26 (.bn (.t 31)),[]),(bf 33 26 (.fH 114 (.t 32) 2),[]),(bf 34 26 (.load 4 (.t 33)),[]),(bf 35 26 (.bin .eql 4 (.t 30) (.t 34)),[]),(zo 36 (.pick (.t 26) (.t 35) (.c (.b false))),[]),(zV 5 36,[])]))
 (.cut [1000000,0,1,5] (.seq (.cut [0,1,5] (.jM [(zV 37 5,[]),(zV 38 37,[]),(eH 39 38 0,[]),(bf 40 38 (.bn (.t 39)),[]),(bf 41 38 (.fH 114 (.t 40) 3),[]),(bf 42 38 (.load 62 (.t 41)),[]),(eH 43 38 1,[]),(bf 44 38 (.bn (.t 43)),[]),(bf 45 38 (.fH 114 (.t 44) 3),[]),(bf 46 38 (.load 62 (.t 45)),[]),(bf 47 38 (.call (.c (.fn (.func 88) [] [])) [.t 42,.t 46]),[]),(zo 48 (.pick (.t 38) (.t 47) (.c (.b false))),[]),(zV 49 48,[]),(eH 50 49 0,[]),(bf 51 49 (.bn (.t 50)),[]),(bf 52 49 (.fH 114 (.t 51) 4),[]),(bf 53 49 (.load 62 (.t 52)),[]),(eH 54 49 1,[]),(bf 55 49 (.bn (.t 54)),[]),(bf 56 49 (.fH 114 (.t 55) 4),[]),(bf 57 49 (.load 62 (.t 56)),[]),(bf 58 49 (.call (.c (.fn (.func 88) [] [])) [.t 53,.t 57]),[]),(zo 59 (.pick (.t 49) (.t 58) (.c (.b false))),[]),(zV 60 59,[]),(eH 61 60 0,[]),(bf 62 60 (.bn (.t 61)),[]),(bf 63 60 (.fH 114 (.t 62) 5),[]),(bf 64 60 (.load 91 (.t 63)),[]),(eH 65 60 1,[]),(bf 66 60 (.bn (.t 65)),[]),(bf 67 60 (.fH 114 (.t 66) 5),[]),(bf 68 60 (.load 91 (.t 67)),[]),(bf 69 60 (.call (.c (.fn (.func 51) [] [])) [.t 64,.t 68,.c (.fn (.func 52) [] [])]),[]),(zo 70 (.pick (.t 60) (.t 69) (.c (.b false))),[]),(zV 71 70,[]),(eH 72 71 0,[]),(bf 73 71 (.bn (.t 72)),[]),(bf 74 71 (.fH 114 (.t 73) 6),[]),(bf 75 71 (.load 91 (.t 74)),[]),(eH 76 71 1,[]),(bf 77 71 (.bn (.t 76)),[]),(bf 78 71 (.fH 114 (.t 77) 6),[]),(bf 79 71 (.load 91 (.t 78)),[]),(bf 80 71 (.call (.c (.fn (.func 51) [] [])) [.t 75,.t 79,.c (.fn (.func 52) [] [])]),[]),(zo 81 (.pick (.t 71) (.t 80) (.c (.b false))),[]),(zV 4 81,[])]))
 (.cut [1000000,4] .ret)))))
def F87:AF:=⟨82,[.t 4],c87⟩
def c88:AC:=(.seq (.reg [zo 4 (.mv (.c (.b false)))])
 (.seq (.cut [0,1] (.reg [zV 5 0,zV 6 1,zC 7 118 [.t 5,.t 6,.c (.fn (.func 119) [] [])],zV 4 7]))
 .ret))
def F88:AF:=⟨8,[.t 4],c88⟩
def c90L0:AC:=(.seq (.reg [zB 9 .lss 3 8 7])
 (.seq (.cond (.t 9)
 .skip
 (.exit 0))
 (.seq (.blk 1
 (.seq (.cut [0,6,7,8] (.reg [zo 10 (.nG 76 (.t 6) (.t 8)),zL 11 9 10,zV 5 11]))
 (.cut [0,5,6,7,8] (.reg [zV 12 0,zN 13 12,zF 14 110 13 0,zV 15 5,zC 16 121 [.t 14,.t 15]]))))
 (.reg [zD 17 .add 3 8 1,zV 8 17]))))
def c90:AC:=(.seq (.cut [0,1] (.reg [zV 6 1,zo 7 (.len 76 (.t 6)),zo 8 (.mv (.c (.i .i64 0)))]))
 (.blk 0
 (.loop [0,6,7,8] c90L0)))
def F90:AF:=⟨18,[],c90⟩
def c91L0:AC:=(.seq (.reg [zB 19 .lss 3 18 17])
 (.seq (.cond (.t 19)
 .skip
 (.exit 0))
 (.seq (.blk 1
 (.seq (.cut [0,16,17,18] (.reg [zo 20 (.nG 91 (.t 16) (.t 18)),zL 21 102 20,zV 5 21]))
 (.seq (.reg [zV 22 0,zC 23 122 [.t 22]])
 (.seq (.cut [0,5,16,17,18] (.reg [zV 24 0,zV 25 5,zC 26 123 [.t 24,.t 25]]))
 (.cut [0,16,17,18] (.reg [zV 27 0,zo 28 (.jh 76 1 [(0,.c (.s [10]))]),zC 29 90 [.t 27,.t 28]]))))))
 (.reg [zD 30 .add 3 18 1,zV 18 30]))))
def c91:AC:=(.seq (.cut [0,1] (.reg [zV 6 0,zo 7 (.jh 76 1 [(0,.c (.s [32,123,10]))]),zC 8 90 [.t 6,.t 7]]))
 (.seq (.cut [0,1] (.reg [zV 9 0,zN 10 9,zF 11 110 10 1,zL 12 3 11,zD 13 .add 3 12 1,zN 14 9,zF 15 110 14 1,zS 3 15 13]))
 (.seq (.seq (.cut [0,1] (.reg [zV 16 1,zo 17 (.len 91 (.t 16)),zo 18 (.mv (.c (.i .i64 0)))]))
 (.blk 0
 (.loop [0,16,17,18] c91L0)))
 (.seq (.cut [0] (.reg [zV 31 0,zN 32 31,zF 33 110 32 1,zL 34 3 33,zD 35 .sub 3 34 1,zN 36 31,zF 37 110 36 1,zS 3 37 35]))
 (.seq (.reg [zV 38 0,zC 39 122 [.t 38]])
 (.cut [0] (.reg [zV 40 0,zo 41 (.jh 76 1 [(0,.c (.s [125]))]),zC 42 90 [.t 40,.t 41]])))))))
def F91:AF:=⟨43,[],c91⟩
def c92:AC:=(.seq (.reg [zo 4 (.mv (.c (.s []))),zo 5 (.mv (.c (.b false)))])
 (.seq (.seq (.cut [0,1] (.reg [zV 6 0,zV 7 1,zC 8 59 [.t 6,.t 7],zo 9 (.un .not (.t 8))]))
 (.cond (.t 9)
 (.seq (.cut [0] (.reg [zV 10 0,zV 4 10,zo 5 (.mv (.c (.b false)))]))
 .ret)
 .skip))
 (.seq (.cut [0,1] (.reg [zV 11 0,zV 12 1,zo 13 (.len 9 (.t 12)),zo 14 (.slc 9 (.t 11) (some (.t 13)) none),zV 4 14,zo 5 (.mv (.c (.b true)))]))
 .ret)))
def F92:AF:=⟨15,[.t 4,.t 5],c92⟩
def c93:AC:=(.seq (.reg [zo 4 (.mv (.c (.s []))),zo 5 (.mv (.c (.b false)))])
 (.seq (.seq (.cut [0,1] (.reg [zV 6 0,zV 7 1,zC 8 124 [.t 6,.t 7],zo 9 (.un .not (.t 8))]))
 (.cond (.t 9)
 (.seq (.cut [0] (.reg [zV 10 0,zV 4 10,zo 5 (.mv (.c (.b false)))]))
 .ret)
 .skip))
 (.seq (.cut [0,1] (.reg [zV 11 0,zV 12 0,zo 13 (.len 9 (.t 12)),zV 14 1,zo 15 (.len 9 (.t 14)),zB 16 .sub 3 13 15,zo 17 (.slc 9 (.t 11) none (some (.t 16))),zV 4 17,zo 5 (.mv (.c (.b true)))]))
 .ret)))
def F93:AF:=⟨18,[.t 4,.t 5],c93⟩
def Zd:AC:=(.seq (.reg [zB 9 .lss 3 8 7])
 (.seq (.cond (.t 9)
 .skip
 (.exit 0))
 (.seq (.blk 1
 (.seq (.reg [zV 10 8,zV 5 10])
 (.seq (.cut [0,1,5,7,8] (.reg [zV 11 1,zV 12 0,zV 13 5,zo 14 (.nG 117 (.t 12) (.t 13)),zL 15 72 14,zB 16 .eql 72 11 15]))
 (.cond (.t 16)
 (.seq (.reg [zV 17 5,zV 4 17])
 .ret)
 .skip))))
 (.reg [zD 18 .add 3 8 1,zV 8 18]))))
def c95:AC:=(.seq (.reg [zo 4 (.mv (.c (.i .i64 0)))])
 (.seq (.seq (.cut [0,1] (.reg [zV 6 0,zo 7 (.len 117 (.t 6)),zo 8 (.mv (.c (.i .i64 0)))]))
 (.blk 0
 (.loop [0,1,7,8] Zd)))
 (.seq (.reg [zo 4 (.mv (.c (.i .i64 (-1))))])
 .ret)))
def F95:AF:=⟨19,[.t 4],c95⟩
def c104:AC:=(.seq (.cut [0,1] (.reg [zV 4 0,zC 5 34 [.t 4],zo 6 (.un .not (.t 5))]))
 (.cond (.t 6)
 (.cut [0,1] (.reg [zV 7 0,zV 8 1,zV 9 0,zC 10 35 [.t 9],zo 11 (.Pn 38 (.t 10) 2),zo 12 (.build 25 [(0,.t 8),(1,.t 11)]),zo 13 (.box 25 (.t 12)),zN 14 7,zF 15 83 14 2,zS 69 15 13]))
 .skip))
def Xl:AF:=⟨16,[],c104⟩
def c105:AC:=(.seq (.cut [0] (.reg [zV 2 0,zN 3 2,zF 4 83 3 0,zL 5 32 4,zo 6 (.len 32 (.t 5)),zD 7 .gtr 3 6 1]))
 (.cond (.t 7)
 (.cut [0] (.reg [zV 8 0,zV 9 0,zN 10 9,zF 11 83 10 0,zL 12 32 11,zo 13 (.slc 32 (.t 12) (some (.c (.i .i64 1))) none),zN 14 8,zF 15 83 14 0,zS 32 15 13]))
 .skip))
def ZR:AF:=⟨16,[],c105⟩
def c106:AC:=(.seq (.seq (.cut [0,1,2] (.reg [zV 6 0,zV 7 1,zo 8 (.jh 76 1 [(0,.t 7)]),zC 9 108 [.t 6,.t 8],zV 10 9,eH 11 10 0,bf 12 10 (.bn (.t 11)),bf 13 10 (.fH 83 (.t 12) 1),bf 14 10 (.load 3 (.t 13)),bf 15 10 (.bin .geq 3 (.t 14) (.c (.i .i64 64))),zo 16 (.pick (.t 10) (.t 15) (.c (.b false)))]))
 (.cond (.t 16)
 (.reg [zV 17 0,zC 18 104 [.t 17,.c (.i .i64 3)]])
 .skip))
 (.cut [1000000,0,1,2] (.seq (.cut [0,1,2] (.reg [zV 19 0,zV 20 1,zC 21 66 [.t 19,.t 20]]))
 (.seq (.cut [0,2] (.reg [zV 22 0,zN 23 22,zF 24 83 23 1,zL 25 3 24,zD 26 .add 3 25 1,zN 27 22,zF 28 83 27 1,zS 3 28 26]))
 (.seq (.reg [zV 29 2,zo 30 (.call (.t 29) [])])
 (.cut [0] (.reg [zV 31 0,zN 32 31,zF 33 83 32 1,zL 34 3 33,zD 35 .sub 3 34 1,zN 36 31,zF 37 83 36 1,zS 3 37 35])))))))
def Xm:AF:=⟨38,[],c106⟩
def sU:AC:=(.seq (.seq (.cut [0,1,2] (.reg [zL 3 81 0,zC 4 34 [.t 3],zo 5 (.un .not (.t 4)),zV 6 5,bf 7 6 (.load 81 (.t 0)),bf 8 6 (.jh 76 1 [(0,.c (.s [41]))]),bf 9 6 (.call (.c (.fn (.func 108) [] [])) [.t 7,.t 8]),bf 10 6 (.un .not (.t 9)),zo 11 (.pick (.t 6) (.t 10) (.c (.b false)))]))
 (.cond (.t 11)
 .skip
 (.exit 0)))
 (.seq (.blk 1
 (.seq (.seq (.reg [zV 12 2,zo 13 (.un .not (.t 12))])
 (.cond (.t 13)
 (.reg [zL 14 81 0,zC 15 66 [.t 14,.c (.s [44])]])
 .skip))
 (.reg [zL 16 1 1,zo 17 (.call (.t 16) [])])))
 (.reg [zo 2 (.mv (.c (.b false)))])))
def c107:AC:=(.seq (.seq (.reg [zo 2 (.mv (.c (.b true)))])
 (.blk 0
 (.loop [0,1,2] sU)))
 (.reg [zL 18 81 0,zC 19 66 [.t 18,.c (.s [41])]]))
def MQ:AF:=⟨20,[],c107⟩
def c108:AC:=(.seq (.reg [zo 4 (.mv (.c (.b false)))])
 (.seq (.cut [0,1] (.reg [zV 6 0,zC 7 35 [.t 6],zo 5 (.alloc 38),zS 38 5 7]))
 (.seq (.cut [0,1,5] (.reg [zV 8 0,zC 9 34 [.t 8],zo 10 (.un .not (.t 9)),zV 11 10,bf 12 11 (.fH 38 (.t 5) 0),bf 13 11 (.load 3 (.t 12)),bf 14 11 (.bin .eql 3 (.t 13) (.c (.i .i64 4))),eH 15 11 14,cu 16 15 (.fH 38 (.t 5) 0),cu 17 15 (.load 3 (.t 16)),cu 18 15 (.bin .eql 3 (.t 17) (.c (.i .i64 3))),bf 19 11 (.pick (.t 15) (.c (.b true)) (.t 18)),zo 20 (.pick (.t 11) (.t 19) (.c (.b false))),zV 21 20,eH 22 21 1,bf 23 21 (.fH 38 (.t 5) 1),bf 24 21 (.load 9 (.t 23)),bf 25 21 (.call (.c (.fn (.func 30) [] [])) [.t 22,.t 24]),zo 26 (.pick (.t 21) (.t 25) (.c (.b false))),zV 4 26]))
 .ret)))
def Xn:AF:=⟨27,[.t 4],c108⟩
def MS:AC:=(.seq (.seq (.cut [0,1] (.reg [zL 2 81 0,zC 3 34 [.t 2],zo 4 (.un .not (.t 3)),zV 5 4,bf 6 5 (.load 81 (.t 0)),bf 7 5 (.jh 76 1 [(0,.c (.s [125]))]),bf 8 5 (.call (.c (.fn (.func 108) [] [])) [.t 6,.t 7]),bf 9 5 (.un .not (.t 8)),zo 10 (.pick (.t 5) (.t 9) (.c (.b false)))]))
 (.cond (.t 10)
 .skip
 (.exit 0)))
 (.blk 1
 (.cut [0,1] (.jM [(zL 11 91 1,[]),(zL 12 81 0,[]),(zC 13 110 [.t 12],[zL 11 91 1]),(zo 14 (.jh 91 1 [(0,.t 13)]),[zL 11 91 1]),(zo 15 (.app 91 false (.t 11) (.t 14)),[]),(zS 91 1 15,[])]))))
def c109:AC:=(.seq (.blk 0
 (.loop [0,1] MS))
 (.reg [zL 16 81 0,zC 17 66 [.t 16,.c (.s [125])]]))
def SY:AF:=⟨18,[],c109⟩
def c110:AC:=(.seq (.reg [zo 1 (.box 81 (.t 0)),zo 2 (.mv (.c (.p0)))])
 (.seq (.cut [1] (.reg [zL 8 81 1,zC 9 35 [.t 8],zo 3 (.alloc 38),zS 38 3 9]))
 (.seq (.cut [1,3] (.reg [zF 10 38 3 2,zL 11 3 10,zo 12 (.build 114 [(7,.t 11)]),zo 13 (.box 114 (.t 12)),zo 4 (.alloc 102),zS 102 4 13]))
 (.seq (.reg [zo 14 (.Jj (.func 129) [] [.t 4,.t 1]),zV 5 14])
 (.seq (.seq (.cut [1,3,4,5] (.reg [zF 15 38 3 0,zL 16 3 15,zD 17 .eql 3 16 4,zV 18 17,bf 19 18 (.load 81 (.t 1)),bf 20 18 (.call (.c (.fn (.func 34) [] [])) [.t 19]),bf 21 18 (.un .not (.t 20)),zo 22 (.pick (.t 18) (.t 21) (.c (.b false))),zV 23 22,bf 24 23 (.fH 38 (.t 3) 1),bf 25 23 (.load 9 (.t 24)),bf 26 23 (.bin .neq 9 (.t 25) (.c (.s [110,101,119]))),zo 27 (.pick (.t 23) (.t 26) (.c (.b false))),zV 28 27,bf 29 28 (.fH 38 (.t 3) 1),bf 30 28 (.load 9 (.t 29)),bf 31 28 (.bin .neq 9 (.t 30) (.c (.s [105,110]))),zo 32 (.pick (.t 28) (.t 31) (.c (.b false)))]))
 (.cut [1000000,1,3,4,5,32] (.cond (.t 32)
 (.seq (.reg [zL 33 81 1,zC 34 105 [.t 33]])
 (.seq (.seq (.reg [zF 35 38 3 1,zL 36 9 35])
 (.blk 0
 (.seq (.reg [zo 38 (.bin .eql 9 (.t 36) (.c (.s [118,97,114]))),zV 37 38])
 (.cond (.t 37)
 (.seq (.cut [1,4,5] (.jM [(zL 39 102 4,[]),(zL 40 102 4,[]),(zL 41 81 1,[]),(zC 42 67 [.t 41],[zL 39 102 4,zL 40 102 4]),(zN 43 39,[]),(zF 44 114 43 0,[]),(zn (.store 3 (.t 44) (.c (.i .i64 1))),[zL 40 102 4]),(zN 45 40,[]),(zF 46 114 45 1,[]),(zS 9 46 42,[])]))
 (.seq (.cut [1,4,5] (.jM [(zL 47 102 4,[]),(zL 48 81 1,[]),(zC 49 70 [.t 48,.c (.s [112,116,114])],[zL 47 102 4]),(zN 50 47,[]),(zF 51 114 50 2,[]),(zS 4 51 49,[])]))
 (.seq (.seq (.reg [zL 52 81 1,zC 53 70 [.t 52,.c (.s [61])]])
 (.cond (.t 53)
 (.seq (.cut [5] (.reg [zV 54 5,zo 55 (.call (.t 54) [.c (.i .i64 1)]),zV 2 55]))
 .ret)
 .skip))
 (.seq (.reg [zL 56 81 1,zC 57 66 [.t 56,.c (.s [59])]])
 (.seq (.reg [zL 58 102 4,zV 2 58])
 .ret)))))
 (.seq (.reg [zo 60 (.bin .eql 9 (.t 36) (.c (.s [105,102]))),zV 59 60])
 (.cond (.t 59)
 (.seq (.cut [1,3] (.reg [zL 61 81 1,zF 62 38 3 2,zL 63 3 62,zC 64 131 [.t 61,.t 63],zV 2 64]))
 .ret)
 (.seq (.reg [zo 66 (.bin .eql 9 (.t 36) (.c (.s [119,104,105,108,101]))),zV 65 66])
 (.cond (.t 65)
 (.seq (.cut [1,4] (.jM [(zL 67 102 4,[]),(zL 68 102 4,[]),(zL 69 81 1,[]),(zC 70 130 [.t 69,.c (.i .i64 1)],[zL 67 102 4,zL 68 102 4]),(zN 71 67,[]),(zF 72 114 71 0,[]),(zn (.store 3 (.t 72) (.c (.i .i64 5))),[zL 68 102 4]),(zN 73 68,[]),(zF 74 114 73 4,[]),(zS 62 74 70,[])]))
 (.seq (.cut [1,4] (.jM [(zL 75 102 4,[]),(zL 76 81 1,[]),(zC 77 71 [.t 76],[zL 75 102 4]),(zN 78 75,[]),(zF 79 114 78 5,[]),(zS 91 79 77,[])]))
 (.seq (.reg [zL 80 102 4,zV 2 80])
 .ret)))
 (.seq (.reg [zo 82 (.bin .eql 9 (.t 36) (.c (.s [111,117,116]))),zV 81 82])
 (.cond (.t 81)
 (.seq (.cut [5] (.reg [zV 83 5,zo 84 (.call (.t 83) [.c (.i .i64 6)]),zV 2 84]))
 .ret)
 (.seq (.reg [zo 86 (.bin .eql 9 (.t 36) (.c (.s [102,114,101,101]))),zV 85 86])
 (.cond (.t 85)
 (.seq (.cut [5] (.reg [zV 87 5,zo 88 (.call (.t 87) [.c (.i .i64 7)]),zV 2 88]))
 .ret)
 (.seq (.reg [zo 90 (.bin .eql 9 (.t 36) (.c (.s [100,114,97,105,110]))),zV 89 90])
 (.cond (.t 89)
 (.seq (.cut [1,4] (.reg [zL 91 102 4,zN 92 91,zF 93 114 92 0,zn (.store 3 (.t 93) (.c (.i .i64 8)))]))
 (.seq (.reg [zL 94 81 1,zC 95 66 [.t 94,.c (.s [59])]])
 (.seq (.reg [zL 96 102 4,zV 2 96])
 .ret)))
 (.seq (.reg [zo 98 (.bin .eql 9 (.t 36) (.c (.s [114,101,116,117,114,110]))),zV 97 98])
 (.cut [1000000,1,3,4,5,97] (.cond (.t 97)
 (.seq (.seq (.reg [zL 99 81 1,zC 100 70 [.t 99,.c (.s [59])]])
 (.cond (.t 100)
 (.seq (.cut [4] (.reg [zL 101 102 4,zN 102 101,zF 103 114 102 0,zn (.store 3 (.t 103) (.c (.i .i64 9)))]))
 (.seq (.reg [zL 104 102 4,zV 2 104])
 .ret))
 .skip))
 (.seq (.cut [5] (.reg [zV 105 5,zo 106 (.call (.t 105) [.c (.i .i64 9)]),zV 2 106]))
 .ret))
 .skip)))))))))))))))))
 (.cut [1000000,1,3,4] (.seq (.cut [1,3,4] (.jM [(zL 107 81 1,[]),(zL 108 38 3,[]),(zL 110 81 1,[]),(zN 111 110,[]),(zF 112 83 111 0,[]),(zL 113 32 112,[]),(zo 109 (.jh 32 1 [(0,.t 108)]),[zL 107 81 1,zL 110 81 1,zL 113 32 112]),(zo 114 (.app 32 false (.t 109) (.t 113)),[zL 107 81 1]),(zN 115 107,[]),(zF 116 83 115 0,[]),(zS 32 116 114,[])]))
 (.seq (.reg [zL 117 81 1,zC 118 104 [.t 117,.c (.i .i64 4)]])
 (.seq (.reg [zL 119 102 4,zV 2 119])
 .ret))))))
 .skip)))
 (.seq (.cut [1,4,5] (.reg [zL 120 81 1,zC 121 132 [.t 120],zV 6 121]))
 (.seq (.seq (.cut [1,4,5,6] (.reg [zL 122 81 1,zo 123 (.jh 76 1 [(0,.c (.s [61]))]),zC 124 108 [.t 122,.t 123],zV 7 124]))
 (.blk 1
 (.seq (.cut [1,4,5,6,7] (.reg [zL 128 81 1,zC 129 34 [.t 128],zV 127 129]))
 (.cut [1000000,1,4,5,6,7,127] (.cond (.t 127)
 .skip
 (.seq (.cut [1,4,5,6,7] (.reg [zV 131 7,zo 132 (.un .not (.t 131)),zV 133 132,eH 134 133 6,bf 135 133 (.bn (.t 134)),bf 136 133 (.fH 67 (.t 135) 0),bf 137 133 (.load 3 (.t 136)),bf 138 133 (.bin .eql 3 (.t 137) (.c (.i .i64 4))),zo 139 (.pick (.t 133) (.t 138) (.c (.b false))),zV 130 139]))
 (.cond (.t 130)
 (.seq (.cut [1,4,6] (.jM [(zL 140 102 4,[]),(zL 141 102 4,[]),(zV 142 6,[]),(zN 143 140,[]),(zF 144 114 143 0,[]),(zn (.store 3 (.t 144) (.c (.i .i64 10))),[zL 141 102 4]),(zN 145 141,[]),(zF 146 114 145 4,[]),(zS 62 146 142,[])]))
 (.reg [zL 147 81 1,zC 148 66 [.t 147,.c (.s [59])]]))
 (.seq (.cut [1,4,5,6,7] (.reg [zV 150 7,zV 151 150,eH 152 151 6,bf 153 151 (.bn (.t 152)),bf 154 151 (.fH 67 (.t 153) 0),bf 155 151 (.load 3 (.t 154)),bf 156 151 (.bin .eql 3 (.t 155) (.c (.i .i64 2))),zo 157 (.pick (.t 151) (.t 156) (.c (.b false))),zV 149 157]))
 (.cond (.t 149)
 (.seq (.reg [zL 158 81 1,zC 159 105 [.t 158]])
 (.seq (.cut [4,5,6] (.jM [(zL 160 102 4,[]),(zV 161 6,[]),(zN 162 161,[]),(zF 163 67 162 2,[]),(zL 164 9 163,[]),(zN 165 160,[]),(zF 166 114 165 1,[]),(zS 9 166 164,[])]))
 (.seq (.cut [5] (.reg [zV 167 5,zo 168 (.call (.t 167) [.c (.i .i64 2)]),zV 2 168]))
 .ret)))
 (.seq (.cut [1,4,5,6,7] (.reg [zV 170 7,zV 171 170,eH 172 171 6,bf 173 171 (.bn (.t 172)),bf 174 171 (.fH 67 (.t 173) 0),bf 175 171 (.load 3 (.t 174)),bf 176 171 (.bin .eql 3 (.t 175) (.c (.i .i64 5))),eH 177 171 176,iD 178 177 6,cu 179 177 (.bn (.t 178)),cu 180 177 (.fH 67 (.t 179) 0),cu 181 177 (.load 3 (.t 180)),cu 182 177 (.bin .eql 3 (.t 181) (.c (.i .i64 6))),bf 183 171 (.pick (.t 177) (.c (.b true)) (.t 182)),zo 184 (.pick (.t 171) (.t 183) (.c (.b false))),zV 169 184]))
 (.cut [1000000,1,4,5,6,169] (.cond (.t 169)
 (.seq (.reg [zL 185 81 1,zC 186 105 [.t 185]])
 (.seq (.cut [4,5,6] (.reg [zL 187 102 4,zV 188 6,zN 189 187,zF 190 114 189 3,zS 62 190 188]))
 (.seq (.cut [5] (.reg [zV 191 5,zo 192 (.call (.t 191) [.c (.i .i64 3)]),zV 2 192]))
 .ret)))
 (.reg [zL 125 81 1,zC 126 104 [.t 125,.c (.i .i64 4)]])))))))))))))
 (.seq (.reg [zL 193 102 4,zV 2 193])
 .ret))))))))
def ZT:AF:=⟨194,[.t 2],c110⟩
def c118:AC:=(.seq (.reg [zo 6 (.mv (.c (.b false)))])
 (.seq (.seq (.cut [0,1,2] (.reg [zV 7 0,zo 8 (.bin .eql 62 (.t 7) (.c (.p0))),zV 9 8,iD 10 9 1,cu 11 9 (.bin .eql 62 (.t 10) (.c (.p0))),zo 12 (.pick (.t 9) (.c (.b true)) (.t 11))]))
 (.cond (.t 12)
 (.seq (.cut [0,1] (.reg [zV 13 0,zo 14 (.bin .eql 62 (.t 13) (.c (.p0))),zV 15 14,eH 16 15 1,bf 17 15 (.bin .eql 62 (.t 16) (.c (.p0))),zo 18 (.pick (.t 15) (.t 17) (.c (.b false))),zV 6 18]))
 .ret)
 .skip))
 (.seq (.cut [0,1,2] (.reg [zV 19 2,zV 20 0,zV 21 1,zo 22 (.call (.t 19) [.t 20,.t 21]),zV 6 22]))
 .ret)))
def PX:AF:=⟨23,[.t 6],c118⟩
def c119:AC:=(.seq (.reg [zo 4 (.mv (.c (.b false)))])
 (.seq (.cut [0,1] (.jM [(zV 6 0,[]),(zN 7 6,[]),(zF 8 67 7 0,[]),(zL 9 3 8,[]),(zV 10 1,[]),(zN 11 10,[]),(zF 12 67 11 0,[]),(zL 13 3 12,[]),(zB 14 .eql 3 9 13,[]),(zV 15 14,[]),(eH 16 15 0,[]),(bf 17 15 (.bn (.t 16)),[]),(bf 18 15 (.fH 67 (.t 17) 1),[]),(bf 19 15 (.load 64 (.t 18)),[]),(eH 20 15 1,[]),(bf 21 15 (.bn (.t 20)),[]),(bf 22 15 (.fH 67 (.t 21) 1),[]),(bf 23 15 (.load 64 (.t 22)),[]),(bf 24 15 (.bin .eql 64 (.t 19) (.t 23)),[]),(zo 25 (.pick (.t 15) (.t 24) (.c (.b false))),[]),(zV 26 25,[]),(eH 27 26 0,[]),(bf 28 26 (.bn (.t 27)),[]),(bf 29 26 (.fH 67 (.t 28) 2),[]),(bf 30 26 (.load 9 (.t 29)),[]),(eH 31 26 1,[]),(bf 32 26 (.bn (.t 31)),[]),(bf 33 26 (.fH 67 (.t 32) 2),[]),(bf 34 26 (.load 9 (.t 33)),[]),(bf 35 26 (.bin .eql 9 (.t 30) (.t 34)),[]),(zo 36 (.pick (.t 26) (.t 35) (.c (.b false))),[]),(zV 37 36,[]),(eH 38 37 0,[]),(bf 39 37 (.bn (.t 38)),[]),(bf 40 37 (.fH 67 (.t 39) 3),[]),(bf 41 37 (.load 9 (.t 40)),[]),(eH 42 37 1,[]),(bf 43 37 (.bn (.t 42)),[]),(bf 44 37 (.fH 67 (.t 43) 3),[]),(bf 45 37 (.load 9 (.t 44)),[]),(bf 46 37 (.bin .eql 9 (.t 41) (.t 45)),[]),(zo 47 (.pick (.t 37) (.t 46) (.c (.b false))),[]),(zV 5 47,[])]))
 (.cut [1000000,0,1,5] (.seq (.cut [0,1,5] (.jM [(zV 48 5,[]),(zV 49 48,[]),(eH 50 49 0,[]),(bf 51 49 (.bn (.t 50)),[]),(bf 52 49 (.fH 67 (.t 51) 6),[]),(bf 53 49 (.load 65 (.t 52)),[]),(eH 54 49 1,[]),(bf 55 49 (.bn (.t 54)),[]),(bf 56 49 (.fH 67 (.t 55) 6),[]),(bf 57 49 (.load 65 (.t 56)),[]),(bf 58 49 (.call (.c (.fn (.func 120) [] [])) [.t 53,.t 57,.c (.fn (.func 88) [] [])]),[]),(zo 59 (.pick (.t 49) (.t 58) (.c (.b false))),[]),(zV 60 59,[]),(eH 61 60 0,[]),(bf 62 60 (.bn (.t 61)),[]),(bf 63 60 (.fH 67 (.t 62) 4),[]),(bf 64 60 (.load 62 (.t 63)),[]),(eH 65 60 1,[]),(bf 66 60 (.bn (.t 65)),[]),(bf 67 60 (.fH 67 (.t 66) 4),[]),(bf 68 60 (.load 62 (.t 67)),[]),(bf 69 60 (.call (.c (.fn (.func 88) [] [])) [.t 64,.t 68]),[]),(zo 70 (.pick (.t 60) (.t 69) (.c (.b false))),[]),(zV 71 70,[]),(eH 72 71 0,[]),(bf 73 71 (.bn (.t 72)),[]),(bf 74 71 (.fH 67 (.t 73) 5),[]),(bf 75 71 (.load 62 (.t 74)),[]),(eH 76 71 1,[]),(bf 77 71 (.bn (.t 76)),[]),(bf 78 71 (.fH 67 (.t 77) 5),[]),(bf 79 71 (.load 62 (.t 78)),[]),(bf 80 71 (.call (.c (.fn (.func 88) [] [])) [.t 75,.t 79]),[]),(zo 81 (.pick (.t 71) (.t 80) (.c (.b false))),[]),(zV 4 81,[])]))
 .ret))))
def ZX:AF:=⟨82,[.t 4],c119⟩
def S9:AC:=(.seq (.reg [zB 18 .lss 3 17 16])
 (.seq (.cond (.t 18)
 .skip
 (.exit 0))
 (.seq (.blk 1
 (.seq (.cut [1,2,15,16,17] (.reg [zV 19 17,zo 20 (.nG 65 (.t 15) (.t 17)),zL 21 62 20,zV 7 19,zV 8 21]))
 (.seq (.cut [1,2,7,8,15,16,17] (.reg [zV 22 1,zV 23 7,zo 24 (.nG 65 (.t 22) (.t 23)),zL 25 62 24,zV 9 25]))
 (.seq (.cut [1,2,8,9,15,16,17] (.reg [zV 26 2,zV 27 8,zV 28 9,zo 29 (.call (.t 26) [.t 27,.t 28]),zo 30 (.un .not (.t 29))]))
 (.cond (.t 30)
 (.seq (.reg [zo 6 (.mv (.c (.b false)))])
 .ret)
 .skip)))))
 (.reg [zD 31 .add 3 17 1,zV 17 31]))))
def c120:AC:=(.seq (.reg [zo 6 (.mv (.c (.b false)))])
 (.seq (.seq (.cut [0,1,2] (.reg [zV 10 0,zo 11 (.len 65 (.t 10)),zV 12 1,zo 13 (.len 65 (.t 12)),zB 14 .neq 3 11 13]))
 (.cond (.t 14)
 (.seq (.reg [zo 6 (.mv (.c (.b false)))])
 .ret)
 .skip))
 (.seq (.seq (.cut [0,1,2] (.reg [zV 15 0,zo 16 (.len 65 (.t 15)),zo 17 (.mv (.c (.i .i64 0)))]))
 (.blk 0
 (.loop [1,2,15,16,17] S9)))
 (.seq (.reg [zo 6 (.mv (.c (.b true)))])
 .ret))))
def H8:AF:=⟨32,[.t 6],c120⟩
def c121:AC:=(.seq (.reg [zo 4 (.mv (.c (.i .i64 0))),zo 5 (.mv (.c (.gu)))])
 (.seq (.reg [zV 6 0,zC 7 138 [.t 6]])
 (.seq (.cut [0,1] (.reg [zV 8 0,zV 9 0,zN 10 9,zF 11 108 10 1,zL 12 31 11,zV 13 1,zo 14 (.app 31 true (.t 12) (.t 13)),zN 15 8,zF 16 108 15 1,zS 31 16 14]))
 (.seq (.cut [1] (.reg [zV 17 1,zo 18 (.len 9 (.t 17)),zV 4 18,zo 5 (.mv (.c (.gu)))]))
 .ret))))
def F121:AF:=⟨19,[.t 4,.t 5],c121⟩
def c122:AC:=(.cut [0] (.reg [zV 2 0,zV 3 0,zN 4 3,zF 5 110 4 1,zL 6 3 5,zC 7 139 [.c (.s [9]),.t 6],zo 8 (.jh 76 1 [(0,.t 7)]),zC 9 90 [.t 2,.t 8]]))
def F122:AF:=⟨10,[],c122⟩
def c123:AC:=(.seq (.seq (.reg [zV 4 1,zo 5 (.bin .eql 102 (.t 4) (.c (.p0)))])
 (.cond (.t 5)
 (.seq (.cut [0] (.reg [zV 6 0,zN 7 6,zF 8 110 7 2,zn (.store 4 (.t 8) (.c (.b true)))]))
 .ret)
 .skip))
 (.seq (.cut [0,1] (.reg [zV 9 1,zN 10 9,zF 11 114 10 0,zL 12 3 11]))
 (.blk 0
 (.seq (.reg [zD 17 .eql 3 12 1,zV 16 17])
 (.cond (.t 16)
 (.seq (.cut [0,1] (.reg [zV 18 0,zV 19 1,zN 20 19,zF 21 114 20 1,zL 22 9 21,zo 23 (.jh 76 2 [(0,.c (.s [118,97,114,32])),(1,.t 22)]),zC 24 90 [.t 18,.t 23]]))
 (.seq (.seq (.cut [0,1] (.reg [zV 25 1,zN 26 25,zF 27 114 26 2,zL 28 4 27]))
 (.cond (.t 28)
 (.cut [0,1] (.reg [zV 29 0,zo 30 (.jh 76 1 [(0,.c (.s [32,112,116,114]))]),zC 31 90 [.t 29,.t 30]]))
 .skip))
 (.cut [1000000,0,1] (.seq (.seq (.cut [0,1] (.reg [zV 32 1,zN 33 32,zF 34 114 33 4,zL 35 62 34,zo 36 (.bin .eql 62 (.t 35) (.c (.p0)))]))
 (.cond (.t 36)
 (.seq (.cut [0] (.reg [zV 37 0,zo 38 (.jh 76 1 [(0,.c (.s [59]))]),zC 39 90 [.t 37,.t 38]]))
 .ret)
 .skip))
 (.cut [0,1] (.reg [zV 40 0,zV 41 1,zN 42 41,zF 43 114 42 4,zL 44 62 43,zC 45 140 [.t 40,.c (.s [32,61,32]),.t 44]]))))))
 (.seq (.reg [zD 47 .eql 3 12 2,zV 46 47])
 (.cond (.t 46)
 (.cut [0,1] (.jM [(zV 48 0,[]),(zV 49 1,[]),(zN 50 49,[]),(zF 51 114 50 1,[]),(zL 52 9 51,[]),(zo 53 (.bin .add 9 (.t 52) (.c (.s [32,61,32]))),[]),(zV 54 1,[]),(zN 55 54,[]),(zF 56 114 55 4,[]),(zL 57 62 56,[]),(zC 58 140 [.t 48,.t 53,.t 57],[])]))
 (.seq (.reg [zD 60 .eql 3 12 3,zV 59 60])
 (.cond (.t 59)
 (.seq (.cut [0,1] (.reg [zV 61 0,zV 62 1,zN 63 62,zF 64 114 63 3,zL 65 62 64,zC 66 141 [.t 61,.t 65,.c (.i .i64 8)]]))
 (.cut [0,1] (.reg [zV 67 0,zV 68 1,zN 69 68,zF 70 114 69 4,zL 71 62 70,zC 72 140 [.t 67,.c (.s [32,61,32]),.t 71]])))
 (.seq (.reg [zD 74 .eql 3 12 4,zV 73 74])
 (.cond (.t 73)
 (.cut [0,1] (.reg [zV 75 0,zV 76 1,zC 77 142 [.t 75,.t 76]]))
 (.seq (.reg [zD 79 .eql 3 12 5,zV 78 79])
 (.cut [1000000,0,1,12,78] (.cond (.t 78)
 (.seq (.cut [0,1] (.reg [zV 80 0,zo 81 (.jh 76 1 [(0,.c (.s [119,104,105,108,101,32]))]),zC 82 90 [.t 80,.t 81]]))
 (.seq (.cut [0,1] (.reg [zV 83 0,zV 84 1,zN 85 84,zF 86 114 85 4,zL 87 62 86,zC 88 141 [.t 83,.t 87,.c (.i .i64 1)]]))
 (.cut [0,1] (.reg [zV 89 0,zV 90 1,zN 91 90,zF 92 114 91 5,zL 93 91 92,zC 94 91 [.t 89,.t 93]]))))
 (.seq (.reg [zD 96 .eql 3 12 6,zV 95 96])
 (.cond (.t 95)
 (.cut [0,1] (.reg [zV 97 0,zV 98 1,zN 99 98,zF 100 114 99 4,zL 101 62 100,zC 102 140 [.t 97,.c (.s [111,117,116,32]),.t 101]]))
 (.seq (.reg [zD 104 .eql 3 12 7,zV 103 104])
 (.cond (.t 103)
 (.cut [0,1] (.reg [zV 105 0,zV 106 1,zN 107 106,zF 108 114 107 4,zL 109 62 108,zC 110 140 [.t 105,.c (.s [102,114,101,101,32]),.t 109]]))
 (.seq (.reg [zD 112 .eql 3 12 8,zV 111 112])
 (.cond (.t 111)
 (.cut [0] (.reg [zV 113 0,zo 114 (.jh 76 1 [(0,.c (.s [100,114,97,105,110,59]))]),zC 115 90 [.t 113,.t 114]]))
 (.seq (.reg [zD 117 .eql 3 12 9,zV 116 117])
 (.cond (.t 116)
 (.seq (.seq (.cut [0,1] (.reg [zV 118 1,zN 119 118,zF 120 114 119 4,zL 121 62 120,zo 122 (.bin .eql 62 (.t 121) (.c (.p0)))]))
 (.cond (.t 122)
 (.seq (.cut [0] (.reg [zV 123 0,zo 124 (.jh 76 1 [(0,.c (.s [114,101,116,117,114,110,59]))]),zC 125 90 [.t 123,.t 124]]))
 .ret)
 .skip))
 (.cut [0,1] (.reg [zV 126 0,zV 127 1,zN 128 127,zF 129 114 128 4,zL 130 62 129,zC 131 140 [.t 126,.c (.s [114,101,116,117,114,110,32]),.t 130]])))
 (.seq (.reg [zD 133 .eql 3 12 10,zV 132 133])
 (.cond (.t 132)
 (.cut [0,1] (.reg [zV 134 0,zV 135 1,zN 136 135,zF 137 114 136 4,zL 138 62 137,zC 139 140 [.t 134,.c (.s []),.t 138]]))
 (.cut [0] (.reg [zV 13 0,zN 14 13,zF 15 110 14 2,zn (.store 4 (.t 15) (.c (.b true)))]))))))))))))))))))))))))))
def F123:AF:=⟨140,[],c123⟩
def c124:AC:=(.seq (.reg [zo 4 (.mv (.c (.b false)))])
 (.seq (.cut [0,1] (.reg [zV 5 0,zo 6 (.len 9 (.t 5)),zV 7 1,zo 8 (.len 9 (.t 7)),zB 9 .geq 3 6 8,zV 10 9,eH 11 10 0,eH 12 10 0,bf 13 10 (.len 9 (.t 12)),eH 14 10 1,bf 15 10 (.len 9 (.t 14)),bf 16 10 (.bin .sub 3 (.t 13) (.t 15)),bf 17 10 (.slc 9 (.t 11) (some (.t 16)) none),eH 18 10 1,bf 19 10 (.bin .eql 9 (.t 17) (.t 18)),zo 20 (.pick (.t 10) (.t 19) (.c (.b false))),zV 4 20]))
 .ret))
def F124:AF:=⟨21,[.t 4],c124⟩
def c129:AC:=(.seq (.reg [zo 4 (.mv (.c (.p0)))])
 (.seq (.cut [0,1,2] (.reg [zL 5 102 1,zV 6 0,zN 7 5,zF 8 114 7 0,zS 3 8 6]))
 (.seq (.cut [1,2] (.jM [(zL 9 102 1,[]),(zL 10 81 2,[]),(zC 11 130 [.t 10,.c (.i .i64 1)],[zL 9 102 1]),(zN 12 9,[]),(zF 13 114 12 4,[]),(zS 62 13 11,[])]))
 (.seq (.reg [zL 14 81 2,zC 15 66 [.t 14,.c (.s [59])]])
 (.seq (.reg [zL 16 102 1,zV 4 16])
 .ret)))))
def ZY:AF:=⟨17,[.t 4],c129⟩
def H9:AC:=(.seq (.seq (.cut [0,1,5] (.reg [zV 10 0,zC 11 34 [.t 10],zo 12 (.un .not (.t 11))]))
 (.cond (.t 12)
 .skip
 (.exit 0)))
 (.blk 1
 (.seq (.cut [0,1,5] (.reg [zV 13 0,zC 14 35 [.t 13],zo 6 (.alloc 38),zS 38 6 14]))
 (.seq (.cut [0,1,5,6] (.reg [zF 15 38 6 1,zL 16 9 15,zC 17 147 [.t 16],zV 7 17]))
 (.seq (.seq (.cut [0,1,5,6,7] (.reg [zF 18 38 6 0,zL 19 3 18,zD 20 .neq 3 19 3,zV 21 20,iD 22 21 7,cu 23 21 (.bin .eql 3 (.t 22) (.c (.i .i64 0))),zo 24 (.pick (.t 21) (.c (.b true)) (.t 23)),zV 25 24,iD 26 25 7,iD 27 25 1,cu 28 25 (.bin .lss 3 (.t 26) (.t 27)),zo 29 (.pick (.t 25) (.c (.b true)) (.t 28))]))
 (.cond (.t 29)
 (.exit 0)
 .skip))
 (.seq (.reg [zV 30 0,zC 31 105 [.t 30]])
 (.cut [0,1,5,6,7] (.jM [(zF 32 38 6 1,[]),(zL 33 9 32,[]),(zV 34 5,[]),(zV 35 0,[]),(zV 36 7,[]),(zD 37 .add 3 36 1,[]),(zF 39 38 6 2,[]),(zL 40 3 39,[]),(zC 38 130 [.t 35,.t 37],[zL 33 9 32,zL 40 3 39]),(zo 41 (.build 67 [(0,.c (.i .i64 3)),(3,.t 33),(4,.t 34),(5,.t 38),(7,.t 40)]),[]),(zo 42 (.box 67 (.t 41)),[]),(zV 5 42,[])]))))))))
def c130:AC:=(.seq (.reg [zo 4 (.mv (.c (.p0)))])
 (.seq (.cut [0,1] (.reg [zV 8 0,zC 9 146 [.t 8],zV 5 9]))
 (.seq (.blk 0
 (.loop [0,1,5] H9))
 (.cut [1000000,5] (.seq (.reg [zV 43 5,zV 4 43])
 .ret)))))
def Xq:AF:=⟨44,[.t 4],c130⟩
def c131:AC:=(.seq (.reg [zo 4 (.mv (.c (.p0)))])
 (.seq (.cut [0,1] (.reg [zV 7 1,zo 8 (.build 114 [(0,.c (.i .i64 4)),(7,.t 7)]),zo 9 (.box 114 (.t 8)),zV 5 9]))
 (.seq (.cut [0,5] (.reg [zV 10 5,zV 11 0,zC 12 130 [.t 11,.c (.i .i64 1)],zN 13 10,zF 14 114 13 4,zS 62 14 12]))
 (.seq (.cut [0,5] (.reg [zV 15 5,zV 16 0,zC 17 71 [.t 16],zN 18 15,zF 19 114 18 5,zS 91 19 17]))
 (.seq (.seq (.reg [zV 20 0,zC 21 70 [.t 20,.c (.s [101,108,115,101])]])
 (.cond (.t 21)
 (.seq (.cut [0,5] (.reg [zV 22 0,zC 23 35 [.t 22],zo 6 (.alloc 38),zS 38 6 23]))
 (.seq (.reg [zV 24 0,zC 25 70 [.t 24,.c (.s [105,102])]])
 (.cut [1000000,0,5,6,25] (.cond (.t 25)
 (.cut [0,5,6] (.reg [zV 26 5,zV 27 0,zF 28 38 6 2,zL 29 3 28,zC 30 131 [.t 27,.t 29],zo 31 (.jh 91 1 [(0,.t 30)]),zN 32 26,zF 33 114 32 6,zS 91 33 31]))
 (.cut [0,5] (.reg [zV 34 5,zV 35 0,zC 36 71 [.t 35],zN 37 34,zF 38 114 37 6,zS 91 38 36]))))))
 .skip))
 (.seq (.reg [zV 39 5,zV 4 39])
 .ret))))))
def Z4:AF:=⟨40,[.t 4],c131⟩
def H_:AC:=(.seq (.seq (.cut [0,3] (.reg [zV 7 0,zo 8 (.jh 76 2 [(0,.c (.s [91])),(1,.c (.s [58]))]),zC 9 108 [.t 7,.t 8]]))
 (.cond (.t 9)
 .skip
 (.exit 0)))
 (.blk 1
 (.seq (.cut [0,3] (.reg [zV 10 0,zC 11 35 [.t 10],zo 4 (.alloc 38),zS 38 4 11]))
 (.seq (.cut [0,3,4] (.reg [zF 12 38 4 1,zL 13 9 12,zo 14 (.bin .eql 9 (.t 13) (.c (.s [91])))]))
 (.cond (.t 14)
 (.cut [0,3,4] (.jM [(zV 15 3,[]),(zV 16 0,[]),(zF 18 38 4 2,[]),(zL 19 3 18,[]),(zC 17 149 [.t 16,.c (.s [91]),.c (.s [93])],[zL 19 3 18]),(zo 20 (.build 67 [(0,.c (.i .i64 5)),(4,.t 15),(5,.t 17),(7,.t 19)]),[]),(zo 21 (.box 67 (.t 20)),[]),(zV 3 21,[])]))
 (.seq (.reg [zV 22 0,zC 23 105 [.t 22]])
 (.cut [0,3,4] (.jM [(zV 24 3,[]),(zV 25 0,[]),(zF 27 38 4 2,[]),(zL 28 3 27,[]),(zC 26 150 [.t 25],[zL 28 3 27]),(zo 29 (.build 67 [(0,.c (.i .i64 6)),(4,.t 24),(5,.t 26),(7,.t 28)]),[]),(zo 30 (.box 67 (.t 29)),[]),(zV 3 30,[])]))))))))
def c132:AC:=(.seq (.reg [zo 2 (.mv (.c (.p0)))])
 (.seq (.cut [0] (.reg [zV 5 0,zC 6 148 [.t 5],zV 3 6]))
 (.seq (.blk 0
 (.loop [0,3] H_))
 (.seq (.reg [zV 31 3,zV 2 31])
 .ret))))
def Xr:AF:=⟨32,[.t 2],c132⟩
def c140:AC:=(.seq (.cut [0,1,2] (.reg [zV 6 0,zV 7 1,zo 8 (.jh 76 1 [(0,.t 7)]),zC 9 90 [.t 6,.t 8]]))
 (.seq (.cut [0,2] (.reg [zV 10 0,zV 11 2,zC 12 141 [.t 10,.t 11,.c (.i .i64 1)]]))
 (.cut [0] (.reg [zV 13 0,zo 14 (.jh 76 1 [(0,.c (.s [59]))]),zC 15 90 [.t 13,.t 14]]))))
def F140:AF:=⟨16,[],c140⟩
def Z9:AC:=(.seq (.reg [zB 55 .lss 3 54 53])
 (.seq (.cond (.t 55)
 .skip
 (.exit 1))
 (.seq (.blk 2
 (.seq (.cut [0,52,53,54] (.reg [zV 56 54,zo 57 (.nG 65 (.t 52) (.t 54)),zL 58 62 57,zV 6 56,zV 7 58]))
 (.seq (.seq (.reg [zV 59 6,zD 60 .gtr 3 59 0])
 (.cond (.t 60)
 (.cut [0,7,52,53,54] (.reg [zV 61 0,zo 62 (.jh 76 1 [(0,.c (.s [44,32]))]),zC 63 90 [.t 61,.t 62]]))
 .skip))
 (.cut [1000000,0,7,52,53,54] (.cut [0,7,52,53,54] (.reg [zV 64 0,zV 65 7,zC 66 141 [.t 64,.t 65,.c (.i .i64 1)]]))))))
 (.reg [zD 67 .add 3 54 1,zV 54 67]))))
def c141:AC:=(.seq (.seq (.reg [zV 8 1,zo 9 (.bin .eql 62 (.t 8) (.c (.p0)))])
 (.cond (.t 9)
 (.seq (.cut [0] (.reg [zV 10 0,zN 11 10,zF 12 110 11 2,zn (.store 4 (.t 12) (.c (.b true)))]))
 .ret)
 .skip))
 (.seq (.cut [0,1,2] (.reg [zV 13 1,zN 14 13,zF 15 67 14 0,zL 16 3 15]))
 (.blk 0
 (.seq (.reg [zD 21 .eql 3 16 1,zV 20 21])
 (.cond (.t 20)
 (.cut [0,1] (.reg [zV 22 0,zV 23 1,zN 24 23,zF 25 67 24 1,zL 26 64 25,zo 27 (.conv 64 78 (.t 26)),zC 28 155 [.t 27,.c (.i .i64 10)],zo 29 (.jh 76 1 [(0,.t 28)]),zC 30 90 [.t 22,.t 29]]))
 (.seq (.reg [zD 32 .eql 3 16 2,zV 31 32])
 (.cond (.t 31)
 (.cut [0,1] (.reg [zV 33 0,zV 34 1,zN 35 34,zF 36 67 35 2,zL 37 9 36,zo 38 (.jh 76 1 [(0,.t 37)]),zC 39 90 [.t 33,.t 38]]))
 (.seq (.reg [zD 41 .eql 3 16 4,zV 40 41])
 (.cond (.t 40)
 (.seq (.cut [0,1] (.reg [zV 42 0,zV 43 1,zN 44 43,zF 45 67 44 2,zL 46 9 45,zo 47 (.jh 76 2 [(0,.t 46),(1,.c (.s [40]))]),zC 48 90 [.t 42,.t 47]]))
 (.seq (.seq (.cut [0,1] (.reg [zV 49 1,zN 50 49,zF 51 67 50 6,zL 52 65 51,zo 53 (.len 65 (.t 52)),zo 54 (.mv (.c (.i .i64 0)))]))
 (.blk 1
 (.loop [0,52,53,54] Z9)))
 (.cut [0] (.reg [zV 68 0,zo 69 (.jh 76 1 [(0,.c (.s [41]))]),zC 70 90 [.t 68,.t 69]]))))
 (.seq (.reg [zD 72 .eql 3 16 5,zV 71 72])
 (.cond (.t 71)
 (.seq (.cut [0,1] (.reg [zV 73 0,zV 74 1,zN 75 74,zF 76 67 75 4,zL 77 62 76,zC 78 141 [.t 73,.t 77,.c (.i .i64 8)]]))
 (.cut [1000000,0,1] (.seq (.cut [0,1] (.reg [zV 79 0,zo 80 (.jh 76 1 [(0,.c (.s [91]))]),zC 81 90 [.t 79,.t 80]]))
 (.seq (.cut [0,1] (.reg [zV 82 0,zV 83 1,zN 84 83,zF 85 67 84 5,zL 86 62 85,zC 87 141 [.t 82,.t 86,.c (.i .i64 1)]]))
 (.cut [0] (.reg [zV 88 0,zo 89 (.jh 76 1 [(0,.c (.s [93]))]),zC 90 90 [.t 88,.t 89]]))))))
 (.seq (.reg [zD 92 .eql 3 16 6,zV 91 92])
 (.cut [1000000,0,1,2,16,91] (.cond (.t 91)
 (.seq (.cut [0,1] (.reg [zV 93 0,zV 94 1,zN 95 94,zF 96 67 95 4,zL 97 62 96,zC 98 141 [.t 93,.t 97,.c (.i .i64 8)]]))
 (.seq (.cut [0,1] (.reg [zV 99 0,zo 100 (.jh 76 1 [(0,.c (.s [58]))]),zC 101 90 [.t 99,.t 100]]))
 (.seq (.seq (.cut [0,1] (.reg [zV 102 1,zN 103 102,zF 104 67 103 5,zL 105 62 104,zo 106 (.bin .neq 62 (.t 105) (.c (.p0))),zV 107 106,eH 108 107 1,bf 109 107 (.bn (.t 108)),bf 110 107 (.fH 67 (.t 109) 5),bf 111 107 (.load 62 (.t 110)),bf 112 107 (.bn (.t 111)),bf 113 107 (.fH 67 (.t 112) 0),bf 114 107 (.load 3 (.t 113)),bf 115 107 (.bin .eql 3 (.t 114) (.c (.i .i64 1))),eH 116 107 115,iD 117 116 1,cu 118 116 (.bn (.t 117)),cu 119 116 (.fH 67 (.t 118) 5),cu 120 116 (.load 62 (.t 119)),cu 121 116 (.bn (.t 120)),cu 122 116 (.fH 67 (.t 121) 0),cu 123 116 (.load 3 (.t 122)),cu 124 116 (.bin .eql 3 (.t 123) (.c (.i .i64 2))),bf 125 107 (.pick (.t 116) (.c (.b true)) (.t 124)),zo 126 (.pick (.t 107) (.t 125) (.c (.b false)))]))
 (.cut [1000000,0,1,126] (.cond (.t 126)
 (.seq (.cut [0,1] (.reg [zV 127 0,zV 128 1,zN 129 128,zF 130 67 129 5,zL 131 62 130,zC 132 141 [.t 127,.t 131,.c (.i .i64 8)]]))
 .ret)
 .skip)))
 (.seq (.cut [0,1] (.reg [zV 133 0,zo 134 (.jh 76 1 [(0,.c (.s [40]))]),zC 135 90 [.t 133,.t 134]]))
 (.seq (.cut [0,1] (.reg [zV 136 0,zV 137 1,zN 138 137,zF 139 67 138 5,zL 140 62 139,zC 141 141 [.t 136,.t 140,.c (.i .i64 1)]]))
 (.cut [0] (.reg [zV 142 0,zo 143 (.jh 76 1 [(0,.c (.s [41]))]),zC 144 90 [.t 142,.t 143]])))))))
 (.seq (.reg [zD 146 .eql 3 16 7,zV 145 146])
 (.cond (.t 145)
 (.seq (.cut [0,1] (.reg [zV 147 0,zo 148 (.jh 76 1 [(0,.c (.s [110,101,119,40]))]),zC 149 90 [.t 147,.t 148]]))
 (.seq (.cut [0,1] (.reg [zV 150 0,zV 151 1,zN 152 151,zF 153 67 152 4,zL 154 62 153,zC 155 141 [.t 150,.t 154,.c (.i .i64 1)]]))
 (.cut [0] (.reg [zV 156 0,zo 157 (.jh 76 1 [(0,.c (.s [41]))]),zC 158 90 [.t 156,.t 157]]))))
 (.seq (.reg [zD 160 .eql 3 16 8,zV 159 160])
 (.cond (.t 159)
 (.cut [0] (.reg [zV 161 0,zo 162 (.jh 76 1 [(0,.c (.s [105,110,40,41]))]),zC 163 90 [.t 161,.t 162]]))
 (.seq (.reg [zD 165 .eql 3 16 3,zV 164 165])
 (.cond (.t 164)
 (.cut [0,1,2] (.reg [zV 166 0,zV 167 1,zV 168 2,zC 169 156 [.t 166,.t 167,.t 168]]))
 (.cut [0] (.reg [zV 17 0,zN 18 17,zF 19 110 18 2,zn (.store 4 (.t 19) (.c (.b true)))]))))))))))))))))))))))
def F141:AF:=⟨170,[],c141⟩
def c146:AC:=(.seq (.reg [zo 1 (.box 81 (.t 0)),zo 2 (.mv (.c (.p0)))])
 (.seq (.cut [1] (.reg [zL 5 81 1,zC 6 35 [.t 5],zo 3 (.alloc 38),zS 38 3 6]))
 (.seq (.seq (.cut [1,3] (.reg [zL 7 81 1,zo 8 (.jh 76 2 [(0,.c (.s [33])),(1,.c (.s [45]))]),zC 9 108 [.t 7,.t 8],zo 10 (.un .not (.t 9))]))
 (.cond (.t 10)
 (.seq (.cut [1] (.reg [zL 11 81 1,zC 12 132 [.t 11],zV 2 12]))
 .ret)
 .skip))
 (.seq (.cut [1,3] (.reg [zF 13 38 3 1,zL 14 9 13,zF 15 38 3 2,zL 16 3 15,zo 17 (.build 67 [(0,.c (.i .i64 3)),(3,.t 14),(7,.t 16)]),zo 18 (.box 67 (.t 17)),zo 4 (.alloc 62),zS 62 4 18]))
 (.seq (.cut [1,3,4] (.reg [zL 19 81 1,zF 20 38 3 1,zL 21 9 20,zo 22 (.Jj (.func 158) [] [.t 1,.t 4]),zC 23 106 [.t 19,.t 21,.t 22]]))
 (.seq (.reg [zL 24 62 4,zV 2 24])
 .ret))))))
def Xv:AF:=⟨25,[.t 2],c146⟩
def c147:AC:=(.seq (.reg [zo 2 (.mv (.c (.i .i64 0)))])
 (.seq (.cut [0] (.reg [zo 3 (.YU 220 none),zn (.AX 220 (.t 3) (.c (.s [124,124])) (.c (.i .i64 1))),zn (.AX 220 (.t 3) (.c (.s [38,38])) (.c (.i .i64 2))),zn (.AX 220 (.t 3) (.c (.s [61,61])) (.c (.i .i64 3))),zn (.AX 220 (.t 3) (.c (.s [33,61])) (.c (.i .i64 3))),zn (.AX 220 (.t 3) (.c (.s [60])) (.c (.i .i64 4))),zn (.AX 220 (.t 3) (.c (.s [60,61])) (.c (.i .i64 4))),zn (.AX 220 (.t 3) (.c (.s [62])) (.c (.i .i64 4))),zn (.AX 220 (.t 3) (.c (.s [62,61])) (.c (.i .i64 4))),zn (.AX 220 (.t 3) (.c (.s [43])) (.c (.i .i64 5))),zn (.AX 220 (.t 3) (.c (.s [45])) (.c (.i .i64 5))),zn (.AX 220 (.t 3) (.c (.s [124])) (.c (.i .i64 5))),zn (.AX 220 (.t 3) (.c (.s [94])) (.c (.i .i64 5))),zn (.AX 220 (.t 3) (.c (.s [42])) (.c (.i .i64 6))),zn (.AX 220 (.t 3) (.c (.s [47])) (.c (.i .i64 6))),zn (.AX 220 (.t 3) (.c (.s [37])) (.c (.i .i64 6))),zn (.AX 220 (.t 3) (.c (.s [38])) (.c (.i .i64 6))),zn (.AX 220 (.t 3) (.c (.s [60,60])) (.c (.i .i64 6))),zn (.AX 220 (.t 3) (.c (.s [62,62])) (.c (.i .i64 6))),zV 4 3,zV 5 0,zo 6 (.Wh 220 (.t 4) (.t 5) false),zV 2 6]))
 .ret))
def Z_:AF:=⟨7,[.t 2],c147⟩
def c148:AC:=(.seq (.reg [zo 1 (.box 81 (.t 0)),zo 2 (.mv (.c (.p0)))])
 (.seq (.cut [1] (.reg [zL 5 81 1,zC 6 35 [.t 5],zo 3 (.alloc 38),zS 38 3 6]))
 (.seq (.blk 0
 (.seq (.cut [1,3] (.reg [zL 8 81 1,zC 9 70 [.t 8,.c (.s [110,101,119])],zV 7 9]))
 (.cond (.t 7)
 (.seq (.cut [1,3] (.jM [(zL 10 81 1,[]),(zF 12 38 3 2,[]),(zL 13 3 12,[]),(zC 11 149 [.t 10,.c (.s [40]),.c (.s [41])],[zL 13 3 12]),(zo 14 (.build 67 [(0,.c (.i .i64 7)),(4,.t 11),(7,.t 13)]),[]),(zo 15 (.box 67 (.t 14)),[]),(zV 2 15,[])]))
 .ret)
 (.seq (.cut [1,3] (.reg [zL 17 81 1,zC 18 70 [.t 17,.c (.s [105,110])],zV 16 18]))
 (.cond (.t 16)
 (.seq (.cut [1,3] (.reg [zL 19 81 1,zo 20 (.Jj (.func 159) [] [.t 1]),zC 21 106 [.t 19,.c (.s [40]),.t 20]]))
 (.seq (.cut [3] (.reg [zF 22 38 3 2,zL 23 3 22,zo 24 (.build 67 [(0,.c (.i .i64 8)),(7,.t 23)]),zo 25 (.box 67 (.t 24)),zV 2 25]))
 .ret))
 .skip)))))
 (.seq (.cut [1,3] (.reg [zL 26 81 1,zC 27 150 [.t 26],zo 4 (.alloc 62),zS 62 4 27]))
 (.cut [1000000,1,3,4] (.seq (.seq (.cut [1,3,4] (.reg [zF 28 38 3 0,zL 29 3 28,zD 30 .eql 3 29 1,zV 31 30,bf 32 31 (.load 62 (.t 4)),bf 33 31 (.bn (.t 32)),bf 34 31 (.fH 67 (.t 33) 0),bf 35 31 (.load 3 (.t 34)),bf 36 31 (.bin .eql 3 (.t 35) (.c (.i .i64 2))),zo 37 (.pick (.t 31) (.t 36) (.c (.b false))),zV 38 37,bf 39 38 (.load 81 (.t 1)),bf 40 38 (.jh 76 1 [(0,.c (.s [40]))]),bf 41 38 (.call (.c (.fn (.func 108) [] [])) [.t 39,.t 40]),zo 42 (.pick (.t 38) (.t 41) (.c (.b false)))]))
 (.cond (.t 42)
 (.seq (.cut [1,4] (.reg [zL 43 62 4,zN 44 43,zF 45 67 44 0,zn (.store 3 (.t 45) (.c (.i .i64 4)))]))
 (.cut [1,4] (.reg [zL 46 81 1,zo 47 (.Jj (.func 160) [] [.t 4,.t 1]),zC 48 68 [.t 46,.t 47]])))
 .skip))
 (.seq (.reg [zL 49 62 4,zV 2 49])
 .ret)))))))
def Xw:AF:=⟨50,[.t 2],c148⟩
def c149:AC:=(.seq (.cut [0,1,2] (.reg [zo 3 (.box 81 (.t 0)),zo 5 (.box 9 (.t 2)),zo 6 (.alloc 62)]))
 (.seq (.cut [1,3,5,6] (.reg [zL 7 81 3,zV 8 1,zo 9 (.Jj (.func 161) [] [.t 3,.t 6,.t 5]),zC 10 106 [.t 7,.t 8,.t 9]]))
 (.seq (.reg [zL 11 62 6,zS 62 6 11])
 .ret)))
def aac:AF:=⟨12,[.cell 6 62],c149⟩
def c150:AC:=(.seq (.reg [zo 2 (.mv (.c (.p0)))])
 (.seq (.cut [0] (.reg [zV 6 0,zC 7 35 [.t 6],zo 3 (.alloc 38),zS 38 3 7]))
 (.seq (.blk 0
 (.seq (.cut [0,3] (.reg [zV 9 0,zo 10 (.jh 76 1 [(0,.c (.s [40]))]),zC 11 108 [.t 9,.t 10],zV 8 11]))
 (.cond (.t 8)
 (.seq (.cut [0] (.reg [zV 12 0,zC 13 149 [.t 12,.c (.s [40]),.c (.s [41])],zV 2 13]))
 .ret)
 (.seq (.cut [0,3] (.reg [zF 15 38 3 0,zL 16 3 15,zD 17 .eql 3 16 2,zV 18 17,eH 19 18 0,bf 20 18 (.call (.c (.fn (.func 34) [] [])) [.t 19]),bf 21 18 (.un .not (.t 20)),zo 22 (.pick (.t 18) (.t 21) (.c (.b false))),zV 14 22]))
 (.cond (.t 14)
 (.seq (.reg [zV 23 0,zC 24 105 [.t 23]])
 (.seq (.cut [3] (.reg [zF 26 38 3 1,zL 27 9 26,zC 28 32 [.t 27,.c (.i .i64 10),.c (.i .i64 32)],zV 25 28,zE 29 25 0,zE 30 25 1,zV 4 29,zV 5 30]))
 (.seq (.cut [3,4] (.reg [zV 31 4,zo 32 (.conv 78 64 (.t 31)),zF 33 38 3 2,zL 34 3 33,zo 35 (.build 67 [(0,.c (.i .i64 1)),(1,.t 32),(7,.t 34)]),zo 36 (.box 67 (.t 35)),zV 2 36]))
 .ret)))
 .skip)))))
 (.cut [1000000,0,3] (.seq (.cut [0,3] (.jM [(zV 37 0,[]),(zF 39 38 3 2,[]),(zL 40 3 39,[]),(zC 38 67 [.t 37],[zL 40 3 39]),(zo 41 (.build 67 [(0,.c (.i .i64 2)),(2,.t 38),(7,.t 40)]),[]),(zo 42 (.box 67 (.t 41)),[]),(zV 2 42,[])]))
 .ret)))))
def Xx:AF:=⟨43,[.t 2],c150⟩
def c155:AC:=(.seq (.reg [zo 4 (.mv (.c (.s [])))])
 (.seq (.cut [0,1] (.reg [zV 5 0,zV 6 1,zC 7 165 [.t 5,.t 6],zV 4 7]))
 .ret))
def F155:AF:=⟨8,[.t 4],c155⟩
def c156:AC:=(.seq (.seq (.reg [zo 6 (.mv (.c (.i .i64 7)))])
 (.seq (.seq (.cut [0,1,2,6,23,24] (.reg [zV 7 1,zN 8 7,zF 9 67 8 4,zL 10 62 9,zo 11 (.bin .neq 62 (.t 10) (.c (.p0)))]))
 (.cond (.t 11)
 (.cut [0,1,2,23,24] (.reg [zV 12 1,zN 13 12,zF 14 67 13 3,zL 15 9 14,zC 16 147 [.t 15],zV 6 16]))
 .skip))
 (.cut [1000000,0,1,2,6,23,24] (.seq (.seq (.cut [0,1,2,6,23,24] (.reg [zV 17 6,zV 18 2,zB 19 .lss 3 17 18]))
 (.cond (.t 19)
 (.seq (.cut [0,1,6,19] (.reg [zV 20 0,zo 21 (.jh 76 1 [(0,.c (.s [40]))]),zC 22 90 [.t 20,.t 21]]))
 (.reg [zV 23 0,zo 24 (.jh 76 1 [(0,.c (.s [41]))])]))
 .skip))
 (.cut [1000000,0,1,6,19,23,24] (.seq (.seq (.cut [0,1,6,19,23,24] (.reg [zV 25 1,zN 26 25,zF 27 67 26 4,zL 28 62 27,zo 29 (.bin .neq 62 (.t 28) (.c (.p0)))]))
 (.cond (.t 29)
 (.seq (.cut [0,1,6,19,23,24] (.reg [zV 30 0,zV 31 1,zN 32 31,zF 33 67 32 4,zL 34 62 33,zV 35 6,zC 36 141 [.t 30,.t 34,.t 35]]))
 (.seq (.cut [0,1,6,19,23,24] (.reg [zV 37 0,zV 38 1,zN 39 38,zF 40 67 39 3,zL 41 9 40,zo 42 (.jh 76 3 [(0,.c (.s [32])),(1,.t 41),(2,.c (.s [32]))]),zC 43 90 [.t 37,.t 42]]))
 (.cut [0,1,6,19,23,24] (.reg [zV 44 6,zD 45 .add 3 44 1,zV 6 45]))))
 (.cut [0,1,6,19,23,24] (.reg [zV 46 0,zV 47 1,zN 48 47,zF 49 67 48 3,zL 50 9 49,zo 51 (.jh 76 1 [(0,.t 50)]),zC 52 90 [.t 46,.t 51]]))))
 (.cut [1000000,0,1,6,19,23,24] (.cut [0,1,6,19,23,24] (.reg [zV 53 0,zV 54 1,zN 55 54,zF 56 67 55 5,zL 57 62 56,zV 58 6,zC 59 141 [.t 53,.t 57,.t 58]])))))))))
 (.cond (.t 19)
 (.reg [zn (.call (.c (.fn (.func 90) [] [])) [.t 23,.t 24])])
 .skip))
def F156:AF:=⟨60,[],c156⟩
def c158:AC:=(.cut [0,1] (.jM [(zL 2 62 1,[]),(zL 3 81 0,[]),(zC 4 146 [.t 3],[zL 2 62 1]),(zN 5 2,[]),(zF 6 67 5 5,[]),(zS 62 6 4,[])]))
def Xy:AF:=⟨7,[],c158⟩
def c159:AC:=(.reg [zL 1 81 0,zC 2 66 [.t 1,.c (.s [41])]])
def Xz:AF:=⟨3,[],c159⟩
def c160:AC:=(.cut [0,1] (.jM [(zL 2 62 0,[]),(zL 3 62 0,[]),(zN 4 3,[]),(zF 5 67 4 6,[]),(zL 6 65 5,[]),(zL 7 81 1,[]),(zC 8 130 [.t 7,.c (.i .i64 1)],[zL 2 62 0,zL 3 62 0,zL 6 65 5]),(zo 9 (.jh 65 1 [(0,.t 8)]),[zL 2 62 0,zL 3 62 0,zL 6 65 5]),(zo 10 (.app 65 false (.t 6) (.t 9)),[zL 2 62 0]),(zN 11 2,[]),(zF 12 67 11 6,[]),(zS 65 12 10,[])]))
def XA:AF:=⟨13,[],c160⟩
def c161:AC:=(.seq (.cut [0,1,2] (.reg [zL 3 81 0,zC 4 130 [.t 3,.c (.i .i64 1)],zS 62 1 4]))
 (.cut [0,2] (.reg [zL 5 81 0,zL 6 9 2,zC 7 66 [.t 5,.t 6]])))
def XC:AF:=⟨8,[],c161⟩
def fns:Nat→Option AF
 | 2=>some F2
 | 3=>some F3
 | 4=>some F4
 | 5=>some F5
 | 6=>some F6
 | 7=>some F7
 | 8=>some F8
 | 9=>some F9
 | 10=>some F10
 | 11=>some F11
 | 17=>some F17
 | 18=>some F18
 | 19=>some Xh
 | 20=>some F20
 | 22=>some F22
 | 23=>some F23
 | 24=>some F24
 | 25=>some F25
 | 26=>some F26
 | 28=>some F28
 | 29=>some F29
 | 30=>some F30
 | 31=>some F31
 | 33=>some F33
 | 34=>some F34
 | 35=>some F35
 | 36=>some F36
 | 48=>some F48
 | 49=>some F49
 | 50=>some Xi
 | 51=>some Xj
 | 52=>some F52
 | 54=>some F54
 | 55=>some F55
 | 57=>some F57
 | 58=>some F58
 | 59=>some F59
 | 61=>some F61
 | 62=>some F62
 | 63=>some F63
 | 66=>some F66
 | 67=>some F67
 | 68=>some F68
 | 69=>some F69
 | 70=>some F70
 | 71=>some F71
 | 86=>some F86
 | 87=>some F87
 | 88=>some F88
 | 90=>some F90
 | 91=>some F91
 | 92=>some F92
 | 93=>some F93
 | 95=>some F95
 | 104=>some Xl
 | 105=>some ZR
 | 106=>some Xm
 | 107=>some MQ
 | 108=>some Xn
 | 109=>some SY
 | 110=>some ZT
 | 118=>some PX
 | 119=>some ZX
 | 120=>some H8
 | 121=>some F121
 | 122=>some F122
 | 123=>some F123
 | 124=>some F124
 | 129=>some ZY
 | 130=>some Xq
 | 131=>some Z4
 | 132=>some Xr
 | 140=>some F140
 | 141=>some F141
 | 146=>some Xv
 | 147=>some Z_
 | 148=>some Xw
 | 149=>some aac
 | 150=>some Xx
 | 155=>some F155
 | 156=>some F156
 | 158=>some Xy
 | 159=>some Xz
 | 160=>some XA
 | 161=>some XC
 | _=>none
end Go.bG.YtjcicgkencfbgaaGreatDoor
