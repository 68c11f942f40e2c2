/- Texts of this claim, joined: Code. -/
import Derived.Test.YtlkfbfhkcaldlaaGreatDoorM01
set_option linter.unusedVariables false
set_option linter.unusedSimpArgs false
namespace Go.Abs.YtlkfbfhkcaldlaaGreatDoor
@[reducible] def zo (d:Nat) (o:AOp):AI:=⟨some d,none,o⟩
@[reducible] def bD (d g:Nat) (o:AOp):AI:=⟨some d,some (g,true),o⟩
@[reducible] def fO (d g:Nat) (o:AOp):AI:=⟨some d,some (g,false),o⟩
@[reducible] def zn (o:AOp):AI:=⟨none,none,o⟩
@[reducible] def zV (d a:Nat):AI:=⟨some d,none,.mv (.t a)⟩
@[reducible] def iy (d g a:Nat):AI:=⟨some d,some (g,true),.mv (.t a)⟩
@[reducible] def o9 (d g a:Nat):AI:=⟨some d,some (g,false),.mv (.t a)⟩
@[reducible] def zL (d t a:Nat):AI:=⟨some d,none,.load t (.t a)⟩
@[reducible] def zN (d a:Nat):AI:=⟨some d,none,.nilck (.t a)⟩
@[reducible] def zF (d t a k:Nat):AI:=⟨some d,none,.fad t (.t a) k⟩
@[reducible] def zE (d a k:Nat):AI:=⟨some d,none,.ext (.t a) k⟩
@[reducible] def zS (t a b:Nat):AI:=⟨none,none,.store t (.t a) (.t b)⟩
@[reducible] def zC (d f:Nat) (l:List Opd):AI:=⟨some d,none,.call (.c (.fn (.func f) [] [])) l⟩
@[reducible] def zB (d:Nat) (o:BinOp) (t a b:Nat):AI:=⟨some d,none,.bin o t (.t a) (.t b)⟩
@[reducible] def zD (d:Nat) (o:BinOp) (t a:Nat) (b:Int):AI:=⟨some d,none,.bin o t (.t a) (.c (.i .i64 b))⟩
def c2:AC:=(.reg [zC 0 1 []])
def F2:AF:=⟨1,[],c2⟩
def c3:AC:=(.seq (.reg [zo 2 (.mv (.c (.b false)))])
 (.seq (.cut [0] (.reg [zV 10 0,zC 11 6 [.t 10],zV 9 11,zE 12 9 0,zE 13 9 1,zE 14 9 2,zo 4 (.alloc 25),zV 3 12,zS 25 4 13,zV 5 14]))
 (.seq (.seq (.reg [zV 15 5])
 (.cond (.t 15)
 (.seq (.reg [zC 16 7 [],zV 2 16])
 .ret)
 .skip))
 (.seq (.cut [3] (.reg [zV 17 3,zC 18 8 [.t 17],zV 6 18]))
 (.seq (.cut [3,6] (.reg [zV 20 3,zC 21 9 [.t 20],zV 19 21,zE 22 19 0,zE 23 19 1,zV 7 22,zV 8 23]))
 (.cut [1000000,6,7,8] (.seq (.seq (.cut [6,7,8] (.reg [zV 24 6,zo 25 (.len 9 (.t 24)),zD 26 .gtr 3 25 32768]))
 (.cond (.t 26)
 (.seq (.cut [7,8] (.reg [zV 27 8,zD 28 .eql 23 27 3,zV 29 28,iy 30 29 7,bD 31 29 (.bin .eql 9 (.t 30) (.c (.s []))),zo 32 (.pick (.t 29) (.t 31) (.c (.b false))),zV 33 32,bD 34 33 (.call (.c (.fn (.func 7) [] [])) []),zo 35 (.pick (.t 33) (.t 34) (.c (.b false))),zV 2 35]))
 .ret)
 .skip))
 (.seq (.cut [6,7,8] (.reg [zV 36 8,zD 37 .eql 23 36 0,zV 38 37,iy 39 38 7,iy 40 38 6,bD 41 38 (.bin .eql 9 (.t 39) (.t 40)),zo 42 (.pick (.t 38) (.t 41) (.c (.b false))),zV 43 42,bD 44 43 (.call (.c (.fn (.func 7) [] [])) []),zo 45 (.pick (.t 43) (.t 44) (.c (.b false))),zV 2 45]))
 .ret))))))))
def F3:AF:=⟨46,[.t 2],c3⟩
def c4:AC:=(.seq (.reg [zo 2 (.mv (.c (.b false)))])
 (.seq (.seq (.reg [zC 11 7 [],zo 12 (.un .not (.t 11))])
 (.cond (.t 12)
 (.seq (.reg [zo 2 (.mv (.c (.b false)))])
 .ret)
 .skip))
 (.seq (.cut [0] (.reg [zV 14 0,zC 15 10 [.t 14],zV 13 15,zE 16 13 0,zE 17 13 1,zV 3 16,zV 4 17]))
 (.seq (.seq (.reg [zV 18 4,zo 19 (.bin .neq 34 (.t 18) (.c (.ic0)))])
 (.cond (.t 19)
 (.seq (.cut [3] (.reg [zV 20 3,zo 21 (.bin .eql 22 (.t 20) (.c (.p0))),zV 2 21]))
 .ret)
 .skip))
 (.seq (.cut [3] (.reg [zV 23 3,zC 24 9 [.t 23],zV 22 24,zE 25 22 0,zE 26 22 1,zV 5 25,zV 6 26]))
 (.cut [1000000,3,5,6] (.seq (.seq (.reg [zV 27 6,zD 28 .eql 23 27 3])
 (.cond (.t 28)
 (.seq (.cut [5] (.reg [zV 29 5,zo 30 (.bin .eql 9 (.t 29) (.c (.s []))),zV 2 30]))
 .ret)
 .skip))
 (.seq (.cut [3,5,6] (.reg [zV 32 5,zC 33 10 [.t 32],zV 31 33,zE 34 31 0,zE 35 31 1,zV 7 34,zV 8 35]))
 (.seq (.seq (.cut [3,5,6,7,8] (.reg [zV 36 6,zD 37 .neq 23 36 0,zV 38 37,o9 39 38 8,fO 40 38 (.bin .neq 34 (.t 39) (.c (.ic0))),zo 41 (.pick (.t 38) (.c (.b true)) (.t 40)),zV 42 41,o9 43 42 3,o9 44 42 7,fO 45 42 (.call (.c (.fn (.func 11) [] [])) [.t 43,.t 44]),fO 46 42 (.un .not (.t 45)),zo 47 (.pick (.t 42) (.c (.b true)) (.t 46))]))
 (.cond (.t 47)
 (.seq (.reg [zo 2 (.mv (.c (.b false)))])
 .ret)
 .skip))
 (.cut [1000000,5,7] (.seq (.cut [5,7] (.reg [zV 49 7,zC 50 9 [.t 49],zV 48 50,zE 51 48 0,zE 52 48 1,zV 9 51,zV 10 52]))
 (.seq (.cut [5,9,10] (.reg [zV 53 10,zD 54 .eql 23 53 0,zV 55 54,iy 56 55 9,iy 57 55 5,bD 58 55 (.bin .eql 9 (.t 56) (.t 57)),zo 59 (.pick (.t 55) (.t 58) (.c (.b false))),zV 2 59]))
 .ret))))))))))))
def F4:AF:=⟨60,[.t 2],c4⟩
def c5:AC:=(.seq (.cut [0,1] (.reg [zo 2 (.box 38 (.t 0)),zo 3 (.box 40 (.t 1)),zo 4 (.mv (.c (.b false)))]))
 (.seq (.seq (.reg [zC 18 7 [],zo 19 (.un .not (.t 18))])
 (.cond (.t 19)
 (.seq (.reg [zo 4 (.mv (.c (.b false)))])
 .ret)
 .skip))
 (.seq (.cut [2,3] (.reg [zo 21 (.iad 38 (.t 2) (.c (.i .i64 0))),zL 22 5 21,zC 23 12 [.t 22],zV 20 23,zE 24 20 0,zE 25 20 1,zV 5 24,zV 6 25]))
 (.seq (.cut [2,3,5,6] (.reg [zo 27 (.iad 38 (.t 2) (.c (.i .i64 1))),zL 28 5 27,zC 29 12 [.t 28],zV 26 29,zE 30 26 0,zE 31 26 1,zV 7 30,zV 8 31]))
 (.seq (.cut [3,5,6,7,8] (.drw [(zo 32 (.iad 40 (.t 3) (.c (.i .i64 0))),[]),(zL 33 39 32,[]),(zo 35 (.iad 40 (.t 3) (.c (.i .i64 1))),[]),(zL 36 39 35,[]),(zo 38 (.iad 40 (.t 3) (.c (.i .i64 2))),[]),(zL 39 39 38,[]),(zC 34 13 [.t 33],[zL 36 39 35,zL 39 39 38]),(zC 37 13 [.t 36],[zL 39 39 38]),(zC 40 13 [.t 39],[]),(zV 9 34,[]),(zV 10 37,[]),(zV 11 40,[])]))
 (.cut [1000000,5,6,7,8,9,10,11] (.seq (.cut [5,6,7,8,9,10,11] (.reg [zV 41 9,zV 42 5,zB 43 .add 9 41 42,zV 44 10,zB 45 .add 9 43 44,zV 46 7,zB 47 .add 9 45 46,zV 48 11,zB 49 .add 9 47 48,zC 50 14 [.t 49],zV 12 50]))
 (.seq (.cut [5,6,7,8,9,10,11,12] (.reg [zV 51 9,zo 52 (.bin .add 9 (.c (.s [40])) (.t 51)),zV 53 5,zB 54 .add 9 52 53,zV 55 10,zB 56 .add 9 54 55,zo 57 (.bin .add 9 (.t 56) (.c (.s [41]))),zV 58 7,zB 59 .add 9 57 58,zV 60 11,zB 61 .add 9 59 60,zC 62 14 [.t 61],zV 13 62]))
 (.seq (.cut [5,6,7,8,9,10,11,12,13] (.reg [zV 63 9,zV 64 5,zB 65 .add 9 63 64,zo 66 (.bin .add 9 (.t 65) (.c (.s [40]))),zV 67 10,zB 68 .add 9 66 67,zV 69 7,zB 70 .add 9 68 69,zV 71 11,zB 72 .add 9 70 71,zo 73 (.bin .add 9 (.t 72) (.c (.s [41]))),zC 74 14 [.t 73],zV 14 74]))
 (.cut [1000000,5,6,7,8,9,10,11,12,13,14] (.seq (.seq (.cut [5,6,7,8,9,10,11,12,13,14] (.reg [zV 75 12,zo 76 (.bin .eql 44 (.t 75) (.c (.p0))),zV 77 76,o9 78 77 13,fO 79 77 (.bin .eql 44 (.t 78) (.c (.p0))),zo 80 (.pick (.t 77) (.c (.b true)) (.t 79)),zV 81 80,o9 82 81 14,fO 83 81 (.bin .eql 44 (.t 82) (.c (.p0))),zo 84 (.pick (.t 81) (.c (.b true)) (.t 83)),zV 85 84,o9 86 85 13,fO 87 85 (.nilck (.t 86)),fO 88 85 (.fad 48 (.t 87) 3),fO 89 85 (.load 9 (.t 88)),o9 90 85 7,fO 91 85 (.bin .neq 9 (.t 89) (.t 90)),zo 92 (.pick (.t 85) (.c (.b true)) (.t 91)),zV 93 92,o9 94 93 13,fO 95 93 (.nilck (.t 94)),fO 96 93 (.fad 48 (.t 95) 4),fO 97 93 (.load 44 (.t 96)),fO 98 93 (.nilck (.t 97)),fO 99 93 (.fad 48 (.t 98) 3),fO 100 93 (.load 9 (.t 99)),o9 101 93 5,fO 102 93 (.bin .neq 9 (.t 100) (.t 101)),zo 103 (.pick (.t 93) (.c (.b true)) (.t 102)),zV 104 103,o9 105 104 14,fO 106 104 (.nilck (.t 105)),fO 107 104 (.fad 48 (.t 106) 3),fO 108 104 (.load 9 (.t 107)),o9 109 104 5,fO 110 104 (.bin .neq 9 (.t 108) (.t 109)),zo 111 (.pick (.t 104) (.c (.b true)) (.t 110)),zV 112 111,o9 113 112 14,fO 114 112 (.nilck (.t 113)),fO 115 112 (.fad 48 (.t 114) 5),fO 116 112 (.load 44 (.t 115)),fO 117 112 (.nilck (.t 116)),fO 118 112 (.fad 48 (.t 117) 3),fO 119 112 (.load 9 (.t 118)),o9 120 112 7,fO 121 112 (.bin .neq 9 (.t 119) (.t 120)),zo 122 (.pick (.t 112) (.c (.b true)) (.t 121))]))
 (.cut [1000000,5,6,7,8,9,10,11,12,122] (.cond (.t 122)
 (.seq (.reg [zo 4 (.mv (.c (.b false)))])
 .ret)
 .skip)))
 (.seq (.seq (.cut [5,6,7,8,9,10,11,12] (.reg [zV 123 6,zV 124 8,zB 125 .geq 3 123 124,zV 126 125,iy 127 126 12,bD 128 126 (.nilck (.t 127)),bD 129 126 (.fad 48 (.t 128) 3),bD 130 126 (.load 9 (.t 129)),iy 131 126 7,bD 132 126 (.bin .neq 9 (.t 130) (.t 131)),iy 133 126 132,o9 134 133 12,fO 135 133 (.nilck (.t 134)),fO 136 133 (.fad 48 (.t 135) 4),fO 137 133 (.load 44 (.t 136)),fO 138 133 (.nilck (.t 137)),fO 139 133 (.fad 48 (.t 138) 3),fO 140 133 (.load 9 (.t 139)),o9 141 133 5,fO 142 133 (.bin .neq 9 (.t 140) (.t 141)),bD 143 126 (.pick (.t 133) (.c (.b true)) (.t 142)),zo 144 (.pick (.t 126) (.t 143) (.c (.b false))),zV 145 144,o9 146 145 6,o9 147 145 8,fO 148 145 (.bin .lss 3 (.t 146) (.t 147)),o9 149 145 148,iy 150 149 12,bD 151 149 (.nilck (.t 150)),bD 152 149 (.fad 48 (.t 151) 3),bD 153 149 (.load 9 (.t 152)),iy 154 149 5,bD 155 149 (.bin .neq 9 (.t 153) (.t 154)),iy 156 149 155,o9 157 156 12,fO 158 156 (.nilck (.t 157)),fO 159 156 (.fad 48 (.t 158) 5),fO 160 156 (.load 44 (.t 159)),fO 161 156 (.nilck (.t 160)),fO 162 156 (.fad 48 (.t 161) 3),fO 163 156 (.load 9 (.t 162)),o9 164 156 7,fO 165 156 (.bin .neq 9 (.t 163) (.t 164)),bD 166 149 (.pick (.t 156) (.c (.b true)) (.t 165)),fO 167 145 (.pick (.t 149) (.t 166) (.c (.b false))),zo 168 (.pick (.t 145) (.c (.b true)) (.t 167))]))
 (.cut [1000000,5,6,7,8,9,10,11,168] (.cond (.t 168)
 (.seq (.reg [zo 4 (.mv (.c (.b false)))])
 .ret)
 .skip)))
 (.seq (.cut [5,6,7,8,9,10,11] (.reg [zV 169 9,zo 170 (.bin .add 9 (.t 169) (.c (.s [32]))),zV 171 5,zB 172 .add 9 170 171,zo 173 (.bin .add 9 (.t 172) (.c (.s [32]))),zV 174 10,zB 175 .add 9 173 174,zo 176 (.bin .add 9 (.t 175) (.c (.s [32]))),zV 177 7,zB 178 .add 9 176 177,zo 179 (.bin .add 9 (.t 178) (.c (.s [32]))),zV 180 11,zB 181 .add 9 179 180,zV 15 181]))
 (.seq (.cut [5,6,7,8,9,10,11,15] (.reg [zV 182 9,zo 183 (.bin .add 9 (.c (.s [40])) (.t 182)),zo 184 (.bin .add 9 (.t 183) (.c (.s [32]))),zV 185 5,zB 186 .add 9 184 185,zo 187 (.bin .add 9 (.t 186) (.c (.s [32]))),zV 188 10,zB 189 .add 9 187 188,zo 190 (.bin .add 9 (.t 189) (.c (.s [41,32]))),zV 191 7,zB 192 .add 9 190 191,zo 193 (.bin .add 9 (.t 192) (.c (.s [32]))),zV 194 11,zB 195 .add 9 193 194,zV 196 9,zo 197 (.bin .add 9 (.t 196) (.c (.s [32]))),zV 198 5,zB 199 .add 9 197 198,zo 200 (.bin .add 9 (.t 199) (.c (.s [32,40]))),zV 201 10,zB 202 .add 9 200 201,zo 203 (.bin .add 9 (.t 202) (.c (.s [32]))),zV 204 7,zB 205 .add 9 203 204,zo 206 (.bin .add 9 (.t 205) (.c (.s [32]))),zV 207 11,zB 208 .add 9 206 207,zo 209 (.bin .add 9 (.t 208) (.c (.s [41]))),zV 16 195,zV 17 209]))
 (.cut [1000000,5,6,7,8,9,10,11,15,16,17] (.seq (.seq (.cut [5,6,7,8,9,10,11,15,16,17] (.reg [zV 210 6,zV 211 8,zB 212 .geq 3 210 211]))
 (.cond (.t 212)
 (.reg [zV 213 15,zV 16 213])
 (.reg [zV 214 15,zV 17 214])))
 (.cut [1000000,5,7,9,10,11,16,17] (.seq (.cut [5,7,9,10,11,16,17] (.reg [zV 215 9,zo 216 (.bin .add 9 (.c (.s [40])) (.t 215)),zV 217 5,zB 218 .add 9 216 217,zV 219 10,zB 220 .add 9 218 219,zo 221 (.bin .add 9 (.t 220) (.c (.s [41]))),zV 222 7,zB 223 .add 9 221 222,zV 224 11,zB 225 .add 9 223 224,zC 226 15 [.t 225],zV 227 16,zB 228 .eql 9 226 227,zV 229 228,iy 230 229 9,iy 231 229 5,bD 232 229 (.bin .add 9 (.t 230) (.t 231)),bD 233 229 (.bin .add 9 (.t 232) (.c (.s [40]))),iy 234 229 10,bD 235 229 (.bin .add 9 (.t 233) (.t 234)),iy 236 229 7,bD 237 229 (.bin .add 9 (.t 235) (.t 236)),iy 238 229 11,bD 239 229 (.bin .add 9 (.t 237) (.t 238)),bD 240 229 (.bin .add 9 (.t 239) (.c (.s [41]))),bD 241 229 (.call (.c (.fn (.func 15) [] [])) [.t 240]),iy 242 229 17,bD 243 229 (.bin .eql 9 (.t 241) (.t 242)),zo 244 (.pick (.t 229) (.t 243) (.c (.b false))),zV 4 244]))
 .ret))))))))))))))))))
def F5:AF:=⟨245,[.t 4],c5⟩
def c6L0:AC:=(.seq (.seq (.cut [3,7,8] (.reg [zV 27 7,zN 28 27,zF 29 57 28 3,zL 30 4 29,zo 31 (.un .not (.t 30)),zV 32 31,iy 33 32 7,bD 34 32 (.call (.c (.fn (.func 17) [] [])) [.t 33]),bD 35 32 (.fld 62 (.t 34) 0),bD 36 32 (.bin .neq 3 (.t 35) (.c (.i .i64 5))),zo 37 (.pick (.t 32) (.t 36) (.c (.b false)))]))
 (.cond (.t 37)
 .skip
 (.exit 0)))
 (.blk 1
 (.cut [3,7,8] (.drw [(zV 38 8,[]),(zV 39 8,[]),(zN 40 39,[]),(zF 41 60 40 0,[]),(zL 42 58 41,[]),(zV 43 7,[]),(zC 44 18 [.t 43],[zL 42 58 41]),(zo 45 (.bsl 58 1 [(0,.t 44)]),[zL 42 58 41]),(zo 46 (.app 58 false (.t 42) (.t 45)),[]),(zN 47 38,[]),(zF 48 60 47 0,[]),(zS 58 48 46,[])]))))
def c6:AC:=(.seq (.cut [0] (.reg [zo 2 (.mv (.c (.p0))),zo 3 (.alloc 25),zo 4 (.mv (.c (.b false)))]))
 (.seq (.cut [0,3] (.reg [zV 10 0,zC 11 16 [.t 10],zV 9 11,zE 12 9 0,zE 13 9 1,zo 6 (.alloc 52),zV 5 12,zS 52 6 13]))
 (.seq (.seq (.cut [3,5,6] (.reg [zF 14 52 6 0,zL 15 23 14,zD 16 .neq 23 15 0]))
 (.cond (.t 16)
 (.seq (.cut [3,6] (.drw [(zF 17 52 6 0,[]),(zL 18 23 17,[]),(zF 19 52 6 1,[]),(zL 20 3 19,[]),(zo 21 (.build 25 [(0,.t 18),(1,.t 20)]),[]),(zo 2 (.mv (.c (.p0))),[]),(zS 25 3 21,[]),(zo 4 (.mv (.c (.b true))),[])]))
 .ret)
 .skip))
 (.seq (.cut [3,5] (.reg [zV 22 5,zo 23 (.build 57 [(0,.t 22)]),zo 24 (.box 57 (.t 23)),zV 7 24]))
 (.cut [1000000,3,7] (.seq (.cut [3,7] (.reg [zo 25 (.build 60 []),zo 26 (.box 60 (.t 25)),zV 8 26]))
 (.seq (.blk 0
 (.loop [3,7,8] c6L0))
 (.seq (.seq (.cut [3,7,8] (.reg [zV 49 7,zN 50 49,zF 51 57 50 3,zL 52 4 51]))
 (.cond (.t 52)
 (.seq (.cut [3,7] (.drw [(zV 53 7,[]),(zN 54 53,[]),(zF 55 57 54 4,[]),(zL 56 25 55,[]),(zo 2 (.mv (.c (.p0))),[]),(zS 25 3 56,[]),(zo 4 (.mv (.c (.b true))),[])]))
 .ret)
 .skip))
 (.cut [1000000,3,8] (.seq (.cut [3,8] (.reg [zV 57 8,zo 58 (.build 25 []),zV 2 57,zS 25 3 58,zo 4 (.mv (.c (.b false)))]))
 .ret))))))))))
def F6:AF:=⟨59,[.t 2,.cell 3 25,.t 4],c6⟩
def c7:AC:=(.seq (.reg [zo 0 (.mv (.c (.b false)))])
 (.seq (.cut [] (.reg [zC 7 10 [.c (.s [102,117,110,99,32,109,97,105,110,40,41,123,120,61,49,43,50,42,51,59,125])],zV 6 7,zE 8 6 0,zE 9 6 1,zV 1 8,zV 2 9]))
 (.seq (.seq (.reg [zV 10 2,zo 11 (.bin .neq 34 (.t 10) (.c (.ic0)))])
 (.cond (.t 11)
 (.seq (.reg [zo 0 (.mv (.c (.b false)))])
 .ret)
 .skip))
 (.seq (.cut [1] (.reg [zV 13 1,zC 14 9 [.t 13],zV 12 14,zE 15 12 0,zE 16 12 1,zV 3 15,zV 4 16]))
 (.seq (.reg [zC 17 14 [.c (.s [49,43,50,42,51])],zV 5 17])
 (.seq (.cut [3,4,5] (.reg [zV 18 4,zD 19 .eql 23 18 0,zV 20 19,iy 21 20 3,bD 22 20 (.bin .eql 9 (.t 21) (.c (.s [102,117,110,99,32,109,97,105,110,40,41,32,123,10,9,120,32,61,32,49,32,43,32,50,32,42,32,51,59,10,125,10]))),zo 23 (.pick (.t 20) (.t 22) (.c (.b false))),zV 24 23,iy 25 24 5,bD 26 24 (.bin .neq 44 (.t 25) (.c (.p0))),zo 27 (.pick (.t 24) (.t 26) (.c (.b false))),zV 28 27,iy 29 28 5,bD 30 28 (.nilck (.t 29)),bD 31 28 (.fad 48 (.t 30) 3),bD 32 28 (.load 9 (.t 31)),bD 33 28 (.bin .eql 9 (.t 32) (.c (.s [43]))),zo 34 (.pick (.t 28) (.t 33) (.c (.b false))),zV 35 34,iy 36 35 5,bD 37 35 (.nilck (.t 36)),bD 38 35 (.fad 48 (.t 37) 4),bD 39 35 (.load 44 (.t 38)),bD 40 35 (.bin .neq 44 (.t 39) (.c (.p0))),zo 41 (.pick (.t 35) (.t 40) (.c (.b false))),zV 42 41,iy 43 42 5,bD 44 42 (.nilck (.t 43)),bD 45 42 (.fad 48 (.t 44) 4),bD 46 42 (.load 44 (.t 45)),bD 47 42 (.nilck (.t 46)),bD 48 42 (.fad 48 (.t 47) 1),bD 49 42 (.load 39 (.t 48)),bD 50 42 (.bin .eql 39 (.t 49) (.c (.i .u32 1))),zo 51 (.pick (.t 42) (.t 50) (.c (.b false))),zV 52 51,iy 53 52 5,bD 54 52 (.nilck (.t 53)),bD 55 52 (.fad 48 (.t 54) 5),bD 56 52 (.load 44 (.t 55)),bD 57 52 (.bin .neq 44 (.t 56) (.c (.p0))),zo 58 (.pick (.t 52) (.t 57) (.c (.b false))),zV 59 58,iy 60 59 5,bD 61 59 (.nilck (.t 60)),bD 62 59 (.fad 48 (.t 61) 5),bD 63 59 (.load 44 (.t 62)),bD 64 59 (.nilck (.t 63)),bD 65 59 (.fad 48 (.t 64) 3),bD 66 59 (.load 9 (.t 65)),bD 67 59 (.bin .eql 9 (.t 66) (.c (.s [42]))),zo 68 (.pick (.t 59) (.t 67) (.c (.b false))),zV 69 68,bD 70 69 (.call (.c (.fn (.func 15) [] [])) [.c (.s [40,49,43,50,41,42,51])]),bD 71 69 (.bin .eql 9 (.t 70) (.c (.s [40,49,32,43,32,50,41,32,42,32,51]))),zo 72 (.pick (.t 69) (.t 71) (.c (.b false))),zV 0 72]))
 (.cut [1000000,0] .ret)))))))
def F7:AF:=⟨73,[.t 0],c7⟩
def c8L0:AC:=(.seq (.seq (.cut [0,3,4,5,6] (.reg [zV 31 6,zV 32 5,zN 33 32,zF 34 69 33 1,zL 35 66 34,zo 36 (.len 66 (.t 35)),zB 37 .lss 3 31 36]))
 (.cond (.t 37)
 .skip
 (.exit 2)))
 (.seq (.blk 3
 (.seq (.seq (.reg [zV 40 6,zD 41 .gtr 3 40 0])
 (.cond (.t 41)
 (.cut [0,3,4,5,6] (.reg [zV 42 3,zo 43 (.bin .add 9 (.t 42) (.c (.s [44,32]))),zV 3 43]))
 .skip))
 (.cut [1000000,0,3,4,5,6] (.seq (.cut [0,3,4,5,6] (.reg [zV 44 3,zV 45 5,zN 46 45,zF 47 69 46 1,zL 48 66 47,zV 49 6,zo 50 (.iad 66 (.t 48) (.t 49)),zF 51 71 50 0,zL 52 9 51,zB 53 .add 9 44 52,zV 3 53]))
 (.seq (.cut [0,3,4,5,6] (.reg [zV 54 5,zN 55 54,zF 56 69 55 1,zL 57 66 56,zV 58 6,zo 59 (.iad 66 (.t 57) (.t 58)),zF 60 71 59 1,zL 61 4 60]))
 (.cond (.t 61)
 (.cut [0,3,4,5,6] (.reg [zV 62 3,zo 63 (.bin .add 9 (.t 62) (.c (.s [32,112,116,114]))),zV 3 63]))
 .skip))))))
 (.cut [1000000,0,3,4,5,6] (.cut [0,3,4,5,6] (.reg [zV 38 6,zD 39 .add 3 38 1,zV 6 39])))))
def c8L1:AC:=(.seq (.seq (.cut [0,3,4] (.reg [zV 7 4,zV 8 0,zN 9 8,zF 10 60 9 0,zL 11 58 10,zo 12 (.len 58 (.t 11)),zB 13 .lss 3 7 12]))
 (.cond (.t 13)
 .skip
 (.exit 0)))
 (.seq (.blk 1
 (.seq (.cut [0,3,4] (.reg [zV 16 0,zN 17 16,zF 18 60 17 0,zL 19 58 18,zV 20 4,zo 21 (.iad 58 (.t 19) (.t 20)),zL 22 64 21,zV 5 22]))
 (.seq (.cut [0,3,4,5] (.reg [zV 23 3,zo 24 (.bin .add 9 (.t 23) (.c (.s [102,117,110,99,32]))),zV 25 5,zN 26 25,zF 27 69 26 0,zL 28 9 27,zB 29 .add 9 24 28,zo 30 (.bin .add 9 (.t 29) (.c (.s [40]))),zV 3 30]))
 (.cut [1000000,0,3,4,5] (.seq (.seq (.reg [zo 6 (.mv (.c (.i .i64 0)))])
 (.blk 2
 (.loop [0,3,4,5,6] c8L0)))
 (.seq (.cut [0,3,4,5] (.reg [zV 64 3,zo 65 (.bin .add 9 (.t 64) (.c (.s [41]))),zV 3 65]))
 (.seq (.seq (.cut [0,3,4,5] (.reg [zV 66 5,zN 67 66,zF 68 69 67 2,zL 69 4 68]))
 (.cond (.t 69)
 (.cut [0,3,4,5] (.reg [zV 70 3,zo 71 (.bin .add 9 (.t 70) (.c (.s [32,112,116,114]))),zV 3 71]))
 .skip))
 (.cut [1000000,0,3,4,5] (.cut [0,3,4,5] (.reg [zV 72 3,zo 73 (.bin .add 9 (.t 72) (.c (.s [32,123,10]))),zV 74 5,zN 75 74,zF 76 69 75 3,zL 77 67 76,zC 78 19 [.t 77,.c (.i .i64 1)],zB 79 .add 9 73 78,zo 80 (.bin .add 9 (.t 79) (.c (.s [125,10]))),zV 3 80]))))))))))
 (.cut [0,3,4] (.reg [zV 14 4,zD 15 .add 3 14 1,zV 4 15]))))
def c8:AC:=(.seq (.reg [zo 2 (.mv (.c (.s [])))])
 (.seq (.reg [zo 3 (.mv (.c (.s [])))])
 (.seq (.seq (.reg [zo 4 (.mv (.c (.i .i64 0)))])
 (.blk 0
 (.loop [0,3,4] c8L1)))
 (.seq (.reg [zV 81 3,zV 2 81])
 .ret))))
def F8:AF:=⟨82,[.t 2],c8⟩
def c9L0:AC:=(.seq (.reg [zB 19 .lss 3 18 17])
 (.seq (.cond (.t 19)
 .skip
 (.exit 0))
 (.seq (.blk 1
 (.seq (.cut [0,4,16,17,18] (.reg [zo 20 (.iad 58 (.t 16) (.t 18)),zL 21 64 20,zV 6 21]))
 (.cut [0,4,6,16,17,18] (.reg [zV 22 4,zV 23 6,zC 24 20 [.t 22,.t 23]]))))
 (.reg [zD 25 .add 3 18 1,zV 18 25]))))
def c9:AC:=(.seq (.reg [zo 2 (.mv (.c (.s []))),zo 3 (.mv (.c (.i .i64 0)))])
 (.seq (.seq (.reg [zV 9 0,zo 10 (.bin .eql 22 (.t 9) (.c (.p0)))])
 (.cond (.t 10)
 (.seq (.reg [zo 2 (.mv (.c (.s []))),zo 3 (.mv (.c (.i .i64 1)))])
 .ret)
 .skip))
 (.seq (.cut [0] (.reg [zo 11 (.build 79 []),zo 12 (.box 79 (.t 11)),zV 4 12]))
 (.seq (.seq (.cut [0,4] (.reg [zV 13 0,zN 14 13,zF 15 60 14 0,zL 16 58 15,zo 17 (.len 58 (.t 16)),zo 18 (.mv (.c (.i .i64 0)))]))
 (.blk 0
 (.loop [0,4,16,17,18] c9L0)))
 (.seq (.seq (.cut [0,4] (.reg [zV 26 4,zN 27 26,zF 28 79 27 0,zC 29 21 [.t 28],zD 30 .gtr 3 29 32768]))
 (.cond (.t 30)
 (.seq (.reg [zo 2 (.mv (.c (.s []))),zo 3 (.mv (.c (.i .i64 3)))])
 .ret)
 .skip))
 (.seq (.cut [0,4] (.reg [zV 32 4,zN 33 32,zF 34 79 33 0,zC 35 22 [.t 34],zC 36 10 [.t 35],zV 31 36,zE 37 31 0,zE 38 31 1,zV 7 37,zV 8 38]))
 (.cut [1000000,0,4,7,8] (.seq (.seq (.cut [0,4,7,8] (.reg [zV 39 4,zN 40 39,zF 41 79 40 2,zL 42 4 41,zV 43 42,o9 44 43 8,fO 45 43 (.bin .neq 34 (.t 44) (.c (.ic0))),zo 46 (.pick (.t 43) (.c (.b true)) (.t 45)),zV 47 46,o9 48 47 0,o9 49 47 7,fO 50 47 (.call (.c (.fn (.func 11) [] [])) [.t 48,.t 49]),fO 51 47 (.un .not (.t 50)),zo 52 (.pick (.t 47) (.c (.b true)) (.t 51))]))
 (.cond (.t 52)
 (.seq (.reg [zo 2 (.mv (.c (.s []))),zo 3 (.mv (.c (.i .i64 2)))])
 .ret)
 .skip))
 (.seq (.cut [4] (.reg [zV 53 4,zN 54 53,zF 55 79 54 0,zC 56 22 [.t 55],zV 2 56,zo 3 (.mv (.c (.i .i64 0)))]))
 .ret)))))))))
def F9:AF:=⟨57,[.t 2,.t 3],c9⟩
def TW:AC:=(.seq (.seq (.cut [6,7] (.reg [zV 21 6,zC 22 24 [.t 21],zo 23 (.un .not (.t 22)),zV 24 23,iy 25 24 6,bD 26 24 (.call (.c (.fn (.func 25) [] [])) [.t 25]),bD 27 24 (.fld 62 (.t 26) 0),bD 28 24 (.bin .neq 3 (.t 27) (.c (.i .i64 5))),zo 29 (.pick (.t 24) (.t 28) (.c (.b false)))]))
 (.cond (.t 29)
 .skip
 (.exit 0)))
 (.blk 1
 (.cut [6,7] (.drw [(zV 30 7,[]),(zV 31 7,[]),(zN 32 31,[]),(zF 33 60 32 0,[]),(zL 34 58 33,[]),(zV 35 6,[]),(zC 36 26 [.t 35],[zL 34 58 33]),(zo 37 (.bsl 58 1 [(0,.t 36)]),[zL 34 58 33]),(zo 38 (.app 58 false (.t 34) (.t 37)),[]),(zN 39 30,[]),(zF 40 60 39 0,[]),(zS 58 40 38,[])]))))
def c10:AC:=(.seq (.reg [zo 2 (.mv (.c (.p0))),zo 3 (.mv (.c (.ic0)))])
 (.seq (.cut [0] (.reg [zV 9 0,zC 10 23 [.t 9],zV 8 10,zE 11 8 0,zE 12 8 1,zV 4 11,zV 5 12]))
 (.seq (.seq (.reg [zV 13 5,zo 14 (.bin .neq 34 (.t 13) (.c (.ic0)))])
 (.cond (.t 14)
 (.seq (.cut [5] (.reg [zV 15 5,zo 2 (.mv (.c (.p0))),zV 3 15]))
 .ret)
 .skip))
 (.seq (.cut [4] (.reg [zV 16 4,zo 17 (.build 88 [(0,.t 16)]),zo 18 (.box 88 (.t 17)),zV 6 18]))
 (.seq (.cut [6] (.reg [zo 19 (.build 60 []),zo 20 (.box 60 (.t 19)),zV 7 20]))
 (.seq (.blk 0
 (.loop [6,7] TW))
 (.seq (.seq (.reg [zV 41 6,zC 42 24 [.t 41]])
 (.cond (.t 42)
 (.seq (.cut [6] (.drw [(zV 43 6,[]),(zN 44 43,[]),(zF 45 88 44 2,[]),(zL 46 86 45,[]),(zo 47 (.mki 86 (.t 46)),[]),(zo 2 (.mv (.c (.p0))),[]),(zV 3 47,[])]))
 .ret)
 .skip))
 (.seq (.cut [7] (.reg [zV 48 7,zV 2 48,zo 3 (.mv (.c (.ic0)))]))
 .ret))))))))
def F10:AF:=⟨49,[.t 2,.t 3],c10⟩
def c11:AC:=(.seq (.reg [zo 4 (.mv (.c (.b false)))])
 (.seq (.cut [0,1] (.reg [zV 5 0,zV 6 1,zC 7 27 [.t 5,.t 6,.c (.fn (.func 28) [] [])],zV 4 7]))
 .ret))
def F11:AF:=⟨8,[.t 4],c11⟩
def c12:AC:=(.seq (.reg [zo 2 (.mv (.c (.s []))),zo 3 (.mv (.c (.i .i64 0)))])
 (.seq (.cut [0] (.reg [zo 6 (.build 92 [(0,.c (.s [124,124])),(1,.c (.s [38,38])),(2,.c (.s [61,61])),(3,.c (.s [33,61])),(4,.c (.s [60])),(5,.c (.s [60,61])),(6,.c (.s [62])),(7,.c (.s [62,61])),(8,.c (.s [43])),(9,.c (.s [45])),(10,.c (.s [124])),(11,.c (.s [94])),(12,.c (.s [42])),(13,.c (.s [47])),(14,.c (.s [37])),(15,.c (.s [38])),(16,.c (.s [60,60])),(17,.c (.s [62,62]))]),zo 4 (.alloc 92),zS 92 4 6]))
 (.seq (.cut [0,4] (.reg [zo 7 (.build 93 [(0,.c (.i .i64 1)),(1,.c (.i .i64 2)),(2,.c (.i .i64 3)),(3,.c (.i .i64 3)),(4,.c (.i .i64 4)),(5,.c (.i .i64 4)),(6,.c (.i .i64 4)),(7,.c (.i .i64 4)),(8,.c (.i .i64 5)),(9,.c (.i .i64 5)),(10,.c (.i .i64 5)),(11,.c (.i .i64 5)),(12,.c (.i .i64 6)),(13,.c (.i .i64 6)),(14,.c (.i .i64 6)),(15,.c (.i .i64 6)),(16,.c (.i .i64 6)),(17,.c (.i .i64 6))]),zo 5 (.alloc 93),zS 93 5 7]))
 (.seq (.cut [0,4,5] (.drw [(zV 8 0,[]),(zo 9 (.bin .rem 5 (.t 8) (.c (.i .u8 18))),[]),(zo 10 (.iad 92 (.t 4) (.t 9)),[]),(zL 11 9 10,[]),(zV 12 0,[]),(zo 13 (.bin .rem 5 (.t 12) (.c (.i .u8 18))),[]),(zo 14 (.iad 93 (.t 5) (.t 13)),[]),(zL 15 3 14,[]),(zV 2 11,[]),(zV 3 15,[])]))
 .ret))))
def F12:AF:=⟨16,[.t 2,.t 3],c12⟩
def c14:AC:=(.seq (.reg [zo 2 (.mv (.c (.p0)))])
 (.seq (.cut [0] (.reg [zV 6 0,zo 7 (.bin .add 9 (.c (.s [102,117,110,99,32,102,40,41,32,123,10,114,101,116,117,114,110,32])) (.t 6)),zo 8 (.bin .add 9 (.t 7) (.c (.s [59,10,125]))),zC 9 10 [.t 8],zV 5 9,zE 10 5 0,zE 11 5 1,zV 3 10,zV 4 11]))
 (.seq (.seq (.cut [3,4] (.reg [zV 12 4,zo 13 (.bin .neq 34 (.t 12) (.c (.ic0))),zV 14 13,o9 15 14 3,fO 16 14 (.bin .eql 22 (.t 15) (.c (.p0))),zo 17 (.pick (.t 14) (.c (.b true)) (.t 16)),zV 18 17,o9 19 18 3,fO 20 18 (.nilck (.t 19)),fO 21 18 (.fad 60 (.t 20) 0),fO 22 18 (.load 58 (.t 21)),fO 23 18 (.len 58 (.t 22)),fO 24 18 (.bin .neq 3 (.t 23) (.c (.i .i64 1))),zo 25 (.pick (.t 18) (.c (.b true)) (.t 24)),zV 26 25,o9 27 26 3,fO 28 26 (.nilck (.t 27)),fO 29 26 (.fad 60 (.t 28) 0),fO 30 26 (.load 58 (.t 29)),fO 31 26 (.iad 58 (.t 30) (.c (.i .i64 0))),fO 32 26 (.load 64 (.t 31)),fO 33 26 (.nilck (.t 32)),fO 34 26 (.fad 69 (.t 33) 3),fO 35 26 (.load 67 (.t 34)),fO 36 26 (.len 67 (.t 35)),fO 37 26 (.bin .neq 3 (.t 36) (.c (.i .i64 1))),zo 38 (.pick (.t 26) (.c (.b true)) (.t 37)),zV 39 38,o9 40 39 3,fO 41 39 (.nilck (.t 40)),fO 42 39 (.fad 60 (.t 41) 0),fO 43 39 (.load 58 (.t 42)),fO 44 39 (.iad 58 (.t 43) (.c (.i .i64 0))),fO 45 39 (.load 64 (.t 44)),fO 46 39 (.nilck (.t 45)),fO 47 39 (.fad 69 (.t 46) 3),fO 48 39 (.load 67 (.t 47)),fO 49 39 (.iad 67 (.t 48) (.c (.i .i64 0))),fO 50 39 (.load 96 (.t 49)),fO 51 39 (.nilck (.t 50)),fO 52 39 (.fad 95 (.t 51) 0),fO 53 39 (.load 3 (.t 52)),fO 54 39 (.bin .neq 3 (.t 53) (.c (.i .i64 9))),zo 55 (.pick (.t 39) (.c (.b true)) (.t 54))]))
 (.cut [1000000,3,55] (.cond (.t 55)
 (.seq (.reg [zo 2 (.mv (.c (.p0)))])
 .ret)
 .skip)))
 (.seq (.cut [3] (.reg [zV 56 3,zN 57 56,zF 58 60 57 0,zL 59 58 58,zo 60 (.iad 58 (.t 59) (.c (.i .i64 0))),zL 61 64 60,zN 62 61,zF 63 69 62 3,zL 64 67 63,zo 65 (.iad 67 (.t 64) (.c (.i .i64 0))),zL 66 96 65,zN 67 66,zF 68 95 67 4,zL 69 44 68,zV 2 69]))
 .ret))))
def F14:AF:=⟨70,[.t 2],c14⟩
def c15:AC:=(.seq (.reg [zo 2 (.mv (.c (.s [])))])
 (.seq (.cut [0] (.reg [zV 10 0,zo 11 (.bin .add 9 (.c (.s [102,117,110,99,32,102,40,41,32,123,10,114,101,116,117,114,110,32])) (.t 10)),zo 12 (.bin .add 9 (.t 11) (.c (.s [59,10,125]))),zC 13 10 [.t 12],zV 9 13,zE 14 9 0,zE 15 9 1,zV 3 14,zV 4 15]))
 (.seq (.seq (.reg [zV 16 4,zo 17 (.bin .neq 34 (.t 16) (.c (.ic0)))])
 (.cond (.t 17)
 (.seq (.reg [zo 2 (.mv (.c (.s [])))])
 .ret)
 .skip))
 (.seq (.cut [3] (.reg [zV 19 3,zC 20 9 [.t 19],zV 18 20,zE 21 18 0,zE 22 18 1,zV 5 21,zV 6 22]))
 (.seq (.cut [5,6] (.reg [zV 24 5,zC 25 31 [.t 24,.c (.s [102,117,110,99,32,102,40,41,32,123,10,9,114,101,116,117,114,110,32])],zV 23 25,zE 26 23 0,zE 27 23 1,zV 5 26,zV 7 27]))
 (.cut [1000000,5,6,7] (.seq (.cut [5,6,7] (.reg [zV 29 5,zC 30 32 [.t 29,.c (.s [59,10,125,10])],zV 28 30,zE 31 28 0,zE 32 28 1,zV 5 31,zV 8 32]))
 (.seq (.seq (.cut [5,6,7,8] (.reg [zV 33 6,zD 34 .neq 23 33 0,zV 35 34,o9 36 35 7,fO 37 35 (.un .not (.t 36)),zo 38 (.pick (.t 35) (.c (.b true)) (.t 37)),zV 39 38,o9 40 39 8,fO 41 39 (.un .not (.t 40)),zo 42 (.pick (.t 39) (.c (.b true)) (.t 41))]))
 (.cond (.t 42)
 (.seq (.reg [zo 2 (.mv (.c (.s [])))])
 .ret)
 .skip))
 (.seq (.reg [zV 43 5,zV 2 43])
 .ret)))))))))
def F15:AF:=⟨44,[.t 2],c15⟩
def TY:AC:=(.seq (.reg [zB 24 .lss 3 23 22])
 (.seq (.cond (.t 24)
 .skip
 (.exit 0))
 (.seq (.blk 1
 (.seq (.cut [0,1,21,22,23] (.reg [zV 25 23,zo 26 (.iad 66 (.t 21) (.t 23)),zL 27 71 26,zo 5 (.alloc 71),zV 4 25,zS 71 5 27]))
 (.seq (.seq (.reg [zV 28 4,zD 29 .gtr 3 28 0])
 (.cond (.t 29)
 (.cut [0,1,5,21,22,23] (.reg [zV 30 0,zo 31 (.bsl 116 1 [(0,.c (.s [44,32]))]),zC 32 44 [.t 30,.t 31]]))
 .skip))
 (.cut [1000000,0,1,5,21,22,23] (.seq (.cut [0,1,5,21,22,23] (.reg [zV 33 0,zF 34 71 5 0,zL 35 9 34,zo 36 (.bsl 116 1 [(0,.t 35)]),zC 37 44 [.t 33,.t 36]]))
 (.seq (.reg [zF 38 71 5 1,zL 39 4 38])
 (.cond (.t 39)
 (.cut [0,1,21,22,23] (.reg [zV 40 0,zo 41 (.bsl 116 1 [(0,.c (.s [32,112,116,114]))]),zC 42 44 [.t 40,.t 41]]))
 .skip)))))))
 (.reg [zD 43 .add 3 23 1,zV 23 43]))))
def c20:AC:=(.seq (.seq (.reg [zV 6 1,zo 7 (.bin .eql 64 (.t 6) (.c (.p0)))])
 (.cond (.t 7)
 (.seq (.cut [0] (.reg [zV 8 0,zN 9 8,zF 10 79 9 2,zn (.store 4 (.t 10) (.c (.b true)))]))
 .ret)
 .skip))
 (.seq (.cut [0,1] (.reg [zV 11 0,zV 12 1,zN 13 12,zF 14 69 13 0,zL 15 9 14,zo 16 (.bsl 116 3 [(0,.c (.s [102,117,110,99,32])),(1,.t 15),(2,.c (.s [40]))]),zC 17 44 [.t 11,.t 16]]))
 (.seq (.seq (.cut [0,1] (.reg [zV 18 1,zN 19 18,zF 20 69 19 1,zL 21 66 20,zo 22 (.len 66 (.t 21)),zo 23 (.mv (.c (.i .i64 0)))]))
 (.blk 0
 (.loop [0,1,21,22,23] TY)))
 (.seq (.cut [0,1] (.reg [zV 44 0,zo 45 (.bsl 116 1 [(0,.c (.s [41]))]),zC 46 44 [.t 44,.t 45]]))
 (.seq (.seq (.cut [0,1] (.reg [zV 47 1,zN 48 47,zF 49 69 48 2,zL 50 4 49]))
 (.cond (.t 50)
 (.cut [0,1] (.reg [zV 51 0,zo 52 (.bsl 116 1 [(0,.c (.s [32,112,116,114]))]),zC 53 44 [.t 51,.t 52]]))
 .skip))
 (.cut [1000000,0,1] (.seq (.cut [0,1] (.reg [zV 54 0,zV 55 1,zN 56 55,zF 57 69 56 3,zL 58 67 57,zC 59 45 [.t 54,.t 58]]))
 (.cut [0] (.reg [zV 60 0,zo 61 (.bsl 116 1 [(0,.c (.s [10]))]),zC 62 44 [.t 60,.t 61]])))))))))
def F20:AF:=⟨63,[],c20⟩
def c21:AC:=(.seq (.reg [zo 2 (.mv (.c (.i .i64 0)))])
 (.seq (.cut [0] (.reg [zV 3 0,zN 4 3,zF 5 77 4 1,zL 6 75 5,zo 7 (.len 75 (.t 6)),zV 2 7]))
 .ret))
def F21:AF:=⟨8,[.t 2],c21⟩
def PV:AC:=(.seq (.seq (.cut [1,4,5,6,7] (.reg [zL 20 9 1,zo 21 (.len 9 (.t 20)),zD 22 .gtr 3 21 0]))
 (.cond (.t 22)
 .skip
 (.exit 0)))
 (.blk 1
 (.seq (.seq (.reg [zL 23 9 1,zC 24 47 [.t 23,.c (.s [47,47])]])
 (.cond (.t 24)
 (.seq (.cut [1,4,5,6,7] (.reg [zL 25 9 1,zC 26 48 [.t 25,.c (.i .u8 10)],zV 8 26]))
 (.seq (.seq (.reg [zV 27 8,zD 28 .lss 3 27 0])
 (.cond (.t 28)
 (.cut [1,4,5,6,7] (.reg [zL 29 9 1,zo 30 (.len 9 (.t 29)),zV 8 30]))
 .skip))
 (.cut [1000000,1,4,5,6,7,8] (.seq (.cut [1,4,5,6,7,8] (.reg [zL 31 9 1,zV 32 8,zo 33 (.slc 9 (.t 31) (some (.t 32)) none),zS 9 1 33]))
 (.exit 1)))))
 .skip))
 (.seq (.cut [1,4,5,6,7] (.reg [zL 34 9 1,zo 35 (.idx 9 (.t 34) (.c (.i .i64 0))),zo 36 (.conv 5 21 (.t 35)),zC 37 49 [.t 36]]))
 (.blk 2
 (.seq (.reg [zD 39 .eql 112 37 1,zV 38 39])
 (.cond (.t 38)
 (.seq (.seq (.cut [1,4,5,6,7] (.reg [zL 40 9 1,zo 41 (.idx 9 (.t 40) (.c (.i .i64 0))),zo 42 (.bin .eql 5 (.t 41) (.c (.i .u8 10)))]))
 (.cond (.t 42)
 (.cut [1,4,5,6,7] (.reg [zL 43 3 5,zD 44 .add 3 43 1,zS 3 5 44]))
 .skip))
 (.cut [1000000,1,4,5,6,7] (.cut [1,4,5,6,7] (.reg [zL 45 9 1,zo 46 (.slc 9 (.t 45) (some (.c (.i .i64 1))) none),zS 9 1 46]))))
 (.seq (.reg [zD 48 .eql 112 37 2,zV 47 48])
 (.cond (.t 47)
 (.seq (.cut [1,4,5,6,7] (.reg [zL 49 9 1,zo 50 (.bsl 134 2 [(0,.c (.i .i64 2)),(1,.c (.i .i64 3))]),zC 51 50 [.t 49,.t 50],zV 9 51]))
 (.blk 3
 (.seq (.cut [1,4,5,6,7,9] (.reg [zV 56 9,zD 57 .gtr 3 56 32,zV 55 57]))
 (.cond (.t 55)
 (.seq (.reg [zo 7 (.mv (.c (.i .i64 9)))])
 (.exit 0))
 (.seq (.cut [1,4,5,6,7,9] (.drw [(zL 60 9 1,[]),(zV 61 9,[]),(zo 62 (.slc 9 (.t 60) none (some (.t 61))),[]),(zC 59 52 [],[zL 60 9 1,zo 62 (.slc 9 (.t 60) none (some (.t 61)))]),(zC 63 51 [.t 59,.t 62],[]),(zV 58 63,[])]))
 (.cond (.t 58)
 (.cut [1,4,5,6,7,9] (.reg [zV 64 6,zV 65 9,zo 66 (.call (.t 64) [.c (.i .i64 4),.t 65])]))
 (.cut [1,4,5,6,7,9] (.reg [zV 52 6,zV 53 9,zo 54 (.call (.t 52) [.c (.i .i64 1),.t 53])]))))))))
 (.seq (.reg [zD 68 .eql 112 37 3,zV 67 68])
 (.cond (.t 67)
 (.seq (.cut [1,4,5,6,7] (.reg [zL 69 9 1,zo 70 (.bsl 134 1 [(0,.c (.i .i64 3))]),zC 71 50 [.t 69,.t 70],zV 10 71]))
 (.seq (.seq (.cut [1,4,5,6,7,10] (.reg [zL 72 9 1,zo 73 (.idx 9 (.t 72) (.c (.i .i64 0))),zo 74 (.bin .eql 5 (.t 73) (.c (.i .u8 48))),zV 75 74,iy 76 75 10,bD 77 75 (.bin .gtr 3 (.t 76) (.c (.i .i64 1))),zo 78 (.pick (.t 75) (.t 77) (.c (.b false))),zV 79 78,fO 80 79 (.load 9 (.t 1)),o9 81 79 10,fO 82 79 (.slc 9 (.t 80) (some (.t 81)) none),fO 83 79 (.bsl 134 1 [(0,.c (.i .i64 2))]),fO 84 79 (.call (.c (.fn (.func 50) [] [])) [.t 82,.t 83]),fO 85 79 (.bin .gtr 3 (.t 84) (.c (.i .i64 0))),zo 86 (.pick (.t 79) (.c (.b true)) (.t 85))]))
 (.cut [1000000,1,4,5,6,7,10,86] (.cond (.t 86)
 (.seq (.reg [zo 7 (.mv (.c (.i .i64 9)))])
 (.exit 0))
 .skip)))
 (.seq (.seq (.cut [1,4,5,6,7,10] (.reg [zL 88 9 1,zV 89 10,zo 90 (.slc 9 (.t 88) none (some (.t 89))),zC 91 53 [.t 90,.c (.i .i64 10),.c (.i .i64 32)],zV 87 91,zE 92 87 0,zE 93 87 1,zV 11 92,zV 12 93]))
 (.seq (.reg [zV 94 12,zo 95 (.bin .neq 34 (.t 94) (.c (.ic0)))])
 (.cond (.t 95)
 (.seq (.reg [zo 7 (.mv (.c (.i .i64 3)))])
 (.exit 0))
 .skip)))
 (.cut [1,4,5,6,7,10] (.reg [zV 96 6,zV 97 10,zo 98 (.call (.t 96) [.c (.i .i64 2),.t 97])])))))
 (.seq (.reg [zD 100 .eql 112 37 4,zV 99 100])
 (.cond (.t 99)
 (.seq (.reg [zL 101 9 1,zC 102 54 [.t 101]])
 (.cond (.t 102)
 (.reg [zV 103 6,zo 104 (.call (.t 103) [.c (.i .i64 3),.c (.i .i64 2)])])
 (.reg [zV 105 6,zo 106 (.call (.t 105) [.c (.i .i64 3),.c (.i .i64 1)])])))
 (.seq (.reg [zo 7 (.mv (.c (.i .i64 9)))])
 (.exit 0)))))))))))))))
def c23:AC:=(.seq (.cut [0] (.reg [zo 1 (.box 9 (.t 0)),zo 2 (.mv (.c (.sl0))),zo 3 (.mv (.c (.ic0)))]))
 (.seq (.seq (.cut [1] (.reg [zL 13 9 1,zo 14 (.len 9 (.t 13)),zD 15 .gtr 3 14 32768]))
 (.cond (.t 15)
 (.seq (.cut [] (.reg [zo 16 (.build 25 [(0,.c (.i .i64 3))]),zo 17 (.box 25 (.t 16)),zo 18 (.mki 86 (.t 17)),zo 2 (.mv (.c (.sl0))),zV 3 18]))
 .ret)
 .skip))
 (.seq (.reg [zo 4 (.alloc 51)])
 (.seq (.reg [zo 5 (.alloc 3),zn (.store 3 (.t 5) (.c (.i .i64 0)))])
 (.seq (.reg [zo 19 (.mkf (.func 46) [] [.t 4,.t 1,.t 5]),zV 6 19])
 (.seq (.reg [zo 7 (.mv (.c (.i .i64 0)))])
 (.seq .skip
 (.seq (.blk 0
 (.loop [1,4,5,6,7] PV))
 (.cut [1000000,4,5,7] (.seq (.seq (.reg [zV 107 7,zD 108 .neq 23 107 0])
 (.cond (.t 108)
 (.seq (.cut [5,7] (.drw [(zV 109 7,[]),(zL 110 3 5,[]),(zo 111 (.build 25 [(0,.t 109),(1,.t 110)]),[]),(zo 2 (.mv (.c (.sl0))),[]),(zo 112 (.box 25 (.t 111)),[]),(zo 113 (.mki 86 (.t 112)),[]),(zV 3 113,[])]))
 .ret)
 .skip))
 (.seq (.cut [4,5] (.reg [zL 114 51 4,zL 115 3 5,zo 116 (.build 62 [(0,.c (.i .i64 5)),(2,.t 115)]),zo 117 (.bsl 51 1 [(0,.t 116)]),zo 118 (.app 51 false (.t 114) (.t 117)),zV 2 118,zo 3 (.mv (.c (.ic0)))]))
 .ret)))))))))))
def F23:AF:=⟨119,[.t 2,.t 3],c23⟩
def c24:AC:=(.seq (.reg [zo 2 (.mv (.c (.b false)))])
 (.seq (.cut [0] (.reg [zV 3 0,zN 4 3,zF 5 88 4 2,zL 6 86 5,zo 7 (.bin .neq 86 (.t 6) (.c (.p0))),zV 2 7]))
 .ret))
def F24:AF:=⟨8,[.t 2],c24⟩
def c25:AC:=(.seq (.reg [zo 2 (.alloc 62)])
 (.seq (.cut [0,2] (.reg [zV 3 0,zN 4 3,zF 5 88 4 0,zL 6 51 5,zo 7 (.iad 51 (.t 6) (.c (.i .i64 0))),zL 8 62 7,zS 62 2 8]))
 .ret))
def F25:AF:=⟨9,[.cell 2 62],c25⟩
def c26:AC:=(.seq (.reg [zo 1 (.box 85 (.t 0)),zo 2 (.mv (.c (.p0)))])
 (.seq (.cut [1] (.reg [zL 4 85 1,zC 5 25 [.t 4],zo 6 (.fld 62 (.t 5) 2),zo 7 (.build 69 [(4,.t 6)]),zo 8 (.box 69 (.t 7)),zo 3 (.alloc 64),zS 64 3 8]))
 (.seq (.reg [zL 9 85 1,zC 10 55 [.t 9,.c (.s [102,117,110,99])]])
 (.seq (.cut [1,3] (.drw [(zL 11 64 3,[]),(zL 12 85 1,[]),(zC 13 56 [.t 12],[zL 11 64 3]),(zN 14 11,[]),(zF 15 69 14 0,[]),(zS 9 15 13,[])]))
 (.seq (.cut [1,3] (.reg [zL 16 85 1,zo 17 (.mkf (.func 58) [] [.t 1,.t 3]),zC 18 57 [.t 16,.t 17]]))
 (.seq (.cut [1,3] (.drw [(zL 19 64 3,[]),(zL 20 85 1,[]),(zC 21 59 [.t 20,.c (.s [112,116,114])],[zL 19 64 3]),(zN 22 19,[]),(zF 23 69 22 2,[]),(zS 4 23 21,[])]))
 (.seq (.cut [1,3] (.drw [(zL 24 64 3,[]),(zL 25 85 1,[]),(zC 26 60 [.t 25],[zL 24 64 3]),(zN 27 24,[]),(zF 28 69 27 3,[]),(zS 67 28 26,[])]))
 (.seq (.reg [zL 29 64 3,zV 2 29])
 .ret))))))))
def F26:AF:=⟨30,[.t 2],c26⟩
def c27:AC:=(.seq (.reg [zo 6 (.mv (.c (.b false)))])
 (.seq (.seq (.cut [0,1,2] (.reg [zV 7 0,zo 8 (.bin .eql 22 (.t 7) (.c (.p0))),zV 9 8,o9 10 9 1,fO 11 9 (.bin .eql 22 (.t 10) (.c (.p0))),zo 12 (.pick (.t 9) (.c (.b true)) (.t 11))]))
 (.cond (.t 12)
 (.seq (.cut [0,1] (.reg [zV 13 0,zo 14 (.bin .eql 22 (.t 13) (.c (.p0))),zV 15 14,iy 16 15 1,bD 17 15 (.bin .eql 22 (.t 16) (.c (.p0))),zo 18 (.pick (.t 15) (.t 17) (.c (.b false))),zV 6 18]))
 .ret)
 .skip))
 (.seq (.cut [0,1,2] (.reg [zV 19 2,zV 20 0,zV 21 1,zo 22 (.call (.t 19) [.t 20,.t 21]),zV 6 22]))
 .ret)))
def F27:AF:=⟨23,[.t 6],c27⟩
def c28:AC:=(.seq (.reg [zo 4 (.mv (.c (.b false)))])
 (.seq (.cut [0,1] (.drw [(zV 5 0,[]),(zN 6 5,[]),(zF 7 60 6 0,[]),(zL 8 58 7,[]),(zV 9 1,[]),(zN 10 9,[]),(zF 11 60 10 0,[]),(zL 12 58 11,[]),(zC 13 29 [.t 8,.t 12,.c (.fn (.func 30) [] [])],[]),(zV 4 13,[])]))
 .ret))
def F28:AF:=⟨14,[.t 4],c28⟩
def aaf:AC:=(.seq (.reg [zB 18 .lss 3 17 16])
 (.seq (.cond (.t 18)
 .skip
 (.exit 0))
 (.seq (.blk 1
 (.seq (.cut [1,2,15,16,17] (.reg [zV 19 17,zo 20 (.iad 58 (.t 15) (.t 17)),zL 21 64 20,zV 7 19,zV 8 21]))
 (.seq (.cut [1,2,7,8,15,16,17] (.reg [zV 22 1,zV 23 7,zo 24 (.iad 58 (.t 22) (.t 23)),zL 25 64 24,zV 9 25]))
 (.seq (.cut [1,2,8,9,15,16,17] (.reg [zV 26 2,zV 27 8,zV 28 9,zo 29 (.call (.t 26) [.t 27,.t 28]),zo 30 (.un .not (.t 29))]))
 (.cond (.t 30)
 (.seq (.reg [zo 6 (.mv (.c (.b false)))])
 .ret)
 .skip)))))
 (.reg [zD 31 .add 3 17 1,zV 17 31]))))
def c29:AC:=(.seq (.reg [zo 6 (.mv (.c (.b false)))])
 (.seq (.seq (.cut [0,1,2] (.reg [zV 10 0,zo 11 (.len 58 (.t 10)),zV 12 1,zo 13 (.len 58 (.t 12)),zB 14 .neq 3 11 13]))
 (.cond (.t 14)
 (.seq (.reg [zo 6 (.mv (.c (.b false)))])
 .ret)
 .skip))
 (.seq (.seq (.cut [0,1,2] (.reg [zV 15 0,zo 16 (.len 58 (.t 15)),zo 17 (.mv (.c (.i .i64 0)))]))
 (.blk 0
 (.loop [1,2,15,16,17] aaf)))
 (.seq (.reg [zo 6 (.mv (.c (.b true)))])
 .ret))))
def Yi:AF:=⟨32,[.t 6],c29⟩
def c30:AC:=(.seq (.reg [zo 4 (.mv (.c (.b false)))])
 (.seq (.cut [0,1] (.reg [zV 5 0,zV 6 1,zC 7 61 [.t 5,.t 6,.c (.fn (.func 62) [] [])],zV 4 7]))
 .ret))
def F30:AF:=⟨8,[.t 4],c30⟩
def c31:AC:=(.seq (.reg [zo 4 (.mv (.c (.s []))),zo 5 (.mv (.c (.b false)))])
 (.seq (.cut [0,1] (.reg [zV 6 0,zV 7 1,zC 8 66 [.t 6,.t 7],zE 9 8 0,zE 10 8 1,zV 4 9,zV 5 10]))
 .ret))
def F31:AF:=⟨11,[.t 4,.t 5],c31⟩
def c32:AC:=(.seq (.reg [zo 4 (.mv (.c (.s []))),zo 5 (.mv (.c (.b false)))])
 (.seq (.cut [0,1] (.reg [zV 6 0,zV 7 1,zC 8 67 [.t 6,.t 7],zE 9 8 0,zE 10 8 1,zV 4 9,zV 5 10]))
 .ret))
def F32:AF:=⟨11,[.t 4,.t 5],c32⟩
def aag:AC:=(.seq (.reg [zB 9 .lss 3 8 7])
 (.seq (.cond (.t 9)
 .skip
 (.exit 0))
 (.seq (.blk 1
 (.seq (.cut [0,6,7,8] (.reg [zo 10 (.iad 116 (.t 6) (.t 8)),zL 11 9 10,zV 5 11]))
 (.cut [0,5,6,7,8] (.reg [zV 12 0,zN 13 12,zF 14 79 13 0,zV 15 5,zC 16 78 [.t 14,.t 15]]))))
 (.reg [zD 17 .add 3 8 1,zV 8 17]))))
def c44:AC:=(.seq (.cut [0,1] (.reg [zV 6 1,zo 7 (.len 116 (.t 6)),zo 8 (.mv (.c (.i .i64 0)))]))
 (.blk 0
 (.loop [0,6,7,8] aag)))
def F44:AF:=⟨18,[],c44⟩
def aah:AC:=(.seq (.reg [zB 19 .lss 3 18 17])
 (.seq (.cond (.t 19)
 .skip
 (.exit 0))
 (.seq (.blk 1
 (.seq (.cut [0,16,17,18] (.reg [zo 20 (.iad 67 (.t 16) (.t 18)),zL 21 96 20,zV 5 21]))
 (.seq (.reg [zV 22 0,zC 23 79 [.t 22]])
 (.seq (.cut [0,5,16,17,18] (.reg [zV 24 0,zV 25 5,zC 26 80 [.t 24,.t 25]]))
 (.cut [0,16,17,18] (.reg [zV 27 0,zo 28 (.bsl 116 1 [(0,.c (.s [10]))]),zC 29 44 [.t 27,.t 28]]))))))
 (.reg [zD 30 .add 3 18 1,zV 18 30]))))
def c45:AC:=(.seq (.cut [0,1] (.reg [zV 6 0,zo 7 (.bsl 116 1 [(0,.c (.s [32,123,10]))]),zC 8 44 [.t 6,.t 7]]))
 (.seq (.cut [0,1] (.reg [zV 9 0,zN 10 9,zF 11 79 10 1,zL 12 3 11,zD 13 .add 3 12 1,zN 14 9,zF 15 79 14 1,zS 3 15 13]))
 (.seq (.seq (.cut [0,1] (.reg [zV 16 1,zo 17 (.len 67 (.t 16)),zo 18 (.mv (.c (.i .i64 0)))]))
 (.blk 0
 (.loop [0,16,17,18] aah)))
 (.seq (.cut [0] (.reg [zV 31 0,zN 32 31,zF 33 79 32 1,zL 34 3 33,zD 35 .sub 3 34 1,zN 36 31,zF 37 79 36 1,zS 3 37 35]))
 (.seq (.reg [zV 38 0,zC 39 79 [.t 38]])
 (.cut [0] (.reg [zV 40 0,zo 41 (.bsl 116 1 [(0,.c (.s [125]))]),zC 42 44 [.t 40,.t 41]])))))))
def F45:AF:=⟨43,[],c45⟩
def c46:AC:=(.seq (.cut [0,1,2,3,4] (.drw [(zL 7 51 2,[]),(zV 8 0,[]),(zL 9 9 3,[]),(zV 10 1,[]),(zo 11 (.slc 9 (.t 9) none (some (.t 10))),[]),(zL 12 3 4,[]),(zo 13 (.build 62 [(0,.t 8),(1,.t 11),(2,.t 12)]),[]),(zo 14 (.bsl 51 1 [(0,.t 13)]),[zL 7 51 2]),(zo 15 (.app 51 false (.t 7) (.t 14)),[]),(zS 51 2 15,[])]))
 (.cut [1,3] (.reg [zL 16 9 3,zV 17 1,zo 18 (.slc 9 (.t 16) (some (.t 17)) none),zS 9 3 18])))
def F46:AF:=⟨19,[],c46⟩
def c47:AC:=(.seq (.reg [zo 4 (.mv (.c (.b false)))])
 (.seq (.cut [0,1] (.reg [zV 5 0,zV 6 1,zC 7 81 [.t 5,.t 6],zV 4 7]))
 .ret))
def F47:AF:=⟨8,[.t 4],c47⟩
def c49:AC:=(.seq (.reg [zo 2 (.mv (.c (.i .i64 0)))])
 (.seq (.blk 0
 (.seq (.cut [0] (.reg [zV 4 0,zo 5 (.bin .eql 21 (.t 4) (.c (.i .i32 32))),zV 6 5,o9 7 6 0,fO 8 6 (.bin .eql 21 (.t 7) (.c (.i .i32 9))),zo 9 (.pick (.t 6) (.c (.b true)) (.t 8)),zV 10 9,o9 11 10 0,fO 12 10 (.bin .eql 21 (.t 11) (.c (.i .i32 13))),zo 13 (.pick (.t 10) (.c (.b true)) (.t 12)),zV 14 13,o9 15 14 0,fO 16 14 (.bin .eql 21 (.t 15) (.c (.i .i32 10))),zo 17 (.pick (.t 14) (.c (.b true)) (.t 16)),zV 3 17]))
 (.cond (.t 3)
 (.seq (.reg [zo 2 (.mv (.c (.i .i64 1)))])
 .ret)
 (.seq (.cut [0] (.reg [zV 19 0,zo 20 (.bin .geq 21 (.t 19) (.c (.i .i32 97))),zV 21 20,iy 22 21 0,bD 23 21 (.bin .leq 21 (.t 22) (.c (.i .i32 122))),zo 24 (.pick (.t 21) (.t 23) (.c (.b false))),zV 25 24,o9 26 25 0,fO 27 25 (.bin .geq 21 (.t 26) (.c (.i .i32 65))),o9 28 25 27,iy 29 28 0,bD 30 28 (.bin .leq 21 (.t 29) (.c (.i .i32 90))),fO 31 25 (.pick (.t 28) (.t 30) (.c (.b false))),zo 32 (.pick (.t 25) (.c (.b true)) (.t 31)),zV 33 32,o9 34 33 0,fO 35 33 (.bin .eql 21 (.t 34) (.c (.i .i32 95))),zo 36 (.pick (.t 33) (.c (.b true)) (.t 35)),zV 18 36]))
 (.cut [1000000,0,18] (.cond (.t 18)
 (.seq (.reg [zo 2 (.mv (.c (.i .i64 2)))])
 .ret)
 (.seq (.cut [0] (.reg [zV 38 0,zo 39 (.bin .geq 21 (.t 38) (.c (.i .i32 48))),zV 40 39,iy 41 40 0,bD 42 40 (.bin .leq 21 (.t 41) (.c (.i .i32 57))),zo 43 (.pick (.t 40) (.t 42) (.c (.b false))),zV 37 43]))
 (.cond (.t 37)
 (.seq (.reg [zo 2 (.mv (.c (.i .i64 3)))])
 .ret)
 (.seq (.cut [0] (.reg [zV 45 0,zo 46 (.conv 21 5 (.t 45)),zC 47 48 [.c (.s [40,41,123,125,91,93,44,59,58,61,60,62,43,45,124,94,38,42,47,37,33]),.t 46],zD 48 .geq 3 47 0,zV 49 48,iy 50 49 0,bD 51 49 (.bin .lss 21 (.t 50) (.c (.i .i32 128))),zo 52 (.pick (.t 49) (.t 51) (.c (.b false))),zV 44 52]))
 (.cond (.t 44)
 (.seq (.reg [zo 2 (.mv (.c (.i .i64 4)))])
 .ret)
 .skip))))))))))
 (.seq (.reg [zo 2 (.mv (.c (.i .i64 0)))])
 .ret)))
def F49:AF:=⟨53,[.t 2],c49⟩
def aai:AC:=(.seq (.reg [zo 9 (.nxt (.t 8)),zE 10 9 0])
 (.seq (.cond (.t 10)
 .skip
 (.exit 0))
 (.blk 1
 (.seq (.cut [0,1,8,9] (.reg [zE 11 9 1,zE 12 9 2,zV 5 11,zV 6 12]))
 (.seq (.cut [0,1,5,6,8] (.reg [zV 13 1,zV 14 6,zC 15 49 [.t 14],zC 16 83 [.t 13,.t 15],zo 17 (.un .not (.t 16))]))
 (.cond (.t 17)
 (.seq (.reg [zV 18 5,zV 4 18])
 .ret)
 .skip))))))
def c50:AC:=(.seq (.reg [zo 4 (.mv (.c (.i .i64 0)))])
 (.seq (.seq (.reg [zV 7 0,zo 8 (.rng 9 (.t 7))])
 (.blk 0
 (.loop [0,1,8] aai)))
 (.seq (.cut [0] (.reg [zV 19 0,zo 20 (.len 9 (.t 19)),zV 4 20]))
 .ret)))
def F50:AF:=⟨21,[.t 4],c50⟩
def c51:AC:=(.seq (.reg [zo 4 (.mv (.c (.b false)))])
 (.seq (.cut [0,1] (.reg [zV 5 0,zV 6 1,zC 7 84 [.t 5,.t 6],zD 8 .geq 3 7 0,zV 4 8]))
 .ret))
def F51:AF:=⟨9,[.t 4],c51⟩
def c52:AC:=(.seq (.reg [zo 0 (.mv (.c (.sl0)))])
 (.seq (.reg [zC 1 85 [.c (.s [102,117,110,99,32,118,97,114,32,112,116,114,32,105,102,32,101,108,115,101,32,119,104,105,108,101,32,111,117,116,32,102,114,101,101,32,100,114,97,105,110,32,114,101,116,117,114,110,32,110,101,119,32,105,110])],zV 0 1])
 .ret))
def F52:AF:=⟨2,[.t 0],c52⟩
def c54:AC:=(.seq (.reg [zo 2 (.mv (.c (.b false)))])
 (.seq (.cut [0] (.drw [(zV 3 0,[]),(zo 4 (.len 9 (.t 3)),[]),(zD 5 .geq 3 4 2,[]),(zV 6 5,[]),(iy 8 6 0,[]),(bD 9 6 (.slc 9 (.t 8) none (some (.c (.i .i64 2)))),[]),(bD 7 6 (.call (.c (.fn (.func 85) [] [])) [.c (.s [124,124,32,38,38,32,61,61,32,33,61,32,60,61,32,62,61,32,60,60,32,62,62])]),[bD 9 6 (.slc 9 (.t 8) none (some (.c (.i .i64 2))))]),(bD 10 6 (.call (.c (.fn (.func 51) [] [])) [.t 7,.t 9]),[]),(zo 11 (.pick (.t 6) (.t 10) (.c (.b false))),[]),(zV 2 11,[])]))
 .ret))
def F54:AF:=⟨12,[.t 2],c54⟩
def c55:AC:=(.seq (.cut [0,1] (.reg [zV 4 0,zV 5 1,zC 6 59 [.t 4,.t 5],zo 7 (.un .not (.t 6))]))
 (.cond (.t 7)
 (.reg [zV 8 0,zC 9 88 [.t 8,.c (.i .i64 4)]])
 .skip))
def F55:AF:=⟨10,[],c55⟩
def c56:AC:=(.seq (.reg [zo 2 (.mv (.c (.s [])))])
 (.seq (.cut [0] (.reg [zV 4 0,zC 5 25 [.t 4],zo 3 (.alloc 62),zS 62 3 5]))
 (.seq (.seq (.cut [0,3] (.reg [zV 6 0,zC 7 24 [.t 6],zV 8 7,fO 9 8 (.fad 62 (.t 3) 0),fO 10 8 (.load 3 (.t 9)),fO 11 8 (.bin .neq 3 (.t 10) (.c (.i .i64 1))),zo 12 (.pick (.t 8) (.c (.b true)) (.t 11))]))
 (.cond (.t 12)
 (.seq (.reg [zV 13 0,zC 14 88 [.t 13,.c (.i .i64 4)]])
 (.seq (.reg [zo 2 (.mv (.c (.s [])))])
 .ret))
 .skip))
 (.seq (.reg [zV 15 0,zC 16 89 [.t 15]])
 (.seq (.cut [3] (.reg [zF 17 62 3 1,zL 18 9 17,zV 2 18]))
 .ret)))))
def F56:AF:=⟨19,[.t 2],c56⟩
def c57:AC:=(.seq (.reg [zo 2 (.box 85 (.t 0)),zo 3 (.box 1 (.t 1))])
 (.cut [2,3] (.reg [zL 4 85 2,zo 5 (.mkf (.func 91) [] [.t 2,.t 3]),zC 6 90 [.t 4,.c (.s [40]),.t 5]])))
def F57:AF:=⟨7,[],c57⟩
def c58:AC:=(.seq (.cut [0,1] (.reg [zL 3 85 0,zC 4 56 [.t 3],zo 5 (.build 71 [(0,.t 4)]),zo 2 (.alloc 71),zS 71 2 5]))
 (.seq (.cut [0,1,2] (.reg [zL 6 85 0,zC 7 59 [.t 6,.c (.s [112,116,114])],zF 8 71 2 1,zS 4 8 7]))
 (.cut [1,2] (.drw [(zL 9 64 1,[]),(zL 10 64 1,[]),(zN 11 10,[]),(zF 12 69 11 1,[]),(zL 13 66 12,[]),(zL 14 71 2,[]),(zo 15 (.bsl 66 1 [(0,.t 14)]),[zL 9 64 1,zL 10 64 1,zL 13 66 12]),(zo 16 (.app 66 false (.t 13) (.t 15)),[zL 9 64 1]),(zN 17 9,[]),(zF 18 69 17 1,[]),(zS 66 18 16,[])]))))
def F58:AF:=⟨19,[],c58⟩
def c59:AC:=(.seq (.reg [zo 4 (.mv (.c (.b false)))])
 (.seq (.seq (.cut [0,1] (.reg [zV 5 0,zV 6 1,zo 7 (.bsl 116 1 [(0,.t 6)]),zC 8 92 [.t 5,.t 7],zo 9 (.un .not (.t 8))]))
 (.cond (.t 9)
 (.seq (.reg [zo 4 (.mv (.c (.b false)))])
 .ret)
 .skip))
 (.seq (.reg [zV 10 0,zC 11 89 [.t 10]])
 (.seq (.reg [zo 4 (.mv (.c (.b true)))])
 .ret))))
def F59:AF:=⟨12,[.t 4],c59⟩
def c60:AC:=(.seq (.reg [zo 1 (.box 85 (.t 0)),zo 2 (.alloc 67)])
 (.seq (.cut [1,2] (.reg [zL 3 85 1,zo 4 (.mkf (.func 93) [] [.t 1,.t 2]),zC 5 90 [.t 3,.c (.s [123]),.t 4]]))
 (.seq (.reg [zL 6 67 2,zS 67 2 6])
 .ret)))
def F60:AF:=⟨7,[.cell 2 67],c60⟩
def c61:AC:=(.seq (.reg [zo 6 (.mv (.c (.b false)))])
 (.seq (.seq (.cut [0,1,2] (.reg [zV 7 0,zo 8 (.bin .eql 64 (.t 7) (.c (.p0))),zV 9 8,o9 10 9 1,fO 11 9 (.bin .eql 64 (.t 10) (.c (.p0))),zo 12 (.pick (.t 9) (.c (.b true)) (.t 11))]))
 (.cond (.t 12)
 (.seq (.cut [0,1] (.reg [zV 13 0,zo 14 (.bin .eql 64 (.t 13) (.c (.p0))),zV 15 14,iy 16 15 1,bD 17 15 (.bin .eql 64 (.t 16) (.c (.p0))),zo 18 (.pick (.t 15) (.t 17) (.c (.b false))),zV 6 18]))
 .ret)
 .skip))
 (.seq (.cut [0,1,2] (.reg [zV 19 2,zV 20 0,zV 21 1,zo 22 (.call (.t 19) [.t 20,.t 21]),zV 6 22]))
 .ret)))
def F61:AF:=⟨23,[.t 6],c61⟩
def c62:AC:=(.seq (.reg [zo 4 (.mv (.c (.b false)))])
 (.seq (.cut [0,1] (.drw [(zV 5 0,[]),(zN 6 5,[]),(zF 7 69 6 0,[]),(zL 8 9 7,[]),(zV 9 1,[]),(zN 10 9,[]),(zF 11 69 10 0,[]),(zL 12 9 11,[]),(zB 13 .eql 9 8 12,[]),(zV 14 13,[]),(iy 15 14 0,[]),(bD 16 14 (.nilck (.t 15)),[]),(bD 17 14 (.fad 69 (.t 16) 2),[]),(bD 18 14 (.load 4 (.t 17)),[]),(iy 19 14 1,[]),(bD 20 14 (.nilck (.t 19)),[]),(bD 21 14 (.fad 69 (.t 20) 2),[]),(bD 22 14 (.load 4 (.t 21)),[]),(bD 23 14 (.bin .eql 4 (.t 18) (.t 22)),[]),(zo 24 (.pick (.t 14) (.t 23) (.c (.b false))),[]),(zV 25 24,[]),(iy 26 25 0,[]),(bD 27 25 (.nilck (.t 26)),[]),(bD 28 25 (.fad 69 (.t 27) 1),[]),(bD 29 25 (.load 66 (.t 28)),[]),(iy 30 25 1,[]),(bD 31 25 (.nilck (.t 30)),[]),(bD 32 25 (.fad 69 (.t 31) 1),[]),(bD 33 25 (.load 66 (.t 32)),[]),(bD 34 25 (.call (.c (.fn (.func 63) [] [])) [.t 29,.t 33]),[]),(zo 35 (.pick (.t 25) (.t 34) (.c (.b false))),[]),(zV 36 35,[]),(iy 37 36 0,[]),(bD 38 36 (.nilck (.t 37)),[]),(bD 39 36 (.fad 69 (.t 38) 3),[]),(bD 40 36 (.load 67 (.t 39)),[]),(iy 41 36 1,[]),(bD 42 36 (.nilck (.t 41)),[]),(bD 43 36 (.fad 69 (.t 42) 3),[]),(bD 44 36 (.load 67 (.t 43)),[]),(bD 45 36 (.call (.c (.fn (.func 64) [] [])) [.t 40,.t 44,.c (.fn (.func 65) [] [])]),[]),(zo 46 (.pick (.t 36) (.t 45) (.c (.b false))),[]),(zV 4 46,[])]))
 (.cut [1000000,4] .ret)))
def F62:AF:=⟨47,[.t 4],c62⟩
def aaj:AC:=(.seq (.reg [zB 14 .lss 3 13 12])
 (.seq (.cond (.t 14)
 .skip
 (.exit 0))
 (.seq (.blk 1
 (.seq (.reg [zV 15 13,zV 5 15])
 (.seq (.cut [0,1,5,12,13] (.drw [(zV 16 0,[]),(zV 17 5,[]),(zo 18 (.iad 66 (.t 16) (.t 17)),[]),(zL 19 71 18,[]),(zV 20 1,[]),(zV 21 5,[]),(zo 22 (.iad 66 (.t 20) (.t 21)),[]),(zL 23 71 22,[]),(zB 24 .neq 71 19 23,[])]))
 (.cond (.t 24)
 (.seq (.reg [zo 4 (.mv (.c (.b false)))])
 .ret)
 .skip))))
 (.reg [zD 25 .add 3 13 1,zV 13 25]))))
def c63:AC:=(.seq (.reg [zo 4 (.mv (.c (.b false)))])
 (.seq (.seq (.cut [0,1] (.reg [zV 6 0,zo 7 (.len 66 (.t 6)),zV 8 1,zo 9 (.len 66 (.t 8)),zB 10 .neq 3 7 9]))
 (.cond (.t 10)
 (.seq (.reg [zo 4 (.mv (.c (.b false)))])
 .ret)
 .skip))
 (.seq (.seq (.cut [0,1] (.reg [zV 11 0,zo 12 (.len 66 (.t 11)),zo 13 (.mv (.c (.i .i64 0)))]))
 (.blk 0
 (.loop [0,1,12,13] aaj)))
 (.seq (.reg [zo 4 (.mv (.c (.b true)))])
 .ret))))
def Yj:AF:=⟨26,[.t 4],c63⟩
def aak:AC:=(.seq (.reg [zB 18 .lss 3 17 16])
 (.seq (.cond (.t 18)
 .skip
 (.exit 0))
 (.seq (.blk 1
 (.seq (.cut [1,2,15,16,17] (.reg [zV 19 17,zo 20 (.iad 67 (.t 15) (.t 17)),zL 21 96 20,zV 7 19,zV 8 21]))
 (.seq (.cut [1,2,7,8,15,16,17] (.reg [zV 22 1,zV 23 7,zo 24 (.iad 67 (.t 22) (.t 23)),zL 25 96 24,zV 9 25]))
 (.seq (.cut [1,2,8,9,15,16,17] (.reg [zV 26 2,zV 27 8,zV 28 9,zo 29 (.call (.t 26) [.t 27,.t 28]),zo 30 (.un .not (.t 29))]))
 (.cond (.t 30)
 (.seq (.reg [zo 6 (.mv (.c (.b false)))])
 .ret)
 .skip)))))
 (.reg [zD 31 .add 3 17 1,zV 17 31]))))
def c64:AC:=(.seq (.reg [zo 6 (.mv (.c (.b false)))])
 (.seq (.seq (.cut [0,1,2] (.reg [zV 10 0,zo 11 (.len 67 (.t 10)),zV 12 1,zo 13 (.len 67 (.t 12)),zB 14 .neq 3 11 13]))
 (.cond (.t 14)
 (.seq (.reg [zo 6 (.mv (.c (.b false)))])
 .ret)
 .skip))
 (.seq (.seq (.cut [0,1,2] (.reg [zV 15 0,zo 16 (.len 67 (.t 15)),zo 17 (.mv (.c (.i .i64 0)))]))
 (.blk 0
 (.loop [1,2,15,16,17] aak)))
 (.seq (.reg [zo 6 (.mv (.c (.b true)))])
 .ret))))
def Yk:AF:=⟨32,[.t 6],c64⟩
def c65:AC:=(.seq (.reg [zo 4 (.mv (.c (.b false)))])
 (.seq (.cut [0,1] (.reg [zV 5 0,zV 6 1,zC 7 95 [.t 5,.t 6,.c (.fn (.func 96) [] [])],zV 4 7]))
 .ret))
def F65:AF:=⟨8,[.t 4],c65⟩
def c66:AC:=(.seq (.reg [zo 4 (.mv (.c (.s []))),zo 5 (.mv (.c (.b false)))])
 (.seq (.seq (.cut [0,1] (.reg [zV 6 0,zV 7 1,zC 8 81 [.t 6,.t 7],zo 9 (.un .not (.t 8))]))
 (.cond (.t 9)
 (.seq (.cut [0] (.reg [zV 10 0,zV 4 10,zo 5 (.mv (.c (.b false)))]))
 .ret)
 .skip))
 (.seq (.cut [0,1] (.reg [zV 11 0,zV 12 1,zo 13 (.len 9 (.t 12)),zo 14 (.slc 9 (.t 11) (some (.t 13)) none),zV 4 14,zo 5 (.mv (.c (.b true)))]))
 .ret)))
def F66:AF:=⟨15,[.t 4,.t 5],c66⟩
def c67:AC:=(.seq (.reg [zo 4 (.mv (.c (.s []))),zo 5 (.mv (.c (.b false)))])
 (.seq (.seq (.cut [0,1] (.reg [zV 6 0,zV 7 1,zC 8 98 [.t 6,.t 7],zo 9 (.un .not (.t 8))]))
 (.cond (.t 9)
 (.seq (.cut [0] (.reg [zV 10 0,zV 4 10,zo 5 (.mv (.c (.b false)))]))
 .ret)
 .skip))
 (.seq (.cut [0,1] (.reg [zV 11 0,zV 12 0,zo 13 (.len 9 (.t 12)),zV 14 1,zo 15 (.len 9 (.t 14)),zB 16 .sub 3 13 15,zo 17 (.slc 9 (.t 11) none (some (.t 16))),zV 4 17,zo 5 (.mv (.c (.b true)))]))
 .ret)))
def F67:AF:=⟨18,[.t 4,.t 5],c67⟩
def c78:AC:=(.seq (.reg [zo 4 (.mv (.c (.i .i64 0))),zo 5 (.mv (.c (.ic0)))])
 (.seq (.reg [zV 6 0,zC 7 106 [.t 6]])
 (.seq (.cut [0,1] (.reg [zV 8 0,zV 9 0,zN 10 9,zF 11 77 10 1,zL 12 75 11,zV 13 1,zo 14 (.app 75 true (.t 12) (.t 13)),zN 15 8,zF 16 77 15 1,zS 75 16 14]))
 (.seq (.cut [1] (.reg [zV 17 1,zo 18 (.len 9 (.t 17)),zV 4 18,zo 5 (.mv (.c (.ic0)))]))
 .ret))))
def F78:AF:=⟨19,[.t 4,.t 5],c78⟩
def c79:AC:=(.cut [0] (.reg [zV 2 0,zV 3 0,zN 4 3,zF 5 79 4 1,zL 6 3 5,zC 7 107 [.c (.s [9]),.t 6],zo 8 (.bsl 116 1 [(0,.t 7)]),zC 9 44 [.t 2,.t 8]]))
def F79:AF:=⟨10,[],c79⟩
def c80:AC:=(.seq (.seq (.reg [zV 4 1,zo 5 (.bin .eql 96 (.t 4) (.c (.p0)))])
 (.cond (.t 5)
 (.seq (.cut [0] (.reg [zV 6 0,zN 7 6,zF 8 79 7 2,zn (.store 4 (.t 8) (.c (.b true)))]))
 .ret)
 .skip))
 (.seq (.cut [0,1] (.reg [zV 9 1,zN 10 9,zF 11 95 10 0,zL 12 3 11]))
 (.blk 0
 (.seq (.reg [zD 17 .eql 3 12 1,zV 16 17])
 (.cond (.t 16)
 (.seq (.cut [0,1] (.reg [zV 18 0,zV 19 1,zN 20 19,zF 21 95 20 1,zL 22 9 21,zo 23 (.bsl 116 2 [(0,.c (.s [118,97,114,32])),(1,.t 22)]),zC 24 44 [.t 18,.t 23]]))
 (.seq (.seq (.cut [0,1] (.reg [zV 25 1,zN 26 25,zF 27 95 26 2,zL 28 4 27]))
 (.cond (.t 28)
 (.cut [0,1] (.reg [zV 29 0,zo 30 (.bsl 116 1 [(0,.c (.s [32,112,116,114]))]),zC 31 44 [.t 29,.t 30]]))
 .skip))
 (.cut [1000000,0,1] (.seq (.seq (.cut [0,1] (.reg [zV 32 1,zN 33 32,zF 34 95 33 4,zL 35 44 34,zo 36 (.bin .eql 44 (.t 35) (.c (.p0)))]))
 (.cond (.t 36)
 (.seq (.cut [0] (.reg [zV 37 0,zo 38 (.bsl 116 1 [(0,.c (.s [59]))]),zC 39 44 [.t 37,.t 38]]))
 .ret)
 .skip))
 (.cut [0,1] (.reg [zV 40 0,zV 41 1,zN 42 41,zF 43 95 42 4,zL 44 44 43,zC 45 108 [.t 40,.c (.s [32,61,32]),.t 44]]))))))
 (.seq (.reg [zD 47 .eql 3 12 2,zV 46 47])
 (.cond (.t 46)
 (.cut [0,1] (.drw [(zV 48 0,[]),(zV 49 1,[]),(zN 50 49,[]),(zF 51 95 50 1,[]),(zL 52 9 51,[]),(zo 53 (.bin .add 9 (.t 52) (.c (.s [32,61,32]))),[]),(zV 54 1,[]),(zN 55 54,[]),(zF 56 95 55 4,[]),(zL 57 44 56,[]),(zC 58 108 [.t 48,.t 53,.t 57],[])]))
 (.seq (.reg [zD 60 .eql 3 12 3,zV 59 60])
 (.cond (.t 59)
 (.seq (.cut [0,1] (.reg [zV 61 0,zV 62 1,zN 63 62,zF 64 95 63 3,zL 65 44 64,zC 66 109 [.t 61,.t 65,.c (.i .i64 8)]]))
 (.cut [0,1] (.reg [zV 67 0,zV 68 1,zN 69 68,zF 70 95 69 4,zL 71 44 70,zC 72 108 [.t 67,.c (.s [32,61,32]),.t 71]])))
 (.seq (.reg [zD 74 .eql 3 12 4,zV 73 74])
 (.cond (.t 73)
 (.cut [0,1] (.reg [zV 75 0,zV 76 1,zC 77 110 [.t 75,.t 76]]))
 (.seq (.reg [zD 79 .eql 3 12 5,zV 78 79])
 (.cut [1000000,0,1,12,78] (.cond (.t 78)
 (.seq (.cut [0,1] (.reg [zV 80 0,zo 81 (.bsl 116 1 [(0,.c (.s [119,104,105,108,101,32]))]),zC 82 44 [.t 80,.t 81]]))
 (.seq (.cut [0,1] (.reg [zV 83 0,zV 84 1,zN 85 84,zF 86 95 85 4,zL 87 44 86,zC 88 109 [.t 83,.t 87,.c (.i .i64 1)]]))
 (.cut [0,1] (.reg [zV 89 0,zV 90 1,zN 91 90,zF 92 95 91 5,zL 93 67 92,zC 94 45 [.t 89,.t 93]]))))
 (.seq (.reg [zD 96 .eql 3 12 6,zV 95 96])
 (.cond (.t 95)
 (.cut [0,1] (.reg [zV 97 0,zV 98 1,zN 99 98,zF 100 95 99 4,zL 101 44 100,zC 102 108 [.t 97,.c (.s [111,117,116,32]),.t 101]]))
 (.seq (.reg [zD 104 .eql 3 12 7,zV 103 104])
 (.cond (.t 103)
 (.cut [0,1] (.reg [zV 105 0,zV 106 1,zN 107 106,zF 108 95 107 4,zL 109 44 108,zC 110 108 [.t 105,.c (.s [102,114,101,101,32]),.t 109]]))
 (.seq (.reg [zD 112 .eql 3 12 8,zV 111 112])
 (.cond (.t 111)
 (.cut [0] (.reg [zV 113 0,zo 114 (.bsl 116 1 [(0,.c (.s [100,114,97,105,110,59]))]),zC 115 44 [.t 113,.t 114]]))
 (.seq (.reg [zD 117 .eql 3 12 9,zV 116 117])
 (.cond (.t 116)
 (.seq (.seq (.cut [0,1] (.reg [zV 118 1,zN 119 118,zF 120 95 119 4,zL 121 44 120,zo 122 (.bin .eql 44 (.t 121) (.c (.p0)))]))
 (.cond (.t 122)
 (.seq (.cut [0] (.reg [zV 123 0,zo 124 (.bsl 116 1 [(0,.c (.s [114,101,116,117,114,110,59]))]),zC 125 44 [.t 123,.t 124]]))
 .ret)
 .skip))
 (.cut [0,1] (.reg [zV 126 0,zV 127 1,zN 128 127,zF 129 95 128 4,zL 130 44 129,zC 131 108 [.t 126,.c (.s [114,101,116,117,114,110,32]),.t 130]])))
 (.seq (.reg [zD 133 .eql 3 12 10,zV 132 133])
 (.cond (.t 132)
 (.cut [0,1] (.reg [zV 134 0,zV 135 1,zN 136 135,zF 137 95 136 4,zL 138 44 137,zC 139 108 [.t 134,.c (.s []),.t 138]]))
 (.cut [0] (.reg [zV 13 0,zN 14 13,zF 15 79 14 2,zn (.store 4 (.t 15) (.c (.b true)))]))))))))))))))))))))))))))
def Nj:AF:=⟨140,[],c80⟩
def c81:AC:=(.seq (.reg [zo 4 (.mv (.c (.b false)))])
 (.seq (.cut [0,1] (.reg [zV 5 0,zo 6 (.len 9 (.t 5)),zV 7 1,zo 8 (.len 9 (.t 7)),zB 9 .geq 3 6 8,zV 10 9,iy 11 10 0,iy 12 10 1,bD 13 10 (.len 9 (.t 12)),bD 14 10 (.slc 9 (.t 11) none (some (.t 13))),iy 15 10 1,bD 16 10 (.bin .eql 9 (.t 14) (.t 15)),zo 17 (.pick (.t 10) (.t 16) (.c (.b false))),zV 4 17]))
 .ret))
def F81:AF:=⟨18,[.t 4],c81⟩
def c83:AC:=(.seq (.reg [zo 4 (.mv (.c (.b false)))])
 (.seq (.cut [0,1] (.reg [zV 5 0,zV 6 1,zC 7 112 [.t 5,.t 6],zD 8 .geq 3 7 0,zV 4 8]))
 .ret))
def F83:AF:=⟨9,[.t 4],c83⟩
def aal:AC:=(.seq (.reg [zB 9 .lss 3 8 7])
 (.seq (.cond (.t 9)
 .skip
 (.exit 0))
 (.seq (.blk 1
 (.seq (.reg [zV 10 8,zV 5 10])
 (.seq (.cut [0,1,5,7,8] (.reg [zV 11 1,zV 12 0,zV 13 5,zo 14 (.iad 116 (.t 12) (.t 13)),zL 15 9 14,zB 16 .eql 9 11 15]))
 (.cond (.t 16)
 (.seq (.reg [zV 17 5,zV 4 17])
 .ret)
 .skip))))
 (.reg [zD 18 .add 3 8 1,zV 8 18]))))
def c84:AC:=(.seq (.reg [zo 4 (.mv (.c (.i .i64 0)))])
 (.seq (.seq (.cut [0,1] (.reg [zV 6 0,zo 7 (.len 116 (.t 6)),zo 8 (.mv (.c (.i .i64 0)))]))
 (.blk 0
 (.loop [0,1,7,8] aal)))
 (.seq (.reg [zo 4 (.mv (.c (.i .i64 (-1))))])
 .ret)))
def F84:AF:=⟨19,[.t 4],c84⟩
def c85L0:AC:=(.seq (.seq (.cut [0,3,4,5,6] (.reg [zV 13 6,zV 14 0,zo 15 (.len 9 (.t 14)),zB 16 .lss 3 13 15]))
 (.cond (.t 16)
 .skip
 (.exit 0)))
 (.seq (.blk 1
 (.seq (.cut [0,3,4,5,6] (.reg [zV 19 0,zV 20 6,zo 21 (.idx 9 (.t 19) (.t 20)),zV 7 21]))
 (.seq (.cut [0,3,4,5,6,7] (.reg [zV 22 5,zV 23 7,zB 24 .or 5 22 23,zV 5 24]))
 (.seq (.cut [0,3,4,5,6,7] (.reg [zV 25 7,zo 26 (.iad 152 (.c (.p 0 0 0)) (.t 25)),zL 27 5 26,zo 28 (.conv 5 3 (.t 27)),zV 8 28]))
 (.seq (.cut [0,3,4,5,6,8] (.reg [zV 29 3,zV 30 4,zV 31 8,zo 32 (.un .xor (.t 31)),zB 33 .and 3 30 32,zB 34 .add 3 29 33,zV 3 34]))
 (.reg [zV 35 8,zV 4 35]))))))
 (.cut [0,3,4,5,6] (.reg [zV 17 6,zD 18 .add 3 17 1,zV 6 18]))))
def c85L1:AC:=(.seq (.seq (.cut [0,9,10,12] (.reg [zV 42 12,zV 43 0,zo 44 (.len 9 (.t 43)),zB 45 .lss 3 42 44,zV 46 45,iy 47 46 0,iy 48 46 12,bD 49 46 (.idx 9 (.t 47) (.t 48)),bD 50 46 (.iad 152 (.c (.p 0 0 0)) (.t 49)),bD 51 46 (.load 5 (.t 50)),bD 52 46 (.bin .neq 5 (.t 51) (.c (.i .u8 0))),zo 53 (.pick (.t 46) (.t 52) (.c (.b false)))]))
 (.cond (.t 53)
 .skip
 (.exit 2)))
 (.blk 3
 (.cut [0,9,10,12] (.reg [zV 54 12,zD 55 .add 3 54 1,zV 12 55]))))
def c85L2:AC:=(.seq (.seq (.cut [0,9,10,12] (.reg [zV 80 12,zV 81 0,zo 82 (.len 9 (.t 81)),zB 83 .lss 3 80 82,zV 84 83,iy 85 84 0,iy 86 84 12,bD 87 84 (.idx 9 (.t 85) (.t 86)),bD 88 84 (.iad 152 (.c (.p 0 0 0)) (.t 87)),bD 89 84 (.load 5 (.t 88)),bD 90 84 (.bin .neq 5 (.t 89) (.c (.i .u8 0))),zo 91 (.pick (.t 84) (.t 90) (.c (.b false)))]))
 (.cond (.t 91)
 .skip
 (.exit 6)))
 (.blk 7
 (.cut [0,9,10,12] (.reg [zV 92 12,zD 93 .add 3 92 1,zV 12 93]))))
def c85L3:AC:=(.seq (.seq (.cut [0,9,10,11,12] (.reg [zV 57 12,zV 58 0,zo 59 (.len 9 (.t 58)),zB 60 .lss 3 57 59]))
 (.cond (.t 60)
 .skip
 (.exit 4)))
 (.blk 5
 (.seq (.seq (.cut [0,9,10,11,12] (.reg [zV 61 0,zV 62 12,zo 63 (.idx 9 (.t 61) (.t 62)),zo 64 (.iad 152 (.c (.p 0 0 0)) (.t 63)),zL 65 5 64,zo 66 (.bin .eql 5 (.t 65) (.c (.i .u8 0)))]))
 (.cond (.t 66)
 (.seq (.cut [0,9,10,11,12] (.reg [zV 67 12,zD 68 .add 3 67 1,zV 12 68]))
 (.exit 5))
 .skip))
 (.seq (.cut [0,9,10,11,12] (.reg [zV 69 9,zV 70 10,zV 71 0,zV 72 11,zV 73 12,zo 74 (.slc 9 (.t 71) (some (.t 72)) (some (.t 73))),zo 75 (.iad 116 (.t 69) (.t 70)),zS 9 75 74]))
 (.seq (.cut [0,9,10,12] (.reg [zV 76 10,zD 77 .add 3 76 1,zV 10 77]))
 (.seq (.cut [0,9,10,12] (.reg [zV 78 12,zD 79 .add 3 78 1,zV 12 79]))
 (.seq (.blk 6
 (.loop [0,9,10,12] c85L2))
 (.reg [zV 94 12,zV 11 94]))))))))
def c85:AC:=(.seq (.reg [zo 2 (.mv (.c (.sl0)))])
 (.seq (.reg [zo 3 (.mv (.c (.i .i64 0)))])
 (.seq (.reg [zo 4 (.mv (.c (.i .i64 1)))])
 (.seq (.reg [zo 5 (.mv (.c (.i .u8 0)))])
 (.seq (.seq (.reg [zo 6 (.mv (.c (.i .i64 0)))])
 (.blk 0
 (.loop [0,3,4,5,6] c85L0)))
 (.cut [1000000,0,3,5] (.seq (.seq (.reg [zV 36 5,zo 37 (.bin .geq 5 (.t 36) (.c (.i .u8 128)))])
 (.cond (.t 37)
 (.seq (.cut [0] (.reg [zV 38 0,zC 39 113 [.t 38,.c (.fn (.func 114) [] [])],zV 2 39]))
 .ret)
 .skip))
 (.seq (.cut [0,3] (.reg [zV 40 3,zo 41 (.mks 116 (.t 40) (.t 40)),zV 9 41]))
 (.seq (.reg [zo 10 (.mv (.c (.i .i64 0)))])
 (.seq (.reg [zo 11 (.mv (.c (.i .i64 0)))])
 (.seq (.reg [zo 12 (.mv (.c (.i .i64 0)))])
 (.seq (.blk 2
 (.loop [0,9,10,12] c85L1))
 (.seq (.reg [zV 56 12,zV 11 56])
 (.seq (.blk 4
 (.loop [0,9,10,11,12] c85L3))
 (.seq (.seq (.cut [0,9,10,11] (.reg [zV 95 11,zV 96 0,zo 97 (.len 9 (.t 96)),zB 98 .lss 3 95 97]))
 (.cond (.t 98)
 (.cut [0,9,10,11] (.reg [zV 99 9,zV 100 10,zV 101 0,zV 102 11,zo 103 (.slc 9 (.t 101) (some (.t 102)) none),zo 104 (.iad 116 (.t 99) (.t 100)),zS 9 104 103]))
 .skip))
 (.seq (.reg [zV 105 9,zV 2 105])
 .ret))))))))))))))))
def F85:AF:=⟨106,[.t 2],c85⟩
def c88:AC:=(.seq (.cut [0,1] (.reg [zV 4 0,zC 5 24 [.t 4],zo 6 (.un .not (.t 5))]))
 (.cond (.t 6)
 (.cut [0,1] (.reg [zV 7 0,zV 8 1,zV 9 0,zC 10 25 [.t 9],zo 11 (.fld 62 (.t 10) 2),zo 12 (.build 25 [(0,.t 8),(1,.t 11)]),zo 13 (.box 25 (.t 12)),zN 14 7,zF 15 88 14 2,zS 86 15 13]))
 .skip))
def F88:AF:=⟨16,[],c88⟩
def c89:AC:=(.seq (.cut [0] (.reg [zV 2 0,zN 3 2,zF 4 88 3 0,zL 5 51 4,zo 6 (.len 51 (.t 5)),zD 7 .gtr 3 6 1]))
 (.cond (.t 7)
 (.cut [0] (.reg [zV 8 0,zV 9 0,zN 10 9,zF 11 88 10 0,zL 12 51 11,zo 13 (.slc 51 (.t 12) (some (.c (.i .i64 1))) none),zN 14 8,zF 15 88 14 0,zS 51 15 13]))
 .skip))
def F89:AF:=⟨16,[],c89⟩
def c90:AC:=(.seq (.seq (.cut [0,1,2] (.reg [zV 6 0,zV 7 1,zo 8 (.bsl 116 1 [(0,.t 7)]),zC 9 92 [.t 6,.t 8],zV 10 9,iy 11 10 0,bD 12 10 (.nilck (.t 11)),bD 13 10 (.fad 88 (.t 12) 1),bD 14 10 (.load 3 (.t 13)),bD 15 10 (.bin .geq 3 (.t 14) (.c (.i .i64 64))),zo 16 (.pick (.t 10) (.t 15) (.c (.b false)))]))
 (.cond (.t 16)
 (.reg [zV 17 0,zC 18 88 [.t 17,.c (.i .i64 3)]])
 .skip))
 (.cut [1000000,0,1,2] (.seq (.cut [0,1,2] (.reg [zV 19 0,zV 20 1,zC 21 55 [.t 19,.t 20]]))
 (.seq (.cut [0,2] (.reg [zV 22 0,zN 23 22,zF 24 88 23 1,zL 25 3 24,zD 26 .add 3 25 1,zN 27 22,zF 28 88 27 1,zS 3 28 26]))
 (.seq (.reg [zV 29 2,zo 30 (.call (.t 29) [])])
 (.cut [0] (.reg [zV 31 0,zN 32 31,zF 33 88 32 1,zL 34 3 33,zD 35 .sub 3 34 1,zN 36 31,zF 37 88 36 1,zS 3 37 35])))))))
def F90:AF:=⟨38,[],c90⟩
def Bz:AC:=(.seq (.seq (.cut [0,1,2] (.reg [zL 3 85 0,zC 4 24 [.t 3],zo 5 (.un .not (.t 4)),zV 6 5,bD 7 6 (.load 85 (.t 0)),bD 8 6 (.bsl 116 1 [(0,.c (.s [41]))]),bD 9 6 (.call (.c (.fn (.func 92) [] [])) [.t 7,.t 8]),bD 10 6 (.un .not (.t 9)),zo 11 (.pick (.t 6) (.t 10) (.c (.b false)))]))
 (.cond (.t 11)
 .skip
 (.exit 0)))
 (.seq (.blk 1
 (.seq (.seq (.reg [zV 12 2,zo 13 (.un .not (.t 12))])
 (.cond (.t 13)
 (.reg [zL 14 85 0,zC 15 55 [.t 14,.c (.s [44])]])
 .skip))
 (.reg [zL 16 1 1,zo 17 (.call (.t 16) [])])))
 (.reg [zo 2 (.mv (.c (.b false)))])))
def c91:AC:=(.seq (.seq (.reg [zo 2 (.mv (.c (.b true)))])
 (.blk 0
 (.loop [0,1,2] Bz)))
 (.reg [zL 18 85 0,zC 19 55 [.t 18,.c (.s [41])]]))
def F91:AF:=⟨20,[],c91⟩
def c92:AC:=(.seq (.reg [zo 4 (.mv (.c (.b false)))])
 (.seq (.cut [0,1] (.reg [zV 6 0,zC 7 25 [.t 6],zo 5 (.alloc 62),zS 62 5 7]))
 (.seq (.cut [0,1,5] (.reg [zV 8 0,zC 9 24 [.t 8],zo 10 (.un .not (.t 9)),zV 11 10,bD 12 11 (.fad 62 (.t 5) 0),bD 13 11 (.load 3 (.t 12)),bD 14 11 (.bin .eql 3 (.t 13) (.c (.i .i64 4))),iy 15 11 14,fO 16 15 (.fad 62 (.t 5) 0),fO 17 15 (.load 3 (.t 16)),fO 18 15 (.bin .eql 3 (.t 17) (.c (.i .i64 3))),bD 19 11 (.pick (.t 15) (.c (.b true)) (.t 18)),zo 20 (.pick (.t 11) (.t 19) (.c (.b false))),zV 21 20,iy 22 21 1,bD 23 21 (.fad 62 (.t 5) 1),bD 24 21 (.load 9 (.t 23)),bD 25 21 (.call (.c (.fn (.func 51) [] [])) [.t 22,.t 24]),zo 26 (.pick (.t 21) (.t 25) (.c (.b false))),zV 4 26]))
 .ret)))
def F92:AF:=⟨27,[.t 4],c92⟩
def T_:AC:=(.seq (.seq (.cut [0,1] (.reg [zL 2 85 0,zC 3 24 [.t 2],zo 4 (.un .not (.t 3)),zV 5 4,bD 6 5 (.load 85 (.t 0)),bD 7 5 (.bsl 116 1 [(0,.c (.s [125]))]),bD 8 5 (.call (.c (.fn (.func 92) [] [])) [.t 6,.t 7]),bD 9 5 (.un .not (.t 8)),zo 10 (.pick (.t 5) (.t 9) (.c (.b false)))]))
 (.cond (.t 10)
 .skip
 (.exit 0)))
 (.blk 1
 (.cut [0,1] (.drw [(zL 11 67 1,[]),(zL 12 85 0,[]),(zC 13 94 [.t 12],[zL 11 67 1]),(zo 14 (.bsl 67 1 [(0,.t 13)]),[zL 11 67 1]),(zo 15 (.app 67 false (.t 11) (.t 14)),[]),(zS 67 1 15,[])]))))
def c93:AC:=(.seq (.blk 0
 (.loop [0,1] T_))
 (.reg [zL 16 85 0,zC 17 55 [.t 16,.c (.s [125])]]))
def F93:AF:=⟨18,[],c93⟩
def c94:AC:=(.seq (.reg [zo 1 (.box 85 (.t 0)),zo 2 (.mv (.c (.p0)))])
 (.seq (.cut [1] (.reg [zL 8 85 1,zC 9 25 [.t 8],zo 3 (.alloc 62),zS 62 3 9]))
 (.seq (.cut [1,3] (.reg [zF 10 62 3 2,zL 11 3 10,zo 12 (.build 95 [(7,.t 11)]),zo 13 (.box 95 (.t 12)),zo 4 (.alloc 96),zS 96 4 13]))
 (.seq (.reg [zo 14 (.mkf (.func 121) [] [.t 4,.t 1]),zV 5 14])
 (.seq (.seq (.cut [1,3,4,5] (.reg [zF 15 62 3 0,zL 16 3 15,zD 17 .eql 3 16 4,zV 18 17,bD 19 18 (.load 85 (.t 1)),bD 20 18 (.call (.c (.fn (.func 24) [] [])) [.t 19]),bD 21 18 (.un .not (.t 20)),zo 22 (.pick (.t 18) (.t 21) (.c (.b false))),zV 23 22,bD 24 23 (.fad 62 (.t 3) 1),bD 25 23 (.load 9 (.t 24)),bD 26 23 (.bin .neq 9 (.t 25) (.c (.s [110,101,119]))),zo 27 (.pick (.t 23) (.t 26) (.c (.b false))),zV 28 27,bD 29 28 (.fad 62 (.t 3) 1),bD 30 28 (.load 9 (.t 29)),bD 31 28 (.bin .neq 9 (.t 30) (.c (.s [105,110]))),zo 32 (.pick (.t 28) (.t 31) (.c (.b false)))]))
 (.cut [1000000,1,3,4,5,32] (.cond (.t 32)
 (.seq (.reg [zL 33 85 1,zC 34 89 [.t 33]])
 (.seq (.seq (.reg [zF 35 62 3 1,zL 36 9 35])
 (.blk 0
 (.seq (.reg [zo 38 (.bin .eql 9 (.t 36) (.c (.s [118,97,114]))),zV 37 38])
 (.cond (.t 37)
 (.seq (.cut [1,4,5] (.drw [(zL 39 96 4,[]),(zL 40 96 4,[]),(zL 41 85 1,[]),(zC 42 56 [.t 41],[zL 39 96 4,zL 40 96 4]),(zN 43 39,[]),(zF 44 95 43 0,[]),(zn (.store 3 (.t 44) (.c (.i .i64 1))),[zL 40 96 4]),(zN 45 40,[]),(zF 46 95 45 1,[]),(zS 9 46 42,[])]))
 (.seq (.cut [1,4,5] (.drw [(zL 47 96 4,[]),(zL 48 85 1,[]),(zC 49 59 [.t 48,.c (.s [112,116,114])],[zL 47 96 4]),(zN 50 47,[]),(zF 51 95 50 2,[]),(zS 4 51 49,[])]))
 (.seq (.seq (.reg [zL 52 85 1,zC 53 59 [.t 52,.c (.s [61])]])
 (.cond (.t 53)
 (.seq (.cut [5] (.reg [zV 54 5,zo 55 (.call (.t 54) [.c (.i .i64 1)]),zV 2 55]))
 .ret)
 .skip))
 (.seq (.reg [zL 56 85 1,zC 57 55 [.t 56,.c (.s [59])]])
 (.seq (.reg [zL 58 96 4,zV 2 58])
 .ret)))))
 (.seq (.reg [zo 60 (.bin .eql 9 (.t 36) (.c (.s [105,102]))),zV 59 60])
 (.cond (.t 59)
 (.seq (.cut [1,3] (.reg [zL 61 85 1,zF 62 62 3 2,zL 63 3 62,zC 64 123 [.t 61,.t 63],zV 2 64]))
 .ret)
 (.seq (.reg [zo 66 (.bin .eql 9 (.t 36) (.c (.s [119,104,105,108,101]))),zV 65 66])
 (.cond (.t 65)
 (.seq (.cut [1,4] (.drw [(zL 67 96 4,[]),(zL 68 96 4,[]),(zL 69 85 1,[]),(zC 70 122 [.t 69,.c (.i .i64 1)],[zL 67 96 4,zL 68 96 4]),(zN 71 67,[]),(zF 72 95 71 0,[]),(zn (.store 3 (.t 72) (.c (.i .i64 5))),[zL 68 96 4]),(zN 73 68,[]),(zF 74 95 73 4,[]),(zS 44 74 70,[])]))
 (.seq (.cut [1,4] (.drw [(zL 75 96 4,[]),(zL 76 85 1,[]),(zC 77 60 [.t 76],[zL 75 96 4]),(zN 78 75,[]),(zF 79 95 78 5,[]),(zS 67 79 77,[])]))
 (.seq (.reg [zL 80 96 4,zV 2 80])
 .ret)))
 (.seq (.reg [zo 82 (.bin .eql 9 (.t 36) (.c (.s [111,117,116]))),zV 81 82])
 (.cond (.t 81)
 (.seq (.cut [5] (.reg [zV 83 5,zo 84 (.call (.t 83) [.c (.i .i64 6)]),zV 2 84]))
 .ret)
 (.seq (.reg [zo 86 (.bin .eql 9 (.t 36) (.c (.s [102,114,101,101]))),zV 85 86])
 (.cond (.t 85)
 (.seq (.cut [5] (.reg [zV 87 5,zo 88 (.call (.t 87) [.c (.i .i64 7)]),zV 2 88]))
 .ret)
 (.seq (.reg [zo 90 (.bin .eql 9 (.t 36) (.c (.s [100,114,97,105,110]))),zV 89 90])
 (.cond (.t 89)
 (.seq (.cut [1,4] (.reg [zL 91 96 4,zN 92 91,zF 93 95 92 0,zn (.store 3 (.t 93) (.c (.i .i64 8)))]))
 (.seq (.reg [zL 94 85 1,zC 95 55 [.t 94,.c (.s [59])]])
 (.seq (.reg [zL 96 96 4,zV 2 96])
 .ret)))
 (.seq (.reg [zo 98 (.bin .eql 9 (.t 36) (.c (.s [114,101,116,117,114,110]))),zV 97 98])
 (.cut [1000000,1,3,4,5,97] (.cond (.t 97)
 (.seq (.seq (.reg [zL 99 85 1,zC 100 59 [.t 99,.c (.s [59])]])
 (.cond (.t 100)
 (.seq (.cut [4] (.reg [zL 101 96 4,zN 102 101,zF 103 95 102 0,zn (.store 3 (.t 103) (.c (.i .i64 9)))]))
 (.seq (.reg [zL 104 96 4,zV 2 104])
 .ret))
 .skip))
 (.seq (.cut [5] (.reg [zV 105 5,zo 106 (.call (.t 105) [.c (.i .i64 9)]),zV 2 106]))
 .ret))
 .skip)))))))))))))))))
 (.cut [1000000,1,3,4] (.seq (.cut [1,3,4] (.drw [(zL 107 85 1,[]),(zL 108 62 3,[]),(zL 110 85 1,[]),(zN 111 110,[]),(zF 112 88 111 0,[]),(zL 113 51 112,[]),(zo 109 (.bsl 51 1 [(0,.t 108)]),[zL 107 85 1,zL 110 85 1,zL 113 51 112]),(zo 114 (.app 51 false (.t 109) (.t 113)),[zL 107 85 1]),(zN 115 107,[]),(zF 116 88 115 0,[]),(zS 51 116 114,[])]))
 (.seq (.reg [zL 117 85 1,zC 118 88 [.t 117,.c (.i .i64 4)]])
 (.seq (.reg [zL 119 96 4,zV 2 119])
 .ret))))))
 .skip)))
 (.seq (.cut [1,4,5] (.reg [zL 120 85 1,zC 121 124 [.t 120],zV 6 121]))
 (.seq (.seq (.cut [1,4,5,6] (.reg [zL 122 85 1,zo 123 (.bsl 116 1 [(0,.c (.s [61]))]),zC 124 92 [.t 122,.t 123],zV 7 124]))
 (.blk 1
 (.seq (.cut [1,4,5,6,7] (.reg [zL 128 85 1,zC 129 24 [.t 128],zV 127 129]))
 (.cut [1000000,1,4,5,6,7,127] (.cond (.t 127)
 .skip
 (.seq (.cut [1,4,5,6,7] (.reg [zV 131 7,zo 132 (.un .not (.t 131)),zV 133 132,iy 134 133 6,bD 135 133 (.nilck (.t 134)),bD 136 133 (.fad 48 (.t 135) 0),bD 137 133 (.load 3 (.t 136)),bD 138 133 (.bin .eql 3 (.t 137) (.c (.i .i64 4))),zo 139 (.pick (.t 133) (.t 138) (.c (.b false))),zV 130 139]))
 (.cond (.t 130)
 (.seq (.cut [1,4,6] (.drw [(zL 140 96 4,[]),(zL 141 96 4,[]),(zV 142 6,[]),(zN 143 140,[]),(zF 144 95 143 0,[]),(zn (.store 3 (.t 144) (.c (.i .i64 10))),[zL 141 96 4]),(zN 145 141,[]),(zF 146 95 145 4,[]),(zS 44 146 142,[])]))
 (.reg [zL 147 85 1,zC 148 55 [.t 147,.c (.s [59])]]))
 (.seq (.cut [1,4,5,6,7] (.reg [zV 150 7,zV 151 150,iy 152 151 6,bD 153 151 (.nilck (.t 152)),bD 154 151 (.fad 48 (.t 153) 0),bD 155 151 (.load 3 (.t 154)),bD 156 151 (.bin .eql 3 (.t 155) (.c (.i .i64 2))),zo 157 (.pick (.t 151) (.t 156) (.c (.b false))),zV 149 157]))
 (.cond (.t 149)
 (.seq (.reg [zL 158 85 1,zC 159 89 [.t 158]])
 (.seq (.cut [4,5,6] (.drw [(zL 160 96 4,[]),(zV 161 6,[]),(zN 162 161,[]),(zF 163 48 162 2,[]),(zL 164 9 163,[]),(zN 165 160,[]),(zF 166 95 165 1,[]),(zS 9 166 164,[])]))
 (.seq (.cut [5] (.reg [zV 167 5,zo 168 (.call (.t 167) [.c (.i .i64 2)]),zV 2 168]))
 .ret)))
 (.seq (.cut [1,4,5,6,7] (.reg [zV 170 7,zV 171 170,iy 172 171 6,bD 173 171 (.nilck (.t 172)),bD 174 171 (.fad 48 (.t 173) 0),bD 175 171 (.load 3 (.t 174)),bD 176 171 (.bin .eql 3 (.t 175) (.c (.i .i64 5))),iy 177 171 176,o9 178 177 6,fO 179 177 (.nilck (.t 178)),fO 180 177 (.fad 48 (.t 179) 0),fO 181 177 (.load 3 (.t 180)),fO 182 177 (.bin .eql 3 (.t 181) (.c (.i .i64 6))),bD 183 171 (.pick (.t 177) (.c (.b true)) (.t 182)),zo 184 (.pick (.t 171) (.t 183) (.c (.b false))),zV 169 184]))
 (.cut [1000000,1,4,5,6,169] (.cond (.t 169)
 (.seq (.reg [zL 185 85 1,zC 186 89 [.t 185]])
 (.seq (.cut [4,5,6] (.reg [zL 187 96 4,zV 188 6,zN 189 187,zF 190 95 189 3,zS 44 190 188]))
 (.seq (.cut [5] (.reg [zV 191 5,zo 192 (.call (.t 191) [.c (.i .i64 3)]),zV 2 192]))
 .ret)))
 (.reg [zL 125 85 1,zC 126 88 [.t 125,.c (.i .i64 4)]])))))))))))))
 (.seq (.reg [zL 193 96 4,zV 2 193])
 .ret))))))))
def F94:AF:=⟨194,[.t 2],c94⟩
def c95:AC:=(.seq (.reg [zo 6 (.mv (.c (.b false)))])
 (.seq (.seq (.cut [0,1,2] (.reg [zV 7 0,zo 8 (.bin .eql 96 (.t 7) (.c (.p0))),zV 9 8,o9 10 9 1,fO 11 9 (.bin .eql 96 (.t 10) (.c (.p0))),zo 12 (.pick (.t 9) (.c (.b true)) (.t 11))]))
 (.cond (.t 12)
 (.seq (.cut [0,1] (.reg [zV 13 0,zo 14 (.bin .eql 96 (.t 13) (.c (.p0))),zV 15 14,iy 16 15 1,bD 17 15 (.bin .eql 96 (.t 16) (.c (.p0))),zo 18 (.pick (.t 15) (.t 17) (.c (.b false))),zV 6 18]))
 .ret)
 .skip))
 (.seq (.cut [0,1,2] (.reg [zV 19 2,zV 20 0,zV 21 1,zo 22 (.call (.t 19) [.t 20,.t 21]),zV 6 22]))
 .ret)))
def F95:AF:=⟨23,[.t 6],c95⟩
def c96:AC:=(.seq (.reg [zo 4 (.mv (.c (.b false)))])
 (.seq (.cut [0,1] (.drw [(zV 6 0,[]),(zN 7 6,[]),(zF 8 95 7 0,[]),(zL 9 3 8,[]),(zV 10 1,[]),(zN 11 10,[]),(zF 12 95 11 0,[]),(zL 13 3 12,[]),(zB 14 .eql 3 9 13,[]),(zV 15 14,[]),(iy 16 15 0,[]),(bD 17 15 (.nilck (.t 16)),[]),(bD 18 15 (.fad 95 (.t 17) 1),[]),(bD 19 15 (.load 9 (.t 18)),[]),(iy 20 15 1,[]),(bD 21 15 (.nilck (.t 20)),[]),(bD 22 15 (.fad 95 (.t 21) 1),[]),(bD 23 15 (.load 9 (.t 22)),[]),(bD 24 15 (.bin .eql 9 (.t 19) (.t 23)),[]),(zo 25 (.pick (.t 15) (.t 24) (.c (.b false))),[]),(zV 26 25,[]),(iy 27 26 0,[]),(bD 28 26 (.nilck (.t 27)),[]),(bD 29 26 (.fad 95 (.t 28) 2),[]),(bD 30 26 (.load 4 (.t 29)),[]),(iy 31 26 1,[]),(bD 32 26 (.nilck (.t 31)),[]),(bD 33 26 (.fad 95 (.t 32) 2),[]),(bD 34 26 (.load 4 (.t 33)),[]),(bD 35 26 (.bin .eql 4 (.t 30) (.t 34)),[]),(zo 36 (.pick (.t 26) (.t 35) (.c (.b false))),[]),(zV 5 36,[])]))
 (.cut [1000000,0,1,5] (.seq (.cut [0,1,5] (.drw [(zV 37 5,[]),(zV 38 37,[]),(iy 39 38 0,[]),(bD 40 38 (.nilck (.t 39)),[]),(bD 41 38 (.fad 95 (.t 40) 3),[]),(bD 42 38 (.load 44 (.t 41)),[]),(iy 43 38 1,[]),(bD 44 38 (.nilck (.t 43)),[]),(bD 45 38 (.fad 95 (.t 44) 3),[]),(bD 46 38 (.load 44 (.t 45)),[]),(bD 47 38 (.call (.c (.fn (.func 97) [] [])) [.t 42,.t 46]),[]),(zo 48 (.pick (.t 38) (.t 47) (.c (.b false))),[]),(zV 49 48,[]),(iy 50 49 0,[]),(bD 51 49 (.nilck (.t 50)),[]),(bD 52 49 (.fad 95 (.t 51) 4),[]),(bD 53 49 (.load 44 (.t 52)),[]),(iy 54 49 1,[]),(bD 55 49 (.nilck (.t 54)),[]),(bD 56 49 (.fad 95 (.t 55) 4),[]),(bD 57 49 (.load 44 (.t 56)),[]),(bD 58 49 (.call (.c (.fn (.func 97) [] [])) [.t 53,.t 57]),[]),(zo 59 (.pick (.t 49) (.t 58) (.c (.b false))),[]),(zV 60 59,[]),(iy 61 60 0,[]),(bD 62 60 (.nilck (.t 61)),[]),(bD 63 60 (.fad 95 (.t 62) 5),[]),(bD 64 60 (.load 67 (.t 63)),[]),(iy 65 60 1,[]),(bD 66 60 (.nilck (.t 65)),[]),(bD 67 60 (.fad 95 (.t 66) 5),[]),(bD 68 60 (.load 67 (.t 67)),[]),(bD 69 60 (.call (.c (.fn (.func 64) [] [])) [.t 64,.t 68,.c (.fn (.func 65) [] [])]),[]),(zo 70 (.pick (.t 60) (.t 69) (.c (.b false))),[]),(zV 71 70,[]),(iy 72 71 0,[]),(bD 73 71 (.nilck (.t 72)),[]),(bD 74 71 (.fad 95 (.t 73) 6),[]),(bD 75 71 (.load 67 (.t 74)),[]),(iy 76 71 1,[]),(bD 77 71 (.nilck (.t 76)),[]),(bD 78 71 (.fad 95 (.t 77) 6),[]),(bD 79 71 (.load 67 (.t 78)),[]),(bD 80 71 (.call (.c (.fn (.func 64) [] [])) [.t 75,.t 79,.c (.fn (.func 65) [] [])]),[]),(zo 81 (.pick (.t 71) (.t 80) (.c (.b false))),[]),(zV 4 81,[])]))
 (.cut [1000000,4] .ret)))))
def F96:AF:=⟨82,[.t 4],c96⟩
def c97:AC:=(.seq (.reg [zo 4 (.mv (.c (.b false)))])
 (.seq (.cut [0,1] (.reg [zV 5 0,zV 6 1,zC 7 125 [.t 5,.t 6,.c (.fn (.func 126) [] [])],zV 4 7]))
 .ret))
def F97:AF:=⟨8,[.t 4],c97⟩
def c98:AC:=(.seq (.reg [zo 4 (.mv (.c (.b false)))])
 (.seq (.cut [0,1] (.reg [zV 5 0,zo 6 (.len 9 (.t 5)),zV 7 1,zo 8 (.len 9 (.t 7)),zB 9 .geq 3 6 8,zV 10 9,iy 11 10 0,iy 12 10 0,bD 13 10 (.len 9 (.t 12)),iy 14 10 1,bD 15 10 (.len 9 (.t 14)),bD 16 10 (.bin .sub 3 (.t 13) (.t 15)),bD 17 10 (.slc 9 (.t 11) (some (.t 16)) none),iy 18 10 1,bD 19 10 (.bin .eql 9 (.t 17) (.t 18)),zo 20 (.pick (.t 10) (.t 19) (.c (.b false))),zV 4 20]))
 .ret))
def F98:AF:=⟨21,[.t 4],c98⟩
def c108:AC:=(.seq (.cut [0,1,2] (.reg [zV 6 0,zV 7 1,zo 8 (.bsl 116 1 [(0,.t 7)]),zC 9 44 [.t 6,.t 8]]))
 (.seq (.cut [0,2] (.reg [zV 10 0,zV 11 2,zC 12 109 [.t 10,.t 11,.c (.i .i64 1)]]))
 (.cut [0] (.reg [zV 13 0,zo 14 (.bsl 116 1 [(0,.c (.s [59]))]),zC 15 44 [.t 13,.t 14]]))))
def F108:AF:=⟨16,[],c108⟩
def NJ:AC:=(.seq (.reg [zB 55 .lss 3 54 53])
 (.seq (.cond (.t 55)
 .skip
 (.exit 1))
 (.seq (.blk 2
 (.seq (.cut [0,52,53,54] (.reg [zV 56 54,zo 57 (.iad 46 (.t 52) (.t 54)),zL 58 44 57,zV 6 56,zV 7 58]))
 (.seq (.seq (.reg [zV 59 6,zD 60 .gtr 3 59 0])
 (.cond (.t 60)
 (.cut [0,7,52,53,54] (.reg [zV 61 0,zo 62 (.bsl 116 1 [(0,.c (.s [44,32]))]),zC 63 44 [.t 61,.t 62]]))
 .skip))
 (.cut [1000000,0,7,52,53,54] (.cut [0,7,52,53,54] (.reg [zV 64 0,zV 65 7,zC 66 109 [.t 64,.t 65,.c (.i .i64 1)]]))))))
 (.reg [zD 67 .add 3 54 1,zV 54 67]))))
def c109:AC:=(.seq (.seq (.reg [zV 8 1,zo 9 (.bin .eql 44 (.t 8) (.c (.p0)))])
 (.cond (.t 9)
 (.seq (.cut [0] (.reg [zV 10 0,zN 11 10,zF 12 79 11 2,zn (.store 4 (.t 12) (.c (.b true)))]))
 .ret)
 .skip))
 (.seq (.cut [0,1,2] (.reg [zV 13 1,zN 14 13,zF 15 48 14 0,zL 16 3 15]))
 (.blk 0
 (.seq (.reg [zD 21 .eql 3 16 1,zV 20 21])
 (.cond (.t 20)
 (.cut [0,1] (.reg [zV 22 0,zV 23 1,zN 24 23,zF 25 48 24 1,zL 26 39 25,zo 27 (.conv 39 118 (.t 26)),zC 28 135 [.t 27,.c (.i .i64 10)],zo 29 (.bsl 116 1 [(0,.t 28)]),zC 30 44 [.t 22,.t 29]]))
 (.seq (.reg [zD 32 .eql 3 16 2,zV 31 32])
 (.cond (.t 31)
 (.cut [0,1] (.reg [zV 33 0,zV 34 1,zN 35 34,zF 36 48 35 2,zL 37 9 36,zo 38 (.bsl 116 1 [(0,.t 37)]),zC 39 44 [.t 33,.t 38]]))
 (.seq (.reg [zD 41 .eql 3 16 4,zV 40 41])
 (.cond (.t 40)
 (.seq (.cut [0,1] (.reg [zV 42 0,zV 43 1,zN 44 43,zF 45 48 44 2,zL 46 9 45,zo 47 (.bsl 116 2 [(0,.t 46),(1,.c (.s [40]))]),zC 48 44 [.t 42,.t 47]]))
 (.seq (.seq (.cut [0,1] (.reg [zV 49 1,zN 50 49,zF 51 48 50 6,zL 52 46 51,zo 53 (.len 46 (.t 52)),zo 54 (.mv (.c (.i .i64 0)))]))
 (.blk 1
 (.loop [0,52,53,54] NJ)))
 (.cut [0] (.reg [zV 68 0,zo 69 (.bsl 116 1 [(0,.c (.s [41]))]),zC 70 44 [.t 68,.t 69]]))))
 (.seq (.reg [zD 72 .eql 3 16 5,zV 71 72])
 (.cond (.t 71)
 (.seq (.cut [0,1] (.reg [zV 73 0,zV 74 1,zN 75 74,zF 76 48 75 4,zL 77 44 76,zC 78 109 [.t 73,.t 77,.c (.i .i64 8)]]))
 (.cut [1000000,0,1] (.seq (.cut [0,1] (.reg [zV 79 0,zo 80 (.bsl 116 1 [(0,.c (.s [91]))]),zC 81 44 [.t 79,.t 80]]))
 (.seq (.cut [0,1] (.reg [zV 82 0,zV 83 1,zN 84 83,zF 85 48 84 5,zL 86 44 85,zC 87 109 [.t 82,.t 86,.c (.i .i64 1)]]))
 (.cut [0] (.reg [zV 88 0,zo 89 (.bsl 116 1 [(0,.c (.s [93]))]),zC 90 44 [.t 88,.t 89]]))))))
 (.seq (.reg [zD 92 .eql 3 16 6,zV 91 92])
 (.cut [1000000,0,1,2,16,91] (.cond (.t 91)
 (.seq (.cut [0,1] (.reg [zV 93 0,zV 94 1,zN 95 94,zF 96 48 95 4,zL 97 44 96,zC 98 109 [.t 93,.t 97,.c (.i .i64 8)]]))
 (.seq (.cut [0,1] (.reg [zV 99 0,zo 100 (.bsl 116 1 [(0,.c (.s [58]))]),zC 101 44 [.t 99,.t 100]]))
 (.seq (.seq (.cut [0,1] (.reg [zV 102 1,zN 103 102,zF 104 48 103 5,zL 105 44 104,zo 106 (.bin .neq 44 (.t 105) (.c (.p0))),zV 107 106,iy 108 107 1,bD 109 107 (.nilck (.t 108)),bD 110 107 (.fad 48 (.t 109) 5),bD 111 107 (.load 44 (.t 110)),bD 112 107 (.nilck (.t 111)),bD 113 107 (.fad 48 (.t 112) 0),bD 114 107 (.load 3 (.t 113)),bD 115 107 (.bin .eql 3 (.t 114) (.c (.i .i64 1))),iy 116 107 115,o9 117 116 1,fO 118 116 (.nilck (.t 117)),fO 119 116 (.fad 48 (.t 118) 5),fO 120 116 (.load 44 (.t 119)),fO 121 116 (.nilck (.t 120)),fO 122 116 (.fad 48 (.t 121) 0),fO 123 116 (.load 3 (.t 122)),fO 124 116 (.bin .eql 3 (.t 123) (.c (.i .i64 2))),bD 125 107 (.pick (.t 116) (.c (.b true)) (.t 124)),zo 126 (.pick (.t 107) (.t 125) (.c (.b false)))]))
 (.cut [1000000,0,1,126] (.cond (.t 126)
 (.seq (.cut [0,1] (.reg [zV 127 0,zV 128 1,zN 129 128,zF 130 48 129 5,zL 131 44 130,zC 132 109 [.t 127,.t 131,.c (.i .i64 8)]]))
 .ret)
 .skip)))
 (.seq (.cut [0,1] (.reg [zV 133 0,zo 134 (.bsl 116 1 [(0,.c (.s [40]))]),zC 135 44 [.t 133,.t 134]]))
 (.seq (.cut [0,1] (.reg [zV 136 0,zV 137 1,zN 138 137,zF 139 48 138 5,zL 140 44 139,zC 141 109 [.t 136,.t 140,.c (.i .i64 1)]]))
 (.cut [0] (.reg [zV 142 0,zo 143 (.bsl 116 1 [(0,.c (.s [41]))]),zC 144 44 [.t 142,.t 143]])))))))
 (.seq (.reg [zD 146 .eql 3 16 7,zV 145 146])
 (.cond (.t 145)
 (.seq (.cut [0,1] (.reg [zV 147 0,zo 148 (.bsl 116 1 [(0,.c (.s [110,101,119,40]))]),zC 149 44 [.t 147,.t 148]]))
 (.seq (.cut [0,1] (.reg [zV 150 0,zV 151 1,zN 152 151,zF 153 48 152 4,zL 154 44 153,zC 155 109 [.t 150,.t 154,.c (.i .i64 1)]]))
 (.cut [0] (.reg [zV 156 0,zo 157 (.bsl 116 1 [(0,.c (.s [41]))]),zC 158 44 [.t 156,.t 157]]))))
 (.seq (.reg [zD 160 .eql 3 16 8,zV 159 160])
 (.cond (.t 159)
 (.cut [0] (.reg [zV 161 0,zo 162 (.bsl 116 1 [(0,.c (.s [105,110,40,41]))]),zC 163 44 [.t 161,.t 162]]))
 (.seq (.reg [zD 165 .eql 3 16 3,zV 164 165])
 (.cond (.t 164)
 (.cut [0,1,2] (.reg [zV 166 0,zV 167 1,zV 168 2,zC 169 136 [.t 166,.t 167,.t 168]]))
 (.cut [0] (.reg [zV 17 0,zN 18 17,zF 19 79 18 2,zn (.store 4 (.t 19) (.c (.b true)))]))))))))))))))))))))))
def BQ:AF:=⟨170,[],c109⟩
def c110:AC:=(.seq (.cut [0,1] (.reg [zV 4 0,zo 5 (.bsl 116 1 [(0,.c (.s [105,102,32]))]),zC 6 44 [.t 4,.t 5]]))
 (.seq (.cut [0,1] (.reg [zV 7 0,zV 8 1,zN 9 8,zF 10 95 9 4,zL 11 44 10,zC 12 109 [.t 7,.t 11,.c (.i .i64 1)]]))
 (.seq (.cut [0,1] (.reg [zV 13 0,zV 14 1,zN 15 14,zF 16 95 15 5,zL 17 67 16,zC 18 45 [.t 13,.t 17]]))
 (.blk 0
 (.seq (.cut [0,1] (.reg [zV 20 1,zN 21 20,zF 22 95 21 6,zL 23 67 22,zo 24 (.len 67 (.t 23)),zD 25 .eql 3 24 1,zV 26 25,iy 27 26 1,bD 28 26 (.nilck (.t 27)),bD 29 26 (.fad 95 (.t 28) 6),bD 30 26 (.load 67 (.t 29)),bD 31 26 (.iad 67 (.t 30) (.c (.i .i64 0))),bD 32 26 (.load 96 (.t 31)),bD 33 26 (.bin .neq 96 (.t 32) (.c (.p0))),zo 34 (.pick (.t 26) (.t 33) (.c (.b false))),zV 35 34,iy 36 35 1,bD 37 35 (.nilck (.t 36)),bD 38 35 (.fad 95 (.t 37) 6),bD 39 35 (.load 67 (.t 38)),bD 40 35 (.iad 67 (.t 39) (.c (.i .i64 0))),bD 41 35 (.load 96 (.t 40)),bD 42 35 (.nilck (.t 41)),bD 43 35 (.fad 95 (.t 42) 0),bD 44 35 (.load 3 (.t 43)),bD 45 35 (.bin .eql 3 (.t 44) (.c (.i .i64 4))),zo 46 (.pick (.t 35) (.t 45) (.c (.b false))),zV 19 46]))
 (.cut [1000000,0,1,19] (.cond (.t 19)
 (.seq (.cut [0,1] (.reg [zV 47 0,zo 48 (.bsl 116 1 [(0,.c (.s [32,101,108,115,101,32]))]),zC 49 44 [.t 47,.t 48]]))
 (.cut [0,1] (.reg [zV 50 0,zV 51 1,zN 52 51,zF 53 95 52 6,zL 54 67 53,zo 55 (.iad 67 (.t 54) (.c (.i .i64 0))),zL 56 96 55,zC 57 110 [.t 50,.t 56]])))
 (.seq (.cut [0,1] (.reg [zV 59 1,zN 60 59,zF 61 95 60 6,zL 62 67 61,zo 63 (.len 67 (.t 62)),zD 64 .gtr 3 63 0,zV 58 64]))
 (.cond (.t 58)
 (.seq (.cut [0,1] (.reg [zV 65 0,zo 66 (.bsl 116 1 [(0,.c (.s [32,101,108,115,101]))]),zC 67 44 [.t 65,.t 66]]))
 (.cut [0,1] (.reg [zV 68 0,zV 69 1,zN 70 69,zF 71 95 70 6,zL 72 67 71,zC 73 45 [.t 68,.t 72]])))
 .skip)))))))))
def Ua:AF:=⟨74,[],c110⟩
def Ub:AC:=(.seq (.reg [zB 9 .lss 3 8 7])
 (.seq (.cond (.t 9)
 .skip
 (.exit 0))
 (.seq (.blk 1
 (.seq (.reg [zV 10 8,zV 5 10])
 (.seq (.cut [0,1,5,7,8] (.reg [zV 11 1,zV 12 0,zV 13 5,zo 14 (.iad 134 (.t 12) (.t 13)),zL 15 112 14,zB 16 .eql 112 11 15]))
 (.cond (.t 16)
 (.seq (.reg [zV 17 5,zV 4 17])
 .ret)
 .skip))))
 (.reg [zD 18 .add 3 8 1,zV 8 18]))))
def c112:AC:=(.seq (.reg [zo 4 (.mv (.c (.i .i64 0)))])
 (.seq (.seq (.cut [0,1] (.reg [zV 6 0,zo 7 (.len 134 (.t 6)),zo 8 (.mv (.c (.i .i64 0)))]))
 (.blk 0
 (.loop [0,1,7,8] Ub)))
 (.seq (.reg [zo 4 (.mv (.c (.i .i64 (-1))))])
 .ret)))
def F112:AF:=⟨19,[.t 4],c112⟩
def c121:AC:=(.seq (.reg [zo 4 (.mv (.c (.p0)))])
 (.seq (.cut [0,1,2] (.reg [zL 5 96 1,zV 6 0,zN 7 5,zF 8 95 7 0,zS 3 8 6]))
 (.seq (.cut [1,2] (.drw [(zL 9 96 1,[]),(zL 10 85 2,[]),(zC 11 122 [.t 10,.c (.i .i64 1)],[zL 9 96 1]),(zN 12 9,[]),(zF 13 95 12 4,[]),(zS 44 13 11,[])]))
 (.seq (.reg [zL 14 85 2,zC 15 55 [.t 14,.c (.s [59])]])
 (.seq (.reg [zL 16 96 1,zV 4 16])
 .ret)))))
def F121:AF:=⟨17,[.t 4],c121⟩
def Iy:AC:=(.seq (.seq (.cut [0,1,5] (.reg [zV 10 0,zC 11 24 [.t 10],zo 12 (.un .not (.t 11))]))
 (.cond (.t 12)
 .skip
 (.exit 0)))
 (.blk 1
 (.seq (.cut [0,1,5] (.reg [zV 13 0,zC 14 25 [.t 13],zo 6 (.alloc 62),zS 62 6 14]))
 (.seq (.cut [0,1,5,6] (.reg [zF 15 62 6 1,zL 16 9 15,zC 17 142 [.t 16],zV 7 17]))
 (.seq (.seq (.cut [0,1,5,6,7] (.reg [zF 18 62 6 0,zL 19 3 18,zD 20 .neq 3 19 3,zV 21 20,o9 22 21 7,fO 23 21 (.bin .eql 3 (.t 22) (.c (.i .i64 0))),zo 24 (.pick (.t 21) (.c (.b true)) (.t 23)),zV 25 24,o9 26 25 7,o9 27 25 1,fO 28 25 (.bin .lss 3 (.t 26) (.t 27)),zo 29 (.pick (.t 25) (.c (.b true)) (.t 28))]))
 (.cond (.t 29)
 (.exit 0)
 .skip))
 (.seq (.reg [zV 30 0,zC 31 89 [.t 30]])
 (.cut [0,1,5,6,7] (.drw [(zF 32 62 6 1,[]),(zL 33 9 32,[]),(zV 34 5,[]),(zV 35 0,[]),(zV 36 7,[]),(zD 37 .add 3 36 1,[]),(zF 39 62 6 2,[]),(zL 40 3 39,[]),(zC 38 122 [.t 35,.t 37],[zL 33 9 32,zL 40 3 39]),(zo 41 (.build 48 [(0,.c (.i .i64 3)),(3,.t 33),(4,.t 34),(5,.t 38),(7,.t 40)]),[]),(zo 42 (.box 48 (.t 41)),[]),(zV 5 42,[])]))))))))
def c122:AC:=(.seq (.reg [zo 4 (.mv (.c (.p0)))])
 (.seq (.cut [0,1] (.reg [zV 8 0,zC 9 141 [.t 8],zV 5 9]))
 (.seq (.blk 0
 (.loop [0,1,5] Iy))
 (.cut [1000000,5] (.seq (.reg [zV 43 5,zV 4 43])
 .ret)))))
def Yl:AF:=⟨44,[.t 4],c122⟩
def c123:AC:=(.seq (.reg [zo 4 (.mv (.c (.p0)))])
 (.seq (.cut [0,1] (.reg [zV 7 1,zo 8 (.build 95 [(0,.c (.i .i64 4)),(7,.t 7)]),zo 9 (.box 95 (.t 8)),zV 5 9]))
 (.seq (.cut [0,5] (.reg [zV 10 5,zV 11 0,zC 12 122 [.t 11,.c (.i .i64 1)],zN 13 10,zF 14 95 13 4,zS 44 14 12]))
 (.seq (.cut [0,5] (.reg [zV 15 5,zV 16 0,zC 17 60 [.t 16],zN 18 15,zF 19 95 18 5,zS 67 19 17]))
 (.seq (.seq (.reg [zV 20 0,zC 21 59 [.t 20,.c (.s [101,108,115,101])]])
 (.cond (.t 21)
 (.seq (.cut [0,5] (.reg [zV 22 0,zC 23 25 [.t 22],zo 6 (.alloc 62),zS 62 6 23]))
 (.seq (.reg [zV 24 0,zC 25 59 [.t 24,.c (.s [105,102])]])
 (.cut [1000000,0,5,6,25] (.cond (.t 25)
 (.cut [0,5,6] (.reg [zV 26 5,zV 27 0,zF 28 62 6 2,zL 29 3 28,zC 30 123 [.t 27,.t 29],zo 31 (.bsl 67 1 [(0,.t 30)]),zN 32 26,zF 33 95 32 6,zS 67 33 31]))
 (.cut [0,5] (.reg [zV 34 5,zV 35 0,zC 36 60 [.t 35],zN 37 34,zF 38 95 37 6,zS 67 38 36]))))))
 .skip))
 (.seq (.reg [zV 39 5,zV 4 39])
 .ret))))))
def F123:AF:=⟨40,[.t 4],c123⟩
def Iz:AC:=(.seq (.seq (.cut [0,3] (.reg [zV 7 0,zo 8 (.bsl 116 2 [(0,.c (.s [91])),(1,.c (.s [58]))]),zC 9 92 [.t 7,.t 8]]))
 (.cond (.t 9)
 .skip
 (.exit 0)))
 (.blk 1
 (.seq (.cut [0,3] (.reg [zV 10 0,zC 11 25 [.t 10],zo 4 (.alloc 62),zS 62 4 11]))
 (.seq (.cut [0,3,4] (.reg [zF 12 62 4 1,zL 13 9 12,zo 14 (.bin .eql 9 (.t 13) (.c (.s [91])))]))
 (.cond (.t 14)
 (.cut [0,3,4] (.drw [(zV 15 3,[]),(zV 16 0,[]),(zF 18 62 4 2,[]),(zL 19 3 18,[]),(zC 17 144 [.t 16,.c (.s [91]),.c (.s [93])],[zL 19 3 18]),(zo 20 (.build 48 [(0,.c (.i .i64 5)),(4,.t 15),(5,.t 17),(7,.t 19)]),[]),(zo 21 (.box 48 (.t 20)),[]),(zV 3 21,[])]))
 (.seq (.reg [zV 22 0,zC 23 89 [.t 22]])
 (.cut [0,3,4] (.drw [(zV 24 3,[]),(zV 25 0,[]),(zF 27 62 4 2,[]),(zL 28 3 27,[]),(zC 26 145 [.t 25],[zL 28 3 27]),(zo 29 (.build 48 [(0,.c (.i .i64 6)),(4,.t 24),(5,.t 26),(7,.t 28)]),[]),(zo 30 (.box 48 (.t 29)),[]),(zV 3 30,[])]))))))))
def c124:AC:=(.seq (.reg [zo 2 (.mv (.c (.p0)))])
 (.seq (.cut [0] (.reg [zV 5 0,zC 6 143 [.t 5],zV 3 6]))
 (.seq (.blk 0
 (.loop [0,3] Iz))
 (.seq (.reg [zV 31 3,zV 2 31])
 .ret))))
def Ym:AF:=⟨32,[.t 2],c124⟩
def c125:AC:=(.seq (.reg [zo 6 (.mv (.c (.b false)))])
 (.seq (.seq (.cut [0,1,2] (.reg [zV 7 0,zo 8 (.bin .eql 44 (.t 7) (.c (.p0))),zV 9 8,o9 10 9 1,fO 11 9 (.bin .eql 44 (.t 10) (.c (.p0))),zo 12 (.pick (.t 9) (.c (.b true)) (.t 11))]))
 (.cond (.t 12)
 (.seq (.cut [0,1] (.reg [zV 13 0,zo 14 (.bin .eql 44 (.t 13) (.c (.p0))),zV 15 14,iy 16 15 1,bD 17 15 (.bin .eql 44 (.t 16) (.c (.p0))),zo 18 (.pick (.t 15) (.t 17) (.c (.b false))),zV 6 18]))
 .ret)
 .skip))
 (.seq (.cut [0,1,2] (.reg [zV 19 2,zV 20 0,zV 21 1,zo 22 (.call (.t 19) [.t 20,.t 21]),zV 6 22]))
 .ret)))
def QU:AF:=⟨23,[.t 6],c125⟩
def c126:AC:=(.seq (.reg [zo 4 (.mv (.c (.b false)))])
 (.seq (.cut [0,1] (.drw [(zV 6 0,[]),(zN 7 6,[]),(zF 8 48 7 0,[]),(zL 9 3 8,[]),(zV 10 1,[]),(zN 11 10,[]),(zF 12 48 11 0,[]),(zL 13 3 12,[]),(zB 14 .eql 3 9 13,[]),(zV 15 14,[]),(iy 16 15 0,[]),(bD 17 15 (.nilck (.t 16)),[]),(bD 18 15 (.fad 48 (.t 17) 1),[]),(bD 19 15 (.load 39 (.t 18)),[]),(iy 20 15 1,[]),(bD 21 15 (.nilck (.t 20)),[]),(bD 22 15 (.fad 48 (.t 21) 1),[]),(bD 23 15 (.load 39 (.t 22)),[]),(bD 24 15 (.bin .eql 39 (.t 19) (.t 23)),[]),(zo 25 (.pick (.t 15) (.t 24) (.c (.b false))),[]),(zV 26 25,[]),(iy 27 26 0,[]),(bD 28 26 (.nilck (.t 27)),[]),(bD 29 26 (.fad 48 (.t 28) 2),[]),(bD 30 26 (.load 9 (.t 29)),[]),(iy 31 26 1,[]),(bD 32 26 (.nilck (.t 31)),[]),(bD 33 26 (.fad 48 (.t 32) 2),[]),(bD 34 26 (.load 9 (.t 33)),[]),(bD 35 26 (.bin .eql 9 (.t 30) (.t 34)),[]),(zo 36 (.pick (.t 26) (.t 35) (.c (.b false))),[]),(zV 37 36,[]),(iy 38 37 0,[]),(bD 39 37 (.nilck (.t 38)),[]),(bD 40 37 (.fad 48 (.t 39) 3),[]),(bD 41 37 (.load 9 (.t 40)),[]),(iy 42 37 1,[]),(bD 43 37 (.nilck (.t 42)),[]),(bD 44 37 (.fad 48 (.t 43) 3),[]),(bD 45 37 (.load 9 (.t 44)),[]),(bD 46 37 (.bin .eql 9 (.t 41) (.t 45)),[]),(zo 47 (.pick (.t 37) (.t 46) (.c (.b false))),[]),(zV 5 47,[])]))
 (.cut [1000000,0,1,5] (.seq (.cut [0,1,5] (.drw [(zV 48 5,[]),(zV 49 48,[]),(iy 50 49 0,[]),(bD 51 49 (.nilck (.t 50)),[]),(bD 52 49 (.fad 48 (.t 51) 6),[]),(bD 53 49 (.load 46 (.t 52)),[]),(iy 54 49 1,[]),(bD 55 49 (.nilck (.t 54)),[]),(bD 56 49 (.fad 48 (.t 55) 6),[]),(bD 57 49 (.load 46 (.t 56)),[]),(bD 58 49 (.call (.c (.fn (.func 127) [] [])) [.t 53,.t 57,.c (.fn (.func 97) [] [])]),[]),(zo 59 (.pick (.t 49) (.t 58) (.c (.b false))),[]),(zV 60 59,[]),(iy 61 60 0,[]),(bD 62 60 (.nilck (.t 61)),[]),(bD 63 60 (.fad 48 (.t 62) 4),[]),(bD 64 60 (.load 44 (.t 63)),[]),(iy 65 60 1,[]),(bD 66 60 (.nilck (.t 65)),[]),(bD 67 60 (.fad 48 (.t 66) 4),[]),(bD 68 60 (.load 44 (.t 67)),[]),(bD 69 60 (.call (.c (.fn (.func 97) [] [])) [.t 64,.t 68]),[]),(zo 70 (.pick (.t 60) (.t 69) (.c (.b false))),[]),(zV 71 70,[]),(iy 72 71 0,[]),(bD 73 71 (.nilck (.t 72)),[]),(bD 74 71 (.fad 48 (.t 73) 5),[]),(bD 75 71 (.load 44 (.t 74)),[]),(iy 76 71 1,[]),(bD 77 71 (.nilck (.t 76)),[]),(bD 78 71 (.fad 48 (.t 77) 5),[]),(bD 79 71 (.load 44 (.t 78)),[]),(bD 80 71 (.call (.c (.fn (.func 97) [] [])) [.t 75,.t 79]),[]),(zo 81 (.pick (.t 71) (.t 80) (.c (.b false))),[]),(zV 4 81,[])]))
 .ret))))
def F126:AF:=⟨82,[.t 4],c126⟩
def Uc:AC:=(.seq (.reg [zB 18 .lss 3 17 16])
 (.seq (.cond (.t 18)
 .skip
 (.exit 0))
 (.seq (.blk 1
 (.seq (.cut [1,2,15,16,17] (.reg [zV 19 17,zo 20 (.iad 46 (.t 15) (.t 17)),zL 21 44 20,zV 7 19,zV 8 21]))
 (.seq (.cut [1,2,7,8,15,16,17] (.reg [zV 22 1,zV 23 7,zo 24 (.iad 46 (.t 22) (.t 23)),zL 25 44 24,zV 9 25]))
 (.seq (.cut [1,2,8,9,15,16,17] (.reg [zV 26 2,zV 27 8,zV 28 9,zo 29 (.call (.t 26) [.t 27,.t 28]),zo 30 (.un .not (.t 29))]))
 (.cond (.t 30)
 (.seq (.reg [zo 6 (.mv (.c (.b false)))])
 .ret)
 .skip)))))
 (.reg [zD 31 .add 3 17 1,zV 17 31]))))
def c127:AC:=(.seq (.reg [zo 6 (.mv (.c (.b false)))])
 (.seq (.seq (.cut [0,1,2] (.reg [zV 10 0,zo 11 (.len 46 (.t 10)),zV 12 1,zo 13 (.len 46 (.t 12)),zB 14 .neq 3 11 13]))
 (.cond (.t 14)
 (.seq (.reg [zo 6 (.mv (.c (.b false)))])
 .ret)
 .skip))
 (.seq (.seq (.cut [0,1,2] (.reg [zV 15 0,zo 16 (.len 46 (.t 15)),zo 17 (.mv (.c (.i .i64 0)))]))
 (.blk 0
 (.loop [1,2,15,16,17] Uc)))
 (.seq (.reg [zo 6 (.mv (.c (.b true)))])
 .ret))))
def IB:AF:=⟨32,[.t 6],c127⟩
def c135:AC:=(.seq (.reg [zo 4 (.mv (.c (.s [])))])
 (.seq (.cut [0,1] (.reg [zV 5 0,zV 6 1,zC 7 150 [.t 5,.t 6],zV 4 7]))
 .ret))
def F135:AF:=⟨8,[.t 4],c135⟩
def Ud:AC:=(.seq (.seq (.reg [zo 6 (.mv (.c (.i .i64 7)))])
 (.seq (.seq (.cut [0,1,2,6,23,24] (.reg [zV 7 1,zN 8 7,zF 9 48 8 4,zL 10 44 9,zo 11 (.bin .neq 44 (.t 10) (.c (.p0)))]))
 (.cond (.t 11)
 (.cut [0,1,2,23,24] (.reg [zV 12 1,zN 13 12,zF 14 48 13 3,zL 15 9 14,zC 16 142 [.t 15],zV 6 16]))
 .skip))
 (.cut [1000000,0,1,2,6,23,24] (.seq (.seq (.cut [0,1,2,6,23,24] (.reg [zV 17 6,zV 18 2,zB 19 .lss 3 17 18]))
 (.cond (.t 19)
 (.seq (.cut [0,1,6,19] (.reg [zV 20 0,zo 21 (.bsl 116 1 [(0,.c (.s [40]))]),zC 22 44 [.t 20,.t 21]]))
 (.reg [zV 23 0,zo 24 (.bsl 116 1 [(0,.c (.s [41]))])]))
 .skip))
 (.cut [1000000,0,1,6,19,23,24] (.seq (.seq (.cut [0,1,6,19,23,24] (.reg [zV 25 1,zN 26 25,zF 27 48 26 4,zL 28 44 27,zo 29 (.bin .neq 44 (.t 28) (.c (.p0)))]))
 (.cond (.t 29)
 (.seq (.cut [0,1,6,19,23,24] (.reg [zV 30 0,zV 31 1,zN 32 31,zF 33 48 32 4,zL 34 44 33,zV 35 6,zC 36 109 [.t 30,.t 34,.t 35]]))
 (.seq (.cut [0,1,6,19,23,24] (.reg [zV 37 0,zV 38 1,zN 39 38,zF 40 48 39 3,zL 41 9 40,zo 42 (.bsl 116 3 [(0,.c (.s [32])),(1,.t 41),(2,.c (.s [32]))]),zC 43 44 [.t 37,.t 42]]))
 (.cut [0,1,6,19,23,24] (.reg [zV 44 6,zD 45 .add 3 44 1,zV 6 45]))))
 (.cut [0,1,6,19,23,24] (.reg [zV 46 0,zV 47 1,zN 48 47,zF 49 48 48 3,zL 50 9 49,zo 51 (.bsl 116 1 [(0,.t 50)]),zC 52 44 [.t 46,.t 51]]))))
 (.cut [1000000,0,1,6,19,23,24] (.cut [0,1,6,19,23,24] (.reg [zV 53 0,zV 54 1,zN 55 54,zF 56 48 55 5,zL 57 44 56,zV 58 6,zC 59 109 [.t 53,.t 57,.t 58]])))))))))
 (.cond (.t 19)
 (.reg [zn (.call (.c (.fn (.func 44) [] [])) [.t 23,.t 24])])
 .skip))
def Yn:AF:=⟨60,[],Ud⟩
def c141:AC:=(.seq (.reg [zo 1 (.box 85 (.t 0)),zo 2 (.mv (.c (.p0)))])
 (.seq (.cut [1] (.reg [zL 5 85 1,zC 6 25 [.t 5],zo 3 (.alloc 62),zS 62 3 6]))
 (.seq (.seq (.cut [1,3] (.reg [zL 7 85 1,zo 8 (.bsl 116 2 [(0,.c (.s [33])),(1,.c (.s [45]))]),zC 9 92 [.t 7,.t 8],zo 10 (.un .not (.t 9))]))
 (.cond (.t 10)
 (.seq (.cut [1] (.reg [zL 11 85 1,zC 12 124 [.t 11],zV 2 12]))
 .ret)
 .skip))
 (.seq (.cut [1,3] (.reg [zF 13 62 3 1,zL 14 9 13,zF 15 62 3 2,zL 16 3 15,zo 17 (.build 48 [(0,.c (.i .i64 3)),(3,.t 14),(7,.t 16)]),zo 18 (.box 48 (.t 17)),zo 4 (.alloc 44),zS 44 4 18]))
 (.seq (.cut [1,3,4] (.reg [zL 19 85 1,zF 20 62 3 1,zL 21 9 20,zo 22 (.mkf (.func 154) [] [.t 1,.t 4]),zC 23 90 [.t 19,.t 21,.t 22]]))
 (.seq (.reg [zL 24 44 4,zV 2 24])
 .ret))))))
def Yo:AF:=⟨25,[.t 2],c141⟩
def c142:AC:=(.seq (.reg [zo 2 (.mv (.c (.i .i64 0)))])
 (.seq (.cut [0] (.reg [zo 3 (.mkm 197 none),zn (.mup 197 (.t 3) (.c (.s [124,124])) (.c (.i .i64 1))),zn (.mup 197 (.t 3) (.c (.s [38,38])) (.c (.i .i64 2))),zn (.mup 197 (.t 3) (.c (.s [61,61])) (.c (.i .i64 3))),zn (.mup 197 (.t 3) (.c (.s [33,61])) (.c (.i .i64 3))),zn (.mup 197 (.t 3) (.c (.s [60])) (.c (.i .i64 4))),zn (.mup 197 (.t 3) (.c (.s [60,61])) (.c (.i .i64 4))),zn (.mup 197 (.t 3) (.c (.s [62])) (.c (.i .i64 4))),zn (.mup 197 (.t 3) (.c (.s [62,61])) (.c (.i .i64 4))),zn (.mup 197 (.t 3) (.c (.s [43])) (.c (.i .i64 5))),zn (.mup 197 (.t 3) (.c (.s [45])) (.c (.i .i64 5))),zn (.mup 197 (.t 3) (.c (.s [124])) (.c (.i .i64 5))),zn (.mup 197 (.t 3) (.c (.s [94])) (.c (.i .i64 5))),zn (.mup 197 (.t 3) (.c (.s [42])) (.c (.i .i64 6))),zn (.mup 197 (.t 3) (.c (.s [47])) (.c (.i .i64 6))),zn (.mup 197 (.t 3) (.c (.s [37])) (.c (.i .i64 6))),zn (.mup 197 (.t 3) (.c (.s [38])) (.c (.i .i64 6))),zn (.mup 197 (.t 3) (.c (.s [60,60])) (.c (.i .i64 6))),zn (.mup 197 (.t 3) (.c (.s [62,62])) (.c (.i .i64 6))),zV 4 3,zV 5 0,zo 6 (.lku 197 (.t 4) (.t 5) false),zV 2 6]))
 .ret))
def F142:AF:=⟨7,[.t 2],c142⟩
def c143:AC:=(.seq (.reg [zo 1 (.box 85 (.t 0)),zo 2 (.mv (.c (.p0)))])
 (.seq (.cut [1] (.reg [zL 5 85 1,zC 6 25 [.t 5],zo 3 (.alloc 62),zS 62 3 6]))
 (.seq (.blk 0
 (.seq (.cut [1,3] (.reg [zL 8 85 1,zC 9 59 [.t 8,.c (.s [110,101,119])],zV 7 9]))
 (.cond (.t 7)
 (.seq (.cut [1,3] (.drw [(zL 10 85 1,[]),(zF 12 62 3 2,[]),(zL 13 3 12,[]),(zC 11 144 [.t 10,.c (.s [40]),.c (.s [41])],[zL 13 3 12]),(zo 14 (.build 48 [(0,.c (.i .i64 7)),(4,.t 11),(7,.t 13)]),[]),(zo 15 (.box 48 (.t 14)),[]),(zV 2 15,[])]))
 .ret)
 (.seq (.cut [1,3] (.reg [zL 17 85 1,zC 18 59 [.t 17,.c (.s [105,110])],zV 16 18]))
 (.cond (.t 16)
 (.seq (.cut [1,3] (.reg [zL 19 85 1,zo 20 (.mkf (.func 155) [] [.t 1]),zC 21 90 [.t 19,.c (.s [40]),.t 20]]))
 (.seq (.cut [3] (.reg [zF 22 62 3 2,zL 23 3 22,zo 24 (.build 48 [(0,.c (.i .i64 8)),(7,.t 23)]),zo 25 (.box 48 (.t 24)),zV 2 25]))
 .ret))
 .skip)))))
 (.seq (.cut [1,3] (.reg [zL 26 85 1,zC 27 145 [.t 26],zo 4 (.alloc 44),zS 44 4 27]))
 (.cut [1000000,1,3,4] (.seq (.seq (.cut [1,3,4] (.reg [zF 28 62 3 0,zL 29 3 28,zD 30 .eql 3 29 1,zV 31 30,bD 32 31 (.load 44 (.t 4)),bD 33 31 (.nilck (.t 32)),bD 34 31 (.fad 48 (.t 33) 0),bD 35 31 (.load 3 (.t 34)),bD 36 31 (.bin .eql 3 (.t 35) (.c (.i .i64 2))),zo 37 (.pick (.t 31) (.t 36) (.c (.b false))),zV 38 37,bD 39 38 (.load 85 (.t 1)),bD 40 38 (.bsl 116 1 [(0,.c (.s [40]))]),bD 41 38 (.call (.c (.fn (.func 92) [] [])) [.t 39,.t 40]),zo 42 (.pick (.t 38) (.t 41) (.c (.b false)))]))
 (.cond (.t 42)
 (.seq (.cut [1,4] (.reg [zL 43 44 4,zN 44 43,zF 45 48 44 0,zn (.store 3 (.t 45) (.c (.i .i64 4)))]))
 (.cut [1,4] (.reg [zL 46 85 1,zo 47 (.mkf (.func 156) [] [.t 4,.t 1]),zC 48 57 [.t 46,.t 47]])))
 .skip))
 (.seq (.reg [zL 49 44 4,zV 2 49])
 .ret)))))))
def Yp:AF:=⟨50,[.t 2],c143⟩
def c144:AC:=(.seq (.cut [0,1,2] (.reg [zo 3 (.box 85 (.t 0)),zo 5 (.box 9 (.t 2)),zo 6 (.alloc 44)]))
 (.seq (.cut [1,3,5,6] (.reg [zL 7 85 3,zV 8 1,zo 9 (.mkf (.func 157) [] [.t 3,.t 6,.t 5]),zC 10 90 [.t 7,.t 8,.t 9]]))
 (.seq (.reg [zL 11 44 6,zS 44 6 11])
 .ret)))
def F144:AF:=⟨12,[.cell 6 44],c144⟩
def c145:AC:=(.seq (.reg [zo 2 (.mv (.c (.p0)))])
 (.seq (.cut [0] (.reg [zV 6 0,zC 7 25 [.t 6],zo 3 (.alloc 62),zS 62 3 7]))
 (.seq (.blk 0
 (.seq (.cut [0,3] (.reg [zV 9 0,zo 10 (.bsl 116 1 [(0,.c (.s [40]))]),zC 11 92 [.t 9,.t 10],zV 8 11]))
 (.cond (.t 8)
 (.seq (.cut [0] (.reg [zV 12 0,zC 13 144 [.t 12,.c (.s [40]),.c (.s [41])],zV 2 13]))
 .ret)
 (.seq (.cut [0,3] (.reg [zF 15 62 3 0,zL 16 3 15,zD 17 .eql 3 16 2,zV 18 17,iy 19 18 0,bD 20 18 (.call (.c (.fn (.func 24) [] [])) [.t 19]),bD 21 18 (.un .not (.t 20)),zo 22 (.pick (.t 18) (.t 21) (.c (.b false))),zV 14 22]))
 (.cond (.t 14)
 (.seq (.reg [zV 23 0,zC 24 89 [.t 23]])
 (.seq (.cut [3] (.reg [zF 26 62 3 1,zL 27 9 26,zC 28 53 [.t 27,.c (.i .i64 10),.c (.i .i64 32)],zV 25 28,zE 29 25 0,zE 30 25 1,zV 4 29,zV 5 30]))
 (.seq (.cut [3,4] (.reg [zV 31 4,zo 32 (.conv 118 39 (.t 31)),zF 33 62 3 2,zL 34 3 33,zo 35 (.build 48 [(0,.c (.i .i64 1)),(1,.t 32),(7,.t 34)]),zo 36 (.box 48 (.t 35)),zV 2 36]))
 .ret)))
 .skip)))))
 (.cut [1000000,0,3] (.seq (.cut [0,3] (.drw [(zV 37 0,[]),(zF 39 62 3 2,[]),(zL 40 3 39,[]),(zC 38 56 [.t 37],[zL 40 3 39]),(zo 41 (.build 48 [(0,.c (.i .i64 2)),(2,.t 38),(7,.t 40)]),[]),(zo 42 (.box 48 (.t 41)),[]),(zV 2 42,[])]))
 .ret)))))
def Yq:AF:=⟨43,[.t 2],c145⟩
def c154:AC:=(.cut [0,1] (.drw [(zL 2 44 1,[]),(zL 3 85 0,[]),(zC 4 141 [.t 3],[zL 2 44 1]),(zN 5 2,[]),(zF 6 48 5 5,[]),(zS 44 6 4,[])]))
def Yr:AF:=⟨7,[],c154⟩
def c155:AC:=(.reg [zL 1 85 0,zC 2 55 [.t 1,.c (.s [41])]])
def Yt:AF:=⟨3,[],c155⟩
def c156:AC:=(.cut [0,1] (.drw [(zL 2 44 0,[]),(zL 3 44 0,[]),(zN 4 3,[]),(zF 5 48 4 6,[]),(zL 6 46 5,[]),(zL 7 85 1,[]),(zC 8 122 [.t 7,.c (.i .i64 1)],[zL 2 44 0,zL 3 44 0,zL 6 46 5]),(zo 9 (.bsl 46 1 [(0,.t 8)]),[zL 2 44 0,zL 3 44 0,zL 6 46 5]),(zo 10 (.app 46 false (.t 6) (.t 9)),[zL 2 44 0]),(zN 11 2,[]),(zF 12 48 11 6,[]),(zS 46 12 10,[])]))
def Yu:AF:=⟨13,[],c156⟩
def c157:AC:=(.seq (.cut [0,1,2] (.reg [zL 3 85 0,zC 4 122 [.t 3,.c (.i .i64 1)],zS 44 1 4]))
 (.cut [0,2] (.reg [zL 5 85 0,zL 6 9 2,zC 7 55 [.t 5,.t 6]])))
def Yv:AF:=⟨8,[],c157⟩
def fns:Nat→Option AF
 | 2=>some F2
 | 3=>some F3
 | 4=>some F4
 | 5=>some F5
 | 6=>some F6
 | 7=>some F7
 | 8=>some F8
 | 9=>some F9
 | 10=>some F10
 | 11=>some F11
 | 12=>some F12
 | 14=>some F14
 | 15=>some F15
 | 20=>some F20
 | 21=>some F21
 | 23=>some F23
 | 24=>some F24
 | 25=>some F25
 | 26=>some F26
 | 27=>some F27
 | 28=>some F28
 | 29=>some Yi
 | 30=>some F30
 | 31=>some F31
 | 32=>some F32
 | 44=>some F44
 | 45=>some F45
 | 46=>some F46
 | 47=>some F47
 | 49=>some F49
 | 50=>some F50
 | 51=>some F51
 | 52=>some F52
 | 54=>some F54
 | 55=>some F55
 | 56=>some F56
 | 57=>some F57
 | 58=>some F58
 | 59=>some F59
 | 60=>some F60
 | 61=>some F61
 | 62=>some F62
 | 63=>some Yj
 | 64=>some Yk
 | 65=>some F65
 | 66=>some F66
 | 67=>some F67
 | 78=>some F78
 | 79=>some F79
 | 80=>some Nj
 | 81=>some F81
 | 83=>some F83
 | 84=>some F84
 | 85=>some F85
 | 88=>some F88
 | 89=>some F89
 | 90=>some F90
 | 91=>some F91
 | 92=>some F92
 | 93=>some F93
 | 94=>some F94
 | 95=>some F95
 | 96=>some F96
 | 97=>some F97
 | 98=>some F98
 | 108=>some F108
 | 109=>some BQ
 | 110=>some Ua
 | 112=>some F112
 | 121=>some F121
 | 122=>some Yl
 | 123=>some F123
 | 124=>some Ym
 | 125=>some QU
 | 126=>some F126
 | 127=>some IB
 | 135=>some F135
 | 136=>some Yn
 | 141=>some Yo
 | 142=>some F142
 | 143=>some Yp
 | 144=>some F144
 | 145=>some Yq
 | 154=>some Yr
 | 155=>some Yt
 | 156=>some Yu
 | 157=>some Yv
 | _=>none
end Go.Abs.YtlkfbfhkcaldlaaGreatDoor
