/- Texts of this claim, joined: Ok. -/
import Derived.Test.YthggaoedidfpcaaGreatDoorM02
import Derived.Test.YthggaoedidfpcaaGreatDoorM03
import Derived.Test.YthggaoedidfpcaaGreatDoorProg
set_option linter.unusedVariables false
set_option linter.unusedSimpArgs false
namespace Go.dX.YthggaoedidfpcaaGreatDoor
theorem ok3:aU Go.Proofs.Tryz.prog 12 3 F3=true:=by kernel_rfl
theorem ok4:aU Go.Proofs.Tryz.prog 12 4 F4=true:=by kernel_rfl
theorem ok5:aU Go.Proofs.Tryz.prog 12 5 F5=true:=by kernel_rfl
theorem ok6:aU Go.Proofs.Tryz.prog 12 6 F6=true:=by kernel_rfl
theorem ok7:aU Go.Proofs.Tryz.prog 12 7 F7=true:=by kernel_rfl
theorem ok8:aU Go.Proofs.Tryz.prog 12 8 F8=true:=by kernel_rfl
theorem ok10:aU Go.Proofs.Tryz.prog 12 10 F10=true:=by kernel_rfl
theorem ok11:aU Go.Proofs.Tryz.prog 12 11 F11=true:=by kernel_rfl
theorem ok12:aU Go.Proofs.Tryz.prog 12 12 F12=true:=by kernel_rfl
theorem ok13:aU Go.Proofs.Tryz.prog 12 13 F13=true:=by kernel_rfl
theorem ok14:aU Go.Proofs.Tryz.prog 12 14 F14=true:=by kernel_rfl
theorem ok15:aU Go.Proofs.Tryz.prog 12 15 F15=true:=by kernel_rfl
theorem ok16:aU Go.Proofs.Tryz.prog 12 16 F16=true:=by kernel_rfl
theorem ok17:aU Go.Proofs.Tryz.prog 12 17 F17=true:=by kernel_rfl
theorem ok18:aU Go.Proofs.Tryz.prog 12 18 F18=true:=by kernel_rfl
theorem ok19:aU Go.Proofs.Tryz.prog 12 19 F19=true:=by kernel_rfl
theorem ok20:aU Go.Proofs.Tryz.prog 12 20 F20=true:=by kernel_rfl
theorem ok26:aU Go.Proofs.Tryz.prog 12 26 F26=true:=by kernel_rfl
theorem ok27:aU Go.Proofs.Tryz.prog 12 27 F27=true:=by kernel_rfl
theorem ok28:aU Go.Proofs.Tryz.prog 12 28 F28=true:=by kernel_rfl
theorem ok29:aU Go.Proofs.Tryz.prog 12 29 F29=true:=by kernel_rfl
theorem ok30:aU Go.Proofs.Tryz.prog 12 30 F30=true:=by kernel_rfl
theorem ok31:aU Go.Proofs.Tryz.prog 12 31 F31=true:=by kernel_rfl
theorem ok32:aU Go.Proofs.Tryz.prog 12 32 F32=true:=by kernel_rfl
theorem ok33:aU Go.Proofs.Tryz.prog 12 33 F33=true:=by kernel_rfl
theorem ok34:aU Go.Proofs.Tryz.prog 12 34 F34=true:=by kernel_rfl
theorem ok35:aU Go.Proofs.Tryz.prog 12 35 F35=true:=by kernel_rfl
theorem ok36:aU Go.Proofs.Tryz.prog 12 36 F36=true:=by kernel_rfl
theorem ok37:aU Go.Proofs.Tryz.prog 12 37 F37=true:=by kernel_rfl
theorem ok38:aU Go.Proofs.Tryz.prog 12 38 F38=true:=by kernel_rfl
theorem ok39:aU Go.Proofs.Tryz.prog 12 39 F39=true:=by kernel_rfl
theorem ok40:aU Go.Proofs.Tryz.prog 12 40 F40=true:=by kernel_rfl
theorem ok41:aU Go.Proofs.Tryz.prog 12 41 F41=true:=by kernel_rfl
theorem ok42:aU Go.Proofs.Tryz.prog 12 42 F42=true:=by kernel_rfl
theorem ok43:aU Go.Proofs.Tryz.prog 12 43 F43=true:=by kernel_rfl
theorem ok44:aU Go.Proofs.Tryz.prog 12 44 F44=true:=by kernel_rfl
theorem ok47:aU Go.Proofs.Tryz.prog 12 47 F47=true:=by kernel_rfl
theorem ok48:aU Go.Proofs.Tryz.prog 12 48 F48=true:=by kernel_rfl
theorem ok49:aU Go.Proofs.Tryz.prog 12 49 F49=true:=by kernel_rfl
theorem ok50:aU Go.Proofs.Tryz.prog 12 50 F50=true:=by kernel_rfl
theorem ok51:aU Go.Proofs.Tryz.prog 12 51 F51=true:=by kernel_rfl
theorem ok52:aU Go.Proofs.Tryz.prog 12 52 F52=true:=by kernel_rfl
theorem ok53:aU Go.Proofs.Tryz.prog 12 53 F53=true:=by kernel_rfl
theorem ok54:aU Go.Proofs.Tryz.prog 12 54 F54=true:=by kernel_rfl
theorem ok55:aU Go.Proofs.Tryz.prog 12 55 F55=true:=by kernel_rfl
theorem ok56:aU Go.Proofs.Tryz.prog 12 56 F56=true:=by kernel_rfl
theorem ok57:aU Go.Proofs.Tryz.prog 12 57 F57=true:=by kernel_rfl
theorem ok58:aU Go.Proofs.Tryz.prog 12 58 F58=true:=by kernel_rfl
theorem ok59:aU Go.Proofs.Tryz.prog 12 59 F59=true:=by kernel_rfl
theorem ok61:aU Go.Proofs.Tryz.prog 12 61 F61=true:=by kernel_rfl
theorem ok62:aU Go.Proofs.Tryz.prog 12 62 F62=true:=by kernel_rfl
theorem ok63:aU Go.Proofs.Tryz.prog 12 63 F63=true:=by kernel_rfl
theorem ok64:aU Go.Proofs.Tryz.prog 12 64 F64=true:=by kernel_rfl
theorem ok66:aU Go.Proofs.Tryz.prog 12 66 F66=true:=by kernel_rfl
theorem ok67:aU Go.Proofs.Tryz.prog 12 67 F67=true:=by kernel_rfl
theorem ok68:aU Go.Proofs.Tryz.prog 12 68 F68=true:=by kernel_rfl
theorem ok69:aU Go.Proofs.Tryz.prog 12 69 F69=true:=by kernel_rfl
theorem ok70:aU Go.Proofs.Tryz.prog 12 70 F70=true:=by kernel_rfl
theorem ok71:aU Go.Proofs.Tryz.prog 12 71 F71=true:=by kernel_rfl
theorem ok72:aU Go.Proofs.Tryz.prog 12 72 F72=true:=by kernel_rfl
theorem ok74:aU Go.Proofs.Tryz.prog 12 74 F74=true:=by kernel_rfl
theorem ok75:aU Go.Proofs.Tryz.prog 12 75 F75=true:=by kernel_rfl
theorem ok76:aU Go.Proofs.Tryz.prog 12 76 F76=true:=by kernel_rfl
theorem ok77:aU Go.Proofs.Tryz.prog 12 77 F77=true:=by kernel_rfl
theorem ok78:aU Go.Proofs.Tryz.prog 12 78 F78=true:=by kernel_rfl
theorem ok79:aU Go.Proofs.Tryz.prog 12 79 F79=true:=by kernel_rfl
theorem ok80:aU Go.Proofs.Tryz.prog 12 80 F80=true:=by kernel_rfl
theorem ok81:aU Go.Proofs.Tryz.prog 12 81 F81=true:=by kernel_rfl
theorem ok82:aU Go.Proofs.Tryz.prog 12 82 F82=true:=by kernel_rfl
theorem ok83:aU Go.Proofs.Tryz.prog 12 83 F83=true:=by kernel_rfl
theorem ok84:aU Go.Proofs.Tryz.prog 12 84 F84=true:=by kernel_rfl
theorem ok85:aU Go.Proofs.Tryz.prog 12 85 F85=true:=by kernel_rfl
theorem ok86:aU Go.Proofs.Tryz.prog 12 86 F86=true:=by kernel_rfl
theorem ok87:aU Go.Proofs.Tryz.prog 12 87 F87=true:=by kernel_rfl
theorem ok88:aU Go.Proofs.Tryz.prog 12 88 F88=true:=by kernel_rfl
theorem ok89:aU Go.Proofs.Tryz.prog 12 89 F89=true:=by kernel_rfl
theorem ok90:aU Go.Proofs.Tryz.prog 12 90 F90=true:=by kernel_rfl
theorem ok91:aU Go.Proofs.Tryz.prog 12 91 F91=true:=by kernel_rfl
theorem ok92:aU Go.Proofs.Tryz.prog 12 92 F92=true:=by kernel_rfl
theorem ok93:aU Go.Proofs.Tryz.prog 12 93 F93=true:=by kernel_rfl
theorem ok94:aU Go.Proofs.Tryz.prog 12 94 F94=true:=by kernel_rfl
theorem ok95:aU Go.Proofs.Tryz.prog 12 95 F95=true:=by kernel_rfl
theorem ok97:aU Go.Proofs.Tryz.prog 12 97 F97=true:=by kernel_rfl
theorem ok98:aU Go.Proofs.Tryz.prog 12 98 F98=true:=by kernel_rfl
theorem ok99:aU Go.Proofs.Tryz.prog 12 99 F99=true:=by kernel_rfl
theorem ok102:aU Go.Proofs.Tryz.prog 12 102 Si=true:=by kernel_rfl
theorem ok103:aU Go.Proofs.Tryz.prog 12 103 Sj=true:=by kernel_rfl
theorem ok104:aU Go.Proofs.Tryz.prog 12 104 Ph=true:=by kernel_rfl
theorem ok105:aU Go.Proofs.Tryz.prog 12 105 Pj=true:=by kernel_rfl
theorem ok106:aU Go.Proofs.Tryz.prog 12 106 Sl=true:=by kernel_rfl
theorem ok107:aU Go.Proofs.Tryz.prog 12 107 Pm=true:=by kernel_rfl
theorem ok108:aU Go.Proofs.Tryz.prog 12 108 D7=true:=by kernel_rfl
theorem ok109:aU Go.Proofs.Tryz.prog 12 109 Sm=true:=by kernel_rfl
theorem ok111:aU Go.Proofs.Tryz.prog 12 111 Pn=true:=by kernel_rfl
theorem ok112:aU Go.Proofs.Tryz.prog 12 112 Sv=true:=by kernel_rfl
theorem ok113:aU Go.Proofs.Tryz.prog 12 113 Po=true:=by kernel_rfl
theorem ok114:aU Go.Proofs.Tryz.prog 12 114 Lp=true:=by kernel_rfl
theorem ok115:aU Go.Proofs.Tryz.prog 12 115 Sz=true:=by kernel_rfl
theorem ok116:aU Go.Proofs.Tryz.prog 12 116 D8=true:=by kernel_rfl
theorem ok117:aU Go.Proofs.Tryz.prog 12 117 Pq=true:=by kernel_rfl
theorem ok118:aU Go.Proofs.Tryz.prog 12 118 SA=true:=by kernel_rfl
theorem ok119:aU Go.Proofs.Tryz.prog 12 119 SB=true:=by kernel_rfl
theorem ok120:aU Go.Proofs.Tryz.prog 12 120 SC=true:=by kernel_rfl
theorem ok121:aU Go.Proofs.Tryz.prog 12 121 Pv=true:=by kernel_rfl
theorem ok122:aU Go.Proofs.Tryz.prog 12 122 SE=true:=by kernel_rfl
theorem ok123:aU Go.Proofs.Tryz.prog 12 123 Px=true:=by kernel_rfl
theorem ok124:aU Go.Proofs.Tryz.prog 12 124 SG=true:=by kernel_rfl
theorem ok125:aU Go.Proofs.Tryz.prog 12 125 SH=true:=by kernel_rfl
theorem ok126:aU Go.Proofs.Tryz.prog 12 126 Py=true:=by kernel_rfl
theorem ok127:aU Go.Proofs.Tryz.prog 12 127 SI=true:=by kernel_rfl
theorem ok129:aU Go.Proofs.Tryz.prog 12 129 Pz=true:=by kernel_rfl
theorem ok130:aU Go.Proofs.Tryz.prog 12 130 Jf=true:=by kernel_rfl
theorem ok131:aU Go.Proofs.Tryz.prog 12 131 PE=true:=by kernel_rfl
theorem ok138:aU Go.Proofs.Tryz.prog 12 138 SV=true:=by kernel_rfl
theorem ok139:aU Go.Proofs.Tryz.prog 12 139 Lr=true:=by kernel_rfl
theorem ok140:aU Go.Proofs.Tryz.prog 12 140 PG=true:=by kernel_rfl
theorem ok141:aU Go.Proofs.Tryz.prog 12 141 PI=true:=by kernel_rfl
theorem ok142:aU Go.Proofs.Tryz.prog 12 142 Cb=true:=by kernel_rfl
theorem ok143:aU Go.Proofs.Tryz.prog 12 143 SX=true:=by kernel_rfl
theorem ok150:aU Go.Proofs.Tryz.prog 12 150 Td=true:=by kernel_rfl
theorem ok151:aU Go.Proofs.Tryz.prog 12 151 PK=true:=by kernel_rfl
theorem ok155:aU Go.Proofs.Tryz.prog 12 155 Tm=true:=by kernel_rfl
theorem ok156:aU Go.Proofs.Tryz.prog 12 156 Tn=true:=by kernel_rfl
theorem ok157:aU Go.Proofs.Tryz.prog 12 157 PL=true:=by kernel_rfl
theorem ok158:aU Go.Proofs.Tryz.prog 12 158 Tq=true:=by kernel_rfl
theorem ok159:aU Go.Proofs.Tryz.prog 12 159 PN=true:=by kernel_rfl
theorem ok160:aU Go.Proofs.Tryz.prog 12 160 Tt=true:=by kernel_rfl
theorem ok161:aU Go.Proofs.Tryz.prog 12 161 Tv=true:=by kernel_rfl
theorem ok162:aU Go.Proofs.Tryz.prog 12 162 Tz=true:=by kernel_rfl
theorem ok163:aU Go.Proofs.Tryz.prog 12 163 Ls=true:=by kernel_rfl
theorem ok164:aU Go.Proofs.Tryz.prog 12 164 TA=true:=by kernel_rfl
theorem ok224:aU Go.Proofs.Tryz.prog 12 224 Uh=true:=by kernel_rfl
set_option maxRecDepth 50000 in
theorem fns_ok (f:Nat)(F:AF)(h:fns f=some F)(hne:f∉[110]):aU Go.Proofs.Tryz.prog 12 f F=true:=by
 unfold fns at h
 split at h
 ·cases h;exact ok3
 ·cases h;exact ok4
 ·cases h;exact ok5
 ·cases h;exact ok6
 ·cases h;exact ok7
 ·cases h;exact ok8
 ·cases h;exact ok10
 ·cases h;exact ok11
 ·cases h;exact ok12
 ·cases h;exact ok13
 ·cases h;exact ok14
 ·cases h;exact ok15
 ·cases h;exact ok16
 ·cases h;exact ok17
 ·cases h;exact ok18
 ·cases h;exact ok19
 ·cases h;exact ok20
 ·cases h;exact ok26
 ·cases h;exact ok27
 ·cases h;exact ok28
 ·cases h;exact ok29
 ·cases h;exact ok30
 ·cases h;exact ok31
 ·cases h;exact ok32
 ·cases h;exact ok33
 ·cases h;exact ok34
 ·cases h;exact ok35
 ·cases h;exact ok36
 ·cases h;exact ok37
 ·cases h;exact ok38
 ·cases h;exact ok39
 ·cases h;exact ok40
 ·cases h;exact ok41
 ·cases h;exact ok42
 ·cases h;exact ok43
 ·cases h;exact ok44
 ·cases h;exact ok47
 ·cases h;exact ok48
 ·cases h;exact ok49
 ·cases h;exact ok50
 ·cases h;exact ok51
 ·cases h;exact ok52
 ·cases h;exact ok53
 ·cases h;exact ok54
 ·cases h;exact ok55
 ·cases h;exact ok56
 ·cases h;exact ok57
 ·cases h;exact ok58
 ·cases h;exact ok59
 ·cases h;exact ok61
 ·cases h;exact ok62
 ·cases h;exact ok63
 ·cases h;exact ok64
 ·cases h;exact ok66
 ·cases h;exact ok67
 ·cases h;exact ok68
 ·cases h;exact ok69
 ·cases h;exact ok70
 ·cases h;exact ok71
 ·cases h;exact ok72
 ·cases h;exact ok74
 ·cases h;exact ok75
 ·cases h;exact ok76
 ·cases h;exact ok77
 ·cases h;exact ok78
 ·cases h;exact ok79
 ·cases h;exact ok80
 ·cases h;exact ok81
 ·cases h;exact ok82
 ·cases h;exact ok83
 ·cases h;exact ok84
 ·cases h;exact ok85
 ·cases h;exact ok86
 ·cases h;exact ok87
 ·cases h;exact ok88
 ·cases h;exact ok89
 ·cases h;exact ok90
 ·cases h;exact ok91
 ·cases h;exact ok92
 ·cases h;exact ok93
 ·cases h;exact ok94
 ·cases h;exact ok95
 ·cases h;exact ok97
 ·cases h;exact ok98
 ·cases h;exact ok99
 ·cases h;exact ok102
 ·cases h;exact ok103
 ·cases h;exact ok104
 ·cases h;exact ok105
 ·cases h;exact ok106
 ·cases h;exact ok107
 ·cases h;exact ok108
 ·cases h;exact ok109
 ·exact absurd (by simp) hne
 ·cases h;exact ok111
 ·cases h;exact ok112
 ·cases h;exact ok113
 ·cases h;exact ok114
 ·cases h;exact ok115
 ·cases h;exact ok116
 ·cases h;exact ok117
 ·cases h;exact ok118
 ·cases h;exact ok119
 ·cases h;exact ok120
 ·cases h;exact ok121
 ·cases h;exact ok122
 ·cases h;exact ok123
 ·cases h;exact ok124
 ·cases h;exact ok125
 ·cases h;exact ok126
 ·cases h;exact ok127
 ·cases h;exact ok129
 ·cases h;exact ok130
 ·cases h;exact ok131
 ·cases h;exact ok138
 ·cases h;exact ok139
 ·cases h;exact ok140
 ·cases h;exact ok141
 ·cases h;exact ok142
 ·cases h;exact ok143
 ·cases h;exact ok150
 ·cases h;exact ok151
 ·cases h;exact ok155
 ·cases h;exact ok156
 ·cases h;exact ok157
 ·cases h;exact ok158
 ·cases h;exact ok159
 ·cases h;exact ok160
 ·cases h;exact ok161
 ·cases h;exact ok162
 ·cases h;exact ok163
 ·cases h;exact ok164
 ·cases h;exact ok224
 ·cases h
end Go.dX.YthggaoedidfpcaaGreatDoor
