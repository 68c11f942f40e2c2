/- Texts of this claim, joined: Ok. -/
import Derived.Test.YtnbdedokjfpckaaGreatDoorM02
import Derived.Test.YtnbdedokjfpckaaGreatDoorM03
import Derived.Test.YtnbdedokjfpckaaGreatDoorProg
set_option linter.unusedVariables false
set_option linter.unusedSimpArgs false
namespace Go.dB.YtnbdedokjfpckaaGreatDoor
theorem ok3:aX Go.Proofs.Tryz.prog 10 3 F3=true:=by kernel_rfl
theorem ok4:aX Go.Proofs.Tryz.prog 10 4 F4=true:=by kernel_rfl
theorem ok7:aX Go.Proofs.Tryz.prog 10 7 F7=true:=by kernel_rfl
set_option maxRecDepth 100000 in
theorem ok8:aX Go.Proofs.Tryz.prog 10 8 F8=true:=by kernel_rfl
theorem ok9:aX Go.Proofs.Tryz.prog 10 9 F9=true:=by kernel_rfl
theorem ok10:aX Go.Proofs.Tryz.prog 10 10 F10=true:=by kernel_rfl
theorem ok11:aX Go.Proofs.Tryz.prog 10 11 F11=true:=by kernel_rfl
theorem ok12:aX Go.Proofs.Tryz.prog 10 12 F12=true:=by kernel_rfl
theorem ok13:aX Go.Proofs.Tryz.prog 10 13 F13=true:=by kernel_rfl
theorem ok14:aX Go.Proofs.Tryz.prog 10 14 F14=true:=by kernel_rfl
theorem ok15:aX Go.Proofs.Tryz.prog 10 15 F15=true:=by kernel_rfl
theorem ok16:aX Go.Proofs.Tryz.prog 10 16 F16=true:=by kernel_rfl
theorem ok17:aX Go.Proofs.Tryz.prog 10 17 F17=true:=by kernel_rfl
theorem ok24:aX Go.Proofs.Tryz.prog 10 24 VF=true:=by kernel_rfl
theorem ok25:aX Go.Proofs.Tryz.prog 10 25 F25=true:=by kernel_rfl
theorem ok26:aX Go.Proofs.Tryz.prog 10 26 F26=true:=by kernel_rfl
theorem ok27:aX Go.Proofs.Tryz.prog 10 27 F27=true:=by kernel_rfl
theorem ok28:aX Go.Proofs.Tryz.prog 10 28 F28=true:=by kernel_rfl
theorem ok29:aX Go.Proofs.Tryz.prog 10 29 F29=true:=by kernel_rfl
theorem ok30:aX Go.Proofs.Tryz.prog 10 30 F30=true:=by kernel_rfl
theorem ok31:aX Go.Proofs.Tryz.prog 10 31 F31=true:=by kernel_rfl
theorem ok34:aX Go.Proofs.Tryz.prog 10 34 F34=true:=by kernel_rfl
theorem ok35:aX Go.Proofs.Tryz.prog 10 35 F35=true:=by kernel_rfl
theorem ok36:aX Go.Proofs.Tryz.prog 10 36 F36=true:=by kernel_rfl
theorem ok37:aX Go.Proofs.Tryz.prog 10 37 F37=true:=by kernel_rfl
theorem ok38:aX Go.Proofs.Tryz.prog 10 38 F38=true:=by kernel_rfl
theorem ok47:aX Go.Proofs.Tryz.prog 10 47 F47=true:=by kernel_rfl
theorem ok48:aX Go.Proofs.Tryz.prog 10 48 F48=true:=by kernel_rfl
theorem ok49:aX Go.Proofs.Tryz.prog 10 49 F49=true:=by kernel_rfl
theorem ok50:aX Go.Proofs.Tryz.prog 10 50 VG=true:=by kernel_rfl
theorem ok51:aX Go.Proofs.Tryz.prog 10 51 F51=true:=by kernel_rfl
theorem ok52:aX Go.Proofs.Tryz.prog 10 52 F52=true:=by kernel_rfl
theorem ok53:aX Go.Proofs.Tryz.prog 10 53 F53=true:=by kernel_rfl
theorem ok54:aX Go.Proofs.Tryz.prog 10 54 F54=true:=by kernel_rfl
theorem ok55:aX Go.Proofs.Tryz.prog 10 55 F55=true:=by kernel_rfl
theorem ok56:aX Go.Proofs.Tryz.prog 10 56 F56=true:=by kernel_rfl
theorem ok57:aX Go.Proofs.Tryz.prog 10 57 F57=true:=by kernel_rfl
theorem ok58:aX Go.Proofs.Tryz.prog 10 58 F58=true:=by kernel_rfl
theorem ok59:aX Go.Proofs.Tryz.prog 10 59 F59=true:=by kernel_rfl
theorem ok60:aX Go.Proofs.Tryz.prog 10 60 F60=true:=by kernel_rfl
theorem ok61:aX Go.Proofs.Tryz.prog 10 61 F61=true:=by kernel_rfl
theorem ok62:aX Go.Proofs.Tryz.prog 10 62 F62=true:=by kernel_rfl
theorem ok63:aX Go.Proofs.Tryz.prog 10 63 F63=true:=by kernel_rfl
theorem ok64:aX Go.Proofs.Tryz.prog 10 64 F64=true:=by kernel_rfl
theorem ok65:aX Go.Proofs.Tryz.prog 10 65 F65=true:=by kernel_rfl
theorem ok66:aX Go.Proofs.Tryz.prog 10 66 F66=true:=by kernel_rfl
theorem ok67:aX Go.Proofs.Tryz.prog 10 67 F67=true:=by kernel_rfl
theorem ok68:aX Go.Proofs.Tryz.prog 10 68 F68=true:=by kernel_rfl
theorem ok69:aX Go.Proofs.Tryz.prog 10 69 WO=true:=by kernel_rfl
theorem ok70:aX Go.Proofs.Tryz.prog 10 70 VH=true:=by kernel_rfl
theorem ok71:aX Go.Proofs.Tryz.prog 10 71 F71=true:=by kernel_rfl
theorem ok72:aX Go.Proofs.Tryz.prog 10 72 F72=true:=by kernel_rfl
theorem ok73:aX Go.Proofs.Tryz.prog 10 73 F73=true:=by kernel_rfl
theorem ok74:aX Go.Proofs.Tryz.prog 10 74 F74=true:=by kernel_rfl
theorem ok75:aX Go.Proofs.Tryz.prog 10 75 F75=true:=by kernel_rfl
theorem ok76:aX Go.Proofs.Tryz.prog 10 76 F76=true:=by kernel_rfl
theorem ok79:aX Go.Proofs.Tryz.prog 10 79 F79=true:=by kernel_rfl
theorem ok80:aX Go.Proofs.Tryz.prog 10 80 F80=true:=by kernel_rfl
theorem ok81:aX Go.Proofs.Tryz.prog 10 81 F81=true:=by kernel_rfl
theorem ok82:aX Go.Proofs.Tryz.prog 10 82 F82=true:=by kernel_rfl
theorem ok83:aX Go.Proofs.Tryz.prog 10 83 F83=true:=by kernel_rfl
theorem ok86:aX Go.Proofs.Tryz.prog 10 86 F86=true:=by kernel_rfl
theorem ok87:aX Go.Proofs.Tryz.prog 10 87 F87=true:=by kernel_rfl
theorem ok88:aX Go.Proofs.Tryz.prog 10 88 F88=true:=by kernel_rfl
theorem ok89:aX Go.Proofs.Tryz.prog 10 89 F89=true:=by kernel_rfl
theorem ok90:aX Go.Proofs.Tryz.prog 10 90 F90=true:=by kernel_rfl
theorem ok91:aX Go.Proofs.Tryz.prog 10 91 F91=true:=by kernel_rfl
theorem ok92:aX Go.Proofs.Tryz.prog 10 92 F92=true:=by kernel_rfl
theorem ok93:aX Go.Proofs.Tryz.prog 10 93 F93=true:=by kernel_rfl
theorem ok94:aX Go.Proofs.Tryz.prog 10 94 F94=true:=by kernel_rfl
theorem ok95:aX Go.Proofs.Tryz.prog 10 95 F95=true:=by kernel_rfl
theorem ok96:aX Go.Proofs.Tryz.prog 10 96 F96=true:=by kernel_rfl
theorem ok97:aX Go.Proofs.Tryz.prog 10 97 F97=true:=by kernel_rfl
theorem ok98:aX Go.Proofs.Tryz.prog 10 98 F98=true:=by kernel_rfl
theorem ok99:aX Go.Proofs.Tryz.prog 10 99 F99=true:=by kernel_rfl
theorem ok100:aX Go.Proofs.Tryz.prog 10 100 JH=true:=by kernel_rfl
theorem ok101:aX Go.Proofs.Tryz.prog 10 101 Mc=true:=by kernel_rfl
theorem ok102:aX Go.Proofs.Tryz.prog 10 102 JI=true:=by kernel_rfl
theorem ok103:aX Go.Proofs.Tryz.prog 10 103 Md=true:=by kernel_rfl
theorem ok104:aX Go.Proofs.Tryz.prog 10 104 F5=true:=by kernel_rfl
theorem ok105:aX Go.Proofs.Tryz.prog 10 105 Me=true:=by kernel_rfl
theorem ok106:aX Go.Proofs.Tryz.prog 10 106 MB=true:=by kernel_rfl
theorem ok107:aX Go.Proofs.Tryz.prog 10 107 DW=true:=by kernel_rfl
theorem ok108:aX Go.Proofs.Tryz.prog 10 108 MC=true:=by kernel_rfl
theorem ok109:aX Go.Proofs.Tryz.prog 10 109 MF=true:=by kernel_rfl
theorem ok110:aX Go.Proofs.Tryz.prog 10 110 MG=true:=by kernel_rfl
theorem ok111:aX Go.Proofs.Tryz.prog 10 111 JJ=true:=by kernel_rfl
theorem ok112:aX Go.Proofs.Tryz.prog 10 112 MH=true:=by kernel_rfl
theorem ok113:aX Go.Proofs.Tryz.prog 10 113 MI=true:=by kernel_rfl
theorem ok114:aX Go.Proofs.Tryz.prog 10 114 MJ=true:=by kernel_rfl
theorem ok115:aX Go.Proofs.Tryz.prog 10 115 JK=true:=by kernel_rfl
theorem ok116:aX Go.Proofs.Tryz.prog 10 116 MK=true:=by kernel_rfl
theorem ok117:aX Go.Proofs.Tryz.prog 10 117 ML=true:=by kernel_rfl
theorem ok118:aX Go.Proofs.Tryz.prog 10 118 MN=true:=by kernel_rfl
theorem ok119:aX Go.Proofs.Tryz.prog 10 119 MO=true:=by kernel_rfl
theorem ok121:aX Go.Proofs.Tryz.prog 10 121 MP=true:=by kernel_rfl
theorem ok132:aX Go.Proofs.Tryz.prog 10 132 MQ=true:=by kernel_rfl
theorem ok133:aX Go.Proofs.Tryz.prog 10 133 MR=true:=by kernel_rfl
theorem ok137:aX Go.Proofs.Tryz.prog 10 137 MS=true:=by kernel_rfl
theorem ok140:aX Go.Proofs.Tryz.prog 10 140 JL=true:=by kernel_rfl
theorem ok141:aX Go.Proofs.Tryz.prog 10 141 JM=true:=by kernel_rfl
theorem ok142:aX Go.Proofs.Tryz.prog 10 142 JO=true:=by kernel_rfl
theorem ok145:aX Go.Proofs.Tryz.prog 10 145 MV=true:=by kernel_rfl
theorem ok147:aX Go.Proofs.Tryz.prog 10 147 MW=true:=by kernel_rfl
theorem ok148:aX Go.Proofs.Tryz.prog 10 148 MX=true:=by kernel_rfl
theorem ok149:aX Go.Proofs.Tryz.prog 10 149 MZ=true:=by kernel_rfl
theorem ok150:aX Go.Proofs.Tryz.prog 10 150 M_=true:=by kernel_rfl
theorem ok151:aX Go.Proofs.Tryz.prog 10 151 F6=true:=by kernel_rfl
theorem ok152:aX Go.Proofs.Tryz.prog 10 152 JQ=true:=by kernel_rfl
theorem ok153:aX Go.Proofs.Tryz.prog 10 153 yZ=true:=by kernel_rfl
theorem ok154:aX Go.Proofs.Tryz.prog 10 154 Na=true:=by kernel_rfl
theorem ok155:aX Go.Proofs.Tryz.prog 10 155 Nb=true:=by kernel_rfl
theorem ok156:aX Go.Proofs.Tryz.prog 10 156 Nc=true:=by kernel_rfl
theorem ok157:aX Go.Proofs.Tryz.prog 10 157 JR=true:=by kernel_rfl
theorem ok158:aX Go.Proofs.Tryz.prog 10 158 Gf=true:=by kernel_rfl
theorem ok159:aX Go.Proofs.Tryz.prog 10 159 Nh=true:=by kernel_rfl
theorem ok160:aX Go.Proofs.Tryz.prog 10 160 Nj=true:=by kernel_rfl
theorem ok161:aX Go.Proofs.Tryz.prog 10 161 JU=true:=by kernel_rfl
theorem ok162:aX Go.Proofs.Tryz.prog 10 162 Nk=true:=by kernel_rfl
theorem ok163:aX Go.Proofs.Tryz.prog 10 163 Gg=true:=by kernel_rfl
theorem ok180:aX Go.Proofs.Tryz.prog 10 180 Nl=true:=by kernel_rfl
theorem ok187:aX Go.Proofs.Tryz.prog 10 187 Np=true:=by kernel_rfl
theorem ok188:aX Go.Proofs.Tryz.prog 10 188 Nq=true:=by kernel_rfl
theorem ok189:aX Go.Proofs.Tryz.prog 10 189 Nr=true:=by kernel_rfl
theorem ok194:aX Go.Proofs.Tryz.prog 10 194 JV=true:=by kernel_rfl
theorem ok195:aX Go.Proofs.Tryz.prog 10 195 Ns=true:=by kernel_rfl
theorem ok196:aX Go.Proofs.Tryz.prog 10 196 Nu=true:=by kernel_rfl
theorem ok197:aX Go.Proofs.Tryz.prog 10 197 JW=true:=by kernel_rfl
theorem ok199:aX Go.Proofs.Tryz.prog 10 199 Nv=true:=by kernel_rfl
theorem ok201:aX Go.Proofs.Tryz.prog 10 201 Nw=true:=by kernel_rfl
theorem ok202:aX Go.Proofs.Tryz.prog 10 202 DX=true:=by kernel_rfl
theorem ok203:aX Go.Proofs.Tryz.prog 10 203 Ny=true:=by kernel_rfl
theorem ok204:aX Go.Proofs.Tryz.prog 10 204 Nz=true:=by kernel_rfl
theorem ok206:aX Go.Proofs.Tryz.prog 10 206 NC=true:=by kernel_rfl
theorem ok207:aX Go.Proofs.Tryz.prog 10 207 ND=true:=by kernel_rfl
theorem ok208:aX Go.Proofs.Tryz.prog 10 208 NG=true:=by kernel_rfl
theorem ok214:aX Go.Proofs.Tryz.prog 10 214 NH=true:=by kernel_rfl
theorem ok220:aX Go.Proofs.Tryz.prog 10 220 NI=true:=by kernel_rfl
theorem ok221:aX Go.Proofs.Tryz.prog 10 221 NJ=true:=by kernel_rfl
theorem ok222:aX Go.Proofs.Tryz.prog 10 222 vN=true:=by kernel_rfl
theorem ok223:aX Go.Proofs.Tryz.prog 10 223 xO=true:=by kernel_rfl
theorem ok225:aX Go.Proofs.Tryz.prog 10 225 DY=true:=by kernel_rfl
theorem ok226:aX Go.Proofs.Tryz.prog 10 226 NK=true:=by kernel_rfl
theorem ok227:aX Go.Proofs.Tryz.prog 10 227 NM=true:=by kernel_rfl
theorem ok228:aX Go.Proofs.Tryz.prog 10 228 NP=true:=by kernel_rfl
theorem ok234:aX Go.Proofs.Tryz.prog 10 234 NQ=true:=by kernel_rfl
theorem ok235:aX Go.Proofs.Tryz.prog 10 235 DZ=true:=by kernel_rfl
theorem ok236:aX Go.Proofs.Tryz.prog 10 236 NR=true:=by kernel_rfl
theorem ok237:aX Go.Proofs.Tryz.prog 10 237 NS=true:=by kernel_rfl
theorem ok238:aX Go.Proofs.Tryz.prog 10 238 NT=true:=by kernel_rfl
theorem ok239:aX Go.Proofs.Tryz.prog 10 239 NU=true:=by kernel_rfl
set_option maxRecDepth 50000 in
theorem fns_ok (f:Nat)(F:AF)(h:fns f=some F)(hne:f∉[23]):aX Go.Proofs.Tryz.prog 10 f F=true:=by
 unfold fns at h
 split at h
 ·cases h;exact ok3
 ·cases h;exact ok4
 ·cases h;exact ok7
 ·cases h;exact ok8
 ·cases h;exact ok9
 ·cases h;exact ok10
 ·cases h;exact ok11
 ·cases h;exact ok12
 ·cases h;exact ok13
 ·cases h;exact ok14
 ·cases h;exact ok15
 ·cases h;exact ok16
 ·cases h;exact ok17
 ·exact absurd (by simp) hne
 ·cases h;exact ok24
 ·cases h;exact ok25
 ·cases h;exact ok26
 ·cases h;exact ok27
 ·cases h;exact ok28
 ·cases h;exact ok29
 ·cases h;exact ok30
 ·cases h;exact ok31
 ·cases h;exact ok34
 ·cases h;exact ok35
 ·cases h;exact ok36
 ·cases h;exact ok37
 ·cases h;exact ok38
 ·cases h;exact ok47
 ·cases h;exact ok48
 ·cases h;exact ok49
 ·cases h;exact ok50
 ·cases h;exact ok51
 ·cases h;exact ok52
 ·cases h;exact ok53
 ·cases h;exact ok54
 ·cases h;exact ok55
 ·cases h;exact ok56
 ·cases h;exact ok57
 ·cases h;exact ok58
 ·cases h;exact ok59
 ·cases h;exact ok60
 ·cases h;exact ok61
 ·cases h;exact ok62
 ·cases h;exact ok63
 ·cases h;exact ok64
 ·cases h;exact ok65
 ·cases h;exact ok66
 ·cases h;exact ok67
 ·cases h;exact ok68
 ·cases h;exact ok69
 ·cases h;exact ok70
 ·cases h;exact ok71
 ·cases h;exact ok72
 ·cases h;exact ok73
 ·cases h;exact ok74
 ·cases h;exact ok75
 ·cases h;exact ok76
 ·cases h;exact ok79
 ·cases h;exact ok80
 ·cases h;exact ok81
 ·cases h;exact ok82
 ·cases h;exact ok83
 ·cases h;exact ok86
 ·cases h;exact ok87
 ·cases h;exact ok88
 ·cases h;exact ok89
 ·cases h;exact ok90
 ·cases h;exact ok91
 ·cases h;exact ok92
 ·cases h;exact ok93
 ·cases h;exact ok94
 ·cases h;exact ok95
 ·cases h;exact ok96
 ·cases h;exact ok97
 ·cases h;exact ok98
 ·cases h;exact ok99
 ·cases h;exact ok100
 ·cases h;exact ok101
 ·cases h;exact ok102
 ·cases h;exact ok103
 ·cases h;exact ok104
 ·cases h;exact ok105
 ·cases h;exact ok106
 ·cases h;exact ok107
 ·cases h;exact ok108
 ·cases h;exact ok109
 ·cases h;exact ok110
 ·cases h;exact ok111
 ·cases h;exact ok112
 ·cases h;exact ok113
 ·cases h;exact ok114
 ·cases h;exact ok115
 ·cases h;exact ok116
 ·cases h;exact ok117
 ·cases h;exact ok118
 ·cases h;exact ok119
 ·cases h;exact ok121
 ·cases h;exact ok132
 ·cases h;exact ok133
 ·cases h;exact ok137
 ·cases h;exact ok140
 ·cases h;exact ok141
 ·cases h;exact ok142
 ·cases h;exact ok145
 ·cases h;exact ok147
 ·cases h;exact ok148
 ·cases h;exact ok149
 ·cases h;exact ok150
 ·cases h;exact ok151
 ·cases h;exact ok152
 ·cases h;exact ok153
 ·cases h;exact ok154
 ·cases h;exact ok155
 ·cases h;exact ok156
 ·cases h;exact ok157
 ·cases h;exact ok158
 ·cases h;exact ok159
 ·cases h;exact ok160
 ·cases h;exact ok161
 ·cases h;exact ok162
 ·cases h;exact ok163
 ·cases h;exact ok180
 ·cases h;exact ok187
 ·cases h;exact ok188
 ·cases h;exact ok189
 ·cases h;exact ok194
 ·cases h;exact ok195
 ·cases h;exact ok196
 ·cases h;exact ok197
 ·cases h;exact ok199
 ·cases h;exact ok201
 ·cases h;exact ok202
 ·cases h;exact ok203
 ·cases h;exact ok204
 ·cases h;exact ok206
 ·cases h;exact ok207
 ·cases h;exact ok208
 ·cases h;exact ok214
 ·cases h;exact ok220
 ·cases h;exact ok221
 ·cases h;exact ok222
 ·cases h;exact ok223
 ·cases h;exact ok225
 ·cases h;exact ok226
 ·cases h;exact ok227
 ·cases h;exact ok228
 ·cases h;exact ok234
 ·cases h;exact ok235
 ·cases h;exact ok236
 ·cases h;exact ok237
 ·cases h;exact ok238
 ·cases h;exact ok239
 ·cases h
end Go.dB.YtnbdedokjfpckaaGreatDoor
