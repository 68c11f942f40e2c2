/- Texts of this claim, joined: Ok. -/
import Derived.Test.YtnbdedokjfpckaaGreatDoorM02
import Derived.Test.YtnbdedokjfpckaaGreatDoorM03
import Derived.Test.YtnbdedokjfpckaaGreatDoorProg
set_option linter.unusedVariables false
set_option linter.unusedSimpArgs false
namespace Go.cO.YtnbdedokjfpckaaGreatDoor
theorem ok5:bD Go.Proofs.Tryz.prog 10 5 F5=true:=by kernel_rfl
theorem ok6:bD Go.Proofs.Tryz.prog 10 6 F6=true:=by kernel_rfl
theorem ok7:bD Go.Proofs.Tryz.prog 10 7 F7=true:=by kernel_rfl
set_option maxRecDepth 100000 in
theorem ok8:bD Go.Proofs.Tryz.prog 10 8 F8=true:=by kernel_rfl
theorem ok9:bD Go.Proofs.Tryz.prog 10 9 F9=true:=by kernel_rfl
theorem ok10:bD Go.Proofs.Tryz.prog 10 10 F10=true:=by kernel_rfl
theorem ok11:bD Go.Proofs.Tryz.prog 10 11 F11=true:=by kernel_rfl
theorem ok12:bD Go.Proofs.Tryz.prog 10 12 F12=true:=by kernel_rfl
theorem ok13:bD Go.Proofs.Tryz.prog 10 13 F13=true:=by kernel_rfl
theorem ok15:bD Go.Proofs.Tryz.prog 10 15 F15=true:=by kernel_rfl
theorem ok16:bD Go.Proofs.Tryz.prog 10 16 F16=true:=by kernel_rfl
theorem ok17:bD Go.Proofs.Tryz.prog 10 17 F17=true:=by kernel_rfl
theorem ok18:bD Go.Proofs.Tryz.prog 10 18 F18=true:=by kernel_rfl
theorem ok19:bD Go.Proofs.Tryz.prog 10 19 F19=true:=by kernel_rfl
theorem ok20:bD Go.Proofs.Tryz.prog 10 20 F20=true:=by kernel_rfl
theorem ok21:bD Go.Proofs.Tryz.prog 10 21 F21=true:=by kernel_rfl
theorem ok22:bD Go.Proofs.Tryz.prog 10 22 F22=true:=by kernel_rfl
theorem ok24:bD Go.Proofs.Tryz.prog 10 24 Vb=true:=by kernel_rfl
theorem ok25:bD Go.Proofs.Tryz.prog 10 25 F25=true:=by kernel_rfl
theorem ok26:bD Go.Proofs.Tryz.prog 10 26 F26=true:=by kernel_rfl
theorem ok27:bD Go.Proofs.Tryz.prog 10 27 F27=true:=by kernel_rfl
theorem ok28:bD Go.Proofs.Tryz.prog 10 28 F28=true:=by kernel_rfl
theorem ok29:bD Go.Proofs.Tryz.prog 10 29 F29=true:=by kernel_rfl
theorem ok30:bD Go.Proofs.Tryz.prog 10 30 F30=true:=by kernel_rfl
theorem ok31:bD Go.Proofs.Tryz.prog 10 31 F31=true:=by kernel_rfl
theorem ok32:bD Go.Proofs.Tryz.prog 10 32 F32=true:=by kernel_rfl
theorem ok33:bD Go.Proofs.Tryz.prog 10 33 F33=true:=by kernel_rfl
theorem ok34:bD Go.Proofs.Tryz.prog 10 34 F34=true:=by kernel_rfl
theorem ok35:bD Go.Proofs.Tryz.prog 10 35 F35=true:=by kernel_rfl
theorem ok37:bD Go.Proofs.Tryz.prog 10 37 F37=true:=by kernel_rfl
theorem ok38:bD Go.Proofs.Tryz.prog 10 38 F38=true:=by kernel_rfl
theorem ok39:bD Go.Proofs.Tryz.prog 10 39 F39=true:=by kernel_rfl
theorem ok41:bD Go.Proofs.Tryz.prog 10 41 F41=true:=by kernel_rfl
theorem ok42:bD Go.Proofs.Tryz.prog 10 42 F42=true:=by kernel_rfl
theorem ok43:bD Go.Proofs.Tryz.prog 10 43 F43=true:=by kernel_rfl
theorem ok44:bD Go.Proofs.Tryz.prog 10 44 F44=true:=by kernel_rfl
theorem ok45:bD Go.Proofs.Tryz.prog 10 45 F45=true:=by kernel_rfl
theorem ok47:bD Go.Proofs.Tryz.prog 10 47 F47=true:=by kernel_rfl
theorem ok48:bD Go.Proofs.Tryz.prog 10 48 F48=true:=by kernel_rfl
theorem ok50:bD Go.Proofs.Tryz.prog 10 50 Vd=true:=by kernel_rfl
theorem ok51:bD Go.Proofs.Tryz.prog 10 51 F51=true:=by kernel_rfl
theorem ok52:bD Go.Proofs.Tryz.prog 10 52 F52=true:=by kernel_rfl
theorem ok53:bD Go.Proofs.Tryz.prog 10 53 F53=true:=by kernel_rfl
theorem ok54:bD Go.Proofs.Tryz.prog 10 54 F54=true:=by kernel_rfl
theorem ok55:bD Go.Proofs.Tryz.prog 10 55 F55=true:=by kernel_rfl
theorem ok56:bD Go.Proofs.Tryz.prog 10 56 F56=true:=by kernel_rfl
theorem ok57:bD Go.Proofs.Tryz.prog 10 57 F57=true:=by kernel_rfl
theorem ok58:bD Go.Proofs.Tryz.prog 10 58 F58=true:=by kernel_rfl
theorem ok59:bD Go.Proofs.Tryz.prog 10 59 F59=true:=by kernel_rfl
theorem ok60:bD Go.Proofs.Tryz.prog 10 60 F60=true:=by kernel_rfl
theorem ok61:bD Go.Proofs.Tryz.prog 10 61 F61=true:=by kernel_rfl
theorem ok62:bD Go.Proofs.Tryz.prog 10 62 F62=true:=by kernel_rfl
theorem ok63:bD Go.Proofs.Tryz.prog 10 63 F63=true:=by kernel_rfl
theorem ok64:bD Go.Proofs.Tryz.prog 10 64 F64=true:=by kernel_rfl
theorem ok65:bD Go.Proofs.Tryz.prog 10 65 F65=true:=by kernel_rfl
theorem ok66:bD Go.Proofs.Tryz.prog 10 66 F66=true:=by kernel_rfl
theorem ok67:bD Go.Proofs.Tryz.prog 10 67 F67=true:=by kernel_rfl
theorem ok68:bD Go.Proofs.Tryz.prog 10 68 F68=true:=by kernel_rfl
theorem ok69:bD Go.Proofs.Tryz.prog 10 69 V8=true:=by kernel_rfl
theorem ok71:bD Go.Proofs.Tryz.prog 10 71 F71=true:=by kernel_rfl
theorem ok72:bD Go.Proofs.Tryz.prog 10 72 F72=true:=by kernel_rfl
theorem ok73:bD Go.Proofs.Tryz.prog 10 73 F73=true:=by kernel_rfl
theorem ok74:bD Go.Proofs.Tryz.prog 10 74 F74=true:=by kernel_rfl
theorem ok75:bD Go.Proofs.Tryz.prog 10 75 F75=true:=by kernel_rfl
theorem ok76:bD Go.Proofs.Tryz.prog 10 76 F76=true:=by kernel_rfl
theorem ok77:bD Go.Proofs.Tryz.prog 10 77 F77=true:=by kernel_rfl
theorem ok79:bD Go.Proofs.Tryz.prog 10 79 F79=true:=by kernel_rfl
theorem ok81:bD Go.Proofs.Tryz.prog 10 81 F81=true:=by kernel_rfl
theorem ok83:bD Go.Proofs.Tryz.prog 10 83 F83=true:=by kernel_rfl
theorem ok84:bD Go.Proofs.Tryz.prog 10 84 F84=true:=by kernel_rfl
theorem ok85:bD Go.Proofs.Tryz.prog 10 85 F85=true:=by kernel_rfl
theorem ok86:bD Go.Proofs.Tryz.prog 10 86 F86=true:=by kernel_rfl
theorem ok87:bD Go.Proofs.Tryz.prog 10 87 F87=true:=by kernel_rfl
theorem ok90:bD Go.Proofs.Tryz.prog 10 90 F90=true:=by kernel_rfl
theorem ok91:bD Go.Proofs.Tryz.prog 10 91 F91=true:=by kernel_rfl
theorem ok92:bD Go.Proofs.Tryz.prog 10 92 F92=true:=by kernel_rfl
theorem ok93:bD Go.Proofs.Tryz.prog 10 93 F93=true:=by kernel_rfl
theorem ok95:bD Go.Proofs.Tryz.prog 10 95 F95=true:=by kernel_rfl
theorem ok96:bD Go.Proofs.Tryz.prog 10 96 F96=true:=by kernel_rfl
theorem ok97:bD Go.Proofs.Tryz.prog 10 97 F97=true:=by kernel_rfl
theorem ok98:bD Go.Proofs.Tryz.prog 10 98 F98=true:=by kernel_rfl
theorem ok99:bD Go.Proofs.Tryz.prog 10 99 F99=true:=by kernel_rfl
theorem ok100:bD Go.Proofs.Tryz.prog 10 100 La=true:=by kernel_rfl
theorem ok101:bD Go.Proofs.Tryz.prog 10 101 Ob=true:=by kernel_rfl
theorem ok102:bD Go.Proofs.Tryz.prog 10 102 Lc=true:=by kernel_rfl
theorem ok103:bD Go.Proofs.Tryz.prog 10 103 Oc=true:=by kernel_rfl
theorem ok104:bD Go.Proofs.Tryz.prog 10 104 H7=true:=by kernel_rfl
theorem ok105:bD Go.Proofs.Tryz.prog 10 105 Oe=true:=by kernel_rfl
theorem ok106:bD Go.Proofs.Tryz.prog 10 106 Og=true:=by kernel_rfl
theorem ok107:bD Go.Proofs.Tryz.prog 10 107 EU=true:=by kernel_rfl
theorem ok108:bD Go.Proofs.Tryz.prog 10 108 Oh=true:=by kernel_rfl
theorem ok109:bD Go.Proofs.Tryz.prog 10 109 Oi=true:=by kernel_rfl
theorem ok110:bD Go.Proofs.Tryz.prog 10 110 Oj=true:=by kernel_rfl
theorem ok111:bD Go.Proofs.Tryz.prog 10 111 Ld=true:=by kernel_rfl
theorem ok112:bD Go.Proofs.Tryz.prog 10 112 Ol=true:=by kernel_rfl
theorem ok113:bD Go.Proofs.Tryz.prog 10 113 Om=true:=by kernel_rfl
theorem ok114:bD Go.Proofs.Tryz.prog 10 114 Oo=true:=by kernel_rfl
theorem ok119:bD Go.Proofs.Tryz.prog 10 119 Oq=true:=by kernel_rfl
theorem ok121:bD Go.Proofs.Tryz.prog 10 121 Ot=true:=by kernel_rfl
theorem ok132:bD Go.Proofs.Tryz.prog 10 132 Le=true:=by kernel_rfl
theorem ok133:bD Go.Proofs.Tryz.prog 10 133 Lh=true:=by kernel_rfl
theorem ok134:bD Go.Proofs.Tryz.prog 10 134 Lj=true:=by kernel_rfl
theorem ok135:bD Go.Proofs.Tryz.prog 10 135 Ou=true:=by kernel_rfl
theorem ok136:bD Go.Proofs.Tryz.prog 10 136 Ll=true:=by kernel_rfl
theorem ok137:bD Go.Proofs.Tryz.prog 10 137 Ov=true:=by kernel_rfl
theorem ok145:bD Go.Proofs.Tryz.prog 10 145 Ox=true:=by kernel_rfl
theorem ok147:bD Go.Proofs.Tryz.prog 10 147 Oy=true:=by kernel_rfl
theorem ok148:bD Go.Proofs.Tryz.prog 10 148 Oz=true:=by kernel_rfl
theorem ok149:bD Go.Proofs.Tryz.prog 10 149 OA=true:=by kernel_rfl
theorem ok150:bD Go.Proofs.Tryz.prog 10 150 OB=true:=by kernel_rfl
theorem ok152:bD Go.Proofs.Tryz.prog 10 152 Lm=true:=by kernel_rfl
theorem ok153:bD Go.Proofs.Tryz.prog 10 153 AL=true:=by kernel_rfl
theorem ok154:bD Go.Proofs.Tryz.prog 10 154 OC=true:=by kernel_rfl
theorem ok155:bD Go.Proofs.Tryz.prog 10 155 OD=true:=by kernel_rfl
theorem ok156:bD Go.Proofs.Tryz.prog 10 156 OE=true:=by kernel_rfl
theorem ok157:bD Go.Proofs.Tryz.prog 10 157 Lp=true:=by kernel_rfl
theorem ok158:bD Go.Proofs.Tryz.prog 10 158 H8=true:=by kernel_rfl
theorem ok180:bD Go.Proofs.Tryz.prog 10 180 OG=true:=by kernel_rfl
theorem ok186:bD Go.Proofs.Tryz.prog 10 186 Lr=true:=by kernel_rfl
theorem ok187:bD Go.Proofs.Tryz.prog 10 187 OH=true:=by kernel_rfl
theorem ok194:bD Go.Proofs.Tryz.prog 10 194 Ls=true:=by kernel_rfl
theorem ok195:bD Go.Proofs.Tryz.prog 10 195 OI=true:=by kernel_rfl
theorem ok196:bD Go.Proofs.Tryz.prog 10 196 OJ=true:=by kernel_rfl
theorem ok199:bD Go.Proofs.Tryz.prog 10 199 OL=true:=by kernel_rfl
theorem ok203:bD Go.Proofs.Tryz.prog 10 203 OM=true:=by kernel_rfl
theorem ok204:bD Go.Proofs.Tryz.prog 10 204 OO=true:=by kernel_rfl
theorem ok220:bD Go.Proofs.Tryz.prog 10 220 OQ=true:=by kernel_rfl
set_option maxRecDepth 50000 in
theorem fns_ok (f:Nat)(F:AF)(h:fns f=some F)(hne:f∉[23]):bD Go.Proofs.Tryz.prog 10 f F=true:=by
 unfold fns at h
 split at h
 ·cases h;exact ok5
 ·cases h;exact ok6
 ·cases h;exact ok7
 ·cases h;exact ok8
 ·cases h;exact ok9
 ·cases h;exact ok10
 ·cases h;exact ok11
 ·cases h;exact ok12
 ·cases h;exact ok13
 ·cases h;exact ok15
 ·cases h;exact ok16
 ·cases h;exact ok17
 ·cases h;exact ok18
 ·cases h;exact ok19
 ·cases h;exact ok20
 ·cases h;exact ok21
 ·cases h;exact ok22
 ·cases h;exact ok24
 ·cases h;exact ok25
 ·cases h;exact ok26
 ·cases h;exact ok27
 ·cases h;exact ok28
 ·cases h;exact ok29
 ·cases h;exact ok30
 ·cases h;exact ok31
 ·cases h;exact ok32
 ·cases h;exact ok33
 ·cases h;exact ok34
 ·cases h;exact ok35
 ·cases h;exact ok37
 ·cases h;exact ok38
 ·cases h;exact ok39
 ·cases h;exact ok41
 ·cases h;exact ok42
 ·cases h;exact ok43
 ·cases h;exact ok44
 ·cases h;exact ok45
 ·cases h;exact ok47
 ·cases h;exact ok48
 ·cases h;exact ok50
 ·cases h;exact ok51
 ·cases h;exact ok52
 ·cases h;exact ok53
 ·cases h;exact ok54
 ·cases h;exact ok55
 ·cases h;exact ok56
 ·cases h;exact ok57
 ·cases h;exact ok58
 ·cases h;exact ok59
 ·cases h;exact ok60
 ·cases h;exact ok61
 ·cases h;exact ok62
 ·cases h;exact ok63
 ·cases h;exact ok64
 ·cases h;exact ok65
 ·cases h;exact ok66
 ·cases h;exact ok67
 ·cases h;exact ok68
 ·cases h;exact ok69
 ·cases h;exact ok71
 ·cases h;exact ok72
 ·cases h;exact ok73
 ·cases h;exact ok74
 ·cases h;exact ok75
 ·cases h;exact ok76
 ·cases h;exact ok77
 ·cases h;exact ok79
 ·cases h;exact ok81
 ·cases h;exact ok83
 ·cases h;exact ok84
 ·cases h;exact ok85
 ·cases h;exact ok86
 ·cases h;exact ok87
 ·cases h;exact ok90
 ·cases h;exact ok91
 ·cases h;exact ok92
 ·cases h;exact ok93
 ·cases h;exact ok95
 ·cases h;exact ok96
 ·cases h;exact ok97
 ·cases h;exact ok98
 ·cases h;exact ok99
 ·cases h;exact ok100
 ·cases h;exact ok101
 ·cases h;exact ok102
 ·cases h;exact ok103
 ·cases h;exact ok104
 ·cases h;exact ok105
 ·cases h;exact ok106
 ·cases h;exact ok107
 ·cases h;exact ok108
 ·cases h;exact ok109
 ·cases h;exact ok110
 ·cases h;exact ok111
 ·cases h;exact ok112
 ·cases h;exact ok113
 ·cases h;exact ok114
 ·cases h;exact ok119
 ·cases h;exact ok121
 ·cases h;exact ok132
 ·cases h;exact ok133
 ·cases h;exact ok134
 ·cases h;exact ok135
 ·cases h;exact ok136
 ·cases h;exact ok137
 ·cases h;exact ok145
 ·cases h;exact ok147
 ·cases h;exact ok148
 ·cases h;exact ok149
 ·cases h;exact ok150
 ·cases h;exact ok152
 ·cases h;exact ok153
 ·cases h;exact ok154
 ·cases h;exact ok155
 ·cases h;exact ok156
 ·cases h;exact ok157
 ·cases h;exact ok158
 ·cases h;exact ok180
 ·cases h;exact ok186
 ·cases h;exact ok187
 ·cases h;exact ok194
 ·cases h;exact ok195
 ·cases h;exact ok196
 ·cases h;exact ok199
 ·cases h;exact ok203
 ·cases h;exact ok204
 ·cases h;exact ok220
 ·cases h
end Go.cO.YtnbdedokjfpckaaGreatDoor
