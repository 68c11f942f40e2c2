/- Texts of this claim, joined: Ok. -/
import Derived.Test.YtjcicgkencfbgaaGreatDoorM02
import Derived.Test.YtjcicgkencfbgaaGreatDoorM03
import Derived.Test.YtjcicgkencfbgaaGreatDoorProg
set_option linter.unusedVariables false
set_option linter.unusedSimpArgs false
namespace Go.bG.YtjcicgkencfbgaaGreatDoor
theorem ok2:bM Go.Proofs.Tryz.prog 11 2 F2=true:=by kernel_rfl
theorem ok3:bM Go.Proofs.Tryz.prog 11 3 F3=true:=by kernel_rfl
theorem ok4:bM Go.Proofs.Tryz.prog 11 4 F4=true:=by kernel_rfl
theorem ok5:bM Go.Proofs.Tryz.prog 11 5 F5=true:=by kernel_rfl
theorem ok6:bM Go.Proofs.Tryz.prog 11 6 F6=true:=by kernel_rfl
theorem ok7:bM Go.Proofs.Tryz.prog 11 7 F7=true:=by kernel_rfl
theorem ok8:bM Go.Proofs.Tryz.prog 11 8 F8=true:=by kernel_rfl
theorem ok9:bM Go.Proofs.Tryz.prog 11 9 F9=true:=by kernel_rfl
theorem ok10:bM Go.Proofs.Tryz.prog 11 10 F10=true:=by kernel_rfl
theorem ok11:bM Go.Proofs.Tryz.prog 11 11 F11=true:=by kernel_rfl
theorem ok17:bM Go.Proofs.Tryz.prog 11 17 F17=true:=by kernel_rfl
theorem ok18:bM Go.Proofs.Tryz.prog 11 18 F18=true:=by kernel_rfl
theorem ok19:bM Go.Proofs.Tryz.prog 11 19 Xh=true:=by kernel_rfl
theorem ok20:bM Go.Proofs.Tryz.prog 11 20 F20=true:=by kernel_rfl
theorem ok22:bM Go.Proofs.Tryz.prog 11 22 F22=true:=by kernel_rfl
theorem ok23:bM Go.Proofs.Tryz.prog 11 23 F23=true:=by kernel_rfl
theorem ok24:bM Go.Proofs.Tryz.prog 11 24 F24=true:=by kernel_rfl
theorem ok25:bM Go.Proofs.Tryz.prog 11 25 F25=true:=by kernel_rfl
theorem ok26:bM Go.Proofs.Tryz.prog 11 26 F26=true:=by kernel_rfl
theorem ok28:bM Go.Proofs.Tryz.prog 11 28 F28=true:=by kernel_rfl
theorem ok29:bM Go.Proofs.Tryz.prog 11 29 F29=true:=by kernel_rfl
theorem ok30:bM Go.Proofs.Tryz.prog 11 30 F30=true:=by kernel_rfl
theorem ok31:bM Go.Proofs.Tryz.prog 11 31 F31=true:=by kernel_rfl
theorem ok33:bM Go.Proofs.Tryz.prog 11 33 F33=true:=by kernel_rfl
theorem ok34:bM Go.Proofs.Tryz.prog 11 34 F34=true:=by kernel_rfl
theorem ok35:bM Go.Proofs.Tryz.prog 11 35 F35=true:=by kernel_rfl
theorem ok36:bM Go.Proofs.Tryz.prog 11 36 F36=true:=by kernel_rfl
theorem ok48:bM Go.Proofs.Tryz.prog 11 48 F48=true:=by kernel_rfl
theorem ok49:bM Go.Proofs.Tryz.prog 11 49 F49=true:=by kernel_rfl
theorem ok50:bM Go.Proofs.Tryz.prog 11 50 Xi=true:=by kernel_rfl
theorem ok51:bM Go.Proofs.Tryz.prog 11 51 Xj=true:=by kernel_rfl
theorem ok52:bM Go.Proofs.Tryz.prog 11 52 F52=true:=by kernel_rfl
theorem ok54:bM Go.Proofs.Tryz.prog 11 54 F54=true:=by kernel_rfl
theorem ok55:bM Go.Proofs.Tryz.prog 11 55 F55=true:=by kernel_rfl
theorem ok57:bM Go.Proofs.Tryz.prog 11 57 F57=true:=by kernel_rfl
theorem ok58:bM Go.Proofs.Tryz.prog 11 58 F58=true:=by kernel_rfl
theorem ok59:bM Go.Proofs.Tryz.prog 11 59 F59=true:=by kernel_rfl
theorem ok61:bM Go.Proofs.Tryz.prog 11 61 F61=true:=by kernel_rfl
theorem ok62:bM Go.Proofs.Tryz.prog 11 62 F62=true:=by kernel_rfl
theorem ok63:bM Go.Proofs.Tryz.prog 11 63 F63=true:=by kernel_rfl
theorem ok66:bM Go.Proofs.Tryz.prog 11 66 F66=true:=by kernel_rfl
theorem ok67:bM Go.Proofs.Tryz.prog 11 67 F67=true:=by kernel_rfl
theorem ok68:bM Go.Proofs.Tryz.prog 11 68 F68=true:=by kernel_rfl
theorem ok69:bM Go.Proofs.Tryz.prog 11 69 F69=true:=by kernel_rfl
theorem ok70:bM Go.Proofs.Tryz.prog 11 70 F70=true:=by kernel_rfl
theorem ok71:bM Go.Proofs.Tryz.prog 11 71 F71=true:=by kernel_rfl
theorem ok86:bM Go.Proofs.Tryz.prog 11 86 F86=true:=by kernel_rfl
theorem ok87:bM Go.Proofs.Tryz.prog 11 87 F87=true:=by kernel_rfl
theorem ok88:bM Go.Proofs.Tryz.prog 11 88 F88=true:=by kernel_rfl
theorem ok90:bM Go.Proofs.Tryz.prog 11 90 F90=true:=by kernel_rfl
theorem ok91:bM Go.Proofs.Tryz.prog 11 91 F91=true:=by kernel_rfl
theorem ok92:bM Go.Proofs.Tryz.prog 11 92 F92=true:=by kernel_rfl
theorem ok93:bM Go.Proofs.Tryz.prog 11 93 F93=true:=by kernel_rfl
theorem ok95:bM Go.Proofs.Tryz.prog 11 95 F95=true:=by kernel_rfl
theorem ok104:bM Go.Proofs.Tryz.prog 11 104 Xl=true:=by kernel_rfl
theorem ok105:bM Go.Proofs.Tryz.prog 11 105 ZR=true:=by kernel_rfl
theorem ok106:bM Go.Proofs.Tryz.prog 11 106 Xm=true:=by kernel_rfl
theorem ok107:bM Go.Proofs.Tryz.prog 11 107 MQ=true:=by kernel_rfl
theorem ok108:bM Go.Proofs.Tryz.prog 11 108 Xn=true:=by kernel_rfl
theorem ok109:bM Go.Proofs.Tryz.prog 11 109 SY=true:=by kernel_rfl
theorem ok110:bM Go.Proofs.Tryz.prog 11 110 ZT=true:=by kernel_rfl
theorem ok118:bM Go.Proofs.Tryz.prog 11 118 PX=true:=by kernel_rfl
theorem ok119:bM Go.Proofs.Tryz.prog 11 119 ZX=true:=by kernel_rfl
theorem ok120:bM Go.Proofs.Tryz.prog 11 120 H8=true:=by kernel_rfl
theorem ok121:bM Go.Proofs.Tryz.prog 11 121 F121=true:=by kernel_rfl
theorem ok122:bM Go.Proofs.Tryz.prog 11 122 F122=true:=by kernel_rfl
theorem ok123:bM Go.Proofs.Tryz.prog 11 123 F123=true:=by kernel_rfl
theorem ok124:bM Go.Proofs.Tryz.prog 11 124 F124=true:=by kernel_rfl
theorem ok129:bM Go.Proofs.Tryz.prog 11 129 ZY=true:=by kernel_rfl
theorem ok130:bM Go.Proofs.Tryz.prog 11 130 Xq=true:=by kernel_rfl
theorem ok131:bM Go.Proofs.Tryz.prog 11 131 Z4=true:=by kernel_rfl
theorem ok132:bM Go.Proofs.Tryz.prog 11 132 Xr=true:=by kernel_rfl
theorem ok140:bM Go.Proofs.Tryz.prog 11 140 F140=true:=by kernel_rfl
theorem ok141:bM Go.Proofs.Tryz.prog 11 141 F141=true:=by kernel_rfl
theorem ok146:bM Go.Proofs.Tryz.prog 11 146 Xv=true:=by kernel_rfl
theorem ok147:bM Go.Proofs.Tryz.prog 11 147 Z_=true:=by kernel_rfl
theorem ok148:bM Go.Proofs.Tryz.prog 11 148 Xw=true:=by kernel_rfl
theorem ok149:bM Go.Proofs.Tryz.prog 11 149 aac=true:=by kernel_rfl
theorem ok150:bM Go.Proofs.Tryz.prog 11 150 Xx=true:=by kernel_rfl
theorem ok155:bM Go.Proofs.Tryz.prog 11 155 F155=true:=by kernel_rfl
theorem ok158:bM Go.Proofs.Tryz.prog 11 158 Xy=true:=by kernel_rfl
theorem ok159:bM Go.Proofs.Tryz.prog 11 159 Xz=true:=by kernel_rfl
theorem ok160:bM Go.Proofs.Tryz.prog 11 160 XA=true:=by kernel_rfl
theorem ok161:bM Go.Proofs.Tryz.prog 11 161 XC=true:=by kernel_rfl
set_option maxRecDepth 50000 in
theorem Tc (f:Nat)(F:AF)(h:fns f=some F)(hne:f∉[156]):bM Go.Proofs.Tryz.prog 11 f F=true:=by
 unfold fns at h
 split at h
 ·cases h;exact ok2
 ·cases h;exact ok3
 ·cases h;exact ok4
 ·cases h;exact ok5
 ·cases h;exact ok6
 ·cases h;exact ok7
 ·cases h;exact ok8
 ·cases h;exact ok9
 ·cases h;exact ok10
 ·cases h;exact ok11
 ·cases h;exact ok17
 ·cases h;exact ok18
 ·cases h;exact ok19
 ·cases h;exact ok20
 ·cases h;exact ok22
 ·cases h;exact ok23
 ·cases h;exact ok24
 ·cases h;exact ok25
 ·cases h;exact ok26
 ·cases h;exact ok28
 ·cases h;exact ok29
 ·cases h;exact ok30
 ·cases h;exact ok31
 ·cases h;exact ok33
 ·cases h;exact ok34
 ·cases h;exact ok35
 ·cases h;exact ok36
 ·cases h;exact ok48
 ·cases h;exact ok49
 ·cases h;exact ok50
 ·cases h;exact ok51
 ·cases h;exact ok52
 ·cases h;exact ok54
 ·cases h;exact ok55
 ·cases h;exact ok57
 ·cases h;exact ok58
 ·cases h;exact ok59
 ·cases h;exact ok61
 ·cases h;exact ok62
 ·cases h;exact ok63
 ·cases h;exact ok66
 ·cases h;exact ok67
 ·cases h;exact ok68
 ·cases h;exact ok69
 ·cases h;exact ok70
 ·cases h;exact ok71
 ·cases h;exact ok86
 ·cases h;exact ok87
 ·cases h;exact ok88
 ·cases h;exact ok90
 ·cases h;exact ok91
 ·cases h;exact ok92
 ·cases h;exact ok93
 ·cases h;exact ok95
 ·cases h;exact ok104
 ·cases h;exact ok105
 ·cases h;exact ok106
 ·cases h;exact ok107
 ·cases h;exact ok108
 ·cases h;exact ok109
 ·cases h;exact ok110
 ·cases h;exact ok118
 ·cases h;exact ok119
 ·cases h;exact ok120
 ·cases h;exact ok121
 ·cases h;exact ok122
 ·cases h;exact ok123
 ·cases h;exact ok124
 ·cases h;exact ok129
 ·cases h;exact ok130
 ·cases h;exact ok131
 ·cases h;exact ok132
 ·cases h;exact ok140
 ·cases h;exact ok141
 ·cases h;exact ok146
 ·cases h;exact ok147
 ·cases h;exact ok148
 ·cases h;exact ok149
 ·cases h;exact ok150
 ·cases h;exact ok155
 ·exact absurd (by simp) hne
 ·cases h;exact ok158
 ·cases h;exact ok159
 ·cases h;exact ok160
 ·cases h;exact ok161
 ·cases h
end Go.bG.YtjcicgkencfbgaaGreatDoor
