/- Texts of this claim, joined: Ok. -/
import Derived.Test.YtobmjhfgmhfocaaGreatDoorM02
import Derived.Test.YtobmjhfgmhfocaaGreatDoorM03
import Derived.Test.YtobmjhfgmhfocaaGreatDoorProg
set_option linter.unusedVariables false
set_option linter.unusedSimpArgs false
namespace Go.bK.YtobmjhfgmhfocaaGreatDoor
theorem ok2:bU Go.Proofs.Tryz.prog 11 2 F2=true:=by kernel_rfl
theorem ok3:bU Go.Proofs.Tryz.prog 11 3 F3=true:=by kernel_rfl
theorem ok4:bU Go.Proofs.Tryz.prog 11 4 F4=true:=by kernel_rfl
theorem ok5:bU Go.Proofs.Tryz.prog 11 5 F5=true:=by kernel_rfl
theorem ok6:bU Go.Proofs.Tryz.prog 11 6 F6=true:=by kernel_rfl
theorem ok7:bU Go.Proofs.Tryz.prog 11 7 F7=true:=by kernel_rfl
theorem ok8:bU Go.Proofs.Tryz.prog 11 8 F8=true:=by kernel_rfl
theorem ok9:bU Go.Proofs.Tryz.prog 11 9 F9=true:=by kernel_rfl
theorem ok12:bU Go.Proofs.Tryz.prog 11 12 F12=true:=by kernel_rfl
theorem ok14:bU Go.Proofs.Tryz.prog 11 14 F14=true:=by kernel_rfl
theorem ok15:bU Go.Proofs.Tryz.prog 11 15 F15=true:=by kernel_rfl
theorem ok17:bU Go.Proofs.Tryz.prog 11 17 F17=true:=by kernel_rfl
theorem ok18:bU Go.Proofs.Tryz.prog 11 18 F18=true:=by kernel_rfl
theorem ok21:bU Go.Proofs.Tryz.prog 11 21 F21=true:=by kernel_rfl
theorem ok22:bU Go.Proofs.Tryz.prog 11 22 F22=true:=by kernel_rfl
theorem ok23:bU Go.Proofs.Tryz.prog 11 23 F23=true:=by kernel_rfl
theorem ok29:bU Go.Proofs.Tryz.prog 11 29 F29=true:=by kernel_rfl
theorem ok30:bU Go.Proofs.Tryz.prog 11 30 F30=true:=by kernel_rfl
theorem ok32:bU Go.Proofs.Tryz.prog 11 32 F32=true:=by kernel_rfl
theorem ok33:bU Go.Proofs.Tryz.prog 11 33 F33=true:=by kernel_rfl
theorem ok34:bU Go.Proofs.Tryz.prog 11 34 F34=true:=by kernel_rfl
theorem ok35:bU Go.Proofs.Tryz.prog 11 35 F35=true:=by kernel_rfl
theorem ok37:bU Go.Proofs.Tryz.prog 11 37 F37=true:=by kernel_rfl
theorem ok38:bU Go.Proofs.Tryz.prog 11 38 F38=true:=by kernel_rfl
theorem ok39:bU Go.Proofs.Tryz.prog 11 39 F39=true:=by kernel_rfl
theorem ok40:bU Go.Proofs.Tryz.prog 11 40 F40=true:=by kernel_rfl
theorem ok41:bU Go.Proofs.Tryz.prog 11 41 F41=true:=by kernel_rfl
theorem ok43:bU Go.Proofs.Tryz.prog 11 43 F43=true:=by kernel_rfl
theorem ok44:bU Go.Proofs.Tryz.prog 11 44 F44=true:=by kernel_rfl
theorem ok45:bU Go.Proofs.Tryz.prog 11 45 F45=true:=by kernel_rfl
theorem ok46:bU Go.Proofs.Tryz.prog 11 46 F46=true:=by kernel_rfl
theorem ok48:bU Go.Proofs.Tryz.prog 11 48 F48=true:=by kernel_rfl
theorem ok49:bU Go.Proofs.Tryz.prog 11 49 F49=true:=by kernel_rfl
theorem ok50:bU Go.Proofs.Tryz.prog 11 50 F50=true:=by kernel_rfl
theorem ok52:bU Go.Proofs.Tryz.prog 11 52 F52=true:=by kernel_rfl
theorem ok64:bU Go.Proofs.Tryz.prog 11 64 F64=true:=by kernel_rfl
theorem ok65:bU Go.Proofs.Tryz.prog 11 65 F65=true:=by kernel_rfl
theorem ok66:bU Go.Proofs.Tryz.prog 11 66 F66=true:=by kernel_rfl
theorem ok67:bU Go.Proofs.Tryz.prog 11 67 F67=true:=by kernel_rfl
theorem ok68:bU Go.Proofs.Tryz.prog 11 68 F68=true:=by kernel_rfl
theorem ok69:bU Go.Proofs.Tryz.prog 11 69 F69=true:=by kernel_rfl
theorem ok70:bU Go.Proofs.Tryz.prog 11 70 F70=true:=by kernel_rfl
theorem ok72:bU Go.Proofs.Tryz.prog 11 72 F72=true:=by kernel_rfl
theorem ok73:bU Go.Proofs.Tryz.prog 11 73 F73=true:=by kernel_rfl
theorem ok74:bU Go.Proofs.Tryz.prog 11 74 F74=true:=by kernel_rfl
theorem ok75:bU Go.Proofs.Tryz.prog 11 75 F75=true:=by kernel_rfl
theorem ok76:bU Go.Proofs.Tryz.prog 11 76 F76=true:=by kernel_rfl
theorem ok77:bU Go.Proofs.Tryz.prog 11 77 F77=true:=by kernel_rfl
theorem ok78:bU Go.Proofs.Tryz.prog 11 78 F78=true:=by kernel_rfl
theorem ok80:bU Go.Proofs.Tryz.prog 11 80 F80=true:=by kernel_rfl
theorem ok81:bU Go.Proofs.Tryz.prog 11 81 F81=true:=by kernel_rfl
theorem ok82:bU Go.Proofs.Tryz.prog 11 82 F82=true:=by kernel_rfl
theorem ok85:bU Go.Proofs.Tryz.prog 11 85 F85=true:=by kernel_rfl
theorem ok86:bU Go.Proofs.Tryz.prog 11 86 F86=true:=by kernel_rfl
theorem ok92:bU Go.Proofs.Tryz.prog 11 92 F92=true:=by kernel_rfl
theorem ok103:bU Go.Proofs.Tryz.prog 11 103 F103=true:=by kernel_rfl
theorem ok104:bU Go.Proofs.Tryz.prog 11 104 F104=true:=by kernel_rfl
theorem ok105:bU Go.Proofs.Tryz.prog 11 105 F105=true:=by kernel_rfl
theorem ok106:bU Go.Proofs.Tryz.prog 11 106 F106=true:=by kernel_rfl
theorem ok107:bU Go.Proofs.Tryz.prog 11 107 F107=true:=by kernel_rfl
theorem ok108:bU Go.Proofs.Tryz.prog 11 108 F108=true:=by kernel_rfl
theorem ok110:bU Go.Proofs.Tryz.prog 11 110 Tt=true:=by kernel_rfl
theorem ok111:bU Go.Proofs.Tryz.prog 11 111 Ye=true:=by kernel_rfl
theorem ok112:bU Go.Proofs.Tryz.prog 11 112 Tv=true:=by kernel_rfl
theorem ok113:bU Go.Proofs.Tryz.prog 11 113 JD=true:=by kernel_rfl
theorem ok114:bU Go.Proofs.Tryz.prog 11 114 Tz=true:=by kernel_rfl
theorem ok115:bU Go.Proofs.Tryz.prog 11 115 Qm=true:=by kernel_rfl
theorem ok116:bU Go.Proofs.Tryz.prog 11 116 Yf=true:=by kernel_rfl
theorem ok118:bU Go.Proofs.Tryz.prog 11 118 Yg=true:=by kernel_rfl
theorem ok119:bU Go.Proofs.Tryz.prog 11 119 F119=true:=by kernel_rfl
theorem ok120:bU Go.Proofs.Tryz.prog 11 120 F120=true:=by kernel_rfl
theorem ok127:bU Go.Proofs.Tryz.prog 11 127 F127=true:=by kernel_rfl
theorem ok139:bU Go.Proofs.Tryz.prog 11 139 F139=true:=by kernel_rfl
theorem ok140:bU Go.Proofs.Tryz.prog 11 140 F140=true:=by kernel_rfl
theorem ok141:bU Go.Proofs.Tryz.prog 11 141 F141=true:=by kernel_rfl
theorem ok142:bU Go.Proofs.Tryz.prog 11 142 F142=true:=by kernel_rfl
theorem ok143:bU Go.Proofs.Tryz.prog 11 143 F143=true:=by kernel_rfl
theorem ok144:bU Go.Proofs.Tryz.prog 11 144 F144=true:=by kernel_rfl
theorem ok145:bU Go.Proofs.Tryz.prog 11 145 Yh=true:=by kernel_rfl
theorem ok146:bU Go.Proofs.Tryz.prog 11 146 TD=true:=by kernel_rfl
theorem ok147:bU Go.Proofs.Tryz.prog 11 147 Yi=true:=by kernel_rfl
theorem ok148:bU Go.Proofs.Tryz.prog 11 148 TG=true:=by kernel_rfl
theorem ok149:bU Go.Proofs.Tryz.prog 11 149 F149=true:=by kernel_rfl
theorem ok160:bU Go.Proofs.Tryz.prog 11 160 F160=true:=by kernel_rfl
theorem ok162:bU Go.Proofs.Tryz.prog 11 162 TJ=true:=by kernel_rfl
theorem ok163:bU Go.Proofs.Tryz.prog 11 163 Yj=true:=by kernel_rfl
theorem ok164:bU Go.Proofs.Tryz.prog 11 164 TL=true:=by kernel_rfl
theorem ok165:bU Go.Proofs.Tryz.prog 11 165 Yk=true:=by kernel_rfl
theorem ok166:bU Go.Proofs.Tryz.prog 11 166 TM=true:=by kernel_rfl
theorem ok167:bU Go.Proofs.Tryz.prog 11 167 F167=true:=by kernel_rfl
theorem ok168:bU Go.Proofs.Tryz.prog 11 168 F168=true:=by kernel_rfl
theorem ok175:bU Go.Proofs.Tryz.prog 11 175 TN=true:=by kernel_rfl
theorem ok176:bU Go.Proofs.Tryz.prog 11 176 TP=true:=by kernel_rfl
theorem ok177:bU Go.Proofs.Tryz.prog 11 177 TQ=true:=by kernel_rfl
theorem ok178:bU Go.Proofs.Tryz.prog 11 178 TR=true:=by kernel_rfl
theorem ok212:bU Go.Proofs.Tryz.prog 11 212 F212=true:=by kernel_rfl
set_option maxRecDepth 50000 in
theorem TS (f:Nat)(F:AF)(h:fns f=some F)(hne:f∉[161]):bU Go.Proofs.Tryz.prog 11 f F=true:=by
 unfold fns at h
 split at h
 ·cases h;exact ok2
 ·cases h;exact ok3
 ·cases h;exact ok4
 ·cases h;exact ok5
 ·cases h;exact ok6
 ·cases h;exact ok7
 ·cases h;exact ok8
 ·cases h;exact ok9
 ·cases h;exact ok12
 ·cases h;exact ok14
 ·cases h;exact ok15
 ·cases h;exact ok17
 ·cases h;exact ok18
 ·cases h;exact ok21
 ·cases h;exact ok22
 ·cases h;exact ok23
 ·cases h;exact ok29
 ·cases h;exact ok30
 ·cases h;exact ok32
 ·cases h;exact ok33
 ·cases h;exact ok34
 ·cases h;exact ok35
 ·cases h;exact ok37
 ·cases h;exact ok38
 ·cases h;exact ok39
 ·cases h;exact ok40
 ·cases h;exact ok41
 ·cases h;exact ok43
 ·cases h;exact ok44
 ·cases h;exact ok45
 ·cases h;exact ok46
 ·cases h;exact ok48
 ·cases h;exact ok49
 ·cases h;exact ok50
 ·cases h;exact ok52
 ·cases h;exact ok64
 ·cases h;exact ok65
 ·cases h;exact ok66
 ·cases h;exact ok67
 ·cases h;exact ok68
 ·cases h;exact ok69
 ·cases h;exact ok70
 ·cases h;exact ok72
 ·cases h;exact ok73
 ·cases h;exact ok74
 ·cases h;exact ok75
 ·cases h;exact ok76
 ·cases h;exact ok77
 ·cases h;exact ok78
 ·cases h;exact ok80
 ·cases h;exact ok81
 ·cases h;exact ok82
 ·cases h;exact ok85
 ·cases h;exact ok86
 ·cases h;exact ok92
 ·cases h;exact ok103
 ·cases h;exact ok104
 ·cases h;exact ok105
 ·cases h;exact ok106
 ·cases h;exact ok107
 ·cases h;exact ok108
 ·cases h;exact ok110
 ·cases h;exact ok111
 ·cases h;exact ok112
 ·cases h;exact ok113
 ·cases h;exact ok114
 ·cases h;exact ok115
 ·cases h;exact ok116
 ·cases h;exact ok118
 ·cases h;exact ok119
 ·cases h;exact ok120
 ·cases h;exact ok127
 ·cases h;exact ok139
 ·cases h;exact ok140
 ·cases h;exact ok141
 ·cases h;exact ok142
 ·cases h;exact ok143
 ·cases h;exact ok144
 ·cases h;exact ok145
 ·cases h;exact ok146
 ·cases h;exact ok147
 ·cases h;exact ok148
 ·cases h;exact ok149
 ·cases h;exact ok160
 ·exact absurd (by simp) hne
 ·cases h;exact ok162
 ·cases h;exact ok163
 ·cases h;exact ok164
 ·cases h;exact ok165
 ·cases h;exact ok166
 ·cases h;exact ok167
 ·cases h;exact ok168
 ·cases h;exact ok175
 ·cases h;exact ok176
 ·cases h;exact ok177
 ·cases h;exact ok178
 ·cases h;exact ok212
 ·cases h
end Go.bK.YtobmjhfgmhfocaaGreatDoor
