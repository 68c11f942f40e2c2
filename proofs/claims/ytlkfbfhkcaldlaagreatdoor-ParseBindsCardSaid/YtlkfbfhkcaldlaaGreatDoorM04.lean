/- Texts of this claim, joined: Ok. -/
import Derived.Test.YtlkfbfhkcaldlaaGreatDoorM02
import Derived.Test.YtlkfbfhkcaldlaaGreatDoorM03
import Derived.Test.YtlkfbfhkcaldlaaGreatDoorProg
set_option linter.unusedVariables false
set_option linter.unusedSimpArgs false
namespace Go.Abs.YtlkfbfhkcaldlaaGreatDoor
theorem ok2:cu Go.Proofs.Tryz.prog 10 2 F2=true:=by kernel_rfl
theorem ok3:cu Go.Proofs.Tryz.prog 10 3 F3=true:=by kernel_rfl
theorem ok4:cu Go.Proofs.Tryz.prog 10 4 F4=true:=by kernel_rfl
theorem ok5:cu Go.Proofs.Tryz.prog 10 5 F5=true:=by kernel_rfl
theorem ok6:cu Go.Proofs.Tryz.prog 10 6 F6=true:=by kernel_rfl
theorem ok7:cu Go.Proofs.Tryz.prog 10 7 F7=true:=by kernel_rfl
theorem ok8:cu Go.Proofs.Tryz.prog 10 8 F8=true:=by kernel_rfl
theorem ok9:cu Go.Proofs.Tryz.prog 10 9 F9=true:=by kernel_rfl
theorem ok10:cu Go.Proofs.Tryz.prog 10 10 F10=true:=by kernel_rfl
theorem ok11:cu Go.Proofs.Tryz.prog 10 11 F11=true:=by kernel_rfl
theorem ok12:cu Go.Proofs.Tryz.prog 10 12 F12=true:=by kernel_rfl
theorem ok14:cu Go.Proofs.Tryz.prog 10 14 F14=true:=by kernel_rfl
theorem ok15:cu Go.Proofs.Tryz.prog 10 15 F15=true:=by kernel_rfl
theorem ok20:cu Go.Proofs.Tryz.prog 10 20 F20=true:=by kernel_rfl
theorem ok21:cu Go.Proofs.Tryz.prog 10 21 F21=true:=by kernel_rfl
theorem ok23:cu Go.Proofs.Tryz.prog 10 23 F23=true:=by kernel_rfl
theorem ok24:cu Go.Proofs.Tryz.prog 10 24 F24=true:=by kernel_rfl
theorem ok25:cu Go.Proofs.Tryz.prog 10 25 F25=true:=by kernel_rfl
theorem ok26:cu Go.Proofs.Tryz.prog 10 26 F26=true:=by kernel_rfl
theorem ok27:cu Go.Proofs.Tryz.prog 10 27 F27=true:=by kernel_rfl
theorem ok28:cu Go.Proofs.Tryz.prog 10 28 F28=true:=by kernel_rfl
theorem ok29:cu Go.Proofs.Tryz.prog 10 29 Yi=true:=by kernel_rfl
theorem ok30:cu Go.Proofs.Tryz.prog 10 30 F30=true:=by kernel_rfl
theorem ok31:cu Go.Proofs.Tryz.prog 10 31 F31=true:=by kernel_rfl
theorem ok32:cu Go.Proofs.Tryz.prog 10 32 F32=true:=by kernel_rfl
theorem ok44:cu Go.Proofs.Tryz.prog 10 44 F44=true:=by kernel_rfl
theorem ok45:cu Go.Proofs.Tryz.prog 10 45 F45=true:=by kernel_rfl
theorem ok46:cu Go.Proofs.Tryz.prog 10 46 F46=true:=by kernel_rfl
theorem ok47:cu Go.Proofs.Tryz.prog 10 47 F47=true:=by kernel_rfl
theorem ok49:cu Go.Proofs.Tryz.prog 10 49 F49=true:=by kernel_rfl
theorem ok50:cu Go.Proofs.Tryz.prog 10 50 F50=true:=by kernel_rfl
theorem ok51:cu Go.Proofs.Tryz.prog 10 51 F51=true:=by kernel_rfl
theorem ok52:cu Go.Proofs.Tryz.prog 10 52 F52=true:=by kernel_rfl
theorem ok54:cu Go.Proofs.Tryz.prog 10 54 F54=true:=by kernel_rfl
theorem ok55:cu Go.Proofs.Tryz.prog 10 55 F55=true:=by kernel_rfl
theorem ok56:cu Go.Proofs.Tryz.prog 10 56 F56=true:=by kernel_rfl
theorem ok57:cu Go.Proofs.Tryz.prog 10 57 F57=true:=by kernel_rfl
theorem ok58:cu Go.Proofs.Tryz.prog 10 58 F58=true:=by kernel_rfl
theorem ok59:cu Go.Proofs.Tryz.prog 10 59 F59=true:=by kernel_rfl
theorem ok60:cu Go.Proofs.Tryz.prog 10 60 F60=true:=by kernel_rfl
theorem ok61:cu Go.Proofs.Tryz.prog 10 61 F61=true:=by kernel_rfl
theorem ok62:cu Go.Proofs.Tryz.prog 10 62 F62=true:=by kernel_rfl
theorem ok63:cu Go.Proofs.Tryz.prog 10 63 Yj=true:=by kernel_rfl
theorem ok64:cu Go.Proofs.Tryz.prog 10 64 Yk=true:=by kernel_rfl
theorem ok65:cu Go.Proofs.Tryz.prog 10 65 F65=true:=by kernel_rfl
theorem ok66:cu Go.Proofs.Tryz.prog 10 66 F66=true:=by kernel_rfl
theorem ok67:cu Go.Proofs.Tryz.prog 10 67 F67=true:=by kernel_rfl
theorem ok78:cu Go.Proofs.Tryz.prog 10 78 F78=true:=by kernel_rfl
theorem ok79:cu Go.Proofs.Tryz.prog 10 79 F79=true:=by kernel_rfl
theorem ok80:cu Go.Proofs.Tryz.prog 10 80 Nj=true:=by kernel_rfl
theorem ok81:cu Go.Proofs.Tryz.prog 10 81 F81=true:=by kernel_rfl
theorem ok83:cu Go.Proofs.Tryz.prog 10 83 F83=true:=by kernel_rfl
theorem ok84:cu Go.Proofs.Tryz.prog 10 84 F84=true:=by kernel_rfl
theorem ok85:cu Go.Proofs.Tryz.prog 10 85 F85=true:=by kernel_rfl
theorem ok88:cu Go.Proofs.Tryz.prog 10 88 F88=true:=by kernel_rfl
theorem ok89:cu Go.Proofs.Tryz.prog 10 89 F89=true:=by kernel_rfl
theorem ok90:cu Go.Proofs.Tryz.prog 10 90 F90=true:=by kernel_rfl
theorem ok91:cu Go.Proofs.Tryz.prog 10 91 F91=true:=by kernel_rfl
theorem ok92:cu Go.Proofs.Tryz.prog 10 92 F92=true:=by kernel_rfl
theorem ok93:cu Go.Proofs.Tryz.prog 10 93 F93=true:=by kernel_rfl
theorem ok94:cu Go.Proofs.Tryz.prog 10 94 F94=true:=by kernel_rfl
theorem ok95:cu Go.Proofs.Tryz.prog 10 95 F95=true:=by kernel_rfl
theorem ok96:cu Go.Proofs.Tryz.prog 10 96 F96=true:=by kernel_rfl
theorem ok97:cu Go.Proofs.Tryz.prog 10 97 F97=true:=by kernel_rfl
theorem ok98:cu Go.Proofs.Tryz.prog 10 98 F98=true:=by kernel_rfl
theorem ok108:cu Go.Proofs.Tryz.prog 10 108 F108=true:=by kernel_rfl
theorem ok109:cu Go.Proofs.Tryz.prog 10 109 BQ=true:=by kernel_rfl
theorem ok110:cu Go.Proofs.Tryz.prog 10 110 Ua=true:=by kernel_rfl
theorem ok112:cu Go.Proofs.Tryz.prog 10 112 F112=true:=by kernel_rfl
theorem ok121:cu Go.Proofs.Tryz.prog 10 121 F121=true:=by kernel_rfl
theorem ok122:cu Go.Proofs.Tryz.prog 10 122 Yl=true:=by kernel_rfl
theorem ok123:cu Go.Proofs.Tryz.prog 10 123 F123=true:=by kernel_rfl
theorem ok124:cu Go.Proofs.Tryz.prog 10 124 Ym=true:=by kernel_rfl
theorem ok125:cu Go.Proofs.Tryz.prog 10 125 QU=true:=by kernel_rfl
theorem ok126:cu Go.Proofs.Tryz.prog 10 126 F126=true:=by kernel_rfl
theorem ok127:cu Go.Proofs.Tryz.prog 10 127 IB=true:=by kernel_rfl
theorem ok135:cu Go.Proofs.Tryz.prog 10 135 F135=true:=by kernel_rfl
theorem ok141:cu Go.Proofs.Tryz.prog 10 141 Yo=true:=by kernel_rfl
theorem ok142:cu Go.Proofs.Tryz.prog 10 142 F142=true:=by kernel_rfl
theorem ok143:cu Go.Proofs.Tryz.prog 10 143 Yp=true:=by kernel_rfl
theorem ok144:cu Go.Proofs.Tryz.prog 10 144 F144=true:=by kernel_rfl
theorem ok145:cu Go.Proofs.Tryz.prog 10 145 Yq=true:=by kernel_rfl
theorem ok154:cu Go.Proofs.Tryz.prog 10 154 Yr=true:=by kernel_rfl
theorem ok155:cu Go.Proofs.Tryz.prog 10 155 Yt=true:=by kernel_rfl
theorem ok156:cu Go.Proofs.Tryz.prog 10 156 Yu=true:=by kernel_rfl
theorem ok157:cu Go.Proofs.Tryz.prog 10 157 Yv=true:=by kernel_rfl
set_option maxRecDepth 50000 in
theorem Ue (f:Nat)(F:AF)(h:fns f=some F)(hne:f∉[136]):cu Go.Proofs.Tryz.prog 10 f F=true:=by
 unfold fns at h
 split at h
 ·cases h;exact ok2
 ·cases h;exact ok3
 ·cases h;exact ok4
 ·cases h;exact ok5
 ·cases h;exact ok6
 ·cases h;exact ok7
 ·cases h;exact ok8
 ·cases h;exact ok9
 ·cases h;exact ok10
 ·cases h;exact ok11
 ·cases h;exact ok12
 ·cases h;exact ok14
 ·cases h;exact ok15
 ·cases h;exact ok20
 ·cases h;exact ok21
 ·cases h;exact ok23
 ·cases h;exact ok24
 ·cases h;exact ok25
 ·cases h;exact ok26
 ·cases h;exact ok27
 ·cases h;exact ok28
 ·cases h;exact ok29
 ·cases h;exact ok30
 ·cases h;exact ok31
 ·cases h;exact ok32
 ·cases h;exact ok44
 ·cases h;exact ok45
 ·cases h;exact ok46
 ·cases h;exact ok47
 ·cases h;exact ok49
 ·cases h;exact ok50
 ·cases h;exact ok51
 ·cases h;exact ok52
 ·cases h;exact ok54
 ·cases h;exact ok55
 ·cases h;exact ok56
 ·cases h;exact ok57
 ·cases h;exact ok58
 ·cases h;exact ok59
 ·cases h;exact ok60
 ·cases h;exact ok61
 ·cases h;exact ok62
 ·cases h;exact ok63
 ·cases h;exact ok64
 ·cases h;exact ok65
 ·cases h;exact ok66
 ·cases h;exact ok67
 ·cases h;exact ok78
 ·cases h;exact ok79
 ·cases h;exact ok80
 ·cases h;exact ok81
 ·cases h;exact ok83
 ·cases h;exact ok84
 ·cases h;exact ok85
 ·cases h;exact ok88
 ·cases h;exact ok89
 ·cases h;exact ok90
 ·cases h;exact ok91
 ·cases h;exact ok92
 ·cases h;exact ok93
 ·cases h;exact ok94
 ·cases h;exact ok95
 ·cases h;exact ok96
 ·cases h;exact ok97
 ·cases h;exact ok98
 ·cases h;exact ok108
 ·cases h;exact ok109
 ·cases h;exact ok110
 ·cases h;exact ok112
 ·cases h;exact ok121
 ·cases h;exact ok122
 ·cases h;exact ok123
 ·cases h;exact ok124
 ·cases h;exact ok125
 ·cases h;exact ok126
 ·cases h;exact ok127
 ·cases h;exact ok135
 ·exact absurd (by simp) hne
 ·cases h;exact ok141
 ·cases h;exact ok142
 ·cases h;exact ok143
 ·cases h;exact ok144
 ·cases h;exact ok145
 ·cases h;exact ok154
 ·cases h;exact ok155
 ·cases h;exact ok156
 ·cases h;exact ok157
 ·cases h
end Go.Abs.YtlkfbfhkcaldlaaGreatDoor
