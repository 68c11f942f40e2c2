/- Texts of this claim, joined: Ok. -/
import Derived.Test.YtlkfbfhkcaldlaaGreatDoorM02
import Derived.Test.YtlkfbfhkcaldlaaGreatDoorM03
import Derived.Test.YtlkfbfhkcaldlaaGreatDoorProg
set_option linter.unusedVariables false
set_option linter.unusedSimpArgs false
namespace Go.Abs.YtlkfbfhkcaldlaaGreatDoor
theorem ok2:bQ Go.Proofs.Tryz.prog 10 2 F2=true:=by kernel_rfl
theorem ok3:bQ Go.Proofs.Tryz.prog 10 3 F3=true:=by kernel_rfl
theorem ok4:bQ Go.Proofs.Tryz.prog 10 4 F4=true:=by kernel_rfl
theorem ok5:bQ Go.Proofs.Tryz.prog 10 5 F5=true:=by kernel_rfl
theorem ok6:bQ Go.Proofs.Tryz.prog 10 6 F6=true:=by kernel_rfl
theorem ok7:bQ Go.Proofs.Tryz.prog 10 7 F7=true:=by kernel_rfl
theorem ok8:bQ Go.Proofs.Tryz.prog 10 8 F8=true:=by kernel_rfl
theorem ok9:bQ Go.Proofs.Tryz.prog 10 9 F9=true:=by kernel_rfl
theorem ok10:bQ Go.Proofs.Tryz.prog 10 10 F10=true:=by kernel_rfl
theorem ok11:bQ Go.Proofs.Tryz.prog 10 11 F11=true:=by kernel_rfl
theorem ok14:bQ Go.Proofs.Tryz.prog 10 14 F14=true:=by kernel_rfl
theorem ok15:bQ Go.Proofs.Tryz.prog 10 15 F15=true:=by kernel_rfl
theorem ok20:bQ Go.Proofs.Tryz.prog 10 20 F20=true:=by kernel_rfl
theorem ok21:bQ Go.Proofs.Tryz.prog 10 21 F21=true:=by kernel_rfl
theorem ok23:bQ Go.Proofs.Tryz.prog 10 23 F23=true:=by kernel_rfl
theorem ok24:bQ Go.Proofs.Tryz.prog 10 24 F24=true:=by kernel_rfl
theorem ok25:bQ Go.Proofs.Tryz.prog 10 25 F25=true:=by kernel_rfl
theorem ok26:bQ Go.Proofs.Tryz.prog 10 26 F26=true:=by kernel_rfl
theorem ok27:bQ Go.Proofs.Tryz.prog 10 27 F27=true:=by kernel_rfl
theorem ok28:bQ Go.Proofs.Tryz.prog 10 28 F28=true:=by kernel_rfl
theorem ok29:bQ Go.Proofs.Tryz.prog 10 29 Qe=true:=by kernel_rfl
theorem ok30:bQ Go.Proofs.Tryz.prog 10 30 F30=true:=by kernel_rfl
theorem ok31:bQ Go.Proofs.Tryz.prog 10 31 F31=true:=by kernel_rfl
theorem ok32:bQ Go.Proofs.Tryz.prog 10 32 F32=true:=by kernel_rfl
theorem ok44:bQ Go.Proofs.Tryz.prog 10 44 F44=true:=by kernel_rfl
theorem ok45:bQ Go.Proofs.Tryz.prog 10 45 F45=true:=by kernel_rfl
theorem ok46:bQ Go.Proofs.Tryz.prog 10 46 F46=true:=by kernel_rfl
theorem ok47:bQ Go.Proofs.Tryz.prog 10 47 F47=true:=by kernel_rfl
theorem ok49:bQ Go.Proofs.Tryz.prog 10 49 F49=true:=by kernel_rfl
theorem ok50:bQ Go.Proofs.Tryz.prog 10 50 F50=true:=by kernel_rfl
theorem ok51:bQ Go.Proofs.Tryz.prog 10 51 F51=true:=by kernel_rfl
theorem ok52:bQ Go.Proofs.Tryz.prog 10 52 F52=true:=by kernel_rfl
theorem ok54:bQ Go.Proofs.Tryz.prog 10 54 F54=true:=by kernel_rfl
theorem ok55:bQ Go.Proofs.Tryz.prog 10 55 F55=true:=by kernel_rfl
theorem ok56:bQ Go.Proofs.Tryz.prog 10 56 F56=true:=by kernel_rfl
theorem ok57:bQ Go.Proofs.Tryz.prog 10 57 WG=true:=by kernel_rfl
theorem ok58:bQ Go.Proofs.Tryz.prog 10 58 F58=true:=by kernel_rfl
theorem ok59:bQ Go.Proofs.Tryz.prog 10 59 F59=true:=by kernel_rfl
theorem ok60:bQ Go.Proofs.Tryz.prog 10 60 F60=true:=by kernel_rfl
theorem ok61:bQ Go.Proofs.Tryz.prog 10 61 VY=true:=by kernel_rfl
theorem ok62:bQ Go.Proofs.Tryz.prog 10 62 F62=true:=by kernel_rfl
theorem ok63:bQ Go.Proofs.Tryz.prog 10 63 Qg=true:=by kernel_rfl
theorem ok64:bQ Go.Proofs.Tryz.prog 10 64 Qh=true:=by kernel_rfl
theorem ok65:bQ Go.Proofs.Tryz.prog 10 65 F65=true:=by kernel_rfl
theorem ok66:bQ Go.Proofs.Tryz.prog 10 66 F66=true:=by kernel_rfl
theorem ok67:bQ Go.Proofs.Tryz.prog 10 67 F67=true:=by kernel_rfl
theorem ok78:bQ Go.Proofs.Tryz.prog 10 78 F78=true:=by kernel_rfl
theorem ok79:bQ Go.Proofs.Tryz.prog 10 79 F79=true:=by kernel_rfl
theorem ok80:bQ Go.Proofs.Tryz.prog 10 80 Fe=true:=by kernel_rfl
theorem ok81:bQ Go.Proofs.Tryz.prog 10 81 F81=true:=by kernel_rfl
theorem ok83:bQ Go.Proofs.Tryz.prog 10 83 F83=true:=by kernel_rfl
theorem ok84:bQ Go.Proofs.Tryz.prog 10 84 F84=true:=by kernel_rfl
theorem ok85:bQ Go.Proofs.Tryz.prog 10 85 F85=true:=by kernel_rfl
theorem ok88:bQ Go.Proofs.Tryz.prog 10 88 F88=true:=by kernel_rfl
theorem ok89:bQ Go.Proofs.Tryz.prog 10 89 F89=true:=by kernel_rfl
theorem ok90:bQ Go.Proofs.Tryz.prog 10 90 F90=true:=by kernel_rfl
theorem ok91:bQ Go.Proofs.Tryz.prog 10 91 Ua=true:=by kernel_rfl
theorem ok92:bQ Go.Proofs.Tryz.prog 10 92 F92=true:=by kernel_rfl
theorem ok93:bQ Go.Proofs.Tryz.prog 10 93 WH=true:=by kernel_rfl
theorem ok94:bQ Go.Proofs.Tryz.prog 10 94 F94=true:=by kernel_rfl
theorem ok95:bQ Go.Proofs.Tryz.prog 10 95 VZ=true:=by kernel_rfl
theorem ok96:bQ Go.Proofs.Tryz.prog 10 96 F96=true:=by kernel_rfl
theorem ok97:bQ Go.Proofs.Tryz.prog 10 97 F97=true:=by kernel_rfl
theorem ok98:bQ Go.Proofs.Tryz.prog 10 98 F98=true:=by kernel_rfl
theorem WI:bQ Go.Proofs.Tryz.prog 10 108 Ub=true:=by kernel_rfl
theorem WJ:bQ Go.Proofs.Tryz.prog 10 109 vg=true:=by kernel_rfl
theorem WL:bQ Go.Proofs.Tryz.prog 10 110 LP=true:=by kernel_rfl
theorem WM:bQ Go.Proofs.Tryz.prog 10 112 Uc=true:=by kernel_rfl
theorem WO:bQ Go.Proofs.Tryz.prog 10 121 Ud=true:=by kernel_rfl
theorem WR:bQ Go.Proofs.Tryz.prog 10 122 Qi=true:=by kernel_rfl
theorem WU:bQ Go.Proofs.Tryz.prog 10 123 Ue=true:=by kernel_rfl
theorem WV:bQ Go.Proofs.Tryz.prog 10 124 Qj=true:=by kernel_rfl
theorem WW:bQ Go.Proofs.Tryz.prog 10 125 Jk=true:=by kernel_rfl
theorem WX:bQ Go.Proofs.Tryz.prog 10 126 Uf=true:=by kernel_rfl
theorem WY:bQ Go.Proofs.Tryz.prog 10 127 BA=true:=by kernel_rfl
theorem WZ:bQ Go.Proofs.Tryz.prog 10 135 Ug=true:=by kernel_rfl
theorem W9:bQ Go.Proofs.Tryz.prog 10 141 Ql=true:=by kernel_rfl
theorem W_:bQ Go.Proofs.Tryz.prog 10 142 Uh=true:=by kernel_rfl
theorem Xa:bQ Go.Proofs.Tryz.prog 10 143 Qm=true:=by kernel_rfl
theorem Xb:bQ Go.Proofs.Tryz.prog 10 144 Ui=true:=by kernel_rfl
theorem Xc:bQ Go.Proofs.Tryz.prog 10 145 Qn=true:=by kernel_rfl
theorem Xd:bQ Go.Proofs.Tryz.prog 10 154 Qo=true:=by kernel_rfl
theorem Xe:bQ Go.Proofs.Tryz.prog 10 155 Qp=true:=by kernel_rfl
theorem Xf:bQ Go.Proofs.Tryz.prog 10 156 Qq=true:=by kernel_rfl
theorem Xg:bQ Go.Proofs.Tryz.prog 10 157 Qr=true:=by kernel_rfl
set_option maxRecDepth 50000 in
theorem LW (f:Nat)(F:AF)(h:fns f=some F)(hne:f∉[136]):bQ Go.Proofs.Tryz.prog 10 f F=true:=by
 unfold fns at h
 split at h
 ·cases h;exact ok2
 ·cases h;exact ok3
 ·cases h;exact ok4
 ·cases h;exact ok5
 ·cases h;exact ok6
 ·cases h;exact ok7
 ·cases h;exact ok8
 ·cases h;exact ok9
 ·cases h;exact ok10
 ·cases h;exact ok11
 ·cases h;exact ok14
 ·cases h;exact ok15
 ·cases h;exact ok20
 ·cases h;exact ok21
 ·cases h;exact ok23
 ·cases h;exact ok24
 ·cases h;exact ok25
 ·cases h;exact ok26
 ·cases h;exact ok27
 ·cases h;exact ok28
 ·cases h;exact ok29
 ·cases h;exact ok30
 ·cases h;exact ok31
 ·cases h;exact ok32
 ·cases h;exact ok44
 ·cases h;exact ok45
 ·cases h;exact ok46
 ·cases h;exact ok47
 ·cases h;exact ok49
 ·cases h;exact ok50
 ·cases h;exact ok51
 ·cases h;exact ok52
 ·cases h;exact ok54
 ·cases h;exact ok55
 ·cases h;exact ok56
 ·cases h;exact ok57
 ·cases h;exact ok58
 ·cases h;exact ok59
 ·cases h;exact ok60
 ·cases h;exact ok61
 ·cases h;exact ok62
 ·cases h;exact ok63
 ·cases h;exact ok64
 ·cases h;exact ok65
 ·cases h;exact ok66
 ·cases h;exact ok67
 ·cases h;exact ok78
 ·cases h;exact ok79
 ·cases h;exact ok80
 ·cases h;exact ok81
 ·cases h;exact ok83
 ·cases h;exact ok84
 ·cases h;exact ok85
 ·cases h;exact ok88
 ·cases h;exact ok89
 ·cases h;exact ok90
 ·cases h;exact ok91
 ·cases h;exact ok92
 ·cases h;exact ok93
 ·cases h;exact ok94
 ·cases h;exact ok95
 ·cases h;exact ok96
 ·cases h;exact ok97
 ·cases h;exact ok98
 ·cases h;exact WI
 ·cases h;exact WJ
 ·cases h;exact WL
 ·cases h;exact WM
 ·cases h;exact WO
 ·cases h;exact WR
 ·cases h;exact WU
 ·cases h;exact WV
 ·cases h;exact WW
 ·cases h;exact WX
 ·cases h;exact WY
 ·cases h;exact WZ
 ·exact absurd (by simp) hne
 ·cases h;exact W9
 ·cases h;exact W_
 ·cases h;exact Xa
 ·cases h;exact Xb
 ·cases h;exact Xc
 ·cases h;exact Xd
 ·cases h;exact Xe
 ·cases h;exact Xf
 ·cases h;exact Xg
 ·cases h
end Go.Abs.YtlkfbfhkcaldlaaGreatDoor
