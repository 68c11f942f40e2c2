/- Texts of this claim, joined: Ok. -/
import Derived.Test.YthoodopjoaigdaaGreatDoorM02
import Derived.Test.YthoodopjoaigdaaGreatDoorM03
import Derived.Test.YthoodopjoaigdaaGreatDoorProg
set_option linter.unusedVariables false
set_option linter.unusedSimpArgs false
namespace Go.bP.YthoodopjoaigdaaGreatDoor
theorem ok2:bI Go.Proofs.Tryz.prog 11 2 F2=true:=by kernel_rfl
theorem ok3:bI Go.Proofs.Tryz.prog 11 3 F3=true:=by kernel_rfl
theorem ok4:bI Go.Proofs.Tryz.prog 11 4 F4=true:=by kernel_rfl
theorem ok5:bI Go.Proofs.Tryz.prog 11 5 F5=true:=by kernel_rfl
theorem ok6:bI Go.Proofs.Tryz.prog 11 6 F6=true:=by kernel_rfl
theorem ok7:bI Go.Proofs.Tryz.prog 11 7 F7=true:=by kernel_rfl
theorem ok8:bI Go.Proofs.Tryz.prog 11 8 F8=true:=by kernel_rfl
theorem ok9:bI Go.Proofs.Tryz.prog 11 9 F9=true:=by kernel_rfl
theorem ok10:bI Go.Proofs.Tryz.prog 11 10 F10=true:=by kernel_rfl
theorem ok11:bI Go.Proofs.Tryz.prog 11 11 F11=true:=by kernel_rfl
theorem ok12:bI Go.Proofs.Tryz.prog 11 12 F12=true:=by kernel_rfl
theorem ok13:bI Go.Proofs.Tryz.prog 11 13 F13=true:=by kernel_rfl
theorem ok14:bI Go.Proofs.Tryz.prog 11 14 F14=true:=by kernel_rfl
theorem ok15:bI Go.Proofs.Tryz.prog 11 15 F15=true:=by kernel_rfl
theorem ok17:bI Go.Proofs.Tryz.prog 11 17 F17=true:=by kernel_rfl
theorem ok18:bI Go.Proofs.Tryz.prog 11 18 ZF=true:=by kernel_rfl
theorem ok19:bI Go.Proofs.Tryz.prog 11 19 F19=true:=by kernel_rfl
theorem ok20:bI Go.Proofs.Tryz.prog 11 20 F20=true:=by kernel_rfl
theorem ok21:bI Go.Proofs.Tryz.prog 11 21 F21=true:=by kernel_rfl
theorem ok22:bI Go.Proofs.Tryz.prog 11 22 F22=true:=by kernel_rfl
theorem ok23:bI Go.Proofs.Tryz.prog 11 23 F23=true:=by kernel_rfl
theorem ok25:bI Go.Proofs.Tryz.prog 11 25 F25=true:=by kernel_rfl
theorem ok26:bI Go.Proofs.Tryz.prog 11 26 F26=true:=by kernel_rfl
theorem ok27:bI Go.Proofs.Tryz.prog 11 27 F27=true:=by kernel_rfl
theorem ok28:bI Go.Proofs.Tryz.prog 11 28 F28=true:=by kernel_rfl
theorem ok30:bI Go.Proofs.Tryz.prog 11 30 F30=true:=by kernel_rfl
theorem ok31:bI Go.Proofs.Tryz.prog 11 31 F31=true:=by kernel_rfl
theorem ok32:bI Go.Proofs.Tryz.prog 11 32 F32=true:=by kernel_rfl
theorem ok33:bI Go.Proofs.Tryz.prog 11 33 ZH=true:=by kernel_rfl
theorem ok34:bI Go.Proofs.Tryz.prog 11 34 F34=true:=by kernel_rfl
theorem ok35:bI Go.Proofs.Tryz.prog 11 35 F35=true:=by kernel_rfl
theorem ok36:bI Go.Proofs.Tryz.prog 11 36 F36=true:=by kernel_rfl
theorem ok37:bI Go.Proofs.Tryz.prog 11 37 F37=true:=by kernel_rfl
theorem ok38:bI Go.Proofs.Tryz.prog 11 38 F38=true:=by kernel_rfl
theorem ok39:bI Go.Proofs.Tryz.prog 11 39 F39=true:=by kernel_rfl
theorem ok40:bI Go.Proofs.Tryz.prog 11 40 F40=true:=by kernel_rfl
theorem ok41:bI Go.Proofs.Tryz.prog 11 41 F41=true:=by kernel_rfl
theorem ok42:bI Go.Proofs.Tryz.prog 11 42 F42=true:=by kernel_rfl
theorem ok43:bI Go.Proofs.Tryz.prog 11 43 F43=true:=by kernel_rfl
theorem ok44:bI Go.Proofs.Tryz.prog 11 44 F44=true:=by kernel_rfl
theorem ok45:bI Go.Proofs.Tryz.prog 11 45 F45=true:=by kernel_rfl
theorem ok51:bI Go.Proofs.Tryz.prog 11 51 F51=true:=by kernel_rfl
theorem ok52:bI Go.Proofs.Tryz.prog 11 52 F52=true:=by kernel_rfl
theorem ok53:bI Go.Proofs.Tryz.prog 11 53 F53=true:=by kernel_rfl
theorem ok54:bI Go.Proofs.Tryz.prog 11 54 F54=true:=by kernel_rfl
theorem ok56:bI Go.Proofs.Tryz.prog 11 56 F56=true:=by kernel_rfl
theorem ok57:bI Go.Proofs.Tryz.prog 11 57 F57=true:=by kernel_rfl
theorem ok58:bI Go.Proofs.Tryz.prog 11 58 F58=true:=by kernel_rfl
theorem ok59:bI Go.Proofs.Tryz.prog 11 59 F59=true:=by kernel_rfl
theorem ok61:bI Go.Proofs.Tryz.prog 11 61 F61=true:=by kernel_rfl
theorem ok62:bI Go.Proofs.Tryz.prog 11 62 F62=true:=by kernel_rfl
theorem ok63:bI Go.Proofs.Tryz.prog 11 63 F63=true:=by kernel_rfl
theorem ok66:bI Go.Proofs.Tryz.prog 11 66 F66=true:=by kernel_rfl
theorem ok67:bI Go.Proofs.Tryz.prog 11 67 F67=true:=by kernel_rfl
theorem ok68:bI Go.Proofs.Tryz.prog 11 68 F68=true:=by kernel_rfl
theorem ok69:bI Go.Proofs.Tryz.prog 11 69 Xj=true:=by kernel_rfl
theorem ok70:bI Go.Proofs.Tryz.prog 11 70 F70=true:=by kernel_rfl
theorem ok71:bI Go.Proofs.Tryz.prog 11 71 ZP=true:=by kernel_rfl
theorem ok72:bI Go.Proofs.Tryz.prog 11 72 F72=true:=by kernel_rfl
theorem ok73:bI Go.Proofs.Tryz.prog 11 73 F73=true:=by kernel_rfl
theorem ok74:bI Go.Proofs.Tryz.prog 11 74 F74=true:=by kernel_rfl
theorem ok75:bI Go.Proofs.Tryz.prog 11 75 F75=true:=by kernel_rfl
theorem ok76:bI Go.Proofs.Tryz.prog 11 76 F76=true:=by kernel_rfl
theorem ok77:bI Go.Proofs.Tryz.prog 11 77 F77=true:=by kernel_rfl
theorem ok78:bI Go.Proofs.Tryz.prog 11 78 F78=true:=by kernel_rfl
theorem ok79:bI Go.Proofs.Tryz.prog 11 79 F79=true:=by kernel_rfl
theorem ok80:bI Go.Proofs.Tryz.prog 11 80 F80=true:=by kernel_rfl
theorem ok83:bI Go.Proofs.Tryz.prog 11 83 ZQ=true:=by kernel_rfl
theorem ok84:bI Go.Proofs.Tryz.prog 11 84 F84=true:=by kernel_rfl
theorem ok85:bI Go.Proofs.Tryz.prog 11 85 F85=true:=by kernel_rfl
theorem ok86:bI Go.Proofs.Tryz.prog 11 86 F86=true:=by kernel_rfl
theorem ok87:bI Go.Proofs.Tryz.prog 11 87 F87=true:=by kernel_rfl
theorem ok88:bI Go.Proofs.Tryz.prog 11 88 F88=true:=by kernel_rfl
theorem ok89:bI Go.Proofs.Tryz.prog 11 89 F89=true:=by kernel_rfl
theorem ok90:bI Go.Proofs.Tryz.prog 11 90 F90=true:=by kernel_rfl
theorem ok91:bI Go.Proofs.Tryz.prog 11 91 F91=true:=by kernel_rfl
theorem ok93:bI Go.Proofs.Tryz.prog 11 93 F93=true:=by kernel_rfl
theorem aal:bI Go.Proofs.Tryz.prog 11 102 Xk=true:=by kernel_rfl
theorem aam:bI Go.Proofs.Tryz.prog 11 103 Ui=true:=by kernel_rfl
theorem aan:bI Go.Proofs.Tryz.prog 11 104 Xl=true:=by kernel_rfl
theorem aao:bI Go.Proofs.Tryz.prog 11 105 Uj=true:=by kernel_rfl
theorem aap:bI Go.Proofs.Tryz.prog 11 106 Xm=true:=by kernel_rfl
theorem aaq:bI Go.Proofs.Tryz.prog 11 107 Uk=true:=by kernel_rfl
theorem aar:bI Go.Proofs.Tryz.prog 11 108 Xn=true:=by kernel_rfl
theorem aas:bI Go.Proofs.Tryz.prog 11 109 Xo=true:=by kernel_rfl
theorem aat:bI Go.Proofs.Tryz.prog 11 110 Ul=true:=by kernel_rfl
theorem aau:bI Go.Proofs.Tryz.prog 11 111 ZV=true:=by kernel_rfl
theorem aav:bI Go.Proofs.Tryz.prog 11 112 ZW=true:=by kernel_rfl
theorem aaw:bI Go.Proofs.Tryz.prog 11 113 ZX=true:=by kernel_rfl
theorem aax:bI Go.Proofs.Tryz.prog 11 114 ZY=true:=by kernel_rfl
theorem aay:bI Go.Proofs.Tryz.prog 11 115 Z4=true:=by kernel_rfl
theorem aaz:bI Go.Proofs.Tryz.prog 11 116 Z5=true:=by kernel_rfl
theorem aaA:bI Go.Proofs.Tryz.prog 11 117 Z7=true:=by kernel_rfl
theorem aaB:bI Go.Proofs.Tryz.prog 11 118 Z8=true:=by kernel_rfl
theorem aaC:bI Go.Proofs.Tryz.prog 11 119 Z9=true:=by kernel_rfl
theorem aaD:bI Go.Proofs.Tryz.prog 11 124 Um=true:=by kernel_rfl
theorem aaE:bI Go.Proofs.Tryz.prog 11 125 Xr=true:=by kernel_rfl
theorem aaF:bI Go.Proofs.Tryz.prog 11 126 Un=true:=by kernel_rfl
theorem aaG:bI Go.Proofs.Tryz.prog 11 127 Xt=true:=by kernel_rfl
theorem aaH:bI Go.Proofs.Tryz.prog 11 128 Uo=true:=by kernel_rfl
theorem aaI:bI Go.Proofs.Tryz.prog 11 129 Ur=true:=by kernel_rfl
theorem aaJ:bI Go.Proofs.Tryz.prog 11 130 Xu=true:=by kernel_rfl
theorem aaK:bI Go.Proofs.Tryz.prog 11 131 Us=true:=by kernel_rfl
theorem aaL:bI Go.Proofs.Tryz.prog 11 132 Xv=true:=by kernel_rfl
theorem aaM:bI Go.Proofs.Tryz.prog 11 133 Xw=true:=by kernel_rfl
theorem aaN:bI Go.Proofs.Tryz.prog 11 136 Z_=true:=by kernel_rfl
theorem aaO:bI Go.Proofs.Tryz.prog 11 137 aac=true:=by kernel_rfl
theorem aaP:bI Go.Proofs.Tryz.prog 11 139 aad=true:=by kernel_rfl
theorem aaQ:bI Go.Proofs.Tryz.prog 11 140 aae=true:=by kernel_rfl
theorem aaR:bI Go.Proofs.Tryz.prog 11 141 aaf=true:=by kernel_rfl
theorem aaS:bI Go.Proofs.Tryz.prog 11 145 Ut=true:=by kernel_rfl
theorem aaT:bI Go.Proofs.Tryz.prog 11 146 Uu=true:=by kernel_rfl
theorem aaU:bI Go.Proofs.Tryz.prog 11 147 Uw=true:=by kernel_rfl
theorem aaV:bI Go.Proofs.Tryz.prog 11 148 Ux=true:=by kernel_rfl
theorem aaW:bI Go.Proofs.Tryz.prog 11 149 Xy=true:=by kernel_rfl
theorem aaX:bI Go.Proofs.Tryz.prog 11 153 aag=true:=by kernel_rfl
theorem aaY:bI Go.Proofs.Tryz.prog 11 155 aai=true:=by kernel_rfl
theorem aaZ:bI Go.Proofs.Tryz.prog 11 156 aaj=true:=by kernel_rfl
theorem aa0:bI Go.Proofs.Tryz.prog 11 157 aak=true:=by kernel_rfl
theorem aa1:bI Go.Proofs.Tryz.prog 11 194 XA=true:=by kernel_rfl
set_option maxRecDepth 50000 in
theorem PG (f:Nat)(F:AF)(h:fns f=some F)(hne:f∉[154]):bI Go.Proofs.Tryz.prog 11 f F=true:=by
 unfold fns at h
 split at h
 ·cases h;exact ok2
 ·cases h;exact ok3
 ·cases h;exact ok4
 ·cases h;exact ok5
 ·cases h;exact ok6
 ·cases h;exact ok7
 ·cases h;exact ok8
 ·cases h;exact ok9
 ·cases h;exact ok10
 ·cases h;exact ok11
 ·cases h;exact ok12
 ·cases h;exact ok13
 ·cases h;exact ok14
 ·cases h;exact ok15
 ·cases h;exact ok17
 ·cases h;exact ok18
 ·cases h;exact ok19
 ·cases h;exact ok20
 ·cases h;exact ok21
 ·cases h;exact ok22
 ·cases h;exact ok23
 ·cases h;exact ok25
 ·cases h;exact ok26
 ·cases h;exact ok27
 ·cases h;exact ok28
 ·cases h;exact ok30
 ·cases h;exact ok31
 ·cases h;exact ok32
 ·cases h;exact ok33
 ·cases h;exact ok34
 ·cases h;exact ok35
 ·cases h;exact ok36
 ·cases h;exact ok37
 ·cases h;exact ok38
 ·cases h;exact ok39
 ·cases h;exact ok40
 ·cases h;exact ok41
 ·cases h;exact ok42
 ·cases h;exact ok43
 ·cases h;exact ok44
 ·cases h;exact ok45
 ·cases h;exact ok51
 ·cases h;exact ok52
 ·cases h;exact ok53
 ·cases h;exact ok54
 ·cases h;exact ok56
 ·cases h;exact ok57
 ·cases h;exact ok58
 ·cases h;exact ok59
 ·cases h;exact ok61
 ·cases h;exact ok62
 ·cases h;exact ok63
 ·cases h;exact ok66
 ·cases h;exact ok67
 ·cases h;exact ok68
 ·cases h;exact ok69
 ·cases h;exact ok70
 ·cases h;exact ok71
 ·cases h;exact ok72
 ·cases h;exact ok73
 ·cases h;exact ok74
 ·cases h;exact ok75
 ·cases h;exact ok76
 ·cases h;exact ok77
 ·cases h;exact ok78
 ·cases h;exact ok79
 ·cases h;exact ok80
 ·cases h;exact ok83
 ·cases h;exact ok84
 ·cases h;exact ok85
 ·cases h;exact ok86
 ·cases h;exact ok87
 ·cases h;exact ok88
 ·cases h;exact ok89
 ·cases h;exact ok90
 ·cases h;exact ok91
 ·cases h;exact ok93
 ·cases h;exact aal
 ·cases h;exact aam
 ·cases h;exact aan
 ·cases h;exact aao
 ·cases h;exact aap
 ·cases h;exact aaq
 ·cases h;exact aar
 ·cases h;exact aas
 ·cases h;exact aat
 ·cases h;exact aau
 ·cases h;exact aav
 ·cases h;exact aaw
 ·cases h;exact aax
 ·cases h;exact aay
 ·cases h;exact aaz
 ·cases h;exact aaA
 ·cases h;exact aaB
 ·cases h;exact aaC
 ·cases h;exact aaD
 ·cases h;exact aaE
 ·cases h;exact aaF
 ·cases h;exact aaG
 ·cases h;exact aaH
 ·cases h;exact aaI
 ·cases h;exact aaJ
 ·cases h;exact aaK
 ·cases h;exact aaL
 ·cases h;exact aaM
 ·cases h;exact aaN
 ·cases h;exact aaO
 ·cases h;exact aaP
 ·cases h;exact aaQ
 ·cases h;exact aaR
 ·cases h;exact aaS
 ·cases h;exact aaT
 ·cases h;exact aaU
 ·cases h;exact aaV
 ·cases h;exact aaW
 ·cases h;exact aaX
 ·exact absurd (by simp) hne
 ·cases h;exact aaY
 ·cases h;exact aaZ
 ·cases h;exact aa0
 ·cases h;exact aa1
 ·cases h
end Go.bP.YthoodopjoaigdaaGreatDoor
