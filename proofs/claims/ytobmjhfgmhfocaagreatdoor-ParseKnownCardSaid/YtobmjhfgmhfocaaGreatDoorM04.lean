/- The functions as code of the layer Abs, each held against the model's own form of it: closed facts. -/
import Derived.Test.YtobmjhfgmhfocaaGreatDoorM02
import Derived.Test.YtobmjhfgmhfocaaGreatDoorM03
import Derived.Test.YtobmjhfgmhfocaaGreatDoorProg
set_option linter.unusedVariables false
set_option linter.unusedSimpArgs false
namespace Go.Abs.YtobmjhfgmhfocaaGreatDoor
theorem ok2 : okFn Go.Proofs.Tryz.prog 11 2 F2 = true := by kernel_rfl
theorem ok3 : okFn Go.Proofs.Tryz.prog 11 3 F3 = true := by kernel_rfl
theorem ok5 : okFn Go.Proofs.Tryz.prog 11 5 F5 = true := by kernel_rfl
theorem ok6 : okFn Go.Proofs.Tryz.prog 11 6 F6 = true := by kernel_rfl
theorem ok10 : okFn Go.Proofs.Tryz.prog 11 10 F10 = true := by kernel_rfl
theorem ok12 : okFn Go.Proofs.Tryz.prog 11 12 F12 = true := by kernel_rfl
theorem ok14 : okFn Go.Proofs.Tryz.prog 11 14 F14 = true := by kernel_rfl
theorem ok15 : okFn Go.Proofs.Tryz.prog 11 15 F15 = true := by kernel_rfl
theorem ok17 : okFn Go.Proofs.Tryz.prog 11 17 F17 = true := by kernel_rfl
theorem ok18 : okFn Go.Proofs.Tryz.prog 11 18 F18 = true := by kernel_rfl
theorem ok21 : okFn Go.Proofs.Tryz.prog 11 21 F21 = true := by kernel_rfl
theorem ok22 : okFn Go.Proofs.Tryz.prog 11 22 F22 = true := by kernel_rfl
theorem ok23 : okFn Go.Proofs.Tryz.prog 11 23 F23 = true := by kernel_rfl
theorem ok29 : okFn Go.Proofs.Tryz.prog 11 29 F29 = true := by kernel_rfl
theorem ok30 : okFn Go.Proofs.Tryz.prog 11 30 F30 = true := by kernel_rfl
theorem ok32 : okFn Go.Proofs.Tryz.prog 11 32 F32 = true := by kernel_rfl
theorem ok33 : okFn Go.Proofs.Tryz.prog 11 33 F33 = true := by kernel_rfl
theorem ok34 : okFn Go.Proofs.Tryz.prog 11 34 F34 = true := by kernel_rfl
theorem ok35 : okFn Go.Proofs.Tryz.prog 11 35 F35 = true := by kernel_rfl
theorem ok37 : okFn Go.Proofs.Tryz.prog 11 37 F37 = true := by kernel_rfl
theorem ok38 : okFn Go.Proofs.Tryz.prog 11 38 F38 = true := by kernel_rfl
theorem ok39 : okFn Go.Proofs.Tryz.prog 11 39 F39 = true := by kernel_rfl
theorem ok40 : okFn Go.Proofs.Tryz.prog 11 40 F40 = true := by kernel_rfl
theorem ok41 : okFn Go.Proofs.Tryz.prog 11 41 F41 = true := by kernel_rfl
theorem ok43 : okFn Go.Proofs.Tryz.prog 11 43 F43 = true := by kernel_rfl
theorem ok44 : okFn Go.Proofs.Tryz.prog 11 44 F44 = true := by kernel_rfl
theorem ok45 : okFn Go.Proofs.Tryz.prog 11 45 F45 = true := by kernel_rfl
theorem ok46 : okFn Go.Proofs.Tryz.prog 11 46 F46 = true := by kernel_rfl
theorem ok48 : okFn Go.Proofs.Tryz.prog 11 48 F48 = true := by kernel_rfl
theorem ok49 : okFn Go.Proofs.Tryz.prog 11 49 F49 = true := by kernel_rfl
theorem ok50 : okFn Go.Proofs.Tryz.prog 11 50 F50 = true := by kernel_rfl
theorem ok52 : okFn Go.Proofs.Tryz.prog 11 52 F52 = true := by kernel_rfl
theorem ok64 : okFn Go.Proofs.Tryz.prog 11 64 F64 = true := by kernel_rfl
theorem ok65 : okFn Go.Proofs.Tryz.prog 11 65 F65 = true := by kernel_rfl
theorem ok66 : okFn Go.Proofs.Tryz.prog 11 66 F66 = true := by kernel_rfl
theorem ok67 : okFn Go.Proofs.Tryz.prog 11 67 F67 = true := by kernel_rfl
theorem ok68 : okFn Go.Proofs.Tryz.prog 11 68 F68 = true := by kernel_rfl
theorem ok69 : okFn Go.Proofs.Tryz.prog 11 69 F69 = true := by kernel_rfl
theorem ok70 : okFn Go.Proofs.Tryz.prog 11 70 F70 = true := by kernel_rfl
theorem ok72 : okFn Go.Proofs.Tryz.prog 11 72 F72 = true := by kernel_rfl
theorem ok73 : okFn Go.Proofs.Tryz.prog 11 73 F73 = true := by kernel_rfl
theorem ok74 : okFn Go.Proofs.Tryz.prog 11 74 F74 = true := by kernel_rfl
theorem ok75 : okFn Go.Proofs.Tryz.prog 11 75 F75 = true := by kernel_rfl
theorem ok76 : okFn Go.Proofs.Tryz.prog 11 76 F76 = true := by kernel_rfl
theorem ok77 : okFn Go.Proofs.Tryz.prog 11 77 F77 = true := by kernel_rfl
theorem ok78 : okFn Go.Proofs.Tryz.prog 11 78 F78 = true := by kernel_rfl
theorem ok80 : okFn Go.Proofs.Tryz.prog 11 80 F80 = true := by kernel_rfl
theorem ok81 : okFn Go.Proofs.Tryz.prog 11 81 F81 = true := by kernel_rfl
theorem ok82 : okFn Go.Proofs.Tryz.prog 11 82 F82 = true := by kernel_rfl
theorem ok85 : okFn Go.Proofs.Tryz.prog 11 85 F85 = true := by kernel_rfl
theorem ok86 : okFn Go.Proofs.Tryz.prog 11 86 F86 = true := by kernel_rfl
theorem ok92 : okFn Go.Proofs.Tryz.prog 11 92 F92 = true := by kernel_rfl
theorem ok103 : okFn Go.Proofs.Tryz.prog 11 103 F103 = true := by kernel_rfl
theorem ok104 : okFn Go.Proofs.Tryz.prog 11 104 F104 = true := by kernel_rfl
theorem ok105 : okFn Go.Proofs.Tryz.prog 11 105 F105 = true := by kernel_rfl
theorem ok106 : okFn Go.Proofs.Tryz.prog 11 106 F106 = true := by kernel_rfl
theorem ok107 : okFn Go.Proofs.Tryz.prog 11 107 F107 = true := by kernel_rfl
theorem ok108 : okFn Go.Proofs.Tryz.prog 11 108 F108 = true := by kernel_rfl
theorem ok110 : okFn Go.Proofs.Tryz.prog 11 110 F110 = true := by kernel_rfl
theorem ok111 : okFn Go.Proofs.Tryz.prog 11 111 F111 = true := by kernel_rfl
theorem ok112 : okFn Go.Proofs.Tryz.prog 11 112 F112 = true := by kernel_rfl
theorem ok113 : okFn Go.Proofs.Tryz.prog 11 113 F113 = true := by kernel_rfl
theorem ok114 : okFn Go.Proofs.Tryz.prog 11 114 F114 = true := by kernel_rfl
theorem ok115 : okFn Go.Proofs.Tryz.prog 11 115 F115 = true := by kernel_rfl
theorem ok116 : okFn Go.Proofs.Tryz.prog 11 116 F116 = true := by kernel_rfl
theorem ok118 : okFn Go.Proofs.Tryz.prog 11 118 F118 = true := by kernel_rfl
theorem ok119 : okFn Go.Proofs.Tryz.prog 11 119 F119 = true := by kernel_rfl
theorem ok120 : okFn Go.Proofs.Tryz.prog 11 120 F120 = true := by kernel_rfl
theorem ok127 : okFn Go.Proofs.Tryz.prog 11 127 F127 = true := by kernel_rfl
theorem ok139 : okFn Go.Proofs.Tryz.prog 11 139 F139 = true := by kernel_rfl
theorem ok140 : okFn Go.Proofs.Tryz.prog 11 140 F140 = true := by kernel_rfl
theorem ok141 : okFn Go.Proofs.Tryz.prog 11 141 F141 = true := by kernel_rfl
theorem ok142 : okFn Go.Proofs.Tryz.prog 11 142 F142 = true := by kernel_rfl
theorem ok143 : okFn Go.Proofs.Tryz.prog 11 143 F143 = true := by kernel_rfl
theorem ok144 : okFn Go.Proofs.Tryz.prog 11 144 F144 = true := by kernel_rfl
theorem ok145 : okFn Go.Proofs.Tryz.prog 11 145 F145 = true := by kernel_rfl
theorem ok146 : okFn Go.Proofs.Tryz.prog 11 146 F146 = true := by kernel_rfl
theorem ok147 : okFn Go.Proofs.Tryz.prog 11 147 F147 = true := by kernel_rfl
theorem ok148 : okFn Go.Proofs.Tryz.prog 11 148 F148 = true := by kernel_rfl
theorem ok149 : okFn Go.Proofs.Tryz.prog 11 149 F149 = true := by kernel_rfl
theorem ok160 : okFn Go.Proofs.Tryz.prog 11 160 F160 = true := by kernel_rfl
theorem ok162 : okFn Go.Proofs.Tryz.prog 11 162 F162 = true := by kernel_rfl
theorem ok163 : okFn Go.Proofs.Tryz.prog 11 163 F163 = true := by kernel_rfl
theorem ok164 : okFn Go.Proofs.Tryz.prog 11 164 F164 = true := by kernel_rfl
theorem ok165 : okFn Go.Proofs.Tryz.prog 11 165 F165 = true := by kernel_rfl
theorem ok166 : okFn Go.Proofs.Tryz.prog 11 166 F166 = true := by kernel_rfl
theorem ok167 : okFn Go.Proofs.Tryz.prog 11 167 F167 = true := by kernel_rfl
theorem ok168 : okFn Go.Proofs.Tryz.prog 11 168 F168 = true := by kernel_rfl
theorem ok175 : okFn Go.Proofs.Tryz.prog 11 175 F175 = true := by kernel_rfl
theorem ok176 : okFn Go.Proofs.Tryz.prog 11 176 F176 = true := by kernel_rfl
theorem ok177 : okFn Go.Proofs.Tryz.prog 11 177 F177 = true := by kernel_rfl
theorem ok178 : okFn Go.Proofs.Tryz.prog 11 178 F178 = true := by kernel_rfl
theorem ok212 : okFn Go.Proofs.Tryz.prog 11 212 F212 = true := by kernel_rfl
set_option maxRecDepth 50000 in
theorem fns_ok (f : Nat) (F : AF) (h : fns f = some F) (hne : f ∉ [161]) : okFn Go.Proofs.Tryz.prog 11 f F = true := by
  unfold fns at h
  split at h
  · cases h; exact ok2
  · cases h; exact ok3
  · cases h; exact ok5
  · cases h; exact ok6
  · cases h; exact ok10
  · cases h; exact ok12
  · cases h; exact ok14
  · cases h; exact ok15
  · cases h; exact ok17
  · cases h; exact ok18
  · cases h; exact ok21
  · cases h; exact ok22
  · cases h; exact ok23
  · cases h; exact ok29
  · cases h; exact ok30
  · cases h; exact ok32
  · cases h; exact ok33
  · cases h; exact ok34
  · cases h; exact ok35
  · cases h; exact ok37
  · cases h; exact ok38
  · cases h; exact ok39
  · cases h; exact ok40
  · cases h; exact ok41
  · cases h; exact ok43
  · cases h; exact ok44
  · cases h; exact ok45
  · cases h; exact ok46
  · cases h; exact ok48
  · cases h; exact ok49
  · cases h; exact ok50
  · cases h; exact ok52
  · cases h; exact ok64
  · cases h; exact ok65
  · cases h; exact ok66
  · cases h; exact ok67
  · cases h; exact ok68
  · cases h; exact ok69
  · cases h; exact ok70
  · cases h; exact ok72
  · cases h; exact ok73
  · cases h; exact ok74
  · cases h; exact ok75
  · cases h; exact ok76
  · cases h; exact ok77
  · cases h; exact ok78
  · cases h; exact ok80
  · cases h; exact ok81
  · cases h; exact ok82
  · cases h; exact ok85
  · cases h; exact ok86
  · cases h; exact ok92
  · cases h; exact ok103
  · cases h; exact ok104
  · cases h; exact ok105
  · cases h; exact ok106
  · cases h; exact ok107
  · cases h; exact ok108
  · cases h; exact ok110
  · cases h; exact ok111
  · cases h; exact ok112
  · cases h; exact ok113
  · cases h; exact ok114
  · cases h; exact ok115
  · cases h; exact ok116
  · cases h; exact ok118
  · cases h; exact ok119
  · cases h; exact ok120
  · cases h; exact ok127
  · cases h; exact ok139
  · cases h; exact ok140
  · cases h; exact ok141
  · cases h; exact ok142
  · cases h; exact ok143
  · cases h; exact ok144
  · cases h; exact ok145
  · cases h; exact ok146
  · cases h; exact ok147
  · cases h; exact ok148
  · cases h; exact ok149
  · cases h; exact ok160
  · exact absurd (by simp) hne
  · cases h; exact ok162
  · cases h; exact ok163
  · cases h; exact ok164
  · cases h; exact ok165
  · cases h; exact ok166
  · cases h; exact ok167
  · cases h; exact ok168
  · cases h; exact ok175
  · cases h; exact ok176
  · cases h; exact ok177
  · cases h; exact ok178
  · cases h; exact ok212
  · cases h
end Go.Abs.YtobmjhfgmhfocaaGreatDoor
