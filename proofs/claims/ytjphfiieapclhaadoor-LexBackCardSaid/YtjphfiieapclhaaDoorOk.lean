/- The functions as code of the layer Abs, each held against the model's own form of it: closed facts. -/
import Derived.Test.YtjphfiieapclhaaDoorAbs19
import Derived.Test.YtjphfiieapclhaaDoorCode
import Derived.Test.YtjphfiieapclhaaDoorProg
namespace Go.Abs.YtjphfiieapclhaaDoor
theorem ok2 : okFn Go.Proofs.Tryd.prog 11 2 F2 = true := by kernel_rfl
theorem ok3 : okFn Go.Proofs.Tryd.prog 11 3 F3 = true := by kernel_rfl
theorem ok4 : okFn Go.Proofs.Tryd.prog 11 4 F4 = true := by kernel_rfl
theorem ok5 : okFn Go.Proofs.Tryd.prog 11 5 F5 = true := by kernel_rfl
theorem ok6 : okFn Go.Proofs.Tryd.prog 11 6 F6 = true := by kernel_rfl
theorem ok7 : okFn Go.Proofs.Tryd.prog 11 7 F7 = true := by kernel_rfl
theorem ok8 : okFn Go.Proofs.Tryd.prog 11 8 F8 = true := by kernel_rfl
theorem ok9 : okFn Go.Proofs.Tryd.prog 11 9 F9 = true := by kernel_rfl
theorem ok10 : okFn Go.Proofs.Tryd.prog 11 10 F10 = true := by kernel_rfl
theorem ok11 : okFn Go.Proofs.Tryd.prog 11 11 F11 = true := by kernel_rfl
theorem ok12 : okFn Go.Proofs.Tryd.prog 11 12 F12 = true := by kernel_rfl
theorem ok13 : okFn Go.Proofs.Tryd.prog 11 13 F13 = true := by kernel_rfl
theorem ok14 : okFn Go.Proofs.Tryd.prog 11 14 F14 = true := by kernel_rfl
theorem ok15 : okFn Go.Proofs.Tryd.prog 11 15 F15 = true := by kernel_rfl
theorem ok16 : okFn Go.Proofs.Tryd.prog 11 16 F16 = true := by kernel_rfl
theorem ok17 : okFn Go.Proofs.Tryd.prog 11 17 F17 = true := by kernel_rfl
theorem ok18 : okFn Go.Proofs.Tryd.prog 11 18 F18 = true := by kernel_rfl
theorem ok19 : okFn Go.Proofs.Tryd.prog 11 19 F19 = true := by kernel_rfl
theorem ok20 : okFn Go.Proofs.Tryd.prog 11 20 F20 = true := by kernel_rfl
theorem ok21 : okFn Go.Proofs.Tryd.prog 11 21 F21 = true := by kernel_rfl
theorem ok22 : okFn Go.Proofs.Tryd.prog 11 22 F22 = true := by kernel_rfl
theorem ok23 : okFn Go.Proofs.Tryd.prog 11 23 F23 = true := by kernel_rfl
theorem ok24 : okFn Go.Proofs.Tryd.prog 11 24 F24 = true := by kernel_rfl
theorem ok28 : okFn Go.Proofs.Tryd.prog 11 28 F28 = true := by kernel_rfl
theorem ok29 : okFn Go.Proofs.Tryd.prog 11 29 F29 = true := by kernel_rfl
theorem ok30 : okFn Go.Proofs.Tryd.prog 11 30 F30 = true := by kernel_rfl
theorem ok31 : okFn Go.Proofs.Tryd.prog 11 31 F31 = true := by kernel_rfl
theorem ok32 : okFn Go.Proofs.Tryd.prog 11 32 F32 = true := by kernel_rfl
theorem ok33 : okFn Go.Proofs.Tryd.prog 11 33 F33 = true := by kernel_rfl
theorem ok34 : okFn Go.Proofs.Tryd.prog 11 34 F34 = true := by kernel_rfl
theorem ok35 : okFn Go.Proofs.Tryd.prog 11 35 F35 = true := by kernel_rfl
theorem ok36 : okFn Go.Proofs.Tryd.prog 11 36 F36 = true := by kernel_rfl
theorem ok37 : okFn Go.Proofs.Tryd.prog 11 37 F37 = true := by kernel_rfl
theorem ok38 : okFn Go.Proofs.Tryd.prog 11 38 F38 = true := by kernel_rfl
theorem ok39 : okFn Go.Proofs.Tryd.prog 11 39 F39 = true := by kernel_rfl
theorem ok43 : okFn Go.Proofs.Tryd.prog 11 43 F43 = true := by kernel_rfl
theorem ok44 : okFn Go.Proofs.Tryd.prog 11 44 F44 = true := by kernel_rfl
theorem ok45 : okFn Go.Proofs.Tryd.prog 11 45 F45 = true := by kernel_rfl
theorem ok46 : okFn Go.Proofs.Tryd.prog 11 46 F46 = true := by kernel_rfl
theorem ok47 : okFn Go.Proofs.Tryd.prog 11 47 F47 = true := by kernel_rfl
theorem ok48 : okFn Go.Proofs.Tryd.prog 11 48 F48 = true := by kernel_rfl
theorem ok49 : okFn Go.Proofs.Tryd.prog 11 49 F49 = true := by kernel_rfl
theorem ok50 : okFn Go.Proofs.Tryd.prog 11 50 F50 = true := by kernel_rfl
theorem ok52 : okFn Go.Proofs.Tryd.prog 11 52 F52 = true := by kernel_rfl
theorem ok53 : okFn Go.Proofs.Tryd.prog 11 53 F53 = true := by kernel_rfl
theorem ok54 : okFn Go.Proofs.Tryd.prog 11 54 F54 = true := by kernel_rfl
theorem ok55 : okFn Go.Proofs.Tryd.prog 11 55 F55 = true := by kernel_rfl
theorem ok56 : okFn Go.Proofs.Tryd.prog 11 56 F56 = true := by kernel_rfl
theorem ok57 : okFn Go.Proofs.Tryd.prog 11 57 F57 = true := by kernel_rfl
theorem ok58 : okFn Go.Proofs.Tryd.prog 11 58 F58 = true := by kernel_rfl
theorem ok59 : okFn Go.Proofs.Tryd.prog 11 59 F59 = true := by kernel_rfl
theorem ok60 : okFn Go.Proofs.Tryd.prog 11 60 F60 = true := by kernel_rfl
theorem ok62 : okFn Go.Proofs.Tryd.prog 11 62 F62 = true := by kernel_rfl
theorem ok63 : okFn Go.Proofs.Tryd.prog 11 63 F63 = true := by kernel_rfl
theorem ok64 : okFn Go.Proofs.Tryd.prog 11 64 F64 = true := by kernel_rfl
theorem ok65 : okFn Go.Proofs.Tryd.prog 11 65 F65 = true := by kernel_rfl
theorem ok66 : okFn Go.Proofs.Tryd.prog 11 66 F66 = true := by kernel_rfl
theorem ok67 : okFn Go.Proofs.Tryd.prog 11 67 F67 = true := by kernel_rfl
theorem ok68 : okFn Go.Proofs.Tryd.prog 11 68 F68 = true := by kernel_rfl
theorem ok69 : okFn Go.Proofs.Tryd.prog 11 69 F69 = true := by kernel_rfl
theorem ok70 : okFn Go.Proofs.Tryd.prog 11 70 F70 = true := by kernel_rfl
theorem ok71 : okFn Go.Proofs.Tryd.prog 11 71 F71 = true := by kernel_rfl
theorem ok72 : okFn Go.Proofs.Tryd.prog 11 72 F72 = true := by kernel_rfl
theorem ok73 : okFn Go.Proofs.Tryd.prog 11 73 F73 = true := by kernel_rfl
theorem ok74 : okFn Go.Proofs.Tryd.prog 11 74 F74 = true := by kernel_rfl
theorem ok75 : okFn Go.Proofs.Tryd.prog 11 75 F75 = true := by kernel_rfl
theorem ok76 : okFn Go.Proofs.Tryd.prog 11 76 F76 = true := by kernel_rfl
theorem ok95 : okFn Go.Proofs.Tryd.prog 11 95 F95 = true := by kernel_rfl
theorem ok113 : okFn Go.Proofs.Tryd.prog 11 113 F113 = true := by kernel_rfl
theorem ok129 : okFn Go.Proofs.Tryd.prog 11 129 F129 = true := by kernel_rfl
theorem fns_ok (f : Nat) (F : AF) (h : fns f = some F) : okFn Go.Proofs.Tryd.prog 11 f F = true := by
  unfold fns at h
  split at h
  · cases h; exact ok2
  · cases h; exact ok3
  · cases h; exact ok4
  · cases h; exact ok5
  · cases h; exact ok6
  · cases h; exact ok7
  · cases h; exact ok8
  · cases h; exact ok9
  · cases h; exact ok10
  · cases h; exact ok11
  · cases h; exact ok12
  · cases h; exact ok13
  · cases h; exact ok14
  · cases h; exact ok15
  · cases h; exact ok16
  · cases h; exact ok17
  · cases h; exact ok18
  · cases h; exact ok19
  · cases h; exact ok20
  · cases h; exact ok21
  · cases h; exact ok22
  · cases h; exact ok23
  · cases h; exact ok24
  · cases h; exact ok28
  · cases h; exact ok29
  · cases h; exact ok30
  · cases h; exact ok31
  · cases h; exact ok32
  · cases h; exact ok33
  · cases h; exact ok34
  · cases h; exact ok35
  · cases h; exact ok36
  · cases h; exact ok37
  · cases h; exact ok38
  · cases h; exact ok39
  · cases h; exact ok43
  · cases h; exact ok44
  · cases h; exact ok45
  · cases h; exact ok46
  · cases h; exact ok47
  · cases h; exact ok48
  · cases h; exact ok49
  · cases h; exact ok50
  · cases h; exact ok52
  · cases h; exact ok53
  · cases h; exact ok54
  · cases h; exact ok55
  · cases h; exact ok56
  · cases h; exact ok57
  · cases h; exact ok58
  · cases h; exact ok59
  · cases h; exact ok60
  · cases h; exact ok62
  · cases h; exact ok63
  · cases h; exact ok64
  · cases h; exact ok65
  · cases h; exact ok66
  · cases h; exact ok67
  · cases h; exact ok68
  · cases h; exact ok69
  · cases h; exact ok70
  · cases h; exact ok71
  · cases h; exact ok72
  · cases h; exact ok73
  · cases h; exact ok74
  · cases h; exact ok75
  · cases h; exact ok76
  · cases h; exact ok95
  · cases h; exact ok113
  · cases h; exact ok129
  · cases h
end Go.Abs.YtjphfiieapclhaaDoor
