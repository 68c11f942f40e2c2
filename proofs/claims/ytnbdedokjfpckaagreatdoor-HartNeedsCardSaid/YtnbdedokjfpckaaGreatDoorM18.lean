/- Texts of this claim, joined: N1. -/
import Derived.Test.YtnbdedokjfpckaaGreatDoorM17
set_option linter.unusedVariables false
set_option linter.unusedSimpArgs false
namespace Go.dB.YtnbdedokjfpckaaGreatDoor
open Go.Proofs
set_option maxRecDepth 10000000
theorem nr0_0:bU TT 1000 4 [.n 512 0,.n 512 0] G0 isTrue=true:=by kernel_rfl
theorem nr1_0:bU TT 1000 4 [.n 512 16,.n 512 0] G0 isTrue=true:=by kernel_rfl
theorem nr2_0:bU TT 1000 4 [.n 512 32,.n 512 0] G0 isTrue=true:=by kernel_rfl
theorem nr3_0:bU TT 1000 4 [.n 512 48,.n 512 0] G0 isTrue=true:=by kernel_rfl
theorem nr4_0:bU TT 1000 4 [.n 512 64,.n 512 0] G0 isTrue=true:=by kernel_rfl
theorem nr5_0:bU TT 1000 4 [.n 512 80,.n 512 0] G0 isTrue=true:=by kernel_rfl
theorem nr6_0:bU TT 1000 4 [.n 512 96,.n 512 0] G0 isTrue=true:=by kernel_rfl
theorem nr7_0:bU TT 1000 4 [.n 512 112,.n 512 0] G0 isTrue=true:=by kernel_rfl
theorem nr8_0:bU TT 1000 4 [.n 512 128,.n 512 0] G0 isTrue=true:=by kernel_rfl
theorem nr9_0:bU TT 1000 4 [.n 512 144,.n 512 0] G0 isTrue=true:=by kernel_rfl
theorem nr10_0:bU TT 1000 4 [.n 512 160,.n 512 0] G0 isTrue=true:=by kernel_rfl
theorem nr11_0:bU TT 1000 4 [.n 512 176,.n 512 0] G0 isTrue=true:=by kernel_rfl
theorem nr12_0:bU TT 1000 4 [.n 512 192,.n 512 0] G0 isTrue=true:=by kernel_rfl
theorem nr13_0:bU TT 1000 4 [.n 512 208,.n 512 0] G0 isTrue=true:=by kernel_rfl
theorem nr14_0:bU TT 1000 4 [.n 512 224,.n 512 0] G0 isTrue=true:=by kernel_rfl
theorem nr15_0:bU TT 1000 4 [.n 512 240,.n 512 0] G0 isTrue=true:=by kernel_rfl
end Go.dB.YtnbdedokjfpckaaGreatDoor
