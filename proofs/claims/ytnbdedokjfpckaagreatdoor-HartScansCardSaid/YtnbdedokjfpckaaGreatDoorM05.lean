/- Texts of this claim, joined: Ty, Abs20, Abs34. -/
import Derived.Test.YtnbdedokjfpckaaGreatDoorM01
import Derived.Test.YtnbdedokjfpckaaGreatDoorProg
import Derived.KernelRfl
import Derived.Test.YtnbdedokjfpckaaGreatDoorM02
import Derived.Below
import Derived.Laws.AppendOwn
set_option linter.unusedVariables false
set_option linter.unusedSimpArgs false
namespace Go.cO.YtnbdedokjfpckaaGreatDoor
open Go.Proofs
@[simp] theorem ty0:aA Tryz.prog 0=some ⟨.other,1,0,.u,false,false,false⟩:=by kernel_rfl
@[simp] theorem cz0:Program.cellsOf Tryz.prog 0=1:=by kernel_rfl
@[simp] theorem ty1:aA Tryz.prog 1=some ⟨.fn,1,8,.fn0,false,false,false⟩:=by kernel_rfl
@[simp] theorem cz1:Program.cellsOf Tryz.prog 1=1:=by kernel_rfl
@[simp] theorem ty2:aA Tryz.prog 2=some ⟨.int .i64,1,8,.i .i64 0,true,false,false⟩:=by kernel_rfl
@[simp] theorem cz2:Program.cellsOf Tryz.prog 2=1:=by kernel_rfl
@[simp] theorem ty3:aA Tryz.prog 3=some ⟨.int .i64,1,8,.i .i64 0,true,false,false⟩:=by kernel_rfl
@[simp] theorem cz3:Program.cellsOf Tryz.prog 3=1:=by kernel_rfl
@[simp] theorem ty4:aA Tryz.prog 4=some ⟨.bool,1,1,.b false,true,false,false⟩:=by kernel_rfl
@[simp] theorem cz4:Program.cellsOf Tryz.prog 4=1:=by kernel_rfl
@[simp] theorem ty5:aA Tryz.prog 5=some ⟨.int .u8,1,1,.i .u8 0,true,false,false⟩:=by kernel_rfl
@[simp] theorem cz5:Program.cellsOf Tryz.prog 5=1:=by kernel_rfl
@[simp] theorem ty6:aA Tryz.prog 6=some ⟨.int .u8,1,1,.i .u8 0,true,false,false⟩:=by kernel_rfl
@[simp] theorem cz6:Program.cellsOf Tryz.prog 6=1:=by kernel_rfl
@[simp] theorem ty7:aA Tryz.prog 7=some ⟨.st [(0,2,false),(1,3,false),(2,4,false),(3,6,false)],4,24,.ag [.i .i64 0,.i .i64 0,.b false,.i .u8 0],true,false,false⟩:=by kernel_rfl
@[simp] theorem cz7:Program.cellsOf Tryz.prog 7=4:=by kernel_rfl
@[simp] theorem ty8:aA Tryz.prog 8=some ⟨.st [(0,2,false),(1,3,false),(2,4,false),(3,6,false)],4,24,.ag [.i .i64 0,.i .i64 0,.b false,.i .u8 0],true,false,false⟩:=by kernel_rfl
@[simp] theorem cz8:Program.cellsOf Tryz.prog 8=4:=by kernel_rfl
@[simp] theorem ty9:aA Tryz.prog 9=some ⟨.str,1,16,.s [],true,false,false⟩:=by kernel_rfl
@[simp] theorem cz9:Program.cellsOf Tryz.prog 9=1:=by kernel_rfl
@[simp] theorem ty10:aA Tryz.prog 10=some ⟨.str,1,16,.s [],true,false,false⟩:=by kernel_rfl
@[simp] theorem cz10:Program.cellsOf Tryz.prog 10=1:=by kernel_rfl
@[simp] theorem ty11:aA Tryz.prog 11=some ⟨.str,1,16,.s [],true,false,false⟩:=by kernel_rfl
@[simp] theorem cz11:Program.cellsOf Tryz.prog 11=1:=by kernel_rfl
@[simp] theorem ty12:aA Tryz.prog 12=some ⟨.int .u64,1,8,.i .u64 0,true,false,false⟩:=by kernel_rfl
@[simp] theorem cz12:Program.cellsOf Tryz.prog 12=1:=by kernel_rfl
@[simp] theorem ty15:aA Tryz.prog 15=some ⟨.ptr 302,1,8,.p0,true,false,false⟩:=by kernel_rfl
@[simp] theorem cz15:Program.cellsOf Tryz.prog 15=1:=by kernel_rfl
@[simp] theorem ty16:aA Tryz.prog 16=some ⟨.ptr 305,1,8,.p0,true,false,false⟩:=by kernel_rfl
@[simp] theorem cz16:Program.cellsOf Tryz.prog 16=1:=by kernel_rfl
@[simp] theorem ty17:aA Tryz.prog 17=some ⟨.ptr 312,1,8,.p0,true,false,false⟩:=by kernel_rfl
@[simp] theorem cz17:Program.cellsOf Tryz.prog 17=1:=by kernel_rfl
@[simp] theorem ty20:aA Tryz.prog 20=some ⟨.xC [],1,16,.gK,true,false,false⟩:=by kernel_rfl
@[simp] theorem cz20:Program.cellsOf Tryz.prog 20=1:=by kernel_rfl
@[simp] theorem ty21:aA Tryz.prog 21=some ⟨.int .i32,1,4,.i .i32 0,true,false,false⟩:=by kernel_rfl
@[simp] theorem cz21:Program.cellsOf Tryz.prog 21=1:=by kernel_rfl
@[simp] theorem ty22:aA Tryz.prog 22=some ⟨.ptr 103,1,8,.p0,true,false,false⟩:=by kernel_rfl
@[simp] theorem cz22:Program.cellsOf Tryz.prog 22=1:=by kernel_rfl
@[simp] theorem ty23:aA Tryz.prog 23=some ⟨.ptr 77,1,8,.p0,true,false,false⟩:=by kernel_rfl
@[simp] theorem cz23:Program.cellsOf Tryz.prog 23=1:=by kernel_rfl
@[simp] theorem ty24:aA Tryz.prog 24=some ⟨.other,1,0,.u,false,false,false⟩:=by kernel_rfl
@[simp] theorem cz24:Program.cellsOf Tryz.prog 24=1:=by kernel_rfl
@[simp] theorem ty25:aA Tryz.prog 25=some ⟨.fn,1,8,.fn0,false,false,false⟩:=by kernel_rfl
@[simp] theorem cz25:Program.cellsOf Tryz.prog 25=1:=by kernel_rfl
@[simp] theorem ty26:aA Tryz.prog 26=some ⟨.fn,1,8,.fn0,false,false,false⟩:=by kernel_rfl
@[simp] theorem cz26:Program.cellsOf Tryz.prog 26=1:=by kernel_rfl
@[simp] theorem ty27:aA Tryz.prog 27=some ⟨.fn,1,8,.fn0,false,false,false⟩:=by kernel_rfl
@[simp] theorem cz27:Program.cellsOf Tryz.prog 27=1:=by kernel_rfl
@[simp] theorem ty28:aA Tryz.prog 28=some ⟨.int .u32,1,4,.i .u32 0,true,false,false⟩:=by kernel_rfl
@[simp] theorem cz28:Program.cellsOf Tryz.prog 28=1:=by kernel_rfl
@[simp] theorem ty29:aA Tryz.prog 29=some ⟨.int .u16,1,2,.i .u16 0,true,false,false⟩:=by kernel_rfl
@[simp] theorem cz29:Program.cellsOf Tryz.prog 29=1:=by kernel_rfl
@[simp] theorem ty30:aA Tryz.prog 30=some ⟨.st [(0,28,false),(1,5,false),(2,29,false),(3,29,false),(4,29,false),(5,29,false),(6,28,false),(7,4,false)],8,24,.ag [.i .u32 0,.i .u8 0,.i .u16 0,.i .u16 0,.i .u16 0,.i .u16 0,.i .u32 0,.b false],true,false,false⟩:=by kernel_rfl
@[simp] theorem cz30:Program.cellsOf Tryz.prog 30=8:=by kernel_rfl
@[simp] theorem ty31:aA Tryz.prog 31=some ⟨.st [(0,28,false),(1,5,false),(2,29,false),(3,29,false),(4,29,false),(5,29,false),(6,28,false),(7,4,false)],8,24,.ag [.i .u32 0,.i .u8 0,.i .u16 0,.i .u16 0,.i .u16 0,.i .u16 0,.i .u32 0,.b false],true,false,false⟩:=by kernel_rfl
@[simp] theorem cz31:Program.cellsOf Tryz.prog 31=8:=by kernel_rfl
@[simp] theorem ty32:aA Tryz.prog 32=some ⟨.fn,1,8,.fn0,false,false,false⟩:=by kernel_rfl
@[simp] theorem cz32:Program.cellsOf Tryz.prog 32=1:=by kernel_rfl
@[simp] theorem ty33:aA Tryz.prog 33=some ⟨.other,1,0,.u,false,false,false⟩:=by kernel_rfl
@[simp] theorem cz33:Program.cellsOf Tryz.prog 33=1:=by kernel_rfl
@[simp] theorem ty34:aA Tryz.prog 34=some ⟨.fn,1,8,.fn0,false,false,false⟩:=by kernel_rfl
@[simp] theorem cz34:Program.cellsOf Tryz.prog 34=1:=by kernel_rfl
@[simp] theorem ty35:aA Tryz.prog 35=some ⟨.arr 16 31,128,384,.ag [.i .u32 0,.i .u8 0,.i .u16 0,.i .u16 0,.i .u16 0,.i .u16 0,.i .u32 0,.b false,.i .u32 0,.i .u8 0,.i .u16 0,.i .u16 0,.i .u16 0,.i .u16 0,.i .u32 0,.b false,.i .u32 0,.i .u8 0,.i .u16 0,.i .u16 0,.i .u16 0,.i .u16 0,.i .u32 0,.b false,.i .u32 0,.i .u8 0,.i .u16 0,.i .u16 0,.i .u16 0,.i .u16 0,.i .u32 0,.b false,.i .u32 0,.i .u8 0,.i .u16 0,.i .u16 0,.i .u16 0,.i .u16 0,.i .u32 0,.b false,.i .u32 0,.i .u8 0,.i .u16 0,.i .u16 0,.i .u16 0,.i .u16 0,.i .u32 0,.b false,.i .u32 0,.i .u8 0,.i .u16 0,.i .u16 0,.i .u16 0,.i .u16 0,.i .u32 0,.b false,.i .u32 0,.i .u8 0,.i .u16 0,.i .u16 0,.i .u16 0,.i .u16 0,.i .u32 0,.b false,.i .u32 0,.i .u8 0,.i .u16 0,.i .u16 0,.i .u16 0,.i .u16 0,.i .u32 0,.b false,.i .u32 0,.i .u8 0,.i .u16 0,.i .u16 0,.i .u16 0,.i .u16 0,.i .u32 0,.b false,.i .u32 0,.i .u8 0,.i .u16 0,.i .u16 0,.i .u16 0,.i .u16 0,.i .u32 0,.b false,.i .u32 0,.i .u8 0,.i .u16 0,.i .u16 0,.i .u16 0,.i .u16 0,.i .u32 0,.b false,.i .u32 0,.i .u8 0,.i .u16 0,.i .u16 0,.i .u16 0,.i .u16 0,.i .u32 0,.b false,.i .u32 0,.i .u8 0,.i .u16 0,.i .u16 0,.i .u16 0,.i .u16 0,.i .u32 0,.b false,.i .u32 0,.i .u8 0,.i .u16 0,.i .u16 0,.i .u16 0,.i .u16 0,.i .u32 0,.b false,.i .u32 0,.i .u8 0,.i .u16 0,.i .u16 0,.i .u16 0,.i .u16 0,.i .u32 0,.b false],true,false,false⟩:=by kernel_rfl
@[simp] theorem cz35:Program.cellsOf Tryz.prog 35=128:=by kernel_rfl
@[simp] theorem ty36:aA Tryz.prog 36=some ⟨.st [(0,35,false),(128,31,false)],136,408,.ag [.i .u32 0,.i .u8 0,.i .u16 0,.i .u16 0,.i .u16 0,.i .u16 0,.i .u32 0,.b false,.i .u32 0,.i .u8 0,.i .u16 0,.i .u16 0,.i .u16 0,.i .u16 0,.i .u32 0,.b false,.i .u32 0,.i .u8 0,.i .u16 0,.i .u16 0,.i .u16 0,.i .u16 0,.i .u32 0,.b false,.i .u32 0,.i .u8 0,.i .u16 0,.i .u16 0,.i .u16 0,.i .u16 0,.i .u32 0,.b false,.i .u32 0,.i .u8 0,.i .u16 0,.i .u16 0,.i .u16 0,.i .u16 0,.i .u32 0,.b false,.i .u32 0,.i .u8 0,.i .u16 0,.i .u16 0,.i .u16 0,.i .u16 0,.i .u32 0,.b false,.i .u32 0,.i .u8 0,.i .u16 0,.i .u16 0,.i .u16 0,.i .u16 0,.i .u32 0,.b false,.i .u32 0,.i .u8 0,.i .u16 0,.i .u16 0,.i .u16 0,.i .u16 0,.i .u32 0,.b false,.i .u32 0,.i .u8 0,.i .u16 0,.i .u16 0,.i .u16 0,.i .u16 0,.i .u32 0,.b false,.i .u32 0,.i .u8 0,.i .u16 0,.i .u16 0,.i .u16 0,.i .u16 0,.i .u32 0,.b false,.i .u32 0,.i .u8 0,.i .u16 0,.i .u16 0,.i .u16 0,.i .u16 0,.i .u32 0,.b false,.i .u32 0,.i .u8 0,.i .u16 0,.i .u16 0,.i .u16 0,.i .u16 0,.i .u32 0,.b false,.i .u32 0,.i .u8 0,.i .u16 0,.i .u16 0,.i .u16 0,.i .u16 0,.i .u32 0,.b false,.i .u32 0,.i .u8 0,.i .u16 0,.i .u16 0,.i .u16 0,.i .u16 0,.i .u32 0,.b false,.i .u32 0,.i .u8 0,.i .u16 0,.i .u16 0,.i .u16 0,.i .u16 0,.i .u32 0,.b false,.i .u32 0,.i .u8 0,.i .u16 0,.i .u16 0,.i .u16 0,.i .u16 0,.i .u32 0,.b false,.i .u32 0,.i .u8 0,.i .u16 0,.i .u16 0,.i .u16 0,.i .u16 0,.i .u32 0,.b false],true,false,false⟩:=by kernel_rfl
@[simp] theorem cz36:Program.cellsOf Tryz.prog 36=136:=by kernel_rfl
@[simp] theorem ty37:aA Tryz.prog 37=some ⟨.st [(0,35,false),(128,31,false)],136,408,.ag [.i .u32 0,.i .u8 0,.i .u16 0,.i .u16 0,.i .u16 0,.i .u16 0,.i .u32 0,.b false,.i .u32 0,.i .u8 0,.i .u16 0,.i .u16 0,.i .u16 0,.i .u16 0,.i .u32 0,.b false,.i .u32 0,.i .u8 0,.i .u16 0,.i .u16 0,.i .u16 0,.i .u16 0,.i .u32 0,.b false,.i .u32 0,.i .u8 0,.i .u16 0,.i .u16 0,.i .u16 0,.i .u16 0,.i .u32 0,.b false,.i .u32 0,.i .u8 0,.i .u16 0,.i .u16 0,.i .u16 0,.i .u16 0,.i .u32 0,.b false,.i .u32 0,.i .u8 0,.i .u16 0,.i .u16 0,.i .u16 0,.i .u16 0,.i .u32 0,.b false,.i .u32 0,.i .u8 0,.i .u16 0,.i .u16 0,.i .u16 0,.i .u16 0,.i .u32 0,.b false,.i .u32 0,.i .u8 0,.i .u16 0,.i .u16 0,.i .u16 0,.i .u16 0,.i .u32 0,.b false,.i .u32 0,.i .u8 0,.i .u16 0,.i .u16 0,.i .u16 0,.i .u16 0,.i .u32 0,.b false,.i .u32 0,.i .u8 0,.i .u16 0,.i .u16 0,.i .u16 0,.i .u16 0,.i .u32 0,.b false,.i .u32 0,.i .u8 0,.i .u16 0,.i .u16 0,.i .u16 0,.i .u16 0,.i .u32 0,.b false,.i .u32 0,.i .u8 0,.i .u16 0,.i .u16 0,.i .u16 0,.i .u16 0,.i .u32 0,.b false,.i .u32 0,.i .u8 0,.i .u16 0,.i .u16 0,.i .u16 0,.i .u16 0,.i .u32 0,.b false,.i .u32 0,.i .u8 0,.i .u16 0,.i .u16 0,.i .u16 0,.i .u16 0,.i .u32 0,.b false,.i .u32 0,.i .u8 0,.i .u16 0,.i .u16 0,.i .u16 0,.i .u16 0,.i .u32 0,.b false,.i .u32 0,.i .u8 0,.i .u16 0,.i .u16 0,.i .u16 0,.i .u16 0,.i .u32 0,.b false,.i .u32 0,.i .u8 0,.i .u16 0,.i .u16 0,.i .u16 0,.i .u16 0,.i .u32 0,.b false],true,false,false⟩:=by kernel_rfl
@[simp] theorem cz37:Program.cellsOf Tryz.prog 37=136:=by kernel_rfl
@[simp] theorem ty38:aA Tryz.prog 38=some ⟨.int .i64,1,8,.i .i64 0,true,false,false⟩:=by kernel_rfl
@[simp] theorem cz38:Program.cellsOf Tryz.prog 38=1:=by kernel_rfl
@[simp] theorem ty39:aA Tryz.prog 39=some ⟨.int .u64,1,8,.i .u64 0,true,false,false⟩:=by kernel_rfl
@[simp] theorem cz39:Program.cellsOf Tryz.prog 39=1:=by kernel_rfl
@[simp] theorem ty40:aA Tryz.prog 40=some ⟨.st [(0,37,false),(136,3,false),(137,38,false),(138,3,false),(139,39,false)],140,440,.ag [.i .u32 0,.i .u8 0,.i .u16 0,.i .u16 0,.i .u16 0,.i .u16 0,.i .u32 0,.b false,.i .u32 0,.i .u8 0,.i .u16 0,.i .u16 0,.i .u16 0,.i .u16 0,.i .u32 0,.b false,.i .u32 0,.i .u8 0,.i .u16 0,.i .u16 0,.i .u16 0,.i .u16 0,.i .u32 0,.b false,.i .u32 0,.i .u8 0,.i .u16 0,.i .u16 0,.i .u16 0,.i .u16 0,.i .u32 0,.b false,.i .u32 0,.i .u8 0,.i .u16 0,.i .u16 0,.i .u16 0,.i .u16 0,.i .u32 0,.b false,.i .u32 0,.i .u8 0,.i .u16 0,.i .u16 0,.i .u16 0,.i .u16 0,.i .u32 0,.b false,.i .u32 0,.i .u8 0,.i .u16 0,.i .u16 0,.i .u16 0,.i .u16 0,.i .u32 0,.b false,.i .u32 0,.i .u8 0,.i .u16 0,.i .u16 0,.i .u16 0,.i .u16 0,.i .u32 0,.b false,.i .u32 0,.i .u8 0,.i .u16 0,.i .u16 0,.i .u16 0,.i .u16 0,.i .u32 0,.b false,.i .u32 0,.i .u8 0,.i .u16 0,.i .u16 0,.i .u16 0,.i .u16 0,.i .u32 0,.b false,.i .u32 0,.i .u8 0,.i .u16 0,.i .u16 0,.i .u16 0,.i .u16 0,.i .u32 0,.b false,.i .u32 0,.i .u8 0,.i .u16 0,.i .u16 0,.i .u16 0,.i .u16 0,.i .u32 0,.b false,.i .u32 0,.i .u8 0,.i .u16 0,.i .u16 0,.i .u16 0,.i .u16 0,.i .u32 0,.b false,.i .u32 0,.i .u8 0,.i .u16 0,.i .u16 0,.i .u16 0,.i .u16 0,.i .u32 0,.b false,.i .u32 0,.i .u8 0,.i .u16 0,.i .u16 0,.i .u16 0,.i .u16 0,.i .u32 0,.b false,.i .u32 0,.i .u8 0,.i .u16 0,.i .u16 0,.i .u16 0,.i .u16 0,.i .u32 0,.b false,.i .u32 0,.i .u8 0,.i .u16 0,.i .u16 0,.i .u16 0,.i .u16 0,.i .u32 0,.b false,.i .i64 0,.i .i64 0,.i .i64 0,.i .u64 0],true,false,false⟩:=by kernel_rfl
@[simp] theorem cz40:Program.cellsOf Tryz.prog 40=140:=by kernel_rfl
@[simp] theorem ty41:aA Tryz.prog 41=some ⟨.st [(0,37,false),(136,3,false),(137,38,false),(138,3,false),(139,39,false)],140,440,.ag [.i .u32 0,.i .u8 0,.i .u16 0,.i .u16 0,.i .u16 0,.i .u16 0,.i .u32 0,.b false,.i .u32 0,.i .u8 0,.i .u16 0,.i .u16 0,.i .u16 0,.i .u16 0,.i .u32 0,.b false,.i .u32 0,.i .u8 0,.i .u16 0,.i .u16 0,.i .u16 0,.i .u16 0,.i .u32 0,.b false,.i .u32 0,.i .u8 0,.i .u16 0,.i .u16 0,.i .u16 0,.i .u16 0,.i .u32 0,.b false,.i .u32 0,.i .u8 0,.i .u16 0,.i .u16 0,.i .u16 0,.i .u16 0,.i .u32 0,.b false,.i .u32 0,.i .u8 0,.i .u16 0,.i .u16 0,.i .u16 0,.i .u16 0,.i .u32 0,.b false,.i .u32 0,.i .u8 0,.i .u16 0,.i .u16 0,.i .u16 0,.i .u16 0,.i .u32 0,.b false,.i .u32 0,.i .u8 0,.i .u16 0,.i .u16 0,.i .u16 0,.i .u16 0,.i .u32 0,.b false,.i .u32 0,.i .u8 0,.i .u16 0,.i .u16 0,.i .u16 0,.i .u16 0,.i .u32 0,.b false,.i .u32 0,.i .u8 0,.i .u16 0,.i .u16 0,.i .u16 0,.i .u16 0,.i .u32 0,.b false,.i .u32 0,.i .u8 0,.i .u16 0,.i .u16 0,.i .u16 0,.i .u16 0,.i .u32 0,.b false,.i .u32 0,.i .u8 0,.i .u16 0,.i .u16 0,.i .u16 0,.i .u16 0,.i .u32 0,.b false,.i .u32 0,.i .u8 0,.i .u16 0,.i .u16 0,.i .u16 0,.i .u16 0,.i .u32 0,.b false,.i .u32 0,.i .u8 0,.i .u16 0,.i .u16 0,.i .u16 0,.i .u16 0,.i .u32 0,.b false,.i .u32 0,.i .u8 0,.i .u16 0,.i .u16 0,.i .u16 0,.i .u16 0,.i .u32 0,.b false,.i .u32 0,.i .u8 0,.i .u16 0,.i .u16 0,.i .u16 0,.i .u16 0,.i .u32 0,.b false,.i .u32 0,.i .u8 0,.i .u16 0,.i .u16 0,.i .u16 0,.i .u16 0,.i .u32 0,.b false,.i .i64 0,.i .i64 0,.i .i64 0,.i .u64 0],true,false,false⟩:=by kernel_rfl
@[simp] theorem cz41:Program.cellsOf Tryz.prog 41=140:=by kernel_rfl
@[simp] theorem ty42:aA Tryz.prog 42=some ⟨.fn,1,8,.fn0,false,false,false⟩:=by kernel_rfl
@[simp] theorem cz42:Program.cellsOf Tryz.prog 42=1:=by kernel_rfl
@[simp] theorem ty43:aA Tryz.prog 43=some ⟨.fn,1,8,.fn0,false,false,false⟩:=by kernel_rfl
@[simp] theorem cz43:Program.cellsOf Tryz.prog 43=1:=by kernel_rfl
@[simp] theorem ty44:aA Tryz.prog 44=some ⟨.arr 4 9,4,64,.ag [.s [],.s [],.s [],.s []],true,false,false⟩:=by kernel_rfl
@[simp] theorem cz44:Program.cellsOf Tryz.prog 44=4:=by kernel_rfl
@[simp] theorem ty45:aA Tryz.prog 45=some ⟨.slice 5,1,24,.sl0,false,false,false⟩:=by kernel_rfl
@[simp] theorem cz45:Program.cellsOf Tryz.prog 45=1:=by kernel_rfl
@[simp] theorem ty46:aA Tryz.prog 46=some ⟨.fn,1,8,.fn0,false,false,false⟩:=by kernel_rfl
@[simp] theorem cz46:Program.cellsOf Tryz.prog 46=1:=by kernel_rfl
@[simp] theorem ty47:aA Tryz.prog 47=some ⟨.fn,1,8,.fn0,false,false,false⟩:=by kernel_rfl
@[simp] theorem cz47:Program.cellsOf Tryz.prog 47=1:=by kernel_rfl
@[simp] theorem ty48:aA Tryz.prog 48=some ⟨.other,1,0,.u,false,false,false⟩:=by kernel_rfl
@[simp] theorem cz48:Program.cellsOf Tryz.prog 48=1:=by kernel_rfl
@[simp] theorem ty49:aA Tryz.prog 49=some ⟨.fn,1,8,.fn0,false,false,false⟩:=by kernel_rfl
@[simp] theorem cz49:Program.cellsOf Tryz.prog 49=1:=by kernel_rfl
@[simp] theorem ty50:aA Tryz.prog 50=some ⟨.st [(0,28,false),(1,28,false)],2,8,.ag [.i .u32 0,.i .u32 0],true,false,false⟩:=by kernel_rfl
@[simp] theorem cz50:Program.cellsOf Tryz.prog 50=2:=by kernel_rfl
@[simp] theorem ty51:aA Tryz.prog 51=some ⟨.st [(0,28,false),(1,28,false)],2,8,.ag [.i .u32 0,.i .u32 0],true,false,false⟩:=by kernel_rfl
@[simp] theorem cz51:Program.cellsOf Tryz.prog 51=2:=by kernel_rfl
@[simp] theorem ty52:aA Tryz.prog 52=some ⟨.fn,1,8,.fn0,false,false,false⟩:=by kernel_rfl
@[simp] theorem cz52:Program.cellsOf Tryz.prog 52=1:=by kernel_rfl
@[simp] theorem ty53:aA Tryz.prog 53=some ⟨.ptr 96,1,8,.p0,true,false,false⟩:=by kernel_rfl
@[simp] theorem cz53:Program.cellsOf Tryz.prog 53=1:=by kernel_rfl
@[simp] theorem ty54:aA Tryz.prog 54=some ⟨.fn,1,8,.fn0,false,false,false⟩:=by kernel_rfl
@[simp] theorem cz54:Program.cellsOf Tryz.prog 54=1:=by kernel_rfl
@[simp] theorem ty55:aA Tryz.prog 55=some ⟨.fn,1,8,.fn0,false,false,false⟩:=by kernel_rfl
@[simp] theorem cz55:Program.cellsOf Tryz.prog 55=1:=by kernel_rfl
@[simp] theorem ty56:aA Tryz.prog 56=some ⟨.fn,1,8,.fn0,false,false,false⟩:=by kernel_rfl
@[simp] theorem cz56:Program.cellsOf Tryz.prog 56=1:=by kernel_rfl
@[simp] theorem ty57:aA Tryz.prog 57=some ⟨.fn,1,8,.fn0,false,false,false⟩:=by kernel_rfl
@[simp] theorem cz57:Program.cellsOf Tryz.prog 57=1:=by kernel_rfl
@[simp] theorem ty58:aA Tryz.prog 58=some ⟨.fn,1,8,.fn0,false,false,false⟩:=by kernel_rfl
@[simp] theorem cz58:Program.cellsOf Tryz.prog 58=1:=by kernel_rfl
@[simp] theorem ty59:aA Tryz.prog 59=some ⟨.slice 31,1,24,.sl0,false,false,false⟩:=by kernel_rfl
@[simp] theorem cz59:Program.cellsOf Tryz.prog 59=1:=by kernel_rfl
@[simp] theorem ty60:aA Tryz.prog 60=some ⟨.fn,1,8,.fn0,false,false,false⟩:=by kernel_rfl
@[simp] theorem cz60:Program.cellsOf Tryz.prog 60=1:=by kernel_rfl
@[simp] theorem ty61:aA Tryz.prog 61=some ⟨.int .i64,1,8,.i .i64 0,true,false,false⟩:=by kernel_rfl
@[simp] theorem cz61:Program.cellsOf Tryz.prog 61=1:=by kernel_rfl
@[simp] theorem ty62:aA Tryz.prog 62=some ⟨.other,1,0,.u,false,false,false⟩:=by kernel_rfl
@[simp] theorem cz62:Program.cellsOf Tryz.prog 62=1:=by kernel_rfl
@[simp] theorem ty63:aA Tryz.prog 63=some ⟨.fn,1,8,.fn0,false,false,false⟩:=by kernel_rfl
@[simp] theorem cz63:Program.cellsOf Tryz.prog 63=1:=by kernel_rfl
@[simp] theorem ty64:aA Tryz.prog 64=some ⟨.slice 28,1,24,.sl0,false,false,false⟩:=by kernel_rfl
@[simp] theorem cz64:Program.cellsOf Tryz.prog 64=1:=by kernel_rfl
@[simp] theorem ty65:aA Tryz.prog 65=some ⟨.xC [("Error",300)],1,16,.gK,true,false,true⟩:=by kernel_rfl
@[simp] theorem cz65:Program.cellsOf Tryz.prog 65=1:=by kernel_rfl
@[simp] theorem ty66:aA Tryz.prog 66=some ⟨.xC [("Error",300)],1,16,.gK,true,false,true⟩:=by kernel_rfl
@[simp] theorem cz66:Program.cellsOf Tryz.prog 66=1:=by kernel_rfl
@[simp] theorem ty67:aA Tryz.prog 67=some ⟨.other,1,0,.u,false,false,false⟩:=by kernel_rfl
@[simp] theorem cz67:Program.cellsOf Tryz.prog 67=1:=by kernel_rfl
@[simp] theorem ty68:aA Tryz.prog 68=some ⟨.fn,1,8,.fn0,false,false,false⟩:=by kernel_rfl
@[simp] theorem cz68:Program.cellsOf Tryz.prog 68=1:=by kernel_rfl
@[simp] theorem ty69:aA Tryz.prog 69=some ⟨.fn,1,8,.fn0,false,false,false⟩:=by kernel_rfl
@[simp] theorem cz69:Program.cellsOf Tryz.prog 69=1:=by kernel_rfl
@[simp] theorem ty70:aA Tryz.prog 70=some ⟨.fn,1,8,.fn0,false,false,false⟩:=by kernel_rfl
@[simp] theorem cz70:Program.cellsOf Tryz.prog 70=1:=by kernel_rfl
@[simp] theorem ty71:aA Tryz.prog 71=some ⟨.st [(0,37,false)],136,408,.ag [.i .u32 0,.i .u8 0,.i .u16 0,.i .u16 0,.i .u16 0,.i .u16 0,.i .u32 0,.b false,.i .u32 0,.i .u8 0,.i .u16 0,.i .u16 0,.i .u16 0,.i .u16 0,.i .u32 0,.b false,.i .u32 0,.i .u8 0,.i .u16 0,.i .u16 0,.i .u16 0,.i .u16 0,.i .u32 0,.b false,.i .u32 0,.i .u8 0,.i .u16 0,.i .u16 0,.i .u16 0,.i .u16 0,.i .u32 0,.b false,.i .u32 0,.i .u8 0,.i .u16 0,.i .u16 0,.i .u16 0,.i .u16 0,.i .u32 0,.b false,.i .u32 0,.i .u8 0,.i .u16 0,.i .u16 0,.i .u16 0,.i .u16 0,.i .u32 0,.b false,.i .u32 0,.i .u8 0,.i .u16 0,.i .u16 0,.i .u16 0,.i .u16 0,.i .u32 0,.b false,.i .u32 0,.i .u8 0,.i .u16 0,.i .u16 0,.i .u16 0,.i .u16 0,.i .u32 0,.b false,.i .u32 0,.i .u8 0,.i .u16 0,.i .u16 0,.i .u16 0,.i .u16 0,.i .u32 0,.b false,.i .u32 0,.i .u8 0,.i .u16 0,.i .u16 0,.i .u16 0,.i .u16 0,.i .u32 0,.b false,.i .u32 0,.i .u8 0,.i .u16 0,.i .u16 0,.i .u16 0,.i .u16 0,.i .u32 0,.b false,.i .u32 0,.i .u8 0,.i .u16 0,.i .u16 0,.i .u16 0,.i .u16 0,.i .u32 0,.b false,.i .u32 0,.i .u8 0,.i .u16 0,.i .u16 0,.i .u16 0,.i .u16 0,.i .u32 0,.b false,.i .u32 0,.i .u8 0,.i .u16 0,.i .u16 0,.i .u16 0,.i .u16 0,.i .u32 0,.b false,.i .u32 0,.i .u8 0,.i .u16 0,.i .u16 0,.i .u16 0,.i .u16 0,.i .u32 0,.b false,.i .u32 0,.i .u8 0,.i .u16 0,.i .u16 0,.i .u16 0,.i .u16 0,.i .u32 0,.b false,.i .u32 0,.i .u8 0,.i .u16 0,.i .u16 0,.i .u16 0,.i .u16 0,.i .u32 0,.b false],true,false,false⟩:=by kernel_rfl
@[simp] theorem cz71:Program.cellsOf Tryz.prog 71=136:=by kernel_rfl
@[simp] theorem ty72:aA Tryz.prog 72=some ⟨.st [(0,37,false)],136,408,.ag [.i .u32 0,.i .u8 0,.i .u16 0,.i .u16 0,.i .u16 0,.i .u16 0,.i .u32 0,.b false,.i .u32 0,.i .u8 0,.i .u16 0,.i .u16 0,.i .u16 0,.i .u16 0,.i .u32 0,.b false,.i .u32 0,.i .u8 0,.i .u16 0,.i .u16 0,.i .u16 0,.i .u16 0,.i .u32 0,.b false,.i .u32 0,.i .u8 0,.i .u16 0,.i .u16 0,.i .u16 0,.i .u16 0,.i .u32 0,.b false,.i .u32 0,.i .u8 0,.i .u16 0,.i .u16 0,.i .u16 0,.i .u16 0,.i .u32 0,.b false,.i .u32 0,.i .u8 0,.i .u16 0,.i .u16 0,.i .u16 0,.i .u16 0,.i .u32 0,.b false,.i .u32 0,.i .u8 0,.i .u16 0,.i .u16 0,.i .u16 0,.i .u16 0,.i .u32 0,.b false,.i .u32 0,.i .u8 0,.i .u16 0,.i .u16 0,.i .u16 0,.i .u16 0,.i .u32 0,.b false,.i .u32 0,.i .u8 0,.i .u16 0,.i .u16 0,.i .u16 0,.i .u16 0,.i .u32 0,.b false,.i .u32 0,.i .u8 0,.i .u16 0,.i .u16 0,.i .u16 0,.i .u16 0,.i .u32 0,.b false,.i .u32 0,.i .u8 0,.i .u16 0,.i .u16 0,.i .u16 0,.i .u16 0,.i .u32 0,.b false,.i .u32 0,.i .u8 0,.i .u16 0,.i .u16 0,.i .u16 0,.i .u16 0,.i .u32 0,.b false,.i .u32 0,.i .u8 0,.i .u16 0,.i .u16 0,.i .u16 0,.i .u16 0,.i .u32 0,.b false,.i .u32 0,.i .u8 0,.i .u16 0,.i .u16 0,.i .u16 0,.i .u16 0,.i .u32 0,.b false,.i .u32 0,.i .u8 0,.i .u16 0,.i .u16 0,.i .u16 0,.i .u16 0,.i .u32 0,.b false,.i .u32 0,.i .u8 0,.i .u16 0,.i .u16 0,.i .u16 0,.i .u16 0,.i .u32 0,.b false,.i .u32 0,.i .u8 0,.i .u16 0,.i .u16 0,.i .u16 0,.i .u16 0,.i .u32 0,.b false],true,false,false⟩:=by kernel_rfl
@[simp] theorem cz72:Program.cellsOf Tryz.prog 72=136:=by kernel_rfl
@[simp] theorem ty73:aA Tryz.prog 73=some ⟨.ptr 131,1,8,.p0,true,false,false⟩:=by kernel_rfl
@[simp] theorem cz73:Program.cellsOf Tryz.prog 73=1:=by kernel_rfl
@[simp] theorem ty74:aA Tryz.prog 74=some ⟨.st [(0,73,false)],1,8,.ag [.p0],true,false,false⟩:=by kernel_rfl
@[simp] theorem cz74:Program.cellsOf Tryz.prog 74=1:=by kernel_rfl
@[simp] theorem ty75:aA Tryz.prog 75=some ⟨.st [(0,73,false)],1,8,.ag [.p0],true,false,false⟩:=by kernel_rfl
@[simp] theorem cz75:Program.cellsOf Tryz.prog 75=1:=by kernel_rfl
@[simp] theorem ty76:aA Tryz.prog 76=some ⟨.st [(0,72,false),(136,75,false),(137,3,false),(138,38,false),(139,39,false)],140,440,.ag [.i .u32 0,.i .u8 0,.i .u16 0,.i .u16 0,.i .u16 0,.i .u16 0,.i .u32 0,.b false,.i .u32 0,.i .u8 0,.i .u16 0,.i .u16 0,.i .u16 0,.i .u16 0,.i .u32 0,.b false,.i .u32 0,.i .u8 0,.i .u16 0,.i .u16 0,.i .u16 0,.i .u16 0,.i .u32 0,.b false,.i .u32 0,.i .u8 0,.i .u16 0,.i .u16 0,.i .u16 0,.i .u16 0,.i .u32 0,.b false,.i .u32 0,.i .u8 0,.i .u16 0,.i .u16 0,.i .u16 0,.i .u16 0,.i .u32 0,.b false,.i .u32 0,.i .u8 0,.i .u16 0,.i .u16 0,.i .u16 0,.i .u16 0,.i .u32 0,.b false,.i .u32 0,.i .u8 0,.i .u16 0,.i .u16 0,.i .u16 0,.i .u16 0,.i .u32 0,.b false,.i .u32 0,.i .u8 0,.i .u16 0,.i .u16 0,.i .u16 0,.i .u16 0,.i .u32 0,.b false,.i .u32 0,.i .u8 0,.i .u16 0,.i .u16 0,.i .u16 0,.i .u16 0,.i .u32 0,.b false,.i .u32 0,.i .u8 0,.i .u16 0,.i .u16 0,.i .u16 0,.i .u16 0,.i .u32 0,.b false,.i .u32 0,.i .u8 0,.i .u16 0,.i .u16 0,.i .u16 0,.i .u16 0,.i .u32 0,.b false,.i .u32 0,.i .u8 0,.i .u16 0,.i .u16 0,.i .u16 0,.i .u16 0,.i .u32 0,.b false,.i .u32 0,.i .u8 0,.i .u16 0,.i .u16 0,.i .u16 0,.i .u16 0,.i .u32 0,.b false,.i .u32 0,.i .u8 0,.i .u16 0,.i .u16 0,.i .u16 0,.i .u16 0,.i .u32 0,.b false,.i .u32 0,.i .u8 0,.i .u16 0,.i .u16 0,.i .u16 0,.i .u16 0,.i .u32 0,.b false,.i .u32 0,.i .u8 0,.i .u16 0,.i .u16 0,.i .u16 0,.i .u16 0,.i .u32 0,.b false,.i .u32 0,.i .u8 0,.i .u16 0,.i .u16 0,.i .u16 0,.i .u16 0,.i .u32 0,.b false,.p0,.i .i64 0,.i .i64 0,.i .u64 0],true,false,false⟩:=by kernel_rfl
@[simp] theorem cz76:Program.cellsOf Tryz.prog 76=140:=by kernel_rfl
@[simp] theorem ty77:aA Tryz.prog 77=some ⟨.st [(0,72,false),(136,75,false),(137,3,false),(138,38,false),(139,39,false)],140,440,.ag [.i .u32 0,.i .u8 0,.i .u16 0,.i .u16 0,.i .u16 0,.i .u16 0,.i .u32 0,.b false,.i .u32 0,.i .u8 0,.i .u16 0,.i .u16 0,.i .u16 0,.i .u16 0,.i .u32 0,.b false,.i .u32 0,.i .u8 0,.i .u16 0,.i .u16 0,.i .u16 0,.i .u16 0,.i .u32 0,.b false,.i .u32 0,.i .u8 0,.i .u16 0,.i .u16 0,.i .u16 0,.i .u16 0,.i .u32 0,.b false,.i .u32 0,.i .u8 0,.i .u16 0,.i .u16 0,.i .u16 0,.i .u16 0,.i .u32 0,.b false,.i .u32 0,.i .u8 0,.i .u16 0,.i .u16 0,.i .u16 0,.i .u16 0,.i .u32 0,.b false,.i .u32 0,.i .u8 0,.i .u16 0,.i .u16 0,.i .u16 0,.i .u16 0,.i .u32 0,.b false,.i .u32 0,.i .u8 0,.i .u16 0,.i .u16 0,.i .u16 0,.i .u16 0,.i .u32 0,.b false,.i .u32 0,.i .u8 0,.i .u16 0,.i .u16 0,.i .u16 0,.i .u16 0,.i .u32 0,.b false,.i .u32 0,.i .u8 0,.i .u16 0,.i .u16 0,.i .u16 0,.i .u16 0,.i .u32 0,.b false,.i .u32 0,.i .u8 0,.i .u16 0,.i .u16 0,.i .u16 0,.i .u16 0,.i .u32 0,.b false,.i .u32 0,.i .u8 0,.i .u16 0,.i .u16 0,.i .u16 0,.i .u16 0,.i .u32 0,.b false,.i .u32 0,.i .u8 0,.i .u16 0,.i .u16 0,.i .u16 0,.i .u16 0,.i .u32 0,.b false,.i .u32 0,.i .u8 0,.i .u16 0,.i .u16 0,.i .u16 0,.i .u16 0,.i .u32 0,.b false,.i .u32 0,.i .u8 0,.i .u16 0,.i .u16 0,.i .u16 0,.i .u16 0,.i .u32 0,.b false,.i .u32 0,.i .u8 0,.i .u16 0,.i .u16 0,.i .u16 0,.i .u16 0,.i .u32 0,.b false,.i .u32 0,.i .u8 0,.i .u16 0,.i .u16 0,.i .u16 0,.i .u16 0,.i .u32 0,.b false,.p0,.i .i64 0,.i .i64 0,.i .u64 0],true,false,false⟩:=by kernel_rfl
@[simp] theorem cz77:Program.cellsOf Tryz.prog 77=140:=by kernel_rfl
@[simp] theorem ty78:aA Tryz.prog 78=some ⟨.fn,1,8,.fn0,false,false,false⟩:=by kernel_rfl
@[simp] theorem cz78:Program.cellsOf Tryz.prog 78=1:=by kernel_rfl
@[simp] theorem ty79:aA Tryz.prog 79=some ⟨.st [(0,3,false),(1,3,false),(2,3,false),(3,3,false),(4,3,false)],5,40,.ag [.i .i64 0,.i .i64 0,.i .i64 0,.i .i64 0,.i .i64 0],true,false,false⟩:=by kernel_rfl
@[simp] theorem cz79:Program.cellsOf Tryz.prog 79=5:=by kernel_rfl
@[simp] theorem ty80:aA Tryz.prog 80=some ⟨.st [(0,3,false),(1,3,false),(2,3,false),(3,3,false),(4,3,false)],5,40,.ag [.i .i64 0,.i .i64 0,.i .i64 0,.i .i64 0,.i .i64 0],true,false,false⟩:=by kernel_rfl
@[simp] theorem cz80:Program.cellsOf Tryz.prog 80=5:=by kernel_rfl
@[simp] theorem ty81:aA Tryz.prog 81=some ⟨.other,1,0,.u,false,false,false⟩:=by kernel_rfl
@[simp] theorem cz81:Program.cellsOf Tryz.prog 81=1:=by kernel_rfl
@[simp] theorem ty82:aA Tryz.prog 82=some ⟨.fn,1,8,.fn0,false,false,false⟩:=by kernel_rfl
@[simp] theorem cz82:Program.cellsOf Tryz.prog 82=1:=by kernel_rfl
@[simp] theorem ty83:aA Tryz.prog 83=some ⟨.fn,1,8,.fn0,false,false,false⟩:=by kernel_rfl
@[simp] theorem cz83:Program.cellsOf Tryz.prog 83=1:=by kernel_rfl
@[simp] theorem ty84:aA Tryz.prog 84=some ⟨.other,1,0,.u,false,false,false⟩:=by kernel_rfl
@[simp] theorem cz84:Program.cellsOf Tryz.prog 84=1:=by kernel_rfl
@[simp] theorem ty85:aA Tryz.prog 85=some ⟨.fn,1,8,.fn0,false,false,false⟩:=by kernel_rfl
@[simp] theorem cz85:Program.cellsOf Tryz.prog 85=1:=by kernel_rfl
@[simp] theorem ty86:aA Tryz.prog 86=some ⟨.fn,1,8,.fn0,false,false,false⟩:=by kernel_rfl
@[simp] theorem cz86:Program.cellsOf Tryz.prog 86=1:=by kernel_rfl
@[simp] theorem ty87:aA Tryz.prog 87=some ⟨.fn,1,8,.fn0,false,false,false⟩:=by kernel_rfl
@[simp] theorem cz87:Program.cellsOf Tryz.prog 87=1:=by kernel_rfl
@[simp] theorem ty88:aA Tryz.prog 88=some ⟨.fn,1,8,.fn0,false,false,false⟩:=by kernel_rfl
@[simp] theorem cz88:Program.cellsOf Tryz.prog 88=1:=by kernel_rfl
@[simp] theorem ty89:aA Tryz.prog 89=some ⟨.fn,1,8,.fn0,false,false,false⟩:=by kernel_rfl
@[simp] theorem cz89:Program.cellsOf Tryz.prog 89=1:=by kernel_rfl
@[simp] theorem ty90:aA Tryz.prog 90=some ⟨.fn,1,8,.fn0,false,false,false⟩:=by kernel_rfl
@[simp] theorem cz90:Program.cellsOf Tryz.prog 90=1:=by kernel_rfl
@[simp] theorem ty91:aA Tryz.prog 91=some ⟨.other,1,0,.u,false,false,false⟩:=by kernel_rfl
@[simp] theorem cz91:Program.cellsOf Tryz.prog 91=1:=by kernel_rfl
@[simp] theorem ty92:aA Tryz.prog 92=some ⟨.fn,1,8,.fn0,false,false,false⟩:=by kernel_rfl
@[simp] theorem cz92:Program.cellsOf Tryz.prog 92=1:=by kernel_rfl
@[simp] theorem ty93:aA Tryz.prog 93=some ⟨.ptr 152,1,8,.p0,true,false,false⟩:=by kernel_rfl
@[simp] theorem cz93:Program.cellsOf Tryz.prog 93=1:=by kernel_rfl
@[simp] theorem ty94:aA Tryz.prog 94=some ⟨.fn,1,8,.fn0,false,false,false⟩:=by kernel_rfl
@[simp] theorem cz94:Program.cellsOf Tryz.prog 94=1:=by kernel_rfl
@[simp] theorem ty95:aA Tryz.prog 95=some ⟨.st [(0,93,false)],1,8,.ag [.p0],true,false,false⟩:=by kernel_rfl
@[simp] theorem cz95:Program.cellsOf Tryz.prog 95=1:=by kernel_rfl
@[simp] theorem ty96:aA Tryz.prog 96=some ⟨.st [(0,93,false)],1,8,.ag [.p0],true,false,false⟩:=by kernel_rfl
@[simp] theorem cz96:Program.cellsOf Tryz.prog 96=1:=by kernel_rfl
@[simp] theorem ty97:aA Tryz.prog 97=some ⟨.fn,1,8,.fn0,false,false,false⟩:=by kernel_rfl
@[simp] theorem cz97:Program.cellsOf Tryz.prog 97=1:=by kernel_rfl
@[simp] theorem ty98:aA Tryz.prog 98=some ⟨.other,1,0,.u,false,false,false⟩:=by kernel_rfl
@[simp] theorem cz98:Program.cellsOf Tryz.prog 98=1:=by kernel_rfl
@[simp] theorem ty99:aA Tryz.prog 99=some ⟨.fn,1,8,.fn0,false,false,false⟩:=by kernel_rfl
@[simp] theorem cz99:Program.cellsOf Tryz.prog 99=1:=by kernel_rfl
@[simp] theorem ty100:aA Tryz.prog 100=some ⟨.fn,1,8,.fn0,false,false,false⟩:=by kernel_rfl
@[simp] theorem cz100:Program.cellsOf Tryz.prog 100=1:=by kernel_rfl
@[simp] theorem ty101:aA Tryz.prog 101=some ⟨.fn,1,8,.fn0,false,false,false⟩:=by kernel_rfl
@[simp] theorem cz101:Program.cellsOf Tryz.prog 101=1:=by kernel_rfl
@[simp] theorem ty102:aA Tryz.prog 102=some ⟨.st [(0,93,false),(1,45,false)],2,32,.ag [.p0,.sl0],false,false,false⟩:=by kernel_rfl
@[simp] theorem cz102:Program.cellsOf Tryz.prog 102=2:=by kernel_rfl
@[simp] theorem ty103:aA Tryz.prog 103=some ⟨.st [(0,93,false),(1,45,false)],2,32,.ag [.p0,.sl0],false,false,false⟩:=by kernel_rfl
@[simp] theorem cz103:Program.cellsOf Tryz.prog 103=2:=by kernel_rfl
@[simp] theorem ty104:aA Tryz.prog 104=some ⟨.fn,1,8,.fn0,false,false,false⟩:=by kernel_rfl
@[simp] theorem cz104:Program.cellsOf Tryz.prog 104=1:=by kernel_rfl
@[simp] theorem ty105:aA Tryz.prog 105=some ⟨.map 9 3,1,8,.qX,false,false,false⟩:=by kernel_rfl
@[simp] theorem cz105:Program.cellsOf Tryz.prog 105=1:=by kernel_rfl
@[simp] theorem ty106:aA Tryz.prog 106=some ⟨.slice 112,1,24,.sl0,false,false,false⟩:=by kernel_rfl
@[simp] theorem cz106:Program.cellsOf Tryz.prog 106=1:=by kernel_rfl
@[simp] theorem ty107:aA Tryz.prog 107=some ⟨.slice 9,1,24,.sl0,false,false,false⟩:=by kernel_rfl
@[simp] theorem cz107:Program.cellsOf Tryz.prog 107=1:=by kernel_rfl
@[simp] theorem ty108:aA Tryz.prog 108=some ⟨.other,1,0,.u,false,false,false⟩:=by kernel_rfl
@[simp] theorem cz108:Program.cellsOf Tryz.prog 108=1:=by kernel_rfl
@[simp] theorem ty109:aA Tryz.prog 109=some ⟨.fn,1,8,.fn0,false,false,false⟩:=by kernel_rfl
@[simp] theorem cz109:Program.cellsOf Tryz.prog 109=1:=by kernel_rfl
@[simp] theorem ty110:aA Tryz.prog 110=some ⟨.fn,1,8,.fn0,false,false,false⟩:=by kernel_rfl
@[simp] theorem cz110:Program.cellsOf Tryz.prog 110=1:=by kernel_rfl
@[simp] theorem ty111:aA Tryz.prog 111=some ⟨.st [(0,80,false),(5,28,false),(6,9,false),(7,3,false)],8,72,.ag [.i .i64 0,.i .i64 0,.i .i64 0,.i .i64 0,.i .i64 0,.i .u32 0,.s [],.i .i64 0],true,false,false⟩:=by kernel_rfl
@[simp] theorem cz111:Program.cellsOf Tryz.prog 111=8:=by kernel_rfl
@[simp] theorem ty112:aA Tryz.prog 112=some ⟨.st [(0,80,false),(5,28,false),(6,9,false),(7,3,false)],8,72,.ag [.i .i64 0,.i .i64 0,.i .i64 0,.i .i64 0,.i .i64 0,.i .u32 0,.s [],.i .i64 0],true,false,false⟩:=by kernel_rfl
@[simp] theorem cz112:Program.cellsOf Tryz.prog 112=8:=by kernel_rfl
@[simp] theorem ty113:aA Tryz.prog 113=some ⟨.other,1,0,.u,false,false,false⟩:=by kernel_rfl
@[simp] theorem cz113:Program.cellsOf Tryz.prog 113=1:=by kernel_rfl
@[simp] theorem ty114:aA Tryz.prog 114=some ⟨.fn,1,8,.fn0,false,false,false⟩:=by kernel_rfl
@[simp] theorem cz114:Program.cellsOf Tryz.prog 114=1:=by kernel_rfl
@[simp] theorem ty115:aA Tryz.prog 115=some ⟨.fn,1,8,.fn0,false,false,false⟩:=by kernel_rfl
@[simp] theorem cz115:Program.cellsOf Tryz.prog 115=1:=by kernel_rfl
@[simp] theorem ty116:aA Tryz.prog 116=some ⟨.fn,1,8,.fn0,false,false,false⟩:=by kernel_rfl
@[simp] theorem cz116:Program.cellsOf Tryz.prog 116=1:=by kernel_rfl
@[simp] theorem ty117:aA Tryz.prog 117=some ⟨.other,1,0,.u,false,false,false⟩:=by kernel_rfl
@[simp] theorem cz117:Program.cellsOf Tryz.prog 117=1:=by kernel_rfl
@[simp] theorem ty118:aA Tryz.prog 118=some ⟨.fn,1,8,.fn0,false,false,false⟩:=by kernel_rfl
@[simp] theorem cz118:Program.cellsOf Tryz.prog 118=1:=by kernel_rfl
@[simp] theorem ty119:aA Tryz.prog 119=some ⟨.fn,1,8,.fn0,false,false,false⟩:=by kernel_rfl
@[simp] theorem cz119:Program.cellsOf Tryz.prog 119=1:=by kernel_rfl
@[simp] theorem ty120:aA Tryz.prog 120=some ⟨.other,1,0,.u,false,false,false⟩:=by kernel_rfl
@[simp] theorem cz120:Program.cellsOf Tryz.prog 120=1:=by kernel_rfl
@[simp] theorem ty121:aA Tryz.prog 121=some ⟨.fn,1,8,.fn0,false,false,false⟩:=by kernel_rfl
@[simp] theorem cz121:Program.cellsOf Tryz.prog 121=1:=by kernel_rfl
@[simp] theorem ty122:aA Tryz.prog 122=some ⟨.fn,1,8,.fn0,false,false,false⟩:=by kernel_rfl
@[simp] theorem cz122:Program.cellsOf Tryz.prog 122=1:=by kernel_rfl
@[simp] theorem ty123:aA Tryz.prog 123=some ⟨.fn,1,8,.fn0,false,false,false⟩:=by kernel_rfl
@[simp] theorem cz123:Program.cellsOf Tryz.prog 123=1:=by kernel_rfl
@[simp] theorem ty124:aA Tryz.prog 124=some ⟨.fn,1,8,.fn0,false,false,false⟩:=by kernel_rfl
@[simp] theorem cz124:Program.cellsOf Tryz.prog 124=1:=by kernel_rfl
@[simp] theorem ty125:aA Tryz.prog 125=some ⟨.other,1,0,.u,false,false,false⟩:=by kernel_rfl
@[simp] theorem cz125:Program.cellsOf Tryz.prog 125=1:=by kernel_rfl
@[simp] theorem ty126:aA Tryz.prog 126=some ⟨.fn,1,8,.fn0,false,false,false⟩:=by kernel_rfl
@[simp] theorem cz126:Program.cellsOf Tryz.prog 126=1:=by kernel_rfl
@[simp] theorem ty127:aA Tryz.prog 127=some ⟨.fn,1,8,.fn0,false,false,false⟩:=by kernel_rfl
@[simp] theorem cz127:Program.cellsOf Tryz.prog 127=1:=by kernel_rfl
@[simp] theorem ty128:aA Tryz.prog 128=some ⟨.fn,1,8,.fn0,false,false,false⟩:=by kernel_rfl
@[simp] theorem cz128:Program.cellsOf Tryz.prog 128=1:=by kernel_rfl
@[simp] theorem ty129:aA Tryz.prog 129=some ⟨.fn,1,8,.fn0,false,false,false⟩:=by kernel_rfl
@[simp] theorem cz129:Program.cellsOf Tryz.prog 129=1:=by kernel_rfl
@[simp] theorem ty130:aA Tryz.prog 130=some ⟨.st [(0,59,false)],1,24,.ag [.sl0],false,false,false⟩:=by kernel_rfl
@[simp] theorem cz130:Program.cellsOf Tryz.prog 130=1:=by kernel_rfl
@[simp] theorem ty131:aA Tryz.prog 131=some ⟨.st [(0,59,false)],1,24,.ag [.sl0],false,false,false⟩:=by kernel_rfl
@[simp] theorem cz131:Program.cellsOf Tryz.prog 131=1:=by kernel_rfl
@[simp] theorem ty132:aA Tryz.prog 132=some ⟨.fn,1,8,.fn0,false,false,false⟩:=by kernel_rfl
@[simp] theorem cz132:Program.cellsOf Tryz.prog 132=1:=by kernel_rfl
@[simp] theorem ty133:aA Tryz.prog 133=some ⟨.fn,1,8,.fn0,false,false,false⟩:=by kernel_rfl
@[simp] theorem cz133:Program.cellsOf Tryz.prog 133=1:=by kernel_rfl
@[simp] theorem ty134:aA Tryz.prog 134=some ⟨.fn,1,8,.fn0,false,false,false⟩:=by kernel_rfl
@[simp] theorem cz134:Program.cellsOf Tryz.prog 134=1:=by kernel_rfl
@[simp] theorem ty135:aA Tryz.prog 135=some ⟨.fn,1,8,.fn0,false,false,false⟩:=by kernel_rfl
@[simp] theorem cz135:Program.cellsOf Tryz.prog 135=1:=by kernel_rfl
@[simp] theorem ty136:aA Tryz.prog 136=some ⟨.fn,1,8,.fn0,false,false,false⟩:=by kernel_rfl
@[simp] theorem cz136:Program.cellsOf Tryz.prog 136=1:=by kernel_rfl
@[simp] theorem ty137:aA Tryz.prog 137=some ⟨.fn,1,8,.fn0,false,false,false⟩:=by kernel_rfl
@[simp] theorem cz137:Program.cellsOf Tryz.prog 137=1:=by kernel_rfl
@[simp] theorem ty138:aA Tryz.prog 138=some ⟨.fn,1,8,.fn0,false,false,false⟩:=by kernel_rfl
@[simp] theorem cz138:Program.cellsOf Tryz.prog 138=1:=by kernel_rfl
@[simp] theorem ty139:aA Tryz.prog 139=some ⟨.other,1,0,.u,false,false,false⟩:=by kernel_rfl
@[simp] theorem cz139:Program.cellsOf Tryz.prog 139=1:=by kernel_rfl
@[simp] theorem ty140:aA Tryz.prog 140=some ⟨.fn,1,8,.fn0,false,false,false⟩:=by kernel_rfl
@[simp] theorem cz140:Program.cellsOf Tryz.prog 140=1:=by kernel_rfl
@[simp] theorem ty141:aA Tryz.prog 141=some ⟨.other,1,0,.u,false,false,false⟩:=by kernel_rfl
@[simp] theorem cz141:Program.cellsOf Tryz.prog 141=1:=by kernel_rfl
@[simp] theorem ty142:aA Tryz.prog 142=some ⟨.fn,1,8,.fn0,false,false,false⟩:=by kernel_rfl
@[simp] theorem cz142:Program.cellsOf Tryz.prog 142=1:=by kernel_rfl
@[simp] theorem ty143:aA Tryz.prog 143=some ⟨.other,1,0,.u,false,false,false⟩:=by kernel_rfl
@[simp] theorem cz143:Program.cellsOf Tryz.prog 143=1:=by kernel_rfl
@[simp] theorem ty144:aA Tryz.prog 144=some ⟨.fn,1,8,.fn0,false,false,false⟩:=by kernel_rfl
@[simp] theorem cz144:Program.cellsOf Tryz.prog 144=1:=by kernel_rfl
@[simp] theorem ty145:aA Tryz.prog 145=some ⟨.fn,1,8,.fn0,false,false,false⟩:=by kernel_rfl
@[simp] theorem cz145:Program.cellsOf Tryz.prog 145=1:=by kernel_rfl
@[simp] theorem ty146:aA Tryz.prog 146=some ⟨.fn,1,8,.fn0,false,false,false⟩:=by kernel_rfl
@[simp] theorem cz146:Program.cellsOf Tryz.prog 146=1:=by kernel_rfl
@[simp] theorem ty147:aA Tryz.prog 147=some ⟨.fn,1,8,.fn0,false,false,false⟩:=by kernel_rfl
@[simp] theorem cz147:Program.cellsOf Tryz.prog 147=1:=by kernel_rfl
@[simp] theorem ty148:aA Tryz.prog 148=some ⟨.other,1,0,.u,false,false,false⟩:=by kernel_rfl
@[simp] theorem cz148:Program.cellsOf Tryz.prog 148=1:=by kernel_rfl
@[simp] theorem ty149:aA Tryz.prog 149=some ⟨.fn,1,8,.fn0,false,false,false⟩:=by kernel_rfl
@[simp] theorem cz149:Program.cellsOf Tryz.prog 149=1:=by kernel_rfl
@[simp] theorem ty150:aA Tryz.prog 150=some ⟨.slice 39,1,24,.sl0,false,false,false⟩:=by kernel_rfl
@[simp] theorem cz150:Program.cellsOf Tryz.prog 150=1:=by kernel_rfl
@[simp] theorem ty151:aA Tryz.prog 151=some ⟨.st [(0,3,false),(1,150,false)],2,32,.ag [.i .i64 0,.sl0],false,false,false⟩:=by kernel_rfl
@[simp] theorem cz151:Program.cellsOf Tryz.prog 151=2:=by kernel_rfl
@[simp] theorem ty152:aA Tryz.prog 152=some ⟨.st [(0,3,false),(1,150,false)],2,32,.ag [.i .i64 0,.sl0],false,false,false⟩:=by kernel_rfl
@[simp] theorem cz152:Program.cellsOf Tryz.prog 152=2:=by kernel_rfl
@[simp] theorem ty153:aA Tryz.prog 153=some ⟨.fn,1,8,.fn0,false,false,false⟩:=by kernel_rfl
@[simp] theorem cz153:Program.cellsOf Tryz.prog 153=1:=by kernel_rfl
@[simp] theorem ty154:aA Tryz.prog 154=some ⟨.fn,1,8,.fn0,false,false,false⟩:=by kernel_rfl
@[simp] theorem cz154:Program.cellsOf Tryz.prog 154=1:=by kernel_rfl
@[simp] theorem ty155:aA Tryz.prog 155=some ⟨.fn,1,8,.fn0,false,false,false⟩:=by kernel_rfl
@[simp] theorem cz155:Program.cellsOf Tryz.prog 155=1:=by kernel_rfl
@[simp] theorem ty156:aA Tryz.prog 156=some ⟨.fn,1,8,.fn0,false,false,false⟩:=by kernel_rfl
@[simp] theorem cz156:Program.cellsOf Tryz.prog 156=1:=by kernel_rfl
@[simp] theorem ty157:aA Tryz.prog 157=some ⟨.fn,1,8,.fn0,false,false,false⟩:=by kernel_rfl
@[simp] theorem cz157:Program.cellsOf Tryz.prog 157=1:=by kernel_rfl
@[simp] theorem ty158:aA Tryz.prog 158=some ⟨.fn,1,8,.fn0,false,false,false⟩:=by kernel_rfl
@[simp] theorem cz158:Program.cellsOf Tryz.prog 158=1:=by kernel_rfl
@[simp] theorem ty159:aA Tryz.prog 159=some ⟨.fn,1,8,.fn0,false,false,false⟩:=by kernel_rfl
@[simp] theorem cz159:Program.cellsOf Tryz.prog 159=1:=by kernel_rfl
@[simp] theorem ty160:aA Tryz.prog 160=some ⟨.ptr 37,1,8,.p0,true,false,false⟩:=by kernel_rfl
@[simp] theorem cz160:Program.cellsOf Tryz.prog 160=1:=by kernel_rfl
@[simp] theorem ty161:aA Tryz.prog 161=some ⟨.fn,1,8,.fn0,false,false,false⟩:=by kernel_rfl
@[simp] theorem cz161:Program.cellsOf Tryz.prog 161=1:=by kernel_rfl
@[simp] theorem ty162:aA Tryz.prog 162=some ⟨.ptr 31,1,8,.p0,true,false,false⟩:=by kernel_rfl
@[simp] theorem cz162:Program.cellsOf Tryz.prog 162=1:=by kernel_rfl
@[simp] theorem ty163:aA Tryz.prog 163=some ⟨.fn,1,8,.fn0,false,false,false⟩:=by kernel_rfl
@[simp] theorem cz163:Program.cellsOf Tryz.prog 163=1:=by kernel_rfl
@[simp] theorem ty164:aA Tryz.prog 164=some ⟨.other,1,0,.u,false,false,false⟩:=by kernel_rfl
@[simp] theorem cz164:Program.cellsOf Tryz.prog 164=1:=by kernel_rfl
@[simp] theorem ty165:aA Tryz.prog 165=some ⟨.fn,1,8,.fn0,false,false,false⟩:=by kernel_rfl
@[simp] theorem cz165:Program.cellsOf Tryz.prog 165=1:=by kernel_rfl
@[simp] theorem ty166:aA Tryz.prog 166=some ⟨.fn,1,8,.fn0,false,false,false⟩:=by kernel_rfl
@[simp] theorem cz166:Program.cellsOf Tryz.prog 166=1:=by kernel_rfl
@[simp] theorem ty167:aA Tryz.prog 167=some ⟨.ptr 169,1,8,.p0,true,false,false⟩:=by kernel_rfl
@[simp] theorem cz167:Program.cellsOf Tryz.prog 167=1:=by kernel_rfl
@[simp] theorem ty168:aA Tryz.prog 168=some ⟨.st [(0,61,false),(1,3,false)],2,16,.ag [.i .i64 0,.i .i64 0],true,false,false⟩:=by kernel_rfl
@[simp] theorem cz168:Program.cellsOf Tryz.prog 168=2:=by kernel_rfl
@[simp] theorem ty169:aA Tryz.prog 169=some ⟨.st [(0,61,false),(1,3,false)],2,16,.ag [.i .i64 0,.i .i64 0],true,false,false⟩:=by kernel_rfl
@[simp] theorem cz169:Program.cellsOf Tryz.prog 169=2:=by kernel_rfl
@[simp] theorem ty170:aA Tryz.prog 170=some ⟨.fn,1,8,.fn0,false,false,false⟩:=by kernel_rfl
@[simp] theorem cz170:Program.cellsOf Tryz.prog 170=1:=by kernel_rfl
@[simp] theorem ty171:aA Tryz.prog 171=some ⟨.fn,1,8,.fn0,false,false,false⟩:=by kernel_rfl
@[simp] theorem cz171:Program.cellsOf Tryz.prog 171=1:=by kernel_rfl
@[simp] theorem ty172:aA Tryz.prog 172=some ⟨.fn,1,8,.fn0,false,false,false⟩:=by kernel_rfl
@[simp] theorem cz172:Program.cellsOf Tryz.prog 172=1:=by kernel_rfl
@[simp] theorem ty173:aA Tryz.prog 173=some ⟨.fn,1,8,.fn0,false,false,false⟩:=by kernel_rfl
@[simp] theorem cz173:Program.cellsOf Tryz.prog 173=1:=by kernel_rfl
@[simp] theorem ty174:aA Tryz.prog 174=some ⟨.fn,1,8,.fn0,false,false,false⟩:=by kernel_rfl
@[simp] theorem cz174:Program.cellsOf Tryz.prog 174=1:=by kernel_rfl
@[simp] theorem ty175:aA Tryz.prog 175=some ⟨.fn,1,8,.fn0,false,false,false⟩:=by kernel_rfl
@[simp] theorem cz175:Program.cellsOf Tryz.prog 175=1:=by kernel_rfl
@[simp] theorem ty176:aA Tryz.prog 176=some ⟨.fn,1,8,.fn0,false,false,false⟩:=by kernel_rfl
@[simp] theorem cz176:Program.cellsOf Tryz.prog 176=1:=by kernel_rfl
@[simp] theorem ty177:aA Tryz.prog 177=some ⟨.fn,1,8,.fn0,false,false,false⟩:=by kernel_rfl
@[simp] theorem cz177:Program.cellsOf Tryz.prog 177=1:=by kernel_rfl
@[simp] theorem ty178:aA Tryz.prog 178=some ⟨.int .u64,1,8,.i .u64 0,true,false,false⟩:=by kernel_rfl
@[simp] theorem cz178:Program.cellsOf Tryz.prog 178=1:=by kernel_rfl
@[simp] theorem ty179:aA Tryz.prog 179=some ⟨.ptr 3,1,8,.p0,true,false,false⟩:=by kernel_rfl
@[simp] theorem cz179:Program.cellsOf Tryz.prog 179=1:=by kernel_rfl
@[simp] theorem ty180:aA Tryz.prog 180=some ⟨.fn,1,8,.fn0,false,false,false⟩:=by kernel_rfl
@[simp] theorem cz180:Program.cellsOf Tryz.prog 180=1:=by kernel_rfl
@[simp] theorem ty181:aA Tryz.prog 181=some ⟨.arr 4 5,4,4,.ag [.i .u8 0,.i .u8 0,.i .u8 0,.i .u8 0],true,false,false⟩:=by kernel_rfl
@[simp] theorem cz181:Program.cellsOf Tryz.prog 181=4:=by kernel_rfl
@[simp] theorem ty182:aA Tryz.prog 182=some ⟨.fn,1,8,.fn0,false,false,false⟩:=by kernel_rfl
@[simp] theorem cz182:Program.cellsOf Tryz.prog 182=1:=by kernel_rfl
@[simp] theorem ty183:aA Tryz.prog 183=some ⟨.fn,1,8,.fn0,false,false,false⟩:=by kernel_rfl
@[simp] theorem cz183:Program.cellsOf Tryz.prog 183=1:=by kernel_rfl
@[simp] theorem ty184:aA Tryz.prog 184=some ⟨.fn,1,8,.fn0,false,false,false⟩:=by kernel_rfl
@[simp] theorem cz184:Program.cellsOf Tryz.prog 184=1:=by kernel_rfl
@[simp] theorem ty185:aA Tryz.prog 185=some ⟨.fn,1,8,.fn0,false,false,false⟩:=by kernel_rfl
@[simp] theorem cz185:Program.cellsOf Tryz.prog 185=1:=by kernel_rfl
@[simp] theorem ty186:aA Tryz.prog 186=some ⟨.fn,1,8,.fn0,false,false,false⟩:=by kernel_rfl
@[simp] theorem cz186:Program.cellsOf Tryz.prog 186=1:=by kernel_rfl
@[simp] theorem ty187:aA Tryz.prog 187=some ⟨.fn,1,8,.fn0,false,false,false⟩:=by kernel_rfl
@[simp] theorem cz187:Program.cellsOf Tryz.prog 187=1:=by kernel_rfl
@[simp] theorem ty188:aA Tryz.prog 188=some ⟨.st [(0,31,false)],8,24,.ag [.i .u32 0,.i .u8 0,.i .u16 0,.i .u16 0,.i .u16 0,.i .u16 0,.i .u32 0,.b false],true,false,false⟩:=by kernel_rfl
@[simp] theorem cz188:Program.cellsOf Tryz.prog 188=8:=by kernel_rfl
@[simp] theorem ty189:aA Tryz.prog 189=some ⟨.st [(0,31,false)],8,24,.ag [.i .u32 0,.i .u8 0,.i .u16 0,.i .u16 0,.i .u16 0,.i .u16 0,.i .u32 0,.b false],true,false,false⟩:=by kernel_rfl
@[simp] theorem cz189:Program.cellsOf Tryz.prog 189=8:=by kernel_rfl
@[simp] theorem ty190:aA Tryz.prog 190=some ⟨.fn,1,8,.fn0,false,false,false⟩:=by kernel_rfl
@[simp] theorem cz190:Program.cellsOf Tryz.prog 190=1:=by kernel_rfl
@[simp] theorem ty191:aA Tryz.prog 191=some ⟨.fn,1,8,.fn0,false,false,false⟩:=by kernel_rfl
@[simp] theorem cz191:Program.cellsOf Tryz.prog 191=1:=by kernel_rfl
@[simp] theorem ty192:aA Tryz.prog 192=some ⟨.slice 3,1,24,.sl0,false,false,false⟩:=by kernel_rfl
@[simp] theorem cz192:Program.cellsOf Tryz.prog 192=1:=by kernel_rfl
@[simp] theorem ty193:aA Tryz.prog 193=some ⟨.fn,1,8,.fn0,false,false,false⟩:=by kernel_rfl
@[simp] theorem cz193:Program.cellsOf Tryz.prog 193=1:=by kernel_rfl
@[simp] theorem ty194:aA Tryz.prog 194=some ⟨.fn,1,8,.fn0,false,false,false⟩:=by kernel_rfl
@[simp] theorem cz194:Program.cellsOf Tryz.prog 194=1:=by kernel_rfl
@[simp] theorem ty195:aA Tryz.prog 195=some ⟨.fn,1,8,.fn0,false,false,false⟩:=by kernel_rfl
@[simp] theorem cz195:Program.cellsOf Tryz.prog 195=1:=by kernel_rfl
@[simp] theorem ty196:aA Tryz.prog 196=some ⟨.fn,1,8,.fn0,false,false,false⟩:=by kernel_rfl
@[simp] theorem cz196:Program.cellsOf Tryz.prog 196=1:=by kernel_rfl
@[simp] theorem ty197:aA Tryz.prog 197=some ⟨.slice 201,1,24,.sl0,false,false,false⟩:=by kernel_rfl
@[simp] theorem cz197:Program.cellsOf Tryz.prog 197=1:=by kernel_rfl
@[simp] theorem ty198:aA Tryz.prog 198=some ⟨.fn,1,8,.fn0,false,false,false⟩:=by kernel_rfl
@[simp] theorem cz198:Program.cellsOf Tryz.prog 198=1:=by kernel_rfl
@[simp] theorem ty199:aA Tryz.prog 199=some ⟨.fn,1,8,.fn0,false,false,false⟩:=by kernel_rfl
@[simp] theorem cz199:Program.cellsOf Tryz.prog 199=1:=by kernel_rfl
@[simp] theorem ty200:aA Tryz.prog 200=some ⟨.st [(0,3,false),(1,199,false)],2,16,.ag [.i .i64 0,.fn0],false,false,false⟩:=by kernel_rfl
@[simp] theorem cz200:Program.cellsOf Tryz.prog 200=2:=by kernel_rfl
@[simp] theorem ty201:aA Tryz.prog 201=some ⟨.st [(0,3,false),(1,199,false)],2,16,.ag [.i .i64 0,.fn0],false,false,false⟩:=by kernel_rfl
@[simp] theorem cz201:Program.cellsOf Tryz.prog 201=2:=by kernel_rfl
@[simp] theorem ty202:aA Tryz.prog 202=some ⟨.other,1,0,.u,false,false,false⟩:=by kernel_rfl
@[simp] theorem cz202:Program.cellsOf Tryz.prog 202=1:=by kernel_rfl
@[simp] theorem ty203:aA Tryz.prog 203=some ⟨.fn,1,8,.fn0,false,false,false⟩:=by kernel_rfl
@[simp] theorem cz203:Program.cellsOf Tryz.prog 203=1:=by kernel_rfl
@[simp] theorem ty204:aA Tryz.prog 204=some ⟨.fn,1,8,.fn0,false,false,false⟩:=by kernel_rfl
@[simp] theorem cz204:Program.cellsOf Tryz.prog 204=1:=by kernel_rfl
@[simp] theorem ty205:aA Tryz.prog 205=some ⟨.fn,1,8,.fn0,false,false,false⟩:=by kernel_rfl
@[simp] theorem cz205:Program.cellsOf Tryz.prog 205=1:=by kernel_rfl
@[simp] theorem ty206:aA Tryz.prog 206=some ⟨.fn,1,8,.fn0,false,false,false⟩:=by kernel_rfl
@[simp] theorem cz206:Program.cellsOf Tryz.prog 206=1:=by kernel_rfl
@[simp] theorem ty207:aA Tryz.prog 207=some ⟨.slice 4,1,24,.sl0,false,false,false⟩:=by kernel_rfl
@[simp] theorem cz207:Program.cellsOf Tryz.prog 207=1:=by kernel_rfl
@[simp] theorem ty208:aA Tryz.prog 208=some ⟨.st [(0,53,false)],1,8,.ag [.p0],true,false,false⟩:=by kernel_rfl
@[simp] theorem cz208:Program.cellsOf Tryz.prog 208=1:=by kernel_rfl
@[simp] theorem ty209:aA Tryz.prog 209=some ⟨.st [(0,53,false)],1,8,.ag [.p0],true,false,false⟩:=by kernel_rfl
@[simp] theorem cz209:Program.cellsOf Tryz.prog 209=1:=by kernel_rfl
@[simp] theorem ty210:aA Tryz.prog 210=some ⟨.fn,1,8,.fn0,false,false,false⟩:=by kernel_rfl
@[simp] theorem cz210:Program.cellsOf Tryz.prog 210=1:=by kernel_rfl
@[simp] theorem ty211:aA Tryz.prog 211=some ⟨.fn,1,8,.fn0,false,false,false⟩:=by kernel_rfl
@[simp] theorem cz211:Program.cellsOf Tryz.prog 211=1:=by kernel_rfl
@[simp] theorem ty212:aA Tryz.prog 212=some ⟨.fn,1,8,.fn0,false,false,false⟩:=by kernel_rfl
@[simp] theorem cz212:Program.cellsOf Tryz.prog 212=1:=by kernel_rfl
@[simp] theorem ty213:aA Tryz.prog 213=some ⟨.arr 256 4,256,256,.ag [.b false,.b false,.b false,.b false,.b false,.b false,.b false,.b false,.b false,.b false,.b false,.b false,.b false,.b false,.b false,.b false,.b false,.b false,.b false,.b false,.b false,.b false,.b false,.b false,.b false,.b false,.b false,.b false,.b false,.b false,.b false,.b false,.b false,.b false,.b false,.b false,.b false,.b false,.b false,.b false,.b false,.b false,.b false,.b false,.b false,.b false,.b false,.b false,.b false,.b false,.b false,.b false,.b false,.b false,.b false,.b false,.b false,.b false,.b false,.b false,.b false,.b false,.b false,.b false,.b false,.b false,.b false,.b false,.b false,.b false,.b false,.b false,.b false,.b false,.b false,.b false,.b false,.b false,.b false,.b false,.b false,.b false,.b false,.b false,.b false,.b false,.b false,.b false,.b false,.b false,.b false,.b false,.b false,.b false,.b false,.b false,.b false,.b false,.b false,.b false,.b false,.b false,.b false,.b false,.b false,.b false,.b false,.b false,.b false,.b false,.b false,.b false,.b false,.b false,.b false,.b false,.b false,.b false,.b false,.b false,.b false,.b false,.b false,.b false,.b false,.b false,.b false,.b false,.b false,.b false,.b false,.b false,.b false,.b false,.b false,.b false,.b false,.b false,.b false,.b false,.b false,.b false,.b false,.b false,.b false,.b false,.b false,.b false,.b false,.b false,.b false,.b false,.b false,.b false,.b false,.b false,.b false,.b false,.b false,.b false,.b false,.b false,.b false,.b false,.b false,.b false,.b false,.b false,.b false,.b false,.b false,.b false,.b false,.b false,.b false,.b false,.b false,.b false,.b false,.b false,.b false,.b false,.b false,.b false,.b false,.b false,.b false,.b false,.b false,.b false,.b false,.b false,.b false,.b false,.b false,.b false,.b false,.b false,.b false,.b false,.b false,.b false,.b false,.b false,.b false,.b false,.b false,.b false,.b false,.b false,.b false,.b false,.b false,.b false,.b false,.b false,.b false,.b false,.b false,.b false,.b false,.b false,.b false,.b false,.b false,.b false,.b false,.b false,.b false,.b false,.b false,.b false,.b false,.b false,.b false,.b false,.b false,.b false,.b false,.b false,.b false,.b false,.b false,.b false,.b false,.b false,.b false,.b false,.b false,.b false,.b false,.b false,.b false,.b false,.b false,.b false],true,false,false⟩:=by kernel_rfl
@[simp] theorem cz213:Program.cellsOf Tryz.prog 213=256:=by kernel_rfl
@[simp] theorem ty214:aA Tryz.prog 214=some ⟨.arr 256 4,256,256,.ag [.b false,.b false,.b false,.b false,.b false,.b false,.b false,.b false,.b false,.b false,.b false,.b false,.b false,.b false,.b false,.b false,.b false,.b false,.b false,.b false,.b false,.b false,.b false,.b false,.b false,.b false,.b false,.b false,.b false,.b false,.b false,.b false,.b false,.b false,.b false,.b false,.b false,.b false,.b false,.b false,.b false,.b false,.b false,.b false,.b false,.b false,.b false,.b false,.b false,.b false,.b false,.b false,.b false,.b false,.b false,.b false,.b false,.b false,.b false,.b false,.b false,.b false,.b false,.b false,.b false,.b false,.b false,.b false,.b false,.b false,.b false,.b false,.b false,.b false,.b false,.b false,.b false,.b false,.b false,.b false,.b false,.b false,.b false,.b false,.b false,.b false,.b false,.b false,.b false,.b false,.b false,.b false,.b false,.b false,.b false,.b false,.b false,.b false,.b false,.b false,.b false,.b false,.b false,.b false,.b false,.b false,.b false,.b false,.b false,.b false,.b false,.b false,.b false,.b false,.b false,.b false,.b false,.b false,.b false,.b false,.b false,.b false,.b false,.b false,.b false,.b false,.b false,.b false,.b false,.b false,.b false,.b false,.b false,.b false,.b false,.b false,.b false,.b false,.b false,.b false,.b false,.b false,.b false,.b false,.b false,.b false,.b false,.b false,.b false,.b false,.b false,.b false,.b false,.b false,.b false,.b false,.b false,.b false,.b false,.b false,.b false,.b false,.b false,.b false,.b false,.b false,.b false,.b false,.b false,.b false,.b false,.b false,.b false,.b false,.b false,.b false,.b false,.b false,.b false,.b false,.b false,.b false,.b false,.b false,.b false,.b false,.b false,.b false,.b false,.b false,.b false,.b false,.b false,.b false,.b false,.b false,.b false,.b false,.b false,.b false,.b false,.b false,.b false,.b false,.b false,.b false,.b false,.b false,.b false,.b false,.b false,.b false,.b false,.b false,.b false,.b false,.b false,.b false,.b false,.b false,.b false,.b false,.b false,.b false,.b false,.b false,.b false,.b false,.b false,.b false,.b false,.b false,.b false,.b false,.b false,.b false,.b false,.b false,.b false,.b false,.b false,.b false,.b false,.b false,.b false,.b false,.b false,.b false,.b false,.b false,.b false,.b false,.b false,.b false,.b false,.b false],true,false,false⟩:=by kernel_rfl
@[simp] theorem cz214:Program.cellsOf Tryz.prog 214=256:=by kernel_rfl
@[simp] theorem ty215:aA Tryz.prog 215=some ⟨.other,1,0,.u,false,false,false⟩:=by kernel_rfl
@[simp] theorem cz215:Program.cellsOf Tryz.prog 215=1:=by kernel_rfl
@[simp] theorem ty216:aA Tryz.prog 216=some ⟨.fn,1,8,.fn0,false,false,false⟩:=by kernel_rfl
@[simp] theorem cz216:Program.cellsOf Tryz.prog 216=1:=by kernel_rfl
@[simp] theorem ty217:aA Tryz.prog 217=some ⟨.fn,1,8,.fn0,false,false,false⟩:=by kernel_rfl
@[simp] theorem cz217:Program.cellsOf Tryz.prog 217=1:=by kernel_rfl
@[simp] theorem ty218:aA Tryz.prog 218=some ⟨.ptr 214,1,8,.p0,true,false,false⟩:=by kernel_rfl
@[simp] theorem cz218:Program.cellsOf Tryz.prog 218=1:=by kernel_rfl
@[simp] theorem ty219:aA Tryz.prog 219=some ⟨.fn,1,8,.fn0,false,false,false⟩:=by kernel_rfl
@[simp] theorem cz219:Program.cellsOf Tryz.prog 219=1:=by kernel_rfl
@[simp] theorem ty220:aA Tryz.prog 220=some ⟨.other,1,0,.u,false,false,false⟩:=by kernel_rfl
@[simp] theorem cz220:Program.cellsOf Tryz.prog 220=1:=by kernel_rfl
@[simp] theorem ty221:aA Tryz.prog 221=some ⟨.fn,1,8,.fn0,false,false,false⟩:=by kernel_rfl
@[simp] theorem cz221:Program.cellsOf Tryz.prog 221=1:=by kernel_rfl
@[simp] theorem ty222:aA Tryz.prog 222=some ⟨.fn,1,8,.fn0,false,false,false⟩:=by kernel_rfl
@[simp] theorem cz222:Program.cellsOf Tryz.prog 222=1:=by kernel_rfl
@[simp] theorem ty223:aA Tryz.prog 223=some ⟨.st [(0,9,false),(1,9,false)],2,32,.ag [.s [],.s []],true,false,false⟩:=by kernel_rfl
@[simp] theorem cz223:Program.cellsOf Tryz.prog 223=2:=by kernel_rfl
@[simp] theorem ty224:aA Tryz.prog 224=some ⟨.st [(0,9,false),(1,9,false)],2,32,.ag [.s [],.s []],true,false,false⟩:=by kernel_rfl
@[simp] theorem cz224:Program.cellsOf Tryz.prog 224=2:=by kernel_rfl
@[simp] theorem ty225:aA Tryz.prog 225=some ⟨.arr 54 224,108,1728,.ag [.s [],.s [],.s [],.s [],.s [],.s [],.s [],.s [],.s [],.s [],.s [],.s [],.s [],.s [],.s [],.s [],.s [],.s [],.s [],.s [],.s [],.s [],.s [],.s [],.s [],.s [],.s [],.s [],.s [],.s [],.s [],.s [],.s [],.s [],.s [],.s [],.s [],.s [],.s [],.s [],.s [],.s [],.s [],.s [],.s [],.s [],.s [],.s [],.s [],.s [],.s [],.s [],.s [],.s [],.s [],.s [],.s [],.s [],.s [],.s [],.s [],.s [],.s [],.s [],.s [],.s [],.s [],.s [],.s [],.s [],.s [],.s [],.s [],.s [],.s [],.s [],.s [],.s [],.s [],.s [],.s [],.s [],.s [],.s [],.s [],.s [],.s [],.s [],.s [],.s [],.s [],.s [],.s [],.s [],.s [],.s [],.s [],.s [],.s [],.s [],.s [],.s [],.s [],.s [],.s [],.s [],.s [],.s []],true,false,false⟩:=by kernel_rfl
@[simp] theorem cz225:Program.cellsOf Tryz.prog 225=108:=by kernel_rfl
@[simp] theorem ty226:aA Tryz.prog 226=some ⟨.fn,1,8,.fn0,false,false,false⟩:=by kernel_rfl
@[simp] theorem cz226:Program.cellsOf Tryz.prog 226=1:=by kernel_rfl
@[simp] theorem ty227:aA Tryz.prog 227=some ⟨.fn,1,8,.fn0,false,false,false⟩:=by kernel_rfl
@[simp] theorem cz227:Program.cellsOf Tryz.prog 227=1:=by kernel_rfl
@[simp] theorem ty228:aA Tryz.prog 228=some ⟨.slice 230,1,24,.sl0,false,false,false⟩:=by kernel_rfl
@[simp] theorem cz228:Program.cellsOf Tryz.prog 228=1:=by kernel_rfl
@[simp] theorem ty229:aA Tryz.prog 229=some ⟨.st [(0,3,false),(1,3,false)],2,16,.ag [.i .i64 0,.i .i64 0],true,false,false⟩:=by kernel_rfl
@[simp] theorem cz229:Program.cellsOf Tryz.prog 229=2:=by kernel_rfl
@[simp] theorem ty230:aA Tryz.prog 230=some ⟨.st [(0,3,false),(1,3,false)],2,16,.ag [.i .i64 0,.i .i64 0],true,false,false⟩:=by kernel_rfl
@[simp] theorem cz230:Program.cellsOf Tryz.prog 230=2:=by kernel_rfl
@[simp] theorem ty231:aA Tryz.prog 231=some ⟨.other,1,0,.u,false,false,false⟩:=by kernel_rfl
@[simp] theorem cz231:Program.cellsOf Tryz.prog 231=1:=by kernel_rfl
@[simp] theorem ty232:aA Tryz.prog 232=some ⟨.fn,1,8,.fn0,false,false,false⟩:=by kernel_rfl
@[simp] theorem cz232:Program.cellsOf Tryz.prog 232=1:=by kernel_rfl
@[simp] theorem ty233:aA Tryz.prog 233=some ⟨.fn,1,8,.fn0,false,false,false⟩:=by kernel_rfl
@[simp] theorem cz233:Program.cellsOf Tryz.prog 233=1:=by kernel_rfl
@[simp] theorem ty234:aA Tryz.prog 234=some ⟨.fn,1,8,.fn0,false,false,false⟩:=by kernel_rfl
@[simp] theorem cz234:Program.cellsOf Tryz.prog 234=1:=by kernel_rfl
@[simp] theorem ty235:aA Tryz.prog 235=some ⟨.slice 26,1,24,.sl0,false,false,false⟩:=by kernel_rfl
@[simp] theorem cz235:Program.cellsOf Tryz.prog 235=1:=by kernel_rfl
@[simp] theorem ty236:aA Tryz.prog 236=some ⟨.arr 2 2,2,16,.ag [.i .i64 0,.i .i64 0],true,false,false⟩:=by kernel_rfl
@[simp] theorem cz236:Program.cellsOf Tryz.prog 236=2:=by kernel_rfl
@[simp] theorem ty237:aA Tryz.prog 237=some ⟨.other,1,0,.u,false,false,false⟩:=by kernel_rfl
@[simp] theorem cz237:Program.cellsOf Tryz.prog 237=1:=by kernel_rfl
@[simp] theorem ty238:aA Tryz.prog 238=some ⟨.fn,1,8,.fn0,false,false,false⟩:=by kernel_rfl
@[simp] theorem cz238:Program.cellsOf Tryz.prog 238=1:=by kernel_rfl
@[simp] theorem ty239:aA Tryz.prog 239=some ⟨.slice 29,1,24,.sl0,false,false,false⟩:=by kernel_rfl
@[simp] theorem cz239:Program.cellsOf Tryz.prog 239=1:=by kernel_rfl
@[simp] theorem ty240:aA Tryz.prog 240=some ⟨.fn,1,8,.fn0,false,false,false⟩:=by kernel_rfl
@[simp] theorem cz240:Program.cellsOf Tryz.prog 240=1:=by kernel_rfl
@[simp] theorem ty241:aA Tryz.prog 241=some ⟨.fn,1,8,.fn0,false,false,false⟩:=by kernel_rfl
@[simp] theorem cz241:Program.cellsOf Tryz.prog 241=1:=by kernel_rfl
@[simp] theorem ty242:aA Tryz.prog 242=some ⟨.fn,1,8,.fn0,false,false,false⟩:=by kernel_rfl
@[simp] theorem cz242:Program.cellsOf Tryz.prog 242=1:=by kernel_rfl
@[simp] theorem ty243:aA Tryz.prog 243=some ⟨.fn,1,8,.fn0,false,false,false⟩:=by kernel_rfl
@[simp] theorem cz243:Program.cellsOf Tryz.prog 243=1:=by kernel_rfl
@[simp] theorem ty244:aA Tryz.prog 244=some ⟨.fn,1,8,.fn0,false,false,false⟩:=by kernel_rfl
@[simp] theorem cz244:Program.cellsOf Tryz.prog 244=1:=by kernel_rfl
@[simp] theorem ty245:aA Tryz.prog 245=some ⟨.fn,1,8,.fn0,false,false,false⟩:=by kernel_rfl
@[simp] theorem cz245:Program.cellsOf Tryz.prog 245=1:=by kernel_rfl
@[simp] theorem ty246:aA Tryz.prog 246=some ⟨.fn,1,8,.fn0,false,false,false⟩:=by kernel_rfl
@[simp] theorem cz246:Program.cellsOf Tryz.prog 246=1:=by kernel_rfl
@[simp] theorem ty247:aA Tryz.prog 247=some ⟨.fn,1,8,.fn0,false,false,false⟩:=by kernel_rfl
@[simp] theorem cz247:Program.cellsOf Tryz.prog 247=1:=by kernel_rfl
@[simp] theorem ty248:aA Tryz.prog 248=some ⟨.fn,1,8,.fn0,false,false,false⟩:=by kernel_rfl
@[simp] theorem cz248:Program.cellsOf Tryz.prog 248=1:=by kernel_rfl
@[simp] theorem ty249:aA Tryz.prog 249=some ⟨.fn,1,8,.fn0,false,false,false⟩:=by kernel_rfl
@[simp] theorem cz249:Program.cellsOf Tryz.prog 249=1:=by kernel_rfl
@[simp] theorem ty250:aA Tryz.prog 250=some ⟨.other,1,0,.u,false,false,false⟩:=by kernel_rfl
@[simp] theorem cz250:Program.cellsOf Tryz.prog 250=1:=by kernel_rfl
@[simp] theorem ty251:aA Tryz.prog 251=some ⟨.fn,1,8,.fn0,false,false,false⟩:=by kernel_rfl
@[simp] theorem cz251:Program.cellsOf Tryz.prog 251=1:=by kernel_rfl
@[simp] theorem ty252:aA Tryz.prog 252=some ⟨.fn,1,8,.fn0,false,false,false⟩:=by kernel_rfl
@[simp] theorem cz252:Program.cellsOf Tryz.prog 252=1:=by kernel_rfl
@[simp] theorem ty253:aA Tryz.prog 253=some ⟨.fn,1,8,.fn0,false,false,false⟩:=by kernel_rfl
@[simp] theorem cz253:Program.cellsOf Tryz.prog 253=1:=by kernel_rfl
@[simp] theorem ty254:aA Tryz.prog 254=some ⟨.fn,1,8,.fn0,false,false,false⟩:=by kernel_rfl
@[simp] theorem cz254:Program.cellsOf Tryz.prog 254=1:=by kernel_rfl
@[simp] theorem ty255:aA Tryz.prog 255=some ⟨.fn,1,8,.fn0,false,false,false⟩:=by kernel_rfl
@[simp] theorem cz255:Program.cellsOf Tryz.prog 255=1:=by kernel_rfl
@[simp] theorem ty256:aA Tryz.prog 256=some ⟨.fn,1,8,.fn0,false,false,false⟩:=by kernel_rfl
@[simp] theorem cz256:Program.cellsOf Tryz.prog 256=1:=by kernel_rfl
@[simp] theorem ty257:aA Tryz.prog 257=some ⟨.ptr 279,1,8,.p0,true,false,false⟩:=by kernel_rfl
@[simp] theorem cz257:Program.cellsOf Tryz.prog 257=1:=by kernel_rfl
@[simp] theorem ty258:aA Tryz.prog 258=some ⟨.fn,1,8,.fn0,false,false,false⟩:=by kernel_rfl
@[simp] theorem cz258:Program.cellsOf Tryz.prog 258=1:=by kernel_rfl
@[simp] theorem ty259:aA Tryz.prog 259=some ⟨.fn,1,8,.fn0,false,false,false⟩:=by kernel_rfl
@[simp] theorem cz259:Program.cellsOf Tryz.prog 259=1:=by kernel_rfl
@[simp] theorem ty260:aA Tryz.prog 260=some ⟨.fn,1,8,.fn0,false,false,false⟩:=by kernel_rfl
@[simp] theorem cz260:Program.cellsOf Tryz.prog 260=1:=by kernel_rfl
@[simp] theorem ty261:aA Tryz.prog 261=some ⟨.ptr 29,1,8,.p0,true,false,false⟩:=by kernel_rfl
@[simp] theorem cz261:Program.cellsOf Tryz.prog 261=1:=by kernel_rfl
@[simp] theorem ty262:aA Tryz.prog 262=some ⟨.slice 261,1,24,.sl0,false,false,false⟩:=by kernel_rfl
@[simp] theorem cz262:Program.cellsOf Tryz.prog 262=1:=by kernel_rfl
@[simp] theorem ty263:aA Tryz.prog 263=some ⟨.other,1,0,.u,false,false,false⟩:=by kernel_rfl
@[simp] theorem cz263:Program.cellsOf Tryz.prog 263=1:=by kernel_rfl
@[simp] theorem ty264:aA Tryz.prog 264=some ⟨.fn,1,8,.fn0,false,false,false⟩:=by kernel_rfl
@[simp] theorem cz264:Program.cellsOf Tryz.prog 264=1:=by kernel_rfl
@[simp] theorem ty265:aA Tryz.prog 265=some ⟨.fn,1,8,.fn0,false,false,false⟩:=by kernel_rfl
@[simp] theorem cz265:Program.cellsOf Tryz.prog 265=1:=by kernel_rfl
@[simp] theorem ty266:aA Tryz.prog 266=some ⟨.int .i64,1,8,.i .i64 0,true,false,false⟩:=by kernel_rfl
@[simp] theorem cz266:Program.cellsOf Tryz.prog 266=1:=by kernel_rfl
@[simp] theorem ty267:aA Tryz.prog 267=some ⟨.other,1,0,.u,false,false,false⟩:=by kernel_rfl
@[simp] theorem cz267:Program.cellsOf Tryz.prog 267=1:=by kernel_rfl
@[simp] theorem ty268:aA Tryz.prog 268=some ⟨.fn,1,8,.fn0,false,false,false⟩:=by kernel_rfl
@[simp] theorem cz268:Program.cellsOf Tryz.prog 268=1:=by kernel_rfl
@[simp] theorem ty269:aA Tryz.prog 269=some ⟨.ptr 288,1,8,.p0,true,false,false⟩:=by kernel_rfl
@[simp] theorem cz269:Program.cellsOf Tryz.prog 269=1:=by kernel_rfl
@[simp] theorem ty270:aA Tryz.prog 270=some ⟨.fn,1,8,.fn0,false,false,false⟩:=by kernel_rfl
@[simp] theorem cz270:Program.cellsOf Tryz.prog 270=1:=by kernel_rfl
@[simp] theorem ty271:aA Tryz.prog 271=some ⟨.fn,1,8,.fn0,false,false,false⟩:=by kernel_rfl
@[simp] theorem cz271:Program.cellsOf Tryz.prog 271=1:=by kernel_rfl
@[simp] theorem ty272:aA Tryz.prog 272=some ⟨.arr 24 5,24,24,.ag [.i .u8 0,.i .u8 0,.i .u8 0,.i .u8 0,.i .u8 0,.i .u8 0,.i .u8 0,.i .u8 0,.i .u8 0,.i .u8 0,.i .u8 0,.i .u8 0,.i .u8 0,.i .u8 0,.i .u8 0,.i .u8 0,.i .u8 0,.i .u8 0,.i .u8 0,.i .u8 0,.i .u8 0,.i .u8 0,.i .u8 0,.i .u8 0],true,false,false⟩:=by kernel_rfl
@[simp] theorem cz272:Program.cellsOf Tryz.prog 272=24:=by kernel_rfl
@[simp] theorem ty273:aA Tryz.prog 273=some ⟨.fn,1,8,.fn0,false,false,false⟩:=by kernel_rfl
@[simp] theorem cz273:Program.cellsOf Tryz.prog 273=1:=by kernel_rfl
@[simp] theorem ty274:aA Tryz.prog 274=some ⟨.other,1,0,.u,false,false,false⟩:=by kernel_rfl
@[simp] theorem cz274:Program.cellsOf Tryz.prog 274=1:=by kernel_rfl
@[simp] theorem ty275:aA Tryz.prog 275=some ⟨.fn,1,8,.fn0,false,false,false⟩:=by kernel_rfl
@[simp] theorem cz275:Program.cellsOf Tryz.prog 275=1:=by kernel_rfl
@[simp] theorem ty276:aA Tryz.prog 276=some ⟨.other,1,0,.u,false,false,false⟩:=by kernel_rfl
@[simp] theorem cz276:Program.cellsOf Tryz.prog 276=1:=by kernel_rfl
@[simp] theorem ty277:aA Tryz.prog 277=some ⟨.fn,1,8,.fn0,false,false,false⟩:=by kernel_rfl
@[simp] theorem cz277:Program.cellsOf Tryz.prog 277=1:=by kernel_rfl
@[simp] theorem ty278:aA Tryz.prog 278=some ⟨.st [(0,45,false)],1,24,.ag [.sl0],false,false,false⟩:=by kernel_rfl
@[simp] theorem cz278:Program.cellsOf Tryz.prog 278=1:=by kernel_rfl
@[simp] theorem ty279:aA Tryz.prog 279=some ⟨.st [(0,45,false)],1,24,.ag [.sl0],false,false,false⟩:=by kernel_rfl
@[simp] theorem cz279:Program.cellsOf Tryz.prog 279=1:=by kernel_rfl
@[simp] theorem ty280:aA Tryz.prog 280=some ⟨.fn,1,8,.fn0,false,false,false⟩:=by kernel_rfl
@[simp] theorem cz280:Program.cellsOf Tryz.prog 280=1:=by kernel_rfl
@[simp] theorem ty281:aA Tryz.prog 281=some ⟨.arr 256 5,256,256,.ag [.i .u8 0,.i .u8 0,.i .u8 0,.i .u8 0,.i .u8 0,.i .u8 0,.i .u8 0,.i .u8 0,.i .u8 0,.i .u8 0,.i .u8 0,.i .u8 0,.i .u8 0,.i .u8 0,.i .u8 0,.i .u8 0,.i .u8 0,.i .u8 0,.i .u8 0,.i .u8 0,.i .u8 0,.i .u8 0,.i .u8 0,.i .u8 0,.i .u8 0,.i .u8 0,.i .u8 0,.i .u8 0,.i .u8 0,.i .u8 0,.i .u8 0,.i .u8 0,.i .u8 0,.i .u8 0,.i .u8 0,.i .u8 0,.i .u8 0,.i .u8 0,.i .u8 0,.i .u8 0,.i .u8 0,.i .u8 0,.i .u8 0,.i .u8 0,.i .u8 0,.i .u8 0,.i .u8 0,.i .u8 0,.i .u8 0,.i .u8 0,.i .u8 0,.i .u8 0,.i .u8 0,.i .u8 0,.i .u8 0,.i .u8 0,.i .u8 0,.i .u8 0,.i .u8 0,.i .u8 0,.i .u8 0,.i .u8 0,.i .u8 0,.i .u8 0,.i .u8 0,.i .u8 0,.i .u8 0,.i .u8 0,.i .u8 0,.i .u8 0,.i .u8 0,.i .u8 0,.i .u8 0,.i .u8 0,.i .u8 0,.i .u8 0,.i .u8 0,.i .u8 0,.i .u8 0,.i .u8 0,.i .u8 0,.i .u8 0,.i .u8 0,.i .u8 0,.i .u8 0,.i .u8 0,.i .u8 0,.i .u8 0,.i .u8 0,.i .u8 0,.i .u8 0,.i .u8 0,.i .u8 0,.i .u8 0,.i .u8 0,.i .u8 0,.i .u8 0,.i .u8 0,.i .u8 0,.i .u8 0,.i .u8 0,.i .u8 0,.i .u8 0,.i .u8 0,.i .u8 0,.i .u8 0,.i .u8 0,.i .u8 0,.i .u8 0,.i .u8 0,.i .u8 0,.i .u8 0,.i .u8 0,.i .u8 0,.i .u8 0,.i .u8 0,.i .u8 0,.i .u8 0,.i .u8 0,.i .u8 0,.i .u8 0,.i .u8 0,.i .u8 0,.i .u8 0,.i .u8 0,.i .u8 0,.i .u8 0,.i .u8 0,.i .u8 0,.i .u8 0,.i .u8 0,.i .u8 0,.i .u8 0,.i .u8 0,.i .u8 0,.i .u8 0,.i .u8 0,.i .u8 0,.i .u8 0,.i .u8 0,.i .u8 0,.i .u8 0,.i .u8 0,.i .u8 0,.i .u8 0,.i .u8 0,.i .u8 0,.i .u8 0,.i .u8 0,.i .u8 0,.i .u8 0,.i .u8 0,.i .u8 0,.i .u8 0,.i .u8 0,.i .u8 0,.i .u8 0,.i .u8 0,.i .u8 0,.i .u8 0,.i .u8 0,.i .u8 0,.i .u8 0,.i .u8 0,.i .u8 0,.i .u8 0,.i .u8 0,.i .u8 0,.i .u8 0,.i .u8 0,.i .u8 0,.i .u8 0,.i .u8 0,.i .u8 0,.i .u8 0,.i .u8 0,.i .u8 0,.i .u8 0,.i .u8 0,.i .u8 0,.i .u8 0,.i .u8 0,.i .u8 0,.i .u8 0,.i .u8 0,.i .u8 0,.i .u8 0,.i .u8 0,.i .u8 0,.i .u8 0,.i .u8 0,.i .u8 0,.i .u8 0,.i .u8 0,.i .u8 0,.i .u8 0,.i .u8 0,.i .u8 0,.i .u8 0,.i .u8 0,.i .u8 0,.i .u8 0,.i .u8 0,.i .u8 0,.i .u8 0,.i .u8 0,.i .u8 0,.i .u8 0,.i .u8 0,.i .u8 0,.i .u8 0,.i .u8 0,.i .u8 0,.i .u8 0,.i .u8 0,.i .u8 0,.i .u8 0,.i .u8 0,.i .u8 0,.i .u8 0,.i .u8 0,.i .u8 0,.i .u8 0,.i .u8 0,.i .u8 0,.i .u8 0,.i .u8 0,.i .u8 0,.i .u8 0,.i .u8 0,.i .u8 0,.i .u8 0,.i .u8 0,.i .u8 0,.i .u8 0,.i .u8 0,.i .u8 0,.i .u8 0,.i .u8 0,.i .u8 0,.i .u8 0,.i .u8 0,.i .u8 0,.i .u8 0,.i .u8 0,.i .u8 0,.i .u8 0,.i .u8 0,.i .u8 0,.i .u8 0,.i .u8 0,.i .u8 0,.i .u8 0,.i .u8 0,.i .u8 0,.i .u8 0],true,false,false⟩:=by kernel_rfl
@[simp] theorem cz281:Program.cellsOf Tryz.prog 281=256:=by kernel_rfl
@[simp] theorem ty282:aA Tryz.prog 282=some ⟨.st [(0,5,false),(1,5,false)],2,2,.ag [.i .u8 0,.i .u8 0],true,false,false⟩:=by kernel_rfl
@[simp] theorem cz282:Program.cellsOf Tryz.prog 282=2:=by kernel_rfl
@[simp] theorem ty283:aA Tryz.prog 283=some ⟨.st [(0,5,false),(1,5,false)],2,2,.ag [.i .u8 0,.i .u8 0],true,false,false⟩:=by kernel_rfl
@[simp] theorem cz283:Program.cellsOf Tryz.prog 283=2:=by kernel_rfl
@[simp] theorem ty284:aA Tryz.prog 284=some ⟨.arr 16 283,32,32,.ag [.i .u8 0,.i .u8 0,.i .u8 0,.i .u8 0,.i .u8 0,.i .u8 0,.i .u8 0,.i .u8 0,.i .u8 0,.i .u8 0,.i .u8 0,.i .u8 0,.i .u8 0,.i .u8 0,.i .u8 0,.i .u8 0,.i .u8 0,.i .u8 0,.i .u8 0,.i .u8 0,.i .u8 0,.i .u8 0,.i .u8 0,.i .u8 0,.i .u8 0,.i .u8 0,.i .u8 0,.i .u8 0,.i .u8 0,.i .u8 0,.i .u8 0,.i .u8 0],true,false,false⟩:=by kernel_rfl
@[simp] theorem cz284:Program.cellsOf Tryz.prog 284=32:=by kernel_rfl
@[simp] theorem ty285:aA Tryz.prog 285=some ⟨.fn,1,8,.fn0,false,false,false⟩:=by kernel_rfl
@[simp] theorem cz285:Program.cellsOf Tryz.prog 285=1:=by kernel_rfl
@[simp] theorem ty286:aA Tryz.prog 286=some ⟨.fn,1,8,.fn0,false,false,false⟩:=by kernel_rfl
@[simp] theorem cz286:Program.cellsOf Tryz.prog 286=1:=by kernel_rfl
@[simp] theorem ty287:aA Tryz.prog 287=some ⟨.st [(0,9,false),(1,9,false),(2,66,false)],3,48,.ag [.s [],.s [],.gK],true,false,true⟩:=by kernel_rfl
@[simp] theorem cz287:Program.cellsOf Tryz.prog 287=3:=by kernel_rfl
@[simp] theorem ty288:aA Tryz.prog 288=some ⟨.st [(0,9,false),(1,9,false),(2,66,false)],3,48,.ag [.s [],.s [],.gK],true,false,true⟩:=by kernel_rfl
@[simp] theorem cz288:Program.cellsOf Tryz.prog 288=3:=by kernel_rfl
@[simp] theorem ty289:aA Tryz.prog 289=some ⟨.fn,1,8,.fn0,false,false,false⟩:=by kernel_rfl
@[simp] theorem cz289:Program.cellsOf Tryz.prog 289=1:=by kernel_rfl
@[simp] theorem ty290:aA Tryz.prog 290=some ⟨.arr 20 39,20,160,.ag [.i .u64 0,.i .u64 0,.i .u64 0,.i .u64 0,.i .u64 0,.i .u64 0,.i .u64 0,.i .u64 0,.i .u64 0,.i .u64 0,.i .u64 0,.i .u64 0,.i .u64 0,.i .u64 0,.i .u64 0,.i .u64 0,.i .u64 0,.i .u64 0,.i .u64 0,.i .u64 0],true,false,false⟩:=by kernel_rfl
@[simp] theorem cz290:Program.cellsOf Tryz.prog 290=20:=by kernel_rfl
@[simp] theorem ty291:aA Tryz.prog 291=some ⟨.arr 65 5,65,65,.ag [.i .u8 0,.i .u8 0,.i .u8 0,.i .u8 0,.i .u8 0,.i .u8 0,.i .u8 0,.i .u8 0,.i .u8 0,.i .u8 0,.i .u8 0,.i .u8 0,.i .u8 0,.i .u8 0,.i .u8 0,.i .u8 0,.i .u8 0,.i .u8 0,.i .u8 0,.i .u8 0,.i .u8 0,.i .u8 0,.i .u8 0,.i .u8 0,.i .u8 0,.i .u8 0,.i .u8 0,.i .u8 0,.i .u8 0,.i .u8 0,.i .u8 0,.i .u8 0,.i .u8 0,.i .u8 0,.i .u8 0,.i .u8 0,.i .u8 0,.i .u8 0,.i .u8 0,.i .u8 0,.i .u8 0,.i .u8 0,.i .u8 0,.i .u8 0,.i .u8 0,.i .u8 0,.i .u8 0,.i .u8 0,.i .u8 0,.i .u8 0,.i .u8 0,.i .u8 0,.i .u8 0,.i .u8 0,.i .u8 0,.i .u8 0,.i .u8 0,.i .u8 0,.i .u8 0,.i .u8 0,.i .u8 0,.i .u8 0,.i .u8 0,.i .u8 0,.i .u8 0],true,false,false⟩:=by kernel_rfl
@[simp] theorem cz291:Program.cellsOf Tryz.prog 291=65:=by kernel_rfl
@[simp] theorem ty292:aA Tryz.prog 292=some ⟨.fn,1,8,.fn0,false,false,false⟩:=by kernel_rfl
@[simp] theorem cz292:Program.cellsOf Tryz.prog 292=1:=by kernel_rfl
@[simp] theorem ty293:aA Tryz.prog 293=some ⟨.ptr 5,1,8,.p0,true,false,false⟩:=by kernel_rfl
@[simp] theorem cz293:Program.cellsOf Tryz.prog 293=1:=by kernel_rfl
@[simp] theorem ty294:aA Tryz.prog 294=some ⟨.ptr 296,1,8,.p0,true,false,false⟩:=by kernel_rfl
@[simp] theorem cz294:Program.cellsOf Tryz.prog 294=1:=by kernel_rfl
@[simp] theorem ty295:aA Tryz.prog 295=some ⟨.st [(0,9,false)],1,16,.ag [.s []],true,false,false⟩:=by kernel_rfl
@[simp] theorem cz295:Program.cellsOf Tryz.prog 295=1:=by kernel_rfl
@[simp] theorem ty296:aA Tryz.prog 296=some ⟨.st [(0,9,false)],1,16,.ag [.s []],true,false,false⟩:=by kernel_rfl
@[simp] theorem cz296:Program.cellsOf Tryz.prog 296=1:=by kernel_rfl
@[simp] theorem ty297:aA Tryz.prog 297=some ⟨.fn,1,8,.fn0,false,false,false⟩:=by kernel_rfl
@[simp] theorem cz297:Program.cellsOf Tryz.prog 297=1:=by kernel_rfl
@[simp] theorem ty298:aA Tryz.prog 298=some ⟨.arr 32 5,32,32,.ag [.i .u8 0,.i .u8 0,.i .u8 0,.i .u8 0,.i .u8 0,.i .u8 0,.i .u8 0,.i .u8 0,.i .u8 0,.i .u8 0,.i .u8 0,.i .u8 0,.i .u8 0,.i .u8 0,.i .u8 0,.i .u8 0,.i .u8 0,.i .u8 0,.i .u8 0,.i .u8 0,.i .u8 0,.i .u8 0,.i .u8 0,.i .u8 0,.i .u8 0,.i .u8 0,.i .u8 0,.i .u8 0,.i .u8 0,.i .u8 0,.i .u8 0,.i .u8 0],true,false,false⟩:=by kernel_rfl
@[simp] theorem cz298:Program.cellsOf Tryz.prog 298=32:=by kernel_rfl
@[simp] theorem ty299:aA Tryz.prog 299=some ⟨.arr 64 5,64,64,.ag [.i .u8 0,.i .u8 0,.i .u8 0,.i .u8 0,.i .u8 0,.i .u8 0,.i .u8 0,.i .u8 0,.i .u8 0,.i .u8 0,.i .u8 0,.i .u8 0,.i .u8 0,.i .u8 0,.i .u8 0,.i .u8 0,.i .u8 0,.i .u8 0,.i .u8 0,.i .u8 0,.i .u8 0,.i .u8 0,.i .u8 0,.i .u8 0,.i .u8 0,.i .u8 0,.i .u8 0,.i .u8 0,.i .u8 0,.i .u8 0,.i .u8 0,.i .u8 0,.i .u8 0,.i .u8 0,.i .u8 0,.i .u8 0,.i .u8 0,.i .u8 0,.i .u8 0,.i .u8 0,.i .u8 0,.i .u8 0,.i .u8 0,.i .u8 0,.i .u8 0,.i .u8 0,.i .u8 0,.i .u8 0,.i .u8 0,.i .u8 0,.i .u8 0,.i .u8 0,.i .u8 0,.i .u8 0,.i .u8 0,.i .u8 0,.i .u8 0,.i .u8 0,.i .u8 0,.i .u8 0,.i .u8 0,.i .u8 0,.i .u8 0,.i .u8 0],true,false,false⟩:=by kernel_rfl
@[simp] theorem cz299:Program.cellsOf Tryz.prog 299=64:=by kernel_rfl
@[simp] theorem ty300:aA Tryz.prog 300=some ⟨.fn,1,8,.fn0,false,false,false⟩:=by kernel_rfl
@[simp] theorem cz300:Program.cellsOf Tryz.prog 300=1:=by kernel_rfl
@[simp] theorem ty303:aA Tryz.prog 303=some ⟨.arr 0 16,0,0,.ag [],true,false,false⟩:=by kernel_rfl
@[simp] theorem cz303:Program.cellsOf Tryz.prog 303=0:=by kernel_rfl
@[simp] theorem ty306:aA Tryz.prog 306=some ⟨.int .u8,1,1,.i .u8 0,true,false,false⟩:=by kernel_rfl
@[simp] theorem cz306:Program.cellsOf Tryz.prog 306=1:=by kernel_rfl
@[simp] theorem ty307:aA Tryz.prog 307=some ⟨.int .u8,1,1,.i .u8 0,true,false,false⟩:=by kernel_rfl
@[simp] theorem cz307:Program.cellsOf Tryz.prog 307=1:=by kernel_rfl
@[simp] theorem ty308:aA Tryz.prog 308=some ⟨.fn,1,8,.fn0,false,false,false⟩:=by kernel_rfl
@[simp] theorem cz308:Program.cellsOf Tryz.prog 308=1:=by kernel_rfl
@[simp] theorem ty309:aA Tryz.prog 309=some ⟨.int .i32,1,4,.i .i32 0,true,false,false⟩:=by kernel_rfl
@[simp] theorem cz309:Program.cellsOf Tryz.prog 309=1:=by kernel_rfl
@[simp] theorem ty310:aA Tryz.prog 310=some ⟨.int .i32,1,4,.i .i32 0,true,false,false⟩:=by kernel_rfl
@[simp] theorem cz310:Program.cellsOf Tryz.prog 310=1:=by kernel_rfl
@[simp] theorem ty313:aA Tryz.prog 313=some ⟨.other,1,8,.p0,true,false,false⟩:=by kernel_rfl
@[simp] theorem cz313:Program.cellsOf Tryz.prog 313=1:=by kernel_rfl
end Go.cO.YtnbdedokjfpckaaGreatDoor
namespace Go.cO
open Go.RowKit
section
variable {P:Program} {G:Nat} {μ μ':Mu} {σ σ':St} {w w':World}
theorem Does.pW {f:Nat} {aW:Array Value} {R:Ending→World→Prop} (he:Enters P f)(h:Calls P f aW w R):Does P f aW w R:=.inl ⟨he aW w,h⟩
theorem Does.EW {f:Nat} {aW:Array Value} {R:Ending→World→Prop} {v:Value} (h:(callFunc f aW).run P w= .ok (.value v) w')(hr:R (.returned v) w'):Does P f aW w R:=.inr ⟨v,w',h,hr⟩
theorem oK (h:Below w.heap.size w w'):ji w w':=by
 intro b e m hs
 have hb:b<w.heap.size:=by
  rcases Nat.lt_or_ge b w.heap.size with hl | hl
  ·exact hl
  ·simp [World.shape?,Array.getElem?_eq_none hl] at hs
 unfold World.shape? at hs ⊢
 rw [h.block b hb];exact hs
theorem Step.of_below (hs:fH G μ σ w)(h:Below w.heap.size w w'):Step G μ σ w μ σ w':=
 ⟨⟨fun o a ho hl=>by
  obtain⟨b,δ,h1,h2⟩:=hs.obj o a ho hl
  exact⟨b,δ,h1,pF.mono (Mu.le_refl μ) (oK h) (h.block b (hs.blk o _ b δ h1)) h2⟩,hs.inj,hs.dom,fun o g b δ q=>Nat.lt_of_lt_of_le (hs.blk o g b δ q) h.size,hs.rC,hs.low,fun g e cs hg ho=>oK h _ _ _ (hs.full g e cs hg ho)⟩,
   Mu.le_refl μ,oK h,h.os,h.tape,h.output,h.size,fun b hb _=>h.block b hb,fun o a b δ h1 h2 h3 h4 _=>⟨o,a,δ,h1,h2,h3,h4⟩⟩
theorem Step.below (h:Step G μ σ w μ' σ' w')(hro:∀(o:Nat) a,σ[o]? =some a→a.ro=false→a.k.live=true→False):Below w.heap.size w w':=
 ⟨h.os,h.tape,h.output,h.size,fun b hb=>h.frame b hb fun o a δ h1 h2 h3 _=>hro o a h1 h2 h3⟩
theorem Lu {a:AV} {c:Array Value} (h:aQ μ w [a] c.toList):∃v,c= #[v]∧aJ μ w a v:=by
 obtain⟨v,vs,h1,h2,h3⟩:=h
 simp only [aQ] at h3
 subst h3
 exact⟨v,Array.ext' h1,h2⟩
theorem vC {a b:AV} {c:Array Value} (h:aQ μ w [a,b] c.toList):∃v u,c= #[v,u]∧aJ μ w a v∧aJ μ w b u:=by
 obtain⟨v,vs,h1,h2,u,us,h3,h4,h5⟩:=h
 simp only [aQ] at h5
 subst h5;subst h3
 exact⟨v,u,Array.ext' h1,h2,h4⟩
theorem wP {a b d:AV} {c:Array Value} (h:aQ μ w [a,b,d] c.toList):∃v u t,c= #[v,u,t]∧aJ μ w a v∧aJ μ w b u∧aJ μ w d t:=by
 obtain⟨v,vs,h1,h2,u,us,h3,h4,t,ts,h5,h6,h7⟩:=h
 simp only [aQ] at h7
 subst h7;subst h5;subst h3
 exact⟨v,u,t,Array.ext' h1,h2,h4,h6⟩
theorem fH.cell {o g e:Nat} {ro:Bool} {a:AV} {rest:List AV} {b δ:Nat} (hs:fH G μ σ w)(ho:σ[o]? =some ⟨g,ro,.cells e (a :: rest)⟩)(hb:μ o g=some (b,δ)):∃v,w.cell? ⟨b,δ,none⟩=some v∧aJ μ w a v:=by
 obtain⟨b',uV,h1,h2⟩:=hs.obj o _ ho rfl
 rw [hb] at h1;cases h1
 obtain⟨dF,fr,q1,q2,q3,q4⟩:=h2
 obtain⟨v,r1,r2⟩:=q3 0 a rfl
 refine⟨v,?_,r2⟩
 rw [cell_of_heap q1]
 simpa using r1
end
end Go.cO
namespace Go.cO
open Go.RowKit
variable {P:Program} {G:Nat} {μ:Mu} {σ:St} {w w':World}
theorem Step.fresh (hs:fH G μ σ w)(hb:Below w.heap.size w w') {A e:Nat} {cur:Array Value} {cs:List AV} (hA:w.heap.size≤A)(hh:w'.heap[A]? =some (.cells cur e (0,0)))(hl:cs.length≤cur.size)
 (hc:∀(j:Nat) c,cs[j]? =some c→∃v,cur[j]? =some v∧aJ μ w c v):Step G μ σ w (μ.upd σ.length 0 (A,0)) (σ ++ [⟨0,false,.cells e cs⟩]) w':=by
 have h:=(Step.of_below hs hb).nI
 have hwx:=oK hb
 have hnone:μ σ.length 0=none:=by
  cases hq:μ σ.length 0 with
  | none=>rfl
  | some y=>obtain⟨a,ha,_⟩:=hs.dom _ _ _ hq;simp at ha
 have hle:=Mu.pG (x:=(A,0)) hnone
 have hcase:∀(o:Nat) a',(σ ++ [⟨0,false,.cells e cs⟩])[o]? =some a'→(σ[o]? =some a'∧o≠σ.length)∨(o=σ.length∧a'= ⟨0,false,.cells e cs⟩):=by
  intro o a' ho
  rcases Nat.lt_trichotomy o σ.length with hl | he | hg
  ·rw [List.getElem?_append_left hl] at ho;exact .inl ⟨ho,by omega⟩
  ·subst he;simp at ho;exact .inr ⟨rfl,ho.symm⟩
  ·rw [List.getElem?_eq_none (by simp;omega)] at ho;cases ho
 refine⟨⟨?_,?_,?_,?_,?_,?_,?_⟩,hle,hwx,hb.os,hb.tape,hb.output,hb.size,fun b hb' _=>hb.block b hb',?_⟩
 ·intro o a' ho hl'
  rcases hcase o a' ho with ⟨ho',hne⟩ | ⟨rfl,rfl⟩
  ·obtain⟨b,δ,h1,h2⟩:=h.obj o a' ho' hl'
   exact⟨b,δ,hle _ _ _ h1,pF.mono hle (ji.refl _) rfl h2⟩
  ·refine⟨A,0,Mu.bK _ _ _ _,cur,(0,0),hh,by omega,fun j c hj=>?_,fun _ j _ hj=>by omega⟩
   obtain⟨v,r1,r2⟩:=hc j c hj
   exact⟨v,by rw [Nat.zero_add];exact r1,aJ.mono hle hwx c v r2⟩
 ·intro o o' a1 a2 b δ uV ho ho' hro hl1 hl2 hb1 hb2
  rcases hcase o a1 ho with ⟨ho1,hne⟩ | ⟨rfl,rfl⟩ <;> rcases hcase o' a2 ho' with ⟨ho2,hne'⟩ | ⟨rfl,rfl⟩
  ·rw [Mu.upd_ne (by simp [hne])] at hb1
   rw [Mu.upd_ne (by simp [hne'])] at hb2
   exact hs.inj o o' a1 a2 b δ uV ho1 ho2 hro hl1 hl2 hb1 hb2
  ·rw [Mu.upd_ne (by simp [hne])] at hb1
   rw [Mu.bK] at hb2
   cases hb2
   have:=hs.blk _ _ _ _ hb1
   omega
  ·rw [Mu.upd_ne (by simp [hne'])] at hb2
   rw [Mu.bK] at hb1
   cases hb1
   have:=hs.blk _ _ _ _ hb2
   omega
  ·rfl
 ·intro o g y hy
  by_cases he:o=σ.length∧g=0
  ·exact⟨⟨0,false,.cells e cs⟩,by rw [he.1];simp,by rw [he.2];exact Nat.zero_le _⟩
  ·rw [Mu.upd_ne he] at hy
   obtain⟨a',ha,hle'⟩:=hs.dom _ _ _ hy
   exact⟨a',by rw [List.getElem?_append_left (cu ha)];exact ha,hle'⟩
 ·intro o g b δ hy
  by_cases he:o=σ.length∧g=0
  ·rw [he.1,he.2,Mu.bK] at hy;cases hy;exact lt_of_heap hh
  ·rw [Mu.upd_ne he] at hy;have:=hs.blk _ _ _ _ hy;have:=hb.size;omega
 ·intro g hg'
  exact hle _ _ _ (hs.rC g hg')
 ·intro o b δ hy
  by_cases he:o=σ.length∧0=0
  ·rw [he.1,Mu.bK] at hy;cases hy;rfl
  ·rw [Mu.upd_ne he] at hy;exact hs.low _ _ _ hy
 ·intro g e' cs' hg' ho
  rcases hcase g _ ho with ⟨ho',_⟩ | ⟨rfl,h1⟩
  ·exact h.full g e' cs' hg' ho'
  ·cases h1
 ·intro o a' b δ ho hro hl' hb1 hlt
  rcases hcase o a' ho with ⟨ho1,hne⟩ | ⟨rfl,rfl⟩
  ·rw [Mu.upd_ne (by simp [hne])] at hb1
   exact⟨o,a',δ,ho1,hro,hl',hb1⟩
  ·rw [Mu.bK] at hb1;cases hb1;omega
end Go.cO
