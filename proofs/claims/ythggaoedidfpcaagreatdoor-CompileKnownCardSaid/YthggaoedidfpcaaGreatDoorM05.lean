/- Texts of this claim, joined: Ty, Abs20, Abs34, Bl. -/
import Derived.Test.YthggaoedidfpcaaGreatDoorM01
import Derived.Test.YthggaoedidfpcaaGreatDoorProg
import Derived.KernelRfl
import Derived.Test.YthggaoedidfpcaaGreatDoorM02
import Derived.Below
import Derived.Laws.AppendOwn
import Derived.Test.YthggaoedidfpcaaGreatDoorM03
import Derived.Laws.IdiomRangeMap
import Derived.Tactics
set_option linter.unusedVariables false
set_option linter.unusedSimpArgs false
namespace Go.dX.YthggaoedidfpcaaGreatDoor
open Go.Proofs
@[simp] theorem ty0:aH Tryz.prog 0=some ⟨.other,1,0,.u,false,false,false⟩:=by kernel_rfl
@[simp] theorem cz0:Program.cellsOf Tryz.prog 0=1:=by kernel_rfl
@[simp] theorem ty1:aH Tryz.prog 1=some ⟨.fn,1,8,.fn0,false,false,false⟩:=by kernel_rfl
@[simp] theorem cz1:Program.cellsOf Tryz.prog 1=1:=by kernel_rfl
@[simp] theorem ty2:aH Tryz.prog 2=some ⟨.int .i64,1,8,.i .i64 0,true,false,false⟩:=by kernel_rfl
@[simp] theorem cz2:Program.cellsOf Tryz.prog 2=1:=by kernel_rfl
@[simp] theorem ty3:aH Tryz.prog 3=some ⟨.int .i64,1,8,.i .i64 0,true,false,false⟩:=by kernel_rfl
@[simp] theorem cz3:Program.cellsOf Tryz.prog 3=1:=by kernel_rfl
@[simp] theorem ty4:aH Tryz.prog 4=some ⟨.bool,1,1,.b false,true,false,false⟩:=by kernel_rfl
@[simp] theorem cz4:Program.cellsOf Tryz.prog 4=1:=by kernel_rfl
@[simp] theorem ty5:aH Tryz.prog 5=some ⟨.int .u8,1,1,.i .u8 0,true,false,false⟩:=by kernel_rfl
@[simp] theorem cz5:Program.cellsOf Tryz.prog 5=1:=by kernel_rfl
@[simp] theorem ty6:aH Tryz.prog 6=some ⟨.int .u8,1,1,.i .u8 0,true,false,false⟩:=by kernel_rfl
@[simp] theorem cz6:Program.cellsOf Tryz.prog 6=1:=by kernel_rfl
@[simp] theorem ty7:aH Tryz.prog 7=some ⟨.st [(0,2,false),(1,3,false),(2,4,false),(3,6,false)],4,24,.ag [.i .i64 0,.i .i64 0,.b false,.i .u8 0],true,false,false⟩:=by kernel_rfl
@[simp] theorem cz7:Program.cellsOf Tryz.prog 7=4:=by kernel_rfl
@[simp] theorem ty8:aH Tryz.prog 8=some ⟨.st [(0,2,false),(1,3,false),(2,4,false),(3,6,false)],4,24,.ag [.i .i64 0,.i .i64 0,.b false,.i .u8 0],true,false,false⟩:=by kernel_rfl
@[simp] theorem cz8:Program.cellsOf Tryz.prog 8=4:=by kernel_rfl
@[simp] theorem ty9:aH Tryz.prog 9=some ⟨.str,1,16,.s [],true,false,false⟩:=by kernel_rfl
@[simp] theorem cz9:Program.cellsOf Tryz.prog 9=1:=by kernel_rfl
@[simp] theorem ty10:aH Tryz.prog 10=some ⟨.str,1,16,.s [],true,false,false⟩:=by kernel_rfl
@[simp] theorem cz10:Program.cellsOf Tryz.prog 10=1:=by kernel_rfl
@[simp] theorem ty11:aH Tryz.prog 11=some ⟨.str,1,16,.s [],true,false,false⟩:=by kernel_rfl
@[simp] theorem cz11:Program.cellsOf Tryz.prog 11=1:=by kernel_rfl
@[simp] theorem ty12:aH Tryz.prog 12=some ⟨.int .u64,1,8,.i .u64 0,true,false,false⟩:=by kernel_rfl
@[simp] theorem cz12:Program.cellsOf Tryz.prog 12=1:=by kernel_rfl
@[simp] theorem ty15:aH Tryz.prog 15=some ⟨.ptr 328,1,8,.p0,true,false,false⟩:=by kernel_rfl
@[simp] theorem cz15:Program.cellsOf Tryz.prog 15=1:=by kernel_rfl
@[simp] theorem ty16:aH Tryz.prog 16=some ⟨.ptr 331,1,8,.p0,true,false,false⟩:=by kernel_rfl
@[simp] theorem cz16:Program.cellsOf Tryz.prog 16=1:=by kernel_rfl
@[simp] theorem ty17:aH Tryz.prog 17=some ⟨.ptr 338,1,8,.p0,true,false,false⟩:=by kernel_rfl
@[simp] theorem cz17:Program.cellsOf Tryz.prog 17=1:=by kernel_rfl
@[simp] theorem ty20:aH Tryz.prog 20=some ⟨.rO [],1,16,.fK,true,false,false⟩:=by kernel_rfl
@[simp] theorem cz20:Program.cellsOf Tryz.prog 20=1:=by kernel_rfl
@[simp] theorem ty21:aH Tryz.prog 21=some ⟨.int .i32,1,4,.i .i32 0,true,false,false⟩:=by kernel_rfl
@[simp] theorem cz21:Program.cellsOf Tryz.prog 21=1:=by kernel_rfl
@[simp] theorem ty22:aH Tryz.prog 22=some ⟨.slice 3,1,24,.sl0,false,false,false⟩:=by kernel_rfl
@[simp] theorem cz22:Program.cellsOf Tryz.prog 22=1:=by kernel_rfl
@[simp] theorem ty23:aH Tryz.prog 23=some ⟨.rO [("Error",174)],1,16,.fK,true,false,true⟩:=by kernel_rfl
@[simp] theorem cz23:Program.cellsOf Tryz.prog 23=1:=by kernel_rfl
@[simp] theorem ty24:aH Tryz.prog 24=some ⟨.rO [("Error",174)],1,16,.fK,true,false,true⟩:=by kernel_rfl
@[simp] theorem cz24:Program.cellsOf Tryz.prog 24=1:=by kernel_rfl
@[simp] theorem ty25:aH Tryz.prog 25=some ⟨.other,1,0,.u,false,false,false⟩:=by kernel_rfl
@[simp] theorem cz25:Program.cellsOf Tryz.prog 25=1:=by kernel_rfl
@[simp] theorem ty26:aH Tryz.prog 26=some ⟨.fn,1,8,.fn0,false,false,false⟩:=by kernel_rfl
@[simp] theorem cz26:Program.cellsOf Tryz.prog 26=1:=by kernel_rfl
@[simp] theorem ty27:aH Tryz.prog 27=some ⟨.fn,1,8,.fn0,false,false,false⟩:=by kernel_rfl
@[simp] theorem cz27:Program.cellsOf Tryz.prog 27=1:=by kernel_rfl
@[simp] theorem ty28:aH Tryz.prog 28=some ⟨.int .i64,1,8,.i .i64 0,true,false,false⟩:=by kernel_rfl
@[simp] theorem cz28:Program.cellsOf Tryz.prog 28=1:=by kernel_rfl
@[simp] theorem ty29:aH Tryz.prog 29=some ⟨.slice 5,1,24,.sl0,false,false,false⟩:=by kernel_rfl
@[simp] theorem cz29:Program.cellsOf Tryz.prog 29=1:=by kernel_rfl
@[simp] theorem ty30:aH Tryz.prog 30=some ⟨.slice 59,1,24,.sl0,false,false,false⟩:=by kernel_rfl
@[simp] theorem cz30:Program.cellsOf Tryz.prog 30=1:=by kernel_rfl
@[simp] theorem ty31:aH Tryz.prog 31=some ⟨.slice 99,1,24,.sl0,false,false,false⟩:=by kernel_rfl
@[simp] theorem cz31:Program.cellsOf Tryz.prog 31=1:=by kernel_rfl
@[simp] theorem ty32:aH Tryz.prog 32=some ⟨.st [(0,3,false),(1,3,false),(2,3,false),(3,30,false),(4,9,false),(5,31,false),(6,30,false)],7,112,.ag [.i .i64 0,.i .i64 0,.i .i64 0,.sl0,.s [],.sl0,.sl0],false,false,false⟩:=by kernel_rfl
@[simp] theorem cz32:Program.cellsOf Tryz.prog 32=7:=by kernel_rfl
@[simp] theorem ty33:aH Tryz.prog 33=some ⟨.st [(0,3,false),(1,3,false),(2,3,false),(3,30,false),(4,9,false),(5,31,false),(6,30,false)],7,112,.ag [.i .i64 0,.i .i64 0,.i .i64 0,.sl0,.s [],.sl0,.sl0],false,false,false⟩:=by kernel_rfl
@[simp] theorem cz33:Program.cellsOf Tryz.prog 33=7:=by kernel_rfl
@[simp] theorem ty34:aH Tryz.prog 34=some ⟨.other,1,0,.u,false,false,false⟩:=by kernel_rfl
@[simp] theorem cz34:Program.cellsOf Tryz.prog 34=1:=by kernel_rfl
@[simp] theorem ty35:aH Tryz.prog 35=some ⟨.fn,1,8,.fn0,false,false,false⟩:=by kernel_rfl
@[simp] theorem cz35:Program.cellsOf Tryz.prog 35=1:=by kernel_rfl
@[simp] theorem ty36:aH Tryz.prog 36=some ⟨.ptr 39,1,8,.p0,true,false,false⟩:=by kernel_rfl
@[simp] theorem cz36:Program.cellsOf Tryz.prog 36=1:=by kernel_rfl
@[simp] theorem ty37:aH Tryz.prog 37=some ⟨.slice 110,1,24,.sl0,false,false,false⟩:=by kernel_rfl
@[simp] theorem cz37:Program.cellsOf Tryz.prog 37=1:=by kernel_rfl
@[simp] theorem ty38:aH Tryz.prog 38=some ⟨.st [(0,37,false)],1,24,.ag [.sl0],false,false,false⟩:=by kernel_rfl
@[simp] theorem cz38:Program.cellsOf Tryz.prog 38=1:=by kernel_rfl
@[simp] theorem ty39:aH Tryz.prog 39=some ⟨.st [(0,37,false)],1,24,.ag [.sl0],false,false,false⟩:=by kernel_rfl
@[simp] theorem cz39:Program.cellsOf Tryz.prog 39=1:=by kernel_rfl
@[simp] theorem ty40:aH Tryz.prog 40=some ⟨.fn,1,8,.fn0,false,false,false⟩:=by kernel_rfl
@[simp] theorem cz40:Program.cellsOf Tryz.prog 40=1:=by kernel_rfl
@[simp] theorem ty41:aH Tryz.prog 41=some ⟨.ptr 43,1,8,.p0,true,false,false⟩:=by kernel_rfl
@[simp] theorem cz41:Program.cellsOf Tryz.prog 41=1:=by kernel_rfl
@[simp] theorem ty42:aH Tryz.prog 42=some ⟨.st [(0,9,false),(1,3,false),(2,36,false),(3,9,false)],4,48,.ag [.s [],.i .i64 0,.p0,.s []],true,false,false⟩:=by kernel_rfl
@[simp] theorem cz42:Program.cellsOf Tryz.prog 42=4:=by kernel_rfl
@[simp] theorem ty43:aH Tryz.prog 43=some ⟨.st [(0,9,false),(1,3,false),(2,36,false),(3,9,false)],4,48,.ag [.s [],.i .i64 0,.p0,.s []],true,false,false⟩:=by kernel_rfl
@[simp] theorem cz43:Program.cellsOf Tryz.prog 43=4:=by kernel_rfl
@[simp] theorem ty44:aH Tryz.prog 44=some ⟨.slice 48,1,24,.sl0,false,false,false⟩:=by kernel_rfl
@[simp] theorem cz44:Program.cellsOf Tryz.prog 44=1:=by kernel_rfl
@[simp] theorem ty45:aH Tryz.prog 45=some ⟨.fn,1,8,.fn0,false,false,false⟩:=by kernel_rfl
@[simp] theorem cz45:Program.cellsOf Tryz.prog 45=1:=by kernel_rfl
@[simp] theorem ty46:aH Tryz.prog 46=some ⟨.fn,1,8,.fn0,false,false,false⟩:=by kernel_rfl
@[simp] theorem cz46:Program.cellsOf Tryz.prog 46=1:=by kernel_rfl
@[simp] theorem ty47:aH Tryz.prog 47=some ⟨.st [(0,46,false)],1,8,.ag [.fn0],false,false,false⟩:=by kernel_rfl
@[simp] theorem cz47:Program.cellsOf Tryz.prog 47=1:=by kernel_rfl
@[simp] theorem ty48:aH Tryz.prog 48=some ⟨.st [(0,46,false)],1,8,.ag [.fn0],false,false,false⟩:=by kernel_rfl
@[simp] theorem cz48:Program.cellsOf Tryz.prog 48=1:=by kernel_rfl
@[simp] theorem ty49:aH Tryz.prog 49=some ⟨.ptr 53,1,8,.p0,true,false,false⟩:=by kernel_rfl
@[simp] theorem cz49:Program.cellsOf Tryz.prog 49=1:=by kernel_rfl
@[simp] theorem ty50:aH Tryz.prog 50=some ⟨.fn,1,8,.fn0,false,false,false⟩:=by kernel_rfl
@[simp] theorem cz50:Program.cellsOf Tryz.prog 50=1:=by kernel_rfl
@[simp] theorem ty51:aH Tryz.prog 51=some ⟨.ptr 49,1,8,.p0,true,false,false⟩:=by kernel_rfl
@[simp] theorem cz51:Program.cellsOf Tryz.prog 51=1:=by kernel_rfl
@[simp] theorem ty52:aH Tryz.prog 52=some ⟨.st [(0,28,false),(1,3,false)],2,16,.ag [.i .i64 0,.i .i64 0],true,false,false⟩:=by kernel_rfl
@[simp] theorem cz52:Program.cellsOf Tryz.prog 52=2:=by kernel_rfl
@[simp] theorem ty53:aH Tryz.prog 53=some ⟨.st [(0,28,false),(1,3,false)],2,16,.ag [.i .i64 0,.i .i64 0],true,false,false⟩:=by kernel_rfl
@[simp] theorem cz53:Program.cellsOf Tryz.prog 53=2:=by kernel_rfl
@[simp] theorem ty54:aH Tryz.prog 54=some ⟨.fn,1,8,.fn0,false,false,false⟩:=by kernel_rfl
@[simp] theorem cz54:Program.cellsOf Tryz.prog 54=1:=by kernel_rfl
@[simp] theorem ty55:aH Tryz.prog 55=some ⟨.other,1,0,.u,false,false,false⟩:=by kernel_rfl
@[simp] theorem cz55:Program.cellsOf Tryz.prog 55=1:=by kernel_rfl
@[simp] theorem ty56:aH Tryz.prog 56=some ⟨.fn,1,8,.fn0,false,false,false⟩:=by kernel_rfl
@[simp] theorem cz56:Program.cellsOf Tryz.prog 56=1:=by kernel_rfl
@[simp] theorem ty57:aH Tryz.prog 57=some ⟨.other,1,0,.u,false,false,false⟩:=by kernel_rfl
@[simp] theorem cz57:Program.cellsOf Tryz.prog 57=1:=by kernel_rfl
@[simp] theorem ty58:aH Tryz.prog 58=some ⟨.fn,1,8,.fn0,false,false,false⟩:=by kernel_rfl
@[simp] theorem cz58:Program.cellsOf Tryz.prog 58=1:=by kernel_rfl
@[simp] theorem ty59:aH Tryz.prog 59=some ⟨.int .u32,1,4,.i .u32 0,true,false,false⟩:=by kernel_rfl
@[simp] theorem cz59:Program.cellsOf Tryz.prog 59=1:=by kernel_rfl
@[simp] theorem ty60:aH Tryz.prog 60=some ⟨.fn,1,8,.fn0,false,false,false⟩:=by kernel_rfl
@[simp] theorem cz60:Program.cellsOf Tryz.prog 60=1:=by kernel_rfl
@[simp] theorem ty61:aH Tryz.prog 61=some ⟨.fn,1,8,.fn0,false,false,false⟩:=by kernel_rfl
@[simp] theorem cz61:Program.cellsOf Tryz.prog 61=1:=by kernel_rfl
@[simp] theorem ty62:aH Tryz.prog 62=some ⟨.other,1,0,.u,false,false,false⟩:=by kernel_rfl
@[simp] theorem cz62:Program.cellsOf Tryz.prog 62=1:=by kernel_rfl
@[simp] theorem ty63:aH Tryz.prog 63=some ⟨.fn,1,8,.fn0,false,false,false⟩:=by kernel_rfl
@[simp] theorem cz63:Program.cellsOf Tryz.prog 63=1:=by kernel_rfl
@[simp] theorem ty64:aH Tryz.prog 64=some ⟨.fn,1,8,.fn0,false,false,false⟩:=by kernel_rfl
@[simp] theorem cz64:Program.cellsOf Tryz.prog 64=1:=by kernel_rfl
@[simp] theorem ty65:aH Tryz.prog 65=some ⟨.other,1,0,.u,false,false,false⟩:=by kernel_rfl
@[simp] theorem cz65:Program.cellsOf Tryz.prog 65=1:=by kernel_rfl
@[simp] theorem ty66:aH Tryz.prog 66=some ⟨.fn,1,8,.fn0,false,false,false⟩:=by kernel_rfl
@[simp] theorem cz66:Program.cellsOf Tryz.prog 66=1:=by kernel_rfl
@[simp] theorem ty67:aH Tryz.prog 67=some ⟨.other,1,8,.p0,true,false,false⟩:=by kernel_rfl
@[simp] theorem cz67:Program.cellsOf Tryz.prog 67=1:=by kernel_rfl
@[simp] theorem ty68:aH Tryz.prog 68=some ⟨.int .u64,1,8,.i .u64 0,true,false,false⟩:=by kernel_rfl
@[simp] theorem cz68:Program.cellsOf Tryz.prog 68=1:=by kernel_rfl
@[simp] theorem ty71:aH Tryz.prog 71=some ⟨.fn,1,8,.fn0,false,false,false⟩:=by kernel_rfl
@[simp] theorem cz71:Program.cellsOf Tryz.prog 71=1:=by kernel_rfl
@[simp] theorem ty72:aH Tryz.prog 72=some ⟨.rO [("AssignableTo",77),("Comparable",40),("Elem",74),("Implements",77),("Kind",76),("Name",174),("PkgPath",174),("Size",339),("String",174),("internal/reflectlite.common",332),("internal/reflectlite.uncommon",340)],1,16,.fK,true,false,true⟩:=by kernel_rfl
@[simp] theorem cz72:Program.cellsOf Tryz.prog 72=1:=by kernel_rfl
@[simp] theorem ty73:aH Tryz.prog 73=some ⟨.rO [("AssignableTo",77),("Comparable",40),("Elem",74),("Implements",77),("Kind",76),("Name",174),("PkgPath",174),("Size",339),("String",174),("internal/reflectlite.common",332),("internal/reflectlite.uncommon",340)],1,16,.fK,true,false,true⟩:=by kernel_rfl
@[simp] theorem cz73:Program.cellsOf Tryz.prog 73=1:=by kernel_rfl
@[simp] theorem ty74:aH Tryz.prog 74=some ⟨.fn,1,8,.fn0,false,false,false⟩:=by kernel_rfl
@[simp] theorem cz74:Program.cellsOf Tryz.prog 74=1:=by kernel_rfl
@[simp] theorem ty75:aH Tryz.prog 75=some ⟨.int .u8,1,1,.i .u8 0,true,false,false⟩:=by kernel_rfl
@[simp] theorem cz75:Program.cellsOf Tryz.prog 75=1:=by kernel_rfl
@[simp] theorem ty76:aH Tryz.prog 76=some ⟨.fn,1,8,.fn0,false,false,false⟩:=by kernel_rfl
@[simp] theorem cz76:Program.cellsOf Tryz.prog 76=1:=by kernel_rfl
@[simp] theorem ty77:aH Tryz.prog 77=some ⟨.fn,1,8,.fn0,false,false,false⟩:=by kernel_rfl
@[simp] theorem cz77:Program.cellsOf Tryz.prog 77=1:=by kernel_rfl
@[simp] theorem ty78:aH Tryz.prog 78=some ⟨.fn,1,8,.fn0,false,false,false⟩:=by kernel_rfl
@[simp] theorem cz78:Program.cellsOf Tryz.prog 78=1:=by kernel_rfl
@[simp] theorem ty79:aH Tryz.prog 79=some ⟨.fn,1,8,.fn0,false,false,false⟩:=by kernel_rfl
@[simp] theorem cz79:Program.cellsOf Tryz.prog 79=1:=by kernel_rfl
@[simp] theorem ty80:aH Tryz.prog 80=some ⟨.fn,1,8,.fn0,false,false,false⟩:=by kernel_rfl
@[simp] theorem cz80:Program.cellsOf Tryz.prog 80=1:=by kernel_rfl
@[simp] theorem ty81:aH Tryz.prog 81=some ⟨.other,1,0,.u,false,false,false⟩:=by kernel_rfl
@[simp] theorem cz81:Program.cellsOf Tryz.prog 81=1:=by kernel_rfl
@[simp] theorem ty82:aH Tryz.prog 82=some ⟨.fn,1,8,.fn0,false,false,false⟩:=by kernel_rfl
@[simp] theorem cz82:Program.cellsOf Tryz.prog 82=1:=by kernel_rfl
@[simp] theorem ty83:aH Tryz.prog 83=some ⟨.st [(0,59,false),(1,59,false)],2,8,.ag [.i .u32 0,.i .u32 0],true,false,false⟩:=by kernel_rfl
@[simp] theorem cz83:Program.cellsOf Tryz.prog 83=2:=by kernel_rfl
@[simp] theorem ty84:aH Tryz.prog 84=some ⟨.st [(0,59,false),(1,59,false)],2,8,.ag [.i .u32 0,.i .u32 0],true,false,false⟩:=by kernel_rfl
@[simp] theorem cz84:Program.cellsOf Tryz.prog 84=2:=by kernel_rfl
@[simp] theorem ty85:aH Tryz.prog 85=some ⟨.st [(0,84,false),(2,84,false),(4,84,false),(6,84,false)],8,32,.ag [.i .u32 0,.i .u32 0,.i .u32 0,.i .u32 0,.i .u32 0,.i .u32 0,.i .u32 0,.i .u32 0],true,false,false⟩:=by kernel_rfl
@[simp] theorem cz85:Program.cellsOf Tryz.prog 85=8:=by kernel_rfl
@[simp] theorem ty86:aH Tryz.prog 86=some ⟨.st [(0,84,false),(2,84,false),(4,84,false),(6,84,false)],8,32,.ag [.i .u32 0,.i .u32 0,.i .u32 0,.i .u32 0,.i .u32 0,.i .u32 0,.i .u32 0,.i .u32 0],true,false,false⟩:=by kernel_rfl
@[simp] theorem cz86:Program.cellsOf Tryz.prog 86=8:=by kernel_rfl
@[simp] theorem ty87:aH Tryz.prog 87=some ⟨.other,1,0,.u,false,false,false⟩:=by kernel_rfl
@[simp] theorem cz87:Program.cellsOf Tryz.prog 87=1:=by kernel_rfl
@[simp] theorem ty88:aH Tryz.prog 88=some ⟨.fn,1,8,.fn0,false,false,false⟩:=by kernel_rfl
@[simp] theorem cz88:Program.cellsOf Tryz.prog 88=1:=by kernel_rfl
@[simp] theorem ty89:aH Tryz.prog 89=some ⟨.ptr 154,1,8,.p0,true,false,false⟩:=by kernel_rfl
@[simp] theorem cz89:Program.cellsOf Tryz.prog 89=1:=by kernel_rfl
@[simp] theorem ty90:aH Tryz.prog 90=some ⟨.fn,1,8,.fn0,false,false,false⟩:=by kernel_rfl
@[simp] theorem cz90:Program.cellsOf Tryz.prog 90=1:=by kernel_rfl
@[simp] theorem ty91:aH Tryz.prog 91=some ⟨.other,1,0,.u,false,false,false⟩:=by kernel_rfl
@[simp] theorem cz91:Program.cellsOf Tryz.prog 91=1:=by kernel_rfl
@[simp] theorem ty92:aH Tryz.prog 92=some ⟨.fn,1,8,.fn0,false,false,false⟩:=by kernel_rfl
@[simp] theorem cz92:Program.cellsOf Tryz.prog 92=1:=by kernel_rfl
@[simp] theorem ty93:aH Tryz.prog 93=some ⟨.fn,1,8,.fn0,false,false,false⟩:=by kernel_rfl
@[simp] theorem cz93:Program.cellsOf Tryz.prog 93=1:=by kernel_rfl
@[simp] theorem ty94:aH Tryz.prog 94=some ⟨.fn,1,8,.fn0,false,false,false⟩:=by kernel_rfl
@[simp] theorem cz94:Program.cellsOf Tryz.prog 94=1:=by kernel_rfl
@[simp] theorem ty95:aH Tryz.prog 95=some ⟨.other,1,0,.u,false,false,false⟩:=by kernel_rfl
@[simp] theorem cz95:Program.cellsOf Tryz.prog 95=1:=by kernel_rfl
@[simp] theorem ty96:aH Tryz.prog 96=some ⟨.fn,1,8,.fn0,false,false,false⟩:=by kernel_rfl
@[simp] theorem cz96:Program.cellsOf Tryz.prog 96=1:=by kernel_rfl
@[simp] theorem ty97:aH Tryz.prog 97=some ⟨.int .u16,1,2,.i .u16 0,true,false,false⟩:=by kernel_rfl
@[simp] theorem cz97:Program.cellsOf Tryz.prog 97=1:=by kernel_rfl
@[simp] theorem ty98:aH Tryz.prog 98=some ⟨.st [(0,59,false),(1,4,false),(2,59,false),(3,59,false),(4,97,false),(5,97,false)],6,20,.ag [.i .u32 0,.b false,.i .u32 0,.i .u32 0,.i .u16 0,.i .u16 0],true,false,false⟩:=by kernel_rfl
@[simp] theorem cz98:Program.cellsOf Tryz.prog 98=6:=by kernel_rfl
@[simp] theorem ty99:aH Tryz.prog 99=some ⟨.st [(0,59,false),(1,4,false),(2,59,false),(3,59,false),(4,97,false),(5,97,false)],6,20,.ag [.i .u32 0,.b false,.i .u32 0,.i .u32 0,.i .u16 0,.i .u16 0],true,false,false⟩:=by kernel_rfl
@[simp] theorem cz99:Program.cellsOf Tryz.prog 99=6:=by kernel_rfl
@[simp] theorem ty100:aH Tryz.prog 100=some ⟨.fn,1,8,.fn0,false,false,false⟩:=by kernel_rfl
@[simp] theorem cz100:Program.cellsOf Tryz.prog 100=1:=by kernel_rfl
@[simp] theorem ty101:aH Tryz.prog 101=some ⟨.slice 108,1,24,.sl0,false,false,false⟩:=by kernel_rfl
@[simp] theorem cz101:Program.cellsOf Tryz.prog 101=1:=by kernel_rfl
@[simp] theorem ty102:aH Tryz.prog 102=some ⟨.other,1,0,.u,false,false,false⟩:=by kernel_rfl
@[simp] theorem cz102:Program.cellsOf Tryz.prog 102=1:=by kernel_rfl
@[simp] theorem ty103:aH Tryz.prog 103=some ⟨.fn,1,8,.fn0,false,false,false⟩:=by kernel_rfl
@[simp] theorem cz103:Program.cellsOf Tryz.prog 103=1:=by kernel_rfl
@[simp] theorem ty104:aH Tryz.prog 104=some ⟨.ptr 106,1,8,.p0,true,false,false⟩:=by kernel_rfl
@[simp] theorem cz104:Program.cellsOf Tryz.prog 104=1:=by kernel_rfl
@[simp] theorem ty105:aH Tryz.prog 105=some ⟨.st [(0,101,false),(1,3,false),(2,49,false)],3,40,.ag [.sl0,.i .i64 0,.p0],false,false,false⟩:=by kernel_rfl
@[simp] theorem cz105:Program.cellsOf Tryz.prog 105=3:=by kernel_rfl
@[simp] theorem ty106:aH Tryz.prog 106=some ⟨.st [(0,101,false),(1,3,false),(2,49,false)],3,40,.ag [.sl0,.i .i64 0,.p0],false,false,false⟩:=by kernel_rfl
@[simp] theorem cz106:Program.cellsOf Tryz.prog 106=3:=by kernel_rfl
@[simp] theorem ty107:aH Tryz.prog 107=some ⟨.st [(0,3,false),(1,9,false),(2,3,false)],3,32,.ag [.i .i64 0,.s [],.i .i64 0],true,false,false⟩:=by kernel_rfl
@[simp] theorem cz107:Program.cellsOf Tryz.prog 107=3:=by kernel_rfl
@[simp] theorem ty108:aH Tryz.prog 108=some ⟨.st [(0,3,false),(1,9,false),(2,3,false)],3,32,.ag [.i .i64 0,.s [],.i .i64 0],true,false,false⟩:=by kernel_rfl
@[simp] theorem cz108:Program.cellsOf Tryz.prog 108=3:=by kernel_rfl
@[simp] theorem ty109:aH Tryz.prog 109=some ⟨.fn,1,8,.fn0,false,false,false⟩:=by kernel_rfl
@[simp] theorem cz109:Program.cellsOf Tryz.prog 109=1:=by kernel_rfl
@[simp] theorem ty110:aH Tryz.prog 110=some ⟨.ptr 172,1,8,.p0,true,false,false⟩:=by kernel_rfl
@[simp] theorem cz110:Program.cellsOf Tryz.prog 110=1:=by kernel_rfl
@[simp] theorem ty111:aH Tryz.prog 111=some ⟨.fn,1,8,.fn0,false,false,false⟩:=by kernel_rfl
@[simp] theorem cz111:Program.cellsOf Tryz.prog 111=1:=by kernel_rfl
@[simp] theorem ty112:aH Tryz.prog 112=some ⟨.other,1,0,.u,false,false,false⟩:=by kernel_rfl
@[simp] theorem cz112:Program.cellsOf Tryz.prog 112=1:=by kernel_rfl
@[simp] theorem ty113:aH Tryz.prog 113=some ⟨.fn,1,8,.fn0,false,false,false⟩:=by kernel_rfl
@[simp] theorem cz113:Program.cellsOf Tryz.prog 113=1:=by kernel_rfl
@[simp] theorem ty114:aH Tryz.prog 114=some ⟨.fn,1,8,.fn0,false,false,false⟩:=by kernel_rfl
@[simp] theorem cz114:Program.cellsOf Tryz.prog 114=1:=by kernel_rfl
@[simp] theorem ty115:aH Tryz.prog 115=some ⟨.fn,1,8,.fn0,false,false,false⟩:=by kernel_rfl
@[simp] theorem cz115:Program.cellsOf Tryz.prog 115=1:=by kernel_rfl
@[simp] theorem ty118:aH Tryz.prog 118=some ⟨.ptr 342,1,8,.p0,true,false,false⟩:=by kernel_rfl
@[simp] theorem cz118:Program.cellsOf Tryz.prog 118=1:=by kernel_rfl
@[simp] theorem ty119:aH Tryz.prog 119=some ⟨.fn,1,8,.fn0,false,false,false⟩:=by kernel_rfl
@[simp] theorem cz119:Program.cellsOf Tryz.prog 119=1:=by kernel_rfl
@[simp] theorem ty120:aH Tryz.prog 120=some ⟨.fn,1,8,.fn0,false,false,false⟩:=by kernel_rfl
@[simp] theorem cz120:Program.cellsOf Tryz.prog 120=1:=by kernel_rfl
@[simp] theorem ty121:aH Tryz.prog 121=some ⟨.rO [("As",123)],1,16,.fK,true,false,true⟩:=by kernel_rfl
@[simp] theorem cz121:Program.cellsOf Tryz.prog 121=1:=by kernel_rfl
@[simp] theorem ty122:aH Tryz.prog 122=some ⟨.other,1,0,.u,false,false,false⟩:=by kernel_rfl
@[simp] theorem cz122:Program.cellsOf Tryz.prog 122=1:=by kernel_rfl
@[simp] theorem ty123:aH Tryz.prog 123=some ⟨.fn,1,8,.fn0,false,false,false⟩:=by kernel_rfl
@[simp] theorem cz123:Program.cellsOf Tryz.prog 123=1:=by kernel_rfl
@[simp] theorem ty124:aH Tryz.prog 124=some ⟨.rO [("Unwrap",125)],1,16,.fK,true,false,true⟩:=by kernel_rfl
@[simp] theorem cz124:Program.cellsOf Tryz.prog 124=1:=by kernel_rfl
@[simp] theorem ty125:aH Tryz.prog 125=some ⟨.fn,1,8,.fn0,false,false,false⟩:=by kernel_rfl
@[simp] theorem cz125:Program.cellsOf Tryz.prog 125=1:=by kernel_rfl
@[simp] theorem ty126:aH Tryz.prog 126=some ⟨.rO [("Unwrap",128)],1,16,.fK,true,false,true⟩:=by kernel_rfl
@[simp] theorem cz126:Program.cellsOf Tryz.prog 126=1:=by kernel_rfl
@[simp] theorem ty127:aH Tryz.prog 127=some ⟨.slice 24,1,24,.sl0,false,false,false⟩:=by kernel_rfl
@[simp] theorem cz127:Program.cellsOf Tryz.prog 127=1:=by kernel_rfl
@[simp] theorem ty128:aH Tryz.prog 128=some ⟨.fn,1,8,.fn0,false,false,false⟩:=by kernel_rfl
@[simp] theorem cz128:Program.cellsOf Tryz.prog 128=1:=by kernel_rfl
@[simp] theorem ty129:aH Tryz.prog 129=some ⟨.rO [("Is",131)],1,16,.fK,true,false,true⟩:=by kernel_rfl
@[simp] theorem cz129:Program.cellsOf Tryz.prog 129=1:=by kernel_rfl
@[simp] theorem ty130:aH Tryz.prog 130=some ⟨.other,1,0,.u,false,false,false⟩:=by kernel_rfl
@[simp] theorem cz130:Program.cellsOf Tryz.prog 130=1:=by kernel_rfl
@[simp] theorem ty131:aH Tryz.prog 131=some ⟨.fn,1,8,.fn0,false,false,false⟩:=by kernel_rfl
@[simp] theorem cz131:Program.cellsOf Tryz.prog 131=1:=by kernel_rfl
@[simp] theorem ty132:aH Tryz.prog 132=some ⟨.other,1,0,.u,false,false,false⟩:=by kernel_rfl
@[simp] theorem cz132:Program.cellsOf Tryz.prog 132=1:=by kernel_rfl
@[simp] theorem ty133:aH Tryz.prog 133=some ⟨.fn,1,8,.fn0,false,false,false⟩:=by kernel_rfl
@[simp] theorem cz133:Program.cellsOf Tryz.prog 133=1:=by kernel_rfl
@[simp] theorem ty134:aH Tryz.prog 134=some ⟨.ptr 139,1,8,.p0,true,false,false⟩:=by kernel_rfl
@[simp] theorem cz134:Program.cellsOf Tryz.prog 134=1:=by kernel_rfl
@[simp] theorem ty135:aH Tryz.prog 135=some ⟨.map 9 136,1,8,.kK,false,false,false⟩:=by kernel_rfl
@[simp] theorem cz135:Program.cellsOf Tryz.prog 135=1:=by kernel_rfl
@[simp] theorem ty136:aH Tryz.prog 136=some ⟨.ptr 146,1,8,.p0,true,false,false⟩:=by kernel_rfl
@[simp] theorem cz136:Program.cellsOf Tryz.prog 136=1:=by kernel_rfl
@[simp] theorem ty137:aH Tryz.prog 137=some ⟨.slice 1,1,24,.sl0,false,false,false⟩:=by kernel_rfl
@[simp] theorem cz137:Program.cellsOf Tryz.prog 137=1:=by kernel_rfl
@[simp] theorem ty138:aH Tryz.prog 138=some ⟨.st [(0,30,false),(1,135,false),(2,3,false),(3,136,false),(4,137,false),(5,4,false)],6,80,.ag [.sl0,.kK,.i .i64 0,.p0,.sl0,.b false],false,false,false⟩:=by kernel_rfl
@[simp] theorem cz138:Program.cellsOf Tryz.prog 138=6:=by kernel_rfl
@[simp] theorem ty139:aH Tryz.prog 139=some ⟨.st [(0,30,false),(1,135,false),(2,3,false),(3,136,false),(4,137,false),(5,4,false)],6,80,.ag [.sl0,.kK,.i .i64 0,.p0,.sl0,.b false],false,false,false⟩:=by kernel_rfl
@[simp] theorem cz139:Program.cellsOf Tryz.prog 139=6:=by kernel_rfl
@[simp] theorem ty140:aH Tryz.prog 140=some ⟨.fn,1,8,.fn0,false,false,false⟩:=by kernel_rfl
@[simp] theorem cz140:Program.cellsOf Tryz.prog 140=1:=by kernel_rfl
@[simp] theorem ty141:aH Tryz.prog 141=some ⟨.fn,1,8,.fn0,false,false,false⟩:=by kernel_rfl
@[simp] theorem cz141:Program.cellsOf Tryz.prog 141=1:=by kernel_rfl
@[simp] theorem ty142:aH Tryz.prog 142=some ⟨.fn,1,8,.fn0,false,false,false⟩:=by kernel_rfl
@[simp] theorem cz142:Program.cellsOf Tryz.prog 142=1:=by kernel_rfl
@[simp] theorem ty143:aH Tryz.prog 143=some ⟨.fn,1,8,.fn0,false,false,false⟩:=by kernel_rfl
@[simp] theorem cz143:Program.cellsOf Tryz.prog 143=1:=by kernel_rfl
@[simp] theorem ty144:aH Tryz.prog 144=some ⟨.map 9 3,1,8,.kK,false,false,false⟩:=by kernel_rfl
@[simp] theorem cz144:Program.cellsOf Tryz.prog 144=1:=by kernel_rfl
@[simp] theorem ty145:aH Tryz.prog 145=some ⟨.st [(0,3,false),(1,3,false),(2,144,false),(3,3,false),(4,3,false)],5,40,.ag [.i .i64 0,.i .i64 0,.kK,.i .i64 0,.i .i64 0],false,false,false⟩:=by kernel_rfl
@[simp] theorem cz145:Program.cellsOf Tryz.prog 145=5:=by kernel_rfl
@[simp] theorem ty146:aH Tryz.prog 146=some ⟨.st [(0,3,false),(1,3,false),(2,144,false),(3,3,false),(4,3,false)],5,40,.ag [.i .i64 0,.i .i64 0,.kK,.i .i64 0,.i .i64 0],false,false,false⟩:=by kernel_rfl
@[simp] theorem cz146:Program.cellsOf Tryz.prog 146=5:=by kernel_rfl
@[simp] theorem ty147:aH Tryz.prog 147=some ⟨.fn,1,8,.fn0,false,false,false⟩:=by kernel_rfl
@[simp] theorem cz147:Program.cellsOf Tryz.prog 147=1:=by kernel_rfl
@[simp] theorem ty148:aH Tryz.prog 148=some ⟨.fn,1,8,.fn0,false,false,false⟩:=by kernel_rfl
@[simp] theorem cz148:Program.cellsOf Tryz.prog 148=1:=by kernel_rfl
@[simp] theorem ty149:aH Tryz.prog 149=some ⟨.fn,1,8,.fn0,false,false,false⟩:=by kernel_rfl
@[simp] theorem cz149:Program.cellsOf Tryz.prog 149=1:=by kernel_rfl
@[simp] theorem ty150:aH Tryz.prog 150=some ⟨.other,1,0,.u,false,false,false⟩:=by kernel_rfl
@[simp] theorem cz150:Program.cellsOf Tryz.prog 150=1:=by kernel_rfl
@[simp] theorem ty151:aH Tryz.prog 151=some ⟨.fn,1,8,.fn0,false,false,false⟩:=by kernel_rfl
@[simp] theorem cz151:Program.cellsOf Tryz.prog 151=1:=by kernel_rfl
@[simp] theorem ty152:aH Tryz.prog 152=some ⟨.fn,1,8,.fn0,false,false,false⟩:=by kernel_rfl
@[simp] theorem cz152:Program.cellsOf Tryz.prog 152=1:=by kernel_rfl
@[simp] theorem ty153:aH Tryz.prog 153=some ⟨.st [(0,29,false)],1,24,.ag [.sl0],false,false,false⟩:=by kernel_rfl
@[simp] theorem cz153:Program.cellsOf Tryz.prog 153=1:=by kernel_rfl
@[simp] theorem ty154:aH Tryz.prog 154=some ⟨.st [(0,29,false)],1,24,.ag [.sl0],false,false,false⟩:=by kernel_rfl
@[simp] theorem cz154:Program.cellsOf Tryz.prog 154=1:=by kernel_rfl
@[simp] theorem ty155:aH Tryz.prog 155=some ⟨.fn,1,8,.fn0,false,false,false⟩:=by kernel_rfl
@[simp] theorem cz155:Program.cellsOf Tryz.prog 155=1:=by kernel_rfl
@[simp] theorem ty156:aH Tryz.prog 156=some ⟨.fn,1,8,.fn0,false,false,false⟩:=by kernel_rfl
@[simp] theorem cz156:Program.cellsOf Tryz.prog 156=1:=by kernel_rfl
@[simp] theorem ty157:aH Tryz.prog 157=some ⟨.fn,1,8,.fn0,false,false,false⟩:=by kernel_rfl
@[simp] theorem cz157:Program.cellsOf Tryz.prog 157=1:=by kernel_rfl
@[simp] theorem ty158:aH Tryz.prog 158=some ⟨.fn,1,8,.fn0,false,false,false⟩:=by kernel_rfl
@[simp] theorem cz158:Program.cellsOf Tryz.prog 158=1:=by kernel_rfl
@[simp] theorem ty159:aH Tryz.prog 159=some ⟨.int .i64,1,8,.i .i64 0,true,false,false⟩:=by kernel_rfl
@[simp] theorem cz159:Program.cellsOf Tryz.prog 159=1:=by kernel_rfl
@[simp] theorem ty160:aH Tryz.prog 160=some ⟨.fn,1,8,.fn0,false,false,false⟩:=by kernel_rfl
@[simp] theorem cz160:Program.cellsOf Tryz.prog 160=1:=by kernel_rfl
@[simp] theorem ty161:aH Tryz.prog 161=some ⟨.fn,1,8,.fn0,false,false,false⟩:=by kernel_rfl
@[simp] theorem cz161:Program.cellsOf Tryz.prog 161=1:=by kernel_rfl
@[simp] theorem ty162:aH Tryz.prog 162=some ⟨.fn,1,8,.fn0,false,false,false⟩:=by kernel_rfl
@[simp] theorem cz162:Program.cellsOf Tryz.prog 162=1:=by kernel_rfl
@[simp] theorem ty163:aH Tryz.prog 163=some ⟨.slice 9,1,24,.sl0,false,false,false⟩:=by kernel_rfl
@[simp] theorem cz163:Program.cellsOf Tryz.prog 163=1:=by kernel_rfl
@[simp] theorem ty164:aH Tryz.prog 164=some ⟨.fn,1,8,.fn0,false,false,false⟩:=by kernel_rfl
@[simp] theorem cz164:Program.cellsOf Tryz.prog 164=1:=by kernel_rfl
@[simp] theorem ty165:aH Tryz.prog 165=some ⟨.int .u64,1,8,.i .u64 0,true,false,false⟩:=by kernel_rfl
@[simp] theorem cz165:Program.cellsOf Tryz.prog 165=1:=by kernel_rfl
@[simp] theorem ty166:aH Tryz.prog 166=some ⟨.other,1,0,.u,false,false,false⟩:=by kernel_rfl
@[simp] theorem cz166:Program.cellsOf Tryz.prog 166=1:=by kernel_rfl
@[simp] theorem ty167:aH Tryz.prog 167=some ⟨.fn,1,8,.fn0,false,false,false⟩:=by kernel_rfl
@[simp] theorem cz167:Program.cellsOf Tryz.prog 167=1:=by kernel_rfl
@[simp] theorem ty168:aH Tryz.prog 168=some ⟨.fn,1,8,.fn0,false,false,false⟩:=by kernel_rfl
@[simp] theorem cz168:Program.cellsOf Tryz.prog 168=1:=by kernel_rfl
@[simp] theorem ty169:aH Tryz.prog 169=some ⟨.slice 177,1,24,.sl0,false,false,false⟩:=by kernel_rfl
@[simp] theorem cz169:Program.cellsOf Tryz.prog 169=1:=by kernel_rfl
@[simp] theorem ty170:aH Tryz.prog 170=some ⟨.slice 218,1,24,.sl0,false,false,false⟩:=by kernel_rfl
@[simp] theorem cz170:Program.cellsOf Tryz.prog 170=1:=by kernel_rfl
@[simp] theorem ty171:aH Tryz.prog 171=some ⟨.st [(0,9,false),(1,169,false),(2,4,false),(3,170,false),(4,3,false)],5,80,.ag [.s [],.sl0,.b false,.sl0,.i .i64 0],false,false,false⟩:=by kernel_rfl
@[simp] theorem cz171:Program.cellsOf Tryz.prog 171=5:=by kernel_rfl
@[simp] theorem ty172:aH Tryz.prog 172=some ⟨.st [(0,9,false),(1,169,false),(2,4,false),(3,170,false),(4,3,false)],5,80,.ag [.s [],.sl0,.b false,.sl0,.i .i64 0],false,false,false⟩:=by kernel_rfl
@[simp] theorem cz172:Program.cellsOf Tryz.prog 172=5:=by kernel_rfl
@[simp] theorem ty173:aH Tryz.prog 173=some ⟨.fn,1,8,.fn0,false,false,false⟩:=by kernel_rfl
@[simp] theorem cz173:Program.cellsOf Tryz.prog 173=1:=by kernel_rfl
@[simp] theorem ty174:aH Tryz.prog 174=some ⟨.fn,1,8,.fn0,false,false,false⟩:=by kernel_rfl
@[simp] theorem cz174:Program.cellsOf Tryz.prog 174=1:=by kernel_rfl
@[simp] theorem ty175:aH Tryz.prog 175=some ⟨.fn,1,8,.fn0,false,false,false⟩:=by kernel_rfl
@[simp] theorem cz175:Program.cellsOf Tryz.prog 175=1:=by kernel_rfl
@[simp] theorem ty176:aH Tryz.prog 176=some ⟨.st [(0,9,false),(1,4,false)],2,24,.ag [.s [],.b false],true,false,false⟩:=by kernel_rfl
@[simp] theorem cz176:Program.cellsOf Tryz.prog 176=2:=by kernel_rfl
@[simp] theorem ty177:aH Tryz.prog 177=some ⟨.st [(0,9,false),(1,4,false)],2,24,.ag [.s [],.b false],true,false,false⟩:=by kernel_rfl
@[simp] theorem cz177:Program.cellsOf Tryz.prog 177=2:=by kernel_rfl
@[simp] theorem ty178:aH Tryz.prog 178=some ⟨.fn,1,8,.fn0,false,false,false⟩:=by kernel_rfl
@[simp] theorem cz178:Program.cellsOf Tryz.prog 178=1:=by kernel_rfl
@[simp] theorem ty179:aH Tryz.prog 179=some ⟨.st [(0,53,false)],2,16,.ag [.i .i64 0,.i .i64 0],true,false,false⟩:=by kernel_rfl
@[simp] theorem cz179:Program.cellsOf Tryz.prog 179=2:=by kernel_rfl
@[simp] theorem ty180:aH Tryz.prog 180=some ⟨.st [(0,53,false)],2,16,.ag [.i .i64 0,.i .i64 0],true,false,false⟩:=by kernel_rfl
@[simp] theorem cz180:Program.cellsOf Tryz.prog 180=2:=by kernel_rfl
@[simp] theorem ty181:aH Tryz.prog 181=some ⟨.ptr 185,1,8,.p0,true,false,false⟩:=by kernel_rfl
@[simp] theorem cz181:Program.cellsOf Tryz.prog 181=1:=by kernel_rfl
@[simp] theorem ty182:aH Tryz.prog 182=some ⟨.map 9 110,1,8,.kK,false,false,false⟩:=by kernel_rfl
@[simp] theorem cz182:Program.cellsOf Tryz.prog 182=1:=by kernel_rfl
@[simp] theorem ty183:aH Tryz.prog 183=some ⟨.map 9 163,1,8,.kK,false,false,false⟩:=by kernel_rfl
@[simp] theorem cz183:Program.cellsOf Tryz.prog 183=1:=by kernel_rfl
@[simp] theorem ty184:aH Tryz.prog 184=some ⟨.st [(0,182,false),(1,183,false),(2,3,false)],3,24,.ag [.kK,.kK,.i .i64 0],false,false,false⟩:=by kernel_rfl
@[simp] theorem cz184:Program.cellsOf Tryz.prog 184=3:=by kernel_rfl
@[simp] theorem ty185:aH Tryz.prog 185=some ⟨.st [(0,182,false),(1,183,false),(2,3,false)],3,24,.ag [.kK,.kK,.i .i64 0],false,false,false⟩:=by kernel_rfl
@[simp] theorem cz185:Program.cellsOf Tryz.prog 185=3:=by kernel_rfl
@[simp] theorem ty186:aH Tryz.prog 186=some ⟨.fn,1,8,.fn0,false,false,false⟩:=by kernel_rfl
@[simp] theorem cz186:Program.cellsOf Tryz.prog 186=1:=by kernel_rfl
@[simp] theorem ty187:aH Tryz.prog 187=some ⟨.fn,1,8,.fn0,false,false,false⟩:=by kernel_rfl
@[simp] theorem cz187:Program.cellsOf Tryz.prog 187=1:=by kernel_rfl
@[simp] theorem ty188:aH Tryz.prog 188=some ⟨.fn,1,8,.fn0,false,false,false⟩:=by kernel_rfl
@[simp] theorem cz188:Program.cellsOf Tryz.prog 188=1:=by kernel_rfl
@[simp] theorem ty189:aH Tryz.prog 189=some ⟨.fn,1,8,.fn0,false,false,false⟩:=by kernel_rfl
@[simp] theorem cz189:Program.cellsOf Tryz.prog 189=1:=by kernel_rfl
@[simp] theorem ty190:aH Tryz.prog 190=some ⟨.arr 4 5,4,4,.ag [.i .u8 0,.i .u8 0,.i .u8 0,.i .u8 0],true,false,false⟩:=by kernel_rfl
@[simp] theorem cz190:Program.cellsOf Tryz.prog 190=4:=by kernel_rfl
@[simp] theorem ty191:aH Tryz.prog 191=some ⟨.fn,1,8,.fn0,false,false,false⟩:=by kernel_rfl
@[simp] theorem cz191:Program.cellsOf Tryz.prog 191=1:=by kernel_rfl
@[simp] theorem ty192:aH Tryz.prog 192=some ⟨.fn,1,8,.fn0,false,false,false⟩:=by kernel_rfl
@[simp] theorem cz192:Program.cellsOf Tryz.prog 192=1:=by kernel_rfl
@[simp] theorem ty193:aH Tryz.prog 193=some ⟨.st [(0,3,false),(1,3,false),(2,3,false),(3,3,false),(4,3,false)],5,40,.ag [.i .i64 0,.i .i64 0,.i .i64 0,.i .i64 0,.i .i64 0],true,false,false⟩:=by kernel_rfl
@[simp] theorem cz193:Program.cellsOf Tryz.prog 193=5:=by kernel_rfl
@[simp] theorem ty194:aH Tryz.prog 194=some ⟨.st [(0,3,false),(1,3,false),(2,3,false),(3,3,false),(4,3,false)],5,40,.ag [.i .i64 0,.i .i64 0,.i .i64 0,.i .i64 0,.i .i64 0],true,false,false⟩:=by kernel_rfl
@[simp] theorem cz194:Program.cellsOf Tryz.prog 194=5:=by kernel_rfl
@[simp] theorem ty195:aH Tryz.prog 195=some ⟨.fn,1,8,.fn0,false,false,false⟩:=by kernel_rfl
@[simp] theorem cz195:Program.cellsOf Tryz.prog 195=1:=by kernel_rfl
@[simp] theorem ty196:aH Tryz.prog 196=some ⟨.fn,1,8,.fn0,false,false,false⟩:=by kernel_rfl
@[simp] theorem cz196:Program.cellsOf Tryz.prog 196=1:=by kernel_rfl
@[simp] theorem ty197:aH Tryz.prog 197=some ⟨.fn,1,8,.fn0,false,false,false⟩:=by kernel_rfl
@[simp] theorem cz197:Program.cellsOf Tryz.prog 197=1:=by kernel_rfl
@[simp] theorem ty198:aH Tryz.prog 198=some ⟨.fn,1,8,.fn0,false,false,false⟩:=by kernel_rfl
@[simp] theorem cz198:Program.cellsOf Tryz.prog 198=1:=by kernel_rfl
@[simp] theorem ty199:aH Tryz.prog 199=some ⟨.other,1,0,.u,false,false,false⟩:=by kernel_rfl
@[simp] theorem cz199:Program.cellsOf Tryz.prog 199=1:=by kernel_rfl
@[simp] theorem ty200:aH Tryz.prog 200=some ⟨.fn,1,8,.fn0,false,false,false⟩:=by kernel_rfl
@[simp] theorem cz200:Program.cellsOf Tryz.prog 200=1:=by kernel_rfl
@[simp] theorem ty201:aH Tryz.prog 201=some ⟨.slice 4,1,24,.sl0,false,false,false⟩:=by kernel_rfl
@[simp] theorem cz201:Program.cellsOf Tryz.prog 201=1:=by kernel_rfl
@[simp] theorem ty202:aH Tryz.prog 202=some ⟨.fn,1,8,.fn0,false,false,false⟩:=by kernel_rfl
@[simp] theorem cz202:Program.cellsOf Tryz.prog 202=1:=by kernel_rfl
@[simp] theorem ty203:aH Tryz.prog 203=some ⟨.fn,1,8,.fn0,false,false,false⟩:=by kernel_rfl
@[simp] theorem cz203:Program.cellsOf Tryz.prog 203=1:=by kernel_rfl
@[simp] theorem ty204:aH Tryz.prog 204=some ⟨.fn,1,8,.fn0,false,false,false⟩:=by kernel_rfl
@[simp] theorem cz204:Program.cellsOf Tryz.prog 204=1:=by kernel_rfl
@[simp] theorem ty205:aH Tryz.prog 205=some ⟨.other,1,0,.u,false,false,false⟩:=by kernel_rfl
@[simp] theorem cz205:Program.cellsOf Tryz.prog 205=1:=by kernel_rfl
@[simp] theorem ty206:aH Tryz.prog 206=some ⟨.fn,1,8,.fn0,false,false,false⟩:=by kernel_rfl
@[simp] theorem cz206:Program.cellsOf Tryz.prog 206=1:=by kernel_rfl
@[simp] theorem ty207:aH Tryz.prog 207=some ⟨.other,1,0,.u,false,false,false⟩:=by kernel_rfl
@[simp] theorem cz207:Program.cellsOf Tryz.prog 207=1:=by kernel_rfl
@[simp] theorem ty208:aH Tryz.prog 208=some ⟨.fn,1,8,.fn0,false,false,false⟩:=by kernel_rfl
@[simp] theorem cz208:Program.cellsOf Tryz.prog 208=1:=by kernel_rfl
@[simp] theorem ty209:aH Tryz.prog 209=some ⟨.int .u64,1,8,.i .u64 0,true,false,false⟩:=by kernel_rfl
@[simp] theorem cz209:Program.cellsOf Tryz.prog 209=1:=by kernel_rfl
@[simp] theorem ty210:aH Tryz.prog 210=some ⟨.slice 159,1,24,.sl0,false,false,false⟩:=by kernel_rfl
@[simp] theorem cz210:Program.cellsOf Tryz.prog 210=1:=by kernel_rfl
@[simp] theorem ty211:aH Tryz.prog 211=some ⟨.fn,1,8,.fn0,false,false,false⟩:=by kernel_rfl
@[simp] theorem cz211:Program.cellsOf Tryz.prog 211=1:=by kernel_rfl
@[simp] theorem ty212:aH Tryz.prog 212=some ⟨.fn,1,8,.fn0,false,false,false⟩:=by kernel_rfl
@[simp] theorem cz212:Program.cellsOf Tryz.prog 212=1:=by kernel_rfl
@[simp] theorem ty213:aH Tryz.prog 213=some ⟨.fn,1,8,.fn0,false,false,false⟩:=by kernel_rfl
@[simp] theorem cz213:Program.cellsOf Tryz.prog 213=1:=by kernel_rfl
@[simp] theorem ty214:aH Tryz.prog 214=some ⟨.fn,1,8,.fn0,false,false,false⟩:=by kernel_rfl
@[simp] theorem cz214:Program.cellsOf Tryz.prog 214=1:=by kernel_rfl
@[simp] theorem ty215:aH Tryz.prog 215=some ⟨.fn,1,8,.fn0,false,false,false⟩:=by kernel_rfl
@[simp] theorem cz215:Program.cellsOf Tryz.prog 215=1:=by kernel_rfl
@[simp] theorem ty216:aH Tryz.prog 216=some ⟨.fn,1,8,.fn0,false,false,false⟩:=by kernel_rfl
@[simp] theorem cz216:Program.cellsOf Tryz.prog 216=1:=by kernel_rfl
@[simp] theorem ty217:aH Tryz.prog 217=some ⟨.fn,1,8,.fn0,false,false,false⟩:=by kernel_rfl
@[simp] theorem cz217:Program.cellsOf Tryz.prog 217=1:=by kernel_rfl
@[simp] theorem ty218:aH Tryz.prog 218=some ⟨.ptr 233,1,8,.p0,true,false,false⟩:=by kernel_rfl
@[simp] theorem cz218:Program.cellsOf Tryz.prog 218=1:=by kernel_rfl
@[simp] theorem ty219:aH Tryz.prog 219=some ⟨.fn,1,8,.fn0,false,false,false⟩:=by kernel_rfl
@[simp] theorem cz219:Program.cellsOf Tryz.prog 219=1:=by kernel_rfl
@[simp] theorem ty220:aH Tryz.prog 220=some ⟨.other,1,0,.u,false,false,false⟩:=by kernel_rfl
@[simp] theorem cz220:Program.cellsOf Tryz.prog 220=1:=by kernel_rfl
@[simp] theorem ty221:aH Tryz.prog 221=some ⟨.ptr 224,1,8,.p0,true,false,false⟩:=by kernel_rfl
@[simp] theorem cz221:Program.cellsOf Tryz.prog 221=1:=by kernel_rfl
@[simp] theorem ty222:aH Tryz.prog 222=some ⟨.map 9 4,1,8,.kK,false,false,false⟩:=by kernel_rfl
@[simp] theorem cz222:Program.cellsOf Tryz.prog 222=1:=by kernel_rfl
@[simp] theorem ty223:aH Tryz.prog 223=some ⟨.st [(0,181,false),(1,110,false),(2,222,false),(3,222,false)],4,32,.ag [.p0,.p0,.kK,.kK],false,false,false⟩:=by kernel_rfl
@[simp] theorem cz223:Program.cellsOf Tryz.prog 223=4:=by kernel_rfl
@[simp] theorem ty224:aH Tryz.prog 224=some ⟨.st [(0,181,false),(1,110,false),(2,222,false),(3,222,false)],4,32,.ag [.p0,.p0,.kK,.kK],false,false,false⟩:=by kernel_rfl
@[simp] theorem cz224:Program.cellsOf Tryz.prog 224=4:=by kernel_rfl
@[simp] theorem ty225:aH Tryz.prog 225=some ⟨.fn,1,8,.fn0,false,false,false⟩:=by kernel_rfl
@[simp] theorem cz225:Program.cellsOf Tryz.prog 225=1:=by kernel_rfl
@[simp] theorem ty226:aH Tryz.prog 226=some ⟨.fn,1,8,.fn0,false,false,false⟩:=by kernel_rfl
@[simp] theorem cz226:Program.cellsOf Tryz.prog 226=1:=by kernel_rfl
@[simp] theorem ty227:aH Tryz.prog 227=some ⟨.fn,1,8,.fn0,false,false,false⟩:=by kernel_rfl
@[simp] theorem cz227:Program.cellsOf Tryz.prog 227=1:=by kernel_rfl
@[simp] theorem ty228:aH Tryz.prog 228=some ⟨.fn,1,8,.fn0,false,false,false⟩:=by kernel_rfl
@[simp] theorem cz228:Program.cellsOf Tryz.prog 228=1:=by kernel_rfl
@[simp] theorem ty229:aH Tryz.prog 229=some ⟨.slice 194,1,24,.sl0,false,false,false⟩:=by kernel_rfl
@[simp] theorem cz229:Program.cellsOf Tryz.prog 229=1:=by kernel_rfl
@[simp] theorem ty230:aH Tryz.prog 230=some ⟨.fn,1,8,.fn0,false,false,false⟩:=by kernel_rfl
@[simp] theorem cz230:Program.cellsOf Tryz.prog 230=1:=by kernel_rfl
@[simp] theorem ty231:aH Tryz.prog 231=some ⟨.ptr 260,1,8,.p0,true,false,false⟩:=by kernel_rfl
@[simp] theorem cz231:Program.cellsOf Tryz.prog 231=1:=by kernel_rfl
@[simp] theorem ty232:aH Tryz.prog 232=some ⟨.st [(0,3,false),(1,9,false),(2,4,false),(3,231,false),(4,231,false),(5,170,false),(6,170,false),(7,3,false)],8,104,.ag [.i .i64 0,.s [],.b false,.p0,.p0,.sl0,.sl0,.i .i64 0],false,false,false⟩:=by kernel_rfl
@[simp] theorem cz232:Program.cellsOf Tryz.prog 232=8:=by kernel_rfl
@[simp] theorem ty233:aH Tryz.prog 233=some ⟨.st [(0,3,false),(1,9,false),(2,4,false),(3,231,false),(4,231,false),(5,170,false),(6,170,false),(7,3,false)],8,104,.ag [.i .i64 0,.s [],.b false,.p0,.p0,.sl0,.sl0,.i .i64 0],false,false,false⟩:=by kernel_rfl
@[simp] theorem cz233:Program.cellsOf Tryz.prog 233=8:=by kernel_rfl
@[simp] theorem ty234:aH Tryz.prog 234=some ⟨.fn,1,8,.fn0,false,false,false⟩:=by kernel_rfl
@[simp] theorem cz234:Program.cellsOf Tryz.prog 234=1:=by kernel_rfl
@[simp] theorem ty235:aH Tryz.prog 235=some ⟨.fn,1,8,.fn0,false,false,false⟩:=by kernel_rfl
@[simp] theorem cz235:Program.cellsOf Tryz.prog 235=1:=by kernel_rfl
@[simp] theorem ty236:aH Tryz.prog 236=some ⟨.fn,1,8,.fn0,false,false,false⟩:=by kernel_rfl
@[simp] theorem cz236:Program.cellsOf Tryz.prog 236=1:=by kernel_rfl
@[simp] theorem ty237:aH Tryz.prog 237=some ⟨.fn,1,8,.fn0,false,false,false⟩:=by kernel_rfl
@[simp] theorem cz237:Program.cellsOf Tryz.prog 237=1:=by kernel_rfl
@[simp] theorem ty238:aH Tryz.prog 238=some ⟨.ptr 3,1,8,.p0,true,false,false⟩:=by kernel_rfl
@[simp] theorem cz238:Program.cellsOf Tryz.prog 238=1:=by kernel_rfl
@[simp] theorem ty239:aH Tryz.prog 239=some ⟨.fn,1,8,.fn0,false,false,false⟩:=by kernel_rfl
@[simp] theorem cz239:Program.cellsOf Tryz.prog 239=1:=by kernel_rfl
@[simp] theorem ty240:aH Tryz.prog 240=some ⟨.fn,1,8,.fn0,false,false,false⟩:=by kernel_rfl
@[simp] theorem cz240:Program.cellsOf Tryz.prog 240=1:=by kernel_rfl
@[simp] theorem ty241:aH Tryz.prog 241=some ⟨.fn,1,8,.fn0,false,false,false⟩:=by kernel_rfl
@[simp] theorem cz241:Program.cellsOf Tryz.prog 241=1:=by kernel_rfl
@[simp] theorem ty242:aH Tryz.prog 242=some ⟨.fn,1,8,.fn0,false,false,false⟩:=by kernel_rfl
@[simp] theorem cz242:Program.cellsOf Tryz.prog 242=1:=by kernel_rfl
@[simp] theorem ty243:aH Tryz.prog 243=some ⟨.fn,1,8,.fn0,false,false,false⟩:=by kernel_rfl
@[simp] theorem cz243:Program.cellsOf Tryz.prog 243=1:=by kernel_rfl
@[simp] theorem ty244:aH Tryz.prog 244=some ⟨.other,1,0,.u,false,false,false⟩:=by kernel_rfl
@[simp] theorem cz244:Program.cellsOf Tryz.prog 244=1:=by kernel_rfl
@[simp] theorem ty245:aH Tryz.prog 245=some ⟨.fn,1,8,.fn0,false,false,false⟩:=by kernel_rfl
@[simp] theorem cz245:Program.cellsOf Tryz.prog 245=1:=by kernel_rfl
@[simp] theorem ty246:aH Tryz.prog 246=some ⟨.fn,1,8,.fn0,false,false,false⟩:=by kernel_rfl
@[simp] theorem cz246:Program.cellsOf Tryz.prog 246=1:=by kernel_rfl
@[simp] theorem ty247:aH Tryz.prog 247=some ⟨.arr 256 5,256,256,.ag [.i .u8 0,.i .u8 0,.i .u8 0,.i .u8 0,.i .u8 0,.i .u8 0,.i .u8 0,.i .u8 0,.i .u8 0,.i .u8 0,.i .u8 0,.i .u8 0,.i .u8 0,.i .u8 0,.i .u8 0,.i .u8 0,.i .u8 0,.i .u8 0,.i .u8 0,.i .u8 0,.i .u8 0,.i .u8 0,.i .u8 0,.i .u8 0,.i .u8 0,.i .u8 0,.i .u8 0,.i .u8 0,.i .u8 0,.i .u8 0,.i .u8 0,.i .u8 0,.i .u8 0,.i .u8 0,.i .u8 0,.i .u8 0,.i .u8 0,.i .u8 0,.i .u8 0,.i .u8 0,.i .u8 0,.i .u8 0,.i .u8 0,.i .u8 0,.i .u8 0,.i .u8 0,.i .u8 0,.i .u8 0,.i .u8 0,.i .u8 0,.i .u8 0,.i .u8 0,.i .u8 0,.i .u8 0,.i .u8 0,.i .u8 0,.i .u8 0,.i .u8 0,.i .u8 0,.i .u8 0,.i .u8 0,.i .u8 0,.i .u8 0,.i .u8 0,.i .u8 0,.i .u8 0,.i .u8 0,.i .u8 0,.i .u8 0,.i .u8 0,.i .u8 0,.i .u8 0,.i .u8 0,.i .u8 0,.i .u8 0,.i .u8 0,.i .u8 0,.i .u8 0,.i .u8 0,.i .u8 0,.i .u8 0,.i .u8 0,.i .u8 0,.i .u8 0,.i .u8 0,.i .u8 0,.i .u8 0,.i .u8 0,.i .u8 0,.i .u8 0,.i .u8 0,.i .u8 0,.i .u8 0,.i .u8 0,.i .u8 0,.i .u8 0,.i .u8 0,.i .u8 0,.i .u8 0,.i .u8 0,.i .u8 0,.i .u8 0,.i .u8 0,.i .u8 0,.i .u8 0,.i .u8 0,.i .u8 0,.i .u8 0,.i .u8 0,.i .u8 0,.i .u8 0,.i .u8 0,.i .u8 0,.i .u8 0,.i .u8 0,.i .u8 0,.i .u8 0,.i .u8 0,.i .u8 0,.i .u8 0,.i .u8 0,.i .u8 0,.i .u8 0,.i .u8 0,.i .u8 0,.i .u8 0,.i .u8 0,.i .u8 0,.i .u8 0,.i .u8 0,.i .u8 0,.i .u8 0,.i .u8 0,.i .u8 0,.i .u8 0,.i .u8 0,.i .u8 0,.i .u8 0,.i .u8 0,.i .u8 0,.i .u8 0,.i .u8 0,.i .u8 0,.i .u8 0,.i .u8 0,.i .u8 0,.i .u8 0,.i .u8 0,.i .u8 0,.i .u8 0,.i .u8 0,.i .u8 0,.i .u8 0,.i .u8 0,.i .u8 0,.i .u8 0,.i .u8 0,.i .u8 0,.i .u8 0,.i .u8 0,.i .u8 0,.i .u8 0,.i .u8 0,.i .u8 0,.i .u8 0,.i .u8 0,.i .u8 0,.i .u8 0,.i .u8 0,.i .u8 0,.i .u8 0,.i .u8 0,.i .u8 0,.i .u8 0,.i .u8 0,.i .u8 0,.i .u8 0,.i .u8 0,.i .u8 0,.i .u8 0,.i .u8 0,.i .u8 0,.i .u8 0,.i .u8 0,.i .u8 0,.i .u8 0,.i .u8 0,.i .u8 0,.i .u8 0,.i .u8 0,.i .u8 0,.i .u8 0,.i .u8 0,.i .u8 0,.i .u8 0,.i .u8 0,.i .u8 0,.i .u8 0,.i .u8 0,.i .u8 0,.i .u8 0,.i .u8 0,.i .u8 0,.i .u8 0,.i .u8 0,.i .u8 0,.i .u8 0,.i .u8 0,.i .u8 0,.i .u8 0,.i .u8 0,.i .u8 0,.i .u8 0,.i .u8 0,.i .u8 0,.i .u8 0,.i .u8 0,.i .u8 0,.i .u8 0,.i .u8 0,.i .u8 0,.i .u8 0,.i .u8 0,.i .u8 0,.i .u8 0,.i .u8 0,.i .u8 0,.i .u8 0,.i .u8 0,.i .u8 0,.i .u8 0,.i .u8 0,.i .u8 0,.i .u8 0,.i .u8 0,.i .u8 0,.i .u8 0,.i .u8 0,.i .u8 0,.i .u8 0,.i .u8 0,.i .u8 0,.i .u8 0,.i .u8 0,.i .u8 0,.i .u8 0,.i .u8 0,.i .u8 0,.i .u8 0,.i .u8 0,.i .u8 0,.i .u8 0,.i .u8 0,.i .u8 0,.i .u8 0,.i .u8 0],true,false,false⟩:=by kernel_rfl
@[simp] theorem cz247:Program.cellsOf Tryz.prog 247=256:=by kernel_rfl
@[simp] theorem ty248:aH Tryz.prog 248=some ⟨.fn,1,8,.fn0,false,false,false⟩:=by kernel_rfl
@[simp] theorem cz248:Program.cellsOf Tryz.prog 248=1:=by kernel_rfl
@[simp] theorem ty249:aH Tryz.prog 249=some ⟨.fn,1,8,.fn0,false,false,false⟩:=by kernel_rfl
@[simp] theorem cz249:Program.cellsOf Tryz.prog 249=1:=by kernel_rfl
@[simp] theorem ty250:aH Tryz.prog 250=some ⟨.int .i64,1,8,.i .i64 0,true,false,false⟩:=by kernel_rfl
@[simp] theorem cz250:Program.cellsOf Tryz.prog 250=1:=by kernel_rfl
@[simp] theorem ty251:aH Tryz.prog 251=some ⟨.fn,1,8,.fn0,false,false,false⟩:=by kernel_rfl
@[simp] theorem cz251:Program.cellsOf Tryz.prog 251=1:=by kernel_rfl
@[simp] theorem ty252:aH Tryz.prog 252=some ⟨.ptr 275,1,8,.p0,true,false,false⟩:=by kernel_rfl
@[simp] theorem cz252:Program.cellsOf Tryz.prog 252=1:=by kernel_rfl
@[simp] theorem ty253:aH Tryz.prog 253=some ⟨.fn,1,8,.fn0,false,false,false⟩:=by kernel_rfl
@[simp] theorem cz253:Program.cellsOf Tryz.prog 253=1:=by kernel_rfl
@[simp] theorem ty254:aH Tryz.prog 254=some ⟨.fn,1,8,.fn0,false,false,false⟩:=by kernel_rfl
@[simp] theorem cz254:Program.cellsOf Tryz.prog 254=1:=by kernel_rfl
@[simp] theorem ty255:aH Tryz.prog 255=some ⟨.fn,1,8,.fn0,false,false,false⟩:=by kernel_rfl
@[simp] theorem cz255:Program.cellsOf Tryz.prog 255=1:=by kernel_rfl
@[simp] theorem ty256:aH Tryz.prog 256=some ⟨.fn,1,8,.fn0,false,false,false⟩:=by kernel_rfl
@[simp] theorem cz256:Program.cellsOf Tryz.prog 256=1:=by kernel_rfl
@[simp] theorem ty257:aH Tryz.prog 257=some ⟨.fn,1,8,.fn0,false,false,false⟩:=by kernel_rfl
@[simp] theorem cz257:Program.cellsOf Tryz.prog 257=1:=by kernel_rfl
@[simp] theorem ty258:aH Tryz.prog 258=some ⟨.slice 231,1,24,.sl0,false,false,false⟩:=by kernel_rfl
@[simp] theorem cz258:Program.cellsOf Tryz.prog 258=1:=by kernel_rfl
@[simp] theorem ty259:aH Tryz.prog 259=some ⟨.st [(0,3,false),(1,59,false),(2,9,false),(3,9,false),(4,231,false),(5,231,false),(6,258,false),(7,3,false)],8,96,.ag [.i .i64 0,.i .u32 0,.s [],.s [],.p0,.p0,.sl0,.i .i64 0],false,false,false⟩:=by kernel_rfl
@[simp] theorem cz259:Program.cellsOf Tryz.prog 259=8:=by kernel_rfl
@[simp] theorem ty260:aH Tryz.prog 260=some ⟨.st [(0,3,false),(1,59,false),(2,9,false),(3,9,false),(4,231,false),(5,231,false),(6,258,false),(7,3,false)],8,96,.ag [.i .i64 0,.i .u32 0,.s [],.s [],.p0,.p0,.sl0,.i .i64 0],false,false,false⟩:=by kernel_rfl
@[simp] theorem cz260:Program.cellsOf Tryz.prog 260=8:=by kernel_rfl
@[simp] theorem ty261:aH Tryz.prog 261=some ⟨.fn,1,8,.fn0,false,false,false⟩:=by kernel_rfl
@[simp] theorem cz261:Program.cellsOf Tryz.prog 261=1:=by kernel_rfl
@[simp] theorem ty262:aH Tryz.prog 262=some ⟨.fn,1,8,.fn0,false,false,false⟩:=by kernel_rfl
@[simp] theorem cz262:Program.cellsOf Tryz.prog 262=1:=by kernel_rfl
@[simp] theorem ty263:aH Tryz.prog 263=some ⟨.fn,1,8,.fn0,false,false,false⟩:=by kernel_rfl
@[simp] theorem cz263:Program.cellsOf Tryz.prog 263=1:=by kernel_rfl
@[simp] theorem ty264:aH Tryz.prog 264=some ⟨.fn,1,8,.fn0,false,false,false⟩:=by kernel_rfl
@[simp] theorem cz264:Program.cellsOf Tryz.prog 264=1:=by kernel_rfl
@[simp] theorem ty265:aH Tryz.prog 265=some ⟨.st [(0,9,false),(1,9,false)],2,32,.ag [.s [],.s []],true,false,false⟩:=by kernel_rfl
@[simp] theorem cz265:Program.cellsOf Tryz.prog 265=2:=by kernel_rfl
@[simp] theorem ty266:aH Tryz.prog 266=some ⟨.st [(0,9,false),(1,9,false)],2,32,.ag [.s [],.s []],true,false,false⟩:=by kernel_rfl
@[simp] theorem cz266:Program.cellsOf Tryz.prog 266=2:=by kernel_rfl
@[simp] theorem ty267:aH Tryz.prog 267=some ⟨.fn,1,8,.fn0,false,false,false⟩:=by kernel_rfl
@[simp] theorem cz267:Program.cellsOf Tryz.prog 267=1:=by kernel_rfl
@[simp] theorem ty268:aH Tryz.prog 268=some ⟨.slice 270,1,24,.sl0,false,false,false⟩:=by kernel_rfl
@[simp] theorem cz268:Program.cellsOf Tryz.prog 268=1:=by kernel_rfl
@[simp] theorem ty269:aH Tryz.prog 269=some ⟨.st [(0,3,false),(1,3,false)],2,16,.ag [.i .i64 0,.i .i64 0],true,false,false⟩:=by kernel_rfl
@[simp] theorem cz269:Program.cellsOf Tryz.prog 269=2:=by kernel_rfl
@[simp] theorem ty270:aH Tryz.prog 270=some ⟨.st [(0,3,false),(1,3,false)],2,16,.ag [.i .i64 0,.i .i64 0],true,false,false⟩:=by kernel_rfl
@[simp] theorem cz270:Program.cellsOf Tryz.prog 270=2:=by kernel_rfl
@[simp] theorem ty271:aH Tryz.prog 271=some ⟨.fn,1,8,.fn0,false,false,false⟩:=by kernel_rfl
@[simp] theorem cz271:Program.cellsOf Tryz.prog 271=1:=by kernel_rfl
@[simp] theorem ty272:aH Tryz.prog 272=some ⟨.ptr 288,1,8,.p0,true,false,false⟩:=by kernel_rfl
@[simp] theorem cz272:Program.cellsOf Tryz.prog 272=1:=by kernel_rfl
@[simp] theorem ty273:aH Tryz.prog 273=some ⟨.fn,1,8,.fn0,false,false,false⟩:=by kernel_rfl
@[simp] theorem cz273:Program.cellsOf Tryz.prog 273=1:=by kernel_rfl
@[simp] theorem ty274:aH Tryz.prog 274=some ⟨.st [(0,9,false),(1,9,false),(2,24,false)],3,48,.ag [.s [],.s [],.fK],true,false,true⟩:=by kernel_rfl
@[simp] theorem cz274:Program.cellsOf Tryz.prog 274=3:=by kernel_rfl
@[simp] theorem ty275:aH Tryz.prog 275=some ⟨.st [(0,9,false),(1,9,false),(2,24,false)],3,48,.ag [.s [],.s [],.fK],true,false,true⟩:=by kernel_rfl
@[simp] theorem cz275:Program.cellsOf Tryz.prog 275=3:=by kernel_rfl
@[simp] theorem ty276:aH Tryz.prog 276=some ⟨.fn,1,8,.fn0,false,false,false⟩:=by kernel_rfl
@[simp] theorem cz276:Program.cellsOf Tryz.prog 276=1:=by kernel_rfl
@[simp] theorem ty277:aH Tryz.prog 277=some ⟨.fn,1,8,.fn0,false,false,false⟩:=by kernel_rfl
@[simp] theorem cz277:Program.cellsOf Tryz.prog 277=1:=by kernel_rfl
@[simp] theorem ty278:aH Tryz.prog 278=some ⟨.fn,1,8,.fn0,false,false,false⟩:=by kernel_rfl
@[simp] theorem cz278:Program.cellsOf Tryz.prog 278=1:=by kernel_rfl
@[simp] theorem ty279:aH Tryz.prog 279=some ⟨.fn,1,8,.fn0,false,false,false⟩:=by kernel_rfl
@[simp] theorem cz279:Program.cellsOf Tryz.prog 279=1:=by kernel_rfl
@[simp] theorem ty280:aH Tryz.prog 280=some ⟨.fn,1,8,.fn0,false,false,false⟩:=by kernel_rfl
@[simp] theorem cz280:Program.cellsOf Tryz.prog 280=1:=by kernel_rfl
@[simp] theorem ty281:aH Tryz.prog 281=some ⟨.fn,1,8,.fn0,false,false,false⟩:=by kernel_rfl
@[simp] theorem cz281:Program.cellsOf Tryz.prog 281=1:=by kernel_rfl
@[simp] theorem ty282:aH Tryz.prog 282=some ⟨.fn,1,8,.fn0,false,false,false⟩:=by kernel_rfl
@[simp] theorem cz282:Program.cellsOf Tryz.prog 282=1:=by kernel_rfl
@[simp] theorem ty283:aH Tryz.prog 283=some ⟨.other,1,0,.u,false,false,false⟩:=by kernel_rfl
@[simp] theorem cz283:Program.cellsOf Tryz.prog 283=1:=by kernel_rfl
@[simp] theorem ty284:aH Tryz.prog 284=some ⟨.arr 54 266,108,1728,.ag [.s [],.s [],.s [],.s [],.s [],.s [],.s [],.s [],.s [],.s [],.s [],.s [],.s [],.s [],.s [],.s [],.s [],.s [],.s [],.s [],.s [],.s [],.s [],.s [],.s [],.s [],.s [],.s [],.s [],.s [],.s [],.s [],.s [],.s [],.s [],.s [],.s [],.s [],.s [],.s [],.s [],.s [],.s [],.s [],.s [],.s [],.s [],.s [],.s [],.s [],.s [],.s [],.s [],.s [],.s [],.s [],.s [],.s [],.s [],.s [],.s [],.s [],.s [],.s [],.s [],.s [],.s [],.s [],.s [],.s [],.s [],.s [],.s [],.s [],.s [],.s [],.s [],.s [],.s [],.s [],.s [],.s [],.s [],.s [],.s [],.s [],.s [],.s [],.s [],.s [],.s [],.s [],.s [],.s [],.s [],.s [],.s [],.s [],.s [],.s [],.s [],.s [],.s [],.s [],.s [],.s [],.s [],.s []],true,false,false⟩:=by kernel_rfl
@[simp] theorem cz284:Program.cellsOf Tryz.prog 284=108:=by kernel_rfl
@[simp] theorem ty285:aH Tryz.prog 285=some ⟨.slice 290,1,24,.sl0,false,false,false⟩:=by kernel_rfl
@[simp] theorem cz285:Program.cellsOf Tryz.prog 285=1:=by kernel_rfl
@[simp] theorem ty286:aH Tryz.prog 286=some ⟨.slice 293,1,24,.sl0,false,false,false⟩:=by kernel_rfl
@[simp] theorem cz286:Program.cellsOf Tryz.prog 286=1:=by kernel_rfl
@[simp] theorem ty287:aH Tryz.prog 287=some ⟨.st [(0,285,false),(1,286,false),(2,3,false)],3,56,.ag [.sl0,.sl0,.i .i64 0],false,false,false⟩:=by kernel_rfl
@[simp] theorem cz287:Program.cellsOf Tryz.prog 287=3:=by kernel_rfl
@[simp] theorem ty288:aH Tryz.prog 288=some ⟨.st [(0,285,false),(1,286,false),(2,3,false)],3,56,.ag [.sl0,.sl0,.i .i64 0],false,false,false⟩:=by kernel_rfl
@[simp] theorem cz288:Program.cellsOf Tryz.prog 288=3:=by kernel_rfl
@[simp] theorem ty289:aH Tryz.prog 289=some ⟨.st [(0,97,false),(1,97,false),(2,97,false)],3,6,.ag [.i .u16 0,.i .u16 0,.i .u16 0],true,false,false⟩:=by kernel_rfl
@[simp] theorem cz289:Program.cellsOf Tryz.prog 289=3:=by kernel_rfl
@[simp] theorem ty290:aH Tryz.prog 290=some ⟨.st [(0,97,false),(1,97,false),(2,97,false)],3,6,.ag [.i .u16 0,.i .u16 0,.i .u16 0],true,false,false⟩:=by kernel_rfl
@[simp] theorem cz290:Program.cellsOf Tryz.prog 290=3:=by kernel_rfl
@[simp] theorem ty291:aH Tryz.prog 291=some ⟨.fn,1,8,.fn0,false,false,false⟩:=by kernel_rfl
@[simp] theorem cz291:Program.cellsOf Tryz.prog 291=1:=by kernel_rfl
@[simp] theorem ty292:aH Tryz.prog 292=some ⟨.st [(0,59,false),(1,59,false),(2,59,false)],3,12,.ag [.i .u32 0,.i .u32 0,.i .u32 0],true,false,false⟩:=by kernel_rfl
@[simp] theorem cz292:Program.cellsOf Tryz.prog 292=3:=by kernel_rfl
@[simp] theorem ty293:aH Tryz.prog 293=some ⟨.st [(0,59,false),(1,59,false),(2,59,false)],3,12,.ag [.i .u32 0,.i .u32 0,.i .u32 0],true,false,false⟩:=by kernel_rfl
@[simp] theorem cz293:Program.cellsOf Tryz.prog 293=3:=by kernel_rfl
@[simp] theorem ty294:aH Tryz.prog 294=some ⟨.fn,1,8,.fn0,false,false,false⟩:=by kernel_rfl
@[simp] theorem cz294:Program.cellsOf Tryz.prog 294=1:=by kernel_rfl
@[simp] theorem ty295:aH Tryz.prog 295=some ⟨.ptr 5,1,8,.p0,true,false,false⟩:=by kernel_rfl
@[simp] theorem cz295:Program.cellsOf Tryz.prog 295=1:=by kernel_rfl
@[simp] theorem ty296:aH Tryz.prog 296=some ⟨.ptr 298,1,8,.p0,true,false,false⟩:=by kernel_rfl
@[simp] theorem cz296:Program.cellsOf Tryz.prog 296=1:=by kernel_rfl
@[simp] theorem ty297:aH Tryz.prog 297=some ⟨.st [(0,9,false)],1,16,.ag [.s []],true,false,false⟩:=by kernel_rfl
@[simp] theorem cz297:Program.cellsOf Tryz.prog 297=1:=by kernel_rfl
@[simp] theorem ty298:aH Tryz.prog 298=some ⟨.st [(0,9,false)],1,16,.ag [.s []],true,false,false⟩:=by kernel_rfl
@[simp] theorem cz298:Program.cellsOf Tryz.prog 298=1:=by kernel_rfl
@[simp] theorem ty299:aH Tryz.prog 299=some ⟨.other,1,0,.u,false,false,false⟩:=by kernel_rfl
@[simp] theorem cz299:Program.cellsOf Tryz.prog 299=1:=by kernel_rfl
@[simp] theorem ty300:aH Tryz.prog 300=some ⟨.fn,1,8,.fn0,false,false,false⟩:=by kernel_rfl
@[simp] theorem cz300:Program.cellsOf Tryz.prog 300=1:=by kernel_rfl
@[simp] theorem ty301:aH Tryz.prog 301=some ⟨.fn,1,8,.fn0,false,false,false⟩:=by kernel_rfl
@[simp] theorem cz301:Program.cellsOf Tryz.prog 301=1:=by kernel_rfl
@[simp] theorem ty302:aH Tryz.prog 302=some ⟨.fn,1,8,.fn0,false,false,false⟩:=by kernel_rfl
@[simp] theorem cz302:Program.cellsOf Tryz.prog 302=1:=by kernel_rfl
@[simp] theorem ty303:aH Tryz.prog 303=some ⟨.ptr 290,1,8,.p0,true,false,false⟩:=by kernel_rfl
@[simp] theorem cz303:Program.cellsOf Tryz.prog 303=1:=by kernel_rfl
@[simp] theorem ty304:aH Tryz.prog 304=some ⟨.ptr 293,1,8,.p0,true,false,false⟩:=by kernel_rfl
@[simp] theorem cz304:Program.cellsOf Tryz.prog 304=1:=by kernel_rfl
@[simp] theorem ty305:aH Tryz.prog 305=some ⟨.fn,1,8,.fn0,false,false,false⟩:=by kernel_rfl
@[simp] theorem cz305:Program.cellsOf Tryz.prog 305=1:=by kernel_rfl
@[simp] theorem ty306:aH Tryz.prog 306=some ⟨.arr 24 5,24,24,.ag [.i .u8 0,.i .u8 0,.i .u8 0,.i .u8 0,.i .u8 0,.i .u8 0,.i .u8 0,.i .u8 0,.i .u8 0,.i .u8 0,.i .u8 0,.i .u8 0,.i .u8 0,.i .u8 0,.i .u8 0,.i .u8 0,.i .u8 0,.i .u8 0,.i .u8 0,.i .u8 0,.i .u8 0,.i .u8 0,.i .u8 0,.i .u8 0],true,false,false⟩:=by kernel_rfl
@[simp] theorem cz306:Program.cellsOf Tryz.prog 306=24:=by kernel_rfl
@[simp] theorem ty307:aH Tryz.prog 307=some ⟨.fn,1,8,.fn0,false,false,false⟩:=by kernel_rfl
@[simp] theorem cz307:Program.cellsOf Tryz.prog 307=1:=by kernel_rfl
@[simp] theorem ty308:aH Tryz.prog 308=some ⟨.fn,1,8,.fn0,false,false,false⟩:=by kernel_rfl
@[simp] theorem cz308:Program.cellsOf Tryz.prog 308=1:=by kernel_rfl
@[simp] theorem ty309:aH Tryz.prog 309=some ⟨.other,1,0,.u,false,false,false⟩:=by kernel_rfl
@[simp] theorem cz309:Program.cellsOf Tryz.prog 309=1:=by kernel_rfl
@[simp] theorem ty310:aH Tryz.prog 310=some ⟨.fn,1,8,.fn0,false,false,false⟩:=by kernel_rfl
@[simp] theorem cz310:Program.cellsOf Tryz.prog 310=1:=by kernel_rfl
@[simp] theorem ty311:aH Tryz.prog 311=some ⟨.fn,1,8,.fn0,false,false,false⟩:=by kernel_rfl
@[simp] theorem cz311:Program.cellsOf Tryz.prog 311=1:=by kernel_rfl
@[simp] theorem ty312:aH Tryz.prog 312=some ⟨.arr 20 165,20,160,.ag [.i .u64 0,.i .u64 0,.i .u64 0,.i .u64 0,.i .u64 0,.i .u64 0,.i .u64 0,.i .u64 0,.i .u64 0,.i .u64 0,.i .u64 0,.i .u64 0,.i .u64 0,.i .u64 0,.i .u64 0,.i .u64 0,.i .u64 0,.i .u64 0,.i .u64 0,.i .u64 0],true,false,false⟩:=by kernel_rfl
@[simp] theorem cz312:Program.cellsOf Tryz.prog 312=20:=by kernel_rfl
@[simp] theorem ty313:aH Tryz.prog 313=some ⟨.arr 65 5,65,65,.ag [.i .u8 0,.i .u8 0,.i .u8 0,.i .u8 0,.i .u8 0,.i .u8 0,.i .u8 0,.i .u8 0,.i .u8 0,.i .u8 0,.i .u8 0,.i .u8 0,.i .u8 0,.i .u8 0,.i .u8 0,.i .u8 0,.i .u8 0,.i .u8 0,.i .u8 0,.i .u8 0,.i .u8 0,.i .u8 0,.i .u8 0,.i .u8 0,.i .u8 0,.i .u8 0,.i .u8 0,.i .u8 0,.i .u8 0,.i .u8 0,.i .u8 0,.i .u8 0,.i .u8 0,.i .u8 0,.i .u8 0,.i .u8 0,.i .u8 0,.i .u8 0,.i .u8 0,.i .u8 0,.i .u8 0,.i .u8 0,.i .u8 0,.i .u8 0,.i .u8 0,.i .u8 0,.i .u8 0,.i .u8 0,.i .u8 0,.i .u8 0,.i .u8 0,.i .u8 0,.i .u8 0,.i .u8 0,.i .u8 0,.i .u8 0,.i .u8 0,.i .u8 0,.i .u8 0,.i .u8 0,.i .u8 0,.i .u8 0,.i .u8 0,.i .u8 0,.i .u8 0],true,false,false⟩:=by kernel_rfl
@[simp] theorem cz313:Program.cellsOf Tryz.prog 313=65:=by kernel_rfl
@[simp] theorem ty314:aH Tryz.prog 314=some ⟨.fn,1,8,.fn0,false,false,false⟩:=by kernel_rfl
@[simp] theorem cz314:Program.cellsOf Tryz.prog 314=1:=by kernel_rfl
@[simp] theorem ty315:aH Tryz.prog 315=some ⟨.fn,1,8,.fn0,false,false,false⟩:=by kernel_rfl
@[simp] theorem cz315:Program.cellsOf Tryz.prog 315=1:=by kernel_rfl
@[simp] theorem ty316:aH Tryz.prog 316=some ⟨.fn,1,8,.fn0,false,false,false⟩:=by kernel_rfl
@[simp] theorem cz316:Program.cellsOf Tryz.prog 316=1:=by kernel_rfl
@[simp] theorem ty317:aH Tryz.prog 317=some ⟨.fn,1,8,.fn0,false,false,false⟩:=by kernel_rfl
@[simp] theorem cz317:Program.cellsOf Tryz.prog 317=1:=by kernel_rfl
@[simp] theorem ty318:aH Tryz.prog 318=some ⟨.arr 256 4,256,256,.ag [.b false,.b false,.b false,.b false,.b false,.b false,.b false,.b false,.b false,.b false,.b false,.b false,.b false,.b false,.b false,.b false,.b false,.b false,.b false,.b false,.b false,.b false,.b false,.b false,.b false,.b false,.b false,.b false,.b false,.b false,.b false,.b false,.b false,.b false,.b false,.b false,.b false,.b false,.b false,.b false,.b false,.b false,.b false,.b false,.b false,.b false,.b false,.b false,.b false,.b false,.b false,.b false,.b false,.b false,.b false,.b false,.b false,.b false,.b false,.b false,.b false,.b false,.b false,.b false,.b false,.b false,.b false,.b false,.b false,.b false,.b false,.b false,.b false,.b false,.b false,.b false,.b false,.b false,.b false,.b false,.b false,.b false,.b false,.b false,.b false,.b false,.b false,.b false,.b false,.b false,.b false,.b false,.b false,.b false,.b false,.b false,.b false,.b false,.b false,.b false,.b false,.b false,.b false,.b false,.b false,.b false,.b false,.b false,.b false,.b false,.b false,.b false,.b false,.b false,.b false,.b false,.b false,.b false,.b false,.b false,.b false,.b false,.b false,.b false,.b false,.b false,.b false,.b false,.b false,.b false,.b false,.b false,.b false,.b false,.b false,.b false,.b false,.b false,.b false,.b false,.b false,.b false,.b false,.b false,.b false,.b false,.b false,.b false,.b false,.b false,.b false,.b false,.b false,.b false,.b false,.b false,.b false,.b false,.b false,.b false,.b false,.b false,.b false,.b false,.b false,.b false,.b false,.b false,.b false,.b false,.b false,.b false,.b false,.b false,.b false,.b false,.b false,.b false,.b false,.b false,.b false,.b false,.b false,.b false,.b false,.b false,.b false,.b false,.b false,.b false,.b false,.b false,.b false,.b false,.b false,.b false,.b false,.b false,.b false,.b false,.b false,.b false,.b false,.b false,.b false,.b false,.b false,.b false,.b false,.b false,.b false,.b false,.b false,.b false,.b false,.b false,.b false,.b false,.b false,.b false,.b false,.b false,.b false,.b false,.b false,.b false,.b false,.b false,.b false,.b false,.b false,.b false,.b false,.b false,.b false,.b false,.b false,.b false,.b false,.b false,.b false,.b false,.b false,.b false,.b false,.b false,.b false,.b false,.b false,.b false,.b false,.b false,.b false,.b false,.b false,.b false],true,false,false⟩:=by kernel_rfl
@[simp] theorem cz318:Program.cellsOf Tryz.prog 318=256:=by kernel_rfl
@[simp] theorem ty319:aH Tryz.prog 319=some ⟨.arr 256 4,256,256,.ag [.b false,.b false,.b false,.b false,.b false,.b false,.b false,.b false,.b false,.b false,.b false,.b false,.b false,.b false,.b false,.b false,.b false,.b false,.b false,.b false,.b false,.b false,.b false,.b false,.b false,.b false,.b false,.b false,.b false,.b false,.b false,.b false,.b false,.b false,.b false,.b false,.b false,.b false,.b false,.b false,.b false,.b false,.b false,.b false,.b false,.b false,.b false,.b false,.b false,.b false,.b false,.b false,.b false,.b false,.b false,.b false,.b false,.b false,.b false,.b false,.b false,.b false,.b false,.b false,.b false,.b false,.b false,.b false,.b false,.b false,.b false,.b false,.b false,.b false,.b false,.b false,.b false,.b false,.b false,.b false,.b false,.b false,.b false,.b false,.b false,.b false,.b false,.b false,.b false,.b false,.b false,.b false,.b false,.b false,.b false,.b false,.b false,.b false,.b false,.b false,.b false,.b false,.b false,.b false,.b false,.b false,.b false,.b false,.b false,.b false,.b false,.b false,.b false,.b false,.b false,.b false,.b false,.b false,.b false,.b false,.b false,.b false,.b false,.b false,.b false,.b false,.b false,.b false,.b false,.b false,.b false,.b false,.b false,.b false,.b false,.b false,.b false,.b false,.b false,.b false,.b false,.b false,.b false,.b false,.b false,.b false,.b false,.b false,.b false,.b false,.b false,.b false,.b false,.b false,.b false,.b false,.b false,.b false,.b false,.b false,.b false,.b false,.b false,.b false,.b false,.b false,.b false,.b false,.b false,.b false,.b false,.b false,.b false,.b false,.b false,.b false,.b false,.b false,.b false,.b false,.b false,.b false,.b false,.b false,.b false,.b false,.b false,.b false,.b false,.b false,.b false,.b false,.b false,.b false,.b false,.b false,.b false,.b false,.b false,.b false,.b false,.b false,.b false,.b false,.b false,.b false,.b false,.b false,.b false,.b false,.b false,.b false,.b false,.b false,.b false,.b false,.b false,.b false,.b false,.b false,.b false,.b false,.b false,.b false,.b false,.b false,.b false,.b false,.b false,.b false,.b false,.b false,.b false,.b false,.b false,.b false,.b false,.b false,.b false,.b false,.b false,.b false,.b false,.b false,.b false,.b false,.b false,.b false,.b false,.b false,.b false,.b false,.b false,.b false,.b false,.b false],true,false,false⟩:=by kernel_rfl
@[simp] theorem cz319:Program.cellsOf Tryz.prog 319=256:=by kernel_rfl
@[simp] theorem ty320:aH Tryz.prog 320=some ⟨.other,1,0,.u,false,false,false⟩:=by kernel_rfl
@[simp] theorem cz320:Program.cellsOf Tryz.prog 320=1:=by kernel_rfl
@[simp] theorem ty321:aH Tryz.prog 321=some ⟨.fn,1,8,.fn0,false,false,false⟩:=by kernel_rfl
@[simp] theorem cz321:Program.cellsOf Tryz.prog 321=1:=by kernel_rfl
@[simp] theorem ty322:aH Tryz.prog 322=some ⟨.fn,1,8,.fn0,false,false,false⟩:=by kernel_rfl
@[simp] theorem cz322:Program.cellsOf Tryz.prog 322=1:=by kernel_rfl
@[simp] theorem ty323:aH Tryz.prog 323=some ⟨.arr 32 5,32,32,.ag [.i .u8 0,.i .u8 0,.i .u8 0,.i .u8 0,.i .u8 0,.i .u8 0,.i .u8 0,.i .u8 0,.i .u8 0,.i .u8 0,.i .u8 0,.i .u8 0,.i .u8 0,.i .u8 0,.i .u8 0,.i .u8 0,.i .u8 0,.i .u8 0,.i .u8 0,.i .u8 0,.i .u8 0,.i .u8 0,.i .u8 0,.i .u8 0,.i .u8 0,.i .u8 0,.i .u8 0,.i .u8 0,.i .u8 0,.i .u8 0,.i .u8 0,.i .u8 0],true,false,false⟩:=by kernel_rfl
@[simp] theorem cz323:Program.cellsOf Tryz.prog 323=32:=by kernel_rfl
@[simp] theorem ty324:aH Tryz.prog 324=some ⟨.arr 64 5,64,64,.ag [.i .u8 0,.i .u8 0,.i .u8 0,.i .u8 0,.i .u8 0,.i .u8 0,.i .u8 0,.i .u8 0,.i .u8 0,.i .u8 0,.i .u8 0,.i .u8 0,.i .u8 0,.i .u8 0,.i .u8 0,.i .u8 0,.i .u8 0,.i .u8 0,.i .u8 0,.i .u8 0,.i .u8 0,.i .u8 0,.i .u8 0,.i .u8 0,.i .u8 0,.i .u8 0,.i .u8 0,.i .u8 0,.i .u8 0,.i .u8 0,.i .u8 0,.i .u8 0,.i .u8 0,.i .u8 0,.i .u8 0,.i .u8 0,.i .u8 0,.i .u8 0,.i .u8 0,.i .u8 0,.i .u8 0,.i .u8 0,.i .u8 0,.i .u8 0,.i .u8 0,.i .u8 0,.i .u8 0,.i .u8 0,.i .u8 0,.i .u8 0,.i .u8 0,.i .u8 0,.i .u8 0,.i .u8 0,.i .u8 0,.i .u8 0,.i .u8 0,.i .u8 0,.i .u8 0,.i .u8 0,.i .u8 0,.i .u8 0,.i .u8 0,.i .u8 0],true,false,false⟩:=by kernel_rfl
@[simp] theorem cz324:Program.cellsOf Tryz.prog 324=64:=by kernel_rfl
@[simp] theorem ty325:aH Tryz.prog 325=some ⟨.ptr 319,1,8,.p0,true,false,false⟩:=by kernel_rfl
@[simp] theorem cz325:Program.cellsOf Tryz.prog 325=1:=by kernel_rfl
@[simp] theorem ty326:aH Tryz.prog 326=some ⟨.fn,1,8,.fn0,false,false,false⟩:=by kernel_rfl
@[simp] theorem cz326:Program.cellsOf Tryz.prog 326=1:=by kernel_rfl
@[simp] theorem ty329:aH Tryz.prog 329=some ⟨.arr 0 16,0,0,.ag [],true,false,false⟩:=by kernel_rfl
@[simp] theorem cz329:Program.cellsOf Tryz.prog 329=0:=by kernel_rfl
@[simp] theorem ty332:aH Tryz.prog 332=some ⟨.fn,1,8,.fn0,false,false,false⟩:=by kernel_rfl
@[simp] theorem cz332:Program.cellsOf Tryz.prog 332=1:=by kernel_rfl
@[simp] theorem ty333:aH Tryz.prog 333=some ⟨.int .u8,1,1,.i .u8 0,true,false,false⟩:=by kernel_rfl
@[simp] theorem cz333:Program.cellsOf Tryz.prog 333=1:=by kernel_rfl
@[simp] theorem ty334:aH Tryz.prog 334=some ⟨.fn,1,8,.fn0,false,false,false⟩:=by kernel_rfl
@[simp] theorem cz334:Program.cellsOf Tryz.prog 334=1:=by kernel_rfl
@[simp] theorem ty335:aH Tryz.prog 335=some ⟨.int .i32,1,4,.i .i32 0,true,false,false⟩:=by kernel_rfl
@[simp] theorem cz335:Program.cellsOf Tryz.prog 335=1:=by kernel_rfl
@[simp] theorem ty336:aH Tryz.prog 336=some ⟨.int .i32,1,4,.i .i32 0,true,false,false⟩:=by kernel_rfl
@[simp] theorem cz336:Program.cellsOf Tryz.prog 336=1:=by kernel_rfl
@[simp] theorem ty339:aH Tryz.prog 339=some ⟨.fn,1,8,.fn0,false,false,false⟩:=by kernel_rfl
@[simp] theorem cz339:Program.cellsOf Tryz.prog 339=1:=by kernel_rfl
@[simp] theorem ty340:aH Tryz.prog 340=some ⟨.fn,1,8,.fn0,false,false,false⟩:=by kernel_rfl
@[simp] theorem cz340:Program.cellsOf Tryz.prog 340=1:=by kernel_rfl
@[simp] theorem ty343:aH Tryz.prog 343=some ⟨.ptr 346,1,8,.p0,true,false,false⟩:=by kernel_rfl
@[simp] theorem cz343:Program.cellsOf Tryz.prog 343=1:=by kernel_rfl
@[simp] theorem ty344:aH Tryz.prog 344=some ⟨.fn,1,8,.fn0,false,false,false⟩:=by kernel_rfl
@[simp] theorem cz344:Program.cellsOf Tryz.prog 344=1:=by kernel_rfl
@[simp] theorem ty347:aH Tryz.prog 347=some ⟨.slice 350,1,24,.sl0,false,false,false⟩:=by kernel_rfl
@[simp] theorem cz347:Program.cellsOf Tryz.prog 347=1:=by kernel_rfl
@[simp] theorem ty348:aH Tryz.prog 348=some ⟨.int .i32,1,4,.i .i32 0,true,false,false⟩:=by kernel_rfl
@[simp] theorem cz348:Program.cellsOf Tryz.prog 348=1:=by kernel_rfl
@[simp] theorem ty351:aH Tryz.prog 351=some ⟨.ptr 24,1,8,.p0,true,false,false⟩:=by kernel_rfl
@[simp] theorem cz351:Program.cellsOf Tryz.prog 351=1:=by kernel_rfl
end Go.dX.YthggaoedidfpcaaGreatDoor
namespace Go.dX
open Go.RowKit
section
variable {P:Program} {G:Nat} {μ μ':Mu} {σ σ':St} {w w':World}
theorem Does.sW {f:Nat} {bg:Array Value} {R:Ending→World→Prop} (he:Enters P f)(h:Calls P f bg w R):Does P f bg w R:=.inl ⟨he bg w,h⟩
theorem Does.Jk {f:Nat} {bg:Array Value} {R:Ending→World→Prop} {v:Value} (h:(callFunc f bg).run P w= .ok (.value v) w')(hr:R (.returned v) w'):Does P f bg w R:=.inr ⟨v,w',h,hr⟩
theorem qP (h:Below w.heap.size w w'):jH w w':=by
 intro b e m hs
 have hb:b<w.heap.size:=by
  rcases Nat.lt_or_ge b w.heap.size with hl | hl
  ·exact hl
  ·simp [World.shape?,Array.getElem?_eq_none hl] at hs
 unfold World.shape? at hs ⊢
 rw [h.block b hb];exact hs
theorem Step.of_below (hs:gQ G μ σ w)(h:Below w.heap.size w w'):Step G μ σ w μ σ w':=
 ⟨⟨fun o a ho hl=>by
  obtain⟨b,δ,h1,h2⟩:=hs.obj o a ho hl
  exact⟨b,δ,h1,rV.mono (Mu.le_refl μ) (qP h) (h.block b (hs.blk o _ b δ h1)) h2⟩,hs.inj,hs.dom,fun o g b δ q=>Nat.lt_of_lt_of_le (hs.blk o g b δ q) h.size,hs.qI,hs.low,fun g e cs hg ho=>qP h _ _ _ (hs.full g e cs hg ho)⟩,
   Mu.le_refl μ,qP h,h.os,h.tape,h.output,h.size,fun b hb _=>h.block b hb,fun o a b δ h1 h2 h3 h4 _=>⟨o,a,δ,h1,h2,h3,h4⟩,fun o a b δ h1 h3 h4 _=>⟨o,a,δ,h1,h3,h4⟩⟩
theorem Step.below (h:Step G μ σ w μ' σ' w')(hro:∀(o:Nat) a,σ[o]? =some a→a.ro=false→a.k.live=true→False):Below w.heap.size w w':=
 ⟨h.os,h.tape,h.output,h.size,fun b hb=>h.frame b hb fun o a δ h1 h2 h3 _=>hro o a h1 h2 h3⟩
theorem qp {a:AV} {c:Array Value} (h:aY μ w [a] c.toList):∃v,c= #[v]∧aV μ w a v:=by
 obtain⟨v,vs,h1,h2,h3⟩:=h
 simp only [aY] at h3
 subst h3
 exact⟨v,Array.ext' h1,h2⟩
theorem yG {a b:AV} {c:Array Value} (h:aY μ w [a,b] c.toList):∃v u,c= #[v,u]∧aV μ w a v∧aV μ w b u:=by
 obtain⟨v,vs,h1,h2,u,us,h3,h4,h5⟩:=h
 simp only [aY] at h5
 subst h5;subst h3
 exact⟨v,u,Array.ext' h1,h2,h4⟩
theorem Jl {a b d:AV} {c:Array Value} (h:aY μ w [a,b,d] c.toList):∃v u t,c= #[v,u,t]∧aV μ w a v∧aV μ w b u∧aV μ w d t:=by
 obtain⟨v,vs,h1,h2,u,us,h3,h4,t,ts,h5,h6,h7⟩:=h
 simp only [aY] at h7
 subst h7;subst h5;subst h3
 exact⟨v,u,t,Array.ext' h1,h2,h4,h6⟩
theorem gQ.cell {o g e:Nat} {ro:Bool} {a:AV} {rest:List AV} {b δ:Nat} (hs:gQ G μ σ w)(ho:σ[o]? =some ⟨g,ro,.cells e (a :: rest)⟩)(hb:μ o g=some (b,δ)):∃v,w.cell? ⟨b,δ,none⟩=some v∧aV μ w a v:=by
 obtain⟨b',yZ,h1,h2⟩:=hs.obj o _ ho rfl
 rw [hb] at h1;cases h1
 obtain⟨dZ,fr,q1,q2,q3,q4⟩:=h2
 obtain⟨v,r1,r2⟩:=q3 0 a rfl
 refine⟨v,?_,r2⟩
 rw [cell_of_heap q1]
 simpa using r1
end
end Go.dX
namespace Go.dX
open Go.RowKit
variable {P:Program} {G:Nat} {μ:Mu} {σ:St} {w w':World}
theorem Step.fresh (hs:gQ G μ σ w)(hb:Below w.heap.size w w') {A e:Nat} {cur:Array Value} {cs:List AV} (hA:w.heap.size≤A)(hh:w'.heap[A]? =some (.cells cur e (0,0)))(hl:cs.length≤cur.size)
 (hc:∀(j:Nat) c,cs[j]? =some c→∃v,cur[j]? =some v∧aV μ w c v):Step G μ σ w (μ.upd σ.length 0 (A,0)) (σ ++ [⟨0,false,.cells e cs⟩]) w':=by
 have h:=(Step.of_below hs hb).pJ
 have hwx:=qP hb
 have hnone:μ σ.length 0=none:=by
  cases hq:μ σ.length 0 with
  | none=>rfl
  | some y=>obtain⟨a,ha,_⟩:=hs.dom _ _ _ hq;simp at ha
 have hle:=Mu.o8 (x:=(A,0)) hnone
 have hcase:∀(o:Nat) a',(σ ++ [⟨0,false,.cells e cs⟩])[o]? =some a'→(σ[o]? =some a'∧o≠σ.length)∨(o=σ.length∧a'= ⟨0,false,.cells e cs⟩):=by
  intro o a' ho
  rcases Nat.lt_trichotomy o σ.length with hl | he | hg
  ·rw [List.getElem?_append_left hl] at ho;exact .inl ⟨ho,by omega⟩
  ·subst he;simp at ho;exact .inr ⟨rfl,ho.symm⟩
  ·rw [List.getElem?_eq_none (by simp;omega)] at ho;cases ho
 refine⟨⟨?_,?_,?_,?_,?_,?_,?_⟩,hle,hwx,hb.os,hb.tape,hb.output,hb.size,fun b hb' _=>hb.block b hb',?_,?_⟩
 ·intro o a' ho hl'
  rcases hcase o a' ho with ⟨ho',hne⟩ | ⟨rfl,rfl⟩
  ·obtain⟨b,δ,h1,h2⟩:=h.obj o a' ho' hl'
   exact⟨b,δ,hle _ _ _ h1,rV.mono hle (jH.refl _) rfl h2⟩
  ·refine⟨A,0,Mu.bY _ _ _ _,cur,(0,0),hh,by omega,fun j c hj=>?_,fun _ j _ hj=>by omega⟩
   obtain⟨v,r1,r2⟩:=hc j c hj
   exact⟨v,by rw [Nat.zero_add];exact r1,aV.mono hle hwx c v r2⟩
 ·intro o o' a1 a2 b δ yZ ho ho' hro hl1 hl2 hb1 hb2
  rcases hcase o a1 ho with ⟨ho1,hne⟩ | ⟨rfl,rfl⟩ <;> rcases hcase o' a2 ho' with ⟨ho2,hne'⟩ | ⟨rfl,rfl⟩
  ·rw [Mu.upd_ne (by simp [hne])] at hb1
   rw [Mu.upd_ne (by simp [hne'])] at hb2
   exact hs.inj o o' a1 a2 b δ yZ ho1 ho2 hro hl1 hl2 hb1 hb2
  ·rw [Mu.upd_ne (by simp [hne])] at hb1
   rw [Mu.bY] at hb2
   cases hb2
   have:=hs.blk _ _ _ _ hb1
   omega
  ·rw [Mu.upd_ne (by simp [hne'])] at hb2
   rw [Mu.bY] at hb1
   cases hb1
   have:=hs.blk _ _ _ _ hb2
   omega
  ·rfl
 ·intro o g y hy
  by_cases he:o=σ.length∧g=0
  ·exact⟨⟨0,false,.cells e cs⟩,by rw [he.1];simp,by rw [he.2];exact Nat.zero_le _⟩
  ·rw [Mu.upd_ne he] at hy
   obtain⟨a',ha,hle'⟩:=hs.dom _ _ _ hy
   exact⟨a',by rw [List.getElem?_append_left (cZ ha)];exact ha,hle'⟩
 ·intro o g b δ hy
  by_cases he:o=σ.length∧g=0
  ·rw [he.1,he.2,Mu.bY] at hy;cases hy;exact lt_of_heap hh
  ·rw [Mu.upd_ne he] at hy;have:=hs.blk _ _ _ _ hy;have:=hb.size;omega
 ·intro g hg'
  exact hle _ _ _ (hs.qI g hg')
 ·intro o b δ hy
  by_cases he:o=σ.length∧0=0
  ·rw [he.1,Mu.bY] at hy;cases hy;rfl
  ·rw [Mu.upd_ne he] at hy;exact hs.low _ _ _ hy
 ·intro g e' cs' hg' ho
  rcases hcase g _ ho with ⟨ho',_⟩ | ⟨rfl,h1⟩
  ·exact h.full g e' cs' hg' ho'
  ·cases h1
 ·intro o a' b δ ho hro hl' hb1 hlt
  rcases hcase o a' ho with ⟨ho1,hne⟩ | ⟨rfl,rfl⟩
  ·rw [Mu.upd_ne (by simp [hne])] at hb1
   exact⟨o,a',δ,ho1,hro,hl',hb1⟩
  ·rw [Mu.bY] at hb1;cases hb1;omega
 ·intro o a' b δ ho hl' hb1 hlt
  rcases hcase o a' ho with ⟨ho1,hne⟩ | ⟨rfl,rfl⟩
  ·rw [Mu.upd_ne (by simp [hne])] at hb1
   exact⟨o,a',δ,ho1,hl',hb1⟩
  ·rw [Mu.bY] at hb1;cases hb1;omega
end Go.dX
namespace Go.dX.YthggaoedidfpcaaGreatDoor
open Go.Proofs
def cA:Code→Code
 | .seq a _=>a
 | c=>c
def cB:Code→Code
 | .seq _ b=>b
 | c=>c
def cIn:Code→Code
 | .block _ c=>c
 | .loop c=>c
 | c=>c
def cOps:Code→Array Oper
 | .region _ ops _=>ops
 | _=>#[]
def aA:AC→AC
 | .seq a _=>a
 | c=>c
def aB:AC→AC
 | .seq _ b=>b
 | c=>c
theorem Ak {X:Ctx} {run:gW} {n:Nat} {a b:AC} {e:Env} {σ:St} {r:Out×Env×St} (h:aW X run n (.seq a b) e σ=some r):(∃e1 s1,aW X run n a e σ=some (.normal,e1,s1)∧aW X run n b e1 s1=some r)∨(aW X run n a e σ=some r∧r.1≠.normal):=by
 simp only [aW] at h
 split at h
 ·rename_i e1 s1 h1;exact .inl ⟨e1,s1,h1,h⟩
 ·rename_i hn
  obtain⟨o,e',σ'⟩:=r
  refine .inr ⟨h,fun ho=>?_⟩
  have ho:o= .normal:=ho
  subst ho
  exact hn _ _ h
theorem ER {X:Ctx} {run:gW} {n:Nat} {a b:AC} {e e':Env} {σ:St} (h:aW X run n a e σ=aW X run n a e' σ):aW X run n (.seq a b) e σ=aW X run n (.seq a b) e' σ:=by
 simp only [aW,h]
theorem Gt {X:Ctx} {run:gW} {n:Nat} {l:List Nat} {ops:List AI} {e:Env} {σ:St} {o:Out} {e':Env} {σ':St} (h:aW X run n (.cut l (.reg ops)) e σ=some (o,e',σ')):o= .normal∧jG X (nrm run) ops (clear l e) σ=some (e',σ'):=by
 simp only [aW,Option.map_eq_some_iff] at h
 obtain⟨r,h1,h⟩:=h
 cases h;exact⟨rfl,h1⟩
theorem zH {l:List Nat} {e e':Env} (h:∀x∈l,get e x=get e' x):clear l e=clear l e':=by
 unfold clear
 exact List.map_congr_left fun x hx=>by rw [h x hx]
theorem Gu {l:List Nat} {k:Nat} (h:k∈l)(e:Env):get (clear l e) k=get e k:=by
 unfold clear
 induction l with
 | nil=>cases h
 | cons d l ih=>
   simp only [List.map_cons,Go.dX.get]
   split
   ·rename_i hd;rw [hd]
   ·rename_i hd
    rcases List.mem_cons.1 h with rfl | h
    ·exact(hd rfl).elim
    ·exact ih h
theorem Uk {X:Ctx} {run:gW} {n k:Nat} {a b:AC} {e:Env} {σ:St} {r:Out×Env×St} (h:aW X run n (.cond (.t k) a b) e σ=some r):(get e k= .b true∧aW X run n a e σ=some r)∨(get e k= .b false∧aW X run n b e σ=some r):=by
 rw [aW] at h
 simp only [bT.ev] at h
 split at h
 ·rename_i hk;exact .inl ⟨hk,h⟩
 ·rename_i hk;exact .inr ⟨hk,h⟩
 ·cases h
noncomputable def bkC:Code:=(Tryz.f110.body).getD .skip
noncomputable def bk0:Code:=cA bkC
noncomputable def qw:Array Oper:=cOps (cA (cA (cB bkC)))
noncomputable def bkL:Code:=cIn (cIn (cB (cA (cB bkC))))
noncomputable def PY:Array Oper:=cOps (cA bkL)
noncomputable def bkX:Code:=cB (cB bkL)
noncomputable def bkR:Code:=cB (cB bkC)
theorem bk_body:Tryz.f110.body=some (.seq bk0 (.seq (.seq (.region 1 qw false) (.block 0 (.loop (.seq (.region 2 PY false) (.seq (.cond (.tmp 23) .skip (.exit 0)) bkX))))) bkR)):=by kernel_rfl
theorem bk_nt:Tryz.f110.ntmps=45:=by kernel_rfl
theorem bk_res:pF Tryz.f110.results.toList []=true:=by kernel_rfl
def vA0:AC:=aA Sr
def vR:AC:=aB (aB Sr)
def v17:AI:=⟨some 17,none,.mv (.t 0)⟩
def v18:AI:=⟨some 18,none,.fF (.t 17)⟩
def v19:AI:=⟨some 19,none,.mF 224 (.t 18) 3⟩
def v20:AI:=⟨some 20,none,.load 222 (.t 19)⟩
def v21:AI:=⟨some 21,none,.Ku 222 (.t 20)⟩
def v23:AI:=⟨some 23,none,.bin .eql 3 (.t 21) (.c (.i .i64 0))⟩
theorem bk_v:Sr= .seq vA0 (.seq (.seq (.cut [0,1,2,6] (.reg [v17,v18,v19,v20,v21,v23])) (.cond (.t 23) .skip (.cond (.c .u) (.exit 999999) (.exit 999999)))) vR):=by rfl
theorem bk_vR:∃l1 b1 b2,vA0= .cut [0,1,2] (.reg l1)∧vR= .seq (.seq (.cut [0,1,2,6] b1) b2) (aB vR):=⟨_,_,_,by rfl,by rfl⟩
theorem bk_ok0:okC Tryz.prog 12 45 bk0 vA0=true:=by kernel_rfl
theorem bk_okR:okC Tryz.prog 12 45 bkR vR=true:=by kernel_rfl
noncomputable def o10:Oper:=(qw[0]?).getD default
noncomputable def o11:Oper:=(qw[1]?).getD default
noncomputable def o12:Oper:=(qw[2]?).getD default
noncomputable def o13:Oper:=(qw[3]?).getD default
noncomputable def o14:Oper:=(qw[4]?).getD default
noncomputable def o20:Oper:=(PY[0]?).getD default
noncomputable def o21:Oper:=(PY[1]?).getD default
theorem bk_s1:qw.size=5:=by kernel_rfl
theorem bk_s2:PY.size=2:=by kernel_rfl
theorem Lu:qw[0]? =some o10∧iR Tryz.prog 12 45 qw o10 v17=true∧o10.dst=some 17:=⟨by kernel_rfl,by kernel_rfl,by kernel_rfl⟩
theorem LC:qw[1]? =some o11∧iR Tryz.prog 12 45 qw o11 v18=true∧o11.dst=some 18:=⟨by kernel_rfl,by kernel_rfl,by kernel_rfl⟩
theorem LD:qw[2]? =some o12∧iR Tryz.prog 12 45 qw o12 v19=true∧o12.dst=some 19:=⟨by kernel_rfl,by kernel_rfl,by kernel_rfl⟩
theorem LG:qw[3]? =some o13∧iR Tryz.prog 12 45 qw o13 v20=true∧o13.dst=some 20:=⟨by kernel_rfl,by kernel_rfl,by kernel_rfl⟩
theorem Gv:qw[4]? =some o14∧o14.guard=none∧o14.dst=some 21∧o14.op= .range 222 (.tmp 20):=⟨by kernel_rfl,by kernel_rfl,by kernel_rfl,by kernel_rfl⟩
theorem Gw:PY[0]? =some o20∧o20.guard=none∧o20.dst=some 22∧o20.op= .next (.tmp 21) false:=⟨by kernel_rfl,by kernel_rfl,by kernel_rfl,by kernel_rfl⟩
theorem Gx:PY[1]? =some o21∧o21.guard=none∧o21.dst=some 23∧o21.op= .extract (.tmp 22) 0:=⟨by kernel_rfl,by kernel_rfl,by kernel_rfl,by kernel_rfl⟩
theorem Am {d:Nat} {act:Act} {v:Value} (h:d<act.tmps.size):(act.put (some d) v).tmps.getD d undef=v:=lV h
set_option maxHeartbeats 2000000 in
theorem LH:BP Tryz.prog fns (fun _=>false) 12 110 Je:=by
 intro X hP hF hD hX hdr run n hrun hrd args σ b v σ1 hlen hb μ w bg hs hr
 obtain⟨P,fns',lg,meth,dk⟩:=X
 simp only at hP hF hD
 subst hP hF hD
 refine⟨kF Tryz.func110 (by kernel_rfl) (by kernel_rfl),calls_of_wp Tryz.func110 bk_body ?_⟩
 have hsz:bg.size=args.length:=by have:=hr.length;simpa using this
 rw [bk_nt]
 have I_:=oM (G:=12) hr hlen
 unfold aBody at hb
 cases hcode:aW ⟨Tryz.prog,fns,lg,meth,fun _=>false⟩ run n Je.code (d_ 0 args) σ with
 | none=>rw [hcode] at hb;simp at hb
 | some y=>
 obtain⟨o,e,σ2⟩:=y
 rw [hcode] at hb
 have hc0:aW ⟨Tryz.prog,fns,lg,meth,fun _=>false⟩ run n Sr (d_ 0 args) σ=some (o,e,σ2):=hcode
 obtain⟨l1,b1,b2,hv0,hvR⟩:=bk_vR
 rw [bk_v] at hc0
 rcases Ak hc0 with ⟨e0,s0,h0,hc1⟩ | ⟨h0,hne⟩
 rotate_left
 ·rw [hv0] at h0
  exact absurd (Gt h0).1 hne
 have hcp:∃e1 s1,aW ⟨Tryz.prog,fns,lg,meth,fun _=>false⟩ run n (.cut [0,1,2,6] (.reg [v17,v18,v19,v20,v21,v23])) e0 s0=some (.normal,e1,s1)∧get e1 23= .b true∧aW ⟨Tryz.prog,fns,lg,meth,fun _=>false⟩ run n vR e1 s1=some (o,e,σ2):=by
  have hcd:∀(e1:Env) (s1:St) (r:Out×Env×St),aW ⟨Tryz.prog,fns,lg,meth,fun _=>false⟩ run n (.cond (.t 23) .skip (.cond (.c .u) (.exit 999999) (.exit 999999))) e1 s1=some r→get e1 23= .b true∧r=(.normal,e1,s1):=by
   intro e1 s1 r hq
   rcases Uk hq with ⟨h1,h2⟩ | ⟨_,h2⟩
   ·simp only [aW,Option.some.injEq] at h2
    exact⟨h1,h2.symm⟩
   ·simp [aW,bT.ev] at h2
  rcases Ak hc1 with ⟨e1,s1,h1,hc2⟩ | ⟨h1,hne⟩
  ·rcases Ak h1 with ⟨e2,s2,h2,h3⟩ | ⟨_,hne⟩
   ·obtain⟨h4,h5⟩:=hcd _ _ _ h3
    cases h5
    exact⟨_,_,h2,h4,hc2⟩
   ·exact absurd rfl hne
  ·rcases Ak h1 with ⟨e2,s2,h2,h3⟩ | ⟨h2,_⟩
   ·obtain⟨h4,h5⟩:=hcd _ _ _ h3
    cases h5
    exact absurd rfl hne
   ·exact absurd (Gt h2).1 hne
 obtain⟨e1,s1,h1,h23,hc2⟩:=hcp
 have hops:=(Gt h1).2
 refine wp_seq (sV hX hrun hdr bk0 vA0 bk_ok0 [] _ { tmps:=bg ++ Array.replicate (45 - bg.size) undef,defers:=[] } μ σ w .normal e0 s0 _ hs I_ rfl h0 fun x a0 w0 hl0=>?_)
 obtain⟨qF,st0,en0,d0,hx0⟩:=hl0
 cases hx0
 have en0c:=en0.clear [0,1,2,6]
 simp only [jG] at hops
 split at hops
 rotate_left
 ·cases hops
 rename_i x17 t17 hst17
 split at hops
 rotate_left
 ·cases hops
 rename_i x18 t18 hst18
 split at hops
 rotate_left
 ·cases hops
 rename_i x19 t19 hst19
 split at hops
 rotate_left
 ·cases hops
 rename_i x20 t20 hst20
 split at hops
 rotate_left
 ·cases hops
 rename_i x21 t21 Ul
 split at hops
 rotate_left
 ·cases hops
 rename_i x23 t23 Um
 cases hops
 refine wp_seq (wp_seq (wp_region ?_))
 rw [bk_s1,show List.range 5=[0,1,2,3,4] from rfl,wpOps]
 simp only [Lu.1]
 refine kR (ops:=qw) hX hrun.nrm st0.pJ en0c Lu.2.1 hst17 fun u1 w1 pK hv1 st1=>?_
 have en1:=(en0c.mono st1.ext st1.kY).put (d:=some 17) (by decide) hv1
 rw [Lu.2.2,wpOps]
 simp only [LC.1]
 refine kR (ops:=qw) hX hrun.nrm st1.pJ en1 LC.2.1 hst18 fun u2 w2 y7 hv2 st2=>?_
 have en2:=(en1.mono st2.ext st2.kY).put (d:=some 18) (by decide) hv2
 rw [LC.2.2,wpOps]
 simp only [LD.1]
 refine kR (ops:=qw) hX hrun.nrm st2.pJ en2 LD.2.1 hst19 fun u3 w3 μ3 hv3 st3=>?_
 have en3:=(en2.mono st3.ext st3.kY).put (d:=some 19) (by decide) hv3
 rw [LD.2.2,wpOps]
 simp only [LG.1]
 refine kR (ops:=qw) hX hrun.nrm st3.pJ en3 LG.2.1 hst20 fun u4 w4 μ4 hv4 st4=>?_
 have en4:=(en3.mono st4.ext st4.kY).put (d:=some 20) (by decide) hv4
 rw [LG.2.2,wpOps]
 simp only [Gv.1]
 have hmln:t21=t20∧oZ t20 x20=some []∧s1=t20:=by
  have hp21:=jl (X:=⟨Tryz.prog,fns,lg,meth,fun _=>false⟩) (run:=nrm run) (a:=v21) rfl Ul
  have hp23:=jl (X:=⟨Tryz.prog,fns,lg,meth,fun _=>false⟩) (run:=nrm run) (a:=v23) rfl Um
  subst hp21
  subst hp23
  refine⟨rfl,?_,rfl⟩
  have hx23:x23= .b true:=by
   have:get (put (some 23) x23 (put (some 21) x21 (put (some 20) x20 (put (some 19) x19 (put (some 18) x18 (put (some 17) x17 (clear [0,1,2,6] e0))))))) 23=x23:=eU
   rw [←this];exact h23
  subst hx23
  simp only [dK,v21,v23,dO,eY,bT.ev,eU,Option.map_eq_some_iff] at Ul Um
  obtain⟨q,hq,hqe⟩:=Ul
  cases hqe
  unfold FI at hq
  split at hq
  ·rw [Option.map_eq_some_iff] at hq
   obtain⟨es,he,rfl⟩:=hq
   obtain⟨q2,hq2,hqe2⟩:=Um
   cases hqe2
   cases es with
   | nil=>exact he
   | cons a es=>
     exfalso
     simp [gU] at hq2
     omega
  ·cases hq
 obtain⟨rfl,hes,rfl⟩:=hmln
 generalize hA4:(((a0.put (some 17) u1).put (some 18) u2).put (some 19) u3).put (some 20) u4=a4 at *
 have hev4:a4.eval (.tmp 20)=u4:=by
  rw [←hA4]
  refine Am ?_
  have:=en3.size
  rw [this];decide
 have hd4:a4.defers=[]:=by rw [←hA4];simp only [dL];exact d0
 obtain⟨it,hrange,hnext⟩:∃it,(Instr.range 222 u4).run Tryz.prog w4= .ok (.pointer (some ⟨w4.heap.size,0,none⟩)) (w4.alloc it)∧∀ty,(Instr.next (.pointer (some ⟨w4.heap.size,0,none⟩)) false ty).run Tryz.prog (w4.alloc it)= .ok (.tuple #[.bool false]) (w4.alloc it):=by
  rcases A_ st4.pJ hv4 hes with ⟨rfl,_⟩ | ⟨bm,ents,clock,rfl,hh,hE⟩
  ·exact⟨_,run_range_nilMap w4 _ _ _ Tryz.underlying222,fun ty=>run_next_nilMap w4 ty _ _ _⟩
  ·have hemp:ents= #[]:=by
        have:=hE.1
        simpa using this
   subst hemp
   refine⟨_,run_range_map w4 _ _ _ bm #[] clock Tryz.underlying222 hh,fun ty=>?_⟩
   rcases run_next_map (P:=Tryz.prog) w4 ty bm clock clock #[] #[] clock hh (by simp) (Nat.le_refl _) with ⟨_,h⟩ | ⟨e,he,_⟩
   ·exact h
   ·simp [leftOf] at he
 have hex:(execOp a4.eval o14).run Tryz.prog w4= .ok (.value (.pointer (some ⟨w4.heap.size,0,none⟩))) (w4.alloc it):=by
  simp only [execOp,Gv.2.2.2,hev4]
  simp [hrange]
 rw [if_pos (by simp [Region.wanted,Gv.2.1])]
 refine .inl ?_
 unfold Oper.wp
 rw [hex,Oper.upon_value,wpOps,Gv.2.2.1]
 have hst7:Step 12 μ4 _ w4 μ4 _ (w4.alloc it):=Step.pend st4.pJ it
 have en5:=(en4.mono hst7.ext hst7.kY).put (d:=some 21) (v:=.pointer (some ⟨w4.heap.size,0,none⟩)) (r:=.u) (by decide) trivial
 generalize hA5:a4.put (some 21) (.pointer (some ⟨w4.heap.size,0,none⟩))=a5 at *
 have hev5:a5.eval (.tmp 21)= .pointer (some ⟨w4.heap.size,0,none⟩):=by
  rw [←hA5]
  refine Am ?_
  have:=en4.size
  rw [this];decide
 have hd5:a5.defers=[]:=by rw [←hA5];simp only [dL];exact hd4
 show (Code.block 0 _).wp _ _ a5 _
 refine wp_block (wp_loop_once (wp_seq (wp_region ?_)))
 rw [bk_s2,show List.range 2=[0,1] from rfl,wpOps]
 simp only [Gw.1]
 have hex2:(execOp a5.eval o20).run Tryz.prog (w4.alloc it)= .ok (.value (.tuple #[.bool false])) (w4.alloc it):=by
  simp only [execOp,Gw.2.2.2,hev5]
  simp [hnext]
 rw [if_pos (by simp [Region.wanted,Gw.2.1])]
 refine .inl ?_
 unfold Oper.wp
 rw [hex2,Oper.upon_value,wpOps,Gw.2.2.1]
 have en6:=en5.put (d:=some 22) (v:=.tuple #[.bool false]) (r:=.u) (by decide) trivial
 generalize hA6:a5.put (some 22) (.tuple #[.bool false])=a6 at *
 have hev6:a6.eval (.tmp 22)= .tuple #[.bool false]:=by
  rw [←hA6]
  refine Am ?_
  have:=en5.size
  rw [this];decide
 have hd6:a6.defers=[]:=by rw [←hA6];simp only [dL];exact hd5
 simp only [Gx.1]
 have hex3:(execOp a6.eval o21).run Tryz.prog (w4.alloc it)= .ok (.value (.bool false)) (w4.alloc it):=by
  simp only [execOp,Gx.2.2.2,hev6]
  simp [Instr.extract]
 rw [if_pos (by simp [Region.wanted,Gx.2.1])]
 refine .inl ?_
 unfold Oper.wp
 rw [hex3,Oper.upon_value,wpOps,Gx.2.2.1]
 have en7:=en6.put (d:=some 23) (v:=.bool false) (r:=.u) (by decide) trivial
 generalize hA7:a6.put (some 23) (.bool false)=a7 at *
 have hev7:a7.eval (.tmp 23)= .bool false:=by
  rw [←hA7]
  refine Am ?_
  have:=en6.size
  rw [this];decide
 have hd7:a7.defers=[]:=by rw [←hA7];simp only [dL];exact hd6
 show (Code.seq (.cond (.tmp 23) .skip (.exit 0)) bkX).wp _ _ a7 _
 refine wp_seq (wp_cond_false hev7 (wp_exit ?_))
 show bkR.wp _ _ a7 _
 have en7c:=en7.clear [0,1,2,6]
 have key:∀E:Env,clear [0,1,2,6] (put (some 23) AV.u (put (some 22) AV.u (put (some 21) AV.u E)))=clear [0,1,2,6] (put (some 23) x23 (put (some 21) x21 E)):=fun E=>zH fun x hx=>by
  simp only [List.mem_cons,List.not_mem_nil,or_false] at hx
  rcases hx with rfl | rfl | rfl | rfl <;> simp [put,Go.dX.get]
 rw [key] at en7c
 have hc3:=hc2
 rw [hvR,ER (ER (show _=aW _ run n (.cut [0,1,2,6] b1) (clear [0,1,2,6] _) _ from by
  simp only [aW]
  rw [show clear [0,1,2,6] (clear [0,1,2,6] _)=clear [0,1,2,6] _ from zH fun x hx=>Gu hx _])),←hvR] at hc3
 refine sV hX hrun hdr bkR vR bk_okR [] _ a7 μ4 _ (w4.alloc it) o e σ2 _ hst7.pJ en7c hd7 hc3 fun x act' w' hl=>?_
 obtain⟨μ9,hst9,hen9,hd9,hx9⟩:=hl
 have hall:=(((((st0.trans st1).trans st2).trans st3).trans st4).trans hst7).trans hst9
 have normal:(uO Tryz.prog Je.res e σ2).map (fun v=>(false,v,σ2))=some (b,v,σ1)→∃u,(results Tryz.f110 act'.tmps).run Tryz.prog w'= .ok u w'∧lu 12 μ σ w b v σ1 (.returned u) w':=by
  intro hb
  rw [Option.map_eq_some_iff] at hb
  obtain⟨v',hv,hb⟩:=hb
  cases hb
  obtain⟨u,hu1,hu2⟩:=oN (X:=⟨Tryz.prog,fns,lg,meth,fun _=>false⟩) hst9.pJ hen9 bk_res hv
  exact⟨u,hu1,u,μ9,rfl,hu2,hall⟩
 cases o with
 | exit j=>simp at hb
 | normal=>
   cases hx9
   obtain⟨u,hu1,ha⟩:=normal hb
   exact⟨hd9,u,hu1,ha⟩
 | ret=>
   cases hx9
   obtain⟨u,hu1,ha⟩:=normal hb
   exact⟨hd9,u,hu1,ha⟩
 | gu r=>
   obtain⟨u,rfl,hv⟩:=hx9
   cases hb
   exact⟨hd9,u,μ9,rfl,hv,hall⟩
end Go.dX.YthggaoedidfpcaaGreatDoor
