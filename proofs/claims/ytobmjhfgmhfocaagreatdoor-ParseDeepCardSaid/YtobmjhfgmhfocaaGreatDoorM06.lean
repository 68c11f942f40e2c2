/- Texts of this claim, joined: Ty, As, Abs20, Abs34. -/
import Derived.Test.YtobmjhfgmhfocaaGreatDoorM01
import Derived.Test.YtobmjhfgmhfocaaGreatDoorProg
import Derived.KernelRfl
import Derived.WalkKit
import Derived.Below
import Derived.LaidEql
import Derived.Stop.Asserts
import Derived.RowKitTokens
import Derived.Test.YtobmjhfgmhfocaaGreatDoorM02
import Derived.Laws.AppendOwn
set_option linter.unusedVariables false
set_option linter.unusedSimpArgs false
namespace Go.bK.YtobmjhfgmhfocaaGreatDoor
open Go.Proofs
@[simp] theorem ty0:aF Tryz.prog 0=some ⟨.other,1,0,.u,false,false,false⟩:=by kernel_rfl
@[simp] theorem cz0:Program.cellsOf Tryz.prog 0=1:=by kernel_rfl
@[simp] theorem ty1:aF Tryz.prog 1=some ⟨.fn,1,8,.fn0,false,false,false⟩:=by kernel_rfl
@[simp] theorem cz1:Program.cellsOf Tryz.prog 1=1:=by kernel_rfl
@[simp] theorem ty2:aF Tryz.prog 2=some ⟨.int .i64,1,8,.i .i64 0,true,false,false⟩:=by kernel_rfl
@[simp] theorem cz2:Program.cellsOf Tryz.prog 2=1:=by kernel_rfl
@[simp] theorem ty3:aF Tryz.prog 3=some ⟨.int .i64,1,8,.i .i64 0,true,false,false⟩:=by kernel_rfl
@[simp] theorem cz3:Program.cellsOf Tryz.prog 3=1:=by kernel_rfl
@[simp] theorem ty4:aF Tryz.prog 4=some ⟨.bool,1,1,.b false,true,false,false⟩:=by kernel_rfl
@[simp] theorem cz4:Program.cellsOf Tryz.prog 4=1:=by kernel_rfl
@[simp] theorem ty5:aF Tryz.prog 5=some ⟨.int .u8,1,1,.i .u8 0,true,false,false⟩:=by kernel_rfl
@[simp] theorem cz5:Program.cellsOf Tryz.prog 5=1:=by kernel_rfl
@[simp] theorem ty6:aF Tryz.prog 6=some ⟨.int .u8,1,1,.i .u8 0,true,false,false⟩:=by kernel_rfl
@[simp] theorem cz6:Program.cellsOf Tryz.prog 6=1:=by kernel_rfl
@[simp] theorem ty7:aF Tryz.prog 7=some ⟨.st [(0,2,false),(1,3,false),(2,4,false),(3,6,false)],4,24,.ag [.i .i64 0,.i .i64 0,.b false,.i .u8 0],true,false,false⟩:=by kernel_rfl
@[simp] theorem cz7:Program.cellsOf Tryz.prog 7=4:=by kernel_rfl
@[simp] theorem ty8:aF Tryz.prog 8=some ⟨.st [(0,2,false),(1,3,false),(2,4,false),(3,6,false)],4,24,.ag [.i .i64 0,.i .i64 0,.b false,.i .u8 0],true,false,false⟩:=by kernel_rfl
@[simp] theorem cz8:Program.cellsOf Tryz.prog 8=4:=by kernel_rfl
@[simp] theorem ty9:aF Tryz.prog 9=some ⟨.str,1,16,.s [],true,false,false⟩:=by kernel_rfl
@[simp] theorem cz9:Program.cellsOf Tryz.prog 9=1:=by kernel_rfl
@[simp] theorem ty10:aF Tryz.prog 10=some ⟨.str,1,16,.s [],true,false,false⟩:=by kernel_rfl
@[simp] theorem cz10:Program.cellsOf Tryz.prog 10=1:=by kernel_rfl
@[simp] theorem ty11:aF Tryz.prog 11=some ⟨.str,1,16,.s [],true,false,false⟩:=by kernel_rfl
@[simp] theorem cz11:Program.cellsOf Tryz.prog 11=1:=by kernel_rfl
@[simp] theorem ty12:aF Tryz.prog 12=some ⟨.int .u64,1,8,.i .u64 0,true,false,false⟩:=by kernel_rfl
@[simp] theorem cz12:Program.cellsOf Tryz.prog 12=1:=by kernel_rfl
@[simp] theorem ty15:aF Tryz.prog 15=some ⟨.ptr 258,1,8,.p0,true,false,false⟩:=by kernel_rfl
@[simp] theorem cz15:Program.cellsOf Tryz.prog 15=1:=by kernel_rfl
@[simp] theorem ty16:aF Tryz.prog 16=some ⟨.ptr 261,1,8,.p0,true,false,false⟩:=by kernel_rfl
@[simp] theorem cz16:Program.cellsOf Tryz.prog 16=1:=by kernel_rfl
@[simp] theorem ty17:aF Tryz.prog 17=some ⟨.ptr 268,1,8,.p0,true,false,false⟩:=by kernel_rfl
@[simp] theorem cz17:Program.cellsOf Tryz.prog 17=1:=by kernel_rfl
@[simp] theorem ty20:aF Tryz.prog 20=some ⟨.qP [],1,16,.eG,true,false,false⟩:=by kernel_rfl
@[simp] theorem cz20:Program.cellsOf Tryz.prog 20=1:=by kernel_rfl
@[simp] theorem ty21:aF Tryz.prog 21=some ⟨.int .i32,1,4,.i .i32 0,true,false,false⟩:=by kernel_rfl
@[simp] theorem cz21:Program.cellsOf Tryz.prog 21=1:=by kernel_rfl
@[simp] theorem ty22:aF Tryz.prog 22=some ⟨.ptr 67,1,8,.p0,true,false,false⟩:=by kernel_rfl
@[simp] theorem cz22:Program.cellsOf Tryz.prog 22=1:=by kernel_rfl
@[simp] theorem ty23:aF Tryz.prog 23=some ⟨.int .i64,1,8,.i .i64 0,true,false,false⟩:=by kernel_rfl
@[simp] theorem cz23:Program.cellsOf Tryz.prog 23=1:=by kernel_rfl
@[simp] theorem ty24:aF Tryz.prog 24=some ⟨.st [(0,23,false),(1,3,false)],2,16,.ag [.i .i64 0,.i .i64 0],true,false,false⟩:=by kernel_rfl
@[simp] theorem cz24:Program.cellsOf Tryz.prog 24=2:=by kernel_rfl
@[simp] theorem ty25:aF Tryz.prog 25=some ⟨.st [(0,23,false),(1,3,false)],2,16,.ag [.i .i64 0,.i .i64 0],true,false,false⟩:=by kernel_rfl
@[simp] theorem cz25:Program.cellsOf Tryz.prog 25=2:=by kernel_rfl
@[simp] theorem ty26:aF Tryz.prog 26=some ⟨.other,1,0,.u,false,false,false⟩:=by kernel_rfl
@[simp] theorem cz26:Program.cellsOf Tryz.prog 26=1:=by kernel_rfl
@[simp] theorem ty27:aF Tryz.prog 27=some ⟨.fn,1,8,.fn0,false,false,false⟩:=by kernel_rfl
@[simp] theorem cz27:Program.cellsOf Tryz.prog 27=1:=by kernel_rfl
@[simp] theorem ty28:aF Tryz.prog 28=some ⟨.fn,1,8,.fn0,false,false,false⟩:=by kernel_rfl
@[simp] theorem cz28:Program.cellsOf Tryz.prog 28=1:=by kernel_rfl
@[simp] theorem ty29:aF Tryz.prog 29=some ⟨.fn,1,8,.fn0,false,false,false⟩:=by kernel_rfl
@[simp] theorem cz29:Program.cellsOf Tryz.prog 29=1:=by kernel_rfl
@[simp] theorem ty30:aF Tryz.prog 30=some ⟨.other,1,0,.u,false,false,false⟩:=by kernel_rfl
@[simp] theorem cz30:Program.cellsOf Tryz.prog 30=1:=by kernel_rfl
@[simp] theorem ty31:aF Tryz.prog 31=some ⟨.fn,1,8,.fn0,false,false,false⟩:=by kernel_rfl
@[simp] theorem cz31:Program.cellsOf Tryz.prog 31=1:=by kernel_rfl
@[simp] theorem ty32:aF Tryz.prog 32=some ⟨.fn,1,8,.fn0,false,false,false⟩:=by kernel_rfl
@[simp] theorem cz32:Program.cellsOf Tryz.prog 32=1:=by kernel_rfl
@[simp] theorem ty33:aF Tryz.prog 33=some ⟨.fn,1,8,.fn0,false,false,false⟩:=by kernel_rfl
@[simp] theorem cz33:Program.cellsOf Tryz.prog 33=1:=by kernel_rfl
@[simp] theorem ty34:aF Tryz.prog 34=some ⟨.fn,1,8,.fn0,false,false,false⟩:=by kernel_rfl
@[simp] theorem cz34:Program.cellsOf Tryz.prog 34=1:=by kernel_rfl
@[simp] theorem ty35:aF Tryz.prog 35=some ⟨.qP [("Error",95)],1,16,.eG,true,false,true⟩:=by kernel_rfl
@[simp] theorem cz35:Program.cellsOf Tryz.prog 35=1:=by kernel_rfl
@[simp] theorem ty36:aF Tryz.prog 36=some ⟨.qP [("Error",95)],1,16,.eG,true,false,true⟩:=by kernel_rfl
@[simp] theorem cz36:Program.cellsOf Tryz.prog 36=1:=by kernel_rfl
@[simp] theorem ty37:aF Tryz.prog 37=some ⟨.other,1,0,.u,false,false,false⟩:=by kernel_rfl
@[simp] theorem cz37:Program.cellsOf Tryz.prog 37=1:=by kernel_rfl
@[simp] theorem ty38:aF Tryz.prog 38=some ⟨.fn,1,8,.fn0,false,false,false⟩:=by kernel_rfl
@[simp] theorem cz38:Program.cellsOf Tryz.prog 38=1:=by kernel_rfl
@[simp] theorem ty39:aF Tryz.prog 39=some ⟨.slice 5,1,24,.sl0,false,false,false⟩:=by kernel_rfl
@[simp] theorem cz39:Program.cellsOf Tryz.prog 39=1:=by kernel_rfl
@[simp] theorem ty40:aF Tryz.prog 40=some ⟨.slice 44,1,24,.sl0,false,false,false⟩:=by kernel_rfl
@[simp] theorem cz40:Program.cellsOf Tryz.prog 40=1:=by kernel_rfl
@[simp] theorem ty41:aF Tryz.prog 41=some ⟨.other,1,0,.u,false,false,false⟩:=by kernel_rfl
@[simp] theorem cz41:Program.cellsOf Tryz.prog 41=1:=by kernel_rfl
@[simp] theorem ty42:aF Tryz.prog 42=some ⟨.fn,1,8,.fn0,false,false,false⟩:=by kernel_rfl
@[simp] theorem cz42:Program.cellsOf Tryz.prog 42=1:=by kernel_rfl
@[simp] theorem ty43:aF Tryz.prog 43=some ⟨.st [(0,3,false),(1,9,false),(2,3,false)],3,32,.ag [.i .i64 0,.s [],.i .i64 0],true,false,false⟩:=by kernel_rfl
@[simp] theorem cz43:Program.cellsOf Tryz.prog 43=3:=by kernel_rfl
@[simp] theorem ty44:aF Tryz.prog 44=some ⟨.st [(0,3,false),(1,9,false),(2,3,false)],3,32,.ag [.i .i64 0,.s [],.i .i64 0],true,false,false⟩:=by kernel_rfl
@[simp] theorem cz44:Program.cellsOf Tryz.prog 44=3:=by kernel_rfl
@[simp] theorem ty45:aF Tryz.prog 45=some ⟨.fn,1,8,.fn0,false,false,false⟩:=by kernel_rfl
@[simp] theorem cz45:Program.cellsOf Tryz.prog 45=1:=by kernel_rfl
@[simp] theorem ty46:aF Tryz.prog 46=some ⟨.arr 2 5,2,2,.ag [.i .u8 0,.i .u8 0],true,false,false⟩:=by kernel_rfl
@[simp] theorem cz46:Program.cellsOf Tryz.prog 46=2:=by kernel_rfl
@[simp] theorem ty47:aF Tryz.prog 47=some ⟨.int .u32,1,4,.i .u32 0,true,false,false⟩:=by kernel_rfl
@[simp] theorem cz47:Program.cellsOf Tryz.prog 47=1:=by kernel_rfl
@[simp] theorem ty48:aF Tryz.prog 48=some ⟨.arr 3 47,3,12,.ag [.i .u32 0,.i .u32 0,.i .u32 0],true,false,false⟩:=by kernel_rfl
@[simp] theorem cz48:Program.cellsOf Tryz.prog 48=3:=by kernel_rfl
@[simp] theorem ty49:aF Tryz.prog 49=some ⟨.other,1,0,.u,false,false,false⟩:=by kernel_rfl
@[simp] theorem cz49:Program.cellsOf Tryz.prog 49=1:=by kernel_rfl
@[simp] theorem ty50:aF Tryz.prog 50=some ⟨.fn,1,8,.fn0,false,false,false⟩:=by kernel_rfl
@[simp] theorem cz50:Program.cellsOf Tryz.prog 50=1:=by kernel_rfl
@[simp] theorem ty51:aF Tryz.prog 51=some ⟨.fn,1,8,.fn0,false,false,false⟩:=by kernel_rfl
@[simp] theorem cz51:Program.cellsOf Tryz.prog 51=1:=by kernel_rfl
@[simp] theorem ty52:aF Tryz.prog 52=some ⟨.ptr 56,1,8,.p0,true,false,false⟩:=by kernel_rfl
@[simp] theorem cz52:Program.cellsOf Tryz.prog 52=1:=by kernel_rfl
@[simp] theorem ty53:aF Tryz.prog 53=some ⟨.fn,1,8,.fn0,false,false,false⟩:=by kernel_rfl
@[simp] theorem cz53:Program.cellsOf Tryz.prog 53=1:=by kernel_rfl
@[simp] theorem ty54:aF Tryz.prog 54=some ⟨.slice 52,1,24,.sl0,false,false,false⟩:=by kernel_rfl
@[simp] theorem cz54:Program.cellsOf Tryz.prog 54=1:=by kernel_rfl
@[simp] theorem ty55:aF Tryz.prog 55=some ⟨.st [(0,3,false),(1,47,false),(2,9,false),(3,9,false),(4,52,false),(5,52,false),(6,54,false),(7,3,false)],8,96,.ag [.i .i64 0,.i .u32 0,.s [],.s [],.p0,.p0,.sl0,.i .i64 0],false,false,false⟩:=by kernel_rfl
@[simp] theorem cz55:Program.cellsOf Tryz.prog 55=8:=by kernel_rfl
@[simp] theorem ty56:aF Tryz.prog 56=some ⟨.st [(0,3,false),(1,47,false),(2,9,false),(3,9,false),(4,52,false),(5,52,false),(6,54,false),(7,3,false)],8,96,.ag [.i .i64 0,.i .u32 0,.s [],.s [],.p0,.p0,.sl0,.i .i64 0],false,false,false⟩:=by kernel_rfl
@[simp] theorem cz56:Program.cellsOf Tryz.prog 56=8:=by kernel_rfl
@[simp] theorem ty57:aF Tryz.prog 57=some ⟨.fn,1,8,.fn0,false,false,false⟩:=by kernel_rfl
@[simp] theorem cz57:Program.cellsOf Tryz.prog 57=1:=by kernel_rfl
@[simp] theorem ty58:aF Tryz.prog 58=some ⟨.fn,1,8,.fn0,false,false,false⟩:=by kernel_rfl
@[simp] theorem cz58:Program.cellsOf Tryz.prog 58=1:=by kernel_rfl
@[simp] theorem ty59:aF Tryz.prog 59=some ⟨.fn,1,8,.fn0,false,false,false⟩:=by kernel_rfl
@[simp] theorem cz59:Program.cellsOf Tryz.prog 59=1:=by kernel_rfl
@[simp] theorem ty60:aF Tryz.prog 60=some ⟨.fn,1,8,.fn0,false,false,false⟩:=by kernel_rfl
@[simp] theorem cz60:Program.cellsOf Tryz.prog 60=1:=by kernel_rfl
@[simp] theorem ty61:aF Tryz.prog 61=some ⟨.arr 2 9,2,32,.ag [.s [],.s []],true,false,false⟩:=by kernel_rfl
@[simp] theorem cz61:Program.cellsOf Tryz.prog 61=2:=by kernel_rfl
@[simp] theorem ty62:aF Tryz.prog 62=some ⟨.arr 6 61,12,192,.ag [.s [],.s [],.s [],.s [],.s [],.s [],.s [],.s [],.s [],.s [],.s [],.s []],true,false,false⟩:=by kernel_rfl
@[simp] theorem cz62:Program.cellsOf Tryz.prog 62=12:=by kernel_rfl
@[simp] theorem ty63:aF Tryz.prog 63=some ⟨.slice 9,1,24,.sl0,false,false,false⟩:=by kernel_rfl
@[simp] theorem cz63:Program.cellsOf Tryz.prog 63=1:=by kernel_rfl
@[simp] theorem ty64:aF Tryz.prog 64=some ⟨.arr 6 3,6,48,.ag [.i .i64 0,.i .i64 0,.i .i64 0,.i .i64 0,.i .i64 0,.i .i64 0],true,false,false⟩:=by kernel_rfl
@[simp] theorem cz64:Program.cellsOf Tryz.prog 64=6:=by kernel_rfl
@[simp] theorem ty65:aF Tryz.prog 65=some ⟨.slice 72,1,24,.sl0,false,false,false⟩:=by kernel_rfl
@[simp] theorem cz65:Program.cellsOf Tryz.prog 65=1:=by kernel_rfl
@[simp] theorem ty66:aF Tryz.prog 66=some ⟨.st [(0,65,false)],1,24,.ag [.sl0],false,false,false⟩:=by kernel_rfl
@[simp] theorem cz66:Program.cellsOf Tryz.prog 66=1:=by kernel_rfl
@[simp] theorem ty67:aF Tryz.prog 67=some ⟨.st [(0,65,false)],1,24,.ag [.sl0],false,false,false⟩:=by kernel_rfl
@[simp] theorem cz67:Program.cellsOf Tryz.prog 67=1:=by kernel_rfl
@[simp] theorem ty68:aF Tryz.prog 68=some ⟨.slice 85,1,24,.sl0,false,false,false⟩:=by kernel_rfl
@[simp] theorem cz68:Program.cellsOf Tryz.prog 68=1:=by kernel_rfl
@[simp] theorem ty69:aF Tryz.prog 69=some ⟨.slice 73,1,24,.sl0,false,false,false⟩:=by kernel_rfl
@[simp] theorem cz69:Program.cellsOf Tryz.prog 69=1:=by kernel_rfl
@[simp] theorem ty70:aF Tryz.prog 70=some ⟨.st [(0,9,false),(1,68,false),(2,4,false),(3,69,false),(4,3,false)],5,80,.ag [.s [],.sl0,.b false,.sl0,.i .i64 0],false,false,false⟩:=by kernel_rfl
@[simp] theorem cz70:Program.cellsOf Tryz.prog 70=5:=by kernel_rfl
@[simp] theorem ty71:aF Tryz.prog 71=some ⟨.st [(0,9,false),(1,68,false),(2,4,false),(3,69,false),(4,3,false)],5,80,.ag [.s [],.sl0,.b false,.sl0,.i .i64 0],false,false,false⟩:=by kernel_rfl
@[simp] theorem cz71:Program.cellsOf Tryz.prog 71=5:=by kernel_rfl
@[simp] theorem ty72:aF Tryz.prog 72=some ⟨.ptr 71,1,8,.p0,true,false,false⟩:=by kernel_rfl
@[simp] theorem cz72:Program.cellsOf Tryz.prog 72=1:=by kernel_rfl
@[simp] theorem ty73:aF Tryz.prog 73=some ⟨.ptr 75,1,8,.p0,true,false,false⟩:=by kernel_rfl
@[simp] theorem cz73:Program.cellsOf Tryz.prog 73=1:=by kernel_rfl
@[simp] theorem ty74:aF Tryz.prog 74=some ⟨.st [(0,3,false),(1,9,false),(2,4,false),(3,52,false),(4,52,false),(5,69,false),(6,69,false),(7,3,false)],8,104,.ag [.i .i64 0,.s [],.b false,.p0,.p0,.sl0,.sl0,.i .i64 0],false,false,false⟩:=by kernel_rfl
@[simp] theorem cz74:Program.cellsOf Tryz.prog 74=8:=by kernel_rfl
@[simp] theorem ty75:aF Tryz.prog 75=some ⟨.st [(0,3,false),(1,9,false),(2,4,false),(3,52,false),(4,52,false),(5,69,false),(6,69,false),(7,3,false)],8,104,.ag [.i .i64 0,.s [],.b false,.p0,.p0,.sl0,.sl0,.i .i64 0],false,false,false⟩:=by kernel_rfl
@[simp] theorem cz75:Program.cellsOf Tryz.prog 75=8:=by kernel_rfl
@[simp] theorem ty76:aF Tryz.prog 76=some ⟨.st [(0,23,false),(1,3,false)],2,16,.ag [.i .i64 0,.i .i64 0],true,false,false⟩:=by kernel_rfl
@[simp] theorem cz76:Program.cellsOf Tryz.prog 76=2:=by kernel_rfl
@[simp] theorem ty77:aF Tryz.prog 77=some ⟨.other,1,0,.u,false,false,false⟩:=by kernel_rfl
@[simp] theorem cz77:Program.cellsOf Tryz.prog 77=1:=by kernel_rfl
@[simp] theorem ty78:aF Tryz.prog 78=some ⟨.fn,1,8,.fn0,false,false,false⟩:=by kernel_rfl
@[simp] theorem cz78:Program.cellsOf Tryz.prog 78=1:=by kernel_rfl
@[simp] theorem ty79:aF Tryz.prog 79=some ⟨.ptr 81,1,8,.p0,true,false,false⟩:=by kernel_rfl
@[simp] theorem cz79:Program.cellsOf Tryz.prog 79=1:=by kernel_rfl
@[simp] theorem ty80:aF Tryz.prog 80=some ⟨.st [(0,40,false),(1,3,false),(2,3,false),(3,4,false),(4,25,false)],6,64,.ag [.sl0,.i .i64 0,.i .i64 0,.b false,.i .i64 0,.i .i64 0],false,false,false⟩:=by kernel_rfl
@[simp] theorem cz80:Program.cellsOf Tryz.prog 80=6:=by kernel_rfl
@[simp] theorem ty81:aF Tryz.prog 81=some ⟨.st [(0,40,false),(1,3,false),(2,3,false),(3,4,false),(4,25,false)],6,64,.ag [.sl0,.i .i64 0,.i .i64 0,.b false,.i .i64 0,.i .i64 0],false,false,false⟩:=by kernel_rfl
@[simp] theorem cz81:Program.cellsOf Tryz.prog 81=6:=by kernel_rfl
@[simp] theorem ty82:aF Tryz.prog 82=some ⟨.fn,1,8,.fn0,false,false,false⟩:=by kernel_rfl
@[simp] theorem cz82:Program.cellsOf Tryz.prog 82=1:=by kernel_rfl
@[simp] theorem ty83:aF Tryz.prog 83=some ⟨.fn,1,8,.fn0,false,false,false⟩:=by kernel_rfl
@[simp] theorem cz83:Program.cellsOf Tryz.prog 83=1:=by kernel_rfl
@[simp] theorem ty84:aF Tryz.prog 84=some ⟨.st [(0,9,false),(1,4,false)],2,24,.ag [.s [],.b false],true,false,false⟩:=by kernel_rfl
@[simp] theorem cz84:Program.cellsOf Tryz.prog 84=2:=by kernel_rfl
@[simp] theorem ty85:aF Tryz.prog 85=some ⟨.st [(0,9,false),(1,4,false)],2,24,.ag [.s [],.b false],true,false,false⟩:=by kernel_rfl
@[simp] theorem cz85:Program.cellsOf Tryz.prog 85=2:=by kernel_rfl
@[simp] theorem ty86:aF Tryz.prog 86=some ⟨.fn,1,8,.fn0,false,false,false⟩:=by kernel_rfl
@[simp] theorem cz86:Program.cellsOf Tryz.prog 86=1:=by kernel_rfl
@[simp] theorem ty87:aF Tryz.prog 87=some ⟨.ptr 92,1,8,.p0,true,false,false⟩:=by kernel_rfl
@[simp] theorem cz87:Program.cellsOf Tryz.prog 87=1:=by kernel_rfl
@[simp] theorem ty88:aF Tryz.prog 88=some ⟨.ptr 90,1,8,.p0,true,false,false⟩:=by kernel_rfl
@[simp] theorem cz88:Program.cellsOf Tryz.prog 88=1:=by kernel_rfl
@[simp] theorem ty89:aF Tryz.prog 89=some ⟨.st [(0,88,false),(1,39,false)],2,32,.ag [.p0,.sl0],false,false,false⟩:=by kernel_rfl
@[simp] theorem cz89:Program.cellsOf Tryz.prog 89=2:=by kernel_rfl
@[simp] theorem ty90:aF Tryz.prog 90=some ⟨.st [(0,88,false),(1,39,false)],2,32,.ag [.p0,.sl0],false,false,false⟩:=by kernel_rfl
@[simp] theorem cz90:Program.cellsOf Tryz.prog 90=2:=by kernel_rfl
@[simp] theorem ty91:aF Tryz.prog 91=some ⟨.st [(0,90,false),(2,3,false),(3,4,false)],4,48,.ag [.p0,.sl0,.i .i64 0,.b false],false,false,false⟩:=by kernel_rfl
@[simp] theorem cz91:Program.cellsOf Tryz.prog 91=4:=by kernel_rfl
@[simp] theorem ty92:aF Tryz.prog 92=some ⟨.st [(0,90,false),(2,3,false),(3,4,false)],4,48,.ag [.p0,.sl0,.i .i64 0,.b false],false,false,false⟩:=by kernel_rfl
@[simp] theorem cz92:Program.cellsOf Tryz.prog 92=4:=by kernel_rfl
@[simp] theorem ty93:aF Tryz.prog 93=some ⟨.fn,1,8,.fn0,false,false,false⟩:=by kernel_rfl
@[simp] theorem cz93:Program.cellsOf Tryz.prog 93=1:=by kernel_rfl
@[simp] theorem ty94:aF Tryz.prog 94=some ⟨.fn,1,8,.fn0,false,false,false⟩:=by kernel_rfl
@[simp] theorem cz94:Program.cellsOf Tryz.prog 94=1:=by kernel_rfl
@[simp] theorem ty95:aF Tryz.prog 95=some ⟨.fn,1,8,.fn0,false,false,false⟩:=by kernel_rfl
@[simp] theorem cz95:Program.cellsOf Tryz.prog 95=1:=by kernel_rfl
@[simp] theorem ty96:aF Tryz.prog 96=some ⟨.fn,1,8,.fn0,false,false,false⟩:=by kernel_rfl
@[simp] theorem cz96:Program.cellsOf Tryz.prog 96=1:=by kernel_rfl
@[simp] theorem ty97:aF Tryz.prog 97=some ⟨.fn,1,8,.fn0,false,false,false⟩:=by kernel_rfl
@[simp] theorem cz97:Program.cellsOf Tryz.prog 97=1:=by kernel_rfl
@[simp] theorem ty98:aF Tryz.prog 98=some ⟨.fn,1,8,.fn0,false,false,false⟩:=by kernel_rfl
@[simp] theorem cz98:Program.cellsOf Tryz.prog 98=1:=by kernel_rfl
@[simp] theorem ty99:aF Tryz.prog 99=some ⟨.fn,1,8,.fn0,false,false,false⟩:=by kernel_rfl
@[simp] theorem cz99:Program.cellsOf Tryz.prog 99=1:=by kernel_rfl
@[simp] theorem ty100:aF Tryz.prog 100=some ⟨.ptr 103,1,8,.p0,true,false,false⟩:=by kernel_rfl
@[simp] theorem cz100:Program.cellsOf Tryz.prog 100=1:=by kernel_rfl
@[simp] theorem ty101:aF Tryz.prog 101=some ⟨.ptr 25,1,8,.p0,true,false,false⟩:=by kernel_rfl
@[simp] theorem cz101:Program.cellsOf Tryz.prog 101=1:=by kernel_rfl
@[simp] theorem ty102:aF Tryz.prog 102=some ⟨.st [(0,40,false),(1,3,false),(2,101,false)],3,40,.ag [.sl0,.i .i64 0,.p0],false,false,false⟩:=by kernel_rfl
@[simp] theorem cz102:Program.cellsOf Tryz.prog 102=3:=by kernel_rfl
@[simp] theorem ty103:aF Tryz.prog 103=some ⟨.st [(0,40,false),(1,3,false),(2,101,false)],3,40,.ag [.sl0,.i .i64 0,.p0],false,false,false⟩:=by kernel_rfl
@[simp] theorem cz103:Program.cellsOf Tryz.prog 103=3:=by kernel_rfl
@[simp] theorem ty104:aF Tryz.prog 104=some ⟨.fn,1,8,.fn0,false,false,false⟩:=by kernel_rfl
@[simp] theorem cz104:Program.cellsOf Tryz.prog 104=1:=by kernel_rfl
@[simp] theorem ty105:aF Tryz.prog 105=some ⟨.fn,1,8,.fn0,false,false,false⟩:=by kernel_rfl
@[simp] theorem cz105:Program.cellsOf Tryz.prog 105=1:=by kernel_rfl
@[simp] theorem ty106:aF Tryz.prog 106=some ⟨.int .i64,1,8,.i .i64 0,true,false,false⟩:=by kernel_rfl
@[simp] theorem cz106:Program.cellsOf Tryz.prog 106=1:=by kernel_rfl
@[simp] theorem ty107:aF Tryz.prog 107=some ⟨.fn,1,8,.fn0,false,false,false⟩:=by kernel_rfl
@[simp] theorem cz107:Program.cellsOf Tryz.prog 107=1:=by kernel_rfl
@[simp] theorem ty108:aF Tryz.prog 108=some ⟨.fn,1,8,.fn0,false,false,false⟩:=by kernel_rfl
@[simp] theorem cz108:Program.cellsOf Tryz.prog 108=1:=by kernel_rfl
@[simp] theorem ty109:aF Tryz.prog 109=some ⟨.fn,1,8,.fn0,false,false,false⟩:=by kernel_rfl
@[simp] theorem cz109:Program.cellsOf Tryz.prog 109=1:=by kernel_rfl
@[simp] theorem ty110:aF Tryz.prog 110=some ⟨.fn,1,8,.fn0,false,false,false⟩:=by kernel_rfl
@[simp] theorem cz110:Program.cellsOf Tryz.prog 110=1:=by kernel_rfl
@[simp] theorem ty111:aF Tryz.prog 111=some ⟨.int .u64,1,8,.i .u64 0,true,false,false⟩:=by kernel_rfl
@[simp] theorem cz111:Program.cellsOf Tryz.prog 111=1:=by kernel_rfl
@[simp] theorem ty112:aF Tryz.prog 112=some ⟨.other,1,0,.u,false,false,false⟩:=by kernel_rfl
@[simp] theorem cz112:Program.cellsOf Tryz.prog 112=1:=by kernel_rfl
@[simp] theorem ty113:aF Tryz.prog 113=some ⟨.fn,1,8,.fn0,false,false,false⟩:=by kernel_rfl
@[simp] theorem cz113:Program.cellsOf Tryz.prog 113=1:=by kernel_rfl
@[simp] theorem ty114:aF Tryz.prog 114=some ⟨.arr 18 9,18,288,.ag [.s [],.s [],.s [],.s [],.s [],.s [],.s [],.s [],.s [],.s [],.s [],.s [],.s [],.s [],.s [],.s [],.s [],.s []],true,false,false⟩:=by kernel_rfl
@[simp] theorem cz114:Program.cellsOf Tryz.prog 114=18:=by kernel_rfl
@[simp] theorem ty115:aF Tryz.prog 115=some ⟨.arr 18 3,18,144,.ag [.i .i64 0,.i .i64 0,.i .i64 0,.i .i64 0,.i .i64 0,.i .i64 0,.i .i64 0,.i .i64 0,.i .i64 0,.i .i64 0,.i .i64 0,.i .i64 0,.i .i64 0,.i .i64 0,.i .i64 0,.i .i64 0,.i .i64 0,.i .i64 0],true,false,false⟩:=by kernel_rfl
@[simp] theorem cz115:Program.cellsOf Tryz.prog 115=18:=by kernel_rfl
@[simp] theorem ty116:aF Tryz.prog 116=some ⟨.other,1,0,.u,false,false,false⟩:=by kernel_rfl
@[simp] theorem cz116:Program.cellsOf Tryz.prog 116=1:=by kernel_rfl
@[simp] theorem ty117:aF Tryz.prog 117=some ⟨.fn,1,8,.fn0,false,false,false⟩:=by kernel_rfl
@[simp] theorem cz117:Program.cellsOf Tryz.prog 117=1:=by kernel_rfl
@[simp] theorem ty118:aF Tryz.prog 118=some ⟨.fn,1,8,.fn0,false,false,false⟩:=by kernel_rfl
@[simp] theorem cz118:Program.cellsOf Tryz.prog 118=1:=by kernel_rfl
@[simp] theorem ty119:aF Tryz.prog 119=some ⟨.ptr 101,1,8,.p0,true,false,false⟩:=by kernel_rfl
@[simp] theorem cz119:Program.cellsOf Tryz.prog 119=1:=by kernel_rfl
@[simp] theorem ty120:aF Tryz.prog 120=some ⟨.fn,1,8,.fn0,false,false,false⟩:=by kernel_rfl
@[simp] theorem cz120:Program.cellsOf Tryz.prog 120=1:=by kernel_rfl
@[simp] theorem ty121:aF Tryz.prog 121=some ⟨.fn,1,8,.fn0,false,false,false⟩:=by kernel_rfl
@[simp] theorem cz121:Program.cellsOf Tryz.prog 121=1:=by kernel_rfl
@[simp] theorem ty122:aF Tryz.prog 122=some ⟨.other,1,0,.u,false,false,false⟩:=by kernel_rfl
@[simp] theorem cz122:Program.cellsOf Tryz.prog 122=1:=by kernel_rfl
@[simp] theorem ty123:aF Tryz.prog 123=some ⟨.fn,1,8,.fn0,false,false,false⟩:=by kernel_rfl
@[simp] theorem cz123:Program.cellsOf Tryz.prog 123=1:=by kernel_rfl
@[simp] theorem ty124:aF Tryz.prog 124=some ⟨.fn,1,8,.fn0,false,false,false⟩:=by kernel_rfl
@[simp] theorem cz124:Program.cellsOf Tryz.prog 124=1:=by kernel_rfl
@[simp] theorem ty125:aF Tryz.prog 125=some ⟨.fn,1,8,.fn0,false,false,false⟩:=by kernel_rfl
@[simp] theorem cz125:Program.cellsOf Tryz.prog 125=1:=by kernel_rfl
@[simp] theorem ty126:aF Tryz.prog 126=some ⟨.fn,1,8,.fn0,false,false,false⟩:=by kernel_rfl
@[simp] theorem cz126:Program.cellsOf Tryz.prog 126=1:=by kernel_rfl
@[simp] theorem ty127:aF Tryz.prog 127=some ⟨.fn,1,8,.fn0,false,false,false⟩:=by kernel_rfl
@[simp] theorem cz127:Program.cellsOf Tryz.prog 127=1:=by kernel_rfl
@[simp] theorem ty128:aF Tryz.prog 128=some ⟨.fn,1,8,.fn0,false,false,false⟩:=by kernel_rfl
@[simp] theorem cz128:Program.cellsOf Tryz.prog 128=1:=by kernel_rfl
@[simp] theorem ty129:aF Tryz.prog 129=some ⟨.fn,1,8,.fn0,false,false,false⟩:=by kernel_rfl
@[simp] theorem cz129:Program.cellsOf Tryz.prog 129=1:=by kernel_rfl
@[simp] theorem ty130:aF Tryz.prog 130=some ⟨.ptr 5,1,8,.p0,true,false,false⟩:=by kernel_rfl
@[simp] theorem cz130:Program.cellsOf Tryz.prog 130=1:=by kernel_rfl
@[simp] theorem ty131:aF Tryz.prog 131=some ⟨.fn,1,8,.fn0,false,false,false⟩:=by kernel_rfl
@[simp] theorem cz131:Program.cellsOf Tryz.prog 131=1:=by kernel_rfl
@[simp] theorem ty132:aF Tryz.prog 132=some ⟨.fn,1,8,.fn0,false,false,false⟩:=by kernel_rfl
@[simp] theorem cz132:Program.cellsOf Tryz.prog 132=1:=by kernel_rfl
@[simp] theorem ty133:aF Tryz.prog 133=some ⟨.fn,1,8,.fn0,false,false,false⟩:=by kernel_rfl
@[simp] theorem cz133:Program.cellsOf Tryz.prog 133=1:=by kernel_rfl
@[simp] theorem ty134:aF Tryz.prog 134=some ⟨.fn,1,8,.fn0,false,false,false⟩:=by kernel_rfl
@[simp] theorem cz134:Program.cellsOf Tryz.prog 134=1:=by kernel_rfl
@[simp] theorem ty135:aF Tryz.prog 135=some ⟨.fn,1,8,.fn0,false,false,false⟩:=by kernel_rfl
@[simp] theorem cz135:Program.cellsOf Tryz.prog 135=1:=by kernel_rfl
@[simp] theorem ty136:aF Tryz.prog 136=some ⟨.fn,1,8,.fn0,false,false,false⟩:=by kernel_rfl
@[simp] theorem cz136:Program.cellsOf Tryz.prog 136=1:=by kernel_rfl
@[simp] theorem ty137:aF Tryz.prog 137=some ⟨.slice 106,1,24,.sl0,false,false,false⟩:=by kernel_rfl
@[simp] theorem cz137:Program.cellsOf Tryz.prog 137=1:=by kernel_rfl
@[simp] theorem ty138:aF Tryz.prog 138=some ⟨.fn,1,8,.fn0,false,false,false⟩:=by kernel_rfl
@[simp] theorem cz138:Program.cellsOf Tryz.prog 138=1:=by kernel_rfl
@[simp] theorem ty139:aF Tryz.prog 139=some ⟨.fn,1,8,.fn0,false,false,false⟩:=by kernel_rfl
@[simp] theorem cz139:Program.cellsOf Tryz.prog 139=1:=by kernel_rfl
@[simp] theorem ty140:aF Tryz.prog 140=some ⟨.fn,1,8,.fn0,false,false,false⟩:=by kernel_rfl
@[simp] theorem cz140:Program.cellsOf Tryz.prog 140=1:=by kernel_rfl
@[simp] theorem ty141:aF Tryz.prog 141=some ⟨.fn,1,8,.fn0,false,false,false⟩:=by kernel_rfl
@[simp] theorem cz141:Program.cellsOf Tryz.prog 141=1:=by kernel_rfl
@[simp] theorem ty142:aF Tryz.prog 142=some ⟨.other,1,8,.p0,true,false,false⟩:=by kernel_rfl
@[simp] theorem cz142:Program.cellsOf Tryz.prog 142=1:=by kernel_rfl
@[simp] theorem ty143:aF Tryz.prog 143=some ⟨.int .u64,1,8,.i .u64 0,true,false,false⟩:=by kernel_rfl
@[simp] theorem cz143:Program.cellsOf Tryz.prog 143=1:=by kernel_rfl
@[simp] theorem ty146:aF Tryz.prog 146=some ⟨.fn,1,8,.fn0,false,false,false⟩:=by kernel_rfl
@[simp] theorem cz146:Program.cellsOf Tryz.prog 146=1:=by kernel_rfl
@[simp] theorem ty147:aF Tryz.prog 147=some ⟨.qP [("AssignableTo",152),("Comparable",28),("Elem",149),("Implements",152),("Kind",151),("Name",95),("PkgPath",95),("Size",269),("String",95),("internal/reflectlite.common",262),("internal/reflectlite.uncommon",270)],1,16,.eG,true,false,true⟩:=by kernel_rfl
@[simp] theorem cz147:Program.cellsOf Tryz.prog 147=1:=by kernel_rfl
@[simp] theorem ty148:aF Tryz.prog 148=some ⟨.qP [("AssignableTo",152),("Comparable",28),("Elem",149),("Implements",152),("Kind",151),("Name",95),("PkgPath",95),("Size",269),("String",95),("internal/reflectlite.common",262),("internal/reflectlite.uncommon",270)],1,16,.eG,true,false,true⟩:=by kernel_rfl
@[simp] theorem cz148:Program.cellsOf Tryz.prog 148=1:=by kernel_rfl
@[simp] theorem ty149:aF Tryz.prog 149=some ⟨.fn,1,8,.fn0,false,false,false⟩:=by kernel_rfl
@[simp] theorem cz149:Program.cellsOf Tryz.prog 149=1:=by kernel_rfl
@[simp] theorem ty150:aF Tryz.prog 150=some ⟨.int .u8,1,1,.i .u8 0,true,false,false⟩:=by kernel_rfl
@[simp] theorem cz150:Program.cellsOf Tryz.prog 150=1:=by kernel_rfl
@[simp] theorem ty151:aF Tryz.prog 151=some ⟨.fn,1,8,.fn0,false,false,false⟩:=by kernel_rfl
@[simp] theorem cz151:Program.cellsOf Tryz.prog 151=1:=by kernel_rfl
@[simp] theorem ty152:aF Tryz.prog 152=some ⟨.fn,1,8,.fn0,false,false,false⟩:=by kernel_rfl
@[simp] theorem cz152:Program.cellsOf Tryz.prog 152=1:=by kernel_rfl
@[simp] theorem ty153:aF Tryz.prog 153=some ⟨.fn,1,8,.fn0,false,false,false⟩:=by kernel_rfl
@[simp] theorem cz153:Program.cellsOf Tryz.prog 153=1:=by kernel_rfl
@[simp] theorem ty154:aF Tryz.prog 154=some ⟨.fn,1,8,.fn0,false,false,false⟩:=by kernel_rfl
@[simp] theorem cz154:Program.cellsOf Tryz.prog 154=1:=by kernel_rfl
@[simp] theorem ty155:aF Tryz.prog 155=some ⟨.fn,1,8,.fn0,false,false,false⟩:=by kernel_rfl
@[simp] theorem cz155:Program.cellsOf Tryz.prog 155=1:=by kernel_rfl
@[simp] theorem ty156:aF Tryz.prog 156=some ⟨.fn,1,8,.fn0,false,false,false⟩:=by kernel_rfl
@[simp] theorem cz156:Program.cellsOf Tryz.prog 156=1:=by kernel_rfl
@[simp] theorem ty157:aF Tryz.prog 157=some ⟨.fn,1,8,.fn0,false,false,false⟩:=by kernel_rfl
@[simp] theorem cz157:Program.cellsOf Tryz.prog 157=1:=by kernel_rfl
@[simp] theorem ty158:aF Tryz.prog 158=some ⟨.fn,1,8,.fn0,false,false,false⟩:=by kernel_rfl
@[simp] theorem cz158:Program.cellsOf Tryz.prog 158=1:=by kernel_rfl
@[simp] theorem ty159:aF Tryz.prog 159=some ⟨.fn,1,8,.fn0,false,false,false⟩:=by kernel_rfl
@[simp] theorem cz159:Program.cellsOf Tryz.prog 159=1:=by kernel_rfl
@[simp] theorem ty160:aF Tryz.prog 160=some ⟨.fn,1,8,.fn0,false,false,false⟩:=by kernel_rfl
@[simp] theorem cz160:Program.cellsOf Tryz.prog 160=1:=by kernel_rfl
@[simp] theorem ty161:aF Tryz.prog 161=some ⟨.other,1,0,.u,false,false,false⟩:=by kernel_rfl
@[simp] theorem cz161:Program.cellsOf Tryz.prog 161=1:=by kernel_rfl
@[simp] theorem ty162:aF Tryz.prog 162=some ⟨.fn,1,8,.fn0,false,false,false⟩:=by kernel_rfl
@[simp] theorem cz162:Program.cellsOf Tryz.prog 162=1:=by kernel_rfl
@[simp] theorem ty163:aF Tryz.prog 163=some ⟨.fn,1,8,.fn0,false,false,false⟩:=by kernel_rfl
@[simp] theorem cz163:Program.cellsOf Tryz.prog 163=1:=by kernel_rfl
@[simp] theorem ty164:aF Tryz.prog 164=some ⟨.fn,1,8,.fn0,false,false,false⟩:=by kernel_rfl
@[simp] theorem cz164:Program.cellsOf Tryz.prog 164=1:=by kernel_rfl
@[simp] theorem ty165:aF Tryz.prog 165=some ⟨.fn,1,8,.fn0,false,false,false⟩:=by kernel_rfl
@[simp] theorem cz165:Program.cellsOf Tryz.prog 165=1:=by kernel_rfl
@[simp] theorem ty166:aF Tryz.prog 166=some ⟨.fn,1,8,.fn0,false,false,false⟩:=by kernel_rfl
@[simp] theorem cz166:Program.cellsOf Tryz.prog 166=1:=by kernel_rfl
@[simp] theorem ty167:aF Tryz.prog 167=some ⟨.fn,1,8,.fn0,false,false,false⟩:=by kernel_rfl
@[simp] theorem cz167:Program.cellsOf Tryz.prog 167=1:=by kernel_rfl
@[simp] theorem ty168:aF Tryz.prog 168=some ⟨.fn,1,8,.fn0,false,false,false⟩:=by kernel_rfl
@[simp] theorem cz168:Program.cellsOf Tryz.prog 168=1:=by kernel_rfl
@[simp] theorem ty169:aF Tryz.prog 169=some ⟨.fn,1,8,.fn0,false,false,false⟩:=by kernel_rfl
@[simp] theorem cz169:Program.cellsOf Tryz.prog 169=1:=by kernel_rfl
@[simp] theorem ty170:aF Tryz.prog 170=some ⟨.arr 256 5,256,256,.ag [.i .u8 0,.i .u8 0,.i .u8 0,.i .u8 0,.i .u8 0,.i .u8 0,.i .u8 0,.i .u8 0,.i .u8 0,.i .u8 0,.i .u8 0,.i .u8 0,.i .u8 0,.i .u8 0,.i .u8 0,.i .u8 0,.i .u8 0,.i .u8 0,.i .u8 0,.i .u8 0,.i .u8 0,.i .u8 0,.i .u8 0,.i .u8 0,.i .u8 0,.i .u8 0,.i .u8 0,.i .u8 0,.i .u8 0,.i .u8 0,.i .u8 0,.i .u8 0,.i .u8 0,.i .u8 0,.i .u8 0,.i .u8 0,.i .u8 0,.i .u8 0,.i .u8 0,.i .u8 0,.i .u8 0,.i .u8 0,.i .u8 0,.i .u8 0,.i .u8 0,.i .u8 0,.i .u8 0,.i .u8 0,.i .u8 0,.i .u8 0,.i .u8 0,.i .u8 0,.i .u8 0,.i .u8 0,.i .u8 0,.i .u8 0,.i .u8 0,.i .u8 0,.i .u8 0,.i .u8 0,.i .u8 0,.i .u8 0,.i .u8 0,.i .u8 0,.i .u8 0,.i .u8 0,.i .u8 0,.i .u8 0,.i .u8 0,.i .u8 0,.i .u8 0,.i .u8 0,.i .u8 0,.i .u8 0,.i .u8 0,.i .u8 0,.i .u8 0,.i .u8 0,.i .u8 0,.i .u8 0,.i .u8 0,.i .u8 0,.i .u8 0,.i .u8 0,.i .u8 0,.i .u8 0,.i .u8 0,.i .u8 0,.i .u8 0,.i .u8 0,.i .u8 0,.i .u8 0,.i .u8 0,.i .u8 0,.i .u8 0,.i .u8 0,.i .u8 0,.i .u8 0,.i .u8 0,.i .u8 0,.i .u8 0,.i .u8 0,.i .u8 0,.i .u8 0,.i .u8 0,.i .u8 0,.i .u8 0,.i .u8 0,.i .u8 0,.i .u8 0,.i .u8 0,.i .u8 0,.i .u8 0,.i .u8 0,.i .u8 0,.i .u8 0,.i .u8 0,.i .u8 0,.i .u8 0,.i .u8 0,.i .u8 0,.i .u8 0,.i .u8 0,.i .u8 0,.i .u8 0,.i .u8 0,.i .u8 0,.i .u8 0,.i .u8 0,.i .u8 0,.i .u8 0,.i .u8 0,.i .u8 0,.i .u8 0,.i .u8 0,.i .u8 0,.i .u8 0,.i .u8 0,.i .u8 0,.i .u8 0,.i .u8 0,.i .u8 0,.i .u8 0,.i .u8 0,.i .u8 0,.i .u8 0,.i .u8 0,.i .u8 0,.i .u8 0,.i .u8 0,.i .u8 0,.i .u8 0,.i .u8 0,.i .u8 0,.i .u8 0,.i .u8 0,.i .u8 0,.i .u8 0,.i .u8 0,.i .u8 0,.i .u8 0,.i .u8 0,.i .u8 0,.i .u8 0,.i .u8 0,.i .u8 0,.i .u8 0,.i .u8 0,.i .u8 0,.i .u8 0,.i .u8 0,.i .u8 0,.i .u8 0,.i .u8 0,.i .u8 0,.i .u8 0,.i .u8 0,.i .u8 0,.i .u8 0,.i .u8 0,.i .u8 0,.i .u8 0,.i .u8 0,.i .u8 0,.i .u8 0,.i .u8 0,.i .u8 0,.i .u8 0,.i .u8 0,.i .u8 0,.i .u8 0,.i .u8 0,.i .u8 0,.i .u8 0,.i .u8 0,.i .u8 0,.i .u8 0,.i .u8 0,.i .u8 0,.i .u8 0,.i .u8 0,.i .u8 0,.i .u8 0,.i .u8 0,.i .u8 0,.i .u8 0,.i .u8 0,.i .u8 0,.i .u8 0,.i .u8 0,.i .u8 0,.i .u8 0,.i .u8 0,.i .u8 0,.i .u8 0,.i .u8 0,.i .u8 0,.i .u8 0,.i .u8 0,.i .u8 0,.i .u8 0,.i .u8 0,.i .u8 0,.i .u8 0,.i .u8 0,.i .u8 0,.i .u8 0,.i .u8 0,.i .u8 0,.i .u8 0,.i .u8 0,.i .u8 0,.i .u8 0,.i .u8 0,.i .u8 0,.i .u8 0,.i .u8 0,.i .u8 0,.i .u8 0,.i .u8 0,.i .u8 0,.i .u8 0,.i .u8 0,.i .u8 0,.i .u8 0,.i .u8 0,.i .u8 0,.i .u8 0,.i .u8 0,.i .u8 0,.i .u8 0,.i .u8 0,.i .u8 0,.i .u8 0,.i .u8 0,.i .u8 0],true,false,false⟩:=by kernel_rfl
@[simp] theorem cz170:Program.cellsOf Tryz.prog 170=256:=by kernel_rfl
@[simp] theorem ty171:aF Tryz.prog 171=some ⟨.fn,1,8,.fn0,false,false,false⟩:=by kernel_rfl
@[simp] theorem cz171:Program.cellsOf Tryz.prog 171=1:=by kernel_rfl
@[simp] theorem ty172:aF Tryz.prog 172=some ⟨.fn,1,8,.fn0,false,false,false⟩:=by kernel_rfl
@[simp] theorem cz172:Program.cellsOf Tryz.prog 172=1:=by kernel_rfl
@[simp] theorem ty173:aF Tryz.prog 173=some ⟨.int .i64,1,8,.i .i64 0,true,false,false⟩:=by kernel_rfl
@[simp] theorem cz173:Program.cellsOf Tryz.prog 173=1:=by kernel_rfl
@[simp] theorem ty174:aF Tryz.prog 174=some ⟨.fn,1,8,.fn0,false,false,false⟩:=by kernel_rfl
@[simp] theorem cz174:Program.cellsOf Tryz.prog 174=1:=by kernel_rfl
@[simp] theorem ty175:aF Tryz.prog 175=some ⟨.int .u64,1,8,.i .u64 0,true,false,false⟩:=by kernel_rfl
@[simp] theorem cz175:Program.cellsOf Tryz.prog 175=1:=by kernel_rfl
@[simp] theorem ty176:aF Tryz.prog 176=some ⟨.ptr 211,1,8,.p0,true,false,false⟩:=by kernel_rfl
@[simp] theorem cz176:Program.cellsOf Tryz.prog 176=1:=by kernel_rfl
@[simp] theorem ty177:aF Tryz.prog 177=some ⟨.fn,1,8,.fn0,false,false,false⟩:=by kernel_rfl
@[simp] theorem cz177:Program.cellsOf Tryz.prog 177=1:=by kernel_rfl
@[simp] theorem ty178:aF Tryz.prog 178=some ⟨.fn,1,8,.fn0,false,false,false⟩:=by kernel_rfl
@[simp] theorem cz178:Program.cellsOf Tryz.prog 178=1:=by kernel_rfl
@[simp] theorem ty181:aF Tryz.prog 181=some ⟨.ptr 272,1,8,.p0,true,false,false⟩:=by kernel_rfl
@[simp] theorem cz181:Program.cellsOf Tryz.prog 181=1:=by kernel_rfl
@[simp] theorem ty182:aF Tryz.prog 182=some ⟨.fn,1,8,.fn0,false,false,false⟩:=by kernel_rfl
@[simp] theorem cz182:Program.cellsOf Tryz.prog 182=1:=by kernel_rfl
@[simp] theorem ty183:aF Tryz.prog 183=some ⟨.fn,1,8,.fn0,false,false,false⟩:=by kernel_rfl
@[simp] theorem cz183:Program.cellsOf Tryz.prog 183=1:=by kernel_rfl
@[simp] theorem ty184:aF Tryz.prog 184=some ⟨.qP [("As",186)],1,16,.eG,true,false,true⟩:=by kernel_rfl
@[simp] theorem cz184:Program.cellsOf Tryz.prog 184=1:=by kernel_rfl
@[simp] theorem ty185:aF Tryz.prog 185=some ⟨.other,1,0,.u,false,false,false⟩:=by kernel_rfl
@[simp] theorem cz185:Program.cellsOf Tryz.prog 185=1:=by kernel_rfl
@[simp] theorem ty186:aF Tryz.prog 186=some ⟨.fn,1,8,.fn0,false,false,false⟩:=by kernel_rfl
@[simp] theorem cz186:Program.cellsOf Tryz.prog 186=1:=by kernel_rfl
@[simp] theorem ty187:aF Tryz.prog 187=some ⟨.qP [("Unwrap",188)],1,16,.eG,true,false,true⟩:=by kernel_rfl
@[simp] theorem cz187:Program.cellsOf Tryz.prog 187=1:=by kernel_rfl
@[simp] theorem ty188:aF Tryz.prog 188=some ⟨.fn,1,8,.fn0,false,false,false⟩:=by kernel_rfl
@[simp] theorem cz188:Program.cellsOf Tryz.prog 188=1:=by kernel_rfl
@[simp] theorem ty189:aF Tryz.prog 189=some ⟨.qP [("Unwrap",191)],1,16,.eG,true,false,true⟩:=by kernel_rfl
@[simp] theorem cz189:Program.cellsOf Tryz.prog 189=1:=by kernel_rfl
@[simp] theorem ty190:aF Tryz.prog 190=some ⟨.slice 36,1,24,.sl0,false,false,false⟩:=by kernel_rfl
@[simp] theorem cz190:Program.cellsOf Tryz.prog 190=1:=by kernel_rfl
@[simp] theorem ty191:aF Tryz.prog 191=some ⟨.fn,1,8,.fn0,false,false,false⟩:=by kernel_rfl
@[simp] theorem cz191:Program.cellsOf Tryz.prog 191=1:=by kernel_rfl
@[simp] theorem ty192:aF Tryz.prog 192=some ⟨.qP [("Is",194)],1,16,.eG,true,false,true⟩:=by kernel_rfl
@[simp] theorem cz192:Program.cellsOf Tryz.prog 192=1:=by kernel_rfl
@[simp] theorem ty193:aF Tryz.prog 193=some ⟨.other,1,0,.u,false,false,false⟩:=by kernel_rfl
@[simp] theorem cz193:Program.cellsOf Tryz.prog 193=1:=by kernel_rfl
@[simp] theorem ty194:aF Tryz.prog 194=some ⟨.fn,1,8,.fn0,false,false,false⟩:=by kernel_rfl
@[simp] theorem cz194:Program.cellsOf Tryz.prog 194=1:=by kernel_rfl
@[simp] theorem ty195:aF Tryz.prog 195=some ⟨.fn,1,8,.fn0,false,false,false⟩:=by kernel_rfl
@[simp] theorem cz195:Program.cellsOf Tryz.prog 195=1:=by kernel_rfl
@[simp] theorem ty196:aF Tryz.prog 196=some ⟨.fn,1,8,.fn0,false,false,false⟩:=by kernel_rfl
@[simp] theorem cz196:Program.cellsOf Tryz.prog 196=1:=by kernel_rfl
@[simp] theorem ty197:aF Tryz.prog 197=some ⟨.fn,1,8,.fn0,false,false,false⟩:=by kernel_rfl
@[simp] theorem cz197:Program.cellsOf Tryz.prog 197=1:=by kernel_rfl
@[simp] theorem ty198:aF Tryz.prog 198=some ⟨.fn,1,8,.fn0,false,false,false⟩:=by kernel_rfl
@[simp] theorem cz198:Program.cellsOf Tryz.prog 198=1:=by kernel_rfl
@[simp] theorem ty199:aF Tryz.prog 199=some ⟨.fn,1,8,.fn0,false,false,false⟩:=by kernel_rfl
@[simp] theorem cz199:Program.cellsOf Tryz.prog 199=1:=by kernel_rfl
@[simp] theorem ty200:aF Tryz.prog 200=some ⟨.fn,1,8,.fn0,false,false,false⟩:=by kernel_rfl
@[simp] theorem cz200:Program.cellsOf Tryz.prog 200=1:=by kernel_rfl
@[simp] theorem ty201:aF Tryz.prog 201=some ⟨.fn,1,8,.fn0,false,false,false⟩:=by kernel_rfl
@[simp] theorem cz201:Program.cellsOf Tryz.prog 201=1:=by kernel_rfl
@[simp] theorem ty202:aF Tryz.prog 202=some ⟨.fn,1,8,.fn0,false,false,false⟩:=by kernel_rfl
@[simp] theorem cz202:Program.cellsOf Tryz.prog 202=1:=by kernel_rfl
@[simp] theorem ty203:aF Tryz.prog 203=some ⟨.fn,1,8,.fn0,false,false,false⟩:=by kernel_rfl
@[simp] theorem cz203:Program.cellsOf Tryz.prog 203=1:=by kernel_rfl
@[simp] theorem ty204:aF Tryz.prog 204=some ⟨.fn,1,8,.fn0,false,false,false⟩:=by kernel_rfl
@[simp] theorem cz204:Program.cellsOf Tryz.prog 204=1:=by kernel_rfl
@[simp] theorem ty205:aF Tryz.prog 205=some ⟨.slice 207,1,24,.sl0,false,false,false⟩:=by kernel_rfl
@[simp] theorem cz205:Program.cellsOf Tryz.prog 205=1:=by kernel_rfl
@[simp] theorem ty206:aF Tryz.prog 206=some ⟨.st [(0,3,false),(1,3,false)],2,16,.ag [.i .i64 0,.i .i64 0],true,false,false⟩:=by kernel_rfl
@[simp] theorem cz206:Program.cellsOf Tryz.prog 206=2:=by kernel_rfl
@[simp] theorem ty207:aF Tryz.prog 207=some ⟨.st [(0,3,false),(1,3,false)],2,16,.ag [.i .i64 0,.i .i64 0],true,false,false⟩:=by kernel_rfl
@[simp] theorem cz207:Program.cellsOf Tryz.prog 207=2:=by kernel_rfl
@[simp] theorem ty208:aF Tryz.prog 208=some ⟨.fn,1,8,.fn0,false,false,false⟩:=by kernel_rfl
@[simp] theorem cz208:Program.cellsOf Tryz.prog 208=1:=by kernel_rfl
@[simp] theorem ty209:aF Tryz.prog 209=some ⟨.ptr 222,1,8,.p0,true,false,false⟩:=by kernel_rfl
@[simp] theorem cz209:Program.cellsOf Tryz.prog 209=1:=by kernel_rfl
@[simp] theorem ty210:aF Tryz.prog 210=some ⟨.st [(0,9,false),(1,9,false),(2,36,false)],3,48,.ag [.s [],.s [],.eG],true,false,true⟩:=by kernel_rfl
@[simp] theorem cz210:Program.cellsOf Tryz.prog 210=3:=by kernel_rfl
@[simp] theorem ty211:aF Tryz.prog 211=some ⟨.st [(0,9,false),(1,9,false),(2,36,false)],3,48,.ag [.s [],.s [],.eG],true,false,true⟩:=by kernel_rfl
@[simp] theorem cz211:Program.cellsOf Tryz.prog 211=3:=by kernel_rfl
@[simp] theorem ty212:aF Tryz.prog 212=some ⟨.fn,1,8,.fn0,false,false,false⟩:=by kernel_rfl
@[simp] theorem cz212:Program.cellsOf Tryz.prog 212=1:=by kernel_rfl
@[simp] theorem ty213:aF Tryz.prog 213=some ⟨.fn,1,8,.fn0,false,false,false⟩:=by kernel_rfl
@[simp] theorem cz213:Program.cellsOf Tryz.prog 213=1:=by kernel_rfl
@[simp] theorem ty214:aF Tryz.prog 214=some ⟨.fn,1,8,.fn0,false,false,false⟩:=by kernel_rfl
@[simp] theorem cz214:Program.cellsOf Tryz.prog 214=1:=by kernel_rfl
@[simp] theorem ty215:aF Tryz.prog 215=some ⟨.other,1,0,.u,false,false,false⟩:=by kernel_rfl
@[simp] theorem cz215:Program.cellsOf Tryz.prog 215=1:=by kernel_rfl
@[simp] theorem ty216:aF Tryz.prog 216=some ⟨.fn,1,8,.fn0,false,false,false⟩:=by kernel_rfl
@[simp] theorem cz216:Program.cellsOf Tryz.prog 216=1:=by kernel_rfl
@[simp] theorem ty217:aF Tryz.prog 217=some ⟨.fn,1,8,.fn0,false,false,false⟩:=by kernel_rfl
@[simp] theorem cz217:Program.cellsOf Tryz.prog 217=1:=by kernel_rfl
@[simp] theorem ty218:aF Tryz.prog 218=some ⟨.fn,1,8,.fn0,false,false,false⟩:=by kernel_rfl
@[simp] theorem cz218:Program.cellsOf Tryz.prog 218=1:=by kernel_rfl
@[simp] theorem ty219:aF Tryz.prog 219=some ⟨.slice 225,1,24,.sl0,false,false,false⟩:=by kernel_rfl
@[simp] theorem cz219:Program.cellsOf Tryz.prog 219=1:=by kernel_rfl
@[simp] theorem ty220:aF Tryz.prog 220=some ⟨.slice 228,1,24,.sl0,false,false,false⟩:=by kernel_rfl
@[simp] theorem cz220:Program.cellsOf Tryz.prog 220=1:=by kernel_rfl
@[simp] theorem ty221:aF Tryz.prog 221=some ⟨.st [(0,219,false),(1,220,false),(2,3,false)],3,56,.ag [.sl0,.sl0,.i .i64 0],false,false,false⟩:=by kernel_rfl
@[simp] theorem cz221:Program.cellsOf Tryz.prog 221=3:=by kernel_rfl
@[simp] theorem ty222:aF Tryz.prog 222=some ⟨.st [(0,219,false),(1,220,false),(2,3,false)],3,56,.ag [.sl0,.sl0,.i .i64 0],false,false,false⟩:=by kernel_rfl
@[simp] theorem cz222:Program.cellsOf Tryz.prog 222=3:=by kernel_rfl
@[simp] theorem ty223:aF Tryz.prog 223=some ⟨.int .u16,1,2,.i .u16 0,true,false,false⟩:=by kernel_rfl
@[simp] theorem cz223:Program.cellsOf Tryz.prog 223=1:=by kernel_rfl
@[simp] theorem ty224:aF Tryz.prog 224=some ⟨.st [(0,223,false),(1,223,false),(2,223,false)],3,6,.ag [.i .u16 0,.i .u16 0,.i .u16 0],true,false,false⟩:=by kernel_rfl
@[simp] theorem cz224:Program.cellsOf Tryz.prog 224=3:=by kernel_rfl
@[simp] theorem ty225:aF Tryz.prog 225=some ⟨.st [(0,223,false),(1,223,false),(2,223,false)],3,6,.ag [.i .u16 0,.i .u16 0,.i .u16 0],true,false,false⟩:=by kernel_rfl
@[simp] theorem cz225:Program.cellsOf Tryz.prog 225=3:=by kernel_rfl
@[simp] theorem ty226:aF Tryz.prog 226=some ⟨.fn,1,8,.fn0,false,false,false⟩:=by kernel_rfl
@[simp] theorem cz226:Program.cellsOf Tryz.prog 226=1:=by kernel_rfl
@[simp] theorem ty227:aF Tryz.prog 227=some ⟨.st [(0,47,false),(1,47,false),(2,47,false)],3,12,.ag [.i .u32 0,.i .u32 0,.i .u32 0],true,false,false⟩:=by kernel_rfl
@[simp] theorem cz227:Program.cellsOf Tryz.prog 227=3:=by kernel_rfl
@[simp] theorem ty228:aF Tryz.prog 228=some ⟨.st [(0,47,false),(1,47,false),(2,47,false)],3,12,.ag [.i .u32 0,.i .u32 0,.i .u32 0],true,false,false⟩:=by kernel_rfl
@[simp] theorem cz228:Program.cellsOf Tryz.prog 228=3:=by kernel_rfl
@[simp] theorem ty229:aF Tryz.prog 229=some ⟨.fn,1,8,.fn0,false,false,false⟩:=by kernel_rfl
@[simp] theorem cz229:Program.cellsOf Tryz.prog 229=1:=by kernel_rfl
@[simp] theorem ty230:aF Tryz.prog 230=some ⟨.ptr 232,1,8,.p0,true,false,false⟩:=by kernel_rfl
@[simp] theorem cz230:Program.cellsOf Tryz.prog 230=1:=by kernel_rfl
@[simp] theorem ty231:aF Tryz.prog 231=some ⟨.st [(0,9,false)],1,16,.ag [.s []],true,false,false⟩:=by kernel_rfl
@[simp] theorem cz231:Program.cellsOf Tryz.prog 231=1:=by kernel_rfl
@[simp] theorem ty232:aF Tryz.prog 232=some ⟨.st [(0,9,false)],1,16,.ag [.s []],true,false,false⟩:=by kernel_rfl
@[simp] theorem cz232:Program.cellsOf Tryz.prog 232=1:=by kernel_rfl
@[simp] theorem ty233:aF Tryz.prog 233=some ⟨.fn,1,8,.fn0,false,false,false⟩:=by kernel_rfl
@[simp] theorem cz233:Program.cellsOf Tryz.prog 233=1:=by kernel_rfl
@[simp] theorem ty234:aF Tryz.prog 234=some ⟨.other,1,0,.u,false,false,false⟩:=by kernel_rfl
@[simp] theorem cz234:Program.cellsOf Tryz.prog 234=1:=by kernel_rfl
@[simp] theorem ty235:aF Tryz.prog 235=some ⟨.fn,1,8,.fn0,false,false,false⟩:=by kernel_rfl
@[simp] theorem cz235:Program.cellsOf Tryz.prog 235=1:=by kernel_rfl
@[simp] theorem ty236:aF Tryz.prog 236=some ⟨.other,1,0,.u,false,false,false⟩:=by kernel_rfl
@[simp] theorem cz236:Program.cellsOf Tryz.prog 236=1:=by kernel_rfl
@[simp] theorem ty237:aF Tryz.prog 237=some ⟨.fn,1,8,.fn0,false,false,false⟩:=by kernel_rfl
@[simp] theorem cz237:Program.cellsOf Tryz.prog 237=1:=by kernel_rfl
@[simp] theorem ty238:aF Tryz.prog 238=some ⟨.map 9 3,1,8,.wB,false,false,false⟩:=by kernel_rfl
@[simp] theorem cz238:Program.cellsOf Tryz.prog 238=1:=by kernel_rfl
@[simp] theorem ty239:aF Tryz.prog 239=some ⟨.ptr 225,1,8,.p0,true,false,false⟩:=by kernel_rfl
@[simp] theorem cz239:Program.cellsOf Tryz.prog 239=1:=by kernel_rfl
@[simp] theorem ty240:aF Tryz.prog 240=some ⟨.ptr 228,1,8,.p0,true,false,false⟩:=by kernel_rfl
@[simp] theorem cz240:Program.cellsOf Tryz.prog 240=1:=by kernel_rfl
@[simp] theorem ty241:aF Tryz.prog 241=some ⟨.fn,1,8,.fn0,false,false,false⟩:=by kernel_rfl
@[simp] theorem cz241:Program.cellsOf Tryz.prog 241=1:=by kernel_rfl
@[simp] theorem ty242:aF Tryz.prog 242=some ⟨.fn,1,8,.fn0,false,false,false⟩:=by kernel_rfl
@[simp] theorem cz242:Program.cellsOf Tryz.prog 242=1:=by kernel_rfl
@[simp] theorem ty243:aF Tryz.prog 243=some ⟨.arr 24 5,24,24,.ag [.i .u8 0,.i .u8 0,.i .u8 0,.i .u8 0,.i .u8 0,.i .u8 0,.i .u8 0,.i .u8 0,.i .u8 0,.i .u8 0,.i .u8 0,.i .u8 0,.i .u8 0,.i .u8 0,.i .u8 0,.i .u8 0,.i .u8 0,.i .u8 0,.i .u8 0,.i .u8 0,.i .u8 0,.i .u8 0,.i .u8 0,.i .u8 0],true,false,false⟩:=by kernel_rfl
@[simp] theorem cz243:Program.cellsOf Tryz.prog 243=24:=by kernel_rfl
@[simp] theorem ty244:aF Tryz.prog 244=some ⟨.fn,1,8,.fn0,false,false,false⟩:=by kernel_rfl
@[simp] theorem cz244:Program.cellsOf Tryz.prog 244=1:=by kernel_rfl
@[simp] theorem ty245:aF Tryz.prog 245=some ⟨.fn,1,8,.fn0,false,false,false⟩:=by kernel_rfl
@[simp] theorem cz245:Program.cellsOf Tryz.prog 245=1:=by kernel_rfl
@[simp] theorem ty246:aF Tryz.prog 246=some ⟨.other,1,0,.u,false,false,false⟩:=by kernel_rfl
@[simp] theorem cz246:Program.cellsOf Tryz.prog 246=1:=by kernel_rfl
@[simp] theorem ty247:aF Tryz.prog 247=some ⟨.fn,1,8,.fn0,false,false,false⟩:=by kernel_rfl
@[simp] theorem cz247:Program.cellsOf Tryz.prog 247=1:=by kernel_rfl
@[simp] theorem ty248:aF Tryz.prog 248=some ⟨.fn,1,8,.fn0,false,false,false⟩:=by kernel_rfl
@[simp] theorem cz248:Program.cellsOf Tryz.prog 248=1:=by kernel_rfl
@[simp] theorem ty249:aF Tryz.prog 249=some ⟨.fn,1,8,.fn0,false,false,false⟩:=by kernel_rfl
@[simp] theorem cz249:Program.cellsOf Tryz.prog 249=1:=by kernel_rfl
@[simp] theorem ty250:aF Tryz.prog 250=some ⟨.arr 20 111,20,160,.ag [.i .u64 0,.i .u64 0,.i .u64 0,.i .u64 0,.i .u64 0,.i .u64 0,.i .u64 0,.i .u64 0,.i .u64 0,.i .u64 0,.i .u64 0,.i .u64 0,.i .u64 0,.i .u64 0,.i .u64 0,.i .u64 0,.i .u64 0,.i .u64 0,.i .u64 0,.i .u64 0],true,false,false⟩:=by kernel_rfl
@[simp] theorem cz250:Program.cellsOf Tryz.prog 250=20:=by kernel_rfl
@[simp] theorem ty251:aF Tryz.prog 251=some ⟨.arr 65 5,65,65,.ag [.i .u8 0,.i .u8 0,.i .u8 0,.i .u8 0,.i .u8 0,.i .u8 0,.i .u8 0,.i .u8 0,.i .u8 0,.i .u8 0,.i .u8 0,.i .u8 0,.i .u8 0,.i .u8 0,.i .u8 0,.i .u8 0,.i .u8 0,.i .u8 0,.i .u8 0,.i .u8 0,.i .u8 0,.i .u8 0,.i .u8 0,.i .u8 0,.i .u8 0,.i .u8 0,.i .u8 0,.i .u8 0,.i .u8 0,.i .u8 0,.i .u8 0,.i .u8 0,.i .u8 0,.i .u8 0,.i .u8 0,.i .u8 0,.i .u8 0,.i .u8 0,.i .u8 0,.i .u8 0,.i .u8 0,.i .u8 0,.i .u8 0,.i .u8 0,.i .u8 0,.i .u8 0,.i .u8 0,.i .u8 0,.i .u8 0,.i .u8 0,.i .u8 0,.i .u8 0,.i .u8 0,.i .u8 0,.i .u8 0,.i .u8 0,.i .u8 0,.i .u8 0,.i .u8 0,.i .u8 0,.i .u8 0,.i .u8 0,.i .u8 0,.i .u8 0,.i .u8 0],true,false,false⟩:=by kernel_rfl
@[simp] theorem cz251:Program.cellsOf Tryz.prog 251=65:=by kernel_rfl
@[simp] theorem ty252:aF Tryz.prog 252=some ⟨.fn,1,8,.fn0,false,false,false⟩:=by kernel_rfl
@[simp] theorem cz252:Program.cellsOf Tryz.prog 252=1:=by kernel_rfl
@[simp] theorem ty253:aF Tryz.prog 253=some ⟨.fn,1,8,.fn0,false,false,false⟩:=by kernel_rfl
@[simp] theorem cz253:Program.cellsOf Tryz.prog 253=1:=by kernel_rfl
@[simp] theorem ty254:aF Tryz.prog 254=some ⟨.fn,1,8,.fn0,false,false,false⟩:=by kernel_rfl
@[simp] theorem cz254:Program.cellsOf Tryz.prog 254=1:=by kernel_rfl
@[simp] theorem ty255:aF Tryz.prog 255=some ⟨.arr 32 5,32,32,.ag [.i .u8 0,.i .u8 0,.i .u8 0,.i .u8 0,.i .u8 0,.i .u8 0,.i .u8 0,.i .u8 0,.i .u8 0,.i .u8 0,.i .u8 0,.i .u8 0,.i .u8 0,.i .u8 0,.i .u8 0,.i .u8 0,.i .u8 0,.i .u8 0,.i .u8 0,.i .u8 0,.i .u8 0,.i .u8 0,.i .u8 0,.i .u8 0,.i .u8 0,.i .u8 0,.i .u8 0,.i .u8 0,.i .u8 0,.i .u8 0,.i .u8 0,.i .u8 0],true,false,false⟩:=by kernel_rfl
@[simp] theorem cz255:Program.cellsOf Tryz.prog 255=32:=by kernel_rfl
@[simp] theorem ty256:aF Tryz.prog 256=some ⟨.arr 64 5,64,64,.ag [.i .u8 0,.i .u8 0,.i .u8 0,.i .u8 0,.i .u8 0,.i .u8 0,.i .u8 0,.i .u8 0,.i .u8 0,.i .u8 0,.i .u8 0,.i .u8 0,.i .u8 0,.i .u8 0,.i .u8 0,.i .u8 0,.i .u8 0,.i .u8 0,.i .u8 0,.i .u8 0,.i .u8 0,.i .u8 0,.i .u8 0,.i .u8 0,.i .u8 0,.i .u8 0,.i .u8 0,.i .u8 0,.i .u8 0,.i .u8 0,.i .u8 0,.i .u8 0,.i .u8 0,.i .u8 0,.i .u8 0,.i .u8 0,.i .u8 0,.i .u8 0,.i .u8 0,.i .u8 0,.i .u8 0,.i .u8 0,.i .u8 0,.i .u8 0,.i .u8 0,.i .u8 0,.i .u8 0,.i .u8 0,.i .u8 0,.i .u8 0,.i .u8 0,.i .u8 0,.i .u8 0,.i .u8 0,.i .u8 0,.i .u8 0,.i .u8 0,.i .u8 0,.i .u8 0,.i .u8 0,.i .u8 0,.i .u8 0,.i .u8 0,.i .u8 0],true,false,false⟩:=by kernel_rfl
@[simp] theorem cz256:Program.cellsOf Tryz.prog 256=64:=by kernel_rfl
@[simp] theorem ty259:aF Tryz.prog 259=some ⟨.arr 0 16,0,0,.ag [],true,false,false⟩:=by kernel_rfl
@[simp] theorem cz259:Program.cellsOf Tryz.prog 259=0:=by kernel_rfl
@[simp] theorem ty262:aF Tryz.prog 262=some ⟨.fn,1,8,.fn0,false,false,false⟩:=by kernel_rfl
@[simp] theorem cz262:Program.cellsOf Tryz.prog 262=1:=by kernel_rfl
@[simp] theorem ty263:aF Tryz.prog 263=some ⟨.int .u8,1,1,.i .u8 0,true,false,false⟩:=by kernel_rfl
@[simp] theorem cz263:Program.cellsOf Tryz.prog 263=1:=by kernel_rfl
@[simp] theorem ty264:aF Tryz.prog 264=some ⟨.fn,1,8,.fn0,false,false,false⟩:=by kernel_rfl
@[simp] theorem cz264:Program.cellsOf Tryz.prog 264=1:=by kernel_rfl
@[simp] theorem ty265:aF Tryz.prog 265=some ⟨.int .i32,1,4,.i .i32 0,true,false,false⟩:=by kernel_rfl
@[simp] theorem cz265:Program.cellsOf Tryz.prog 265=1:=by kernel_rfl
@[simp] theorem ty266:aF Tryz.prog 266=some ⟨.int .i32,1,4,.i .i32 0,true,false,false⟩:=by kernel_rfl
@[simp] theorem cz266:Program.cellsOf Tryz.prog 266=1:=by kernel_rfl
@[simp] theorem ty269:aF Tryz.prog 269=some ⟨.fn,1,8,.fn0,false,false,false⟩:=by kernel_rfl
@[simp] theorem cz269:Program.cellsOf Tryz.prog 269=1:=by kernel_rfl
@[simp] theorem ty270:aF Tryz.prog 270=some ⟨.fn,1,8,.fn0,false,false,false⟩:=by kernel_rfl
@[simp] theorem cz270:Program.cellsOf Tryz.prog 270=1:=by kernel_rfl
@[simp] theorem ty273:aF Tryz.prog 273=some ⟨.ptr 276,1,8,.p0,true,false,false⟩:=by kernel_rfl
@[simp] theorem cz273:Program.cellsOf Tryz.prog 273=1:=by kernel_rfl
@[simp] theorem ty274:aF Tryz.prog 274=some ⟨.fn,1,8,.fn0,false,false,false⟩:=by kernel_rfl
@[simp] theorem cz274:Program.cellsOf Tryz.prog 274=1:=by kernel_rfl
@[simp] theorem ty277:aF Tryz.prog 277=some ⟨.slice 280,1,24,.sl0,false,false,false⟩:=by kernel_rfl
@[simp] theorem cz277:Program.cellsOf Tryz.prog 277=1:=by kernel_rfl
@[simp] theorem ty278:aF Tryz.prog 278=some ⟨.int .i32,1,4,.i .i32 0,true,false,false⟩:=by kernel_rfl
@[simp] theorem cz278:Program.cellsOf Tryz.prog 278=1:=by kernel_rfl
@[simp] theorem ty281:aF Tryz.prog 281=some ⟨.ptr 36,1,8,.p0,true,false,false⟩:=by kernel_rfl
@[simp] theorem cz281:Program.cellsOf Tryz.prog 281=1:=by kernel_rfl
end Go.bK.YtobmjhfgmhfocaaGreatDoor
namespace Go.bK.YtobmjhfgmhfocaaGreatDoor
open Go.Proofs Go.RowKit Go.Extern.Stop Go.Stop Go.Extern
theorem as_nil (t:Value)(w:World) :
 Calls Tryz.prog 51 #[.nilIface,t] w fun e w'=>e= .returned (.bool false)∧w'= w:=by
 go_enter Tryz.func51,Tryz.ntmps51
 go_wp2
 go_ret
 exact⟨rfl,rfl⟩
theorem JE (t:Addr)(w:World):(ReflectliteValue.unpack (.iface 119 (.pointer (some t)))).run Tryz.prog w
 = .ok (.agg #[.pointer (some ⟨10,119,none⟩),.pointer (some ⟨w.heap.size,0,none⟩),.int .u64 150]) (w.alloc (.cells #[.pointer (some t)] 119)):=by kernel_rfl
theorem Ub (a:Addr)(w:World):(ReflectliteValue.methodAny (ReflectliteValue.valueError "reflectlite.Value.Type" 0) (fun t _ _ _=>ReflectliteType.toType t) #[.agg #[.pointer (some ⟨10,119,none⟩),.pointer (some a),.int .u64 150]]).run Tryz.prog w
 = .ok (.iface 180 (.agg #[.pointer (some ⟨10,119,none⟩)])) w:=by kernel_rfl
theorem Hq (h:Value)(w:World):(Go.method 382 180 (.agg #[h]) "Kind").run Tryz.prog w= .ok (206,h) w:=by kernel_rfl
theorem Uc (w:World):((ReflectliteType.abiMethod fun t=>(fun a:Nat=>Value.int IntKind.u8 (a:Int)) <$> Rtype.kind t) #[.pointer (some ⟨10,119,none⟩)]).run Tryz.prog w= .ok (.int .u8 22) w:=by kernel_rfl
theorem Yr (w:World):((ReflectliteType.abiMethod fun t=>(fun a:Nat=>Value.int IntKind.u8 (a:Int)) <$> Rtype.kind t) #[.pointer (some ⟨10,101,none⟩)]).run Tryz.prog w= .ok (.int .u8 22) w:=by kernel_rfl
theorem rlm (z:Sem Value)(f:TypeId→Addr→Nat→Nat→Sem Value)(v:Value) :
 ReflectliteValue.method z f #[v]=(do match ←ReflectliteValue.parts v with | none=>z | some (t,a,fl)=>f t a fl (fl%32)):=rfl
theorem FU (a:Addr)(w:World):(ReflectliteValue.parts (.agg #[.pointer (some ⟨10,119,none⟩),.pointer (some a),.int .u64 150])).run Tryz.prog w= .ok (some (119,a,150)) w:=by kernel_rfl
theorem Qo (a p:Addr)(W:World)(ha:W.cell? a=some (.pointer (some p))) :
 (ReflectliteValue.method (ReflectliteValue.valueError "reflectlite.Value.IsNil" 0) ReflectliteValue.isNil #[.agg #[.pointer (some ⟨10,119,none⟩),.pointer (some a),.int .u64 150]]).run Tryz.prog W= .ok (.bool false) W:=by
 rw [rlm]
 simp only [Sem.run_bind,FU,Result.andThen]
 simp [ReflectliteValue.isNil,loadVar,isAgg,underlying,Tryz.underlying119,ha,Result.andThen]
theorem Hr (h:Value)(w:World):(Go.method 382 180 (.agg #[h]) "Elem").run Tryz.prog w= .ok (222,.agg #[h]) w:=by kernel_rfl
theorem vO (h:Value)(w:World):(Go.method 382 180 (.agg #[h]) "Implements").run Tryz.prog w= .ok (223,.agg #[h]) w:=by kernel_rfl
theorem rO (h:Value)(w:World):(Go.method 382 180 (.agg #[h]) "AssignableTo").run Tryz.prog w= .ok (220,.agg #[h]) w:=by kernel_rfl
theorem Ud (w:World):(ReflectliteType.method ReflectliteType.elem #[.agg #[.pointer (some ⟨10,119,none⟩)]]).run Tryz.prog w= .ok (.iface 180 (.agg #[.pointer (some ⟨10,101,none⟩)])) w:=by kernel_rfl
theorem EG (w:World):(ReflectliteType.relation "Implements" ReflectliteType.implements_ #[.agg #[.pointer (some ⟨10,101,none⟩)],.iface 180 (.agg #[.pointer (some ⟨10,36,none⟩)])]).run Tryz.prog w= .ok (.bool true) w:=by kernel_rfl
theorem Qp (v:Value)(w:World):(ReflectliteType.typeOf #[.iface 101 v]).run Tryz.prog w= .ok (.iface 180 (.agg #[.pointer (some ⟨10,101,none⟩)])) w:=by kernel_rfl
theorem EH (w:World):(ReflectliteType.relation "AssignableTo" ReflectliteType.assignableTo #[.agg #[.pointer (some ⟨10,101,none⟩)],.iface 180 (.agg #[.pointer (some ⟨10,101,none⟩)])]).run Tryz.prog w= .ok (.bool true) w:=by kernel_rfl
theorem MQ (e:Addr)(w:World):(ReflectliteValue.unpack (.iface 101 (.pointer (some e)))).run Tryz.prog w
 = .ok (.agg #[.pointer (some ⟨10,101,none⟩),.pointer (some ⟨w.heap.size,0,none⟩),.int .u64 150]) (w.alloc (.cells #[.pointer (some e)] 101)):=by kernel_rfl
theorem MS (w:World):(Rtype.elem? 119).run Tryz.prog w= .ok (some 101) w:=by kernel_rfl
theorem asmkP (p:Addr)(w:World):(ReflectliteValue.mk 101 p ReflectliteValue.flagAddr).run Tryz.prog w= .ok (.agg #[.pointer (some ⟨10,101,none⟩),.pointer (some p),.int .u64 406]) w:=by kernel_rfl
theorem Qq (a p:Addr)(W:World)(ha:W.cell? a=some (.pointer (some p))) :
 (ReflectliteValue.method (ReflectliteValue.valueError "reflectlite.Value.Elem" 0) ReflectliteValue.elem #[.agg #[.pointer (some ⟨10,119,none⟩),.pointer (some a),.int .u64 150]]).run Tryz.prog W
  = .ok (.agg #[.pointer (some ⟨10,101,none⟩),.pointer (some p),.int .u64 406]) W:=by
 rw [rlm]
 simp only [Sem.run_bind,FU,Result.andThen]
 simp [ReflectliteValue.elem,loadVar,isAgg,underlying,Tryz.underlying119,ha,Result.andThen,MS,asmkP]
theorem rls (v x:Value):ReflectliteValue.set #[v,x]=(do
 let (some (dst,a,fl),some (src,b,_)):=(←ReflectliteValue.parts v,←ReflectliteValue.parts x)
  | unsupported (.noEntry "extern/(internal/reflectlite.Value).Set.zeroValue")
 if fl / ReflectliteValue.flagAddr%2 == 0 then unsupported (.noEntry "extern/(internal/reflectlite.Value).Set.unaddressable")
 let val ←loadVar src b
 if ←Rtype.directlyAssignable dst src then storeVar dst a val
 else if ←Rtype.implements dst src then
  if(←Rtype.kind src) == 20 then
        match val with
        | .nilIface=>unsupported (.noEntry "extern/reflectlite: a nil value of one interface type handed on as a value of another")
        | _=>storeVar dst a val
  else storeVar dst a (.iface src val)
 else panicString ("reflectlite.Set: value of type " ++ (←Rtype.spelt src) ++ " is not assignable to type " ++ (←Rtype.spelt dst))
 pure (.tuple #[])):=rfl
theorem Qr (a:Addr)(w:World):(ReflectliteValue.parts (.agg #[.pointer (some ⟨10,101,none⟩),.pointer (some a),.int .u64 406])).run Tryz.prog w= .ok (some (101,a,406)) w:=by kernel_rfl
theorem Ue (a:Addr)(w:World):(ReflectliteValue.parts (.agg #[.pointer (some ⟨10,101,none⟩),.pointer (some a),.int .u64 150])).run Tryz.prog w= .ok (some (101,a,150)) w:=by kernel_rfl
theorem Qs (w:World):(Rtype.directlyAssignable 101 101).run Tryz.prog w= .ok true w:=by kernel_rfl
theorem assetP (ta b e:Addr)(old:Value)(W:World)(hb:W.cell? b=some (.pointer (some e)))(ht:W.cell? ta=some old)(hf:W.frozen? ta=false) :
 (ReflectliteValue.set #[.agg #[.pointer (some ⟨10,101,none⟩),.pointer (some ta),.int .u64 406],.agg #[.pointer (some ⟨10,101,none⟩),.pointer (some b),.int .u64 150]]).run Tryz.prog W
  = .ok (.tuple #[]) (W.setCell ta (.pointer (some e))):=by
 rw [rls]
 simp only [Sem.run_bind,Qr,Ue,Result.andThen]
 simp [ReflectliteValue.flagAddr,loadVar,isAgg,underlying,Tryz.underlying101,hb,Result.andThen,Qs,storeVar,Value.cells,storeCells,Addr.add]
 rw [run_store Tryz.prog W ta _ _ (by rfl)]
 simp [ht,hf]
set_option maxHeartbeats 4000000 in
theorem as_hit (e t:Addr)(old:Value)(w:World)(hg:w.cell? ⟨0,0,none⟩=some (.iface 180 (.agg #[.pointer (some ⟨10,36,none⟩)])))(ht0:w.cell? t=some old)(hf0:w.frozen? t=false) :
 Calls Tryz.prog 51 #[.iface 101 (.pointer (some e)),.iface 119 (.pointer (some t))] w fun ev w'=>ev= .returned (.bool true)∧w'= ((((w.alloc (.cells #[.pointer (some t)] 119)).alloc (.cells #[.pointer (some ⟨10,119,none⟩),.pointer (some ⟨w.heap.size,0,none⟩),.int .u64 150] 145)).alloc (.cells #[.pointer (some ⟨10,119,none⟩),.pointer (some ⟨w.heap.size,0,none⟩),.int .u64 150] 145)).alloc (.cells #[.pointer (some e)] 101)).setCell t (.pointer (some e)):=by
 have h6:=@run_callFunc_extern Tryz.prog 87 _ (fun args=>ReflectliteValue.unpack (args.getD 0 (.tuple #[]))) Tryz.func87 (by kernel_rfl) (by kernel_rfl) (by kernel_rfl) (by kernel_rfl)
 have h7:=@run_callFunc_extern Tryz.prog 88 _ (ReflectliteValue.methodAny (ReflectliteValue.valueError "reflectlite.Value.Type" 0) (fun t _ _ _=>ReflectliteType.toType t)) Tryz.func88 (by kernel_rfl) (by kernel_rfl) (by kernel_rfl) (by kernel_rfl)
 have h8:=@run_callFunc_extern Tryz.prog 89 _ (ReflectliteValue.method (ReflectliteValue.valueError "reflectlite.Value.IsNil" 0) ReflectliteValue.isNil) Tryz.func89 (by kernel_rfl) (by kernel_rfl) (by kernel_rfl) (by kernel_rfl)
 have h27:=@run_callFunc_extern Tryz.prog 206 _ (ReflectliteType.abiMethod fun t=>do pure (.int .u8 (←Rtype.kind t))) Tryz.func206 (by kernel_rfl) (by kernel_rfl) (by kernel_rfl) (by kernel_rfl)
 have h37:=@run_callFunc_extern Tryz.prog 222 _ (ReflectliteType.method ReflectliteType.elem) Tryz.func222 (by kernel_rfl) (by kernel_rfl) (by kernel_rfl) (by kernel_rfl)
 have h38:=@run_callFunc_extern Tryz.prog 223 _ (ReflectliteType.relation "Implements" ReflectliteType.implements_) Tryz.func223 (by kernel_rfl) (by kernel_rfl) (by kernel_rfl) (by kernel_rfl)
 have h10:=@run_callFunc_extern Tryz.prog 91 _ ReflectliteType.typeOf Tryz.func91 (by kernel_rfl) (by kernel_rfl) (by kernel_rfl) (by kernel_rfl)
 have h35:=@run_callFunc_extern Tryz.prog 220 _ (ReflectliteType.relation "AssignableTo" ReflectliteType.assignableTo) Tryz.func220 (by kernel_rfl) (by kernel_rfl) (by kernel_rfl) (by kernel_rfl)
 have h11:=@run_callFunc_extern Tryz.prog 128 _ (ReflectliteValue.method (ReflectliteValue.valueError "reflectlite.Value.Elem" 0) ReflectliteValue.elem) Tryz.func128 (by kernel_rfl) (by kernel_rfl) (by kernel_rfl) (by kernel_rfl)
 have h12:=@run_callFunc_extern Tryz.prog 129 _ ReflectliteValue.set Tryz.func129 (by kernel_rfl) (by kernel_rfl) (by kernel_rfl) (by kernel_rfl)
 have tO:=Qp
 have mA:=rO
 have a25:=EH
 have v25:=MQ
 have f6:=JE
 have f7:=Ub
 have mK:=Hq
 have mE:=Hr
 have mI:=vO
 have k27:=Uc
 have k25:=Yr
 have e27:=Ud
 have i25:=EG
 have n8:=Qo ⟨w.heap.size,0,none⟩ t ((w.alloc (.cells #[.pointer (some t)] 119)).alloc (.cells #[.pointer (some ⟨10,119,none⟩),.pointer (some ⟨w.heap.size,0,none⟩),.int .u64 150] 145)) (by simp)
 have hlt:0<w.heap.size:=by
  rcases Nat.eq_zero_or_pos w.heap.size with h0 | h
  ·simp [World.cell?,h0] at hg
  ·exact h
 have hg2:((w.alloc (.cells #[.pointer (some t)] 119)).alloc (.cells #[.pointer (some ⟨10,119,none⟩),.pointer (some ⟨w.heap.size,0,none⟩),.int .u64 150] 145)).cell? ⟨0,0,none⟩=some (.iface 180 (.agg #[.pointer (some ⟨10,36,none⟩)])):=by
  rw [World.cell?_alloc_lt _ _ ⟨0,0,none⟩ (by simp),World.cell?_alloc_lt _ _ ⟨0,0,none⟩ hlt];exact hg
 have htl:t.block<w.heap.size:=by
  rcases Nat.lt_or_ge t.block w.heap.size with h | h
  ·exact h
  ·simp [World.cell?,Array.getElem?_eq_none h] at ht0
 have el:=Qq ⟨w.heap.size,0,none⟩ t (((w.alloc (.cells #[.pointer (some t)] 119)).alloc (.cells #[.pointer (some ⟨10,119,none⟩),.pointer (some ⟨w.heap.size,0,none⟩),.int .u64 150] 145)).alloc (.cells #[.pointer (some ⟨10,119,none⟩),.pointer (some ⟨w.heap.size,0,none⟩),.int .u64 150] 145)) (by rw [World.cell?_alloc_lt _ _ ⟨w.heap.size,0,none⟩ (by simp;omega)];simp)
 have st:=assetP t ⟨w.heap.size+1+1+1,0,none⟩ e old ((((w.alloc (.cells #[.pointer (some t)] 119)).alloc (.cells #[.pointer (some ⟨10,119,none⟩),.pointer (some ⟨w.heap.size,0,none⟩),.int .u64 150] 145)).alloc (.cells #[.pointer (some ⟨10,119,none⟩),.pointer (some ⟨w.heap.size,0,none⟩),.int .u64 150] 145)).alloc (.cells #[.pointer (some e)] 101))
  (by rw [World.cell?_alloc_at _ _ _ _ (by simp)];rfl)
  (by rw [World.cell?_alloc_lt _ _ t (by simp;omega),World.cell?_alloc_lt _ _ t (by simp;omega),World.cell?_alloc_lt _ _ t (by simp;omega),World.cell?_alloc_lt _ _ t htl];exact ht0)
  (by rw [World.frozen?_alloc_old _ _ t (by simp;omega),World.frozen?_alloc_old _ _ t (by simp;omega),World.frozen?_alloc_old _ _ t (by simp;omega),World.frozen?_alloc_old _ _ t (Nat.ne_of_lt htl)];exact hf0)
 go_enter Tryz.func51,Tryz.ntmps51
 go_wp2
 refine wp_loop_rounds 1 ?_
 rw [rounds_succ]
 go_wp2
 go_ret
 exact⟨rfl,rfl⟩
theorem Ht (e t:Addr)(old:Value)(w:World)(hg:w.cell? ⟨0,0,none⟩=some (.iface 180 (.agg #[.pointer (some ⟨10,36,none⟩)])))(ht0:w.cell? t=some old)(hf0:w.frozen? t=false) :
 Calls Tryz.prog 51 #[.iface 101 (.pointer (some e)),.iface 119 (.pointer (some t))] w fun ev w'=>ev= .returned (.bool true)∧∃w1,Below w.heap.size w w1∧w'= w1.setCell t (.pointer (some e)):=
 (as_hit e t old w hg ht0 hf0).mono fun _ _ h=>⟨h.1,_,((((Below.refl _ w).alloc (Nat.le_refl _) _).alloc (by simp) _).alloc (by simp;omega) _).alloc (by simp;omega) _,h.2⟩
end Go.bK.YtobmjhfgmhfocaaGreatDoor
namespace Go.bK
open Go.RowKit
section
variable {P:Program} {G:Nat} {μ μ':Mu} {σ σ':St} {w w':World}
theorem Does.iy {f:Nat} {aV:Array Value} {R:Ending→World→Prop} (he:Enters P f)(h:Calls P f aV w R):Does P f aV w R:=.inl ⟨he aV w,h⟩
theorem Does.JF {f:Nat} {aV:Array Value} {R:Ending→World→Prop} {v:Value} (h:(callFunc f aV).run P w= .ok (.value v) w')(hr:R (.returned v) w'):Does P f aV w R:=.inr ⟨v,w',h,hr⟩
theorem qm (h:Below w.heap.size w w'):jG w w':=by
 intro b e m hs
 have hb:b<w.heap.size:=by
  rcases Nat.lt_or_ge b w.heap.size with hl | hl
  ·exact hl
  ·simp [World.shape?,Array.getElem?_eq_none hl] at hs
 unfold World.shape? at hs ⊢
 rw [h.block b hb];exact hs
theorem Step.of_below (hs:fP G μ σ w)(h:Below w.heap.size w w'):Step G μ σ w μ σ w':=
 ⟨⟨fun o a ho hl=>by
  obtain⟨b,δ,h1,h2⟩:=hs.obj o a ho hl
  exact⟨b,δ,h1,uG.mono (Mu.le_refl μ) (qm h) (h.block b (hs.blk o _ b δ h1)) h2⟩,hs.inj,hs.dom,fun o g b δ q=>Nat.lt_of_lt_of_le (hs.blk o g b δ q) h.size,hs.qV,hs.low,fun g e cs hg ho=>qm h _ _ _ (hs.full g e cs hg ho)⟩,
   Mu.le_refl μ,qm h,h.os,h.tape,h.output,h.size,fun b hb _=>h.block b hb,fun o a b δ h1 h2 h3 h4 _=>⟨o,a,δ,h1,h2,h3,h4⟩⟩
theorem Step.below (h:Step G μ σ w μ' σ' w')(hro:∀(o:Nat) a,σ[o]? =some a→a.ro=false→a.k.live=true→False):Below w.heap.size w w':=
 ⟨h.os,h.tape,h.output,h.size,fun b hb=>h.frame b hb fun o a δ h1 h2 h3 _=>hro o a h1 h2 h3⟩
theorem kZ {a:AV} {c:Array Value} (h:aQ μ w [a] c.toList):∃v,c= #[v]∧aJ μ w a v:=by
 obtain⟨v,vs,h1,h2,h3⟩:=h
 simp only [aQ] at h3
 subst h3
 exact⟨v,Array.ext' h1,h2⟩
theorem pz {a b:AV} {c:Array Value} (h:aQ μ w [a,b] c.toList):∃v u,c= #[v,u]∧aJ μ w a v∧aJ μ w b u:=by
 obtain⟨v,vs,h1,h2,u,us,h3,h4,h5⟩:=h
 simp only [aQ] at h5
 subst h5;subst h3
 exact⟨v,u,Array.ext' h1,h2,h4⟩
theorem JG {a b d:AV} {c:Array Value} (h:aQ μ w [a,b,d] c.toList):∃v u t,c= #[v,u,t]∧aJ μ w a v∧aJ μ w b u∧aJ μ w d t:=by
 obtain⟨v,vs,h1,h2,u,us,h3,h4,t,ts,h5,h6,h7⟩:=h
 simp only [aQ] at h7
 subst h7;subst h5;subst h3
 exact⟨v,u,t,Array.ext' h1,h2,h4,h6⟩
theorem fP.cell {o g e:Nat} {ro:Bool} {a:AV} {rest:List AV} {b δ:Nat} (hs:fP G μ σ w)(ho:σ[o]? =some ⟨g,ro,.cells e (a :: rest)⟩)(hb:μ o g=some (b,δ)):∃v,w.cell? ⟨b,δ,none⟩=some v∧aJ μ w a v:=by
 obtain⟨b',vG,h1,h2⟩:=hs.obj o _ ho rfl
 rw [hb] at h1;cases h1
 obtain⟨cZ,fr,q1,q2,q3,q4⟩:=h2
 obtain⟨v,r1,r2⟩:=q3 0 a rfl
 refine⟨v,?_,r2⟩
 rw [cell_of_heap q1]
 simpa using r1
end
end Go.bK
namespace Go.bK
open Go.RowKit
variable {P:Program} {G:Nat} {μ:Mu} {σ:St} {w w':World}
theorem Step.fresh (hs:fP G μ σ w)(hb:Below w.heap.size w w') {A e:Nat} {cur:Array Value} {cs:List AV} (hA:w.heap.size≤A)(hh:w'.heap[A]? =some (.cells cur e (0,0)))(hl:cs.length≤cur.size)
 (hc:∀(j:Nat) c,cs[j]? =some c→∃v,cur[j]? =some v∧aJ μ w c v):Step G μ σ w (μ.upd σ.length 0 (A,0)) (σ ++ [⟨0,false,.cells e cs⟩]) w':=by
 have h:=(Step.of_below hs hb).yJ
 have hwx:=qm hb
 have hnone:μ σ.length 0=none:=by
  cases hq:μ σ.length 0 with
  | none=>rfl
  | some y=>obtain⟨a,ha,_⟩:=hs.dom _ _ _ hq;simp at ha
 have hle:=Mu.vH (x:=(A,0)) hnone
 have hcase:∀(o:Nat) a',(σ ++ [⟨0,false,.cells e cs⟩])[o]? =some a'→(σ[o]? =some a'∧o≠σ.length)∨(o=σ.length∧a'= ⟨0,false,.cells e cs⟩):=by
  intro o a' ho
  rcases Nat.lt_trichotomy o σ.length with hl | he | hg
  ·rw [List.getElem?_append_left hl] at ho;exact .inl ⟨ho,by omega⟩
  ·subst he;simp at ho;exact .inr ⟨rfl,ho.symm⟩
  ·rw [List.getElem?_eq_none (by simp;omega)] at ho;cases ho
 refine⟨⟨?_,?_,?_,?_,?_,?_,?_⟩,hle,hwx,hb.os,hb.tape,hb.output,hb.size,fun b hb' _=>hb.block b hb',?_⟩
 ·intro o a' ho hl'
  rcases hcase o a' ho with ⟨ho',hne⟩ | ⟨rfl,rfl⟩
  ·obtain⟨b,δ,h1,h2⟩:=h.obj o a' ho' hl'
   exact⟨b,δ,hle _ _ _ h1,uG.mono hle (jG.refl _) rfl h2⟩
  ·refine⟨A,0,Mu.dA _ _ _ _,cur,(0,0),hh,by omega,fun j c hj=>?_,fun _ j _ hj=>by omega⟩
   obtain⟨v,r1,r2⟩:=hc j c hj
   exact⟨v,by rw [Nat.zero_add];exact r1,aJ.mono hle hwx c v r2⟩
 ·intro o o' a1 a2 b δ vG ho ho' hro hl1 hl2 hb1 hb2
  rcases hcase o a1 ho with ⟨ho1,hne⟩ | ⟨rfl,rfl⟩ <;> rcases hcase o' a2 ho' with ⟨ho2,hne'⟩ | ⟨rfl,rfl⟩
  ·rw [Mu.upd_ne (by simp [hne])] at hb1
   rw [Mu.upd_ne (by simp [hne'])] at hb2
   exact hs.inj o o' a1 a2 b δ vG ho1 ho2 hro hl1 hl2 hb1 hb2
  ·rw [Mu.upd_ne (by simp [hne])] at hb1
   rw [Mu.dA] at hb2
   cases hb2
   have:=hs.blk _ _ _ _ hb1
   omega
  ·rw [Mu.upd_ne (by simp [hne'])] at hb2
   rw [Mu.dA] at hb1
   cases hb1
   have:=hs.blk _ _ _ _ hb2
   omega
  ·rfl
 ·intro o g y hy
  by_cases he:o=σ.length∧g=0
  ·exact⟨⟨0,false,.cells e cs⟩,by rw [he.1];simp,by rw [he.2];exact Nat.zero_le _⟩
  ·rw [Mu.upd_ne he] at hy
   obtain⟨a',ha,hle'⟩:=hs.dom _ _ _ hy
   exact⟨a',by rw [List.getElem?_append_left (dR ha)];exact ha,hle'⟩
 ·intro o g b δ hy
  by_cases he:o=σ.length∧g=0
  ·rw [he.1,he.2,Mu.dA] at hy;cases hy;exact lt_of_heap hh
  ·rw [Mu.upd_ne he] at hy;have:=hs.blk _ _ _ _ hy;have:=hb.size;omega
 ·intro g hg'
  exact hle _ _ _ (hs.qV g hg')
 ·intro o b δ hy
  by_cases he:o=σ.length∧0=0
  ·rw [he.1,Mu.dA] at hy;cases hy;rfl
  ·rw [Mu.upd_ne he] at hy;exact hs.low _ _ _ hy
 ·intro g e' cs' hg' ho
  rcases hcase g _ ho with ⟨ho',_⟩ | ⟨rfl,h1⟩
  ·exact h.full g e' cs' hg' ho'
  ·cases h1
 ·intro o a' b δ ho hro hl' hb1 hlt
  rcases hcase o a' ho with ⟨ho1,hne⟩ | ⟨rfl,rfl⟩
  ·rw [Mu.upd_ne (by simp [hne])] at hb1
   exact⟨o,a',δ,ho1,hro,hl',hb1⟩
  ·rw [Mu.dA] at hb1;cases hb1;omega
theorem fP.tab (hs:fP G μ σ w) {g e:Nat} {cs:List AV} (hg:g<G)(ho:σ[g]? =some ⟨0,true,.cells e cs⟩):∃cZ fr,w.heap[g]? =some (.cells cZ e fr)∧cZ.size=cs.length∧aQ μ w cs cZ.toList:=by
 obtain⟨b,δ,h1,h2⟩:=hs.obj g _ ho rfl
 rw [hs.qV g hg] at h1;cases h1
 obtain⟨cZ,fr,q1,q2,q3,_⟩:=h2
 have hf:=hs.full g e cs hg ho
 have hsz:cZ.size=cs.length:=by
  have:w.shape? g=some (e,cZ.size):=by simp [World.shape?,q1]
  rw [this] at hf;exact(Prod.mk.inj (Option.some.inj hf)).2
 refine⟨cZ,fr,q1,hsz,aQ.BR (by simpa using hsz) fun j c hj=>?_⟩
 obtain⟨v,r1,r2⟩:=q3 j c hj
 exact⟨v,by rw [Nat.zero_add] at r1;simpa using r1,r2⟩
theorem CZ {k:IntKind} :∀{zs:List Int} {l:List Value},aQ μ w (zs.map (AV.i k)) l→l=zs.map (Value.int k)
 | [],l,h=>by simpa [aQ] using h
 | z :: zs,l,h=>by
   obtain⟨v,vs,h1,h2,h3⟩:=h
   simp only [aJ] at h2
   rw [h1,h2,CZ h3];rfl
end Go.bK
