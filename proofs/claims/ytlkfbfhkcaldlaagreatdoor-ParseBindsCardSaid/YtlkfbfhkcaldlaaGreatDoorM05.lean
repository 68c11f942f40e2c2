/- Texts of this claim, joined: Ty, Abs20, Abs34, Op. -/
import Derived.Test.YtlkfbfhkcaldlaaGreatDoorM01
import Derived.Test.YtlkfbfhkcaldlaaGreatDoorProg
import Derived.KernelRfl
import Derived.Test.YtlkfbfhkcaldlaaGreatDoorM02
import Derived.Below
import Derived.Laws.AppendOwn
import Derived.Test.YtlkfbfhkcaldlaaGreatDoorM03
set_option linter.unusedVariables false
set_option linter.unusedSimpArgs false
namespace Go.Abs.YtlkfbfhkcaldlaaGreatDoor
open Go.Proofs
@[simp] theorem ty0:tyOf Tryz.prog 0=some ⟨.other,1,0,.u,false,false,false⟩:=by kernel_rfl
@[simp] theorem cz0:Program.cellsOf Tryz.prog 0=1:=by kernel_rfl
@[simp] theorem ty1:tyOf Tryz.prog 1=some ⟨.fn,1,8,.fn0,false,false,false⟩:=by kernel_rfl
@[simp] theorem cz1:Program.cellsOf Tryz.prog 1=1:=by kernel_rfl
@[simp] theorem ty2:tyOf Tryz.prog 2=some ⟨.int .i64,1,8,.i .i64 0,true,false,false⟩:=by kernel_rfl
@[simp] theorem cz2:Program.cellsOf Tryz.prog 2=1:=by kernel_rfl
@[simp] theorem ty3:tyOf Tryz.prog 3=some ⟨.int .i64,1,8,.i .i64 0,true,false,false⟩:=by kernel_rfl
@[simp] theorem cz3:Program.cellsOf Tryz.prog 3=1:=by kernel_rfl
@[simp] theorem ty4:tyOf Tryz.prog 4=some ⟨.bool,1,1,.b false,true,false,false⟩:=by kernel_rfl
@[simp] theorem cz4:Program.cellsOf Tryz.prog 4=1:=by kernel_rfl
@[simp] theorem ty5:tyOf Tryz.prog 5=some ⟨.int .u8,1,1,.i .u8 0,true,false,false⟩:=by kernel_rfl
@[simp] theorem cz5:Program.cellsOf Tryz.prog 5=1:=by kernel_rfl
@[simp] theorem ty6:tyOf Tryz.prog 6=some ⟨.int .u8,1,1,.i .u8 0,true,false,false⟩:=by kernel_rfl
@[simp] theorem cz6:Program.cellsOf Tryz.prog 6=1:=by kernel_rfl
@[simp] theorem ty7:tyOf Tryz.prog 7=some ⟨.st [(0,2,false),(1,3,false),(2,4,false),(3,6,false)],4,24,.ag [.i .i64 0,.i .i64 0,.b false,.i .u8 0],true,false,false⟩:=by kernel_rfl
@[simp] theorem cz7:Program.cellsOf Tryz.prog 7=4:=by kernel_rfl
@[simp] theorem ty8:tyOf Tryz.prog 8=some ⟨.st [(0,2,false),(1,3,false),(2,4,false),(3,6,false)],4,24,.ag [.i .i64 0,.i .i64 0,.b false,.i .u8 0],true,false,false⟩:=by kernel_rfl
@[simp] theorem cz8:Program.cellsOf Tryz.prog 8=4:=by kernel_rfl
@[simp] theorem ty9:tyOf Tryz.prog 9=some ⟨.str,1,16,.s [],true,false,false⟩:=by kernel_rfl
@[simp] theorem cz9:Program.cellsOf Tryz.prog 9=1:=by kernel_rfl
@[simp] theorem ty10:tyOf Tryz.prog 10=some ⟨.str,1,16,.s [],true,false,false⟩:=by kernel_rfl
@[simp] theorem cz10:Program.cellsOf Tryz.prog 10=1:=by kernel_rfl
@[simp] theorem ty11:tyOf Tryz.prog 11=some ⟨.str,1,16,.s [],true,false,false⟩:=by kernel_rfl
@[simp] theorem cz11:Program.cellsOf Tryz.prog 11=1:=by kernel_rfl
@[simp] theorem ty12:tyOf Tryz.prog 12=some ⟨.int .u64,1,8,.i .u64 0,true,false,false⟩:=by kernel_rfl
@[simp] theorem cz12:Program.cellsOf Tryz.prog 12=1:=by kernel_rfl
@[simp] theorem ty15:tyOf Tryz.prog 15=some ⟨.ptr 217,1,8,.p0,true,false,false⟩:=by kernel_rfl
@[simp] theorem cz15:Program.cellsOf Tryz.prog 15=1:=by kernel_rfl
@[simp] theorem ty16:tyOf Tryz.prog 16=some ⟨.ptr 220,1,8,.p0,true,false,false⟩:=by kernel_rfl
@[simp] theorem cz16:Program.cellsOf Tryz.prog 16=1:=by kernel_rfl
@[simp] theorem ty17:tyOf Tryz.prog 17=some ⟨.ptr 227,1,8,.p0,true,false,false⟩:=by kernel_rfl
@[simp] theorem cz17:Program.cellsOf Tryz.prog 17=1:=by kernel_rfl
@[simp] theorem ty20:tyOf Tryz.prog 20=some ⟨.ifc [],1,16,.ic0,true,false,false⟩:=by kernel_rfl
@[simp] theorem cz20:Program.cellsOf Tryz.prog 20=1:=by kernel_rfl
@[simp] theorem ty21:tyOf Tryz.prog 21=some ⟨.int .i32,1,4,.i .i32 0,true,false,false⟩:=by kernel_rfl
@[simp] theorem cz21:Program.cellsOf Tryz.prog 21=1:=by kernel_rfl
@[simp] theorem ty22:tyOf Tryz.prog 22=some ⟨.ptr 60,1,8,.p0,true,false,false⟩:=by kernel_rfl
@[simp] theorem cz22:Program.cellsOf Tryz.prog 22=1:=by kernel_rfl
@[simp] theorem ty23:tyOf Tryz.prog 23=some ⟨.int .i64,1,8,.i .i64 0,true,false,false⟩:=by kernel_rfl
@[simp] theorem cz23:Program.cellsOf Tryz.prog 23=1:=by kernel_rfl
@[simp] theorem ty24:tyOf Tryz.prog 24=some ⟨.st [(0,23,false),(1,3,false)],2,16,.ag [.i .i64 0,.i .i64 0],true,false,false⟩:=by kernel_rfl
@[simp] theorem cz24:Program.cellsOf Tryz.prog 24=2:=by kernel_rfl
@[simp] theorem ty25:tyOf Tryz.prog 25=some ⟨.st [(0,23,false),(1,3,false)],2,16,.ag [.i .i64 0,.i .i64 0],true,false,false⟩:=by kernel_rfl
@[simp] theorem cz25:Program.cellsOf Tryz.prog 25=2:=by kernel_rfl
@[simp] theorem ty26:tyOf Tryz.prog 26=some ⟨.other,1,0,.u,false,false,false⟩:=by kernel_rfl
@[simp] theorem cz26:Program.cellsOf Tryz.prog 26=1:=by kernel_rfl
@[simp] theorem ty27:tyOf Tryz.prog 27=some ⟨.fn,1,8,.fn0,false,false,false⟩:=by kernel_rfl
@[simp] theorem cz27:Program.cellsOf Tryz.prog 27=1:=by kernel_rfl
@[simp] theorem ty28:tyOf Tryz.prog 28=some ⟨.fn,1,8,.fn0,false,false,false⟩:=by kernel_rfl
@[simp] theorem cz28:Program.cellsOf Tryz.prog 28=1:=by kernel_rfl
@[simp] theorem ty29:tyOf Tryz.prog 29=some ⟨.fn,1,8,.fn0,false,false,false⟩:=by kernel_rfl
@[simp] theorem cz29:Program.cellsOf Tryz.prog 29=1:=by kernel_rfl
@[simp] theorem ty30:tyOf Tryz.prog 30=some ⟨.other,1,0,.u,false,false,false⟩:=by kernel_rfl
@[simp] theorem cz30:Program.cellsOf Tryz.prog 30=1:=by kernel_rfl
@[simp] theorem ty31:tyOf Tryz.prog 31=some ⟨.fn,1,8,.fn0,false,false,false⟩:=by kernel_rfl
@[simp] theorem cz31:Program.cellsOf Tryz.prog 31=1:=by kernel_rfl
@[simp] theorem ty32:tyOf Tryz.prog 32=some ⟨.fn,1,8,.fn0,false,false,false⟩:=by kernel_rfl
@[simp] theorem cz32:Program.cellsOf Tryz.prog 32=1:=by kernel_rfl
@[simp] theorem ty33:tyOf Tryz.prog 33=some ⟨.ifc [("Error",82)],1,16,.ic0,true,false,true⟩:=by kernel_rfl
@[simp] theorem cz33:Program.cellsOf Tryz.prog 33=1:=by kernel_rfl
@[simp] theorem ty34:tyOf Tryz.prog 34=some ⟨.ifc [("Error",82)],1,16,.ic0,true,false,true⟩:=by kernel_rfl
@[simp] theorem cz34:Program.cellsOf Tryz.prog 34=1:=by kernel_rfl
@[simp] theorem ty35:tyOf Tryz.prog 35=some ⟨.other,1,0,.u,false,false,false⟩:=by kernel_rfl
@[simp] theorem cz35:Program.cellsOf Tryz.prog 35=1:=by kernel_rfl
@[simp] theorem ty36:tyOf Tryz.prog 36=some ⟨.fn,1,8,.fn0,false,false,false⟩:=by kernel_rfl
@[simp] theorem cz36:Program.cellsOf Tryz.prog 36=1:=by kernel_rfl
@[simp] theorem ty37:tyOf Tryz.prog 37=some ⟨.fn,1,8,.fn0,false,false,false⟩:=by kernel_rfl
@[simp] theorem cz37:Program.cellsOf Tryz.prog 37=1:=by kernel_rfl
@[simp] theorem ty38:tyOf Tryz.prog 38=some ⟨.arr 2 5,2,2,.ag [.i .u8 0,.i .u8 0],true,false,false⟩:=by kernel_rfl
@[simp] theorem cz38:Program.cellsOf Tryz.prog 38=2:=by kernel_rfl
@[simp] theorem ty39:tyOf Tryz.prog 39=some ⟨.int .u32,1,4,.i .u32 0,true,false,false⟩:=by kernel_rfl
@[simp] theorem cz39:Program.cellsOf Tryz.prog 39=1:=by kernel_rfl
@[simp] theorem ty40:tyOf Tryz.prog 40=some ⟨.arr 3 39,3,12,.ag [.i .u32 0,.i .u32 0,.i .u32 0],true,false,false⟩:=by kernel_rfl
@[simp] theorem cz40:Program.cellsOf Tryz.prog 40=3:=by kernel_rfl
@[simp] theorem ty41:tyOf Tryz.prog 41=some ⟨.other,1,0,.u,false,false,false⟩:=by kernel_rfl
@[simp] theorem cz41:Program.cellsOf Tryz.prog 41=1:=by kernel_rfl
@[simp] theorem ty42:tyOf Tryz.prog 42=some ⟨.fn,1,8,.fn0,false,false,false⟩:=by kernel_rfl
@[simp] theorem cz42:Program.cellsOf Tryz.prog 42=1:=by kernel_rfl
@[simp] theorem ty43:tyOf Tryz.prog 43=some ⟨.fn,1,8,.fn0,false,false,false⟩:=by kernel_rfl
@[simp] theorem cz43:Program.cellsOf Tryz.prog 43=1:=by kernel_rfl
@[simp] theorem ty44:tyOf Tryz.prog 44=some ⟨.ptr 48,1,8,.p0,true,false,false⟩:=by kernel_rfl
@[simp] theorem cz44:Program.cellsOf Tryz.prog 44=1:=by kernel_rfl
@[simp] theorem ty45:tyOf Tryz.prog 45=some ⟨.fn,1,8,.fn0,false,false,false⟩:=by kernel_rfl
@[simp] theorem cz45:Program.cellsOf Tryz.prog 45=1:=by kernel_rfl
@[simp] theorem ty46:tyOf Tryz.prog 46=some ⟨.slice 44,1,24,.sl0,false,false,false⟩:=by kernel_rfl
@[simp] theorem cz46:Program.cellsOf Tryz.prog 46=1:=by kernel_rfl
@[simp] theorem ty47:tyOf Tryz.prog 47=some ⟨.st [(0,3,false),(1,39,false),(2,9,false),(3,9,false),(4,44,false),(5,44,false),(6,46,false),(7,3,false)],8,96,.ag [.i .i64 0,.i .u32 0,.s [],.s [],.p0,.p0,.sl0,.i .i64 0],false,false,false⟩:=by kernel_rfl
@[simp] theorem cz47:Program.cellsOf Tryz.prog 47=8:=by kernel_rfl
@[simp] theorem ty48:tyOf Tryz.prog 48=some ⟨.st [(0,3,false),(1,39,false),(2,9,false),(3,9,false),(4,44,false),(5,44,false),(6,46,false),(7,3,false)],8,96,.ag [.i .i64 0,.i .u32 0,.s [],.s [],.p0,.p0,.sl0,.i .i64 0],false,false,false⟩:=by kernel_rfl
@[simp] theorem cz48:Program.cellsOf Tryz.prog 48=8:=by kernel_rfl
@[simp] theorem ty49:tyOf Tryz.prog 49=some ⟨.fn,1,8,.fn0,false,false,false⟩:=by kernel_rfl
@[simp] theorem cz49:Program.cellsOf Tryz.prog 49=1:=by kernel_rfl
@[simp] theorem ty50:tyOf Tryz.prog 50=some ⟨.fn,1,8,.fn0,false,false,false⟩:=by kernel_rfl
@[simp] theorem cz50:Program.cellsOf Tryz.prog 50=1:=by kernel_rfl
@[simp] theorem ty51:tyOf Tryz.prog 51=some ⟨.slice 62,1,24,.sl0,false,false,false⟩:=by kernel_rfl
@[simp] theorem cz51:Program.cellsOf Tryz.prog 51=1:=by kernel_rfl
@[simp] theorem ty52:tyOf Tryz.prog 52=some ⟨.st [(0,23,false),(1,3,false)],2,16,.ag [.i .i64 0,.i .i64 0],true,false,false⟩:=by kernel_rfl
@[simp] theorem cz52:Program.cellsOf Tryz.prog 52=2:=by kernel_rfl
@[simp] theorem ty53:tyOf Tryz.prog 53=some ⟨.other,1,0,.u,false,false,false⟩:=by kernel_rfl
@[simp] theorem cz53:Program.cellsOf Tryz.prog 53=1:=by kernel_rfl
@[simp] theorem ty54:tyOf Tryz.prog 54=some ⟨.fn,1,8,.fn0,false,false,false⟩:=by kernel_rfl
@[simp] theorem cz54:Program.cellsOf Tryz.prog 54=1:=by kernel_rfl
@[simp] theorem ty55:tyOf Tryz.prog 55=some ⟨.ptr 57,1,8,.p0,true,false,false⟩:=by kernel_rfl
@[simp] theorem cz55:Program.cellsOf Tryz.prog 55=1:=by kernel_rfl
@[simp] theorem ty56:tyOf Tryz.prog 56=some ⟨.st [(0,51,false),(1,3,false),(2,3,false),(3,4,false),(4,25,false)],6,64,.ag [.sl0,.i .i64 0,.i .i64 0,.b false,.i .i64 0,.i .i64 0],false,false,false⟩:=by kernel_rfl
@[simp] theorem cz56:Program.cellsOf Tryz.prog 56=6:=by kernel_rfl
@[simp] theorem ty57:tyOf Tryz.prog 57=some ⟨.st [(0,51,false),(1,3,false),(2,3,false),(3,4,false),(4,25,false)],6,64,.ag [.sl0,.i .i64 0,.i .i64 0,.b false,.i .i64 0,.i .i64 0],false,false,false⟩:=by kernel_rfl
@[simp] theorem cz57:Program.cellsOf Tryz.prog 57=6:=by kernel_rfl
@[simp] theorem ty58:tyOf Tryz.prog 58=some ⟨.slice 64,1,24,.sl0,false,false,false⟩:=by kernel_rfl
@[simp] theorem cz58:Program.cellsOf Tryz.prog 58=1:=by kernel_rfl
@[simp] theorem ty59:tyOf Tryz.prog 59=some ⟨.st [(0,58,false)],1,24,.ag [.sl0],false,false,false⟩:=by kernel_rfl
@[simp] theorem cz59:Program.cellsOf Tryz.prog 59=1:=by kernel_rfl
@[simp] theorem ty60:tyOf Tryz.prog 60=some ⟨.st [(0,58,false)],1,24,.ag [.sl0],false,false,false⟩:=by kernel_rfl
@[simp] theorem cz60:Program.cellsOf Tryz.prog 60=1:=by kernel_rfl
@[simp] theorem ty61:tyOf Tryz.prog 61=some ⟨.st [(0,3,false),(1,9,false),(2,3,false)],3,32,.ag [.i .i64 0,.s [],.i .i64 0],true,false,false⟩:=by kernel_rfl
@[simp] theorem cz61:Program.cellsOf Tryz.prog 61=3:=by kernel_rfl
@[simp] theorem ty62:tyOf Tryz.prog 62=some ⟨.st [(0,3,false),(1,9,false),(2,3,false)],3,32,.ag [.i .i64 0,.s [],.i .i64 0],true,false,false⟩:=by kernel_rfl
@[simp] theorem cz62:Program.cellsOf Tryz.prog 62=3:=by kernel_rfl
@[simp] theorem ty63:tyOf Tryz.prog 63=some ⟨.fn,1,8,.fn0,false,false,false⟩:=by kernel_rfl
@[simp] theorem cz63:Program.cellsOf Tryz.prog 63=1:=by kernel_rfl
@[simp] theorem ty64:tyOf Tryz.prog 64=some ⟨.ptr 69,1,8,.p0,true,false,false⟩:=by kernel_rfl
@[simp] theorem cz64:Program.cellsOf Tryz.prog 64=1:=by kernel_rfl
@[simp] theorem ty65:tyOf Tryz.prog 65=some ⟨.fn,1,8,.fn0,false,false,false⟩:=by kernel_rfl
@[simp] theorem cz65:Program.cellsOf Tryz.prog 65=1:=by kernel_rfl
@[simp] theorem ty66:tyOf Tryz.prog 66=some ⟨.slice 71,1,24,.sl0,false,false,false⟩:=by kernel_rfl
@[simp] theorem cz66:Program.cellsOf Tryz.prog 66=1:=by kernel_rfl
@[simp] theorem ty67:tyOf Tryz.prog 67=some ⟨.slice 96,1,24,.sl0,false,false,false⟩:=by kernel_rfl
@[simp] theorem cz67:Program.cellsOf Tryz.prog 67=1:=by kernel_rfl
@[simp] theorem ty68:tyOf Tryz.prog 68=some ⟨.st [(0,9,false),(1,66,false),(2,4,false),(3,67,false),(4,3,false)],5,80,.ag [.s [],.sl0,.b false,.sl0,.i .i64 0],false,false,false⟩:=by kernel_rfl
@[simp] theorem cz68:Program.cellsOf Tryz.prog 68=5:=by kernel_rfl
@[simp] theorem ty69:tyOf Tryz.prog 69=some ⟨.st [(0,9,false),(1,66,false),(2,4,false),(3,67,false),(4,3,false)],5,80,.ag [.s [],.sl0,.b false,.sl0,.i .i64 0],false,false,false⟩:=by kernel_rfl
@[simp] theorem cz69:Program.cellsOf Tryz.prog 69=5:=by kernel_rfl
@[simp] theorem ty70:tyOf Tryz.prog 70=some ⟨.st [(0,9,false),(1,4,false)],2,24,.ag [.s [],.b false],true,false,false⟩:=by kernel_rfl
@[simp] theorem cz70:Program.cellsOf Tryz.prog 70=2:=by kernel_rfl
@[simp] theorem ty71:tyOf Tryz.prog 71=some ⟨.st [(0,9,false),(1,4,false)],2,24,.ag [.s [],.b false],true,false,false⟩:=by kernel_rfl
@[simp] theorem cz71:Program.cellsOf Tryz.prog 71=2:=by kernel_rfl
@[simp] theorem ty72:tyOf Tryz.prog 72=some ⟨.fn,1,8,.fn0,false,false,false⟩:=by kernel_rfl
@[simp] theorem cz72:Program.cellsOf Tryz.prog 72=1:=by kernel_rfl
@[simp] theorem ty73:tyOf Tryz.prog 73=some ⟨.ptr 79,1,8,.p0,true,false,false⟩:=by kernel_rfl
@[simp] theorem cz73:Program.cellsOf Tryz.prog 73=1:=by kernel_rfl
@[simp] theorem ty74:tyOf Tryz.prog 74=some ⟨.ptr 77,1,8,.p0,true,false,false⟩:=by kernel_rfl
@[simp] theorem cz74:Program.cellsOf Tryz.prog 74=1:=by kernel_rfl
@[simp] theorem ty75:tyOf Tryz.prog 75=some ⟨.slice 5,1,24,.sl0,false,false,false⟩:=by kernel_rfl
@[simp] theorem cz75:Program.cellsOf Tryz.prog 75=1:=by kernel_rfl
@[simp] theorem ty76:tyOf Tryz.prog 76=some ⟨.st [(0,74,false),(1,75,false)],2,32,.ag [.p0,.sl0],false,false,false⟩:=by kernel_rfl
@[simp] theorem cz76:Program.cellsOf Tryz.prog 76=2:=by kernel_rfl
@[simp] theorem ty77:tyOf Tryz.prog 77=some ⟨.st [(0,74,false),(1,75,false)],2,32,.ag [.p0,.sl0],false,false,false⟩:=by kernel_rfl
@[simp] theorem cz77:Program.cellsOf Tryz.prog 77=2:=by kernel_rfl
@[simp] theorem ty78:tyOf Tryz.prog 78=some ⟨.st [(0,77,false),(2,3,false),(3,4,false)],4,48,.ag [.p0,.sl0,.i .i64 0,.b false],false,false,false⟩:=by kernel_rfl
@[simp] theorem cz78:Program.cellsOf Tryz.prog 78=4:=by kernel_rfl
@[simp] theorem ty79:tyOf Tryz.prog 79=some ⟨.st [(0,77,false),(2,3,false),(3,4,false)],4,48,.ag [.p0,.sl0,.i .i64 0,.b false],false,false,false⟩:=by kernel_rfl
@[simp] theorem cz79:Program.cellsOf Tryz.prog 79=4:=by kernel_rfl
@[simp] theorem ty80:tyOf Tryz.prog 80=some ⟨.fn,1,8,.fn0,false,false,false⟩:=by kernel_rfl
@[simp] theorem cz80:Program.cellsOf Tryz.prog 80=1:=by kernel_rfl
@[simp] theorem ty81:tyOf Tryz.prog 81=some ⟨.fn,1,8,.fn0,false,false,false⟩:=by kernel_rfl
@[simp] theorem cz81:Program.cellsOf Tryz.prog 81=1:=by kernel_rfl
@[simp] theorem ty82:tyOf Tryz.prog 82=some ⟨.fn,1,8,.fn0,false,false,false⟩:=by kernel_rfl
@[simp] theorem cz82:Program.cellsOf Tryz.prog 82=1:=by kernel_rfl
@[simp] theorem ty83:tyOf Tryz.prog 83=some ⟨.other,1,0,.u,false,false,false⟩:=by kernel_rfl
@[simp] theorem cz83:Program.cellsOf Tryz.prog 83=1:=by kernel_rfl
@[simp] theorem ty84:tyOf Tryz.prog 84=some ⟨.fn,1,8,.fn0,false,false,false⟩:=by kernel_rfl
@[simp] theorem cz84:Program.cellsOf Tryz.prog 84=1:=by kernel_rfl
@[simp] theorem ty85:tyOf Tryz.prog 85=some ⟨.ptr 88,1,8,.p0,true,false,false⟩:=by kernel_rfl
@[simp] theorem cz85:Program.cellsOf Tryz.prog 85=1:=by kernel_rfl
@[simp] theorem ty86:tyOf Tryz.prog 86=some ⟨.ptr 25,1,8,.p0,true,false,false⟩:=by kernel_rfl
@[simp] theorem cz86:Program.cellsOf Tryz.prog 86=1:=by kernel_rfl
@[simp] theorem ty87:tyOf Tryz.prog 87=some ⟨.st [(0,51,false),(1,3,false),(2,86,false)],3,40,.ag [.sl0,.i .i64 0,.p0],false,false,false⟩:=by kernel_rfl
@[simp] theorem cz87:Program.cellsOf Tryz.prog 87=3:=by kernel_rfl
@[simp] theorem ty88:tyOf Tryz.prog 88=some ⟨.st [(0,51,false),(1,3,false),(2,86,false)],3,40,.ag [.sl0,.i .i64 0,.p0],false,false,false⟩:=by kernel_rfl
@[simp] theorem cz88:Program.cellsOf Tryz.prog 88=3:=by kernel_rfl
@[simp] theorem ty89:tyOf Tryz.prog 89=some ⟨.fn,1,8,.fn0,false,false,false⟩:=by kernel_rfl
@[simp] theorem cz89:Program.cellsOf Tryz.prog 89=1:=by kernel_rfl
@[simp] theorem ty90:tyOf Tryz.prog 90=some ⟨.fn,1,8,.fn0,false,false,false⟩:=by kernel_rfl
@[simp] theorem cz90:Program.cellsOf Tryz.prog 90=1:=by kernel_rfl
@[simp] theorem ty91:tyOf Tryz.prog 91=some ⟨.fn,1,8,.fn0,false,false,false⟩:=by kernel_rfl
@[simp] theorem cz91:Program.cellsOf Tryz.prog 91=1:=by kernel_rfl
@[simp] theorem ty92:tyOf Tryz.prog 92=some ⟨.arr 18 9,18,288,.ag [.s [],.s [],.s [],.s [],.s [],.s [],.s [],.s [],.s [],.s [],.s [],.s [],.s [],.s [],.s [],.s [],.s [],.s []],true,false,false⟩:=by kernel_rfl
@[simp] theorem cz92:Program.cellsOf Tryz.prog 92=18:=by kernel_rfl
@[simp] theorem ty93:tyOf Tryz.prog 93=some ⟨.arr 18 3,18,144,.ag [.i .i64 0,.i .i64 0,.i .i64 0,.i .i64 0,.i .i64 0,.i .i64 0,.i .i64 0,.i .i64 0,.i .i64 0,.i .i64 0,.i .i64 0,.i .i64 0,.i .i64 0,.i .i64 0,.i .i64 0,.i .i64 0,.i .i64 0,.i .i64 0],true,false,false⟩:=by kernel_rfl
@[simp] theorem cz93:Program.cellsOf Tryz.prog 93=18:=by kernel_rfl
@[simp] theorem ty94:tyOf Tryz.prog 94=some ⟨.st [(0,3,false),(1,9,false),(2,4,false),(3,44,false),(4,44,false),(5,67,false),(6,67,false),(7,3,false)],8,104,.ag [.i .i64 0,.s [],.b false,.p0,.p0,.sl0,.sl0,.i .i64 0],false,false,false⟩:=by kernel_rfl
@[simp] theorem cz94:Program.cellsOf Tryz.prog 94=8:=by kernel_rfl
@[simp] theorem ty95:tyOf Tryz.prog 95=some ⟨.st [(0,3,false),(1,9,false),(2,4,false),(3,44,false),(4,44,false),(5,67,false),(6,67,false),(7,3,false)],8,104,.ag [.i .i64 0,.s [],.b false,.p0,.p0,.sl0,.sl0,.i .i64 0],false,false,false⟩:=by kernel_rfl
@[simp] theorem cz95:Program.cellsOf Tryz.prog 95=8:=by kernel_rfl
@[simp] theorem ty96:tyOf Tryz.prog 96=some ⟨.ptr 95,1,8,.p0,true,false,false⟩:=by kernel_rfl
@[simp] theorem cz96:Program.cellsOf Tryz.prog 96=1:=by kernel_rfl
@[simp] theorem ty97:tyOf Tryz.prog 97=some ⟨.other,1,0,.u,false,false,false⟩:=by kernel_rfl
@[simp] theorem cz97:Program.cellsOf Tryz.prog 97=1:=by kernel_rfl
@[simp] theorem ty98:tyOf Tryz.prog 98=some ⟨.fn,1,8,.fn0,false,false,false⟩:=by kernel_rfl
@[simp] theorem cz98:Program.cellsOf Tryz.prog 98=1:=by kernel_rfl
@[simp] theorem ty99:tyOf Tryz.prog 99=some ⟨.fn,1,8,.fn0,false,false,false⟩:=by kernel_rfl
@[simp] theorem cz99:Program.cellsOf Tryz.prog 99=1:=by kernel_rfl
@[simp] theorem ty100:tyOf Tryz.prog 100=some ⟨.other,1,0,.u,false,false,false⟩:=by kernel_rfl
@[simp] theorem cz100:Program.cellsOf Tryz.prog 100=1:=by kernel_rfl
@[simp] theorem ty101:tyOf Tryz.prog 101=some ⟨.fn,1,8,.fn0,false,false,false⟩:=by kernel_rfl
@[simp] theorem cz101:Program.cellsOf Tryz.prog 101=1:=by kernel_rfl
@[simp] theorem ty102:tyOf Tryz.prog 102=some ⟨.fn,1,8,.fn0,false,false,false⟩:=by kernel_rfl
@[simp] theorem cz102:Program.cellsOf Tryz.prog 102=1:=by kernel_rfl
@[simp] theorem ty103:tyOf Tryz.prog 103=some ⟨.fn,1,8,.fn0,false,false,false⟩:=by kernel_rfl
@[simp] theorem cz103:Program.cellsOf Tryz.prog 103=1:=by kernel_rfl
@[simp] theorem ty104:tyOf Tryz.prog 104=some ⟨.fn,1,8,.fn0,false,false,false⟩:=by kernel_rfl
@[simp] theorem cz104:Program.cellsOf Tryz.prog 104=1:=by kernel_rfl
@[simp] theorem ty105:tyOf Tryz.prog 105=some ⟨.fn,1,8,.fn0,false,false,false⟩:=by kernel_rfl
@[simp] theorem cz105:Program.cellsOf Tryz.prog 105=1:=by kernel_rfl
@[simp] theorem ty106:tyOf Tryz.prog 106=some ⟨.fn,1,8,.fn0,false,false,false⟩:=by kernel_rfl
@[simp] theorem cz106:Program.cellsOf Tryz.prog 106=1:=by kernel_rfl
@[simp] theorem ty107:tyOf Tryz.prog 107=some ⟨.fn,1,8,.fn0,false,false,false⟩:=by kernel_rfl
@[simp] theorem cz107:Program.cellsOf Tryz.prog 107=1:=by kernel_rfl
@[simp] theorem ty108:tyOf Tryz.prog 108=some ⟨.ptr 5,1,8,.p0,true,false,false⟩:=by kernel_rfl
@[simp] theorem cz108:Program.cellsOf Tryz.prog 108=1:=by kernel_rfl
@[simp] theorem ty109:tyOf Tryz.prog 109=some ⟨.fn,1,8,.fn0,false,false,false⟩:=by kernel_rfl
@[simp] theorem cz109:Program.cellsOf Tryz.prog 109=1:=by kernel_rfl
@[simp] theorem ty110:tyOf Tryz.prog 110=some ⟨.fn,1,8,.fn0,false,false,false⟩:=by kernel_rfl
@[simp] theorem cz110:Program.cellsOf Tryz.prog 110=1:=by kernel_rfl
@[simp] theorem ty111:tyOf Tryz.prog 111=some ⟨.fn,1,8,.fn0,false,false,false⟩:=by kernel_rfl
@[simp] theorem cz111:Program.cellsOf Tryz.prog 111=1:=by kernel_rfl
@[simp] theorem ty112:tyOf Tryz.prog 112=some ⟨.int .i64,1,8,.i .i64 0,true,false,false⟩:=by kernel_rfl
@[simp] theorem cz112:Program.cellsOf Tryz.prog 112=1:=by kernel_rfl
@[simp] theorem ty113:tyOf Tryz.prog 113=some ⟨.fn,1,8,.fn0,false,false,false⟩:=by kernel_rfl
@[simp] theorem cz113:Program.cellsOf Tryz.prog 113=1:=by kernel_rfl
@[simp] theorem ty114:tyOf Tryz.prog 114=some ⟨.fn,1,8,.fn0,false,false,false⟩:=by kernel_rfl
@[simp] theorem cz114:Program.cellsOf Tryz.prog 114=1:=by kernel_rfl
@[simp] theorem ty115:tyOf Tryz.prog 115=some ⟨.fn,1,8,.fn0,false,false,false⟩:=by kernel_rfl
@[simp] theorem cz115:Program.cellsOf Tryz.prog 115=1:=by kernel_rfl
@[simp] theorem ty116:tyOf Tryz.prog 116=some ⟨.slice 9,1,24,.sl0,false,false,false⟩:=by kernel_rfl
@[simp] theorem cz116:Program.cellsOf Tryz.prog 116=1:=by kernel_rfl
@[simp] theorem ty117:tyOf Tryz.prog 117=some ⟨.fn,1,8,.fn0,false,false,false⟩:=by kernel_rfl
@[simp] theorem cz117:Program.cellsOf Tryz.prog 117=1:=by kernel_rfl
@[simp] theorem ty118:tyOf Tryz.prog 118=some ⟨.int .u64,1,8,.i .u64 0,true,false,false⟩:=by kernel_rfl
@[simp] theorem cz118:Program.cellsOf Tryz.prog 118=1:=by kernel_rfl
@[simp] theorem ty119:tyOf Tryz.prog 119=some ⟨.other,1,0,.u,false,false,false⟩:=by kernel_rfl
@[simp] theorem cz119:Program.cellsOf Tryz.prog 119=1:=by kernel_rfl
@[simp] theorem ty120:tyOf Tryz.prog 120=some ⟨.fn,1,8,.fn0,false,false,false⟩:=by kernel_rfl
@[simp] theorem cz120:Program.cellsOf Tryz.prog 120=1:=by kernel_rfl
@[simp] theorem ty121:tyOf Tryz.prog 121=some ⟨.fn,1,8,.fn0,false,false,false⟩:=by kernel_rfl
@[simp] theorem cz121:Program.cellsOf Tryz.prog 121=1:=by kernel_rfl
@[simp] theorem ty122:tyOf Tryz.prog 122=some ⟨.fn,1,8,.fn0,false,false,false⟩:=by kernel_rfl
@[simp] theorem cz122:Program.cellsOf Tryz.prog 122=1:=by kernel_rfl
@[simp] theorem ty123:tyOf Tryz.prog 123=some ⟨.fn,1,8,.fn0,false,false,false⟩:=by kernel_rfl
@[simp] theorem cz123:Program.cellsOf Tryz.prog 123=1:=by kernel_rfl
@[simp] theorem ty124:tyOf Tryz.prog 124=some ⟨.fn,1,8,.fn0,false,false,false⟩:=by kernel_rfl
@[simp] theorem cz124:Program.cellsOf Tryz.prog 124=1:=by kernel_rfl
@[simp] theorem ty125:tyOf Tryz.prog 125=some ⟨.fn,1,8,.fn0,false,false,false⟩:=by kernel_rfl
@[simp] theorem cz125:Program.cellsOf Tryz.prog 125=1:=by kernel_rfl
@[simp] theorem ty126:tyOf Tryz.prog 126=some ⟨.fn,1,8,.fn0,false,false,false⟩:=by kernel_rfl
@[simp] theorem cz126:Program.cellsOf Tryz.prog 126=1:=by kernel_rfl
@[simp] theorem ty127:tyOf Tryz.prog 127=some ⟨.fn,1,8,.fn0,false,false,false⟩:=by kernel_rfl
@[simp] theorem cz127:Program.cellsOf Tryz.prog 127=1:=by kernel_rfl
@[simp] theorem ty128:tyOf Tryz.prog 128=some ⟨.fn,1,8,.fn0,false,false,false⟩:=by kernel_rfl
@[simp] theorem cz128:Program.cellsOf Tryz.prog 128=1:=by kernel_rfl
@[simp] theorem ty129:tyOf Tryz.prog 129=some ⟨.fn,1,8,.fn0,false,false,false⟩:=by kernel_rfl
@[simp] theorem cz129:Program.cellsOf Tryz.prog 129=1:=by kernel_rfl
@[simp] theorem ty130:tyOf Tryz.prog 130=some ⟨.fn,1,8,.fn0,false,false,false⟩:=by kernel_rfl
@[simp] theorem cz130:Program.cellsOf Tryz.prog 130=1:=by kernel_rfl
@[simp] theorem ty131:tyOf Tryz.prog 131=some ⟨.other,1,0,.u,false,false,false⟩:=by kernel_rfl
@[simp] theorem cz131:Program.cellsOf Tryz.prog 131=1:=by kernel_rfl
@[simp] theorem ty132:tyOf Tryz.prog 132=some ⟨.fn,1,8,.fn0,false,false,false⟩:=by kernel_rfl
@[simp] theorem cz132:Program.cellsOf Tryz.prog 132=1:=by kernel_rfl
@[simp] theorem ty133:tyOf Tryz.prog 133=some ⟨.fn,1,8,.fn0,false,false,false⟩:=by kernel_rfl
@[simp] theorem cz133:Program.cellsOf Tryz.prog 133=1:=by kernel_rfl
@[simp] theorem ty134:tyOf Tryz.prog 134=some ⟨.slice 112,1,24,.sl0,false,false,false⟩:=by kernel_rfl
@[simp] theorem cz134:Program.cellsOf Tryz.prog 134=1:=by kernel_rfl
@[simp] theorem ty135:tyOf Tryz.prog 135=some ⟨.fn,1,8,.fn0,false,false,false⟩:=by kernel_rfl
@[simp] theorem cz135:Program.cellsOf Tryz.prog 135=1:=by kernel_rfl
@[simp] theorem ty136:tyOf Tryz.prog 136=some ⟨.fn,1,8,.fn0,false,false,false⟩:=by kernel_rfl
@[simp] theorem cz136:Program.cellsOf Tryz.prog 136=1:=by kernel_rfl
@[simp] theorem ty137:tyOf Tryz.prog 137=some ⟨.fn,1,8,.fn0,false,false,false⟩:=by kernel_rfl
@[simp] theorem cz137:Program.cellsOf Tryz.prog 137=1:=by kernel_rfl
@[simp] theorem ty138:tyOf Tryz.prog 138=some ⟨.fn,1,8,.fn0,false,false,false⟩:=by kernel_rfl
@[simp] theorem cz138:Program.cellsOf Tryz.prog 138=1:=by kernel_rfl
@[simp] theorem ty139:tyOf Tryz.prog 139=some ⟨.fn,1,8,.fn0,false,false,false⟩:=by kernel_rfl
@[simp] theorem cz139:Program.cellsOf Tryz.prog 139=1:=by kernel_rfl
@[simp] theorem ty140:tyOf Tryz.prog 140=some ⟨.fn,1,8,.fn0,false,false,false⟩:=by kernel_rfl
@[simp] theorem cz140:Program.cellsOf Tryz.prog 140=1:=by kernel_rfl
@[simp] theorem ty141:tyOf Tryz.prog 141=some ⟨.fn,1,8,.fn0,false,false,false⟩:=by kernel_rfl
@[simp] theorem cz141:Program.cellsOf Tryz.prog 141=1:=by kernel_rfl
@[simp] theorem ty142:tyOf Tryz.prog 142=some ⟨.fn,1,8,.fn0,false,false,false⟩:=by kernel_rfl
@[simp] theorem cz142:Program.cellsOf Tryz.prog 142=1:=by kernel_rfl
@[simp] theorem ty143:tyOf Tryz.prog 143=some ⟨.fn,1,8,.fn0,false,false,false⟩:=by kernel_rfl
@[simp] theorem cz143:Program.cellsOf Tryz.prog 143=1:=by kernel_rfl
@[simp] theorem ty144:tyOf Tryz.prog 144=some ⟨.fn,1,8,.fn0,false,false,false⟩:=by kernel_rfl
@[simp] theorem cz144:Program.cellsOf Tryz.prog 144=1:=by kernel_rfl
@[simp] theorem ty145:tyOf Tryz.prog 145=some ⟨.fn,1,8,.fn0,false,false,false⟩:=by kernel_rfl
@[simp] theorem cz145:Program.cellsOf Tryz.prog 145=1:=by kernel_rfl
@[simp] theorem ty146:tyOf Tryz.prog 146=some ⟨.fn,1,8,.fn0,false,false,false⟩:=by kernel_rfl
@[simp] theorem cz146:Program.cellsOf Tryz.prog 146=1:=by kernel_rfl
@[simp] theorem ty147:tyOf Tryz.prog 147=some ⟨.fn,1,8,.fn0,false,false,false⟩:=by kernel_rfl
@[simp] theorem cz147:Program.cellsOf Tryz.prog 147=1:=by kernel_rfl
@[simp] theorem ty148:tyOf Tryz.prog 148=some ⟨.fn,1,8,.fn0,false,false,false⟩:=by kernel_rfl
@[simp] theorem cz148:Program.cellsOf Tryz.prog 148=1:=by kernel_rfl
@[simp] theorem ty149:tyOf Tryz.prog 149=some ⟨.fn,1,8,.fn0,false,false,false⟩:=by kernel_rfl
@[simp] theorem cz149:Program.cellsOf Tryz.prog 149=1:=by kernel_rfl
@[simp] theorem ty150:tyOf Tryz.prog 150=some ⟨.fn,1,8,.fn0,false,false,false⟩:=by kernel_rfl
@[simp] theorem cz150:Program.cellsOf Tryz.prog 150=1:=by kernel_rfl
@[simp] theorem ty151:tyOf Tryz.prog 151=some ⟨.fn,1,8,.fn0,false,false,false⟩:=by kernel_rfl
@[simp] theorem cz151:Program.cellsOf Tryz.prog 151=1:=by kernel_rfl
@[simp] theorem ty152:tyOf Tryz.prog 152=some ⟨.arr 256 5,256,256,.ag [.i .u8 0,.i .u8 0,.i .u8 0,.i .u8 0,.i .u8 0,.i .u8 0,.i .u8 0,.i .u8 0,.i .u8 0,.i .u8 0,.i .u8 0,.i .u8 0,.i .u8 0,.i .u8 0,.i .u8 0,.i .u8 0,.i .u8 0,.i .u8 0,.i .u8 0,.i .u8 0,.i .u8 0,.i .u8 0,.i .u8 0,.i .u8 0,.i .u8 0,.i .u8 0,.i .u8 0,.i .u8 0,.i .u8 0,.i .u8 0,.i .u8 0,.i .u8 0,.i .u8 0,.i .u8 0,.i .u8 0,.i .u8 0,.i .u8 0,.i .u8 0,.i .u8 0,.i .u8 0,.i .u8 0,.i .u8 0,.i .u8 0,.i .u8 0,.i .u8 0,.i .u8 0,.i .u8 0,.i .u8 0,.i .u8 0,.i .u8 0,.i .u8 0,.i .u8 0,.i .u8 0,.i .u8 0,.i .u8 0,.i .u8 0,.i .u8 0,.i .u8 0,.i .u8 0,.i .u8 0,.i .u8 0,.i .u8 0,.i .u8 0,.i .u8 0,.i .u8 0,.i .u8 0,.i .u8 0,.i .u8 0,.i .u8 0,.i .u8 0,.i .u8 0,.i .u8 0,.i .u8 0,.i .u8 0,.i .u8 0,.i .u8 0,.i .u8 0,.i .u8 0,.i .u8 0,.i .u8 0,.i .u8 0,.i .u8 0,.i .u8 0,.i .u8 0,.i .u8 0,.i .u8 0,.i .u8 0,.i .u8 0,.i .u8 0,.i .u8 0,.i .u8 0,.i .u8 0,.i .u8 0,.i .u8 0,.i .u8 0,.i .u8 0,.i .u8 0,.i .u8 0,.i .u8 0,.i .u8 0,.i .u8 0,.i .u8 0,.i .u8 0,.i .u8 0,.i .u8 0,.i .u8 0,.i .u8 0,.i .u8 0,.i .u8 0,.i .u8 0,.i .u8 0,.i .u8 0,.i .u8 0,.i .u8 0,.i .u8 0,.i .u8 0,.i .u8 0,.i .u8 0,.i .u8 0,.i .u8 0,.i .u8 0,.i .u8 0,.i .u8 0,.i .u8 0,.i .u8 0,.i .u8 0,.i .u8 0,.i .u8 0,.i .u8 0,.i .u8 0,.i .u8 0,.i .u8 0,.i .u8 0,.i .u8 0,.i .u8 0,.i .u8 0,.i .u8 0,.i .u8 0,.i .u8 0,.i .u8 0,.i .u8 0,.i .u8 0,.i .u8 0,.i .u8 0,.i .u8 0,.i .u8 0,.i .u8 0,.i .u8 0,.i .u8 0,.i .u8 0,.i .u8 0,.i .u8 0,.i .u8 0,.i .u8 0,.i .u8 0,.i .u8 0,.i .u8 0,.i .u8 0,.i .u8 0,.i .u8 0,.i .u8 0,.i .u8 0,.i .u8 0,.i .u8 0,.i .u8 0,.i .u8 0,.i .u8 0,.i .u8 0,.i .u8 0,.i .u8 0,.i .u8 0,.i .u8 0,.i .u8 0,.i .u8 0,.i .u8 0,.i .u8 0,.i .u8 0,.i .u8 0,.i .u8 0,.i .u8 0,.i .u8 0,.i .u8 0,.i .u8 0,.i .u8 0,.i .u8 0,.i .u8 0,.i .u8 0,.i .u8 0,.i .u8 0,.i .u8 0,.i .u8 0,.i .u8 0,.i .u8 0,.i .u8 0,.i .u8 0,.i .u8 0,.i .u8 0,.i .u8 0,.i .u8 0,.i .u8 0,.i .u8 0,.i .u8 0,.i .u8 0,.i .u8 0,.i .u8 0,.i .u8 0,.i .u8 0,.i .u8 0,.i .u8 0,.i .u8 0,.i .u8 0,.i .u8 0,.i .u8 0,.i .u8 0,.i .u8 0,.i .u8 0,.i .u8 0,.i .u8 0,.i .u8 0,.i .u8 0,.i .u8 0,.i .u8 0,.i .u8 0,.i .u8 0,.i .u8 0,.i .u8 0,.i .u8 0,.i .u8 0,.i .u8 0,.i .u8 0,.i .u8 0,.i .u8 0,.i .u8 0,.i .u8 0,.i .u8 0,.i .u8 0,.i .u8 0,.i .u8 0,.i .u8 0,.i .u8 0,.i .u8 0,.i .u8 0,.i .u8 0,.i .u8 0,.i .u8 0,.i .u8 0,.i .u8 0,.i .u8 0,.i .u8 0,.i .u8 0,.i .u8 0,.i .u8 0,.i .u8 0,.i .u8 0,.i .u8 0,.i .u8 0],true,false,false⟩:=by kernel_rfl
@[simp] theorem cz152:Program.cellsOf Tryz.prog 152=256:=by kernel_rfl
@[simp] theorem ty153:tyOf Tryz.prog 153=some ⟨.fn,1,8,.fn0,false,false,false⟩:=by kernel_rfl
@[simp] theorem cz153:Program.cellsOf Tryz.prog 153=1:=by kernel_rfl
@[simp] theorem ty154:tyOf Tryz.prog 154=some ⟨.fn,1,8,.fn0,false,false,false⟩:=by kernel_rfl
@[simp] theorem cz154:Program.cellsOf Tryz.prog 154=1:=by kernel_rfl
@[simp] theorem ty155:tyOf Tryz.prog 155=some ⟨.int .i64,1,8,.i .i64 0,true,false,false⟩:=by kernel_rfl
@[simp] theorem cz155:Program.cellsOf Tryz.prog 155=1:=by kernel_rfl
@[simp] theorem ty156:tyOf Tryz.prog 156=some ⟨.fn,1,8,.fn0,false,false,false⟩:=by kernel_rfl
@[simp] theorem cz156:Program.cellsOf Tryz.prog 156=1:=by kernel_rfl
@[simp] theorem ty157:tyOf Tryz.prog 157=some ⟨.int .u64,1,8,.i .u64 0,true,false,false⟩:=by kernel_rfl
@[simp] theorem cz157:Program.cellsOf Tryz.prog 157=1:=by kernel_rfl
@[simp] theorem ty158:tyOf Tryz.prog 158=some ⟨.ptr 176,1,8,.p0,true,false,false⟩:=by kernel_rfl
@[simp] theorem cz158:Program.cellsOf Tryz.prog 158=1:=by kernel_rfl
@[simp] theorem ty159:tyOf Tryz.prog 159=some ⟨.fn,1,8,.fn0,false,false,false⟩:=by kernel_rfl
@[simp] theorem cz159:Program.cellsOf Tryz.prog 159=1:=by kernel_rfl
@[simp] theorem ty160:tyOf Tryz.prog 160=some ⟨.fn,1,8,.fn0,false,false,false⟩:=by kernel_rfl
@[simp] theorem cz160:Program.cellsOf Tryz.prog 160=1:=by kernel_rfl
@[simp] theorem ty161:tyOf Tryz.prog 161=some ⟨.fn,1,8,.fn0,false,false,false⟩:=by kernel_rfl
@[simp] theorem cz161:Program.cellsOf Tryz.prog 161=1:=by kernel_rfl
@[simp] theorem ty162:tyOf Tryz.prog 162=some ⟨.fn,1,8,.fn0,false,false,false⟩:=by kernel_rfl
@[simp] theorem cz162:Program.cellsOf Tryz.prog 162=1:=by kernel_rfl
@[simp] theorem ty163:tyOf Tryz.prog 163=some ⟨.fn,1,8,.fn0,false,false,false⟩:=by kernel_rfl
@[simp] theorem cz163:Program.cellsOf Tryz.prog 163=1:=by kernel_rfl
@[simp] theorem ty164:tyOf Tryz.prog 164=some ⟨.other,1,8,.p0,true,false,false⟩:=by kernel_rfl
@[simp] theorem cz164:Program.cellsOf Tryz.prog 164=1:=by kernel_rfl
@[simp] theorem ty165:tyOf Tryz.prog 165=some ⟨.fn,1,8,.fn0,false,false,false⟩:=by kernel_rfl
@[simp] theorem cz165:Program.cellsOf Tryz.prog 165=1:=by kernel_rfl
@[simp] theorem ty166:tyOf Tryz.prog 166=some ⟨.other,1,0,.u,false,false,false⟩:=by kernel_rfl
@[simp] theorem cz166:Program.cellsOf Tryz.prog 166=1:=by kernel_rfl
@[simp] theorem ty167:tyOf Tryz.prog 167=some ⟨.fn,1,8,.fn0,false,false,false⟩:=by kernel_rfl
@[simp] theorem cz167:Program.cellsOf Tryz.prog 167=1:=by kernel_rfl
@[simp] theorem ty168:tyOf Tryz.prog 168=some ⟨.fn,1,8,.fn0,false,false,false⟩:=by kernel_rfl
@[simp] theorem cz168:Program.cellsOf Tryz.prog 168=1:=by kernel_rfl
@[simp] theorem ty169:tyOf Tryz.prog 169=some ⟨.fn,1,8,.fn0,false,false,false⟩:=by kernel_rfl
@[simp] theorem cz169:Program.cellsOf Tryz.prog 169=1:=by kernel_rfl
@[simp] theorem ty170:tyOf Tryz.prog 170=some ⟨.slice 172,1,24,.sl0,false,false,false⟩:=by kernel_rfl
@[simp] theorem cz170:Program.cellsOf Tryz.prog 170=1:=by kernel_rfl
@[simp] theorem ty171:tyOf Tryz.prog 171=some ⟨.st [(0,3,false),(1,3,false)],2,16,.ag [.i .i64 0,.i .i64 0],true,false,false⟩:=by kernel_rfl
@[simp] theorem cz171:Program.cellsOf Tryz.prog 171=2:=by kernel_rfl
@[simp] theorem ty172:tyOf Tryz.prog 172=some ⟨.st [(0,3,false),(1,3,false)],2,16,.ag [.i .i64 0,.i .i64 0],true,false,false⟩:=by kernel_rfl
@[simp] theorem cz172:Program.cellsOf Tryz.prog 172=2:=by kernel_rfl
@[simp] theorem ty173:tyOf Tryz.prog 173=some ⟨.fn,1,8,.fn0,false,false,false⟩:=by kernel_rfl
@[simp] theorem cz173:Program.cellsOf Tryz.prog 173=1:=by kernel_rfl
@[simp] theorem ty174:tyOf Tryz.prog 174=some ⟨.ptr 186,1,8,.p0,true,false,false⟩:=by kernel_rfl
@[simp] theorem cz174:Program.cellsOf Tryz.prog 174=1:=by kernel_rfl
@[simp] theorem ty175:tyOf Tryz.prog 175=some ⟨.st [(0,9,false),(1,9,false),(2,34,false)],3,48,.ag [.s [],.s [],.ic0],true,false,true⟩:=by kernel_rfl
@[simp] theorem cz175:Program.cellsOf Tryz.prog 175=3:=by kernel_rfl
@[simp] theorem ty176:tyOf Tryz.prog 176=some ⟨.st [(0,9,false),(1,9,false),(2,34,false)],3,48,.ag [.s [],.s [],.ic0],true,false,true⟩:=by kernel_rfl
@[simp] theorem cz176:Program.cellsOf Tryz.prog 176=3:=by kernel_rfl
@[simp] theorem ty177:tyOf Tryz.prog 177=some ⟨.fn,1,8,.fn0,false,false,false⟩:=by kernel_rfl
@[simp] theorem cz177:Program.cellsOf Tryz.prog 177=1:=by kernel_rfl
@[simp] theorem ty178:tyOf Tryz.prog 178=some ⟨.fn,1,8,.fn0,false,false,false⟩:=by kernel_rfl
@[simp] theorem cz178:Program.cellsOf Tryz.prog 178=1:=by kernel_rfl
@[simp] theorem ty179:tyOf Tryz.prog 179=some ⟨.other,1,0,.u,false,false,false⟩:=by kernel_rfl
@[simp] theorem cz179:Program.cellsOf Tryz.prog 179=1:=by kernel_rfl
@[simp] theorem ty180:tyOf Tryz.prog 180=some ⟨.fn,1,8,.fn0,false,false,false⟩:=by kernel_rfl
@[simp] theorem cz180:Program.cellsOf Tryz.prog 180=1:=by kernel_rfl
@[simp] theorem ty181:tyOf Tryz.prog 181=some ⟨.other,1,0,.u,false,false,false⟩:=by kernel_rfl
@[simp] theorem cz181:Program.cellsOf Tryz.prog 181=1:=by kernel_rfl
@[simp] theorem ty182:tyOf Tryz.prog 182=some ⟨.fn,1,8,.fn0,false,false,false⟩:=by kernel_rfl
@[simp] theorem cz182:Program.cellsOf Tryz.prog 182=1:=by kernel_rfl
@[simp] theorem ty183:tyOf Tryz.prog 183=some ⟨.slice 189,1,24,.sl0,false,false,false⟩:=by kernel_rfl
@[simp] theorem cz183:Program.cellsOf Tryz.prog 183=1:=by kernel_rfl
@[simp] theorem ty184:tyOf Tryz.prog 184=some ⟨.slice 192,1,24,.sl0,false,false,false⟩:=by kernel_rfl
@[simp] theorem cz184:Program.cellsOf Tryz.prog 184=1:=by kernel_rfl
@[simp] theorem ty185:tyOf Tryz.prog 185=some ⟨.st [(0,183,false),(1,184,false),(2,3,false)],3,56,.ag [.sl0,.sl0,.i .i64 0],false,false,false⟩:=by kernel_rfl
@[simp] theorem cz185:Program.cellsOf Tryz.prog 185=3:=by kernel_rfl
@[simp] theorem ty186:tyOf Tryz.prog 186=some ⟨.st [(0,183,false),(1,184,false),(2,3,false)],3,56,.ag [.sl0,.sl0,.i .i64 0],false,false,false⟩:=by kernel_rfl
@[simp] theorem cz186:Program.cellsOf Tryz.prog 186=3:=by kernel_rfl
@[simp] theorem ty187:tyOf Tryz.prog 187=some ⟨.int .u16,1,2,.i .u16 0,true,false,false⟩:=by kernel_rfl
@[simp] theorem cz187:Program.cellsOf Tryz.prog 187=1:=by kernel_rfl
@[simp] theorem ty188:tyOf Tryz.prog 188=some ⟨.st [(0,187,false),(1,187,false),(2,187,false)],3,6,.ag [.i .u16 0,.i .u16 0,.i .u16 0],true,false,false⟩:=by kernel_rfl
@[simp] theorem cz188:Program.cellsOf Tryz.prog 188=3:=by kernel_rfl
@[simp] theorem ty189:tyOf Tryz.prog 189=some ⟨.st [(0,187,false),(1,187,false),(2,187,false)],3,6,.ag [.i .u16 0,.i .u16 0,.i .u16 0],true,false,false⟩:=by kernel_rfl
@[simp] theorem cz189:Program.cellsOf Tryz.prog 189=3:=by kernel_rfl
@[simp] theorem ty190:tyOf Tryz.prog 190=some ⟨.fn,1,8,.fn0,false,false,false⟩:=by kernel_rfl
@[simp] theorem cz190:Program.cellsOf Tryz.prog 190=1:=by kernel_rfl
@[simp] theorem ty191:tyOf Tryz.prog 191=some ⟨.st [(0,39,false),(1,39,false),(2,39,false)],3,12,.ag [.i .u32 0,.i .u32 0,.i .u32 0],true,false,false⟩:=by kernel_rfl
@[simp] theorem cz191:Program.cellsOf Tryz.prog 191=3:=by kernel_rfl
@[simp] theorem ty192:tyOf Tryz.prog 192=some ⟨.st [(0,39,false),(1,39,false),(2,39,false)],3,12,.ag [.i .u32 0,.i .u32 0,.i .u32 0],true,false,false⟩:=by kernel_rfl
@[simp] theorem cz192:Program.cellsOf Tryz.prog 192=3:=by kernel_rfl
@[simp] theorem ty193:tyOf Tryz.prog 193=some ⟨.fn,1,8,.fn0,false,false,false⟩:=by kernel_rfl
@[simp] theorem cz193:Program.cellsOf Tryz.prog 193=1:=by kernel_rfl
@[simp] theorem ty194:tyOf Tryz.prog 194=some ⟨.ptr 196,1,8,.p0,true,false,false⟩:=by kernel_rfl
@[simp] theorem cz194:Program.cellsOf Tryz.prog 194=1:=by kernel_rfl
@[simp] theorem ty195:tyOf Tryz.prog 195=some ⟨.st [(0,9,false)],1,16,.ag [.s []],true,false,false⟩:=by kernel_rfl
@[simp] theorem cz195:Program.cellsOf Tryz.prog 195=1:=by kernel_rfl
@[simp] theorem ty196:tyOf Tryz.prog 196=some ⟨.st [(0,9,false)],1,16,.ag [.s []],true,false,false⟩:=by kernel_rfl
@[simp] theorem cz196:Program.cellsOf Tryz.prog 196=1:=by kernel_rfl
@[simp] theorem ty197:tyOf Tryz.prog 197=some ⟨.map 9 3,1,8,.mp0,false,false,false⟩:=by kernel_rfl
@[simp] theorem cz197:Program.cellsOf Tryz.prog 197=1:=by kernel_rfl
@[simp] theorem ty198:tyOf Tryz.prog 198=some ⟨.fn,1,8,.fn0,false,false,false⟩:=by kernel_rfl
@[simp] theorem cz198:Program.cellsOf Tryz.prog 198=1:=by kernel_rfl
@[simp] theorem ty199:tyOf Tryz.prog 199=some ⟨.arr 24 5,24,24,.ag [.i .u8 0,.i .u8 0,.i .u8 0,.i .u8 0,.i .u8 0,.i .u8 0,.i .u8 0,.i .u8 0,.i .u8 0,.i .u8 0,.i .u8 0,.i .u8 0,.i .u8 0,.i .u8 0,.i .u8 0,.i .u8 0,.i .u8 0,.i .u8 0,.i .u8 0,.i .u8 0,.i .u8 0,.i .u8 0,.i .u8 0,.i .u8 0],true,false,false⟩:=by kernel_rfl
@[simp] theorem cz199:Program.cellsOf Tryz.prog 199=24:=by kernel_rfl
@[simp] theorem ty200:tyOf Tryz.prog 200=some ⟨.fn,1,8,.fn0,false,false,false⟩:=by kernel_rfl
@[simp] theorem cz200:Program.cellsOf Tryz.prog 200=1:=by kernel_rfl
@[simp] theorem ty201:tyOf Tryz.prog 201=some ⟨.fn,1,8,.fn0,false,false,false⟩:=by kernel_rfl
@[simp] theorem cz201:Program.cellsOf Tryz.prog 201=1:=by kernel_rfl
@[simp] theorem ty202:tyOf Tryz.prog 202=some ⟨.other,1,0,.u,false,false,false⟩:=by kernel_rfl
@[simp] theorem cz202:Program.cellsOf Tryz.prog 202=1:=by kernel_rfl
@[simp] theorem ty203:tyOf Tryz.prog 203=some ⟨.fn,1,8,.fn0,false,false,false⟩:=by kernel_rfl
@[simp] theorem cz203:Program.cellsOf Tryz.prog 203=1:=by kernel_rfl
@[simp] theorem ty204:tyOf Tryz.prog 204=some ⟨.ptr 189,1,8,.p0,true,false,false⟩:=by kernel_rfl
@[simp] theorem cz204:Program.cellsOf Tryz.prog 204=1:=by kernel_rfl
@[simp] theorem ty205:tyOf Tryz.prog 205=some ⟨.ptr 192,1,8,.p0,true,false,false⟩:=by kernel_rfl
@[simp] theorem cz205:Program.cellsOf Tryz.prog 205=1:=by kernel_rfl
@[simp] theorem ty206:tyOf Tryz.prog 206=some ⟨.fn,1,8,.fn0,false,false,false⟩:=by kernel_rfl
@[simp] theorem cz206:Program.cellsOf Tryz.prog 206=1:=by kernel_rfl
@[simp] theorem ty207:tyOf Tryz.prog 207=some ⟨.fn,1,8,.fn0,false,false,false⟩:=by kernel_rfl
@[simp] theorem cz207:Program.cellsOf Tryz.prog 207=1:=by kernel_rfl
@[simp] theorem ty208:tyOf Tryz.prog 208=some ⟨.fn,1,8,.fn0,false,false,false⟩:=by kernel_rfl
@[simp] theorem cz208:Program.cellsOf Tryz.prog 208=1:=by kernel_rfl
@[simp] theorem ty209:tyOf Tryz.prog 209=some ⟨.arr 20 118,20,160,.ag [.i .u64 0,.i .u64 0,.i .u64 0,.i .u64 0,.i .u64 0,.i .u64 0,.i .u64 0,.i .u64 0,.i .u64 0,.i .u64 0,.i .u64 0,.i .u64 0,.i .u64 0,.i .u64 0,.i .u64 0,.i .u64 0,.i .u64 0,.i .u64 0,.i .u64 0,.i .u64 0],true,false,false⟩:=by kernel_rfl
@[simp] theorem cz209:Program.cellsOf Tryz.prog 209=20:=by kernel_rfl
@[simp] theorem ty210:tyOf Tryz.prog 210=some ⟨.arr 65 5,65,65,.ag [.i .u8 0,.i .u8 0,.i .u8 0,.i .u8 0,.i .u8 0,.i .u8 0,.i .u8 0,.i .u8 0,.i .u8 0,.i .u8 0,.i .u8 0,.i .u8 0,.i .u8 0,.i .u8 0,.i .u8 0,.i .u8 0,.i .u8 0,.i .u8 0,.i .u8 0,.i .u8 0,.i .u8 0,.i .u8 0,.i .u8 0,.i .u8 0,.i .u8 0,.i .u8 0,.i .u8 0,.i .u8 0,.i .u8 0,.i .u8 0,.i .u8 0,.i .u8 0,.i .u8 0,.i .u8 0,.i .u8 0,.i .u8 0,.i .u8 0,.i .u8 0,.i .u8 0,.i .u8 0,.i .u8 0,.i .u8 0,.i .u8 0,.i .u8 0,.i .u8 0,.i .u8 0,.i .u8 0,.i .u8 0,.i .u8 0,.i .u8 0,.i .u8 0,.i .u8 0,.i .u8 0,.i .u8 0,.i .u8 0,.i .u8 0,.i .u8 0,.i .u8 0,.i .u8 0,.i .u8 0,.i .u8 0,.i .u8 0,.i .u8 0,.i .u8 0,.i .u8 0],true,false,false⟩:=by kernel_rfl
@[simp] theorem cz210:Program.cellsOf Tryz.prog 210=65:=by kernel_rfl
@[simp] theorem ty211:tyOf Tryz.prog 211=some ⟨.fn,1,8,.fn0,false,false,false⟩:=by kernel_rfl
@[simp] theorem cz211:Program.cellsOf Tryz.prog 211=1:=by kernel_rfl
@[simp] theorem ty212:tyOf Tryz.prog 212=some ⟨.fn,1,8,.fn0,false,false,false⟩:=by kernel_rfl
@[simp] theorem cz212:Program.cellsOf Tryz.prog 212=1:=by kernel_rfl
@[simp] theorem ty213:tyOf Tryz.prog 213=some ⟨.fn,1,8,.fn0,false,false,false⟩:=by kernel_rfl
@[simp] theorem cz213:Program.cellsOf Tryz.prog 213=1:=by kernel_rfl
@[simp] theorem ty214:tyOf Tryz.prog 214=some ⟨.arr 32 5,32,32,.ag [.i .u8 0,.i .u8 0,.i .u8 0,.i .u8 0,.i .u8 0,.i .u8 0,.i .u8 0,.i .u8 0,.i .u8 0,.i .u8 0,.i .u8 0,.i .u8 0,.i .u8 0,.i .u8 0,.i .u8 0,.i .u8 0,.i .u8 0,.i .u8 0,.i .u8 0,.i .u8 0,.i .u8 0,.i .u8 0,.i .u8 0,.i .u8 0,.i .u8 0,.i .u8 0,.i .u8 0,.i .u8 0,.i .u8 0,.i .u8 0,.i .u8 0,.i .u8 0],true,false,false⟩:=by kernel_rfl
@[simp] theorem cz214:Program.cellsOf Tryz.prog 214=32:=by kernel_rfl
@[simp] theorem ty215:tyOf Tryz.prog 215=some ⟨.arr 64 5,64,64,.ag [.i .u8 0,.i .u8 0,.i .u8 0,.i .u8 0,.i .u8 0,.i .u8 0,.i .u8 0,.i .u8 0,.i .u8 0,.i .u8 0,.i .u8 0,.i .u8 0,.i .u8 0,.i .u8 0,.i .u8 0,.i .u8 0,.i .u8 0,.i .u8 0,.i .u8 0,.i .u8 0,.i .u8 0,.i .u8 0,.i .u8 0,.i .u8 0,.i .u8 0,.i .u8 0,.i .u8 0,.i .u8 0,.i .u8 0,.i .u8 0,.i .u8 0,.i .u8 0,.i .u8 0,.i .u8 0,.i .u8 0,.i .u8 0,.i .u8 0,.i .u8 0,.i .u8 0,.i .u8 0,.i .u8 0,.i .u8 0,.i .u8 0,.i .u8 0,.i .u8 0,.i .u8 0,.i .u8 0,.i .u8 0,.i .u8 0,.i .u8 0,.i .u8 0,.i .u8 0,.i .u8 0,.i .u8 0,.i .u8 0,.i .u8 0,.i .u8 0,.i .u8 0,.i .u8 0,.i .u8 0,.i .u8 0,.i .u8 0,.i .u8 0,.i .u8 0],true,false,false⟩:=by kernel_rfl
@[simp] theorem cz215:Program.cellsOf Tryz.prog 215=64:=by kernel_rfl
@[simp] theorem ty218:tyOf Tryz.prog 218=some ⟨.arr 0 16,0,0,.ag [],true,false,false⟩:=by kernel_rfl
@[simp] theorem cz218:Program.cellsOf Tryz.prog 218=0:=by kernel_rfl
@[simp] theorem ty221:tyOf Tryz.prog 221=some ⟨.int .u8,1,1,.i .u8 0,true,false,false⟩:=by kernel_rfl
@[simp] theorem cz221:Program.cellsOf Tryz.prog 221=1:=by kernel_rfl
@[simp] theorem ty222:tyOf Tryz.prog 222=some ⟨.int .u8,1,1,.i .u8 0,true,false,false⟩:=by kernel_rfl
@[simp] theorem cz222:Program.cellsOf Tryz.prog 222=1:=by kernel_rfl
@[simp] theorem ty223:tyOf Tryz.prog 223=some ⟨.fn,1,8,.fn0,false,false,false⟩:=by kernel_rfl
@[simp] theorem cz223:Program.cellsOf Tryz.prog 223=1:=by kernel_rfl
@[simp] theorem ty224:tyOf Tryz.prog 224=some ⟨.int .i32,1,4,.i .i32 0,true,false,false⟩:=by kernel_rfl
@[simp] theorem cz224:Program.cellsOf Tryz.prog 224=1:=by kernel_rfl
@[simp] theorem ty225:tyOf Tryz.prog 225=some ⟨.int .i32,1,4,.i .i32 0,true,false,false⟩:=by kernel_rfl
@[simp] theorem cz225:Program.cellsOf Tryz.prog 225=1:=by kernel_rfl
end Go.Abs.YtlkfbfhkcaldlaaGreatDoor
namespace Go.Abs
open Go.RowKit
section
variable {P:Program} {G:Nat} {μ μ':Mu} {σ σ':St} {w w':World}
theorem Does.jT {f:Nat} {aO:Array Value} {R:Ending→World→Prop} (he:Enters P f)(h:Calls P f aO w R):Does P f aO w R:=.inl ⟨he aO w,h⟩
theorem qZ (h:Below w.heap.size w w'):kK w w':=by
 intro b e m hs
 have hb:b<w.heap.size:=by
  rcases Nat.lt_or_ge b w.heap.size with hl | hl
  ·exact hl
  ·simp [World.shape?,Array.getElem?_eq_none hl] at hs
 unfold World.shape? at hs ⊢
 rw [h.block b hb];exact hs
theorem Step.of_below (hs:g_ G μ σ w)(h:Below w.heap.size w w'):Step G μ σ w μ σ w':=
 ⟨⟨fun o a ho hl=>by
  obtain⟨b,δ,h1,h2⟩:=hs.obj o a ho hl
  exact⟨b,δ,h1,wz.mono (Mu.le_refl μ) (qZ h) (h.block b (hs.blk o _ b δ h1)) h2⟩,hs.inj,hs.dom,fun o g b δ q=>Nat.lt_of_lt_of_le (hs.blk o g b δ q) h.size,hs.xk,hs.low,fun g e cs hg ho=>qZ h _ _ _ (hs.full g e cs hg ho)⟩,
   Mu.le_refl μ,qZ h,h.os,h.tape,h.output,h.size,fun b hb _=>h.block b hb,fun o a b δ h1 h2 h3 h4 _=>⟨o,a,δ,h1,h2,h3,h4⟩⟩
theorem Step.below (h:Step G μ σ w μ' σ' w')(hro:∀(o:Nat) a,σ[o]? =some a→a.ro=false→a.k.live=true→False):Below w.heap.size w w':=
 ⟨h.os,h.tape,h.output,h.size,fun b hb=>h.frame b hb fun o a δ h1 h2 h3 _=>hro o a h1 h2 h3⟩
theorem vk {a:AV} {c:Array Value} (h:aJ μ w [a] c.toList):∃v,c= #[v]∧aI μ w a v:=by
 obtain⟨v,vs,h1,h2,h3⟩:=h
 simp only [aJ] at h3
 subst h3
 exact⟨v,Array.ext' h1,h2⟩
theorem Aa {a b:AV} {c:Array Value} (h:aJ μ w [a,b] c.toList):∃v u,c= #[v,u]∧aI μ w a v∧aI μ w b u:=by
 obtain⟨v,vs,h1,h2,u,us,h3,h4,h5⟩:=h
 simp only [aJ] at h5
 subst h5;subst h3
 exact⟨v,u,Array.ext' h1,h2,h4⟩
theorem KE {a b d:AV} {c:Array Value} (h:aJ μ w [a,b,d] c.toList):∃v u t,c= #[v,u,t]∧aI μ w a v∧aI μ w b u∧aI μ w d t:=by
 obtain⟨v,vs,h1,h2,u,us,h3,h4,t,ts,h5,h6,h7⟩:=h
 simp only [aJ] at h7
 subst h7;subst h5;subst h3
 exact⟨v,u,t,Array.ext' h1,h2,h4,h6⟩
theorem g_.cell {o g e:Nat} {ro:Bool} {a:AV} {rest:List AV} {b δ:Nat} (hs:g_ G μ σ w)(ho:σ[o]? =some ⟨g,ro,.cells e (a :: rest)⟩)(hb:μ o g=some (b,δ)):∃v,w.cell? ⟨b,δ,none⟩=some v∧aI μ w a v:=by
 obtain⟨b',wL,h1,h2⟩:=hs.obj o _ ho rfl
 rw [hb] at h1;cases h1
 obtain⟨dB,fr,q1,q2,q3,q4⟩:=h2
 obtain⟨v,r1,r2⟩:=q3 0 a rfl
 refine⟨v,?_,r2⟩
 rw [cell_of_heap q1]
 simpa using r1
end
end Go.Abs
namespace Go.Abs
open Go.RowKit
variable {P:Program} {G:Nat} {μ:Mu} {σ:St} {w w':World}
theorem Step.fresh (hs:g_ G μ σ w)(hb:Below w.heap.size w w') {A e:Nat} {cur:Array Value} {cs:List AV} (hA:w.heap.size≤A)(hh:w'.heap[A]? =some (.cells cur e (0,0)))(hl:cs.length≤cur.size)
 (hc:∀(j:Nat) c,cs[j]? =some c→∃v,cur[j]? =some v∧aI μ w c v):Step G μ σ w (μ.upd σ.length 0 (A,0)) (σ ++ [⟨0,false,.cells e cs⟩]) w':=by
 have h:=(Step.of_below hs hb).wB
 have hwx:=qZ hb
 have hnone:μ σ.length 0=none:=by
  cases hq:μ σ.length 0 with
  | none=>rfl
  | some y=>obtain⟨a,ha,_⟩:=hs.dom _ _ _ hq;simp at ha
 have hle:=Mu.xu (x:=(A,0)) hnone
 have hcase:∀(o:Nat) a',(σ ++ [⟨0,false,.cells e cs⟩])[o]? =some a'→(σ[o]? =some a'∧o≠σ.length)∨(o=σ.length∧a'= ⟨0,false,.cells e cs⟩):=by
  intro o a' ho
  rcases Nat.lt_trichotomy o σ.length with hl | he | hg
  ·rw [List.getElem?_append_left hl] at ho;exact .inl ⟨ho,by omega⟩
  ·subst he;simp at ho;exact .inr ⟨rfl,ho.symm⟩
  ·rw [List.getElem?_eq_none (by simp;omega)] at ho;cases ho
 refine⟨⟨?_,?_,?_,?_,?_,?_,?_⟩,hle,hwx,hb.os,hb.tape,hb.output,hb.size,fun b hb' _=>hb.block b hb',?_⟩
 ·intro o a' ho hl'
  rcases hcase o a' ho with ⟨ho',hne⟩ | ⟨rfl,rfl⟩
  ·obtain⟨b,δ,h1,h2⟩:=h.obj o a' ho' hl'
   exact⟨b,δ,hle _ _ _ h1,wz.mono hle (kK.refl _) rfl h2⟩
  ·refine⟨A,0,Mu.dG _ _ _ _,cur,(0,0),hh,by omega,fun j c hj=>?_,fun _ j _ hj=>by omega⟩
   obtain⟨v,r1,r2⟩:=hc j c hj
   exact⟨v,by rw [Nat.zero_add];exact r1,aI.mono hle hwx c v r2⟩
 ·intro o o' a1 a2 b δ wL ho ho' hro hl1 hl2 hb1 hb2
  rcases hcase o a1 ho with ⟨ho1,hne⟩ | ⟨rfl,rfl⟩ <;> rcases hcase o' a2 ho' with ⟨ho2,hne'⟩ | ⟨rfl,rfl⟩
  ·rw [Mu.upd_ne (by simp [hne])] at hb1
   rw [Mu.upd_ne (by simp [hne'])] at hb2
   exact hs.inj o o' a1 a2 b δ wL ho1 ho2 hro hl1 hl2 hb1 hb2
  ·rw [Mu.upd_ne (by simp [hne])] at hb1
   rw [Mu.dG] at hb2
   cases hb2
   have:=hs.blk _ _ _ _ hb1
   omega
  ·rw [Mu.upd_ne (by simp [hne'])] at hb2
   rw [Mu.dG] at hb1
   cases hb1
   have:=hs.blk _ _ _ _ hb2
   omega
  ·rfl
 ·intro o g y hy
  by_cases he:o=σ.length∧g=0
  ·exact⟨⟨0,false,.cells e cs⟩,by rw [he.1];simp,by rw [he.2];exact Nat.zero_le _⟩
  ·rw [Mu.upd_ne he] at hy
   obtain⟨a',ha,hle'⟩:=hs.dom _ _ _ hy
   exact⟨a',by rw [List.getElem?_append_left (eP ha)];exact ha,hle'⟩
 ·intro o g b δ hy
  by_cases he:o=σ.length∧g=0
  ·rw [he.1,he.2,Mu.dG] at hy;cases hy;exact lt_of_heap hh
  ·rw [Mu.upd_ne he] at hy;have:=hs.blk _ _ _ _ hy;have:=hb.size;omega
 ·intro g hg'
  exact hle _ _ _ (hs.xk g hg')
 ·intro o b δ hy
  by_cases he:o=σ.length∧0=0
  ·rw [he.1,Mu.dG] at hy;cases hy;rfl
  ·rw [Mu.upd_ne he] at hy;exact hs.low _ _ _ hy
 ·intro g e' cs' hg' ho
  rcases hcase g _ ho with ⟨ho',_⟩ | ⟨rfl,h1⟩
  ·exact h.full g e' cs' hg' ho'
  ·cases h1
 ·intro o a' b δ ho hro hl' hb1 hlt
  rcases hcase o a' ho with ⟨ho1,hne⟩ | ⟨rfl,rfl⟩
  ·rw [Mu.upd_ne (by simp [hne])] at hb1
   exact⟨o,a',δ,ho1,hro,hl',hb1⟩
  ·rw [Mu.dG] at hb1;cases hb1;omega
theorem g_.tab (hs:g_ G μ σ w) {g e:Nat} {cs:List AV} (hg:g<G)(ho:σ[g]? =some ⟨0,true,.cells e cs⟩):∃dB fr,w.heap[g]? =some (.cells dB e fr)∧dB.size=cs.length∧aJ μ w cs dB.toList:=by
 obtain⟨b,δ,h1,h2⟩:=hs.obj g _ ho rfl
 rw [hs.xk g hg] at h1;cases h1
 obtain⟨dB,fr,q1,q2,q3,_⟩:=h2
 have hf:=hs.full g e cs hg ho
 have hsz:dB.size=cs.length:=by
  have:w.shape? g=some (e,dB.size):=by simp [World.shape?,q1]
  rw [this] at hf;exact(Prod.mk.inj (Option.some.inj hf)).2
 refine⟨dB,fr,q1,hsz,aJ.Dj (by simpa using hsz) fun j c hj=>?_⟩
 obtain⟨v,r1,r2⟩:=q3 j c hj
 exact⟨v,by rw [Nat.zero_add] at r1;simpa using r1,r2⟩
theorem DX {k:IntKind} :∀{zs:List Int} {l:List Value},aJ μ w (zs.map (AV.i k)) l→l=zs.map (Value.int k)
 | [],l,h=>by simpa [aJ] using h
 | z :: zs,l,h=>by
   obtain⟨v,vs,h1,h2,h3⟩:=h
   simp only [aI] at h2
   rw [h1,h2,DX h3];rfl
end Go.Abs
namespace Go.Abs.YtlkfbfhkcaldlaaGreatDoor
open Go.Proofs
def cA:Code→Code
 | .seq a _=>a
 | c=>c
def cB:Code→Code
 | .seq _ b=>b
 | c=>c
def cT:Code→Code
 | .cond _ a _=>a
 | c=>c
def cOps:Code→Array Oper
 | .region _ ops _=>ops
 | _=>#[]
def aA:AC→AC
 | .seq a _=>a
 | c=>c
def aB:AC→AC
 | .seq _ b=>b.BP
 | c=>c
def aT:AC→AC
 | .cond _ a _=>a
 | c=>c
def aStr:AC→Bool
 | .skip=>true
 | .reg _=>true
 | .drw _=>true
 | .seq a b=>(aStr a) && (aStr b)
 | .cond _ a b=>(aStr a) && (aStr b)
 | .cut _ a=>(aStr a)
 | _=>false
theorem lK {X:Ctx} {run:Run} {n:Nat} :∀(a:AC) (e:Env) (σ:St) (o:Out) (e':Env) (σ':St),(aStr a)=true→bH X run n a e σ=some (o,e',σ')→o= .normal
 | .skip,e,σ,o,e',σ',_,h=>by cases h;rfl
 | .reg ops,e,σ,o,e',σ',_,h=>by
   simp only [bH,iU] at h
   obtain⟨r,_,h⟩:=h
   cases h;rfl
 | .drw ops,e,σ,o,e',σ',_,h=>by
   simp only [bH,iU] at h
   obtain⟨r,_,h⟩:=h
   cases h;rfl
 | .seq a b,e,σ,o,e',σ',hs,h=>by
   simp only [aStr,fJ] at hs
   simp only [bH] at h
   split at h
   ·exact lK b _ _ _ _ _ hs.2 h
   ·exact lK a _ _ _ _ _ hs.1 h
 | .cond x a b,e,σ,o,e',σ',hs,h=>by
   simp only [aStr,fJ] at hs
   simp only [bH] at h
   split at h
   ·exact lK a _ _ _ _ _ hs.1 h
   ·exact lK b _ _ _ _ _ hs.2 h
   ·cases h
 | .cut l a,e,σ,o,e',σ',hs,h=>by
   simp only [bH] at h
   exact lK a _ _ _ _ _ (by simpa [aStr] using hs) h
 | .blk _ _,_,_,_,_,_,hs,_=>by cases hs
 | .loop _ _,_,_,_,_,_,hs,_=>by cases hs
 | .exit _,_,_,_,_,_,hs,_=>by cases hs
 | .ret,_,_,_,_,_,hs,_=>by cases hs
def lM (k:Nat):AC→Bool
 | .skip=>true
 | .reg ops=>ops.all fun a=>a.d != some k
 | .seq a b=>(lM k a) && (lM k b)
 | .cond _ a b=>(lM k a) && (lM k b)
 | .cut l a=>l.contains k && (lM k a)
 | _=>false
theorem wR {l:List Nat} {k:Nat} (h:k∈l)(e:Env):get (clear l e) k=get e k:=by
 unfold clear
 induction l with
 | nil=>cases h
 | cons d l ih=>
   simp only [List.map_cons,Go.Abs.get]
   split
   ·rename_i hd;rw [hd]
   ·rename_i hd
    rcases List.mem_cons.1 h with rfl | h
    ·exact(hd rfl).elim
    ·exact ih h
theorem GN {X:Ctx} {run:Run} {k:Nat} :∀(ops:List AI) (e:Env) (σ:St) (e':Env) (σ':St),(ops.all fun a=>a.d != some k)=true→wo X run ops e σ=some (e',σ')→get e' k=get e k
 | [],e,σ,e',σ',_,h=>by cases h;rfl
 | a :: r,e,σ,e',σ',hs,h=>by
   rw [List.all_cons,fJ] at hs
   simp only [wo] at h
   split at h
   ·rw [GN r _ _ _ _ hs.2 h,lJ (by simpa using hs.1)]
   ·cases h
theorem kD {X:Ctx} {run:Run} {n k:Nat} :∀(a:AC) (e:Env) (σ:St) (o:Out) (e':Env) (σ':St),(lM k a)=true→bH X run n a e σ=some (o,e',σ')→get e' k=get e k
 | .skip,e,σ,o,e',σ',_,h=>by cases h;rfl
 | .reg ops,e,σ,o,e',σ',hs,h=>by
   simp only [bH,iU] at h
   obtain⟨r,h1,h⟩:=h
   cases h
   exact GN ops e σ _ _ hs h1
 | .seq a b,e,σ,o,e',σ',hs,h=>by
   simp only [lM,fJ] at hs
   simp only [bH] at h
   split at h
   ·rename_i e1 s1 h1
    rw [kD b _ _ _ _ _ hs.2 h,kD a _ _ _ _ _ hs.1 h1]
   ·exact kD a _ _ _ _ _ hs.1 h
 | .cond x a b,e,σ,o,e',σ',hs,h=>by
   simp only [lM,fJ] at hs
   simp only [bH] at h
   split at h
   ·exact kD a _ _ _ _ _ hs.1 h
   ·exact kD b _ _ _ _ _ hs.2 h
   ·cases h
 | .cut l a,e,σ,o,e',σ',hs,h=>by
   simp only [lM,fJ] at hs
   simp only [bH] at h
   rw [kD a _ _ _ _ _ hs.2 h,wR (by simpa using hs.1)]
 | .drw _,_,_,_,_,_,hs,_=>by cases hs
 | .blk _ _,_,_,_,_,_,hs,_=>by cases hs
 | .loop _ _,_,_,_,_,_,hs,_=>by cases hs
 | .exit _,_,_,_,_,_,hs,_=>by cases hs
 | .ret,_,_,_,_,_,hs,_=>by cases hs
theorem vw {X:Ctx} {run:Run} {n:Nat} {a b:AC} {e:Env} {σ:St} {r:Out×Env×St} (ha:(aStr a)=true)(h:bH X run n (.seq a b) e σ=some r):∃e1 s1,bH X run n a e σ=some (.normal,e1,s1)∧bH X run n b e1 s1=some r:=by
 simp only [bH] at h
 split at h
 ·rename_i e1 s1 h1;exact⟨e1,s1,h1,h⟩
 ·rename_i hn
  obtain⟨o,e',σ'⟩:=r
  obtain rfl:=lK a _ _ _ _ _ ha h
  exact(hn _ _ h).elim
theorem Uf {X:Ctx} {run:Run} {n k a b:Nat} {e e':Env} {σ σ1:St} {o:Out} (h:bH X run n (.reg [⟨none,none,.call (.c (.fn (.func k) [] [])) [.t a,.t b]⟩]) e σ=some (o,e',σ1)):∃v,run k [get e a,get e b] σ=some (v,σ1)∧o= .normal∧e'= e:=by
 simp only [bH,iU,wo] at h
 obtain⟨r,h,hr⟩:=h
 cases hr
 split at h
 ·rename_i v s hst
  cases h
  simp [fU,iH,fK,Opd.ev] at hst
  exact⟨v,hst,rfl,rfl⟩
 ·cases h
theorem Ac {X:Ctx} {run:Run} {n k:Nat} {a b:AC} {e:Env} {σ:St} {r:Out×Env×St} (h:bH X run n (.cond (.t k) a b) e σ=some r):(get e k= .b true∧bH X run n a e σ=some r)∨(get e k= .b false∧bH X run n b e σ=some r):=by
 rw [bH] at h
 simp only [Opd.ev] at h
 split at h
 ·rename_i hk;exact .inl ⟨hk,h⟩
 ·rename_i hk;exact .inr ⟨hk,h⟩
 ·cases h
theorem qB {X:Ctx} {run:Run} {n:Nat} {b:AC} {e:Env} {σ:St} {r:Out×Env×St} (h:bH X run n b e σ=some r):∃e',(e'= e∨∃l,e'= clear l e∧b= .cut l b.BP)∧bH X run n b.BP e' σ=some r:=by
 rcases AC.vg b with hb | ⟨l,hb⟩
 ·exact⟨e,.inl rfl,by rw [hb];exact h⟩
 ·refine⟨clear l e,.inr ⟨l,rfl,hb⟩,?_⟩
  rw [hb] at h
  simpa only [bH] using h
theorem pO {G N:Nat} {μ:Mu} {w:World} {e e':Env} {tmps:Array Value} {Z:List Nat→Prop} (h:fQ G N μ w e tmps)(he:e'= e∨∃l,e'= clear l e∧Z l):fQ G N μ w e' tmps:=by
 rcases he with rfl | ⟨l,rfl,_⟩
 ·exact h
 ·exact h.clear l
noncomputable def opC:Code:=(Tryz.f136.body).getD .skip
noncomputable def oC0:Code:=cA opC
noncomputable def oCS:Code:=cA (cB opC)
noncomputable def oD3:Code:=cA (cA (cB (cB opC)))
noncomputable def oD4:Code:=cA (cT (cB (cA (cB (cB opC)))))
noncomputable def QV:Array Oper:=cOps (cB (cT (cB (cA (cB (cB opC))))))
noncomputable def oCR:Code:=cB (cB (cB opC))
def Nk:AC→AC
 | .seq _ b=>b
 | c=>c
def vV:AC:=aA Ud
def vFr:AC:=Nk Ud
def vA0:AC:=aA vV
def vS:AC:=aA (aB vV)
def vD:AC:=aA (aB (aB vV))
def vRr:AC:=Nk (aB (aB vV))
def vA3:AC:=aA vD
def vA4:AC:=aA (aT (aB vD))
def vA5:AC:=aB (aT (aB vD))
theorem Yw:Tryz.f136.body=some (.seq oC0 (.seq oCS (.seq (.seq oD3 (.cond (.tmp 19) (.seq oD4 (.region 5 QV false)) .skip)) oCR))):=by kernel_rfl
theorem op_nt:Tryz.f136.ntmps=60:=by kernel_rfl
theorem Ug:tZ Tryz.f136.results.toList []=true:=by kernel_rfl
theorem op_ok0:CB Tryz.prog 10 60 oC0 vA0=true:=by kernel_rfl
theorem op_okS:CB Tryz.prog 10 60 oCS vS=true:=by kernel_rfl
theorem op_ok3:CB Tryz.prog 10 60 oD3 vA3=true:=by kernel_rfl
theorem op_ok4:CB Tryz.prog 10 60 oD4 vA4=true:=by kernel_rfl
theorem op_okR:CB Tryz.prog 10 60 oCR vRr.BP=true:=by kernel_rfl
def vi23:AI:=⟨some 23,none,.mv (.t 0)⟩
def vi24:AI:=⟨some 24,none,.bsl 116 1 [(0,.c (.s [41]))]⟩
theorem op_v5:vA5= .reg [vi23,vi24]:=by rfl
theorem Uh:QV.size=3:=by kernel_rfl
noncomputable def o50:Oper:=(QV[0]?).getD default
noncomputable def o51:Oper:=(QV[1]?).getD default
noncomputable def o52:Oper:=(QV[2]?).getD default
theorem op_o50:QV[0]? =some o50:=by kernel_rfl
theorem op_o51:QV[1]? =some o51:=by kernel_rfl
theorem op_o52:QV[2]? =some o52:=by kernel_rfl
theorem Yx:xA Tryz.prog 10 60 QV o50 vi23=true:=by kernel_rfl
theorem Yy:xA Tryz.prog 10 60 QV o51 vi24=true:=by kernel_rfl
def tsOf:Op→Array TypeId
 | .defer ⟨_,_,ts⟩=>ts
 | _=>#[]
theorem op_52:o52.guard=none∧o52.dst=none∧∃ts,o52.op= .defer ⟨.value (.func 44),#[.tmp 23,.tmp 24],ts⟩:=⟨by kernel_rfl,by kernel_rfl,tsOf o52.op,by kernel_rfl⟩
theorem op_vD:vD= .seq vA3 (Nk vD)∧(Nk vD).BP= .cond (.t 19) (.seq vA4 (Nk (aT (aB vD)))) .skip∧(Nk (aT (aB vD))).BP=vA5:=⟨by rfl,by rfl,by rfl⟩
theorem op_vV:Ud= .seq vV vFr∧vV= .seq vA0 (Nk vV)∧(Nk vV).BP= .seq vS (Nk (aB vV))∧(Nk (aB vV)).BP= .seq vD vRr∧vFr.BP= .cond (.t 19) (.reg [⟨none,none,.call (.c (.fn (.func 44) [] [])) [.t 23,.t 24]⟩]) .skip:=⟨by rfl,by rfl,by rfl,by rfl,by rfl⟩
theorem op_str:(aStr vV)=true∧(aStr vA0)=true∧(aStr vS)=true∧(aStr vD)=true∧(aStr vA3)=true∧(aStr vA4)=true∧(aStr vRr)=true:=by decide
theorem Yz:∀k∈[19,23,24],(lM k vRr)=true∧(vFr=vFr.BP∨∃l,vFr= .cut l vFr.BP∧k∈l):=by
 intro k hk
 have h0:([19,23,24].all fun k=>(lM k vRr) && (match vFr with | .cut l _=>l.contains k | _=>true))=true:=by decide
 rw [List.all_eq_true] at h0
 have h1:=h0 k hk
 rw [fJ] at h1
 refine⟨h1.1,?_⟩
 rcases AC.vg vFr with hb | ⟨l,hb⟩
 ·exact .inl hb.symm
 ·refine .inr ⟨l,hb,?_⟩
  have h2:=h1.2
  rw [hb] at h2
  simpa using h2
theorem Ui:lM 19 vA4=true∧(Nk (aT (aB vD))=(Nk (aT (aB vD))).BP∨∃l,Nk (aT (aB vD))= .cut l (Nk (aT (aB vD))).BP∧19∈l):=by
 have h0:(lM 19 vA4 && (match Nk (aT (aB vD)) with | .cut l _=>l.contains 19 | _=>true))=true:=by decide
 rw [fJ] at h0
 refine⟨h0.1,?_⟩
 rcases AC.vg (Nk (aT (aB vD))) with hb | ⟨l,hb⟩
 ·exact .inl hb.symm
 ·refine .inr ⟨l,hb,?_⟩
  have h2:=h0.2
  rw [hb] at h2
  simpa using h2
theorem key3 {e e':Env} {k:Nat} {b:AC} (he:e'= e∨∃l,e'= clear l e∧b= .cut l b.BP)(hk:b=b.BP∨∃l,b= .cut l b.BP∧k∈l):get e' k=get e k:=by
 rcases he with rfl | ⟨l,rfl,hl⟩
 ·rfl
 ·rcases hk with hk | ⟨l2,h2,hm⟩
  ·exfalso
   rw [←hk] at hl
   have:=congrArg (fun x:AC=>SizeOf.sizeOf x) hl
   simp at this
  ·have e3:AC.cut l b.BP= .cut l2 b.BP:=hl.symm.trans h2
   injection e3 with e3 _
   rw [e3]
   exact wR hm e
set_option maxHeartbeats 2000000 in
theorem YA:NI Tryz.prog fns (fun f=>Nat.beq f 44) 10 136 Yn:=by
 intro X hP hF hD hX hdr run n hrun hrd args σ o e σ1 v hlen hcode ho hv μ w aO hs hr
 obtain⟨P,fns',fM,meth,dk⟩:=X
 simp only at hP hF hD
 subst hP hF hD
 have hen:Enters Tryz.prog 136:=iw Tryz.func136 (by kernel_rfl) (by kernel_rfl)
 refine⟨hen,calls_of_wp_defers Tryz.func136 Yw ?_⟩
 obtain⟨q0,qS,q3,q4,qR,r0⟩:=And.intro op_ok0 (And.intro op_okS (And.intro op_ok3 (And.intro op_ok4 (And.intro op_okR trivial))))
 obtain⟨vv1,vv2,vv3,vv4,vv5⟩:=op_vV
 obtain⟨vd1,vd2,vd3⟩:=op_vD
 obtain⟨s1,s2,s3,s4,s5,s6,s7⟩:=op_str
 have Uj:bH ⟨Tryz.prog,fns,fM,meth,fun f=>Nat.beq f 44⟩ run n Ud (iD 0 args) σ=some (o,e,σ1):=hcode
 rw [vv1] at Uj
 obtain⟨eV,sV,hV,IC⟩:=vw s1 Uj
 rw [vv2] at hV
 obtain⟨e0,s0,h0,hb⟩:=vw s2 hV
 obtain⟨e0',he0',hb⟩:=qB hb
 rw [vv3] at hb
 obtain⟨eS,sS,hS,hb⟩:=vw s3 hb
 obtain⟨eS',heS',hb⟩:=qB hb
 rw [vv4] at hb
 obtain⟨eD,sD,hDd,hRr⟩:=vw s4 hb
 obtain⟨eR,heR,hR⟩:=qB hRr
 rw [vd1] at hDd
 obtain⟨e3,s3',h3,hcnd⟩:=vw s5 hDd
 obtain⟨e3',he3',hcnd⟩:=qB hcnd
 rw [vd2] at hcnd
 obtain⟨eF,heF,IC⟩:=qB IC
 rw [vv5] at IC
 have hkeep:∀k∈[19,23,24],get eF k=get eD k:=fun k hk=>by
  obtain⟨k1,k2⟩:=Yz k hk
  rw [key3 heF k2,kD vRr eD sD _ _ _ k1 hRr]
 have hsz:aO.size=args.length:=by have:=hr.length;simpa using this
 rw [op_nt]
 have hen0:=Bv (G:=10) hr hlen
 refine wp_seq (gB hX hrun hdr oC0 vA0 q0 [] _ { tmps:=aO ++ Array.replicate (60 - aO.size) undef,defers:=[] } μ σ w .normal e0 s0 _ hs hen0 rfl h0 fun a1 w1 hl1=>?_)
 obtain⟨qV,st1,en1,d1⟩:=hl1
 refine wp_seq (gB hX hrun hdr oCS vS qS [] _ a1 qV s0 w1 .normal eS sS _ st1.wB (pO en1 he0') d1 hS fun a2 w2 hl2=>?_)
 obtain⟨Ih,st2,en2,d2⟩:=hl2
 refine wp_seq (wp_seq (gB hX hrun hdr oD3 vA3 q3 [] _ a2 Ih sS w2 .normal e3 s3' _ st2.wB (pO en2 heS') d2 h3 fun a3 w3 hl3=>?_))
 obtain⟨μ3,st3,en3,d3⟩:=hl3
 have en3':=pO en3 he3'
 have hx:=en3'.rel 19
 rcases Ac hcnd with ⟨h19,hcnd⟩ | ⟨h19,hcnd⟩
 ·rw [h19] at hx
  refine wp_cond_true hx ?_
  obtain⟨e4,s4',h4,hb⟩:=vw s6 hcnd
  obtain⟨e4',he4',hb5⟩:=qB hb
  rw [vd3,op_v5] at hb5
  refine wp_seq (gB hX hrun hdr oD4 vA4 q4 [] _ a3 μ3 s3' w3 .normal e4 s4' _ st3.wB en3' d3 h4 fun a4 w4 hl4=>?_)
  obtain⟨μ4,st4,en4,d4⟩:=hl4
  have en4':=pO en4 he4'
  simp only [bH,iU,wo] at hb5
  obtain⟨⟨eX,sX⟩,hb6,hbe⟩:=hb5
  cases hbe
  split at hb6
  ·rename_i v23 s5' hst23
   split at hb6
   ·rename_i v24 s6' hst24
    cases hb6
    refine wp_region ?_
    rw [Uh,show List.range 3=[0,1,2] from rfl,wpOps]
    simp only [op_o50]
    refine yM (ops:=QV) hX hrun st4.wB en4' Yx hst23 fun u5 w5 μ5 hv5 st5=>?_
    have hd50:o50.dst=some 23:=by kernel_rfl
    have hd51:o51.dst=some 24:=by kernel_rfl
    have en5:=(en4'.mono st5.ext st5.xq).put (d:=some 23) (by decide) hv5
    rw [wpOps]
    simp only [op_o51]
    rw [hd50]
    refine yM (ops:=QV) hX hrun st5.wB en5 Yy hst24 fun u6 w6 μ6 hv6 st6=>?_
    have en6:=(en5.mono st6.ext st6.xq).put (d:=some 24) (by decide) hv6
    rw [hd51,wpOps]
    simp only [op_o52]
    obtain⟨g52,d52,ts,p52⟩:=op_52
    have hw52:Region.wanted o52 (yielded QV (((a4.put (some 23) u5).put (some 24) u6)).tmps)=true:=by simp [Region.wanted,g52]
    rw [if_pos hw52]
    refine .inl ?_
    have hargs6: #[Operand.tmp 23,Operand.tmp 24].map (((a4.put (some 23) u5).put (some 24) u6)).eval= #[(((a4.put (some 23) u5).put (some 24) u6)).tmps.getD 23 undef,(((a4.put (some 23) u5).put (some 24) u6)).tmps.getD 24 undef]:=by simp [Act.eval]
    unfold Oper.wp
    have hex:(execOp ((a4.put (some 23) u5).put (some 24) u6).eval o52).run Tryz.prog w6= .ok (.defer ⟨.fn (.func 44) #[],#[(((a4.put (some 23) u5).put (some 24) u6)).tmps.getD 23 undef,(((a4.put (some 23) u5).put (some 24) u6)).tmps.getD 24 undef]⟩) w6:=by
     simp only [execOp,p52,resolve,hargs6]
     rfl
    rw [hex,Oper.upon_defer,wpOps,d52]
    have hk19:get eF 19= .b true:=by
     obtain⟨k1,k2⟩:=Ui
     rw [hkeep 19 (by simp),lJ (by decide),lJ (by decide),key3 he4' k2,kD vA4 _ _ _ _ _ k1 h4,h19]
    have r23:=en6.rel 23
    have r24:=en6.rel 24
    have hk23:get eF 23=get (put (some 24) v24 (put (some 23) v23 e4')) 23:=hkeep 23 (by simp)
    have hk24:get eF 24=get (put (some 24) v24 (put (some 23) v23 e4')) 24:=hkeep 24 (by simp)
    rw [←hk23] at r23
    rw [←hk24] at r24
    rcases Ac IC with ⟨_,IC⟩ | ⟨Uk,_⟩
    ·obtain⟨rv,hrun7,rfl,rfl⟩:=Uf IC
     refine gB hX hrun hdr oCR vRr.BP qR [⟨.fn (.func 44) #[],#[((a4.put (some 23) u5).put (some 24) u6).tmps.getD 23 undef,((a4.put (some 23) u5).put (some 24) u6).tmps.getD 24 undef]⟩] _ _ μ6 _ w6 .normal eV sV _ st6.wB (pO en6 heR) ?_ hR fun a7 w7 hl7=>?_
     ·show #[_].toList ++ a4.defers=_
      rw [d4];rfl
     ·obtain⟨μ7,YB,en7,d7⟩:=hl7
      show Leaves _ _ a7.tmps _ a7.defers .returning w7
      rw [d7]
      have hr7:aJ μ7 w7 [get e 23,get e 24] [((a4.put (some 23) u5).put (some 24) u6).tmps.getD 23 undef,((a4.put (some 23) u5).put (some 24) u6).tmps.getD 24 undef]:=⟨_,_,rfl,aI.mono YB.ext YB.xq _ _ r23,_,_,rfl,aI.mono YB.ext YB.xq _ _ r24,rfl⟩
      obtain⟨hD1,hD2⟩:=hrd 44 rfl _ _ _ _ hrun7 μ7 w7 #[((a4.put (some 23) u5).put (some 24) u6).tmps.getD 23 undef,((a4.put (some 23) u5).put (some 24) u6).tmps.getD 24 undef] YB.wB hr7
      refine leaves_cons (by simp) ?_ ((hD2 .returning).mono fun ee u' w' q=>?_)
      ·show (callFunc _ (_ ++ #[])).run _ _=_
       rw [Array.append_empty]
       exact hD1
      ·obtain⟨rfl,uu,μ8,rfl,hvu,st8⟩:=q
       have en8:=(pO en7 heF).mono st8.ext st8.xq
       obtain⟨ur,hu1,hu2⟩:=t_ (X:=⟨Tryz.prog,fns,fM,meth,fun f=>Nat.beq f 44⟩) (fn:=Tryz.f136) st8.wB en8 Ug hv
       exact⟨ur,hu1,ur,μ8,rfl,hu2,((((((st1.trans st2).trans st3).trans st4).trans st5).trans st6).trans YB).trans st8⟩
    ·rw [hk19] at Uk;cases Uk
   ·cases hb6
  ·cases hb6
 ·rw [h19] at hx
  refine wp_cond_false hx ?_
  cases hcnd
  refine wp_skip ?_
  refine gB hX hrun hdr oCR vRr.BP qR [] _ a3 μ3 _ w3 .normal eV sV _ st3.wB (pO en3' heR) d3 hR fun a7 w7 hl7=>?_
  obtain⟨μ7,YB,en7,d7⟩:=hl7
  show Leaves _ _ a7.tmps _ a7.defers .returning w7
  rw [d7]
  have hk19:get eF 19= .b false:=by rw [hkeep 19 (by simp),h19]
  rcases Ac IC with ⟨Uk,_⟩ | ⟨_,IC⟩
  ·rw [hk19] at Uk;cases Uk
  ·cases IC
   obtain⟨ur,hu1,hu2⟩:=t_ (X:=⟨Tryz.prog,fns,fM,meth,fun f=>Nat.beq f 44⟩) (fn:=Tryz.f136) YB.wB (pO en7 heF) Ug hv
   exact⟨ur,hu1,ur,μ7,rfl,hu2,((st1.trans st2).trans st3).trans YB⟩
end Go.Abs.YtlkfbfhkcaldlaaGreatDoor
