/- Texts of this claim, joined: Ty, As, Abs20, Abs34. -/
import Derived.Test.YtjcicgkencfbgaaGreatDoorM01
import Derived.Test.YtjcicgkencfbgaaGreatDoorProg
import Derived.KernelRfl
import Derived.WalkKit
import Derived.Below
import Derived.LaidEql
import Derived.Stop.Asserts
import Derived.RowKitTokens
import Derived.Test.YtjcicgkencfbgaaGreatDoorM02
import Derived.Laws.AppendOwn
set_option linter.unusedVariables false
set_option linter.unusedSimpArgs false
namespace Go.bG.YtjcicgkencfbgaaGreatDoor
open Go.Proofs
@[simp] theorem ty0:aJ Tryz.prog 0=some ⟨.other,1,0,.u,false,false,false⟩:=by kernel_rfl
@[simp] theorem cz0:Program.cellsOf Tryz.prog 0=1:=by kernel_rfl
@[simp] theorem ty1:aJ Tryz.prog 1=some ⟨.fn,1,8,.fn0,false,false,false⟩:=by kernel_rfl
@[simp] theorem cz1:Program.cellsOf Tryz.prog 1=1:=by kernel_rfl
@[simp] theorem ty2:aJ Tryz.prog 2=some ⟨.int .i64,1,8,.i .i64 0,true,false,false⟩:=by kernel_rfl
@[simp] theorem cz2:Program.cellsOf Tryz.prog 2=1:=by kernel_rfl
@[simp] theorem ty3:aJ Tryz.prog 3=some ⟨.int .i64,1,8,.i .i64 0,true,false,false⟩:=by kernel_rfl
@[simp] theorem cz3:Program.cellsOf Tryz.prog 3=1:=by kernel_rfl
@[simp] theorem ty4:aJ Tryz.prog 4=some ⟨.bool,1,1,.b false,true,false,false⟩:=by kernel_rfl
@[simp] theorem cz4:Program.cellsOf Tryz.prog 4=1:=by kernel_rfl
@[simp] theorem ty5:aJ Tryz.prog 5=some ⟨.int .u8,1,1,.i .u8 0,true,false,false⟩:=by kernel_rfl
@[simp] theorem cz5:Program.cellsOf Tryz.prog 5=1:=by kernel_rfl
@[simp] theorem ty6:aJ Tryz.prog 6=some ⟨.int .u8,1,1,.i .u8 0,true,false,false⟩:=by kernel_rfl
@[simp] theorem cz6:Program.cellsOf Tryz.prog 6=1:=by kernel_rfl
@[simp] theorem ty7:aJ Tryz.prog 7=some ⟨.st [(0,2,false),(1,3,false),(2,4,false),(3,6,false)],4,24,.ag [.i .i64 0,.i .i64 0,.b false,.i .u8 0],true,false,false⟩:=by kernel_rfl
@[simp] theorem cz7:Program.cellsOf Tryz.prog 7=4:=by kernel_rfl
@[simp] theorem ty8:aJ Tryz.prog 8=some ⟨.st [(0,2,false),(1,3,false),(2,4,false),(3,6,false)],4,24,.ag [.i .i64 0,.i .i64 0,.b false,.i .u8 0],true,false,false⟩:=by kernel_rfl
@[simp] theorem cz8:Program.cellsOf Tryz.prog 8=4:=by kernel_rfl
@[simp] theorem ty9:aJ Tryz.prog 9=some ⟨.str,1,16,.s [],true,false,false⟩:=by kernel_rfl
@[simp] theorem cz9:Program.cellsOf Tryz.prog 9=1:=by kernel_rfl
@[simp] theorem ty10:aJ Tryz.prog 10=some ⟨.str,1,16,.s [],true,false,false⟩:=by kernel_rfl
@[simp] theorem cz10:Program.cellsOf Tryz.prog 10=1:=by kernel_rfl
@[simp] theorem ty11:aJ Tryz.prog 11=some ⟨.str,1,16,.s [],true,false,false⟩:=by kernel_rfl
@[simp] theorem cz11:Program.cellsOf Tryz.prog 11=1:=by kernel_rfl
@[simp] theorem ty12:aJ Tryz.prog 12=some ⟨.int .u64,1,8,.i .u64 0,true,false,false⟩:=by kernel_rfl
@[simp] theorem cz12:Program.cellsOf Tryz.prog 12=1:=by kernel_rfl
@[simp] theorem ty15:aJ Tryz.prog 15=some ⟨.ptr 241,1,8,.p0,true,false,false⟩:=by kernel_rfl
@[simp] theorem cz15:Program.cellsOf Tryz.prog 15=1:=by kernel_rfl
@[simp] theorem ty16:aJ Tryz.prog 16=some ⟨.ptr 244,1,8,.p0,true,false,false⟩:=by kernel_rfl
@[simp] theorem cz16:Program.cellsOf Tryz.prog 16=1:=by kernel_rfl
@[simp] theorem ty17:aJ Tryz.prog 17=some ⟨.ptr 251,1,8,.p0,true,false,false⟩:=by kernel_rfl
@[simp] theorem cz17:Program.cellsOf Tryz.prog 17=1:=by kernel_rfl
@[simp] theorem ty20:aJ Tryz.prog 20=some ⟨.uD [],1,16,.gu,true,false,false⟩:=by kernel_rfl
@[simp] theorem cz20:Program.cellsOf Tryz.prog 20=1:=by kernel_rfl
@[simp] theorem ty21:aJ Tryz.prog 21=some ⟨.int .i32,1,4,.i .i32 0,true,false,false⟩:=by kernel_rfl
@[simp] theorem cz21:Program.cellsOf Tryz.prog 21=1:=by kernel_rfl
@[simp] theorem ty22:aJ Tryz.prog 22=some ⟨.ptr 52,1,8,.p0,true,false,false⟩:=by kernel_rfl
@[simp] theorem cz22:Program.cellsOf Tryz.prog 22=1:=by kernel_rfl
@[simp] theorem ty23:aJ Tryz.prog 23=some ⟨.int .i64,1,8,.i .i64 0,true,false,false⟩:=by kernel_rfl
@[simp] theorem cz23:Program.cellsOf Tryz.prog 23=1:=by kernel_rfl
@[simp] theorem ty24:aJ Tryz.prog 24=some ⟨.st [(0,23,false),(1,3,false)],2,16,.ag [.i .i64 0,.i .i64 0],true,false,false⟩:=by kernel_rfl
@[simp] theorem cz24:Program.cellsOf Tryz.prog 24=2:=by kernel_rfl
@[simp] theorem ty25:aJ Tryz.prog 25=some ⟨.st [(0,23,false),(1,3,false)],2,16,.ag [.i .i64 0,.i .i64 0],true,false,false⟩:=by kernel_rfl
@[simp] theorem cz25:Program.cellsOf Tryz.prog 25=2:=by kernel_rfl
@[simp] theorem ty26:aJ Tryz.prog 26=some ⟨.other,1,0,.u,false,false,false⟩:=by kernel_rfl
@[simp] theorem cz26:Program.cellsOf Tryz.prog 26=1:=by kernel_rfl
@[simp] theorem ty27:aJ Tryz.prog 27=some ⟨.fn,1,8,.fn0,false,false,false⟩:=by kernel_rfl
@[simp] theorem cz27:Program.cellsOf Tryz.prog 27=1:=by kernel_rfl
@[simp] theorem ty28:aJ Tryz.prog 28=some ⟨.fn,1,8,.fn0,false,false,false⟩:=by kernel_rfl
@[simp] theorem cz28:Program.cellsOf Tryz.prog 28=1:=by kernel_rfl
@[simp] theorem ty29:aJ Tryz.prog 29=some ⟨.fn,1,8,.fn0,false,false,false⟩:=by kernel_rfl
@[simp] theorem cz29:Program.cellsOf Tryz.prog 29=1:=by kernel_rfl
@[simp] theorem ty30:aJ Tryz.prog 30=some ⟨.fn,1,8,.fn0,false,false,false⟩:=by kernel_rfl
@[simp] theorem cz30:Program.cellsOf Tryz.prog 30=1:=by kernel_rfl
@[simp] theorem ty31:aJ Tryz.prog 31=some ⟨.slice 5,1,24,.sl0,false,false,false⟩:=by kernel_rfl
@[simp] theorem cz31:Program.cellsOf Tryz.prog 31=1:=by kernel_rfl
@[simp] theorem ty32:aJ Tryz.prog 32=some ⟨.slice 38,1,24,.sl0,false,false,false⟩:=by kernel_rfl
@[simp] theorem cz32:Program.cellsOf Tryz.prog 32=1:=by kernel_rfl
@[simp] theorem ty33:aJ Tryz.prog 33=some ⟨.uD [("Error",95)],1,16,.gu,true,false,true⟩:=by kernel_rfl
@[simp] theorem cz33:Program.cellsOf Tryz.prog 33=1:=by kernel_rfl
@[simp] theorem ty34:aJ Tryz.prog 34=some ⟨.uD [("Error",95)],1,16,.gu,true,false,true⟩:=by kernel_rfl
@[simp] theorem cz34:Program.cellsOf Tryz.prog 34=1:=by kernel_rfl
@[simp] theorem ty35:aJ Tryz.prog 35=some ⟨.other,1,0,.u,false,false,false⟩:=by kernel_rfl
@[simp] theorem cz35:Program.cellsOf Tryz.prog 35=1:=by kernel_rfl
@[simp] theorem ty36:aJ Tryz.prog 36=some ⟨.fn,1,8,.fn0,false,false,false⟩:=by kernel_rfl
@[simp] theorem cz36:Program.cellsOf Tryz.prog 36=1:=by kernel_rfl
@[simp] theorem ty37:aJ Tryz.prog 37=some ⟨.st [(0,3,false),(1,9,false),(2,3,false)],3,32,.ag [.i .i64 0,.s [],.i .i64 0],true,false,false⟩:=by kernel_rfl
@[simp] theorem cz37:Program.cellsOf Tryz.prog 37=3:=by kernel_rfl
@[simp] theorem ty38:aJ Tryz.prog 38=some ⟨.st [(0,3,false),(1,9,false),(2,3,false)],3,32,.ag [.i .i64 0,.s [],.i .i64 0],true,false,false⟩:=by kernel_rfl
@[simp] theorem cz38:Program.cellsOf Tryz.prog 38=3:=by kernel_rfl
@[simp] theorem ty39:aJ Tryz.prog 39=some ⟨.other,1,0,.u,false,false,false⟩:=by kernel_rfl
@[simp] theorem cz39:Program.cellsOf Tryz.prog 39=1:=by kernel_rfl
@[simp] theorem ty40:aJ Tryz.prog 40=some ⟨.fn,1,8,.fn0,false,false,false⟩:=by kernel_rfl
@[simp] theorem cz40:Program.cellsOf Tryz.prog 40=1:=by kernel_rfl
@[simp] theorem ty41:aJ Tryz.prog 41=some ⟨.fn,1,8,.fn0,false,false,false⟩:=by kernel_rfl
@[simp] theorem cz41:Program.cellsOf Tryz.prog 41=1:=by kernel_rfl
@[simp] theorem ty42:aJ Tryz.prog 42=some ⟨.fn,1,8,.fn0,false,false,false⟩:=by kernel_rfl
@[simp] theorem cz42:Program.cellsOf Tryz.prog 42=1:=by kernel_rfl
@[simp] theorem ty43:aJ Tryz.prog 43=some ⟨.fn,1,8,.fn0,false,false,false⟩:=by kernel_rfl
@[simp] theorem cz43:Program.cellsOf Tryz.prog 43=1:=by kernel_rfl
@[simp] theorem ty44:aJ Tryz.prog 44=some ⟨.st [(0,23,false),(1,3,false)],2,16,.ag [.i .i64 0,.i .i64 0],true,false,false⟩:=by kernel_rfl
@[simp] theorem cz44:Program.cellsOf Tryz.prog 44=2:=by kernel_rfl
@[simp] theorem ty45:aJ Tryz.prog 45=some ⟨.other,1,0,.u,false,false,false⟩:=by kernel_rfl
@[simp] theorem cz45:Program.cellsOf Tryz.prog 45=1:=by kernel_rfl
@[simp] theorem ty46:aJ Tryz.prog 46=some ⟨.fn,1,8,.fn0,false,false,false⟩:=by kernel_rfl
@[simp] theorem cz46:Program.cellsOf Tryz.prog 46=1:=by kernel_rfl
@[simp] theorem ty47:aJ Tryz.prog 47=some ⟨.ptr 49,1,8,.p0,true,false,false⟩:=by kernel_rfl
@[simp] theorem cz47:Program.cellsOf Tryz.prog 47=1:=by kernel_rfl
@[simp] theorem ty48:aJ Tryz.prog 48=some ⟨.st [(0,32,false),(1,3,false),(2,3,false),(3,4,false),(4,25,false)],6,64,.ag [.sl0,.i .i64 0,.i .i64 0,.b false,.i .i64 0,.i .i64 0],false,false,false⟩:=by kernel_rfl
@[simp] theorem cz48:Program.cellsOf Tryz.prog 48=6:=by kernel_rfl
@[simp] theorem ty49:aJ Tryz.prog 49=some ⟨.st [(0,32,false),(1,3,false),(2,3,false),(3,4,false),(4,25,false)],6,64,.ag [.sl0,.i .i64 0,.i .i64 0,.b false,.i .i64 0,.i .i64 0],false,false,false⟩:=by kernel_rfl
@[simp] theorem cz49:Program.cellsOf Tryz.prog 49=6:=by kernel_rfl
@[simp] theorem ty50:aJ Tryz.prog 50=some ⟨.slice 54,1,24,.sl0,false,false,false⟩:=by kernel_rfl
@[simp] theorem cz50:Program.cellsOf Tryz.prog 50=1:=by kernel_rfl
@[simp] theorem ty51:aJ Tryz.prog 51=some ⟨.st [(0,50,false)],1,24,.ag [.sl0],false,false,false⟩:=by kernel_rfl
@[simp] theorem cz51:Program.cellsOf Tryz.prog 51=1:=by kernel_rfl
@[simp] theorem ty52:aJ Tryz.prog 52=some ⟨.st [(0,50,false)],1,24,.ag [.sl0],false,false,false⟩:=by kernel_rfl
@[simp] theorem cz52:Program.cellsOf Tryz.prog 52=1:=by kernel_rfl
@[simp] theorem ty53:aJ Tryz.prog 53=some ⟨.fn,1,8,.fn0,false,false,false⟩:=by kernel_rfl
@[simp] theorem cz53:Program.cellsOf Tryz.prog 53=1:=by kernel_rfl
@[simp] theorem ty54:aJ Tryz.prog 54=some ⟨.ptr 93,1,8,.p0,true,false,false⟩:=by kernel_rfl
@[simp] theorem cz54:Program.cellsOf Tryz.prog 54=1:=by kernel_rfl
@[simp] theorem ty55:aJ Tryz.prog 55=some ⟨.fn,1,8,.fn0,false,false,false⟩:=by kernel_rfl
@[simp] theorem cz55:Program.cellsOf Tryz.prog 55=1:=by kernel_rfl
@[simp] theorem ty56:aJ Tryz.prog 56=some ⟨.fn,1,8,.fn0,false,false,false⟩:=by kernel_rfl
@[simp] theorem cz56:Program.cellsOf Tryz.prog 56=1:=by kernel_rfl
@[simp] theorem ty57:aJ Tryz.prog 57=some ⟨.fn,1,8,.fn0,false,false,false⟩:=by kernel_rfl
@[simp] theorem cz57:Program.cellsOf Tryz.prog 57=1:=by kernel_rfl
@[simp] theorem ty58:aJ Tryz.prog 58=some ⟨.fn,1,8,.fn0,false,false,false⟩:=by kernel_rfl
@[simp] theorem cz58:Program.cellsOf Tryz.prog 58=1:=by kernel_rfl
@[simp] theorem ty59:aJ Tryz.prog 59=some ⟨.fn,1,8,.fn0,false,false,false⟩:=by kernel_rfl
@[simp] theorem cz59:Program.cellsOf Tryz.prog 59=1:=by kernel_rfl
@[simp] theorem ty60:aJ Tryz.prog 60=some ⟨.other,1,0,.u,false,false,false⟩:=by kernel_rfl
@[simp] theorem cz60:Program.cellsOf Tryz.prog 60=1:=by kernel_rfl
@[simp] theorem ty61:aJ Tryz.prog 61=some ⟨.fn,1,8,.fn0,false,false,false⟩:=by kernel_rfl
@[simp] theorem cz61:Program.cellsOf Tryz.prog 61=1:=by kernel_rfl
@[simp] theorem ty62:aJ Tryz.prog 62=some ⟨.ptr 67,1,8,.p0,true,false,false⟩:=by kernel_rfl
@[simp] theorem cz62:Program.cellsOf Tryz.prog 62=1:=by kernel_rfl
@[simp] theorem ty63:aJ Tryz.prog 63=some ⟨.fn,1,8,.fn0,false,false,false⟩:=by kernel_rfl
@[simp] theorem cz63:Program.cellsOf Tryz.prog 63=1:=by kernel_rfl
@[simp] theorem ty64:aJ Tryz.prog 64=some ⟨.int .u32,1,4,.i .u32 0,true,false,false⟩:=by kernel_rfl
@[simp] theorem cz64:Program.cellsOf Tryz.prog 64=1:=by kernel_rfl
@[simp] theorem ty65:aJ Tryz.prog 65=some ⟨.slice 62,1,24,.sl0,false,false,false⟩:=by kernel_rfl
@[simp] theorem cz65:Program.cellsOf Tryz.prog 65=1:=by kernel_rfl
@[simp] theorem ty66:aJ Tryz.prog 66=some ⟨.st [(0,3,false),(1,64,false),(2,9,false),(3,9,false),(4,62,false),(5,62,false),(6,65,false),(7,3,false)],8,96,.ag [.i .i64 0,.i .u32 0,.s [],.s [],.p0,.p0,.sl0,.i .i64 0],false,false,false⟩:=by kernel_rfl
@[simp] theorem cz66:Program.cellsOf Tryz.prog 66=8:=by kernel_rfl
@[simp] theorem ty67:aJ Tryz.prog 67=some ⟨.st [(0,3,false),(1,64,false),(2,9,false),(3,9,false),(4,62,false),(5,62,false),(6,65,false),(7,3,false)],8,96,.ag [.i .i64 0,.i .u32 0,.s [],.s [],.p0,.p0,.sl0,.i .i64 0],false,false,false⟩:=by kernel_rfl
@[simp] theorem cz67:Program.cellsOf Tryz.prog 67=8:=by kernel_rfl
@[simp] theorem ty68:aJ Tryz.prog 68=some ⟨.fn,1,8,.fn0,false,false,false⟩:=by kernel_rfl
@[simp] theorem cz68:Program.cellsOf Tryz.prog 68=1:=by kernel_rfl
@[simp] theorem ty69:aJ Tryz.prog 69=some ⟨.ptr 25,1,8,.p0,true,false,false⟩:=by kernel_rfl
@[simp] theorem cz69:Program.cellsOf Tryz.prog 69=1:=by kernel_rfl
@[simp] theorem ty70:aJ Tryz.prog 70=some ⟨.fn,1,8,.fn0,false,false,false⟩:=by kernel_rfl
@[simp] theorem cz70:Program.cellsOf Tryz.prog 70=1:=by kernel_rfl
@[simp] theorem ty71:aJ Tryz.prog 71=some ⟨.fn,1,8,.fn0,false,false,false⟩:=by kernel_rfl
@[simp] theorem cz71:Program.cellsOf Tryz.prog 71=1:=by kernel_rfl
@[simp] theorem ty72:aJ Tryz.prog 72=some ⟨.int .i64,1,8,.i .i64 0,true,false,false⟩:=by kernel_rfl
@[simp] theorem cz72:Program.cellsOf Tryz.prog 72=1:=by kernel_rfl
@[simp] theorem ty73:aJ Tryz.prog 73=some ⟨.fn,1,8,.fn0,false,false,false⟩:=by kernel_rfl
@[simp] theorem cz73:Program.cellsOf Tryz.prog 73=1:=by kernel_rfl
@[simp] theorem ty74:aJ Tryz.prog 74=some ⟨.fn,1,8,.fn0,false,false,false⟩:=by kernel_rfl
@[simp] theorem cz74:Program.cellsOf Tryz.prog 74=1:=by kernel_rfl
@[simp] theorem ty75:aJ Tryz.prog 75=some ⟨.fn,1,8,.fn0,false,false,false⟩:=by kernel_rfl
@[simp] theorem cz75:Program.cellsOf Tryz.prog 75=1:=by kernel_rfl
@[simp] theorem ty76:aJ Tryz.prog 76=some ⟨.slice 9,1,24,.sl0,false,false,false⟩:=by kernel_rfl
@[simp] theorem cz76:Program.cellsOf Tryz.prog 76=1:=by kernel_rfl
@[simp] theorem ty77:aJ Tryz.prog 77=some ⟨.fn,1,8,.fn0,false,false,false⟩:=by kernel_rfl
@[simp] theorem cz77:Program.cellsOf Tryz.prog 77=1:=by kernel_rfl
@[simp] theorem ty78:aJ Tryz.prog 78=some ⟨.int .u64,1,8,.i .u64 0,true,false,false⟩:=by kernel_rfl
@[simp] theorem cz78:Program.cellsOf Tryz.prog 78=1:=by kernel_rfl
@[simp] theorem ty79:aJ Tryz.prog 79=some ⟨.other,1,0,.u,false,false,false⟩:=by kernel_rfl
@[simp] theorem cz79:Program.cellsOf Tryz.prog 79=1:=by kernel_rfl
@[simp] theorem ty80:aJ Tryz.prog 80=some ⟨.fn,1,8,.fn0,false,false,false⟩:=by kernel_rfl
@[simp] theorem cz80:Program.cellsOf Tryz.prog 80=1:=by kernel_rfl
@[simp] theorem ty81:aJ Tryz.prog 81=some ⟨.ptr 83,1,8,.p0,true,false,false⟩:=by kernel_rfl
@[simp] theorem cz81:Program.cellsOf Tryz.prog 81=1:=by kernel_rfl
@[simp] theorem ty82:aJ Tryz.prog 82=some ⟨.st [(0,32,false),(1,3,false),(2,69,false)],3,40,.ag [.sl0,.i .i64 0,.p0],false,false,false⟩:=by kernel_rfl
@[simp] theorem cz82:Program.cellsOf Tryz.prog 82=3:=by kernel_rfl
@[simp] theorem ty83:aJ Tryz.prog 83=some ⟨.st [(0,32,false),(1,3,false),(2,69,false)],3,40,.ag [.sl0,.i .i64 0,.p0],false,false,false⟩:=by kernel_rfl
@[simp] theorem cz83:Program.cellsOf Tryz.prog 83=3:=by kernel_rfl
@[simp] theorem ty84:aJ Tryz.prog 84=some ⟨.fn,1,8,.fn0,false,false,false⟩:=by kernel_rfl
@[simp] theorem cz84:Program.cellsOf Tryz.prog 84=1:=by kernel_rfl
@[simp] theorem ty85:aJ Tryz.prog 85=some ⟨.ptr 69,1,8,.p0,true,false,false⟩:=by kernel_rfl
@[simp] theorem cz85:Program.cellsOf Tryz.prog 85=1:=by kernel_rfl
@[simp] theorem ty86:aJ Tryz.prog 86=some ⟨.fn,1,8,.fn0,false,false,false⟩:=by kernel_rfl
@[simp] theorem cz86:Program.cellsOf Tryz.prog 86=1:=by kernel_rfl
@[simp] theorem ty87:aJ Tryz.prog 87=some ⟨.fn,1,8,.fn0,false,false,false⟩:=by kernel_rfl
@[simp] theorem cz87:Program.cellsOf Tryz.prog 87=1:=by kernel_rfl
@[simp] theorem ty88:aJ Tryz.prog 88=some ⟨.other,1,0,.u,false,false,false⟩:=by kernel_rfl
@[simp] theorem cz88:Program.cellsOf Tryz.prog 88=1:=by kernel_rfl
@[simp] theorem ty89:aJ Tryz.prog 89=some ⟨.fn,1,8,.fn0,false,false,false⟩:=by kernel_rfl
@[simp] theorem cz89:Program.cellsOf Tryz.prog 89=1:=by kernel_rfl
@[simp] theorem ty90:aJ Tryz.prog 90=some ⟨.slice 97,1,24,.sl0,false,false,false⟩:=by kernel_rfl
@[simp] theorem cz90:Program.cellsOf Tryz.prog 90=1:=by kernel_rfl
@[simp] theorem ty91:aJ Tryz.prog 91=some ⟨.slice 102,1,24,.sl0,false,false,false⟩:=by kernel_rfl
@[simp] theorem cz91:Program.cellsOf Tryz.prog 91=1:=by kernel_rfl
@[simp] theorem ty92:aJ Tryz.prog 92=some ⟨.st [(0,9,false),(1,90,false),(2,4,false),(3,91,false),(4,3,false)],5,80,.ag [.s [],.sl0,.b false,.sl0,.i .i64 0],false,false,false⟩:=by kernel_rfl
@[simp] theorem cz92:Program.cellsOf Tryz.prog 92=5:=by kernel_rfl
@[simp] theorem ty93:aJ Tryz.prog 93=some ⟨.st [(0,9,false),(1,90,false),(2,4,false),(3,91,false),(4,3,false)],5,80,.ag [.s [],.sl0,.b false,.sl0,.i .i64 0],false,false,false⟩:=by kernel_rfl
@[simp] theorem cz93:Program.cellsOf Tryz.prog 93=5:=by kernel_rfl
@[simp] theorem ty94:aJ Tryz.prog 94=some ⟨.fn,1,8,.fn0,false,false,false⟩:=by kernel_rfl
@[simp] theorem cz94:Program.cellsOf Tryz.prog 94=1:=by kernel_rfl
@[simp] theorem ty95:aJ Tryz.prog 95=some ⟨.fn,1,8,.fn0,false,false,false⟩:=by kernel_rfl
@[simp] theorem cz95:Program.cellsOf Tryz.prog 95=1:=by kernel_rfl
@[simp] theorem ty96:aJ Tryz.prog 96=some ⟨.st [(0,9,false),(1,4,false)],2,24,.ag [.s [],.b false],true,false,false⟩:=by kernel_rfl
@[simp] theorem cz96:Program.cellsOf Tryz.prog 96=2:=by kernel_rfl
@[simp] theorem ty97:aJ Tryz.prog 97=some ⟨.st [(0,9,false),(1,4,false)],2,24,.ag [.s [],.b false],true,false,false⟩:=by kernel_rfl
@[simp] theorem cz97:Program.cellsOf Tryz.prog 97=2:=by kernel_rfl
@[simp] theorem ty98:aJ Tryz.prog 98=some ⟨.fn,1,8,.fn0,false,false,false⟩:=by kernel_rfl
@[simp] theorem cz98:Program.cellsOf Tryz.prog 98=1:=by kernel_rfl
@[simp] theorem ty99:aJ Tryz.prog 99=some ⟨.fn,1,8,.fn0,false,false,false⟩:=by kernel_rfl
@[simp] theorem cz99:Program.cellsOf Tryz.prog 99=1:=by kernel_rfl
@[simp] theorem ty100:aJ Tryz.prog 100=some ⟨.fn,1,8,.fn0,false,false,false⟩:=by kernel_rfl
@[simp] theorem cz100:Program.cellsOf Tryz.prog 100=1:=by kernel_rfl
@[simp] theorem ty101:aJ Tryz.prog 101=some ⟨.fn,1,8,.fn0,false,false,false⟩:=by kernel_rfl
@[simp] theorem cz101:Program.cellsOf Tryz.prog 101=1:=by kernel_rfl
@[simp] theorem ty102:aJ Tryz.prog 102=some ⟨.ptr 114,1,8,.p0,true,false,false⟩:=by kernel_rfl
@[simp] theorem cz102:Program.cellsOf Tryz.prog 102=1:=by kernel_rfl
@[simp] theorem ty103:aJ Tryz.prog 103=some ⟨.fn,1,8,.fn0,false,false,false⟩:=by kernel_rfl
@[simp] theorem cz103:Program.cellsOf Tryz.prog 103=1:=by kernel_rfl
@[simp] theorem ty104:aJ Tryz.prog 104=some ⟨.fn,1,8,.fn0,false,false,false⟩:=by kernel_rfl
@[simp] theorem cz104:Program.cellsOf Tryz.prog 104=1:=by kernel_rfl
@[simp] theorem ty105:aJ Tryz.prog 105=some ⟨.ptr 110,1,8,.p0,true,false,false⟩:=by kernel_rfl
@[simp] theorem cz105:Program.cellsOf Tryz.prog 105=1:=by kernel_rfl
@[simp] theorem ty106:aJ Tryz.prog 106=some ⟨.ptr 108,1,8,.p0,true,false,false⟩:=by kernel_rfl
@[simp] theorem cz106:Program.cellsOf Tryz.prog 106=1:=by kernel_rfl
@[simp] theorem ty107:aJ Tryz.prog 107=some ⟨.st [(0,106,false),(1,31,false)],2,32,.ag [.p0,.sl0],false,false,false⟩:=by kernel_rfl
@[simp] theorem cz107:Program.cellsOf Tryz.prog 107=2:=by kernel_rfl
@[simp] theorem ty108:aJ Tryz.prog 108=some ⟨.st [(0,106,false),(1,31,false)],2,32,.ag [.p0,.sl0],false,false,false⟩:=by kernel_rfl
@[simp] theorem cz108:Program.cellsOf Tryz.prog 108=2:=by kernel_rfl
@[simp] theorem ty109:aJ Tryz.prog 109=some ⟨.st [(0,108,false),(2,3,false),(3,4,false)],4,48,.ag [.p0,.sl0,.i .i64 0,.b false],false,false,false⟩:=by kernel_rfl
@[simp] theorem cz109:Program.cellsOf Tryz.prog 109=4:=by kernel_rfl
@[simp] theorem ty110:aJ Tryz.prog 110=some ⟨.st [(0,108,false),(2,3,false),(3,4,false)],4,48,.ag [.p0,.sl0,.i .i64 0,.b false],false,false,false⟩:=by kernel_rfl
@[simp] theorem cz110:Program.cellsOf Tryz.prog 110=4:=by kernel_rfl
@[simp] theorem ty111:aJ Tryz.prog 111=some ⟨.fn,1,8,.fn0,false,false,false⟩:=by kernel_rfl
@[simp] theorem cz111:Program.cellsOf Tryz.prog 111=1:=by kernel_rfl
@[simp] theorem ty112:aJ Tryz.prog 112=some ⟨.fn,1,8,.fn0,false,false,false⟩:=by kernel_rfl
@[simp] theorem cz112:Program.cellsOf Tryz.prog 112=1:=by kernel_rfl
@[simp] theorem ty113:aJ Tryz.prog 113=some ⟨.st [(0,3,false),(1,9,false),(2,4,false),(3,62,false),(4,62,false),(5,91,false),(6,91,false),(7,3,false)],8,104,.ag [.i .i64 0,.s [],.b false,.p0,.p0,.sl0,.sl0,.i .i64 0],false,false,false⟩:=by kernel_rfl
@[simp] theorem cz113:Program.cellsOf Tryz.prog 113=8:=by kernel_rfl
@[simp] theorem ty114:aJ Tryz.prog 114=some ⟨.st [(0,3,false),(1,9,false),(2,4,false),(3,62,false),(4,62,false),(5,91,false),(6,91,false),(7,3,false)],8,104,.ag [.i .i64 0,.s [],.b false,.p0,.p0,.sl0,.sl0,.i .i64 0],false,false,false⟩:=by kernel_rfl
@[simp] theorem cz114:Program.cellsOf Tryz.prog 114=8:=by kernel_rfl
@[simp] theorem ty115:aJ Tryz.prog 115=some ⟨.other,1,0,.u,false,false,false⟩:=by kernel_rfl
@[simp] theorem cz115:Program.cellsOf Tryz.prog 115=1:=by kernel_rfl
@[simp] theorem ty116:aJ Tryz.prog 116=some ⟨.fn,1,8,.fn0,false,false,false⟩:=by kernel_rfl
@[simp] theorem cz116:Program.cellsOf Tryz.prog 116=1:=by kernel_rfl
@[simp] theorem ty117:aJ Tryz.prog 117=some ⟨.slice 72,1,24,.sl0,false,false,false⟩:=by kernel_rfl
@[simp] theorem cz117:Program.cellsOf Tryz.prog 117=1:=by kernel_rfl
@[simp] theorem ty118:aJ Tryz.prog 118=some ⟨.fn,1,8,.fn0,false,false,false⟩:=by kernel_rfl
@[simp] theorem cz118:Program.cellsOf Tryz.prog 118=1:=by kernel_rfl
@[simp] theorem ty119:aJ Tryz.prog 119=some ⟨.fn,1,8,.fn0,false,false,false⟩:=by kernel_rfl
@[simp] theorem cz119:Program.cellsOf Tryz.prog 119=1:=by kernel_rfl
@[simp] theorem ty120:aJ Tryz.prog 120=some ⟨.fn,1,8,.fn0,false,false,false⟩:=by kernel_rfl
@[simp] theorem cz120:Program.cellsOf Tryz.prog 120=1:=by kernel_rfl
@[simp] theorem ty121:aJ Tryz.prog 121=some ⟨.fn,1,8,.fn0,false,false,false⟩:=by kernel_rfl
@[simp] theorem cz121:Program.cellsOf Tryz.prog 121=1:=by kernel_rfl
@[simp] theorem ty122:aJ Tryz.prog 122=some ⟨.fn,1,8,.fn0,false,false,false⟩:=by kernel_rfl
@[simp] theorem cz122:Program.cellsOf Tryz.prog 122=1:=by kernel_rfl
@[simp] theorem ty123:aJ Tryz.prog 123=some ⟨.other,1,8,.p0,true,false,false⟩:=by kernel_rfl
@[simp] theorem cz123:Program.cellsOf Tryz.prog 123=1:=by kernel_rfl
@[simp] theorem ty124:aJ Tryz.prog 124=some ⟨.int .u64,1,8,.i .u64 0,true,false,false⟩:=by kernel_rfl
@[simp] theorem cz124:Program.cellsOf Tryz.prog 124=1:=by kernel_rfl
@[simp] theorem ty127:aJ Tryz.prog 127=some ⟨.fn,1,8,.fn0,false,false,false⟩:=by kernel_rfl
@[simp] theorem cz127:Program.cellsOf Tryz.prog 127=1:=by kernel_rfl
@[simp] theorem ty128:aJ Tryz.prog 128=some ⟨.uD [("AssignableTo",133),("Comparable",29),("Elem",130),("Implements",133),("Kind",132),("Name",95),("PkgPath",95),("Size",252),("String",95),("internal/reflectlite.common",245),("internal/reflectlite.uncommon",253)],1,16,.gu,true,false,true⟩:=by kernel_rfl
@[simp] theorem cz128:Program.cellsOf Tryz.prog 128=1:=by kernel_rfl
@[simp] theorem ty129:aJ Tryz.prog 129=some ⟨.uD [("AssignableTo",133),("Comparable",29),("Elem",130),("Implements",133),("Kind",132),("Name",95),("PkgPath",95),("Size",252),("String",95),("internal/reflectlite.common",245),("internal/reflectlite.uncommon",253)],1,16,.gu,true,false,true⟩:=by kernel_rfl
@[simp] theorem cz129:Program.cellsOf Tryz.prog 129=1:=by kernel_rfl
@[simp] theorem ty130:aJ Tryz.prog 130=some ⟨.fn,1,8,.fn0,false,false,false⟩:=by kernel_rfl
@[simp] theorem cz130:Program.cellsOf Tryz.prog 130=1:=by kernel_rfl
@[simp] theorem ty131:aJ Tryz.prog 131=some ⟨.int .u8,1,1,.i .u8 0,true,false,false⟩:=by kernel_rfl
@[simp] theorem cz131:Program.cellsOf Tryz.prog 131=1:=by kernel_rfl
@[simp] theorem ty132:aJ Tryz.prog 132=some ⟨.fn,1,8,.fn0,false,false,false⟩:=by kernel_rfl
@[simp] theorem cz132:Program.cellsOf Tryz.prog 132=1:=by kernel_rfl
@[simp] theorem ty133:aJ Tryz.prog 133=some ⟨.fn,1,8,.fn0,false,false,false⟩:=by kernel_rfl
@[simp] theorem cz133:Program.cellsOf Tryz.prog 133=1:=by kernel_rfl
@[simp] theorem ty134:aJ Tryz.prog 134=some ⟨.fn,1,8,.fn0,false,false,false⟩:=by kernel_rfl
@[simp] theorem cz134:Program.cellsOf Tryz.prog 134=1:=by kernel_rfl
@[simp] theorem ty135:aJ Tryz.prog 135=some ⟨.fn,1,8,.fn0,false,false,false⟩:=by kernel_rfl
@[simp] theorem cz135:Program.cellsOf Tryz.prog 135=1:=by kernel_rfl
@[simp] theorem ty136:aJ Tryz.prog 136=some ⟨.fn,1,8,.fn0,false,false,false⟩:=by kernel_rfl
@[simp] theorem cz136:Program.cellsOf Tryz.prog 136=1:=by kernel_rfl
@[simp] theorem ty137:aJ Tryz.prog 137=some ⟨.fn,1,8,.fn0,false,false,false⟩:=by kernel_rfl
@[simp] theorem cz137:Program.cellsOf Tryz.prog 137=1:=by kernel_rfl
@[simp] theorem ty138:aJ Tryz.prog 138=some ⟨.fn,1,8,.fn0,false,false,false⟩:=by kernel_rfl
@[simp] theorem cz138:Program.cellsOf Tryz.prog 138=1:=by kernel_rfl
@[simp] theorem ty139:aJ Tryz.prog 139=some ⟨.fn,1,8,.fn0,false,false,false⟩:=by kernel_rfl
@[simp] theorem cz139:Program.cellsOf Tryz.prog 139=1:=by kernel_rfl
@[simp] theorem ty140:aJ Tryz.prog 140=some ⟨.fn,1,8,.fn0,false,false,false⟩:=by kernel_rfl
@[simp] theorem cz140:Program.cellsOf Tryz.prog 140=1:=by kernel_rfl
@[simp] theorem ty141:aJ Tryz.prog 141=some ⟨.fn,1,8,.fn0,false,false,false⟩:=by kernel_rfl
@[simp] theorem cz141:Program.cellsOf Tryz.prog 141=1:=by kernel_rfl
@[simp] theorem ty142:aJ Tryz.prog 142=some ⟨.fn,1,8,.fn0,false,false,false⟩:=by kernel_rfl
@[simp] theorem cz142:Program.cellsOf Tryz.prog 142=1:=by kernel_rfl
@[simp] theorem ty143:aJ Tryz.prog 143=some ⟨.fn,1,8,.fn0,false,false,false⟩:=by kernel_rfl
@[simp] theorem cz143:Program.cellsOf Tryz.prog 143=1:=by kernel_rfl
@[simp] theorem ty144:aJ Tryz.prog 144=some ⟨.fn,1,8,.fn0,false,false,false⟩:=by kernel_rfl
@[simp] theorem cz144:Program.cellsOf Tryz.prog 144=1:=by kernel_rfl
@[simp] theorem ty145:aJ Tryz.prog 145=some ⟨.fn,1,8,.fn0,false,false,false⟩:=by kernel_rfl
@[simp] theorem cz145:Program.cellsOf Tryz.prog 145=1:=by kernel_rfl
@[simp] theorem ty146:aJ Tryz.prog 146=some ⟨.ptr 5,1,8,.p0,true,false,false⟩:=by kernel_rfl
@[simp] theorem cz146:Program.cellsOf Tryz.prog 146=1:=by kernel_rfl
@[simp] theorem ty147:aJ Tryz.prog 147=some ⟨.fn,1,8,.fn0,false,false,false⟩:=by kernel_rfl
@[simp] theorem cz147:Program.cellsOf Tryz.prog 147=1:=by kernel_rfl
@[simp] theorem ty148:aJ Tryz.prog 148=some ⟨.arr 256 5,256,256,.ag [.i .u8 0,.i .u8 0,.i .u8 0,.i .u8 0,.i .u8 0,.i .u8 0,.i .u8 0,.i .u8 0,.i .u8 0,.i .u8 0,.i .u8 0,.i .u8 0,.i .u8 0,.i .u8 0,.i .u8 0,.i .u8 0,.i .u8 0,.i .u8 0,.i .u8 0,.i .u8 0,.i .u8 0,.i .u8 0,.i .u8 0,.i .u8 0,.i .u8 0,.i .u8 0,.i .u8 0,.i .u8 0,.i .u8 0,.i .u8 0,.i .u8 0,.i .u8 0,.i .u8 0,.i .u8 0,.i .u8 0,.i .u8 0,.i .u8 0,.i .u8 0,.i .u8 0,.i .u8 0,.i .u8 0,.i .u8 0,.i .u8 0,.i .u8 0,.i .u8 0,.i .u8 0,.i .u8 0,.i .u8 0,.i .u8 0,.i .u8 0,.i .u8 0,.i .u8 0,.i .u8 0,.i .u8 0,.i .u8 0,.i .u8 0,.i .u8 0,.i .u8 0,.i .u8 0,.i .u8 0,.i .u8 0,.i .u8 0,.i .u8 0,.i .u8 0,.i .u8 0,.i .u8 0,.i .u8 0,.i .u8 0,.i .u8 0,.i .u8 0,.i .u8 0,.i .u8 0,.i .u8 0,.i .u8 0,.i .u8 0,.i .u8 0,.i .u8 0,.i .u8 0,.i .u8 0,.i .u8 0,.i .u8 0,.i .u8 0,.i .u8 0,.i .u8 0,.i .u8 0,.i .u8 0,.i .u8 0,.i .u8 0,.i .u8 0,.i .u8 0,.i .u8 0,.i .u8 0,.i .u8 0,.i .u8 0,.i .u8 0,.i .u8 0,.i .u8 0,.i .u8 0,.i .u8 0,.i .u8 0,.i .u8 0,.i .u8 0,.i .u8 0,.i .u8 0,.i .u8 0,.i .u8 0,.i .u8 0,.i .u8 0,.i .u8 0,.i .u8 0,.i .u8 0,.i .u8 0,.i .u8 0,.i .u8 0,.i .u8 0,.i .u8 0,.i .u8 0,.i .u8 0,.i .u8 0,.i .u8 0,.i .u8 0,.i .u8 0,.i .u8 0,.i .u8 0,.i .u8 0,.i .u8 0,.i .u8 0,.i .u8 0,.i .u8 0,.i .u8 0,.i .u8 0,.i .u8 0,.i .u8 0,.i .u8 0,.i .u8 0,.i .u8 0,.i .u8 0,.i .u8 0,.i .u8 0,.i .u8 0,.i .u8 0,.i .u8 0,.i .u8 0,.i .u8 0,.i .u8 0,.i .u8 0,.i .u8 0,.i .u8 0,.i .u8 0,.i .u8 0,.i .u8 0,.i .u8 0,.i .u8 0,.i .u8 0,.i .u8 0,.i .u8 0,.i .u8 0,.i .u8 0,.i .u8 0,.i .u8 0,.i .u8 0,.i .u8 0,.i .u8 0,.i .u8 0,.i .u8 0,.i .u8 0,.i .u8 0,.i .u8 0,.i .u8 0,.i .u8 0,.i .u8 0,.i .u8 0,.i .u8 0,.i .u8 0,.i .u8 0,.i .u8 0,.i .u8 0,.i .u8 0,.i .u8 0,.i .u8 0,.i .u8 0,.i .u8 0,.i .u8 0,.i .u8 0,.i .u8 0,.i .u8 0,.i .u8 0,.i .u8 0,.i .u8 0,.i .u8 0,.i .u8 0,.i .u8 0,.i .u8 0,.i .u8 0,.i .u8 0,.i .u8 0,.i .u8 0,.i .u8 0,.i .u8 0,.i .u8 0,.i .u8 0,.i .u8 0,.i .u8 0,.i .u8 0,.i .u8 0,.i .u8 0,.i .u8 0,.i .u8 0,.i .u8 0,.i .u8 0,.i .u8 0,.i .u8 0,.i .u8 0,.i .u8 0,.i .u8 0,.i .u8 0,.i .u8 0,.i .u8 0,.i .u8 0,.i .u8 0,.i .u8 0,.i .u8 0,.i .u8 0,.i .u8 0,.i .u8 0,.i .u8 0,.i .u8 0,.i .u8 0,.i .u8 0,.i .u8 0,.i .u8 0,.i .u8 0,.i .u8 0,.i .u8 0,.i .u8 0,.i .u8 0,.i .u8 0,.i .u8 0,.i .u8 0,.i .u8 0,.i .u8 0,.i .u8 0,.i .u8 0,.i .u8 0,.i .u8 0,.i .u8 0,.i .u8 0,.i .u8 0,.i .u8 0,.i .u8 0,.i .u8 0,.i .u8 0,.i .u8 0,.i .u8 0,.i .u8 0,.i .u8 0],true,false,false⟩:=by kernel_rfl
@[simp] theorem cz148:Program.cellsOf Tryz.prog 148=256:=by kernel_rfl
@[simp] theorem ty149:aJ Tryz.prog 149=some ⟨.fn,1,8,.fn0,false,false,false⟩:=by kernel_rfl
@[simp] theorem cz149:Program.cellsOf Tryz.prog 149=1:=by kernel_rfl
@[simp] theorem ty150:aJ Tryz.prog 150=some ⟨.fn,1,8,.fn0,false,false,false⟩:=by kernel_rfl
@[simp] theorem cz150:Program.cellsOf Tryz.prog 150=1:=by kernel_rfl
@[simp] theorem ty151:aJ Tryz.prog 151=some ⟨.int .i64,1,8,.i .i64 0,true,false,false⟩:=by kernel_rfl
@[simp] theorem cz151:Program.cellsOf Tryz.prog 151=1:=by kernel_rfl
@[simp] theorem ty152:aJ Tryz.prog 152=some ⟨.fn,1,8,.fn0,false,false,false⟩:=by kernel_rfl
@[simp] theorem cz152:Program.cellsOf Tryz.prog 152=1:=by kernel_rfl
@[simp] theorem ty153:aJ Tryz.prog 153=some ⟨.int .u64,1,8,.i .u64 0,true,false,false⟩:=by kernel_rfl
@[simp] theorem cz153:Program.cellsOf Tryz.prog 153=1:=by kernel_rfl
@[simp] theorem ty154:aJ Tryz.prog 154=some ⟨.ptr 189,1,8,.p0,true,false,false⟩:=by kernel_rfl
@[simp] theorem cz154:Program.cellsOf Tryz.prog 154=1:=by kernel_rfl
@[simp] theorem ty155:aJ Tryz.prog 155=some ⟨.fn,1,8,.fn0,false,false,false⟩:=by kernel_rfl
@[simp] theorem cz155:Program.cellsOf Tryz.prog 155=1:=by kernel_rfl
@[simp] theorem ty156:aJ Tryz.prog 156=some ⟨.fn,1,8,.fn0,false,false,false⟩:=by kernel_rfl
@[simp] theorem cz156:Program.cellsOf Tryz.prog 156=1:=by kernel_rfl
@[simp] theorem ty157:aJ Tryz.prog 157=some ⟨.fn,1,8,.fn0,false,false,false⟩:=by kernel_rfl
@[simp] theorem cz157:Program.cellsOf Tryz.prog 157=1:=by kernel_rfl
@[simp] theorem ty158:aJ Tryz.prog 158=some ⟨.fn,1,8,.fn0,false,false,false⟩:=by kernel_rfl
@[simp] theorem cz158:Program.cellsOf Tryz.prog 158=1:=by kernel_rfl
@[simp] theorem ty161:aJ Tryz.prog 161=some ⟨.ptr 255,1,8,.p0,true,false,false⟩:=by kernel_rfl
@[simp] theorem cz161:Program.cellsOf Tryz.prog 161=1:=by kernel_rfl
@[simp] theorem ty162:aJ Tryz.prog 162=some ⟨.fn,1,8,.fn0,false,false,false⟩:=by kernel_rfl
@[simp] theorem cz162:Program.cellsOf Tryz.prog 162=1:=by kernel_rfl
@[simp] theorem ty163:aJ Tryz.prog 163=some ⟨.fn,1,8,.fn0,false,false,false⟩:=by kernel_rfl
@[simp] theorem cz163:Program.cellsOf Tryz.prog 163=1:=by kernel_rfl
@[simp] theorem ty164:aJ Tryz.prog 164=some ⟨.uD [("As",166)],1,16,.gu,true,false,true⟩:=by kernel_rfl
@[simp] theorem cz164:Program.cellsOf Tryz.prog 164=1:=by kernel_rfl
@[simp] theorem ty165:aJ Tryz.prog 165=some ⟨.other,1,0,.u,false,false,false⟩:=by kernel_rfl
@[simp] theorem cz165:Program.cellsOf Tryz.prog 165=1:=by kernel_rfl
@[simp] theorem ty166:aJ Tryz.prog 166=some ⟨.fn,1,8,.fn0,false,false,false⟩:=by kernel_rfl
@[simp] theorem cz166:Program.cellsOf Tryz.prog 166=1:=by kernel_rfl
@[simp] theorem ty167:aJ Tryz.prog 167=some ⟨.uD [("Unwrap",168)],1,16,.gu,true,false,true⟩:=by kernel_rfl
@[simp] theorem cz167:Program.cellsOf Tryz.prog 167=1:=by kernel_rfl
@[simp] theorem ty168:aJ Tryz.prog 168=some ⟨.fn,1,8,.fn0,false,false,false⟩:=by kernel_rfl
@[simp] theorem cz168:Program.cellsOf Tryz.prog 168=1:=by kernel_rfl
@[simp] theorem ty169:aJ Tryz.prog 169=some ⟨.uD [("Unwrap",171)],1,16,.gu,true,false,true⟩:=by kernel_rfl
@[simp] theorem cz169:Program.cellsOf Tryz.prog 169=1:=by kernel_rfl
@[simp] theorem ty170:aJ Tryz.prog 170=some ⟨.slice 34,1,24,.sl0,false,false,false⟩:=by kernel_rfl
@[simp] theorem cz170:Program.cellsOf Tryz.prog 170=1:=by kernel_rfl
@[simp] theorem ty171:aJ Tryz.prog 171=some ⟨.fn,1,8,.fn0,false,false,false⟩:=by kernel_rfl
@[simp] theorem cz171:Program.cellsOf Tryz.prog 171=1:=by kernel_rfl
@[simp] theorem ty172:aJ Tryz.prog 172=some ⟨.uD [("Is",174)],1,16,.gu,true,false,true⟩:=by kernel_rfl
@[simp] theorem cz172:Program.cellsOf Tryz.prog 172=1:=by kernel_rfl
@[simp] theorem ty173:aJ Tryz.prog 173=some ⟨.other,1,0,.u,false,false,false⟩:=by kernel_rfl
@[simp] theorem cz173:Program.cellsOf Tryz.prog 173=1:=by kernel_rfl
@[simp] theorem ty174:aJ Tryz.prog 174=some ⟨.fn,1,8,.fn0,false,false,false⟩:=by kernel_rfl
@[simp] theorem cz174:Program.cellsOf Tryz.prog 174=1:=by kernel_rfl
@[simp] theorem ty175:aJ Tryz.prog 175=some ⟨.fn,1,8,.fn0,false,false,false⟩:=by kernel_rfl
@[simp] theorem cz175:Program.cellsOf Tryz.prog 175=1:=by kernel_rfl
@[simp] theorem ty176:aJ Tryz.prog 176=some ⟨.fn,1,8,.fn0,false,false,false⟩:=by kernel_rfl
@[simp] theorem cz176:Program.cellsOf Tryz.prog 176=1:=by kernel_rfl
@[simp] theorem ty177:aJ Tryz.prog 177=some ⟨.fn,1,8,.fn0,false,false,false⟩:=by kernel_rfl
@[simp] theorem cz177:Program.cellsOf Tryz.prog 177=1:=by kernel_rfl
@[simp] theorem ty178:aJ Tryz.prog 178=some ⟨.fn,1,8,.fn0,false,false,false⟩:=by kernel_rfl
@[simp] theorem cz178:Program.cellsOf Tryz.prog 178=1:=by kernel_rfl
@[simp] theorem ty179:aJ Tryz.prog 179=some ⟨.fn,1,8,.fn0,false,false,false⟩:=by kernel_rfl
@[simp] theorem cz179:Program.cellsOf Tryz.prog 179=1:=by kernel_rfl
@[simp] theorem ty180:aJ Tryz.prog 180=some ⟨.other,1,0,.u,false,false,false⟩:=by kernel_rfl
@[simp] theorem cz180:Program.cellsOf Tryz.prog 180=1:=by kernel_rfl
@[simp] theorem ty181:aJ Tryz.prog 181=some ⟨.fn,1,8,.fn0,false,false,false⟩:=by kernel_rfl
@[simp] theorem cz181:Program.cellsOf Tryz.prog 181=1:=by kernel_rfl
@[simp] theorem ty182:aJ Tryz.prog 182=some ⟨.fn,1,8,.fn0,false,false,false⟩:=by kernel_rfl
@[simp] theorem cz182:Program.cellsOf Tryz.prog 182=1:=by kernel_rfl
@[simp] theorem ty183:aJ Tryz.prog 183=some ⟨.slice 185,1,24,.sl0,false,false,false⟩:=by kernel_rfl
@[simp] theorem cz183:Program.cellsOf Tryz.prog 183=1:=by kernel_rfl
@[simp] theorem ty184:aJ Tryz.prog 184=some ⟨.st [(0,3,false),(1,3,false)],2,16,.ag [.i .i64 0,.i .i64 0],true,false,false⟩:=by kernel_rfl
@[simp] theorem cz184:Program.cellsOf Tryz.prog 184=2:=by kernel_rfl
@[simp] theorem ty185:aJ Tryz.prog 185=some ⟨.st [(0,3,false),(1,3,false)],2,16,.ag [.i .i64 0,.i .i64 0],true,false,false⟩:=by kernel_rfl
@[simp] theorem cz185:Program.cellsOf Tryz.prog 185=2:=by kernel_rfl
@[simp] theorem ty186:aJ Tryz.prog 186=some ⟨.fn,1,8,.fn0,false,false,false⟩:=by kernel_rfl
@[simp] theorem cz186:Program.cellsOf Tryz.prog 186=1:=by kernel_rfl
@[simp] theorem ty187:aJ Tryz.prog 187=some ⟨.ptr 200,1,8,.p0,true,false,false⟩:=by kernel_rfl
@[simp] theorem cz187:Program.cellsOf Tryz.prog 187=1:=by kernel_rfl
@[simp] theorem ty188:aJ Tryz.prog 188=some ⟨.st [(0,9,false),(1,9,false),(2,34,false)],3,48,.ag [.s [],.s [],.gu],true,false,true⟩:=by kernel_rfl
@[simp] theorem cz188:Program.cellsOf Tryz.prog 188=3:=by kernel_rfl
@[simp] theorem ty189:aJ Tryz.prog 189=some ⟨.st [(0,9,false),(1,9,false),(2,34,false)],3,48,.ag [.s [],.s [],.gu],true,false,true⟩:=by kernel_rfl
@[simp] theorem cz189:Program.cellsOf Tryz.prog 189=3:=by kernel_rfl
@[simp] theorem ty190:aJ Tryz.prog 190=some ⟨.fn,1,8,.fn0,false,false,false⟩:=by kernel_rfl
@[simp] theorem cz190:Program.cellsOf Tryz.prog 190=1:=by kernel_rfl
@[simp] theorem ty191:aJ Tryz.prog 191=some ⟨.fn,1,8,.fn0,false,false,false⟩:=by kernel_rfl
@[simp] theorem cz191:Program.cellsOf Tryz.prog 191=1:=by kernel_rfl
@[simp] theorem ty192:aJ Tryz.prog 192=some ⟨.fn,1,8,.fn0,false,false,false⟩:=by kernel_rfl
@[simp] theorem cz192:Program.cellsOf Tryz.prog 192=1:=by kernel_rfl
@[simp] theorem ty193:aJ Tryz.prog 193=some ⟨.fn,1,8,.fn0,false,false,false⟩:=by kernel_rfl
@[simp] theorem cz193:Program.cellsOf Tryz.prog 193=1:=by kernel_rfl
@[simp] theorem ty194:aJ Tryz.prog 194=some ⟨.fn,1,8,.fn0,false,false,false⟩:=by kernel_rfl
@[simp] theorem cz194:Program.cellsOf Tryz.prog 194=1:=by kernel_rfl
@[simp] theorem ty195:aJ Tryz.prog 195=some ⟨.fn,1,8,.fn0,false,false,false⟩:=by kernel_rfl
@[simp] theorem cz195:Program.cellsOf Tryz.prog 195=1:=by kernel_rfl
@[simp] theorem ty196:aJ Tryz.prog 196=some ⟨.fn,1,8,.fn0,false,false,false⟩:=by kernel_rfl
@[simp] theorem cz196:Program.cellsOf Tryz.prog 196=1:=by kernel_rfl
@[simp] theorem ty197:aJ Tryz.prog 197=some ⟨.slice 203,1,24,.sl0,false,false,false⟩:=by kernel_rfl
@[simp] theorem cz197:Program.cellsOf Tryz.prog 197=1:=by kernel_rfl
@[simp] theorem ty198:aJ Tryz.prog 198=some ⟨.slice 206,1,24,.sl0,false,false,false⟩:=by kernel_rfl
@[simp] theorem cz198:Program.cellsOf Tryz.prog 198=1:=by kernel_rfl
@[simp] theorem ty199:aJ Tryz.prog 199=some ⟨.st [(0,197,false),(1,198,false),(2,3,false)],3,56,.ag [.sl0,.sl0,.i .i64 0],false,false,false⟩:=by kernel_rfl
@[simp] theorem cz199:Program.cellsOf Tryz.prog 199=3:=by kernel_rfl
@[simp] theorem ty200:aJ Tryz.prog 200=some ⟨.st [(0,197,false),(1,198,false),(2,3,false)],3,56,.ag [.sl0,.sl0,.i .i64 0],false,false,false⟩:=by kernel_rfl
@[simp] theorem cz200:Program.cellsOf Tryz.prog 200=3:=by kernel_rfl
@[simp] theorem ty201:aJ Tryz.prog 201=some ⟨.int .u16,1,2,.i .u16 0,true,false,false⟩:=by kernel_rfl
@[simp] theorem cz201:Program.cellsOf Tryz.prog 201=1:=by kernel_rfl
@[simp] theorem ty202:aJ Tryz.prog 202=some ⟨.st [(0,201,false),(1,201,false),(2,201,false)],3,6,.ag [.i .u16 0,.i .u16 0,.i .u16 0],true,false,false⟩:=by kernel_rfl
@[simp] theorem cz202:Program.cellsOf Tryz.prog 202=3:=by kernel_rfl
@[simp] theorem ty203:aJ Tryz.prog 203=some ⟨.st [(0,201,false),(1,201,false),(2,201,false)],3,6,.ag [.i .u16 0,.i .u16 0,.i .u16 0],true,false,false⟩:=by kernel_rfl
@[simp] theorem cz203:Program.cellsOf Tryz.prog 203=3:=by kernel_rfl
@[simp] theorem ty204:aJ Tryz.prog 204=some ⟨.fn,1,8,.fn0,false,false,false⟩:=by kernel_rfl
@[simp] theorem cz204:Program.cellsOf Tryz.prog 204=1:=by kernel_rfl
@[simp] theorem ty205:aJ Tryz.prog 205=some ⟨.st [(0,64,false),(1,64,false),(2,64,false)],3,12,.ag [.i .u32 0,.i .u32 0,.i .u32 0],true,false,false⟩:=by kernel_rfl
@[simp] theorem cz205:Program.cellsOf Tryz.prog 205=3:=by kernel_rfl
@[simp] theorem ty206:aJ Tryz.prog 206=some ⟨.st [(0,64,false),(1,64,false),(2,64,false)],3,12,.ag [.i .u32 0,.i .u32 0,.i .u32 0],true,false,false⟩:=by kernel_rfl
@[simp] theorem cz206:Program.cellsOf Tryz.prog 206=3:=by kernel_rfl
@[simp] theorem ty207:aJ Tryz.prog 207=some ⟨.fn,1,8,.fn0,false,false,false⟩:=by kernel_rfl
@[simp] theorem cz207:Program.cellsOf Tryz.prog 207=1:=by kernel_rfl
@[simp] theorem ty208:aJ Tryz.prog 208=some ⟨.ptr 210,1,8,.p0,true,false,false⟩:=by kernel_rfl
@[simp] theorem cz208:Program.cellsOf Tryz.prog 208=1:=by kernel_rfl
@[simp] theorem ty209:aJ Tryz.prog 209=some ⟨.st [(0,9,false)],1,16,.ag [.s []],true,false,false⟩:=by kernel_rfl
@[simp] theorem cz209:Program.cellsOf Tryz.prog 209=1:=by kernel_rfl
@[simp] theorem ty210:aJ Tryz.prog 210=some ⟨.st [(0,9,false)],1,16,.ag [.s []],true,false,false⟩:=by kernel_rfl
@[simp] theorem cz210:Program.cellsOf Tryz.prog 210=1:=by kernel_rfl
@[simp] theorem ty211:aJ Tryz.prog 211=some ⟨.fn,1,8,.fn0,false,false,false⟩:=by kernel_rfl
@[simp] theorem cz211:Program.cellsOf Tryz.prog 211=1:=by kernel_rfl
@[simp] theorem ty212:aJ Tryz.prog 212=some ⟨.fn,1,8,.fn0,false,false,false⟩:=by kernel_rfl
@[simp] theorem cz212:Program.cellsOf Tryz.prog 212=1:=by kernel_rfl
@[simp] theorem ty213:aJ Tryz.prog 213=some ⟨.other,1,0,.u,false,false,false⟩:=by kernel_rfl
@[simp] theorem cz213:Program.cellsOf Tryz.prog 213=1:=by kernel_rfl
@[simp] theorem ty214:aJ Tryz.prog 214=some ⟨.fn,1,8,.fn0,false,false,false⟩:=by kernel_rfl
@[simp] theorem cz214:Program.cellsOf Tryz.prog 214=1:=by kernel_rfl
@[simp] theorem ty215:aJ Tryz.prog 215=some ⟨.fn,1,8,.fn0,false,false,false⟩:=by kernel_rfl
@[simp] theorem cz215:Program.cellsOf Tryz.prog 215=1:=by kernel_rfl
@[simp] theorem ty216:aJ Tryz.prog 216=some ⟨.fn,1,8,.fn0,false,false,false⟩:=by kernel_rfl
@[simp] theorem cz216:Program.cellsOf Tryz.prog 216=1:=by kernel_rfl
@[simp] theorem ty217:aJ Tryz.prog 217=some ⟨.ptr 203,1,8,.p0,true,false,false⟩:=by kernel_rfl
@[simp] theorem cz217:Program.cellsOf Tryz.prog 217=1:=by kernel_rfl
@[simp] theorem ty218:aJ Tryz.prog 218=some ⟨.ptr 206,1,8,.p0,true,false,false⟩:=by kernel_rfl
@[simp] theorem cz218:Program.cellsOf Tryz.prog 218=1:=by kernel_rfl
@[simp] theorem ty219:aJ Tryz.prog 219=some ⟨.fn,1,8,.fn0,false,false,false⟩:=by kernel_rfl
@[simp] theorem cz219:Program.cellsOf Tryz.prog 219=1:=by kernel_rfl
@[simp] theorem ty220:aJ Tryz.prog 220=some ⟨.map 9 3,1,8,.zI,false,false,false⟩:=by kernel_rfl
@[simp] theorem cz220:Program.cellsOf Tryz.prog 220=1:=by kernel_rfl
@[simp] theorem ty221:aJ Tryz.prog 221=some ⟨.other,1,0,.u,false,false,false⟩:=by kernel_rfl
@[simp] theorem cz221:Program.cellsOf Tryz.prog 221=1:=by kernel_rfl
@[simp] theorem ty222:aJ Tryz.prog 222=some ⟨.fn,1,8,.fn0,false,false,false⟩:=by kernel_rfl
@[simp] theorem cz222:Program.cellsOf Tryz.prog 222=1:=by kernel_rfl
@[simp] theorem ty223:aJ Tryz.prog 223=some ⟨.other,1,0,.u,false,false,false⟩:=by kernel_rfl
@[simp] theorem cz223:Program.cellsOf Tryz.prog 223=1:=by kernel_rfl
@[simp] theorem ty224:aJ Tryz.prog 224=some ⟨.fn,1,8,.fn0,false,false,false⟩:=by kernel_rfl
@[simp] theorem cz224:Program.cellsOf Tryz.prog 224=1:=by kernel_rfl
@[simp] theorem ty225:aJ Tryz.prog 225=some ⟨.arr 24 5,24,24,.ag [.i .u8 0,.i .u8 0,.i .u8 0,.i .u8 0,.i .u8 0,.i .u8 0,.i .u8 0,.i .u8 0,.i .u8 0,.i .u8 0,.i .u8 0,.i .u8 0,.i .u8 0,.i .u8 0,.i .u8 0,.i .u8 0,.i .u8 0,.i .u8 0,.i .u8 0,.i .u8 0,.i .u8 0,.i .u8 0,.i .u8 0,.i .u8 0],true,false,false⟩:=by kernel_rfl
@[simp] theorem cz225:Program.cellsOf Tryz.prog 225=24:=by kernel_rfl
@[simp] theorem ty226:aJ Tryz.prog 226=some ⟨.fn,1,8,.fn0,false,false,false⟩:=by kernel_rfl
@[simp] theorem cz226:Program.cellsOf Tryz.prog 226=1:=by kernel_rfl
@[simp] theorem ty227:aJ Tryz.prog 227=some ⟨.fn,1,8,.fn0,false,false,false⟩:=by kernel_rfl
@[simp] theorem cz227:Program.cellsOf Tryz.prog 227=1:=by kernel_rfl
@[simp] theorem ty228:aJ Tryz.prog 228=some ⟨.other,1,0,.u,false,false,false⟩:=by kernel_rfl
@[simp] theorem cz228:Program.cellsOf Tryz.prog 228=1:=by kernel_rfl
@[simp] theorem ty229:aJ Tryz.prog 229=some ⟨.fn,1,8,.fn0,false,false,false⟩:=by kernel_rfl
@[simp] theorem cz229:Program.cellsOf Tryz.prog 229=1:=by kernel_rfl
@[simp] theorem ty230:aJ Tryz.prog 230=some ⟨.fn,1,8,.fn0,false,false,false⟩:=by kernel_rfl
@[simp] theorem cz230:Program.cellsOf Tryz.prog 230=1:=by kernel_rfl
@[simp] theorem ty231:aJ Tryz.prog 231=some ⟨.fn,1,8,.fn0,false,false,false⟩:=by kernel_rfl
@[simp] theorem cz231:Program.cellsOf Tryz.prog 231=1:=by kernel_rfl
@[simp] theorem ty232:aJ Tryz.prog 232=some ⟨.fn,1,8,.fn0,false,false,false⟩:=by kernel_rfl
@[simp] theorem cz232:Program.cellsOf Tryz.prog 232=1:=by kernel_rfl
@[simp] theorem ty233:aJ Tryz.prog 233=some ⟨.arr 20 78,20,160,.ag [.i .u64 0,.i .u64 0,.i .u64 0,.i .u64 0,.i .u64 0,.i .u64 0,.i .u64 0,.i .u64 0,.i .u64 0,.i .u64 0,.i .u64 0,.i .u64 0,.i .u64 0,.i .u64 0,.i .u64 0,.i .u64 0,.i .u64 0,.i .u64 0,.i .u64 0,.i .u64 0],true,false,false⟩:=by kernel_rfl
@[simp] theorem cz233:Program.cellsOf Tryz.prog 233=20:=by kernel_rfl
@[simp] theorem ty234:aJ Tryz.prog 234=some ⟨.arr 65 5,65,65,.ag [.i .u8 0,.i .u8 0,.i .u8 0,.i .u8 0,.i .u8 0,.i .u8 0,.i .u8 0,.i .u8 0,.i .u8 0,.i .u8 0,.i .u8 0,.i .u8 0,.i .u8 0,.i .u8 0,.i .u8 0,.i .u8 0,.i .u8 0,.i .u8 0,.i .u8 0,.i .u8 0,.i .u8 0,.i .u8 0,.i .u8 0,.i .u8 0,.i .u8 0,.i .u8 0,.i .u8 0,.i .u8 0,.i .u8 0,.i .u8 0,.i .u8 0,.i .u8 0,.i .u8 0,.i .u8 0,.i .u8 0,.i .u8 0,.i .u8 0,.i .u8 0,.i .u8 0,.i .u8 0,.i .u8 0,.i .u8 0,.i .u8 0,.i .u8 0,.i .u8 0,.i .u8 0,.i .u8 0,.i .u8 0,.i .u8 0,.i .u8 0,.i .u8 0,.i .u8 0,.i .u8 0,.i .u8 0,.i .u8 0,.i .u8 0,.i .u8 0,.i .u8 0,.i .u8 0,.i .u8 0,.i .u8 0,.i .u8 0,.i .u8 0,.i .u8 0,.i .u8 0],true,false,false⟩:=by kernel_rfl
@[simp] theorem cz234:Program.cellsOf Tryz.prog 234=65:=by kernel_rfl
@[simp] theorem ty235:aJ Tryz.prog 235=some ⟨.fn,1,8,.fn0,false,false,false⟩:=by kernel_rfl
@[simp] theorem cz235:Program.cellsOf Tryz.prog 235=1:=by kernel_rfl
@[simp] theorem ty236:aJ Tryz.prog 236=some ⟨.fn,1,8,.fn0,false,false,false⟩:=by kernel_rfl
@[simp] theorem cz236:Program.cellsOf Tryz.prog 236=1:=by kernel_rfl
@[simp] theorem ty237:aJ Tryz.prog 237=some ⟨.fn,1,8,.fn0,false,false,false⟩:=by kernel_rfl
@[simp] theorem cz237:Program.cellsOf Tryz.prog 237=1:=by kernel_rfl
@[simp] theorem ty238:aJ Tryz.prog 238=some ⟨.arr 32 5,32,32,.ag [.i .u8 0,.i .u8 0,.i .u8 0,.i .u8 0,.i .u8 0,.i .u8 0,.i .u8 0,.i .u8 0,.i .u8 0,.i .u8 0,.i .u8 0,.i .u8 0,.i .u8 0,.i .u8 0,.i .u8 0,.i .u8 0,.i .u8 0,.i .u8 0,.i .u8 0,.i .u8 0,.i .u8 0,.i .u8 0,.i .u8 0,.i .u8 0,.i .u8 0,.i .u8 0,.i .u8 0,.i .u8 0,.i .u8 0,.i .u8 0,.i .u8 0,.i .u8 0],true,false,false⟩:=by kernel_rfl
@[simp] theorem cz238:Program.cellsOf Tryz.prog 238=32:=by kernel_rfl
@[simp] theorem ty239:aJ Tryz.prog 239=some ⟨.arr 64 5,64,64,.ag [.i .u8 0,.i .u8 0,.i .u8 0,.i .u8 0,.i .u8 0,.i .u8 0,.i .u8 0,.i .u8 0,.i .u8 0,.i .u8 0,.i .u8 0,.i .u8 0,.i .u8 0,.i .u8 0,.i .u8 0,.i .u8 0,.i .u8 0,.i .u8 0,.i .u8 0,.i .u8 0,.i .u8 0,.i .u8 0,.i .u8 0,.i .u8 0,.i .u8 0,.i .u8 0,.i .u8 0,.i .u8 0,.i .u8 0,.i .u8 0,.i .u8 0,.i .u8 0,.i .u8 0,.i .u8 0,.i .u8 0,.i .u8 0,.i .u8 0,.i .u8 0,.i .u8 0,.i .u8 0,.i .u8 0,.i .u8 0,.i .u8 0,.i .u8 0,.i .u8 0,.i .u8 0,.i .u8 0,.i .u8 0,.i .u8 0,.i .u8 0,.i .u8 0,.i .u8 0,.i .u8 0,.i .u8 0,.i .u8 0,.i .u8 0,.i .u8 0,.i .u8 0,.i .u8 0,.i .u8 0,.i .u8 0,.i .u8 0,.i .u8 0,.i .u8 0],true,false,false⟩:=by kernel_rfl
@[simp] theorem cz239:Program.cellsOf Tryz.prog 239=64:=by kernel_rfl
@[simp] theorem ty242:aJ Tryz.prog 242=some ⟨.arr 0 16,0,0,.ag [],true,false,false⟩:=by kernel_rfl
@[simp] theorem cz242:Program.cellsOf Tryz.prog 242=0:=by kernel_rfl
@[simp] theorem ty245:aJ Tryz.prog 245=some ⟨.fn,1,8,.fn0,false,false,false⟩:=by kernel_rfl
@[simp] theorem cz245:Program.cellsOf Tryz.prog 245=1:=by kernel_rfl
@[simp] theorem ty246:aJ Tryz.prog 246=some ⟨.int .u8,1,1,.i .u8 0,true,false,false⟩:=by kernel_rfl
@[simp] theorem cz246:Program.cellsOf Tryz.prog 246=1:=by kernel_rfl
@[simp] theorem ty247:aJ Tryz.prog 247=some ⟨.fn,1,8,.fn0,false,false,false⟩:=by kernel_rfl
@[simp] theorem cz247:Program.cellsOf Tryz.prog 247=1:=by kernel_rfl
@[simp] theorem ty248:aJ Tryz.prog 248=some ⟨.int .i32,1,4,.i .i32 0,true,false,false⟩:=by kernel_rfl
@[simp] theorem cz248:Program.cellsOf Tryz.prog 248=1:=by kernel_rfl
@[simp] theorem ty249:aJ Tryz.prog 249=some ⟨.int .i32,1,4,.i .i32 0,true,false,false⟩:=by kernel_rfl
@[simp] theorem cz249:Program.cellsOf Tryz.prog 249=1:=by kernel_rfl
@[simp] theorem ty252:aJ Tryz.prog 252=some ⟨.fn,1,8,.fn0,false,false,false⟩:=by kernel_rfl
@[simp] theorem cz252:Program.cellsOf Tryz.prog 252=1:=by kernel_rfl
@[simp] theorem ty253:aJ Tryz.prog 253=some ⟨.fn,1,8,.fn0,false,false,false⟩:=by kernel_rfl
@[simp] theorem cz253:Program.cellsOf Tryz.prog 253=1:=by kernel_rfl
@[simp] theorem ty256:aJ Tryz.prog 256=some ⟨.ptr 259,1,8,.p0,true,false,false⟩:=by kernel_rfl
@[simp] theorem cz256:Program.cellsOf Tryz.prog 256=1:=by kernel_rfl
@[simp] theorem ty257:aJ Tryz.prog 257=some ⟨.fn,1,8,.fn0,false,false,false⟩:=by kernel_rfl
@[simp] theorem cz257:Program.cellsOf Tryz.prog 257=1:=by kernel_rfl
@[simp] theorem ty260:aJ Tryz.prog 260=some ⟨.slice 263,1,24,.sl0,false,false,false⟩:=by kernel_rfl
@[simp] theorem cz260:Program.cellsOf Tryz.prog 260=1:=by kernel_rfl
@[simp] theorem ty261:aJ Tryz.prog 261=some ⟨.int .i32,1,4,.i .i32 0,true,false,false⟩:=by kernel_rfl
@[simp] theorem cz261:Program.cellsOf Tryz.prog 261=1:=by kernel_rfl
@[simp] theorem ty264:aJ Tryz.prog 264=some ⟨.ptr 34,1,8,.p0,true,false,false⟩:=by kernel_rfl
@[simp] theorem cz264:Program.cellsOf Tryz.prog 264=1:=by kernel_rfl
end Go.bG.YtjcicgkencfbgaaGreatDoor
namespace Go.bG.YtjcicgkencfbgaaGreatDoor
open Go.Proofs Go.RowKit Go.Extern.Stop Go.Stop Go.Extern
theorem as_nil (t:Value)(w:World) :
 Calls Tryz.prog 37 #[.nilIface,t] w fun e w'=>e= .returned (.bool false)∧w'= w:=by
 go_enter Tryz.func37,Tryz.ntmps37
 go_wp2
 go_ret
 exact⟨rfl,rfl⟩
theorem JW (t:Addr)(w:World):(ReflectliteValue.unpack (.iface 85 (.pointer (some t)))).run Tryz.prog w
 = .ok (.agg #[.pointer (some ⟨10,85,none⟩),.pointer (some ⟨w.heap.size,0,none⟩),.int .u64 150]) (w.alloc (.cells #[.pointer (some t)] 85)):=by kernel_rfl
theorem Tq (a:Addr)(w:World):(ReflectliteValue.methodAny (ReflectliteValue.valueError "reflectlite.Value.Type" 0) (fun t _ _ _=>ReflectliteType.toType t) #[.agg #[.pointer (some ⟨10,85,none⟩),.pointer (some a),.int .u64 150]]).run Tryz.prog w
 = .ok (.iface 160 (.agg #[.pointer (some ⟨10,85,none⟩)])) w:=by kernel_rfl
theorem Ic (h:Value)(w:World):(Go.method 365 160 (.agg #[h]) "Kind").run Tryz.prog w= .ok (192,h) w:=by kernel_rfl
theorem Tt (w:World):((ReflectliteType.abiMethod fun t=>(fun a:Nat=>Value.int IntKind.u8 (a:Int)) <$> Rtype.kind t) #[.pointer (some ⟨10,85,none⟩)]).run Tryz.prog w= .ok (.int .u8 22) w:=by kernel_rfl
theorem XJ (w:World):((ReflectliteType.abiMethod fun t=>(fun a:Nat=>Value.int IntKind.u8 (a:Int)) <$> Rtype.kind t) #[.pointer (some ⟨10,69,none⟩)]).run Tryz.prog w= .ok (.int .u8 22) w:=by kernel_rfl
theorem rlm (z:Sem Value)(f:TypeId→Addr→Nat→Nat→Sem Value)(v:Value) :
 ReflectliteValue.method z f #[v]=(do match ←ReflectliteValue.parts v with | none=>z | some (t,a,fl)=>f t a fl (fl%32)):=rfl
theorem Gl (a:Addr)(w:World):(ReflectliteValue.parts (.agg #[.pointer (some ⟨10,85,none⟩),.pointer (some a),.int .u64 150])).run Tryz.prog w= .ok (some (85,a,150)) w:=by kernel_rfl
theorem PZ (a p:Addr)(W:World)(ha:W.cell? a=some (.pointer (some p))) :
 (ReflectliteValue.method (ReflectliteValue.valueError "reflectlite.Value.IsNil" 0) ReflectliteValue.isNil #[.agg #[.pointer (some ⟨10,85,none⟩),.pointer (some a),.int .u64 150]]).run Tryz.prog W= .ok (.bool false) W:=by
 rw [rlm]
 simp only [Sem.run_bind,Gl,Result.andThen]
 simp [ReflectliteValue.isNil,loadVar,isAgg,underlying,Tryz.underlying85,ha,Result.andThen]
theorem Ie (h:Value)(w:World):(Go.method 365 160 (.agg #[h]) "Elem").run Tryz.prog w= .ok (208,.agg #[h]) w:=by kernel_rfl
theorem wR (h:Value)(w:World):(Go.method 365 160 (.agg #[h]) "Implements").run Tryz.prog w= .ok (209,.agg #[h]) w:=by kernel_rfl
theorem sW (h:Value)(w:World):(Go.method 365 160 (.agg #[h]) "AssignableTo").run Tryz.prog w= .ok (206,.agg #[h]) w:=by kernel_rfl
theorem Tv (w:World):(ReflectliteType.method ReflectliteType.elem #[.agg #[.pointer (some ⟨10,85,none⟩)]]).run Tryz.prog w= .ok (.iface 160 (.agg #[.pointer (some ⟨10,69,none⟩)])) w:=by kernel_rfl
theorem E5 (w:World):(ReflectliteType.relation "Implements" ReflectliteType.implements_ #[.agg #[.pointer (some ⟨10,69,none⟩)],.iface 160 (.agg #[.pointer (some ⟨10,34,none⟩)])]).run Tryz.prog w= .ok (.bool true) w:=by kernel_rfl
theorem P5 (v:Value)(w:World):(ReflectliteType.typeOf #[.iface 69 v]).run Tryz.prog w= .ok (.iface 160 (.agg #[.pointer (some ⟨10,69,none⟩)])) w:=by kernel_rfl
theorem E8 (w:World):(ReflectliteType.relation "AssignableTo" ReflectliteType.assignableTo #[.agg #[.pointer (some ⟨10,69,none⟩)],.iface 160 (.agg #[.pointer (some ⟨10,69,none⟩)])]).run Tryz.prog w= .ok (.bool true) w:=by kernel_rfl
theorem MV (e:Addr)(w:World):(ReflectliteValue.unpack (.iface 69 (.pointer (some e)))).run Tryz.prog w
 = .ok (.agg #[.pointer (some ⟨10,69,none⟩),.pointer (some ⟨w.heap.size,0,none⟩),.int .u64 150]) (w.alloc (.cells #[.pointer (some e)] 69)):=by kernel_rfl
theorem MW (w:World):(Rtype.elem? 85).run Tryz.prog w= .ok (some 69) w:=by kernel_rfl
theorem asmkP (p:Addr)(w:World):(ReflectliteValue.mk 69 p ReflectliteValue.flagAddr).run Tryz.prog w= .ok (.agg #[.pointer (some ⟨10,69,none⟩),.pointer (some p),.int .u64 406]) w:=by kernel_rfl
theorem P6 (a p:Addr)(W:World)(ha:W.cell? a=some (.pointer (some p))) :
 (ReflectliteValue.method (ReflectliteValue.valueError "reflectlite.Value.Elem" 0) ReflectliteValue.elem #[.agg #[.pointer (some ⟨10,85,none⟩),.pointer (some a),.int .u64 150]]).run Tryz.prog W
  = .ok (.agg #[.pointer (some ⟨10,69,none⟩),.pointer (some p),.int .u64 406]) W:=by
 rw [rlm]
 simp only [Sem.run_bind,Gl,Result.andThen]
 simp [ReflectliteValue.elem,loadVar,isAgg,underlying,Tryz.underlying85,ha,Result.andThen,MW,asmkP]
theorem rls (v x:Value):ReflectliteValue.set #[v,x]=(do
 let (some (dst,a,fl),some (src,b,_)):=(←ReflectliteValue.parts v,←ReflectliteValue.parts x)
  | unsupported (.noEntry "extern/(internal/reflectlite.Value).Set.zeroValue")
 if fl / ReflectliteValue.flagAddr%2 == 0 then unsupported (.noEntry "extern/(internal/reflectlite.Value).Set.unaddressable")
 let val ←loadVar src b
 if ←Rtype.directlyAssignable dst src then storeVar dst a val
 else if ←Rtype.implements dst src then
  if(←Rtype.kind src) == 20 then
        match val with
        | .nilIface=>unsupported (.noEntry "extern/reflectlite: a nil value of one interface type handed on as a value of another")
        | _=>storeVar dst a val
  else storeVar dst a (.iface src val)
 else panicString ("reflectlite.Set: value of type " ++ (←Rtype.spelt src) ++ " is not assignable to type " ++ (←Rtype.spelt dst))
 pure (.tuple #[])):=rfl
theorem P7 (a:Addr)(w:World):(ReflectliteValue.parts (.agg #[.pointer (some ⟨10,69,none⟩),.pointer (some a),.int .u64 406])).run Tryz.prog w= .ok (some (69,a,406)) w:=by kernel_rfl
theorem Tz (a:Addr)(w:World):(ReflectliteValue.parts (.agg #[.pointer (some ⟨10,69,none⟩),.pointer (some a),.int .u64 150])).run Tryz.prog w= .ok (some (69,a,150)) w:=by kernel_rfl
theorem P8 (w:World):(Rtype.directlyAssignable 69 69).run Tryz.prog w= .ok true w:=by kernel_rfl
theorem assetP (ta b e:Addr)(old:Value)(W:World)(hb:W.cell? b=some (.pointer (some e)))(ht:W.cell? ta=some old)(hf:W.frozen? ta=false) :
 (ReflectliteValue.set #[.agg #[.pointer (some ⟨10,69,none⟩),.pointer (some ta),.int .u64 406],.agg #[.pointer (some ⟨10,69,none⟩),.pointer (some b),.int .u64 150]]).run Tryz.prog W
  = .ok (.tuple #[]) (W.setCell ta (.pointer (some e))):=by
 rw [rls]
 simp only [Sem.run_bind,P7,Tz,Result.andThen]
 simp [ReflectliteValue.flagAddr,loadVar,isAgg,underlying,Tryz.underlying69,hb,Result.andThen,P8,storeVar,Value.cells,storeCells,Addr.add]
 rw [run_store Tryz.prog W ta _ _ (by rfl)]
 simp [ht,hf]
set_option maxHeartbeats 4000000 in
theorem as_hit (e t:Addr)(old:Value)(w:World)(hg:w.cell? ⟨0,0,none⟩=some (.iface 160 (.agg #[.pointer (some ⟨10,34,none⟩)])))(ht0:w.cell? t=some old)(hf0:w.frozen? t=false) :
 Calls Tryz.prog 37 #[.iface 69 (.pointer (some e)),.iface 85 (.pointer (some t))] w fun ev w'=>ev= .returned (.bool true)∧w'= ((((w.alloc (.cells #[.pointer (some t)] 85)).alloc (.cells #[.pointer (some ⟨10,85,none⟩),.pointer (some ⟨w.heap.size,0,none⟩),.int .u64 150] 126)).alloc (.cells #[.pointer (some ⟨10,85,none⟩),.pointer (some ⟨w.heap.size,0,none⟩),.int .u64 150] 126)).alloc (.cells #[.pointer (some e)] 69)).setCell t (.pointer (some e)):=by
 have h6:=@run_callFunc_extern Tryz.prog 72 _ (fun args=>ReflectliteValue.unpack (args.getD 0 (.tuple #[]))) Tryz.func72 (by kernel_rfl) (by kernel_rfl) (by kernel_rfl) (by kernel_rfl)
 have h7:=@run_callFunc_extern Tryz.prog 73 _ (ReflectliteValue.methodAny (ReflectliteValue.valueError "reflectlite.Value.Type" 0) (fun t _ _ _=>ReflectliteType.toType t)) Tryz.func73 (by kernel_rfl) (by kernel_rfl) (by kernel_rfl) (by kernel_rfl)
 have h8:=@run_callFunc_extern Tryz.prog 74 _ (ReflectliteValue.method (ReflectliteValue.valueError "reflectlite.Value.IsNil" 0) ReflectliteValue.isNil) Tryz.func74 (by kernel_rfl) (by kernel_rfl) (by kernel_rfl) (by kernel_rfl)
 have h27:=@run_callFunc_extern Tryz.prog 192 _ (ReflectliteType.abiMethod fun t=>do pure (.int .u8 (←Rtype.kind t))) Tryz.func192 (by kernel_rfl) (by kernel_rfl) (by kernel_rfl) (by kernel_rfl)
 have h37:=@run_callFunc_extern Tryz.prog 208 _ (ReflectliteType.method ReflectliteType.elem) Tryz.func208 (by kernel_rfl) (by kernel_rfl) (by kernel_rfl) (by kernel_rfl)
 have h38:=@run_callFunc_extern Tryz.prog 209 _ (ReflectliteType.relation "Implements" ReflectliteType.implements_) Tryz.func209 (by kernel_rfl) (by kernel_rfl) (by kernel_rfl) (by kernel_rfl)
 have h10:=@run_callFunc_extern Tryz.prog 76 _ ReflectliteType.typeOf Tryz.func76 (by kernel_rfl) (by kernel_rfl) (by kernel_rfl) (by kernel_rfl)
 have h35:=@run_callFunc_extern Tryz.prog 206 _ (ReflectliteType.relation "AssignableTo" ReflectliteType.assignableTo) Tryz.func206 (by kernel_rfl) (by kernel_rfl) (by kernel_rfl) (by kernel_rfl)
 have h11:=@run_callFunc_extern Tryz.prog 111 _ (ReflectliteValue.method (ReflectliteValue.valueError "reflectlite.Value.Elem" 0) ReflectliteValue.elem) Tryz.func111 (by kernel_rfl) (by kernel_rfl) (by kernel_rfl) (by kernel_rfl)
 have h12:=@run_callFunc_extern Tryz.prog 112 _ ReflectliteValue.set Tryz.func112 (by kernel_rfl) (by kernel_rfl) (by kernel_rfl) (by kernel_rfl)
 have tO:=P5
 have mA:=sW
 have a25:=E8
 have v25:=MV
 have f6:=JW
 have f7:=Tq
 have mK:=Ic
 have mE:=Ie
 have mI:=wR
 have k27:=Tt
 have k25:=XJ
 have e27:=Tv
 have i25:=E5
 have n8:=PZ ⟨w.heap.size,0,none⟩ t ((w.alloc (.cells #[.pointer (some t)] 85)).alloc (.cells #[.pointer (some ⟨10,85,none⟩),.pointer (some ⟨w.heap.size,0,none⟩),.int .u64 150] 126)) (by simp)
 have hlt:0<w.heap.size:=by
  rcases Nat.eq_zero_or_pos w.heap.size with h0 | h
  ·simp [World.cell?,h0] at hg
  ·exact h
 have hg2:((w.alloc (.cells #[.pointer (some t)] 85)).alloc (.cells #[.pointer (some ⟨10,85,none⟩),.pointer (some ⟨w.heap.size,0,none⟩),.int .u64 150] 126)).cell? ⟨0,0,none⟩=some (.iface 160 (.agg #[.pointer (some ⟨10,34,none⟩)])):=by
  rw [World.cell?_alloc_lt _ _ ⟨0,0,none⟩ (by simp),World.cell?_alloc_lt _ _ ⟨0,0,none⟩ hlt];exact hg
 have htl:t.block<w.heap.size:=by
  rcases Nat.lt_or_ge t.block w.heap.size with h | h
  ·exact h
  ·simp [World.cell?,Array.getElem?_eq_none h] at ht0
 have el:=P6 ⟨w.heap.size,0,none⟩ t (((w.alloc (.cells #[.pointer (some t)] 85)).alloc (.cells #[.pointer (some ⟨10,85,none⟩),.pointer (some ⟨w.heap.size,0,none⟩),.int .u64 150] 126)).alloc (.cells #[.pointer (some ⟨10,85,none⟩),.pointer (some ⟨w.heap.size,0,none⟩),.int .u64 150] 126)) (by rw [World.cell?_alloc_lt _ _ ⟨w.heap.size,0,none⟩ (by simp;omega)];simp)
 have st:=assetP t ⟨w.heap.size+1+1+1,0,none⟩ e old ((((w.alloc (.cells #[.pointer (some t)] 85)).alloc (.cells #[.pointer (some ⟨10,85,none⟩),.pointer (some ⟨w.heap.size,0,none⟩),.int .u64 150] 126)).alloc (.cells #[.pointer (some ⟨10,85,none⟩),.pointer (some ⟨w.heap.size,0,none⟩),.int .u64 150] 126)).alloc (.cells #[.pointer (some e)] 69))
  (by rw [World.cell?_alloc_at _ _ _ _ (by simp)];rfl)
  (by rw [World.cell?_alloc_lt _ _ t (by simp;omega),World.cell?_alloc_lt _ _ t (by simp;omega),World.cell?_alloc_lt _ _ t (by simp;omega),World.cell?_alloc_lt _ _ t htl];exact ht0)
  (by rw [World.frozen?_alloc_old _ _ t (by simp;omega),World.frozen?_alloc_old _ _ t (by simp;omega),World.frozen?_alloc_old _ _ t (by simp;omega),World.frozen?_alloc_old _ _ t (Nat.ne_of_lt htl)];exact hf0)
 go_enter Tryz.func37,Tryz.ntmps37
 go_wp2
 refine wp_loop_rounds 1 ?_
 rw [rounds_succ]
 go_wp2
 go_ret
 exact⟨rfl,rfl⟩
theorem Ig (e t:Addr)(old:Value)(w:World)(hg:w.cell? ⟨0,0,none⟩=some (.iface 160 (.agg #[.pointer (some ⟨10,34,none⟩)])))(ht0:w.cell? t=some old)(hf0:w.frozen? t=false) :
 Calls Tryz.prog 37 #[.iface 69 (.pointer (some e)),.iface 85 (.pointer (some t))] w fun ev w'=>ev= .returned (.bool true)∧∃w1,Below w.heap.size w w1∧w'= w1.setCell t (.pointer (some e)):=
 (as_hit e t old w hg ht0 hf0).mono fun _ _ h=>⟨h.1,_,((((Below.refl _ w).alloc (Nat.le_refl _) _).alloc (by simp) _).alloc (by simp;omega) _).alloc (by simp;omega) _,h.2⟩
end Go.bG.YtjcicgkencfbgaaGreatDoor
namespace Go.bG
open Go.RowKit
section
variable {P:Program} {G:Nat} {μ μ':Mu} {σ σ':St} {w w':World}
theorem Does.iR {f:Nat} {aV:Array Value} {R:Ending→World→Prop} (he:Enters P f)(h:Calls P f aV w R):Does P f aV w R:=.inl ⟨he aV w,h⟩
theorem Does.JX {f:Nat} {aV:Array Value} {R:Ending→World→Prop} {v:Value} (h:(callFunc f aV).run P w= .ok (.value v) w')(hr:R (.returned v) w'):Does P f aV w R:=.inr ⟨v,w',h,hr⟩
theorem qK (h:Below w.heap.size w w'):jO w w':=by
 intro b e m hs
 have hb:b<w.heap.size:=by
  rcases Nat.lt_or_ge b w.heap.size with hl | hl
  ·exact hl
  ·simp [World.shape?,Array.getElem?_eq_none hl] at hs
 unfold World.shape? at hs ⊢
 rw [h.block b hb];exact hs
theorem Step.of_below (hs:gK G μ σ w)(h:Below w.heap.size w w'):Step G μ σ w μ σ w':=
 ⟨⟨fun o a ho hl=>by
  obtain⟨b,δ,h1,h2⟩:=hs.obj o a ho hl
  exact⟨b,δ,h1,rY.mono (Mu.le_refl μ) (qK h) (h.block b (hs.blk o _ b δ h1)) h2⟩,hs.inj,hs.dom,fun o g b δ q=>Nat.lt_of_lt_of_le (hs.blk o g b δ q) h.size,hs.pU,hs.low,fun g e cs hg ho=>qK h _ _ _ (hs.full g e cs hg ho)⟩,
   Mu.le_refl μ,qK h,h.os,h.tape,h.output,h.size,fun b hb _=>h.block b hb,fun o a b δ h1 h2 h3 h4 _=>⟨o,a,δ,h1,h2,h3,h4⟩⟩
theorem Step.below (h:Step G μ σ w μ' σ' w')(hro:∀(o:Nat) a,σ[o]? =some a→a.ro=false→a.k.live=true→False):Below w.heap.size w w':=
 ⟨h.os,h.tape,h.output,h.size,fun b hb=>h.frame b hb fun o a δ h1 h2 h3 _=>hro o a h1 h2 h3⟩
theorem lH {a:AV} {c:Array Value} (h:aQ μ w [a] c.toList):∃v,c= #[v]∧aO μ w a v:=by
 obtain⟨v,vs,h1,h2,h3⟩:=h
 simp only [aQ] at h3
 subst h3
 exact⟨v,Array.ext' h1,h2⟩
theorem pY {a b:AV} {c:Array Value} (h:aQ μ w [a,b] c.toList):∃v u,c= #[v,u]∧aO μ w a v∧aO μ w b u:=by
 obtain⟨v,vs,h1,h2,u,us,h3,h4,h5⟩:=h
 simp only [aQ] at h5
 subst h5;subst h3
 exact⟨v,u,Array.ext' h1,h2,h4⟩
theorem JY {a b d:AV} {c:Array Value} (h:aQ μ w [a,b,d] c.toList):∃v u t,c= #[v,u,t]∧aO μ w a v∧aO μ w b u∧aO μ w d t:=by
 obtain⟨v,vs,h1,h2,u,us,h3,h4,t,ts,h5,h6,h7⟩:=h
 simp only [aQ] at h7
 subst h7;subst h5;subst h3
 exact⟨v,u,t,Array.ext' h1,h2,h4,h6⟩
theorem gK.cell {o g e:Nat} {ro:Bool} {a:AV} {rest:List AV} {b δ:Nat} (hs:gK G μ σ w)(ho:σ[o]? =some ⟨g,ro,.cells e (a :: rest)⟩)(hb:μ o g=some (b,δ)):∃v,w.cell? ⟨b,δ,none⟩=some v∧aO μ w a v:=by
 obtain⟨b',rQ,h1,h2⟩:=hs.obj o _ ho rfl
 rw [hb] at h1;cases h1
 obtain⟨dF,fr,q1,q2,q3,q4⟩:=h2
 obtain⟨v,r1,r2⟩:=q3 0 a rfl
 refine⟨v,?_,r2⟩
 rw [cell_of_heap q1]
 simpa using r1
end
end Go.bG
namespace Go.bG
open Go.RowKit
variable {P:Program} {G:Nat} {μ:Mu} {σ:St} {w w':World}
theorem Step.fresh (hs:gK G μ σ w)(hb:Below w.heap.size w w') {A e:Nat} {cur:Array Value} {cs:List AV} (hA:w.heap.size≤A)(hh:w'.heap[A]? =some (.cells cur e (0,0)))(hl:cs.length≤cur.size)
 (hc:∀(j:Nat) c,cs[j]? =some c→∃v,cur[j]? =some v∧aO μ w c v):Step G μ σ w (μ.upd σ.length 0 (A,0)) (σ ++ [⟨0,false,.cells e cs⟩]) w':=by
 have h:=(Step.of_below hs hb).uF
 have hwx:=qK hb
 have hnone:μ σ.length 0=none:=by
  cases hq:μ σ.length 0 with
  | none=>rfl
  | some y=>obtain⟨a,ha,_⟩:=hs.dom _ _ _ hq;simp at ha
 have hle:=Mu.wJ (x:=(A,0)) hnone
 have hcase:∀(o:Nat) a',(σ ++ [⟨0,false,.cells e cs⟩])[o]? =some a'→(σ[o]? =some a'∧o≠σ.length)∨(o=σ.length∧a'= ⟨0,false,.cells e cs⟩):=by
  intro o a' ho
  rcases Nat.lt_trichotomy o σ.length with hl | he | hg
  ·rw [List.getElem?_append_left hl] at ho;exact .inl ⟨ho,by omega⟩
  ·subst he;simp at ho;exact .inr ⟨rfl,ho.symm⟩
  ·rw [List.getElem?_eq_none (by simp;omega)] at ho;cases ho
 refine⟨⟨?_,?_,?_,?_,?_,?_,?_⟩,hle,hwx,hb.os,hb.tape,hb.output,hb.size,fun b hb' _=>hb.block b hb',?_⟩
 ·intro o a' ho hl'
  rcases hcase o a' ho with ⟨ho',hne⟩ | ⟨rfl,rfl⟩
  ·obtain⟨b,δ,h1,h2⟩:=h.obj o a' ho' hl'
   exact⟨b,δ,hle _ _ _ h1,rY.mono hle (jO.refl _) rfl h2⟩
  ·refine⟨A,0,Mu.dL _ _ _ _,cur,(0,0),hh,by omega,fun j c hj=>?_,fun _ j _ hj=>by omega⟩
   obtain⟨v,r1,r2⟩:=hc j c hj
   exact⟨v,by rw [Nat.zero_add];exact r1,aO.mono hle hwx c v r2⟩
 ·intro o o' a1 a2 b δ rQ ho ho' hro hl1 hl2 hb1 hb2
  rcases hcase o a1 ho with ⟨ho1,hne⟩ | ⟨rfl,rfl⟩ <;> rcases hcase o' a2 ho' with ⟨ho2,hne'⟩ | ⟨rfl,rfl⟩
  ·rw [Mu.upd_ne (by simp [hne])] at hb1
   rw [Mu.upd_ne (by simp [hne'])] at hb2
   exact hs.inj o o' a1 a2 b δ rQ ho1 ho2 hro hl1 hl2 hb1 hb2
  ·rw [Mu.upd_ne (by simp [hne])] at hb1
   rw [Mu.dL] at hb2
   cases hb2
   have:=hs.blk _ _ _ _ hb1
   omega
  ·rw [Mu.upd_ne (by simp [hne'])] at hb2
   rw [Mu.dL] at hb1
   cases hb1
   have:=hs.blk _ _ _ _ hb2
   omega
  ·rfl
 ·intro o g y hy
  by_cases he:o=σ.length∧g=0
  ·exact⟨⟨0,false,.cells e cs⟩,by rw [he.1];simp,by rw [he.2];exact Nat.zero_le _⟩
  ·rw [Mu.upd_ne he] at hy
   obtain⟨a',ha,hle'⟩:=hs.dom _ _ _ hy
   exact⟨a',by rw [List.getElem?_append_left (eP ha)];exact ha,hle'⟩
 ·intro o g b δ hy
  by_cases he:o=σ.length∧g=0
  ·rw [he.1,he.2,Mu.dL] at hy;cases hy;exact lt_of_heap hh
  ·rw [Mu.upd_ne he] at hy;have:=hs.blk _ _ _ _ hy;have:=hb.size;omega
 ·intro g hg'
  exact hle _ _ _ (hs.pU g hg')
 ·intro o b δ hy
  by_cases he:o=σ.length∧0=0
  ·rw [he.1,Mu.dL] at hy;cases hy;rfl
  ·rw [Mu.upd_ne he] at hy;exact hs.low _ _ _ hy
 ·intro g e' cs' hg' ho
  rcases hcase g _ ho with ⟨ho',_⟩ | ⟨rfl,h1⟩
  ·exact h.full g e' cs' hg' ho'
  ·cases h1
 ·intro o a' b δ ho hro hl' hb1 hlt
  rcases hcase o a' ho with ⟨ho1,hne⟩ | ⟨rfl,rfl⟩
  ·rw [Mu.upd_ne (by simp [hne])] at hb1
   exact⟨o,a',δ,ho1,hro,hl',hb1⟩
  ·rw [Mu.dL] at hb1;cases hb1;omega
theorem gK.tab (hs:gK G μ σ w) {g e:Nat} {cs:List AV} (hg:g<G)(ho:σ[g]? =some ⟨0,true,.cells e cs⟩):∃dF fr,w.heap[g]? =some (.cells dF e fr)∧dF.size=cs.length∧aQ μ w cs dF.toList:=by
 obtain⟨b,δ,h1,h2⟩:=hs.obj g _ ho rfl
 rw [hs.pU g hg] at h1;cases h1
 obtain⟨dF,fr,q1,q2,q3,_⟩:=h2
 have hf:=hs.full g e cs hg ho
 have hsz:dF.size=cs.length:=by
  have:w.shape? g=some (e,dF.size):=by simp [World.shape?,q1]
  rw [this] at hf;exact(Prod.mk.inj (Option.some.inj hf)).2
 refine⟨dF,fr,q1,hsz,aQ.CX (by simpa using hsz) fun j c hj=>?_⟩
 obtain⟨v,r1,r2⟩:=q3 j c hj
 exact⟨v,by rw [Nat.zero_add] at r1;simpa using r1,r2⟩
theorem DK {k:IntKind} :∀{zs:List Int} {l:List Value},aQ μ w (zs.map (AV.i k)) l→l=zs.map (Value.int k)
 | [],l,h=>by simpa [aQ] using h
 | z :: zs,l,h=>by
   obtain⟨v,vs,h1,h2,h3⟩:=h
   simp only [aO] at h2
   rw [h1,h2,DK h3];rfl
end Go.bG
