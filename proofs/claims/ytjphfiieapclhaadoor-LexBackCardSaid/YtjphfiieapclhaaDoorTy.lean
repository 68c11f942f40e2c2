/- The facts on this translation's types that the layer Abs asks: written by a program, each proved by the kernel. -/
import Derived.Test.YtjphfiieapclhaaDoorAbs2
import Derived.Test.YtjphfiieapclhaaDoorProg
import Derived.KernelRfl
namespace Go.Abs.YtjphfiieapclhaaDoor
open Go.Proofs
@[simp] theorem ty0 : tyOf Tryd.prog 0 = some ⟨.other, 1, 0, .u, false, false, false⟩ := by kernel_rfl
@[simp] theorem cz0 : Program.cellsOf Tryd.prog 0 = 1 := by kernel_rfl
@[simp] theorem ty1 : tyOf Tryd.prog 1 = some ⟨.fn, 1, 8, .fn0, false, false, false⟩ := by kernel_rfl
@[simp] theorem cz1 : Program.cellsOf Tryd.prog 1 = 1 := by kernel_rfl
@[simp] theorem ty2 : tyOf Tryd.prog 2 = some ⟨.int .i64, 1, 8, .i .i64 0, true, false, false⟩ := by kernel_rfl
@[simp] theorem cz2 : Program.cellsOf Tryd.prog 2 = 1 := by kernel_rfl
@[simp] theorem ty3 : tyOf Tryd.prog 3 = some ⟨.int .i64, 1, 8, .i .i64 0, true, false, false⟩ := by kernel_rfl
@[simp] theorem cz3 : Program.cellsOf Tryd.prog 3 = 1 := by kernel_rfl
@[simp] theorem ty4 : tyOf Tryd.prog 4 = some ⟨.bool, 1, 1, .b false, true, false, false⟩ := by kernel_rfl
@[simp] theorem cz4 : Program.cellsOf Tryd.prog 4 = 1 := by kernel_rfl
@[simp] theorem ty5 : tyOf Tryd.prog 5 = some ⟨.int .u8, 1, 1, .i .u8 0, true, false, false⟩ := by kernel_rfl
@[simp] theorem cz5 : Program.cellsOf Tryd.prog 5 = 1 := by kernel_rfl
@[simp] theorem ty6 : tyOf Tryd.prog 6 = some ⟨.int .u8, 1, 1, .i .u8 0, true, false, false⟩ := by kernel_rfl
@[simp] theorem cz6 : Program.cellsOf Tryd.prog 6 = 1 := by kernel_rfl
@[simp] theorem ty7 : tyOf Tryd.prog 7 = some ⟨.st [(0, 2, false), (1, 3, false), (2, 4, false), (3, 6, false)], 4, 24, .ag [.i .i64 0, .i .i64 0, .b false, .i .u8 0], true, false, false⟩ := by kernel_rfl
@[simp] theorem cz7 : Program.cellsOf Tryd.prog 7 = 4 := by kernel_rfl
@[simp] theorem ty8 : tyOf Tryd.prog 8 = some ⟨.st [(0, 2, false), (1, 3, false), (2, 4, false), (3, 6, false)], 4, 24, .ag [.i .i64 0, .i .i64 0, .b false, .i .u8 0], true, false, false⟩ := by kernel_rfl
@[simp] theorem cz8 : Program.cellsOf Tryd.prog 8 = 4 := by kernel_rfl
@[simp] theorem ty9 : tyOf Tryd.prog 9 = some ⟨.str, 1, 16, .s [], true, false, false⟩ := by kernel_rfl
@[simp] theorem cz9 : Program.cellsOf Tryd.prog 9 = 1 := by kernel_rfl
@[simp] theorem ty10 : tyOf Tryd.prog 10 = some ⟨.str, 1, 16, .s [], true, false, false⟩ := by kernel_rfl
@[simp] theorem cz10 : Program.cellsOf Tryd.prog 10 = 1 := by kernel_rfl
@[simp] theorem ty11 : tyOf Tryd.prog 11 = some ⟨.str, 1, 16, .s [], true, false, false⟩ := by kernel_rfl
@[simp] theorem cz11 : Program.cellsOf Tryd.prog 11 = 1 := by kernel_rfl
@[simp] theorem ty12 : tyOf Tryd.prog 12 = some ⟨.int .u64, 1, 8, .i .u64 0, true, false, false⟩ := by kernel_rfl
@[simp] theorem cz12 : Program.cellsOf Tryd.prog 12 = 1 := by kernel_rfl
@[simp] theorem ty15 : tyOf Tryd.prog 15 = some ⟨.ptr 154, 1, 8, .p0, true, false, false⟩ := by kernel_rfl
@[simp] theorem cz15 : Program.cellsOf Tryd.prog 15 = 1 := by kernel_rfl
@[simp] theorem ty16 : tyOf Tryd.prog 16 = some ⟨.ptr 157, 1, 8, .p0, true, false, false⟩ := by kernel_rfl
@[simp] theorem cz16 : Program.cellsOf Tryd.prog 16 = 1 := by kernel_rfl
@[simp] theorem ty17 : tyOf Tryd.prog 17 = some ⟨.ptr 165, 1, 8, .p0, true, false, false⟩ := by kernel_rfl
@[simp] theorem cz17 : Program.cellsOf Tryd.prog 17 = 1 := by kernel_rfl
@[simp] theorem ty20 : tyOf Tryd.prog 20 = some ⟨.ifc [], 1, 16, .ic0, true, false, false⟩ := by kernel_rfl
@[simp] theorem cz20 : Program.cellsOf Tryd.prog 20 = 1 := by kernel_rfl
@[simp] theorem ty21 : tyOf Tryd.prog 21 = some ⟨.int .i32, 1, 4, .i .i32 0, true, false, false⟩ := by kernel_rfl
@[simp] theorem cz21 : Program.cellsOf Tryd.prog 21 = 1 := by kernel_rfl
@[simp] theorem ty22 : tyOf Tryd.prog 22 = some ⟨.slice 9, 1, 24, .sl0, false, false, false⟩ := by kernel_rfl
@[simp] theorem cz22 : Program.cellsOf Tryd.prog 22 = 1 := by kernel_rfl
@[simp] theorem ty23 : tyOf Tryd.prog 23 = some ⟨.fn, 1, 8, .fn0, false, false, false⟩ := by kernel_rfl
@[simp] theorem cz23 : Program.cellsOf Tryd.prog 23 = 1 := by kernel_rfl
@[simp] theorem ty24 : tyOf Tryd.prog 24 = some ⟨.slice 30, 1, 24, .sl0, false, false, false⟩ := by kernel_rfl
@[simp] theorem cz24 : Program.cellsOf Tryd.prog 24 = 1 := by kernel_rfl
@[simp] theorem ty25 : tyOf Tryd.prog 25 = some ⟨.ifc [("Error", 152)], 1, 16, .ic0, true, false, true⟩ := by kernel_rfl
@[simp] theorem cz25 : Program.cellsOf Tryd.prog 25 = 1 := by kernel_rfl
@[simp] theorem ty26 : tyOf Tryd.prog 26 = some ⟨.ifc [("Error", 152)], 1, 16, .ic0, true, false, true⟩ := by kernel_rfl
@[simp] theorem cz26 : Program.cellsOf Tryd.prog 26 = 1 := by kernel_rfl
@[simp] theorem ty27 : tyOf Tryd.prog 27 = some ⟨.other, 1, 0, .u, false, false, false⟩ := by kernel_rfl
@[simp] theorem cz27 : Program.cellsOf Tryd.prog 27 = 1 := by kernel_rfl
@[simp] theorem ty28 : tyOf Tryd.prog 28 = some ⟨.fn, 1, 8, .fn0, false, false, false⟩ := by kernel_rfl
@[simp] theorem cz28 : Program.cellsOf Tryd.prog 28 = 1 := by kernel_rfl
@[simp] theorem ty29 : tyOf Tryd.prog 29 = some ⟨.st [(0, 3, false), (1, 9, false), (2, 3, false)], 3, 32, .ag [.i .i64 0, .s [], .i .i64 0], true, false, false⟩ := by kernel_rfl
@[simp] theorem cz29 : Program.cellsOf Tryd.prog 29 = 3 := by kernel_rfl
@[simp] theorem ty30 : tyOf Tryd.prog 30 = some ⟨.st [(0, 3, false), (1, 9, false), (2, 3, false)], 3, 32, .ag [.i .i64 0, .s [], .i .i64 0], true, false, false⟩ := by kernel_rfl
@[simp] theorem cz30 : Program.cellsOf Tryd.prog 30 = 3 := by kernel_rfl
@[simp] theorem ty31 : tyOf Tryd.prog 31 = some ⟨.fn, 1, 8, .fn0, false, false, false⟩ := by kernel_rfl
@[simp] theorem cz31 : Program.cellsOf Tryd.prog 31 = 1 := by kernel_rfl
@[simp] theorem ty32 : tyOf Tryd.prog 32 = some ⟨.fn, 1, 8, .fn0, false, false, false⟩ := by kernel_rfl
@[simp] theorem cz32 : Program.cellsOf Tryd.prog 32 = 1 := by kernel_rfl
@[simp] theorem ty33 : tyOf Tryd.prog 33 = some ⟨.slice 5, 1, 24, .sl0, false, false, false⟩ := by kernel_rfl
@[simp] theorem cz33 : Program.cellsOf Tryd.prog 33 = 1 := by kernel_rfl
@[simp] theorem ty34 : tyOf Tryd.prog 34 = some ⟨.slice 3, 1, 24, .sl0, false, false, false⟩ := by kernel_rfl
@[simp] theorem cz34 : Program.cellsOf Tryd.prog 34 = 1 := by kernel_rfl
@[simp] theorem ty35 : tyOf Tryd.prog 35 = some ⟨.fn, 1, 8, .fn0, false, false, false⟩ := by kernel_rfl
@[simp] theorem cz35 : Program.cellsOf Tryd.prog 35 = 1 := by kernel_rfl
@[simp] theorem ty36 : tyOf Tryd.prog 36 = some ⟨.ptr 41, 1, 8, .p0, true, false, false⟩ := by kernel_rfl
@[simp] theorem cz36 : Program.cellsOf Tryd.prog 36 = 1 := by kernel_rfl
@[simp] theorem ty37 : tyOf Tryd.prog 37 = some ⟨.fn, 1, 8, .fn0, false, false, false⟩ := by kernel_rfl
@[simp] theorem cz37 : Program.cellsOf Tryd.prog 37 = 1 := by kernel_rfl
@[simp] theorem ty38 : tyOf Tryd.prog 38 = some ⟨.ptr 36, 1, 8, .p0, true, false, false⟩ := by kernel_rfl
@[simp] theorem cz38 : Program.cellsOf Tryd.prog 38 = 1 := by kernel_rfl
@[simp] theorem ty39 : tyOf Tryd.prog 39 = some ⟨.int .i64, 1, 8, .i .i64 0, true, false, false⟩ := by kernel_rfl
@[simp] theorem cz39 : Program.cellsOf Tryd.prog 39 = 1 := by kernel_rfl
@[simp] theorem ty40 : tyOf Tryd.prog 40 = some ⟨.st [(0, 39, false), (1, 3, false)], 2, 16, .ag [.i .i64 0, .i .i64 0], true, false, false⟩ := by kernel_rfl
@[simp] theorem cz40 : Program.cellsOf Tryd.prog 40 = 2 := by kernel_rfl
@[simp] theorem ty41 : tyOf Tryd.prog 41 = some ⟨.st [(0, 39, false), (1, 3, false)], 2, 16, .ag [.i .i64 0, .i .i64 0], true, false, false⟩ := by kernel_rfl
@[simp] theorem cz41 : Program.cellsOf Tryd.prog 41 = 2 := by kernel_rfl
@[simp] theorem ty42 : tyOf Tryd.prog 42 = some ⟨.fn, 1, 8, .fn0, false, false, false⟩ := by kernel_rfl
@[simp] theorem cz42 : Program.cellsOf Tryd.prog 42 = 1 := by kernel_rfl
@[simp] theorem ty43 : tyOf Tryd.prog 43 = some ⟨.st [(0, 39, false), (1, 3, false)], 2, 16, .ag [.i .i64 0, .i .i64 0], true, false, false⟩ := by kernel_rfl
@[simp] theorem cz43 : Program.cellsOf Tryd.prog 43 = 2 := by kernel_rfl
@[simp] theorem ty44 : tyOf Tryd.prog 44 = some ⟨.other, 1, 0, .u, false, false, false⟩ := by kernel_rfl
@[simp] theorem cz44 : Program.cellsOf Tryd.prog 44 = 1 := by kernel_rfl
@[simp] theorem ty45 : tyOf Tryd.prog 45 = some ⟨.fn, 1, 8, .fn0, false, false, false⟩ := by kernel_rfl
@[simp] theorem cz45 : Program.cellsOf Tryd.prog 45 = 1 := by kernel_rfl
@[simp] theorem ty46 : tyOf Tryd.prog 46 = some ⟨.fn, 1, 8, .fn0, false, false, false⟩ := by kernel_rfl
@[simp] theorem cz46 : Program.cellsOf Tryd.prog 46 = 1 := by kernel_rfl
@[simp] theorem ty47 : tyOf Tryd.prog 47 = some ⟨.fn, 1, 8, .fn0, false, false, false⟩ := by kernel_rfl
@[simp] theorem cz47 : Program.cellsOf Tryd.prog 47 = 1 := by kernel_rfl
@[simp] theorem ty48 : tyOf Tryd.prog 48 = some ⟨.fn, 1, 8, .fn0, false, false, false⟩ := by kernel_rfl
@[simp] theorem cz48 : Program.cellsOf Tryd.prog 48 = 1 := by kernel_rfl
@[simp] theorem ty49 : tyOf Tryd.prog 49 = some ⟨.fn, 1, 8, .fn0, false, false, false⟩ := by kernel_rfl
@[simp] theorem cz49 : Program.cellsOf Tryd.prog 49 = 1 := by kernel_rfl
@[simp] theorem ty50 : tyOf Tryd.prog 50 = some ⟨.fn, 1, 8, .fn0, false, false, false⟩ := by kernel_rfl
@[simp] theorem cz50 : Program.cellsOf Tryd.prog 50 = 1 := by kernel_rfl
@[simp] theorem ty51 : tyOf Tryd.prog 51 = some ⟨.fn, 1, 8, .fn0, false, false, false⟩ := by kernel_rfl
@[simp] theorem cz51 : Program.cellsOf Tryd.prog 51 = 1 := by kernel_rfl
@[simp] theorem ty52 : tyOf Tryd.prog 52 = some ⟨.fn, 1, 8, .fn0, false, false, false⟩ := by kernel_rfl
@[simp] theorem cz52 : Program.cellsOf Tryd.prog 52 = 1 := by kernel_rfl
@[simp] theorem ty53 : tyOf Tryd.prog 53 = some ⟨.int .i64, 1, 8, .i .i64 0, true, false, false⟩ := by kernel_rfl
@[simp] theorem cz53 : Program.cellsOf Tryd.prog 53 = 1 := by kernel_rfl
@[simp] theorem ty54 : tyOf Tryd.prog 54 = some ⟨.fn, 1, 8, .fn0, false, false, false⟩ := by kernel_rfl
@[simp] theorem cz54 : Program.cellsOf Tryd.prog 54 = 1 := by kernel_rfl
@[simp] theorem ty55 : tyOf Tryd.prog 55 = some ⟨.fn, 1, 8, .fn0, false, false, false⟩ := by kernel_rfl
@[simp] theorem cz55 : Program.cellsOf Tryd.prog 55 = 1 := by kernel_rfl
@[simp] theorem ty56 : tyOf Tryd.prog 56 = some ⟨.fn, 1, 8, .fn0, false, false, false⟩ := by kernel_rfl
@[simp] theorem cz56 : Program.cellsOf Tryd.prog 56 = 1 := by kernel_rfl
@[simp] theorem ty57 : tyOf Tryd.prog 57 = some ⟨.int .u64, 1, 8, .i .u64 0, true, false, false⟩ := by kernel_rfl
@[simp] theorem cz57 : Program.cellsOf Tryd.prog 57 = 1 := by kernel_rfl
@[simp] theorem ty58 : tyOf Tryd.prog 58 = some ⟨.other, 1, 0, .u, false, false, false⟩ := by kernel_rfl
@[simp] theorem cz58 : Program.cellsOf Tryd.prog 58 = 1 := by kernel_rfl
@[simp] theorem ty59 : tyOf Tryd.prog 59 = some ⟨.fn, 1, 8, .fn0, false, false, false⟩ := by kernel_rfl
@[simp] theorem cz59 : Program.cellsOf Tryd.prog 59 = 1 := by kernel_rfl
@[simp] theorem ty60 : tyOf Tryd.prog 60 = some ⟨.other, 1, 8, .p0, true, false, false⟩ := by kernel_rfl
@[simp] theorem cz60 : Program.cellsOf Tryd.prog 60 = 1 := by kernel_rfl
@[simp] theorem ty61 : tyOf Tryd.prog 61 = some ⟨.int .u64, 1, 8, .i .u64 0, true, false, false⟩ := by kernel_rfl
@[simp] theorem cz61 : Program.cellsOf Tryd.prog 61 = 1 := by kernel_rfl
@[simp] theorem ty64 : tyOf Tryd.prog 64 = some ⟨.fn, 1, 8, .fn0, false, false, false⟩ := by kernel_rfl
@[simp] theorem cz64 : Program.cellsOf Tryd.prog 64 = 1 := by kernel_rfl
@[simp] theorem ty65 : tyOf Tryd.prog 65 = some ⟨.ifc [("AssignableTo", 70), ("Comparable", 31), ("Elem", 67), ("Implements", 70), ("Kind", 69), ("Name", 152), ("PkgPath", 152), ("Size", 166), ("String", 152), ("internal/reflectlite.common", 159), ("internal/reflectlite.uncommon", 167)], 1, 16, .ic0, true, false, true⟩ := by kernel_rfl
@[simp] theorem cz65 : Program.cellsOf Tryd.prog 65 = 1 := by kernel_rfl
@[simp] theorem ty66 : tyOf Tryd.prog 66 = some ⟨.ifc [("AssignableTo", 70), ("Comparable", 31), ("Elem", 67), ("Implements", 70), ("Kind", 69), ("Name", 152), ("PkgPath", 152), ("Size", 166), ("String", 152), ("internal/reflectlite.common", 159), ("internal/reflectlite.uncommon", 167)], 1, 16, .ic0, true, false, true⟩ := by kernel_rfl
@[simp] theorem cz66 : Program.cellsOf Tryd.prog 66 = 1 := by kernel_rfl
@[simp] theorem ty67 : tyOf Tryd.prog 67 = some ⟨.fn, 1, 8, .fn0, false, false, false⟩ := by kernel_rfl
@[simp] theorem cz67 : Program.cellsOf Tryd.prog 67 = 1 := by kernel_rfl
@[simp] theorem ty68 : tyOf Tryd.prog 68 = some ⟨.int .u8, 1, 1, .i .u8 0, true, false, false⟩ := by kernel_rfl
@[simp] theorem cz68 : Program.cellsOf Tryd.prog 68 = 1 := by kernel_rfl
@[simp] theorem ty69 : tyOf Tryd.prog 69 = some ⟨.fn, 1, 8, .fn0, false, false, false⟩ := by kernel_rfl
@[simp] theorem cz69 : Program.cellsOf Tryd.prog 69 = 1 := by kernel_rfl
@[simp] theorem ty70 : tyOf Tryd.prog 70 = some ⟨.fn, 1, 8, .fn0, false, false, false⟩ := by kernel_rfl
@[simp] theorem cz70 : Program.cellsOf Tryd.prog 70 = 1 := by kernel_rfl
@[simp] theorem ty71 : tyOf Tryd.prog 71 = some ⟨.fn, 1, 8, .fn0, false, false, false⟩ := by kernel_rfl
@[simp] theorem cz71 : Program.cellsOf Tryd.prog 71 = 1 := by kernel_rfl
@[simp] theorem ty72 : tyOf Tryd.prog 72 = some ⟨.fn, 1, 8, .fn0, false, false, false⟩ := by kernel_rfl
@[simp] theorem cz72 : Program.cellsOf Tryd.prog 72 = 1 := by kernel_rfl
@[simp] theorem ty73 : tyOf Tryd.prog 73 = some ⟨.other, 1, 0, .u, false, false, false⟩ := by kernel_rfl
@[simp] theorem cz73 : Program.cellsOf Tryd.prog 73 = 1 := by kernel_rfl
@[simp] theorem ty74 : tyOf Tryd.prog 74 = some ⟨.fn, 1, 8, .fn0, false, false, false⟩ := by kernel_rfl
@[simp] theorem cz74 : Program.cellsOf Tryd.prog 74 = 1 := by kernel_rfl
@[simp] theorem ty75 : tyOf Tryd.prog 75 = some ⟨.fn, 1, 8, .fn0, false, false, false⟩ := by kernel_rfl
@[simp] theorem cz75 : Program.cellsOf Tryd.prog 75 = 1 := by kernel_rfl
@[simp] theorem ty77 : tyOf Tryd.prog 77 = some ⟨.fn, 1, 8, .fn0, false, false, false⟩ := by kernel_rfl
@[simp] theorem cz77 : Program.cellsOf Tryd.prog 77 = 1 := by kernel_rfl
@[simp] theorem ty78 : tyOf Tryd.prog 78 = some ⟨.fn, 1, 8, .fn0, false, false, false⟩ := by kernel_rfl
@[simp] theorem cz78 : Program.cellsOf Tryd.prog 78 = 1 := by kernel_rfl
@[simp] theorem ty79 : tyOf Tryd.prog 79 = some ⟨.slice 53, 1, 24, .sl0, false, false, false⟩ := by kernel_rfl
@[simp] theorem cz79 : Program.cellsOf Tryd.prog 79 = 1 := by kernel_rfl
@[simp] theorem ty80 : tyOf Tryd.prog 80 = some ⟨.fn, 1, 8, .fn0, false, false, false⟩ := by kernel_rfl
@[simp] theorem cz80 : Program.cellsOf Tryd.prog 80 = 1 := by kernel_rfl
@[simp] theorem ty81 : tyOf Tryd.prog 81 = some ⟨.fn, 1, 8, .fn0, false, false, false⟩ := by kernel_rfl
@[simp] theorem cz81 : Program.cellsOf Tryd.prog 81 = 1 := by kernel_rfl
@[simp] theorem ty82 : tyOf Tryd.prog 82 = some ⟨.fn, 1, 8, .fn0, false, false, false⟩ := by kernel_rfl
@[simp] theorem cz82 : Program.cellsOf Tryd.prog 82 = 1 := by kernel_rfl
@[simp] theorem ty85 : tyOf Tryd.prog 85 = some ⟨.ptr 169, 1, 8, .p0, true, false, false⟩ := by kernel_rfl
@[simp] theorem cz85 : Program.cellsOf Tryd.prog 85 = 1 := by kernel_rfl
@[simp] theorem ty86 : tyOf Tryd.prog 86 = some ⟨.fn, 1, 8, .fn0, false, false, false⟩ := by kernel_rfl
@[simp] theorem cz86 : Program.cellsOf Tryd.prog 86 = 1 := by kernel_rfl
@[simp] theorem ty87 : tyOf Tryd.prog 87 = some ⟨.fn, 1, 8, .fn0, false, false, false⟩ := by kernel_rfl
@[simp] theorem cz87 : Program.cellsOf Tryd.prog 87 = 1 := by kernel_rfl
@[simp] theorem ty88 : tyOf Tryd.prog 88 = some ⟨.fn, 1, 8, .fn0, false, false, false⟩ := by kernel_rfl
@[simp] theorem cz88 : Program.cellsOf Tryd.prog 88 = 1 := by kernel_rfl
@[simp] theorem ty89 : tyOf Tryd.prog 89 = some ⟨.ifc [("As", 91)], 1, 16, .ic0, true, false, true⟩ := by kernel_rfl
@[simp] theorem cz89 : Program.cellsOf Tryd.prog 89 = 1 := by kernel_rfl
@[simp] theorem ty90 : tyOf Tryd.prog 90 = some ⟨.other, 1, 0, .u, false, false, false⟩ := by kernel_rfl
@[simp] theorem cz90 : Program.cellsOf Tryd.prog 90 = 1 := by kernel_rfl
@[simp] theorem ty91 : tyOf Tryd.prog 91 = some ⟨.fn, 1, 8, .fn0, false, false, false⟩ := by kernel_rfl
@[simp] theorem cz91 : Program.cellsOf Tryd.prog 91 = 1 := by kernel_rfl
@[simp] theorem ty92 : tyOf Tryd.prog 92 = some ⟨.ifc [("Unwrap", 93)], 1, 16, .ic0, true, false, true⟩ := by kernel_rfl
@[simp] theorem cz92 : Program.cellsOf Tryd.prog 92 = 1 := by kernel_rfl
@[simp] theorem ty93 : tyOf Tryd.prog 93 = some ⟨.fn, 1, 8, .fn0, false, false, false⟩ := by kernel_rfl
@[simp] theorem cz93 : Program.cellsOf Tryd.prog 93 = 1 := by kernel_rfl
@[simp] theorem ty94 : tyOf Tryd.prog 94 = some ⟨.ifc [("Unwrap", 96)], 1, 16, .ic0, true, false, true⟩ := by kernel_rfl
@[simp] theorem cz94 : Program.cellsOf Tryd.prog 94 = 1 := by kernel_rfl
@[simp] theorem ty95 : tyOf Tryd.prog 95 = some ⟨.slice 26, 1, 24, .sl0, false, false, false⟩ := by kernel_rfl
@[simp] theorem cz95 : Program.cellsOf Tryd.prog 95 = 1 := by kernel_rfl
@[simp] theorem ty96 : tyOf Tryd.prog 96 = some ⟨.fn, 1, 8, .fn0, false, false, false⟩ := by kernel_rfl
@[simp] theorem cz96 : Program.cellsOf Tryd.prog 96 = 1 := by kernel_rfl
@[simp] theorem ty97 : tyOf Tryd.prog 97 = some ⟨.fn, 1, 8, .fn0, false, false, false⟩ := by kernel_rfl
@[simp] theorem cz97 : Program.cellsOf Tryd.prog 97 = 1 := by kernel_rfl
@[simp] theorem ty98 : tyOf Tryd.prog 98 = some ⟨.fn, 1, 8, .fn0, false, false, false⟩ := by kernel_rfl
@[simp] theorem cz98 : Program.cellsOf Tryd.prog 98 = 1 := by kernel_rfl
@[simp] theorem ty99 : tyOf Tryd.prog 99 = some ⟨.slice 101, 1, 24, .sl0, false, false, false⟩ := by kernel_rfl
@[simp] theorem cz99 : Program.cellsOf Tryd.prog 99 = 1 := by kernel_rfl
@[simp] theorem ty100 : tyOf Tryd.prog 100 = some ⟨.st [(0, 3, false), (1, 3, false)], 2, 16, .ag [.i .i64 0, .i .i64 0], true, false, false⟩ := by kernel_rfl
@[simp] theorem cz100 : Program.cellsOf Tryd.prog 100 = 2 := by kernel_rfl
@[simp] theorem ty101 : tyOf Tryd.prog 101 = some ⟨.st [(0, 3, false), (1, 3, false)], 2, 16, .ag [.i .i64 0, .i .i64 0], true, false, false⟩ := by kernel_rfl
@[simp] theorem cz101 : Program.cellsOf Tryd.prog 101 = 2 := by kernel_rfl
@[simp] theorem ty102 : tyOf Tryd.prog 102 = some ⟨.int .u32, 1, 4, .i .u32 0, true, false, false⟩ := by kernel_rfl
@[simp] theorem cz102 : Program.cellsOf Tryd.prog 102 = 1 := by kernel_rfl
@[simp] theorem ty103 : tyOf Tryd.prog 103 = some ⟨.fn, 1, 8, .fn0, false, false, false⟩ := by kernel_rfl
@[simp] theorem cz103 : Program.cellsOf Tryd.prog 103 = 1 := by kernel_rfl
@[simp] theorem ty104 : tyOf Tryd.prog 104 = some ⟨.ptr 118, 1, 8, .p0, true, false, false⟩ := by kernel_rfl
@[simp] theorem cz104 : Program.cellsOf Tryd.prog 104 = 1 := by kernel_rfl
@[simp] theorem ty105 : tyOf Tryd.prog 105 = some ⟨.fn, 1, 8, .fn0, false, false, false⟩ := by kernel_rfl
@[simp] theorem cz105 : Program.cellsOf Tryd.prog 105 = 1 := by kernel_rfl
@[simp] theorem ty106 : tyOf Tryd.prog 106 = some ⟨.int .i64, 1, 8, .i .i64 0, true, false, false⟩ := by kernel_rfl
@[simp] theorem cz106 : Program.cellsOf Tryd.prog 106 = 1 := by kernel_rfl
@[simp] theorem ty107 : tyOf Tryd.prog 107 = some ⟨.fn, 1, 8, .fn0, false, false, false⟩ := by kernel_rfl
@[simp] theorem cz107 : Program.cellsOf Tryd.prog 107 = 1 := by kernel_rfl
@[simp] theorem ty108 : tyOf Tryd.prog 108 = some ⟨.int .u64, 1, 8, .i .u64 0, true, false, false⟩ := by kernel_rfl
@[simp] theorem cz108 : Program.cellsOf Tryd.prog 108 = 1 := by kernel_rfl
@[simp] theorem ty109 : tyOf Tryd.prog 109 = some ⟨.ptr 128, 1, 8, .p0, true, false, false⟩ := by kernel_rfl
@[simp] theorem cz109 : Program.cellsOf Tryd.prog 109 = 1 := by kernel_rfl
@[simp] theorem ty110 : tyOf Tryd.prog 110 = some ⟨.fn, 1, 8, .fn0, false, false, false⟩ := by kernel_rfl
@[simp] theorem cz110 : Program.cellsOf Tryd.prog 110 = 1 := by kernel_rfl
@[simp] theorem ty111 : tyOf Tryd.prog 111 = some ⟨.fn, 1, 8, .fn0, false, false, false⟩ := by kernel_rfl
@[simp] theorem cz111 : Program.cellsOf Tryd.prog 111 = 1 := by kernel_rfl
@[simp] theorem ty112 : tyOf Tryd.prog 112 = some ⟨.ifc [("Is", 114)], 1, 16, .ic0, true, false, true⟩ := by kernel_rfl
@[simp] theorem cz112 : Program.cellsOf Tryd.prog 112 = 1 := by kernel_rfl
@[simp] theorem ty113 : tyOf Tryd.prog 113 = some ⟨.other, 1, 0, .u, false, false, false⟩ := by kernel_rfl
@[simp] theorem cz113 : Program.cellsOf Tryd.prog 113 = 1 := by kernel_rfl
@[simp] theorem ty114 : tyOf Tryd.prog 114 = some ⟨.fn, 1, 8, .fn0, false, false, false⟩ := by kernel_rfl
@[simp] theorem cz114 : Program.cellsOf Tryd.prog 114 = 1 := by kernel_rfl
@[simp] theorem ty115 : tyOf Tryd.prog 115 = some ⟨.slice 121, 1, 24, .sl0, false, false, false⟩ := by kernel_rfl
@[simp] theorem cz115 : Program.cellsOf Tryd.prog 115 = 1 := by kernel_rfl
@[simp] theorem ty116 : tyOf Tryd.prog 116 = some ⟨.slice 124, 1, 24, .sl0, false, false, false⟩ := by kernel_rfl
@[simp] theorem cz116 : Program.cellsOf Tryd.prog 116 = 1 := by kernel_rfl
@[simp] theorem ty117 : tyOf Tryd.prog 117 = some ⟨.st [(0, 115, false), (1, 116, false), (2, 3, false)], 3, 56, .ag [.sl0, .sl0, .i .i64 0], false, false, false⟩ := by kernel_rfl
@[simp] theorem cz117 : Program.cellsOf Tryd.prog 117 = 3 := by kernel_rfl
@[simp] theorem ty118 : tyOf Tryd.prog 118 = some ⟨.st [(0, 115, false), (1, 116, false), (2, 3, false)], 3, 56, .ag [.sl0, .sl0, .i .i64 0], false, false, false⟩ := by kernel_rfl
@[simp] theorem cz118 : Program.cellsOf Tryd.prog 118 = 3 := by kernel_rfl
@[simp] theorem ty119 : tyOf Tryd.prog 119 = some ⟨.int .u16, 1, 2, .i .u16 0, true, false, false⟩ := by kernel_rfl
@[simp] theorem cz119 : Program.cellsOf Tryd.prog 119 = 1 := by kernel_rfl
@[simp] theorem ty120 : tyOf Tryd.prog 120 = some ⟨.st [(0, 119, false), (1, 119, false), (2, 119, false)], 3, 6, .ag [.i .u16 0, .i .u16 0, .i .u16 0], true, false, false⟩ := by kernel_rfl
@[simp] theorem cz120 : Program.cellsOf Tryd.prog 120 = 3 := by kernel_rfl
@[simp] theorem ty121 : tyOf Tryd.prog 121 = some ⟨.st [(0, 119, false), (1, 119, false), (2, 119, false)], 3, 6, .ag [.i .u16 0, .i .u16 0, .i .u16 0], true, false, false⟩ := by kernel_rfl
@[simp] theorem cz121 : Program.cellsOf Tryd.prog 121 = 3 := by kernel_rfl
@[simp] theorem ty122 : tyOf Tryd.prog 122 = some ⟨.fn, 1, 8, .fn0, false, false, false⟩ := by kernel_rfl
@[simp] theorem cz122 : Program.cellsOf Tryd.prog 122 = 1 := by kernel_rfl
@[simp] theorem ty123 : tyOf Tryd.prog 123 = some ⟨.st [(0, 102, false), (1, 102, false), (2, 102, false)], 3, 12, .ag [.i .u32 0, .i .u32 0, .i .u32 0], true, false, false⟩ := by kernel_rfl
@[simp] theorem cz123 : Program.cellsOf Tryd.prog 123 = 3 := by kernel_rfl
@[simp] theorem ty124 : tyOf Tryd.prog 124 = some ⟨.st [(0, 102, false), (1, 102, false), (2, 102, false)], 3, 12, .ag [.i .u32 0, .i .u32 0, .i .u32 0], true, false, false⟩ := by kernel_rfl
@[simp] theorem cz124 : Program.cellsOf Tryd.prog 124 = 3 := by kernel_rfl
@[simp] theorem ty125 : tyOf Tryd.prog 125 = some ⟨.fn, 1, 8, .fn0, false, false, false⟩ := by kernel_rfl
@[simp] theorem cz125 : Program.cellsOf Tryd.prog 125 = 1 := by kernel_rfl
@[simp] theorem ty126 : tyOf Tryd.prog 126 = some ⟨.fn, 1, 8, .fn0, false, false, false⟩ := by kernel_rfl
@[simp] theorem cz126 : Program.cellsOf Tryd.prog 126 = 1 := by kernel_rfl
@[simp] theorem ty127 : tyOf Tryd.prog 127 = some ⟨.st [(0, 9, false), (1, 9, false), (2, 26, false)], 3, 48, .ag [.s [], .s [], .ic0], true, false, true⟩ := by kernel_rfl
@[simp] theorem cz127 : Program.cellsOf Tryd.prog 127 = 3 := by kernel_rfl
@[simp] theorem ty128 : tyOf Tryd.prog 128 = some ⟨.st [(0, 9, false), (1, 9, false), (2, 26, false)], 3, 48, .ag [.s [], .s [], .ic0], true, false, true⟩ := by kernel_rfl
@[simp] theorem cz128 : Program.cellsOf Tryd.prog 128 = 3 := by kernel_rfl
@[simp] theorem ty129 : tyOf Tryd.prog 129 = some ⟨.fn, 1, 8, .fn0, false, false, false⟩ := by kernel_rfl
@[simp] theorem cz129 : Program.cellsOf Tryd.prog 129 = 1 := by kernel_rfl
@[simp] theorem ty130 : tyOf Tryd.prog 130 = some ⟨.fn, 1, 8, .fn0, false, false, false⟩ := by kernel_rfl
@[simp] theorem cz130 : Program.cellsOf Tryd.prog 130 = 1 := by kernel_rfl
@[simp] theorem ty131 : tyOf Tryd.prog 131 = some ⟨.ptr 121, 1, 8, .p0, true, false, false⟩ := by kernel_rfl
@[simp] theorem cz131 : Program.cellsOf Tryd.prog 131 = 1 := by kernel_rfl
@[simp] theorem ty132 : tyOf Tryd.prog 132 = some ⟨.ptr 124, 1, 8, .p0, true, false, false⟩ := by kernel_rfl
@[simp] theorem cz132 : Program.cellsOf Tryd.prog 132 = 1 := by kernel_rfl
@[simp] theorem ty133 : tyOf Tryd.prog 133 = some ⟨.ptr 5, 1, 8, .p0, true, false, false⟩ := by kernel_rfl
@[simp] theorem cz133 : Program.cellsOf Tryd.prog 133 = 1 := by kernel_rfl
@[simp] theorem ty134 : tyOf Tryd.prog 134 = some ⟨.ptr 136, 1, 8, .p0, true, false, false⟩ := by kernel_rfl
@[simp] theorem cz134 : Program.cellsOf Tryd.prog 134 = 1 := by kernel_rfl
@[simp] theorem ty135 : tyOf Tryd.prog 135 = some ⟨.st [(0, 9, false)], 1, 16, .ag [.s []], true, false, false⟩ := by kernel_rfl
@[simp] theorem cz135 : Program.cellsOf Tryd.prog 135 = 1 := by kernel_rfl
@[simp] theorem ty136 : tyOf Tryd.prog 136 = some ⟨.st [(0, 9, false)], 1, 16, .ag [.s []], true, false, false⟩ := by kernel_rfl
@[simp] theorem cz136 : Program.cellsOf Tryd.prog 136 = 1 := by kernel_rfl
@[simp] theorem ty137 : tyOf Tryd.prog 137 = some ⟨.fn, 1, 8, .fn0, false, false, false⟩ := by kernel_rfl
@[simp] theorem cz137 : Program.cellsOf Tryd.prog 137 = 1 := by kernel_rfl
@[simp] theorem ty138 : tyOf Tryd.prog 138 = some ⟨.arr 24 5, 24, 24, .ag [.i .u8 0, .i .u8 0, .i .u8 0, .i .u8 0, .i .u8 0, .i .u8 0, .i .u8 0, .i .u8 0, .i .u8 0, .i .u8 0, .i .u8 0, .i .u8 0, .i .u8 0, .i .u8 0, .i .u8 0, .i .u8 0, .i .u8 0, .i .u8 0, .i .u8 0, .i .u8 0, .i .u8 0, .i .u8 0, .i .u8 0, .i .u8 0], true, false, false⟩ := by kernel_rfl
@[simp] theorem cz138 : Program.cellsOf Tryd.prog 138 = 24 := by kernel_rfl
@[simp] theorem ty139 : tyOf Tryd.prog 139 = some ⟨.fn, 1, 8, .fn0, false, false, false⟩ := by kernel_rfl
@[simp] theorem cz139 : Program.cellsOf Tryd.prog 139 = 1 := by kernel_rfl
@[simp] theorem ty140 : tyOf Tryd.prog 140 = some ⟨.fn, 1, 8, .fn0, false, false, false⟩ := by kernel_rfl
@[simp] theorem cz140 : Program.cellsOf Tryd.prog 140 = 1 := by kernel_rfl
@[simp] theorem ty141 : tyOf Tryd.prog 141 = some ⟨.other, 1, 0, .u, false, false, false⟩ := by kernel_rfl
@[simp] theorem cz141 : Program.cellsOf Tryd.prog 141 = 1 := by kernel_rfl
@[simp] theorem ty142 : tyOf Tryd.prog 142 = some ⟨.fn, 1, 8, .fn0, false, false, false⟩ := by kernel_rfl
@[simp] theorem cz142 : Program.cellsOf Tryd.prog 142 = 1 := by kernel_rfl
@[simp] theorem ty143 : tyOf Tryd.prog 143 = some ⟨.fn, 1, 8, .fn0, false, false, false⟩ := by kernel_rfl
@[simp] theorem cz143 : Program.cellsOf Tryd.prog 143 = 1 := by kernel_rfl
@[simp] theorem ty144 : tyOf Tryd.prog 144 = some ⟨.fn, 1, 8, .fn0, false, false, false⟩ := by kernel_rfl
@[simp] theorem cz144 : Program.cellsOf Tryd.prog 144 = 1 := by kernel_rfl
@[simp] theorem ty145 : tyOf Tryd.prog 145 = some ⟨.arr 20 57, 20, 160, .ag [.i .u64 0, .i .u64 0, .i .u64 0, .i .u64 0, .i .u64 0, .i .u64 0, .i .u64 0, .i .u64 0, .i .u64 0, .i .u64 0, .i .u64 0, .i .u64 0, .i .u64 0, .i .u64 0, .i .u64 0, .i .u64 0, .i .u64 0, .i .u64 0, .i .u64 0, .i .u64 0], true, false, false⟩ := by kernel_rfl
@[simp] theorem cz145 : Program.cellsOf Tryd.prog 145 = 20 := by kernel_rfl
@[simp] theorem ty147 : tyOf Tryd.prog 147 = some ⟨.fn, 1, 8, .fn0, false, false, false⟩ := by kernel_rfl
@[simp] theorem cz147 : Program.cellsOf Tryd.prog 147 = 1 := by kernel_rfl
@[simp] theorem ty148 : tyOf Tryd.prog 148 = some ⟨.fn, 1, 8, .fn0, false, false, false⟩ := by kernel_rfl
@[simp] theorem cz148 : Program.cellsOf Tryd.prog 148 = 1 := by kernel_rfl
@[simp] theorem ty149 : tyOf Tryd.prog 149 = some ⟨.fn, 1, 8, .fn0, false, false, false⟩ := by kernel_rfl
@[simp] theorem cz149 : Program.cellsOf Tryd.prog 149 = 1 := by kernel_rfl
@[simp] theorem ty150 : tyOf Tryd.prog 150 = some ⟨.arr 32 5, 32, 32, .ag [.i .u8 0, .i .u8 0, .i .u8 0, .i .u8 0, .i .u8 0, .i .u8 0, .i .u8 0, .i .u8 0, .i .u8 0, .i .u8 0, .i .u8 0, .i .u8 0, .i .u8 0, .i .u8 0, .i .u8 0, .i .u8 0, .i .u8 0, .i .u8 0, .i .u8 0, .i .u8 0, .i .u8 0, .i .u8 0, .i .u8 0, .i .u8 0, .i .u8 0, .i .u8 0, .i .u8 0, .i .u8 0, .i .u8 0, .i .u8 0, .i .u8 0, .i .u8 0], true, false, false⟩ := by kernel_rfl
@[simp] theorem cz150 : Program.cellsOf Tryd.prog 150 = 32 := by kernel_rfl
@[simp] theorem ty151 : tyOf Tryd.prog 151 = some ⟨.arr 64 5, 64, 64, .ag [.i .u8 0, .i .u8 0, .i .u8 0, .i .u8 0, .i .u8 0, .i .u8 0, .i .u8 0, .i .u8 0, .i .u8 0, .i .u8 0, .i .u8 0, .i .u8 0, .i .u8 0, .i .u8 0, .i .u8 0, .i .u8 0, .i .u8 0, .i .u8 0, .i .u8 0, .i .u8 0, .i .u8 0, .i .u8 0, .i .u8 0, .i .u8 0, .i .u8 0, .i .u8 0, .i .u8 0, .i .u8 0, .i .u8 0, .i .u8 0, .i .u8 0, .i .u8 0, .i .u8 0, .i .u8 0, .i .u8 0, .i .u8 0, .i .u8 0, .i .u8 0, .i .u8 0, .i .u8 0, .i .u8 0, .i .u8 0, .i .u8 0, .i .u8 0, .i .u8 0, .i .u8 0, .i .u8 0, .i .u8 0, .i .u8 0, .i .u8 0, .i .u8 0, .i .u8 0, .i .u8 0, .i .u8 0, .i .u8 0, .i .u8 0, .i .u8 0, .i .u8 0, .i .u8 0, .i .u8 0, .i .u8 0, .i .u8 0, .i .u8 0, .i .u8 0], true, false, false⟩ := by kernel_rfl
@[simp] theorem cz151 : Program.cellsOf Tryd.prog 151 = 64 := by kernel_rfl
@[simp] theorem ty152 : tyOf Tryd.prog 152 = some ⟨.fn, 1, 8, .fn0, false, false, false⟩ := by kernel_rfl
@[simp] theorem cz152 : Program.cellsOf Tryd.prog 152 = 1 := by kernel_rfl
@[simp] theorem ty155 : tyOf Tryd.prog 155 = some ⟨.arr 0 16, 0, 0, .ag [], true, false, false⟩ := by kernel_rfl
@[simp] theorem cz155 : Program.cellsOf Tryd.prog 155 = 0 := by kernel_rfl
@[simp] theorem ty158 : tyOf Tryd.prog 158 = some ⟨.fn, 1, 8, .fn0, false, false, false⟩ := by kernel_rfl
@[simp] theorem cz158 : Program.cellsOf Tryd.prog 158 = 1 := by kernel_rfl
@[simp] theorem ty159 : tyOf Tryd.prog 159 = some ⟨.fn, 1, 8, .fn0, false, false, false⟩ := by kernel_rfl
@[simp] theorem cz159 : Program.cellsOf Tryd.prog 159 = 1 := by kernel_rfl
@[simp] theorem ty160 : tyOf Tryd.prog 160 = some ⟨.int .u8, 1, 1, .i .u8 0, true, false, false⟩ := by kernel_rfl
@[simp] theorem cz160 : Program.cellsOf Tryd.prog 160 = 1 := by kernel_rfl
@[simp] theorem ty161 : tyOf Tryd.prog 161 = some ⟨.fn, 1, 8, .fn0, false, false, false⟩ := by kernel_rfl
@[simp] theorem cz161 : Program.cellsOf Tryd.prog 161 = 1 := by kernel_rfl
@[simp] theorem ty162 : tyOf Tryd.prog 162 = some ⟨.int .i32, 1, 4, .i .i32 0, true, false, false⟩ := by kernel_rfl
@[simp] theorem cz162 : Program.cellsOf Tryd.prog 162 = 1 := by kernel_rfl
@[simp] theorem ty163 : tyOf Tryd.prog 163 = some ⟨.int .i32, 1, 4, .i .i32 0, true, false, false⟩ := by kernel_rfl
@[simp] theorem cz163 : Program.cellsOf Tryd.prog 163 = 1 := by kernel_rfl
@[simp] theorem ty166 : tyOf Tryd.prog 166 = some ⟨.fn, 1, 8, .fn0, false, false, false⟩ := by kernel_rfl
@[simp] theorem cz166 : Program.cellsOf Tryd.prog 166 = 1 := by kernel_rfl
@[simp] theorem ty167 : tyOf Tryd.prog 167 = some ⟨.fn, 1, 8, .fn0, false, false, false⟩ := by kernel_rfl
@[simp] theorem cz167 : Program.cellsOf Tryd.prog 167 = 1 := by kernel_rfl
@[simp] theorem ty170 : tyOf Tryd.prog 170 = some ⟨.ptr 173, 1, 8, .p0, true, false, false⟩ := by kernel_rfl
@[simp] theorem cz170 : Program.cellsOf Tryd.prog 170 = 1 := by kernel_rfl
@[simp] theorem ty171 : tyOf Tryd.prog 171 = some ⟨.fn, 1, 8, .fn0, false, false, false⟩ := by kernel_rfl
@[simp] theorem cz171 : Program.cellsOf Tryd.prog 171 = 1 := by kernel_rfl
@[simp] theorem ty174 : tyOf Tryd.prog 174 = some ⟨.slice 177, 1, 24, .sl0, false, false, false⟩ := by kernel_rfl
@[simp] theorem cz174 : Program.cellsOf Tryd.prog 174 = 1 := by kernel_rfl
@[simp] theorem ty175 : tyOf Tryd.prog 175 = some ⟨.int .i32, 1, 4, .i .i32 0, true, false, false⟩ := by kernel_rfl
@[simp] theorem cz175 : Program.cellsOf Tryd.prog 175 = 1 := by kernel_rfl
@[simp] theorem ty178 : tyOf Tryd.prog 178 = some ⟨.ptr 26, 1, 8, .p0, true, false, false⟩ := by kernel_rfl
@[simp] theorem cz178 : Program.cellsOf Tryd.prog 178 = 1 := by kernel_rfl
end Go.Abs.YtjphfiieapclhaaDoor
