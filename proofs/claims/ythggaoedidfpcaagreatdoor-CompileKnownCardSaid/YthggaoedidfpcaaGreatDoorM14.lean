/- Texts of this claim, joined: RmD, Rm. -/
import Derived.Test.YthggaoedidfpcaaGreatDoorM10
import Derived.Test.YthggaoedidfpcaaGreatDoorM11
import Derived.Test.YthggaoedidfpcaaGreatDoorM12
import Derived.Test.YthggaoedidfpcaaGreatDoorM13
set_option linter.unusedVariables false
set_option linter.unusedSimpArgs false
namespace Go.Proofs.YthggaoedidfpcaaGreatDoor
open Go Go.ChangeShapes Go.RowKit
set_option maxRecDepth 100000
theorem met2b (os:Os)(args:Array Value):(DataW.laidRun Tryz.prog ((World.doorLaid Tryz.prog 1500 os).forCall (fun _ _=>0) ⟨#[],args,[]⟩).memory 8 ((List.filter (fun x=>x.2.handleName?.isNone) Rows.compileKnownRow.laid).map (·.1))).map (fun x=>laidRowsB Tryz.prog ((World.doorLaid Tryz.prog 1500 os).forCall (fun _ _=>0) ⟨#[],args,[]⟩).memory x.2)=some true:=by kernel_rfl
end Go.Proofs.YthggaoedidfpcaaGreatDoor
namespace Go.Proofs.YthggaoedidfpcaaGreatDoor
open Go Go.ChangeShapes Go.RowKit
set_option maxRecDepth 100000
theorem UY {α:Type} {p:α→List MemPlace} {g:α→Bool} {M:Nat} :∀{x:Option α},x.map (fun y=>nodupBits M (p y) 0)=some true→x.map g=some true→x.map (fun y=>decide (p y).Nodup && g y)=some true
 | none,h,_=>by cases h
 | some y,h,k=>by
   simp only [Option.map_some,Option.some.injEq] at h k ⊢
   rw [k,Bool.and_true]
   exact decide_eq_true (nodupBits_sound h).1
theorem Qi (os:Os)(args:Array Value):laidMetH Tryz.prog Rows.compileKnownRow.laid ((World.doorLaid Tryz.prog 1500 os).forCall (fun _ _=>0) ⟨#[],args,[]⟩).memory:=
 laidMetH_of_parts3 (fuel:=8) (laidMet_of_run' 8 (met1 os args) (UY (met2a os args) (met2b os args))) (met3 os args) (by kernel_rfl)
end Go.Proofs.YthggaoedidfpcaaGreatDoor
