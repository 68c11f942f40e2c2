/- Texts of this claim, joined: As. -/
import Derived.Test.YthggaoedidfpcaaGreatDoorProg
import Derived.WalkKit
import Derived.Below
import Derived.LaidEql
import Derived.Stop.Asserts
import Derived.RowKitTokens
set_option linter.unusedVariables false
set_option linter.unusedSimpArgs false
namespace Go.dX.YthggaoedidfpcaaGreatDoor
open Go.Proofs Go.RowKit Go.Extern.Stop Go.Stop Go.Extern
theorem as_nil (t:Value)(w:World) :
 Calls Tryz.prog 9 #[.nilIface,t] w fun e w'=>e= .returned (.bool false)∧w'= w:=by
 go_enter Tryz.func9,Tryz.ntmps9
 go_wp2
 go_ret
 exact⟨rfl,rfl⟩
theorem Jm (t:Addr)(w:World):(ReflectliteValue.unpack (.iface 51 (.pointer (some t)))).run Tryz.prog w
 = .ok (.agg #[.pointer (some ⟨11,51,none⟩),.pointer (some ⟨w.heap.size,0,none⟩),.int .u64 150]) (w.alloc (.cells #[.pointer (some t)] 51)):=by kernel_rfl
theorem Un (a:Addr)(w:World):(ReflectliteValue.methodAny (ReflectliteValue.valueError "reflectlite.Value.Type" 0) (fun t _ _ _=>ReflectliteType.toType t) #[.agg #[.pointer (some ⟨11,51,none⟩),.pointer (some a),.int .u64 150]]).run Tryz.prog w
 = .ok (.iface 117 (.agg #[.pointer (some ⟨11,51,none⟩)])) w:=by kernel_rfl
theorem Gy (h:Value)(w:World):(Go.method 452 117 (.agg #[h]) "Kind").run Tryz.prog w= .ok (219,h) w:=by kernel_rfl
theorem Uo (w:World):((ReflectliteType.abiMethod fun t=>(fun a:Nat=>Value.int IntKind.u8 (a:Int)) <$> Rtype.kind t) #[.pointer (some ⟨11,51,none⟩)]).run Tryz.prog w= .ok (.int .u8 22) w:=by kernel_rfl
theorem askindP (w:World):((ReflectliteType.abiMethod fun t=>(fun a:Nat=>Value.int IntKind.u8 (a:Int)) <$> Rtype.kind t) #[.pointer (some ⟨11,49,none⟩)]).run Tryz.prog w= .ok (.int .u8 22) w:=by kernel_rfl
theorem rlm (z:Sem Value)(f:TypeId→Addr→Nat→Nat→Sem Value)(v:Value) :
 ReflectliteValue.method z f #[v]=(do match ←ReflectliteValue.parts v with | none=>z | some (t,a,fl)=>f t a fl (fl%32)):=rfl
theorem ES (a:Addr)(w:World):(ReflectliteValue.parts (.agg #[.pointer (some ⟨11,51,none⟩),.pointer (some a),.int .u64 150])).run Tryz.prog w= .ok (some (51,a,150)) w:=by kernel_rfl
theorem PZ (a p:Addr)(W:World)(ha:W.cell? a=some (.pointer (some p))) :
 (ReflectliteValue.method (ReflectliteValue.valueError "reflectlite.Value.IsNil" 0) ReflectliteValue.isNil #[.agg #[.pointer (some ⟨11,51,none⟩),.pointer (some a),.int .u64 150]]).run Tryz.prog W= .ok (.bool false) W:=by
 rw [rlm]
 simp only [Sem.run_bind,ES,Result.andThen]
 simp [ReflectliteValue.isNil,loadVar,isAgg,underlying,Tryz.underlying51,ha,Result.andThen]
theorem Gz (h:Value)(w:World):(Go.method 452 117 (.agg #[h]) "Elem").run Tryz.prog w= .ok (231,.agg #[h]) w:=by kernel_rfl
theorem vO (h:Value)(w:World):(Go.method 452 117 (.agg #[h]) "Implements").run Tryz.prog w= .ok (232,.agg #[h]) w:=by kernel_rfl
theorem sZ (h:Value)(w:World):(Go.method 452 117 (.agg #[h]) "AssignableTo").run Tryz.prog w= .ok (229,.agg #[h]) w:=by kernel_rfl
theorem Ur (w:World):(ReflectliteType.method ReflectliteType.elem #[.agg #[.pointer (some ⟨11,51,none⟩)]]).run Tryz.prog w= .ok (.iface 117 (.agg #[.pointer (some ⟨11,49,none⟩)])) w:=by kernel_rfl
theorem Ea (w:World):(ReflectliteType.relation "Implements" ReflectliteType.implements_ #[.agg #[.pointer (some ⟨11,49,none⟩)],.iface 117 (.agg #[.pointer (some ⟨11,24,none⟩)])]).run Tryz.prog w= .ok (.bool true) w:=by kernel_rfl
theorem P5 (v:Value)(w:World):(ReflectliteType.typeOf #[.iface 49 v]).run Tryz.prog w= .ok (.iface 117 (.agg #[.pointer (some ⟨11,49,none⟩)])) w:=by kernel_rfl
theorem Eb (w:World):(ReflectliteType.relation "AssignableTo" ReflectliteType.assignableTo #[.agg #[.pointer (some ⟨11,49,none⟩)],.iface 117 (.agg #[.pointer (some ⟨11,49,none⟩)])]).run Tryz.prog w= .ok (.bool true) w:=by kernel_rfl
theorem LJ (e:Addr)(w:World):(ReflectliteValue.unpack (.iface 49 (.pointer (some e)))).run Tryz.prog w
 = .ok (.agg #[.pointer (some ⟨11,49,none⟩),.pointer (some ⟨w.heap.size,0,none⟩),.int .u64 150]) (w.alloc (.cells #[.pointer (some e)] 49)):=by kernel_rfl
theorem LK (w:World):(Rtype.elem? 51).run Tryz.prog w= .ok (some 49) w:=by kernel_rfl
theorem asmkP (p:Addr)(w:World):(ReflectliteValue.mk 49 p ReflectliteValue.flagAddr).run Tryz.prog w= .ok (.agg #[.pointer (some ⟨11,49,none⟩),.pointer (some p),.int .u64 406]) w:=by kernel_rfl
theorem P6 (a p:Addr)(W:World)(ha:W.cell? a=some (.pointer (some p))) :
 (ReflectliteValue.method (ReflectliteValue.valueError "reflectlite.Value.Elem" 0) ReflectliteValue.elem #[.agg #[.pointer (some ⟨11,51,none⟩),.pointer (some a),.int .u64 150]]).run Tryz.prog W
  = .ok (.agg #[.pointer (some ⟨11,49,none⟩),.pointer (some p),.int .u64 406]) W:=by
 rw [rlm]
 simp only [Sem.run_bind,ES,Result.andThen]
 simp [ReflectliteValue.elem,loadVar,isAgg,underlying,Tryz.underlying51,ha,Result.andThen,LK,asmkP]
theorem rls (v x:Value):ReflectliteValue.set #[v,x]=(do
 let (some (dst,a,fl),some (src,b,_)):=(←ReflectliteValue.parts v,←ReflectliteValue.parts x)
  | unsupported (.noEntry "extern/(internal/reflectlite.Value).Set.zeroValue")
 if fl / ReflectliteValue.flagAddr%2 == 0 then unsupported (.noEntry "extern/(internal/reflectlite.Value).Set.unaddressable")
 let val ←loadVar src b
 if ←Rtype.directlyAssignable dst src then storeVar dst a val
 else if ←Rtype.implements dst src then
  if(←Rtype.kind src) == 20 then
        match val with
        | .nilIface=>unsupported (.noEntry "extern/reflectlite: a nil value of one interface type handed on as a value of another")
        | _=>storeVar dst a val
  else storeVar dst a (.iface src val)
 else panicString ("reflectlite.Set: value of type " ++ (←Rtype.spelt src) ++ " is not assignable to type " ++ (←Rtype.spelt dst))
 pure (.tuple #[])):=rfl
theorem P7 (a:Addr)(w:World):(ReflectliteValue.parts (.agg #[.pointer (some ⟨11,49,none⟩),.pointer (some a),.int .u64 406])).run Tryz.prog w= .ok (some (49,a,406)) w:=by kernel_rfl
theorem Us (a:Addr)(w:World):(ReflectliteValue.parts (.agg #[.pointer (some ⟨11,49,none⟩),.pointer (some a),.int .u64 150])).run Tryz.prog w= .ok (some (49,a,150)) w:=by kernel_rfl
theorem P8 (w:World):(Rtype.directlyAssignable 49 49).run Tryz.prog w= .ok true w:=by kernel_rfl
theorem assetP (ta b e:Addr)(old:Value)(W:World)(hb:W.cell? b=some (.pointer (some e)))(ht:W.cell? ta=some old)(hf:W.frozen? ta=false) :
 (ReflectliteValue.set #[.agg #[.pointer (some ⟨11,49,none⟩),.pointer (some ta),.int .u64 406],.agg #[.pointer (some ⟨11,49,none⟩),.pointer (some b),.int .u64 150]]).run Tryz.prog W
  = .ok (.tuple #[]) (W.setCell ta (.pointer (some e))):=by
 rw [rls]
 simp only [Sem.run_bind,P7,Us,Result.andThen]
 simp [ReflectliteValue.flagAddr,loadVar,isAgg,underlying,Tryz.underlying49,hb,Result.andThen,P8,storeVar,Value.cells,storeCells,Addr.add]
 rw [run_store Tryz.prog W ta _ _ (by rfl)]
 simp [ht,hf]
set_option maxHeartbeats 4000000 in
theorem as_hit (e t:Addr)(old:Value)(w:World)(hg:w.cell? ⟨0,0,none⟩=some (.iface 117 (.agg #[.pointer (some ⟨11,24,none⟩)])))(ht0:w.cell? t=some old)(hf0:w.frozen? t=false) :
 Calls Tryz.prog 9 #[.iface 49 (.pointer (some e)),.iface 51 (.pointer (some t))] w fun ev w'=>ev= .returned (.bool true)∧w'= ((((w.alloc (.cells #[.pointer (some t)] 51)).alloc (.cells #[.pointer (some ⟨11,51,none⟩),.pointer (some ⟨w.heap.size,0,none⟩),.int .u64 150] 70)).alloc (.cells #[.pointer (some ⟨11,51,none⟩),.pointer (some ⟨w.heap.size,0,none⟩),.int .u64 150] 70)).alloc (.cells #[.pointer (some e)] 49)).setCell t (.pointer (some e)):=by
 have h6:=@run_callFunc_extern Tryz.prog 21 _ (fun args=>ReflectliteValue.unpack (args.getD 0 (.tuple #[]))) Tryz.func21 (by kernel_rfl) (by kernel_rfl) (by kernel_rfl) (by kernel_rfl)
 have h7:=@run_callFunc_extern Tryz.prog 22 _ (ReflectliteValue.methodAny (ReflectliteValue.valueError "reflectlite.Value.Type" 0) (fun t _ _ _=>ReflectliteType.toType t)) Tryz.func22 (by kernel_rfl) (by kernel_rfl) (by kernel_rfl) (by kernel_rfl)
 have h8:=@run_callFunc_extern Tryz.prog 23 _ (ReflectliteValue.method (ReflectliteValue.valueError "reflectlite.Value.IsNil" 0) ReflectliteValue.isNil) Tryz.func23 (by kernel_rfl) (by kernel_rfl) (by kernel_rfl) (by kernel_rfl)
 have h27:=@run_callFunc_extern Tryz.prog 219 _ (ReflectliteType.abiMethod fun t=>do pure (.int .u8 (←Rtype.kind t))) Tryz.func219 (by kernel_rfl) (by kernel_rfl) (by kernel_rfl) (by kernel_rfl)
 have h37:=@run_callFunc_extern Tryz.prog 231 _ (ReflectliteType.method ReflectliteType.elem) Tryz.func231 (by kernel_rfl) (by kernel_rfl) (by kernel_rfl) (by kernel_rfl)
 have h38:=@run_callFunc_extern Tryz.prog 232 _ (ReflectliteType.relation "Implements" ReflectliteType.implements_) Tryz.func232 (by kernel_rfl) (by kernel_rfl) (by kernel_rfl) (by kernel_rfl)
 have h10:=@run_callFunc_extern Tryz.prog 25 _ ReflectliteType.typeOf Tryz.func25 (by kernel_rfl) (by kernel_rfl) (by kernel_rfl) (by kernel_rfl)
 have h35:=@run_callFunc_extern Tryz.prog 229 _ (ReflectliteType.relation "AssignableTo" ReflectliteType.assignableTo) Tryz.func229 (by kernel_rfl) (by kernel_rfl) (by kernel_rfl) (by kernel_rfl)
 have h11:=@run_callFunc_extern Tryz.prog 45 _ (ReflectliteValue.method (ReflectliteValue.valueError "reflectlite.Value.Elem" 0) ReflectliteValue.elem) Tryz.func45 (by kernel_rfl) (by kernel_rfl) (by kernel_rfl) (by kernel_rfl)
 have h12:=@run_callFunc_extern Tryz.prog 46 _ ReflectliteValue.set Tryz.func46 (by kernel_rfl) (by kernel_rfl) (by kernel_rfl) (by kernel_rfl)
 have tO:=P5
 have mA:=sZ
 have a25:=Eb
 have v25:=LJ
 have f6:=Jm
 have f7:=Un
 have mK:=Gy
 have mE:=Gz
 have mI:=vO
 have k27:=Uo
 have k25:=askindP
 have e27:=Ur
 have i25:=Ea
 have n8:=PZ ⟨w.heap.size,0,none⟩ t ((w.alloc (.cells #[.pointer (some t)] 51)).alloc (.cells #[.pointer (some ⟨11,51,none⟩),.pointer (some ⟨w.heap.size,0,none⟩),.int .u64 150] 70)) (by simp)
 have hlt:0<w.heap.size:=by
  rcases Nat.eq_zero_or_pos w.heap.size with h0 | h
  ·simp [World.cell?,h0] at hg
  ·exact h
 have hg2:((w.alloc (.cells #[.pointer (some t)] 51)).alloc (.cells #[.pointer (some ⟨11,51,none⟩),.pointer (some ⟨w.heap.size,0,none⟩),.int .u64 150] 70)).cell? ⟨0,0,none⟩=some (.iface 117 (.agg #[.pointer (some ⟨11,24,none⟩)])):=by
  rw [World.cell?_alloc_lt _ _ ⟨0,0,none⟩ (by simp),World.cell?_alloc_lt _ _ ⟨0,0,none⟩ hlt];exact hg
 have htl:t.block<w.heap.size:=by
  rcases Nat.lt_or_ge t.block w.heap.size with h | h
  ·exact h
  ·simp [World.cell?,Array.getElem?_eq_none h] at ht0
 have el:=P6 ⟨w.heap.size,0,none⟩ t (((w.alloc (.cells #[.pointer (some t)] 51)).alloc (.cells #[.pointer (some ⟨11,51,none⟩),.pointer (some ⟨w.heap.size,0,none⟩),.int .u64 150] 70)).alloc (.cells #[.pointer (some ⟨11,51,none⟩),.pointer (some ⟨w.heap.size,0,none⟩),.int .u64 150] 70)) (by rw [World.cell?_alloc_lt _ _ ⟨w.heap.size,0,none⟩ (by simp;omega)];simp)
 have st:=assetP t ⟨w.heap.size+1+1+1,0,none⟩ e old ((((w.alloc (.cells #[.pointer (some t)] 51)).alloc (.cells #[.pointer (some ⟨11,51,none⟩),.pointer (some ⟨w.heap.size,0,none⟩),.int .u64 150] 70)).alloc (.cells #[.pointer (some ⟨11,51,none⟩),.pointer (some ⟨w.heap.size,0,none⟩),.int .u64 150] 70)).alloc (.cells #[.pointer (some e)] 49))
  (by rw [World.cell?_alloc_at _ _ _ _ (by simp)];rfl)
  (by rw [World.cell?_alloc_lt _ _ t (by simp;omega),World.cell?_alloc_lt _ _ t (by simp;omega),World.cell?_alloc_lt _ _ t (by simp;omega),World.cell?_alloc_lt _ _ t htl];exact ht0)
  (by rw [World.frozen?_alloc_old _ _ t (by simp;omega),World.frozen?_alloc_old _ _ t (by simp;omega),World.frozen?_alloc_old _ _ t (by simp;omega),World.frozen?_alloc_old _ _ t (Nat.ne_of_lt htl)];exact hf0)
 go_enter Tryz.func9,Tryz.ntmps9
 go_wp2
 refine wp_loop_rounds 1 ?_
 rw [rounds_succ]
 go_wp2
 go_ret
 exact⟨rfl,rfl⟩
theorem GH (e t:Addr)(old:Value)(w:World)(hg:w.cell? ⟨0,0,none⟩=some (.iface 117 (.agg #[.pointer (some ⟨11,24,none⟩)])))(ht0:w.cell? t=some old)(hf0:w.frozen? t=false) :
 Calls Tryz.prog 9 #[.iface 49 (.pointer (some e)),.iface 51 (.pointer (some t))] w fun ev w'=>ev= .returned (.bool true)∧∃w1,Below w.heap.size w w1∧w'= w1.setCell t (.pointer (some e)):=
 (as_hit e t old w hg ht0 hf0).mono fun _ _ h=>⟨h.1,_,((((Below.refl _ w).alloc (Nat.le_refl _) _).alloc (by simp) _).alloc (by simp;omega) _).alloc (by simp;omega) _,h.2⟩
end Go.dX.YthggaoedidfpcaaGreatDoor
