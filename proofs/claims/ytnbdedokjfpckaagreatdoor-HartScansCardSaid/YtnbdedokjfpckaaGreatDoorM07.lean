/- Texts of this claim, joined: Shelf, Abs21, New, NewP, Ctx, Abs38. -/
import Derived.Shelf.Strconv.ParseIntEmpty
import Derived.Shelf.LaysM
import Derived.Shelf.Strconv.Clone
import Derived.Shelf.Strconv.SyntaxError
import Derived.Shelf.LaysC
import Derived.Shelf.Strconv.ToError
import Derived.Shelf.Strconv.Lower
import Derived.Shelf.Strconv.ParseUint10
import Derived.Shelf.Strconv.ParseUint10Empty
import Derived.Shelf.Strconv.ParseUint10Any
import Derived.Shelf.Strconv.ParseInt10
import Derived.Shelf.Strconv.RangeError
import Derived.Shelf.Strconv.ToErrorRange
import Derived.Shelf.Strconv.ParseUintEmpty
import Derived.Shelf.Strconv.ParseUint10b64
import Derived.Shelf.Strconv.ParseUint10b32
import Derived.Shelf.Strconv.ParseUint10b16
import Derived.Shelf.Strconv.ParseUint10b8
import Derived.Shelf.Strconv.ParseUint10At
import Derived.Shelf.Strconv.ParseInt10At64
import Derived.Shelf.Strconv.ParseInt10At32
import Derived.Shelf.Strconv.ParseInt10At16
import Derived.Shelf.Strconv.ParseInt10At8
import Derived.Shelf.Strconv.ParseInt10All
import Derived.Shelf.Strconv.ParseIntPublic10
import Derived.Shelf.Strconv.ErrVarParseInt
import Derived.Test.YtnbdedokjfpckaaGreatDoorProg
import Derived.Test.YtnbdedokjfpckaaGreatDoorM05
import Derived.Lib.ItoaMem
import Derived.Lib.Walk
import Derived.WalkKit
import Derived.BigCall
import Derived.BigGuard
import Derived.Deep.RegionHeld
import Derived.Laws.MakeOwn
import Derived.Test.YtnbdedokjfpckaaGreatDoorM04
import Derived.Test.YtnbdedokjfpckaaGreatDoorM06
import Derived.Lib.Bytealg
set_option linter.unusedVariables false
set_option linter.unusedSimpArgs false
namespace Go.Proofs
open Go.Shelf
def Tryz.Dl:Go.Shelf.Ren:=⟨fun | 174=>146 | 247=>192 | 245=>193 | 287=>215 | 279=>216 | 280=>217 | 281=>218 | 282=>219 | 321=>229 | 322=>230 | 316=>231 | 171=>233 | 205=>232 | 243=>240 | 246=>194 | 283=>220 | 284=>221 | 285=>222 | 286=>223 | 129=>235 | 317=>234 | 318=>236 | 319=>237 | 320=>238 | 337=>241 | 338=>242 | n=>n,fun | 9=>9 | 3=>3 | 2=>2 | 75=>66 | 85=>220 | 4=>4 | 167=>266 | 5=>5 | 53=>39 | 175=>267 | 46=>178 | 168=>269 | 37=>45 | 0=>0 | 210=>288 | 21=>21 | 127=>293 | 145=>296 | 143=>294 | 171=>272 | 173=>274 | 212=>290 | 51=>28 | 20=>20 | 213=>291 | 232=>298 | 233=>299 | 80=>300 | n=>n,fun | 15=>4 | 16=>5 | 17=>6 | 18=>7 | 19=>8 | n=>n⟩
theorem Tryz.EY:Go.Proofs.LaysC.n174 Tryz.prog Tryz.Dl:={
 mixed:=by kernel_rfl
 f129:=Tryz.func235.trans (congrArg some (by kernel_rfl))
 f171:=Tryz.func233.trans (congrArg some (by kernel_rfl))
 f174:=Tryz.func146.trans (congrArg some (by kernel_rfl))
 f205:=Tryz.func232.trans (congrArg some (by kernel_rfl))
 f243:=Tryz.func240.trans (congrArg some (by kernel_rfl))
 f245:=Tryz.func193.trans (congrArg some (by kernel_rfl))
 f246:=Tryz.func194.trans (congrArg some (by kernel_rfl))
 f247:=Tryz.func192.trans (congrArg some (by kernel_rfl))
 f279:=Tryz.func216.trans (congrArg some (by kernel_rfl))
 f280:=Tryz.func217.trans (congrArg some (by kernel_rfl))
 f281:=Tryz.func218.trans (congrArg some (by kernel_rfl))
 f282:=Tryz.func219.trans (congrArg some (by kernel_rfl))
 f283:=Tryz.func220.trans (congrArg some (by kernel_rfl))
 f284:=Tryz.func221.trans (congrArg some (by kernel_rfl))
 f285:=Tryz.func222.trans (congrArg some (by kernel_rfl))
 f286:=Tryz.func223.trans (congrArg some (by kernel_rfl))
 f287:=Tryz.func215.trans (congrArg some (by kernel_rfl))
 f316:=Tryz.func231.trans (congrArg some (by kernel_rfl))
 f317:=Tryz.func234.trans (congrArg some (by kernel_rfl))
 f318:=Tryz.func236.trans (congrArg some (by kernel_rfl))
 f319:=Tryz.func237.trans (congrArg some (by kernel_rfl))
 f320:=Tryz.func238.trans (congrArg some (by kernel_rfl))
 f321:=Tryz.func229.trans (congrArg some (by kernel_rfl))
 f322:=Tryz.func230.trans (congrArg some (by kernel_rfl))
 f337:=Tryz.func241.trans (congrArg some (by kernel_rfl))
 f338:=Tryz.func242.trans (congrArg some (by kernel_rfl))
 t0:=Tryz.underlying0
 a0:=Tryz.isAgg0
 z0:=Tryz.sizeOf0
 v0:=Tryz.zeroValue0
 t2:=Tryz.underlying2
 a2:=Tryz.isAgg2
 z2:=Tryz.sizeOf2
 v2:=Tryz.zeroValue2
 t3:=Tryz.underlying3
 a3:=Tryz.isAgg3
 z3:=Tryz.sizeOf3
 v3:=Tryz.zeroValue3
 t4:=Tryz.underlying4
 a4:=Tryz.isAgg4
 z4:=Tryz.sizeOf4
 v4:=Tryz.zeroValue4
 t5:=Tryz.underlying5
 a5:=Tryz.isAgg5
 z5:=Tryz.sizeOf5
 v5:=Tryz.zeroValue5
 t9:=Tryz.underlying9
 a9:=Tryz.isAgg9
 z9:=Tryz.sizeOf9
 v9:=Tryz.zeroValue9
 t20:=Tryz.underlying20
 a20:=Tryz.isAgg20
 z20:=Tryz.sizeOf20
 v20:=Tryz.zeroValue20
 t21:=Tryz.underlying21
 a21:=Tryz.isAgg21
 z21:=Tryz.sizeOf21
 v21:=Tryz.zeroValue21
 t37:=Tryz.underlying45
 a37:=Tryz.isAgg45
 z37:=Tryz.sizeOf45
 v37:=Tryz.zeroValue45
 t46:=Tryz.underlying178
 a46:=Tryz.isAgg178
 z46:=Tryz.sizeOf178
 v46:=Tryz.zeroValue178
 t51:=Tryz.underlying28
 a51:=Tryz.isAgg28
 z51:=Tryz.sizeOf28
 v51:=Tryz.zeroValue28
 t53:=Tryz.underlying39
 a53:=Tryz.isAgg39
 z53:=Tryz.sizeOf39
 v53:=Tryz.zeroValue39
 t75:=Tryz.underlying66
 a75:=Tryz.isAgg66
 z75:=Tryz.sizeOf66
 v75:=Tryz.zeroValue66
 t85:=Tryz.underlying220
 a85:=Tryz.isAgg220
 z85:=Tryz.sizeOf220
 v85:=Tryz.zeroValue220
 t127:=Tryz.underlying293
 a127:=Tryz.isAgg293
 z127:=Tryz.sizeOf293
 v127:=Tryz.zeroValue293
 t143:=Tryz.underlying294
 a143:=Tryz.isAgg294
 z143:=Tryz.sizeOf294
 v143:=Tryz.zeroValue294
 t145:=Tryz.underlying296
 a145:=Tryz.isAgg296
 z145:=Tryz.sizeOf296
 v145:=Tryz.zeroValue296
 t167:=Tryz.underlying266
 a167:=Tryz.isAgg266
 z167:=Tryz.sizeOf266
 v167:=Tryz.zeroValue266
 t168:=Tryz.underlying269
 a168:=Tryz.isAgg269
 z168:=Tryz.sizeOf269
 v168:=Tryz.zeroValue269
 t171:=Tryz.underlying272
 a171:=Tryz.isAgg272
 z171:=Tryz.sizeOf272
 v171:=Tryz.zeroValue272
 t173:=Tryz.underlying274
 a173:=Tryz.isAgg274
 z173:=Tryz.sizeOf274
 v173:=Tryz.zeroValue274
 t175:=Tryz.underlying267
 a175:=Tryz.isAgg267
 z175:=Tryz.sizeOf267
 v175:=Tryz.zeroValue267
 t210:=Tryz.underlying288
 a210:=Tryz.isAgg288
 z210:=Tryz.sizeOf288
 v210:=Tryz.zeroValue288
 t212:=Tryz.underlying290
 a212:=Tryz.isAgg290
 z212:=Tryz.sizeOf290
 v212:=Tryz.zeroValue290
 t213:=Tryz.underlying291
 a213:=Tryz.isAgg291
 z213:=Tryz.sizeOf291
 t232:=Tryz.underlying298
 a232:=Tryz.isAgg298
 z232:=Tryz.sizeOf298
 v232:=Tryz.zeroValue298
 t233:=Tryz.underlying299
 a233:=Tryz.isAgg299
 z233:=Tryz.sizeOf299
 v233:=Tryz.zeroValue299
 g15:=by kernel_rfl
 g16:=by kernel_rfl
 g17:=by kernel_rfl
 g18:=by kernel_rfl
 g19:=by kernel_rfl
 t80:=Tryz.underlying300
 a80:=Tryz.isAgg300
 z80:=Tryz.sizeOf300
 v80:=Tryz.zeroValue300
 i0:=by kernel_rfl
 i2:=by kernel_rfl
 i3:=by kernel_rfl
 i4:=by kernel_rfl
 i5:=by kernel_rfl
 i9:=by kernel_rfl
 i20:=by kernel_rfl
 i21:=by kernel_rfl
 i37:=by kernel_rfl
 i46:=by kernel_rfl
 i51:=by kernel_rfl
 i53:=by kernel_rfl
 i75:=by kernel_rfl
 i80:=by kernel_rfl
 i85:=by kernel_rfl
 i127:=by kernel_rfl
 i143:=by kernel_rfl
 i145:=by kernel_rfl
 i167:=by kernel_rfl
 i168:=by kernel_rfl
 i171:=by kernel_rfl
 i173:=by kernel_rfl
 i175:=by kernel_rfl
 i210:=by kernel_rfl
 i212:=by kernel_rfl
 i232:=by kernel_rfl
 i233:=by kernel_rfl
 m15:=by kernel_rfl
 m16:=by kernel_rfl
 m17:=by kernel_rfl
 m18:=by kernel_rfl
 m19:=by kernel_rfl
 c0:=by kernel_rfl
 c2:=by kernel_rfl
 c3:=by kernel_rfl
 c4:=by kernel_rfl
 c5:=by kernel_rfl
 c9:=by kernel_rfl
 c20:=by kernel_rfl
 c21:=by kernel_rfl
 c37:=by kernel_rfl
 c46:=by kernel_rfl
 c51:=by kernel_rfl
 c53:=by kernel_rfl
 c75:=by kernel_rfl
 c80:=by kernel_rfl
 c85:=by kernel_rfl
 c127:=by kernel_rfl
 c143:=by kernel_rfl
 c145:=by kernel_rfl
 c167:=by kernel_rfl
 c168:=by kernel_rfl
 c171:=by kernel_rfl
 c173:=by kernel_rfl
 c175:=by kernel_rfl
 c210:=by kernel_rfl
 c212:=by kernel_rfl
 c213:=by kernel_rfl
 c232:=by kernel_rfl
 c233:=by kernel_rfl }
open Go.RowKit in
theorem Tryz.strconv_ParseInt_10_at64_ok (s:ByteArray)(hmax:s.size≤9223372036854775806)(v:Int)(h:Lib.parseIntB 64 s.data.toList= .ok v)(w:World) :
 Calls Tryz.prog 146 #[.string s,.int .i64 10,.int .i64 64] w fun e w'=>e= .returned (.tuple #[.int .i64 v,.nilIface])∧(w'= w∨∃t,w'= Lib.bytesWorld w 5 t):=Any.strconv_ParseInt_10_at64_ok Tryz.EY s hmax v h w
open Go.RowKit in
theorem Tryz.strconv_ParseInt_10_at64_syntax (s:ByteArray)(hlim:s.size≤281474976710656)(h:Lib.parseIntB 64 s.data.toList=Go.Lib.NumEnd.syntax)(ev:Value)(w:World)(hv:w.cell? ⟨4,0,none⟩=some ev)(hev:ev= .nilIface∨∃te pe,ev= .iface te pe) :
 Calls Tryz.prog 146 #[.string s,.int .i64 10,.int .i64 64] w fun e w'=>∃N,e= .returned (.tuple #[.int .i64 (0),.iface 269 (.pointer (some ⟨N,0,none⟩))])∧w.heap.size≤N∧w'.heap[N]? =some (.cells #[.string ⟨#[80,97,114,115,101,73,110,116]⟩,.string s,ev] 288 (0,0))∧Below w.heap.size w w':=Any.strconv_ParseInt_10_at64_syntax Tryz.EY s hlim h ev w hv hev
end Go.Proofs
namespace Go.cO
theorem wrap_i64 {n:Int} (h1: -9223372036854775808≤n)(h2:n≤9223372036854775807):IntKind.i64.wrap n=n:=by
 simp [IntKind.wrap,IntKind.signed,IntKind.bits];omega
theorem wrap_u16 {n:Int} (h1:0≤n)(h2:n≤65535):IntKind.u16.wrap n=n:=by
 simp [IntKind.wrap,IntKind.signed,IntKind.bits];omega
theorem wrap_u32 {n:Int} (h1:0≤n)(h2:n≤4294967295):IntKind.u32.wrap n=n:=by
 simp [IntKind.wrap,IntKind.signed,IntKind.bits];omega
theorem wrap_u64 {n:Int} (h1:0≤n)(h2:n≤18446744073709551615):IntKind.u64.wrap n=n:=by
 simp [IntKind.wrap,IntKind.signed,IntKind.bits];omega
end Go.cO
set_option maxRecDepth 100000
namespace Go.cO.YtnbdedokjfpckaaGreatDoor
open Go.cO Go.Proofs Go.RowKit Go.Sort
theorem info64:(Tryz.prog.info? 39).map (fun i=>(i.zero,i.size,i.bytes))=some (some (.int .u64 0),1,8):=by kernel_rfl
theorem info8:(Tryz.prog.info? 5).map (fun i=>(i.zero,i.size,i.bytes))=some (some (.int .u8 0),1,1):=by kernel_rfl
def mQ:Array Value:=madeCells #[.int .u64 0] 4
def rJ:Array Value:=madeCells #[.int .u8 0] 4096
theorem make64 (W:World):(Instr.makeSlice 150 (.int .i64 4) (.int .i64 4)).run Tryz.prog W= .ok (.slice (some ⟨W.heap.size,0,none⟩) 4 4) (W.alloc (.cells mQ 39)):=by
 have h:=info64
 rw [Option.map_eq_some_iff] at h
 obtain⟨i,h1,h2⟩:=h
 simp only [Prod.mk.injEq] at h2
 have:=run_makeSlice (P:=Tryz.prog) (w:=W) 150 39 i (.int .u64 0) Tryz.underlying150 h1 h2.1 .i64 .i64 4 4 (by omega) (by omega) (by rw [h2.2.1];decide) (by rw [h2.2.2];omega) (by omega)
 rw [h2.2.1] at this
 exact this
theorem make8 (W:World):(Instr.makeSlice 45 (.int .i64 4096) (.int .i64 4096)).run Tryz.prog W= .ok (.slice (some ⟨W.heap.size,0,none⟩) 4096 4096) (W.alloc (.cells rJ 5)):=by
 have h:=info8
 rw [Option.map_eq_some_iff] at h
 obtain⟨i,h1,h2⟩:=h
 simp only [Prod.mk.injEq] at h2
 have:=run_makeSlice (P:=Tryz.prog) (w:=W) 45 5 i (.int .u8 0) Tryz.underlying45 h1 h2.1 .i64 .i64 4096 4096 (by omega) (by omega) (by rw [h2.2.1];decide) (by rw [h2.2.2];omega) (by omega)
 rw [h2.2.1] at this
 exact this
def EZ (b:Nat):Obj:=.cells #[.int .i64 256,.slice (some ⟨b,0,none⟩) 4 4] 152
def vG (a b:Nat):Obj:=.cells #[.pointer (some ⟨a,0,none⟩),.slice (some ⟨b,0,none⟩) 4096 4096] 103
theorem Wh (w:World):Calls Tryz.prog 39 #[.int .i64 256] w fun e w'=>e= .returned (.pointer (some ⟨w.heap.size+1,0,none⟩))∧w'= (w.alloc (.cells mQ 39)).alloc (EZ w.heap.size):=by
 have hm:=make64
 go_enter Tryz.func39,Tryz.ntmps39
 go_wp2
 go_ret
 exact⟨rfl,rfl⟩
theorem LG (w:World)(C8 C64:Array Value)(hm:∀W:World,(Instr.makeSlice 45 (.int .i64 4096) (.int .i64 4096)).run Tryz.prog W= .ok (.slice (some ⟨W.heap.size,0,none⟩) 4096 4096) (W.alloc (.cells C8 5)))
 (ih:∀w:World,Calls Tryz.prog 39 #[.int .i64 256] w fun e w'=>e= .returned (.pointer (some ⟨w.heap.size+1,0,none⟩))∧w'= (w.alloc (.cells C64 39)).alloc (EZ w.heap.size)) (R:Ending→World→Prop)
 (h1:R (.returned (.tuple #[.pointer (some ⟨w.heap.size+3,0,none⟩),.int .i64 0])) (((((w.drewN 1).alloc (.cells C64 39)).alloc (EZ w.heap.size)).alloc (.cells C8 5)).alloc (vG (w.heap.size+1) (w.heap.size+2))))
 (h2:R (.returned (.tuple #[.pointer (some ⟨w.heap.size+3,0,none⟩),.int .i64 0])) (((((w.drewN 1).alloc (.cells C8 5)).alloc (.cells C64 39)).alloc (EZ (w.heap.size+1))).alloc (vG (w.heap.size+2) w.heap.size))) :
 Calls Tryz.prog 23 #[.int .i64 16] w R:=by
 go_enter Tryz.func23,Tryz.ntmps23
 go_wp2
 go_region_held (fun w'=>True) (trivial) (first | (go_at_call 39;refine(ih _).mono ?_;rintro e w' ⟨rfl,rfl⟩))
 all_goals go_wp2
 all_goals first
 | exact h1
 | exact h2
theorem OV (w:World)(R:Ending→World→Prop)
 (h1:R (.returned (.tuple #[.pointer (some ⟨w.heap.size+3,0,none⟩),.int .i64 0])) (((((w.drewN 1).alloc (.cells mQ 39)).alloc (EZ w.heap.size)).alloc (.cells rJ 5)).alloc (vG (w.heap.size+1) (w.heap.size+2))))
 (h2:R (.returned (.tuple #[.pointer (some ⟨w.heap.size+3,0,none⟩),.int .i64 0])) (((((w.drewN 1).alloc (.cells rJ 5)).alloc (.cells mQ 39)).alloc (EZ (w.heap.size+1))).alloc (vG (w.heap.size+2) w.heap.size))) :
 Calls Tryz.prog 23 #[.int .i64 16] w R:=LG w rJ mQ make8 Wh R h1 h2
end Go.cO.YtnbdedokjfpckaaGreatDoor
set_option maxRecDepth 100000
namespace Go.cO.YtnbdedokjfpckaaGreatDoor
open Go.cO Go.Proofs Go.RowKit
section
variable {G:Nat} {μ:Mu} {σ:St} {w:World}
theorem JA (hs:fH G μ σ w) {o e b n z:Nat} {cs:List AV} (ho:σ[o]? =some ⟨0,false,.cells e cs⟩)(hb:μ o 0=some (b,0))(hn:n*z≤cs.length):aJ μ w (.sl o 0 0 n z) (.slice (some ⟨b,0,none⟩) n n):=by
 obtain⟨b',uV,h1,dF,fr,h2,h3,_⟩:=hs.obj o _ ho rfl
 rw [hb] at h1
 cases h1
 exact⟨b,0,0,n,e,dF.size,hb,rfl,Nat.le_refl _,.inl rfl,by unfold World.shape?;rw [h2],by omega⟩
def y7:List AV:=iG [.i .u64 0] 4
def uh:List AV:=iG [.i .u8 0] 4096
theorem BN:aQ μ w y7 mQ.toList:=sW (zs:=[.i .u64 0]) (z:=#[.int .u64 0]) ⟨_,_,rfl,rfl,rfl⟩ 4
theorem BO:aQ μ w uh rJ.toList:=sW (zs:=[.i .u8 0]) (z:=#[.int .u8 0]) ⟨_,_,rfl,rfl,rfl⟩ 4096
theorem len4:y7.length=4:=by simp [y7,fU]
theorem len4k:uh.length=4096:=by simp [uh,fU]
def xO (n:Nat):List AO:=[⟨0,false,.cells 39 y7⟩,⟨0,false,.cells 152 [.i .i64 256,.sl n 0 0 4 1]⟩,⟨0,false,.cells 5 uh⟩,⟨0,false,.cells 103 [.p (n+1) 0 0,.sl (n+2) 0 0 4096 1]⟩]
def OW:List AV→St→Option (AV×St)
 | [.i .i64 16],σ=>some (.tu [.p (σ.length+3) 0 0,.i .i64 0],σ ++ xO σ.length)
 | _,_=>none
def dd:AO:=⟨0,false,.dead⟩
theorem at4 {a b c d x:AO} {j:Nat} (h:([a,b,c,d]:List AO)[j]? =some x):(σ ++ [a,b,c,d])[σ.length+j]? =some x:=by
 rw [List.getElem?_append_right (by omega),show σ.length+j - σ.length=j by omega];exact h
theorem set4 {a b c d x:AO} {j:Nat} :(σ ++ [a,b,c,d]).set (σ.length+j) x=σ ++ ([a,b,c,d]:List AO).set j x:=by
 rw [List.set_append_right _ _ (by omega),show σ.length+j - σ.length=j by omega]
theorem E5 {a b c d:AO} {j e:Nat} {cs:List AV} {dF:Array Value} (hs:fH G μ (σ ++ [a,b,c,d]) w)(hG:G≤σ.length)(hj:([a,b,c,d]:List AO)[j]? =some dd)(hn:μ (σ.length+j) 0=none)(hr:aQ μ w cs dF.toList) :
 Step G μ (σ ++ [a,b,c,d]) w (μ.upd (σ.length+j) 0 (w.heap.size,0)) (σ ++ ([a,b,c,d]:List AO).set j ⟨0,false,.cells e cs⟩) (w.alloc (.cells dF e)):=by
 have h:=Step.place (e:=e) hs (at4 hj) (by omega) hn hr
 rw [set4] at h
 exact h
theorem Wi (hs:fH G μ σ w):After G μ σ w (.tu [.p (σ.length+3) 0 0,.i .i64 0]) (σ ++ xO σ.length) (.returned (.tuple #[.pointer (some ⟨w.heap.size+3,0,none⟩),.int .i64 0]))
 (((((w.drewN 1).alloc (.cells mQ 39)).alloc (EZ w.heap.size)).alloc (.cells rJ 5)).alloc (vG (w.heap.size+1) (w.heap.size+2))):=by
 have hG:=hs.G_le
 have d0:=Step.drew hs
 have d1:Step G μ σ w μ (σ ++ [dd,dd,dd,dd]) (w.drewN 1):=d0.trans (Step.NU d0.nI 4)
 have n0:∀j,μ (σ.length+j) 0=none:=fun j=>hs.above (by omega)
 have d2:=d1.trans (E5 (j:=0) (e:=39) d1.nI hG rfl (n0 0) BN)
 have d3:=d2.trans (E5 (j:=1) (e:=152) d2.nI hG rfl (by rw [Mu.upd_ne (by omega)];exact n0 1) (dF:=#[.int .i64 256,.slice (some ⟨w.heap.size,0,none⟩) 4 4]) (cs:=[.i .i64 256,.sl σ.length 0 0 4 1])
  ⟨_,_,rfl,rfl,_,_,rfl,JA d2.nI (at4 (j:=0) rfl) (Mu.bK _ _ _ _) (by rw [len4];decide),rfl⟩)
 have d4:=d3.trans (E5 (j:=2) (e:=5) d3.nI hG rfl (by rw [Mu.upd_ne (by omega),Mu.upd_ne (by omega)];exact n0 2) BO)
 have d5:=d4.trans (E5 (j:=3) (e:=103) d4.nI hG rfl (by rw [Mu.upd_ne (by omega),Mu.upd_ne (by omega),Mu.upd_ne (by omega)];exact n0 3) (dF:=#[.pointer (some ⟨w.heap.size+1,0,none⟩),.slice (some ⟨w.heap.size+2,0,none⟩) 4096 4096]) (cs:=[.p (σ.length+1) 0 0,.sl (σ.length+2) 0 0 4096 1])
  ⟨_,_,rfl,⟨w.heap.size+1,0,by rw [Mu.upd_ne (by omega),Mu.bK];simp,rfl⟩,_,_,rfl,JA d4.nI (at4 (j:=2) rfl) (by rw [Mu.bK];simp) (by rw [len4k];decide),rfl⟩)
 exact⟨_,_,rfl,⟨_,rfl,_,_,rfl,⟨w.heap.size+3,0,by rw [Mu.bK];simp,rfl⟩,_,_,rfl,rfl,rfl⟩,d5⟩
theorem Wj (hs:fH G μ σ w):After G μ σ w (.tu [.p (σ.length+3) 0 0,.i .i64 0]) (σ ++ xO σ.length) (.returned (.tuple #[.pointer (some ⟨w.heap.size+3,0,none⟩),.int .i64 0]))
 (((((w.drewN 1).alloc (.cells rJ 5)).alloc (.cells mQ 39)).alloc (EZ (w.heap.size+1))).alloc (vG (w.heap.size+2) w.heap.size)):=by
 have hG:=hs.G_le
 have d0:=Step.drew hs
 have d1:Step G μ σ w μ (σ ++ [dd,dd,dd,dd]) (w.drewN 1):=d0.trans (Step.NU d0.nI 4)
 have n0:∀j,μ (σ.length+j) 0=none:=fun j=>hs.above (by omega)
 have d2:=d1.trans (E5 (j:=2) (e:=5) d1.nI hG rfl (n0 2) BO)
 have d3:=d2.trans (E5 (j:=0) (e:=39) d2.nI hG rfl (by rw [Mu.upd_ne (by omega)];exact n0 0) BN)
 have d4:=d3.trans (E5 (j:=1) (e:=152) d3.nI hG rfl (by rw [Mu.upd_ne (by omega),Mu.upd_ne (by omega)];exact n0 1) (dF:=#[.int .i64 256,.slice (some ⟨w.heap.size+1,0,none⟩) 4 4]) (cs:=[.i .i64 256,.sl σ.length 0 0 4 1])
  ⟨_,_,rfl,rfl,_,_,rfl,JA d3.nI (at4 (j:=0) rfl) (by rw [show σ.length=σ.length+0 from rfl,Mu.bK];simp) (by rw [len4];decide),rfl⟩)
 have d5:=d4.trans (E5 (j:=3) (e:=103) d4.nI hG rfl (by rw [Mu.upd_ne (by omega),Mu.upd_ne (by omega),Mu.upd_ne (by omega)];exact n0 3) (dF:=#[.pointer (some ⟨w.heap.size+2,0,none⟩),.slice (some ⟨w.heap.size,0,none⟩) 4096 4096]) (cs:=[.p (σ.length+1) 0 0,.sl (σ.length+2) 0 0 4096 1])
  ⟨_,_,rfl,⟨w.heap.size+2,0,by rw [Mu.bK];simp,rfl⟩,_,_,rfl,JA d4.nI (at4 (j:=2) rfl) (by rw [Mu.upd_ne (by omega),Mu.upd_ne (by omega),Mu.bK];simp) (by rw [len4k];decide),rfl⟩)
 exact⟨_,_,rfl,⟨_,rfl,_,_,rfl,⟨w.heap.size+3,0,by rw [Mu.bK];simp,rfl⟩,_,_,rfl,rfl,rfl⟩,d5⟩
theorem Wl {args:List AV} {r:AV} {σ':St} {aW:Array Value} (h:OW args σ=some (r,σ'))(hs:fH G μ σ w)(hr:aQ μ w args aW.toList):Does Tryz.prog 23 aW w (After G μ σ w r σ'):=by
 unfold OW at h
 split at h
 ·cases h
  obtain⟨v,rfl,h1⟩:=Lu hr
  simp only [aJ] at h1
  subst h1
  exact Does.pW (kY Tryz.func23 (by kernel_rfl) (by kernel_rfl)) (OV w _ (Wi hs) (Wj hs))
 ·cases h
end
end Go.cO.YtnbdedokjfpckaaGreatDoor
namespace Go.cO.YtnbdedokjfpckaaGreatDoor
open Go.Proofs Go.RowKit Go.Extern
def lM:List AV→St→Option (AV×St)
 | [.s l,.i .u8 c],σ=>some (.i .i64 (Lib.indexByte l c.toNat.toUInt8),σ)
 | _,_=>none
def y8:List AV→St→Option (AV×St)
 | [.s l,.i .u8 c],σ=>some (.i .i64 (Lib.countByte l c.toNat.toUInt8:Nat),σ)
 | _,_=>none
def nU:List AV→St→Option (AV×St)
 | [.s l,.i .i64 10,.i .i64 64],σ=>if l.length≤281474976710656 then(match Lib.parseIntB 64 l with
   | .ok u=>some (.tu [.i .i64 u,.gK],σ)
   | .range=>none
   | Lib.NumEnd.syntax=>(match (σ[4]? :Option AO) with
     | some ⟨0,_,.cells _ (.ic _ _ :: _)⟩=>some (.tu [.i .i64 0,.ic 269 .u],σ)
     | _=>none)) else none
 | _,_=>none
noncomputable def OX:Nat→Option (List AV→St→Option (AV×St))
 | 224=>some lM
 | 198=>some y8
 | 146=>some nU
 | 23=>some OW
 | 40=>some oL
 | _=>none
@[reducible] noncomputable def XB:Ctx:=⟨Tryz.prog,fns,OX,fun _ _ _=>none,fun _=>false⟩
theorem OY:XB.P.follows .mixedOrders=true:=by kernel_rfl
section
variable {μ:Mu} {σ σ':St} {w:World} {args:List AV} {r:AV} {aW:Array Value}
theorem uj (l:List UInt8):(⟨l.toArray⟩:ByteArray).data.toList=l:=by simp
theorem OZ (l:List UInt8):(⟨l.toArray⟩:ByteArray).size=l.length:=by simp [ByteArray.size]
theorem AP (h:lM args σ=some (r,σ'))(hs:fH 10 μ σ w)(hr:aQ μ w args aW.toList):Does Tryz.prog 224 aW w (After 10 μ σ w r σ'):=by
 unfold lM at h
 split at h
 ·rename_i l c
  cases h
  obtain⟨v,u,rfl,h1,h2⟩:=vC hr
  simp only [aJ] at h1 h2
  subst h1;subst h2
  have h10:=@run_callFunc_extern Tryz.prog 224 _ Extern.BytealgIndexByte.indexByte Tryz.func224 (by kernel_rfl) (by kernel_rfl) (by kernel_rfl) (by kernel_rfl)
  refine Does.EW (by rw [h10];simp only [Sem.run_bind,Lib.run_indexByteString,Result.andThen,uj]) ⟨_,μ,rfl,rfl,Step.refl hs⟩
 ·cases h
theorem LH (h:y8 args σ=some (r,σ'))(hs:fH 10 μ σ w)(hr:aQ μ w args aW.toList):Does Tryz.prog 198 aW w (After 10 μ σ w r σ'):=by
 unfold y8 at h
 split at h
 ·rename_i l c
  cases h
  obtain⟨v,u,rfl,h1,h2⟩:=vC hr
  simp only [aJ] at h1 h2
  subst h1;subst h2
  have h10:=@run_callFunc_extern Tryz.prog 198 _ Extern.BytealgCount.count Tryz.func198 (by kernel_rfl) (by kernel_rfl) (by kernel_rfl) (by kernel_rfl)
  refine Does.EW (by rw [h10];simp only [Sem.run_bind,Lib.run_countString,Result.andThen,uj]) ⟨_,μ,rfl,rfl,Step.refl hs⟩
 ·cases h
theorem Dn (h:nU args σ=some (r,σ'))(hs:fH 10 μ σ w)(hr:aQ μ w args aW.toList):Does Tryz.prog 146 aW w (After 10 μ σ w r σ'):=by
 have he:=kY Tryz.func146 (by kernel_rfl) (by kernel_rfl)
 unfold nU at h
 split at h
 ·rename_i l
  obtain⟨v,u,t,rfl,h1,h2,h3⟩:=wP hr
  simp only [aJ] at h1 h2 h3
  subst h1;subst h2;subst h3
  split at h
  ·rename_i hl
   have hsz:(⟨l.toArray⟩:ByteArray).size≤281474976710656:=by rw [OZ];exact hl
   split at h
   ·rename_i n hn
    cases h
    refine Does.pW he ((Tryz.strconv_ParseInt_10_at64_ok ⟨l.toArray⟩ (by omega) n (by rw [uj];exact hn) w).mono fun e w' hew=>?_)
    obtain⟨rfl,hw⟩:=hew
    refine⟨_,μ,rfl,⟨_,rfl,.int .i64 n,_,rfl,rfl,.nilIface,[],rfl,rfl,rfl⟩,?_⟩
    rcases hw with rfl | ⟨t,rfl⟩
    ·exact Step.refl hs
    ·exact Step.of_below hs (Lib.bytesWorld_below w _ _)
   ·cases h
   ·rename_i hn
    split at h
    ·rename_i ro t0 tp v0 rest hg
     cases h
     obtain⟨c,hc1,hc2⟩:=hs.cell hg (hs.rC 4 (by omega))
     obtain⟨y,rfl,_⟩:=hc2
     refine Does.pW he ((Tryz.strconv_ParseInt_10_at64_syntax ⟨l.toArray⟩ hsz (by rw [uj];exact hn) (.iface tp y) w hc1 (.inr ⟨tp,y,rfl⟩)).mono fun e w' hew=>?_)
     obtain⟨N,rfl,_,_,hb⟩:=hew
     exact⟨_,μ,rfl,⟨_,rfl,.int .i64 0,_,rfl,rfl,_,[],rfl,⟨_,rfl,trivial⟩,rfl⟩,Step.of_below hs hb⟩
    ·cases h
  ·cases h
 ·cases h
end
theorem y9:XB.Sound 10 where
 draws:=OY
 dks:=fun f h=>by cases h
 fns:=fun f F hp h=>.inl (fns_ok f F h (fun hm=>by
  obtain rfl:f=23:=by simpa using hm
  cases hp))
 ok:={
  lD:=by
    intro f g hf args σ r σ' hg μ w aW hs hr
    have hf':OX f=some g:=hf
    unfold OX at hf'
    split at hf'
    ·cases hf';exact AP hg hs hr
    ·cases hf';exact LH hg hs hr
    ·cases hf';exact Dn hg hs hr
    ·cases hf';exact Wl hg hs hr
    ·cases hf';exact H_ hg hs hr
    ·cases hf'
  meth:=by
    intro t m a k hk
    cases hk }
end Go.cO.YtnbdedokjfpckaaGreatDoor
namespace Go.cO
@[reducible] def Ctx.add (X:Ctx) (f0:Nat) (g:List AV→St→Option (AV×St)):Ctx:=⟨X.P,X.fns,fun f=>match Nat.beq f f0 with | true=>some g | false=>X.lD f,X.meth,X.dk⟩
theorem Ctx.jS {X:Ctx} {G:Nat} (hX:X.Sound G)(f0:Nat)(g0:List AV→St→Option (AV×St))(hg0:∀(args:List AV) (σ:St) (r:AV) (σ':St),g0 args σ=some (r,σ')→∀(μ:Mu) (w:World) (aW:Array Value),fH G μ σ w→aQ μ w args aW.toList→Does X.P f0 aW w (After G μ σ w r σ'))(hdk:∀f,X.dk f=true→Nat.beq f f0=false:=by first | exact fun _ h=>absurd h Bool.false_ne_true | exact fun f h=>by obtain rfl:=Nat.eq_of_beq_eq_true h;rfl):(X.add f0 g0).Sound G where
 draws:=hX.draws
 dks:=fun f h=>⟨by show (match Nat.beq f f0 with | true=>some g0 | false=>X.lD f)=none;rw [hdk f h];exact(hX.dks f h).1,(hX.dks f h).2⟩
 fns:=fun f F hp hf=>hX.fns f F (by
  have hp':(match Nat.beq f f0 with | true=>some g0 | false=>X.lD f)=none:=hp
  split at hp'
  ·cases hp'
  ·exact hp') hf
 ok:={
  meth:=hX.ok.meth
  lD:=by
    intro f g hf args σ r σ' hg μ w aW hs hr
    have hf':(match Nat.beq f f0 with | true=>some g0 | false=>X.lD f)=some g:=hf
    split at hf'
    ·rename_i he
     obtain rfl:=Nat.eq_of_beq_eq_true he
     cases hf'
     exact hg0 args σ r σ' hg μ w aW hs hr
    ·exact hX.ok.lD f g hf' args σ r σ' hg μ w aW hs hr }
end Go.cO
