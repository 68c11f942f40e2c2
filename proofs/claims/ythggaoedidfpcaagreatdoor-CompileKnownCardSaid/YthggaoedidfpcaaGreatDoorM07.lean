/- Texts of this claim, joined: Shelf, Ctx. -/
import Derived.Shelf.Small.Utf8
import Derived.Shelf.Small.Strs
import Derived.Shelf.Strconv.Itoa0
import Derived.Shelf.Strconv.Itoa1
import Derived.Shelf.LaysM
import Derived.Shelf.Strconv.Itoa2
import Derived.Shelf.Strconv.Itoa3
import Derived.Shelf.Strconv.Clone
import Derived.Shelf.Strconv.SyntaxError
import Derived.Shelf.LaysC
import Derived.Shelf.Strconv.ToError
import Derived.Shelf.Strconv.Lower
import Derived.Shelf.Strconv.ParseUint10
import Derived.Shelf.Strconv.ParseUint10Empty
import Derived.Shelf.Strconv.ParseUint10Any
import Derived.Shelf.Strconv.RangeError
import Derived.Shelf.Strconv.ToErrorRange
import Derived.Shelf.Strconv.ParseUintEmpty
import Derived.Shelf.Strconv.ParseUint10b64
import Derived.Shelf.Strconv.ParseUint10b32
import Derived.Shelf.Strconv.ParseUint10b16
import Derived.Shelf.Strconv.ParseUint10b8
import Derived.Shelf.Strconv.ParseUint10At
import Derived.Ground.MpProg
import Derived.Shelf.Pu.ParseUintPublic10
import Derived.Shelf.Pu.ErrVarParseUint
import Derived.Shelf.Strings.Search1
import Derived.Shelf.Strings.Search2
import Derived.Shelf.Strings.Search3
import Derived.Shelf.Strings.Shaped
import Derived.Shelf.Strings.Prefix
import Derived.Test.YthggaoedidfpcaaGreatDoorProg
import Derived.Test.YthggaoedidfpcaaGreatDoorM04
import Derived.Test.YthggaoedidfpcaaGreatDoorM05
import Derived.Test.YthggaoedidfpcaaGreatDoorM06
import Derived.Test.YthggaoedidfpcaaGreatDoorM02
set_option linter.unusedVariables false
set_option linter.unusedSimpArgs false
namespace Go.Proofs
open Go.Shelf
def Tryz.Jo:Go.Shelf.Ren:=⟨fun | 137=>60 | 217=>96 | 266=>128 | n=>n,fun | 9=>9 | 5=>5 | 3=>3 | n=>n,fun | n=>n⟩
theorem Tryz.lays137:Go.Proofs.Lays.n137 Tryz.prog Tryz.Jo:={
 mixed:=by kernel_rfl
 f137:=Tryz.func60.trans (congrArg some (by kernel_rfl))
 f217:=Tryz.func96.trans (congrArg some (by kernel_rfl))
 f266:=Tryz.func128.trans (congrArg some (by kernel_rfl))
 t3:=Tryz.underlying3
 a3:=Tryz.isAgg3
 z3:=Tryz.sizeOf3
 v3:=Tryz.zeroValue3
 t5:=Tryz.underlying5
 a5:=Tryz.isAgg5
 z5:=Tryz.sizeOf5
 v5:=Tryz.zeroValue5
 t9:=Tryz.underlying9
 a9:=Tryz.isAgg9
 z9:=Tryz.sizeOf9
 v9:=Tryz.zeroValue9 }
open Go.RowKit in
theorem Tryz.strings_IndexByte (s:ByteArray)(c:Int)(w:World) :
 Calls Tryz.prog 60 #[.string s,.int .u8 c] w fun e w'=>e= .returned (.int .i64 (Lib.indexByte s.data.toList c.toNat.toUInt8))∧w'= w:=Any.strings_IndexByte Tryz.lays137 s c w
def Tryz.GI:Go.Shelf.Ren:=⟨fun | 14=>65 | 16=>100 | 17=>101 | 19=>132 | 20=>133 | 21=>134 | 22=>135 | 23=>136 | 24=>137 | 25=>152 | 27=>154 | 26=>153 | 28=>170 | 29=>178 | 30=>180 | 31=>181 | 32=>182 | 33=>183 | 35=>187 | 34=>186 | 36=>188 | 37=>189 | 38=>190 | 39=>193 | 40=>194 | n=>n,fun | 9=>9 | 3=>3 | 22=>165 | 24=>24 | 25=>166 | 4=>4 | 34=>250 | 5=>5 | 36=>209 | 37=>29 | 0=>0 | 39=>252 | 21=>21 | 44=>275 | 47=>295 | 50=>298 | 48=>296 | 2=>2 | 52=>306 | 55=>309 | 59=>312 | 60=>59 | 20=>20 | 61=>313 | 65=>323 | 66=>324 | 67=>174 | n=>n,fun | 0=>4 | 1=>5 | 2=>7 | 3=>8 | 4=>9 | n=>n⟩
theorem Tryz.laysPu14:Go.Proofs.LaysPu.n14 Tryz.prog Tryz.GI:={
 mixed:=by kernel_rfl
 f14:=Tryz.func65.trans (congrArg some (by kernel_rfl))
 f16:=Tryz.func100.trans (congrArg some (by kernel_rfl))
 f17:=Tryz.func101.trans (congrArg some (by kernel_rfl))
 f19:=Tryz.func132.trans (congrArg some (by kernel_rfl))
 f20:=Tryz.func133.trans (congrArg some (by kernel_rfl))
 f21:=Tryz.func134.trans (congrArg some (by kernel_rfl))
 f22:=Tryz.func135.trans (congrArg some (by kernel_rfl))
 f23:=Tryz.func136.trans (congrArg some (by kernel_rfl))
 f24:=Tryz.func137.trans (congrArg some (by kernel_rfl))
 f25:=Tryz.func152.trans (congrArg some (by kernel_rfl))
 f26:=Tryz.func153.trans (congrArg some (by kernel_rfl))
 f27:=Tryz.func154.trans (congrArg some (by kernel_rfl))
 f28:=Tryz.func170.trans (congrArg some (by kernel_rfl))
 f29:=Tryz.func178.trans (congrArg some (by kernel_rfl))
 f30:=Tryz.func180.trans (congrArg some (by kernel_rfl))
 f31:=Tryz.func181.trans (congrArg some (by kernel_rfl))
 f32:=Tryz.func182.trans (congrArg some (by kernel_rfl))
 f33:=Tryz.func183.trans (congrArg some (by kernel_rfl))
 f34:=Tryz.func186.trans (congrArg some (by kernel_rfl))
 f35:=Tryz.func187.trans (congrArg some (by kernel_rfl))
 f36:=Tryz.func188.trans (congrArg some (by kernel_rfl))
 f37:=Tryz.func189.trans (congrArg some (by kernel_rfl))
 f38:=Tryz.func190.trans (congrArg some (by kernel_rfl))
 f39:=Tryz.func193.trans (congrArg some (by kernel_rfl))
 f40:=Tryz.func194.trans (congrArg some (by kernel_rfl))
 t0:=Tryz.underlying0
 a0:=Tryz.isAgg0
 z0:=Tryz.sizeOf0
 v0:=Tryz.zeroValue0
 i0:=by kernel_rfl
 t2:=Tryz.underlying2
 a2:=Tryz.isAgg2
 z2:=Tryz.sizeOf2
 v2:=Tryz.zeroValue2
 i2:=by kernel_rfl
 t3:=Tryz.underlying3
 a3:=Tryz.isAgg3
 z3:=Tryz.sizeOf3
 v3:=Tryz.zeroValue3
 i3:=by kernel_rfl
 t4:=Tryz.underlying4
 a4:=Tryz.isAgg4
 z4:=Tryz.sizeOf4
 v4:=Tryz.zeroValue4
 i4:=by kernel_rfl
 t5:=Tryz.underlying5
 a5:=Tryz.isAgg5
 z5:=Tryz.sizeOf5
 v5:=Tryz.zeroValue5
 i5:=by kernel_rfl
 t9:=Tryz.underlying9
 a9:=Tryz.isAgg9
 z9:=Tryz.sizeOf9
 v9:=Tryz.zeroValue9
 i9:=by kernel_rfl
 t20:=Tryz.underlying20
 a20:=Tryz.isAgg20
 z20:=Tryz.sizeOf20
 v20:=Tryz.zeroValue20
 i20:=by kernel_rfl
 t21:=Tryz.underlying21
 a21:=Tryz.isAgg21
 z21:=Tryz.sizeOf21
 v21:=Tryz.zeroValue21
 i21:=by kernel_rfl
 t22:=Tryz.underlying165
 a22:=Tryz.isAgg165
 z22:=Tryz.sizeOf165
 v22:=Tryz.zeroValue165
 i22:=by kernel_rfl
 t24:=Tryz.underlying24
 a24:=Tryz.isAgg24
 z24:=Tryz.sizeOf24
 v24:=Tryz.zeroValue24
 i24:=by kernel_rfl
 t25:=Tryz.underlying166
 a25:=Tryz.isAgg166
 z25:=Tryz.sizeOf166
 v25:=Tryz.zeroValue166
 i25:=by kernel_rfl
 t34:=Tryz.underlying250
 a34:=Tryz.isAgg250
 z34:=Tryz.sizeOf250
 v34:=Tryz.zeroValue250
 i34:=by kernel_rfl
 c34:=by kernel_rfl
 t36:=Tryz.underlying209
 a36:=Tryz.isAgg209
 z36:=Tryz.sizeOf209
 v36:=Tryz.zeroValue209
 i36:=by kernel_rfl
 t37:=Tryz.underlying29
 a37:=Tryz.isAgg29
 z37:=Tryz.sizeOf29
 v37:=Tryz.zeroValue29
 i37:=by kernel_rfl
 t39:=Tryz.underlying252
 a39:=Tryz.isAgg252
 z39:=Tryz.sizeOf252
 v39:=Tryz.zeroValue252
 i39:=by kernel_rfl
 t44:=Tryz.underlying275
 a44:=Tryz.isAgg275
 z44:=Tryz.sizeOf275
 v44:=Tryz.zeroValue275
 i44:=by kernel_rfl
 t47:=Tryz.underlying295
 a47:=Tryz.isAgg295
 z47:=Tryz.sizeOf295
 v47:=Tryz.zeroValue295
 i47:=by kernel_rfl
 t48:=Tryz.underlying296
 a48:=Tryz.isAgg296
 z48:=Tryz.sizeOf296
 v48:=Tryz.zeroValue296
 i48:=by kernel_rfl
 t50:=Tryz.underlying298
 a50:=Tryz.isAgg298
 z50:=Tryz.sizeOf298
 v50:=Tryz.zeroValue298
 i50:=by kernel_rfl
 t52:=Tryz.underlying306
 a52:=Tryz.isAgg306
 z52:=Tryz.sizeOf306
 v52:=Tryz.zeroValue306
 i52:=by kernel_rfl
 t55:=Tryz.underlying309
 a55:=Tryz.isAgg309
 z55:=Tryz.sizeOf309
 v55:=Tryz.zeroValue309
 i55:=by kernel_rfl
 t59:=Tryz.underlying312
 a59:=Tryz.isAgg312
 z59:=Tryz.sizeOf312
 v59:=Tryz.zeroValue312
 i59:=by kernel_rfl
 t60:=Tryz.underlying59
 a60:=Tryz.isAgg59
 z60:=Tryz.sizeOf59
 v60:=Tryz.zeroValue59
 i60:=by kernel_rfl
 t61:=Tryz.underlying313
 a61:=Tryz.isAgg313
 z61:=Tryz.sizeOf313
 t65:=Tryz.underlying323
 a65:=Tryz.isAgg323
 z65:=Tryz.sizeOf323
 v65:=Tryz.zeroValue323
 i65:=by kernel_rfl
 t66:=Tryz.underlying324
 a66:=Tryz.isAgg324
 z66:=Tryz.sizeOf324
 v66:=Tryz.zeroValue324
 i66:=by kernel_rfl
 t67:=Tryz.underlying174
 a67:=Tryz.isAgg174
 z67:=Tryz.sizeOf174
 v67:=Tryz.zeroValue174
 i67:=by kernel_rfl
 g0:=by kernel_rfl
 m0:=by kernel_rfl
 g1:=by kernel_rfl
 m1:=by kernel_rfl
 g2:=by kernel_rfl
 m2:=by kernel_rfl
 g3:=by kernel_rfl
 m3:=by kernel_rfl
 g4:=by kernel_rfl
 m4:=by kernel_rfl }
open Go.RowKit in
theorem Tryz.strconv_ParseUint_10_at32_ok (s:ByteArray)(hmax:s.size≤9223372036854775806)(u:Nat)(h:Lib.parseUintB 32 s.data.toList= .ok u)(w:World) :
 Calls Tryz.prog 65 #[.string s,.int .i64 10,.int .i64 32] w fun e w'=>e= .returned (.tuple #[.int .u64 u,.nilIface])∧(w'= w∨w'= Lib.bytesWorld w 5 s):=Any.strconv_ParseUint_10_at32_ok Tryz.laysPu14 s hmax u h w
open Go.RowKit in
theorem Tryz.strconv_ParseUint_10_at32_range (s:ByteArray)(hlim:s.size≤281474976710656)(h:Lib.parseUintB 32 s.data.toList= .range)(ev:Value)(w:World)(hv:w.cell? ⟨5,0,none⟩=some ev)(hev:ev= .nilIface∨∃te pe,ev= .iface te pe) :
 Calls Tryz.prog 65 #[.string s,.int .i64 10,.int .i64 32] w fun e w'=>∃N,e= .returned (.tuple #[.int .u64 4294967295,.iface 252 (.pointer (some ⟨N,0,none⟩))])∧w.heap.size≤N∧w'.heap[N]? =some (.cells #[.string ⟨#[80,97,114,115,101,85,105,110,116]⟩,.string s,ev] 275 (0,0))∧Below w.heap.size w w':=Any.strconv_ParseUint_10_at32_range Tryz.laysPu14 s hlim h ev w hv hev
end Go.Proofs
namespace Go.dX.YthggaoedidfpcaaGreatDoor
open Go.Proofs Go.RowKit Go.Extern
def nS:List AV→St→Option (AV×St)
 | [.s l,.i .u8 c],σ=>some (.i .i64 (Lib.indexByte l c.toNat.toUInt8),σ)
 | _,_=>none
def nT:List AV→St→Option (AV×St)
 | [.s l,.i .i64 10,.i .i64 32],σ=>if l.length≤281474976710656 then(match Lib.parseUintB 32 l with
   | .ok u=>some (.tu [.i .u64 u,.fK],σ)
   | .range=>(match (σ[5]? :Option AO) with
     | some ⟨0,_,.cells _ (.ic _ _ :: _)⟩=>some (.tu [.i .u64 4294967295,.ic 252 .u],σ)
     | _=>none)
   | _=>none) else none
 | _,_=>none
noncomputable def pAs:List AV→St→Option (AV×St)
 | [.fK,_],σ=>some (.b false,σ)
 | [.ic 49 (.p o g off),.ic 51 (.p o2 g2 off2)],σ=>(match (σ[0]? :Option AO) with
   | some ⟨0,_,.cells _ (.ic 117 (.ag [.p 11 0 24]) :: _)⟩=>(jB (aH Tryz.prog 49) (.p o2 g2 off2) (.p o g off) σ).map (.b true,·)
   | _=>none)
 | _,_=>none
def Ap:List AV→St→Option (AV×St)
 | [.ic 28 _],σ=>some (.ic 117 (.ag [.p 11 0 28]),σ)
 | _,_=>none
def oO:List AV→St→Option (AV×St)
 | [.ag [.p 11 0 28]],σ=>some (.b true,σ)
 | _,_=>none
noncomputable def Ut:Nat→Option (List AV→St→Option (AV×St))
 | 60=>some nS
 | 65=>some nT
 | 9=>some pAs
 | 25=>some Ap
 | 230=>some oO
 | _=>none
def Uu:Nat→String→AV→Option (Nat×AV)
 | 117,"Comparable",.ag [a]=>some (230,.ag [a])
 | 49,"Unwrap",.p o g off=>some (224,.p o g off)
 | _,_,_=>none
@[reducible] noncomputable def XB:Ctx:=⟨Tryz.prog,fns,Ut,Uu,fun _=>false⟩
theorem xg (h:Value)(w:World):(Go.method 452 117 (.agg #[h]) "Comparable").run Tryz.prog w= .ok (230,.agg #[h]) w:=by kernel_rfl
theorem Ec (a:Addr)(w:World):(Go.method 452 49 (.pointer (some a)) "Unwrap").run Tryz.prog w= .ok (224,.pointer (some a)) w:=by kernel_rfl
theorem GK (v:Value)(w:World):(ReflectliteType.typeOf #[.iface 28 v]).run Tryz.prog w= .ok (.iface 117 (.agg #[.pointer (some ⟨11,28,none⟩)])) w:=by kernel_rfl
theorem yH (w:World):(ReflectliteType.method (fun t=>do Rtype.noPackHeld "Comparable" t;pure (.bool (←typeInfo t).comparable)) #[.agg #[.pointer (some ⟨11,28,none⟩)]]).run Tryz.prog w= .ok (.bool true) w:=by kernel_rfl
theorem Uw:XB.P.types.size+Made.depth=452:=by kernel_rfl
theorem Ux:XB.P.follows .mixedOrders=true:=by kernel_rfl
section
variable {μ:Mu} {σ σ':St} {w:World} {args:List AV} {r:AV} {bg:Array Value}
theorem Ed (h:nS args σ=some (r,σ'))(hs:gQ 12 μ σ w)(hr:aY μ w args bg.toList):Does Tryz.prog 60 bg w (After 12 μ σ w r σ'):=by
 unfold nS at h
 split at h
 ·rename_i l c
  cases h
  obtain⟨v,u,rfl,h1,h2⟩:=yG hr
  simp only [aV] at h1 h2
  subst h1;subst h2
  refine Does.sW (kF Tryz.func60 (by kernel_rfl) (by kernel_rfl)) ((Tryz.strings_IndexByte ⟨l.toArray⟩ c w).mono fun e w' he=>?_)
  obtain⟨rfl,rfl⟩:=he
  exact⟨_,μ,rfl,rfl,Step.refl hs⟩
 ·cases h
theorem Ee (h:nT args σ=some (r,σ'))(hs:gQ 12 μ σ w)(hr:aY μ w args bg.toList):Does Tryz.prog 65 bg w (After 12 μ σ w r σ'):=by
 have he:=kF Tryz.func65 (by kernel_rfl) (by kernel_rfl)
 unfold nT at h
 split at h
 ·rename_i l
  obtain⟨v,u,t,rfl,h1,h2,h3⟩:=Jl hr
  simp only [aV] at h1 h2 h3
  subst h1;subst h2;subst h3
  split at h
  ·rename_i hl
   have hsz:(⟨l.toArray⟩:ByteArray).size≤281474976710656:=by simpa [ByteArray.size] using hl
   split at h
   ·rename_i n hn
    cases h
    refine Does.sW he ((Tryz.strconv_ParseUint_10_at32_ok ⟨l.toArray⟩ (by omega) n (by simpa using hn) w).mono fun e w' hew=>?_)
    obtain⟨rfl,hw⟩:=hew
    refine⟨_,μ,rfl,⟨_,rfl,.int .u64 n,_,rfl,rfl,.nilIface,[],rfl,rfl,rfl⟩,?_⟩
    rcases hw with rfl | rfl
    ·exact Step.refl hs
    ·exact Step.of_below hs (Lib.bytesWorld_below w _ _)
   ·rename_i hn
    split at h
    ·rename_i ro t0 tp v0 rest hg
     cases h
     have hg0:=hs.qI 5 (by omega)
     obtain⟨c,hc1,hc2⟩:=hs.cell hg hg0
     obtain⟨y,rfl,_⟩:=hc2
     refine Does.sW he ((Tryz.strconv_ParseUint_10_at32_range ⟨l.toArray⟩ hsz (by simpa using hn) (.iface tp y) w hc1 (.inr ⟨tp,y,rfl⟩)).mono fun e w' hew=>?_)
     obtain⟨N,rfl,_,_,hb⟩:=hew
     exact⟨_,μ,rfl,⟨_,rfl,.int .u64 4294967295,_,rfl,rfl,_,[],rfl,⟨_,rfl,trivial⟩,rfl⟩,Step.of_below hs hb⟩
    ·cases h
   ·cases h
  ·cases h
 ·cases h
theorem LM (h:Ap args σ=some (r,σ'))(hs:gQ 12 μ σ w)(hr:aY μ w args bg.toList):Does Tryz.prog 25 bg w (After 12 μ σ w r σ'):=by
 unfold Ap at h
 split at h
 ·cases h
  obtain⟨v,rfl,y,rfl,hy⟩:=qp hr
  have h10:=@run_callFunc_extern Tryz.prog 25 _ ReflectliteType.typeOf Tryz.func25 (by kernel_rfl) (by kernel_rfl) (by kernel_rfl) (by kernel_rfl)
  refine Does.Jk (by rw [h10,GK];rfl) ⟨_,μ,rfl,⟨_,rfl,_,rfl,_,[],rfl,⟨_,0,hs.qI 11 (by omega),rfl⟩,rfl⟩,Step.refl hs⟩
 ·cases h
theorem Ce (h:oO args σ=some (r,σ'))(hs:gQ 12 μ σ w)(hr:aY μ w args bg.toList):Does Tryz.prog 230 bg w (After 12 μ σ w r σ'):=by
 unfold oO at h
 split at h
 ·cases h
  obtain⟨v,rfl,a,rfl,hy⟩:=qp hr
  obtain⟨u,rfl,hu⟩:=qp hy
  obtain⟨b,δ,hb,rfl⟩:=hu
  have hg:=hs.qI 11 (by omega)
  rw [hg] at hb;cases hb
  have h10:=@run_callFunc_extern Tryz.prog 230 _ (ReflectliteType.method fun t=>do Rtype.noPackHeld "Comparable" t;pure (.bool (←typeInfo t).comparable)) Tryz.func230 (by kernel_rfl) (by kernel_rfl) (by kernel_rfl) (by kernel_rfl)
  have hcmp:=yH w
  refine Does.Jk (by rw [h10];simp only [Nat.zero_add] at hcmp ⊢;rw [hcmp];rfl) ⟨_,μ,rfl,rfl,Step.refl hs⟩
 ·cases h
theorem pAs_ok (h:pAs args σ=some (r,σ'))(hs:gQ 12 μ σ w)(hr:aY μ w args bg.toList):Does Tryz.prog 9 bg w (After 12 μ σ w r σ'):=by
 have hen:=kF Tryz.func9 (by kernel_rfl) (by kernel_rfl)
 unfold pAs at h
 split at h
 ·cases h
  obtain⟨v,u,rfl,h1,h2⟩:=yG hr
  simp only [aV] at h1
  subst h1
  refine Does.sW hen ((as_nil u w).mono fun e w' he=>?_)
  obtain⟨rfl,rfl⟩:=he
  exact⟨_,μ,rfl,rfl,Step.refl hs⟩
 ·rename_i o g off o2 g2 off2
  obtain⟨v,u,rfl,h1,h2⟩:=yG hr
  obtain⟨p1,rfl,h1⟩:=h1
  obtain⟨p2,rfl,h2⟩:=h2
  obtain⟨b,δ,hb,rfl⟩:=h1
  obtain⟨b2,xY,hb2,rfl⟩:=h2
  split at h
  ·rename_i ro t0 rest hg
   obtain⟨c,hc1,hc2⟩:=hs.cell hg (hs.qI 0 (by omega))
   obtain⟨y,rfl,hc2⟩:=hc2
   obtain⟨y2,rfl,hc2⟩:=hc2
   obtain⟨u2,rfl,b3,δ3,hb3,rfl⟩:=qp hc2
   rw [hs.qI 11 (by omega)] at hb3;cases hb3
   rw [Option.map_eq_some_iff] at h
   obtain⟨σ1,hst,h⟩:=h;cases h
   unfold jB at hst
   split at hst
   ·rename_i T o3 g3 off3 hT hpe
    cases hpe
    split at hst
    ·rename_i g' ro2 e2 cs ho
     split at hst
     ·rename_i hcond
      obtain⟨rfl,rfl,hl,hone,hle⟩:=hcond
      cases hst
      obtain⟨dZ,fr,q1,q2,q3,q4⟩:=hs.cells ho hb2
      have hTs:T.size=1:=by simpa [AV.cells] using hl.symm
      have hlt:xY+off2<dZ.size:=by omega
      have hcell:w.cell? ⟨b2,xY+off2,none⟩=some dZ[xY+off2]:=by rw [cell_of_heap q1,Array.getElem?_eq_getElem hlt]
      have hfz:w.frozen? ⟨b2,xY+off2,none⟩=false:=by
       have:=q4 rfl (xY+off2) hlt
       simp only [World.frozen?,q1]
       simpa using this
      simp only [Nat.zero_add] at hc1
      refine Does.sW hen ((GH ⟨b,δ+off,none⟩ ⟨b2,xY+off2,none⟩ _ w hc1 hcell hfz).mono fun e w' he=>?_)
      obtain⟨rfl,w1,hjunk,rfl⟩:=he
      have hst1:=Step.of_below hs hjunk
      have q1':w1.heap[b2]? =some (.cells dZ e2 fr):=by rw [hjunk.block b2 (lt_of_heap q1)];exact q1
      have hcell1:w1.cell? ⟨b2,xY+off2,none⟩=some dZ[xY+off2]:=by rw [cell_of_heap q1',Array.getElem?_eq_getElem hlt]
      have hfz1:w1.frozen? ⟨b2,xY+off2,none⟩=false:=by
       simp only [World.frozen?,q1']
       simp only [World.frozen?,q1] at hfz
       exact hfz
      obtain⟨w2,k1,k2⟩:=Step.store (P:=Tryz.prog) hst1.pJ ho hb2 (ys:=[.p o g off]) (vs:=[.pointer (some ⟨b,δ+off,none⟩)]) (off:=off2) ⟨_,_,rfl,⟨b,δ,hb,rfl⟩,rfl⟩ (by simp [Value.oneCell']) (by simp;omega)
      have hw2:w2=w1.setCell ⟨b2,xY+off2,none⟩ (.pointer (some ⟨b,δ+off,none⟩)):=by
       have hrun:(storeCells ⟨b2,xY+off2,none⟩ [.pointer (some ⟨b,δ+off,none⟩)]).run Tryz.prog w1= .ok () (w1.setCell ⟨b2,xY+off2,none⟩ (.pointer (some ⟨b,δ+off,none⟩))):=by
                simp only [storeCells,Addr.add]
                simp
                rw [run_store Tryz.prog w1 ⟨b2,xY+off2,none⟩ _ _ (by rfl)]
                simp [hcell1,hfz1]
       rw [hrun] at k1
       cases k1;rfl
      subst hw2
      exact⟨_,μ,rfl,rfl,hst1.trans (by simpa [AV.cells] using k2)⟩
     ·cases hst
    ·cases hst
   ·cases hst
  ·cases h
 ·cases h
end
theorem Uy:XB.Sound 12 where
 draws:=Ux
 dks:=fun f h=>by cases h
 fns:=fun f F _ h=>by
  by_cases hf:f=110
  ·subst hf
   cases h
   exact .inr LH
  ·exact RZ (fns_ok f F h (by simpa using hf))
 ok:={
  lg:=by
    intro f g hf args σ r σ' hg μ w bg hs hr
    have hf':Ut f=some g:=hf
    unfold Ut at hf'
    split at hf'
    ·cases hf';exact Ed hg hs hr
    ·cases hf';exact Ee hg hs hr
    ·cases hf';exact pAs_ok hg hs hr
    ·cases hf';exact LM hg hs hr
    ·cases hf';exact Ce hg hs hr
    ·cases hf'
  meth:=by
    intro t m a k hk μ v w hv
    rw [Uw]
    have hk':Uu t m a=some k:=hk
    unfold Uu at hk'
    split at hk'
    ·cases hk'
     obtain⟨c,rfl,hc⟩:=hv
     obtain⟨u,rfl,hu⟩:=qp hc
     exact⟨_,xg u w,_,rfl,hc⟩
    ·cases hk'
     obtain⟨b,δ,hb,rfl⟩:=hv
     exact⟨_,Ec _ w,b,δ,hb,rfl⟩
    ·cases hk' }
end Go.dX.YthggaoedidfpcaaGreatDoor
