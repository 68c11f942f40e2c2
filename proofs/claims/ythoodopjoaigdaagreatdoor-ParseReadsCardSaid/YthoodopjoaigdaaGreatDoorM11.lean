/- Texts of this claim, joined: Rd. -/
import Derived.Test.YthoodopjoaigdaaGreatDoorM10
import Derived.Test.YthoodopjoaigdaaGreatDoorRows
import Derived.ProofKit
import Derived.LaidMore
import Derived.LaidHandle
import Derived.Lib.LaidTab
import Derived.Stop.Joined
import Derived.OpenShut
set_option linter.unusedVariables false
set_option linter.unusedSimpArgs false
namespace Go.Proofs.YthoodopjoaigdaaGreatDoor
open Go.ChangeShapes Go.WideShapes Go.ChangeAt Go.RowKit Go.bP Go.bP.YthoodopjoaigdaaGreatDoor
set_option maxRecDepth 100000
theorem own:ownKnob Tryz.prog.godebug=none:=by kernel_rfl
theorem gEt:Tryz.prog.globalNamed "errors.errorType" =some 0:=by kernel_rfl
theorem gAs:Tryz.prog.globalNamed "strings.asciiSpace" =some 1:=by kernel_rfl
theorem gPw:Tryz.prog.globalNamed "internal/strconv.uint64pow10" =some 6:=by kernel_rfl
theorem gEr:Tryz.prog.globalNamed "strconv.ErrRange" =some 5:=by kernel_rfl
theorem tAs:(Tryz.prog.globals[1]?).map (·.type)=some 159:=by kernel_rfl
theorem tPw:(Tryz.prog.globals[6]?).map (·.type)=some 232:=by kernel_rfl
theorem tEr:(Tryz.prog.globals[5]?).map (·.type)=some 24:=by kernel_rfl
theorem rEt:(((begin Tryz.prog (fun _ _=>0) default).world.heap[0]?).bind Obj.row?).map (fun x=>(x.1.size,x.2))=some (1,101):=by kernel_rfl
theorem rAs:(((begin Tryz.prog (fun _ _=>0) default).world.heap[1]?).bind Obj.row?).map (fun x=>(x.1.size,x.2))=some (256,159):=by kernel_rfl
theorem rPw:(((begin Tryz.prog (fun _ _=>0) default).world.heap[6]?).bind Obj.row?).map (fun x=>(x.1.size,x.2))=some (20,232):=by kernel_rfl
theorem rEr:(((begin Tryz.prog (fun _ _=>0) default).world.heap[5]?).bind Obj.row?).map (fun x=>(x.1.size,x.2))=some (1,24):=by kernel_rfl
theorem Ir:Tryz.prog.globals.size=10:=by kernel_rfl
theorem hsize:10<(begin Tryz.prog (fun _ _=>0) default).world.heap.size:=of_decide_eq_true (by kernel_rfl)
theorem rt:(Tryz.prog.cutTypes.find? (·.1 == "internal/reflectlite.rtype")).map (·.2)=some 136:=by kernel_rfl
theorem psize:Tryz.prog.types.size=264:=by kernel_rfl
theorem oneRow:((List.range 264).filter fun t=>Tryz.prog.rowNamed t [101,114,114,111,114])=[24]:=by kernel_rfl
theorem uEr:∃ms,Tryz.prog.underlying 24=some (.interface ms):=⟨_,Tryz.underlying24⟩
theorem ptrName (u:TypeId)(hu:Tryz.prog.typeName? 3 u=some "*errors.errorString"):u=205:=
 typeName_ptr_named (P:=Tryz.prog) (nm:="errors.errorString") (by kernel_rfl) (by kernel_rfl) (by decide) u hu
def Yc:List Int:=[0,0,0,0,0,0,0,0,0,1,1,1,1,1,0,0,0,0,0,0,0,0,0,0,0,0,0,0,0,0,0,0,1,0,0,0,0,0,0,0,0,0,0,0,0,0,0,0,0,0,0,0,0,0,0,0,0,0,0,0,0,0,0,0,0,0,0,0,0,0,0,0,0,0,0,0,0,0,0,0,0,0,0,0,0,0,0,0,0,0,0,0,0,0,0,0,0,0,0,0,0,0,0,0,0,0,0,0,0,0,0,0,0,0,0,0,0,0,0,0,0,0,0,0,0,0,0,0,0,0,0,0,0,0,0,0,0,0,0,0,0,0,0,0,0,0,0,0,0,0,0,0,0,0,0,0,0,0,0,0,0,0,0,0,0,0,0,0,0,0,0,0,0,0,0,0,0,0,0,0,0,0,0,0,0,0,0,0,0,0,0,0,0,0,0,0,0,0,0,0,0,0,0,0,0,0,0,0,0,0,0,0,0,0,0,0,0,0,0,0,0,0,0,0,0,0,0,0,0,0,0,0,0,0,0,0,0,0,0,0,0,0,0,0,0,0,0,0,0,0,0,0,0,0,0,0]
theorem U1:(Rows.laid_strings_asciiSpace:DataW Unit)=Lib.tabData .u8 Yc:=by kernel_rfl
theorem U2:Yc.map (fun z=>AV.i .u8 z)=LG:=by rfl
theorem pK {P:Program} {w:World} (h:w.ShapedOpen P) {g t n:Nat} (hg:g<P.globals.size)(hr:(((begin P (fun _ _=>0) default).world.heap[g]?).bind Obj.row?).map (fun x=>(x.1.size,x.2))=some (n,t)):∃cs,w.heap[g]? =some (.cells cs t)∧cs.size=n∧(P.buildable t=true→Row.ok P w .any 0 t cs):=by
 rw [Option.map_eq_some_iff] at hr
 obtain⟨⟨zero,t'⟩,h1,h2⟩:=hr
 simp only [Prod.mk.injEq] at h2
 obtain⟨rfl,rfl⟩:=h2
 obtain⟨cs,h3,h4,h5⟩:=h.1 g zero t' hg h1
 exact⟨cs,h3,h4,h5⟩
def JX:List Int:=Go.Lib.pow10Tab
theorem U3:(Rows.laid_internal_strconv_uint64pow10:DataW Unit)=Lib.tabData .u64 JX:=by kernel_rfl
theorem pow_eq:JX.map (fun z=>AV.i .u64 z)=JH:=by rfl
theorem rZ {w:World} {b:Nat} {cs:Array Value} {t:TypeId} {fr:Nat×Nat} (h:w.heap[b]? =some (.cells cs t fr)):w.shape? b=some (t,cs.size):=by
 unfold World.shape?;rw [h]
structure Start (W:World):Prop where
 et:W.var? Tryz.prog "errors.errorType" =some #[.iface 136 (.agg #[.pointer (some ⟨10,24,none⟩)])]
 sp:∃cs,W.var? Tryz.prog "strings.asciiSpace" =some cs∧cs.toList=Yc.map fun z=>Value.int .u8 z
 pw:∃cs,W.var? Tryz.prog "internal/strconv.uint64pow10" =some cs∧cs.toList=JX.map fun z=>Value.int .u64 z
 er:∃v,W.var? Tryz.prog "strconv.ErrRange" =some #[.iface 205 v]
theorem QB {W:World} {l:List (String×DataW Unit)} (h:laidMet Tryz.prog l W)(hh:handlesMet Tryz.prog [("errors.errorType",Rows.laid_errors_errorType)] W)(m1:("strings.asciiSpace",Rows.laid_strings_asciiSpace)∈l)(m3:("internal/strconv.uint64pow10",Rows.laid_internal_strconv_uint64pow10)∈l)(m2:("strconv.ErrRange",Rows.laid_strconv_ErrRange)∈l):Start W:=by
 obtain⟨ps,hv,_⟩:=h
 refine⟨?_,?_,?_,?_⟩
 ·obtain⟨name,u,ty,e1,e2,e3,e4,e5⟩:=hh _ (List.mem_singleton.2 rfl)
  have en:name=[101,114,114,111,114]:=(Option.some.inj e1).symm
  subst en
  obtain rfl:=Option.some.inj (rt.symm.trans e2)
  have hm:ty∈(List.range 264).filter fun t=>Tryz.prog.rowNamed t [101,114,114,111,114]:=List.mem_filter.2 ⟨List.mem_range.2 (by rw [←psize];exact e3),e4⟩
  rw [oneRow] at hm
  obtain rfl:=List.mem_singleton.1 hm
  have hh:typeHandle Tryz.prog 24= .pointer (some ⟨10,24,none⟩):=by kernel_rfl
  rw [hh] at e5
  exact e5
 ·obtain⟨g,t,cs,fuel,p,h1,h2,h3,h4⟩:=pI hv _ _ m1
  obtain rfl:=Option.some.inj (gAs.symm.trans h1)
  obtain rfl:=Option.some.inj (tAs.symm.trans h2)
  rw [U1] at h4
  exact⟨cs,h3,Lib.cells_of_tab Tryz.underlying159 Tryz.underlying5 (by kernel_rfl) (by kernel_rfl) h4⟩
 ·obtain⟨g,t,cs,fuel,p,h1,h2,h3,h4⟩:=pI hv _ _ m3
  obtain rfl:=Option.some.inj (gPw.symm.trans h1)
  obtain rfl:=Option.some.inj (tPw.symm.trans h2)
  rw [U3] at h4
  exact⟨cs,h3,Lib.cells_of_tab Tryz.underlying232 Tryz.underlying79 (by kernel_rfl) (by kernel_rfl) h4⟩
 ·obtain⟨g,t,cs,fuel,p,h1,h2,h3,h4⟩:=pI hv _ _ m2
  obtain rfl:=Option.some.inj (gEr.symm.trans h1)
  obtain rfl:=Option.some.inj (tEr.symm.trans h2)
  obtain⟨ms,hu⟩:=uEr
  obtain⟨f',u,v,hcs,hn,_⟩:=iface_of_trod hu (show DataW.trod (fun _=>()) Tryz.prog W 0 (fun _=>true) false fuel 24 cs.toList=some (.iface "*errors.errorString" _,p) from h4)
  obtain rfl:=ptrName u hn
  have hc:cs= #[.iface 205 v]:=Array.ext' hcs
  exact⟨v,by rw [h3,hc]⟩
theorem Ny {W:World} (hsh:W.ShapedOpen Tryz.prog)(h:Start W):gK 11 (mu0 11) G0 W:=by
 obtain⟨c0,hh0,hs0,_⟩:=pK hsh (by rw [Ir];decide) rEt
 obtain⟨c1,hh1,hs1,_⟩:=pK hsh (by rw [Ir];decide) rAs
 obtain⟨c5,hh5,hs5,_⟩:=pK hsh (by rw [Ir];decide) rEr
 obtain⟨c6,hh6,hs6,_⟩:=pK hsh (by rw [Ir];decide) rPw
 have hmu:∀o,o<11→mu0 11 o 0=some (o,0):=fun o ho=>if_pos ⟨ho,rfl⟩
 have hinv:∀{o g x},mu0 11 o g=some x→o<11∧g=0∧x=(o,0):=by
  intro o g x hx
  unfold mu0 at hx
  split at hx
  ·rename_i hc;cases hx;exact⟨hc.1,hc.2,rfl⟩
  ·cases hx
 have hlast:10<W.heap.size:=JW hsh (by rw [Ir];exact Nat.le_refl _) hsize
 obtain⟨t0,f0,hw0⟩:=wB gEt h.et
 rw [hh0] at hw0
 obtain⟨rfl,_,_⟩:c0= #[.iface 136 (.agg #[.pointer (some ⟨10,24,none⟩)])]∧_∧_:=by injection (Option.some.inj hw0) with a b c;exact⟨a,b,c⟩
 obtain⟨r1,hv1,hcs1⟩:=h.sp
 obtain⟨t1,f1,hw1⟩:=wB gAs hv1
 rw [hh1] at hw1
 obtain⟨rfl,_,_⟩:c1=r1∧_∧_:=by injection (Option.some.inj hw1) with a b c;exact⟨a,b,c⟩
 obtain⟨v5,hv5⟩:=h.er
 obtain⟨t5,f5,hw5⟩:=wB gEr hv5
 rw [hh5] at hw5
 obtain⟨rfl,_,_⟩:c5= #[.iface 205 v5]∧_∧_:=by injection (Option.some.inj hw5) with a b c;exact⟨a,b,c⟩
 obtain⟨r6,hv6,hcs6⟩:=h.pw
 obtain⟨t6,f6,hw6⟩:=wB gPw hv6
 rw [hh6] at hw6
 obtain⟨rfl,_,_⟩:c6=r6∧_∧_:=by injection (Option.some.inj hw6) with a b c;exact⟨a,b,c⟩
 refine⟨fun o a ho hl=>?_,fun o o' a a' b δ tX ho _ hr hl _ _ _=>?_,fun o g x hx=>?_,fun o g b δ hb=>?_,fun g hg=>hmu g hg,fun o b δ hb=>?_,fun g e cs hg ho=>?_⟩
 ·have hlt:o<11:=(List.getElem?_eq_some_iff.1 ho).1
  match o,hlt with
  | 0,_=>
    cases ho
    refine⟨0,0,hmu 0 (by decide),_,_,hh0,Nat.le_refl _,fun j c hj=>?_,fun e=>by cases e⟩
    match j,hj with
    | 0,hj=>cases hj;exact⟨_,rfl,_,rfl,_,rfl,_,[],rfl,⟨10,0,hmu 10 (by decide),by simp⟩,rfl⟩
    | j+1,hj=>simp at hj
  | 1,_=>
    cases ho
    refine⟨1,0,hmu 1 (by decide),_,_,hh1,by rw [hs1];exact Nat.le_of_ble_eq_true rfl,fun j c hj=>?_,fun e=>by cases e⟩
    rw [←U2,List.getElem?_map,Option.map_eq_some_iff] at hj
    obtain⟨z,hz,rfl⟩:=hj
    refine⟨.int .u8 z,?_,rfl⟩
    rw [Nat.zero_add,←Array.getElem?_toList,hcs1,List.getElem?_map,hz];rfl
  | 2,_=>cases ho;cases hl
  | 3,_=>cases ho;cases hl
  | 4,_=>cases ho;cases hl
  | 5,_=>
    cases ho
    refine⟨5,0,hmu 5 (by decide),_,_,hh5,Nat.le_refl _,fun j c hj=>?_,fun e=>by cases e⟩
    match j,hj with
    | 0,hj=>cases hj;exact⟨_,rfl,v5,rfl,trivial⟩
    | j+1,hj=>simp at hj
  | 6,_=>
    cases ho
    refine⟨6,0,hmu 6 (by decide),_,_,hh6,by rw [hs6];exact Nat.le_of_ble_eq_true rfl,fun j c hj=>?_,fun e=>by cases e⟩
    rw [←pow_eq,List.getElem?_map,Option.map_eq_some_iff] at hj
    obtain⟨z,hz,rfl⟩:=hj
    refine⟨.int .u64 z,?_,rfl⟩
    rw [Nat.zero_add,←Array.getElem?_toList,hcs6,List.getElem?_map,hz];rfl
  | 7,_=>cases ho;cases hl
  | 8,_=>cases ho;cases hl
  | 9,_=>cases ho;cases hl
  | 10,_=>cases ho;cases hl
 ·rw [(jG Nq ho hl).1] at hr;cases hr
 ·obtain⟨h1,rfl,_⟩:=hinv hx
  exact⟨_,List.getElem?_eq_getElem (show o<11 from h1),Nat.zero_le _⟩
 ·obtain⟨h1,_,h3⟩:=hinv hb
  cases h3
  omega
 ·obtain⟨h1,_,h3⟩:=hinv hb
  cases h3;rfl
 ·match g,hg with
  | 0,_=>cases ho;rw [rZ hh0];rfl
  | 1,_=>cases ho;rw [rZ hh1,hs1];rfl
  | 2,_=>cases ho
  | 3,_=>cases ho
  | 4,_=>cases ho
  | 5,_=>cases ho;rw [rZ hh5];rfl
  | 6,_=>cases ho;rw [rZ hh6,hs6];rfl
  | 7,_=>cases ho
  | 8,_=>cases ho
  | 9,_=>cases ho
  | 10,_=>cases ho
end Go.Proofs.YthoodopjoaigdaaGreatDoor
