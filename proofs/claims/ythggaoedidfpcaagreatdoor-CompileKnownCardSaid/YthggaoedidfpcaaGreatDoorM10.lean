/- Texts of this claim, joined: Rd. -/
import Derived.Test.YthggaoedidfpcaaGreatDoorM09
import Derived.Test.YthggaoedidfpcaaGreatDoorRows
import Derived.ProofKit
import Derived.LaidMore
import Derived.LaidHandle
import Derived.Lib.LaidTab
import Derived.Stop.Joined
import Derived.OpenShut
set_option linter.unusedVariables false
set_option linter.unusedSimpArgs false
namespace Go.Proofs.YthggaoedidfpcaaGreatDoor
open Go.ChangeShapes Go.WideShapes Go.ChangeAt Go.RowKit Go.dX Go.dX.YthggaoedidfpcaaGreatDoor
set_option maxRecDepth 100000
theorem gRw:Tryz.prog.globalNamed "fallow/isa.rows" =some 6:=by kernel_rfl
theorem tRw:(Tryz.prog.globals[6]?).map (·.type)=some 284:=by kernel_rfl
theorem rRw:(((begin Tryz.prog (fun _ _=>0) default).world.heap[6]?).bind Obj.row?).map (fun x=>(x.1.size,x.2))=some (108,284):=by kernel_rfl
theorem gEs:Tryz.prog.globalNamed "strconv.ErrSyntax" =some 4:=by kernel_rfl
theorem tEs:(Tryz.prog.globals[4]?).map (·.type)=some 24:=by kernel_rfl
theorem rEs:(((begin Tryz.prog (fun _ _=>0) default).world.heap[4]?).bind Obj.row?).map (fun x=>(x.1.size,x.2))=some (1,24):=by kernel_rfl
theorem own:ownKnob Tryz.prog.godebug=none:=by kernel_rfl
theorem gEt:Tryz.prog.globalNamed "errors.errorType" =some 0:=by kernel_rfl
theorem gAs:Tryz.prog.globalNamed "strings.asciiSpace" =some 1:=by kernel_rfl
theorem gPw:Tryz.prog.globalNamed "internal/strconv.uint64pow10" =some 7:=by kernel_rfl
theorem gEr:Tryz.prog.globalNamed "strconv.ErrRange" =some 5:=by kernel_rfl
theorem tAs:(Tryz.prog.globals[1]?).map (·.type)=some 247:=by kernel_rfl
theorem tPw:(Tryz.prog.globals[7]?).map (·.type)=some 312:=by kernel_rfl
theorem tEr:(Tryz.prog.globals[5]?).map (·.type)=some 24:=by kernel_rfl
theorem rEt:(((begin Tryz.prog (fun _ _=>0) default).world.heap[0]?).bind Obj.row?).map (fun x=>(x.1.size,x.2))=some (1,73):=by kernel_rfl
theorem rAs:(((begin Tryz.prog (fun _ _=>0) default).world.heap[1]?).bind Obj.row?).map (fun x=>(x.1.size,x.2))=some (256,247):=by kernel_rfl
theorem rPw:(((begin Tryz.prog (fun _ _=>0) default).world.heap[7]?).bind Obj.row?).map (fun x=>(x.1.size,x.2))=some (20,312):=by kernel_rfl
theorem rEr:(((begin Tryz.prog (fun _ _=>0) default).world.heap[5]?).bind Obj.row?).map (fun x=>(x.1.size,x.2))=some (1,24):=by kernel_rfl
theorem CP:Tryz.prog.globals.size=11:=by kernel_rfl
theorem hsize:11<(begin Tryz.prog (fun _ _=>0) default).world.heap.size:=of_decide_eq_true (by kernel_rfl)
theorem rt:(Tryz.prog.cutTypes.find? (·.1 == "internal/reflectlite.rtype")).map (·.2)=some 117:=by kernel_rfl
theorem psize:Tryz.prog.types.size=352:=by kernel_rfl
theorem oneRow:((List.range 352).filter fun t=>Tryz.prog.rowNamed t [101,114,114,111,114])=[24]:=by kernel_rfl
theorem uEr:∃ms,Tryz.prog.underlying 24=some (.interface ms):=⟨_,Tryz.underlying24⟩
theorem ptrName (u:TypeId)(hu:Tryz.prog.typeName? 3 u=some "*errors.errorString"):u=296:=
 typeName_ptr_named (P:=Tryz.prog) (nm:="errors.errorString") (by kernel_rfl) (by kernel_rfl) (by decide) u hu
def spZs:List Int:=[0,0,0,0,0,0,0,0,0,1,1,1,1,1,0,0,0,0,0,0,0,0,0,0,0,0,0,0,0,0,0,0,1,0,0,0,0,0,0,0,0,0,0,0,0,0,0,0,0,0,0,0,0,0,0,0,0,0,0,0,0,0,0,0,0,0,0,0,0,0,0,0,0,0,0,0,0,0,0,0,0,0,0,0,0,0,0,0,0,0,0,0,0,0,0,0,0,0,0,0,0,0,0,0,0,0,0,0,0,0,0,0,0,0,0,0,0,0,0,0,0,0,0,0,0,0,0,0,0,0,0,0,0,0,0,0,0,0,0,0,0,0,0,0,0,0,0,0,0,0,0,0,0,0,0,0,0,0,0,0,0,0,0,0,0,0,0,0,0,0,0,0,0,0,0,0,0,0,0,0,0,0,0,0,0,0,0,0,0,0,0,0,0,0,0,0,0,0,0,0,0,0,0,0,0,0,0,0,0,0,0,0,0,0,0,0,0,0,0,0,0,0,0,0,0,0,0,0,0,0,0,0,0,0,0,0,0,0,0,0,0,0,0,0,0,0,0,0,0,0,0,0,0,0,0,0]
theorem sp_data:(Rows.laid_strings_asciiSpace:DataW Unit)=Lib.tabData .u8 spZs:=by kernel_rfl
theorem spZs_eq:spZs.map (fun z=>AV.i .u8 z)=NU:=by rfl
theorem lM {P:Program} {w:World} (h:w.ShapedOpen P) {g t n:Nat} (hg:g<P.globals.size)(hr:(((begin P (fun _ _=>0) default).world.heap[g]?).bind Obj.row?).map (fun x=>(x.1.size,x.2))=some (n,t)):∃cs,w.heap[g]? =some (.cells cs t)∧cs.size=n∧(P.buildable t=true→Row.ok P w .any 0 t cs):=by
 rw [Option.map_eq_some_iff] at hr
 obtain⟨⟨zero,t'⟩,h1,h2⟩:=hr
 simp only [Prod.mk.injEq] at h2
 obtain⟨rfl,rfl⟩:=h2
 obtain⟨cs,h3,h4,h5⟩:=h.1 g zero t' hg h1
 exact⟨cs,h3,h4,h5⟩
def UU (r:List UInt8×List UInt8):DataW Unit:=.agg [.lit (.string r.1),.lit (.string r.2)]
def Qe (r:List UInt8×List UInt8):List Value:=[.string ⟨r.1.toArray⟩,.string ⟨r.2.toArray⟩]
theorem Qg {w:World} {base fuel:Nat} {sp:Nat→Bool} {held:Bool} {enc:TypeId×Value→Unit} {cs:List Value} {r:List UInt8×List UInt8} {p:List MemPlace}
 (h:DataW.trod enc Tryz.prog w base sp held fuel 266 cs=some (UU r,p)):cs=Qe r:=by
 obtain⟨xs,n,rfl,hx,hl,hs,ha⟩:=DataW.trod_struct Tryz.underlying266 h
 have hl2:cs.length=2:=hl.trans (by kernel_rfl)
 have h0:=ha 0 _ rfl
 have h1:=ha 1 _ rfl
 have hm:xs.map (·.1)=[.lit (.string r.1),.lit (.string r.2)]:=by
  have:=congrArg Prod.fst hx
  exact(DataW.agg.inj this).symm
 match xs,hm with
 | [y0,y1],hm=>
   simp only [List.map_cons,List.map_nil,List.cons.injEq,and_true] at hm
   obtain⟨m0,m1⟩:=hm
   obtain⟨s0,c0,e0,_⟩:=DataW.trod_string Tryz.underlying9 h0
   obtain⟨s1,c1,e1,_⟩:=DataW.trod_string Tryz.underlying9 h1
   match cs,hl2 with
   | [v0,v1],_=>
     have c0': [v0]=[Value.string s0]:=c0
     have c1': [v1]=[Value.string s1]:=c1
     cases c0';cases c1'
     rw [e0] at m0;rw [e1] at m1
     injection m0 with m0;injection m0 with m0
     injection m1 with m1;injection m1 with m1
     unfold Qe
     rw [←m0,←m1]
theorem L6 {w:World} {base fuel:Nat} {sp:Nat→Bool} {held:Bool} {enc:TypeId×Value→Unit} {cs:List Value} {p:List MemPlace}
 (h:DataW.trod enc Tryz.prog w base sp held fuel 284 cs=some (.agg (tq.map UU),p)):cs=tq.flatMap Qe:=by
 obtain⟨xs,n,rfl,hx,hl,hs,ha⟩:=DataW.trod_array Tryz.underlying284 h
 have hl2:cs.length=108:=hl.trans (by kernel_rfl)
 have hm:xs.map (·.1)=tq.map UU:=by
  have:=congrArg Prod.fst hx
  exact(DataW.agg.inj this).symm
 have key:∀(rs:List (List UInt8×List UInt8)) (k:Nat),k+rs.length=54→(xs.drop k).map (·.1)=rs.map UU→cs.drop (k*2)=rs.flatMap Qe:=by
  intro rs
  induction rs with
  | nil=>intro k hk _;rw [List.drop_of_length_le (by simp at hk;omega)];rfl
  | cons r rs ih=>
    intro k hk hmk
    simp only [List.length_cons] at hk
    have hkl:k<xs.length:=by omega
    rw [List.drop_eq_getElem_cons hkl,List.map_cons,List.map_cons] at hmk
    obtain⟨q1,q2⟩:=List.cons.inj hmk
    have h1:=ha k (by omega)
    rw [List.getElem?_eq_getElem hkl] at h1
    have h2:=Qg (p:=xs[k].2) (h1.trans (by rw [←q1]))
    have hc2:Tryz.prog.cellsOf 266=2:=by kernel_rfl
    rw [hc2] at h2
    have h3:=ih (k+1) (by omega) q2
    rw [List.flatMap_cons,←h2,←h3]
    rw [show (k+1)*2=k*2+2 by omega,←List.drop_drop]
    exact(List.take_append_drop 2 _).symm
 have:=key tq 0 (by decide) (by rw [List.drop_zero];exact hm)
 simpa using this
theorem rw_data:(Rows.laid_fallow_isa_rows:DataW Unit)= .agg (tq.map UU):=by kernel_rfl
theorem NV {μ:Mu} {w:World} :∀(rs:List (List UInt8×List UInt8)) (j:Nat) (c:AV),(rs.flatMap fun r:List UInt8×List UInt8=>[AV.s r.1,AV.s r.2])[j]? =some c→∃v,(rs.flatMap Qe)[j]? =some v∧aV μ w c v
 | [],j,c,h=>by simp at h
 | r :: rs,0,c,h=>by cases h;exact⟨_,rfl,rfl⟩
 | r :: rs,1,c,h=>by cases h;exact⟨_,rfl,rfl⟩
 | r :: rs,j+2,c,h=>NV rs j c h
def L8:List Int:=Go.Lib.pow10Tab
theorem pw_data:(Rows.laid_internal_strconv_uint64pow10:DataW Unit)=Lib.tabData .u64 L8:=by kernel_rfl
theorem pow_eq:L8.map (fun z=>AV.i .u64 z)=UR:=by rfl
theorem ny {w:World} {b:Nat} {cs:Array Value} {t:TypeId} {fr:Nat×Nat} (h:w.heap[b]? =some (.cells cs t fr)):w.shape? b=some (t,cs.size):=by
 unfold World.shape?;rw [h]
structure Start (W:World):Prop where
 et:W.var? Tryz.prog "errors.errorType" =some #[.iface 117 (.agg #[.pointer (some ⟨11,24,none⟩)])]
 sp:∃cs,W.var? Tryz.prog "strings.asciiSpace" =some cs∧cs.toList=spZs.map fun z=>Value.int .u8 z
 pw:∃cs,W.var? Tryz.prog "internal/strconv.uint64pow10" =some cs∧cs.toList=L8.map fun z=>Value.int .u64 z
 er:∃v,W.var? Tryz.prog "strconv.ErrRange" =some #[.iface 296 v]
 es:∃v,W.var? Tryz.prog "strconv.ErrSyntax" =some #[.iface 296 v]
 rw_:∃cs,W.var? Tryz.prog "fallow/isa.rows" =some cs∧cs.toList=tq.flatMap Qe
theorem UW {W:World} {l:List (String×DataW Unit)} (h:laidMet Tryz.prog l W)(hh:handlesMet Tryz.prog [("errors.errorType",Rows.laid_errors_errorType)] W)(m1:("strings.asciiSpace",Rows.laid_strings_asciiSpace)∈l)(m3:("internal/strconv.uint64pow10",Rows.laid_internal_strconv_uint64pow10)∈l)(m2:("strconv.ErrRange",Rows.laid_strconv_ErrRange)∈l)(m4:("strconv.ErrSyntax",Rows.laid_strconv_ErrSyntax)∈l)(m5:("fallow/isa.rows",Rows.laid_fallow_isa_rows)∈l):Start W:=by
 obtain⟨ps,hv,_⟩:=h
 refine⟨?_,?_,?_,?_,?_,?_⟩
 ·obtain⟨name,u,ty,e1,e2,e3,e4,e5⟩:=hh _ (List.mem_singleton.2 rfl)
  have en:name=[101,114,114,111,114]:=(Option.some.inj e1).symm
  subst en
  obtain rfl:=Option.some.inj (rt.symm.trans e2)
  have hm:ty∈(List.range 352).filter fun t=>Tryz.prog.rowNamed t [101,114,114,111,114]:=List.mem_filter.2 ⟨List.mem_range.2 (by rw [←psize];exact e3),e4⟩
  rw [oneRow] at hm
  obtain rfl:=List.mem_singleton.1 hm
  have hh:typeHandle Tryz.prog 24= .pointer (some ⟨11,24,none⟩):=by kernel_rfl
  rw [hh] at e5
  exact e5
 ·obtain⟨g,t,cs,fuel,p,h1,h2,h3,h4⟩:=lK hv _ _ m1
  obtain rfl:=Option.some.inj (gAs.symm.trans h1)
  obtain rfl:=Option.some.inj (tAs.symm.trans h2)
  rw [sp_data] at h4
  exact⟨cs,h3,Lib.cells_of_tab Tryz.underlying247 Tryz.underlying5 (by kernel_rfl) (by kernel_rfl) h4⟩
 ·obtain⟨g,t,cs,fuel,p,h1,h2,h3,h4⟩:=lK hv _ _ m3
  obtain rfl:=Option.some.inj (gPw.symm.trans h1)
  obtain rfl:=Option.some.inj (tPw.symm.trans h2)
  rw [pw_data] at h4
  exact⟨cs,h3,Lib.cells_of_tab Tryz.underlying312 Tryz.underlying165 (by kernel_rfl) (by kernel_rfl) h4⟩
 ·obtain⟨g,t,cs,fuel,p,h1,h2,h3,h4⟩:=lK hv _ _ m2
  obtain rfl:=Option.some.inj (gEr.symm.trans h1)
  obtain rfl:=Option.some.inj (tEr.symm.trans h2)
  obtain⟨ms,hu⟩:=uEr
  obtain⟨f',u,v,hcs,hn,_⟩:=iface_of_trod hu (show DataW.trod (fun _=>()) Tryz.prog W 0 (fun _=>true) false fuel 24 cs.toList=some (.iface "*errors.errorString" _,p) from h4)
  obtain rfl:=ptrName u hn
  have hc:cs= #[.iface 296 v]:=Array.ext' hcs
  exact⟨v,by rw [h3,hc]⟩
 ·obtain⟨g,t,cs,fuel,p,h1,h2,h3,h4⟩:=lK hv _ _ m4
  obtain rfl:=Option.some.inj (gEs.symm.trans h1)
  obtain rfl:=Option.some.inj (tEs.symm.trans h2)
  obtain⟨ms,hu⟩:=uEr
  obtain⟨f',u,v,hcs,hn,_⟩:=iface_of_trod hu (show DataW.trod (fun _=>()) Tryz.prog W 0 (fun _=>true) false fuel 24 cs.toList=some (.iface "*errors.errorString" _,p) from h4)
  obtain rfl:=ptrName u hn
  have hc:cs= #[.iface 296 v]:=Array.ext' hcs
  exact⟨v,by rw [h3,hc]⟩
 ·obtain⟨g,t,cs,fuel,p,h1,h2,h3,h4⟩:=lK hv _ _ m5
  obtain rfl:=Option.some.inj (gRw.symm.trans h1)
  obtain rfl:=Option.some.inj (tRw.symm.trans h2)
  rw [rw_data] at h4
  exact⟨cs,h3,L6 h4⟩
theorem Qh {W:World} (hsh:W.ShapedOpen Tryz.prog)(h:Start W):gQ 12 (mu0 12) G0 W:=by
 obtain⟨c0,hh0,hs0,_⟩:=lM hsh (by rw [CP];decide) rEt
 obtain⟨c1,hh1,hs1,_⟩:=lM hsh (by rw [CP];decide) rAs
 obtain⟨c5,hh5,hs5,_⟩:=lM hsh (by rw [CP];decide) rEr
 obtain⟨c7,hh7,hs7,_⟩:=lM hsh (by rw [CP];decide) rPw
 obtain⟨c4,hh4,hs4,_⟩:=lM hsh (by rw [CP];decide) rEs
 obtain⟨c6,hh6,hs6,_⟩:=lM hsh (by rw [CP];decide) rRw
 have hmu:∀o,o<12→mu0 12 o 0=some (o,0):=fun o ho=>if_pos ⟨ho,rfl⟩
 have hinv:∀{o g x},mu0 12 o g=some x→o<12∧g=0∧x=(o,0):=by
  intro o g x hx
  unfold mu0 at hx
  split at hx
  ·rename_i hc;cases hx;exact⟨hc.1,hc.2,rfl⟩
  ·cases hx
 have hlast:11<W.heap.size:=LZ hsh (by rw [CP];exact Nat.le_refl _) hsize
 obtain⟨t0,f0,hw0⟩:=qx gEt h.et
 rw [hh0] at hw0
 obtain⟨rfl,_,_⟩:c0= #[.iface 117 (.agg #[.pointer (some ⟨11,24,none⟩)])]∧_∧_:=by injection (Option.some.inj hw0) with a b c;exact⟨a,b,c⟩
 obtain⟨r1,hv1,hcs1⟩:=h.sp
 obtain⟨t1,f1,hw1⟩:=qx gAs hv1
 rw [hh1] at hw1
 obtain⟨rfl,_,_⟩:c1=r1∧_∧_:=by injection (Option.some.inj hw1) with a b c;exact⟨a,b,c⟩
 obtain⟨v5,hv5⟩:=h.er
 obtain⟨t5,f5,hw5⟩:=qx gEr hv5
 rw [hh5] at hw5
 obtain⟨rfl,_,_⟩:c5= #[.iface 296 v5]∧_∧_:=by injection (Option.some.inj hw5) with a b c;exact⟨a,b,c⟩
 obtain⟨r7,hv7,hcs7⟩:=h.pw
 obtain⟨t7,f7,hw7⟩:=qx gPw hv7
 rw [hh7] at hw7
 obtain⟨rfl,_,_⟩:c7=r7∧_∧_:=by injection (Option.some.inj hw7) with a b c;exact⟨a,b,c⟩
 obtain⟨v4,hv4⟩:=h.es
 obtain⟨t4,f4,hw4⟩:=qx gEs hv4
 rw [hh4] at hw4
 obtain⟨rfl,_,_⟩:c4= #[.iface 296 v4]∧_∧_:=by injection (Option.some.inj hw4) with a b c;exact⟨a,b,c⟩
 obtain⟨r6,hv6,hcs6⟩:=h.rw_
 obtain⟨t6,f6,hw6⟩:=qx gRw hv6
 rw [hh6] at hw6
 obtain⟨rfl,_,_⟩:c6=r6∧_∧_:=by injection (Option.some.inj hw6) with a b c;exact⟨a,b,c⟩
 refine⟨fun o a ho hl=>?_,fun o o' a a' b δ yZ ho _ hr hl _ _ _=>?_,fun o g x hx=>?_,fun o g b δ hb=>?_,fun g hg=>hmu g hg,fun o b δ hb=>?_,fun g e cs hg ho=>?_⟩
 ·have hlt:o<12:=(List.getElem?_eq_some_iff.1 ho).1
  match o,hlt with
  | 0,_=>
    cases ho
    refine⟨0,0,hmu 0 (by decide),_,_,hh0,Nat.le_refl _,fun j c hj=>?_,fun e=>by cases e⟩
    match j,hj with
    | 0,hj=>cases hj;exact⟨_,rfl,_,rfl,_,rfl,_,[],rfl,⟨11,0,hmu 11 (by decide),by simp⟩,rfl⟩
    | j+1,hj=>simp at hj
  | 1,_=>
    cases ho
    refine⟨1,0,hmu 1 (by decide),_,_,hh1,by rw [hs1];exact Nat.le_of_ble_eq_true rfl,fun j c hj=>?_,fun e=>by cases e⟩
    rw [←spZs_eq,List.getElem?_map,Option.map_eq_some_iff] at hj
    obtain⟨z,hz,rfl⟩:=hj
    refine⟨.int .u8 z,?_,rfl⟩
    rw [Nat.zero_add,←Array.getElem?_toList,hcs1,List.getElem?_map,hz];rfl
  | 2,_=>cases ho;cases hl
  | 3,_=>cases ho;cases hl
  | 4,_=>
    cases ho
    refine⟨4,0,hmu 4 (by decide),_,_,hh4,Nat.le_refl _,fun j c hj=>?_,fun e=>by cases e⟩
    match j,hj with
    | 0,hj=>cases hj;exact⟨_,rfl,v4,rfl,trivial⟩
    | j+1,hj=>simp at hj
  | 5,_=>
    cases ho
    refine⟨5,0,hmu 5 (by decide),_,_,hh5,Nat.le_refl _,fun j c hj=>?_,fun e=>by cases e⟩
    match j,hj with
    | 0,hj=>cases hj;exact⟨_,rfl,v5,rfl,trivial⟩
    | j+1,hj=>simp at hj
  | 6,_=>
    cases ho
    refine⟨6,0,hmu 6 (by decide),_,_,hh6,by rw [hs6];decide,fun j c hj=>?_,fun e=>by cases e⟩
    obtain⟨v,q1,q2⟩:=NV tq j c hj
    exact⟨v,by rw [Nat.zero_add,←Array.getElem?_toList,hcs6];exact q1,q2⟩
  | 7,_=>
    cases ho
    refine⟨7,0,hmu 7 (by decide),_,_,hh7,by rw [hs7];exact Nat.le_of_ble_eq_true rfl,fun j c hj=>?_,fun e=>by cases e⟩
    rw [←pow_eq,List.getElem?_map,Option.map_eq_some_iff] at hj
    obtain⟨z,hz,rfl⟩:=hj
    refine⟨.int .u64 z,?_,rfl⟩
    rw [Nat.zero_add,←Array.getElem?_toList,hcs7,List.getElem?_map,hz];rfl
  | 8,_=>cases ho;cases hl
  | 9,_=>cases ho;cases hl
  | 10,_=>cases ho;cases hl
  | 11,_=>cases ho;cases hl
 ·rw [(uI okG0 ho hl).1] at hr;cases hr
 ·obtain⟨h1,rfl,_⟩:=hinv hx
  exact⟨_,List.getElem?_eq_getElem (show o<12 from h1),Nat.zero_le _⟩
 ·obtain⟨h1,_,h3⟩:=hinv hb
  cases h3
  omega
 ·obtain⟨h1,_,h3⟩:=hinv hb
  cases h3;rfl
 ·match g,hg with
  | 0,_=>cases ho;rw [ny hh0];rfl
  | 1,_=>cases ho;rw [ny hh1,hs1];rfl
  | 2,_=>cases ho
  | 3,_=>cases ho
  | 4,_=>cases ho;rw [ny hh4];rfl
  | 5,_=>cases ho;rw [ny hh5];rfl
  | 6,_=>cases ho;rw [ny hh6,hs6];rfl
  | 7,_=>cases ho;rw [ny hh7,hs7];rfl
  | 8,_=>cases ho
  | 9,_=>cases ho
  | 10,_=>cases ho
  | 11,_=>cases ho
end Go.Proofs.YthggaoedidfpcaaGreatDoor
