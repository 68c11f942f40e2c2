/- Texts of this claim, joined: Rd. -/
import Derived.Test.YtlkfbfhkcaldlaaGreatDoorM08
import Derived.Test.YtlkfbfhkcaldlaaGreatDoorRows
import Derived.ProofKit
import Derived.LaidMore
import Derived.LaidHandle
import Derived.Lib.LaidTab
import Derived.Stop.Joined
import Derived.OpenShut
set_option linter.unusedVariables false
set_option linter.unusedSimpArgs false
namespace Go.Proofs.YtlkfbfhkcaldlaaGreatDoor
open Go.ChangeShapes Go.WideShapes Go.ChangeAt Go.RowKit Go.Abs Go.Abs.YtlkfbfhkcaldlaaGreatDoor
set_option maxRecDepth 100000
theorem own:ownKnob Tryz.prog.godebug=none:=by kernel_rfl
theorem gAs:Tryz.prog.globalNamed "strings.asciiSpace" =some 0:=by kernel_rfl
theorem gPw:Tryz.prog.globalNamed "internal/strconv.uint64pow10" =some 5:=by kernel_rfl
theorem gEr:Tryz.prog.globalNamed "strconv.ErrRange" =some 4:=by kernel_rfl
theorem tAs:(Tryz.prog.globals[0]?).map (·.type)=some 152:=by kernel_rfl
theorem tPw:(Tryz.prog.globals[5]?).map (·.type)=some 209:=by kernel_rfl
theorem tEr:(Tryz.prog.globals[4]?).map (·.type)=some 34:=by kernel_rfl
theorem rAs:(((begin Tryz.prog (fun _ _=>0) default).world.heap[0]?).bind Obj.row?).map (fun x=>(x.1.size,x.2))=some (256,152):=by kernel_rfl
theorem rPw:(((begin Tryz.prog (fun _ _=>0) default).world.heap[5]?).bind Obj.row?).map (fun x=>(x.1.size,x.2))=some (20,209):=by kernel_rfl
theorem rEr:(((begin Tryz.prog (fun _ _=>0) default).world.heap[4]?).bind Obj.row?).map (fun x=>(x.1.size,x.2))=some (1,34):=by kernel_rfl
theorem P7:Tryz.prog.globals.size=9:=by kernel_rfl
theorem hsize:9<(begin Tryz.prog (fun _ _=>0) default).world.heap.size:=of_decide_eq_true (by kernel_rfl)
theorem uEr:∃ms,Tryz.prog.underlying 34=some (.interface ms):=⟨_,Tryz.underlying34⟩
theorem ptrName (u:TypeId)(hu:Tryz.prog.typeName? 3 u=some "*errors.errorString"):u=194:=
 typeName_ptr_named (P:=Tryz.prog) (nm:="errors.errorString") (by kernel_rfl) (by kernel_rfl) (by decide) u hu
def spZs:List Int:=[0,0,0,0,0,0,0,0,0,1,1,1,1,1,0,0,0,0,0,0,0,0,0,0,0,0,0,0,0,0,0,0,1,0,0,0,0,0,0,0,0,0,0,0,0,0,0,0,0,0,0,0,0,0,0,0,0,0,0,0,0,0,0,0,0,0,0,0,0,0,0,0,0,0,0,0,0,0,0,0,0,0,0,0,0,0,0,0,0,0,0,0,0,0,0,0,0,0,0,0,0,0,0,0,0,0,0,0,0,0,0,0,0,0,0,0,0,0,0,0,0,0,0,0,0,0,0,0,0,0,0,0,0,0,0,0,0,0,0,0,0,0,0,0,0,0,0,0,0,0,0,0,0,0,0,0,0,0,0,0,0,0,0,0,0,0,0,0,0,0,0,0,0,0,0,0,0,0,0,0,0,0,0,0,0,0,0,0,0,0,0,0,0,0,0,0,0,0,0,0,0,0,0,0,0,0,0,0,0,0,0,0,0,0,0,0,0,0,0,0,0,0,0,0,0,0,0,0,0,0,0,0,0,0,0,0,0,0,0,0,0,0,0,0,0,0,0,0,0,0,0,0,0,0,0,0]
theorem YT:(Rows.laid_strings_asciiSpace:DataW Unit)=Lib.tabData .u8 spZs:=by kernel_rfl
theorem YU:spZs.map (fun z=>AV.i .u8 z)=P6:=by rfl
theorem xM {P:Program} {w:World} (h:w.ShapedOpen P) {g t n:Nat} (hg:g<P.globals.size)(hr:(((begin P (fun _ _=>0) default).world.heap[g]?).bind Obj.row?).map (fun x=>(x.1.size,x.2))=some (n,t)):∃cs,w.heap[g]? =some (.cells cs t)/\cs.size=n/\(P.buildable t=true->Row.ok P w .any 0 t cs):=by
 rw [iU] at hr
 obtain⟨⟨zero,t'⟩,h1,h2⟩:=hr
 simp only [Prod.mk.injEq] at h2
 obtain⟨rfl,rfl⟩:=h2
 obtain⟨cs,h3,h4,h5⟩:=h.1 g zero t' hg h1
 exact⟨cs,h3,h4,h5⟩
def N8:List Int:=Go.Lib.pow10Tab
theorem YV:(Rows.laid_internal_strconv_uint64pow10:DataW Unit)=Lib.tabData .u64 N8:=by kernel_rfl
theorem pow_eq:N8.map (fun z=>AV.i .u64 z)=NK:=by rfl
theorem Ah {w:World} {b:Nat} {cs:Array Value} {t:TypeId} {fr:Nat×Nat} (h:w.heap[b]? =some (.cells cs t fr)):w.shape? b=some (t,cs.size):=by
 unfold World.shape?;rw [h]
structure Start (W:World):Prop where
 sp:∃cs,W.var? Tryz.prog "strings.asciiSpace" =some cs/\cs.toList=spZs.map fun z=>Value.int .u8 z
 pw:∃cs,W.var? Tryz.prog "internal/strconv.uint64pow10" =some cs/\cs.toList=N8.map fun z=>Value.int .u64 z
 er:∃v,W.var? Tryz.prog "strconv.ErrRange" =some #[.iface 194 v]
theorem UY {W:World} {l:List (String×DataW Unit)} (h:laidMet Tryz.prog l W)(m1:("strings.asciiSpace",Rows.laid_strings_asciiSpace)∈l)(m3:("internal/strconv.uint64pow10",Rows.laid_internal_strconv_uint64pow10)∈l)(m2:("strconv.ErrRange",Rows.laid_strconv_ErrRange)∈l):Start W:=by
 obtain⟨ps,hv,_⟩:=h
 refine⟨?_,?_,?_⟩
 ·obtain⟨g,t,cs,fuel,p,h1,h2,h3,h4⟩:=rH hv _ _ m1
  obtain rfl:=Option.some.inj (gAs.symm.trans h1)
  obtain rfl:=Option.some.inj (tAs.symm.trans h2)
  rw [YT] at h4
  exact⟨cs,h3,Lib.cells_of_tab Tryz.underlying152 Tryz.underlying5 (by kernel_rfl) (by kernel_rfl) h4⟩
 ·obtain⟨g,t,cs,fuel,p,h1,h2,h3,h4⟩:=rH hv _ _ m3
  obtain rfl:=Option.some.inj (gPw.symm.trans h1)
  obtain rfl:=Option.some.inj (tPw.symm.trans h2)
  rw [YV] at h4
  exact⟨cs,h3,Lib.cells_of_tab Tryz.underlying209 Tryz.underlying118 (by kernel_rfl) (by kernel_rfl) h4⟩
 ·obtain⟨g,t,cs,fuel,p,h1,h2,h3,h4⟩:=rH hv _ _ m2
  obtain rfl:=Option.some.inj (gEr.symm.trans h1)
  obtain rfl:=Option.some.inj (tEr.symm.trans h2)
  obtain⟨ms,hu⟩:=uEr
  obtain⟨f',u,v,hcs,hn,_⟩:=iface_of_trod hu (show DataW.trod (fun _=>()) Tryz.prog W 0 (fun _=>true) false fuel 34 cs.toList=some (.iface "*errors.errorString" _,p) from h4)
  obtain rfl:=ptrName u hn
  have hc:cs= #[.iface 194 v]:=Array.ext' hcs
  exact⟨v,by rw [h3,hc]⟩
theorem Rk {W:World} (hsh:W.ShapedOpen Tryz.prog)(h:Start W):g_ 10 (mu0 10) G0 W:=by
 obtain⟨c1,hh1,hs1,_⟩:=xM hsh (by rw [P7];decide) rAs
 obtain⟨c5,hh5,hs5,_⟩:=xM hsh (by rw [P7];decide) rEr
 obtain⟨c6,hh6,hs6,_⟩:=xM hsh (by rw [P7];decide) rPw
 have hmu:∀o,o<10->mu0 10 o 0=some (o,0):=fun o ho=>if_pos ⟨ho,rfl⟩
 have hinv:∀{o g x},mu0 10 o g=some x->o<10/\g=0/\x=(o,0):=by
  intro o g x hx
  unfold mu0 at hx
  split at hx
  ·rename_i hc;cases hx;exact⟨hc.1,hc.2,rfl⟩
  ·cases hx
 have hlast:9<W.heap.size:=N7 hsh (by rw [P7];exact Nat.le_refl _) hsize
 obtain⟨r1,hv1,hcs1⟩:=h.sp
 obtain⟨t1,f1,hw1⟩:=Eh gAs hv1
 rw [hh1] at hw1
 obtain⟨rfl,_,_⟩:c1=r1/\_/\_:=by injection (Option.some.inj hw1) with a b c;exact⟨a,b,c⟩
 obtain⟨v5,hv5⟩:=h.er
 obtain⟨t5,f5,hw5⟩:=Eh gEr hv5
 rw [hh5] at hw5
 obtain⟨rfl,_,_⟩:c5= #[.iface 194 v5]/\_/\_:=by injection (Option.some.inj hw5) with a b c;exact⟨a,b,c⟩
 obtain⟨r6,hv6,hcs6⟩:=h.pw
 obtain⟨t6,f6,hw6⟩:=Eh gPw hv6
 rw [hh6] at hw6
 obtain⟨rfl,_,_⟩:c6=r6/\_/\_:=by injection (Option.some.inj hw6) with a b c;exact⟨a,b,c⟩
 refine⟨fun o a ho hl=>?_,fun o o' a a' b δ wL ho _ hr hl _ _ _=>?_,fun o g x hx=>?_,fun o g b δ hb=>?_,fun g hg=>hmu g hg,fun o b δ hb=>?_,fun g e cs hg ho=>?_⟩
 ·have hlt:o<10:=(List.getElem?_eq_some_iff.1 ho).1
  match o,hlt with
  | 0,_=>
    cases ho
    refine⟨0,0,hmu 0 (by decide),_,_,hh1,by rw [hs1];exact aU rfl,fun j c hj=>?_,fun e=>by cases e⟩
    rw [<-YU,List.getElem?_map,iU] at hj
    obtain⟨z,hz,rfl⟩:=hj
    refine⟨.int .u8 z,?_,rfl⟩
    rw [Nat.zero_add,<-Array.getElem?_toList,hcs1,List.getElem?_map,hz];rfl
  | 1,_=>cases ho;cases hl
  | 2,_=>cases ho;cases hl
  | 3,_=>cases ho;cases hl
  | 4,_=>
    cases ho
    refine⟨4,0,hmu 4 (by decide),_,_,hh5,Nat.le_refl _,fun j c hj=>?_,fun e=>by cases e⟩
    match j,hj with
    | 0,hj=>cases hj;exact⟨_,rfl,v5,rfl,trivial⟩
    | j+1,hj=>simp at hj
  | 5,_=>
    cases ho
    refine⟨5,0,hmu 5 (by decide),_,_,hh6,by rw [hs6];exact aU rfl,fun j c hj=>?_,fun e=>by cases e⟩
    rw [<-pow_eq,List.getElem?_map,iU] at hj
    obtain⟨z,hz,rfl⟩:=hj
    refine⟨.int .u64 z,?_,rfl⟩
    rw [Nat.zero_add,<-Array.getElem?_toList,hcs6,List.getElem?_map,hz];rfl
  | 6,_=>cases ho;cases hl
  | 7,_=>cases ho;cases hl
  | 8,_=>cases ho;cases hl
  | 9,_=>cases ho;cases hl
 ·rw [(kF NZ ho hl).1] at hr;cases hr
 ·obtain⟨h1,rfl,_⟩:=hinv hx
  exact⟨_,sN (show o<10 from h1),Nat.zero_le _⟩
 ·obtain⟨h1,_,h3⟩:=hinv hb
  cases h3
  omega
 ·obtain⟨h1,_,h3⟩:=hinv hb
  cases h3;rfl
 ·match g,hg with
  | 0,_=>cases ho;rw [Ah hh1,hs1];rfl
  | 1,_=>cases ho
  | 2,_=>cases ho
  | 3,_=>cases ho
  | 4,_=>cases ho;rw [Ah hh5];rfl
  | 5,_=>cases ho;rw [Ah hh6,hs6];rfl
  | 6,_=>cases ho
  | 7,_=>cases ho
  | 8,_=>cases ho
  | 9,_=>cases ho
end Go.Proofs.YtlkfbfhkcaldlaaGreatDoor
