/- Texts of this claim, joined: Rd. -/
import Derived.Test.YtnbdedokjfpckaaGreatDoorM09
import Derived.Test.YtnbdedokjfpckaaGreatDoorRows
import Derived.ProofKit
import Derived.LaidMore
import Derived.LaidHandle
import Derived.Lib.LaidTab
import Derived.Stop.Joined
import Derived.OpenShut
set_option linter.unusedVariables false
set_option linter.unusedSimpArgs false
namespace Go.Proofs.YtnbdedokjfpckaaGreatDoor
open Go.ChangeShapes Go.WideShapes Go.ChangeAt Go.RowKit Go.cO Go.cO.YtnbdedokjfpckaaGreatDoor
set_option maxRecDepth 100000
theorem own:ownKnob Tryz.prog.godebug=none:=by kernel_rfl
theorem gRw:Tryz.prog.globalNamed "fallow/isa.rows" =some 0:=by kernel_rfl
theorem gPw:Tryz.prog.globalNamed "internal/strconv.uint64pow10" =some 6:=by kernel_rfl
theorem gEs:Tryz.prog.globalNamed "strconv.ErrSyntax" =some 4:=by kernel_rfl
theorem tRw:(Tryz.prog.globals[0]?).map (·.type)=some 225:=by kernel_rfl
theorem tPw:(Tryz.prog.globals[6]?).map (·.type)=some 290:=by kernel_rfl
theorem tEs:(Tryz.prog.globals[4]?).map (·.type)=some 66:=by kernel_rfl
theorem rRw:(((begin Tryz.prog (fun _ _=>0) default).world.heap[0]?).bind Obj.row?).map (fun x=>(x.1.size,x.2))=some (108,225):=by kernel_rfl
theorem rPw:(((begin Tryz.prog (fun _ _=>0) default).world.heap[6]?).bind Obj.row?).map (fun x=>(x.1.size,x.2))=some (20,290):=by kernel_rfl
theorem rEs:(((begin Tryz.prog (fun _ _=>0) default).world.heap[4]?).bind Obj.row?).map (fun x=>(x.1.size,x.2))=some (1,66):=by kernel_rfl
theorem JG:Tryz.prog.globals.size=9:=by kernel_rfl
theorem hsize:9<(begin Tryz.prog (fun _ _=>0) default).world.heap.size:=of_decide_eq_true (by kernel_rfl)
theorem uEr:∃ms,Tryz.prog.underlying 66=some (.interface ms):=⟨_,Tryz.underlying66⟩
theorem ptrName (u:TypeId)(hu:Tryz.prog.typeName? 3 u=some "*errors.errorString"):u=294:=
 typeName_ptr_named (P:=Tryz.prog) (nm:="errors.errorString") (by kernel_rfl) (by kernel_rfl) (by decide) u hu
theorem rM {P:Program} {w:World} (h:w.ShapedOpen P) {g t n:Nat} (hg:g<P.globals.size)(hr:(((begin P (fun _ _=>0) default).world.heap[g]?).bind Obj.row?).map (fun x=>(x.1.size,x.2))=some (n,t)):∃cs,w.heap[g]? =some (.cells cs t)∧cs.size=n∧(P.buildable t=true→Row.ok P w .any 0 t cs):=by
 rw [Option.map_eq_some_iff] at hr
 obtain⟨⟨zero,t'⟩,h1,h2⟩:=hr
 simp only [Prod.mk.injEq] at h2
 obtain⟨rfl,rfl⟩:=h2
 obtain⟨cs,h3,h4,h5⟩:=h.1 g zero t' hg h1
 exact⟨cs,h3,h4,h5⟩
def Po (r:List UInt8×List UInt8):DataW Unit:=.agg [.lit (.string r.1),.lit (.string r.2)]
def LX (r:List UInt8×List UInt8):List Value:=[.string ⟨r.1.toArray⟩,.string ⟨r.2.toArray⟩]
theorem LY {w:World} {base fuel:Nat} {sp:Nat→Bool} {held:Bool} {enc:TypeId×Value→Unit} {cs:List Value} {r:List UInt8×List UInt8} {p:List MemPlace}
 (h:DataW.trod enc Tryz.prog w base sp held fuel 224 cs=some (Po r,p)):cs=LX r:=by
 obtain⟨xs,n,rfl,hx,hl,hs,ha⟩:=DataW.trod_struct Tryz.underlying224 h
 have hl2:cs.length=2:=hl.trans (by kernel_rfl)
 have h0:=ha 0 _ rfl
 have h1:=ha 1 _ rfl
 have hm:xs.map (·.1)=[.lit (.string r.1),.lit (.string r.2)]:=by
  have:=congrArg Prod.fst hx
  exact(DataW.agg.inj this).symm
 match xs,hm with
 | [y0,y1],hm=>
   simp only [List.map_cons,List.map_nil,List.cons.injEq,and_true] at hm
   obtain⟨m0,m1⟩:=hm
   obtain⟨s0,c0,e0,_⟩:=DataW.trod_string Tryz.underlying9 h0
   obtain⟨s1,c1,e1,_⟩:=DataW.trod_string Tryz.underlying9 h1
   match cs,hl2 with
   | [v0,v1],_=>
     have c0': [v0]=[Value.string s0]:=c0
     have c1': [v1]=[Value.string s1]:=c1
     cases c0';cases c1'
     rw [e0] at m0;rw [e1] at m1
     injection m0 with m0;injection m0 with m0
     injection m1 with m1;injection m1 with m1
     unfold LX
     rw [←m0,←m1]
theorem Ij {w:World} {base fuel:Nat} {sp:Nat→Bool} {held:Bool} {enc:TypeId×Value→Unit} {cs:List Value} {p:List MemPlace}
 (h:DataW.trod enc Tryz.prog w base sp held fuel 225 cs=some (.agg (pY.map Po),p)):cs=pY.flatMap LX:=by
 obtain⟨xs,n,rfl,hx,hl,hs,ha⟩:=DataW.trod_array Tryz.underlying225 h
 have hl2:cs.length=108:=hl.trans (by kernel_rfl)
 have hm:xs.map (·.1)=pY.map Po:=by
  have:=congrArg Prod.fst hx
  exact(DataW.agg.inj this).symm
 have key:∀(rs:List (List UInt8×List UInt8)) (k:Nat),k+rs.length=54→(xs.drop k).map (·.1)=rs.map Po→cs.drop (k*2)=rs.flatMap LX:=by
  intro rs
  induction rs with
  | nil=>intro k hk _;rw [List.drop_of_length_le (by simp at hk;omega)];rfl
  | cons r rs ih=>
    intro k hk hmk
    simp only [List.length_cons] at hk
    have hkl:k<xs.length:=by omega
    rw [List.drop_eq_getElem_cons hkl,List.map_cons,List.map_cons] at hmk
    obtain⟨q1,q2⟩:=List.cons.inj hmk
    have h1:=ha k (by omega)
    rw [List.getElem?_eq_getElem hkl] at h1
    have h2:=LY (p:=xs[k].2) (h1.trans (by rw [←q1]))
    have hc2:Tryz.prog.cellsOf 224=2:=by kernel_rfl
    rw [hc2] at h2
    have h3:=ih (k+1) (by omega) q2
    rw [List.flatMap_cons,←h2,←h3]
    rw [show (k+1)*2=k*2+2 by omega,←List.drop_drop]
    exact(List.take_append_drop 2 _).symm
 have:=key pY 0 (by decide) (by rw [List.drop_zero];exact hm)
 simpa using this
def Ik:List Int:=Go.Lib.pow10Tab
theorem WI:(Rows.laid_fallow_isa_rows:DataW Unit)= .agg (pY.map Po):=by kernel_rfl
theorem WJ:(Rows.laid_internal_strconv_uint64pow10:DataW Unit)=Lib.tabData .u64 Ik:=by kernel_rfl
theorem pow_eq:Ik.map (fun z=>AV.i .u64 z)=Pm:=by rfl
structure Start (W:World):Prop where
 rw_:∃cs,W.var? Tryz.prog "fallow/isa.rows" =some cs∧cs.toList=pY.flatMap LX
 pw:∃cs,W.var? Tryz.prog "internal/strconv.uint64pow10" =some cs∧cs.toList=Ik.map fun z=>Value.int .u64 z
 es:∃v,W.var? Tryz.prog "strconv.ErrSyntax" =some #[.iface 294 v]
theorem Pq {W:World} {l:List (String×DataW Unit)} (h:laidMet Tryz.prog l W)(m0:("fallow/isa.rows",Rows.laid_fallow_isa_rows)∈l)(m1:("internal/strconv.uint64pow10",Rows.laid_internal_strconv_uint64pow10)∈l)(m3:("strconv.ErrSyntax",Rows.laid_strconv_ErrSyntax)∈l):Start W:=by
 obtain⟨ps,hv,_⟩:=h
 refine⟨?_,?_,?_⟩
 ·obtain⟨g,t,cs,fuel,p,h1,h2,h3,h4⟩:=oN hv _ _ m0
  obtain rfl:=Option.some.inj (gRw.symm.trans h1)
  obtain rfl:=Option.some.inj (tRw.symm.trans h2)
  rw [WI] at h4
  exact⟨cs,h3,Ij h4⟩
 ·obtain⟨g,t,cs,fuel,p,h1,h2,h3,h4⟩:=oN hv _ _ m1
  obtain rfl:=Option.some.inj (gPw.symm.trans h1)
  obtain rfl:=Option.some.inj (tPw.symm.trans h2)
  rw [WJ] at h4
  exact⟨cs,h3,Lib.cells_of_tab Tryz.underlying290 Tryz.underlying39 (by kernel_rfl) (by kernel_rfl) h4⟩
 ·obtain⟨g,t,cs,fuel,p,h1,h2,h3,h4⟩:=oN hv _ _ m3
  obtain rfl:=Option.some.inj (gEs.symm.trans h1)
  obtain rfl:=Option.some.inj (tEs.symm.trans h2)
  obtain⟨ms,hu⟩:=uEr
  obtain⟨f',u,v,hcs,hn,_⟩:=iface_of_trod hu (show DataW.trod (fun _=>()) Tryz.prog W 0 (fun _=>true) false fuel 66 cs.toList=some (.iface "*errors.errorString" _,p) from h4)
  obtain rfl:=ptrName u hn
  have hc:cs= #[.iface 294 v]:=Array.ext' hcs
  exact⟨v,by rw [h3,hc]⟩
theorem JH {μ:Mu} {w:World} :∀(rs:List (List UInt8×List UInt8)) (j:Nat) (c:AV),(rs.flatMap fun r:List UInt8×List UInt8=>[AV.s r.1,AV.s r.2])[j]? =some c→∃v,(rs.flatMap LX)[j]? =some v∧aJ μ w c v
 | [],j,c,h=>by simp at h
 | r :: rs,0,c,h=>by cases h;exact⟨_,rfl,rfl⟩
 | r :: rs,1,c,h=>by cases h;exact⟨_,rfl,rfl⟩
 | r :: rs,j+2,c,h=>JH rs j c h
theorem zA {w:World} {b:Nat} {cs:Array Value} {t:TypeId} {fr:Nat×Nat} (h:w.heap[b]? =some (.cells cs t fr)):w.shape? b=some (t,cs.size):=by
 unfold World.shape?;rw [h]
theorem LZ {W:World} (hsh:W.ShapedOpen Tryz.prog)(h:Start W):fH 10 (mu0 10) G0 W:=by
 obtain⟨c0,hh0,hs0,_⟩:=rM hsh (by rw [JG];decide) rRw
 obtain⟨c4,hh4,hs4,_⟩:=rM hsh (by rw [JG];decide) rEs
 obtain⟨c6,hh6,hs6,_⟩:=rM hsh (by rw [JG];decide) rPw
 have hmu:∀o,o<10→mu0 10 o 0=some (o,0):=fun o ho=>if_pos ⟨ho,rfl⟩
 have hinv:∀{o g x},mu0 10 o g=some x→o<10∧g=0∧x=(o,0):=by
  intro o g x hx
  unfold mu0 at hx
  split at hx
  ·rename_i hc;cases hx;exact⟨hc.1,hc.2,rfl⟩
  ·cases hx
 have hlast:9<W.heap.size:=Ii hsh (by rw [JG];exact Nat.le_refl _) hsize
 obtain⟨r0,hv0,hcs0⟩:=h.rw_
 obtain⟨t0,f0,hw0⟩:=zy gRw hv0
 rw [hh0] at hw0
 obtain⟨rfl,_,_⟩:c0=r0∧_∧_:=by injection (Option.some.inj hw0) with a b c;exact⟨a,b,c⟩
 obtain⟨r6,hv6,hcs6⟩:=h.pw
 obtain⟨t6,f6,hw6⟩:=zy gPw hv6
 rw [hh6] at hw6
 obtain⟨rfl,_,_⟩:c6=r6∧_∧_:=by injection (Option.some.inj hw6) with a b c;exact⟨a,b,c⟩
 obtain⟨v4,hv4⟩:=h.es
 obtain⟨t4,f4,hw4⟩:=zy gEs hv4
 rw [hh4] at hw4
 obtain⟨rfl,_,_⟩:c4= #[.iface 294 v4]∧_∧_:=by injection (Option.some.inj hw4) with a b c;exact⟨a,b,c⟩
 have hok:=Pn
 refine⟨fun o a ho hl=>?_,fun o o' a a' b δ uV ho _ hr hl _ _ _=>?_,fun o g x hx=>?_,fun o g b δ hb=>?_,fun g hg=>hmu g hg,fun o b δ hb=>?_,fun g e cs hg ho=>?_⟩
 ·have hlt:o<10:=(List.getElem?_eq_some_iff.1 ho).1
  match o,hlt with
  | 0,_=>
    cases ho
    refine⟨0,0,hmu 0 (by decide),_,_,hh0,by rw [hs0];decide,fun j c hj=>?_,fun e=>by cases e⟩
    obtain⟨v,q1,q2⟩:=JH pY j c hj
    exact⟨v,by rw [Nat.zero_add,←Array.getElem?_toList,hcs0];exact q1,q2⟩
  | 1,_=>cases ho;cases hl
  | 2,_=>cases ho;cases hl
  | 3,_=>cases ho;cases hl
  | 4,_=>
    cases ho
    refine⟨4,0,hmu 4 (by decide),_,_,hh4,Nat.le_refl _,fun j c hj=>?_,fun e=>by cases e⟩
    match j,hj with
    | 0,hj=>cases hj;exact⟨_,rfl,v4,rfl,trivial⟩
  | 5,_=>cases ho;cases hl
  | 6,_=>
    cases ho
    refine⟨6,0,hmu 6 (by decide),_,_,hh6,by rw [hs6];decide,fun j c hj=>?_,fun e=>by cases e⟩
    rw [←pow_eq,List.getElem?_map,Option.map_eq_some_iff] at hj
    obtain⟨z,hz,rfl⟩:=hj
    refine⟨.int .u64 z,?_,rfl⟩
    rw [Nat.zero_add,←Array.getElem?_toList,hcs6,List.getElem?_map,hz];rfl
  | 7,_=>cases ho;cases hl
  | 8,_=>cases ho;cases hl
  | 9,_=>cases ho;cases hl
 ·rw [(lg hok ho hl).1] at hr;cases hr
 ·obtain⟨h1,rfl,_⟩:=hinv hx
  exact⟨_,List.getElem?_eq_getElem (show o<10 from h1),Nat.zero_le _⟩
 ·obtain⟨h1,_,h3⟩:=hinv hb
  cases h3
  omega
 ·obtain⟨h1,_,h3⟩:=hinv hb
  cases h3;rfl
 ·match g,hg with
  | 0,_=>cases ho;rw [zA hh0,hs0];rfl
  | 1,_=>cases ho
  | 2,_=>cases ho
  | 3,_=>cases ho
  | 4,_=>cases ho;rw [zA hh4];rfl
  | 5,_=>cases ho
  | 6,_=>cases ho;rw [zA hh6,hs6];rfl
  | 7,_=>cases ho
  | 8,_=>cases ho
  | 9,_=>cases ho
end Go.Proofs.YtnbdedokjfpckaaGreatDoor
