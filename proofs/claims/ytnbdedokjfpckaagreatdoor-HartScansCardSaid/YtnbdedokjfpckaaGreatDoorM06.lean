/- Texts of this claim, joined: Gr, Gs, Gc, Ch. -/
import Derived.RangeFuncNested
import Derived.RangeFuncBound
import Derived.RangeFuncCalls
import Derived.RangeFuncLeaves
import Derived.Shelf.Abstract
import Derived.Shelf.RegionOpen
import Derived.WalkKit
import Derived.OwnWalkIn
import Derived.TacticsInMore
import Derived.LoopNIn
import Derived.LoopIn
import Derived.Test.YtnbdedokjfpckaaGreatDoorProg
import Derived.Lib.Walk
import Derived.Lib.ItoaMem
import Derived.StillTailTactics
import Derived.Stop.RegionWithIn
import Derived.Test.YtnbdedokjfpckaaGreatDoorM05
set_option linter.unusedVariables false
set_option linter.unusedSimpArgs false
namespace Go.Proofs.Dj
open Go.RowKit Go.Shelf
attribute [local go_sem] Oper.semAt_some
set_option maxRecDepth 100000
def Kp (B:Nat)(W W':World):Prop:=W'.cell? ⟨B,0,none⟩=W.cell? ⟨B,0,none⟩∧W'.cell? ⟨B,1,none⟩=W.cell? ⟨B,1,none⟩
theorem one_in (F:Fence)(n:Nat)(h6:F.fn 131)(hro:F.round=none)(hn:1≤n)(l B:Nat)(a:Int)(ha:0≤a)(ha2:a<4294967296)(J Jx:List Unit→World→Prop)
 (hY:∀pre x W,J pre W→pre.length<1→YieldAt F (n - 1) Tryz.prog l #[.int .i64 (a / 16)] W fun e W'=>
  (e= .returned (.bool true)∧J (pre ++ [x]) W'∧Kp B W W')∨(e= .returned (.bool false)∧Jx (pre ++ [x]) W'))
 (W:World) (hc0:W.cell? ⟨B,0,none⟩=some (.int .u32 a)) (hc1:W.cell? ⟨B,1,none⟩=some (.int .u32 16)) (h0:J [] W) :
 CallsIn F n Tryz.prog 131 #[.func (.yield l) #[] #[],.pointer (some ⟨B,0,none⟩)] W fun e W'=>(∃v,e= .returned v)∧
  ((∃ys,ys=[()]∧J ys W')∨(∃pre,pre=[()]∧Jx pre W')):=by
 refine callsIn_of_wp Tryz.func131 rfl h6 ?_ hro
 simp only [Tryz.ntmps131,List.size_toArray,List.length_cons,List.length_nil,Nat.reduceAdd,Nat.reduceSub,Array.replicate_succ,Array.replicate_zero,List.push_toArray,List.append_toArray,List.nil_append,List.cons_append]
 gi_wp2
 gi_loopw [3] (fun p wr=>wr.cell? ⟨B,0,none⟩=some (.int .u32 a)∧wr.cell? ⟨B,1,none⟩=some (.int .u32 16)∧((p= .int .u64 a∧J [] wr)∨(p= .int .u64 (a+16)∧J [()] wr)))
  (fun p _=>(a+16 - intOf p).toNat)
 case atStart=>
  exact⟨hc0,hc1,.inl ⟨rfl,h0⟩⟩
 case round=>
  obtain⟨h0',h1',⟨rfl,hJ⟩ | ⟨rfl,hJ⟩⟩:=hrel
  ·obtain⟨fn,tmps,assign,body,hy,hR⟩:=hY [] () wr hJ (by simp)
   have hx:a<a+16:=by omega
   gi_wp2
   refine hR.mono ?_
   rintro e W3 (⟨rfl,hJ3,hk3⟩ | ⟨rfl,hJx3⟩)
   ·gi_wp2
    exact⟨⟨hk3.1.trans h0',hk3.2.trans h1',.inr ⟨rfl,hJ3⟩⟩,by show (a+16 - (a+16)).toNat<(a+16 - a).toNat;omega⟩
   ·gi_wp2
    refine bodyPost_ret (results_none rfl _ _ _) rfl ?_
    exact⟨⟨_,rfl⟩,.inr ⟨_,rfl,hJx3⟩⟩
  ·have hx:¬(a+16<a+16):=by omega
   gi_wp2
   go_end0
   exact⟨⟨_,rfl⟩,.inl hJ⟩
theorem BK (F:Fence)(n:Nat)(h6:F.fn 131)(hro:F.round=none)(hn:1≤n)(B:Nat)(a:Int)(ha:0≤a)(ha2:a<4294967296)(w:World)(hB:B<w.heap.size)
 (hc0:w.cell? ⟨B,0,none⟩=some (.int .u32 a)) (hc1:w.cell? ⟨B,1,none⟩=some (.int .u32 16)) :
 SeqStopsK F n Tryz.prog 131 #[.pointer (some ⟨B,0,none⟩)] (fun _:Unit=>#[.int .i64 (a / 16)]) (Kp B) (fun xs=>xs=[()]) (fun pre=>pre=[()]) 1 w:=
 fun l J Jx W hW _ _ hY h0=>one_in F n h6 hro hn l B a ha ha2 J Jx hY W ((hW.cell hB).trans hc0) ((hW.cell hB).trans hc1) h0
end Go.Proofs.Dj
namespace Go.Proofs.Dj
open Go.RowKit Go.Shelf Go.Lib
set_option maxRecDepth 100000
theorem V9 (bp kp bm km:Nat)(w:World)(hp:w.cell? ⟨bp,kp,none⟩=some (.pointer (some ⟨bm,km,none⟩))) :
 Calls Tryz.prog 77 #[.pointer (some ⟨bp,kp,none⟩)] w fun e w'=>e= .returned (.bool false)∧w'= w:=by
 go_enter Tryz.func77,Tryz.ntmps77
 go_wp2
 go_ret
 exact⟨rfl,rfl⟩
theorem len_to (bm km:Nat)(n:Int)(w:World)(hp:w.cell? ⟨bm,km,none⟩=some (.int .i64 n)) :
 Calls Tryz.prog 79 #[.pointer (some ⟨bm,km,none⟩)] w fun e w'=>e= .returned (.int .i64 n)∧w'= w:=by
 go_enter Tryz.func79,Tryz.ntmps79
 go_wp2
 go_ret
 exact⟨rfl,rfl⟩
theorem ug (bm km:Nat)(n g:Int)(w:World)(hp:w.cell? ⟨bm,km,none⟩=some (.int .i64 n))(h0:0≤g)(h1:g<n) :
 Calls Tryz.prog 132 #[.pointer (some ⟨bm,km,none⟩),.int .i64 g] w fun e w'=>e= .returned (.bool true)∧w'= w:=by
 go_enter Tryz.func132,Tryz.ntmps132
 go_wp2
 go_ret
 exact⟨rfl,rfl⟩
theorem H9 (bm km bw kw l c:Nat)(n g x:Int)(w:World)(hp:w.cell? ⟨bm,km,none⟩=some (.int .i64 n))(hw:w.cell? ⟨bm,km+1,none⟩=some (.slice (some ⟨bw,kw,none⟩) l c))(h0:0≤g)(h1:g<n)(h2:0≤wrap64 (g.tdiv 64)∧wrap64 (g.tdiv 64)<(l:Int))
 (hx:w.cell? ⟨bw,kw+(wrap64 (g.tdiv 64)).toNat,none⟩=some (.int .u64 x)) (hb:(bits BinOp.and IntKind.u64 (x / 2^(g%64).toNat) 1 == 1)=false) :
 Calls Tryz.prog 81 #[.pointer (some ⟨bm,km,none⟩),.int .i64 g] w fun e w'=>e= .returned (.bool false)∧w'= w:=by
 go_enter Tryz.func81,Tryz.ntmps81
 go_wp2_with (go_at_call 132;refine(ug bm km n g _ hp h0 h1).mono ?_;rintro e w4 ⟨rfl,h4⟩;subst w4)
 go_ret
 exact⟨rfl,rfl⟩
theorem put_to (bm km bw kw l c:Nat)(n g x:Int)(w:World)(hp:w.cell? ⟨bm,km,none⟩=some (.int .i64 n))(hw:w.cell? ⟨bm,km+1,none⟩=some (.slice (some ⟨bw,kw,none⟩) l c))(h0:0≤g)(h1:g<n)(h2:0≤wrap64 (g.tdiv 64)∧wrap64 (g.tdiv 64)<(l:Int))
 (hx:w.cell? ⟨bw,kw+(wrap64 (g.tdiv 64)).toNat,none⟩=some (.int .u64 x)) (hf:w.frozen? ⟨bw,kw+(wrap64 (g.tdiv 64)).toNat,none⟩=false) :
 Calls Tryz.prog 82 #[.pointer (some ⟨bm,km,none⟩),.int .i64 g,.bool true] w fun e w'=>e= .returned (.bool true)∧w'= w.setCell ⟨bw,kw+(wrap64 (g.tdiv 64)).toNat,none⟩ (.int .u64 (bits .or .u64 x (IntKind.u64.wrap (2^(g%64).toNat)))):=by
 go_enter Tryz.func82,Tryz.ntmps82
 go_wp2_with (go_at_call 132;refine(ug bm km n g _ hp h0 h1).mono ?_;rintro e w4 ⟨rfl,h4⟩;subst w4)
 go_ret
 exact⟨rfl,rfl⟩
theorem all_in (F:Fence)(n:Nat)(h6:F.fn 78)(hro:F.round=none)(q:Nat)(w:World)(hc:∀j,j<4→w.cell? ⟨q,j,none⟩=some (.bool true)) :
 CallsIn F n Tryz.prog 78 #[.slice (some ⟨q,0,none⟩) 4 4] w fun e w'=>e= .returned (.bool true)∧w'= w:=by
 refine callsIn_of_wp Tryz.func78 rfl h6 ?_ hro
 simp only [Tryz.ntmps78,List.size_toArray,List.length_cons,List.length_nil,Nat.reduceAdd,Nat.reduceSub,Array.replicate_succ,Array.replicate_zero,List.push_toArray,List.append_toArray,List.nil_append,List.cons_append]
 have c0:=hc 0 (by omega)
 have c1:=hc 1 (by omega)
 have c2:=hc 2 (by omega)
 have c3:=hc 3 (by omega)
 gi_wp2
 gi_loopw [7] (fun p wr=>wr=w∧(p= .int .i64 0∨p= .int .i64 1∨p= .int .i64 2∨p= .int .i64 3∨p= .int .i64 4)) (fun p _=>(4 - RowKit.intOf p).toNat)
 case atStart=>exact⟨rfl,.inl rfl⟩
 case round=>
  obtain⟨rfl,rfl | rfl | rfl | rfl | rfl⟩:=hrel
  ·gi_wp2
   exact⟨⟨trivial,.inr (.inl rfl)⟩,by decide⟩
  ·gi_wp2
   exact⟨⟨trivial,.inr (.inr (.inl rfl))⟩,by decide⟩
  ·gi_wp2
   exact⟨⟨trivial,.inr (.inr (.inr (.inl rfl)))⟩,by decide⟩
  ·gi_wp2
   exact⟨⟨trivial,.inr (.inr (.inr (.inr rfl)))⟩,by decide⟩
  ·gi_wp2
   go_ret
   exact⟨rfl,rfl⟩
end Go.Proofs.Dj
namespace Go.Proofs.Dj
open Go.RowKit Go.Shelf
attribute [local go_sem] Oper.semAt_some
set_option maxRecDepth 100000
section
variable (bp kp bm km bw k l c:Nat)(n a:Int)(sz:Nat)(w:World)(y:Int)
structure Mem (V:World):Prop where
 hp:V.cell? ⟨bp,kp,none⟩=some (.pointer (some ⟨bm,km,none⟩))
 hn:V.cell? ⟨bm,km,none⟩=some (.int .i64 n)
 hw:V.cell? ⟨bm,km+1,none⟩=some (.slice (some ⟨bw,k,none⟩) l c)
 hx:V.cell? ⟨bw,k+(wrap64 ((a / 16).tdiv 64)).toNat,none⟩=some (.int .u64 y)
 hf:V.frozen? ⟨bw,k+(wrap64 ((a / 16).tdiv 64)).toNat,none⟩=false
 hb:V.cell? ⟨sz,0,none⟩=some (.pointer (some ⟨bp,kp,none⟩))
 h0:V.cell? ⟨sz+1,0,none⟩=some (.int .u32 a)
 h1:V.cell? ⟨sz+1,1,none⟩=some (.int .u32 16)
 ht:V.cell? ⟨sz+1+1,0,none⟩=some (.bool true)
 ho:V.cell? ⟨sz+1+1+1,0,none⟩=some (.bool false)
 hof:V.frozen? ⟨sz+1+1+1,0,none⟩=false
 hB:Below sz w V
end
theorem Mem.grown {bp kp bm km bw k l c:Nat} {n a:Int} {sz:Nat} {w:World} {y:Int} {V W:World} (h:Mem bp kp bm km bw k l c n a sz w y V) {row:Option Nat} (hg:V.grownBy W row)(hs:sz≤w.heap.size)(hr:∀r,row=some r→sz≤r∧∃o:Obj,V.heap[r]? =some o∧o.isCells=false):Mem bp kp bm km bw k l c n a sz w y W:=by
 have hq:=fun r e=>(hr r e).2
 exact⟨cell_kept h.hp hg hq,cell_kept h.hn hg hq,cell_kept h.hw hg hq,cell_kept h.hx hg hq,(frozen_kept h.hx hg hq).trans h.hf,cell_kept h.hb hg hq,cell_kept h.h0 hg hq,cell_kept h.h1 hg hq,cell_kept h.ht hg hq,cell_kept h.ho hg hq,(frozen_kept h.ho hg hq).trans h.hof,
  h.hB.grown hg (Nat.le_trans hs h.hB.size) (fun k e=>(hr k e).1)⟩
theorem Mem.alloc {bp kp bm km bw k l c:Nat} {n a:Int} {sz:Nat} {w:World} {y:Int} {V:World} (h:Mem bp kp bm km bw k l c n a sz w y V)(hs:sz≤w.heap.size)(o:Obj):Mem bp kp bm km bw k l c n a sz w y (V.alloc o):=
 h.grown (World.grownBy_alloc V o none) hs (fun r e=>by cases e)
theorem Mem.drew {bp kp bm km bw k l c:Nat} {n a:Int} {sz:Nat} {w:World} {y:Int} {V:World} (h:Mem bp kp bm km bw k l c n a sz w y V):Mem bp kp bm km bw k l c n a sz w y V.drew:=
 ⟨h.hp,h.hn,h.hw,h.hx,h.hf,h.hb,h.h0,h.h1,h.ht,h.ho,h.hof,h.hB.drew⟩
theorem Jy (a:Int)(w:World):Calls Tryz.prog 80 #[.agg #[.int .u32 a,.int .u32 16]] w fun e w'=>e= .returned (.func (.func 131) #[] #[.pointer (some ⟨w.heap.size,0,none⟩)])∧w'= w.alloc (.cells #[.int .u32 a,.int .u32 16] 51):=by
 go_enter Tryz.func80,Tryz.ntmps80
 go_wp2
 go_ret
 exact⟨rfl,rfl⟩
theorem Mem.first {bp kp bm km bw k l c:Nat} {n a:Int} {w:World} {y:Int} (hp:w.cell? ⟨bp,kp,none⟩=some (.pointer (some ⟨bm,km,none⟩)))
 (hn:w.cell? ⟨bm,km,none⟩=some (.int .i64 n)) (hw:w.cell? ⟨bm,km+1,none⟩=some (.slice (some ⟨bw,k,none⟩) l c)) (hx:w.cell? ⟨bw,k+(wrap64 ((a / 16).tdiv 64)).toNat,none⟩=some (.int .u64 y)) (hf:w.frozen? ⟨bw,k+(wrap64 ((a / 16).tdiv 64)).toNat,none⟩=false) :
 Mem bp kp bm km bw k l c n a w.heap.size w y ((((w.alloc (.cells #[.pointer (some ⟨bp,kp,none⟩)] 53)).alloc (.cells #[.int .u32 a,.int .u32 16] 51)).alloc (.cells #[.bool true] 4)).alloc (.cells #[.bool false] 4)):=by
 have g:∀{V:World} {A:Addr} {v:Value} (o:Obj),V.cell? A=some v→(V.alloc o).cell? A=some v:=fun {V A v} o h=>cell_kept h (World.grownBy_alloc V o none) (fun r e=>by cases e)
 have gf:∀{V:World} {A:Addr} {v:Value} (o:Obj),V.cell? A=some v→V.frozen? A=false→(V.alloc o).frozen? A=false:=fun {V A v} o h hf=>(frozen_kept h (World.grownBy_alloc V o none) (fun r e=>by cases e)).trans hf
 have s1:(w.alloc (.cells #[.pointer (some ⟨bp,kp,none⟩)] 53)).heap.size=w.heap.size+1:=World.size_alloc _ _
 have s2:((w.alloc (.cells #[.pointer (some ⟨bp,kp,none⟩)] 53)).alloc (.cells #[.int .u32 a,.int .u32 16] 51)).heap.size=w.heap.size+1+1:=by rw [World.size_alloc,s1]
 have s3:(((w.alloc (.cells #[.pointer (some ⟨bp,kp,none⟩)] 53)).alloc (.cells #[.int .u32 a,.int .u32 16] 51)).alloc (.cells #[.bool true] 4)).heap.size=w.heap.size+1+1+1:=by rw [World.size_alloc,s2]
 refine⟨g _ (g _ (g _ (g _ hp))),g _ (g _ (g _ (g _ hn))),g _ (g _ (g _ (g _ hw))),g _ (g _ (g _ (g _ hx))),gf _ (g _ (g _ (g _ hx))) (gf _ (g _ (g _ hx)) (gf _ (g _ hx) (gf _ hx hf))),g _ (g _ (g _ (World.cell?_alloc_new _ _ _ _))),?_,?_,?_,?_,?_,
  ((((Below.refl _ w).alloc (Nat.le_refl _) _).alloc (by simp) _).alloc (by simp;omega) _).alloc (by simp;omega) _⟩
 ·exact g _ (g _ (by rw [←s1,World.cell?_alloc_new];rfl))
 ·exact g _ (g _ (by rw [←s1,World.cell?_alloc_new];rfl))
 ·exact g _ (by rw [←s2,World.cell?_alloc_new];rfl)
 ·rw [←s3,World.cell?_alloc_new];rfl
 ·rw [←s3];exact World.frozen?_alloc_new _ _ _ _
theorem yY {B:Nat} {w V:World} (h:Below B w V)(p:Addr)(v:Value):Below B (w.setCell p v) (V.setCell p v):=
 ⟨h.os,h.tape,h.output,by simpa [World.setCell] using h.size,fun k hk=>by simp only [World.setCell,Array.getElem?_modify];rw [h.block k hk]⟩
theorem Mem.put {bp kp bm km bw k l c:Nat} {n a:Int} {sz:Nat} {w:World} {x:Int} {V:World} (h:Mem bp kp bm km bw k l c n a sz w x V)(hs:bw<sz)(y:Int) :
 Mem bp kp bm km bw k l c n a sz (w.setCell ⟨bw,k+(wrap64 ((a / 16).tdiv 64)).toNat,none⟩ (.int .u64 y)) y (V.setCell ⟨bw,k+(wrap64 ((a / 16).tdiv 64)).toNat,none⟩ (.int .u64 y)):=by
 have far:∀{p:Addr} {u:Value},V.cell? p=some u→p.block≠bw→(V.setCell ⟨bw,k+(wrap64 ((a / 16).tdiv 64)).toNat,none⟩ (.int .u64 y)).cell? p=some u:=fun {p u} q hne=>
  (World.cell?_setCell_other _ _ _ _ (fun e=>hne (by rw [←e]))).trans q
 have oth:∀{p:Addr} {u:Value},V.cell? p=some u→u≠.int .u64 x→(V.setCell ⟨bw,k+(wrap64 ((a / 16).tdiv 64)).toNat,none⟩ (.int .u64 y)).cell? p=some u:=fun {p u} q hne=>
  (World.cell?_setCell_other _ _ _ _ (fun e=>by rw [←e,h.hx] at q;exact hne (Option.some.inj q).symm)).trans q
 exact⟨oth h.hp (by intro e;cases e),oth h.hn (by intro e;cases e),oth h.hw (by intro e;cases e),World.cell?_setCell_same' _ _ _ (by rw [h.hx];rfl),by rw [World.frozen?_setCell];exact h.hf,
  far h.hb (by show sz≠bw;omega),far h.h0 (by show sz+1≠bw;omega),far h.h1 (by show sz+1≠bw;omega),far h.ht (by show sz+1+1≠bw;omega),far h.ho (by show sz+1+1+1≠bw;omega),by rw [World.frozen?_setCell];exact h.hof,yY h.hB _ _⟩
theorem EX (w:World)(p q:Addr)(v:Value)(h:p.block≠q.block):(w.setCell p v).cell? q=w.cell? q:=World.cell?_setCell_other _ _ _ _ (fun e=>h (by rw [e]))
def Two (bp kp bm km bw k l c:Nat)(n a:Int)(w:World)(x y:Int):List Unit→World→Prop
 | [],V=>Mem bp kp bm km bw k l c n a w.heap.size w x V
 | _ :: _,V=>Mem bp kp bm km bw k l c n a w.heap.size (w.setCell ⟨bw,k+(wrap64 ((a / 16).tdiv 64)).toNat,none⟩ (.int .u64 y)) y V
theorem Two.grown {bp kp bm km bw k l c:Nat} {n a:Int} {w:World} {x y:Int} :∀{s:List Unit} {V W:World} (_:Two bp kp bm km bw k l c n a w x y s V) {row:Option Nat} (_:V.grownBy W row) (_:∀r,row=some r→w.heap.size≤r∧∃o:Obj,V.heap[r]? =some o∧o.isCells=false),Two bp kp bm km bw k l c n a w x y s W
 | [],_,_,h,_,hg,hr=>Mem.grown h hg (Nat.le_refl _) hr
 | _ :: _,_,_,h,_,hg,hr=>Mem.grown h hg (by simp [World.setCell]) hr
theorem LC (Z:World)(A:Addr)(h:Z.cell? A=some (.bool true)):(loadVar 4 A).run Tryz.prog Z= .ok (.bool true) Z:=by
 simp [loadVar,go_sem,Tryz.underlying4,h]
theorem OT {P:Program} {fn:Func} {p:Tmp} {ty:TypeId} {A:Addr} {v:Value} {w:World} (h:fn.results= #[.cell p ty]) {tmps:Array Value} (hp:tmps.getD p undef= .pointer (some A))(hl:(loadVar ty A).run P w= .ok v w):(results fn tmps).run P w= .ok v w:=by
 have hp':tmps[p]?.getD undef= .pointer (some A):=by simpa using hp
 simp [results,h,hp',asAddr,hl]
set_option maxHeartbeats 1000000 in
theorem BL (bp kp bm km bw k l c:Nat)(n a x:Int)(w:World)(hp:w.cell? ⟨bp,kp,none⟩=some (.pointer (some ⟨bm,km,none⟩)))
 (hn:w.cell? ⟨bm,km,none⟩=some (.int .i64 n)) (hw:w.cell? ⟨bm,km+1,none⟩=some (.slice (some ⟨bw,k,none⟩) l c)) (ha:0≤a) (ha2:a<4294967296) (ha3:a%16=0) (hn2:n<1048577) (hle:a+16≤n*16)
 (h2:0≤wrap64 ((a / 16).tdiv 64)∧wrap64 ((a / 16).tdiv 64)<(l:Int)) (hx:w.cell? ⟨bw,k+(wrap64 ((a / 16).tdiv 64)).toNat,none⟩=some (.int .u64 x)) (hf:w.frozen? ⟨bw,k+(wrap64 ((a / 16).tdiv 64)).toNat,none⟩=false)
 (hb:(bits BinOp.and IntKind.u64 (x / 2^(a / 16%64).toNat) 1 == 1)=false) :
 Calls Tryz.prog 40 #[.pointer (some ⟨bp,kp,none⟩),.agg #[.int .u32 a,.int .u32 16],.bool true] w fun e w'=>e= .returned (.bool true)∧
  Below w.heap.size (w.setCell ⟨bw,k+(wrap64 ((a / 16).tdiv 64)).toNat,none⟩ (.int .u64 (bits .or .u64 x (IntKind.u64.wrap (2^(a / 16%64).toNat))))) w':=by
 refine(callsIn_wide (n:=5)).1 ?_
 refine callsIn_of_wp_marks Tryz.func40 rfl trivial ?_ rfl
 simp only [Tryz.ntmps40,List.size_toArray,List.length_cons,List.length_nil,Nat.reduceAdd,Nat.reduceSub,Array.replicate_succ,Array.replicate_zero,List.push_toArray,List.append_toArray,List.nil_append,List.cons_append]
 gi_wp2
 have hM:=Mem.first hp hn hw hx hf
 obtain⟨W,hW⟩:∃W,((((w.alloc (.cells #[.pointer (some ⟨bp,kp,none⟩)] 53)).alloc (.cells #[.int .u32 a,.int .u32 16] 51)).alloc (.cells #[.bool true] 4)).alloc (.cells #[.bool false] 4))=W:=⟨_,rfl⟩
 rw [hW] at hM ⊢
 have hsz:W.heap.size=w.heap.size+1+1+1+1:=by rw [←hW];simp
 clear hW
 have k0:=hM.hp;have k1:=hM.hn;have k2:=hM.hb;have k3:=hM.h0;have k4:=hM.h1;have k5:=hM.ht;have k6:=hM.ho;have k7:=hM.hof
 refine⟨trivial,(callsIn_wide.2 (V9 bp kp bm km _ hM.hp)).mono ?_⟩
 rintro e w4 ⟨rfl,h4⟩
 subst w4
 gi_wp2
 refine wpIn_wide.2 ?_
 go_still_tail 20,(by kernel_rfl)
 still_call (len_to bm km n W.drew k1)
 repeat still_step
 refine wpStill_nil ?_
 change wpList _ _ _ _ _ W.drew
 obtain⟨V,hV⟩:∃V,W.drew=V:=⟨_,rfl⟩
 rw [hV]
 have hMV:Mem bp kp bm km bw k l c n a w.heap.size w x V:=by rw [←hV];exact hM.drew
 have hsV:V.heap.size=w.heap.size+1+1+1+1:=by rw [←hV];exact hsz
 have hall:∀j,j<4→(V.alloc (.cells #[.bool true,.bool true,.bool true,.bool true] 4)).cell? ⟨V.heap.size,j,none⟩=some (.bool true):=by
  intro j hj
  rw [World.cell?_alloc_new]
  obtain rfl | rfl | rfl | rfl:j=0∨j=1∨j=2∨j=3:=by omega
  all_goals rfl
 have Ve:=hMV.alloc (Nat.le_refl _) (.cells #[.bool true,.bool true,.bool true,.bool true] 4)
 have hA:=callsIn_wide.1 (all_in Fence.wide 1 trivial rfl V.heap.size _ hall)
 rw [hsV] at hA
 go_wp2_with (go_at_call 78;refine hA.mono ?_;rintro e w4 ⟨rfl,h4⟩;subst w4)
 obtain⟨U,hU⟩:∃U,V.alloc (.cells #[.bool true,.bool true,.bool true,.bool true] 4)=U:=⟨_,rfl⟩
 rw [hU] at Ve ⊢
 have hsU:U.heap.size=w.heap.size+1+1+1+1+1:=by rw [←hU,World.size_alloc,hsV]
 clear hU hall
 have j0:=Ve.hp;have j1:=Ve.hn;have j2:=Ve.hb;have j3:=Ve.h0;have j4:=Ve.h1;have j5:=Ve.ht;have j6:=Ve.ho;have j7:=Ve.hof
 have hG:=(callsIn_wide (n:=4)).2 (Jy a U)
 rw [hsU] at hG
 gi_wp2
 refine⟨trivial,hG.mono ?_⟩
 rintro e w4 ⟨rfl,rfl⟩
 gi_wp2
 have hM1:=Ve.alloc (Nat.le_refl _) (.cells #[.int .u32 a,.int .u32 16] 51)
 have b0:(U.alloc (.cells #[.int .u32 a,.int .u32 16] 51)).cell? ⟨w.heap.size+1+1+1+1+1,0,none⟩=some (.int .u32 a):=by rw [←hsU,World.cell?_alloc_new];rfl
 have b1:(U.alloc (.cells #[.int .u32 a,.int .u32 16] 51)).cell? ⟨w.heap.size+1+1+1+1+1,1,none⟩=some (.int .u32 16):=by rw [←hsU,World.cell?_alloc_new];rfl
 obtain⟨R,hR⟩:∃R,U.alloc (.cells #[.int .u32 a,.int .u32 16] 51)=R:=⟨_,rfl⟩
 rw [hR] at hM1 b0 b1 ⊢
 have hsR:R.heap.size=w.heap.size+1+1+1+1+1+1:=by rw [←hR,World.size_alloc,hsU]
 clear hR
 refine wpIn_rangeFunc_ownF (F:=Fence.wide) (n:=5) rfl (by omega) (gf:=131) (lb:=#[.pointer (some ⟨w.heap.size+1+1+1+1+1,0,none⟩)]) rfl trivial (enters_of Tryz.func131 (by kernel_rfl) rfl)
  (BK Fence.wide 4 trivial rfl (by omega) (w.heap.size+1+1+1+1+1) a ha ha2 R (by omega) b0 b1) (fun h k=>⟨k.1.trans h.1,k.2.trans h.2⟩) ?kb (Below.refl _ _) (fun _=>rfl)
  (fun _ W'=>Mem bp kp bm km bw k l c n a w.heap.size w x W') (fun _ _ _=>False) (fun s A B row hs hg hr=>hs.grown hg (Nat.le_refl _) (fun r e=>⟨by have:=(hr r e).1;omega,(hr r e).2⟩)) (fun _ _ _ _ _ hs _ _=>hs) hM1 ?a1 ?assign ?body ?done ?stop
 case assign=>
  intro l x W K hK
  gi_wp2
  exact hK
 case kb=>
  intro W l o o' hl h h2 h3
  have hb:=belowK_b (w:=R) (Nat.le_refl _) W l o o' hl h h2 h3
  exact⟨hb.cell (p:=⟨w.heap.size+1+1+1+1+1,0,none⟩) (by show w.heap.size+1+1+1+1+1<R.heap.size;omega),hb.cell (p:=⟨w.heap.size+1+1+1+1+1,1,none⟩) (by show w.heap.size+1+1+1+1+1<R.heap.size;omega)⟩
 case stop=>
  intro D c1 pre W _ _ h _
  exact h.elim
 case body=>
  intro lp pre x0 W r_ _
  have i0:=r_.hp;have i2:=r_.hb;have i5:=r_.ht
  have hG0:∀m,CallsIn (Fence.wide.inRound lp) m Tryz.prog 81 #[.pointer (some ⟨bm,km,none⟩),.int .i64 (a / 16)] W.drew fun e w'=>e= .returned (.bool false)∧w'= W.drew:=fun m=>
   CallsIn.inRound lp (callsIn_wide.2 (H9 bm km bw k l c n (a / 16) x W.drew r_.hn r_.hw (by omega) (by omega) h2 r_.hx hb))
  gi_wp2
  gi_region_with (refine⟨trivial,?_⟩;gi_at_call 81;refine(hG0 _).mono ?_;rintro e w4 ⟨rfl,rfl⟩)
  all_goals gi_wp2
  all_goals exact⟨⟨Nat.le_refl _,fun _ _ h _=>h⟩,⟨rfl,rfl⟩,r_.drew⟩
 case done=>
  rintro D xs W1 hD rfl r_ hK
  have hDl:D<W1.heap.size:=(Array.getElem?_eq_some_iff.1 hK).1
  have hbw:bw<w.heap.size:=World.block_lt_of_cell? w _ hx
  have i0:=r_.hp;have i1:=r_.hn;have i2:=r_.hb;have i3:=r_.h0;have i4:=r_.h1;have i5:=r_.ht;have i6:=r_.ho;have i7:=r_.hof
  have hG2:=(callsIn_wide (n:=4)).2 (Jy a W1)
  gi_wp2
  refine⟨trivial,hG2.mono ?_⟩
  rintro e w4 ⟨rfl,rfl⟩
  gi_wp2
  have hM2:=r_.alloc (Nat.le_refl _) (.cells #[.int .u32 a,.int .u32 16] 51)
  have c0:(W1.alloc (.cells #[.int .u32 a,.int .u32 16] 51)).cell? ⟨W1.heap.size,0,none⟩=some (.int .u32 a):=by rw [World.cell?_alloc_new];rfl
  have c1:(W1.alloc (.cells #[.int .u32 a,.int .u32 16] 51)).cell? ⟨W1.heap.size,1,none⟩=some (.int .u32 16):=by rw [World.cell?_alloc_new];rfl
  have hK2:(W1.alloc (.cells #[.int .u32 a,.int .u32 16] 51)).heap[D]? =some (.deferred (some [])):=(Below.heap_alloc _ _ _ hDl).trans hK
  obtain⟨R2,hR2⟩:∃R2,W1.alloc (.cells #[.int .u32 a,.int .u32 16] 51)=R2:=⟨_,rfl⟩
  rw [hR2] at hM2 c0 c1 hK2 ⊢
  have hsR2:R2.heap.size=W1.heap.size+1:=by rw [←hR2,World.size_alloc]
  clear hR2
  have V_:Mem bp kp bm km bw k l c n a w.heap.size w x R2:=hM2
  refine wpIn_rangeFunc_ownF (F:=Fence.wide) (n:=5) rfl (by omega) (gf:=131) (lb:=#[.pointer (some ⟨W1.heap.size,0,none⟩)]) rfl trivial (enters_of Tryz.func131 (by kernel_rfl) rfl)
   (BK Fence.wide 4 trivial rfl (by omega) W1.heap.size a ha ha2 R2 (by omega) c0 c1) (fun h k=>⟨k.1.trans h.1,k.2.trans h.2⟩) ?kb2 (Below.refl _ _) (fun _=>rfl)
   (fun s V=>Two bp kp bm km bw k l c n a w x (bits .or .u64 x (IntKind.u64.wrap (2^(a / 16%64).toNat))) s V∧V.heap[D]? =some (.deferred (some []))) (fun _ _ _=>False)
   (fun s A B row hs hg hr=>⟨hs.1.grown hg (fun r e=>⟨by have:=(hr r e).1;have:=V_.hB.size;omega,(hr r e).2⟩),(hg.block D (Array.getElem?_eq_some_iff.1 hs.2).1 (fun e=>by have:=(hr D e.symm).1;omega)).trans hs.2⟩) (fun _ _ _ _ _ hs _ _=>hs) ⟨V_,hK2⟩ ?a2 ?assign2 ?body2 ?done2 ?stop2
  case assign2=>
   intro l x W K hK
   gi_wp2
   exact hK
  case kb2=>
   intro W l o o' hl h h2 h3
   have hb:=belowK_b (w:=R2) (Nat.le_refl _) W l o o' hl h h2 h3
   exact⟨hb.cell (p:=⟨W1.heap.size,0,none⟩) (by show W1.heap.size<R2.heap.size;omega),hb.cell (p:=⟨W1.heap.size,1,none⟩) (by show W1.heap.size<R2.heap.size;omega)⟩
  case stop2=>
   intro D c1 pre W _ _ h _
   exact h.elim
  case body2=>
   intro lp pre x0 W r_ hlt
   obtain rfl:pre=[]:=by
        cases pre with
        | nil=>rfl
        | cons _ _=>simp at hlt
   obtain⟨r_,hKW⟩:=r_
   have r_:Mem bp kp bm km bw k l c n a w.heap.size w x W:=r_
   have i0:=r_.hp;have i2:=r_.hb;have i5:=r_.ht
   have hsW:=V_.hB.size
   have hP0:∀m,CallsIn (Fence.wide.inRound lp) m Tryz.prog 82 #[.pointer (some ⟨bm,km,none⟩),.int .i64 (a / 16),.bool true] W.drew fun e w'=>e= .returned (.bool true)∧w'= W.drew.setCell ⟨bw,k+(wrap64 ((a / 16).tdiv 64)).toNat,none⟩ (.int .u64 (bits .or .u64 x (IntKind.u64.wrap (2^(a / 16%64).toNat)))):=fun m=>
        CallsIn.inRound lp (callsIn_wide.2 (put_to bm km bw k l c n (a / 16) x W.drew r_.hn r_.hw (by omega) (by omega) h2 r_.hx r_.hf))
   gi_wp2
   gi_region_with (refine⟨trivial,?_⟩;gi_at_call 82;refine(hP0 _).mono ?_;rintro e w4 ⟨rfl,rfl⟩)
   all_goals gi_wp2
   all_goals exact⟨⟨(KeepsOthers.setCell W _ _).size,(KeepsOthers.setCell W _ _).same⟩,⟨EX W _ ⟨W1.heap.size,0,none⟩ _ (by show bw≠W1.heap.size;omega),EX W _ ⟨W1.heap.size,1,none⟩ _ (by show bw≠W1.heap.size;omega)⟩,
        (r_.drew).put hbw _,(Below.heap_setCell W _ _ D (by show D≠bw;omega)).trans hKW⟩
  case done2=>
   rintro D2 ys V2 hD2 rfl ⟨hM3,hK3⟩ hK4
   have hM3:Mem bp kp bm km bw k l c n a w.heap.size (w.setCell ⟨bw,k+(wrap64 ((a / 16).tdiv 64)).toNat,none⟩ (.int .u64 (bits .or .u64 x (IntKind.u64.wrap (2^(a / 16%64).toNat))))) (bits .or .u64 x (IntKind.u64.wrap (2^(a / 16%64).toNat))) V2:=hM3
   have i6:=hM3.ho;have i7:=hM3.hof
   gi_wp2
   have hsW:=V_.hB.size
   have hr1:w.heap.size+1+1+1<R.heap.size:=by omega
   have e2:(V2.setCell ⟨w.heap.size+1+1+1,0,none⟩ (.bool true)).heap[D2]? =some (.deferred (some [])):=(Below.heap_setCell V2 _ _ D2 (by show D2≠w.heap.size+1+1+1;omega)).trans hK4
   have e1:((V2.setCell ⟨w.heap.size+1+1+1,0,none⟩ (.bool true)).putObj D2 (.deferred none)).heap[D]? =some (.deferred (some [])):=(World.putObj_heap_other (by omega)).trans ((Below.heap_setCell V2 _ _ D (by show D≠w.heap.size+1+1+1;omega)).trans hK3)
   refine⟨by simp,.inl ⟨_,_,rfl,run_takeDeferred e2,⟨by simp,.inl ⟨_,_,rfl,run_takeDeferred e1,?_⟩⟩⟩⟩
   have hres:(((V2.setCell ⟨w.heap.size+1+1+1,0,none⟩ (.bool true)).putObj D2 (.deferred none)).putObj D (.deferred none)).cell? ⟨w.heap.size+1+1+1,0,none⟩=some (.bool true):=
        cell_kept (cell_kept (World.cell?_setCell_same' V2 _ _ (by rw [i6];rfl)) (grownBy_putObj' _ D2 (.deferred none)) (fun r e=>by cases e;exact⟨_,e2,rfl⟩)) (grownBy_putObj' _ D (.deferred none)) (fun r e=>by cases e;exact⟨_,e1,rfl⟩)
   have hbl:Below w.heap.size (w.setCell ⟨bw,k+(wrap64 ((a / 16).tdiv 64)).toNat,none⟩ (.int .u64 (bits .or .u64 x (IntKind.u64.wrap (2^(a / 16%64).toNat))))) (((V2.setCell ⟨w.heap.size+1+1+1,0,none⟩ (.bool true)).putObj D2 (.deferred none)).putObj D (.deferred none)):=
        ((hM3.hB.setCell (p:=⟨w.heap.size+1+1+1,0,none⟩) (by show w.heap.size≤w.heap.size+1+1+1;omega) _).trans (belowK_b (w:=w) (Nat.le_refl _) _ D2 _ _ (by omega) e2 rfl rfl)).trans (belowK_b (w:=w) (Nat.le_refl _) _ D _ _ (by omega) e1 rfl rfl)
   generalize ((V2.setCell ⟨w.heap.size+1+1+1,0,none⟩ (.bool true)).putObj D2 (.deferred none)).putObj D (.deferred none)=Z at hres hbl ⊢
   clear e1 e2
   exact⟨_,OT (A:=⟨w.heap.size+1+1+1,0,none⟩) rfl rfl (LC Z _ hres),rfl,hbl⟩
end Go.Proofs.Dj
set_option maxRecDepth 100000
namespace Go.cO.YtnbdedokjfpckaaGreatDoor
open Go.cO Go.Proofs Go.RowKit
def yW:AT:=⟨.int .u64,1,8,.i .u64 0,true,false,false⟩
def OU (a:Int):Nat:=(wrap64 ((a / 16).tdiv 64)).toNat
def chIs (a n:Int)(l:Nat):Bool:=decide (0≤a∧a<4294967296∧a%16=0∧n<1048577∧a+16≤n*16∧0≤wrap64 ((a / 16).tdiv 64)∧wrap64 ((a / 16).tdiv 64)<(l:Int))
def LD (x a:Int):Bool:=bits BinOp.and IntKind.u64 (x / 2^(a / 16%64).toNat) 1 == 1
def BM (x a:Int):Int:=bits .or .u64 x (IntKind.u64.wrap (2^(a / 16%64).toNat))
def Jz:AV→AV→AV→AV→Option (Nat×Nat×Nat×Int)
 | .ag [.i .u32 a,.i .u32 16],.b true,.i .i64 n,.sl o g k l 1=>if chIs a n l then some (o,g,k+OU a,a) else none
 | _,_,_,_=>none
def vF:AV→Int→Option Int
 | .i .u64 x,a=>if LD x a then none else some (BM x a)
 | _,_=>none
def ch1:AV→AV
 | .p o g k=>.p o g (k+1)
 | v=>v
def oL:List AV→St→Option (AV×St)
 | [p,r,b],σ=>(fG (some yW) p σ).bind fun m=>(fG (some yW) m σ).bind fun n=>(fG (some yW) (ch1 m) σ).bind fun l=>(Jz r b n l).bind fun q=>
   (fG (some yW) (.p q.1 q.2.1 q.2.2.1) σ).bind fun x=>(vF x q.2.2.2).bind fun z=>(f_ (some yW) (.p q.1 q.2.1 q.2.2.1) (.i .u64 z) σ).map fun σ'=>(.b true,σ')
 | _,_=>none
section
variable {G:Nat} {μ:Mu} {σ:St} {w:World}
theorem Dk {T:AT} {x v:AV} (h:fG (some T) x σ=some v):∃o g k,x= .p o g k:=by
 cases x with
 | p o g k=>exact⟨o,g,k,rfl⟩
 | _=>cases h
theorem jo (hs:fH G μ σ w) {T:AT} (hT:T.d.agg=false) {o g k b δ:Nat} {v:AV} (h:fG (some T) (.p o g k) σ=some v)(hb:μ o g=some (b,δ)):∃u,w.cell? ⟨b,δ+k,none⟩=some u∧aJ μ w v u:=by
 simp only [fG,Option.bind_eq_some_iff] at h
 obtain⟨cs,h1,h2⟩:=h
 obtain⟨ro,e,ho⟩:=mJ h1
 obtain⟨dF,fr,q1,q2,q3,q4⟩:=hs.cells ho hb
 simp only [partOf,hT,Bool.false_eq_true,if_false] at h2
 obtain⟨u,r1,r2⟩:=q3 k v h2
 exact⟨u,by rw [cell_of_heap q1];exact r1,r2⟩
theorem yZ (hs:fH G μ σ w) {T:AT} (hT:T.size=1) {o g k b δ:Nat} {z:Int} {σ':St} (h:f_ (some T) (.p o g k) (.i .u64 z) σ=some σ')(hb:μ o g=some (b,δ)) :
 w.frozen? ⟨b,δ+k,none⟩=false∧Step G μ σ w μ σ' (w.setCell ⟨b,δ+k,none⟩ (.int .u64 z)):=by
 simp only [f_] at h
 split at h
 ·rename_i g' ro e cs ho
  split at h
  ·rename_i hc
   obtain⟨rfl,rfl,h1,h2,h3⟩:=hc
   cases h
   obtain⟨dF,fr,q1,q2,q3,q4⟩:=hs.cells ho hb
   have hf:w.frozen? ⟨b,δ+k,none⟩=false:=by
        have:=q4 rfl (δ+k) (by omega)
        simp only [World.frozen?,q1]
        simpa using this
   obtain⟨w',hw,hst⟩:=Step.store (P:=Tryz.prog) (ys:=[.i .u64 z]) (vs:=[.int .u64 z]) (off:=k) hs ho hb ⟨_,_,rfl,rfl,rfl⟩ (by intro v hv;simp at hv;subst hv;rfl) (by simp only [List.length_cons,List.length_nil];omega)
   refine⟨hf,?_⟩
   have hrun:=run_storeCells_cells (P:=Tryz.prog) b (δ+k) [.int .u64 z] 0 w (fun j hj=>by
    simp only [List.length_cons,List.length_nil] at hj
    rw [cell_of_heap q1,Option.isSome_iff_exists];exact⟨dF[δ+k+0+j]'(by omega),by simp⟩)
        (fun j hj=>by
         simp only [List.length_cons,List.length_nil] at hj
         have:j=0:=by omega
         subst this
         exact hf) (by intro v hv;simp at hv;subst hv;rfl)
   rw [Nat.add_zero] at hrun
   rw [hrun] at hw
   cases hw
   exact hst
  ·cases h
 ·cases h
theorem H_ {args:List AV} {r:AV} {σ':St} {aW:Array Value} (h:oL args σ=some (r,σ'))(hs:fH G μ σ w)(hr:aQ μ w args aW.toList):Does Tryz.prog 40 aW w (After G μ σ w r σ'):=by
 unfold oL at h
 split at h
 ·rename_i p r0 b0
  obtain⟨v0,v1,v2,rfl,r1,r2,r3⟩:=wP hr
  simp only [Option.bind_eq_some_iff,Option.map_eq_some_iff] at h
  obtain⟨m,h1,n0,h2,l0,h3,q,h4,x0,h5,z,h6,σ1,h7,h8⟩:=h
  cases h8
  obtain⟨o,g,k,rfl⟩:=Dk h1
  obtain⟨o1,g1,k1,rfl⟩:=Dk h2
  unfold Jz at h4
  split at h4
  ·rename_i a n o2 g2 k2 l
   split at h4
   ·rename_i hc
    cases h4
    unfold vF at h6
    split at h6
    ·rename_i x
     split at h6
     ·cases h6
     ·rename_i hno
      cases h6
      simp only [chIs,decide_eq_true_eq] at hc
      obtain⟨c1,c2,c3,c4,c5,c6,c7⟩:=hc
      obtain⟨bp,dp,m1,rfl⟩:=r1
      obtain⟨aa,rfl,va,vs,e1,rfl,vb,vs2,e2,rfl,e3⟩:=r2
      simp only [aQ] at e3
      subst e3;subst e2
      simp only [aJ] at r3
      subst r3
      obtain rfl:aa= #[.int .u32 a,.int .u32 16]:=Array.ext' e1
      obtain⟨u1,p1,bm,dm,m2,rfl⟩:=jo hs (T:=yW) rfl h1 m1
      obtain⟨u2,p2,rfl⟩:=jo hs (T:=yW) rfl h2 m2
      obtain⟨u3,p3,bw,dw,off',c,e,ms,m3,rfl,s1,s2,s3,s4⟩:=jo hs (T:=yW) rfl h3 m2
      obtain rfl:off'= dw+k2:=by omega
      obtain⟨u4,p4,rfl⟩:=jo hs (T:=yW) rfl h5 m3
      obtain⟨hf,hst⟩:=yZ hs (T:=yW) rfl h7 m3
      have hA:dw+(k2+OU a)=dw+k2+(wrap64 ((a / 16).tdiv 64)).toNat:=by unfold OU;omega
      simp only [hA] at p4 hf hst
      have hlt:w.heap.size=(w.setCell ⟨bw,dw+k2+(wrap64 ((a / 16).tdiv 64)).toNat,none⟩ (.int .u64 (BM x a))).heap.size:=by simp [World.setCell]
      refine Does.pW (kY Tryz.func40 (by kernel_rfl) (by kernel_rfl)) ((Go.Proofs.Dj.BL bp (dp+k) bm (dm+k1) bw (dw+k2) l c n a x w p1 p2 p3 c1 c2 c3 c4 c5 ⟨c6,c7⟩ p4 hf (by simpa [LD] using hno)).mono ?_)
      rintro e w' ⟨rfl,hb⟩
      rw [hlt] at hb
      exact⟨_,μ,rfl,rfl,hst.trans (Step.of_below hst.nI hb)⟩
    ·cases h6
   ·cases h4
  ·cases h4
 ·cases h
end
end Go.cO.YtnbdedokjfpckaaGreatDoor
