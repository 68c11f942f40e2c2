/- Texts of this claim, joined: Bld, Sa, Cx, Abs28, Abs29, Abs35, Abs36, Abs37, Abs39. -/
import Derived.Test.YtlkfbfhkcaldlaaGreatDoorProg
import Derived.WalkKit
import Derived.Lib.Builder
import Derived.Lib.Walk
import Derived.Laws.Externs
import Derived.Shelf.Strings.BuilderX
import Derived.Shelf.RegionOpenPlain
import Derived.Lib.Strings
import Derived.Lib.Slices
import Derived.Lib.AppendStr
import Derived.Lib.UnsafeStr
import Derived.Lib.MakeNoZero
import Derived.Laws.IdiomCopy
import Derived.Laws.BitsLemmas
import Derived.Test.YtlkfbfhkcaldlaaGreatDoorM05
import Derived.Test.YtlkfbfhkcaldlaaGreatDoorM06
import Derived.Test.YtlkfbfhkcaldlaaGreatDoorM07
import Derived.Handed
import Derived.LaidLaws
set_option linter.unusedVariables false
set_option linter.unusedSimpArgs false
set_option maxRecDepth 100000
namespace Go.Abs.YtlkfbfhkcaldlaaGreatDoor
open Go.Proofs Go.RowKit Go.Extern
theorem uB:Tryz.prog.underlying 74=some (.pointer 77):=by kernel_rfl
theorem uU:Tryz.prog.underlying 164=some .unsafePointer:=by kernel_rfl
theorem iB0:(Tryz.prog.info? 77).map (·.size)=some 2:=by kernel_rfl
theorem iB:∃j,Tryz.prog.info? 77=some j/\j.size=2:=by
 obtain⟨j,h1,h2⟩:=Option.map_eq_some_iff.1 iB0
 exact⟨j,h1,h2⟩
theorem liesN (n:Nat):liesAt Tryz.prog Tryz.prog.depth 79 (n+1) 0 77 1=true:=by kernel_rfl
theorem liesB {m:Nat} (hm:4<=m):liesAt Tryz.prog Tryz.prog.depth 79 (m / Tryz.prog.cellsOf 79) 0 77 1=true:=by
 have h2:Tryz.prog.cellsOf 79=4:=by kernel_rfl
 rw [h2]
 obtain⟨n,hn⟩:∃n,m / 4=n+1:=⟨m / 4 - 1,by omega⟩
 rw [hn];exact liesN n
theorem Eb (b:Nat)(w:World)(h0:w.cell? ⟨b,0,none⟩=some (.pointer (some ⟨b,0,none⟩))) :
 Calls Tryz.prog 106 #[.pointer (some ⟨b,0,none⟩)] w fun e w'=>e= .returned (.tuple #[])/\w'= w:=by
 obtain⟨j,hj,_⟩:=iB
 go_enter Tryz.func106,Tryz.ntmps106
 go_wp2
 rw [Lib.run_neq_ptr_same w _ uB hj]
 go_wp2
 go_end0
 exact⟨rfl,rfl⟩
theorem BU (b m:Nat)(hm:4<=m)(w:World)(h0:w.cell? ⟨b,0,none⟩=some (.pointer none))(hsh:w.shape? b=some (79,m))(hfz:w.frozen? ⟨b,0,none⟩=false) :
 Calls Tryz.prog 106 #[.pointer (some ⟨b,0,none⟩)] w fun e w'=>e= .returned (.tuple #[])/\w'= w.setCell ⟨b,0,none⟩ (.pointer (some ⟨b,0,none⟩)):=by
 obtain⟨j,hj,hjs⟩:=iB
 go_enter Tryz.func106,Tryz.ntmps106
 go_wp2
 rw [Lib.run_to_unsafe w ⟨b,0,none⟩ uB uU hj (by rw [hjs];decide) hsh (show 0<m by omega)]
 simp only [Result.andThen]
 rw [Oper.upon_value]
 go_wp2
 rw [run_callFunc_extern Tryz.func132 (by kernel_rfl) (by kernel_rfl) (by kernel_rfl) (e:=Extern.AbiNoEscape.same) (by kernel_rfl)]
 rw [Lib.run_noEscape]
 simp only [Result.andThen]
 rw [Oper.upon_value]
 go_wp2
 rw [Lib.run_from_unsafe w ⟨b,0,none⟩ uU uB hj hsh (liesB hm)]
 simp only [Result.andThen]
 rw [Oper.upon_value]
 go_wp2
 go_end0
 exact⟨rfl,rfl⟩
theorem NW {P:Program} {e:TypeId} (hc:P.cellsOf e=1)(count off n:Nat)(hn:off+n<=count):liesAt P P.depth e count off e n=true:=by
 have hd:P.depth=(2*(P.types.size+Made.depth)+1)+1:=rfl
 rw [hd]
 simp only [liesAt,Bool.or_eq_true]
 left
 rw [hd]
 simp [rowAt,hc,hn,sameLayout,Nat.mod_one]
theorem uh {P:Program} (w:World)(pt it ty e:TypeId)(hp:P.underlying pt=some (.pointer e))(hc:P.cellsOf e=1)(g off cells:Nat)(hsh:w.shape? g=some (e,cells))(l:List UInt8)(h0:l≠[])(hn:off+l.length<=cells)(h63:l.length<=9223372036854775807)
 (hcell:∀j x,l[j]? =some x->w.cell? ((⟨g,off,none⟩:Addr).add j)=some (.int .u8 x.toNat)) :
 (Builtin.unsafeString_ #[pt,it] ty #[.pointer (some ⟨g,off,none⟩),.int .i64 l.length]).run P w= .ok (.string ⟨l.toArray⟩) (w.freeze ⟨g,off,none⟩ l.length):=by
 have hl:l.length≠0:=by simpa using h0
 have hlb:=Lib.run_loadBytes (P:=P) w l ⟨g,off,none⟩ .empty hcell
 have hlies:=NW (P:=P) hc (cells / P.cellsOf e) off l.length (by rw [hc];simpa using hn)
 have h63':¬(9223372036854775807:Int)<(l.length:Int):=by omega
 obtain⟨s1,s2,s3,hdef⟩:∃s1 s2 s3:String,Builtin.unsafeString_ #[pt,it] ty #[.pointer (some ⟨g,off,none⟩),.int .i64 l.length] =
  (do
        let n <-asInt (.int .i64 l.length)
        if n<0 then runtimePanic (.error s1)
        if n>IntKind.i64.max then unsupported (.unsafePointer s2)
        if n=0 then pure (.string .empty)
        else if <-variablesAt ⟨g,off,none⟩ (<-elemOf pt) n.toNat then do
         let s <-loadBytes ⟨g,off,none⟩ .empty n.toNat
         freeze ⟨g,off,none⟩ n.toNat
         pure (.string s)
        else unsupported (.unsafePointer s3)):=⟨_,_,_,rfl⟩
 have hmax:IntKind.i64.max=9223372036854775807:=rfl
 have hneg:¬(l.length:Int)<0:=by omega
 rw [hdef]
 simp [asInt,asIntOf,hmax,h63',hneg,hl,variablesAt,hsh,elemOf,run_underlying hp,hlies,hlb]
set_option maxHeartbeats 2000000 in
theorem Ec (b g off cap m:Nat)(l:List UInt8)(w:World)(h1:w.cell? ⟨b,1,none⟩=some (.slice (some ⟨g,off,none⟩) l.length cap))(h0:l≠[])(hsh:w.shape? g=some (5,m))(hlm:off+l.length<=m)(hc:l.length<=cap)(h63:l.length<=9223372036854775807)
 (hcells:∀j x,l[j]? =some x->w.cell? ⟨g,off+j,none⟩=some (.int .u8 (x.toNat:Int))) :
 Calls Tryz.prog 22 #[.pointer (some ⟨b,0,none⟩)] w fun e w'=>e= .returned (.string ⟨l.toArray⟩)/\w'= w.drew.freeze ⟨g,off,none⟩ l.length:=by
 have hl0:l.length≠0:=by simpa using h0
 have c1:w.drew.cell? ⟨b,1,none⟩=some (.slice (some ⟨g,off,none⟩) l.length cap):=h1
 have hSD:(Builtin.unsafeSliceData_ #[75] 108 #[.slice (some ⟨g,off,none⟩) l.length cap]).run Tryz.prog w.drew= .ok (.pointer (some ⟨g,off,none⟩)) w.drew:=
  Lib.run_unsafeSliceData_row _ _ _ _ _ _ (by omega)
 have hUS:(Builtin.unsafeString_ #[108,3] 9 #[.pointer (some ⟨g,off,none⟩),.int .i64 l.length]).run Tryz.prog w.drew= .ok (.string ⟨l.toArray⟩) (w.drew.freeze ⟨g,off,none⟩ l.length):=by
  refine uh w.drew 108 3 9 5 Tryz.underlying108 (by kernel_rfl) g off m hsh l h0 hlm h63 ?_
  intro j x hx
  have:=hcells j x hx
  have e:((⟨g,off,none⟩:Addr).add j)=⟨g,off+j,none⟩:=by
   unfold Addr.add
   by_cases h:j=0
   ·subst h;simp
   ·simp [h]
  rw [e];exact this
 have mixed:Tryz.prog.follows Departure.mixedOrders=true:=by kernel_rfl
 go_enter Tryz.func22,Tryz.ntmps22
 go_wp2
 go_region_o
 all_goals (go_wp2;go_ret;exact⟨rfl,rfl⟩)
set_option maxHeartbeats 2000000 in
theorem NY (b:Nat)(w:World)(h1:w.cell? ⟨b,1,none⟩=some (.slice none 0 0)) :
 Calls Tryz.prog 22 #[.pointer (some ⟨b,0,none⟩)] w fun e w'=>e= .returned (.string .empty)/\w'= w.drew:=by
 have c1:w.drew.cell? ⟨b,1,none⟩=some (.slice none 0 0):=h1
 have hSD:(Builtin.unsafeSliceData_ #[75] 108 #[.slice none 0 0]).run Tryz.prog w.drew= .ok (.pointer none) w.drew:=
  Lib.run_unsafeSliceData_nil _ _ _ _ _
 have hUS:(Builtin.unsafeString_ #[108,3] 9 #[.pointer none,.int .i64 0]).run Tryz.prog w.drew= .ok (.string .empty) w.drew:=
  Lib.run_unsafeString_none _ _ _ _ _
 have mixed:Tryz.prog.follows Departure.mixedOrders=true:=by kernel_rfl
 go_enter Tryz.func22,Tryz.ntmps22
 go_wp2
 go_region_o
 all_goals (go_wp2;go_ret;exact⟨rfl,rfl⟩)
end Go.Abs.YtlkfbfhkcaldlaaGreatDoor
namespace Go.Abs.YtlkfbfhkcaldlaaGreatDoor
open Go.Proofs
set_option maxRecDepth 4000
def iM (l:List UInt8):List AV:=l.map fun x=>.i .u8 x.toNat
theorem wU:∀l:List UInt8,bytesOf (iM l)=some l
 | []=>rfl
 | x :: l=>by
   show (bytesOf (iM l)).map (UInt8.ofNat ((x.toNat:Int)).toNat :: ·)=_
   rw [wU l];simp
def pCC:List AV->St->Option (AV×St)
 | [.p o 0 0],Z=>(match (Z[o]? :Option AO) with
   | some ⟨0,false,.cells 79 [.p0,y,d,bb]⟩=>some (.tu [],Z.set o ⟨0,false,.cells 79 [.p o 0 0,y,d,bb]⟩)
   | some ⟨0,false,.cells 79 [.p o2 0 0,_,_,_]⟩=>if o2=o then some (.tu [],Z) else none
   | _=>none)
 | _,_=>none
theorem Ed {w:World} {b e:Nat} {dB:Array Value} {fr:Nat×Nat} (h:w.heap[b]? =some (.cells dB e fr)):w.shape? b=some (e,dB.size):=by unfold World.shape?;rw [h]
theorem pCC_ok (args:List AV)(Z:St)(r:AV)(Z':St)(h:pCC args Z=some (r,Z'))(Y:Mu)(w:World)(aO:Array Value)(hs:g_ 10 Y Z w)(hr:aJ Y w args aO.toList):Does Tryz.prog 106 aO w (After 10 Y Z w r Z'):=by
 have hen:=iw Tryz.func106 (by kernel_rfl) (by kernel_rfl)
 unfold pCC at h
 split at h
 ·rename_i o
  obtain⟨v,rfl,b,δ,hb,rfl⟩:=vk hr
  obtain rfl:=hs.low _ _ _ hb
  split at h
  ·rename_i y d bb ho
   cases h
   obtain⟨dB,fr,q1,q2,q3,q4⟩:=hs.cells ho hb
   have q2':0+4<=dB.size:=q2
   obtain⟨v0,r1,r2⟩:=q3 0 .p0 rfl
   simp only [aI] at r2
   subst r2
   have hcell:w.cell? ⟨b,0,none⟩=some (.pointer none):=by rw [cell_of_heap q1];simpa using r1
   have hfz:w.frozen? ⟨b,0,none⟩=false:=by
        have:=q4 rfl 0 (by omega)
        simp only [World.frozen?,q1]
        simpa using this
   refine Does.jT hen ((BU b dB.size (by omega) w hcell (Ed q1) hfz).mono fun e w' he=>?_)
   obtain⟨rfl,rfl⟩:=he
   obtain⟨w2,k1,k2⟩:=Step.store (P:=Tryz.prog) hs ho hb (ys:=[.p o 0 0]) (vs:=[.pointer (some ⟨b,0,none⟩)]) (off:=0) ⟨_,_,rfl,⟨b,0,hb,rfl⟩,rfl⟩ (by simp [Value.oneCell']) (by simp)
   have hw2:w2=w.setCell ⟨b,0,none⟩ (.pointer (some ⟨b,0,none⟩)):=by
        have hrun:(storeCells ⟨b,0,none⟩ [.pointer (some ⟨b,0,none⟩)]).run Tryz.prog w= .ok () (w.setCell ⟨b,0,none⟩ (.pointer (some ⟨b,0,none⟩))):=by
         simp only [storeCells,Addr.add]
         simp
         rw [run_store Tryz.prog w ⟨b,0,none⟩ _ _ (by rfl)]
         simp [hcell,hfz]
        rw [hrun] at k1
        cases k1;rfl
   subst hw2
   exact⟨_,Y,rfl,⟨#[],rfl,rfl⟩,k2⟩
  ·rename_i o2 y d bb ho
   split at h
   ·rename_i heq
    subst heq
    cases h
    obtain⟨dB,fr,q1,q2,q3,q4⟩:=hs.cells ho hb
    obtain⟨v0,r1,r2⟩:=q3 0 (.p o2 0 0) rfl
    obtain⟨b',wL,hb',rfl⟩:=r2
    rw [hb] at hb';cases hb'
    have hcell:w.cell? ⟨b,0,none⟩=some (.pointer (some ⟨b,0,none⟩)):=by rw [cell_of_heap q1];simpa using r1
    refine Does.jT hen ((Eb b w hcell).mono fun e w' he=>?_)
    obtain⟨rfl,rfl⟩:=he
    exact⟨_,Y,rfl,⟨#[],rfl,rfl⟩,Step.refl hs⟩
   ·cases h
  ·cases h
 ·cases h
def xJ:List AV->St->Option (AV×St)
 | [.p o 0 0],Z=>(match (Z[o]? :Option AO) with
   | some ⟨0,false,.cells 79 [_,.sl0,_,_]⟩=>some (.s [],Z)
   | some ⟨0,false,.cells 79 [_,.sl o2 g2 0 n 1,_,_]⟩=>(match (Z[o2]? :Option AO) with
     | some ⟨g3,false,.cells 5 cs⟩=>if g3=g2/\n<=cs.length/\0<n/\n<=4294967296 then(match bytesOf (cs.take n) with
       | some l=>if AV.eqvs (cs.take n) (iM l)=true then some (.s l,Z.set o2 ⟨g2,false,.froz 5 l⟩) else none
       | none=>none) else none
     | some ⟨g3,false,.froz 5 l⟩=>if g3=g2/\l.length=n/\0<n/\n<=4294967296 then some (.s l,Z) else none
     | _=>none)
   | _=>none)
 | _,_=>none
theorem IU (w:World)(a:Addr)(n b e m:Nat)(h:w.shape? b=some (e,m)):(w.freeze a n).shape? b=some (e,m):=by
 unfold World.freeze
 split
 ·exact h
 ·unfold World.shape? at h ⊢
  simp only [Array.getElem?_modify]
  by_cases hab:a.block=b
  ·rw [if_pos hab]
   cases hb:w.heap[b]? with
   | none=>rw [hb] at h;cases h
   | some x=>
     rw [hb] at h
     cases x with
     | cells c el fr=>obtain⟨lo,hi⟩:=fr;simp only [oW,Prod.mk.injEq] at h;simp only [Option.map_eq_map,Option.map_some,oW,Prod.mk.injEq];exact h
     | _=>cases h
  ·rw [if_neg hab];exact h
theorem KW {Y:Mu} {Z:St} {w:World} (hs:g_ 10 Y Z w) {o2:Nat} {a:AO} (ho2:Z[o2]? =some a)(hro:a.ro=false)(hl:a.k.live=true) {b2 BO e:Nat} (hb2:Y o2 a.g=some (b2,BO)) {dB:Array Value} {fr:Nat×Nat} (p1:w.heap[b2]? =some (.cells dB e fr)) {l:List UInt8} (hle:BO+l.length<=dB.size)
 (hx:∀(j:Nat) x,l[j]? =some x->dB[BO+j]? =some (Value.int .u8 x.toNat)) (k:Nat):Step 10 Y Z w Y (Z.set o2 ⟨a.g,false,.froz e l⟩) (w.drew.freeze ⟨b2,BO,none⟩ k):=by
 have hd:=Step.drew hs
 refine hd.trans ?_
 have hsz:(w.drew.freeze ⟨b2,BO,none⟩ k).heap.size=w.drew.heap.size:=by
  unfold World.freeze;split <;> simp
 have hp:w.drew.heap[b2]? =some (.cells dB e fr):=p1
 refine Step.write (Y':=Y) hd.wB ho2 hro hl rfl b2 BO b2 BO hb2 (Nat.le_refl _) (Mu.le_refl Y) hb2 (fun _ _ _ h=>.inl h) (fun b e m h=>IU _ _ _ b e m h) ?_ ?_ ?_ (by rw [hsz];exact Nat.le_refl _) (by rw [hsz];exact lt_of_heap p1) (.inl rfl) (fun k _ hk=>?_) ?_
 ·unfold World.freeze;split <;> rfl
 ·unfold World.freeze;split <;> rfl
 ·unfold World.freeze;split <;> rfl
 ·unfold World.freeze
  split
  ·rfl
  ·simp only [Array.getElem?_modify]
   rw [if_neg (fun h=>hk h.symm)];rfl
 ·show ∃dB fr,(w.drew.freeze ⟨b2,BO,none⟩ k).heap[b2]? =some (.cells dB e fr)/\_
  unfold World.freeze
  split
  ·exact⟨dB,fr,hp,hle,hx⟩
  ·simp only [Array.getElem?_modify,if_true,hp,Option.map_eq_map,Option.map_some]
   obtain⟨lo,hi⟩:=fr
   exact⟨dB,_,rfl,hle,hx⟩
theorem set_self {Z:St} {o:Nat} {a:AO} (h:Z[o]? =some a):Z.set o a=Z:=by
 apply List.ext_getElem?
 intro i
 rw [List.getElem?_set]
 split
 ·rename_i e;subst e
  rw [h]
  split
  ·rfl
  ·rename_i hn;rw [List.getElem?_eq_none (by omega)] at h;cases h
 ·rfl
theorem YR (args:List AV)(Z:St)(r:AV)(Z':St)(h:xJ args Z=some (r,Z'))(Y:Mu)(w:World)(aO:Array Value)(hs:g_ 10 Y Z w)(hr:aJ Y w args aO.toList):Does Tryz.prog 22 aO w (After 10 Y Z w r Z'):=by
 have hen:=iw Tryz.func22 (by kernel_rfl) (by kernel_rfl)
 unfold xJ at h
 split at h
 ·rename_i o
  obtain⟨v,rfl,b,δ,hb,rfl⟩:=vk hr
  obtain rfl:=hs.low _ _ _ hb
  split at h
  ·rename_i y d bb ho
   cases h
   obtain⟨dB,fr,q1,q2,q3,q4⟩:=hs.cells ho hb
   obtain⟨v0,r1,r2⟩:=q3 1 .sl0 rfl
   simp only [aI] at r2
   subst r2
   have hcell:w.cell? ⟨b,1,none⟩=some (.slice none 0 0):=by rw [cell_of_heap q1];simpa using r1
   refine Does.jT hen ((NY b w hcell).mono fun e w' he=>?_)
   obtain⟨rfl,rfl⟩:=he
   exact⟨_,Y,rfl,rfl,Step.drew hs⟩
  ·rename_i y o2 g2 n d bb ho
   split at h
   ·rename_i g3 cs ho2
    split at h
    ·rename_i hc
     obtain⟨rfl,hn,h0,h32⟩:=hc
     split at h
     ·rename_i l hl
      split at h
      ·rename_i heq
       cases h
       have heq:=AV.kN _ _ heq
       have hll:l.length=n:=by
        have:=congrArg List.length heq
        rw [List.length_take] at this
        unfold iM at this
        rw [List.length_map] at this;omega
       obtain⟨dB,fr,q1,q2,q3,q4⟩:=hs.cells ho hb
       obtain⟨v0,r1,r2⟩:=q3 1 (.sl o2 g3 0 n 1) rfl
       obtain⟨b2,BO,off',c,e,m,hb2,rfl,hnc,hoff,hsh,hm⟩:=r2
       have hoff:off'= BO:=by rcases hoff with h | ⟨h,_⟩ <;> omega
       subst hoff
       obtain⟨YS,fr2,p1,p2,p3,p4⟩:=hs.cells ho2 hb2
       have hsh2:=Ed p1
       rw [hsh] at hsh2;cases hsh2
       have hcell:w.cell? ⟨b,1,none⟩=some (.slice (some ⟨b2,off',none⟩) l.length c):=by rw [cell_of_heap q1,hll];simpa using r1
       have hx:∀(j:Nat) x,l[j]? =some x->YS[off'+ j]? =some (Value.int .u8 x.toNat):=fun j x hj=>by
        have hjl:j<n:=by rw [<-hll];exact(List.getElem?_eq_some_iff.1 hj).1
        have hcj:cs[j]? =some (.i .u8 x.toNat):=by
         have h1:(cs.take n)[j]? =some (.i .u8 x.toNat):=by
          rw [heq];unfold iM;rw [List.getElem?_map,hj];rfl
         rw [List.getElem?_take,if_pos hjl] at h1
         exact h1
        obtain⟨y,s1,s2⟩:=p3 _ _ hcj
        simp only [aI] at s2
        rw [s1,s2]
       refine Does.jT hen ((Ec b b2 off' c YS.size l w hcell (by intro hh;rw [hh] at hll;simp at hll;omega) hsh (by omega) (by omega) (by omega) (fun j x hj=>by rw [cell_of_heap p1];exact hx j x hj)).mono fun e w' he=>?_)
       obtain⟨rfl,rfl⟩:=he
       exact⟨_,Y,rfl,rfl,KW hs ho2 rfl rfl hb2 p1 (by omega) hx _⟩
      ·cases h
     ·cases h
    ·cases h
   ·rename_i g3 l ho2
    split at h
    ·rename_i hc
     obtain⟨rfl,hll,h0,h32⟩:=hc
     cases h
     obtain⟨dB,fr,q1,q2,q3,q4⟩:=hs.cells ho hb
     obtain⟨v0,r1,r2⟩:=q3 1 (.sl o2 g3 0 n 1) rfl
     obtain⟨b2,BO,off',c,e,m,hb2,rfl,hnc,hoff,hsh,hm⟩:=r2
     have hoff:off'= BO:=by rcases hoff with h | ⟨h,_⟩ <;> omega
     subst hoff
     obtain⟨b3,δ3,hb3,hrel⟩:=hs.obj _ _ ho2 rfl
     rw [show Y o2 g3=some (b2,off') from hb2] at hb3
     cases hb3
     obtain⟨YS,fr2,p1,p2,hx⟩:=hrel
     have hsh2:=Ed p1
     rw [hsh] at hsh2;cases hsh2
     have hcell:w.cell? ⟨b,1,none⟩=some (.slice (some ⟨b2,off',none⟩) l.length c):=by rw [cell_of_heap q1,hll];simpa using r1
     refine Does.jT hen ((Ec b b2 off' c YS.size l w hcell (by intro hh;rw [hh] at hll;simp at hll;omega) hsh (by omega) (by omega) (by omega) (fun j x hj=>by rw [cell_of_heap p1];exact hx j x hj)).mono fun e w' he=>?_)
     obtain⟨rfl,rfl⟩:=he
     have hst:=KW hs ho2 rfl rfl hb2 p1 p2 hx l.length
     rw [set_self ho2] at hst
     exact⟨_,Y,rfl,rfl,hst⟩
    ·cases h
   ·cases h
  ·cases h
 ·cases h
end Go.Abs.YtlkfbfhkcaldlaaGreatDoor
namespace Go.Abs.YtlkfbfhkcaldlaaGreatDoor
open Go.Proofs
def P6:List AV:=[.i .u8 0,.i .u8 0,.i .u8 0,.i .u8 0,.i .u8 0,.i .u8 0,.i .u8 0,.i .u8 0,.i .u8 0,.i .u8 1,.i .u8 1,.i .u8 1,.i .u8 1,.i .u8 1,.i .u8 0,.i .u8 0,.i .u8 0,.i .u8 0,.i .u8 0,.i .u8 0,.i .u8 0,.i .u8 0,.i .u8 0,.i .u8 0,.i .u8 0,.i .u8 0,.i .u8 0,.i .u8 0,.i .u8 0,.i .u8 0,.i .u8 0,.i .u8 0,.i .u8 1,.i .u8 0,.i .u8 0,.i .u8 0,.i .u8 0,.i .u8 0,.i .u8 0,.i .u8 0,.i .u8 0,.i .u8 0,.i .u8 0,.i .u8 0,.i .u8 0,.i .u8 0,.i .u8 0,.i .u8 0,.i .u8 0,.i .u8 0,.i .u8 0,.i .u8 0,.i .u8 0,.i .u8 0,.i .u8 0,.i .u8 0,.i .u8 0,.i .u8 0,.i .u8 0,.i .u8 0,.i .u8 0,.i .u8 0,.i .u8 0,.i .u8 0,.i .u8 0,.i .u8 0,.i .u8 0,.i .u8 0,.i .u8 0,.i .u8 0,.i .u8 0,.i .u8 0,.i .u8 0,.i .u8 0,.i .u8 0,.i .u8 0,.i .u8 0,.i .u8 0,.i .u8 0,.i .u8 0,.i .u8 0,.i .u8 0,.i .u8 0,.i .u8 0,.i .u8 0,.i .u8 0,.i .u8 0,.i .u8 0,.i .u8 0,.i .u8 0,.i .u8 0,.i .u8 0,.i .u8 0,.i .u8 0,.i .u8 0,.i .u8 0,.i .u8 0,.i .u8 0,.i .u8 0,.i .u8 0,.i .u8 0,.i .u8 0,.i .u8 0,.i .u8 0,.i .u8 0,.i .u8 0,.i .u8 0,.i .u8 0,.i .u8 0,.i .u8 0,.i .u8 0,.i .u8 0,.i .u8 0,.i .u8 0,.i .u8 0,.i .u8 0,.i .u8 0,.i .u8 0,.i .u8 0,.i .u8 0,.i .u8 0,.i .u8 0,.i .u8 0,.i .u8 0,.i .u8 0,.i .u8 0,.i .u8 0,.i .u8 0,.i .u8 0,.i .u8 0,.i .u8 0,.i .u8 0,.i .u8 0,.i .u8 0,.i .u8 0,.i .u8 0,.i .u8 0,.i .u8 0,.i .u8 0,.i .u8 0,.i .u8 0,.i .u8 0,.i .u8 0,.i .u8 0,.i .u8 0,.i .u8 0,.i .u8 0,.i .u8 0,.i .u8 0,.i .u8 0,.i .u8 0,.i .u8 0,.i .u8 0,.i .u8 0,.i .u8 0,.i .u8 0,.i .u8 0,.i .u8 0,.i .u8 0,.i .u8 0,.i .u8 0,.i .u8 0,.i .u8 0,.i .u8 0,.i .u8 0,.i .u8 0,.i .u8 0,.i .u8 0,.i .u8 0,.i .u8 0,.i .u8 0,.i .u8 0,.i .u8 0,.i .u8 0,.i .u8 0,.i .u8 0,.i .u8 0,.i .u8 0,.i .u8 0,.i .u8 0,.i .u8 0,.i .u8 0,.i .u8 0,.i .u8 0,.i .u8 0,.i .u8 0,.i .u8 0,.i .u8 0,.i .u8 0,.i .u8 0,.i .u8 0,.i .u8 0,.i .u8 0,.i .u8 0,.i .u8 0,.i .u8 0,.i .u8 0,.i .u8 0,.i .u8 0,.i .u8 0,.i .u8 0,.i .u8 0,.i .u8 0,.i .u8 0,.i .u8 0,.i .u8 0,.i .u8 0,.i .u8 0,.i .u8 0,.i .u8 0,.i .u8 0,.i .u8 0,.i .u8 0,.i .u8 0,.i .u8 0,.i .u8 0,.i .u8 0,.i .u8 0,.i .u8 0,.i .u8 0,.i .u8 0,.i .u8 0,.i .u8 0,.i .u8 0,.i .u8 0,.i .u8 0,.i .u8 0,.i .u8 0,.i .u8 0,.i .u8 0,.i .u8 0,.i .u8 0,.i .u8 0,.i .u8 0,.i .u8 0,.i .u8 0,.i .u8 0,.i .u8 0,.i .u8 0,.i .u8 0,.i .u8 0,.i .u8 0,.i .u8 0,.i .u8 0,.i .u8 0,.i .u8 0,.i .u8 0,.i .u8 0,.i .u8 0,.i .u8 0,.i .u8 0,.i .u8 0,.i .u8 0,.i .u8 0,.i .u8 0,.i .u8 0]
def dead:AO:=⟨0,true,.dead⟩
def G0:St:=[⟨0,true,.cells 152 P6⟩,dead,dead,dead,⟨0,true,.cells 34 [.ic 194 .u]⟩,⟨0,true,.cells 209 NK⟩,dead,dead,dead,dead]
theorem NZ:lS 10 G0=true:=by decide +kernel
@[reducible] noncomputable def X0:Ctx:=(((XB.add 106 pCC).add 22 xJ).add 104 UM).add 13 KU
theorem Ee:X0.Sound 10:=Ctx.nO (Ctx.nO (Ctx.nO (Ctx.nO Ut _ _ pCC_ok) _ _ YR) _ _ UN) _ _ UO
end Go.Abs.YtlkfbfhkcaldlaaGreatDoor
namespace Go.Abs
open Go.RowKit Go.ChangeShapes
theorem Ef {H:Type} {enc:TypeId×Value->H} {a:Assume} {C:Checked} {os:Os} {f:FuncId} {fn:Func} {s:ChangeSpec} {conds:List PathCond} {apart fresh handsOn again:Bool} {X:World->Array Value->Prop}
 (hX:∀(w w':World) (args:Array Value),w.heap=w'.heap->X w args->X w' args)
 (own:ownKnob C.prog.godebug=none) (started:os.Started) (noInit:C.prog.inits.idxOf? f=none) (hfn:C.prog.funcs[f]? =some fn)
 (witness:∃(w:World) (tape:Tape) (i:Input),w.os=os/\(w.forCall tape i).Shaped C.prog/\i.vars=[]/\Input.okWide C.prog (w.forCall tape i) .any w.heap.size f i/\
  ((s.pre enc C.prog fn conds apart (w.forCall tape i).memory i.args/\X (w.forCall tape i).memory i.args)/\sizedMet enc C.prog fn (OpenSpec.ofChange s) apart (w.forCall tape i).memory i.args)/\a.holds C.prog (lone (Frame.enter C.prog f i.args .normal) [] (w.forCall tape i)))
 (contract:∀(W:World) (base:Nat) (args:Array Value) (ds gs:List (DataW H)) (before:List MemPlace),W.ShapedOpen C.prog->
  (∀(j:Nat) t v,fn.params[j]? =some t->args[j]? =some v->Value.okWide C.prog W .any base t v)->
  DataW.Whole enc C.prog fn.params.toList s.vars apart W args.toList ds gs before->X W args->
  Calls C.prog f args W fun e W'=>∃v,e= .returned v/\s.post enc C.prog fn apart fresh handsOn again W args v W') :
 ReturnsInHanded a C os f .any (fun w args=>(s.pre enc C.prog fn conds apart w args/\X w args)/\sizedMet enc C.prog fn (OpenSpec.ofChange s) apart w args) (s.post enc C.prog fn apart fresh handsOn again):=by
 refine returnsInHanded_of_calls own started noInit witness ?_
 intro w tape i _ hsh _ hok hpre _
 obtain⟨_,_,_,fn',hfn',_,_,_,_,hval⟩:=hok
 have e:fn'= fn:=Option.some.inj (hfn'.symm.trans hfn)
 subst e
 obtain⟨⟨⟨ds,gs,before,hw,_⟩,hx⟩,_⟩:=hpre
 have hw':=DataW.Whole.of_heap (w':=w.forCall tape i) (by rfl) hw
 refine(contract (w.forCall tape i) w.heap.size i.args ds gs before hsh hval hw' (hX _ _ _ (by rfl) hx)).mono fun e W' ⟨v,he,hp⟩=>?_
 subst he
 exact ChangeSpec.post_blind hp
theorem rH {P:Program} {w:World} :∀{l:List (String×DataW Unit)} {ps:List MemPlace},DataW.LaidVars P w l ps->∀n d,(n,d)∈l->∃g t cs fuel p,P.globalNamed n=some g/\(P.globals[g]?).map (·.type)=some t/\w.var? P n=some cs/\DataW.trod (fun _=>()) P w 0 (fun _=>true) false fuel t cs.toList=some (d,p)
 | [],_,_,_,_,hm=>by cases hm
 | (n',d') :: r,ps,h,n,d,hm=>by
   obtain⟨g,t,cs,fuel,p,q,h1,h2,h3,h4,h5,_⟩:=h
   rcases List.mem_cons.1 hm with e | e
   ·cases e
    exact⟨g,t,cs,fuel,p,h1,h2,h3,h4⟩
   ·exact rH h5 n d e
theorem Eh {P:Program} {w:World} {n:String} {g:Nat} {cs:Array Value} (hg:P.globalNamed n=some g)(h:w.var? P n=some cs):∃t fr,w.heap[g]? =some (.cells cs t fr):=by
 simp only [World.var?,hg,Option.bind_some] at h
 split at h
 ·rename_i cs' t fr hh;cases h;exact⟨t,fr,hh⟩
 ·cases h
theorem N7 {P:Program} {w:World} (h:w.ShapedOpen P) {k:Nat} (h1:P.globals.size<=k)(h2:k<(begin P (fun _ _=>0) default).world.heap.size):k<w.heap.size:=by
 obtain⟨o,o0,h3,_⟩:=h.2 k h1 h2
 exact(Array.getElem?_eq_some_iff.1 h3).1
theorem KX {G:Nat} {Y:Mu} {Z Z':St} {w w':World} {r:AV} {e:Ending} (hG:lS G Z=true)(h:After G Y Z w r Z' e w'):∃v Y',e= .returned v/\aI Y' w' r v/\Below w.heap.size w w':=by
 obtain⟨v,Y',h1,h2,h3⟩:=h
 exact⟨v,Y',h1,h2,h3.below fun o a ho hr hl=>by rw [(kF hG ho hl).1] at hr;cases hr⟩
def mu0 (G:Nat):Mu:=fun o g=>if o<G/\g=0 then some (o,0) else none
end Go.Abs
namespace Go.Abs
open Go.RowKit Go.ChangeShapes
variable {G:Nat} {Z:St} {Y:Mu} {w:World}
end Go.Abs
namespace Go.Abs
section
variable {G:Nat} {G0 Z:St} {Y:Mu} {w:World}
end
def slOf:List AV->Option (Nat×Nat×Nat×Nat)
 | [.sl o g 0 n z]=>some (o,g,n,z)
 | _=>none
structure UQ (X:Ctx)(G0:St) where
 f:Nat
 e:Nat
 z:Nat
 g:List AV->Nat->Option AV
 ok:∀cs n v,g cs n=some v->AV.mF cs=true/\v.flat=true/\au X f [.sl G0.length 1 0 n z] (G0 ++ [⟨1,true,.cells e cs⟩]) fun a _=>a=v
def UR {X:Ctx} {G0:St} (f:Nat):List (UQ X G0)->Option (UQ X G0)
 | []=>none
 | l :: ls=>if l.f=f then some l else UR f ls
def UQ.run {X:Ctx} {G0:St} (a:UQ X G0)(args:List AV)(Z:St):Option (AV×St):=
 if nU (Z.take G0.length) G0 then match slOf args with
    | some (o,g,n,z)=>match Z[o]? with
      | some ⟨g',_,.cells e cs⟩=>if g'= g/\e=a.e/\z=a.z/\n*z<=cs.length then(a.g (cs.take (n*z)) n).map (·,Z) else none
      | _=>none
    | none=>none
 else none
@[reducible] def Ctx.reads (X:Ctx) (G0:St) (l:List (UQ X G0)):Ctx:=⟨X.P,X.fns,fun f=>match UR f l with
  | some a=>some a.run
  | none=>X.fM f,X.meth,X.dk⟩
end Go.Abs
namespace Go.Abs
structure GV where
 r:Nat->Nat->AV
 e:Nat
 cs:List AV
def GV.Good (R:GV):Prop:=∀(Y1 Y2:Mu) (w:World) (o g N:Nat) (v:Value),Y2 N 1=Y1 o g->aI Y1 w (R.r o g) v->aI Y2 w (R.r N 1) v
inductive MR where
 | flat (v:AV)
 | new (R:GV)
def jP (e:Nat)(cs:List AV)(Z:St):St:=Z ++ [⟨1,false,.cells e cs⟩]
theorem rJ (e:Nat)(cs:List AV)(Z:St):(jP e cs Z)[Z.length]? =some ⟨1,false,.cells e cs⟩:=by simp [jP]
theorem xK {e:Nat} {cs:List AV} {Z:St} {o:Nat} (h:o<Z.length):(jP e cs Z)[o]? =Z[o]? :=by rw [jP,List.getElem?_append_left h]
theorem Ei (e:Nat)(cs:List AV)(Z:St):(jP e cs Z).length=Z.length+1:=by simp [jP]
theorem Ext.one {Z Z':St} (h:Ext Z Z')(e:Nat)(cs:List AV):Ext Z (jP e cs Z'):=⟨by rw [Ei];have:=h.len;omega,fun i hi=>by rw [xK (by have:=h.len;omega),h.old i hi]⟩
theorem vF {Z:St} {o:Nat} {a:AO} (h:Z[o]? =some a)(e:Nat)(cs:List AV):(jP e cs Z)[o]? =some a:=by rw [xK (bK h)];exact h
section
variable {G:Nat} {G0 Z:St} {Y:Mu} {w:World}
theorem Q_ {l:List AV} {c:AV} (h:AV.mF l=true)(hm:c∈l):c.flat=true:=by
 induction l with
 | nil=>cases hm
 | cons x l ih=>
   simp only [AV.mF,fJ] at h
   rcases List.mem_cons.1 hm with rfl | hm
   ·exact h.1
   ·exact ih h.2 hm
theorem Rf {X:Ctx} (hX:X.Sound G)(hG:lS G G0=true) {f:Nat} {args:List AV} {v:AV} (h:au X f args G0 fun a _=>a=v)(hfa:AV.mF args=true)(hfv:v.flat=true)
 (ht:Z.take G0.length=G0) (hs:g_ G Y Z w) {aO:Array Value} (hr:aJ Y w args aO.toList):Does X.P f aO w (After G Y Z w v Z):=by
 refine(h.ev.does hX (hs.cut hG ht) (aJ.flat _ _ hfa hr)).mono fun e w' ha=>?_
 obtain⟨r,Z',rfl,u,Y1,rfl,hu,hst⟩:=ha
 have hb:=hst.below fun o a ho hr hl=>by rw [(kF hG ho hl).1] at hr;cases hr
 exact⟨u,Y,rfl,aI.flat _ _ hfv hu,Step.of_below hs hb⟩
theorem UU {X:Ctx} (hX:X.Sound G)(hG:lS G G0=true) {f:Nat} {args:List AV} {R:GV} (h:au X f args G0 fun a s=>∃o g,a=R.r o g/\s[o]? =some ⟨g,false,.cells R.e R.cs⟩)(hfa:AV.mF args=true)(hfc:AV.mF R.cs=true)(hgood:R.Good)
 (ht:Z.take G0.length=G0) (hs:g_ G Y Z w) {aO:Array Value} (hr:aJ Y w args aO.toList):Does X.P f aO w (After G Y Z w (R.r Z.length 1) (jP R.e R.cs Z)):=by
 refine(h.ev.does hX (hs.cut hG ht) (aJ.flat _ _ hfa hr)).mono fun e w' ha=>?_
 obtain⟨r,s,⟨o,g,rfl,ho⟩,u,Y1,rfl,hu,hst⟩:=ha
 have hnr:∀(o:Nat) (a:AO),G0[o]? =some a->a.ro=false->a.k.live=true->False:=fun o a ho hr hl=>by rw [(kF hG ho hl).1] at hr;cases hr
 have hb:=hst.below hnr
 have hsb:=Step.of_below hs hb
 obtain⟨b,δ,hb1,hb2⟩:=hst.wB.obj o _ ho rfl
 have hbw:w.heap.size<=b:=by
  rcases Nat.lt_or_ge b w.heap.size with hlt | hge
  ·obtain⟨o2,a2,BO,q1,q2,q3,_⟩:=hst.Tf o _ b δ ho rfl rfl hb1 hlt
   exact(hnr o2 a2 q1 q2 q3).elim
  ·exact hge
 have hbw':=hst.wB.blk _ _ _ _ hb1
 have hGl:G<=Z.length:=by
  have:=congrArg List.length ht
  rw [xI hG,List.length_take] at this;omega
 have hnew:∀g',Y Z.length g'= none:=by
  intro g'
  cases hm:Y Z.length g' with
  | none=>rfl
  | some x=>
    obtain⟨a,h1,_⟩:=hs.dom _ _ _ hm
    rw [List.getElem?_eq_none (Nat.le_refl _)] at h1;cases h1
 let Y2:Mu:=fun o' g'=>if o'= Z.length/\g'= 1 then some (b,δ) else Y o' g'
 have hY2:∀o' g',o'≠Z.length->Y2 o' g'= Y o' g':=fun o' g' hne=>if_neg fun e=>hne e.1
 have hYN:Y2 Z.length 1=some (b,δ):=if_pos ⟨rfl,rfl⟩
 have hYN0:∀g',g'≠1->Y2 Z.length g'= none:=fun g' hne=>(if_neg fun e=>hne e.2).trans (hnew g')
 have hle:Y.le Y2:=fun o' g' x hx=>by
  rcases Nat.decEq o' Z.length with hne | heq
  ·rw [hY2 o' g' hne];exact hx
  ·rw [heq,hnew] at hx;cases hx
 have hold:∀{o':Nat} {a:AO},(jP R.e R.cs Z)[o']? =some a->(o'< Z.length/\Z[o']? =some a)\/(o'= Z.length/\a=⟨1,false,.cells R.e R.cs⟩):=by
  intro o' a h
  rcases Nat.lt_trichotomy o' Z.length with hl | he | hg
  ·rw [xK hl] at h;exact .inl ⟨hl,h⟩
  ·subst he;rw [rJ] at h;cases h;exact .inr ⟨rfl,rfl⟩
  ·rw [List.getElem?_eq_none (by rw [Ei];omega)] at h;cases h
 refine⟨u,Y2,rfl,hgood Y1 Y2 w' o g _ u (by rw [hYN,hb1]) hu,⟨⟨fun o' a ho' hl=>?_,fun o1 o2 a1 a2 b' Ns BO h1 h2 hro hl1 hl2 hm1 hm2=>?_,fun o' g' x hx=>?_,fun o' g' b' wL hb'=>?_,fun g' hg'=>?_,fun o' b' wL hb'=>?_,fun g' e' cs' hg' ho'=>?_⟩,hle,hsb.xq,hsb.os,hsb.tape,hsb.output,hsb.size,fun b' hb' _=>hb.block b' hb',fun o' a b' wL ho' hro hl hm hlt=>?_⟩⟩
 ·rcases hold ho' with ⟨hlt,h⟩ | ⟨rfl,rfl⟩
  ·obtain⟨b',wL,q1,q2⟩:=hsb.wB.obj o' a h hl
   exact⟨b',wL,hle _ _ _ q1,wz.mono hle (kK.refl _) rfl q2⟩
  ·refine⟨b,δ,hYN,?_⟩
   obtain⟨dB,fr,q1,q2,q3,q4⟩:=hb2
   refine⟨dB,fr,q1,q2,fun j c hj=>?_,q4⟩
   obtain⟨v,r1,r2⟩:=q3 j c hj
   exact⟨v,r1,aI.flat c v (Q_ hfc (List.mem_of_getElem? hj)) r2⟩
 ·rcases hold h1 with ⟨l1,q1⟩ | ⟨rfl,rfl⟩
  ·rw [hY2 _ _ (by omega)] at hm1
   rcases hold h2 with ⟨l2,q2⟩ | ⟨rfl,rfl⟩
   ·rw [hY2 _ _ (by omega)] at hm2
    exact hs.inj o1 o2 a1 a2 b' Ns BO q1 q2 hro hl1 hl2 hm1 hm2
   ·have e1:some (b,δ)=some (b',BO):=hYN.symm.trans hm2
    cases e1
    have:=hs.blk _ _ _ _ hm1;omega
  ·have e1:some (b,δ)=some (b',Ns):=hYN.symm.trans hm1
   cases e1
   rcases hold h2 with ⟨l2,q2⟩ | ⟨rfl,rfl⟩
   ·rw [hY2 _ _ (by omega)] at hm2
    have:=hs.blk _ _ _ _ hm2;omega
   ·rfl
 ·rcases Nat.decEq o' Z.length with hne | heq
  ·rw [hY2 o' g' hne] at hx
   obtain⟨a,q1,q2⟩:=hs.dom _ _ _ hx
   exact⟨a,vF q1 _ _,q2⟩
  ·subst heq
   refine⟨_,rJ _ _ _,?_⟩
   have:g'= 1:=by
        rcases Nat.decEq g' 1 with hne | h0
        ·rw [hYN0 g' hne] at hx;cases hx
        ·exact h0
   show g'<=1
   omega
 ·rcases Nat.decEq o' Z.length with hne | heq
  ·rw [hY2 o' g' hne] at hb'
   exact Nat.lt_of_lt_of_le (hs.blk _ _ _ _ hb') hb.size
  ·subst heq
   rcases Nat.decEq g' 1 with hne | h0
   ·rw [hYN0 g' hne] at hb';cases hb'
   ·subst h0
    rw [hYN] at hb';cases hb';exact hbw'
 ·exact hle _ _ _ (hs.xk g' hg')
 ·rcases Nat.decEq o' Z.length with hne | heq
  ·rw [hY2 o' 0 hne] at hb'
   exact hs.low _ _ _ hb'
  ·subst heq
   rw [hYN0 0 (by decide)] at hb';cases hb'
 ·rcases hold ho' with ⟨_,h⟩ | ⟨_,h⟩
  ·exact hsb.wB.full g' e' cs' hg' h
  ·cases h
 ·rcases hold ho' with ⟨hl',q⟩ | ⟨rfl,rfl⟩
  ·rw [hY2 _ _ (by omega)] at hm
   exact⟨o',a,wL,q,hro,hl,hm⟩
  ·have e1:some (b,δ)=some (b',wL):=hYN.symm.trans hm
   cases e1
   omega
end
structure FH (X:Ctx)(G0:St) where
 f:Nat
 g:List AV->Option MR
 okF:∀args v,g args=some (.flat v)->AV.mF args=true/\v.flat=true/\au X f args G0 fun a _=>a=v
 okN:∀args R,g args=some (.new R)->AV.mF args=true/\AV.mF R.cs=true/\R.Good/\au X f args G0 fun a s=>∃o g,a=R.r o g/\s[o]? =some ⟨g,false,.cells R.e R.cs⟩
def FH.run {X:Ctx} {G0:St} (a:FH X G0)(args:List AV)(Z:St):Option (AV×St):=
 if nU (Z.take G0.length) G0 then match a.g args with
    | some (.flat v)=>some (v,Z)
    | some (.new R)=>some (R.r Z.length 1,jP R.e R.cs Z)
    | none=>none
 else none
@[reducible] def Ctx.makes (X:Ctx) (G0:St) (a:FH X G0):Ctx:=⟨X.P,X.fns,fun f=>match Nat.beq f a.f with | true=>some a.run | false=>X.fM f,X.meth,X.dk⟩
theorem Ctx.BG {X:Ctx} {G:Nat} {G0:St} (hX:X.Sound G)(hG:lS G G0=true)(a:FH X G0)(hdk:∀f,X.dk f=true->Nat.beq f a.f=false:=by first | exact fun _ h=>absurd h Bool.false_ne_true | exact fun f h=>by obtain rfl:=wJ h;rfl):(X.makes G0 a).Sound G where
 draws:=hX.draws
 SS:=fun f h=>⟨by show (match Nat.beq f a.f with | true=>some a.run | false=>X.fM f)=none;rw [hdk f h];exact(hX.SS f h).1,(hX.SS f h).2⟩
 fns:=fun f F hp hf=>hX.fns f F (by
  have hp':(match Nat.beq f a.f with | true=>some a.run | false=>X.fM f)=none:=hp
  split at hp'
  ·cases hp'
  ·exact hp') hf
 ok:={
  meth:=hX.ok.meth
  fM:=by
    intro f g hf args Z r Z' hg Y w aO hs hr
    have hf':(match Nat.beq f a.f with | true=>some a.run | false=>X.fM f)=some g:=hf
    split at hf'
    ·rename_i he
     obtain rfl:=wJ he
     cases hf'
     unfold FH.run at hg
     split at hg
     ·rename_i ht
      split at hg
      ·rename_i v hv
       cases hg
       obtain⟨h1,h2,h3⟩:=a.okF _ _ hv
       exact Rf hX hG h3 h1 h2 (mD _ _ ht) hs hr
      ·rename_i R hv
       cases hg
       obtain⟨h1,h2,h3,h4⟩:=a.okN _ _ hv
       exact UU hX hG h4 h1 h2 h3 (mD _ _ ht) hs hr
      ·cases hg
     ·cases hg
    ·exact hX.ok.fM f g hf' args Z r Z' hg Y w aO hs hr }
theorem au.madeN {X:Ctx} {G0:St} {args:List AV} {Z:St} {Q:AV->St->Prop} (a:FH X G0) {f:Nat} (hf:Nat.beq f a.f=true) {R:GV} (hv:a.g args=some (.new R))(ht:Z.take G0.length=G0)(q:Q (R.r Z.length 1) (jP R.e R.cs Z)):au (X.makes G0 a) f args Z Q:=by
 constructor
 rw [kR (g:=a.run) (by simp only [Ctx.makes,hf])]
 refine⟨(_,_),?_,q⟩
 unfold FH.run
 rw [if_pos (by rw [ht];exact nV _),hv];rfl
end Go.Abs
namespace Go.Abs
structure LawQ (X:Ctx)(G0:St) where
 f:Nat
 z:Nat
 g:List AV->Nat->Option AV
 v0:AV
 ok:∀e cs n v,g cs n=some v->AV.mF cs=true/\v.flat=true/\au X f [.sl G0.length 1 0 n z] (G0 ++ [⟨1,true,.cells e cs⟩]) fun a _=>a=v
 ok0:v0.flat=true/\au X f [.sl0] G0 fun a _=>a=v0
def LawQ.run {X:Ctx} {G0:St} (a:LawQ X G0)(args:List AV)(Z:St):Option (AV×St):=
 if nU (Z.take G0.length) G0 then match args with
    | [.sl0]=>some (a.v0,Z)
    | [.sl o g 0 n z]=>match (Z[o]? :Option AO) with
      | some ⟨g',_,.cells _ cs⟩=>if g'= g/\z=a.z/\n*z<=cs.length then(a.g (cs.take (n*z)) n).map (·,Z) else none
      | _=>none
    | _=>none
 else none
@[reducible] def Ctx.looks (X:Ctx) (G0:St) (a:LawQ X G0):Ctx:=⟨X.P,X.fns,fun f=>match Nat.beq f a.f with | true=>some a.run | false=>X.fM f,X.meth,X.dk⟩
end Go.Abs
namespace Go.Abs
structure IV (X:Ctx)(G:Nat)(G0:St) where
 f:Nat
 v:AV
 flat:v.flat=true
 does:∀(Y:Mu) (w:World),g_ G Y G0 w->Does X.P f #[] w fun e w'=>∃(r:AV) (Z':St),r=v/\After G Y G0 w r Z' e w'
section
variable {X:Ctx} {G:Nat} {G0 Z:St} {Y:Mu} {w:World}
def IV.run (a:IV X G G0)(args:List AV)(Z:St):Option (AV×St):=match args with
 | []=>if nU (Z.take G0.length) G0 then some (a.v,Z) else none
 | _=>none
theorem Ri (hG:lS G G0=true) {f:Nat} {v:AV} (h:∀(Y:Mu) (w:World),g_ G Y G0 w->Does X.P f #[] w fun e w'=>∃(r:AV) (Z':St),r=v/\After G Y G0 w r Z' e w')(hfv:v.flat=true)
 (ht:Z.take G0.length=G0) (hs:g_ G Y Z w):Does X.P f #[] w (After G Y Z w v Z):=by
 refine(h _ _ (hs.cut hG ht)).mono fun e w' ha=>?_
 obtain⟨r,Z',rfl,u,Y1,rfl,hu,hst⟩:=ha
 have hb:=hst.below fun o a ho hr hl=>by rw [(kF hG ho hl).1] at hr;cases hr
 exact⟨u,Y,rfl,aI.flat _ _ hfv hu,Step.of_below hs hb⟩
@[reducible] def Ctx.ran (X:Ctx) (a:IV X G G0):Ctx:=⟨X.P,X.fns,fun f=>match Nat.beq f a.f with | true=>some a.run | false=>X.fM f,X.meth,X.dk⟩
theorem Ctx.Rj (hX:X.Sound G)(hG:lS G G0=true)(a:IV X G G0)(hdk:∀f,X.dk f=true->Nat.beq f a.f=false:=by first | exact fun _ h=>absurd h Bool.false_ne_true | exact fun f h=>by obtain rfl:=wJ h;rfl):(X.ran a).Sound G where
 draws:=hX.draws
 SS:=fun f h=>⟨by show (match Nat.beq f a.f with | true=>some a.run | false=>X.fM f)=none;rw [hdk f h];exact(hX.SS f h).1,(hX.SS f h).2⟩
 fns:=fun f F hp hf=>hX.fns f F (by
  have hp':(match Nat.beq f a.f with | true=>some a.run | false=>X.fM f)=none:=hp
  split at hp'
  ·cases hp'
  ·exact hp') hf
 ok:={
  meth:=hX.ok.meth
  fM:=by
    intro f g hf args Z r Z' hg Y w aO hs hr
    have hf':(match Nat.beq f a.f with | true=>some a.run | false=>X.fM f)=some g:=hf
    split at hf'
    ·rename_i he
     obtain rfl:=wJ he
     cases hf'
     unfold IV.run at hg
     split at hg
     ·split at hg
      ·rename_i ht
       cases hg
       have hc:aO= #[]:=by
        cases aO with
        | mk l=>
          cases l with
          | nil=>rfl
          | cons x l=>cases hr
       subst hc
       exact Ri hG a.does a.flat (mD _ _ ht) hs
      ·cases hg
     ·cases hg
    ·exact hX.ok.fM f g hf' args Z r Z' hg Y w aO hs hr }
theorem au.ran (a:IV X G G0) {f:Nat} (hf:Nat.beq f a.f=true) {Q:AV->St->Prop} (ht:Z.take G0.length=G0)(q:Q a.v Z):au (X.ran a) f [] Z Q:=by
 constructor
 rw [kR (g:=a.run) (by simp only [Ctx.ran,hf])]
 refine⟨(a.v,Z),?_,q⟩
 unfold IV.run
 simp only
 rw [if_pos (by rw [ht];exact nV _)]
end
end Go.Abs
