/- Texts of this claim, joined: Abs26, Abs38, Dg. -/
import Derived.Test.YtlkfbfhkcaldlaaGreatDoorM06
import Derived.Test.YtlkfbfhkcaldlaaGreatDoorM05
import Derived.Lib.ItoaMem
import Derived.Lib.Walk
import Derived.WalkKit
import Derived.BigCall
import Derived.BigGuard
import Derived.Deep.RegionHeld
import Derived.Lib.ItoaNum
set_option linter.unusedVariables false
set_option linter.unusedSimpArgs false
namespace Go.Abs
mutual
def AV.under (n:Nat):AV->Bool
 | .p o _ _=>Nat.blt o n
 | .sl o _ _ _ _=>Nat.blt o n
 | .mp o _=>Nat.blt o n
 | .fn _ a c=>AV.ou n a && AV.ou n c
 | .ic _ v=>v.under n
 | .cd _ v=>v.under n
 | .ag a=>AV.ou n a
 | .tu a=>AV.ou n a
 | _=>true
def AV.ou (n:Nat):List AV->Bool
 | []=>true
 | a :: l=>a.under n && AV.ou n l
end
mutual
theorem aI.under {Y Y':Mu} {w:World} {n:Nat} (hm:∀o g,o<n->Y' o g=Y o g):∀(a:AV) (v:Value),a.under n=true->aI Y w a v->aI Y' w a v:=by
 intro a v hf h
 match a with
 | .u=>trivial
 | .b _ | .i _ _ | .s _ | .p0 | .sl0 | .fn0 | .ic0 | .mp0=>simpa [aI] using h
 | .p o g off=>
   obtain⟨b,δ,h1,h2⟩:=h
   exact⟨b,δ,by rw [hm o g (lQ (by simpa [AV.under] using hf))];exact h1,h2⟩
 | .sl o g off n z=>
   obtain⟨b,δ,off',c,e,m,h1,h2⟩:=h
   exact⟨b,δ,off',c,e,m,by rw [hm o g (lQ (by simpa [AV.under] using hf))];exact h1,h2⟩
 | .mp o g=>
   obtain⟨b,h1,h2⟩:=h
   exact⟨b,by rw [hm o g (lQ (by simpa [AV.under] using hf))];exact h1,h2⟩
 | .fn f xs ys=>
   simp only [AV.under,fJ] at hf
   obtain⟨a,c,h1,h2,h3⟩:=h
   exact⟨a,c,h1,aJ.under hm _ _ hf.1 h2,aJ.under hm _ _ hf.2 h3⟩
 | .ic t x=>obtain⟨y,h1,h2⟩:=h;exact⟨y,h1,aI.under hm _ _ (by simpa [AV.under] using hf) h2⟩
 | .ag xs=>obtain⟨y,h1,h2⟩:=h;exact⟨y,h1,aJ.under hm _ _ (by simpa [AV.under] using hf) h2⟩
 | .tu xs=>obtain⟨y,h1,h2⟩:=h;exact⟨y,h1,aJ.under hm _ _ (by simpa [AV.under] using hf) h2⟩
 | .cd c x=>
   cases c with
   | true=>simp only [aI,if_true] at h ⊢;exact aI.under hm _ _ (by simpa [AV.under] using hf) h
   | false=>simpa [aI] using h
theorem aJ.under {Y Y':Mu} {w:World} {n:Nat} (hm:∀o g,o<n->Y' o g=Y o g):∀(l:List AV) (v:List Value),AV.ou n l=true->aJ Y w l v->aJ Y' w l v:=by
 intro l v hf h
 match l with
 | []=>simpa [aJ] using h
 | x :: xs=>
   simp only [AV.ou,fJ] at hf
   obtain⟨y,ys,h1,h2,h3⟩:=h
   exact⟨y,ys,h1,aI.under hm _ _ hf.1 h2,aJ.under hm _ _ hf.2 h3⟩
end
theorem D_ {n:Nat} :∀{l:List AV} {c:AV},AV.ou n l=true->c∈l->c.under n=true
 | a :: l,c,h,hc=>by
   simp only [AV.ou,fJ] at h
   rcases List.mem_cons.1 hc with rfl | hc
   ·exact h.1
   ·exact D_ h.2 hc
def lS (G:Nat)(Z:St):Bool:=Nat.beq Z.length G && Z.all fun a=>match a.k with
 | .cells _ cs=>a.ro && AV.ou G cs
 | .dead=>true
 | _=>false
def BD (G:Nat)(Y:Mu):Mu:=fun o g=>if o<G then Y o g else none
section
variable {G:Nat} {G0 Z:St} {Y:Mu} {w:World}
theorem vC (ht:Z.take G0.length=G0) {o:Nat} (ho:o<G0.length):Z[o]? =G0[o]? :=by
 have h:=congrArg (fun l=>l[o]?) ht
 simpa [List.getElem?_take,ho] using h
theorem xI (h:lS G G0=true):G0.length=G:=by
 simp only [lS,fJ] at h;exact wJ h.1
theorem kF (h:lS G G0=true) {o:Nat} {a:AO} (ho:G0[o]? =some a)(hl:a.k.live=true):a.ro=true/\∃e cs,a.k= .cells e cs/\AV.ou G cs=true:=by
 simp only [lS,fJ,List.all_eq_true] at h
 have:=h.2 a (List.mem_of_getElem? ho)
 obtain⟨g,ro,k⟩:=a
 cases k with
 | cells e cs=>simp only [fJ] at this;exact⟨this.1,e,cs,rfl,this.2⟩
 | dead=>cases hl
 | iter _ _=>cases this
 | maps _=>cases this
 | froz _ _=>cases this
theorem g_.cut (hs:g_ G Y Z w)(hG:lS G G0=true)(ht:Z.take G0.length=G0):g_ G (BD G Y) G0 w:=by
 have hlen:=xI hG
 have hmu:∀o g,o<G->BD G Y o g=Y o g:=fun o g h=>by unfold BD;rw [if_pos h]
 have hlt:∀{o:Nat} {a:AO},G0[o]? =some a->o<G:=fun h=>by
  have:=(List.getElem?_eq_some_iff.1 h).1;omega
 refine⟨fun o a ho hl=>?_,fun o o' a a' b δ wL ho ho' hr hl hl' h1 h2=>?_,fun o g x hx=>?_,fun o g b δ hb=>?_,fun g hg=>?_,fun o b δ hb=>?_,fun g e cs hg ho=>hs.full g e cs hg (by rw [vC ht (by omega)];exact ho)⟩
 ·obtain⟨hr,e,cs,hk,hb⟩:=kF hG ho hl
  have ho':Z[o]? =some a:=by rw [vC ht (by have:=hlt ho;omega)];exact ho
  obtain⟨b,δ,h1,h2⟩:=hs.obj o a ho' hl
  refine⟨b,δ,by rw [hmu _ _ (hlt ho)];exact h1,?_⟩
  unfold wz at h2 ⊢
  rw [hk] at h2 ⊢
  obtain⟨dB,fr,q1,q2,q3,q4⟩:=h2
  refine⟨dB,fr,q1,q2,fun j c hj=>?_,q4⟩
  obtain⟨v,r1,r2⟩:=q3 j c hj
  exact⟨v,r1,aI.under hmu c v (D_ hb (List.mem_of_getElem? hj)) r2⟩
 ·rw [(kF hG ho hl).1] at hr;cases hr
 ·unfold BD at hx
  split at hx
  ·rename_i h
   obtain⟨a,h1,h2⟩:=hs.dom o g x hx
   exact⟨a,by rw [<-vC ht (by omega)];exact h1,h2⟩
  ·cases hx
 ·unfold BD at hb
  split at hb
  ·exact hs.blk o g b δ hb
  ·cases hb
 ·rw [hmu _ _ hg];exact hs.xk g hg
 ·unfold BD at hb
  split at hb
  ·exact hs.low _ _ _ hb
  ·cases hb
end
structure Law (X:Ctx)(G0:St) where
 f:Nat
 g:List AV->Option AV
 ok:∀args v,g args=some v->AV.mF args=true/\v.flat=true/\au X f args G0 fun a s=>a=v/\s=G0
def UL {X:Ctx} {G0:St} (f:Nat):List (Law X G0)->Option (Law X G0)
 | []=>none
 | l :: ls=>if l.f=f then some l else UL f ls
@[reducible] def Ctx.knows (X:Ctx) (G0:St) (l:List (Law X G0)):Ctx:=⟨X.P,X.fns,fun f=>match UL f l with
  | some a=>some fun args Z=>if nU (Z.take G0.length) G0 then(a.g args).map (·,Z) else none
  | none=>X.fM f,X.meth,X.dk⟩
theorem au.law {X:Ctx} {G0:St} {l:List (Law X G0)} {f:Nat} {args:List AV} {Z:St} {Q:AV->St->Prop} (a:Law X G0)(ha:UL f l=some a) {v:AV} (hv:a.g args=some v)(ht:Z.take G0.length=G0)(q:Q v Z):au (X.knows G0 l) f args Z Q:=by
 constructor
 rw [kR (g:=fun args Z=>if nU (Z.take G0.length) G0 then(a.g args).map (·,Z) else none) (by simp only [Ctx.knows,ha])]
 exact⟨(v,Z),by simp [ht,hv],q⟩
theorem Q9 {τ:pR} {t o g off e:Nat} {T:AT} {Z:St} {cs:List AV} {y:AV} (hT:τ t=some T)(ho:Z[o]? =some ⟨g,false,.cells e cs⟩)(hl:y.cells.length=T.size)(h1:y.cells.all AV.one=true)(hc:off+T.size<=cs.length) :
 aStore (τ t) (.p o g off) y Z=some (Z.set o ⟨g,false,.cells e (setCells cs off y.cells)⟩):=by
 rw [hT]
 simp only [aStore,ho]
 rw [if_pos ⟨trivial,trivial,hl,h1,hc⟩]
theorem aC {τ:pR} {t o g off e:Nat} {T:AT} {Z:St} {cs:List AV} {y:AV} (cs':List AV)(hT:τ t=some T)(ho:Z[o]? =some ⟨g,false,.cells e cs⟩)(hl:y.cells.length=T.size)(h1:y.cells.all AV.one=true)(hc:off+T.size<=cs.length)(hs:setCells cs off y.cells=cs') :
 aStore (τ t) (.p o g off) y Z=some (Z.set o ⟨g,false,.cells e cs'⟩):=by
 rw [<-hs];exact Q9 hT ho hl h1 hc
theorem ah {Z:St} {o g e:Nat} {ro:Bool} {cs:List AV} (ho:Z[o]? =some ⟨g,ro,.cells e cs⟩):cellsAt Z o g=some cs:=by simp [cellsAt,ho]
theorem aG (e:Nat)(cs:List AV)(Z:St):(newCells e cs Z)[Z.length]? =some ⟨0,false,.cells e cs⟩:=by simp [newCells]
theorem eu {e:Nat} {cs:List AV} {Z:St} {o:Nat} (h:o<Z.length):(newCells e cs Z)[o]? =Z[o]? :=by rw [newCells,List.getElem?_append_left h]
theorem YQ {Z:St} {o:Nat} (a:AO)(h:o<Z.length):(Z.set o a)[o]? =some a:=by simp [h]
theorem aH (e:Nat)(cs:List AV)(Z:St):(newCells e cs Z).length=Z.length+1:=by simp [newCells]
theorem mO (e:Nat)(cs:List AV)(Z:St):cellsAt (newCells e cs Z) Z.length 0=some cs:=by simp [cellsAt,newCells]
theorem aax (e:Nat)(cs:List AV)(Z:St)(n:Nat)(h:n<=Z.length):(newCells e cs Z).take n=Z.take n:=by simp [newCells,List.take_append,Nat.sub_eq_zero_of_le h]
structure Ext (Z Z':St):Prop where
 len:Z.length<=Z'.length
 old:∀i,i<Z.length->Z'[i]? =Z[i]?
theorem Ext.refl (Z:St):Ext Z Z:=⟨Nat.le_refl _,fun _ _=>rfl⟩
theorem Ext.trans {a b c:St} (h:Ext a b)(k:Ext b c):Ext a c:=⟨Nat.le_trans h.len k.len,fun i hi=>by rw [k.old i (Nat.lt_of_lt_of_le hi h.len),h.old i hi]⟩
theorem Ext.new {Z Z':St} (h:Ext Z Z')(e:Nat)(cs:List AV):Ext Z (newCells e cs Z'):=⟨by rw [aH];have:=h.len;omega,fun i hi=>by rw [eu (by have:=h.len;omega),h.old i hi]⟩
theorem Ext.set {Z Z':St} (h:Ext Z Z') {o:Nat} (ho:Z.length<=o)(a:AO):Ext Z (Z'.set o a):=⟨by rw [gK];exact h.len,fun i hi=>by rw [rZ (by omega),h.old i hi]⟩
theorem Ext.take {Z Z':St} (h:Ext Z Z'):Z'.take Z.length=Z:=by
 apply List.ext_getElem?
 intro i
 rw [List.getElem?_take]
 split
 ·rename_i hi;exact h.old i hi
 ·rename_i hi;exact(List.getElem?_eq_none (by omega)).symm
theorem Ext.get {Z Z':St} (h:Ext Z Z') {o:Nat} {a:AO} (ho:Z[o]? =some a):Z'[o]? =some a:=by rw [h.old o (List.getElem?_eq_some_iff.1 ho).1];exact ho
theorem bK {Z:St} {o:Nat} {a:AO} (h:Z[o]? =some a):o<Z.length:=(List.getElem?_eq_some_iff.1 h).1
theorem at_new {Z:St} {o:Nat} {a:AO} (h:Z[o]? =some a)(e:Nat)(cs:List AV):(newCells e cs Z)[o]? =some a:=by rw [eu (bK h)];exact h
theorem aK {Z:St} {o o':Nat} {a:AO} (h:Z[o]? =some a)(hn:o'≠o)(b:AO):(Z.set o' b)[o]? =some a:=by rw [rZ hn];exact h
theorem at_set {Z:St} {o:Nat} {a:AO} (h:Z[o]? =some a)(b:AO):(Z.set o b)[o]? =some b:=YQ b (bK h)
theorem oC {Z:St} {o g e:Nat} {cs:List AV} (h:Z[o]? =some ⟨g,false,.cells e cs⟩):KO Z o g e=some cs:=by simp [KO,h]
theorem kG {Z:St} {o g off n z e:Nat} {ro:Bool} {cs:List AV} (h:Z[o]? =some ⟨g,ro,.cells e cs⟩)(hl:off+n*z<=cs.length):srcCells z (.sl o g off n z) Z=some (n,(cs.drop off).take (n*z)):=by
 simp [srcCells,cellsAt,h,hl]
theorem ak {α:Type} {o:Option α} {v:α} {Q:α->Prop} (h:o=some v)(q:Q v):om o Q:=by rw [h];exact q
theorem aj {τ:pR} {t o g off:Nat} {T:AT} {Z:St} {cs:List AV} {v:AV} (hT:τ t=some T)(ha:T.d.agg=false)(ho:cellsAt Z o g=some cs)(hc:cs[off]? =some v):aLoad (τ t) (.p o g off) Z=some v:=by
 rw [hT]
 simp only [aLoad,ho,Option.bind_some,partOf,ha]
 exact hc
theorem gU {τ:pR} {t o g off:Nat} {T:AT} {Z:St} {cs:List AV} (hT:τ t=some T)(ha:T.d.agg=true)(ho:cellsAt Z o g=some cs)(hc:off+T.size<=cs.length):aLoad (τ t) (.p o g off) Z=some (.ag ((cs.drop off).take T.size)):=by
 rw [hT]
 simp only [aLoad,ho,Option.bind_some,partOf,ha,if_true,hc]
end Go.Abs
namespace Go.Abs
@[reducible] def Ctx.add (X:Ctx) (f0:Nat) (g:List AV->St->Option (AV×St)):Ctx:=⟨X.P,X.fns,fun f=>match Nat.beq f f0 with | true=>some g | false=>X.fM f,X.meth,X.dk⟩
theorem Ctx.nO {X:Ctx} {G:Nat} (hX:X.Sound G)(f0:Nat)(g0:List AV->St->Option (AV×St))(hg0:∀(args:List AV) (Z:St) (r:AV) (Z':St),g0 args Z=some (r,Z')->∀(Y:Mu) (w:World) (aO:Array Value),g_ G Y Z w->aJ Y w args aO.toList->Does X.P f0 aO w (After G Y Z w r Z'))(hdk:∀f,X.dk f=true->Nat.beq f f0=false:=by first | exact fun _ h=>absurd h Bool.false_ne_true | exact fun f h=>by obtain rfl:=wJ h;rfl):(X.add f0 g0).Sound G where
 draws:=hX.draws
 SS:=fun f h=>⟨by show (match Nat.beq f f0 with | true=>some g0 | false=>X.fM f)=none;rw [hdk f h];exact(hX.SS f h).1,(hX.SS f h).2⟩
 fns:=fun f F hp hf=>hX.fns f F (by
  have hp':(match Nat.beq f f0 with | true=>some g0 | false=>X.fM f)=none:=hp
  split at hp'
  ·cases hp'
  ·exact hp') hf
 ok:={
  meth:=hX.ok.meth
  fM:=by
    intro f g hf args Z r Z' hg Y w aO hs hr
    have hf':(match Nat.beq f f0 with | true=>some g0 | false=>X.fM f)=some g:=hf
    split at hf'
    ·rename_i he
     obtain rfl:=wJ he
     cases hf'
     exact hg0 args Z r Z' hg Y w aO hs hr
    ·exact hX.ok.fM f g hf' args Z r Z' hg Y w aO hs hr }
end Go.Abs
set_option maxRecDepth 100000
namespace Go.Abs.YtlkfbfhkcaldlaaGreatDoor
open Go.Abs Go.Proofs Go.RowKit Go.Sort Go.Lib
theorem rG (W:World)(b:Nat)(x:UInt8)(h:W.cell? ⟨b,0,none⟩=some (.int .u8 (x.toNat:Int))) :
 (convert 75 9 (.slice (some ⟨b,0,none⟩) 1 1)).run Tryz.prog W= .ok (.string ⟨#[x]⟩) W:=by
 have h1:=run_convert_bytes_back (P:=Tryz.prog) W 75 9 5 ⟨b,0,none⟩ 1 [x] Tryz.underlying75 Tryz.underlying5 Tryz.underlying9 (fun j hj=>by
  have hj0:j=0:=by simp at hj;exact hj
  subst hj0
  exact h)
 exact h1
theorem KR {n:Nat} (h:¬n<10):decDigits n=decDigits (n / 10) ++ [UInt8.ofNat (48+n%10)]:=by rw [decDigits,dif_neg h]
theorem BF (u:Nat)(hu:u<18446744073709551616):∀(w:World),
 Calls Tryz.prog 104 #[.int .u64 u] w fun e w'=>e= .returned (.string ⟨(Lib.decDigits u).toArray⟩)/\∃k os,w'= grow (w.drewN k) os:=by
 intro w
 by_cases hb:u<10
 ·have hd:Lib.decDigits u=[UInt8.ofNat (48+u)]:=by rw [Lib.decDigits,dif_pos hb]
  have h8:((UInt8.ofNat (48+u)).toNat:Int)=48+(u:Int):=by
   rw [UInt8.toNat_ofNat'];omega
  have hcv:(convert 75 9 (.slice (some ⟨w.heap.size,0,none⟩) 1 1)).run Tryz.prog (w.alloc (.cells #[.int .u8 (48+(u:Int))] 5))= .ok (.string ⟨(Lib.decDigits u).toArray⟩) (w.alloc (.cells #[.int .u8 (48+(u:Int))] 5)):=by
   rw [hd]
   exact rG _ _ _ (by rw [h8,World.cell?_alloc_new];rfl)
  clear hd h8
  generalize (⟨(Lib.decDigits u).toArray⟩:ByteArray)=S at hcv ⊢
  go_enter Tryz.func104,Tryz.ntmps104
  go_wp2
  go_ret
  refine⟨rfl,0,#[.cells #[.int .u8 (48+(u:Int))] 5],?_⟩
  rw [alloc_eq_grow];rfl
 ·have ih:=BF (u / 10) (by omega)
  have e10:((u / 10:Nat):Int)=(u:Int) / 10:=by omega
  have ew:IntKind.u64.wrap ((u:Int) / 10)=((u / 10:Nat):Int):=by rw [wrap_u64 (by omega) (by omega)];omega
  have e48:IntKind.u8.wrap (IntKind.u64.wrap (48+(u:Int).tmod 10))=48+(u:Int)%10:=by
   rw [Int.tmod_eq_emod_of_nonneg (by omega),wrap_u64 (by omega) (by omega),wrap_u8 (by omega) (by omega)]
  rw [<-ew] at ih
  have hcv:∀(W:World) (b:Nat),W.cell? ⟨b,0,none⟩=some (.int .u8 (IntKind.u8.wrap (IntKind.u64.wrap (48+(u:Int).tmod 10))))->(convert 75 9 (.slice (some ⟨b,0,none⟩) 1 1)).run Tryz.prog W= .ok (.string ⟨#[UInt8.ofNat (48+u%10)]⟩) W:=by
   intro W b h
   refine rG _ _ _ ?_
   rw [h,e48]
   have:((UInt8.ofNat (48+u%10)).toNat:Int)=48+(u:Int)%10:=by rw [UInt8.toNat_ofNat'];omega
   rw [this]
  have hap:(⟨(Lib.decDigits u).toArray⟩:ByteArray)=⟨(Lib.decDigits (u / 10)).toArray⟩ ++ ⟨#[UInt8.ofNat (48+u%10)]⟩:=by
   rw [KR hb];apply ByteArray.ext;simp [ByteArray.data_append]
  have hsz:((⟨(Lib.decDigits (u / 10)).toArray⟩:ByteArray).size:Int)<=20:=by
   show (((Lib.decDigits (u / 10)).toArray.size:Nat):Int)<=20
   rw [List.size_toArray,Lib.decDigits_length]
   have:=Lib.numDigits_eq (u / 10) (by omega) (by omega);split at this <;> omega
  rw [hap]
  clear hap e10 ew e48
  generalize (⟨(Lib.decDigits (u / 10)).toArray⟩:ByteArray)=S at ih hsz ⊢
  generalize UInt8.ofNat (48+u%10)=x at hcv ⊢
  have hcw:∀(k:Nat) (os:Array Obj),(convert 75 9 (.slice (some ⟨w.heap.size,0,none⟩) 1 1)).run Tryz.prog (Go.Sort.grow ((w.alloc (.cells #[.int .u8 (IntKind.u8.wrap (IntKind.u64.wrap (48+(u:Int).tmod 10)))] 5)).drewN k) os)= .ok (.string ⟨#[x]⟩) (Go.Sort.grow ((w.alloc (.cells #[.int .u8 (IntKind.u8.wrap (IntKind.u64.wrap (48+(u:Int).tmod 10)))] 5)).drewN k) os):=fun k os=>hcv _ _ (by
   rw [Go.Sort.cell?_grow _ _ _ (by show w.heap.size<(w.alloc _).heap.size;simp),World.cell?_drewN,World.cell?_alloc_new];rfl)
  go_enter Tryz.func104,Tryz.ntmps104
  go_wp2
  go_region_held (fun w'=>True) (trivial) (first | (go_at_call 104;refine(ih _).mono ?_;rintro e w' ⟨rfl,k,os,rfl⟩))
  all_goals try omega
  all_goals go_wp2
  all_goals go_ret
  all_goals first
  | exact⟨rfl,1+k,_,by rw [alloc_eq_grow,grow_grow]⟩
  | exact⟨rfl,1+k,#[.cells #[.int .u8 (48+(u:Int)%10)] 5] ++ os,by rw [alloc_eq_grow];exact grow_grow (w.drewN (1+k)) _ os⟩
theorem wrap_u32' {n:Int} (h1:0<=n)(h2:n<=4294967295):IntKind.u32.wrap n=n:=by
 simp only [IntKind.wrap,IntKind.signed,IntKind.bits,if_false,nR,Bool.false_and];omega
theorem Ea (u:Nat)(hu:u<4294967296):∀(w:World),
 Calls Tryz.prog 13 #[.int .u32 u] w fun e w'=>e= .returned (.string ⟨(Lib.decDigits u).toArray⟩)/\∃k os,w'= grow (w.drewN k) os:=by
 intro w
 by_cases hb:u<10
 ·have hd:Lib.decDigits u=[UInt8.ofNat (48+u)]:=by rw [Lib.decDigits,dif_pos hb]
  have h8:((UInt8.ofNat (48+u)).toNat:Int)=48+(u:Int):=by
   rw [UInt8.toNat_ofNat'];omega
  have hcv:(convert 75 9 (.slice (some ⟨w.heap.size,0,none⟩) 1 1)).run Tryz.prog (w.alloc (.cells #[.int .u8 (48+(u:Int))] 5))= .ok (.string ⟨(Lib.decDigits u).toArray⟩) (w.alloc (.cells #[.int .u8 (48+(u:Int))] 5)):=by
   rw [hd]
   exact rG _ _ _ (by rw [h8,World.cell?_alloc_new];rfl)
  clear hd h8
  generalize (⟨(Lib.decDigits u).toArray⟩:ByteArray)=S at hcv ⊢
  go_enter Tryz.func13,Tryz.ntmps13
  go_wp2
  go_ret
  refine⟨rfl,0,#[.cells #[.int .u8 (48+(u:Int))] 5],?_⟩
  rw [alloc_eq_grow];rfl
 ·have ih:=Ea (u / 10) (by omega)
  have e10:((u / 10:Nat):Int)=(u:Int) / 10:=by omega
  have ew:IntKind.u32.wrap ((u:Int) / 10)=((u / 10:Nat):Int):=by rw [wrap_u32' (by omega) (by omega)];omega
  have e48:IntKind.u8.wrap (IntKind.u32.wrap (48+(u:Int).tmod 10))=48+(u:Int)%10:=by
   rw [Int.tmod_eq_emod_of_nonneg (by omega),wrap_u32' (by omega) (by omega),wrap_u8 (by omega) (by omega)]
  rw [<-ew] at ih
  have hcv:∀(W:World) (b:Nat),W.cell? ⟨b,0,none⟩=some (.int .u8 (IntKind.u8.wrap (IntKind.u32.wrap (48+(u:Int).tmod 10))))->(convert 75 9 (.slice (some ⟨b,0,none⟩) 1 1)).run Tryz.prog W= .ok (.string ⟨#[UInt8.ofNat (48+u%10)]⟩) W:=by
   intro W b h
   refine rG _ _ _ ?_
   rw [h,e48]
   have:((UInt8.ofNat (48+u%10)).toNat:Int)=48+(u:Int)%10:=by rw [UInt8.toNat_ofNat'];omega
   rw [this]
  have hap:(⟨(Lib.decDigits u).toArray⟩:ByteArray)=⟨(Lib.decDigits (u / 10)).toArray⟩ ++ ⟨#[UInt8.ofNat (48+u%10)]⟩:=by
   rw [KR hb];apply ByteArray.ext;simp [ByteArray.data_append]
  have hsz:((⟨(Lib.decDigits (u / 10)).toArray⟩:ByteArray).size:Int)<=20:=by
   show (((Lib.decDigits (u / 10)).toArray.size:Nat):Int)<=20
   rw [List.size_toArray,Lib.decDigits_length]
   have:=Lib.numDigits_eq (u / 10) (by omega) (by omega);split at this <;> omega
  rw [hap]
  clear hap e10 ew e48
  generalize (⟨(Lib.decDigits (u / 10)).toArray⟩:ByteArray)=S at ih hsz ⊢
  generalize UInt8.ofNat (48+u%10)=x at hcv ⊢
  have hcw:∀(k:Nat) (os:Array Obj),(convert 75 9 (.slice (some ⟨w.heap.size,0,none⟩) 1 1)).run Tryz.prog (Go.Sort.grow ((w.alloc (.cells #[.int .u8 (IntKind.u8.wrap (IntKind.u32.wrap (48+(u:Int).tmod 10)))] 5)).drewN k) os)= .ok (.string ⟨#[x]⟩) (Go.Sort.grow ((w.alloc (.cells #[.int .u8 (IntKind.u8.wrap (IntKind.u32.wrap (48+(u:Int).tmod 10)))] 5)).drewN k) os):=fun k os=>hcv _ _ (by
   rw [Go.Sort.cell?_grow _ _ _ (by show w.heap.size<(w.alloc _).heap.size;simp),World.cell?_drewN,World.cell?_alloc_new];rfl)
  go_enter Tryz.func13,Tryz.ntmps13
  go_wp2
  go_region_held (fun w'=>True) (trivial) (first | (go_at_call 13;refine(ih _).mono ?_;rintro e w' ⟨rfl,k,os,rfl⟩))
  all_goals try omega
  all_goals go_wp2
  all_goals go_ret
  all_goals first
  | exact⟨rfl,1+k,_,by rw [alloc_eq_grow,grow_grow]⟩
  | exact⟨rfl,1+k,#[.cells #[.int .u8 (48+(u:Int)%10)] 5] ++ os,by rw [alloc_eq_grow];exact grow_grow (w.drewN (1+k)) _ os⟩
def UM:List AV->St->Option (AV×St)
 | [.i .u64 n],Z=>if 0<=n/\n<18446744073709551616 then some (.s (Lib.decDigits n.toNat),Z) else none
 | _,_=>none
theorem UN (args:List AV)(Z:St)(r:AV)(Z':St)(h:UM args Z=some (r,Z'))(Y:Mu)(w:World)(aO:Array Value)(hs:g_ 10 Y Z w)(hr:aJ Y w args aO.toList):Does Tryz.prog 104 aO w (After 10 Y Z w r Z'):=by
 unfold UM at h
 split at h
 ·rename_i n
  split at h
  ·rename_i hc
   cases h
   obtain⟨v,rfl,h1⟩:=vk hr
   simp only [aI] at h1
   subst h1
   obtain⟨k,rfl⟩:∃k:Nat,n=k:=⟨n.toNat,by omega⟩
   exact rD (iw Tryz.func104 (by kernel_rfl) (by kernel_rfl)) hs (fun _=>rfl) ((BF k (by omega) w).mono fun e w' q=>by
    obtain⟨rfl,k,os,rfl⟩:=q;exact⟨rfl,grown_below k os⟩)
  ·cases h
 ·cases h
def KU:List AV->St->Option (AV×St)
 | [.i .u32 n],Z=>if 0<=n/\n<4294967296 then some (.s (Lib.decDigits n.toNat),Z) else none
 | _,_=>none
theorem UO (args:List AV)(Z:St)(r:AV)(Z':St)(h:KU args Z=some (r,Z'))(Y:Mu)(w:World)(aO:Array Value)(hs:g_ 10 Y Z w)(hr:aJ Y w args aO.toList):Does Tryz.prog 13 aO w (After 10 Y Z w r Z'):=by
 unfold KU at h
 split at h
 ·rename_i n
  split at h
  ·rename_i hc
   cases h
   obtain⟨v,rfl,h1⟩:=vk hr
   simp only [aI] at h1
   subst h1
   obtain⟨k,rfl⟩:∃k:Nat,n=k:=⟨n.toNat,by omega⟩
   exact rD (iw Tryz.func13 (by kernel_rfl) (by kernel_rfl)) hs (fun _=>rfl) ((Ea k (by omega) w).mono fun e w' q=>by
    obtain⟨rfl,k,os,rfl⟩:=q;exact⟨rfl,grown_below k os⟩)
  ·cases h
 ·cases h
end Go.Abs.YtlkfbfhkcaldlaaGreatDoor
