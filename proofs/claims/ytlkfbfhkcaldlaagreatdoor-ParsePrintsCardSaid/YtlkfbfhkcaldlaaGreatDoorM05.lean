/- Texts of this claim, joined: Ty, Abs20, Abs34, Op, Shelf, Fu, Ctx. -/
import Derived.Test.YtlkfbfhkcaldlaaGreatDoorM01
import Derived.Test.YtlkfbfhkcaldlaaGreatDoorProg
import Derived.KernelRfl
import Derived.Test.YtlkfbfhkcaldlaaGreatDoorM02
import Derived.Below
import Derived.Laws.AppendOwn
import Derived.Test.YtlkfbfhkcaldlaaGreatDoorM03
import Derived.Shelf.Strings.Builder1
import Derived.Shelf.Strings.Builder2
import Derived.Shelf.Small.Strs
import Derived.Shelf.Small.Wraps
import Derived.Shelf.Strings.BuilderF
import Derived.Shelf.Strconv.Itoa0
import Derived.Shelf.Strconv.Itoa1
import Derived.Shelf.LaysM
import Derived.Shelf.Strconv.Itoa2
import Derived.Shelf.Strconv.Itoa3
import Derived.Ground.MpProg
import Derived.Shelf.Pu.ParseUintPublic10
import Derived.Shelf.Pu.ErrVarParseUint
import Derived.Shelf.Strings.Search1
import Derived.Shelf.Bits.Mul64
import Derived.Shelf.Strings.Repeat
import Derived.Lib.ItoaMem
import Derived.Lib.Walk
import Derived.WalkKit
import Derived.BigCall
import Derived.BigGuard
import Derived.Test.YtlkfbfhkcaldlaaGreatDoorM04
set_option linter.unusedVariables false
set_option linter.unusedSimpArgs false
namespace Go.Abs.YtlkfbfhkcaldlaaGreatDoor
open Go.Proofs
end Go.Abs.YtlkfbfhkcaldlaaGreatDoor
namespace Go.Abs
open Go.RowKit
section
variable {P:Program} {G:Nat} {Y Y':Mu} {Z Z':St} {w w':World}
theorem Does.jT {f:Nat} {aO:Array Value} {R:Ending->World->Prop} (he:Enters P f)(h:Calls P f aO w R):Does P f aO w R:=.inl ⟨he aO w,h⟩
theorem qZ (h:Below w.heap.size w w'):kK w w':=by
 intro b e m hs
 have hb:b<w.heap.size:=by
  rcases Nat.lt_or_ge b w.heap.size with hl | hl
  ·exact hl
  ·simp [World.shape?,Array.getElem?_eq_none hl] at hs
 unfold World.shape? at hs ⊢
 rw [h.block b hb];exact hs
theorem Step.of_below (hs:g_ G Y Z w)(h:Below w.heap.size w w'):Step G Y Z w Y Z w':=
 ⟨⟨fun o a ho hl=>by
  obtain⟨b,δ,h1,h2⟩:=hs.obj o a ho hl
  exact⟨b,δ,h1,wz.mono (Mu.le_refl Y) (qZ h) (h.block b (hs.blk o _ b δ h1)) h2⟩,hs.inj,hs.dom,fun o g b δ q=>Nat.lt_of_lt_of_le (hs.blk o g b δ q) h.size,hs.xk,hs.low,fun g e cs hg ho=>qZ h _ _ _ (hs.full g e cs hg ho)⟩,
   Mu.le_refl Y,qZ h,h.os,h.tape,h.output,h.size,fun b hb _=>h.block b hb,fun o a b δ h1 h2 h3 h4 _=>⟨o,a,δ,h1,h2,h3,h4⟩⟩
theorem Step.below (h:Step G Y Z w Y' Z' w')(hro:∀(o:Nat) a,Z[o]? =some a->a.ro=false->a.k.live=true->False):Below w.heap.size w w':=
 ⟨h.os,h.tape,h.output,h.size,fun b hb=>h.frame b hb fun o a δ h1 h2 h3 _=>hro o a h1 h2 h3⟩
theorem vk {a:AV} {c:Array Value} (h:aJ Y w [a] c.toList):∃v,c= #[v]/\aI Y w a v:=by
 obtain⟨v,vs,h1,h2,h3⟩:=h
 simp only [aJ] at h3
 subst h3
 exact⟨v,Array.ext' h1,h2⟩
theorem Aa {a b:AV} {c:Array Value} (h:aJ Y w [a,b] c.toList):∃v u,c= #[v,u]/\aI Y w a v/\aI Y w b u:=by
 obtain⟨v,vs,h1,h2,u,us,h3,h4,h5⟩:=h
 simp only [aJ] at h5
 subst h5;subst h3
 exact⟨v,u,Array.ext' h1,h2,h4⟩
theorem KE {a b d:AV} {c:Array Value} (h:aJ Y w [a,b,d] c.toList):∃v u t,c= #[v,u,t]/\aI Y w a v/\aI Y w b u/\aI Y w d t:=by
 obtain⟨v,vs,h1,h2,u,us,h3,h4,t,ts,h5,h6,h7⟩:=h
 simp only [aJ] at h7
 subst h7;subst h5;subst h3
 exact⟨v,u,t,Array.ext' h1,h2,h4,h6⟩
theorem g_.cell {o g e:Nat} {ro:Bool} {a:AV} {rest:List AV} {b δ:Nat} (hs:g_ G Y Z w)(ho:Z[o]? =some ⟨g,ro,.cells e (a :: rest)⟩)(hb:Y o g=some (b,δ)):∃v,w.cell? ⟨b,δ,none⟩=some v/\aI Y w a v:=by
 obtain⟨b',wL,h1,h2⟩:=hs.obj o _ ho rfl
 rw [hb] at h1;cases h1
 obtain⟨dB,fr,q1,q2,q3,q4⟩:=h2
 obtain⟨v,r1,r2⟩:=q3 0 a rfl
 refine⟨v,?_,r2⟩
 rw [cell_of_heap q1]
 simpa using r1
end
end Go.Abs
namespace Go.Abs
open Go.RowKit
variable {P:Program} {G:Nat} {Y:Mu} {Z:St} {w w':World}
theorem Step.fresh (hs:g_ G Y Z w)(hb:Below w.heap.size w w') {A e:Nat} {cur:Array Value} {cs:List AV} (hA:w.heap.size<=A)(hh:w'.heap[A]? =some (.cells cur e (0,0)))(hl:cs.length<=cur.size)
 (hc:∀(j:Nat) c,cs[j]? =some c->∃v,cur[j]? =some v/\aI Y w c v):Step G Y Z w (Y.upd Z.length 0 (A,0)) (Z ++ [⟨0,false,.cells e cs⟩]) w':=by
 have h:=(Step.of_below hs hb).wB
 have hwx:=qZ hb
 have hnone:Y Z.length 0=none:=by
  cases hq:Y Z.length 0 with
  | none=>rfl
  | some y=>obtain⟨a,ha,_⟩:=hs.dom _ _ _ hq;simp at ha
 have hle:=Mu.xu (x:=(A,0)) hnone
 have hcase:∀(o:Nat) a',(Z ++ [⟨0,false,.cells e cs⟩])[o]? =some a'->(Z[o]? =some a'/\o≠Z.length)\/(o=Z.length/\a'= ⟨0,false,.cells e cs⟩):=by
  intro o a' ho
  rcases Nat.lt_trichotomy o Z.length with hl | he | hg
  ·rw [List.getElem?_append_left hl] at ho;exact .inl ⟨ho,by omega⟩
  ·subst he;simp at ho;exact .inr ⟨rfl,ho.symm⟩
  ·rw [List.getElem?_eq_none (by simp;omega)] at ho;cases ho
 refine⟨⟨?_,?_,?_,?_,?_,?_,?_⟩,hle,hwx,hb.os,hb.tape,hb.output,hb.size,fun b hb' _=>hb.block b hb',?_⟩
 ·intro o a' ho hl'
  rcases hcase o a' ho with ⟨ho',hne⟩ | ⟨rfl,rfl⟩
  ·obtain⟨b,δ,h1,h2⟩:=h.obj o a' ho' hl'
   exact⟨b,δ,hle _ _ _ h1,wz.mono hle (kK.refl _) rfl h2⟩
  ·refine⟨A,0,Mu.dG _ _ _ _,cur,(0,0),hh,by omega,fun j c hj=>?_,fun _ j _ hj=>by omega⟩
   obtain⟨v,r1,r2⟩:=hc j c hj
   exact⟨v,by rw [Nat.zero_add];exact r1,aI.mono hle hwx c v r2⟩
 ·intro o o' a1 a2 b δ wL ho ho' hro hl1 hl2 hb1 hb2
  rcases hcase o a1 ho with ⟨ho1,hne⟩ | ⟨rfl,rfl⟩ <;> rcases hcase o' a2 ho' with ⟨ho2,hne'⟩ | ⟨rfl,rfl⟩
  ·rw [Mu.upd_ne (by simp [hne])] at hb1
   rw [Mu.upd_ne (by simp [hne'])] at hb2
   exact hs.inj o o' a1 a2 b δ wL ho1 ho2 hro hl1 hl2 hb1 hb2
  ·rw [Mu.upd_ne (by simp [hne])] at hb1
   rw [Mu.dG] at hb2
   cases hb2
   have:=hs.blk _ _ _ _ hb1
   omega
  ·rw [Mu.upd_ne (by simp [hne'])] at hb2
   rw [Mu.dG] at hb1
   cases hb1
   have:=hs.blk _ _ _ _ hb2
   omega
  ·rfl
 ·intro o g y hy
  by_cases he:o=Z.length/\g=0
  ·exact⟨⟨0,false,.cells e cs⟩,by rw [he.1];simp,by rw [he.2];exact Nat.zero_le _⟩
  ·rw [Mu.upd_ne he] at hy
   obtain⟨a',ha,hle'⟩:=hs.dom _ _ _ hy
   exact⟨a',by rw [List.getElem?_append_left (eP ha)];exact ha,hle'⟩
 ·intro o g b δ hy
  by_cases he:o=Z.length/\g=0
  ·rw [he.1,he.2,Mu.dG] at hy;cases hy;exact lt_of_heap hh
  ·rw [Mu.upd_ne he] at hy;have:=hs.blk _ _ _ _ hy;have:=hb.size;omega
 ·intro g hg'
  exact hle _ _ _ (hs.xk g hg')
 ·intro o b δ hy
  by_cases he:o=Z.length/\0=0
  ·rw [he.1,Mu.dG] at hy;cases hy;rfl
  ·rw [Mu.upd_ne he] at hy;exact hs.low _ _ _ hy
 ·intro g e' cs' hg' ho
  rcases hcase g _ ho with ⟨ho',_⟩ | ⟨rfl,h1⟩
  ·exact h.full g e' cs' hg' ho'
  ·cases h1
 ·intro o a' b δ ho hro hl' hb1 hlt
  rcases hcase o a' ho with ⟨ho1,hne⟩ | ⟨rfl,rfl⟩
  ·rw [Mu.upd_ne (by simp [hne])] at hb1
   exact⟨o,a',δ,ho1,hro,hl',hb1⟩
  ·rw [Mu.dG] at hb1;cases hb1;omega
theorem g_.tab (hs:g_ G Y Z w) {g e:Nat} {cs:List AV} (hg:g<G)(ho:Z[g]? =some ⟨0,true,.cells e cs⟩):∃dB fr,w.heap[g]? =some (.cells dB e fr)/\dB.size=cs.length/\aJ Y w cs dB.toList:=by
 obtain⟨b,δ,h1,h2⟩:=hs.obj g _ ho rfl
 rw [hs.xk g hg] at h1;cases h1
 obtain⟨dB,fr,q1,q2,q3,_⟩:=h2
 have hf:=hs.full g e cs hg ho
 have hsz:dB.size=cs.length:=by
  have:w.shape? g=some (e,dB.size):=by simp [World.shape?,q1]
  rw [this] at hf;exact(Prod.mk.inj (Option.some.inj hf)).2
 refine⟨dB,fr,q1,hsz,aJ.Dj (by simpa using hsz) fun j c hj=>?_⟩
 obtain⟨v,r1,r2⟩:=q3 j c hj
 exact⟨v,by rw [Nat.zero_add] at r1;simpa using r1,r2⟩
theorem DX {k:IntKind} :∀{zs:List Int} {l:List Value},aJ Y w (zs.map (AV.i k)) l->l=zs.map (Value.int k)
 | [],l,h=>by simpa [aJ] using h
 | z :: zs,l,h=>by
   obtain⟨v,vs,h1,h2,h3⟩:=h
   simp only [aI] at h2
   rw [h1,h2,DX h3];rfl
end Go.Abs
namespace Go.Abs.YtlkfbfhkcaldlaaGreatDoor
open Go.Proofs
def cA:Code->Code
 | .seq a _=>a
 | c=>c
def cB:Code->Code
 | .seq _ b=>b
 | c=>c
def cT:Code->Code
 | .cond _ a _=>a
 | c=>c
def cOps:Code->Array Oper
 | .region _ ops _=>ops
 | _=>#[]
def aA:AC->AC
 | .seq a _=>a
 | c=>c
def aB:AC->AC
 | .seq _ b=>b.BP
 | c=>c
def aT:AC->AC
 | .cond _ a _=>a
 | c=>c
def aStr:AC->Bool
 | .skip=>true
 | .reg _=>true
 | .drw _=>true
 | .seq a b=>(aStr a) && (aStr b)
 | .cond _ a b=>(aStr a) && (aStr b)
 | .cut _ a=>(aStr a)
 | _=>false
theorem lK {X:Ctx} {run:Run} {n:Nat} :∀(a:AC) (e:Env) (Z:St) (o:Out) (e':Env) (Z':St),(aStr a)=true->bH X run n a e Z=some (o,e',Z')->o= .normal
 | .skip,e,Z,o,e',Z',_,h=>by cases h;rfl
 | .reg ops,e,Z,o,e',Z',_,h=>by
   simp only [bH,iU] at h
   obtain⟨r,_,h⟩:=h
   cases h;rfl
 | .drw ops,e,Z,o,e',Z',_,h=>by
   simp only [bH,iU] at h
   obtain⟨r,_,h⟩:=h
   cases h;rfl
 | .seq a b,e,Z,o,e',Z',hs,h=>by
   simp only [aStr,fJ] at hs
   simp only [bH] at h
   split at h
   ·exact lK b _ _ _ _ _ hs.2 h
   ·exact lK a _ _ _ _ _ hs.1 h
 | .cond x a b,e,Z,o,e',Z',hs,h=>by
   simp only [aStr,fJ] at hs
   simp only [bH] at h
   split at h
   ·exact lK a _ _ _ _ _ hs.1 h
   ·exact lK b _ _ _ _ _ hs.2 h
   ·cases h
 | .cut l a,e,Z,o,e',Z',hs,h=>by
   simp only [bH] at h
   exact lK a _ _ _ _ _ (by simpa [aStr] using hs) h
 | .blk _ _,_,_,_,_,_,hs,_=>by cases hs
 | .loop _ _,_,_,_,_,_,hs,_=>by cases hs
 | .exit _,_,_,_,_,_,hs,_=>by cases hs
 | .ret,_,_,_,_,_,hs,_=>by cases hs
def lM (k:Nat):AC->Bool
 | .skip=>true
 | .reg ops=>ops.all fun a=>a.d != some k
 | .seq a b=>(lM k a) && (lM k b)
 | .cond _ a b=>(lM k a) && (lM k b)
 | .cut l a=>l.contains k && (lM k a)
 | _=>false
theorem wR {l:List Nat} {k:Nat} (h:k∈l)(e:Env):get (clear l e) k=get e k:=by
 unfold clear
 induction l with
 | nil=>cases h
 | cons d l ih=>
   simp only [List.map_cons,Go.Abs.get]
   split
   ·rename_i hd;rw [hd]
   ·rename_i hd
    rcases List.mem_cons.1 h with rfl | h
    ·exact(hd rfl).elim
    ·exact ih h
theorem GN {X:Ctx} {run:Run} {k:Nat} :∀(ops:List AI) (e:Env) (Z:St) (e':Env) (Z':St),(ops.all fun a=>a.d != some k)=true->wo X run ops e Z=some (e',Z')->get e' k=get e k
 | [],e,Z,e',Z',_,h=>by cases h;rfl
 | a :: r,e,Z,e',Z',hs,h=>by
   rw [List.all_cons,fJ] at hs
   simp only [wo] at h
   split at h
   ·rw [GN r _ _ _ _ hs.2 h,lJ (by simpa using hs.1)]
   ·cases h
theorem kD {X:Ctx} {run:Run} {n k:Nat} :∀(a:AC) (e:Env) (Z:St) (o:Out) (e':Env) (Z':St),(lM k a)=true->bH X run n a e Z=some (o,e',Z')->get e' k=get e k
 | .skip,e,Z,o,e',Z',_,h=>by cases h;rfl
 | .reg ops,e,Z,o,e',Z',hs,h=>by
   simp only [bH,iU] at h
   obtain⟨r,h1,h⟩:=h
   cases h
   exact GN ops e Z _ _ hs h1
 | .seq a b,e,Z,o,e',Z',hs,h=>by
   simp only [lM,fJ] at hs
   simp only [bH] at h
   split at h
   ·rename_i e1 s1 h1
    rw [kD b _ _ _ _ _ hs.2 h,kD a _ _ _ _ _ hs.1 h1]
   ·exact kD a _ _ _ _ _ hs.1 h
 | .cond x a b,e,Z,o,e',Z',hs,h=>by
   simp only [lM,fJ] at hs
   simp only [bH] at h
   split at h
   ·exact kD a _ _ _ _ _ hs.1 h
   ·exact kD b _ _ _ _ _ hs.2 h
   ·cases h
 | .cut l a,e,Z,o,e',Z',hs,h=>by
   simp only [lM,fJ] at hs
   simp only [bH] at h
   rw [kD a _ _ _ _ _ hs.2 h,wR (by simpa using hs.1)]
 | .drw _,_,_,_,_,_,hs,_=>by cases hs
 | .blk _ _,_,_,_,_,_,hs,_=>by cases hs
 | .loop _ _,_,_,_,_,_,hs,_=>by cases hs
 | .exit _,_,_,_,_,_,hs,_=>by cases hs
 | .ret,_,_,_,_,_,hs,_=>by cases hs
theorem vw {X:Ctx} {run:Run} {n:Nat} {a b:AC} {e:Env} {Z:St} {r:Out×Env×St} (ha:(aStr a)=true)(h:bH X run n (.seq a b) e Z=some r):∃e1 s1,bH X run n a e Z=some (.normal,e1,s1)/\bH X run n b e1 s1=some r:=by
 simp only [bH] at h
 split at h
 ·rename_i e1 s1 h1;exact⟨e1,s1,h1,h⟩
 ·rename_i hn
  obtain⟨o,e',Z'⟩:=r
  obtain rfl:=lK a _ _ _ _ _ ha h
  exact(hn _ _ h).elim
theorem Uf {X:Ctx} {run:Run} {n k a b:Nat} {e e':Env} {Z Z1:St} {o:Out} (h:bH X run n (.reg [⟨none,none,.call (.c (.fn (.func k) [] [])) [.t a,.t b]⟩]) e Z=some (o,e',Z1)):∃v,run k [get e a,get e b] Z=some (v,Z1)/\o= .normal/\e'= e:=by
 simp only [bH,iU,wo] at h
 obtain⟨r,h,hr⟩:=h
 cases hr
 split at h
 ·rename_i v s hst
  cases h
  simp [fU,iH,fK,Opd.ev] at hst
  exact⟨v,hst,rfl,rfl⟩
 ·cases h
theorem Ac {X:Ctx} {run:Run} {n k:Nat} {a b:AC} {e:Env} {Z:St} {r:Out×Env×St} (h:bH X run n (.cond (.t k) a b) e Z=some r):(get e k= .b true/\bH X run n a e Z=some r)\/(get e k= .b false/\bH X run n b e Z=some r):=by
 rw [bH] at h
 simp only [Opd.ev] at h
 split at h
 ·rename_i hk;exact .inl ⟨hk,h⟩
 ·rename_i hk;exact .inr ⟨hk,h⟩
 ·cases h
theorem qB {X:Ctx} {run:Run} {n:Nat} {b:AC} {e:Env} {Z:St} {r:Out×Env×St} (h:bH X run n b e Z=some r):∃e',(e'= e\/∃l,e'= clear l e/\b= .cut l b.BP)/\bH X run n b.BP e' Z=some r:=by
 rcases AC.vg b with hb | ⟨l,hb⟩
 ·exact⟨e,.inl rfl,by rw [hb];exact h⟩
 ·refine⟨clear l e,.inr ⟨l,rfl,hb⟩,?_⟩
  rw [hb] at h
  simpa only [bH] using h
theorem pO {G N:Nat} {Y:Mu} {w:World} {e e':Env} {tmps:Array Value} {Zq:List Nat->Prop} (h:fQ G N Y w e tmps)(he:e'= e\/∃l,e'= clear l e/\Zq l):fQ G N Y w e' tmps:=by
 rcases he with rfl | ⟨l,rfl,_⟩
 ·exact h
 ·exact h.clear l
noncomputable def opC:Code:=(Tryz.f136.body).getD .skip
noncomputable def oC0:Code:=cA opC
noncomputable def oCS:Code:=cA (cB opC)
noncomputable def oD3:Code:=cA (cA (cB (cB opC)))
noncomputable def oD4:Code:=cA (cT (cB (cA (cB (cB opC)))))
noncomputable def QV:Array Oper:=cOps (cB (cT (cB (cA (cB (cB opC))))))
noncomputable def oCR:Code:=cB (cB (cB opC))
def Nk:AC->AC
 | .seq _ b=>b
 | c=>c
def vV:AC:=aA Ud
def vFr:AC:=Nk Ud
def vA0:AC:=aA vV
def vS:AC:=aA (aB vV)
def vD:AC:=aA (aB (aB vV))
def vRr:AC:=Nk (aB (aB vV))
def vA3:AC:=aA vD
def vA4:AC:=aA (aT (aB vD))
def vA5:AC:=aB (aT (aB vD))
theorem Yw:Tryz.f136.body=some (.seq oC0 (.seq oCS (.seq (.seq oD3 (.cond (.tmp 19) (.seq oD4 (.region 5 QV false)) .skip)) oCR))):=by kernel_rfl
theorem op_nt:Tryz.f136.ntmps=60:=by kernel_rfl
theorem Ug:tZ Tryz.f136.results.toList []=true:=by kernel_rfl
theorem op_ok0:CB Tryz.prog 10 60 oC0 vA0=true:=by kernel_rfl
theorem op_okS:CB Tryz.prog 10 60 oCS vS=true:=by kernel_rfl
theorem op_ok3:CB Tryz.prog 10 60 oD3 vA3=true:=by kernel_rfl
theorem op_ok4:CB Tryz.prog 10 60 oD4 vA4=true:=by kernel_rfl
theorem op_okR:CB Tryz.prog 10 60 oCR vRr.BP=true:=by kernel_rfl
def vi23:AI:=⟨some 23,none,.mv (.t 0)⟩
def vi24:AI:=⟨some 24,none,.bsl 116 1 [(0,.c (.s [41]))]⟩
theorem op_v5:vA5= .reg [vi23,vi24]:=by rfl
theorem Uh:QV.size=3:=by kernel_rfl
noncomputable def o50:Oper:=(QV[0]?).getD default
noncomputable def o51:Oper:=(QV[1]?).getD default
noncomputable def o52:Oper:=(QV[2]?).getD default
theorem op_o50:QV[0]? =some o50:=by kernel_rfl
theorem op_o51:QV[1]? =some o51:=by kernel_rfl
theorem op_o52:QV[2]? =some o52:=by kernel_rfl
theorem Yx:xA Tryz.prog 10 60 QV o50 vi23=true:=by kernel_rfl
theorem Yy:xA Tryz.prog 10 60 QV o51 vi24=true:=by kernel_rfl
def tsOf:Op->Array TypeId
 | .defer ⟨_,_,ts⟩=>ts
 | _=>#[]
theorem op_52:o52.guard=none/\o52.dst=none/\∃ts,o52.op= .defer ⟨.value (.func 44),#[.tmp 23,.tmp 24],ts⟩:=⟨by kernel_rfl,by kernel_rfl,tsOf o52.op,by kernel_rfl⟩
theorem op_vD:vD= .seq vA3 (Nk vD)/\(Nk vD).BP= .cond (.t 19) (.seq vA4 (Nk (aT (aB vD)))) .skip/\(Nk (aT (aB vD))).BP=vA5:=⟨by rfl,by rfl,by rfl⟩
theorem op_vV:Ud= .seq vV vFr/\vV= .seq vA0 (Nk vV)/\(Nk vV).BP= .seq vS (Nk (aB vV))/\(Nk (aB vV)).BP= .seq vD vRr/\vFr.BP= .cond (.t 19) (.reg [⟨none,none,.call (.c (.fn (.func 44) [] [])) [.t 23,.t 24]⟩]) .skip:=⟨by rfl,by rfl,by rfl,by rfl,by rfl⟩
theorem op_str:(aStr vV)=true/\(aStr vA0)=true/\(aStr vS)=true/\(aStr vD)=true/\(aStr vA3)=true/\(aStr vA4)=true/\(aStr vRr)=true:=by decide
theorem Yz:∀k∈[19,23,24],(lM k vRr)=true/\(vFr=vFr.BP\/∃l,vFr= .cut l vFr.BP/\k∈l):=by
 intro k hk
 have h0:([19,23,24].all fun k=>(lM k vRr) && (match vFr with | .cut l _=>l.contains k | _=>true))=true:=by decide
 rw [List.all_eq_true] at h0
 have h1:=h0 k hk
 rw [fJ] at h1
 refine⟨h1.1,?_⟩
 rcases AC.vg vFr with hb | ⟨l,hb⟩
 ·exact .inl hb.symm
 ·refine .inr ⟨l,hb,?_⟩
  have h2:=h1.2
  rw [hb] at h2
  simpa using h2
theorem Ui:lM 19 vA4=true/\(Nk (aT (aB vD))=(Nk (aT (aB vD))).BP\/∃l,Nk (aT (aB vD))= .cut l (Nk (aT (aB vD))).BP/\19∈l):=by
 have h0:(lM 19 vA4 && (match Nk (aT (aB vD)) with | .cut l _=>l.contains 19 | _=>true))=true:=by decide
 rw [fJ] at h0
 refine⟨h0.1,?_⟩
 rcases AC.vg (Nk (aT (aB vD))) with hb | ⟨l,hb⟩
 ·exact .inl hb.symm
 ·refine .inr ⟨l,hb,?_⟩
  have h2:=h0.2
  rw [hb] at h2
  simpa using h2
theorem key3 {e e':Env} {k:Nat} {b:AC} (he:e'= e\/∃l,e'= clear l e/\b= .cut l b.BP)(hk:b=b.BP\/∃l,b= .cut l b.BP/\k∈l):get e' k=get e k:=by
 rcases he with rfl | ⟨l,rfl,hl⟩
 ·rfl
 ·rcases hk with hk | ⟨l2,h2,hm⟩
  ·exfalso
   rw [<-hk] at hl
   have:=congrArg (fun x:AC=>SizeOf.sizeOf x) hl
   simp at this
  ·have e3:AC.cut l b.BP= .cut l2 b.BP:=hl.symm.trans h2
   injection e3 with e3 _
   rw [e3]
   exact wR hm e
set_option maxHeartbeats 2000000 in
theorem YA:NI Tryz.prog fns (fun f=>Nat.beq f 44) 10 136 Yn:=by
 intro X hP hF hD hX hdr run n hrun hrd args Z o e Z1 v hlen hcode ho hv Y w aO hs hr
 obtain⟨P,fns',fM,meth,dk⟩:=X
 simp only at hP hF hD
 subst hP hF hD
 have hen:Enters Tryz.prog 136:=iw Tryz.func136 (by kernel_rfl) (by kernel_rfl)
 refine⟨hen,calls_of_wp_defers Tryz.func136 Yw ?_⟩
 obtain⟨q0,qS,q3,q4,qR,r0⟩:=And.intro op_ok0 (And.intro op_okS (And.intro op_ok3 (And.intro op_ok4 (And.intro op_okR trivial))))
 obtain⟨vv1,vv2,vv3,vv4,vv5⟩:=op_vV
 obtain⟨vd1,vd2,vd3⟩:=op_vD
 obtain⟨s1,s2,s3,s4,s5,s6,s7⟩:=op_str
 have Uj:bH ⟨Tryz.prog,fns,fM,meth,fun f=>Nat.beq f 44⟩ run n Ud (iD 0 args) Z=some (o,e,Z1):=hcode
 rw [vv1] at Uj
 obtain⟨eV,sV,hV,IC⟩:=vw s1 Uj
 rw [vv2] at hV
 obtain⟨e0,s0,h0,hb⟩:=vw s2 hV
 obtain⟨e0',he0',hb⟩:=qB hb
 rw [vv3] at hb
 obtain⟨eS,sS,hS,hb⟩:=vw s3 hb
 obtain⟨eS',heS',hb⟩:=qB hb
 rw [vv4] at hb
 obtain⟨eD,sD,hDd,hRr⟩:=vw s4 hb
 obtain⟨eR,heR,hR⟩:=qB hRr
 rw [vd1] at hDd
 obtain⟨e3,s3',h3,hcnd⟩:=vw s5 hDd
 obtain⟨e3',he3',hcnd⟩:=qB hcnd
 rw [vd2] at hcnd
 obtain⟨eF,heF,IC⟩:=qB IC
 rw [vv5] at IC
 have hkeep:∀k∈[19,23,24],get eF k=get eD k:=fun k hk=>by
  obtain⟨k1,k2⟩:=Yz k hk
  rw [key3 heF k2,kD vRr eD sD _ _ _ k1 hRr]
 have hsz:aO.size=args.length:=by have:=hr.length;simpa using this
 rw [op_nt]
 have hen0:=Bv (G:=10) hr hlen
 refine wp_seq (gB hX hrun hdr oC0 vA0 q0 [] _ { tmps:=aO ++ Array.replicate (60 - aO.size) undef,defers:=[] } Y Z w .normal e0 s0 _ hs hen0 rfl h0 fun a1 w1 hl1=>?_)
 obtain⟨Y1,st1,en1,d1⟩:=hl1
 refine wp_seq (gB hX hrun hdr oCS vS qS [] _ a1 Y1 s0 w1 .normal eS sS _ st1.wB (pO en1 he0') d1 hS fun a2 w2 hl2=>?_)
 obtain⟨Y2,st2,en2,d2⟩:=hl2
 refine wp_seq (wp_seq (gB hX hrun hdr oD3 vA3 q3 [] _ a2 Y2 sS w2 .normal e3 s3' _ st2.wB (pO en2 heS') d2 h3 fun a3 w3 hl3=>?_))
 obtain⟨Y3,st3,en3,d3⟩:=hl3
 have en3':=pO en3 he3'
 have hx:=en3'.rel 19
 rcases Ac hcnd with ⟨h19,hcnd⟩ | ⟨h19,hcnd⟩
 ·rw [h19] at hx
  refine wp_cond_true hx ?_
  obtain⟨e4,s4',h4,hb⟩:=vw s6 hcnd
  obtain⟨e4',he4',hb5⟩:=qB hb
  rw [vd3,op_v5] at hb5
  refine wp_seq (gB hX hrun hdr oD4 vA4 q4 [] _ a3 Y3 s3' w3 .normal e4 s4' _ st3.wB en3' d3 h4 fun a4 w4 hl4=>?_)
  obtain⟨Y4,st4,en4,d4⟩:=hl4
  have en4':=pO en4 he4'
  simp only [bH,iU,wo] at hb5
  obtain⟨⟨eX,sX⟩,hb6,hbe⟩:=hb5
  cases hbe
  split at hb6
  ·rename_i v23 s5' hst23
   split at hb6
   ·rename_i v24 s6' hst24
    cases hb6
    refine wp_region ?_
    rw [Uh,show List.range 3=[0,1,2] from rfl,wpOps]
    simp only [op_o50]
    refine yM (ops:=QV) hX hrun st4.wB en4' Yx hst23 fun u5 w5 Y5 hv5 st5=>?_
    have hd50:o50.dst=some 23:=by kernel_rfl
    have hd51:o51.dst=some 24:=by kernel_rfl
    have en5:=(en4'.mono st5.ext st5.xq).put (d:=some 23) (by decide) hv5
    rw [wpOps]
    simp only [op_o51]
    rw [hd50]
    refine yM (ops:=QV) hX hrun st5.wB en5 Yy hst24 fun u6 w6 Y6 hv6 st6=>?_
    have en6:=(en5.mono st6.ext st6.xq).put (d:=some 24) (by decide) hv6
    rw [hd51,wpOps]
    simp only [op_o52]
    obtain⟨g52,d52,ts,p52⟩:=op_52
    have hw52:Region.wanted o52 (yielded QV (((a4.put (some 23) u5).put (some 24) u6)).tmps)=true:=by simp [Region.wanted,g52]
    rw [if_pos hw52]
    refine .inl ?_
    have hargs6: #[Operand.tmp 23,Operand.tmp 24].map (((a4.put (some 23) u5).put (some 24) u6)).eval= #[(((a4.put (some 23) u5).put (some 24) u6)).tmps.getD 23 undef,(((a4.put (some 23) u5).put (some 24) u6)).tmps.getD 24 undef]:=by simp [Act.eval]
    unfold Oper.wp
    have hex:(execOp ((a4.put (some 23) u5).put (some 24) u6).eval o52).run Tryz.prog w6= .ok (.defer ⟨.fn (.func 44) #[],#[(((a4.put (some 23) u5).put (some 24) u6)).tmps.getD 23 undef,(((a4.put (some 23) u5).put (some 24) u6)).tmps.getD 24 undef]⟩) w6:=by
     simp only [execOp,p52,resolve,hargs6]
     rfl
    rw [hex,Oper.upon_defer,wpOps,d52]
    have hk19:get eF 19= .b true:=by
     obtain⟨k1,k2⟩:=Ui
     rw [hkeep 19 (by simp),lJ (by decide),lJ (by decide),key3 he4' k2,kD vA4 _ _ _ _ _ k1 h4,h19]
    have r23:=en6.rel 23
    have r24:=en6.rel 24
    have hk23:get eF 23=get (put (some 24) v24 (put (some 23) v23 e4')) 23:=hkeep 23 (by simp)
    have hk24:get eF 24=get (put (some 24) v24 (put (some 23) v23 e4')) 24:=hkeep 24 (by simp)
    rw [<-hk23] at r23
    rw [<-hk24] at r24
    rcases Ac IC with ⟨_,IC⟩ | ⟨Uk,_⟩
    ·obtain⟨rv,hrun7,rfl,rfl⟩:=Uf IC
     refine gB hX hrun hdr oCR vRr.BP qR [⟨.fn (.func 44) #[],#[((a4.put (some 23) u5).put (some 24) u6).tmps.getD 23 undef,((a4.put (some 23) u5).put (some 24) u6).tmps.getD 24 undef]⟩] _ _ Y6 _ w6 .normal eV sV _ st6.wB (pO en6 heR) ?_ hR fun a7 w7 hl7=>?_
     ·show #[_].toList ++ a4.defers=_
      rw [d4];rfl
     ·obtain⟨Y7,YB,en7,d7⟩:=hl7
      show Leaves _ _ a7.tmps _ a7.defers .returning w7
      rw [d7]
      have hr7:aJ Y7 w7 [get e 23,get e 24] [((a4.put (some 23) u5).put (some 24) u6).tmps.getD 23 undef,((a4.put (some 23) u5).put (some 24) u6).tmps.getD 24 undef]:=⟨_,_,rfl,aI.mono YB.ext YB.xq _ _ r23,_,_,rfl,aI.mono YB.ext YB.xq _ _ r24,rfl⟩
      obtain⟨hD1,hD2⟩:=hrd 44 rfl _ _ _ _ hrun7 Y7 w7 #[((a4.put (some 23) u5).put (some 24) u6).tmps.getD 23 undef,((a4.put (some 23) u5).put (some 24) u6).tmps.getD 24 undef] YB.wB hr7
      refine leaves_cons (by simp) ?_ ((hD2 .returning).mono fun ee u' w' q=>?_)
      ·show (callFunc _ (_ ++ #[])).run _ _=_
       rw [Array.append_empty]
       exact hD1
      ·obtain⟨rfl,uu,Y8,rfl,hvu,st8⟩:=q
       have en8:=(pO en7 heF).mono st8.ext st8.xq
       obtain⟨ur,hu1,hu2⟩:=t_ (X:=⟨Tryz.prog,fns,fM,meth,fun f=>Nat.beq f 44⟩) (fn:=Tryz.f136) st8.wB en8 Ug hv
       exact⟨ur,hu1,ur,Y8,rfl,hu2,((((((st1.trans st2).trans st3).trans st4).trans st5).trans st6).trans YB).trans st8⟩
    ·rw [hk19] at Uk;cases Uk
   ·cases hb6
  ·cases hb6
 ·rw [h19] at hx
  refine wp_cond_false hx ?_
  cases hcnd
  refine wp_skip ?_
  refine gB hX hrun hdr oCR vRr.BP qR [] _ a3 Y3 _ w3 .normal eV sV _ st3.wB (pO en3' heR) d3 hR fun a7 w7 hl7=>?_
  obtain⟨Y7,YB,en7,d7⟩:=hl7
  show Leaves _ _ a7.tmps _ a7.defers .returning w7
  rw [d7]
  have hk19:get eF 19= .b false:=by rw [hkeep 19 (by simp),h19]
  rcases Ac IC with ⟨Uk,_⟩ | ⟨_,IC⟩
  ·rw [hk19] at Uk;cases Uk
  ·cases IC
   obtain⟨ur,hu1,hu2⟩:=t_ (X:=⟨Tryz.prog,fns,fM,meth,fun f=>Nat.beq f 44⟩) (fn:=Tryz.f136) YB.wB (pO en7 heF) Ug hv
   exact⟨ur,hu1,ur,Y7,rfl,hu2,((st1.trans st2).trans st3).trans YB⟩
end Go.Abs.YtlkfbfhkcaldlaaGreatDoor
namespace Go.Proofs
open Go.Shelf
def Tryz.KF:Go.Shelf.Ren:=⟨fun | 137=>48 | 217=>82 | 266=>111 | n=>n,fun | 9=>9 | 5=>5 | 3=>3 | n=>n,fun | n=>n⟩
theorem Tryz.lays137:Go.Proofs.Lays.n137 Tryz.prog Tryz.KF:={
 mixed:=by kernel_rfl
 f137:=Tryz.func48.trans (congrArg some (by kernel_rfl))
 f217:=Tryz.func82.trans (congrArg some (by kernel_rfl))
 f266:=Tryz.func111.trans (congrArg some (by kernel_rfl))
 t3:=Tryz.underlying3
 a3:=Tryz.isAgg3
 z3:=Tryz.sizeOf3
 v3:=Tryz.zeroValue3
 t5:=Tryz.underlying5
 a5:=Tryz.isAgg5
 z5:=Tryz.sizeOf5
 v5:=Tryz.zeroValue5
 t9:=Tryz.underlying9
 a9:=Tryz.isAgg9
 z9:=Tryz.sizeOf9
 v9:=Tryz.zeroValue9 }
open Go.RowKit in
theorem Tryz.strings_IndexByte (s:ByteArray)(c:Int)(w:World) :
 Calls Tryz.prog 48 #[.string s,.int .u8 c] w fun e w'=>e= .returned (.int .i64 (Lib.indexByte s.data.toList c.toNat.toUInt8))/\w'= w:=Any.strings_IndexByte Tryz.lays137 s c w
def Tryz.KG:Go.Shelf.Ren:=⟨fun | 283=>159 | n=>n,fun | 3=>3 | 9=>9 | 4=>4 | n=>n,fun | n=>n⟩
theorem Tryz.lays283:Go.Proofs.Lays.n283 Tryz.prog Tryz.KG:={
 mixed:=by kernel_rfl
 f283:=Tryz.func159.trans (congrArg some (by kernel_rfl))
 t3:=Tryz.underlying3
 a3:=Tryz.isAgg3
 z3:=Tryz.sizeOf3
 v3:=Tryz.zeroValue3
 t4:=Tryz.underlying4
 a4:=Tryz.isAgg4
 z4:=Tryz.sizeOf4
 v4:=Tryz.zeroValue4
 t9:=Tryz.underlying9
 a9:=Tryz.isAgg9
 z9:=Tryz.sizeOf9
 v9:=Tryz.zeroValue9 }
open Go.Lib in
theorem Tryz.internal_strconv_small (i:Nat)(h:i<100)(w:World) :
 Calls Tryz.prog 159 #[.int .i64 i] w fun e w'=>e= .returned (.string ⟨(Lib.decDigits i).toArray⟩)/\w'= w:=Any.internal_strconv_small Tryz.lays283 i h w
def Tryz.IE:Go.Shelf.Ren:=⟨fun | 284=>160 | 129=>165 | 317=>164 | 318=>166 | n=>n,fun | 53=>118 | 3=>3 | 212=>209 | 0=>0 | 4=>4 | 46=>157 | 5=>5 | 9=>9 | n=>n,fun | 17=>5 | n=>n⟩
theorem Tryz.laysM284:Go.Proofs.LaysM.n284 Tryz.prog Tryz.IE:={
 mixed:=by kernel_rfl
 f129:=Tryz.func165.trans (congrArg some (by kernel_rfl))
 f284:=Tryz.func160.trans (congrArg some (by kernel_rfl))
 f317:=Tryz.func164.trans (congrArg some (by kernel_rfl))
 f318:=Tryz.func166.trans (congrArg some (by kernel_rfl))
 t0:=Tryz.underlying0
 a0:=Tryz.isAgg0
 z0:=Tryz.sizeOf0
 v0:=Tryz.zeroValue0
 t3:=Tryz.underlying3
 a3:=Tryz.isAgg3
 z3:=Tryz.sizeOf3
 v3:=Tryz.zeroValue3
 t4:=Tryz.underlying4
 a4:=Tryz.isAgg4
 z4:=Tryz.sizeOf4
 v4:=Tryz.zeroValue4
 t5:=Tryz.underlying5
 a5:=Tryz.isAgg5
 z5:=Tryz.sizeOf5
 v5:=Tryz.zeroValue5
 t9:=Tryz.underlying9
 a9:=Tryz.isAgg9
 z9:=Tryz.sizeOf9
 v9:=Tryz.zeroValue9
 t46:=Tryz.underlying157
 a46:=Tryz.isAgg157
 z46:=Tryz.sizeOf157
 v46:=Tryz.zeroValue157
 t53:=Tryz.underlying118
 a53:=Tryz.isAgg118
 z53:=Tryz.sizeOf118
 v53:=Tryz.zeroValue118
 t212:=Tryz.underlying209
 a212:=Tryz.isAgg209
 z212:=Tryz.sizeOf209
 v212:=Tryz.zeroValue209
 g17:=by kernel_rfl
 i0:=by kernel_rfl
 i3:=by kernel_rfl
 i4:=by kernel_rfl
 i5:=by kernel_rfl
 i9:=by kernel_rfl
 i46:=by kernel_rfl
 i53:=by kernel_rfl
 i212:=by kernel_rfl
 m17:=by kernel_rfl }
open Go.Lib in
theorem Tryz.internal_strconv_numDigits (u:Nat)(h1:1<=u)(h2:u<18446744073709551616)(w:World)(htab:Lib.TabIs Tryz.prog w "internal/strconv.uint64pow10" .u64 Lib.pow10Tab) :
 Calls Tryz.prog 160 #[.int .u64 u] w fun e w'=>e= .returned (.int .i64 (Lib.nDigits u))/\w'= w:=Any.internal_strconv_numDigits Tryz.laysM284 u h1 h2 w htab
def Tryz.KH:Go.Shelf.Ren:=⟨fun | 285=>161 | n=>n,fun | 37=>75 | 53=>118 | 3=>3 | 4=>4 | 51=>39 | 9=>9 | 5=>5 | 0=>0 | n=>n,fun | n=>n⟩
theorem Tryz.lays285:Go.Proofs.Lays.n285 Tryz.prog Tryz.KH:={
 mixed:=by kernel_rfl
 f285:=Tryz.func161.trans (congrArg some (by kernel_rfl))
 t0:=Tryz.underlying0
 a0:=Tryz.isAgg0
 z0:=Tryz.sizeOf0
 v0:=Tryz.zeroValue0
 t3:=Tryz.underlying3
 a3:=Tryz.isAgg3
 z3:=Tryz.sizeOf3
 v3:=Tryz.zeroValue3
 t4:=Tryz.underlying4
 a4:=Tryz.isAgg4
 z4:=Tryz.sizeOf4
 v4:=Tryz.zeroValue4
 t5:=Tryz.underlying5
 a5:=Tryz.isAgg5
 z5:=Tryz.sizeOf5
 v5:=Tryz.zeroValue5
 t9:=Tryz.underlying9
 a9:=Tryz.isAgg9
 z9:=Tryz.sizeOf9
 v9:=Tryz.zeroValue9
 t37:=Tryz.underlying75
 a37:=Tryz.isAgg75
 z37:=Tryz.sizeOf75
 v37:=Tryz.zeroValue75
 t51:=Tryz.underlying39
 a51:=Tryz.isAgg39
 z51:=Tryz.sizeOf39
 v51:=Tryz.zeroValue39
 t53:=Tryz.underlying118
 a53:=Tryz.isAgg118
 z53:=Tryz.sizeOf118
 v53:=Tryz.zeroValue118 }
open Go.RowKit Go.Sort Go.Lib in
theorem Tryz.internal_strconv_formatBase10 (blk off cap:Nat)(u:Nat)(d:Array UInt8)(w:World)(hH:Holds (fun(b:UInt8)=>Value.int .u8 (b.toNat:Int)) w blk off d)(hu:u<10^d.size)(hu64:u<18446744073709551616)(hsz:d.size<4611686018427387904) :
 Calls Tryz.prog 161 #[.slice (some ⟨blk,off,none⟩) d.size cap,.int .u64 u] w fun e w'=>
  e= .returned (.tuple #[])/\∃(n v':Nat) (dk:Array UInt8),w'= (putRow (fun(b:UInt8)=>Value.int .u8 (b.toNat:Int)) w blk off dk).drewN n/\FmtInv d.size u 0 v' dk:=Any.internal_strconv_formatBase10 Tryz.lays285 blk off cap u d w hH hu hu64 hsz
def Tryz.IG:Go.Shelf.Ren:=⟨fun | 14=>53 | 16=>86 | 17=>87 | 19=>115 | 20=>116 | 21=>117 | 22=>118 | 23=>119 | 24=>120 | 25=>138 | 27=>140 | 26=>139 | 28=>153 | 29=>163 | 30=>159 | 31=>160 | 32=>161 | 33=>162 | 35=>165 | 34=>164 | 36=>166 | 37=>167 | 38=>168 | 39=>169 | 40=>170 | n=>n,fun | 9=>9 | 3=>3 | 22=>118 | 24=>34 | 25=>119 | 4=>4 | 34=>155 | 5=>5 | 36=>157 | 37=>75 | 0=>0 | 39=>158 | 21=>21 | 44=>176 | 47=>108 | 50=>196 | 48=>194 | 2=>2 | 52=>199 | 55=>202 | 59=>209 | 60=>39 | 20=>20 | 61=>210 | 65=>214 | 66=>215 | 67=>82 | n=>n,fun | 0=>3 | 1=>4 | 2=>5 | 3=>6 | 4=>7 | n=>n⟩
theorem Tryz.laysPu14:Go.Proofs.LaysPu.n14 Tryz.prog Tryz.IG:={
 mixed:=by kernel_rfl
 f14:=Tryz.func53.trans (congrArg some (by kernel_rfl))
 f16:=Tryz.func86.trans (congrArg some (by kernel_rfl))
 f17:=Tryz.func87.trans (congrArg some (by kernel_rfl))
 f19:=Tryz.func115.trans (congrArg some (by kernel_rfl))
 f20:=Tryz.func116.trans (congrArg some (by kernel_rfl))
 f21:=Tryz.func117.trans (congrArg some (by kernel_rfl))
 f22:=Tryz.func118.trans (congrArg some (by kernel_rfl))
 f23:=Tryz.func119.trans (congrArg some (by kernel_rfl))
 f24:=Tryz.func120.trans (congrArg some (by kernel_rfl))
 f25:=Tryz.func138.trans (congrArg some (by kernel_rfl))
 f26:=Tryz.func139.trans (congrArg some (by kernel_rfl))
 f27:=Tryz.func140.trans (congrArg some (by kernel_rfl))
 f28:=Tryz.func153.trans (congrArg some (by kernel_rfl))
 f29:=Tryz.func163.trans (congrArg some (by kernel_rfl))
 f30:=Tryz.func159.trans (congrArg some (by kernel_rfl))
 f31:=Tryz.func160.trans (congrArg some (by kernel_rfl))
 f32:=Tryz.func161.trans (congrArg some (by kernel_rfl))
 f33:=Tryz.func162.trans (congrArg some (by kernel_rfl))
 f34:=Tryz.func164.trans (congrArg some (by kernel_rfl))
 f35:=Tryz.func165.trans (congrArg some (by kernel_rfl))
 f36:=Tryz.func166.trans (congrArg some (by kernel_rfl))
 f37:=Tryz.func167.trans (congrArg some (by kernel_rfl))
 f38:=Tryz.func168.trans (congrArg some (by kernel_rfl))
 f39:=Tryz.func169.trans (congrArg some (by kernel_rfl))
 f40:=Tryz.func170.trans (congrArg some (by kernel_rfl))
 t0:=Tryz.underlying0
 a0:=Tryz.isAgg0
 z0:=Tryz.sizeOf0
 v0:=Tryz.zeroValue0
 i0:=by kernel_rfl
 t2:=Tryz.underlying2
 a2:=Tryz.isAgg2
 z2:=Tryz.sizeOf2
 v2:=Tryz.zeroValue2
 i2:=by kernel_rfl
 t3:=Tryz.underlying3
 a3:=Tryz.isAgg3
 z3:=Tryz.sizeOf3
 v3:=Tryz.zeroValue3
 i3:=by kernel_rfl
 t4:=Tryz.underlying4
 a4:=Tryz.isAgg4
 z4:=Tryz.sizeOf4
 v4:=Tryz.zeroValue4
 i4:=by kernel_rfl
 t5:=Tryz.underlying5
 a5:=Tryz.isAgg5
 z5:=Tryz.sizeOf5
 v5:=Tryz.zeroValue5
 i5:=by kernel_rfl
 t9:=Tryz.underlying9
 a9:=Tryz.isAgg9
 z9:=Tryz.sizeOf9
 v9:=Tryz.zeroValue9
 i9:=by kernel_rfl
 t20:=Tryz.underlying20
 a20:=Tryz.isAgg20
 z20:=Tryz.sizeOf20
 v20:=Tryz.zeroValue20
 i20:=by kernel_rfl
 t21:=Tryz.underlying21
 a21:=Tryz.isAgg21
 z21:=Tryz.sizeOf21
 v21:=Tryz.zeroValue21
 i21:=by kernel_rfl
 t22:=Tryz.underlying118
 a22:=Tryz.isAgg118
 z22:=Tryz.sizeOf118
 v22:=Tryz.zeroValue118
 i22:=by kernel_rfl
 t24:=Tryz.underlying34
 a24:=Tryz.isAgg34
 z24:=Tryz.sizeOf34
 v24:=Tryz.zeroValue34
 i24:=by kernel_rfl
 t25:=Tryz.underlying119
 a25:=Tryz.isAgg119
 z25:=Tryz.sizeOf119
 v25:=Tryz.zeroValue119
 i25:=by kernel_rfl
 t34:=Tryz.underlying155
 a34:=Tryz.isAgg155
 z34:=Tryz.sizeOf155
 v34:=Tryz.zeroValue155
 i34:=by kernel_rfl
 c34:=by kernel_rfl
 t36:=Tryz.underlying157
 a36:=Tryz.isAgg157
 z36:=Tryz.sizeOf157
 v36:=Tryz.zeroValue157
 i36:=by kernel_rfl
 t37:=Tryz.underlying75
 a37:=Tryz.isAgg75
 z37:=Tryz.sizeOf75
 v37:=Tryz.zeroValue75
 i37:=by kernel_rfl
 t39:=Tryz.underlying158
 a39:=Tryz.isAgg158
 z39:=Tryz.sizeOf158
 v39:=Tryz.zeroValue158
 i39:=by kernel_rfl
 t44:=Tryz.underlying176
 a44:=Tryz.isAgg176
 z44:=Tryz.sizeOf176
 v44:=Tryz.zeroValue176
 i44:=by kernel_rfl
 t47:=Tryz.underlying108
 a47:=Tryz.isAgg108
 z47:=Tryz.sizeOf108
 v47:=Tryz.zeroValue108
 i47:=by kernel_rfl
 t48:=Tryz.underlying194
 a48:=Tryz.isAgg194
 z48:=Tryz.sizeOf194
 v48:=Tryz.zeroValue194
 i48:=by kernel_rfl
 t50:=Tryz.underlying196
 a50:=Tryz.isAgg196
 z50:=Tryz.sizeOf196
 v50:=Tryz.zeroValue196
 i50:=by kernel_rfl
 t52:=Tryz.underlying199
 a52:=Tryz.isAgg199
 z52:=Tryz.sizeOf199
 v52:=Tryz.zeroValue199
 i52:=by kernel_rfl
 t55:=Tryz.underlying202
 a55:=Tryz.isAgg202
 z55:=Tryz.sizeOf202
 v55:=Tryz.zeroValue202
 i55:=by kernel_rfl
 t59:=Tryz.underlying209
 a59:=Tryz.isAgg209
 z59:=Tryz.sizeOf209
 v59:=Tryz.zeroValue209
 i59:=by kernel_rfl
 t60:=Tryz.underlying39
 a60:=Tryz.isAgg39
 z60:=Tryz.sizeOf39
 v60:=Tryz.zeroValue39
 i60:=by kernel_rfl
 t61:=Tryz.underlying210
 a61:=Tryz.isAgg210
 z61:=Tryz.sizeOf210
 t65:=Tryz.underlying214
 a65:=Tryz.isAgg214
 z65:=Tryz.sizeOf214
 v65:=Tryz.zeroValue214
 i65:=by kernel_rfl
 t66:=Tryz.underlying215
 a66:=Tryz.isAgg215
 z66:=Tryz.sizeOf215
 v66:=Tryz.zeroValue215
 i66:=by kernel_rfl
 t67:=Tryz.underlying82
 a67:=Tryz.isAgg82
 z67:=Tryz.sizeOf82
 v67:=Tryz.zeroValue82
 i67:=by kernel_rfl
 g0:=by kernel_rfl
 m0:=by kernel_rfl
 g1:=by kernel_rfl
 m1:=by kernel_rfl
 g2:=by kernel_rfl
 m2:=by kernel_rfl
 g3:=by kernel_rfl
 m3:=by kernel_rfl
 g4:=by kernel_rfl
 m4:=by kernel_rfl }
open Go.RowKit in
theorem Tryz.strconv_ParseUint_10_at32_ok (s:ByteArray)(hmax:s.size<=9223372036854775806)(u:Nat)(h:Lib.parseUintB 32 s.data.toList= .ok u)(w:World) :
 Calls Tryz.prog 53 #[.string s,.int .i64 10,.int .i64 32] w fun e w'=>e= .returned (.tuple #[.int .u64 u,.nilIface])/\(w'= w\/w'= Lib.bytesWorld w 5 s):=Any.strconv_ParseUint_10_at32_ok Tryz.laysPu14 s hmax u h w
open Go.RowKit in
theorem Tryz.strconv_ParseUint_10_at32_range (s:ByteArray)(hlim:s.size<=281474976710656)(h:Lib.parseUintB 32 s.data.toList= .range)(ev:Value)(w:World)(hv:w.cell? ⟨4,0,none⟩=some ev)(hev:ev= .nilIface\/∃te pe,ev= .iface te pe) :
 Calls Tryz.prog 53 #[.string s,.int .i64 10,.int .i64 32] w fun e w'=>∃N,e= .returned (.tuple #[.int .u64 4294967295,.iface 158 (.pointer (some ⟨N,0,none⟩))])/\w.heap.size<=N/\w'.heap[N]? =some (.cells #[.string ⟨#[80,97,114,115,101,85,105,110,116]⟩,.string s,ev] 176 (0,0))/\Below w.heap.size w w':=Any.strconv_ParseUint_10_at32_range Tryz.laysPu14 s hlim h ev w hv hev
def Tryz.lays105_ren:Go.Shelf.Ren:=⟨fun | 105=>107 | 212=>133 | 99=>47 | 165=>134 | 166=>78 | 170=>21 | 169=>22 | 263=>147 | 264=>148 | 206=>81 | 240=>106 | 241=>149 | 276=>132 | 277=>158 | n=>n,fun | 9=>9 | 3=>3 | 4=>4 | 20=>20 | 0=>0 | 46=>157 | 109=>166 | 5=>5 | 72=>77 | 76=>131 | 51=>39 | 146=>179 | 53=>118 | 148=>181 | 70=>74 | 37=>75 | 75=>34 | 127=>108 | 164=>164 | 80=>82 | n=>n,fun | n=>n⟩
theorem Tryz.lays105:Go.Proofs.Lays.n105 Tryz.prog Tryz.lays105_ren:={
 mixed:=by kernel_rfl
 f99:=Tryz.func47.trans (congrArg some (by kernel_rfl))
 f105:=Tryz.func107.trans (congrArg some (by kernel_rfl))
 f165:=Tryz.func134.trans (congrArg some (by kernel_rfl))
 f166:=Tryz.func78.trans (congrArg some (by kernel_rfl))
 f169:=Tryz.func22.trans (congrArg some (by kernel_rfl))
 f170:=Tryz.func21.trans (congrArg some (by kernel_rfl))
 f206:=Tryz.func81.trans (congrArg some (by kernel_rfl))
 f212:=Tryz.func133.trans (congrArg some (by kernel_rfl))
 f240:=Tryz.func106.trans (congrArg some (by kernel_rfl))
 f241:=Tryz.func149.trans (congrArg some (by kernel_rfl))
 f263:=Tryz.func147.trans (congrArg some (by kernel_rfl))
 f264:=Tryz.func148.trans (congrArg some (by kernel_rfl))
 f276:=Tryz.func132.trans (congrArg some (by kernel_rfl))
 f277:=Tryz.func158.trans (congrArg some (by kernel_rfl))
 t0:=Tryz.underlying0
 a0:=Tryz.isAgg0
 z0:=Tryz.sizeOf0
 v0:=Tryz.zeroValue0
 t3:=Tryz.underlying3
 a3:=Tryz.isAgg3
 z3:=Tryz.sizeOf3
 v3:=Tryz.zeroValue3
 t4:=Tryz.underlying4
 a4:=Tryz.isAgg4
 z4:=Tryz.sizeOf4
 v4:=Tryz.zeroValue4
 t5:=Tryz.underlying5
 a5:=Tryz.isAgg5
 z5:=Tryz.sizeOf5
 v5:=Tryz.zeroValue5
 t9:=Tryz.underlying9
 a9:=Tryz.isAgg9
 z9:=Tryz.sizeOf9
 v9:=Tryz.zeroValue9
 t20:=Tryz.underlying20
 a20:=Tryz.isAgg20
 z20:=Tryz.sizeOf20
 v20:=Tryz.zeroValue20
 t37:=Tryz.underlying75
 a37:=Tryz.isAgg75
 z37:=Tryz.sizeOf75
 v37:=Tryz.zeroValue75
 t46:=Tryz.underlying157
 a46:=Tryz.isAgg157
 z46:=Tryz.sizeOf157
 v46:=Tryz.zeroValue157
 t51:=Tryz.underlying39
 a51:=Tryz.isAgg39
 z51:=Tryz.sizeOf39
 v51:=Tryz.zeroValue39
 t53:=Tryz.underlying118
 a53:=Tryz.isAgg118
 z53:=Tryz.sizeOf118
 v53:=Tryz.zeroValue118
 t70:=Tryz.underlying74
 a70:=Tryz.isAgg74
 z70:=Tryz.sizeOf74
 v70:=Tryz.zeroValue74
 t72:=Tryz.underlying77
 a72:=Tryz.isAgg77
 z72:=Tryz.sizeOf77
 v72:=Tryz.zeroValue77
 t75:=Tryz.underlying34
 a75:=Tryz.isAgg34
 z75:=Tryz.sizeOf34
 v75:=Tryz.zeroValue34
 t76:=Tryz.underlying131
 a76:=Tryz.isAgg131
 z76:=Tryz.sizeOf131
 v76:=Tryz.zeroValue131
 t109:=Tryz.underlying166
 a109:=Tryz.isAgg166
 z109:=Tryz.sizeOf166
 v109:=Tryz.zeroValue166
 t127:=Tryz.underlying108
 a127:=Tryz.isAgg108
 z127:=Tryz.sizeOf108
 v127:=Tryz.zeroValue108
 t146:=Tryz.underlying179
 a146:=Tryz.isAgg179
 z146:=Tryz.sizeOf179
 v146:=Tryz.zeroValue179
 t148:=Tryz.underlying181
 a148:=Tryz.isAgg181
 z148:=Tryz.sizeOf181
 v148:=Tryz.zeroValue181
 t164:=Tryz.underlying164
 a164:=Tryz.isAgg164
 z164:=Tryz.sizeOf164
 v164:=Tryz.zeroValue164 }
theorem Tryz.Builder_Extra_105:Builder.Extra Tryz.prog Tryz.lays105_ren:={
 sizeBuilder:=by kernel_rfl
 liesBuilder:=by kernel_rfl
 t5:=Tryz.underlying5
 a5:=Tryz.isAgg5
 z5:=Tryz.sizeOf5
 v5:=Tryz.zeroValue5
 infoByte:=by kernel_rfl
 cellsByte:=by kernel_rfl
 sizeByte:=by kernel_rfl
 neB5:=by decide }
open Go.RowKit Go.Lib in
theorem Tryz.strings_Repeat (s:ByteArray)(c:Nat)(w:World)(hc:c<=9223372036854775807)(hlen:s.size*c<=140737488355328) :
 Calls Tryz.prog 107 #[.string s,.int .i64 c] w fun e w'=>e= .returned (.string ⟨(Lib.repeatL s.data.toList c).toArray⟩)/\Below w.heap.size w w':=Any.strings_Repeat Tryz.lays105 Tryz.Builder_Extra_105 s c w hc hlen
end Go.Proofs
set_option maxRecDepth 100000
namespace Go.Abs.YtlkfbfhkcaldlaaGreatDoor
open Go.Proofs Go.RowKit Go.Sort Go.Lib
theorem holds_zero0 (w:World)(T:TypeId)(nd:Nat)(hs:nd<=24):Holds (fun(b:UInt8)=>Value.int .u8 (b.toNat:Int)) (w.alloc (.cells Lib.zeros24 T)) w.heap.size 0 (Array.replicate nd (0:UInt8)):=fun j hj=>by
 have hj':j<nd:=by simpa using hj
 refine⟨?_,World.frozen?_alloc_new _ _ _ _⟩
 rw [World.cell?_alloc_new,Lib.zeros24_at _ (by omega),getElem!_pos _ j hj]
 simp
theorem Ul (w:World)(o:Obj)(dk:Array UInt8)(k:Nat):∃os,(putRow (fun(b:UInt8)=>Value.int .u8 (b.toNat:Int)) (w.alloc o) w.heap.size 0 dk).drewN k=grow (w.drewN k) os:=by
 rw [alloc_eq_grow]
 obtain⟨os',_,e⟩:=putRow_grow_new (fun(b:UInt8)=>Value.int .u8 (b.toNat:Int)) w #[o] w.heap.size 0 dk (Nat.le_refl _)
 exact⟨os',by rw [e];rfl⟩
set_option maxHeartbeats 6400000 in
theorem DY (u:Nat)(hb:100<=u)(hu64:u<18446744073709551616)(w:World)(htab:Lib.TabIs Tryz.prog w "internal/strconv.uint64pow10" .u64 Lib.pow10Tab) :
 Calls Tryz.prog 150 #[.int .u64 u,.int .i64 10] w fun e w'=>e= .returned (.string ⟨(Lib.decDigits u).toArray⟩)/\∃k os,w'= grow (w.drewN k) os:=by
 have hu1:1<=u:=by omega
 have hnd20:Lib.nDigits u<=20:=by have:=Lib.numDigits_eq u hu1 hu64;split at this <;> omega
 have hb3:Lib.nDigits u<=24:=by omega
 have hal:Tryz.prog.arrayLen 199=24:=by simp [Program.arrayLen,Tryz.underlying199]
 have hsl1:∀W,(Instr.sliceAt 199 (.pointer (some ⟨w.heap.size,0,none⟩)) none (some (.int .i64 (Lib.nDigits u:Int))) none).run Tryz.prog W= .ok (.slice (some ⟨w.heap.size,0,none⟩) (Lib.nDigits u) 24) W:=fun W=>by
  rw [run_sliceAt_array_h W 199 ⟨w.heap.size,0,none⟩ (by simp [Program.arrayLen,Program.elem,Tryz.underlying199]) .i64 (Lib.nDigits u:Int) (by omega) (by rw [hal];omega)]
  go_simp
 have hH0:=holds_zero0 w 199 (Lib.nDigits u) (by omega)
 have hfmt:=Tryz.internal_strconv_formatBase10 w.heap.size 0 24 u (Array.replicate (Lib.nDigits u) 0) (w.alloc (.cells Lib.zeros24 199)) hH0 (by rw [Array.size_replicate];exact Lib.lt_pow_nDigits u) hu64 (by rw [Array.size_replicate];omega)
 rw [Array.size_replicate] at hfmt
 have HH0:=Lib.hid hH0
 clear hH0 hal
 go_enter Tryz.func150,Tryz.ntmps150
 go_wp2_with (first
  | (go_at_fn (160:Nat);refine(Tryz.internal_strconv_numDigits u hu1 hu64 _ (Lib.tabIs_alloc htab _)).mono ?_;rintro e w' ⟨rfl,rfl⟩))
 go_at_fn (161:Nat)
 refine hfmt.mono ?_
 rintro e w' ⟨rfl,k,v',dk,rfl,hF⟩
 have hcv:(convert 75 9 (.slice (some ⟨w.heap.size,0,none⟩) (Lib.nDigits u) 24)).run Tryz.prog ((putRow (fun(b:UInt8)=>Value.int .u8 (b.toNat:Int)) (w.alloc (.cells Lib.zeros24 199)) w.heap.size 0 dk).drewN k)= .ok (.string ⟨(Lib.decDigits u).toArray⟩) ((putRow (fun(b:UInt8)=>Value.int .u8 (b.toNat:Int)) (w.alloc (.cells Lib.zeros24 199)) w.heap.size 0 dk).drewN k):=by
  have h:=run_convert_bytes_back (P:=Tryz.prog) ((putRow (fun(b:UInt8)=>Value.int .u8 (b.toNat:Int)) (w.alloc (.cells Lib.zeros24 199)) w.heap.size 0 dk).drewN k) 75 9 5 ⟨w.heap.size,0,none⟩ 24 (Lib.decDigits u) Tryz.underlying75 Tryz.underlying5 Tryz.underlying9 (fun j hj=>by
   rw [Lib.row_is_numeral hF j hj,Lib.add_plain,World.cell?_drewN]
   exact cell?_putRow (fun(b:UInt8)=>Value.int .u8 (b.toNat:Int)) _ w.heap.size 0 _ dk HH0.out (by rw [hF.size,Array.size_replicate]) j (by rw [hF.size];rw [Lib.decDigits_length] at hj;exact hj))
  rw [Lib.decDigits_length] at h
  exact h
 go_wp2
 go_ret
 obtain⟨os,eo⟩:=Ul w (.cells Lib.zeros24 199) dk k
 exact⟨rfl,k,os,eo⟩
theorem Ad (u:Nat)(hb:u<100)(w:World) :
 Calls Tryz.prog 150 #[.int .u64 u,.int .i64 10] w fun e w'=>e= .returned (.string ⟨(Lib.decDigits u).toArray⟩)/\w'= w:=by
 go_enter Tryz.func150,Tryz.ntmps150
 go_wp2_with (go_at_fn (159:Nat);refine(Tryz.internal_strconv_small u hb _).mono ?_;rintro e w' ⟨rfl,rfl⟩)
 go_ret
 exact⟨rfl,rfl⟩
end Go.Abs.YtlkfbfhkcaldlaaGreatDoor
namespace Go.Abs.YtlkfbfhkcaldlaaGreatDoor
open Go.Proofs Go.RowKit Go.Extern
def rC:List AV->St->Option (AV×St)
 | [.s l,.i .u8 c],Z=>some (.i .i64 (Lib.indexByte l c.toNat.toUInt8),Z)
 | _,_=>none
def jX:List AV->St->Option (AV×St)
 | [.s l,.i .i64 10,.i .i64 32],Z=>if l.length<=281474976710656 then(match Lib.parseUintB 32 l with
   | .ok u=>some (.tu [.i .u64 u,.ic0],Z)
   | .range=>(match (Z[4]? :Option AO) with
     | some ⟨0,_,.cells _ (.ic _ _ :: _)⟩=>some (.tu [.i .u64 4294967295,.ic 158 .u],Z)
     | _=>none)
   | _=>none) else none
 | _,_=>none
def NK:List AV:=Lib.pow10Tab.map (AV.i .u64)
def iV (Z:St):Bool:=match (Z[5]? :Option AO) with
 | some ⟨0,true,.cells _ cs⟩=>AV.eqvs cs NK
 | _=>false
def mM:List AV->St->Option (AV×St)
 | [.i .u64 n,.i .i64 10],Z=>if 0<=n/\n<18446744073709551616/\(n<100\/iV Z=true) then some (.s (Lib.decDigits n.toNat),Z) else none
 | _,_=>none
def yO:List AV->St->Option (AV×St)
 | [.s l,.i .i64 n],Z=>if 0<=n/\n<=9223372036854775807/\l.length*n.toNat<=140737488355328 then some (.s (Lib.repeatL l n.toNat),Z) else none
 | _,_=>none
noncomputable def Um:Nat->Option (List AV->St->Option (AV×St))
 | 48=>some rC
 | 53=>some jX
 | 150=>some mM
 | 107=>some yO
 | _=>none
def meths:Nat->String->AV->Option (Nat×AV):=fun _ _ _=>none
@[reducible] noncomputable def XB:Ctx:=⟨Tryz.prog,fns,Um,meths,fun f=>Nat.beq f 44⟩
theorem gPow:Tryz.prog.globalNamed "internal/strconv.uint64pow10" =some 5:=by kernel_rfl
theorem Un:XB.P.follows .mixedOrders=true:=by kernel_rfl
section
variable {Y:Mu} {Z Z':St} {w:World} {args:List AV} {r:AV} {aO:Array Value}
theorem Uo (l:List UInt8):(⟨l.toArray⟩:ByteArray).data.toList=l:=by simp
theorem Ur (l:List UInt8):(⟨l.toArray⟩:ByteArray).size=l.length:=by simp [ByteArray.size]
theorem Us (hs:g_ 10 Y Z w)(h:iV Z=true):Lib.TabIs Tryz.prog w "internal/strconv.uint64pow10" .u64 Lib.pow10Tab:=by
 unfold iV at h
 split at h
 ·rename_i e cs ho
  have h:=AV.kN _ _ h
  subst h
  obtain⟨dB,fr,q1,_,q3⟩:=hs.tab (by omega) ho
  have q4:=DX q3
  unfold Lib.TabIs World.var?
  rw [gPow]
  simp only [Option.bind_some,q1]
  rw [<-q4]
 ·cases h
theorem QW {f:Nat} (he:Enters Tryz.prog f) {u:Value} (hs:g_ 10 Y Z w)(hu:aI Y w r u)(h:Calls Tryz.prog f aO w fun e w'=>e= .returned u/\w'= w):Does Tryz.prog f aO w (After 10 Y Z w r Z):=
 Does.jT he (h.mono fun e w' q=>by obtain⟨rfl,rfl⟩:=q;exact⟨_,Y,rfl,hu,Step.refl hs⟩)
theorem rD {f:Nat} (he:Enters Tryz.prog f) {u:Value} (hs:g_ 10 Y Z w)(hu:∀w',aI Y w' r u)(h:Calls Tryz.prog f aO w fun e w'=>e= .returned u/\Below w.heap.size w w'):Does Tryz.prog f aO w (After 10 Y Z w r Z):=
 Does.jT he (h.mono fun e w' q=>by obtain⟨rfl,hb⟩:=q;exact⟨_,Y,rfl,hu w',Step.of_below hs hb⟩)
theorem grown_below (n:Nat)(os:Array Obj):Below w.heap.size w (Go.Sort.grow (w.drewN n) os):=⟨rfl,rfl,rfl,by simp [Go.Sort.grow],fun i hi=>by
 show ((w.drewN n).heap ++ os)[i]? =_
 rw [Array.getElem?_append_left (by show i<w.heap.size;omega)];rfl⟩
theorem DZ (h:mM args Z=some (r,Z'))(hs:g_ 10 Y Z w)(hr:aJ Y w args aO.toList):Does Tryz.prog 150 aO w (After 10 Y Z w r Z'):=by
 unfold mM at h
 split at h
 ·rename_i n
  split at h
  ·rename_i hc
   cases h
   obtain⟨v,u,rfl,h1,h2⟩:=Aa hr
   simp only [aI] at h1 h2
   subst h1;subst h2
   obtain⟨k,rfl⟩:∃k:Nat,n=k:=⟨n.toNat,by omega⟩
   by_cases hk:k<100
   ·exact QW (iw Tryz.func150 (by kernel_rfl) (by kernel_rfl)) hs rfl (Ad k hk w)
   ·exact rD (iw Tryz.func150 (by kernel_rfl) (by kernel_rfl)) hs (fun _=>rfl) ((DY k (by omega) (by omega) w (Us hs (hc.2.2.resolve_left (by omega)))).mono fun e w' q=>by
     obtain⟨rfl,k,os,rfl⟩:=q;exact⟨rfl,grown_below k os⟩)
  ·cases h
 ·cases h
theorem NM (h:yO args Z=some (r,Z'))(hs:g_ 10 Y Z w)(hr:aJ Y w args aO.toList):Does Tryz.prog 107 aO w (After 10 Y Z w r Z'):=by
 unfold yO at h
 split at h
 ·rename_i l n
  split at h
  ·rename_i hc
   cases h
   obtain⟨v,u,rfl,h1,h2⟩:=Aa hr
   simp only [aI] at h1 h2
   subst h1;subst h2
   obtain⟨k,rfl⟩:∃k:Nat,n=k:=⟨n.toNat,by omega⟩
   have hq:=Tryz.strings_Repeat ⟨l.toArray⟩ k w (by omega) (by rw [Ur];simpa using hc.2.2)
   rw [Uo] at hq
   exact rD (iw Tryz.func107 (by kernel_rfl) (by kernel_rfl)) hs (fun _=>rfl) hq
  ·cases h
 ·cases h
theorem FC (h:rC args Z=some (r,Z'))(hs:g_ 10 Y Z w)(hr:aJ Y w args aO.toList):Does Tryz.prog 48 aO w (After 10 Y Z w r Z'):=by
 unfold rC at h
 split at h
 ·rename_i l c
  cases h
  obtain⟨v,u,rfl,h1,h2⟩:=Aa hr
  simp only [aI] at h1 h2
  subst h1;subst h2
  refine Does.jT (iw Tryz.func48 (by kernel_rfl) (by kernel_rfl)) ((Tryz.strings_IndexByte ⟨l.toArray⟩ c w).mono fun e w' he=>?_)
  obtain⟨rfl,rfl⟩:=he
  exact⟨_,Y,rfl,rfl,Step.refl hs⟩
 ·cases h
theorem FD (h:jX args Z=some (r,Z'))(hs:g_ 10 Y Z w)(hr:aJ Y w args aO.toList):Does Tryz.prog 53 aO w (After 10 Y Z w r Z'):=by
 have he:=iw Tryz.func53 (by kernel_rfl) (by kernel_rfl)
 unfold jX at h
 split at h
 ·rename_i l
  obtain⟨v,u,t,rfl,h1,h2,h3⟩:=KE hr
  simp only [aI] at h1 h2 h3
  subst h1;subst h2;subst h3
  split at h
  ·rename_i hl
   have hsz:(⟨l.toArray⟩:ByteArray).size<=281474976710656:=by simpa [ByteArray.size] using hl
   split at h
   ·rename_i n hn
    cases h
    refine Does.jT he ((Tryz.strconv_ParseUint_10_at32_ok ⟨l.toArray⟩ (by omega) n (by simpa using hn) w).mono fun e w' hew=>?_)
    obtain⟨rfl,hw⟩:=hew
    refine⟨_,Y,rfl,⟨_,rfl,.int .u64 n,_,rfl,rfl,.nilIface,[],rfl,rfl,rfl⟩,?_⟩
    rcases hw with rfl | rfl
    ·exact Step.refl hs
    ·exact Step.of_below hs (Lib.bytesWorld_below w _ _)
   ·rename_i hn
    split at h
    ·rename_i ro t0 tp v0 rest hg
     cases h
     have hg0:=hs.xk 4 (by omega)
     obtain⟨c,hc1,hc2⟩:=hs.cell hg hg0
     obtain⟨y,rfl,_⟩:=hc2
     refine Does.jT he ((Tryz.strconv_ParseUint_10_at32_range ⟨l.toArray⟩ hsz (by simpa using hn) (.iface tp y) w hc1 (.inr ⟨tp,y,rfl⟩)).mono fun e w' hew=>?_)
     obtain⟨N,rfl,_,_,hb⟩:=hew
     exact⟨_,Y,rfl,⟨_,rfl,.int .u64 4294967295,_,rfl,rfl,_,[],rfl,⟨_,rfl,trivial⟩,rfl⟩,Step.of_below hs hb⟩
    ·cases h
   ·cases h
  ·cases h
 ·cases h
end
theorem Ut:XB.Sound 10 where
 draws:=Un
 SS:=fun f h=>by
  obtain rfl:=wJ h
  exact⟨rfl,fun F hF=>Ue _ F hF (by decide)⟩
 fns:=fun f F _ h=>by
  by_cases hf:f=136
  ·subst hf
   cases h
   exact .inr YA
  ·exact .inl (Ue f F h (by simpa using hf))
 ok:={
  fM:=by
    intro f g hf args Z r Z' hg Y w aO hs hr
    have hf':Um f=some g:=hf
    unfold Um at hf'
    split at hf'
    ·cases hf';exact FC hg hs hr
    ·cases hf';exact FD hg hs hr
    ·cases hf';exact DZ hg hs hr
    ·cases hf';exact NM hg hs hr
    ·cases hf'
  meth:=by
    intro t m a k hk
    cases hk }
end Go.Abs.YtlkfbfhkcaldlaaGreatDoor
