/- Texts of this claim, joined: Abs21, Abs22, Tb, Abs23, Abs24, Abs25. -/
import Derived.Test.YtlkfbfhkcaldlaaGreatDoorM05
import Derived.Test.YtlkfbfhkcaldlaaGreatDoorProg
import Derived.KernelRfl
set_option linter.unusedVariables false
set_option linter.unusedSimpArgs false
namespace Go.Abs
theorem wrap_i64 {n:Int} (h1: -9223372036854775808<=n)(h2:n<=9223372036854775807):IntKind.i64.wrap n=n:=by
 simp [IntKind.wrap,IntKind.signed,IntKind.bits];omega
theorem wrap_i32 {n:Int} (h1: -2147483648<=n)(h2:n<=2147483647):IntKind.i32.wrap n=n:=by
 simp [IntKind.wrap,IntKind.signed,IntKind.bits];omega
theorem wrap_u8 {n:Int} (h1:0<=n)(h2:n<=255):IntKind.u8.wrap n=n:=by
 simp [IntKind.wrap,IntKind.signed,IntKind.bits];omega
theorem wrap_u32 {n:Int} (h1:0<=n)(h2:n<=4294967295):IntKind.u32.wrap n=n:=by
 simp [IntKind.wrap,IntKind.signed,IntKind.bits];omega
theorem wrap_u64 {n:Int} (h1:0<=n)(h2:n<=18446744073709551615):IntKind.u64.wrap n=n:=by
 simp [IntKind.wrap,IntKind.signed,IntKind.bits];omega
end Go.Abs
namespace Go.Abs
inductive BT where
 | nil
 | leaf (t:Nat) (T:AT)
 | node (m:Nat) (l r:BT)
def BT.get:BT->Nat->Option AT
 | .nil,_=>none
 | .leaf t T,n=>bif Nat.beq t n then some T else none
 | .node m l r,n=>bif Nat.blt n m then l.get n else r.get n
def BT.toList:BT->List (Nat×AT)
 | .nil=>[]
 | .leaf t T=>[(t,T)]
 | .node _ l r=>l.toList ++ r.toList
theorem BT.get_mem:∀(b:BT) (n:Nat) (T:AT),b.get n=some T->(n,T)∈b.toList
 | .nil,_,_,h=>by cases h
 | .leaf t T,n,T',h=>by
   simp only [BT.get] at h
   cases hb:Nat.beq t n with
   | true=>rw [hb] at h;cases h;rw [wJ hb];exact List.mem_singleton.2 rfl
   | false=>rw [hb] at h;cases h
 | .node m l r,n,T,h=>by
   simp only [BT.get] at h
   cases hb:Nat.blt n m with
   | true=>rw [hb] at h;exact List.mem_append_left _ (BT.get_mem l n T h)
   | false=>rw [hb] at h;exact List.mem_append_right _ (BT.get_mem r n T h)
abbrev pR:=Nat->Option AT
def pR.Ok (τ:pR)(P:Program):Prop:=∀t T,τ t=some T->tyOf P t=some T
theorem BT.ok {b:BT} {P:Program} (h:b.toList.map (fun p=>tyOf P p.1)=b.toList.map (fun p=>some p.2)):pR.Ok b.get P:=by
 intro t T ht
 have hm:=BT.get_mem b t T ht
 have:=List.map_inj_left.1 h _ hm
 exact this
def PX (τ:pR)(t:Nat):Nat:=match τ t with | some T=>T.size | none=>0
theorem NP {P:Program} {t:Nat} {T:AT} (h:tyOf P t=some T):P.cellsOf t=T.size:=by
 unfold tyOf at h
 split at h
 ·rename_i i d hi _
  split at h
  ·cases h;simp [Program.cellsOf,hi]
  ·cases h
 ·cases h
section
variable {τ:pR} {P:Program} (fP:τ.Ok P)
include fP
theorem xG {t:Nat} (h:0<PX τ t):P.cellsOf t=PX τ t:=by
 unfold PX at h ⊢
 cases ht:τ t with
 | none=>rw [ht] at h;exact absurd h (Nat.lt_irrefl 0)
 | some T=>simp only;exact NP (fP t T ht)
end
def cB (t:Bool)(A B:Prop):Prop:=match t with | true=>A | false=>B
def om {α:Type} (o:Option α)(Q:α->Prop):Prop:=match o with | some a=>Q a | none=>False
theorem D5 {α:Type} {o:Option α} {Q:α->Prop} (h:om o Q):opt o Q:=by
 cases o with
 | none=>exact h.elim
 | some a=>exact⟨a,rfl,h⟩
mutual
def fq (v:AV)(Q:AV->Prop):Prop:=match v with
 | .u=>Q .u
 | .b t=>Q (.b t)
 | .i k n=>Q (.i k n)
 | .s x=>Q (.s x)
 | .p0=>Q .p0
 | .p o g off=>Q (.p o g off)
 | .sl0=>Q .sl0
 | .sl o g off n z=>Q (.sl o g off n z)
 | .fn f a c=>Q (.fn f a c)
 | .fn0=>Q .fn0
 | .ic t v=>Q (.ic t v)
 | .ic0=>Q .ic0
 | .ag cs=>II cs fun cs=>Q (.ag cs)
 | .tu cs=>II cs fun cs=>Q (.tu cs)
 | .mp0=>Q .mp0
 | .mp o g=>Q (.mp o g)
 | .cd c v=>Q (.cd c v)
def II (l:List AV)(Q:List AV->Prop):Prop:=match l with
 | []=>Q []
 | v :: l=>fq v fun v=>II l fun l=>Q (v :: l)
end
mutual
theorem KI:∀(v:AV) (Q:AV->Prop),fq v Q->Q v:=by
 intro v Q h
 match v with
 | .u | .b _ | .i _ _ | .s _ | .p0 | .p _ _ _ | .sl0 | .sl _ _ _ _ _ | .fn _ _ _ | .fn0 | .ic _ _ | .ic0 | .mp0 | .mp _ _ | .cd _ _=>simpa only [fq] using h
 | .ag cs=>simp only [fq] at h;exact oq cs _ h
 | .tu cs=>simp only [fq] at h;exact oq cs _ h
theorem oq:∀(l:List AV) (Q:List AV->Prop),II l Q->Q l:=by
 intro l Q h
 match l with
 | []=>simpa only [II] using h
 | v :: l=>simp only [II] at h;exact oq l _ (KI v _ h)
end
def fc (v:AV)(Q:AV->Prop):Prop:=match v with
 | .b t=>cB t (Q (.b true)) (Q (.b false))
 | v=>fq v Q
theorem iW (v:AV)(Q:AV->Prop)(h:fc v Q):Q v:=by
 cases v with
 | b t=>cases t <;> exact h
 | _=>exact KI _ _ h
def nums:List Nat:=[0,1,2,3,4,5,6,7,8,9,10,11,12,13,14,15,16,17,18,19,20,21,22,23,24,25,26,27,28,29,30,31,32,33,34,35,36,37,38,39,40,41,42,43,44,45,46,47,48,49,50,51,52,53,54,55,56,57,58,59,60,61,62,63]
def Uu {α:Type} :List α->List Nat->(Nat->Prop)->Prop
 | [],k :: _,Q=>Q k
 | _ :: l,_ :: ks,Q=>Uu l ks Q
 | _,[],_=>False
theorem D6 {α:Type} :∀(l:List α) (s m:Nat) (Q:Nat->Prop),Uu l (List.range' s m) Q->Q (s+l.length)
 | [],s,0,Q,h=>h.elim
 | [],s,m+1,Q,h=>h
 | _ :: l,s,0,Q,h=>h.elim
 | _ :: l,s,m+1,Q,h=>by
   have:=D6 l (s+1) m Q (by simpa only [List.range'_succ,Uu] using h)
   simpa [Nat.add_comm,Nat.add_left_comm,Nat.add_assoc] using this
def KJ (lit:Bool)(Z:St)(Q:Nat->Prop):Prop:=match lit with | true=>Uu Z nums Q | false=>Q Z.length
theorem rF (lit:Bool)(Z:St)(Q:Nat->Prop)(h:KJ lit Z Q):Q Z.length:=by
 cases lit with
 | false=>exact h
 | true=>
   have e:nums=List.range' 0 64:=by decide
   have h':Uu Z nums Q:=h
   rw [e] at h'
   simpa using D6 Z 0 64 Q h'
def QX (Z:St)(Q:St->Prop):Prop:=match Z with
 | []=>Q []
 | a :: r=>match a with
   | ⟨g,ro,k⟩=>match k with
     | .cells e cs=>QX r fun r=>Q (⟨g,ro,.cells e cs⟩ :: r)
     | .iter s p=>QX r fun r=>Q (⟨g,ro,.iter s p⟩ :: r)
     | .maps m=>QX r fun r=>Q (⟨g,ro,.maps m⟩ :: r)
     | .dead=>QX r fun r=>Q (⟨g,ro,.dead⟩ :: r)
     | .froz e l=>QX r fun r=>Q (⟨g,ro,.froz e l⟩ :: r)
theorem Ae:∀(Z:St) (Q:St->Prop),QX Z Q->Q Z
 | [],Q,h=>by simpa only [QX] using h
 | ⟨g,ro,.cells e cs⟩ :: r,Q,h=>Ae r _ (by simpa only [QX] using h)
 | ⟨g,ro,.iter s p⟩ :: r,Q,h=>Ae r _ (by simpa only [QX] using h)
 | ⟨g,ro,.maps m⟩ :: r,Q,h=>Ae r _ (by simpa only [QX] using h)
 | ⟨g,ro,.dead⟩ :: r,Q,h=>Ae r _ (by simpa only [QX] using h)
 | ⟨g,ro,.froz e l⟩ :: r,Q,h=>Ae r _ (by simpa only [QX] using h)
def NQ (lit:Bool)(Z:St)(Q:St->Prop):Prop:=match lit with | true=>QX Z Q | false=>Q Z
theorem kU (lit:Bool)(Z:St)(Q:St->Prop)(h:NQ lit Z Q):Q Z:=by
 cases lit with
 | false=>exact h
 | true=>exact Ae Z Q h
def NR (k:IntKind)(n:Int)(Q:AV->Prop):Prop:=∃r,k.wrap n=r/\Q (.i k r)
def GR (τ:pR)(eq:Nat->AV->AV->Option Bool):List (Nat×Nat×Bool)->List AV->List AV->Option Bool
 | [],_,_=>some true
 | f :: fs,xs,ys=>
   if f.2.2 then GR τ eq fs xs ys else
   match τ f.2.1 with
   | none=>none
   | some F=>
     match partOf F xs f.1,partOf F ys f.1 with
     | some x,some y=>match eq f.2.1 x y with
       | some b=>match fs with
         | []=>some b
         | fs=>match GR τ eq fs xs ys with
           | some c=>some (b && c)
           | none=>none
       | none=>none
     | _,_=>none
def eqT (τ:pR):Nat->Nat->AV->AV->Option Bool
 | 0,_,_,_=>none
 | d+1,t,x,y=>
   match τ t with
   | none=>none
   | some T=>
   match T.d,x,y with
   | .bool,.b p,.b q=>some (p == q)
   | .int _,.i k p,.i k' q=>if k=k' then some (decide (p=q)) else none
   | .str,.s p,.s q=>some (p == q)
   | .ptr _,.p0,.p0=>some true
   | .ptr _,.p0,.p _ _ _=>some false
   | .ptr _,.p _ _ _,.p0=>some false
   | .ptr e,.p o g off,.p o' g' off'=>if o=o'/\g=g'/\0<PX τ e then some (off == off') else none
   | .slice _,.sl0,.sl0=>some true
   | .slice _,.sl0,.sl _ _ _ _ _=>some false
   | .slice _,.sl _ _ _ _ _,.sl0=>some false
   | .fn,.fn0,.fn0=>some true
   | .fn,.fn0,.fn _ _ _=>some false
   | .fn,.fn _ _ _,.fn0=>some false
   | .map _ _,.mp0,.mp0=>some true
   | .map _ _,.mp0,.mp _ _=>some false
   | .map _ _,.mp _ _,.mp0=>some false
   | .ifc _,.ic0,.ic0=>some true
   | .ifc _,.ic0,.ic _ _=>some false
   | .ifc _,.ic _ _,.ic0=>some false
   | .ifc _,.ic t p,.ic t' q=>if t=t' then(match τ t with | some T=>if T.cmp then eqT τ d t p q else none | none=>none) else some false
   | .st fs,.ag xs,.ag ys=>if T.held then none else GR τ (eqT τ d) fs xs ys
   | _,_,_=>none
section
variable {τ:pR} {P:Program} (fP:τ.Ok P)
include fP
theorem D7 {eq eq':Nat->AV->AV->Option Bool} (he:∀t x y b,eq t x y=some b->eq' t x y=some b):∀(fs:List (Nat×Nat×Bool)) (xs ys:List AV) (b:Bool),GR τ eq fs xs ys=some b->aEqFs P eq' fs xs ys=some b
 | [],_,_,b,h=>by simpa only [GR,aEqFs] using h
 | f :: fs,xs,ys,b,h=>by
   unfold GR at h
   unfold aEqFs
   split at h
   ·rename_i hf;rw [if_pos hf];exact D7 he fs xs ys b h
   ·rename_i hf;rw [if_neg hf]
    split at h
    ·cases h
    ·rename_i F hF
     rw [fP _ _ hF]
     split at h
     ·rename_i x y hx hy
      simp only [hx,hy]
      split at h
      ·rename_i b1 hb1
       rw [he _ _ _ _ hb1]
       split at h
       ·cases h;cases b <;> rfl
       ·split at h
        ·rename_i b2 hb2
         cases h
         cases b1 with
         | true=>simp only [Bool.true_and];exact D7 he _ xs ys b2 hb2
         | false=>rfl
        ·cases h
      ·cases h
     ·cases h
theorem IJ:∀(d t:Nat) (x y:AV) (b:Bool),eqT τ d t x y=some b->aEq P d t x y=some b
 | 0,_,_,_,b,h=>by cases h
 | d+1,t,x,y,b,h=>by
   unfold eqT at h
   split at h
   ·cases h
   ·rename_i T hT
    unfold aEq
    rw [fP _ _ hT]
    simp only
    split at h <;> (rename_i hd;simp only [hd])
    all_goals first
     | exact h
     | cases h
     | skip
    ·split at h
     ·rename_i hk
      obtain⟨h1,h2,h3⟩:=hk
      have h4:=h3
      rw [<-xG fP h3] at h4
      rw [if_pos ⟨h1,h2,h4⟩];exact h
     ·cases h
    ·split at h
     ·rename_i ht
      rw [if_pos ht]
      split at h
      ·rename_i T' hT'
       split at h
       ·rename_i hc
        rw [fP _ _ hT',if_pos (by simpa using hc)]
        exact IJ d _ _ _ b h
       ·cases h
      ·cases h
     ·rename_i ht;rw [if_neg ht];exact h
    ·split at h
     ·cases h
     ·rename_i hh;rw [if_neg hh];exact D7 fP (fun t x y b=>IJ d t x y b) _ _ _ b h
end
end Go.Abs
namespace Go.Abs.YtlkfbfhkcaldlaaGreatDoor
open Go.Proofs
def yT1:AT:=⟨.fn,1,8,.fn0,false,false,false⟩
def fF:AT:=⟨.int .i64,1,8,.i .i64 0,true,false,false⟩
def xH:AT:=⟨.bool,1,1,.b false,true,false,false⟩
def yT5:AT:=⟨.int .u8,1,1,.i .u8 0,true,false,false⟩
def fB:AT:=⟨.str,1,16,.s [],true,false,false⟩
def yT21:AT:=⟨.int .i32,1,4,.i .i32 0,true,false,false⟩
def yT22:AT:=⟨.ptr 60,1,8,.p0,true,false,false⟩
def yT23:AT:=⟨.int .i64,1,8,.i .i64 0,true,false,false⟩
def aaw:AT:=⟨.st [(0,23,false),(1,3,false)],2,16,.ag [.i .i64 0,.i .i64 0],true,false,false⟩
def yT34:AT:=⟨.ifc [("Error",82)],1,16,.ic0,true,false,true⟩
def yT38:AT:=⟨.arr 2 5,2,2,.ag [.i .u8 0,.i .u8 0],true,false,false⟩
def wE:AT:=⟨.int .u32,1,4,.i .u32 0,true,false,false⟩
def yT40:AT:=⟨.arr 3 39,3,12,.ag [.i .u32 0,.i .u32 0,.i .u32 0],true,false,false⟩
def aW:AT:=⟨.ptr 48,1,8,.p0,true,false,false⟩
def uf:AT:=⟨.slice 44,1,24,.sl0,false,false,false⟩
def yT48:AT:=⟨.st [(0,3,false),(1,39,false),(2,9,false),(3,9,false),(4,44,false),(5,44,false),(6,46,false),(7,3,false)],8,96,.ag [.i .i64 0,.i .u32 0,.s [],.s [],.p0,.p0,.sl0,.i .i64 0],false,false,false⟩
def qC:AT:=⟨.slice 62,1,24,.sl0,false,false,false⟩
def yT52:AT:=⟨.st [(0,23,false),(1,3,false)],2,16,.ag [.i .i64 0,.i .i64 0],true,false,false⟩
def yT57:AT:=⟨.st [(0,51,false),(1,3,false),(2,3,false),(3,4,false),(4,25,false)],6,64,.ag [.sl0,.i .i64 0,.i .i64 0,.b false,.i .i64 0,.i .i64 0],false,false,false⟩
def ug:AT:=⟨.slice 64,1,24,.sl0,false,false,false⟩
def yT60:AT:=⟨.st [(0,58,false)],1,24,.ag [.sl0],false,false,false⟩
def BR:AT:=⟨.st [(0,3,false),(1,9,false),(2,3,false)],3,32,.ag [.i .i64 0,.s [],.i .i64 0],true,false,false⟩
def dY:AT:=⟨.ptr 69,1,8,.p0,true,false,false⟩
def qE:AT:=⟨.slice 71,1,24,.sl0,false,false,false⟩
def dL:AT:=⟨.slice 96,1,24,.sl0,false,false,false⟩
def yT69:AT:=⟨.st [(0,9,false),(1,66,false),(2,4,false),(3,67,false),(4,3,false)],5,80,.ag [.s [],.sl0,.b false,.sl0,.i .i64 0],false,false,false⟩
def gG:AT:=⟨.st [(0,9,false),(1,4,false)],2,24,.ag [.s [],.b false],true,false,false⟩
def yT74:AT:=⟨.ptr 77,1,8,.p0,true,false,false⟩
def YC:AT:=⟨.slice 5,1,24,.sl0,false,false,false⟩
def yT77:AT:=⟨.st [(0,74,false),(1,75,false)],2,32,.ag [.p0,.sl0],false,false,false⟩
def yT79:AT:=⟨.st [(0,77,false),(2,3,false),(3,4,false)],4,48,.ag [.p0,.sl0,.i .i64 0,.b false],false,false,false⟩
def bf:AT:=⟨.ptr 88,1,8,.p0,true,false,false⟩
def Uw:AT:=⟨.ptr 25,1,8,.p0,true,false,false⟩
def yT88:AT:=⟨.st [(0,51,false),(1,3,false),(2,86,false)],3,40,.ag [.sl0,.i .i64 0,.p0],false,false,false⟩
def yT92:AT:=⟨.arr 18 9,18,288,.ag [.s [],.s [],.s [],.s [],.s [],.s [],.s [],.s [],.s [],.s [],.s [],.s [],.s [],.s [],.s [],.s [],.s [],.s []],true,false,false⟩
def yT93:AT:=⟨.arr 18 3,18,144,.ag [.i .i64 0,.i .i64 0,.i .i64 0,.i .i64 0,.i .i64 0,.i .i64 0,.i .i64 0,.i .i64 0,.i .i64 0,.i .i64 0,.i .i64 0,.i .i64 0,.i .i64 0,.i .i64 0,.i .i64 0,.i .i64 0,.i .i64 0,.i .i64 0],true,false,false⟩
def yT95:AT:=⟨.st [(0,3,false),(1,9,false),(2,4,false),(3,44,false),(4,44,false),(5,67,false),(6,67,false),(7,3,false)],8,104,.ag [.i .i64 0,.s [],.b false,.p0,.p0,.sl0,.sl0,.i .i64 0],false,false,false⟩
def dH:AT:=⟨.ptr 95,1,8,.p0,true,false,false⟩
def yT112:AT:=⟨.int .i64,1,8,.i .i64 0,true,false,false⟩
def yT116:AT:=⟨.slice 9,1,24,.sl0,false,false,false⟩
def yT118:AT:=⟨.int .u64,1,8,.i .u64 0,true,false,false⟩
def yT134:AT:=⟨.slice 112,1,24,.sl0,false,false,false⟩
def yT152:AT:=⟨.arr 256 5,256,256,.ag [.i .u8 0,.i .u8 0,.i .u8 0,.i .u8 0,.i .u8 0,.i .u8 0,.i .u8 0,.i .u8 0,.i .u8 0,.i .u8 0,.i .u8 0,.i .u8 0,.i .u8 0,.i .u8 0,.i .u8 0,.i .u8 0,.i .u8 0,.i .u8 0,.i .u8 0,.i .u8 0,.i .u8 0,.i .u8 0,.i .u8 0,.i .u8 0,.i .u8 0,.i .u8 0,.i .u8 0,.i .u8 0,.i .u8 0,.i .u8 0,.i .u8 0,.i .u8 0,.i .u8 0,.i .u8 0,.i .u8 0,.i .u8 0,.i .u8 0,.i .u8 0,.i .u8 0,.i .u8 0,.i .u8 0,.i .u8 0,.i .u8 0,.i .u8 0,.i .u8 0,.i .u8 0,.i .u8 0,.i .u8 0,.i .u8 0,.i .u8 0,.i .u8 0,.i .u8 0,.i .u8 0,.i .u8 0,.i .u8 0,.i .u8 0,.i .u8 0,.i .u8 0,.i .u8 0,.i .u8 0,.i .u8 0,.i .u8 0,.i .u8 0,.i .u8 0,.i .u8 0,.i .u8 0,.i .u8 0,.i .u8 0,.i .u8 0,.i .u8 0,.i .u8 0,.i .u8 0,.i .u8 0,.i .u8 0,.i .u8 0,.i .u8 0,.i .u8 0,.i .u8 0,.i .u8 0,.i .u8 0,.i .u8 0,.i .u8 0,.i .u8 0,.i .u8 0,.i .u8 0,.i .u8 0,.i .u8 0,.i .u8 0,.i .u8 0,.i .u8 0,.i .u8 0,.i .u8 0,.i .u8 0,.i .u8 0,.i .u8 0,.i .u8 0,.i .u8 0,.i .u8 0,.i .u8 0,.i .u8 0,.i .u8 0,.i .u8 0,.i .u8 0,.i .u8 0,.i .u8 0,.i .u8 0,.i .u8 0,.i .u8 0,.i .u8 0,.i .u8 0,.i .u8 0,.i .u8 0,.i .u8 0,.i .u8 0,.i .u8 0,.i .u8 0,.i .u8 0,.i .u8 0,.i .u8 0,.i .u8 0,.i .u8 0,.i .u8 0,.i .u8 0,.i .u8 0,.i .u8 0,.i .u8 0,.i .u8 0,.i .u8 0,.i .u8 0,.i .u8 0,.i .u8 0,.i .u8 0,.i .u8 0,.i .u8 0,.i .u8 0,.i .u8 0,.i .u8 0,.i .u8 0,.i .u8 0,.i .u8 0,.i .u8 0,.i .u8 0,.i .u8 0,.i .u8 0,.i .u8 0,.i .u8 0,.i .u8 0,.i .u8 0,.i .u8 0,.i .u8 0,.i .u8 0,.i .u8 0,.i .u8 0,.i .u8 0,.i .u8 0,.i .u8 0,.i .u8 0,.i .u8 0,.i .u8 0,.i .u8 0,.i .u8 0,.i .u8 0,.i .u8 0,.i .u8 0,.i .u8 0,.i .u8 0,.i .u8 0,.i .u8 0,.i .u8 0,.i .u8 0,.i .u8 0,.i .u8 0,.i .u8 0,.i .u8 0,.i .u8 0,.i .u8 0,.i .u8 0,.i .u8 0,.i .u8 0,.i .u8 0,.i .u8 0,.i .u8 0,.i .u8 0,.i .u8 0,.i .u8 0,.i .u8 0,.i .u8 0,.i .u8 0,.i .u8 0,.i .u8 0,.i .u8 0,.i .u8 0,.i .u8 0,.i .u8 0,.i .u8 0,.i .u8 0,.i .u8 0,.i .u8 0,.i .u8 0,.i .u8 0,.i .u8 0,.i .u8 0,.i .u8 0,.i .u8 0,.i .u8 0,.i .u8 0,.i .u8 0,.i .u8 0,.i .u8 0,.i .u8 0,.i .u8 0,.i .u8 0,.i .u8 0,.i .u8 0,.i .u8 0,.i .u8 0,.i .u8 0,.i .u8 0,.i .u8 0,.i .u8 0,.i .u8 0,.i .u8 0,.i .u8 0,.i .u8 0,.i .u8 0,.i .u8 0,.i .u8 0,.i .u8 0,.i .u8 0,.i .u8 0,.i .u8 0,.i .u8 0,.i .u8 0,.i .u8 0,.i .u8 0,.i .u8 0,.i .u8 0,.i .u8 0,.i .u8 0,.i .u8 0,.i .u8 0,.i .u8 0,.i .u8 0,.i .u8 0,.i .u8 0,.i .u8 0,.i .u8 0,.i .u8 0,.i .u8 0,.i .u8 0,.i .u8 0,.i .u8 0,.i .u8 0,.i .u8 0,.i .u8 0,.i .u8 0],true,false,false⟩
def Ux:AT:=⟨.map 9 3,1,8,.mp0,false,false,false⟩
def KL:BT:=(.node 64 (.node 39 (.node 21 (.node 4 (.node 3 (.leaf 1 yT1) (.leaf 3 fF)) (.node 5 (.leaf 4 xH) (.node 9 (.leaf 5 yT5) (.leaf 9 fB)))) (.node 25 (.node 22 (.leaf 21 yT21) (.node 23 (.leaf 22 yT22) (.leaf 23 yT23))) (.node 34 (.leaf 25 aaw) (.node 38 (.leaf 34 yT34) (.leaf 38 yT38))))) (.node 51 (.node 44 (.node 40 (.leaf 39 wE) (.leaf 40 yT40)) (.node 46 (.leaf 44 aW) (.node 48 (.leaf 46 uf) (.leaf 48 yT48)))) (.node 58 (.node 52 (.leaf 51 qC) (.node 57 (.leaf 52 yT52) (.leaf 57 yT57))) (.node 60 (.leaf 58 ug) (.node 62 (.leaf 60 yT60) (.leaf 62 BR)))))) (.node 88 (.node 74 (.node 67 (.node 66 (.leaf 64 dY) (.leaf 66 qE)) (.node 69 (.leaf 67 dL) (.node 71 (.leaf 69 yT69) (.leaf 71 gG)))) (.node 79 (.node 75 (.leaf 74 yT74) (.node 77 (.leaf 75 YC) (.leaf 77 yT77))) (.node 85 (.leaf 79 yT79) (.node 86 (.leaf 85 bf) (.leaf 86 Uw))))) (.node 112 (.node 93 (.node 92 (.leaf 88 yT88) (.leaf 92 yT92)) (.node 95 (.leaf 93 yT93) (.node 96 (.leaf 95 yT95) (.leaf 96 dH)))) (.node 134 (.node 116 (.leaf 112 yT112) (.node 118 (.leaf 116 yT116) (.leaf 118 yT118))) (.node 152 (.leaf 134 yT134) (.node 197 (.leaf 152 yT152) (.leaf 197 Ux)))))))
theorem ay:pR.Ok KL.get Tryz.prog:=BT.ok (by kernel_rfl)
end Go.Abs.YtlkfbfhkcaldlaaGreatDoor
namespace Go.Abs
structure au (X:Ctx)(f:Nat)(args:List AV)(Z:St)(Q:AV->St->Prop):Prop where
 ev:Du X f args Z Q
structure aV (X:Ctx)(live:List Nat)(c:AC)(e:Env)(Z:St)(Q:Out->Env->St->Prop):Prop where
 ev:EvL X live c e Z Q
def Uy (op:BinOp)(k:IntKind)(a b:Int)(Q:AV->Prop):Prop:=match op with
 | .add=>NR k (a+b) Q
 | .sub=>NR k (a - b) Q
 | .mul=>NR k (a*b) Q
 | .quo=>b≠0/\NR k (a.tdiv b) Q
 | .rem=>b≠0/\Q (.i k (a.tmod b))
 | .eql=>fc (.b (decide (a=b))) Q
 | .neq=>fc (.b (!decide (a=b))) Q
 | .lss=>fc (.b (decide (a<b))) Q
 | .leq=>fc (.b (decide (a<=b))) Q
 | .gtr=>fc (.b (decide (b<a))) Q
 | .geq=>fc (.b (decide (b<=a))) Q
 | op=>om (aBits op k a b) Q
theorem Uz {op:BinOp} {k:IntKind} {a b:Int} {Q:AV->Prop} (h:Uy op k a b Q):opt (aInt op k a b) Q:=by
 cases op <;> simp only [Uy] at h
 all_goals first
  | (obtain⟨r,rfl,h⟩:=h;exact⟨_,rfl,h⟩)
  | (obtain⟨h1,r,rfl,h⟩:=h;exact⟨_,by simp only [aInt];rw [if_neg h1],h⟩)
  | (obtain⟨h1,h⟩:=h;exact⟨_,by simp only [aInt];rw [if_neg h1],h⟩)
  | (have h:=iW _ _ h;exact⟨_,rfl,h⟩)
  | exact D5 h
def IK (op:BinOp)(k:IntKind)(a b:Int)(Q:AV->Prop):Prop:=match op with
 | .shl=>0<=b/\NR k (a*2^(min b.toNat k.bits)) Q
 | .shr=>0<=b/\Q (.i k (a.fdiv (2^(min b.toNat k.bits))))
 | _=>False
theorem GU {op:BinOp} {k:IntKind} {a b:Int} {Q:AV->Prop} (h:IK op k a b Q):opt (aShift op k a b) Q:=by
 cases op <;> simp only [IK] at h
 ·obtain⟨h1,r,rfl,h⟩:=h;exact⟨_,by simp only [aShift];rw [if_neg (by omega)],h⟩
 ·obtain⟨h1,h⟩:=h;exact⟨_,by simp only [aShift];rw [if_neg (by omega)],h⟩
def UA (op:BinOp)(a b:List UInt8)(Q:AV->Prop):Prop:=match op with
 | .add=>a.length+b.length<=9223372036854775807/\Q (.s (a ++ b))
 | .eql=>fc (.b (a == b)) Q
 | .neq=>fc (.b (!(a == b))) Q
 | op=>om (aStr op a b) Q
theorem UC {op:BinOp} {a b:List UInt8} {Q:AV->Prop} (h:UA op a b Q):opt (aStr op a b) Q:=by
 cases op <;> simp only [UA] at h
 all_goals first
  | (obtain⟨h1,h⟩:=h;exact⟨_,by simp only [aStr];rw [if_pos h1],h⟩)
  | (have h:=iW _ _ h;exact⟨_,rfl,h⟩)
  | exact D5 h
def wEq (τ:pR)(t:Nat)(x y:AV)(n:Bool)(Q:AV->Prop):Prop:=om (eqT τ 20 t x y) fun r=>fc (.b (bif n then !r else r)) Q
def wBin (τ:pR)(op:BinOp)(t:Nat)(x y:AV)(c:Bool)(Q:AV->Prop):Prop:=match op,x,y with
 | .shl,.i k a,.i _ b=>IK .shl k a b Q
 | .shr,.i k a,.i _ b=>IK .shr k a b Q
 | op,.i k a,.i k' b=>cB (decide (k=k')) (Uy op k a b Q) False
 | op,.s a,.s b=>UA op a b Q
 | .eql,.ic0,.ic0=>cB c (wEq τ t .ic0 .ic0 false Q) False
 | .neq,.ic0,.ic0=>cB c (wEq τ t .ic0 .ic0 true Q) False
 | .eql,.ag xs,.ag ys=>om (τ t) fun T=>cB T.guarded False (wEq τ t (.ag xs) (.ag ys) false Q)
 | .neq,.ag xs,.ag ys=>om (τ t) fun T=>cB T.guarded False (wEq τ t (.ag xs) (.ag ys) true Q)
 | .eql,x,y=>wEq τ t x y false Q
 | .neq,x,y=>wEq τ t x y true Q
 | _,_,_=>False
theorem lN {t:Bool} {A:Prop} (h:cB t A False):t=true/\A:=by cases t;exact h.elim;exact⟨rfl,h⟩
theorem cB_f {t:Bool} {A:Prop} (h:cB t False A):t=false/\A:=by cases t;exact⟨rfl,h⟩;exact h.elim
theorem bF {α:Type} {o:Option α} {Q:α->Prop} (h:om o Q):∃a,o=some a/\Q a:=D5 h
theorem NT {τ:pR} {P:Program} (fP:τ.Ok P) {t:Nat} {x y:AV} {Q:AV->Prop} (h:wEq τ t x y false Q):opt ((aEq P 20 t x y).map .b) Q:=by
 obtain⟨b,hb,h⟩:=bF h
 exact⟨_,by rw [IJ fP _ _ _ _ _ hb];rfl,iW _ _ h⟩
theorem NU {τ:pR} {P:Program} (fP:τ.Ok P) {t:Nat} {x y:AV} {Q:AV->Prop} (h:wEq τ t x y true Q):opt ((aEq P 20 t x y).map fun r=>.b !r) Q:=by
 obtain⟨b,hb,h⟩:=bF h
 exact⟨_,by rw [IJ fP _ _ _ _ _ hb];rfl,iW _ _ h⟩
theorem YD {τ:pR} {P:Program} (fP:τ.Ok P) {op:BinOp} {t:Nat} {x y:AV} {c:Bool} {Q:AV->Prop} (h:wBin τ op t x y c Q):opt (aBin P op t x y c) Q:=by
 unfold wBin at h
 split at h
 ·exact GU h
 ·exact GU h
 ·rename_i op k a k' b h1 h2
  obtain⟨hk,h⟩:=lN h
  have hk:=of_decide_eq_true hk
  have:=Uz h
  subst hk
  cases op
  all_goals first
   | exact(h1 rfl).elim
   | exact(h2 rfl).elim
   | (simp only [aBin,if_true];exact this)
 ·have:=UC h
  have e:∀o a b,aBin P o t (.s a) (.s b) c=aStr o a b:=by intro o a b;unfold aBin;cases o <;> rfl
  rw [e];exact this
 ·obtain⟨rfl,h⟩:=lN h
  have:=NT fP h
  simpa [aBin] using this
 ·obtain⟨rfl,h⟩:=lN h
  have:=NU fP h
  simpa [aBin] using this
 ·obtain⟨T,hT,h⟩:=bF h
  obtain⟨hg,h⟩:=cB_f h
  have:=NT fP h
  simpa [aBin,fP _ _ hT,hg] using this
 ·obtain⟨T,hT,h⟩:=bF h
  obtain⟨hg,h⟩:=cB_f h
  have:=NU fP h
  simpa [aBin,fP _ _ hT,hg] using this
 ·rename_i x y h1 h2 h3 h4
  have:=NT fP h
  unfold aBin
  split
  all_goals first
   | exact this
   | (exfalso;exact h1 _ _ _ _ rfl rfl)
   | (exfalso;exact h1 _ _ _ _ rfl rfl rfl)
   | (exfalso;exact h2 _ _ rfl rfl)
   | (exfalso;exact h3 rfl rfl)
   | (exfalso;exact h4 _ _ rfl rfl)
   | (exfalso;simp_all;done)
   | simp_all
 ·rename_i x y h1 h2 h3 h4
  have:=NU fP h
  unfold aBin
  split
  all_goals first
   | exact this
   | (exfalso;exact h1 _ _ _ _ rfl rfl)
   | (exfalso;exact h1 _ _ _ _ rfl rfl rfl)
   | (exfalso;exact h2 _ _ rfl rfl)
   | (exfalso;exact h3 rfl rfl)
   | (exfalso;exact h4 _ _ rfl rfl)
   | (exfalso;simp_all;done)
   | simp_all
 ·exact h.elim
def UD (τ:pR)(e:Nat):Bool:=match τ e with
 | some ⟨.int .u8,_,_,_,_,_,_⟩=>true
 | _=>false
theorem IL {τ:pR} {P:Program} (fP:τ.Ok P) {e:Nat} (h:UD τ e=true):∃a b c d f g,tyOf P e=some ⟨.int .u8,a,b,c,d,f,g⟩:=by
 unfold UD at h
 split at h
 ·rename_i a b c d f g he;exact⟨_,_,_,_,_,_,fP _ _ he⟩
 ·cases h
def QY (n:Nat)(lo hi:Option AV)(K:Nat->Nat->Prop):Prop:=match lo,hi with
 | none,none=>K 0 n
 | some (.i _ i),none=>∃a:Nat,i=a/\a<=n/\K a n
 | none,some (.i _ j)=>∃b:Nat,j=b/\b<=n/\K 0 b
 | some (.i _ i),some (.i _ j)=>∃a b:Nat,i=a/\j=b/\a<=b/\b<=n/\K a b
 | _,_=>False
theorem IQ {n:Nat} {lo hi:Option AV} {K:Nat->Nat->Prop} (h:QY n lo hi K):∃a b,aBounds n n lo hi=some (a,b)/\a<=b/\b<=n/\K a b:=by
 unfold QY at h
 split at h
 ·exact⟨0,n,by simp [aBounds,aHi,aLo],Nat.zero_le _,Nat.le_refl _,h⟩
 ·obtain⟨a,rfl,h1,h⟩:=h
  refine⟨a,n,?_,h1,Nat.le_refl _,h⟩
  simp only [aBounds,aHi,aLo,Option.bind_some];rw [if_pos (by omega)];simp
 ·obtain⟨b,rfl,h1,h⟩:=h
  refine⟨0,b,?_,Nat.zero_le _,h1,h⟩
  simp only [aBounds,aHi];rw [if_pos (by omega)];simp [aLo]
 ·obtain⟨a,b,rfl,rfl,h1,h2,h⟩:=h
  refine⟨a,b,?_,h1,h2,h⟩
  simp only [aBounds,aHi];rw [if_pos (by omega)];simp only [Option.bind_some,aLo];rw [if_pos (by omega)];simp
 ·exact h.elim
def UE (x:List UInt8)(lo hi:Option AV)(Q:AV->Prop):Prop:=match lo,hi with
 | none,none=>Q (.s x)
 | some (.i _ i),none=>∃a:Nat,i=a/\a<=x.length/\Q (.s (x.drop a))
 | none,some (.i _ j)=>∃b:Nat,j=b/\b<=x.length/\Q (.s (x.take b))
 | some (.i _ i),some (.i _ j)=>∃a b:Nat,i=a/\j=b/\a<=b/\b<=x.length/\Q (.s ((x.drop a).take (b - a)))
 | _,_=>False
theorem UF {x:List UInt8} {lo hi:Option AV} {Q:AV->Prop} (h:UE x lo hi Q):opt ((aBounds x.length x.length lo hi).map fun r=>AV.s ((x.drop r.1).take (r.2 - r.1))) Q:=by
 have key:QY x.length lo hi fun a b=>Q (.s ((x.drop a).take (b - a))):=by
  unfold UE at h
  unfold QY
  split at h
  ·simpa using h
  ·obtain⟨a,h1,h2,h⟩:=h
   refine⟨a,h1,h2,?_⟩
   simp only
   rw [List.take_of_length_le (by simp)];exact h
  ·simpa using h
  ·exact h
  ·exact h.elim
 obtain⟨a,b,h1,_,_,h⟩:=IQ key
 exact⟨_,by rw [h1];rfl,h⟩
def wSlc (τ:pR)(t:Nat)(x:AV)(lo hi:Option AV)(Z:St)(Q:AV->Prop):Prop:=
 om (τ t) fun T=>match T.d,x with
 | .str,.s x=>UE x lo hi Q
 | .slice e,.sl0=>cB (Nat.blt 0 (PX τ e)) (om (aBounds 0 0 lo hi) fun _=>Q .sl0) False
 | .slice e,.sl o g off n z=>cB (Nat.beq (PX τ e) z && Nat.blt 0 z) (QY n lo hi fun a b=>Q (.sl o g (off+a*z) (b - a) z)) False
 | .arr n e,.p o g off=>cB (Nat.blt 0 (PX τ e)) (om (cellsAt Z o g) fun cs=>cB (Nat.ble (off+n*PX τ e) cs.length) (QY n lo hi fun a b=>Q (.sl o g (off+a*PX τ e) (b - a) (PX τ e))) False) False
 | _,_=>False
theorem lQ {a b:Nat} (h:Nat.blt a b=true):a<b:=by unfold Nat.blt at h;exact aU h
theorem YE {τ:pR} {P:Program} (fP:τ.Ok P) {t:Nat} {x:AV} {lo hi:Option AV} {Z:St} {Q:AV->Prop} (h:wSlc τ t x lo hi Z Q):opt (aSlc P t x lo hi Z) Q:=by
 obtain⟨⟨d,s,b,z,c,hd,g⟩,hT,h⟩:=bF h
 unfold aSlc
 rw [fP _ _ hT]
 simp only at h ⊢
 split at h
 ·exact UF h
 ·obtain⟨h1,h⟩:=lN h
  obtain⟨r,h2,h⟩:=bF h
  have h1:=lQ h1
  simp only
  rw [if_pos (by rw [xG fP h1];exact h1),h2]
  exact⟨_,rfl,h⟩
 ·obtain⟨h1,h⟩:=lN h
  rw [fJ] at h1
  have h2:=wJ h1.1
  have h3:=lQ h1.2
  obtain⟨a,b,h4,_,_,h⟩:=IQ h
  simp only
  rw [if_pos ⟨by rw [xG fP (by omega)];exact h2,h3⟩,h4]
  exact⟨_,rfl,h⟩
 ·obtain⟨h1,h⟩:=lN h
  obtain⟨cs,h2,h⟩:=bF h
  obtain⟨h3,h⟩:=lN h
  have h1:=lQ h1
  have h3:=aU h3
  obtain⟨a,b,h4,_,_,h⟩:=IQ h
  have hz:=xG fP h1
  simp only
  rw [hz,if_pos h1,h2,Option.bind_some,if_pos h3,h4]
  exact⟨_,rfl,h⟩
 ·exact h.elim
def wIad (τ:pR)(t:Nat)(x i:AV)(Q:AV->Prop):Prop:=om (τ t) fun T=>match T.d,x,i with
 | .arr n e,.p o g off,.i _ j=>cB (Nat.blt 0 (PX τ e)) (∃m:Nat,j=m/\m<n/\Q (.p o g (off+m*PX τ e))) False
 | .slice e,.sl o g off n z,.i _ j=>cB (Nat.beq (PX τ e) z && Nat.blt 0 z) (∃m:Nat,j=m/\m<n/\Q (.p o g (off+m*z))) False
 | _,_,_=>False
theorem YF {τ:pR} {P:Program} (fP:τ.Ok P) {t:Nat} {x i:AV} {Q:AV->Prop} (h:wIad τ t x i Q):opt (aIad P t x i) Q:=by
 obtain⟨⟨d,s,b,z,c,hd,g⟩,hT,h⟩:=bF h
 unfold aIad
 rw [fP _ _ hT]
 simp only at h
 split at h
 ·obtain⟨h1,h⟩:=lN h
  obtain⟨m,rfl,h2,h⟩:=h
  have h1:=lQ h1
  have hz:=xG fP h1
  simp only
  rw [hz,if_pos ⟨h1,by omega,by omega⟩]
  exact⟨_,rfl,by simpa using h⟩
 ·obtain⟨h1,h⟩:=lN h
  obtain⟨m,rfl,h2,h⟩:=h
  rw [fJ] at h1
  have h3:=wJ h1.1
  have h4:=lQ h1.2
  simp only
  rw [if_pos ⟨by rw [xG fP (by omega)];exact h3,h4,by omega,by omega⟩]
  exact⟨_,rfl,by simpa using h⟩
 ·exact h.elim
def wIdx (τ:pR)(t:Nat)(x i:AV)(Q:AV->Prop):Prop:=om (τ t) fun T=>match T.d,x,i with
 | .arr n e,.ag cs,.i _ j=>∃m:Nat,j=m/\m<n/\om (τ e) fun E=>om (partOf E cs (m*E.size)) fun v=>fc v Q
 | .str,.s x,.i _ j=>∃(m:Nat) (c:UInt8),j=m/\x[m]? =some c/\Q (.i .u8 c.toNat)
 | _,_,_=>False
theorem YG {τ:pR} {P:Program} (fP:τ.Ok P) {t:Nat} {x i:AV} {Q:AV->Prop} (h:wIdx τ t x i Q):opt (aIdx P t x i) Q:=by
 obtain⟨⟨d,s,b,z,c,hd,g⟩,hT,h⟩:=bF h
 unfold aIdx
 rw [fP _ _ hT]
 simp only at h
 split at h
 ·obtain⟨m,rfl,h2,h⟩:=h
  obtain⟨E,hE,h⟩:=bF h
  obtain⟨v,hv,h⟩:=bF h
  simp only
  rw [if_pos ⟨by omega,by omega⟩,fP _ _ hE]
  exact⟨v,by simpa using hv,iW _ _ h⟩
 ·obtain⟨m,c,rfl,h2,h⟩:=h
  simp only
  rw [if_pos (by omega)]
  exact⟨_,by rw [Int.toNat_natCast,h2];rfl,h⟩
 ·exact h.elim
def wLen (τ:pR)(t:Nat)(x:AV)(Q:AV->Prop):Prop:=om (τ t) fun T=>match T.d,x with
 | .str,.s x=>Q (.i .i64 x.length)
 | .arr n _,_=>Q (.i .i64 n)
 | .slice _,.sl0=>Q (.i .i64 0)
 | .slice _,.sl _ _ _ n _=>Q (.i .i64 n)
 | _,_=>False
theorem YH {τ:pR} {P:Program} (fP:τ.Ok P) {t:Nat} {x:AV} {Q:AV->Prop} (h:wLen τ t x Q):opt (aLen P t x) Q:=by
 obtain⟨⟨d,s,b,z,c,hd,g⟩,hT,h⟩:=bF h
 unfold aLen
 rw [fP _ _ hT]
 simp only at h
 split at h
 all_goals first
  | exact h.elim
  | exact⟨_,rfl,h⟩
def wFad (τ:pR)(t:Nat)(x:AV)(f:Nat)(Q:AV->Prop):Prop:=om (τ t) fun T=>match T.d,x with
 | .st fs,.p o g off=>om fs[f]? fun r=>cB (Nat.blt 0 (PX τ r.2.1)) (Q (.p o g (off+r.1))) False
 | _,_=>False
theorem YI {τ:pR} {P:Program} (fP:τ.Ok P) {t:Nat} {x:AV} {f:Nat} {Q:AV->Prop} (h:wFad τ t x f Q):opt (aFad P t x f) Q:=by
 obtain⟨⟨d,s,b,z,c,hd,g⟩,hT,h⟩:=bF h
 unfold aFad
 rw [fP _ _ hT]
 simp only at h
 split at h
 ·obtain⟨r,hr,h⟩:=bF h
  obtain⟨h1,h⟩:=lN h
  have h1:=lQ h1
  simp only
  rw [hr,Option.bind_some,if_pos (by rw [xG fP h1];exact h1)]
  exact⟨_,rfl,h⟩
 ·exact h.elim
def wFld (τ:pR)(t:Nat)(x:AV)(f:Nat)(Q:AV->Prop):Prop:=om (τ t) fun T=>match T.d,x with
 | .st fs,.ag cs=>om fs[f]? fun r=>om (τ r.2.1) fun F=>om (partOf F cs r.1) fun v=>fc v Q
 | _,_=>False
theorem YJ {τ:pR} {P:Program} (fP:τ.Ok P) {t:Nat} {x:AV} {f:Nat} {Q:AV->Prop} (h:wFld τ t x f Q):opt (aFld P t x f) Q:=by
 obtain⟨⟨d,s,b,z,c,hd,g⟩,hT,h⟩:=bF h
 unfold aFld
 rw [fP _ _ hT]
 simp only at h
 split at h
 ·obtain⟨r,hr,h⟩:=bF h
  obtain⟨F,hF,h⟩:=bF h
  obtain⟨v,hv,h⟩:=bF h
  simp only
  rw [hr,Option.bind_some,fP _ _ hF]
  exact⟨v,hv,iW _ _ h⟩
 ·exact h.elim
def allT (τ:pR):List (Nat×Nat×Bool)->Bool
 | []=>true
 | f :: fs=>match τ f.2.1 with
   | some _=>allT τ fs
   | none=>false
theorem PY {τ:pR} {P:Program} (fP:τ.Ok P):∀fs,allT τ fs=true->fs.all (fun f=>(tyOf P f.2.1).isSome)=true
 | [],_=>rfl
 | f :: fs,h=>by
   simp only [allT] at h
   split at h
   ·rename_i T hT;simp only [List.all_cons,fP _ _ hT,Option.isSome_some,Bool.true_and];exact PY fP fs h
   ·cases h
theorem KN {p q:Nat->Option (Nat×Nat)} (hp:∀i r,p i=some r->q i=some r):∀(l:List (Nat×AV)) (cells r:List AV),fillA p cells l=some r->fillA q cells l=some r
 | [],_,_,h=>h
 | (i,v) :: l,cells,r,h=>by
   simp only [fillA] at h ⊢
   split at h
   ·cases h
   ·rename_i off size he
    rw [hp _ _ he]
    simp only
    split at h
    ·rename_i hc;rw [if_pos hc];exact KN hp l _ r h
    ·cases h
def UG (τ:pR)(t:Nat)(ps:List (Nat×AV))(Q:AV->Prop):Prop:=om (τ t) fun T=>match T.d with
 | .st fs=>cB (allT τ fs) (om (fillA (fun i=>(fs[i]?).bind fun f=>(τ f.2.1).map fun F=>(f.1,F.size)) T.zero.cells ps) fun cs=>II cs fun cs=>Q (.ag cs)) False
 | .arr _ e=>om (τ e) fun E=>om (fillA (fun i=>some (i*E.size,E.size)) T.zero.cells ps) fun cs=>II cs fun cs=>Q (.ag cs)
 | _=>False
theorem QZ {τ:pR} {P:Program} (fP:τ.Ok P) {t:Nat} {ps:List (Nat×AV)} {Q:AV->Prop} (h:UG τ t ps Q):opt (aBuild P t ps) Q:=by
 obtain⟨⟨d,s,b,z,c,hd,g⟩,hT,h⟩:=bF h
 unfold aBuild
 rw [fP _ _ hT]
 simp only at h ⊢
 split at h
 ·rename_i fs
  obtain⟨h1,h⟩:=lN h
  obtain⟨cs,h2,h⟩:=bF h
  simp only
  rw [if_pos (PY fP fs h1)]
  have h3:=KN (q:=fun i=>(fs[i]?).bind fun f=>(tyOf P f.2.1).map fun F=>(f.1,F.size)) (fun i r hi=>by
   rw [Option.bind_eq_some_iff] at hi ⊢
   obtain⟨f,hf,hi⟩:=hi
   rw [iU] at hi
   obtain⟨F,hF,rfl⟩:=hi
   exact⟨f,hf,by rw [fP _ _ hF];rfl⟩) _ _ _ h2
  rw [h3]
  exact⟨_,rfl,oq _ _ h⟩
 ·obtain⟨E,hE,h⟩:=bF h
  obtain⟨cs,h2,h⟩:=bF h
  simp only
  rw [fP _ _ hE]
  simp only
  rw [h2]
  exact⟨_,rfl,oq _ _ h⟩
 ·exact h.elim
end Go.Abs
namespace Go.Abs
section
variable (τ:pR)(lit:Bool)
def wUn (op:UnOp)(x:AV)(Q:AV->Prop):Prop:=match op,x with
 | .neg,.i k n=>NR k (0 - n) Q
 | .xor,.i k n=>om (aBits .xor k (if k.signed then -1 else k.max) n) Q
 | .not,.b p=>fc (.b !p) Q
 | _,_=>False
def wConv (s d:Nat)(x:AV)(Z:St)(Q:AV->St->Prop):Prop:=om (τ s) fun S=>om (τ d) fun D=>match S.d,D.d,x with
 | _,.int k,.i _ n=>NR k n fun v=>Q v Z
 | _,.str,.i _ n=>Q (.s (Utf8.encode n).data.toList) Z
 | .str,.str,.s x=>Q (.s x) Z
 | .str,.slice e,.s x=>cB (UD τ e) (KJ lit Z fun m=>NQ lit (newCells e (x.map fun b=>.i .u8 b.toNat) Z) fun Z'=>Q (.sl m 0 0 x.length 1) Z') False
 | .slice e,.str,.sl0=>cB (UD τ e) (Q (.s []) Z) False
 | .slice e,.str,.sl o g off n z=>cB (UD τ e && Nat.beq z 1) (om (cellsAt Z o g) fun cs=>∃b,off+n<=cs.length/\bytesOf ((cs.drop off).take n)=some b/\Q (.s b) Z) False
 | _,_,_=>False
def wBsl (t len:Nat)(ps:List (Nat×AV))(Z:St)(Q:AV->St->Prop):Prop:=om (τ t) fun T=>match T.d with
 | .slice e=>om (τ e) fun E=>cB (Nat.blt 0 E.size && Nat.beq E.zero.cells.length E.size && Nat.ble (len*E.size) 16777216)
  (om (fillA (fun i=>some (i*E.size,E.size)) (repl E.zero.cells len) ps) fun cs=>II cs fun cs=>KJ lit Z fun m=>NQ lit (newCells e cs Z) fun Z'=>Q (.sl m 0 0 len E.size) Z') False
 | _=>False
def wMks (t:Nat)(l c:AV)(Z:St)(Q:AV->St->Prop):Prop:=om (τ t) fun T=>match T.d,l,c with
 | .slice e,.i _ l,.i _ c=>om (τ e) fun E=>cB (Nat.blt 0 E.size && Nat.beq E.zero.cells.length E.size)
  (∃l' c':Nat,l=l'/\c=c'/\l'<=c'/\c'<=9223372036854775807/\E.bytes*c'<=140737488355328/\KJ lit Z fun m=>NQ lit (newCells e (repl E.zero.cells c') Z) fun Z'=>Q (.sl m 0 0 l' E.size) Z') False
 | _,_,_=>False
def wRng (t:Nat)(x:AV)(Z:St)(Q:AV->St->Prop):Prop:=om (τ t) fun T=>match T.d,x with
 | .str,.s x=>KJ lit Z fun m=>NQ lit (Z ++ [⟨0,false,.iter x 0⟩]) fun Z'=>Q (.p m 0 0) Z'
 | _,_=>False
def iterAt (Z:St)(o g:Nat):Option (List UInt8×Nat):=match Z[o]? with
 | some ⟨g',ro,.iter s pos⟩=>bif Nat.beq g g' && !ro then some (s,pos) else none
 | _=>none
def wNxt (x:AV)(Z:St)(Q:AV->St->Prop):Prop:=match x with
 | .p o g off=>cB (Nat.beq off 0) (om (iterAt Z o g) fun r=>
  cB (decide (r.2<r.1.length)) (NQ lit (Z.set o ⟨g,false,.iter r.1 (r.2+(Utf8.decode ⟨r.1.toArray⟩ r.2).2)⟩) fun Z'=>Q (.tu [.b true,.i .i64 r.2,.i .i32 (Utf8.decode ⟨r.1.toArray⟩ r.2).1]) Z') (Q (.tu [.b false]) Z)) False
 | _=>False
def KO (Z:St)(o g e:Nat):Option (List AV):=match Z[o]? with
 | some ⟨g',ro,.cells e' cs⟩=>bif Nat.beq g g' && !ro && Nat.beq e' e then some cs else none
 | _=>none
theorem UH {Z:St} {o g e:Nat} {cs:List AV} (h:KO Z o g e=some cs):Z[o]? =some ⟨g,false,.cells e cs⟩:=by
 unfold KO at h
 split at h
 ·rename_i g' ro e' cs' ho
  cases hb:(Nat.beq g g' && !ro && Nat.beq e' e) with
  | false=>rw [hb] at h;cases h
  | true=>
    rw [hb] at h
    cases h
    simp only [fJ,Bool.not_eq_true'] at hb
    rw [ho,wJ hb.1.1,wJ hb.2,hb.1.2]
 ·cases h
def PZ:AD->Bool
 | .ifc _=>true
 | _=>false
def wApp (t:Nat)(x y:AV)(Z:St)(Q:AV->St->Prop):Prop:=om (τ t) fun T=>match T.d with
 | .slice e=>om (τ e) fun E=>cB (Nat.blt 0 E.size && Nat.beq E.zero.cells.length E.size && Nat.blt 0 E.bytes)
  (om (srcCells E.size y Z) fun src=>cB (Nat.beq src.1 0) (match x with | .sl0=>Q .sl0 Z | .sl o g off n z=>Q (.sl o g off n z) Z | _=>False)
   (cB (src.2.all AV.one)
      (match x with
      | .sl0=>src.1*E.bytes<=140737488355328/\II src.2 fun l=>KJ lit Z fun m=>NQ lit (newCells e l Z) fun Z'=>Q (.sl m 0 0 src.1 E.size) Z'
      | .sl o g off n z=>om (KO Z o g e) fun cs=>z=E.size/\off+n*z<=cs.length/\(n+src.1)*E.bytes<=140737488355328/\((cs.drop off).take (n*z)).all AV.one=true/\
            NQ lit (Z.set o ⟨g+1,false,.cells e (((cs.drop off).take (n*z)) ++ src.2)⟩) fun Z'=>Q (.sl o (g+1) 0 (n+src.1) z) Z'
      | _=>False) False)) False
 | _=>False
structure HasF (P:Program)(t I:Nat)(Q:Bool->Prop):Prop where
 ev:om (hasAll P t I) Q
theorem HasF.of {P:Program} {t I:Nat} {b:Bool} {Q:Bool->Prop} (h:hasAll P t I=some b)(q:Q b):HasF P t I Q:=⟨by rw [h];exact q⟩
def wTas (P:Program)(x:AV)(t:Nat)(ok:Bool)(Q:AV->Prop):Prop:=om (τ t) fun T=>cB (PZ T.d) (match x with
 | .ic0=>cB ok (Q (.tu [T.zero,.b false])) False
 | .ic t' v=>HasF P t' t fun b=>cB b (cB ok (Q (.tu [.ic t' v,.b true])) (Q (.ic t' v))) (cB ok (Q (.tu [T.zero,.b false])) False)
 | _=>False) (match x with
 | .ic0=>cB ok (Q (.tu [T.zero,.b false])) False
 | .ic t' v=>cB (Nat.beq t' t) (cB ok (Q (.tu [v,.b true])) (fc v Q)) (cB ok (Q (.tu [T.zero,.b false])) False)
 | _=>False)
end
structure D8 (τ:pR)(lit:Bool)(t:Nat)(x y:AV)(Z:St)(Q:AV->St->Prop):Prop where
 ev:wApp τ lit t x y Z Q
def Q5 (X:Ctx)(τ:pR)(lit:Bool)(ρ:Opd->AV)(op:AOp)(Z:St)(Q:AV->St->Prop):Prop:=match op with
 | .mv x=>fc (ρ x) fun v=>Q v Z
 | .pick c a b=>match ρ c with
   | .b t=>cB t (cB (ρ a).cnd (fc (ρ a).val fun v=>Q v Z) False) (cB (ρ b).cnd (fc (ρ b).val fun v=>Q v Z) False)
   | _=>False
 | .alloc t=>om (τ t) fun T=>KJ lit Z fun m=>NQ lit (newCells t T.zero.cells Z) fun Z'=>Q (.p m 0 0) Z'
 | .box t x=>fq (ρ x) fun v=>match v with
   | .u=>False
   | .tu _=>False
   | .cd _ _=>False
   | v=>KJ lit Z fun m=>NQ lit (newCells t v.cells Z) fun Z'=>Q (.p m 0 0) Z'
 | .build t ps=>UG τ t (ps.map fun q=>(q.1,ρ q.2)) fun v=>Q v Z
 | .bsl t n ps=>wBsl τ lit t n (ps.map fun q=>(q.1,ρ q.2)) Z Q
 | .load t x=>om (aLoad (τ t) (ρ x) Z) fun v=>fc v fun v=>Q v Z
 | .store t x y=>om (aStore (τ t) (ρ x) (ρ y) Z) fun Z'=>NQ lit Z' fun Z'=>Q (.tu []) Z'
 | .nilck x=>om (aNil (ρ x)) fun v=>Q v Z
 | .bin op t x y=>wBin τ op t (ρ x) (ρ y) (x.isC || y.isC) fun v=>Q v Z
 | .un op x=>wUn op (ρ x) fun v=>Q v Z
 | .conv s d x=>wConv τ lit s d (ρ x) Z Q
 | .mki t x=>om (τ t) fun T=>match T.d with
   | .ifc _=>False
   | _=>fc (ρ x) fun v=>Q (.ic t v) Z
 | .mkf f a c=>II (a.map ρ) fun a=>II (c.map ρ) fun c=>Q (.fn f a c) Z
 | .mks t l c=>wMks τ lit t (ρ l) (ρ c) Z Q
 | .slc t x l h=>wSlc τ t (ρ x) (l.map ρ) (h.map ρ) Z fun v=>Q v Z
 | .fad t x f=>wFad τ t (ρ x) f fun v=>Q v Z
 | .fld t x f=>wFld τ t (ρ x) f fun v=>Q v Z
 | .iad t x i=>wIad τ t (ρ x) (ρ i) fun v=>Q v Z
 | .idx t x i=>wIdx τ t (ρ x) (ρ i) fun v=>Q v Z
 | .rng t x=>wRng τ lit t (ρ x) Z Q
 | .nxt x=>wNxt lit (ρ x) Z Q
 | .tas x _ t ok=>wTas τ X.P (ρ x) t ok fun v=>Q v Z
 | .ext x i=>match ρ x with
   | .tu vs=>om vs[i]? fun v=>fc v fun v=>Q v Z
   | _=>False
 | .call f args=>match ρ f with
   | .fn f first cap=>match f with
     | .func k=>II (first ++ args.map ρ ++ cap) fun l=>au X k l Z fun v Z'=>fc v fun v=>Q v Z'
     | _=>False
   | _=>False
 | .inv x m args=>match ρ x with
   | .ic t v=>match X.meth t m v with
     | some k=>II (k.2 :: args.map ρ) fun l=>au X k.1 l Z fun v Z'=>fc v fun v=>Q v Z'
     | none=>False
   | _=>False
 | .len t x=>wLen τ t (ρ x) fun v=>Q v Z
 | .app t _ x y=>fq (ρ x) fun x=>fq (ρ y) fun y=>D8 τ lit t x y Z Q
 | .copy t x y=>om (aCopy X.P t (ρ x) (ρ y) Z) fun r=>NQ lit r.2 fun Z'=>Q r.1 Z'
 | .mn mx xs=>om (aMn mx (xs.map ρ)) fun v=>fc v fun v=>Q v Z
 | .mkm t r=>om (Xr X.P t (r.map ρ) Z) fun r=>NQ lit r.2 fun Z'=>Q r.1 Z'
 | .lku t x k ok=>om (Nr X.P t (ρ x) (ρ k) ok Z) fun v=>fc v fun v=>Q v Z
 | .mup t m k v=>om (JL X.P t (ρ m) (ρ k) (ρ v) Z) fun Z'=>NQ lit Z' fun Z'=>Q (.tu []) Z'
 | .del t m k=>om (Xq X.P t (ρ m) (ρ k) Z) fun Z'=>NQ lit Z' fun Z'=>Q (.tu []) Z'
 | .mln t x=>om (Xt X.P t (ρ x) Z) fun v=>fc v fun v=>Q v Z
 | .sl3 t x l h m=>om (aSl3 X.P t (ρ x) (l.map ρ) (ρ h) (ρ m)) fun v=>fc v fun v=>Q v Z
 | .pnc _=>False
section
variable {X:Ctx} {τ:pR} (fP:τ.Ok X.P) {lit:Bool} {Z:St} {Q:AV->St->Prop}
theorem wUn_ok {op:UnOp} {x:AV} {Q:AV->Prop} (h:wUn op x Q):opt (aUn op x) Q:=by
 unfold wUn at h
 split at h
 ·obtain⟨r,rfl,h⟩:=h;exact⟨_,rfl,h⟩
 ·exact D5 h
 ·exact⟨_,rfl,iW _ _ h⟩
 ·exact h.elim
include fP
theorem UJ {s d:Nat} {x:AV} (h:wConv τ lit s d x Z Q):opt (aConv X.P s d x Z) fun r=>Q r.1 r.2:=by
 obtain⟨⟨d1,s1,b1,z1,c1,hd1,g1⟩,hS,h⟩:=bF h
 obtain⟨⟨d2,s2,b2,z2,c2,hd2,g2⟩,hD,h⟩:=bF h
 unfold aConv
 rw [fP _ _ hS,fP _ _ hD]
 simp only at h ⊢
 split at h
 ·obtain⟨r,rfl,h⟩:=h;exact⟨_,rfl,h⟩
 ·exact⟨_,rfl,h⟩
 ·exact⟨_,rfl,h⟩
 ·obtain⟨h1,h⟩:=lN h
  obtain⟨a,b,c,d,f,g,he⟩:=IL fP h1
  simp only [he]
  exact⟨_,rfl,kU _ _ _ (rF _ _ _ h)⟩
 ·obtain⟨h1,h⟩:=lN h
  obtain⟨a,b,c,d,f,g,he⟩:=IL fP h1
  simp only [he]
  exact⟨_,rfl,h⟩
 ·obtain⟨h1,h⟩:=lN h
  rw [fJ] at h1
  have hz:=wJ h1.2
  obtain⟨a,b,c,d,f,g,he⟩:=IL fP h1.1
  obtain⟨cs,hc,b',h2,h3,h⟩:=bF h
  simp only [he]
  rw [if_pos hz,hc,Option.bind_some,if_pos h2,h3]
  exact⟨_,rfl,h⟩
 ·exact h.elim
theorem YK {t n:Nat} {ps:List (Nat×AV)} (h:wBsl τ lit t n ps Z Q):opt (aBsl X.P t n ps Z) fun r=>Q r.1 r.2:=by
 obtain⟨⟨d1,s1,b1,z1,c1,hd1,g1⟩,hT,h⟩:=bF h
 unfold aBsl
 simp only at h
 split at h
 ·rw [fP _ _ hT]
  obtain⟨E,hE,h⟩:=bF h
  obtain⟨h1,h⟩:=lN h
  rw [fJ,fJ] at h1
  obtain⟨cs,hc,h⟩:=bF h
  simp only [fP _ _ hE]
  rw [if_pos ⟨lQ h1.1.1,wJ h1.1.2,aU h1.2⟩,hc]
  exact⟨_,rfl,kU _ _ _ (rF _ _ _ (oq _ _ h))⟩
 ·exact h.elim
theorem YL {t:Nat} {l c:AV} (h:wMks τ lit t l c Z Q):opt (aMks X.P t l c Z) fun r=>Q r.1 r.2:=by
 obtain⟨⟨d1,s1,b1,z1,c1,hd1,g1⟩,hT,h⟩:=bF h
 unfold aMks
 rw [fP _ _ hT]
 simp only at h
 split at h
 ·obtain⟨E,hE,h⟩:=bF h
  obtain⟨h1,h⟩:=lN h
  rw [fJ] at h1
  obtain⟨l',c',rfl,rfl,h2,h3,h4,h⟩:=h
  simp only [fP _ _ hE]
  rw [if_pos ⟨lQ h1.1,wJ h1.2,by omega,by omega,by omega,by omega⟩]
  exact⟨_,rfl,kU _ _ _ (rF _ _ _ h)⟩
 ·exact h.elim
theorem YM {t:Nat} {x:AV} (h:wRng τ lit t x Z Q):opt (aRng X.P t x Z) fun r=>Q r.1 r.2:=by
 obtain⟨⟨d1,s1,b1,z1,c1,hd1,g1⟩,hT,h⟩:=bF h
 unfold aRng
 rw [fP _ _ hT]
 simp only at h
 split at h
 ·exact⟨_,rfl,kU _ _ _ (rF _ _ _ h)⟩
 ·exact h.elim
omit fP in
theorem YN {x:AV} (h:wNxt lit x Z Q):opt (aNxt x Z) fun r=>Q r.1 r.2:=by
 unfold wNxt at h
 split at h
 ·obtain⟨h1,h⟩:=lN h
  obtain rfl:=wJ h1
  obtain⟨⟨s,pos⟩,hi,h⟩:=bF h
  unfold iterAt at hi
  split at hi
  ·rename_i g' ro s' pos' ho
   cases hb:(Nat.beq _ g' && !ro) with
   | false=>rw [hb] at hi;cases hi
   | true=>
     rw [hb] at hi
     cases hi
     simp only [fJ,Bool.not_eq_true'] at hb
     have hg:=wJ hb.1
     subst hg
     unfold aNxt
     simp only [ho]
     rw [if_pos ⟨trivial,hb.2⟩]
     simp only at h
     by_cases hp:pos<s.length
     ·rw [decide_eq_true hp] at h
      rw [if_pos hp]
      exact⟨_,rfl,kU _ _ _ h⟩
     ·rw [decide_eq_false hp] at h
      rw [if_neg hp]
      exact⟨_,rfl,h⟩
  ·cases hi
 ·exact h.elim
theorem YO {t:Nat} {x y:AV} (h:wApp τ lit t x y Z Q):opt (aApp X.P t x y Z) fun r=>Q r.1 r.2:=by
 obtain⟨⟨d1,s1,b1,z1,c1,hd1,g1⟩,hT,h⟩:=bF h
 unfold aApp
 simp only at h
 split at h
 ·rw [fP _ _ hT]
  obtain⟨E,hE,h⟩:=bF h
  obtain⟨h1,h⟩:=lN h
  rw [fJ,fJ] at h1
  obtain⟨src,hs,h⟩:=bF h
  simp only [fP _ _ hE]
  rw [if_pos ⟨lQ h1.1.1,wJ h1.1.2,lQ h1.2⟩,hs,Option.bind_some]
  cases h0:Nat.beq src.1 0 with
  | true=>
    rw [h0] at h
    rw [if_pos (wJ h0)]
    simp only [cB] at h
    split at h
    ·exact⟨_,rfl,h⟩
    ·exact⟨_,rfl,h⟩
    ·exact h.elim
  | false=>
    rw [h0] at h
    rw [if_neg (fun e=>by rw [e] at h0;cases h0)]
    obtain⟨h2,h⟩:=lN h
    rw [if_pos h2]
    split at h
    ·obtain⟨h3,h⟩:=h
     simp only
     rw [if_pos h3]
     exact⟨_,rfl,kU _ _ _ (rF _ _ _ (oq _ _ h))⟩
    ·obtain⟨cs,hc,h3,h4,h5,h6,h⟩:=bF h
     have ho:=UH hc
     simp only [ho]
     rw [if_pos ⟨trivial,h3,trivial,h4,h5,h6⟩]
     exact⟨_,rfl,kU _ _ _ h⟩
    ·exact h.elim
 ·exact h.elim
theorem YP {x:AV} {t:Nat} {ok:Bool} {Q:AV->Prop} (h:wTas τ X.P x t ok Q):opt (aTas X.P x t ok) Q:=by
 obtain⟨⟨d1,s1,b1,z1,c1,hd1,g1⟩,hT,h⟩:=bF h
 unfold aTas
 rw [fP _ _ hT]
 simp only at h
 cases x with
 | ic0=>
   have key:ok=true/\Q (.tu [z1,.b false]):=by
    cases hi:PZ d1 <;> (rw [hi] at h;exact lN h)
   obtain⟨rfl,h⟩:=key
   cases d1 <;> exact⟨_,rfl,h⟩
 | ic t' v=>
   simp only at h
   cases hi:PZ d1 with
   | true=>
     rw [hi] at h
     cases d1 with
     | ifc ms=>
       obtain⟨b,hb,h⟩:=bF h.ev
       simp only [hb]
       cases b with
       | true=>cases ok <;> exact⟨_,rfl,h⟩
       | false=>obtain⟨rfl,h⟩:=lN h;exact⟨_,rfl,h⟩
     | _=>cases hi
   | false=>
     rw [hi] at h
     have key:opt (if t'= t then some (if ok then AV.tu [v,.b true] else v) else if ok then some (.tu [z1,.b false]) else none) Q:=by
        cases hb:Nat.beq t' t with
        | true=>
          rw [hb] at h
          rw [if_pos (wJ hb)]
          cases ok with
          | true=>exact⟨_,rfl,h⟩
          | false=>exact⟨_,rfl,iW _ _ h⟩
        | false=>
          rw [hb] at h
          rw [if_neg (fun e=>by rw [e,Nat.beq_refl] at hb;cases hb)]
          obtain⟨rfl,h⟩:=lN h
          exact⟨_,rfl,h⟩
     cases d1 <;> first | (cases hi;done) | exact key
 | _=>cases hi:PZ d1 <;> (rw [hi] at h;exact h.elim)
theorem KP {t:Nat} {x v:AV} (h:aLoad (τ t) x Z=some v):aLoad (tyOf X.P t) x Z=some v:=by
 cases ht:τ t with
 | none=>rw [ht] at h;simp [aLoad] at h
 | some T=>rw [fP _ _ ht,<-ht];exact h
theorem Q7 {t:Nat} {x y:AV} {Z':St} (h:aStore (τ t) x y Z=some Z'):aStore (tyOf X.P t) x y Z=some Z':=by
 cases ht:τ t with
 | none=>rw [ht] at h;simp [aStore] at h
 | some T=>rw [fP _ _ ht,<-ht];exact h
theorem NV {ρ:Opd->AV} {op:AOp} (h:Q5 X τ lit ρ op Z Q):Dx X ρ op Z Q:=by
 cases op with
 | call f args=>
   rw [Gt]
   simp only [Q5] at h
   split at h
   ·rename_i f' first cap hf
    split at h
    ·rename_i k
     rw [hf]
     have h:=oq _ _ h
     exact Dy h.ev fun v s q=>iW _ _ q
    ·exact h.elim
   ·exact h.elim
 | inv x m args=>
   rw [Kt]
   simp only [Q5] at h
   split at h
   ·rename_i t v hx
    split at h
    ·rename_i k hk
     rw [hx]
     have h:=oq _ _ h
     exact⟨k,hk,Dy h.ev fun v s q=>iW _ _ q⟩
    ·exact h.elim
   ·exact h.elim
 | pnc x=>exact h.elim
 | mv x=>rw [cO rfl];simp only [Q5] at h;exact⟨_,rfl,iW _ _ h⟩
 | pick c a b=>
   rw [cO rfl]
   simp only [Q5] at h
   split at h
   ·rename_i t hc
    simp only [jO]
    rw [d_]
    unfold JM
    rw [hc]
    cases t with
    | true=>
      obtain⟨h1,h⟩:=lN h
      simp only [iO,h1,Bool.not_true,lW,Bool.and_self,if_true]
      refine⟨_,rfl,?_⟩
      have h:=iW _ _ h
      have e:merge true (ρ a).val (ρ b).val=(ρ a).val:=by
       unfold merge
       split
       ·rename_i p q e1 e2;rw [e1];simp [Df]
       ·simp
      rw [e];exact h
    | false=>
      obtain⟨h1,h⟩:=lN h
      simp only [lW,h1,Bool.not_false,iO,Bool.and_self,if_true]
      refine⟨_,rfl,?_⟩
      have h:=iW _ _ h
      have e:merge false (ρ a).val (ρ b).val=(ρ b).val:=by
       unfold merge
       split
       ·rename_i p q e1 e2;rw [e2];simp [Df]
       ·simp
      rw [e];exact h
   ·exact h.elim
 | alloc t=>
   rw [cO rfl]
   obtain⟨T,hT,h⟩:=bF h
   simp only [jO]
   rw [fP _ _ hT]
   exact⟨_,rfl,kU _ _ _ (rF _ _ _ h)⟩
 | box t x=>
   rw [cO rfl]
   simp only [Q5] at h
   have h:=KI _ _ h
   simp only [jO]
   split at h
   ·exact h.elim
   ·exact h.elim
   ·exact h.elim
   ·rename_i h1 h2 h3
    have h:=kU _ _ _ (rF _ _ _ h)
    split
    ·rename_i e;exact(h1 e).elim
    ·rename_i e;exact(h2 _ e).elim
    ·rename_i e;exact(h3 _ _ e).elim
    ·exact⟨_,rfl,h⟩
 | build t ps=>rw [cO rfl];simp only [jO];rw [d_];exact QZ fP h
 | bsl t n ps=>rw [cO rfl];exact YK fP h
 | load t x=>
   rw [cO rfl]
   obtain⟨v,hv,h⟩:=bF h
   simp only [jO]
   rw [d_]
   exact⟨v,KP fP hv,iW _ _ h⟩
 | store t x y=>
   rw [cO rfl]
   obtain⟨s,hs,h⟩:=bF h
   simp only [jO]
   rw [d_]
   exact⟨s,Q7 fP hs,kU _ _ _ h⟩
 | nilck x=>
   rw [cO rfl]
   simp only [jO]
   rw [d_]
   exact D5 h
 | bin op t x y=>rw [cO rfl];simp only [jO];rw [d_];exact YD fP h
 | un op x=>rw [cO rfl];simp only [jO];rw [d_];exact wUn_ok h
 | conv s d x=>rw [cO rfl];exact UJ fP h
 | mki t x=>
   rw [cO rfl]
   obtain⟨⟨d1,s1,b1,z1,c1,hd1,g1⟩,hT,h⟩:=bF h
   simp only [jO]
   rw [fP _ _ hT]
   simp only at h
   split at h
   ·exact h.elim
   ·rename_i hn
    have h:=iW _ _ h
    split
    ·rename_i e;cases e;exact(hn _ rfl).elim
    ·exact⟨_,rfl,h⟩
    ·rename_i e;cases e
 | mkf f a c=>
   rw [cO rfl]
   simp only [Q5] at h
   have h:=oq _ _ (oq _ _ h)
   exact⟨_,rfl,h⟩
 | mks t l c=>rw [cO rfl];exact YL fP h
 | slc t x l hh=>rw [cO rfl];simp only [jO];rw [d_];exact YE fP h
 | fad t x f=>rw [cO rfl];simp only [jO];rw [d_];exact YI fP h
 | fld t x f=>rw [cO rfl];simp only [jO];rw [d_];exact YJ fP h
 | iad t x i=>rw [cO rfl];simp only [jO];rw [d_];exact YF fP h
 | idx t x i=>rw [cO rfl];simp only [jO];rw [d_];exact YG fP h
 | rng t x=>rw [cO rfl];exact YM fP h
 | nxt x=>rw [cO rfl];exact YN h
 | tas x _ t ok=>rw [cO rfl];simp only [jO];rw [d_];exact YP fP h
 | ext x i=>
   rw [cO rfl]
   simp only [Q5] at h
   simp only [jO]
   split at h
   ·rename_i vs hx
    obtain⟨v,hv,h⟩:=bF h
    rw [hx]
    simp only
    rw [d_]
    exact⟨v,hv,iW _ _ h⟩
   ·exact h.elim
 | len t x=>rw [cO rfl];simp only [jO];rw [d_];exact YH fP h
 | app t s x y=>
   rw [cO rfl]
   simp only [Q5] at h
   exact YO fP (KI _ _ (KI _ _ h)).ev
 | mkm t r=>
   rw [cO rfl]
   obtain⟨q,hq,h⟩:=bF h
   exact⟨q,hq,kU _ _ _ h⟩
 | lku t x k ok=>
   rw [cO rfl]
   obtain⟨v,hv,h⟩:=bF h
   simp only [jO]
   rw [d_]
   exact⟨v,hv,iW _ _ h⟩
 | mup t m k v=>
   rw [cO rfl]
   obtain⟨q,hq,h⟩:=bF h
   simp only [jO]
   rw [d_]
   exact⟨q,hq,kU _ _ _ h⟩
 | del t m k=>
   rw [cO rfl]
   obtain⟨q,hq,h⟩:=bF h
   simp only [jO]
   rw [d_]
   exact⟨q,hq,kU _ _ _ h⟩
 | sl3 t x l hh m=>
   rw [cO rfl]
   obtain⟨v,hv,h⟩:=bF h
   simp only [jO]
   rw [d_]
   exact⟨v,hv,iW _ _ h⟩
 | mln t x=>
   rw [cO rfl]
   obtain⟨v,hv,h⟩:=bF h
   simp only [jO]
   rw [d_]
   exact⟨v,hv,iW _ _ h⟩
 | copy t x y=>
   rw [cO rfl]
   obtain⟨r,hr,h⟩:=bF h
   exact⟨r,hr,kU _ _ _ h⟩
 | mn mx xs=>
   rw [cO rfl]
   obtain⟨r,hr,h⟩:=bF h
   simp only [jO]
   rw [d_]
   exact⟨r,hr,iW _ _ h⟩
end
end Go.Abs
namespace Go.Abs
section
variable (X:Ctx)(τ:pR)(lit:Bool)
def SV (e:Env)(op:AOp)(Z:St)(K:AV->St->Prop)(c:Bool):Prop:=match c with
 | true=>cB op.pure
  (match op with
  | .pick q x y=>match (q.ev e).val with
    | .b t=>cB (q.ev e).cnd (cB t (cB (x.ev e).cnd (fc (x.ev e).val fun v=>K (.cd true v) Z) False) (cB (y.ev e).cnd (fc (y.ev e).val fun v=>K (.cd true v) Z) False)) False
    | _=>False
  | op=>cB (op.bW.all fun o=>(o.ev e).cnd) (Q5 X τ lit (fun o=>(o.ev e).val) op Z fun v _=>K (.cd true v) Z) False)
  (cB (op.bW.all fun o=>(o.ev e).cnd) (Q5 X τ lit (fun o=>(o.ev e).val) op Z K) False)
 | false=>cB op.pure (K (.cd false .u) Z) (K (.tu []) Z)
def KQ (e:Env)(a:AI)(Z:St)(K:AV->St->Prop):Prop:=match a.gd with
 | none=>Q5 X τ lit (Opd.ev e) a.op Z K
 | some (n,w)=>match get e n with
   | .b x=>cB x (SV X τ lit e a.op Z K w) (SV X τ lit e a.op Z K (!w))
   | .cd c v=>cB c (match v with | .b x=>cB x (SV X τ lit e a.op Z K w) (SV X τ lit e a.op Z K (!w)) | _=>False) (SV X τ lit e a.op Z K false)
   | .tu vs=>match vs with
     | []=>SV X τ lit e a.op Z K false
     | _=>False
   | _=>False
def wO:List AI->Env->St->(Env->St->Prop)->Prop
 | [],e,Z,K=>K e Z
 | a :: r,e,Z,K=>KQ X τ lit e a Z fun v Z'=>wO r (put a.d v e) Z' K
def wAg (e:Env)(Z:St):List AI->Prop->Prop
 | [],K=>K
 | a :: r,K=>(match a.d with
   | some d=>cB a.op.pure (KQ X τ lit e a Z fun v _=>get e d=v) False
   | none=>False)/\wAg e Z r K
def wD:List (AI×List AI)->Env->St->(Env->St->Prop)->Prop
 | [],e,Z,K=>K e Z
 | a :: r,e,Z,K=>KQ X τ lit e a.1 Z fun v Z'=>wAg X τ lit e Z' a.2 (wD r (put a.1.d v e) Z' K)
def Q8:List Nat->Env->(Env->Prop)->Prop
 | [],_,K=>K []
 | d :: ds,e,K=>fc (get e d) fun v=>Q8 ds e fun r=>K ((d,v) :: r)
def wC:AC->Env->St->(Out->Env->St->Prop)->Prop
 | .skip,e,Z,Q=>Q .normal e Z
 | .reg ops,e,Z,Q=>wO X τ lit ops e Z fun e Z=>Q .normal e Z
 | .drw ops,e,Z,Q=>wD X τ lit ops e Z fun e Z=>Q .normal e Z
 | .seq a b,e,Z,Q=>wC a e Z fun o e Z=>match o with
   | .normal=>wC b e Z Q
   | .exit j=>Q (.exit j) e Z
   | .ret=>Q .ret e Z
 | .cond x a b,e,Z,Q=>match x.ev e with
   | .b t=>cB t (wC a e Z Q) (wC b e Z Q)
   | _=>False
 | .blk id c,e,Z,Q=>wC c e Z fun o e Z=>match o with
   | .normal=>Q .normal e Z
   | .exit j=>cB (Nat.beq j id) (Q .normal e Z) (Q (.exit j) e Z)
   | .ret=>Q .ret e Z
 | .loop live c,e,Z,Q=>Q8 live e fun e=>aV X live c e Z Q
 | .cut live c,e,Z,Q=>Q8 live e fun e=>wC c e Z Q
 | .exit id,e,Z,Q=>Q (.exit id) e Z
 | .ret,e,Z,Q=>Q .ret e Z
def P5 (e:Env)(Z:St):List AR->(List AV->Prop)->Prop
 | [],K=>K []
 | .t n :: rs,K=>fc (get e n) fun v=>match v with
   | .cd _ _=>False
   | v=>P5 e Z rs fun vs=>K (v :: vs)
 | .cell a t :: rs,K=>om (aLoad (τ t) (get e a) Z) fun v=>fc v fun v=>P5 e Z rs fun vs=>K (v :: vs)
end
structure Fin (Z:St)(v:AV)(Z':St)(Q:AV->St->Prop):Prop where
 ev:Q (norm Z v Z').1 (norm Z v Z').2
def wF (X:Ctx)(τ:pR)(lit:Bool)(F:AF)(args:List AV)(Z:St)(Q:AV->St->Prop):Prop:=
 wC X τ lit F.code (iD 0 args) Z fun o e Z'=>match o with
    | .exit _=>False
    | _=>P5 τ e Z' F.res fun vs=>match vs with
      | []=>Fin Z (.tu []) Z' Q
      | [v]=>Fin Z v Z' Q
      | v :: w :: vs=>Fin Z (.tu (v :: w :: vs)) Z' Q
theorem Fin.flat {Z Z':St} {v:AV} {Q:AV->St->Prop} (hf:v.flat=true)(h:Z'.take Z.length=Z)(q:Q v Z):Fin Z v Z' Q:=by
 constructor
 unfold norm
 rw [h,hf]
 simpa using q
theorem Fin.ref {Z Z':St} {v:AV} {Q:AV->St->Prop} (hf:v.flat=false)(q:Q v Z'):Fin Z v Z' Q:=by
 constructor
 unfold norm
 rw [hf]
 simpa using q
theorem Fin.same {Z Z':St} {v:AV} {Q:AV->St->Prop} (h:Z'.length=Z.length)(q:Q v Z'):Fin Z v Z' Q:=by
 constructor
 unfold norm
 split
 ·rename_i hc
  rw [fJ] at hc
  have:=mD _ _ hc.2
  rw [List.take_of_length_le (by omega)] at this
  rw [<-this];exact q
 ·exact q
theorem Fin.ne {Z Z':St} {v:AV} {Q:AV->St->Prop} (h:Z'.take Z.length≠Z)(q:Q v Z'):Fin Z v Z' Q:=by
 constructor
 unfold norm
 split
 ·rename_i hc
  rw [fJ] at hc
  exact(h (mD _ _ hc.2)).elim
 ·exact q
section
variable {X:Ctx} {τ:pR} (fP:τ.Ok X.P) {lit:Bool} {e:Env} {Z:St}
include fP
theorem Ag {d:Option Nat} {g:Nat×Bool} {op:AOp} {K:AV->St->Prop} {c:Bool} (hw:fK e (some g)=some c)(h:SV X τ lit e op Z K c):EvS X e ⟨d,some g,op⟩ Z K:=by
 cases hp:op.pure with
 | true=>
   rw [TM hp]
   refine⟨c,hw,?_⟩
   cases c with
   | false=>
     simp only [SV,hp] at h
     exact⟨_,rfl,h⟩
   | true=>
     simp only [SV,hp] at h
     by_cases hpk:∃q x y,op= .pick q x y
     ·obtain⟨q,x,y,rfl⟩:=hpk
      simp only [cB] at h
      simp only [kP,if_true,nH,Dh]
      split at h
      ·rename_i t ht
       rw [ht]
       split at h
       ·rename_i h1
        cases t with
        | true=>
          simp only at h
          split at h
          ·rename_i h2
           have h:=iW _ _ h
           refine⟨_,by simp only [h1,h2,iO,Bool.and_self,Bool.true_and,Bool.not_true,Bool.and_false,lW,if_true];rfl,?_⟩
           have e1:merge true (x.ev e).val (y.ev e).val=(x.ev e).val:=by
            unfold merge
            split
            ·rename_i p q e1 e2;rw [e1];simp [Df]
            ·simp
           rw [e1];exact h
          ·exact h.elim
        | false=>
          simp only at h
          split at h
          ·rename_i h2
           have h:=iW _ _ h
           refine⟨_,by simp only [h1,h2,iO,Bool.and_self,Bool.true_and,Bool.not_false,Bool.and_false,Bool.and_true,lW,if_true];rfl,?_⟩
           have e1:merge false (x.ev e).val (y.ev e).val=(y.ev e).val:=by
            unfold merge
            split
            ·rename_i p q e1 e2;rw [e2];simp [Df]
            ·simp
           rw [e1];exact h
          ·exact h.elim
       ·exact h.elim
      ·exact h.elim
     ·have h':cB (op.bW.all fun o=>(o.ev e).cnd) (Q5 X τ lit (fun o=>(o.ev e).val) op Z fun v _=>K (.cd true v) Z) False:=by
        cases op <;> first | exact h | exact absurd ⟨_,_,_,rfl⟩ hpk
      obtain⟨h1,h2⟩:=lN h'
      have h3:=NV fP h2
      rw [cO (by clear h' h1 h2 h3 hpk h;cases op <;> first | rfl | cases hp)] at h3
      obtain⟨r,hr,h4⟩:=h3
      have e1:nH X.P e op Z=sQ true (op.bW.all (fun o=>oZ true (o.ev e).cnd)) (jO X.P (fun o=>(o.ev e).val) op Z):=by
        cases op <;> first | rfl | exact absurd ⟨_,_,_,rfl⟩ hpk
      refine⟨.cd true r.1,?_,h4⟩
      simp only [kP,if_true]
      rw [e1,hr]
      simp only [iO,sQ]
      rw [if_pos h1]
 | false=>
   rw [Pv hp]
   refine⟨c,hw,?_⟩
   cases c with
   | false=>simp only [SV,hp] at h;exact h
   | true=>
     simp only [SV,hp] at h
     obtain⟨h1,h2⟩:=lN h
     exact⟨h1,NV fP h2⟩
theorem D9 {a:AI} {K:AV->St->Prop} (h:KQ X τ lit e a Z K):EvS X e a Z K:=by
 obtain⟨d,gd,op⟩:=a
 unfold KQ at h
 simp only at h
 cases gd with
 | none=>exact NV fP h
 | some g=>
   obtain⟨n,w⟩:=g
   simp only at h
   split at h
   ·rename_i x hx
    cases x with
    | true=>exact Ag fP (by simp only [fK,hx];cases w <;> rfl) h
    | false=>exact Ag fP (by simp only [fK,hx];cases w <;> rfl) h
   ·rename_i c v hx
    cases c with
    | true=>
      simp only [cB] at h
      split at h
      ·rename_i x
       cases x with
       | true=>exact Ag fP (by simp only [fK,hx];cases w <;> rfl) h
       | false=>exact Ag fP (by simp only [fK,hx];cases w <;> rfl) h
      ·exact h.elim
    | false=>
      have h':SV X τ lit e op Z K false:=h
      exact Ag fP (by simp only [fK,hx];cases v <;> rfl) h'
   ·rename_i vs hx
    split at h
    ·exact Ag fP (by simp only [fK,hx]) h
    ·exact h.elim
   ·exact h.elim
theorem wO_ok:∀{ops:List AI} {e:Env} {Z:St} {K:Env->St->Prop},wO X τ lit ops e Z K->EvO X ops e Z K
 | [],e,Z,K,h=>Po.2 h
 | a :: r,e,Z,K,h=>by
   rw [Kq]
   have h1:=D9 fP h
   obtain⟨n,x,hx,q⟩:=h1
   exact⟨n,x,hx,wO_ok q⟩
theorem UK {e:Env} {Z:St} {K:Prop} :∀{l:List AI},wAg X τ lit e Z l K->l.all (w_ X e Z)=true/\K
 | [],h=>⟨rfl,h⟩
 | a :: r,h=>by
   obtain⟨h1,h2⟩:=h
   obtain⟨h3,h4⟩:=UK h2
   refine⟨?_,h4⟩
   simp only [List.all_cons,h3,Bool.and_true]
   split at h1
   ·rename_i d hd
    obtain⟨hp,h1⟩:=lN h1
    obtain⟨n,x,hx,q⟩:=D9 fP h1
    have hx':fU X (fun _ _ _=>none) e a Z=some x:=by
        unfold fU at hx ⊢
        rw [<-hx]
        have hc:∀ρ run,iH X run ρ a.op Z=jO X.P ρ a.op Z:=by
         intro ρ run
         cases ho:a.op <;> rw [ho] at hp <;> first | rfl | cases hp
        simp only [hc]
    unfold w_
    rw [hd,hx']
    obtain⟨v,s⟩:=x
    simp only at q ⊢
    rw [q];exact AV.sO v
   ·exact h1.elim
theorem wD_ok:∀{ops:List (AI×List AI)} {e:Env} {Z:St} {K:Env->St->Prop},wD X τ lit ops e Z K->EvD X ops e Z K
 | [],e,Z,K,h=>Pq.2 h
 | (a,ag) :: r,e,Z,K,h=>by
   rw [Kr]
   have h1:=D9 fP h
   obtain⟨n,x,hx,q⟩:=h1
   obtain⟨q1,q2⟩:=UK fP q
   exact⟨n,x,hx,q1,wD_ok q2⟩
omit fP in
theorem yP:∀(l:List Nat) (e:Env) (K:Env->Prop),Q8 l e K->K (clear l e)
 | [],e,K,h=>h
 | d :: ds,e,K,h=>yP ds e _ (iW _ _ h)
omit fP in
theorem BA (l:List Nat)(e:Env):clear l (clear l e)=clear l e:=by
 have key:∀(m:List Nat) (d:Nat),d∈m->get (m.map fun d=>(d,get e d)) d=get e d:=by
  intro m
  induction m with
  | nil=>intro d h;cases h
  | cons a m ih=>
    intro d h
    simp only [List.map_cons,get]
    split
    ·rename_i h1;rw [h1]
    ·rename_i h1
     rcases List.mem_cons.1 h with rfl | h
     ·exact(h1 rfl).elim
     ·exact ih d h
 unfold clear
 exact List.map_congr_left fun d hd=>by rw [key l d hd]
theorem wC_ok:∀{c:AC} {e:Env} {Z:St} {Q:Out->Env->St->Prop},wC X τ lit c e Z Q->EvC X c e Z Q:=by
 intro c
 induction c with
 | skip=>intro e Z Q h;exact J8.2 h
 | exit id=>intro e Z Q h;exact J9.2 h
 | ret=>intro e Z Q h;exact O_.2 h
 | reg ops=>intro e Z Q h;exact Pg.2 (wO_ok fP h)
 | drw ops=>intro e Z Q h;exact Ph.2 (wD_ok fP h)
 | seq a b iha ihb=>
   intro e Z Q h
   refine Pj.2 (yJ (iha h) fun o e s q=>?_)
   cases o with
   | normal=>rw [Out.tV];exact ihb q
   | exit j=>rw [Out.zW];exact q
   | ret=>rw [Out.Dv];exact q
 | cond x a b iha ihb=>
   intro e Z Q h
   simp only [wC] at h
   rw [J_]
   split at h
   ·rename_i t hx
    rw [hx]
    cases t with
    | true=>exact iha h
    | false=>exact ihb h
   ·exact h.elim
 | blk id c ih=>
   intro e Z Q h
   refine Pm.2 (yJ (ih h) fun o e s q=>?_)
   cases o with
   | normal=>rw [Out.yH];exact q
   | exit j=>
     rw [Out.Dw]
     simp only at q
     cases hb:Nat.beq j id with
     | true=>rw [hb] at q;rw [if_pos (wJ hb)];exact q
     | false=>rw [hb] at q;rw [if_neg (fun e=>by rw [e,Nat.beq_refl] at hb;cases hb)];exact q
   | ret=>rw [Out.Gs];exact q
 | loop live c ih=>
   intro e Z Q h
   have h:=(yP _ _ _ h).ev
   rw [tX,BA] at h
   rw [Ko,tX]
   exact h
 | cut live c ih=>
   intro e Z Q h
   exact Pn.2 (ih (yP _ _ _ h))
theorem yQ:∀{rs:List AR} {K:List AV->Prop},P5 τ e Z rs K->opt (sU X.P e Z rs) K
 | [],K,h=>⟨_,rfl,h⟩
 | .t n :: rs,K,h=>by
   have h:=iW _ _ h
   split at h
   ·exact h.elim
   ·rename_i hn
    obtain⟨vs,hv,q⟩:=yQ h
    refine⟨_,?_,q⟩
    simp only [sU,hv]
    have e1:Di X.P e Z (.t n)=some (get e n):=by
        simp only [Di]
    rw [e1]
 | .cell a t :: rs,K,h=>by
   obtain⟨v,hv,h⟩:=bF h
   have h:=iW _ _ h
   obtain⟨vs,hvs,q⟩:=yQ h
   refine⟨_,?_,q⟩
   simp only [sU,hvs]
   have e1:Di X.P e Z (.cell a t)=some v:=KP fP hv
   rw [e1]
theorem au.body {f:Nat} {F:AF} {args:List AV} {Q:AV->St->Prop} (hp:X.fM f=none)(hf:X.fns f=some F)(hl:args.length<=F.nt)(h:wF X τ lit F args Z Q):au X f args Z Q:=by
 constructor
 rw [EvF_fn hp hf hl]
 refine yJ (wC_ok fP h) fun o e s q=>?_
 cases o with
 | exit j=>exact q.elim
 | normal=>
   obtain⟨vs,hv,q⟩:=yQ fP q
   refine⟨rfl,?_⟩
   rw [d_]
   unfold wu
   rw [hv]
   match vs,q with
   | [],q=>exact⟨_,rfl,q.ev⟩
   | [v],q=>exact⟨_,rfl,q.ev⟩
   | v :: w :: vs,q=>exact⟨_,rfl,q.ev⟩
 | ret=>
   obtain⟨vs,hv,q⟩:=yQ fP q
   refine⟨rfl,?_⟩
   rw [d_]
   unfold wu
   rw [hv]
   match vs,q with
   | [],q=>exact⟨_,rfl,q.ev⟩
   | [v],q=>exact⟨_,rfl,q.ev⟩
   | v :: w :: vs,q=>exact⟨_,rfl,q.ev⟩
theorem aV.round {live:List Nat} {c:AC} {Q:Out->Env->St->Prop}
 (h:Q8 live e fun e=>wC X τ lit c e Z fun o e Z=>match o with
  | .normal=>Q8 live e fun e=>aV X live c e Z Q
  | .exit j=>Q (.exit j) e Z
  | .ret=>Q .ret e Z):aV X live c e Z Q:=by
 constructor
 rw [tX]
 refine yJ (wC_ok fP (yP _ _ _ h)) fun o e s q=>?_
 cases o with
 | normal=>
   rw [Out.tV]
   have h:=(yP _ _ _ q).ev
   rw [tX,BA] at h
   rw [tX]
   exact h
 | exit j=>rw [Out.zW];exact q
 | ret=>rw [Out.Dv];exact q
end
theorem au.of {X:Ctx} {f:Nat} {args:List AV} {Z:St} {Q:AV->St->Prop} (h:Du X f args Z Q):au X f args Z Q:=⟨h⟩
theorem au.to {X:Ctx} {f:Nat} {args:List AV} {Z Z':St} {v:AV} {Q:AV->St->Prop} (h:au X f args Z fun a s=>a=v/\s=Z')(q:Q v Z'):au X f args Z Q:=⟨(Yb h.ev).2 q⟩
theorem au.mono {X:Ctx} {f:Nat} {args:List AV} {Z:St} {Q Q':AV->St->Prop} (h:au X f args Z Q)(q:∀v s,Q v s->Q' v s):au X f args Z Q':=⟨Dy h.ev q⟩
theorem aV.mono {X:Ctx} {live:List Nat} {c:AC} {e:Env} {Z:St} {Q Q':Out->Env->St->Prop} (h:aV X live c e Z Q)(q:∀o e s,Q o e s->Q' o e s):aV X live c e Z Q':=⟨TQ h.ev q⟩
end Go.Abs
