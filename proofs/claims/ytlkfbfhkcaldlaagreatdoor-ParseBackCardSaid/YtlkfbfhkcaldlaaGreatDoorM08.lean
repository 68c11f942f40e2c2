/- Texts of this claim, joined: Abs21, Abs22, Tb, Abs23, Abs24, Abs25. -/
import Derived.Test.YtlkfbfhkcaldlaaGreatDoorM05
import Derived.Test.YtlkfbfhkcaldlaaGreatDoorProg
import Derived.KernelRfl
set_option linter.unusedVariables false
set_option linter.unusedSimpArgs false
namespace Go.Abs
theorem wrap_i64 {n:Int} (h1: -9223372036854775808≤n)(h2:n≤9223372036854775807):IntKind.i64.wrap n=n:=by
 simp [IntKind.wrap,IntKind.signed,IntKind.bits];omega
theorem wrap_i32 {n:Int} (h1: -2147483648≤n)(h2:n≤2147483647):IntKind.i32.wrap n=n:=by
 simp [IntKind.wrap,IntKind.signed,IntKind.bits];omega
theorem wrap_u32 {n:Int} (h1:0≤n)(h2:n≤4294967295):IntKind.u32.wrap n=n:=by
 simp [IntKind.wrap,IntKind.signed,IntKind.bits];omega
end Go.Abs
namespace Go.Abs
inductive BT where
 | nil
 | leaf (t:Nat) (T:AT)
 | node (m:Nat) (l r:BT)
def BT.get:BT→Nat→Option AT
 | .nil,_=>none
 | .leaf t T,n=>bif Nat.beq t n then some T else none
 | .node m l r,n=>bif Nat.blt n m then l.get n else r.get n
def BT.toList:BT→List (Nat×AT)
 | .nil=>[]
 | .leaf t T=>[(t,T)]
 | .node _ l r=>l.toList ++ r.toList
theorem BT.get_mem:∀(b:BT) (n:Nat) (T:AT),b.get n=some T→(n,T)∈b.toList
 | .nil,_,_,h=>by cases h
 | .leaf t T,n,T',h=>by
   simp only [BT.get] at h
   cases hb:Nat.beq t n with
   | true=>rw [hb] at h;cases h;rw [Nat.eq_of_beq_eq_true hb];exact List.mem_singleton.2 rfl
   | false=>rw [hb] at h;cases h
 | .node m l r,n,T,h=>by
   simp only [BT.get] at h
   cases hb:Nat.blt n m with
   | true=>rw [hb] at h;exact List.mem_append_left _ (BT.get_mem l n T h)
   | false=>rw [hb] at h;exact List.mem_append_right _ (BT.get_mem r n T h)
abbrev kR:=Nat→Option AT
def kR.Ok (τ:kR)(P:Program):Prop:=∀t T,τ t=some T→aG P t=some T
theorem BT.ok {b:BT} {P:Program} (h:b.toList.map (fun p=>aG P p.1)=b.toList.map (fun p=>some p.2)):kR.Ok b.get P:=by
 intro t T ht
 have hm:=BT.get_mem b t T ht
 have:=List.map_inj_left.1 h _ hm
 exact this
def Io (τ:kR)(t:Nat):Nat:=match τ t with | some T=>T.size | none=>0
theorem FU {P:Program} {t:Nat} {T:AT} (h:aG P t=some T):P.cellsOf t=T.size:=by
 unfold aG at h
 split at h
 ·rename_i i d hi _
  split at h
  ·cases h;simp [Program.cellsOf,hi]
  ·cases h
 ·cases h
section
variable {τ:kR} {P:Program} (dM:τ.Ok P)
include dM
theorem qc {t:Nat} (h:0<Io τ t):P.cellsOf t=Io τ t:=by
 unfold Io at h ⊢
 cases ht:τ t with
 | none=>rw [ht] at h;exact absurd h (Nat.lt_irrefl 0)
 | some T=>simp only;exact FU (dM t T ht)
end
def cB (t:Bool)(A B:Prop):Prop:=match t with | true=>A | false=>B
def om {α:Type} (o:Option α)(Q:α→Prop):Prop:=match o with | some a=>Q a | none=>False
theorem xI {α:Type} {o:Option α} {Q:α→Prop} (h:om o Q):opt o Q:=by
 cases o with
 | none=>exact h.elim
 | some a=>exact⟨a,rfl,h⟩
mutual
def fq (v:AV)(Q:AV→Prop):Prop:=match v with
 | .u=>Q .u
 | .b t=>Q (.b t)
 | .i k n=>Q (.i k n)
 | .s x=>Q (.s x)
 | .p0=>Q .p0
 | .p o g off=>Q (.p o g off)
 | .sl0=>Q .sl0
 | .sl o g off n z=>Q (.sl o g off n z)
 | .fn f a c=>Q (.fn f a c)
 | .fn0=>Q .fn0
 | .ic t v=>Q (.ic t v)
 | .eu=>Q .eu
 | .ag cs=>BH cs fun cs=>Q (.ag cs)
 | .tu cs=>BH cs fun cs=>Q (.tu cs)
 | .rZ=>Q .rZ
 | .mp o g=>Q (.mp o g)
 | .cd c v=>Q (.cd c v)
def BH (l:List AV)(Q:List AV→Prop):Prop:=match l with
 | []=>Q []
 | v :: l=>fq v fun v=>BH l fun l=>Q (v :: l)
end
mutual
theorem D5:∀(v:AV) (Q:AV→Prop),fq v Q→Q v:=by
 intro v Q h
 match v with
 | .u | .b _ | .i _ _ | .s _ | .p0 | .p _ _ _ | .sl0 | .sl _ _ _ _ _ | .fn _ _ _ | .fn0 | .ic _ _ | .eu | .rZ | .mp _ _ | .cd _ _=>simpa only [fq] using h
 | .ag cs=>simp only [fq] at h;exact jT cs _ h
 | .tu cs=>simp only [fq] at h;exact jT cs _ h
theorem jT:∀(l:List AV) (Q:List AV→Prop),BH l Q→Q l:=by
 intro l Q h
 match l with
 | []=>simpa only [BH] using h
 | v :: l=>simp only [BH] at h;exact jT l _ (D5 v _ h)
end
def fc (v:AV)(Q:AV→Prop):Prop:=match v with
 | .b t=>cB t (Q (.b true)) (Q (.b false))
 | v=>fq v Q
theorem fK (v:AV)(Q:AV→Prop)(h:fc v Q):Q v:=by
 cases v with
 | b t=>cases t <;> exact h
 | _=>exact D5 _ _ h
def nums:List Nat:=[0,1,2,3,4,5,6,7,8,9,10,11,12,13,14,15,16,17,18,19,20,21,22,23,24,25,26,27,28,29,30,31,32,33,34,35,36,37,38,39,40,41,42,43,44,45,46,47,48,49,50,51,52,53,54,55,56,57,58,59,60,61,62,63]
def MG {α:Type} :List α→List Nat→(Nat→Prop)→Prop
 | [],k :: _,Q=>Q k
 | _ :: l,_ :: ks,Q=>MG l ks Q
 | _,[],_=>False
theorem xJ {α:Type} :∀(l:List α) (s m:Nat) (Q:Nat→Prop),MG l (List.range' s m) Q→Q (s+l.length)
 | [],s,0,Q,h=>h.elim
 | [],s,m+1,Q,h=>h
 | _ :: l,s,0,Q,h=>h.elim
 | _ :: l,s,m+1,Q,h=>by
   have:=xJ l (s+1) m Q (by simpa only [List.range'_succ,MG] using h)
   simpa [Nat.add_comm,Nat.add_left_comm,Nat.add_assoc] using this
def D6 (lit:Bool)(σ:St)(Q:Nat→Prop):Prop:=match lit with | true=>MG σ nums Q | false=>Q σ.length
theorem lZ (lit:Bool)(σ:St)(Q:Nat→Prop)(h:D6 lit σ Q):Q σ.length:=by
 cases lit with
 | false=>exact h
 | true=>
   have e:nums=List.range' 0 64:=by decide
   have h':MG σ nums Q:=h
   rw [e] at h'
   simpa using xJ σ 0 64 Q h'
def Jo (σ:St)(Q:St→Prop):Prop:=match σ with
 | []=>Q []
 | a :: r=>match a with
   | ⟨g,ro,k⟩=>match k with
     | .cells e cs=>Jo r fun r=>Q (⟨g,ro,.cells e cs⟩ :: r)
     | .iter s p=>Jo r fun r=>Q (⟨g,ro,.iter s p⟩ :: r)
     | .maps m=>Jo r fun r=>Q (⟨g,ro,.maps m⟩ :: r)
     | .dead=>Jo r fun r=>Q (⟨g,ro,.dead⟩ :: r)
     | .qy e l=>Jo r fun r=>Q (⟨g,ro,.qy e l⟩ :: r)
theorem sZ:∀(σ:St) (Q:St→Prop),Jo σ Q→Q σ
 | [],Q,h=>by simpa only [Jo] using h
 | ⟨g,ro,.cells e cs⟩ :: r,Q,h=>sZ r _ (by simpa only [Jo] using h)
 | ⟨g,ro,.iter s p⟩ :: r,Q,h=>sZ r _ (by simpa only [Jo] using h)
 | ⟨g,ro,.maps m⟩ :: r,Q,h=>sZ r _ (by simpa only [Jo] using h)
 | ⟨g,ro,.dead⟩ :: r,Q,h=>sZ r _ (by simpa only [Jo] using h)
 | ⟨g,ro,.qy e l⟩ :: r,Q,h=>sZ r _ (by simpa only [Jo] using h)
def FV (lit:Bool)(σ:St)(Q:St→Prop):Prop:=match lit with | true=>Jo σ Q | false=>Q σ
theorem iH (lit:Bool)(σ:St)(Q:St→Prop)(h:FV lit σ Q):Q σ:=by
 cases lit with
 | false=>exact h
 | true=>exact sZ σ Q h
def FW (k:IntKind)(n:Int)(Q:AV→Prop):Prop:=∃r,k.wrap n=r∧Q (.i k r)
def Ac (τ:kR)(eq:Nat→AV→AV→Option Bool):List (Nat×Nat×Bool)→List AV→List AV→Option Bool
 | [],_,_=>some true
 | f :: fs,xs,ys=>
   if f.2.2 then Ac τ eq fs xs ys else
   match τ f.2.1 with
   | none=>none
   | some F=>
     match partOf F xs f.1,partOf F ys f.1 with
     | some x,some y=>match eq f.2.1 x y with
       | some b=>match fs with
         | []=>some b
         | fs=>match Ac τ eq fs xs ys with
           | some c=>some (b && c)
           | none=>none
       | none=>none
     | _,_=>none
def Xv (τ:kR):Nat→Nat→AV→AV→Option Bool
 | 0,_,_,_=>none
 | d+1,t,x,y=>
   match τ t with
   | none=>none
   | some T=>
   match T.d,x,y with
   | .bool,.b p,.b q=>some (p == q)
   | .int _,.i k p,.i k' q=>if k=k' then some (decide (p=q)) else none
   | .str,.s p,.s q=>some (p == q)
   | .ptr _,.p0,.p0=>some true
   | .ptr _,.p0,.p _ _ _=>some false
   | .ptr _,.p _ _ _,.p0=>some false
   | .ptr e,.p o g off,.p o' g' off'=>if o=o'∧g=g'∧0<Io τ e then some (off == off') else none
   | .slice _,.sl0,.sl0=>some true
   | .slice _,.sl0,.sl _ _ _ _ _=>some false
   | .slice _,.sl _ _ _ _ _,.sl0=>some false
   | .fn,.fn0,.fn0=>some true
   | .fn,.fn0,.fn _ _ _=>some false
   | .fn,.fn _ _ _,.fn0=>some false
   | .map _ _,.rZ,.rZ=>some true
   | .map _ _,.rZ,.mp _ _=>some false
   | .map _ _,.mp _ _,.rZ=>some false
   | .yM _,.eu,.eu=>some true
   | .yM _,.eu,.ic _ _=>some false
   | .yM _,.ic _ _,.eu=>some false
   | .yM _,.ic t p,.ic t' q=>if t=t' then(match τ t with | some T=>if T.cmp then Xv τ d t p q else none | none=>none) else some false
   | .st fs,.ag xs,.ag ys=>if T.held then none else Ac τ (Xv τ d) fs xs ys
   | _,_,_=>none
section
variable {τ:kR} {P:Program} (dM:τ.Ok P)
include dM
theorem xK {eq eq':Nat→AV→AV→Option Bool} (he:∀t x y b,eq t x y=some b→eq' t x y=some b):∀(fs:List (Nat×Nat×Bool)) (xs ys:List AV) (b:Bool),Ac τ eq fs xs ys=some b→qB P eq' fs xs ys=some b
 | [],_,_,b,h=>by simpa only [Ac,qB] using h
 | f :: fs,xs,ys,b,h=>by
   unfold Ac at h
   unfold qB
   split at h
   ·rename_i hf;rw [if_pos hf];exact xK he fs xs ys b h
   ·rename_i hf;rw [if_neg hf]
    split at h
    ·cases h
    ·rename_i F hF
     rw [dM _ _ hF]
     split at h
     ·rename_i x y hx hy
      simp only [hx,hy]
      split at h
      ·rename_i b1 hb1
       rw [he _ _ _ _ hb1]
       split at h
       ·cases h;cases b <;> rfl
       ·split at h
        ·rename_i b2 hb2
         cases h
         cases b1 with
         | true=>simp only [Bool.true_and];exact xK he _ xs ys b2 hb2
         | false=>rfl
        ·cases h
      ·cases h
     ·cases h
theorem BI:∀(d t:Nat) (x y:AV) (b:Bool),Xv τ d t x y=some b→uq P d t x y=some b
 | 0,_,_,_,b,h=>by cases h
 | d+1,t,x,y,b,h=>by
   unfold Xv at h
   split at h
   ·cases h
   ·rename_i T hT
    unfold uq
    rw [dM _ _ hT]
    simp only
    split at h <;> (rename_i hd;simp only [hd])
    all_goals first
     | exact h
     | cases h
     | skip
    ·split at h
     ·rename_i hk
      obtain⟨h1,h2,h3⟩:=hk
      have h4:=h3
      rw [←qc dM h3] at h4
      rw [if_pos ⟨h1,h2,h4⟩];exact h
     ·cases h
    ·split at h
     ·rename_i ht
      rw [if_pos ht]
      split at h
      ·rename_i T' hT'
       split at h
       ·rename_i hc
        rw [dM _ _ hT',if_pos (by simpa using hc)]
        exact BI d _ _ _ b h
       ·cases h
      ·cases h
     ·rename_i ht;rw [if_neg ht];exact h
    ·split at h
     ·cases h
     ·rename_i hh;rw [if_neg hh];exact xK dM (fun t x y b=>BI d t x y b) _ _ _ b h
end
end Go.Abs
namespace Go.Abs.YtlkfbfhkcaldlaaGreatDoor
open Go.Proofs
def yT0:AT:=⟨.other,1,0,.u,false,false,false⟩
def UA:AT:=⟨.fn,1,8,.fn0,false,false,false⟩
def yT2:AT:=⟨.int .i64,1,8,.i .i64 0,true,false,false⟩
def dJ:AT:=⟨.int .i64,1,8,.i .i64 0,true,false,false⟩
def qg:AT:=⟨.bool,1,1,.b false,true,false,false⟩
def yT5:AT:=⟨.int .u8,1,1,.i .u8 0,true,false,false⟩
def yT6:AT:=⟨.int .u8,1,1,.i .u8 0,true,false,false⟩
def yT7:AT:=⟨.st [(0,2,false),(1,3,false),(2,4,false),(3,6,false)],4,24,.ag [.i .i64 0,.i .i64 0,.b false,.i .u8 0],true,false,false⟩
def yT8:AT:=⟨.st [(0,2,false),(1,3,false),(2,4,false),(3,6,false)],4,24,.ag [.i .i64 0,.i .i64 0,.b false,.i .u8 0],true,false,false⟩
def dP:AT:=⟨.str,1,16,.s [],true,false,false⟩
def yT10:AT:=⟨.str,1,16,.s [],true,false,false⟩
def yT11:AT:=⟨.str,1,16,.s [],true,false,false⟩
def yT12:AT:=⟨.int .u64,1,8,.i .u64 0,true,false,false⟩
def yT15:AT:=⟨.ptr 217,1,8,.p0,true,false,false⟩
def yT16:AT:=⟨.ptr 220,1,8,.p0,true,false,false⟩
def yT17:AT:=⟨.ptr 227,1,8,.p0,true,false,false⟩
def yT20:AT:=⟨.yM [],1,16,.eu,true,false,false⟩
def yT21:AT:=⟨.int .i32,1,4,.i .i32 0,true,false,false⟩
def yT22:AT:=⟨.ptr 60,1,8,.p0,true,false,false⟩
def yT23:AT:=⟨.int .i64,1,8,.i .i64 0,true,false,false⟩
def yT24:AT:=⟨.st [(0,23,false),(1,3,false)],2,16,.ag [.i .i64 0,.i .i64 0],true,false,false⟩
def yT25:AT:=⟨.st [(0,23,false),(1,3,false)],2,16,.ag [.i .i64 0,.i .i64 0],true,false,false⟩
def yT26:AT:=⟨.other,1,0,.u,false,false,false⟩
def yT27:AT:=⟨.fn,1,8,.fn0,false,false,false⟩
def yT28:AT:=⟨.fn,1,8,.fn0,false,false,false⟩
def yT29:AT:=⟨.fn,1,8,.fn0,false,false,false⟩
def yT30:AT:=⟨.other,1,0,.u,false,false,false⟩
def yT31:AT:=⟨.fn,1,8,.fn0,false,false,false⟩
def yT32:AT:=⟨.fn,1,8,.fn0,false,false,false⟩
def yT33:AT:=⟨.yM [("Error",82)],1,16,.eu,true,false,true⟩
def yT34:AT:=⟨.yM [("Error",82)],1,16,.eu,true,false,true⟩
def yT35:AT:=⟨.other,1,0,.u,false,false,false⟩
def yT36:AT:=⟨.fn,1,8,.fn0,false,false,false⟩
def yT37:AT:=⟨.fn,1,8,.fn0,false,false,false⟩
def yT38:AT:=⟨.arr 2 5,2,2,.ag [.i .u8 0,.i .u8 0],true,false,false⟩
def Qz:AT:=⟨.int .u32,1,4,.i .u32 0,true,false,false⟩
def yT40:AT:=⟨.arr 3 39,3,12,.ag [.i .u32 0,.i .u32 0,.i .u32 0],true,false,false⟩
def yT41:AT:=⟨.other,1,0,.u,false,false,false⟩
def yT42:AT:=⟨.fn,1,8,.fn0,false,false,false⟩
def yT43:AT:=⟨.fn,1,8,.fn0,false,false,false⟩
def aV:AT:=⟨.ptr 48,1,8,.p0,true,false,false⟩
def yT45:AT:=⟨.fn,1,8,.fn0,false,false,false⟩
def nJ:AT:=⟨.slice 44,1,24,.sl0,false,false,false⟩
def yT47:AT:=⟨.st [(0,3,false),(1,39,false),(2,9,false),(3,9,false),(4,44,false),(5,44,false),(6,46,false),(7,3,false)],8,96,.ag [.i .i64 0,.i .u32 0,.s [],.s [],.p0,.p0,.sl0,.i .i64 0],false,false,false⟩
def yT48:AT:=⟨.st [(0,3,false),(1,39,false),(2,9,false),(3,9,false),(4,44,false),(5,44,false),(6,46,false),(7,3,false)],8,96,.ag [.i .i64 0,.i .u32 0,.s [],.s [],.p0,.p0,.sl0,.i .i64 0],false,false,false⟩
def yT49:AT:=⟨.fn,1,8,.fn0,false,false,false⟩
def yT50:AT:=⟨.fn,1,8,.fn0,false,false,false⟩
def lF:AT:=⟨.slice 62,1,24,.sl0,false,false,false⟩
def yT52:AT:=⟨.st [(0,23,false),(1,3,false)],2,16,.ag [.i .i64 0,.i .i64 0],true,false,false⟩
def yT53:AT:=⟨.other,1,0,.u,false,false,false⟩
def yT54:AT:=⟨.fn,1,8,.fn0,false,false,false⟩
def yT55:AT:=⟨.ptr 57,1,8,.p0,true,false,false⟩
def yT56:AT:=⟨.st [(0,51,false),(1,3,false),(2,3,false),(3,4,false),(4,25,false)],6,64,.ag [.sl0,.i .i64 0,.i .i64 0,.b false,.i .i64 0,.i .i64 0],false,false,false⟩
def yT57:AT:=⟨.st [(0,51,false),(1,3,false),(2,3,false),(3,4,false),(4,25,false)],6,64,.ag [.sl0,.i .i64 0,.i .i64 0,.b false,.i .i64 0,.i .i64 0],false,false,false⟩
def tq:AT:=⟨.slice 64,1,24,.sl0,false,false,false⟩
def yT59:AT:=⟨.st [(0,58,false)],1,24,.ag [.sl0],false,false,false⟩
def yT60:AT:=⟨.st [(0,58,false)],1,24,.ag [.sl0],false,false,false⟩
def yT61:AT:=⟨.st [(0,3,false),(1,9,false),(2,3,false)],3,32,.ag [.i .i64 0,.s [],.i .i64 0],true,false,false⟩
def vk:AT:=⟨.st [(0,3,false),(1,9,false),(2,3,false)],3,32,.ag [.i .i64 0,.s [],.i .i64 0],true,false,false⟩
def yT63:AT:=⟨.fn,1,8,.fn0,false,false,false⟩
def dD:AT:=⟨.ptr 69,1,8,.p0,true,false,false⟩
def yT65:AT:=⟨.fn,1,8,.fn0,false,false,false⟩
def lG:AT:=⟨.slice 71,1,24,.sl0,false,false,false⟩
def cO:AT:=⟨.slice 96,1,24,.sl0,false,false,false⟩
def yT68:AT:=⟨.st [(0,9,false),(1,66,false),(2,4,false),(3,67,false),(4,3,false)],5,80,.ag [.s [],.sl0,.b false,.sl0,.i .i64 0],false,false,false⟩
def yT69:AT:=⟨.st [(0,9,false),(1,66,false),(2,4,false),(3,67,false),(4,3,false)],5,80,.ag [.s [],.sl0,.b false,.sl0,.i .i64 0],false,false,false⟩
def yT70:AT:=⟨.st [(0,9,false),(1,4,false)],2,24,.ag [.s [],.b false],true,false,false⟩
def dV:AT:=⟨.st [(0,9,false),(1,4,false)],2,24,.ag [.s [],.b false],true,false,false⟩
def yT72:AT:=⟨.fn,1,8,.fn0,false,false,false⟩
def yT73:AT:=⟨.ptr 79,1,8,.p0,true,false,false⟩
def yT74:AT:=⟨.ptr 77,1,8,.p0,true,false,false⟩
def QA:AT:=⟨.slice 5,1,24,.sl0,false,false,false⟩
def yT76:AT:=⟨.st [(0,74,false),(1,75,false)],2,32,.ag [.p0,.sl0],false,false,false⟩
def yT77:AT:=⟨.st [(0,74,false),(1,75,false)],2,32,.ag [.p0,.sl0],false,false,false⟩
def yT78:AT:=⟨.st [(0,77,false),(2,3,false),(3,4,false)],4,48,.ag [.p0,.sl0,.i .i64 0,.b false],false,false,false⟩
def yT79:AT:=⟨.st [(0,77,false),(2,3,false),(3,4,false)],4,48,.ag [.p0,.sl0,.i .i64 0,.b false],false,false,false⟩
def yT80:AT:=⟨.fn,1,8,.fn0,false,false,false⟩
def yT81:AT:=⟨.fn,1,8,.fn0,false,false,false⟩
def yT82:AT:=⟨.fn,1,8,.fn0,false,false,false⟩
def yT83:AT:=⟨.other,1,0,.u,false,false,false⟩
def yT84:AT:=⟨.fn,1,8,.fn0,false,false,false⟩
def aW:AT:=⟨.ptr 88,1,8,.p0,true,false,false⟩
def MH:AT:=⟨.ptr 25,1,8,.p0,true,false,false⟩
def yT87:AT:=⟨.st [(0,51,false),(1,3,false),(2,86,false)],3,40,.ag [.sl0,.i .i64 0,.p0],false,false,false⟩
def yT88:AT:=⟨.st [(0,51,false),(1,3,false),(2,86,false)],3,40,.ag [.sl0,.i .i64 0,.p0],false,false,false⟩
def yT89:AT:=⟨.fn,1,8,.fn0,false,false,false⟩
def yT90:AT:=⟨.fn,1,8,.fn0,false,false,false⟩
def yT91:AT:=⟨.fn,1,8,.fn0,false,false,false⟩
def yT92:AT:=⟨.arr 18 9,18,288,.ag [.s [],.s [],.s [],.s [],.s [],.s [],.s [],.s [],.s [],.s [],.s [],.s [],.s [],.s [],.s [],.s [],.s [],.s []],true,false,false⟩
def yT93:AT:=⟨.arr 18 3,18,144,.ag [.i .i64 0,.i .i64 0,.i .i64 0,.i .i64 0,.i .i64 0,.i .i64 0,.i .i64 0,.i .i64 0,.i .i64 0,.i .i64 0,.i .i64 0,.i .i64 0,.i .i64 0,.i .i64 0,.i .i64 0,.i .i64 0,.i .i64 0,.i .i64 0],true,false,false⟩
def yT94:AT:=⟨.st [(0,3,false),(1,9,false),(2,4,false),(3,44,false),(4,44,false),(5,67,false),(6,67,false),(7,3,false)],8,104,.ag [.i .i64 0,.s [],.b false,.p0,.p0,.sl0,.sl0,.i .i64 0],false,false,false⟩
def yT95:AT:=⟨.st [(0,3,false),(1,9,false),(2,4,false),(3,44,false),(4,44,false),(5,67,false),(6,67,false),(7,3,false)],8,104,.ag [.i .i64 0,.s [],.b false,.p0,.p0,.sl0,.sl0,.i .i64 0],false,false,false⟩
def bZ:AT:=⟨.ptr 95,1,8,.p0,true,false,false⟩
def yT97:AT:=⟨.other,1,0,.u,false,false,false⟩
def yT98:AT:=⟨.fn,1,8,.fn0,false,false,false⟩
def yT99:AT:=⟨.fn,1,8,.fn0,false,false,false⟩
def Xw:AT:=⟨.other,1,0,.u,false,false,false⟩
def Xx:AT:=⟨.fn,1,8,.fn0,false,false,false⟩
def Xy:AT:=⟨.fn,1,8,.fn0,false,false,false⟩
def Xz:AT:=⟨.fn,1,8,.fn0,false,false,false⟩
def XA:AT:=⟨.fn,1,8,.fn0,false,false,false⟩
def XC:AT:=⟨.fn,1,8,.fn0,false,false,false⟩
def XD:AT:=⟨.fn,1,8,.fn0,false,false,false⟩
def XE:AT:=⟨.fn,1,8,.fn0,false,false,false⟩
def XF:AT:=⟨.ptr 5,1,8,.p0,true,false,false⟩
def XG:AT:=⟨.fn,1,8,.fn0,false,false,false⟩
def XH:AT:=⟨.fn,1,8,.fn0,false,false,false⟩
def XI:AT:=⟨.fn,1,8,.fn0,false,false,false⟩
def SV:AT:=⟨.int .i64,1,8,.i .i64 0,true,false,false⟩
def XJ:AT:=⟨.fn,1,8,.fn0,false,false,false⟩
def XL:AT:=⟨.fn,1,8,.fn0,false,false,false⟩
def XM:AT:=⟨.fn,1,8,.fn0,false,false,false⟩
def XO:AT:=⟨.slice 9,1,24,.sl0,false,false,false⟩
def XP:AT:=⟨.fn,1,8,.fn0,false,false,false⟩
def XQ:AT:=⟨.int .u64,1,8,.i .u64 0,true,false,false⟩
def XR:AT:=⟨.other,1,0,.u,false,false,false⟩
def XT:AT:=⟨.fn,1,8,.fn0,false,false,false⟩
def XU:AT:=⟨.fn,1,8,.fn0,false,false,false⟩
def XV:AT:=⟨.fn,1,8,.fn0,false,false,false⟩
def XY:AT:=⟨.fn,1,8,.fn0,false,false,false⟩
def XZ:AT:=⟨.fn,1,8,.fn0,false,false,false⟩
def X3:AT:=⟨.fn,1,8,.fn0,false,false,false⟩
def X_:AT:=⟨.fn,1,8,.fn0,false,false,false⟩
def Ya:AT:=⟨.fn,1,8,.fn0,false,false,false⟩
def Yb:AT:=⟨.fn,1,8,.fn0,false,false,false⟩
def Yc:AT:=⟨.fn,1,8,.fn0,false,false,false⟩
def Yd:AT:=⟨.fn,1,8,.fn0,false,false,false⟩
def Ye:AT:=⟨.other,1,0,.u,false,false,false⟩
def Yf:AT:=⟨.fn,1,8,.fn0,false,false,false⟩
def Yg:AT:=⟨.fn,1,8,.fn0,false,false,false⟩
def Yh:AT:=⟨.slice 112,1,24,.sl0,false,false,false⟩
def Yi:AT:=⟨.fn,1,8,.fn0,false,false,false⟩
def Yj:AT:=⟨.fn,1,8,.fn0,false,false,false⟩
def Yk:AT:=⟨.fn,1,8,.fn0,false,false,false⟩
def Yl:AT:=⟨.fn,1,8,.fn0,false,false,false⟩
def Ym:AT:=⟨.fn,1,8,.fn0,false,false,false⟩
def Yn:AT:=⟨.fn,1,8,.fn0,false,false,false⟩
def Yo:AT:=⟨.fn,1,8,.fn0,false,false,false⟩
def Yp:AT:=⟨.fn,1,8,.fn0,false,false,false⟩
def Yq:AT:=⟨.fn,1,8,.fn0,false,false,false⟩
def Yr:AT:=⟨.fn,1,8,.fn0,false,false,false⟩
def Yt:AT:=⟨.fn,1,8,.fn0,false,false,false⟩
def Yu:AT:=⟨.fn,1,8,.fn0,false,false,false⟩
def Yv:AT:=⟨.fn,1,8,.fn0,false,false,false⟩
def Yw:AT:=⟨.fn,1,8,.fn0,false,false,false⟩
def Yx:AT:=⟨.fn,1,8,.fn0,false,false,false⟩
def Yy:AT:=⟨.fn,1,8,.fn0,false,false,false⟩
def Yz:AT:=⟨.fn,1,8,.fn0,false,false,false⟩
def YA:AT:=⟨.arr 256 5,256,256,.ag [.i .u8 0,.i .u8 0,.i .u8 0,.i .u8 0,.i .u8 0,.i .u8 0,.i .u8 0,.i .u8 0,.i .u8 0,.i .u8 0,.i .u8 0,.i .u8 0,.i .u8 0,.i .u8 0,.i .u8 0,.i .u8 0,.i .u8 0,.i .u8 0,.i .u8 0,.i .u8 0,.i .u8 0,.i .u8 0,.i .u8 0,.i .u8 0,.i .u8 0,.i .u8 0,.i .u8 0,.i .u8 0,.i .u8 0,.i .u8 0,.i .u8 0,.i .u8 0,.i .u8 0,.i .u8 0,.i .u8 0,.i .u8 0,.i .u8 0,.i .u8 0,.i .u8 0,.i .u8 0,.i .u8 0,.i .u8 0,.i .u8 0,.i .u8 0,.i .u8 0,.i .u8 0,.i .u8 0,.i .u8 0,.i .u8 0,.i .u8 0,.i .u8 0,.i .u8 0,.i .u8 0,.i .u8 0,.i .u8 0,.i .u8 0,.i .u8 0,.i .u8 0,.i .u8 0,.i .u8 0,.i .u8 0,.i .u8 0,.i .u8 0,.i .u8 0,.i .u8 0,.i .u8 0,.i .u8 0,.i .u8 0,.i .u8 0,.i .u8 0,.i .u8 0,.i .u8 0,.i .u8 0,.i .u8 0,.i .u8 0,.i .u8 0,.i .u8 0,.i .u8 0,.i .u8 0,.i .u8 0,.i .u8 0,.i .u8 0,.i .u8 0,.i .u8 0,.i .u8 0,.i .u8 0,.i .u8 0,.i .u8 0,.i .u8 0,.i .u8 0,.i .u8 0,.i .u8 0,.i .u8 0,.i .u8 0,.i .u8 0,.i .u8 0,.i .u8 0,.i .u8 0,.i .u8 0,.i .u8 0,.i .u8 0,.i .u8 0,.i .u8 0,.i .u8 0,.i .u8 0,.i .u8 0,.i .u8 0,.i .u8 0,.i .u8 0,.i .u8 0,.i .u8 0,.i .u8 0,.i .u8 0,.i .u8 0,.i .u8 0,.i .u8 0,.i .u8 0,.i .u8 0,.i .u8 0,.i .u8 0,.i .u8 0,.i .u8 0,.i .u8 0,.i .u8 0,.i .u8 0,.i .u8 0,.i .u8 0,.i .u8 0,.i .u8 0,.i .u8 0,.i .u8 0,.i .u8 0,.i .u8 0,.i .u8 0,.i .u8 0,.i .u8 0,.i .u8 0,.i .u8 0,.i .u8 0,.i .u8 0,.i .u8 0,.i .u8 0,.i .u8 0,.i .u8 0,.i .u8 0,.i .u8 0,.i .u8 0,.i .u8 0,.i .u8 0,.i .u8 0,.i .u8 0,.i .u8 0,.i .u8 0,.i .u8 0,.i .u8 0,.i .u8 0,.i .u8 0,.i .u8 0,.i .u8 0,.i .u8 0,.i .u8 0,.i .u8 0,.i .u8 0,.i .u8 0,.i .u8 0,.i .u8 0,.i .u8 0,.i .u8 0,.i .u8 0,.i .u8 0,.i .u8 0,.i .u8 0,.i .u8 0,.i .u8 0,.i .u8 0,.i .u8 0,.i .u8 0,.i .u8 0,.i .u8 0,.i .u8 0,.i .u8 0,.i .u8 0,.i .u8 0,.i .u8 0,.i .u8 0,.i .u8 0,.i .u8 0,.i .u8 0,.i .u8 0,.i .u8 0,.i .u8 0,.i .u8 0,.i .u8 0,.i .u8 0,.i .u8 0,.i .u8 0,.i .u8 0,.i .u8 0,.i .u8 0,.i .u8 0,.i .u8 0,.i .u8 0,.i .u8 0,.i .u8 0,.i .u8 0,.i .u8 0,.i .u8 0,.i .u8 0,.i .u8 0,.i .u8 0,.i .u8 0,.i .u8 0,.i .u8 0,.i .u8 0,.i .u8 0,.i .u8 0,.i .u8 0,.i .u8 0,.i .u8 0,.i .u8 0,.i .u8 0,.i .u8 0,.i .u8 0,.i .u8 0,.i .u8 0,.i .u8 0,.i .u8 0,.i .u8 0,.i .u8 0,.i .u8 0,.i .u8 0,.i .u8 0,.i .u8 0,.i .u8 0,.i .u8 0,.i .u8 0,.i .u8 0,.i .u8 0,.i .u8 0,.i .u8 0,.i .u8 0,.i .u8 0,.i .u8 0,.i .u8 0,.i .u8 0,.i .u8 0,.i .u8 0,.i .u8 0,.i .u8 0,.i .u8 0,.i .u8 0,.i .u8 0,.i .u8 0,.i .u8 0,.i .u8 0,.i .u8 0],true,false,false⟩
def YB:AT:=⟨.fn,1,8,.fn0,false,false,false⟩
def YC:AT:=⟨.fn,1,8,.fn0,false,false,false⟩
def YD:AT:=⟨.int .i64,1,8,.i .i64 0,true,false,false⟩
def YE:AT:=⟨.fn,1,8,.fn0,false,false,false⟩
def YF:AT:=⟨.int .u64,1,8,.i .u64 0,true,false,false⟩
def YG:AT:=⟨.ptr 176,1,8,.p0,true,false,false⟩
def YH:AT:=⟨.fn,1,8,.fn0,false,false,false⟩
def YI:AT:=⟨.fn,1,8,.fn0,false,false,false⟩
def YJ:AT:=⟨.fn,1,8,.fn0,false,false,false⟩
def YK:AT:=⟨.fn,1,8,.fn0,false,false,false⟩
def YL:AT:=⟨.fn,1,8,.fn0,false,false,false⟩
def YM:AT:=⟨.other,1,8,.p0,true,false,false⟩
def YN:AT:=⟨.fn,1,8,.fn0,false,false,false⟩
def YO:AT:=⟨.other,1,0,.u,false,false,false⟩
def YP:AT:=⟨.fn,1,8,.fn0,false,false,false⟩
def YQ:AT:=⟨.fn,1,8,.fn0,false,false,false⟩
def YR:AT:=⟨.fn,1,8,.fn0,false,false,false⟩
def YS:AT:=⟨.slice 172,1,24,.sl0,false,false,false⟩
def YT:AT:=⟨.st [(0,3,false),(1,3,false)],2,16,.ag [.i .i64 0,.i .i64 0],true,false,false⟩
def YU:AT:=⟨.st [(0,3,false),(1,3,false)],2,16,.ag [.i .i64 0,.i .i64 0],true,false,false⟩
def YV:AT:=⟨.fn,1,8,.fn0,false,false,false⟩
def YW:AT:=⟨.ptr 186,1,8,.p0,true,false,false⟩
def YX:AT:=⟨.st [(0,9,false),(1,9,false),(2,34,false)],3,48,.ag [.s [],.s [],.eu],true,false,true⟩
def YZ:AT:=⟨.st [(0,9,false),(1,9,false),(2,34,false)],3,48,.ag [.s [],.s [],.eu],true,false,true⟩
def Y0:AT:=⟨.fn,1,8,.fn0,false,false,false⟩
def Y1:AT:=⟨.fn,1,8,.fn0,false,false,false⟩
def Y2:AT:=⟨.other,1,0,.u,false,false,false⟩
def Y3:AT:=⟨.fn,1,8,.fn0,false,false,false⟩
def Y4:AT:=⟨.other,1,0,.u,false,false,false⟩
def Y5:AT:=⟨.fn,1,8,.fn0,false,false,false⟩
def Y6:AT:=⟨.slice 189,1,24,.sl0,false,false,false⟩
def Y7:AT:=⟨.slice 192,1,24,.sl0,false,false,false⟩
def Y8:AT:=⟨.st [(0,183,false),(1,184,false),(2,3,false)],3,56,.ag [.sl0,.sl0,.i .i64 0],false,false,false⟩
def Y9:AT:=⟨.st [(0,183,false),(1,184,false),(2,3,false)],3,56,.ag [.sl0,.sl0,.i .i64 0],false,false,false⟩
def Y_:AT:=⟨.int .u16,1,2,.i .u16 0,true,false,false⟩
def Za:AT:=⟨.st [(0,187,false),(1,187,false),(2,187,false)],3,6,.ag [.i .u16 0,.i .u16 0,.i .u16 0],true,false,false⟩
def Zb:AT:=⟨.st [(0,187,false),(1,187,false),(2,187,false)],3,6,.ag [.i .u16 0,.i .u16 0,.i .u16 0],true,false,false⟩
def Zc:AT:=⟨.fn,1,8,.fn0,false,false,false⟩
def Zd:AT:=⟨.st [(0,39,false),(1,39,false),(2,39,false)],3,12,.ag [.i .u32 0,.i .u32 0,.i .u32 0],true,false,false⟩
def Ze:AT:=⟨.st [(0,39,false),(1,39,false),(2,39,false)],3,12,.ag [.i .u32 0,.i .u32 0,.i .u32 0],true,false,false⟩
def Zf:AT:=⟨.fn,1,8,.fn0,false,false,false⟩
def Zg:AT:=⟨.ptr 196,1,8,.p0,true,false,false⟩
def Zh:AT:=⟨.st [(0,9,false)],1,16,.ag [.s []],true,false,false⟩
def Zi:AT:=⟨.st [(0,9,false)],1,16,.ag [.s []],true,false,false⟩
def MI:AT:=⟨.map 9 3,1,8,.rZ,false,false,false⟩
def Zj:AT:=⟨.fn,1,8,.fn0,false,false,false⟩
def Zk:AT:=⟨.arr 24 5,24,24,.ag [.i .u8 0,.i .u8 0,.i .u8 0,.i .u8 0,.i .u8 0,.i .u8 0,.i .u8 0,.i .u8 0,.i .u8 0,.i .u8 0,.i .u8 0,.i .u8 0,.i .u8 0,.i .u8 0,.i .u8 0,.i .u8 0,.i .u8 0,.i .u8 0,.i .u8 0,.i .u8 0,.i .u8 0,.i .u8 0,.i .u8 0,.i .u8 0],true,false,false⟩
def Zl:AT:=⟨.fn,1,8,.fn0,false,false,false⟩
def Zm:AT:=⟨.fn,1,8,.fn0,false,false,false⟩
def Zn:AT:=⟨.other,1,0,.u,false,false,false⟩
def Zo:AT:=⟨.fn,1,8,.fn0,false,false,false⟩
def Zp:AT:=⟨.ptr 189,1,8,.p0,true,false,false⟩
def Zq:AT:=⟨.ptr 192,1,8,.p0,true,false,false⟩
def Zr:AT:=⟨.fn,1,8,.fn0,false,false,false⟩
def Zt:AT:=⟨.fn,1,8,.fn0,false,false,false⟩
def Zu:AT:=⟨.fn,1,8,.fn0,false,false,false⟩
def Zv:AT:=⟨.arr 20 118,20,160,.ag [.i .u64 0,.i .u64 0,.i .u64 0,.i .u64 0,.i .u64 0,.i .u64 0,.i .u64 0,.i .u64 0,.i .u64 0,.i .u64 0,.i .u64 0,.i .u64 0,.i .u64 0,.i .u64 0,.i .u64 0,.i .u64 0,.i .u64 0,.i .u64 0,.i .u64 0,.i .u64 0],true,false,false⟩
def Zw:AT:=⟨.arr 65 5,65,65,.ag [.i .u8 0,.i .u8 0,.i .u8 0,.i .u8 0,.i .u8 0,.i .u8 0,.i .u8 0,.i .u8 0,.i .u8 0,.i .u8 0,.i .u8 0,.i .u8 0,.i .u8 0,.i .u8 0,.i .u8 0,.i .u8 0,.i .u8 0,.i .u8 0,.i .u8 0,.i .u8 0,.i .u8 0,.i .u8 0,.i .u8 0,.i .u8 0,.i .u8 0,.i .u8 0,.i .u8 0,.i .u8 0,.i .u8 0,.i .u8 0,.i .u8 0,.i .u8 0,.i .u8 0,.i .u8 0,.i .u8 0,.i .u8 0,.i .u8 0,.i .u8 0,.i .u8 0,.i .u8 0,.i .u8 0,.i .u8 0,.i .u8 0,.i .u8 0,.i .u8 0,.i .u8 0,.i .u8 0,.i .u8 0,.i .u8 0,.i .u8 0,.i .u8 0,.i .u8 0,.i .u8 0,.i .u8 0,.i .u8 0,.i .u8 0,.i .u8 0,.i .u8 0,.i .u8 0,.i .u8 0,.i .u8 0,.i .u8 0,.i .u8 0,.i .u8 0,.i .u8 0],true,false,false⟩
def Zx:AT:=⟨.fn,1,8,.fn0,false,false,false⟩
def Zy:AT:=⟨.fn,1,8,.fn0,false,false,false⟩
def Zz:AT:=⟨.fn,1,8,.fn0,false,false,false⟩
def ZA:AT:=⟨.arr 32 5,32,32,.ag [.i .u8 0,.i .u8 0,.i .u8 0,.i .u8 0,.i .u8 0,.i .u8 0,.i .u8 0,.i .u8 0,.i .u8 0,.i .u8 0,.i .u8 0,.i .u8 0,.i .u8 0,.i .u8 0,.i .u8 0,.i .u8 0,.i .u8 0,.i .u8 0,.i .u8 0,.i .u8 0,.i .u8 0,.i .u8 0,.i .u8 0,.i .u8 0,.i .u8 0,.i .u8 0,.i .u8 0,.i .u8 0,.i .u8 0,.i .u8 0,.i .u8 0,.i .u8 0],true,false,false⟩
def ZB:AT:=⟨.arr 64 5,64,64,.ag [.i .u8 0,.i .u8 0,.i .u8 0,.i .u8 0,.i .u8 0,.i .u8 0,.i .u8 0,.i .u8 0,.i .u8 0,.i .u8 0,.i .u8 0,.i .u8 0,.i .u8 0,.i .u8 0,.i .u8 0,.i .u8 0,.i .u8 0,.i .u8 0,.i .u8 0,.i .u8 0,.i .u8 0,.i .u8 0,.i .u8 0,.i .u8 0,.i .u8 0,.i .u8 0,.i .u8 0,.i .u8 0,.i .u8 0,.i .u8 0,.i .u8 0,.i .u8 0,.i .u8 0,.i .u8 0,.i .u8 0,.i .u8 0,.i .u8 0,.i .u8 0,.i .u8 0,.i .u8 0,.i .u8 0,.i .u8 0,.i .u8 0,.i .u8 0,.i .u8 0,.i .u8 0,.i .u8 0,.i .u8 0,.i .u8 0,.i .u8 0,.i .u8 0,.i .u8 0,.i .u8 0,.i .u8 0,.i .u8 0,.i .u8 0,.i .u8 0,.i .u8 0,.i .u8 0,.i .u8 0,.i .u8 0,.i .u8 0,.i .u8 0,.i .u8 0],true,false,false⟩
def ZC:AT:=⟨.arr 0 16,0,0,.ag [],true,false,false⟩
def ZE:AT:=⟨.int .u8,1,1,.i .u8 0,true,false,false⟩
def ZF:AT:=⟨.int .u8,1,1,.i .u8 0,true,false,false⟩
def ZG:AT:=⟨.fn,1,8,.fn0,false,false,false⟩
def ZH:AT:=⟨.int .i32,1,4,.i .i32 0,true,false,false⟩
def ZI:AT:=⟨.int .i32,1,4,.i .i32 0,true,false,false⟩
def D7:BT:=(.node 113 (.node 58 (.node 31 (.node 15 (.node 6 (.node 3 (.node 1 (.leaf 0 yT0) (.node 2 (.leaf 1 UA) (.leaf 2 yT2))) (.node 4 (.leaf 3 dJ) (.node 5 (.leaf 4 qg) (.leaf 5 yT5)))) (.node 9 (.node 7 (.leaf 6 yT6) (.node 8 (.leaf 7 yT7) (.leaf 8 yT8))) (.node 11 (.node 10 (.leaf 9 dP) (.leaf 10 yT10)) (.node 12 (.leaf 11 yT11) (.leaf 12 yT12))))) (.node 24 (.node 20 (.node 16 (.leaf 15 yT15) (.node 17 (.leaf 16 yT16) (.leaf 17 yT17))) (.node 22 (.node 21 (.leaf 20 yT20) (.leaf 21 yT21)) (.node 23 (.leaf 22 yT22) (.leaf 23 yT23)))) (.node 27 (.node 25 (.leaf 24 yT24) (.node 26 (.leaf 25 yT25) (.leaf 26 yT26))) (.node 29 (.node 28 (.leaf 27 yT27) (.leaf 28 yT28)) (.node 30 (.leaf 29 yT29) (.leaf 30 yT30)))))) (.node 44 (.node 37 (.node 34 (.node 32 (.leaf 31 yT31) (.node 33 (.leaf 32 yT32) (.leaf 33 yT33))) (.node 35 (.leaf 34 yT34) (.node 36 (.leaf 35 yT35) (.leaf 36 yT36)))) (.node 40 (.node 38 (.leaf 37 yT37) (.node 39 (.leaf 38 yT38) (.leaf 39 Qz))) (.node 42 (.node 41 (.leaf 40 yT40) (.leaf 41 yT41)) (.node 43 (.leaf 42 yT42) (.leaf 43 yT43))))) (.node 51 (.node 47 (.node 45 (.leaf 44 aV) (.node 46 (.leaf 45 yT45) (.leaf 46 nJ))) (.node 49 (.node 48 (.leaf 47 yT47) (.leaf 48 yT48)) (.node 50 (.leaf 49 yT49) (.leaf 50 yT50)))) (.node 54 (.node 52 (.leaf 51 lF) (.node 53 (.leaf 52 yT52) (.leaf 53 yT53))) (.node 56 (.node 55 (.leaf 54 yT54) (.leaf 55 yT55)) (.node 57 (.leaf 56 yT56) (.leaf 57 yT57))))))) (.node 85 (.node 71 (.node 64 (.node 61 (.node 59 (.leaf 58 tq) (.node 60 (.leaf 59 yT59) (.leaf 60 yT60))) (.node 62 (.leaf 61 yT61) (.node 63 (.leaf 62 vk) (.leaf 63 yT63)))) (.node 67 (.node 65 (.leaf 64 dD) (.node 66 (.leaf 65 yT65) (.leaf 66 lG))) (.node 69 (.node 68 (.leaf 67 cO) (.leaf 68 yT68)) (.node 70 (.leaf 69 yT69) (.leaf 70 yT70))))) (.node 78 (.node 74 (.node 72 (.leaf 71 dV) (.node 73 (.leaf 72 yT72) (.leaf 73 yT73))) (.node 76 (.node 75 (.leaf 74 yT74) (.leaf 75 QA)) (.node 77 (.leaf 76 yT76) (.leaf 77 yT77)))) (.node 81 (.node 79 (.leaf 78 yT78) (.node 80 (.leaf 79 yT79) (.leaf 80 yT80))) (.node 83 (.node 82 (.leaf 81 yT81) (.leaf 82 yT82)) (.node 84 (.leaf 83 yT83) (.leaf 84 yT84)))))) (.node 99 (.node 92 (.node 88 (.node 86 (.leaf 85 aW) (.node 87 (.leaf 86 MH) (.leaf 87 yT87))) (.node 90 (.node 89 (.leaf 88 yT88) (.leaf 89 yT89)) (.node 91 (.leaf 90 yT90) (.leaf 91 yT91)))) (.node 95 (.node 93 (.leaf 92 yT92) (.node 94 (.leaf 93 yT93) (.leaf 94 yT94))) (.node 97 (.node 96 (.leaf 95 yT95) (.leaf 96 bZ)) (.node 98 (.leaf 97 yT97) (.leaf 98 yT98))))) (.node 106 (.node 102 (.node 100 (.leaf 99 yT99) (.node 101 (.leaf 100 Xw) (.leaf 101 Xx))) (.node 104 (.node 103 (.leaf 102 Xy) (.leaf 103 Xz)) (.node 105 (.leaf 104 XA) (.leaf 105 XC)))) (.node 109 (.node 107 (.leaf 106 XD) (.node 108 (.leaf 107 XE) (.leaf 108 XF))) (.node 111 (.node 110 (.leaf 109 XG) (.leaf 110 XH)) (.node 112 (.leaf 111 XI) (.leaf 112 SV)))))))) (.node 167 (.node 140 (.node 126 (.node 119 (.node 116 (.node 114 (.leaf 113 XJ) (.node 115 (.leaf 114 XL) (.leaf 115 XM))) (.node 117 (.leaf 116 XO) (.node 118 (.leaf 117 XP) (.leaf 118 XQ)))) (.node 122 (.node 120 (.leaf 119 XR) (.node 121 (.leaf 120 XT) (.leaf 121 XU))) (.node 124 (.node 123 (.leaf 122 XV) (.leaf 123 XY)) (.node 125 (.leaf 124 XZ) (.leaf 125 X3))))) (.node 133 (.node 129 (.node 127 (.leaf 126 X_) (.node 128 (.leaf 127 Ya) (.leaf 128 Yb))) (.node 131 (.node 130 (.leaf 129 Yc) (.leaf 130 Yd)) (.node 132 (.leaf 131 Ye) (.leaf 132 Yf)))) (.node 136 (.node 134 (.leaf 133 Yg) (.node 135 (.leaf 134 Yh) (.leaf 135 Yi))) (.node 138 (.node 137 (.leaf 136 Yj) (.leaf 137 Yk)) (.node 139 (.leaf 138 Yl) (.leaf 139 Ym)))))) (.node 153 (.node 146 (.node 143 (.node 141 (.leaf 140 Yn) (.node 142 (.leaf 141 Yo) (.leaf 142 Yp))) (.node 144 (.leaf 143 Yq) (.node 145 (.leaf 144 Yr) (.leaf 145 Yt)))) (.node 149 (.node 147 (.leaf 146 Yu) (.node 148 (.leaf 147 Yv) (.leaf 148 Yw))) (.node 151 (.node 150 (.leaf 149 Yx) (.leaf 150 Yy)) (.node 152 (.leaf 151 Yz) (.leaf 152 YA))))) (.node 160 (.node 156 (.node 154 (.leaf 153 YB) (.node 155 (.leaf 154 YC) (.leaf 155 YD))) (.node 158 (.node 157 (.leaf 156 YE) (.leaf 157 YF)) (.node 159 (.leaf 158 YG) (.leaf 159 YH)))) (.node 163 (.node 161 (.leaf 160 YI) (.node 162 (.leaf 161 YJ) (.leaf 162 YK))) (.node 165 (.node 164 (.leaf 163 YL) (.leaf 164 YM)) (.node 166 (.leaf 165 YN) (.leaf 166 YO))))))) (.node 194 (.node 180 (.node 173 (.node 170 (.node 168 (.leaf 167 YP) (.node 169 (.leaf 168 YQ) (.leaf 169 YR))) (.node 171 (.leaf 170 YS) (.node 172 (.leaf 171 YT) (.leaf 172 YU)))) (.node 176 (.node 174 (.leaf 173 YV) (.node 175 (.leaf 174 YW) (.leaf 175 YX))) (.node 178 (.node 177 (.leaf 176 YZ) (.leaf 177 Y0)) (.node 179 (.leaf 178 Y1) (.leaf 179 Y2))))) (.node 187 (.node 183 (.node 181 (.leaf 180 Y3) (.node 182 (.leaf 181 Y4) (.leaf 182 Y5))) (.node 185 (.node 184 (.leaf 183 Y6) (.leaf 184 Y7)) (.node 186 (.leaf 185 Y8) (.leaf 186 Y9)))) (.node 190 (.node 188 (.leaf 187 Y_) (.node 189 (.leaf 188 Za) (.leaf 189 Zb))) (.node 192 (.node 191 (.leaf 190 Zc) (.leaf 191 Zd)) (.node 193 (.leaf 192 Ze) (.leaf 193 Zf)))))) (.node 208 (.node 201 (.node 197 (.node 195 (.leaf 194 Zg) (.node 196 (.leaf 195 Zh) (.leaf 196 Zi))) (.node 199 (.node 198 (.leaf 197 MI) (.leaf 198 Zj)) (.node 200 (.leaf 199 Zk) (.leaf 200 Zl)))) (.node 204 (.node 202 (.leaf 201 Zm) (.node 203 (.leaf 202 Zn) (.leaf 203 Zo))) (.node 206 (.node 205 (.leaf 204 Zp) (.leaf 205 Zq)) (.node 207 (.leaf 206 Zr) (.leaf 207 Zt))))) (.node 215 (.node 211 (.node 209 (.leaf 208 Zu) (.node 210 (.leaf 209 Zv) (.leaf 210 Zw))) (.node 213 (.node 212 (.leaf 211 Zx) (.leaf 212 Zy)) (.node 214 (.leaf 213 Zz) (.leaf 214 ZA)))) (.node 222 (.node 218 (.leaf 215 ZB) (.node 221 (.leaf 218 ZC) (.leaf 221 ZE))) (.node 224 (.node 223 (.leaf 222 ZF) (.leaf 223 ZG)) (.node 225 (.leaf 224 ZH) (.leaf 225 ZI)))))))))
theorem aC:kR.Ok D7.get Tryz.prog:=BT.ok (by kernel_rfl)
end Go.Abs.YtlkfbfhkcaldlaaGreatDoor
namespace Go.Abs
structure ay (X:Ctx)(f:Nat)(args:List AV)(σ:St)(Q:AV→St→Prop):Prop where
 ev:wM X f args σ Q
structure aS (X:Ctx)(live:List Nat)(c:AC)(e:Env)(σ:St)(Q:Out→Env→St→Prop):Prop where
 ev:EvL X live c e σ Q
def MJ (op:BinOp)(k:IntKind)(a b:Int)(Q:AV→Prop):Prop:=match op with
 | .add=>FW k (a+b) Q
 | .sub=>FW k (a - b) Q
 | .mul=>FW k (a*b) Q
 | .quo=>b≠0∧FW k (a.tdiv b) Q
 | .rem=>b≠0∧Q (.i k (a.tmod b))
 | .eql=>fc (.b (decide (a=b))) Q
 | .neq=>fc (.b (!decide (a=b))) Q
 | .lss=>fc (.b (decide (a<b))) Q
 | .leq=>fc (.b (decide (a≤b))) Q
 | .gtr=>fc (.b (decide (b<a))) Q
 | .geq=>fc (.b (decide (b≤a))) Q
 | op=>om (zq op k a b) Q
theorem MK {op:BinOp} {k:IntKind} {a b:Int} {Q:AV→Prop} (h:MJ op k a b Q):opt (I7 op k a b) Q:=by
 cases op <;> simp only [MJ] at h
 all_goals first
  | (obtain⟨r,rfl,h⟩:=h;exact⟨_,rfl,h⟩)
  | (obtain⟨h1,r,rfl,h⟩:=h;exact⟨_,by simp only [I7];rw [if_neg h1],h⟩)
  | (obtain⟨h1,h⟩:=h;exact⟨_,by simp only [I7];rw [if_neg h1],h⟩)
  | (have h:=fK _ _ h;exact⟨_,rfl,h⟩)
  | exact xI h
def BJ (op:BinOp)(k:IntKind)(a b:Int)(Q:AV→Prop):Prop:=match op with
 | .shl=>0≤b∧FW k (a*2^(min b.toNat k.bits)) Q
 | .shr=>0≤b∧Q (.i k (a.fdiv (2^(min b.toNat k.bits))))
 | _=>False
theorem Ad {op:BinOp} {k:IntKind} {a b:Int} {Q:AV→Prop} (h:BJ op k a b Q):opt (vZ op k a b) Q:=by
 cases op <;> simp only [BJ] at h
 ·obtain⟨h1,r,rfl,h⟩:=h;exact⟨_,by simp only [vZ];rw [if_neg (by omega)],h⟩
 ·obtain⟨h1,h⟩:=h;exact⟨_,by simp only [vZ];rw [if_neg (by omega)],h⟩
def ML (op:BinOp)(a b:List UInt8)(Q:AV→Prop):Prop:=match op with
 | .add=>a.length+b.length≤9223372036854775807∧Q (.s (a ++ b))
 | .eql=>fc (.b (a == b)) Q
 | .neq=>fc (.b (!(a == b))) Q
 | op=>om (jo op a b) Q
theorem MN {op:BinOp} {a b:List UInt8} {Q:AV→Prop} (h:ML op a b Q):opt (jo op a b) Q:=by
 cases op <;> simp only [ML] at h
 all_goals first
  | (obtain⟨h1,h⟩:=h;exact⟨_,by simp only [jo];rw [if_pos h1],h⟩)
  | (have h:=fK _ _ h;exact⟨_,rfl,h⟩)
  | exact xI h
def SX (τ:kR)(t:Nat)(x y:AV)(n:Bool)(Q:AV→Prop):Prop:=om (Xv τ 20 t x y) fun r=>fc (.b (bif n then !r else r)) Q
def UC (τ:kR)(op:BinOp)(t:Nat)(x y:AV)(c:Bool)(Q:AV→Prop):Prop:=match op,x,y with
 | .shl,.i k a,.i _ b=>BJ .shl k a b Q
 | .shr,.i k a,.i _ b=>BJ .shr k a b Q
 | op,.i k a,.i k' b=>cB (decide (k=k')) (MJ op k a b Q) False
 | op,.s a,.s b=>ML op a b Q
 | .eql,.eu,.eu=>cB c (SX τ t .eu .eu false Q) False
 | .neq,.eu,.eu=>cB c (SX τ t .eu .eu true Q) False
 | .eql,.ag xs,.ag ys=>om (τ t) fun T=>cB T.guarded False (SX τ t (.ag xs) (.ag ys) false Q)
 | .neq,.ag xs,.ag ys=>om (τ t) fun T=>cB T.guarded False (SX τ t (.ag xs) (.ag ys) true Q)
 | .eql,x,y=>SX τ t x y false Q
 | .neq,x,y=>SX τ t x y true Q
 | _,_,_=>False
theorem iQ {t:Bool} {A:Prop} (h:cB t A False):t=true∧A:=by cases t;exact h.elim;exact⟨rfl,h⟩
theorem ZJ {t:Bool} {A:Prop} (h:cB t False A):t=false∧A:=by cases t;exact⟨rfl,h⟩;exact h.elim
theorem aX {α:Type} {o:Option α} {Q:α→Prop} (h:om o Q):∃a,o=some a∧Q a:=xI h
theorem FX {τ:kR} {P:Program} (dM:τ.Ok P) {t:Nat} {x y:AV} {Q:AV→Prop} (h:SX τ t x y false Q):opt ((uq P 20 t x y).map .b) Q:=by
 obtain⟨b,hb,h⟩:=aX h
 exact⟨_,by rw [BI dM _ _ _ _ _ hb];rfl,fK _ _ h⟩
theorem FY {τ:kR} {P:Program} (dM:τ.Ok P) {t:Nat} {x y:AV} {Q:AV→Prop} (h:SX τ t x y true Q):opt ((uq P 20 t x y).map fun r=>.b !r) Q:=by
 obtain⟨b,hb,h⟩:=aX h
 exact⟨_,by rw [BI dM _ _ _ _ _ hb];rfl,fK _ _ h⟩
theorem QB {τ:kR} {P:Program} (dM:τ.Ok P) {op:BinOp} {t:Nat} {x y:AV} {c:Bool} {Q:AV→Prop} (h:UC τ op t x y c Q):opt (lM P op t x y c) Q:=by
 unfold UC at h
 split at h
 ·exact Ad h
 ·exact Ad h
 ·rename_i op k a k' b h1 h2
  obtain⟨hk,h⟩:=iQ h
  have hk:=of_decide_eq_true hk
  have:=MK h
  subst hk
  cases op
  all_goals first
   | exact(h1 rfl).elim
   | exact(h2 rfl).elim
   | (simp only [lM,if_true];exact this)
 ·have:=MN h
  have e:∀o a b,lM P o t (.s a) (.s b) c=jo o a b:=by intro o a b;unfold lM;cases o <;> rfl
  rw [e];exact this
 ·obtain⟨rfl,h⟩:=iQ h
  have:=FX dM h
  simpa [lM] using this
 ·obtain⟨rfl,h⟩:=iQ h
  have:=FY dM h
  simpa [lM] using this
 ·obtain⟨T,hT,h⟩:=aX h
  obtain⟨hg,h⟩:=ZJ h
  have:=FX dM h
  simpa [lM,dM _ _ hT,hg] using this
 ·obtain⟨T,hT,h⟩:=aX h
  obtain⟨hg,h⟩:=ZJ h
  have:=FY dM h
  simpa [lM,dM _ _ hT,hg] using this
 ·rename_i x y h1 h2 h3 h4
  have:=FX dM h
  unfold lM
  split
  all_goals first
   | exact this
   | (exfalso;exact h1 _ _ _ _ rfl rfl)
   | (exfalso;exact h1 _ _ _ _ rfl rfl rfl)
   | (exfalso;exact h2 _ _ rfl rfl)
   | (exfalso;exact h3 rfl rfl)
   | (exfalso;exact h4 _ _ rfl rfl)
   | (exfalso;simp_all;done)
   | simp_all
 ·rename_i x y h1 h2 h3 h4
  have:=FY dM h
  unfold lM
  split
  all_goals first
   | exact this
   | (exfalso;exact h1 _ _ _ _ rfl rfl)
   | (exfalso;exact h1 _ _ _ _ rfl rfl rfl)
   | (exfalso;exact h2 _ _ rfl rfl)
   | (exfalso;exact h3 rfl rfl)
   | (exfalso;exact h4 _ _ rfl rfl)
   | (exfalso;simp_all;done)
   | simp_all
 ·exact h.elim
def MO (τ:kR)(e:Nat):Bool:=match τ e with
 | some ⟨.int .u8,_,_,_,_,_,_⟩=>true
 | _=>false
theorem BK {τ:kR} {P:Program} (dM:τ.Ok P) {e:Nat} (h:MO τ e=true):∃a b c d f g,aG P e=some ⟨.int .u8,a,b,c,d,f,g⟩:=by
 unfold MO at h
 split at h
 ·rename_i a b c d f g he;exact⟨_,_,_,_,_,_,dM _ _ he⟩
 ·cases h
def Jp (n:Nat)(lo hi:Option AV)(K:Nat→Nat→Prop):Prop:=match lo,hi with
 | none,none=>K 0 n
 | some (.i _ i),none=>∃a:Nat,i=a∧a≤n∧K a n
 | none,some (.i _ j)=>∃b:Nat,j=b∧b≤n∧K 0 b
 | some (.i _ i),some (.i _ j)=>∃a b:Nat,i=a∧j=b∧a≤b∧b≤n∧K a b
 | _,_=>False
theorem BL {n:Nat} {lo hi:Option AV} {K:Nat→Nat→Prop} (h:Jp n lo hi K):∃a b,gG n n lo hi=some (a,b)∧a≤b∧b≤n∧K a b:=by
 unfold Jp at h
 split at h
 ·exact⟨0,n,by simp [gG,TI,TJ],Nat.zero_le _,Nat.le_refl _,h⟩
 ·obtain⟨a,rfl,h1,h⟩:=h
  refine⟨a,n,?_,h1,Nat.le_refl _,h⟩
  simp only [gG,TI,TJ,Option.bind_some];rw [if_pos (by omega)];simp
 ·obtain⟨b,rfl,h1,h⟩:=h
  refine⟨0,b,?_,Nat.zero_le _,h1,h⟩
  simp only [gG,TI];rw [if_pos (by omega)];simp [TJ]
 ·obtain⟨a,b,rfl,rfl,h1,h2,h⟩:=h
  refine⟨a,b,?_,h1,h2,h⟩
  simp only [gG,TI];rw [if_pos (by omega)];simp only [Option.bind_some,TJ];rw [if_pos (by omega)];simp
 ·exact h.elim
def MP (x:List UInt8)(lo hi:Option AV)(Q:AV→Prop):Prop:=match lo,hi with
 | none,none=>Q (.s x)
 | some (.i _ i),none=>∃a:Nat,i=a∧a≤x.length∧Q (.s (x.drop a))
 | none,some (.i _ j)=>∃b:Nat,j=b∧b≤x.length∧Q (.s (x.take b))
 | some (.i _ i),some (.i _ j)=>∃a b:Nat,i=a∧j=b∧a≤b∧b≤x.length∧Q (.s ((x.drop a).take (b - a)))
 | _,_=>False
theorem MQ {x:List UInt8} {lo hi:Option AV} {Q:AV→Prop} (h:MP x lo hi Q):opt ((gG x.length x.length lo hi).map fun r=>AV.s ((x.drop r.1).take (r.2 - r.1))) Q:=by
 have key:Jp x.length lo hi fun a b=>Q (.s ((x.drop a).take (b - a))):=by
  unfold MP at h
  unfold Jp
  split at h
  ·simpa using h
  ·obtain⟨a,h1,h2,h⟩:=h
   refine⟨a,h1,h2,?_⟩
   simp only
   rw [List.take_of_length_le (by simp)];exact h
  ·simpa using h
  ·exact h
  ·exact h.elim
 obtain⟨a,b,h1,_,_,h⟩:=BL key
 exact⟨_,by rw [h1];rfl,h⟩
def ZK (τ:kR)(t:Nat)(x:AV)(lo hi:Option AV)(σ:St)(Q:AV→Prop):Prop:=
 om (τ t) fun T=>match T.d,x with
 | .str,.s x=>MP x lo hi Q
 | .slice e,.sl0=>cB (Nat.blt 0 (Io τ e)) (om (gG 0 0 lo hi) fun _=>Q .sl0) False
 | .slice e,.sl o g off n z=>cB (Nat.beq (Io τ e) z && Nat.blt 0 z) (Jp n lo hi fun a b=>Q (.sl o g (off+a*z) (b - a) z)) False
 | .arr n e,.p o g off=>cB (Nat.blt 0 (Io τ e)) (om (bU σ o g) fun cs=>cB (Nat.ble (off+n*Io τ e) cs.length) (Jp n lo hi fun a b=>Q (.sl o g (off+a*Io τ e) (b - a) (Io τ e))) False) False
 | _,_=>False
theorem iR {a b:Nat} (h:Nat.blt a b=true):a<b:=by unfold Nat.blt at h;exact Nat.le_of_ble_eq_true h
theorem QC {τ:kR} {P:Program} (dM:τ.Ok P) {t:Nat} {x:AV} {lo hi:Option AV} {σ:St} {Q:AV→Prop} (h:ZK τ t x lo hi σ Q):opt (KA P t x lo hi σ) Q:=by
 obtain⟨⟨d,s,b,z,c,hd,g⟩,hT,h⟩:=aX h
 unfold KA
 rw [dM _ _ hT]
 simp only at h ⊢
 split at h
 ·exact MQ h
 ·obtain⟨h1,h⟩:=iQ h
  obtain⟨r,h2,h⟩:=aX h
  have h1:=iR h1
  simp only
  rw [if_pos (by rw [qc dM h1];exact h1),h2]
  exact⟨_,rfl,h⟩
 ·obtain⟨h1,h⟩:=iQ h
  rw [Bool.and_eq_true] at h1
  have h2:=Nat.eq_of_beq_eq_true h1.1
  have h3:=iR h1.2
  obtain⟨a,b,h4,_,_,h⟩:=BL h
  simp only
  rw [if_pos ⟨by rw [qc dM (by omega)];exact h2,h3⟩,h4]
  exact⟨_,rfl,h⟩
 ·obtain⟨h1,h⟩:=iQ h
  obtain⟨cs,h2,h⟩:=aX h
  obtain⟨h3,h⟩:=iQ h
  have h1:=iR h1
  have h3:=Nat.le_of_ble_eq_true h3
  obtain⟨a,b,h4,_,_,h⟩:=BL h
  have hz:=qc dM h1
  simp only
  rw [hz,if_pos h1,h2,Option.bind_some,if_pos h3,h4]
  exact⟨_,rfl,h⟩
 ·exact h.elim
def ZL (τ:kR)(t:Nat)(x i:AV)(Q:AV→Prop):Prop:=om (τ t) fun T=>match T.d,x,i with
 | .arr n e,.p o g off,.i _ j=>cB (Nat.blt 0 (Io τ e)) (∃m:Nat,j=m∧m<n∧Q (.p o g (off+m*Io τ e))) False
 | .slice e,.sl o g off n z,.i _ j=>cB (Nat.beq (Io τ e) z && Nat.blt 0 z) (∃m:Nat,j=m∧m<n∧Q (.p o g (off+m*z))) False
 | _,_,_=>False
theorem QD {τ:kR} {P:Program} (dM:τ.Ok P) {t:Nat} {x i:AV} {Q:AV→Prop} (h:ZL τ t x i Q):opt (KF P t x i) Q:=by
 obtain⟨⟨d,s,b,z,c,hd,g⟩,hT,h⟩:=aX h
 unfold KF
 rw [dM _ _ hT]
 simp only at h
 split at h
 ·obtain⟨h1,h⟩:=iQ h
  obtain⟨m,rfl,h2,h⟩:=h
  have h1:=iR h1
  have hz:=qc dM h1
  simp only
  rw [hz,if_pos ⟨h1,by omega,by omega⟩]
  exact⟨_,rfl,by simpa using h⟩
 ·obtain⟨h1,h⟩:=iQ h
  obtain⟨m,rfl,h2,h⟩:=h
  rw [Bool.and_eq_true] at h1
  have h3:=Nat.eq_of_beq_eq_true h1.1
  have h4:=iR h1.2
  simp only
  rw [if_pos ⟨by rw [qc dM (by omega)];exact h3,h4,by omega,by omega⟩]
  exact⟨_,rfl,by simpa using h⟩
 ·exact h.elim
def ZM (τ:kR)(t:Nat)(x i:AV)(Q:AV→Prop):Prop:=om (τ t) fun T=>match T.d,x,i with
 | .arr n e,.ag cs,.i _ j=>∃m:Nat,j=m∧m<n∧om (τ e) fun E=>om (partOf E cs (m*E.size)) fun v=>fc v Q
 | .str,.s x,.i _ j=>∃(m:Nat) (c:UInt8),j=m∧x[m]? =some c∧Q (.i .u8 c.toNat)
 | _,_,_=>False
theorem QE {τ:kR} {P:Program} (dM:τ.Ok P) {t:Nat} {x i:AV} {Q:AV→Prop} (h:ZM τ t x i Q):opt (KG P t x i) Q:=by
 obtain⟨⟨d,s,b,z,c,hd,g⟩,hT,h⟩:=aX h
 unfold KG
 rw [dM _ _ hT]
 simp only at h
 split at h
 ·obtain⟨m,rfl,h2,h⟩:=h
  obtain⟨E,hE,h⟩:=aX h
  obtain⟨v,hv,h⟩:=aX h
  simp only
  rw [if_pos ⟨by omega,by omega⟩,dM _ _ hE]
  exact⟨v,by simpa using hv,fK _ _ h⟩
 ·obtain⟨m,c,rfl,h2,h⟩:=h
  simp only
  rw [if_pos (by omega)]
  exact⟨_,by rw [Int.toNat_natCast,h2];rfl,h⟩
 ·exact h.elim
def ZN (τ:kR)(t:Nat)(x:AV)(Q:AV→Prop):Prop:=om (τ t) fun T=>match T.d,x with
 | .str,.s x=>Q (.i .i64 x.length)
 | .arr n _,_=>Q (.i .i64 n)
 | .slice _,.sl0=>Q (.i .i64 0)
 | .slice _,.sl _ _ _ n _=>Q (.i .i64 n)
 | _,_=>False
theorem QF {τ:kR} {P:Program} (dM:τ.Ok P) {t:Nat} {x:AV} {Q:AV→Prop} (h:ZN τ t x Q):opt (I8 P t x) Q:=by
 obtain⟨⟨d,s,b,z,c,hd,g⟩,hT,h⟩:=aX h
 unfold I8
 rw [dM _ _ hT]
 simp only at h
 split at h
 all_goals first
  | exact h.elim
  | exact⟨_,rfl,h⟩
def ZO (τ:kR)(t:Nat)(x:AV)(f:Nat)(Q:AV→Prop):Prop:=om (τ t) fun T=>match T.d,x with
 | .st fs,.p o g off=>om fs[f]? fun r=>cB (Nat.blt 0 (Io τ r.2.1)) (Q (.p o g (off+r.1))) False
 | _,_=>False
theorem QG {τ:kR} {P:Program} (dM:τ.Ok P) {t:Nat} {x:AV} {f:Nat} {Q:AV→Prop} (h:ZO τ t x f Q):opt (KD P t x f) Q:=by
 obtain⟨⟨d,s,b,z,c,hd,g⟩,hT,h⟩:=aX h
 unfold KD
 rw [dM _ _ hT]
 simp only at h
 split at h
 ·obtain⟨r,hr,h⟩:=aX h
  obtain⟨h1,h⟩:=iQ h
  have h1:=iR h1
  simp only
  rw [hr,Option.bind_some,if_pos (by rw [qc dM h1];exact h1)]
  exact⟨_,rfl,h⟩
 ·exact h.elim
def ZP (τ:kR)(t:Nat)(x:AV)(f:Nat)(Q:AV→Prop):Prop:=om (τ t) fun T=>match T.d,x with
 | .st fs,.ag cs=>om fs[f]? fun r=>om (τ r.2.1) fun F=>om (partOf F cs r.1) fun v=>fc v Q
 | _,_=>False
theorem QH {τ:kR} {P:Program} (dM:τ.Ok P) {t:Nat} {x:AV} {f:Nat} {Q:AV→Prop} (h:ZP τ t x f Q):opt (KE P t x f) Q:=by
 obtain⟨⟨d,s,b,z,c,hd,g⟩,hT,h⟩:=aX h
 unfold KE
 rw [dM _ _ hT]
 simp only at h
 split at h
 ·obtain⟨r,hr,h⟩:=aX h
  obtain⟨F,hF,h⟩:=aX h
  obtain⟨v,hv,h⟩:=aX h
  simp only
  rw [hr,Option.bind_some,dM _ _ hF]
  exact⟨v,hv,fK _ _ h⟩
 ·exact h.elim
def allT (τ:kR):List (Nat×Nat×Bool)→Bool
 | []=>true
 | f :: fs=>match τ f.2.1 with
   | some _=>allT τ fs
   | none=>false
theorem Ip {τ:kR} {P:Program} (dM:τ.Ok P):∀fs,allT τ fs=true→fs.all (fun f=>(aG P f.2.1).isSome)=true
 | [],_=>rfl
 | f :: fs,h=>by
   simp only [allT] at h
   split at h
   ·rename_i T hT;simp only [List.all_cons,dM _ _ hT,Option.isSome_some,Bool.true_and];exact Ip dM fs h
   ·cases h
theorem D8 {p q:Nat→Option (Nat×Nat)} (hp:∀i r,p i=some r→q i=some r):∀(l:List (Nat×AV)) (cells r:List AV),jB p cells l=some r→jB q cells l=some r
 | [],_,_,h=>h
 | (i,v) :: l,cells,r,h=>by
   simp only [jB] at h ⊢
   split at h
   ·cases h
   ·rename_i off size he
    rw [hp _ _ he]
    simp only
    split at h
    ·rename_i hc;rw [if_pos hc];exact D8 hp l _ r h
    ·cases h
def MS (τ:kR)(t:Nat)(ps:List (Nat×AV))(Q:AV→Prop):Prop:=om (τ t) fun T=>match T.d with
 | .st fs=>cB (allT τ fs) (om (jB (fun i=>(fs[i]?).bind fun f=>(τ f.2.1).map fun F=>(f.1,F.size)) T.zero.cells ps) fun cs=>BH cs fun cs=>Q (.ag cs)) False
 | .arr _ e=>om (τ e) fun E=>om (jB (fun i=>some (i*E.size,E.size)) T.zero.cells ps) fun cs=>BH cs fun cs=>Q (.ag cs)
 | _=>False
theorem Jq {τ:kR} {P:Program} (dM:τ.Ok P) {t:Nat} {ps:List (Nat×AV)} {Q:AV→Prop} (h:MS τ t ps Q):opt (vX P t ps) Q:=by
 obtain⟨⟨d,s,b,z,c,hd,g⟩,hT,h⟩:=aX h
 unfold vX
 rw [dM _ _ hT]
 simp only at h ⊢
 split at h
 ·rename_i fs
  obtain⟨h1,h⟩:=iQ h
  obtain⟨cs,h2,h⟩:=aX h
  simp only
  rw [if_pos (Ip dM fs h1)]
  have h3:=D8 (q:=fun i=>(fs[i]?).bind fun f=>(aG P f.2.1).map fun F=>(f.1,F.size)) (fun i r hi=>by
   rw [Option.bind_eq_some_iff] at hi ⊢
   obtain⟨f,hf,hi⟩:=hi
   rw [Option.map_eq_some_iff] at hi
   obtain⟨F,hF,rfl⟩:=hi
   exact⟨f,hf,by rw [dM _ _ hF];rfl⟩) _ _ _ h2
  rw [h3]
  exact⟨_,rfl,jT _ _ h⟩
 ·obtain⟨E,hE,h⟩:=aX h
  obtain⟨cs,h2,h⟩:=aX h
  simp only
  rw [dM _ _ hE]
  simp only
  rw [h2]
  exact⟨_,rfl,jT _ _ h⟩
 ·exact h.elim
end Go.Abs
namespace Go.Abs
section
variable (τ:kR)(lit:Bool)
def wUn (op:UnOp)(x:AV)(Q:AV→Prop):Prop:=match op,x with
 | .neg,.i k n=>FW k (0 - n) Q
 | .xor,.i k n=>om (zq .xor k (if k.signed then -1 else k.max) n) Q
 | .not,.b p=>fc (.b !p) Q
 | _,_=>False
def SY (s d:Nat)(x:AV)(σ:St)(Q:AV→St→Prop):Prop:=om (τ s) fun S=>om (τ d) fun D=>match S.d,D.d,x with
 | _,.int k,.i _ n=>FW k n fun v=>Q v σ
 | _,.str,.i _ n=>Q (.s (Utf8.encode n).data.toList) σ
 | .str,.str,.s x=>Q (.s x) σ
 | .str,.slice e,.s x=>cB (MO τ e) (D6 lit σ fun m=>FV lit (au e (x.map fun b=>.i .u8 b.toNat) σ) fun σ'=>Q (.sl m 0 0 x.length 1) σ') False
 | .slice e,.str,.sl0=>cB (MO τ e) (Q (.s []) σ) False
 | .slice e,.str,.sl o g off n z=>cB (MO τ e && Nat.beq z 1) (om (bU σ o g) fun cs=>∃b,off+n≤cs.length∧bytesOf ((cs.drop off).take n)=some b∧Q (.s b) σ) False
 | _,_,_=>False
def ZQ (t len:Nat)(ps:List (Nat×AV))(σ:St)(Q:AV→St→Prop):Prop:=om (τ t) fun T=>match T.d with
 | .slice e=>om (τ e) fun E=>cB (Nat.blt 0 E.size && Nat.beq E.zero.cells.length E.size && Nat.ble (len*E.size) 16777216)
  (om (jB (fun i=>some (i*E.size,E.size)) (vY E.zero.cells len) ps) fun cs=>BH cs fun cs=>D6 lit σ fun m=>FV lit (au e cs σ) fun σ'=>Q (.sl m 0 0 len E.size) σ') False
 | _=>False
def ZR (t:Nat)(l c:AV)(σ:St)(Q:AV→St→Prop):Prop:=om (τ t) fun T=>match T.d,l,c with
 | .slice e,.i _ l,.i _ c=>om (τ e) fun E=>cB (Nat.blt 0 E.size && Nat.beq E.zero.cells.length E.size)
  (∃l' c':Nat,l=l'∧c=c'∧l'≤c'∧c'≤9223372036854775807∧E.bytes*c'≤140737488355328∧D6 lit σ fun m=>FV lit (au e (vY E.zero.cells c') σ) fun σ'=>Q (.sl m 0 0 l' E.size) σ') False
 | _,_,_=>False
def ZT (t:Nat)(x:AV)(σ:St)(Q:AV→St→Prop):Prop:=om (τ t) fun T=>match T.d,x with
 | .str,.s x=>D6 lit σ fun m=>FV lit (σ ++ [⟨0,false,.iter x 0⟩]) fun σ'=>Q (.p m 0 0) σ'
 | _,_=>False
def iterAt (σ:St)(o g:Nat):Option (List UInt8×Nat):=match σ[o]? with
 | some ⟨g',ro,.iter s pos⟩=>bif Nat.beq g g' && !ro then some (s,pos) else none
 | _=>none
def UD (x:AV)(σ:St)(Q:AV→St→Prop):Prop:=match x with
 | .p o g off=>cB (Nat.beq off 0) (om (iterAt σ o g) fun r=>
  cB (decide (r.2<r.1.length)) (FV lit (σ.set o ⟨g,false,.iter r.1 (r.2+(Utf8.decode ⟨r.1.toArray⟩ r.2).2)⟩) fun σ'=>Q (.tu [.b true,.i .i64 r.2,.i .i32 (Utf8.decode ⟨r.1.toArray⟩ r.2).1]) σ') (Q (.tu [.b false]) σ)) False
 | _=>False
def D9 (σ:St)(o g e:Nat):Option (List AV):=match σ[o]? with
 | some ⟨g',ro,.cells e' cs⟩=>bif Nat.beq g g' && !ro && Nat.beq e' e then some cs else none
 | _=>none
theorem MV {σ:St} {o g e:Nat} {cs:List AV} (h:D9 σ o g e=some cs):σ[o]? =some ⟨g,false,.cells e cs⟩:=by
 unfold D9 at h
 split at h
 ·rename_i g' ro e' cs' ho
  cases hb:(Nat.beq g g' && !ro && Nat.beq e' e) with
  | false=>rw [hb] at h;cases h
  | true=>
    rw [hb] at h
    cases h
    simp only [Bool.and_eq_true,Bool.not_eq_true'] at hb
    rw [ho,Nat.eq_of_beq_eq_true hb.1.1,Nat.eq_of_beq_eq_true hb.2,hb.1.2]
 ·cases h
def Iq:AD→Bool
 | .yM _=>true
 | _=>false
def ZU (t:Nat)(x y:AV)(σ:St)(Q:AV→St→Prop):Prop:=om (τ t) fun T=>match T.d with
 | .slice e=>om (τ e) fun E=>cB (Nat.blt 0 E.size && Nat.beq E.zero.cells.length E.size && Nat.blt 0 E.bytes)
  (om (eU E.size y σ) fun src=>cB (Nat.beq src.1 0) (match x with | .sl0=>Q .sl0 σ | .sl o g off n z=>Q (.sl o g off n z) σ | _=>False)
        (cB (src.2.all AV.one)
         (match x with
         | .sl0=>src.1*E.bytes≤140737488355328∧BH src.2 fun l=>D6 lit σ fun m=>FV lit (au e l σ) fun σ'=>Q (.sl m 0 0 src.1 E.size) σ'
         | .sl o g off n z=>om (D9 σ o g e) fun cs=>z=E.size∧off+n*z≤cs.length∧(n+src.1)*E.bytes≤140737488355328∧((cs.drop off).take (n*z)).all AV.one=true∧
          FV lit (σ.set o ⟨g+1,false,.cells e (((cs.drop off).take (n*z)) ++ src.2)⟩) fun σ'=>Q (.sl o (g+1) 0 (n+src.1) z) σ'
         | _=>False) False)) False
 | _=>False
structure UE (P:Program)(t I:Nat)(Q:Bool→Prop):Prop where
 ev:om (hasAll P t I) Q
theorem UE.of {P:Program} {t I:Nat} {b:Bool} {Q:Bool→Prop} (h:hasAll P t I=some b)(q:Q b):UE P t I Q:=⟨by rw [h];exact q⟩
def ZV (P:Program)(x:AV)(t:Nat)(ok:Bool)(Q:AV→Prop):Prop:=om (τ t) fun T=>cB (Iq T.d) (match x with
 | .eu=>cB ok (Q (.tu [T.zero,.b false])) False
 | .ic t' v=>UE P t' t fun b=>cB b (cB ok (Q (.tu [.ic t' v,.b true])) (Q (.ic t' v))) (cB ok (Q (.tu [T.zero,.b false])) False)
 | _=>False) (match x with
 | .eu=>cB ok (Q (.tu [T.zero,.b false])) False
 | .ic t' v=>cB (Nat.beq t' t) (cB ok (Q (.tu [v,.b true])) (fc v Q)) (cB ok (Q (.tu [T.zero,.b false])) False)
 | _=>False)
end
structure xM (τ:kR)(lit:Bool)(t:Nat)(x y:AV)(σ:St)(Q:AV→St→Prop):Prop where
 ev:ZU τ lit t x y σ Q
def Jr (X:Ctx)(τ:kR)(lit:Bool)(ρ:cZ→AV)(op:dH)(σ:St)(Q:AV→St→Prop):Prop:=match op with
 | .mv x=>fc (ρ x) fun v=>Q v σ
 | .pick c a b=>match ρ c with
   | .b t=>cB t (cB (ρ a).cnd (fc (ρ a).val fun v=>Q v σ) False) (cB (ρ b).cnd (fc (ρ b).val fun v=>Q v σ) False)
   | _=>False
 | .alloc t=>om (τ t) fun T=>D6 lit σ fun m=>FV lit (au t T.zero.cells σ) fun σ'=>Q (.p m 0 0) σ'
 | .box t x=>fq (ρ x) fun v=>match v with
   | .u=>False
   | .tu _=>False
   | .cd _ _=>False
   | v=>D6 lit σ fun m=>FV lit (au t v.cells σ) fun σ'=>Q (.p m 0 0) σ'
 | .build t ps=>MS τ t (ps.map fun q=>(q.1,ρ q.2)) fun v=>Q v σ
 | .gJ t n ps=>ZQ τ lit t n (ps.map fun q=>(q.1,ρ q.2)) σ Q
 | .load t x=>om (kL (τ t) (ρ x) σ) fun v=>fc v fun v=>Q v σ
 | .store t x y=>om (jm (τ t) (ρ x) (ρ y) σ) fun σ'=>FV lit σ' fun σ'=>Q (.tu []) σ'
 | .bD x=>om (KN (ρ x)) fun v=>Q v σ
 | .bin op t x y=>UC τ op t (ρ x) (ρ y) (x.isC || y.isC) fun v=>Q v σ
 | .un op x=>wUn op (ρ x) fun v=>Q v σ
 | .conv s d x=>SY τ lit s d (ρ x) σ Q
 | .OV t x=>om (τ t) fun T=>match T.d with
   | .yM _=>False
   | _=>fc (ρ x) fun v=>Q (.ic t v) σ
 | .CW f a c=>BH (a.map ρ) fun a=>BH (c.map ρ) fun c=>Q (.fn f a c) σ
 | .VL t l c=>ZR τ lit t (ρ l) (ρ c) σ Q
 | .slc t x l h=>ZK τ t (ρ x) (l.map ρ) (h.map ρ) σ fun v=>Q v σ
 | .fQ t x f=>ZO τ t (ρ x) f fun v=>Q v σ
 | .Ky t x f=>ZP τ t (ρ x) f fun v=>Q v σ
 | .nZ t x i=>ZL τ t (ρ x) (ρ i) fun v=>Q v σ
 | .idx t x i=>ZM τ t (ρ x) (ρ i) fun v=>Q v σ
 | .rng t x=>ZT τ lit t (ρ x) σ Q
 | .TA x=>UD lit (ρ x) σ Q
 | .TB x _ t ok=>ZV τ X.P (ρ x) t ok fun v=>Q v σ
 | .ext x i=>match ρ x with
   | .tu vs=>om vs[i]? fun v=>fc v fun v=>Q v σ
   | _=>False
 | .call f args=>match ρ f with
   | .fn f first cap=>match f with
     | .func k=>BH (first ++ args.map ρ ++ cap) fun l=>ay X k l σ fun v σ'=>fc v fun v=>Q v σ'
     | _=>False
   | _=>False
 | .inv x m args=>match ρ x with
   | .ic t v=>match X.meth t m v with
     | some k=>BH (k.2 :: args.map ρ) fun l=>ay X k.1 l σ fun v σ'=>fc v fun v=>Q v σ'
     | none=>False
   | _=>False
 | .len t x=>ZN τ t (ρ x) fun v=>Q v σ
 | .app t _ x y=>fq (ρ x) fun x=>fq (ρ y) fun y=>xM τ lit t x y σ Q
 | .copy t x y=>om (Hl X.P t (ρ x) (ρ y) σ) fun r=>FV lit r.2 fun σ'=>Q r.1 σ'
 | .mn mx xs=>om (Wl mx (xs.map ρ)) fun v=>fc v fun v=>Q v σ
 | .Sv t r=>om (O6 X.P t (r.map ρ) σ) fun r=>FV lit r.2 fun σ'=>Q r.1 σ'
 | .O3 t x k ok=>om (Fj X.P t (ρ x) (ρ k) ok σ) fun v=>fc v fun v=>Q v σ
 | .uo t m k v=>om (CY X.P t (ρ m) (ρ k) (ρ v) σ) fun σ'=>FV lit σ' fun σ'=>Q (.tu []) σ'
 | .del t m k=>om (O5 X.P t (ρ m) (ρ k) σ) fun σ'=>FV lit σ' fun σ'=>Q (.tu []) σ'
 | .TD t x=>om (O7 X.P t (ρ x) σ) fun v=>fc v fun v=>Q v σ
 | .sl3 t x l h m=>om (O4 X.P t (ρ x) (l.map ρ) (ρ h) (ρ m)) fun v=>fc v fun v=>Q v σ
 | .Wi _=>False
section
variable {X:Ctx} {τ:kR} (dM:τ.Ok X.P) {lit:Bool} {σ:St} {Q:AV→St→Prop}
theorem UF {op:UnOp} {x:AV} {Q:AV→Prop} (h:wUn op x Q):opt (Wj op x) Q:=by
 unfold wUn at h
 split at h
 ·obtain⟨r,rfl,h⟩:=h;exact⟨_,rfl,h⟩
 ·exact xI h
 ·exact⟨_,rfl,fK _ _ h⟩
 ·exact h.elim
include dM
theorem MW {s d:Nat} {x:AV} (h:SY τ lit s d x σ Q):opt (CX X.P s d x σ) fun r=>Q r.1 r.2:=by
 obtain⟨⟨d1,s1,b1,z1,c1,hd1,g1⟩,hS,h⟩:=aX h
 obtain⟨⟨d2,s2,b2,z2,c2,hd2,g2⟩,hD,h⟩:=aX h
 unfold CX
 rw [dM _ _ hS,dM _ _ hD]
 simp only at h ⊢
 split at h
 ·obtain⟨r,rfl,h⟩:=h;exact⟨_,rfl,h⟩
 ·exact⟨_,rfl,h⟩
 ·exact⟨_,rfl,h⟩
 ·obtain⟨h1,h⟩:=iQ h
  obtain⟨a,b,c,d,f,g,he⟩:=BK dM h1
  simp only [he]
  exact⟨_,rfl,iH _ _ _ (lZ _ _ _ h)⟩
 ·obtain⟨h1,h⟩:=iQ h
  obtain⟨a,b,c,d,f,g,he⟩:=BK dM h1
  simp only [he]
  exact⟨_,rfl,h⟩
 ·obtain⟨h1,h⟩:=iQ h
  rw [Bool.and_eq_true] at h1
  have hz:=Nat.eq_of_beq_eq_true h1.2
  obtain⟨a,b,c,d,f,g,he⟩:=BK dM h1.1
  obtain⟨cs,hc,b',h2,h3,h⟩:=aX h
  simp only [he]
  rw [if_pos hz,hc,Option.bind_some,if_pos h2,h3]
  exact⟨_,rfl,h⟩
 ·exact h.elim
theorem QJ {t n:Nat} {ps:List (Nat×AV)} (h:ZQ τ lit t n ps σ Q):opt (Kz X.P t n ps σ) fun r=>Q r.1 r.2:=by
 obtain⟨⟨d1,s1,b1,z1,c1,hd1,g1⟩,hT,h⟩:=aX h
 unfold Kz
 simp only at h
 split at h
 ·rw [dM _ _ hT]
  obtain⟨E,hE,h⟩:=aX h
  obtain⟨h1,h⟩:=iQ h
  rw [Bool.and_eq_true,Bool.and_eq_true] at h1
  obtain⟨cs,hc,h⟩:=aX h
  simp only [dM _ _ hE]
  rw [if_pos ⟨iR h1.1.1,Nat.eq_of_beq_eq_true h1.1.2,Nat.le_of_ble_eq_true h1.2⟩,hc]
  exact⟨_,rfl,iH _ _ _ (lZ _ _ _ (jT _ _ h))⟩
 ·exact h.elim
theorem QK {t:Nat} {l c:AV} (h:ZR τ lit t l c σ Q):opt (KI X.P t l c σ) fun r=>Q r.1 r.2:=by
 obtain⟨⟨d1,s1,b1,z1,c1,hd1,g1⟩,hT,h⟩:=aX h
 unfold KI
 rw [dM _ _ hT]
 simp only at h
 split at h
 ·obtain⟨E,hE,h⟩:=aX h
  obtain⟨h1,h⟩:=iQ h
  rw [Bool.and_eq_true] at h1
  obtain⟨l',c',rfl,rfl,h2,h3,h4,h⟩:=h
  simp only [dM _ _ hE]
  rw [if_pos ⟨iR h1.1,Nat.eq_of_beq_eq_true h1.2,by omega,by omega,by omega,by omega⟩]
  exact⟨_,rfl,iH _ _ _ (lZ _ _ _ h)⟩
 ·exact h.elim
theorem QL {t:Nat} {x:AV} (h:ZT τ lit t x σ Q):opt (KJ X.P t x σ) fun r=>Q r.1 r.2:=by
 obtain⟨⟨d1,s1,b1,z1,c1,hd1,g1⟩,hT,h⟩:=aX h
 unfold KJ
 rw [dM _ _ hT]
 simp only at h
 split at h
 ·exact⟨_,rfl,iH _ _ _ (lZ _ _ _ h)⟩
 ·exact h.elim
omit dM in
theorem QM {x:AV} (h:UD lit x σ Q):opt (KL x σ) fun r=>Q r.1 r.2:=by
 unfold UD at h
 split at h
 ·obtain⟨h1,h⟩:=iQ h
  obtain rfl:=Nat.eq_of_beq_eq_true h1
  obtain⟨⟨s,pos⟩,hi,h⟩:=aX h
  unfold iterAt at hi
  split at hi
  ·rename_i g' ro s' pos' ho
   cases hb:(Nat.beq _ g' && !ro) with
   | false=>rw [hb] at hi;cases hi
   | true=>
     rw [hb] at hi
     cases hi
     simp only [Bool.and_eq_true,Bool.not_eq_true'] at hb
     have hg:=Nat.eq_of_beq_eq_true hb.1
     subst hg
     unfold KL
     simp only [ho]
     rw [if_pos ⟨trivial,hb.2⟩]
     simp only at h
     by_cases hp:pos<s.length
     ·rw [decide_eq_true hp] at h
      rw [if_pos hp]
      exact⟨_,rfl,iH _ _ _ h⟩
     ·rw [decide_eq_false hp] at h
      rw [if_neg hp]
      exact⟨_,rfl,h⟩
  ·cases hi
 ·exact h.elim
theorem QN {t:Nat} {x y:AV} (h:ZU τ lit t x y σ Q):opt (KH X.P t x y σ) fun r=>Q r.1 r.2:=by
 obtain⟨⟨d1,s1,b1,z1,c1,hd1,g1⟩,hT,h⟩:=aX h
 unfold KH
 simp only at h
 split at h
 ·rw [dM _ _ hT]
  obtain⟨E,hE,h⟩:=aX h
  obtain⟨h1,h⟩:=iQ h
  rw [Bool.and_eq_true,Bool.and_eq_true] at h1
  obtain⟨src,hs,h⟩:=aX h
  simp only [dM _ _ hE]
  rw [if_pos ⟨iR h1.1.1,Nat.eq_of_beq_eq_true h1.1.2,iR h1.2⟩,hs,Option.bind_some]
  cases h0:Nat.beq src.1 0 with
  | true=>
    rw [h0] at h
    rw [if_pos (Nat.eq_of_beq_eq_true h0)]
    simp only [cB] at h
    split at h
    ·exact⟨_,rfl,h⟩
    ·exact⟨_,rfl,h⟩
    ·exact h.elim
  | false=>
    rw [h0] at h
    rw [if_neg (fun e=>by rw [e] at h0;cases h0)]
    obtain⟨h2,h⟩:=iQ h
    rw [if_pos h2]
    split at h
    ·obtain⟨h3,h⟩:=h
     simp only
     rw [if_pos h3]
     exact⟨_,rfl,iH _ _ _ (lZ _ _ _ (jT _ _ h))⟩
    ·obtain⟨cs,hc,h3,h4,h5,h6,h⟩:=aX h
     have ho:=MV hc
     simp only [ho]
     rw [if_pos ⟨trivial,h3,trivial,h4,h5,h6⟩]
     exact⟨_,rfl,iH _ _ _ h⟩
    ·exact h.elim
 ·exact h.elim
theorem QO {x:AV} {t:Nat} {ok:Bool} {Q:AV→Prop} (h:ZV τ X.P x t ok Q):opt (I9 X.P x t ok) Q:=by
 obtain⟨⟨d1,s1,b1,z1,c1,hd1,g1⟩,hT,h⟩:=aX h
 unfold I9
 rw [dM _ _ hT]
 simp only at h
 cases x with
 | eu=>
   have key:ok=true∧Q (.tu [z1,.b false]):=by
    cases hi:Iq d1 <;> (rw [hi] at h;exact iQ h)
   obtain⟨rfl,h⟩:=key
   cases d1 <;> exact⟨_,rfl,h⟩
 | ic t' v=>
   simp only at h
   cases hi:Iq d1 with
   | true=>
     rw [hi] at h
     cases d1 with
     | yM ms=>
       obtain⟨b,hb,h⟩:=aX h.ev
       simp only [hb]
       cases b with
       | true=>cases ok <;> exact⟨_,rfl,h⟩
       | false=>obtain⟨rfl,h⟩:=iQ h;exact⟨_,rfl,h⟩
     | _=>cases hi
   | false=>
     rw [hi] at h
     have key:opt (if t'= t then some (if ok then AV.tu [v,.b true] else v) else if ok then some (.tu [z1,.b false]) else none) Q:=by
        cases hb:Nat.beq t' t with
        | true=>
          rw [hb] at h
          rw [if_pos (Nat.eq_of_beq_eq_true hb)]
          cases ok with
          | true=>exact⟨_,rfl,h⟩
          | false=>exact⟨_,rfl,fK _ _ h⟩
        | false=>
          rw [hb] at h
          rw [if_neg (fun e=>by rw [e,Nat.beq_refl] at hb;cases hb)]
          obtain⟨rfl,h⟩:=iQ h
          exact⟨_,rfl,h⟩
     cases d1 <;> first | (cases hi;done) | exact key
 | _=>cases hi:Iq d1 <;> (rw [hi] at h;exact h.elim)
theorem D_ {t:Nat} {x v:AV} (h:kL (τ t) x σ=some v):kL (aG X.P t) x σ=some v:=by
 cases ht:τ t with
 | none=>rw [ht] at h;simp [kL] at h
 | some T=>rw [dM _ _ ht,←ht];exact h
theorem Js {t:Nat} {x y:AV} {σ':St} (h:jm (τ t) x y σ=some σ'):jm (aG X.P t) x y σ=some σ':=by
 cases ht:τ t with
 | none=>rw [ht] at h;simp [jm] at h
 | some T=>rw [dM _ _ ht,←ht];exact h
theorem FZ {ρ:cZ→AV} {op:dH} (h:Jr X τ lit ρ op σ Q):wR X ρ op σ Q:=by
 cases op with
 | call f args=>
   rw [zK]
   simp only [Jr] at h
   split at h
   ·rename_i f' first cap hf
    split at h
    ·rename_i k
     rw [hf]
     have h:=jT _ _ h
     exact wU h.ev fun v s q=>fK _ _ q
    ·exact h.elim
   ·exact h.elim
 | inv x m args=>
   rw [DF]
   simp only [Jr] at h
   split at h
   ·rename_i t v hx
    split at h
    ·rename_i k hk
     rw [hx]
     have h:=jT _ _ h
     exact⟨k,hk,wU h.ev fun v s q=>fK _ _ q⟩
    ·exact h.elim
   ·exact h.elim
 | Wi x=>exact h.elim
 | mv x=>rw [bK rfl];simp only [Jr] at h;exact⟨_,rfl,fK _ _ h⟩
 | pick c a b=>
   rw [bK rfl]
   simp only [Jr] at h
   split at h
   ·rename_i t hc
    simp only [gV]
    rw [dA]
    unfold CZ
    rw [hc]
    cases t with
    | true=>
      obtain⟨h1,h⟩:=iQ h
      simp only [fF,h1,Bool.not_true,iV,Bool.and_self,if_true]
      refine⟨_,rfl,?_⟩
      have h:=fK _ _ h
      have e:merge true (ρ a).val (ρ b).val=(ρ a).val:=by
       unfold merge
       split
       ·rename_i p q e1 e2;rw [e1];simp [wu]
       ·simp
      rw [e];exact h
    | false=>
      obtain⟨h1,h⟩:=iQ h
      simp only [iV,h1,Bool.not_false,fF,Bool.and_self,if_true]
      refine⟨_,rfl,?_⟩
      have h:=fK _ _ h
      have e:merge false (ρ a).val (ρ b).val=(ρ b).val:=by
       unfold merge
       split
       ·rename_i p q e1 e2;rw [e2];simp [wu]
       ·simp
      rw [e];exact h
   ·exact h.elim
 | alloc t=>
   rw [bK rfl]
   obtain⟨T,hT,h⟩:=aX h
   simp only [gV]
   rw [dM _ _ hT]
   exact⟨_,rfl,iH _ _ _ (lZ _ _ _ h)⟩
 | box t x=>
   rw [bK rfl]
   simp only [Jr] at h
   have h:=D5 _ _ h
   simp only [gV]
   split at h
   ·exact h.elim
   ·exact h.elim
   ·exact h.elim
   ·rename_i h1 h2 h3
    have h:=iH _ _ _ (lZ _ _ _ h)
    split
    ·rename_i e;exact(h1 e).elim
    ·rename_i e;exact(h2 _ e).elim
    ·rename_i e;exact(h3 _ _ e).elim
    ·exact⟨_,rfl,h⟩
 | build t ps=>rw [bK rfl];simp only [gV];rw [dA];exact Jq dM h
 | gJ t n ps=>rw [bK rfl];exact QJ dM h
 | load t x=>
   rw [bK rfl]
   obtain⟨v,hv,h⟩:=aX h
   simp only [gV]
   rw [dA]
   exact⟨v,D_ dM hv,fK _ _ h⟩
 | store t x y=>
   rw [bK rfl]
   obtain⟨s,hs,h⟩:=aX h
   simp only [gV]
   rw [dA]
   exact⟨s,Js dM hs,iH _ _ _ h⟩
 | bD x=>
   rw [bK rfl]
   simp only [gV]
   rw [dA]
   exact xI h
 | bin op t x y=>rw [bK rfl];simp only [gV];rw [dA];exact QB dM h
 | un op x=>rw [bK rfl];simp only [gV];rw [dA];exact UF h
 | conv s d x=>rw [bK rfl];exact MW dM h
 | OV t x=>
   rw [bK rfl]
   obtain⟨⟨d1,s1,b1,z1,c1,hd1,g1⟩,hT,h⟩:=aX h
   simp only [gV]
   rw [dM _ _ hT]
   simp only at h
   split at h
   ·exact h.elim
   ·rename_i hn
    have h:=fK _ _ h
    split
    ·rename_i e;cases e;exact(hn _ rfl).elim
    ·exact⟨_,rfl,h⟩
    ·rename_i e;cases e
 | CW f a c=>
   rw [bK rfl]
   simp only [Jr] at h
   have h:=jT _ _ (jT _ _ h)
   exact⟨_,rfl,h⟩
 | VL t l c=>rw [bK rfl];exact QK dM h
 | slc t x l hh=>rw [bK rfl];simp only [gV];rw [dA];exact QC dM h
 | fQ t x f=>rw [bK rfl];simp only [gV];rw [dA];exact QG dM h
 | Ky t x f=>rw [bK rfl];simp only [gV];rw [dA];exact QH dM h
 | nZ t x i=>rw [bK rfl];simp only [gV];rw [dA];exact QD dM h
 | idx t x i=>rw [bK rfl];simp only [gV];rw [dA];exact QE dM h
 | rng t x=>rw [bK rfl];exact QL dM h
 | TA x=>rw [bK rfl];exact QM h
 | TB x _ t ok=>rw [bK rfl];simp only [gV];rw [dA];exact QO dM h
 | ext x i=>
   rw [bK rfl]
   simp only [Jr] at h
   simp only [gV]
   split at h
   ·rename_i vs hx
    obtain⟨v,hv,h⟩:=aX h
    rw [hx]
    simp only
    rw [dA]
    exact⟨v,hv,fK _ _ h⟩
   ·exact h.elim
 | len t x=>rw [bK rfl];simp only [gV];rw [dA];exact QF dM h
 | app t s x y=>
   rw [bK rfl]
   simp only [Jr] at h
   exact QN dM (D5 _ _ (D5 _ _ h)).ev
 | Sv t r=>
   rw [bK rfl]
   obtain⟨q,hq,h⟩:=aX h
   exact⟨q,hq,iH _ _ _ h⟩
 | O3 t x k ok=>
   rw [bK rfl]
   obtain⟨v,hv,h⟩:=aX h
   simp only [gV]
   rw [dA]
   exact⟨v,hv,fK _ _ h⟩
 | uo t m k v=>
   rw [bK rfl]
   obtain⟨q,hq,h⟩:=aX h
   simp only [gV]
   rw [dA]
   exact⟨q,hq,iH _ _ _ h⟩
 | del t m k=>
   rw [bK rfl]
   obtain⟨q,hq,h⟩:=aX h
   simp only [gV]
   rw [dA]
   exact⟨q,hq,iH _ _ _ h⟩
 | sl3 t x l hh m=>
   rw [bK rfl]
   obtain⟨v,hv,h⟩:=aX h
   simp only [gV]
   rw [dA]
   exact⟨v,hv,fK _ _ h⟩
 | TD t x=>
   rw [bK rfl]
   obtain⟨v,hv,h⟩:=aX h
   simp only [gV]
   rw [dA]
   exact⟨v,hv,fK _ _ h⟩
 | copy t x y=>
   rw [bK rfl]
   obtain⟨r,hr,h⟩:=aX h
   exact⟨r,hr,iH _ _ _ h⟩
 | mn mx xs=>
   rw [bK rfl]
   obtain⟨r,hr,h⟩:=aX h
   simp only [gV]
   rw [dA]
   exact⟨r,hr,fK _ _ h⟩
end
end Go.Abs
namespace Go.Abs
section
variable (X:Ctx)(τ:kR)(lit:Bool)
def Kr (e:Env)(op:dH)(σ:St)(K:AV→St→Prop)(c:Bool):Prop:=match c with
 | true=>cB op.pure
  (match op with
  | .pick q x y=>match (q.ev e).val with
    | .b t=>cB (q.ev e).cnd (cB t (cB (x.ev e).cnd (fc (x.ev e).val fun v=>K (.cd true v) σ) False) (cB (y.ev e).cnd (fc (y.ev e).val fun v=>K (.cd true v) σ) False)) False
    | _=>False
  | op=>cB (op.bH.all fun o=>(o.ev e).cnd) (Jr X τ lit (fun o=>(o.ev e).val) op σ fun v _=>K (.cd true v) σ) False)
  (cB (op.bH.all fun o=>(o.ev e).cnd) (Jr X τ lit (fun o=>(o.ev e).val) op σ K) False)
 | false=>cB op.pure (K (.cd false .u) σ) (K (.tu []) σ)
def Ea (e:Env)(a:AI)(σ:St)(K:AV→St→Prop):Prop:=match a.gd with
 | none=>Jr X τ lit (cZ.ev e) a.op σ K
 | some (n,w)=>match get e n with
   | .b x=>cB x (Kr X τ lit e a.op σ K w) (Kr X τ lit e a.op σ K (!w))
   | .cd c v=>cB c (match v with | .b x=>cB x (Kr X τ lit e a.op σ K w) (Kr X τ lit e a.op σ K (!w)) | _=>False) (Kr X τ lit e a.op σ K false)
   | .tu vs=>match vs with
     | []=>Kr X τ lit e a.op σ K false
     | _=>False
   | _=>False
def wO:List AI→Env→St→(Env→St→Prop)→Prop
 | [],e,σ,K=>K e σ
 | a :: r,e,σ,K=>Ea X τ lit e a σ fun v σ'=>wO r (put a.d v e) σ' K
def wAg (e:Env)(σ:St):List AI→Prop→Prop
 | [],K=>K
 | a :: r,K=>(match a.d with
   | some d=>cB a.op.pure (Ea X τ lit e a σ fun v _=>get e d=v) False
   | none=>False)∧wAg e σ r K
def wD:List (AI×List AI)→Env→St→(Env→St→Prop)→Prop
 | [],e,σ,K=>K e σ
 | a :: r,e,σ,K=>Ea X τ lit e a.1 σ fun v σ'=>wAg X τ lit e σ' a.2 (wD r (put a.1.d v e) σ' K)
def Jt:List Nat→Env→(Env→Prop)→Prop
 | [],_,K=>K []
 | d :: ds,e,K=>fc (get e d) fun v=>Jt ds e fun r=>K ((d,v) :: r)
def wC:AC→Env→St→(Out→Env→St→Prop)→Prop
 | .skip,e,σ,Q=>Q .normal e σ
 | .reg ops,e,σ,Q=>wO X τ lit ops e σ fun e σ=>Q .normal e σ
 | .jA ops,e,σ,Q=>wD X τ lit ops e σ fun e σ=>Q .normal e σ
 | .seq a b,e,σ,Q=>wC a e σ fun o e σ=>match o with
   | .normal=>wC b e σ Q
   | .exit j=>Q (.exit j) e σ
   | .ret=>Q .ret e σ
 | .cond x a b,e,σ,Q=>match x.ev e with
   | .b t=>cB t (wC a e σ Q) (wC b e σ Q)
   | _=>False
 | .blk id c,e,σ,Q=>wC c e σ fun o e σ=>match o with
   | .normal=>Q .normal e σ
   | .exit j=>cB (Nat.beq j id) (Q .normal e σ) (Q (.exit j) e σ)
   | .ret=>Q .ret e σ
 | .loop live c,e,σ,Q=>Jt live e fun e=>aS X live c e σ Q
 | .cut live c,e,σ,Q=>Jt live e fun e=>wC c e σ Q
 | .exit id,e,σ,Q=>Q (.exit id) e σ
 | .ret,e,σ,Q=>Q .ret e σ
def Ir (e:Env)(σ:St):List AR→(List AV→Prop)→Prop
 | [],K=>K []
 | .t n :: rs,K=>fc (get e n) fun v=>match v with
   | .cd _ _=>False
   | v=>Ir e σ rs fun vs=>K (v :: vs)
 | .cell a t :: rs,K=>om (kL (τ t) (get e a) σ) fun v=>fc v fun v=>Ir e σ rs fun vs=>K (v :: vs)
end
structure Fin (σ:St)(v:AV)(σ':St)(Q:AV→St→Prop):Prop where
 ev:Q (norm σ v σ').1 (norm σ v σ').2
def wF (X:Ctx)(τ:kR)(lit:Bool)(F:AF)(args:List AV)(σ:St)(Q:AV→St→Prop):Prop:=
 wC X τ lit F.code (eH 0 args) σ fun o e σ'=>match o with
    | .exit _=>False
    | _=>Ir τ e σ' F.res fun vs=>match vs with
      | []=>Fin σ (.tu []) σ' Q
      | [v]=>Fin σ v σ' Q
      | v :: w :: vs=>Fin σ (.tu (v :: w :: vs)) σ' Q
theorem Fin.flat {σ σ':St} {v:AV} {Q:AV→St→Prop} (hf:v.flat=true)(h:σ'.take σ.length=σ)(q:Q v σ):Fin σ v σ' Q:=by
 constructor
 unfold norm
 rw [h,hf]
 simpa using q
theorem Fin.ref {σ σ':St} {v:AV} {Q:AV→St→Prop} (hf:v.flat=false)(q:Q v σ'):Fin σ v σ' Q:=by
 constructor
 unfold norm
 rw [hf]
 simpa using q
theorem Fin.same {σ σ':St} {v:AV} {Q:AV→St→Prop} (h:σ'.length=σ.length)(q:Q v σ'):Fin σ v σ' Q:=by
 constructor
 unfold norm
 split
 ·rename_i hc
  rw [Bool.and_eq_true] at hc
  have:=iZ _ _ hc.2
  rw [List.take_of_length_le (by omega)] at this
  rw [←this];exact q
 ·exact q
theorem Fin.ne {σ σ':St} {v:AV} {Q:AV→St→Prop} (h:σ'.take σ.length≠σ)(q:Q v σ'):Fin σ v σ' Q:=by
 constructor
 unfold norm
 split
 ·rename_i hc
  rw [Bool.and_eq_true] at hc
  exact(h (iZ _ _ hc.2)).elim
 ·exact q
section
variable {X:Ctx} {τ:kR} (dM:τ.Ok X.P) {lit:Bool} {e:Env} {σ:St}
include dM
theorem tC {d:Option Nat} {g:Nat×Bool} {op:dH} {K:AV→St→Prop} {c:Bool} (hw:dK e (some g)=some c)(h:Kr X τ lit e op σ K c):EvS X e ⟨d,some g,op⟩ σ K:=by
 cases hp:op.pure with
 | true=>
   rw [Lm hp]
   refine⟨c,hw,?_⟩
   cases c with
   | false=>
     simp only [Kr,hp] at h
     exact⟨_,rfl,h⟩
   | true=>
     simp only [Kr,hp] at h
     by_cases hpk:∃q x y,op= .pick q x y
     ·obtain⟨q,x,y,rfl⟩:=hpk
      simp only [cB] at h
      simp only [iF,if_true,jG,wz]
      split at h
      ·rename_i t ht
       rw [ht]
       split at h
       ·rename_i h1
        cases t with
        | true=>
          simp only at h
          split at h
          ·rename_i h2
           have h:=fK _ _ h
           refine⟨_,by simp only [h1,h2,fF,Bool.and_self,Bool.true_and,Bool.not_true,Bool.and_false,iV,if_true];rfl,?_⟩
           have e1:merge true (x.ev e).val (y.ev e).val=(x.ev e).val:=by
            unfold merge
            split
            ·rename_i p q e1 e2;rw [e1];simp [wu]
            ·simp
           rw [e1];exact h
          ·exact h.elim
        | false=>
          simp only at h
          split at h
          ·rename_i h2
           have h:=fK _ _ h
           refine⟨_,by simp only [h1,h2,fF,Bool.and_self,Bool.true_and,Bool.not_false,Bool.and_false,Bool.and_true,iV,if_true];rfl,?_⟩
           have e1:merge false (x.ev e).val (y.ev e).val=(y.ev e).val:=by
            unfold merge
            split
            ·rename_i p q e1 e2;rw [e2];simp [wu]
            ·simp
           rw [e1];exact h
          ·exact h.elim
       ·exact h.elim
      ·exact h.elim
     ·have h':cB (op.bH.all fun o=>(o.ev e).cnd) (Jr X τ lit (fun o=>(o.ev e).val) op σ fun v _=>K (.cd true v) σ) False:=by
        cases op <;> first | exact h | exact absurd ⟨_,_,_,rfl⟩ hpk
      obtain⟨h1,h2⟩:=iQ h'
      have h3:=FZ dM h2
      rw [bK (by clear h' h1 h2 h3 hpk h;cases op <;> first | rfl | cases hp)] at h3
      obtain⟨r,hr,h4⟩:=h3
      have e1:jG X.P e op σ=mW true (op.bH.all (fun o=>kG true (o.ev e).cnd)) (gV X.P (fun o=>(o.ev e).val) op σ):=by
        cases op <;> first | rfl | exact absurd ⟨_,_,_,rfl⟩ hpk
      refine⟨.cd true r.1,?_,h4⟩
      simp only [iF,if_true]
      rw [e1,hr]
      simp only [fF,mW]
      rw [if_pos h1]
 | false=>
   rw [H9 hp]
   refine⟨c,hw,?_⟩
   cases c with
   | false=>simp only [Kr,hp] at h;exact h
   | true=>
     simp only [Kr,hp] at h
     obtain⟨h1,h2⟩:=iQ h
     exact⟨h1,FZ dM h2⟩
theorem xO {a:AI} {K:AV→St→Prop} (h:Ea X τ lit e a σ K):EvS X e a σ K:=by
 obtain⟨d,gd,op⟩:=a
 unfold Ea at h
 simp only at h
 cases gd with
 | none=>exact FZ dM h
 | some g=>
   obtain⟨n,w⟩:=g
   simp only at h
   split at h
   ·rename_i x hx
    cases x with
    | true=>exact tC dM (by simp only [dK,hx];cases w <;> rfl) h
    | false=>exact tC dM (by simp only [dK,hx];cases w <;> rfl) h
   ·rename_i c v hx
    cases c with
    | true=>
      simp only [cB] at h
      split at h
      ·rename_i x
       cases x with
       | true=>exact tC dM (by simp only [dK,hx];cases w <;> rfl) h
       | false=>exact tC dM (by simp only [dK,hx];cases w <;> rfl) h
      ·exact h.elim
    | false=>
      have h':Kr X τ lit e op σ K false:=h
      exact tC dM (by simp only [dK,hx];cases v <;> rfl) h'
   ·rename_i vs hx
    split at h
    ·exact tC dM (by simp only [dK,hx]) h
    ·exact h.elim
   ·exact h.elim
theorem S9:∀{ops:List AI} {e:Env} {σ:St} {K:Env→St→Prop},wO X τ lit ops e σ K→VP X ops e σ K
 | [],e,σ,K,h=>H7.2 h
 | a :: r,e,σ,K,h=>by
   rw [Dz]
   have h1:=xO dM h
   obtain⟨n,x,hx,q⟩:=h1
   exact⟨n,x,hx,S9 q⟩
theorem MX {e:Env} {σ:St} {K:Prop} :∀{l:List AI},wAg X τ lit e σ l K→l.all (pJ X e σ)=true∧K
 | [],h=>⟨rfl,h⟩
 | a :: r,h=>by
   obtain⟨h1,h2⟩:=h
   obtain⟨h3,h4⟩:=MX h2
   refine⟨?_,h4⟩
   simp only [List.all_cons,h3,Bool.and_true]
   split at h1
   ·rename_i d hd
    obtain⟨hp,h1⟩:=iQ h1
    obtain⟨n,x,hx,q⟩:=xO dM h1
    have hx':dO X (fun _ _ _=>none) e a σ=some x:=by
        unfold dO at hx ⊢
        rw [←hx]
        have hc:∀ρ run,eY X run ρ a.op σ=gV X.P ρ a.op σ:=by
         intro ρ run
         cases ho:a.op <;> rw [ho] at hp <;> first | rfl | cases hp
        simp only [hc]
    unfold pJ
    rw [hd,hx']
    obtain⟨v,s⟩:=x
    simp only at q ⊢
    rw [q];exact AV.mV v
   ·exact h1.elim
theorem S_:∀{ops:List (AI×List AI)} {e:Env} {σ:St} {K:Env→St→Prop},wD X τ lit ops e σ K→VQ X ops e σ K
 | [],e,σ,K,h=>H8.2 h
 | (a,ag) :: r,e,σ,K,h=>by
   rw [DC]
   have h1:=xO dM h
   obtain⟨n,x,hx,q⟩:=h1
   obtain⟨q1,q2⟩:=MX dM q
   exact⟨n,x,hx,q1,S_ q2⟩
omit dM in
theorem rC:∀(l:List Nat) (e:Env) (K:Env→Prop),Jt l e K→K (clear l e)
 | [],e,K,h=>h
 | d :: ds,e,K,h=>rC ds e _ (fK _ _ h)
omit dM in
theorem uN (l:List Nat)(e:Env):clear l (clear l e)=clear l e:=by
 have key:∀(m:List Nat) (d:Nat),d∈m→get (m.map fun d=>(d,get e d)) d=get e d:=by
  intro m
  induction m with
  | nil=>intro d h;cases h
  | cons a m ih=>
    intro d h
    simp only [List.map_cons,get]
    split
    ·rename_i h1;rw [h1]
    ·rename_i h1
     rcases List.mem_cons.1 h with rfl | h
     ·exact(h1 rfl).elim
     ·exact ih d h
 unfold clear
 exact List.map_congr_left fun d hd=>by rw [key l d hd]
theorem Tc:∀{c:AC} {e:Env} {σ:St} {Q:Out→Env→St→Prop},wC X τ lit c e σ Q→EvC X c e σ Q:=by
 intro c
 induction c with
 | skip=>intro e σ Q h;exact Dv.2 h
 | exit id=>intro e σ Q h;exact Dw.2 h
 | ret=>intro e σ Q h;exact Hu.2 h
 | reg ops=>intro e σ Q h;exact Hw.2 (S9 dM h)
 | jA ops=>intro e σ Q h;exact Hy.2 (S_ dM h)
 | seq a b iha ihb=>
   intro e σ Q h
   refine Hz.2 (qU (iha h) fun o e s q=>?_)
   cases o with
   | normal=>rw [Out.nC];exact ihb q
   | exit j=>rw [Out.sH];exact q
   | ret=>rw [Out.wP];exact q
 | cond x a b iha ihb=>
   intro e σ Q h
   simp only [wC] at h
   rw [Dx]
   split at h
   ·rename_i t hx
    rw [hx]
    cases t with
    | true=>exact iha h
    | false=>exact ihb h
   ·exact h.elim
 | blk id c ih=>
   intro e σ Q h
   refine HY.2 (qU (ih h) fun o e s q=>?_)
   cases o with
   | normal=>rw [Out.qP];exact q
   | exit j=>
     rw [Out.wQ]
     simp only at q
     cases hb:Nat.beq j id with
     | true=>rw [hb] at q;rw [if_pos (Nat.eq_of_beq_eq_true hb)];exact q
     | false=>rw [hb] at q;rw [if_neg (fun e=>by rw [e,Nat.beq_refl] at hb;cases hb)];exact q
   | ret=>rw [Out.zJ];exact q
 | loop live c ih=>
   intro e σ Q h
   have h:=(rC _ _ _ h).ev
   rw [nD,uN] at h
   rw [Dy,nD]
   exact h
 | cut live c ih=>
   intro e σ Q h
   exact H6.2 (ih (rC _ _ _ h))
theorem rD:∀{rs:List AR} {K:List AV→Prop},Ir τ e σ rs K→opt (mX X.P e σ rs) K
 | [],K,h=>⟨_,rfl,h⟩
 | .t n :: rs,K,h=>by
   have h:=fK _ _ h
   split at h
   ·exact h.elim
   ·rename_i hn
    obtain⟨vs,hv,q⟩:=rD h
    refine⟨_,?_,q⟩
    simp only [mX,hv]
    have e1:wB X.P e σ (.t n)=some (get e n):=by
        simp only [wB]
    rw [e1]
 | .cell a t :: rs,K,h=>by
   obtain⟨v,hv,h⟩:=aX h
   have h:=fK _ _ h
   obtain⟨vs,hvs,q⟩:=rD h
   refine⟨_,?_,q⟩
   simp only [mX,hvs]
   have e1:wB X.P e σ (.cell a t)=some v:=D_ dM hv
   rw [e1]
theorem ay.body {f:Nat} {F:AF} {args:List AV} {Q:AV→St→Prop} (hp:X.prim f=none)(hf:X.fns f=some F)(hl:args.length≤F.nt)(h:wF X τ lit F args σ Q):ay X f args σ Q:=by
 constructor
 rw [TS hp hf hl]
 refine qU (Tc dM h) fun o e s q=>?_
 cases o with
 | exit j=>exact q.elim
 | normal=>
   obtain⟨vs,hv,q⟩:=rD dM q
   refine⟨rfl,?_⟩
   rw [dA]
   unfold oN
   rw [hv]
   match vs,q with
   | [],q=>exact⟨_,rfl,q.ev⟩
   | [v],q=>exact⟨_,rfl,q.ev⟩
   | v :: w :: vs,q=>exact⟨_,rfl,q.ev⟩
 | ret=>
   obtain⟨vs,hv,q⟩:=rD dM q
   refine⟨rfl,?_⟩
   rw [dA]
   unfold oN
   rw [hv]
   match vs,q with
   | [],q=>exact⟨_,rfl,q.ev⟩
   | [v],q=>exact⟨_,rfl,q.ev⟩
   | v :: w :: vs,q=>exact⟨_,rfl,q.ev⟩
theorem aS.round {live:List Nat} {c:AC} {Q:Out→Env→St→Prop}
 (h:Jt live e fun e=>wC X τ lit c e σ fun o e σ=>match o with
  | .normal=>Jt live e fun e=>aS X live c e σ Q
  | .exit j=>Q (.exit j) e σ
  | .ret=>Q .ret e σ):aS X live c e σ Q:=by
 constructor
 rw [nD]
 refine qU (Tc dM (rC _ _ _ h)) fun o e s q=>?_
 cases o with
 | normal=>
   rw [Out.nC]
   have h:=(rC _ _ _ q).ev
   rw [nD,uN] at h
   rw [nD]
   exact h
 | exit j=>rw [Out.sH];exact q
 | ret=>rw [Out.wP];exact q
end
theorem ay.of {X:Ctx} {f:Nat} {args:List AV} {σ:St} {Q:AV→St→Prop} (h:wM X f args σ Q):ay X f args σ Q:=⟨h⟩
theorem ay.to {X:Ctx} {f:Nat} {args:List AV} {σ σ':St} {v:AV} {Q:AV→St→Prop} (h:ay X f args σ fun a s=>a=v∧s=σ')(q:Q v σ'):ay X f args σ Q:=⟨(P8 h.ev).2 q⟩
theorem ay.mono {X:Ctx} {f:Nat} {args:List AV} {σ:St} {Q Q':AV→St→Prop} (h:ay X f args σ Q)(q:∀v s,Q v s→Q' v s):ay X f args σ Q':=⟨wU h.ev q⟩
theorem aS.mono {X:Ctx} {live:List Nat} {c:AC} {e:Env} {σ:St} {Q Q':Out→Env→St→Prop} (h:aS X live c e σ Q)(q:∀o e s,Q o e s→Q' o e s):aS X live c e σ Q':=⟨Ls h.ev q⟩
end Go.Abs
