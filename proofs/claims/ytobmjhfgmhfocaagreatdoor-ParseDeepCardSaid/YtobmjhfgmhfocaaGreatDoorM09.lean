/- Texts of this claim, joined: Abs21, Abs22, Tb, Abs23, Abs24, Abs25. -/
import Derived.Test.YtobmjhfgmhfocaaGreatDoorM06
import Derived.Test.YtobmjhfgmhfocaaGreatDoorProg
import Derived.KernelRfl
set_option linter.unusedVariables false
set_option linter.unusedSimpArgs false
namespace Go.bK
theorem wrap_i64 {n:Int} (h1: -9223372036854775808≤n)(h2:n≤9223372036854775807):IntKind.i64.wrap n=n:=by
 simp [IntKind.wrap,IntKind.signed,IntKind.bits];omega
theorem wrap_i32 {n:Int} (h1: -2147483648≤n)(h2:n≤2147483647):IntKind.i32.wrap n=n:=by
 simp [IntKind.wrap,IntKind.signed,IntKind.bits];omega
theorem wrap_u32 {n:Int} (h1:0≤n)(h2:n≤4294967295):IntKind.u32.wrap n=n:=by
 simp [IntKind.wrap,IntKind.signed,IntKind.bits];omega
end Go.bK
namespace Go.bK
inductive BT where
 | nil
 | leaf (t:Nat) (T:AT)
 | node (m:Nat) (l r:BT)
def BT.get:BT→Nat→Option AT
 | .nil,_=>none
 | .leaf t T,n=>bif Nat.beq t n then some T else none
 | .node m l r,n=>bif Nat.blt n m then l.get n else r.get n
def BT.toList:BT→List (Nat×AT)
 | .nil=>[]
 | .leaf t T=>[(t,T)]
 | .node _ l r=>l.toList ++ r.toList
theorem BT.get_mem:∀(b:BT) (n:Nat) (T:AT),b.get n=some T→(n,T)∈b.toList
 | .nil,_,_,h=>by cases h
 | .leaf t T,n,T',h=>by
   simp only [BT.get] at h
   cases hb:Nat.beq t n with
   | true=>rw [hb] at h;cases h;rw [Nat.eq_of_beq_eq_true hb];exact List.mem_singleton.2 rfl
   | false=>rw [hb] at h;cases h
 | .node m l r,n,T,h=>by
   simp only [BT.get] at h
   cases hb:Nat.blt n m with
   | true=>rw [hb] at h;exact List.mem_append_left _ (BT.get_mem l n T h)
   | false=>rw [hb] at h;exact List.mem_append_right _ (BT.get_mem r n T h)
abbrev jR:=Nat→Option AT
def jR.Ok (τ:jR)(P:Program):Prop:=∀t T,τ t=some T→aF P t=some T
theorem BT.ok {b:BT} {P:Program} (h:b.toList.map (fun p=>aF P p.1)=b.toList.map (fun p=>some p.2)):jR.Ok b.get P:=by
 intro t T ht
 have hm:=BT.get_mem b t T ht
 have:=List.map_inj_left.1 h _ hm
 exact this
def xG (τ:jR)(t:Nat):Nat:=match τ t with | some T=>T.size | none=>0
theorem MZ {P:Program} {t:Nat} {T:AT} (h:aF P t=some T):P.cellsOf t=T.size:=by
 unfold aF at h
 split at h
 ·rename_i i d hi _
  split at h
  ·cases h;simp [Program.cellsOf,hi]
  ·cases h
 ·cases h
section
variable {τ:jR} {P:Program} (bJ:τ.Ok P)
include bJ
theorem mg {t:Nat} (h:0<xG τ t):P.cellsOf t=xG τ t:=by
 unfold xG at h ⊢
 cases ht:τ t with
 | none=>rw [ht] at h;exact absurd h (Nat.lt_irrefl 0)
 | some T=>simp only;exact MZ (bJ t T ht)
end
def cB (t:Bool)(A B:Prop):Prop:=match t with | true=>A | false=>B
def om {α:Type} (o:Option α)(Q:α→Prop):Prop:=match o with | some a=>Q a | none=>False
theorem Dh {α:Type} {o:Option α} {Q:α→Prop} (h:om o Q):opt o Q:=by
 cases o with
 | none=>exact h.elim
 | some a=>exact⟨a,rfl,h⟩
mutual
def fq (v:AV)(Q:AV→Prop):Prop:=match v with
 | .u=>Q .u
 | .b t=>Q (.b t)
 | .i k n=>Q (.i k n)
 | .s x=>Q (.s x)
 | .p0=>Q .p0
 | .p o g off=>Q (.p o g off)
 | .sl0=>Q .sl0
 | .sl o g off n z=>Q (.sl o g off n z)
 | .fn f a c=>Q (.fn f a c)
 | .fn0=>Q .fn0
 | .ic t v=>Q (.ic t v)
 | .eG=>Q .eG
 | .ag cs=>JK cs fun cs=>Q (.ag cs)
 | .tu cs=>JK cs fun cs=>Q (.tu cs)
 | .wB=>Q .wB
 | .mp o g=>Q (.mp o g)
 | .cd c v=>Q (.cd c v)
def JK (l:List AV)(Q:List AV→Prop):Prop:=match l with
 | []=>Q []
 | v :: l=>fq v fun v=>JK l fun l=>Q (v :: l)
end
mutual
theorem JL:∀(v:AV) (Q:AV→Prop),fq v Q→Q v:=by
 intro v Q h
 match v with
 | .u | .b _ | .i _ _ | .s _ | .p0 | .p _ _ _ | .sl0 | .sl _ _ _ _ _ | .fn _ _ _ | .fn0 | .ic _ _ | .eG | .wB | .mp _ _ | .cd _ _=>simpa only [fq] using h
 | .ag cs=>simp only [fq] at h;exact nH cs _ h
 | .tu cs=>simp only [fq] at h;exact nH cs _ h
theorem nH:∀(l:List AV) (Q:List AV→Prop),JK l Q→Q l:=by
 intro l Q h
 match l with
 | []=>simpa only [JK] using h
 | v :: l=>simp only [JK] at h;exact nH l _ (JL v _ h)
end
def fc (v:AV)(Q:AV→Prop):Prop:=match v with
 | .b t=>cB t (Q (.b true)) (Q (.b false))
 | v=>fq v Q
theorem iC (v:AV)(Q:AV→Prop)(h:fc v Q):Q v:=by
 cases v with
 | b t=>cases t <;> exact h
 | _=>exact JL _ _ h
def nums:List Nat:=[0,1,2,3,4,5,6,7,8,9,10,11,12,13,14,15,16,17,18,19,20,21,22,23,24,25,26,27,28,29,30,31,32,33,34,35,36,37,38,39,40,41,42,43,44,45,46,47,48,49,50,51,52,53,54,55,56,57,58,59,60,61,62,63]
def Uo {α:Type} :List α→List Nat→(Nat→Prop)→Prop
 | [],k :: _,Q=>Q k
 | _ :: l,_ :: ks,Q=>Uo l ks Q
 | _,[],_=>False
theorem Di {α:Type} :∀(l:List α) (s m:Nat) (Q:Nat→Prop),Uo l (List.range' s m) Q→Q (s+l.length)
 | [],s,0,Q,h=>h.elim
 | [],s,m+1,Q,h=>h
 | _ :: l,s,0,Q,h=>h.elim
 | _ :: l,s,m+1,Q,h=>by
   have:=Di l (s+1) m Q (by simpa only [List.range'_succ,Uo] using h)
   simpa [Nat.add_comm,Nat.add_left_comm,Nat.add_assoc] using this
def JM (lit:Bool)(σ:St)(Q:Nat→Prop):Prop:=match lit with | true=>Uo σ nums Q | false=>Q σ.length
theorem qo (lit:Bool)(σ:St)(Q:Nat→Prop)(h:JM lit σ Q):Q σ.length:=by
 cases lit with
 | false=>exact h
 | true=>
   have e:nums=List.range' 0 64:=by decide
   have h':Uo σ nums Q:=h
   rw [e] at h'
   simpa using Di σ 0 64 Q h'
def Qv (σ:St)(Q:St→Prop):Prop:=match σ with
 | []=>Q []
 | a :: r=>match a with
   | ⟨g,ro,k⟩=>match k with
     | .cells e cs=>Qv r fun r=>Q (⟨g,ro,.cells e cs⟩ :: r)
     | .iter s p=>Qv r fun r=>Q (⟨g,ro,.iter s p⟩ :: r)
     | .maps m=>Qv r fun r=>Q (⟨g,ro,.maps m⟩ :: r)
     | .dead=>Qv r fun r=>Q (⟨g,ro,.dead⟩ :: r)
     | .oI e l=>Qv r fun r=>Q (⟨g,ro,.oI e l⟩ :: r)
theorem yX:∀(σ:St) (Q:St→Prop),Qv σ Q→Q σ
 | [],Q,h=>by simpa only [Qv] using h
 | ⟨g,ro,.cells e cs⟩ :: r,Q,h=>yX r _ (by simpa only [Qv] using h)
 | ⟨g,ro,.iter s p⟩ :: r,Q,h=>yX r _ (by simpa only [Qv] using h)
 | ⟨g,ro,.maps m⟩ :: r,Q,h=>yX r _ (by simpa only [Qv] using h)
 | ⟨g,ro,.dead⟩ :: r,Q,h=>yX r _ (by simpa only [Qv] using h)
 | ⟨g,ro,.oI e l⟩ :: r,Q,h=>yX r _ (by simpa only [Qv] using h)
def M_ (lit:Bool)(σ:St)(Q:St→Prop):Prop:=match lit with | true=>Qv σ Q | false=>Q σ
theorem kC (lit:Bool)(σ:St)(Q:St→Prop)(h:M_ lit σ Q):Q σ:=by
 cases lit with
 | false=>exact h
 | true=>exact yX σ Q h
def Na (k:IntKind)(n:Int)(Q:AV→Prop):Prop:=∃r,k.wrap n=r∧Q (.i k r)
def FW (τ:jR)(eq:Nat→AV→AV→Option Bool):List (Nat×Nat×Bool)→List AV→List AV→Option Bool
 | [],_,_=>some true
 | f :: fs,xs,ys=>
   if f.2.2 then FW τ eq fs xs ys else
   match τ f.2.1 with
   | none=>none
   | some F=>
     match partOf F xs f.1,partOf F ys f.1 with
     | some x,some y=>match eq f.2.1 x y with
       | some b=>match fs with
         | []=>some b
         | fs=>match FW τ eq fs xs ys with
           | some c=>some (b && c)
           | none=>none
       | none=>none
     | _,_=>none
def eqT (τ:jR):Nat→Nat→AV→AV→Option Bool
 | 0,_,_,_=>none
 | d+1,t,x,y=>
   match τ t with
   | none=>none
   | some T=>
   match T.d,x,y with
   | .bool,.b p,.b q=>some (p == q)
   | .int _,.i k p,.i k' q=>if k=k' then some (decide (p=q)) else none
   | .str,.s p,.s q=>some (p == q)
   | .ptr _,.p0,.p0=>some true
   | .ptr _,.p0,.p _ _ _=>some false
   | .ptr _,.p _ _ _,.p0=>some false
   | .ptr e,.p o g off,.p o' g' off'=>if o=o'∧g=g'∧0<xG τ e then some (off == off') else none
   | .slice _,.sl0,.sl0=>some true
   | .slice _,.sl0,.sl _ _ _ _ _=>some false
   | .slice _,.sl _ _ _ _ _,.sl0=>some false
   | .fn,.fn0,.fn0=>some true
   | .fn,.fn0,.fn _ _ _=>some false
   | .fn,.fn _ _ _,.fn0=>some false
   | .map _ _,.wB,.wB=>some true
   | .map _ _,.wB,.mp _ _=>some false
   | .map _ _,.mp _ _,.wB=>some false
   | .qP _,.eG,.eG=>some true
   | .qP _,.eG,.ic _ _=>some false
   | .qP _,.ic _ _,.eG=>some false
   | .qP _,.ic t p,.ic t' q=>if t=t' then(match τ t with | some T=>if T.cmp then eqT τ d t p q else none | none=>none) else some false
   | .st fs,.ag xs,.ag ys=>if T.held then none else FW τ (eqT τ d) fs xs ys
   | _,_,_=>none
section
variable {τ:jR} {P:Program} (bJ:τ.Ok P)
include bJ
theorem Dj {eq eq':Nat→AV→AV→Option Bool} (he:∀t x y b,eq t x y=some b→eq' t x y=some b):∀(fs:List (Nat×Nat×Bool)) (xs ys:List AV) (b:Bool),FW τ eq fs xs ys=some b→wJ P eq' fs xs ys=some b
 | [],_,_,b,h=>by simpa only [FW,wJ] using h
 | f :: fs,xs,ys,b,h=>by
   unfold FW at h
   unfold wJ
   split at h
   ·rename_i hf;rw [if_pos hf];exact Dj he fs xs ys b h
   ·rename_i hf;rw [if_neg hf]
    split at h
    ·cases h
    ·rename_i F hF
     rw [bJ _ _ hF]
     split at h
     ·rename_i x y hx hy
      simp only [hx,hy]
      split at h
      ·rename_i b1 hb1
       rw [he _ _ _ _ hb1]
       split at h
       ·cases h;cases b <;> rfl
       ·split at h
        ·rename_i b2 hb2
         cases h
         cases b1 with
         | true=>simp only [Bool.true_and];exact Dj he _ xs ys b2 hb2
         | false=>rfl
        ·cases h
      ·cases h
     ·cases h
theorem Hz:∀(d t:Nat) (x y:AV) (b:Bool),eqT τ d t x y=some b→tJ P d t x y=some b
 | 0,_,_,_,b,h=>by cases h
 | d+1,t,x,y,b,h=>by
   unfold eqT at h
   split at h
   ·cases h
   ·rename_i T hT
    unfold tJ
    rw [bJ _ _ hT]
    simp only
    split at h <;> (rename_i hd;simp only [hd])
    all_goals first
     | exact h
     | cases h
     | skip
    ·split at h
     ·rename_i hk
      obtain⟨h1,h2,h3⟩:=hk
      have h4:=h3
      rw [←mg bJ h3] at h4
      rw [if_pos ⟨h1,h2,h4⟩];exact h
     ·cases h
    ·split at h
     ·rename_i ht
      rw [if_pos ht]
      split at h
      ·rename_i T' hT'
       split at h
       ·rename_i hc
        rw [bJ _ _ hT',if_pos (by simpa using hc)]
        exact Hz d _ _ _ b h
       ·cases h
      ·cases h
     ·rename_i ht;rw [if_neg ht];exact h
    ·split at h
     ·cases h
     ·rename_i hh;rw [if_neg hh];exact Dj bJ (fun t x y b=>Hz d t x y b) _ _ _ b h
end
end Go.bK
namespace Go.bK.YtobmjhfgmhfocaaGreatDoor
open Go.Proofs
def yT0:AT:=⟨.other,1,0,.u,false,false,false⟩
def yT1:AT:=⟨.fn,1,8,.fn0,false,false,false⟩
def yT2:AT:=⟨.int .i64,1,8,.i .i64 0,true,false,false⟩
def gZ:AT:=⟨.int .i64,1,8,.i .i64 0,true,false,false⟩
def Qw:AT:=⟨.bool,1,1,.b false,true,false,false⟩
def yT5:AT:=⟨.int .u8,1,1,.i .u8 0,true,false,false⟩
def yT6:AT:=⟨.int .u8,1,1,.i .u8 0,true,false,false⟩
def yT7:AT:=⟨.st [(0,2,false),(1,3,false),(2,4,false),(3,6,false)],4,24,.ag [.i .i64 0,.i .i64 0,.b false,.i .u8 0],true,false,false⟩
def yT8:AT:=⟨.st [(0,2,false),(1,3,false),(2,4,false),(3,6,false)],4,24,.ag [.i .i64 0,.i .i64 0,.b false,.i .u8 0],true,false,false⟩
def iw:AT:=⟨.str,1,16,.s [],true,false,false⟩
def yT10:AT:=⟨.str,1,16,.s [],true,false,false⟩
def yT11:AT:=⟨.str,1,16,.s [],true,false,false⟩
def yT12:AT:=⟨.int .u64,1,8,.i .u64 0,true,false,false⟩
def yT15:AT:=⟨.ptr 258,1,8,.p0,true,false,false⟩
def yT16:AT:=⟨.ptr 261,1,8,.p0,true,false,false⟩
def yT17:AT:=⟨.ptr 268,1,8,.p0,true,false,false⟩
def yT20:AT:=⟨.qP [],1,16,.eG,true,false,false⟩
def yT21:AT:=⟨.int .i32,1,4,.i .i32 0,true,false,false⟩
def yT22:AT:=⟨.ptr 67,1,8,.p0,true,false,false⟩
def Ur:AT:=⟨.int .i64,1,8,.i .i64 0,true,false,false⟩
def yT24:AT:=⟨.st [(0,23,false),(1,3,false)],2,16,.ag [.i .i64 0,.i .i64 0],true,false,false⟩
def yT25:AT:=⟨.st [(0,23,false),(1,3,false)],2,16,.ag [.i .i64 0,.i .i64 0],true,false,false⟩
def yT26:AT:=⟨.other,1,0,.u,false,false,false⟩
def yT27:AT:=⟨.fn,1,8,.fn0,false,false,false⟩
def yT28:AT:=⟨.fn,1,8,.fn0,false,false,false⟩
def yT29:AT:=⟨.fn,1,8,.fn0,false,false,false⟩
def yT30:AT:=⟨.other,1,0,.u,false,false,false⟩
def yT31:AT:=⟨.fn,1,8,.fn0,false,false,false⟩
def yT32:AT:=⟨.fn,1,8,.fn0,false,false,false⟩
def yT33:AT:=⟨.fn,1,8,.fn0,false,false,false⟩
def yT34:AT:=⟨.fn,1,8,.fn0,false,false,false⟩
def yT35:AT:=⟨.qP [("Error",95)],1,16,.eG,true,false,true⟩
def yT36:AT:=⟨.qP [("Error",95)],1,16,.eG,true,false,true⟩
def yT37:AT:=⟨.other,1,0,.u,false,false,false⟩
def yT38:AT:=⟨.fn,1,8,.fn0,false,false,false⟩
def yT39:AT:=⟨.slice 5,1,24,.sl0,false,false,false⟩
def pF:AT:=⟨.slice 44,1,24,.sl0,false,false,false⟩
def yT41:AT:=⟨.other,1,0,.u,false,false,false⟩
def yT42:AT:=⟨.fn,1,8,.fn0,false,false,false⟩
def yT43:AT:=⟨.st [(0,3,false),(1,9,false),(2,3,false)],3,32,.ag [.i .i64 0,.s [],.i .i64 0],true,false,false⟩
def AQ:AT:=⟨.st [(0,3,false),(1,9,false),(2,3,false)],3,32,.ag [.i .i64 0,.s [],.i .i64 0],true,false,false⟩
def yT45:AT:=⟨.fn,1,8,.fn0,false,false,false⟩
def yT46:AT:=⟨.arr 2 5,2,2,.ag [.i .u8 0,.i .u8 0],true,false,false⟩
def yT47:AT:=⟨.int .u32,1,4,.i .u32 0,true,false,false⟩
def yT48:AT:=⟨.arr 3 47,3,12,.ag [.i .u32 0,.i .u32 0,.i .u32 0],true,false,false⟩
def yT49:AT:=⟨.other,1,0,.u,false,false,false⟩
def yT50:AT:=⟨.fn,1,8,.fn0,false,false,false⟩
def yT51:AT:=⟨.fn,1,8,.fn0,false,false,false⟩
def bY:AT:=⟨.ptr 56,1,8,.p0,true,false,false⟩
def yT53:AT:=⟨.fn,1,8,.fn0,false,false,false⟩
def yY:AT:=⟨.slice 52,1,24,.sl0,false,false,false⟩
def yT55:AT:=⟨.st [(0,3,false),(1,47,false),(2,9,false),(3,9,false),(4,52,false),(5,52,false),(6,54,false),(7,3,false)],8,96,.ag [.i .i64 0,.i .u32 0,.s [],.s [],.p0,.p0,.sl0,.i .i64 0],false,false,false⟩
def yT56:AT:=⟨.st [(0,3,false),(1,47,false),(2,9,false),(3,9,false),(4,52,false),(5,52,false),(6,54,false),(7,3,false)],8,96,.ag [.i .i64 0,.i .u32 0,.s [],.s [],.p0,.p0,.sl0,.i .i64 0],false,false,false⟩
def yT57:AT:=⟨.fn,1,8,.fn0,false,false,false⟩
def yT58:AT:=⟨.fn,1,8,.fn0,false,false,false⟩
def yT59:AT:=⟨.fn,1,8,.fn0,false,false,false⟩
def yT60:AT:=⟨.fn,1,8,.fn0,false,false,false⟩
def yT61:AT:=⟨.arr 2 9,2,32,.ag [.s [],.s []],true,false,false⟩
def yT62:AT:=⟨.arr 6 61,12,192,.ag [.s [],.s [],.s [],.s [],.s [],.s [],.s [],.s [],.s [],.s [],.s [],.s []],true,false,false⟩
def yT63:AT:=⟨.slice 9,1,24,.sl0,false,false,false⟩
def yT64:AT:=⟨.arr 6 3,6,48,.ag [.i .i64 0,.i .i64 0,.i .i64 0,.i .i64 0,.i .i64 0,.i .i64 0],true,false,false⟩
def HY:AT:=⟨.slice 72,1,24,.sl0,false,false,false⟩
def yT66:AT:=⟨.st [(0,65,false)],1,24,.ag [.sl0],false,false,false⟩
def yT67:AT:=⟨.st [(0,65,false)],1,24,.ag [.sl0],false,false,false⟩
def xH:AT:=⟨.slice 85,1,24,.sl0,false,false,false⟩
def gq:AT:=⟨.slice 73,1,24,.sl0,false,false,false⟩
def yT70:AT:=⟨.st [(0,9,false),(1,68,false),(2,4,false),(3,69,false),(4,3,false)],5,80,.ag [.s [],.sl0,.b false,.sl0,.i .i64 0],false,false,false⟩
def yT71:AT:=⟨.st [(0,9,false),(1,68,false),(2,4,false),(3,69,false),(4,3,false)],5,80,.ag [.s [],.sl0,.b false,.sl0,.i .i64 0],false,false,false⟩
def dY:AT:=⟨.ptr 71,1,8,.p0,true,false,false⟩
def dM:AT:=⟨.ptr 75,1,8,.p0,true,false,false⟩
def yT74:AT:=⟨.st [(0,3,false),(1,9,false),(2,4,false),(3,52,false),(4,52,false),(5,69,false),(6,69,false),(7,3,false)],8,104,.ag [.i .i64 0,.s [],.b false,.p0,.p0,.sl0,.sl0,.i .i64 0],false,false,false⟩
def yT75:AT:=⟨.st [(0,3,false),(1,9,false),(2,4,false),(3,52,false),(4,52,false),(5,69,false),(6,69,false),(7,3,false)],8,104,.ag [.i .i64 0,.s [],.b false,.p0,.p0,.sl0,.sl0,.i .i64 0],false,false,false⟩
def yT76:AT:=⟨.st [(0,23,false),(1,3,false)],2,16,.ag [.i .i64 0,.i .i64 0],true,false,false⟩
def yT77:AT:=⟨.other,1,0,.u,false,false,false⟩
def yT78:AT:=⟨.fn,1,8,.fn0,false,false,false⟩
def yT79:AT:=⟨.ptr 81,1,8,.p0,true,false,false⟩
def yT80:AT:=⟨.st [(0,40,false),(1,3,false),(2,3,false),(3,4,false),(4,25,false)],6,64,.ag [.sl0,.i .i64 0,.i .i64 0,.b false,.i .i64 0,.i .i64 0],false,false,false⟩
def yT81:AT:=⟨.st [(0,40,false),(1,3,false),(2,3,false),(3,4,false),(4,25,false)],6,64,.ag [.sl0,.i .i64 0,.i .i64 0,.b false,.i .i64 0,.i .i64 0],false,false,false⟩
def yT82:AT:=⟨.fn,1,8,.fn0,false,false,false⟩
def yT83:AT:=⟨.fn,1,8,.fn0,false,false,false⟩
def yT84:AT:=⟨.st [(0,9,false),(1,4,false)],2,24,.ag [.s [],.b false],true,false,false⟩
def oM:AT:=⟨.st [(0,9,false),(1,4,false)],2,24,.ag [.s [],.b false],true,false,false⟩
def yT86:AT:=⟨.fn,1,8,.fn0,false,false,false⟩
def yT87:AT:=⟨.ptr 92,1,8,.p0,true,false,false⟩
def yT88:AT:=⟨.ptr 90,1,8,.p0,true,false,false⟩
def yT89:AT:=⟨.st [(0,88,false),(1,39,false)],2,32,.ag [.p0,.sl0],false,false,false⟩
def yT90:AT:=⟨.st [(0,88,false),(1,39,false)],2,32,.ag [.p0,.sl0],false,false,false⟩
def yT91:AT:=⟨.st [(0,90,false),(2,3,false),(3,4,false)],4,48,.ag [.p0,.sl0,.i .i64 0,.b false],false,false,false⟩
def yT92:AT:=⟨.st [(0,90,false),(2,3,false),(3,4,false)],4,48,.ag [.p0,.sl0,.i .i64 0,.b false],false,false,false⟩
def yT93:AT:=⟨.fn,1,8,.fn0,false,false,false⟩
def yT94:AT:=⟨.fn,1,8,.fn0,false,false,false⟩
def yT95:AT:=⟨.fn,1,8,.fn0,false,false,false⟩
def yT96:AT:=⟨.fn,1,8,.fn0,false,false,false⟩
def yT97:AT:=⟨.fn,1,8,.fn0,false,false,false⟩
def yT98:AT:=⟨.fn,1,8,.fn0,false,false,false⟩
def yT99:AT:=⟨.fn,1,8,.fn0,false,false,false⟩
def aU:AT:=⟨.ptr 103,1,8,.p0,true,false,false⟩
def Ai:AT:=⟨.ptr 25,1,8,.p0,true,false,false⟩
def yT102:AT:=⟨.st [(0,40,false),(1,3,false),(2,101,false)],3,40,.ag [.sl0,.i .i64 0,.p0],false,false,false⟩
def yT103:AT:=⟨.st [(0,40,false),(1,3,false),(2,101,false)],3,40,.ag [.sl0,.i .i64 0,.p0],false,false,false⟩
def yT104:AT:=⟨.fn,1,8,.fn0,false,false,false⟩
def yT105:AT:=⟨.fn,1,8,.fn0,false,false,false⟩
def yT106:AT:=⟨.int .i64,1,8,.i .i64 0,true,false,false⟩
def yT107:AT:=⟨.fn,1,8,.fn0,false,false,false⟩
def yT108:AT:=⟨.fn,1,8,.fn0,false,false,false⟩
def yT109:AT:=⟨.fn,1,8,.fn0,false,false,false⟩
def yT110:AT:=⟨.fn,1,8,.fn0,false,false,false⟩
def yT111:AT:=⟨.int .u64,1,8,.i .u64 0,true,false,false⟩
def yT112:AT:=⟨.other,1,0,.u,false,false,false⟩
def yT113:AT:=⟨.fn,1,8,.fn0,false,false,false⟩
def yT114:AT:=⟨.arr 18 9,18,288,.ag [.s [],.s [],.s [],.s [],.s [],.s [],.s [],.s [],.s [],.s [],.s [],.s [],.s [],.s [],.s [],.s [],.s [],.s []],true,false,false⟩
def yT115:AT:=⟨.arr 18 3,18,144,.ag [.i .i64 0,.i .i64 0,.i .i64 0,.i .i64 0,.i .i64 0,.i .i64 0,.i .i64 0,.i .i64 0,.i .i64 0,.i .i64 0,.i .i64 0,.i .i64 0,.i .i64 0,.i .i64 0,.i .i64 0,.i .i64 0,.i .i64 0,.i .i64 0],true,false,false⟩
def yT116:AT:=⟨.other,1,0,.u,false,false,false⟩
def yT117:AT:=⟨.fn,1,8,.fn0,false,false,false⟩
def yT118:AT:=⟨.fn,1,8,.fn0,false,false,false⟩
def yT119:AT:=⟨.ptr 101,1,8,.p0,true,false,false⟩
def yT120:AT:=⟨.fn,1,8,.fn0,false,false,false⟩
def yT121:AT:=⟨.fn,1,8,.fn0,false,false,false⟩
def yT122:AT:=⟨.other,1,0,.u,false,false,false⟩
def yT123:AT:=⟨.fn,1,8,.fn0,false,false,false⟩
def yT124:AT:=⟨.fn,1,8,.fn0,false,false,false⟩
def yT125:AT:=⟨.fn,1,8,.fn0,false,false,false⟩
def yT126:AT:=⟨.fn,1,8,.fn0,false,false,false⟩
def yT127:AT:=⟨.fn,1,8,.fn0,false,false,false⟩
def yT128:AT:=⟨.fn,1,8,.fn0,false,false,false⟩
def yT129:AT:=⟨.fn,1,8,.fn0,false,false,false⟩
def yT130:AT:=⟨.ptr 5,1,8,.p0,true,false,false⟩
def yT131:AT:=⟨.fn,1,8,.fn0,false,false,false⟩
def yT132:AT:=⟨.fn,1,8,.fn0,false,false,false⟩
def yT133:AT:=⟨.fn,1,8,.fn0,false,false,false⟩
def yT134:AT:=⟨.fn,1,8,.fn0,false,false,false⟩
def yT135:AT:=⟨.fn,1,8,.fn0,false,false,false⟩
def yT136:AT:=⟨.fn,1,8,.fn0,false,false,false⟩
def yT137:AT:=⟨.slice 106,1,24,.sl0,false,false,false⟩
def yT138:AT:=⟨.fn,1,8,.fn0,false,false,false⟩
def yT139:AT:=⟨.fn,1,8,.fn0,false,false,false⟩
def yT140:AT:=⟨.fn,1,8,.fn0,false,false,false⟩
def yT141:AT:=⟨.fn,1,8,.fn0,false,false,false⟩
def yT142:AT:=⟨.other,1,8,.p0,true,false,false⟩
def yT143:AT:=⟨.int .u64,1,8,.i .u64 0,true,false,false⟩
def yT146:AT:=⟨.fn,1,8,.fn0,false,false,false⟩
def yT147:AT:=⟨.qP [("AssignableTo",152),("Comparable",28),("Elem",149),("Implements",152),("Kind",151),("Name",95),("PkgPath",95),("Size",269),("String",95),("internal/reflectlite.common",262),("internal/reflectlite.uncommon",270)],1,16,.eG,true,false,true⟩
def yT148:AT:=⟨.qP [("AssignableTo",152),("Comparable",28),("Elem",149),("Implements",152),("Kind",151),("Name",95),("PkgPath",95),("Size",269),("String",95),("internal/reflectlite.common",262),("internal/reflectlite.uncommon",270)],1,16,.eG,true,false,true⟩
def yT149:AT:=⟨.fn,1,8,.fn0,false,false,false⟩
def yT150:AT:=⟨.int .u8,1,1,.i .u8 0,true,false,false⟩
def yT151:AT:=⟨.fn,1,8,.fn0,false,false,false⟩
def yT152:AT:=⟨.fn,1,8,.fn0,false,false,false⟩
def yT153:AT:=⟨.fn,1,8,.fn0,false,false,false⟩
def yT154:AT:=⟨.fn,1,8,.fn0,false,false,false⟩
def yT155:AT:=⟨.fn,1,8,.fn0,false,false,false⟩
def yT156:AT:=⟨.fn,1,8,.fn0,false,false,false⟩
def yT157:AT:=⟨.fn,1,8,.fn0,false,false,false⟩
def yT158:AT:=⟨.fn,1,8,.fn0,false,false,false⟩
def yT159:AT:=⟨.fn,1,8,.fn0,false,false,false⟩
def yT160:AT:=⟨.fn,1,8,.fn0,false,false,false⟩
def yT161:AT:=⟨.other,1,0,.u,false,false,false⟩
def yT162:AT:=⟨.fn,1,8,.fn0,false,false,false⟩
def yT163:AT:=⟨.fn,1,8,.fn0,false,false,false⟩
def yT164:AT:=⟨.fn,1,8,.fn0,false,false,false⟩
def yT165:AT:=⟨.fn,1,8,.fn0,false,false,false⟩
def yT166:AT:=⟨.fn,1,8,.fn0,false,false,false⟩
def yT167:AT:=⟨.fn,1,8,.fn0,false,false,false⟩
def yT168:AT:=⟨.fn,1,8,.fn0,false,false,false⟩
def yT169:AT:=⟨.fn,1,8,.fn0,false,false,false⟩
def yT170:AT:=⟨.arr 256 5,256,256,.ag [.i .u8 0,.i .u8 0,.i .u8 0,.i .u8 0,.i .u8 0,.i .u8 0,.i .u8 0,.i .u8 0,.i .u8 0,.i .u8 0,.i .u8 0,.i .u8 0,.i .u8 0,.i .u8 0,.i .u8 0,.i .u8 0,.i .u8 0,.i .u8 0,.i .u8 0,.i .u8 0,.i .u8 0,.i .u8 0,.i .u8 0,.i .u8 0,.i .u8 0,.i .u8 0,.i .u8 0,.i .u8 0,.i .u8 0,.i .u8 0,.i .u8 0,.i .u8 0,.i .u8 0,.i .u8 0,.i .u8 0,.i .u8 0,.i .u8 0,.i .u8 0,.i .u8 0,.i .u8 0,.i .u8 0,.i .u8 0,.i .u8 0,.i .u8 0,.i .u8 0,.i .u8 0,.i .u8 0,.i .u8 0,.i .u8 0,.i .u8 0,.i .u8 0,.i .u8 0,.i .u8 0,.i .u8 0,.i .u8 0,.i .u8 0,.i .u8 0,.i .u8 0,.i .u8 0,.i .u8 0,.i .u8 0,.i .u8 0,.i .u8 0,.i .u8 0,.i .u8 0,.i .u8 0,.i .u8 0,.i .u8 0,.i .u8 0,.i .u8 0,.i .u8 0,.i .u8 0,.i .u8 0,.i .u8 0,.i .u8 0,.i .u8 0,.i .u8 0,.i .u8 0,.i .u8 0,.i .u8 0,.i .u8 0,.i .u8 0,.i .u8 0,.i .u8 0,.i .u8 0,.i .u8 0,.i .u8 0,.i .u8 0,.i .u8 0,.i .u8 0,.i .u8 0,.i .u8 0,.i .u8 0,.i .u8 0,.i .u8 0,.i .u8 0,.i .u8 0,.i .u8 0,.i .u8 0,.i .u8 0,.i .u8 0,.i .u8 0,.i .u8 0,.i .u8 0,.i .u8 0,.i .u8 0,.i .u8 0,.i .u8 0,.i .u8 0,.i .u8 0,.i .u8 0,.i .u8 0,.i .u8 0,.i .u8 0,.i .u8 0,.i .u8 0,.i .u8 0,.i .u8 0,.i .u8 0,.i .u8 0,.i .u8 0,.i .u8 0,.i .u8 0,.i .u8 0,.i .u8 0,.i .u8 0,.i .u8 0,.i .u8 0,.i .u8 0,.i .u8 0,.i .u8 0,.i .u8 0,.i .u8 0,.i .u8 0,.i .u8 0,.i .u8 0,.i .u8 0,.i .u8 0,.i .u8 0,.i .u8 0,.i .u8 0,.i .u8 0,.i .u8 0,.i .u8 0,.i .u8 0,.i .u8 0,.i .u8 0,.i .u8 0,.i .u8 0,.i .u8 0,.i .u8 0,.i .u8 0,.i .u8 0,.i .u8 0,.i .u8 0,.i .u8 0,.i .u8 0,.i .u8 0,.i .u8 0,.i .u8 0,.i .u8 0,.i .u8 0,.i .u8 0,.i .u8 0,.i .u8 0,.i .u8 0,.i .u8 0,.i .u8 0,.i .u8 0,.i .u8 0,.i .u8 0,.i .u8 0,.i .u8 0,.i .u8 0,.i .u8 0,.i .u8 0,.i .u8 0,.i .u8 0,.i .u8 0,.i .u8 0,.i .u8 0,.i .u8 0,.i .u8 0,.i .u8 0,.i .u8 0,.i .u8 0,.i .u8 0,.i .u8 0,.i .u8 0,.i .u8 0,.i .u8 0,.i .u8 0,.i .u8 0,.i .u8 0,.i .u8 0,.i .u8 0,.i .u8 0,.i .u8 0,.i .u8 0,.i .u8 0,.i .u8 0,.i .u8 0,.i .u8 0,.i .u8 0,.i .u8 0,.i .u8 0,.i .u8 0,.i .u8 0,.i .u8 0,.i .u8 0,.i .u8 0,.i .u8 0,.i .u8 0,.i .u8 0,.i .u8 0,.i .u8 0,.i .u8 0,.i .u8 0,.i .u8 0,.i .u8 0,.i .u8 0,.i .u8 0,.i .u8 0,.i .u8 0,.i .u8 0,.i .u8 0,.i .u8 0,.i .u8 0,.i .u8 0,.i .u8 0,.i .u8 0,.i .u8 0,.i .u8 0,.i .u8 0,.i .u8 0,.i .u8 0,.i .u8 0,.i .u8 0,.i .u8 0,.i .u8 0,.i .u8 0,.i .u8 0,.i .u8 0,.i .u8 0,.i .u8 0,.i .u8 0,.i .u8 0,.i .u8 0,.i .u8 0,.i .u8 0,.i .u8 0,.i .u8 0,.i .u8 0,.i .u8 0,.i .u8 0,.i .u8 0],true,false,false⟩
def yT171:AT:=⟨.fn,1,8,.fn0,false,false,false⟩
def yT172:AT:=⟨.fn,1,8,.fn0,false,false,false⟩
def yT173:AT:=⟨.int .i64,1,8,.i .i64 0,true,false,false⟩
def yT174:AT:=⟨.fn,1,8,.fn0,false,false,false⟩
def yT175:AT:=⟨.int .u64,1,8,.i .u64 0,true,false,false⟩
def yT176:AT:=⟨.ptr 211,1,8,.p0,true,false,false⟩
def yT177:AT:=⟨.fn,1,8,.fn0,false,false,false⟩
def yT178:AT:=⟨.fn,1,8,.fn0,false,false,false⟩
def yT181:AT:=⟨.ptr 272,1,8,.p0,true,false,false⟩
def yT182:AT:=⟨.fn,1,8,.fn0,false,false,false⟩
def yT183:AT:=⟨.fn,1,8,.fn0,false,false,false⟩
def yT184:AT:=⟨.qP [("As",186)],1,16,.eG,true,false,true⟩
def yT185:AT:=⟨.other,1,0,.u,false,false,false⟩
def yT186:AT:=⟨.fn,1,8,.fn0,false,false,false⟩
def yT187:AT:=⟨.qP [("Unwrap",188)],1,16,.eG,true,false,true⟩
def yT188:AT:=⟨.fn,1,8,.fn0,false,false,false⟩
def yT189:AT:=⟨.qP [("Unwrap",191)],1,16,.eG,true,false,true⟩
def yT190:AT:=⟨.slice 36,1,24,.sl0,false,false,false⟩
def yT191:AT:=⟨.fn,1,8,.fn0,false,false,false⟩
def yT192:AT:=⟨.qP [("Is",194)],1,16,.eG,true,false,true⟩
def yT193:AT:=⟨.other,1,0,.u,false,false,false⟩
def yT194:AT:=⟨.fn,1,8,.fn0,false,false,false⟩
def yT195:AT:=⟨.fn,1,8,.fn0,false,false,false⟩
def yT196:AT:=⟨.fn,1,8,.fn0,false,false,false⟩
def yT197:AT:=⟨.fn,1,8,.fn0,false,false,false⟩
def yT198:AT:=⟨.fn,1,8,.fn0,false,false,false⟩
def yT199:AT:=⟨.fn,1,8,.fn0,false,false,false⟩
def yT200:AT:=⟨.fn,1,8,.fn0,false,false,false⟩
def yT201:AT:=⟨.fn,1,8,.fn0,false,false,false⟩
def yT202:AT:=⟨.fn,1,8,.fn0,false,false,false⟩
def yT203:AT:=⟨.fn,1,8,.fn0,false,false,false⟩
def yT204:AT:=⟨.fn,1,8,.fn0,false,false,false⟩
def yT205:AT:=⟨.slice 207,1,24,.sl0,false,false,false⟩
def yT206:AT:=⟨.st [(0,3,false),(1,3,false)],2,16,.ag [.i .i64 0,.i .i64 0],true,false,false⟩
def yT207:AT:=⟨.st [(0,3,false),(1,3,false)],2,16,.ag [.i .i64 0,.i .i64 0],true,false,false⟩
def yT208:AT:=⟨.fn,1,8,.fn0,false,false,false⟩
def yT209:AT:=⟨.ptr 222,1,8,.p0,true,false,false⟩
def yT210:AT:=⟨.st [(0,9,false),(1,9,false),(2,36,false)],3,48,.ag [.s [],.s [],.eG],true,false,true⟩
def yT211:AT:=⟨.st [(0,9,false),(1,9,false),(2,36,false)],3,48,.ag [.s [],.s [],.eG],true,false,true⟩
def yT212:AT:=⟨.fn,1,8,.fn0,false,false,false⟩
def yT213:AT:=⟨.fn,1,8,.fn0,false,false,false⟩
def yT214:AT:=⟨.fn,1,8,.fn0,false,false,false⟩
def yT215:AT:=⟨.other,1,0,.u,false,false,false⟩
def yT216:AT:=⟨.fn,1,8,.fn0,false,false,false⟩
def yT217:AT:=⟨.fn,1,8,.fn0,false,false,false⟩
def yT218:AT:=⟨.fn,1,8,.fn0,false,false,false⟩
def yT219:AT:=⟨.slice 225,1,24,.sl0,false,false,false⟩
def yT220:AT:=⟨.slice 228,1,24,.sl0,false,false,false⟩
def yT221:AT:=⟨.st [(0,219,false),(1,220,false),(2,3,false)],3,56,.ag [.sl0,.sl0,.i .i64 0],false,false,false⟩
def yT222:AT:=⟨.st [(0,219,false),(1,220,false),(2,3,false)],3,56,.ag [.sl0,.sl0,.i .i64 0],false,false,false⟩
def yT223:AT:=⟨.int .u16,1,2,.i .u16 0,true,false,false⟩
def yT224:AT:=⟨.st [(0,223,false),(1,223,false),(2,223,false)],3,6,.ag [.i .u16 0,.i .u16 0,.i .u16 0],true,false,false⟩
def yT225:AT:=⟨.st [(0,223,false),(1,223,false),(2,223,false)],3,6,.ag [.i .u16 0,.i .u16 0,.i .u16 0],true,false,false⟩
def yT226:AT:=⟨.fn,1,8,.fn0,false,false,false⟩
def yT227:AT:=⟨.st [(0,47,false),(1,47,false),(2,47,false)],3,12,.ag [.i .u32 0,.i .u32 0,.i .u32 0],true,false,false⟩
def yT228:AT:=⟨.st [(0,47,false),(1,47,false),(2,47,false)],3,12,.ag [.i .u32 0,.i .u32 0,.i .u32 0],true,false,false⟩
def yT229:AT:=⟨.fn,1,8,.fn0,false,false,false⟩
def yT230:AT:=⟨.ptr 232,1,8,.p0,true,false,false⟩
def yT231:AT:=⟨.st [(0,9,false)],1,16,.ag [.s []],true,false,false⟩
def yT232:AT:=⟨.st [(0,9,false)],1,16,.ag [.s []],true,false,false⟩
def yT233:AT:=⟨.fn,1,8,.fn0,false,false,false⟩
def yT234:AT:=⟨.other,1,0,.u,false,false,false⟩
def yT235:AT:=⟨.fn,1,8,.fn0,false,false,false⟩
def yT236:AT:=⟨.other,1,0,.u,false,false,false⟩
def yT237:AT:=⟨.fn,1,8,.fn0,false,false,false⟩
def Us:AT:=⟨.map 9 3,1,8,.wB,false,false,false⟩
def yT239:AT:=⟨.ptr 225,1,8,.p0,true,false,false⟩
def yT240:AT:=⟨.ptr 228,1,8,.p0,true,false,false⟩
def yT241:AT:=⟨.fn,1,8,.fn0,false,false,false⟩
def yT242:AT:=⟨.fn,1,8,.fn0,false,false,false⟩
def yT243:AT:=⟨.arr 24 5,24,24,.ag [.i .u8 0,.i .u8 0,.i .u8 0,.i .u8 0,.i .u8 0,.i .u8 0,.i .u8 0,.i .u8 0,.i .u8 0,.i .u8 0,.i .u8 0,.i .u8 0,.i .u8 0,.i .u8 0,.i .u8 0,.i .u8 0,.i .u8 0,.i .u8 0,.i .u8 0,.i .u8 0,.i .u8 0,.i .u8 0,.i .u8 0,.i .u8 0],true,false,false⟩
def yT244:AT:=⟨.fn,1,8,.fn0,false,false,false⟩
def yT245:AT:=⟨.fn,1,8,.fn0,false,false,false⟩
def yT246:AT:=⟨.other,1,0,.u,false,false,false⟩
def yT247:AT:=⟨.fn,1,8,.fn0,false,false,false⟩
def yT248:AT:=⟨.fn,1,8,.fn0,false,false,false⟩
def yT249:AT:=⟨.fn,1,8,.fn0,false,false,false⟩
def yT250:AT:=⟨.arr 20 111,20,160,.ag [.i .u64 0,.i .u64 0,.i .u64 0,.i .u64 0,.i .u64 0,.i .u64 0,.i .u64 0,.i .u64 0,.i .u64 0,.i .u64 0,.i .u64 0,.i .u64 0,.i .u64 0,.i .u64 0,.i .u64 0,.i .u64 0,.i .u64 0,.i .u64 0,.i .u64 0,.i .u64 0],true,false,false⟩
def yT251:AT:=⟨.arr 65 5,65,65,.ag [.i .u8 0,.i .u8 0,.i .u8 0,.i .u8 0,.i .u8 0,.i .u8 0,.i .u8 0,.i .u8 0,.i .u8 0,.i .u8 0,.i .u8 0,.i .u8 0,.i .u8 0,.i .u8 0,.i .u8 0,.i .u8 0,.i .u8 0,.i .u8 0,.i .u8 0,.i .u8 0,.i .u8 0,.i .u8 0,.i .u8 0,.i .u8 0,.i .u8 0,.i .u8 0,.i .u8 0,.i .u8 0,.i .u8 0,.i .u8 0,.i .u8 0,.i .u8 0,.i .u8 0,.i .u8 0,.i .u8 0,.i .u8 0,.i .u8 0,.i .u8 0,.i .u8 0,.i .u8 0,.i .u8 0,.i .u8 0,.i .u8 0,.i .u8 0,.i .u8 0,.i .u8 0,.i .u8 0,.i .u8 0,.i .u8 0,.i .u8 0,.i .u8 0,.i .u8 0,.i .u8 0,.i .u8 0,.i .u8 0,.i .u8 0,.i .u8 0,.i .u8 0,.i .u8 0,.i .u8 0,.i .u8 0,.i .u8 0,.i .u8 0,.i .u8 0,.i .u8 0],true,false,false⟩
def yT252:AT:=⟨.fn,1,8,.fn0,false,false,false⟩
def yT253:AT:=⟨.fn,1,8,.fn0,false,false,false⟩
def yT254:AT:=⟨.fn,1,8,.fn0,false,false,false⟩
def yT255:AT:=⟨.arr 32 5,32,32,.ag [.i .u8 0,.i .u8 0,.i .u8 0,.i .u8 0,.i .u8 0,.i .u8 0,.i .u8 0,.i .u8 0,.i .u8 0,.i .u8 0,.i .u8 0,.i .u8 0,.i .u8 0,.i .u8 0,.i .u8 0,.i .u8 0,.i .u8 0,.i .u8 0,.i .u8 0,.i .u8 0,.i .u8 0,.i .u8 0,.i .u8 0,.i .u8 0,.i .u8 0,.i .u8 0,.i .u8 0,.i .u8 0,.i .u8 0,.i .u8 0,.i .u8 0,.i .u8 0],true,false,false⟩
def yT256:AT:=⟨.arr 64 5,64,64,.ag [.i .u8 0,.i .u8 0,.i .u8 0,.i .u8 0,.i .u8 0,.i .u8 0,.i .u8 0,.i .u8 0,.i .u8 0,.i .u8 0,.i .u8 0,.i .u8 0,.i .u8 0,.i .u8 0,.i .u8 0,.i .u8 0,.i .u8 0,.i .u8 0,.i .u8 0,.i .u8 0,.i .u8 0,.i .u8 0,.i .u8 0,.i .u8 0,.i .u8 0,.i .u8 0,.i .u8 0,.i .u8 0,.i .u8 0,.i .u8 0,.i .u8 0,.i .u8 0,.i .u8 0,.i .u8 0,.i .u8 0,.i .u8 0,.i .u8 0,.i .u8 0,.i .u8 0,.i .u8 0,.i .u8 0,.i .u8 0,.i .u8 0,.i .u8 0,.i .u8 0,.i .u8 0,.i .u8 0,.i .u8 0,.i .u8 0,.i .u8 0,.i .u8 0,.i .u8 0,.i .u8 0,.i .u8 0,.i .u8 0,.i .u8 0,.i .u8 0,.i .u8 0,.i .u8 0,.i .u8 0,.i .u8 0,.i .u8 0,.i .u8 0,.i .u8 0],true,false,false⟩
def yT259:AT:=⟨.arr 0 16,0,0,.ag [],true,false,false⟩
def yT262:AT:=⟨.fn,1,8,.fn0,false,false,false⟩
def yT263:AT:=⟨.int .u8,1,1,.i .u8 0,true,false,false⟩
def yT264:AT:=⟨.fn,1,8,.fn0,false,false,false⟩
def yT265:AT:=⟨.int .i32,1,4,.i .i32 0,true,false,false⟩
def yT266:AT:=⟨.int .i32,1,4,.i .i32 0,true,false,false⟩
def yT269:AT:=⟨.fn,1,8,.fn0,false,false,false⟩
def yT270:AT:=⟨.fn,1,8,.fn0,false,false,false⟩
def yT273:AT:=⟨.ptr 276,1,8,.p0,true,false,false⟩
def yT274:AT:=⟨.fn,1,8,.fn0,false,false,false⟩
def yT277:AT:=⟨.slice 280,1,24,.sl0,false,false,false⟩
def yT278:AT:=⟨.int .i32,1,4,.i .i32 0,true,false,false⟩
def yT281:AT:=⟨.ptr 36,1,8,.p0,true,false,false⟩
def fK:BT:=(.node 135 (.node 69 (.node 36 (.node 20 (.node 8 (.node 4 (.node 2 (.node 1 (.leaf 0 yT0) (.leaf 1 yT1)) (.node 3 (.leaf 2 yT2) (.leaf 3 gZ))) (.node 6 (.node 5 (.leaf 4 Qw) (.leaf 5 yT5)) (.node 7 (.leaf 6 yT6) (.leaf 7 yT7)))) (.node 12 (.node 10 (.node 9 (.leaf 8 yT8) (.leaf 9 iw)) (.node 11 (.leaf 10 yT10) (.leaf 11 yT11))) (.node 16 (.node 15 (.leaf 12 yT12) (.leaf 15 yT15)) (.node 17 (.leaf 16 yT16) (.leaf 17 yT17))))) (.node 28 (.node 24 (.node 22 (.node 21 (.leaf 20 yT20) (.leaf 21 yT21)) (.node 23 (.leaf 22 yT22) (.leaf 23 Ur))) (.node 26 (.node 25 (.leaf 24 yT24) (.leaf 25 yT25)) (.node 27 (.leaf 26 yT26) (.leaf 27 yT27)))) (.node 32 (.node 30 (.node 29 (.leaf 28 yT28) (.leaf 29 yT29)) (.node 31 (.leaf 30 yT30) (.leaf 31 yT31))) (.node 34 (.node 33 (.leaf 32 yT32) (.leaf 33 yT33)) (.node 35 (.leaf 34 yT34) (.leaf 35 yT35)))))) (.node 52 (.node 44 (.node 40 (.node 38 (.node 37 (.leaf 36 yT36) (.leaf 37 yT37)) (.node 39 (.leaf 38 yT38) (.leaf 39 yT39))) (.node 42 (.node 41 (.leaf 40 pF) (.leaf 41 yT41)) (.node 43 (.leaf 42 yT42) (.leaf 43 yT43)))) (.node 48 (.node 46 (.node 45 (.leaf 44 AQ) (.leaf 45 yT45)) (.node 47 (.leaf 46 yT46) (.leaf 47 yT47))) (.node 50 (.node 49 (.leaf 48 yT48) (.leaf 49 yT49)) (.node 51 (.leaf 50 yT50) (.leaf 51 yT51))))) (.node 60 (.node 56 (.node 54 (.node 53 (.leaf 52 bY) (.leaf 53 yT53)) (.node 55 (.leaf 54 yY) (.leaf 55 yT55))) (.node 58 (.node 57 (.leaf 56 yT56) (.leaf 57 yT57)) (.node 59 (.leaf 58 yT58) (.leaf 59 yT59)))) (.node 64 (.node 62 (.node 61 (.leaf 60 yT60) (.leaf 61 yT61)) (.node 63 (.leaf 62 yT62) (.leaf 63 yT63))) (.node 66 (.node 65 (.leaf 64 yT64) (.leaf 65 HY)) (.node 67 (.leaf 66 yT66) (.node 68 (.leaf 67 yT67) (.leaf 68 xH)))))))) (.node 102 (.node 85 (.node 77 (.node 73 (.node 71 (.node 70 (.leaf 69 gq) (.leaf 70 yT70)) (.node 72 (.leaf 71 yT71) (.leaf 72 dY))) (.node 75 (.node 74 (.leaf 73 dM) (.leaf 74 yT74)) (.node 76 (.leaf 75 yT75) (.leaf 76 yT76)))) (.node 81 (.node 79 (.node 78 (.leaf 77 yT77) (.leaf 78 yT78)) (.node 80 (.leaf 79 yT79) (.leaf 80 yT80))) (.node 83 (.node 82 (.leaf 81 yT81) (.leaf 82 yT82)) (.node 84 (.leaf 83 yT83) (.leaf 84 yT84))))) (.node 93 (.node 89 (.node 87 (.node 86 (.leaf 85 oM) (.leaf 86 yT86)) (.node 88 (.leaf 87 yT87) (.leaf 88 yT88))) (.node 91 (.node 90 (.leaf 89 yT89) (.leaf 90 yT90)) (.node 92 (.leaf 91 yT91) (.leaf 92 yT92)))) (.node 97 (.node 95 (.node 94 (.leaf 93 yT93) (.leaf 94 yT94)) (.node 96 (.leaf 95 yT95) (.leaf 96 yT96))) (.node 99 (.node 98 (.leaf 97 yT97) (.leaf 98 yT98)) (.node 100 (.leaf 99 yT99) (.node 101 (.leaf 100 aU) (.leaf 101 Ai))))))) (.node 118 (.node 110 (.node 106 (.node 104 (.node 103 (.leaf 102 yT102) (.leaf 103 yT103)) (.node 105 (.leaf 104 yT104) (.leaf 105 yT105))) (.node 108 (.node 107 (.leaf 106 yT106) (.leaf 107 yT107)) (.node 109 (.leaf 108 yT108) (.leaf 109 yT109)))) (.node 114 (.node 112 (.node 111 (.leaf 110 yT110) (.leaf 111 yT111)) (.node 113 (.leaf 112 yT112) (.leaf 113 yT113))) (.node 116 (.node 115 (.leaf 114 yT114) (.leaf 115 yT115)) (.node 117 (.leaf 116 yT116) (.leaf 117 yT117))))) (.node 126 (.node 122 (.node 120 (.node 119 (.leaf 118 yT118) (.leaf 119 yT119)) (.node 121 (.leaf 120 yT120) (.leaf 121 yT121))) (.node 124 (.node 123 (.leaf 122 yT122) (.leaf 123 yT123)) (.node 125 (.leaf 124 yT124) (.leaf 125 yT125)))) (.node 130 (.node 128 (.node 127 (.leaf 126 yT126) (.leaf 127 yT127)) (.node 129 (.leaf 128 yT128) (.leaf 129 yT129))) (.node 132 (.node 131 (.leaf 130 yT130) (.leaf 131 yT131)) (.node 133 (.leaf 132 yT132) (.node 134 (.leaf 133 yT133) (.leaf 134 yT134))))))))) (.node 204 (.node 169 (.node 153 (.node 143 (.node 139 (.node 137 (.node 136 (.leaf 135 yT135) (.leaf 136 yT136)) (.node 138 (.leaf 137 yT137) (.leaf 138 yT138))) (.node 141 (.node 140 (.leaf 139 yT139) (.leaf 140 yT140)) (.node 142 (.leaf 141 yT141) (.leaf 142 yT142)))) (.node 149 (.node 147 (.node 146 (.leaf 143 yT143) (.leaf 146 yT146)) (.node 148 (.leaf 147 yT147) (.leaf 148 yT148))) (.node 151 (.node 150 (.leaf 149 yT149) (.leaf 150 yT150)) (.node 152 (.leaf 151 yT151) (.leaf 152 yT152))))) (.node 161 (.node 157 (.node 155 (.node 154 (.leaf 153 yT153) (.leaf 154 yT154)) (.node 156 (.leaf 155 yT155) (.leaf 156 yT156))) (.node 159 (.node 158 (.leaf 157 yT157) (.leaf 158 yT158)) (.node 160 (.leaf 159 yT159) (.leaf 160 yT160)))) (.node 165 (.node 163 (.node 162 (.leaf 161 yT161) (.leaf 162 yT162)) (.node 164 (.leaf 163 yT163) (.leaf 164 yT164))) (.node 167 (.node 166 (.leaf 165 yT165) (.leaf 166 yT166)) (.node 168 (.leaf 167 yT167) (.leaf 168 yT168)))))) (.node 187 (.node 177 (.node 173 (.node 171 (.node 170 (.leaf 169 yT169) (.leaf 170 yT170)) (.node 172 (.leaf 171 yT171) (.leaf 172 yT172))) (.node 175 (.node 174 (.leaf 173 yT173) (.leaf 174 yT174)) (.node 176 (.leaf 175 yT175) (.leaf 176 yT176)))) (.node 183 (.node 181 (.node 178 (.leaf 177 yT177) (.leaf 178 yT178)) (.node 182 (.leaf 181 yT181) (.leaf 182 yT182))) (.node 185 (.node 184 (.leaf 183 yT183) (.leaf 184 yT184)) (.node 186 (.leaf 185 yT185) (.leaf 186 yT186))))) (.node 195 (.node 191 (.node 189 (.node 188 (.leaf 187 yT187) (.leaf 188 yT188)) (.node 190 (.leaf 189 yT189) (.leaf 190 yT190))) (.node 193 (.node 192 (.leaf 191 yT191) (.leaf 192 yT192)) (.node 194 (.leaf 193 yT193) (.leaf 194 yT194)))) (.node 199 (.node 197 (.node 196 (.leaf 195 yT195) (.leaf 196 yT196)) (.node 198 (.leaf 197 yT197) (.leaf 198 yT198))) (.node 201 (.node 200 (.leaf 199 yT199) (.leaf 200 yT200)) (.node 202 (.leaf 201 yT201) (.node 203 (.leaf 202 yT202) (.leaf 203 yT203)))))))) (.node 237 (.node 220 (.node 212 (.node 208 (.node 206 (.node 205 (.leaf 204 yT204) (.leaf 205 yT205)) (.node 207 (.leaf 206 yT206) (.leaf 207 yT207))) (.node 210 (.node 209 (.leaf 208 yT208) (.leaf 209 yT209)) (.node 211 (.leaf 210 yT210) (.leaf 211 yT211)))) (.node 216 (.node 214 (.node 213 (.leaf 212 yT212) (.leaf 213 yT213)) (.node 215 (.leaf 214 yT214) (.leaf 215 yT215))) (.node 218 (.node 217 (.leaf 216 yT216) (.leaf 217 yT217)) (.node 219 (.leaf 218 yT218) (.leaf 219 yT219))))) (.node 228 (.node 224 (.node 222 (.node 221 (.leaf 220 yT220) (.leaf 221 yT221)) (.node 223 (.leaf 222 yT222) (.leaf 223 yT223))) (.node 226 (.node 225 (.leaf 224 yT224) (.leaf 225 yT225)) (.node 227 (.leaf 226 yT226) (.leaf 227 yT227)))) (.node 232 (.node 230 (.node 229 (.leaf 228 yT228) (.leaf 229 yT229)) (.node 231 (.leaf 230 yT230) (.leaf 231 yT231))) (.node 234 (.node 233 (.leaf 232 yT232) (.leaf 233 yT233)) (.node 235 (.leaf 234 yT234) (.node 236 (.leaf 235 yT235) (.leaf 236 yT236))))))) (.node 253 (.node 245 (.node 241 (.node 239 (.node 238 (.leaf 237 yT237) (.leaf 238 Us)) (.node 240 (.leaf 239 yT239) (.leaf 240 yT240))) (.node 243 (.node 242 (.leaf 241 yT241) (.leaf 242 yT242)) (.node 244 (.leaf 243 yT243) (.leaf 244 yT244)))) (.node 249 (.node 247 (.node 246 (.leaf 245 yT245) (.leaf 246 yT246)) (.node 248 (.leaf 247 yT247) (.leaf 248 yT248))) (.node 251 (.node 250 (.leaf 249 yT249) (.leaf 250 yT250)) (.node 252 (.leaf 251 yT251) (.leaf 252 yT252))))) (.node 265 (.node 259 (.node 255 (.node 254 (.leaf 253 yT253) (.leaf 254 yT254)) (.node 256 (.leaf 255 yT255) (.leaf 256 yT256))) (.node 263 (.node 262 (.leaf 259 yT259) (.leaf 262 yT262)) (.node 264 (.leaf 263 yT263) (.leaf 264 yT264)))) (.node 273 (.node 269 (.node 266 (.leaf 265 yT265) (.leaf 266 yT266)) (.node 270 (.leaf 269 yT269) (.leaf 270 yT270))) (.node 277 (.node 274 (.leaf 273 yT273) (.leaf 274 yT274)) (.node 278 (.leaf 277 yT277) (.node 281 (.leaf 278 yT278) (.leaf 281 yT281))))))))))
theorem aC:jR.Ok fK.get Tryz.prog:=BT.ok (by kernel_rfl)
end Go.bK.YtobmjhfgmhfocaaGreatDoor
namespace Go.bK
structure ay (X:Ctx)(f:Nat)(args:List AV)(σ:St)(Q:AV→St→Prop):Prop where
 ev:Eu X f args σ Q
structure b_ (X:Ctx)(live:List Nat)(c:AC)(e:Env)(σ:St)(Q:Out→Env→St→Prop):Prop where
 ev:EvL X live c e σ Q
def Ut (op:BinOp)(k:IntKind)(a b:Int)(Q:AV→Prop):Prop:=match op with
 | .add=>Na k (a+b) Q
 | .sub=>Na k (a - b) Q
 | .mul=>Na k (a*b) Q
 | .quo=>b≠0∧Na k (a.tdiv b) Q
 | .rem=>b≠0∧Q (.i k (a.tmod b))
 | .eql=>fc (.b (decide (a=b))) Q
 | .neq=>fc (.b (!decide (a=b))) Q
 | .lss=>fc (.b (decide (a<b))) Q
 | .leq=>fc (.b (decide (a≤b))) Q
 | .gtr=>fc (.b (decide (b<a))) Q
 | .geq=>fc (.b (decide (b≤a))) Q
 | op=>om (wI op k a b) Q
theorem Uu {op:BinOp} {k:IntKind} {a b:Int} {Q:AV→Prop} (h:Ut op k a b Q):opt (jm op k a b) Q:=by
 cases op <;> simp only [Ut] at h
 all_goals first
  | (obtain⟨r,rfl,h⟩:=h;exact⟨_,rfl,h⟩)
  | (obtain⟨h1,r,rfl,h⟩:=h;exact⟨_,by simp only [jm];rw [if_neg h1],h⟩)
  | (obtain⟨h1,h⟩:=h;exact⟨_,by simp only [jm];rw [if_neg h1],h⟩)
  | (have h:=iC _ _ h;exact⟨_,rfl,h⟩)
  | exact Dh h
def H6 (op:BinOp)(k:IntKind)(a b:Int)(Q:AV→Prop):Prop:=match op with
 | .shl=>0≤b∧Na k (a*2^(min b.toNat k.bits)) Q
 | .shr=>0≤b∧Q (.i k (a.fdiv (2^(min b.toNat k.bits))))
 | _=>False
theorem FX {op:BinOp} {k:IntKind} {a b:Int} {Q:AV→Prop} (h:H6 op k a b Q):opt (pX op k a b) Q:=by
 cases op <;> simp only [H6] at h
 ·obtain⟨h1,r,rfl,h⟩:=h;exact⟨_,by simp only [pX];rw [if_neg (by omega)],h⟩
 ·obtain⟨h1,h⟩:=h;exact⟨_,by simp only [pX];rw [if_neg (by omega)],h⟩
def Uw (op:BinOp)(a b:List UInt8)(Q:AV→Prop):Prop:=match op with
 | .add=>a.length+b.length≤9223372036854775807∧Q (.s (a ++ b))
 | .eql=>fc (.b (a == b)) Q
 | .neq=>fc (.b (!(a == b))) Q
 | op=>om (kL op a b) Q
theorem Ux {op:BinOp} {a b:List UInt8} {Q:AV→Prop} (h:Uw op a b Q):opt (kL op a b) Q:=by
 cases op <;> simp only [Uw] at h
 all_goals first
  | (obtain⟨h1,h⟩:=h;exact⟨_,by simp only [kL];rw [if_pos h1],h⟩)
  | (have h:=iC _ _ h;exact⟨_,rfl,h⟩)
  | exact Dh h
def wEq (τ:jR)(t:Nat)(x y:AV)(n:Bool)(Q:AV→Prop):Prop:=om (eqT τ 20 t x y) fun r=>fc (.b (bif n then !r else r)) Q
def wBin (τ:jR)(op:BinOp)(t:Nat)(x y:AV)(c:Bool)(Q:AV→Prop):Prop:=match op,x,y with
 | .shl,.i k a,.i _ b=>H6 .shl k a b Q
 | .shr,.i k a,.i _ b=>H6 .shr k a b Q
 | op,.i k a,.i k' b=>cB (decide (k=k')) (Ut op k a b Q) False
 | op,.s a,.s b=>Uw op a b Q
 | .eql,.eG,.eG=>cB c (wEq τ t .eG .eG false Q) False
 | .neq,.eG,.eG=>cB c (wEq τ t .eG .eG true Q) False
 | .eql,.ag xs,.ag ys=>om (τ t) fun T=>cB T.guarded False (wEq τ t (.ag xs) (.ag ys) false Q)
 | .neq,.ag xs,.ag ys=>om (τ t) fun T=>cB T.guarded False (wEq τ t (.ag xs) (.ag ys) true Q)
 | .eql,x,y=>wEq τ t x y false Q
 | .neq,x,y=>wEq τ t x y true Q
 | _,_,_=>False
theorem lu {t:Bool} {A:Prop} (h:cB t A False):t=true∧A:=by cases t;exact h.elim;exact⟨rfl,h⟩
theorem cB_f {t:Bool} {A:Prop} (h:cB t False A):t=false∧A:=by cases t;exact⟨rfl,h⟩;exact h.elim
theorem bD {α:Type} {o:Option α} {Q:α→Prop} (h:om o Q):∃a,o=some a∧Q a:=Dh h
theorem Nb {τ:jR} {P:Program} (bJ:τ.Ok P) {t:Nat} {x y:AV} {Q:AV→Prop} (h:wEq τ t x y false Q):opt ((tJ P 20 t x y).map .b) Q:=by
 obtain⟨b,hb,h⟩:=bD h
 exact⟨_,by rw [Hz bJ _ _ _ _ _ hb];rfl,iC _ _ h⟩
theorem Nc {τ:jR} {P:Program} (bJ:τ.Ok P) {t:Nat} {x y:AV} {Q:AV→Prop} (h:wEq τ t x y true Q):opt ((tJ P 20 t x y).map fun r=>.b !r) Q:=by
 obtain⟨b,hb,h⟩:=bD h
 exact⟨_,by rw [Hz bJ _ _ _ _ _ hb];rfl,iC _ _ h⟩
theorem Yt {τ:jR} {P:Program} (bJ:τ.Ok P) {op:BinOp} {t:Nat} {x y:AV} {c:Bool} {Q:AV→Prop} (h:wBin τ op t x y c Q):opt (jr P op t x y c) Q:=by
 unfold wBin at h
 split at h
 ·exact FX h
 ·exact FX h
 ·rename_i op k a k' b h1 h2
  obtain⟨hk,h⟩:=lu h
  have hk:=of_decide_eq_true hk
  have:=Uu h
  subst hk
  cases op
  all_goals first
   | exact(h1 rfl).elim
   | exact(h2 rfl).elim
   | (simp only [jr,if_true];exact this)
 ·have:=Ux h
  have e:∀o a b,jr P o t (.s a) (.s b) c=kL o a b:=by intro o a b;unfold jr;cases o <;> rfl
  rw [e];exact this
 ·obtain⟨rfl,h⟩:=lu h
  have:=Nb bJ h
  simpa [jr] using this
 ·obtain⟨rfl,h⟩:=lu h
  have:=Nc bJ h
  simpa [jr] using this
 ·obtain⟨T,hT,h⟩:=bD h
  obtain⟨hg,h⟩:=cB_f h
  have:=Nb bJ h
  simpa [jr,bJ _ _ hT,hg] using this
 ·obtain⟨T,hT,h⟩:=bD h
  obtain⟨hg,h⟩:=cB_f h
  have:=Nc bJ h
  simpa [jr,bJ _ _ hT,hg] using this
 ·rename_i x y h1 h2 h3 h4
  have:=Nb bJ h
  unfold jr
  split
  all_goals first
   | exact this
   | (exfalso;exact h1 _ _ _ _ rfl rfl)
   | (exfalso;exact h1 _ _ _ _ rfl rfl rfl)
   | (exfalso;exact h2 _ _ rfl rfl)
   | (exfalso;exact h3 rfl rfl)
   | (exfalso;exact h4 _ _ rfl rfl)
   | (exfalso;simp_all;done)
   | simp_all
 ·rename_i x y h1 h2 h3 h4
  have:=Nc bJ h
  unfold jr
  split
  all_goals first
   | exact this
   | (exfalso;exact h1 _ _ _ _ rfl rfl)
   | (exfalso;exact h1 _ _ _ _ rfl rfl rfl)
   | (exfalso;exact h2 _ _ rfl rfl)
   | (exfalso;exact h3 rfl rfl)
   | (exfalso;exact h4 _ _ rfl rfl)
   | (exfalso;simp_all;done)
   | simp_all
 ·exact h.elim
def Nh (τ:jR)(e:Nat):Bool:=match τ e with
 | some ⟨.int .u8,_,_,_,_,_,_⟩=>true
 | _=>false
theorem xI {τ:jR} {P:Program} (bJ:τ.Ok P) {e:Nat} (h:Nh τ e=true):∃a b c d f g,aF P e=some ⟨.int .u8,a,b,c,d,f,g⟩:=by
 unfold Nh at h
 split at h
 ·rename_i a b c d f g he;exact⟨_,_,_,_,_,_,bJ _ _ he⟩
 ·cases h
def Qx (n:Nat)(lo hi:Option AV)(K:Nat→Nat→Prop):Prop:=match lo,hi with
 | none,none=>K 0 n
 | some (.i _ i),none=>∃a:Nat,i=a∧a≤n∧K a n
 | none,some (.i _ j)=>∃b:Nat,j=b∧b≤n∧K 0 b
 | some (.i _ i),some (.i _ j)=>∃a b:Nat,i=a∧j=b∧a≤b∧b≤n∧K a b
 | _,_=>False
theorem H7 {n:Nat} {lo hi:Option AV} {K:Nat→Nat→Prop} (h:Qx n lo hi K):∃a b,dZ n n lo hi=some (a,b)∧a≤b∧b≤n∧K a b:=by
 unfold Qx at h
 split at h
 ·exact⟨0,n,by simp [dZ,LZ,L6],Nat.zero_le _,Nat.le_refl _,h⟩
 ·obtain⟨a,rfl,h1,h⟩:=h
  refine⟨a,n,?_,h1,Nat.le_refl _,h⟩
  simp only [dZ,LZ,L6,Option.bind_some];rw [if_pos (by omega)];simp
 ·obtain⟨b,rfl,h1,h⟩:=h
  refine⟨0,b,?_,Nat.zero_le _,h1,h⟩
  simp only [dZ,LZ];rw [if_pos (by omega)];simp [L6]
 ·obtain⟨a,b,rfl,rfl,h1,h2,h⟩:=h
  refine⟨a,b,?_,h1,h2,h⟩
  simp only [dZ,LZ];rw [if_pos (by omega)];simp only [Option.bind_some,L6];rw [if_pos (by omega)];simp
 ·exact h.elim
def Uy (x:List UInt8)(lo hi:Option AV)(Q:AV→Prop):Prop:=match lo,hi with
 | none,none=>Q (.s x)
 | some (.i _ i),none=>∃a:Nat,i=a∧a≤x.length∧Q (.s (x.drop a))
 | none,some (.i _ j)=>∃b:Nat,j=b∧b≤x.length∧Q (.s (x.take b))
 | some (.i _ i),some (.i _ j)=>∃a b:Nat,i=a∧j=b∧a≤b∧b≤x.length∧Q (.s ((x.drop a).take (b - a)))
 | _,_=>False
theorem Uz {x:List UInt8} {lo hi:Option AV} {Q:AV→Prop} (h:Uy x lo hi Q):opt ((dZ x.length x.length lo hi).map fun r=>AV.s ((x.drop r.1).take (r.2 - r.1))) Q:=by
 have key:Qx x.length lo hi fun a b=>Q (.s ((x.drop a).take (b - a))):=by
  unfold Uy at h
  unfold Qx
  split at h
  ·simpa using h
  ·obtain⟨a,h1,h2,h⟩:=h
   refine⟨a,h1,h2,?_⟩
   simp only
   rw [List.take_of_length_le (by simp)];exact h
  ·simpa using h
  ·exact h
  ·exact h.elim
 obtain⟨a,b,h1,_,_,h⟩:=H7 key
 exact⟨_,by rw [h1];rfl,h⟩
def wSlc (τ:jR)(t:Nat)(x:AV)(lo hi:Option AV)(σ:St)(Q:AV→Prop):Prop:=
 om (τ t) fun T=>match T.d,x with
 | .str,.s x=>Uy x lo hi Q
 | .slice e,.sl0=>cB (Nat.blt 0 (xG τ e)) (om (dZ 0 0 lo hi) fun _=>Q .sl0) False
 | .slice e,.sl o g off n z=>cB (Nat.beq (xG τ e) z && Nat.blt 0 z) (Qx n lo hi fun a b=>Q (.sl o g (off+a*z) (b - a) z)) False
 | .arr n e,.p o g off=>cB (Nat.blt 0 (xG τ e)) (om (dh σ o g) fun cs=>cB (Nat.ble (off+n*xG τ e) cs.length) (Qx n lo hi fun a b=>Q (.sl o g (off+a*xG τ e) (b - a) (xG τ e))) False) False
 | _,_=>False
theorem lC {a b:Nat} (h:Nat.blt a b=true):a<b:=by unfold Nat.blt at h;exact Nat.le_of_ble_eq_true h
theorem Yu {τ:jR} {P:Program} (bJ:τ.Ok P) {t:Nat} {x:AV} {lo hi:Option AV} {σ:St} {Q:AV→Prop} (h:wSlc τ t x lo hi σ Q):opt (GZ P t x lo hi σ) Q:=by
 obtain⟨⟨d,s,b,z,c,hd,g⟩,hT,h⟩:=bD h
 unfold GZ
 rw [bJ _ _ hT]
 simp only at h ⊢
 split at h
 ·exact Uz h
 ·obtain⟨h1,h⟩:=lu h
  obtain⟨r,h2,h⟩:=bD h
  have h1:=lC h1
  simp only
  rw [if_pos (by rw [mg bJ h1];exact h1),h2]
  exact⟨_,rfl,h⟩
 ·obtain⟨h1,h⟩:=lu h
  rw [Bool.and_eq_true] at h1
  have h2:=Nat.eq_of_beq_eq_true h1.1
  have h3:=lC h1.2
  obtain⟨a,b,h4,_,_,h⟩:=H7 h
  simp only
  rw [if_pos ⟨by rw [mg bJ (by omega)];exact h2,h3⟩,h4]
  exact⟨_,rfl,h⟩
 ·obtain⟨h1,h⟩:=lu h
  obtain⟨cs,h2,h⟩:=bD h
  obtain⟨h3,h⟩:=lu h
  have h1:=lC h1
  have h3:=Nat.le_of_ble_eq_true h3
  obtain⟨a,b,h4,_,_,h⟩:=H7 h
  have hz:=mg bJ h1
  simp only
  rw [hz,if_pos h1,h2,Option.bind_some,if_pos h3,h4]
  exact⟨_,rfl,h⟩
 ·exact h.elim
def wIad (τ:jR)(t:Nat)(x i:AV)(Q:AV→Prop):Prop:=om (τ t) fun T=>match T.d,x,i with
 | .arr n e,.p o g off,.i _ j=>cB (Nat.blt 0 (xG τ e)) (∃m:Nat,j=m∧m<n∧Q (.p o g (off+m*xG τ e))) False
 | .slice e,.sl o g off n z,.i _ j=>cB (Nat.beq (xG τ e) z && Nat.blt 0 z) (∃m:Nat,j=m∧m<n∧Q (.p o g (off+m*z))) False
 | _,_,_=>False
theorem Yv {τ:jR} {P:Program} (bJ:τ.Ok P) {t:Nat} {x i:AV} {Q:AV→Prop} (h:wIad τ t x i Q):opt (L9 P t x i) Q:=by
 obtain⟨⟨d,s,b,z,c,hd,g⟩,hT,h⟩:=bD h
 unfold L9
 rw [bJ _ _ hT]
 simp only at h
 split at h
 ·obtain⟨h1,h⟩:=lu h
  obtain⟨m,rfl,h2,h⟩:=h
  have h1:=lC h1
  have hz:=mg bJ h1
  simp only
  rw [hz,if_pos ⟨h1,by omega,by omega⟩]
  exact⟨_,rfl,by simpa using h⟩
 ·obtain⟨h1,h⟩:=lu h
  obtain⟨m,rfl,h2,h⟩:=h
  rw [Bool.and_eq_true] at h1
  have h3:=Nat.eq_of_beq_eq_true h1.1
  have h4:=lC h1.2
  simp only
  rw [if_pos ⟨by rw [mg bJ (by omega)];exact h3,h4,by omega,by omega⟩]
  exact⟨_,rfl,by simpa using h⟩
 ·exact h.elim
def wIdx (τ:jR)(t:Nat)(x i:AV)(Q:AV→Prop):Prop:=om (τ t) fun T=>match T.d,x,i with
 | .arr n e,.ag cs,.i _ j=>∃m:Nat,j=m∧m<n∧om (τ e) fun E=>om (partOf E cs (m*E.size)) fun v=>fc v Q
 | .str,.s x,.i _ j=>∃(m:Nat) (c:UInt8),j=m∧x[m]? =some c∧Q (.i .u8 c.toNat)
 | _,_,_=>False
theorem Yw {τ:jR} {P:Program} (bJ:τ.Ok P) {t:Nat} {x i:AV} {Q:AV→Prop} (h:wIdx τ t x i Q):opt (L_ P t x i) Q:=by
 obtain⟨⟨d,s,b,z,c,hd,g⟩,hT,h⟩:=bD h
 unfold L_
 rw [bJ _ _ hT]
 simp only at h
 split at h
 ·obtain⟨m,rfl,h2,h⟩:=h
  obtain⟨E,hE,h⟩:=bD h
  obtain⟨v,hv,h⟩:=bD h
  simp only
  rw [if_pos ⟨by omega,by omega⟩,bJ _ _ hE]
  exact⟨v,by simpa using hv,iC _ _ h⟩
 ·obtain⟨m,c,rfl,h2,h⟩:=h
  simp only
  rw [if_pos (by omega)]
  exact⟨_,by rw [Int.toNat_natCast,h2];rfl,h⟩
 ·exact h.elim
def wLen (τ:jR)(t:Nat)(x:AV)(Q:AV→Prop):Prop:=om (τ t) fun T=>match T.d,x with
 | .str,.s x=>Q (.i .i64 x.length)
 | .arr n _,_=>Q (.i .i64 n)
 | .slice _,.sl0=>Q (.i .i64 0)
 | .slice _,.sl _ _ _ n _=>Q (.i .i64 n)
 | _,_=>False
theorem Yx {τ:jR} {P:Program} (bJ:τ.Ok P) {t:Nat} {x:AV} {Q:AV→Prop} (h:wLen τ t x Q):opt (Ew P t x) Q:=by
 obtain⟨⟨d,s,b,z,c,hd,g⟩,hT,h⟩:=bD h
 unfold Ew
 rw [bJ _ _ hT]
 simp only at h
 split at h
 all_goals first
  | exact h.elim
  | exact⟨_,rfl,h⟩
def wFad (τ:jR)(t:Nat)(x:AV)(f:Nat)(Q:AV→Prop):Prop:=om (τ t) fun T=>match T.d,x with
 | .st fs,.p o g off=>om fs[f]? fun r=>cB (Nat.blt 0 (xG τ r.2.1)) (Q (.p o g (off+r.1))) False
 | _,_=>False
theorem Yy {τ:jR} {P:Program} (bJ:τ.Ok P) {t:Nat} {x:AV} {f:Nat} {Q:AV→Prop} (h:wFad τ t x f Q):opt (P7 P t x f) Q:=by
 obtain⟨⟨d,s,b,z,c,hd,g⟩,hT,h⟩:=bD h
 unfold P7
 rw [bJ _ _ hT]
 simp only at h
 split at h
 ·obtain⟨r,hr,h⟩:=bD h
  obtain⟨h1,h⟩:=lu h
  have h1:=lC h1
  simp only
  rw [hr,Option.bind_some,if_pos (by rw [mg bJ h1];exact h1)]
  exact⟨_,rfl,h⟩
 ·exact h.elim
def wFld (τ:jR)(t:Nat)(x:AV)(f:Nat)(Q:AV→Prop):Prop:=om (τ t) fun T=>match T.d,x with
 | .st fs,.ag cs=>om fs[f]? fun r=>om (τ r.2.1) fun F=>om (partOf F cs r.1) fun v=>fc v Q
 | _,_=>False
theorem Yz {τ:jR} {P:Program} (bJ:τ.Ok P) {t:Nat} {x:AV} {f:Nat} {Q:AV→Prop} (h:wFld τ t x f Q):opt (L8 P t x f) Q:=by
 obtain⟨⟨d,s,b,z,c,hd,g⟩,hT,h⟩:=bD h
 unfold L8
 rw [bJ _ _ hT]
 simp only at h
 split at h
 ·obtain⟨r,hr,h⟩:=bD h
  obtain⟨F,hF,h⟩:=bD h
  obtain⟨v,hv,h⟩:=bD h
  simp only
  rw [hr,Option.bind_some,bJ _ _ hF]
  exact⟨v,hv,iC _ _ h⟩
 ·exact h.elim
def allT (τ:jR):List (Nat×Nat×Bool)→Bool
 | []=>true
 | f :: fs=>match τ f.2.1 with
   | some _=>allT τ fs
   | none=>false
theorem H8 {τ:jR} {P:Program} (bJ:τ.Ok P):∀fs,allT τ fs=true→fs.all (fun f=>(aF P f.2.1).isSome)=true
 | [],_=>rfl
 | f :: fs,h=>by
   simp only [allT] at h
   split at h
   ·rename_i T hT;simp only [List.all_cons,bJ _ _ hT,Option.isSome_some,Bool.true_and];exact H8 bJ fs h
   ·cases h
theorem Dk {p q:Nat→Option (Nat×Nat)} (hp:∀i r,p i=some r→q i=some r):∀(l:List (Nat×AV)) (cells r:List AV),jO p cells l=some r→jO q cells l=some r
 | [],_,_,h=>h
 | (i,v) :: l,cells,r,h=>by
   simp only [jO] at h ⊢
   split at h
   ·cases h
   ·rename_i off size he
    rw [hp _ _ he]
    simp only
    split at h
    ·rename_i hc;rw [if_pos hc];exact Dk hp l _ r h
    ·cases h
def UA (τ:jR)(t:Nat)(ps:List (Nat×AV))(Q:AV→Prop):Prop:=om (τ t) fun T=>match T.d with
 | .st fs=>cB (allT τ fs) (om (jO (fun i=>(fs[i]?).bind fun f=>(τ f.2.1).map fun F=>(f.1,F.size)) T.zero.cells ps) fun cs=>JK cs fun cs=>Q (.ag cs)) False
 | .arr _ e=>om (τ e) fun E=>om (jO (fun i=>some (i*E.size,E.size)) T.zero.cells ps) fun cs=>JK cs fun cs=>Q (.ag cs)
 | _=>False
theorem Qy {τ:jR} {P:Program} (bJ:τ.Ok P) {t:Nat} {ps:List (Nat×AV)} {Q:AV→Prop} (h:UA τ t ps Q):opt (vk P t ps) Q:=by
 obtain⟨⟨d,s,b,z,c,hd,g⟩,hT,h⟩:=bD h
 unfold vk
 rw [bJ _ _ hT]
 simp only at h ⊢
 split at h
 ·rename_i fs
  obtain⟨h1,h⟩:=lu h
  obtain⟨cs,h2,h⟩:=bD h
  simp only
  rw [if_pos (H8 bJ fs h1)]
  have h3:=Dk (q:=fun i=>(fs[i]?).bind fun f=>(aF P f.2.1).map fun F=>(f.1,F.size)) (fun i r hi=>by
   rw [Option.bind_eq_some_iff] at hi ⊢
   obtain⟨f,hf,hi⟩:=hi
   rw [Option.map_eq_some_iff] at hi
   obtain⟨F,hF,rfl⟩:=hi
   exact⟨f,hf,by rw [bJ _ _ hF];rfl⟩) _ _ _ h2
  rw [h3]
  exact⟨_,rfl,nH _ _ h⟩
 ·obtain⟨E,hE,h⟩:=bD h
  obtain⟨cs,h2,h⟩:=bD h
  simp only
  rw [bJ _ _ hE]
  simp only
  rw [h2]
  exact⟨_,rfl,nH _ _ h⟩
 ·exact h.elim
end Go.bK
namespace Go.bK
section
variable (τ:jR)(lit:Bool)
def wUn (op:UnOp)(x:AV)(Q:AV→Prop):Prop:=match op,x with
 | .neg,.i k n=>Na k (0 - n) Q
 | .xor,.i k n=>om (wI .xor k (if k.signed then -1 else k.max) n) Q
 | .not,.b p=>fc (.b !p) Q
 | _,_=>False
def wConv (s d:Nat)(x:AV)(σ:St)(Q:AV→St→Prop):Prop:=om (τ s) fun S=>om (τ d) fun D=>match S.d,D.d,x with
 | _,.int k,.i _ n=>Na k n fun v=>Q v σ
 | _,.str,.i _ n=>Q (.s (Utf8.encode n).data.toList) σ
 | .str,.str,.s x=>Q (.s x) σ
 | .str,.slice e,.s x=>cB (Nh τ e) (JM lit σ fun m=>M_ lit (au e (x.map fun b=>.i .u8 b.toNat) σ) fun σ'=>Q (.sl m 0 0 x.length 1) σ') False
 | .slice e,.str,.sl0=>cB (Nh τ e) (Q (.s []) σ) False
 | .slice e,.str,.sl o g off n z=>cB (Nh τ e && Nat.beq z 1) (om (dh σ o g) fun cs=>∃b,off+n≤cs.length∧bytesOf ((cs.drop off).take n)=some b∧Q (.s b) σ) False
 | _,_,_=>False
def wBsl (t len:Nat)(ps:List (Nat×AV))(σ:St)(Q:AV→St→Prop):Prop:=om (τ t) fun T=>match T.d with
 | .slice e=>om (τ e) fun E=>cB (Nat.blt 0 E.size && Nat.beq E.zero.cells.length E.size && Nat.ble (len*E.size) 16777216)
  (om (jO (fun i=>some (i*E.size,E.size)) (nV E.zero.cells len) ps) fun cs=>JK cs fun cs=>JM lit σ fun m=>M_ lit (au e cs σ) fun σ'=>Q (.sl m 0 0 len E.size) σ') False
 | _=>False
def wMks (t:Nat)(l c:AV)(σ:St)(Q:AV→St→Prop):Prop:=om (τ t) fun T=>match T.d,l,c with
 | .slice e,.i _ l,.i _ c=>om (τ e) fun E=>cB (Nat.blt 0 E.size && Nat.beq E.zero.cells.length E.size)
  (∃l' c':Nat,l=l'∧c=c'∧l'≤c'∧c'≤9223372036854775807∧E.bytes*c'≤140737488355328∧JM lit σ fun m=>M_ lit (au e (nV E.zero.cells c') σ) fun σ'=>Q (.sl m 0 0 l' E.size) σ') False
 | _,_,_=>False
def wRng (t:Nat)(x:AV)(σ:St)(Q:AV→St→Prop):Prop:=om (τ t) fun T=>match T.d,x with
 | .str,.s x=>JM lit σ fun m=>M_ lit (σ ++ [⟨0,false,.iter x 0⟩]) fun σ'=>Q (.p m 0 0) σ'
 | _,_=>False
def iterAt (σ:St)(o g:Nat):Option (List UInt8×Nat):=match σ[o]? with
 | some ⟨g',ro,.iter s pos⟩=>bif Nat.beq g g' && !ro then some (s,pos) else none
 | _=>none
def wNxt (x:AV)(σ:St)(Q:AV→St→Prop):Prop:=match x with
 | .p o g off=>cB (Nat.beq off 0) (om (iterAt σ o g) fun r=>
  cB (decide (r.2<r.1.length)) (M_ lit (σ.set o ⟨g,false,.iter r.1 (r.2+(Utf8.decode ⟨r.1.toArray⟩ r.2).2)⟩) fun σ'=>Q (.tu [.b true,.i .i64 r.2,.i .i32 (Utf8.decode ⟨r.1.toArray⟩ r.2).1]) σ') (Q (.tu [.b false]) σ)) False
 | _=>False
def JO (σ:St)(o g e:Nat):Option (List AV):=match σ[o]? with
 | some ⟨g',ro,.cells e' cs⟩=>bif Nat.beq g g' && !ro && Nat.beq e' e then some cs else none
 | _=>none
theorem UC {σ:St} {o g e:Nat} {cs:List AV} (h:JO σ o g e=some cs):σ[o]? =some ⟨g,false,.cells e cs⟩:=by
 unfold JO at h
 split at h
 ·rename_i g' ro e' cs' ho
  cases hb:(Nat.beq g g' && !ro && Nat.beq e' e) with
  | false=>rw [hb] at h;cases h
  | true=>
    rw [hb] at h
    cases h
    simp only [Bool.and_eq_true,Bool.not_eq_true'] at hb
    rw [ho,Nat.eq_of_beq_eq_true hb.1.1,Nat.eq_of_beq_eq_true hb.2,hb.1.2]
 ·cases h
def OY:AD→Bool
 | .qP _=>true
 | _=>false
def wApp (t:Nat)(x y:AV)(σ:St)(Q:AV→St→Prop):Prop:=om (τ t) fun T=>match T.d with
 | .slice e=>om (τ e) fun E=>cB (Nat.blt 0 E.size && Nat.beq E.zero.cells.length E.size && Nat.blt 0 E.bytes)
  (om (fU E.size y σ) fun src=>cB (Nat.beq src.1 0) (match x with | .sl0=>Q .sl0 σ | .sl o g off n z=>Q (.sl o g off n z) σ | _=>False)
   (cB (src.2.all AV.one)
      (match x with
      | .sl0=>src.1*E.bytes≤140737488355328∧JK src.2 fun l=>JM lit σ fun m=>M_ lit (au e l σ) fun σ'=>Q (.sl m 0 0 src.1 E.size) σ'
      | .sl o g off n z=>om (JO σ o g e) fun cs=>z=E.size∧off+n*z≤cs.length∧(n+src.1)*E.bytes≤140737488355328∧((cs.drop off).take (n*z)).all AV.one=true∧
          M_ lit (σ.set o ⟨g+1,false,.cells e (((cs.drop off).take (n*z)) ++ src.2)⟩) fun σ'=>Q (.sl o (g+1) 0 (n+src.1) z) σ'
      | _=>False) False)) False
 | _=>False
structure UD (P:Program)(t I:Nat)(Q:Bool→Prop):Prop where
 ev:om (hasAll P t I) Q
theorem UD.of {P:Program} {t I:Nat} {b:Bool} {Q:Bool→Prop} (h:hasAll P t I=some b)(q:Q b):UD P t I Q:=⟨by rw [h];exact q⟩
def wTas (P:Program)(x:AV)(t:Nat)(ok:Bool)(Q:AV→Prop):Prop:=om (τ t) fun T=>cB (OY T.d) (match x with
 | .eG=>cB ok (Q (.tu [T.zero,.b false])) False
 | .ic t' v=>UD P t' t fun b=>cB b (cB ok (Q (.tu [.ic t' v,.b true])) (Q (.ic t' v))) (cB ok (Q (.tu [T.zero,.b false])) False)
 | _=>False) (match x with
 | .eG=>cB ok (Q (.tu [T.zero,.b false])) False
 | .ic t' v=>cB (Nat.beq t' t) (cB ok (Q (.tu [v,.b true])) (fc v Q)) (cB ok (Q (.tu [T.zero,.b false])) False)
 | _=>False)
end
structure EL (τ:jR)(lit:Bool)(t:Nat)(x y:AV)(σ:St)(Q:AV→St→Prop):Prop where
 ev:wApp τ lit t x y σ Q
def Qz (X:Ctx)(τ:jR)(lit:Bool)(ρ:bH→AV)(op:dH)(σ:St)(Q:AV→St→Prop):Prop:=match op with
 | .mv x=>fc (ρ x) fun v=>Q v σ
 | .pick c a b=>match ρ c with
   | .b t=>cB t (cB (ρ a).cnd (fc (ρ a).val fun v=>Q v σ) False) (cB (ρ b).cnd (fc (ρ b).val fun v=>Q v σ) False)
   | _=>False
 | .alloc t=>om (τ t) fun T=>JM lit σ fun m=>M_ lit (au t T.zero.cells σ) fun σ'=>Q (.p m 0 0) σ'
 | .box t x=>fq (ρ x) fun v=>match v with
   | .u=>False
   | .tu _=>False
   | .cd _ _=>False
   | v=>JM lit σ fun m=>M_ lit (au t v.cells σ) fun σ'=>Q (.p m 0 0) σ'
 | .build t ps=>UA τ t (ps.map fun q=>(q.1,ρ q.2)) fun v=>Q v σ
 | .iT t n ps=>wBsl τ lit t n (ps.map fun q=>(q.1,ρ q.2)) σ Q
 | .load t x=>om (kM (τ t) (ρ x) σ) fun v=>fc v fun v=>Q v σ
 | .store t x y=>om (gJ (τ t) (ρ x) (ρ y) σ) fun σ'=>M_ lit σ' fun σ'=>Q (.tu []) σ'
 | .bF x=>om (MB (ρ x)) fun v=>Q v σ
 | .bin op t x y=>wBin τ op t (ρ x) (ρ y) (x.isC || y.isC) fun v=>Q v σ
 | .un op x=>wUn op (ρ x) fun v=>Q v σ
 | .conv s d x=>wConv τ lit s d (ρ x) σ Q
 | .LX t x=>om (τ t) fun T=>match T.d with
   | .qP _=>False
   | _=>fc (ρ x) fun v=>Q (.ic t v) σ
 | .GY f a c=>JK (a.map ρ) fun a=>JK (c.map ρ) fun c=>Q (.fn f a c) σ
 | .RU t l c=>wMks τ lit t (ρ l) (ρ c) σ Q
 | .slc t x l h=>wSlc τ t (ρ x) (l.map ρ) (h.map ρ) σ fun v=>Q v σ
 | .fG t x f=>wFad τ t (ρ x) f fun v=>Q v σ
 | .P5 t x f=>wFld τ t (ρ x) f fun v=>Q v σ
 | .kK t x i=>wIad τ t (ρ x) (ρ i) fun v=>Q v σ
 | .idx t x i=>wIdx τ t (ρ x) (ρ i) fun v=>Q v σ
 | .rng t x=>wRng τ lit t (ρ x) σ Q
 | .Sj x=>wNxt lit (ρ x) σ Q
 | .RV x _ t ok=>wTas τ X.P (ρ x) t ok fun v=>Q v σ
 | .ext x i=>match ρ x with
   | .tu vs=>om vs[i]? fun v=>fc v fun v=>Q v σ
   | _=>False
 | .call f args=>match ρ f with
   | .fn f first cap=>match f with
     | .func k=>JK (first ++ args.map ρ ++ cap) fun l=>ay X k l σ fun v σ'=>fc v fun v=>Q v σ'
     | _=>False
   | _=>False
 | .inv x m args=>match ρ x with
   | .ic t v=>match X.meth t m v with
     | some k=>JK (k.2 :: args.map ρ) fun l=>ay X k.1 l σ fun v σ'=>fc v fun v=>Q v σ'
     | none=>False
   | _=>False
 | .len t x=>wLen τ t (ρ x) fun v=>Q v σ
 | .app t _ x y=>fq (ρ x) fun x=>fq (ρ y) fun y=>EL τ lit t x y σ Q
 | .copy t x y=>om (Fa X.P t (ρ x) (ρ y) σ) fun r=>M_ lit r.2 fun σ'=>Q r.1 σ'
 | .mn mx xs=>om (aMn mx (xs.map ρ)) fun v=>fc v fun v=>Q v σ
 | .Xg t r=>om (Xp X.P t (r.map ρ) σ) fun r=>M_ lit r.2 fun σ'=>Q r.1 σ'
 | .Oq t x k ok=>om (BP X.P t (ρ x) (ρ k) ok σ) fun v=>fc v fun v=>Q v σ
 | .wG t m k v=>om (Ey X.P t (ρ m) (ρ k) (ρ v) σ) fun σ'=>M_ lit σ' fun σ'=>Q (.tu []) σ'
 | .del t m k=>om (Xo X.P t (ρ m) (ρ k) σ) fun σ'=>M_ lit σ' fun σ'=>Q (.tu []) σ'
 | .Z7 t x=>om (Xq X.P t (ρ x) σ) fun v=>fc v fun v=>Q v σ
 | .sl3 t x l h m=>om (Sr X.P t (ρ x) (l.map ρ) (ρ h) (ρ m)) fun v=>fc v fun v=>Q v σ
 | .pnc _=>False
section
variable {X:Ctx} {τ:jR} (bJ:τ.Ok X.P) {lit:Bool} {σ:St} {Q:AV→St→Prop}
theorem wUn_ok {op:UnOp} {x:AV} {Q:AV→Prop} (h:wUn op x Q):opt (aUn op x) Q:=by
 unfold wUn at h
 split at h
 ·obtain⟨r,rfl,h⟩:=h;exact⟨_,rfl,h⟩
 ·exact Dh h
 ·exact⟨_,rfl,iC _ _ h⟩
 ·exact h.elim
include bJ
theorem UE {s d:Nat} {x:AV} (h:wConv τ lit s d x σ Q):opt (qQ X.P s d x σ) fun r=>Q r.1 r.2:=by
 obtain⟨⟨d1,s1,b1,z1,c1,hd1,g1⟩,hS,h⟩:=bD h
 obtain⟨⟨d2,s2,b2,z2,c2,hd2,g2⟩,hD,h⟩:=bD h
 unfold qQ
 rw [bJ _ _ hS,bJ _ _ hD]
 simp only at h ⊢
 split at h
 ·obtain⟨r,rfl,h⟩:=h;exact⟨_,rfl,h⟩
 ·exact⟨_,rfl,h⟩
 ·exact⟨_,rfl,h⟩
 ·obtain⟨h1,h⟩:=lu h
  obtain⟨a,b,c,d,f,g,he⟩:=xI bJ h1
  simp only [he]
  exact⟨_,rfl,kC _ _ _ (qo _ _ _ h)⟩
 ·obtain⟨h1,h⟩:=lu h
  obtain⟨a,b,c,d,f,g,he⟩:=xI bJ h1
  simp only [he]
  exact⟨_,rfl,h⟩
 ·obtain⟨h1,h⟩:=lu h
  rw [Bool.and_eq_true] at h1
  have hz:=Nat.eq_of_beq_eq_true h1.2
  obtain⟨a,b,c,d,f,g,he⟩:=xI bJ h1.1
  obtain⟨cs,hc,b',h2,h3,h⟩:=bD h
  simp only [he]
  rw [if_pos hz,hc,Option.bind_some,if_pos h2,h3]
  exact⟨_,rfl,h⟩
 ·exact h.elim
theorem YA {t n:Nat} {ps:List (Nat×AV)} (h:wBsl τ lit t n ps σ Q):opt (P6 X.P t n ps σ) fun r=>Q r.1 r.2:=by
 obtain⟨⟨d1,s1,b1,z1,c1,hd1,g1⟩,hT,h⟩:=bD h
 unfold P6
 simp only at h
 split at h
 ·rw [bJ _ _ hT]
  obtain⟨E,hE,h⟩:=bD h
  obtain⟨h1,h⟩:=lu h
  rw [Bool.and_eq_true,Bool.and_eq_true] at h1
  obtain⟨cs,hc,h⟩:=bD h
  simp only [bJ _ _ hE]
  rw [if_pos ⟨lC h1.1.1,Nat.eq_of_beq_eq_true h1.1.2,Nat.le_of_ble_eq_true h1.2⟩,hc]
  exact⟨_,rfl,kC _ _ _ (qo _ _ _ (nH _ _ h))⟩
 ·exact h.elim
theorem YB {t:Nat} {l c:AV} (h:wMks τ lit t l c σ Q):opt (P8 X.P t l c σ) fun r=>Q r.1 r.2:=by
 obtain⟨⟨d1,s1,b1,z1,c1,hd1,g1⟩,hT,h⟩:=bD h
 unfold P8
 rw [bJ _ _ hT]
 simp only at h
 split at h
 ·obtain⟨E,hE,h⟩:=bD h
  obtain⟨h1,h⟩:=lu h
  rw [Bool.and_eq_true] at h1
  obtain⟨l',c',rfl,rfl,h2,h3,h4,h⟩:=h
  simp only [bJ _ _ hE]
  rw [if_pos ⟨lC h1.1,Nat.eq_of_beq_eq_true h1.2,by omega,by omega,by omega,by omega⟩]
  exact⟨_,rfl,kC _ _ _ (qo _ _ _ h)⟩
 ·exact h.elim
theorem YC {t:Nat} {x:AV} (h:wRng τ lit t x σ Q):opt (P9 X.P t x σ) fun r=>Q r.1 r.2:=by
 obtain⟨⟨d1,s1,b1,z1,c1,hd1,g1⟩,hT,h⟩:=bD h
 unfold P9
 rw [bJ _ _ hT]
 simp only at h
 split at h
 ·exact⟨_,rfl,kC _ _ _ (qo _ _ _ h)⟩
 ·exact h.elim
omit bJ in
theorem YD {x:AV} (h:wNxt lit x σ Q):opt (Md x σ) fun r=>Q r.1 r.2:=by
 unfold wNxt at h
 split at h
 ·obtain⟨h1,h⟩:=lu h
  obtain rfl:=Nat.eq_of_beq_eq_true h1
  obtain⟨⟨s,pos⟩,hi,h⟩:=bD h
  unfold iterAt at hi
  split at hi
  ·rename_i g' ro s' pos' ho
   cases hb:(Nat.beq _ g' && !ro) with
   | false=>rw [hb] at hi;cases hi
   | true=>
     rw [hb] at hi
     cases hi
     simp only [Bool.and_eq_true,Bool.not_eq_true'] at hb
     have hg:=Nat.eq_of_beq_eq_true hb.1
     subst hg
     unfold Md
     simp only [ho]
     rw [if_pos ⟨trivial,hb.2⟩]
     simp only at h
     by_cases hp:pos<s.length
     ·rw [decide_eq_true hp] at h
      rw [if_pos hp]
      exact⟨_,rfl,kC _ _ _ h⟩
     ·rw [decide_eq_false hp] at h
      rw [if_neg hp]
      exact⟨_,rfl,h⟩
  ·cases hi
 ·exact h.elim
theorem YE {t:Nat} {x y:AV} (h:wApp τ lit t x y σ Q):opt (Mc X.P t x y σ) fun r=>Q r.1 r.2:=by
 obtain⟨⟨d1,s1,b1,z1,c1,hd1,g1⟩,hT,h⟩:=bD h
 unfold Mc
 simp only at h
 split at h
 ·rw [bJ _ _ hT]
  obtain⟨E,hE,h⟩:=bD h
  obtain⟨h1,h⟩:=lu h
  rw [Bool.and_eq_true,Bool.and_eq_true] at h1
  obtain⟨src,hs,h⟩:=bD h
  simp only [bJ _ _ hE]
  rw [if_pos ⟨lC h1.1.1,Nat.eq_of_beq_eq_true h1.1.2,lC h1.2⟩,hs,Option.bind_some]
  cases h0:Nat.beq src.1 0 with
  | true=>
    rw [h0] at h
    rw [if_pos (Nat.eq_of_beq_eq_true h0)]
    simp only [cB] at h
    split at h
    ·exact⟨_,rfl,h⟩
    ·exact⟨_,rfl,h⟩
    ·exact h.elim
  | false=>
    rw [h0] at h
    rw [if_neg (fun e=>by rw [e] at h0;cases h0)]
    obtain⟨h2,h⟩:=lu h
    rw [if_pos h2]
    split at h
    ·obtain⟨h3,h⟩:=h
     simp only
     rw [if_pos h3]
     exact⟨_,rfl,kC _ _ _ (qo _ _ _ (nH _ _ h))⟩
    ·obtain⟨cs,hc,h3,h4,h5,h6,h⟩:=bD h
     have ho:=UC hc
     simp only [ho]
     rw [if_pos ⟨trivial,h3,trivial,h4,h5,h6⟩]
     exact⟨_,rfl,kC _ _ _ h⟩
    ·exact h.elim
 ·exact h.elim
theorem YF {x:AV} {t:Nat} {ok:Bool} {Q:AV→Prop} (h:wTas τ X.P x t ok Q):opt (Me X.P x t ok) Q:=by
 obtain⟨⟨d1,s1,b1,z1,c1,hd1,g1⟩,hT,h⟩:=bD h
 unfold Me
 rw [bJ _ _ hT]
 simp only at h
 cases x with
 | eG=>
   have key:ok=true∧Q (.tu [z1,.b false]):=by
    cases hi:OY d1 <;> (rw [hi] at h;exact lu h)
   obtain⟨rfl,h⟩:=key
   cases d1 <;> exact⟨_,rfl,h⟩
 | ic t' v=>
   simp only at h
   cases hi:OY d1 with
   | true=>
     rw [hi] at h
     cases d1 with
     | qP ms=>
       obtain⟨b,hb,h⟩:=bD h.ev
       simp only [hb]
       cases b with
       | true=>cases ok <;> exact⟨_,rfl,h⟩
       | false=>obtain⟨rfl,h⟩:=lu h;exact⟨_,rfl,h⟩
     | _=>cases hi
   | false=>
     rw [hi] at h
     have key:opt (if t'= t then some (if ok then AV.tu [v,.b true] else v) else if ok then some (.tu [z1,.b false]) else none) Q:=by
        cases hb:Nat.beq t' t with
        | true=>
          rw [hb] at h
          rw [if_pos (Nat.eq_of_beq_eq_true hb)]
          cases ok with
          | true=>exact⟨_,rfl,h⟩
          | false=>exact⟨_,rfl,iC _ _ h⟩
        | false=>
          rw [hb] at h
          rw [if_neg (fun e=>by rw [e,Nat.beq_refl] at hb;cases hb)]
          obtain⟨rfl,h⟩:=lu h
          exact⟨_,rfl,h⟩
     cases d1 <;> first | (cases hi;done) | exact key
 | _=>cases hi:OY d1 <;> (rw [hi] at h;exact h.elim)
theorem JQ {t:Nat} {x v:AV} (h:kM (τ t) x σ=some v):kM (aF X.P t) x σ=some v:=by
 cases ht:τ t with
 | none=>rw [ht] at h;simp [kM] at h
 | some T=>rw [bJ _ _ ht,←ht];exact h
theorem FY {t:Nat} {x y:AV} {σ':St} (h:gJ (τ t) x y σ=some σ'):gJ (aF X.P t) x y σ=some σ':=by
 cases ht:τ t with
 | none=>rw [ht] at h;simp [gJ] at h
 | some T=>rw [bJ _ _ ht,←ht];exact h
theorem Nj {ρ:bH→AV} {op:dH} (h:Qz X τ lit ρ op σ Q):Cj X ρ op σ Q:=by
 cases op with
 | call f args=>
   rw [Fz]
   simp only [Qz] at h
   split at h
   ·rename_i f' first cap hf
    split at h
    ·rename_i k
     rw [hf]
     have h:=nH _ _ h
     exact Cm h.ev fun v s q=>iC _ _ q
    ·exact h.elim
   ·exact h.elim
 | inv x m args=>
   rw [Jt]
   simp only [Qz] at h
   split at h
   ·rename_i t v hx
    split at h
    ·rename_i k hk
     rw [hx]
     have h:=nH _ _ h
     exact⟨k,hk,Cm h.ev fun v s q=>iC _ _ q⟩
    ·exact h.elim
   ·exact h.elim
 | pnc x=>exact h.elim
 | mv x=>rw [cu rfl];simp only [Qz] at h;exact⟨_,rfl,iC _ _ h⟩
 | pick c a b=>
   rw [cu rfl]
   simp only [Qz] at h
   split at h
   ·rename_i t hc
    simp only [dX]
    rw [dP]
    unfold zX
    rw [hc]
    cases t with
    | true=>
      obtain⟨h1,h⟩:=lu h
      simp only [fA,h1,Bool.not_true,iH,Bool.and_self,if_true]
      refine⟨_,rfl,?_⟩
      have h:=iC _ _ h
      have e:merge true (ρ a).val (ρ b).val=(ρ a).val:=by
       unfold merge
       split
       ·rename_i p q e1 e2;rw [e1];simp [BQ]
       ·simp
      rw [e];exact h
    | false=>
      obtain⟨h1,h⟩:=lu h
      simp only [iH,h1,Bool.not_false,fA,Bool.and_self,if_true]
      refine⟨_,rfl,?_⟩
      have h:=iC _ _ h
      have e:merge false (ρ a).val (ρ b).val=(ρ b).val:=by
       unfold merge
       split
       ·rename_i p q e1 e2;rw [e2];simp [BQ]
       ·simp
      rw [e];exact h
   ·exact h.elim
 | alloc t=>
   rw [cu rfl]
   obtain⟨T,hT,h⟩:=bD h
   simp only [dX]
   rw [bJ _ _ hT]
   exact⟨_,rfl,kC _ _ _ (qo _ _ _ h)⟩
 | box t x=>
   rw [cu rfl]
   simp only [Qz] at h
   have h:=JL _ _ h
   simp only [dX]
   split at h
   ·exact h.elim
   ·exact h.elim
   ·exact h.elim
   ·rename_i h1 h2 h3
    have h:=kC _ _ _ (qo _ _ _ h)
    split
    ·rename_i e;exact(h1 e).elim
    ·rename_i e;exact(h2 _ e).elim
    ·rename_i e;exact(h3 _ _ e).elim
    ·exact⟨_,rfl,h⟩
 | build t ps=>rw [cu rfl];simp only [dX];rw [dP];exact Qy bJ h
 | iT t n ps=>rw [cu rfl];exact YA bJ h
 | load t x=>
   rw [cu rfl]
   obtain⟨v,hv,h⟩:=bD h
   simp only [dX]
   rw [dP]
   exact⟨v,JQ bJ hv,iC _ _ h⟩
 | store t x y=>
   rw [cu rfl]
   obtain⟨s,hs,h⟩:=bD h
   simp only [dX]
   rw [dP]
   exact⟨s,FY bJ hs,kC _ _ _ h⟩
 | bF x=>
   rw [cu rfl]
   simp only [dX]
   rw [dP]
   exact Dh h
 | bin op t x y=>rw [cu rfl];simp only [dX];rw [dP];exact Yt bJ h
 | un op x=>rw [cu rfl];simp only [dX];rw [dP];exact wUn_ok h
 | conv s d x=>rw [cu rfl];exact UE bJ h
 | LX t x=>
   rw [cu rfl]
   obtain⟨⟨d1,s1,b1,z1,c1,hd1,g1⟩,hT,h⟩:=bD h
   simp only [dX]
   rw [bJ _ _ hT]
   simp only at h
   split at h
   ·exact h.elim
   ·rename_i hn
    have h:=iC _ _ h
    split
    ·rename_i e;cases e;exact(hn _ rfl).elim
    ·exact⟨_,rfl,h⟩
    ·rename_i e;cases e
 | GY f a c=>
   rw [cu rfl]
   simp only [Qz] at h
   have h:=nH _ _ (nH _ _ h)
   exact⟨_,rfl,h⟩
 | RU t l c=>rw [cu rfl];exact YB bJ h
 | slc t x l hh=>rw [cu rfl];simp only [dX];rw [dP];exact Yu bJ h
 | fG t x f=>rw [cu rfl];simp only [dX];rw [dP];exact Yy bJ h
 | P5 t x f=>rw [cu rfl];simp only [dX];rw [dP];exact Yz bJ h
 | kK t x i=>rw [cu rfl];simp only [dX];rw [dP];exact Yv bJ h
 | idx t x i=>rw [cu rfl];simp only [dX];rw [dP];exact Yw bJ h
 | rng t x=>rw [cu rfl];exact YC bJ h
 | Sj x=>rw [cu rfl];exact YD h
 | RV x _ t ok=>rw [cu rfl];simp only [dX];rw [dP];exact YF bJ h
 | ext x i=>
   rw [cu rfl]
   simp only [Qz] at h
   simp only [dX]
   split at h
   ·rename_i vs hx
    obtain⟨v,hv,h⟩:=bD h
    rw [hx]
    simp only
    rw [dP]
    exact⟨v,hv,iC _ _ h⟩
   ·exact h.elim
 | len t x=>rw [cu rfl];simp only [dX];rw [dP];exact Yx bJ h
 | app t s x y=>
   rw [cu rfl]
   simp only [Qz] at h
   exact YE bJ (JL _ _ (JL _ _ h)).ev
 | Xg t r=>
   rw [cu rfl]
   obtain⟨q,hq,h⟩:=bD h
   exact⟨q,hq,kC _ _ _ h⟩
 | Oq t x k ok=>
   rw [cu rfl]
   obtain⟨v,hv,h⟩:=bD h
   simp only [dX]
   rw [dP]
   exact⟨v,hv,iC _ _ h⟩
 | wG t m k v=>
   rw [cu rfl]
   obtain⟨q,hq,h⟩:=bD h
   simp only [dX]
   rw [dP]
   exact⟨q,hq,kC _ _ _ h⟩
 | del t m k=>
   rw [cu rfl]
   obtain⟨q,hq,h⟩:=bD h
   simp only [dX]
   rw [dP]
   exact⟨q,hq,kC _ _ _ h⟩
 | sl3 t x l hh m=>
   rw [cu rfl]
   obtain⟨v,hv,h⟩:=bD h
   simp only [dX]
   rw [dP]
   exact⟨v,hv,iC _ _ h⟩
 | Z7 t x=>
   rw [cu rfl]
   obtain⟨v,hv,h⟩:=bD h
   simp only [dX]
   rw [dP]
   exact⟨v,hv,iC _ _ h⟩
 | copy t x y=>
   rw [cu rfl]
   obtain⟨r,hr,h⟩:=bD h
   exact⟨r,hr,kC _ _ _ h⟩
 | mn mx xs=>
   rw [cu rfl]
   obtain⟨r,hr,h⟩:=bD h
   simp only [dX]
   rw [dP]
   exact⟨r,hr,iC _ _ h⟩
end
end Go.bK
namespace Go.bK
section
variable (X:Ctx)(τ:jR)(lit:Bool)
def RY (e:Env)(op:dH)(σ:St)(K:AV→St→Prop)(c:Bool):Prop:=match c with
 | true=>cB op.pure
  (match op with
  | .pick q x y=>match (q.ev e).val with
    | .b t=>cB (q.ev e).cnd (cB t (cB (x.ev e).cnd (fc (x.ev e).val fun v=>K (.cd true v) σ) False) (cB (y.ev e).cnd (fc (y.ev e).val fun v=>K (.cd true v) σ) False)) False
    | _=>False
  | op=>cB (op.bP.all fun o=>(o.ev e).cnd) (Qz X τ lit (fun o=>(o.ev e).val) op σ fun v _=>K (.cd true v) σ) False)
  (cB (op.bP.all fun o=>(o.ev e).cnd) (Qz X τ lit (fun o=>(o.ev e).val) op σ K) False)
 | false=>cB op.pure (K (.cd false .u) σ) (K (.tu []) σ)
def JR (e:Env)(a:AI)(σ:St)(K:AV→St→Prop):Prop:=match a.gd with
 | none=>Qz X τ lit (bH.ev e) a.op σ K
 | some (n,w)=>match get e n with
   | .b x=>cB x (RY X τ lit e a.op σ K w) (RY X τ lit e a.op σ K (!w))
   | .cd c v=>cB c (match v with | .b x=>cB x (RY X τ lit e a.op σ K w) (RY X τ lit e a.op σ K (!w)) | _=>False) (RY X τ lit e a.op σ K false)
   | .tu vs=>match vs with
     | []=>RY X τ lit e a.op σ K false
     | _=>False
   | _=>False
def wO:List AI→Env→St→(Env→St→Prop)→Prop
 | [],e,σ,K=>K e σ
 | a :: r,e,σ,K=>JR X τ lit e a σ fun v σ'=>wO r (put a.d v e) σ' K
def wAg (e:Env)(σ:St):List AI→Prop→Prop
 | [],K=>K
 | a :: r,K=>(match a.d with
   | some d=>cB a.op.pure (JR X τ lit e a σ fun v _=>get e d=v) False
   | none=>False)∧wAg e σ r K
def wD:List (AI×List AI)→Env→St→(Env→St→Prop)→Prop
 | [],e,σ,K=>K e σ
 | a :: r,e,σ,K=>JR X τ lit e a.1 σ fun v σ'=>wAg X τ lit e σ' a.2 (wD r (put a.1.d v e) σ' K)
def QA:List Nat→Env→(Env→Prop)→Prop
 | [],_,K=>K []
 | d :: ds,e,K=>fc (get e d) fun v=>QA ds e fun r=>K ((d,v) :: r)
def wC:AC→Env→St→(Out→Env→St→Prop)→Prop
 | .skip,e,σ,Q=>Q .normal e σ
 | .reg ops,e,σ,Q=>wO X τ lit ops e σ fun e σ=>Q .normal e σ
 | .kU ops,e,σ,Q=>wD X τ lit ops e σ fun e σ=>Q .normal e σ
 | .seq a b,e,σ,Q=>wC a e σ fun o e σ=>match o with
   | .normal=>wC b e σ Q
   | .exit j=>Q (.exit j) e σ
   | .ret=>Q .ret e σ
 | .cond x a b,e,σ,Q=>match x.ev e with
   | .b t=>cB t (wC a e σ Q) (wC b e σ Q)
   | _=>False
 | .blk id c,e,σ,Q=>wC c e σ fun o e σ=>match o with
   | .normal=>Q .normal e σ
   | .exit j=>cB (Nat.beq j id) (Q .normal e σ) (Q (.exit j) e σ)
   | .ret=>Q .ret e σ
 | .loop live c,e,σ,Q=>QA live e fun e=>b_ X live c e σ Q
 | .cut live c,e,σ,Q=>QA live e fun e=>wC c e σ Q
 | .exit id,e,σ,Q=>Q (.exit id) e σ
 | .ret,e,σ,Q=>Q .ret e σ
def OZ (e:Env)(σ:St):List AR→(List AV→Prop)→Prop
 | [],K=>K []
 | .t n :: rs,K=>fc (get e n) fun v=>match v with
   | .cd _ _=>False
   | v=>OZ e σ rs fun vs=>K (v :: vs)
 | .cell a t :: rs,K=>om (kM (τ t) (get e a) σ) fun v=>fc v fun v=>OZ e σ rs fun vs=>K (v :: vs)
end
structure Fin (σ:St)(v:AV)(σ':St)(Q:AV→St→Prop):Prop where
 ev:Q (norm σ v σ').1 (norm σ v σ').2
def wF (X:Ctx)(τ:jR)(lit:Bool)(F:AF)(args:List AV)(σ:St)(Q:AV→St→Prop):Prop:=
 wC X τ lit F.code (fM 0 args) σ fun o e σ'=>match o with
    | .exit _=>False
    | _=>OZ τ e σ' F.res fun vs=>match vs with
      | []=>Fin σ (.tu []) σ' Q
      | [v]=>Fin σ v σ' Q
      | v :: w :: vs=>Fin σ (.tu (v :: w :: vs)) σ' Q
theorem Fin.flat {σ σ':St} {v:AV} {Q:AV→St→Prop} (hf:v.flat=true)(h:σ'.take σ.length=σ)(q:Q v σ):Fin σ v σ' Q:=by
 constructor
 unfold norm
 rw [h,hf]
 simpa using q
theorem Fin.ref {σ σ':St} {v:AV} {Q:AV→St→Prop} (hf:v.flat=false)(q:Q v σ'):Fin σ v σ' Q:=by
 constructor
 unfold norm
 rw [hf]
 simpa using q
theorem Fin.same {σ σ':St} {v:AV} {Q:AV→St→Prop} (h:σ'.length=σ.length)(q:Q v σ'):Fin σ v σ' Q:=by
 constructor
 unfold norm
 split
 ·rename_i hc
  rw [Bool.and_eq_true] at hc
  have:=ni _ _ hc.2
  rw [List.take_of_length_le (by omega)] at this
  rw [←this];exact q
 ·exact q
theorem Fin.ne {σ σ':St} {v:AV} {Q:AV→St→Prop} (h:σ'.take σ.length≠σ)(q:Q v σ'):Fin σ v σ' Q:=by
 constructor
 unfold norm
 split
 ·rename_i hc
  rw [Bool.and_eq_true] at hc
  exact(h (ni _ _ hc.2)).elim
 ·exact q
section
variable {X:Ctx} {τ:jR} (bJ:τ.Ok X.P) {lit:Bool} {e:Env} {σ:St}
include bJ
theorem yZ {d:Option Nat} {g:Nat×Bool} {op:dH} {K:AV→St→Prop} {c:Bool} (hw:dU e (some g)=some c)(h:RY X τ lit e op σ K c):EvS X e ⟨d,some g,op⟩ σ K:=by
 cases hp:op.pure with
 | true=>
   rw [S9 hp]
   refine⟨c,hw,?_⟩
   cases c with
   | false=>
     simp only [RY,hp] at h
     exact⟨_,rfl,h⟩
   | true=>
     simp only [RY,hp] at h
     by_cases hpk:∃q x y,op= .pick q x y
     ·obtain⟨q,x,y,rfl⟩:=hpk
      simp only [cB] at h
      simp only [jo,if_true,jD,vC]
      split at h
      ·rename_i t ht
       rw [ht]
       split at h
       ·rename_i h1
        cases t with
        | true=>
          simp only at h
          split at h
          ·rename_i h2
           have h:=iC _ _ h
           refine⟨_,by simp only [h1,h2,fA,Bool.and_self,Bool.true_and,Bool.not_true,Bool.and_false,iH,if_true];rfl,?_⟩
           have e1:merge true (x.ev e).val (y.ev e).val=(x.ev e).val:=by
            unfold merge
            split
            ·rename_i p q e1 e2;rw [e1];simp [BQ]
            ·simp
           rw [e1];exact h
          ·exact h.elim
        | false=>
          simp only at h
          split at h
          ·rename_i h2
           have h:=iC _ _ h
           refine⟨_,by simp only [h1,h2,fA,Bool.and_self,Bool.true_and,Bool.not_false,Bool.and_false,Bool.and_true,iH,if_true];rfl,?_⟩
           have e1:merge false (x.ev e).val (y.ev e).val=(y.ev e).val:=by
            unfold merge
            split
            ·rename_i p q e1 e2;rw [e2];simp [BQ]
            ·simp
           rw [e1];exact h
          ·exact h.elim
       ·exact h.elim
      ·exact h.elim
     ·have h':cB (op.bP.all fun o=>(o.ev e).cnd) (Qz X τ lit (fun o=>(o.ev e).val) op σ fun v _=>K (.cd true v) σ) False:=by
        cases op <;> first | exact h | exact absurd ⟨_,_,_,rfl⟩ hpk
      obtain⟨h1,h2⟩:=lu h'
      have h3:=Nj bJ h2
      rw [cu (by clear h' h1 h2 h3 hpk h;cases op <;> first | rfl | cases hp)] at h3
      obtain⟨r,hr,h4⟩:=h3
      have e1:jD X.P e op σ=qG true (op.bP.all (fun o=>nX true (o.ev e).cnd)) (dX X.P (fun o=>(o.ev e).val) op σ):=by
        cases op <;> first | rfl | exact absurd ⟨_,_,_,rfl⟩ hpk
      refine⟨.cd true r.1,?_,h4⟩
      simp only [jo,if_true]
      rw [e1,hr]
      simp only [fA,qG]
      rw [if_pos h1]
 | false=>
   rw [OH hp]
   refine⟨c,hw,?_⟩
   cases c with
   | false=>simp only [RY,hp] at h;exact h
   | true=>
     simp only [RY,hp] at h
     obtain⟨h1,h2⟩:=lu h
     exact⟨h1,Nj bJ h2⟩
theorem Dl {a:AI} {K:AV→St→Prop} (h:JR X τ lit e a σ K):EvS X e a σ K:=by
 obtain⟨d,gd,op⟩:=a
 unfold JR at h
 simp only at h
 cases gd with
 | none=>exact Nj bJ h
 | some g=>
   obtain⟨n,w⟩:=g
   simp only at h
   split at h
   ·rename_i x hx
    cases x with
    | true=>exact yZ bJ (by simp only [dU,hx];cases w <;> rfl) h
    | false=>exact yZ bJ (by simp only [dU,hx];cases w <;> rfl) h
   ·rename_i c v hx
    cases c with
    | true=>
      simp only [cB] at h
      split at h
      ·rename_i x
       cases x with
       | true=>exact yZ bJ (by simp only [dU,hx];cases w <;> rfl) h
       | false=>exact yZ bJ (by simp only [dU,hx];cases w <;> rfl) h
      ·exact h.elim
    | false=>
      have h':RY X τ lit e op σ K false:=h
      exact yZ bJ (by simp only [dU,hx];cases v <;> rfl) h'
   ·rename_i vs hx
    split at h
    ·exact yZ bJ (by simp only [dU,hx]) h
    ·exact h.elim
   ·exact h.elim
theorem wO_ok:∀{ops:List AI} {e:Env} {σ:St} {K:Env→St→Prop},wO X τ lit ops e σ K→EvO X ops e σ K
 | [],e,σ,K,h=>OE.2 h
 | a :: r,e,σ,K,h=>by
   rw [Jr]
   have h1:=Dl bJ h
   obtain⟨n,x,hx,q⟩:=h1
   exact⟨n,x,hx,wO_ok q⟩
theorem UF {e:Env} {σ:St} {K:Prop} :∀{l:List AI},wAg X τ lit e σ l K→l.all (oJ X e σ)=true∧K
 | [],h=>⟨rfl,h⟩
 | a :: r,h=>by
   obtain⟨h1,h2⟩:=h
   obtain⟨h3,h4⟩:=UF h2
   refine⟨?_,h4⟩
   simp only [List.all_cons,h3,Bool.and_true]
   split at h1
   ·rename_i d hd
    obtain⟨hp,h1⟩:=lu h1
    obtain⟨n,x,hx,q⟩:=Dl bJ h1
    have hx':dL X (fun _ _ _=>none) e a σ=some x:=by
        unfold dL at hx ⊢
        rw [←hx]
        have hc:∀ρ run,dn X run ρ a.op σ=dX X.P ρ a.op σ:=by
         intro ρ run
         cases ho:a.op <;> rw [ho] at hp <;> first | rfl | cases hp
        simp only [hc]
    unfold oJ
    rw [hd,hx']
    obtain⟨v,s⟩:=x
    simp only at q ⊢
    rw [q];exact AV.oP v
   ·exact h1.elim
theorem wD_ok:∀{ops:List (AI×List AI)} {e:Env} {σ:St} {K:Env→St→Prop},wD X τ lit ops e σ K→EvD X ops e σ K
 | [],e,σ,K,h=>OG.2 h
 | (a,ag) :: r,e,σ,K,h=>by
   rw [Js]
   have h1:=Dl bJ h
   obtain⟨n,x,hx,q⟩:=h1
   obtain⟨q1,q2⟩:=UF bJ q
   exact⟨n,x,hx,q1,wD_ok q2⟩
omit bJ in
theorem xJ:∀(l:List Nat) (e:Env) (K:Env→Prop),QA l e K→K (clear l e)
 | [],e,K,h=>h
 | d :: ds,e,K,h=>xJ ds e _ (iC _ _ h)
omit bJ in
theorem Aj (l:List Nat)(e:Env):clear l (clear l e)=clear l e:=by
 have key:∀(m:List Nat) (d:Nat),d∈m→get (m.map fun d=>(d,get e d)) d=get e d:=by
  intro m
  induction m with
  | nil=>intro d h;cases h
  | cons a m ih=>
    intro d h
    simp only [List.map_cons,get]
    split
    ·rename_i h1;rw [h1]
    ·rename_i h1
     rcases List.mem_cons.1 h with rfl | h
     ·exact(h1 rfl).elim
     ·exact ih d h
 unfold clear
 exact List.map_congr_left fun d hd=>by rw [key l d hd]
theorem wC_ok:∀{c:AC} {e:Env} {σ:St} {Q:Out→Env→St→Prop},wC X τ lit c e σ Q→EvC X c e σ Q:=by
 intro c
 induction c with
 | skip=>intro e σ Q h;exact Jm.2 h
 | exit id=>intro e σ Q h;exact Jo.2 h
 | ret=>intro e σ Q h;exact Oy.2 h
 | reg ops=>intro e σ Q h;exact Oz.2 (wO_ok bJ h)
 | kU ops=>intro e σ Q h;exact OA.2 (wD_ok bJ h)
 | seq a b iha ihb=>
   intro e σ Q h
   refine OB.2 (xq (iha h) fun o e s q=>?_)
   cases o with
   | normal=>rw [Out.rD];exact ihb q
   | exit j=>rw [Out.yO];exact q
   | ret=>rw [Out.Ce];exact q
 | cond x a b iha ihb=>
   intro e σ Q h
   simp only [wC] at h
   rw [Jp]
   split at h
   ·rename_i t hx
    rw [hx]
    cases t with
    | true=>exact iha h
    | false=>exact ihb h
   ·exact h.elim
 | blk id c ih=>
   intro e σ Q h
   refine OC.2 (xq (ih h) fun o e s q=>?_)
   cases o with
   | normal=>rw [Out.w_];exact q
   | exit j=>
     rw [Out.Ci]
     simp only at q
     cases hb:Nat.beq j id with
     | true=>rw [hb] at q;rw [if_pos (Nat.eq_of_beq_eq_true hb)];exact q
     | false=>rw [hb] at q;rw [if_neg (fun e=>by rw [e,Nat.beq_refl] at hb;cases hb)];exact q
   | ret=>rw [Out.Fv];exact q
 | loop live c ih=>
   intro e σ Q h
   have h:=(xJ _ _ _ h).ev
   rw [rF,Aj] at h
   rw [Jq,rF]
   exact h
 | cut live c ih=>
   intro e σ Q h
   exact OD.2 (ih (xJ _ _ _ h))
theorem xK:∀{rs:List AR} {K:List AV→Prop},OZ τ e σ rs K→opt (oV X.P e σ rs) K
 | [],K,h=>⟨_,rfl,h⟩
 | .t n :: rs,K,h=>by
   have h:=iC _ _ h
   split at h
   ·exact h.elim
   ·rename_i hn
    obtain⟨vs,hv,q⟩:=xK h
    refine⟨_,?_,q⟩
    simp only [oV,hv]
    have e1:uM X.P e σ (.t n)=some (get e n):=by
        simp only [uM]
    rw [e1]
 | .cell a t :: rs,K,h=>by
   obtain⟨v,hv,h⟩:=bD h
   have h:=iC _ _ h
   obtain⟨vs,hvs,q⟩:=xK h
   refine⟨_,?_,q⟩
   simp only [oV,hvs]
   have e1:uM X.P e σ (.cell a t)=some v:=JQ bJ hv
   rw [e1]
theorem ay.body {f:Nat} {F:AF} {args:List AV} {Q:AV→St→Prop} (hp:X.gG f=none)(hf:X.fns f=some F)(hl:args.length≤F.nt)(h:wF X τ lit F args σ Q):ay X f args σ Q:=by
 constructor
 rw [EvF_fn hp hf hl]
 refine xq (wC_ok bJ h) fun o e s q=>?_
 cases o with
 | exit j=>exact q.elim
 | normal=>
   obtain⟨vs,hv,q⟩:=xK bJ q
   refine⟨rfl,?_⟩
   rw [dP]
   unfold qc
   rw [hv]
   match vs,q with
   | [],q=>exact⟨_,rfl,q.ev⟩
   | [v],q=>exact⟨_,rfl,q.ev⟩
   | v :: w :: vs,q=>exact⟨_,rfl,q.ev⟩
 | ret=>
   obtain⟨vs,hv,q⟩:=xK bJ q
   refine⟨rfl,?_⟩
   rw [dP]
   unfold qc
   rw [hv]
   match vs,q with
   | [],q=>exact⟨_,rfl,q.ev⟩
   | [v],q=>exact⟨_,rfl,q.ev⟩
   | v :: w :: vs,q=>exact⟨_,rfl,q.ev⟩
theorem b_.round {live:List Nat} {c:AC} {Q:Out→Env→St→Prop}
 (h:QA live e fun e=>wC X τ lit c e σ fun o e σ=>match o with
  | .normal=>QA live e fun e=>b_ X live c e σ Q
  | .exit j=>Q (.exit j) e σ
  | .ret=>Q .ret e σ):b_ X live c e σ Q:=by
 constructor
 rw [rF]
 refine xq (wC_ok bJ (xJ _ _ _ h)) fun o e s q=>?_
 cases o with
 | normal=>
   rw [Out.rD]
   have h:=(xJ _ _ _ q).ev
   rw [rF,Aj] at h
   rw [rF]
   exact h
 | exit j=>rw [Out.yO];exact q
 | ret=>rw [Out.Ce];exact q
end
theorem ay.of {X:Ctx} {f:Nat} {args:List AV} {σ:St} {Q:AV→St→Prop} (h:Eu X f args σ Q):ay X f args σ Q:=⟨h⟩
theorem ay.to {X:Ctx} {f:Nat} {args:List AV} {σ σ':St} {v:AV} {Q:AV→St→Prop} (h:ay X f args σ fun a s=>a=v∧s=σ')(q:Q v σ'):ay X f args σ Q:=⟨(XZ h.ev).2 q⟩
theorem ay.mono {X:Ctx} {f:Nat} {args:List AV} {σ:St} {Q Q':AV→St→Prop} (h:ay X f args σ Q)(q:∀v s,Q v s→Q' v s):ay X f args σ Q':=⟨Cm h.ev q⟩
theorem b_.mono {X:Ctx} {live:List Nat} {c:AC} {e:Env} {σ:St} {Q Q':Out→Env→St→Prop} (h:b_ X live c e σ Q)(q:∀o e s,Q o e s→Q' o e s):b_ X live c e σ Q':=⟨Td h.ev q⟩
end Go.bK
