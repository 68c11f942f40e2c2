/- Texts of this claim, joined: Abs21, Abs22, Tb, Abs23, Abs24, Abs25. -/
import Derived.Test.YtjcicgkencfbgaaGreatDoorM06
import Derived.Test.YtjcicgkencfbgaaGreatDoorProg
import Derived.KernelRfl
set_option linter.unusedVariables false
set_option linter.unusedSimpArgs false
namespace Go.bG
theorem wrap_i64 {n:Int} (h1: -9223372036854775808≤n)(h2:n≤9223372036854775807):IntKind.i64.wrap n=n:=by
 simp [IntKind.wrap,IntKind.signed,IntKind.bits];omega
theorem wrap_i32 {n:Int} (h1: -2147483648≤n)(h2:n≤2147483647):IntKind.i32.wrap n=n:=by
 simp [IntKind.wrap,IntKind.signed,IntKind.bits];omega
theorem wrap_u32 {n:Int} (h1:0≤n)(h2:n≤4294967295):IntKind.u32.wrap n=n:=by
 simp [IntKind.wrap,IntKind.signed,IntKind.bits];omega
end Go.bG
namespace Go.bG
inductive BT where
 | nil
 | leaf (t:Nat) (T:AT)
 | node (m:Nat) (l r:BT)
def BT.get:BT→Nat→Option AT
 | .nil,_=>none
 | .leaf t T,n=>bif Nat.beq t n then some T else none
 | .node m l r,n=>bif Nat.blt n m then l.get n else r.get n
def BT.toList:BT→List (Nat×AT)
 | .nil=>[]
 | .leaf t T=>[(t,T)]
 | .node _ l r=>l.toList ++ r.toList
theorem BT.get_mem:∀(b:BT) (n:Nat) (T:AT),b.get n=some T→(n,T)∈b.toList
 | .nil,_,_,h=>by cases h
 | .leaf t T,n,T',h=>by
   simp only [BT.get] at h
   cases hb:Nat.beq t n with
   | true=>rw [hb] at h;cases h;rw [Nat.eq_of_beq_eq_true hb];exact List.mem_singleton.2 rfl
   | false=>rw [hb] at h;cases h
 | .node m l r,n,T,h=>by
   simp only [BT.get] at h
   cases hb:Nat.blt n m with
   | true=>rw [hb] at h;exact List.mem_append_left _ (BT.get_mem l n T h)
   | false=>rw [hb] at h;exact List.mem_append_right _ (BT.get_mem r n T h)
abbrev pI:=Nat→Option AT
def pI.Ok (τ:pI)(P:Program):Prop:=∀t T,τ t=some T→aJ P t=some T
theorem BT.ok {b:BT} {P:Program} (h:b.toList.map (fun p=>aJ P p.1)=b.toList.map (fun p=>some p.2)):pI.Ok b.get P:=by
 intro t T ht
 have hm:=BT.get_mem b t T ht
 have:=List.map_inj_left.1 h _ hm
 exact this
def OT (τ:pI)(t:Nat):Nat:=match τ t with | some T=>T.size | none=>0
theorem Na {P:Program} {t:Nat} {T:AT} (h:aJ P t=some T):P.cellsOf t=T.size:=by
 unfold aJ at h
 split at h
 ·rename_i i d hi _
  split at h
  ·cases h;simp [Program.cellsOf,hi]
  ·cases h
 ·cases h
section
variable {τ:pI} {P:Program} (fJ:τ.Ok P)
include fJ
theorem wU {t:Nat} (h:0<OT τ t):P.cellsOf t=OT τ t:=by
 unfold OT at h ⊢
 cases ht:τ t with
 | none=>rw [ht] at h;exact absurd h (Nat.lt_irrefl 0)
 | some T=>simp only;exact Na (fJ t T ht)
end
def cB (t:Bool)(A B:Prop):Prop:=match t with | true=>A | false=>B
def om {α:Type} (o:Option α)(Q:α→Prop):Prop:=match o with | some a=>Q a | none=>False
theorem DU {α:Type} {o:Option α} {Q:α→Prop} (h:om o Q):opt o Q:=by
 cases o with
 | none=>exact h.elim
 | some a=>exact⟨a,rfl,h⟩
mutual
def fq (v:AV)(Q:AV→Prop):Prop:=match v with
 | .u=>Q .u
 | .b t=>Q (.b t)
 | .i k n=>Q (.i k n)
 | .s x=>Q (.s x)
 | .p0=>Q .p0
 | .p o g off=>Q (.p o g off)
 | .sl0=>Q .sl0
 | .sl o g off n z=>Q (.sl o g off n z)
 | .fn f a c=>Q (.fn f a c)
 | .fn0=>Q .fn0
 | .ic t v=>Q (.ic t v)
 | .gu=>Q .gu
 | .ag cs=>J5 cs fun cs=>Q (.ag cs)
 | .tu cs=>J5 cs fun cs=>Q (.tu cs)
 | .zI=>Q .zI
 | .mp o g=>Q (.mp o g)
 | .cd c v=>Q (.cd c v)
def J5 (l:List AV)(Q:List AV→Prop):Prop:=match l with
 | []=>Q []
 | v :: l=>fq v fun v=>J5 l fun l=>Q (v :: l)
end
mutual
theorem J6:∀(v:AV) (Q:AV→Prop),fq v Q→Q v:=by
 intro v Q h
 match v with
 | .u | .b _ | .i _ _ | .s _ | .p0 | .p _ _ _ | .sl0 | .sl _ _ _ _ _ | .fn _ _ _ | .fn0 | .ic _ _ | .gu | .zI | .mp _ _ | .cd _ _=>simpa only [fq] using h
 | .ag cs=>simp only [fq] at h;exact nS cs _ h
 | .tu cs=>simp only [fq] at h;exact nS cs _ h
theorem nS:∀(l:List AV) (Q:List AV→Prop),J5 l Q→Q l:=by
 intro l Q h
 match l with
 | []=>simpa only [J5] using h
 | v :: l=>simp only [J5] at h;exact nS l _ (J6 v _ h)
end
def fc (v:AV)(Q:AV→Prop):Prop:=match v with
 | .b t=>cB t (Q (.b true)) (Q (.b false))
 | v=>fq v Q
theorem iT (v:AV)(Q:AV→Prop)(h:fc v Q):Q v:=by
 cases v with
 | b t=>cases t <;> exact h
 | _=>exact J6 _ _ h
def nums:List Nat:=[0,1,2,3,4,5,6,7,8,9,10,11,12,13,14,15,16,17,18,19,20,21,22,23,24,25,26,27,28,29,30,31,32,33,34,35,36,37,38,39,40,41,42,43,44,45,46,47,48,49,50,51,52,53,54,55,56,57,58,59,60,61,62,63]
def TN {α:Type} :List α→List Nat→(Nat→Prop)→Prop
 | [],k :: _,Q=>Q k
 | _ :: l,_ :: ks,Q=>TN l ks Q
 | _,[],_=>False
theorem DV {α:Type} :∀(l:List α) (s m:Nat) (Q:Nat→Prop),TN l (List.range' s m) Q→Q (s+l.length)
 | [],s,0,Q,h=>h.elim
 | [],s,m+1,Q,h=>h
 | _ :: l,s,0,Q,h=>h.elim
 | _ :: l,s,m+1,Q,h=>by
   have:=DV l (s+1) m Q (by simpa only [List.range'_succ,TN] using h)
   simpa [Nat.add_comm,Nat.add_left_comm,Nat.add_assoc] using this
def J7 (lit:Bool)(σ:St)(Q:Nat→Prop):Prop:=match lit with | true=>TN σ nums Q | false=>Q σ.length
theorem qM (lit:Bool)(σ:St)(Q:Nat→Prop)(h:J7 lit σ Q):Q σ.length:=by
 cases lit with
 | false=>exact h
 | true=>
   have e:nums=List.range' 0 64:=by decide
   have h':TN σ nums Q:=h
   rw [e] at h'
   simpa using DV σ 0 64 Q h'
def P_ (σ:St)(Q:St→Prop):Prop:=match σ with
 | []=>Q []
 | a :: r=>match a with
   | ⟨g,ro,k⟩=>match k with
     | .cells e cs=>P_ r fun r=>Q (⟨g,ro,.cells e cs⟩ :: r)
     | .iter s p=>P_ r fun r=>Q (⟨g,ro,.iter s p⟩ :: r)
     | .maps m=>P_ r fun r=>Q (⟨g,ro,.maps m⟩ :: r)
     | .dead=>P_ r fun r=>Q (⟨g,ro,.dead⟩ :: r)
     | .BG e l=>P_ r fun r=>Q (⟨g,ro,.BG e l⟩ :: r)
theorem Aa:∀(σ:St) (Q:St→Prop),P_ σ Q→Q σ
 | [],Q,h=>by simpa only [P_] using h
 | ⟨g,ro,.cells e cs⟩ :: r,Q,h=>Aa r _ (by simpa only [P_] using h)
 | ⟨g,ro,.iter s p⟩ :: r,Q,h=>Aa r _ (by simpa only [P_] using h)
 | ⟨g,ro,.maps m⟩ :: r,Q,h=>Aa r _ (by simpa only [P_] using h)
 | ⟨g,ro,.dead⟩ :: r,Q,h=>Aa r _ (by simpa only [P_] using h)
 | ⟨g,ro,.BG e l⟩ :: r,Q,h=>Aa r _ (by simpa only [P_] using h)
def Nb (lit:Bool)(σ:St)(Q:St→Prop):Prop:=match lit with | true=>P_ σ Q | false=>Q σ
theorem kQ (lit:Bool)(σ:St)(Q:St→Prop)(h:Nb lit σ Q):Q σ:=by
 cases lit with
 | false=>exact h
 | true=>exact Aa σ Q h
def Nc (k:IntKind)(n:Int)(Q:AV→Prop):Prop:=∃r,k.wrap n=r∧Q (.i k r)
def Gm (τ:pI)(eq:Nat→AV→AV→Option Bool):List (Nat×Nat×Bool)→List AV→List AV→Option Bool
 | [],_,_=>some true
 | f :: fs,xs,ys=>
   if f.2.2 then Gm τ eq fs xs ys else
   match τ f.2.1 with
   | none=>none
   | some F=>
     match partOf F xs f.1,partOf F ys f.1 with
     | some x,some y=>match eq f.2.1 x y with
       | some b=>match fs with
         | []=>some b
         | fs=>match Gm τ eq fs xs ys with
           | some c=>some (b && c)
           | none=>none
       | none=>none
     | _,_=>none
def eqT (τ:pI):Nat→Nat→AV→AV→Option Bool
 | 0,_,_,_=>none
 | d+1,t,x,y=>
   match τ t with
   | none=>none
   | some T=>
   match T.d,x,y with
   | .bool,.b p,.b q=>some (p == q)
   | .int _,.i k p,.i k' q=>if k=k' then some (decide (p=q)) else none
   | .str,.s p,.s q=>some (p == q)
   | .ptr _,.p0,.p0=>some true
   | .ptr _,.p0,.p _ _ _=>some false
   | .ptr _,.p _ _ _,.p0=>some false
   | .ptr e,.p o g off,.p o' g' off'=>if o=o'∧g=g'∧0<OT τ e then some (off == off') else none
   | .slice _,.sl0,.sl0=>some true
   | .slice _,.sl0,.sl _ _ _ _ _=>some false
   | .slice _,.sl _ _ _ _ _,.sl0=>some false
   | .fn,.fn0,.fn0=>some true
   | .fn,.fn0,.fn _ _ _=>some false
   | .fn,.fn _ _ _,.fn0=>some false
   | .map _ _,.zI,.zI=>some true
   | .map _ _,.zI,.mp _ _=>some false
   | .map _ _,.mp _ _,.zI=>some false
   | .uD _,.gu,.gu=>some true
   | .uD _,.gu,.ic _ _=>some false
   | .uD _,.ic _ _,.gu=>some false
   | .uD _,.ic t p,.ic t' q=>if t=t' then(match τ t with | some T=>if T.cmp then eqT τ d t p q else none | none=>none) else some false
   | .st fs,.ag xs,.ag ys=>if T.held then none else Gm τ (eqT τ d) fs xs ys
   | _,_,_=>none
section
variable {τ:pI} {P:Program} (fJ:τ.Ok P)
include fJ
theorem DW {eq eq':Nat→AV→AV→Option Bool} (he:∀t x y b,eq t x y=some b→eq' t x y=some b):∀(fs:List (Nat×Nat×Bool)) (xs ys:List AV) (b:Bool),Gm τ eq fs xs ys=some b→xJ P eq' fs xs ys=some b
 | [],_,_,b,h=>by simpa only [Gm,xJ] using h
 | f :: fs,xs,ys,b,h=>by
   unfold Gm at h
   unfold xJ
   split at h
   ·rename_i hf;rw [if_pos hf];exact DW he fs xs ys b h
   ·rename_i hf;rw [if_neg hf]
    split at h
    ·cases h
    ·rename_i F hF
     rw [fJ _ _ hF]
     split at h
     ·rename_i x y hx hy
      simp only [hx,hy]
      split at h
      ·rename_i b1 hb1
       rw [he _ _ _ _ hb1]
       split at h
       ·cases h;cases b <;> rfl
       ·split at h
        ·rename_i b2 hb2
         cases h
         cases b1 with
         | true=>simp only [Bool.true_and];exact DW he _ xs ys b2 hb2
         | false=>rfl
        ·cases h
      ·cases h
     ·cases h
theorem Io:∀(d t:Nat) (x y:AV) (b:Bool),eqT τ d t x y=some b→AY P d t x y=some b
 | 0,_,_,_,b,h=>by cases h
 | d+1,t,x,y,b,h=>by
   unfold eqT at h
   split at h
   ·cases h
   ·rename_i T hT
    unfold AY
    rw [fJ _ _ hT]
    simp only
    split at h <;> (rename_i hd;simp only [hd])
    all_goals first
     | exact h
     | cases h
     | skip
    ·split at h
     ·rename_i hk
      obtain⟨h1,h2,h3⟩:=hk
      have h4:=h3
      rw [←wU fJ h3] at h4
      rw [if_pos ⟨h1,h2,h4⟩];exact h
     ·cases h
    ·split at h
     ·rename_i ht
      rw [if_pos ht]
      split at h
      ·rename_i T' hT'
       split at h
       ·rename_i hc
        rw [fJ _ _ hT',if_pos (by simpa using hc)]
        exact Io d _ _ _ b h
       ·cases h
      ·cases h
     ·rename_i ht;rw [if_neg ht];exact h
    ·split at h
     ·cases h
     ·rename_i hh;rw [if_neg hh];exact DW fJ (fun t x y b=>Io d t x y b) _ _ _ b h
end
end Go.bG
namespace Go.bG.YtjcicgkencfbgaaGreatDoor
open Go.Proofs
def yT0:AT:=⟨.other,1,0,.u,false,false,false⟩
def yT1:AT:=⟨.fn,1,8,.fn0,false,false,false⟩
def yT2:AT:=⟨.int .i64,1,8,.i .i64 0,true,false,false⟩
def dA:AT:=⟨.int .i64,1,8,.i .i64 0,true,false,false⟩
def kY:AT:=⟨.bool,1,1,.b false,true,false,false⟩
def yT5:AT:=⟨.int .u8,1,1,.i .u8 0,true,false,false⟩
def yT6:AT:=⟨.int .u8,1,1,.i .u8 0,true,false,false⟩
def yT7:AT:=⟨.st [(0,2,false),(1,3,false),(2,4,false),(3,6,false)],4,24,.ag [.i .i64 0,.i .i64 0,.b false,.i .u8 0],true,false,false⟩
def yT8:AT:=⟨.st [(0,2,false),(1,3,false),(2,4,false),(3,6,false)],4,24,.ag [.i .i64 0,.i .i64 0,.b false,.i .u8 0],true,false,false⟩
def eG:AT:=⟨.str,1,16,.s [],true,false,false⟩
def yT10:AT:=⟨.str,1,16,.s [],true,false,false⟩
def yT11:AT:=⟨.str,1,16,.s [],true,false,false⟩
def yT12:AT:=⟨.int .u64,1,8,.i .u64 0,true,false,false⟩
def yT15:AT:=⟨.ptr 241,1,8,.p0,true,false,false⟩
def yT16:AT:=⟨.ptr 244,1,8,.p0,true,false,false⟩
def yT17:AT:=⟨.ptr 251,1,8,.p0,true,false,false⟩
def yT20:AT:=⟨.uD [],1,16,.gu,true,false,false⟩
def yT21:AT:=⟨.int .i32,1,4,.i .i32 0,true,false,false⟩
def yT22:AT:=⟨.ptr 52,1,8,.p0,true,false,false⟩
def XL:AT:=⟨.int .i64,1,8,.i .i64 0,true,false,false⟩
def yT24:AT:=⟨.st [(0,23,false),(1,3,false)],2,16,.ag [.i .i64 0,.i .i64 0],true,false,false⟩
def iw:AT:=⟨.st [(0,23,false),(1,3,false)],2,16,.ag [.i .i64 0,.i .i64 0],true,false,false⟩
def yT26:AT:=⟨.other,1,0,.u,false,false,false⟩
def yT27:AT:=⟨.fn,1,8,.fn0,false,false,false⟩
def yT28:AT:=⟨.fn,1,8,.fn0,false,false,false⟩
def yT29:AT:=⟨.fn,1,8,.fn0,false,false,false⟩
def yT30:AT:=⟨.fn,1,8,.fn0,false,false,false⟩
def yT31:AT:=⟨.slice 5,1,24,.sl0,false,false,false⟩
def oQ:AT:=⟨.slice 38,1,24,.sl0,false,false,false⟩
def yT33:AT:=⟨.uD [("Error",95)],1,16,.gu,true,false,true⟩
def yT34:AT:=⟨.uD [("Error",95)],1,16,.gu,true,false,true⟩
def yT35:AT:=⟨.other,1,0,.u,false,false,false⟩
def yT36:AT:=⟨.fn,1,8,.fn0,false,false,false⟩
def yT37:AT:=⟨.st [(0,3,false),(1,9,false),(2,3,false)],3,32,.ag [.i .i64 0,.s [],.i .i64 0],true,false,false⟩
def fE:AT:=⟨.st [(0,3,false),(1,9,false),(2,3,false)],3,32,.ag [.i .i64 0,.s [],.i .i64 0],true,false,false⟩
def yT39:AT:=⟨.other,1,0,.u,false,false,false⟩
def yT40:AT:=⟨.fn,1,8,.fn0,false,false,false⟩
def yT41:AT:=⟨.fn,1,8,.fn0,false,false,false⟩
def yT42:AT:=⟨.fn,1,8,.fn0,false,false,false⟩
def yT43:AT:=⟨.fn,1,8,.fn0,false,false,false⟩
def tC:AT:=⟨.st [(0,23,false),(1,3,false)],2,16,.ag [.i .i64 0,.i .i64 0],true,false,false⟩
def yT45:AT:=⟨.other,1,0,.u,false,false,false⟩
def yT46:AT:=⟨.fn,1,8,.fn0,false,false,false⟩
def yT47:AT:=⟨.ptr 49,1,8,.p0,true,false,false⟩
def yT48:AT:=⟨.st [(0,32,false),(1,3,false),(2,3,false),(3,4,false),(4,25,false)],6,64,.ag [.sl0,.i .i64 0,.i .i64 0,.b false,.i .i64 0,.i .i64 0],false,false,false⟩
def yT49:AT:=⟨.st [(0,32,false),(1,3,false),(2,3,false),(3,4,false),(4,25,false)],6,64,.ag [.sl0,.i .i64 0,.i .i64 0,.b false,.i .i64 0,.i .i64 0],false,false,false⟩
def iM:AT:=⟨.slice 54,1,24,.sl0,false,false,false⟩
def yT51:AT:=⟨.st [(0,50,false)],1,24,.ag [.sl0],false,false,false⟩
def yT52:AT:=⟨.st [(0,50,false)],1,24,.ag [.sl0],false,false,false⟩
def yT53:AT:=⟨.fn,1,8,.fn0,false,false,false⟩
def eu:AT:=⟨.ptr 93,1,8,.p0,true,false,false⟩
def yT55:AT:=⟨.fn,1,8,.fn0,false,false,false⟩
def yT56:AT:=⟨.fn,1,8,.fn0,false,false,false⟩
def yT57:AT:=⟨.fn,1,8,.fn0,false,false,false⟩
def yT58:AT:=⟨.fn,1,8,.fn0,false,false,false⟩
def yT59:AT:=⟨.fn,1,8,.fn0,false,false,false⟩
def yT60:AT:=⟨.other,1,0,.u,false,false,false⟩
def yT61:AT:=⟨.fn,1,8,.fn0,false,false,false⟩
def bC:AT:=⟨.ptr 67,1,8,.p0,true,false,false⟩
def yT63:AT:=⟨.fn,1,8,.fn0,false,false,false⟩
def TP:AT:=⟨.int .u32,1,4,.i .u32 0,true,false,false⟩
def ji:AT:=⟨.slice 62,1,24,.sl0,false,false,false⟩
def yT66:AT:=⟨.st [(0,3,false),(1,64,false),(2,9,false),(3,9,false),(4,62,false),(5,62,false),(6,65,false),(7,3,false)],8,96,.ag [.i .i64 0,.i .u32 0,.s [],.s [],.p0,.p0,.sl0,.i .i64 0],false,false,false⟩
def yT67:AT:=⟨.st [(0,3,false),(1,64,false),(2,9,false),(3,9,false),(4,62,false),(5,62,false),(6,65,false),(7,3,false)],8,96,.ag [.i .i64 0,.i .u32 0,.s [],.s [],.p0,.p0,.sl0,.i .i64 0],false,false,false⟩
def yT68:AT:=⟨.fn,1,8,.fn0,false,false,false⟩
def TQ:AT:=⟨.ptr 25,1,8,.p0,true,false,false⟩
def yT70:AT:=⟨.fn,1,8,.fn0,false,false,false⟩
def yT71:AT:=⟨.fn,1,8,.fn0,false,false,false⟩
def yT72:AT:=⟨.int .i64,1,8,.i .i64 0,true,false,false⟩
def yT73:AT:=⟨.fn,1,8,.fn0,false,false,false⟩
def yT74:AT:=⟨.fn,1,8,.fn0,false,false,false⟩
def yT75:AT:=⟨.fn,1,8,.fn0,false,false,false⟩
def yT76:AT:=⟨.slice 9,1,24,.sl0,false,false,false⟩
def yT77:AT:=⟨.fn,1,8,.fn0,false,false,false⟩
def yT78:AT:=⟨.int .u64,1,8,.i .u64 0,true,false,false⟩
def yT79:AT:=⟨.other,1,0,.u,false,false,false⟩
def yT80:AT:=⟨.fn,1,8,.fn0,false,false,false⟩
def bD:AT:=⟨.ptr 83,1,8,.p0,true,false,false⟩
def yT82:AT:=⟨.st [(0,32,false),(1,3,false),(2,69,false)],3,40,.ag [.sl0,.i .i64 0,.p0],false,false,false⟩
def yT83:AT:=⟨.st [(0,32,false),(1,3,false),(2,69,false)],3,40,.ag [.sl0,.i .i64 0,.p0],false,false,false⟩
def yT84:AT:=⟨.fn,1,8,.fn0,false,false,false⟩
def yT85:AT:=⟨.ptr 69,1,8,.p0,true,false,false⟩
def yT86:AT:=⟨.fn,1,8,.fn0,false,false,false⟩
def yT87:AT:=⟨.fn,1,8,.fn0,false,false,false⟩
def yT88:AT:=⟨.other,1,0,.u,false,false,false⟩
def yT89:AT:=⟨.fn,1,8,.fn0,false,false,false⟩
def dZ:AT:=⟨.slice 97,1,24,.sl0,false,false,false⟩
def dM:AT:=⟨.slice 102,1,24,.sl0,false,false,false⟩
def yT92:AT:=⟨.st [(0,9,false),(1,90,false),(2,4,false),(3,91,false),(4,3,false)],5,80,.ag [.s [],.sl0,.b false,.sl0,.i .i64 0],false,false,false⟩
def yT93:AT:=⟨.st [(0,9,false),(1,90,false),(2,4,false),(3,91,false),(4,3,false)],5,80,.ag [.s [],.sl0,.b false,.sl0,.i .i64 0],false,false,false⟩
def yT94:AT:=⟨.fn,1,8,.fn0,false,false,false⟩
def yT95:AT:=⟨.fn,1,8,.fn0,false,false,false⟩
def yT96:AT:=⟨.st [(0,9,false),(1,4,false)],2,24,.ag [.s [],.b false],true,false,false⟩
def kR:AT:=⟨.st [(0,9,false),(1,4,false)],2,24,.ag [.s [],.b false],true,false,false⟩
def yT98:AT:=⟨.fn,1,8,.fn0,false,false,false⟩
def yT99:AT:=⟨.fn,1,8,.fn0,false,false,false⟩
def yT100:AT:=⟨.fn,1,8,.fn0,false,false,false⟩
def yT101:AT:=⟨.fn,1,8,.fn0,false,false,false⟩
def bZ:AT:=⟨.ptr 114,1,8,.p0,true,false,false⟩
def yT103:AT:=⟨.fn,1,8,.fn0,false,false,false⟩
def yT104:AT:=⟨.fn,1,8,.fn0,false,false,false⟩
def yT105:AT:=⟨.ptr 110,1,8,.p0,true,false,false⟩
def yT106:AT:=⟨.ptr 108,1,8,.p0,true,false,false⟩
def yT107:AT:=⟨.st [(0,106,false),(1,31,false)],2,32,.ag [.p0,.sl0],false,false,false⟩
def yT108:AT:=⟨.st [(0,106,false),(1,31,false)],2,32,.ag [.p0,.sl0],false,false,false⟩
def yT109:AT:=⟨.st [(0,108,false),(2,3,false),(3,4,false)],4,48,.ag [.p0,.sl0,.i .i64 0,.b false],false,false,false⟩
def yT110:AT:=⟨.st [(0,108,false),(2,3,false),(3,4,false)],4,48,.ag [.p0,.sl0,.i .i64 0,.b false],false,false,false⟩
def yT111:AT:=⟨.fn,1,8,.fn0,false,false,false⟩
def yT112:AT:=⟨.fn,1,8,.fn0,false,false,false⟩
def yT113:AT:=⟨.st [(0,3,false),(1,9,false),(2,4,false),(3,62,false),(4,62,false),(5,91,false),(6,91,false),(7,3,false)],8,104,.ag [.i .i64 0,.s [],.b false,.p0,.p0,.sl0,.sl0,.i .i64 0],false,false,false⟩
def yT114:AT:=⟨.st [(0,3,false),(1,9,false),(2,4,false),(3,62,false),(4,62,false),(5,91,false),(6,91,false),(7,3,false)],8,104,.ag [.i .i64 0,.s [],.b false,.p0,.p0,.sl0,.sl0,.i .i64 0],false,false,false⟩
def yT115:AT:=⟨.other,1,0,.u,false,false,false⟩
def yT116:AT:=⟨.fn,1,8,.fn0,false,false,false⟩
def yT117:AT:=⟨.slice 72,1,24,.sl0,false,false,false⟩
def yT118:AT:=⟨.fn,1,8,.fn0,false,false,false⟩
def yT119:AT:=⟨.fn,1,8,.fn0,false,false,false⟩
def yT120:AT:=⟨.fn,1,8,.fn0,false,false,false⟩
def yT121:AT:=⟨.fn,1,8,.fn0,false,false,false⟩
def yT122:AT:=⟨.fn,1,8,.fn0,false,false,false⟩
def yT123:AT:=⟨.other,1,8,.p0,true,false,false⟩
def yT124:AT:=⟨.int .u64,1,8,.i .u64 0,true,false,false⟩
def yT127:AT:=⟨.fn,1,8,.fn0,false,false,false⟩
def yT128:AT:=⟨.uD [("AssignableTo",133),("Comparable",29),("Elem",130),("Implements",133),("Kind",132),("Name",95),("PkgPath",95),("Size",252),("String",95),("internal/reflectlite.common",245),("internal/reflectlite.uncommon",253)],1,16,.gu,true,false,true⟩
def yT129:AT:=⟨.uD [("AssignableTo",133),("Comparable",29),("Elem",130),("Implements",133),("Kind",132),("Name",95),("PkgPath",95),("Size",252),("String",95),("internal/reflectlite.common",245),("internal/reflectlite.uncommon",253)],1,16,.gu,true,false,true⟩
def yT130:AT:=⟨.fn,1,8,.fn0,false,false,false⟩
def yT131:AT:=⟨.int .u8,1,1,.i .u8 0,true,false,false⟩
def yT132:AT:=⟨.fn,1,8,.fn0,false,false,false⟩
def yT133:AT:=⟨.fn,1,8,.fn0,false,false,false⟩
def yT134:AT:=⟨.fn,1,8,.fn0,false,false,false⟩
def yT135:AT:=⟨.fn,1,8,.fn0,false,false,false⟩
def yT136:AT:=⟨.fn,1,8,.fn0,false,false,false⟩
def yT137:AT:=⟨.fn,1,8,.fn0,false,false,false⟩
def yT138:AT:=⟨.fn,1,8,.fn0,false,false,false⟩
def yT139:AT:=⟨.fn,1,8,.fn0,false,false,false⟩
def yT140:AT:=⟨.fn,1,8,.fn0,false,false,false⟩
def yT141:AT:=⟨.fn,1,8,.fn0,false,false,false⟩
def yT142:AT:=⟨.fn,1,8,.fn0,false,false,false⟩
def yT143:AT:=⟨.fn,1,8,.fn0,false,false,false⟩
def yT144:AT:=⟨.fn,1,8,.fn0,false,false,false⟩
def yT145:AT:=⟨.fn,1,8,.fn0,false,false,false⟩
def yT146:AT:=⟨.ptr 5,1,8,.p0,true,false,false⟩
def yT147:AT:=⟨.fn,1,8,.fn0,false,false,false⟩
def yT148:AT:=⟨.arr 256 5,256,256,.ag [.i .u8 0,.i .u8 0,.i .u8 0,.i .u8 0,.i .u8 0,.i .u8 0,.i .u8 0,.i .u8 0,.i .u8 0,.i .u8 0,.i .u8 0,.i .u8 0,.i .u8 0,.i .u8 0,.i .u8 0,.i .u8 0,.i .u8 0,.i .u8 0,.i .u8 0,.i .u8 0,.i .u8 0,.i .u8 0,.i .u8 0,.i .u8 0,.i .u8 0,.i .u8 0,.i .u8 0,.i .u8 0,.i .u8 0,.i .u8 0,.i .u8 0,.i .u8 0,.i .u8 0,.i .u8 0,.i .u8 0,.i .u8 0,.i .u8 0,.i .u8 0,.i .u8 0,.i .u8 0,.i .u8 0,.i .u8 0,.i .u8 0,.i .u8 0,.i .u8 0,.i .u8 0,.i .u8 0,.i .u8 0,.i .u8 0,.i .u8 0,.i .u8 0,.i .u8 0,.i .u8 0,.i .u8 0,.i .u8 0,.i .u8 0,.i .u8 0,.i .u8 0,.i .u8 0,.i .u8 0,.i .u8 0,.i .u8 0,.i .u8 0,.i .u8 0,.i .u8 0,.i .u8 0,.i .u8 0,.i .u8 0,.i .u8 0,.i .u8 0,.i .u8 0,.i .u8 0,.i .u8 0,.i .u8 0,.i .u8 0,.i .u8 0,.i .u8 0,.i .u8 0,.i .u8 0,.i .u8 0,.i .u8 0,.i .u8 0,.i .u8 0,.i .u8 0,.i .u8 0,.i .u8 0,.i .u8 0,.i .u8 0,.i .u8 0,.i .u8 0,.i .u8 0,.i .u8 0,.i .u8 0,.i .u8 0,.i .u8 0,.i .u8 0,.i .u8 0,.i .u8 0,.i .u8 0,.i .u8 0,.i .u8 0,.i .u8 0,.i .u8 0,.i .u8 0,.i .u8 0,.i .u8 0,.i .u8 0,.i .u8 0,.i .u8 0,.i .u8 0,.i .u8 0,.i .u8 0,.i .u8 0,.i .u8 0,.i .u8 0,.i .u8 0,.i .u8 0,.i .u8 0,.i .u8 0,.i .u8 0,.i .u8 0,.i .u8 0,.i .u8 0,.i .u8 0,.i .u8 0,.i .u8 0,.i .u8 0,.i .u8 0,.i .u8 0,.i .u8 0,.i .u8 0,.i .u8 0,.i .u8 0,.i .u8 0,.i .u8 0,.i .u8 0,.i .u8 0,.i .u8 0,.i .u8 0,.i .u8 0,.i .u8 0,.i .u8 0,.i .u8 0,.i .u8 0,.i .u8 0,.i .u8 0,.i .u8 0,.i .u8 0,.i .u8 0,.i .u8 0,.i .u8 0,.i .u8 0,.i .u8 0,.i .u8 0,.i .u8 0,.i .u8 0,.i .u8 0,.i .u8 0,.i .u8 0,.i .u8 0,.i .u8 0,.i .u8 0,.i .u8 0,.i .u8 0,.i .u8 0,.i .u8 0,.i .u8 0,.i .u8 0,.i .u8 0,.i .u8 0,.i .u8 0,.i .u8 0,.i .u8 0,.i .u8 0,.i .u8 0,.i .u8 0,.i .u8 0,.i .u8 0,.i .u8 0,.i .u8 0,.i .u8 0,.i .u8 0,.i .u8 0,.i .u8 0,.i .u8 0,.i .u8 0,.i .u8 0,.i .u8 0,.i .u8 0,.i .u8 0,.i .u8 0,.i .u8 0,.i .u8 0,.i .u8 0,.i .u8 0,.i .u8 0,.i .u8 0,.i .u8 0,.i .u8 0,.i .u8 0,.i .u8 0,.i .u8 0,.i .u8 0,.i .u8 0,.i .u8 0,.i .u8 0,.i .u8 0,.i .u8 0,.i .u8 0,.i .u8 0,.i .u8 0,.i .u8 0,.i .u8 0,.i .u8 0,.i .u8 0,.i .u8 0,.i .u8 0,.i .u8 0,.i .u8 0,.i .u8 0,.i .u8 0,.i .u8 0,.i .u8 0,.i .u8 0,.i .u8 0,.i .u8 0,.i .u8 0,.i .u8 0,.i .u8 0,.i .u8 0,.i .u8 0,.i .u8 0,.i .u8 0,.i .u8 0,.i .u8 0,.i .u8 0,.i .u8 0,.i .u8 0,.i .u8 0,.i .u8 0,.i .u8 0,.i .u8 0,.i .u8 0,.i .u8 0,.i .u8 0,.i .u8 0,.i .u8 0,.i .u8 0,.i .u8 0,.i .u8 0,.i .u8 0,.i .u8 0,.i .u8 0,.i .u8 0,.i .u8 0,.i .u8 0],true,false,false⟩
def yT149:AT:=⟨.fn,1,8,.fn0,false,false,false⟩
def yT150:AT:=⟨.fn,1,8,.fn0,false,false,false⟩
def yT151:AT:=⟨.int .i64,1,8,.i .i64 0,true,false,false⟩
def yT152:AT:=⟨.fn,1,8,.fn0,false,false,false⟩
def yT153:AT:=⟨.int .u64,1,8,.i .u64 0,true,false,false⟩
def yT154:AT:=⟨.ptr 189,1,8,.p0,true,false,false⟩
def yT155:AT:=⟨.fn,1,8,.fn0,false,false,false⟩
def yT156:AT:=⟨.fn,1,8,.fn0,false,false,false⟩
def yT157:AT:=⟨.fn,1,8,.fn0,false,false,false⟩
def yT158:AT:=⟨.fn,1,8,.fn0,false,false,false⟩
def yT161:AT:=⟨.ptr 255,1,8,.p0,true,false,false⟩
def yT162:AT:=⟨.fn,1,8,.fn0,false,false,false⟩
def yT163:AT:=⟨.fn,1,8,.fn0,false,false,false⟩
def yT164:AT:=⟨.uD [("As",166)],1,16,.gu,true,false,true⟩
def yT165:AT:=⟨.other,1,0,.u,false,false,false⟩
def yT166:AT:=⟨.fn,1,8,.fn0,false,false,false⟩
def yT167:AT:=⟨.uD [("Unwrap",168)],1,16,.gu,true,false,true⟩
def yT168:AT:=⟨.fn,1,8,.fn0,false,false,false⟩
def yT169:AT:=⟨.uD [("Unwrap",171)],1,16,.gu,true,false,true⟩
def yT170:AT:=⟨.slice 34,1,24,.sl0,false,false,false⟩
def yT171:AT:=⟨.fn,1,8,.fn0,false,false,false⟩
def yT172:AT:=⟨.uD [("Is",174)],1,16,.gu,true,false,true⟩
def yT173:AT:=⟨.other,1,0,.u,false,false,false⟩
def yT174:AT:=⟨.fn,1,8,.fn0,false,false,false⟩
def yT175:AT:=⟨.fn,1,8,.fn0,false,false,false⟩
def yT176:AT:=⟨.fn,1,8,.fn0,false,false,false⟩
def yT177:AT:=⟨.fn,1,8,.fn0,false,false,false⟩
def yT178:AT:=⟨.fn,1,8,.fn0,false,false,false⟩
def yT179:AT:=⟨.fn,1,8,.fn0,false,false,false⟩
def yT180:AT:=⟨.other,1,0,.u,false,false,false⟩
def yT181:AT:=⟨.fn,1,8,.fn0,false,false,false⟩
def yT182:AT:=⟨.fn,1,8,.fn0,false,false,false⟩
def yT183:AT:=⟨.slice 185,1,24,.sl0,false,false,false⟩
def yT184:AT:=⟨.st [(0,3,false),(1,3,false)],2,16,.ag [.i .i64 0,.i .i64 0],true,false,false⟩
def yT185:AT:=⟨.st [(0,3,false),(1,3,false)],2,16,.ag [.i .i64 0,.i .i64 0],true,false,false⟩
def yT186:AT:=⟨.fn,1,8,.fn0,false,false,false⟩
def yT187:AT:=⟨.ptr 200,1,8,.p0,true,false,false⟩
def yT188:AT:=⟨.st [(0,9,false),(1,9,false),(2,34,false)],3,48,.ag [.s [],.s [],.gu],true,false,true⟩
def yT189:AT:=⟨.st [(0,9,false),(1,9,false),(2,34,false)],3,48,.ag [.s [],.s [],.gu],true,false,true⟩
def yT190:AT:=⟨.fn,1,8,.fn0,false,false,false⟩
def yT191:AT:=⟨.fn,1,8,.fn0,false,false,false⟩
def yT192:AT:=⟨.fn,1,8,.fn0,false,false,false⟩
def yT193:AT:=⟨.fn,1,8,.fn0,false,false,false⟩
def yT194:AT:=⟨.fn,1,8,.fn0,false,false,false⟩
def yT195:AT:=⟨.fn,1,8,.fn0,false,false,false⟩
def yT196:AT:=⟨.fn,1,8,.fn0,false,false,false⟩
def yT197:AT:=⟨.slice 203,1,24,.sl0,false,false,false⟩
def yT198:AT:=⟨.slice 206,1,24,.sl0,false,false,false⟩
def yT199:AT:=⟨.st [(0,197,false),(1,198,false),(2,3,false)],3,56,.ag [.sl0,.sl0,.i .i64 0],false,false,false⟩
def yT200:AT:=⟨.st [(0,197,false),(1,198,false),(2,3,false)],3,56,.ag [.sl0,.sl0,.i .i64 0],false,false,false⟩
def yT201:AT:=⟨.int .u16,1,2,.i .u16 0,true,false,false⟩
def yT202:AT:=⟨.st [(0,201,false),(1,201,false),(2,201,false)],3,6,.ag [.i .u16 0,.i .u16 0,.i .u16 0],true,false,false⟩
def yT203:AT:=⟨.st [(0,201,false),(1,201,false),(2,201,false)],3,6,.ag [.i .u16 0,.i .u16 0,.i .u16 0],true,false,false⟩
def yT204:AT:=⟨.fn,1,8,.fn0,false,false,false⟩
def yT205:AT:=⟨.st [(0,64,false),(1,64,false),(2,64,false)],3,12,.ag [.i .u32 0,.i .u32 0,.i .u32 0],true,false,false⟩
def yT206:AT:=⟨.st [(0,64,false),(1,64,false),(2,64,false)],3,12,.ag [.i .u32 0,.i .u32 0,.i .u32 0],true,false,false⟩
def yT207:AT:=⟨.fn,1,8,.fn0,false,false,false⟩
def yT208:AT:=⟨.ptr 210,1,8,.p0,true,false,false⟩
def yT209:AT:=⟨.st [(0,9,false)],1,16,.ag [.s []],true,false,false⟩
def yT210:AT:=⟨.st [(0,9,false)],1,16,.ag [.s []],true,false,false⟩
def yT211:AT:=⟨.fn,1,8,.fn0,false,false,false⟩
def yT212:AT:=⟨.fn,1,8,.fn0,false,false,false⟩
def yT213:AT:=⟨.other,1,0,.u,false,false,false⟩
def yT214:AT:=⟨.fn,1,8,.fn0,false,false,false⟩
def yT215:AT:=⟨.fn,1,8,.fn0,false,false,false⟩
def yT216:AT:=⟨.fn,1,8,.fn0,false,false,false⟩
def yT217:AT:=⟨.ptr 203,1,8,.p0,true,false,false⟩
def yT218:AT:=⟨.ptr 206,1,8,.p0,true,false,false⟩
def yT219:AT:=⟨.fn,1,8,.fn0,false,false,false⟩
def TR:AT:=⟨.map 9 3,1,8,.zI,false,false,false⟩
def yT221:AT:=⟨.other,1,0,.u,false,false,false⟩
def yT222:AT:=⟨.fn,1,8,.fn0,false,false,false⟩
def yT223:AT:=⟨.other,1,0,.u,false,false,false⟩
def yT224:AT:=⟨.fn,1,8,.fn0,false,false,false⟩
def yT225:AT:=⟨.arr 24 5,24,24,.ag [.i .u8 0,.i .u8 0,.i .u8 0,.i .u8 0,.i .u8 0,.i .u8 0,.i .u8 0,.i .u8 0,.i .u8 0,.i .u8 0,.i .u8 0,.i .u8 0,.i .u8 0,.i .u8 0,.i .u8 0,.i .u8 0,.i .u8 0,.i .u8 0,.i .u8 0,.i .u8 0,.i .u8 0,.i .u8 0,.i .u8 0,.i .u8 0],true,false,false⟩
def yT226:AT:=⟨.fn,1,8,.fn0,false,false,false⟩
def yT227:AT:=⟨.fn,1,8,.fn0,false,false,false⟩
def yT228:AT:=⟨.other,1,0,.u,false,false,false⟩
def yT229:AT:=⟨.fn,1,8,.fn0,false,false,false⟩
def yT230:AT:=⟨.fn,1,8,.fn0,false,false,false⟩
def yT231:AT:=⟨.fn,1,8,.fn0,false,false,false⟩
def yT232:AT:=⟨.fn,1,8,.fn0,false,false,false⟩
def yT233:AT:=⟨.arr 20 78,20,160,.ag [.i .u64 0,.i .u64 0,.i .u64 0,.i .u64 0,.i .u64 0,.i .u64 0,.i .u64 0,.i .u64 0,.i .u64 0,.i .u64 0,.i .u64 0,.i .u64 0,.i .u64 0,.i .u64 0,.i .u64 0,.i .u64 0,.i .u64 0,.i .u64 0,.i .u64 0,.i .u64 0],true,false,false⟩
def yT234:AT:=⟨.arr 65 5,65,65,.ag [.i .u8 0,.i .u8 0,.i .u8 0,.i .u8 0,.i .u8 0,.i .u8 0,.i .u8 0,.i .u8 0,.i .u8 0,.i .u8 0,.i .u8 0,.i .u8 0,.i .u8 0,.i .u8 0,.i .u8 0,.i .u8 0,.i .u8 0,.i .u8 0,.i .u8 0,.i .u8 0,.i .u8 0,.i .u8 0,.i .u8 0,.i .u8 0,.i .u8 0,.i .u8 0,.i .u8 0,.i .u8 0,.i .u8 0,.i .u8 0,.i .u8 0,.i .u8 0,.i .u8 0,.i .u8 0,.i .u8 0,.i .u8 0,.i .u8 0,.i .u8 0,.i .u8 0,.i .u8 0,.i .u8 0,.i .u8 0,.i .u8 0,.i .u8 0,.i .u8 0,.i .u8 0,.i .u8 0,.i .u8 0,.i .u8 0,.i .u8 0,.i .u8 0,.i .u8 0,.i .u8 0,.i .u8 0,.i .u8 0,.i .u8 0,.i .u8 0,.i .u8 0,.i .u8 0,.i .u8 0,.i .u8 0,.i .u8 0,.i .u8 0,.i .u8 0,.i .u8 0],true,false,false⟩
def yT235:AT:=⟨.fn,1,8,.fn0,false,false,false⟩
def yT236:AT:=⟨.fn,1,8,.fn0,false,false,false⟩
def yT237:AT:=⟨.fn,1,8,.fn0,false,false,false⟩
def yT238:AT:=⟨.arr 32 5,32,32,.ag [.i .u8 0,.i .u8 0,.i .u8 0,.i .u8 0,.i .u8 0,.i .u8 0,.i .u8 0,.i .u8 0,.i .u8 0,.i .u8 0,.i .u8 0,.i .u8 0,.i .u8 0,.i .u8 0,.i .u8 0,.i .u8 0,.i .u8 0,.i .u8 0,.i .u8 0,.i .u8 0,.i .u8 0,.i .u8 0,.i .u8 0,.i .u8 0,.i .u8 0,.i .u8 0,.i .u8 0,.i .u8 0,.i .u8 0,.i .u8 0,.i .u8 0,.i .u8 0],true,false,false⟩
def yT239:AT:=⟨.arr 64 5,64,64,.ag [.i .u8 0,.i .u8 0,.i .u8 0,.i .u8 0,.i .u8 0,.i .u8 0,.i .u8 0,.i .u8 0,.i .u8 0,.i .u8 0,.i .u8 0,.i .u8 0,.i .u8 0,.i .u8 0,.i .u8 0,.i .u8 0,.i .u8 0,.i .u8 0,.i .u8 0,.i .u8 0,.i .u8 0,.i .u8 0,.i .u8 0,.i .u8 0,.i .u8 0,.i .u8 0,.i .u8 0,.i .u8 0,.i .u8 0,.i .u8 0,.i .u8 0,.i .u8 0,.i .u8 0,.i .u8 0,.i .u8 0,.i .u8 0,.i .u8 0,.i .u8 0,.i .u8 0,.i .u8 0,.i .u8 0,.i .u8 0,.i .u8 0,.i .u8 0,.i .u8 0,.i .u8 0,.i .u8 0,.i .u8 0,.i .u8 0,.i .u8 0,.i .u8 0,.i .u8 0,.i .u8 0,.i .u8 0,.i .u8 0,.i .u8 0,.i .u8 0,.i .u8 0,.i .u8 0,.i .u8 0,.i .u8 0,.i .u8 0,.i .u8 0,.i .u8 0],true,false,false⟩
def yT242:AT:=⟨.arr 0 16,0,0,.ag [],true,false,false⟩
def yT245:AT:=⟨.fn,1,8,.fn0,false,false,false⟩
def yT246:AT:=⟨.int .u8,1,1,.i .u8 0,true,false,false⟩
def yT247:AT:=⟨.fn,1,8,.fn0,false,false,false⟩
def yT248:AT:=⟨.int .i32,1,4,.i .i32 0,true,false,false⟩
def yT249:AT:=⟨.int .i32,1,4,.i .i32 0,true,false,false⟩
def yT252:AT:=⟨.fn,1,8,.fn0,false,false,false⟩
def yT253:AT:=⟨.fn,1,8,.fn0,false,false,false⟩
def yT256:AT:=⟨.ptr 259,1,8,.p0,true,false,false⟩
def yT257:AT:=⟨.fn,1,8,.fn0,false,false,false⟩
def yT260:AT:=⟨.slice 263,1,24,.sl0,false,false,false⟩
def yT261:AT:=⟨.int .i32,1,4,.i .i32 0,true,false,false⟩
def yT264:AT:=⟨.ptr 34,1,8,.p0,true,false,false⟩
def L_:BT:=(.node 128 (.node 65 (.node 34 (.node 17 (.node 7 (.node 3 (.node 1 (.leaf 0 yT0) (.node 2 (.leaf 1 yT1) (.leaf 2 yT2))) (.node 5 (.node 4 (.leaf 3 dA) (.leaf 4 kY)) (.node 6 (.leaf 5 yT5) (.leaf 6 yT6)))) (.node 11 (.node 9 (.node 8 (.leaf 7 yT7) (.leaf 8 yT8)) (.node 10 (.leaf 9 eG) (.leaf 10 yT10))) (.node 15 (.node 12 (.leaf 11 yT11) (.leaf 12 yT12)) (.node 16 (.leaf 15 yT15) (.leaf 16 yT16))))) (.node 26 (.node 22 (.node 20 (.leaf 17 yT17) (.node 21 (.leaf 20 yT20) (.leaf 21 yT21))) (.node 24 (.node 23 (.leaf 22 yT22) (.leaf 23 XL)) (.node 25 (.leaf 24 yT24) (.leaf 25 iw)))) (.node 30 (.node 28 (.node 27 (.leaf 26 yT26) (.leaf 27 yT27)) (.node 29 (.leaf 28 yT28) (.leaf 29 yT29))) (.node 32 (.node 31 (.leaf 30 yT30) (.leaf 31 yT31)) (.node 33 (.leaf 32 oQ) (.leaf 33 yT33)))))) (.node 49 (.node 41 (.node 37 (.node 35 (.leaf 34 yT34) (.node 36 (.leaf 35 yT35) (.leaf 36 yT36))) (.node 39 (.node 38 (.leaf 37 yT37) (.leaf 38 fE)) (.node 40 (.leaf 39 yT39) (.leaf 40 yT40)))) (.node 45 (.node 43 (.node 42 (.leaf 41 yT41) (.leaf 42 yT42)) (.node 44 (.leaf 43 yT43) (.leaf 44 tC))) (.node 47 (.node 46 (.leaf 45 yT45) (.leaf 46 yT46)) (.node 48 (.leaf 47 yT47) (.leaf 48 yT48))))) (.node 57 (.node 53 (.node 51 (.node 50 (.leaf 49 yT49) (.leaf 50 iM)) (.node 52 (.leaf 51 yT51) (.leaf 52 yT52))) (.node 55 (.node 54 (.leaf 53 yT53) (.leaf 54 eu)) (.node 56 (.leaf 55 yT55) (.leaf 56 yT56)))) (.node 61 (.node 59 (.node 58 (.leaf 57 yT57) (.leaf 58 yT58)) (.node 60 (.leaf 59 yT59) (.leaf 60 yT60))) (.node 63 (.node 62 (.leaf 61 yT61) (.leaf 62 bC)) (.node 64 (.leaf 63 yT63) (.leaf 64 TP))))))) (.node 95 (.node 80 (.node 72 (.node 68 (.node 66 (.leaf 65 ji) (.node 67 (.leaf 66 yT66) (.leaf 67 yT67))) (.node 70 (.node 69 (.leaf 68 yT68) (.leaf 69 TQ)) (.node 71 (.leaf 70 yT70) (.leaf 71 yT71)))) (.node 76 (.node 74 (.node 73 (.leaf 72 yT72) (.leaf 73 yT73)) (.node 75 (.leaf 74 yT74) (.leaf 75 yT75))) (.node 78 (.node 77 (.leaf 76 yT76) (.leaf 77 yT77)) (.node 79 (.leaf 78 yT78) (.leaf 79 yT79))))) (.node 87 (.node 83 (.node 81 (.leaf 80 yT80) (.node 82 (.leaf 81 bD) (.leaf 82 yT82))) (.node 85 (.node 84 (.leaf 83 yT83) (.leaf 84 yT84)) (.node 86 (.leaf 85 yT85) (.leaf 86 yT86)))) (.node 91 (.node 89 (.node 88 (.leaf 87 yT87) (.leaf 88 yT88)) (.node 90 (.leaf 89 yT89) (.leaf 90 dZ))) (.node 93 (.node 92 (.leaf 91 dM) (.leaf 92 yT92)) (.node 94 (.leaf 93 yT93) (.leaf 94 yT94)))))) (.node 110 (.node 102 (.node 98 (.node 96 (.leaf 95 yT95) (.node 97 (.leaf 96 yT96) (.leaf 97 kR))) (.node 100 (.node 99 (.leaf 98 yT98) (.leaf 99 yT99)) (.node 101 (.leaf 100 yT100) (.leaf 101 yT101)))) (.node 106 (.node 104 (.node 103 (.leaf 102 bZ) (.leaf 103 yT103)) (.node 105 (.leaf 104 yT104) (.leaf 105 yT105))) (.node 108 (.node 107 (.leaf 106 yT106) (.leaf 107 yT107)) (.node 109 (.leaf 108 yT108) (.leaf 109 yT109))))) (.node 118 (.node 114 (.node 112 (.node 111 (.leaf 110 yT110) (.leaf 111 yT111)) (.node 113 (.leaf 112 yT112) (.leaf 113 yT113))) (.node 116 (.node 115 (.leaf 114 yT114) (.leaf 115 yT115)) (.node 117 (.leaf 116 yT116) (.leaf 117 yT117)))) (.node 122 (.node 120 (.node 119 (.leaf 118 yT118) (.leaf 119 yT119)) (.node 121 (.leaf 120 yT120) (.leaf 121 yT121))) (.node 124 (.node 123 (.leaf 122 yT122) (.leaf 123 yT123)) (.node 127 (.leaf 124 yT124) (.leaf 127 yT127)))))))) (.node 191 (.node 158 (.node 143 (.node 135 (.node 131 (.node 129 (.leaf 128 yT128) (.node 130 (.leaf 129 yT129) (.leaf 130 yT130))) (.node 133 (.node 132 (.leaf 131 yT131) (.leaf 132 yT132)) (.node 134 (.leaf 133 yT133) (.leaf 134 yT134)))) (.node 139 (.node 137 (.node 136 (.leaf 135 yT135) (.leaf 136 yT136)) (.node 138 (.leaf 137 yT137) (.leaf 138 yT138))) (.node 141 (.node 140 (.leaf 139 yT139) (.leaf 140 yT140)) (.node 142 (.leaf 141 yT141) (.leaf 142 yT142))))) (.node 150 (.node 146 (.node 144 (.leaf 143 yT143) (.node 145 (.leaf 144 yT144) (.leaf 145 yT145))) (.node 148 (.node 147 (.leaf 146 yT146) (.leaf 147 yT147)) (.node 149 (.leaf 148 yT148) (.leaf 149 yT149)))) (.node 154 (.node 152 (.node 151 (.leaf 150 yT150) (.leaf 151 yT151)) (.node 153 (.leaf 152 yT152) (.leaf 153 yT153))) (.node 156 (.node 155 (.leaf 154 yT154) (.leaf 155 yT155)) (.node 157 (.leaf 156 yT156) (.leaf 157 yT157)))))) (.node 175 (.node 167 (.node 163 (.node 161 (.leaf 158 yT158) (.node 162 (.leaf 161 yT161) (.leaf 162 yT162))) (.node 165 (.node 164 (.leaf 163 yT163) (.leaf 164 yT164)) (.node 166 (.leaf 165 yT165) (.leaf 166 yT166)))) (.node 171 (.node 169 (.node 168 (.leaf 167 yT167) (.leaf 168 yT168)) (.node 170 (.leaf 169 yT169) (.leaf 170 yT170))) (.node 173 (.node 172 (.leaf 171 yT171) (.leaf 172 yT172)) (.node 174 (.leaf 173 yT173) (.leaf 174 yT174))))) (.node 183 (.node 179 (.node 177 (.node 176 (.leaf 175 yT175) (.leaf 176 yT176)) (.node 178 (.leaf 177 yT177) (.leaf 178 yT178))) (.node 181 (.node 180 (.leaf 179 yT179) (.leaf 180 yT180)) (.node 182 (.leaf 181 yT181) (.leaf 182 yT182)))) (.node 187 (.node 185 (.node 184 (.leaf 183 yT183) (.leaf 184 yT184)) (.node 186 (.leaf 185 yT185) (.leaf 186 yT186))) (.node 189 (.node 188 (.leaf 187 yT187) (.leaf 188 yT188)) (.node 190 (.leaf 189 yT189) (.leaf 190 yT190))))))) (.node 222 (.node 206 (.node 198 (.node 194 (.node 192 (.leaf 191 yT191) (.node 193 (.leaf 192 yT192) (.leaf 193 yT193))) (.node 196 (.node 195 (.leaf 194 yT194) (.leaf 195 yT195)) (.node 197 (.leaf 196 yT196) (.leaf 197 yT197)))) (.node 202 (.node 200 (.node 199 (.leaf 198 yT198) (.leaf 199 yT199)) (.node 201 (.leaf 200 yT200) (.leaf 201 yT201))) (.node 204 (.node 203 (.leaf 202 yT202) (.leaf 203 yT203)) (.node 205 (.leaf 204 yT204) (.leaf 205 yT205))))) (.node 214 (.node 210 (.node 208 (.node 207 (.leaf 206 yT206) (.leaf 207 yT207)) (.node 209 (.leaf 208 yT208) (.leaf 209 yT209))) (.node 212 (.node 211 (.leaf 210 yT210) (.leaf 211 yT211)) (.node 213 (.leaf 212 yT212) (.leaf 213 yT213)))) (.node 218 (.node 216 (.node 215 (.leaf 214 yT214) (.leaf 215 yT215)) (.node 217 (.leaf 216 yT216) (.leaf 217 yT217))) (.node 220 (.node 219 (.leaf 218 yT218) (.leaf 219 yT219)) (.node 221 (.leaf 220 TR) (.leaf 221 yT221)))))) (.node 237 (.node 229 (.node 225 (.node 223 (.leaf 222 yT222) (.node 224 (.leaf 223 yT223) (.leaf 224 yT224))) (.node 227 (.node 226 (.leaf 225 yT225) (.leaf 226 yT226)) (.node 228 (.leaf 227 yT227) (.leaf 228 yT228)))) (.node 233 (.node 231 (.node 230 (.leaf 229 yT229) (.leaf 230 yT230)) (.node 232 (.leaf 231 yT231) (.leaf 232 yT232))) (.node 235 (.node 234 (.leaf 233 yT233) (.leaf 234 yT234)) (.node 236 (.leaf 235 yT235) (.leaf 236 yT236))))) (.node 249 (.node 245 (.node 239 (.node 238 (.leaf 237 yT237) (.leaf 238 yT238)) (.node 242 (.leaf 239 yT239) (.leaf 242 yT242))) (.node 247 (.node 246 (.leaf 245 yT245) (.leaf 246 yT246)) (.node 248 (.leaf 247 yT247) (.leaf 248 yT248)))) (.node 257 (.node 253 (.node 252 (.leaf 249 yT249) (.leaf 252 yT252)) (.node 256 (.leaf 253 yT253) (.leaf 256 yT256))) (.node 261 (.node 260 (.leaf 257 yT257) (.leaf 260 yT260)) (.node 264 (.leaf 261 yT261) (.leaf 264 yT264)))))))))
theorem aF:pI.Ok L_.get Tryz.prog:=BT.ok (by kernel_rfl)
end Go.bG.YtjcicgkencfbgaaGreatDoor
namespace Go.bG
structure ay (X:Ctx)(f:Nat)(args:List AV)(σ:St)(Q:AV→St→Prop):Prop where
 ev:Dh X f args σ Q
structure aS (X:Ctx)(live:List Nat)(c:AC)(e:Env)(σ:St)(Q:Out→Env→St→Prop):Prop where
 ev:EvL X live c e σ Q
def TS (op:BinOp)(k:IntKind)(a b:Int)(Q:AV→Prop):Prop:=match op with
 | .add=>Nc k (a+b) Q
 | .sub=>Nc k (a - b) Q
 | .mul=>Nc k (a*b) Q
 | .quo=>b≠0∧Nc k (a.tdiv b) Q
 | .rem=>b≠0∧Q (.i k (a.tmod b))
 | .eql=>fc (.b (decide (a=b))) Q
 | .neq=>fc (.b (!decide (a=b))) Q
 | .lss=>fc (.b (decide (a<b))) Q
 | .leq=>fc (.b (decide (a≤b))) Q
 | .gtr=>fc (.b (decide (b<a))) Q
 | .geq=>fc (.b (decide (b≤a))) Q
 | op=>om (FC op k a b) Q
theorem TT {op:BinOp} {k:IntKind} {a b:Int} {Q:AV→Prop} (h:TS op k a b Q):opt (Po op k a b) Q:=by
 cases op <;> simp only [TS] at h
 all_goals first
  | (obtain⟨r,rfl,h⟩:=h;exact⟨_,rfl,h⟩)
  | (obtain⟨h1,r,rfl,h⟩:=h;exact⟨_,by simp only [Po];rw [if_neg h1],h⟩)
  | (obtain⟨h1,h⟩:=h;exact⟨_,by simp only [Po];rw [if_neg h1],h⟩)
  | (have h:=iT _ _ h;exact⟨_,rfl,h⟩)
  | exact DU h
def Ip (op:BinOp)(k:IntKind)(a b:Int)(Q:AV→Prop):Prop:=match op with
 | .shl=>0≤b∧Nc k (a*2^(min b.toNat k.bits)) Q
 | .shr=>0≤b∧Q (.i k (a.fdiv (2^(min b.toNat k.bits))))
 | _=>False
theorem Gn {op:BinOp} {k:IntKind} {a b:Int} {Q:AV→Prop} (h:Ip op k a b Q):opt (CQ op k a b) Q:=by
 cases op <;> simp only [Ip] at h
 ·obtain⟨h1,r,rfl,h⟩:=h;exact⟨_,by simp only [CQ];rw [if_neg (by omega)],h⟩
 ·obtain⟨h1,h⟩:=h;exact⟨_,by simp only [CQ];rw [if_neg (by omega)],h⟩
def TU (op:BinOp)(a b:List UInt8)(Q:AV→Prop):Prop:=match op with
 | .add=>a.length+b.length≤9223372036854775807∧Q (.s (a ++ b))
 | .eql=>fc (.b (a == b)) Q
 | .neq=>fc (.b (!(a == b))) Q
 | op=>om (mQ op a b) Q
theorem TV {op:BinOp} {a b:List UInt8} {Q:AV→Prop} (h:TU op a b Q):opt (mQ op a b) Q:=by
 cases op <;> simp only [TU] at h
 all_goals first
  | (obtain⟨h1,h⟩:=h;exact⟨_,by simp only [mQ];rw [if_pos h1],h⟩)
  | (have h:=iT _ _ h;exact⟨_,rfl,h⟩)
  | exact DU h
def Zh (τ:pI)(t:Nat)(x y:AV)(n:Bool)(Q:AV→Prop):Prop:=om (eqT τ 20 t x y) fun r=>fc (.b (bif n then !r else r)) Q
def wBin (τ:pI)(op:BinOp)(t:Nat)(x y:AV)(c:Bool)(Q:AV→Prop):Prop:=match op,x,y with
 | .shl,.i k a,.i _ b=>Ip .shl k a b Q
 | .shr,.i k a,.i _ b=>Ip .shr k a b Q
 | op,.i k a,.i k' b=>cB (decide (k=k')) (TS op k a b Q) False
 | op,.s a,.s b=>TU op a b Q
 | .eql,.gu,.gu=>cB c (Zh τ t .gu .gu false Q) False
 | .neq,.gu,.gu=>cB c (Zh τ t .gu .gu true Q) False
 | .eql,.ag xs,.ag ys=>om (τ t) fun T=>cB T.guarded False (Zh τ t (.ag xs) (.ag ys) false Q)
 | .neq,.ag xs,.ag ys=>om (τ t) fun T=>cB T.guarded False (Zh τ t (.ag xs) (.ag ys) true Q)
 | .eql,x,y=>Zh τ t x y false Q
 | .neq,x,y=>Zh τ t x y true Q
 | _,_,_=>False
theorem lI {t:Bool} {A:Prop} (h:cB t A False):t=true∧A:=by cases t;exact h.elim;exact⟨rfl,h⟩
theorem cB_f {t:Bool} {A:Prop} (h:cB t False A):t=false∧A:=by cases t;exact⟨rfl,h⟩;exact h.elim
theorem bH {α:Type} {o:Option α} {Q:α→Prop} (h:om o Q):∃a,o=some a∧Q a:=DU h
theorem Nh {τ:pI} {P:Program} (fJ:τ.Ok P) {t:Nat} {x y:AV} {Q:AV→Prop} (h:Zh τ t x y false Q):opt ((AY P 20 t x y).map .b) Q:=by
 obtain⟨b,hb,h⟩:=bH h
 exact⟨_,by rw [Io fJ _ _ _ _ _ hb];rfl,iT _ _ h⟩
theorem Nj {τ:pI} {P:Program} (fJ:τ.Ok P) {t:Nat} {x y:AV} {Q:AV→Prop} (h:Zh τ t x y true Q):opt ((AY P 20 t x y).map fun r=>.b !r) Q:=by
 obtain⟨b,hb,h⟩:=bH h
 exact⟨_,by rw [Io fJ _ _ _ _ _ hb];rfl,iT _ _ h⟩
theorem XM {τ:pI} {P:Program} (fJ:τ.Ok P) {op:BinOp} {t:Nat} {x y:AV} {c:Bool} {Q:AV→Prop} (h:wBin τ op t x y c Q):opt (qE P op t x y c) Q:=by
 unfold wBin at h
 split at h
 ·exact Gn h
 ·exact Gn h
 ·rename_i op k a k' b h1 h2
  obtain⟨hk,h⟩:=lI h
  have hk:=of_decide_eq_true hk
  have:=TT h
  subst hk
  cases op
  all_goals first
   | exact(h1 rfl).elim
   | exact(h2 rfl).elim
   | (simp only [qE,if_true];exact this)
 ·have:=TV h
  have e:∀o a b,qE P o t (.s a) (.s b) c=mQ o a b:=by intro o a b;unfold qE;cases o <;> rfl
  rw [e];exact this
 ·obtain⟨rfl,h⟩:=lI h
  have:=Nh fJ h
  simpa [qE] using this
 ·obtain⟨rfl,h⟩:=lI h
  have:=Nj fJ h
  simpa [qE] using this
 ·obtain⟨T,hT,h⟩:=bH h
  obtain⟨hg,h⟩:=cB_f h
  have:=Nh fJ h
  simpa [qE,fJ _ _ hT,hg] using this
 ·obtain⟨T,hT,h⟩:=bH h
  obtain⟨hg,h⟩:=cB_f h
  have:=Nj fJ h
  simpa [qE,fJ _ _ hT,hg] using this
 ·rename_i x y h1 h2 h3 h4
  have:=Nh fJ h
  unfold qE
  split
  all_goals first
   | exact this
   | (exfalso;exact h1 _ _ _ _ rfl rfl)
   | (exfalso;exact h1 _ _ _ _ rfl rfl rfl)
   | (exfalso;exact h2 _ _ rfl rfl)
   | (exfalso;exact h3 rfl rfl)
   | (exfalso;exact h4 _ _ rfl rfl)
   | (exfalso;simp_all;done)
   | simp_all
 ·rename_i x y h1 h2 h3 h4
  have:=Nj fJ h
  unfold qE
  split
  all_goals first
   | exact this
   | (exfalso;exact h1 _ _ _ _ rfl rfl)
   | (exfalso;exact h1 _ _ _ _ rfl rfl rfl)
   | (exfalso;exact h2 _ _ rfl rfl)
   | (exfalso;exact h3 rfl rfl)
   | (exfalso;exact h4 _ _ rfl rfl)
   | (exfalso;simp_all;done)
   | simp_all
 ·exact h.elim
def TW (τ:pI)(e:Nat):Bool:=match τ e with
 | some ⟨.int .u8,_,_,_,_,_,_⟩=>true
 | _=>false
theorem Iq {τ:pI} {P:Program} (fJ:τ.Ok P) {e:Nat} (h:TW τ e=true):∃a b c d f g,aJ P e=some ⟨.int .u8,a,b,c,d,f,g⟩:=by
 unfold TW at h
 split at h
 ·rename_i a b c d f g he;exact⟨_,_,_,_,_,_,fJ _ _ he⟩
 ·cases h
def Qa (n:Nat)(lo hi:Option AV)(K:Nat→Nat→Prop):Prop:=match lo,hi with
 | none,none=>K 0 n
 | some (.i _ i),none=>∃a:Nat,i=a∧a≤n∧K a n
 | none,some (.i _ j)=>∃b:Nat,j=b∧b≤n∧K 0 b
 | some (.i _ i),some (.i _ j)=>∃a b:Nat,i=a∧j=b∧a≤b∧b≤n∧K a b
 | _,_=>False
theorem Ir {n:Nat} {lo hi:Option AV} {K:Nat→Nat→Prop} (h:Qa n lo hi K):∃a b,jD n n lo hi=some (a,b)∧a≤b∧b≤n∧K a b:=by
 unfold Qa at h
 split at h
 ·exact⟨0,n,by simp [jD,ZA,ZB],Nat.zero_le _,Nat.le_refl _,h⟩
 ·obtain⟨a,rfl,h1,h⟩:=h
  refine⟨a,n,?_,h1,Nat.le_refl _,h⟩
  simp only [jD,ZA,ZB,Option.bind_some];rw [if_pos (by omega)];simp
 ·obtain⟨b,rfl,h1,h⟩:=h
  refine⟨0,b,?_,Nat.zero_le _,h1,h⟩
  simp only [jD,ZA];rw [if_pos (by omega)];simp [ZB]
 ·obtain⟨a,b,rfl,rfl,h1,h2,h⟩:=h
  refine⟨a,b,?_,h1,h2,h⟩
  simp only [jD,ZA];rw [if_pos (by omega)];simp only [Option.bind_some,ZB];rw [if_pos (by omega)];simp
 ·exact h.elim
def TY (x:List UInt8)(lo hi:Option AV)(Q:AV→Prop):Prop:=match lo,hi with
 | none,none=>Q (.s x)
 | some (.i _ i),none=>∃a:Nat,i=a∧a≤x.length∧Q (.s (x.drop a))
 | none,some (.i _ j)=>∃b:Nat,j=b∧b≤x.length∧Q (.s (x.take b))
 | some (.i _ i),some (.i _ j)=>∃a b:Nat,i=a∧j=b∧a≤b∧b≤x.length∧Q (.s ((x.drop a).take (b - a)))
 | _,_=>False
theorem T_ {x:List UInt8} {lo hi:Option AV} {Q:AV→Prop} (h:TY x lo hi Q):opt ((jD x.length x.length lo hi).map fun r=>AV.s ((x.drop r.1).take (r.2 - r.1))) Q:=by
 have key:Qa x.length lo hi fun a b=>Q (.s ((x.drop a).take (b - a))):=by
  unfold TY at h
  unfold Qa
  split at h
  ·simpa using h
  ·obtain⟨a,h1,h2,h⟩:=h
   refine⟨a,h1,h2,?_⟩
   simp only
   rw [List.take_of_length_le (by simp)];exact h
  ·simpa using h
  ·exact h
  ·exact h.elim
 obtain⟨a,b,h1,_,_,h⟩:=Ir key
 exact⟨_,by rw [h1];rfl,h⟩
def wSlc (τ:pI)(t:Nat)(x:AV)(lo hi:Option AV)(σ:St)(Q:AV→Prop):Prop:=
 om (τ t) fun T=>match T.d,x with
 | .str,.s x=>TY x lo hi Q
 | .slice e,.sl0=>cB (Nat.blt 0 (OT τ e)) (om (jD 0 0 lo hi) fun _=>Q .sl0) False
 | .slice e,.sl o g off n z=>cB (Nat.beq (OT τ e) z && Nat.blt 0 z) (Qa n lo hi fun a b=>Q (.sl o g (off+a*z) (b - a) z)) False
 | .arr n e,.p o g off=>cB (Nat.blt 0 (OT τ e)) (om (dJ σ o g) fun cs=>cB (Nat.ble (off+n*OT τ e) cs.length) (Qa n lo hi fun a b=>Q (.sl o g (off+a*OT τ e) (b - a) (OT τ e))) False) False
 | _,_=>False
theorem lJ {a b:Nat} (h:Nat.blt a b=true):a<b:=by unfold Nat.blt at h;exact Nat.le_of_ble_eq_true h
theorem XO {τ:pI} {P:Program} (fJ:τ.Ok P) {t:Nat} {x:AV} {lo hi:Option AV} {σ:St} {Q:AV→Prop} (h:wSlc τ t x lo hi σ Q):opt (Rn P t x lo hi σ) Q:=by
 obtain⟨⟨d,s,b,z,c,hd,g⟩,hT,h⟩:=bH h
 unfold Rn
 rw [fJ _ _ hT]
 simp only at h ⊢
 split at h
 ·exact T_ h
 ·obtain⟨h1,h⟩:=lI h
  obtain⟨r,h2,h⟩:=bH h
  have h1:=lJ h1
  simp only
  rw [if_pos (by rw [wU fJ h1];exact h1),h2]
  exact⟨_,rfl,h⟩
 ·obtain⟨h1,h⟩:=lI h
  rw [Bool.and_eq_true] at h1
  have h2:=Nat.eq_of_beq_eq_true h1.1
  have h3:=lJ h1.2
  obtain⟨a,b,h4,_,_,h⟩:=Ir h
  simp only
  rw [if_pos ⟨by rw [wU fJ (by omega)];exact h2,h3⟩,h4]
  exact⟨_,rfl,h⟩
 ·obtain⟨h1,h⟩:=lI h
  obtain⟨cs,h2,h⟩:=bH h
  obtain⟨h3,h⟩:=lI h
  have h1:=lJ h1
  have h3:=Nat.le_of_ble_eq_true h3
  obtain⟨a,b,h4,_,_,h⟩:=Ir h
  have hz:=wU fJ h1
  simp only
  rw [hz,if_pos h1,h2,Option.bind_some,if_pos h3,h4]
  exact⟨_,rfl,h⟩
 ·exact h.elim
def wIad (τ:pI)(t:Nat)(x i:AV)(Q:AV→Prop):Prop:=om (τ t) fun T=>match T.d,x,i with
 | .arr n e,.p o g off,.i _ j=>cB (Nat.blt 0 (OT τ e)) (∃m:Nat,j=m∧m<n∧Q (.p o g (off+m*OT τ e))) False
 | .slice e,.sl o g off n z,.i _ j=>cB (Nat.beq (OT τ e) z && Nat.blt 0 z) (∃m:Nat,j=m∧m<n∧Q (.p o g (off+m*z))) False
 | _,_,_=>False
theorem XP {τ:pI} {P:Program} (fJ:τ.Ok P) {t:Nat} {x i:AV} {Q:AV→Prop} (h:wIad τ t x i Q):opt (Ru P t x i) Q:=by
 obtain⟨⟨d,s,b,z,c,hd,g⟩,hT,h⟩:=bH h
 unfold Ru
 rw [fJ _ _ hT]
 simp only at h
 split at h
 ·obtain⟨h1,h⟩:=lI h
  obtain⟨m,rfl,h2,h⟩:=h
  have h1:=lJ h1
  have hz:=wU fJ h1
  simp only
  rw [hz,if_pos ⟨h1,by omega,by omega⟩]
  exact⟨_,rfl,by simpa using h⟩
 ·obtain⟨h1,h⟩:=lI h
  obtain⟨m,rfl,h2,h⟩:=h
  rw [Bool.and_eq_true] at h1
  have h3:=Nat.eq_of_beq_eq_true h1.1
  have h4:=lJ h1.2
  simp only
  rw [if_pos ⟨by rw [wU fJ (by omega)];exact h3,h4,by omega,by omega⟩]
  exact⟨_,rfl,by simpa using h⟩
 ·exact h.elim
def wIdx (τ:pI)(t:Nat)(x i:AV)(Q:AV→Prop):Prop:=om (τ t) fun T=>match T.d,x,i with
 | .arr n e,.ag cs,.i _ j=>∃m:Nat,j=m∧m<n∧om (τ e) fun E=>om (partOf E cs (m*E.size)) fun v=>fc v Q
 | .str,.s x,.i _ j=>∃(m:Nat) (c:UInt8),j=m∧x[m]? =some c∧Q (.i .u8 c.toNat)
 | _,_,_=>False
theorem XQ {τ:pI} {P:Program} (fJ:τ.Ok P) {t:Nat} {x i:AV} {Q:AV→Prop} (h:wIdx τ t x i Q):opt (Rw P t x i) Q:=by
 obtain⟨⟨d,s,b,z,c,hd,g⟩,hT,h⟩:=bH h
 unfold Rw
 rw [fJ _ _ hT]
 simp only at h
 split at h
 ·obtain⟨m,rfl,h2,h⟩:=h
  obtain⟨E,hE,h⟩:=bH h
  obtain⟨v,hv,h⟩:=bH h
  simp only
  rw [if_pos ⟨by omega,by omega⟩,fJ _ _ hE]
  exact⟨v,by simpa using hv,iT _ _ h⟩
 ·obtain⟨m,c,rfl,h2,h⟩:=h
  simp only
  rw [if_pos (by omega)]
  exact⟨_,by rw [Int.toNat_natCast,h2];rfl,h⟩
 ·exact h.elim
def wLen (τ:pI)(t:Nat)(x:AV)(Q:AV→Prop):Prop:=om (τ t) fun T=>match T.d,x with
 | .str,.s x=>Q (.i .i64 x.length)
 | .arr n _,_=>Q (.i .i64 n)
 | .slice _,.sl0=>Q (.i .i64 0)
 | .slice _,.sl _ _ _ n _=>Q (.i .i64 n)
 | _,_=>False
theorem XR {τ:pI} {P:Program} (fJ:τ.Ok P) {t:Nat} {x:AV} {Q:AV→Prop} (h:wLen τ t x Q):opt (Pq P t x) Q:=by
 obtain⟨⟨d,s,b,z,c,hd,g⟩,hT,h⟩:=bH h
 unfold Pq
 rw [fJ _ _ hT]
 simp only at h
 split at h
 all_goals first
  | exact h.elim
  | exact⟨_,rfl,h⟩
def wFad (τ:pI)(t:Nat)(x:AV)(f:Nat)(Q:AV→Prop):Prop:=om (τ t) fun T=>match T.d,x with
 | .st fs,.p o g off=>om fs[f]? fun r=>cB (Nat.blt 0 (OT τ r.2.1)) (Q (.p o g (off+r.1))) False
 | _,_=>False
theorem XT {τ:pI} {P:Program} (fJ:τ.Ok P) {t:Nat} {x:AV} {f:Nat} {Q:AV→Prop} (h:wFad τ t x f Q):opt (Rq P t x f) Q:=by
 obtain⟨⟨d,s,b,z,c,hd,g⟩,hT,h⟩:=bH h
 unfold Rq
 rw [fJ _ _ hT]
 simp only at h
 split at h
 ·obtain⟨r,hr,h⟩:=bH h
  obtain⟨h1,h⟩:=lI h
  have h1:=lJ h1
  simp only
  rw [hr,Option.bind_some,if_pos (by rw [wU fJ h1];exact h1)]
  exact⟨_,rfl,h⟩
 ·exact h.elim
def wFld (τ:pI)(t:Nat)(x:AV)(f:Nat)(Q:AV→Prop):Prop:=om (τ t) fun T=>match T.d,x with
 | .st fs,.ag cs=>om fs[f]? fun r=>om (τ r.2.1) fun F=>om (partOf F cs r.1) fun v=>fc v Q
 | _,_=>False
theorem XU {τ:pI} {P:Program} (fJ:τ.Ok P) {t:Nat} {x:AV} {f:Nat} {Q:AV→Prop} (h:wFld τ t x f Q):opt (Rt P t x f) Q:=by
 obtain⟨⟨d,s,b,z,c,hd,g⟩,hT,h⟩:=bH h
 unfold Rt
 rw [fJ _ _ hT]
 simp only at h
 split at h
 ·obtain⟨r,hr,h⟩:=bH h
  obtain⟨F,hF,h⟩:=bH h
  obtain⟨v,hv,h⟩:=bH h
  simp only
  rw [hr,Option.bind_some,fJ _ _ hF]
  exact⟨v,hv,iT _ _ h⟩
 ·exact h.elim
def allT (τ:pI):List (Nat×Nat×Bool)→Bool
 | []=>true
 | f :: fs=>match τ f.2.1 with
   | some _=>allT τ fs
   | none=>false
theorem OU {τ:pI} {P:Program} (fJ:τ.Ok P):∀fs,allT τ fs=true→fs.all (fun f=>(aJ P f.2.1).isSome)=true
 | [],_=>rfl
 | f :: fs,h=>by
   simp only [allT] at h
   split at h
   ·rename_i T hT;simp only [List.all_cons,fJ _ _ hT,Option.isSome_some,Bool.true_and];exact OU fJ fs h
   ·cases h
theorem J8 {p q:Nat→Option (Nat×Nat)} (hp:∀i r,p i=some r→q i=some r):∀(l:List (Nat×AV)) (cells r:List AV),mY p cells l=some r→mY q cells l=some r
 | [],_,_,h=>h
 | (i,v) :: l,cells,r,h=>by
   simp only [mY] at h ⊢
   split at h
   ·cases h
   ·rename_i off size he
    rw [hp _ _ he]
    simp only
    split at h
    ·rename_i hc;rw [if_pos hc];exact J8 hp l _ r h
    ·cases h
def Ua (τ:pI)(t:Nat)(ps:List (Nat×AV))(Q:AV→Prop):Prop:=om (τ t) fun T=>match T.d with
 | .st fs=>cB (allT τ fs) (om (mY (fun i=>(fs[i]?).bind fun f=>(τ f.2.1).map fun F=>(f.1,F.size)) T.zero.cells ps) fun cs=>J5 cs fun cs=>Q (.ag cs)) False
 | .arr _ e=>om (τ e) fun E=>om (mY (fun i=>some (i*E.size,E.size)) T.zero.cells ps) fun cs=>J5 cs fun cs=>Q (.ag cs)
 | _=>False
theorem Qb {τ:pI} {P:Program} (fJ:τ.Ok P) {t:Nat} {ps:List (Nat×AV)} {Q:AV→Prop} (h:Ua τ t ps Q):opt (CO P t ps) Q:=by
 obtain⟨⟨d,s,b,z,c,hd,g⟩,hT,h⟩:=bH h
 unfold CO
 rw [fJ _ _ hT]
 simp only at h ⊢
 split at h
 ·rename_i fs
  obtain⟨h1,h⟩:=lI h
  obtain⟨cs,h2,h⟩:=bH h
  simp only
  rw [if_pos (OU fJ fs h1)]
  have h3:=J8 (q:=fun i=>(fs[i]?).bind fun f=>(aJ P f.2.1).map fun F=>(f.1,F.size)) (fun i r hi=>by
   rw [Option.bind_eq_some_iff] at hi ⊢
   obtain⟨f,hf,hi⟩:=hi
   rw [Option.map_eq_some_iff] at hi
   obtain⟨F,hF,rfl⟩:=hi
   exact⟨f,hf,by rw [fJ _ _ hF];rfl⟩) _ _ _ h2
  rw [h3]
  exact⟨_,rfl,nS _ _ h⟩
 ·obtain⟨E,hE,h⟩:=bH h
  obtain⟨cs,h2,h⟩:=bH h
  simp only
  rw [fJ _ _ hE]
  simp only
  rw [h2]
  exact⟨_,rfl,nS _ _ h⟩
 ·exact h.elim
end Go.bG
namespace Go.bG
section
variable (τ:pI)(lit:Bool)
def wUn (op:UnOp)(x:AV)(Q:AV→Prop):Prop:=match op,x with
 | .neg,.i k n=>Nc k (0 - n) Q
 | .xor,.i k n=>om (FC .xor k (if k.signed then -1 else k.max) n) Q
 | .not,.b p=>fc (.b !p) Q
 | _,_=>False
def Zi (s d:Nat)(x:AV)(σ:St)(Q:AV→St→Prop):Prop:=om (τ s) fun S=>om (τ d) fun D=>match S.d,D.d,x with
 | _,.int k,.i _ n=>Nc k n fun v=>Q v σ
 | _,.str,.i _ n=>Q (.s (Utf8.encode n).data.toList) σ
 | .str,.str,.s x=>Q (.s x) σ
 | .str,.slice e,.s x=>cB (TW τ e) (J7 lit σ fun m=>Nb lit (au e (x.map fun b=>.i .u8 b.toNat) σ) fun σ'=>Q (.sl m 0 0 x.length 1) σ') False
 | .slice e,.str,.sl0=>cB (TW τ e) (Q (.s []) σ) False
 | .slice e,.str,.sl o g off n z=>cB (TW τ e && Nat.beq z 1) (om (dJ σ o g) fun cs=>∃b,off+n≤cs.length∧bytesOf ((cs.drop off).take n)=some b∧Q (.s b) σ) False
 | _,_,_=>False
def wBsl (t len:Nat)(ps:List (Nat×AV))(σ:St)(Q:AV→St→Prop):Prop:=om (τ t) fun T=>match T.d with
 | .slice e=>om (τ e) fun E=>cB (Nat.blt 0 E.size && Nat.beq E.zero.cells.length E.size && Nat.ble (len*E.size) 16777216)
  (om (mY (fun i=>some (i*E.size,E.size)) (CP E.zero.cells len) ps) fun cs=>J5 cs fun cs=>J7 lit σ fun m=>Nb lit (au e cs σ) fun σ'=>Q (.sl m 0 0 len E.size) σ') False
 | _=>False
def wMks (t:Nat)(l c:AV)(σ:St)(Q:AV→St→Prop):Prop:=om (τ t) fun T=>match T.d,l,c with
 | .slice e,.i _ l,.i _ c=>om (τ e) fun E=>cB (Nat.blt 0 E.size && Nat.beq E.zero.cells.length E.size)
  (∃l' c':Nat,l=l'∧c=c'∧l'≤c'∧c'≤9223372036854775807∧E.bytes*c'≤140737488355328∧J7 lit σ fun m=>Nb lit (au e (CP E.zero.cells c') σ) fun σ'=>Q (.sl m 0 0 l' E.size) σ') False
 | _,_,_=>False
def wRng (t:Nat)(x:AV)(σ:St)(Q:AV→St→Prop):Prop:=om (τ t) fun T=>match T.d,x with
 | .str,.s x=>J7 lit σ fun m=>Nb lit (σ ++ [⟨0,false,.iter x 0⟩]) fun σ'=>Q (.p m 0 0) σ'
 | _,_=>False
def iterAt (σ:St)(o g:Nat):Option (List UInt8×Nat):=match σ[o]? with
 | some ⟨g',ro,.iter s pos⟩=>bif Nat.beq g g' && !ro then some (s,pos) else none
 | _=>none
def wNxt (x:AV)(σ:St)(Q:AV→St→Prop):Prop:=match x with
 | .p o g off=>cB (Nat.beq off 0) (om (iterAt σ o g) fun r=>
  cB (decide (r.2<r.1.length)) (Nb lit (σ.set o ⟨g,false,.iter r.1 (r.2+(Utf8.decode ⟨r.1.toArray⟩ r.2).2)⟩) fun σ'=>Q (.tu [.b true,.i .i64 r.2,.i .i32 (Utf8.decode ⟨r.1.toArray⟩ r.2).1]) σ') (Q (.tu [.b false]) σ)) False
 | _=>False
def J9 (σ:St)(o g e:Nat):Option (List AV):=match σ[o]? with
 | some ⟨g',ro,.cells e' cs⟩=>bif Nat.beq g g' && !ro && Nat.beq e' e then some cs else none
 | _=>none
theorem Ub {σ:St} {o g e:Nat} {cs:List AV} (h:J9 σ o g e=some cs):σ[o]? =some ⟨g,false,.cells e cs⟩:=by
 unfold J9 at h
 split at h
 ·rename_i g' ro e' cs' ho
  cases hb:(Nat.beq g g' && !ro && Nat.beq e' e) with
  | false=>rw [hb] at h;cases h
  | true=>
    rw [hb] at h
    cases h
    simp only [Bool.and_eq_true,Bool.not_eq_true'] at hb
    rw [ho,Nat.eq_of_beq_eq_true hb.1.1,Nat.eq_of_beq_eq_true hb.2,hb.1.2]
 ·cases h
def OV:AD→Bool
 | .uD _=>true
 | _=>false
def wApp (t:Nat)(x y:AV)(σ:St)(Q:AV→St→Prop):Prop:=om (τ t) fun T=>match T.d with
 | .slice e=>om (τ e) fun E=>cB (Nat.blt 0 E.size && Nat.beq E.zero.cells.length E.size && Nat.blt 0 E.bytes)
  (om (jk E.size y σ) fun src=>cB (Nat.beq src.1 0) (match x with | .sl0=>Q .sl0 σ | .sl o g off n z=>Q (.sl o g off n z) σ | _=>False)
   (cB (src.2.all AV.one)
      (match x with
      | .sl0=>src.1*E.bytes≤140737488355328∧J5 src.2 fun l=>J7 lit σ fun m=>Nb lit (au e l σ) fun σ'=>Q (.sl m 0 0 src.1 E.size) σ'
      | .sl o g off n z=>om (J9 σ o g e) fun cs=>z=E.size∧off+n*z≤cs.length∧(n+src.1)*E.bytes≤140737488355328∧((cs.drop off).take (n*z)).all AV.one=true∧
          Nb lit (σ.set o ⟨g+1,false,.cells e (((cs.drop off).take (n*z)) ++ src.2)⟩) fun σ'=>Q (.sl o (g+1) 0 (n+src.1) z) σ'
      | _=>False) False)) False
 | _=>False
structure HasF (P:Program)(t I:Nat)(Q:Bool→Prop):Prop where
 ev:om (hasAll P t I) Q
theorem HasF.of {P:Program} {t I:Nat} {b:Bool} {Q:Bool→Prop} (h:hasAll P t I=some b)(q:Q b):HasF P t I Q:=⟨by rw [h];exact q⟩
def wTas (P:Program)(x:AV)(t:Nat)(ok:Bool)(Q:AV→Prop):Prop:=om (τ t) fun T=>cB (OV T.d) (match x with
 | .gu=>cB ok (Q (.tu [T.zero,.b false])) False
 | .ic t' v=>HasF P t' t fun b=>cB b (cB ok (Q (.tu [.ic t' v,.b true])) (Q (.ic t' v))) (cB ok (Q (.tu [T.zero,.b false])) False)
 | _=>False) (match x with
 | .gu=>cB ok (Q (.tu [T.zero,.b false])) False
 | .ic t' v=>cB (Nat.beq t' t) (cB ok (Q (.tu [v,.b true])) (fc v Q)) (cB ok (Q (.tu [T.zero,.b false])) False)
 | _=>False)
end
structure DX (τ:pI)(lit:Bool)(t:Nat)(x y:AV)(σ:St)(Q:AV→St→Prop):Prop where
 ev:wApp τ lit t x y σ Q
def Qc (X:Ctx)(τ:pI)(lit:Bool)(ρ:dK→AV)(op:fC)(σ:St)(Q:AV→St→Prop):Prop:=match op with
 | .mv x=>fc (ρ x) fun v=>Q v σ
 | .pick c a b=>match ρ c with
   | .b t=>cB t (cB (ρ a).cnd (fc (ρ a).val fun v=>Q v σ) False) (cB (ρ b).cnd (fc (ρ b).val fun v=>Q v σ) False)
   | _=>False
 | .alloc t=>om (τ t) fun T=>J7 lit σ fun m=>Nb lit (au t T.zero.cells σ) fun σ'=>Q (.p m 0 0) σ'
 | .box t x=>fq (ρ x) fun v=>match v with
   | .u=>False
   | .tu _=>False
   | .cd _ _=>False
   | v=>J7 lit σ fun m=>Nb lit (au t v.cells σ) fun σ'=>Q (.p m 0 0) σ'
 | .build t ps=>Ua τ t (ps.map fun q=>(q.1,ρ q.2)) fun v=>Q v σ
 | .jh t n ps=>wBsl τ lit t n (ps.map fun q=>(q.1,ρ q.2)) σ Q
 | .load t x=>om (oU (τ t) (ρ x) σ) fun v=>fc v fun v=>Q v σ
 | .store t x y=>om (jW (τ t) (ρ x) (ρ y) σ) fun σ'=>Nb lit σ' fun σ'=>Q (.tu []) σ'
 | .bn x=>om (RH (ρ x)) fun v=>Q v σ
 | .bin op t x y=>wBin τ op t (ρ x) (ρ y) (x.isC || y.isC) fun v=>Q v σ
 | .un op x=>wUn op (ρ x) fun v=>Q v σ
 | .conv s d x=>Zi τ lit s d (ρ x) σ Q
 | .VY t x=>om (τ t) fun T=>match T.d with
   | .uD _=>False
   | _=>fc (ρ x) fun v=>Q (.ic t v) σ
 | .Jj f a c=>J5 (a.map ρ) fun a=>J5 (c.map ρ) fun c=>Q (.fn f a c) σ
 | .Zv t l c=>wMks τ lit t (ρ l) (ρ c) σ Q
 | .slc t x l h=>wSlc τ t (ρ x) (l.map ρ) (h.map ρ) σ fun v=>Q v σ
 | .fH t x f=>wFad τ t (ρ x) f fun v=>Q v σ
 | .Pn t x f=>wFld τ t (ρ x) f fun v=>Q v σ
 | .nG t x i=>wIad τ t (ρ x) (ρ i) fun v=>Q v σ
 | .idx t x i=>wIdx τ t (ρ x) (ρ i) fun v=>Q v σ
 | .rng t x=>wRng τ lit t (ρ x) σ Q
 | .Zw x=>wNxt lit (ρ x) σ Q
 | .Zx x _ t ok=>wTas τ X.P (ρ x) t ok fun v=>Q v σ
 | .ext x i=>match ρ x with
   | .tu vs=>om vs[i]? fun v=>fc v fun v=>Q v σ
   | _=>False
 | .call f args=>match ρ f with
   | .fn f first cap=>match f with
     | .func k=>J5 (first ++ args.map ρ ++ cap) fun l=>ay X k l σ fun v σ'=>fc v fun v=>Q v σ'
     | _=>False
   | _=>False
 | .inv x m args=>match ρ x with
   | .ic t v=>match X.meth t m v with
     | some k=>J5 (k.2 :: args.map ρ) fun l=>ay X k.1 l σ fun v σ'=>fc v fun v=>Q v σ'
     | none=>False
   | _=>False
 | .len t x=>wLen τ t (ρ x) fun v=>Q v σ
 | .app t _ x y=>fq (ρ x) fun x=>fq (ρ y) fun y=>DX τ lit t x y σ Q
 | .copy t x y=>om (Oi X.P t (ρ x) (ρ y) σ) fun r=>Nb lit r.2 fun σ'=>Q r.1 σ'
 | .mn mx xs=>om (aMn mx (xs.map ρ)) fun v=>fc v fun v=>Q v σ
 | .YU t r=>om (Wl X.P t (r.map ρ) σ) fun r=>Nb lit r.2 fun σ'=>Q r.1 σ'
 | .Wh t x k ok=>om (MC X.P t (ρ x) (ρ k) ok σ) fun v=>fc v fun v=>Q v σ
 | .AX t m k v=>om (Jl X.P t (ρ m) (ρ k) (ρ v) σ) fun σ'=>Nb lit σ' fun σ'=>Q (.tu []) σ'
 | .del t m k=>om (Wj X.P t (ρ m) (ρ k) σ) fun σ'=>Nb lit σ' fun σ'=>Q (.tu []) σ'
 | .Zy t x=>om (Wn X.P t (ρ x) σ) fun v=>fc v fun v=>Q v σ
 | .sl3 t x l h m=>om (Wi X.P t (ρ x) (l.map ρ) (ρ h) (ρ m)) fun v=>fc v fun v=>Q v σ
 | .pnc _=>False
section
variable {X:Ctx} {τ:pI} (fJ:τ.Ok X.P) {lit:Bool} {σ:St} {Q:AV→St→Prop}
theorem aae {op:UnOp} {x:AV} {Q:AV→Prop} (h:wUn op x Q):opt (aUn op x) Q:=by
 unfold wUn at h
 split at h
 ·obtain⟨r,rfl,h⟩:=h;exact⟨_,rfl,h⟩
 ·exact DU h
 ·exact⟨_,rfl,iT _ _ h⟩
 ·exact h.elim
include fJ
theorem Uc {s d:Nat} {x:AV} (h:Zi τ lit s d x σ Q):opt (Jk X.P s d x σ) fun r=>Q r.1 r.2:=by
 obtain⟨⟨d1,s1,b1,z1,c1,hd1,g1⟩,hS,h⟩:=bH h
 obtain⟨⟨d2,s2,b2,z2,c2,hd2,g2⟩,hD,h⟩:=bH h
 unfold Jk
 rw [fJ _ _ hS,fJ _ _ hD]
 simp only at h ⊢
 split at h
 ·obtain⟨r,rfl,h⟩:=h;exact⟨_,rfl,h⟩
 ·exact⟨_,rfl,h⟩
 ·exact⟨_,rfl,h⟩
 ·obtain⟨h1,h⟩:=lI h
  obtain⟨a,b,c,d,f,g,he⟩:=Iq fJ h1
  simp only [he]
  exact⟨_,rfl,kQ _ _ _ (qM _ _ _ h)⟩
 ·obtain⟨h1,h⟩:=lI h
  obtain⟨a,b,c,d,f,g,he⟩:=Iq fJ h1
  simp only [he]
  exact⟨_,rfl,h⟩
 ·obtain⟨h1,h⟩:=lI h
  rw [Bool.and_eq_true] at h1
  have hz:=Nat.eq_of_beq_eq_true h1.2
  obtain⟨a,b,c,d,f,g,he⟩:=Iq fJ h1.1
  obtain⟨cs,hc,b',h2,h3,h⟩:=bH h
  simp only [he]
  rw [if_pos hz,hc,Option.bind_some,if_pos h2,h3]
  exact⟨_,rfl,h⟩
 ·exact h.elim
theorem XV {t n:Nat} {ps:List (Nat×AV)} (h:wBsl τ lit t n ps σ Q):opt (Rl X.P t n ps σ) fun r=>Q r.1 r.2:=by
 obtain⟨⟨d1,s1,b1,z1,c1,hd1,g1⟩,hT,h⟩:=bH h
 unfold Rl
 simp only at h
 split at h
 ·rw [fJ _ _ hT]
  obtain⟨E,hE,h⟩:=bH h
  obtain⟨h1,h⟩:=lI h
  rw [Bool.and_eq_true,Bool.and_eq_true] at h1
  obtain⟨cs,hc,h⟩:=bH h
  simp only [fJ _ _ hE]
  rw [if_pos ⟨lJ h1.1.1,Nat.eq_of_beq_eq_true h1.1.2,Nat.le_of_ble_eq_true h1.2⟩,hc]
  exact⟨_,rfl,kQ _ _ _ (qM _ _ _ (nS _ _ h))⟩
 ·exact h.elim
theorem XY {t:Nat} {l c:AV} (h:wMks τ lit t l c σ Q):opt (RD X.P t l c σ) fun r=>Q r.1 r.2:=by
 obtain⟨⟨d1,s1,b1,z1,c1,hd1,g1⟩,hT,h⟩:=bH h
 unfold RD
 rw [fJ _ _ hT]
 simp only at h
 split at h
 ·obtain⟨E,hE,h⟩:=bH h
  obtain⟨h1,h⟩:=lI h
  rw [Bool.and_eq_true] at h1
  obtain⟨l',c',rfl,rfl,h2,h3,h4,h⟩:=h
  simp only [fJ _ _ hE]
  rw [if_pos ⟨lJ h1.1,Nat.eq_of_beq_eq_true h1.2,by omega,by omega,by omega,by omega⟩]
  exact⟨_,rfl,kQ _ _ _ (qM _ _ _ h)⟩
 ·exact h.elim
theorem XZ {t:Nat} {x:AV} (h:wRng τ lit t x σ Q):opt (RF X.P t x σ) fun r=>Q r.1 r.2:=by
 obtain⟨⟨d1,s1,b1,z1,c1,hd1,g1⟩,hT,h⟩:=bH h
 unfold RF
 rw [fJ _ _ hT]
 simp only at h
 split at h
 ·exact⟨_,rfl,kQ _ _ _ (qM _ _ _ h)⟩
 ·exact h.elim
omit fJ in
theorem X3 {x:AV} (h:wNxt lit x σ Q):opt (RG x σ) fun r=>Q r.1 r.2:=by
 unfold wNxt at h
 split at h
 ·obtain⟨h1,h⟩:=lI h
  obtain rfl:=Nat.eq_of_beq_eq_true h1
  obtain⟨⟨s,pos⟩,hi,h⟩:=bH h
  unfold iterAt at hi
  split at hi
  ·rename_i g' ro s' pos' ho
   cases hb:(Nat.beq _ g' && !ro) with
   | false=>rw [hb] at hi;cases hi
   | true=>
     rw [hb] at hi
     cases hi
     simp only [Bool.and_eq_true,Bool.not_eq_true'] at hb
     have hg:=Nat.eq_of_beq_eq_true hb.1
     subst hg
     unfold RG
     simp only [ho]
     rw [if_pos ⟨trivial,hb.2⟩]
     simp only at h
     by_cases hp:pos<s.length
     ·rw [decide_eq_true hp] at h
      rw [if_pos hp]
      exact⟨_,rfl,kQ _ _ _ h⟩
     ·rw [decide_eq_false hp] at h
      rw [if_neg hp]
      exact⟨_,rfl,h⟩
  ·cases hi
 ·exact h.elim
theorem X_ {t:Nat} {x y:AV} (h:wApp τ lit t x y σ Q):opt (Ry X.P t x y σ) fun r=>Q r.1 r.2:=by
 obtain⟨⟨d1,s1,b1,z1,c1,hd1,g1⟩,hT,h⟩:=bH h
 unfold Ry
 simp only at h
 split at h
 ·rw [fJ _ _ hT]
  obtain⟨E,hE,h⟩:=bH h
  obtain⟨h1,h⟩:=lI h
  rw [Bool.and_eq_true,Bool.and_eq_true] at h1
  obtain⟨src,hs,h⟩:=bH h
  simp only [fJ _ _ hE]
  rw [if_pos ⟨lJ h1.1.1,Nat.eq_of_beq_eq_true h1.1.2,lJ h1.2⟩,hs,Option.bind_some]
  cases h0:Nat.beq src.1 0 with
  | true=>
    rw [h0] at h
    rw [if_pos (Nat.eq_of_beq_eq_true h0)]
    simp only [cB] at h
    split at h
    ·exact⟨_,rfl,h⟩
    ·exact⟨_,rfl,h⟩
    ·exact h.elim
  | false=>
    rw [h0] at h
    rw [if_neg (fun e=>by rw [e] at h0;cases h0)]
    obtain⟨h2,h⟩:=lI h
    rw [if_pos h2]
    split at h
    ·obtain⟨h3,h⟩:=h
     simp only
     rw [if_pos h3]
     exact⟨_,rfl,kQ _ _ _ (qM _ _ _ (nS _ _ h))⟩
    ·obtain⟨cs,hc,h3,h4,h5,h6,h⟩:=bH h
     have ho:=Ub hc
     simp only [ho]
     rw [if_pos ⟨trivial,h3,trivial,h4,h5,h6⟩]
     exact⟨_,rfl,kQ _ _ _ h⟩
    ·exact h.elim
 ·exact h.elim
theorem Ya {x:AV} {t:Nat} {ok:Bool} {Q:AV→Prop} (h:wTas τ X.P x t ok Q):opt (Pv X.P x t ok) Q:=by
 obtain⟨⟨d1,s1,b1,z1,c1,hd1,g1⟩,hT,h⟩:=bH h
 unfold Pv
 rw [fJ _ _ hT]
 simp only at h
 cases x with
 | gu=>
   have key:ok=true∧Q (.tu [z1,.b false]):=by
    cases hi:OV d1 <;> (rw [hi] at h;exact lI h)
   obtain⟨rfl,h⟩:=key
   cases d1 <;> exact⟨_,rfl,h⟩
 | ic t' v=>
   simp only at h
   cases hi:OV d1 with
   | true=>
     rw [hi] at h
     cases d1 with
     | uD ms=>
       obtain⟨b,hb,h⟩:=bH h.ev
       simp only [hb]
       cases b with
       | true=>cases ok <;> exact⟨_,rfl,h⟩
       | false=>obtain⟨rfl,h⟩:=lI h;exact⟨_,rfl,h⟩
     | _=>cases hi
   | false=>
     rw [hi] at h
     have key:opt (if t'= t then some (if ok then AV.tu [v,.b true] else v) else if ok then some (.tu [z1,.b false]) else none) Q:=by
        cases hb:Nat.beq t' t with
        | true=>
          rw [hb] at h
          rw [if_pos (Nat.eq_of_beq_eq_true hb)]
          cases ok with
          | true=>exact⟨_,rfl,h⟩
          | false=>exact⟨_,rfl,iT _ _ h⟩
        | false=>
          rw [hb] at h
          rw [if_neg (fun e=>by rw [e,Nat.beq_refl] at hb;cases hb)]
          obtain⟨rfl,h⟩:=lI h
          exact⟨_,rfl,h⟩
     cases d1 <;> first | (cases hi;done) | exact key
 | _=>cases hi:OV d1 <;> (rw [hi] at h;exact h.elim)
theorem J_ {t:Nat} {x v:AV} (h:oU (τ t) x σ=some v):oU (aJ X.P t) x σ=some v:=by
 cases ht:τ t with
 | none=>rw [ht] at h;simp [oU] at h
 | some T=>rw [fJ _ _ ht,←ht];exact h
theorem Qd {t:Nat} {x y:AV} {σ':St} (h:jW (τ t) x y σ=some σ'):jW (aJ X.P t) x y σ=some σ':=by
 cases ht:τ t with
 | none=>rw [ht] at h;simp [jW] at h
 | some T=>rw [fJ _ _ ht,←ht];exact h
theorem Nk {ρ:dK→AV} {op:fC} (h:Qc X τ lit ρ op σ Q):Dk X ρ op σ Q:=by
 cases op with
 | call f args=>
   rw [FU]
   simp only [Qc] at h
   split at h
   ·rename_i f' first cap hf
    split at h
    ·rename_i k
     rw [hf]
     have h:=nS _ _ h
     exact Dl h.ev fun v s q=>iT _ _ q
    ·exact h.elim
   ·exact h.elim
 | inv x m args=>
   rw [JJ]
   simp only [Qc] at h
   split at h
   ·rename_i t v hx
    split at h
    ·rename_i k hk
     rw [hx]
     have h:=nS _ _ h
     exact⟨k,hk,Dl h.ev fun v s q=>iT _ _ q⟩
    ·exact h.elim
   ·exact h.elim
 | pnc x=>exact h.elim
 | mv x=>rw [dB rfl];simp only [Qc] at h;exact⟨_,rfl,iT _ _ h⟩
 | pick c a b=>
   rw [dB rfl]
   simp only [Qc] at h
   split at h
   ·rename_i t hc
    simp only [jJ]
    rw [d_]
    unfold Jm
    rw [hc]
    cases t with
    | true=>
      obtain⟨h1,h⟩:=lI h
      simp only [iJ,h1,Bool.not_true,lV,Bool.and_self,if_true]
      refine⟨_,rfl,?_⟩
      have h:=iT _ _ h
      have e:merge true (ρ a).val (ρ b).val=(ρ a).val:=by
       unfold merge
       split
       ·rename_i p q e1 e2;rw [e1];simp [CU]
       ·simp
      rw [e];exact h
    | false=>
      obtain⟨h1,h⟩:=lI h
      simp only [lV,h1,Bool.not_false,iJ,Bool.and_self,if_true]
      refine⟨_,rfl,?_⟩
      have h:=iT _ _ h
      have e:merge false (ρ a).val (ρ b).val=(ρ b).val:=by
       unfold merge
       split
       ·rename_i p q e1 e2;rw [e2];simp [CU]
       ·simp
      rw [e];exact h
   ·exact h.elim
 | alloc t=>
   rw [dB rfl]
   obtain⟨T,hT,h⟩:=bH h
   simp only [jJ]
   rw [fJ _ _ hT]
   exact⟨_,rfl,kQ _ _ _ (qM _ _ _ h)⟩
 | box t x=>
   rw [dB rfl]
   simp only [Qc] at h
   have h:=J6 _ _ h
   simp only [jJ]
   split at h
   ·exact h.elim
   ·exact h.elim
   ·exact h.elim
   ·rename_i h1 h2 h3
    have h:=kQ _ _ _ (qM _ _ _ h)
    split
    ·rename_i e;exact(h1 e).elim
    ·rename_i e;exact(h2 _ e).elim
    ·rename_i e;exact(h3 _ _ e).elim
    ·exact⟨_,rfl,h⟩
 | build t ps=>rw [dB rfl];simp only [jJ];rw [d_];exact Qb fJ h
 | jh t n ps=>rw [dB rfl];exact XV fJ h
 | load t x=>
   rw [dB rfl]
   obtain⟨v,hv,h⟩:=bH h
   simp only [jJ]
   rw [d_]
   exact⟨v,J_ fJ hv,iT _ _ h⟩
 | store t x y=>
   rw [dB rfl]
   obtain⟨s,hs,h⟩:=bH h
   simp only [jJ]
   rw [d_]
   exact⟨s,Qd fJ hs,kQ _ _ _ h⟩
 | bn x=>
   rw [dB rfl]
   simp only [jJ]
   rw [d_]
   exact DU h
 | bin op t x y=>rw [dB rfl];simp only [jJ];rw [d_];exact XM fJ h
 | un op x=>rw [dB rfl];simp only [jJ];rw [d_];exact aae h
 | conv s d x=>rw [dB rfl];exact Uc fJ h
 | VY t x=>
   rw [dB rfl]
   obtain⟨⟨d1,s1,b1,z1,c1,hd1,g1⟩,hT,h⟩:=bH h
   simp only [jJ]
   rw [fJ _ _ hT]
   simp only at h
   split at h
   ·exact h.elim
   ·rename_i hn
    have h:=iT _ _ h
    split
    ·rename_i e;cases e;exact(hn _ rfl).elim
    ·exact⟨_,rfl,h⟩
    ·rename_i e;cases e
 | Jj f a c=>
   rw [dB rfl]
   simp only [Qc] at h
   have h:=nS _ _ (nS _ _ h)
   exact⟨_,rfl,h⟩
 | Zv t l c=>rw [dB rfl];exact XY fJ h
 | slc t x l hh=>rw [dB rfl];simp only [jJ];rw [d_];exact XO fJ h
 | fH t x f=>rw [dB rfl];simp only [jJ];rw [d_];exact XT fJ h
 | Pn t x f=>rw [dB rfl];simp only [jJ];rw [d_];exact XU fJ h
 | nG t x i=>rw [dB rfl];simp only [jJ];rw [d_];exact XP fJ h
 | idx t x i=>rw [dB rfl];simp only [jJ];rw [d_];exact XQ fJ h
 | rng t x=>rw [dB rfl];exact XZ fJ h
 | Zw x=>rw [dB rfl];exact X3 h
 | Zx x _ t ok=>rw [dB rfl];simp only [jJ];rw [d_];exact Ya fJ h
 | ext x i=>
   rw [dB rfl]
   simp only [Qc] at h
   simp only [jJ]
   split at h
   ·rename_i vs hx
    obtain⟨v,hv,h⟩:=bH h
    rw [hx]
    simp only
    rw [d_]
    exact⟨v,hv,iT _ _ h⟩
   ·exact h.elim
 | len t x=>rw [dB rfl];simp only [jJ];rw [d_];exact XR fJ h
 | app t s x y=>
   rw [dB rfl]
   simp only [Qc] at h
   exact X_ fJ (J6 _ _ (J6 _ _ h)).ev
 | YU t r=>
   rw [dB rfl]
   obtain⟨q,hq,h⟩:=bH h
   exact⟨q,hq,kQ _ _ _ h⟩
 | Wh t x k ok=>
   rw [dB rfl]
   obtain⟨v,hv,h⟩:=bH h
   simp only [jJ]
   rw [d_]
   exact⟨v,hv,iT _ _ h⟩
 | AX t m k v=>
   rw [dB rfl]
   obtain⟨q,hq,h⟩:=bH h
   simp only [jJ]
   rw [d_]
   exact⟨q,hq,kQ _ _ _ h⟩
 | del t m k=>
   rw [dB rfl]
   obtain⟨q,hq,h⟩:=bH h
   simp only [jJ]
   rw [d_]
   exact⟨q,hq,kQ _ _ _ h⟩
 | sl3 t x l hh m=>
   rw [dB rfl]
   obtain⟨v,hv,h⟩:=bH h
   simp only [jJ]
   rw [d_]
   exact⟨v,hv,iT _ _ h⟩
 | Zy t x=>
   rw [dB rfl]
   obtain⟨v,hv,h⟩:=bH h
   simp only [jJ]
   rw [d_]
   exact⟨v,hv,iT _ _ h⟩
 | copy t x y=>
   rw [dB rfl]
   obtain⟨r,hr,h⟩:=bH h
   exact⟨r,hr,kQ _ _ _ h⟩
 | mn mx xs=>
   rw [dB rfl]
   obtain⟨r,hr,h⟩:=bH h
   simp only [jJ]
   rw [d_]
   exact⟨r,hr,iT _ _ h⟩
end
end Go.bG
namespace Go.bG
section
variable (X:Ctx)(τ:pI)(lit:Bool)
def Rf (e:Env)(op:fC)(σ:St)(K:AV→St→Prop)(c:Bool):Prop:=match c with
 | true=>cB op.pure
  (match op with
  | .pick q x y=>match (q.ev e).val with
    | .b t=>cB (q.ev e).cnd (cB t (cB (x.ev e).cnd (fc (x.ev e).val fun v=>K (.cd true v) σ) False) (cB (y.ev e).cnd (fc (y.ev e).val fun v=>K (.cd true v) σ) False)) False
    | _=>False
  | op=>cB (op.dh.all fun o=>(o.ev e).cnd) (Qc X τ lit (fun o=>(o.ev e).val) op σ fun v _=>K (.cd true v) σ) False)
  (cB (op.dh.all fun o=>(o.ev e).cnd) (Qc X τ lit (fun o=>(o.ev e).val) op σ K) False)
 | false=>cB op.pure (K (.cd false .u) σ) (K (.tu []) σ)
def Ko (e:Env)(a:AI)(σ:St)(K:AV→St→Prop):Prop:=match a.gd with
 | none=>Qc X τ lit (dK.ev e) a.op σ K
 | some (n,w)=>match get e n with
   | .b x=>cB x (Rf X τ lit e a.op σ K w) (Rf X τ lit e a.op σ K (!w))
   | .cd c v=>cB c (match v with | .b x=>cB x (Rf X τ lit e a.op σ K w) (Rf X τ lit e a.op σ K (!w)) | _=>False) (Rf X τ lit e a.op σ K false)
   | .tu vs=>match vs with
     | []=>Rf X τ lit e a.op σ K false
     | _=>False
   | _=>False
def wO:List AI→Env→St→(Env→St→Prop)→Prop
 | [],e,σ,K=>K e σ
 | a :: r,e,σ,K=>Ko X τ lit e a σ fun v σ'=>wO r (put a.d v e) σ' K
def wAg (e:Env)(σ:St):List AI→Prop→Prop
 | [],K=>K
 | a :: r,K=>(match a.d with
   | some d=>cB a.op.pure (Ko X τ lit e a σ fun v _=>get e d=v) False
   | none=>False)∧wAg e σ r K
def wD:List (AI×List AI)→Env→St→(Env→St→Prop)→Prop
 | [],e,σ,K=>K e σ
 | a :: r,e,σ,K=>Ko X τ lit e a.1 σ fun v σ'=>wAg X τ lit e σ' a.2 (wD r (put a.1.d v e) σ' K)
def Qe:List Nat→Env→(Env→Prop)→Prop
 | [],_,K=>K []
 | d :: ds,e,K=>fc (get e d) fun v=>Qe ds e fun r=>K ((d,v) :: r)
def wC:AC→Env→St→(Out→Env→St→Prop)→Prop
 | .skip,e,σ,Q=>Q .normal e σ
 | .reg ops,e,σ,Q=>wO X τ lit ops e σ fun e σ=>Q .normal e σ
 | .jM ops,e,σ,Q=>wD X τ lit ops e σ fun e σ=>Q .normal e σ
 | .seq a b,e,σ,Q=>wC a e σ fun o e σ=>match o with
   | .normal=>wC b e σ Q
   | .exit j=>Q (.exit j) e σ
   | .ret=>Q .ret e σ
 | .cond x a b,e,σ,Q=>match x.ev e with
   | .b t=>cB t (wC a e σ Q) (wC b e σ Q)
   | _=>False
 | .blk id c,e,σ,Q=>wC c e σ fun o e σ=>match o with
   | .normal=>Q .normal e σ
   | .exit j=>cB (Nat.beq j id) (Q .normal e σ) (Q (.exit j) e σ)
   | .ret=>Q .ret e σ
 | .loop live c,e,σ,Q=>Qe live e fun e=>aS X live c e σ Q
 | .cut live c,e,σ,Q=>Qe live e fun e=>wC c e σ Q
 | .exit id,e,σ,Q=>Q (.exit id) e σ
 | .ret,e,σ,Q=>Q .ret e σ
def OW (e:Env)(σ:St):List AR→(List AV→Prop)→Prop
 | [],K=>K []
 | .t n :: rs,K=>fc (get e n) fun v=>match v with
   | .cd _ _=>False
   | v=>OW e σ rs fun vs=>K (v :: vs)
 | .cell a t :: rs,K=>om (oU (τ t) (get e a) σ) fun v=>fc v fun v=>OW e σ rs fun vs=>K (v :: vs)
end
structure Fin (σ:St)(v:AV)(σ':St)(Q:AV→St→Prop):Prop where
 ev:Q (norm σ v σ').1 (norm σ v σ').2
def wF (X:Ctx)(τ:pI)(lit:Bool)(F:AF)(args:List AV)(σ:St)(Q:AV→St→Prop):Prop:=
 wC X τ lit F.code (ig 0 args) σ fun o e σ'=>match o with
    | .exit _=>False
    | _=>OW τ e σ' F.res fun vs=>match vs with
      | []=>Fin σ (.tu []) σ' Q
      | [v]=>Fin σ v σ' Q
      | v :: w :: vs=>Fin σ (.tu (v :: w :: vs)) σ' Q
theorem Fin.flat {σ σ':St} {v:AV} {Q:AV→St→Prop} (hf:v.flat=true)(h:σ'.take σ.length=σ)(q:Q v σ):Fin σ v σ' Q:=by
 constructor
 unfold norm
 rw [h,hf]
 simpa using q
theorem Fin.ref {σ σ':St} {v:AV} {Q:AV→St→Prop} (hf:v.flat=false)(q:Q v σ'):Fin σ v σ' Q:=by
 constructor
 unfold norm
 rw [hf]
 simpa using q
theorem Fin.same {σ σ':St} {v:AV} {Q:AV→St→Prop} (h:σ'.length=σ.length)(q:Q v σ'):Fin σ v σ' Q:=by
 constructor
 unfold norm
 split
 ·rename_i hc
  rw [Bool.and_eq_true] at hc
  have:=lZ _ _ hc.2
  rw [List.take_of_length_le (by omega)] at this
  rw [←this];exact q
 ·exact q
theorem Fin.ne {σ σ':St} {v:AV} {Q:AV→St→Prop} (h:σ'.take σ.length≠σ)(q:Q v σ'):Fin σ v σ' Q:=by
 constructor
 unfold norm
 split
 ·rename_i hc
  rw [Bool.and_eq_true] at hc
  exact(h (lZ _ _ hc.2)).elim
 ·exact q
section
variable {X:Ctx} {τ:pI} (fJ:τ.Ok X.P) {lit:Bool} {e:Env} {σ:St}
include fJ
theorem Ac {d:Option Nat} {g:Nat×Bool} {op:fC} {K:AV→St→Prop} {c:Bool} (hw:fG e (some g)=some c)(h:Rf X τ lit e op σ K c):EvS X e ⟨d,some g,op⟩ σ K:=by
 cases hp:op.pure with
 | true=>
   rw [SA hp]
   refine⟨c,hw,?_⟩
   cases c with
   | false=>
     simp only [Rf,hp] at h
     exact⟨_,rfl,h⟩
   | true=>
     simp only [Rf,hp] at h
     by_cases hpk:∃q x y,op= .pick q x y
     ·obtain⟨q,x,y,rfl⟩:=hpk
      simp only [cB] at h
      simp only [kN,if_true,ng,CV]
      split at h
      ·rename_i t ht
       rw [ht]
       split at h
       ·rename_i h1
        cases t with
        | true=>
          simp only at h
          split at h
          ·rename_i h2
           have h:=iT _ _ h
           refine⟨_,by simp only [h1,h2,iJ,Bool.and_self,Bool.true_and,Bool.not_true,Bool.and_false,lV,if_true];rfl,?_⟩
           have e1:merge true (x.ev e).val (y.ev e).val=(x.ev e).val:=by
            unfold merge
            split
            ·rename_i p q e1 e2;rw [e1];simp [CU]
            ·simp
           rw [e1];exact h
          ·exact h.elim
        | false=>
          simp only at h
          split at h
          ·rename_i h2
           have h:=iT _ _ h
           refine⟨_,by simp only [h1,h2,iJ,Bool.and_self,Bool.true_and,Bool.not_false,Bool.and_false,Bool.and_true,lV,if_true];rfl,?_⟩
           have e1:merge false (x.ev e).val (y.ev e).val=(y.ev e).val:=by
            unfold merge
            split
            ·rename_i p q e1 e2;rw [e2];simp [CU]
            ·simp
           rw [e1];exact h
          ·exact h.elim
       ·exact h.elim
      ·exact h.elim
     ·have h':cB (op.dh.all fun o=>(o.ev e).cnd) (Qc X τ lit (fun o=>(o.ev e).val) op σ fun v _=>K (.cd true v) σ) False:=by
        cases op <;> first | exact h | exact absurd ⟨_,_,_,rfl⟩ hpk
      obtain⟨h1,h2⟩:=lI h'
      have h3:=Nk fJ h2
      rw [dB (by clear h' h1 h2 h3 hpk h;cases op <;> first | rfl | cases hp)] at h3
      obtain⟨r,hr,h4⟩:=h3
      have e1:ng X.P e op σ=rW true (op.dh.all (fun o=>oP true (o.ev e).cnd)) (jJ X.P (fun o=>(o.ev e).val) op σ):=by
        cases op <;> first | rfl | exact absurd ⟨_,_,_,rfl⟩ hpk
      refine⟨.cd true r.1,?_,h4⟩
      simp only [kN,if_true]
      rw [e1,hr]
      simp only [iJ,rW]
      rw [if_pos h1]
 | false=>
   rw [OB hp]
   refine⟨c,hw,?_⟩
   cases c with
   | false=>simp only [Rf,hp] at h;exact h
   | true=>
     simp only [Rf,hp] at h
     obtain⟨h1,h2⟩:=lI h
     exact⟨h1,Nk fJ h2⟩
theorem DY {a:AI} {K:AV→St→Prop} (h:Ko X τ lit e a σ K):EvS X e a σ K:=by
 obtain⟨d,gd,op⟩:=a
 unfold Ko at h
 simp only at h
 cases gd with
 | none=>exact Nk fJ h
 | some g=>
   obtain⟨n,w⟩:=g
   simp only at h
   split at h
   ·rename_i x hx
    cases x with
    | true=>exact Ac fJ (by simp only [fG,hx];cases w <;> rfl) h
    | false=>exact Ac fJ (by simp only [fG,hx];cases w <;> rfl) h
   ·rename_i c v hx
    cases c with
    | true=>
      simp only [cB] at h
      split at h
      ·rename_i x
       cases x with
       | true=>exact Ac fJ (by simp only [fG,hx];cases w <;> rfl) h
       | false=>exact Ac fJ (by simp only [fG,hx];cases w <;> rfl) h
      ·exact h.elim
    | false=>
      have h':Rf X τ lit e op σ K false:=h
      exact Ac fJ (by simp only [fG,hx];cases v <;> rfl) h'
   ·rename_i vs hx
    split at h
    ·exact Ac fJ (by simp only [fG,hx]) h
    ·exact h.elim
   ·exact h.elim
theorem Zj:∀{ops:List AI} {e:Env} {σ:St} {K:Env→St→Prop},wO X τ lit ops e σ K→EvO X ops e σ K
 | [],e,σ,K,h=>Oz.2 h
 | a :: r,e,σ,K,h=>by
   rw [JH]
   have h1:=DY fJ h
   obtain⟨n,x,hx,q⟩:=h1
   exact⟨n,x,hx,Zj q⟩
theorem Ud {e:Env} {σ:St} {K:Prop} :∀{l:List AI},wAg X τ lit e σ l K→l.all (wH X e σ)=true∧K
 | [],h=>⟨rfl,h⟩
 | a :: r,h=>by
   obtain⟨h1,h2⟩:=h
   obtain⟨h3,h4⟩:=Ud h2
   refine⟨?_,h4⟩
   simp only [List.all_cons,h3,Bool.and_true]
   split at h1
   ·rename_i d hd
    obtain⟨hp,h1⟩:=lI h1
    obtain⟨n,x,hx,q⟩:=DY fJ h1
    have hx':fQ X (fun _ _ _=>none) e a σ=some x:=by
        unfold fQ at hx ⊢
        rw [←hx]
        have hc:∀ρ run,iF X run ρ a.op σ=jJ X.P ρ a.op σ:=by
         intro ρ run
         cases ho:a.op <;> rw [ho] at hp <;> first | rfl | cases hp
        simp only [hc]
    unfold wH
    rw [hd,hx']
    obtain⟨v,s⟩:=x
    simp only at q ⊢
    rw [q];exact AV.rV v
   ·exact h1.elim
theorem Zk:∀{ops:List (AI×List AI)} {e:Env} {σ:St} {K:Env→St→Prop},wD X τ lit ops e σ K→EvD X ops e σ K
 | [],e,σ,K,h=>OA.2 h
 | (a,ag) :: r,e,σ,K,h=>by
   rw [JI]
   have h1:=DY fJ h
   obtain⟨n,x,hx,q⟩:=h1
   obtain⟨q1,q2⟩:=Ud fJ q
   exact⟨n,x,hx,q1,Zk q2⟩
omit fJ in
theorem yE:∀(l:List Nat) (e:Env) (K:Env→Prop),Qe l e K→K (clear l e)
 | [],e,K,h=>h
 | d :: ds,e,K,h=>yE ds e _ (iT _ _ h)
omit fJ in
theorem Bo (l:List Nat)(e:Env):clear l (clear l e)=clear l e:=by
 have key:∀(m:List Nat) (d:Nat),d∈m→get (m.map fun d=>(d,get e d)) d=get e d:=by
  intro m
  induction m with
  | nil=>intro d h;cases h
  | cons a m ih=>
    intro d h
    simp only [List.map_cons,get]
    split
    ·rename_i h1;rw [h1]
    ·rename_i h1
     rcases List.mem_cons.1 h with rfl | h
     ·exact(h1 rfl).elim
     ·exact ih d h
 unfold clear
 exact List.map_congr_left fun d hd=>by rw [key l d hd]
theorem Zl:∀{c:AC} {e:Env} {σ:St} {Q:Out→Env→St→Prop},wC X τ lit c e σ Q→EvC X c e σ Q:=by
 intro c
 induction c with
 | skip=>intro e σ Q h;exact JD.2 h
 | exit id=>intro e σ Q h;exact JE.2 h
 | ret=>intro e σ Q h;exact Oq.2 h
 | reg ops=>intro e σ Q h;exact Ot.2 (Zj fJ h)
 | jM ops=>intro e σ Q h;exact Ou.2 (Zk fJ h)
 | seq a b iha ihb=>
   intro e σ Q h
   refine Ov.2 (yj (iha h) fun o e s q=>?_)
   cases o with
   | normal=>rw [Out.sJ];exact ihb q
   | exit j=>rw [Out.zT];exact q
   | ret=>rw [Out.Di];exact q
 | cond x a b iha ihb=>
   intro e σ Q h
   simp only [wC] at h
   rw [JF]
   split at h
   ·rename_i t hx
    rw [hx]
    cases t with
    | true=>exact iha h
    | false=>exact ihb h
   ·exact h.elim
 | blk id c ih=>
   intro e σ Q h
   refine Ox.2 (yj (ih h) fun o e s q=>?_)
   cases o with
   | normal=>rw [Out.yg];exact q
   | exit j=>
     rw [Out.Dj]
     simp only at q
     cases hb:Nat.beq j id with
     | true=>rw [hb] at q;rw [if_pos (Nat.eq_of_beq_eq_true hb)];exact q
     | false=>rw [hb] at q;rw [if_neg (fun e=>by rw [e,Nat.beq_refl] at hb;cases hb)];exact q
   | ret=>rw [Out.FT];exact q
 | loop live c ih=>
   intro e σ Q h
   have h:=(yE _ _ _ h).ev
   rw [sK,Bo] at h
   rw [JG,sK]
   exact h
 | cut live c ih=>
   intro e σ Q h
   exact Oy.2 (ih (yE _ _ _ h))
theorem yF:∀{rs:List AR} {K:List AV→Prop},OW τ e σ rs K→opt (rX X.P e σ rs) K
 | [],K,h=>⟨_,rfl,h⟩
 | .t n :: rs,K,h=>by
   have h:=iT _ _ h
   split at h
   ·exact h.elim
   ·rename_i hn
    obtain⟨vs,hv,q⟩:=yF h
    refine⟨_,?_,q⟩
    simp only [rX,hv]
    have e1:CW X.P e σ (.t n)=some (get e n):=by
        simp only [CW]
    rw [e1]
 | .cell a t :: rs,K,h=>by
   obtain⟨v,hv,h⟩:=bH h
   have h:=iT _ _ h
   obtain⟨vs,hvs,q⟩:=yF h
   refine⟨_,?_,q⟩
   simp only [rX,hvs]
   have e1:CW X.P e σ (.cell a t)=some v:=J_ fJ hv
   rw [e1]
theorem ay.body {f:Nat} {F:AF} {args:List AV} {Q:AV→St→Prop} (hp:X.iQ f=none)(hf:X.fns f=some F)(hl:args.length≤F.nt)(h:wF X τ lit F args σ Q):ay X f args σ Q:=by
 constructor
 rw [ZI hp hf hl]
 refine yj (Zl fJ h) fun o e s q=>?_
 cases o with
 | exit j=>exact q.elim
 | normal=>
   obtain⟨vs,hv,q⟩:=yF fJ q
   refine⟨rfl,?_⟩
   rw [d_]
   unfold vN
   rw [hv]
   match vs,q with
   | [],q=>exact⟨_,rfl,q.ev⟩
   | [v],q=>exact⟨_,rfl,q.ev⟩
   | v :: w :: vs,q=>exact⟨_,rfl,q.ev⟩
 | ret=>
   obtain⟨vs,hv,q⟩:=yF fJ q
   refine⟨rfl,?_⟩
   rw [d_]
   unfold vN
   rw [hv]
   match vs,q with
   | [],q=>exact⟨_,rfl,q.ev⟩
   | [v],q=>exact⟨_,rfl,q.ev⟩
   | v :: w :: vs,q=>exact⟨_,rfl,q.ev⟩
theorem aS.round {live:List Nat} {c:AC} {Q:Out→Env→St→Prop}
 (h:Qe live e fun e=>wC X τ lit c e σ fun o e σ=>match o with
  | .normal=>Qe live e fun e=>aS X live c e σ Q
  | .exit j=>Q (.exit j) e σ
  | .ret=>Q .ret e σ):aS X live c e σ Q:=by
 constructor
 rw [sK]
 refine yj (Zl fJ (yE _ _ _ h)) fun o e s q=>?_
 cases o with
 | normal=>
   rw [Out.sJ]
   have h:=(yE _ _ _ q).ev
   rw [sK,Bo] at h
   rw [sK]
   exact h
 | exit j=>rw [Out.zT];exact q
 | ret=>rw [Out.Di];exact q
end
theorem ay.of {X:Ctx} {f:Nat} {args:List AV} {σ:St} {Q:AV→St→Prop} (h:Dh X f args σ Q):ay X f args σ Q:=⟨h⟩
theorem ay.to {X:Ctx} {f:Nat} {args:List AV} {σ σ':St} {v:AV} {Q:AV→St→Prop} (h:ay X f args σ fun a s=>a=v∧s=σ')(q:Q v σ'):ay X f args σ Q:=⟨(Xa h.ev).2 q⟩
theorem ay.mono {X:Ctx} {f:Nat} {args:List AV} {σ:St} {Q Q':AV→St→Prop} (h:ay X f args σ Q)(q:∀v s,Q v s→Q' v s):ay X f args σ Q':=⟨Dl h.ev q⟩
theorem aS.mono {X:Ctx} {live:List Nat} {c:AC} {e:Env} {σ:St} {Q Q':Out→Env→St→Prop} (h:aS X live c e σ Q)(q:∀o e s,Q o e s→Q' o e s):aS X live c e σ Q':=⟨SE h.ev q⟩
end Go.bG
