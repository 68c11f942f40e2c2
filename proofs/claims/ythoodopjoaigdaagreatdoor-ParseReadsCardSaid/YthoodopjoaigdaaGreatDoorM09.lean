/- Texts of this claim, joined: Abs21, Abs22, Tb, Abs23, Abs24, Abs25. -/
import Derived.Test.YthoodopjoaigdaaGreatDoorM06
import Derived.Test.YthoodopjoaigdaaGreatDoorProg
import Derived.KernelRfl
set_option linter.unusedVariables false
set_option linter.unusedSimpArgs false
namespace Go.bP
theorem wrap_i64 {n:Int} (h1: -9223372036854775808≤n)(h2:n≤9223372036854775807):IntKind.i64.wrap n=n:=by
 simp [IntKind.wrap,IntKind.signed,IntKind.bits];omega
theorem wrap_i32 {n:Int} (h1: -2147483648≤n)(h2:n≤2147483647):IntKind.i32.wrap n=n:=by
 simp [IntKind.wrap,IntKind.signed,IntKind.bits];omega
theorem wrap_u8 {n:Int} (h1:0≤n)(h2:n≤255):IntKind.u8.wrap n=n:=by
 simp [IntKind.wrap,IntKind.signed,IntKind.bits];omega
theorem wrap_u32 {n:Int} (h1:0≤n)(h2:n≤4294967295):IntKind.u32.wrap n=n:=by
 simp [IntKind.wrap,IntKind.signed,IntKind.bits];omega
theorem wrap_u64 {n:Int} (h1:0≤n)(h2:n≤18446744073709551615):IntKind.u64.wrap n=n:=by
 simp [IntKind.wrap,IntKind.signed,IntKind.bits];omega
end Go.bP
namespace Go.bP
inductive BT where
 | nil
 | leaf (t:Nat) (T:AT)
 | node (m:Nat) (l r:BT)
def BT.get:BT→Nat→Option AT
 | .nil,_=>none
 | .leaf t T,n=>bif Nat.beq t n then some T else none
 | .node m l r,n=>bif Nat.blt n m then l.get n else r.get n
def BT.toList:BT→List (Nat×AT)
 | .nil=>[]
 | .leaf t T=>[(t,T)]
 | .node _ l r=>l.toList ++ r.toList
theorem BT.get_mem:∀(b:BT) (n:Nat) (T:AT),b.get n=some T→(n,T)∈b.toList
 | .nil,_,_,h=>by cases h
 | .leaf t T,n,T',h=>by
   simp only [BT.get] at h
   cases hb:Nat.beq t n with
   | true=>rw [hb] at h;cases h;rw [Nat.eq_of_beq_eq_true hb];exact List.mem_singleton.2 rfl
   | false=>rw [hb] at h;cases h
 | .node m l r,n,T,h=>by
   simp only [BT.get] at h
   cases hb:Nat.blt n m with
   | true=>rw [hb] at h;exact List.mem_append_left _ (BT.get_mem l n T h)
   | false=>rw [hb] at h;exact List.mem_append_right _ (BT.get_mem r n T h)
abbrev nZ:=Nat→Option AT
def nZ.Ok (τ:nZ)(P:Program):Prop:=∀t T,τ t=some T→aJ P t=some T
theorem BT.ok {b:BT} {P:Program} (h:b.toList.map (fun p=>aJ P p.1)=b.toList.map (fun p=>some p.2)):nZ.Ok b.get P:=by
 intro t T ht
 have hm:=BT.get_mem b t T ht
 have:=List.map_inj_left.1 h _ hm
 exact this
def Ls (τ:nZ)(t:Nat):Nat:=match τ t with | some T=>T.size | none=>0
theorem JK {P:Program} {t:Nat} {T:AT} (h:aJ P t=some T):P.cellsOf t=T.size:=by
 unfold aJ at h
 split at h
 ·rename_i i d hi _
  split at h
  ·cases h;simp [Program.cellsOf,hi]
  ·cases h
 ·cases h
section
variable {τ:nZ} {P:Program} (fG:τ.Ok P)
include fG
theorem uN {t:Nat} (h:0<Ls τ t):P.cellsOf t=Ls τ t:=by
 unfold Ls at h ⊢
 cases ht:τ t with
 | none=>rw [ht] at h;exact absurd h (Nat.lt_irrefl 0)
 | some T=>simp only;exact JK (fG t T ht)
end
def cB (t:Bool)(A B:Prop):Prop:=match t with | true=>A | false=>B
def om {α:Type} (o:Option α)(Q:α→Prop):Prop:=match o with | some a=>Q a | none=>False
theorem BD {α:Type} {o:Option α} {Q:α→Prop} (h:om o Q):opt o Q:=by
 cases o with
 | none=>exact h.elim
 | some a=>exact⟨a,rfl,h⟩
mutual
def fq (v:AV)(Q:AV→Prop):Prop:=match v with
 | .u=>Q .u
 | .b t=>Q (.b t)
 | .i k n=>Q (.i k n)
 | .s x=>Q (.s x)
 | .p0=>Q .p0
 | .p o g off=>Q (.p o g off)
 | .sl0=>Q .sl0
 | .sl o g off n z=>Q (.sl o g off n z)
 | .fn f a c=>Q (.fn f a c)
 | .fn0=>Q .fn0
 | .ic t v=>Q (.ic t v)
 | .fM=>Q .fM
 | .ag cs=>H9 cs fun cs=>Q (.ag cs)
 | .tu cs=>H9 cs fun cs=>Q (.tu cs)
 | .xB=>Q .xB
 | .mp o g=>Q (.mp o g)
 | .cd c v=>Q (.cd c v)
def H9 (l:List AV)(Q:List AV→Prop):Prop:=match l with
 | []=>Q []
 | v :: l=>fq v fun v=>H9 l fun l=>Q (v :: l)
end
mutual
theorem H_:∀(v:AV) (Q:AV→Prop),fq v Q→Q v:=by
 intro v Q h
 match v with
 | .u | .b _ | .i _ _ | .s _ | .p0 | .p _ _ _ | .sl0 | .sl _ _ _ _ _ | .fn _ _ _ | .fn0 | .ic _ _ | .fM | .xB | .mp _ _ | .cd _ _=>simpa only [fq] using h
 | .ag cs=>simp only [fq] at h;exact mQ cs _ h
 | .tu cs=>simp only [fq] at h;exact mQ cs _ h
theorem mQ:∀(l:List AV) (Q:List AV→Prop),H9 l Q→Q l:=by
 intro l Q h
 match l with
 | []=>simpa only [H9] using h
 | v :: l=>simp only [H9] at h;exact mQ l _ (H_ v _ h)
end
def fc (v:AV)(Q:AV→Prop):Prop:=match v with
 | .b t=>cB t (Q (.b true)) (Q (.b false))
 | v=>fq v Q
theorem iG (v:AV)(Q:AV→Prop)(h:fc v Q):Q v:=by
 cases v with
 | b t=>cases t <;> exact h
 | _=>exact H_ _ _ h
def nums:List Nat:=[0,1,2,3,4,5,6,7,8,9,10,11,12,13,14,15,16,17,18,19,20,21,22,23,24,25,26,27,28,29,30,31,32,33,34,35,36,37,38,39,40,41,42,43,44,45,46,47,48,49,50,51,52,53,54,55,56,57,58,59,60,61,62,63]
def Qe {α:Type} :List α→List Nat→(Nat→Prop)→Prop
 | [],k :: _,Q=>Q k
 | _ :: l,_ :: ks,Q=>Qe l ks Q
 | _,[],_=>False
theorem BF {α:Type} :∀(l:List α) (s m:Nat) (Q:Nat→Prop),Qe l (List.range' s m) Q→Q (s+l.length)
 | [],s,0,Q,h=>h.elim
 | [],s,m+1,Q,h=>h
 | _ :: l,s,0,Q,h=>h.elim
 | _ :: l,s,m+1,Q,h=>by
   have:=BF l (s+1) m Q (by simpa only [List.range'_succ,Qe] using h)
   simpa [Nat.add_comm,Nat.add_left_comm,Nat.add_assoc] using this
def Ia (lit:Bool)(σ:St)(Q:Nat→Prop):Prop:=match lit with | true=>Qe σ nums Q | false=>Q σ.length
theorem pG (lit:Bool)(σ:St)(Q:Nat→Prop)(h:Ia lit σ Q):Q σ.length:=by
 cases lit with
 | false=>exact h
 | true=>
   have e:nums=List.range' 0 64:=by decide
   have h':Qe σ nums Q:=h
   rw [e] at h'
   simpa using BF σ 0 64 Q h'
def Nh (σ:St)(Q:St→Prop):Prop:=match σ with
 | []=>Q []
 | a :: r=>match a with
   | ⟨g,ro,k⟩=>match k with
     | .cells e cs=>Nh r fun r=>Q (⟨g,ro,.cells e cs⟩ :: r)
     | .iter s p=>Nh r fun r=>Q (⟨g,ro,.iter s p⟩ :: r)
     | .maps m=>Nh r fun r=>Q (⟨g,ro,.maps m⟩ :: r)
     | .dead=>Nh r fun r=>Q (⟨g,ro,.dead⟩ :: r)
     | .zh e l=>Nh r fun r=>Q (⟨g,ro,.zh e l⟩ :: r)
theorem xR:∀(σ:St) (Q:St→Prop),Nh σ Q→Q σ
 | [],Q,h=>by simpa only [Nh] using h
 | ⟨g,ro,.cells e cs⟩ :: r,Q,h=>xR r _ (by simpa only [Nh] using h)
 | ⟨g,ro,.iter s p⟩ :: r,Q,h=>xR r _ (by simpa only [Nh] using h)
 | ⟨g,ro,.maps m⟩ :: r,Q,h=>xR r _ (by simpa only [Nh] using h)
 | ⟨g,ro,.dead⟩ :: r,Q,h=>xR r _ (by simpa only [Nh] using h)
 | ⟨g,ro,.zh e l⟩ :: r,Q,h=>xR r _ (by simpa only [Nh] using h)
def JL (lit:Bool)(σ:St)(Q:St→Prop):Prop:=match lit with | true=>Nh σ Q | false=>Q σ
theorem jR (lit:Bool)(σ:St)(Q:St→Prop)(h:JL lit σ Q):Q σ:=by
 cases lit with
 | false=>exact h
 | true=>exact xR σ Q h
def JM (k:IntKind)(n:Int)(Q:AV→Prop):Prop:=∃r,k.wrap n=r∧Q (.i k r)
def Eb (τ:nZ)(eq:Nat→AV→AV→Option Bool):List (Nat×Nat×Bool)→List AV→List AV→Option Bool
 | [],_,_=>some true
 | f :: fs,xs,ys=>
   if f.2.2 then Eb τ eq fs xs ys else
   match τ f.2.1 with
   | none=>none
   | some F=>
     match partOf F xs f.1,partOf F ys f.1 with
     | some x,some y=>match eq f.2.1 x y with
       | some b=>match fs with
         | []=>some b
         | fs=>match Eb τ eq fs xs ys with
           | some c=>some (b && c)
           | none=>none
       | none=>none
     | _,_=>none
def eqT (τ:nZ):Nat→Nat→AV→AV→Option Bool
 | 0,_,_,_=>none
 | d+1,t,x,y=>
   match τ t with
   | none=>none
   | some T=>
   match T.d,x,y with
   | .bool,.b p,.b q=>some (p == q)
   | .int _,.i k p,.i k' q=>if k=k' then some (decide (p=q)) else none
   | .str,.s p,.s q=>some (p == q)
   | .ptr _,.p0,.p0=>some true
   | .ptr _,.p0,.p _ _ _=>some false
   | .ptr _,.p _ _ _,.p0=>some false
   | .ptr e,.p o g off,.p o' g' off'=>if o=o'∧g=g'∧0<Ls τ e then some (off == off') else none
   | .slice _,.sl0,.sl0=>some true
   | .slice _,.sl0,.sl _ _ _ _ _=>some false
   | .slice _,.sl _ _ _ _ _,.sl0=>some false
   | .fn,.fn0,.fn0=>some true
   | .fn,.fn0,.fn _ _ _=>some false
   | .fn,.fn _ _ _,.fn0=>some false
   | .map _ _,.xB,.xB=>some true
   | .map _ _,.xB,.mp _ _=>some false
   | .map _ _,.mp _ _,.xB=>some false
   | .rH _,.fM,.fM=>some true
   | .rH _,.fM,.ic _ _=>some false
   | .rH _,.ic _ _,.fM=>some false
   | .rH _,.ic t p,.ic t' q=>if t=t' then(match τ t with | some T=>if T.cmp then eqT τ d t p q else none | none=>none) else some false
   | .st fs,.ag xs,.ag ys=>if T.held then none else Eb τ (eqT τ d) fs xs ys
   | _,_,_=>none
section
variable {τ:nZ} {P:Program} (fG:τ.Ok P)
include fG
theorem BG {eq eq':Nat→AV→AV→Option Bool} (he:∀t x y b,eq t x y=some b→eq' t x y=some b):∀(fs:List (Nat×Nat×Bool)) (xs ys:List AV) (b:Bool),Eb τ eq fs xs ys=some b→vg P eq' fs xs ys=some b
 | [],_,_,b,h=>by simpa only [Eb,vg] using h
 | f :: fs,xs,ys,b,h=>by
   unfold Eb at h
   unfold vg
   split at h
   ·rename_i hf;rw [if_pos hf];exact BG he fs xs ys b h
   ·rename_i hf;rw [if_neg hf]
    split at h
    ·cases h
    ·rename_i F hF
     rw [fG _ _ hF]
     split at h
     ·rename_i x y hx hy
      simp only [hx,hy]
      split at h
      ·rename_i b1 hb1
       rw [he _ _ _ _ hb1]
       split at h
       ·cases h;cases b <;> rfl
       ·split at h
        ·rename_i b2 hb2
         cases h
         cases b1 with
         | true=>simp only [Bool.true_and];exact BG he _ xs ys b2 hb2
         | false=>rfl
        ·cases h
      ·cases h
     ·cases h
theorem Fq:∀(d t:Nat) (x y:AV) (b:Bool),eqT τ d t x y=some b→yH P d t x y=some b
 | 0,_,_,_,b,h=>by cases h
 | d+1,t,x,y,b,h=>by
   unfold eqT at h
   split at h
   ·cases h
   ·rename_i T hT
    unfold yH
    rw [fG _ _ hT]
    simp only
    split at h <;> (rename_i hd;simp only [hd])
    all_goals first
     | exact h
     | cases h
     | skip
    ·split at h
     ·rename_i hk
      obtain⟨h1,h2,h3⟩:=hk
      have h4:=h3
      rw [←uN fG h3] at h4
      rw [if_pos ⟨h1,h2,h4⟩];exact h
     ·cases h
    ·split at h
     ·rename_i ht
      rw [if_pos ht]
      split at h
      ·rename_i T' hT'
       split at h
       ·rename_i hc
        rw [fG _ _ hT',if_pos (by simpa using hc)]
        exact Fq d _ _ _ b h
       ·cases h
      ·cases h
     ·rename_i ht;rw [if_neg ht];exact h
    ·split at h
     ·cases h
     ·rename_i hh;rw [if_neg hh];exact BG fG (fun t x y b=>Fq d t x y b) _ _ _ b h
end
end Go.bP
namespace Go.bP.YthoodopjoaigdaaGreatDoor
open Go.Proofs
def yT0:AT:=⟨.other,1,0,.u,false,false,false⟩
def XV:AT:=⟨.fn,1,8,.fn0,false,false,false⟩
def yT2:AT:=⟨.int .i64,1,8,.i .i64 0,true,false,false⟩
def cu:AT:=⟨.int .i64,1,8,.i .i64 0,true,false,false⟩
def kR:AT:=⟨.bool,1,1,.b false,true,false,false⟩
def yT5:AT:=⟨.int .u8,1,1,.i .u8 0,true,false,false⟩
def yT6:AT:=⟨.int .u8,1,1,.i .u8 0,true,false,false⟩
def yT7:AT:=⟨.st [(0,2,false),(1,3,false),(2,4,false),(3,6,false)],4,24,.ag [.i .i64 0,.i .i64 0,.b false,.i .u8 0],true,false,false⟩
def yT8:AT:=⟨.st [(0,2,false),(1,3,false),(2,4,false),(3,6,false)],4,24,.ag [.i .i64 0,.i .i64 0,.b false,.i .u8 0],true,false,false⟩
def fA:AT:=⟨.str,1,16,.s [],true,false,false⟩
def yT10:AT:=⟨.str,1,16,.s [],true,false,false⟩
def yT11:AT:=⟨.str,1,16,.s [],true,false,false⟩
def yT12:AT:=⟨.int .u64,1,8,.i .u64 0,true,false,false⟩
def yT15:AT:=⟨.ptr 240,1,8,.p0,true,false,false⟩
def yT16:AT:=⟨.ptr 243,1,8,.p0,true,false,false⟩
def yT17:AT:=⟨.ptr 250,1,8,.p0,true,false,false⟩
def yT20:AT:=⟨.rH [],1,16,.fM,true,false,false⟩
def yT21:AT:=⟨.int .i32,1,4,.i .i32 0,true,false,false⟩
def yT22:AT:=⟨.ptr 45,1,8,.p0,true,false,false⟩
def yT23:AT:=⟨.rH [("Error",87)],1,16,.fM,true,false,true⟩
def yT24:AT:=⟨.rH [("Error",87)],1,16,.fM,true,false,true⟩
def yT25:AT:=⟨.other,1,0,.u,false,false,false⟩
def yT26:AT:=⟨.fn,1,8,.fn0,false,false,false⟩
def Ib:AT:=⟨.int .i64,1,8,.i .i64 0,true,false,false⟩
def yT28:AT:=⟨.st [(0,27,false),(1,3,false)],2,16,.ag [.i .i64 0,.i .i64 0],true,false,false⟩
def lG:AT:=⟨.st [(0,27,false),(1,3,false)],2,16,.ag [.i .i64 0,.i .i64 0],true,false,false⟩
def yT30:AT:=⟨.other,1,0,.u,false,false,false⟩
def yT31:AT:=⟨.fn,1,8,.fn0,false,false,false⟩
def yT32:AT:=⟨.fn,1,8,.fn0,false,false,false⟩
def yT33:AT:=⟨.fn,1,8,.fn0,false,false,false⟩
def yT34:AT:=⟨.fn,1,8,.fn0,false,false,false⟩
def yT35:AT:=⟨.fn,1,8,.fn0,false,false,false⟩
def nM:AT:=⟨.slice 47,1,24,.sl0,false,false,false⟩
def yT37:AT:=⟨.other,1,0,.u,false,false,false⟩
def yT38:AT:=⟨.fn,1,8,.fn0,false,false,false⟩
def bC:AT:=⟨.ptr 42,1,8,.p0,true,false,false⟩
def Ic:AT:=⟨.ptr 29,1,8,.p0,true,false,false⟩
def yT41:AT:=⟨.st [(0,36,false),(1,3,false),(2,40,false)],3,40,.ag [.sl0,.i .i64 0,.p0],false,false,false⟩
def yT42:AT:=⟨.st [(0,36,false),(1,3,false),(2,40,false)],3,40,.ag [.sl0,.i .i64 0,.p0],false,false,false⟩
def lH:AT:=⟨.slice 49,1,24,.sl0,false,false,false⟩
def yT44:AT:=⟨.st [(0,43,false)],1,24,.ag [.sl0],false,false,false⟩
def yT45:AT:=⟨.st [(0,43,false)],1,24,.ag [.sl0],false,false,false⟩
def yT46:AT:=⟨.st [(0,3,false),(1,9,false),(2,3,false)],3,32,.ag [.i .i64 0,.s [],.i .i64 0],true,false,false⟩
def fB:AT:=⟨.st [(0,3,false),(1,9,false),(2,3,false)],3,32,.ag [.i .i64 0,.s [],.i .i64 0],true,false,false⟩
def yT48:AT:=⟨.fn,1,8,.fn0,false,false,false⟩
def dX:AT:=⟨.ptr 85,1,8,.p0,true,false,false⟩
def yT50:AT:=⟨.fn,1,8,.fn0,false,false,false⟩
def qM:AT:=⟨.st [(0,27,false),(1,3,false)],2,16,.ag [.i .i64 0,.i .i64 0],true,false,false⟩
def yT52:AT:=⟨.other,1,0,.u,false,false,false⟩
def yT53:AT:=⟨.fn,1,8,.fn0,false,false,false⟩
def yT54:AT:=⟨.ptr 56,1,8,.p0,true,false,false⟩
def yT55:AT:=⟨.st [(0,36,false),(1,3,false),(2,3,false),(3,4,false),(4,29,false)],6,64,.ag [.sl0,.i .i64 0,.i .i64 0,.b false,.i .i64 0,.i .i64 0],false,false,false⟩
def yT56:AT:=⟨.st [(0,36,false),(1,3,false),(2,3,false),(3,4,false),(4,29,false)],6,64,.ag [.sl0,.i .i64 0,.i .i64 0,.b false,.i .i64 0,.i .i64 0],false,false,false⟩
def yT57:AT:=⟨.fn,1,8,.fn0,false,false,false⟩
def yT58:AT:=⟨.ptr 40,1,8,.p0,true,false,false⟩
def yT59:AT:=⟨.fn,1,8,.fn0,false,false,false⟩
def yT60:AT:=⟨.fn,1,8,.fn0,false,false,false⟩
def yT61:AT:=⟨.other,1,0,.u,false,false,false⟩
def yT62:AT:=⟨.fn,1,8,.fn0,false,false,false⟩
def bG:AT:=⟨.ptr 68,1,8,.p0,true,false,false⟩
def yT64:AT:=⟨.fn,1,8,.fn0,false,false,false⟩
def Qg:AT:=⟨.int .u32,1,4,.i .u32 0,true,false,false⟩
def nN:AT:=⟨.slice 63,1,24,.sl0,false,false,false⟩
def yT67:AT:=⟨.st [(0,3,false),(1,65,false),(2,9,false),(3,9,false),(4,63,false),(5,63,false),(6,66,false),(7,3,false)],8,96,.ag [.i .i64 0,.i .u32 0,.s [],.s [],.p0,.p0,.sl0,.i .i64 0],false,false,false⟩
def yT68:AT:=⟨.st [(0,3,false),(1,65,false),(2,9,false),(3,9,false),(4,63,false),(5,63,false),(6,66,false),(7,3,false)],8,96,.ag [.i .i64 0,.i .u32 0,.s [],.s [],.p0,.p0,.sl0,.i .i64 0],false,false,false⟩
def yT69:AT:=⟨.fn,1,8,.fn0,false,false,false⟩
def yT70:AT:=⟨.fn,1,8,.fn0,false,false,false⟩
def yT71:AT:=⟨.fn,1,8,.fn0,false,false,false⟩
def yT72:AT:=⟨.fn,1,8,.fn0,false,false,false⟩
def yT73:AT:=⟨.int .i64,1,8,.i .i64 0,true,false,false⟩
def yT74:AT:=⟨.fn,1,8,.fn0,false,false,false⟩
def yT75:AT:=⟨.fn,1,8,.fn0,false,false,false⟩
def yT76:AT:=⟨.fn,1,8,.fn0,false,false,false⟩
def yT77:AT:=⟨.slice 9,1,24,.sl0,false,false,false⟩
def yT78:AT:=⟨.fn,1,8,.fn0,false,false,false⟩
def yT79:AT:=⟨.int .u64,1,8,.i .u64 0,true,false,false⟩
def yT80:AT:=⟨.other,1,0,.u,false,false,false⟩
def yT81:AT:=⟨.fn,1,8,.fn0,false,false,false⟩
def fU:AT:=⟨.slice 90,1,24,.sl0,false,false,false⟩
def dN:AT:=⟨.slice 121,1,24,.sl0,false,false,false⟩
def yT84:AT:=⟨.st [(0,9,false),(1,82,false),(2,4,false),(3,83,false),(4,3,false)],5,80,.ag [.s [],.sl0,.b false,.sl0,.i .i64 0],false,false,false⟩
def yT85:AT:=⟨.st [(0,9,false),(1,82,false),(2,4,false),(3,83,false),(4,3,false)],5,80,.ag [.s [],.sl0,.b false,.sl0,.i .i64 0],false,false,false⟩
def yT86:AT:=⟨.fn,1,8,.fn0,false,false,false⟩
def yT87:AT:=⟨.fn,1,8,.fn0,false,false,false⟩
def yT88:AT:=⟨.fn,1,8,.fn0,false,false,false⟩
def yT89:AT:=⟨.st [(0,9,false),(1,4,false)],2,24,.ag [.s [],.b false],true,false,false⟩
def lI:AT:=⟨.st [(0,9,false),(1,4,false)],2,24,.ag [.s [],.b false],true,false,false⟩
def yT91:AT:=⟨.fn,1,8,.fn0,false,false,false⟩
def yT92:AT:=⟨.fn,1,8,.fn0,false,false,false⟩
def yT93:AT:=⟨.other,1,0,.u,false,false,false⟩
def yT94:AT:=⟨.fn,1,8,.fn0,false,false,false⟩
def yT95:AT:=⟨.other,1,8,.p0,true,false,false⟩
def yT96:AT:=⟨.int .u64,1,8,.i .u64 0,true,false,false⟩
def yT99:AT:=⟨.fn,1,8,.fn0,false,false,false⟩
def yT100:AT:=⟨.rH [("AssignableTo",105),("Comparable",34),("Elem",102),("Implements",105),("Kind",104),("Name",87),("PkgPath",87),("Size",251),("String",87),("internal/reflectlite.common",244),("internal/reflectlite.uncommon",252)],1,16,.fM,true,false,true⟩
def yT101:AT:=⟨.rH [("AssignableTo",105),("Comparable",34),("Elem",102),("Implements",105),("Kind",104),("Name",87),("PkgPath",87),("Size",251),("String",87),("internal/reflectlite.common",244),("internal/reflectlite.uncommon",252)],1,16,.fM,true,false,true⟩
def yT102:AT:=⟨.fn,1,8,.fn0,false,false,false⟩
def yT103:AT:=⟨.int .u8,1,1,.i .u8 0,true,false,false⟩
def yT104:AT:=⟨.fn,1,8,.fn0,false,false,false⟩
def yT105:AT:=⟨.fn,1,8,.fn0,false,false,false⟩
def yT106:AT:=⟨.fn,1,8,.fn0,false,false,false⟩
def yT107:AT:=⟨.fn,1,8,.fn0,false,false,false⟩
def yT108:AT:=⟨.fn,1,8,.fn0,false,false,false⟩
def yT109:AT:=⟨.fn,1,8,.fn0,false,false,false⟩
def yT110:AT:=⟨.ptr 116,1,8,.p0,true,false,false⟩
def yT111:AT:=⟨.ptr 114,1,8,.p0,true,false,false⟩
def yT112:AT:=⟨.slice 5,1,24,.sl0,false,false,false⟩
def yT113:AT:=⟨.st [(0,111,false),(1,112,false)],2,32,.ag [.p0,.sl0],false,false,false⟩
def yT114:AT:=⟨.st [(0,111,false),(1,112,false)],2,32,.ag [.p0,.sl0],false,false,false⟩
def yT115:AT:=⟨.st [(0,114,false),(2,3,false),(3,4,false)],4,48,.ag [.p0,.sl0,.i .i64 0,.b false],false,false,false⟩
def yT116:AT:=⟨.st [(0,114,false),(2,3,false),(3,4,false)],4,48,.ag [.p0,.sl0,.i .i64 0,.b false],false,false,false⟩
def yT117:AT:=⟨.fn,1,8,.fn0,false,false,false⟩
def yT118:AT:=⟨.fn,1,8,.fn0,false,false,false⟩
def yT119:AT:=⟨.st [(0,3,false),(1,9,false),(2,4,false),(3,63,false),(4,63,false),(5,83,false),(6,83,false),(7,3,false)],8,104,.ag [.i .i64 0,.s [],.b false,.p0,.p0,.sl0,.sl0,.i .i64 0],false,false,false⟩
def yT120:AT:=⟨.st [(0,3,false),(1,9,false),(2,4,false),(3,63,false),(4,63,false),(5,83,false),(6,83,false),(7,3,false)],8,104,.ag [.i .i64 0,.s [],.b false,.p0,.p0,.sl0,.sl0,.i .i64 0],false,false,false⟩
def bU:AT:=⟨.ptr 120,1,8,.p0,true,false,false⟩
def yT122:AT:=⟨.other,1,0,.u,false,false,false⟩
def yT123:AT:=⟨.fn,1,8,.fn0,false,false,false⟩
def yT124:AT:=⟨.slice 73,1,24,.sl0,false,false,false⟩
def yT125:AT:=⟨.fn,1,8,.fn0,false,false,false⟩
def yT126:AT:=⟨.fn,1,8,.fn0,false,false,false⟩
def yT127:AT:=⟨.fn,1,8,.fn0,false,false,false⟩
def yT128:AT:=⟨.fn,1,8,.fn0,false,false,false⟩
def yT129:AT:=⟨.fn,1,8,.fn0,false,false,false⟩
def yT130:AT:=⟨.fn,1,8,.fn0,false,false,false⟩
def yT131:AT:=⟨.fn,1,8,.fn0,false,false,false⟩
def yT132:AT:=⟨.fn,1,8,.fn0,false,false,false⟩
def yT133:AT:=⟨.fn,1,8,.fn0,false,false,false⟩
def yT134:AT:=⟨.fn,1,8,.fn0,false,false,false⟩
def yT137:AT:=⟨.ptr 254,1,8,.p0,true,false,false⟩
def yT138:AT:=⟨.fn,1,8,.fn0,false,false,false⟩
def yT139:AT:=⟨.fn,1,8,.fn0,false,false,false⟩
def yT140:AT:=⟨.rH [("As",142)],1,16,.fM,true,false,true⟩
def yT141:AT:=⟨.other,1,0,.u,false,false,false⟩
def yT142:AT:=⟨.fn,1,8,.fn0,false,false,false⟩
def yT143:AT:=⟨.rH [("Unwrap",144)],1,16,.fM,true,false,true⟩
def yT144:AT:=⟨.fn,1,8,.fn0,false,false,false⟩
def yT145:AT:=⟨.rH [("Unwrap",147)],1,16,.fM,true,false,true⟩
def yT146:AT:=⟨.slice 24,1,24,.sl0,false,false,false⟩
def yT147:AT:=⟨.fn,1,8,.fn0,false,false,false⟩
def yT148:AT:=⟨.rH [("Is",150)],1,16,.fM,true,false,true⟩
def yT149:AT:=⟨.other,1,0,.u,false,false,false⟩
def yT150:AT:=⟨.fn,1,8,.fn0,false,false,false⟩
def yT151:AT:=⟨.fn,1,8,.fn0,false,false,false⟩
def yT152:AT:=⟨.fn,1,8,.fn0,false,false,false⟩
def yT153:AT:=⟨.fn,1,8,.fn0,false,false,false⟩
def yT154:AT:=⟨.ptr 5,1,8,.p0,true,false,false⟩
def yT155:AT:=⟨.fn,1,8,.fn0,false,false,false⟩
def yT156:AT:=⟨.fn,1,8,.fn0,false,false,false⟩
def yT157:AT:=⟨.fn,1,8,.fn0,false,false,false⟩
def yT158:AT:=⟨.fn,1,8,.fn0,false,false,false⟩
def yT159:AT:=⟨.arr 256 5,256,256,.ag [.i .u8 0,.i .u8 0,.i .u8 0,.i .u8 0,.i .u8 0,.i .u8 0,.i .u8 0,.i .u8 0,.i .u8 0,.i .u8 0,.i .u8 0,.i .u8 0,.i .u8 0,.i .u8 0,.i .u8 0,.i .u8 0,.i .u8 0,.i .u8 0,.i .u8 0,.i .u8 0,.i .u8 0,.i .u8 0,.i .u8 0,.i .u8 0,.i .u8 0,.i .u8 0,.i .u8 0,.i .u8 0,.i .u8 0,.i .u8 0,.i .u8 0,.i .u8 0,.i .u8 0,.i .u8 0,.i .u8 0,.i .u8 0,.i .u8 0,.i .u8 0,.i .u8 0,.i .u8 0,.i .u8 0,.i .u8 0,.i .u8 0,.i .u8 0,.i .u8 0,.i .u8 0,.i .u8 0,.i .u8 0,.i .u8 0,.i .u8 0,.i .u8 0,.i .u8 0,.i .u8 0,.i .u8 0,.i .u8 0,.i .u8 0,.i .u8 0,.i .u8 0,.i .u8 0,.i .u8 0,.i .u8 0,.i .u8 0,.i .u8 0,.i .u8 0,.i .u8 0,.i .u8 0,.i .u8 0,.i .u8 0,.i .u8 0,.i .u8 0,.i .u8 0,.i .u8 0,.i .u8 0,.i .u8 0,.i .u8 0,.i .u8 0,.i .u8 0,.i .u8 0,.i .u8 0,.i .u8 0,.i .u8 0,.i .u8 0,.i .u8 0,.i .u8 0,.i .u8 0,.i .u8 0,.i .u8 0,.i .u8 0,.i .u8 0,.i .u8 0,.i .u8 0,.i .u8 0,.i .u8 0,.i .u8 0,.i .u8 0,.i .u8 0,.i .u8 0,.i .u8 0,.i .u8 0,.i .u8 0,.i .u8 0,.i .u8 0,.i .u8 0,.i .u8 0,.i .u8 0,.i .u8 0,.i .u8 0,.i .u8 0,.i .u8 0,.i .u8 0,.i .u8 0,.i .u8 0,.i .u8 0,.i .u8 0,.i .u8 0,.i .u8 0,.i .u8 0,.i .u8 0,.i .u8 0,.i .u8 0,.i .u8 0,.i .u8 0,.i .u8 0,.i .u8 0,.i .u8 0,.i .u8 0,.i .u8 0,.i .u8 0,.i .u8 0,.i .u8 0,.i .u8 0,.i .u8 0,.i .u8 0,.i .u8 0,.i .u8 0,.i .u8 0,.i .u8 0,.i .u8 0,.i .u8 0,.i .u8 0,.i .u8 0,.i .u8 0,.i .u8 0,.i .u8 0,.i .u8 0,.i .u8 0,.i .u8 0,.i .u8 0,.i .u8 0,.i .u8 0,.i .u8 0,.i .u8 0,.i .u8 0,.i .u8 0,.i .u8 0,.i .u8 0,.i .u8 0,.i .u8 0,.i .u8 0,.i .u8 0,.i .u8 0,.i .u8 0,.i .u8 0,.i .u8 0,.i .u8 0,.i .u8 0,.i .u8 0,.i .u8 0,.i .u8 0,.i .u8 0,.i .u8 0,.i .u8 0,.i .u8 0,.i .u8 0,.i .u8 0,.i .u8 0,.i .u8 0,.i .u8 0,.i .u8 0,.i .u8 0,.i .u8 0,.i .u8 0,.i .u8 0,.i .u8 0,.i .u8 0,.i .u8 0,.i .u8 0,.i .u8 0,.i .u8 0,.i .u8 0,.i .u8 0,.i .u8 0,.i .u8 0,.i .u8 0,.i .u8 0,.i .u8 0,.i .u8 0,.i .u8 0,.i .u8 0,.i .u8 0,.i .u8 0,.i .u8 0,.i .u8 0,.i .u8 0,.i .u8 0,.i .u8 0,.i .u8 0,.i .u8 0,.i .u8 0,.i .u8 0,.i .u8 0,.i .u8 0,.i .u8 0,.i .u8 0,.i .u8 0,.i .u8 0,.i .u8 0,.i .u8 0,.i .u8 0,.i .u8 0,.i .u8 0,.i .u8 0,.i .u8 0,.i .u8 0,.i .u8 0,.i .u8 0,.i .u8 0,.i .u8 0,.i .u8 0,.i .u8 0,.i .u8 0,.i .u8 0,.i .u8 0,.i .u8 0,.i .u8 0,.i .u8 0,.i .u8 0,.i .u8 0,.i .u8 0,.i .u8 0,.i .u8 0,.i .u8 0,.i .u8 0,.i .u8 0,.i .u8 0,.i .u8 0,.i .u8 0,.i .u8 0,.i .u8 0,.i .u8 0,.i .u8 0,.i .u8 0,.i .u8 0,.i .u8 0,.i .u8 0,.i .u8 0],true,false,false⟩
def yT160:AT:=⟨.fn,1,8,.fn0,false,false,false⟩
def yT161:AT:=⟨.fn,1,8,.fn0,false,false,false⟩
def yT162:AT:=⟨.int .i64,1,8,.i .i64 0,true,false,false⟩
def yT163:AT:=⟨.fn,1,8,.fn0,false,false,false⟩
def yT164:AT:=⟨.int .u64,1,8,.i .u64 0,true,false,false⟩
def yT165:AT:=⟨.ptr 184,1,8,.p0,true,false,false⟩
def yT166:AT:=⟨.fn,1,8,.fn0,false,false,false⟩
def yT167:AT:=⟨.fn,1,8,.fn0,false,false,false⟩
def yT168:AT:=⟨.fn,1,8,.fn0,false,false,false⟩
def yT169:AT:=⟨.fn,1,8,.fn0,false,false,false⟩
def yT170:AT:=⟨.fn,1,8,.fn0,false,false,false⟩
def yT171:AT:=⟨.other,1,0,.u,false,false,false⟩
def yT172:AT:=⟨.fn,1,8,.fn0,false,false,false⟩
def yT173:AT:=⟨.fn,1,8,.fn0,false,false,false⟩
def yT174:AT:=⟨.fn,1,8,.fn0,false,false,false⟩
def yT175:AT:=⟨.fn,1,8,.fn0,false,false,false⟩
def yT176:AT:=⟨.fn,1,8,.fn0,false,false,false⟩
def yT177:AT:=⟨.fn,1,8,.fn0,false,false,false⟩
def yT178:AT:=⟨.slice 180,1,24,.sl0,false,false,false⟩
def yT179:AT:=⟨.st [(0,3,false),(1,3,false)],2,16,.ag [.i .i64 0,.i .i64 0],true,false,false⟩
def yT180:AT:=⟨.st [(0,3,false),(1,3,false)],2,16,.ag [.i .i64 0,.i .i64 0],true,false,false⟩
def yT181:AT:=⟨.fn,1,8,.fn0,false,false,false⟩
def yT182:AT:=⟨.ptr 197,1,8,.p0,true,false,false⟩
def yT183:AT:=⟨.st [(0,9,false),(1,9,false),(2,24,false)],3,48,.ag [.s [],.s [],.fM],true,false,true⟩
def yT184:AT:=⟨.st [(0,9,false),(1,9,false),(2,24,false)],3,48,.ag [.s [],.s [],.fM],true,false,true⟩
def yT185:AT:=⟨.fn,1,8,.fn0,false,false,false⟩
def yT186:AT:=⟨.fn,1,8,.fn0,false,false,false⟩
def yT187:AT:=⟨.fn,1,8,.fn0,false,false,false⟩
def yT188:AT:=⟨.fn,1,8,.fn0,false,false,false⟩
def yT189:AT:=⟨.fn,1,8,.fn0,false,false,false⟩
def yT190:AT:=⟨.fn,1,8,.fn0,false,false,false⟩
def yT191:AT:=⟨.fn,1,8,.fn0,false,false,false⟩
def yT192:AT:=⟨.fn,1,8,.fn0,false,false,false⟩
def yT193:AT:=⟨.fn,1,8,.fn0,false,false,false⟩
def yT194:AT:=⟨.slice 200,1,24,.sl0,false,false,false⟩
def yT195:AT:=⟨.slice 203,1,24,.sl0,false,false,false⟩
def yT196:AT:=⟨.st [(0,194,false),(1,195,false),(2,3,false)],3,56,.ag [.sl0,.sl0,.i .i64 0],false,false,false⟩
def yT197:AT:=⟨.st [(0,194,false),(1,195,false),(2,3,false)],3,56,.ag [.sl0,.sl0,.i .i64 0],false,false,false⟩
def yT198:AT:=⟨.int .u16,1,2,.i .u16 0,true,false,false⟩
def yT199:AT:=⟨.st [(0,198,false),(1,198,false),(2,198,false)],3,6,.ag [.i .u16 0,.i .u16 0,.i .u16 0],true,false,false⟩
def yT200:AT:=⟨.st [(0,198,false),(1,198,false),(2,198,false)],3,6,.ag [.i .u16 0,.i .u16 0,.i .u16 0],true,false,false⟩
def yT201:AT:=⟨.fn,1,8,.fn0,false,false,false⟩
def yT202:AT:=⟨.st [(0,65,false),(1,65,false),(2,65,false)],3,12,.ag [.i .u32 0,.i .u32 0,.i .u32 0],true,false,false⟩
def yT203:AT:=⟨.st [(0,65,false),(1,65,false),(2,65,false)],3,12,.ag [.i .u32 0,.i .u32 0,.i .u32 0],true,false,false⟩
def yT204:AT:=⟨.fn,1,8,.fn0,false,false,false⟩
def yT205:AT:=⟨.ptr 207,1,8,.p0,true,false,false⟩
def yT206:AT:=⟨.st [(0,9,false)],1,16,.ag [.s []],true,false,false⟩
def yT207:AT:=⟨.st [(0,9,false)],1,16,.ag [.s []],true,false,false⟩
def Qh:AT:=⟨.map 9 3,1,8,.xB,false,false,false⟩
def yT209:AT:=⟨.fn,1,8,.fn0,false,false,false⟩
def yT210:AT:=⟨.fn,1,8,.fn0,false,false,false⟩
def yT211:AT:=⟨.other,1,0,.u,false,false,false⟩
def yT212:AT:=⟨.fn,1,8,.fn0,false,false,false⟩
def yT213:AT:=⟨.fn,1,8,.fn0,false,false,false⟩
def yT214:AT:=⟨.fn,1,8,.fn0,false,false,false⟩
def yT215:AT:=⟨.fn,1,8,.fn0,false,false,false⟩
def yT216:AT:=⟨.fn,1,8,.fn0,false,false,false⟩
def yT217:AT:=⟨.ptr 200,1,8,.p0,true,false,false⟩
def yT218:AT:=⟨.ptr 203,1,8,.p0,true,false,false⟩
def yT219:AT:=⟨.fn,1,8,.fn0,false,false,false⟩
def yT220:AT:=⟨.other,1,0,.u,false,false,false⟩
def yT221:AT:=⟨.fn,1,8,.fn0,false,false,false⟩
def yT222:AT:=⟨.other,1,0,.u,false,false,false⟩
def yT223:AT:=⟨.fn,1,8,.fn0,false,false,false⟩
def yT224:AT:=⟨.arr 24 5,24,24,.ag [.i .u8 0,.i .u8 0,.i .u8 0,.i .u8 0,.i .u8 0,.i .u8 0,.i .u8 0,.i .u8 0,.i .u8 0,.i .u8 0,.i .u8 0,.i .u8 0,.i .u8 0,.i .u8 0,.i .u8 0,.i .u8 0,.i .u8 0,.i .u8 0,.i .u8 0,.i .u8 0,.i .u8 0,.i .u8 0,.i .u8 0,.i .u8 0],true,false,false⟩
def yT225:AT:=⟨.fn,1,8,.fn0,false,false,false⟩
def yT226:AT:=⟨.fn,1,8,.fn0,false,false,false⟩
def yT227:AT:=⟨.other,1,0,.u,false,false,false⟩
def yT228:AT:=⟨.fn,1,8,.fn0,false,false,false⟩
def yT229:AT:=⟨.fn,1,8,.fn0,false,false,false⟩
def yT230:AT:=⟨.fn,1,8,.fn0,false,false,false⟩
def yT231:AT:=⟨.fn,1,8,.fn0,false,false,false⟩
def yT232:AT:=⟨.arr 20 79,20,160,.ag [.i .u64 0,.i .u64 0,.i .u64 0,.i .u64 0,.i .u64 0,.i .u64 0,.i .u64 0,.i .u64 0,.i .u64 0,.i .u64 0,.i .u64 0,.i .u64 0,.i .u64 0,.i .u64 0,.i .u64 0,.i .u64 0,.i .u64 0,.i .u64 0,.i .u64 0,.i .u64 0],true,false,false⟩
def yT233:AT:=⟨.arr 65 5,65,65,.ag [.i .u8 0,.i .u8 0,.i .u8 0,.i .u8 0,.i .u8 0,.i .u8 0,.i .u8 0,.i .u8 0,.i .u8 0,.i .u8 0,.i .u8 0,.i .u8 0,.i .u8 0,.i .u8 0,.i .u8 0,.i .u8 0,.i .u8 0,.i .u8 0,.i .u8 0,.i .u8 0,.i .u8 0,.i .u8 0,.i .u8 0,.i .u8 0,.i .u8 0,.i .u8 0,.i .u8 0,.i .u8 0,.i .u8 0,.i .u8 0,.i .u8 0,.i .u8 0,.i .u8 0,.i .u8 0,.i .u8 0,.i .u8 0,.i .u8 0,.i .u8 0,.i .u8 0,.i .u8 0,.i .u8 0,.i .u8 0,.i .u8 0,.i .u8 0,.i .u8 0,.i .u8 0,.i .u8 0,.i .u8 0,.i .u8 0,.i .u8 0,.i .u8 0,.i .u8 0,.i .u8 0,.i .u8 0,.i .u8 0,.i .u8 0,.i .u8 0,.i .u8 0,.i .u8 0,.i .u8 0,.i .u8 0,.i .u8 0,.i .u8 0,.i .u8 0,.i .u8 0],true,false,false⟩
def yT234:AT:=⟨.fn,1,8,.fn0,false,false,false⟩
def yT235:AT:=⟨.fn,1,8,.fn0,false,false,false⟩
def yT236:AT:=⟨.fn,1,8,.fn0,false,false,false⟩
def yT237:AT:=⟨.arr 32 5,32,32,.ag [.i .u8 0,.i .u8 0,.i .u8 0,.i .u8 0,.i .u8 0,.i .u8 0,.i .u8 0,.i .u8 0,.i .u8 0,.i .u8 0,.i .u8 0,.i .u8 0,.i .u8 0,.i .u8 0,.i .u8 0,.i .u8 0,.i .u8 0,.i .u8 0,.i .u8 0,.i .u8 0,.i .u8 0,.i .u8 0,.i .u8 0,.i .u8 0,.i .u8 0,.i .u8 0,.i .u8 0,.i .u8 0,.i .u8 0,.i .u8 0,.i .u8 0,.i .u8 0],true,false,false⟩
def yT238:AT:=⟨.arr 64 5,64,64,.ag [.i .u8 0,.i .u8 0,.i .u8 0,.i .u8 0,.i .u8 0,.i .u8 0,.i .u8 0,.i .u8 0,.i .u8 0,.i .u8 0,.i .u8 0,.i .u8 0,.i .u8 0,.i .u8 0,.i .u8 0,.i .u8 0,.i .u8 0,.i .u8 0,.i .u8 0,.i .u8 0,.i .u8 0,.i .u8 0,.i .u8 0,.i .u8 0,.i .u8 0,.i .u8 0,.i .u8 0,.i .u8 0,.i .u8 0,.i .u8 0,.i .u8 0,.i .u8 0,.i .u8 0,.i .u8 0,.i .u8 0,.i .u8 0,.i .u8 0,.i .u8 0,.i .u8 0,.i .u8 0,.i .u8 0,.i .u8 0,.i .u8 0,.i .u8 0,.i .u8 0,.i .u8 0,.i .u8 0,.i .u8 0,.i .u8 0,.i .u8 0,.i .u8 0,.i .u8 0,.i .u8 0,.i .u8 0,.i .u8 0,.i .u8 0,.i .u8 0,.i .u8 0,.i .u8 0,.i .u8 0,.i .u8 0,.i .u8 0,.i .u8 0,.i .u8 0],true,false,false⟩
def yT241:AT:=⟨.arr 0 16,0,0,.ag [],true,false,false⟩
def yT244:AT:=⟨.fn,1,8,.fn0,false,false,false⟩
def yT245:AT:=⟨.int .u8,1,1,.i .u8 0,true,false,false⟩
def yT246:AT:=⟨.fn,1,8,.fn0,false,false,false⟩
def yT247:AT:=⟨.int .i32,1,4,.i .i32 0,true,false,false⟩
def yT248:AT:=⟨.int .i32,1,4,.i .i32 0,true,false,false⟩
def yT251:AT:=⟨.fn,1,8,.fn0,false,false,false⟩
def yT252:AT:=⟨.fn,1,8,.fn0,false,false,false⟩
def yT255:AT:=⟨.ptr 258,1,8,.p0,true,false,false⟩
def yT256:AT:=⟨.fn,1,8,.fn0,false,false,false⟩
def yT259:AT:=⟨.slice 262,1,24,.sl0,false,false,false⟩
def yT260:AT:=⟨.int .i32,1,4,.i .i32 0,true,false,false⟩
def yT263:AT:=⟨.ptr 24,1,8,.p0,true,false,false⟩
def Ie:BT:=(.node 128 (.node 65 (.node 34 (.node 17 (.node 7 (.node 3 (.node 1 (.leaf 0 yT0) (.node 2 (.leaf 1 XV) (.leaf 2 yT2))) (.node 5 (.node 4 (.leaf 3 cu) (.leaf 4 kR)) (.node 6 (.leaf 5 yT5) (.leaf 6 yT6)))) (.node 11 (.node 9 (.node 8 (.leaf 7 yT7) (.leaf 8 yT8)) (.node 10 (.leaf 9 fA) (.leaf 10 yT10))) (.node 15 (.node 12 (.leaf 11 yT11) (.leaf 12 yT12)) (.node 16 (.leaf 15 yT15) (.leaf 16 yT16))))) (.node 26 (.node 22 (.node 20 (.leaf 17 yT17) (.node 21 (.leaf 20 yT20) (.leaf 21 yT21))) (.node 24 (.node 23 (.leaf 22 yT22) (.leaf 23 yT23)) (.node 25 (.leaf 24 yT24) (.leaf 25 yT25)))) (.node 30 (.node 28 (.node 27 (.leaf 26 yT26) (.leaf 27 Ib)) (.node 29 (.leaf 28 yT28) (.leaf 29 lG))) (.node 32 (.node 31 (.leaf 30 yT30) (.leaf 31 yT31)) (.node 33 (.leaf 32 yT32) (.leaf 33 yT33)))))) (.node 49 (.node 41 (.node 37 (.node 35 (.leaf 34 yT34) (.node 36 (.leaf 35 yT35) (.leaf 36 nM))) (.node 39 (.node 38 (.leaf 37 yT37) (.leaf 38 yT38)) (.node 40 (.leaf 39 bC) (.leaf 40 Ic)))) (.node 45 (.node 43 (.node 42 (.leaf 41 yT41) (.leaf 42 yT42)) (.node 44 (.leaf 43 lH) (.leaf 44 yT44))) (.node 47 (.node 46 (.leaf 45 yT45) (.leaf 46 yT46)) (.node 48 (.leaf 47 fB) (.leaf 48 yT48))))) (.node 57 (.node 53 (.node 51 (.node 50 (.leaf 49 dX) (.leaf 50 yT50)) (.node 52 (.leaf 51 qM) (.leaf 52 yT52))) (.node 55 (.node 54 (.leaf 53 yT53) (.leaf 54 yT54)) (.node 56 (.leaf 55 yT55) (.leaf 56 yT56)))) (.node 61 (.node 59 (.node 58 (.leaf 57 yT57) (.leaf 58 yT58)) (.node 60 (.leaf 59 yT59) (.leaf 60 yT60))) (.node 63 (.node 62 (.leaf 61 yT61) (.leaf 62 yT62)) (.node 64 (.leaf 63 bG) (.leaf 64 yT64))))))) (.node 95 (.node 80 (.node 72 (.node 68 (.node 66 (.leaf 65 Qg) (.node 67 (.leaf 66 nN) (.leaf 67 yT67))) (.node 70 (.node 69 (.leaf 68 yT68) (.leaf 69 yT69)) (.node 71 (.leaf 70 yT70) (.leaf 71 yT71)))) (.node 76 (.node 74 (.node 73 (.leaf 72 yT72) (.leaf 73 yT73)) (.node 75 (.leaf 74 yT74) (.leaf 75 yT75))) (.node 78 (.node 77 (.leaf 76 yT76) (.leaf 77 yT77)) (.node 79 (.leaf 78 yT78) (.leaf 79 yT79))))) (.node 87 (.node 83 (.node 81 (.leaf 80 yT80) (.node 82 (.leaf 81 yT81) (.leaf 82 fU))) (.node 85 (.node 84 (.leaf 83 dN) (.leaf 84 yT84)) (.node 86 (.leaf 85 yT85) (.leaf 86 yT86)))) (.node 91 (.node 89 (.node 88 (.leaf 87 yT87) (.leaf 88 yT88)) (.node 90 (.leaf 89 yT89) (.leaf 90 lI))) (.node 93 (.node 92 (.leaf 91 yT91) (.leaf 92 yT92)) (.node 94 (.leaf 93 yT93) (.leaf 94 yT94)))))) (.node 112 (.node 104 (.node 100 (.node 96 (.leaf 95 yT95) (.node 99 (.leaf 96 yT96) (.leaf 99 yT99))) (.node 102 (.node 101 (.leaf 100 yT100) (.leaf 101 yT101)) (.node 103 (.leaf 102 yT102) (.leaf 103 yT103)))) (.node 108 (.node 106 (.node 105 (.leaf 104 yT104) (.leaf 105 yT105)) (.node 107 (.leaf 106 yT106) (.leaf 107 yT107))) (.node 110 (.node 109 (.leaf 108 yT108) (.leaf 109 yT109)) (.node 111 (.leaf 110 yT110) (.leaf 111 yT111))))) (.node 120 (.node 116 (.node 114 (.node 113 (.leaf 112 yT112) (.leaf 113 yT113)) (.node 115 (.leaf 114 yT114) (.leaf 115 yT115))) (.node 118 (.node 117 (.leaf 116 yT116) (.leaf 117 yT117)) (.node 119 (.leaf 118 yT118) (.leaf 119 yT119)))) (.node 124 (.node 122 (.node 121 (.leaf 120 yT120) (.leaf 121 bU)) (.node 123 (.leaf 122 yT122) (.leaf 123 yT123))) (.node 126 (.node 125 (.leaf 124 yT124) (.leaf 125 yT125)) (.node 127 (.leaf 126 yT126) (.leaf 127 yT127)))))))) (.node 191 (.node 160 (.node 145 (.node 137 (.node 131 (.node 129 (.leaf 128 yT128) (.node 130 (.leaf 129 yT129) (.leaf 130 yT130))) (.node 133 (.node 132 (.leaf 131 yT131) (.leaf 132 yT132)) (.node 134 (.leaf 133 yT133) (.leaf 134 yT134)))) (.node 141 (.node 139 (.node 138 (.leaf 137 yT137) (.leaf 138 yT138)) (.node 140 (.leaf 139 yT139) (.leaf 140 yT140))) (.node 143 (.node 142 (.leaf 141 yT141) (.leaf 142 yT142)) (.node 144 (.leaf 143 yT143) (.leaf 144 yT144))))) (.node 152 (.node 148 (.node 146 (.leaf 145 yT145) (.node 147 (.leaf 146 yT146) (.leaf 147 yT147))) (.node 150 (.node 149 (.leaf 148 yT148) (.leaf 149 yT149)) (.node 151 (.leaf 150 yT150) (.leaf 151 yT151)))) (.node 156 (.node 154 (.node 153 (.leaf 152 yT152) (.leaf 153 yT153)) (.node 155 (.leaf 154 yT154) (.leaf 155 yT155))) (.node 158 (.node 157 (.leaf 156 yT156) (.leaf 157 yT157)) (.node 159 (.leaf 158 yT158) (.leaf 159 yT159)))))) (.node 175 (.node 167 (.node 163 (.node 161 (.leaf 160 yT160) (.node 162 (.leaf 161 yT161) (.leaf 162 yT162))) (.node 165 (.node 164 (.leaf 163 yT163) (.leaf 164 yT164)) (.node 166 (.leaf 165 yT165) (.leaf 166 yT166)))) (.node 171 (.node 169 (.node 168 (.leaf 167 yT167) (.leaf 168 yT168)) (.node 170 (.leaf 169 yT169) (.leaf 170 yT170))) (.node 173 (.node 172 (.leaf 171 yT171) (.leaf 172 yT172)) (.node 174 (.leaf 173 yT173) (.leaf 174 yT174))))) (.node 183 (.node 179 (.node 177 (.node 176 (.leaf 175 yT175) (.leaf 176 yT176)) (.node 178 (.leaf 177 yT177) (.leaf 178 yT178))) (.node 181 (.node 180 (.leaf 179 yT179) (.leaf 180 yT180)) (.node 182 (.leaf 181 yT181) (.leaf 182 yT182)))) (.node 187 (.node 185 (.node 184 (.leaf 183 yT183) (.leaf 184 yT184)) (.node 186 (.leaf 185 yT185) (.leaf 186 yT186))) (.node 189 (.node 188 (.leaf 187 yT187) (.leaf 188 yT188)) (.node 190 (.leaf 189 yT189) (.leaf 190 yT190))))))) (.node 221 (.node 206 (.node 198 (.node 194 (.node 192 (.leaf 191 yT191) (.node 193 (.leaf 192 yT192) (.leaf 193 yT193))) (.node 196 (.node 195 (.leaf 194 yT194) (.leaf 195 yT195)) (.node 197 (.leaf 196 yT196) (.leaf 197 yT197)))) (.node 202 (.node 200 (.node 199 (.leaf 198 yT198) (.leaf 199 yT199)) (.node 201 (.leaf 200 yT200) (.leaf 201 yT201))) (.node 204 (.node 203 (.leaf 202 yT202) (.leaf 203 yT203)) (.node 205 (.leaf 204 yT204) (.leaf 205 yT205))))) (.node 213 (.node 209 (.node 207 (.leaf 206 yT206) (.node 208 (.leaf 207 yT207) (.leaf 208 Qh))) (.node 211 (.node 210 (.leaf 209 yT209) (.leaf 210 yT210)) (.node 212 (.leaf 211 yT211) (.leaf 212 yT212)))) (.node 217 (.node 215 (.node 214 (.leaf 213 yT213) (.leaf 214 yT214)) (.node 216 (.leaf 215 yT215) (.leaf 216 yT216))) (.node 219 (.node 218 (.leaf 217 yT217) (.leaf 218 yT218)) (.node 220 (.leaf 219 yT219) (.leaf 220 yT220)))))) (.node 236 (.node 228 (.node 224 (.node 222 (.leaf 221 yT221) (.node 223 (.leaf 222 yT222) (.leaf 223 yT223))) (.node 226 (.node 225 (.leaf 224 yT224) (.leaf 225 yT225)) (.node 227 (.leaf 226 yT226) (.leaf 227 yT227)))) (.node 232 (.node 230 (.node 229 (.leaf 228 yT228) (.leaf 229 yT229)) (.node 231 (.leaf 230 yT230) (.leaf 231 yT231))) (.node 234 (.node 233 (.leaf 232 yT232) (.leaf 233 yT233)) (.node 235 (.leaf 234 yT234) (.leaf 235 yT235))))) (.node 248 (.node 244 (.node 238 (.node 237 (.leaf 236 yT236) (.leaf 237 yT237)) (.node 241 (.leaf 238 yT238) (.leaf 241 yT241))) (.node 246 (.node 245 (.leaf 244 yT244) (.leaf 245 yT245)) (.node 247 (.leaf 246 yT246) (.leaf 247 yT247)))) (.node 256 (.node 252 (.node 251 (.leaf 248 yT248) (.leaf 251 yT251)) (.node 255 (.leaf 252 yT252) (.leaf 255 yT255))) (.node 260 (.node 259 (.leaf 256 yT256) (.leaf 259 yT259)) (.node 263 (.leaf 260 yT260) (.leaf 263 yT263)))))))))
theorem aH:nZ.Ok Ie.get Tryz.prog:=BT.ok (by kernel_rfl)
end Go.bP.YthoodopjoaigdaaGreatDoor
namespace Go.bP
structure ay (X:Ctx)(f:Nat)(args:List AV)(σ:St)(Q:AV→St→Prop):Prop where
 ev:Aw X f args σ Q
structure aW (X:Ctx)(live:List Nat)(c:AC)(e:Env)(σ:St)(Q:Out→Env→St→Prop):Prop where
 ev:EvL X live c e σ Q
def Qi (op:BinOp)(k:IntKind)(a b:Int)(Q:AV→Prop):Prop:=match op with
 | .add=>JM k (a+b) Q
 | .sub=>JM k (a - b) Q
 | .mul=>JM k (a*b) Q
 | .quo=>b≠0∧JM k (a.tdiv b) Q
 | .rem=>b≠0∧Q (.i k (a.tmod b))
 | .eql=>fc (.b (decide (a=b))) Q
 | .neq=>fc (.b (!decide (a=b))) Q
 | .lss=>fc (.b (decide (a<b))) Q
 | .leq=>fc (.b (decide (a≤b))) Q
 | .gtr=>fc (.b (decide (b<a))) Q
 | .geq=>fc (.b (decide (b≤a))) Q
 | op=>om (DC op k a b) Q
theorem Qj {op:BinOp} {k:IntKind} {a b:Int} {Q:AV→Prop} (h:Qi op k a b Q):opt (MC op k a b) Q:=by
 cases op <;> simp only [Qi] at h
 all_goals first
  | (obtain⟨r,rfl,h⟩:=h;exact⟨_,rfl,h⟩)
  | (obtain⟨h1,r,rfl,h⟩:=h;exact⟨_,by simp only [MC];rw [if_neg h1],h⟩)
  | (obtain⟨h1,h⟩:=h;exact⟨_,by simp only [MC];rw [if_neg h1],h⟩)
  | (have h:=iG _ _ h;exact⟨_,rfl,h⟩)
  | exact BD h
def Fv (op:BinOp)(k:IntKind)(a b:Int)(Q:AV→Prop):Prop:=match op with
 | .shl=>0≤b∧JM k (a*2^(min b.toNat k.bits)) Q
 | .shr=>0≤b∧Q (.i k (a.fdiv (2^(min b.toNat k.bits))))
 | _=>False
theorem Ec {op:BinOp} {k:IntKind} {a b:Int} {Q:AV→Prop} (h:Fv op k a b Q):opt (Ae op k a b) Q:=by
 cases op <;> simp only [Fv] at h
 ·obtain⟨h1,r,rfl,h⟩:=h;exact⟨_,by simp only [Ae];rw [if_neg (by omega)],h⟩
 ·obtain⟨h1,h⟩:=h;exact⟨_,by simp only [Ae];rw [if_neg (by omega)],h⟩
def Qk (op:BinOp)(a b:List UInt8)(Q:AV→Prop):Prop:=match op with
 | .add=>a.length+b.length≤9223372036854775807∧Q (.s (a ++ b))
 | .eql=>fc (.b (a == b)) Q
 | .neq=>fc (.b (!(a == b))) Q
 | op=>om (lC op a b) Q
theorem Ql {op:BinOp} {a b:List UInt8} {Q:AV→Prop} (h:Qk op a b Q):opt (lC op a b) Q:=by
 cases op <;> simp only [Qk] at h
 all_goals first
  | (obtain⟨h1,h⟩:=h;exact⟨_,by simp only [lC];rw [if_pos h1],h⟩)
  | (have h:=iG _ _ h;exact⟨_,rfl,h⟩)
  | exact BD h
def Wl (τ:nZ)(t:Nat)(x y:AV)(n:Bool)(Q:AV→Prop):Prop:=om (eqT τ 20 t x y) fun r=>fc (.b (bif n then !r else r)) Q
def XY (τ:nZ)(op:BinOp)(t:Nat)(x y:AV)(c:Bool)(Q:AV→Prop):Prop:=match op,x,y with
 | .shl,.i k a,.i _ b=>Fv .shl k a b Q
 | .shr,.i k a,.i _ b=>Fv .shr k a b Q
 | op,.i k a,.i k' b=>cB (decide (k=k')) (Qi op k a b Q) False
 | op,.s a,.s b=>Qk op a b Q
 | .eql,.fM,.fM=>cB c (Wl τ t .fM .fM false Q) False
 | .neq,.fM,.fM=>cB c (Wl τ t .fM .fM true Q) False
 | .eql,.ag xs,.ag ys=>om (τ t) fun T=>cB T.guarded False (Wl τ t (.ag xs) (.ag ys) false Q)
 | .neq,.ag xs,.ag ys=>om (τ t) fun T=>cB T.guarded False (Wl τ t (.ag xs) (.ag ys) true Q)
 | .eql,x,y=>Wl τ t x y false Q
 | .neq,x,y=>Wl τ t x y true Q
 | _,_,_=>False
theorem kF {t:Bool} {A:Prop} (h:cB t A False):t=true∧A:=by cases t;exact h.elim;exact⟨rfl,h⟩
theorem cB_f {t:Bool} {A:Prop} (h:cB t False A):t=false∧A:=by cases t;exact⟨rfl,h⟩;exact h.elim
theorem bD {α:Type} {o:Option α} {Q:α→Prop} (h:om o Q):∃a,o=some a∧Q a:=BD h
theorem JO {τ:nZ} {P:Program} (fG:τ.Ok P) {t:Nat} {x y:AV} {Q:AV→Prop} (h:Wl τ t x y false Q):opt ((yH P 20 t x y).map .b) Q:=by
 obtain⟨b,hb,h⟩:=bD h
 exact⟨_,by rw [Fq fG _ _ _ _ _ hb];rfl,iG _ _ h⟩
theorem JQ {τ:nZ} {P:Program} (fG:τ.Ok P) {t:Nat} {x y:AV} {Q:AV→Prop} (h:Wl τ t x y true Q):opt ((yH P 20 t x y).map fun r=>.b !r) Q:=by
 obtain⟨b,hb,h⟩:=bD h
 exact⟨_,by rw [Fq fG _ _ _ _ _ hb];rfl,iG _ _ h⟩
theorem UG {τ:nZ} {P:Program} (fG:τ.Ok P) {op:BinOp} {t:Nat} {x y:AV} {c:Bool} {Q:AV→Prop} (h:XY τ op t x y c Q):opt (oQ P op t x y c) Q:=by
 unfold XY at h
 split at h
 ·exact Ec h
 ·exact Ec h
 ·rename_i op k a k' b h1 h2
  obtain⟨hk,h⟩:=kF h
  have hk:=of_decide_eq_true hk
  have:=Qj h
  subst hk
  cases op
  all_goals first
   | exact(h1 rfl).elim
   | exact(h2 rfl).elim
   | (simp only [oQ,if_true];exact this)
 ·have:=Ql h
  have e:∀o a b,oQ P o t (.s a) (.s b) c=lC o a b:=by intro o a b;unfold oQ;cases o <;> rfl
  rw [e];exact this
 ·obtain⟨rfl,h⟩:=kF h
  have:=JO fG h
  simpa [oQ] using this
 ·obtain⟨rfl,h⟩:=kF h
  have:=JQ fG h
  simpa [oQ] using this
 ·obtain⟨T,hT,h⟩:=bD h
  obtain⟨hg,h⟩:=cB_f h
  have:=JO fG h
  simpa [oQ,fG _ _ hT,hg] using this
 ·obtain⟨T,hT,h⟩:=bD h
  obtain⟨hg,h⟩:=cB_f h
  have:=JQ fG h
  simpa [oQ,fG _ _ hT,hg] using this
 ·rename_i x y h1 h2 h3 h4
  have:=JO fG h
  unfold oQ
  split
  all_goals first
   | exact this
   | (exfalso;exact h1 _ _ _ _ rfl rfl)
   | (exfalso;exact h1 _ _ _ _ rfl rfl rfl)
   | (exfalso;exact h2 _ _ rfl rfl)
   | (exfalso;exact h3 rfl rfl)
   | (exfalso;exact h4 _ _ rfl rfl)
   | (exfalso;simp_all;done)
   | simp_all
 ·rename_i x y h1 h2 h3 h4
  have:=JQ fG h
  unfold oQ
  split
  all_goals first
   | exact this
   | (exfalso;exact h1 _ _ _ _ rfl rfl)
   | (exfalso;exact h1 _ _ _ _ rfl rfl rfl)
   | (exfalso;exact h2 _ _ rfl rfl)
   | (exfalso;exact h3 rfl rfl)
   | (exfalso;exact h4 _ _ rfl rfl)
   | (exfalso;simp_all;done)
   | simp_all
 ·exact h.elim
def Qm (τ:nZ)(e:Nat):Bool:=match τ e with
 | some ⟨.int .u8,_,_,_,_,_,_⟩=>true
 | _=>false
theorem Fz {τ:nZ} {P:Program} (fG:τ.Ok P) {e:Nat} (h:Qm τ e=true):∃a b c d f g,aJ P e=some ⟨.int .u8,a,b,c,d,f,g⟩:=by
 unfold Qm at h
 split at h
 ·rename_i a b c d f g he;exact⟨_,_,_,_,_,_,fG _ _ he⟩
 ·cases h
def Nj (n:Nat)(lo hi:Option AV)(K:Nat→Nat→Prop):Prop:=match lo,hi with
 | none,none=>K 0 n
 | some (.i _ i),none=>∃a:Nat,i=a∧a≤n∧K a n
 | none,some (.i _ j)=>∃b:Nat,j=b∧b≤n∧K 0 b
 | some (.i _ i),some (.i _ j)=>∃a b:Nat,i=a∧j=b∧a≤b∧b≤n∧K a b
 | _,_=>False
theorem FB {n:Nat} {lo hi:Option AV} {K:Nat→Nat→Prop} (h:Nj n lo hi K):∃a b,iZ n n lo hi=some (a,b)∧a≤b∧b≤n∧K a b:=by
 unfold Nj at h
 split at h
 ·exact⟨0,n,by simp [iZ,WV,WW],Nat.zero_le _,Nat.le_refl _,h⟩
 ·obtain⟨a,rfl,h1,h⟩:=h
  refine⟨a,n,?_,h1,Nat.le_refl _,h⟩
  simp only [iZ,WV,WW,Option.bind_some];rw [if_pos (by omega)];simp
 ·obtain⟨b,rfl,h1,h⟩:=h
  refine⟨0,b,?_,Nat.zero_le _,h1,h⟩
  simp only [iZ,WV];rw [if_pos (by omega)];simp [WW]
 ·obtain⟨a,b,rfl,rfl,h1,h2,h⟩:=h
  refine⟨a,b,?_,h1,h2,h⟩
  simp only [iZ,WV];rw [if_pos (by omega)];simp only [Option.bind_some,WW];rw [if_pos (by omega)];simp
 ·exact h.elim
def Qn (x:List UInt8)(lo hi:Option AV)(Q:AV→Prop):Prop:=match lo,hi with
 | none,none=>Q (.s x)
 | some (.i _ i),none=>∃a:Nat,i=a∧a≤x.length∧Q (.s (x.drop a))
 | none,some (.i _ j)=>∃b:Nat,j=b∧b≤x.length∧Q (.s (x.take b))
 | some (.i _ i),some (.i _ j)=>∃a b:Nat,i=a∧j=b∧a≤b∧b≤x.length∧Q (.s ((x.drop a).take (b - a)))
 | _,_=>False
theorem Qo {x:List UInt8} {lo hi:Option AV} {Q:AV→Prop} (h:Qn x lo hi Q):opt ((iZ x.length x.length lo hi).map fun r=>AV.s ((x.drop r.1).take (r.2 - r.1))) Q:=by
 have key:Nj x.length lo hi fun a b=>Q (.s ((x.drop a).take (b - a))):=by
  unfold Qn at h
  unfold Nj
  split at h
  ·simpa using h
  ·obtain⟨a,h1,h2,h⟩:=h
   refine⟨a,h1,h2,?_⟩
   simp only
   rw [List.take_of_length_le (by simp)];exact h
  ·simpa using h
  ·exact h
  ·exact h.elim
 obtain⟨a,b,h1,_,_,h⟩:=FB key
 exact⟨_,by rw [h1];rfl,h⟩
def wSlc (τ:nZ)(t:Nat)(x:AV)(lo hi:Option AV)(σ:St)(Q:AV→Prop):Prop:=
 om (τ t) fun T=>match T.d,x with
 | .str,.s x=>Qn x lo hi Q
 | .slice e,.sl0=>cB (Nat.blt 0 (Ls τ e)) (om (iZ 0 0 lo hi) fun _=>Q .sl0) False
 | .slice e,.sl o g off n z=>cB (Nat.beq (Ls τ e) z && Nat.blt 0 z) (Nj n lo hi fun a b=>Q (.sl o g (off+a*z) (b - a) z)) False
 | .arr n e,.p o g off=>cB (Nat.blt 0 (Ls τ e)) (om (dG σ o g) fun cs=>cB (Nat.ble (off+n*Ls τ e) cs.length) (Nj n lo hi fun a b=>Q (.sl o g (off+a*Ls τ e) (b - a) (Ls τ e))) False) False
 | _,_=>False
theorem kG {a b:Nat} (h:Nat.blt a b=true):a<b:=by unfold Nat.blt at h;exact Nat.le_of_ble_eq_true h
theorem UH {τ:nZ} {P:Program} (fG:τ.Ok P) {t:Nat} {x:AV} {lo hi:Option AV} {σ:St} {Q:AV→Prop} (h:wSlc τ t x lo hi σ Q):opt (OB P t x lo hi σ) Q:=by
 obtain⟨⟨d,s,b,z,c,hd,g⟩,hT,h⟩:=bD h
 unfold OB
 rw [fG _ _ hT]
 simp only at h ⊢
 split at h
 ·exact Qo h
 ·obtain⟨h1,h⟩:=kF h
  obtain⟨r,h2,h⟩:=bD h
  have h1:=kG h1
  simp only
  rw [if_pos (by rw [uN fG h1];exact h1),h2]
  exact⟨_,rfl,h⟩
 ·obtain⟨h1,h⟩:=kF h
  rw [Bool.and_eq_true] at h1
  have h2:=Nat.eq_of_beq_eq_true h1.1
  have h3:=kG h1.2
  obtain⟨a,b,h4,_,_,h⟩:=FB h
  simp only
  rw [if_pos ⟨by rw [uN fG (by omega)];exact h2,h3⟩,h4]
  exact⟨_,rfl,h⟩
 ·obtain⟨h1,h⟩:=kF h
  obtain⟨cs,h2,h⟩:=bD h
  obtain⟨h3,h⟩:=kF h
  have h1:=kG h1
  have h3:=Nat.le_of_ble_eq_true h3
  obtain⟨a,b,h4,_,_,h⟩:=FB h
  have hz:=uN fG h1
  simp only
  rw [hz,if_pos h1,h2,Option.bind_some,if_pos h3,h4]
  exact⟨_,rfl,h⟩
 ·exact h.elim
def wIad (τ:nZ)(t:Nat)(x i:AV)(Q:AV→Prop):Prop:=om (τ t) fun T=>match T.d,x,i with
 | .arr n e,.p o g off,.i _ j=>cB (Nat.blt 0 (Ls τ e)) (∃m:Nat,j=m∧m<n∧Q (.p o g (off+m*Ls τ e))) False
 | .slice e,.sl o g off n z,.i _ j=>cB (Nat.beq (Ls τ e) z && Nat.blt 0 z) (∃m:Nat,j=m∧m<n∧Q (.p o g (off+m*z))) False
 | _,_,_=>False
theorem UJ {τ:nZ} {P:Program} (fG:τ.Ok P) {t:Nat} {x i:AV} {Q:AV→Prop} (h:wIad τ t x i Q):opt (OG P t x i) Q:=by
 obtain⟨⟨d,s,b,z,c,hd,g⟩,hT,h⟩:=bD h
 unfold OG
 rw [fG _ _ hT]
 simp only at h
 split at h
 ·obtain⟨h1,h⟩:=kF h
  obtain⟨m,rfl,h2,h⟩:=h
  have h1:=kG h1
  have hz:=uN fG h1
  simp only
  rw [hz,if_pos ⟨h1,by omega,by omega⟩]
  exact⟨_,rfl,by simpa using h⟩
 ·obtain⟨h1,h⟩:=kF h
  obtain⟨m,rfl,h2,h⟩:=h
  rw [Bool.and_eq_true] at h1
  have h3:=Nat.eq_of_beq_eq_true h1.1
  have h4:=kG h1.2
  simp only
  rw [if_pos ⟨by rw [uN fG (by omega)];exact h3,h4,by omega,by omega⟩]
  exact⟨_,rfl,by simpa using h⟩
 ·exact h.elim
def wIdx (τ:nZ)(t:Nat)(x i:AV)(Q:AV→Prop):Prop:=om (τ t) fun T=>match T.d,x,i with
 | .arr n e,.ag cs,.i _ j=>∃m:Nat,j=m∧m<n∧om (τ e) fun E=>om (partOf E cs (m*E.size)) fun v=>fc v Q
 | .str,.s x,.i _ j=>∃(m:Nat) (c:UInt8),j=m∧x[m]? =some c∧Q (.i .u8 c.toNat)
 | _,_,_=>False
theorem UK {τ:nZ} {P:Program} (fG:τ.Ok P) {t:Nat} {x i:AV} {Q:AV→Prop} (h:wIdx τ t x i Q):opt (OH P t x i) Q:=by
 obtain⟨⟨d,s,b,z,c,hd,g⟩,hT,h⟩:=bD h
 unfold OH
 rw [fG _ _ hT]
 simp only at h
 split at h
 ·obtain⟨m,rfl,h2,h⟩:=h
  obtain⟨E,hE,h⟩:=bD h
  obtain⟨v,hv,h⟩:=bD h
  simp only
  rw [if_pos ⟨by omega,by omega⟩,fG _ _ hE]
  exact⟨v,by simpa using hv,iG _ _ h⟩
 ·obtain⟨m,c,rfl,h2,h⟩:=h
  simp only
  rw [if_pos (by omega)]
  exact⟨_,by rw [Int.toNat_natCast,h2];rfl,h⟩
 ·exact h.elim
def wLen (τ:nZ)(t:Nat)(x:AV)(Q:AV→Prop):Prop:=om (τ t) fun T=>match T.d,x with
 | .str,.s x=>Q (.i .i64 x.length)
 | .arr n _,_=>Q (.i .i64 n)
 | .slice _,.sl0=>Q (.i .i64 0)
 | .slice _,.sl _ _ _ n _=>Q (.i .i64 n)
 | _,_=>False
theorem UL {τ:nZ} {P:Program} (fG:τ.Ok P) {t:Nat} {x:AV} {Q:AV→Prop} (h:wLen τ t x Q):opt (MF P t x) Q:=by
 obtain⟨⟨d,s,b,z,c,hd,g⟩,hT,h⟩:=bD h
 unfold MF
 rw [fG _ _ hT]
 simp only at h
 split at h
 all_goals first
  | exact h.elim
  | exact⟨_,rfl,h⟩
def wFad (τ:nZ)(t:Nat)(x:AV)(f:Nat)(Q:AV→Prop):Prop:=om (τ t) fun T=>match T.d,x with
 | .st fs,.p o g off=>om fs[f]? fun r=>cB (Nat.blt 0 (Ls τ r.2.1)) (Q (.p o g (off+r.1))) False
 | _,_=>False
theorem UM {τ:nZ} {P:Program} (fG:τ.Ok P) {t:Nat} {x:AV} {f:Nat} {Q:AV→Prop} (h:wFad τ t x f Q):opt (OD P t x f) Q:=by
 obtain⟨⟨d,s,b,z,c,hd,g⟩,hT,h⟩:=bD h
 unfold OD
 rw [fG _ _ hT]
 simp only at h
 split at h
 ·obtain⟨r,hr,h⟩:=bD h
  obtain⟨h1,h⟩:=kF h
  have h1:=kG h1
  simp only
  rw [hr,Option.bind_some,if_pos (by rw [uN fG h1];exact h1)]
  exact⟨_,rfl,h⟩
 ·exact h.elim
def wFld (τ:nZ)(t:Nat)(x:AV)(f:Nat)(Q:AV→Prop):Prop:=om (τ t) fun T=>match T.d,x with
 | .st fs,.ag cs=>om fs[f]? fun r=>om (τ r.2.1) fun F=>om (partOf F cs r.1) fun v=>fc v Q
 | _,_=>False
theorem UN {τ:nZ} {P:Program} (fG:τ.Ok P) {t:Nat} {x:AV} {f:Nat} {Q:AV→Prop} (h:wFld τ t x f Q):opt (OE P t x f) Q:=by
 obtain⟨⟨d,s,b,z,c,hd,g⟩,hT,h⟩:=bD h
 unfold OE
 rw [fG _ _ hT]
 simp only at h
 split at h
 ·obtain⟨r,hr,h⟩:=bD h
  obtain⟨F,hF,h⟩:=bD h
  obtain⟨v,hv,h⟩:=bD h
  simp only
  rw [hr,Option.bind_some,fG _ _ hF]
  exact⟨v,hv,iG _ _ h⟩
 ·exact h.elim
def allT (τ:nZ):List (Nat×Nat×Bool)→Bool
 | []=>true
 | f :: fs=>match τ f.2.1 with
   | some _=>allT τ fs
   | none=>false
theorem Lu {τ:nZ} {P:Program} (fG:τ.Ok P):∀fs,allT τ fs=true→fs.all (fun f=>(aJ P f.2.1).isSome)=true
 | [],_=>rfl
 | f :: fs,h=>by
   simp only [allT] at h
   split at h
   ·rename_i T hT;simp only [List.all_cons,fG _ _ hT,Option.isSome_some,Bool.true_and];exact Lu fG fs h
   ·cases h
theorem Ig {p q:Nat→Option (Nat×Nat)} (hp:∀i r,p i=some r→q i=some r):∀(l:List (Nat×AV)) (cells r:List AV),lM p cells l=some r→lM q cells l=some r
 | [],_,_,h=>h
 | (i,v) :: l,cells,r,h=>by
   simp only [lM] at h ⊢
   split at h
   ·cases h
   ·rename_i off size he
    rw [hp _ _ he]
    simp only
    split at h
    ·rename_i hc;rw [if_pos hc];exact Ig hp l _ r h
    ·cases h
def Qp (τ:nZ)(t:Nat)(ps:List (Nat×AV))(Q:AV→Prop):Prop:=om (τ t) fun T=>match T.d with
 | .st fs=>cB (allT τ fs) (om (lM (fun i=>(fs[i]?).bind fun f=>(τ f.2.1).map fun F=>(f.1,F.size)) T.zero.cells ps) fun cs=>H9 cs fun cs=>Q (.ag cs)) False
 | .arr _ e=>om (τ e) fun E=>om (lM (fun i=>some (i*E.size,E.size)) T.zero.cells ps) fun cs=>H9 cs fun cs=>Q (.ag cs)
 | _=>False
theorem Nk {τ:nZ} {P:Program} (fG:τ.Ok P) {t:Nat} {ps:List (Nat×AV)} {Q:AV→Prop} (h:Qp τ t ps Q):opt (Ac P t ps) Q:=by
 obtain⟨⟨d,s,b,z,c,hd,g⟩,hT,h⟩:=bD h
 unfold Ac
 rw [fG _ _ hT]
 simp only at h ⊢
 split at h
 ·rename_i fs
  obtain⟨h1,h⟩:=kF h
  obtain⟨cs,h2,h⟩:=bD h
  simp only
  rw [if_pos (Lu fG fs h1)]
  have h3:=Ig (q:=fun i=>(fs[i]?).bind fun f=>(aJ P f.2.1).map fun F=>(f.1,F.size)) (fun i r hi=>by
   rw [Option.bind_eq_some_iff] at hi ⊢
   obtain⟨f,hf,hi⟩:=hi
   rw [Option.map_eq_some_iff] at hi
   obtain⟨F,hF,rfl⟩:=hi
   exact⟨f,hf,by rw [fG _ _ hF];rfl⟩) _ _ _ h2
  rw [h3]
  exact⟨_,rfl,mQ _ _ h⟩
 ·obtain⟨E,hE,h⟩:=bD h
  obtain⟨cs,h2,h⟩:=bD h
  simp only
  rw [fG _ _ hE]
  simp only
  rw [h2]
  exact⟨_,rfl,mQ _ _ h⟩
 ·exact h.elim
end Go.bP
namespace Go.bP
section
variable (τ:nZ)(lit:Bool)
def wUn (op:UnOp)(x:AV)(Q:AV→Prop):Prop:=match op,x with
 | .neg,.i k n=>JM k (0 - n) Q
 | .xor,.i k n=>om (DC .xor k (if k.signed then -1 else k.max) n) Q
 | .not,.b p=>fc (.b !p) Q
 | _,_=>False
def Wn (s d:Nat)(x:AV)(σ:St)(Q:AV→St→Prop):Prop:=om (τ s) fun S=>om (τ d) fun D=>match S.d,D.d,x with
 | _,.int k,.i _ n=>JM k n fun v=>Q v σ
 | _,.str,.i _ n=>Q (.s (Utf8.encode n).data.toList) σ
 | .str,.str,.s x=>Q (.s x) σ
 | .str,.slice e,.s x=>cB (Qm τ e) (Ia lit σ fun m=>JL lit (au e (x.map fun b=>.i .u8 b.toNat) σ) fun σ'=>Q (.sl m 0 0 x.length 1) σ') False
 | .slice e,.str,.sl0=>cB (Qm τ e) (Q (.s []) σ) False
 | .slice e,.str,.sl o g off n z=>cB (Qm τ e && Nat.beq z 1) (om (dG σ o g) fun cs=>∃b,off+n≤cs.length∧bytesOf ((cs.drop off).take n)=some b∧Q (.s b) σ) False
 | _,_,_=>False
def wBsl (t len:Nat)(ps:List (Nat×AV))(σ:St)(Q:AV→St→Prop):Prop:=om (τ t) fun T=>match T.d with
 | .slice e=>om (τ e) fun E=>cB (Nat.blt 0 E.size && Nat.beq E.zero.cells.length E.size && Nat.ble (len*E.size) 16777216)
  (om (lM (fun i=>some (i*E.size,E.size)) (Ad E.zero.cells len) ps) fun cs=>H9 cs fun cs=>Ia lit σ fun m=>JL lit (au e cs σ) fun σ'=>Q (.sl m 0 0 len E.size) σ') False
 | _=>False
def wMks (t:Nat)(l c:AV)(σ:St)(Q:AV→St→Prop):Prop:=om (τ t) fun T=>match T.d,l,c with
 | .slice e,.i _ l,.i _ c=>om (τ e) fun E=>cB (Nat.blt 0 E.size && Nat.beq E.zero.cells.length E.size)
  (∃l' c':Nat,l=l'∧c=c'∧l'≤c'∧c'≤9223372036854775807∧E.bytes*c'≤140737488355328∧Ia lit σ fun m=>JL lit (au e (Ad E.zero.cells c') σ) fun σ'=>Q (.sl m 0 0 l' E.size) σ') False
 | _,_,_=>False
def wRng (t:Nat)(x:AV)(σ:St)(Q:AV→St→Prop):Prop:=om (τ t) fun T=>match T.d,x with
 | .str,.s x=>Ia lit σ fun m=>JL lit (σ ++ [⟨0,false,.iter x 0⟩]) fun σ'=>Q (.p m 0 0) σ'
 | _,_=>False
def iterAt (σ:St)(o g:Nat):Option (List UInt8×Nat):=match σ[o]? with
 | some ⟨g',ro,.iter s pos⟩=>bif Nat.beq g g' && !ro then some (s,pos) else none
 | _=>none
def XZ (x:AV)(σ:St)(Q:AV→St→Prop):Prop:=match x with
 | .p o g off=>cB (Nat.beq off 0) (om (iterAt σ o g) fun r=>
  cB (decide (r.2<r.1.length)) (JL lit (σ.set o ⟨g,false,.iter r.1 (r.2+(Utf8.decode ⟨r.1.toArray⟩ r.2).2)⟩) fun σ'=>Q (.tu [.b true,.i .i64 r.2,.i .i32 (Utf8.decode ⟨r.1.toArray⟩ r.2).1]) σ') (Q (.tu [.b false]) σ)) False
 | _=>False
def Ih (σ:St)(o g e:Nat):Option (List AV):=match σ[o]? with
 | some ⟨g',ro,.cells e' cs⟩=>bif Nat.beq g g' && !ro && Nat.beq e' e then some cs else none
 | _=>none
theorem Qq {σ:St} {o g e:Nat} {cs:List AV} (h:Ih σ o g e=some cs):σ[o]? =some ⟨g,false,.cells e cs⟩:=by
 unfold Ih at h
 split at h
 ·rename_i g' ro e' cs' ho
  cases hb:(Nat.beq g g' && !ro && Nat.beq e' e) with
  | false=>rw [hb] at h;cases h
  | true=>
    rw [hb] at h
    cases h
    simp only [Bool.and_eq_true,Bool.not_eq_true'] at hb
    rw [ho,Nat.eq_of_beq_eq_true hb.1.1,Nat.eq_of_beq_eq_true hb.2,hb.1.2]
 ·cases h
def LC:AD→Bool
 | .rH _=>true
 | _=>false
def wApp (t:Nat)(x y:AV)(σ:St)(Q:AV→St→Prop):Prop:=om (τ t) fun T=>match T.d with
 | .slice e=>om (τ e) fun E=>cB (Nat.blt 0 E.size && Nat.beq E.zero.cells.length E.size && Nat.blt 0 E.bytes)
  (om (iP E.size y σ) fun src=>cB (Nat.beq src.1 0) (match x with | .sl0=>Q .sl0 σ | .sl o g off n z=>Q (.sl o g off n z) σ | _=>False)
   (cB (src.2.all AV.one)
      (match x with
      | .sl0=>src.1*E.bytes≤140737488355328∧H9 src.2 fun l=>Ia lit σ fun m=>JL lit (au e l σ) fun σ'=>Q (.sl m 0 0 src.1 E.size) σ'
      | .sl o g off n z=>om (Ih σ o g e) fun cs=>z=E.size∧off+n*z≤cs.length∧(n+src.1)*E.bytes≤140737488355328∧((cs.drop off).take (n*z)).all AV.one=true∧
          JL lit (σ.set o ⟨g+1,false,.cells e (((cs.drop off).take (n*z)) ++ src.2)⟩) fun σ'=>Q (.sl o (g+1) 0 (n+src.1) z) σ'
      | _=>False) False)) False
 | _=>False
structure Qr (P:Program)(t I:Nat)(Q:Bool→Prop):Prop where
 ev:om (hasAll P t I) Q
theorem Qr.of {P:Program} {t I:Nat} {b:Bool} {Q:Bool→Prop} (h:hasAll P t I=some b)(q:Q b):Qr P t I Q:=⟨by rw [h];exact q⟩
def wTas (P:Program)(x:AV)(t:Nat)(ok:Bool)(Q:AV→Prop):Prop:=om (τ t) fun T=>cB (LC T.d) (match x with
 | .fM=>cB ok (Q (.tu [T.zero,.b false])) False
 | .ic t' v=>Qr P t' t fun b=>cB b (cB ok (Q (.tu [.ic t' v,.b true])) (Q (.ic t' v))) (cB ok (Q (.tu [T.zero,.b false])) False)
 | _=>False) (match x with
 | .fM=>cB ok (Q (.tu [T.zero,.b false])) False
 | .ic t' v=>cB (Nat.beq t' t) (cB ok (Q (.tu [v,.b true])) (fc v Q)) (cB ok (Q (.tu [T.zero,.b false])) False)
 | _=>False)
end
structure BH (τ:nZ)(lit:Bool)(t:Nat)(x y:AV)(σ:St)(Q:AV→St→Prop):Prop where
 ev:wApp τ lit t x y σ Q
def Nl (X:Ctx)(τ:nZ)(lit:Bool)(ρ:dI→AV)(op:eH)(σ:St)(Q:AV→St→Prop):Prop:=match op with
 | .mv x=>fc (ρ x) fun v=>Q v σ
 | .pick c a b=>match ρ c with
   | .b t=>cB t (cB (ρ a).cnd (fc (ρ a).val fun v=>Q v σ) False) (cB (ρ b).cnd (fc (ρ b).val fun v=>Q v σ) False)
   | _=>False
 | .alloc t=>om (τ t) fun T=>Ia lit σ fun m=>JL lit (au t T.zero.cells σ) fun σ'=>Q (.p m 0 0) σ'
 | .box t x=>fq (ρ x) fun v=>match v with
   | .u=>False
   | .tu _=>False
   | .cd _ _=>False
   | v=>Ia lit σ fun m=>JL lit (au t v.cells σ) fun σ'=>Q (.p m 0 0) σ'
 | .build t ps=>Qp τ t (ps.map fun q=>(q.1,ρ q.2)) fun v=>Q v σ
 | .iM t n ps=>wBsl τ lit t n (ps.map fun q=>(q.1,ρ q.2)) σ Q
 | .load t x=>om (nO (τ t) (ρ x) σ) fun v=>fc v fun v=>Q v σ
 | .store t x y=>om (iO (τ t) (ρ x) (ρ y) σ) fun σ'=>JL lit σ' fun σ'=>Q (.tu []) σ'
 | .bn x=>om (OO (ρ x)) fun v=>Q v σ
 | .bin op t x y=>XY τ op t (ρ x) (ρ y) (x.isC || y.isC) fun v=>Q v σ
 | .un op x=>wUn op (ρ x) fun v=>Q v σ
 | .conv s d x=>Wn τ lit s d (ρ x) σ Q
 | .Me t x=>om (τ t) fun T=>match T.d with
   | .rH _=>False
   | _=>fc (ρ x) fun v=>Q (.ic t v) σ
 | .Gt f a c=>H9 (a.map ρ) fun a=>H9 (c.map ρ) fun c=>Q (.fn f a c) σ
 | .WO t l c=>wMks τ lit t (ρ l) (ρ c) σ Q
 | .slc t x l h=>wSlc τ t (ρ x) (l.map ρ) (h.map ρ) σ fun v=>Q v σ
 | .eY t x f=>wFad τ t (ρ x) f fun v=>Q v σ
 | .MB t x f=>wFld τ t (ρ x) f fun v=>Q v σ
 | .mD t x i=>wIad τ t (ρ x) (ρ i) fun v=>Q v σ
 | .idx t x i=>wIdx τ t (ρ x) (ρ i) fun v=>Q v σ
 | .rng t x=>wRng τ lit t (ρ x) σ Q
 | .WR x=>XZ lit (ρ x) σ Q
 | .SK x _ t ok=>wTas τ X.P (ρ x) t ok fun v=>Q v σ
 | .ext x i=>match ρ x with
   | .tu vs=>om vs[i]? fun v=>fc v fun v=>Q v σ
   | _=>False
 | .call f args=>match ρ f with
   | .fn f first cap=>match f with
     | .func k=>H9 (first ++ args.map ρ ++ cap) fun l=>ay X k l σ fun v σ'=>fc v fun v=>Q v σ'
     | _=>False
   | _=>False
 | .inv x m args=>match ρ x with
   | .ic t v=>match X.meth t m v with
     | some k=>H9 (k.2 :: args.map ρ) fun l=>ay X k.1 l σ fun v σ'=>fc v fun v=>Q v σ'
     | none=>False
   | _=>False
 | .len t x=>wLen τ t (ρ x) fun v=>Q v σ
 | .app t _ x y=>fq (ρ x) fun x=>fq (ρ y) fun y=>BH τ lit t x y σ Q
 | .copy t x y=>om (KI X.P t (ρ x) (ρ y) σ) fun r=>JL lit r.2 fun σ'=>Q r.1 σ'
 | .mn mx xs=>om (Zq mx (xs.map ρ)) fun v=>fc v fun v=>Q v σ
 | .VN t r=>om (Td X.P t (r.map ρ) σ) fun r=>JL lit r.2 fun σ'=>Q r.1 σ'
 | .S9 t x k ok=>om (Js X.P t (ρ x) (ρ k) ok σ) fun v=>fc v fun v=>Q v σ
 | .yG t m k v=>om (Gv X.P t (ρ m) (ρ k) (ρ v) σ) fun σ'=>JL lit σ' fun σ'=>Q (.tu []) σ'
 | .del t m k=>om (Tc X.P t (ρ m) (ρ k) σ) fun σ'=>JL lit σ' fun σ'=>Q (.tu []) σ'
 | .WS t x=>om (Tf X.P t (ρ x) σ) fun v=>fc v fun v=>Q v σ
 | .sl3 t x l h m=>om (S_ X.P t (ρ x) (l.map ρ) (ρ h) (ρ m)) fun v=>fc v fun v=>Q v σ
 | .Zo _=>False
section
variable {X:Ctx} {τ:nZ} (fG:τ.Ok X.P) {lit:Bool} {σ:St} {Q:AV→St→Prop}
theorem X3 {op:UnOp} {x:AV} {Q:AV→Prop} (h:wUn op x Q):opt (Zp op x) Q:=by
 unfold wUn at h
 split at h
 ·obtain⟨r,rfl,h⟩:=h;exact⟨_,rfl,h⟩
 ·exact BD h
 ·exact⟨_,rfl,iG _ _ h⟩
 ·exact h.elim
include fG
theorem Qs {s d:Nat} {x:AV} (h:Wn τ lit s d x σ Q):opt (Gu X.P s d x σ) fun r=>Q r.1 r.2:=by
 obtain⟨⟨d1,s1,b1,z1,c1,hd1,g1⟩,hS,h⟩:=bD h
 obtain⟨⟨d2,s2,b2,z2,c2,hd2,g2⟩,hD,h⟩:=bD h
 unfold Gu
 rw [fG _ _ hS,fG _ _ hD]
 simp only at h ⊢
 split at h
 ·obtain⟨r,rfl,h⟩:=h;exact⟨_,rfl,h⟩
 ·exact⟨_,rfl,h⟩
 ·exact⟨_,rfl,h⟩
 ·obtain⟨h1,h⟩:=kF h
  obtain⟨a,b,c,d,f,g,he⟩:=Fz fG h1
  simp only [he]
  exact⟨_,rfl,jR _ _ _ (pG _ _ _ h)⟩
 ·obtain⟨h1,h⟩:=kF h
  obtain⟨a,b,c,d,f,g,he⟩:=Fz fG h1
  simp only [he]
  exact⟨_,rfl,h⟩
 ·obtain⟨h1,h⟩:=kF h
  rw [Bool.and_eq_true] at h1
  have hz:=Nat.eq_of_beq_eq_true h1.2
  obtain⟨a,b,c,d,f,g,he⟩:=Fz fG h1.1
  obtain⟨cs,hc,b',h2,h3,h⟩:=bD h
  simp only [he]
  rw [if_pos hz,hc,Option.bind_some,if_pos h2,h3]
  exact⟨_,rfl,h⟩
 ·exact h.elim
theorem UO {t n:Nat} {ps:List (Nat×AV)} (h:wBsl τ lit t n ps σ Q):opt (OA X.P t n ps σ) fun r=>Q r.1 r.2:=by
 obtain⟨⟨d1,s1,b1,z1,c1,hd1,g1⟩,hT,h⟩:=bD h
 unfold OA
 simp only at h
 split at h
 ·rw [fG _ _ hT]
  obtain⟨E,hE,h⟩:=bD h
  obtain⟨h1,h⟩:=kF h
  rw [Bool.and_eq_true,Bool.and_eq_true] at h1
  obtain⟨cs,hc,h⟩:=bD h
  simp only [fG _ _ hE]
  rw [if_pos ⟨kG h1.1.1,Nat.eq_of_beq_eq_true h1.1.2,Nat.le_of_ble_eq_true h1.2⟩,hc]
  exact⟨_,rfl,jR _ _ _ (pG _ _ _ (mQ _ _ h))⟩
 ·exact h.elim
theorem UQ {t:Nat} {l c:AV} (h:wMks τ lit t l c σ Q):opt (OJ X.P t l c σ) fun r=>Q r.1 r.2:=by
 obtain⟨⟨d1,s1,b1,z1,c1,hd1,g1⟩,hT,h⟩:=bD h
 unfold OJ
 rw [fG _ _ hT]
 simp only at h
 split at h
 ·obtain⟨E,hE,h⟩:=bD h
  obtain⟨h1,h⟩:=kF h
  rw [Bool.and_eq_true] at h1
  obtain⟨l',c',rfl,rfl,h2,h3,h4,h⟩:=h
  simp only [fG _ _ hE]
  rw [if_pos ⟨kG h1.1,Nat.eq_of_beq_eq_true h1.2,by omega,by omega,by omega,by omega⟩]
  exact⟨_,rfl,jR _ _ _ (pG _ _ _ h)⟩
 ·exact h.elim
theorem UR {t:Nat} {x:AV} (h:wRng τ lit t x σ Q):opt (OL X.P t x σ) fun r=>Q r.1 r.2:=by
 obtain⟨⟨d1,s1,b1,z1,c1,hd1,g1⟩,hT,h⟩:=bD h
 unfold OL
 rw [fG _ _ hT]
 simp only at h
 split at h
 ·exact⟨_,rfl,jR _ _ _ (pG _ _ _ h)⟩
 ·exact h.elim
omit fG in
theorem UU {x:AV} (h:XZ lit x σ Q):opt (OM x σ) fun r=>Q r.1 r.2:=by
 unfold XZ at h
 split at h
 ·obtain⟨h1,h⟩:=kF h
  obtain rfl:=Nat.eq_of_beq_eq_true h1
  obtain⟨⟨s,pos⟩,hi,h⟩:=bD h
  unfold iterAt at hi
  split at hi
  ·rename_i g' ro s' pos' ho
   cases hb:(Nat.beq _ g' && !ro) with
   | false=>rw [hb] at hi;cases hi
   | true=>
     rw [hb] at hi
     cases hi
     simp only [Bool.and_eq_true,Bool.not_eq_true'] at hb
     have hg:=Nat.eq_of_beq_eq_true hb.1
     subst hg
     unfold OM
     simp only [ho]
     rw [if_pos ⟨trivial,hb.2⟩]
     simp only at h
     by_cases hp:pos<s.length
     ·rw [decide_eq_true hp] at h
      rw [if_pos hp]
      exact⟨_,rfl,jR _ _ _ h⟩
     ·rw [decide_eq_false hp] at h
      rw [if_neg hp]
      exact⟨_,rfl,h⟩
  ·cases hi
 ·exact h.elim
theorem UW {t:Nat} {x y:AV} (h:wApp τ lit t x y σ Q):opt (OI X.P t x y σ) fun r=>Q r.1 r.2:=by
 obtain⟨⟨d1,s1,b1,z1,c1,hd1,g1⟩,hT,h⟩:=bD h
 unfold OI
 simp only at h
 split at h
 ·rw [fG _ _ hT]
  obtain⟨E,hE,h⟩:=bD h
  obtain⟨h1,h⟩:=kF h
  rw [Bool.and_eq_true,Bool.and_eq_true] at h1
  obtain⟨src,hs,h⟩:=bD h
  simp only [fG _ _ hE]
  rw [if_pos ⟨kG h1.1.1,Nat.eq_of_beq_eq_true h1.1.2,kG h1.2⟩,hs,Option.bind_some]
  cases h0:Nat.beq src.1 0 with
  | true=>
    rw [h0] at h
    rw [if_pos (Nat.eq_of_beq_eq_true h0)]
    simp only [cB] at h
    split at h
    ·exact⟨_,rfl,h⟩
    ·exact⟨_,rfl,h⟩
    ·exact h.elim
  | false=>
    rw [h0] at h
    rw [if_neg (fun e=>by rw [e] at h0;cases h0)]
    obtain⟨h2,h⟩:=kF h
    rw [if_pos h2]
    split at h
    ·obtain⟨h3,h⟩:=h
     simp only
     rw [if_pos h3]
     exact⟨_,rfl,jR _ _ _ (pG _ _ _ (mQ _ _ h))⟩
    ·obtain⟨cs,hc,h3,h4,h5,h6,h⟩:=bD h
     have ho:=Qq hc
     simp only [ho]
     rw [if_pos ⟨trivial,h3,trivial,h4,h5,h6⟩]
     exact⟨_,rfl,jR _ _ _ h⟩
    ·exact h.elim
 ·exact h.elim
theorem UY {x:AV} {t:Nat} {ok:Bool} {Q:AV→Prop} (h:wTas τ X.P x t ok Q):opt (MG X.P x t ok) Q:=by
 obtain⟨⟨d1,s1,b1,z1,c1,hd1,g1⟩,hT,h⟩:=bD h
 unfold MG
 rw [fG _ _ hT]
 simp only at h
 cases x with
 | fM=>
   have key:ok=true∧Q (.tu [z1,.b false]):=by
    cases hi:LC d1 <;> (rw [hi] at h;exact kF h)
   obtain⟨rfl,h⟩:=key
   cases d1 <;> exact⟨_,rfl,h⟩
 | ic t' v=>
   simp only at h
   cases hi:LC d1 with
   | true=>
     rw [hi] at h
     cases d1 with
     | rH ms=>
       obtain⟨b,hb,h⟩:=bD h.ev
       simp only [hb]
       cases b with
       | true=>cases ok <;> exact⟨_,rfl,h⟩
       | false=>obtain⟨rfl,h⟩:=kF h;exact⟨_,rfl,h⟩
     | _=>cases hi
   | false=>
     rw [hi] at h
     have key:opt (if t'= t then some (if ok then AV.tu [v,.b true] else v) else if ok then some (.tu [z1,.b false]) else none) Q:=by
        cases hb:Nat.beq t' t with
        | true=>
          rw [hb] at h
          rw [if_pos (Nat.eq_of_beq_eq_true hb)]
          cases ok with
          | true=>exact⟨_,rfl,h⟩
          | false=>exact⟨_,rfl,iG _ _ h⟩
        | false=>
          rw [hb] at h
          rw [if_neg (fun e=>by rw [e,Nat.beq_refl] at hb;cases hb)]
          obtain⟨rfl,h⟩:=kF h
          exact⟨_,rfl,h⟩
     cases d1 <;> first | (cases hi;done) | exact key
 | _=>cases hi:LC d1 <;> (rw [hi] at h;exact h.elim)
theorem Ii {t:Nat} {x v:AV} (h:nO (τ t) x σ=some v):nO (aJ X.P t) x σ=some v:=by
 cases ht:τ t with
 | none=>rw [ht] at h;simp [nO] at h
 | some T=>rw [fG _ _ ht,←ht];exact h
theorem Ed {t:Nat} {x y:AV} {σ':St} (h:iO (τ t) x y σ=some σ'):iO (aJ X.P t) x y σ=some σ':=by
 cases ht:τ t with
 | none=>rw [ht] at h;simp [iO] at h
 | some T=>rw [fG _ _ ht,←ht];exact h
theorem JR {ρ:dI→AV} {op:eH} (h:Nl X τ lit ρ op σ Q):AL X ρ op σ Q:=by
 cases op with
 | call f args=>
   rw [DV]
   simp only [Nl] at h
   split at h
   ·rename_i f' first cap hf
    split at h
    ·rename_i k
     rw [hf]
     have h:=mQ _ _ h
     exact AP h.ev fun v s q=>iG _ _ q
    ·exact h.elim
   ·exact h.elim
 | inv x m args=>
   rw [Hf]
   simp only [Nl] at h
   split at h
   ·rename_i t v hx
    split at h
    ·rename_i k hk
     rw [hx]
     have h:=mQ _ _ h
     exact⟨k,hk,AP h.ev fun v s q=>iG _ _ q⟩
    ·exact h.elim
   ·exact h.elim
 | Zo x=>exact h.elim
 | mv x=>rw [dw rfl];simp only [Nl] at h;exact⟨_,rfl,iG _ _ h⟩
 | pick c a b=>
   rw [dw rfl]
   simp only [Nl] at h
   split at h
   ·rename_i t hc
    simp only [jh]
    rw [dV]
    unfold Gx
    rw [hc]
    cases t with
    | true=>
      obtain⟨h1,h⟩:=kF h
      simp only [iq,h1,Bool.not_true,kP,Bool.and_self,if_true]
      refine⟨_,rfl,?_⟩
      have h:=iG _ _ h
      have e:merge true (ρ a).val (ρ b).val=(ρ a).val:=by
       unfold merge
       split
       ·rename_i p q e1 e2;rw [e1];simp [Ag]
       ·simp
      rw [e];exact h
    | false=>
      obtain⟨h1,h⟩:=kF h
      simp only [kP,h1,Bool.not_false,iq,Bool.and_self,if_true]
      refine⟨_,rfl,?_⟩
      have h:=iG _ _ h
      have e:merge false (ρ a).val (ρ b).val=(ρ b).val:=by
       unfold merge
       split
       ·rename_i p q e1 e2;rw [e2];simp [Ag]
       ·simp
      rw [e];exact h
   ·exact h.elim
 | alloc t=>
   rw [dw rfl]
   obtain⟨T,hT,h⟩:=bD h
   simp only [jh]
   rw [fG _ _ hT]
   exact⟨_,rfl,jR _ _ _ (pG _ _ _ h)⟩
 | box t x=>
   rw [dw rfl]
   simp only [Nl] at h
   have h:=H_ _ _ h
   simp only [jh]
   split at h
   ·exact h.elim
   ·exact h.elim
   ·exact h.elim
   ·rename_i h1 h2 h3
    have h:=jR _ _ _ (pG _ _ _ h)
    split
    ·rename_i e;exact(h1 e).elim
    ·rename_i e;exact(h2 _ e).elim
    ·rename_i e;exact(h3 _ _ e).elim
    ·exact⟨_,rfl,h⟩
 | build t ps=>rw [dw rfl];simp only [jh];rw [dV];exact Nk fG h
 | iM t n ps=>rw [dw rfl];exact UO fG h
 | load t x=>
   rw [dw rfl]
   obtain⟨v,hv,h⟩:=bD h
   simp only [jh]
   rw [dV]
   exact⟨v,Ii fG hv,iG _ _ h⟩
 | store t x y=>
   rw [dw rfl]
   obtain⟨s,hs,h⟩:=bD h
   simp only [jh]
   rw [dV]
   exact⟨s,Ed fG hs,jR _ _ _ h⟩
 | bn x=>
   rw [dw rfl]
   simp only [jh]
   rw [dV]
   exact BD h
 | bin op t x y=>rw [dw rfl];simp only [jh];rw [dV];exact UG fG h
 | un op x=>rw [dw rfl];simp only [jh];rw [dV];exact X3 h
 | conv s d x=>rw [dw rfl];exact Qs fG h
 | Me t x=>
   rw [dw rfl]
   obtain⟨⟨d1,s1,b1,z1,c1,hd1,g1⟩,hT,h⟩:=bD h
   simp only [jh]
   rw [fG _ _ hT]
   simp only at h
   split at h
   ·exact h.elim
   ·rename_i hn
    have h:=iG _ _ h
    split
    ·rename_i e;cases e;exact(hn _ rfl).elim
    ·exact⟨_,rfl,h⟩
    ·rename_i e;cases e
 | Gt f a c=>
   rw [dw rfl]
   simp only [Nl] at h
   have h:=mQ _ _ (mQ _ _ h)
   exact⟨_,rfl,h⟩
 | WO t l c=>rw [dw rfl];exact UQ fG h
 | slc t x l hh=>rw [dw rfl];simp only [jh];rw [dV];exact UH fG h
 | eY t x f=>rw [dw rfl];simp only [jh];rw [dV];exact UM fG h
 | MB t x f=>rw [dw rfl];simp only [jh];rw [dV];exact UN fG h
 | mD t x i=>rw [dw rfl];simp only [jh];rw [dV];exact UJ fG h
 | idx t x i=>rw [dw rfl];simp only [jh];rw [dV];exact UK fG h
 | rng t x=>rw [dw rfl];exact UR fG h
 | WR x=>rw [dw rfl];exact UU h
 | SK x _ t ok=>rw [dw rfl];simp only [jh];rw [dV];exact UY fG h
 | ext x i=>
   rw [dw rfl]
   simp only [Nl] at h
   simp only [jh]
   split at h
   ·rename_i vs hx
    obtain⟨v,hv,h⟩:=bD h
    rw [hx]
    simp only
    rw [dV]
    exact⟨v,hv,iG _ _ h⟩
   ·exact h.elim
 | len t x=>rw [dw rfl];simp only [jh];rw [dV];exact UL fG h
 | app t s x y=>
   rw [dw rfl]
   simp only [Nl] at h
   exact UW fG (H_ _ _ (H_ _ _ h)).ev
 | VN t r=>
   rw [dw rfl]
   obtain⟨q,hq,h⟩:=bD h
   exact⟨q,hq,jR _ _ _ h⟩
 | S9 t x k ok=>
   rw [dw rfl]
   obtain⟨v,hv,h⟩:=bD h
   simp only [jh]
   rw [dV]
   exact⟨v,hv,iG _ _ h⟩
 | yG t m k v=>
   rw [dw rfl]
   obtain⟨q,hq,h⟩:=bD h
   simp only [jh]
   rw [dV]
   exact⟨q,hq,jR _ _ _ h⟩
 | del t m k=>
   rw [dw rfl]
   obtain⟨q,hq,h⟩:=bD h
   simp only [jh]
   rw [dV]
   exact⟨q,hq,jR _ _ _ h⟩
 | sl3 t x l hh m=>
   rw [dw rfl]
   obtain⟨v,hv,h⟩:=bD h
   simp only [jh]
   rw [dV]
   exact⟨v,hv,iG _ _ h⟩
 | WS t x=>
   rw [dw rfl]
   obtain⟨v,hv,h⟩:=bD h
   simp only [jh]
   rw [dV]
   exact⟨v,hv,iG _ _ h⟩
 | copy t x y=>
   rw [dw rfl]
   obtain⟨r,hr,h⟩:=bD h
   exact⟨r,hr,jR _ _ _ h⟩
 | mn mx xs=>
   rw [dw rfl]
   obtain⟨r,hr,h⟩:=bD h
   simp only [jh]
   rw [dV]
   exact⟨r,hr,iG _ _ h⟩
end
end Go.bP
namespace Go.bP
section
variable (X:Ctx)(τ:nZ)(lit:Bool)
def Ot (e:Env)(op:eH)(σ:St)(K:AV→St→Prop)(c:Bool):Prop:=match c with
 | true=>cB op.pure
  (match op with
  | .pick q x y=>match (q.ev e).val with
    | .b t=>cB (q.ev e).cnd (cB t (cB (x.ev e).cnd (fc (x.ev e).val fun v=>K (.cd true v) σ) False) (cB (y.ev e).cnd (fc (y.ev e).val fun v=>K (.cd true v) σ) False)) False
    | _=>False
  | op=>cB (op.cZ.all fun o=>(o.ev e).cnd) (Nl X τ lit (fun o=>(o.ev e).val) op σ fun v _=>K (.cd true v) σ) False)
  (cB (op.cZ.all fun o=>(o.ev e).cnd) (Nl X τ lit (fun o=>(o.ev e).val) op σ K) False)
 | false=>cB op.pure (K (.cd false .u) σ) (K (.tu []) σ)
def Ij (e:Env)(a:AI)(σ:St)(K:AV→St→Prop):Prop:=match a.gd with
 | none=>Nl X τ lit (dI.ev e) a.op σ K
 | some (n,w)=>match get e n with
   | .b x=>cB x (Ot X τ lit e a.op σ K w) (Ot X τ lit e a.op σ K (!w))
   | .cd c v=>cB c (match v with | .b x=>cB x (Ot X τ lit e a.op σ K w) (Ot X τ lit e a.op σ K (!w)) | _=>False) (Ot X τ lit e a.op σ K false)
   | .tu vs=>match vs with
     | []=>Ot X τ lit e a.op σ K false
     | _=>False
   | _=>False
def wO:List AI→Env→St→(Env→St→Prop)→Prop
 | [],e,σ,K=>K e σ
 | a :: r,e,σ,K=>Ij X τ lit e a σ fun v σ'=>wO r (put a.d v e) σ' K
def wAg (e:Env)(σ:St):List AI→Prop→Prop
 | [],K=>K
 | a :: r,K=>(match a.d with
   | some d=>cB a.op.pure (Ij X τ lit e a σ fun v _=>get e d=v) False
   | none=>False)∧wAg e σ r K
def wD:List (AI×List AI)→Env→St→(Env→St→Prop)→Prop
 | [],e,σ,K=>K e σ
 | a :: r,e,σ,K=>Ij X τ lit e a.1 σ fun v σ'=>wAg X τ lit e σ' a.2 (wD r (put a.1.d v e) σ' K)
def Np:List Nat→Env→(Env→Prop)→Prop
 | [],_,K=>K []
 | d :: ds,e,K=>fc (get e d) fun v=>Np ds e fun r=>K ((d,v) :: r)
def wC:AC→Env→St→(Out→Env→St→Prop)→Prop
 | .skip,e,σ,Q=>Q .normal e σ
 | .reg ops,e,σ,Q=>wO X τ lit ops e σ fun e σ=>Q .normal e σ
 | .jm ops,e,σ,Q=>wD X τ lit ops e σ fun e σ=>Q .normal e σ
 | .seq a b,e,σ,Q=>wC a e σ fun o e σ=>match o with
   | .normal=>wC b e σ Q
   | .exit j=>Q (.exit j) e σ
   | .ret=>Q .ret e σ
 | .cond x a b,e,σ,Q=>match x.ev e with
   | .b t=>cB t (wC a e σ Q) (wC b e σ Q)
   | _=>False
 | .blk id c,e,σ,Q=>wC c e σ fun o e σ=>match o with
   | .normal=>Q .normal e σ
   | .exit j=>cB (Nat.beq j id) (Q .normal e σ) (Q (.exit j) e σ)
   | .ret=>Q .ret e σ
 | .loop live c,e,σ,Q=>Np live e fun e=>aW X live c e σ Q
 | .cut live c,e,σ,Q=>Np live e fun e=>wC c e σ Q
 | .exit id,e,σ,Q=>Q (.exit id) e σ
 | .ret,e,σ,Q=>Q .ret e σ
def LD (e:Env)(σ:St):List AR→(List AV→Prop)→Prop
 | [],K=>K []
 | .t n :: rs,K=>fc (get e n) fun v=>match v with
   | .cd _ _=>False
   | v=>LD e σ rs fun vs=>K (v :: vs)
 | .cell a t :: rs,K=>om (nO (τ t) (get e a) σ) fun v=>fc v fun v=>LD e σ rs fun vs=>K (v :: vs)
end
structure Fin (σ:St)(v:AV)(σ':St)(Q:AV→St→Prop):Prop where
 ev:Q (norm σ v σ').1 (norm σ v σ').2
def wF (X:Ctx)(τ:nZ)(lit:Bool)(F:AF)(args:List AV)(σ:St)(Q:AV→St→Prop):Prop:=
 wC X τ lit F.code (gW 0 args) σ fun o e σ'=>match o with
    | .exit _=>False
    | _=>LD τ e σ' F.res fun vs=>match vs with
      | []=>Fin σ (.tu []) σ' Q
      | [v]=>Fin σ v σ' Q
      | v :: w :: vs=>Fin σ (.tu (v :: w :: vs)) σ' Q
theorem Fin.flat {σ σ':St} {v:AV} {Q:AV→St→Prop} (hf:v.flat=true)(h:σ'.take σ.length=σ)(q:Q v σ):Fin σ v σ' Q:=by
 constructor
 unfold norm
 rw [h,hf]
 simpa using q
theorem Fin.ref {σ σ':St} {v:AV} {Q:AV→St→Prop} (hf:v.flat=false)(q:Q v σ'):Fin σ v σ' Q:=by
 constructor
 unfold norm
 rw [hf]
 simpa using q
theorem Fin.same {σ σ':St} {v:AV} {Q:AV→St→Prop} (h:σ'.length=σ.length)(q:Q v σ'):Fin σ v σ' Q:=by
 constructor
 unfold norm
 split
 ·rename_i hc
  rw [Bool.and_eq_true] at hc
  have:=kV _ _ hc.2
  rw [List.take_of_length_le (by omega)] at this
  rw [←this];exact q
 ·exact q
theorem Fin.ne {σ σ':St} {v:AV} {Q:AV→St→Prop} (h:σ'.take σ.length≠σ)(q:Q v σ'):Fin σ v σ' Q:=by
 constructor
 unfold norm
 split
 ·rename_i hc
  rw [Bool.and_eq_true] at hc
  exact(h (kV _ _ hc.2)).elim
 ·exact q
section
variable {X:Ctx} {τ:nZ} (fG:τ.Ok X.P) {lit:Bool} {e:Env} {σ:St}
include fG
theorem xU {d:Option Nat} {g:Nat×Bool} {op:eH} {K:AV→St→Prop} {c:Bool} (hw:fE e (some g)=some c)(h:Ot X τ lit e op σ K c):EvS X e ⟨d,some g,op⟩ σ K:=by
 cases hp:op.pure with
 | true=>
   rw [O_ hp]
   refine⟨c,hw,?_⟩
   cases c with
   | false=>
     simp only [Ot,hp] at h
     exact⟨_,rfl,h⟩
   | true=>
     simp only [Ot,hp] at h
     by_cases hpk:∃q x y,op= .pick q x y
     ·obtain⟨q,x,y,rfl⟩:=hpk
      simp only [cB] at h
      simp only [jP,if_true,lT,Ah]
      split at h
      ·rename_i t ht
       rw [ht]
       split at h
       ·rename_i h1
        cases t with
        | true=>
          simp only at h
          split at h
          ·rename_i h2
           have h:=iG _ _ h
           refine⟨_,by simp only [h1,h2,iq,Bool.and_self,Bool.true_and,Bool.not_true,Bool.and_false,kP,if_true];rfl,?_⟩
           have e1:merge true (x.ev e).val (y.ev e).val=(x.ev e).val:=by
            unfold merge
            split
            ·rename_i p q e1 e2;rw [e1];simp [Ag]
            ·simp
           rw [e1];exact h
          ·exact h.elim
        | false=>
          simp only at h
          split at h
          ·rename_i h2
           have h:=iG _ _ h
           refine⟨_,by simp only [h1,h2,iq,Bool.and_self,Bool.true_and,Bool.not_false,Bool.and_false,Bool.and_true,kP,if_true];rfl,?_⟩
           have e1:merge false (x.ev e).val (y.ev e).val=(y.ev e).val:=by
            unfold merge
            split
            ·rename_i p q e1 e2;rw [e2];simp [Ag]
            ·simp
           rw [e1];exact h
          ·exact h.elim
       ·exact h.elim
      ·exact h.elim
     ·have h':cB (op.cZ.all fun o=>(o.ev e).cnd) (Nl X τ lit (fun o=>(o.ev e).val) op σ fun v _=>K (.cd true v) σ) False:=by
        cases op <;> first | exact h | exact absurd ⟨_,_,_,rfl⟩ hpk
      obtain⟨h1,h2⟩:=kF h'
      have h3:=JR fG h2
      rw [dw (by clear h' h1 h2 h3 hpk h;cases op <;> first | rfl | cases hp)] at h3
      obtain⟨r,hr,h4⟩:=h3
      have e1:lT X.P e op σ=qp true (op.cZ.all (fun o=>nK true (o.ev e).cnd)) (jh X.P (fun o=>(o.ev e).val) op σ):=by
        cases op <;> first | rfl | exact absurd ⟨_,_,_,rfl⟩ hpk
      refine⟨.cd true r.1,?_,h4⟩
      simp only [jP,if_true]
      rw [e1,hr]
      simp only [iq,qp]
      rw [if_pos h1]
 | false=>
   rw [K_ hp]
   refine⟨c,hw,?_⟩
   cases c with
   | false=>simp only [Ot,hp] at h;exact h
   | true=>
     simp only [Ot,hp] at h
     obtain⟨h1,h2⟩:=kF h
     exact⟨h1,JR fG h2⟩
theorem BI {a:AI} {K:AV→St→Prop} (h:Ij X τ lit e a σ K):EvS X e a σ K:=by
 obtain⟨d,gd,op⟩:=a
 unfold Ij at h
 simp only at h
 cases gd with
 | none=>exact JR fG h
 | some g=>
   obtain⟨n,w⟩:=g
   simp only at h
   split at h
   ·rename_i x hx
    cases x with
    | true=>exact xU fG (by simp only [fE,hx];cases w <;> rfl) h
    | false=>exact xU fG (by simp only [fE,hx];cases w <;> rfl) h
   ·rename_i c v hx
    cases c with
    | true=>
      simp only [cB] at h
      split at h
      ·rename_i x
       cases x with
       | true=>exact xU fG (by simp only [fE,hx];cases w <;> rfl) h
       | false=>exact xU fG (by simp only [fE,hx];cases w <;> rfl) h
      ·exact h.elim
    | false=>
      have h':Ot X τ lit e op σ K false:=h
      exact xU fG (by simp only [fE,hx];cases v <;> rfl) h'
   ·rename_i vs hx
    split at h
    ·exact xU fG (by simp only [fE,hx]) h
    ·exact h.elim
   ·exact h.elim
theorem Wp:∀{ops:List AI} {e:Env} {σ:St} {K:Env→St→Prop},wO X τ lit ops e σ K→Za X ops e σ K
 | [],e,σ,K,h=>KY.2 h
 | a :: r,e,σ,K,h=>by
   rw [G_]
   have h1:=BI fG h
   obtain⟨n,x,hx,q⟩:=h1
   exact⟨n,x,hx,Wp q⟩
theorem Qu {e:Env} {σ:St} {K:Prop} :∀{l:List AI},wAg X τ lit e σ l K→l.all (uz X e σ)=true∧K
 | [],h=>⟨rfl,h⟩
 | a :: r,h=>by
   obtain⟨h1,h2⟩:=h
   obtain⟨h3,h4⟩:=Qu h2
   refine⟨?_,h4⟩
   simp only [List.all_cons,h3,Bool.and_true]
   split at h1
   ·rename_i d hd
    obtain⟨hp,h1⟩:=kF h1
    obtain⟨n,x,hx,q⟩:=BI fG h1
    have hx':fK X (fun _ _ _=>none) e a σ=some x:=by
        unfold fK at hx ⊢
        rw [←hx]
        have hc:∀ρ run,g_ X run ρ a.op σ=jh X.P ρ a.op σ:=by
         intro ρ run
         cases ho:a.op <;> rw [ho] at hp <;> first | rfl | cases hp
        simp only [hc]
    unfold uz
    rw [hd,hx']
    obtain⟨v,s⟩:=x
    simp only at q ⊢
    rw [q];exact AV.qo v
   ·exact h1.elim
theorem Wq:∀{ops:List (AI×List AI)} {e:Env} {σ:St} {K:Env→St→Prop},wD X τ lit ops e σ K→Zb X ops e σ K
 | [],e,σ,K,h=>KZ.2 h
 | (a,ag) :: r,e,σ,K,h=>by
   rw [He]
   have h1:=BI fG h
   obtain⟨n,x,hx,q⟩:=h1
   obtain⟨q1,q2⟩:=Qu fG q
   exact⟨n,x,hx,q1,Wq q2⟩
omit fG in
theorem wu:∀(l:List Nat) (e:Env) (K:Env→Prop),Np l e K→K (clear l e)
 | [],e,K,h=>h
 | d :: ds,e,K,h=>wu ds e _ (iG _ _ h)
omit fG in
theorem yT (l:List Nat)(e:Env):clear l (clear l e)=clear l e:=by
 have key:∀(m:List Nat) (d:Nat),d∈m→get (m.map fun d=>(d,get e d)) d=get e d:=by
  intro m
  induction m with
  | nil=>intro d h;cases h
  | cons a m ih=>
    intro d h
    simp only [List.map_cons,get]
    split
    ·rename_i h1;rw [h1]
    ·rename_i h1
     rcases List.mem_cons.1 h with rfl | h
     ·exact(h1 rfl).elim
     ·exact ih d h
 unfold clear
 exact List.map_congr_left fun d hd=>by rw [key l d hd]
theorem Ws:∀{c:AC} {e:Env} {σ:St} {Q:Out→Env→St→Prop},wC X τ lit c e σ Q→EvC X c e σ Q:=by
 intro c
 induction c with
 | skip=>intro e σ Q h;exact G6.2 h
 | exit id=>intro e σ Q h;exact G7.2 h
 | ret=>intro e σ Q h;exact KP.2 h
 | reg ops=>intro e σ Q h;exact KQ.2 (Wp fG h)
 | jm ops=>intro e σ Q h;exact KR.2 (Wq fG h)
 | seq a b iha ihb=>
   intro e σ Q h
   refine KU.2 (vU (iha h) fun o e s q=>?_)
   cases o with
   | normal=>rw [Out.qF];exact ihb q
   | exit j=>rw [Out.xI];exact q
   | ret=>rw [Out.AA];exact q
 | cond x a b iha ihb=>
   intro e σ Q h
   simp only [wC] at h
   rw [G8]
   split at h
   ·rename_i t hx
    rw [hx]
    cases t with
    | true=>exact iha h
    | false=>exact ihb h
   ·exact h.elim
 | blk id c ih=>
   intro e σ Q h
   refine KW.2 (vU (ih h) fun o e s q=>?_)
   cases o with
   | normal=>rw [Out.vP];exact q
   | exit j=>
     rw [Out.AB]
     simp only at q
     cases hb:Nat.beq j id with
     | true=>rw [hb] at q;rw [if_pos (Nat.eq_of_beq_eq_true hb)];exact q
     | false=>rw [hb] at q;rw [if_neg (fun e=>by rw [e,Nat.beq_refl] at hb;cases hb)];exact q
   | ret=>rw [Out.DU];exact q
 | loop live c ih=>
   intro e σ Q h
   have h:=(wu _ _ _ h).ev
   rw [qG,yT] at h
   rw [G9,qG]
   exact h
 | cut live c ih=>
   intro e σ Q h
   exact KX.2 (ih (wu _ _ _ h))
theorem wz:∀{rs:List AR} {K:List AV→Prop},LD τ e σ rs K→opt (qw X.P e σ rs) K
 | [],K,h=>⟨_,rfl,h⟩
 | .t n :: rs,K,h=>by
   have h:=iG _ _ h
   split at h
   ·exact h.elim
   ·rename_i hn
    obtain⟨vs,hv,q⟩:=wz h
    refine⟨_,?_,q⟩
    simp only [qw,hv]
    have e1:Ai X.P e σ (.t n)=some (get e n):=by
        simp only [Ai]
    rw [e1]
 | .cell a t :: rs,K,h=>by
   obtain⟨v,hv,h⟩:=bD h
   have h:=iG _ _ h
   obtain⟨vs,hvs,q⟩:=wz h
   refine⟨_,?_,q⟩
   simp only [qw,hvs]
   have e1:Ai X.P e σ (.cell a t)=some v:=Ii fG hv
   rw [e1]
theorem ay.body {f:Nat} {F:AF} {args:List AV} {Q:AV→St→Prop} (hp:X.iE f=none)(hf:X.fns f=some F)(hl:args.length≤F.nt)(h:wF X τ lit F args σ Q):ay X f args σ Q:=by
 constructor
 rw [Xa hp hf hl]
 refine vU (Ws fG h) fun o e s q=>?_
 cases o with
 | exit j=>exact q.elim
 | normal=>
   obtain⟨vs,hv,q⟩:=wz fG q
   refine⟨rfl,?_⟩
   rw [dV]
   unfold tC
   rw [hv]
   match vs,q with
   | [],q=>exact⟨_,rfl,q.ev⟩
   | [v],q=>exact⟨_,rfl,q.ev⟩
   | v :: w :: vs,q=>exact⟨_,rfl,q.ev⟩
 | ret=>
   obtain⟨vs,hv,q⟩:=wz fG q
   refine⟨rfl,?_⟩
   rw [dV]
   unfold tC
   rw [hv]
   match vs,q with
   | [],q=>exact⟨_,rfl,q.ev⟩
   | [v],q=>exact⟨_,rfl,q.ev⟩
   | v :: w :: vs,q=>exact⟨_,rfl,q.ev⟩
theorem aW.round {live:List Nat} {c:AC} {Q:Out→Env→St→Prop}
 (h:Np live e fun e=>wC X τ lit c e σ fun o e σ=>match o with
  | .normal=>Np live e fun e=>aW X live c e σ Q
  | .exit j=>Q (.exit j) e σ
  | .ret=>Q .ret e σ):aW X live c e σ Q:=by
 constructor
 rw [qG]
 refine vU (Ws fG (wu _ _ _ h)) fun o e s q=>?_
 cases o with
 | normal=>
   rw [Out.qF]
   have h:=(wu _ _ _ q).ev
   rw [qG,yT] at h
   rw [qG]
   exact h
 | exit j=>rw [Out.xI];exact q
 | ret=>rw [Out.AA];exact q
end
theorem ay.of {X:Ctx} {f:Nat} {args:List AV} {σ:St} {Q:AV→St→Prop} (h:Aw X f args σ Q):ay X f args σ Q:=⟨h⟩
theorem ay.to {X:Ctx} {f:Nat} {args:List AV} {σ σ':St} {v:AV} {Q:AV→St→Prop} (h:ay X f args σ fun a s=>a=v∧s=σ')(q:Q v σ'):ay X f args σ Q:=⟨(Ua h.ev).2 q⟩
theorem ay.mono {X:Ctx} {f:Nat} {args:List AV} {σ:St} {Q Q':AV→St→Prop} (h:ay X f args σ Q)(q:∀v s,Q v s→Q' v s):ay X f args σ Q':=⟨AP h.ev q⟩
theorem aW.mono {X:Ctx} {live:List Nat} {c:AC} {e:Env} {σ:St} {Q Q':Out→Env→St→Prop} (h:aW X live c e σ Q)(q:∀o e s,Q o e s→Q' o e s):aW X live c e σ Q':=⟨Pj h.ev q⟩
end Go.bP
