/- Texts of this claim, joined: Abs21, Abs22, Tb, Abs23, Abs24, Abs25. -/
import Derived.Test.YthggaoedidfpcaaGreatDoorM05
import Derived.Test.YthggaoedidfpcaaGreatDoorProg
import Derived.KernelRfl
set_option linter.unusedVariables false
set_option linter.unusedSimpArgs false
namespace Go.dX
end Go.dX
namespace Go.dX
inductive BT where
 | nil
 | leaf (t:Nat) (T:AT)
 | node (m:Nat) (l r:BT)
def BT.get:BT→Nat→Option AT
 | .nil,_=>none
 | .leaf t T,n=>bif Nat.beq t n then some T else none
 | .node m l r,n=>bif Nat.blt n m then l.get n else r.get n
def BT.toList:BT→List (Nat×AT)
 | .nil=>[]
 | .leaf t T=>[(t,T)]
 | .node _ l r=>l.toList ++ r.toList
theorem BT.get_mem:∀(b:BT) (n:Nat) (T:AT),b.get n=some T→(n,T)∈b.toList
 | .nil,_,_,h=>by cases h
 | .leaf t T,n,T',h=>by
   simp only [BT.get] at h
   cases hb:Nat.beq t n with
   | true=>rw [hb] at h;cases h;rw [Nat.eq_of_beq_eq_true hb];exact List.mem_singleton.2 rfl
   | false=>rw [hb] at h;cases h
 | .node m l r,n,T,h=>by
   simp only [BT.get] at h
   cases hb:Nat.blt n m with
   | true=>rw [hb] at h;exact List.mem_append_left _ (BT.get_mem l n T h)
   | false=>rw [hb] at h;exact List.mem_append_right _ (BT.get_mem r n T h)
abbrev jc:=Nat→Option AT
def jc.Ok (τ:jc)(P:Program):Prop:=∀t T,τ t=some T→aH P t=some T
theorem BT.ok {b:BT} {P:Program} (h:b.toList.map (fun p=>aH P p.1)=b.toList.map (fun p=>some p.2)):jc.Ok b.get P:=by
 intro t T ht
 have hm:=BT.get_mem b t T ht
 have:=List.map_inj_left.1 h _ hm
 exact this
def xk (τ:jc)(t:Nat):Nat:=match τ t with | some T=>T.size | none=>0
theorem LP {P:Program} {t:Nat} {T:AT} (h:aH P t=some T):P.cellsOf t=T.size:=by
 unfold aH at h
 split at h
 ·rename_i i d hi _
  split at h
  ·cases h;simp [Program.cellsOf,hi]
  ·cases h
 ·cases h
section
variable {τ:jc} {P:Program} (bU:τ.Ok P)
include bU
theorem mG {t:Nat} (h:0<xk τ t):P.cellsOf t=xk τ t:=by
 unfold xk at h ⊢
 cases ht:τ t with
 | none=>rw [ht] at h;exact absurd h (Nat.lt_irrefl 0)
 | some T=>simp only;exact LP (bU t T ht)
end
def cB (t:Bool)(A B:Prop):Prop:=match t with | true=>A | false=>B
def om {α:Type} (o:Option α)(Q:α→Prop):Prop:=match o with | some a=>Q a | none=>False
theorem Ci {α:Type} {o:Option α} {Q:α→Prop} (h:om o Q):opt o Q:=by
 cases o with
 | none=>exact h.elim
 | some a=>exact⟨a,rfl,h⟩
mutual
def fq (v:AV)(Q:AV→Prop):Prop:=match v with
 | .u=>Q .u
 | .b t=>Q (.b t)
 | .i k n=>Q (.i k n)
 | .s x=>Q (.s x)
 | .p0=>Q .p0
 | .p o g off=>Q (.p o g off)
 | .sl0=>Q .sl0
 | .sl o g off n z=>Q (.sl o g off n z)
 | .fn f a c=>Q (.fn f a c)
 | .fn0=>Q .fn0
 | .ic t v=>Q (.ic t v)
 | .fK=>Q .fK
 | .ag cs=>NK cs fun cs=>Q (.ag cs)
 | .tu cs=>NK cs fun cs=>Q (.tu cs)
 | .kK=>Q .kK
 | .mp o g=>Q (.mp o g)
 | .cd c v=>Q (.cd c v)
def NK (l:List AV)(Q:List AV→Prop):Prop:=match l with
 | []=>Q []
 | v :: l=>fq v fun v=>NK l fun l=>Q (v :: l)
end
mutual
theorem Jp:∀(v:AV) (Q:AV→Prop),fq v Q→Q v:=by
 intro v Q h
 match v with
 | .u | .b _ | .i _ _ | .s _ | .p0 | .p _ _ _ | .sl0 | .sl _ _ _ _ _ | .fn _ _ _ | .fn0 | .ic _ _ | .fK | .kK | .mp _ _ | .cd _ _=>simpa only [fq] using h
 | .ag cs=>simp only [fq] at h;exact nU cs _ h
 | .tu cs=>simp only [fq] at h;exact nU cs _ h
theorem nU:∀(l:List AV) (Q:List AV→Prop),NK l Q→Q l:=by
 intro l Q h
 match l with
 | []=>simpa only [NK] using h
 | v :: l=>simp only [NK] at h;exact nU l _ (Jp v _ h)
end
def fc (v:AV)(Q:AV→Prop):Prop:=match v with
 | .b t=>cB t (Q (.b true)) (Q (.b false))
 | v=>fq v Q
theorem jg (v:AV)(Q:AV→Prop)(h:fc v Q):Q v:=by
 cases v with
 | b t=>cases t <;> exact h
 | _=>exact Jp _ _ h
def nums:List Nat:=[0,1,2,3,4,5,6,7,8,9,10,11,12,13,14,15,16,17,18,19,20,21,22,23,24,25,26,27,28,29,30,31,32,33,34,35,36,37,38,39,40,41,42,43,44,45,46,47,48,49,50,51,52,53,54,55,56,57,58,59,60,61,62,63]
def Uz {α:Type} :List α→List Nat→(Nat→Prop)→Prop
 | [],k :: _,Q=>Q k
 | _ :: l,_ :: ks,Q=>Uz l ks Q
 | _,[],_=>False
theorem Cj {α:Type} :∀(l:List α) (s m:Nat) (Q:Nat→Prop),Uz l (List.range' s m) Q→Q (s+l.length)
 | [],s,0,Q,h=>h.elim
 | [],s,m+1,Q,h=>h
 | _ :: l,s,0,Q,h=>h.elim
 | _ :: l,s,m+1,Q,h=>by
   have:=Cj l (s+1) m Q (by simpa only [List.range'_succ,Uz] using h)
   simpa [Nat.add_comm,Nat.add_left_comm,Nat.add_assoc] using this
def Jq (lit:Bool)(σ:St)(Q:Nat→Prop):Prop:=match lit with | true=>Uz σ nums Q | false=>Q σ.length
theorem qQ (lit:Bool)(σ:St)(Q:Nat→Prop)(h:Jq lit σ Q):Q σ.length:=by
 cases lit with
 | false=>exact h
 | true=>
   have e:nums=List.range' 0 64:=by decide
   have h':Uz σ nums Q:=h
   rw [e] at h'
   simpa using Cj σ 0 64 Q h'
def P9 (σ:St)(Q:St→Prop):Prop:=match σ with
 | []=>Q []
 | a :: r=>match a with
   | ⟨g,ro,k⟩=>match k with
     | .cells e cs=>P9 r fun r=>Q (⟨g,ro,.cells e cs⟩ :: r)
     | .iter s p=>P9 r fun r=>Q (⟨g,ro,.iter s p⟩ :: r)
     | .maps m=>P9 r fun r=>Q (⟨g,ro,.maps m⟩ :: r)
     | .dead=>P9 r fun r=>Q (⟨g,ro,.dead⟩ :: r)
     | .wo e l=>P9 r fun r=>Q (⟨g,ro,.wo e l⟩ :: r)
theorem yI:∀(σ:St) (Q:St→Prop),P9 σ Q→Q σ
 | [],Q,h=>by simpa only [P9] using h
 | ⟨g,ro,.cells e cs⟩ :: r,Q,h=>yI r _ (by simpa only [P9] using h)
 | ⟨g,ro,.iter s p⟩ :: r,Q,h=>yI r _ (by simpa only [P9] using h)
 | ⟨g,ro,.maps m⟩ :: r,Q,h=>yI r _ (by simpa only [P9] using h)
 | ⟨g,ro,.dead⟩ :: r,Q,h=>yI r _ (by simpa only [P9] using h)
 | ⟨g,ro,.wo e l⟩ :: r,Q,h=>yI r _ (by simpa only [P9] using h)
def LQ (lit:Bool)(σ:St)(Q:St→Prop):Prop:=match lit with | true=>P9 σ Q | false=>Q σ
theorem kS (lit:Bool)(σ:St)(Q:St→Prop)(h:LQ lit σ Q):Q σ:=by
 cases lit with
 | false=>exact h
 | true=>exact yI σ Q h
def LU (k:IntKind)(n:Int)(Q:AV→Prop):Prop:=∃r,k.wrap n=r∧Q (.i k r)
def ET (τ:jc)(eq:Nat→AV→AV→Option Bool):List (Nat×Nat×Bool)→List AV→List AV→Option Bool
 | [],_,_=>some true
 | f :: fs,xs,ys=>
   if f.2.2 then ET τ eq fs xs ys else
   match τ f.2.1 with
   | none=>none
   | some F=>
     match partOf F xs f.1,partOf F ys f.1 with
     | some x,some y=>match eq f.2.1 x y with
       | some b=>match fs with
         | []=>some b
         | fs=>match ET τ eq fs xs ys with
           | some c=>some (b && c)
           | none=>none
       | none=>none
     | _,_=>none
def eqT (τ:jc):Nat→Nat→AV→AV→Option Bool
 | 0,_,_,_=>none
 | d+1,t,x,y=>
   match τ t with
   | none=>none
   | some T=>
   match T.d,x,y with
   | .bool,.b p,.b q=>some (p == q)
   | .int _,.i k p,.i k' q=>if k=k' then some (decide (p=q)) else none
   | .str,.s p,.s q=>some (p == q)
   | .ptr _,.p0,.p0=>some true
   | .ptr _,.p0,.p _ _ _=>some false
   | .ptr _,.p _ _ _,.p0=>some false
   | .ptr e,.p o g off,.p o' g' off'=>if o=o'∧g=g'∧0<xk τ e then some (off == off') else none
   | .slice _,.sl0,.sl0=>some true
   | .slice _,.sl0,.sl _ _ _ _ _=>some false
   | .slice _,.sl _ _ _ _ _,.sl0=>some false
   | .fn,.fn0,.fn0=>some true
   | .fn,.fn0,.fn _ _ _=>some false
   | .fn,.fn _ _ _,.fn0=>some false
   | .map _ _,.kK,.kK=>some true
   | .map _ _,.kK,.mp _ _=>some false
   | .map _ _,.mp _ _,.kK=>some false
   | .rO _,.fK,.fK=>some true
   | .rO _,.fK,.ic _ _=>some false
   | .rO _,.ic _ _,.fK=>some false
   | .rO _,.ic t p,.ic t' q=>if t=t' then(match τ t with | some T=>if T.cmp then eqT τ d t p q else none | none=>none) else some false
   | .st fs,.ag xs,.ag ys=>if T.held then none else ET τ (eqT τ d) fs xs ys
   | _,_,_=>none
section
variable {τ:jc} {P:Program} (bU:τ.Ok P)
include bU
theorem Cm {eq eq':Nat→AV→AV→Option Bool} (he:∀t x y b,eq t x y=some b→eq' t x y=some b):∀(fs:List (Nat×Nat×Bool)) (xs ys:List AV) (b:Bool),ET τ eq fs xs ys=some b→wG P eq' fs xs ys=some b
 | [],_,_,b,h=>by simpa only [ET,wG] using h
 | f :: fs,xs,ys,b,h=>by
   unfold ET at h
   unfold wG
   split at h
   ·rename_i hf;rw [if_pos hf];exact Cm he fs xs ys b h
   ·rename_i hf;rw [if_neg hf]
    split at h
    ·cases h
    ·rename_i F hF
     rw [bU _ _ hF]
     split at h
     ·rename_i x y hx hy
      simp only [hx,hy]
      split at h
      ·rename_i b1 hb1
       rw [he _ _ _ _ hb1]
       split at h
       ·cases h;cases b <;> rfl
       ·split at h
        ·rename_i b2 hb2
         cases h
         cases b1 with
         | true=>simp only [Bool.true_and];exact Cm he _ xs ys b2 hb2
         | false=>rfl
        ·cases h
      ·cases h
     ·cases h
theorem GL:∀(d t:Nat) (x y:AV) (b:Bool),eqT τ d t x y=some b→uX P d t x y=some b
 | 0,_,_,_,b,h=>by cases h
 | d+1,t,x,y,b,h=>by
   unfold eqT at h
   split at h
   ·cases h
   ·rename_i T hT
    unfold uX
    rw [bU _ _ hT]
    simp only
    split at h <;> (rename_i hd;try simp only [hd])
    all_goals first
     | exact h
     | cases h
     | skip
    ·split at h
     ·rename_i hk
      obtain⟨h1,h2,h3⟩:=hk
      have h4:=h3
      rw [←mG bU h3] at h4
      rw [if_pos ⟨h1,h2,h4⟩];exact h
     ·cases h
    ·split at h
     ·rename_i ht
      rw [if_pos ht]
      split at h
      ·rename_i T' hT'
       split at h
       ·rename_i hc
        rw [bU _ _ hT',if_pos (by simpa using hc)]
        exact GL d _ _ _ b h
       ·cases h
      ·cases h
     ·rename_i ht;rw [if_neg ht];exact h
    ·split at h
     ·cases h
     ·rename_i hh
      try rw [hd]
      unfold MS
      simp only
      rw [if_neg hh];exact Cm bU (fun t x y b=>GL d t x y b) _ _ _ b h
end
end Go.dX
namespace Go.dX.YthggaoedidfpcaaGreatDoor
open Go.Proofs
def yT0:AT:=⟨.other,1,0,.u,false,false,false⟩
def yT1:AT:=⟨.fn,1,8,.fn0,false,false,false⟩
def yT2:AT:=⟨.int .i64,1,8,.i .i64 0,true,false,false⟩
def yT3:AT:=⟨.int .i64,1,8,.i .i64 0,true,false,false⟩
def yT4:AT:=⟨.bool,1,1,.b false,true,false,false⟩
def yT5:AT:=⟨.int .u8,1,1,.i .u8 0,true,false,false⟩
def yT6:AT:=⟨.int .u8,1,1,.i .u8 0,true,false,false⟩
def yT7:AT:=⟨.st [(0,2,false),(1,3,false),(2,4,false),(3,6,false)],4,24,.ag [.i .i64 0,.i .i64 0,.b false,.i .u8 0],true,false,false⟩
def yT8:AT:=⟨.st [(0,2,false),(1,3,false),(2,4,false),(3,6,false)],4,24,.ag [.i .i64 0,.i .i64 0,.b false,.i .u8 0],true,false,false⟩
def P_:AT:=⟨.str,1,16,.s [],true,false,false⟩
def yT10:AT:=⟨.str,1,16,.s [],true,false,false⟩
def yT11:AT:=⟨.str,1,16,.s [],true,false,false⟩
def yT12:AT:=⟨.int .u64,1,8,.i .u64 0,true,false,false⟩
def yT15:AT:=⟨.ptr 328,1,8,.p0,true,false,false⟩
def yT16:AT:=⟨.ptr 331,1,8,.p0,true,false,false⟩
def yT17:AT:=⟨.ptr 338,1,8,.p0,true,false,false⟩
def yT20:AT:=⟨.rO [],1,16,.fK,true,false,false⟩
def yT21:AT:=⟨.int .i32,1,4,.i .i32 0,true,false,false⟩
def yT22:AT:=⟨.slice 3,1,24,.sl0,false,false,false⟩
def yT23:AT:=⟨.rO [("Error",174)],1,16,.fK,true,false,true⟩
def yT24:AT:=⟨.rO [("Error",174)],1,16,.fK,true,false,true⟩
def yT25:AT:=⟨.other,1,0,.u,false,false,false⟩
def yT26:AT:=⟨.fn,1,8,.fn0,false,false,false⟩
def yT27:AT:=⟨.fn,1,8,.fn0,false,false,false⟩
def yT28:AT:=⟨.int .i64,1,8,.i .i64 0,true,false,false⟩
def yT29:AT:=⟨.slice 5,1,24,.sl0,false,false,false⟩
def yT30:AT:=⟨.slice 59,1,24,.sl0,false,false,false⟩
def yT31:AT:=⟨.slice 99,1,24,.sl0,false,false,false⟩
def yT32:AT:=⟨.st [(0,3,false),(1,3,false),(2,3,false),(3,30,false),(4,9,false),(5,31,false),(6,30,false)],7,112,.ag [.i .i64 0,.i .i64 0,.i .i64 0,.sl0,.s [],.sl0,.sl0],false,false,false⟩
def yT33:AT:=⟨.st [(0,3,false),(1,3,false),(2,3,false),(3,30,false),(4,9,false),(5,31,false),(6,30,false)],7,112,.ag [.i .i64 0,.i .i64 0,.i .i64 0,.sl0,.s [],.sl0,.sl0],false,false,false⟩
def yT34:AT:=⟨.other,1,0,.u,false,false,false⟩
def yT35:AT:=⟨.fn,1,8,.fn0,false,false,false⟩
def yT36:AT:=⟨.ptr 39,1,8,.p0,true,false,false⟩
def yT37:AT:=⟨.slice 110,1,24,.sl0,false,false,false⟩
def yT38:AT:=⟨.st [(0,37,false)],1,24,.ag [.sl0],false,false,false⟩
def yT39:AT:=⟨.st [(0,37,false)],1,24,.ag [.sl0],false,false,false⟩
def yT40:AT:=⟨.fn,1,8,.fn0,false,false,false⟩
def yT41:AT:=⟨.ptr 43,1,8,.p0,true,false,false⟩
def yT42:AT:=⟨.st [(0,9,false),(1,3,false),(2,36,false),(3,9,false)],4,48,.ag [.s [],.i .i64 0,.p0,.s []],true,false,false⟩
def yT43:AT:=⟨.st [(0,9,false),(1,3,false),(2,36,false),(3,9,false)],4,48,.ag [.s [],.i .i64 0,.p0,.s []],true,false,false⟩
def yT44:AT:=⟨.slice 48,1,24,.sl0,false,false,false⟩
def yT45:AT:=⟨.fn,1,8,.fn0,false,false,false⟩
def yT46:AT:=⟨.fn,1,8,.fn0,false,false,false⟩
def yT47:AT:=⟨.st [(0,46,false)],1,8,.ag [.fn0],false,false,false⟩
def yT48:AT:=⟨.st [(0,46,false)],1,8,.ag [.fn0],false,false,false⟩
def yT49:AT:=⟨.ptr 53,1,8,.p0,true,false,false⟩
def yT50:AT:=⟨.fn,1,8,.fn0,false,false,false⟩
def yT51:AT:=⟨.ptr 49,1,8,.p0,true,false,false⟩
def yT52:AT:=⟨.st [(0,28,false),(1,3,false)],2,16,.ag [.i .i64 0,.i .i64 0],true,false,false⟩
def yT53:AT:=⟨.st [(0,28,false),(1,3,false)],2,16,.ag [.i .i64 0,.i .i64 0],true,false,false⟩
def yT54:AT:=⟨.fn,1,8,.fn0,false,false,false⟩
def yT55:AT:=⟨.other,1,0,.u,false,false,false⟩
def yT56:AT:=⟨.fn,1,8,.fn0,false,false,false⟩
def yT57:AT:=⟨.other,1,0,.u,false,false,false⟩
def yT58:AT:=⟨.fn,1,8,.fn0,false,false,false⟩
def zW:AT:=⟨.int .u32,1,4,.i .u32 0,true,false,false⟩
def yT60:AT:=⟨.fn,1,8,.fn0,false,false,false⟩
def yT61:AT:=⟨.fn,1,8,.fn0,false,false,false⟩
def yT62:AT:=⟨.other,1,0,.u,false,false,false⟩
def yT63:AT:=⟨.fn,1,8,.fn0,false,false,false⟩
def yT64:AT:=⟨.fn,1,8,.fn0,false,false,false⟩
def yT65:AT:=⟨.other,1,0,.u,false,false,false⟩
def yT66:AT:=⟨.fn,1,8,.fn0,false,false,false⟩
def yT67:AT:=⟨.other,1,8,.p0,true,false,false⟩
def yT68:AT:=⟨.int .u64,1,8,.i .u64 0,true,false,false⟩
def yT71:AT:=⟨.fn,1,8,.fn0,false,false,false⟩
def yT72:AT:=⟨.rO [("AssignableTo",77),("Comparable",40),("Elem",74),("Implements",77),("Kind",76),("Name",174),("PkgPath",174),("Size",339),("String",174),("internal/reflectlite.common",332),("internal/reflectlite.uncommon",340)],1,16,.fK,true,false,true⟩
def yT73:AT:=⟨.rO [("AssignableTo",77),("Comparable",40),("Elem",74),("Implements",77),("Kind",76),("Name",174),("PkgPath",174),("Size",339),("String",174),("internal/reflectlite.common",332),("internal/reflectlite.uncommon",340)],1,16,.fK,true,false,true⟩
def yT74:AT:=⟨.fn,1,8,.fn0,false,false,false⟩
def yT75:AT:=⟨.int .u8,1,1,.i .u8 0,true,false,false⟩
def yT76:AT:=⟨.fn,1,8,.fn0,false,false,false⟩
def yT77:AT:=⟨.fn,1,8,.fn0,false,false,false⟩
def yT78:AT:=⟨.fn,1,8,.fn0,false,false,false⟩
def yT79:AT:=⟨.fn,1,8,.fn0,false,false,false⟩
def yT80:AT:=⟨.fn,1,8,.fn0,false,false,false⟩
def yT81:AT:=⟨.other,1,0,.u,false,false,false⟩
def yT82:AT:=⟨.fn,1,8,.fn0,false,false,false⟩
def yT83:AT:=⟨.st [(0,59,false),(1,59,false)],2,8,.ag [.i .u32 0,.i .u32 0],true,false,false⟩
def yT84:AT:=⟨.st [(0,59,false),(1,59,false)],2,8,.ag [.i .u32 0,.i .u32 0],true,false,false⟩
def yT85:AT:=⟨.st [(0,84,false),(2,84,false),(4,84,false),(6,84,false)],8,32,.ag [.i .u32 0,.i .u32 0,.i .u32 0,.i .u32 0,.i .u32 0,.i .u32 0,.i .u32 0,.i .u32 0],true,false,false⟩
def yT86:AT:=⟨.st [(0,84,false),(2,84,false),(4,84,false),(6,84,false)],8,32,.ag [.i .u32 0,.i .u32 0,.i .u32 0,.i .u32 0,.i .u32 0,.i .u32 0,.i .u32 0,.i .u32 0],true,false,false⟩
def yT87:AT:=⟨.other,1,0,.u,false,false,false⟩
def yT88:AT:=⟨.fn,1,8,.fn0,false,false,false⟩
def yT89:AT:=⟨.ptr 154,1,8,.p0,true,false,false⟩
def yT90:AT:=⟨.fn,1,8,.fn0,false,false,false⟩
def yT91:AT:=⟨.other,1,0,.u,false,false,false⟩
def yT92:AT:=⟨.fn,1,8,.fn0,false,false,false⟩
def yT93:AT:=⟨.fn,1,8,.fn0,false,false,false⟩
def yT94:AT:=⟨.fn,1,8,.fn0,false,false,false⟩
def yT95:AT:=⟨.other,1,0,.u,false,false,false⟩
def yT96:AT:=⟨.fn,1,8,.fn0,false,false,false⟩
def yT97:AT:=⟨.int .u16,1,2,.i .u16 0,true,false,false⟩
def yT98:AT:=⟨.st [(0,59,false),(1,4,false),(2,59,false),(3,59,false),(4,97,false),(5,97,false)],6,20,.ag [.i .u32 0,.b false,.i .u32 0,.i .u32 0,.i .u16 0,.i .u16 0],true,false,false⟩
def yT99:AT:=⟨.st [(0,59,false),(1,4,false),(2,59,false),(3,59,false),(4,97,false),(5,97,false)],6,20,.ag [.i .u32 0,.b false,.i .u32 0,.i .u32 0,.i .u16 0,.i .u16 0],true,false,false⟩
def yT100:AT:=⟨.fn,1,8,.fn0,false,false,false⟩
def yT101:AT:=⟨.slice 108,1,24,.sl0,false,false,false⟩
def yT102:AT:=⟨.other,1,0,.u,false,false,false⟩
def yT103:AT:=⟨.fn,1,8,.fn0,false,false,false⟩
def yT104:AT:=⟨.ptr 106,1,8,.p0,true,false,false⟩
def yT105:AT:=⟨.st [(0,101,false),(1,3,false),(2,49,false)],3,40,.ag [.sl0,.i .i64 0,.p0],false,false,false⟩
def yT106:AT:=⟨.st [(0,101,false),(1,3,false),(2,49,false)],3,40,.ag [.sl0,.i .i64 0,.p0],false,false,false⟩
def yT107:AT:=⟨.st [(0,3,false),(1,9,false),(2,3,false)],3,32,.ag [.i .i64 0,.s [],.i .i64 0],true,false,false⟩
def NM:AT:=⟨.st [(0,3,false),(1,9,false),(2,3,false)],3,32,.ag [.i .i64 0,.s [],.i .i64 0],true,false,false⟩
def yT109:AT:=⟨.fn,1,8,.fn0,false,false,false⟩
def yT110:AT:=⟨.ptr 172,1,8,.p0,true,false,false⟩
def yT111:AT:=⟨.fn,1,8,.fn0,false,false,false⟩
def yT112:AT:=⟨.other,1,0,.u,false,false,false⟩
def yT113:AT:=⟨.fn,1,8,.fn0,false,false,false⟩
def yT114:AT:=⟨.fn,1,8,.fn0,false,false,false⟩
def yT115:AT:=⟨.fn,1,8,.fn0,false,false,false⟩
def yT118:AT:=⟨.ptr 342,1,8,.p0,true,false,false⟩
def yT119:AT:=⟨.fn,1,8,.fn0,false,false,false⟩
def yT120:AT:=⟨.fn,1,8,.fn0,false,false,false⟩
def yT121:AT:=⟨.rO [("As",123)],1,16,.fK,true,false,true⟩
def yT122:AT:=⟨.other,1,0,.u,false,false,false⟩
def yT123:AT:=⟨.fn,1,8,.fn0,false,false,false⟩
def yT124:AT:=⟨.rO [("Unwrap",125)],1,16,.fK,true,false,true⟩
def yT125:AT:=⟨.fn,1,8,.fn0,false,false,false⟩
def yT126:AT:=⟨.rO [("Unwrap",128)],1,16,.fK,true,false,true⟩
def yT127:AT:=⟨.slice 24,1,24,.sl0,false,false,false⟩
def yT128:AT:=⟨.fn,1,8,.fn0,false,false,false⟩
def yT129:AT:=⟨.rO [("Is",131)],1,16,.fK,true,false,true⟩
def yT130:AT:=⟨.other,1,0,.u,false,false,false⟩
def yT131:AT:=⟨.fn,1,8,.fn0,false,false,false⟩
def yT132:AT:=⟨.other,1,0,.u,false,false,false⟩
def yT133:AT:=⟨.fn,1,8,.fn0,false,false,false⟩
def yT134:AT:=⟨.ptr 139,1,8,.p0,true,false,false⟩
def yT135:AT:=⟨.map 9 136,1,8,.kK,false,false,false⟩
def yT136:AT:=⟨.ptr 146,1,8,.p0,true,false,false⟩
def yT137:AT:=⟨.slice 1,1,24,.sl0,false,false,false⟩
def yT138:AT:=⟨.st [(0,30,false),(1,135,false),(2,3,false),(3,136,false),(4,137,false),(5,4,false)],6,80,.ag [.sl0,.kK,.i .i64 0,.p0,.sl0,.b false],false,false,false⟩
def yT139:AT:=⟨.st [(0,30,false),(1,135,false),(2,3,false),(3,136,false),(4,137,false),(5,4,false)],6,80,.ag [.sl0,.kK,.i .i64 0,.p0,.sl0,.b false],false,false,false⟩
def yT140:AT:=⟨.fn,1,8,.fn0,false,false,false⟩
def yT141:AT:=⟨.fn,1,8,.fn0,false,false,false⟩
def yT142:AT:=⟨.fn,1,8,.fn0,false,false,false⟩
def yT143:AT:=⟨.fn,1,8,.fn0,false,false,false⟩
def yT144:AT:=⟨.map 9 3,1,8,.kK,false,false,false⟩
def yT145:AT:=⟨.st [(0,3,false),(1,3,false),(2,144,false),(3,3,false),(4,3,false)],5,40,.ag [.i .i64 0,.i .i64 0,.kK,.i .i64 0,.i .i64 0],false,false,false⟩
def yT146:AT:=⟨.st [(0,3,false),(1,3,false),(2,144,false),(3,3,false),(4,3,false)],5,40,.ag [.i .i64 0,.i .i64 0,.kK,.i .i64 0,.i .i64 0],false,false,false⟩
def yT147:AT:=⟨.fn,1,8,.fn0,false,false,false⟩
def yT148:AT:=⟨.fn,1,8,.fn0,false,false,false⟩
def yT149:AT:=⟨.fn,1,8,.fn0,false,false,false⟩
def yT150:AT:=⟨.other,1,0,.u,false,false,false⟩
def yT151:AT:=⟨.fn,1,8,.fn0,false,false,false⟩
def yT152:AT:=⟨.fn,1,8,.fn0,false,false,false⟩
def yT153:AT:=⟨.st [(0,29,false)],1,24,.ag [.sl0],false,false,false⟩
def yT154:AT:=⟨.st [(0,29,false)],1,24,.ag [.sl0],false,false,false⟩
def yT155:AT:=⟨.fn,1,8,.fn0,false,false,false⟩
def yT156:AT:=⟨.fn,1,8,.fn0,false,false,false⟩
def yT157:AT:=⟨.fn,1,8,.fn0,false,false,false⟩
def yT158:AT:=⟨.fn,1,8,.fn0,false,false,false⟩
def NP:AT:=⟨.int .i64,1,8,.i .i64 0,true,false,false⟩
def yT160:AT:=⟨.fn,1,8,.fn0,false,false,false⟩
def yT161:AT:=⟨.fn,1,8,.fn0,false,false,false⟩
def yT162:AT:=⟨.fn,1,8,.fn0,false,false,false⟩
def yT163:AT:=⟨.slice 9,1,24,.sl0,false,false,false⟩
def yT164:AT:=⟨.fn,1,8,.fn0,false,false,false⟩
def yT165:AT:=⟨.int .u64,1,8,.i .u64 0,true,false,false⟩
def yT166:AT:=⟨.other,1,0,.u,false,false,false⟩
def yT167:AT:=⟨.fn,1,8,.fn0,false,false,false⟩
def yT168:AT:=⟨.fn,1,8,.fn0,false,false,false⟩
def yT169:AT:=⟨.slice 177,1,24,.sl0,false,false,false⟩
def yT170:AT:=⟨.slice 218,1,24,.sl0,false,false,false⟩
def yT171:AT:=⟨.st [(0,9,false),(1,169,false),(2,4,false),(3,170,false),(4,3,false)],5,80,.ag [.s [],.sl0,.b false,.sl0,.i .i64 0],false,false,false⟩
def yT172:AT:=⟨.st [(0,9,false),(1,169,false),(2,4,false),(3,170,false),(4,3,false)],5,80,.ag [.s [],.sl0,.b false,.sl0,.i .i64 0],false,false,false⟩
def yT173:AT:=⟨.fn,1,8,.fn0,false,false,false⟩
def yT174:AT:=⟨.fn,1,8,.fn0,false,false,false⟩
def yT175:AT:=⟨.fn,1,8,.fn0,false,false,false⟩
def yT176:AT:=⟨.st [(0,9,false),(1,4,false)],2,24,.ag [.s [],.b false],true,false,false⟩
def UA:AT:=⟨.st [(0,9,false),(1,4,false)],2,24,.ag [.s [],.b false],true,false,false⟩
def yT178:AT:=⟨.fn,1,8,.fn0,false,false,false⟩
def yT179:AT:=⟨.st [(0,53,false)],2,16,.ag [.i .i64 0,.i .i64 0],true,false,false⟩
def yT180:AT:=⟨.st [(0,53,false)],2,16,.ag [.i .i64 0,.i .i64 0],true,false,false⟩
def yT181:AT:=⟨.ptr 185,1,8,.p0,true,false,false⟩
def yT182:AT:=⟨.map 9 110,1,8,.kK,false,false,false⟩
def yT183:AT:=⟨.map 9 163,1,8,.kK,false,false,false⟩
def yT184:AT:=⟨.st [(0,182,false),(1,183,false),(2,3,false)],3,24,.ag [.kK,.kK,.i .i64 0],false,false,false⟩
def yT185:AT:=⟨.st [(0,182,false),(1,183,false),(2,3,false)],3,24,.ag [.kK,.kK,.i .i64 0],false,false,false⟩
def yT186:AT:=⟨.fn,1,8,.fn0,false,false,false⟩
def yT187:AT:=⟨.fn,1,8,.fn0,false,false,false⟩
def yT188:AT:=⟨.fn,1,8,.fn0,false,false,false⟩
def yT189:AT:=⟨.fn,1,8,.fn0,false,false,false⟩
def yT190:AT:=⟨.arr 4 5,4,4,.ag [.i .u8 0,.i .u8 0,.i .u8 0,.i .u8 0],true,false,false⟩
def yT191:AT:=⟨.fn,1,8,.fn0,false,false,false⟩
def yT192:AT:=⟨.fn,1,8,.fn0,false,false,false⟩
def yT193:AT:=⟨.st [(0,3,false),(1,3,false),(2,3,false),(3,3,false),(4,3,false)],5,40,.ag [.i .i64 0,.i .i64 0,.i .i64 0,.i .i64 0,.i .i64 0],true,false,false⟩
def jK:AT:=⟨.st [(0,3,false),(1,3,false),(2,3,false),(3,3,false),(4,3,false)],5,40,.ag [.i .i64 0,.i .i64 0,.i .i64 0,.i .i64 0,.i .i64 0],true,false,false⟩
def yT195:AT:=⟨.fn,1,8,.fn0,false,false,false⟩
def yT196:AT:=⟨.fn,1,8,.fn0,false,false,false⟩
def yT197:AT:=⟨.fn,1,8,.fn0,false,false,false⟩
def yT198:AT:=⟨.fn,1,8,.fn0,false,false,false⟩
def yT199:AT:=⟨.other,1,0,.u,false,false,false⟩
def yT200:AT:=⟨.fn,1,8,.fn0,false,false,false⟩
def yT201:AT:=⟨.slice 4,1,24,.sl0,false,false,false⟩
def yT202:AT:=⟨.fn,1,8,.fn0,false,false,false⟩
def yT203:AT:=⟨.fn,1,8,.fn0,false,false,false⟩
def yT204:AT:=⟨.fn,1,8,.fn0,false,false,false⟩
def yT205:AT:=⟨.other,1,0,.u,false,false,false⟩
def yT206:AT:=⟨.fn,1,8,.fn0,false,false,false⟩
def yT207:AT:=⟨.other,1,0,.u,false,false,false⟩
def yT208:AT:=⟨.fn,1,8,.fn0,false,false,false⟩
def yT209:AT:=⟨.int .u64,1,8,.i .u64 0,true,false,false⟩
def yT210:AT:=⟨.slice 159,1,24,.sl0,false,false,false⟩
def yT211:AT:=⟨.fn,1,8,.fn0,false,false,false⟩
def yT212:AT:=⟨.fn,1,8,.fn0,false,false,false⟩
def yT213:AT:=⟨.fn,1,8,.fn0,false,false,false⟩
def yT214:AT:=⟨.fn,1,8,.fn0,false,false,false⟩
def yT215:AT:=⟨.fn,1,8,.fn0,false,false,false⟩
def yT216:AT:=⟨.fn,1,8,.fn0,false,false,false⟩
def yT217:AT:=⟨.fn,1,8,.fn0,false,false,false⟩
def UC:AT:=⟨.ptr 233,1,8,.p0,true,false,false⟩
def yT219:AT:=⟨.fn,1,8,.fn0,false,false,false⟩
def yT220:AT:=⟨.other,1,0,.u,false,false,false⟩
def yT221:AT:=⟨.ptr 224,1,8,.p0,true,false,false⟩
def yT222:AT:=⟨.map 9 4,1,8,.kK,false,false,false⟩
def yT223:AT:=⟨.st [(0,181,false),(1,110,false),(2,222,false),(3,222,false)],4,32,.ag [.p0,.p0,.kK,.kK],false,false,false⟩
def yT224:AT:=⟨.st [(0,181,false),(1,110,false),(2,222,false),(3,222,false)],4,32,.ag [.p0,.p0,.kK,.kK],false,false,false⟩
def yT225:AT:=⟨.fn,1,8,.fn0,false,false,false⟩
def yT226:AT:=⟨.fn,1,8,.fn0,false,false,false⟩
def yT227:AT:=⟨.fn,1,8,.fn0,false,false,false⟩
def yT228:AT:=⟨.fn,1,8,.fn0,false,false,false⟩
def yT229:AT:=⟨.slice 194,1,24,.sl0,false,false,false⟩
def yT230:AT:=⟨.fn,1,8,.fn0,false,false,false⟩
def yT231:AT:=⟨.ptr 260,1,8,.p0,true,false,false⟩
def yT232:AT:=⟨.st [(0,3,false),(1,9,false),(2,4,false),(3,231,false),(4,231,false),(5,170,false),(6,170,false),(7,3,false)],8,104,.ag [.i .i64 0,.s [],.b false,.p0,.p0,.sl0,.sl0,.i .i64 0],false,false,false⟩
def yT233:AT:=⟨.st [(0,3,false),(1,9,false),(2,4,false),(3,231,false),(4,231,false),(5,170,false),(6,170,false),(7,3,false)],8,104,.ag [.i .i64 0,.s [],.b false,.p0,.p0,.sl0,.sl0,.i .i64 0],false,false,false⟩
def yT234:AT:=⟨.fn,1,8,.fn0,false,false,false⟩
def yT235:AT:=⟨.fn,1,8,.fn0,false,false,false⟩
def yT236:AT:=⟨.fn,1,8,.fn0,false,false,false⟩
def yT237:AT:=⟨.fn,1,8,.fn0,false,false,false⟩
def yT238:AT:=⟨.ptr 3,1,8,.p0,true,false,false⟩
def yT239:AT:=⟨.fn,1,8,.fn0,false,false,false⟩
def yT240:AT:=⟨.fn,1,8,.fn0,false,false,false⟩
def yT241:AT:=⟨.fn,1,8,.fn0,false,false,false⟩
def yT242:AT:=⟨.fn,1,8,.fn0,false,false,false⟩
def yT243:AT:=⟨.fn,1,8,.fn0,false,false,false⟩
def yT244:AT:=⟨.other,1,0,.u,false,false,false⟩
def yT245:AT:=⟨.fn,1,8,.fn0,false,false,false⟩
def yT246:AT:=⟨.fn,1,8,.fn0,false,false,false⟩
def yT247:AT:=⟨.arr 256 5,256,256,.ag [.i .u8 0,.i .u8 0,.i .u8 0,.i .u8 0,.i .u8 0,.i .u8 0,.i .u8 0,.i .u8 0,.i .u8 0,.i .u8 0,.i .u8 0,.i .u8 0,.i .u8 0,.i .u8 0,.i .u8 0,.i .u8 0,.i .u8 0,.i .u8 0,.i .u8 0,.i .u8 0,.i .u8 0,.i .u8 0,.i .u8 0,.i .u8 0,.i .u8 0,.i .u8 0,.i .u8 0,.i .u8 0,.i .u8 0,.i .u8 0,.i .u8 0,.i .u8 0,.i .u8 0,.i .u8 0,.i .u8 0,.i .u8 0,.i .u8 0,.i .u8 0,.i .u8 0,.i .u8 0,.i .u8 0,.i .u8 0,.i .u8 0,.i .u8 0,.i .u8 0,.i .u8 0,.i .u8 0,.i .u8 0,.i .u8 0,.i .u8 0,.i .u8 0,.i .u8 0,.i .u8 0,.i .u8 0,.i .u8 0,.i .u8 0,.i .u8 0,.i .u8 0,.i .u8 0,.i .u8 0,.i .u8 0,.i .u8 0,.i .u8 0,.i .u8 0,.i .u8 0,.i .u8 0,.i .u8 0,.i .u8 0,.i .u8 0,.i .u8 0,.i .u8 0,.i .u8 0,.i .u8 0,.i .u8 0,.i .u8 0,.i .u8 0,.i .u8 0,.i .u8 0,.i .u8 0,.i .u8 0,.i .u8 0,.i .u8 0,.i .u8 0,.i .u8 0,.i .u8 0,.i .u8 0,.i .u8 0,.i .u8 0,.i .u8 0,.i .u8 0,.i .u8 0,.i .u8 0,.i .u8 0,.i .u8 0,.i .u8 0,.i .u8 0,.i .u8 0,.i .u8 0,.i .u8 0,.i .u8 0,.i .u8 0,.i .u8 0,.i .u8 0,.i .u8 0,.i .u8 0,.i .u8 0,.i .u8 0,.i .u8 0,.i .u8 0,.i .u8 0,.i .u8 0,.i .u8 0,.i .u8 0,.i .u8 0,.i .u8 0,.i .u8 0,.i .u8 0,.i .u8 0,.i .u8 0,.i .u8 0,.i .u8 0,.i .u8 0,.i .u8 0,.i .u8 0,.i .u8 0,.i .u8 0,.i .u8 0,.i .u8 0,.i .u8 0,.i .u8 0,.i .u8 0,.i .u8 0,.i .u8 0,.i .u8 0,.i .u8 0,.i .u8 0,.i .u8 0,.i .u8 0,.i .u8 0,.i .u8 0,.i .u8 0,.i .u8 0,.i .u8 0,.i .u8 0,.i .u8 0,.i .u8 0,.i .u8 0,.i .u8 0,.i .u8 0,.i .u8 0,.i .u8 0,.i .u8 0,.i .u8 0,.i .u8 0,.i .u8 0,.i .u8 0,.i .u8 0,.i .u8 0,.i .u8 0,.i .u8 0,.i .u8 0,.i .u8 0,.i .u8 0,.i .u8 0,.i .u8 0,.i .u8 0,.i .u8 0,.i .u8 0,.i .u8 0,.i .u8 0,.i .u8 0,.i .u8 0,.i .u8 0,.i .u8 0,.i .u8 0,.i .u8 0,.i .u8 0,.i .u8 0,.i .u8 0,.i .u8 0,.i .u8 0,.i .u8 0,.i .u8 0,.i .u8 0,.i .u8 0,.i .u8 0,.i .u8 0,.i .u8 0,.i .u8 0,.i .u8 0,.i .u8 0,.i .u8 0,.i .u8 0,.i .u8 0,.i .u8 0,.i .u8 0,.i .u8 0,.i .u8 0,.i .u8 0,.i .u8 0,.i .u8 0,.i .u8 0,.i .u8 0,.i .u8 0,.i .u8 0,.i .u8 0,.i .u8 0,.i .u8 0,.i .u8 0,.i .u8 0,.i .u8 0,.i .u8 0,.i .u8 0,.i .u8 0,.i .u8 0,.i .u8 0,.i .u8 0,.i .u8 0,.i .u8 0,.i .u8 0,.i .u8 0,.i .u8 0,.i .u8 0,.i .u8 0,.i .u8 0,.i .u8 0,.i .u8 0,.i .u8 0,.i .u8 0,.i .u8 0,.i .u8 0,.i .u8 0,.i .u8 0,.i .u8 0,.i .u8 0,.i .u8 0,.i .u8 0,.i .u8 0,.i .u8 0,.i .u8 0,.i .u8 0,.i .u8 0,.i .u8 0,.i .u8 0,.i .u8 0,.i .u8 0,.i .u8 0,.i .u8 0,.i .u8 0,.i .u8 0,.i .u8 0,.i .u8 0,.i .u8 0,.i .u8 0,.i .u8 0,.i .u8 0],true,false,false⟩
def yT248:AT:=⟨.fn,1,8,.fn0,false,false,false⟩
def yT249:AT:=⟨.fn,1,8,.fn0,false,false,false⟩
def yT250:AT:=⟨.int .i64,1,8,.i .i64 0,true,false,false⟩
def yT251:AT:=⟨.fn,1,8,.fn0,false,false,false⟩
def yT252:AT:=⟨.ptr 275,1,8,.p0,true,false,false⟩
def yT253:AT:=⟨.fn,1,8,.fn0,false,false,false⟩
def yT254:AT:=⟨.fn,1,8,.fn0,false,false,false⟩
def yT255:AT:=⟨.fn,1,8,.fn0,false,false,false⟩
def yT256:AT:=⟨.fn,1,8,.fn0,false,false,false⟩
def yT257:AT:=⟨.fn,1,8,.fn0,false,false,false⟩
def yT258:AT:=⟨.slice 231,1,24,.sl0,false,false,false⟩
def yT259:AT:=⟨.st [(0,3,false),(1,59,false),(2,9,false),(3,9,false),(4,231,false),(5,231,false),(6,258,false),(7,3,false)],8,96,.ag [.i .i64 0,.i .u32 0,.s [],.s [],.p0,.p0,.sl0,.i .i64 0],false,false,false⟩
def yT260:AT:=⟨.st [(0,3,false),(1,59,false),(2,9,false),(3,9,false),(4,231,false),(5,231,false),(6,258,false),(7,3,false)],8,96,.ag [.i .i64 0,.i .u32 0,.s [],.s [],.p0,.p0,.sl0,.i .i64 0],false,false,false⟩
def yT261:AT:=⟨.fn,1,8,.fn0,false,false,false⟩
def yT262:AT:=⟨.fn,1,8,.fn0,false,false,false⟩
def yT263:AT:=⟨.fn,1,8,.fn0,false,false,false⟩
def yT264:AT:=⟨.fn,1,8,.fn0,false,false,false⟩
def yT265:AT:=⟨.st [(0,9,false),(1,9,false)],2,32,.ag [.s [],.s []],true,false,false⟩
def yT266:AT:=⟨.st [(0,9,false),(1,9,false)],2,32,.ag [.s [],.s []],true,false,false⟩
def yT267:AT:=⟨.fn,1,8,.fn0,false,false,false⟩
def yT268:AT:=⟨.slice 270,1,24,.sl0,false,false,false⟩
def yT269:AT:=⟨.st [(0,3,false),(1,3,false)],2,16,.ag [.i .i64 0,.i .i64 0],true,false,false⟩
def NQ:AT:=⟨.st [(0,3,false),(1,3,false)],2,16,.ag [.i .i64 0,.i .i64 0],true,false,false⟩
def yT271:AT:=⟨.fn,1,8,.fn0,false,false,false⟩
def yT272:AT:=⟨.ptr 288,1,8,.p0,true,false,false⟩
def yT273:AT:=⟨.fn,1,8,.fn0,false,false,false⟩
def yT274:AT:=⟨.st [(0,9,false),(1,9,false),(2,24,false)],3,48,.ag [.s [],.s [],.fK],true,false,true⟩
def yT275:AT:=⟨.st [(0,9,false),(1,9,false),(2,24,false)],3,48,.ag [.s [],.s [],.fK],true,false,true⟩
def yT276:AT:=⟨.fn,1,8,.fn0,false,false,false⟩
def yT277:AT:=⟨.fn,1,8,.fn0,false,false,false⟩
def yT278:AT:=⟨.fn,1,8,.fn0,false,false,false⟩
def yT279:AT:=⟨.fn,1,8,.fn0,false,false,false⟩
def yT280:AT:=⟨.fn,1,8,.fn0,false,false,false⟩
def yT281:AT:=⟨.fn,1,8,.fn0,false,false,false⟩
def yT282:AT:=⟨.fn,1,8,.fn0,false,false,false⟩
def yT283:AT:=⟨.other,1,0,.u,false,false,false⟩
def yT284:AT:=⟨.arr 54 266,108,1728,.ag [.s [],.s [],.s [],.s [],.s [],.s [],.s [],.s [],.s [],.s [],.s [],.s [],.s [],.s [],.s [],.s [],.s [],.s [],.s [],.s [],.s [],.s [],.s [],.s [],.s [],.s [],.s [],.s [],.s [],.s [],.s [],.s [],.s [],.s [],.s [],.s [],.s [],.s [],.s [],.s [],.s [],.s [],.s [],.s [],.s [],.s [],.s [],.s [],.s [],.s [],.s [],.s [],.s [],.s [],.s [],.s [],.s [],.s [],.s [],.s [],.s [],.s [],.s [],.s [],.s [],.s [],.s [],.s [],.s [],.s [],.s [],.s [],.s [],.s [],.s [],.s [],.s [],.s [],.s [],.s [],.s [],.s [],.s [],.s [],.s [],.s [],.s [],.s [],.s [],.s [],.s [],.s [],.s [],.s [],.s [],.s [],.s [],.s [],.s [],.s [],.s [],.s [],.s [],.s [],.s [],.s [],.s [],.s []],true,false,false⟩
def yT285:AT:=⟨.slice 290,1,24,.sl0,false,false,false⟩
def yT286:AT:=⟨.slice 293,1,24,.sl0,false,false,false⟩
def yT287:AT:=⟨.st [(0,285,false),(1,286,false),(2,3,false)],3,56,.ag [.sl0,.sl0,.i .i64 0],false,false,false⟩
def yT288:AT:=⟨.st [(0,285,false),(1,286,false),(2,3,false)],3,56,.ag [.sl0,.sl0,.i .i64 0],false,false,false⟩
def yT289:AT:=⟨.st [(0,97,false),(1,97,false),(2,97,false)],3,6,.ag [.i .u16 0,.i .u16 0,.i .u16 0],true,false,false⟩
def yT290:AT:=⟨.st [(0,97,false),(1,97,false),(2,97,false)],3,6,.ag [.i .u16 0,.i .u16 0,.i .u16 0],true,false,false⟩
def yT291:AT:=⟨.fn,1,8,.fn0,false,false,false⟩
def yT292:AT:=⟨.st [(0,59,false),(1,59,false),(2,59,false)],3,12,.ag [.i .u32 0,.i .u32 0,.i .u32 0],true,false,false⟩
def yT293:AT:=⟨.st [(0,59,false),(1,59,false),(2,59,false)],3,12,.ag [.i .u32 0,.i .u32 0,.i .u32 0],true,false,false⟩
def yT294:AT:=⟨.fn,1,8,.fn0,false,false,false⟩
def yT295:AT:=⟨.ptr 5,1,8,.p0,true,false,false⟩
def yT296:AT:=⟨.ptr 298,1,8,.p0,true,false,false⟩
def yT297:AT:=⟨.st [(0,9,false)],1,16,.ag [.s []],true,false,false⟩
def yT298:AT:=⟨.st [(0,9,false)],1,16,.ag [.s []],true,false,false⟩
def yT299:AT:=⟨.other,1,0,.u,false,false,false⟩
def yT300:AT:=⟨.fn,1,8,.fn0,false,false,false⟩
def yT301:AT:=⟨.fn,1,8,.fn0,false,false,false⟩
def yT302:AT:=⟨.fn,1,8,.fn0,false,false,false⟩
def yT303:AT:=⟨.ptr 290,1,8,.p0,true,false,false⟩
def yT304:AT:=⟨.ptr 293,1,8,.p0,true,false,false⟩
def yT305:AT:=⟨.fn,1,8,.fn0,false,false,false⟩
def yT306:AT:=⟨.arr 24 5,24,24,.ag [.i .u8 0,.i .u8 0,.i .u8 0,.i .u8 0,.i .u8 0,.i .u8 0,.i .u8 0,.i .u8 0,.i .u8 0,.i .u8 0,.i .u8 0,.i .u8 0,.i .u8 0,.i .u8 0,.i .u8 0,.i .u8 0,.i .u8 0,.i .u8 0,.i .u8 0,.i .u8 0,.i .u8 0,.i .u8 0,.i .u8 0,.i .u8 0],true,false,false⟩
def yT307:AT:=⟨.fn,1,8,.fn0,false,false,false⟩
def yT308:AT:=⟨.fn,1,8,.fn0,false,false,false⟩
def yT309:AT:=⟨.other,1,0,.u,false,false,false⟩
def yT310:AT:=⟨.fn,1,8,.fn0,false,false,false⟩
def yT311:AT:=⟨.fn,1,8,.fn0,false,false,false⟩
def yT312:AT:=⟨.arr 20 165,20,160,.ag [.i .u64 0,.i .u64 0,.i .u64 0,.i .u64 0,.i .u64 0,.i .u64 0,.i .u64 0,.i .u64 0,.i .u64 0,.i .u64 0,.i .u64 0,.i .u64 0,.i .u64 0,.i .u64 0,.i .u64 0,.i .u64 0,.i .u64 0,.i .u64 0,.i .u64 0,.i .u64 0],true,false,false⟩
def yT313:AT:=⟨.arr 65 5,65,65,.ag [.i .u8 0,.i .u8 0,.i .u8 0,.i .u8 0,.i .u8 0,.i .u8 0,.i .u8 0,.i .u8 0,.i .u8 0,.i .u8 0,.i .u8 0,.i .u8 0,.i .u8 0,.i .u8 0,.i .u8 0,.i .u8 0,.i .u8 0,.i .u8 0,.i .u8 0,.i .u8 0,.i .u8 0,.i .u8 0,.i .u8 0,.i .u8 0,.i .u8 0,.i .u8 0,.i .u8 0,.i .u8 0,.i .u8 0,.i .u8 0,.i .u8 0,.i .u8 0,.i .u8 0,.i .u8 0,.i .u8 0,.i .u8 0,.i .u8 0,.i .u8 0,.i .u8 0,.i .u8 0,.i .u8 0,.i .u8 0,.i .u8 0,.i .u8 0,.i .u8 0,.i .u8 0,.i .u8 0,.i .u8 0,.i .u8 0,.i .u8 0,.i .u8 0,.i .u8 0,.i .u8 0,.i .u8 0,.i .u8 0,.i .u8 0,.i .u8 0,.i .u8 0,.i .u8 0,.i .u8 0,.i .u8 0,.i .u8 0,.i .u8 0,.i .u8 0,.i .u8 0],true,false,false⟩
def yT314:AT:=⟨.fn,1,8,.fn0,false,false,false⟩
def yT315:AT:=⟨.fn,1,8,.fn0,false,false,false⟩
def yT316:AT:=⟨.fn,1,8,.fn0,false,false,false⟩
def yT317:AT:=⟨.fn,1,8,.fn0,false,false,false⟩
def yT318:AT:=⟨.arr 256 4,256,256,.ag [.b false,.b false,.b false,.b false,.b false,.b false,.b false,.b false,.b false,.b false,.b false,.b false,.b false,.b false,.b false,.b false,.b false,.b false,.b false,.b false,.b false,.b false,.b false,.b false,.b false,.b false,.b false,.b false,.b false,.b false,.b false,.b false,.b false,.b false,.b false,.b false,.b false,.b false,.b false,.b false,.b false,.b false,.b false,.b false,.b false,.b false,.b false,.b false,.b false,.b false,.b false,.b false,.b false,.b false,.b false,.b false,.b false,.b false,.b false,.b false,.b false,.b false,.b false,.b false,.b false,.b false,.b false,.b false,.b false,.b false,.b false,.b false,.b false,.b false,.b false,.b false,.b false,.b false,.b false,.b false,.b false,.b false,.b false,.b false,.b false,.b false,.b false,.b false,.b false,.b false,.b false,.b false,.b false,.b false,.b false,.b false,.b false,.b false,.b false,.b false,.b false,.b false,.b false,.b false,.b false,.b false,.b false,.b false,.b false,.b false,.b false,.b false,.b false,.b false,.b false,.b false,.b false,.b false,.b false,.b false,.b false,.b false,.b false,.b false,.b false,.b false,.b false,.b false,.b false,.b false,.b false,.b false,.b false,.b false,.b false,.b false,.b false,.b false,.b false,.b false,.b false,.b false,.b false,.b false,.b false,.b false,.b false,.b false,.b false,.b false,.b false,.b false,.b false,.b false,.b false,.b false,.b false,.b false,.b false,.b false,.b false,.b false,.b false,.b false,.b false,.b false,.b false,.b false,.b false,.b false,.b false,.b false,.b false,.b false,.b false,.b false,.b false,.b false,.b false,.b false,.b false,.b false,.b false,.b false,.b false,.b false,.b false,.b false,.b false,.b false,.b false,.b false,.b false,.b false,.b false,.b false,.b false,.b false,.b false,.b false,.b false,.b false,.b false,.b false,.b false,.b false,.b false,.b false,.b false,.b false,.b false,.b false,.b false,.b false,.b false,.b false,.b false,.b false,.b false,.b false,.b false,.b false,.b false,.b false,.b false,.b false,.b false,.b false,.b false,.b false,.b false,.b false,.b false,.b false,.b false,.b false,.b false,.b false,.b false,.b false,.b false,.b false,.b false,.b false,.b false,.b false,.b false,.b false,.b false,.b false,.b false,.b false,.b false,.b false,.b false,.b false],true,false,false⟩
def yT319:AT:=⟨.arr 256 4,256,256,.ag [.b false,.b false,.b false,.b false,.b false,.b false,.b false,.b false,.b false,.b false,.b false,.b false,.b false,.b false,.b false,.b false,.b false,.b false,.b false,.b false,.b false,.b false,.b false,.b false,.b false,.b false,.b false,.b false,.b false,.b false,.b false,.b false,.b false,.b false,.b false,.b false,.b false,.b false,.b false,.b false,.b false,.b false,.b false,.b false,.b false,.b false,.b false,.b false,.b false,.b false,.b false,.b false,.b false,.b false,.b false,.b false,.b false,.b false,.b false,.b false,.b false,.b false,.b false,.b false,.b false,.b false,.b false,.b false,.b false,.b false,.b false,.b false,.b false,.b false,.b false,.b false,.b false,.b false,.b false,.b false,.b false,.b false,.b false,.b false,.b false,.b false,.b false,.b false,.b false,.b false,.b false,.b false,.b false,.b false,.b false,.b false,.b false,.b false,.b false,.b false,.b false,.b false,.b false,.b false,.b false,.b false,.b false,.b false,.b false,.b false,.b false,.b false,.b false,.b false,.b false,.b false,.b false,.b false,.b false,.b false,.b false,.b false,.b false,.b false,.b false,.b false,.b false,.b false,.b false,.b false,.b false,.b false,.b false,.b false,.b false,.b false,.b false,.b false,.b false,.b false,.b false,.b false,.b false,.b false,.b false,.b false,.b false,.b false,.b false,.b false,.b false,.b false,.b false,.b false,.b false,.b false,.b false,.b false,.b false,.b false,.b false,.b false,.b false,.b false,.b false,.b false,.b false,.b false,.b false,.b false,.b false,.b false,.b false,.b false,.b false,.b false,.b false,.b false,.b false,.b false,.b false,.b false,.b false,.b false,.b false,.b false,.b false,.b false,.b false,.b false,.b false,.b false,.b false,.b false,.b false,.b false,.b false,.b false,.b false,.b false,.b false,.b false,.b false,.b false,.b false,.b false,.b false,.b false,.b false,.b false,.b false,.b false,.b false,.b false,.b false,.b false,.b false,.b false,.b false,.b false,.b false,.b false,.b false,.b false,.b false,.b false,.b false,.b false,.b false,.b false,.b false,.b false,.b false,.b false,.b false,.b false,.b false,.b false,.b false,.b false,.b false,.b false,.b false,.b false,.b false,.b false,.b false,.b false,.b false,.b false,.b false,.b false,.b false,.b false,.b false,.b false],true,false,false⟩
def yT320:AT:=⟨.other,1,0,.u,false,false,false⟩
def yT321:AT:=⟨.fn,1,8,.fn0,false,false,false⟩
def yT322:AT:=⟨.fn,1,8,.fn0,false,false,false⟩
def yT323:AT:=⟨.arr 32 5,32,32,.ag [.i .u8 0,.i .u8 0,.i .u8 0,.i .u8 0,.i .u8 0,.i .u8 0,.i .u8 0,.i .u8 0,.i .u8 0,.i .u8 0,.i .u8 0,.i .u8 0,.i .u8 0,.i .u8 0,.i .u8 0,.i .u8 0,.i .u8 0,.i .u8 0,.i .u8 0,.i .u8 0,.i .u8 0,.i .u8 0,.i .u8 0,.i .u8 0,.i .u8 0,.i .u8 0,.i .u8 0,.i .u8 0,.i .u8 0,.i .u8 0,.i .u8 0,.i .u8 0],true,false,false⟩
def yT324:AT:=⟨.arr 64 5,64,64,.ag [.i .u8 0,.i .u8 0,.i .u8 0,.i .u8 0,.i .u8 0,.i .u8 0,.i .u8 0,.i .u8 0,.i .u8 0,.i .u8 0,.i .u8 0,.i .u8 0,.i .u8 0,.i .u8 0,.i .u8 0,.i .u8 0,.i .u8 0,.i .u8 0,.i .u8 0,.i .u8 0,.i .u8 0,.i .u8 0,.i .u8 0,.i .u8 0,.i .u8 0,.i .u8 0,.i .u8 0,.i .u8 0,.i .u8 0,.i .u8 0,.i .u8 0,.i .u8 0,.i .u8 0,.i .u8 0,.i .u8 0,.i .u8 0,.i .u8 0,.i .u8 0,.i .u8 0,.i .u8 0,.i .u8 0,.i .u8 0,.i .u8 0,.i .u8 0,.i .u8 0,.i .u8 0,.i .u8 0,.i .u8 0,.i .u8 0,.i .u8 0,.i .u8 0,.i .u8 0,.i .u8 0,.i .u8 0,.i .u8 0,.i .u8 0,.i .u8 0,.i .u8 0,.i .u8 0,.i .u8 0,.i .u8 0,.i .u8 0,.i .u8 0,.i .u8 0],true,false,false⟩
def yT325:AT:=⟨.ptr 319,1,8,.p0,true,false,false⟩
def yT326:AT:=⟨.fn,1,8,.fn0,false,false,false⟩
def yT329:AT:=⟨.arr 0 16,0,0,.ag [],true,false,false⟩
def yT332:AT:=⟨.fn,1,8,.fn0,false,false,false⟩
def yT333:AT:=⟨.int .u8,1,1,.i .u8 0,true,false,false⟩
def yT334:AT:=⟨.fn,1,8,.fn0,false,false,false⟩
def yT335:AT:=⟨.int .i32,1,4,.i .i32 0,true,false,false⟩
def yT336:AT:=⟨.int .i32,1,4,.i .i32 0,true,false,false⟩
def yT339:AT:=⟨.fn,1,8,.fn0,false,false,false⟩
def yT340:AT:=⟨.fn,1,8,.fn0,false,false,false⟩
def yT343:AT:=⟨.ptr 346,1,8,.p0,true,false,false⟩
def yT344:AT:=⟨.fn,1,8,.fn0,false,false,false⟩
def yT347:AT:=⟨.slice 350,1,24,.sl0,false,false,false⟩
def yT348:AT:=⟨.int .i32,1,4,.i .i32 0,true,false,false⟩
def yT351:AT:=⟨.ptr 24,1,8,.p0,true,false,false⟩
def aJ:BT:=(.node 174 (.node 89 (.node 45 (.node 24 (.node 10 (.node 5 (.node 2 (.node 1 (.leaf 0 yT0) (.leaf 1 yT1)) (.node 3 (.leaf 2 yT2) (.node 4 (.leaf 3 yT3) (.leaf 4 yT4)))) (.node 7 (.node 6 (.leaf 5 yT5) (.leaf 6 yT6)) (.node 8 (.leaf 7 yT7) (.node 9 (.leaf 8 yT8) (.leaf 9 P_))))) (.node 17 (.node 12 (.node 11 (.leaf 10 yT10) (.leaf 11 yT11)) (.node 15 (.leaf 12 yT12) (.node 16 (.leaf 15 yT15) (.leaf 16 yT16)))) (.node 21 (.node 20 (.leaf 17 yT17) (.leaf 20 yT20)) (.node 22 (.leaf 21 yT21) (.node 23 (.leaf 22 yT22) (.leaf 23 yT23)))))) (.node 34 (.node 29 (.node 26 (.node 25 (.leaf 24 yT24) (.leaf 25 yT25)) (.node 27 (.leaf 26 yT26) (.node 28 (.leaf 27 yT27) (.leaf 28 yT28)))) (.node 31 (.node 30 (.leaf 29 yT29) (.leaf 30 yT30)) (.node 32 (.leaf 31 yT31) (.node 33 (.leaf 32 yT32) (.leaf 33 yT33))))) (.node 39 (.node 36 (.node 35 (.leaf 34 yT34) (.leaf 35 yT35)) (.node 37 (.leaf 36 yT36) (.node 38 (.leaf 37 yT37) (.leaf 38 yT38)))) (.node 42 (.node 40 (.leaf 39 yT39) (.node 41 (.leaf 40 yT40) (.leaf 41 yT41))) (.node 43 (.leaf 42 yT42) (.node 44 (.leaf 43 yT43) (.leaf 44 yT44))))))) (.node 66 (.node 55 (.node 50 (.node 47 (.node 46 (.leaf 45 yT45) (.leaf 46 yT46)) (.node 48 (.leaf 47 yT47) (.node 49 (.leaf 48 yT48) (.leaf 49 yT49)))) (.node 52 (.node 51 (.leaf 50 yT50) (.leaf 51 yT51)) (.node 53 (.leaf 52 yT52) (.node 54 (.leaf 53 yT53) (.leaf 54 yT54))))) (.node 60 (.node 57 (.node 56 (.leaf 55 yT55) (.leaf 56 yT56)) (.node 58 (.leaf 57 yT57) (.node 59 (.leaf 58 yT58) (.leaf 59 zW)))) (.node 63 (.node 61 (.leaf 60 yT60) (.node 62 (.leaf 61 yT61) (.leaf 62 yT62))) (.node 64 (.leaf 63 yT63) (.node 65 (.leaf 64 yT64) (.leaf 65 yT65)))))) (.node 78 (.node 73 (.node 68 (.node 67 (.leaf 66 yT66) (.leaf 67 yT67)) (.node 71 (.leaf 68 yT68) (.node 72 (.leaf 71 yT71) (.leaf 72 yT72)))) (.node 75 (.node 74 (.leaf 73 yT73) (.leaf 74 yT74)) (.node 76 (.leaf 75 yT75) (.node 77 (.leaf 76 yT76) (.leaf 77 yT77))))) (.node 83 (.node 80 (.node 79 (.leaf 78 yT78) (.leaf 79 yT79)) (.node 81 (.leaf 80 yT80) (.node 82 (.leaf 81 yT81) (.leaf 82 yT82)))) (.node 86 (.node 84 (.leaf 83 yT83) (.node 85 (.leaf 84 yT84) (.leaf 85 yT85))) (.node 87 (.leaf 86 yT86) (.node 88 (.leaf 87 yT87) (.leaf 88 yT88)))))))) (.node 132 (.node 109 (.node 99 (.node 94 (.node 91 (.node 90 (.leaf 89 yT89) (.leaf 90 yT90)) (.node 92 (.leaf 91 yT91) (.node 93 (.leaf 92 yT92) (.leaf 93 yT93)))) (.node 96 (.node 95 (.leaf 94 yT94) (.leaf 95 yT95)) (.node 97 (.leaf 96 yT96) (.node 98 (.leaf 97 yT97) (.leaf 98 yT98))))) (.node 104 (.node 101 (.node 100 (.leaf 99 yT99) (.leaf 100 yT100)) (.node 102 (.leaf 101 yT101) (.node 103 (.leaf 102 yT102) (.leaf 103 yT103)))) (.node 106 (.node 105 (.leaf 104 yT104) (.leaf 105 yT105)) (.node 107 (.leaf 106 yT106) (.node 108 (.leaf 107 yT107) (.leaf 108 NM)))))) (.node 121 (.node 114 (.node 111 (.node 110 (.leaf 109 yT109) (.leaf 110 yT110)) (.node 112 (.leaf 111 yT111) (.node 113 (.leaf 112 yT112) (.leaf 113 yT113)))) (.node 118 (.node 115 (.leaf 114 yT114) (.leaf 115 yT115)) (.node 119 (.leaf 118 yT118) (.node 120 (.leaf 119 yT119) (.leaf 120 yT120))))) (.node 126 (.node 123 (.node 122 (.leaf 121 yT121) (.leaf 122 yT122)) (.node 124 (.leaf 123 yT123) (.node 125 (.leaf 124 yT124) (.leaf 125 yT125)))) (.node 129 (.node 127 (.leaf 126 yT126) (.node 128 (.leaf 127 yT127) (.leaf 128 yT128))) (.node 130 (.leaf 129 yT129) (.node 131 (.leaf 130 yT130) (.leaf 131 yT131))))))) (.node 153 (.node 142 (.node 137 (.node 134 (.node 133 (.leaf 132 yT132) (.leaf 133 yT133)) (.node 135 (.leaf 134 yT134) (.node 136 (.leaf 135 yT135) (.leaf 136 yT136)))) (.node 139 (.node 138 (.leaf 137 yT137) (.leaf 138 yT138)) (.node 140 (.leaf 139 yT139) (.node 141 (.leaf 140 yT140) (.leaf 141 yT141))))) (.node 147 (.node 144 (.node 143 (.leaf 142 yT142) (.leaf 143 yT143)) (.node 145 (.leaf 144 yT144) (.node 146 (.leaf 145 yT145) (.leaf 146 yT146)))) (.node 150 (.node 148 (.leaf 147 yT147) (.node 149 (.leaf 148 yT148) (.leaf 149 yT149))) (.node 151 (.leaf 150 yT150) (.node 152 (.leaf 151 yT151) (.leaf 152 yT152)))))) (.node 163 (.node 158 (.node 155 (.node 154 (.leaf 153 yT153) (.leaf 154 yT154)) (.node 156 (.leaf 155 yT155) (.node 157 (.leaf 156 yT156) (.leaf 157 yT157)))) (.node 160 (.node 159 (.leaf 158 yT158) (.leaf 159 NP)) (.node 161 (.leaf 160 yT160) (.node 162 (.leaf 161 yT161) (.leaf 162 yT162))))) (.node 168 (.node 165 (.node 164 (.leaf 163 yT163) (.leaf 164 yT164)) (.node 166 (.leaf 165 yT165) (.node 167 (.leaf 166 yT166) (.leaf 167 yT167)))) (.node 171 (.node 169 (.leaf 168 yT168) (.node 170 (.leaf 169 yT169) (.leaf 170 yT170))) (.node 172 (.leaf 171 yT171) (.node 173 (.leaf 172 yT172) (.leaf 173 yT173))))))))) (.node 257 (.node 215 (.node 194 (.node 184 (.node 179 (.node 176 (.node 175 (.leaf 174 yT174) (.leaf 175 yT175)) (.node 177 (.leaf 176 yT176) (.node 178 (.leaf 177 UA) (.leaf 178 yT178)))) (.node 181 (.node 180 (.leaf 179 yT179) (.leaf 180 yT180)) (.node 182 (.leaf 181 yT181) (.node 183 (.leaf 182 yT182) (.leaf 183 yT183))))) (.node 189 (.node 186 (.node 185 (.leaf 184 yT184) (.leaf 185 yT185)) (.node 187 (.leaf 186 yT186) (.node 188 (.leaf 187 yT187) (.leaf 188 yT188)))) (.node 191 (.node 190 (.leaf 189 yT189) (.leaf 190 yT190)) (.node 192 (.leaf 191 yT191) (.node 193 (.leaf 192 yT192) (.leaf 193 yT193)))))) (.node 204 (.node 199 (.node 196 (.node 195 (.leaf 194 jK) (.leaf 195 yT195)) (.node 197 (.leaf 196 yT196) (.node 198 (.leaf 197 yT197) (.leaf 198 yT198)))) (.node 201 (.node 200 (.leaf 199 yT199) (.leaf 200 yT200)) (.node 202 (.leaf 201 yT201) (.node 203 (.leaf 202 yT202) (.leaf 203 yT203))))) (.node 209 (.node 206 (.node 205 (.leaf 204 yT204) (.leaf 205 yT205)) (.node 207 (.leaf 206 yT206) (.node 208 (.leaf 207 yT207) (.leaf 208 yT208)))) (.node 212 (.node 210 (.leaf 209 yT209) (.node 211 (.leaf 210 yT210) (.leaf 211 yT211))) (.node 213 (.leaf 212 yT212) (.node 214 (.leaf 213 yT213) (.leaf 214 yT214))))))) (.node 236 (.node 225 (.node 220 (.node 217 (.node 216 (.leaf 215 yT215) (.leaf 216 yT216)) (.node 218 (.leaf 217 yT217) (.node 219 (.leaf 218 UC) (.leaf 219 yT219)))) (.node 222 (.node 221 (.leaf 220 yT220) (.leaf 221 yT221)) (.node 223 (.leaf 222 yT222) (.node 224 (.leaf 223 yT223) (.leaf 224 yT224))))) (.node 230 (.node 227 (.node 226 (.leaf 225 yT225) (.leaf 226 yT226)) (.node 228 (.leaf 227 yT227) (.node 229 (.leaf 228 yT228) (.leaf 229 yT229)))) (.node 233 (.node 231 (.leaf 230 yT230) (.node 232 (.leaf 231 yT231) (.leaf 232 yT232))) (.node 234 (.leaf 233 yT233) (.node 235 (.leaf 234 yT234) (.leaf 235 yT235)))))) (.node 246 (.node 241 (.node 238 (.node 237 (.leaf 236 yT236) (.leaf 237 yT237)) (.node 239 (.leaf 238 yT238) (.node 240 (.leaf 239 yT239) (.leaf 240 yT240)))) (.node 243 (.node 242 (.leaf 241 yT241) (.leaf 242 yT242)) (.node 244 (.leaf 243 yT243) (.node 245 (.leaf 244 yT244) (.leaf 245 yT245))))) (.node 251 (.node 248 (.node 247 (.leaf 246 yT246) (.leaf 247 yT247)) (.node 249 (.leaf 248 yT248) (.node 250 (.leaf 249 yT249) (.leaf 250 yT250)))) (.node 254 (.node 252 (.leaf 251 yT251) (.node 253 (.leaf 252 yT252) (.leaf 253 yT253))) (.node 255 (.leaf 254 yT254) (.node 256 (.leaf 255 yT255) (.leaf 256 yT256)))))))) (.node 298 (.node 277 (.node 267 (.node 262 (.node 259 (.node 258 (.leaf 257 yT257) (.leaf 258 yT258)) (.node 260 (.leaf 259 yT259) (.node 261 (.leaf 260 yT260) (.leaf 261 yT261)))) (.node 264 (.node 263 (.leaf 262 yT262) (.leaf 263 yT263)) (.node 265 (.leaf 264 yT264) (.node 266 (.leaf 265 yT265) (.leaf 266 yT266))))) (.node 272 (.node 269 (.node 268 (.leaf 267 yT267) (.leaf 268 yT268)) (.node 270 (.leaf 269 yT269) (.node 271 (.leaf 270 NQ) (.leaf 271 yT271)))) (.node 274 (.node 273 (.leaf 272 yT272) (.leaf 273 yT273)) (.node 275 (.leaf 274 yT274) (.node 276 (.leaf 275 yT275) (.leaf 276 yT276)))))) (.node 287 (.node 282 (.node 279 (.node 278 (.leaf 277 yT277) (.leaf 278 yT278)) (.node 280 (.leaf 279 yT279) (.node 281 (.leaf 280 yT280) (.leaf 281 yT281)))) (.node 284 (.node 283 (.leaf 282 yT282) (.leaf 283 yT283)) (.node 285 (.leaf 284 yT284) (.node 286 (.leaf 285 yT285) (.leaf 286 yT286))))) (.node 292 (.node 289 (.node 288 (.leaf 287 yT287) (.leaf 288 yT288)) (.node 290 (.leaf 289 yT289) (.node 291 (.leaf 290 yT290) (.leaf 291 yT291)))) (.node 295 (.node 293 (.leaf 292 yT292) (.node 294 (.leaf 293 yT293) (.leaf 294 yT294))) (.node 296 (.leaf 295 yT295) (.node 297 (.leaf 296 yT296) (.leaf 297 yT297))))))) (.node 319 (.node 308 (.node 303 (.node 300 (.node 299 (.leaf 298 yT298) (.leaf 299 yT299)) (.node 301 (.leaf 300 yT300) (.node 302 (.leaf 301 yT301) (.leaf 302 yT302)))) (.node 305 (.node 304 (.leaf 303 yT303) (.leaf 304 yT304)) (.node 306 (.leaf 305 yT305) (.node 307 (.leaf 306 yT306) (.leaf 307 yT307))))) (.node 313 (.node 310 (.node 309 (.leaf 308 yT308) (.leaf 309 yT309)) (.node 311 (.leaf 310 yT310) (.node 312 (.leaf 311 yT311) (.leaf 312 yT312)))) (.node 316 (.node 314 (.leaf 313 yT313) (.node 315 (.leaf 314 yT314) (.leaf 315 yT315))) (.node 317 (.leaf 316 yT316) (.node 318 (.leaf 317 yT317) (.leaf 318 yT318)))))) (.node 333 (.node 324 (.node 321 (.node 320 (.leaf 319 yT319) (.leaf 320 yT320)) (.node 322 (.leaf 321 yT321) (.node 323 (.leaf 322 yT322) (.leaf 323 yT323)))) (.node 326 (.node 325 (.leaf 324 yT324) (.leaf 325 yT325)) (.node 329 (.leaf 326 yT326) (.node 332 (.leaf 329 yT329) (.leaf 332 yT332))))) (.node 340 (.node 335 (.node 334 (.leaf 333 yT333) (.leaf 334 yT334)) (.node 336 (.leaf 335 yT335) (.node 339 (.leaf 336 yT336) (.leaf 339 yT339)))) (.node 347 (.node 343 (.leaf 340 yT340) (.node 344 (.leaf 343 yT343) (.leaf 344 yT344))) (.node 348 (.leaf 347 yT347) (.node 351 (.leaf 348 yT348) (.leaf 351 yT351))))))))))
theorem aN:jc.Ok aJ.get Tryz.prog:=BT.ok (by kernel_rfl)
end Go.dX.YthggaoedidfpcaaGreatDoor
namespace Go.dX
structure nV (X:Ctx)(f:Nat)(args:List AV)(σ:St)(Q:AV→St→Prop):Prop where
 ev:DN X f args σ Q
structure NR (X:Ctx)(live:List Nat)(c:AC)(e:Env)(σ:St)(Q:Out→Env→St→Prop):Prop where
 ev:EvL X live c e σ Q
def UD (op:BinOp)(k:IntKind)(a b:Int)(Q:AV→Prop):Prop:=match op with
 | .add=>LU k (a+b) Q
 | .sub=>LU k (a - b) Q
 | .mul=>LU k (a*b) Q
 | .quo=>b≠0∧LU k (a.tdiv b) Q
 | .rem=>b≠0∧Q (.i k (a.tmod b))
 | .eql=>fc (.b (decide (a=b))) Q
 | .neq=>fc (.b (!decide (a=b))) Q
 | .lss=>fc (.b (decide (a<b))) Q
 | .leq=>fc (.b (decide (a≤b))) Q
 | .gtr=>fc (.b (decide (b<a))) Q
 | .geq=>fc (.b (decide (b≤a))) Q
 | op=>om (wE op k a b) Q
theorem UE {op:BinOp} {k:IntKind} {a b:Int} {Q:AV→Prop} (h:UD op k a b Q):opt (jS op k a b) Q:=by
 cases op <;> simp only [UD] at h
 all_goals first
  | (obtain⟨r,rfl,h⟩:=h;exact⟨_,rfl,h⟩)
  | (obtain⟨h1,r,rfl,h⟩:=h;exact⟨_,by simp only [jS];rw [if_neg h1],h⟩)
  | (obtain⟨h1,h⟩:=h;exact⟨_,by simp only [jS];rw [if_neg h1],h⟩)
  | (have h:=jg _ _ h;exact⟨_,rfl,h⟩)
  | exact Ci h
def GN (op:BinOp)(k:IntKind)(a b:Int)(Q:AV→Prop):Prop:=match op with
 | .shl=>0≤b∧LU k (a*2^(min b.toNat k.bits)) Q
 | .shr=>0≤b∧Q (.i k (a.fdiv (2^(min b.toNat k.bits))))
 | _=>False
theorem EU {op:BinOp} {k:IntKind} {a b:Int} {Q:AV→Prop} (h:GN op k a b Q):opt (qH op k a b) Q:=by
 cases op <;> simp only [GN] at h
 ·obtain⟨h1,r,rfl,h⟩:=h;exact⟨_,by simp only [qH];rw [if_neg (by omega)],h⟩
 ·obtain⟨h1,h⟩:=h;exact⟨_,by simp only [qH];rw [if_neg (by omega)],h⟩
def UF (op:BinOp)(a b:List UInt8)(Q:AV→Prop):Prop:=match op with
 | .add=>a.length+b.length≤9223372036854775807∧Q (.s (a ++ b))
 | .eql=>fc (.b (a == b)) Q
 | .neq=>fc (.b (!(a == b))) Q
 | op=>om (DU op a b) Q
theorem UG {op:BinOp} {a b:List UInt8} {Q:AV→Prop} (h:UF op a b Q):opt (DU op a b) Q:=by
 cases op <;> simp only [UF] at h
 all_goals first
  | (obtain⟨h1,h⟩:=h;exact⟨_,by simp only [DU];rw [if_pos h1],h⟩)
  | (have h:=jg _ _ h;exact⟨_,rfl,h⟩)
  | exact Ci h
def wEq (τ:jc)(t:Nat)(x y:AV)(n:Bool)(Q:AV→Prop):Prop:=om (eqT τ 20 t x y) fun r=>fc (.b (bif n then !r else r)) Q
def wBin (τ:jc)(op:BinOp)(t:Nat)(x y:AV)(c:Bool)(Q:AV→Prop):Prop:=match op,x,y with
 | .shl,.i k a,.i _ b=>GN .shl k a b Q
 | .shr,.i k a,.i _ b=>GN .shr k a b Q
 | op,.i k a,.i k' b=>cB (decide (k=k')) (UD op k a b Q) False
 | op,.s a,.s b=>UF op a b Q
 | .eql,.fK,.fK=>cB c (wEq τ t .fK .fK false Q) False
 | .neq,.fK,.fK=>cB c (wEq τ t .fK .fK true Q) False
 | .eql,.ag xs,.ag ys=>om (τ t) fun T=>cB T.guarded False (wEq τ t (.ag xs) (.ag ys) false Q)
 | .neq,.ag xs,.ag ys=>om (τ t) fun T=>cB T.guarded False (wEq τ t (.ag xs) (.ag ys) true Q)
 | .eql,x,y=>wEq τ t x y false Q
 | .neq,x,y=>wEq τ t x y true Q
 | _,_,_=>False
theorem lI {t:Bool} {A:Prop} (h:cB t A False):t=true∧A:=by cases t;exact h.elim;exact⟨rfl,h⟩
theorem cB_f {t:Bool} {A:Prop} (h:cB t False A):t=false∧A:=by cases t;exact⟨rfl,h⟩;exact h.elim
theorem bZ {α:Type} {o:Option α} {Q:α→Prop} (h:om o Q):∃a,o=some a∧Q a:=Ci h
theorem LV {τ:jc} {P:Program} (bU:τ.Ok P) {t:Nat} {x y:AV} {Q:AV→Prop} (h:wEq τ t x y false Q):opt ((uX P 20 t x y).map .b) Q:=by
 obtain⟨b,hb,h⟩:=bZ h
 exact⟨_,by rw [GL bU _ _ _ _ _ hb];rfl,jg _ _ h⟩
theorem LW {τ:jc} {P:Program} (bU:τ.Ok P) {t:Nat} {x y:AV} {Q:AV→Prop} (h:wEq τ t x y true Q):opt ((uX P 20 t x y).map fun r=>.b !r) Q:=by
 obtain⟨b,hb,h⟩:=bZ h
 exact⟨_,by rw [GL bU _ _ _ _ _ hb];rfl,jg _ _ h⟩
theorem wBin_ok {τ:jc} {P:Program} (bU:τ.Ok P) {op:BinOp} {t:Nat} {x y:AV} {c:Bool} {Q:AV→Prop} (h:wBin τ op t x y c Q):opt (gU P op t x y c) Q:=by
 unfold wBin at h
 split at h
 ·exact EU h
 ·exact EU h
 ·rename_i op k a k' b h1 h2
  obtain⟨hk,h⟩:=lI h
  have hk:=of_decide_eq_true hk
  have:=UE h
  subst hk
  cases op
  all_goals first
   | exact(h1 rfl).elim
   | exact(h2 rfl).elim
   | (simp only [gU,if_true];exact this)
 ·have:=UG h
  have e:∀o a b,gU P o t (.s a) (.s b) c=DU o a b:=by intro o a b;unfold gU;cases o <;> rfl
  rw [e];exact this
 ·obtain⟨rfl,h⟩:=lI h
  have:=LV bU h
  simpa [gU] using this
 ·obtain⟨rfl,h⟩:=lI h
  have:=LW bU h
  simpa [gU] using this
 ·obtain⟨T,hT,h⟩:=bZ h
  obtain⟨hg,h⟩:=cB_f h
  have:=LV bU h
  simpa [gU,bU _ _ hT,hg] using this
 ·obtain⟨T,hT,h⟩:=bZ h
  obtain⟨hg,h⟩:=cB_f h
  have:=LW bU h
  simpa [gU,bU _ _ hT,hg] using this
 ·rename_i x y h1 h2 h3 h4
  have:=LV bU h
  unfold gU
  split
  all_goals first
   | exact this
   | (exfalso;exact h1 _ _ _ _ rfl rfl)
   | (exfalso;exact h1 _ _ _ _ rfl rfl rfl)
   | (exfalso;exact h2 _ _ rfl rfl)
   | (exfalso;exact h3 rfl rfl)
   | (exfalso;exact h4 _ _ rfl rfl)
   | (exfalso;simp_all;done)
   | simp_all
 ·rename_i x y h1 h2 h3 h4
  have:=LW bU h
  unfold gU
  split
  all_goals first
   | exact this
   | (exfalso;exact h1 _ _ _ _ rfl rfl)
   | (exfalso;exact h1 _ _ _ _ rfl rfl rfl)
   | (exfalso;exact h2 _ _ rfl rfl)
   | (exfalso;exact h3 rfl rfl)
   | (exfalso;exact h4 _ _ rfl rfl)
   | (exfalso;simp_all;done)
   | simp_all
 ·exact h.elim
def Jr (τ:jc)(e:Nat):Bool:=match τ e with
 | some ⟨.int .u8,_,_,_,_,_,_⟩=>true
 | _=>false
theorem uH {τ:jc} {P:Program} (bU:τ.Ok P) {e:Nat} (h:Jr τ e=true):∃a b c d f g,aH P e=some ⟨.int .u8,a,b,c,d,f,g⟩:=by
 unfold Jr at h
 split at h
 ·rename_i a b c d f g he;exact⟨_,_,_,_,_,_,bU _ _ he⟩
 ·cases h
def Qa (n:Nat)(lo hi:Option AV)(K:Nat→Nat→Prop):Prop:=match lo,hi with
 | none,none=>K 0 n
 | some (.i _ i),none=>∃a:Nat,i=a∧a≤n∧K a n
 | none,some (.i _ j)=>∃b:Nat,j=b∧b≤n∧K 0 b
 | some (.i _ i),some (.i _ j)=>∃a b:Nat,i=a∧j=b∧a≤b∧b≤n∧K a b
 | _,_=>False
theorem GR {n:Nat} {lo hi:Option AV} {K:Nat→Nat→Prop} (h:Qa n lo hi K):∃a b,fG n n lo hi=some (a,b)∧a≤b∧b≤n∧K a b:=by
 unfold Qa at h
 split at h
 ·exact⟨0,n,by simp [fG,Ky,Kz],Nat.zero_le _,Nat.le_refl _,h⟩
 ·obtain⟨a,rfl,h1,h⟩:=h
  refine⟨a,n,?_,h1,Nat.le_refl _,h⟩
  simp only [fG,Ky,Kz,Option.bind_some];rw [if_pos (by omega)];simp
 ·obtain⟨b,rfl,h1,h⟩:=h
  refine⟨0,b,?_,Nat.zero_le _,h1,h⟩
  simp only [fG,Ky];rw [if_pos (by omega)];simp [Kz]
 ·obtain⟨a,b,rfl,rfl,h1,h2,h⟩:=h
  refine⟨a,b,?_,h1,h2,h⟩
  simp only [fG,Ky];rw [if_pos (by omega)];simp only [Option.bind_some,Kz];rw [if_pos (by omega)];simp
 ·exact h.elim
def UH (x:List UInt8)(lo hi:Option AV)(Q:AV→Prop):Prop:=match lo,hi with
 | none,none=>Q (.s x)
 | some (.i _ i),none=>∃a:Nat,i=a∧a≤x.length∧Q (.s (x.drop a))
 | none,some (.i _ j)=>∃b:Nat,j=b∧b≤x.length∧Q (.s (x.take b))
 | some (.i _ i),some (.i _ j)=>∃a b:Nat,i=a∧j=b∧a≤b∧b≤x.length∧Q (.s ((x.drop a).take (b - a)))
 | _,_=>False
theorem UJ {x:List UInt8} {lo hi:Option AV} {Q:AV→Prop} (h:UH x lo hi Q):opt ((fG x.length x.length lo hi).map fun r=>AV.s ((x.drop r.1).take (r.2 - r.1))) Q:=by
 have key:Qa x.length lo hi fun a b=>Q (.s ((x.drop a).take (b - a))):=by
  unfold UH at h
  unfold Qa
  split at h
  ·simpa using h
  ·obtain⟨a,h1,h2,h⟩:=h
   refine⟨a,h1,h2,?_⟩
   simp only
   rw [List.take_of_length_le (by simp)];exact h
  ·simpa using h
  ·exact h
  ·exact h.elim
 obtain⟨a,b,h1,_,_,h⟩:=GR key
 exact⟨_,by rw [h1];rfl,h⟩
def wSlc (τ:jc)(t:Nat)(x:AV)(lo hi:Option AV)(σ:St)(Q:AV→Prop):Prop:=
 om (τ t) fun T=>match T.d,x with
 | .str,.s x=>UH x lo hi Q
 | .slice e,.sl0=>cB (Nat.blt 0 (xk τ e)) (om (fG 0 0 lo hi) fun _=>Q .sl0) False
 | .slice e,.sl o g off n z=>cB (Nat.beq (xk τ e) z && Nat.blt 0 z) (Qa n lo hi fun a b=>Q (.sl o g (off+a*z) (b - a) z)) False
 | .arr n e,.p o g off=>cB (Nat.blt 0 (xk τ e)) (om (jh σ o g) fun cs=>cB (Nat.ble (off+n*xk τ e) cs.length) (Qa n lo hi fun a b=>Q (.sl o g (off+a*xk τ e) (b - a) (xk τ e))) False) False
 | _,_=>False
theorem lJ {a b:Nat} (h:Nat.blt a b=true):a<b:=by unfold Nat.blt at h;exact Nat.le_of_ble_eq_true h
theorem wSlc_ok {τ:jc} {P:Program} (bU:τ.Ok P) {t:Nat} {x:AV} {lo hi:Option AV} {σ:St} {Q:AV→Prop} (h:wSlc τ t x lo hi σ Q):opt (zO P t x lo hi σ) Q:=by
 obtain⟨⟨d,s,b,z,c,hd,g⟩,hT,h⟩:=bZ h
 unfold zO
 rw [bU _ _ hT]
 simp only at h ⊢
 split at h
 ·exact UJ h
 ·obtain⟨h1,h⟩:=lI h
  obtain⟨r,h2,h⟩:=bZ h
  have h1:=lJ h1
  simp only
  rw [if_pos (by rw [mG bU h1];exact h1),h2]
  exact⟨_,rfl,h⟩
 ·obtain⟨h1,h⟩:=lI h
  rw [Bool.and_eq_true] at h1
  have h2:=Nat.eq_of_beq_eq_true h1.1
  have h3:=lJ h1.2
  obtain⟨a,b,h4,_,_,h⟩:=GR h
  simp only
  rw [if_pos ⟨by rw [mG bU (by omega)];exact h2,h3⟩,h4]
  exact⟨_,rfl,h⟩
 ·obtain⟨h1,h⟩:=lI h
  obtain⟨cs,h2,h⟩:=bZ h
  obtain⟨h3,h⟩:=lI h
  have h1:=lJ h1
  have h3:=Nat.le_of_ble_eq_true h3
  obtain⟨a,b,h4,_,_,h⟩:=GR h
  have hz:=mG bU h1
  simp only
  rw [hz,if_pos h1,h2,Option.bind_some,if_pos h3,h4]
  exact⟨_,rfl,h⟩
 ·exact h.elim
def wIad (τ:jc)(t:Nat)(x i:AV)(Q:AV→Prop):Prop:=om (τ t) fun T=>match T.d,x,i with
 | .arr n e,.p o g off,.i _ j=>cB (Nat.blt 0 (xk τ e)) (∃m:Nat,j=m∧m<n∧Q (.p o g (off+m*xk τ e))) False
 | .slice e,.sl o g off n z,.i _ j=>cB (Nat.beq (xk τ e) z && Nat.blt 0 z) (∃m:Nat,j=m∧m<n∧Q (.p o g (off+m*z))) False
 | _,_,_=>False
theorem wIad_ok {τ:jc} {P:Program} (bU:τ.Ok P) {t:Nat} {x i:AV} {Q:AV→Prop} (h:wIad τ t x i Q):opt (KD P t x i) Q:=by
 obtain⟨⟨d,s,b,z,c,hd,g⟩,hT,h⟩:=bZ h
 unfold KD
 rw [bU _ _ hT]
 simp only at h
 split at h
 ·obtain⟨h1,h⟩:=lI h
  obtain⟨m,rfl,h2,h⟩:=h
  have h1:=lJ h1
  have hz:=mG bU h1
  simp only
  rw [hz,if_pos ⟨h1,by omega,by omega⟩]
  exact⟨_,rfl,by simpa using h⟩
 ·obtain⟨h1,h⟩:=lI h
  obtain⟨m,rfl,h2,h⟩:=h
  rw [Bool.and_eq_true] at h1
  have h3:=Nat.eq_of_beq_eq_true h1.1
  have h4:=lJ h1.2
  simp only
  rw [if_pos ⟨by rw [mG bU (by omega)];exact h3,h4,by omega,by omega⟩]
  exact⟨_,rfl,by simpa using h⟩
 ·exact h.elim
def wIdx (τ:jc)(t:Nat)(x i:AV)(Q:AV→Prop):Prop:=om (τ t) fun T=>match T.d,x,i with
 | .arr n e,.ag cs,.i _ j=>∃m:Nat,j=m∧m<n∧om (τ e) fun E=>om (partOf E cs (m*E.size)) fun v=>fc v Q
 | .str,.s x,.i _ j=>∃(m:Nat) (c:UInt8),j=m∧x[m]? =some c∧Q (.i .u8 c.toNat)
 | _,_,_=>False
theorem wIdx_ok {τ:jc} {P:Program} (bU:τ.Ok P) {t:Nat} {x i:AV} {Q:AV→Prop} (h:wIdx τ t x i Q):opt (KE P t x i) Q:=by
 obtain⟨⟨d,s,b,z,c,hd,g⟩,hT,h⟩:=bZ h
 unfold KE
 rw [bU _ _ hT]
 simp only at h
 split at h
 ·obtain⟨m,rfl,h2,h⟩:=h
  obtain⟨E,hE,h⟩:=bZ h
  obtain⟨v,hv,h⟩:=bZ h
  simp only
  rw [if_pos ⟨by omega,by omega⟩,bU _ _ hE]
  exact⟨v,by simpa using hv,jg _ _ h⟩
 ·obtain⟨m,c,rfl,h2,h⟩:=h
  simp only
  rw [if_pos (by omega)]
  exact⟨_,by rw [Int.toNat_natCast,h2];rfl,h⟩
 ·exact h.elim
def wLen (τ:jc)(t:Nat)(x:AV)(Q:AV→Prop):Prop:=om (τ t) fun T=>match T.d,x with
 | .str,.s x=>Q (.i .i64 x.length)
 | .arr n _,_=>Q (.i .i64 n)
 | .slice _,.sl0=>Q (.i .i64 0)
 | .slice _,.sl _ _ _ n _=>Q (.i .i64 n)
 | _,_=>False
theorem wLen_ok {τ:jc} {P:Program} (bU:τ.Ok P) {t:Nat} {x:AV} {Q:AV→Prop} (h:wLen τ t x Q):opt (DV P t x) Q:=by
 obtain⟨⟨d,s,b,z,c,hd,g⟩,hT,h⟩:=bZ h
 unfold DV
 rw [bU _ _ hT]
 simp only at h
 split at h
 all_goals first
  | exact h.elim
  | exact⟨_,rfl,h⟩
def wFad (τ:jc)(t:Nat)(x:AV)(f:Nat)(Q:AV→Prop):Prop:=om (τ t) fun T=>match T.d,x with
 | .st fs,.p o g off=>om fs[f]? fun r=>cB (Nat.blt 0 (xk τ r.2.1)) (Q (.p o g (off+r.1))) False
 | _,_=>False
theorem wFad_ok {τ:jc} {P:Program} (bU:τ.Ok P) {t:Nat} {x:AV} {f:Nat} {Q:AV→Prop} (h:wFad τ t x f Q):opt (OC P t x f) Q:=by
 obtain⟨⟨d,s,b,z,c,hd,g⟩,hT,h⟩:=bZ h
 unfold OC
 rw [bU _ _ hT]
 simp only at h
 split at h
 ·obtain⟨r,hr,h⟩:=bZ h
  obtain⟨h1,h⟩:=lI h
  have h1:=lJ h1
  simp only
  rw [hr,Option.bind_some,if_pos (by rw [mG bU h1];exact h1)]
  exact⟨_,rfl,h⟩
 ·exact h.elim
def wFld (τ:jc)(t:Nat)(x:AV)(f:Nat)(Q:AV→Prop):Prop:=om (τ t) fun T=>match T.d,x with
 | .st fs,.ag cs=>om fs[f]? fun r=>om (τ r.2.1) fun F=>om (partOf F cs r.1) fun v=>fc v Q
 | _,_=>False
theorem wFld_ok {τ:jc} {P:Program} (bU:τ.Ok P) {t:Nat} {x:AV} {f:Nat} {Q:AV→Prop} (h:wFld τ t x f Q):opt (KC P t x f) Q:=by
 obtain⟨⟨d,s,b,z,c,hd,g⟩,hT,h⟩:=bZ h
 unfold KC
 rw [bU _ _ hT]
 simp only at h
 split at h
 ·obtain⟨r,hr,h⟩:=bZ h
  obtain⟨F,hF,h⟩:=bZ h
  obtain⟨v,hv,h⟩:=bZ h
  simp only
  rw [hr,Option.bind_some,bU _ _ hF]
  exact⟨v,hv,jg _ _ h⟩
 ·exact h.elim
def allT (τ:jc):List (Nat×Nat×Bool)→Bool
 | []=>true
 | f :: fs=>match τ f.2.1 with
   | some _=>allT τ fs
   | none=>false
theorem GU {τ:jc} {P:Program} (bU:τ.Ok P):∀fs,allT τ fs=true→fs.all (fun f=>(aH P f.2.1).isSome)=true
 | [],_=>rfl
 | f :: fs,h=>by
   simp only [allT] at h
   split at h
   ·rename_i T hT;simp only [List.all_cons,bU _ _ hT,Option.isSome_some,Bool.true_and];exact GU bU fs h
   ·cases h
theorem CB {p q:Nat→Option (Nat×Nat)} (hp:∀i r,p i=some r→q i=some r):∀(l:List (Nat×AV)) (cells r:List AV),kE p cells l=some r→kE q cells l=some r
 | [],_,_,h=>h
 | (i,v) :: l,cells,r,h=>by
   simp only [kE] at h ⊢
   split at h
   ·cases h
   ·rename_i off size he
    rw [hp _ _ he]
    simp only
    split at h
    ·rename_i hc;rw [if_pos hc];exact CB hp l _ r h
    ·cases h
def UK (τ:jc)(t:Nat)(ps:List (Nat×AV))(Q:AV→Prop):Prop:=om (τ t) fun T=>match T.d with
 | .st fs=>cB (allT τ fs) (om (kE (fun i=>(fs[i]?).bind fun f=>(τ f.2.1).map fun F=>(f.1,F.size)) T.zero.cells ps) fun cs=>NK cs fun cs=>Q (.ag cs)) False
 | .arr _ e=>om (τ e) fun E=>om (kE (fun i=>some (i*E.size,E.size)) T.zero.cells ps) fun cs=>NK cs fun cs=>Q (.ag cs)
 | _=>False
theorem Qb {τ:jc} {P:Program} (bU:τ.Ok P) {t:Nat} {ps:List (Nat×AV)} {Q:AV→Prop} (h:UK τ t ps Q):opt (kL P t ps) Q:=by
 obtain⟨⟨d,s,b,z,c,hd,g⟩,hT,h⟩:=bZ h
 unfold kL
 rw [bU _ _ hT]
 simp only at h ⊢
 split at h
 ·rename_i fs
  obtain⟨h1,h⟩:=lI h
  obtain⟨cs,h2,h⟩:=bZ h
  simp only
  rw [if_pos (GU bU fs h1)]
  have h3:=CB (q:=fun i=>(fs[i]?).bind fun f=>(aH P f.2.1).map fun F=>(f.1,F.size)) (fun i r hi=>by
   rw [Option.bind_eq_some_iff] at hi ⊢
   obtain⟨f,hf,hi⟩:=hi
   rw [Option.map_eq_some_iff] at hi
   obtain⟨F,hF,rfl⟩:=hi
   exact⟨f,hf,by rw [bU _ _ hF];rfl⟩) _ _ _ h2
  rw [h3]
  exact⟨_,rfl,nU _ _ h⟩
 ·obtain⟨E,hE,h⟩:=bZ h
  obtain⟨cs,h2,h⟩:=bZ h
  simp only
  rw [bU _ _ hE]
  simp only
  rw [h2]
  exact⟨_,rfl,nU _ _ h⟩
 ·exact h.elim
end Go.dX
namespace Go.dX
section
variable (τ:jc)(lit:Bool)
def wUn (op:UnOp)(x:AV)(Q:AV→Prop):Prop:=match op,x with
 | .neg,.i k n=>LU k (0 - n) Q
 | .xor,.i k n=>om (wE .xor k (if k.signed then -1 else k.max) n) Q
 | .not,.b p=>fc (.b !p) Q
 | _,_=>False
def wConv (s d:Nat)(x:AV)(σ:St)(Q:AV→St→Prop):Prop:=om (τ s) fun S=>om (τ d) fun D=>match S.d,D.d,x with
 | _,.int k,.i _ n=>LU k n fun v=>Q v σ
 | _,.str,.i _ n=>Q (.s (Utf8.encode n).data.toList) σ
 | .str,.str,.s x=>Q (.s x) σ
 | .str,.slice e,.s x=>cB (Jr τ e) (Jq lit σ fun m=>LQ lit (dD e (x.map fun b=>.i .u8 b.toNat) σ) fun σ'=>Q (.sl m 0 0 x.length 1) σ') False
 | .slice e,.str,.sl0=>cB (Jr τ e) (Q (.s []) σ) False
 | .slice e,.str,.sl o g off n z=>cB (Jr τ e && Nat.beq z 1) (om (jh σ o g) fun cs=>∃b,off+n≤cs.length∧bytesOf ((cs.drop off).take n)=some b∧Q (.s b) σ) False
 | _,_,_=>False
def wBsl (t len:Nat)(ps:List (Nat×AV))(σ:St)(Q:AV→St→Prop):Prop:=om (τ t) fun T=>match T.d with
 | .slice e=>om (τ e) fun E=>cB (Nat.blt 0 E.size && Nat.beq E.zero.cells.length E.size && Nat.ble (len*E.size) 16777216)
  (om (kE (fun i=>some (i*E.size,E.size)) (dN E.zero.cells len) ps) fun cs=>NK cs fun cs=>Jq lit σ fun m=>LQ lit (dD e cs σ) fun σ'=>Q (.sl m 0 0 len E.size) σ') False
 | _=>False
def wMks (t:Nat)(l c:AV)(σ:St)(Q:AV→St→Prop):Prop:=om (τ t) fun T=>match T.d,l,c with
 | .slice e,.i _ l,.i _ c=>om (τ e) fun E=>cB (Nat.blt 0 E.size && Nat.beq E.zero.cells.length E.size)
  (∃l' c':Nat,l=l'∧c=c'∧l'≤c'∧c'≤9223372036854775807∧E.bytes*c'≤140737488355328∧Jq lit σ fun m=>LQ lit (dD e (dN E.zero.cells c') σ) fun σ'=>Q (.sl m 0 0 l' E.size) σ') False
 | _,_,_=>False
def wRng (t:Nat)(x:AV)(σ:St)(Q:AV→St→Prop):Prop:=om (τ t) fun T=>match T.d,x with
 | .str,.s x=>Jq lit σ fun m=>LQ lit (σ ++ [⟨0,false,.iter x 0⟩]) fun σ'=>Q (.p m 0 0) σ'
 | _,_=>False
def iterAt (σ:St)(o g:Nat):Option (List UInt8×Nat):=match σ[o]? with
 | some ⟨g',ro,.iter s pos⟩=>bif Nat.beq g g' && !ro then some (s,pos) else none
 | _=>none
def wNxt (x:AV)(σ:St)(Q:AV→St→Prop):Prop:=match x with
 | .p o g off=>cB (Nat.beq off 0) (om (iterAt σ o g) fun r=>
  cB (decide (r.2<r.1.length)) (LQ lit (σ.set o ⟨g,false,.iter r.1 (r.2+(Utf8.decode ⟨r.1.toArray⟩ r.2).2)⟩) fun σ'=>Q (.tu [.b true,.i .i64 r.2,.i .i32 (Utf8.decode ⟨r.1.toArray⟩ r.2).1]) σ') (Q (.tu [.b false]) σ)) False
 | _=>False
def UL (σ:St)(o g e:Nat):Option (List AV):=match σ[o]? with
 | some ⟨g',ro,.cells e' cs⟩=>bif Nat.beq g g' && !ro && Nat.beq e' e then some cs else none
 | _=>none
theorem UM {σ:St} {o g e:Nat} {cs:List AV} (h:UL σ o g e=some cs):σ[o]? =some ⟨g,false,.cells e cs⟩:=by
 unfold UL at h
 split at h
 ·rename_i g' ro e' cs' ho
  cases hb:(Nat.beq g g' && !ro && Nat.beq e' e) with
  | false=>rw [hb] at h;cases h
  | true=>
    rw [hb] at h
    cases h
    simp only [Bool.and_eq_true,Bool.not_eq_true'] at hb
    rw [ho,Nat.eq_of_beq_eq_true hb.1.1,Nat.eq_of_beq_eq_true hb.2,hb.1.2]
 ·cases h
def NS:AD→Bool
 | .rO _=>true
 | _=>false
def wApp (t:Nat)(x y:AV)(σ:St)(Q:AV→St→Prop):Prop:=om (τ t) fun T=>match T.d with
 | .slice e=>om (τ e) fun E=>cB (Nat.blt 0 E.size && Nat.beq E.zero.cells.length E.size && Nat.blt 0 E.bytes)
  (om (jq E.size y σ) fun src=>cB (Nat.beq src.1 0) (match x with | .sl0=>Q .sl0 σ | .sl o g off n z=>Q (.sl o g off n z) σ | _=>False)
   (cB (src.2.all AV.one)
      (match x with
      | .sl0=>src.1*E.bytes≤140737488355328∧NK src.2 fun l=>Jq lit σ fun m=>LQ lit (dD e l σ) fun σ'=>Q (.sl m 0 0 src.1 E.size) σ'
      | .sl o g off n z=>om (UL σ o g e) fun cs=>z=E.size∧off+n*z≤cs.length∧(n+src.1)*E.bytes≤140737488355328∧((cs.drop off).take (n*z)).all AV.one=true∧
          LQ lit (σ.set o ⟨g+1,false,.cells e (((cs.drop off).take (n*z)) ++ src.2)⟩) fun σ'=>Q (.sl o (g+1) 0 (n+src.1) z) σ'
      | _=>False) False)) False
 | _=>False
structure HasF (P:Program)(t I:Nat)(Q:Bool→Prop):Prop where
 ev:om (hasAll P t I) Q
theorem HasF.of {P:Program} {t I:Nat} {b:Bool} {Q:Bool→Prop} (h:hasAll P t I=some b)(q:Q b):HasF P t I Q:=⟨by rw [h];exact q⟩
def wTas (P:Program)(x:AV)(t:Nat)(ok:Bool)(Q:AV→Prop):Prop:=om (τ t) fun T=>cB (NS T.d) (match x with
 | .fK=>cB ok (Q (.tu [T.zero,.b false])) False
 | .ic t' v=>HasF P t' t fun b=>cB b (cB ok (Q (.tu [.ic t' v,.b true])) (Q (.ic t' v))) (cB ok (Q (.tu [T.zero,.b false])) False)
 | _=>False) (match x with
 | .fK=>cB ok (Q (.tu [T.zero,.b false])) False
 | .ic t' v=>cB (Nat.beq t' t) (cB ok (Q (.tu [v,.b true])) (fc v Q)) (cB ok (Q (.tu [T.zero,.b false])) False)
 | _=>False)
end
structure AppF (τ:jc)(lit:Bool)(t:Nat)(x y:AV)(σ:St)(Q:AV→St→Prop):Prop where
 ev:wApp τ lit t x y σ Q
def Qc (X:Ctx)(τ:jc)(lit:Bool)(ρ:bT→AV)(op:dM)(σ:St)(Q:AV→St→Prop):Prop:=match op with
 | .mv x=>fc (ρ x) fun v=>Q v σ
 | .pick c a b=>match ρ c with
   | .b t=>cB t (cB (ρ a).cnd (fc (ρ a).val fun v=>Q v σ) False) (cB (ρ b).cnd (fc (ρ b).val fun v=>Q v σ) False)
   | _=>False
 | .alloc t=>om (τ t) fun T=>Jq lit σ fun m=>LQ lit (dD t T.zero.cells σ) fun σ'=>Q (.p m 0 0) σ'
 | .box t x=>fq (ρ x) fun v=>match v with
   | .u=>False
   | .tu _=>False
   | .cd _ _=>False
   | v=>Jq lit σ fun m=>LQ lit (dD t v.cells σ) fun σ'=>Q (.p m 0 0) σ'
 | .build t ps=>UK τ t (ps.map fun q=>(q.1,ρ q.2)) fun v=>Q v σ
 | .jo t n ps=>wBsl τ lit t n (ps.map fun q=>(q.1,ρ q.2)) σ Q
 | .load t x=>om (lY (τ t) (ρ x) σ) fun v=>fc v fun v=>Q v σ
 | .store t x y=>om (jB (τ t) (ρ x) (ρ y) σ) fun σ'=>LQ lit σ' fun σ'=>Q (.tu []) σ'
 | .fF x=>om (KI (ρ x)) fun v=>Q v σ
 | .bin op t x y=>wBin τ op t (ρ x) (ρ y) (x.isC || y.isC) fun v=>Q v σ
 | .un op x=>wUn op (ρ x) fun v=>Q v σ
 | .conv s d x=>wConv τ lit s d (ρ x) σ Q
 | .qG t x=>om (τ t) fun T=>match T.d with
   | .rO _=>False
   | _=>fc (ρ x) fun v=>Q (.ic t v) σ
 | .rQ f a c=>NK (a.map ρ) fun a=>NK (c.map ρ) fun c=>Q (.fn f a c) σ
 | .Kt t l c=>wMks τ lit t (ρ l) (ρ c) σ Q
 | .slc t x l h=>wSlc τ t (ρ x) (l.map ρ) (h.map ρ) σ fun v=>Q v σ
 | .mF t x f=>wFad τ t (ρ x) f fun v=>Q v σ
 | .J9 t x f=>wFld τ t (ρ x) f fun v=>Q v σ
 | .iF t x i=>wIad τ t (ρ x) (ρ i) fun v=>Q v σ
 | .idx t x i=>wIdx τ t (ρ x) (ρ i) fun v=>Q v σ
 | .rng t x=>wRng τ lit t (ρ x) σ Q
 | .MR x=>wNxt lit (ρ x) σ Q
 | .J_ x _ t ok=>wTas τ X.P (ρ x) t ok fun v=>Q v σ
 | .ext x i=>match ρ x with
   | .tu vs=>om vs[i]? fun v=>fc v fun v=>Q v σ
   | _=>False
 | .call f args=>match ρ f with
   | .fn f first cap=>match f with
     | .func k=>NK (first ++ args.map ρ ++ cap) fun l=>nV X k l σ fun v σ'=>fc v fun v=>Q v σ'
     | _=>False
   | _=>False
 | .inv x m args=>match ρ x with
   | .ic t v=>match X.meth t m v with
     | some k=>NK (k.2 :: args.map ρ) fun l=>nV X k.1 l σ fun v σ'=>fc v fun v=>Q v σ'
     | none=>False
   | _=>False
 | .len t x=>wLen τ t (ρ x) fun v=>Q v σ
 | .app t _ x y=>fq (ρ x) fun x=>fq (ρ y) fun y=>AppF τ lit t x y σ Q
 | .copy t x y=>om (Em X.P t (ρ x) (ρ y) σ) fun r=>LQ lit r.2 fun σ'=>Q r.1 σ'
 | .mn mx xs=>om (aMn mx (xs.map ρ)) fun v=>fc v fun v=>Q v σ
 | .Ei t r=>om (QK X.P t (r.map ρ) σ) fun r=>LQ lit r.2 fun σ'=>Q r.1 σ'
 | .uN t x k ok=>om (AP X.P t (ρ x) (ρ k) ok σ) fun v=>fc v fun v=>Q v σ
 | .mW t m k v=>om (OJ X.P t (ρ m) (ρ k) (ρ v) σ) fun σ'=>LQ lit σ' fun σ'=>Q (.tu []) σ'
 | .del t m k=>om (aDel X.P t (ρ m) (ρ k) σ) fun σ'=>LQ lit σ' fun σ'=>Q (.tu []) σ'
 | .Ku t x=>om (FI X.P t (ρ x) σ) fun v=>fc v fun v=>Q v σ
 | .sl3 t x l h m=>om (KA X.P t (ρ x) (l.map ρ) (ρ h) (ρ m)) fun v=>fc v fun v=>Q v σ
 | .wu b s d x=>om (FH X.P b s d (ρ x) σ) fun v=>fc v fun v=>Q v σ
 | .gu _=>False
section
variable {X:Ctx} {τ:jc} (bU:τ.Ok X.P) {lit:Bool} {σ:St} {Q:AV→St→Prop}
theorem wUn_ok {op:UnOp} {x:AV} {Q:AV→Prop} (h:wUn op x Q):opt (OB op x) Q:=by
 unfold wUn at h
 split at h
 ·obtain⟨r,rfl,h⟩:=h;exact⟨_,rfl,h⟩
 ·exact Ci h
 ·exact⟨_,rfl,jg _ _ h⟩
 ·exact h.elim
include bU
theorem UN {s d:Nat} {x:AV} (h:wConv τ lit s d x σ Q):opt (jV X.P s d x σ) fun r=>Q r.1 r.2:=by
 obtain⟨⟨d1,s1,b1,z1,c1,hd1,g1⟩,hS,h⟩:=bZ h
 obtain⟨⟨d2,s2,b2,z2,c2,hd2,g2⟩,hD,h⟩:=bZ h
 unfold jV
 rw [bU _ _ hS,bU _ _ hD]
 simp only at h ⊢
 split at h
 ·obtain⟨r,rfl,h⟩:=h;exact⟨_,rfl,h⟩
 ·exact⟨_,rfl,h⟩
 ·exact⟨_,rfl,h⟩
 ·obtain⟨h1,h⟩:=lI h
  obtain⟨a,b,c,d,f,g,he⟩:=uH bU h1
  simp only [he]
  exact⟨_,rfl,kS _ _ _ (qQ _ _ _ h)⟩
 ·obtain⟨h1,h⟩:=lI h
  obtain⟨a,b,c,d,f,g,he⟩:=uH bU h1
  simp only [he]
  exact⟨_,rfl,h⟩
 ·obtain⟨h1,h⟩:=lI h
  rw [Bool.and_eq_true] at h1
  have hz:=Nat.eq_of_beq_eq_true h1.2
  obtain⟨a,b,c,d,f,g,he⟩:=uH bU h1.1
  obtain⟨cs,hc,b',h2,h3,h⟩:=bZ h
  simp only [he]
  rw [if_pos hz,hc,Option.bind_some,if_pos h2,h3]
  exact⟨_,rfl,h⟩
 ·exact h.elim
theorem wBsl_ok {t n:Nat} {ps:List (Nat×AV)} (h:wBsl τ lit t n ps σ Q):opt (OA X.P t n ps σ) fun r=>Q r.1 r.2:=by
 obtain⟨⟨d1,s1,b1,z1,c1,hd1,g1⟩,hT,h⟩:=bZ h
 unfold OA
 simp only at h
 split at h
 ·rw [bU _ _ hT]
  obtain⟨E,hE,h⟩:=bZ h
  obtain⟨h1,h⟩:=lI h
  rw [Bool.and_eq_true,Bool.and_eq_true] at h1
  obtain⟨cs,hc,h⟩:=bZ h
  simp only [bU _ _ hE]
  rw [if_pos ⟨lJ h1.1.1,Nat.eq_of_beq_eq_true h1.1.2,Nat.le_of_ble_eq_true h1.2⟩,hc]
  exact⟨_,rfl,kS _ _ _ (qQ _ _ _ (nU _ _ h))⟩
 ·exact h.elim
theorem wMks_ok {t:Nat} {l c:AV} (h:wMks τ lit t l c σ Q):opt (OD X.P t l c σ) fun r=>Q r.1 r.2:=by
 obtain⟨⟨d1,s1,b1,z1,c1,hd1,g1⟩,hT,h⟩:=bZ h
 unfold OD
 rw [bU _ _ hT]
 simp only at h
 split at h
 ·obtain⟨E,hE,h⟩:=bZ h
  obtain⟨h1,h⟩:=lI h
  rw [Bool.and_eq_true] at h1
  obtain⟨l',c',rfl,rfl,h2,h3,h4,h⟩:=h
  simp only [bU _ _ hE]
  rw [if_pos ⟨lJ h1.1,Nat.eq_of_beq_eq_true h1.2,by omega,by omega,by omega,by omega⟩]
  exact⟨_,rfl,kS _ _ _ (qQ _ _ _ h)⟩
 ·exact h.elim
theorem wRng_ok {t:Nat} {x:AV} (h:wRng τ lit t x σ Q):opt (OE X.P t x σ) fun r=>Q r.1 r.2:=by
 obtain⟨⟨d1,s1,b1,z1,c1,hd1,g1⟩,hT,h⟩:=bZ h
 unfold OE
 rw [bU _ _ hT]
 simp only at h
 split at h
 ·exact⟨_,rfl,kS _ _ _ (qQ _ _ _ h)⟩
 ·exact h.elim
omit bU in
theorem wNxt_ok {x:AV} (h:wNxt lit x σ Q):opt (KH x σ) fun r=>Q r.1 r.2:=by
 unfold wNxt at h
 split at h
 ·obtain⟨h1,h⟩:=lI h
  obtain rfl:=Nat.eq_of_beq_eq_true h1
  obtain⟨⟨s,pos⟩,hi,h⟩:=bZ h
  unfold iterAt at hi
  split at hi
  ·rename_i g' ro s' pos' ho
   cases hb:(Nat.beq _ g' && !ro) with
   | false=>rw [hb] at hi;cases hi
   | true=>
     rw [hb] at hi
     cases hi
     simp only [Bool.and_eq_true,Bool.not_eq_true'] at hb
     have hg:=Nat.eq_of_beq_eq_true hb.1
     subst hg
     unfold KH
     simp only [ho]
     rw [if_pos ⟨trivial,hb.2⟩]
     simp only at h
     by_cases hp:pos<s.length
     ·rw [decide_eq_true hp] at h
      rw [if_pos hp]
      exact⟨_,rfl,kS _ _ _ h⟩
     ·rw [decide_eq_false hp] at h
      rw [if_neg hp]
      exact⟨_,rfl,h⟩
  ·cases hi
 ·exact h.elim
theorem wApp_ok {t:Nat} {x y:AV} (h:wApp τ lit t x y σ Q):opt (KG X.P t x y σ) fun r=>Q r.1 r.2:=by
 obtain⟨⟨d1,s1,b1,z1,c1,hd1,g1⟩,hT,h⟩:=bZ h
 unfold KG
 simp only at h
 split at h
 ·rw [bU _ _ hT]
  obtain⟨E,hE,h⟩:=bZ h
  obtain⟨h1,h⟩:=lI h
  rw [Bool.and_eq_true,Bool.and_eq_true] at h1
  obtain⟨src,hs,h⟩:=bZ h
  simp only [bU _ _ hE]
  rw [if_pos ⟨lJ h1.1.1,Nat.eq_of_beq_eq_true h1.1.2,lJ h1.2⟩,hs,Option.bind_some]
  cases h0:Nat.beq src.1 0 with
  | true=>
    rw [h0] at h
    rw [if_pos (Nat.eq_of_beq_eq_true h0)]
    simp only [cB] at h
    split at h
    ·exact⟨_,rfl,h⟩
    ·exact⟨_,rfl,h⟩
    ·exact h.elim
  | false=>
    rw [h0] at h
    rw [if_neg (fun e=>by rw [e] at h0;cases h0)]
    obtain⟨h2,h⟩:=lI h
    rw [if_pos h2]
    split at h
    ·obtain⟨h3,h⟩:=h
     simp only
     rw [if_pos h3]
     exact⟨_,rfl,kS _ _ _ (qQ _ _ _ (nU _ _ h))⟩
    ·obtain⟨cs,hc,h3,h4,h5,h6,h⟩:=bZ h
     have ho:=UM hc
     simp only [ho]
     rw [if_pos ⟨trivial,h3,trivial,h4,h5,h6⟩]
     exact⟨_,rfl,kS _ _ _ h⟩
    ·exact h.elim
 ·exact h.elim
theorem wTas_ok {x:AV} {t:Nat} {ok:Bool} {Q:AV→Prop} (h:wTas τ X.P x t ok Q):opt (xW X.P x t ok) Q:=by
 obtain⟨⟨d1,s1,b1,z1,c1,hd1,g1⟩,hT,h⟩:=bZ h
 unfold xW
 rw [bU _ _ hT]
 simp only at h
 cases x with
 | fK=>
   have key:ok=true∧Q (.tu [z1,.b false]):=by
    cases hi:NS d1 <;> (rw [hi] at h;exact lI h)
   obtain⟨rfl,h⟩:=key
   cases d1 <;> exact⟨_,rfl,h⟩
 | ic t' v=>
   simp only at h
   cases hi:NS d1 with
   | true=>
     rw [hi] at h
     cases d1 with
     | rO ms=>
       obtain⟨b,hb,h⟩:=bZ h.ev
       simp only [hb]
       cases b with
       | true=>cases ok <;> exact⟨_,rfl,h⟩
       | false=>obtain⟨rfl,h⟩:=lI h;exact⟨_,rfl,h⟩
     | _=>cases hi
   | false=>
     rw [hi] at h
     have key:opt (if t'= t then some (if ok then AV.tu [v,.b true] else v) else if ok then some (.tu [z1,.b false]) else none) Q:=by
        cases hb:Nat.beq t' t with
        | true=>
          rw [hb] at h
          rw [if_pos (Nat.eq_of_beq_eq_true hb)]
          cases ok with
          | true=>exact⟨_,rfl,h⟩
          | false=>exact⟨_,rfl,jg _ _ h⟩
        | false=>
          rw [hb] at h
          rw [if_neg (fun e=>by rw [e,Nat.beq_refl] at hb;cases hb)]
          obtain⟨rfl,h⟩:=lI h
          exact⟨_,rfl,h⟩
     cases d1 <;> first | (cases hi;done) | exact key
 | _=>cases hi:NS d1 <;> (rw [hi] at h;exact h.elim)
theorem Js {t:Nat} {x v:AV} (h:lY (τ t) x σ=some v):lY (aH X.P t) x σ=some v:=by
 cases ht:τ t with
 | none=>rw [ht] at h;simp [lY] at h
 | some T=>rw [bU _ _ ht,←ht];exact h
theorem Qd {t:Nat} {x y:AV} {σ':St} (h:jB (τ t) x y σ=some σ'):jB (aH X.P t) x y σ=some σ':=by
 cases ht:τ t with
 | none=>rw [ht] at h;simp [jB] at h
 | some T=>rw [bU _ _ ht,←ht];exact h
theorem LX {ρ:bT→AV} {op:dM} (h:Qc X τ lit ρ op σ Q):Bh X ρ op σ Q:=by
 cases op with
 | call f args=>
   rw [EH]
   simp only [Qc] at h
   split at h
   ·rename_i f' first cap hf
    split at h
    ·rename_i k
     rw [hf]
     have h:=nU _ _ h
     exact Bj h.ev fun v s q=>jg _ _ q
    ·exact h.elim
   ·exact h.elim
 | inv x m args=>
   rw [IQ]
   simp only [Qc] at h
   split at h
   ·rename_i t v hx
    split at h
    ·rename_i k hk
     rw [hx]
     have h:=nU _ _ h
     exact⟨k,hk,Bj h.ev fun v s q=>jg _ _ q⟩
    ·exact h.elim
   ·exact h.elim
 | gu x=>exact h.elim
 | mv x=>rw [dJ rfl];simp only [Qc] at h;exact⟨_,rfl,jg _ _ h⟩
 | pick c a b=>
   rw [dJ rfl]
   simp only [Qc] at h
   split at h
   ·rename_i t hc
    simp only [eY]
    rw [fB]
    unfold yX
    rw [hc]
    cases t with
    | true=>
      obtain⟨h1,h⟩:=lI h
      simp only [fQ,h1,Bool.not_true,jy,Bool.and_self,if_true]
      refine⟨_,rfl,?_⟩
      have h:=jg _ _ h
      have e:merge true (ρ a).val (ρ b).val=(ρ a).val:=by
       unfold merge
       split
       ·rename_i p q e1 e2;rw [e1];simp [AQ]
       ·simp
      rw [e];exact h
    | false=>
      obtain⟨h1,h⟩:=lI h
      simp only [jy,h1,Bool.not_false,fQ,Bool.and_self,if_true]
      refine⟨_,rfl,?_⟩
      have h:=jg _ _ h
      have e:merge false (ρ a).val (ρ b).val=(ρ b).val:=by
       unfold merge
       split
       ·rename_i p q e1 e2;rw [e2];simp [AQ]
       ·simp
      rw [e];exact h
   ·exact h.elim
 | alloc t=>
   rw [dJ rfl]
   obtain⟨T,hT,h⟩:=bZ h
   simp only [eY]
   rw [bU _ _ hT]
   exact⟨_,rfl,kS _ _ _ (qQ _ _ _ h)⟩
 | box t x=>
   rw [dJ rfl]
   simp only [Qc] at h
   have h:=Jp _ _ h
   simp only [eY]
   split at h
   ·exact h.elim
   ·exact h.elim
   ·exact h.elim
   ·rename_i h1 h2 h3
    have h:=kS _ _ _ (qQ _ _ _ h)
    split
    ·rename_i e;exact(h1 e).elim
    ·rename_i e;exact(h2 _ e).elim
    ·rename_i e;exact(h3 _ _ e).elim
    ·exact⟨_,rfl,h⟩
 | build t ps=>rw [dJ rfl];simp only [eY];rw [fB];exact Qb bU h
 | jo t n ps=>rw [dJ rfl];exact wBsl_ok bU h
 | load t x=>
   rw [dJ rfl]
   obtain⟨v,hv,h⟩:=bZ h
   simp only [eY]
   rw [fB]
   exact⟨v,Js bU hv,jg _ _ h⟩
 | store t x y=>
   rw [dJ rfl]
   obtain⟨s,hs,h⟩:=bZ h
   simp only [eY]
   rw [fB]
   exact⟨s,Qd bU hs,kS _ _ _ h⟩
 | fF x=>
   rw [dJ rfl]
   simp only [eY]
   rw [fB]
   exact Ci h
 | bin op t x y=>rw [dJ rfl];simp only [eY];rw [fB];exact wBin_ok bU h
 | un op x=>rw [dJ rfl];simp only [eY];rw [fB];exact wUn_ok h
 | conv s d x=>rw [dJ rfl];exact UN bU h
 | qG t x=>
   rw [dJ rfl]
   obtain⟨⟨d1,s1,b1,z1,c1,hd1,g1⟩,hT,h⟩:=bZ h
   simp only [eY]
   rw [bU _ _ hT]
   simp only at h
   split at h
   ·exact h.elim
   ·rename_i hn
    have h:=jg _ _ h
    split
    ·rename_i e;cases e;exact(hn _ rfl).elim
    ·exact⟨_,rfl,h⟩
    ·rename_i e;cases e
 | rQ f a c=>
   rw [dJ rfl]
   simp only [Qc] at h
   have h:=nU _ _ (nU _ _ h)
   exact⟨_,rfl,h⟩
 | Kt t l c=>rw [dJ rfl];exact wMks_ok bU h
 | slc t x l hh=>rw [dJ rfl];simp only [eY];rw [fB];exact wSlc_ok bU h
 | mF t x f=>rw [dJ rfl];simp only [eY];rw [fB];exact wFad_ok bU h
 | J9 t x f=>rw [dJ rfl];simp only [eY];rw [fB];exact wFld_ok bU h
 | iF t x i=>rw [dJ rfl];simp only [eY];rw [fB];exact wIad_ok bU h
 | idx t x i=>rw [dJ rfl];simp only [eY];rw [fB];exact wIdx_ok bU h
 | rng t x=>rw [dJ rfl];exact wRng_ok bU h
 | MR x=>rw [dJ rfl];exact wNxt_ok h
 | J_ x _ t ok=>rw [dJ rfl];simp only [eY];rw [fB];exact wTas_ok bU h
 | ext x i=>
   rw [dJ rfl]
   simp only [Qc] at h
   simp only [eY]
   split at h
   ·rename_i vs hx
    obtain⟨v,hv,h⟩:=bZ h
    rw [hx]
    simp only
    rw [fB]
    exact⟨v,hv,jg _ _ h⟩
   ·exact h.elim
 | len t x=>rw [dJ rfl];simp only [eY];rw [fB];exact wLen_ok bU h
 | app t s x y=>
   rw [dJ rfl]
   simp only [Qc] at h
   exact wApp_ok bU (Jp _ _ (Jp _ _ h)).ev
 | Ei t r=>
   rw [dJ rfl]
   obtain⟨q,hq,h⟩:=bZ h
   exact⟨q,hq,kS _ _ _ h⟩
 | uN t x k ok=>
   rw [dJ rfl]
   obtain⟨v,hv,h⟩:=bZ h
   simp only [eY]
   rw [fB]
   exact⟨v,hv,jg _ _ h⟩
 | mW t m k v=>
   rw [dJ rfl]
   obtain⟨q,hq,h⟩:=bZ h
   simp only [eY]
   rw [fB]
   exact⟨q,hq,kS _ _ _ h⟩
 | del t m k=>
   rw [dJ rfl]
   obtain⟨q,hq,h⟩:=bZ h
   simp only [eY]
   rw [fB]
   exact⟨q,hq,kS _ _ _ h⟩
 | sl3 t x l hh m=>
   rw [dJ rfl]
   obtain⟨v,hv,h⟩:=bZ h
   simp only [eY]
   rw [fB]
   exact⟨v,hv,jg _ _ h⟩
 | wu b s d x=>
   rw [dJ rfl]
   obtain⟨v,hv,h⟩:=bZ h
   simp only [eY]
   rw [fB]
   exact⟨v,hv,jg _ _ h⟩
 | Ku t x=>
   rw [dJ rfl]
   obtain⟨v,hv,h⟩:=bZ h
   simp only [eY]
   rw [fB]
   exact⟨v,hv,jg _ _ h⟩
 | copy t x y=>
   rw [dJ rfl]
   obtain⟨r,hr,h⟩:=bZ h
   exact⟨r,hr,kS _ _ _ h⟩
 | mn mx xs=>
   rw [dJ rfl]
   obtain⟨r,hr,h⟩:=bZ h
   simp only [eY]
   rw [fB]
   exact⟨r,hr,jg _ _ h⟩
end
end Go.dX
namespace Go.dX
section
variable (X:Ctx)(τ:jc)(lit:Bool)
def QG (e:Env)(op:dM)(σ:St)(K:AV→St→Prop)(c:Bool):Prop:=match c with
 | true=>cB op.pure
  (match op with
  | .pick q x y=>match (q.ev e).val with
    | .b t=>cB (q.ev e).cnd (cB t (cB (x.ev e).cnd (fc (x.ev e).val fun v=>K (.cd true v) σ) False) (cB (y.ev e).cnd (fc (y.ev e).val fun v=>K (.cd true v) σ) False)) False
    | _=>False
  | op=>cB (op.bK.all fun o=>(o.ev e).cnd) (Qc X τ lit (fun o=>(o.ev e).val) op σ fun v _=>K (.cd true v) σ) False)
  (cB (op.bK.all fun o=>(o.ev e).cnd) (Qc X τ lit (fun o=>(o.ev e).val) op σ K) False)
 | false=>cB op.pure (K (.cd false .u) σ) (K (.tu []) σ)
def Jt (e:Env)(a:AI)(σ:St)(K:AV→St→Prop):Prop:=match a.gd with
 | none=>Qc X τ lit (bT.ev e) a.op σ K
 | some (n,w)=>match get e n with
   | .b x=>cB x (QG X τ lit e a.op σ K w) (QG X τ lit e a.op σ K (!w))
   | .cd c v=>cB c (match v with | .b x=>cB x (QG X τ lit e a.op σ K w) (QG X τ lit e a.op σ K (!w)) | _=>False) (QG X τ lit e a.op σ K false)
   | .tu vs=>match vs with
     | []=>QG X τ lit e a.op σ K false
     | _=>False
   | _=>False
def wO:List AI→Env→St→(Env→St→Prop)→Prop
 | [],e,σ,K=>K e σ
 | a :: r,e,σ,K=>Jt X τ lit e a σ fun v σ'=>wO r (put a.d v e) σ' K
def wAg (e:Env)(σ:St):List AI→Prop→Prop
 | [],K=>K
 | a :: r,K=>(match a.d with
   | some d=>cB a.op.pure (Jt X τ lit e a σ fun v _=>get e d=v) False
   | none=>False)∧wAg e σ r K
def wD:List (AI×List AI)→Env→St→(Env→St→Prop)→Prop
 | [],e,σ,K=>K e σ
 | a :: r,e,σ,K=>Jt X τ lit e a.1 σ fun v σ'=>wAg X τ lit e σ' a.2 (wD r (put a.1.d v e) σ' K)
def fenv:List Nat→Env→(Env→Prop)→Prop
 | [],_,K=>K []
 | d :: ds,e,K=>fc (get e d) fun v=>fenv ds e fun r=>K ((d,v) :: r)
def wC:AC→Env→St→(Out→Env→St→Prop)→Prop
 | .skip,e,σ,Q=>Q .normal e σ
 | .reg ops,e,σ,Q=>wO X τ lit ops e σ fun e σ=>Q .normal e σ
 | .gJ ops,e,σ,Q=>wD X τ lit ops e σ fun e σ=>Q .normal e σ
 | .seq a b,e,σ,Q=>wC a e σ fun o e σ=>match o with
   | .normal=>wC b e σ Q
   | .exit j=>Q (.exit j) e σ
   | .ret=>Q .ret e σ
   | .gu v=>Q (.gu v) e σ
 | .cond x a b,e,σ,Q=>match x.ev e with
   | .b t=>cB t (wC a e σ Q) (wC b e σ Q)
   | _=>False
 | .blk id c,e,σ,Q=>wC c e σ fun o e σ=>match o with
   | .normal=>Q .normal e σ
   | .exit j=>cB (Nat.beq j id) (Q .normal e σ) (Q (.exit j) e σ)
   | .ret=>Q .ret e σ
   | .gu v=>Q (.gu v) e σ
 | .loop live c,e,σ,Q=>fenv live e fun e=>NR X live c e σ Q
 | .cut live c,e,σ,Q=>fenv live e fun e=>wC c e σ Q
 | .exit id,e,σ,Q=>Q (.exit id) e σ
 | .ret,e,σ,Q=>Q .ret e σ
 | .iO _,_,_,_=>False
 | .iM _,_,_,_=>False
 | .Kv _,_,_,_=>False
 | .hnd _ _ _ _ _,_,_,_=>False
def NT (e:Env)(σ:St):List AR→(List AV→Prop)→Prop
 | [],K=>K []
 | .t n :: rs,K=>fc (get e n) fun v=>match v with
   | .cd _ _=>False
   | v=>NT e σ rs fun vs=>K (v :: vs)
 | .cell a t :: rs,K=>om (lY (τ t) (get e a) σ) fun v=>fc v fun v=>NT e σ rs fun vs=>K (v :: vs)
end
structure Fin (σ:St)(v:AV)(σ':St)(Q:AV→St→Prop):Prop where
 ev:Q (norm σ v σ').1 (norm σ v σ').2
def wF (X:Ctx)(τ:jc)(lit:Bool)(F:AF)(args:List AV)(σ:St)(Q:AV→St→Prop):Prop:=
 wC X τ lit F.code (d_ 0 args) σ fun o e σ'=>match o with
    | .exit _=>False
    | .gu _=>False
    | _=>NT τ e σ' F.res fun vs=>match vs with
      | []=>Fin σ (.tu []) σ' Q
      | [v]=>Fin σ v σ' Q
      | v :: w :: vs=>Fin σ (.tu (v :: w :: vs)) σ' Q
theorem Fin.flat {σ σ':St} {v:AV} {Q:AV→St→Prop} (hf:v.flat=true)(h:σ'.take σ.length=σ)(q:Q v σ):Fin σ v σ' Q:=by
 constructor
 unfold norm
 rw [h,hf]
 simpa using q
theorem Fin.same {σ σ':St} {v:AV} {Q:AV→St→Prop} (h:σ'.length=σ.length)(q:Q v σ'):Fin σ v σ' Q:=by
 constructor
 unfold norm
 split
 ·rename_i hc
  rw [Bool.and_eq_true] at hc
  have:=wH _ _ hc.2
  rw [List.take_of_length_le (by omega)] at this
  rw [←this];exact q
 ·exact q
theorem Fin.ne {σ σ':St} {v:AV} {Q:AV→St→Prop} (h:σ'.take σ.length≠σ)(q:Q v σ'):Fin σ v σ' Q:=by
 constructor
 unfold norm
 split
 ·rename_i hc
  rw [Bool.and_eq_true] at hc
  exact(h (wH _ _ hc.2)).elim
 ·exact q
section
variable {X:Ctx} {τ:jc} (bU:τ.Ok X.P) {lit:Bool} {e:Env} {σ:St}
include bU
theorem yJ {d:Option Nat} {g:Nat×Bool} {op:dM} {K:AV→St→Prop} {c:Bool} (hw:eG e (some g)=some c)(h:QG X τ lit e op σ K c):EvS X e ⟨d,some g,op⟩ σ K:=by
 cases hp:op.pure with
 | true=>
   rw [Q9 hp]
   refine⟨c,hw,?_⟩
   cases c with
   | false=>
     simp only [QG,hp] at h
     exact⟨_,rfl,h⟩
   | true=>
     simp only [QG,hp] at h
     by_cases hpk:∃q x y,op= .pick q x y
     ·obtain⟨q,x,y,rfl⟩:=hpk
      simp only [cB] at h
      simp only [jC,if_true,ji,vI]
      split at h
      ·rename_i t ht
       rw [ht]
       split at h
       ·rename_i h1
        cases t with
        | true=>
          simp only at h
          split at h
          ·rename_i h2
           have h:=jg _ _ h
           refine⟨_,by simp only [h1,h2,fQ,Bool.and_self,Bool.true_and,Bool.not_true,Bool.and_false,jy,if_true];rfl,?_⟩
           have e1:merge true (x.ev e).val (y.ev e).val=(x.ev e).val:=by
            unfold merge
            split
            ·rename_i p q e1 e2;rw [e1];simp [AQ]
            ·simp
           rw [e1];exact h
          ·exact h.elim
        | false=>
          simp only at h
          split at h
          ·rename_i h2
           have h:=jg _ _ h
           refine⟨_,by simp only [h1,h2,fQ,Bool.and_self,Bool.true_and,Bool.not_false,Bool.and_false,Bool.and_true,jy,if_true];rfl,?_⟩
           have e1:merge false (x.ev e).val (y.ev e).val=(y.ev e).val:=by
            unfold merge
            split
            ·rename_i p q e1 e2;rw [e2];simp [AQ]
            ·simp
           rw [e1];exact h
          ·exact h.elim
       ·exact h.elim
      ·exact h.elim
     ·have h':cB (op.bK.all fun o=>(o.ev e).cnd) (Qc X τ lit (fun o=>(o.ev e).val) op σ fun v _=>K (.cd true v) σ) False:=by
        cases op <;> first | exact h | exact absurd ⟨_,_,_,rfl⟩ hpk
      obtain⟨h1,h2⟩:=lI h'
      have h3:=LX bU h2
      rw [dJ (by clear h' h1 h2 h3 hpk h;cases op <;> first | rfl | cases hp)] at h3
      obtain⟨r,hr,h4⟩:=h3
      have e1:ji X.P e op σ=pW true (op.bK.all (fun o=>nC true (o.ev e).cnd)) (eY X.P (fun o=>(o.ev e).val) op σ):=by
        cases op <;> first | rfl | exact absurd ⟨_,_,_,rfl⟩ hpk
      refine⟨.cd true r.1,?_,h4⟩
      simp only [jC,if_true]
      rw [e1,hr]
      simp only [fQ,pW]
      rw [if_pos h1]
 | false=>
   rw [Nr hp]
   refine⟨c,hw,?_⟩
   cases c with
   | false=>simp only [QG,hp] at h;exact h
   | true=>
     simp only [QG,hp] at h
     obtain⟨h1,h2⟩:=lI h
     exact⟨h1,LX bU h2⟩
theorem CG {a:AI} {K:AV→St→Prop} (h:Jt X τ lit e a σ K):EvS X e a σ K:=by
 obtain⟨d,gd,op⟩:=a
 unfold Jt at h
 simp only at h
 cases gd with
 | none=>exact LX bU h
 | some g=>
   obtain⟨n,w⟩:=g
   simp only at h
   split at h
   ·rename_i x hx
    cases x with
    | true=>exact yJ bU (by simp only [eG,hx];cases w <;> rfl) h
    | false=>exact yJ bU (by simp only [eG,hx];cases w <;> rfl) h
   ·rename_i c v hx
    cases c with
    | true=>
      simp only [cB] at h
      split at h
      ·rename_i x
       cases x with
       | true=>exact yJ bU (by simp only [eG,hx];cases w <;> rfl) h
       | false=>exact yJ bU (by simp only [eG,hx];cases w <;> rfl) h
      ·exact h.elim
    | false=>
      have h':QG X τ lit e op σ K false:=h
      exact yJ bU (by simp only [eG,hx];cases v <;> rfl) h'
   ·rename_i vs hx
    split at h
    ·exact yJ bU (by simp only [eG,hx]) h
    ·exact h.elim
   ·exact h.elim
theorem wO_ok:∀{ops:List AI} {e:Env} {σ:St} {K:Env→St→Prop},wO X τ lit ops e σ K→EvO X ops e σ K
 | [],e,σ,K,h=>Np.2 h
 | a :: r,e,σ,K,h=>by
   rw [IK]
   have h1:=CG bU h
   obtain⟨n,x,hx,q⟩:=h1
   exact⟨n,x,hx,wO_ok q⟩
theorem UO {e:Env} {σ:St} {K:Prop} :∀{l:List AI},wAg X τ lit e σ l K→l.all (lq X e σ)=true∧K
 | [],h=>⟨rfl,h⟩
 | a :: r,h=>by
   obtain⟨h1,h2⟩:=h
   obtain⟨h3,h4⟩:=UO h2
   refine⟨?_,h4⟩
   simp only [List.all_cons,h3,Bool.and_true]
   split at h1
   ·rename_i d hd
    obtain⟨hp,h1⟩:=lI h1
    obtain⟨n,x,hx,q⟩:=CG bU h1
    have hx':dK X (fun _ _ _=>none) e a σ=some x:=by
        unfold dK at hx ⊢
        rw [←hx]
        have hc:∀ρ run,dO X run ρ a.op σ=eY X.P ρ a.op σ:=by
         intro ρ run
         cases ho:a.op <;> rw [ho] at hp <;> first | rfl | cases hp
        simp only [hc]
    unfold lq
    rw [hd,hx']
    obtain⟨v,s⟩:=x
    simp only at q ⊢
    rw [q];exact AV.pU v
   ·exact h1.elim
theorem wD_ok:∀{ops:List (AI×List AI)} {e:Env} {σ:St} {K:Env→St→Prop},wD X τ lit ops e σ K→EvD X ops e σ K
 | [],e,σ,K,h=>Nq.2 h
 | (a,ag) :: r,e,σ,K,h=>by
   rw [IL]
   have h1:=CG bU h
   obtain⟨n,x,hx,q⟩:=h1
   obtain⟨q1,q2⟩:=UO bU q
   exact⟨n,x,hx,q1,wD_ok q2⟩
omit bU in
theorem GV:∀(l:List Nat) (e:Env) (K:Env→Prop),fenv l e K→K (clear l e)
 | [],e,K,h=>h
 | d :: ds,e,K,h=>GV ds e _ (jg _ _ h)
omit bU in
theorem Ju (l:List Nat)(e:Env):clear l (clear l e)=clear l e:=by
 have key:∀(m:List Nat) (d:Nat),d∈m→get (m.map fun d=>(d,get e d)) d=get e d:=by
  intro m
  induction m with
  | nil=>intro d h;cases h
  | cons a m ih=>
    intro d h
    simp only [List.map_cons,get]
    split
    ·rename_i h1;rw [h1]
    ·rename_i h1
     rcases List.mem_cons.1 h with rfl | h
     ·exact(h1 rfl).elim
     ·exact ih d h
 unfold clear
 exact List.map_congr_left fun d hd=>by rw [key l d hd]
theorem wC_ok:∀{c:AC} {e:Env} {σ:St} {Q:Out→Env→St→Prop},wC X τ lit c e σ Q→EvC X c e σ Q:=by
 intro c
 induction c with
 | skip=>intro e σ Q h;exact Iz.2 h
 | exit id=>intro e σ Q h;exact IB.2 h
 | ret=>intro e σ Q h;exact Nb.2 h
 | iO ops=>intro e σ Q h;exact h.elim
 | iM ops=>intro e σ Q h;exact h.elim
 | Kv a=>intro e σ Q h;exact h.elim
 | hnd k g d c h' rP ihh=>intro e σ Q h;exact h.elim
 | reg ops=>intro e σ Q h;exact Nc.2 (wO_ok bU h)
 | gJ ops=>intro e σ Q h;exact Nh.2 (wD_ok bU h)
 | seq a b iha ihb=>
   intro e σ Q h
   refine Nj.2 (Bl (iha h) fun o e s q=>?_)
   cases o with
   | normal=>rw [Out.zu];exact ihb q
   | exit j=>rw [Out.ED];exact q
   | ret=>rw [Out.IE];exact q
   | gu v=>rw [Out.IC];exact q
 | cond x a b iha ihb=>
   intro e σ Q h
   simp only [wC] at h
   rw [IG]
   split at h
   ·rename_i t hx
    rw [hx]
    cases t with
    | true=>exact iha h
    | false=>exact ihb h
   ·exact h.elim
 | blk id c ih=>
   intro e σ Q h
   refine Nk.2 (Bl (ih h) fun o e s q=>?_)
   cases o with
   | normal=>rw [Out.wU];exact q
   | exit j=>
     rw [Out.Bg]
     simp only at q
     cases hb:Nat.beq j id with
     | true=>rw [hb] at q;rw [if_pos (Nat.eq_of_beq_eq_true hb)];exact q
     | false=>rw [hb] at q;rw [if_neg (fun e=>by rw [e,Nat.beq_refl] at hb;cases hb)];exact q
   | ret=>rw [Out.EG];exact q
   | gu v=>rw [Out.EF];exact q
 | loop live c ih=>
   intro e σ Q h
   have h:=(GV _ _ _ h).ev
   rw [IJ,Ju] at h
   rw [II,IJ]
   exact h
 | cut live c ih=>
   intro e σ Q h
   exact Nl.2 (ih (GV _ _ _ h))
theorem xq:∀{rs:List AR} {K:List AV→Prop},NT τ e σ rs K→opt (pX X.P e σ rs) K
 | [],K,h=>⟨_,rfl,h⟩
 | .t n :: rs,K,h=>by
   have h:=jg _ _ h
   split at h
   ·exact h.elim
   ·rename_i hn
    obtain⟨vs,hv,q⟩:=xq h
    refine⟨_,?_,q⟩
    simp only [pX,hv]
    have e1:uZ X.P e σ (.t n)=some (get e n):=by
        simp only [uZ]
    rw [e1]
 | .cell a t :: rs,K,h=>by
   obtain⟨v,hv,h⟩:=bZ h
   have h:=jg _ _ h
   obtain⟨vs,hvs,q⟩:=xq h
   refine⟨_,?_,q⟩
   simp only [pX,hvs]
   have e1:uZ X.P e σ (.cell a t)=some v:=Js bU hv
   rw [e1]
theorem nV.body {f:Nat} {F:AF} {args:List AV} {Q:AV→St→Prop} (hp:X.lg f=none)(hf:X.fns f=some F)(hl:args.length≤F.nt)(h:wF X τ lit F args σ Q):nV X f args σ Q:=by
 constructor
 rw [EvF_fn hp hf hl]
 refine Bl (wC_ok bU h) fun o e s q=>?_
 cases o with
 | exit j=>exact q.elim
 | gu v=>exact q.elim
 | normal=>
   obtain⟨vs,hv,q⟩:=xq bU q
   refine⟨rfl,?_⟩
   rw [fB]
   unfold uO
   rw [hv]
   match vs,q with
   | [],q=>exact⟨_,rfl,q.ev⟩
   | [v],q=>exact⟨_,rfl,q.ev⟩
   | v :: w :: vs,q=>exact⟨_,rfl,q.ev⟩
 | ret=>
   obtain⟨vs,hv,q⟩:=xq bU q
   refine⟨rfl,?_⟩
   rw [fB]
   unfold uO
   rw [hv]
   match vs,q with
   | [],q=>exact⟨_,rfl,q.ev⟩
   | [v],q=>exact⟨_,rfl,q.ev⟩
   | v :: w :: vs,q=>exact⟨_,rfl,q.ev⟩
end
theorem nV.of {X:Ctx} {f:Nat} {args:List AV} {σ:St} {Q:AV→St→Prop} (h:DN X f args σ Q):nV X f args σ Q:=⟨h⟩
theorem nV.to {X:Ctx} {f:Nat} {args:List AV} {σ σ':St} {v:AV} {Q:AV→St→Prop} (h:nV X f args σ fun a s=>a=v∧s=σ')(q:Q v σ'):nV X f args σ Q:=⟨(EvF_iff h.ev).2 q⟩
theorem nV.mono {X:Ctx} {f:Nat} {args:List AV} {σ:St} {Q Q':AV→St→Prop} (h:nV X f args σ Q)(q:∀v s,Q v s→Q' v s):nV X f args σ Q':=⟨Bj h.ev q⟩
theorem NR.mono {X:Ctx} {live:List Nat} {c:AC} {e:Env} {σ:St} {Q Q':Out→Env→St→Prop} (h:NR X live c e σ Q)(q:∀o e s,Q o e s→Q' o e s):NR X live c e σ Q':=⟨Rh h.ev q⟩
end Go.dX
