/- Texts of this claim, joined: Abs22, Tb, Abs23, Abs24, Abs25. -/
import Derived.Test.YtnbdedokjfpckaaGreatDoorM07
import Derived.Test.YtnbdedokjfpckaaGreatDoorProg
import Derived.KernelRfl
set_option linter.unusedVariables false
set_option linter.unusedSimpArgs false
namespace Go.cO
inductive BT where
 | nil
 | leaf (t:Nat) (T:AT)
 | node (m:Nat) (l r:BT)
def BT.get:BT→Nat→Option AT
 | .nil,_=>none
 | .leaf t T,n=>bif Nat.beq t n then some T else none
 | .node m l r,n=>bif Nat.blt n m then l.get n else r.get n
def BT.toList:BT→List (Nat×AT)
 | .nil=>[]
 | .leaf t T=>[(t,T)]
 | .node _ l r=>l.toList ++ r.toList
theorem BT.get_mem:∀(b:BT) (n:Nat) (T:AT),b.get n=some T→(n,T)∈b.toList
 | .nil,_,_,h=>by cases h
 | .leaf t T,n,T',h=>by
   simp only [BT.get] at h
   cases hb:Nat.beq t n with
   | true=>rw [hb] at h;cases h;rw [Nat.eq_of_beq_eq_true hb];exact List.mem_singleton.2 rfl
   | false=>rw [hb] at h;cases h
 | .node m l r,n,T,h=>by
   simp only [BT.get] at h
   cases hb:Nat.blt n m with
   | true=>rw [hb] at h;exact List.mem_append_left _ (BT.get_mem l n T h)
   | false=>rw [hb] at h;exact List.mem_append_right _ (BT.get_mem r n T h)
abbrev gU:=Nat→Option AT
def gU.Ok (τ:gU)(P:Program):Prop:=∀t T,τ t=some T→aA P t=some T
theorem BT.ok {b:BT} {P:Program} (h:b.toList.map (fun p=>aA P p.1)=b.toList.map (fun p=>some p.2)):gU.Ok b.get P:=by
 intro t T ht
 have hm:=BT.get_mem b t T ht
 have:=List.map_inj_left.1 h _ hm
 exact this
def um (τ:gU)(t:Nat):Nat:=match τ t with | some T=>T.size | none=>0
theorem Ia {P:Program} {t:Nat} {T:AT} (h:aA P t=some T):P.cellsOf t=T.size:=by
 unfold aA at h
 split at h
 ·rename_i i d hi _
  split at h
  ·cases h;simp [Program.cellsOf,hi]
  ·cases h
 ·cases h
section
variable {τ:gU} {P:Program} (bM:τ.Ok P)
include bM
theorem kJ {t:Nat} (h:0<um τ t):P.cellsOf t=um τ t:=by
 unfold um at h ⊢
 cases ht:τ t with
 | none=>rw [ht] at h;exact absurd h (Nat.lt_irrefl 0)
 | some T=>simp only;exact Ia (bM t T ht)
end
def cB (t:Bool)(A B:Prop):Prop:=match t with | true=>A | false=>B
def om {α:Type} (o:Option α)(Q:α→Prop):Prop:=match o with | some a=>Q a | none=>False
theorem zf {α:Type} {o:Option α} {Q:α→Prop} (h:om o Q):opt o Q:=by
 cases o with
 | none=>exact h.elim
 | some a=>exact⟨a,rfl,h⟩
mutual
def fq (v:AV)(Q:AV→Prop):Prop:=match v with
 | .u=>Q .u
 | .b t=>Q (.b t)
 | .i k n=>Q (.i k n)
 | .s x=>Q (.s x)
 | .p0=>Q .p0
 | .p o g off=>Q (.p o g off)
 | .sl0=>Q .sl0
 | .sl o g off n z=>Q (.sl o g off n z)
 | .fn f a c=>Q (.fn f a c)
 | .fn0=>Q .fn0
 | .ic t v=>Q (.ic t v)
 | .gK=>Q .gK
 | .ag cs=>E8 cs fun cs=>Q (.ag cs)
 | .tu cs=>E8 cs fun cs=>Q (.tu cs)
 | .qX=>Q .qX
 | .mp o g=>Q (.mp o g)
 | .cd c v=>Q (.cd c v)
def E8 (l:List AV)(Q:List AV→Prop):Prop:=match l with
 | []=>Q []
 | v :: l=>fq v fun v=>E8 l fun l=>Q (v :: l)
end
mutual
theorem E_:∀(v:AV) (Q:AV→Prop),fq v Q→Q v:=by
 intro v Q h
 match v with
 | .u | .b _ | .i _ _ | .s _ | .p0 | .p _ _ _ | .sl0 | .sl _ _ _ _ _ | .fn _ _ _ | .fn0 | .ic _ _ | .gK | .qX | .mp _ _ | .cd _ _=>simpa only [fq] using h
 | .ag cs=>simp only [fq] at h;exact lN cs _ h
 | .tu cs=>simp only [fq] at h;exact lN cs _ h
theorem lN:∀(l:List AV) (Q:List AV→Prop),E8 l Q→Q l:=by
 intro l Q h
 match l with
 | []=>simpa only [E8] using h
 | v :: l=>simp only [E8] at h;exact lN l _ (E_ v _ h)
end
def fc (v:AV)(Q:AV→Prop):Prop:=match v with
 | .b t=>cB t (Q (.b true)) (Q (.b false))
 | v=>fq v Q
theorem gX (v:AV)(Q:AV→Prop)(h:fc v Q):Q v:=by
 cases v with
 | b t=>cases t <;> exact h
 | _=>exact E_ _ _ h
def nums:List Nat:=[0,1,2,3,4,5,6,7,8,9,10,11,12,13,14,15,16,17,18,19,20,21,22,23,24,25,26,27,28,29,30,31,32,33,34,35,36,37,38,39,40,41,42,43,44,45,46,47,48,49,50,51,52,53,54,55,56,57,58,59,60,61,62,63]
def O0 {α:Type} :List α→List Nat→(Nat→Prop)→Prop
 | [],k :: _,Q=>Q k
 | _ :: l,_ :: ks,Q=>O0 l ks Q
 | _,[],_=>False
theorem zh {α:Type} :∀(l:List α) (s m:Nat) (Q:Nat→Prop),O0 l (List.range' s m) Q→Q (s+l.length)
 | [],s,0,Q,h=>h.elim
 | [],s,m+1,Q,h=>h
 | _ :: l,s,0,Q,h=>h.elim
 | _ :: l,s,m+1,Q,h=>by
   have:=zh l (s+1) m Q (by simpa only [List.range'_succ,O0] using h)
   simpa [Nat.add_comm,Nat.add_left_comm,Nat.add_assoc] using this
def Fa (lit:Bool)(σ:St)(Q:Nat→Prop):Prop:=match lit with | true=>O0 σ nums Q | false=>Q σ.length
theorem oM (lit:Bool)(σ:St)(Q:Nat→Prop)(h:Fa lit σ Q):Q σ.length:=by
 cases lit with
 | false=>exact h
 | true=>
   have e:nums=List.range' 0 64:=by decide
   have h':O0 σ nums Q:=h
   rw [e] at h'
   simpa using zh σ 0 64 Q h'
def LJ (σ:St)(Q:St→Prop):Prop:=match σ with
 | []=>Q []
 | a :: r=>match a with
   | ⟨g,ro,k⟩=>match k with
     | .cells e cs=>LJ r fun r=>Q (⟨g,ro,.cells e cs⟩ :: r)
     | .iter s p=>LJ r fun r=>Q (⟨g,ro,.iter s p⟩ :: r)
     | .maps m=>LJ r fun r=>Q (⟨g,ro,.maps m⟩ :: r)
     | .dead=>LJ r fun r=>Q (⟨g,ro,.dead⟩ :: r)
     | .sD e l=>LJ r fun r=>Q (⟨g,ro,.sD e l⟩ :: r)
theorem vH:∀(σ:St) (Q:St→Prop),LJ σ Q→Q σ
 | [],Q,h=>by simpa only [LJ] using h
 | ⟨g,ro,.cells e cs⟩ :: r,Q,h=>vH r _ (by simpa only [LJ] using h)
 | ⟨g,ro,.iter s p⟩ :: r,Q,h=>vH r _ (by simpa only [LJ] using h)
 | ⟨g,ro,.maps m⟩ :: r,Q,h=>vH r _ (by simpa only [LJ] using h)
 | ⟨g,ro,.dead⟩ :: r,Q,h=>vH r _ (by simpa only [LJ] using h)
 | ⟨g,ro,.sD e l⟩ :: r,Q,h=>vH r _ (by simpa only [LJ] using h)
def Ib (lit:Bool)(σ:St)(Q:St→Prop):Prop:=match lit with | true=>LJ σ Q | false=>Q σ
theorem jE (lit:Bool)(σ:St)(Q:St→Prop)(h:Ib lit σ Q):Q σ:=by
 cases lit with
 | false=>exact h
 | true=>exact vH σ Q h
def Ic (k:IntKind)(n:Int)(Q:AV→Prop):Prop:=∃r,k.wrap n=r∧Q (.i k r)
def BP (τ:gU)(eq:Nat→AV→AV→Option Bool):List (Nat×Nat×Bool)→List AV→List AV→Option Bool
 | [],_,_=>some true
 | f :: fs,xs,ys=>
   if f.2.2 then BP τ eq fs xs ys else
   match τ f.2.1 with
   | none=>none
   | some F=>
     match partOf F xs f.1,partOf F ys f.1 with
     | some x,some y=>match eq f.2.1 x y with
       | some b=>match fs with
         | []=>some b
         | fs=>match BP τ eq fs xs ys with
           | some c=>some (b && c)
           | none=>none
       | none=>none
     | _,_=>none
def eqT (τ:gU):Nat→Nat→AV→AV→Option Bool
 | 0,_,_,_=>none
 | d+1,t,x,y=>
   match τ t with
   | none=>none
   | some T=>
   match T.d,x,y with
   | .bool,.b p,.b q=>some (p == q)
   | .int _,.i k p,.i k' q=>if k=k' then some (decide (p=q)) else none
   | .str,.s p,.s q=>some (p == q)
   | .ptr _,.p0,.p0=>some true
   | .ptr _,.p0,.p _ _ _=>some false
   | .ptr _,.p _ _ _,.p0=>some false
   | .ptr e,.p o g off,.p o' g' off'=>if o=o'∧g=g'∧0<um τ e then some (off == off') else none
   | .slice _,.sl0,.sl0=>some true
   | .slice _,.sl0,.sl _ _ _ _ _=>some false
   | .slice _,.sl _ _ _ _ _,.sl0=>some false
   | .fn,.fn0,.fn0=>some true
   | .fn,.fn0,.fn _ _ _=>some false
   | .fn,.fn _ _ _,.fn0=>some false
   | .map _ _,.qX,.qX=>some true
   | .map _ _,.qX,.mp _ _=>some false
   | .map _ _,.mp _ _,.qX=>some false
   | .xC _,.gK,.gK=>some true
   | .xC _,.gK,.ic _ _=>some false
   | .xC _,.ic _ _,.gK=>some false
   | .xC _,.ic t p,.ic t' q=>if t=t' then(match τ t with | some T=>if T.cmp then eqT τ d t p q else none | none=>none) else some false
   | .st fs,.ag xs,.ag ys=>if T.held then none else BP τ (eqT τ d) fs xs ys
   | _,_,_=>none
section
variable {τ:gU} {P:Program} (bM:τ.Ok P)
include bM
theorem zi {eq eq':Nat→AV→AV→Option Bool} (he:∀t x y b,eq t x y=some b→eq' t x y=some b):∀(fs:List (Nat×Nat×Bool)) (xs ys:List AV) (b:Bool),BP τ eq fs xs ys=some b→sJ P eq' fs xs ys=some b
 | [],_,_,b,h=>by simpa only [BP,sJ] using h
 | f :: fs,xs,ys,b,h=>by
   unfold BP at h
   unfold sJ
   split at h
   ·rename_i hf;rw [if_pos hf];exact zi he fs xs ys b h
   ·rename_i hf;rw [if_neg hf]
    split at h
    ·cases h
    ·rename_i F hF
     rw [bM _ _ hF]
     split at h
     ·rename_i x y hx hy
      simp only [hx,hy]
      split at h
      ·rename_i b1 hb1
       rw [he _ _ _ _ hb1]
       split at h
       ·cases h;cases b <;> rfl
       ·split at h
        ·rename_i b2 hb2
         cases h
         cases b1 with
         | true=>simp only [Bool.true_and];exact zi he _ xs ys b2 hb2
         | false=>rfl
        ·cases h
      ·cases h
     ·cases h
theorem Dp:∀(d t:Nat) (x y:AV) (b:Bool),eqT τ d t x y=some b→qP P d t x y=some b
 | 0,_,_,_,b,h=>by cases h
 | d+1,t,x,y,b,h=>by
   unfold eqT at h
   split at h
   ·cases h
   ·rename_i T hT
    unfold qP
    rw [bM _ _ hT]
    simp only
    split at h <;> (rename_i hd;try simp only [hd])
    all_goals first
     | exact h
     | cases h
     | skip
    ·split at h
     ·rename_i hk
      obtain⟨h1,h2,h3⟩:=hk
      have h4:=h3
      rw [←kJ bM h3] at h4
      rw [if_pos ⟨h1,h2,h4⟩];exact h
     ·cases h
    ·split at h
     ·rename_i ht
      rw [if_pos ht]
      split at h
      ·rename_i T' hT'
       split at h
       ·rename_i hc
        rw [bM _ _ hT',if_pos (by simpa using hc)]
        exact Dp d _ _ _ b h
       ·cases h
      ·cases h
     ·rename_i ht;rw [if_neg ht];exact h
    ·split at h
     ·cases h
     ·rename_i hh
      try rw [hd]
      unfold I7
      simp only
      rw [if_neg hh];exact zi bM (fun t x y b=>Dp d t x y b) _ _ _ b h
end
end Go.cO
namespace Go.cO.YtnbdedokjfpckaaGreatDoor
open Go.Proofs
def yT0:AT:=⟨.other,1,0,.u,false,false,false⟩
def yT1:AT:=⟨.fn,1,8,.fn0,false,false,false⟩
def yT2:AT:=⟨.int .i64,1,8,.i .i64 0,true,false,false⟩
def yT3:AT:=⟨.int .i64,1,8,.i .i64 0,true,false,false⟩
def yT4:AT:=⟨.bool,1,1,.b false,true,false,false⟩
def yT5:AT:=⟨.int .u8,1,1,.i .u8 0,true,false,false⟩
def yT6:AT:=⟨.int .u8,1,1,.i .u8 0,true,false,false⟩
def yT7:AT:=⟨.st [(0,2,false),(1,3,false),(2,4,false),(3,6,false)],4,24,.ag [.i .i64 0,.i .i64 0,.b false,.i .u8 0],true,false,false⟩
def yT8:AT:=⟨.st [(0,2,false),(1,3,false),(2,4,false),(3,6,false)],4,24,.ag [.i .i64 0,.i .i64 0,.b false,.i .u8 0],true,false,false⟩
def yT9:AT:=⟨.str,1,16,.s [],true,false,false⟩
def yT10:AT:=⟨.str,1,16,.s [],true,false,false⟩
def yT11:AT:=⟨.str,1,16,.s [],true,false,false⟩
def yT12:AT:=⟨.int .u64,1,8,.i .u64 0,true,false,false⟩
def yT15:AT:=⟨.ptr 302,1,8,.p0,true,false,false⟩
def yT16:AT:=⟨.ptr 305,1,8,.p0,true,false,false⟩
def yT17:AT:=⟨.ptr 312,1,8,.p0,true,false,false⟩
def yT20:AT:=⟨.xC [],1,16,.gK,true,false,false⟩
def yT21:AT:=⟨.int .i32,1,4,.i .i32 0,true,false,false⟩
def yT22:AT:=⟨.ptr 103,1,8,.p0,true,false,false⟩
def yT23:AT:=⟨.ptr 77,1,8,.p0,true,false,false⟩
def yT24:AT:=⟨.other,1,0,.u,false,false,false⟩
def yT25:AT:=⟨.fn,1,8,.fn0,false,false,false⟩
def yT26:AT:=⟨.fn,1,8,.fn0,false,false,false⟩
def yT27:AT:=⟨.fn,1,8,.fn0,false,false,false⟩
def yT28:AT:=⟨.int .u32,1,4,.i .u32 0,true,false,false⟩
def yT29:AT:=⟨.int .u16,1,2,.i .u16 0,true,false,false⟩
def yT30:AT:=⟨.st [(0,28,false),(1,5,false),(2,29,false),(3,29,false),(4,29,false),(5,29,false),(6,28,false),(7,4,false)],8,24,.ag [.i .u32 0,.i .u8 0,.i .u16 0,.i .u16 0,.i .u16 0,.i .u16 0,.i .u32 0,.b false],true,false,false⟩
def LK:AT:=⟨.st [(0,28,false),(1,5,false),(2,29,false),(3,29,false),(4,29,false),(5,29,false),(6,28,false),(7,4,false)],8,24,.ag [.i .u32 0,.i .u8 0,.i .u16 0,.i .u16 0,.i .u16 0,.i .u16 0,.i .u32 0,.b false],true,false,false⟩
def yT32:AT:=⟨.fn,1,8,.fn0,false,false,false⟩
def yT33:AT:=⟨.other,1,0,.u,false,false,false⟩
def yT34:AT:=⟨.fn,1,8,.fn0,false,false,false⟩
def yT35:AT:=⟨.arr 16 31,128,384,.ag [.i .u32 0,.i .u8 0,.i .u16 0,.i .u16 0,.i .u16 0,.i .u16 0,.i .u32 0,.b false,.i .u32 0,.i .u8 0,.i .u16 0,.i .u16 0,.i .u16 0,.i .u16 0,.i .u32 0,.b false,.i .u32 0,.i .u8 0,.i .u16 0,.i .u16 0,.i .u16 0,.i .u16 0,.i .u32 0,.b false,.i .u32 0,.i .u8 0,.i .u16 0,.i .u16 0,.i .u16 0,.i .u16 0,.i .u32 0,.b false,.i .u32 0,.i .u8 0,.i .u16 0,.i .u16 0,.i .u16 0,.i .u16 0,.i .u32 0,.b false,.i .u32 0,.i .u8 0,.i .u16 0,.i .u16 0,.i .u16 0,.i .u16 0,.i .u32 0,.b false,.i .u32 0,.i .u8 0,.i .u16 0,.i .u16 0,.i .u16 0,.i .u16 0,.i .u32 0,.b false,.i .u32 0,.i .u8 0,.i .u16 0,.i .u16 0,.i .u16 0,.i .u16 0,.i .u32 0,.b false,.i .u32 0,.i .u8 0,.i .u16 0,.i .u16 0,.i .u16 0,.i .u16 0,.i .u32 0,.b false,.i .u32 0,.i .u8 0,.i .u16 0,.i .u16 0,.i .u16 0,.i .u16 0,.i .u32 0,.b false,.i .u32 0,.i .u8 0,.i .u16 0,.i .u16 0,.i .u16 0,.i .u16 0,.i .u32 0,.b false,.i .u32 0,.i .u8 0,.i .u16 0,.i .u16 0,.i .u16 0,.i .u16 0,.i .u32 0,.b false,.i .u32 0,.i .u8 0,.i .u16 0,.i .u16 0,.i .u16 0,.i .u16 0,.i .u32 0,.b false,.i .u32 0,.i .u8 0,.i .u16 0,.i .u16 0,.i .u16 0,.i .u16 0,.i .u32 0,.b false,.i .u32 0,.i .u8 0,.i .u16 0,.i .u16 0,.i .u16 0,.i .u16 0,.i .u32 0,.b false,.i .u32 0,.i .u8 0,.i .u16 0,.i .u16 0,.i .u16 0,.i .u16 0,.i .u32 0,.b false],true,false,false⟩
def yT36:AT:=⟨.st [(0,35,false),(128,31,false)],136,408,.ag [.i .u32 0,.i .u8 0,.i .u16 0,.i .u16 0,.i .u16 0,.i .u16 0,.i .u32 0,.b false,.i .u32 0,.i .u8 0,.i .u16 0,.i .u16 0,.i .u16 0,.i .u16 0,.i .u32 0,.b false,.i .u32 0,.i .u8 0,.i .u16 0,.i .u16 0,.i .u16 0,.i .u16 0,.i .u32 0,.b false,.i .u32 0,.i .u8 0,.i .u16 0,.i .u16 0,.i .u16 0,.i .u16 0,.i .u32 0,.b false,.i .u32 0,.i .u8 0,.i .u16 0,.i .u16 0,.i .u16 0,.i .u16 0,.i .u32 0,.b false,.i .u32 0,.i .u8 0,.i .u16 0,.i .u16 0,.i .u16 0,.i .u16 0,.i .u32 0,.b false,.i .u32 0,.i .u8 0,.i .u16 0,.i .u16 0,.i .u16 0,.i .u16 0,.i .u32 0,.b false,.i .u32 0,.i .u8 0,.i .u16 0,.i .u16 0,.i .u16 0,.i .u16 0,.i .u32 0,.b false,.i .u32 0,.i .u8 0,.i .u16 0,.i .u16 0,.i .u16 0,.i .u16 0,.i .u32 0,.b false,.i .u32 0,.i .u8 0,.i .u16 0,.i .u16 0,.i .u16 0,.i .u16 0,.i .u32 0,.b false,.i .u32 0,.i .u8 0,.i .u16 0,.i .u16 0,.i .u16 0,.i .u16 0,.i .u32 0,.b false,.i .u32 0,.i .u8 0,.i .u16 0,.i .u16 0,.i .u16 0,.i .u16 0,.i .u32 0,.b false,.i .u32 0,.i .u8 0,.i .u16 0,.i .u16 0,.i .u16 0,.i .u16 0,.i .u32 0,.b false,.i .u32 0,.i .u8 0,.i .u16 0,.i .u16 0,.i .u16 0,.i .u16 0,.i .u32 0,.b false,.i .u32 0,.i .u8 0,.i .u16 0,.i .u16 0,.i .u16 0,.i .u16 0,.i .u32 0,.b false,.i .u32 0,.i .u8 0,.i .u16 0,.i .u16 0,.i .u16 0,.i .u16 0,.i .u32 0,.b false,.i .u32 0,.i .u8 0,.i .u16 0,.i .u16 0,.i .u16 0,.i .u16 0,.i .u32 0,.b false],true,false,false⟩
def yT37:AT:=⟨.st [(0,35,false),(128,31,false)],136,408,.ag [.i .u32 0,.i .u8 0,.i .u16 0,.i .u16 0,.i .u16 0,.i .u16 0,.i .u32 0,.b false,.i .u32 0,.i .u8 0,.i .u16 0,.i .u16 0,.i .u16 0,.i .u16 0,.i .u32 0,.b false,.i .u32 0,.i .u8 0,.i .u16 0,.i .u16 0,.i .u16 0,.i .u16 0,.i .u32 0,.b false,.i .u32 0,.i .u8 0,.i .u16 0,.i .u16 0,.i .u16 0,.i .u16 0,.i .u32 0,.b false,.i .u32 0,.i .u8 0,.i .u16 0,.i .u16 0,.i .u16 0,.i .u16 0,.i .u32 0,.b false,.i .u32 0,.i .u8 0,.i .u16 0,.i .u16 0,.i .u16 0,.i .u16 0,.i .u32 0,.b false,.i .u32 0,.i .u8 0,.i .u16 0,.i .u16 0,.i .u16 0,.i .u16 0,.i .u32 0,.b false,.i .u32 0,.i .u8 0,.i .u16 0,.i .u16 0,.i .u16 0,.i .u16 0,.i .u32 0,.b false,.i .u32 0,.i .u8 0,.i .u16 0,.i .u16 0,.i .u16 0,.i .u16 0,.i .u32 0,.b false,.i .u32 0,.i .u8 0,.i .u16 0,.i .u16 0,.i .u16 0,.i .u16 0,.i .u32 0,.b false,.i .u32 0,.i .u8 0,.i .u16 0,.i .u16 0,.i .u16 0,.i .u16 0,.i .u32 0,.b false,.i .u32 0,.i .u8 0,.i .u16 0,.i .u16 0,.i .u16 0,.i .u16 0,.i .u32 0,.b false,.i .u32 0,.i .u8 0,.i .u16 0,.i .u16 0,.i .u16 0,.i .u16 0,.i .u32 0,.b false,.i .u32 0,.i .u8 0,.i .u16 0,.i .u16 0,.i .u16 0,.i .u16 0,.i .u32 0,.b false,.i .u32 0,.i .u8 0,.i .u16 0,.i .u16 0,.i .u16 0,.i .u16 0,.i .u32 0,.b false,.i .u32 0,.i .u8 0,.i .u16 0,.i .u16 0,.i .u16 0,.i .u16 0,.i .u32 0,.b false,.i .u32 0,.i .u8 0,.i .u16 0,.i .u16 0,.i .u16 0,.i .u16 0,.i .u32 0,.b false],true,false,false⟩
def yT38:AT:=⟨.int .i64,1,8,.i .i64 0,true,false,false⟩
def O1:AT:=⟨.int .u64,1,8,.i .u64 0,true,false,false⟩
def yT40:AT:=⟨.st [(0,37,false),(136,3,false),(137,38,false),(138,3,false),(139,39,false)],140,440,.ag [.i .u32 0,.i .u8 0,.i .u16 0,.i .u16 0,.i .u16 0,.i .u16 0,.i .u32 0,.b false,.i .u32 0,.i .u8 0,.i .u16 0,.i .u16 0,.i .u16 0,.i .u16 0,.i .u32 0,.b false,.i .u32 0,.i .u8 0,.i .u16 0,.i .u16 0,.i .u16 0,.i .u16 0,.i .u32 0,.b false,.i .u32 0,.i .u8 0,.i .u16 0,.i .u16 0,.i .u16 0,.i .u16 0,.i .u32 0,.b false,.i .u32 0,.i .u8 0,.i .u16 0,.i .u16 0,.i .u16 0,.i .u16 0,.i .u32 0,.b false,.i .u32 0,.i .u8 0,.i .u16 0,.i .u16 0,.i .u16 0,.i .u16 0,.i .u32 0,.b false,.i .u32 0,.i .u8 0,.i .u16 0,.i .u16 0,.i .u16 0,.i .u16 0,.i .u32 0,.b false,.i .u32 0,.i .u8 0,.i .u16 0,.i .u16 0,.i .u16 0,.i .u16 0,.i .u32 0,.b false,.i .u32 0,.i .u8 0,.i .u16 0,.i .u16 0,.i .u16 0,.i .u16 0,.i .u32 0,.b false,.i .u32 0,.i .u8 0,.i .u16 0,.i .u16 0,.i .u16 0,.i .u16 0,.i .u32 0,.b false,.i .u32 0,.i .u8 0,.i .u16 0,.i .u16 0,.i .u16 0,.i .u16 0,.i .u32 0,.b false,.i .u32 0,.i .u8 0,.i .u16 0,.i .u16 0,.i .u16 0,.i .u16 0,.i .u32 0,.b false,.i .u32 0,.i .u8 0,.i .u16 0,.i .u16 0,.i .u16 0,.i .u16 0,.i .u32 0,.b false,.i .u32 0,.i .u8 0,.i .u16 0,.i .u16 0,.i .u16 0,.i .u16 0,.i .u32 0,.b false,.i .u32 0,.i .u8 0,.i .u16 0,.i .u16 0,.i .u16 0,.i .u16 0,.i .u32 0,.b false,.i .u32 0,.i .u8 0,.i .u16 0,.i .u16 0,.i .u16 0,.i .u16 0,.i .u32 0,.b false,.i .u32 0,.i .u8 0,.i .u16 0,.i .u16 0,.i .u16 0,.i .u16 0,.i .u32 0,.b false,.i .i64 0,.i .i64 0,.i .i64 0,.i .u64 0],true,false,false⟩
def Dq:AT:=⟨.st [(0,37,false),(136,3,false),(137,38,false),(138,3,false),(139,39,false)],140,440,.ag [.i .u32 0,.i .u8 0,.i .u16 0,.i .u16 0,.i .u16 0,.i .u16 0,.i .u32 0,.b false,.i .u32 0,.i .u8 0,.i .u16 0,.i .u16 0,.i .u16 0,.i .u16 0,.i .u32 0,.b false,.i .u32 0,.i .u8 0,.i .u16 0,.i .u16 0,.i .u16 0,.i .u16 0,.i .u32 0,.b false,.i .u32 0,.i .u8 0,.i .u16 0,.i .u16 0,.i .u16 0,.i .u16 0,.i .u32 0,.b false,.i .u32 0,.i .u8 0,.i .u16 0,.i .u16 0,.i .u16 0,.i .u16 0,.i .u32 0,.b false,.i .u32 0,.i .u8 0,.i .u16 0,.i .u16 0,.i .u16 0,.i .u16 0,.i .u32 0,.b false,.i .u32 0,.i .u8 0,.i .u16 0,.i .u16 0,.i .u16 0,.i .u16 0,.i .u32 0,.b false,.i .u32 0,.i .u8 0,.i .u16 0,.i .u16 0,.i .u16 0,.i .u16 0,.i .u32 0,.b false,.i .u32 0,.i .u8 0,.i .u16 0,.i .u16 0,.i .u16 0,.i .u16 0,.i .u32 0,.b false,.i .u32 0,.i .u8 0,.i .u16 0,.i .u16 0,.i .u16 0,.i .u16 0,.i .u32 0,.b false,.i .u32 0,.i .u8 0,.i .u16 0,.i .u16 0,.i .u16 0,.i .u16 0,.i .u32 0,.b false,.i .u32 0,.i .u8 0,.i .u16 0,.i .u16 0,.i .u16 0,.i .u16 0,.i .u32 0,.b false,.i .u32 0,.i .u8 0,.i .u16 0,.i .u16 0,.i .u16 0,.i .u16 0,.i .u32 0,.b false,.i .u32 0,.i .u8 0,.i .u16 0,.i .u16 0,.i .u16 0,.i .u16 0,.i .u32 0,.b false,.i .u32 0,.i .u8 0,.i .u16 0,.i .u16 0,.i .u16 0,.i .u16 0,.i .u32 0,.b false,.i .u32 0,.i .u8 0,.i .u16 0,.i .u16 0,.i .u16 0,.i .u16 0,.i .u32 0,.b false,.i .u32 0,.i .u8 0,.i .u16 0,.i .u16 0,.i .u16 0,.i .u16 0,.i .u32 0,.b false,.i .i64 0,.i .i64 0,.i .i64 0,.i .u64 0],true,false,false⟩
def yT42:AT:=⟨.fn,1,8,.fn0,false,false,false⟩
def yT43:AT:=⟨.fn,1,8,.fn0,false,false,false⟩
def yT44:AT:=⟨.arr 4 9,4,64,.ag [.s [],.s [],.s [],.s []],true,false,false⟩
def yT45:AT:=⟨.slice 5,1,24,.sl0,false,false,false⟩
def yT46:AT:=⟨.fn,1,8,.fn0,false,false,false⟩
def yT47:AT:=⟨.fn,1,8,.fn0,false,false,false⟩
def yT48:AT:=⟨.other,1,0,.u,false,false,false⟩
def yT49:AT:=⟨.fn,1,8,.fn0,false,false,false⟩
def yT50:AT:=⟨.st [(0,28,false),(1,28,false)],2,8,.ag [.i .u32 0,.i .u32 0],true,false,false⟩
def yT51:AT:=⟨.st [(0,28,false),(1,28,false)],2,8,.ag [.i .u32 0,.i .u32 0],true,false,false⟩
def yT52:AT:=⟨.fn,1,8,.fn0,false,false,false⟩
def yT53:AT:=⟨.ptr 96,1,8,.p0,true,false,false⟩
def yT54:AT:=⟨.fn,1,8,.fn0,false,false,false⟩
def yT55:AT:=⟨.fn,1,8,.fn0,false,false,false⟩
def yT56:AT:=⟨.fn,1,8,.fn0,false,false,false⟩
def yT57:AT:=⟨.fn,1,8,.fn0,false,false,false⟩
def yT58:AT:=⟨.fn,1,8,.fn0,false,false,false⟩
def yT59:AT:=⟨.slice 31,1,24,.sl0,false,false,false⟩
def yT60:AT:=⟨.fn,1,8,.fn0,false,false,false⟩
def yT61:AT:=⟨.int .i64,1,8,.i .i64 0,true,false,false⟩
def yT62:AT:=⟨.other,1,0,.u,false,false,false⟩
def yT63:AT:=⟨.fn,1,8,.fn0,false,false,false⟩
def yT64:AT:=⟨.slice 28,1,24,.sl0,false,false,false⟩
def yT65:AT:=⟨.xC [("Error",300)],1,16,.gK,true,false,true⟩
def yT66:AT:=⟨.xC [("Error",300)],1,16,.gK,true,false,true⟩
def yT67:AT:=⟨.other,1,0,.u,false,false,false⟩
def yT68:AT:=⟨.fn,1,8,.fn0,false,false,false⟩
def yT69:AT:=⟨.fn,1,8,.fn0,false,false,false⟩
def yT70:AT:=⟨.fn,1,8,.fn0,false,false,false⟩
def yT71:AT:=⟨.st [(0,37,false)],136,408,.ag [.i .u32 0,.i .u8 0,.i .u16 0,.i .u16 0,.i .u16 0,.i .u16 0,.i .u32 0,.b false,.i .u32 0,.i .u8 0,.i .u16 0,.i .u16 0,.i .u16 0,.i .u16 0,.i .u32 0,.b false,.i .u32 0,.i .u8 0,.i .u16 0,.i .u16 0,.i .u16 0,.i .u16 0,.i .u32 0,.b false,.i .u32 0,.i .u8 0,.i .u16 0,.i .u16 0,.i .u16 0,.i .u16 0,.i .u32 0,.b false,.i .u32 0,.i .u8 0,.i .u16 0,.i .u16 0,.i .u16 0,.i .u16 0,.i .u32 0,.b false,.i .u32 0,.i .u8 0,.i .u16 0,.i .u16 0,.i .u16 0,.i .u16 0,.i .u32 0,.b false,.i .u32 0,.i .u8 0,.i .u16 0,.i .u16 0,.i .u16 0,.i .u16 0,.i .u32 0,.b false,.i .u32 0,.i .u8 0,.i .u16 0,.i .u16 0,.i .u16 0,.i .u16 0,.i .u32 0,.b false,.i .u32 0,.i .u8 0,.i .u16 0,.i .u16 0,.i .u16 0,.i .u16 0,.i .u32 0,.b false,.i .u32 0,.i .u8 0,.i .u16 0,.i .u16 0,.i .u16 0,.i .u16 0,.i .u32 0,.b false,.i .u32 0,.i .u8 0,.i .u16 0,.i .u16 0,.i .u16 0,.i .u16 0,.i .u32 0,.b false,.i .u32 0,.i .u8 0,.i .u16 0,.i .u16 0,.i .u16 0,.i .u16 0,.i .u32 0,.b false,.i .u32 0,.i .u8 0,.i .u16 0,.i .u16 0,.i .u16 0,.i .u16 0,.i .u32 0,.b false,.i .u32 0,.i .u8 0,.i .u16 0,.i .u16 0,.i .u16 0,.i .u16 0,.i .u32 0,.b false,.i .u32 0,.i .u8 0,.i .u16 0,.i .u16 0,.i .u16 0,.i .u16 0,.i .u32 0,.b false,.i .u32 0,.i .u8 0,.i .u16 0,.i .u16 0,.i .u16 0,.i .u16 0,.i .u32 0,.b false,.i .u32 0,.i .u8 0,.i .u16 0,.i .u16 0,.i .u16 0,.i .u16 0,.i .u32 0,.b false],true,false,false⟩
def yT72:AT:=⟨.st [(0,37,false)],136,408,.ag [.i .u32 0,.i .u8 0,.i .u16 0,.i .u16 0,.i .u16 0,.i .u16 0,.i .u32 0,.b false,.i .u32 0,.i .u8 0,.i .u16 0,.i .u16 0,.i .u16 0,.i .u16 0,.i .u32 0,.b false,.i .u32 0,.i .u8 0,.i .u16 0,.i .u16 0,.i .u16 0,.i .u16 0,.i .u32 0,.b false,.i .u32 0,.i .u8 0,.i .u16 0,.i .u16 0,.i .u16 0,.i .u16 0,.i .u32 0,.b false,.i .u32 0,.i .u8 0,.i .u16 0,.i .u16 0,.i .u16 0,.i .u16 0,.i .u32 0,.b false,.i .u32 0,.i .u8 0,.i .u16 0,.i .u16 0,.i .u16 0,.i .u16 0,.i .u32 0,.b false,.i .u32 0,.i .u8 0,.i .u16 0,.i .u16 0,.i .u16 0,.i .u16 0,.i .u32 0,.b false,.i .u32 0,.i .u8 0,.i .u16 0,.i .u16 0,.i .u16 0,.i .u16 0,.i .u32 0,.b false,.i .u32 0,.i .u8 0,.i .u16 0,.i .u16 0,.i .u16 0,.i .u16 0,.i .u32 0,.b false,.i .u32 0,.i .u8 0,.i .u16 0,.i .u16 0,.i .u16 0,.i .u16 0,.i .u32 0,.b false,.i .u32 0,.i .u8 0,.i .u16 0,.i .u16 0,.i .u16 0,.i .u16 0,.i .u32 0,.b false,.i .u32 0,.i .u8 0,.i .u16 0,.i .u16 0,.i .u16 0,.i .u16 0,.i .u32 0,.b false,.i .u32 0,.i .u8 0,.i .u16 0,.i .u16 0,.i .u16 0,.i .u16 0,.i .u32 0,.b false,.i .u32 0,.i .u8 0,.i .u16 0,.i .u16 0,.i .u16 0,.i .u16 0,.i .u32 0,.b false,.i .u32 0,.i .u8 0,.i .u16 0,.i .u16 0,.i .u16 0,.i .u16 0,.i .u32 0,.b false,.i .u32 0,.i .u8 0,.i .u16 0,.i .u16 0,.i .u16 0,.i .u16 0,.i .u32 0,.b false,.i .u32 0,.i .u8 0,.i .u16 0,.i .u16 0,.i .u16 0,.i .u16 0,.i .u32 0,.b false],true,false,false⟩
def yT73:AT:=⟨.ptr 131,1,8,.p0,true,false,false⟩
def yT74:AT:=⟨.st [(0,73,false)],1,8,.ag [.p0],true,false,false⟩
def yT75:AT:=⟨.st [(0,73,false)],1,8,.ag [.p0],true,false,false⟩
def yT76:AT:=⟨.st [(0,72,false),(136,75,false),(137,3,false),(138,38,false),(139,39,false)],140,440,.ag [.i .u32 0,.i .u8 0,.i .u16 0,.i .u16 0,.i .u16 0,.i .u16 0,.i .u32 0,.b false,.i .u32 0,.i .u8 0,.i .u16 0,.i .u16 0,.i .u16 0,.i .u16 0,.i .u32 0,.b false,.i .u32 0,.i .u8 0,.i .u16 0,.i .u16 0,.i .u16 0,.i .u16 0,.i .u32 0,.b false,.i .u32 0,.i .u8 0,.i .u16 0,.i .u16 0,.i .u16 0,.i .u16 0,.i .u32 0,.b false,.i .u32 0,.i .u8 0,.i .u16 0,.i .u16 0,.i .u16 0,.i .u16 0,.i .u32 0,.b false,.i .u32 0,.i .u8 0,.i .u16 0,.i .u16 0,.i .u16 0,.i .u16 0,.i .u32 0,.b false,.i .u32 0,.i .u8 0,.i .u16 0,.i .u16 0,.i .u16 0,.i .u16 0,.i .u32 0,.b false,.i .u32 0,.i .u8 0,.i .u16 0,.i .u16 0,.i .u16 0,.i .u16 0,.i .u32 0,.b false,.i .u32 0,.i .u8 0,.i .u16 0,.i .u16 0,.i .u16 0,.i .u16 0,.i .u32 0,.b false,.i .u32 0,.i .u8 0,.i .u16 0,.i .u16 0,.i .u16 0,.i .u16 0,.i .u32 0,.b false,.i .u32 0,.i .u8 0,.i .u16 0,.i .u16 0,.i .u16 0,.i .u16 0,.i .u32 0,.b false,.i .u32 0,.i .u8 0,.i .u16 0,.i .u16 0,.i .u16 0,.i .u16 0,.i .u32 0,.b false,.i .u32 0,.i .u8 0,.i .u16 0,.i .u16 0,.i .u16 0,.i .u16 0,.i .u32 0,.b false,.i .u32 0,.i .u8 0,.i .u16 0,.i .u16 0,.i .u16 0,.i .u16 0,.i .u32 0,.b false,.i .u32 0,.i .u8 0,.i .u16 0,.i .u16 0,.i .u16 0,.i .u16 0,.i .u32 0,.b false,.i .u32 0,.i .u8 0,.i .u16 0,.i .u16 0,.i .u16 0,.i .u16 0,.i .u32 0,.b false,.i .u32 0,.i .u8 0,.i .u16 0,.i .u16 0,.i .u16 0,.i .u16 0,.i .u32 0,.b false,.p0,.i .i64 0,.i .i64 0,.i .u64 0],true,false,false⟩
def yT77:AT:=⟨.st [(0,72,false),(136,75,false),(137,3,false),(138,38,false),(139,39,false)],140,440,.ag [.i .u32 0,.i .u8 0,.i .u16 0,.i .u16 0,.i .u16 0,.i .u16 0,.i .u32 0,.b false,.i .u32 0,.i .u8 0,.i .u16 0,.i .u16 0,.i .u16 0,.i .u16 0,.i .u32 0,.b false,.i .u32 0,.i .u8 0,.i .u16 0,.i .u16 0,.i .u16 0,.i .u16 0,.i .u32 0,.b false,.i .u32 0,.i .u8 0,.i .u16 0,.i .u16 0,.i .u16 0,.i .u16 0,.i .u32 0,.b false,.i .u32 0,.i .u8 0,.i .u16 0,.i .u16 0,.i .u16 0,.i .u16 0,.i .u32 0,.b false,.i .u32 0,.i .u8 0,.i .u16 0,.i .u16 0,.i .u16 0,.i .u16 0,.i .u32 0,.b false,.i .u32 0,.i .u8 0,.i .u16 0,.i .u16 0,.i .u16 0,.i .u16 0,.i .u32 0,.b false,.i .u32 0,.i .u8 0,.i .u16 0,.i .u16 0,.i .u16 0,.i .u16 0,.i .u32 0,.b false,.i .u32 0,.i .u8 0,.i .u16 0,.i .u16 0,.i .u16 0,.i .u16 0,.i .u32 0,.b false,.i .u32 0,.i .u8 0,.i .u16 0,.i .u16 0,.i .u16 0,.i .u16 0,.i .u32 0,.b false,.i .u32 0,.i .u8 0,.i .u16 0,.i .u16 0,.i .u16 0,.i .u16 0,.i .u32 0,.b false,.i .u32 0,.i .u8 0,.i .u16 0,.i .u16 0,.i .u16 0,.i .u16 0,.i .u32 0,.b false,.i .u32 0,.i .u8 0,.i .u16 0,.i .u16 0,.i .u16 0,.i .u16 0,.i .u32 0,.b false,.i .u32 0,.i .u8 0,.i .u16 0,.i .u16 0,.i .u16 0,.i .u16 0,.i .u32 0,.b false,.i .u32 0,.i .u8 0,.i .u16 0,.i .u16 0,.i .u16 0,.i .u16 0,.i .u32 0,.b false,.i .u32 0,.i .u8 0,.i .u16 0,.i .u16 0,.i .u16 0,.i .u16 0,.i .u32 0,.b false,.i .u32 0,.i .u8 0,.i .u16 0,.i .u16 0,.i .u16 0,.i .u16 0,.i .u32 0,.b false,.p0,.i .i64 0,.i .i64 0,.i .u64 0],true,false,false⟩
def yT78:AT:=⟨.fn,1,8,.fn0,false,false,false⟩
def yT79:AT:=⟨.st [(0,3,false),(1,3,false),(2,3,false),(3,3,false),(4,3,false)],5,40,.ag [.i .i64 0,.i .i64 0,.i .i64 0,.i .i64 0,.i .i64 0],true,false,false⟩
def yT80:AT:=⟨.st [(0,3,false),(1,3,false),(2,3,false),(3,3,false),(4,3,false)],5,40,.ag [.i .i64 0,.i .i64 0,.i .i64 0,.i .i64 0,.i .i64 0],true,false,false⟩
def yT81:AT:=⟨.other,1,0,.u,false,false,false⟩
def yT82:AT:=⟨.fn,1,8,.fn0,false,false,false⟩
def yT83:AT:=⟨.fn,1,8,.fn0,false,false,false⟩
def yT84:AT:=⟨.other,1,0,.u,false,false,false⟩
def yT85:AT:=⟨.fn,1,8,.fn0,false,false,false⟩
def yT86:AT:=⟨.fn,1,8,.fn0,false,false,false⟩
def yT87:AT:=⟨.fn,1,8,.fn0,false,false,false⟩
def yT88:AT:=⟨.fn,1,8,.fn0,false,false,false⟩
def yT89:AT:=⟨.fn,1,8,.fn0,false,false,false⟩
def yT90:AT:=⟨.fn,1,8,.fn0,false,false,false⟩
def yT91:AT:=⟨.other,1,0,.u,false,false,false⟩
def yT92:AT:=⟨.fn,1,8,.fn0,false,false,false⟩
def yT93:AT:=⟨.ptr 152,1,8,.p0,true,false,false⟩
def yT94:AT:=⟨.fn,1,8,.fn0,false,false,false⟩
def yT95:AT:=⟨.st [(0,93,false)],1,8,.ag [.p0],true,false,false⟩
def yT96:AT:=⟨.st [(0,93,false)],1,8,.ag [.p0],true,false,false⟩
def yT97:AT:=⟨.fn,1,8,.fn0,false,false,false⟩
def yT98:AT:=⟨.other,1,0,.u,false,false,false⟩
def yT99:AT:=⟨.fn,1,8,.fn0,false,false,false⟩
def yT100:AT:=⟨.fn,1,8,.fn0,false,false,false⟩
def yT101:AT:=⟨.fn,1,8,.fn0,false,false,false⟩
def yT102:AT:=⟨.st [(0,93,false),(1,45,false)],2,32,.ag [.p0,.sl0],false,false,false⟩
def yT103:AT:=⟨.st [(0,93,false),(1,45,false)],2,32,.ag [.p0,.sl0],false,false,false⟩
def yT104:AT:=⟨.fn,1,8,.fn0,false,false,false⟩
def yT105:AT:=⟨.map 9 3,1,8,.qX,false,false,false⟩
def yT106:AT:=⟨.slice 112,1,24,.sl0,false,false,false⟩
def yT107:AT:=⟨.slice 9,1,24,.sl0,false,false,false⟩
def yT108:AT:=⟨.other,1,0,.u,false,false,false⟩
def yT109:AT:=⟨.fn,1,8,.fn0,false,false,false⟩
def yT110:AT:=⟨.fn,1,8,.fn0,false,false,false⟩
def yT111:AT:=⟨.st [(0,80,false),(5,28,false),(6,9,false),(7,3,false)],8,72,.ag [.i .i64 0,.i .i64 0,.i .i64 0,.i .i64 0,.i .i64 0,.i .u32 0,.s [],.i .i64 0],true,false,false⟩
def yT112:AT:=⟨.st [(0,80,false),(5,28,false),(6,9,false),(7,3,false)],8,72,.ag [.i .i64 0,.i .i64 0,.i .i64 0,.i .i64 0,.i .i64 0,.i .u32 0,.s [],.i .i64 0],true,false,false⟩
def yT113:AT:=⟨.other,1,0,.u,false,false,false⟩
def yT114:AT:=⟨.fn,1,8,.fn0,false,false,false⟩
def yT115:AT:=⟨.fn,1,8,.fn0,false,false,false⟩
def yT116:AT:=⟨.fn,1,8,.fn0,false,false,false⟩
def yT117:AT:=⟨.other,1,0,.u,false,false,false⟩
def yT118:AT:=⟨.fn,1,8,.fn0,false,false,false⟩
def yT119:AT:=⟨.fn,1,8,.fn0,false,false,false⟩
def yT120:AT:=⟨.other,1,0,.u,false,false,false⟩
def yT121:AT:=⟨.fn,1,8,.fn0,false,false,false⟩
def yT122:AT:=⟨.fn,1,8,.fn0,false,false,false⟩
def yT123:AT:=⟨.fn,1,8,.fn0,false,false,false⟩
def yT124:AT:=⟨.fn,1,8,.fn0,false,false,false⟩
def yT125:AT:=⟨.other,1,0,.u,false,false,false⟩
def yT126:AT:=⟨.fn,1,8,.fn0,false,false,false⟩
def yT127:AT:=⟨.fn,1,8,.fn0,false,false,false⟩
def yT128:AT:=⟨.fn,1,8,.fn0,false,false,false⟩
def yT129:AT:=⟨.fn,1,8,.fn0,false,false,false⟩
def yT130:AT:=⟨.st [(0,59,false)],1,24,.ag [.sl0],false,false,false⟩
def yT131:AT:=⟨.st [(0,59,false)],1,24,.ag [.sl0],false,false,false⟩
def yT132:AT:=⟨.fn,1,8,.fn0,false,false,false⟩
def yT133:AT:=⟨.fn,1,8,.fn0,false,false,false⟩
def yT134:AT:=⟨.fn,1,8,.fn0,false,false,false⟩
def yT135:AT:=⟨.fn,1,8,.fn0,false,false,false⟩
def yT136:AT:=⟨.fn,1,8,.fn0,false,false,false⟩
def yT137:AT:=⟨.fn,1,8,.fn0,false,false,false⟩
def yT138:AT:=⟨.fn,1,8,.fn0,false,false,false⟩
def yT139:AT:=⟨.other,1,0,.u,false,false,false⟩
def yT140:AT:=⟨.fn,1,8,.fn0,false,false,false⟩
def yT141:AT:=⟨.other,1,0,.u,false,false,false⟩
def yT142:AT:=⟨.fn,1,8,.fn0,false,false,false⟩
def yT143:AT:=⟨.other,1,0,.u,false,false,false⟩
def yT144:AT:=⟨.fn,1,8,.fn0,false,false,false⟩
def yT145:AT:=⟨.fn,1,8,.fn0,false,false,false⟩
def yT146:AT:=⟨.fn,1,8,.fn0,false,false,false⟩
def yT147:AT:=⟨.fn,1,8,.fn0,false,false,false⟩
def yT148:AT:=⟨.other,1,0,.u,false,false,false⟩
def yT149:AT:=⟨.fn,1,8,.fn0,false,false,false⟩
def yT150:AT:=⟨.slice 39,1,24,.sl0,false,false,false⟩
def yT151:AT:=⟨.st [(0,3,false),(1,150,false)],2,32,.ag [.i .i64 0,.sl0],false,false,false⟩
def yT152:AT:=⟨.st [(0,3,false),(1,150,false)],2,32,.ag [.i .i64 0,.sl0],false,false,false⟩
def yT153:AT:=⟨.fn,1,8,.fn0,false,false,false⟩
def yT154:AT:=⟨.fn,1,8,.fn0,false,false,false⟩
def yT155:AT:=⟨.fn,1,8,.fn0,false,false,false⟩
def yT156:AT:=⟨.fn,1,8,.fn0,false,false,false⟩
def yT157:AT:=⟨.fn,1,8,.fn0,false,false,false⟩
def yT158:AT:=⟨.fn,1,8,.fn0,false,false,false⟩
def yT159:AT:=⟨.fn,1,8,.fn0,false,false,false⟩
def yT160:AT:=⟨.ptr 37,1,8,.p0,true,false,false⟩
def yT161:AT:=⟨.fn,1,8,.fn0,false,false,false⟩
def yT162:AT:=⟨.ptr 31,1,8,.p0,true,false,false⟩
def yT163:AT:=⟨.fn,1,8,.fn0,false,false,false⟩
def yT164:AT:=⟨.other,1,0,.u,false,false,false⟩
def yT165:AT:=⟨.fn,1,8,.fn0,false,false,false⟩
def yT166:AT:=⟨.fn,1,8,.fn0,false,false,false⟩
def yT167:AT:=⟨.ptr 169,1,8,.p0,true,false,false⟩
def yT168:AT:=⟨.st [(0,61,false),(1,3,false)],2,16,.ag [.i .i64 0,.i .i64 0],true,false,false⟩
def yT169:AT:=⟨.st [(0,61,false),(1,3,false)],2,16,.ag [.i .i64 0,.i .i64 0],true,false,false⟩
def yT170:AT:=⟨.fn,1,8,.fn0,false,false,false⟩
def yT171:AT:=⟨.fn,1,8,.fn0,false,false,false⟩
def yT172:AT:=⟨.fn,1,8,.fn0,false,false,false⟩
def yT173:AT:=⟨.fn,1,8,.fn0,false,false,false⟩
def yT174:AT:=⟨.fn,1,8,.fn0,false,false,false⟩
def yT175:AT:=⟨.fn,1,8,.fn0,false,false,false⟩
def yT176:AT:=⟨.fn,1,8,.fn0,false,false,false⟩
def yT177:AT:=⟨.fn,1,8,.fn0,false,false,false⟩
def yT178:AT:=⟨.int .u64,1,8,.i .u64 0,true,false,false⟩
def yT179:AT:=⟨.ptr 3,1,8,.p0,true,false,false⟩
def yT180:AT:=⟨.fn,1,8,.fn0,false,false,false⟩
def yT181:AT:=⟨.arr 4 5,4,4,.ag [.i .u8 0,.i .u8 0,.i .u8 0,.i .u8 0],true,false,false⟩
def yT182:AT:=⟨.fn,1,8,.fn0,false,false,false⟩
def yT183:AT:=⟨.fn,1,8,.fn0,false,false,false⟩
def yT184:AT:=⟨.fn,1,8,.fn0,false,false,false⟩
def yT185:AT:=⟨.fn,1,8,.fn0,false,false,false⟩
def yT186:AT:=⟨.fn,1,8,.fn0,false,false,false⟩
def yT187:AT:=⟨.fn,1,8,.fn0,false,false,false⟩
def yT188:AT:=⟨.st [(0,31,false)],8,24,.ag [.i .u32 0,.i .u8 0,.i .u16 0,.i .u16 0,.i .u16 0,.i .u16 0,.i .u32 0,.b false],true,false,false⟩
def yT189:AT:=⟨.st [(0,31,false)],8,24,.ag [.i .u32 0,.i .u8 0,.i .u16 0,.i .u16 0,.i .u16 0,.i .u16 0,.i .u32 0,.b false],true,false,false⟩
def yT190:AT:=⟨.fn,1,8,.fn0,false,false,false⟩
def yT191:AT:=⟨.fn,1,8,.fn0,false,false,false⟩
def yT192:AT:=⟨.slice 3,1,24,.sl0,false,false,false⟩
def yT193:AT:=⟨.fn,1,8,.fn0,false,false,false⟩
def yT194:AT:=⟨.fn,1,8,.fn0,false,false,false⟩
def yT195:AT:=⟨.fn,1,8,.fn0,false,false,false⟩
def yT196:AT:=⟨.fn,1,8,.fn0,false,false,false⟩
def yT197:AT:=⟨.slice 201,1,24,.sl0,false,false,false⟩
def yT198:AT:=⟨.fn,1,8,.fn0,false,false,false⟩
def yT199:AT:=⟨.fn,1,8,.fn0,false,false,false⟩
def yT200:AT:=⟨.st [(0,3,false),(1,199,false)],2,16,.ag [.i .i64 0,.fn0],false,false,false⟩
def yT201:AT:=⟨.st [(0,3,false),(1,199,false)],2,16,.ag [.i .i64 0,.fn0],false,false,false⟩
def yT202:AT:=⟨.other,1,0,.u,false,false,false⟩
def yT203:AT:=⟨.fn,1,8,.fn0,false,false,false⟩
def yT204:AT:=⟨.fn,1,8,.fn0,false,false,false⟩
def yT205:AT:=⟨.fn,1,8,.fn0,false,false,false⟩
def yT206:AT:=⟨.fn,1,8,.fn0,false,false,false⟩
def yT207:AT:=⟨.slice 4,1,24,.sl0,false,false,false⟩
def yT208:AT:=⟨.st [(0,53,false)],1,8,.ag [.p0],true,false,false⟩
def yT209:AT:=⟨.st [(0,53,false)],1,8,.ag [.p0],true,false,false⟩
def yT210:AT:=⟨.fn,1,8,.fn0,false,false,false⟩
def yT211:AT:=⟨.fn,1,8,.fn0,false,false,false⟩
def yT212:AT:=⟨.fn,1,8,.fn0,false,false,false⟩
def yT213:AT:=⟨.arr 256 4,256,256,.ag [.b false,.b false,.b false,.b false,.b false,.b false,.b false,.b false,.b false,.b false,.b false,.b false,.b false,.b false,.b false,.b false,.b false,.b false,.b false,.b false,.b false,.b false,.b false,.b false,.b false,.b false,.b false,.b false,.b false,.b false,.b false,.b false,.b false,.b false,.b false,.b false,.b false,.b false,.b false,.b false,.b false,.b false,.b false,.b false,.b false,.b false,.b false,.b false,.b false,.b false,.b false,.b false,.b false,.b false,.b false,.b false,.b false,.b false,.b false,.b false,.b false,.b false,.b false,.b false,.b false,.b false,.b false,.b false,.b false,.b false,.b false,.b false,.b false,.b false,.b false,.b false,.b false,.b false,.b false,.b false,.b false,.b false,.b false,.b false,.b false,.b false,.b false,.b false,.b false,.b false,.b false,.b false,.b false,.b false,.b false,.b false,.b false,.b false,.b false,.b false,.b false,.b false,.b false,.b false,.b false,.b false,.b false,.b false,.b false,.b false,.b false,.b false,.b false,.b false,.b false,.b false,.b false,.b false,.b false,.b false,.b false,.b false,.b false,.b false,.b false,.b false,.b false,.b false,.b false,.b false,.b false,.b false,.b false,.b false,.b false,.b false,.b false,.b false,.b false,.b false,.b false,.b false,.b false,.b false,.b false,.b false,.b false,.b false,.b false,.b false,.b false,.b false,.b false,.b false,.b false,.b false,.b false,.b false,.b false,.b false,.b false,.b false,.b false,.b false,.b false,.b false,.b false,.b false,.b false,.b false,.b false,.b false,.b false,.b false,.b false,.b false,.b false,.b false,.b false,.b false,.b false,.b false,.b false,.b false,.b false,.b false,.b false,.b false,.b false,.b false,.b false,.b false,.b false,.b false,.b false,.b false,.b false,.b false,.b false,.b false,.b false,.b false,.b false,.b false,.b false,.b false,.b false,.b false,.b false,.b false,.b false,.b false,.b false,.b false,.b false,.b false,.b false,.b false,.b false,.b false,.b false,.b false,.b false,.b false,.b false,.b false,.b false,.b false,.b false,.b false,.b false,.b false,.b false,.b false,.b false,.b false,.b false,.b false,.b false,.b false,.b false,.b false,.b false,.b false,.b false,.b false,.b false,.b false,.b false,.b false,.b false,.b false,.b false,.b false,.b false,.b false],true,false,false⟩
def yT214:AT:=⟨.arr 256 4,256,256,.ag [.b false,.b false,.b false,.b false,.b false,.b false,.b false,.b false,.b false,.b false,.b false,.b false,.b false,.b false,.b false,.b false,.b false,.b false,.b false,.b false,.b false,.b false,.b false,.b false,.b false,.b false,.b false,.b false,.b false,.b false,.b false,.b false,.b false,.b false,.b false,.b false,.b false,.b false,.b false,.b false,.b false,.b false,.b false,.b false,.b false,.b false,.b false,.b false,.b false,.b false,.b false,.b false,.b false,.b false,.b false,.b false,.b false,.b false,.b false,.b false,.b false,.b false,.b false,.b false,.b false,.b false,.b false,.b false,.b false,.b false,.b false,.b false,.b false,.b false,.b false,.b false,.b false,.b false,.b false,.b false,.b false,.b false,.b false,.b false,.b false,.b false,.b false,.b false,.b false,.b false,.b false,.b false,.b false,.b false,.b false,.b false,.b false,.b false,.b false,.b false,.b false,.b false,.b false,.b false,.b false,.b false,.b false,.b false,.b false,.b false,.b false,.b false,.b false,.b false,.b false,.b false,.b false,.b false,.b false,.b false,.b false,.b false,.b false,.b false,.b false,.b false,.b false,.b false,.b false,.b false,.b false,.b false,.b false,.b false,.b false,.b false,.b false,.b false,.b false,.b false,.b false,.b false,.b false,.b false,.b false,.b false,.b false,.b false,.b false,.b false,.b false,.b false,.b false,.b false,.b false,.b false,.b false,.b false,.b false,.b false,.b false,.b false,.b false,.b false,.b false,.b false,.b false,.b false,.b false,.b false,.b false,.b false,.b false,.b false,.b false,.b false,.b false,.b false,.b false,.b false,.b false,.b false,.b false,.b false,.b false,.b false,.b false,.b false,.b false,.b false,.b false,.b false,.b false,.b false,.b false,.b false,.b false,.b false,.b false,.b false,.b false,.b false,.b false,.b false,.b false,.b false,.b false,.b false,.b false,.b false,.b false,.b false,.b false,.b false,.b false,.b false,.b false,.b false,.b false,.b false,.b false,.b false,.b false,.b false,.b false,.b false,.b false,.b false,.b false,.b false,.b false,.b false,.b false,.b false,.b false,.b false,.b false,.b false,.b false,.b false,.b false,.b false,.b false,.b false,.b false,.b false,.b false,.b false,.b false,.b false,.b false,.b false,.b false,.b false,.b false,.b false],true,false,false⟩
def yT215:AT:=⟨.other,1,0,.u,false,false,false⟩
def yT216:AT:=⟨.fn,1,8,.fn0,false,false,false⟩
def yT217:AT:=⟨.fn,1,8,.fn0,false,false,false⟩
def yT218:AT:=⟨.ptr 214,1,8,.p0,true,false,false⟩
def yT219:AT:=⟨.fn,1,8,.fn0,false,false,false⟩
def yT220:AT:=⟨.other,1,0,.u,false,false,false⟩
def yT221:AT:=⟨.fn,1,8,.fn0,false,false,false⟩
def yT222:AT:=⟨.fn,1,8,.fn0,false,false,false⟩
def yT223:AT:=⟨.st [(0,9,false),(1,9,false)],2,32,.ag [.s [],.s []],true,false,false⟩
def yT224:AT:=⟨.st [(0,9,false),(1,9,false)],2,32,.ag [.s [],.s []],true,false,false⟩
def yT225:AT:=⟨.arr 54 224,108,1728,.ag [.s [],.s [],.s [],.s [],.s [],.s [],.s [],.s [],.s [],.s [],.s [],.s [],.s [],.s [],.s [],.s [],.s [],.s [],.s [],.s [],.s [],.s [],.s [],.s [],.s [],.s [],.s [],.s [],.s [],.s [],.s [],.s [],.s [],.s [],.s [],.s [],.s [],.s [],.s [],.s [],.s [],.s [],.s [],.s [],.s [],.s [],.s [],.s [],.s [],.s [],.s [],.s [],.s [],.s [],.s [],.s [],.s [],.s [],.s [],.s [],.s [],.s [],.s [],.s [],.s [],.s [],.s [],.s [],.s [],.s [],.s [],.s [],.s [],.s [],.s [],.s [],.s [],.s [],.s [],.s [],.s [],.s [],.s [],.s [],.s [],.s [],.s [],.s [],.s [],.s [],.s [],.s [],.s [],.s [],.s [],.s [],.s [],.s [],.s [],.s [],.s [],.s [],.s [],.s [],.s [],.s [],.s [],.s []],true,false,false⟩
def yT226:AT:=⟨.fn,1,8,.fn0,false,false,false⟩
def yT227:AT:=⟨.fn,1,8,.fn0,false,false,false⟩
def yT228:AT:=⟨.slice 230,1,24,.sl0,false,false,false⟩
def yT229:AT:=⟨.st [(0,3,false),(1,3,false)],2,16,.ag [.i .i64 0,.i .i64 0],true,false,false⟩
def JB:AT:=⟨.st [(0,3,false),(1,3,false)],2,16,.ag [.i .i64 0,.i .i64 0],true,false,false⟩
def yT231:AT:=⟨.other,1,0,.u,false,false,false⟩
def yT232:AT:=⟨.fn,1,8,.fn0,false,false,false⟩
def yT233:AT:=⟨.fn,1,8,.fn0,false,false,false⟩
def yT234:AT:=⟨.fn,1,8,.fn0,false,false,false⟩
def yT235:AT:=⟨.slice 26,1,24,.sl0,false,false,false⟩
def yT236:AT:=⟨.arr 2 2,2,16,.ag [.i .i64 0,.i .i64 0],true,false,false⟩
def yT237:AT:=⟨.other,1,0,.u,false,false,false⟩
def yT238:AT:=⟨.fn,1,8,.fn0,false,false,false⟩
def yT239:AT:=⟨.slice 29,1,24,.sl0,false,false,false⟩
def yT240:AT:=⟨.fn,1,8,.fn0,false,false,false⟩
def yT241:AT:=⟨.fn,1,8,.fn0,false,false,false⟩
def yT242:AT:=⟨.fn,1,8,.fn0,false,false,false⟩
def yT243:AT:=⟨.fn,1,8,.fn0,false,false,false⟩
def yT244:AT:=⟨.fn,1,8,.fn0,false,false,false⟩
def yT245:AT:=⟨.fn,1,8,.fn0,false,false,false⟩
def yT246:AT:=⟨.fn,1,8,.fn0,false,false,false⟩
def yT247:AT:=⟨.fn,1,8,.fn0,false,false,false⟩
def yT248:AT:=⟨.fn,1,8,.fn0,false,false,false⟩
def yT249:AT:=⟨.fn,1,8,.fn0,false,false,false⟩
def yT250:AT:=⟨.other,1,0,.u,false,false,false⟩
def yT251:AT:=⟨.fn,1,8,.fn0,false,false,false⟩
def yT252:AT:=⟨.fn,1,8,.fn0,false,false,false⟩
def yT253:AT:=⟨.fn,1,8,.fn0,false,false,false⟩
def yT254:AT:=⟨.fn,1,8,.fn0,false,false,false⟩
def yT255:AT:=⟨.fn,1,8,.fn0,false,false,false⟩
def yT256:AT:=⟨.fn,1,8,.fn0,false,false,false⟩
def yT257:AT:=⟨.ptr 279,1,8,.p0,true,false,false⟩
def yT258:AT:=⟨.fn,1,8,.fn0,false,false,false⟩
def yT259:AT:=⟨.fn,1,8,.fn0,false,false,false⟩
def yT260:AT:=⟨.fn,1,8,.fn0,false,false,false⟩
def yT261:AT:=⟨.ptr 29,1,8,.p0,true,false,false⟩
def yT262:AT:=⟨.slice 261,1,24,.sl0,false,false,false⟩
def yT263:AT:=⟨.other,1,0,.u,false,false,false⟩
def yT264:AT:=⟨.fn,1,8,.fn0,false,false,false⟩
def yT265:AT:=⟨.fn,1,8,.fn0,false,false,false⟩
def yT266:AT:=⟨.int .i64,1,8,.i .i64 0,true,false,false⟩
def yT267:AT:=⟨.other,1,0,.u,false,false,false⟩
def yT268:AT:=⟨.fn,1,8,.fn0,false,false,false⟩
def yT269:AT:=⟨.ptr 288,1,8,.p0,true,false,false⟩
def yT270:AT:=⟨.fn,1,8,.fn0,false,false,false⟩
def yT271:AT:=⟨.fn,1,8,.fn0,false,false,false⟩
def yT272:AT:=⟨.arr 24 5,24,24,.ag [.i .u8 0,.i .u8 0,.i .u8 0,.i .u8 0,.i .u8 0,.i .u8 0,.i .u8 0,.i .u8 0,.i .u8 0,.i .u8 0,.i .u8 0,.i .u8 0,.i .u8 0,.i .u8 0,.i .u8 0,.i .u8 0,.i .u8 0,.i .u8 0,.i .u8 0,.i .u8 0,.i .u8 0,.i .u8 0,.i .u8 0,.i .u8 0],true,false,false⟩
def yT273:AT:=⟨.fn,1,8,.fn0,false,false,false⟩
def yT274:AT:=⟨.other,1,0,.u,false,false,false⟩
def yT275:AT:=⟨.fn,1,8,.fn0,false,false,false⟩
def yT276:AT:=⟨.other,1,0,.u,false,false,false⟩
def yT277:AT:=⟨.fn,1,8,.fn0,false,false,false⟩
def yT278:AT:=⟨.st [(0,45,false)],1,24,.ag [.sl0],false,false,false⟩
def yT279:AT:=⟨.st [(0,45,false)],1,24,.ag [.sl0],false,false,false⟩
def yT280:AT:=⟨.fn,1,8,.fn0,false,false,false⟩
def yT281:AT:=⟨.arr 256 5,256,256,.ag [.i .u8 0,.i .u8 0,.i .u8 0,.i .u8 0,.i .u8 0,.i .u8 0,.i .u8 0,.i .u8 0,.i .u8 0,.i .u8 0,.i .u8 0,.i .u8 0,.i .u8 0,.i .u8 0,.i .u8 0,.i .u8 0,.i .u8 0,.i .u8 0,.i .u8 0,.i .u8 0,.i .u8 0,.i .u8 0,.i .u8 0,.i .u8 0,.i .u8 0,.i .u8 0,.i .u8 0,.i .u8 0,.i .u8 0,.i .u8 0,.i .u8 0,.i .u8 0,.i .u8 0,.i .u8 0,.i .u8 0,.i .u8 0,.i .u8 0,.i .u8 0,.i .u8 0,.i .u8 0,.i .u8 0,.i .u8 0,.i .u8 0,.i .u8 0,.i .u8 0,.i .u8 0,.i .u8 0,.i .u8 0,.i .u8 0,.i .u8 0,.i .u8 0,.i .u8 0,.i .u8 0,.i .u8 0,.i .u8 0,.i .u8 0,.i .u8 0,.i .u8 0,.i .u8 0,.i .u8 0,.i .u8 0,.i .u8 0,.i .u8 0,.i .u8 0,.i .u8 0,.i .u8 0,.i .u8 0,.i .u8 0,.i .u8 0,.i .u8 0,.i .u8 0,.i .u8 0,.i .u8 0,.i .u8 0,.i .u8 0,.i .u8 0,.i .u8 0,.i .u8 0,.i .u8 0,.i .u8 0,.i .u8 0,.i .u8 0,.i .u8 0,.i .u8 0,.i .u8 0,.i .u8 0,.i .u8 0,.i .u8 0,.i .u8 0,.i .u8 0,.i .u8 0,.i .u8 0,.i .u8 0,.i .u8 0,.i .u8 0,.i .u8 0,.i .u8 0,.i .u8 0,.i .u8 0,.i .u8 0,.i .u8 0,.i .u8 0,.i .u8 0,.i .u8 0,.i .u8 0,.i .u8 0,.i .u8 0,.i .u8 0,.i .u8 0,.i .u8 0,.i .u8 0,.i .u8 0,.i .u8 0,.i .u8 0,.i .u8 0,.i .u8 0,.i .u8 0,.i .u8 0,.i .u8 0,.i .u8 0,.i .u8 0,.i .u8 0,.i .u8 0,.i .u8 0,.i .u8 0,.i .u8 0,.i .u8 0,.i .u8 0,.i .u8 0,.i .u8 0,.i .u8 0,.i .u8 0,.i .u8 0,.i .u8 0,.i .u8 0,.i .u8 0,.i .u8 0,.i .u8 0,.i .u8 0,.i .u8 0,.i .u8 0,.i .u8 0,.i .u8 0,.i .u8 0,.i .u8 0,.i .u8 0,.i .u8 0,.i .u8 0,.i .u8 0,.i .u8 0,.i .u8 0,.i .u8 0,.i .u8 0,.i .u8 0,.i .u8 0,.i .u8 0,.i .u8 0,.i .u8 0,.i .u8 0,.i .u8 0,.i .u8 0,.i .u8 0,.i .u8 0,.i .u8 0,.i .u8 0,.i .u8 0,.i .u8 0,.i .u8 0,.i .u8 0,.i .u8 0,.i .u8 0,.i .u8 0,.i .u8 0,.i .u8 0,.i .u8 0,.i .u8 0,.i .u8 0,.i .u8 0,.i .u8 0,.i .u8 0,.i .u8 0,.i .u8 0,.i .u8 0,.i .u8 0,.i .u8 0,.i .u8 0,.i .u8 0,.i .u8 0,.i .u8 0,.i .u8 0,.i .u8 0,.i .u8 0,.i .u8 0,.i .u8 0,.i .u8 0,.i .u8 0,.i .u8 0,.i .u8 0,.i .u8 0,.i .u8 0,.i .u8 0,.i .u8 0,.i .u8 0,.i .u8 0,.i .u8 0,.i .u8 0,.i .u8 0,.i .u8 0,.i .u8 0,.i .u8 0,.i .u8 0,.i .u8 0,.i .u8 0,.i .u8 0,.i .u8 0,.i .u8 0,.i .u8 0,.i .u8 0,.i .u8 0,.i .u8 0,.i .u8 0,.i .u8 0,.i .u8 0,.i .u8 0,.i .u8 0,.i .u8 0,.i .u8 0,.i .u8 0,.i .u8 0,.i .u8 0,.i .u8 0,.i .u8 0,.i .u8 0,.i .u8 0,.i .u8 0,.i .u8 0,.i .u8 0,.i .u8 0,.i .u8 0,.i .u8 0,.i .u8 0,.i .u8 0,.i .u8 0,.i .u8 0,.i .u8 0,.i .u8 0,.i .u8 0,.i .u8 0,.i .u8 0,.i .u8 0,.i .u8 0,.i .u8 0,.i .u8 0,.i .u8 0,.i .u8 0,.i .u8 0],true,false,false⟩
def yT282:AT:=⟨.st [(0,5,false),(1,5,false)],2,2,.ag [.i .u8 0,.i .u8 0],true,false,false⟩
def yT283:AT:=⟨.st [(0,5,false),(1,5,false)],2,2,.ag [.i .u8 0,.i .u8 0],true,false,false⟩
def yT284:AT:=⟨.arr 16 283,32,32,.ag [.i .u8 0,.i .u8 0,.i .u8 0,.i .u8 0,.i .u8 0,.i .u8 0,.i .u8 0,.i .u8 0,.i .u8 0,.i .u8 0,.i .u8 0,.i .u8 0,.i .u8 0,.i .u8 0,.i .u8 0,.i .u8 0,.i .u8 0,.i .u8 0,.i .u8 0,.i .u8 0,.i .u8 0,.i .u8 0,.i .u8 0,.i .u8 0,.i .u8 0,.i .u8 0,.i .u8 0,.i .u8 0,.i .u8 0,.i .u8 0,.i .u8 0,.i .u8 0],true,false,false⟩
def yT285:AT:=⟨.fn,1,8,.fn0,false,false,false⟩
def yT286:AT:=⟨.fn,1,8,.fn0,false,false,false⟩
def yT287:AT:=⟨.st [(0,9,false),(1,9,false),(2,66,false)],3,48,.ag [.s [],.s [],.gK],true,false,true⟩
def yT288:AT:=⟨.st [(0,9,false),(1,9,false),(2,66,false)],3,48,.ag [.s [],.s [],.gK],true,false,true⟩
def yT289:AT:=⟨.fn,1,8,.fn0,false,false,false⟩
def yT290:AT:=⟨.arr 20 39,20,160,.ag [.i .u64 0,.i .u64 0,.i .u64 0,.i .u64 0,.i .u64 0,.i .u64 0,.i .u64 0,.i .u64 0,.i .u64 0,.i .u64 0,.i .u64 0,.i .u64 0,.i .u64 0,.i .u64 0,.i .u64 0,.i .u64 0,.i .u64 0,.i .u64 0,.i .u64 0,.i .u64 0],true,false,false⟩
def yT291:AT:=⟨.arr 65 5,65,65,.ag [.i .u8 0,.i .u8 0,.i .u8 0,.i .u8 0,.i .u8 0,.i .u8 0,.i .u8 0,.i .u8 0,.i .u8 0,.i .u8 0,.i .u8 0,.i .u8 0,.i .u8 0,.i .u8 0,.i .u8 0,.i .u8 0,.i .u8 0,.i .u8 0,.i .u8 0,.i .u8 0,.i .u8 0,.i .u8 0,.i .u8 0,.i .u8 0,.i .u8 0,.i .u8 0,.i .u8 0,.i .u8 0,.i .u8 0,.i .u8 0,.i .u8 0,.i .u8 0,.i .u8 0,.i .u8 0,.i .u8 0,.i .u8 0,.i .u8 0,.i .u8 0,.i .u8 0,.i .u8 0,.i .u8 0,.i .u8 0,.i .u8 0,.i .u8 0,.i .u8 0,.i .u8 0,.i .u8 0,.i .u8 0,.i .u8 0,.i .u8 0,.i .u8 0,.i .u8 0,.i .u8 0,.i .u8 0,.i .u8 0,.i .u8 0,.i .u8 0,.i .u8 0,.i .u8 0,.i .u8 0,.i .u8 0,.i .u8 0,.i .u8 0,.i .u8 0,.i .u8 0],true,false,false⟩
def yT292:AT:=⟨.fn,1,8,.fn0,false,false,false⟩
def yT293:AT:=⟨.ptr 5,1,8,.p0,true,false,false⟩
def yT294:AT:=⟨.ptr 296,1,8,.p0,true,false,false⟩
def yT295:AT:=⟨.st [(0,9,false)],1,16,.ag [.s []],true,false,false⟩
def yT296:AT:=⟨.st [(0,9,false)],1,16,.ag [.s []],true,false,false⟩
def yT297:AT:=⟨.fn,1,8,.fn0,false,false,false⟩
def yT298:AT:=⟨.arr 32 5,32,32,.ag [.i .u8 0,.i .u8 0,.i .u8 0,.i .u8 0,.i .u8 0,.i .u8 0,.i .u8 0,.i .u8 0,.i .u8 0,.i .u8 0,.i .u8 0,.i .u8 0,.i .u8 0,.i .u8 0,.i .u8 0,.i .u8 0,.i .u8 0,.i .u8 0,.i .u8 0,.i .u8 0,.i .u8 0,.i .u8 0,.i .u8 0,.i .u8 0,.i .u8 0,.i .u8 0,.i .u8 0,.i .u8 0,.i .u8 0,.i .u8 0,.i .u8 0,.i .u8 0],true,false,false⟩
def yT299:AT:=⟨.arr 64 5,64,64,.ag [.i .u8 0,.i .u8 0,.i .u8 0,.i .u8 0,.i .u8 0,.i .u8 0,.i .u8 0,.i .u8 0,.i .u8 0,.i .u8 0,.i .u8 0,.i .u8 0,.i .u8 0,.i .u8 0,.i .u8 0,.i .u8 0,.i .u8 0,.i .u8 0,.i .u8 0,.i .u8 0,.i .u8 0,.i .u8 0,.i .u8 0,.i .u8 0,.i .u8 0,.i .u8 0,.i .u8 0,.i .u8 0,.i .u8 0,.i .u8 0,.i .u8 0,.i .u8 0,.i .u8 0,.i .u8 0,.i .u8 0,.i .u8 0,.i .u8 0,.i .u8 0,.i .u8 0,.i .u8 0,.i .u8 0,.i .u8 0,.i .u8 0,.i .u8 0,.i .u8 0,.i .u8 0,.i .u8 0,.i .u8 0,.i .u8 0,.i .u8 0,.i .u8 0,.i .u8 0,.i .u8 0,.i .u8 0,.i .u8 0,.i .u8 0,.i .u8 0,.i .u8 0,.i .u8 0,.i .u8 0,.i .u8 0,.i .u8 0,.i .u8 0,.i .u8 0],true,false,false⟩
def yT300:AT:=⟨.fn,1,8,.fn0,false,false,false⟩
def yT303:AT:=⟨.arr 0 16,0,0,.ag [],true,false,false⟩
def yT306:AT:=⟨.int .u8,1,1,.i .u8 0,true,false,false⟩
def yT307:AT:=⟨.int .u8,1,1,.i .u8 0,true,false,false⟩
def yT308:AT:=⟨.fn,1,8,.fn0,false,false,false⟩
def yT309:AT:=⟨.int .i32,1,4,.i .i32 0,true,false,false⟩
def yT310:AT:=⟨.int .i32,1,4,.i .i32 0,true,false,false⟩
def yT313:AT:=⟨.other,1,8,.p0,true,false,false⟩
def aN:BT:=(.node 156 (.node 80 (.node 42 (.node 23 (.node 9 (.node 4 (.node 2 (.node 1 (.leaf 0 yT0) (.leaf 1 yT1)) (.node 3 (.leaf 2 yT2) (.leaf 3 yT3))) (.node 6 (.node 5 (.leaf 4 yT4) (.leaf 5 yT5)) (.node 7 (.leaf 6 yT6) (.node 8 (.leaf 7 yT7) (.leaf 8 yT8))))) (.node 16 (.node 11 (.node 10 (.leaf 9 yT9) (.leaf 10 yT10)) (.node 12 (.leaf 11 yT11) (.node 15 (.leaf 12 yT12) (.leaf 15 yT15)))) (.node 20 (.node 17 (.leaf 16 yT16) (.leaf 17 yT17)) (.node 21 (.leaf 20 yT20) (.node 22 (.leaf 21 yT21) (.leaf 22 yT22)))))) (.node 32 (.node 27 (.node 25 (.node 24 (.leaf 23 yT23) (.leaf 24 yT24)) (.node 26 (.leaf 25 yT25) (.leaf 26 yT26))) (.node 29 (.node 28 (.leaf 27 yT27) (.leaf 28 yT28)) (.node 30 (.leaf 29 yT29) (.node 31 (.leaf 30 yT30) (.leaf 31 LK))))) (.node 37 (.node 34 (.node 33 (.leaf 32 yT32) (.leaf 33 yT33)) (.node 35 (.leaf 34 yT34) (.node 36 (.leaf 35 yT35) (.leaf 36 yT36)))) (.node 39 (.node 38 (.leaf 37 yT37) (.leaf 38 yT38)) (.node 40 (.leaf 39 O1) (.node 41 (.leaf 40 yT40) (.leaf 41 Dq))))))) (.node 61 (.node 51 (.node 46 (.node 44 (.node 43 (.leaf 42 yT42) (.leaf 43 yT43)) (.node 45 (.leaf 44 yT44) (.leaf 45 yT45))) (.node 48 (.node 47 (.leaf 46 yT46) (.leaf 47 yT47)) (.node 49 (.leaf 48 yT48) (.node 50 (.leaf 49 yT49) (.leaf 50 yT50))))) (.node 56 (.node 53 (.node 52 (.leaf 51 yT51) (.leaf 52 yT52)) (.node 54 (.leaf 53 yT53) (.node 55 (.leaf 54 yT54) (.leaf 55 yT55)))) (.node 58 (.node 57 (.leaf 56 yT56) (.leaf 57 yT57)) (.node 59 (.leaf 58 yT58) (.node 60 (.leaf 59 yT59) (.leaf 60 yT60)))))) (.node 70 (.node 65 (.node 63 (.node 62 (.leaf 61 yT61) (.leaf 62 yT62)) (.node 64 (.leaf 63 yT63) (.leaf 64 yT64))) (.node 67 (.node 66 (.leaf 65 yT65) (.leaf 66 yT66)) (.node 68 (.leaf 67 yT67) (.node 69 (.leaf 68 yT68) (.leaf 69 yT69))))) (.node 75 (.node 72 (.node 71 (.leaf 70 yT70) (.leaf 71 yT71)) (.node 73 (.leaf 72 yT72) (.node 74 (.leaf 73 yT73) (.leaf 74 yT74)))) (.node 77 (.node 76 (.leaf 75 yT75) (.leaf 76 yT76)) (.node 78 (.leaf 77 yT77) (.node 79 (.leaf 78 yT78) (.leaf 79 yT79)))))))) (.node 118 (.node 99 (.node 89 (.node 84 (.node 82 (.node 81 (.leaf 80 yT80) (.leaf 81 yT81)) (.node 83 (.leaf 82 yT82) (.leaf 83 yT83))) (.node 86 (.node 85 (.leaf 84 yT84) (.leaf 85 yT85)) (.node 87 (.leaf 86 yT86) (.node 88 (.leaf 87 yT87) (.leaf 88 yT88))))) (.node 94 (.node 91 (.node 90 (.leaf 89 yT89) (.leaf 90 yT90)) (.node 92 (.leaf 91 yT91) (.node 93 (.leaf 92 yT92) (.leaf 93 yT93)))) (.node 96 (.node 95 (.leaf 94 yT94) (.leaf 95 yT95)) (.node 97 (.leaf 96 yT96) (.node 98 (.leaf 97 yT97) (.leaf 98 yT98)))))) (.node 108 (.node 103 (.node 101 (.node 100 (.leaf 99 yT99) (.leaf 100 yT100)) (.node 102 (.leaf 101 yT101) (.leaf 102 yT102))) (.node 105 (.node 104 (.leaf 103 yT103) (.leaf 104 yT104)) (.node 106 (.leaf 105 yT105) (.node 107 (.leaf 106 yT106) (.leaf 107 yT107))))) (.node 113 (.node 110 (.node 109 (.leaf 108 yT108) (.leaf 109 yT109)) (.node 111 (.leaf 110 yT110) (.node 112 (.leaf 111 yT111) (.leaf 112 yT112)))) (.node 115 (.node 114 (.leaf 113 yT113) (.leaf 114 yT114)) (.node 116 (.leaf 115 yT115) (.node 117 (.leaf 116 yT116) (.leaf 117 yT117))))))) (.node 137 (.node 127 (.node 122 (.node 120 (.node 119 (.leaf 118 yT118) (.leaf 119 yT119)) (.node 121 (.leaf 120 yT120) (.leaf 121 yT121))) (.node 124 (.node 123 (.leaf 122 yT122) (.leaf 123 yT123)) (.node 125 (.leaf 124 yT124) (.node 126 (.leaf 125 yT125) (.leaf 126 yT126))))) (.node 132 (.node 129 (.node 128 (.leaf 127 yT127) (.leaf 128 yT128)) (.node 130 (.leaf 129 yT129) (.node 131 (.leaf 130 yT130) (.leaf 131 yT131)))) (.node 134 (.node 133 (.leaf 132 yT132) (.leaf 133 yT133)) (.node 135 (.leaf 134 yT134) (.node 136 (.leaf 135 yT135) (.leaf 136 yT136)))))) (.node 146 (.node 141 (.node 139 (.node 138 (.leaf 137 yT137) (.leaf 138 yT138)) (.node 140 (.leaf 139 yT139) (.leaf 140 yT140))) (.node 143 (.node 142 (.leaf 141 yT141) (.leaf 142 yT142)) (.node 144 (.leaf 143 yT143) (.node 145 (.leaf 144 yT144) (.leaf 145 yT145))))) (.node 151 (.node 148 (.node 147 (.leaf 146 yT146) (.leaf 147 yT147)) (.node 149 (.leaf 148 yT148) (.node 150 (.leaf 149 yT149) (.leaf 150 yT150)))) (.node 153 (.node 152 (.leaf 151 yT151) (.leaf 152 yT152)) (.node 154 (.leaf 153 yT153) (.node 155 (.leaf 154 yT154) (.leaf 155 yT155))))))))) (.node 232 (.node 194 (.node 175 (.node 165 (.node 160 (.node 158 (.node 157 (.leaf 156 yT156) (.leaf 157 yT157)) (.node 159 (.leaf 158 yT158) (.leaf 159 yT159))) (.node 162 (.node 161 (.leaf 160 yT160) (.leaf 161 yT161)) (.node 163 (.leaf 162 yT162) (.node 164 (.leaf 163 yT163) (.leaf 164 yT164))))) (.node 170 (.node 167 (.node 166 (.leaf 165 yT165) (.leaf 166 yT166)) (.node 168 (.leaf 167 yT167) (.node 169 (.leaf 168 yT168) (.leaf 169 yT169)))) (.node 172 (.node 171 (.leaf 170 yT170) (.leaf 171 yT171)) (.node 173 (.leaf 172 yT172) (.node 174 (.leaf 173 yT173) (.leaf 174 yT174)))))) (.node 184 (.node 179 (.node 177 (.node 176 (.leaf 175 yT175) (.leaf 176 yT176)) (.node 178 (.leaf 177 yT177) (.leaf 178 yT178))) (.node 181 (.node 180 (.leaf 179 yT179) (.leaf 180 yT180)) (.node 182 (.leaf 181 yT181) (.node 183 (.leaf 182 yT182) (.leaf 183 yT183))))) (.node 189 (.node 186 (.node 185 (.leaf 184 yT184) (.leaf 185 yT185)) (.node 187 (.leaf 186 yT186) (.node 188 (.leaf 187 yT187) (.leaf 188 yT188)))) (.node 191 (.node 190 (.leaf 189 yT189) (.leaf 190 yT190)) (.node 192 (.leaf 191 yT191) (.node 193 (.leaf 192 yT192) (.leaf 193 yT193))))))) (.node 213 (.node 203 (.node 198 (.node 196 (.node 195 (.leaf 194 yT194) (.leaf 195 yT195)) (.node 197 (.leaf 196 yT196) (.leaf 197 yT197))) (.node 200 (.node 199 (.leaf 198 yT198) (.leaf 199 yT199)) (.node 201 (.leaf 200 yT200) (.node 202 (.leaf 201 yT201) (.leaf 202 yT202))))) (.node 208 (.node 205 (.node 204 (.leaf 203 yT203) (.leaf 204 yT204)) (.node 206 (.leaf 205 yT205) (.node 207 (.leaf 206 yT206) (.leaf 207 yT207)))) (.node 210 (.node 209 (.leaf 208 yT208) (.leaf 209 yT209)) (.node 211 (.leaf 210 yT210) (.node 212 (.leaf 211 yT211) (.leaf 212 yT212)))))) (.node 222 (.node 217 (.node 215 (.node 214 (.leaf 213 yT213) (.leaf 214 yT214)) (.node 216 (.leaf 215 yT215) (.leaf 216 yT216))) (.node 219 (.node 218 (.leaf 217 yT217) (.leaf 218 yT218)) (.node 220 (.leaf 219 yT219) (.node 221 (.leaf 220 yT220) (.leaf 221 yT221))))) (.node 227 (.node 224 (.node 223 (.leaf 222 yT222) (.leaf 223 yT223)) (.node 225 (.leaf 224 yT224) (.node 226 (.leaf 225 yT225) (.leaf 226 yT226)))) (.node 229 (.node 228 (.leaf 227 yT227) (.leaf 228 yT228)) (.node 230 (.leaf 229 yT229) (.node 231 (.leaf 230 JB) (.leaf 231 yT231)))))))) (.node 270 (.node 251 (.node 241 (.node 236 (.node 234 (.node 233 (.leaf 232 yT232) (.leaf 233 yT233)) (.node 235 (.leaf 234 yT234) (.leaf 235 yT235))) (.node 238 (.node 237 (.leaf 236 yT236) (.leaf 237 yT237)) (.node 239 (.leaf 238 yT238) (.node 240 (.leaf 239 yT239) (.leaf 240 yT240))))) (.node 246 (.node 243 (.node 242 (.leaf 241 yT241) (.leaf 242 yT242)) (.node 244 (.leaf 243 yT243) (.node 245 (.leaf 244 yT244) (.leaf 245 yT245)))) (.node 248 (.node 247 (.leaf 246 yT246) (.leaf 247 yT247)) (.node 249 (.leaf 248 yT248) (.node 250 (.leaf 249 yT249) (.leaf 250 yT250)))))) (.node 260 (.node 255 (.node 253 (.node 252 (.leaf 251 yT251) (.leaf 252 yT252)) (.node 254 (.leaf 253 yT253) (.leaf 254 yT254))) (.node 257 (.node 256 (.leaf 255 yT255) (.leaf 256 yT256)) (.node 258 (.leaf 257 yT257) (.node 259 (.leaf 258 yT258) (.leaf 259 yT259))))) (.node 265 (.node 262 (.node 261 (.leaf 260 yT260) (.leaf 261 yT261)) (.node 263 (.leaf 262 yT262) (.node 264 (.leaf 263 yT263) (.leaf 264 yT264)))) (.node 267 (.node 266 (.leaf 265 yT265) (.leaf 266 yT266)) (.node 268 (.leaf 267 yT267) (.node 269 (.leaf 268 yT268) (.leaf 269 yT269))))))) (.node 289 (.node 279 (.node 274 (.node 272 (.node 271 (.leaf 270 yT270) (.leaf 271 yT271)) (.node 273 (.leaf 272 yT272) (.leaf 273 yT273))) (.node 276 (.node 275 (.leaf 274 yT274) (.leaf 275 yT275)) (.node 277 (.leaf 276 yT276) (.node 278 (.leaf 277 yT277) (.leaf 278 yT278))))) (.node 284 (.node 281 (.node 280 (.leaf 279 yT279) (.leaf 280 yT280)) (.node 282 (.leaf 281 yT281) (.node 283 (.leaf 282 yT282) (.leaf 283 yT283)))) (.node 286 (.node 285 (.leaf 284 yT284) (.leaf 285 yT285)) (.node 287 (.leaf 286 yT286) (.node 288 (.leaf 287 yT287) (.leaf 288 yT288)))))) (.node 298 (.node 293 (.node 291 (.node 290 (.leaf 289 yT289) (.leaf 290 yT290)) (.node 292 (.leaf 291 yT291) (.leaf 292 yT292))) (.node 295 (.node 294 (.leaf 293 yT293) (.leaf 294 yT294)) (.node 296 (.leaf 295 yT295) (.node 297 (.leaf 296 yT296) (.leaf 297 yT297))))) (.node 307 (.node 300 (.node 299 (.leaf 298 yT298) (.leaf 299 yT299)) (.node 303 (.leaf 300 yT300) (.node 306 (.leaf 303 yT303) (.leaf 306 yT306)))) (.node 309 (.node 308 (.leaf 307 yT307) (.leaf 308 yT308)) (.node 310 (.leaf 309 yT309) (.node 313 (.leaf 310 yT310) (.leaf 313 yT313))))))))))
theorem aG:gU.Ok aN.get Tryz.prog:=BT.ok (by kernel_rfl)
end Go.cO.YtnbdedokjfpckaaGreatDoor
namespace Go.cO
structure dH (X:Ctx)(f:Nat)(args:List AV)(σ:St)(Q:AV→St→Prop):Prop where
 ev:yF X f args σ Q
structure nV (X:Ctx)(live:List Nat)(c:AC)(e:Env)(σ:St)(Q:Out→Env→St→Prop):Prop where
 ev:EvL X live c e σ Q
def O3 (op:BinOp)(k:IntKind)(a b:Int)(Q:AV→Prop):Prop:=match op with
 | .add=>Ic k (a+b) Q
 | .sub=>Ic k (a - b) Q
 | .mul=>Ic k (a*b) Q
 | .quo=>b≠0∧Ic k (a.tdiv b) Q
 | .rem=>b≠0∧Q (.i k (a.tmod b))
 | .eql=>fc (.b (decide (a=b))) Q
 | .neq=>fc (.b (!decide (a=b))) Q
 | .lss=>fc (.b (decide (a<b))) Q
 | .leq=>fc (.b (decide (a≤b))) Q
 | .gtr=>fc (.b (decide (b<a))) Q
 | .geq=>fc (.b (decide (b≤a))) Q
 | op=>om (sH op k a b) Q
theorem O4 {op:BinOp} {k:IntKind} {a b:Int} {Q:AV→Prop} (h:O3 op k a b Q):opt (iR op k a b) Q:=by
 cases op <;> simp only [O3] at h
 all_goals first
  | (obtain⟨r,rfl,h⟩:=h;exact⟨_,rfl,h⟩)
  | (obtain⟨h1,r,rfl,h⟩:=h;exact⟨_,by simp only [iR];rw [if_neg h1],h⟩)
  | (obtain⟨h1,h⟩:=h;exact⟨_,by simp only [iR];rw [if_neg h1],h⟩)
  | (have h:=gX _ _ h;exact⟨_,rfl,h⟩)
  | exact zf h
def Dt (op:BinOp)(k:IntKind)(a b:Int)(Q:AV→Prop):Prop:=match op with
 | .shl=>0≤b∧Ic k (a*2^(min b.toNat k.bits)) Q
 | .shr=>0≤b∧Q (.i k (a.fdiv (2^(min b.toNat k.bits))))
 | _=>False
theorem BQ {op:BinOp} {k:IntKind} {a b:Int} {Q:AV→Prop} (h:Dt op k a b Q):opt (oq op k a b) Q:=by
 cases op <;> simp only [Dt] at h
 ·obtain⟨h1,r,rfl,h⟩:=h;exact⟨_,by simp only [oq];rw [if_neg (by omega)],h⟩
 ·obtain⟨h1,h⟩:=h;exact⟨_,by simp only [oq];rw [if_neg (by omega)],h⟩
def O5 (op:BinOp)(a b:List UInt8)(Q:AV→Prop):Prop:=match op with
 | .add=>a.length+b.length≤9223372036854775807∧Q (.s (a ++ b))
 | .eql=>fc (.b (a == b)) Q
 | .neq=>fc (.b (!(a == b))) Q
 | op=>om (Aq op a b) Q
theorem O6 {op:BinOp} {a b:List UInt8} {Q:AV→Prop} (h:O5 op a b Q):opt (Aq op a b) Q:=by
 cases op <;> simp only [O5] at h
 all_goals first
  | (obtain⟨h1,h⟩:=h;exact⟨_,by simp only [Aq];rw [if_pos h1],h⟩)
  | (have h:=gX _ _ h;exact⟨_,rfl,h⟩)
  | exact zf h
def wEq (τ:gU)(t:Nat)(x y:AV)(n:Bool)(Q:AV→Prop):Prop:=om (eqT τ 20 t x y) fun r=>fc (.b (bif n then !r else r)) Q
def wBin (τ:gU)(op:BinOp)(t:Nat)(x y:AV)(c:Bool)(Q:AV→Prop):Prop:=match op,x,y with
 | .shl,.i k a,.i _ b=>Dt .shl k a b Q
 | .shr,.i k a,.i _ b=>Dt .shr k a b Q
 | op,.i k a,.i k' b=>cB (decide (k=k')) (O3 op k a b Q) False
 | op,.s a,.s b=>O5 op a b Q
 | .eql,.gK,.gK=>cB c (wEq τ t .gK .gK false Q) False
 | .neq,.gK,.gK=>cB c (wEq τ t .gK .gK true Q) False
 | .eql,.ag xs,.ag ys=>om (τ t) fun T=>cB T.guarded False (wEq τ t (.ag xs) (.ag ys) false Q)
 | .neq,.ag xs,.ag ys=>om (τ t) fun T=>cB T.guarded False (wEq τ t (.ag xs) (.ag ys) true Q)
 | .eql,x,y=>wEq τ t x y false Q
 | .neq,x,y=>wEq τ t x y true Q
 | _,_,_=>False
theorem jT {t:Bool} {A:Prop} (h:cB t A False):t=true∧A:=by cases t;exact h.elim;exact⟨rfl,h⟩
theorem cB_f {t:Bool} {A:Prop} (h:cB t False A):t=false∧A:=by cases t;exact⟨rfl,h⟩;exact h.elim
theorem bF {α:Type} {o:Option α} {Q:α→Prop} (h:om o Q):∃a,o=some a∧Q a:=zf h
theorem Ie {τ:gU} {P:Program} (bM:τ.Ok P) {t:Nat} {x y:AV} {Q:AV→Prop} (h:wEq τ t x y false Q):opt ((qP P 20 t x y).map .b) Q:=by
 obtain⟨b,hb,h⟩:=bF h
 exact⟨_,by rw [Dp bM _ _ _ _ _ hb];rfl,gX _ _ h⟩
theorem Ig {τ:gU} {P:Program} (bM:τ.Ok P) {t:Nat} {x y:AV} {Q:AV→Prop} (h:wEq τ t x y true Q):opt ((qP P 20 t x y).map fun r=>.b !r) Q:=by
 obtain⟨b,hb,h⟩:=bF h
 exact⟨_,by rw [Dp bM _ _ _ _ _ hb];rfl,gX _ _ h⟩
theorem Wn {τ:gU} {P:Program} (bM:τ.Ok P) {op:BinOp} {t:Nat} {x y:AV} {c:Bool} {Q:AV→Prop} (h:wBin τ op t x y c Q):opt (gQ P op t x y c) Q:=by
 unfold wBin at h
 split at h
 ·exact BQ h
 ·exact BQ h
 ·rename_i op k a k' b h1 h2
  obtain⟨hk,h⟩:=jT h
  have hk:=of_decide_eq_true hk
  have:=O4 h
  subst hk
  cases op
  all_goals first
   | exact(h1 rfl).elim
   | exact(h2 rfl).elim
   | (simp only [gQ,if_true];exact this)
 ·have:=O6 h
  have e:∀o a b,gQ P o t (.s a) (.s b) c=Aq o a b:=by intro o a b;unfold gQ;cases o <;> rfl
  rw [e];exact this
 ·obtain⟨rfl,h⟩:=jT h
  have:=Ie bM h
  simpa [gQ] using this
 ·obtain⟨rfl,h⟩:=jT h
  have:=Ig bM h
  simpa [gQ] using this
 ·obtain⟨T,hT,h⟩:=bF h
  obtain⟨hg,h⟩:=cB_f h
  have:=Ie bM h
  simpa [gQ,bM _ _ hT,hg] using this
 ·obtain⟨T,hT,h⟩:=bF h
  obtain⟨hg,h⟩:=cB_f h
  have:=Ig bM h
  simpa [gQ,bM _ _ hT,hg] using this
 ·rename_i x y h1 h2 h3 h4
  have:=Ie bM h
  unfold gQ
  split
  all_goals first
   | exact this
   | (exfalso;exact h1 _ _ _ _ rfl rfl)
   | (exfalso;exact h1 _ _ _ _ rfl rfl rfl)
   | (exfalso;exact h2 _ _ rfl rfl)
   | (exfalso;exact h3 rfl rfl)
   | (exfalso;exact h4 _ _ rfl rfl)
   | (exfalso;simp_all;done)
   | simp_all
 ·rename_i x y h1 h2 h3 h4
  have:=Ig bM h
  unfold gQ
  split
  all_goals first
   | exact this
   | (exfalso;exact h1 _ _ _ _ rfl rfl)
   | (exfalso;exact h1 _ _ _ _ rfl rfl rfl)
   | (exfalso;exact h2 _ _ rfl rfl)
   | (exfalso;exact h3 rfl rfl)
   | (exfalso;exact h4 _ _ rfl rfl)
   | (exfalso;simp_all;done)
   | simp_all
 ·exact h.elim
def Fb (τ:gU)(e:Nat):Bool:=match τ e with
 | some ⟨.int .u8,_,_,_,_,_,_⟩=>true
 | _=>false
theorem qH {τ:gU} {P:Program} (bM:τ.Ok P) {e:Nat} (h:Fb τ e=true):∃a b c d f g,aA P e=some ⟨.int .u8,a,b,c,d,f,g⟩:=by
 unfold Fb at h
 split at h
 ·rename_i a b c d f g he;exact⟨_,_,_,_,_,_,bM _ _ he⟩
 ·cases h
def LM (n:Nat)(lo hi:Option AV)(K:Nat→Nat→Prop):Prop:=match lo,hi with
 | none,none=>K 0 n
 | some (.i _ i),none=>∃a:Nat,i=a∧a≤n∧K a n
 | none,some (.i _ j)=>∃b:Nat,j=b∧b≤n∧K 0 b
 | some (.i _ i),some (.i _ j)=>∃a b:Nat,i=a∧j=b∧a≤b∧b≤n∧K a b
 | _,_=>False
theorem Du {n:Nat} {lo hi:Option AV} {K:Nat→Nat→Prop} (h:LM n lo hi K):∃a b,dV n n lo hi=some (a,b)∧a≤b∧b≤n∧K a b:=by
 unfold LM at h
 split at h
 ·exact⟨0,n,by simp [dV,GX,GY],Nat.zero_le _,Nat.le_refl _,h⟩
 ·obtain⟨a,rfl,h1,h⟩:=h
  refine⟨a,n,?_,h1,Nat.le_refl _,h⟩
  simp only [dV,GX,GY,Option.bind_some];rw [if_pos (by omega)];simp
 ·obtain⟨b,rfl,h1,h⟩:=h
  refine⟨0,b,?_,Nat.zero_le _,h1,h⟩
  simp only [dV,GX];rw [if_pos (by omega)];simp [GY]
 ·obtain⟨a,b,rfl,rfl,h1,h2,h⟩:=h
  refine⟨a,b,?_,h1,h2,h⟩
  simp only [dV,GX];rw [if_pos (by omega)];simp only [Option.bind_some,GY];rw [if_pos (by omega)];simp
 ·exact h.elim
def O7 (x:List UInt8)(lo hi:Option AV)(Q:AV→Prop):Prop:=match lo,hi with
 | none,none=>Q (.s x)
 | some (.i _ i),none=>∃a:Nat,i=a∧a≤x.length∧Q (.s (x.drop a))
 | none,some (.i _ j)=>∃b:Nat,j=b∧b≤x.length∧Q (.s (x.take b))
 | some (.i _ i),some (.i _ j)=>∃a b:Nat,i=a∧j=b∧a≤b∧b≤x.length∧Q (.s ((x.drop a).take (b - a)))
 | _,_=>False
theorem O8 {x:List UInt8} {lo hi:Option AV} {Q:AV→Prop} (h:O7 x lo hi Q):opt ((dV x.length x.length lo hi).map fun r=>AV.s ((x.drop r.1).take (r.2 - r.1))) Q:=by
 have key:LM x.length lo hi fun a b=>Q (.s ((x.drop a).take (b - a))):=by
  unfold O7 at h
  unfold LM
  split at h
  ·simpa using h
  ·obtain⟨a,h1,h2,h⟩:=h
   refine⟨a,h1,h2,?_⟩
   simp only
   rw [List.take_of_length_le (by simp)];exact h
  ·simpa using h
  ·exact h
  ·exact h.elim
 obtain⟨a,b,h1,_,_,h⟩:=Du key
 exact⟨_,by rw [h1];rfl,h⟩
def wSlc (τ:gU)(t:Nat)(x:AV)(lo hi:Option AV)(σ:St)(Q:AV→Prop):Prop:=
 om (τ t) fun T=>match T.d,x with
 | .str,.s x=>O7 x lo hi Q
 | .slice e,.sl0=>cB (Nat.blt 0 (um τ e)) (om (dV 0 0 lo hi) fun _=>Q .sl0) False
 | .slice e,.sl o g off n z=>cB (Nat.beq (um τ e) z && Nat.blt 0 z) (LM n lo hi fun a b=>Q (.sl o g (off+a*z) (b - a) z)) False
 | .arr n e,.p o g off=>cB (Nat.blt 0 (um τ e)) (om (fC σ o g) fun cs=>cB (Nat.ble (off+n*um τ e) cs.length) (LM n lo hi fun a b=>Q (.sl o g (off+a*um τ e) (b - a) (um τ e))) False) False
 | _,_=>False
theorem jF {a b:Nat} (h:Nat.blt a b=true):a<b:=by unfold Nat.blt at h;exact Nat.le_of_ble_eq_true h
theorem Wp {τ:gU} {P:Program} (bM:τ.Ok P) {t:Nat} {x:AV} {lo hi:Option AV} {σ:St} {Q:AV→Prop} (h:wSlc τ t x lo hi σ Q):opt (wX P t x lo hi σ) Q:=by
 obtain⟨⟨d,s,b,z,c,hd,g⟩,hT,h⟩:=bF h
 unfold wX
 rw [bM _ _ hT]
 simp only at h ⊢
 split at h
 ·exact O8 h
 ·obtain⟨h1,h⟩:=jT h
  obtain⟨r,h2,h⟩:=bF h
  have h1:=jF h1
  simp only
  rw [if_pos (by rw [kJ bM h1];exact h1),h2]
  exact⟨_,rfl,h⟩
 ·obtain⟨h1,h⟩:=jT h
  rw [Bool.and_eq_true] at h1
  have h2:=Nat.eq_of_beq_eq_true h1.1
  have h3:=jF h1.2
  obtain⟨a,b,h4,_,_,h⟩:=Du h
  simp only
  rw [if_pos ⟨by rw [kJ bM (by omega)];exact h2,h3⟩,h4]
  exact⟨_,rfl,h⟩
 ·obtain⟨h1,h⟩:=jT h
  obtain⟨cs,h2,h⟩:=bF h
  obtain⟨h3,h⟩:=jT h
  have h1:=jF h1
  have h3:=Nat.le_of_ble_eq_true h3
  obtain⟨a,b,h4,_,_,h⟩:=Du h
  have hz:=kJ bM h1
  simp only
  rw [hz,if_pos h1,h2,Option.bind_some,if_pos h3,h4]
  exact⟨_,rfl,h⟩
 ·exact h.elim
def wIad (τ:gU)(t:Nat)(x i:AV)(Q:AV→Prop):Prop:=om (τ t) fun T=>match T.d,x,i with
 | .arr n e,.p o g off,.i _ j=>cB (Nat.blt 0 (um τ e)) (∃m:Nat,j=m∧m<n∧Q (.p o g (off+m*um τ e))) False
 | .slice e,.sl o g off n z,.i _ j=>cB (Nat.beq (um τ e) z && Nat.blt 0 z) (∃m:Nat,j=m∧m<n∧Q (.p o g (off+m*z))) False
 | _,_,_=>False
theorem Wq {τ:gU} {P:Program} (bM:τ.Ok P) {t:Nat} {x i:AV} {Q:AV→Prop} (h:wIad τ t x i Q):opt (G5 P t x i) Q:=by
 obtain⟨⟨d,s,b,z,c,hd,g⟩,hT,h⟩:=bF h
 unfold G5
 rw [bM _ _ hT]
 simp only at h
 split at h
 ·obtain⟨h1,h⟩:=jT h
  obtain⟨m,rfl,h2,h⟩:=h
  have h1:=jF h1
  have hz:=kJ bM h1
  simp only
  rw [hz,if_pos ⟨h1,by omega,by omega⟩]
  exact⟨_,rfl,by simpa using h⟩
 ·obtain⟨h1,h⟩:=jT h
  obtain⟨m,rfl,h2,h⟩:=h
  rw [Bool.and_eq_true] at h1
  have h3:=Nat.eq_of_beq_eq_true h1.1
  have h4:=jF h1.2
  simp only
  rw [if_pos ⟨by rw [kJ bM (by omega)];exact h3,h4,by omega,by omega⟩]
  exact⟨_,rfl,by simpa using h⟩
 ·exact h.elim
def wIdx (τ:gU)(t:Nat)(x i:AV)(Q:AV→Prop):Prop:=om (τ t) fun T=>match T.d,x,i with
 | .arr n e,.ag cs,.i _ j=>∃m:Nat,j=m∧m<n∧om (τ e) fun E=>om (partOf E cs (m*E.size)) fun v=>fc v Q
 | .str,.s x,.i _ j=>∃(m:Nat) (c:UInt8),j=m∧x[m]? =some c∧Q (.i .u8 c.toNat)
 | _,_,_=>False
theorem Ws {τ:gU} {P:Program} (bM:τ.Ok P) {t:Nat} {x i:AV} {Q:AV→Prop} (h:wIdx τ t x i Q):opt (CU P t x i) Q:=by
 obtain⟨⟨d,s,b,z,c,hd,g⟩,hT,h⟩:=bF h
 unfold CU
 rw [bM _ _ hT]
 simp only at h
 split at h
 ·obtain⟨m,rfl,h2,h⟩:=h
  obtain⟨E,hE,h⟩:=bF h
  obtain⟨v,hv,h⟩:=bF h
  simp only
  rw [if_pos ⟨by omega,by omega⟩,bM _ _ hE]
  exact⟨v,by simpa using hv,gX _ _ h⟩
 ·obtain⟨m,c,rfl,h2,h⟩:=h
  simp only
  rw [if_pos (by omega)]
  exact⟨_,by rw [Int.toNat_natCast,h2];rfl,h⟩
 ·exact h.elim
def wLen (τ:gU)(t:Nat)(x:AV)(Q:AV→Prop):Prop:=om (τ t) fun T=>match T.d,x with
 | .str,.s x=>Q (.i .i64 x.length)
 | .arr n _,_=>Q (.i .i64 n)
 | .slice _,.sl0=>Q (.i .i64 0)
 | .slice _,.sl _ _ _ n _=>Q (.i .i64 n)
 | _,_=>False
theorem Wu {τ:gU} {P:Program} (bM:τ.Ok P) {t:Nat} {x:AV} {Q:AV→Prop} (h:wLen τ t x Q):opt (Ar P t x) Q:=by
 obtain⟨⟨d,s,b,z,c,hd,g⟩,hT,h⟩:=bF h
 unfold Ar
 rw [bM _ _ hT]
 simp only at h
 split at h
 all_goals first
  | exact h.elim
  | exact⟨_,rfl,h⟩
def wFad (τ:gU)(t:Nat)(x:AV)(f:Nat)(Q:AV→Prop):Prop:=om (τ t) fun T=>match T.d,x with
 | .st fs,.p o g off=>om fs[f]? fun r=>cB (Nat.blt 0 (um τ r.2.1)) (Q (.p o g (off+r.1))) False
 | _,_=>False
theorem Wv {τ:gU} {P:Program} (bM:τ.Ok P) {t:Nat} {x:AV} {f:Nat} {Q:AV→Prop} (h:wFad τ t x f Q):opt (Kv P t x f) Q:=by
 obtain⟨⟨d,s,b,z,c,hd,g⟩,hT,h⟩:=bF h
 unfold Kv
 rw [bM _ _ hT]
 simp only at h
 split at h
 ·obtain⟨r,hr,h⟩:=bF h
  obtain⟨h1,h⟩:=jT h
  have h1:=jF h1
  simp only
  rw [hr,Option.bind_some,if_pos (by rw [kJ bM h1];exact h1)]
  exact⟨_,rfl,h⟩
 ·exact h.elim
def wFld (τ:gU)(t:Nat)(x:AV)(f:Nat)(Q:AV→Prop):Prop:=om (τ t) fun T=>match T.d,x with
 | .st fs,.ag cs=>om fs[f]? fun r=>om (τ r.2.1) fun F=>om (partOf F cs r.1) fun v=>fc v Q
 | _,_=>False
theorem Wx {τ:gU} {P:Program} (bM:τ.Ok P) {t:Nat} {x:AV} {f:Nat} {Q:AV→Prop} (h:wFld τ t x f Q):opt (GZ P t x f) Q:=by
 obtain⟨⟨d,s,b,z,c,hd,g⟩,hT,h⟩:=bF h
 unfold GZ
 rw [bM _ _ hT]
 simp only at h
 split at h
 ·obtain⟨r,hr,h⟩:=bF h
  obtain⟨F,hF,h⟩:=bF h
  obtain⟨v,hv,h⟩:=bF h
  simp only
  rw [hr,Option.bind_some,bM _ _ hF]
  exact⟨v,hv,gX _ _ h⟩
 ·exact h.elim
def allT (τ:gU):List (Nat×Nat×Bool)→Bool
 | []=>true
 | f :: fs=>match τ f.2.1 with
   | some _=>allT τ fs
   | none=>false
theorem Dv {τ:gU} {P:Program} (bM:τ.Ok P):∀fs,allT τ fs=true→fs.all (fun f=>(aA P f.2.1).isSome)=true
 | [],_=>rfl
 | f :: fs,h=>by
   simp only [allT] at h
   split at h
   ·rename_i T hT;simp only [List.all_cons,bM _ _ hT,Option.isSome_some,Bool.true_and];exact Dv bM fs h
   ·cases h
theorem zk {p q:Nat→Option (Nat×Nat)} (hp:∀i r,p i=some r→q i=some r):∀(l:List (Nat×AV)) (cells r:List AV),iV p cells l=some r→iV q cells l=some r
 | [],_,_,h=>h
 | (i,v) :: l,cells,r,h=>by
   simp only [iV] at h ⊢
   split at h
   ·cases h
   ·rename_i off size he
    rw [hp _ _ he]
    simp only
    split at h
    ·rename_i hc;rw [if_pos hc];exact zk hp l _ r h
    ·cases h
def O9 (τ:gU)(t:Nat)(ps:List (Nat×AV))(Q:AV→Prop):Prop:=om (τ t) fun T=>match T.d with
 | .st fs=>cB (allT τ fs) (om (iV (fun i=>(fs[i]?).bind fun f=>(τ f.2.1).map fun F=>(f.1,F.size)) T.zero.cells ps) fun cs=>E8 cs fun cs=>Q (.ag cs)) False
 | .arr _ e=>om (τ e) fun E=>om (iV (fun i=>some (i*E.size,E.size)) T.zero.cells ps) fun cs=>E8 cs fun cs=>Q (.ag cs)
 | _=>False
theorem LP {τ:gU} {P:Program} (bM:τ.Ok P) {t:Nat} {ps:List (Nat×AV)} {Q:AV→Prop} (h:O9 τ t ps Q):opt (jP P t ps) Q:=by
 obtain⟨⟨d,s,b,z,c,hd,g⟩,hT,h⟩:=bF h
 unfold jP
 rw [bM _ _ hT]
 simp only at h ⊢
 split at h
 ·rename_i fs
  obtain⟨h1,h⟩:=jT h
  obtain⟨cs,h2,h⟩:=bF h
  simp only
  rw [if_pos (Dv bM fs h1)]
  have h3:=zk (q:=fun i=>(fs[i]?).bind fun f=>(aA P f.2.1).map fun F=>(f.1,F.size)) (fun i r hi=>by
   rw [Option.bind_eq_some_iff] at hi ⊢
   obtain⟨f,hf,hi⟩:=hi
   rw [Option.map_eq_some_iff] at hi
   obtain⟨F,hF,rfl⟩:=hi
   exact⟨f,hf,by rw [bM _ _ hF];rfl⟩) _ _ _ h2
  rw [h3]
  exact⟨_,rfl,lN _ _ h⟩
 ·obtain⟨E,hE,h⟩:=bF h
  obtain⟨cs,h2,h⟩:=bF h
  simp only
  rw [bM _ _ hE]
  simp only
  rw [h2]
  exact⟨_,rfl,lN _ _ h⟩
 ·exact h.elim
end Go.cO
namespace Go.cO
section
variable (τ:gU)(lit:Bool)
def wUn (op:UnOp)(x:AV)(Q:AV→Prop):Prop:=match op,x with
 | .neg,.i k n=>Ic k (0 - n) Q
 | .xor,.i k n=>om (sH .xor k (if k.signed then -1 else k.max) n) Q
 | .not,.b p=>fc (.b !p) Q
 | _,_=>False
def wConv (s d:Nat)(x:AV)(σ:St)(Q:AV→St→Prop):Prop:=om (τ s) fun S=>om (τ d) fun D=>match S.d,D.d,x with
 | _,.int k,.i _ n=>Ic k n fun v=>Q v σ
 | _,.str,.i _ n=>Q (.s (Utf8.encode n).data.toList) σ
 | .str,.str,.s x=>Q (.s x) σ
 | .str,.slice e,.s x=>cB (Fb τ e) (Fa lit σ fun m=>Ib lit (bg e (x.map fun b=>.i .u8 b.toNat) σ) fun σ'=>Q (.sl m 0 0 x.length 1) σ') False
 | .slice e,.str,.sl0=>cB (Fb τ e) (Q (.s []) σ) False
 | .slice e,.str,.sl o g off n z=>cB (Fb τ e && Nat.beq z 1) (om (fC σ o g) fun cs=>∃b,off+n≤cs.length∧bytesOf ((cs.drop off).take n)=some b∧Q (.s b) σ) False
 | _,_,_=>False
def wBsl (t len:Nat)(ps:List (Nat×AV))(σ:St)(Q:AV→St→Prop):Prop:=om (τ t) fun T=>match T.d with
 | .slice e=>om (τ e) fun E=>cB (Nat.blt 0 E.size && Nat.beq E.zero.cells.length E.size && Nat.ble (len*E.size) 16777216)
  (om (iV (fun i=>some (i*E.size,E.size)) (iG E.zero.cells len) ps) fun cs=>E8 cs fun cs=>Fa lit σ fun m=>Ib lit (bg e cs σ) fun σ'=>Q (.sl m 0 0 len E.size) σ') False
 | _=>False
def wMks (t:Nat)(l c:AV)(σ:St)(Q:AV→St→Prop):Prop:=om (τ t) fun T=>match T.d,l,c with
 | .slice e,.i _ l,.i _ c=>om (τ e) fun E=>cB (Nat.blt 0 E.size && Nat.beq E.zero.cells.length E.size)
  (∃l' c':Nat,l=l'∧c=c'∧l'≤c'∧c'≤9223372036854775807∧E.bytes*c'≤140737488355328∧Fa lit σ fun m=>Ib lit (bg e (iG E.zero.cells c') σ) fun σ'=>Q (.sl m 0 0 l' E.size) σ') False
 | _,_,_=>False
def wRng (t:Nat)(x:AV)(σ:St)(Q:AV→St→Prop):Prop:=om (τ t) fun T=>match T.d,x with
 | .str,.s x=>Fa lit σ fun m=>Ib lit (σ ++ [⟨0,false,.iter x 0⟩]) fun σ'=>Q (.p m 0 0) σ'
 | _,_=>False
def iterAt (σ:St)(o g:Nat):Option (List UInt8×Nat):=match σ[o]? with
 | some ⟨g',ro,.iter s pos⟩=>bif Nat.beq g g' && !ro then some (s,pos) else none
 | _=>none
def wNxt (x:AV)(σ:St)(Q:AV→St→Prop):Prop:=match x with
 | .p o g off=>cB (Nat.beq off 0) (om (iterAt σ o g) fun r=>
  cB (decide (r.2<r.1.length)) (Ib lit (σ.set o ⟨g,false,.iter r.1 (r.2+(Utf8.decode ⟨r.1.toArray⟩ r.2).2)⟩) fun σ'=>Q (.tu [.b true,.i .i64 r.2,.i .i32 (Utf8.decode ⟨r.1.toArray⟩ r.2).1]) σ') (Q (.tu [.b false]) σ)) False
 | _=>False
def O_ (σ:St)(o g e:Nat):Option (List AV):=match σ[o]? with
 | some ⟨g',ro,.cells e' cs⟩=>bif Nat.beq g g' && !ro && Nat.beq e' e then some cs else none
 | _=>none
theorem Pg {σ:St} {o g e:Nat} {cs:List AV} (h:O_ σ o g e=some cs):σ[o]? =some ⟨g,false,.cells e cs⟩:=by
 unfold O_ at h
 split at h
 ·rename_i g' ro e' cs' ho
  cases hb:(Nat.beq g g' && !ro && Nat.beq e' e) with
  | false=>rw [hb] at h;cases h
  | true=>
    rw [hb] at h
    cases h
    simp only [Bool.and_eq_true,Bool.not_eq_true'] at hb
    rw [ho,Nat.eq_of_beq_eq_true hb.1.1,Nat.eq_of_beq_eq_true hb.2,hb.1.2]
 ·cases h
def JC:AD→Bool
 | .xC _=>true
 | _=>false
def wApp (t:Nat)(x y:AV)(σ:St)(Q:AV→St→Prop):Prop:=om (τ t) fun T=>match T.d with
 | .slice e=>om (τ e) fun E=>cB (Nat.blt 0 E.size && Nat.beq E.zero.cells.length E.size && Nat.blt 0 E.bytes)
  (om (h_ E.size y σ) fun src=>cB (Nat.beq src.1 0) (match x with | .sl0=>Q .sl0 σ | .sl o g off n z=>Q (.sl o g off n z) σ | _=>False)
   (cB (src.2.all AV.one)
      (match x with
      | .sl0=>src.1*E.bytes≤140737488355328∧E8 src.2 fun l=>Fa lit σ fun m=>Ib lit (bg e l σ) fun σ'=>Q (.sl m 0 0 src.1 E.size) σ'
      | .sl o g off n z=>om (O_ σ o g e) fun cs=>z=E.size∧off+n*z≤cs.length∧(n+src.1)*E.bytes≤140737488355328∧((cs.drop off).take (n*z)).all AV.one=true∧
          Ib lit (σ.set o ⟨g+1,false,.cells e (((cs.drop off).take (n*z)) ++ src.2)⟩) fun σ'=>Q (.sl o (g+1) 0 (n+src.1) z) σ'
      | _=>False) False)) False
 | _=>False
structure HasF (P:Program)(t I:Nat)(Q:Bool→Prop):Prop where
 ev:om (hasAll P t I) Q
theorem HasF.of {P:Program} {t I:Nat} {b:Bool} {Q:Bool→Prop} (h:hasAll P t I=some b)(q:Q b):HasF P t I Q:=⟨by rw [h];exact q⟩
def wTas (P:Program)(x:AV)(t:Nat)(ok:Bool)(Q:AV→Prop):Prop:=om (τ t) fun T=>cB (JC T.d) (match x with
 | .gK=>cB ok (Q (.tu [T.zero,.b false])) False
 | .ic t' v=>HasF P t' t fun b=>cB b (cB ok (Q (.tu [.ic t' v,.b true])) (Q (.ic t' v))) (cB ok (Q (.tu [T.zero,.b false])) False)
 | _=>False) (match x with
 | .gK=>cB ok (Q (.tu [T.zero,.b false])) False
 | .ic t' v=>cB (Nat.beq t' t) (cB ok (Q (.tu [v,.b true])) (fc v Q)) (cB ok (Q (.tu [T.zero,.b false])) False)
 | _=>False)
end
structure AppF (τ:gU)(lit:Bool)(t:Nat)(x y:AV)(σ:St)(Q:AV→St→Prop):Prop where
 ev:wApp τ lit t x y σ Q
def LQ (X:Ctx)(τ:gU)(lit:Bool)(ρ:bH→AV)(op:dG)(σ:St)(Q:AV→St→Prop):Prop:=match op with
 | .mv x=>fc (ρ x) fun v=>Q v σ
 | .pick c a b=>match ρ c with
   | .b t=>cB t (cB (ρ a).cnd (fc (ρ a).val fun v=>Q v σ) False) (cB (ρ b).cnd (fc (ρ b).val fun v=>Q v σ) False)
   | _=>False
 | .alloc t=>om (τ t) fun T=>Fa lit σ fun m=>Ib lit (bg t T.zero.cells σ) fun σ'=>Q (.p m 0 0) σ'
 | .box t x=>fq (ρ x) fun v=>match v with
   | .u=>False
   | .tu _=>False
   | .cd _ _=>False
   | v=>Fa lit σ fun m=>Ib lit (bg t v.cells σ) fun σ'=>Q (.p m 0 0) σ'
 | .build t ps=>O9 τ t (ps.map fun q=>(q.1,ρ q.2)) fun v=>Q v σ
 | .A8 t n ps=>wBsl τ lit t n (ps.map fun q=>(q.1,ρ q.2)) σ Q
 | .load t x=>om (fG (τ t) (ρ x) σ) fun v=>fc v fun v=>Q v σ
 | .store t x y=>om (f_ (τ t) (ρ x) (ρ y) σ) fun σ'=>Ib lit σ' fun σ'=>Q (.tu []) σ'
 | .iF x=>om (G9 (ρ x)) fun v=>Q v σ
 | .bin op t x y=>wBin τ op t (ρ x) (ρ y) (x.isC || y.isC) fun v=>Q v σ
 | .un op x=>wUn op (ρ x) fun v=>Q v σ
 | .conv s d x=>wConv τ lit s d (ρ x) σ Q
 | .Vj t x=>om (τ t) fun T=>match T.d with
   | .xC _=>False
   | _=>fc (ρ x) fun v=>Q (.ic t v) σ
 | .xA f a c=>E8 (a.map ρ) fun a=>E8 (c.map ρ) fun c=>Q (.fn f a c) σ
 | .I5 t l c=>wMks τ lit t (ρ l) (ρ c) σ Q
 | .slc t x l h=>wSlc τ t (ρ x) (l.map ρ) (h.map ρ) σ fun v=>Q v σ
 | .kW t x f=>wFad τ t (ρ x) f fun v=>Q v σ
 | .wV t x f=>wFld τ t (ρ x) f fun v=>Q v σ
 | .iD t x i=>wIad τ t (ρ x) (ρ i) fun v=>Q v σ
 | .idx t x i=>wIdx τ t (ρ x) (ρ i) fun v=>Q v σ
 | .rng t x=>wRng τ lit t (ρ x) σ Q
 | .Kr x=>wNxt lit (ρ x) σ Q
 | .Vk x _ t ok=>wTas τ X.P (ρ x) t ok fun v=>Q v σ
 | .ext x i=>match ρ x with
   | .tu vs=>om vs[i]? fun v=>fc v fun v=>Q v σ
   | _=>False
 | .call f args=>match ρ f with
   | .fn f first cap=>match f with
     | .func k=>E8 (first ++ args.map ρ ++ cap) fun l=>dH X k l σ fun v σ'=>fc v fun v=>Q v σ'
     | _=>False
   | _=>False
 | .inv x m args=>match ρ x with
   | .ic t v=>match X.meth t m v with
     | some k=>E8 (k.2 :: args.map ρ) fun l=>dH X k.1 l σ fun v σ'=>fc v fun v=>Q v σ'
     | none=>False
   | _=>False
 | .len t x=>wLen τ t (ρ x) fun v=>Q v σ
 | .app t _ x y=>fq (ρ x) fun x=>fq (ρ y) fun y=>AppF τ lit t x y σ Q
 | .copy t x y=>om (Ba X.P t (ρ x) (ρ y) σ) fun r=>Ib lit r.2 fun σ'=>Q r.1 σ'
 | .mn mx xs=>om (MS mx (xs.map ρ)) fun v=>fc v fun v=>Q v σ
 | .U0 t r=>om (Vo X.P t (r.map ρ) σ) fun r=>Ib lit r.2 fun σ'=>Q r.1 σ'
 | .GU t x k ok=>om (yw X.P t (ρ x) (ρ k) ok σ) fun v=>fc v fun v=>Q v σ
 | .MR t m k v=>om (KD X.P t (ρ m) (ρ k) (ρ v) σ) fun σ'=>Ib lit σ' fun σ'=>Q (.tu []) σ'
 | .del t m k=>om (Vm X.P t (ρ m) (ρ k) σ) fun σ'=>Ib lit σ' fun σ'=>Q (.tu []) σ'
 | .mln t x=>om (He X.P t (ρ x) σ) fun v=>fc v fun v=>Q v σ
 | .sl3 t x l h m=>om (Ku X.P t (ρ x) (l.map ρ) (ρ h) (ρ m)) fun v=>fc v fun v=>Q v σ
 | .xB b s d x=>om (CS X.P b s d (ρ x) σ) fun v=>fc v fun v=>Q v σ
 | .pnc _=>False
section
variable {X:Ctx} {τ:gU} (bM:τ.Ok X.P) {lit:Bool} {σ:St} {Q:AV→St→Prop}
theorem wUn_ok {op:UnOp} {x:AV} {Q:AV→Prop} (h:wUn op x Q):opt (Vl op x) Q:=by
 unfold wUn at h
 split at h
 ·obtain⟨r,rfl,h⟩:=h;exact⟨_,rfl,h⟩
 ·exact zf h
 ·exact⟨_,rfl,gX _ _ h⟩
 ·exact h.elim
include bM
theorem Ph {s d:Nat} {x:AV} (h:wConv τ lit s d x σ Q):opt (iW X.P s d x σ) fun r=>Q r.1 r.2:=by
 obtain⟨⟨d1,s1,b1,z1,c1,hd1,g1⟩,hS,h⟩:=bF h
 obtain⟨⟨d2,s2,b2,z2,c2,hd2,g2⟩,hD,h⟩:=bF h
 unfold iW
 rw [bM _ _ hS,bM _ _ hD]
 simp only at h ⊢
 split at h
 ·obtain⟨r,rfl,h⟩:=h;exact⟨_,rfl,h⟩
 ·exact⟨_,rfl,h⟩
 ·exact⟨_,rfl,h⟩
 ·obtain⟨h1,h⟩:=jT h
  obtain⟨a,b,c,d,f,g,he⟩:=qH bM h1
  simp only [he]
  exact⟨_,rfl,jE _ _ _ (oM _ _ _ h)⟩
 ·obtain⟨h1,h⟩:=jT h
  obtain⟨a,b,c,d,f,g,he⟩:=qH bM h1
  simp only [he]
  exact⟨_,rfl,h⟩
 ·obtain⟨h1,h⟩:=jT h
  rw [Bool.and_eq_true] at h1
  have hz:=Nat.eq_of_beq_eq_true h1.2
  obtain⟨a,b,c,d,f,g,he⟩:=qH bM h1.1
  obtain⟨cs,hc,b',h2,h3,h⟩:=bF h
  simp only [he]
  rw [if_pos hz,hc,Option.bind_some,if_pos h2,h3]
  exact⟨_,rfl,h⟩
 ·exact h.elim
theorem Wy {t n:Nat} {ps:List (Nat×AV)} (h:wBsl τ lit t n ps σ Q):opt (Kt X.P t n ps σ) fun r=>Q r.1 r.2:=by
 obtain⟨⟨d1,s1,b1,z1,c1,hd1,g1⟩,hT,h⟩:=bF h
 unfold Kt
 simp only at h
 split at h
 ·rw [bM _ _ hT]
  obtain⟨E,hE,h⟩:=bF h
  obtain⟨h1,h⟩:=jT h
  rw [Bool.and_eq_true,Bool.and_eq_true] at h1
  obtain⟨cs,hc,h⟩:=bF h
  simp only [bM _ _ hE]
  rw [if_pos ⟨jF h1.1.1,Nat.eq_of_beq_eq_true h1.1.2,Nat.le_of_ble_eq_true h1.2⟩,hc]
  exact⟨_,rfl,jE _ _ _ (oM _ _ _ (lN _ _ h))⟩
 ·exact h.elim
theorem WA {t:Nat} {l c:AV} (h:wMks τ lit t l c σ Q):opt (Kw X.P t l c σ) fun r=>Q r.1 r.2:=by
 obtain⟨⟨d1,s1,b1,z1,c1,hd1,g1⟩,hT,h⟩:=bF h
 unfold Kw
 rw [bM _ _ hT]
 simp only at h
 split at h
 ·obtain⟨E,hE,h⟩:=bF h
  obtain⟨h1,h⟩:=jT h
  rw [Bool.and_eq_true] at h1
  obtain⟨l',c',rfl,rfl,h2,h3,h4,h⟩:=h
  simp only [bM _ _ hE]
  rw [if_pos ⟨jF h1.1,Nat.eq_of_beq_eq_true h1.2,by omega,by omega,by omega,by omega⟩]
  exact⟨_,rfl,jE _ _ _ (oM _ _ _ h)⟩
 ·exact h.elim
theorem WB {t:Nat} {x:AV} (h:wRng τ lit t x σ Q):opt (Ky X.P t x σ) fun r=>Q r.1 r.2:=by
 obtain⟨⟨d1,s1,b1,z1,c1,hd1,g1⟩,hT,h⟩:=bF h
 unfold Ky
 rw [bM _ _ hT]
 simp only at h
 split at h
 ·exact⟨_,rfl,jE _ _ _ (oM _ _ _ h)⟩
 ·exact h.elim
omit bM in
theorem WC {x:AV} (h:wNxt lit x σ Q):opt (G7 x σ) fun r=>Q r.1 r.2:=by
 unfold wNxt at h
 split at h
 ·obtain⟨h1,h⟩:=jT h
  obtain rfl:=Nat.eq_of_beq_eq_true h1
  obtain⟨⟨s,pos⟩,hi,h⟩:=bF h
  unfold iterAt at hi
  split at hi
  ·rename_i g' ro s' pos' ho
   cases hb:(Nat.beq _ g' && !ro) with
   | false=>rw [hb] at hi;cases hi
   | true=>
     rw [hb] at hi
     cases hi
     simp only [Bool.and_eq_true,Bool.not_eq_true'] at hb
     have hg:=Nat.eq_of_beq_eq_true hb.1
     subst hg
     unfold G7
     simp only [ho]
     rw [if_pos ⟨trivial,hb.2⟩]
     simp only at h
     by_cases hp:pos<s.length
     ·rw [decide_eq_true hp] at h
      rw [if_pos hp]
      exact⟨_,rfl,jE _ _ _ h⟩
     ·rw [decide_eq_false hp] at h
      rw [if_neg hp]
      exact⟨_,rfl,h⟩
  ·cases hi
 ·exact h.elim
theorem WE {t:Nat} {x y:AV} (h:wApp τ lit t x y σ Q):opt (G6 X.P t x y σ) fun r=>Q r.1 r.2:=by
 obtain⟨⟨d1,s1,b1,z1,c1,hd1,g1⟩,hT,h⟩:=bF h
 unfold G6
 simp only at h
 split at h
 ·rw [bM _ _ hT]
  obtain⟨E,hE,h⟩:=bF h
  obtain⟨h1,h⟩:=jT h
  rw [Bool.and_eq_true,Bool.and_eq_true] at h1
  obtain⟨src,hs,h⟩:=bF h
  simp only [bM _ _ hE]
  rw [if_pos ⟨jF h1.1.1,Nat.eq_of_beq_eq_true h1.1.2,jF h1.2⟩,hs,Option.bind_some]
  cases h0:Nat.beq src.1 0 with
  | true=>
    rw [h0] at h
    rw [if_pos (Nat.eq_of_beq_eq_true h0)]
    simp only [cB] at h
    split at h
    ·exact⟨_,rfl,h⟩
    ·exact⟨_,rfl,h⟩
    ·exact h.elim
  | false=>
    rw [h0] at h
    rw [if_neg (fun e=>by rw [e] at h0;cases h0)]
    obtain⟨h2,h⟩:=jT h
    rw [if_pos h2]
    split at h
    ·obtain⟨h3,h⟩:=h
     simp only
     rw [if_pos h3]
     exact⟨_,rfl,jE _ _ _ (oM _ _ _ (lN _ _ h))⟩
    ·obtain⟨cs,hc,h3,h4,h5,h6,h⟩:=bF h
     have ho:=Pg hc
     simp only [ho]
     rw [if_pos ⟨trivial,h3,trivial,h4,h5,h6⟩]
     exact⟨_,rfl,jE _ _ _ h⟩
    ·exact h.elim
 ·exact h.elim
theorem WG {x:AV} {t:Nat} {ok:Bool} {Q:AV→Prop} (h:wTas τ X.P x t ok Q):opt (G8 X.P x t ok) Q:=by
 obtain⟨⟨d1,s1,b1,z1,c1,hd1,g1⟩,hT,h⟩:=bF h
 unfold G8
 rw [bM _ _ hT]
 simp only at h
 cases x with
 | gK=>
   have key:ok=true∧Q (.tu [z1,.b false]):=by
    cases hi:JC d1 <;> (rw [hi] at h;exact jT h)
   obtain⟨rfl,h⟩:=key
   cases d1 <;> exact⟨_,rfl,h⟩
 | ic t' v=>
   simp only at h
   cases hi:JC d1 with
   | true=>
     rw [hi] at h
     cases d1 with
     | xC ms=>
       obtain⟨b,hb,h⟩:=bF h.ev
       simp only [hb]
       cases b with
       | true=>cases ok <;> exact⟨_,rfl,h⟩
       | false=>obtain⟨rfl,h⟩:=jT h;exact⟨_,rfl,h⟩
     | _=>cases hi
   | false=>
     rw [hi] at h
     have key:opt (if t'= t then some (if ok then AV.tu [v,.b true] else v) else if ok then some (.tu [z1,.b false]) else none) Q:=by
        cases hb:Nat.beq t' t with
        | true=>
          rw [hb] at h
          rw [if_pos (Nat.eq_of_beq_eq_true hb)]
          cases ok with
          | true=>exact⟨_,rfl,h⟩
          | false=>exact⟨_,rfl,gX _ _ h⟩
        | false=>
          rw [hb] at h
          rw [if_neg (fun e=>by rw [e,Nat.beq_refl] at hb;cases hb)]
          obtain⟨rfl,h⟩:=jT h
          exact⟨_,rfl,h⟩
     cases d1 <;> first | (cases hi;done) | exact key
 | _=>cases hi:JC d1 <;> (rw [hi] at h;exact h.elim)
theorem Fe {t:Nat} {x v:AV} (h:fG (τ t) x σ=some v):fG (aA X.P t) x σ=some v:=by
 cases ht:τ t with
 | none=>rw [ht] at h;simp [fG] at h
 | some T=>rw [bM _ _ ht,←ht];exact h
theorem LU {t:Nat} {x y:AV} {σ':St} (h:f_ (τ t) x y σ=some σ'):f_ (aA X.P t) x y σ=some σ':=by
 cases ht:τ t with
 | none=>rw [ht] at h;simp [f_] at h
 | some T=>rw [bM _ _ ht,←ht];exact h
theorem Ih {ρ:bH→AV} {op:dG} (h:LQ X τ lit ρ op σ Q):yG X ρ op σ Q:=by
 cases op with
 | call f args=>
   rw [Bq]
   simp only [LQ] at h
   split at h
   ·rename_i f' first cap hf
    split at h
    ·rename_i k
     rw [hf]
     have h:=lN _ _ h
     exact yH h.ev fun v s q=>gX _ _ q
    ·exact h.elim
   ·exact h.elim
 | inv x m args=>
   rw [EG]
   simp only [LQ] at h
   split at h
   ·rename_i t v hx
    split at h
    ·rename_i k hk
     rw [hx]
     have h:=lN _ _ h
     exact⟨k,hk,yH h.ev fun v s q=>gX _ _ q⟩
    ·exact h.elim
   ·exact h.elim
 | pnc x=>exact h.elim
 | mv x=>rw [b_ rfl];simp only [LQ] at h;exact⟨_,rfl,gX _ _ h⟩
 | pick c a b=>
   rw [b_ rfl]
   simp only [LQ] at h
   split at h
   ·rename_i t hc
    simp only [dO]
    rw [dL]
    unfold vX
    rw [hc]
    cases t with
    | true=>
      obtain⟨h1,h⟩:=jT h
      simp only [eu,h1,Bool.not_true,iq,Bool.and_self,if_true]
      refine⟨_,rfl,?_⟩
      have h:=gX _ _ h
      have e:merge true (ρ a).val (ρ b).val=(ρ a).val:=by
       unfold merge
       split
       ·rename_i p q e1 e2;rw [e1];simp [yx]
       ·simp
      rw [e];exact h
    | false=>
      obtain⟨h1,h⟩:=jT h
      simp only [iq,h1,Bool.not_false,eu,Bool.and_self,if_true]
      refine⟨_,rfl,?_⟩
      have h:=gX _ _ h
      have e:merge false (ρ a).val (ρ b).val=(ρ b).val:=by
       unfold merge
       split
       ·rename_i p q e1 e2;rw [e2];simp [yx]
       ·simp
      rw [e];exact h
   ·exact h.elim
 | alloc t=>
   rw [b_ rfl]
   obtain⟨T,hT,h⟩:=bF h
   simp only [dO]
   rw [bM _ _ hT]
   exact⟨_,rfl,jE _ _ _ (oM _ _ _ h)⟩
 | box t x=>
   rw [b_ rfl]
   simp only [LQ] at h
   have h:=E_ _ _ h
   simp only [dO]
   split at h
   ·exact h.elim
   ·exact h.elim
   ·exact h.elim
   ·rename_i h1 h2 h3
    have h:=jE _ _ _ (oM _ _ _ h)
    split
    ·rename_i e;exact(h1 e).elim
    ·rename_i e;exact(h2 _ e).elim
    ·rename_i e;exact(h3 _ _ e).elim
    ·exact⟨_,rfl,h⟩
 | build t ps=>rw [b_ rfl];simp only [dO];rw [dL];exact LP bM h
 | A8 t n ps=>rw [b_ rfl];exact Wy bM h
 | load t x=>
   rw [b_ rfl]
   obtain⟨v,hv,h⟩:=bF h
   simp only [dO]
   rw [dL]
   exact⟨v,Fe bM hv,gX _ _ h⟩
 | store t x y=>
   rw [b_ rfl]
   obtain⟨s,hs,h⟩:=bF h
   simp only [dO]
   rw [dL]
   exact⟨s,LU bM hs,jE _ _ _ h⟩
 | iF x=>
   rw [b_ rfl]
   simp only [dO]
   rw [dL]
   exact zf h
 | bin op t x y=>rw [b_ rfl];simp only [dO];rw [dL];exact Wn bM h
 | un op x=>rw [b_ rfl];simp only [dO];rw [dL];exact wUn_ok h
 | conv s d x=>rw [b_ rfl];exact Ph bM h
 | Vj t x=>
   rw [b_ rfl]
   obtain⟨⟨d1,s1,b1,z1,c1,hd1,g1⟩,hT,h⟩:=bF h
   simp only [dO]
   rw [bM _ _ hT]
   simp only at h
   split at h
   ·exact h.elim
   ·rename_i hn
    have h:=gX _ _ h
    split
    ·rename_i e;cases e;exact(hn _ rfl).elim
    ·exact⟨_,rfl,h⟩
    ·rename_i e;cases e
 | xA f a c=>
   rw [b_ rfl]
   simp only [LQ] at h
   have h:=lN _ _ (lN _ _ h)
   exact⟨_,rfl,h⟩
 | I5 t l c=>rw [b_ rfl];exact WA bM h
 | slc t x l hh=>rw [b_ rfl];simp only [dO];rw [dL];exact Wp bM h
 | kW t x f=>rw [b_ rfl];simp only [dO];rw [dL];exact Wv bM h
 | wV t x f=>rw [b_ rfl];simp only [dO];rw [dL];exact Wx bM h
 | iD t x i=>rw [b_ rfl];simp only [dO];rw [dL];exact Wq bM h
 | idx t x i=>rw [b_ rfl];simp only [dO];rw [dL];exact Ws bM h
 | rng t x=>rw [b_ rfl];exact WB bM h
 | Kr x=>rw [b_ rfl];exact WC h
 | Vk x _ t ok=>rw [b_ rfl];simp only [dO];rw [dL];exact WG bM h
 | ext x i=>
   rw [b_ rfl]
   simp only [LQ] at h
   simp only [dO]
   split at h
   ·rename_i vs hx
    obtain⟨v,hv,h⟩:=bF h
    rw [hx]
    simp only
    rw [dL]
    exact⟨v,hv,gX _ _ h⟩
   ·exact h.elim
 | len t x=>rw [b_ rfl];simp only [dO];rw [dL];exact Wu bM h
 | app t s x y=>
   rw [b_ rfl]
   simp only [LQ] at h
   exact WE bM (E_ _ _ (E_ _ _ h)).ev
 | U0 t r=>
   rw [b_ rfl]
   obtain⟨q,hq,h⟩:=bF h
   exact⟨q,hq,jE _ _ _ h⟩
 | GU t x k ok=>
   rw [b_ rfl]
   obtain⟨v,hv,h⟩:=bF h
   simp only [dO]
   rw [dL]
   exact⟨v,hv,gX _ _ h⟩
 | MR t m k v=>
   rw [b_ rfl]
   obtain⟨q,hq,h⟩:=bF h
   simp only [dO]
   rw [dL]
   exact⟨q,hq,jE _ _ _ h⟩
 | del t m k=>
   rw [b_ rfl]
   obtain⟨q,hq,h⟩:=bF h
   simp only [dO]
   rw [dL]
   exact⟨q,hq,jE _ _ _ h⟩
 | sl3 t x l hh m=>
   rw [b_ rfl]
   obtain⟨v,hv,h⟩:=bF h
   simp only [dO]
   rw [dL]
   exact⟨v,hv,gX _ _ h⟩
 | xB b s d x=>
   rw [b_ rfl]
   obtain⟨v,hv,h⟩:=bF h
   simp only [dO]
   rw [dL]
   exact⟨v,hv,gX _ _ h⟩
 | mln t x=>
   rw [b_ rfl]
   obtain⟨v,hv,h⟩:=bF h
   simp only [dO]
   rw [dL]
   exact⟨v,hv,gX _ _ h⟩
 | copy t x y=>
   rw [b_ rfl]
   obtain⟨r,hr,h⟩:=bF h
   exact⟨r,hr,jE _ _ _ h⟩
 | mn mx xs=>
   rw [b_ rfl]
   obtain⟨r,hr,h⟩:=bF h
   simp only [dO]
   rw [dL]
   exact⟨r,hr,gX _ _ h⟩
end
end Go.cO
namespace Go.cO
section
variable (X:Ctx)(τ:gU)(lit:Bool)
def MZ (e:Env)(op:dG)(σ:St)(K:AV→St→Prop)(c:Bool):Prop:=match c with
 | true=>cB op.pure
  (match op with
  | .pick q x y=>match (q.ev e).val with
    | .b t=>cB (q.ev e).cnd (cB t (cB (x.ev e).cnd (fc (x.ev e).val fun v=>K (.cd true v) σ) False) (cB (y.ev e).cnd (fc (y.ev e).val fun v=>K (.cd true v) σ) False)) False
    | _=>False
  | op=>cB (op.bQ.all fun o=>(o.ev e).cnd) (LQ X τ lit (fun o=>(o.ev e).val) op σ fun v _=>K (.cd true v) σ) False)
  (cB (op.bQ.all fun o=>(o.ev e).cnd) (LQ X τ lit (fun o=>(o.ev e).val) op σ K) False)
 | false=>cB op.pure (K (.cd false .u) σ) (K (.tu []) σ)
def Fg (e:Env)(a:AI)(σ:St)(K:AV→St→Prop):Prop:=match a.gd with
 | none=>LQ X τ lit (bH.ev e) a.op σ K
 | some (n,w)=>match get e n with
   | .b x=>cB x (MZ X τ lit e a.op σ K w) (MZ X τ lit e a.op σ K (!w))
   | .cd c v=>cB c (match v with | .b x=>cB x (MZ X τ lit e a.op σ K w) (MZ X τ lit e a.op σ K (!w)) | _=>False) (MZ X τ lit e a.op σ K false)
   | .tu vs=>match vs with
     | []=>MZ X τ lit e a.op σ K false
     | _=>False
   | _=>False
def wO:List AI→Env→St→(Env→St→Prop)→Prop
 | [],e,σ,K=>K e σ
 | a :: r,e,σ,K=>Fg X τ lit e a σ fun v σ'=>wO r (put a.d v e) σ' K
def wAg (e:Env)(σ:St):List AI→Prop→Prop
 | [],K=>K
 | a :: r,K=>(match a.d with
   | some d=>cB a.op.pure (Fg X τ lit e a σ fun v _=>get e d=v) False
   | none=>False)∧wAg e σ r K
def wD:List (AI×List AI)→Env→St→(Env→St→Prop)→Prop
 | [],e,σ,K=>K e σ
 | a :: r,e,σ,K=>Fg X τ lit e a.1 σ fun v σ'=>wAg X τ lit e σ' a.2 (wD r (put a.1.d v e) σ' K)
def LV:List Nat→Env→(Env→Prop)→Prop
 | [],_,K=>K []
 | d :: ds,e,K=>fc (get e d) fun v=>LV ds e fun r=>K ((d,v) :: r)
def wC:AC→Env→St→(Out→Env→St→Prop)→Prop
 | .skip,e,σ,Q=>Q .normal e σ
 | .reg ops,e,σ,Q=>wO X τ lit ops e σ fun e σ=>Q .normal e σ
 | .l9 ops,e,σ,Q=>wD X τ lit ops e σ fun e σ=>Q .normal e σ
 | .seq a b,e,σ,Q=>wC a e σ fun o e σ=>match o with
   | .normal=>wC b e σ Q
   | .exit j=>Q (.exit j) e σ
   | .ret=>Q .ret e σ
 | .cond x a b,e,σ,Q=>match x.ev e with
   | .b t=>cB t (wC a e σ Q) (wC b e σ Q)
   | _=>False
 | .blk id c,e,σ,Q=>wC c e σ fun o e σ=>match o with
   | .normal=>Q .normal e σ
   | .exit j=>cB (Nat.beq j id) (Q .normal e σ) (Q (.exit j) e σ)
   | .ret=>Q .ret e σ
 | .loop live c,e,σ,Q=>LV live e fun e=>nV X live c e σ Q
 | .cut live c,e,σ,Q=>LV live e fun e=>wC c e σ Q
 | .exit id,e,σ,Q=>Q (.exit id) e σ
 | .ret,e,σ,Q=>Q .ret e σ
def JD (e:Env)(σ:St):List AR→(List AV→Prop)→Prop
 | [],K=>K []
 | .t n :: rs,K=>fc (get e n) fun v=>match v with
   | .cd _ _=>False
   | v=>JD e σ rs fun vs=>K (v :: vs)
 | .cell a t :: rs,K=>om (fG (τ t) (get e a) σ) fun v=>fc v fun v=>JD e σ rs fun vs=>K (v :: vs)
end
structure Fin (σ:St)(v:AV)(σ':St)(Q:AV→St→Prop):Prop where
 ev:Q (norm σ v σ').1 (norm σ v σ').2
def wF (X:Ctx)(τ:gU)(lit:Bool)(F:AF)(args:List AV)(σ:St)(Q:AV→St→Prop):Prop:=
 wC X τ lit F.code (eX 0 args) σ fun o e σ'=>match o with
    | .exit _=>False
    | _=>JD τ e σ' F.res fun vs=>match vs with
      | []=>Fin σ (.tu []) σ' Q
      | [v]=>Fin σ v σ' Q
      | v :: w :: vs=>Fin σ (.tu (v :: w :: vs)) σ' Q
theorem Fin.flat {σ σ':St} {v:AV} {Q:AV→St→Prop} (hf:v.flat=true)(h:σ'.take σ.length=σ)(q:Q v σ):Fin σ v σ' Q:=by
 constructor
 unfold norm
 rw [h,hf]
 simpa using q
theorem Fin.same {σ σ':St} {v:AV} {Q:AV→St→Prop} (h:σ'.length=σ.length)(q:Q v σ'):Fin σ v σ' Q:=by
 constructor
 unfold norm
 split
 ·rename_i hc
  rw [Bool.and_eq_true] at hc
  have:=lu _ _ hc.2
  rw [List.take_of_length_le (by omega)] at this
  rw [←this];exact q
 ·exact q
theorem Fin.ne {σ σ':St} {v:AV} {Q:AV→St→Prop} (h:σ'.take σ.length≠σ)(q:Q v σ'):Fin σ v σ' Q:=by
 constructor
 unfold norm
 split
 ·rename_i hc
  rw [Bool.and_eq_true] at hc
  exact(h (lu _ _ hc.2)).elim
 ·exact q
section
variable {X:Ctx} {τ:gU} (bM:τ.Ok X.P) {lit:Bool} {e:Env} {σ:St}
include bM
theorem vI {d:Option Nat} {g:Nat×Bool} {op:dG} {K:AV→St→Prop} {c:Bool} (hw:dW e (some g)=some c)(h:MZ X τ lit e op σ K c):EvS X e ⟨d,some g,op⟩ σ K:=by
 cases hp:op.pure with
 | true=>
   rw [NI hp]
   refine⟨c,hw,?_⟩
   cases c with
   | false=>
     simp only [MZ,hp] at h
     exact⟨_,rfl,h⟩
   | true=>
     simp only [MZ,hp] at h
     by_cases hpk:∃q x y,op= .pick q x y
     ·obtain⟨q,x,y,rfl⟩:=hpk
      simp only [cB] at h
      simp only [iT,if_true,gZ,qY]
      split at h
      ·rename_i t ht
       rw [ht]
       split at h
       ·rename_i h1
        cases t with
        | true=>
          simp only at h
          split at h
          ·rename_i h2
           have h:=gX _ _ h
           refine⟨_,by simp only [h1,h2,eu,Bool.and_self,Bool.true_and,Bool.not_true,Bool.and_false,iq,if_true];rfl,?_⟩
           have e1:merge true (x.ev e).val (y.ev e).val=(x.ev e).val:=by
            unfold merge
            split
            ·rename_i p q e1 e2;rw [e1];simp [yx]
            ·simp
           rw [e1];exact h
          ·exact h.elim
        | false=>
          simp only at h
          split at h
          ·rename_i h2
           have h:=gX _ _ h
           refine⟨_,by simp only [h1,h2,eu,Bool.and_self,Bool.true_and,Bool.not_false,Bool.and_false,Bool.and_true,iq,if_true];rfl,?_⟩
           have e1:merge false (x.ev e).val (y.ev e).val=(y.ev e).val:=by
            unfold merge
            split
            ·rename_i p q e1 e2;rw [e2];simp [yx]
            ·simp
           rw [e1];exact h
          ·exact h.elim
       ·exact h.elim
      ·exact h.elim
     ·have h':cB (op.bQ.all fun o=>(o.ev e).cnd) (LQ X τ lit (fun o=>(o.ev e).val) op σ fun v _=>K (.cd true v) σ) False:=by
        cases op <;> first | exact h | exact absurd ⟨_,_,_,rfl⟩ hpk
      obtain⟨h1,h2⟩:=jT h'
      have h3:=Ih bM h2
      rw [b_ (by clear h' h1 h2 h3 hpk h;cases op <;> first | rfl | cases hp)] at h3
      obtain⟨r,hr,h4⟩:=h3
      have e1:gZ X.P e op σ=nH true (op.bQ.all (fun o=>lC true (o.ev e).cnd)) (dO X.P (fun o=>(o.ev e).val) op σ):=by
        cases op <;> first | rfl | exact absurd ⟨_,_,_,rfl⟩ hpk
      refine⟨.cd true r.1,?_,h4⟩
      simp only [iT,if_true]
      rw [e1,hr]
      simp only [eu,nH]
      rw [if_pos h1]
 | false=>
   rw [Jg hp]
   refine⟨c,hw,?_⟩
   cases c with
   | false=>simp only [MZ,hp] at h;exact h
   | true=>
     simp only [MZ,hp] at h
     obtain⟨h1,h2⟩:=jT h
     exact⟨h1,Ih bM h2⟩
theorem zl {a:AI} {K:AV→St→Prop} (h:Fg X τ lit e a σ K):EvS X e a σ K:=by
 obtain⟨d,gd,op⟩:=a
 unfold Fg at h
 simp only at h
 cases gd with
 | none=>exact Ih bM h
 | some g=>
   obtain⟨n,w⟩:=g
   simp only at h
   split at h
   ·rename_i x hx
    cases x with
    | true=>exact vI bM (by simp only [dW,hx];cases w <;> rfl) h
    | false=>exact vI bM (by simp only [dW,hx];cases w <;> rfl) h
   ·rename_i c v hx
    cases c with
    | true=>
      simp only [cB] at h
      split at h
      ·rename_i x
       cases x with
       | true=>exact vI bM (by simp only [dW,hx];cases w <;> rfl) h
       | false=>exact vI bM (by simp only [dW,hx];cases w <;> rfl) h
      ·exact h.elim
    | false=>
      have h':MZ X τ lit e op σ K false:=h
      exact vI bM (by simp only [dW,hx];cases v <;> rfl) h'
   ·rename_i vs hx
    split at h
    ·exact vI bM (by simp only [dW,hx]) h
    ·exact h.elim
   ·exact h.elim
theorem wO_ok:∀{ops:List AI} {e:Env} {σ:St} {K:Env→St→Prop},wO X τ lit ops e σ K→EvO X ops e σ K
 | [],e,σ,K,h=>Je.2 h
 | a :: r,e,σ,K,h=>by
   rw [ED]
   have h1:=zl bM h
   obtain⟨n,x,hx,q⟩:=h1
   exact⟨n,x,hx,wO_ok q⟩
theorem Pj {e:Env} {σ:St} {K:Prop} :∀{l:List AI},wAg X τ lit e σ l K→l.all (mY X e σ)=true∧K
 | [],h=>⟨rfl,h⟩
 | a :: r,h=>by
   obtain⟨h1,h2⟩:=h
   obtain⟨h3,h4⟩:=Pj h2
   refine⟨?_,h4⟩
   simp only [List.all_cons,h3,Bool.and_true]
   split at h1
   ·rename_i d hd
    obtain⟨hp,h1⟩:=jT h1
    obtain⟨n,x,hx,q⟩:=zl bM h1
    have hx':cZ X (fun _ _ _=>none) e a σ=some x:=by
        unfold cZ at hx ⊢
        rw [←hx]
        have hc:∀ρ run,dD X run ρ a.op σ=dO X.P ρ a.op σ:=by
         intro ρ run
         cases ho:a.op <;> rw [ho] at hp <;> first | rfl | cases hp
        simp only [hc]
    unfold mY
    rw [hd,hx']
    obtain⟨v,s⟩:=x
    simp only at q ⊢
    rw [q];exact AV.nD v
   ·exact h1.elim
theorem wD_ok:∀{ops:List (AI×List AI)} {e:Env} {σ:St} {K:Env→St→Prop},wD X τ lit ops e σ K→EvD X ops e σ K
 | [],e,σ,K,h=>Jf.2 h
 | (a,ag) :: r,e,σ,K,h=>by
   rw [EF]
   have h1:=zl bM h
   obtain⟨n,x,hx,q⟩:=h1
   obtain⟨q1,q2⟩:=Pj bM q
   exact⟨n,x,hx,q1,wD_ok q2⟩
omit bM in
theorem uo:∀(l:List Nat) (e:Env) (K:Env→Prop),LV l e K→K (clear l e)
 | [],e,K,h=>h
 | d :: ds,e,K,h=>uo ds e _ (gX _ _ h)
omit bM in
theorem ku (l:List Nat)(e:Env):clear l (clear l e)=clear l e:=by
 have key:∀(m:List Nat) (d:Nat),d∈m→get (m.map fun d=>(d,get e d)) d=get e d:=by
  intro m
  induction m with
  | nil=>intro d h;cases h
  | cons a m ih=>
    intro d h
    simp only [List.map_cons,get]
    split
    ·rename_i h1;rw [h1]
    ·rename_i h1
     rcases List.mem_cons.1 h with rfl | h
     ·exact(h1 rfl).elim
     ·exact ih d h
 unfold clear
 exact List.map_congr_left fun d hd=>by rw [key l d hd]
theorem wQ:∀{c:AC} {e:Env} {σ:St} {Q:Out→Env→St→Prop},wC X τ lit c e σ Q→EvC X c e σ Q:=by
 intro c
 induction c with
 | skip=>intro e σ Q h;exact Ey.2 h
 | exit id=>intro e σ Q h;exact Ez.2 h
 | ret=>intro e σ Q h;exact Jb.2 h
 | reg ops=>intro e σ Q h;exact Jc.2 (wO_ok bM h)
 | l9 ops=>intro e σ Q h;exact Jd.2 (wD_ok bM h)
 | seq a b iha ihb=>
   intro e σ Q h
   refine jg.2 (j_ (iha h) fun o e s q=>?_)
   cases o with
   | normal=>rw [Out.gW];exact ihb q
   | exit j=>rw [Out.kX];exact q
   | ret=>rw [Out.nO];exact q
 | cond x a b iha ihb=>
   intro e σ Q h
   simp only [wC] at h
   rw [EC]
   split at h
   ·rename_i t hx
    rw [hx]
    cases t with
    | true=>exact iha h
    | false=>exact ihb h
   ·exact h.elim
 | blk id c ih=>
   intro e σ Q h
   refine xJ.2 (j_ (ih h) fun o e s q=>?_)
   cases o with
   | normal=>rw [Out.tN];exact q
   | exit j=>
     rw [Out.oG]
     simp only at q
     cases hb:Nat.beq j id with
     | true=>rw [hb] at q;rw [if_pos (Nat.eq_of_beq_eq_true hb)];exact q
     | false=>rw [hb] at q;rw [if_neg (fun e=>by rw [e,Nat.beq_refl] at hb;cases hb)];exact q
   | ret=>rw [Out.Bo];exact q
 | loop live c ih=>
   intro e σ Q h
   have h:=(uo _ _ _ h).ev
   rw [jC,ku] at h
   rw [tV,jC]
   exact h
 | cut live c ih=>
   intro e σ Q h
   exact mM.2 (ih (uo _ _ _ h))
theorem uq:∀{rs:List AR} {K:List AV→Prop},JD τ e σ rs K→opt (mG X.P e σ rs) K
 | [],K,h=>⟨_,rfl,h⟩
 | .t n :: rs,K,h=>by
   have h:=gX _ _ h
   split at h
   ·exact h.elim
   ·rename_i hn
    obtain⟨vs,hv,q⟩:=uq h
    refine⟨_,?_,q⟩
    simp only [mG,hv]
    have e1:pz X.P e σ (.t n)=some (get e n):=by
        simp only [pz]
    rw [e1]
 | .cell a t :: rs,K,h=>by
   obtain⟨v,hv,h⟩:=bF h
   have h:=gX _ _ h
   obtain⟨vs,hvs,q⟩:=uq h
   refine⟨_,?_,q⟩
   simp only [mG,hvs]
   have e1:pz X.P e σ (.cell a t)=some v:=Fe bM hv
   rw [e1]
theorem dH.body {f:Nat} {F:AF} {args:List AV} {Q:AV→St→Prop} (hp:X.lD f=none)(hf:X.fns f=some F)(hl:args.length≤F.nt)(h:wF X τ lit F args σ Q):dH X f args σ Q:=by
 constructor
 rw [NM hp hf hl]
 refine j_ (wQ bM h) fun o e s q=>?_
 cases o with
 | exit j=>exact q.elim
 | normal=>
   obtain⟨vs,hv,q⟩:=uq bM q
   refine⟨rfl,?_⟩
   rw [dL]
   unfold mg
   rw [hv]
   match vs,q with
   | [],q=>exact⟨_,rfl,q.ev⟩
   | [v],q=>exact⟨_,rfl,q.ev⟩
   | v :: w :: vs,q=>exact⟨_,rfl,q.ev⟩
 | ret=>
   obtain⟨vs,hv,q⟩:=uq bM q
   refine⟨rfl,?_⟩
   rw [dL]
   unfold mg
   rw [hv]
   match vs,q with
   | [],q=>exact⟨_,rfl,q.ev⟩
   | [v],q=>exact⟨_,rfl,q.ev⟩
   | v :: w :: vs,q=>exact⟨_,rfl,q.ev⟩
theorem nV.round {live:List Nat} {c:AC} {Q:Out→Env→St→Prop}
 (h:LV live e fun e=>wC X τ lit c e σ fun o e σ=>match o with
  | .normal=>LV live e fun e=>nV X live c e σ Q
  | .exit j=>Q (.exit j) e σ
  | .ret=>Q .ret e σ):nV X live c e σ Q:=by
 constructor
 rw [jC]
 refine j_ (wQ bM (uo _ _ _ h)) fun o e s q=>?_
 cases o with
 | normal=>
   rw [Out.gW]
   have h:=(uo _ _ _ q).ev
   rw [jC,ku] at h
   rw [jC]
   exact h
 | exit j=>rw [Out.kX];exact q
 | ret=>rw [Out.nO];exact q
end
theorem dH.of {X:Ctx} {f:Nat} {args:List AV} {σ:St} {Q:AV→St→Prop} (h:yF X f args σ Q):dH X f args σ Q:=⟨h⟩
theorem dH.to {X:Ctx} {f:Nat} {args:List AV} {σ σ':St} {v:AV} {Q:AV→St→Prop} (h:dH X f args σ fun a s=>a=v∧s=σ')(q:Q v σ'):dH X f args σ Q:=⟨(VW h.ev).2 q⟩
theorem dH.mono {X:Ctx} {f:Nat} {args:List AV} {σ:St} {Q Q':AV→St→Prop} (h:dH X f args σ Q)(q:∀v s,Q v s→Q' v s):dH X f args σ Q':=⟨yH h.ev q⟩
theorem nV.mono {X:Ctx} {live:List Nat} {c:AC} {e:Env} {σ:St} {Q Q':Out→Env→St→Prop} (h:nV X live c e σ Q)(q:∀o e s,Q o e s→Q' o e s):nV X live c e σ Q':=⟨NQ h.ev q⟩
end Go.cO
