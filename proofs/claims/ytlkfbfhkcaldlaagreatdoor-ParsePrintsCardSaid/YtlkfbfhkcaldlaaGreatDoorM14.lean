/- Texts of this claim, joined: Wq, Lx, Ly, Cy. -/
import Derived.Test.YtlkfbfhkcaldlaaGreatDoorM12
import Derived.Test.YtlkfbfhkcaldlaaGreatDoorM13
import Derived.Lib.Bytealg
import Derived.Lib.ParseIntB
import GoSem.Core.Value
import Derived.Test.YtlkfbfhkcaldlaaGreatDoorM08
set_option linter.unusedVariables false
set_option linter.unusedSimpArgs false
namespace Go.Abs.YtlkfbfhkcaldlaaGreatDoor
open Go.Proofs
set_option maxRecDepth 10000000
def pks:List Pk:=[pk0,pk1,pk2,pk3,pk4]
theorem U9:∀k∈pks,k.Good X1:=by
 intro k hk
 simp only [pks,List.mem_cons,List.not_mem_nil,or_false] at hk
 rcases hk with rfl | rfl | rfl | rfl | rfl
 ·exact U4
 ·exact U5
 ·exact U6
 ·exact U7
 ·exact U8
@[reducible] noncomputable def XK:Ctx:=X1.add 10 (pPk pks 10)
theorem U_:XK.Sound 10:=Ctx.nO La _ _ (fun _ _ _ _ h _ _ _ hs hr=>pPk_ok La U9 h hs hr)
theorem Rn:(aFn XK 1000 7 [] G0).map (·.1)=some (.b true):=by kernel_rfl
end Go.Abs.YtlkfbfhkcaldlaaGreatDoor
namespace Go.Abs.YtlkfbfhkcaldlaaGreatDoor
def bQ (c:Int):Bool:=(decide (97<=c) && decide (c<=122)) || (decide (65<=c) && decide (c<=90)) || c == 95
def isDigit (c:Int):Bool:=decide (48<=c) && decide (c<=57)
def dN (c:Int):Bool:=c == 32 || c == 9 || c == 13 || c == 10
def isWord (c:Int):Bool:=bQ c || isDigit c
def ones:List UInt8:=[40,41,123,125,91,93,44,59,58,61,60,62,43,45,124,94,38,42,47,37,33]
def pU (c:Int):Bool:=decide (0<=Lib.indexByte ones (IntKind.u8.wrap c).toNat.toUInt8) && decide (c<128)
def kindOf (c:Int):Int:=if dN c then 1 else if bQ c then 2 else if isDigit c then 3 else if pU c then 4 else 0
def run (p:Int->Bool):List UInt8->Nat
 | []=>0
 | c :: t=>if p c.toNat then run p t+1 else 0
theorem rM (p:Int->Bool):∀t,run p t<=t.length
 | []=>Nat.le_refl _
 | c :: t=>by
   simp only [run,bg]
   split
   ·have:=rM p t;omega
   ·omega
theorem vG {p:Int->Bool} {c:UInt8} (t:List UInt8)(h:p c.toNat=true):0<run p (c :: t):=by simp [run,h]
def keys:List (List UInt8):=[[102,117,110,99],[118,97,114],[112,116,114],[105,102],[101,108,115,101],[119,104,105,108,101],[111,117,116],[102,114,101,101],[100,114,97,105,110],[114,101,116,117,114,110],[110,101,119],[105,110]]
def kV:List (List UInt8):=[[124,124],[38,38],[61,61],[33,61],[60,61],[62,61],[60,60],[62,62]]
def tooBig (l:List UInt8):Bool:=match Lib.parseUintB 32 l with | .ok _=>false | _=>true
inductive Stp where
 | skip (n nl:Nat)
 | tok (k n:Nat)
 | err (e:Nat)
 deriving DecidableEq,Repr
def step (s:List UInt8):Stp:=
 if [47,47].isPrefixOf s then .skip (run (· != 10) s) 0
 else match s with
 | []=>.err 0
 | c :: _=>
   if dN c.toNat then .skip 1 (if c.toNat=10 then 1 else 0)
   else if bQ c.toNat then
     if 32<run isWord s then .err 9 else if keys.contains (s.take (run isWord s)) then .tok 4 (run isWord s) else .tok 1 (run isWord s)
   else if isDigit c.toNat then
     if(c.toNat=48/\1<run isDigit s)\/0<run bQ (s.drop (run isDigit s)) then .err 9
     else if tooBig (s.take (run isDigit s)) then .err 3 else .tok 2 (run isDigit s)
   else if pU c.toNat then(if kV.contains (s.take 2) then .tok 3 2 else .tok 3 1)
   else .err 9
structure Tok where
 k:Nat
 s:List UInt8
 l:Nat
 deriving DecidableEq,Repr
inductive Res where
 | toks (l:List Tok)
 | bad (e l:Nat)
 deriving DecidableEq,Repr
inductive Ro where
 | done (l:List Tok) (n:Nat)
 | bad (e l:Nat)
 deriving DecidableEq,Repr
def mP:Nat->List UInt8->Nat->List Tok->Ro
 | _,[],l,acc=>.done acc l
 | 0,_ :: _,l,acc=>.done acc l
 | n+1,c :: t,l,acc=>match step (c :: t) with
   | .skip k nl=>mP n ((c :: t).drop k) (l+nl) acc
   | .tok k m=>mP n ((c :: t).drop m) l (acc ++ [⟨k,(c :: t).take m,l⟩])
   | .err e=>.bad e l
def Ro.fin:Ro->Res
 | .done l n=>.toks (l ++ [⟨5,[],n⟩])
 | .bad e l=>.bad e l
def uj (t:List UInt8):Res:=if 32768<t.length then .bad 3 0 else(mP t.length t 0 []).fin
def Stp.fits (s:List UInt8):Stp->Prop
 | .skip n nl=>0<n/\n<=s.length/\nl<=1
 | .tok k n=>0<n/\n<=s.length/\1<=k/\k<=4
 | .err e=>e=9\/e=3
theorem jh (c:UInt8)(t:List UInt8):(step (c :: t)).fits (c :: t):=by
 unfold step
 split
 ·rename_i h
  simp only [List.isPrefixOf,fJ,beq_iff_eq] at h
  obtain⟨rfl,_⟩:=h
  exact⟨vG _ (by decide),rM _ _,Nat.zero_le _⟩
 ·simp only
  split
  ·exact⟨Nat.one_pos,by simp,by split <;> omega⟩
  ·split
   ·rename_i hl
    have hp:0<run isWord (c :: t):=vG _ (by simp [isWord,hl])
    split
    ·exact .inl rfl
    ·split
     ·exact⟨hp,rM _ _,by omega,by omega⟩
     ·exact⟨hp,rM _ _,by omega,by omega⟩
   ·split
    ·rename_i hd
     have hp:0<run isDigit (c :: t):=vG _ hd
     split
     ·exact .inl rfl
     ·split
      ·exact .inr rfl
      ·exact⟨hp,rM _ _,by omega,by omega⟩
    ·split
     ·split
      ·rename_i h2
       refine⟨by omega,?_,by omega,by omega⟩
       cases t with
       | nil=>
         exfalso
         simp only [List.take,kV,List.contains_eq_mem,List.mem_cons,List.not_mem_nil,decide_eq_true_eq,List.cons.injEq] at h2
         simp at h2
       | cons d t=>simp
      ·exact⟨by omega,by simp,by omega,by omega⟩
     ·exact .inl rfl
end Go.Abs.YtlkfbfhkcaldlaaGreatDoor
namespace Go.Abs.YtlkfbfhkcaldlaaGreatDoor
def wG (s:List UInt8)(l:Nat)(acc:List Tok):Ro:=mP s.length s l acc
theorem Ej (n l:Nat)(acc:List Tok):mP n [] l acc= .done acc l:=by cases n <;> rfl
theorem vH:∀(n m:Nat) (s:List UInt8) (l:Nat) (acc:List Tok),s.length<=n->s.length<=m->mP n s l acc=mP m s l acc
 | n,m,[],l,acc,_,_=>by rw [Ej,Ej]
 | 0,_,_ :: _,_,_,h,_=>by simp at h
 | _+1,0,_ :: _,_,_,_,h=>by simp at h
 | n+1,m+1,c :: r,l,acc,h1,h2=>by
   have hf:=jh c r
   simp only [bg] at h1 h2
   simp only [mP]
   cases hs:step (c :: r) with
   | skip k nl=>
     rw [hs] at hf
     simp only [Stp.fits] at hf
     exact vH n m _ _ _ (by simp only [pF,bg];omega) (by simp only [pF,bg];omega)
   | tok kd k=>
     rw [hs] at hf
     simp only [Stp.fits] at hf
     exact vH n m _ _ _ (by simp only [pF,bg];omega) (by simp only [pF,bg];omega)
   | err e=>rfl
theorem Lc (l:Nat)(acc:List Tok):wG [] l acc= .done acc l:=rfl
theorem GZ {s:List UInt8} {k nl:Nat} (h:step s= .skip k nl)(hs:s≠[])(l:Nat)(acc:List Tok):wG s l acc=wG (s.drop k) (l+nl) acc:=by
 cases s with
 | nil=>exact(hs rfl).elim
 | cons c r=>
   have hf:=jh c r
   rw [h] at hf
   simp only [Stp.fits] at hf
   unfold wG
   simp only [bg,mP,h]
   exact vH _ _ _ _ _ (by simp only [pF,bg];omega) (Nat.le_refl _)
theorem Em {s:List UInt8} {k m:Nat} (h:step s= .tok k m)(hs:s≠[])(l:Nat)(acc:List Tok):wG s l acc=wG (s.drop m) l (acc ++ [⟨k,s.take m,l⟩]):=by
 cases s with
 | nil=>exact(hs rfl).elim
 | cons c r=>
   have hf:=jh c r
   rw [h] at hf
   simp only [Stp.fits] at hf
   unfold wG
   simp only [bg,mP,h]
   exact vH _ _ _ _ _ (by simp only [pF,bg];omega) (Nat.le_refl _)
theorem wV {b:UInt8} (h:dN b.toNat=true):b=32\/b=9\/b=13\/b=10:=by
 simp only [dN,Bool.or_eq_true,beq_iff_eq] at h
 have:b.toNat=32\/b.toNat=9\/b.toNat=13\/b.toNat=10:=by omega
 rcases this with h | h | h | h
 ·exact .inl (UInt8.toNat_inj.1 h)
 ·exact .inr (.inl (UInt8.toNat_inj.1 h))
 ·exact .inr (.inr (.inl (UInt8.toNat_inj.1 h)))
 ·exact .inr (.inr (.inr (UInt8.toNat_inj.1 h)))
theorem N9 {b:UInt8} (h:dN b.toNat=true)(c:UInt8):kV.contains [c,b]=false:=by
 rcases wV h with rfl | rfl | rfl | rfl <;> simp [kV]
theorem IW {b:UInt8} (h:dN b.toNat=true):isWord b.toNat=false/\isDigit b.toNat=false/\bQ b.toNat=false:=by
 rcases wV h with rfl | rfl | rfl | rfl <;> decide
def piece (i:Nat):List UInt8:=if i%2=0 then [10] else [32,47,47,32,114,101,109,97,114,107,10]
theorem P9 (x:List UInt8)(l:Nat)(acc:List Tok):wG (10 :: x) l acc=wG x (l+1) acc:=by
 have h:step (10 :: x)= .skip 1 1:=by
  unfold step
  have: [47,47].isPrefixOf (10 :: x)=false:=by simp [List.isPrefixOf]
  rw [this];simp [dN]
 rw [GZ h (by simp)];rfl
theorem P_ (b:UInt8)(hb:b=32\/b=9\/b=13)(x:List UInt8)(l:Nat)(acc:List Tok):wG (b :: x) l acc=wG x l acc:=by
 have h:step (b :: x)= .skip 1 0:=by
  unfold step
  have: [47,47].isPrefixOf (b :: x)=false:=by rcases hb with rfl | rfl | rfl <;> simp [List.isPrefixOf]
  rw [this]
  rcases hb with rfl | rfl | rfl <;> simp [dN]
 rw [GZ h (by simp)];rfl
theorem N_ {t:List UInt8} (h:t.length<=32768):uj t=(wG t 0 []).fin:=by
 unfold uj
 rw [if_neg (by omega)];rfl
def Good (k:Nat)(s:List UInt8):Prop:=∃u,u≠[]/\step u= .tok k s.length/\s=u.take s.length
theorem um (p:Int->Bool):∀(u:List UInt8) (b:UInt8) (x:List UInt8),p b.toNat=false->run p (u.take (run p u) ++ b :: x)=run p u
 | [],b,x,h=>by simp [run,h]
 | c :: u,b,x,h=>by
   simp only [run]
   split
   ·rename_i hc
    simp only [List.take_succ_cons,pG,run,hc,if_true]
    rw [um p u b x h]
   ·simp [run,h]
theorem good_step {k:Nat} {s:List UInt8} (h:Good k s) {b:UInt8} (hb:dN b.toNat=true)(x:List UInt8):step (s ++ b :: x)= .tok k s.length:=by
 obtain⟨w1,w2,w3⟩:=IW hb
 obtain⟨u,hu,hst,hs⟩:=h
 cases u with
 | nil=>exact(hu rfl).elim
 | cons c r=>
   have hf:=jh c r
   rw [hst] at hf
   simp only [Stp.fits] at hf
   obtain⟨s',hs'⟩:∃s',s=c :: s':=by
    cases s with
    | nil=>simp at hf
    | cons d s'=>simp at hs;exact⟨s',by rw [hs.1]⟩
   unfold step at hst
   split at hst
   ·cases hst
   ·rename_i hp
    simp only at hst
    have hlen:s.length=s'.length+1:=by rw [hs'];rfl
    have hp2: [47,47].isPrefixOf (s ++ b :: x)=false:=by
        cases hq: [47,47].isPrefixOf (s ++ b :: x) with
        | false=>rfl
        | true=>
          exfalso
          subst hs'
          cases s' with
          | nil=>
            simp only [pG,List.nil_append,List.isPrefixOf,fJ,beq_iff_eq] at hq
            have hb2:=hq.2.1
            rw [<-hb2] at hb
            revert hb;decide
          | cons d s''=>
            apply hp
            cases r with
            | nil=>simp at hs
            | cons d' r'=>
              simp only [bg,List.take_succ_cons,List.cons.injEq] at hs
              obtain⟨_,rfl,_⟩:=hs
              simpa [List.isPrefixOf] using hq
    split at hst
    ·cases hst
    ·rename_i hbl
     split at hst
     ·rename_i hle
      split at hst
      ·cases hst
      ·rename_i h32
       have hm:s.length=run isWord (c :: r):=by
            split at hst <;> (injection hst with _ h2;exact h2.symm)
       rw [hm] at hs
       have e1:run isWord (s ++ b :: x)=run isWord (c :: r):=by rw [hs];exact um isWord (c :: r) b x w1
       have e2:(s ++ b :: x).take (run isWord (c :: r))=s:=by rw [<-hm];exact List.take_left
       have e3:(c :: r).take (run isWord (c :: r))=s:=hs.symm
       unfold step
       rw [hp2,e1,e2]
       rw [e3] at hst
       subst hs'
       simp only [nR,if_false,pG,hbl,hle,if_true,h32]
       exact hst
     ·rename_i hle
      split at hst
      ·rename_i hdg
       split at hst
       ·cases hst
       ·rename_i hno
        split at hst
        ·cases hst
        ·rename_i hbig
         injection hst with hk hm
         rw [<-hm] at hs
         have e1:run isDigit (s ++ b :: x)=run isDigit (c :: r):=by rw [hs];exact um isDigit (c :: r) b x w2
         have e2:(s ++ b :: x).take (run isDigit (c :: r))=s:=by rw [hm];exact List.take_left
         have e3:(c :: r).take (run isDigit (c :: r))=s:=hs.symm
         have e4:run bQ ((s ++ b :: x).drop (run isDigit (c :: r)))=0:=by rw [hm,List.drop_left];simp [run,w3]
         unfold step
         rw [hp2,e1,e2,e4]
         rw [e3] at hbig
         have hno2:¬(c.toNat=48/\1<run isDigit (c :: r)):=fun h=>hno (.inl h)
         subst hs'
         simp only [nR,if_false,pG,hbl,hle,hdg,if_true,hno2,Nat.lt_irrefl,or_self,hbig]
         rw [hk,hm]
      ·rename_i hdg
       split at hst
       ·rename_i hone
        split at hst
        ·rename_i htw
         injection hst with hk hm
         have hs2:s=(c :: r).take 2:=by rw [<-hm] at hs;exact hs
         have e2:(s ++ b :: x).take 2=s:=by
                  rw [show 2=s.length from hm];exact List.take_left
         unfold step
         rw [hp2,e2]
         rw [<-hs2] at htw
         subst hs'
         simp only [nR,if_false,pG,hbl,hle,hdg,hone,if_true,htw]
         rw [hk,<-hm]
        ·rename_i htw
         injection hst with hk hm
         have hs0:s'= []:=List.length_eq_zero_iff.1 (by omega)
         subst hs0
         have e2:(s ++ b :: x).take 2=[c,b]:=by rw [hs'];rfl
         unfold step
         rw [hp2,e2,N9 hb]
         subst hs'
         simp only [nR,if_false,pG,List.nil_append,hbl,hle,hdg,hone,if_true]
         rw [hk];rfl
       ·cases hst
theorem Ai:∀(n:Nat) (s:List UInt8) (l:Nat) (acc acc':List Tok) (l':Nat),(∀t∈acc,Good t.k t.s)->mP n s l acc= .done acc' l'->∀t∈acc',Good t.k t.s
 | n,[],l,acc,acc',l',h,hd=>by rw [Ej] at hd;cases hd;exact h
 | 0,c :: r,l,acc,acc',l',h,hd=>by cases hd;exact h
 | n+1,c :: r,l,acc,acc',l',h,hd=>by
   have hf:=jh c r
   simp only [mP] at hd
   cases hs:step (c :: r) with
   | skip k nl=>rw [hs] at hd;exact Ai n _ _ _ _ _ h hd
   | tok kd m=>
     rw [hs] at hd hf
     simp only [Stp.fits] at hf
     refine Ai n _ _ _ _ _ (fun t ht=>?_) hd
     rcases List.mem_append.1 ht with ht | ht
     ·exact h t ht
     ·obtain rfl:=List.mem_singleton.1 ht
      have hl:((c :: r).take m).length=m:=by rw [List.length_take];omega
      exact⟨c :: r,by simp,by simp only [hl];exact hs,by simp only [hl]⟩
   | err e=>rw [hs] at hd;cases hd
end Go.Abs.YtlkfbfhkcaldlaaGreatDoor
namespace Go.Abs.YtlkfbfhkcaldlaaGreatDoor
open Go.Proofs
def IX (n:Nat)(cs:List AV)(r:Option (AV×St)):Bool:=match r with
 | some (.sl o g off m z,s)=>Nat.beq off 0 && Nat.beq m n && Nat.beq z 1 && (match s[o]? with
   | some ⟨g',ro,.cells e cs'⟩=>Nat.beq g g' && !ro && Nat.beq e 9 && AV.eqvs cs' cs
   | _=>false)
 | _=>false
theorem G5 {X:Ctx} {k f:Nat} {args:List AV} {Z:St} {n:Nat} {cs:List AV} (h:IX n cs (aFn X k f args Z)=true):au X f args Z fun a s=>∃o g,a= .sl o g 0 n 1/\s[o]? =some ⟨g,false,.cells 9 cs⟩:=by
 unfold IX at h
 split at h
 ·rename_i o g off m z s hr
  simp only [fJ] at h
  obtain⟨⟨⟨h1,h2⟩,h3⟩,h4⟩:=h
  split at h4
  ·rename_i g' ro e cs' ho
   simp only [fJ,Bool.not_eq_true'] at h4
   obtain⟨⟨⟨q1,q2⟩,q3⟩,q4⟩:=h4
   refine⟨⟨k,_,hr,o,g,?_,?_⟩⟩
   ·rw [wJ h1,wJ h2,wJ h3]
   ·simp only;rw [ho,wJ q1,q2,wJ q3,AV.kN _ _ q4]
  ·cases h4
 ·cases h
def Ld:IV X0 10 G0 where
 f:=7
 v:=.b true
 flat:=rfl
 does:=fun Y w hs=>by
    have h:=Rn
    rw [iU] at h
    obtain⟨⟨r,s⟩,h1,h2⟩:=h
    have h3:Du XK 7 [] G0 fun a _=>a= .b true:=⟨1000,(r,s),h1,h2⟩
    exact h3.does U_ hs (aO:=#[]) rfl
@[reducible] noncomputable def XW:Ctx:=X0.ran Ld
theorem Va:XW.Sound 10:=Ctx.Rj Ee NZ _
def sgL:List (List UInt8):=[[124,124],[38,38],[61,61],[33,61],[60],[60,61],[62],[62,61],[43],[45],[124],[94],[42],[47],[37],[38],[60,60],[62,62]]
def sgN:List Nat:=[1,2,3,3,4,4,4,4,5,5,5,5,6,6,6,6,6,6]
def mQ (n:Nat):List UInt8:=(sgL[n%18]?).getD []
def Xi (n:Nat):Nat:=(sgN[n%18]?).getD 0
def isPl (v:AV):Option (AV×St)->Bool
 | some (a,_)=>AV.eqv a v
 | none=>false
theorem YW {X:Ctx} {k f:Nat} {args:List AV} {Z:St} {v:AV} (h:isPl v (aFn X k f args Z)=true):au X f args Z fun a _=>a=v:=by
 unfold isPl at h
 split at h
 ·rename_i a s hr
  exact⟨⟨k,_,hr,AV.qU _ _ h⟩⟩
 ·cases h
theorem Vb:(List.range 256).all (fun n=>isPl (.tu [.s (mQ n),.i .i64 (Xi n)]) (aFn XW 100 12 [.i .u8 n] G0))=true:=by kernel_rfl
def Vd:List AV->Option MR
 | [.i .u8 (.ofNat n)]=>if n<256 then some (.flat (.tu [.s (mQ n),.i .i64 (Xi n)])) else none
 | _=>none
def IY:FH XW G0 where
 f:=12
 g:=Vd
 okF:=by
    intro args v h
    unfold Vd at h
    split at h
    ·rename_i n
     split at h
     ·rename_i hn
      cases h
      exact⟨rfl,rfl,YW (List.all_eq_true.1 Vb n (List.mem_range.2 hn))⟩
     ·cases h
    ·cases h
 okN:=by
    intro args R h
    unfold Vd at h
    split at h
    ·split at h <;> cases h
    ·cases h
@[reducible] noncomputable def XV:Ctx:=XW.makes G0 IY
theorem Ve:XV.Sound 10:=Ctx.BG Va NZ _
def uo:List UInt8:=[102,117,110,99,32,118,97,114,32,112,116,114,32,105,102,32,101,108,115,101,32,119,104,105,108,101,32,111,117,116,32,102,114,101,101,32,100,114,97,105,110,32,114,101,116,117,114,110,32,110,101,119,32,105,110]
def uq:List UInt8:=[124,124,32,38,38,32,61,61,32,33,61,32,60,61,32,62,61,32,60,60,32,62,62]
theorem Le:IX 12 (keys.map .s) (aFn XV 1000 85 [.s uo] G0)=true:=by kernel_rfl
theorem Lh:IX 8 (kV.map .s) (aFn XV 1000 85 [.s uq] G0)=true:=by kernel_rfl
theorem Qa (n z e:Nat)(cs:List AV):GV.Good ⟨fun o g=>.sl o g 0 n z,e,cs⟩:=by
 intro Y1 Y2 w o g N v h hv
 obtain⟨b,δ,off',c,e',m,h1,h2⟩:=hv
 exact⟨b,δ,off',c,e',m,by rw [h];exact h1,h2⟩
def yR:List AV->Option MR
 | [.s t]=>if t=uo then some (.new ⟨fun o g=>.sl o g 0 12 1,9,keys.map .s⟩) else if t=uq then some (.new ⟨fun o g=>.sl o g 0 8 1,9,kV.map .s⟩) else none
 | _=>none
def lT:FH XV G0 where
 f:=85
 g:=yR
 okF:=by
    intro args v h
    unfold yR at h
    split at h
    ·split at h
     ·cases h
     ·split at h <;> cases h
    ·cases h
 okN:=by
    intro args R h
    unfold yR at h
    split at h
    ·split at h
     ·rename_i ht;subst ht;cases h
      exact⟨rfl,rfl,Qa _ _ _ _,G5 Le⟩
     ·split at h
      ·rename_i ht;subst ht;cases h
       exact⟨rfl,rfl,Qa _ _ _ _,G5 Lh⟩
      ·cases h
    ·cases h
@[reducible] noncomputable def X:Ctx:=XV.makes G0 lT
theorem YX:X.Sound 10:=Ctx.BG Ve NZ _
theorem IZ:lT.g [.s uo]=some (.new ⟨fun o g=>.sl o g 0 12 1,9,keys.map .s⟩):=by
 unfold lT
 simp only [yR,if_true]
theorem I4:lT.g [.s uq]=some (.new ⟨fun o g=>.sl o g 0 8 1,9,kV.map .s⟩):=by
 have h:uq≠uo:=by decide
 unfold lT
 simp only [yR,if_neg h,if_true]
theorem En (Z:St)(Q:AV->St->Prop)(ht:Z.take G0.length=G0)(q:Q (.sl Z.length 1 0 12 1) (jP 9 (keys.map .s) Z)):au X 85 [.s uo] Z Q:=
 au.madeN lT rfl (R:=⟨fun o g=>.sl o g 0 12 1,9,keys.map .s⟩) IZ ht q
theorem Eo (Z:St)(Q:AV->St->Prop)(ht:Z.take G0.length=G0)(q:Q (.sl Z.length 1 0 8 1) (jP 9 (kV.map .s) Z)):au X 85 [.s uq] Z Q:=
 au.madeN lT rfl (R:=⟨fun o g=>.sl o g 0 8 1,9,kV.map .s⟩) I4 ht q
theorem Lj (Z:St)(ht:Z.take G0.length=G0) {Q:AV->St->Prop} (q:Q (.b true) Z):au X 7 [] Z Q:=by
 constructor
 rw [kR (g:=Ld.run) (by rfl)]
 refine⟨(.b true,Z),?_,q⟩
 unfold IV.run
 simp only
 rw [if_pos (by rw [ht];exact nV _)]
 rfl
end Go.Abs.YtlkfbfhkcaldlaaGreatDoor
