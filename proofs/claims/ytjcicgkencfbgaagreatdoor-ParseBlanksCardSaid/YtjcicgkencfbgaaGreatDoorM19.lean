/- Texts of this claim, joined: Wq, Lx, Ly, Cy. -/
import Derived.Test.YtjcicgkencfbgaaGreatDoorM14
import Derived.Test.YtjcicgkencfbgaaGreatDoorM15
import Derived.Test.YtjcicgkencfbgaaGreatDoorM16
import Derived.Test.YtjcicgkencfbgaaGreatDoorM17
import Derived.Test.YtjcicgkencfbgaaGreatDoorM18
import Derived.Lib.Bytealg
import Derived.Lib.ParseIntB
import GoSem.Core.Value
import Derived.Test.YtjcicgkencfbgaaGreatDoorM10
set_option linter.unusedVariables false
set_option linter.unusedSimpArgs false
namespace Go.bG.YtjcicgkencfbgaaGreatDoor
open Go.Proofs
set_option maxRecDepth 10000000
def pks:List Pk:=[pk0,pk1,pk2,pk3,pk4]
theorem Uy:∀k∈pks,k.Good X1:=by
 intro k hk
 simp only [pks,List.mem_cons,List.not_mem_nil,or_false] at hk
 rcases hk with rfl | rfl | rfl | rfl | rfl
 ·exact Us
 ·exact Ut
 ·exact Uu
 ·exact Uw
 ·exact Ux
@[reducible] noncomputable def XK:Ctx:=X1.add 11 (pPk pks 11)
theorem Uz:XK.Sound 11:=Ctx.uN Kz _ _ (fun _ _ _ _ h _ _ _ hs hr=>Um Kz Uy h hs hr)
theorem Ql:(aFn XK 1000 9 [] G0).map (·.1)=some (.b true):=by kernel_rfl
end Go.bG.YtjcicgkencfbgaaGreatDoor
namespace Go.bG.YtjcicgkencfbgaaGreatDoor
def bQ (c:Int):Bool:=(decide (97≤c) && decide (c≤122)) || (decide (65≤c) && decide (c≤90)) || c == 95
def isDigit (c:Int):Bool:=decide (48≤c) && decide (c≤57)
def dD (c:Int):Bool:=c == 32 || c == 9 || c == 13 || c == 10
def isWord (c:Int):Bool:=bQ c || isDigit c
def ones:List UInt8:=[40,41,123,125,91,93,44,59,58,61,60,62,43,45,124,94,38,42,47,37,33]
def rD (c:Int):Bool:=decide (0≤Lib.indexByte ones (IntKind.u8.wrap c).toNat.toUInt8) && decide (c<128)
def kindOf (c:Int):Int:=if dD c then 1 else if bQ c then 2 else if isDigit c then 3 else if rD c then 4 else 0
def run (p:Int→Bool):List UInt8→Nat
 | []=>0
 | c :: t=>if p c.toNat then run p t+1 else 0
theorem nX (p:Int→Bool):∀t,run p t≤t.length
 | []=>Nat.le_refl _
 | c :: t=>by
   simp only [run,List.length_cons]
   split
   ·have:=nX p t;omega
   ·omega
theorem lY {p:Int→Bool} {c:UInt8} (t:List UInt8)(h:p c.toNat=true):0<run p (c :: t):=by simp [run,h]
def keys:List (List UInt8):=[[102,117,110,99],[118,97,114],[112,116,114],[105,102],[101,108,115,101],[119,104,105,108,101],[111,117,116],[102,114,101,101],[100,114,97,105,110],[114,101,116,117,114,110],[110,101,119],[105,110]]
def lM:List (List UInt8):=[[124,124],[38,38],[61,61],[33,61],[60,61],[62,61],[60,60],[62,62]]
def tooBig (l:List UInt8):Bool:=match Lib.parseUintB 32 l with | .ok _=>false | _=>true
inductive Stp where
 | skip (n nl:Nat)
 | tok (k n:Nat)
 | err (e:Nat)
 deriving DecidableEq,Repr
def step (s:List UInt8):Stp:=
 if [47,47].isPrefixOf s then .skip (run (· != 10) s) 0
 else match s with
 | []=>.err 0
 | c :: _=>
   if dD c.toNat then .skip 1 (if c.toNat=10 then 1 else 0)
   else if bQ c.toNat then
     if 32<run isWord s then .err 9 else if keys.contains (s.take (run isWord s)) then .tok 4 (run isWord s) else .tok 1 (run isWord s)
   else if isDigit c.toNat then
     if(c.toNat=48∧1<run isDigit s)∨0<run bQ (s.drop (run isDigit s)) then .err 9
     else if tooBig (s.take (run isDigit s)) then .err 3 else .tok 2 (run isDigit s)
   else if rD c.toNat then(if lM.contains (s.take 2) then .tok 3 2 else .tok 3 1)
   else .err 9
structure Tok where
 k:Nat
 s:List UInt8
 l:Nat
 deriving DecidableEq,Repr
inductive Res where
 | toks (l:List Tok)
 | bad (e l:Nat)
 deriving DecidableEq,Repr
inductive UA where
 | done (l:List Tok) (n:Nat)
 | bad (e l:Nat)
 deriving DecidableEq,Repr
def iE:Nat→List UInt8→Nat→List Tok→UA
 | _,[],l,acc=>.done acc l
 | 0,_ :: _,l,acc=>.done acc l
 | n+1,c :: t,l,acc=>match step (c :: t) with
   | .skip k nl=>iE n ((c :: t).drop k) (l+nl) acc
   | .tok k m=>iE n ((c :: t).drop m) l (acc ++ [⟨k,(c :: t).take m,l⟩])
   | .err e=>.bad e l
def UA.fin:UA→Res
 | .done l n=>.toks (l ++ [⟨5,[],n⟩])
 | .bad e l=>.bad e l
def mG (t:List UInt8):Res:=if 32768<t.length then .bad 3 0 else(iE t.length t 0 []).fin
def Stp.fits (s:List UInt8):Stp→Prop
 | .skip n nl=>0<n∧n≤s.length∧nl≤1
 | .tok k n=>0<n∧n≤s.length∧1≤k∧k≤4
 | .err e=>e=9∨e=3
theorem jc (c:UInt8)(t:List UInt8):(step (c :: t)).fits (c :: t):=by
 unfold step
 split
 ·rename_i h
  simp only [List.isPrefixOf,Bool.and_eq_true,beq_iff_eq] at h
  obtain⟨rfl,_⟩:=h
  exact⟨lY _ (by decide),nX _ _,Nat.zero_le _⟩
 ·simp only
  split
  ·exact⟨Nat.one_pos,by simp,by split <;> omega⟩
  ·split
   ·rename_i hl
    have hp:0<run isWord (c :: t):=lY _ (by simp [isWord,hl])
    split
    ·exact .inl rfl
    ·split
     ·exact⟨hp,nX _ _,by omega,by omega⟩
     ·exact⟨hp,nX _ _,by omega,by omega⟩
   ·split
    ·rename_i hd
     have hp:0<run isDigit (c :: t):=lY _ hd
     split
     ·exact .inl rfl
     ·split
      ·exact .inr rfl
      ·exact⟨hp,nX _ _,by omega,by omega⟩
    ·split
     ·split
      ·rename_i h2
       refine⟨by omega,?_,by omega,by omega⟩
       cases t with
       | nil=>
         exfalso
         simp only [List.take,lM,List.contains_eq_mem,List.mem_cons,List.not_mem_nil,decide_eq_true_eq,List.cons.injEq] at h2
         simp at h2
       | cons d t=>simp
      ·exact⟨by omega,by simp,by omega,by omega⟩
     ·exact .inl rfl
end Go.bG.YtjcicgkencfbgaaGreatDoor
namespace Go.bG.YtjcicgkencfbgaaGreatDoor
def qg (s:List UInt8)(l:Nat)(acc:List Tok):UA:=iE s.length s l acc
theorem yH (n l:Nat)(acc:List Tok):iE n [] l acc= .done acc l:=by cases n <;> rfl
theorem uP:∀(n m:Nat) (s:List UInt8) (l:Nat) (acc:List Tok),s.length≤n→s.length≤m→iE n s l acc=iE m s l acc
 | n,m,[],l,acc,_,_=>by rw [yH,yH]
 | 0,_,_ :: _,_,_,h,_=>by simp at h
 | _+1,0,_ :: _,_,_,_,h=>by simp at h
 | n+1,m+1,c :: r,l,acc,h1,h2=>by
   have hf:=jc c r
   simp only [List.length_cons] at h1 h2
   simp only [iE]
   cases hs:step (c :: r) with
   | skip k nl=>
     rw [hs] at hf
     simp only [Stp.fits] at hf
     exact uP n m _ _ _ (by simp only [List.length_drop,List.length_cons];omega) (by simp only [List.length_drop,List.length_cons];omega)
   | tok kd k=>
     rw [hs] at hf
     simp only [Stp.fits] at hf
     exact uP n m _ _ _ (by simp only [List.length_drop,List.length_cons];omega) (by simp only [List.length_drop,List.length_cons];omega)
   | err e=>rfl
theorem UC (l:Nat)(acc:List Tok):qg [] l acc= .done acc l:=rfl
theorem Af {s:List UInt8} {k nl:Nat} (h:step s= .skip k nl)(hs:s≠[])(l:Nat)(acc:List Tok):qg s l acc=qg (s.drop k) (l+nl) acc:=by
 cases s with
 | nil=>exact(hs rfl).elim
 | cons c r=>
   have hf:=jc c r
   rw [h] at hf
   simp only [Stp.fits] at hf
   unfold qg
   simp only [List.length_cons,iE,h]
   exact uP _ _ _ _ _ (by simp only [List.length_drop,List.length_cons];omega) (Nat.le_refl _)
theorem UD {s:List UInt8} {k m:Nat} (h:step s= .tok k m)(hs:s≠[])(l:Nat)(acc:List Tok):qg s l acc=qg (s.drop m) l (acc ++ [⟨k,s.take m,l⟩]):=by
 cases s with
 | nil=>exact(hs rfl).elim
 | cons c r=>
   have hf:=jc c r
   rw [h] at hf
   simp only [Stp.fits] at hf
   unfold qg
   simp only [List.length_cons,iE,h]
   exact uP _ _ _ _ _ (by simp only [List.length_drop,List.length_cons];omega) (Nat.le_refl _)
theorem O0 {p:Int→Bool} {b:UInt8} (hb:p b.toNat=false)(x:List UInt8):∀s:List UInt8,run p (s ++ b :: x)=run p s
 | []=>by simp [run,hb]
 | c :: s=>by simp only [List.cons_append,run,O0 hb x s]
theorem wo {b:UInt8} (h:dD b.toNat=true):b=32∨b=9∨b=13∨b=10:=by
 simp only [dD,Bool.or_eq_true,beq_iff_eq] at h
 have:b.toNat=32∨b.toNat=9∨b.toNat=13∨b.toNat=10:=by omega
 rcases this with h | h | h | h
 ·exact .inl (UInt8.toNat_inj.1 h)
 ·exact .inr (.inl (UInt8.toNat_inj.1 h))
 ·exact .inr (.inr (.inl (UInt8.toNat_inj.1 h)))
 ·exact .inr (.inr (.inr (UInt8.toNat_inj.1 h)))
theorem Nu {b:UInt8} (h:dD b.toNat=true)(c:UInt8):lM.contains [c,b]=false:=by
 rcases wo h with rfl | rfl | rfl | rfl <;> simp [lM]
theorem Iy {b:UInt8} (h:dD b.toNat=true):isWord b.toNat=false∧isDigit b.toNat=false∧bQ b.toNat=false:=by
 rcases wo h with rfl | rfl | rfl | rfl <;> decide
theorem O1 (x:List UInt8)(l:Nat)(acc:List Tok):qg (10 :: x) l acc=qg x (l+1) acc:=by
 have h:step (10 :: x)= .skip 1 1:=by
  unfold step
  have: [47,47].isPrefixOf (10 :: x)=false:=by simp [List.isPrefixOf]
  rw [this];simp [dD]
 rw [Af h (by simp)];rfl
theorem yI (b:UInt8)(hb:b=32∨b=9∨b=13)(x:List UInt8)(l:Nat)(acc:List Tok):qg (b :: x) l acc=qg x l acc:=by
 have h:step (b :: x)= .skip 1 0:=by
  unfold step
  have: [47,47].isPrefixOf (b :: x)=false:=by rcases hb with rfl | rfl | rfl <;> simp [List.isPrefixOf]
  rw [this]
  rcases hb with rfl | rfl | rfl <;> simp [dD]
 rw [Af h (by simp)];rfl
theorem KA (w:List UInt8)(hw:∀c∈w,c≠10)(x:List UInt8)(l:Nat)(acc:List Tok):qg (47 :: 47 :: w ++ 10 :: x) l acc=qg x (l+1) acc:=by
 have hr:run (· != 10) (47 :: 47 :: w ++ 10 :: x)=(47 :: 47 :: w).length:=by
  rw [O0 (by decide)]
  have key:∀v:List UInt8,(∀c∈v,c≠10)→run (· != 10) v=v.length:=by
   intro v
   induction v with
   | nil=>intro _;rfl
   | cons c v ih=>
     intro h
     have hc:((c.toNat:Int) != 10)=true:=by
        have h1:=h c (List.mem_cons_self ..)
        have:c.toNat≠10:=fun e=>h1 (UInt8.toNat_inj.1 e)
        simp;omega
     simp only [run,hc,if_true,List.length_cons]
     rw [ih fun d hd=>h d (List.mem_cons_of_mem _ hd)]
  exact key _ (by simp;exact hw)
 have h:step (47 :: 47 :: w ++ 10 :: x)= .skip (47 :: 47 :: w).length 0:=by
  have hp: [47,47].isPrefixOf (47 :: 47 :: w ++ 10 :: x)=true:=by simp [List.isPrefixOf]
  rw [←hr]
  unfold step
  rw [hp];rfl
 rw [Af h (by simp),List.drop_left,Nat.add_zero,O1]
theorem UE {t:List UInt8} (h:t.length≤32768):mG t=(qg t 0 []).fin:=by
 unfold mG
 rw [if_neg (by omega)];rfl
def Good (k:Nat)(s:List UInt8):Prop:=∃u,u≠[]∧step u= .tok k s.length∧s=u.take s.length
theorem Eb (p:Int→Bool):∀(u:List UInt8) (b:UInt8) (x:List UInt8),p b.toNat=false→run p (u.take (run p u) ++ b :: x)=run p u
 | [],b,x,h=>by simp [run,h]
 | c :: u,b,x,h=>by
   simp only [run]
   split
   ·rename_i hc
    simp only [List.take_succ_cons,List.cons_append,run,hc,if_true]
    rw [Eb p u b x h]
   ·simp [run,h]
theorem good_step {k:Nat} {s:List UInt8} (h:Good k s) {b:UInt8} (hb:dD b.toNat=true)(x:List UInt8):step (s ++ b :: x)= .tok k s.length:=by
 obtain⟨w1,w2,w3⟩:=Iy hb
 obtain⟨u,hu,hst,hs⟩:=h
 cases u with
 | nil=>exact(hu rfl).elim
 | cons c r=>
   have hf:=jc c r
   rw [hst] at hf
   simp only [Stp.fits] at hf
   obtain⟨s',hs'⟩:∃s',s=c :: s':=by
    cases s with
    | nil=>simp at hf
    | cons d s'=>simp at hs;exact⟨s',by rw [hs.1]⟩
   unfold step at hst
   split at hst
   ·cases hst
   ·rename_i hp
    simp only at hst
    have hlen:s.length=s'.length+1:=by rw [hs'];rfl
    have hp2: [47,47].isPrefixOf (s ++ b :: x)=false:=by
        cases hq: [47,47].isPrefixOf (s ++ b :: x) with
        | false=>rfl
        | true=>
          exfalso
          subst hs'
          cases s' with
          | nil=>
            simp only [List.cons_append,List.nil_append,List.isPrefixOf,Bool.and_eq_true,beq_iff_eq] at hq
            have hb2:=hq.2.1
            rw [←hb2] at hb
            revert hb;decide
          | cons d s''=>
            apply hp
            cases r with
            | nil=>simp at hs
            | cons d' r'=>
              simp only [List.length_cons,List.take_succ_cons,List.cons.injEq] at hs
              obtain⟨_,rfl,_⟩:=hs
              simpa [List.isPrefixOf] using hq
    split at hst
    ·cases hst
    ·rename_i hbl
     split at hst
     ·rename_i hle
      split at hst
      ·cases hst
      ·rename_i h32
       have hm:s.length=run isWord (c :: r):=by
            split at hst <;> (injection hst with _ h2;exact h2.symm)
       rw [hm] at hs
       have e1:run isWord (s ++ b :: x)=run isWord (c :: r):=by rw [hs];exact Eb isWord (c :: r) b x w1
       have e2:(s ++ b :: x).take (run isWord (c :: r))=s:=by rw [←hm];exact List.take_left
       have e3:(c :: r).take (run isWord (c :: r))=s:=hs.symm
       unfold step
       rw [hp2,e1,e2]
       rw [e3] at hst
       subst hs'
       simp only [Bool.false_eq_true,if_false,List.cons_append,hbl,hle,if_true,h32]
       exact hst
     ·rename_i hle
      split at hst
      ·rename_i hdg
       split at hst
       ·cases hst
       ·rename_i hno
        split at hst
        ·cases hst
        ·rename_i hbig
         injection hst with hk hm
         rw [←hm] at hs
         have e1:run isDigit (s ++ b :: x)=run isDigit (c :: r):=by rw [hs];exact Eb isDigit (c :: r) b x w2
         have e2:(s ++ b :: x).take (run isDigit (c :: r))=s:=by rw [hm];exact List.take_left
         have e3:(c :: r).take (run isDigit (c :: r))=s:=hs.symm
         have e4:run bQ ((s ++ b :: x).drop (run isDigit (c :: r)))=0:=by rw [hm,List.drop_left];simp [run,w3]
         unfold step
         rw [hp2,e1,e2,e4]
         rw [e3] at hbig
         have hno2:¬(c.toNat=48∧1<run isDigit (c :: r)):=fun h=>hno (.inl h)
         subst hs'
         simp only [Bool.false_eq_true,if_false,List.cons_append,hbl,hle,hdg,if_true,hno2,Nat.lt_irrefl,or_self,hbig]
         rw [hk,hm]
      ·rename_i hdg
       split at hst
       ·rename_i hone
        split at hst
        ·rename_i htw
         injection hst with hk hm
         have hs2:s=(c :: r).take 2:=by rw [←hm] at hs;exact hs
         have e2:(s ++ b :: x).take 2=s:=by
                  rw [show 2=s.length from hm];exact List.take_left
         unfold step
         rw [hp2,e2]
         rw [←hs2] at htw
         subst hs'
         simp only [Bool.false_eq_true,if_false,List.cons_append,hbl,hle,hdg,hone,if_true,htw]
         rw [hk,←hm]
        ·rename_i htw
         injection hst with hk hm
         have hs0:s'= []:=List.length_eq_zero_iff.1 (by omega)
         subst hs0
         have e2:(s ++ b :: x).take 2=[c,b]:=by rw [hs'];rfl
         unfold step
         rw [hp2,e2,Nu hb]
         subst hs'
         simp only [Bool.false_eq_true,if_false,List.cons_append,List.nil_append,hbl,hle,hdg,hone,if_true]
         rw [hk];rfl
       ·cases hst
theorem Ag:∀(n:Nat) (s:List UInt8) (l:Nat) (acc acc':List Tok) (l':Nat),(∀t∈acc,Good t.k t.s)→iE n s l acc= .done acc' l'→∀t∈acc',Good t.k t.s
 | n,[],l,acc,acc',l',h,hd=>by rw [yH] at hd;cases hd;exact h
 | 0,c :: r,l,acc,acc',l',h,hd=>by cases hd;exact h
 | n+1,c :: r,l,acc,acc',l',h,hd=>by
   have hf:=jc c r
   simp only [iE] at hd
   cases hs:step (c :: r) with
   | skip k nl=>rw [hs] at hd;exact Ag n _ _ _ _ _ h hd
   | tok kd m=>
     rw [hs] at hd hf
     simp only [Stp.fits] at hf
     refine Ag n _ _ _ _ _ (fun t ht=>?_) hd
     rcases List.mem_append.1 ht with ht | ht
     ·exact h t ht
     ·obtain rfl:=List.mem_singleton.1 ht
      have hl:((c :: r).take m).length=m:=by rw [List.length_take];omega
      exact⟨c :: r,by simp,by simp only [hl];exact hs,by simp only [hl]⟩
   | err e=>rw [hs] at hd;cases hd
end Go.bG.YtjcicgkencfbgaaGreatDoor
namespace Go.bG.YtjcicgkencfbgaaGreatDoor
open Go.Proofs
def Iz (n:Nat)(cs:List AV)(r:Option (AV×St)):Bool:=match r with
 | some (.sl o g off m z,s)=>Nat.beq off 0 && Nat.beq m n && Nat.beq z 1 && (match s[o]? with
   | some ⟨g',ro,.cells e cs'⟩=>Nat.beq g g' && !ro && Nat.beq e 9 && AV.eqvs cs' cs
   | _=>false)
 | _=>false
theorem Gu {X:Ctx} {k f:Nat} {args:List AV} {σ:St} {n:Nat} {cs:List AV} (h:Iz n cs (aFn X k f args σ)=true):ay X f args σ fun a s=>∃o g,a= .sl o g 0 n 1∧s[o]? =some ⟨g,false,.cells 9 cs⟩:=by
 unfold Iz at h
 split at h
 ·rename_i o g off m z s hr
  simp only [Bool.and_eq_true] at h
  obtain⟨⟨⟨h1,h2⟩,h3⟩,h4⟩:=h
  split at h4
  ·rename_i g' ro e cs' ho
   simp only [Bool.and_eq_true,Bool.not_eq_true'] at h4
   obtain⟨⟨⟨q1,q2⟩,q3⟩,q4⟩:=h4
   refine⟨⟨k,_,hr,o,g,?_,?_⟩⟩
   ·rw [Nat.eq_of_beq_eq_true h1,Nat.eq_of_beq_eq_true h2,Nat.eq_of_beq_eq_true h3]
   ·simp only;rw [ho,Nat.eq_of_beq_eq_true q1,q2,Nat.eq_of_beq_eq_true q3,AV.kM _ _ q4]
  ·cases h4
 ·cases h
def KC:Iw X0 11 G0 where
 f:=9
 v:=.b true
 flat:=rfl
 does:=fun μ w hs=>by
    have h:=Ql
    rw [Option.map_eq_some_iff] at h
    obtain⟨⟨r,s⟩,h1,h2⟩:=h
    have h3:Dh XK 9 [] G0 fun a _=>a= .b true:=⟨1000,(r,s),h1,h2⟩
    exact h3.does Uz hs (aV:=#[]) rfl
@[reducible] noncomputable def XW:Ctx:=X0.ran KC
theorem UF:XW.Sound 11:=Ctx.Qk D8 Qg _
def tK:List UInt8:=[102,117,110,99,32,118,97,114,32,112,116,114,32,105,102,32,101,108,115,101,32,119,104,105,108,101,32,111,117,116,32,102,114,101,101,32,100,114,97,105,110,32,114,101,116,117,114,110,32,110,101,119,32,105,110]
def tN:List UInt8:=[124,124,32,38,38,32,61,61,32,33,61,32,60,61,32,62,61,32,60,60,32,62,62]
theorem KD:Iz 12 (keys.map .s) (aFn XW 1000 63 [.s tK] G0)=true:=by kernel_rfl
theorem KE:Iz 8 (lM.map .s) (aFn XW 1000 63 [.s tN] G0)=true:=by kernel_rfl
theorem O3 (n z e:Nat)(cs:List AV):Gp.Good ⟨fun o g=>.sl o g 0 n z,e,cs⟩:=by
 intro qG zK w o g N v h hv
 obtain⟨b,δ,off',c,e',m,h1,h2⟩:=hv
 exact⟨b,δ,off',c,e',m,by rw [h];exact h1,h2⟩
def yJ:List AV→Option MR
 | [.s t]=>if t=tK then some (.new ⟨fun o g=>.sl o g 0 12 1,9,keys.map .s⟩) else if t=tN then some (.new ⟨fun o g=>.sl o g 0 8 1,9,lM.map .s⟩) else none
 | _=>none
def lN:Kt XW G0 where
 f:=63
 g:=yJ
 okF:=by
    intro args v h
    unfold yJ at h
    split at h
    ·split at h
     ·cases h
     ·split at h <;> cases h
    ·cases h
 okN:=by
    intro args R h
    unfold yJ at h
    split at h
    ·split at h
     ·rename_i ht;subst ht;cases h
      exact⟨rfl,rfl,O3 _ _ _ _,Gu KD⟩
     ·split at h
      ·rename_i ht;subst ht;cases h
       exact⟨rfl,rfl,O3 _ _ _ _,Gu KE⟩
      ·cases h
    ·cases h
@[reducible] noncomputable def X:Ctx:=XW.makes G0 lN
theorem O4:X.Sound 11:=Ctx.Ku UF Qg _
theorem IB:lN.g [.s tK]=some (.new ⟨fun o g=>.sl o g 0 12 1,9,keys.map .s⟩):=by
 unfold lN
 simp only [yJ,if_true]
theorem IC:lN.g [.s tN]=some (.new ⟨fun o g=>.sl o g 0 8 1,9,lM.map .s⟩):=by
 have h:tN≠tK:=by decide
 unfold lN
 simp only [yJ,if_neg h,if_true]
theorem Ec (σ:St)(Q:AV→St→Prop)(ht:σ.take G0.length=G0)(q:Q (.sl σ.length 1 0 12 1) (jK 9 (keys.map .s) σ)):ay X 63 [.s tK] σ Q:=
 ay.Zm lN rfl (R:=⟨fun o g=>.sl o g 0 12 1,9,keys.map .s⟩) IB ht q
theorem Ed (σ:St)(Q:AV→St→Prop)(ht:σ.take G0.length=G0)(q:Q (.sl σ.length 1 0 8 1) (jK 9 (lM.map .s) σ)):ay X 63 [.s tN] σ Q:=
 ay.Zm lN rfl (R:=⟨fun o g=>.sl o g 0 8 1,9,lM.map .s⟩) IC ht q
theorem tV (σ:St)(ht:σ.take G0.length=G0) {Q:AV→St→Prop} (q:Q (.b true) σ):ay X 9 [] σ Q:=by
 constructor
 rw [nO (g:=KC.run) (by rfl)]
 refine⟨(.b true,σ),?_,q⟩
 unfold Iw.run
 simp only
 rw [if_pos (by rw [ht];exact qF _)]
 rfl
end Go.bG.YtjcicgkencfbgaaGreatDoor
