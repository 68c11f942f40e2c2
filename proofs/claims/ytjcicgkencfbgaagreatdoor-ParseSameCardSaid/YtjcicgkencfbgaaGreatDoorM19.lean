/- Texts of this claim, joined: Wq, Lx, Ly, Cy. -/
import Derived.Test.YtjcicgkencfbgaaGreatDoorM14
import Derived.Test.YtjcicgkencfbgaaGreatDoorM15
import Derived.Test.YtjcicgkencfbgaaGreatDoorM16
import Derived.Test.YtjcicgkencfbgaaGreatDoorM17
import Derived.Test.YtjcicgkencfbgaaGreatDoorM18
import Derived.Lib.Bytealg
import Derived.Lib.ParseIntB
import GoSem.Core.Value
import Derived.Test.YtjcicgkencfbgaaGreatDoorM10
set_option linter.unusedVariables false
set_option linter.unusedSimpArgs false
namespace Go.bG.YtjcicgkencfbgaaGreatDoor
open Go.Proofs
set_option maxRecDepth 10000000
def pks:List Pk:=[pk0,pk1,pk2,pk3,pk4]
theorem Uy:∀k∈pks,k.Good X1:=by
 intro k hk
 simp only [pks,List.mem_cons,List.not_mem_nil,or_false] at hk
 rcases hk with rfl | rfl | rfl | rfl | rfl
 ·exact Us
 ·exact Ut
 ·exact Uu
 ·exact Uw
 ·exact Ux
@[reducible] noncomputable def XK:Ctx:=X1.add 11 (pPk pks 11)
theorem Uz:XK.Sound 11:=Ctx.uN Kz _ _ (fun _ _ _ _ h _ _ _ hs hr=>Um Kz Uy h hs hr)
theorem Ql:(aFn XK 1000 9 [] G0).map (·.1)=some (.b true):=by kernel_rfl
end Go.bG.YtjcicgkencfbgaaGreatDoor
namespace Go.bG.YtjcicgkencfbgaaGreatDoor
def bQ (c:Int):Bool:=(decide (97≤c) && decide (c≤122)) || (decide (65≤c) && decide (c≤90)) || c == 95
def isDigit (c:Int):Bool:=decide (48≤c) && decide (c≤57)
def dD (c:Int):Bool:=c == 32 || c == 9 || c == 13 || c == 10
def isWord (c:Int):Bool:=bQ c || isDigit c
def ones:List UInt8:=[40,41,123,125,91,93,44,59,58,61,60,62,43,45,124,94,38,42,47,37,33]
def rD (c:Int):Bool:=decide (0≤Lib.indexByte ones (IntKind.u8.wrap c).toNat.toUInt8) && decide (c<128)
def run (p:Int→Bool):List UInt8→Nat
 | []=>0
 | c :: t=>if p c.toNat then run p t+1 else 0
theorem nX (p:Int→Bool):∀t,run p t≤t.length
 | []=>Nat.le_refl _
 | c :: t=>by
   simp only [run,List.length_cons]
   split
   ·have:=nX p t;omega
   ·omega
theorem lY {p:Int→Bool} {c:UInt8} (t:List UInt8)(h:p c.toNat=true):0<run p (c :: t):=by simp [run,h]
def keys:List (List UInt8):=[[102,117,110,99],[118,97,114],[112,116,114],[105,102],[101,108,115,101],[119,104,105,108,101],[111,117,116],[102,114,101,101],[100,114,97,105,110],[114,101,116,117,114,110],[110,101,119],[105,110]]
def lM:List (List UInt8):=[[124,124],[38,38],[61,61],[33,61],[60,61],[62,61],[60,60],[62,62]]
def tooBig (l:List UInt8):Bool:=match Lib.parseUintB 32 l with | .ok _=>false | _=>true
inductive Stp where
 | skip (n nl:Nat)
 | tok (k n:Nat)
 | err (e:Nat)
 deriving DecidableEq,Repr
def step (s:List UInt8):Stp:=
 if [47,47].isPrefixOf s then .skip (run (· != 10) s) 0
 else match s with
 | []=>.err 0
 | c :: _=>
   if dD c.toNat then .skip 1 (if c.toNat=10 then 1 else 0)
   else if bQ c.toNat then
     if 32<run isWord s then .err 9 else if keys.contains (s.take (run isWord s)) then .tok 4 (run isWord s) else .tok 1 (run isWord s)
   else if isDigit c.toNat then
     if(c.toNat=48∧1<run isDigit s)∨0<run bQ (s.drop (run isDigit s)) then .err 9
     else if tooBig (s.take (run isDigit s)) then .err 3 else .tok 2 (run isDigit s)
   else if rD c.toNat then(if lM.contains (s.take 2) then .tok 3 2 else .tok 3 1)
   else .err 9
structure Tok where
 k:Nat
 s:List UInt8
 l:Nat
 deriving DecidableEq,Repr
inductive Res where
 | toks (l:List Tok)
 | bad (e l:Nat)
 deriving DecidableEq,Repr
inductive UA where
 | done (l:List Tok) (n:Nat)
 | bad (e l:Nat)
 deriving DecidableEq,Repr
def iE:Nat→List UInt8→Nat→List Tok→UA
 | _,[],l,acc=>.done acc l
 | 0,_ :: _,l,acc=>.done acc l
 | n+1,c :: t,l,acc=>match step (c :: t) with
   | .skip k nl=>iE n ((c :: t).drop k) (l+nl) acc
   | .tok k m=>iE n ((c :: t).drop m) l (acc ++ [⟨k,(c :: t).take m,l⟩])
   | .err e=>.bad e l
def UA.fin:UA→Res
 | .done l n=>.toks (l ++ [⟨5,[],n⟩])
 | .bad e l=>.bad e l
def mG (t:List UInt8):Res:=if 32768<t.length then .bad 3 0 else(iE t.length t 0 []).fin
def Stp.fits (s:List UInt8):Stp→Prop
 | .skip n nl=>0<n∧n≤s.length∧nl≤1
 | .tok k n=>0<n∧n≤s.length∧1≤k∧k≤4
 | .err e=>e=9∨e=3
theorem jc (c:UInt8)(t:List UInt8):(step (c :: t)).fits (c :: t):=by
 unfold step
 split
 ·rename_i h
  simp only [List.isPrefixOf,Bool.and_eq_true,beq_iff_eq] at h
  obtain⟨rfl,_⟩:=h
  exact⟨lY _ (by decide),nX _ _,Nat.zero_le _⟩
 ·simp only
  split
  ·exact⟨Nat.one_pos,by simp,by split <;> omega⟩
  ·split
   ·rename_i hl
    have hp:0<run isWord (c :: t):=lY _ (by simp [isWord,hl])
    split
    ·exact .inl rfl
    ·split
     ·exact⟨hp,nX _ _,by omega,by omega⟩
     ·exact⟨hp,nX _ _,by omega,by omega⟩
   ·split
    ·rename_i hd
     have hp:0<run isDigit (c :: t):=lY _ hd
     split
     ·exact .inl rfl
     ·split
      ·exact .inr rfl
      ·exact⟨hp,nX _ _,by omega,by omega⟩
    ·split
     ·split
      ·rename_i h2
       refine⟨by omega,?_,by omega,by omega⟩
       cases t with
       | nil=>
         exfalso
         simp only [List.take,lM,List.contains_eq_mem,List.mem_cons,List.not_mem_nil,decide_eq_true_eq,List.cons.injEq] at h2
         simp at h2
       | cons d t=>simp
      ·exact⟨by omega,by simp,by omega,by omega⟩
     ·exact .inl rfl
end Go.bG.YtjcicgkencfbgaaGreatDoor
namespace Go.bG.YtjcicgkencfbgaaGreatDoor
def Good (k:Nat)(s:List UInt8):Prop:=∃u,u≠[]∧step u= .tok k s.length∧s=u.take s.length
end Go.bG.YtjcicgkencfbgaaGreatDoor
namespace Go.bG.YtjcicgkencfbgaaGreatDoor
open Go.Proofs
def Iz (n:Nat)(cs:List AV)(r:Option (AV×St)):Bool:=match r with
 | some (.sl o g off m z,s)=>Nat.beq off 0 && Nat.beq m n && Nat.beq z 1 && (match s[o]? with
   | some ⟨g',ro,.cells e cs'⟩=>Nat.beq g g' && !ro && Nat.beq e 9 && AV.eqvs cs' cs
   | _=>false)
 | _=>false
theorem Gu {X:Ctx} {k f:Nat} {args:List AV} {σ:St} {n:Nat} {cs:List AV} (h:Iz n cs (aFn X k f args σ)=true):ay X f args σ fun a s=>∃o g,a= .sl o g 0 n 1∧s[o]? =some ⟨g,false,.cells 9 cs⟩:=by
 unfold Iz at h
 split at h
 ·rename_i o g off m z s hr
  simp only [Bool.and_eq_true] at h
  obtain⟨⟨⟨h1,h2⟩,h3⟩,h4⟩:=h
  split at h4
  ·rename_i g' ro e cs' ho
   simp only [Bool.and_eq_true,Bool.not_eq_true'] at h4
   obtain⟨⟨⟨q1,q2⟩,q3⟩,q4⟩:=h4
   refine⟨⟨k,_,hr,o,g,?_,?_⟩⟩
   ·rw [Nat.eq_of_beq_eq_true h1,Nat.eq_of_beq_eq_true h2,Nat.eq_of_beq_eq_true h3]
   ·simp only;rw [ho,Nat.eq_of_beq_eq_true q1,q2,Nat.eq_of_beq_eq_true q3,AV.kM _ _ q4]
  ·cases h4
 ·cases h
def KC:Iw X0 11 G0 where
 f:=9
 v:=.b true
 flat:=rfl
 does:=fun μ w hs=>by
    have h:=Ql
    rw [Option.map_eq_some_iff] at h
    obtain⟨⟨r,s⟩,h1,h2⟩:=h
    have h3:Dh XK 9 [] G0 fun a _=>a= .b true:=⟨1000,(r,s),h1,h2⟩
    exact h3.does Uz hs (aV:=#[]) rfl
@[reducible] noncomputable def XW:Ctx:=X0.ran KC
theorem UF:XW.Sound 11:=Ctx.Qk D8 Qg _
def tK:List UInt8:=[102,117,110,99,32,118,97,114,32,112,116,114,32,105,102,32,101,108,115,101,32,119,104,105,108,101,32,111,117,116,32,102,114,101,101,32,100,114,97,105,110,32,114,101,116,117,114,110,32,110,101,119,32,105,110]
def tN:List UInt8:=[124,124,32,38,38,32,61,61,32,33,61,32,60,61,32,62,61,32,60,60,32,62,62]
theorem KD:Iz 12 (keys.map .s) (aFn XW 1000 63 [.s tK] G0)=true:=by kernel_rfl
theorem KE:Iz 8 (lM.map .s) (aFn XW 1000 63 [.s tN] G0)=true:=by kernel_rfl
theorem O3 (n z e:Nat)(cs:List AV):Gp.Good ⟨fun o g=>.sl o g 0 n z,e,cs⟩:=by
 intro qG zK w o g N v h hv
 obtain⟨b,δ,off',c,e',m,h1,h2⟩:=hv
 exact⟨b,δ,off',c,e',m,by rw [h];exact h1,h2⟩
def yJ:List AV→Option MR
 | [.s t]=>if t=tK then some (.new ⟨fun o g=>.sl o g 0 12 1,9,keys.map .s⟩) else if t=tN then some (.new ⟨fun o g=>.sl o g 0 8 1,9,lM.map .s⟩) else none
 | _=>none
def lN:Kt XW G0 where
 f:=63
 g:=yJ
 okF:=by
    intro args v h
    unfold yJ at h
    split at h
    ·split at h
     ·cases h
     ·split at h <;> cases h
    ·cases h
 okN:=by
    intro args R h
    unfold yJ at h
    split at h
    ·split at h
     ·rename_i ht;subst ht;cases h
      exact⟨rfl,rfl,O3 _ _ _ _,Gu KD⟩
     ·split at h
      ·rename_i ht;subst ht;cases h
       exact⟨rfl,rfl,O3 _ _ _ _,Gu KE⟩
      ·cases h
    ·cases h
@[reducible] noncomputable def X:Ctx:=XW.makes G0 lN
theorem O4:X.Sound 11:=Ctx.Ku UF Qg _
theorem tV (σ:St)(ht:σ.take G0.length=G0) {Q:AV→St→Prop} (q:Q (.b true) σ):ay X 9 [] σ Q:=by
 constructor
 rw [nO (g:=KC.run) (by rfl)]
 refine⟨(.b true,σ),?_,q⟩
 unfold Iw.run
 simp only
 rw [if_pos (by rw [ht];exact qF _)]
 rfl
end Go.bG.YtjcicgkencfbgaaGreatDoor
