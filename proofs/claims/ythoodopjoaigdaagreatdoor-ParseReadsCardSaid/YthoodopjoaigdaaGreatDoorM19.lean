/- Texts of this claim, joined: Wq, Lx, Cy. -/
import Derived.Test.YthoodopjoaigdaaGreatDoorM14
import Derived.Test.YthoodopjoaigdaaGreatDoorM15
import Derived.Test.YthoodopjoaigdaaGreatDoorM16
import Derived.Test.YthoodopjoaigdaaGreatDoorM17
import Derived.Test.YthoodopjoaigdaaGreatDoorM18
import Derived.Lib.Bytealg
import Derived.Lib.ParseIntB
import GoSem.Core.Value
import Derived.Test.YthoodopjoaigdaaGreatDoorM10
set_option linter.unusedVariables false
set_option linter.unusedSimpArgs false
namespace Go.bP.YthoodopjoaigdaaGreatDoor
open Go.Proofs
set_option maxRecDepth 10000000
def pks:List Pk:=[pk0,pk1,pk2,pk3,pk4]
theorem QN:∀k∈pks,k.Good X1:=by
 intro k hk
 simp only [pks,List.mem_cons,List.not_mem_nil,or_false] at hk
 rcases hk with rfl | rfl | rfl | rfl | rfl
 ·exact QH
 ·exact QJ
 ·exact QK
 ·exact QL
 ·exact QM
@[reducible] noncomputable def XK:Ctx:=X1.add 4 (pPk pks 4)
theorem QO:XK.Sound 11:=Ctx.rX Iy _ _ (fun _ _ _ _ h _ _ _ hs hr=>QD Iy QN h hs hr)
theorem NC:(aFn XK 1000 8 [] G0).map (·.1)=some (.b true):=by kernel_rfl
end Go.bP.YthoodopjoaigdaaGreatDoor
namespace Go.bP.YthoodopjoaigdaaGreatDoor
def bT (c:Int):Bool:=(decide (97≤c) && decide (c≤122)) || (decide (65≤c) && decide (c≤90)) || c == 95
def isDigit (c:Int):Bool:=decide (48≤c) && decide (c≤57)
def dP (c:Int):Bool:=c == 32 || c == 9 || c == 13 || c == 10
def isWord (c:Int):Bool:=bT c || isDigit c
def ones:List UInt8:=[40,41,123,125,91,93,44,59,58,61,60,62,43,45,124,94,38,42,47,37,33]
def pY (c:Int):Bool:=decide (0≤Lib.indexByte ones (IntKind.u8.wrap c).toNat.toUInt8) && decide (c<128)
def kindOf (c:Int):Int:=if dP c then 1 else if bT c then 2 else if isDigit c then 3 else if pY c then 4 else 0
def run (p:Int→Bool):List UInt8→Nat
 | []=>0
 | c :: t=>if p c.toNat then run p t+1 else 0
theorem mY (p:Int→Bool):∀t,run p t≤t.length
 | []=>Nat.le_refl _
 | c :: t=>by
   simp only [run,List.length_cons]
   split
   ·have:=mY p t;omega
   ·omega
theorem kU {p:Int→Bool} {c:UInt8} (t:List UInt8)(h:p c.toNat=true):0<run p (c :: t):=by simp [run,h]
def keys:List (List UInt8):=[[102,117,110,99],[118,97,114],[112,116,114],[105,102],[101,108,115,101],[119,104,105,108,101],[111,117,116],[102,114,101,101],[100,114,97,105,110],[114,101,116,117,114,110],[110,101,119],[105,110]]
def lJ:List (List UInt8):=[[124,124],[38,38],[61,61],[33,61],[60,61],[62,61],[60,60],[62,62]]
def tooBig (l:List UInt8):Bool:=match Lib.parseUintB 32 l with | .ok _=>false | _=>true
inductive Stp where
 | skip (n nl:Nat)
 | tok (k n:Nat)
 | err (e:Nat)
 deriving DecidableEq,Repr
def step (s:List UInt8):Stp:=
 if [47,47].isPrefixOf s then .skip (run (· != 10) s) 0
 else match s with
 | []=>.err 0
 | c :: _=>
   if dP c.toNat then .skip 1 (if c.toNat=10 then 1 else 0)
   else if bT c.toNat then
     if 32<run isWord s then .err 9 else if keys.contains (s.take (run isWord s)) then .tok 4 (run isWord s) else .tok 1 (run isWord s)
   else if isDigit c.toNat then
     if(c.toNat=48∧1<run isDigit s)∨0<run bT (s.drop (run isDigit s)) then .err 9
     else if tooBig (s.take (run isDigit s)) then .err 3 else .tok 2 (run isDigit s)
   else if pY c.toNat then(if lJ.contains (s.take 2) then .tok 3 2 else .tok 3 1)
   else .err 9
structure Tok where
 k:Nat
 s:List UInt8
 l:Nat
 deriving DecidableEq,Repr
inductive Res where
 | toks (l:List Tok)
 | bad (e l:Nat)
 deriving DecidableEq,Repr
inductive Ye where
 | done (l:List Tok) (n:Nat)
 | bad (e l:Nat)
 deriving DecidableEq,Repr
def kJ:Nat→List UInt8→Nat→List Tok→Ye
 | _,[],l,acc=>.done acc l
 | 0,_ :: _,l,acc=>.done acc l
 | n+1,c :: t,l,acc=>match step (c :: t) with
   | .skip k nl=>kJ n ((c :: t).drop k) (l+nl) acc
   | .tok k m=>kJ n ((c :: t).drop m) l (acc ++ [⟨k,(c :: t).take m,l⟩])
   | .err e=>.bad e l
def Ye.fin:Ye→Res
 | .done l n=>.toks (l ++ [⟨5,[],n⟩])
 | .bad e l=>.bad e l
def qO (t:List UInt8):Res:=if 32768<t.length then .bad 3 0 else(kJ t.length t 0 []).fin
def Stp.fits (s:List UInt8):Stp→Prop
 | .skip n nl=>0<n∧n≤s.length∧nl≤1
 | .tok k n=>0<n∧n≤s.length∧1≤k∧k≤4
 | .err e=>e=9∨e=3
theorem r_ (c:UInt8)(t:List UInt8):(step (c :: t)).fits (c :: t):=by
 unfold step
 split
 ·rename_i h
  simp only [List.isPrefixOf,Bool.and_eq_true,beq_iff_eq] at h
  obtain⟨rfl,_⟩:=h
  exact⟨kU _ (by decide),mY _ _,Nat.zero_le _⟩
 ·simp only
  split
  ·exact⟨Nat.one_pos,by simp,by split <;> omega⟩
  ·split
   ·rename_i hl
    have hp:0<run isWord (c :: t):=kU _ (by simp [isWord,hl])
    split
    ·exact .inl rfl
    ·split
     ·exact⟨hp,mY _ _,by omega,by omega⟩
     ·exact⟨hp,mY _ _,by omega,by omega⟩
   ·split
    ·rename_i hd
     have hp:0<run isDigit (c :: t):=kU _ hd
     split
     ·exact .inl rfl
     ·split
      ·exact .inr rfl
      ·exact⟨hp,mY _ _,by omega,by omega⟩
    ·split
     ·split
      ·rename_i h2
       refine⟨by omega,?_,by omega,by omega⟩
       cases t with
       | nil=>
         exfalso
         simp only [List.take,lJ,List.contains_eq_mem,List.mem_cons,List.not_mem_nil,decide_eq_true_eq,List.cons.injEq] at h2
         simp at h2
       | cons d t=>simp
      ·exact⟨by omega,by simp,by omega,by omega⟩
     ·exact .inl rfl
end Go.bP.YthoodopjoaigdaaGreatDoor
namespace Go.bP.YthoodopjoaigdaaGreatDoor
open Go.Proofs
def FH (n:Nat)(cs:List AV)(r:Option (AV×St)):Bool:=match r with
 | some (.sl o g off m z,s)=>Nat.beq off 0 && Nat.beq m n && Nat.beq z 1 && (match s[o]? with
   | some ⟨g',ro,.cells e cs'⟩=>Nat.beq g g' && !ro && Nat.beq e 9 && AV.eqvs cs' cs
   | _=>false)
 | _=>false
theorem Ei {X:Ctx} {k f:Nat} {args:List AV} {σ:St} {n:Nat} {cs:List AV} (h:FH n cs (aFn X k f args σ)=true):ay X f args σ fun a s=>∃o g,a= .sl o g 0 n 1∧s[o]? =some ⟨g,false,.cells 9 cs⟩:=by
 unfold FH at h
 split at h
 ·rename_i o g off m z s hr
  simp only [Bool.and_eq_true] at h
  obtain⟨⟨⟨h1,h2⟩,h3⟩,h4⟩:=h
  split at h4
  ·rename_i g' ro e cs' ho
   simp only [Bool.and_eq_true,Bool.not_eq_true'] at h4
   obtain⟨⟨⟨q1,q2⟩,q3⟩,q4⟩:=h4
   refine⟨⟨k,_,hr,o,g,?_,?_⟩⟩
   ·rw [Nat.eq_of_beq_eq_true h1,Nat.eq_of_beq_eq_true h2,Nat.eq_of_beq_eq_true h3]
   ·simp only;rw [ho,Nat.eq_of_beq_eq_true q1,q2,Nat.eq_of_beq_eq_true q3,AV.jO _ _ q4]
  ·cases h4
 ·cases h
def Iz:FD X0 11 G0 where
 f:=8
 v:=.b true
 flat:=rfl
 does:=fun μ w hs=>by
    have h:=NC
    rw [Option.map_eq_some_iff] at h
    obtain⟨⟨r,s⟩,h1,h2⟩:=h
    have h3:Aw XK 8 [] G0 fun a _=>a= .b true:=⟨1000,(r,s),h1,h2⟩
    exact h3.does QO hs (aU:=#[]) rfl
@[reducible] noncomputable def XW:Ctx:=X0.ran Iz
theorem QS:XW.Sound 11:=Ctx.Nw BN Nq _
def qP:List UInt8:=[102,117,110,99,32,118,97,114,32,112,116,114,32,105,102,32,101,108,115,101,32,119,104,105,108,101,32,111,117,116,32,102,114,101,101,32,100,114,97,105,110,32,114,101,116,117,114,110,32,110,101,119,32,105,110]
def qQ:List UInt8:=[124,124,32,38,38,32,61,61,32,33,61,32,60,61,32,62,61,32,60,60,32,62,62]
theorem IB:FH 12 (keys.map .s) (aFn XW 1000 63 [.s qP] G0)=true:=by kernel_rfl
theorem IC:FH 8 (lJ.map .s) (aFn XW 1000 63 [.s qQ] G0)=true:=by kernel_rfl
theorem LJ (n z e:Nat)(cs:List AV):Ee.Good ⟨fun o g=>.sl o g 0 n z,e,cs⟩:=by
 intro oZ EK w o g N v h hv
 obtain⟨b,δ,off',c,e',m,h1,h2⟩:=hv
 exact⟨b,δ,off',c,e',m,by rw [h];exact h1,h2⟩
def wE:List AV→Option MR
 | [.s t]=>if t=qP then some (.new ⟨fun o g=>.sl o g 0 12 1,9,keys.map .s⟩) else if t=qQ then some (.new ⟨fun o g=>.sl o g 0 8 1,9,lJ.map .s⟩) else none
 | _=>none
def kK:Ip XW G0 where
 f:=63
 g:=wE
 okF:=by
    intro args v h
    unfold wE at h
    split at h
    ·split at h
     ·cases h
     ·split at h <;> cases h
    ·cases h
 okN:=by
    intro args R h
    unfold wE at h
    split at h
    ·split at h
     ·rename_i ht;subst ht;cases h
      exact⟨rfl,rfl,LJ _ _ _ _,Ei IB⟩
     ·split at h
      ·rename_i ht;subst ht;cases h
       exact⟨rfl,rfl,LJ _ _ _ _,Ei IC⟩
      ·cases h
    ·cases h
@[reducible] noncomputable def X:Ctx:=XW.makes G0 kK
theorem U4:X.Sound 11:=Ctx.Iq QS Nq _
theorem FI:kK.g [.s qP]=some (.new ⟨fun o g=>.sl o g 0 12 1,9,keys.map .s⟩):=by
 unfold kK
 simp only [wE,if_true]
theorem FM:kK.g [.s qQ]=some (.new ⟨fun o g=>.sl o g 0 8 1,9,lJ.map .s⟩):=by
 have h:qQ≠qP:=by decide
 unfold kK
 simp only [wE,if_neg h,if_true]
theorem BQ (σ:St)(Q:AV→St→Prop)(ht:σ.take G0.length=G0)(q:Q (.sl σ.length 1 0 12 1) (ji 9 (keys.map .s) σ)):ay X 63 [.s qP] σ Q:=
 ay.Wu kK rfl (R:=⟨fun o g=>.sl o g 0 12 1,9,keys.map .s⟩) FI ht q
theorem BR (σ:St)(Q:AV→St→Prop)(ht:σ.take G0.length=G0)(q:Q (.sl σ.length 1 0 8 1) (ji 9 (lJ.map .s) σ)):ay X 63 [.s qQ] σ Q:=
 ay.Wu kK rfl (R:=⟨fun o g=>.sl o g 0 8 1,9,lJ.map .s⟩) FM ht q
theorem IE (σ:St)(ht:σ.take G0.length=G0) {Q:AV→St→Prop} (q:Q (.b true) σ):ay X 8 [] σ Q:=by
 constructor
 rw [jq (g:=Iz.run) (by rfl)]
 refine⟨(.b true,σ),?_,q⟩
 unfold FD.run
 simp only
 rw [if_pos (by rw [ht];exact oU _)]
 rfl
end Go.bP.YthoodopjoaigdaaGreatDoor
