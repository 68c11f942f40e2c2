/- Texts of this claim, joined: Sp, Sq, Rp, Ra, Rb, Rc, Rd1, Rd2, Rd3, Rd4, Rd5, Rd6, Rd7, Rd8, Re1. -/
import Derived.Test.YtobmjhfgmhfocaaGreatDoorM16
import Derived.Test.YtobmjhfgmhfocaaGreatDoorM17
set_option linter.unusedVariables false
set_option linter.unusedSimpArgs false
namespace Go.bK.YtobmjhfgmhfocaaGreatDoor
mutual
inductive Tr where
 | nil
 | ex (k n:Nat) (name text:List UInt8) (l r:Tr) (args:Gy) (line:Nat)
inductive Gy where
 | nil
 | cons (t:Tr) (r:Gy)
end
mutual
inductive Sm where
 | st (k:Nat) (name:List UInt8) (ptr:Bool) (l r:Tr) (th el:IK) (line:Nat)
inductive IK where
 | nil
 | cons (s:Sm) (r:IK)
end
structure Fm where
 name:List UInt8
 params:List (List UInt8×Bool)
 ptr:Bool
 body:IK
 line:Nat
inductive Re (α:Type) where
 | ok (a:α) (ts:List Tok)
 | bad (c l:Nat)
 | out
def Re.bind {α β:Type} (r:Re α)(f:α→List Tok→Re β):Re β:=match r with
 | .ok a ts=>f a ts
 | .bad c l=>.bad c l
 | .out=>.out
def bV (s:List UInt8):List Tok→Bool
 | t :: _=>(t.k == 4 || t.k == 3) && t.s == s
 | []=>false
def oG:List Tok→Nat
 | t :: _=>t.l
 | []=>0
def bn (s:List UInt8)(ts:List Tok):Re Unit:=if bV s ts=true then .ok () ts.tail else .bad 4 (oG ts)
def jc (s:List UInt8)(d:Nat)(ts:List Tok):Re Unit:=if bV s ts=true∧64≤d then .bad 3 (oG ts) else bn s ts
def iP (ts:List Tok):Re (List UInt8):=match ts with
 | t :: r=>if t.k=1 then .ok t.s r else .bad 4 t.l
 | []=>.out
def jI (s:List UInt8):Nat:=
 if s=[124,124] then 1 else if s=[38,38] then 2 else if s=[61,61]∨s=[33,61] then 3
 else if s=[60]∨s=[60,61]∨s=[62]∨s=[62,61] then 4
 else if s=[43]∨s=[45]∨s=[124]∨s=[94] then 5
 else if s=[42]∨s=[47]∨s=[37]∨s=[38]∨s=[60,60]∨s=[62,62] then 6 else 0
def yh:Nat→List UInt8→Nat
 | n,[]=>n
 | n,c :: l=>yh (10*n+(c.toNat - 48)) l
def Ri:List UInt8:=[110,101,119]
def wIn:List UInt8:=[105,110]
def GH:List UInt8:=[101,108,115,101]
def wIf:List UInt8:=[105,102]
def wVar:List UInt8:=[118,97,114]
def je:List UInt8:=[112,116,114]
def Wp:List UInt8:=[119,104,105,108,101]
def wOut:List UInt8:=[111,117,116]
def wFree:List UInt8:=[102,114,101,101]
def Wq:List UInt8:=[100,114,97,105,110]
def gI:List UInt8:=[114,101,116,117,114,110]
def uV:List UInt8:=[102,117,110,99]
def Rj (t:Tok):Tr:=.ex 1 (yh 0 t.s) [] [] .nil .nil .nil t.l
def KW (nm:List UInt8)(l:Nat):Tr:=.ex 2 0 nm [] .nil .nil .nil l
mutual
def fJ:Nat→Nat→Nat→List Tok→Re Tr
 | 0,_,_,_=>.out
 | n+1,d,c,ts=>(yG n d ts).bind fun x ts=>qK n d c x ts
def qK:Nat→Nat→Nat→Tr→List Tok→Re Tr
 | 0,_,_,_,_=>.out
 | _+1,_,_,_,[]=>.out
 | n+1,d,c,x,t :: r=>
   if t.k=3∧jI t.s≠0∧¬jI t.s<c then(fJ n d (jI t.s+1) r).bind fun y ts=>qK n d c (.ex 3 0 [] t.s x y .nil t.l) ts
   else .ok x (t :: r)
def yG:Nat→Nat→List Tok→Re Tr
 | 0,_,_=>.out
 | _+1,_,[]=>.out
 | n+1,d,t :: r=>
   if bV [33] (t :: r)=true∨bV [45] (t :: r)=true then
    if 64≤d then .bad 3 t.l else(yG n (d+1) r).bind fun x ts=>.ok (.ex 3 0 [] t.s .nil x .nil t.l) ts
   else kP n d (t :: r)
def kP:Nat→Nat→List Tok→Re Tr
 | 0,_,_=>.out
 | n+1,d,ts=>(jJ n d ts).bind fun x ts=>gX n d x ts
def gX:Nat→Nat→Tr→List Tok→Re Tr
 | 0,_,_,_=>.out
 | _+1,_,_,[]=>.out
 | n+1,d,x,t :: r=>
   if bV [91] (t :: r)=true then(nO n d [91] [93] (t :: r)).bind fun y ts=>gX n d (.ex 5 0 [] [] x y .nil t.l) ts
   else if bV [58] (t :: r)=true then(yj n d r).bind fun y ts=>gX n d (.ex 6 0 [] [] x y .nil t.l) ts
   else .ok x (t :: r)
def nO:Nat→Nat→List UInt8→List UInt8→List Tok→Re Tr
 | 0,_,_,_,_=>.out
 | n+1,d,a,b,ts=>(jc a d ts).bind fun _ ts=>(fJ n (d+1) 1 ts).bind fun x ts=>(bn b ts).bind fun _ ts=>.ok x ts
def yj:Nat→Nat→List Tok→Re Tr
 | 0,_,_=>.out
 | _+1,_,[]=>.out
 | n+1,d,t :: r=>
   if bV [40] (t :: r)=true then nO n d [40] [41] (t :: r)
   else if t.k=2 then .ok (Rj t) r
   else(iP (t :: r)).bind fun nm ts=>.ok (KW nm t.l) ts
def jJ:Nat→Nat→List Tok→Re Tr
 | 0,_,_=>.out
 | _+1,_,[]=>.out
 | n+1,d,t :: r=>
   if bV [40] (t :: r)=true then nO n d [40] [41] (t :: r)
   else if bV Ri (t :: r)=true then(nO n d [40] [41] r).bind fun x ts=>.ok (.ex 7 0 [] [] x .nil .nil t.l) ts
   else if bV wIn (t :: r)=true then(jc [40] d r).bind fun _ ts=>(bn [41] ts).bind fun _ ts=>.ok (.ex 8 0 [] [] .nil .nil .nil t.l) ts
   else if t.k=2 then .ok (Rj t) r
   else(iP (t :: r)).bind fun nm ts=>
    if bV [40] ts=true then(jc [40] d ts).bind fun _ ts=>(gB n (d+1) true ts).bind fun a ts=>(bn [41] ts).bind fun _ ts=>.ok (.ex 4 0 nm [] .nil .nil a t.l) ts
    else .ok (KW nm t.l) ts
def gB:Nat→Nat→Bool→List Tok→Re Gy
 | 0,_,_,_=>.out
 | n+1,d,first,ts=>
   if bV [41] ts=true then .ok .nil ts
   else(if first=true then .ok () ts else bn [44] ts).bind fun _ ts=>(fJ n d 1 ts).bind fun x ts=>(gB n d false ts).bind fun xs ts=>.ok (.cons x xs) ts
end
mutual
def fB:Nat→Nat→List Tok→Re IK
 | 0,_,_=>.out
 | n+1,d,ts=>(jc [123] d ts).bind fun _ ts=>(jf n (d+1) ts).bind fun l ts=>(bn [125] ts).bind fun _ ts=>.ok l ts
def jf:Nat→Nat→List Tok→Re IK
 | 0,_,_=>.out
 | n+1,d,ts=>
   if bV [125] ts=true then .ok .nil ts
   else(uX n d ts).bind fun x ts=>(jf n d ts).bind fun l ts=>.ok (.cons x l) ts
def jF:Nat→Nat→Nat→List Tok→Re Sm
 | 0,_,_,_=>.out
 | n+1,d,line,ts=>(fJ n d 1 ts).bind fun c ts=>(fB n d ts).bind fun th ts=>
   if bV GH ts=true then
    if bV wIf ts.tail=true then(jF n d (oG ts.tail) ts.tail.tail).bind fun b ts=>.ok (.st 4 [] false .nil c th (.cons b .nil) line) ts
    else(fB n d ts.tail).bind fun el ts=>.ok (.st 4 [] false .nil c th el line) ts
   else .ok (.st 4 [] false .nil c th .nil line) ts
def dJ:Nat→Nat→List Tok→Re Tr
 | 0,_,_=>.out
 | n+1,d,ts=>(fJ n d 1 ts).bind fun x ts=>(bn [59] ts).bind fun _ ts=>.ok x ts
def uX:Nat→Nat→List Tok→Re Sm
 | 0,_,_=>.out
 | _+1,_,[]=>.out
 | n+1,d,t :: r=>
   if bV wVar (t :: r)=true then(iP r).bind fun nm ts=>
    let p:=bV je ts
    let ts:=if p=true then ts.tail else ts
    if bV [61] ts=true then(dJ n d ts.tail).bind fun x ts=>.ok (.st 1 nm p .nil x .nil .nil t.l) ts
    else(bn [59] ts).bind fun _ ts=>.ok (.st 1 nm p .nil .nil .nil .nil t.l) ts
   else if bV wIf (t :: r)=true then jF n d t.l r
   else if bV Wp (t :: r)=true then(fJ n d 1 r).bind fun c ts=>(fB n d ts).bind fun th ts=>.ok (.st 5 [] false .nil c th .nil t.l) ts
   else if bV wOut (t :: r)=true then(dJ n d r).bind fun x ts=>.ok (.st 6 [] false .nil x .nil .nil t.l) ts
   else if bV wFree (t :: r)=true then(dJ n d r).bind fun x ts=>.ok (.st 7 [] false .nil x .nil .nil t.l) ts
   else if bV Wq (t :: r)=true then(bn [59] r).bind fun _ ts=>.ok (.st 8 [] false .nil .nil .nil .nil t.l) ts
   else if bV gI (t :: r)=true then
    if bV [59] r=true then .ok (.st 9 [] false .nil .nil .nil .nil t.l) r.tail
    else(dJ n d r).bind fun x ts=>.ok (.st 9 [] false .nil x .nil .nil t.l) ts
   else(kP n d (t :: r)).bind fun x ts=>match x with
    | .nil=>.out
    | .ex k _ nm _ _ _ _ _=>
      if bV [61] ts=true then
        if k=2 then(dJ n d ts.tail).bind fun y ts=>.ok (.st 2 nm false .nil y .nil .nil t.l) ts
        else if k=5∨k=6 then(dJ n d ts.tail).bind fun y ts=>.ok (.st 3 [] false x y .nil .nil t.l) ts
        else .bad 4 (oG ts)
      else if k=4 then(bn [59] ts).bind fun _ ts=>.ok (.st 10 [] false .nil x .nil .nil t.l) ts
      else .bad 4 (oG ts)
end
def eu:Nat→Bool→List Tok→Re (List (List UInt8×Bool))
 | 0,_,_=>.out
 | n+1,first,ts=>
   if bV [41] ts=true then .ok [] ts
   else(if first=true then .ok () ts else bn [44] ts).bind fun _ ts=>(iP ts).bind fun nm ts=>
    let p:=bV je ts
    (eu n false (if p=true then ts.tail else ts)).bind fun l ts=>.ok ((nm,p) :: l) ts
def Au (n:Nat)(ts:List Tok):Re Fm:=(bn uV ts).bind fun _ dK=>(iP dK).bind fun nm dK=>(jc [40] 0 dK).bind fun _ dK=>(eu n true dK).bind fun ps dK=>(bn [41] dK).bind fun _ dK=>
 let p:=bV je dK
 (fB n 0 (if p=true then dK.tail else dK)).bind fun b dK=>.ok ⟨nm,ps,p,b,oG ts⟩ dK
def iK:Nat→List Tok→Re (List Fm)
 | 0,_=>.out
 | _+1,[]=>.out
 | n+1,t :: r=>if t.k=5 then .ok [] (t :: r) else(Au n (t :: r)).bind fun f ts=>(iK n ts).bind fun l ts=>.ok (f :: l) ts
end Go.bK.YtobmjhfgmhfocaaGreatDoor
namespace Go.bK.YtobmjhfgmhfocaaGreatDoor
def bg:List Tok→Prop
 | []=>False
 | t :: r=>if r=[] then t.k=5 else bg r
theorem bg.tail {t:Tok} {r:List Tok} (h:bg (t :: r))(hk:t.k≠5):bg r:=by
 unfold bg at h
 split at h
 ·exact(hk h).elim
 ·exact h
theorem bg.ne {ts:List Tok} (h:bg ts):∃t r,ts=t :: r:=by
 cases ts with
 | nil=>exact h.elim
 | cons t r=>exact⟨t,r,rfl⟩
theorem iE {s:List UInt8} {t:Tok} {r:List Tok} (h:bV s (t :: r)=true):t.k≠5:=by
 unfold bV at h
 simp only [Bool.and_eq_true,Bool.or_eq_true,beq_iff_eq] at h
 rcases h.1 with h | h <;> rw [h] <;> decide
theorem iZ {s:List UInt8} {ts:List Tok} (he:bg ts)(h:bV s ts=true):bg ts.tail∧ts.tail.length<ts.length:=by
 obtain⟨t,r,rfl⟩:=he.ne
 exact⟨he.tail (iE h),by simp⟩
def Gd {α:Type} (V:α→Prop)(r:Re α)(L:Nat):Prop:=match r with
 | .ok a ts=>V a∧bg ts∧ts.length<L
 | .bad _ _=>True
 | .out=>False
theorem Gd.bind {α β:Type} {V:α→Prop} {U:β→Prop} {r:Re α} {f:α→List Tok→Re β} {L M:Nat} (h:Gd V r L)(hf:∀a ts,V a→bg ts→ts.length<L→Gd U (f a ts) M):Gd U (r.bind f) M:=by
 cases r with
 | ok a ts=>exact hf a ts h.1 h.2.1 h.2.2
 | bad c l=>trivial
 | out=>exact h.elim
theorem Gd.mono {α:Type} {V:α→Prop} {r:Re α} {L M:Nat} (h:Gd V r L)(hl:L≤M):Gd V r M:=by
 cases r with
 | ok a ts=>exact⟨h.1,h.2.1,Nat.lt_of_lt_of_le h.2.2 hl⟩
 | bad c l=>trivial
 | out=>exact h.elim
theorem iQ (s:List UInt8) {ts:List Tok} (he:bg ts):Gd (fun _=>True) (bn s ts) ts.length:=by
 unfold bn
 split
 ·rename_i h;exact⟨trivial,iZ he h⟩
 ·trivial
theorem uw (s:List UInt8)(d:Nat) {ts:List Tok} (he:bg ts):Gd (fun _=>True) (jc s d ts) ts.length:=by
 unfold jc
 split
 ·trivial
 ·exact iQ s he
theorem uy {ts:List Tok} (he:bg ts):Gd (fun _=>True) (iP ts) ts.length:=by
 obtain⟨t,r,rfl⟩:=he.ne
 unfold iP
 simp only
 split
 ·rename_i h;exact⟨trivial,he.tail (by rw [h];decide),by simp⟩
 ·trivial
abbrev An {α:Type} :α→Prop:=fun _=>True
def PI:Tr→Prop
 | .nil=>False
 | _=>True
structure AllE (n:Nat):Prop where
 expr:∀d c ts,bg ts→10*ts.length+9≤n→Gd PI (fJ n d c ts) ts.length
 loop:∀d c x ts,PI x→bg ts→10*ts.length+9≤n→Gd PI (qK n d c x ts) (ts.length+1)
 un:∀d ts,bg ts→10*ts.length+8≤n→Gd PI (yG n d ts) ts.length
 post:∀d ts,bg ts→10*ts.length+7≤n→Gd PI (kP n d ts) ts.length
 nP:∀d x ts,PI x→bg ts→10*ts.length+9≤n→Gd PI (gX n d x ts) (ts.length+1)
 with_:∀d a b ts,bg ts→10*ts.length+5≤n→Gd PI (nO n d a b ts) ts.length
 cell:∀d ts,bg ts→10*ts.length+6≤n→Gd PI (yj n d ts) ts.length
 first:∀d ts,bg ts→10*ts.length+6≤n→Gd PI (jJ n d ts) ts.length
 args:∀d f ts,bg ts→10*ts.length+10≤n→Gd An (gB n d f ts) (ts.length+1)
theorem sU:∀n,AllE n
 | 0=>⟨fun _ _ _ _ h=>by omega,fun _ _ _ _ _ _ h=>by omega,fun _ _ _ h=>by omega,fun _ _ _ h=>by omega,fun _ _ _ _ _ h=>by omega,fun _ _ _ _ _ h=>by omega,fun _ _ _ h=>by omega,fun _ _ _ h=>by omega,fun _ _ _ _ h=>by omega⟩
 | n+1=>by
   have ih:=sU n
   refine⟨fun d c ts he hn=>?_,fun d c x ts hx he hn=>?_,fun d ts he hn=>?_,fun d ts he hn=>?_,fun d x ts hx he hn=>?_,fun d a b ts he hn=>?_,fun d ts he hn=>?_,fun d ts he hn=>?_,fun d f ts he hn=>?_⟩
   ·unfold fJ
    exact(ih.un d ts he (by omega)).bind fun x ts' hx he' hl=>(ih.loop d c x ts' hx he' (by omega)).mono (by omega)
   ·obtain⟨t,r,rfl⟩:=he.ne
    unfold qK
    simp only [List.length_cons] at hn
    split
    ·rename_i h
     have her:=he.tail (by rw [h.1];decide)
     exact(ih.expr d _ r her (by omega)).bind fun y ts' _ he' hl=>(ih.loop d c (.ex 3 0 [] t.s x y .nil t.l) ts' trivial he' (by omega)).mono (by simp;omega)
    ·exact⟨hx,he,Nat.lt_succ_self _⟩
   ·obtain⟨t,r,rfl⟩:=he.ne
    unfold yG
    simp only [List.length_cons] at hn
    split
    ·rename_i h
     have her:bg r:=by rcases h with h | h <;> exact he.tail (iE h)
     split
     ·trivial
     ·exact(ih.un (d+1) r her (by omega)).bind fun x ts' _ he' hl=>⟨trivial,he',by simp;omega⟩
    ·exact ih.post d _ he (by simp only [List.length_cons];omega)
   ·unfold kP
    exact(ih.first d ts he (by omega)).bind fun x ts' hx he' hl=>(ih.nP d x ts' hx he' (by omega)).mono (by omega)
   ·obtain⟨t,r,rfl⟩:=he.ne
    unfold gX
    simp only [List.length_cons] at hn
    split
    ·rename_i h
     exact(ih.with_ d _ _ _ he (by simp only [List.length_cons];omega)).bind fun y ts' _ he' hl=>(ih.nP d (.ex 5 0 [] [] x y .nil t.l) ts' trivial he' (by simp only [List.length_cons] at hl;omega)).mono (by omega)
    ·split
     ·rename_i h
      have her:=he.tail (iE h)
      exact(ih.cell d r her (by omega)).bind fun y ts' _ he' hl=>(ih.nP d (.ex 6 0 [] [] x y .nil t.l) ts' trivial he' (by omega)).mono (by simp;omega)
     ·exact⟨hx,he,Nat.lt_succ_self _⟩
   ·unfold nO
    exact(uw a d he).bind fun _ dK _ he1 hl1=>(ih.expr (d+1) 1 dK he1 (by omega)).bind fun x kQ hx he2 hl2=>(iQ b he2).bind fun _ ZE _ he3 hl3=>⟨hx,he3,by omega⟩
   ·obtain⟨t,r,rfl⟩:=he.ne
    unfold yj
    simp only [List.length_cons] at hn
    split
    ·exact ih.with_ d _ _ _ he (by simp only [List.length_cons];omega)
    ·split
     ·rename_i h;exact⟨trivial,he.tail (by rw [h];decide),by simp⟩
     ·exact(uy he).bind fun nm dK _ he1 hl1=>⟨trivial,he1,hl1⟩
   ·obtain⟨t,r,rfl⟩:=he.ne
    unfold jJ
    simp only [List.length_cons] at hn
    split
    ·exact ih.with_ d _ _ _ he (by simp only [List.length_cons];omega)
    ·split
     ·rename_i h
      have her:=he.tail (iE h)
      exact(ih.with_ d _ _ r her (by omega)).bind fun x dK _ he1 hl1=>⟨trivial,he1,by simp;omega⟩
     ·split
      ·rename_i h
       have her:=he.tail (iE h)
       exact(uw _ d her).bind fun _ dK _ he1 hl1=>(iQ _ he1).bind fun _ kQ _ he2 hl2=>⟨trivial,he2,by simp;omega⟩
      ·split
       ·rename_i h;exact⟨trivial,he.tail (by rw [h];decide),by simp⟩
       ·refine(uy he).bind fun nm dK _ he1 hl1=>?_
        simp only [List.length_cons] at hl1
        split
        ·exact(uw _ d he1).bind fun _ kQ _ he2 hl2=>(ih.args (d+1) true kQ he2 (by omega)).bind fun a ZE _ he3 hl3=>(iQ _ he3).bind fun _ ZF _ he4 hl4=>⟨trivial,he4,by simp;omega⟩
        ·exact⟨trivial,he1,by simp;omega⟩
   ·unfold gB
    split
    ·exact⟨trivial,he,Nat.lt_succ_self _⟩
    ·have h1:Gd An (if f=true then Re.ok () ts else bn [44] ts) (ts.length+1):=by
      split
      ·exact⟨trivial,he,Nat.lt_succ_self _⟩
      ·exact(iQ _ he).mono (Nat.le_succ _)
     exact h1.bind fun _ dK _ he1 hl1=>(ih.expr d 1 dK he1 (by omega)).bind fun x kQ _ he2 hl2=>(ih.args d false kQ he2 (by omega)).bind fun xs ZE _ he3 hl3=>⟨trivial,he3,by omega⟩
structure AllS (n:Nat):Prop where
 block:∀d ts,bg ts→10*ts.length+10≤n→Gd An (fB n d ts) ts.length
 stmts:∀d ts,bg ts→10*ts.length+15≤n→Gd An (jf n d ts) (ts.length+1)
 branch:∀d l ts,bg ts→10*ts.length+12≤n→Gd An (jF n d l ts) ts.length
 ended:∀d ts,bg ts→10*ts.length+10≤n→Gd An (dJ n d ts) ts.length
 stmt:∀d ts,bg ts→10*ts.length+14≤n→Gd An (uX n d ts) ts.length
theorem ER:∀n,AllS n
 | 0=>⟨fun _ _ _ h=>by omega,fun _ _ _ h=>by omega,fun _ _ _ _ h=>by omega,fun _ _ _ h=>by omega,fun _ _ _ h=>by omega⟩
 | n+1=>by
   have ih:=ER n
   have ie:=sU n
   refine⟨fun d ts he hn=>?_,fun d ts he hn=>?_,fun d l ts he hn=>?_,fun d ts he hn=>?_,fun d ts he hn=>?_⟩
   ·unfold fB
    exact(uw _ d he).bind fun _ dK _ he1 hl1=>(ih.stmts (d+1) dK he1 (by omega)).bind fun l kQ _ he2 hl2=>(iQ _ he2).bind fun _ ZE _ he3 hl3=>⟨trivial,he3,by omega⟩
   ·unfold jf
    split
    ·exact⟨trivial,he,Nat.lt_succ_self _⟩
    ·exact(ih.stmt d ts he (by omega)).bind fun x dK _ he1 hl1=>(ih.stmts d dK he1 (by omega)).bind fun l kQ _ he2 hl2=>⟨trivial,he2,by omega⟩
   ·unfold jF
    refine(ie.expr d 1 ts he (by omega)).bind fun c dK _ he1 hl1=>(ih.block d dK he1 (by omega)).bind fun th kQ _ he2 hl2=>?_
    split
    ·rename_i h
     obtain⟨he3,hl3⟩:=iZ he2 h
     split
     ·rename_i h2
      obtain⟨he4,hl4⟩:=iZ he3 h2
      exact(ih.branch d _ _ he4 (by omega)).bind fun b ES _ Ws hl5=>⟨trivial,Ws,by omega⟩
     ·exact(ih.block d _ he3 (by omega)).bind fun b ES _ Ws hl5=>⟨trivial,Ws,by omega⟩
    ·exact⟨trivial,he2,by omega⟩
   ·unfold dJ
    exact(ie.expr d 1 ts he (by omega)).bind fun x dK _ he1 hl1=>(iQ _ he1).bind fun _ kQ _ he2 hl2=>⟨trivial,he2,by omega⟩
   ·obtain⟨t,r,rfl⟩:=he.ne
    unfold uX
    simp only [List.length_cons] at hn
    split
    ·rename_i h
     have her:=he.tail (iE h)
     refine(uy her).bind fun nm dK _ he1 hl1=>?_
     have h2:bg (if bV je dK=true then dK.tail else dK)∧(if bV je dK=true then dK.tail else dK).length≤dK.length:=by
      split
      ·rename_i h2
       obtain⟨a,b⟩:=iZ he1 h2
       exact⟨a,by omega⟩
      ·exact⟨he1,Nat.le_refl _⟩
     simp only
     generalize (if bV je dK=true then dK.tail else dK)=kQ at h2
     split
     ·rename_i h3
      obtain⟨he3,hl3⟩:=iZ h2.1 h3
      exact(ih.ended d _ he3 (by omega)).bind fun x ZF _ he4 hl4=>⟨trivial,he4,by simp;omega⟩
     ·exact(iQ _ h2.1).bind fun _ ZF _ he4 hl4=>⟨trivial,he4,by simp;omega⟩
    ·split
     ·rename_i h;exact(ih.branch d _ r (he.tail (iE h)) (by omega)).mono (by simp)
     ·split
      ·rename_i h
       exact(ie.expr d 1 r (he.tail (iE h)) (by omega)).bind fun c dK _ he1 hl1=>(ih.block d dK he1 (by omega)).bind fun th kQ _ he2 hl2=>⟨trivial,he2,by simp;omega⟩
      ·split
       ·rename_i h
        exact(ih.ended d r (he.tail (iE h)) (by omega)).bind fun x dK _ he1 hl1=>⟨trivial,he1,by simp;omega⟩
       ·split
        ·rename_i h
         exact(ih.ended d r (he.tail (iE h)) (by omega)).bind fun x dK _ he1 hl1=>⟨trivial,he1,by simp;omega⟩
        ·split
         ·rename_i h
          exact(iQ _ (he.tail (iE h))).bind fun _ dK _ he1 hl1=>⟨trivial,he1,by simp;omega⟩
         ·split
          ·rename_i h
           have her:=he.tail (iE h)
           split
           ·rename_i h2
            obtain⟨he2,hl2⟩:=iZ her h2
            exact⟨trivial,he2,by simp;omega⟩
           ·exact(ih.ended d r her (by omega)).bind fun x dK _ he1 hl1=>⟨trivial,he1,by simp;omega⟩
          ·refine(ie.post d _ he (by simp only [List.length_cons];omega)).bind fun x dK hx he1 hl1=>?_
           cases x with
           | nil=>exact hx.elim
           | ex k n' nm tx l r' a ln=>
             simp only
             split
             ·rename_i h2
              obtain⟨he2,hl2⟩:=iZ he1 h2
              simp only [List.length_cons] at hl1
              split
              ·exact(ih.ended d _ he2 (by omega)).bind fun y kQ _ he3 hl3=>⟨trivial,he3,by simp;omega⟩
              ·split
               ·exact(ih.ended d _ he2 (by omega)).bind fun y kQ _ he3 hl3=>⟨trivial,he3,by simp;omega⟩
               ·trivial
             ·split
              ·exact(iQ _ he1).bind fun _ kQ _ he2 hl2=>⟨trivial,he2,by omega⟩
              ·trivial
theorem uz:∀(n:Nat) (f:Bool) (ts:List Tok),bg ts→ts.length+1≤n→Gd An (eu n f ts) (ts.length+1)
 | 0,_,_,_,h=>by omega
 | n+1,f,ts,he,hn=>by
   unfold eu
   split
   ·exact⟨trivial,he,Nat.lt_succ_self _⟩
   ·have h1:Gd An (if f=true then Re.ok () ts else bn [44] ts) (ts.length+1):=by
     split
     ·exact⟨trivial,he,Nat.lt_succ_self _⟩
     ·exact(iQ _ he).mono (Nat.le_succ _)
    refine h1.bind fun _ dK _ he1 hl1=>(uy he1).bind fun nm kQ _ he2 hl2=>?_
    have h2:bg (if bV je kQ=true then kQ.tail else kQ)∧(if bV je kQ=true then kQ.tail else kQ).length≤kQ.length:=by
     split
     ·rename_i h2
      obtain⟨a,b⟩:=iZ he2 h2
      exact⟨a,by omega⟩
     ·exact⟨he2,Nat.le_refl _⟩
    simp only
    generalize (if bV je kQ=true then kQ.tail else kQ)=ZE at h2
    exact(uz n false ZE h2.1 (by omega)).bind fun l ZF _ he4 hl4=>⟨trivial,he4,by omega⟩
theorem PK (n:Nat)(ts:List Tok)(he:bg ts)(hn:10*ts.length+10≤n):Gd An (Au n ts) ts.length:=by
 unfold Au
 refine(iQ _ he).bind fun _ dK _ he1 hl1=>(uy he1).bind fun nm kQ _ he2 hl2=>(uw _ 0 he2).bind fun _ ZE _ he3 hl3=>(uz n true ZE he3 (by omega)).bind fun ps ZF _ he4 hl4=>(iQ _ he4).bind fun _ ES _ Ws hl5=>?_
 have h2:bg (if bV je ES=true then ES.tail else ES)∧(if bV je ES=true then ES.tail else ES).length≤ES.length:=by
  split
  ·rename_i h2
   obtain⟨a,b⟩:=iZ Ws h2
   exact⟨a,by omega⟩
  ·exact⟨Ws,Nat.le_refl _⟩
 simp only
 generalize (if bV je ES=true then ES.tail else ES)=ts6 at h2
 exact((ER n).block 0 ts6 h2.1 (by omega)).bind fun b ts7 _ he7 hl7=>⟨trivial,he7,by omega⟩
theorem KX:∀(n:Nat) (ts:List Tok),bg ts→10*ts.length+11≤n→Gd An (iK n ts) (ts.length+1)
 | 0,_,_,h=>by omega
 | n+1,ts,he,hn=>by
   obtain⟨t,r,rfl⟩:=he.ne
   unfold iK
   split
   ·exact⟨trivial,he,Nat.lt_succ_self _⟩
   ·simp only [List.length_cons] at hn
    exact(PK n _ he (by simp only [List.length_cons];omega)).bind fun f dK _ he1 hl1=>(KX n dK he1 (by simp only [List.length_cons] at hl1;omega)).bind fun l kQ _ he2 hl2=>⟨trivial,he2,by omega⟩
end Go.bK.YtobmjhfgmhfocaaGreatDoor
namespace Go.bK.YtobmjhfgmhfocaaGreatDoor
open Go.Proofs
set_option maxRecDepth 4000
mutual
def dw (S:Nat→Prop)(σ:St)(v:AV):Tr→Prop
 | .nil=>v= .p0
 | .ex k n name text l r args line=>∃(o g:Nat) (L R A:AV),S o∧v= .p o g 0∧σ[o]? =some ⟨g,false,.cells 56 [.i .i64 k,.i .u32 n,.s name,.s text,L,R,A,.i .i64 line]⟩∧dw S σ L l∧dw S σ R r∧pO S σ A args
def pO (S:Nat→Prop)(σ:St)(v:AV):Gy→Prop
 | .nil=>v= .sl0
 | .cons t r=>∃(o g:Nat) (cs:List AV),S o∧v= .sl o g 0 cs.length 1∧σ[o]? =some ⟨g,false,.cells 52 cs⟩∧∃a tl,cs=a :: tl∧dw S σ a t∧zJ S σ tl r
def zJ (S:Nat→Prop)(σ:St)(cs:List AV):Gy→Prop
 | .nil=>cs=[]
 | .cons t r=>∃a tl,cs=a :: tl∧dw S σ a t∧zJ S σ tl r
end
mutual
theorem dw.mono {S S':Nat→Prop} {σ σ':St} (h1:∀o,S o→S' o)(h2:∀o,S o→∀a,σ[o]? =some a→σ'[o]? =some a):∀{t:Tr} {v:AV},dw S σ v t→dw S' σ' v t
 | .nil,v,h=>h
 | .ex k n name text l r args line,v,h=>by
   obtain⟨o,g,L,R,A,hs,hv,ho,hl,hr,ha⟩:=h
   exact⟨o,g,L,R,A,h1 o hs,hv,h2 o hs _ ho,dw.mono h1 h2 hl,dw.mono h1 h2 hr,pO.mono h1 h2 ha⟩
theorem pO.mono {S S':Nat→Prop} {σ σ':St} (h1:∀o,S o→S' o)(h2:∀o,S o→∀a,σ[o]? =some a→σ'[o]? =some a):∀{t:Gy} {v:AV},pO S σ v t→pO S' σ' v t
 | .nil,v,h=>h
 | .cons t r,v,h=>by
   obtain⟨o,g,cs,hs,hv,ho,a,tl,hc,hx,hl⟩:=h
   exact⟨o,g,cs,h1 o hs,hv,h2 o hs _ ho,a,tl,hc,dw.mono h1 h2 hx,zJ.mono h1 h2 hl⟩
theorem zJ.mono {S S':Nat→Prop} {σ σ':St} (h1:∀o,S o→S' o)(h2:∀o,S o→∀a,σ[o]? =some a→σ'[o]? =some a):∀{t:Gy} {cs:List AV},zJ S σ cs t→zJ S' σ' cs t
 | .nil,cs,h=>h
 | .cons t r,cs,h=>by
   obtain⟨a,tl,hc,h3,h4⟩:=h
   exact⟨a,tl,hc,dw.mono h1 h2 h3,zJ.mono h1 h2 h4⟩
end
mutual
theorem dw.below {S:Nat→Prop} {σ:St} :∀{t:Tr} {v:AV},dw S σ v t→dw (fun o=>S o∧o<σ.length) σ v t
 | .nil,v,h=>h
 | .ex k n name text l r args line,v,h=>by
   obtain⟨o,g,L,R,A,hs,hv,ho,hl,hr,ha⟩:=h
   exact⟨o,g,L,R,A,⟨hs,bQ ho⟩,hv,ho,dw.below hl,dw.below hr,pO.below ha⟩
theorem pO.below {S:Nat→Prop} {σ:St} :∀{t:Gy} {v:AV},pO S σ v t→pO (fun o=>S o∧o<σ.length) σ v t
 | .nil,v,h=>h
 | .cons t r,v,h=>by
   obtain⟨o,g,cs,hs,hv,ho,a,tl,hc,hx,hl⟩:=h
   exact⟨o,g,cs,⟨hs,bQ ho⟩,hv,ho,a,tl,hc,dw.below hx,zJ.below hl⟩
theorem zJ.below {S:Nat→Prop} {σ:St} :∀{t:Gy} {cs:List AV},zJ S σ cs t→zJ (fun o=>S o∧o<σ.length) σ cs t
 | .nil,cs,h=>h
 | .cons t r,cs,h=>by
   obtain⟨a,tl,hc,h3,h4⟩:=h
   exact⟨a,tl,hc,dw.below h3,zJ.below h4⟩
end
structure aS (p:Nat)(σ σ':St):Prop where
 len:σ.length≤σ'.length
 old:∀i,i<σ.length→i≠p→σ'[i]? =σ[i]?
theorem aS.refl (p:Nat)(σ:St):aS p σ σ:=⟨Nat.le_refl _,fun _ _ _=>rfl⟩
theorem aS.trans {p:Nat} {a b c:St} (h:aS p a b)(k:aS p b c):aS p a c:=
 ⟨Nat.le_trans h.len k.len,fun i hi hp=>by rw [k.old i (Nat.lt_of_lt_of_le hi h.len) hp,h.old i hi hp]⟩
theorem aS.of {p:Nat} {a b:St} (h:Ext a b):aS p a b:=⟨h.len,fun i hi _=>h.old i hi⟩
theorem aS.new {p:Nat} {a b:St} (h:aS p a b)(e:Nat)(cs:List AV):aS p a (au e cs b):=h.trans (.of ((Ext.refl b).new e cs))
theorem aS.zK {p:Nat} {a b:St} (h:aS p a b)(x:AO):aS p a (b.set p x):=
 ⟨by rw [List.length_set];exact h.len,fun i hi hp=>by rw [List.getElem?_set_ne (fun e=>hp e.symm)];exact h.old i hi hp⟩
theorem aS.set {p:Nat} {a b:St} (h:aS p a b) {o:Nat} (ho:a.length≤o)(x:AO):aS p a (b.set o x):=
 ⟨by rw [List.length_set];exact h.len,fun i hi hp=>by rw [List.getElem?_set_ne (fun e=>by omega)];exact h.old i hi hp⟩
theorem aS.get {p:Nat} {σ σ':St} (h:aS p σ σ') {o:Nat} {a:AO} (hp:o≠p)(ho:σ[o]? =some a):σ'[o]? =some a:=by rw [h.old o (bQ ho) hp];exact ho
theorem aS.take {p:Nat} {σ σ':St} (h:aS p σ σ') {n:Nat} (hp:n≤p)(hn:n≤σ.length):σ'.take n=σ.take n:=by
 apply List.ext_getElem?
 intro i
 rw [List.getElem?_take,List.getElem?_take]
 split
 ·exact h.old i (by omega) (by omega)
 ·rfl
end Go.bK.YtobmjhfgmhfocaaGreatDoor
namespace Go.bK.YtobmjhfgmhfocaaGreatDoor
open Go.Proofs
set_option maxRecDepth 4000
def parV (w g n m d:Nat)(b:Bool)(c l:Nat):List AV:=[.sl w g 0 n 3,.i .i64 m,.i .i64 d,.b b,.i .i64 c,.i .i64 l]
structure PO (p w g:Nat)(all:List Tok)(σ:St)(m d:Nat)(b:Bool)(c l:Nat):Prop where
 obj:σ[p]? =some ⟨0,false,.cells 81 (parV w g all.length m d b c l)⟩
 tok:σ[w]? =some ⟨g,false,.cells 44 (dW all)⟩
 ne:w≠p
 len:all.length≤40000
 at_:m<all.length
 dp:d≤1000
theorem Ed:∀(all:List Tok) (m:Nat) (t:Tok),all[m]? =some t→((dW all).drop (m*3)).take 3=sN t.k t.s t.l
 | x :: l,0,t,h=>by cases h;simp [dW,sN]
 | x :: l,m+1,t,h=>by
   have e:dW (x :: l)=sN x.k x.s x.l ++ dW l:=rfl
   rw [e,show (m+1)*3=3+m*3 by omega,←List.drop_drop,List.drop_left' (by rfl)]
   exact Ed l m t h
def gW (s:List UInt8)(t:Tok):Bool:=(t.k == 4 || t.k == 3) && t.s == s
def pSet (p w g n:Nat)(σ:St)(m d:Nat)(b:Bool)(c l:Nat):St:=σ.set p ⟨0,false,.cells 81 (parV w g n m d b c l)⟩
theorem PO.set {p w g m d:Nat} {b:Bool} {c l:Nat} {all:List Tok} {σ:St} (h:PO p w g all σ m d b c l) {m' d':Nat} {b':Bool} {c' l':Nat} (hm:m'< all.length)(hd:d'≤1000):PO p w g all (pSet p w g all.length σ m' d' b' c' l') m' d' b' c' l':=
 ⟨at_set h.obj _,aP h.tok h.ne.symm _,h.ne,h.len,hm,hd⟩
end Go.bK.YtobmjhfgmhfocaaGreatDoor
namespace Go.bK.YtobmjhfgmhfocaaGreatDoor
open Go.Proofs
set_option maxRecDepth 4000
theorem yg {σ σ':St} {v:AV} {Q:AV→St→Prop} {p:Nat} {a b:AO} (ho:σ[p]? =some a)(ho':σ'[p]? =some b)(hab:a≠b)(q:Q v σ'):Fin σ v σ' Q:=Fin.ne (fun e=>by
 have h:=congrArg (fun l=>l[p]?) e
 simp only [List.getElem?_take,if_pos (bQ ho),ho,ho'] at h
 exact hab (Option.some.inj h).symm) q
theorem PG:∀(s:List UInt8) (n:Nat),n≤yh n s
 | [],n=>Nat.le_refl _
 | c :: s,n=>Nat.le_trans (show n≤10*n+(c.toNat - 48) by omega) (PG s _)
end Go.bK.YtobmjhfgmhfocaaGreatDoor
namespace Go.bK.YtobmjhfgmhfocaaGreatDoor
open Go.Proofs
set_option maxRecDepth 4000
theorem PO.new {p w g m d c l:Nat} {b:Bool} {all:List Tok} {σ:St} (h:PO p w g all σ m d b c l)(e:Nat)(cs:List AV):PO p w g all (au e cs σ) m d b c l:=⟨at_new h.obj _ _,at_new h.tok _ _,h.ne,h.len,h.at_,h.dp⟩
theorem PO.ext {p w g n m d c l:Nat} {b:Bool} {σ:St} :aS p σ (pSet p w g n σ m d b c l):=(aS.refl p σ).zK _
end Go.bK.YtobmjhfgmhfocaaGreatDoor
namespace Go.bK.YtobmjhfgmhfocaaGreatDoor
open Go.Proofs
set_option maxRecDepth 4000
def PE (p w g:Nat)(all:List Tok)(σ:St)(d:Nat)(Q:AV→St→Prop):Re Tr→Prop
 | .ok t ts=>∀o g' σ' m' c l,aS p σ σ'→PO p w g all σ' m' d false c l→all.drop m'= ts→dw (fun i=>σ.length≤i) σ' (.p o g' 0) t→Q (.p o g' 0) σ'
 | .bad c l=>∀o g' σ' m',aS p σ σ'→PO p w g all σ' m' d true c l→Q (.p o g' 0) σ'
 | .out=>True
theorem bZ {all:List Tok} {m:Nat} {t:Tok} {r:List Tok} (h:all.drop m=t :: r):all[m]? =some t∧all.drop (m+1)=r:=by
 constructor
 ·have:=congrArg List.head? h
  rw [List.head?_drop] at this;exact this
 ·rw [←List.tail_drop,h];rfl
theorem sQ {all:List Tok} {m:Nat} (h:bg (all.drop m)):m<all.length:=by
 rcases Nat.lt_or_ge m all.length with hl | hl
 ·exact hl
 ·rw [List.drop_of_length_le hl] at h;exact h.elim
def PL (k j:Nat)(p w g:Nat)(all:List Tok)(B:Nat)(σ:St)(d:Nat)(Q:Out→Env→St→Prop):Re Tr→Prop
 | .ok t ts=>∀o g' σ' m' c l e',get e' k= .p o g' 0→aS p σ σ'→PO p w g all σ' m' d false c l→all.drop m'= ts→dw (fun i=>B≤i) σ' (.p o g' 0) t→Q .ret e' σ'
 | .bad c l=>∀o g' σ' m' e',get e' j= .p o g' 0→get e' 1000000= .u→aS p σ σ'→PO p w g all σ' m' d true c l→Q (.exit 0) e' σ'
 | .out=>True
section
variable {p w g:Nat} {all:List Tok} {n:Nat}
theorem aZ {s:List UInt8} {m:Nat} {t:Tok} {r:List Tok} (he:bg (all.drop m))(hts:all.drop m=t :: r)(hi:gW s t=true):m+1<all.length∧bg (all.drop (m+1))∧(all.drop (m+1)).length<(all.drop m).length:=by
 have h1:=iZ (s:=s) he (by rw [hts];exact hi)
 rw [hts] at h1
 have e:all.drop (m+1)=r:=(bZ hts).2
 have h2:bg (all.drop (m+1)):=by rw [e];exact h1.1
 exact⟨sQ h2,h2,by rw [e,hts];simp⟩
end
end Go.bK.YtobmjhfgmhfocaaGreatDoor
namespace Go.bK.YtobmjhfgmhfocaaGreatDoor
open Go.Proofs
set_option maxRecDepth 4000
theorem PE.to {p w g d:Nat} {all:List Tok} {σ σ1:St} {Q Q':AV→St→Prop} {r:Re Tr} (hQ:PE p w g all σ d Q r)(x1:aS p σ σ1)(k:∀o g' s,Q (.p o g' 0) s→Q' (.p o g' 0) s):PE p w g all σ1 d Q' r:=by
 cases r with
 | out=>trivial
 | bad c l=>exact fun o g' σ2 m2 x2 h2=>k _ _ _ (hQ o g' σ2 m2 (x1.trans x2) h2)
 | ok x ts=>exact fun o g' σ2 m2 c2 l2 x2 h2 hm hex=>k _ _ _ (hQ o g' σ2 m2 c2 l2 (x1.trans x2) h2 hm (dw.mono (fun i hi=>Nat.le_trans x1.len hi) (fun i hi a ha=>ha) hex))
def Ee (all:List Tok):Prop:=∀z∈all,z.k=2→(∀c∈z.s,48≤c.toNat∧c.toNat≤57)∧yh 0 z.s<4294967296∧z.s.length≤100000
section
variable {p w g:Nat} {all:List Tok} {n:Nat}
end
end Go.bK.YtobmjhfgmhfocaaGreatDoor
namespace Go.bK.YtobmjhfgmhfocaaGreatDoor
open Go.Proofs
set_option maxRecDepth 4000
section
variable {p w g:Nat} {all:List Tok} {n:Nat}
theorem PL.ext {k j B d:Nat} {σ σ1:St} {Q:Out→Env→St→Prop} {r:Re Tr} (hQ:PL k j p w g all B σ d Q r)(x1:aS p σ σ1):PL k j p w g all B σ1 d Q r:=by
 cases r with
 | out=>trivial
 | bad c l=>exact fun o g' σ2 m2 e' q1 q2 x2 h2=>hQ o g' σ2 m2 e' q1 q2 (x1.trans x2) h2
 | ok x ts=>exact fun o g' σ2 m2 c2 l2 e' q1 x2 h2 hm hex=>hQ o g' σ2 m2 c2 l2 e' q1 (x1.trans x2) h2 hm hex
theorem dw.ext {B:Nat} {σ σ1:St} {v:AV} {x:Tr} (h:dw (fun i=>B≤i) σ v x)(x1:aS p σ σ1)(hp:p<B):dw (fun i=>B≤i) σ1 v x:=dw.mono (fun i hi=>hi) (fun i hi a ha=>x1.get (by omega) ha) h
theorem PE.toPL {k j d:Nat} {σ σ1:St} {Q:AV→St→Prop} {Q':Out→Env→St→Prop} {r:Re Tr} (hQ:PE p w g all σ d Q r)(x1:aS p σ σ1)(kr:∀o g' s e',get e' k= .p o g' 0→Q (.p o g' 0) s→Q' .ret e' s)
 (kx:∀o g' s e',get e' j= .p o g' 0→get e' 1000000= .u→Q (.p o g' 0) s→Q' (.exit 0) e' s):PL k j p w g all σ.length σ1 d Q' r:=by
 cases r with
 | out=>trivial
 | bad c l=>exact fun o g' σ2 m2 e' q1 q2 x2 h2=>kx _ _ _ _ q1 q2 (hQ o g' σ2 m2 (x1.trans x2) h2)
 | ok x ts=>exact fun o g' σ2 m2 c2 l2 e' q1 x2 h2 hm hex=>kr _ _ _ _ q1 (hQ o g' σ2 m2 c2 l2 (x1.trans x2) h2 hm hex)
end
end Go.bK.YtobmjhfgmhfocaaGreatDoor
namespace Go.bK.YtobmjhfgmhfocaaGreatDoor
open Go.Proofs
set_option maxRecDepth 4000
theorem Rh (s:List UInt8):jI s≤6:=by
 unfold jI
 repeat' split
 all_goals omega
section
variable {p w g:Nat} {all:List Tok} {n:Nat}
end
end Go.bK.YtobmjhfgmhfocaaGreatDoor
namespace Go.bK.YtobmjhfgmhfocaaGreatDoor
open Go.Proofs
set_option maxRecDepth 4000
def Gz (B:Nat)(σ:St)(v:AV)(cs:List AV):Prop:=(cs=[]∧v= .sl0)∨∃o g,B≤o∧v= .sl o g 0 cs.length 1∧σ[o]? =some ⟨g,false,.cells 52 cs⟩∧cs≠[]
def apart (v:AV)(i:Nat):Prop:=∀o g n z,v= .sl o g 0 n z→i≠o
theorem ZC {B:Nat} {σ:St} {v:AV} {cs:List AV} (h:Gz B σ v cs) {oy gy:Nat} (hcs:cs.all AV.one=true)(hl:cs.length≤100000) {C:Nat} (hC:σ[C]? =some ⟨0,false,.cells 52 [.p oy gy 0]⟩)(hB:B≤σ.length) {Q:AV→St→Prop}
 (q:∀v' σ',Gz B σ' v' (cs ++ [.p oy gy 0])→σ.length≤σ'.length→(∀i,i<σ.length→apart v i→σ'[i]? =σ[i]?∧apart v' i)→(∀i,i<B→σ'[i]? =σ[i]?)→(∀i,σ'.length≤i→apart v' i)→Q v' σ') :
 EL fK.get false 54 v (.sl C 0 0 1 1) σ Q:=by
 constructor
 refine ak (v:=yY) rfl ?_
 refine ak (v:=bY) rfl ?_
 refine ak (jS hC (Nat.le_of_ble_eq_true rfl)) ?_
 rcases h with ⟨rfl,rfl⟩ | ⟨o,g,h1,rfl,h3,_⟩
 ·refine⟨Nat.le_of_ble_eq_true rfl,?_⟩
  refine q _ _ (.inr ⟨σ.length,0,hB,rfl,?_,by simp⟩) (by rw [aO];omega) (fun i hi _=>⟨d_ hi,fun o g n z e=>by cases e;omega⟩) (fun i hi=>d_ (by omega)) (fun i hi o g n z e=>by cases e;rw [aO] at hi;omega)
  rw [aI];rfl
 ·refine ak (pG h3) ?_
  refine⟨rfl,by simp,?_,by rw [List.drop_zero,List.take_of_length_le (by omega)];exact hcs,?_⟩
  ·show (cs.length+1)*8≤_;omega
  refine q _ _ (.inr ⟨o,g+1,h1,by simp,?_,by simp⟩) (by rw [List.length_set];exact Nat.le_refl _) (fun i hi ha=>⟨by rw [List.getElem?_set_ne (fun e=>ha o g _ _ rfl e.symm)],fun o' g' n z e=>by cases e;exact ha o g _ _ rfl⟩) (fun i hi=>by rw [List.getElem?_set_ne (by omega)]) (fun i hi o' g' n z e=>by cases e;rw [List.length_set] at hi;have:=bQ h3;omega)
  rw [at_set h3]
  simp [List.take_of_length_le]
  rfl
def fF (S:Nat→Prop)(σ:St):List AV→List Tr→Prop
 | [],[]=>True
 | a :: cs,x :: xs=>(∃o g,a= .p o g 0)∧dw S σ a x∧fF S σ cs xs
 | _,_=>False
theorem fF.mono {S S':Nat→Prop} {σ σ':St} (h1:∀o,S o→S' o)(h2:∀o,S o→∀a,σ[o]? =some a→σ'[o]? =some a):∀{cs:List AV} {xs:List Tr},fF S σ cs xs→fF S' σ' cs xs
 | [],[],_=>trivial
 | a :: cs,x :: xs,h=>⟨h.1,dw.mono h1 h2 h.2.1,fF.mono h1 h2 h.2.2⟩
theorem fF.snoc {S:Nat→Prop} {σ:St} :∀{cs:List AV} {xs:List Tr} {a:AV} {x:Tr},fF S σ cs xs→(∃o g,a= .p o g 0)→dw S σ a x→fF S σ (cs ++ [a]) (xs ++ [x])
 | [],[],a,x,_,ha,hx=>⟨ha,hx,trivial⟩
 | b :: cs,y :: xs,a,x,h,ha,hx=>⟨h.1,h.2.1,fF.snoc h.2.2 ha hx⟩
theorem fF.len {S:Nat→Prop} {σ:St} :∀{cs:List AV} {xs:List Tr},fF S σ cs xs→cs.length=xs.length
 | [],[],_=>rfl
 | a :: cs,x :: xs,h=>by have:=fF.len h.2.2;simp [this]
theorem fF.one {S:Nat→Prop} {σ:St} :∀{cs:List AV} {xs:List Tr},fF S σ cs xs→cs.all AV.one=true
 | [],[],_=>rfl
 | a :: cs,x :: xs,h=>by
   obtain⟨o,g,rfl⟩:=h.1
   rw [List.all_cons,fF.one h.2.2];rfl
def KU:List Tr→Gy
 | []=>.nil
 | x :: xs=>.cons x (KU xs)
def Ar:Gy→List Tr
 | .nil=>[]
 | .cons x xs=>x :: Ar xs
theorem to_of:∀xs:Gy,KU (Ar xs)=xs
 | .nil=>rfl
 | .cons x xs=>by show Gy.cons x (KU (Ar xs))=_;rw [to_of xs]
theorem fF.argL {S:Nat→Prop} {σ:St} :∀{cs:List AV} {xs:List Tr},fF S σ cs xs→zJ S σ cs (KU xs)
 | [],[],_=>rfl
 | a :: cs,x :: xs,h=>⟨a,cs,rfl,h.2.1,fF.argL h.2.2⟩
def pR (B:Nat)(σ:St)(v:AV)(xs:List Tr):Prop:=∃cs,Gz B σ v cs∧fF (fun i=>B≤i∧apart v i) σ cs xs
theorem pR.arg {B:Nat} {σ:St} {v:AV} {xs:List Tr} (h:pR B σ v xs):pO (fun i=>B≤i) σ v (KU xs):=by
 obtain⟨cs,h1,h2'⟩:=h
 have h2:fF (fun i=>B≤i) σ cs xs:=h2'.mono (fun i hi=>hi.1) (fun i hi a ha=>ha)
 rcases h1 with ⟨rfl,rfl⟩ | ⟨o,g,q1,rfl,q3,q4⟩
 ·cases xs with
  | nil=>rfl
  | cons _ _=>exact h2.elim
 ·cases cs with
  | nil=>
    cases xs with
    | nil=>exact(q4 rfl).elim
    | cons _ _=>exact h2.elim
  | cons a cs=>
    cases xs with
    | nil=>exact h2.elim
    | cons x xs=>exact⟨o,g,a :: cs,q1,rfl,q3,a,cs,rfl,h2.2.1,h2.2.2.argL⟩
end Go.bK.YtobmjhfgmhfocaaGreatDoor
namespace Go.bK.YtobmjhfgmhfocaaGreatDoor
open Go.Proofs
set_option maxRecDepth 4000
structure EP (p B:Nat)(σ σ':St):Prop where
 len:σ.length≤σ'.length
 old:∀i,i<B→i≠p→σ'[i]? =σ[i]?
theorem EP.refl (p B:Nat)(σ:St):EP p B σ σ:=⟨Nat.le_refl _,fun _ _ _=>rfl⟩
theorem EP.trans {p B:Nat} {a b c:St} (h:EP p B a b)(k:EP p B b c):EP p B a c:=⟨Nat.le_trans h.len k.len,fun i hi hp=>by rw [k.old i hi hp,h.old i hi hp]⟩
theorem EP.of {p B:Nat} {a b:St} (h:aS p a b)(hB:B≤a.length):EP p B a b:=⟨h.len,fun i hi hp=>h.old i (by omega) hp⟩
def I5 (v:AV):Prop:=v= .sl0∨∃o g n,v= .sl o g 0 n 1
section
variable {p w g:Nat} {all:List Tok} {n:Nat}
theorem Gz.sl {B:Nat} {σ:St} {v:AV} {cs:List AV} (h:Gz B σ v cs):I5 v:=by
 rcases h with ⟨_,rfl⟩ | ⟨o,g,_,rfl,_⟩
 ·exact .inl rfl
 ·exact .inr ⟨_,_,_,rfl⟩
theorem PO.keep {m d c l:Nat} {b:Bool} {σ σ':St} (h:PO p w g all σ m d b c l)(h1:σ'[p]? =σ[p]?)(h2:σ'[w]? =σ[w]?):PO p w g all σ' m d b c l:=⟨h1.trans h.obj,h2.trans h.tok,h.ne,h.len,h.at_,h.dp⟩
theorem fF.below {S:Nat→Prop} {σ:St} :∀{cs:List AV} {xs:List Tr},fF S σ cs xs→fF (fun o=>S o∧o<σ.length) σ cs xs
 | [],[],_=>trivial
 | a :: cs,x :: xs,h=>⟨h.1,h.2.1.below,h.2.2.below⟩
end
end Go.bK.YtobmjhfgmhfocaaGreatDoor
namespace Go.bK.YtobmjhfgmhfocaaGreatDoor
open Go.Proofs
set_option maxRecDepth 4000
section
variable {p w g:Nat} {all:List Tok} {n:Nat}
end
end Go.bK.YtobmjhfgmhfocaaGreatDoor
namespace Go.bK.YtobmjhfgmhfocaaGreatDoor
open Go.Proofs
end Go.bK.YtobmjhfgmhfocaaGreatDoor
namespace Go.bK.YtobmjhfgmhfocaaGreatDoor
open Go.Proofs
set_option maxRecDepth 4000
section
variable {p w g:Nat} {all:List Tok} {n:Nat}
end
end Go.bK.YtobmjhfgmhfocaaGreatDoor
