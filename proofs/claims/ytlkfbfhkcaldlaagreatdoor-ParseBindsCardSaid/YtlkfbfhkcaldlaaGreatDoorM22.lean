/- Texts of this claim, joined: Sp, Sq, Sw, Rp, Ra, Rb, Rc, Rd1, Rd2, Rd3, Rd4, Rd5, Rd6, Rd7, Rd8, Re1. -/
import Derived.Test.YtlkfbfhkcaldlaaGreatDoorM20
import Derived.Test.YtlkfbfhkcaldlaaGreatDoorM21
set_option linter.unusedVariables false
set_option linter.unusedSimpArgs false
namespace Go.Abs.YtlkfbfhkcaldlaaGreatDoor
mutual
inductive Tr where
 | nil
 | ex (k n:Nat) (name text:List UInt8) (l r:Tr) (args:jA) (line:Nat)
inductive jA where
 | nil
 | cons (t:Tr) (r:jA)
end
mutual
inductive Sm where
 | st (k:Nat) (name:List UInt8) (ptr:Bool) (l r:Tr) (th el:gY) (line:Nat)
inductive gY where
 | nil
 | cons (s:Sm) (r:gY)
end
structure Fm where
 name:List UInt8
 params:List (List UInt8×Bool)
 ptr:Bool
 body:gY
 line:Nat
inductive Re (α:Type) where
 | ok (a:α) (ts:List Tok)
 | bad (c l:Nat)
 | out
def Re.bind {α β:Type} (r:Re α)(f:α→List Tok→Re β):Re β:=match r with
 | .ok a ts=>f a ts
 | .bad c l=>.bad c l
 | .out=>.out
def aY (s:List UInt8):List Tok→Bool
 | t :: _=>(t.k == 4 || t.k == 3) && t.s == s
 | []=>false
def kW:List Tok→Nat
 | t :: _=>t.l
 | []=>0
def aQ (s:List UInt8)(ts:List Tok):Re Unit:=if aY s ts=true then .ok () ts.tail else .bad 4 (kW ts)
def gV (s:List UInt8)(d:Nat)(ts:List Tok):Re Unit:=if aY s ts=true∧64≤d then .bad 3 (kW ts) else aQ s ts
def fA (ts:List Tok):Re (List UInt8):=match ts with
 | t :: r=>if t.k=1 then .ok t.s r else .bad 4 t.l
 | []=>.out
def aF (s:List UInt8):Nat:=
 if s=[124,124] then 1 else if s=[38,38] then 2 else if s=[61,61]∨s=[33,61] then 3
 else if s=[60]∨s=[60,61]∨s=[62]∨s=[62,61] then 4
 else if s=[43]∨s=[45]∨s=[124]∨s=[94] then 5
 else if s=[42]∨s=[47]∨s=[37]∨s=[38]∨s=[60,60]∨s=[62,62] then 6 else 0
def lD:Nat→List UInt8→Nat
 | n,[]=>n
 | n,c :: l=>lD (10*n+(c.toNat - 48)) l
def qF:List UInt8:=[110,101,119]
def FM:List UInt8:=[105,110]
def jJ:List UInt8:=[101,108,115,101]
def I7:List UInt8:=[105,102]
def Et:List UInt8:=[118,97,114]
def dA:List UInt8:=[112,116,114]
def ql:List UInt8:=[119,104,105,108,101]
def Eu:List UInt8:=[111,117,116]
def uy:List UInt8:=[102,114,101,101]
def oH:List UInt8:=[100,114,97,105,110]
def fD:List UInt8:=[114,101,116,117,114,110]
def pV:List UInt8:=[102,117,110,99]
def Am (t:Tok):Tr:=.ex 1 (lD 0 t.s) [] [] .nil .nil .nil t.l
def qG (nm:List UInt8)(l:Nat):Tr:=.ex 2 0 nm [] .nil .nil .nil l
mutual
def dn:Nat→Nat→Nat→List Tok→Re Tr
 | 0,_,_,_=>.out
 | n+1,d,c,ts=>(xP n d ts).bind fun x ts=>fZ n d c x ts
def fZ:Nat→Nat→Nat→Tr→List Tok→Re Tr
 | 0,_,_,_,_=>.out
 | _+1,_,_,_,[]=>.out
 | n+1,d,c,x,t :: r=>
   if t.k=3∧aF t.s≠0∧¬aF t.s<c then(dn n d (aF t.s+1) r).bind fun y ts=>fZ n d c (.ex 3 0 [] t.s x y .nil t.l) ts
   else .ok x (t :: r)
def xP:Nat→Nat→List Tok→Re Tr
 | 0,_,_=>.out
 | _+1,_,[]=>.out
 | n+1,d,t :: r=>
   if aY [33] (t :: r)=true∨aY [45] (t :: r)=true then
    if 64≤d then .bad 3 t.l else(xP n (d+1) r).bind fun x ts=>.ok (.ex 3 0 [] t.s .nil x .nil t.l) ts
   else gW n d (t :: r)
def gW:Nat→Nat→List Tok→Re Tr
 | 0,_,_=>.out
 | n+1,d,ts=>(dI n d ts).bind fun x ts=>dP n d x ts
def dP:Nat→Nat→Tr→List Tok→Re Tr
 | 0,_,_,_=>.out
 | _+1,_,_,[]=>.out
 | n+1,d,x,t :: r=>
   if aY [91] (t :: r)=true then(gI n d [91] [93] (t :: r)).bind fun y ts=>dP n d (.ex 5 0 [] [] x y .nil t.l) ts
   else if aY [58] (t :: r)=true then(h_ n d r).bind fun y ts=>dP n d (.ex 6 0 [] [] x y .nil t.l) ts
   else .ok x (t :: r)
def gI:Nat→Nat→List UInt8→List UInt8→List Tok→Re Tr
 | 0,_,_,_,_=>.out
 | n+1,d,a,b,ts=>(gV a d ts).bind fun _ ts=>(dn n (d+1) 1 ts).bind fun x ts=>(aQ b ts).bind fun _ ts=>.ok x ts
def h_:Nat→Nat→List Tok→Re Tr
 | 0,_,_=>.out
 | _+1,_,[]=>.out
 | n+1,d,t :: r=>
   if aY [40] (t :: r)=true then gI n d [40] [41] (t :: r)
   else if t.k=2 then .ok (Am t) r
   else(fA (t :: r)).bind fun nm ts=>.ok (qG nm t.l) ts
def dI:Nat→Nat→List Tok→Re Tr
 | 0,_,_=>.out
 | _+1,_,[]=>.out
 | n+1,d,t :: r=>
   if aY [40] (t :: r)=true then gI n d [40] [41] (t :: r)
   else if aY qF (t :: r)=true then(gI n d [40] [41] r).bind fun x ts=>.ok (.ex 7 0 [] [] x .nil .nil t.l) ts
   else if aY FM (t :: r)=true then(gV [40] d r).bind fun _ ts=>(aQ [41] ts).bind fun _ ts=>.ok (.ex 8 0 [] [] .nil .nil .nil t.l) ts
   else if t.k=2 then .ok (Am t) r
   else(fA (t :: r)).bind fun nm ts=>
    if aY [40] ts=true then(gV [40] d ts).bind fun _ ts=>(fG n (d+1) true ts).bind fun a ts=>(aQ [41] ts).bind fun _ ts=>.ok (.ex 4 0 nm [] .nil .nil a t.l) ts
    else .ok (qG nm t.l) ts
def fG:Nat→Nat→Bool→List Tok→Re jA
 | 0,_,_,_=>.out
 | n+1,d,first,ts=>
   if aY [41] ts=true then .ok .nil ts
   else(if first=true then .ok () ts else aQ [44] ts).bind fun _ ts=>(dn n d 1 ts).bind fun x ts=>(fG n d false ts).bind fun xs ts=>.ok (.cons x xs) ts
end
mutual
def dD:Nat→Nat→List Tok→Re gY
 | 0,_,_=>.out
 | n+1,d,ts=>(gV [123] d ts).bind fun _ ts=>(eG n (d+1) ts).bind fun l ts=>(aQ [125] ts).bind fun _ ts=>.ok l ts
def eG:Nat→Nat→List Tok→Re gY
 | 0,_,_=>.out
 | n+1,d,ts=>
   if aY [125] ts=true then .ok .nil ts
   else(fE n d ts).bind fun x ts=>(eG n d ts).bind fun l ts=>.ok (.cons x l) ts
def dQ:Nat→Nat→Nat→List Tok→Re Sm
 | 0,_,_,_=>.out
 | n+1,d,line,ts=>(dn n d 1 ts).bind fun c ts=>(dD n d ts).bind fun th ts=>
   if aY jJ ts=true then
    if aY I7 ts.tail=true then(dQ n d (kW ts.tail) ts.tail.tail).bind fun b ts=>.ok (.st 4 [] false .nil c th (.cons b .nil) line) ts
    else(dD n d ts.tail).bind fun el ts=>.ok (.st 4 [] false .nil c th el line) ts
   else .ok (.st 4 [] false .nil c th .nil line) ts
def bU:Nat→Nat→List Tok→Re Tr
 | 0,_,_=>.out
 | n+1,d,ts=>(dn n d 1 ts).bind fun x ts=>(aQ [59] ts).bind fun _ ts=>.ok x ts
def fE:Nat→Nat→List Tok→Re Sm
 | 0,_,_=>.out
 | _+1,_,[]=>.out
 | n+1,d,t :: r=>
   if aY Et (t :: r)=true then(fA r).bind fun nm ts=>
    let p:=aY dA ts
    let ts:=if p=true then ts.tail else ts
    if aY [61] ts=true then(bU n d ts.tail).bind fun x ts=>.ok (.st 1 nm p .nil x .nil .nil t.l) ts
    else(aQ [59] ts).bind fun _ ts=>.ok (.st 1 nm p .nil .nil .nil .nil t.l) ts
   else if aY I7 (t :: r)=true then dQ n d t.l r
   else if aY ql (t :: r)=true then(dn n d 1 r).bind fun c ts=>(dD n d ts).bind fun th ts=>.ok (.st 5 [] false .nil c th .nil t.l) ts
   else if aY Eu (t :: r)=true then(bU n d r).bind fun x ts=>.ok (.st 6 [] false .nil x .nil .nil t.l) ts
   else if aY uy (t :: r)=true then(bU n d r).bind fun x ts=>.ok (.st 7 [] false .nil x .nil .nil t.l) ts
   else if aY oH (t :: r)=true then(aQ [59] r).bind fun _ ts=>.ok (.st 8 [] false .nil .nil .nil .nil t.l) ts
   else if aY fD (t :: r)=true then
    if aY [59] r=true then .ok (.st 9 [] false .nil .nil .nil .nil t.l) r.tail
    else(bU n d r).bind fun x ts=>.ok (.st 9 [] false .nil x .nil .nil t.l) ts
   else(gW n d (t :: r)).bind fun x ts=>match x with
    | .nil=>.out
    | .ex k _ nm _ _ _ _ _=>
      if aY [61] ts=true then
        if k=2 then(bU n d ts.tail).bind fun y ts=>.ok (.st 2 nm false .nil y .nil .nil t.l) ts
        else if k=5∨k=6 then(bU n d ts.tail).bind fun y ts=>.ok (.st 3 [] false x y .nil .nil t.l) ts
        else .bad 4 (kW ts)
      else if k=4 then(aQ [59] ts).bind fun _ ts=>.ok (.st 10 [] false .nil x .nil .nil t.l) ts
      else .bad 4 (kW ts)
end
def cZ:Nat→Bool→List Tok→Re (List (List UInt8×Bool))
 | 0,_,_=>.out
 | n+1,first,ts=>
   if aY [41] ts=true then .ok [] ts
   else(if first=true then .ok () ts else aQ [44] ts).bind fun _ ts=>(fA ts).bind fun nm ts=>
    let p:=aY dA ts
    (cZ n false (if p=true then ts.tail else ts)).bind fun l ts=>.ok ((nm,p) :: l) ts
def kH (n:Nat)(ts:List Tok):Re Fm:=(aQ pV ts).bind fun _ bI=>(fA bI).bind fun nm bI=>(gV [40] 0 bI).bind fun _ bI=>(cZ n true bI).bind fun ps bI=>(aQ [41] bI).bind fun _ bI=>
 let p:=aY dA bI
 (dD n 0 (if p=true then bI.tail else bI)).bind fun b bI=>.ok ⟨nm,ps,p,b,kW ts⟩ bI
def eH:Nat→List Tok→Re (List Fm)
 | 0,_=>.out
 | _+1,[]=>.out
 | n+1,t :: r=>if t.k=5 then .ok [] (t :: r) else(kH n (t :: r)).bind fun f ts=>(eH n ts).bind fun l ts=>.ok (f :: l) ts
end Go.Abs.YtlkfbfhkcaldlaaGreatDoor
namespace Go.Abs.YtlkfbfhkcaldlaaGreatDoor
def aZ:List Tok→Prop
 | []=>False
 | t :: r=>if r=[] then t.k=5 else aZ r
theorem aZ.tail {t:Tok} {r:List Tok} (h:aZ (t :: r))(hk:t.k≠5):aZ r:=by
 unfold aZ at h
 split at h
 ·exact(hk h).elim
 ·exact h
theorem aZ.ne {ts:List Tok} (h:aZ ts):∃t r,ts=t :: r:=by
 cases ts with
 | nil=>exact h.elim
 | cons t r=>exact⟨t,r,rfl⟩
theorem iY {s:List UInt8} {t:Tok} {r:List Tok} (h:aY s (t :: r)=true):t.k≠5:=by
 unfold aY at h
 simp only [fJ,Bool.or_eq_true,beq_iff_eq] at h
 rcases h.1 with h | h <;> rw [h] <;> decide
theorem jD {s:List UInt8} {ts:List Tok} (he:aZ ts)(h:aY s ts=true):aZ ts.tail∧ts.tail.length<ts.length:=by
 obtain⟨t,r,rfl⟩:=he.ne
 exact⟨he.tail (iY h),by simp⟩
def Gd {α:Type} (V:α→Prop)(r:Re α)(L:Nat):Prop:=match r with
 | .ok a ts=>V a∧aZ ts∧ts.length<L
 | .bad _ _=>True
 | .out=>False
theorem Gd.bind {α β:Type} {V:α→Prop} {U:β→Prop} {r:Re α} {f:α→List Tok→Re β} {L M:Nat} (h:Gd V r L)(hf:∀a ts,V a→aZ ts→ts.length<L→Gd U (f a ts) M):Gd U (r.bind f) M:=by
 cases r with
 | ok a ts=>exact hf a ts h.1 h.2.1 h.2.2
 | bad c l=>trivial
 | out=>exact h.elim
theorem Gd.mono {α:Type} {V:α→Prop} {r:Re α} {L M:Nat} (h:Gd V r L)(hl:L≤M):Gd V r M:=by
 cases r with
 | ok a ts=>exact⟨h.1,h.2.1,Nat.lt_of_lt_of_le h.2.2 hl⟩
 | bad c l=>trivial
 | out=>exact h.elim
theorem jq (s:List UInt8) {ts:List Tok} (he:aZ ts):Gd (fun _=>True) (aQ s ts) ts.length:=by
 unfold aQ
 split
 ·rename_i h;exact⟨trivial,jD he h⟩
 ·trivial
theorem vI (s:List UInt8)(d:Nat) {ts:List Tok} (he:aZ ts):Gd (fun _=>True) (gV s d ts) ts.length:=by
 unfold gV
 split
 ·trivial
 ·exact jq s he
theorem vJ {ts:List Tok} (he:aZ ts):Gd (fun _=>True) (fA ts) ts.length:=by
 obtain⟨t,r,rfl⟩:=he.ne
 unfold fA
 simp only
 split
 ·rename_i h;exact⟨trivial,he.tail (by rw [h];decide),by simp⟩
 ·trivial
abbrev An {α:Type} :α→Prop:=fun _=>True
def I8:Tr→Prop
 | .nil=>False
 | _=>True
structure AllE (n:Nat):Prop where
 expr:∀d c ts,aZ ts→10*ts.length+9≤n→Gd I8 (dn n d c ts) ts.length
 loop:∀d c x ts,I8 x→aZ ts→10*ts.length+9≤n→Gd I8 (fZ n d c x ts) (ts.length+1)
 un:∀d ts,aZ ts→10*ts.length+8≤n→Gd I8 (xP n d ts) ts.length
 post:∀d ts,aZ ts→10*ts.length+7≤n→Gd I8 (gW n d ts) ts.length
 uz:∀d x ts,I8 x→aZ ts→10*ts.length+9≤n→Gd I8 (dP n d x ts) (ts.length+1)
 with_:∀d a b ts,aZ ts→10*ts.length+5≤n→Gd I8 (gI n d a b ts) ts.length
 cell:∀d ts,aZ ts→10*ts.length+6≤n→Gd I8 (h_ n d ts) ts.length
 first:∀d ts,aZ ts→10*ts.length+6≤n→Gd I8 (dI n d ts) ts.length
 args:∀d f ts,aZ ts→10*ts.length+10≤n→Gd An (fG n d f ts) (ts.length+1)
theorem uD:∀n,AllE n
 | 0=>⟨fun _ _ _ _ h=>by omega,fun _ _ _ _ _ _ h=>by omega,fun _ _ _ h=>by omega,fun _ _ _ h=>by omega,fun _ _ _ _ _ h=>by omega,fun _ _ _ _ _ h=>by omega,fun _ _ _ h=>by omega,fun _ _ _ h=>by omega,fun _ _ _ _ h=>by omega⟩
 | n+1=>by
   have ih:=uD n
   refine⟨fun d c ts he hn=>?_,fun d c x ts hx he hn=>?_,fun d ts he hn=>?_,fun d ts he hn=>?_,fun d x ts hx he hn=>?_,fun d a b ts he hn=>?_,fun d ts he hn=>?_,fun d ts he hn=>?_,fun d f ts he hn=>?_⟩
   ·unfold dn
    exact(ih.un d ts he (by omega)).bind fun x ts' hx he' hl=>(ih.loop d c x ts' hx he' (by omega)).mono (by omega)
   ·obtain⟨t,r,rfl⟩:=he.ne
    unfold fZ
    simp only [bg] at hn
    split
    ·rename_i h
     have her:=he.tail (by rw [h.1];decide)
     exact(ih.expr d _ r her (by omega)).bind fun y ts' _ he' hl=>(ih.loop d c (.ex 3 0 [] t.s x y .nil t.l) ts' trivial he' (by omega)).mono (by simp;omega)
    ·exact⟨hx,he,Nat.lt_succ_self _⟩
   ·obtain⟨t,r,rfl⟩:=he.ne
    unfold xP
    simp only [bg] at hn
    split
    ·rename_i h
     have her:aZ r:=by rcases h with h | h <;> exact he.tail (iY h)
     split
     ·trivial
     ·exact(ih.un (d+1) r her (by omega)).bind fun x ts' _ he' hl=>⟨trivial,he',by simp;omega⟩
    ·exact ih.post d _ he (by simp only [bg];omega)
   ·unfold gW
    exact(ih.first d ts he (by omega)).bind fun x ts' hx he' hl=>(ih.uz d x ts' hx he' (by omega)).mono (by omega)
   ·obtain⟨t,r,rfl⟩:=he.ne
    unfold dP
    simp only [bg] at hn
    split
    ·rename_i h
     exact(ih.with_ d _ _ _ he (by simp only [bg];omega)).bind fun y ts' _ he' hl=>(ih.uz d (.ex 5 0 [] [] x y .nil t.l) ts' trivial he' (by simp only [bg] at hl;omega)).mono (by omega)
    ·split
     ·rename_i h
      have her:=he.tail (iY h)
      exact(ih.cell d r her (by omega)).bind fun y ts' _ he' hl=>(ih.uz d (.ex 6 0 [] [] x y .nil t.l) ts' trivial he' (by omega)).mono (by simp;omega)
     ·exact⟨hx,he,Nat.lt_succ_self _⟩
   ·unfold gI
    exact(vI a d he).bind fun _ bI _ he1 hl1=>(ih.expr (d+1) 1 bI he1 (by omega)).bind fun x dM hx he2 hl2=>(jq b he2).bind fun _ vK _ he3 hl3=>⟨hx,he3,by omega⟩
   ·obtain⟨t,r,rfl⟩:=he.ne
    unfold h_
    simp only [bg] at hn
    split
    ·exact ih.with_ d _ _ _ he (by simp only [bg];omega)
    ·split
     ·rename_i h;exact⟨trivial,he.tail (by rw [h];decide),by simp⟩
     ·exact(vJ he).bind fun nm bI _ he1 hl1=>⟨trivial,he1,hl1⟩
   ·obtain⟨t,r,rfl⟩:=he.ne
    unfold dI
    simp only [bg] at hn
    split
    ·exact ih.with_ d _ _ _ he (by simp only [bg];omega)
    ·split
     ·rename_i h
      have her:=he.tail (iY h)
      exact(ih.with_ d _ _ r her (by omega)).bind fun x bI _ he1 hl1=>⟨trivial,he1,by simp;omega⟩
     ·split
      ·rename_i h
       have her:=he.tail (iY h)
       exact(vI _ d her).bind fun _ bI _ he1 hl1=>(jq _ he1).bind fun _ dM _ he2 hl2=>⟨trivial,he2,by simp;omega⟩
      ·split
       ·rename_i h;exact⟨trivial,he.tail (by rw [h];decide),by simp⟩
       ·refine(vJ he).bind fun nm bI _ he1 hl1=>?_
        simp only [bg] at hl1
        split
        ·exact(vI _ d he1).bind fun _ dM _ he2 hl2=>(ih.args (d+1) true dM he2 (by omega)).bind fun a vK _ he3 hl3=>(jq _ he3).bind fun _ wW _ he4 hl4=>⟨trivial,he4,by simp;omega⟩
        ·exact⟨trivial,he1,by simp;omega⟩
   ·unfold fG
    split
    ·exact⟨trivial,he,Nat.lt_succ_self _⟩
    ·have h1:Gd An (if f=true then Re.ok () ts else aQ [44] ts) (ts.length+1):=by
      split
      ·exact⟨trivial,he,Nat.lt_succ_self _⟩
      ·exact(jq _ he).mono (Nat.le_succ _)
     exact h1.bind fun _ bI _ he1 hl1=>(ih.expr d 1 bI he1 (by omega)).bind fun x dM _ he2 hl2=>(ih.args d false dM he2 (by omega)).bind fun xs vK _ he3 hl3=>⟨trivial,he3,by omega⟩
structure AllS (n:Nat):Prop where
 block:∀d ts,aZ ts→10*ts.length+10≤n→Gd An (dD n d ts) ts.length
 stmts:∀d ts,aZ ts→10*ts.length+15≤n→Gd An (eG n d ts) (ts.length+1)
 branch:∀d l ts,aZ ts→10*ts.length+12≤n→Gd An (dQ n d l ts) ts.length
 ended:∀d ts,aZ ts→10*ts.length+10≤n→Gd An (bU n d ts) ts.length
 stmt:∀d ts,aZ ts→10*ts.length+14≤n→Gd An (fE n d ts) ts.length
theorem FN:∀n,AllS n
 | 0=>⟨fun _ _ _ h=>by omega,fun _ _ _ h=>by omega,fun _ _ _ _ h=>by omega,fun _ _ _ h=>by omega,fun _ _ _ h=>by omega⟩
 | n+1=>by
   have ih:=FN n
   have ie:=uD n
   refine⟨fun d ts he hn=>?_,fun d ts he hn=>?_,fun d l ts he hn=>?_,fun d ts he hn=>?_,fun d ts he hn=>?_⟩
   ·unfold dD
    exact(vI _ d he).bind fun _ bI _ he1 hl1=>(ih.stmts (d+1) bI he1 (by omega)).bind fun l dM _ he2 hl2=>(jq _ he2).bind fun _ vK _ he3 hl3=>⟨trivial,he3,by omega⟩
   ·unfold eG
    split
    ·exact⟨trivial,he,Nat.lt_succ_self _⟩
    ·exact(ih.stmt d ts he (by omega)).bind fun x bI _ he1 hl1=>(ih.stmts d bI he1 (by omega)).bind fun l dM _ he2 hl2=>⟨trivial,he2,by omega⟩
   ·unfold dQ
    refine(ie.expr d 1 ts he (by omega)).bind fun c bI _ he1 hl1=>(ih.block d bI he1 (by omega)).bind fun th dM _ he2 hl2=>?_
    split
    ·rename_i h
     obtain⟨he3,hl3⟩:=jD he2 h
     split
     ·rename_i h2
      obtain⟨he4,hl4⟩:=jD he3 h2
      exact(ih.branch d _ _ he4 (by omega)).bind fun b su _ Vp hl5=>⟨trivial,Vp,by omega⟩
     ·exact(ih.block d _ he3 (by omega)).bind fun b su _ Vp hl5=>⟨trivial,Vp,by omega⟩
    ·exact⟨trivial,he2,by omega⟩
   ·unfold bU
    exact(ie.expr d 1 ts he (by omega)).bind fun x bI _ he1 hl1=>(jq _ he1).bind fun _ dM _ he2 hl2=>⟨trivial,he2,by omega⟩
   ·obtain⟨t,r,rfl⟩:=he.ne
    unfold fE
    simp only [bg] at hn
    split
    ·rename_i h
     have her:=he.tail (iY h)
     refine(vJ her).bind fun nm bI _ he1 hl1=>?_
     have h2:aZ (if aY dA bI=true then bI.tail else bI)∧(if aY dA bI=true then bI.tail else bI).length≤bI.length:=by
      split
      ·rename_i h2
       obtain⟨a,b⟩:=jD he1 h2
       exact⟨a,by omega⟩
      ·exact⟨he1,Nat.le_refl _⟩
     simp only
     generalize (if aY dA bI=true then bI.tail else bI)=dM at h2
     split
     ·rename_i h3
      obtain⟨he3,hl3⟩:=jD h2.1 h3
      exact(ih.ended d _ he3 (by omega)).bind fun x wW _ he4 hl4=>⟨trivial,he4,by simp;omega⟩
     ·exact(jq _ h2.1).bind fun _ wW _ he4 hl4=>⟨trivial,he4,by simp;omega⟩
    ·split
     ·rename_i h;exact(ih.branch d _ r (he.tail (iY h)) (by omega)).mono (by simp)
     ·split
      ·rename_i h
       exact(ie.expr d 1 r (he.tail (iY h)) (by omega)).bind fun c bI _ he1 hl1=>(ih.block d bI he1 (by omega)).bind fun th dM _ he2 hl2=>⟨trivial,he2,by simp;omega⟩
      ·split
       ·rename_i h
        exact(ih.ended d r (he.tail (iY h)) (by omega)).bind fun x bI _ he1 hl1=>⟨trivial,he1,by simp;omega⟩
       ·split
        ·rename_i h
         exact(ih.ended d r (he.tail (iY h)) (by omega)).bind fun x bI _ he1 hl1=>⟨trivial,he1,by simp;omega⟩
        ·split
         ·rename_i h
          exact(jq _ (he.tail (iY h))).bind fun _ bI _ he1 hl1=>⟨trivial,he1,by simp;omega⟩
         ·split
          ·rename_i h
           have her:=he.tail (iY h)
           split
           ·rename_i h2
            obtain⟨he2,hl2⟩:=jD her h2
            exact⟨trivial,he2,by simp;omega⟩
           ·exact(ih.ended d r her (by omega)).bind fun x bI _ he1 hl1=>⟨trivial,he1,by simp;omega⟩
          ·refine(ie.post d _ he (by simp only [bg];omega)).bind fun x bI hx he1 hl1=>?_
           cases x with
           | nil=>exact hx.elim
           | ex k n' nm tx l r' a ln=>
             simp only
             split
             ·rename_i h2
              obtain⟨he2,hl2⟩:=jD he1 h2
              simp only [bg] at hl1
              split
              ·exact(ih.ended d _ he2 (by omega)).bind fun y dM _ he3 hl3=>⟨trivial,he3,by simp;omega⟩
              ·split
               ·exact(ih.ended d _ he2 (by omega)).bind fun y dM _ he3 hl3=>⟨trivial,he3,by simp;omega⟩
               ·trivial
             ·split
              ·exact(jq _ he1).bind fun _ dM _ he2 hl2=>⟨trivial,he2,by omega⟩
              ·trivial
theorem vM:∀(n:Nat) (f:Bool) (ts:List Tok),aZ ts→ts.length+1≤n→Gd An (cZ n f ts) (ts.length+1)
 | 0,_,_,_,h=>by omega
 | n+1,f,ts,he,hn=>by
   unfold cZ
   split
   ·exact⟨trivial,he,Nat.lt_succ_self _⟩
   ·have h1:Gd An (if f=true then Re.ok () ts else aQ [44] ts) (ts.length+1):=by
     split
     ·exact⟨trivial,he,Nat.lt_succ_self _⟩
     ·exact(jq _ he).mono (Nat.le_succ _)
    refine h1.bind fun _ bI _ he1 hl1=>(vJ he1).bind fun nm dM _ he2 hl2=>?_
    have h2:aZ (if aY dA dM=true then dM.tail else dM)∧(if aY dA dM=true then dM.tail else dM).length≤dM.length:=by
     split
     ·rename_i h2
      obtain⟨a,b⟩:=jD he2 h2
      exact⟨a,by omega⟩
     ·exact⟨he2,Nat.le_refl _⟩
    simp only
    generalize (if aY dA dM=true then dM.tail else dM)=vK at h2
    exact(vM n false vK h2.1 (by omega)).bind fun l wW _ he4 hl4=>⟨trivial,he4,by omega⟩
theorem Qc (n:Nat)(ts:List Tok)(he:aZ ts)(hn:10*ts.length+10≤n):Gd An (kH n ts) ts.length:=by
 unfold kH
 refine(jq _ he).bind fun _ bI _ he1 hl1=>(vJ he1).bind fun nm dM _ he2 hl2=>(vI _ 0 he2).bind fun _ vK _ he3 hl3=>(vM n true vK he3 (by omega)).bind fun ps wW _ he4 hl4=>(jq _ he4).bind fun _ su _ Vp hl5=>?_
 have h2:aZ (if aY dA su=true then su.tail else su)∧(if aY dA su=true then su.tail else su).length≤su.length:=by
  split
  ·rename_i h2
   obtain⟨a,b⟩:=jD Vp h2
   exact⟨a,by omega⟩
  ·exact⟨Vp,Nat.le_refl _⟩
 simp only
 generalize (if aY dA su=true then su.tail else su)=Xj at h2
 exact((FN n).block 0 Xj h2.1 (by omega)).bind fun b ts7 _ he7 hl7=>⟨trivial,he7,by omega⟩
theorem Ls:∀(n:Nat) (ts:List Tok),aZ ts→10*ts.length+11≤n→Gd An (eH n ts) (ts.length+1)
 | 0,_,_,h=>by omega
 | n+1,ts,he,hn=>by
   obtain⟨t,r,rfl⟩:=he.ne
   unfold eH
   split
   ·exact⟨trivial,he,Nat.lt_succ_self _⟩
   ·simp only [bg] at hn
    exact(Qc n _ he (by simp only [bg];omega)).bind fun f bI _ he1 hl1=>(Ls n bI he1 (by simp only [bg] at hl1;omega)).bind fun l dM _ he2 hl2=>⟨trivial,he2,by omega⟩
end Go.Abs.YtlkfbfhkcaldlaaGreatDoor
namespace Go.Abs.YtlkfbfhkcaldlaaGreatDoor
def kM:jA→List Tr
 | .nil=>[]
 | .cons t r=>t :: kM r
def jy:gY→List Sm
 | .nil=>[]
 | .cons t r=>t :: jy r
mutual
def wT:Tr→Nat
 | .nil=>0
 | .ex _ _ _ _ l r a _=>wT l+wT r+Fj a
def Fj:jA→Nat
 | .nil=>0
 | .cons t r=>1+wT t+Fj r
end
mutual
def wS:Sm→Nat
 | .st _ _ _ l r th el _=>wT l+wT r+yT th+yT el
def yT:gY→Nat
 | .nil=>0
 | .cons t r=>1+wS t+yT r
end
def wF (f:Fm):Nat:=f.params.length+yT f.body
def Nl:List Fm→Nat
 | []=>0
 | f :: l=>1+wF f+Nl l
theorem I9:∀l:jA,(kM l).length≤Fj l
 | .nil=>Nat.le_refl _
 | .cons t r=>by have:=I9 r;simp only [kM,Fj,bg];omega
theorem I_:∀l:gY,(jy l).length≤yT l
 | .nil=>Nat.le_refl _
 | .cons t r=>by have:=I_ r;simp only [jy,yT,bg];omega
theorem Ja:∀l:List Fm,l.length≤Nl l
 | []=>Nat.le_refl _
 | t :: r=>by have:=Ja r;simp only [Nl,bg];omega
theorem Vq:∀(l:jA) (i:Nat) (t:Tr),(kM l)[i]? =some t→wT t+1≤Fj l
 | .nil,i,t,h=>by simp [kM] at h
 | .cons a r,0,t,h=>by simp only [kM,List.getElem?_cons_zero,oW] at h;subst h;simp only [Fj];omega
 | .cons a r,i+1,t,h=>by
   simp only [kM,List.getElem?_cons_succ] at h
   have:=Vq r i t h;simp only [Fj];omega
theorem Lu:∀(l:gY) (i:Nat) (t:Sm),(jy l)[i]? =some t→wS t+1≤yT l
 | .nil,i,t,h=>by simp [jy] at h
 | .cons a r,0,t,h=>by simp only [jy,List.getElem?_cons_zero,oW] at h;subst h;simp only [yT];omega
 | .cons a r,i+1,t,h=>by
   simp only [jy,List.getElem?_cons_succ] at h
   have:=Lu r i t h;simp only [yT];omega
theorem Vr:∀(l:List Fm) (i:Nat) (t:Fm),l[i]? =some t→wF t+1≤Nl l
 | [],i,t,h=>by simp at h
 | a :: r,0,t,h=>by simp only [List.getElem?_cons_zero,oW] at h;subst h;simp only [Nl];omega
 | a :: r,i+1,t,h=>by
   simp only [List.getElem?_cons_succ] at h
   have:=Vr r i t h;simp only [Nl];omega
def Gw {α:Type} (w:α→Nat)(r:Re α)(L:Nat):Prop:=match r with
 | .ok a ts=>w a+ts.length≤L
 | _=>True
theorem Gw.bind {α β:Type} {w:α→Nat} {u:β→Nat} {r:Re α} {f:α→List Tok→Re β} {L M:Nat} (h:Gw w r L)(hf:∀a ts,w a+ts.length≤L→Gw u (f a ts) M):Gw u (r.bind f) M:=by
 cases r with
 | ok a ts=>exact hf a ts h
 | bad c l=>trivial
 | out=>trivial
theorem Gw.mono {α:Type} {w:α→Nat} {r:Re α} {L M:Nat} (h:Gw w r L)(hl:L≤M):Gw w r M:=by
 cases r with
 | ok a ts=>exact Nat.le_trans h hl
 | bad c l=>trivial
 | out=>trivial
abbrev w1 {α:Type} :α→Nat:=fun _=>1
abbrev w0 {α:Type} :α→Nat:=fun _=>0
theorem CP {s:List UInt8} {ts:List Tok} (h:aY s ts=true):ts.tail.length+1=ts.length:=by
 cases ts with
 | nil=>simp [aY] at h
 | cons t r=>rfl
theorem iZ (ts:List Tok):ts.tail.length≤ts.length:=by cases ts <;> simp
theorem jr (s:List UInt8)(ts:List Tok):Gw w1 (aQ s ts) ts.length:=by
 unfold aQ
 split
 ·rename_i h;have:=CP h;show 1+_≤_;omega
 ·trivial
theorem vN (s:List UInt8)(d:Nat)(ts:List Tok):Gw w1 (gV s d ts) ts.length:=by
 unfold gV
 split
 ·trivial
 ·exact jr s ts
theorem vO (ts:List Tok):Gw w1 (fA ts) ts.length:=by
 unfold fA
 split
 ·split
  ·show 1+_≤_;simp;omega
  ·trivial
 ·trivial
abbrev BI:Tr→Nat:=fun x=>1+wT x
abbrev wS1:Sm→Nat:=fun x=>1+wS x
abbrev Vs:gY→Nat:=fun x=>1+yT x
structure WtE (n:Nat):Prop where
 expr:∀d c ts,Gw BI (dn n d c ts) ts.length
 loop:∀d c x ts,Gw wT (fZ n d c x ts) (wT x+ts.length)
 un:∀d ts,Gw BI (xP n d ts) ts.length
 post:∀d ts,Gw BI (gW n d ts) ts.length
 uz:∀d x ts,Gw wT (dP n d x ts) (wT x+ts.length)
 with_:∀d a b ts,Gw BI (gI n d a b ts) ts.length
 cell:∀d ts,Gw BI (h_ n d ts) ts.length
 first:∀d ts,Gw BI (dI n d ts) ts.length
 args:∀d f ts,Gw Fj (fG n d f ts) ts.length
theorem wtE:∀n,WtE n
 | 0=>⟨fun _ _ _=>by unfold dn;trivial,fun _ _ _ _=>by unfold fZ;trivial,fun _ _=>by unfold xP;trivial,fun _ _=>by unfold gW;trivial,fun _ _ _=>by unfold dP;trivial,fun _ _ _ _=>by unfold gI;trivial,fun _ _=>by unfold h_;trivial,fun _ _=>by unfold dI;trivial,fun _ _ _=>by unfold fG;trivial⟩
 | n+1=>by
   have ih:=wtE n
   refine⟨fun d c ts=>?_,fun d c x ts=>?_,fun d ts=>?_,fun d ts=>?_,fun d x ts=>?_,fun d a b ts=>?_,fun d ts=>?_,fun d ts=>?_,fun d f ts=>?_⟩
   ·unfold dn
    refine(ih.un d ts).bind fun x ts' hx=>?_
    have:=ih.loop d c x ts'
    cases hr:fZ n d c x ts' with
    | ok a dM=>rw [hr] at this;have h:wT a+dM.length≤wT x+ts'.length:=this;show 1+wT a+dM.length≤_;simp only [BI] at hx;omega
    | bad c l=>trivial
    | out=>trivial
   ·cases ts with
    | nil=>unfold fZ;trivial
    | cons t r=>
      unfold fZ
      split
      ·refine(ih.expr d _ r).bind fun y ts' hy=>(ih.loop d c (.ex 3 0 [] t.s x y .nil t.l) ts').mono ?_
       simp only [BI] at hy;simp only [wT,Fj,bg];omega
      ·exact Nat.le_refl _
   ·cases ts with
    | nil=>unfold xP;trivial
    | cons t r=>
      unfold xP
      split
      ·split
       ·trivial
       ·refine(ih.un (d+1) r).bind fun x ts' hx=>?_
        simp only [BI] at hx;show 1+wT _+_≤_;simp only [wT,Fj,bg];omega
      ·exact ih.post d _
   ·unfold gW
    refine(ih.first d ts).bind fun x ts' hx=>?_
    have:=ih.uz d x ts'
    cases hr:dP n d x ts' with
    | ok a dM=>rw [hr] at this;have h:wT a+dM.length≤wT x+ts'.length:=this;show 1+wT a+dM.length≤_;simp only [BI] at hx;omega
    | bad c l=>trivial
    | out=>trivial
   ·cases ts with
    | nil=>unfold dP;trivial
    | cons t r=>
      unfold dP
      split
      ·refine(ih.with_ d _ _ _).bind fun y ts' hy=>(ih.uz d (.ex 5 0 [] [] x y .nil t.l) ts').mono ?_
       simp only [BI] at hy;simp only [wT,Fj];omega
      ·split
       ·refine(ih.cell d r).bind fun y ts' hy=>(ih.uz d (.ex 6 0 [] [] x y .nil t.l) ts').mono ?_
        simp only [BI] at hy;simp only [wT,Fj,bg];omega
       ·exact Nat.le_refl _
   ·unfold gI
    refine(vN a d ts).bind fun _ bI h1=>(ih.expr (d+1) 1 bI).bind fun x dM h2=>(jr b dM).bind fun _ vK h3=>?_
    simp only [BI,w1] at *;show 1+wT x+_≤_;omega
   ·cases ts with
    | nil=>unfold h_;trivial
    | cons t r=>
      unfold h_
      split
      ·exact ih.with_ d _ _ _
      ·split
       ·show 1+wT (Am t)+_≤_;simp only [Am,wT,Fj,bg];omega
       ·refine(vO _).bind fun nm bI h1=>?_
        simp only [w1] at h1;show 1+wT (qG nm t.l)+_≤_;simp only [qG,wT,Fj];omega
   ·cases ts with
    | nil=>unfold dI;trivial
    | cons t r=>
      unfold dI
      split
      ·exact ih.with_ d _ _ _
      ·split
       ·refine(ih.with_ d _ _ r).bind fun x bI h1=>?_
        simp only [BI] at h1;show 1+wT _+_≤_;simp only [wT,Fj,bg];omega
       ·split
        ·refine(vN _ d r).bind fun _ bI h1=>(jr _ bI).bind fun _ dM h2=>?_
         simp only [w1] at *;show 1+wT _+_≤_;simp only [wT,Fj,bg];omega
        ·split
         ·show 1+wT (Am t)+_≤_;simp only [Am,wT,Fj,bg];omega
         ·refine(vO _).bind fun nm bI h1=>?_
          simp only [w1] at h1
          split
          ·refine(vN _ d bI).bind fun _ dM h2=>(ih.args (d+1) true dM).bind fun a vK h3=>(jr _ vK).bind fun _ wW h4=>?_
           simp only [w1] at *;show 1+wT _+_≤_;simp only [wT];omega
          ·show 1+wT (qG nm t.l)+_≤_;simp only [qG,wT,Fj];omega
   ·unfold fG
    split
    ·show 0+_≤_;omega
    ·have h1:Gw w0 (if f=true then Re.ok () ts else aQ [44] ts) ts.length:=by
      split
      ·show 0+_≤_;omega
      ·have:=jr [44] ts
       cases hr:aQ [44] ts with
       | ok a dM=>rw [hr] at this;have h:1+dM.length≤ts.length:=this;show 0+_≤_;omega
       | bad c l=>trivial
       | out=>trivial
     refine h1.bind fun _ bI h1=>(ih.expr d 1 bI).bind fun x dM h2=>(ih.args d false dM).bind fun xs vK h3=>?_
     simp only [BI,w0] at *;show Fj _+_≤_;simp only [Fj];omega
structure WtS (n:Nat):Prop where
 block:∀d ts,Gw Vs (dD n d ts) ts.length
 stmts:∀d ts,Gw yT (eG n d ts) ts.length
 branch:∀d l ts,Gw wS1 (dQ n d l ts) ts.length
 ended:∀d ts,Gw BI (bU n d ts) ts.length
 stmt:∀d ts,Gw wS1 (fE n d ts) ts.length
theorem vP (ts:List Tok):(if aY dA ts=true then ts.tail else ts).length≤ts.length:=by
 split
 ·exact iZ ts
 ·exact Nat.le_refl _
theorem wtS:∀n,WtS n
 | 0=>⟨fun _ _=>by unfold dD;trivial,fun _ _=>by unfold eG;trivial,fun _ _ _=>by unfold dQ;trivial,fun _ _=>by unfold bU;trivial,fun _ _=>by unfold fE;trivial⟩
 | n+1=>by
   have ih:=wtS n
   have ie:=wtE n
   refine⟨fun d ts=>?_,fun d ts=>?_,fun d l ts=>?_,fun d ts=>?_,fun d ts=>?_⟩
   ·unfold dD
    refine(vN _ d ts).bind fun _ bI h1=>(ih.stmts (d+1) bI).bind fun l dM h2=>(jr _ dM).bind fun _ vK h3=>?_
    simp only [w1] at *;show 1+yT l+_≤_;omega
   ·unfold eG
    split
    ·show 0+_≤_;omega
    ·refine(ih.stmt d ts).bind fun x bI h1=>(ih.stmts d bI).bind fun l dM h2=>?_
     simp only [wS1] at *;show yT _+_≤_;simp only [yT];omega
   ·unfold dQ
    refine(ie.expr d 1 ts).bind fun c bI h1=>(ih.block d bI).bind fun th dM h2=>?_
    simp only [BI,Vs] at *
    have t1:=iZ dM
    have t2:=iZ dM.tail
    have t3:=iZ dM.tail.tail
    split
    ·split
     ·refine(ih.branch d _ _).bind fun b su h5=>?_
      simp only [wS1] at *;show 1+wS _+_≤_;simp only [wS,yT,wT];omega
     ·refine(ih.block d _).bind fun b su h5=>?_
      simp only [Vs] at *;show 1+wS _+_≤_;simp only [wS,wT];omega
    ·show 1+wS _+_≤_;simp only [wS,yT,wT];omega
   ·unfold bU
    refine(ie.expr d 1 ts).bind fun c bI h1=>(jr _ bI).bind fun _ dM h2=>?_
    simp only [BI,w1] at *;show 1+wT c+_≤_;omega
   ·cases ts with
    | nil=>unfold fE;trivial
    | cons t r=>
      unfold fE
      split
      ·refine(vO r).bind fun nm bI h1=>?_
       have h2:=vP bI
       simp only [w1] at h1 ⊢
       generalize (if aY dA bI=true then bI.tail else bI)=dM at h2 ⊢
       have t2:=iZ dM
       split
       ·refine(ih.ended d _).bind fun x wW h4=>?_
        simp only [BI] at *;show 1+wS _+_≤_;simp only [wS,yT,wT,bg];omega
       ·refine(jr _ dM).bind fun _ wW h4=>?_
        simp only [w1] at *;show 1+wS _+_≤_;simp only [wS,yT,wT,bg];omega
      ·split
       ·exact(ih.branch d _ r).mono (by simp)
       ·split
        ·refine(ie.expr d 1 r).bind fun c bI h1=>(ih.block d bI).bind fun th dM h2=>?_
         simp only [BI,Vs] at *;show 1+wS _+_≤_;simp only [wS,yT,wT,bg];omega
        ·split
         ·refine(ih.ended d r).bind fun x bI h1=>?_
          simp only [BI] at *;show 1+wS _+_≤_;simp only [wS,yT,wT,bg];omega
         ·split
          ·refine(ih.ended d r).bind fun x bI h1=>?_
           simp only [BI] at *;show 1+wS _+_≤_;simp only [wS,yT,wT,bg];omega
          ·split
           ·refine(jr _ r).bind fun x bI h1=>?_
            simp only [w1] at *;show 1+wS _+_≤_;simp only [wS,yT,wT,bg];omega
           ·split
            ·split
             ·have:=iZ r;show 1+wS _+_≤_;simp only [wS,yT,wT,bg];omega
             ·refine(ih.ended d r).bind fun x bI h1=>?_
              simp only [BI] at *;show 1+wS _+_≤_;simp only [wS,yT,wT,bg];omega
            ·refine(ie.post d _).bind fun x bI h1=>?_
             have t1:=iZ bI
             cases x with
             | nil=>trivial
             | ex k n' nm tx l r' a ln=>
               simp only [BI] at h1 ⊢
               split
               ·split
                ·refine(ih.ended d _).bind fun y dM h2=>?_
                 simp only [BI,wT] at *;show 1+wS _+_≤_;simp only [wS,yT,wT];omega
                ·split
                 ·refine(ih.ended d _).bind fun y dM h2=>?_
                  simp only [BI,wT] at *;show 1+wS _+_≤_;simp only [wS,yT,wT];omega
                 ·trivial
               ·split
                ·refine(jr _ bI).bind fun _ dM h2=>?_
                 simp only [w1,wT] at *;show 1+wS _+_≤_;simp only [wS,yT,wT];omega
                ·trivial
theorem G9:∀(n:Nat) (f:Bool) (ts:List Tok),Gw List.length (cZ n f ts) ts.length
 | 0,_,_=>trivial
 | n+1,f,ts=>by
   unfold cZ
   split
   ·show 0+_≤_;omega
   ·have h1:Gw w0 (if f=true then Re.ok () ts else aQ [44] ts) ts.length:=by
     split
     ·show 0+_≤_;omega
     ·have:=jr [44] ts
      cases hr:aQ [44] ts with
      | ok a dM=>rw [hr] at this;have h:1+dM.length≤ts.length:=this;show 0+_≤_;omega
      | bad c l=>trivial
      | out=>trivial
    refine h1.bind fun _ bI h1=>(vO bI).bind fun nm dM h2=>?_
    have h3:=vP dM
    simp only [w1,w0] at *
    generalize (if aY dA dM=true then dM.tail else dM)=vK at h3 ⊢
    refine(G9 n false vK).bind fun l wW h4=>?_
    show (_ :: l).length+_≤_
    simp only [bg];omega
theorem Y2 (n:Nat)(ts:List Tok):Gw (fun f=>1+wF f) (kH n ts) ts.length:=by
 unfold kH
 refine(jr _ ts).bind fun _ bI h1=>(vO bI).bind fun nm dM h2=>(vN _ 0 dM).bind fun _ vK h3=>(G9 n true vK).bind fun ps wW h4=>(jr _ wW).bind fun _ su h5=>?_
 have h6:=vP su
 simp only [w1] at *
 generalize (if aY dA su=true then su.tail else su)=Xj at h6 ⊢
 refine((wtS n).block 0 Xj).bind fun b ts7 h7=>?_
 simp only [Vs] at *;show 1+wF _+_≤_;simp only [wF];omega
theorem LC:∀(n:Nat) (ts:List Tok),Gw Nl (eH n ts) ts.length
 | 0,_=>trivial
 | _+1,[]=>trivial
 | n+1,t :: r=>by
   unfold eH
   split
   ·show 0+_≤_;omega
   ·refine(Y2 n _).bind fun f bI h1=>(LC n bI).bind fun l dM h2=>?_
    show Nl _+_≤_;simp only [Nl];omega
mutual
def mV:Tr→Tr→Bool
 | .nil,.nil=>true
 | .ex k n nm tx l r al1 _,.ex k' n' nm' tx' l' r' al2 _=>(k == k' && n == n' && nm == nm' && tx == tx') && (jY al1 al2 && mV l l' && mV r r')
 | _,_=>false
def jY:jA→jA→Bool
 | .nil,.nil=>true
 | .cons a r,.cons b s=>mV a b && jY r s
 | _,_=>false
end
mutual
def qH:Sm→Sm→Bool
 | .st k nm p l r th el _,.st k' nm' p' l' r' Xk Xl _=>(k == k' && nm == nm' && p == p') && (mV l l' && mV r r' && jl th Xk && jl el Xl)
def jl:gY→gY→Bool
 | .nil,.nil=>true
 | .cons a r,.cons b s=>qH a b && jl r s
 | _,_=>false
end
def yU (f g:Fm):Bool:=f.name == g.name && f.ptr == g.ptr && f.params == g.params && jl f.body g.body
def jQ:List Fm→List Fm→Bool
 | [],[]=>true
 | a :: r,b :: s=>yU a b && jQ r s
 | _,_=>false
theorem Ew:∀(a b:jA),(kM a).length=(kM b).length→(∀(i:Nat) x y,(kM a)[i]? =some x→(kM b)[i]? =some y→mV x y=true)→jY a b=true
 | .nil,.nil,_,_=>rfl
 | .cons a r,.cons b s,hl,h=>by
   rw [jY,h 0 a b rfl rfl,Ew r s (by simpa [kM] using hl) fun i x y hx hy=>h (i+1) x y hx hy];rfl
 | .nil,.cons _ _,h,_=>by simp [kM] at h
 | .cons _ _,.nil,h,_=>by simp [kM] at h
theorem xQ:∀(a b:jA),(kM a).length≠(kM b).length→jY a b=false
 | .nil,.nil,h=>(h rfl).elim
 | .cons a r,.cons b s,h=>by
   rw [jY,xQ r s (by simpa [kM] using h)];simp
 | .nil,.cons _ _,_=>rfl
 | .cons _ _,.nil,_=>rfl
theorem Ey:∀(a b:jA) (i:Nat) (x y:Tr),(kM a)[i]? =some x→(kM b)[i]? =some y→mV x y=false→jY a b=false
 | .nil,.nil,i,x,y,h,_,_=>by simp [kM] at h
 | .cons a r,.cons b s,0,x,y,hx,hy,h=>by
   simp only [kM,List.getElem?_cons_zero,oW] at hx hy;subst hx;subst hy
   rw [jY,h];rfl
 | .cons a r,.cons b s,i+1,x,y,hx,hy,h=>by
   rw [jY,Ey r s i x y hx hy h];simp
 | .nil,.cons _ _,i,x,y,h,_,_=>by simp [kM] at h
 | .cons _ _,.nil,i,x,y,_,h,_=>by simp [kM] at h
theorem Ez:∀(a b:gY),(jy a).length=(jy b).length→(∀(i:Nat) x y,(jy a)[i]? =some x→(jy b)[i]? =some y→qH x y=true)→jl a b=true
 | .nil,.nil,_,_=>rfl
 | .cons a r,.cons b s,hl,h=>by
   rw [jl,h 0 a b rfl rfl,Ez r s (by simpa [jy] using hl) fun i x y hx hy=>h (i+1) x y hx hy];rfl
 | .nil,.cons _ _,h,_=>by simp [jy] at h
 | .cons _ _,.nil,h,_=>by simp [jy] at h
theorem xR:∀(a b:gY),(jy a).length≠(jy b).length→jl a b=false
 | .nil,.nil,h=>(h rfl).elim
 | .cons a r,.cons b s,h=>by
   rw [jl,xR r s (by simpa [jy] using h)];simp
 | .nil,.cons _ _,_=>rfl
 | .cons _ _,.nil,_=>rfl
theorem EC:∀(a b:gY) (i:Nat) (x y:Sm),(jy a)[i]? =some x→(jy b)[i]? =some y→qH x y=false→jl a b=false
 | .nil,.nil,i,x,y,h,_,_=>by simp [jy] at h
 | .cons a r,.cons b s,0,x,y,hx,hy,h=>by
   simp only [jy,List.getElem?_cons_zero,oW] at hx hy;subst hx;subst hy
   rw [jl,h];rfl
 | .cons a r,.cons b s,i+1,x,y,hx,hy,h=>by
   rw [jl,EC r s i x y hx hy h];simp
 | .nil,.cons _ _,i,x,y,h,_,_=>by simp [jy] at h
 | .cons _ _,.nil,i,x,y,_,h,_=>by simp [jy] at h
theorem ED:∀(a b:List Fm),a.length=b.length→(∀(i:Nat) x y,a[i]? =some x→b[i]? =some y→yU x y=true)→jQ a b=true
 | [],[],_,_=>rfl
 | a :: r,b :: s,hl,h=>by
   rw [jQ,h 0 a b rfl rfl,ED r s (by simpa using hl) fun i x y hx hy=>h (i+1) x y hx hy];rfl
 | [],_ :: _,h,_=>by simp at h
 | _ :: _,[],h,_=>by simp at h
theorem xU:∀(a b:List Fm),a.length≠b.length→jQ a b=false
 | [],[],h=>(h rfl).elim
 | a :: r,b :: s,h=>by
   rw [jQ,xU r s (by simpa using h)];simp
 | [],_ :: _,_=>rfl
 | _ :: _,[],_=>rfl
theorem EF:∀(a b:List Fm) (i:Nat) (x y:Fm),a[i]? =some x→b[i]? =some y→yU x y=false→jQ a b=false
 | [],[],i,x,y,h,_,_=>by simp at h
 | a :: r,b :: s,0,x,y,hx,hy,h=>by
   simp only [List.getElem?_cons_zero,oW] at hx hy;subst hx;subst hy
   rw [jQ,h];rfl
 | a :: r,b :: s,i+1,x,y,hx,hy,h=>by
   rw [jQ,EF r s i x y hx hy h];simp
 | [],_ :: _,i,x,y,h,_,_=>by simp at h
 | _ :: _,[],i,x,y,_,h,_=>by simp at h
end Go.Abs.YtlkfbfhkcaldlaaGreatDoor
namespace Go.Abs.YtlkfbfhkcaldlaaGreatDoor
open Go.Proofs
set_option maxRecDepth 4000
mutual
def bP (S:Nat→Prop)(σ:St)(v:AV):Tr→Prop
 | .nil=>v= .p0
 | .ex k n name text l r args line=>∃(o g:Nat) (L R A:AV),S o∧v= .p o g 0∧σ[o]? =some ⟨g,false,.cells 48 [.i .i64 k,.i .u32 n,.s name,.s text,L,R,A,.i .i64 line]⟩∧bP S σ L l∧bP S σ R r∧jK S σ A args
def jK (S:Nat→Prop)(σ:St)(v:AV):jA→Prop
 | .nil=>v= .sl0
 | .cons t r=>∃(o g:Nat) (cs:List AV),S o∧v= .sl o g 0 cs.length 1∧σ[o]? =some ⟨g,false,.cells 44 cs⟩∧∃a tl,cs=a :: tl∧bP S σ a t∧uF S σ tl r
def uF (S:Nat→Prop)(σ:St)(cs:List AV):jA→Prop
 | .nil=>cs=[]
 | .cons t r=>∃a tl,cs=a :: tl∧bP S σ a t∧uF S σ tl r
end
mutual
theorem bP.mono {S S':Nat→Prop} {σ σ':St} (h1:∀o,S o→S' o)(h2:∀o,S o→∀a,σ[o]? =some a→σ'[o]? =some a):∀{t:Tr} {v:AV},bP S σ v t→bP S' σ' v t
 | .nil,v,h=>h
 | .ex k n name text l r args line,v,h=>by
   obtain⟨o,g,L,R,A,hs,hv,ho,hl,hr,ha⟩:=h
   exact⟨o,g,L,R,A,h1 o hs,hv,h2 o hs _ ho,bP.mono h1 h2 hl,bP.mono h1 h2 hr,jK.mono h1 h2 ha⟩
theorem jK.mono {S S':Nat→Prop} {σ σ':St} (h1:∀o,S o→S' o)(h2:∀o,S o→∀a,σ[o]? =some a→σ'[o]? =some a):∀{t:jA} {v:AV},jK S σ v t→jK S' σ' v t
 | .nil,v,h=>h
 | .cons t r,v,h=>by
   obtain⟨o,g,cs,hs,hv,ho,a,tl,hc,hx,hl⟩:=h
   exact⟨o,g,cs,h1 o hs,hv,h2 o hs _ ho,a,tl,hc,bP.mono h1 h2 hx,uF.mono h1 h2 hl⟩
theorem uF.mono {S S':Nat→Prop} {σ σ':St} (h1:∀o,S o→S' o)(h2:∀o,S o→∀a,σ[o]? =some a→σ'[o]? =some a):∀{t:jA} {cs:List AV},uF S σ cs t→uF S' σ' cs t
 | .nil,cs,h=>h
 | .cons t r,cs,h=>by
   obtain⟨a,tl,hc,h3,h4⟩:=h
   exact⟨a,tl,hc,bP.mono h1 h2 h3,uF.mono h1 h2 h4⟩
end
mutual
theorem bP.below {S:Nat→Prop} {σ:St} :∀{t:Tr} {v:AV},bP S σ v t→bP (fun o=>S o∧o<σ.length) σ v t
 | .nil,v,h=>h
 | .ex k n name text l r args line,v,h=>by
   obtain⟨o,g,L,R,A,hs,hv,ho,hl,hr,ha⟩:=h
   exact⟨o,g,L,R,A,⟨hs,bK ho⟩,hv,ho,bP.below hl,bP.below hr,jK.below ha⟩
theorem jK.below {S:Nat→Prop} {σ:St} :∀{t:jA} {v:AV},jK S σ v t→jK (fun o=>S o∧o<σ.length) σ v t
 | .nil,v,h=>h
 | .cons t r,v,h=>by
   obtain⟨o,g,cs,hs,hv,ho,a,tl,hc,hx,hl⟩:=h
   exact⟨o,g,cs,⟨hs,bK ho⟩,hv,ho,a,tl,hc,bP.below hx,uF.below hl⟩
theorem uF.below {S:Nat→Prop} {σ:St} :∀{t:jA} {cs:List AV},uF S σ cs t→uF (fun o=>S o∧o<σ.length) σ cs t
 | .nil,cs,h=>h
 | .cons t r,cs,h=>by
   obtain⟨a,tl,hc,h3,h4⟩:=h
   exact⟨a,tl,hc,bP.below h3,uF.below h4⟩
end
structure aN (p:Nat)(σ σ':St):Prop where
 len:σ.length≤σ'.length
 old:∀i,i<σ.length→i≠p→σ'[i]? =σ[i]?
theorem aN.refl (p:Nat)(σ:St):aN p σ σ:=⟨Nat.le_refl _,fun _ _ _=>rfl⟩
theorem aN.trans {p:Nat} {a b c:St} (h:aN p a b)(k:aN p b c):aN p a c:=
 ⟨Nat.le_trans h.len k.len,fun i hi hp=>by rw [k.old i (Nat.lt_of_lt_of_le hi h.len) hp,h.old i hi hp]⟩
theorem aN.of {p:Nat} {a b:St} (h:Ext a b):aN p a b:=⟨h.len,fun i hi _=>h.old i hi⟩
theorem aN.new {p:Nat} {a b:St} (h:aN p a b)(e:Nat)(cs:List AV):aN p a (newCells e cs b):=h.trans (.of ((Ext.refl b).new e cs))
theorem aN.Aq {p:Nat} {a b:St} (h:aN p a b)(x:AO):aN p a (b.set p x):=
 ⟨by rw [gK];exact h.len,fun i hi hp=>by rw [rZ (fun e=>hp e.symm)];exact h.old i hi hp⟩
theorem aN.set {p:Nat} {a b:St} (h:aN p a b) {o:Nat} (ho:a.length≤o)(x:AO):aN p a (b.set o x):=
 ⟨by rw [gK];exact h.len,fun i hi hp=>by rw [rZ (fun e=>by omega)];exact h.old i hi hp⟩
theorem aN.get {p:Nat} {σ σ':St} (h:aN p σ σ') {o:Nat} {a:AO} (hp:o≠p)(ho:σ[o]? =some a):σ'[o]? =some a:=by rw [h.old o (bK ho) hp];exact ho
theorem aN.take {p:Nat} {σ σ':St} (h:aN p σ σ') {n:Nat} (hp:n≤p)(hn:n≤σ.length):σ'.take n=σ.take n:=by
 apply List.ext_getElem?
 intro i
 rw [List.getElem?_take,List.getElem?_take]
 split
 ·exact h.old i (by omega) (by omega)
 ·rfl
end Go.Abs.YtlkfbfhkcaldlaaGreatDoor
namespace Go.Abs.YtlkfbfhkcaldlaaGreatDoor
open Go.Proofs
set_option maxRecDepth 4000
def parV (w g n m d:Nat)(b:Bool)(c l:Nat):List AV:=[.sl w g 0 n 3,.i .i64 m,.i .i64 d,.b b,.i .i64 c,.i .i64 l]
structure PO (p w g:Nat)(all:List Tok)(σ:St)(m d:Nat)(b:Bool)(c l:Nat):Prop where
 obj:σ[p]? =some ⟨0,false,.cells 57 (parV w g all.length m d b c l)⟩
 tok:σ[w]? =some ⟨g,false,.cells 62 (eY all)⟩
 ne:w≠p
 len:all.length≤40000
 at_:m<all.length
 dp:d≤1000
theorem EG:∀(all:List Tok) (m:Nat) (t:Tok),all[m]? =some t→((eY all).drop (m*3)).take 3=uw t.k t.s t.l
 | x :: l,0,t,h=>by cases h;simp [eY,uw]
 | x :: l,m+1,t,h=>by
   have e:eY (x :: l)=uw x.k x.s x.l ++ eY l:=rfl
   rw [e,show (m+1)*3=3+m*3 by omega,←List.drop_drop,List.drop_left' (by rfl)]
   exact EG l m t h
def iK (s:List UInt8)(t:Tok):Bool:=(t.k == 4 || t.k == 3) && t.s == s
def pSet (p w g n:Nat)(σ:St)(m d:Nat)(b:Bool)(c l:Nat):St:=σ.set p ⟨0,false,.cells 57 (parV w g n m d b c l)⟩
theorem PO.set {p w g m d:Nat} {b:Bool} {c l:Nat} {all:List Tok} {σ:St} (h:PO p w g all σ m d b c l) {m' d':Nat} {b':Bool} {c' l':Nat} (hm:m'< all.length)(hd:d'≤1000):PO p w g all (pSet p w g all.length σ m' d' b' c' l') m' d' b' c' l':=
 ⟨at_set h.obj _,aK h.tok h.ne.symm _,h.ne,h.len,hm,hd⟩
end Go.Abs.YtlkfbfhkcaldlaaGreatDoor
namespace Go.Abs.YtlkfbfhkcaldlaaGreatDoor
open Go.Proofs
set_option maxRecDepth 4000
theorem yV {σ σ':St} {v:AV} {Q:AV→St→Prop} {p:Nat} {a b:AO} (ho:σ[p]? =some a)(ho':σ'[p]? =some b)(hab:a≠b)(q:Q v σ'):Fin σ v σ' Q:=Fin.ne (fun e=>by
 have h:=congrArg (fun l=>l[p]?) e
 simp only [List.getElem?_take,if_pos (bK ho),ho,ho'] at h
 exact hab (Option.some.inj h).symm) q
theorem Qd:∀(s:List UInt8) (n:Nat),n≤lD n s
 | [],n=>Nat.le_refl _
 | c :: s,n=>Nat.le_trans (show n≤10*n+(c.toNat - 48) by omega) (Qd s _)
end Go.Abs.YtlkfbfhkcaldlaaGreatDoor
namespace Go.Abs.YtlkfbfhkcaldlaaGreatDoor
open Go.Proofs
set_option maxRecDepth 4000
theorem PO.new {p w g m d c l:Nat} {b:Bool} {all:List Tok} {σ:St} (h:PO p w g all σ m d b c l)(e:Nat)(cs:List AV):PO p w g all (newCells e cs σ) m d b c l:=⟨at_new h.obj _ _,at_new h.tok _ _,h.ne,h.len,h.at_,h.dp⟩
theorem PO.ext {p w g n m d c l:Nat} {b:Bool} {σ:St} :aN p σ (pSet p w g n σ m d b c l):=(aN.refl p σ).Aq _
end Go.Abs.YtlkfbfhkcaldlaaGreatDoor
namespace Go.Abs.YtlkfbfhkcaldlaaGreatDoor
open Go.Proofs
set_option maxRecDepth 4000
def PE (p w g:Nat)(all:List Tok)(σ:St)(d:Nat)(Q:AV→St→Prop):Re Tr→Prop
 | .ok t ts=>∀o g' σ' m' c l,aN p σ σ'→PO p w g all σ' m' d false c l→all.drop m'= ts→bP (fun i=>σ.length≤i) σ' (.p o g' 0) t→Q (.p o g' 0) σ'
 | .bad c l=>∀o g' σ' m',aN p σ σ'→PO p w g all σ' m' d true c l→Q (.p o g' 0) σ'
 | .out=>True
theorem b_ {all:List Tok} {m:Nat} {t:Tok} {r:List Tok} (h:all.drop m=t :: r):all[m]? =some t∧all.drop (m+1)=r:=by
 constructor
 ·have:=congrArg List.head? h
  rw [List.head?_drop] at this;exact this
 ·rw [←List.tail_drop,h];rfl
theorem uG {all:List Tok} {m:Nat} (h:aZ (all.drop m)):m<all.length:=by
 rcases Nat.lt_or_ge m all.length with hl | hl
 ·exact hl
 ·rw [List.drop_of_length_le hl] at h;exact h.elim
def PL (k j:Nat)(p w g:Nat)(all:List Tok)(B:Nat)(σ:St)(d:Nat)(Q:Out→Env→St→Prop):Re Tr→Prop
 | .ok t ts=>∀o g' σ' m' c l e',get e' k= .p o g' 0→aN p σ σ'→PO p w g all σ' m' d false c l→all.drop m'= ts→bP (fun i=>B≤i) σ' (.p o g' 0) t→Q .ret e' σ'
 | .bad c l=>∀o g' σ' m' e',get e' j= .p o g' 0→get e' 1000000= .u→aN p σ σ'→PO p w g all σ' m' d true c l→Q (.exit 0) e' σ'
 | .out=>True
section
variable {p w g:Nat} {all:List Tok} {n:Nat}
theorem aX {s:List UInt8} {m:Nat} {t:Tok} {r:List Tok} (he:aZ (all.drop m))(hts:all.drop m=t :: r)(hi:iK s t=true):m+1<all.length∧aZ (all.drop (m+1))∧(all.drop (m+1)).length<(all.drop m).length:=by
 have h1:=jD (s:=s) he (by rw [hts];exact hi)
 rw [hts] at h1
 have e:all.drop (m+1)=r:=(b_ hts).2
 have h2:aZ (all.drop (m+1)):=by rw [e];exact h1.1
 exact⟨uG h2,h2,by rw [e,hts];simp⟩
end
end Go.Abs.YtlkfbfhkcaldlaaGreatDoor
namespace Go.Abs.YtlkfbfhkcaldlaaGreatDoor
open Go.Proofs
set_option maxRecDepth 4000
theorem PE.to {p w g d:Nat} {all:List Tok} {σ σ1:St} {Q Q':AV→St→Prop} {r:Re Tr} (hQ:PE p w g all σ d Q r)(x1:aN p σ σ1)(k:∀o g' s,Q (.p o g' 0) s→Q' (.p o g' 0) s):PE p w g all σ1 d Q' r:=by
 cases r with
 | out=>trivial
 | bad c l=>exact fun o g' σ2 m2 x2 h2=>k _ _ _ (hQ o g' σ2 m2 (x1.trans x2) h2)
 | ok x ts=>exact fun o g' σ2 m2 c2 l2 x2 h2 hm hex=>k _ _ _ (hQ o g' σ2 m2 c2 l2 (x1.trans x2) h2 hm (bP.mono (fun i hi=>Nat.le_trans x1.len hi) (fun i hi a ha=>ha) hex))
def EH (all:List Tok):Prop:=∀z∈all,z.k=2→(∀c∈z.s,48≤c.toNat∧c.toNat≤57)∧lD 0 z.s<4294967296∧z.s.length≤100000
section
variable {p w g:Nat} {all:List Tok} {n:Nat}
end
end Go.Abs.YtlkfbfhkcaldlaaGreatDoor
namespace Go.Abs.YtlkfbfhkcaldlaaGreatDoor
open Go.Proofs
set_option maxRecDepth 4000
section
variable {p w g:Nat} {all:List Tok} {n:Nat}
theorem PL.ext {k j B d:Nat} {σ σ1:St} {Q:Out→Env→St→Prop} {r:Re Tr} (hQ:PL k j p w g all B σ d Q r)(x1:aN p σ σ1):PL k j p w g all B σ1 d Q r:=by
 cases r with
 | out=>trivial
 | bad c l=>exact fun o g' σ2 m2 e' q1 q2 x2 h2=>hQ o g' σ2 m2 e' q1 q2 (x1.trans x2) h2
 | ok x ts=>exact fun o g' σ2 m2 c2 l2 e' q1 x2 h2 hm hex=>hQ o g' σ2 m2 c2 l2 e' q1 (x1.trans x2) h2 hm hex
theorem bP.ext {B:Nat} {σ σ1:St} {v:AV} {x:Tr} (h:bP (fun i=>B≤i) σ v x)(x1:aN p σ σ1)(hp:p<B):bP (fun i=>B≤i) σ1 v x:=bP.mono (fun i hi=>hi) (fun i hi a ha=>x1.get (by omega) ha) h
theorem PE.toPL {k j d:Nat} {σ σ1:St} {Q:AV→St→Prop} {Q':Out→Env→St→Prop} {r:Re Tr} (hQ:PE p w g all σ d Q r)(x1:aN p σ σ1)(kr:∀o g' s e',get e' k= .p o g' 0→Q (.p o g' 0) s→Q' .ret e' s)
 (kx:∀o g' s e',get e' j= .p o g' 0→get e' 1000000= .u→Q (.p o g' 0) s→Q' (.exit 0) e' s):PL k j p w g all σ.length σ1 d Q' r:=by
 cases r with
 | out=>trivial
 | bad c l=>exact fun o g' σ2 m2 e' q1 q2 x2 h2=>kx _ _ _ _ q1 q2 (hQ o g' σ2 m2 (x1.trans x2) h2)
 | ok x ts=>exact fun o g' σ2 m2 c2 l2 e' q1 x2 h2 hm hex=>kr _ _ _ _ q1 (hQ o g' σ2 m2 c2 l2 (x1.trans x2) h2 hm hex)
end
end Go.Abs.YtlkfbfhkcaldlaaGreatDoor
namespace Go.Abs.YtlkfbfhkcaldlaaGreatDoor
open Go.Proofs
set_option maxRecDepth 4000
theorem G_ (s:List UInt8):aF s≤6:=by
 unfold aF
 repeat' split
 all_goals omega
section
variable {p w g:Nat} {all:List Tok} {n:Nat}
end
end Go.Abs.YtlkfbfhkcaldlaaGreatDoor
namespace Go.Abs.YtlkfbfhkcaldlaaGreatDoor
open Go.Proofs
set_option maxRecDepth 4000
def He (B:Nat)(σ:St)(v:AV)(cs:List AV):Prop:=(cs=[]∧v= .sl0)∨∃o g,B≤o∧v= .sl o g 0 cs.length 1∧σ[o]? =some ⟨g,false,.cells 44 cs⟩∧cs≠[]
def apart (v:AV)(i:Nat):Prop:=∀o g n z,v= .sl o g 0 n z→i≠o
theorem Y3 {B:Nat} {σ:St} {v:AV} {cs:List AV} (h:He B σ v cs) {oy gy:Nat} (hcs:cs.all AV.one=true)(hl:cs.length≤100000) {C:Nat} (hC:σ[C]? =some ⟨0,false,.cells 44 [.p oy gy 0]⟩)(hB:B≤σ.length) {Q:AV→St→Prop}
 (q:∀v' σ',He B σ' v' (cs ++ [.p oy gy 0])→σ.length≤σ'.length→(∀i,i<σ.length→apart v i→σ'[i]? =σ[i]?∧apart v' i)→(∀i,i<B→σ'[i]? =σ[i]?)→(∀i,σ'.length≤i→apart v' i)→Q v' σ') :
 D8 KL.get false 46 v (.sl C 0 0 1 1) σ Q:=by
 constructor
 refine ak (v:=uf) rfl ?_
 refine ak (v:=aW) rfl ?_
 refine ak (kG hC (aU rfl)) ?_
 rcases h with ⟨rfl,rfl⟩ | ⟨o,g,h1,rfl,h3,_⟩
 ·refine⟨aU rfl,?_⟩
  refine q _ _ (.inr ⟨σ.length,0,hB,rfl,?_,by simp⟩) (by rw [aH];omega) (fun i hi _=>⟨eu hi,fun o g n z e=>by cases e;omega⟩) (fun i hi=>eu (by omega)) (fun i hi o g n z e=>by cases e;rw [aH] at hi;omega)
  rw [aG];rfl
 ·refine ak (oC h3) ?_
  refine⟨rfl,by simp,?_,by rw [List.drop_zero,List.take_of_length_le (by omega)];exact hcs,?_⟩
  ·show (cs.length+1)*8≤_;omega
  refine q _ _ (.inr ⟨o,g+1,h1,by simp,?_,by simp⟩) (by rw [gK];exact Nat.le_refl _) (fun i hi ha=>⟨by rw [rZ (fun e=>ha o g _ _ rfl e.symm)],fun o' g' n z e=>by cases e;exact ha o g _ _ rfl⟩) (fun i hi=>by rw [rZ (by omega)]) (fun i hi o' g' n z e=>by cases e;rw [gK] at hi;have:=bK h3;omega)
  rw [at_set h3]
  simp [List.take_of_length_le]
  rfl
def gq (S:Nat→Prop)(σ:St):List AV→List Tr→Prop
 | [],[]=>True
 | a :: cs,x :: xs=>(∃o g,a= .p o g 0)∧bP S σ a x∧gq S σ cs xs
 | _,_=>False
theorem gq.mono {S S':Nat→Prop} {σ σ':St} (h1:∀o,S o→S' o)(h2:∀o,S o→∀a,σ[o]? =some a→σ'[o]? =some a):∀{cs:List AV} {xs:List Tr},gq S σ cs xs→gq S' σ' cs xs
 | [],[],_=>trivial
 | a :: cs,x :: xs,h=>⟨h.1,bP.mono h1 h2 h.2.1,gq.mono h1 h2 h.2.2⟩
theorem gq.snoc {S:Nat→Prop} {σ:St} :∀{cs:List AV} {xs:List Tr} {a:AV} {x:Tr},gq S σ cs xs→(∃o g,a= .p o g 0)→bP S σ a x→gq S σ (cs ++ [a]) (xs ++ [x])
 | [],[],a,x,_,ha,hx=>⟨ha,hx,trivial⟩
 | b :: cs,y :: xs,a,x,h,ha,hx=>⟨h.1,h.2.1,gq.snoc h.2.2 ha hx⟩
theorem gq.len {S:Nat→Prop} {σ:St} :∀{cs:List AV} {xs:List Tr},gq S σ cs xs→cs.length=xs.length
 | [],[],_=>rfl
 | a :: cs,x :: xs,h=>by have:=gq.len h.2.2;simp [this]
theorem gq.one {S:Nat→Prop} {σ:St} :∀{cs:List AV} {xs:List Tr},gq S σ cs xs→cs.all AV.one=true
 | [],[],_=>rfl
 | a :: cs,x :: xs,h=>by
   obtain⟨o,g,rfl⟩:=h.1
   rw [List.all_cons,gq.one h.2.2];rfl
def LD:List Tr→jA
 | []=>.nil
 | x :: xs=>.cons x (LD xs)
def BJ:jA→List Tr
 | .nil=>[]
 | .cons x xs=>x :: BJ xs
theorem to_of:∀xs:jA,LD (BJ xs)=xs
 | .nil=>rfl
 | .cons x xs=>by show jA.cons x (LD (BJ xs))=_;rw [to_of xs]
theorem gq.argL {S:Nat→Prop} {σ:St} :∀{cs:List AV} {xs:List Tr},gq S σ cs xs→uF S σ cs (LD xs)
 | [],[],_=>rfl
 | a :: cs,x :: xs,h=>⟨a,cs,rfl,h.2.1,gq.argL h.2.2⟩
def qI (B:Nat)(σ:St)(v:AV)(xs:List Tr):Prop:=∃cs,He B σ v cs∧gq (fun i=>B≤i∧apart v i) σ cs xs
theorem qI.arg {B:Nat} {σ:St} {v:AV} {xs:List Tr} (h:qI B σ v xs):jK (fun i=>B≤i) σ v (LD xs):=by
 obtain⟨cs,h1,h2'⟩:=h
 have h2:gq (fun i=>B≤i) σ cs xs:=h2'.mono (fun i hi=>hi.1) (fun i hi a ha=>ha)
 rcases h1 with ⟨rfl,rfl⟩ | ⟨o,g,q1,rfl,q3,q4⟩
 ·cases xs with
  | nil=>rfl
  | cons _ _=>exact h2.elim
 ·cases cs with
  | nil=>
    cases xs with
    | nil=>exact(q4 rfl).elim
    | cons _ _=>exact h2.elim
  | cons a cs=>
    cases xs with
    | nil=>exact h2.elim
    | cons x xs=>exact⟨o,g,a :: cs,q1,rfl,q3,a,cs,rfl,h2.2.1,h2.2.2.argL⟩
end Go.Abs.YtlkfbfhkcaldlaaGreatDoor
namespace Go.Abs.YtlkfbfhkcaldlaaGreatDoor
open Go.Proofs
set_option maxRecDepth 4000
structure FP (p B:Nat)(σ σ':St):Prop where
 len:σ.length≤σ'.length
 old:∀i,i<B→i≠p→σ'[i]? =σ[i]?
theorem FP.refl (p B:Nat)(σ:St):FP p B σ σ:=⟨Nat.le_refl _,fun _ _ _=>rfl⟩
theorem FP.trans {p B:Nat} {a b c:St} (h:FP p B a b)(k:FP p B b c):FP p B a c:=⟨Nat.le_trans h.len k.len,fun i hi hp=>by rw [k.old i hi hp,h.old i hi hp]⟩
theorem FP.of {p B:Nat} {a b:St} (h:aN p a b)(hB:B≤a.length):FP p B a b:=⟨h.len,fun i hi hp=>h.old i (by omega) hp⟩
def JI (v:AV):Prop:=v= .sl0∨∃o g n,v= .sl o g 0 n 1
section
variable {p w g:Nat} {all:List Tok} {n:Nat}
theorem He.sl {B:Nat} {σ:St} {v:AV} {cs:List AV} (h:He B σ v cs):JI v:=by
 rcases h with ⟨_,rfl⟩ | ⟨o,g,_,rfl,_⟩
 ·exact .inl rfl
 ·exact .inr ⟨_,_,_,rfl⟩
theorem PO.keep {m d c l:Nat} {b:Bool} {σ σ':St} (h:PO p w g all σ m d b c l)(h1:σ'[p]? =σ[p]?)(h2:σ'[w]? =σ[w]?):PO p w g all σ' m d b c l:=⟨h1.trans h.obj,h2.trans h.tok,h.ne,h.len,h.at_,h.dp⟩
theorem gq.below {S:Nat→Prop} {σ:St} :∀{cs:List AV} {xs:List Tr},gq S σ cs xs→gq (fun o=>S o∧o<σ.length) σ cs xs
 | [],[],_=>trivial
 | a :: cs,x :: xs,h=>⟨h.1,h.2.1.below,h.2.2.below⟩
end
end Go.Abs.YtlkfbfhkcaldlaaGreatDoor
namespace Go.Abs.YtlkfbfhkcaldlaaGreatDoor
open Go.Proofs
set_option maxRecDepth 4000
section
variable {p w g:Nat} {all:List Tok} {n:Nat}
end
end Go.Abs.YtlkfbfhkcaldlaaGreatDoor
namespace Go.Abs.YtlkfbfhkcaldlaaGreatDoor
open Go.Proofs
end Go.Abs.YtlkfbfhkcaldlaaGreatDoor
namespace Go.Abs.YtlkfbfhkcaldlaaGreatDoor
open Go.Proofs
set_option maxRecDepth 4000
section
variable {p w g:Nat} {all:List Tok} {n:Nat}
end
end Go.Abs.YtlkfbfhkcaldlaaGreatDoor
