/- Texts of this claim, joined: Sp, Sq, Sw, Rp, Ra, Rb, Rc, Rd1, Rd2, Rd3, Rd4, Rd5, Rd6, Rd7, Rd8, Re1. -/
import Derived.Test.YtlkfbfhkcaldlaaGreatDoorM14
import Derived.Test.YtlkfbfhkcaldlaaGreatDoorM15
set_option linter.unusedVariables false
set_option linter.unusedSimpArgs false
namespace Go.Abs.YtlkfbfhkcaldlaaGreatDoor
mutual
inductive Tr where
 | nil
 | ex (k n:Nat) (name text:List UInt8) (l r:Tr) (args:jA) (line:Nat)
inductive jA where
 | nil
 | cons (t:Tr) (r:jA)
end
mutual
inductive Sm where
 | st (k:Nat) (name:List UInt8) (ptr:Bool) (l r:Tr) (th el:gY) (line:Nat)
inductive gY where
 | nil
 | cons (s:Sm) (r:gY)
end
structure Fm where
 name:List UInt8
 params:List (List UInt8×Bool)
 ptr:Bool
 body:gY
 line:Nat
inductive Re (α:Type) where
 | ok (a:α) (ts:List Tok)
 | bad (c l:Nat)
 | out
def Re.bind {α β:Type} (r:Re α)(f:α->List Tok->Re β):Re β:=match r with
 | .ok a ts=>f a ts
 | .bad c l=>.bad c l
 | .out=>.out
def aY (s:List UInt8):List Tok->Bool
 | t :: _=>(t.k == 4 || t.k == 3) && t.s == s
 | []=>false
def kW:List Tok->Nat
 | t :: _=>t.l
 | []=>0
def aQ (s:List UInt8)(ts:List Tok):Re Unit:=if aY s ts=true then .ok () ts.tail else .bad 4 (kW ts)
def gV (s:List UInt8)(d:Nat)(ts:List Tok):Re Unit:=if aY s ts=true/\64<=d then .bad 3 (kW ts) else aQ s ts
def fA (ts:List Tok):Re (List UInt8):=match ts with
 | t :: r=>if t.k=1 then .ok t.s r else .bad 4 t.l
 | []=>.out
def aF (s:List UInt8):Nat:=
 if s=[124,124] then 1 else if s=[38,38] then 2 else if s=[61,61]\/s=[33,61] then 3
 else if s=[60]\/s=[60,61]\/s=[62]\/s=[62,61] then 4
 else if s=[43]\/s=[45]\/s=[124]\/s=[94] then 5
 else if s=[42]\/s=[47]\/s=[37]\/s=[38]\/s=[60,60]\/s=[62,62] then 6 else 0
def lD:Nat->List UInt8->Nat
 | n,[]=>n
 | n,c :: l=>lD (10*n+(c.toNat - 48)) l
def qF:List UInt8:=[110,101,119]
def FM:List UInt8:=[105,110]
def jJ:List UInt8:=[101,108,115,101]
def I7:List UInt8:=[105,102]
def Et:List UInt8:=[118,97,114]
def dA:List UInt8:=[112,116,114]
def ql:List UInt8:=[119,104,105,108,101]
def Eu:List UInt8:=[111,117,116]
def uy:List UInt8:=[102,114,101,101]
def oH:List UInt8:=[100,114,97,105,110]
def fD:List UInt8:=[114,101,116,117,114,110]
def pV:List UInt8:=[102,117,110,99]
def Am (t:Tok):Tr:=.ex 1 (lD 0 t.s) [] [] .nil .nil .nil t.l
def qG (nm:List UInt8)(l:Nat):Tr:=.ex 2 0 nm [] .nil .nil .nil l
mutual
def dn:Nat->Nat->Nat->List Tok->Re Tr
 | 0,_,_,_=>.out
 | n+1,d,c,ts=>(xP n d ts).bind fun x ts=>fZ n d c x ts
def fZ:Nat->Nat->Nat->Tr->List Tok->Re Tr
 | 0,_,_,_,_=>.out
 | _+1,_,_,_,[]=>.out
 | n+1,d,c,x,t :: r=>
   if t.k=3/\aF t.s≠0/\¬aF t.s<c then(dn n d (aF t.s+1) r).bind fun y ts=>fZ n d c (.ex 3 0 [] t.s x y .nil t.l) ts
   else .ok x (t :: r)
def xP:Nat->Nat->List Tok->Re Tr
 | 0,_,_=>.out
 | _+1,_,[]=>.out
 | n+1,d,t :: r=>
   if aY [33] (t :: r)=true\/aY [45] (t :: r)=true then
    if 64<=d then .bad 3 t.l else(xP n (d+1) r).bind fun x ts=>.ok (.ex 3 0 [] t.s .nil x .nil t.l) ts
   else gW n d (t :: r)
def gW:Nat->Nat->List Tok->Re Tr
 | 0,_,_=>.out
 | n+1,d,ts=>(dI n d ts).bind fun x ts=>dP n d x ts
def dP:Nat->Nat->Tr->List Tok->Re Tr
 | 0,_,_,_=>.out
 | _+1,_,_,[]=>.out
 | n+1,d,x,t :: r=>
   if aY [91] (t :: r)=true then(gI n d [91] [93] (t :: r)).bind fun y ts=>dP n d (.ex 5 0 [] [] x y .nil t.l) ts
   else if aY [58] (t :: r)=true then(h_ n d r).bind fun y ts=>dP n d (.ex 6 0 [] [] x y .nil t.l) ts
   else .ok x (t :: r)
def gI:Nat->Nat->List UInt8->List UInt8->List Tok->Re Tr
 | 0,_,_,_,_=>.out
 | n+1,d,a,b,ts=>(gV a d ts).bind fun _ ts=>(dn n (d+1) 1 ts).bind fun x ts=>(aQ b ts).bind fun _ ts=>.ok x ts
def h_:Nat->Nat->List Tok->Re Tr
 | 0,_,_=>.out
 | _+1,_,[]=>.out
 | n+1,d,t :: r=>
   if aY [40] (t :: r)=true then gI n d [40] [41] (t :: r)
   else if t.k=2 then .ok (Am t) r
   else(fA (t :: r)).bind fun nm ts=>.ok (qG nm t.l) ts
def dI:Nat->Nat->List Tok->Re Tr
 | 0,_,_=>.out
 | _+1,_,[]=>.out
 | n+1,d,t :: r=>
   if aY [40] (t :: r)=true then gI n d [40] [41] (t :: r)
   else if aY qF (t :: r)=true then(gI n d [40] [41] r).bind fun x ts=>.ok (.ex 7 0 [] [] x .nil .nil t.l) ts
   else if aY FM (t :: r)=true then(gV [40] d r).bind fun _ ts=>(aQ [41] ts).bind fun _ ts=>.ok (.ex 8 0 [] [] .nil .nil .nil t.l) ts
   else if t.k=2 then .ok (Am t) r
   else(fA (t :: r)).bind fun nm ts=>
    if aY [40] ts=true then(gV [40] d ts).bind fun _ ts=>(fG n (d+1) true ts).bind fun a ts=>(aQ [41] ts).bind fun _ ts=>.ok (.ex 4 0 nm [] .nil .nil a t.l) ts
    else .ok (qG nm t.l) ts
def fG:Nat->Nat->Bool->List Tok->Re jA
 | 0,_,_,_=>.out
 | n+1,d,first,ts=>
   if aY [41] ts=true then .ok .nil ts
   else(if first=true then .ok () ts else aQ [44] ts).bind fun _ ts=>(dn n d 1 ts).bind fun x ts=>(fG n d false ts).bind fun xs ts=>.ok (.cons x xs) ts
end
mutual
def dD:Nat->Nat->List Tok->Re gY
 | 0,_,_=>.out
 | n+1,d,ts=>(gV [123] d ts).bind fun _ ts=>(eG n (d+1) ts).bind fun l ts=>(aQ [125] ts).bind fun _ ts=>.ok l ts
def eG:Nat->Nat->List Tok->Re gY
 | 0,_,_=>.out
 | n+1,d,ts=>
   if aY [125] ts=true then .ok .nil ts
   else(fE n d ts).bind fun x ts=>(eG n d ts).bind fun l ts=>.ok (.cons x l) ts
def dQ:Nat->Nat->Nat->List Tok->Re Sm
 | 0,_,_,_=>.out
 | n+1,d,line,ts=>(dn n d 1 ts).bind fun c ts=>(dD n d ts).bind fun th ts=>
   if aY jJ ts=true then
    if aY I7 ts.tail=true then(dQ n d (kW ts.tail) ts.tail.tail).bind fun b ts=>.ok (.st 4 [] false .nil c th (.cons b .nil) line) ts
    else(dD n d ts.tail).bind fun el ts=>.ok (.st 4 [] false .nil c th el line) ts
   else .ok (.st 4 [] false .nil c th .nil line) ts
def bU:Nat->Nat->List Tok->Re Tr
 | 0,_,_=>.out
 | n+1,d,ts=>(dn n d 1 ts).bind fun x ts=>(aQ [59] ts).bind fun _ ts=>.ok x ts
def fE:Nat->Nat->List Tok->Re Sm
 | 0,_,_=>.out
 | _+1,_,[]=>.out
 | n+1,d,t :: r=>
   if aY Et (t :: r)=true then(fA r).bind fun nm ts=>
    let p:=aY dA ts
    let ts:=if p=true then ts.tail else ts
    if aY [61] ts=true then(bU n d ts.tail).bind fun x ts=>.ok (.st 1 nm p .nil x .nil .nil t.l) ts
    else(aQ [59] ts).bind fun _ ts=>.ok (.st 1 nm p .nil .nil .nil .nil t.l) ts
   else if aY I7 (t :: r)=true then dQ n d t.l r
   else if aY ql (t :: r)=true then(dn n d 1 r).bind fun c ts=>(dD n d ts).bind fun th ts=>.ok (.st 5 [] false .nil c th .nil t.l) ts
   else if aY Eu (t :: r)=true then(bU n d r).bind fun x ts=>.ok (.st 6 [] false .nil x .nil .nil t.l) ts
   else if aY uy (t :: r)=true then(bU n d r).bind fun x ts=>.ok (.st 7 [] false .nil x .nil .nil t.l) ts
   else if aY oH (t :: r)=true then(aQ [59] r).bind fun _ ts=>.ok (.st 8 [] false .nil .nil .nil .nil t.l) ts
   else if aY fD (t :: r)=true then
    if aY [59] r=true then .ok (.st 9 [] false .nil .nil .nil .nil t.l) r.tail
    else(bU n d r).bind fun x ts=>.ok (.st 9 [] false .nil x .nil .nil t.l) ts
   else(gW n d (t :: r)).bind fun x ts=>match x with
    | .nil=>.out
    | .ex k _ nm _ _ _ _ _=>
      if aY [61] ts=true then
        if k=2 then(bU n d ts.tail).bind fun y ts=>.ok (.st 2 nm false .nil y .nil .nil t.l) ts
        else if k=5\/k=6 then(bU n d ts.tail).bind fun y ts=>.ok (.st 3 [] false x y .nil .nil t.l) ts
        else .bad 4 (kW ts)
      else if k=4 then(aQ [59] ts).bind fun _ ts=>.ok (.st 10 [] false .nil x .nil .nil t.l) ts
      else .bad 4 (kW ts)
end
def cZ:Nat->Bool->List Tok->Re (List (List UInt8×Bool))
 | 0,_,_=>.out
 | n+1,first,ts=>
   if aY [41] ts=true then .ok [] ts
   else(if first=true then .ok () ts else aQ [44] ts).bind fun _ ts=>(fA ts).bind fun nm ts=>
    let p:=aY dA ts
    (cZ n false (if p=true then ts.tail else ts)).bind fun l ts=>.ok ((nm,p) :: l) ts
def kH (n:Nat)(ts:List Tok):Re Fm:=(aQ pV ts).bind fun _ bI=>(fA bI).bind fun nm bI=>(gV [40] 0 bI).bind fun _ bI=>(cZ n true bI).bind fun ps bI=>(aQ [41] bI).bind fun _ bI=>
 let p:=aY dA bI
 (dD n 0 (if p=true then bI.tail else bI)).bind fun b bI=>.ok ⟨nm,ps,p,b,kW ts⟩ bI
def eH:Nat->List Tok->Re (List Fm)
 | 0,_=>.out
 | _+1,[]=>.out
 | n+1,t :: r=>if t.k=5 then .ok [] (t :: r) else(kH n (t :: r)).bind fun f ts=>(eH n ts).bind fun l ts=>.ok (f :: l) ts
end Go.Abs.YtlkfbfhkcaldlaaGreatDoor
namespace Go.Abs.YtlkfbfhkcaldlaaGreatDoor
def aZ:List Tok->Prop
 | []=>False
 | t :: r=>if r=[] then t.k=5 else aZ r
theorem aZ.tail {t:Tok} {r:List Tok} (h:aZ (t :: r))(hk:t.k≠5):aZ r:=by
 unfold aZ at h
 split at h
 ·exact(hk h).elim
 ·exact h
theorem aZ.ne {ts:List Tok} (h:aZ ts):∃t r,ts=t :: r:=by
 cases ts with
 | nil=>exact h.elim
 | cons t r=>exact⟨t,r,rfl⟩
theorem iY {s:List UInt8} {t:Tok} {r:List Tok} (h:aY s (t :: r)=true):t.k≠5:=by
 unfold aY at h
 simp only [fJ,Bool.or_eq_true,beq_iff_eq] at h
 rcases h.1 with h | h <;> rw [h] <;> decide
theorem jD {s:List UInt8} {ts:List Tok} (he:aZ ts)(h:aY s ts=true):aZ ts.tail/\ts.tail.length<ts.length:=by
 obtain⟨t,r,rfl⟩:=he.ne
 exact⟨he.tail (iY h),by simp⟩
def Gd {α:Type} (V:α->Prop)(r:Re α)(L:Nat):Prop:=match r with
 | .ok a ts=>V a/\aZ ts/\ts.length<L
 | .bad _ _=>True
 | .out=>False
theorem Gd.bind {α β:Type} {V:α->Prop} {U:β->Prop} {r:Re α} {f:α->List Tok->Re β} {L M:Nat} (h:Gd V r L)(hf:∀a ts,V a->aZ ts->ts.length<L->Gd U (f a ts) M):Gd U (r.bind f) M:=by
 cases r with
 | ok a ts=>exact hf a ts h.1 h.2.1 h.2.2
 | bad c l=>trivial
 | out=>exact h.elim
theorem Gd.mono {α:Type} {V:α->Prop} {r:Re α} {L M:Nat} (h:Gd V r L)(hl:L<=M):Gd V r M:=by
 cases r with
 | ok a ts=>exact⟨h.1,h.2.1,Nat.lt_of_lt_of_le h.2.2 hl⟩
 | bad c l=>trivial
 | out=>exact h.elim
theorem jq (s:List UInt8) {ts:List Tok} (he:aZ ts):Gd (fun _=>True) (aQ s ts) ts.length:=by
 unfold aQ
 split
 ·rename_i h;exact⟨trivial,jD he h⟩
 ·trivial
theorem vI (s:List UInt8)(d:Nat) {ts:List Tok} (he:aZ ts):Gd (fun _=>True) (gV s d ts) ts.length:=by
 unfold gV
 split
 ·trivial
 ·exact jq s he
theorem vJ {ts:List Tok} (he:aZ ts):Gd (fun _=>True) (fA ts) ts.length:=by
 obtain⟨t,r,rfl⟩:=he.ne
 unfold fA
 simp only
 split
 ·rename_i h;exact⟨trivial,he.tail (by rw [h];decide),by simp⟩
 ·trivial
abbrev An {α:Type} :α->Prop:=fun _=>True
def I8:Tr->Prop
 | .nil=>False
 | _=>True
structure AllE (n:Nat):Prop where
 expr:∀d c ts,aZ ts->10*ts.length+9<=n->Gd I8 (dn n d c ts) ts.length
 loop:∀d c x ts,I8 x->aZ ts->10*ts.length+9<=n->Gd I8 (fZ n d c x ts) (ts.length+1)
 un:∀d ts,aZ ts->10*ts.length+8<=n->Gd I8 (xP n d ts) ts.length
 post:∀d ts,aZ ts->10*ts.length+7<=n->Gd I8 (gW n d ts) ts.length
 uz:∀d x ts,I8 x->aZ ts->10*ts.length+9<=n->Gd I8 (dP n d x ts) (ts.length+1)
 with_:∀d a b ts,aZ ts->10*ts.length+5<=n->Gd I8 (gI n d a b ts) ts.length
 cell:∀d ts,aZ ts->10*ts.length+6<=n->Gd I8 (h_ n d ts) ts.length
 first:∀d ts,aZ ts->10*ts.length+6<=n->Gd I8 (dI n d ts) ts.length
 args:∀d f ts,aZ ts->10*ts.length+10<=n->Gd An (fG n d f ts) (ts.length+1)
theorem uD:∀n,AllE n
 | 0=>⟨fun _ _ _ _ h=>by omega,fun _ _ _ _ _ _ h=>by omega,fun _ _ _ h=>by omega,fun _ _ _ h=>by omega,fun _ _ _ _ _ h=>by omega,fun _ _ _ _ _ h=>by omega,fun _ _ _ h=>by omega,fun _ _ _ h=>by omega,fun _ _ _ _ h=>by omega⟩
 | n+1=>by
   have ih:=uD n
   refine⟨fun d c ts he hn=>?_,fun d c x ts hx he hn=>?_,fun d ts he hn=>?_,fun d ts he hn=>?_,fun d x ts hx he hn=>?_,fun d a b ts he hn=>?_,fun d ts he hn=>?_,fun d ts he hn=>?_,fun d f ts he hn=>?_⟩
   ·unfold dn
    exact(ih.un d ts he (by omega)).bind fun x ts' hx he' hl=>(ih.loop d c x ts' hx he' (by omega)).mono (by omega)
   ·obtain⟨t,r,rfl⟩:=he.ne
    unfold fZ
    simp only [bg] at hn
    split
    ·rename_i h
     have her:=he.tail (by rw [h.1];decide)
     exact(ih.expr d _ r her (by omega)).bind fun y ts' _ he' hl=>(ih.loop d c (.ex 3 0 [] t.s x y .nil t.l) ts' trivial he' (by omega)).mono (by simp;omega)
    ·exact⟨hx,he,Nat.lt_succ_self _⟩
   ·obtain⟨t,r,rfl⟩:=he.ne
    unfold xP
    simp only [bg] at hn
    split
    ·rename_i h
     have her:aZ r:=by rcases h with h | h <;> exact he.tail (iY h)
     split
     ·trivial
     ·exact(ih.un (d+1) r her (by omega)).bind fun x ts' _ he' hl=>⟨trivial,he',by simp;omega⟩
    ·exact ih.post d _ he (by simp only [bg];omega)
   ·unfold gW
    exact(ih.first d ts he (by omega)).bind fun x ts' hx he' hl=>(ih.uz d x ts' hx he' (by omega)).mono (by omega)
   ·obtain⟨t,r,rfl⟩:=he.ne
    unfold dP
    simp only [bg] at hn
    split
    ·rename_i h
     exact(ih.with_ d _ _ _ he (by simp only [bg];omega)).bind fun y ts' _ he' hl=>(ih.uz d (.ex 5 0 [] [] x y .nil t.l) ts' trivial he' (by simp only [bg] at hl;omega)).mono (by omega)
    ·split
     ·rename_i h
      have her:=he.tail (iY h)
      exact(ih.cell d r her (by omega)).bind fun y ts' _ he' hl=>(ih.uz d (.ex 6 0 [] [] x y .nil t.l) ts' trivial he' (by omega)).mono (by simp;omega)
     ·exact⟨hx,he,Nat.lt_succ_self _⟩
   ·unfold gI
    exact(vI a d he).bind fun _ bI _ he1 hl1=>(ih.expr (d+1) 1 bI he1 (by omega)).bind fun x dM hx he2 hl2=>(jq b he2).bind fun _ vK _ he3 hl3=>⟨hx,he3,by omega⟩
   ·obtain⟨t,r,rfl⟩:=he.ne
    unfold h_
    simp only [bg] at hn
    split
    ·exact ih.with_ d _ _ _ he (by simp only [bg];omega)
    ·split
     ·rename_i h;exact⟨trivial,he.tail (by rw [h];decide),by simp⟩
     ·exact(vJ he).bind fun nm bI _ he1 hl1=>⟨trivial,he1,hl1⟩
   ·obtain⟨t,r,rfl⟩:=he.ne
    unfold dI
    simp only [bg] at hn
    split
    ·exact ih.with_ d _ _ _ he (by simp only [bg];omega)
    ·split
     ·rename_i h
      have her:=he.tail (iY h)
      exact(ih.with_ d _ _ r her (by omega)).bind fun x bI _ he1 hl1=>⟨trivial,he1,by simp;omega⟩
     ·split
      ·rename_i h
       have her:=he.tail (iY h)
       exact(vI _ d her).bind fun _ bI _ he1 hl1=>(jq _ he1).bind fun _ dM _ he2 hl2=>⟨trivial,he2,by simp;omega⟩
      ·split
       ·rename_i h;exact⟨trivial,he.tail (by rw [h];decide),by simp⟩
       ·refine(vJ he).bind fun nm bI _ he1 hl1=>?_
        simp only [bg] at hl1
        split
        ·exact(vI _ d he1).bind fun _ dM _ he2 hl2=>(ih.args (d+1) true dM he2 (by omega)).bind fun a vK _ he3 hl3=>(jq _ he3).bind fun _ wW _ he4 hl4=>⟨trivial,he4,by simp;omega⟩
        ·exact⟨trivial,he1,by simp;omega⟩
   ·unfold fG
    split
    ·exact⟨trivial,he,Nat.lt_succ_self _⟩
    ·have h1:Gd An (if f=true then Re.ok () ts else aQ [44] ts) (ts.length+1):=by
      split
      ·exact⟨trivial,he,Nat.lt_succ_self _⟩
      ·exact(jq _ he).mono (Nat.le_succ _)
     exact h1.bind fun _ bI _ he1 hl1=>(ih.expr d 1 bI he1 (by omega)).bind fun x dM _ he2 hl2=>(ih.args d false dM he2 (by omega)).bind fun xs vK _ he3 hl3=>⟨trivial,he3,by omega⟩
structure AllS (n:Nat):Prop where
 block:∀d ts,aZ ts->10*ts.length+10<=n->Gd An (dD n d ts) ts.length
 stmts:∀d ts,aZ ts->10*ts.length+15<=n->Gd An (eG n d ts) (ts.length+1)
 branch:∀d l ts,aZ ts->10*ts.length+12<=n->Gd An (dQ n d l ts) ts.length
 ended:∀d ts,aZ ts->10*ts.length+10<=n->Gd An (bU n d ts) ts.length
 stmt:∀d ts,aZ ts->10*ts.length+14<=n->Gd An (fE n d ts) ts.length
theorem FN:∀n,AllS n
 | 0=>⟨fun _ _ _ h=>by omega,fun _ _ _ h=>by omega,fun _ _ _ _ h=>by omega,fun _ _ _ h=>by omega,fun _ _ _ h=>by omega⟩
 | n+1=>by
   have ih:=FN n
   have ie:=uD n
   refine⟨fun d ts he hn=>?_,fun d ts he hn=>?_,fun d l ts he hn=>?_,fun d ts he hn=>?_,fun d ts he hn=>?_⟩
   ·unfold dD
    exact(vI _ d he).bind fun _ bI _ he1 hl1=>(ih.stmts (d+1) bI he1 (by omega)).bind fun l dM _ he2 hl2=>(jq _ he2).bind fun _ vK _ he3 hl3=>⟨trivial,he3,by omega⟩
   ·unfold eG
    split
    ·exact⟨trivial,he,Nat.lt_succ_self _⟩
    ·exact(ih.stmt d ts he (by omega)).bind fun x bI _ he1 hl1=>(ih.stmts d bI he1 (by omega)).bind fun l dM _ he2 hl2=>⟨trivial,he2,by omega⟩
   ·unfold dQ
    refine(ie.expr d 1 ts he (by omega)).bind fun c bI _ he1 hl1=>(ih.block d bI he1 (by omega)).bind fun th dM _ he2 hl2=>?_
    split
    ·rename_i h
     obtain⟨he3,hl3⟩:=jD he2 h
     split
     ·rename_i h2
      obtain⟨he4,hl4⟩:=jD he3 h2
      exact(ih.branch d _ _ he4 (by omega)).bind fun b su _ Vp hl5=>⟨trivial,Vp,by omega⟩
     ·exact(ih.block d _ he3 (by omega)).bind fun b su _ Vp hl5=>⟨trivial,Vp,by omega⟩
    ·exact⟨trivial,he2,by omega⟩
   ·unfold bU
    exact(ie.expr d 1 ts he (by omega)).bind fun x bI _ he1 hl1=>(jq _ he1).bind fun _ dM _ he2 hl2=>⟨trivial,he2,by omega⟩
   ·obtain⟨t,r,rfl⟩:=he.ne
    unfold fE
    simp only [bg] at hn
    split
    ·rename_i h
     have her:=he.tail (iY h)
     refine(vJ her).bind fun nm bI _ he1 hl1=>?_
     have h2:aZ (if aY dA bI=true then bI.tail else bI)/\(if aY dA bI=true then bI.tail else bI).length<=bI.length:=by
      split
      ·rename_i h2
       obtain⟨a,b⟩:=jD he1 h2
       exact⟨a,by omega⟩
      ·exact⟨he1,Nat.le_refl _⟩
     simp only
     generalize (if aY dA bI=true then bI.tail else bI)=dM at h2
     split
     ·rename_i h3
      obtain⟨he3,hl3⟩:=jD h2.1 h3
      exact(ih.ended d _ he3 (by omega)).bind fun x wW _ he4 hl4=>⟨trivial,he4,by simp;omega⟩
     ·exact(jq _ h2.1).bind fun _ wW _ he4 hl4=>⟨trivial,he4,by simp;omega⟩
    ·split
     ·rename_i h;exact(ih.branch d _ r (he.tail (iY h)) (by omega)).mono (by simp)
     ·split
      ·rename_i h
       exact(ie.expr d 1 r (he.tail (iY h)) (by omega)).bind fun c bI _ he1 hl1=>(ih.block d bI he1 (by omega)).bind fun th dM _ he2 hl2=>⟨trivial,he2,by simp;omega⟩
      ·split
       ·rename_i h
        exact(ih.ended d r (he.tail (iY h)) (by omega)).bind fun x bI _ he1 hl1=>⟨trivial,he1,by simp;omega⟩
       ·split
        ·rename_i h
         exact(ih.ended d r (he.tail (iY h)) (by omega)).bind fun x bI _ he1 hl1=>⟨trivial,he1,by simp;omega⟩
        ·split
         ·rename_i h
          exact(jq _ (he.tail (iY h))).bind fun _ bI _ he1 hl1=>⟨trivial,he1,by simp;omega⟩
         ·split
          ·rename_i h
           have her:=he.tail (iY h)
           split
           ·rename_i h2
            obtain⟨he2,hl2⟩:=jD her h2
            exact⟨trivial,he2,by simp;omega⟩
           ·exact(ih.ended d r her (by omega)).bind fun x bI _ he1 hl1=>⟨trivial,he1,by simp;omega⟩
          ·refine(ie.post d _ he (by simp only [bg];omega)).bind fun x bI hx he1 hl1=>?_
           cases x with
           | nil=>exact hx.elim
           | ex k n' nm tx l r' a ln=>
             simp only
             split
             ·rename_i h2
              obtain⟨he2,hl2⟩:=jD he1 h2
              simp only [bg] at hl1
              split
              ·exact(ih.ended d _ he2 (by omega)).bind fun y dM _ he3 hl3=>⟨trivial,he3,by simp;omega⟩
              ·split
               ·exact(ih.ended d _ he2 (by omega)).bind fun y dM _ he3 hl3=>⟨trivial,he3,by simp;omega⟩
               ·trivial
             ·split
              ·exact(jq _ he1).bind fun _ dM _ he2 hl2=>⟨trivial,he2,by omega⟩
              ·trivial
theorem vM:∀(n:Nat) (f:Bool) (ts:List Tok),aZ ts->ts.length+1<=n->Gd An (cZ n f ts) (ts.length+1)
 | 0,_,_,_,h=>by omega
 | n+1,f,ts,he,hn=>by
   unfold cZ
   split
   ·exact⟨trivial,he,Nat.lt_succ_self _⟩
   ·have h1:Gd An (if f=true then Re.ok () ts else aQ [44] ts) (ts.length+1):=by
     split
     ·exact⟨trivial,he,Nat.lt_succ_self _⟩
     ·exact(jq _ he).mono (Nat.le_succ _)
    refine h1.bind fun _ bI _ he1 hl1=>(vJ he1).bind fun nm dM _ he2 hl2=>?_
    have h2:aZ (if aY dA dM=true then dM.tail else dM)/\(if aY dA dM=true then dM.tail else dM).length<=dM.length:=by
     split
     ·rename_i h2
      obtain⟨a,b⟩:=jD he2 h2
      exact⟨a,by omega⟩
     ·exact⟨he2,Nat.le_refl _⟩
    simp only
    generalize (if aY dA dM=true then dM.tail else dM)=vK at h2
    exact(vM n false vK h2.1 (by omega)).bind fun l wW _ he4 hl4=>⟨trivial,he4,by omega⟩
theorem Qc (n:Nat)(ts:List Tok)(he:aZ ts)(hn:10*ts.length+10<=n):Gd An (kH n ts) ts.length:=by
 unfold kH
 refine(jq _ he).bind fun _ bI _ he1 hl1=>(vJ he1).bind fun nm dM _ he2 hl2=>(vI _ 0 he2).bind fun _ vK _ he3 hl3=>(vM n true vK he3 (by omega)).bind fun ps wW _ he4 hl4=>(jq _ he4).bind fun _ su _ Vp hl5=>?_
 have h2:aZ (if aY dA su=true then su.tail else su)/\(if aY dA su=true then su.tail else su).length<=su.length:=by
  split
  ·rename_i h2
   obtain⟨a,b⟩:=jD Vp h2
   exact⟨a,by omega⟩
  ·exact⟨Vp,Nat.le_refl _⟩
 simp only
 generalize (if aY dA su=true then su.tail else su)=Xj at h2
 exact((FN n).block 0 Xj h2.1 (by omega)).bind fun b ts7 _ he7 hl7=>⟨trivial,he7,by omega⟩
theorem Ls:∀(n:Nat) (ts:List Tok),aZ ts->10*ts.length+11<=n->Gd An (eH n ts) (ts.length+1)
 | 0,_,_,h=>by omega
 | n+1,ts,he,hn=>by
   obtain⟨t,r,rfl⟩:=he.ne
   unfold eH
   split
   ·exact⟨trivial,he,Nat.lt_succ_self _⟩
   ·simp only [bg] at hn
    exact(Qc n _ he (by simp only [bg];omega)).bind fun f bI _ he1 hl1=>(Ls n bI he1 (by simp only [bg] at hl1;omega)).bind fun l dM _ he2 hl2=>⟨trivial,he2,by omega⟩
end Go.Abs.YtlkfbfhkcaldlaaGreatDoor
namespace Go.Abs.YtlkfbfhkcaldlaaGreatDoor
def kM:jA->List Tr
 | .nil=>[]
 | .cons t r=>t :: kM r
def jy:gY->List Sm
 | .nil=>[]
 | .cons t r=>t :: jy r
mutual
def wT:Tr->Nat
 | .nil=>0
 | .ex _ _ _ _ l r a _=>wT l+wT r+Fj a
def Fj:jA->Nat
 | .nil=>0
 | .cons t r=>1+wT t+Fj r
end
mutual
def wS:Sm->Nat
 | .st _ _ _ l r th el _=>wT l+wT r+yT th+yT el
def yT:gY->Nat
 | .nil=>0
 | .cons t r=>1+wS t+yT r
end
def wF (f:Fm):Nat:=f.params.length+yT f.body
def Nl:List Fm->Nat
 | []=>0
 | f :: l=>1+wF f+Nl l
theorem I9:∀l:jA,(kM l).length<=Fj l
 | .nil=>Nat.le_refl _
 | .cons t r=>by have:=I9 r;simp only [kM,Fj,bg];omega
theorem I_:∀l:gY,(jy l).length<=yT l
 | .nil=>Nat.le_refl _
 | .cons t r=>by have:=I_ r;simp only [jy,yT,bg];omega
theorem Ja:∀l:List Fm,l.length<=Nl l
 | []=>Nat.le_refl _
 | t :: r=>by have:=Ja r;simp only [Nl,bg];omega
theorem Vq:∀(l:jA) (i:Nat) (t:Tr),(kM l)[i]? =some t->wT t+1<=Fj l
 | .nil,i,t,h=>by simp [kM] at h
 | .cons a r,0,t,h=>by simp only [kM,List.getElem?_cons_zero,oW] at h;subst h;simp only [Fj];omega
 | .cons a r,i+1,t,h=>by
   simp only [kM,List.getElem?_cons_succ] at h
   have:=Vq r i t h;simp only [Fj];omega
theorem Lu:∀(l:gY) (i:Nat) (t:Sm),(jy l)[i]? =some t->wS t+1<=yT l
 | .nil,i,t,h=>by simp [jy] at h
 | .cons a r,0,t,h=>by simp only [jy,List.getElem?_cons_zero,oW] at h;subst h;simp only [yT];omega
 | .cons a r,i+1,t,h=>by
   simp only [jy,List.getElem?_cons_succ] at h
   have:=Lu r i t h;simp only [yT];omega
theorem Vr:∀(l:List Fm) (i:Nat) (t:Fm),l[i]? =some t->wF t+1<=Nl l
 | [],i,t,h=>by simp at h
 | a :: r,0,t,h=>by simp only [List.getElem?_cons_zero,oW] at h;subst h;simp only [Nl];omega
 | a :: r,i+1,t,h=>by
   simp only [List.getElem?_cons_succ] at h
   have:=Vr r i t h;simp only [Nl];omega
def Gw {α:Type} (w:α->Nat)(r:Re α)(L:Nat):Prop:=match r with
 | .ok a ts=>w a+ts.length<=L
 | _=>True
theorem Gw.bind {α β:Type} {w:α->Nat} {u:β->Nat} {r:Re α} {f:α->List Tok->Re β} {L M:Nat} (h:Gw w r L)(hf:∀a ts,w a+ts.length<=L->Gw u (f a ts) M):Gw u (r.bind f) M:=by
 cases r with
 | ok a ts=>exact hf a ts h
 | bad c l=>trivial
 | out=>trivial
theorem Gw.mono {α:Type} {w:α->Nat} {r:Re α} {L M:Nat} (h:Gw w r L)(hl:L<=M):Gw w r M:=by
 cases r with
 | ok a ts=>exact Nat.le_trans h hl
 | bad c l=>trivial
 | out=>trivial
abbrev w1 {α:Type} :α->Nat:=fun _=>1
abbrev w0 {α:Type} :α->Nat:=fun _=>0
theorem CP {s:List UInt8} {ts:List Tok} (h:aY s ts=true):ts.tail.length+1=ts.length:=by
 cases ts with
 | nil=>simp [aY] at h
 | cons t r=>rfl
theorem iZ (ts:List Tok):ts.tail.length<=ts.length:=by cases ts <;> simp
theorem jr (s:List UInt8)(ts:List Tok):Gw w1 (aQ s ts) ts.length:=by
 unfold aQ
 split
 ·rename_i h;have:=CP h;show 1+_<=_;omega
 ·trivial
theorem vN (s:List UInt8)(d:Nat)(ts:List Tok):Gw w1 (gV s d ts) ts.length:=by
 unfold gV
 split
 ·trivial
 ·exact jr s ts
theorem vO (ts:List Tok):Gw w1 (fA ts) ts.length:=by
 unfold fA
 split
 ·split
  ·show 1+_<=_;simp;omega
  ·trivial
 ·trivial
abbrev BI:Tr->Nat:=fun x=>1+wT x
abbrev wS1:Sm->Nat:=fun x=>1+wS x
abbrev Vs:gY->Nat:=fun x=>1+yT x
structure WtE (n:Nat):Prop where
 expr:∀d c ts,Gw BI (dn n d c ts) ts.length
 loop:∀d c x ts,Gw wT (fZ n d c x ts) (wT x+ts.length)
 un:∀d ts,Gw BI (xP n d ts) ts.length
 post:∀d ts,Gw BI (gW n d ts) ts.length
 uz:∀d x ts,Gw wT (dP n d x ts) (wT x+ts.length)
 with_:∀d a b ts,Gw BI (gI n d a b ts) ts.length
 cell:∀d ts,Gw BI (h_ n d ts) ts.length
 first:∀d ts,Gw BI (dI n d ts) ts.length
 args:∀d f ts,Gw Fj (fG n d f ts) ts.length
theorem wtE:∀n,WtE n
 | 0=>⟨fun _ _ _=>by unfold dn;trivial,fun _ _ _ _=>by unfold fZ;trivial,fun _ _=>by unfold xP;trivial,fun _ _=>by unfold gW;trivial,fun _ _ _=>by unfold dP;trivial,fun _ _ _ _=>by unfold gI;trivial,fun _ _=>by unfold h_;trivial,fun _ _=>by unfold dI;trivial,fun _ _ _=>by unfold fG;trivial⟩
 | n+1=>by
   have ih:=wtE n
   refine⟨fun d c ts=>?_,fun d c x ts=>?_,fun d ts=>?_,fun d ts=>?_,fun d x ts=>?_,fun d a b ts=>?_,fun d ts=>?_,fun d ts=>?_,fun d f ts=>?_⟩
   ·unfold dn
    refine(ih.un d ts).bind fun x ts' hx=>?_
    have:=ih.loop d c x ts'
    cases hr:fZ n d c x ts' with
    | ok a dM=>rw [hr] at this;have h:wT a+dM.length<=wT x+ts'.length:=this;show 1+wT a+dM.length<=_;simp only [BI] at hx;omega
    | bad c l=>trivial
    | out=>trivial
   ·cases ts with
    | nil=>unfold fZ;trivial
    | cons t r=>
      unfold fZ
      split
      ·refine(ih.expr d _ r).bind fun y ts' hy=>(ih.loop d c (.ex 3 0 [] t.s x y .nil t.l) ts').mono ?_
       simp only [BI] at hy;simp only [wT,Fj,bg];omega
      ·exact Nat.le_refl _
   ·cases ts with
    | nil=>unfold xP;trivial
    | cons t r=>
      unfold xP
      split
      ·split
       ·trivial
       ·refine(ih.un (d+1) r).bind fun x ts' hx=>?_
        simp only [BI] at hx;show 1+wT _+_<=_;simp only [wT,Fj,bg];omega
      ·exact ih.post d _
   ·unfold gW
    refine(ih.first d ts).bind fun x ts' hx=>?_
    have:=ih.uz d x ts'
    cases hr:dP n d x ts' with
    | ok a dM=>rw [hr] at this;have h:wT a+dM.length<=wT x+ts'.length:=this;show 1+wT a+dM.length<=_;simp only [BI] at hx;omega
    | bad c l=>trivial
    | out=>trivial
   ·cases ts with
    | nil=>unfold dP;trivial
    | cons t r=>
      unfold dP
      split
      ·refine(ih.with_ d _ _ _).bind fun y ts' hy=>(ih.uz d (.ex 5 0 [] [] x y .nil t.l) ts').mono ?_
       simp only [BI] at hy;simp only [wT,Fj];omega
      ·split
       ·refine(ih.cell d r).bind fun y ts' hy=>(ih.uz d (.ex 6 0 [] [] x y .nil t.l) ts').mono ?_
        simp only [BI] at hy;simp only [wT,Fj,bg];omega
       ·exact Nat.le_refl _
   ·unfold gI
    refine(vN a d ts).bind fun _ bI h1=>(ih.expr (d+1) 1 bI).bind fun x dM h2=>(jr b dM).bind fun _ vK h3=>?_
    simp only [BI,w1] at *;show 1+wT x+_<=_;omega
   ·cases ts with
    | nil=>unfold h_;trivial
    | cons t r=>
      unfold h_
      split
      ·exact ih.with_ d _ _ _
      ·split
       ·show 1+wT (Am t)+_<=_;simp only [Am,wT,Fj,bg];omega
       ·refine(vO _).bind fun nm bI h1=>?_
        simp only [w1] at h1;show 1+wT (qG nm t.l)+_<=_;simp only [qG,wT,Fj];omega
   ·cases ts with
    | nil=>unfold dI;trivial
    | cons t r=>
      unfold dI
      split
      ·exact ih.with_ d _ _ _
      ·split
       ·refine(ih.with_ d _ _ r).bind fun x bI h1=>?_
        simp only [BI] at h1;show 1+wT _+_<=_;simp only [wT,Fj,bg];omega
       ·split
        ·refine(vN _ d r).bind fun _ bI h1=>(jr _ bI).bind fun _ dM h2=>?_
         simp only [w1] at *;show 1+wT _+_<=_;simp only [wT,Fj,bg];omega
        ·split
         ·show 1+wT (Am t)+_<=_;simp only [Am,wT,Fj,bg];omega
         ·refine(vO _).bind fun nm bI h1=>?_
          simp only [w1] at h1
          split
          ·refine(vN _ d bI).bind fun _ dM h2=>(ih.args (d+1) true dM).bind fun a vK h3=>(jr _ vK).bind fun _ wW h4=>?_
           simp only [w1] at *;show 1+wT _+_<=_;simp only [wT];omega
          ·show 1+wT (qG nm t.l)+_<=_;simp only [qG,wT,Fj];omega
   ·unfold fG
    split
    ·show 0+_<=_;omega
    ·have h1:Gw w0 (if f=true then Re.ok () ts else aQ [44] ts) ts.length:=by
      split
      ·show 0+_<=_;omega
      ·have:=jr [44] ts
       cases hr:aQ [44] ts with
       | ok a dM=>rw [hr] at this;have h:1+dM.length<=ts.length:=this;show 0+_<=_;omega
       | bad c l=>trivial
       | out=>trivial
     refine h1.bind fun _ bI h1=>(ih.expr d 1 bI).bind fun x dM h2=>(ih.args d false dM).bind fun xs vK h3=>?_
     simp only [BI,w0] at *;show Fj _+_<=_;simp only [Fj];omega
structure WtS (n:Nat):Prop where
 block:∀d ts,Gw Vs (dD n d ts) ts.length
 stmts:∀d ts,Gw yT (eG n d ts) ts.length
 branch:∀d l ts,Gw wS1 (dQ n d l ts) ts.length
 ended:∀d ts,Gw BI (bU n d ts) ts.length
 stmt:∀d ts,Gw wS1 (fE n d ts) ts.length
theorem vP (ts:List Tok):(if aY dA ts=true then ts.tail else ts).length<=ts.length:=by
 split
 ·exact iZ ts
 ·exact Nat.le_refl _
theorem wtS:∀n,WtS n
 | 0=>⟨fun _ _=>by unfold dD;trivial,fun _ _=>by unfold eG;trivial,fun _ _ _=>by unfold dQ;trivial,fun _ _=>by unfold bU;trivial,fun _ _=>by unfold fE;trivial⟩
 | n+1=>by
   have ih:=wtS n
   have ie:=wtE n
   refine⟨fun d ts=>?_,fun d ts=>?_,fun d l ts=>?_,fun d ts=>?_,fun d ts=>?_⟩
   ·unfold dD
    refine(vN _ d ts).bind fun _ bI h1=>(ih.stmts (d+1) bI).bind fun l dM h2=>(jr _ dM).bind fun _ vK h3=>?_
    simp only [w1] at *;show 1+yT l+_<=_;omega
   ·unfold eG
    split
    ·show 0+_<=_;omega
    ·refine(ih.stmt d ts).bind fun x bI h1=>(ih.stmts d bI).bind fun l dM h2=>?_
     simp only [wS1] at *;show yT _+_<=_;simp only [yT];omega
   ·unfold dQ
    refine(ie.expr d 1 ts).bind fun c bI h1=>(ih.block d bI).bind fun th dM h2=>?_
    simp only [BI,Vs] at *
    have t1:=iZ dM
    have t2:=iZ dM.tail
    have t3:=iZ dM.tail.tail
    split
    ·split
     ·refine(ih.branch d _ _).bind fun b su h5=>?_
      simp only [wS1] at *;show 1+wS _+_<=_;simp only [wS,yT,wT];omega
     ·refine(ih.block d _).bind fun b su h5=>?_
      simp only [Vs] at *;show 1+wS _+_<=_;simp only [wS,wT];omega
    ·show 1+wS _+_<=_;simp only [wS,yT,wT];omega
   ·unfold bU
    refine(ie.expr d 1 ts).bind fun c bI h1=>(jr _ bI).bind fun _ dM h2=>?_
    simp only [BI,w1] at *;show 1+wT c+_<=_;omega
   ·cases ts with
    | nil=>unfold fE;trivial
    | cons t r=>
      unfold fE
      split
      ·refine(vO r).bind fun nm bI h1=>?_
       have h2:=vP bI
       simp only [w1] at h1 ⊢
       generalize (if aY dA bI=true then bI.tail else bI)=dM at h2 ⊢
       have t2:=iZ dM
       split
       ·refine(ih.ended d _).bind fun x wW h4=>?_
        simp only [BI] at *;show 1+wS _+_<=_;simp only [wS,yT,wT,bg];omega
       ·refine(jr _ dM).bind fun _ wW h4=>?_
        simp only [w1] at *;show 1+wS _+_<=_;simp only [wS,yT,wT,bg];omega
      ·split
       ·exact(ih.branch d _ r).mono (by simp)
       ·split
        ·refine(ie.expr d 1 r).bind fun c bI h1=>(ih.block d bI).bind fun th dM h2=>?_
         simp only [BI,Vs] at *;show 1+wS _+_<=_;simp only [wS,yT,wT,bg];omega
        ·split
         ·refine(ih.ended d r).bind fun x bI h1=>?_
          simp only [BI] at *;show 1+wS _+_<=_;simp only [wS,yT,wT,bg];omega
         ·split
          ·refine(ih.ended d r).bind fun x bI h1=>?_
           simp only [BI] at *;show 1+wS _+_<=_;simp only [wS,yT,wT,bg];omega
          ·split
           ·refine(jr _ r).bind fun x bI h1=>?_
            simp only [w1] at *;show 1+wS _+_<=_;simp only [wS,yT,wT,bg];omega
           ·split
            ·split
             ·have:=iZ r;show 1+wS _+_<=_;simp only [wS,yT,wT,bg];omega
             ·refine(ih.ended d r).bind fun x bI h1=>?_
              simp only [BI] at *;show 1+wS _+_<=_;simp only [wS,yT,wT,bg];omega
            ·refine(ie.post d _).bind fun x bI h1=>?_
             have t1:=iZ bI
             cases x with
             | nil=>trivial
             | ex k n' nm tx l r' a ln=>
               simp only [BI] at h1 ⊢
               split
               ·split
                ·refine(ih.ended d _).bind fun y dM h2=>?_
                 simp only [BI,wT] at *;show 1+wS _+_<=_;simp only [wS,yT,wT];omega
                ·split
                 ·refine(ih.ended d _).bind fun y dM h2=>?_
                  simp only [BI,wT] at *;show 1+wS _+_<=_;simp only [wS,yT,wT];omega
                 ·trivial
               ·split
                ·refine(jr _ bI).bind fun _ dM h2=>?_
                 simp only [w1,wT] at *;show 1+wS _+_<=_;simp only [wS,yT,wT];omega
                ·trivial
theorem G9:∀(n:Nat) (f:Bool) (ts:List Tok),Gw List.length (cZ n f ts) ts.length
 | 0,_,_=>trivial
 | n+1,f,ts=>by
   unfold cZ
   split
   ·show 0+_<=_;omega
   ·have h1:Gw w0 (if f=true then Re.ok () ts else aQ [44] ts) ts.length:=by
     split
     ·show 0+_<=_;omega
     ·have:=jr [44] ts
      cases hr:aQ [44] ts with
      | ok a dM=>rw [hr] at this;have h:1+dM.length<=ts.length:=this;show 0+_<=_;omega
      | bad c l=>trivial
      | out=>trivial
    refine h1.bind fun _ bI h1=>(vO bI).bind fun nm dM h2=>?_
    have h3:=vP dM
    simp only [w1,w0] at *
    generalize (if aY dA dM=true then dM.tail else dM)=vK at h3 ⊢
    refine(G9 n false vK).bind fun l wW h4=>?_
    show (_ :: l).length+_<=_
    simp only [bg];omega
theorem gw_func (n:Nat)(ts:List Tok):Gw (fun f=>1+wF f) (kH n ts) ts.length:=by
 unfold kH
 refine(jr _ ts).bind fun _ bI h1=>(vO bI).bind fun nm dM h2=>(vN _ 0 dM).bind fun _ vK h3=>(G9 n true vK).bind fun ps wW h4=>(jr _ wW).bind fun _ su h5=>?_
 have h6:=vP su
 simp only [w1] at *
 generalize (if aY dA su=true then su.tail else su)=Xj at h6 ⊢
 refine((wtS n).block 0 Xj).bind fun b ts7 h7=>?_
 simp only [Vs] at *;show 1+wF _+_<=_;simp only [wF];omega
theorem LC:∀(n:Nat) (ts:List Tok),Gw Nl (eH n ts) ts.length
 | 0,_=>trivial
 | _+1,[]=>trivial
 | n+1,t :: r=>by
   unfold eH
   split
   ·show 0+_<=_;omega
   ·refine(gw_func n _).bind fun f bI h1=>(LC n bI).bind fun l dM h2=>?_
    show Nl _+_<=_;simp only [Nl];omega
mutual
def mV:Tr->Tr->Bool
 | .nil,.nil=>true
 | .ex k n nm tx l r al1 _,.ex k' n' nm' tx' l' r' al2 _=>(k == k' && n == n' && nm == nm' && tx == tx') && (jY al1 al2 && mV l l' && mV r r')
 | _,_=>false
def jY:jA->jA->Bool
 | .nil,.nil=>true
 | .cons a r,.cons b s=>mV a b && jY r s
 | _,_=>false
end
mutual
def qH:Sm->Sm->Bool
 | .st k nm p l r th el _,.st k' nm' p' l' r' Xk Xl _=>(k == k' && nm == nm' && p == p') && (mV l l' && mV r r' && jl th Xk && jl el Xl)
def jl:gY->gY->Bool
 | .nil,.nil=>true
 | .cons a r,.cons b s=>qH a b && jl r s
 | _,_=>false
end
def yU (f g:Fm):Bool:=f.name == g.name && f.ptr == g.ptr && f.params == g.params && jl f.body g.body
def jQ:List Fm->List Fm->Bool
 | [],[]=>true
 | a :: r,b :: s=>yU a b && jQ r s
 | _,_=>false
theorem Ew:∀(a b:jA),(kM a).length=(kM b).length->(∀(i:Nat) x y,(kM a)[i]? =some x->(kM b)[i]? =some y->mV x y=true)->jY a b=true
 | .nil,.nil,_,_=>rfl
 | .cons a r,.cons b s,hl,h=>by
   rw [jY,h 0 a b rfl rfl,Ew r s (by simpa [kM] using hl) fun i x y hx hy=>h (i+1) x y hx hy];rfl
 | .nil,.cons _ _,h,_=>by simp [kM] at h
 | .cons _ _,.nil,h,_=>by simp [kM] at h
theorem xQ:∀(a b:jA),(kM a).length≠(kM b).length->jY a b=false
 | .nil,.nil,h=>(h rfl).elim
 | .cons a r,.cons b s,h=>by
   rw [jY,xQ r s (by simpa [kM] using h)];simp
 | .nil,.cons _ _,_=>rfl
 | .cons _ _,.nil,_=>rfl
theorem Ey:∀(a b:jA) (i:Nat) (x y:Tr),(kM a)[i]? =some x->(kM b)[i]? =some y->mV x y=false->jY a b=false
 | .nil,.nil,i,x,y,h,_,_=>by simp [kM] at h
 | .cons a r,.cons b s,0,x,y,hx,hy,h=>by
   simp only [kM,List.getElem?_cons_zero,oW] at hx hy;subst hx;subst hy
   rw [jY,h];rfl
 | .cons a r,.cons b s,i+1,x,y,hx,hy,h=>by
   rw [jY,Ey r s i x y hx hy h];simp
 | .nil,.cons _ _,i,x,y,h,_,_=>by simp [kM] at h
 | .cons _ _,.nil,i,x,y,_,h,_=>by simp [kM] at h
theorem Ez:∀(a b:gY),(jy a).length=(jy b).length->(∀(i:Nat) x y,(jy a)[i]? =some x->(jy b)[i]? =some y->qH x y=true)->jl a b=true
 | .nil,.nil,_,_=>rfl
 | .cons a r,.cons b s,hl,h=>by
   rw [jl,h 0 a b rfl rfl,Ez r s (by simpa [jy] using hl) fun i x y hx hy=>h (i+1) x y hx hy];rfl
 | .nil,.cons _ _,h,_=>by simp [jy] at h
 | .cons _ _,.nil,h,_=>by simp [jy] at h
theorem xR:∀(a b:gY),(jy a).length≠(jy b).length->jl a b=false
 | .nil,.nil,h=>(h rfl).elim
 | .cons a r,.cons b s,h=>by
   rw [jl,xR r s (by simpa [jy] using h)];simp
 | .nil,.cons _ _,_=>rfl
 | .cons _ _,.nil,_=>rfl
theorem EC:∀(a b:gY) (i:Nat) (x y:Sm),(jy a)[i]? =some x->(jy b)[i]? =some y->qH x y=false->jl a b=false
 | .nil,.nil,i,x,y,h,_,_=>by simp [jy] at h
 | .cons a r,.cons b s,0,x,y,hx,hy,h=>by
   simp only [jy,List.getElem?_cons_zero,oW] at hx hy;subst hx;subst hy
   rw [jl,h];rfl
 | .cons a r,.cons b s,i+1,x,y,hx,hy,h=>by
   rw [jl,EC r s i x y hx hy h];simp
 | .nil,.cons _ _,i,x,y,h,_,_=>by simp [jy] at h
 | .cons _ _,.nil,i,x,y,_,h,_=>by simp [jy] at h
theorem ED:∀(a b:List Fm),a.length=b.length->(∀(i:Nat) x y,a[i]? =some x->b[i]? =some y->yU x y=true)->jQ a b=true
 | [],[],_,_=>rfl
 | a :: r,b :: s,hl,h=>by
   rw [jQ,h 0 a b rfl rfl,ED r s (by simpa using hl) fun i x y hx hy=>h (i+1) x y hx hy];rfl
 | [],_ :: _,h,_=>by simp at h
 | _ :: _,[],h,_=>by simp at h
theorem xU:∀(a b:List Fm),a.length≠b.length->jQ a b=false
 | [],[],h=>(h rfl).elim
 | a :: r,b :: s,h=>by
   rw [jQ,xU r s (by simpa using h)];simp
 | [],_ :: _,_=>rfl
 | _ :: _,[],_=>rfl
theorem EF:∀(a b:List Fm) (i:Nat) (x y:Fm),a[i]? =some x->b[i]? =some y->yU x y=false->jQ a b=false
 | [],[],i,x,y,h,_,_=>by simp at h
 | a :: r,b :: s,0,x,y,hx,hy,h=>by
   simp only [List.getElem?_cons_zero,oW] at hx hy;subst hx;subst hy
   rw [jQ,h];rfl
 | a :: r,b :: s,i+1,x,y,hx,hy,h=>by
   rw [jQ,EF r s i x y hx hy h];simp
 | [],_ :: _,i,x,y,h,_,_=>by simp at h
 | _ :: _,[],i,x,y,_,h,_=>by simp at h
end Go.Abs.YtlkfbfhkcaldlaaGreatDoor
namespace Go.Abs.YtlkfbfhkcaldlaaGreatDoor
open Go.Proofs
set_option maxRecDepth 4000
mutual
def bP (S:Nat->Prop)(Z:St)(v:AV):Tr->Prop
 | .nil=>v= .p0
 | .ex k n name text l r args line=>∃(o g:Nat) (L R A:AV),S o/\v= .p o g 0/\Z[o]? =some ⟨g,false,.cells 48 [.i .i64 k,.i .u32 n,.s name,.s text,L,R,A,.i .i64 line]⟩/\bP S Z L l/\bP S Z R r/\jK S Z A args
def jK (S:Nat->Prop)(Z:St)(v:AV):jA->Prop
 | .nil=>v= .sl0
 | .cons t r=>∃(o g:Nat) (cs:List AV),S o/\v= .sl o g 0 cs.length 1/\Z[o]? =some ⟨g,false,.cells 44 cs⟩/\∃a tl,cs=a :: tl/\bP S Z a t/\uF S Z tl r
def uF (S:Nat->Prop)(Z:St)(cs:List AV):jA->Prop
 | .nil=>cs=[]
 | .cons t r=>∃a tl,cs=a :: tl/\bP S Z a t/\uF S Z tl r
end
mutual
theorem bP.mono {S S':Nat->Prop} {Z Z':St} (h1:∀o,S o->S' o)(h2:∀o,S o->∀a,Z[o]? =some a->Z'[o]? =some a):∀{t:Tr} {v:AV},bP S Z v t->bP S' Z' v t
 | .nil,v,h=>h
 | .ex k n name text l r args line,v,h=>by
   obtain⟨o,g,L,R,A,hs,hv,ho,hl,hr,ha⟩:=h
   exact⟨o,g,L,R,A,h1 o hs,hv,h2 o hs _ ho,bP.mono h1 h2 hl,bP.mono h1 h2 hr,jK.mono h1 h2 ha⟩
theorem jK.mono {S S':Nat->Prop} {Z Z':St} (h1:∀o,S o->S' o)(h2:∀o,S o->∀a,Z[o]? =some a->Z'[o]? =some a):∀{t:jA} {v:AV},jK S Z v t->jK S' Z' v t
 | .nil,v,h=>h
 | .cons t r,v,h=>by
   obtain⟨o,g,cs,hs,hv,ho,a,tl,hc,hx,hl⟩:=h
   exact⟨o,g,cs,h1 o hs,hv,h2 o hs _ ho,a,tl,hc,bP.mono h1 h2 hx,uF.mono h1 h2 hl⟩
theorem uF.mono {S S':Nat->Prop} {Z Z':St} (h1:∀o,S o->S' o)(h2:∀o,S o->∀a,Z[o]? =some a->Z'[o]? =some a):∀{t:jA} {cs:List AV},uF S Z cs t->uF S' Z' cs t
 | .nil,cs,h=>h
 | .cons t r,cs,h=>by
   obtain⟨a,tl,hc,h3,h4⟩:=h
   exact⟨a,tl,hc,bP.mono h1 h2 h3,uF.mono h1 h2 h4⟩
end
mutual
theorem bP.below {S:Nat->Prop} {Z:St} :∀{t:Tr} {v:AV},bP S Z v t->bP (fun o=>S o/\o<Z.length) Z v t
 | .nil,v,h=>h
 | .ex k n name text l r args line,v,h=>by
   obtain⟨o,g,L,R,A,hs,hv,ho,hl,hr,ha⟩:=h
   exact⟨o,g,L,R,A,⟨hs,bK ho⟩,hv,ho,bP.below hl,bP.below hr,jK.below ha⟩
theorem jK.below {S:Nat->Prop} {Z:St} :∀{t:jA} {v:AV},jK S Z v t->jK (fun o=>S o/\o<Z.length) Z v t
 | .nil,v,h=>h
 | .cons t r,v,h=>by
   obtain⟨o,g,cs,hs,hv,ho,a,tl,hc,hx,hl⟩:=h
   exact⟨o,g,cs,⟨hs,bK ho⟩,hv,ho,a,tl,hc,bP.below hx,uF.below hl⟩
theorem uF.below {S:Nat->Prop} {Z:St} :∀{t:jA} {cs:List AV},uF S Z cs t->uF (fun o=>S o/\o<Z.length) Z cs t
 | .nil,cs,h=>h
 | .cons t r,cs,h=>by
   obtain⟨a,tl,hc,h3,h4⟩:=h
   exact⟨a,tl,hc,bP.below h3,uF.below h4⟩
end
structure aN (p:Nat)(Z Z':St):Prop where
 len:Z.length<=Z'.length
 old:∀i,i<Z.length->i≠p->Z'[i]? =Z[i]?
theorem aN.refl (p:Nat)(Z:St):aN p Z Z:=⟨Nat.le_refl _,fun _ _ _=>rfl⟩
theorem aN.trans {p:Nat} {a b c:St} (h:aN p a b)(k:aN p b c):aN p a c:=
 ⟨Nat.le_trans h.len k.len,fun i hi hp=>by rw [k.old i (Nat.lt_of_lt_of_le hi h.len) hp,h.old i hi hp]⟩
theorem aN.of {p:Nat} {a b:St} (h:Ext a b):aN p a b:=⟨h.len,fun i hi _=>h.old i hi⟩
theorem aN.new {p:Nat} {a b:St} (h:aN p a b)(e:Nat)(cs:List AV):aN p a (newCells e cs b):=h.trans (.of ((Ext.refl b).new e cs))
theorem aN.Aq {p:Nat} {a b:St} (h:aN p a b)(x:AO):aN p a (b.set p x):=
 ⟨by rw [gK];exact h.len,fun i hi hp=>by rw [rZ (fun e=>hp e.symm)];exact h.old i hi hp⟩
theorem aN.set {p:Nat} {a b:St} (h:aN p a b) {o:Nat} (ho:a.length<=o)(x:AO):aN p a (b.set o x):=
 ⟨by rw [gK];exact h.len,fun i hi hp=>by rw [rZ (fun e=>by omega)];exact h.old i hi hp⟩
theorem aN.get {p:Nat} {Z Z':St} (h:aN p Z Z') {o:Nat} {a:AO} (hp:o≠p)(ho:Z[o]? =some a):Z'[o]? =some a:=by rw [h.old o (bK ho) hp];exact ho
theorem aN.take {p:Nat} {Z Z':St} (h:aN p Z Z') {n:Nat} (hp:n<=p)(hn:n<=Z.length):Z'.take n=Z.take n:=by
 apply List.ext_getElem?
 intro i
 rw [List.getElem?_take,List.getElem?_take]
 split
 ·exact h.old i (by omega) (by omega)
 ·rfl
end Go.Abs.YtlkfbfhkcaldlaaGreatDoor
namespace Go.Abs.YtlkfbfhkcaldlaaGreatDoor
open Go.Proofs
set_option maxRecDepth 4000
def aar (w g n m d:Nat)(b:Bool)(c l:Nat):List AV:=[.sl w g 0 n 3,.i .i64 m,.i .i64 d,.b b,.i .i64 c,.i .i64 l]
structure PO (p w g:Nat)(all:List Tok)(Z:St)(m d:Nat)(b:Bool)(c l:Nat):Prop where
 obj:Z[p]? =some ⟨0,false,.cells 57 (aar w g all.length m d b c l)⟩
 tok:Z[w]? =some ⟨g,false,.cells 62 (eY all)⟩
 ne:w≠p
 len:all.length<=40000
 at_:m<all.length
 dp:d<=1000
theorem EG:∀(all:List Tok) (m:Nat) (t:Tok),all[m]? =some t->((eY all).drop (m*3)).take 3=uw t.k t.s t.l
 | x :: l,0,t,h=>by cases h;simp [eY,uw]
 | x :: l,m+1,t,h=>by
   have e:eY (x :: l)=uw x.k x.s x.l ++ eY l:=rfl
   rw [e,show (m+1)*3=3+m*3 by omega,<-List.drop_drop,List.drop_left' (by rfl)]
   exact EG l m t h
theorem aao {p w g m d:Nat} {b:Bool} {c l:Nat} {all:List Tok} {Z:St} {t:Tok} (h:PO p w g all Z m d b c l)(ht:all[m]? =some t):au X 17 [.p p 0 0] Z fun v s=>v= .ag (uw t.k t.s t.l)/\s=Z:=by
 have hl:=h.len
 have hm:=h.at_
 have h1:(newCells 62 [.i .i64 0,.s [],.i .i64 0] Z)[p]? =_:=at_new h.obj _ _
 have h2:(newCells 62 [.i .i64 0,.s [],.i .i64 0] Z)[w]? =_:=at_new h.tok _ _
 refine au.body (F:=F17) ay (lit:=false) rfl rfl (aU rfl) ?_
 conv=>whnf
 refine ak (aj (T:=qC) rfl rfl (ah h1) rfl) ?_
 conv=>whnf
 refine ak (aj (T:=fF) rfl rfl (ah h1) rfl) ?_
 conv=>whnf
 refine ak (aj (T:=qC) rfl rfl (ah h1) rfl) ?_
 conv=>whnf
 refine⟨((all.length - 1:Nat):Int),by rw [wrap_i64 (by omega) (by omega)];omega,?_⟩
 conv=>whnf
 refine⟨m,by rw [if_neg (by decide)];omega,hm,?_⟩
 conv=>whnf
 refine ak (gU (T:=BR) rfl rfl (ah h2) (by rw [nP];show 0+m*3+3<=_;omega)) ?_
 rw [show ((eY all).drop (0+m*3)).take (BR).size=uw t.k t.s t.l by rw [Nat.zero_add];exact EG all m t ht]
 conv=>whnf
 refine ak (aC (T:=BR) (uw t.k t.s t.l) rfl (aG _ _ _) rfl rfl (by decide) rfl) ?_
 conv=>whnf
 refine ak (gU (T:=BR) rfl rfl (ah (at_set (aG _ _ _) _)) (aU rfl)) ?_
 conv=>whnf
 exact Fin.flat rfl (((Ext.refl Z).new _ _).set (Nat.le_refl _) _).take ⟨rfl,rfl⟩
def iK (s:List UInt8)(t:Tok):Bool:=(t.k == 4 || t.k == 3) && t.s == s
theorem aaq {p w g m d:Nat} {b:Bool} {c l:Nat} {all:List Tok} {Z:St} {t:Tok} (s:List UInt8)(h:PO p w g all Z m d b c l)(ht:all[m]? =some t):au X 38 [.p p 0 0,.s s] Z fun v s'=>v= .b (!b && iK s t)/\s'= Z:=by
 refine au.body (F:=F38) ay (lit:=false) rfl rfl (aU rfl) ?_
 conv=>whnf
 refine au.to (aao h ht) ?_
 conv=>whnf
 refine ak (aC (T:=BR) (uw t.k t.s t.l) rfl (aG _ _ _) rfl rfl (by decide) rfl) ?_
 conv=>whnf
 have hp:p<Z.length:=bK h.obj
 have h1:((newCells 62 [.i .i64 0,.s [],.i .i64 0] Z).set Z.length ⟨0,false,.cells 62 (uw t.k t.s t.l)⟩)[p]? =_:=aK (at_new h.obj _ _) (by omega) _
 have h3:((newCells 62 [.i .i64 0,.s [],.i .i64 0] Z).set Z.length ⟨0,false,.cells 62 (uw t.k t.s t.l)⟩)[Z.length]? =_:=at_set (aG _ _ _) _
 have hx:=(((Ext.refl Z).new 62 [.i .i64 0,.s [],.i .i64 0]).set (Nat.le_refl _) ⟨0,false,.cells 62 (uw t.k t.s t.l)⟩).take
 refine ak (aj (T:=xH) rfl rfl (ah h1) rfl) ?_
 cases b with
 | true=>
   conv=>whnf
   exact Fin.flat rfl hx ⟨rfl,rfl⟩
 | false=>
   conv=>whnf
   refine ak (aj (T:=fF) rfl rfl (ah h3) rfl) ?_
   conv=>whnf
   by_cases h4:t.k=4
   ·rw [decide_eq_true (by omega)]
    conv=>whnf
    refine ak (aj (T:=fB) rfl rfl (ah h3) rfl) ?_
    conv=>whnf
    cases he:t.s == s <;> (conv=>whnf)
    ·exact Fin.flat rfl hx ⟨by simp [iK,h4,he],rfl⟩
    ·exact Fin.flat rfl hx ⟨by simp [iK,h4,he],rfl⟩
   ·rw [decide_eq_false (by omega)]
    conv=>whnf
    refine ak (aj (T:=fF) rfl rfl (ah h3) rfl) ?_
    conv=>whnf
    by_cases h5:t.k=3
    ·rw [decide_eq_true (by omega)]
     conv=>whnf
     refine ak (aj (T:=fB) rfl rfl (ah h3) rfl) ?_
     conv=>whnf
     cases he:t.s == s <;> (conv=>whnf)
     ·exact Fin.flat rfl hx ⟨by simp [iK,h5,he],rfl⟩
     ·exact Fin.flat rfl hx ⟨by simp [iK,h5,he],rfl⟩
    ·rw [decide_eq_false (by omega)]
     conv=>whnf
     exact Fin.flat rfl hx ⟨by simp [iK,h4,h5],rfl⟩
def V3 (p w g n:Nat)(Z:St)(m d:Nat)(b:Bool)(c l:Nat):St:=Z.set p ⟨0,false,.cells 57 (aar w g n m d b c l)⟩
theorem PO.set {p w g m d:Nat} {b:Bool} {c l:Nat} {all:List Tok} {Z:St} (h:PO p w g all Z m d b c l) {m' d':Nat} {b':Bool} {c' l':Nat} (hm:m'< all.length)(hd:d'<=1000):PO p w g all (V3 p w g all.length Z m' d' b' c' l') m' d' b' c' l':=
 ⟨at_set h.obj _,aK h.tok h.ne.symm _,h.ne,h.len,hm,hd⟩
theorem pSet_set {p w g n:Nat} {Z:St} {m d:Nat} {b:Bool} {c l m' d':Nat} {b':Bool} {c' l':Nat} :V3 p w g n (V3 p w g n Z m d b c l) m' d' b' c' l'= V3 p w g n Z m' d' b' c' l':=by
 unfold V3;rw [List.set_set]
theorem dW {p w g n:Nat} {Z:St} {m d:Nat} {b:Bool} {c l:Nat} :(V3 p w g n Z m d b c l).length=Z.length:=by unfold V3;rw [gK]
theorem sW {p w g m d:Nat} {b:Bool} {c l:Nat} {all:List Tok} {Z:St} {t:Tok} (s:List UInt8)(h:PO p w g all Z m d b c l)(ht:all[m]? =some t) {Q:AV->St->Prop}
 (q1:b=false->iK s t=true->Q (.b true) (V3 p w g all.length Z (m+1) d b c l)) (q0:(!b && iK s t)=false->Q (.b false) Z):au X 39 [.p p 0 0,.s s] Z Q:=by
 have hl:=h.len
 have hm:=h.at_
 refine au.body (F:=F39) ay (lit:=false) rfl rfl (aU rfl) ?_
 conv=>whnf
 refine au.to (aaq s h ht) ?_
 cases hi:(!b && iK s t) with
 | false=>
   conv=>whnf
   exact Fin.flat rfl iq (q0 hi)
 | true=>
   rw [fJ,Bool.not_eq_true'] at hi
   conv=>whnf
   refine ak (aj (T:=fF) rfl rfl (ah h.obj) rfl) ?_
   conv=>whnf
   refine⟨((m+1:Nat):Int),by rw [wrap_i64 (by omega) (by omega)];omega,?_⟩
   conv=>whnf
   refine ak (aC (T:=fF) (aar w g all.length (m+1) d b c l) rfl h.obj rfl rfl (aU rfl) rfl) ?_
   conv=>whnf
   exact Fin.same dW (q1 hi.1 hi.2)
theorem fail_to {p w g m d:Nat} {b:Bool} {c l:Nat} {all:List Tok} {Z:St} {t:Tok} (e:Nat)(h:PO p w g all Z m d b c l)(ht:all[m]? =some t) {Q:AV->St->Prop}
 (q1:b=false->Q (.tu []) (V3 p w g all.length Z m d true e t.l)) (q0:b=true->Q (.tu []) Z):au X 74 [.p p 0 0,.i .i64 e] Z Q:=by
 have hl:=h.len
 have hm:=h.at_
 refine au.body (F:=F74) ay (lit:=false) rfl rfl (aU rfl) ?_
 conv=>whnf
 refine ak (aj (T:=xH) rfl rfl (ah h.obj) rfl) ?_
 cases b with
 | true=>
   conv=>whnf
   exact Fin.flat rfl iq (q0 rfl)
 | false=>
   conv=>whnf
   refine ak (aC (T:=xH) (aar w g all.length m d true c l) rfl h.obj rfl rfl (aU rfl) rfl) ?_
   have h':=h.set (m':=m) (d':=d) (b':=true) (c':=c) (l':=l) hm h.dp
   conv=>whnf
   refine au.to (aao h' ht) ?_
   conv=>whnf
   refine ak (aC (T:=aaw) (aar w g all.length m d true e t.l) rfl h'.obj rfl rfl (aU rfl) rfl) ?_
   conv=>whnf
   have e1:=pSet_set (p:=p) (w:=w) (g:=g) (n:=all.length) (Z:=Z) (m:=m) (d:=d) (b:=true) (c:=c) (l:=l) (m':=m) (d':=d) (b':=true) (c':=e) (l':=t.l)
   unfold V3 at e1
   rw [e1]
   exact Fin.same dW (q1 rfl)
theorem aap {p w g m d c l:Nat} {all:List Tok} {Z:St} {t:Tok} (s:List UInt8)(h:PO p w g all Z m d false c l)(ht:all[m]? =some t) {Q:AV->St->Prop}
 (q1:iK s t=true->Q (.tu []) (V3 p w g all.length Z (m+1) d false c l)) (q0:iK s t=false->Q (.tu []) (V3 p w g all.length Z m d true 4 t.l)):au X 35 [.p p 0 0,.s s] Z Q:=by
 refine au.body (F:=F35) ay (lit:=false) rfl rfl (aU rfl) ?_
 conv=>whnf
 refine sW s h ht (fun _ h1=>?_) (fun h0=>?_)
 ·conv=>whnf
  exact Fin.same dW (q1 h1)
 ·conv=>whnf
  refine fail_to 4 h ht (fun _=>?_) (fun e=>by cases e)
  conv=>whnf
  exact Fin.same dW (q0 (by simpa using h0))
theorem aay {p w g m d c l:Nat} {all:List Tok} {Z:St} {t:Tok} (s:List UInt8)(h:PO p w g all Z m d true c l)(ht:all[m]? =some t) {Q:AV->St->Prop} (q:Q (.tu []) Z):au X 35 [.p p 0 0,.s s] Z Q:=by
 refine au.body (F:=F35) ay (lit:=false) rfl rfl (aU rfl) ?_
 conv=>whnf
 refine sW s h ht (fun e=>by cases e) (fun _=>?_)
 conv=>whnf
 refine fail_to 4 h ht (fun e=>by cases e) (fun _=>?_)
 conv=>whnf
 exact Fin.flat rfl iq q
theorem open_to {p w g m d c l:Nat} {all:List Tok} {Z:St} {t:Tok} (s:List UInt8)(h:PO p w g all Z m d false c l)(ht:all[m]? =some t)(hd:d+1<=1000)(hn:iK s t=true->m+1<all.length) {Q:AV->St->Prop}
 (q1:iK s t=true->d<64->Q (.tu []) (V3 p w g all.length Z (m+1) (d+1) false c l)) (q2:iK s t=true->64<=d->Q (.tu []) (V3 p w g all.length Z m (d+1) true 3 t.l)) (q0:iK s t=false->Q (.tu []) (V3 p w g all.length Z m (d+1) true 4 t.l)):au X 37 [.p p 0 0,.s s] Z Q:=by
 have hm:=h.at_
 have hl:=h.len
 refine au.body (F:=F37) ay (lit:=false) rfl rfl (aU rfl) ?_
 conv=>whnf
 refine au.to (aaq s h ht) ?_
 cases hi:iK s t with
 | false=>
   conv=>whnf
   refine aap s h ht (fun e=>by rw [hi] at e;cases e) (fun _=>?_)
   conv=>whnf
   refine ak (aj (T:=fF) rfl rfl (ah (h.set hm h.dp).obj) rfl) ?_
   conv=>whnf
   refine⟨((d+1:Nat):Int),by rw [wrap_i64 (by omega) (by omega)];omega,?_⟩
   conv=>whnf
   refine ak (aC (T:=fF) (aar w g all.length m (d+1) true 4 t.l) rfl (h.set hm h.dp).obj rfl rfl (aU rfl) rfl) ?_
   conv=>whnf
   rw [show List.set (V3 p w g all.length Z m d true 4 t.l) p _=_ from pSet_set]
   exact Fin.same dW (q0 hi)
 | true=>
   conv=>whnf
   refine ak (aj (T:=fF) rfl rfl (ah h.obj) rfl) ?_
   conv=>whnf
   by_cases h64:64<=d
   ·rw [decide_eq_true (by omega)]
    conv=>whnf
    refine fail_to 3 h ht (fun _=>?_) (fun e=>by cases e)
    conv=>whnf
    refine aay s (h.set hm h.dp) ht ?_
    conv=>whnf
    refine ak (aj (T:=fF) rfl rfl (ah (h.set hm h.dp).obj) rfl) ?_
    conv=>whnf
    refine⟨((d+1:Nat):Int),by rw [wrap_i64 (by omega) (by omega)];omega,?_⟩
    conv=>whnf
    refine ak (aC (T:=fF) (aar w g all.length m (d+1) true 3 t.l) rfl (h.set hm h.dp).obj rfl rfl (aU rfl) rfl) ?_
    conv=>whnf
    rw [show List.set (V3 p w g all.length Z m d true 3 t.l) p _=_ from pSet_set]
    exact Fin.same dW (q2 hi h64)
   ·rw [decide_eq_false (by omega)]
    conv=>whnf
    refine aap s h ht (fun _=>?_) (fun e=>by rw [hi] at e;cases e)
    conv=>whnf
    refine ak (aj (T:=fF) rfl rfl (ah (h.set (hn hi) h.dp).obj) rfl) ?_
    conv=>whnf
    refine⟨((d+1:Nat):Int),by rw [wrap_i64 (by omega) (by omega)];omega,?_⟩
    conv=>whnf
    refine ak (aC (T:=fF) (aar w g all.length (m+1) (d+1) false c l) rfl (h.set (hn hi) h.dp).obj rfl rfl (aU rfl) rfl) ?_
    conv=>whnf
    rw [show List.set (V3 p w g all.length Z (m+1) d false c l) p _=_ from pSet_set]
    exact Fin.same dW (q1 hi (by omega))
theorem open_bad {p w g m d c l:Nat} {all:List Tok} {Z:St} {t:Tok} (s:List UInt8)(h:PO p w g all Z m d true c l)(ht:all[m]? =some t)(hd:d+1<=1000) {Q:AV->St->Prop}
 (q:Q (.tu []) (V3 p w g all.length Z m (d+1) true c l)):au X 37 [.p p 0 0,.s s] Z Q:=by
 have hm:=h.at_
 have hl:=h.len
 refine au.body (F:=F37) ay (lit:=false) rfl rfl (aU rfl) ?_
 conv=>whnf
 refine au.to (aaq s h ht) ?_
 conv=>whnf
 refine aay s h ht ?_
 conv=>whnf
 refine ak (aj (T:=fF) rfl rfl (ah h.obj) rfl) ?_
 conv=>whnf
 refine⟨((d+1:Nat):Int),by rw [wrap_i64 (by omega) (by omega)];omega,?_⟩
 conv=>whnf
 refine ak (aC (T:=fF) (aar w g all.length m (d+1) true c l) rfl h.obj rfl rfl (aU rfl) rfl) ?_
 conv=>whnf
 exact Fin.same dW q
theorem shut_to {p w g m d c l:Nat} {all:List Tok} {Z:St} {t:Tok} (s:List UInt8)(h:PO p w g all Z m (d+1) false c l)(ht:all[m]? =some t)(hn:iK s t=true->m+1<all.length) {Q:AV->St->Prop}
 (q1:iK s t=true->Q (.tu []) (V3 p w g all.length Z (m+1) d false c l)) (q0:iK s t=false->Q (.tu []) (V3 p w g all.length Z m d true 4 t.l)):au X 40 [.p p 0 0,.s s] Z Q:=by
 have hm:=h.at_
 have hl:=h.len
 have hd:=h.dp
 refine au.body (F:=F40) ay (lit:=false) rfl rfl (aU rfl) ?_
 conv=>whnf
 refine aap s h ht (fun hi=>?_) (fun hi=>?_)
 ·conv=>whnf
  refine ak (aj (T:=fF) rfl rfl (ah (h.set (hn hi) h.dp).obj) rfl) ?_
  conv=>whnf
  refine⟨(d:Int),by rw [wrap_i64 (by omega) (by omega)];omega,?_⟩
  conv=>whnf
  refine ak (aC (T:=fF) (aar w g all.length (m+1) d false c l) rfl (h.set (hn hi) h.dp).obj rfl rfl (aU rfl) rfl) ?_
  conv=>whnf
  rw [show List.set (V3 p w g all.length Z (m+1) (d+1) false c l) p _=_ from pSet_set]
  exact Fin.same dW (q1 hi)
 ·conv=>whnf
  refine ak (aj (T:=fF) rfl rfl (ah (h.set hm h.dp).obj) rfl) ?_
  conv=>whnf
  refine⟨(d:Int),by rw [wrap_i64 (by omega) (by omega)];omega,?_⟩
  conv=>whnf
  refine ak (aC (T:=fF) (aar w g all.length m d true 4 t.l) rfl (h.set hm h.dp).obj rfl rfl (aU rfl) rfl) ?_
  conv=>whnf
  rw [show List.set (V3 p w g all.length Z m (d+1) true 4 t.l) p _=_ from pSet_set]
  exact Fin.same dW (q0 hi)
theorem aam {p w g m d c l:Nat} {all:List Tok} {Z:St} {t:Tok} (s:List UInt8)(h:PO p w g all Z m (d+1) true c l)(ht:all[m]? =some t) {Q:AV->St->Prop}
 (q:Q (.tu []) (V3 p w g all.length Z m d true c l)):au X 40 [.p p 0 0,.s s] Z Q:=by
 have hm:=h.at_
 have hl:=h.len
 have hd:=h.dp
 refine au.body (F:=F40) ay (lit:=false) rfl rfl (aU rfl) ?_
 conv=>whnf
 refine aay s h ht ?_
 conv=>whnf
 refine ak (aj (T:=fF) rfl rfl (ah h.obj) rfl) ?_
 conv=>whnf
 refine⟨(d:Int),by rw [wrap_i64 (by omega) (by omega)];omega,?_⟩
 conv=>whnf
 refine ak (aC (T:=fF) (aar w g all.length m d true c l) rfl h.obj rfl rfl (aU rfl) rfl) ?_
 conv=>whnf
 exact Fin.same dW q
end Go.Abs.YtlkfbfhkcaldlaaGreatDoor
namespace Go.Abs.YtlkfbfhkcaldlaaGreatDoor
open Go.Proofs
set_option maxRecDepth 4000
theorem binds_to (s:List UInt8)(Z:St):au X 105 [.s s] Z fun v s'=>v= .i .i64 (aF s)/\s'= Z:=by
 refine au.body (F:=F105) ay (lit:=false) rfl rfl (aU rfl) ?_
 repeat' ((conv=>whnf);split)
 all_goals (conv=>whnf)
 all_goals exact Fin.flat rfl iq ⟨by simp_all [aF],rfl⟩
theorem yV {Z Z':St} {v:AV} {Q:AV->St->Prop} {p:Nat} {a b:AO} (ho:Z[p]? =some a)(ho':Z'[p]? =some b)(hab:a≠b)(q:Q v Z'):Fin Z v Z' Q:=Fin.ne (fun e=>by
 have h:=congrArg (fun l=>l[p]?) e
 simp only [List.getElem?_take,if_pos (bK ho),ho,ho'] at h
 exact hab (Option.some.inj h).symm) q
theorem par_ne {w g n m d c l m' d' c' l':Nat} {b b':Bool} (h:m≠m'\/b≠b'):(⟨0,false,.cells 57 (aar w g n m d b c l)⟩:AO)≠⟨0,false,.cells 57 (aar w g n m' d' b' c' l')⟩:=by
 intro e
 injection e with _ _ e
 injection e with _ e
 simp only [aar,List.cons.injEq,AV.i.injEq,AV.b.injEq,true_and] at e
 rcases h with h | h
 ·exact h (by have:=e.1;omega)
 ·exact h e.2.2.1
theorem name_to {p w g m d c l:Nat} {all:List Tok} {Z:St} {t:Tok} (h:PO p w g all Z m d false c l)(ht:all[m]? =some t)(hn:t.k=1->m+1<all.length) {Q:AV->St->Prop}
 (q1:t.k=1->∀Z',aN p Z Z'->PO p w g all Z' (m+1) d false c l->Q (.s t.s) Z') (q0:t.k≠1->∀Z',aN p Z Z'->PO p w g all Z' m d true 4 t.l->Q (.s []) Z'):au X 36 [.p p 0 0] Z Q:=by
 have hm:=h.at_
 have hl:=h.len
 refine au.body (F:=F36) ay (lit:=false) rfl rfl (aU rfl) ?_
 conv=>whnf
 refine au.to (aao h ht) ?_
 conv=>whnf
 refine ak (aC (T:=BR) (uw t.k t.s t.l) rfl (aG _ _ _) rfl rfl (aU rfl) rfl) ?_
 conv=>whnf
 have hp:p<Z.length:=bK h.obj
 have h1:PO p w g all ((newCells 62 [.i .i64 0,.s [],.i .i64 0] Z).set Z.length ⟨0,false,.cells 62 (uw t.k t.s t.l)⟩) m d false c l:=⟨aK (at_new h.obj _ _) (by omega) _,aK (at_new h.tok _ _) (by have:=bK h.tok;omega) _,h.ne,hl,hm,h.dp⟩
 have h3:((newCells 62 [.i .i64 0,.s [],.i .i64 0] Z).set Z.length ⟨0,false,.cells 62 (uw t.k t.s t.l)⟩)[Z.length]? =_:=at_set (aG _ _ _) _
 refine ak (aj (T:=xH) rfl rfl (ah h1.obj) rfl) ?_
 conv=>whnf
 refine ak (aj (T:=fF) rfl rfl (ah h3) rfl) ?_
 conv=>whnf
 have hx:aN p Z ((newCells 62 [.i .i64 0,.s [],.i .i64 0] Z).set Z.length ⟨0,false,.cells 62 (uw t.k t.s t.l)⟩):=((aN.refl p Z).new _ _).set (Nat.le_refl _) _
 by_cases hk:t.k=1
 ·rw [decide_eq_true (by omega)]
  conv=>whnf
  refine ak (aj (T:=fF) rfl rfl (ah h1.obj) rfl) ?_
  conv=>whnf
  refine⟨((m+1:Nat):Int),by rw [wrap_i64 (by omega) (by omega)];omega,?_⟩
  conv=>whnf
  refine ak (aC (T:=fF) (aar w g all.length (m+1) d false c l) rfl h1.obj rfl rfl (aU rfl) rfl) ?_
  conv=>whnf
  refine ak (aj (T:=fB) rfl rfl (ah (aK h3 (by omega) _)) rfl) ?_
  conv=>whnf
  have h9:=h1.set (m':=m+1) (d':=d) (b':=false) (c':=c) (l':=l) (hn hk) h.dp
  exact yV h.obj h9.obj (par_ne (.inl (by omega))) (q1 hk _ (hx.Aq _) h9)
 ·rw [decide_eq_false (by omega)]
  conv=>whnf
  refine fail_to 4 h1 ht (fun _=>?_) (fun e=>by cases e)
  conv=>whnf
  have h9:=h1.set (m':=m) (d':=d) (b':=true) (c':=4) (l':=t.l) hm h.dp
  exact yV h.obj h9.obj (par_ne (.inr (by decide))) (q0 hk _ (hx.Aq _) h9)
theorem name_bad {p w g m d c l:Nat} {all:List Tok} {Z:St} {t:Tok} (h:PO p w g all Z m d true c l)(ht:all[m]? =some t) {Q:AV->St->Prop} (q:Q (.s []) Z):au X 36 [.p p 0 0] Z Q:=by
 have hm:=h.at_
 have hl:=h.len
 refine au.body (F:=F36) ay (lit:=false) rfl rfl (aU rfl) ?_
 conv=>whnf
 refine au.to (aao h ht) ?_
 conv=>whnf
 refine ak (aC (T:=BR) (uw t.k t.s t.l) rfl (aG _ _ _) rfl rfl (aU rfl) rfl) ?_
 conv=>whnf
 have hp:p<Z.length:=bK h.obj
 have h1:PO p w g all ((newCells 62 [.i .i64 0,.s [],.i .i64 0] Z).set Z.length ⟨0,false,.cells 62 (uw t.k t.s t.l)⟩) m d true c l:=⟨aK (at_new h.obj _ _) (by omega) _,aK (at_new h.tok _ _) (by have:=bK h.tok;omega) _,h.ne,hl,hm,h.dp⟩
 have hx:=(((Ext.refl Z).new 62 [.i .i64 0,.s [],.i .i64 0]).set (Nat.le_refl _) ⟨0,false,.cells 62 (uw t.k t.s t.l)⟩).take
 refine ak (aj (T:=xH) rfl rfl (ah h1.obj) rfl) ?_
 conv=>whnf
 refine fail_to 4 h1 ht (fun e=>by cases e) (fun _=>?_)
 conv=>whnf
 exact Fin.flat rfl hx q
theorem Qd:∀(s:List UInt8) (n:Nat),n<=lD n s
 | [],n=>Nat.le_refl _
 | c :: s,n=>Nat.le_trans (show n<=10*n+(c.toNat - 48) by omega) (Qd s _)
theorem value_loop (s:List UInt8)(hd:∀c∈s,48<=c.toNat/\c.toNat<=57)(hl:s.length<=100000)(Z:St)(Q:Out->Env->St->Prop):∀(k m n:Nat),m+k=s.length->lD n (s.drop m)<4294967296->
 (∀e',get e' 3= .i .u32 (lD n (s.drop m))->get e' 1000000= .u->Q (.exit 0) e' Z)->
 aV X [0,3,4] c146L0 [(0,.s s),(3,.i .u32 n),(4,.i .i64 m)] Z Q:=by
 intro k
 induction k with
 | zero=>
   intro m n hm hv hq
   refine aV.round ay (lit:=false) ?_
   conv=>whnf
   rw [decide_eq_false (by omega)]
   conv=>whnf
   refine hq _ ?_ rfl
   rw [List.drop_of_length_le (by omega)];rfl
 | succ k ih=>
   intro m n hm hv hq
   obtain⟨c,hc⟩:∃c,s[m]? =some c:=⟨_,sN (by omega)⟩
   have hdr:=drop_cons hc
   have hcd:=hd c (List.mem_of_getElem? hc)
   rw [hdr] at hv hq
   have hb:10*n+(c.toNat - 48)<4294967296:=Nat.lt_of_le_of_lt (Qd (s.drop (m+1)) (10*n+(c.toNat - 48))) hv
   have hv':id (lD (10*n+(c.toNat - 48)) (s.drop (m+1))<4294967296):=hv
   clear hv
   refine aV.round ay (lit:=false) ?_
   conv=>whnf
   rw [decide_eq_true (by omega)]
   conv=>whnf
   refine⟨10*n,wrap_u32 (by omega) (by omega),?_⟩
   conv=>whnf
   refine⟨m,c,rfl,hc,?_⟩
   conv=>whnf
   refine⟨_,wrap_u8 (n:=c.toNat - 48) (by omega) (by omega),?_⟩
   conv=>whnf
   refine⟨_,wrap_u32 (n:=(c.toNat:Int) - 48) (by omega) (by omega),?_⟩
   conv=>whnf
   refine⟨((10*n+(c.toNat - 48):Nat):Int),by rw [wrap_u32 (by omega) (by omega)];omega,?_⟩
   conv=>whnf
   refine⟨((m+1:Nat):Int),by rw [wrap_i64 (by omega) (by omega)];omega,?_⟩
   conv=>whnf
   exact ih (m+1) _ (by omega) hv' hq
theorem value_to (s:List UInt8)(hd:∀c∈s,48<=c.toNat/\c.toNat<=57)(hl:s.length<=100000)(hv:lD 0 s<4294967296)(Z:St):au X 146 [.s s] Z fun v s'=>v= .i .u32 (lD 0 s)/\s'= Z:=by
 refine au.body (F:=F146) ay (lit:=false) rfl rfl (aU rfl) ?_
 conv=>whnf
 refine value_loop s hd hl Z _ s.length 0 0 (by omega) (by rw [List.drop_zero];exact hv) fun e' h3 h9=>?_
 rw [List.drop_zero] at h3
 conv=>whnf
 rw [show Opd.ev e' (.t 3)=get e' 3 from rfl,h3]
 conv=>whnf
 exact Fin.flat rfl iq ⟨rfl,rfl⟩
end Go.Abs.YtlkfbfhkcaldlaaGreatDoor
namespace Go.Abs.YtlkfbfhkcaldlaaGreatDoor
open Go.Proofs
set_option maxRecDepth 4000
theorem tok_st {p w g m d c l:Nat} {b:Bool} {all:List Tok} {Z:St} (t:Tok)(h:PO p w g all Z m d b c l) {Q:St->Prop}
 (q:∀Z1,aN p Z Z1->PO p w g all Z1 m d b c l->Z1[Z.length]? =some ⟨0,false,.cells 62 (uw t.k t.s t.l)⟩->Z1.length=Z.length+1->Q Z1) :
 om (aStore (KL.get 62) (.p Z.length 0 0) (.ag (uw t.k t.s t.l)) (newCells 62 BR.zero.cells Z)) Q:=by
 refine ak (aC (T:=BR) (uw t.k t.s t.l) rfl (aG _ _ _) rfl rfl (aU rfl) rfl) ?_
 have hp:=bK h.obj
 have hw:=bK h.tok
 refine q _ (((aN.refl p Z).new _ _).set (Nat.le_refl _) _) ⟨aK (at_new h.obj _ _) (by omega) _,aK (at_new h.tok _ _) (by omega) _,h.ne,h.len,h.at_,h.dp⟩ (at_set (aG _ _ _) _) ?_
 rw [gK,aH]
theorem PO.new {p w g m d c l:Nat} {b:Bool} {all:List Tok} {Z:St} (h:PO p w g all Z m d b c l)(e:Nat)(cs:List AV):PO p w g all (newCells e cs Z) m d b c l:=⟨at_new h.obj _ _,at_new h.tok _ _,h.ne,h.len,h.at_,h.dp⟩
theorem first_bad {p w g m d c l:Nat} {all:List Tok} {Z:St} {t:Tok} (h:PO p w g all Z m d true c l)(ht:all[m]? =some t) {Q:AV->St->Prop}
 (q:∀o Z',aN p Z Z'->PO p w g all Z' m d true c l->Q (.p o 0 0) Z'):au X 129 [.p p 0 0] Z Q:=by
 refine au.body (F:=F129) ay (lit:=false) rfl rfl (aU rfl) ?_
 conv=>whnf
 refine au.to (aao h ht) ?_
 conv=>whnf
 refine tok_st t h fun Z1 x1 h1 ht1 hl1=>?_
 conv=>whnf
 refine au.to (aaq _ h1 ht) ?_
 conv=>whnf
 refine sW _ h1 ht (fun e=>by cases e) (fun _=>?_)
 conv=>whnf
 refine sW _ h1 ht (fun e=>by cases e) (fun _=>?_)
 conv=>whnf
 refine ak (aj (T:=fF) rfl rfl (ah ht1) rfl) ?_
 conv=>whnf
 cases hk:decide ((t.k:Int)=2)
 case' true=>
  conv=>whnf
  refine ak (aj (T:=xH) rfl rfl (ah h1.obj) rfl) ?_
 all_goals
  conv=>whnf
  refine name_bad h1 ht ?_
  conv=>whnf
  refine au.to (aaq _ h1 ht) ?_
  conv=>whnf
  refine ak (aj (T:=fF) rfl rfl (ah ht1) rfl) ?_
  conv=>whnf
  exact Fin.ref rfl (q _ _ (x1.new _ _) (h1.new _ _))
theorem post_bad {p w g m d c l:Nat} {all:List Tok} {Z:St} {t:Tok} (h:PO p w g all Z m d true c l)(ht:all[m]? =some t) {Q:AV->St->Prop}
 (q:∀o Z',aN p Z Z'->PO p w g all Z' m d true c l->Q (.p o 0 0) Z'):au X 103 [.p p 0 0] Z Q:=by
 refine au.body (F:=F103) ay (lit:=false) rfl rfl (aU rfl) ?_
 conv=>whnf
 refine first_bad h ht fun o Z1 x1 h1=>?_
 conv=>whnf
 refine aV.round ay (lit:=false) ?_
 conv=>whnf
 refine ak (aj (T:=xH) rfl rfl (ah h1.obj) rfl) ?_
 conv=>whnf
 exact Fin.ref rfl (q _ _ x1 h1)
theorem unary_bad {p w g m d c l:Nat} {all:List Tok} {Z:St} {t:Tok} (h:PO p w g all Z m d true c l)(ht:all[m]? =some t) {Q:AV->St->Prop}
 (q:∀o Z',aN p Z Z'->PO p w g all Z' m d true c l->Q (.p o 0 0) Z'):au X 128 [.p p 0 0] Z Q:=by
 refine au.body (F:=F128) ay (lit:=false) rfl rfl (aU rfl) ?_
 conv=>whnf
 refine au.to (aao h ht) ?_
 conv=>whnf
 refine tok_st t h fun Z1 x1 h1 ht1 hl1=>?_
 conv=>whnf
 refine au.to (aaq _ h1 ht) ?_
 conv=>whnf
 refine au.to (aaq _ h1 ht) ?_
 conv=>whnf
 refine post_bad h1 ht fun o Z2 x2 h2=>?_
 conv=>whnf
 exact Fin.ref rfl (q _ _ (x1.trans x2) h2)
theorem expr_bad {p w g m d c l:Nat} {all:List Tok} {Z:St} {t:Tok} (k:Nat)(h:PO p w g all Z m d true c l)(ht:all[m]? =some t) {Q:AV->St->Prop}
 (q:∀o Z',aN p Z Z'->PO p w g all Z' m d true c l->Q (.p o 0 0) Z'):au X 100 [.p p 0 0,.i .i64 k] Z Q:=by
 refine au.body (F:=F100) ay (lit:=false) rfl rfl (aU rfl) ?_
 conv=>whnf
 refine unary_bad h ht fun o Z1 x1 h1=>?_
 conv=>whnf
 refine aV.round ay (lit:=false) ?_
 conv=>whnf
 refine ak (aj (T:=xH) rfl rfl (ah h1.obj) rfl) ?_
 conv=>whnf
 exact Fin.ref rfl (q _ _ x1 h1)
theorem PO.ext {p w g n m d c l:Nat} {b:Bool} {Z:St} :aN p Z (V3 p w g n Z m d b c l):=(aN.refl p Z).Aq _
end Go.Abs.YtlkfbfhkcaldlaaGreatDoor
namespace Go.Abs.YtlkfbfhkcaldlaaGreatDoor
open Go.Proofs
set_option maxRecDepth 4000
def PE (p w g:Nat)(all:List Tok)(Z:St)(d:Nat)(Q:AV->St->Prop):Re Tr->Prop
 | .ok t ts=>∀o g' Z' m' c l,aN p Z Z'->PO p w g all Z' m' d false c l->all.drop m'= ts->bP (fun i=>Z.length<=i) Z' (.p o g' 0) t->Q (.p o g' 0) Z'
 | .bad c l=>∀o g' Z' m',aN p Z Z'->PO p w g all Z' m' d true c l->Q (.p o g' 0) Z'
 | .out=>True
theorem b_ {all:List Tok} {m:Nat} {t:Tok} {r:List Tok} (h:all.drop m=t :: r):all[m]? =some t/\all.drop (m+1)=r:=by
 constructor
 ·have:=congrArg List.head? h
  rw [List.head?_drop] at this;exact this
 ·rw [<-List.tail_drop,h];rfl
theorem uG {all:List Tok} {m:Nat} (h:aZ (all.drop m)):m<all.length:=by
 rcases Nat.lt_or_ge m all.length with hl | hl
 ·exact hl
 ·rw [List.drop_of_length_le hl] at h;exact h.elim
def PL (k j:Nat)(p w g:Nat)(all:List Tok)(B:Nat)(Z:St)(d:Nat)(Q:Out->Env->St->Prop):Re Tr->Prop
 | .ok t ts=>∀o g' Z' m' c l e',get e' k= .p o g' 0->aN p Z Z'->PO p w g all Z' m' d false c l->all.drop m'= ts->bP (fun i=>B<=i) Z' (.p o g' 0) t->Q .ret e' Z'
 | .bad c l=>∀o g' Z' m' e',get e' j= .p o g' 0->get e' 1000000= .u->aN p Z Z'->PO p w g all Z' m' d true c l->Q (.exit 0) e' Z'
 | .out=>True
structure WE (p w g:Nat)(all:List Tok)(n:Nat):Prop where
 expr:∀(d c:Nat) (Z:St) (m c0 l0:Nat) (Q:AV->St->Prop),PO p w g all Z m d false c0 l0->d<=64->c<=8->aZ (all.drop m)->10*(all.drop m).length+9<=n->PE p w g all Z d Q (dn n d c (all.drop m))->au X 100 [.p p 0 0,.i .i64 c] Z Q
 un:∀(d:Nat) (Z:St) (m c0 l0:Nat) (Q:AV->St->Prop),PO p w g all Z m d false c0 l0->d<=64->aZ (all.drop m)->10*(all.drop m).length+8<=n->PE p w g all Z d Q (xP n d (all.drop m))->au X 128 [.p p 0 0] Z Q
 post:∀(d:Nat) (Z:St) (m c0 l0:Nat) (Q:AV->St->Prop),PO p w g all Z m d false c0 l0->d<=64->aZ (all.drop m)->10*(all.drop m).length+7<=n->PE p w g all Z d Q (gW n d (all.drop m))->au X 103 [.p p 0 0] Z Q
 with_:∀(d:Nat) (a b:List UInt8) (Z:St) (m c0 l0:Nat) (Q:AV->St->Prop),PO p w g all Z m d false c0 l0->d<=64->aZ (all.drop m)->10*(all.drop m).length+5<=n->PE p w g all Z d Q (gI n d a b (all.drop m))->au X 130 [.p p 0 0,.s a,.s b] Z Q
 cell:∀(d:Nat) (Z:St) (m c0 l0:Nat) (Q:AV->St->Prop),PO p w g all Z m d false c0 l0->d<=64->aZ (all.drop m)->10*(all.drop m).length+6<=n->PE p w g all Z d Q (h_ n d (all.drop m))->au X 131 [.p p 0 0] Z Q
 first:∀(d:Nat) (Z:St) (m c0 l0:Nat) (Q:AV->St->Prop),PO p w g all Z m d false c0 l0->d<=64->aZ (all.drop m)->10*(all.drop m).length+6<=n->PE p w g all Z d Q (dI n d (all.drop m))->au X 129 [.p p 0 0] Z Q
 uz:∀(d B:Nat) (x:Tr) (Z:St) (m c0 l0 o g':Nat) (Q:Out->Env->St->Prop),PO p w g all Z m d false c0 l0->d<=64->p<B->B<=Z.length->I8 x->bP (fun i=>B<=i) Z (.p o g' 0) x->aZ (all.drop m)->10*(all.drop m).length+9<=n->PL 2 3 p w g all B Z d Q (dP n d x (all.drop m))->aV X [0,3] c103L0 [(0,.p p 0 0),(3,.p o g' 0)] Z Q
 loop:∀(d c B:Nat) (x:Tr) (Z:St) (m c0 l0 o g':Nat) (Q:Out->Env->St->Prop),PO p w g all Z m d false c0 l0->d<=64->c<=8->p<B->B<=Z.length->I8 x->bP (fun i=>B<=i) Z (.p o g' 0) x->aZ (all.drop m)->10*(all.drop m).length+9<=n->PL 4 5 p w g all B Z d Q (fZ n d c x (all.drop m))->aV X [0,1,5] c100L0 [(0,.p p 0 0),(1,.i .i64 c),(5,.p o g' 0)] Z Q
section
variable {p w g:Nat} {all:List Tok} {n:Nat}
theorem aX {s:List UInt8} {m:Nat} {t:Tok} {r:List Tok} (he:aZ (all.drop m))(hts:all.drop m=t :: r)(hi:iK s t=true):m+1<all.length/\aZ (all.drop (m+1))/\(all.drop (m+1)).length<(all.drop m).length:=by
 have h1:=jD (s:=s) he (by rw [hts];exact hi)
 rw [hts] at h1
 have e:all.drop (m+1)=r:=(b_ hts).2
 have h2:aZ (all.drop (m+1)):=by rw [e];exact h1.1
 exact⟨uG h2,h2,by rw [e,hts];simp⟩
theorem with_w (ih:WE p w g all n)(d:Nat)(a b:List UInt8)(Z:St)(m c0 l0:Nat)(Q:AV->St->Prop)(h:PO p w g all Z m d false c0 l0)(hd:d<=64)(he:aZ (all.drop m))(hn:10*(all.drop m).length+5<=n+1)(hQ:PE p w g all Z d Q (gI (n+1) d a b (all.drop m))):au X 130 [.p p 0 0,.s a,.s b] Z Q:=by
 obtain⟨t,r,hts⟩:=he.ne
 obtain⟨ht,hr⟩:=b_ hts
 have hm:=h.at_
 refine au.body (F:=F130) ay (lit:=false) rfl rfl (aU rfl) ?_
 conv=>whnf
 unfold gI gV at hQ
 rw [hts] at hQ
 refine open_to a h ht (by omega) (fun hi=>(aX he hts hi).1) (fun hi h64=>?_) (fun hi h64=>?_) (fun hi=>?_)
 ·obtain⟨hm1,he1,hl1⟩:=aX he hts hi
  have h1:=h.set (m':=m+1) (d':=d+1) (b':=false) (c':=c0) (l':=l0) hm1 (by omega)
  conv=>whnf
  rw [if_neg (by omega),aQ,if_pos (show aY a (t :: r)=true from hi)] at hQ
  have hQ:PE p w g all Z d Q ((dn n (d+1) 1 r).bind fun x ts=>(aQ b ts).bind fun _ ts=>.ok x ts):=hQ
  have hg:=(uD n).expr (d+1) 1 (all.drop (m+1)) he1 (by omega)
  refine ih.expr (d+1) 1 _ (m+1) _ _ _ h1 (by omega) (by omega) he1 (by omega) ?_
  rw [hr] at hg ⊢
  generalize dn n (d+1) 1 r=r1 at hg hQ
  cases r1 with
  | out=>exact hg.elim
  | bad c l=>
    intro o g' Z2 m2 x2 h2
    conv=>whnf
    obtain⟨t2,ht2⟩:∃t2,all[m2]? =some t2:=⟨_,sN h2.at_⟩
    refine aam _ h2 ht2 ?_
    have h3:=h2.set (m':=m2) (d':=d) (b':=true) (c':=c) (l':=l) h2.at_ h.dp
    conv=>whnf
    exact Fin.ref rfl (hQ _ _ _ _ ((PO.ext.trans x2).trans PO.ext) h3)
  | ok x bI=>
    intro o g' Z2 m2 c2 l2 x2 h2 hm2 hex
    have he2:aZ (all.drop m2):=by rw [hm2];exact hg.2.1
    obtain⟨t2,r2,jE⟩:=he2.ne
    obtain⟨ht2,hr2⟩:=b_ jE
    have hQ:PE p w g all Z d Q ((aQ b bI).bind fun _ ts=>.ok x ts):=hQ
    rw [<-hm2,jE] at hQ
    conv=>whnf
    refine shut_to _ h2 ht2 (fun hi2=>(aX he2 jE hi2).1) (fun hi2=>?_) (fun hi2=>?_)
    ·rw [aQ,if_pos (show aY b (t2 :: r2)=true from hi2)] at hQ
     have h3:=h2.set (m':=m2+1) (d':=d) (b':=false) (c':=c2) (l':=l2) (aX he2 jE hi2).1 h.dp
     conv=>whnf
     refine Fin.ref rfl (hQ _ _ _ _ _ _ ((PO.ext.trans x2).trans PO.ext) h3 hr2 ?_)
     exact bP.mono (fun i hi=>by rw [dW] at hi;exact hi) (fun i hi a ha=>PO.ext.get (by rw [dW] at hi;have:=bK h.obj;omega) ha) hex
    ·rw [aQ,if_neg (show ¬aY b (t2 :: r2)=true by rw [show aY b (t2 :: r2)=iK b t2 from rfl,hi2];decide)] at hQ
     have h3:=h2.set (m':=m2) (d':=d) (b':=true) (c':=4) (l':=t2.l) h2.at_ h.dp
     conv=>whnf
     exact Fin.ref rfl (hQ _ _ _ _ ((PO.ext.trans x2).trans PO.ext) h3)
 ·have h1:=h.set (m':=m) (d':=d+1) (b':=true) (c':=3) (l':=t.l) h.at_ (by omega)
  conv=>whnf
  rw [if_pos ⟨show aY a (t :: r)=true from hi,h64⟩] at hQ
  refine expr_bad 1 h1 ht fun o Z2 x2 h2=>?_
  conv=>whnf
  refine aam _ h2 ht ?_
  have h3:=h2.set (m':=m) (d':=d) (b':=true) (c':=3) (l':=t.l) h.at_ h.dp
  conv=>whnf
  exact Fin.ref rfl (hQ _ _ _ _ ((PO.ext.trans x2).trans PO.ext) h3)
 ·have h1:=h.set (m':=m) (d':=d+1) (b':=true) (c':=4) (l':=t.l) h.at_ (by omega)
  have hiw:¬aY a (t :: r)=true:=by rw [show aY a (t :: r)=iK a t from rfl,hi];decide
  conv=>whnf
  rw [if_neg (fun e=>hiw e.1),aQ,if_neg hiw] at hQ
  refine expr_bad 1 h1 ht fun o Z2 x2 h2=>?_
  conv=>whnf
  refine aam _ h2 ht ?_
  have h3:=h2.set (m':=m) (d':=d) (b':=true) (c':=4) (l':=t.l) h.at_ h.dp
  conv=>whnf
  exact Fin.ref rfl (hQ _ _ _ _ ((PO.ext.trans x2).trans PO.ext) h3)
theorem un_w (ih:WE p w g all n)(d:Nat)(Z:St)(m c0 l0:Nat)(Q:AV->St->Prop)(h:PO p w g all Z m d false c0 l0)(hd:d<=64)(he:aZ (all.drop m))(hn:10*(all.drop m).length+8<=n+1)(hQ:PE p w g all Z d Q (xP (n+1) d (all.drop m))):au X 128 [.p p 0 0] Z Q:=by
 obtain⟨t,r,hts⟩:=he.ne
 obtain⟨ht,hr⟩:=b_ hts
 have hm:=h.at_
 refine au.body (F:=F128) ay (lit:=false) rfl rfl (aU rfl) ?_
 conv=>whnf
 refine au.to (aao h ht) ?_
 conv=>whnf
 refine tok_st t h fun Z1 x1 h1 ht1 hl1=>?_
 have hts':=hts
 unfold xP at hQ
 rw [hts] at hQ
 simp only at hQ
 have hpl:=bK h.obj
 have htk:∀s,aN p Z1 s->s[Z.length]? =some ⟨0,false,.cells 62 (uw t.k t.s t.l)⟩:=fun s x=>x.get (by omega) ht1
 conv=>whnf
 refine au.to (aaq _ h1 ht) ?_
 cases hi1:iK [33] t with
 | true=>
   have hk:iK t.s t=true:=by
    have:=hi1
    simp only [iK,fJ,beq_self_eq_true,and_true] at this ⊢
    exact this.1
   rw [if_pos (show aY [33] (t :: r)=true\/aY [45] (t :: r)=true from .inl hi1)] at hQ
   conv=>whnf
   refine ak (aj (T:=fB) rfl rfl (ah ht1) rfl) ?_
   conv=>whnf
   refine open_to t.s h1 ht (by omega) (fun hi=>(aX he hts hi).1) (fun _ h64=>?_) (fun _ h64=>?_) (fun hi=>by rw [hk] at hi;cases hi)
   ·obtain⟨hm1,he1,hle⟩:=aX he hts hk
    have h2:=h1.set (m':=m+1) (d':=d+1) (b':=false) (c':=c0) (l':=l0) hm1 (by omega)
    rw [if_neg (by omega)] at hQ
    conv=>whnf
    have hg:=(uD n).un (d+1) (all.drop (m+1)) he1 (by omega)
    refine ih.un (d+1) _ (m+1) _ _ _ h2 (by omega) he1 (by omega) ?_
    rw [hr] at hg ⊢
    generalize xP n (d+1) r=r1 at hg hQ
    cases r1 with
    | out=>exact hg.elim
    | bad c l=>
      intro o g' Z2 m2 x2 h3
      have x3:aN p Z1 Z2:=PO.ext.trans x2
      have h4:=h3.set (m':=m2) (d':=d) (b':=true) (c':=c) (l':=l) h3.at_ h.dp
      have x4:aN p Z1 (V3 p w g all.length Z2 m2 d true c l):=x3.trans PO.ext
      conv=>whnf
      refine ak (aj (T:=fF) rfl rfl (ah h3.obj) rfl) ?_
      conv=>whnf
      refine⟨(d:Int),by rw [wrap_i64 (by omega) (by omega)];omega,?_⟩
      conv=>whnf
      refine ak (aC (T:=fF) (aar w g all.length m2 d true c l) rfl h3.obj rfl rfl (aU rfl) rfl) ?_
      conv=>whnf
      refine ak (aj (T:=fB) rfl rfl (ah (htk _ x4)) rfl) ?_
      conv=>whnf
      refine ak (aj (T:=fF) rfl rfl (ah (htk _ x4)) rfl) ?_
      conv=>whnf
      exact Fin.ref rfl (hQ _ _ _ _ (x1.trans (x4.new _ _)) (h4.new _ _))
    | ok x bI=>
      intro o g' Z2 m2 c2 l2 x2 h3 hm2 hex
      have x3:aN p Z1 Z2:=PO.ext.trans x2
      have h4:=h3.set (m':=m2) (d':=d) (b':=false) (c':=c2) (l':=l2) h3.at_ h.dp
      have x4:aN p Z1 (V3 p w g all.length Z2 m2 d false c2 l2):=x3.trans PO.ext
      conv=>whnf
      refine ak (aj (T:=fF) rfl rfl (ah h3.obj) rfl) ?_
      conv=>whnf
      refine⟨(d:Int),by rw [wrap_i64 (by omega) (by omega)];omega,?_⟩
      conv=>whnf
      refine ak (aC (T:=fF) (aar w g all.length m2 d false c2 l2) rfl h3.obj rfl rfl (aU rfl) rfl) ?_
      conv=>whnf
      refine ak (aj (T:=fB) rfl rfl (ah (htk _ x4)) rfl) ?_
      conv=>whnf
      refine ak (aj (T:=fF) rfl rfl (ah (htk _ x4)) rfl) ?_
      conv=>whnf
      have l4:=x4.len
      have l2':=x2.len
      rw [dW] at l2'
      refine Fin.ref rfl (hQ _ _ _ _ _ _ (x1.trans (x4.new _ _)) (h4.new _ _) hm2 ?_)
      refine⟨_,0,.p0,.p o g' 0,.sl0,(by omega:Z.length<=(V3 p w g all.length Z2 m2 d false c2 l2).length),rfl,aG _ _ _,rfl,?_,rfl⟩
      exact bP.mono (fun i hi=>by rw [dW] at hi;omega) (fun i hi a ha=>at_new (PO.ext.get (by rw [dW] at hi;omega) ha) _ _) hex
   ·have h2:=h1.set (m':=m) (d':=d+1) (b':=true) (c':=3) (l':=t.l) h.at_ (by omega)
    rw [if_pos h64] at hQ
    conv=>whnf
    refine unary_bad h2 ht fun o Z2 x2 h3=>?_
    have x3:aN p Z1 Z2:=PO.ext.trans x2
    have h4:=h3.set (m':=m) (d':=d) (b':=true) (c':=3) (l':=t.l) h3.at_ h.dp
    have x4:aN p Z1 (V3 p w g all.length Z2 m d true 3 t.l):=x3.trans PO.ext
    conv=>whnf
    refine ak (aj (T:=fF) rfl rfl (ah h3.obj) rfl) ?_
    conv=>whnf
    refine⟨(d:Int),by rw [wrap_i64 (by omega) (by omega)];omega,?_⟩
    conv=>whnf
    refine ak (aC (T:=fF) (aar w g all.length m d true 3 t.l) rfl h3.obj rfl rfl (aU rfl) rfl) ?_
    conv=>whnf
    refine ak (aj (T:=fB) rfl rfl (ah (htk _ x4)) rfl) ?_
    conv=>whnf
    refine ak (aj (T:=fF) rfl rfl (ah (htk _ x4)) rfl) ?_
    conv=>whnf
    exact Fin.ref rfl (hQ _ _ _ _ (x1.trans (x4.new _ _)) (h4.new _ _))
 | false=>
   conv=>whnf
   refine au.to (aaq _ h1 ht) ?_
   cases hi2:iK [45] t with
   | false=>
     conv=>whnf
     rw [if_neg (by rw [show aY [33] (t :: r)=iK [33] t from rfl,show aY [45] (t :: r)=iK [45] t from rfl,hi1,hi2];simp),<-hts] at hQ
     have hrel:(all.drop m).length=(all.drop m).length:=rfl
     refine ih.post d Z1 m _ _ _ h1 hd he (by omega) ?_
     generalize gW n d (all.drop m)=r1 at hQ
     cases r1 with
     | out=>trivial
     | bad c l=>
       intro o g' Z2 m2 x2 h2
       conv=>whnf
       exact Fin.ref rfl (hQ _ _ _ _ (x1.trans x2) h2)
     | ok x bI=>
       intro o g' Z2 m2 c2 l2 x2 h2 hm2 hex
       conv=>whnf
       exact Fin.ref rfl (hQ _ _ _ _ _ _ (x1.trans x2) h2 hm2 (bP.mono (fun i hi=>by omega) (fun i hi a ha=>ha) hex))
   | true=>
     have hk:iK t.s t=true:=by
        have:=hi2
        simp only [iK,fJ,beq_self_eq_true,and_true] at this ⊢
        exact this.1
     rw [if_pos (show aY [33] (t :: r)=true\/aY [45] (t :: r)=true from .inr hi2)] at hQ
     conv=>whnf
     refine ak (aj (T:=fB) rfl rfl (ah ht1) rfl) ?_
     conv=>whnf
     refine open_to t.s h1 ht (by omega) (fun hi=>(aX he hts hi).1) (fun _ h64=>?_) (fun _ h64=>?_) (fun hi=>by rw [hk] at hi;cases hi)
     ·obtain⟨hm1,he1,hle⟩:=aX he hts hk
      have h2:=h1.set (m':=m+1) (d':=d+1) (b':=false) (c':=c0) (l':=l0) hm1 (by omega)
      rw [if_neg (by omega)] at hQ
      conv=>whnf
      have hg:=(uD n).un (d+1) (all.drop (m+1)) he1 (by omega)
      refine ih.un (d+1) _ (m+1) _ _ _ h2 (by omega) he1 (by omega) ?_
      rw [hr] at hg ⊢
      generalize xP n (d+1) r=r1 at hg hQ
      cases r1 with
      | out=>exact hg.elim
      | bad c l=>
        intro o g' Z2 m2 x2 h3
        have x3:aN p Z1 Z2:=PO.ext.trans x2
        have h4:=h3.set (m':=m2) (d':=d) (b':=true) (c':=c) (l':=l) h3.at_ h.dp
        have x4:aN p Z1 (V3 p w g all.length Z2 m2 d true c l):=x3.trans PO.ext
        conv=>whnf
        refine ak (aj (T:=fF) rfl rfl (ah h3.obj) rfl) ?_
        conv=>whnf
        refine⟨(d:Int),by rw [wrap_i64 (by omega) (by omega)];omega,?_⟩
        conv=>whnf
        refine ak (aC (T:=fF) (aar w g all.length m2 d true c l) rfl h3.obj rfl rfl (aU rfl) rfl) ?_
        conv=>whnf
        refine ak (aj (T:=fB) rfl rfl (ah (htk _ x4)) rfl) ?_
        conv=>whnf
        refine ak (aj (T:=fF) rfl rfl (ah (htk _ x4)) rfl) ?_
        conv=>whnf
        exact Fin.ref rfl (hQ _ _ _ _ (x1.trans (x4.new _ _)) (h4.new _ _))
      | ok x bI=>
        intro o g' Z2 m2 c2 l2 x2 h3 hm2 hex
        have x3:aN p Z1 Z2:=PO.ext.trans x2
        have h4:=h3.set (m':=m2) (d':=d) (b':=false) (c':=c2) (l':=l2) h3.at_ h.dp
        have x4:aN p Z1 (V3 p w g all.length Z2 m2 d false c2 l2):=x3.trans PO.ext
        conv=>whnf
        refine ak (aj (T:=fF) rfl rfl (ah h3.obj) rfl) ?_
        conv=>whnf
        refine⟨(d:Int),by rw [wrap_i64 (by omega) (by omega)];omega,?_⟩
        conv=>whnf
        refine ak (aC (T:=fF) (aar w g all.length m2 d false c2 l2) rfl h3.obj rfl rfl (aU rfl) rfl) ?_
        conv=>whnf
        refine ak (aj (T:=fB) rfl rfl (ah (htk _ x4)) rfl) ?_
        conv=>whnf
        refine ak (aj (T:=fF) rfl rfl (ah (htk _ x4)) rfl) ?_
        conv=>whnf
        have l4:=x4.len
        have l2':=x2.len
        rw [dW] at l2'
        refine Fin.ref rfl (hQ _ _ _ _ _ _ (x1.trans (x4.new _ _)) (h4.new _ _) hm2 ?_)
        refine⟨_,0,.p0,.p o g' 0,.sl0,(by omega:Z.length<=(V3 p w g all.length Z2 m2 d false c2 l2).length),rfl,aG _ _ _,rfl,?_,rfl⟩
        exact bP.mono (fun i hi=>by rw [dW] at hi;omega) (fun i hi a ha=>at_new (PO.ext.get (by rw [dW] at hi;omega) ha) _ _) hex
     ·have h2:=h1.set (m':=m) (d':=d+1) (b':=true) (c':=3) (l':=t.l) h.at_ (by omega)
      rw [if_pos h64] at hQ
      conv=>whnf
      refine unary_bad h2 ht fun o Z2 x2 h3=>?_
      have x3:aN p Z1 Z2:=PO.ext.trans x2
      have h4:=h3.set (m':=m) (d':=d) (b':=true) (c':=3) (l':=t.l) h3.at_ h.dp
      have x4:aN p Z1 (V3 p w g all.length Z2 m d true 3 t.l):=x3.trans PO.ext
      conv=>whnf
      refine ak (aj (T:=fF) rfl rfl (ah h3.obj) rfl) ?_
      conv=>whnf
      refine⟨(d:Int),by rw [wrap_i64 (by omega) (by omega)];omega,?_⟩
      conv=>whnf
      refine ak (aC (T:=fF) (aar w g all.length m d true 3 t.l) rfl h3.obj rfl rfl (aU rfl) rfl) ?_
      conv=>whnf
      refine ak (aj (T:=fB) rfl rfl (ah (htk _ x4)) rfl) ?_
      conv=>whnf
      refine ak (aj (T:=fF) rfl rfl (ah (htk _ x4)) rfl) ?_
      conv=>whnf
      exact Fin.ref rfl (hQ _ _ _ _ (x1.trans (x4.new _ _)) (h4.new _ _))
end
end Go.Abs.YtlkfbfhkcaldlaaGreatDoor
namespace Go.Abs.YtlkfbfhkcaldlaaGreatDoor
open Go.Proofs
set_option maxRecDepth 4000
theorem PE.to {p w g d:Nat} {all:List Tok} {Z Z1:St} {Q Q':AV->St->Prop} {r:Re Tr} (hQ:PE p w g all Z d Q r)(x1:aN p Z Z1)(k:∀o g' s,Q (.p o g' 0) s->Q' (.p o g' 0) s):PE p w g all Z1 d Q' r:=by
 cases r with
 | out=>trivial
 | bad c l=>exact fun o g' Z2 m2 x2 h2=>k _ _ _ (hQ o g' Z2 m2 (x1.trans x2) h2)
 | ok x ts=>exact fun o g' Z2 m2 c2 l2 x2 h2 hm hex=>k _ _ _ (hQ o g' Z2 m2 c2 l2 (x1.trans x2) h2 hm (bP.mono (fun i hi=>Nat.le_trans x1.len hi) (fun i hi a ha=>ha) hex))
def EH (all:List Tok):Prop:=∀z∈all,z.k=2->(∀c∈z.s,48<=c.toNat/\c.toNat<=57)/\lD 0 z.s<4294967296/\z.s.length<=100000
section
variable {p w g:Nat} {all:List Tok} {n:Nat}
theorem cell_w (hno:EH all)(ih:WE p w g all n)(d:Nat)(Z:St)(m c0 l0:Nat)(Q:AV->St->Prop)(h:PO p w g all Z m d false c0 l0)(hd:d<=64)(he:aZ (all.drop m))(hn:10*(all.drop m).length+6<=n+1)(hQ:PE p w g all Z d Q (h_ (n+1) d (all.drop m))):au X 131 [.p p 0 0] Z Q:=by
 obtain⟨t,r,hts⟩:=he.ne
 obtain⟨ht,hr⟩:=b_ hts
 have hm:=h.at_
 have hal:=h.len
 refine au.body (F:=F131) ay (lit:=false) rfl rfl (aU rfl) ?_
 conv=>whnf
 refine au.to (aao h ht) ?_
 conv=>whnf
 refine tok_st t h fun Z1 x1 h1 ht1 hl1=>?_
 have hpl:=bK h.obj
 have htk:∀s,aN p Z1 s->s[Z.length]? =some ⟨0,false,.cells 62 (uw t.k t.s t.l)⟩:=fun s x=>x.get (by omega) ht1
 unfold h_ at hQ
 rw [hts] at hQ
 simp only at hQ
 conv=>whnf
 refine au.to (aaq _ h1 ht) ?_
 cases hi1:iK [40] t with
 | true=>
   conv=>whnf
   rw [if_pos (show aY [40] (t :: r)=true from hi1),<-hts] at hQ
   refine ih.with_ d [40] [41] Z1 m _ _ _ h1 hd he (by omega) (hQ.to x1 fun o g' s q=>?_)
   conv=>whnf
   exact Fin.ref rfl q
 | false=>
   rw [if_neg (by rw [show aY [40] (t :: r)=iK [40] t from rfl,hi1];decide)] at hQ
   conv=>whnf
   refine ak (aj (T:=fF) rfl rfl (ah ht1) rfl) ?_
   conv=>whnf
   by_cases hk:t.k=2
   ·rw [decide_eq_true (by omega)]
    rw [if_pos hk] at hQ
    obtain⟨n1,n2,n3⟩:=hno t (List.mem_of_getElem? ht) hk
    have he1:aZ (all.drop (m+1)):=by rw [hr];rw [hts] at he;exact he.tail (by rw [hk];decide)
    have h2:=h1.set (m':=m+1) (d':=d) (b':=false) (c':=c0) (l':=l0) (uG he1) h.dp
    have x2:aN p Z1 (V3 p w g all.length Z1 (m+1) d false c0 l0):=PO.ext
    conv=>whnf
    refine ak (aj (T:=xH) rfl rfl (ah h1.obj) rfl) ?_
    conv=>whnf
    refine ak (aj (T:=fF) rfl rfl (ah h1.obj) rfl) ?_
    conv=>whnf
    refine⟨((m+1:Nat):Int),by rw [wrap_i64 (by omega) (by omega)];omega,?_⟩
    conv=>whnf
    refine ak (aC (T:=fF) (aar w g all.length (m+1) d false c0 l0) rfl h1.obj rfl rfl (aU rfl) rfl) ?_
    conv=>whnf
    refine ak (aj (T:=fB) rfl rfl (ah (htk _ x2)) rfl) ?_
    conv=>whnf
    refine ak (aj (T:=fF) rfl rfl (ah (htk _ x2)) rfl) ?_
    conv=>whnf
    refine au.to (value_to t.s n1 n3 n2 _) ?_
    conv=>whnf
    refine⟨?_,?_⟩
    ·conv=>whnf
     refine ak (aj (T:=fF) rfl rfl (ah (htk _ x2)) rfl) ?_
     rfl
    ·conv=>whnf
     refine Fin.ref rfl (hQ _ _ _ _ _ _ (x1.trans (x2.new _ _)) (h2.new _ _) hr ?_)
     exact⟨_,0,.p0,.p0,.sl0,by show Z.length<=(V3 p w g all.length Z1 (m+1) d false c0 l0).length;rw [dW];exact x1.len,rfl,aG _ _ _,rfl,rfl,rfl⟩
   ·rw [decide_eq_false (by omega)]
    rw [if_neg hk] at hQ
    conv=>whnf
    refine ak (aj (T:=fF) rfl rfl (ah ht1) rfl) ?_
    conv=>whnf
    refine name_to h1 ht (fun hk1=>uG (by rw [hr];rw [hts] at he;exact he.tail (by rw [hk1];decide))) (fun hk1 Z2 x2 h2=>?_) (fun hk1 Z2 x2 h2=>?_)
    ·simp only [fA,if_pos hk1] at hQ
     conv=>whnf
     refine⟨?_,?_⟩
     ·conv=>whnf
      refine ak (aj (T:=fF) rfl rfl (ah (htk _ x2)) rfl) ?_
      rfl
     ·conv=>whnf
      refine Fin.ref rfl (hQ _ _ _ _ _ _ (x1.trans (x2.new _ _)) (h2.new _ _) hr ?_)
      exact⟨_,0,.p0,.p0,.sl0,by have:=x1.len;have:=x2.len;omega,rfl,aG _ _ _,rfl,rfl,rfl⟩
    ·simp only [fA,if_neg hk1] at hQ
     conv=>whnf
     refine⟨?_,?_⟩
     ·conv=>whnf
      refine ak (aj (T:=fF) rfl rfl (ah (htk _ x2)) rfl) ?_
      rfl
     ·conv=>whnf
      exact Fin.ref rfl (hQ _ _ _ _ (x1.trans (x2.new _ _)) (h2.new _ _))
end
end Go.Abs.YtlkfbfhkcaldlaaGreatDoor
namespace Go.Abs.YtlkfbfhkcaldlaaGreatDoor
open Go.Proofs
set_option maxRecDepth 4000
section
variable {p w g:Nat} {all:List Tok} {n:Nat}
theorem PL.ext {k j B d:Nat} {Z Z1:St} {Q:Out->Env->St->Prop} {r:Re Tr} (hQ:PL k j p w g all B Z d Q r)(x1:aN p Z Z1):PL k j p w g all B Z1 d Q r:=by
 cases r with
 | out=>trivial
 | bad c l=>exact fun o g' Z2 m2 e' q1 q2 x2 h2=>hQ o g' Z2 m2 e' q1 q2 (x1.trans x2) h2
 | ok x ts=>exact fun o g' Z2 m2 c2 l2 e' q1 x2 h2 hm hex=>hQ o g' Z2 m2 c2 l2 e' q1 (x1.trans x2) h2 hm hex
theorem bP.ext {B:Nat} {Z Z1:St} {v:AV} {x:Tr} (h:bP (fun i=>B<=i) Z v x)(x1:aN p Z Z1)(hp:p<B):bP (fun i=>B<=i) Z1 v x:=bP.mono (fun i hi=>hi) (fun i hi a ha=>x1.get (by omega) ha) h
theorem postL_bad {m d c l o g':Nat} {Z:St} {Q:Out->Env->St->Prop} (h:PO p w g all Z m d true c l)(q:∀e',get e' 3= .p o g' 0->get e' 1000000= .u->Q (.exit 0) e' Z):aV X [0,3] c103L0 [(0,.p p 0 0),(3,.p o g' 0)] Z Q:=by
 refine aV.round ay (lit:=false) ?_
 conv=>whnf
 refine ak (aj (T:=xH) rfl rfl (ah h.obj) rfl) ?_
 conv=>whnf
 exact q _ rfl rfl
theorem postL_w (ih:WE p w g all n)(d B:Nat)(x:Tr)(Z:St)(m c0 l0 o g':Nat)(Q:Out->Env->St->Prop)(h:PO p w g all Z m d false c0 l0)(hd:d<=64)(hp:p<B)(hB:B<=Z.length)(hnx:I8 x)(hex:bP (fun i=>B<=i) Z (.p o g' 0) x)(he:aZ (all.drop m))(hn:10*(all.drop m).length+9<=n+1)
 (hQ:PL 2 3 p w g all B Z d Q (dP (n+1) d x (all.drop m))):aV X [0,3] c103L0 [(0,.p p 0 0),(3,.p o g' 0)] Z Q:=by
 obtain⟨t,r,hts⟩:=he.ne
 obtain⟨ht,hr⟩:=b_ hts
 have hm:=h.at_
 refine aV.round ay (lit:=false) ?_
 conv=>whnf
 refine ak (aj (T:=xH) rfl rfl (ah h.obj) rfl) ?_
 conv=>whnf
 refine au.to (aao h ht) ?_
 conv=>whnf
 refine tok_st t h fun Z1 x1 h1 ht1 hl1=>?_
 have hpl:=bK h.obj
 have htk:∀s,aN p Z1 s->s[Z.length]? =some ⟨0,false,.cells 62 (uw t.k t.s t.l)⟩:=fun s x=>x.get (by omega) ht1
 unfold dP at hQ
 rw [hts] at hQ
 simp only at hQ
 conv=>whnf
 refine au.to (aaq _ h1 ht) ?_
 cases hi1:iK [91] t with
 | true=>
   conv=>whnf
   rw [if_pos (show aY [91] (t :: r)=true from hi1),<-hts] at hQ
   have hg:=(uD n).with_ d [91] [93] (all.drop m) he (by omega)
   refine ih.with_ d [91] [93] Z1 m _ _ _ h1 hd he (by omega) ?_
   generalize gI n d [91] [93] (all.drop m)=r1 at hg hQ
   cases r1 with
   | out=>exact hg.elim
   | bad c l=>
     intro o2 g2 Z2 m2 x2 h2
     conv=>whnf
     refine ak (aj (T:=fF) rfl rfl (ah (htk _ x2)) rfl) ?_
     conv=>whnf
     exact postL_bad (h2.new _ _) fun e' q1 q2=>hQ _ _ _ _ e' q1 q2 (x1.trans (x2.new _ _)) (h2.new _ _)
   | ok y bI=>
     intro o2 g2 Z2 m2 c2 l2 x2 h2 hm2 LP
     conv=>whnf
     refine ak (aj (T:=fF) rfl rfl (ah (htk _ x2)) rfl) ?_
     conv=>whnf
     have hQ:PL 2 3 p w g all B Z d Q (dP n d (.ex 5 0 [] [] x y .nil t.l) bI):=hQ
     rw [<-hm2] at hQ hg
     have l2':=x2.len
     refine ih.uz d B (.ex 5 0 [] [] x y .nil t.l) _ m2 c2 l2 Z2.length 0 Q (h2.new _ _) hd hp (by rw [aH];omega) trivial ⟨_,0,.p o g' 0,.p o2 g2 0,.sl0,(by omega:B<=Z2.length),rfl,aG _ _ _,?_,?_,rfl⟩ hg.2.1 (by have:=hg.2.2;omega) (hQ.ext (x1.trans (x2.new _ _)))
     ·exact hex.ext ((x1.trans x2).new _ _) hp
     ·exact bP.mono (fun i hi=>by omega) (fun i hi a ha=>at_new ha _ _) LP
 | false=>
   rw [if_neg (by rw [show aY [91] (t :: r)=iK [91] t from rfl,hi1];decide)] at hQ
   conv=>whnf
   refine sW _ h1 ht (fun _ hi2=>?_) (fun hi2=>?_)
   ·rw [if_pos (show aY [58] (t :: r)=true from hi2),<-hr] at hQ
    obtain⟨hm1,he1,hle⟩:=aX he hts hi2
    have h2':=h1.set (m':=m+1) (d':=d) (b':=false) (c':=c0) (l':=l0) hm1 h.dp
    have hg:=(uD n).cell d (all.drop (m+1)) he1 (by omega)
    conv=>whnf
    refine ih.cell d _ (m+1) _ _ _ h2' hd he1 (by omega) ?_
    generalize h_ n d (all.drop (m+1))=r1 at hg hQ
    cases r1 with
    | out=>exact hg.elim
    | bad c l=>
      intro o2 g2 Z2 m2 x2' h2
      have x2:aN p Z1 Z2:=PO.ext.trans x2'
      conv=>whnf
      refine ak (aj (T:=fF) rfl rfl (ah (htk _ x2)) rfl) ?_
      conv=>whnf
      exact postL_bad (h2.new _ _) fun e' q1 q2=>hQ _ _ _ _ e' q1 q2 (x1.trans (x2.new _ _)) (h2.new _ _)
    | ok y bI=>
      intro o2 g2 Z2 m2 c2 l2 x2' h2 hm2 LP
      have x2:aN p Z1 Z2:=PO.ext.trans x2'
      conv=>whnf
      refine ak (aj (T:=fF) rfl rfl (ah (htk _ x2)) rfl) ?_
      conv=>whnf
      have hQ:PL 2 3 p w g all B Z d Q (dP n d (.ex 6 0 [] [] x y .nil t.l) bI):=hQ
      rw [<-hm2] at hQ hg
      have l2':=x2.len
      refine ih.uz d B (.ex 6 0 [] [] x y .nil t.l) _ m2 c2 l2 Z2.length 0 Q (h2.new _ _) hd hp (by rw [aH];omega) trivial ⟨_,0,.p o g' 0,.p o2 g2 0,.sl0,(by omega:B<=Z2.length),rfl,aG _ _ _,?_,?_,rfl⟩ hg.2.1 (by have:=hg.2.2;omega) (hQ.ext (x1.trans (x2.new _ _)))
      ·exact hex.ext ((x1.trans x2).new _ _) hp
      ·exact bP.mono (fun i hi=>by rw [dW] at hi;omega) (fun i hi a ha=>at_new ha _ _) LP
   ·rw [if_neg (by rw [show aY [58] (t :: r)=iK [58] t from rfl];simpa using hi2)] at hQ
    conv=>whnf
    exact hQ o g' Z1 m c0 l0 _ rfl x1 h1 hts (hex.ext x1 hp)
theorem PE.toPL {k j d:Nat} {Z Z1:St} {Q:AV->St->Prop} {Q':Out->Env->St->Prop} {r:Re Tr} (hQ:PE p w g all Z d Q r)(x1:aN p Z Z1)(kr:∀o g' s e',get e' k= .p o g' 0->Q (.p o g' 0) s->Q' .ret e' s)
 (kx:∀o g' s e',get e' j= .p o g' 0->get e' 1000000= .u->Q (.p o g' 0) s->Q' (.exit 0) e' s):PL k j p w g all Z.length Z1 d Q' r:=by
 cases r with
 | out=>trivial
 | bad c l=>exact fun o g' Z2 m2 e' q1 q2 x2 h2=>kx _ _ _ _ q1 q2 (hQ o g' Z2 m2 (x1.trans x2) h2)
 | ok x ts=>exact fun o g' Z2 m2 c2 l2 e' q1 x2 h2 hm hex=>kr _ _ _ _ q1 (hQ o g' Z2 m2 c2 l2 (x1.trans x2) h2 hm hex)
theorem post_w (ih:WE p w g all n)(d:Nat)(Z:St)(m c0 l0:Nat)(Q:AV->St->Prop)(h:PO p w g all Z m d false c0 l0)(hd:d<=64)(he:aZ (all.drop m))(hn:10*(all.drop m).length+7<=n+1)(hQ:PE p w g all Z d Q (gW (n+1) d (all.drop m))):au X 103 [.p p 0 0] Z Q:=by
 refine au.body (F:=F103) ay (lit:=false) rfl rfl (aU rfl) ?_
 conv=>whnf
 unfold gW at hQ
 have hg:=(uD n).first d (all.drop m) he (by omega)
 refine ih.first d Z m _ _ _ h hd he (by omega) ?_
 generalize dI n d (all.drop m)=r1 at hg hQ
 cases r1 with
 | out=>exact hg.elim
 | bad c l=>
   intro o g' Z2 m2 x2 h2
   conv=>whnf
   refine postL_bad h2 fun e' q1 q2=>?_
   conv=>whnf
   rw [show Opd.ev e' (.t 3)=get e' 3 from rfl,q1]
   conv=>whnf
   exact Fin.ref rfl (hQ _ _ _ _ x2 h2)
 | ok x bI=>
   intro o g' Z2 m2 c2 l2 x2 h2 hm2 hex
   have hQ:PE p w g all Z d Q (dP n d x bI):=hQ
   rw [<-hm2] at hQ hg
   conv=>whnf
   have hlt:=hg.2.2
   refine ih.uz d Z.length x Z2 m2 c2 l2 o g' _ h2 hd (bK h.obj) x2.len hg.1 hex hg.2.1 (by omega) (hQ.toPL x2 (fun o g' s e' q1 q=>?_) (fun o g' s e' q1 q2 q=>?_))
   ·conv=>whnf
    rw [q1]
    conv=>whnf
    exact Fin.ref rfl q
   ·conv=>whnf
    rw [show Opd.ev e' (.t 3)=get e' 3 from rfl,q1]
    conv=>whnf
    exact Fin.ref rfl q
end
end Go.Abs.YtlkfbfhkcaldlaaGreatDoor
namespace Go.Abs.YtlkfbfhkcaldlaaGreatDoor
open Go.Proofs
set_option maxRecDepth 4000
theorem G_ (s:List UInt8):aF s<=6:=by
 unfold aF
 repeat' split
 all_goals omega
section
variable {p w g:Nat} {all:List Tok} {n:Nat}
theorem loop_bad {m d c l o g' k:Nat} {Z:St} {Q:Out->Env->St->Prop} (h:PO p w g all Z m d true c l)(q:∀e',get e' 5= .p o g' 0->get e' 1000000= .u->Q (.exit 0) e' Z):aV X [0,1,5] c100L0 [(0,.p p 0 0),(1,.i .i64 k),(5,.p o g' 0)] Z Q:=by
 refine aV.round ay (lit:=false) ?_
 conv=>whnf
 refine ak (aj (T:=xH) rfl rfl (ah h.obj) rfl) ?_
 conv=>whnf
 exact q _ rfl rfl
theorem loop_w (ih:WE p w g all n)(d c B:Nat)(x:Tr)(Z:St)(m c0 l0 o g':Nat)(Q:Out->Env->St->Prop)(h:PO p w g all Z m d false c0 l0)(hd:d<=64)(hc8:c<=8)(hp:p<B)(hB:B<=Z.length)(hnx:I8 x)(hex:bP (fun i=>B<=i) Z (.p o g' 0) x)(he:aZ (all.drop m))(hn:10*(all.drop m).length+9<=n+1)
 (hQ:PL 4 5 p w g all B Z d Q (fZ (n+1) d c x (all.drop m))):aV X [0,1,5] c100L0 [(0,.p p 0 0),(1,.i .i64 c),(5,.p o g' 0)] Z Q:=by
 obtain⟨t,r,hts⟩:=he.ne
 obtain⟨ht,hr⟩:=b_ hts
 have hm:=h.at_
 have hal:=h.len
 have hb6:=G_ t.s
 refine aV.round ay (lit:=false) ?_
 conv=>whnf
 refine ak (aj (T:=xH) rfl rfl (ah h.obj) rfl) ?_
 conv=>whnf
 refine au.to (aao h ht) ?_
 conv=>whnf
 refine tok_st t h fun Z1 x1 h1 ht1 hl1=>?_
 have hpl:=bK h.obj
 have htk:∀s,aN p Z1 s->s[Z.length]? =some ⟨0,false,.cells 62 (uw t.k t.s t.l)⟩:=fun s x=>x.get (by omega) ht1
 unfold fZ at hQ
 rw [hts] at hQ
 simp only at hQ
 conv=>whnf
 refine ak (aj (T:=fF) rfl rfl (ah ht1) rfl) ?_
 conv=>whnf
 by_cases hk:t.k=3
 ·rw [decide_eq_true (by omega)]
  conv=>whnf
  refine ak (aj (T:=fB) rfl rfl (ah ht1) rfl) ?_
  conv=>whnf
  refine au.to (binds_to t.s Z1) ?_
  conv=>whnf
  by_cases hb:aF t.s<c
  ·rw [decide_eq_true (by omega)]
   rw [if_neg (fun e=>e.2.2 hb)] at hQ
   conv=>whnf
   exact hQ o g' Z1 m c0 l0 _ rfl x1 h1 hts (hex.ext x1 hp)
  ·rw [decide_eq_false (by omega)]
   conv=>whnf
   by_cases hz:aF t.s=0
   ·rw [decide_eq_true (by omega)]
    rw [if_neg (fun e=>e.2.1 hz)] at hQ
    conv=>whnf
    exact hQ o g' Z1 m c0 l0 _ rfl x1 h1 hts (hex.ext x1 hp)
   ·rw [decide_eq_false (by omega)]
    rw [if_pos ⟨hk,hz,hb⟩,<-hr] at hQ
    have he1:aZ (all.drop (m+1)):=by rw [hr];rw [hts] at he;exact he.tail (by rw [hk];decide)
    have hle:(all.drop (m+1)).length<(all.drop m).length:=by rw [hr,hts];simp
    have h2':=h1.set (m':=m+1) (d':=d) (b':=false) (c':=c0) (l':=l0) (uG he1) h.dp
    have hg:=(uD n).expr d (aF t.s+1) (all.drop (m+1)) he1 (by omega)
    conv=>whnf
    refine ak (aj (T:=fF) rfl rfl (ah h1.obj) rfl) ?_
    conv=>whnf
    refine⟨((m+1:Nat):Int),by rw [wrap_i64 (by omega) (by omega)];omega,?_⟩
    conv=>whnf
    refine ak (aC (T:=fF) (aar w g all.length (m+1) d false c0 l0) rfl h1.obj rfl rfl (aU rfl) rfl) ?_
    conv=>whnf
    refine⟨((aF t.s+1:Nat):Int),by rw [wrap_i64 (by omega) (by omega)];omega,?_⟩
    conv=>whnf
    refine ih.expr d (aF t.s+1) _ (m+1) _ _ _ h2' hd (by omega) he1 (by omega) ?_
    generalize dn n d (aF t.s+1) (all.drop (m+1))=r1 at hg hQ
    cases r1 with
    | out=>exact hg.elim
    | bad c l=>
      intro o2 g2 Z2 m2 x2' h2
      have x2:aN p Z1 Z2:=PO.ext.trans x2'
      conv=>whnf
      refine ak (aj (T:=fB) rfl rfl (ah (htk _ x2)) rfl) ?_
      conv=>whnf
      refine ak (aj (T:=fF) rfl rfl (ah (htk _ x2)) rfl) ?_
      conv=>whnf
      exact loop_bad (h2.new _ _) fun e' q1 q2=>hQ _ _ _ _ e' q1 q2 (x1.trans (x2.new _ _)) (h2.new _ _)
    | ok y bI=>
      intro o2 g2 Z2 m2 c2 l2 x2' h2 hm2 LP
      have x2:aN p Z1 Z2:=PO.ext.trans x2'
      conv=>whnf
      refine ak (aj (T:=fB) rfl rfl (ah (htk _ x2)) rfl) ?_
      conv=>whnf
      refine ak (aj (T:=fF) rfl rfl (ah (htk _ x2)) rfl) ?_
      conv=>whnf
      have hQ:PL 4 5 p w g all B Z d Q (fZ n d c (.ex 3 0 [] t.s x y .nil t.l) bI):=hQ
      rw [<-hm2] at hQ hg
      have l2':=x2.len
      refine ih.loop d c B (.ex 3 0 [] t.s x y .nil t.l) _ m2 c2 l2 Z2.length 0 Q (h2.new _ _) hd hc8 hp (by rw [aH];omega) trivial ⟨_,0,.p o g' 0,.p o2 g2 0,.sl0,(by omega:B<=Z2.length),rfl,aG _ _ _,?_,?_,rfl⟩ hg.2.1 (by have:=hg.2.2;omega) (hQ.ext (x1.trans (x2.new _ _)))
      ·exact hex.ext ((x1.trans x2).new _ _) hp
      ·exact bP.mono (fun i hi=>by have hi:(V3 p w g all.length Z1 (m+1) d false c0 l0).length<=i:=hi;rw [dW] at hi;omega) (fun i hi a ha=>at_new ha _ _) LP
 ·rw [decide_eq_false (by omega)]
  rw [if_neg (fun e=>hk e.1)] at hQ
  conv=>whnf
  by_cases hb:0<c
  ·rw [decide_eq_true (by omega)]
   conv=>whnf
   exact hQ o g' Z1 m c0 l0 _ rfl x1 h1 hts (hex.ext x1 hp)
  ·rw [decide_eq_false (by omega)]
   conv=>whnf
   exact hQ o g' Z1 m c0 l0 _ rfl x1 h1 hts (hex.ext x1 hp)
theorem expr_w (ih:WE p w g all n)(d c:Nat)(Z:St)(m c0 l0:Nat)(Q:AV->St->Prop)(h:PO p w g all Z m d false c0 l0)(hd:d<=64)(hc8:c<=8)(he:aZ (all.drop m))(hn:10*(all.drop m).length+9<=n+1)(hQ:PE p w g all Z d Q (dn (n+1) d c (all.drop m))):au X 100 [.p p 0 0,.i .i64 c] Z Q:=by
 refine au.body (F:=F100) ay (lit:=false) rfl rfl (aU rfl) ?_
 conv=>whnf
 unfold dn at hQ
 have hg:=(uD n).un d (all.drop m) he (by omega)
 refine ih.un d Z m _ _ _ h hd he (by omega) ?_
 generalize xP n d (all.drop m)=r1 at hg hQ
 cases r1 with
 | out=>exact hg.elim
 | bad c l=>
   intro o g' Z2 m2 x2 h2
   conv=>whnf
   refine loop_bad h2 fun e' q1 q2=>?_
   conv=>whnf
   rw [show Opd.ev e' (.t 5)=get e' 5 from rfl,q1]
   conv=>whnf
   exact Fin.ref rfl (hQ _ _ _ _ x2 h2)
 | ok x bI=>
   intro o g' Z2 m2 c2 l2 x2 h2 hm2 hex
   have hQ:PE p w g all Z d Q (fZ n d c x bI):=hQ
   rw [<-hm2] at hQ hg
   conv=>whnf
   have hlt:=hg.2.2
   refine ih.loop d c Z.length x Z2 m2 c2 l2 o g' _ h2 hd hc8 (bK h.obj) x2.len hg.1 hex hg.2.1 (by omega) (hQ.toPL x2 (fun o g' s e' q1 q=>?_) (fun o g' s e' q1 q2 q=>?_))
   ·conv=>whnf
    rw [q1]
    conv=>whnf
    exact Fin.ref rfl q
   ·conv=>whnf
    rw [show Opd.ev e' (.t 5)=get e' 5 from rfl,q1]
    conv=>whnf
    exact Fin.ref rfl q
end
end Go.Abs.YtlkfbfhkcaldlaaGreatDoor
namespace Go.Abs.YtlkfbfhkcaldlaaGreatDoor
open Go.Proofs
set_option maxRecDepth 4000
def He (B:Nat)(Z:St)(v:AV)(cs:List AV):Prop:=(cs=[]/\v= .sl0)\/∃o g,B<=o/\v= .sl o g 0 cs.length 1/\Z[o]? =some ⟨g,false,.cells 44 cs⟩/\cs≠[]
def apart (v:AV)(i:Nat):Prop:=∀o g n z,v= .sl o g 0 n z->i≠o
theorem app_raw {B:Nat} {Z:St} {v:AV} {cs:List AV} (h:He B Z v cs) {oy gy:Nat} (hcs:cs.all AV.one=true)(hl:cs.length<=100000) {C:Nat} (hC:Z[C]? =some ⟨0,false,.cells 44 [.p oy gy 0]⟩)(hB:B<=Z.length) {Q:AV->St->Prop}
 (q:∀v' Z',He B Z' v' (cs ++ [.p oy gy 0])->Z.length<=Z'.length->(∀i,i<Z.length->apart v i->Z'[i]? =Z[i]?/\apart v' i)->(∀i,i<B->Z'[i]? =Z[i]?)->(∀i,Z'.length<=i->apart v' i)->Q v' Z') :
 D8 KL.get false 46 v (.sl C 0 0 1 1) Z Q:=by
 constructor
 refine ak (v:=uf) rfl ?_
 refine ak (v:=aW) rfl ?_
 refine ak (kG hC (aU rfl)) ?_
 rcases h with ⟨rfl,rfl⟩ | ⟨o,g,h1,rfl,h3,_⟩
 ·refine⟨aU rfl,?_⟩
  refine q _ _ (.inr ⟨Z.length,0,hB,rfl,?_,by simp⟩) (by rw [aH];omega) (fun i hi _=>⟨eu hi,fun o g n z e=>by cases e;omega⟩) (fun i hi=>eu (by omega)) (fun i hi o g n z e=>by cases e;rw [aH] at hi;omega)
  rw [aG];rfl
 ·refine ak (oC h3) ?_
  refine⟨rfl,by simp,?_,by rw [List.drop_zero,List.take_of_length_le (by omega)];exact hcs,?_⟩
  ·show (cs.length+1)*8<=_;omega
  refine q _ _ (.inr ⟨o,g+1,h1,by simp,?_,by simp⟩) (by rw [gK];exact Nat.le_refl _) (fun i hi ha=>⟨by rw [rZ (fun e=>ha o g _ _ rfl e.symm)],fun o' g' n z e=>by cases e;exact ha o g _ _ rfl⟩) (fun i hi=>by rw [rZ (by omega)]) (fun i hi o' g' n z e=>by cases e;rw [gK] at hi;have:=bK h3;omega)
  rw [at_set h3]
  simp [List.take_of_length_le]
  rfl
def gq (S:Nat->Prop)(Z:St):List AV->List Tr->Prop
 | [],[]=>True
 | a :: cs,x :: xs=>(∃o g,a= .p o g 0)/\bP S Z a x/\gq S Z cs xs
 | _,_=>False
theorem gq.mono {S S':Nat->Prop} {Z Z':St} (h1:∀o,S o->S' o)(h2:∀o,S o->∀a,Z[o]? =some a->Z'[o]? =some a):∀{cs:List AV} {xs:List Tr},gq S Z cs xs->gq S' Z' cs xs
 | [],[],_=>trivial
 | a :: cs,x :: xs,h=>⟨h.1,bP.mono h1 h2 h.2.1,gq.mono h1 h2 h.2.2⟩
theorem gq.snoc {S:Nat->Prop} {Z:St} :∀{cs:List AV} {xs:List Tr} {a:AV} {x:Tr},gq S Z cs xs->(∃o g,a= .p o g 0)->bP S Z a x->gq S Z (cs ++ [a]) (xs ++ [x])
 | [],[],a,x,_,ha,hx=>⟨ha,hx,trivial⟩
 | b :: cs,y :: xs,a,x,h,ha,hx=>⟨h.1,h.2.1,gq.snoc h.2.2 ha hx⟩
theorem gq.len {S:Nat->Prop} {Z:St} :∀{cs:List AV} {xs:List Tr},gq S Z cs xs->cs.length=xs.length
 | [],[],_=>rfl
 | a :: cs,x :: xs,h=>by have:=gq.len h.2.2;simp [this]
theorem gq.one {S:Nat->Prop} {Z:St} :∀{cs:List AV} {xs:List Tr},gq S Z cs xs->cs.all AV.one=true
 | [],[],_=>rfl
 | a :: cs,x :: xs,h=>by
   obtain⟨o,g,rfl⟩:=h.1
   rw [List.all_cons,gq.one h.2.2];rfl
def LD:List Tr->jA
 | []=>.nil
 | x :: xs=>.cons x (LD xs)
def BJ:jA->List Tr
 | .nil=>[]
 | .cons x xs=>x :: BJ xs
theorem to_of:∀xs:jA,LD (BJ xs)=xs
 | .nil=>rfl
 | .cons x xs=>by show jA.cons x (LD (BJ xs))=_;rw [to_of xs]
theorem gq.argL {S:Nat->Prop} {Z:St} :∀{cs:List AV} {xs:List Tr},gq S Z cs xs->uF S Z cs (LD xs)
 | [],[],_=>rfl
 | a :: cs,x :: xs,h=>⟨a,cs,rfl,h.2.1,gq.argL h.2.2⟩
def qI (B:Nat)(Z:St)(v:AV)(xs:List Tr):Prop:=∃cs,He B Z v cs/\gq (fun i=>B<=i/\apart v i) Z cs xs
theorem qI.arg {B:Nat} {Z:St} {v:AV} {xs:List Tr} (h:qI B Z v xs):jK (fun i=>B<=i) Z v (LD xs):=by
 obtain⟨cs,h1,h2'⟩:=h
 have h2:gq (fun i=>B<=i) Z cs xs:=h2'.mono (fun i hi=>hi.1) (fun i hi a ha=>ha)
 rcases h1 with ⟨rfl,rfl⟩ | ⟨o,g,q1,rfl,q3,q4⟩
 ·cases xs with
  | nil=>rfl
  | cons _ _=>exact h2.elim
 ·cases cs with
  | nil=>
    cases xs with
    | nil=>exact(q4 rfl).elim
    | cons _ _=>exact h2.elim
  | cons a cs=>
    cases xs with
    | nil=>exact h2.elim
    | cons x xs=>exact⟨o,g,a :: cs,q1,rfl,q3,a,cs,rfl,h2.2.1,h2.2.2.argL⟩
end Go.Abs.YtlkfbfhkcaldlaaGreatDoor
namespace Go.Abs.YtlkfbfhkcaldlaaGreatDoor
open Go.Proofs
set_option maxRecDepth 4000
structure FP (p B:Nat)(Z Z':St):Prop where
 len:Z.length<=Z'.length
 old:∀i,i<B->i≠p->Z'[i]? =Z[i]?
theorem FP.refl (p B:Nat)(Z:St):FP p B Z Z:=⟨Nat.le_refl _,fun _ _ _=>rfl⟩
theorem FP.trans {p B:Nat} {a b c:St} (h:FP p B a b)(k:FP p B b c):FP p B a c:=⟨Nat.le_trans h.len k.len,fun i hi hp=>by rw [k.old i hi hp,h.old i hi hp]⟩
theorem FP.of {p B:Nat} {a b:St} (h:aN p a b)(hB:B<=a.length):FP p B a b:=⟨h.len,fun i hi hp=>h.old i (by omega) hp⟩
def JI (v:AV):Prop:=v= .sl0\/∃o g n,v= .sl o g 0 n 1
section
variable {p w g:Nat} {all:List Tok} {n:Nat}
def PA (p w g tl:Nat)(nm:List UInt8)(all:List Tok)(B:Nat)(Z:St)(d:Nat)(acc:List Tr)(Q:Out->Env->St->Prop):Re jA->Prop
 | .ok xs ts=>∀v Z' m' c l e',get e' 0= .p p 0 0->get e' 3= .p tl 0 0->get e' 4= .s nm->get e' 5=v->get e' 1000000= .u->FP p B Z Z'->PO p w g all Z' m' d false c l->all.drop m'= ts->qI B Z' v (acc ++ BJ xs)->Q (.exit 0) e' Z'
 | .bad c l=>∀v Z' m' e',get e' 0= .p p 0 0->get e' 3= .p tl 0 0->get e' 4= .s nm->get e' 5=v->get e' 1000000= .u->FP p B Z Z'->PO p w g all Z' m' d true c l->JI v->Q (.exit 0) e' Z'
 | .out=>True
theorem args_bad {m d c l tl:Nat} {nm:List UInt8} {v:AV} {Z:St} {Q:Out->Env->St->Prop} (h:PO p w g all Z m d true c l)(hv:JI v)
 (q:∀e',get e' 0= .p p 0 0->get e' 3= .p tl 0 0->get e' 4= .s nm->get e' 5=v->get e' 1000000= .u->Q (.exit 0) e' Z):aV X [0,3,4,5] c129L0 [(0,.p p 0 0),(3,.p tl 0 0),(4,.s nm),(5,v)] Z Q:=by
 rcases hv with rfl | ⟨o,g,k,rfl⟩
 all_goals
  refine aV.round ay (lit:=false) ?_
  conv=>whnf
  refine ak (aj (T:=xH) rfl rfl (ah h.obj) rfl) ?_
  conv=>whnf
  exact q _ rfl rfl rfl rfl rfl
theorem He.sl {B:Nat} {Z:St} {v:AV} {cs:List AV} (h:He B Z v cs):JI v:=by
 rcases h with ⟨_,rfl⟩ | ⟨o,g,_,rfl,_⟩
 ·exact .inl rfl
 ·exact .inr ⟨_,_,_,rfl⟩
theorem PO.keep {m d c l:Nat} {b:Bool} {Z Z':St} (h:PO p w g all Z m d b c l)(h1:Z'[p]? =Z[p]?)(h2:Z'[w]? =Z[w]?):PO p w g all Z' m d b c l:=⟨h1.trans h.obj,h2.trans h.tok,h.ne,h.len,h.at_,h.dp⟩
theorem gq.below {S:Nat->Prop} {Z:St} :∀{cs:List AV} {xs:List Tr},gq S Z cs xs->gq (fun o=>S o/\o<Z.length) Z cs xs
 | [],[],_=>trivial
 | a :: cs,x :: xs,h=>⟨h.1,h.2.1.below,h.2.2.below⟩
theorem args_w (ih:WE p w g all n)(tl:Nat)(nm:List UInt8)(d B:Nat)(Xm:∀(acc:List Tr) (v:AV) (Z:St) (m c0 l0:Nat) (Q:Out->Env->St->Prop),PO p w g all Z m d false c0 l0->B<=Z.length->qI B Z v acc->aZ (all.drop m)->10*(all.drop m).length+10<=n->acc.length+(all.drop m).length<=40001->PA p w g tl nm all B Z d acc Q (fG n d acc.isEmpty (all.drop m))->aV X [0,3,4,5] c129L0 [(0,.p p 0 0),(3,.p tl 0 0),(4,.s nm),(5,v)] Z Q)
 (acc:List Tr) (v:AV) (Z:St) (m c0 l0:Nat) (Q:Out->Env->St->Prop) (h:PO p w g all Z m d false c0 l0) (hd:d<=64) (hp:p<B) (hw:w<B) (hB:B<=Z.length) (ha:qI B Z v acc) (he:aZ (all.drop m)) (hn:10*(all.drop m).length+10<=n+1) (hs:acc.length+(all.drop m).length<=40001)
 (hQ:PA p w g tl nm all B Z d acc Q (fG (n+1) d acc.isEmpty (all.drop m))):aV X [0,3,4,5] c129L0 [(0,.p p 0 0),(3,.p tl 0 0),(4,.s nm),(5,v)] Z Q:=by
 obtain⟨t,r,hts⟩:=he.ne
 obtain⟨ht,hr⟩:=b_ hts
 have hm:=h.at_
 have hal:=h.len
 unfold fG at hQ
 rw [hts] at hQ
 obtain⟨cs,hraw,hea⟩:=ha
 have hcl:=hea.len
 have hco:=hea.one
 rcases hraw with ⟨rfl,rfl⟩ | ⟨o,g',q1,rfl,q3,q4⟩
 ·obtain rfl:acc=[]:=by cases acc with | nil=>rfl | cons _ _=>cases hcl
  refine aV.round ay (lit:=false) ?_
  conv=>whnf
  refine ak (aj (T:=xH) rfl rfl (ah h.obj) rfl) ?_
  conv=>whnf
  refine au.to (aaq _ h ht) ?_
  cases hi:iK [41] t with
  | true=>
    conv=>whnf
    rw [if_pos (show aY [41] (t :: r)=true from hi)] at hQ
    exact hQ .sl0 Z m c0 l0 _ rfl rfl rfl rfl rfl (.refl _ _ _) h hts ⟨[],.inl ⟨rfl,rfl⟩,trivial⟩
  | false=>
    rw [if_neg (by rw [show aY [41] (t :: r)=iK [41] t from rfl,hi];decide),<-hts] at hQ
    have hg:=(uD n).expr d 1 (all.drop m) he (by omega)
    have hQ:PA p w g tl nm all B Z d [] Q ((dn n d 1 (all.drop m)).bind fun x ts=>(fG n d false ts).bind fun xs ts=>.ok (.cons x xs) ts):=hQ
    conv=>whnf
    refine ih.expr d 1 Z m _ _ _ h hd (by omega) he (by omega) ?_
    generalize dn n d 1 (all.drop m)=r1 at hg hQ
    cases r1 with
    | out=>exact hg.elim
    | bad c l=>
      intro o2 g2 Z2 m2 x2 h2
      have l2:=x2.len
      conv=>whnf
      refine app_raw (B:=B) (cs:=[]) (.inl ⟨rfl,rfl⟩) rfl (by simp) (aG _ _ _) (by rw [aH];omega) fun v' Z3 hr3 hl3 ho3 hb3 hap3=>?_
      rw [aH] at hl3
      have h3:PO p w g all Z3 m2 d true c l:=(h2.new 44 [.p o2 g2 0]).keep (hb3 p hp) (hb3 w hw)
      have hsl:=hr3.sl
      obtain⟨o3,g3,p1,rfl,p3,p4⟩:=hr3.resolve_left (by simp)
      conv=>whnf
      exact args_bad h3 hsl fun e' e0 e3 e4 e5 e9=>hQ _ Z3 m2 e' e0 e3 e4 e5 e9 ⟨by omega,fun i hi o_=>by rw [hb3 i hi,eu (by omega),x2.old i (by omega) o_]⟩ h3 hsl
    | ok y bI=>
      intro o2 g2 Z2 m2 c2 l2 x2 h2 hm2 LP
      have lx:=x2.len
      conv=>whnf
      refine app_raw (B:=B) (cs:=[]) (.inl ⟨rfl,rfl⟩) rfl (by simp) (aG _ _ _) (by rw [aH];omega) fun v' Z3 hr3 hl3 ho3 hb3 hap3=>?_
      have h3:PO p w g all Z3 m2 d false c2 l2:=(h2.new 44 [.p o2 g2 0]).keep (hb3 p hp) (hb3 w hw)
      have hacc:qI B Z3 v' [y]:=⟨_,hr3,⟨_,_,rfl⟩,bP.mono (fun i hi=>⟨by omega,(ho3 i (by rw [aH];omega) (fun _ _ _ _ e=>by cases e)).2⟩) (fun i hi a ha=>by rw [(ho3 i (by rw [aH];omega) (fun _ _ _ _ e=>by cases e)).1];exact at_new ha _ _) LP.below,trivial⟩
      rw [aH] at hl3
      have hx3:FP p B Z Z3:=⟨by omega,fun i hi o_=>by rw [hb3 i hi,eu (by omega),x2.old i (by omega) o_]⟩
      have hQ:PA p w g tl nm all B Z d [] Q ((fG n d false bI).bind fun xs ts=>.ok (.cons y xs) ts):=hQ
      rw [<-hm2] at hQ hg
      have hlt:=hg.2.2
      obtain⟨o3,g3,p1,rfl,p3,p4⟩:=hr3.resolve_left (by simp)
      conv=>whnf
      refine Xm [y] _ Z3 m2 c2 l2 Q h3 (by omega) hacc hg.2.1 (by omega) (by simp only [bg,bZ] at hs ⊢;omega) ?_
      show PA p w g tl nm all B Z3 d [y] Q (fG n d false (all.drop m2))
      generalize fG n d false (all.drop m2)=r2 at hQ
      cases r2 with
      | out=>trivial
      | bad c l=>exact fun v4 Z4 m4 e' e0 e3 e4 e5 e9 x4=>hQ v4 Z4 m4 e' e0 e3 e4 e5 e9 (hx3.trans x4)
      | ok xs wW=>exact fun v4 Z4 m4 c4 l4 e' e0 e3 e4 e5 e9 x4 h4 hm4 VB=>hQ v4 Z4 m4 c4 l4 e' e0 e3 e4 e5 e9 (hx3.trans x4) h4 hm4 VB
 ·have hcp:0<cs.length:=List.length_pos_iff.2 q4
  have hol:=bK q3
  have hne:acc.isEmpty=false:=by cases acc with | nil=>(simp only [bZ] at hcl;omega) | cons _ _=>rfl
  rw [hne] at hQ
  have step:∀(Z2:St) (o2 g2:Nat) (x2:aN p Z Z2) (Q2:AV->St->Prop),(∀o3 g3 k Z3,He B Z3 (.sl o3 g3 0 k 1) (cs ++ [.p o2 g2 0])->FP p B Z Z3->Z3[p]? =Z2[p]?->Z3[w]? =Z2[w]?->(∀(D:Nat) y,D<=Z2.length->Z.length<=D->bP (fun i=>D<=i) Z2 (.p o2 g2 0) y->qI B Z3 (.sl o3 g3 0 k 1) (acc ++ [y]))->B<=Z3.length->Q2 (.sl o3 g3 0 k 1) Z3)->
        D8 KL.get false 46 (.sl o g' 0 cs.length 1) (.sl Z2.length 0 0 1 1) (newCells 44 [.p o2 g2 0] Z2) Q2:=by
   intro Z2 o2 g2 x2 Q2 q
   have lx:=x2.len
   refine app_raw (B:=B) (cs:=cs) (.inr ⟨o,g',q1,rfl,at_new (x2.get (by omega) q3) _ _,q4⟩) hco (by omega) (aG _ _ _) (by rw [aH];omega) fun v' Z3 hr3 hl3 ho3 hb3 hap3=>?_
   rw [aH] at hl3
   obtain⟨o3,g3,p1,rfl,p3,p4⟩:=hr3.resolve_left (by simp)
   refine q _ _ _ Z3 hr3 ⟨by omega,fun i hi o_=>by rw [hb3 i hi,eu (by omega),x2.old i (by omega) o_]⟩ (by rw [hb3 p hp,eu (by have:=bK h.obj;omega)]) (by rw [hb3 w hw,eu (by have:=bK h.tok;omega)]) (fun D y hD hD2 LP=>?_) (by omega)
   refine⟨_,hr3,gq.snoc (gq.mono (fun i hi=>⟨hi.1.1,(ho3 i (by rw [aH];omega) hi.1.2).2⟩) (fun i hi a ha=>by rw [(ho3 i (by rw [aH];omega) hi.1.2).1,eu (by omega),x2.old i hi.2 (by omega)];exact ha) hea.below) ⟨_,_,rfl⟩ (bP.mono (fun i hi=>⟨by omega,(ho3 i (by rw [aH];omega) (fun _ _ _ _ e=>by cases e;omega)).2⟩) (fun i hi a ha=>by rw [(ho3 i (by rw [aH];omega) (fun _ _ _ _ e=>by cases e;omega)).1];exact at_new ha _ _) LP.below)⟩
  refine aV.round ay (lit:=false) ?_
  conv=>whnf
  refine ak (aj (T:=xH) rfl rfl (ah h.obj) rfl) ?_
  conv=>whnf
  refine au.to (aaq _ h ht) ?_
  cases hi:iK [41] t with
  | true=>
    conv=>whnf
    rw [if_pos (show aY [41] (t :: r)=true from hi)] at hQ
    exact hQ _ Z m c0 l0 _ rfl rfl rfl rfl rfl (.refl _ _ _) h hts ⟨cs,.inr ⟨o,g',q1,rfl,q3,q4⟩,by rw [show acc ++ BJ .nil=acc from List.append_nil acc];exact hea⟩
  | false=>
    rw [if_neg (by rw [show aY [41] (t :: r)=iK [41] t from rfl,hi];decide),if_neg (by decide)] at hQ
    conv=>whnf
    rw [decide_eq_true (by omega)]
    conv=>whnf
    refine aap _ h ht (fun hi2=>?_) (fun hi2=>?_)
    ·rw [aQ,if_pos (show aY [44] (t :: r)=true from hi2)] at hQ
     obtain⟨hm1,he1,hle⟩:=aX he hts hi2
     have h1:=h.set (m':=m+1) (d':=d) (b':=false) (c':=c0) (l':=l0) hm1 h.dp
     have hg:=(uD n).expr d 1 (all.drop (m+1)) he1 (by omega)
     have hQ:PA p w g tl nm all B Z d acc Q ((dn n d 1 r).bind fun x ts=>(fG n d false ts).bind fun xs ts=>.ok (.cons x xs) ts):=hQ
     rw [<-hr] at hQ
     conv=>whnf
     refine ih.expr d 1 _ (m+1) _ _ _ h1 hd (by omega) he1 (by omega) ?_
     generalize dn n d 1 (all.drop (m+1))=r1 at hg hQ
     cases r1 with
     | out=>exact hg.elim
     | bad c l=>
       intro o2 g2 Z2 m2 x2' h2
       conv=>whnf
       refine step Z2 o2 g2 (PO.ext.trans x2') _ fun o3 g3 k Z3 hr3 hx3 e1 e2 _ _=>?_
       have h3:=h2.keep e1 e2
       conv=>whnf
       exact args_bad h3 hr3.sl fun e' e0 e3 e4 e5 e9=>hQ _ Z3 m2 e' e0 e3 e4 e5 e9 hx3 h3 hr3.sl
     | ok y bI=>
       intro o2 g2 Z2 m2 c2 l2 x2' h2 hm2 LP
       have lx':=x2'.len
       rw [dW] at lx'
       conv=>whnf
       refine step Z2 o2 g2 (PO.ext.trans x2') _ fun o3 g3 k Z3 hr3 hx3 e1 e2 hac hB3=>?_
       have h3:=h2.keep e1 e2
       have hacc:=hac _ y (by rw [dW];exact lx') (by rw [dW];exact Nat.le_refl _) LP
       have hQ:PA p w g tl nm all B Z d acc Q ((fG n d false bI).bind fun xs ts=>.ok (.cons y xs) ts):=hQ
       rw [<-hm2] at hQ hg
       have hlt:=hg.2.2
       conv=>whnf
       refine Xm (acc ++ [y]) _ Z3 m2 c2 l2 Q h3 hB3 hacc hg.2.1 (by omega) (by rw [bM];simp only [bg,bZ];omega) ?_
       rw [show (acc ++ [y]).isEmpty=false by cases acc <;> rfl]
       generalize fG n d false (all.drop m2)=r2 at hQ
       cases r2 with
       | out=>trivial
       | bad c l=>exact fun v4 Z4 m4 e' e0 e3 e4 e5 e9 x4=>hQ v4 Z4 m4 e' e0 e3 e4 e5 e9 (hx3.trans x4)
       | ok xs wW=>exact fun v4 Z4 m4 c4 l4 e' e0 e3 e4 e5 e9 x4 h4 hm4 VB=>hQ v4 Z4 m4 c4 l4 e' e0 e3 e4 e5 e9 (hx3.trans x4) h4 hm4 (by rw [iC] at VB;exact VB)
    ·rw [aQ,if_neg (by rw [show aY [44] (t :: r)=iK [44] t from rfl,hi2];decide)] at hQ
     have h1:=h.set (m':=m) (d':=d) (b':=true) (c':=4) (l':=t.l) h.at_ h.dp
     conv=>whnf
     refine expr_bad 1 h1 ht fun o2 Z2 x2' h2=>?_
     conv=>whnf
     refine step Z2 o2 0 (PO.ext.trans x2') _ fun o3 g3 k Z3 hr3 hx3 e1 e2 _ _=>?_
     have h3:=h2.keep e1 e2
     conv=>whnf
     exact args_bad h3 hr3.sl fun e' e0 e3 e4 e5 e9=>hQ _ Z3 m e' e0 e3 e4 e5 e9 hx3 h3 hr3.sl
end
end Go.Abs.YtlkfbfhkcaldlaaGreatDoor
namespace Go.Abs.YtlkfbfhkcaldlaaGreatDoor
open Go.Proofs
set_option maxRecDepth 4000
section
variable {p w g:Nat} {all:List Tok} {n:Nat}
def ArgsLaw (p w g:Nat)(all:List Tok)(n:Nat):Prop:=∀(tl:Nat) (nm:List UInt8) (d B:Nat),d<=64->p<B->w<B->∀(acc:List Tr) (v:AV) (Z:St) (m c0 l0:Nat) (Q:Out->Env->St->Prop),PO p w g all Z m d false c0 l0->B<=Z.length->qI B Z v acc->aZ (all.drop m)->10*(all.drop m).length+10<=n->acc.length+(all.drop m).length<=40001->PA p w g tl nm all B Z d acc Q (fG n d acc.isEmpty (all.drop m))->aV X [0,3,4,5] c129L0 [(0,.p p 0 0),(3,.p tl 0 0),(4,.s nm),(5,v)] Z Q
theorem args_law (ih:WE p w g all n)(Xm:ArgsLaw p w g all n):ArgsLaw p w g all (n+1):=fun tl nm d B hd hp hw acc v Z m c0 l0 Q h hB ha he hn hs hQ=>args_w ih tl nm d B (Xm tl nm d B hd hp hw) acc v Z m c0 l0 Q h hd hp hw hB ha he hn hs hQ
theorem first_w (hno:EH all)(ih:WE p w g all n)(Xm:ArgsLaw p w g all n)(d:Nat)(Z:St)(m c0 l0:Nat)(Q:AV->St->Prop)(h:PO p w g all Z m d false c0 l0)(hd:d<=64)(he:aZ (all.drop m))(hn:10*(all.drop m).length+6<=n+1)(hQ:PE p w g all Z d Q (dI (n+1) d (all.drop m))):au X 129 [.p p 0 0] Z Q:=by
 obtain⟨t,r,hts⟩:=he.ne
 obtain⟨ht,hr⟩:=b_ hts
 have hm:=h.at_
 have hal:=h.len
 refine au.body (F:=F129) ay (lit:=false) rfl rfl (aU rfl) ?_
 conv=>whnf
 refine au.to (aao h ht) ?_
 conv=>whnf
 refine tok_st t h fun Z1 x1 h1 ht1 hl1=>?_
 have hpl:=bK h.obj
 have hwl:=bK h.tok
 have htk:∀s,aN p Z1 s->s[Z.length]? =some ⟨0,false,.cells 62 (uw t.k t.s t.l)⟩:=fun s x=>x.get (by omega) ht1
 unfold dI at hQ
 rw [hts] at hQ
 simp only at hQ
 conv=>whnf
 refine au.to (aaq _ h1 ht) ?_
 cases hi1:iK [40] t with
 | true=>
   conv=>whnf
   rw [if_pos (show aY [40] (t :: r)=true from hi1),<-hts] at hQ
   refine ih.with_ d [40] [41] Z1 m _ _ _ h1 hd he (by omega) (hQ.to x1 fun o g' s q=>?_)
   conv=>whnf
   exact Fin.ref rfl q
 | false=>
   rw [if_neg (by rw [show aY [40] (t :: r)=iK [40] t from rfl,hi1];decide)] at hQ
   conv=>whnf
   refine sW _ h1 ht (fun _ hi2=>?_) (fun hi2=>?_)
   ·rw [if_pos (show aY qF (t :: r)=true from hi2),<-hr] at hQ
    obtain⟨hm1,he1,hle⟩:=aX he hts hi2
    have h2':=h1.set (m':=m+1) (d':=d) (b':=false) (c':=c0) (l':=l0) hm1 h.dp
    have hg:=(uD n).with_ d [40] [41] (all.drop (m+1)) he1 (by omega)
    conv=>whnf
    refine ak (aj (T:=fF) rfl rfl (ah (htk _ PO.ext)) rfl) ?_
    conv=>whnf
    refine ih.with_ d [40] [41] _ (m+1) _ _ _ h2' hd he1 (by omega) ?_
    generalize gI n d [40] [41] (all.drop (m+1))=r1 at hg hQ
    cases r1 with
    | out=>exact hg.elim
    | bad c l=>
      intro o2 g2 Z2 m2 x2' h2
      have x2:aN p Z1 Z2:=PO.ext.trans x2'
      conv=>whnf
      refine⟨?_,?_⟩
      ·conv=>whnf
       refine ak (aj (T:=fF) rfl rfl (ah (htk _ x2)) rfl) ?_
       rfl
      ·conv=>whnf
       exact Fin.ref rfl (hQ _ _ _ _ (x1.trans (x2.new _ _)) (h2.new _ _))
    | ok y bI=>
      intro o2 g2 Z2 m2 c2 l2 x2' h2 hm2 LP
      have x2:aN p Z1 Z2:=PO.ext.trans x2'
      have hQ:PE p w g all Z d Q (.ok (.ex 7 0 [] [] y .nil .nil t.l) bI):=hQ
      conv=>whnf
      refine⟨?_,?_⟩
      ·conv=>whnf
       refine ak (aj (T:=fF) rfl rfl (ah (htk _ x2)) rfl) ?_
       rfl
      ·conv=>whnf
       have l2':=x2.len
       refine Fin.ref rfl (hQ _ _ _ _ _ _ (x1.trans (x2.new _ _)) (h2.new _ _) hm2 ⟨_,0,.p o2 g2 0,.p0,.sl0,(by omega:Z.length<=Z2.length),rfl,aG _ _ _,?_,rfl,rfl⟩)
       exact bP.mono (fun i hi=>by have hi:(V3 p w g all.length Z1 (m+1) d false c0 l0).length<=i:=hi;rw [dW] at hi;omega) (fun i hi a ha=>at_new ha _ _) LP
   ·rw [if_neg (by rw [show aY qF (t :: r)=iK [110,101,119] t from rfl];simpa using hi2)] at hQ
    conv=>whnf
    refine sW _ h1 ht (fun _ hi3=>?_) (fun hi3=>?_)
    ·rw [if_pos (show aY FM (t :: r)=true from hi3),<-hr] at hQ
     obtain⟨hm1,he1,hle⟩:=aX he hts hi3
     obtain⟨t2,r2,jE⟩:=he1.ne
     obtain⟨ht2,hr2⟩:=b_ jE
     have h2:=h1.set (m':=m+1) (d':=d) (b':=false) (c':=c0) (l':=l0) hm1 h.dp
     have fin:∀(Z2:St),aN p Z1 Z2->Z2[Z.length]? =some ⟨0,false,.cells 62 (uw t.k t.s t.l)⟩:=htk
     unfold gV at hQ
     rw [jE] at hQ
     conv=>whnf
     refine open_to _ h2 ht2 (by omega) (fun hi=>(aX he1 jE hi).1) (fun hi h64=>?_) (fun hi h64=>?_) (fun hi=>?_)
     ·rw [if_neg (by omega),aQ,if_pos (show aY [40] (t2 :: r2)=true from hi)] at hQ
      have hQ:PE p w g all Z d Q ((aQ [41] r2).bind fun _ ts=>.ok (.ex 8 0 [] [] .nil .nil .nil t.l) ts):=hQ
      obtain⟨hm3,he3,hle3⟩:=aX he1 jE hi
      have h3:=h2.set (m':=m+1+1) (d':=d+1) (b':=false) (c':=c0) (l':=l0) hm3 (by omega)
      obtain⟨t3,r3,FT⟩:=he3.ne
      obtain⟨ht3,hr3⟩:=b_ FT
      rw [<-hr2,FT] at hQ
      conv=>whnf
      refine shut_to _ h3 ht3 (fun hi=>(aX he3 FT hi).1) (fun hi4=>?_) (fun hi4=>?_)
      ·rw [aQ,if_pos (show aY [41] (t3 :: r3)=true from hi4)] at hQ
       have h4:=h3.set (m':=m+1+1+1) (d':=d) (b':=false) (c':=c0) (l':=l0) (aX he3 FT hi4).1 h.dp
       have x4:aN p Z1 _:=(PO.ext.trans PO.ext).trans (PO.ext (Z:=V3 p w g all.length (V3 p w g all.length Z1 (m+1) d false c0 l0) (m+1+1) (d+1) false c0 l0) (w:=w) (g:=g) (n:=all.length) (m:=m+1+1+1) (d:=d) (b:=false) (c:=c0) (l:=l0))
       conv=>whnf
       refine ak (aj (T:=fF) rfl rfl (ah (htk _ x4)) rfl) ?_
       conv=>whnf
       refine Fin.ref rfl (hQ _ _ _ _ _ _ (x1.trans (x4.new _ _)) (h4.new _ _) hr3 ?_)
       exact⟨_,0,.p0,.p0,.sl0,Nat.le_trans x1.len x4.len,rfl,aG _ _ _,rfl,rfl,rfl⟩
      ·rw [aQ,if_neg (by rw [show aY [41] (t3 :: r3)=iK [41] t3 from rfl,hi4];decide)] at hQ
       have h4:=h3.set (m':=m+1+1) (d':=d) (b':=true) (c':=4) (l':=t3.l) hm3 h.dp
       have x4:aN p Z1 _:=(PO.ext.trans PO.ext).trans (PO.ext (Z:=V3 p w g all.length (V3 p w g all.length Z1 (m+1) d false c0 l0) (m+1+1) (d+1) false c0 l0) (w:=w) (g:=g) (n:=all.length) (m:=m+1+1) (d:=d) (b:=true) (c:=4) (l:=t3.l))
       conv=>whnf
       refine ak (aj (T:=fF) rfl rfl (ah (htk _ x4)) rfl) ?_
       conv=>whnf
       exact Fin.ref rfl (hQ _ _ _ _ (x1.trans (x4.new _ _)) (h4.new _ _))
     ·rw [if_pos ⟨show aY [40] (t2 :: r2)=true from hi,h64⟩] at hQ
      have h3:=h2.set (m':=m+1) (d':=d+1) (b':=true) (c':=3) (l':=t2.l) hm1 (by omega)
      have h4:=h3.set (m':=m+1) (d':=d) (b':=true) (c':=3) (l':=t2.l) hm1 h.dp
      have x4:aN p Z1 _:=(PO.ext.trans PO.ext).trans (PO.ext (Z:=V3 p w g all.length (V3 p w g all.length Z1 (m+1) d false c0 l0) (m+1) (d+1) true 3 t2.l) (w:=w) (g:=g) (n:=all.length) (m:=m+1) (d:=d) (b:=true) (c:=3) (l:=t2.l))
      conv=>whnf
      refine aam _ h3 ht2 ?_
      conv=>whnf
      refine ak (aj (T:=fF) rfl rfl (ah (htk _ x4)) rfl) ?_
      conv=>whnf
      exact Fin.ref rfl (hQ _ _ _ _ (x1.trans (x4.new _ _)) (h4.new _ _))
     ·rw [if_neg (fun e=>by have:=e.1;rw [show aY [40] (t2 :: r2)=iK [40] t2 from rfl,hi] at this;cases this),aQ,if_neg (by rw [show aY [40] (t2 :: r2)=iK [40] t2 from rfl,hi];decide)] at hQ
      have h3:=h2.set (m':=m+1) (d':=d+1) (b':=true) (c':=4) (l':=t2.l) hm1 (by omega)
      have h4:=h3.set (m':=m+1) (d':=d) (b':=true) (c':=4) (l':=t2.l) hm1 h.dp
      have x4:aN p Z1 _:=(PO.ext.trans PO.ext).trans (PO.ext (Z:=V3 p w g all.length (V3 p w g all.length Z1 (m+1) d false c0 l0) (m+1) (d+1) true 4 t2.l) (w:=w) (g:=g) (n:=all.length) (m:=m+1) (d:=d) (b:=true) (c:=4) (l:=t2.l))
      conv=>whnf
      refine aam _ h3 ht2 ?_
      conv=>whnf
      refine ak (aj (T:=fF) rfl rfl (ah (htk _ x4)) rfl) ?_
      conv=>whnf
      exact Fin.ref rfl (hQ _ _ _ _ (x1.trans (x4.new _ _)) (h4.new _ _))
    ·rw [if_neg (by rw [show aY FM (t :: r)=iK [105,110] t from rfl];simpa using hi3)] at hQ
     conv=>whnf
     refine ak (aj (T:=fF) rfl rfl (ah ht1) rfl) ?_
     conv=>whnf
     by_cases hk:t.k=2
     ·rw [decide_eq_true (by omega)]
      rw [if_pos hk] at hQ
      obtain⟨n1,n2,n3⟩:=hno t (List.mem_of_getElem? ht) hk
      have he1:aZ (all.drop (m+1)):=by rw [hr];rw [hts] at he;exact he.tail (by rw [hk];decide)
      have h2:=h1.set (m':=m+1) (d':=d) (b':=false) (c':=c0) (l':=l0) (uG he1) h.dp
      have x2:aN p Z1 (V3 p w g all.length Z1 (m+1) d false c0 l0):=PO.ext
      conv=>whnf
      refine ak (aj (T:=xH) rfl rfl (ah h1.obj) rfl) ?_
      conv=>whnf
      refine ak (aj (T:=fF) rfl rfl (ah h1.obj) rfl) ?_
      conv=>whnf
      refine⟨((m+1:Nat):Int),by rw [wrap_i64 (by omega) (by omega)];omega,?_⟩
      conv=>whnf
      refine ak (aC (T:=fF) (aar w g all.length (m+1) d false c0 l0) rfl h1.obj rfl rfl (aU rfl) rfl) ?_
      conv=>whnf
      refine ak (aj (T:=fB) rfl rfl (ah (htk _ x2)) rfl) ?_
      conv=>whnf
      refine ak (aj (T:=fF) rfl rfl (ah (htk _ x2)) rfl) ?_
      conv=>whnf
      refine au.to (value_to t.s n1 n3 n2 _) ?_
      conv=>whnf
      refine⟨?_,?_⟩
      ·conv=>whnf
       refine ak (aj (T:=fF) rfl rfl (ah (htk _ x2)) rfl) ?_
       rfl
      ·conv=>whnf
       refine Fin.ref rfl (hQ _ _ _ _ _ _ (x1.trans (x2.new _ _)) (h2.new _ _) hr ?_)
       exact⟨_,0,.p0,.p0,.sl0,by show Z.length<=(V3 p w g all.length Z1 (m+1) d false c0 l0).length;rw [dW];exact x1.len,rfl,aG _ _ _,rfl,rfl,rfl⟩
     ·rw [decide_eq_false (by omega)]
      rw [if_neg hk] at hQ
      conv=>whnf
      refine name_to h1 ht (fun hk1=>uG (by rw [hr];rw [hts] at he;exact he.tail (by rw [hk1];decide))) (fun hk1 Z2 x2 h2=>?_) (fun hk1 Z2 x2 h2=>?_)
      ·have he1:aZ (all.drop (m+1)):=by rw [hr];rw [hts] at he;exact he.tail (by rw [hk1];decide)
       have hle:(all.drop (m+1)).length<(all.drop m).length:=by rw [hr,hts];simp
       obtain⟨t2,r2,jE⟩:=he1.ne
       obtain⟨ht2,hr2⟩:=b_ jE
       simp only [fA,if_pos hk1] at hQ
       have hQ:PE p w g all Z d Q (if aY [40] r=true then(gV [40] d r).bind fun _ ts=>(fG n (d+1) true ts).bind fun a ts=>(aQ [41] ts).bind fun _ ts=>.ok (.ex 4 0 t.s [] .nil .nil a t.l) ts else .ok (qG t.s t.l) r):=hQ
       rw [<-hr,jE] at hQ
       conv=>whnf
       refine au.to (aaq _ h2 ht2) ?_
       cases hi4:iK [40] t2 with
       | false=>
         rw [if_neg (by rw [show aY [40] (t2 :: r2)=iK [40] t2 from rfl,hi4];decide)] at hQ
         conv=>whnf
         refine ak (aj (T:=fF) rfl rfl (ah (htk _ x2)) rfl) ?_
         conv=>whnf
         refine Fin.ref rfl (hQ _ _ _ _ _ _ (x1.trans (x2.new _ _)) (h2.new _ _) jE ?_)
         exact⟨_,0,.p0,.p0,.sl0,Nat.le_trans x1.len x2.len,rfl,aG _ _ _,rfl,rfl,rfl⟩
       | true=>
         rw [if_pos (show aY [40] (t2 :: r2)=true from hi4)] at hQ
         conv=>whnf
         unfold gV at hQ
         refine open_to _ h2 ht2 (by omega) (fun hi=>(aX he1 jE hi).1) (fun hi h64=>?_) (fun hi h64=>?_) (fun hi=>by rw [hi] at hi4;cases hi4)
         ·rw [if_neg (by omega),aQ,if_pos (show aY [40] (t2 :: r2)=true from hi)] at hQ
          have hQ:PE p w g all Z d Q ((fG n (d+1) true r2).bind fun a ts=>(aQ [41] ts).bind fun _ ts=>.ok (.ex 4 0 t.s [] .nil .nil a t.l) ts):=hQ
          obtain⟨hm3,he3,hle3⟩:=aX he1 jE hi
          have h3:=h2.set (m':=m+1+1) (d':=d+1) (b':=false) (c':=c0) (l':=l0) hm3 (by omega)
          have hg:=(uD n).args (d+1) true (all.drop (m+1+1)) he3 (by omega)
          have lx2:=x2.len
          have hall:(all.drop (m+1+1)).length<=40000:=by rw [pF];omega
          rw [<-hr2] at hQ
          conv=>whnf
          refine Xm Z.length t.s (d+1) Z2.length (by omega) (by omega) (by omega) [] .sl0 _ (m+1+1) c0 l0 _ h3 (by rw [dW];exact Nat.le_refl _) ⟨[],.inl ⟨rfl,rfl⟩,trivial⟩ he3 (by omega) (by simp only [bZ];omega) ?_
          show PA p w g Z.length t.s all Z2.length _ (d+1) [] _ (fG n (d+1) true (all.drop (m+1+1)))
          generalize fG n (d+1) true (all.drop (m+1+1))=r1 at hg hQ
          cases r1 with
          | out=>exact hg.elim
          | bad c l=>
            intro v4 Z4 m4 e' e0 e3 e4 e5 e9 x4 h4 hsl
            obtain⟨t4,ht4⟩:∃t4,all[m4]? =some t4:=⟨_,sN h4.at_⟩
            have h5:=h4.set (m':=m4) (d':=d) (b':=true) (c':=c) (l':=l) h4.at_ h.dp
            have hx4:aN p Z2 Z4:=⟨by have:=x4.len;rw [dW] at this;exact this,fun i hi o_=>by rw [x4.old i hi o_];exact PO.ext.old i hi o_⟩
            have x5:aN p Z1 (V3 p w g all.length Z4 m4 d true c l):=(x2.trans hx4).trans PO.ext
            conv=>whnf
            rw [show Opd.ev e' (.t 0)=get e' 0 from rfl,e0]
            conv=>whnf
            refine aam _ h4 ht4 ?_
            conv=>whnf
            have k3:get (put (some 87) (AV.tu []) (put (some 86) (.p p 0 0) e')) 3= .p Z.length 0 0:=e3
            have k4:get (put (some 87) (AV.tu []) (put (some 86) (.p p 0 0) e')) 4= .s t.s:=e4
            have k5:get (put (some 87) (AV.tu []) (put (some 86) (.p p 0 0) e')) 5=v4:=e5
            erw [k3]
            conv=>whnf
            erw [k4]
            conv=>whnf
            erw [k5]
            rcases hsl with rfl | ⟨o5,g5,n5,rfl⟩
            all_goals
              conv=>whnf
              refine ak (aj (T:=fF) rfl rfl (ah (htk _ x5)) rfl) ?_
              conv=>whnf
              exact Fin.ref rfl (hQ _ _ _ _ (x1.trans (x5.new _ _)) (h5.new _ _))
          | ok xs wW=>
            intro v4 Z4 m4 c4 l4 e' e0 e3 e4 e5 e9 x4 h4 hm4 hac
            have he4:aZ (all.drop m4):=by rw [hm4];exact hg.2.1
            obtain⟨t4,r4,RN⟩:=he4.ne
            obtain⟨ht4,hr4⟩:=b_ RN
            have hx4:aN p Z2 Z4:=⟨by have:=x4.len;rw [dW] at this;exact this,fun i hi o_=>by rw [x4.old i hi o_];exact PO.ext.old i hi o_⟩
            have hsl:JI v4:=by obtain⟨cs4,hr5,_⟩:=hac;exact hr5.sl
            have harg:=hac.arg
            rw [show ([]:List Tr) ++ BJ xs=BJ xs from rfl,to_of] at harg
            have hQ:PE p w g all Z d Q ((aQ [41] wW).bind fun _ ts=>.ok (.ex 4 0 t.s [] .nil .nil xs t.l) ts):=hQ
            rw [<-hm4,RN] at hQ
            have k3:get (put (some 87) (AV.tu []) (put (some 86) (.p p 0 0) e')) 3= .p Z.length 0 0:=e3
            have k4:get (put (some 87) (AV.tu []) (put (some 86) (.p p 0 0) e')) 4= .s t.s:=e4
            have k5:get (put (some 87) (AV.tu []) (put (some 86) (.p p 0 0) e')) 5=v4:=e5
            conv=>whnf
            rw [show Opd.ev e' (.t 0)=get e' 0 from rfl,e0]
            conv=>whnf
            refine shut_to _ h4 ht4 (fun hi=>(aX he4 RN hi).1) (fun hi5=>?_) (fun hi5=>?_)
            ·rw [aQ,if_pos (show aY [41] (t4 :: r4)=true from hi5)] at hQ
             have h5:=h4.set (m':=m4+1) (d':=d) (b':=false) (c':=c4) (l':=l4) (aX he4 RN hi5).1 h.dp
             have x5:aN p Z1 (V3 p w g all.length Z4 (m4+1) d false c4 l4):=(x2.trans hx4).trans PO.ext
             have l1:=x1.len
             have l5:=x5.len
             conv=>whnf
             erw [k3]
             conv=>whnf
             erw [k4]
             conv=>whnf
             erw [k5]
             rcases hsl with rfl | ⟨o5,g5,n5,rfl⟩
             all_goals
              conv=>whnf
              refine ak (aj (T:=fF) rfl rfl (ah (htk _ x5)) rfl) ?_
              conv=>whnf
              refine Fin.ref rfl (hQ _ _ _ _ _ _ (x1.trans (x5.new _ _)) (h5.new _ _) hr4 ⟨_,0,.p0,.p0,_,Nat.le_trans l1 l5,rfl,aG _ _ _,rfl,rfl,jK.mono (fun i hi=>by omega) (fun i hi a ha=>at_new (PO.ext.get (by omega) ha) _ _) harg⟩)
            ·rw [aQ,if_neg (by rw [show aY [41] (t4 :: r4)=iK [41] t4 from rfl,hi5];decide)] at hQ
             have h5:=h4.set (m':=m4) (d':=d) (b':=true) (c':=4) (l':=t4.l) h4.at_ h.dp
             have x5:aN p Z1 (V3 p w g all.length Z4 m4 d true 4 t4.l):=(x2.trans hx4).trans PO.ext
             conv=>whnf
             erw [k3]
             conv=>whnf
             erw [k4]
             conv=>whnf
             erw [k5]
             rcases hsl with rfl | ⟨o5,g5,n5,rfl⟩
             all_goals
              conv=>whnf
              refine ak (aj (T:=fF) rfl rfl (ah (htk _ x5)) rfl) ?_
              conv=>whnf
              exact Fin.ref rfl (hQ _ _ _ _ (x1.trans (x5.new _ _)) (h5.new _ _))
         ·rw [if_pos ⟨show aY [40] (t2 :: r2)=true from hi,h64⟩] at hQ
          have h3:=h2.set (m':=m+1) (d':=d+1) (b':=true) (c':=3) (l':=t2.l) h2.at_ (by omega)
          have h5:=h3.set (m':=m+1) (d':=d) (b':=true) (c':=3) (l':=t2.l) h2.at_ h.dp
          have x5:aN p Z1 _:=(x2.trans PO.ext).trans (PO.ext (Z:=V3 p w g all.length Z2 (m+1) (d+1) true 3 t2.l) (w:=w) (g:=g) (n:=all.length) (m:=m+1) (d:=d) (b:=true) (c:=3) (l:=t2.l))
          conv=>whnf
          refine args_bad (nm:=t.s) (tl:=Z.length) h3 (.inl rfl) fun e' e0 e3 e4 e5 e9=>?_
          have k3:get (put (some 87) (AV.tu []) (put (some 86) (.p p 0 0) e')) 3= .p Z.length 0 0:=e3
          have k4:get (put (some 87) (AV.tu []) (put (some 86) (.p p 0 0) e')) 4= .s t.s:=e4
          have k5:get (put (some 87) (AV.tu []) (put (some 86) (.p p 0 0) e')) 5= .sl0:=e5
          conv=>whnf
          rw [show Opd.ev e' (.t 0)=get e' 0 from rfl,e0]
          conv=>whnf
          refine aam _ h3 ht2 ?_
          conv=>whnf
          erw [k3]
          conv=>whnf
          erw [k4]
          conv=>whnf
          erw [k5]
          conv=>whnf
          refine ak (aj (T:=fF) rfl rfl (ah (htk _ x5)) rfl) ?_
          conv=>whnf
          exact Fin.ref rfl (hQ _ _ _ _ (x1.trans (x5.new _ _)) (h5.new _ _))
      ·simp only [fA,if_neg hk1] at hQ
       obtain⟨t2,ht2⟩:∃t2,all[m]? =some t2:=⟨_,ht⟩
       conv=>whnf
       refine au.to (aaq _ h2 ht2) ?_
       conv=>whnf
       refine ak (aj (T:=fF) rfl rfl (ah (htk _ x2)) rfl) ?_
       conv=>whnf
       exact Fin.ref rfl (hQ _ _ _ _ (x1.trans (x2.new _ _)) (h2.new _ _))
end
end Go.Abs.YtlkfbfhkcaldlaaGreatDoor
namespace Go.Abs.YtlkfbfhkcaldlaaGreatDoor
open Go.Proofs
theorem allW {p w g:Nat} {all:List Tok} (hno:EH all):∀n,WE p w g all n/\ArgsLaw p w g all n
 | 0=>⟨⟨fun _ _ _ _ _ _ _ _ _ _ _ h=>absurd h (by omega),fun _ _ _ _ _ _ _ _ _ h=>absurd h (by omega),fun _ _ _ _ _ _ _ _ _ h=>absurd h (by omega),fun _ _ _ _ _ _ _ _ _ _ _ h=>absurd h (by omega),fun _ _ _ _ _ _ _ _ _ h=>absurd h (by omega),fun _ _ _ _ _ _ _ _ _ h=>absurd h (by omega),fun _ _ _ _ _ _ _ _ _ _ _ _ _ _ _ _ _ h=>absurd h (by omega),fun _ _ _ _ _ _ _ _ _ _ _ _ _ _ _ _ _ _ _ h=>absurd h (by omega)⟩,fun _ _ _ _ _ _ _ _ _ _ _ _ _ _ _ _ _ _ h=>absurd h (by omega)⟩
 | n+1=>by
   obtain⟨ih,Xm⟩:=allW (p:=p) (w:=w) (g:=g) hno n
   exact⟨⟨fun d c Z m c0 l0 Q h hd hc he hn hQ=>expr_w ih d c Z m c0 l0 Q h hd hc he hn hQ,fun d Z m c0 l0 Q h hd he hn hQ=>un_w ih d Z m c0 l0 Q h hd he hn hQ,fun d Z m c0 l0 Q h hd he hn hQ=>post_w ih d Z m c0 l0 Q h hd he hn hQ,fun d a b Z m c0 l0 Q h hd he hn hQ=>with_w ih d a b Z m c0 l0 Q h hd he hn hQ,fun d Z m c0 l0 Q h hd he hn hQ=>cell_w hno ih d Z m c0 l0 Q h hd he hn hQ,fun d Z m c0 l0 Q h hd he hn hQ=>first_w hno ih Xm d Z m c0 l0 Q h hd he hn hQ,fun d B x Z m c0 l0 o g' Q h hd hp hB hx he' he hn hQ=>postL_w ih d B x Z m c0 l0 o g' Q h hd hp hB hx he' he hn hQ,fun d c B x Z m c0 l0 o g' Q h hd hc hp hB hx he' he hn hQ=>loop_w ih d c B x Z m c0 l0 o g' Q h hd hc hp hB hx he' he hn hQ⟩,args_law ih Xm⟩
end Go.Abs.YtlkfbfhkcaldlaaGreatDoor
namespace Go.Abs.YtlkfbfhkcaldlaaGreatDoor
open Go.Proofs
set_option maxRecDepth 4000
section
variable {p w g:Nat} {all:List Tok} {n:Nat}
theorem ended_w (ih:WE p w g all n)(d:Nat)(Z:St)(m c0 l0:Nat)(Q:AV->St->Prop)(h:PO p w g all Z m d false c0 l0)(hd:d<=64)(he:aZ (all.drop m))(hn:10*(all.drop m).length+10<=n+1)(hQ:PE p w g all Z d Q (bU (n+1) d (all.drop m))):au X 102 [.p p 0 0] Z Q:=by
 refine au.body (F:=F102) ay (lit:=false) rfl rfl (aU rfl) ?_
 conv=>whnf
 unfold bU at hQ
 have hQ:PE p w g all Z d Q ((dn n d 1 (all.drop m)).bind fun x ts=>(aQ [59] ts).bind fun _ ts=>.ok x ts):=hQ
 have hg:=(uD n).expr d 1 (all.drop m) he (by omega)
 refine ih.expr d 1 Z m _ _ _ h hd (by omega) he (by omega) ?_
 generalize dn n d 1 (all.drop m)=r1 at hg hQ
 cases r1 with
 | out=>exact hg.elim
 | bad c l=>
   intro o g' Z2 m2 x2 h2
   obtain⟨t2,ht2⟩:∃t2,all[m2]? =some t2:=⟨_,sN h2.at_⟩
   conv=>whnf
   refine aay _ h2 ht2 ?_
   conv=>whnf
   exact Fin.ref rfl (hQ _ _ _ _ x2 h2)
 | ok x bI=>
   intro o g' Z2 m2 c2 l2 x2 h2 hm2 hex
   have he2:aZ (all.drop m2):=by rw [hm2];exact hg.2.1
   obtain⟨t2,r2,jE⟩:=he2.ne
   obtain⟨ht2,hr2⟩:=b_ jE
   have hQ:PE p w g all Z d Q ((aQ [59] bI).bind fun _ ts=>.ok x ts):=hQ
   rw [<-hm2,jE] at hQ
   conv=>whnf
   refine aap _ h2 ht2 (fun hi=>?_) (fun hi=>?_)
   ·rw [aQ,if_pos (show aY [59] (t2 :: r2)=true from hi)] at hQ
    have h3:=h2.set (m':=m2+1) (d':=d) (b':=false) (c':=c2) (l':=l2) (aX he2 jE hi).1 h.dp
    conv=>whnf
    exact Fin.ref rfl (hQ _ _ _ _ _ _ (x2.trans PO.ext) h3 hr2 (bP.ext hex PO.ext (bK h.obj)))
   ·rw [aQ,if_neg (by rw [show aY [59] (t2 :: r2)=iK [59] t2 from rfl,hi];decide)] at hQ
    have h3:=h2.set (m':=m2) (d':=d) (b':=true) (c':=4) (l':=t2.l) h2.at_ h.dp
    conv=>whnf
    exact Fin.ref rfl (hQ _ _ _ _ (x2.trans PO.ext) h3)
end
end Go.Abs.YtlkfbfhkcaldlaaGreatDoor
