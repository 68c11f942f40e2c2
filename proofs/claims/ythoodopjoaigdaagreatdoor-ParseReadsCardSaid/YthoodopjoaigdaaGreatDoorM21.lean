/- Texts of this claim, joined: Sp, Sq, Rp, Ra, Rb, Rc, Rd1, Rd2, Rd3, Rd4, Rd5, Rd6, Rd7, Rd8, Re1. -/
import Derived.Test.YthoodopjoaigdaaGreatDoorM19
import Derived.Test.YthoodopjoaigdaaGreatDoorM20
set_option linter.unusedVariables false
set_option linter.unusedSimpArgs false
namespace Go.bP.YthoodopjoaigdaaGreatDoor
mutual
inductive Tr where
 | nil
 | ex (k n:Nat) (name text:List UInt8) (l r:Tr) (args:yV) (line:Nat)
inductive yV where
 | nil
 | cons (t:Tr) (r:yV)
end
mutual
inductive Sm where
 | st (k:Nat) (name:List UInt8) (ptr:Bool) (l r:Tr) (th el:ug) (line:Nat)
inductive ug where
 | nil
 | cons (s:Sm) (r:ug)
end
structure Fm where
 name:List UInt8
 params:List (List UInt8×Bool)
 ptr:Bool
 body:ug
 line:Nat
inductive Re (α:Type) where
 | ok (a:α) (ts:List Tok)
 | bad (c l:Nat)
 | out
def Re.bind {α β:Type} (r:Re α)(f:α→List Tok→Re β):Re β:=match r with
 | .ok a ts=>f a ts
 | .bad c l=>.bad c l
 | .out=>.out
def bf (s:List UInt8):List Tok→Bool
 | t :: _=>(t.k == 4 || t.k == 3) && t.s == s
 | []=>false
def jT:List Tok→Nat
 | t :: _=>t.l
 | []=>0
def aQ (s:List UInt8)(ts:List Tok):Re Unit:=if bf s ts=true then .ok () ts.tail else .bad 4 (jT ts)
def gG (s:List UInt8)(d:Nat)(ts:List Tok):Re Unit:=if bf s ts=true∧64≤d then .bad 3 (jT ts) else aQ s ts
def eP (ts:List Tok):Re (List UInt8):=match ts with
 | t :: r=>if t.k=1 then .ok t.s r else .bad 4 t.l
 | []=>.out
def gQ (s:List UInt8):Nat:=
 if s=[124,124] then 1 else if s=[38,38] then 2 else if s=[61,61]∨s=[33,61] then 3
 else if s=[60]∨s=[60,61]∨s=[62]∨s=[62,61] then 4
 else if s=[43]∨s=[45]∨s=[124]∨s=[94] then 5
 else if s=[42]∨s=[47]∨s=[37]∨s=[38]∨s=[60,60]∨s=[62,62] then 6 else 0
def pO:Nat→List UInt8→Nat
 | n,[]=>n
 | n,c :: l=>pO (10*n+(c.toNat - 48)) l
def IU:List UInt8:=[110,101,119]
def Yj:List UInt8:=[105,110]
def qc:List UInt8:=[101,108,115,101]
def Jo:List UInt8:=[105,102]
def U_:List UInt8:=[118,97,114]
def fC:List UInt8:=[112,116,114]
def FP:List UInt8:=[119,104,105,108,101]
def Va:List UInt8:=[111,117,116]
def LM:List UInt8:=[102,114,101,101]
def FQ:List UInt8:=[100,114,97,105,110]
def zX:List UInt8:=[114,101,116,117,114,110]
def wI:List UInt8:=[102,117,110,99]
def NW (t:Tok):Tr:=.ex 1 (pO 0 t.s) [] [] .nil .nil .nil t.l
def yX (nm:List UInt8)(l:Nat):Tr:=.ex 2 0 nm [] .nil .nil .nil l
mutual
def dQ:Nat→Nat→Nat→List Tok→Re Tr
 | 0,_,_,_=>.out
 | n+1,d,c,ts=>(FT n d ts).bind fun x ts=>jU n d c x ts
def jU:Nat→Nat→Nat→Tr→List Tok→Re Tr
 | 0,_,_,_,_=>.out
 | _+1,_,_,_,[]=>.out
 | n+1,d,c,x,t :: r=>
   if t.k=3∧gQ t.s≠0∧¬gQ t.s<c then(dQ n d (gQ t.s+1) r).bind fun y ts=>jU n d c (.ex 3 0 [] t.s x y .nil t.l) ts
   else .ok x (t :: r)
def FT:Nat→Nat→List Tok→Re Tr
 | 0,_,_=>.out
 | _+1,_,[]=>.out
 | n+1,d,t :: r=>
   if bf [33] (t :: r)=true∨bf [45] (t :: r)=true then
    if 64≤d then .bad 3 t.l else(FT n (d+1) r).bind fun x ts=>.ok (.ex 3 0 [] t.s .nil x .nil t.l) ts
   else jV n d (t :: r)
def jV:Nat→Nat→List Tok→Re Tr
 | 0,_,_=>.out
 | n+1,d,ts=>(jk n d ts).bind fun x ts=>gU n d x ts
def gU:Nat→Nat→Tr→List Tok→Re Tr
 | 0,_,_,_=>.out
 | _+1,_,_,[]=>.out
 | n+1,d,x,t :: r=>
   if bf [91] (t :: r)=true then(jI n d [91] [93] (t :: r)).bind fun y ts=>gU n d (.ex 5 0 [] [] x y .nil t.l) ts
   else if bf [58] (t :: r)=true then(lS n d r).bind fun y ts=>gU n d (.ex 6 0 [] [] x y .nil t.l) ts
   else .ok x (t :: r)
def jI:Nat→Nat→List UInt8→List UInt8→List Tok→Re Tr
 | 0,_,_,_,_=>.out
 | n+1,d,a,b,ts=>(gG a d ts).bind fun _ ts=>(dQ n (d+1) 1 ts).bind fun x ts=>(aQ b ts).bind fun _ ts=>.ok x ts
def lS:Nat→Nat→List Tok→Re Tr
 | 0,_,_=>.out
 | _+1,_,[]=>.out
 | n+1,d,t :: r=>
   if bf [40] (t :: r)=true then jI n d [40] [41] (t :: r)
   else if t.k=2 then .ok (NW t) r
   else(eP (t :: r)).bind fun nm ts=>.ok (yX nm t.l) ts
def jk:Nat→Nat→List Tok→Re Tr
 | 0,_,_=>.out
 | _+1,_,[]=>.out
 | n+1,d,t :: r=>
   if bf [40] (t :: r)=true then jI n d [40] [41] (t :: r)
   else if bf IU (t :: r)=true then(jI n d [40] [41] r).bind fun x ts=>.ok (.ex 7 0 [] [] x .nil .nil t.l) ts
   else if bf Yj (t :: r)=true then(gG [40] d r).bind fun _ ts=>(aQ [41] ts).bind fun _ ts=>.ok (.ex 8 0 [] [] .nil .nil .nil t.l) ts
   else if t.k=2 then .ok (NW t) r
   else(eP (t :: r)).bind fun nm ts=>
    if bf [40] ts=true then(gG [40] d ts).bind fun _ ts=>(fF n (d+1) true ts).bind fun a ts=>(aQ [41] ts).bind fun _ ts=>.ok (.ex 4 0 nm [] .nil .nil a t.l) ts
    else .ok (yX nm t.l) ts
def fF:Nat→Nat→Bool→List Tok→Re yV
 | 0,_,_,_=>.out
 | n+1,d,first,ts=>
   if bf [41] ts=true then .ok .nil ts
   else(if first=true then .ok () ts else aQ [44] ts).bind fun _ ts=>(dQ n d 1 ts).bind fun x ts=>(fF n d false ts).bind fun xs ts=>.ok (.cons x xs) ts
end
mutual
def dK:Nat→Nat→List Tok→Re ug
 | 0,_,_=>.out
 | n+1,d,ts=>(gG [123] d ts).bind fun _ ts=>(iC n (d+1) ts).bind fun l ts=>(aQ [125] ts).bind fun _ ts=>.ok l ts
def iC:Nat→Nat→List Tok→Re ug
 | 0,_,_=>.out
 | n+1,d,ts=>
   if bf [125] ts=true then .ok .nil ts
   else(mZ n d ts).bind fun x ts=>(iC n d ts).bind fun l ts=>.ok (.cons x l) ts
def eG:Nat→Nat→Nat→List Tok→Re Sm
 | 0,_,_,_=>.out
 | n+1,d,line,ts=>(dQ n d 1 ts).bind fun c ts=>(dK n d ts).bind fun th ts=>
   if bf qc ts=true then
    if bf Jo ts.tail=true then(eG n d (jT ts.tail) ts.tail.tail).bind fun b ts=>.ok (.st 4 [] false .nil c th (.cons b .nil) line) ts
    else(dK n d ts.tail).bind fun el ts=>.ok (.st 4 [] false .nil c th el line) ts
   else .ok (.st 4 [] false .nil c th .nil line) ts
def bW:Nat→Nat→List Tok→Re Tr
 | 0,_,_=>.out
 | n+1,d,ts=>(dQ n d 1 ts).bind fun x ts=>(aQ [59] ts).bind fun _ ts=>.ok x ts
def mZ:Nat→Nat→List Tok→Re Sm
 | 0,_,_=>.out
 | _+1,_,[]=>.out
 | n+1,d,t :: r=>
   if bf U_ (t :: r)=true then(eP r).bind fun nm ts=>
    let p:=bf fC ts
    let ts:=if p=true then ts.tail else ts
    if bf [61] ts=true then(bW n d ts.tail).bind fun x ts=>.ok (.st 1 nm p .nil x .nil .nil t.l) ts
    else(aQ [59] ts).bind fun _ ts=>.ok (.st 1 nm p .nil .nil .nil .nil t.l) ts
   else if bf Jo (t :: r)=true then eG n d t.l r
   else if bf FP (t :: r)=true then(dQ n d 1 r).bind fun c ts=>(dK n d ts).bind fun th ts=>.ok (.st 5 [] false .nil c th .nil t.l) ts
   else if bf Va (t :: r)=true then(bW n d r).bind fun x ts=>.ok (.st 6 [] false .nil x .nil .nil t.l) ts
   else if bf LM (t :: r)=true then(bW n d r).bind fun x ts=>.ok (.st 7 [] false .nil x .nil .nil t.l) ts
   else if bf FQ (t :: r)=true then(aQ [59] r).bind fun _ ts=>.ok (.st 8 [] false .nil .nil .nil .nil t.l) ts
   else if bf zX (t :: r)=true then
    if bf [59] r=true then .ok (.st 9 [] false .nil .nil .nil .nil t.l) r.tail
    else(bW n d r).bind fun x ts=>.ok (.st 9 [] false .nil x .nil .nil t.l) ts
   else(jV n d (t :: r)).bind fun x ts=>match x with
    | .nil=>.out
    | .ex k _ nm _ _ _ _ _=>
      if bf [61] ts=true then
        if k=2 then(bW n d ts.tail).bind fun y ts=>.ok (.st 2 nm false .nil y .nil .nil t.l) ts
        else if k=5∨k=6 then(bW n d ts.tail).bind fun y ts=>.ok (.st 3 [] false x y .nil .nil t.l) ts
        else .bad 4 (jT ts)
      else if k=4 then(aQ [59] ts).bind fun _ ts=>.ok (.st 10 [] false .nil x .nil .nil t.l) ts
      else .bad 4 (jT ts)
end
def b_:Nat→Bool→List Tok→Re (List (List UInt8×Bool))
 | 0,_,_=>.out
 | n+1,first,ts=>
   if bf [41] ts=true then .ok [] ts
   else(if first=true then .ok () ts else aQ [44] ts).bind fun _ ts=>(eP ts).bind fun nm ts=>
    let p:=bf fC ts
    (b_ n false (if p=true then ts.tail else ts)).bind fun l ts=>.ok ((nm,p) :: l) ts
def uh (n:Nat)(ts:List Tok):Re Fm:=(aQ wI ts).bind fun _ bH=>(eP bH).bind fun nm bH=>(gG [40] 0 bH).bind fun _ bH=>(b_ n true bH).bind fun ps bH=>(aQ [41] bH).bind fun _ bH=>
 let p:=bf fC bH
 (dK n 0 (if p=true then bH.tail else bH)).bind fun b bH=>.ok ⟨nm,ps,p,b,jT ts⟩ bH
def iJ:Nat→List Tok→Re (List Fm)
 | 0,_=>.out
 | _+1,[]=>.out
 | n+1,t :: r=>if t.k=5 then .ok [] (t :: r) else(uh n (t :: r)).bind fun f ts=>(iJ n ts).bind fun l ts=>.ok (f :: l) ts
end Go.bP.YthoodopjoaigdaaGreatDoor
namespace Go.bP.YthoodopjoaigdaaGreatDoor
def aS:List Tok→Prop
 | []=>False
 | t :: r=>if r=[] then t.k=5 else aS r
theorem aS.tail {t:Tok} {r:List Tok} (h:aS (t :: r))(hk:t.k≠5):aS r:=by
 unfold aS at h
 split at h
 ·exact(hk h).elim
 ·exact h
theorem aS.ne {ts:List Tok} (h:aS ts):∃t r,ts=t :: r:=by
 cases ts with
 | nil=>exact h.elim
 | cons t r=>exact⟨t,r,rfl⟩
theorem iH {s:List UInt8} {t:Tok} {r:List Tok} (h:bf s (t :: r)=true):t.k≠5:=by
 unfold bf at h
 simp only [Bool.and_eq_true,Bool.or_eq_true,beq_iff_eq] at h
 rcases h.1 with h | h <;> rw [h] <;> decide
theorem iT {s:List UInt8} {ts:List Tok} (he:aS ts)(h:bf s ts=true):aS ts.tail∧ts.tail.length<ts.length:=by
 obtain⟨t,r,rfl⟩:=he.ne
 exact⟨he.tail (iH h),by simp⟩
def Gd {α:Type} (V:α→Prop)(r:Re α)(L:Nat):Prop:=match r with
 | .ok a ts=>V a∧aS ts∧ts.length<L
 | .bad _ _=>True
 | .out=>False
theorem Gd.bind {α β:Type} {V:α→Prop} {U:β→Prop} {r:Re α} {f:α→List Tok→Re β} {L M:Nat} (h:Gd V r L)(hf:∀a ts,V a→aS ts→ts.length<L→Gd U (f a ts) M):Gd U (r.bind f) M:=by
 cases r with
 | ok a ts=>exact hf a ts h.1 h.2.1 h.2.2
 | bad c l=>trivial
 | out=>exact h.elim
theorem Gd.mono {α:Type} {V:α→Prop} {r:Re α} {L M:Nat} (h:Gd V r L)(hl:L≤M):Gd V r M:=by
 cases r with
 | ok a ts=>exact⟨h.1,h.2.1,Nat.lt_of_lt_of_le h.2.2 hl⟩
 | bad c l=>trivial
 | out=>exact h.elim
theorem iL (s:List UInt8) {ts:List Tok} (he:aS ts):Gd (fun _=>True) (aQ s ts) ts.length:=by
 unfold aQ
 split
 ·rename_i h;exact⟨trivial,iT he h⟩
 ·trivial
theorem sG (s:List UInt8)(d:Nat) {ts:List Tok} (he:aS ts):Gd (fun _=>True) (gG s d ts) ts.length:=by
 unfold gG
 split
 ·trivial
 ·exact iL s he
theorem sH {ts:List Tok} (he:aS ts):Gd (fun _=>True) (eP ts) ts.length:=by
 obtain⟨t,r,rfl⟩:=he.ne
 unfold eP
 simp only
 split
 ·rename_i h;exact⟨trivial,he.tail (by rw [h];decide),by simp⟩
 ·trivial
abbrev An {α:Type} :α→Prop:=fun _=>True
def Gp:Tr→Prop
 | .nil=>False
 | _=>True
structure AllE (n:Nat):Prop where
 expr:∀d c ts,aS ts→10*ts.length+9≤n→Gd Gp (dQ n d c ts) ts.length
 loop:∀d c x ts,Gp x→aS ts→10*ts.length+9≤n→Gd Gp (jU n d c x ts) (ts.length+1)
 un:∀d ts,aS ts→10*ts.length+8≤n→Gd Gp (FT n d ts) ts.length
 post:∀d ts,aS ts→10*ts.length+7≤n→Gd Gp (jV n d ts) ts.length
 m_:∀d x ts,Gp x→aS ts→10*ts.length+9≤n→Gd Gp (gU n d x ts) (ts.length+1)
 with_:∀d a b ts,aS ts→10*ts.length+5≤n→Gd Gp (jI n d a b ts) ts.length
 cell:∀d ts,aS ts→10*ts.length+6≤n→Gd Gp (lS n d ts) ts.length
 first:∀d ts,aS ts→10*ts.length+6≤n→Gd Gp (jk n d ts) ts.length
 args:∀d f ts,aS ts→10*ts.length+10≤n→Gd An (fF n d f ts) (ts.length+1)
theorem iU:∀n,AllE n
 | 0=>⟨fun _ _ _ _ h=>by omega,fun _ _ _ _ _ _ h=>by omega,fun _ _ _ h=>by omega,fun _ _ _ h=>by omega,fun _ _ _ _ _ h=>by omega,fun _ _ _ _ _ h=>by omega,fun _ _ _ h=>by omega,fun _ _ _ h=>by omega,fun _ _ _ _ h=>by omega⟩
 | n+1=>by
   have ih:=iU n
   refine⟨fun d c ts he hn=>?_,fun d c x ts hx he hn=>?_,fun d ts he hn=>?_,fun d ts he hn=>?_,fun d x ts hx he hn=>?_,fun d a b ts he hn=>?_,fun d ts he hn=>?_,fun d ts he hn=>?_,fun d f ts he hn=>?_⟩
   ·unfold dQ
    exact(ih.un d ts he (by omega)).bind fun x ts' hx he' hl=>(ih.loop d c x ts' hx he' (by omega)).mono (by omega)
   ·obtain⟨t,r,rfl⟩:=he.ne
    unfold jU
    simp only [List.length_cons] at hn
    split
    ·rename_i h
     have her:=he.tail (by rw [h.1];decide)
     exact(ih.expr d _ r her (by omega)).bind fun y ts' _ he' hl=>(ih.loop d c (.ex 3 0 [] t.s x y .nil t.l) ts' trivial he' (by omega)).mono (by simp;omega)
    ·exact⟨hx,he,Nat.lt_succ_self _⟩
   ·obtain⟨t,r,rfl⟩:=he.ne
    unfold FT
    simp only [List.length_cons] at hn
    split
    ·rename_i h
     have her:aS r:=by rcases h with h | h <;> exact he.tail (iH h)
     split
     ·trivial
     ·exact(ih.un (d+1) r her (by omega)).bind fun x ts' _ he' hl=>⟨trivial,he',by simp;omega⟩
    ·exact ih.post d _ he (by simp only [List.length_cons];omega)
   ·unfold jV
    exact(ih.first d ts he (by omega)).bind fun x ts' hx he' hl=>(ih.m_ d x ts' hx he' (by omega)).mono (by omega)
   ·obtain⟨t,r,rfl⟩:=he.ne
    unfold gU
    simp only [List.length_cons] at hn
    split
    ·rename_i h
     exact(ih.with_ d _ _ _ he (by simp only [List.length_cons];omega)).bind fun y ts' _ he' hl=>(ih.m_ d (.ex 5 0 [] [] x y .nil t.l) ts' trivial he' (by simp only [List.length_cons] at hl;omega)).mono (by omega)
    ·split
     ·rename_i h
      have her:=he.tail (iH h)
      exact(ih.cell d r her (by omega)).bind fun y ts' _ he' hl=>(ih.m_ d (.ex 6 0 [] [] x y .nil t.l) ts' trivial he' (by omega)).mono (by simp;omega)
     ·exact⟨hx,he,Nat.lt_succ_self _⟩
   ·unfold jI
    exact(sG a d he).bind fun _ bH _ he1 hl1=>(ih.expr (d+1) 1 bH he1 (by omega)).bind fun x fO hx he2 hl2=>(iL b he2).bind fun _ Gq _ he3 hl3=>⟨hx,he3,by omega⟩
   ·obtain⟨t,r,rfl⟩:=he.ne
    unfold lS
    simp only [List.length_cons] at hn
    split
    ·exact ih.with_ d _ _ _ he (by simp only [List.length_cons];omega)
    ·split
     ·rename_i h;exact⟨trivial,he.tail (by rw [h];decide),by simp⟩
     ·exact(sH he).bind fun nm bH _ he1 hl1=>⟨trivial,he1,hl1⟩
   ·obtain⟨t,r,rfl⟩:=he.ne
    unfold jk
    simp only [List.length_cons] at hn
    split
    ·exact ih.with_ d _ _ _ he (by simp only [List.length_cons];omega)
    ·split
     ·rename_i h
      have her:=he.tail (iH h)
      exact(ih.with_ d _ _ r her (by omega)).bind fun x bH _ he1 hl1=>⟨trivial,he1,by simp;omega⟩
     ·split
      ·rename_i h
       have her:=he.tail (iH h)
       exact(sG _ d her).bind fun _ bH _ he1 hl1=>(iL _ he1).bind fun _ fO _ he2 hl2=>⟨trivial,he2,by simp;omega⟩
      ·split
       ·rename_i h;exact⟨trivial,he.tail (by rw [h];decide),by simp⟩
       ·refine(sH he).bind fun nm bH _ he1 hl1=>?_
        simp only [List.length_cons] at hl1
        split
        ·exact(sG _ d he1).bind fun _ fO _ he2 hl2=>(ih.args (d+1) true fO he2 (by omega)).bind fun a Gq _ he3 hl3=>(iL _ he3).bind fun _ zx _ he4 hl4=>⟨trivial,he4,by simp;omega⟩
        ·exact⟨trivial,he1,by simp;omega⟩
   ·unfold fF
    split
    ·exact⟨trivial,he,Nat.lt_succ_self _⟩
    ·have h1:Gd An (if f=true then Re.ok () ts else aQ [44] ts) (ts.length+1):=by
      split
      ·exact⟨trivial,he,Nat.lt_succ_self _⟩
      ·exact(iL _ he).mono (Nat.le_succ _)
     exact h1.bind fun _ bH _ he1 hl1=>(ih.expr d 1 bH he1 (by omega)).bind fun x fO _ he2 hl2=>(ih.args d false fO he2 (by omega)).bind fun xs Gq _ he3 hl3=>⟨trivial,he3,by omega⟩
structure AllS (n:Nat):Prop where
 block:∀d ts,aS ts→10*ts.length+10≤n→Gd An (dK n d ts) ts.length
 stmts:∀d ts,aS ts→10*ts.length+15≤n→Gd An (iC n d ts) (ts.length+1)
 branch:∀d l ts,aS ts→10*ts.length+12≤n→Gd An (eG n d l ts) ts.length
 ended:∀d ts,aS ts→10*ts.length+10≤n→Gd An (bW n d ts) ts.length
 stmt:∀d ts,aS ts→10*ts.length+14≤n→Gd An (mZ n d ts) ts.length
theorem lW:∀n,AllS n
 | 0=>⟨fun _ _ _ h=>by omega,fun _ _ _ h=>by omega,fun _ _ _ _ h=>by omega,fun _ _ _ h=>by omega,fun _ _ _ h=>by omega⟩
 | n+1=>by
   have ih:=lW n
   have ie:=iU n
   refine⟨fun d ts he hn=>?_,fun d ts he hn=>?_,fun d l ts he hn=>?_,fun d ts he hn=>?_,fun d ts he hn=>?_⟩
   ·unfold dK
    exact(sG _ d he).bind fun _ bH _ he1 hl1=>(ih.stmts (d+1) bH he1 (by omega)).bind fun l fO _ he2 hl2=>(iL _ he2).bind fun _ Gq _ he3 hl3=>⟨trivial,he3,by omega⟩
   ·unfold iC
    split
    ·exact⟨trivial,he,Nat.lt_succ_self _⟩
    ·exact(ih.stmt d ts he (by omega)).bind fun x bH _ he1 hl1=>(ih.stmts d bH he1 (by omega)).bind fun l fO _ he2 hl2=>⟨trivial,he2,by omega⟩
   ·unfold eG
    refine(ie.expr d 1 ts he (by omega)).bind fun c bH _ he1 hl1=>(ih.block d bH he1 (by omega)).bind fun th fO _ he2 hl2=>?_
    split
    ·rename_i h
     obtain⟨he3,hl3⟩:=iT he2 h
     split
     ·rename_i h2
      obtain⟨he4,hl4⟩:=iT he3 h2
      exact(ih.branch d _ _ he4 (by omega)).bind fun b uj _ CZ hl5=>⟨trivial,CZ,by omega⟩
     ·exact(ih.block d _ he3 (by omega)).bind fun b uj _ CZ hl5=>⟨trivial,CZ,by omega⟩
    ·exact⟨trivial,he2,by omega⟩
   ·unfold bW
    exact(ie.expr d 1 ts he (by omega)).bind fun x bH _ he1 hl1=>(iL _ he1).bind fun _ fO _ he2 hl2=>⟨trivial,he2,by omega⟩
   ·obtain⟨t,r,rfl⟩:=he.ne
    unfold mZ
    simp only [List.length_cons] at hn
    split
    ·rename_i h
     have her:=he.tail (iH h)
     refine(sH her).bind fun nm bH _ he1 hl1=>?_
     have h2:aS (if bf fC bH=true then bH.tail else bH)∧(if bf fC bH=true then bH.tail else bH).length≤bH.length:=by
      split
      ·rename_i h2
       obtain⟨a,b⟩:=iT he1 h2
       exact⟨a,by omega⟩
      ·exact⟨he1,Nat.le_refl _⟩
     simp only
     generalize (if bf fC bH=true then bH.tail else bH)=fO at h2
     split
     ·rename_i h3
      obtain⟨he3,hl3⟩:=iT h2.1 h3
      exact(ih.ended d _ he3 (by omega)).bind fun x zx _ he4 hl4=>⟨trivial,he4,by simp;omega⟩
     ·exact(iL _ h2.1).bind fun _ zx _ he4 hl4=>⟨trivial,he4,by simp;omega⟩
    ·split
     ·rename_i h;exact(ih.branch d _ r (he.tail (iH h)) (by omega)).mono (by simp)
     ·split
      ·rename_i h
       exact(ie.expr d 1 r (he.tail (iH h)) (by omega)).bind fun c bH _ he1 hl1=>(ih.block d bH he1 (by omega)).bind fun th fO _ he2 hl2=>⟨trivial,he2,by simp;omega⟩
      ·split
       ·rename_i h
        exact(ih.ended d r (he.tail (iH h)) (by omega)).bind fun x bH _ he1 hl1=>⟨trivial,he1,by simp;omega⟩
       ·split
        ·rename_i h
         exact(ih.ended d r (he.tail (iH h)) (by omega)).bind fun x bH _ he1 hl1=>⟨trivial,he1,by simp;omega⟩
        ·split
         ·rename_i h
          exact(iL _ (he.tail (iH h))).bind fun _ bH _ he1 hl1=>⟨trivial,he1,by simp;omega⟩
         ·split
          ·rename_i h
           have her:=he.tail (iH h)
           split
           ·rename_i h2
            obtain⟨he2,hl2⟩:=iT her h2
            exact⟨trivial,he2,by simp;omega⟩
           ·exact(ih.ended d r her (by omega)).bind fun x bH _ he1 hl1=>⟨trivial,he1,by simp;omega⟩
          ·refine(ie.post d _ he (by simp only [List.length_cons];omega)).bind fun x bH hx he1 hl1=>?_
           cases x with
           | nil=>exact hx.elim
           | ex k n' nm tx l r' a ln=>
             simp only
             split
             ·rename_i h2
              obtain⟨he2,hl2⟩:=iT he1 h2
              simp only [List.length_cons] at hl1
              split
              ·exact(ih.ended d _ he2 (by omega)).bind fun y fO _ he3 hl3=>⟨trivial,he3,by simp;omega⟩
              ·split
               ·exact(ih.ended d _ he2 (by omega)).bind fun y fO _ he3 hl3=>⟨trivial,he3,by simp;omega⟩
               ·trivial
             ·split
              ·exact(iL _ he1).bind fun _ fO _ he2 hl2=>⟨trivial,he2,by omega⟩
              ·trivial
theorem oK:∀(n:Nat) (f:Bool) (ts:List Tok),aS ts→ts.length+1≤n→Gd An (b_ n f ts) (ts.length+1)
 | 0,_,_,_,h=>by omega
 | n+1,f,ts,he,hn=>by
   unfold b_
   split
   ·exact⟨trivial,he,Nat.lt_succ_self _⟩
   ·have h1:Gd An (if f=true then Re.ok () ts else aQ [44] ts) (ts.length+1):=by
     split
     ·exact⟨trivial,he,Nat.lt_succ_self _⟩
     ·exact(iL _ he).mono (Nat.le_succ _)
    refine h1.bind fun _ bH _ he1 hl1=>(sH he1).bind fun nm fO _ he2 hl2=>?_
    have h2:aS (if bf fC fO=true then fO.tail else fO)∧(if bf fC fO=true then fO.tail else fO).length≤fO.length:=by
     split
     ·rename_i h2
      obtain⟨a,b⟩:=iT he2 h2
      exact⟨a,by omega⟩
     ·exact⟨he2,Nat.le_refl _⟩
    simp only
    generalize (if bf fC fO=true then fO.tail else fO)=Gq at h2
    exact(oK n false Gq h2.1 (by omega)).bind fun l zx _ he4 hl4=>⟨trivial,he4,by omega⟩
theorem FU (n:Nat)(ts:List Tok)(he:aS ts)(hn:10*ts.length+10≤n):Gd An (uh n ts) ts.length:=by
 unfold uh
 refine(iL _ he).bind fun _ bH _ he1 hl1=>(sH he1).bind fun nm fO _ he2 hl2=>(sG _ 0 he2).bind fun _ Gq _ he3 hl3=>(oK n true Gq he3 (by omega)).bind fun ps zx _ he4 hl4=>(iL _ he4).bind fun _ uj _ CZ hl5=>?_
 have h2:aS (if bf fC uj=true then uj.tail else uj)∧(if bf fC uj=true then uj.tail else uj).length≤uj.length:=by
  split
  ·rename_i h2
   obtain⟨a,b⟩:=iT CZ h2
   exact⟨a,by omega⟩
  ·exact⟨CZ,Nat.le_refl _⟩
 simp only
 generalize (if bf fC uj=true then uj.tail else uj)=Yk at h2
 exact((lW n).block 0 Yk h2.1 (by omega)).bind fun b ts7 _ he7 E_=>⟨trivial,he7,by omega⟩
theorem Cb:∀(n:Nat) (ts:List Tok),aS ts→10*ts.length+11≤n→Gd An (iJ n ts) (ts.length+1)
 | 0,_,_,h=>by omega
 | n+1,ts,he,hn=>by
   obtain⟨t,r,rfl⟩:=he.ne
   unfold iJ
   split
   ·exact⟨trivial,he,Nat.lt_succ_self _⟩
   ·simp only [List.length_cons] at hn
    exact(FU n _ he (by simp only [List.length_cons];omega)).bind fun f bH _ he1 hl1=>(Cb n bH he1 (by simp only [List.length_cons] at hl1;omega)).bind fun l fO _ he2 hl2=>⟨trivial,he2,by omega⟩
end Go.bP.YthoodopjoaigdaaGreatDoor
namespace Go.bP.YthoodopjoaigdaaGreatDoor
open Go.Proofs
set_option maxRecDepth 4000
mutual
def bJ (S:Nat→Prop)(σ:St)(v:AV):Tr→Prop
 | .nil=>v= .p0
 | .ex k n name text l r args line=>∃(o g:Nat) (L R A:AV),S o∧v= .p o g 0∧σ[o]? =some ⟨g,false,.cells 68 [.i .i64 k,.i .u32 n,.s name,.s text,L,R,A,.i .i64 line]⟩∧bJ S σ L l∧bJ S σ R r∧jZ S σ A args
def jZ (S:Nat→Prop)(σ:St)(v:AV):yV→Prop
 | .nil=>v= .sl0
 | .cons t r=>∃(o g:Nat) (cs:List AV),S o∧v= .sl o g 0 cs.length 1∧σ[o]? =some ⟨g,false,.cells 63 cs⟩∧∃a tl,cs=a :: tl∧bJ S σ a t∧qU S σ tl r
def qU (S:Nat→Prop)(σ:St)(cs:List AV):yV→Prop
 | .nil=>cs=[]
 | .cons t r=>∃a tl,cs=a :: tl∧bJ S σ a t∧qU S σ tl r
end
mutual
theorem bJ.mono {S S':Nat→Prop} {σ σ':St} (h1:∀o,S o→S' o)(h2:∀o,S o→∀a,σ[o]? =some a→σ'[o]? =some a):∀{t:Tr} {v:AV},bJ S σ v t→bJ S' σ' v t
 | .nil,v,h=>h
 | .ex k n name text l r args line,v,h=>by
   obtain⟨o,g,L,R,A,hs,hv,ho,hl,hr,ha⟩:=h
   exact⟨o,g,L,R,A,h1 o hs,hv,h2 o hs _ ho,bJ.mono h1 h2 hl,bJ.mono h1 h2 hr,jZ.mono h1 h2 ha⟩
theorem jZ.mono {S S':Nat→Prop} {σ σ':St} (h1:∀o,S o→S' o)(h2:∀o,S o→∀a,σ[o]? =some a→σ'[o]? =some a):∀{t:yV} {v:AV},jZ S σ v t→jZ S' σ' v t
 | .nil,v,h=>h
 | .cons t r,v,h=>by
   obtain⟨o,g,cs,hs,hv,ho,a,tl,hc,hx,hl⟩:=h
   exact⟨o,g,cs,h1 o hs,hv,h2 o hs _ ho,a,tl,hc,bJ.mono h1 h2 hx,qU.mono h1 h2 hl⟩
theorem qU.mono {S S':Nat→Prop} {σ σ':St} (h1:∀o,S o→S' o)(h2:∀o,S o→∀a,σ[o]? =some a→σ'[o]? =some a):∀{t:yV} {cs:List AV},qU S σ cs t→qU S' σ' cs t
 | .nil,cs,h=>h
 | .cons t r,cs,h=>by
   obtain⟨a,tl,hc,h3,h4⟩:=h
   exact⟨a,tl,hc,bJ.mono h1 h2 h3,qU.mono h1 h2 h4⟩
end
mutual
theorem bJ.below {S:Nat→Prop} {σ:St} :∀{t:Tr} {v:AV},bJ S σ v t→bJ (fun o=>S o∧o<σ.length) σ v t
 | .nil,v,h=>h
 | .ex k n name text l r args line,v,h=>by
   obtain⟨o,g,L,R,A,hs,hv,ho,hl,hr,ha⟩:=h
   exact⟨o,g,L,R,A,⟨hs,aX ho⟩,hv,ho,bJ.below hl,bJ.below hr,jZ.below ha⟩
theorem jZ.below {S:Nat→Prop} {σ:St} :∀{t:yV} {v:AV},jZ S σ v t→jZ (fun o=>S o∧o<σ.length) σ v t
 | .nil,v,h=>h
 | .cons t r,v,h=>by
   obtain⟨o,g,cs,hs,hv,ho,a,tl,hc,hx,hl⟩:=h
   exact⟨o,g,cs,⟨hs,aX ho⟩,hv,ho,a,tl,hc,bJ.below hx,qU.below hl⟩
theorem qU.below {S:Nat→Prop} {σ:St} :∀{t:yV} {cs:List AV},qU S σ cs t→qU (fun o=>S o∧o<σ.length) σ cs t
 | .nil,cs,h=>h
 | .cons t r,cs,h=>by
   obtain⟨a,tl,hc,h3,h4⟩:=h
   exact⟨a,tl,hc,bJ.below h3,qU.below h4⟩
end
structure aI (p:Nat)(σ σ':St):Prop where
 len:σ.length≤σ'.length
 old:∀i,i<σ.length→i≠p→σ'[i]? =σ[i]?
theorem aI.refl (p:Nat)(σ:St):aI p σ σ:=⟨Nat.le_refl _,fun _ _ _=>rfl⟩
theorem aI.trans {p:Nat} {a b c:St} (h:aI p a b)(k:aI p b c):aI p a c:=
 ⟨Nat.le_trans h.len k.len,fun i hi hp=>by rw [k.old i (Nat.lt_of_lt_of_le hi h.len) hp,h.old i hi hp]⟩
theorem aI.of {p:Nat} {a b:St} (h:Ext a b):aI p a b:=⟨h.len,fun i hi _=>h.old i hi⟩
theorem aI.new {p:Nat} {a b:St} (h:aI p a b)(e:Nat)(cs:List AV):aI p a (au e cs b):=h.trans (.of ((Ext.refl b).new e cs))
theorem aI.uS {p:Nat} {a b:St} (h:aI p a b)(x:AO):aI p a (b.set p x):=
 ⟨by rw [List.length_set];exact h.len,fun i hi hp=>by rw [List.getElem?_set_ne (fun e=>hp e.symm)];exact h.old i hi hp⟩
theorem aI.set {p:Nat} {a b:St} (h:aI p a b) {o:Nat} (ho:a.length≤o)(x:AO):aI p a (b.set o x):=
 ⟨by rw [List.length_set];exact h.len,fun i hi hp=>by rw [List.getElem?_set_ne (fun e=>by omega)];exact h.old i hi hp⟩
theorem aI.get {p:Nat} {σ σ':St} (h:aI p σ σ') {o:Nat} {a:AO} (hp:o≠p)(ho:σ[o]? =some a):σ'[o]? =some a:=by rw [h.old o (aX ho) hp];exact ho
theorem aI.take {p:Nat} {σ σ':St} (h:aI p σ σ') {n:Nat} (hp:n≤p)(hn:n≤σ.length):σ'.take n=σ.take n:=by
 apply List.ext_getElem?
 intro i
 rw [List.getElem?_take,List.getElem?_take]
 split
 ·exact h.old i (by omega) (by omega)
 ·rfl
end Go.bP.YthoodopjoaigdaaGreatDoor
namespace Go.bP.YthoodopjoaigdaaGreatDoor
open Go.Proofs
set_option maxRecDepth 4000
def jL (w g n m d:Nat)(b:Bool)(c l:Nat):List AV:=[.sl w g 0 n 3,.i .i64 m,.i .i64 d,.b b,.i .i64 c,.i .i64 l]
structure PO (p w g:Nat)(all:List Tok)(σ:St)(m d:Nat)(b:Bool)(c l:Nat):Prop where
 obj:σ[p]? =some ⟨0,false,.cells 56 (jL w g all.length m d b c l)⟩
 tok:σ[w]? =some ⟨g,false,.cells 47 (dY all)⟩
 ne:w≠p
 len:all.length≤40000
 at_:m<all.length
 dp:d≤1000
theorem uT:∀(all:List Tok) (m:Nat) (t:Tok),all[m]? =some t→((dY all).drop (m*3)).take 3=fZ t.k t.s t.l
 | x :: l,0,t,h=>by cases h;simp [dY,fZ]
 | x :: l,m+1,t,h=>by
   have e:dY (x :: l)=fZ x.k x.s x.l ++ dY l:=rfl
   rw [e,show (m+1)*3=3+m*3 by omega,←List.drop_drop,List.drop_left' (by rfl)]
   exact uT l m t h
theorem iD {p w g m d:Nat} {b:Bool} {c l:Nat} {all:List Tok} {σ:St} {t:Tok} (h:PO p w g all σ m d b c l)(ht:all[m]? =some t):ay X 14 [.p p 0 0] σ fun v s=>v= .ag (fZ t.k t.s t.l)∧s=σ:=by
 have hl:=h.len
 have hm:=h.at_
 have h1:(au 47 [.i .i64 0,.s [],.i .i64 0] σ)[p]? =_:=at_new h.obj _ _
 have h2:(au 47 [.i .i64 0,.s [],.i .i64 0] σ)[w]? =_:=at_new h.tok _ _
 refine ay.body (F:=F14) aH (lit:=false) rfl rfl (Nat.le_of_ble_eq_true rfl) ?_
 conv=>whnf
 refine ak (aj (T:=nM) rfl rfl (ah h1) rfl) ?_
 conv=>whnf
 refine ak (aj (T:=cu) rfl rfl (ah h1) rfl) ?_
 conv=>whnf
 refine ak (aj (T:=nM) rfl rfl (ah h1) rfl) ?_
 conv=>whnf
 refine⟨((all.length - 1:Nat):Int),by rw [wrap_i64 (by omega) (by omega)];omega,?_⟩
 conv=>whnf
 refine⟨m,by rw [if_neg (by decide)];omega,hm,?_⟩
 conv=>whnf
 refine ak (bQ (T:=fB) rfl rfl (ah h2) (by rw [kL];show 0+m*3+3≤_;omega)) ?_
 rw [show ((dY all).drop (0+m*3)).take (fB).size=fZ t.k t.s t.l by rw [Nat.zero_add];exact uT all m t ht]
 conv=>whnf
 refine ak (aC (T:=fB) (fZ t.k t.s t.l) rfl (aF _ _ _) rfl rfl (by decide) rfl) ?_
 conv=>whnf
 refine ak (bQ (T:=fB) rfl rfl (ah (at_set (aF _ _ _) _)) (Nat.le_of_ble_eq_true rfl)) ?_
 conv=>whnf
 exact Fin.flat rfl (((Ext.refl σ).new _ _).set (Nat.le_refl _) _).take ⟨rfl,rfl⟩
def dF (s:List UInt8)(t:Tok):Bool:=(t.k == 4 || t.k == 3) && t.s == s
theorem jg {p w g m d:Nat} {b:Bool} {c l:Nat} {all:List Tok} {σ:St} {t:Tok} (s:List UInt8)(h:PO p w g all σ m d b c l)(ht:all[m]? =some t):ay X 42 [.p p 0 0,.s s] σ fun v s'=>v= .b (!b && dF s t)∧s'= σ:=by
 refine ay.body (F:=F42) aH (lit:=false) rfl rfl (Nat.le_of_ble_eq_true rfl) ?_
 conv=>whnf
 refine ay.to (iD h ht) ?_
 conv=>whnf
 refine ak (aC (T:=fB) (fZ t.k t.s t.l) rfl (aF _ _ _) rfl rfl (by decide) rfl) ?_
 conv=>whnf
 have hp:p<σ.length:=aX h.obj
 have h1:((au 47 [.i .i64 0,.s [],.i .i64 0] σ).set σ.length ⟨0,false,.cells 47 (fZ t.k t.s t.l)⟩)[p]? =_:=aK (at_new h.obj _ _) (by omega) _
 have h3:((au 47 [.i .i64 0,.s [],.i .i64 0] σ).set σ.length ⟨0,false,.cells 47 (fZ t.k t.s t.l)⟩)[σ.length]? =_:=at_set (aF _ _ _) _
 have hx:=(((Ext.refl σ).new 47 [.i .i64 0,.s [],.i .i64 0]).set (Nat.le_refl _) ⟨0,false,.cells 47 (fZ t.k t.s t.l)⟩).take
 refine ak (aj (T:=kR) rfl rfl (ah h1) rfl) ?_
 cases b with
 | true=>
   conv=>whnf
   exact Fin.flat rfl hx ⟨rfl,rfl⟩
 | false=>
   conv=>whnf
   refine ak (aj (T:=cu) rfl rfl (ah h3) rfl) ?_
   conv=>whnf
   by_cases h4:t.k=4
   ·rw [decide_eq_true (by omega)]
    conv=>whnf
    refine ak (aj (T:=fA) rfl rfl (ah h3) rfl) ?_
    conv=>whnf
    cases he:t.s == s <;> (conv=>whnf)
    ·exact Fin.flat rfl hx ⟨by simp [dF,h4,he],rfl⟩
    ·exact Fin.flat rfl hx ⟨by simp [dF,h4,he],rfl⟩
   ·rw [decide_eq_false (by omega)]
    conv=>whnf
    refine ak (aj (T:=cu) rfl rfl (ah h3) rfl) ?_
    conv=>whnf
    by_cases h5:t.k=3
    ·rw [decide_eq_true (by omega)]
     conv=>whnf
     refine ak (aj (T:=fA) rfl rfl (ah h3) rfl) ?_
     conv=>whnf
     cases he:t.s == s <;> (conv=>whnf)
     ·exact Fin.flat rfl hx ⟨by simp [dF,h5,he],rfl⟩
     ·exact Fin.flat rfl hx ⟨by simp [dF,h5,he],rfl⟩
    ·rw [decide_eq_false (by omega)]
     conv=>whnf
     exact Fin.flat rfl hx ⟨by simp [dF,h4,h5],rfl⟩
def fD (p w g n:Nat)(σ:St)(m d:Nat)(b:Bool)(c l:Nat):St:=σ.set p ⟨0,false,.cells 56 (jL w g n m d b c l)⟩
theorem PO.set {p w g m d:Nat} {b:Bool} {c l:Nat} {all:List Tok} {σ:St} (h:PO p w g all σ m d b c l) {m' d':Nat} {b':Bool} {c' l':Nat} (hm:m'< all.length)(hd:d'≤1000):PO p w g all (fD p w g all.length σ m' d' b' c' l') m' d' b' c' l':=
 ⟨at_set h.obj _,aK h.tok h.ne.symm _,h.ne,h.len,hm,hd⟩
theorem oL {p w g n:Nat} {σ:St} {m d:Nat} {b:Bool} {c l m' d':Nat} {b':Bool} {c' l':Nat} :fD p w g n (fD p w g n σ m d b c l) m' d' b' c' l'= fD p w g n σ m' d' b' c' l':=by
 unfold fD;rw [List.set_set]
theorem bg {p w g n:Nat} {σ:St} {m d:Nat} {b:Bool} {c l:Nat} :(fD p w g n σ m d b c l).length=σ.length:=by unfold fD;rw [List.length_set]
theorem dn {p w g m d:Nat} {b:Bool} {c l:Nat} {all:List Tok} {σ:St} {t:Tok} (s:List UInt8)(h:PO p w g all σ m d b c l)(ht:all[m]? =some t) {Q:AV→St→Prop}
 (q1:b=false→dF s t=true→Q (.b true) (fD p w g all.length σ (m+1) d b c l)) (q0:(!b && dF s t)=false→Q (.b false) σ):ay X 43 [.p p 0 0,.s s] σ Q:=by
 have hl:=h.len
 have hm:=h.at_
 refine ay.body (F:=F43) aH (lit:=false) rfl rfl (Nat.le_of_ble_eq_true rfl) ?_
 conv=>whnf
 refine ay.to (jg s h ht) ?_
 cases hi:(!b && dF s t) with
 | false=>
   conv=>whnf
   exact Fin.flat rfl List.take_length (q0 hi)
 | true=>
   rw [Bool.and_eq_true,Bool.not_eq_true'] at hi
   conv=>whnf
   refine ak (aj (T:=cu) rfl rfl (ah h.obj) rfl) ?_
   conv=>whnf
   refine⟨((m+1:Nat):Int),by rw [wrap_i64 (by omega) (by omega)];omega,?_⟩
   conv=>whnf
   refine ak (aC (T:=cu) (jL w g all.length (m+1) d b c l) rfl h.obj rfl rfl (Nat.le_of_ble_eq_true rfl) rfl) ?_
   conv=>whnf
   exact Fin.same bg (q1 hi.1 hi.2)
theorem pR {p w g m d:Nat} {b:Bool} {c l:Nat} {all:List Tok} {σ:St} {t:Tok} (e:Nat)(h:PO p w g all σ m d b c l)(ht:all[m]? =some t) {Q:AV→St→Prop}
 (q1:b=false→Q (.tu []) (fD p w g all.length σ m d true e t.l)) (q0:b=true→Q (.tu []) σ):ay X 79 [.p p 0 0,.i .i64 e] σ Q:=by
 have hl:=h.len
 have hm:=h.at_
 refine ay.body (F:=F79) aH (lit:=false) rfl rfl (Nat.le_of_ble_eq_true rfl) ?_
 conv=>whnf
 refine ak (aj (T:=kR) rfl rfl (ah h.obj) rfl) ?_
 cases b with
 | true=>
   conv=>whnf
   exact Fin.flat rfl List.take_length (q0 rfl)
 | false=>
   conv=>whnf
   refine ak (aC (T:=kR) (jL w g all.length m d true c l) rfl h.obj rfl rfl (Nat.le_of_ble_eq_true rfl) rfl) ?_
   have h':=h.set (m':=m) (d':=d) (b':=true) (c':=c) (l':=l) hm h.dp
   conv=>whnf
   refine ay.to (iD h' ht) ?_
   conv=>whnf
   refine ak (aC (T:=lG) (jL w g all.length m d true e t.l) rfl h'.obj rfl rfl (Nat.le_of_ble_eq_true rfl) rfl) ?_
   conv=>whnf
   have e1:=oL (p:=p) (w:=w) (g:=g) (n:=all.length) (σ:=σ) (m:=m) (d:=d) (b:=true) (c:=c) (l:=l) (m':=m) (d':=d) (b':=true) (c':=e) (l':=t.l)
   unfold fD at e1
   rw [e1]
   exact Fin.same bg (q1 rfl)
theorem je {p w g m d c l:Nat} {all:List Tok} {σ:St} {t:Tok} (s:List UInt8)(h:PO p w g all σ m d false c l)(ht:all[m]? =some t) {Q:AV→St→Prop}
 (q1:dF s t=true→Q (.tu []) (fD p w g all.length σ (m+1) d false c l)) (q0:dF s t=false→Q (.tu []) (fD p w g all.length σ m d true 4 t.l)):ay X 39 [.p p 0 0,.s s] σ Q:=by
 refine ay.body (F:=F39) aH (lit:=false) rfl rfl (Nat.le_of_ble_eq_true rfl) ?_
 conv=>whnf
 refine dn s h ht (fun _ h1=>?_) (fun h0=>?_)
 ·conv=>whnf
  exact Fin.same bg (q1 h1)
 ·conv=>whnf
  refine pR 4 h ht (fun _=>?_) (fun e=>by cases e)
  conv=>whnf
  exact Fin.same bg (q0 (by simpa using h0))
theorem ng {p w g m d c l:Nat} {all:List Tok} {σ:St} {t:Tok} (s:List UInt8)(h:PO p w g all σ m d true c l)(ht:all[m]? =some t) {Q:AV→St→Prop} (q:Q (.tu []) σ):ay X 39 [.p p 0 0,.s s] σ Q:=by
 refine ay.body (F:=F39) aH (lit:=false) rfl rfl (Nat.le_of_ble_eq_true rfl) ?_
 conv=>whnf
 refine dn s h ht (fun e=>by cases e) (fun _=>?_)
 conv=>whnf
 refine pR 4 h ht (fun e=>by cases e) (fun _=>?_)
 conv=>whnf
 exact Fin.flat rfl List.take_length q
theorem pU {p w g m d c l:Nat} {all:List Tok} {σ:St} {t:Tok} (s:List UInt8)(h:PO p w g all σ m d false c l)(ht:all[m]? =some t)(hd:d+1≤1000)(hn:dF s t=true→m+1<all.length) {Q:AV→St→Prop}
 (q1:dF s t=true→d<64→Q (.tu []) (fD p w g all.length σ (m+1) (d+1) false c l)) (q2:dF s t=true→64≤d→Q (.tu []) (fD p w g all.length σ m (d+1) true 3 t.l)) (q0:dF s t=false→Q (.tu []) (fD p w g all.length σ m (d+1) true 4 t.l)):ay X 41 [.p p 0 0,.s s] σ Q:=by
 have hm:=h.at_
 have hl:=h.len
 refine ay.body (F:=F41) aH (lit:=false) rfl rfl (Nat.le_of_ble_eq_true rfl) ?_
 conv=>whnf
 refine ay.to (jg s h ht) ?_
 cases hi:dF s t with
 | false=>
   conv=>whnf
   refine je s h ht (fun e=>by rw [hi] at e;cases e) (fun _=>?_)
   conv=>whnf
   refine ak (aj (T:=cu) rfl rfl (ah (h.set hm h.dp).obj) rfl) ?_
   conv=>whnf
   refine⟨((d+1:Nat):Int),by rw [wrap_i64 (by omega) (by omega)];omega,?_⟩
   conv=>whnf
   refine ak (aC (T:=cu) (jL w g all.length m (d+1) true 4 t.l) rfl (h.set hm h.dp).obj rfl rfl (Nat.le_of_ble_eq_true rfl) rfl) ?_
   conv=>whnf
   rw [show List.set (fD p w g all.length σ m d true 4 t.l) p _=_ from oL]
   exact Fin.same bg (q0 hi)
 | true=>
   conv=>whnf
   refine ak (aj (T:=cu) rfl rfl (ah h.obj) rfl) ?_
   conv=>whnf
   by_cases h64:64≤d
   ·rw [decide_eq_true (by omega)]
    conv=>whnf
    refine pR 3 h ht (fun _=>?_) (fun e=>by cases e)
    conv=>whnf
    refine ng s (h.set hm h.dp) ht ?_
    conv=>whnf
    refine ak (aj (T:=cu) rfl rfl (ah (h.set hm h.dp).obj) rfl) ?_
    conv=>whnf
    refine⟨((d+1:Nat):Int),by rw [wrap_i64 (by omega) (by omega)];omega,?_⟩
    conv=>whnf
    refine ak (aC (T:=cu) (jL w g all.length m (d+1) true 3 t.l) rfl (h.set hm h.dp).obj rfl rfl (Nat.le_of_ble_eq_true rfl) rfl) ?_
    conv=>whnf
    rw [show List.set (fD p w g all.length σ m d true 3 t.l) p _=_ from oL]
    exact Fin.same bg (q2 hi h64)
   ·rw [decide_eq_false (by omega)]
    conv=>whnf
    refine je s h ht (fun _=>?_) (fun e=>by rw [hi] at e;cases e)
    conv=>whnf
    refine ak (aj (T:=cu) rfl rfl (ah (h.set (hn hi) h.dp).obj) rfl) ?_
    conv=>whnf
    refine⟨((d+1:Nat):Int),by rw [wrap_i64 (by omega) (by omega)];omega,?_⟩
    conv=>whnf
    refine ak (aC (T:=cu) (jL w g all.length (m+1) (d+1) false c l) rfl (h.set (hn hi) h.dp).obj rfl rfl (Nat.le_of_ble_eq_true rfl) rfl) ?_
    conv=>whnf
    rw [show List.set (fD p w g all.length σ (m+1) d false c l) p _=_ from oL]
    exact Fin.same bg (q1 hi (by omega))
theorem Cc {p w g m d c l:Nat} {all:List Tok} {σ:St} {t:Tok} (s:List UInt8)(h:PO p w g all σ m d true c l)(ht:all[m]? =some t)(hd:d+1≤1000) {Q:AV→St→Prop}
 (q:Q (.tu []) (fD p w g all.length σ m (d+1) true c l)):ay X 41 [.p p 0 0,.s s] σ Q:=by
 have hm:=h.at_
 have hl:=h.len
 refine ay.body (F:=F41) aH (lit:=false) rfl rfl (Nat.le_of_ble_eq_true rfl) ?_
 conv=>whnf
 refine ay.to (jg s h ht) ?_
 conv=>whnf
 refine ng s h ht ?_
 conv=>whnf
 refine ak (aj (T:=cu) rfl rfl (ah h.obj) rfl) ?_
 conv=>whnf
 refine⟨((d+1:Nat):Int),by rw [wrap_i64 (by omega) (by omega)];omega,?_⟩
 conv=>whnf
 refine ak (aC (T:=cu) (jL w g all.length m (d+1) true c l) rfl h.obj rfl rfl (Nat.le_of_ble_eq_true rfl) rfl) ?_
 conv=>whnf
 exact Fin.same bg q
theorem wJ {p w g m d c l:Nat} {all:List Tok} {σ:St} {t:Tok} (s:List UInt8)(h:PO p w g all σ m (d+1) false c l)(ht:all[m]? =some t)(hn:dF s t=true→m+1<all.length) {Q:AV→St→Prop}
 (q1:dF s t=true→Q (.tu []) (fD p w g all.length σ (m+1) d false c l)) (q0:dF s t=false→Q (.tu []) (fD p w g all.length σ m d true 4 t.l)):ay X 44 [.p p 0 0,.s s] σ Q:=by
 have hm:=h.at_
 have hl:=h.len
 have hd:=h.dp
 refine ay.body (F:=F44) aH (lit:=false) rfl rfl (Nat.le_of_ble_eq_true rfl) ?_
 conv=>whnf
 refine je s h ht (fun hi=>?_) (fun hi=>?_)
 ·conv=>whnf
  refine ak (aj (T:=cu) rfl rfl (ah (h.set (hn hi) h.dp).obj) rfl) ?_
  conv=>whnf
  refine⟨(d:Int),by rw [wrap_i64 (by omega) (by omega)];omega,?_⟩
  conv=>whnf
  refine ak (aC (T:=cu) (jL w g all.length (m+1) d false c l) rfl (h.set (hn hi) h.dp).obj rfl rfl (Nat.le_of_ble_eq_true rfl) rfl) ?_
  conv=>whnf
  rw [show List.set (fD p w g all.length σ (m+1) (d+1) false c l) p _=_ from oL]
  exact Fin.same bg (q1 hi)
 ·conv=>whnf
  refine ak (aj (T:=cu) rfl rfl (ah (h.set hm h.dp).obj) rfl) ?_
  conv=>whnf
  refine⟨(d:Int),by rw [wrap_i64 (by omega) (by omega)];omega,?_⟩
  conv=>whnf
  refine ak (aC (T:=cu) (jL w g all.length m d true 4 t.l) rfl (h.set hm h.dp).obj rfl rfl (Nat.le_of_ble_eq_true rfl) rfl) ?_
  conv=>whnf
  rw [show List.set (fD p w g all.length σ m (d+1) true 4 t.l) p _=_ from oL]
  exact Fin.same bg (q0 hi)
theorem gI {p w g m d c l:Nat} {all:List Tok} {σ:St} {t:Tok} (s:List UInt8)(h:PO p w g all σ m (d+1) true c l)(ht:all[m]? =some t) {Q:AV→St→Prop}
 (q:Q (.tu []) (fD p w g all.length σ m d true c l)):ay X 44 [.p p 0 0,.s s] σ Q:=by
 have hm:=h.at_
 have hl:=h.len
 have hd:=h.dp
 refine ay.body (F:=F44) aH (lit:=false) rfl rfl (Nat.le_of_ble_eq_true rfl) ?_
 conv=>whnf
 refine ng s h ht ?_
 conv=>whnf
 refine ak (aj (T:=cu) rfl rfl (ah h.obj) rfl) ?_
 conv=>whnf
 refine⟨(d:Int),by rw [wrap_i64 (by omega) (by omega)];omega,?_⟩
 conv=>whnf
 refine ak (aC (T:=cu) (jL w g all.length m d true c l) rfl h.obj rfl rfl (Nat.le_of_ble_eq_true rfl) rfl) ?_
 conv=>whnf
 exact Fin.same bg q
end Go.bP.YthoodopjoaigdaaGreatDoor
namespace Go.bP.YthoodopjoaigdaaGreatDoor
open Go.Proofs
set_option maxRecDepth 4000
theorem Q_ (s:List UInt8)(σ:St):ay X 130 [.s s] σ fun v s'=>v= .i .i64 (gQ s)∧s'= σ:=by
 refine ay.body (F:=Xu) aH (lit:=false) rfl rfl (Nat.le_of_ble_eq_true rfl) ?_
 repeat' ((conv=>whnf);split)
 all_goals (conv=>whnf)
 all_goals exact Fin.flat rfl List.take_length ⟨by simp_all [gQ],rfl⟩
theorem jy {σ σ':St} {v:AV} {Q:AV→St→Prop} {p:Nat} {a b:AO} (ho:σ[p]? =some a)(ho':σ'[p]? =some b)(hab:a≠b)(q:Q v σ'):Fin σ v σ' Q:=Fin.ne (fun e=>by
 have h:=congrArg (fun l=>l[p]?) e
 simp only [List.getElem?_take,if_pos (aX ho),ho,ho'] at h
 exact hab (Option.some.inj h).symm) q
theorem Rf {w g n m d c l m' d' c' l':Nat} {b b':Bool} (h:m≠m'∨b≠b'):(⟨0,false,.cells 56 (jL w g n m d b c l)⟩:AO)≠⟨0,false,.cells 56 (jL w g n m' d' b' c' l')⟩:=by
 intro e
 injection e with _ _ e
 injection e with _ e
 simp only [jL,List.cons.injEq,AV.i.injEq,AV.b.injEq,true_and] at e
 rcases h with h | h
 ·exact h (by have:=e.1;omega)
 ·exact h e.2.2.1
theorem sJ {p w g m d c l:Nat} {all:List Tok} {σ:St} {t:Tok} (h:PO p w g all σ m d false c l)(ht:all[m]? =some t)(hn:t.k=1→m+1<all.length) {Q:AV→St→Prop}
 (q1:t.k=1→∀σ',aI p σ σ'→PO p w g all σ' (m+1) d false c l→Q (.s t.s) σ') (q0:t.k≠1→∀σ',aI p σ σ'→PO p w g all σ' m d true 4 t.l→Q (.s []) σ'):ay X 40 [.p p 0 0] σ Q:=by
 have hm:=h.at_
 have hl:=h.len
 refine ay.body (F:=F40) aH (lit:=false) rfl rfl (Nat.le_of_ble_eq_true rfl) ?_
 conv=>whnf
 refine ay.to (iD h ht) ?_
 conv=>whnf
 refine ak (aC (T:=fB) (fZ t.k t.s t.l) rfl (aF _ _ _) rfl rfl (Nat.le_of_ble_eq_true rfl) rfl) ?_
 conv=>whnf
 have hp:p<σ.length:=aX h.obj
 have h1:PO p w g all ((au 47 [.i .i64 0,.s [],.i .i64 0] σ).set σ.length ⟨0,false,.cells 47 (fZ t.k t.s t.l)⟩) m d false c l:=⟨aK (at_new h.obj _ _) (by omega) _,aK (at_new h.tok _ _) (by have:=aX h.tok;omega) _,h.ne,hl,hm,h.dp⟩
 have h3:((au 47 [.i .i64 0,.s [],.i .i64 0] σ).set σ.length ⟨0,false,.cells 47 (fZ t.k t.s t.l)⟩)[σ.length]? =_:=at_set (aF _ _ _) _
 refine ak (aj (T:=kR) rfl rfl (ah h1.obj) rfl) ?_
 conv=>whnf
 refine ak (aj (T:=cu) rfl rfl (ah h3) rfl) ?_
 conv=>whnf
 have hx:aI p σ ((au 47 [.i .i64 0,.s [],.i .i64 0] σ).set σ.length ⟨0,false,.cells 47 (fZ t.k t.s t.l)⟩):=((aI.refl p σ).new _ _).set (Nat.le_refl _) _
 by_cases hk:t.k=1
 ·rw [decide_eq_true (by omega)]
  conv=>whnf
  refine ak (aj (T:=cu) rfl rfl (ah h1.obj) rfl) ?_
  conv=>whnf
  refine⟨((m+1:Nat):Int),by rw [wrap_i64 (by omega) (by omega)];omega,?_⟩
  conv=>whnf
  refine ak (aC (T:=cu) (jL w g all.length (m+1) d false c l) rfl h1.obj rfl rfl (Nat.le_of_ble_eq_true rfl) rfl) ?_
  conv=>whnf
  refine ak (aj (T:=fA) rfl rfl (ah (aK h3 (by omega) _)) rfl) ?_
  conv=>whnf
  have h9:=h1.set (m':=m+1) (d':=d) (b':=false) (c':=c) (l':=l) (hn hk) h.dp
  exact jy h.obj h9.obj (Rf (.inl (by omega))) (q1 hk _ (hx.uS _) h9)
 ·rw [decide_eq_false (by omega)]
  conv=>whnf
  refine pR 4 h1 ht (fun _=>?_) (fun e=>by cases e)
  conv=>whnf
  have h9:=h1.set (m':=m) (d':=d) (b':=true) (c':=4) (l':=t.l) hm h.dp
  exact jy h.obj h9.obj (Rf (.inr (by decide))) (q0 hk _ (hx.uS _) h9)
theorem Ce {p w g m d c l:Nat} {all:List Tok} {σ:St} {t:Tok} (h:PO p w g all σ m d true c l)(ht:all[m]? =some t) {Q:AV→St→Prop} (q:Q (.s []) σ):ay X 40 [.p p 0 0] σ Q:=by
 have hm:=h.at_
 have hl:=h.len
 refine ay.body (F:=F40) aH (lit:=false) rfl rfl (Nat.le_of_ble_eq_true rfl) ?_
 conv=>whnf
 refine ay.to (iD h ht) ?_
 conv=>whnf
 refine ak (aC (T:=fB) (fZ t.k t.s t.l) rfl (aF _ _ _) rfl rfl (Nat.le_of_ble_eq_true rfl) rfl) ?_
 conv=>whnf
 have hp:p<σ.length:=aX h.obj
 have h1:PO p w g all ((au 47 [.i .i64 0,.s [],.i .i64 0] σ).set σ.length ⟨0,false,.cells 47 (fZ t.k t.s t.l)⟩) m d true c l:=⟨aK (at_new h.obj _ _) (by omega) _,aK (at_new h.tok _ _) (by have:=aX h.tok;omega) _,h.ne,hl,hm,h.dp⟩
 have hx:=(((Ext.refl σ).new 47 [.i .i64 0,.s [],.i .i64 0]).set (Nat.le_refl _) ⟨0,false,.cells 47 (fZ t.k t.s t.l)⟩).take
 refine ak (aj (T:=kR) rfl rfl (ah h1.obj) rfl) ?_
 conv=>whnf
 refine pR 4 h1 ht (fun e=>by cases e) (fun _=>?_)
 conv=>whnf
 exact Fin.flat rfl hx q
theorem FV:∀(s:List UInt8) (n:Nat),n≤pO n s
 | [],n=>Nat.le_refl _
 | c :: s,n=>Nat.le_trans (show n≤10*n+(c.toNat - 48) by omega) (FV s _)
theorem J6 (s:List UInt8)(hd:∀c∈s,48≤c.toNat∧c.toNat≤57)(hl:s.length≤100000)(σ:St)(Q:Out→Env→St→Prop):∀(k m n:Nat),m+k=s.length→pO n (s.drop m)<4294967296→
 (∀e',get e' 3= .i .u32 (pO n (s.drop m))→get e' 1000000= .u→Q (.exit 0) e' σ)→
 aW X [0,3,4] PD [(0,.s s),(3,.i .u32 n),(4,.i .i64 m)] σ Q:=by
 intro k
 induction k with
 | zero=>
   intro m n hm hv hq
   refine aW.round aH (lit:=false) ?_
   conv=>whnf
   rw [decide_eq_false (by omega)]
   conv=>whnf
   refine hq _ ?_ rfl
   rw [List.drop_of_length_le (by omega)];rfl
 | succ k ih=>
   intro m n hm hv hq
   obtain⟨c,hc⟩:∃c,s[m]? =some c:=⟨_,List.getElem?_eq_getElem (by omega)⟩
   have hdr:=drop_cons hc
   have hcd:=hd c (List.mem_of_getElem? hc)
   rw [hdr] at hv hq
   have hb:10*n+(c.toNat - 48)<4294967296:=Nat.lt_of_le_of_lt (FV (s.drop (m+1)) (10*n+(c.toNat - 48))) hv
   have hv':id (pO (10*n+(c.toNat - 48)) (s.drop (m+1))<4294967296):=hv
   clear hv
   refine aW.round aH (lit:=false) ?_
   conv=>whnf
   rw [decide_eq_true (by omega)]
   conv=>whnf
   refine⟨10*n,wrap_u32 (by omega) (by omega),?_⟩
   conv=>whnf
   refine⟨m,c,rfl,hc,?_⟩
   conv=>whnf
   refine⟨_,wrap_u8 (n:=c.toNat - 48) (by omega) (by omega),?_⟩
   conv=>whnf
   refine⟨_,wrap_u32 (n:=(c.toNat:Int) - 48) (by omega) (by omega),?_⟩
   conv=>whnf
   refine⟨((10*n+(c.toNat - 48):Nat):Int),by rw [wrap_u32 (by omega) (by omega)];omega,?_⟩
   conv=>whnf
   refine⟨((m+1:Nat):Int),by rw [wrap_i64 (by omega) (by omega)];omega,?_⟩
   conv=>whnf
   exact ih (m+1) _ (by omega) hv' hq
theorem IV (s:List UInt8)(hd:∀c∈s,48≤c.toNat∧c.toNat≤57)(hl:s.length≤100000)(hv:pO 0 s<4294967296)(σ:St):ay X 149 [.s s] σ fun v s'=>v= .i .u32 (pO 0 s)∧s'= σ:=by
 refine ay.body (F:=Xy) aH (lit:=false) rfl rfl (Nat.le_of_ble_eq_true rfl) ?_
 conv=>whnf
 refine J6 s hd hl σ _ s.length 0 0 (by omega) (by rw [List.drop_zero];exact hv) fun e' h3 h9=>?_
 rw [List.drop_zero] at h3
 conv=>whnf
 rw [show dI.ev e' (.t 3)=get e' 3 from rfl,h3]
 conv=>whnf
 exact Fin.flat rfl List.take_length ⟨rfl,rfl⟩
end Go.bP.YthoodopjoaigdaaGreatDoor
namespace Go.bP.YthoodopjoaigdaaGreatDoor
open Go.Proofs
set_option maxRecDepth 4000
theorem pV {p w g m d c l:Nat} {b:Bool} {all:List Tok} {σ:St} (t:Tok)(h:PO p w g all σ m d b c l) {Q:St→Prop}
 (q:∀σ1,aI p σ σ1→PO p w g all σ1 m d b c l→σ1[σ.length]? =some ⟨0,false,.cells 47 (fZ t.k t.s t.l)⟩→σ1.length=σ.length+1→Q σ1) :
 om (iO (Ie.get 47) (.p σ.length 0 0) (.ag (fZ t.k t.s t.l)) (au 47 fB.zero.cells σ)) Q:=by
 refine ak (aC (T:=fB) (fZ t.k t.s t.l) rfl (aF _ _ _) rfl rfl (Nat.le_of_ble_eq_true rfl) rfl) ?_
 have hp:=aX h.obj
 have hw:=aX h.tok
 refine q _ (((aI.refl p σ).new _ _).set (Nat.le_refl _) _) ⟨aK (at_new h.obj _ _) (by omega) _,aK (at_new h.tok _ _) (by omega) _,h.ne,h.len,h.at_,h.dp⟩ (at_set (aF _ _ _) _) ?_
 rw [List.length_set,aG]
theorem PO.new {p w g m d c l:Nat} {b:Bool} {all:List Tok} {σ:St} (h:PO p w g all σ m d b c l)(e:Nat)(cs:List AV):PO p w g all (au e cs σ) m d b c l:=⟨at_new h.obj _ _,at_new h.tok _ _,h.ne,h.len,h.at_,h.dp⟩
theorem NY {p w g m d c l:Nat} {all:List Tok} {σ:St} {t:Tok} (h:PO p w g all σ m d true c l)(ht:all[m]? =some t) {Q:AV→St→Prop}
 (q:∀o σ',aI p σ σ'→PO p w g all σ' m d true c l→Q (.p o 0 0) σ'):ay X 131 [.p p 0 0] σ Q:=by
 refine ay.body (F:=Us) aH (lit:=false) rfl rfl (Nat.le_of_ble_eq_true rfl) ?_
 conv=>whnf
 refine ay.to (iD h ht) ?_
 conv=>whnf
 refine pV t h fun σ1 x1 h1 ht1 hl1=>?_
 conv=>whnf
 refine ay.to (jg _ h1 ht) ?_
 conv=>whnf
 refine dn _ h1 ht (fun e=>by cases e) (fun _=>?_)
 conv=>whnf
 refine dn _ h1 ht (fun e=>by cases e) (fun _=>?_)
 conv=>whnf
 refine ak (aj (T:=cu) rfl rfl (ah ht1) rfl) ?_
 conv=>whnf
 cases hk:decide ((t.k:Int)=2)
 case' true=>
  conv=>whnf
  refine ak (aj (T:=kR) rfl rfl (ah h1.obj) rfl) ?_
 all_goals
  conv=>whnf
  refine Ce h1 ht ?_
  conv=>whnf
  refine ay.to (jg _ h1 ht) ?_
  conv=>whnf
  refine ak (aj (T:=cu) rfl rfl (ah ht1) rfl) ?_
  conv=>whnf
  exact Fin.ref rfl (q _ _ (x1.new _ _) (h1.new _ _))
theorem Rh {p w g m d c l:Nat} {all:List Tok} {σ:St} {t:Tok} (h:PO p w g all σ m d true c l)(ht:all[m]? =some t) {Q:AV→St→Prop}
 (q:∀o σ',aI p σ σ'→PO p w g all σ' m d true c l→Q (.p o 0 0) σ'):ay X 110 [.p p 0 0] σ Q:=by
 refine ay.body (F:=Ul) aH (lit:=false) rfl rfl (Nat.le_of_ble_eq_true rfl) ?_
 conv=>whnf
 refine NY h ht fun o σ1 x1 h1=>?_
 conv=>whnf
 refine aW.round aH (lit:=false) ?_
 conv=>whnf
 refine ak (aj (T:=kR) rfl rfl (ah h1.obj) rfl) ?_
 conv=>whnf
 exact Fin.ref rfl (q _ _ x1 h1)
theorem xY {p w g m d c l:Nat} {all:List Tok} {σ:St} {t:Tok} (h:PO p w g all σ m d true c l)(ht:all[m]? =some t) {Q:AV→St→Prop}
 (q:∀o σ',aI p σ σ'→PO p w g all σ' m d true c l→Q (.p o 0 0) σ'):ay X 129 [.p p 0 0] σ Q:=by
 refine ay.body (F:=Ur) aH (lit:=false) rfl rfl (Nat.le_of_ble_eq_true rfl) ?_
 conv=>whnf
 refine ay.to (iD h ht) ?_
 conv=>whnf
 refine pV t h fun σ1 x1 h1 ht1 hl1=>?_
 conv=>whnf
 refine ay.to (jg _ h1 ht) ?_
 conv=>whnf
 refine ay.to (jg _ h1 ht) ?_
 conv=>whnf
 refine Rh h1 ht fun o σ2 x2 h2=>?_
 conv=>whnf
 exact Fin.ref rfl (q _ _ (x1.trans x2) h2)
theorem Ci {p w g m d c l:Nat} {all:List Tok} {σ:St} {t:Tok} (k:Nat)(h:PO p w g all σ m d true c l)(ht:all[m]? =some t) {Q:AV→St→Prop}
 (q:∀o σ',aI p σ σ'→PO p w g all σ' m d true c l→Q (.p o 0 0) σ'):ay X 107 [.p p 0 0,.i .i64 k] σ Q:=by
 refine ay.body (F:=Uk) aH (lit:=false) rfl rfl (Nat.le_of_ble_eq_true rfl) ?_
 conv=>whnf
 refine xY h ht fun o σ1 x1 h1=>?_
 conv=>whnf
 refine aW.round aH (lit:=false) ?_
 conv=>whnf
 refine ak (aj (T:=kR) rfl rfl (ah h1.obj) rfl) ?_
 conv=>whnf
 exact Fin.ref rfl (q _ _ x1 h1)
theorem PO.ext {p w g n m d c l:Nat} {b:Bool} {σ:St} :aI p σ (fD p w g n σ m d b c l):=(aI.refl p σ).uS _
end Go.bP.YthoodopjoaigdaaGreatDoor
namespace Go.bP.YthoodopjoaigdaaGreatDoor
open Go.Proofs
set_option maxRecDepth 4000
def PE (p w g:Nat)(all:List Tok)(σ:St)(d:Nat)(Q:AV→St→Prop):Re Tr→Prop
 | .ok t ts=>∀o g' σ' m' c l,aI p σ σ'→PO p w g all σ' m' d false c l→all.drop m'= ts→bJ (fun i=>σ.length≤i) σ' (.p o g' 0) t→Q (.p o g' 0) σ'
 | .bad c l=>∀o g' σ' m',aI p σ σ'→PO p w g all σ' m' d true c l→Q (.p o g' 0) σ'
 | .out=>True
theorem aV {all:List Tok} {m:Nat} {t:Tok} {r:List Tok} (h:all.drop m=t :: r):all[m]? =some t∧all.drop (m+1)=r:=by
 constructor
 ·have:=congrArg List.head? h
  rw [List.head?_drop] at this;exact this
 ·rw [←List.tail_drop,h];rfl
theorem iV {all:List Tok} {m:Nat} (h:aS (all.drop m)):m<all.length:=by
 rcases Nat.lt_or_ge m all.length with hl | hl
 ·exact hl
 ·rw [List.drop_of_length_le hl] at h;exact h.elim
def PL (k j:Nat)(p w g:Nat)(all:List Tok)(B:Nat)(σ:St)(d:Nat)(Q:Out→Env→St→Prop):Re Tr→Prop
 | .ok t ts=>∀o g' σ' m' c l e',get e' k= .p o g' 0→aI p σ σ'→PO p w g all σ' m' d false c l→all.drop m'= ts→bJ (fun i=>B≤i) σ' (.p o g' 0) t→Q .ret e' σ'
 | .bad c l=>∀o g' σ' m' e',get e' j= .p o g' 0→get e' 1000000= .u→aI p σ σ'→PO p w g all σ' m' d true c l→Q (.exit 0) e' σ'
 | .out=>True
structure WE (p w g:Nat)(all:List Tok)(n:Nat):Prop where
 expr:∀(d c:Nat) (σ:St) (m c0 l0:Nat) (Q:AV→St→Prop),PO p w g all σ m d false c0 l0→d≤64→c≤8→aS (all.drop m)→10*(all.drop m).length+9≤n→PE p w g all σ d Q (dQ n d c (all.drop m))→ay X 107 [.p p 0 0,.i .i64 c] σ Q
 un:∀(d:Nat) (σ:St) (m c0 l0:Nat) (Q:AV→St→Prop),PO p w g all σ m d false c0 l0→d≤64→aS (all.drop m)→10*(all.drop m).length+8≤n→PE p w g all σ d Q (FT n d (all.drop m))→ay X 129 [.p p 0 0] σ Q
 post:∀(d:Nat) (σ:St) (m c0 l0:Nat) (Q:AV→St→Prop),PO p w g all σ m d false c0 l0→d≤64→aS (all.drop m)→10*(all.drop m).length+7≤n→PE p w g all σ d Q (jV n d (all.drop m))→ay X 110 [.p p 0 0] σ Q
 with_:∀(d:Nat) (a b:List UInt8) (σ:St) (m c0 l0:Nat) (Q:AV→St→Prop),PO p w g all σ m d false c0 l0→d≤64→aS (all.drop m)→10*(all.drop m).length+5≤n→PE p w g all σ d Q (jI n d a b (all.drop m))→ay X 132 [.p p 0 0,.s a,.s b] σ Q
 cell:∀(d:Nat) (σ:St) (m c0 l0:Nat) (Q:AV→St→Prop),PO p w g all σ m d false c0 l0→d≤64→aS (all.drop m)→10*(all.drop m).length+6≤n→PE p w g all σ d Q (lS n d (all.drop m))→ay X 133 [.p p 0 0] σ Q
 first:∀(d:Nat) (σ:St) (m c0 l0:Nat) (Q:AV→St→Prop),PO p w g all σ m d false c0 l0→d≤64→aS (all.drop m)→10*(all.drop m).length+6≤n→PE p w g all σ d Q (jk n d (all.drop m))→ay X 131 [.p p 0 0] σ Q
 m_:∀(d B:Nat) (x:Tr) (σ:St) (m c0 l0 o g':Nat) (Q:Out→Env→St→Prop),PO p w g all σ m d false c0 l0→d≤64→p<B→B≤σ.length→Gp x→bJ (fun i=>B≤i) σ (.p o g' 0) x→aS (all.drop m)→10*(all.drop m).length+9≤n→PL 2 3 p w g all B σ d Q (gU n d x (all.drop m))→aW X [0,3] E5 [(0,.p p 0 0),(3,.p o g' 0)] σ Q
 loop:∀(d c B:Nat) (x:Tr) (σ:St) (m c0 l0 o g':Nat) (Q:Out→Env→St→Prop),PO p w g all σ m d false c0 l0→d≤64→c≤8→p<B→B≤σ.length→Gp x→bJ (fun i=>B≤i) σ (.p o g' 0) x→aS (all.drop m)→10*(all.drop m).length+9≤n→PL 4 5 p w g all B σ d Q (jU n d c x (all.drop m))→aW X [0,1,5] EZ [(0,.p p 0 0),(1,.i .i64 c),(5,.p o g' 0)] σ Q
section
variable {p w g:Nat} {all:List Tok} {n:Nat}
theorem aN {s:List UInt8} {m:Nat} {t:Tok} {r:List Tok} (he:aS (all.drop m))(hts:all.drop m=t :: r)(hi:dF s t=true):m+1<all.length∧aS (all.drop (m+1))∧(all.drop (m+1)).length<(all.drop m).length:=by
 have h1:=iT (s:=s) he (by rw [hts];exact hi)
 rw [hts] at h1
 have e:all.drop (m+1)=r:=(aV hts).2
 have h2:aS (all.drop (m+1)):=by rw [e];exact h1.1
 exact⟨iV h2,h2,by rw [e,hts];simp⟩
theorem Yl (ih:WE p w g all n)(d:Nat)(a b:List UInt8)(σ:St)(m c0 l0:Nat)(Q:AV→St→Prop)(h:PO p w g all σ m d false c0 l0)(hd:d≤64)(he:aS (all.drop m))(hn:10*(all.drop m).length+5≤n+1)(hQ:PE p w g all σ d Q (jI (n+1) d a b (all.drop m))):ay X 132 [.p p 0 0,.s a,.s b] σ Q:=by
 obtain⟨t,r,hts⟩:=he.ne
 obtain⟨ht,hr⟩:=aV hts
 have hm:=h.at_
 refine ay.body (F:=Xv) aH (lit:=false) rfl rfl (Nat.le_of_ble_eq_true rfl) ?_
 conv=>whnf
 unfold jI gG at hQ
 rw [hts] at hQ
 refine pU a h ht (by omega) (fun hi=>(aN he hts hi).1) (fun hi h64=>?_) (fun hi h64=>?_) (fun hi=>?_)
 ·obtain⟨hm1,he1,hl1⟩:=aN he hts hi
  have h1:=h.set (m':=m+1) (d':=d+1) (b':=false) (c':=c0) (l':=l0) hm1 (by omega)
  conv=>whnf
  rw [if_neg (by omega),aQ,if_pos (show bf a (t :: r)=true from hi)] at hQ
  have hQ:PE p w g all σ d Q ((dQ n (d+1) 1 r).bind fun x ts=>(aQ b ts).bind fun _ ts=>.ok x ts):=hQ
  have hg:=(iU n).expr (d+1) 1 (all.drop (m+1)) he1 (by omega)
  refine ih.expr (d+1) 1 _ (m+1) _ _ _ h1 (by omega) (by omega) he1 (by omega) ?_
  rw [hr] at hg ⊢
  generalize dQ n (d+1) 1 r=r1 at hg hQ
  cases r1 with
  | out=>exact hg.elim
  | bad c l=>
    intro o g' σ2 m2 x2 h2
    conv=>whnf
    obtain⟨t2,ht2⟩:∃t2,all[m2]? =some t2:=⟨_,List.getElem?_eq_getElem h2.at_⟩
    refine gI _ h2 ht2 ?_
    have h3:=h2.set (m':=m2) (d':=d) (b':=true) (c':=c) (l':=l) h2.at_ h.dp
    conv=>whnf
    exact Fin.ref rfl (hQ _ _ _ _ ((PO.ext.trans x2).trans PO.ext) h3)
  | ok x bH=>
    intro o g' σ2 m2 c2 l2 x2 h2 hm2 hex
    have he2:aS (all.drop m2):=by rw [hm2];exact hg.2.1
    obtain⟨t2,r2,eU⟩:=he2.ne
    obtain⟨ht2,hr2⟩:=aV eU
    have hQ:PE p w g all σ d Q ((aQ b bH).bind fun _ ts=>.ok x ts):=hQ
    rw [←hm2,eU] at hQ
    conv=>whnf
    refine wJ _ h2 ht2 (fun hi2=>(aN he2 eU hi2).1) (fun hi2=>?_) (fun hi2=>?_)
    ·rw [aQ,if_pos (show bf b (t2 :: r2)=true from hi2)] at hQ
     have h3:=h2.set (m':=m2+1) (d':=d) (b':=false) (c':=c2) (l':=l2) (aN he2 eU hi2).1 h.dp
     conv=>whnf
     refine Fin.ref rfl (hQ _ _ _ _ _ _ ((PO.ext.trans x2).trans PO.ext) h3 hr2 ?_)
     exact bJ.mono (fun i hi=>by rw [bg] at hi;exact hi) (fun i hi a ha=>PO.ext.get (by rw [bg] at hi;have:=aX h.obj;omega) ha) hex
    ·rw [aQ,if_neg (show ¬bf b (t2 :: r2)=true by rw [show bf b (t2 :: r2)=dF b t2 from rfl,hi2];decide)] at hQ
     have h3:=h2.set (m':=m2) (d':=d) (b':=true) (c':=4) (l':=t2.l) h2.at_ h.dp
     conv=>whnf
     exact Fin.ref rfl (hQ _ _ _ _ ((PO.ext.trans x2).trans PO.ext) h3)
 ·have h1:=h.set (m':=m) (d':=d+1) (b':=true) (c':=3) (l':=t.l) h.at_ (by omega)
  conv=>whnf
  rw [if_pos ⟨show bf a (t :: r)=true from hi,h64⟩] at hQ
  refine Ci 1 h1 ht fun o σ2 x2 h2=>?_
  conv=>whnf
  refine gI _ h2 ht ?_
  have h3:=h2.set (m':=m) (d':=d) (b':=true) (c':=3) (l':=t.l) h.at_ h.dp
  conv=>whnf
  exact Fin.ref rfl (hQ _ _ _ _ ((PO.ext.trans x2).trans PO.ext) h3)
 ·have h1:=h.set (m':=m) (d':=d+1) (b':=true) (c':=4) (l':=t.l) h.at_ (by omega)
  have hiw:¬bf a (t :: r)=true:=by rw [show bf a (t :: r)=dF a t from rfl,hi];decide
  conv=>whnf
  rw [if_neg (fun e=>hiw e.1),aQ,if_neg hiw] at hQ
  refine Ci 1 h1 ht fun o σ2 x2 h2=>?_
  conv=>whnf
  refine gI _ h2 ht ?_
  have h3:=h2.set (m':=m) (d':=d) (b':=true) (c':=4) (l':=t.l) h.at_ h.dp
  conv=>whnf
  exact Fin.ref rfl (hQ _ _ _ _ ((PO.ext.trans x2).trans PO.ext) h3)
theorem un_w (ih:WE p w g all n)(d:Nat)(σ:St)(m c0 l0:Nat)(Q:AV→St→Prop)(h:PO p w g all σ m d false c0 l0)(hd:d≤64)(he:aS (all.drop m))(hn:10*(all.drop m).length+8≤n+1)(hQ:PE p w g all σ d Q (FT (n+1) d (all.drop m))):ay X 129 [.p p 0 0] σ Q:=by
 obtain⟨t,r,hts⟩:=he.ne
 obtain⟨ht,hr⟩:=aV hts
 have hm:=h.at_
 refine ay.body (F:=Ur) aH (lit:=false) rfl rfl (Nat.le_of_ble_eq_true rfl) ?_
 conv=>whnf
 refine ay.to (iD h ht) ?_
 conv=>whnf
 refine pV t h fun σ1 x1 h1 ht1 hl1=>?_
 have hts':=hts
 unfold FT at hQ
 rw [hts] at hQ
 simp only at hQ
 have hpl:=aX h.obj
 have htk:∀s,aI p σ1 s→s[σ.length]? =some ⟨0,false,.cells 47 (fZ t.k t.s t.l)⟩:=fun s x=>x.get (by omega) ht1
 conv=>whnf
 refine ay.to (jg _ h1 ht) ?_
 cases hi1:dF [33] t with
 | true=>
   have hk:dF t.s t=true:=by
    have:=hi1
    simp only [dF,Bool.and_eq_true,beq_self_eq_true,and_true] at this ⊢
    exact this.1
   rw [if_pos (show bf [33] (t :: r)=true∨bf [45] (t :: r)=true from .inl hi1)] at hQ
   conv=>whnf
   refine ak (aj (T:=fA) rfl rfl (ah ht1) rfl) ?_
   conv=>whnf
   refine pU t.s h1 ht (by omega) (fun hi=>(aN he hts hi).1) (fun _ h64=>?_) (fun _ h64=>?_) (fun hi=>by rw [hk] at hi;cases hi)
   ·obtain⟨hm1,he1,hle⟩:=aN he hts hk
    have h2:=h1.set (m':=m+1) (d':=d+1) (b':=false) (c':=c0) (l':=l0) hm1 (by omega)
    rw [if_neg (by omega)] at hQ
    conv=>whnf
    have hg:=(iU n).un (d+1) (all.drop (m+1)) he1 (by omega)
    refine ih.un (d+1) _ (m+1) _ _ _ h2 (by omega) he1 (by omega) ?_
    rw [hr] at hg ⊢
    generalize FT n (d+1) r=r1 at hg hQ
    cases r1 with
    | out=>exact hg.elim
    | bad c l=>
      intro o g' σ2 m2 x2 h3
      have x3:aI p σ1 σ2:=PO.ext.trans x2
      have h4:=h3.set (m':=m2) (d':=d) (b':=true) (c':=c) (l':=l) h3.at_ h.dp
      have x4:aI p σ1 (fD p w g all.length σ2 m2 d true c l):=x3.trans PO.ext
      conv=>whnf
      refine ak (aj (T:=cu) rfl rfl (ah h3.obj) rfl) ?_
      conv=>whnf
      refine⟨(d:Int),by rw [wrap_i64 (by omega) (by omega)];omega,?_⟩
      conv=>whnf
      refine ak (aC (T:=cu) (jL w g all.length m2 d true c l) rfl h3.obj rfl rfl (Nat.le_of_ble_eq_true rfl) rfl) ?_
      conv=>whnf
      refine ak (aj (T:=fA) rfl rfl (ah (htk _ x4)) rfl) ?_
      conv=>whnf
      refine ak (aj (T:=cu) rfl rfl (ah (htk _ x4)) rfl) ?_
      conv=>whnf
      exact Fin.ref rfl (hQ _ _ _ _ (x1.trans (x4.new _ _)) (h4.new _ _))
    | ok x bH=>
      intro o g' σ2 m2 c2 l2 x2 h3 hm2 hex
      have x3:aI p σ1 σ2:=PO.ext.trans x2
      have h4:=h3.set (m':=m2) (d':=d) (b':=false) (c':=c2) (l':=l2) h3.at_ h.dp
      have x4:aI p σ1 (fD p w g all.length σ2 m2 d false c2 l2):=x3.trans PO.ext
      conv=>whnf
      refine ak (aj (T:=cu) rfl rfl (ah h3.obj) rfl) ?_
      conv=>whnf
      refine⟨(d:Int),by rw [wrap_i64 (by omega) (by omega)];omega,?_⟩
      conv=>whnf
      refine ak (aC (T:=cu) (jL w g all.length m2 d false c2 l2) rfl h3.obj rfl rfl (Nat.le_of_ble_eq_true rfl) rfl) ?_
      conv=>whnf
      refine ak (aj (T:=fA) rfl rfl (ah (htk _ x4)) rfl) ?_
      conv=>whnf
      refine ak (aj (T:=cu) rfl rfl (ah (htk _ x4)) rfl) ?_
      conv=>whnf
      have l4:=x4.len
      have Ym:=x2.len
      rw [bg] at Ym
      refine Fin.ref rfl (hQ _ _ _ _ _ _ (x1.trans (x4.new _ _)) (h4.new _ _) hm2 ?_)
      refine⟨_,0,.p0,.p o g' 0,.sl0,(by omega:σ.length≤(fD p w g all.length σ2 m2 d false c2 l2).length),rfl,aF _ _ _,rfl,?_,rfl⟩
      exact bJ.mono (fun i hi=>by rw [bg] at hi;omega) (fun i hi a ha=>at_new (PO.ext.get (by rw [bg] at hi;omega) ha) _ _) hex
   ·have h2:=h1.set (m':=m) (d':=d+1) (b':=true) (c':=3) (l':=t.l) h.at_ (by omega)
    rw [if_pos h64] at hQ
    conv=>whnf
    refine xY h2 ht fun o σ2 x2 h3=>?_
    have x3:aI p σ1 σ2:=PO.ext.trans x2
    have h4:=h3.set (m':=m) (d':=d) (b':=true) (c':=3) (l':=t.l) h3.at_ h.dp
    have x4:aI p σ1 (fD p w g all.length σ2 m d true 3 t.l):=x3.trans PO.ext
    conv=>whnf
    refine ak (aj (T:=cu) rfl rfl (ah h3.obj) rfl) ?_
    conv=>whnf
    refine⟨(d:Int),by rw [wrap_i64 (by omega) (by omega)];omega,?_⟩
    conv=>whnf
    refine ak (aC (T:=cu) (jL w g all.length m d true 3 t.l) rfl h3.obj rfl rfl (Nat.le_of_ble_eq_true rfl) rfl) ?_
    conv=>whnf
    refine ak (aj (T:=fA) rfl rfl (ah (htk _ x4)) rfl) ?_
    conv=>whnf
    refine ak (aj (T:=cu) rfl rfl (ah (htk _ x4)) rfl) ?_
    conv=>whnf
    exact Fin.ref rfl (hQ _ _ _ _ (x1.trans (x4.new _ _)) (h4.new _ _))
 | false=>
   conv=>whnf
   refine ay.to (jg _ h1 ht) ?_
   cases hi2:dF [45] t with
   | false=>
     conv=>whnf
     rw [if_neg (by rw [show bf [33] (t :: r)=dF [33] t from rfl,show bf [45] (t :: r)=dF [45] t from rfl,hi1,hi2];simp),←hts] at hQ
     have hrel:(all.drop m).length=(all.drop m).length:=rfl
     refine ih.post d σ1 m _ _ _ h1 hd he (by omega) ?_
     generalize jV n d (all.drop m)=r1 at hQ
     cases r1 with
     | out=>trivial
     | bad c l=>
       intro o g' σ2 m2 x2 h2
       conv=>whnf
       exact Fin.ref rfl (hQ _ _ _ _ (x1.trans x2) h2)
     | ok x bH=>
       intro o g' σ2 m2 c2 l2 x2 h2 hm2 hex
       conv=>whnf
       exact Fin.ref rfl (hQ _ _ _ _ _ _ (x1.trans x2) h2 hm2 (bJ.mono (fun i hi=>by omega) (fun i hi a ha=>ha) hex))
   | true=>
     have hk:dF t.s t=true:=by
        have:=hi2
        simp only [dF,Bool.and_eq_true,beq_self_eq_true,and_true] at this ⊢
        exact this.1
     rw [if_pos (show bf [33] (t :: r)=true∨bf [45] (t :: r)=true from .inr hi2)] at hQ
     conv=>whnf
     refine ak (aj (T:=fA) rfl rfl (ah ht1) rfl) ?_
     conv=>whnf
     refine pU t.s h1 ht (by omega) (fun hi=>(aN he hts hi).1) (fun _ h64=>?_) (fun _ h64=>?_) (fun hi=>by rw [hk] at hi;cases hi)
     ·obtain⟨hm1,he1,hle⟩:=aN he hts hk
      have h2:=h1.set (m':=m+1) (d':=d+1) (b':=false) (c':=c0) (l':=l0) hm1 (by omega)
      rw [if_neg (by omega)] at hQ
      conv=>whnf
      have hg:=(iU n).un (d+1) (all.drop (m+1)) he1 (by omega)
      refine ih.un (d+1) _ (m+1) _ _ _ h2 (by omega) he1 (by omega) ?_
      rw [hr] at hg ⊢
      generalize FT n (d+1) r=r1 at hg hQ
      cases r1 with
      | out=>exact hg.elim
      | bad c l=>
        intro o g' σ2 m2 x2 h3
        have x3:aI p σ1 σ2:=PO.ext.trans x2
        have h4:=h3.set (m':=m2) (d':=d) (b':=true) (c':=c) (l':=l) h3.at_ h.dp
        have x4:aI p σ1 (fD p w g all.length σ2 m2 d true c l):=x3.trans PO.ext
        conv=>whnf
        refine ak (aj (T:=cu) rfl rfl (ah h3.obj) rfl) ?_
        conv=>whnf
        refine⟨(d:Int),by rw [wrap_i64 (by omega) (by omega)];omega,?_⟩
        conv=>whnf
        refine ak (aC (T:=cu) (jL w g all.length m2 d true c l) rfl h3.obj rfl rfl (Nat.le_of_ble_eq_true rfl) rfl) ?_
        conv=>whnf
        refine ak (aj (T:=fA) rfl rfl (ah (htk _ x4)) rfl) ?_
        conv=>whnf
        refine ak (aj (T:=cu) rfl rfl (ah (htk _ x4)) rfl) ?_
        conv=>whnf
        exact Fin.ref rfl (hQ _ _ _ _ (x1.trans (x4.new _ _)) (h4.new _ _))
      | ok x bH=>
        intro o g' σ2 m2 c2 l2 x2 h3 hm2 hex
        have x3:aI p σ1 σ2:=PO.ext.trans x2
        have h4:=h3.set (m':=m2) (d':=d) (b':=false) (c':=c2) (l':=l2) h3.at_ h.dp
        have x4:aI p σ1 (fD p w g all.length σ2 m2 d false c2 l2):=x3.trans PO.ext
        conv=>whnf
        refine ak (aj (T:=cu) rfl rfl (ah h3.obj) rfl) ?_
        conv=>whnf
        refine⟨(d:Int),by rw [wrap_i64 (by omega) (by omega)];omega,?_⟩
        conv=>whnf
        refine ak (aC (T:=cu) (jL w g all.length m2 d false c2 l2) rfl h3.obj rfl rfl (Nat.le_of_ble_eq_true rfl) rfl) ?_
        conv=>whnf
        refine ak (aj (T:=fA) rfl rfl (ah (htk _ x4)) rfl) ?_
        conv=>whnf
        refine ak (aj (T:=cu) rfl rfl (ah (htk _ x4)) rfl) ?_
        conv=>whnf
        have l4:=x4.len
        have Ym:=x2.len
        rw [bg] at Ym
        refine Fin.ref rfl (hQ _ _ _ _ _ _ (x1.trans (x4.new _ _)) (h4.new _ _) hm2 ?_)
        refine⟨_,0,.p0,.p o g' 0,.sl0,(by omega:σ.length≤(fD p w g all.length σ2 m2 d false c2 l2).length),rfl,aF _ _ _,rfl,?_,rfl⟩
        exact bJ.mono (fun i hi=>by rw [bg] at hi;omega) (fun i hi a ha=>at_new (PO.ext.get (by rw [bg] at hi;omega) ha) _ _) hex
     ·have h2:=h1.set (m':=m) (d':=d+1) (b':=true) (c':=3) (l':=t.l) h.at_ (by omega)
      rw [if_pos h64] at hQ
      conv=>whnf
      refine xY h2 ht fun o σ2 x2 h3=>?_
      have x3:aI p σ1 σ2:=PO.ext.trans x2
      have h4:=h3.set (m':=m) (d':=d) (b':=true) (c':=3) (l':=t.l) h3.at_ h.dp
      have x4:aI p σ1 (fD p w g all.length σ2 m d true 3 t.l):=x3.trans PO.ext
      conv=>whnf
      refine ak (aj (T:=cu) rfl rfl (ah h3.obj) rfl) ?_
      conv=>whnf
      refine⟨(d:Int),by rw [wrap_i64 (by omega) (by omega)];omega,?_⟩
      conv=>whnf
      refine ak (aC (T:=cu) (jL w g all.length m d true 3 t.l) rfl h3.obj rfl rfl (Nat.le_of_ble_eq_true rfl) rfl) ?_
      conv=>whnf
      refine ak (aj (T:=fA) rfl rfl (ah (htk _ x4)) rfl) ?_
      conv=>whnf
      refine ak (aj (T:=cu) rfl rfl (ah (htk _ x4)) rfl) ?_
      conv=>whnf
      exact Fin.ref rfl (hQ _ _ _ _ (x1.trans (x4.new _ _)) (h4.new _ _))
end
end Go.bP.YthoodopjoaigdaaGreatDoor
namespace Go.bP.YthoodopjoaigdaaGreatDoor
open Go.Proofs
set_option maxRecDepth 4000
theorem PE.to {p w g d:Nat} {all:List Tok} {σ σ1:St} {Q Q':AV→St→Prop} {r:Re Tr} (hQ:PE p w g all σ d Q r)(x1:aI p σ σ1)(k:∀o g' s,Q (.p o g' 0) s→Q' (.p o g' 0) s):PE p w g all σ1 d Q' r:=by
 cases r with
 | out=>trivial
 | bad c l=>exact fun o g' σ2 m2 x2 h2=>k _ _ _ (hQ o g' σ2 m2 (x1.trans x2) h2)
 | ok x ts=>exact fun o g' σ2 m2 c2 l2 x2 h2 hm hex=>k _ _ _ (hQ o g' σ2 m2 c2 l2 (x1.trans x2) h2 hm (bJ.mono (fun i hi=>Nat.le_trans x1.len hi) (fun i hi a ha=>ha) hex))
def ni (all:List Tok):Prop:=∀z∈all,z.k=2→(∀c∈z.s,48≤c.toNat∧c.toNat≤57)∧pO 0 z.s<4294967296∧z.s.length≤100000
section
variable {p w g:Nat} {all:List Tok} {n:Nat}
theorem Yn (hno:ni all)(ih:WE p w g all n)(d:Nat)(σ:St)(m c0 l0:Nat)(Q:AV→St→Prop)(h:PO p w g all σ m d false c0 l0)(hd:d≤64)(he:aS (all.drop m))(hn:10*(all.drop m).length+6≤n+1)(hQ:PE p w g all σ d Q (lS (n+1) d (all.drop m))):ay X 133 [.p p 0 0] σ Q:=by
 obtain⟨t,r,hts⟩:=he.ne
 obtain⟨ht,hr⟩:=aV hts
 have hm:=h.at_
 have hal:=h.len
 refine ay.body (F:=Xw) aH (lit:=false) rfl rfl (Nat.le_of_ble_eq_true rfl) ?_
 conv=>whnf
 refine ay.to (iD h ht) ?_
 conv=>whnf
 refine pV t h fun σ1 x1 h1 ht1 hl1=>?_
 have hpl:=aX h.obj
 have htk:∀s,aI p σ1 s→s[σ.length]? =some ⟨0,false,.cells 47 (fZ t.k t.s t.l)⟩:=fun s x=>x.get (by omega) ht1
 unfold lS at hQ
 rw [hts] at hQ
 simp only at hQ
 conv=>whnf
 refine ay.to (jg _ h1 ht) ?_
 cases hi1:dF [40] t with
 | true=>
   conv=>whnf
   rw [if_pos (show bf [40] (t :: r)=true from hi1),←hts] at hQ
   refine ih.with_ d [40] [41] σ1 m _ _ _ h1 hd he (by omega) (hQ.to x1 fun o g' s q=>?_)
   conv=>whnf
   exact Fin.ref rfl q
 | false=>
   rw [if_neg (by rw [show bf [40] (t :: r)=dF [40] t from rfl,hi1];decide)] at hQ
   conv=>whnf
   refine ak (aj (T:=cu) rfl rfl (ah ht1) rfl) ?_
   conv=>whnf
   by_cases hk:t.k=2
   ·rw [decide_eq_true (by omega)]
    rw [if_pos hk] at hQ
    obtain⟨n1,n2,n3⟩:=hno t (List.mem_of_getElem? ht) hk
    have he1:aS (all.drop (m+1)):=by rw [hr];rw [hts] at he;exact he.tail (by rw [hk];decide)
    have h2:=h1.set (m':=m+1) (d':=d) (b':=false) (c':=c0) (l':=l0) (iV he1) h.dp
    have x2:aI p σ1 (fD p w g all.length σ1 (m+1) d false c0 l0):=PO.ext
    conv=>whnf
    refine ak (aj (T:=kR) rfl rfl (ah h1.obj) rfl) ?_
    conv=>whnf
    refine ak (aj (T:=cu) rfl rfl (ah h1.obj) rfl) ?_
    conv=>whnf
    refine⟨((m+1:Nat):Int),by rw [wrap_i64 (by omega) (by omega)];omega,?_⟩
    conv=>whnf
    refine ak (aC (T:=cu) (jL w g all.length (m+1) d false c0 l0) rfl h1.obj rfl rfl (Nat.le_of_ble_eq_true rfl) rfl) ?_
    conv=>whnf
    refine ak (aj (T:=fA) rfl rfl (ah (htk _ x2)) rfl) ?_
    conv=>whnf
    refine ak (aj (T:=cu) rfl rfl (ah (htk _ x2)) rfl) ?_
    conv=>whnf
    refine ay.to (IV t.s n1 n3 n2 _) ?_
    conv=>whnf
    refine⟨?_,?_⟩
    ·conv=>whnf
     refine ak (aj (T:=cu) rfl rfl (ah (htk _ x2)) rfl) ?_
     rfl
    ·conv=>whnf
     refine Fin.ref rfl (hQ _ _ _ _ _ _ (x1.trans (x2.new _ _)) (h2.new _ _) hr ?_)
     exact⟨_,0,.p0,.p0,.sl0,by show σ.length≤(fD p w g all.length σ1 (m+1) d false c0 l0).length;rw [bg];exact x1.len,rfl,aF _ _ _,rfl,rfl,rfl⟩
   ·rw [decide_eq_false (by omega)]
    rw [if_neg hk] at hQ
    conv=>whnf
    refine ak (aj (T:=cu) rfl rfl (ah ht1) rfl) ?_
    conv=>whnf
    refine sJ h1 ht (fun hk1=>iV (by rw [hr];rw [hts] at he;exact he.tail (by rw [hk1];decide))) (fun hk1 σ2 x2 h2=>?_) (fun hk1 σ2 x2 h2=>?_)
    ·simp only [eP,if_pos hk1] at hQ
     conv=>whnf
     refine⟨?_,?_⟩
     ·conv=>whnf
      refine ak (aj (T:=cu) rfl rfl (ah (htk _ x2)) rfl) ?_
      rfl
     ·conv=>whnf
      refine Fin.ref rfl (hQ _ _ _ _ _ _ (x1.trans (x2.new _ _)) (h2.new _ _) hr ?_)
      exact⟨_,0,.p0,.p0,.sl0,by have:=x1.len;have:=x2.len;omega,rfl,aF _ _ _,rfl,rfl,rfl⟩
    ·simp only [eP,if_neg hk1] at hQ
     conv=>whnf
     refine⟨?_,?_⟩
     ·conv=>whnf
      refine ak (aj (T:=cu) rfl rfl (ah (htk _ x2)) rfl) ?_
      rfl
     ·conv=>whnf
      exact Fin.ref rfl (hQ _ _ _ _ (x1.trans (x2.new _ _)) (h2.new _ _))
end
end Go.bP.YthoodopjoaigdaaGreatDoor
namespace Go.bP.YthoodopjoaigdaaGreatDoor
open Go.Proofs
set_option maxRecDepth 4000
section
variable {p w g:Nat} {all:List Tok} {n:Nat}
theorem PL.ext {k j B d:Nat} {σ σ1:St} {Q:Out→Env→St→Prop} {r:Re Tr} (hQ:PL k j p w g all B σ d Q r)(x1:aI p σ σ1):PL k j p w g all B σ1 d Q r:=by
 cases r with
 | out=>trivial
 | bad c l=>exact fun o g' σ2 m2 e' q1 q2 x2 h2=>hQ o g' σ2 m2 e' q1 q2 (x1.trans x2) h2
 | ok x ts=>exact fun o g' σ2 m2 c2 l2 e' q1 x2 h2 hm hex=>hQ o g' σ2 m2 c2 l2 e' q1 (x1.trans x2) h2 hm hex
theorem bJ.ext {B:Nat} {σ σ1:St} {v:AV} {x:Tr} (h:bJ (fun i=>B≤i) σ v x)(x1:aI p σ σ1)(hp:p<B):bJ (fun i=>B≤i) σ1 v x:=bJ.mono (fun i hi=>hi) (fun i hi a ha=>x1.get (by omega) ha) h
theorem xZ {m d c l o g':Nat} {σ:St} {Q:Out→Env→St→Prop} (h:PO p w g all σ m d true c l)(q:∀e',get e' 3= .p o g' 0→get e' 1000000= .u→Q (.exit 0) e' σ):aW X [0,3] E5 [(0,.p p 0 0),(3,.p o g' 0)] σ Q:=by
 refine aW.round aH (lit:=false) ?_
 conv=>whnf
 refine ak (aj (T:=kR) rfl rfl (ah h.obj) rfl) ?_
 conv=>whnf
 exact q _ rfl rfl
theorem Vb (ih:WE p w g all n)(d B:Nat)(x:Tr)(σ:St)(m c0 l0 o g':Nat)(Q:Out→Env→St→Prop)(h:PO p w g all σ m d false c0 l0)(hd:d≤64)(hp:p<B)(hB:B≤σ.length)(hnx:Gp x)(hex:bJ (fun i=>B≤i) σ (.p o g' 0) x)(he:aS (all.drop m))(hn:10*(all.drop m).length+9≤n+1)
 (hQ:PL 2 3 p w g all B σ d Q (gU (n+1) d x (all.drop m))):aW X [0,3] E5 [(0,.p p 0 0),(3,.p o g' 0)] σ Q:=by
 obtain⟨t,r,hts⟩:=he.ne
 obtain⟨ht,hr⟩:=aV hts
 have hm:=h.at_
 refine aW.round aH (lit:=false) ?_
 conv=>whnf
 refine ak (aj (T:=kR) rfl rfl (ah h.obj) rfl) ?_
 conv=>whnf
 refine ay.to (iD h ht) ?_
 conv=>whnf
 refine pV t h fun σ1 x1 h1 ht1 hl1=>?_
 have hpl:=aX h.obj
 have htk:∀s,aI p σ1 s→s[σ.length]? =some ⟨0,false,.cells 47 (fZ t.k t.s t.l)⟩:=fun s x=>x.get (by omega) ht1
 unfold gU at hQ
 rw [hts] at hQ
 simp only at hQ
 conv=>whnf
 refine ay.to (jg _ h1 ht) ?_
 cases hi1:dF [91] t with
 | true=>
   conv=>whnf
   rw [if_pos (show bf [91] (t :: r)=true from hi1),←hts] at hQ
   have hg:=(iU n).with_ d [91] [93] (all.drop m) he (by omega)
   refine ih.with_ d [91] [93] σ1 m _ _ _ h1 hd he (by omega) ?_
   generalize jI n d [91] [93] (all.drop m)=r1 at hg hQ
   cases r1 with
   | out=>exact hg.elim
   | bad c l=>
     intro o2 g2 σ2 m2 x2 h2
     conv=>whnf
     refine ak (aj (T:=cu) rfl rfl (ah (htk _ x2)) rfl) ?_
     conv=>whnf
     exact xZ (h2.new _ _) fun e' q1 q2=>hQ _ _ _ _ e' q1 q2 (x1.trans (x2.new _ _)) (h2.new _ _)
   | ok y bH=>
     intro o2 g2 σ2 m2 c2 l2 x2 h2 hm2 qV
     conv=>whnf
     refine ak (aj (T:=cu) rfl rfl (ah (htk _ x2)) rfl) ?_
     conv=>whnf
     have hQ:PL 2 3 p w g all B σ d Q (gU n d (.ex 5 0 [] [] x y .nil t.l) bH):=hQ
     rw [←hm2] at hQ hg
     have Ym:=x2.len
     refine ih.m_ d B (.ex 5 0 [] [] x y .nil t.l) _ m2 c2 l2 σ2.length 0 Q (h2.new _ _) hd hp (by rw [aG];omega) trivial ⟨_,0,.p o g' 0,.p o2 g2 0,.sl0,(by omega:B≤σ2.length),rfl,aF _ _ _,?_,?_,rfl⟩ hg.2.1 (by have:=hg.2.2;omega) (hQ.ext (x1.trans (x2.new _ _)))
     ·exact hex.ext ((x1.trans x2).new _ _) hp
     ·exact bJ.mono (fun i hi=>by omega) (fun i hi a ha=>at_new ha _ _) qV
 | false=>
   rw [if_neg (by rw [show bf [91] (t :: r)=dF [91] t from rfl,hi1];decide)] at hQ
   conv=>whnf
   refine dn _ h1 ht (fun _ hi2=>?_) (fun hi2=>?_)
   ·rw [if_pos (show bf [58] (t :: r)=true from hi2),←hr] at hQ
    obtain⟨hm1,he1,hle⟩:=aN he hts hi2
    have h2':=h1.set (m':=m+1) (d':=d) (b':=false) (c':=c0) (l':=l0) hm1 h.dp
    have hg:=(iU n).cell d (all.drop (m+1)) he1 (by omega)
    conv=>whnf
    refine ih.cell d _ (m+1) _ _ _ h2' hd he1 (by omega) ?_
    generalize lS n d (all.drop (m+1))=r1 at hg hQ
    cases r1 with
    | out=>exact hg.elim
    | bad c l=>
      intro o2 g2 σ2 m2 x2' h2
      have x2:aI p σ1 σ2:=PO.ext.trans x2'
      conv=>whnf
      refine ak (aj (T:=cu) rfl rfl (ah (htk _ x2)) rfl) ?_
      conv=>whnf
      exact xZ (h2.new _ _) fun e' q1 q2=>hQ _ _ _ _ e' q1 q2 (x1.trans (x2.new _ _)) (h2.new _ _)
    | ok y bH=>
      intro o2 g2 σ2 m2 c2 l2 x2' h2 hm2 qV
      have x2:aI p σ1 σ2:=PO.ext.trans x2'
      conv=>whnf
      refine ak (aj (T:=cu) rfl rfl (ah (htk _ x2)) rfl) ?_
      conv=>whnf
      have hQ:PL 2 3 p w g all B σ d Q (gU n d (.ex 6 0 [] [] x y .nil t.l) bH):=hQ
      rw [←hm2] at hQ hg
      have Ym:=x2.len
      refine ih.m_ d B (.ex 6 0 [] [] x y .nil t.l) _ m2 c2 l2 σ2.length 0 Q (h2.new _ _) hd hp (by rw [aG];omega) trivial ⟨_,0,.p o g' 0,.p o2 g2 0,.sl0,(by omega:B≤σ2.length),rfl,aF _ _ _,?_,?_,rfl⟩ hg.2.1 (by have:=hg.2.2;omega) (hQ.ext (x1.trans (x2.new _ _)))
      ·exact hex.ext ((x1.trans x2).new _ _) hp
      ·exact bJ.mono (fun i hi=>by rw [bg] at hi;omega) (fun i hi a ha=>at_new ha _ _) qV
   ·rw [if_neg (by rw [show bf [58] (t :: r)=dF [58] t from rfl];simpa using hi2)] at hQ
    conv=>whnf
    exact hQ o g' σ1 m c0 l0 _ rfl x1 h1 hts (hex.ext x1 hp)
theorem PE.Ri {k j d:Nat} {σ σ1:St} {Q:AV→St→Prop} {Q':Out→Env→St→Prop} {r:Re Tr} (hQ:PE p w g all σ d Q r)(x1:aI p σ σ1)(kr:∀o g' s e',get e' k= .p o g' 0→Q (.p o g' 0) s→Q' .ret e' s)
 (kx:∀o g' s e',get e' j= .p o g' 0→get e' 1000000= .u→Q (.p o g' 0) s→Q' (.exit 0) e' s):PL k j p w g all σ.length σ1 d Q' r:=by
 cases r with
 | out=>trivial
 | bad c l=>exact fun o g' σ2 m2 e' q1 q2 x2 h2=>kx _ _ _ _ q1 q2 (hQ o g' σ2 m2 (x1.trans x2) h2)
 | ok x ts=>exact fun o g' σ2 m2 c2 l2 e' q1 x2 h2 hm hex=>kr _ _ _ _ q1 (hQ o g' σ2 m2 c2 l2 (x1.trans x2) h2 hm hex)
theorem Yo (ih:WE p w g all n)(d:Nat)(σ:St)(m c0 l0:Nat)(Q:AV→St→Prop)(h:PO p w g all σ m d false c0 l0)(hd:d≤64)(he:aS (all.drop m))(hn:10*(all.drop m).length+7≤n+1)(hQ:PE p w g all σ d Q (jV (n+1) d (all.drop m))):ay X 110 [.p p 0 0] σ Q:=by
 refine ay.body (F:=Ul) aH (lit:=false) rfl rfl (Nat.le_of_ble_eq_true rfl) ?_
 conv=>whnf
 unfold jV at hQ
 have hg:=(iU n).first d (all.drop m) he (by omega)
 refine ih.first d σ m _ _ _ h hd he (by omega) ?_
 generalize jk n d (all.drop m)=r1 at hg hQ
 cases r1 with
 | out=>exact hg.elim
 | bad c l=>
   intro o g' σ2 m2 x2 h2
   conv=>whnf
   refine xZ h2 fun e' q1 q2=>?_
   conv=>whnf
   rw [show dI.ev e' (.t 3)=get e' 3 from rfl,q1]
   conv=>whnf
   exact Fin.ref rfl (hQ _ _ _ _ x2 h2)
 | ok x bH=>
   intro o g' σ2 m2 c2 l2 x2 h2 hm2 hex
   have hQ:PE p w g all σ d Q (gU n d x bH):=hQ
   rw [←hm2] at hQ hg
   conv=>whnf
   have hlt:=hg.2.2
   refine ih.m_ d σ.length x σ2 m2 c2 l2 o g' _ h2 hd (aX h.obj) x2.len hg.1 hex hg.2.1 (by omega) (hQ.Ri x2 (fun o g' s e' q1 q=>?_) (fun o g' s e' q1 q2 q=>?_))
   ·conv=>whnf
    rw [q1]
    conv=>whnf
    exact Fin.ref rfl q
   ·conv=>whnf
    rw [show dI.ev e' (.t 3)=get e' 3 from rfl,q1]
    conv=>whnf
    exact Fin.ref rfl q
end
end Go.bP.YthoodopjoaigdaaGreatDoor
namespace Go.bP.YthoodopjoaigdaaGreatDoor
open Go.Proofs
set_option maxRecDepth 4000
theorem Es (s:List UInt8):gQ s≤6:=by
 unfold gQ
 repeat' split
 all_goals omega
section
variable {p w g:Nat} {all:List Tok} {n:Nat}
theorem IW {m d c l o g' k:Nat} {σ:St} {Q:Out→Env→St→Prop} (h:PO p w g all σ m d true c l)(q:∀e',get e' 5= .p o g' 0→get e' 1000000= .u→Q (.exit 0) e' σ):aW X [0,1,5] EZ [(0,.p p 0 0),(1,.i .i64 k),(5,.p o g' 0)] σ Q:=by
 refine aW.round aH (lit:=false) ?_
 conv=>whnf
 refine ak (aj (T:=kR) rfl rfl (ah h.obj) rfl) ?_
 conv=>whnf
 exact q _ rfl rfl
theorem Yp (ih:WE p w g all n)(d c B:Nat)(x:Tr)(σ:St)(m c0 l0 o g':Nat)(Q:Out→Env→St→Prop)(h:PO p w g all σ m d false c0 l0)(hd:d≤64)(hc8:c≤8)(hp:p<B)(hB:B≤σ.length)(hnx:Gp x)(hex:bJ (fun i=>B≤i) σ (.p o g' 0) x)(he:aS (all.drop m))(hn:10*(all.drop m).length+9≤n+1)
 (hQ:PL 4 5 p w g all B σ d Q (jU (n+1) d c x (all.drop m))):aW X [0,1,5] EZ [(0,.p p 0 0),(1,.i .i64 c),(5,.p o g' 0)] σ Q:=by
 obtain⟨t,r,hts⟩:=he.ne
 obtain⟨ht,hr⟩:=aV hts
 have hm:=h.at_
 have hal:=h.len
 have hb6:=Es t.s
 refine aW.round aH (lit:=false) ?_
 conv=>whnf
 refine ak (aj (T:=kR) rfl rfl (ah h.obj) rfl) ?_
 conv=>whnf
 refine ay.to (iD h ht) ?_
 conv=>whnf
 refine pV t h fun σ1 x1 h1 ht1 hl1=>?_
 have hpl:=aX h.obj
 have htk:∀s,aI p σ1 s→s[σ.length]? =some ⟨0,false,.cells 47 (fZ t.k t.s t.l)⟩:=fun s x=>x.get (by omega) ht1
 unfold jU at hQ
 rw [hts] at hQ
 simp only at hQ
 conv=>whnf
 refine ak (aj (T:=cu) rfl rfl (ah ht1) rfl) ?_
 conv=>whnf
 by_cases hk:t.k=3
 ·rw [decide_eq_true (by omega)]
  conv=>whnf
  refine ak (aj (T:=fA) rfl rfl (ah ht1) rfl) ?_
  conv=>whnf
  refine ay.to (Q_ t.s σ1) ?_
  conv=>whnf
  by_cases hb:gQ t.s<c
  ·rw [decide_eq_true (by omega)]
   rw [if_neg (fun e=>e.2.2 hb)] at hQ
   conv=>whnf
   exact hQ o g' σ1 m c0 l0 _ rfl x1 h1 hts (hex.ext x1 hp)
  ·rw [decide_eq_false (by omega)]
   conv=>whnf
   by_cases hz:gQ t.s=0
   ·rw [decide_eq_true (by omega)]
    rw [if_neg (fun e=>e.2.1 hz)] at hQ
    conv=>whnf
    exact hQ o g' σ1 m c0 l0 _ rfl x1 h1 hts (hex.ext x1 hp)
   ·rw [decide_eq_false (by omega)]
    rw [if_pos ⟨hk,hz,hb⟩,←hr] at hQ
    have he1:aS (all.drop (m+1)):=by rw [hr];rw [hts] at he;exact he.tail (by rw [hk];decide)
    have hle:(all.drop (m+1)).length<(all.drop m).length:=by rw [hr,hts];simp
    have h2':=h1.set (m':=m+1) (d':=d) (b':=false) (c':=c0) (l':=l0) (iV he1) h.dp
    have hg:=(iU n).expr d (gQ t.s+1) (all.drop (m+1)) he1 (by omega)
    conv=>whnf
    refine ak (aj (T:=cu) rfl rfl (ah h1.obj) rfl) ?_
    conv=>whnf
    refine⟨((m+1:Nat):Int),by rw [wrap_i64 (by omega) (by omega)];omega,?_⟩
    conv=>whnf
    refine ak (aC (T:=cu) (jL w g all.length (m+1) d false c0 l0) rfl h1.obj rfl rfl (Nat.le_of_ble_eq_true rfl) rfl) ?_
    conv=>whnf
    refine⟨((gQ t.s+1:Nat):Int),by rw [wrap_i64 (by omega) (by omega)];omega,?_⟩
    conv=>whnf
    refine ih.expr d (gQ t.s+1) _ (m+1) _ _ _ h2' hd (by omega) he1 (by omega) ?_
    generalize dQ n d (gQ t.s+1) (all.drop (m+1))=r1 at hg hQ
    cases r1 with
    | out=>exact hg.elim
    | bad c l=>
      intro o2 g2 σ2 m2 x2' h2
      have x2:aI p σ1 σ2:=PO.ext.trans x2'
      conv=>whnf
      refine ak (aj (T:=fA) rfl rfl (ah (htk _ x2)) rfl) ?_
      conv=>whnf
      refine ak (aj (T:=cu) rfl rfl (ah (htk _ x2)) rfl) ?_
      conv=>whnf
      exact IW (h2.new _ _) fun e' q1 q2=>hQ _ _ _ _ e' q1 q2 (x1.trans (x2.new _ _)) (h2.new _ _)
    | ok y bH=>
      intro o2 g2 σ2 m2 c2 l2 x2' h2 hm2 qV
      have x2:aI p σ1 σ2:=PO.ext.trans x2'
      conv=>whnf
      refine ak (aj (T:=fA) rfl rfl (ah (htk _ x2)) rfl) ?_
      conv=>whnf
      refine ak (aj (T:=cu) rfl rfl (ah (htk _ x2)) rfl) ?_
      conv=>whnf
      have hQ:PL 4 5 p w g all B σ d Q (jU n d c (.ex 3 0 [] t.s x y .nil t.l) bH):=hQ
      rw [←hm2] at hQ hg
      have Ym:=x2.len
      refine ih.loop d c B (.ex 3 0 [] t.s x y .nil t.l) _ m2 c2 l2 σ2.length 0 Q (h2.new _ _) hd hc8 hp (by rw [aG];omega) trivial ⟨_,0,.p o g' 0,.p o2 g2 0,.sl0,(by omega:B≤σ2.length),rfl,aF _ _ _,?_,?_,rfl⟩ hg.2.1 (by have:=hg.2.2;omega) (hQ.ext (x1.trans (x2.new _ _)))
      ·exact hex.ext ((x1.trans x2).new _ _) hp
      ·exact bJ.mono (fun i hi=>by have hi:(fD p w g all.length σ1 (m+1) d false c0 l0).length≤i:=hi;rw [bg] at hi;omega) (fun i hi a ha=>at_new ha _ _) qV
 ·rw [decide_eq_false (by omega)]
  rw [if_neg (fun e=>hk e.1)] at hQ
  conv=>whnf
  by_cases hb:0<c
  ·rw [decide_eq_true (by omega)]
   conv=>whnf
   exact hQ o g' σ1 m c0 l0 _ rfl x1 h1 hts (hex.ext x1 hp)
  ·rw [decide_eq_false (by omega)]
   conv=>whnf
   exact hQ o g' σ1 m c0 l0 _ rfl x1 h1 hts (hex.ext x1 hp)
theorem Yq (ih:WE p w g all n)(d c:Nat)(σ:St)(m c0 l0:Nat)(Q:AV→St→Prop)(h:PO p w g all σ m d false c0 l0)(hd:d≤64)(hc8:c≤8)(he:aS (all.drop m))(hn:10*(all.drop m).length+9≤n+1)(hQ:PE p w g all σ d Q (dQ (n+1) d c (all.drop m))):ay X 107 [.p p 0 0,.i .i64 c] σ Q:=by
 refine ay.body (F:=Uk) aH (lit:=false) rfl rfl (Nat.le_of_ble_eq_true rfl) ?_
 conv=>whnf
 unfold dQ at hQ
 have hg:=(iU n).un d (all.drop m) he (by omega)
 refine ih.un d σ m _ _ _ h hd he (by omega) ?_
 generalize FT n d (all.drop m)=r1 at hg hQ
 cases r1 with
 | out=>exact hg.elim
 | bad c l=>
   intro o g' σ2 m2 x2 h2
   conv=>whnf
   refine IW h2 fun e' q1 q2=>?_
   conv=>whnf
   rw [show dI.ev e' (.t 5)=get e' 5 from rfl,q1]
   conv=>whnf
   exact Fin.ref rfl (hQ _ _ _ _ x2 h2)
 | ok x bH=>
   intro o g' σ2 m2 c2 l2 x2 h2 hm2 hex
   have hQ:PE p w g all σ d Q (jU n d c x bH):=hQ
   rw [←hm2] at hQ hg
   conv=>whnf
   have hlt:=hg.2.2
   refine ih.loop d c σ.length x σ2 m2 c2 l2 o g' _ h2 hd hc8 (aX h.obj) x2.len hg.1 hex hg.2.1 (by omega) (hQ.Ri x2 (fun o g' s e' q1 q=>?_) (fun o g' s e' q1 q2 q=>?_))
   ·conv=>whnf
    rw [q1]
    conv=>whnf
    exact Fin.ref rfl q
   ·conv=>whnf
    rw [show dI.ev e' (.t 5)=get e' 5 from rfl,q1]
    conv=>whnf
    exact Fin.ref rfl q
end
end Go.bP.YthoodopjoaigdaaGreatDoor
namespace Go.bP.YthoodopjoaigdaaGreatDoor
open Go.Proofs
set_option maxRecDepth 4000
def Cj (B:Nat)(σ:St)(v:AV)(cs:List AV):Prop:=(cs=[]∧v= .sl0)∨∃o g,B≤o∧v= .sl o g 0 cs.length 1∧σ[o]? =some ⟨g,false,.cells 63 cs⟩∧cs≠[]
def apart (v:AV)(i:Nat):Prop:=∀o g n z,v= .sl o g 0 n z→i≠o
theorem zY {B:Nat} {σ:St} {v:AV} {cs:List AV} (h:Cj B σ v cs) {oy gy:Nat} (hcs:cs.all AV.one=true)(hl:cs.length≤100000) {C:Nat} (hC:σ[C]? =some ⟨0,false,.cells 63 [.p oy gy 0]⟩)(hB:B≤σ.length) {Q:AV→St→Prop}
 (q:∀v' σ',Cj B σ' v' (cs ++ [.p oy gy 0])→σ.length≤σ'.length→(∀i,i<σ.length→apart v i→σ'[i]? =σ[i]?∧apart v' i)→(∀i,i<B→σ'[i]? =σ[i]?)→(∀i,σ'.length≤i→apart v' i)→Q v' σ') :
 BH Ie.get false 66 v (.sl C 0 0 1 1) σ Q:=by
 constructor
 refine ak (v:=nN) rfl ?_
 refine ak (v:=bG) rfl ?_
 refine ak (jH hC (Nat.le_of_ble_eq_true rfl)) ?_
 rcases h with ⟨rfl,rfl⟩ | ⟨o,g,h1,rfl,h3,_⟩
 ·refine⟨Nat.le_of_ble_eq_true rfl,?_⟩
  refine q _ _ (.inr ⟨σ.length,0,hB,rfl,?_,by simp⟩) (by rw [aG];omega) (fun i hi _=>⟨dh hi,fun o g n z e=>by cases e;omega⟩) (fun i hi=>dh (by omega)) (fun i hi o g n z e=>by cases e;rw [aG] at hi;omega)
  rw [aF];rfl
 ·refine ak (oI h3) ?_
  refine⟨rfl,by simp,?_,by rw [List.drop_zero,List.take_of_length_le (by omega)];exact hcs,?_⟩
  ·show (cs.length+1)*8≤_;omega
  refine q _ _ (.inr ⟨o,g+1,h1,by simp,?_,by simp⟩) (by rw [List.length_set];exact Nat.le_refl _) (fun i hi ha=>⟨by rw [List.getElem?_set_ne (fun e=>ha o g _ _ rfl e.symm)],fun o' g' n z e=>by cases e;exact ha o g _ _ rfl⟩) (fun i hi=>by rw [List.getElem?_set_ne (by omega)]) (fun i hi o' g' n z e=>by cases e;rw [List.length_set] at hi;have:=aX h3;omega)
  rw [at_set h3]
  simp [List.take_of_length_le]
  rfl
def fJ (S:Nat→Prop)(σ:St):List AV→List Tr→Prop
 | [],[]=>True
 | a :: cs,x :: xs=>(∃o g,a= .p o g 0)∧bJ S σ a x∧fJ S σ cs xs
 | _,_=>False
theorem fJ.mono {S S':Nat→Prop} {σ σ':St} (h1:∀o,S o→S' o)(h2:∀o,S o→∀a,σ[o]? =some a→σ'[o]? =some a):∀{cs:List AV} {xs:List Tr},fJ S σ cs xs→fJ S' σ' cs xs
 | [],[],_=>trivial
 | a :: cs,x :: xs,h=>⟨h.1,bJ.mono h1 h2 h.2.1,fJ.mono h1 h2 h.2.2⟩
theorem fJ.snoc {S:Nat→Prop} {σ:St} :∀{cs:List AV} {xs:List Tr} {a:AV} {x:Tr},fJ S σ cs xs→(∃o g,a= .p o g 0)→bJ S σ a x→fJ S σ (cs ++ [a]) (xs ++ [x])
 | [],[],a,x,_,ha,hx=>⟨ha,hx,trivial⟩
 | b :: cs,y :: xs,a,x,h,ha,hx=>⟨h.1,h.2.1,fJ.snoc h.2.2 ha hx⟩
theorem fJ.len {S:Nat→Prop} {σ:St} :∀{cs:List AV} {xs:List Tr},fJ S σ cs xs→cs.length=xs.length
 | [],[],_=>rfl
 | a :: cs,x :: xs,h=>by have:=fJ.len h.2.2;simp [this]
theorem fJ.one {S:Nat→Prop} {σ:St} :∀{cs:List AV} {xs:List Tr},fJ S σ cs xs→cs.all AV.one=true
 | [],[],_=>rfl
 | a :: cs,x :: xs,h=>by
   obtain⟨o,g,rfl⟩:=h.1
   rw [List.all_cons,fJ.one h.2.2];rfl
def IX:List Tr→yV
 | []=>.nil
 | x :: xs=>.cons x (IX xs)
def qg:yV→List Tr
 | .nil=>[]
 | .cons x xs=>x :: qg xs
theorem Rj:∀xs:yV,IX (qg xs)=xs
 | .nil=>rfl
 | .cons x xs=>by show yV.cons x (IX (qg xs))=_;rw [Rj xs]
theorem fJ.argL {S:Nat→Prop} {σ:St} :∀{cs:List AV} {xs:List Tr},fJ S σ cs xs→qU S σ cs (IX xs)
 | [],[],_=>rfl
 | a :: cs,x :: xs,h=>⟨a,cs,rfl,h.2.1,fJ.argL h.2.2⟩
def jW (B:Nat)(σ:St)(v:AV)(xs:List Tr):Prop:=∃cs,Cj B σ v cs∧fJ (fun i=>B≤i∧apart v i) σ cs xs
theorem jW.arg {B:Nat} {σ:St} {v:AV} {xs:List Tr} (h:jW B σ v xs):jZ (fun i=>B≤i) σ v (IX xs):=by
 obtain⟨cs,h1,h2'⟩:=h
 have h2:fJ (fun i=>B≤i) σ cs xs:=h2'.mono (fun i hi=>hi.1) (fun i hi a ha=>ha)
 rcases h1 with ⟨rfl,rfl⟩ | ⟨o,g,q1,rfl,q3,q4⟩
 ·cases xs with
  | nil=>rfl
  | cons _ _=>exact h2.elim
 ·cases cs with
  | nil=>
    cases xs with
    | nil=>exact(q4 rfl).elim
    | cons _ _=>exact h2.elim
  | cons a cs=>
    cases xs with
    | nil=>exact h2.elim
    | cons x xs=>exact⟨o,g,a :: cs,q1,rfl,q3,a,cs,rfl,h2.2.1,h2.2.2.argL⟩
end Go.bP.YthoodopjoaigdaaGreatDoor
namespace Go.bP.YthoodopjoaigdaaGreatDoor
open Go.Proofs
set_option maxRecDepth 4000
structure n_ (p B:Nat)(σ σ':St):Prop where
 len:σ.length≤σ'.length
 old:∀i,i<B→i≠p→σ'[i]? =σ[i]?
theorem n_.refl (p B:Nat)(σ:St):n_ p B σ σ:=⟨Nat.le_refl _,fun _ _ _=>rfl⟩
theorem n_.trans {p B:Nat} {a b c:St} (h:n_ p B a b)(k:n_ p B b c):n_ p B a c:=⟨Nat.le_trans h.len k.len,fun i hi hp=>by rw [k.old i hi hp,h.old i hi hp]⟩
theorem n_.of {p B:Nat} {a b:St} (h:aI p a b)(hB:B≤a.length):n_ p B a b:=⟨h.len,fun i hi hp=>h.old i (by omega) hp⟩
def wK (v:AV):Prop:=v= .sl0∨∃o g n,v= .sl o g 0 n 1
section
variable {p w g:Nat} {all:List Tok} {n:Nat}
def PA (p w g tl:Nat)(nm:List UInt8)(all:List Tok)(B:Nat)(σ:St)(d:Nat)(acc:List Tr)(Q:Out→Env→St→Prop):Re yV→Prop
 | .ok xs ts=>∀v σ' m' c l e',get e' 0= .p p 0 0→get e' 3= .p tl 0 0→get e' 4= .s nm→get e' 5=v→get e' 1000000= .u→n_ p B σ σ'→PO p w g all σ' m' d false c l→all.drop m'= ts→jW B σ' v (acc ++ qg xs)→Q (.exit 0) e' σ'
 | .bad c l=>∀v σ' m' e',get e' 0= .p p 0 0→get e' 3= .p tl 0 0→get e' 4= .s nm→get e' 5=v→get e' 1000000= .u→n_ p B σ σ'→PO p w g all σ' m' d true c l→wK v→Q (.exit 0) e' σ'
 | .out=>True
theorem wL {m d c l tl:Nat} {nm:List UInt8} {v:AV} {σ:St} {Q:Out→Env→St→Prop} (h:PO p w g all σ m d true c l)(hv:wK v)
 (q:∀e',get e' 0= .p p 0 0→get e' 3= .p tl 0 0→get e' 4= .s nm→get e' 5=v→get e' 1000000= .u→Q (.exit 0) e' σ):aW X [0,3,4,5] Bl [(0,.p p 0 0),(3,.p tl 0 0),(4,.s nm),(5,v)] σ Q:=by
 rcases hv with rfl | ⟨o,g,k,rfl⟩
 all_goals
  refine aW.round aH (lit:=false) ?_
  conv=>whnf
  refine ak (aj (T:=kR) rfl rfl (ah h.obj) rfl) ?_
  conv=>whnf
  exact q _ rfl rfl rfl rfl rfl
theorem Cj.sl {B:Nat} {σ:St} {v:AV} {cs:List AV} (h:Cj B σ v cs):wK v:=by
 rcases h with ⟨_,rfl⟩ | ⟨o,g,_,rfl,_⟩
 ·exact .inl rfl
 ·exact .inr ⟨_,_,_,rfl⟩
theorem PO.keep {m d c l:Nat} {b:Bool} {σ σ':St} (h:PO p w g all σ m d b c l)(h1:σ'[p]? =σ[p]?)(h2:σ'[w]? =σ[w]?):PO p w g all σ' m d b c l:=⟨h1.trans h.obj,h2.trans h.tok,h.ne,h.len,h.at_,h.dp⟩
theorem fJ.below {S:Nat→Prop} {σ:St} :∀{cs:List AV} {xs:List Tr},fJ S σ cs xs→fJ (fun o=>S o∧o<σ.length) σ cs xs
 | [],[],_=>trivial
 | a :: cs,x :: xs,h=>⟨h.1,h.2.1.below,h.2.2.below⟩
theorem Yr (ih:WE p w g all n)(tl:Nat)(nm:List UInt8)(d B:Nat)(zy:∀(acc:List Tr) (v:AV) (σ:St) (m c0 l0:Nat) (Q:Out→Env→St→Prop),PO p w g all σ m d false c0 l0→B≤σ.length→jW B σ v acc→aS (all.drop m)→10*(all.drop m).length+10≤n→acc.length+(all.drop m).length≤40001→PA p w g tl nm all B σ d acc Q (fF n d acc.isEmpty (all.drop m))→aW X [0,3,4,5] Bl [(0,.p p 0 0),(3,.p tl 0 0),(4,.s nm),(5,v)] σ Q)
 (acc:List Tr) (v:AV) (σ:St) (m c0 l0:Nat) (Q:Out→Env→St→Prop) (h:PO p w g all σ m d false c0 l0) (hd:d≤64) (hp:p<B) (hw:w<B) (hB:B≤σ.length) (ha:jW B σ v acc) (he:aS (all.drop m)) (hn:10*(all.drop m).length+10≤n+1) (hs:acc.length+(all.drop m).length≤40001)
 (hQ:PA p w g tl nm all B σ d acc Q (fF (n+1) d acc.isEmpty (all.drop m))):aW X [0,3,4,5] Bl [(0,.p p 0 0),(3,.p tl 0 0),(4,.s nm),(5,v)] σ Q:=by
 obtain⟨t,r,hts⟩:=he.ne
 obtain⟨ht,hr⟩:=aV hts
 have hm:=h.at_
 have hal:=h.len
 unfold fF at hQ
 rw [hts] at hQ
 obtain⟨cs,hraw,hea⟩:=ha
 have hcl:=hea.len
 have hco:=hea.one
 rcases hraw with ⟨rfl,rfl⟩ | ⟨o,g',q1,rfl,q3,q4⟩
 ·obtain rfl:acc=[]:=by cases acc with | nil=>rfl | cons _ _=>cases hcl
  refine aW.round aH (lit:=false) ?_
  conv=>whnf
  refine ak (aj (T:=kR) rfl rfl (ah h.obj) rfl) ?_
  conv=>whnf
  refine ay.to (jg _ h ht) ?_
  cases hi:dF [41] t with
  | true=>
    conv=>whnf
    rw [if_pos (show bf [41] (t :: r)=true from hi)] at hQ
    exact hQ .sl0 σ m c0 l0 _ rfl rfl rfl rfl rfl (.refl _ _ _) h hts ⟨[],.inl ⟨rfl,rfl⟩,trivial⟩
  | false=>
    rw [if_neg (by rw [show bf [41] (t :: r)=dF [41] t from rfl,hi];decide),←hts] at hQ
    have hg:=(iU n).expr d 1 (all.drop m) he (by omega)
    have hQ:PA p w g tl nm all B σ d [] Q ((dQ n d 1 (all.drop m)).bind fun x ts=>(fF n d false ts).bind fun xs ts=>.ok (.cons x xs) ts):=hQ
    conv=>whnf
    refine ih.expr d 1 σ m _ _ _ h hd (by omega) he (by omega) ?_
    generalize dQ n d 1 (all.drop m)=r1 at hg hQ
    cases r1 with
    | out=>exact hg.elim
    | bad c l=>
      intro o2 g2 σ2 m2 x2 h2
      have l2:=x2.len
      conv=>whnf
      refine zY (B:=B) (cs:=[]) (.inl ⟨rfl,rfl⟩) rfl (by simp) (aF _ _ _) (by rw [aG];omega) fun v' σ3 hr3 hl3 ho3 hb3 Rk=>?_
      rw [aG] at hl3
      have h3:PO p w g all σ3 m2 d true c l:=(h2.new 63 [.p o2 g2 0]).keep (hb3 p hp) (hb3 w hw)
      have hsl:=hr3.sl
      obtain⟨o3,g3,p1,rfl,p3,p4⟩:=hr3.resolve_left (by simp)
      conv=>whnf
      exact wL h3 hsl fun e' e0 e3 e4 e5 e9=>hQ _ σ3 m2 e' e0 e3 e4 e5 e9 ⟨by omega,fun i hi fP=>by rw [hb3 i hi,dh (by omega),x2.old i (by omega) fP]⟩ h3 hsl
    | ok y bH=>
      intro o2 g2 σ2 m2 c2 l2 x2 h2 hm2 qV
      have lx:=x2.len
      conv=>whnf
      refine zY (B:=B) (cs:=[]) (.inl ⟨rfl,rfl⟩) rfl (by simp) (aF _ _ _) (by rw [aG];omega) fun v' σ3 hr3 hl3 ho3 hb3 Rk=>?_
      have h3:PO p w g all σ3 m2 d false c2 l2:=(h2.new 63 [.p o2 g2 0]).keep (hb3 p hp) (hb3 w hw)
      have hacc:jW B σ3 v' [y]:=⟨_,hr3,⟨_,_,rfl⟩,bJ.mono (fun i hi=>⟨by omega,(ho3 i (by rw [aG];omega) (fun _ _ _ _ e=>by cases e)).2⟩) (fun i hi a ha=>by rw [(ho3 i (by rw [aG];omega) (fun _ _ _ _ e=>by cases e)).1];exact at_new ha _ _) qV.below,trivial⟩
      rw [aG] at hl3
      have hx3:n_ p B σ σ3:=⟨by omega,fun i hi fP=>by rw [hb3 i hi,dh (by omega),x2.old i (by omega) fP]⟩
      have hQ:PA p w g tl nm all B σ d [] Q ((fF n d false bH).bind fun xs ts=>.ok (.cons y xs) ts):=hQ
      rw [←hm2] at hQ hg
      have hlt:=hg.2.2
      obtain⟨o3,g3,p1,rfl,p3,p4⟩:=hr3.resolve_left (by simp)
      conv=>whnf
      refine zy [y] _ σ3 m2 c2 l2 Q h3 (by omega) hacc hg.2.1 (by omega) (by simp only [List.length_cons,List.length_nil] at hs ⊢;omega) ?_
      show PA p w g tl nm all B σ3 d [y] Q (fF n d false (all.drop m2))
      generalize fF n d false (all.drop m2)=r2 at hQ
      cases r2 with
      | out=>trivial
      | bad c l=>exact fun v4 dZ m4 e' e0 e3 e4 e5 e9 x4=>hQ v4 dZ m4 e' e0 e3 e4 e5 e9 (hx3.trans x4)
      | ok xs zx=>exact fun v4 dZ m4 c4 l4 e' e0 e3 e4 e5 e9 x4 h4 hm4 sK=>hQ v4 dZ m4 c4 l4 e' e0 e3 e4 e5 e9 (hx3.trans x4) h4 hm4 sK
 ·have hcp:0<cs.length:=List.length_pos_iff.2 q4
  have hol:=aX q3
  have hne:acc.isEmpty=false:=by cases acc with | nil=>(simp only [List.length_nil] at hcl;omega) | cons _ _=>rfl
  rw [hne] at hQ
  have step:∀(σ2:St) (o2 g2:Nat) (x2:aI p σ σ2) (Q2:AV→St→Prop),(∀o3 g3 k σ3,Cj B σ3 (.sl o3 g3 0 k 1) (cs ++ [.p o2 g2 0])→n_ p B σ σ3→σ3[p]? =σ2[p]?→σ3[w]? =σ2[w]?→(∀(D:Nat) y,D≤σ2.length→σ.length≤D→bJ (fun i=>D≤i) σ2 (.p o2 g2 0) y→jW B σ3 (.sl o3 g3 0 k 1) (acc ++ [y]))→B≤σ3.length→Q2 (.sl o3 g3 0 k 1) σ3)→
        BH Ie.get false 66 (.sl o g' 0 cs.length 1) (.sl σ2.length 0 0 1 1) (au 63 [.p o2 g2 0] σ2) Q2:=by
   intro σ2 o2 g2 x2 Q2 q
   have lx:=x2.len
   refine zY (B:=B) (cs:=cs) (.inr ⟨o,g',q1,rfl,at_new (x2.get (by omega) q3) _ _,q4⟩) hco (by omega) (aF _ _ _) (by rw [aG];omega) fun v' σ3 hr3 hl3 ho3 hb3 Rk=>?_
   rw [aG] at hl3
   obtain⟨o3,g3,p1,rfl,p3,p4⟩:=hr3.resolve_left (by simp)
   refine q _ _ _ σ3 hr3 ⟨by omega,fun i hi fP=>by rw [hb3 i hi,dh (by omega),x2.old i (by omega) fP]⟩ (by rw [hb3 p hp,dh (by have:=aX h.obj;omega)]) (by rw [hb3 w hw,dh (by have:=aX h.tok;omega)]) (fun D y hD hD2 qV=>?_) (by omega)
   refine⟨_,hr3,fJ.snoc (fJ.mono (fun i hi=>⟨hi.1.1,(ho3 i (by rw [aG];omega) hi.1.2).2⟩) (fun i hi a ha=>by rw [(ho3 i (by rw [aG];omega) hi.1.2).1,dh (by omega),x2.old i hi.2 (by omega)];exact ha) hea.below) ⟨_,_,rfl⟩ (bJ.mono (fun i hi=>⟨by omega,(ho3 i (by rw [aG];omega) (fun _ _ _ _ e=>by cases e;omega)).2⟩) (fun i hi a ha=>by rw [(ho3 i (by rw [aG];omega) (fun _ _ _ _ e=>by cases e;omega)).1];exact at_new ha _ _) qV.below)⟩
  refine aW.round aH (lit:=false) ?_
  conv=>whnf
  refine ak (aj (T:=kR) rfl rfl (ah h.obj) rfl) ?_
  conv=>whnf
  refine ay.to (jg _ h ht) ?_
  cases hi:dF [41] t with
  | true=>
    conv=>whnf
    rw [if_pos (show bf [41] (t :: r)=true from hi)] at hQ
    exact hQ _ σ m c0 l0 _ rfl rfl rfl rfl rfl (.refl _ _ _) h hts ⟨cs,.inr ⟨o,g',q1,rfl,q3,q4⟩,by rw [show acc ++ qg .nil=acc from List.append_nil acc];exact hea⟩
  | false=>
    rw [if_neg (by rw [show bf [41] (t :: r)=dF [41] t from rfl,hi];decide),if_neg (by decide)] at hQ
    conv=>whnf
    rw [decide_eq_true (by omega)]
    conv=>whnf
    refine je _ h ht (fun hi2=>?_) (fun hi2=>?_)
    ·rw [aQ,if_pos (show bf [44] (t :: r)=true from hi2)] at hQ
     obtain⟨hm1,he1,hle⟩:=aN he hts hi2
     have h1:=h.set (m':=m+1) (d':=d) (b':=false) (c':=c0) (l':=l0) hm1 h.dp
     have hg:=(iU n).expr d 1 (all.drop (m+1)) he1 (by omega)
     have hQ:PA p w g tl nm all B σ d acc Q ((dQ n d 1 r).bind fun x ts=>(fF n d false ts).bind fun xs ts=>.ok (.cons x xs) ts):=hQ
     rw [←hr] at hQ
     conv=>whnf
     refine ih.expr d 1 _ (m+1) _ _ _ h1 hd (by omega) he1 (by omega) ?_
     generalize dQ n d 1 (all.drop (m+1))=r1 at hg hQ
     cases r1 with
     | out=>exact hg.elim
     | bad c l=>
       intro o2 g2 σ2 m2 x2' h2
       conv=>whnf
       refine step σ2 o2 g2 (PO.ext.trans x2') _ fun o3 g3 k σ3 hr3 hx3 e1 e2 _ _=>?_
       have h3:=h2.keep e1 e2
       conv=>whnf
       exact wL h3 hr3.sl fun e' e0 e3 e4 e5 e9=>hQ _ σ3 m2 e' e0 e3 e4 e5 e9 hx3 h3 hr3.sl
     | ok y bH=>
       intro o2 g2 σ2 m2 c2 l2 x2' h2 hm2 qV
       have lx':=x2'.len
       rw [bg] at lx'
       conv=>whnf
       refine step σ2 o2 g2 (PO.ext.trans x2') _ fun o3 g3 k σ3 hr3 hx3 e1 e2 hac hB3=>?_
       have h3:=h2.keep e1 e2
       have hacc:=hac _ y (by rw [bg];exact lx') (by rw [bg];exact Nat.le_refl _) qV
       have hQ:PA p w g tl nm all B σ d acc Q ((fF n d false bH).bind fun xs ts=>.ok (.cons y xs) ts):=hQ
       rw [←hm2] at hQ hg
       have hlt:=hg.2.2
       conv=>whnf
       refine zy (acc ++ [y]) _ σ3 m2 c2 l2 Q h3 hB3 hacc hg.2.1 (by omega) (by rw [List.length_append];simp only [List.length_cons,List.length_nil];omega) ?_
       rw [show (acc ++ [y]).isEmpty=false by cases acc <;> rfl]
       generalize fF n d false (all.drop m2)=r2 at hQ
       cases r2 with
       | out=>trivial
       | bad c l=>exact fun v4 dZ m4 e' e0 e3 e4 e5 e9 x4=>hQ v4 dZ m4 e' e0 e3 e4 e5 e9 (hx3.trans x4)
       | ok xs zx=>exact fun v4 dZ m4 c4 l4 e' e0 e3 e4 e5 e9 x4 h4 hm4 sK=>hQ v4 dZ m4 c4 l4 e' e0 e3 e4 e5 e9 (hx3.trans x4) h4 hm4 (by rw [List.append_assoc] at sK;exact sK)
    ·rw [aQ,if_neg (by rw [show bf [44] (t :: r)=dF [44] t from rfl,hi2];decide)] at hQ
     have h1:=h.set (m':=m) (d':=d) (b':=true) (c':=4) (l':=t.l) h.at_ h.dp
     conv=>whnf
     refine Ci 1 h1 ht fun o2 σ2 x2' h2=>?_
     conv=>whnf
     refine step σ2 o2 0 (PO.ext.trans x2') _ fun o3 g3 k σ3 hr3 hx3 e1 e2 _ _=>?_
     have h3:=h2.keep e1 e2
     conv=>whnf
     exact wL h3 hr3.sl fun e' e0 e3 e4 e5 e9=>hQ _ σ3 m e' e0 e3 e4 e5 e9 hx3 h3 hr3.sl
end
end Go.bP.YthoodopjoaigdaaGreatDoor
namespace Go.bP.YthoodopjoaigdaaGreatDoor
open Go.Proofs
set_option maxRecDepth 4000
section
variable {p w g:Nat} {all:List Tok} {n:Nat}
def zZ (p w g:Nat)(all:List Tok)(n:Nat):Prop:=∀(tl:Nat) (nm:List UInt8) (d B:Nat),d≤64→p<B→w<B→∀(acc:List Tr) (v:AV) (σ:St) (m c0 l0:Nat) (Q:Out→Env→St→Prop),PO p w g all σ m d false c0 l0→B≤σ.length→jW B σ v acc→aS (all.drop m)→10*(all.drop m).length+10≤n→acc.length+(all.drop m).length≤40001→PA p w g tl nm all B σ d acc Q (fF n d acc.isEmpty (all.drop m))→aW X [0,3,4,5] Bl [(0,.p p 0 0),(3,.p tl 0 0),(4,.s nm),(5,v)] σ Q
theorem Rl (ih:WE p w g all n)(zy:zZ p w g all n):zZ p w g all (n+1):=fun tl nm d B hd hp hw acc v σ m c0 l0 Q h hB ha he hn hs hQ=>Yr ih tl nm d B (zy tl nm d B hd hp hw) acc v σ m c0 l0 Q h hd hp hw hB ha he hn hs hQ
theorem Vd (hno:ni all)(ih:WE p w g all n)(zy:zZ p w g all n)(d:Nat)(σ:St)(m c0 l0:Nat)(Q:AV→St→Prop)(h:PO p w g all σ m d false c0 l0)(hd:d≤64)(he:aS (all.drop m))(hn:10*(all.drop m).length+6≤n+1)(hQ:PE p w g all σ d Q (jk (n+1) d (all.drop m))):ay X 131 [.p p 0 0] σ Q:=by
 obtain⟨t,r,hts⟩:=he.ne
 obtain⟨ht,hr⟩:=aV hts
 have hm:=h.at_
 have hal:=h.len
 refine ay.body (F:=Us) aH (lit:=false) rfl rfl (Nat.le_of_ble_eq_true rfl) ?_
 conv=>whnf
 refine ay.to (iD h ht) ?_
 conv=>whnf
 refine pV t h fun σ1 x1 h1 ht1 hl1=>?_
 have hpl:=aX h.obj
 have hwl:=aX h.tok
 have htk:∀s,aI p σ1 s→s[σ.length]? =some ⟨0,false,.cells 47 (fZ t.k t.s t.l)⟩:=fun s x=>x.get (by omega) ht1
 unfold jk at hQ
 rw [hts] at hQ
 simp only at hQ
 conv=>whnf
 refine ay.to (jg _ h1 ht) ?_
 cases hi1:dF [40] t with
 | true=>
   conv=>whnf
   rw [if_pos (show bf [40] (t :: r)=true from hi1),←hts] at hQ
   refine ih.with_ d [40] [41] σ1 m _ _ _ h1 hd he (by omega) (hQ.to x1 fun o g' s q=>?_)
   conv=>whnf
   exact Fin.ref rfl q
 | false=>
   rw [if_neg (by rw [show bf [40] (t :: r)=dF [40] t from rfl,hi1];decide)] at hQ
   conv=>whnf
   refine dn _ h1 ht (fun _ hi2=>?_) (fun hi2=>?_)
   ·rw [if_pos (show bf IU (t :: r)=true from hi2),←hr] at hQ
    obtain⟨hm1,he1,hle⟩:=aN he hts hi2
    have h2':=h1.set (m':=m+1) (d':=d) (b':=false) (c':=c0) (l':=l0) hm1 h.dp
    have hg:=(iU n).with_ d [40] [41] (all.drop (m+1)) he1 (by omega)
    conv=>whnf
    refine ak (aj (T:=cu) rfl rfl (ah (htk _ PO.ext)) rfl) ?_
    conv=>whnf
    refine ih.with_ d [40] [41] _ (m+1) _ _ _ h2' hd he1 (by omega) ?_
    generalize jI n d [40] [41] (all.drop (m+1))=r1 at hg hQ
    cases r1 with
    | out=>exact hg.elim
    | bad c l=>
      intro o2 g2 σ2 m2 x2' h2
      have x2:aI p σ1 σ2:=PO.ext.trans x2'
      conv=>whnf
      refine⟨?_,?_⟩
      ·conv=>whnf
       refine ak (aj (T:=cu) rfl rfl (ah (htk _ x2)) rfl) ?_
       rfl
      ·conv=>whnf
       exact Fin.ref rfl (hQ _ _ _ _ (x1.trans (x2.new _ _)) (h2.new _ _))
    | ok y bH=>
      intro o2 g2 σ2 m2 c2 l2 x2' h2 hm2 qV
      have x2:aI p σ1 σ2:=PO.ext.trans x2'
      have hQ:PE p w g all σ d Q (.ok (.ex 7 0 [] [] y .nil .nil t.l) bH):=hQ
      conv=>whnf
      refine⟨?_,?_⟩
      ·conv=>whnf
       refine ak (aj (T:=cu) rfl rfl (ah (htk _ x2)) rfl) ?_
       rfl
      ·conv=>whnf
       have Ym:=x2.len
       refine Fin.ref rfl (hQ _ _ _ _ _ _ (x1.trans (x2.new _ _)) (h2.new _ _) hm2 ⟨_,0,.p o2 g2 0,.p0,.sl0,(by omega:σ.length≤σ2.length),rfl,aF _ _ _,?_,rfl,rfl⟩)
       exact bJ.mono (fun i hi=>by have hi:(fD p w g all.length σ1 (m+1) d false c0 l0).length≤i:=hi;rw [bg] at hi;omega) (fun i hi a ha=>at_new ha _ _) qV
   ·rw [if_neg (by rw [show bf IU (t :: r)=dF [110,101,119] t from rfl];simpa using hi2)] at hQ
    conv=>whnf
    refine dn _ h1 ht (fun _ hi3=>?_) (fun hi3=>?_)
    ·rw [if_pos (show bf Yj (t :: r)=true from hi3),←hr] at hQ
     obtain⟨hm1,he1,hle⟩:=aN he hts hi3
     obtain⟨t2,r2,eU⟩:=he1.ne
     obtain⟨ht2,hr2⟩:=aV eU
     have h2:=h1.set (m':=m+1) (d':=d) (b':=false) (c':=c0) (l':=l0) hm1 h.dp
     have fin:∀(σ2:St),aI p σ1 σ2→σ2[σ.length]? =some ⟨0,false,.cells 47 (fZ t.k t.s t.l)⟩:=htk
     unfold gG at hQ
     rw [eU] at hQ
     conv=>whnf
     refine pU _ h2 ht2 (by omega) (fun hi=>(aN he1 eU hi).1) (fun hi h64=>?_) (fun hi h64=>?_) (fun hi=>?_)
     ·rw [if_neg (by omega),aQ,if_pos (show bf [40] (t2 :: r2)=true from hi)] at hQ
      have hQ:PE p w g all σ d Q ((aQ [41] r2).bind fun _ ts=>.ok (.ex 8 0 [] [] .nil .nil .nil t.l) ts):=hQ
      obtain⟨IY,he3,hle3⟩:=aN he1 eU hi
      have h3:=h2.set (m':=m+1+1) (d':=d+1) (b':=false) (c':=c0) (l':=l0) IY (by omega)
      obtain⟨t3,r3,jl⟩:=he3.ne
      obtain⟨ht3,hr3⟩:=aV jl
      rw [←hr2,jl] at hQ
      conv=>whnf
      refine wJ _ h3 ht3 (fun hi=>(aN he3 jl hi).1) (fun hi4=>?_) (fun hi4=>?_)
      ·rw [aQ,if_pos (show bf [41] (t3 :: r3)=true from hi4)] at hQ
       have h4:=h3.set (m':=m+1+1+1) (d':=d) (b':=false) (c':=c0) (l':=l0) (aN he3 jl hi4).1 h.dp
       have x4:aI p σ1 _:=(PO.ext.trans PO.ext).trans (PO.ext (σ:=fD p w g all.length (fD p w g all.length σ1 (m+1) d false c0 l0) (m+1+1) (d+1) false c0 l0) (w:=w) (g:=g) (n:=all.length) (m:=m+1+1+1) (d:=d) (b:=false) (c:=c0) (l:=l0))
       conv=>whnf
       refine ak (aj (T:=cu) rfl rfl (ah (htk _ x4)) rfl) ?_
       conv=>whnf
       refine Fin.ref rfl (hQ _ _ _ _ _ _ (x1.trans (x4.new _ _)) (h4.new _ _) hr3 ?_)
       exact⟨_,0,.p0,.p0,.sl0,Nat.le_trans x1.len x4.len,rfl,aF _ _ _,rfl,rfl,rfl⟩
      ·rw [aQ,if_neg (by rw [show bf [41] (t3 :: r3)=dF [41] t3 from rfl,hi4];decide)] at hQ
       have h4:=h3.set (m':=m+1+1) (d':=d) (b':=true) (c':=4) (l':=t3.l) IY h.dp
       have x4:aI p σ1 _:=(PO.ext.trans PO.ext).trans (PO.ext (σ:=fD p w g all.length (fD p w g all.length σ1 (m+1) d false c0 l0) (m+1+1) (d+1) false c0 l0) (w:=w) (g:=g) (n:=all.length) (m:=m+1+1) (d:=d) (b:=true) (c:=4) (l:=t3.l))
       conv=>whnf
       refine ak (aj (T:=cu) rfl rfl (ah (htk _ x4)) rfl) ?_
       conv=>whnf
       exact Fin.ref rfl (hQ _ _ _ _ (x1.trans (x4.new _ _)) (h4.new _ _))
     ·rw [if_pos ⟨show bf [40] (t2 :: r2)=true from hi,h64⟩] at hQ
      have h3:=h2.set (m':=m+1) (d':=d+1) (b':=true) (c':=3) (l':=t2.l) hm1 (by omega)
      have h4:=h3.set (m':=m+1) (d':=d) (b':=true) (c':=3) (l':=t2.l) hm1 h.dp
      have x4:aI p σ1 _:=(PO.ext.trans PO.ext).trans (PO.ext (σ:=fD p w g all.length (fD p w g all.length σ1 (m+1) d false c0 l0) (m+1) (d+1) true 3 t2.l) (w:=w) (g:=g) (n:=all.length) (m:=m+1) (d:=d) (b:=true) (c:=3) (l:=t2.l))
      conv=>whnf
      refine gI _ h3 ht2 ?_
      conv=>whnf
      refine ak (aj (T:=cu) rfl rfl (ah (htk _ x4)) rfl) ?_
      conv=>whnf
      exact Fin.ref rfl (hQ _ _ _ _ (x1.trans (x4.new _ _)) (h4.new _ _))
     ·rw [if_neg (fun e=>by have:=e.1;rw [show bf [40] (t2 :: r2)=dF [40] t2 from rfl,hi] at this;cases this),aQ,if_neg (by rw [show bf [40] (t2 :: r2)=dF [40] t2 from rfl,hi];decide)] at hQ
      have h3:=h2.set (m':=m+1) (d':=d+1) (b':=true) (c':=4) (l':=t2.l) hm1 (by omega)
      have h4:=h3.set (m':=m+1) (d':=d) (b':=true) (c':=4) (l':=t2.l) hm1 h.dp
      have x4:aI p σ1 _:=(PO.ext.trans PO.ext).trans (PO.ext (σ:=fD p w g all.length (fD p w g all.length σ1 (m+1) d false c0 l0) (m+1) (d+1) true 4 t2.l) (w:=w) (g:=g) (n:=all.length) (m:=m+1) (d:=d) (b:=true) (c:=4) (l:=t2.l))
      conv=>whnf
      refine gI _ h3 ht2 ?_
      conv=>whnf
      refine ak (aj (T:=cu) rfl rfl (ah (htk _ x4)) rfl) ?_
      conv=>whnf
      exact Fin.ref rfl (hQ _ _ _ _ (x1.trans (x4.new _ _)) (h4.new _ _))
    ·rw [if_neg (by rw [show bf Yj (t :: r)=dF [105,110] t from rfl];simpa using hi3)] at hQ
     conv=>whnf
     refine ak (aj (T:=cu) rfl rfl (ah ht1) rfl) ?_
     conv=>whnf
     by_cases hk:t.k=2
     ·rw [decide_eq_true (by omega)]
      rw [if_pos hk] at hQ
      obtain⟨n1,n2,n3⟩:=hno t (List.mem_of_getElem? ht) hk
      have he1:aS (all.drop (m+1)):=by rw [hr];rw [hts] at he;exact he.tail (by rw [hk];decide)
      have h2:=h1.set (m':=m+1) (d':=d) (b':=false) (c':=c0) (l':=l0) (iV he1) h.dp
      have x2:aI p σ1 (fD p w g all.length σ1 (m+1) d false c0 l0):=PO.ext
      conv=>whnf
      refine ak (aj (T:=kR) rfl rfl (ah h1.obj) rfl) ?_
      conv=>whnf
      refine ak (aj (T:=cu) rfl rfl (ah h1.obj) rfl) ?_
      conv=>whnf
      refine⟨((m+1:Nat):Int),by rw [wrap_i64 (by omega) (by omega)];omega,?_⟩
      conv=>whnf
      refine ak (aC (T:=cu) (jL w g all.length (m+1) d false c0 l0) rfl h1.obj rfl rfl (Nat.le_of_ble_eq_true rfl) rfl) ?_
      conv=>whnf
      refine ak (aj (T:=fA) rfl rfl (ah (htk _ x2)) rfl) ?_
      conv=>whnf
      refine ak (aj (T:=cu) rfl rfl (ah (htk _ x2)) rfl) ?_
      conv=>whnf
      refine ay.to (IV t.s n1 n3 n2 _) ?_
      conv=>whnf
      refine⟨?_,?_⟩
      ·conv=>whnf
       refine ak (aj (T:=cu) rfl rfl (ah (htk _ x2)) rfl) ?_
       rfl
      ·conv=>whnf
       refine Fin.ref rfl (hQ _ _ _ _ _ _ (x1.trans (x2.new _ _)) (h2.new _ _) hr ?_)
       exact⟨_,0,.p0,.p0,.sl0,by show σ.length≤(fD p w g all.length σ1 (m+1) d false c0 l0).length;rw [bg];exact x1.len,rfl,aF _ _ _,rfl,rfl,rfl⟩
     ·rw [decide_eq_false (by omega)]
      rw [if_neg hk] at hQ
      conv=>whnf
      refine sJ h1 ht (fun hk1=>iV (by rw [hr];rw [hts] at he;exact he.tail (by rw [hk1];decide))) (fun hk1 σ2 x2 h2=>?_) (fun hk1 σ2 x2 h2=>?_)
      ·have he1:aS (all.drop (m+1)):=by rw [hr];rw [hts] at he;exact he.tail (by rw [hk1];decide)
       have hle:(all.drop (m+1)).length<(all.drop m).length:=by rw [hr,hts];simp
       obtain⟨t2,r2,eU⟩:=he1.ne
       obtain⟨ht2,hr2⟩:=aV eU
       simp only [eP,if_pos hk1] at hQ
       have hQ:PE p w g all σ d Q (if bf [40] r=true then(gG [40] d r).bind fun _ ts=>(fF n (d+1) true ts).bind fun a ts=>(aQ [41] ts).bind fun _ ts=>.ok (.ex 4 0 t.s [] .nil .nil a t.l) ts else .ok (yX t.s t.l) r):=hQ
       rw [←hr,eU] at hQ
       conv=>whnf
       refine ay.to (jg _ h2 ht2) ?_
       cases hi4:dF [40] t2 with
       | false=>
         rw [if_neg (by rw [show bf [40] (t2 :: r2)=dF [40] t2 from rfl,hi4];decide)] at hQ
         conv=>whnf
         refine ak (aj (T:=cu) rfl rfl (ah (htk _ x2)) rfl) ?_
         conv=>whnf
         refine Fin.ref rfl (hQ _ _ _ _ _ _ (x1.trans (x2.new _ _)) (h2.new _ _) eU ?_)
         exact⟨_,0,.p0,.p0,.sl0,Nat.le_trans x1.len x2.len,rfl,aF _ _ _,rfl,rfl,rfl⟩
       | true=>
         rw [if_pos (show bf [40] (t2 :: r2)=true from hi4)] at hQ
         conv=>whnf
         unfold gG at hQ
         refine pU _ h2 ht2 (by omega) (fun hi=>(aN he1 eU hi).1) (fun hi h64=>?_) (fun hi h64=>?_) (fun hi=>by rw [hi] at hi4;cases hi4)
         ·rw [if_neg (by omega),aQ,if_pos (show bf [40] (t2 :: r2)=true from hi)] at hQ
          have hQ:PE p w g all σ d Q ((fF n (d+1) true r2).bind fun a ts=>(aQ [41] ts).bind fun _ ts=>.ok (.ex 4 0 t.s [] .nil .nil a t.l) ts):=hQ
          obtain⟨IY,he3,hle3⟩:=aN he1 eU hi
          have h3:=h2.set (m':=m+1+1) (d':=d+1) (b':=false) (c':=c0) (l':=l0) IY (by omega)
          have hg:=(iU n).args (d+1) true (all.drop (m+1+1)) he3 (by omega)
          have lx2:=x2.len
          have hall:(all.drop (m+1+1)).length≤40000:=by rw [List.length_drop];omega
          rw [←hr2] at hQ
          conv=>whnf
          refine zy σ.length t.s (d+1) σ2.length (by omega) (by omega) (by omega) [] .sl0 _ (m+1+1) c0 l0 _ h3 (by rw [bg];exact Nat.le_refl _) ⟨[],.inl ⟨rfl,rfl⟩,trivial⟩ he3 (by omega) (by simp only [List.length_nil];omega) ?_
          show PA p w g σ.length t.s all σ2.length _ (d+1) [] _ (fF n (d+1) true (all.drop (m+1+1)))
          generalize fF n (d+1) true (all.drop (m+1+1))=r1 at hg hQ
          cases r1 with
          | out=>exact hg.elim
          | bad c l=>
            intro v4 dZ m4 e' e0 e3 e4 e5 e9 x4 h4 hsl
            obtain⟨t4,FW⟩:∃t4,all[m4]? =some t4:=⟨_,List.getElem?_eq_getElem h4.at_⟩
            have h5:=h4.set (m':=m4) (d':=d) (b':=true) (c':=c) (l':=l) h4.at_ h.dp
            have hx4:aI p σ2 dZ:=⟨by have:=x4.len;rw [bg] at this;exact this,fun i hi fP=>by rw [x4.old i hi fP];exact PO.ext.old i hi fP⟩
            have x5:aI p σ1 (fD p w g all.length dZ m4 d true c l):=(x2.trans hx4).trans PO.ext
            conv=>whnf
            rw [show dI.ev e' (.t 0)=get e' 0 from rfl,e0]
            conv=>whnf
            refine gI _ h4 FW ?_
            conv=>whnf
            have k3:get (put (some 87) (AV.tu []) (put (some 86) (.p p 0 0) e')) 3= .p σ.length 0 0:=e3
            have k4:get (put (some 87) (AV.tu []) (put (some 86) (.p p 0 0) e')) 4= .s t.s:=e4
            have k5:get (put (some 87) (AV.tu []) (put (some 86) (.p p 0 0) e')) 5=v4:=e5
            erw [k3]
            conv=>whnf
            erw [k4]
            conv=>whnf
            erw [k5]
            rcases hsl with rfl | ⟨o5,g5,n5,rfl⟩
            all_goals
              conv=>whnf
              refine ak (aj (T:=cu) rfl rfl (ah (htk _ x5)) rfl) ?_
              conv=>whnf
              exact Fin.ref rfl (hQ _ _ _ _ (x1.trans (x5.new _ _)) (h5.new _ _))
          | ok xs zx=>
            intro v4 dZ m4 c4 l4 e' e0 e3 e4 e5 e9 x4 h4 hm4 hac
            have he4:aS (all.drop m4):=by rw [hm4];exact hg.2.1
            obtain⟨t4,r4,ny⟩:=he4.ne
            obtain⟨FW,hr4⟩:=aV ny
            have hx4:aI p σ2 dZ:=⟨by have:=x4.len;rw [bg] at this;exact this,fun i hi fP=>by rw [x4.old i hi fP];exact PO.ext.old i hi fP⟩
            have hsl:wK v4:=by obtain⟨cs4,hr5,_⟩:=hac;exact hr5.sl
            have harg:=hac.arg
            rw [show ([]:List Tr) ++ qg xs=qg xs from rfl,Rj] at harg
            have hQ:PE p w g all σ d Q ((aQ [41] zx).bind fun _ ts=>.ok (.ex 4 0 t.s [] .nil .nil xs t.l) ts):=hQ
            rw [←hm4,ny] at hQ
            have k3:get (put (some 87) (AV.tu []) (put (some 86) (.p p 0 0) e')) 3= .p σ.length 0 0:=e3
            have k4:get (put (some 87) (AV.tu []) (put (some 86) (.p p 0 0) e')) 4= .s t.s:=e4
            have k5:get (put (some 87) (AV.tu []) (put (some 86) (.p p 0 0) e')) 5=v4:=e5
            conv=>whnf
            rw [show dI.ev e' (.t 0)=get e' 0 from rfl,e0]
            conv=>whnf
            refine wJ _ h4 FW (fun hi=>(aN he4 ny hi).1) (fun hi5=>?_) (fun hi5=>?_)
            ·rw [aQ,if_pos (show bf [41] (t4 :: r4)=true from hi5)] at hQ
             have h5:=h4.set (m':=m4+1) (d':=d) (b':=false) (c':=c4) (l':=l4) (aN he4 ny hi5).1 h.dp
             have x5:aI p σ1 (fD p w g all.length dZ (m4+1) d false c4 l4):=(x2.trans hx4).trans PO.ext
             have l1:=x1.len
             have l5:=x5.len
             conv=>whnf
             erw [k3]
             conv=>whnf
             erw [k4]
             conv=>whnf
             erw [k5]
             rcases hsl with rfl | ⟨o5,g5,n5,rfl⟩
             all_goals
              conv=>whnf
              refine ak (aj (T:=cu) rfl rfl (ah (htk _ x5)) rfl) ?_
              conv=>whnf
              refine Fin.ref rfl (hQ _ _ _ _ _ _ (x1.trans (x5.new _ _)) (h5.new _ _) hr4 ⟨_,0,.p0,.p0,_,Nat.le_trans l1 l5,rfl,aF _ _ _,rfl,rfl,jZ.mono (fun i hi=>by omega) (fun i hi a ha=>at_new (PO.ext.get (by omega) ha) _ _) harg⟩)
            ·rw [aQ,if_neg (by rw [show bf [41] (t4 :: r4)=dF [41] t4 from rfl,hi5];decide)] at hQ
             have h5:=h4.set (m':=m4) (d':=d) (b':=true) (c':=4) (l':=t4.l) h4.at_ h.dp
             have x5:aI p σ1 (fD p w g all.length dZ m4 d true 4 t4.l):=(x2.trans hx4).trans PO.ext
             conv=>whnf
             erw [k3]
             conv=>whnf
             erw [k4]
             conv=>whnf
             erw [k5]
             rcases hsl with rfl | ⟨o5,g5,n5,rfl⟩
             all_goals
              conv=>whnf
              refine ak (aj (T:=cu) rfl rfl (ah (htk _ x5)) rfl) ?_
              conv=>whnf
              exact Fin.ref rfl (hQ _ _ _ _ (x1.trans (x5.new _ _)) (h5.new _ _))
         ·rw [if_pos ⟨show bf [40] (t2 :: r2)=true from hi,h64⟩] at hQ
          have h3:=h2.set (m':=m+1) (d':=d+1) (b':=true) (c':=3) (l':=t2.l) h2.at_ (by omega)
          have h5:=h3.set (m':=m+1) (d':=d) (b':=true) (c':=3) (l':=t2.l) h2.at_ h.dp
          have x5:aI p σ1 _:=(x2.trans PO.ext).trans (PO.ext (σ:=fD p w g all.length σ2 (m+1) (d+1) true 3 t2.l) (w:=w) (g:=g) (n:=all.length) (m:=m+1) (d:=d) (b:=true) (c:=3) (l:=t2.l))
          conv=>whnf
          refine wL (nm:=t.s) (tl:=σ.length) h3 (.inl rfl) fun e' e0 e3 e4 e5 e9=>?_
          have k3:get (put (some 87) (AV.tu []) (put (some 86) (.p p 0 0) e')) 3= .p σ.length 0 0:=e3
          have k4:get (put (some 87) (AV.tu []) (put (some 86) (.p p 0 0) e')) 4= .s t.s:=e4
          have k5:get (put (some 87) (AV.tu []) (put (some 86) (.p p 0 0) e')) 5= .sl0:=e5
          conv=>whnf
          rw [show dI.ev e' (.t 0)=get e' 0 from rfl,e0]
          conv=>whnf
          refine gI _ h3 ht2 ?_
          conv=>whnf
          erw [k3]
          conv=>whnf
          erw [k4]
          conv=>whnf
          erw [k5]
          conv=>whnf
          refine ak (aj (T:=cu) rfl rfl (ah (htk _ x5)) rfl) ?_
          conv=>whnf
          exact Fin.ref rfl (hQ _ _ _ _ (x1.trans (x5.new _ _)) (h5.new _ _))
      ·simp only [eP,if_neg hk1] at hQ
       obtain⟨t2,ht2⟩:∃t2,all[m]? =some t2:=⟨_,ht⟩
       conv=>whnf
       refine ay.to (jg _ h2 ht2) ?_
       conv=>whnf
       refine ak (aj (T:=cu) rfl rfl (ah (htk _ x2)) rfl) ?_
       conv=>whnf
       exact Fin.ref rfl (hQ _ _ _ _ (x1.trans (x2.new _ _)) (h2.new _ _))
end
end Go.bP.YthoodopjoaigdaaGreatDoor
namespace Go.bP.YthoodopjoaigdaaGreatDoor
open Go.Proofs
theorem J7 {p w g:Nat} {all:List Tok} (hno:ni all):∀n,WE p w g all n∧zZ p w g all n
 | 0=>⟨⟨fun _ _ _ _ _ _ _ _ _ _ _ h=>absurd h (by omega),fun _ _ _ _ _ _ _ _ _ h=>absurd h (by omega),fun _ _ _ _ _ _ _ _ _ h=>absurd h (by omega),fun _ _ _ _ _ _ _ _ _ _ _ h=>absurd h (by omega),fun _ _ _ _ _ _ _ _ _ h=>absurd h (by omega),fun _ _ _ _ _ _ _ _ _ h=>absurd h (by omega),fun _ _ _ _ _ _ _ _ _ _ _ _ _ _ _ _ _ h=>absurd h (by omega),fun _ _ _ _ _ _ _ _ _ _ _ _ _ _ _ _ _ _ _ h=>absurd h (by omega)⟩,fun _ _ _ _ _ _ _ _ _ _ _ _ _ _ _ _ _ _ h=>absurd h (by omega)⟩
 | n+1=>by
   obtain⟨ih,zy⟩:=J7 (p:=p) (w:=w) (g:=g) hno n
   exact⟨⟨fun d c σ m c0 l0 Q h hd hc he hn hQ=>Yq ih d c σ m c0 l0 Q h hd hc he hn hQ,fun d σ m c0 l0 Q h hd he hn hQ=>un_w ih d σ m c0 l0 Q h hd he hn hQ,fun d σ m c0 l0 Q h hd he hn hQ=>Yo ih d σ m c0 l0 Q h hd he hn hQ,fun d a b σ m c0 l0 Q h hd he hn hQ=>Yl ih d a b σ m c0 l0 Q h hd he hn hQ,fun d σ m c0 l0 Q h hd he hn hQ=>Yn hno ih d σ m c0 l0 Q h hd he hn hQ,fun d σ m c0 l0 Q h hd he hn hQ=>Vd hno ih zy d σ m c0 l0 Q h hd he hn hQ,fun d B x σ m c0 l0 o g' Q h hd hp hB hx he' he hn hQ=>Vb ih d B x σ m c0 l0 o g' Q h hd hp hB hx he' he hn hQ,fun d c B x σ m c0 l0 o g' Q h hd hc hp hB hx he' he hn hQ=>Yp ih d c B x σ m c0 l0 o g' Q h hd hc hp hB hx he' he hn hQ⟩,Rl ih zy⟩
end Go.bP.YthoodopjoaigdaaGreatDoor
namespace Go.bP.YthoodopjoaigdaaGreatDoor
open Go.Proofs
set_option maxRecDepth 4000
section
variable {p w g:Nat} {all:List Tok} {n:Nat}
theorem Ve (ih:WE p w g all n)(d:Nat)(σ:St)(m c0 l0:Nat)(Q:AV→St→Prop)(h:PO p w g all σ m d false c0 l0)(hd:d≤64)(he:aS (all.drop m))(hn:10*(all.drop m).length+10≤n+1)(hQ:PE p w g all σ d Q (bW (n+1) d (all.drop m))):ay X 109 [.p p 0 0] σ Q:=by
 refine ay.body (F:=Xo) aH (lit:=false) rfl rfl (Nat.le_of_ble_eq_true rfl) ?_
 conv=>whnf
 unfold bW at hQ
 have hQ:PE p w g all σ d Q ((dQ n d 1 (all.drop m)).bind fun x ts=>(aQ [59] ts).bind fun _ ts=>.ok x ts):=hQ
 have hg:=(iU n).expr d 1 (all.drop m) he (by omega)
 refine ih.expr d 1 σ m _ _ _ h hd (by omega) he (by omega) ?_
 generalize dQ n d 1 (all.drop m)=r1 at hg hQ
 cases r1 with
 | out=>exact hg.elim
 | bad c l=>
   intro o g' σ2 m2 x2 h2
   obtain⟨t2,ht2⟩:∃t2,all[m2]? =some t2:=⟨_,List.getElem?_eq_getElem h2.at_⟩
   conv=>whnf
   refine ng _ h2 ht2 ?_
   conv=>whnf
   exact Fin.ref rfl (hQ _ _ _ _ x2 h2)
 | ok x bH=>
   intro o g' σ2 m2 c2 l2 x2 h2 hm2 hex
   have he2:aS (all.drop m2):=by rw [hm2];exact hg.2.1
   obtain⟨t2,r2,eU⟩:=he2.ne
   obtain⟨ht2,hr2⟩:=aV eU
   have hQ:PE p w g all σ d Q ((aQ [59] bH).bind fun _ ts=>.ok x ts):=hQ
   rw [←hm2,eU] at hQ
   conv=>whnf
   refine je _ h2 ht2 (fun hi=>?_) (fun hi=>?_)
   ·rw [aQ,if_pos (show bf [59] (t2 :: r2)=true from hi)] at hQ
    have h3:=h2.set (m':=m2+1) (d':=d) (b':=false) (c':=c2) (l':=l2) (aN he2 eU hi).1 h.dp
    conv=>whnf
    exact Fin.ref rfl (hQ _ _ _ _ _ _ (x2.trans PO.ext) h3 hr2 (bJ.ext hex PO.ext (aX h.obj)))
   ·rw [aQ,if_neg (by rw [show bf [59] (t2 :: r2)=dF [59] t2 from rfl,hi];decide)] at hQ
    have h3:=h2.set (m':=m2) (d':=d) (b':=true) (c':=4) (l':=t2.l) h2.at_ h.dp
    conv=>whnf
    exact Fin.ref rfl (hQ _ _ _ _ (x2.trans PO.ext) h3)
end
end Go.bP.YthoodopjoaigdaaGreatDoor
