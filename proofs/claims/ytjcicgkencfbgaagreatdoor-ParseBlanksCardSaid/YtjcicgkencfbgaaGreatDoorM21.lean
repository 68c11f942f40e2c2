/- Texts of this claim, joined: Sp, Sq, Sw, Rp, Ra, Rb, Rc, Rd1, Rd2, Rd3, Rd4, Rd5, Rd6, Rd7, Rd8, Re1. -/
import Derived.Test.YtjcicgkencfbgaaGreatDoorM19
import Derived.Test.YtjcicgkencfbgaaGreatDoorM20
set_option linter.unusedVariables false
set_option linter.unusedSimpArgs false
namespace Go.bG.YtjcicgkencfbgaaGreatDoor
mutual
inductive Tr where
 | nil
 | ex (k n:Nat) (name text:List UInt8) (l r:Tr) (args:rF) (line:Nat)
inductive rF where
 | nil
 | cons (t:Tr) (r:rF)
end
mutual
inductive Sm where
 | st (k:Nat) (name:List UInt8) (ptr:Bool) (l r:Tr) (th el:oO) (line:Nat)
inductive oO where
 | nil
 | cons (s:Sm) (r:oO)
end
structure Fm where
 name:List UInt8
 params:List (List UInt8×Bool)
 ptr:Bool
 body:oO
 line:Nat
inductive Re (α:Type) where
 | ok (a:α) (ts:List Tok)
 | bad (c l:Nat)
 | out
def Re.bind {α β:Type} (r:Re α)(f:α→List Tok→Re β):Re β:=match r with
 | .ok a ts=>f a ts
 | .bad c l=>.bad c l
 | .out=>.out
def aY (s:List UInt8):List Tok→Bool
 | t :: _=>(t.k == 4 || t.k == 3) && t.s == s
 | []=>false
def jR:List Tok→Nat
 | t :: _=>t.l
 | []=>0
def aP (s:List UInt8)(ts:List Tok):Re Unit:=if aY s ts=true then .ok () ts.tail else .bad 4 (jR ts)
def gq (s:List UInt8)(d:Nat)(ts:List Tok):Re Unit:=if aY s ts=true∧64≤d then .bad 3 (jR ts) else aP s ts
def dU (ts:List Tok):Re (List UInt8):=match ts with
 | t :: r=>if t.k=1 then .ok t.s r else .bad 4 t.l
 | []=>.out
def fM (s:List UInt8):Nat:=
 if s=[124,124] then 1 else if s=[38,38] then 2 else if s=[61,61]∨s=[33,61] then 3
 else if s=[60]∨s=[60,61]∨s=[62]∨s=[62,61] then 4
 else if s=[43]∨s=[45]∨s=[124]∨s=[94] then 5
 else if s=[42]∨s=[47]∨s=[37]∨s=[38]∨s=[60,60]∨s=[62,62] then 6 else 0
def qP:Nat→List UInt8→Nat
 | n,[]=>n
 | n,c :: l=>qP (10*n+(c.toNat - 48)) l
def Fh:List UInt8:=[110,101,119]
def Yk:List UInt8:=[105,110]
def qj:List UInt8:=[101,108,115,101]
def IG:List UInt8:=[105,102]
def QB:List UInt8:=[118,97,114]
def fB:List UInt8:=[112,116,114]
def Aj:List UInt8:=[119,104,105,108,101]
def QC:List UInt8:=[111,117,116]
def GI:List UInt8:=[102,114,101,101]
def Ak:List UInt8:=[100,114,97,105,110]
def uT:List UInt8:=[114,101,116,117,114,110]
def yM:List UInt8:=[102,117,110,99]
def QD (t:Tok):Tr:=.ex 1 (qP 0 t.s) [] [] .nil .nil .nil t.l
def Bv (nm:List UInt8)(l:Nat):Tr:=.ex 2 0 nm [] .nil .nil .nil l
mutual
def dO:Nat→Nat→Nat→List Tok→Re Tr
 | 0,_,_,_=>.out
 | n+1,d,c,ts=>(Ci n d ts).bind fun x ts=>jf n d c x ts
def jf:Nat→Nat→Nat→Tr→List Tok→Re Tr
 | 0,_,_,_,_=>.out
 | _+1,_,_,_,[]=>.out
 | n+1,d,c,x,t :: r=>
   if t.k=3∧fM t.s≠0∧¬fM t.s<c then(dO n d (fM t.s+1) r).bind fun y ts=>jf n d c (.ex 3 0 [] t.s x y .nil t.l) ts
   else .ok x (t :: r)
def Ci:Nat→Nat→List Tok→Re Tr
 | 0,_,_=>.out
 | _+1,_,[]=>.out
 | n+1,d,t :: r=>
   if aY [33] (t :: r)=true∨aY [45] (t :: r)=true then
    if 64≤d then .bad 3 t.l else(Ci n (d+1) r).bind fun x ts=>.ok (.ex 3 0 [] t.s .nil x .nil t.l) ts
   else iV n d (t :: r)
def iV:Nat→Nat→List Tok→Re Tr
 | 0,_,_=>.out
 | n+1,d,ts=>(iy n d ts).bind fun x ts=>fO n d x ts
def fO:Nat→Nat→Tr→List Tok→Re Tr
 | 0,_,_,_=>.out
 | _+1,_,_,[]=>.out
 | n+1,d,x,t :: r=>
   if aY [91] (t :: r)=true then(iI n d [91] [93] (t :: r)).bind fun y ts=>fO n d (.ex 5 0 [] [] x y .nil t.l) ts
   else if aY [58] (t :: r)=true then(jS n d r).bind fun y ts=>fO n d (.ex 6 0 [] [] x y .nil t.l) ts
   else .ok x (t :: r)
def iI:Nat→Nat→List UInt8→List UInt8→List Tok→Re Tr
 | 0,_,_,_,_=>.out
 | n+1,d,a,b,ts=>(gq a d ts).bind fun _ ts=>(dO n (d+1) 1 ts).bind fun x ts=>(aP b ts).bind fun _ ts=>.ok x ts
def jS:Nat→Nat→List Tok→Re Tr
 | 0,_,_=>.out
 | _+1,_,[]=>.out
 | n+1,d,t :: r=>
   if aY [40] (t :: r)=true then iI n d [40] [41] (t :: r)
   else if t.k=2 then .ok (QD t) r
   else(dU (t :: r)).bind fun nm ts=>.ok (Bv nm t.l) ts
def iy:Nat→Nat→List Tok→Re Tr
 | 0,_,_=>.out
 | _+1,_,[]=>.out
 | n+1,d,t :: r=>
   if aY [40] (t :: r)=true then iI n d [40] [41] (t :: r)
   else if aY Fh (t :: r)=true then(iI n d [40] [41] r).bind fun x ts=>.ok (.ex 7 0 [] [] x .nil .nil t.l) ts
   else if aY Yk (t :: r)=true then(gq [40] d r).bind fun _ ts=>(aP [41] ts).bind fun _ ts=>.ok (.ex 8 0 [] [] .nil .nil .nil t.l) ts
   else if t.k=2 then .ok (QD t) r
   else(dU (t :: r)).bind fun nm ts=>
    if aY [40] ts=true then(gq [40] d ts).bind fun _ ts=>(eU n (d+1) true ts).bind fun a ts=>(aP [41] ts).bind fun _ ts=>.ok (.ex 4 0 nm [] .nil .nil a t.l) ts
    else .ok (Bv nm t.l) ts
def eU:Nat→Nat→Bool→List Tok→Re rF
 | 0,_,_,_=>.out
 | n+1,d,first,ts=>
   if aY [41] ts=true then .ok .nil ts
   else(if first=true then .ok () ts else aP [44] ts).bind fun _ ts=>(dO n d 1 ts).bind fun x ts=>(eU n d false ts).bind fun xs ts=>.ok (.cons x xs) ts
end
mutual
def dI:Nat→Nat→List Tok→Re oO
 | 0,_,_=>.out
 | n+1,d,ts=>(gq [123] d ts).bind fun _ ts=>(gW n (d+1) ts).bind fun l ts=>(aP [125] ts).bind fun _ ts=>.ok l ts
def gW:Nat→Nat→List Tok→Re oO
 | 0,_,_=>.out
 | n+1,d,ts=>
   if aY [125] ts=true then .ok .nil ts
   else(kH n d ts).bind fun x ts=>(gW n d ts).bind fun l ts=>.ok (.cons x l) ts
def dQ:Nat→Nat→Nat→List Tok→Re Sm
 | 0,_,_,_=>.out
 | n+1,d,line,ts=>(dO n d 1 ts).bind fun c ts=>(dI n d ts).bind fun th ts=>
   if aY qj ts=true then
    if aY IG ts.tail=true then(dQ n d (jR ts.tail) ts.tail.tail).bind fun b ts=>.ok (.st 4 [] false .nil c th (.cons b .nil) line) ts
    else(dI n d ts.tail).bind fun el ts=>.ok (.st 4 [] false .nil c th el line) ts
   else .ok (.st 4 [] false .nil c th .nil line) ts
def bW:Nat→Nat→List Tok→Re Tr
 | 0,_,_=>.out
 | n+1,d,ts=>(dO n d 1 ts).bind fun x ts=>(aP [59] ts).bind fun _ ts=>.ok x ts
def kH:Nat→Nat→List Tok→Re Sm
 | 0,_,_=>.out
 | _+1,_,[]=>.out
 | n+1,d,t :: r=>
   if aY QB (t :: r)=true then(dU r).bind fun nm ts=>
    let p:=aY fB ts
    let ts:=if p=true then ts.tail else ts
    if aY [61] ts=true then(bW n d ts.tail).bind fun x ts=>.ok (.st 1 nm p .nil x .nil .nil t.l) ts
    else(aP [59] ts).bind fun _ ts=>.ok (.st 1 nm p .nil .nil .nil .nil t.l) ts
   else if aY IG (t :: r)=true then dQ n d t.l r
   else if aY Aj (t :: r)=true then(dO n d 1 r).bind fun c ts=>(dI n d ts).bind fun th ts=>.ok (.st 5 [] false .nil c th .nil t.l) ts
   else if aY QC (t :: r)=true then(bW n d r).bind fun x ts=>.ok (.st 6 [] false .nil x .nil .nil t.l) ts
   else if aY GI (t :: r)=true then(bW n d r).bind fun x ts=>.ok (.st 7 [] false .nil x .nil .nil t.l) ts
   else if aY Ak (t :: r)=true then(aP [59] r).bind fun _ ts=>.ok (.st 8 [] false .nil .nil .nil .nil t.l) ts
   else if aY uT (t :: r)=true then
    if aY [59] r=true then .ok (.st 9 [] false .nil .nil .nil .nil t.l) r.tail
    else(bW n d r).bind fun x ts=>.ok (.st 9 [] false .nil x .nil .nil t.l) ts
   else(iV n d (t :: r)).bind fun x ts=>match x with
    | .nil=>.out
    | .ex k _ nm _ _ _ _ _=>
      if aY [61] ts=true then
        if k=2 then(bW n d ts.tail).bind fun y ts=>.ok (.st 2 nm false .nil y .nil .nil t.l) ts
        else if k=5∨k=6 then(bW n d ts.tail).bind fun y ts=>.ok (.st 3 [] false x y .nil .nil t.l) ts
        else .bad 4 (jR ts)
      else if k=4 then(aP [59] ts).bind fun _ ts=>.ok (.st 10 [] false .nil x .nil .nil t.l) ts
      else .bad 4 (jR ts)
end
def bY:Nat→Bool→List Tok→Re (List (List UInt8×Bool))
 | 0,_,_=>.out
 | n+1,first,ts=>
   if aY [41] ts=true then .ok [] ts
   else(if first=true then .ok () ts else aP [44] ts).bind fun _ ts=>(dU ts).bind fun nm ts=>
    let p:=aY fB ts
    (bY n false (if p=true then ts.tail else ts)).bind fun l ts=>.ok ((nm,p) :: l) ts
def nY (n:Nat)(ts:List Tok):Re Fm:=(aP yM ts).bind fun _ bJ=>(dU bJ).bind fun nm bJ=>(gq [40] 0 bJ).bind fun _ bJ=>(bY n true bJ).bind fun ps bJ=>(aP [41] bJ).bind fun _ bJ=>
 let p:=aY fB bJ
 (dI n 0 (if p=true then bJ.tail else bJ)).bind fun b bJ=>.ok ⟨nm,ps,p,b,jR ts⟩ bJ
def gB:Nat→List Tok→Re (List Fm)
 | 0,_=>.out
 | _+1,[]=>.out
 | n+1,t :: r=>if t.k=5 then .ok [] (t :: r) else(nY n (t :: r)).bind fun f ts=>(gB n ts).bind fun l ts=>.ok (f :: l) ts
end Go.bG.YtjcicgkencfbgaaGreatDoor
namespace Go.bG.YtjcicgkencfbgaaGreatDoor
def aU:List Tok→Prop
 | []=>False
 | t :: r=>if r=[] then t.k=5 else aU r
theorem aU.tail {t:Tok} {r:List Tok} (h:aU (t :: r))(hk:t.k≠5):aU r:=by
 unfold aU at h
 split at h
 ·exact(hk h).elim
 ·exact h
theorem aU.ne {ts:List Tok} (h:aU ts):∃t r,ts=t :: r:=by
 cases ts with
 | nil=>exact h.elim
 | cons t r=>exact⟨t,r,rfl⟩
theorem iW {s:List UInt8} {t:Tok} {r:List Tok} (h:aY s (t :: r)=true):t.k≠5:=by
 unfold aY at h
 simp only [Bool.and_eq_true,Bool.or_eq_true,beq_iff_eq] at h
 rcases h.1 with h | h <;> rw [h] <;> decide
theorem jq {s:List UInt8} {ts:List Tok} (he:aU ts)(h:aY s ts=true):aU ts.tail∧ts.tail.length<ts.length:=by
 obtain⟨t,r,rfl⟩:=he.ne
 exact⟨he.tail (iW h),by simp⟩
def Gd {α:Type} (V:α→Prop)(r:Re α)(L:Nat):Prop:=match r with
 | .ok a ts=>V a∧aU ts∧ts.length<L
 | .bad _ _=>True
 | .out=>False
theorem Gd.bind {α β:Type} {V:α→Prop} {U:β→Prop} {r:Re α} {f:α→List Tok→Re β} {L M:Nat} (h:Gd V r L)(hf:∀a ts,V a→aU ts→ts.length<L→Gd U (f a ts) M):Gd U (r.bind f) M:=by
 cases r with
 | ok a ts=>exact hf a ts h.1 h.2.1 h.2.2
 | bad c l=>trivial
 | out=>exact h.elim
theorem Gd.mono {α:Type} {V:α→Prop} {r:Re α} {L M:Nat} (h:Gd V r L)(hl:L≤M):Gd V r M:=by
 cases r with
 | ok a ts=>exact⟨h.1,h.2.1,Nat.lt_of_lt_of_le h.2.2 hl⟩
 | bad c l=>trivial
 | out=>exact h.elim
theorem jg (s:List UInt8) {ts:List Tok} (he:aU ts):Gd (fun _=>True) (aP s ts) ts.length:=by
 unfold aP
 split
 ·rename_i h;exact⟨trivial,jq he h⟩
 ·trivial
theorem uV (s:List UInt8)(d:Nat) {ts:List Tok} (he:aU ts):Gd (fun _=>True) (gq s d ts) ts.length:=by
 unfold gq
 split
 ·trivial
 ·exact jg s he
theorem uX {ts:List Tok} (he:aU ts):Gd (fun _=>True) (dU ts) ts.length:=by
 obtain⟨t,r,rfl⟩:=he.ne
 unfold dU
 simp only
 split
 ·rename_i h;exact⟨trivial,he.tail (by rw [h];decide),by simp⟩
 ·trivial
abbrev An {α:Type} :α→Prop:=fun _=>True
def Jg:Tr→Prop
 | .nil=>False
 | _=>True
structure AllE (n:Nat):Prop where
 expr:∀d c ts,aU ts→10*ts.length+9≤n→Gd Jg (dO n d c ts) ts.length
 loop:∀d c x ts,Jg x→aU ts→10*ts.length+9≤n→Gd Jg (jf n d c x ts) (ts.length+1)
 un:∀d ts,aU ts→10*ts.length+8≤n→Gd Jg (Ci n d ts) ts.length
 post:∀d ts,aU ts→10*ts.length+7≤n→Gd Jg (iV n d ts) ts.length
 nZ:∀d x ts,Jg x→aU ts→10*ts.length+9≤n→Gd Jg (fO n d x ts) (ts.length+1)
 with_:∀d a b ts,aU ts→10*ts.length+5≤n→Gd Jg (iI n d a b ts) ts.length
 cell:∀d ts,aU ts→10*ts.length+6≤n→Gd Jg (jS n d ts) ts.length
 first:∀d ts,aU ts→10*ts.length+6≤n→Gd Jg (iy n d ts) ts.length
 args:∀d f ts,aU ts→10*ts.length+10≤n→Gd An (eU n d f ts) (ts.length+1)
theorem jr:∀n,AllE n
 | 0=>⟨fun _ _ _ _ h=>by omega,fun _ _ _ _ _ _ h=>by omega,fun _ _ _ h=>by omega,fun _ _ _ h=>by omega,fun _ _ _ _ _ h=>by omega,fun _ _ _ _ _ h=>by omega,fun _ _ _ h=>by omega,fun _ _ _ h=>by omega,fun _ _ _ _ h=>by omega⟩
 | n+1=>by
   have ih:=jr n
   refine⟨fun d c ts he hn=>?_,fun d c x ts hx he hn=>?_,fun d ts he hn=>?_,fun d ts he hn=>?_,fun d x ts hx he hn=>?_,fun d a b ts he hn=>?_,fun d ts he hn=>?_,fun d ts he hn=>?_,fun d f ts he hn=>?_⟩
   ·unfold dO
    exact(ih.un d ts he (by omega)).bind fun x ts' hx he' hl=>(ih.loop d c x ts' hx he' (by omega)).mono (by omega)
   ·obtain⟨t,r,rfl⟩:=he.ne
    unfold jf
    simp only [List.length_cons] at hn
    split
    ·rename_i h
     have her:=he.tail (by rw [h.1];decide)
     exact(ih.expr d _ r her (by omega)).bind fun y ts' _ he' hl=>(ih.loop d c (.ex 3 0 [] t.s x y .nil t.l) ts' trivial he' (by omega)).mono (by simp;omega)
    ·exact⟨hx,he,Nat.lt_succ_self _⟩
   ·obtain⟨t,r,rfl⟩:=he.ne
    unfold Ci
    simp only [List.length_cons] at hn
    split
    ·rename_i h
     have her:aU r:=by rcases h with h | h <;> exact he.tail (iW h)
     split
     ·trivial
     ·exact(ih.un (d+1) r her (by omega)).bind fun x ts' _ he' hl=>⟨trivial,he',by simp;omega⟩
    ·exact ih.post d _ he (by simp only [List.length_cons];omega)
   ·unfold iV
    exact(ih.first d ts he (by omega)).bind fun x ts' hx he' hl=>(ih.nZ d x ts' hx he' (by omega)).mono (by omega)
   ·obtain⟨t,r,rfl⟩:=he.ne
    unfold fO
    simp only [List.length_cons] at hn
    split
    ·rename_i h
     exact(ih.with_ d _ _ _ he (by simp only [List.length_cons];omega)).bind fun y ts' _ he' hl=>(ih.nZ d (.ex 5 0 [] [] x y .nil t.l) ts' trivial he' (by simp only [List.length_cons] at hl;omega)).mono (by omega)
    ·split
     ·rename_i h
      have her:=he.tail (iW h)
      exact(ih.cell d r her (by omega)).bind fun y ts' _ he' hl=>(ih.nZ d (.ex 6 0 [] [] x y .nil t.l) ts' trivial he' (by omega)).mono (by simp;omega)
     ·exact⟨hx,he,Nat.lt_succ_self _⟩
   ·unfold iI
    exact(uV a d he).bind fun _ bJ _ he1 hl1=>(ih.expr (d+1) 1 bJ he1 (by omega)).bind fun x fU hx he2 hl2=>(jg b he2).bind fun _ Jh _ he3 hl3=>⟨hx,he3,by omega⟩
   ·obtain⟨t,r,rfl⟩:=he.ne
    unfold jS
    simp only [List.length_cons] at hn
    split
    ·exact ih.with_ d _ _ _ he (by simp only [List.length_cons];omega)
    ·split
     ·rename_i h;exact⟨trivial,he.tail (by rw [h];decide),by simp⟩
     ·exact(uX he).bind fun nm bJ _ he1 hl1=>⟨trivial,he1,hl1⟩
   ·obtain⟨t,r,rfl⟩:=he.ne
    unfold iy
    simp only [List.length_cons] at hn
    split
    ·exact ih.with_ d _ _ _ he (by simp only [List.length_cons];omega)
    ·split
     ·rename_i h
      have her:=he.tail (iW h)
      exact(ih.with_ d _ _ r her (by omega)).bind fun x bJ _ he1 hl1=>⟨trivial,he1,by simp;omega⟩
     ·split
      ·rename_i h
       have her:=he.tail (iW h)
       exact(uV _ d her).bind fun _ bJ _ he1 hl1=>(jg _ he1).bind fun _ fU _ he2 hl2=>⟨trivial,he2,by simp;omega⟩
      ·split
       ·rename_i h;exact⟨trivial,he.tail (by rw [h];decide),by simp⟩
       ·refine(uX he).bind fun nm bJ _ he1 hl1=>?_
        simp only [List.length_cons] at hl1
        split
        ·exact(uV _ d he1).bind fun _ fU _ he2 hl2=>(ih.args (d+1) true fU he2 (by omega)).bind fun a Jh _ he3 hl3=>(jg _ he3).bind fun _ BM _ he4 hl4=>⟨trivial,he4,by simp;omega⟩
        ·exact⟨trivial,he1,by simp;omega⟩
   ·unfold eU
    split
    ·exact⟨trivial,he,Nat.lt_succ_self _⟩
    ·have h1:Gd An (if f=true then Re.ok () ts else aP [44] ts) (ts.length+1):=by
      split
      ·exact⟨trivial,he,Nat.lt_succ_self _⟩
      ·exact(jg _ he).mono (Nat.le_succ _)
     exact h1.bind fun _ bJ _ he1 hl1=>(ih.expr d 1 bJ he1 (by omega)).bind fun x fU _ he2 hl2=>(ih.args d false fU he2 (by omega)).bind fun xs Jh _ he3 hl3=>⟨trivial,he3,by omega⟩
structure AllS (n:Nat):Prop where
 block:∀d ts,aU ts→10*ts.length+10≤n→Gd An (dI n d ts) ts.length
 stmts:∀d ts,aU ts→10*ts.length+15≤n→Gd An (gW n d ts) (ts.length+1)
 branch:∀d l ts,aU ts→10*ts.length+12≤n→Gd An (dQ n d l ts) ts.length
 ended:∀d ts,aU ts→10*ts.length+10≤n→Gd An (bW n d ts) ts.length
 stmt:∀d ts,aU ts→10*ts.length+14≤n→Gd An (kH n d ts) ts.length
theorem ny:∀n,AllS n
 | 0=>⟨fun _ _ _ h=>by omega,fun _ _ _ h=>by omega,fun _ _ _ _ h=>by omega,fun _ _ _ h=>by omega,fun _ _ _ h=>by omega⟩
 | n+1=>by
   have ih:=ny n
   have ie:=jr n
   refine⟨fun d ts he hn=>?_,fun d ts he hn=>?_,fun d l ts he hn=>?_,fun d ts he hn=>?_,fun d ts he hn=>?_⟩
   ·unfold dI
    exact(uV _ d he).bind fun _ bJ _ he1 hl1=>(ih.stmts (d+1) bJ he1 (by omega)).bind fun l fU _ he2 hl2=>(jg _ he2).bind fun _ Jh _ he3 hl3=>⟨trivial,he3,by omega⟩
   ·unfold gW
    split
    ·exact⟨trivial,he,Nat.lt_succ_self _⟩
    ·exact(ih.stmt d ts he (by omega)).bind fun x bJ _ he1 hl1=>(ih.stmts d bJ he1 (by omega)).bind fun l fU _ he2 hl2=>⟨trivial,he2,by omega⟩
   ·unfold dQ
    refine(ie.expr d 1 ts he (by omega)).bind fun c bJ _ he1 hl1=>(ih.block d bJ he1 (by omega)).bind fun th fU _ he2 hl2=>?_
    split
    ·rename_i h
     obtain⟨he3,hl3⟩:=jq he2 h
     split
     ·rename_i h2
      obtain⟨he4,hl4⟩:=jq he3 h2
      exact(ih.branch d _ _ he4 (by omega)).bind fun b wu _ ER hl5=>⟨trivial,ER,by omega⟩
     ·exact(ih.block d _ he3 (by omega)).bind fun b wu _ ER hl5=>⟨trivial,ER,by omega⟩
    ·exact⟨trivial,he2,by omega⟩
   ·unfold bW
    exact(ie.expr d 1 ts he (by omega)).bind fun x bJ _ he1 hl1=>(jg _ he1).bind fun _ fU _ he2 hl2=>⟨trivial,he2,by omega⟩
   ·obtain⟨t,r,rfl⟩:=he.ne
    unfold kH
    simp only [List.length_cons] at hn
    split
    ·rename_i h
     have her:=he.tail (iW h)
     refine(uX her).bind fun nm bJ _ he1 hl1=>?_
     have h2:aU (if aY fB bJ=true then bJ.tail else bJ)∧(if aY fB bJ=true then bJ.tail else bJ).length≤bJ.length:=by
      split
      ·rename_i h2
       obtain⟨a,b⟩:=jq he1 h2
       exact⟨a,by omega⟩
      ·exact⟨he1,Nat.le_refl _⟩
     simp only
     generalize (if aY fB bJ=true then bJ.tail else bJ)=fU at h2
     split
     ·rename_i h3
      obtain⟨he3,hl3⟩:=jq h2.1 h3
      exact(ih.ended d _ he3 (by omega)).bind fun x BM _ he4 hl4=>⟨trivial,he4,by simp;omega⟩
     ·exact(jg _ h2.1).bind fun _ BM _ he4 hl4=>⟨trivial,he4,by simp;omega⟩
    ·split
     ·rename_i h;exact(ih.branch d _ r (he.tail (iW h)) (by omega)).mono (by simp)
     ·split
      ·rename_i h
       exact(ie.expr d 1 r (he.tail (iW h)) (by omega)).bind fun c bJ _ he1 hl1=>(ih.block d bJ he1 (by omega)).bind fun th fU _ he2 hl2=>⟨trivial,he2,by simp;omega⟩
      ·split
       ·rename_i h
        exact(ih.ended d r (he.tail (iW h)) (by omega)).bind fun x bJ _ he1 hl1=>⟨trivial,he1,by simp;omega⟩
       ·split
        ·rename_i h
         exact(ih.ended d r (he.tail (iW h)) (by omega)).bind fun x bJ _ he1 hl1=>⟨trivial,he1,by simp;omega⟩
        ·split
         ·rename_i h
          exact(jg _ (he.tail (iW h))).bind fun _ bJ _ he1 hl1=>⟨trivial,he1,by simp;omega⟩
         ·split
          ·rename_i h
           have her:=he.tail (iW h)
           split
           ·rename_i h2
            obtain⟨he2,hl2⟩:=jq her h2
            exact⟨trivial,he2,by simp;omega⟩
           ·exact(ih.ended d r her (by omega)).bind fun x bJ _ he1 hl1=>⟨trivial,he1,by simp;omega⟩
          ·refine(ie.post d _ he (by simp only [List.length_cons];omega)).bind fun x bJ hx he1 hl1=>?_
           cases x with
           | nil=>exact hx.elim
           | ex k n' nm tx l r' a ln=>
             simp only
             split
             ·rename_i h2
              obtain⟨he2,hl2⟩:=jq he1 h2
              simp only [List.length_cons] at hl1
              split
              ·exact(ih.ended d _ he2 (by omega)).bind fun y fU _ he3 hl3=>⟨trivial,he3,by simp;omega⟩
              ·split
               ·exact(ih.ended d _ he2 (by omega)).bind fun y fU _ he3 hl3=>⟨trivial,he3,by simp;omega⟩
               ·trivial
             ·split
              ·exact(jg _ he1).bind fun _ fU _ he2 hl2=>⟨trivial,he2,by omega⟩
              ·trivial
theorem ql:∀(n:Nat) (f:Bool) (ts:List Tok),aU ts→ts.length+1≤n→Gd An (bY n f ts) (ts.length+1)
 | 0,_,_,_,h=>by omega
 | n+1,f,ts,he,hn=>by
   unfold bY
   split
   ·exact⟨trivial,he,Nat.lt_succ_self _⟩
   ·have h1:Gd An (if f=true then Re.ok () ts else aP [44] ts) (ts.length+1):=by
     split
     ·exact⟨trivial,he,Nat.lt_succ_self _⟩
     ·exact(jg _ he).mono (Nat.le_succ _)
    refine h1.bind fun _ bJ _ he1 hl1=>(uX he1).bind fun nm fU _ he2 hl2=>?_
    have h2:aU (if aY fB fU=true then fU.tail else fU)∧(if aY fB fU=true then fU.tail else fU).length≤fU.length:=by
     split
     ·rename_i h2
      obtain⟨a,b⟩:=jq he2 h2
      exact⟨a,by omega⟩
     ·exact⟨he2,Nat.le_refl _⟩
    simp only
    generalize (if aY fB fU=true then fU.tail else fU)=Jh at h2
    exact(ql n false Jh h2.1 (by omega)).bind fun l BM _ he4 hl4=>⟨trivial,he4,by omega⟩
theorem II (n:Nat)(ts:List Tok)(he:aU ts)(hn:10*ts.length+10≤n):Gd An (nY n ts) ts.length:=by
 unfold nY
 refine(jg _ he).bind fun _ bJ _ he1 hl1=>(uX he1).bind fun nm fU _ he2 hl2=>(uV _ 0 he2).bind fun _ Jh _ he3 hl3=>(ql n true Jh he3 (by omega)).bind fun ps BM _ he4 hl4=>(jg _ he4).bind fun _ wu _ ER hl5=>?_
 have h2:aU (if aY fB wu=true then wu.tail else wu)∧(if aY fB wu=true then wu.tail else wu).length≤wu.length:=by
  split
  ·rename_i h2
   obtain⟨a,b⟩:=jq ER h2
   exact⟨a,by omega⟩
  ·exact⟨ER,Nat.le_refl _⟩
 simp only
 generalize (if aY fB wu=true then wu.tail else wu)=ts6 at h2
 exact((ny n).block 0 ts6 h2.1 (by omega)).bind fun b ts7 _ he7 Ib=>⟨trivial,he7,by omega⟩
theorem Ej:∀(n:Nat) (ts:List Tok),aU ts→10*ts.length+11≤n→Gd An (gB n ts) (ts.length+1)
 | 0,_,_,h=>by omega
 | n+1,ts,he,hn=>by
   obtain⟨t,r,rfl⟩:=he.ne
   unfold gB
   split
   ·exact⟨trivial,he,Nat.lt_succ_self _⟩
   ·simp only [List.length_cons] at hn
    exact(II n _ he (by simp only [List.length_cons];omega)).bind fun f bJ _ he1 hl1=>(Ej n bJ he1 (by simp only [List.length_cons] at hl1;omega)).bind fun l fU _ he2 hl2=>⟨trivial,he2,by omega⟩
end Go.bG.YtjcicgkencfbgaaGreatDoor
namespace Go.bG.YtjcicgkencfbgaaGreatDoor
def mO:rF→List Tr
 | .nil=>[]
 | .cons t r=>t :: mO r
def lS:oO→List Sm
 | .nil=>[]
 | .cons t r=>t :: lS r
mutual
def wT:Tr→Nat
 | .nil=>0
 | .ex _ _ _ _ l r a _=>wT l+wT r+ES a
def ES:rF→Nat
 | .nil=>0
 | .cons t r=>1+wT t+ES r
end
mutual
def wS:Sm→Nat
 | .st _ _ _ l r th el _=>wT l+wT r+wZ th+wZ el
def wZ:oO→Nat
 | .nil=>0
 | .cons t r=>1+wS t+wZ r
end
def wF (f:Fm):Nat:=f.params.length+wZ f.body
def ET:List Fm→Nat
 | []=>0
 | f :: l=>1+wF f+ET l
theorem yN:∀l:rF,(mO l).length≤ES l
 | .nil=>Nat.le_refl _
 | .cons t r=>by have:=yN r;simp only [mO,ES,List.length_cons];omega
theorem yO:∀l:oO,(lS l).length≤wZ l
 | .nil=>Nat.le_refl _
 | .cons t r=>by have:=yO r;simp only [lS,wZ,List.length_cons];omega
theorem yP:∀l:List Fm,l.length≤ET l
 | []=>Nat.le_refl _
 | t :: r=>by have:=yP r;simp only [ET,List.length_cons];omega
theorem KN:∀(l:rF) (i:Nat) (t:Tr),(mO l)[i]? =some t→wT t+1≤ES l
 | .nil,i,t,h=>by simp [mO] at h
 | .cons a r,0,t,h=>by simp only [mO,List.getElem?_cons_zero,Option.some.injEq] at h;subst h;simp only [ES];omega
 | .cons a r,i+1,t,h=>by
   simp only [mO,List.getElem?_cons_succ] at h
   have:=KN r i t h;simp only [ES];omega
theorem Em:∀(l:oO) (i:Nat) (t:Sm),(lS l)[i]? =some t→wS t+1≤wZ l
 | .nil,i,t,h=>by simp [lS] at h
 | .cons a r,0,t,h=>by simp only [lS,List.getElem?_cons_zero,Option.some.injEq] at h;subst h;simp only [wZ];omega
 | .cons a r,i+1,t,h=>by
   simp only [lS,List.getElem?_cons_succ] at h
   have:=Em r i t h;simp only [wZ];omega
theorem KO:∀(l:List Fm) (i:Nat) (t:Fm),l[i]? =some t→wF t+1≤ET l
 | [],i,t,h=>by simp at h
 | a :: r,0,t,h=>by simp only [List.getElem?_cons_zero,Option.some.injEq] at h;subst h;simp only [ET];omega
 | a :: r,i+1,t,h=>by
   simp only [List.getElem?_cons_succ] at h
   have:=KO r i t h;simp only [ET];omega
def Gw {α:Type} (w:α→Nat)(r:Re α)(L:Nat):Prop:=match r with
 | .ok a ts=>w a+ts.length≤L
 | _=>True
theorem Gw.bind {α β:Type} {w:α→Nat} {u:β→Nat} {r:Re α} {f:α→List Tok→Re β} {L M:Nat} (h:Gw w r L)(hf:∀a ts,w a+ts.length≤L→Gw u (f a ts) M):Gw u (r.bind f) M:=by
 cases r with
 | ok a ts=>exact hf a ts h
 | bad c l=>trivial
 | out=>trivial
theorem Gw.mono {α:Type} {w:α→Nat} {r:Re α} {L M:Nat} (h:Gw w r L)(hl:L≤M):Gw w r M:=by
 cases r with
 | ok a ts=>exact Nat.le_trans h hl
 | bad c l=>trivial
 | out=>trivial
abbrev w1 {α:Type} :α→Nat:=fun _=>1
abbrev w0 {α:Type} :α→Nat:=fun _=>0
theorem Yl {s:List UInt8} {ts:List Tok} (h:aY s ts=true):ts.tail.length+1=ts.length:=by
 cases ts with
 | nil=>simp [aY] at h
 | cons t r=>rfl
theorem n_ (ts:List Tok):ts.tail.length≤ts.length:=by cases ts <;> simp
theorem jF (s:List UInt8)(ts:List Tok):Gw w1 (aP s ts) ts.length:=by
 unfold aP
 split
 ·rename_i h;have:=Yl h;show 1+_≤_;omega
 ·trivial
theorem yQ (s:List UInt8)(d:Nat)(ts:List Tok):Gw w1 (gq s d ts) ts.length:=by
 unfold gq
 split
 ·trivial
 ·exact jF s ts
theorem yR (ts:List Tok):Gw w1 (dU ts) ts.length:=by
 unfold dU
 split
 ·split
  ·show 1+_≤_;simp;omega
  ·trivial
 ·trivial
abbrev Bz:Tr→Nat:=fun x=>1+wT x
abbrev wS1:Sm→Nat:=fun x=>1+wS x
abbrev UW:oO→Nat:=fun x=>1+wZ x
structure WtE (n:Nat):Prop where
 expr:∀d c ts,Gw Bz (dO n d c ts) ts.length
 loop:∀d c x ts,Gw wT (jf n d c x ts) (wT x+ts.length)
 un:∀d ts,Gw Bz (Ci n d ts) ts.length
 post:∀d ts,Gw Bz (iV n d ts) ts.length
 nZ:∀d x ts,Gw wT (fO n d x ts) (wT x+ts.length)
 with_:∀d a b ts,Gw Bz (iI n d a b ts) ts.length
 cell:∀d ts,Gw Bz (jS n d ts) ts.length
 first:∀d ts,Gw Bz (iy n d ts) ts.length
 args:∀d f ts,Gw ES (eU n d f ts) ts.length
theorem wtE:∀n,WtE n
 | 0=>⟨fun _ _ _=>by unfold dO;trivial,fun _ _ _ _=>by unfold jf;trivial,fun _ _=>by unfold Ci;trivial,fun _ _=>by unfold iV;trivial,fun _ _ _=>by unfold fO;trivial,fun _ _ _ _=>by unfold iI;trivial,fun _ _=>by unfold jS;trivial,fun _ _=>by unfold iy;trivial,fun _ _ _=>by unfold eU;trivial⟩
 | n+1=>by
   have ih:=wtE n
   refine⟨fun d c ts=>?_,fun d c x ts=>?_,fun d ts=>?_,fun d ts=>?_,fun d x ts=>?_,fun d a b ts=>?_,fun d ts=>?_,fun d ts=>?_,fun d f ts=>?_⟩
   ·unfold dO
    refine(ih.un d ts).bind fun x ts' hx=>?_
    have:=ih.loop d c x ts'
    cases hr:jf n d c x ts' with
    | ok a fU=>rw [hr] at this;have h:wT a+fU.length≤wT x+ts'.length:=this;show 1+wT a+fU.length≤_;simp only [Bz] at hx;omega
    | bad c l=>trivial
    | out=>trivial
   ·cases ts with
    | nil=>unfold jf;trivial
    | cons t r=>
      unfold jf
      split
      ·refine(ih.expr d _ r).bind fun y ts' hy=>(ih.loop d c (.ex 3 0 [] t.s x y .nil t.l) ts').mono ?_
       simp only [Bz] at hy;simp only [wT,ES,List.length_cons];omega
      ·exact Nat.le_refl _
   ·cases ts with
    | nil=>unfold Ci;trivial
    | cons t r=>
      unfold Ci
      split
      ·split
       ·trivial
       ·refine(ih.un (d+1) r).bind fun x ts' hx=>?_
        simp only [Bz] at hx;show 1+wT _+_≤_;simp only [wT,ES,List.length_cons];omega
      ·exact ih.post d _
   ·unfold iV
    refine(ih.first d ts).bind fun x ts' hx=>?_
    have:=ih.nZ d x ts'
    cases hr:fO n d x ts' with
    | ok a fU=>rw [hr] at this;have h:wT a+fU.length≤wT x+ts'.length:=this;show 1+wT a+fU.length≤_;simp only [Bz] at hx;omega
    | bad c l=>trivial
    | out=>trivial
   ·cases ts with
    | nil=>unfold fO;trivial
    | cons t r=>
      unfold fO
      split
      ·refine(ih.with_ d _ _ _).bind fun y ts' hy=>(ih.nZ d (.ex 5 0 [] [] x y .nil t.l) ts').mono ?_
       simp only [Bz] at hy;simp only [wT,ES];omega
      ·split
       ·refine(ih.cell d r).bind fun y ts' hy=>(ih.nZ d (.ex 6 0 [] [] x y .nil t.l) ts').mono ?_
        simp only [Bz] at hy;simp only [wT,ES,List.length_cons];omega
       ·exact Nat.le_refl _
   ·unfold iI
    refine(yQ a d ts).bind fun _ bJ h1=>(ih.expr (d+1) 1 bJ).bind fun x fU h2=>(jF b fU).bind fun _ Jh h3=>?_
    simp only [Bz,w1] at *;show 1+wT x+_≤_;omega
   ·cases ts with
    | nil=>unfold jS;trivial
    | cons t r=>
      unfold jS
      split
      ·exact ih.with_ d _ _ _
      ·split
       ·show 1+wT (QD t)+_≤_;simp only [QD,wT,ES,List.length_cons];omega
       ·refine(yR _).bind fun nm bJ h1=>?_
        simp only [w1] at h1;show 1+wT (Bv nm t.l)+_≤_;simp only [Bv,wT,ES];omega
   ·cases ts with
    | nil=>unfold iy;trivial
    | cons t r=>
      unfold iy
      split
      ·exact ih.with_ d _ _ _
      ·split
       ·refine(ih.with_ d _ _ r).bind fun x bJ h1=>?_
        simp only [Bz] at h1;show 1+wT _+_≤_;simp only [wT,ES,List.length_cons];omega
       ·split
        ·refine(yQ _ d r).bind fun _ bJ h1=>(jF _ bJ).bind fun _ fU h2=>?_
         simp only [w1] at *;show 1+wT _+_≤_;simp only [wT,ES,List.length_cons];omega
        ·split
         ·show 1+wT (QD t)+_≤_;simp only [QD,wT,ES,List.length_cons];omega
         ·refine(yR _).bind fun nm bJ h1=>?_
          simp only [w1] at h1
          split
          ·refine(yQ _ d bJ).bind fun _ fU h2=>(ih.args (d+1) true fU).bind fun a Jh h3=>(jF _ Jh).bind fun _ BM h4=>?_
           simp only [w1] at *;show 1+wT _+_≤_;simp only [wT];omega
          ·show 1+wT (Bv nm t.l)+_≤_;simp only [Bv,wT,ES];omega
   ·unfold eU
    split
    ·show 0+_≤_;omega
    ·have h1:Gw w0 (if f=true then Re.ok () ts else aP [44] ts) ts.length:=by
      split
      ·show 0+_≤_;omega
      ·have:=jF [44] ts
       cases hr:aP [44] ts with
       | ok a fU=>rw [hr] at this;have h:1+fU.length≤ts.length:=this;show 0+_≤_;omega
       | bad c l=>trivial
       | out=>trivial
     refine h1.bind fun _ bJ h1=>(ih.expr d 1 bJ).bind fun x fU h2=>(ih.args d false fU).bind fun xs Jh h3=>?_
     simp only [Bz,w0] at *;show ES _+_≤_;simp only [ES];omega
structure WtS (n:Nat):Prop where
 block:∀d ts,Gw UW (dI n d ts) ts.length
 stmts:∀d ts,Gw wZ (gW n d ts) ts.length
 branch:∀d l ts,Gw wS1 (dQ n d l ts) ts.length
 ended:∀d ts,Gw Bz (bW n d ts) ts.length
 stmt:∀d ts,Gw wS1 (kH n d ts) ts.length
theorem IJ (ts:List Tok):(if aY fB ts=true then ts.tail else ts).length≤ts.length:=by
 split
 ·exact n_ ts
 ·exact Nat.le_refl _
theorem wtS:∀n,WtS n
 | 0=>⟨fun _ _=>by unfold dI;trivial,fun _ _=>by unfold gW;trivial,fun _ _ _=>by unfold dQ;trivial,fun _ _=>by unfold bW;trivial,fun _ _=>by unfold kH;trivial⟩
 | n+1=>by
   have ih:=wtS n
   have ie:=wtE n
   refine⟨fun d ts=>?_,fun d ts=>?_,fun d l ts=>?_,fun d ts=>?_,fun d ts=>?_⟩
   ·unfold dI
    refine(yQ _ d ts).bind fun _ bJ h1=>(ih.stmts (d+1) bJ).bind fun l fU h2=>(jF _ fU).bind fun _ Jh h3=>?_
    simp only [w1] at *;show 1+wZ l+_≤_;omega
   ·unfold gW
    split
    ·show 0+_≤_;omega
    ·refine(ih.stmt d ts).bind fun x bJ h1=>(ih.stmts d bJ).bind fun l fU h2=>?_
     simp only [wS1] at *;show wZ _+_≤_;simp only [wZ];omega
   ·unfold dQ
    refine(ie.expr d 1 ts).bind fun c bJ h1=>(ih.block d bJ).bind fun th fU h2=>?_
    simp only [Bz,UW] at *
    have t1:=n_ fU
    have t2:=n_ fU.tail
    have t3:=n_ fU.tail.tail
    split
    ·split
     ·refine(ih.branch d _ _).bind fun b wu h5=>?_
      simp only [wS1] at *;show 1+wS _+_≤_;simp only [wS,wZ,wT];omega
     ·refine(ih.block d _).bind fun b wu h5=>?_
      simp only [UW] at *;show 1+wS _+_≤_;simp only [wS,wT];omega
    ·show 1+wS _+_≤_;simp only [wS,wZ,wT];omega
   ·unfold bW
    refine(ie.expr d 1 ts).bind fun c bJ h1=>(jF _ bJ).bind fun _ fU h2=>?_
    simp only [Bz,w1] at *;show 1+wT c+_≤_;omega
   ·cases ts with
    | nil=>unfold kH;trivial
    | cons t r=>
      unfold kH
      split
      ·refine(yR r).bind fun nm bJ h1=>?_
       have h2:=IJ bJ
       simp only [w1] at h1 ⊢
       generalize (if aY fB bJ=true then bJ.tail else bJ)=fU at h2 ⊢
       have t2:=n_ fU
       split
       ·refine(ih.ended d _).bind fun x BM h4=>?_
        simp only [Bz] at *;show 1+wS _+_≤_;simp only [wS,wZ,wT,List.length_cons];omega
       ·refine(jF _ fU).bind fun _ BM h4=>?_
        simp only [w1] at *;show 1+wS _+_≤_;simp only [wS,wZ,wT,List.length_cons];omega
      ·split
       ·exact(ih.branch d _ r).mono (by simp)
       ·split
        ·refine(ie.expr d 1 r).bind fun c bJ h1=>(ih.block d bJ).bind fun th fU h2=>?_
         simp only [Bz,UW] at *;show 1+wS _+_≤_;simp only [wS,wZ,wT,List.length_cons];omega
        ·split
         ·refine(ih.ended d r).bind fun x bJ h1=>?_
          simp only [Bz] at *;show 1+wS _+_≤_;simp only [wS,wZ,wT,List.length_cons];omega
         ·split
          ·refine(ih.ended d r).bind fun x bJ h1=>?_
           simp only [Bz] at *;show 1+wS _+_≤_;simp only [wS,wZ,wT,List.length_cons];omega
          ·split
           ·refine(jF _ r).bind fun x bJ h1=>?_
            simp only [w1] at *;show 1+wS _+_≤_;simp only [wS,wZ,wT,List.length_cons];omega
           ·split
            ·split
             ·have:=n_ r;show 1+wS _+_≤_;simp only [wS,wZ,wT,List.length_cons];omega
             ·refine(ih.ended d r).bind fun x bJ h1=>?_
              simp only [Bz] at *;show 1+wS _+_≤_;simp only [wS,wZ,wT,List.length_cons];omega
            ·refine(ie.post d _).bind fun x bJ h1=>?_
             have t1:=n_ bJ
             cases x with
             | nil=>trivial
             | ex k n' nm tx l r' a ln=>
               simp only [Bz] at h1 ⊢
               split
               ·split
                ·refine(ih.ended d _).bind fun y fU h2=>?_
                 simp only [Bz,wT] at *;show 1+wS _+_≤_;simp only [wS,wZ,wT];omega
                ·split
                 ·refine(ih.ended d _).bind fun y fU h2=>?_
                  simp only [Bz,wT] at *;show 1+wS _+_≤_;simp only [wS,wZ,wT];omega
                 ·trivial
               ·split
                ·refine(jF _ bJ).bind fun _ fU h2=>?_
                 simp only [w1,wT] at *;show 1+wS _+_≤_;simp only [wS,wZ,wT];omega
                ·trivial
theorem GK:∀(n:Nat) (f:Bool) (ts:List Tok),Gw List.length (bY n f ts) ts.length
 | 0,_,_=>trivial
 | n+1,f,ts=>by
   unfold bY
   split
   ·show 0+_≤_;omega
   ·have h1:Gw w0 (if f=true then Re.ok () ts else aP [44] ts) ts.length:=by
     split
     ·show 0+_≤_;omega
     ·have:=jF [44] ts
      cases hr:aP [44] ts with
      | ok a fU=>rw [hr] at this;have h:1+fU.length≤ts.length:=this;show 0+_≤_;omega
      | bad c l=>trivial
      | out=>trivial
    refine h1.bind fun _ bJ h1=>(yR bJ).bind fun nm fU h2=>?_
    have h3:=IJ fU
    simp only [w1,w0] at *
    generalize (if aY fB fU=true then fU.tail else fU)=Jh at h3 ⊢
    refine(GK n false Jh).bind fun l BM h4=>?_
    show (_ :: l).length+_≤_
    simp only [List.length_cons];omega
theorem Ym (n:Nat)(ts:List Tok):Gw (fun f=>1+wF f) (nY n ts) ts.length:=by
 unfold nY
 refine(jF _ ts).bind fun _ bJ h1=>(yR bJ).bind fun nm fU h2=>(yQ _ 0 fU).bind fun _ Jh h3=>(GK n true Jh).bind fun ps BM h4=>(jF _ BM).bind fun _ wu h5=>?_
 have h6:=IJ wu
 simp only [w1] at *
 generalize (if aY fB wu=true then wu.tail else wu)=ts6 at h6 ⊢
 refine((wtS n).block 0 ts6).bind fun b ts7 h7=>?_
 simp only [UW] at *;show 1+wF _+_≤_;simp only [wF];omega
theorem En:∀(n:Nat) (ts:List Tok),Gw ET (gB n ts) ts.length
 | 0,_=>trivial
 | _+1,[]=>trivial
 | n+1,t :: r=>by
   unfold gB
   split
   ·show 0+_≤_;omega
   ·refine(Ym n _).bind fun f bJ h1=>(En n bJ).bind fun l fU h2=>?_
    show ET _+_≤_;simp only [ET];omega
mutual
def jT:Tr→Tr→Bool
 | .nil,.nil=>true
 | .ex k n nm tx l r al1 _,.ex k' n' nm' Mc l' r' al2 _=>(k == k' && n == n' && nm == nm' && tx == Mc) && (jY al1 al2 && jT l l' && jT r r')
 | _,_=>false
def jY:rF→rF→Bool
 | .nil,.nil=>true
 | .cons a r,.cons b s=>jT a b && jY r s
 | _,_=>false
end
mutual
def o_:Sm→Sm→Bool
 | .st k nm p l r th el _,.st k' nm' p' l' r' th' el' _=>(k == k' && nm == nm' && p == p') && (jT l l' && jT r r' && gZ th th' && gZ el el')
def gZ:oO→oO→Bool
 | .nil,.nil=>true
 | .cons a r,.cons b s=>o_ a b && gZ r s
 | _,_=>false
end
def wz (f g:Fm):Bool:=f.name == g.name && f.ptr == g.ptr && f.params == g.params && gZ f.body g.body
def fV:List Fm→List Fm→Bool
 | [],[]=>true
 | a :: r,b :: s=>wz a b && fV r s
 | _,_=>false
theorem w_:∀(a b:rF),(mO a).length=(mO b).length→(∀(i:Nat) x y,(mO a)[i]? =some x→(mO b)[i]? =some y→jT x y=true)→jY a b=true
 | .nil,.nil,_,_=>rfl
 | .cons a r,.cons b s,hl,h=>by
   rw [jY,h 0 a b rfl rfl,w_ r s (by simpa [mO] using hl) fun i x y hx hy=>h (i+1) x y hx hy];rfl
 | .nil,.cons _ _,h,_=>by simp [mO] at h
 | .cons _ _,.nil,h,_=>by simp [mO] at h
theorem oh:∀(a b:rF),(mO a).length≠(mO b).length→jY a b=false
 | .nil,.nil,h=>(h rfl).elim
 | .cons a r,.cons b s,h=>by
   rw [jY,oh r s (by simpa [mO] using h)];simp
 | .nil,.cons _ _,_=>rfl
 | .cons _ _,.nil,_=>rfl
theorem xk:∀(a b:rF) (i:Nat) (x y:Tr),(mO a)[i]? =some x→(mO b)[i]? =some y→jT x y=false→jY a b=false
 | .nil,.nil,i,x,y,h,_,_=>by simp [mO] at h
 | .cons a r,.cons b s,0,x,y,hx,hy,h=>by
   simp only [mO,List.getElem?_cons_zero,Option.some.injEq] at hx hy;subst hx;subst hy
   rw [jY,h];rfl
 | .cons a r,.cons b s,i+1,x,y,hx,hy,h=>by
   rw [jY,xk r s i x y hx hy h];simp
 | .nil,.cons _ _,i,x,y,h,_,_=>by simp [mO] at h
 | .cons _ _,.nil,i,x,y,_,h,_=>by simp [mO] at h
theorem xq:∀(a b:oO),(lS a).length=(lS b).length→(∀(i:Nat) x y,(lS a)[i]? =some x→(lS b)[i]? =some y→o_ x y=true)→gZ a b=true
 | .nil,.nil,_,_=>rfl
 | .cons a r,.cons b s,hl,h=>by
   rw [gZ,h 0 a b rfl rfl,xq r s (by simpa [lS] using hl) fun i x y hx hy=>h (i+1) x y hx hy];rfl
 | .nil,.cons _ _,h,_=>by simp [lS] at h
 | .cons _ _,.nil,h,_=>by simp [lS] at h
theorem oq:∀(a b:oO),(lS a).length≠(lS b).length→gZ a b=false
 | .nil,.nil,h=>(h rfl).elim
 | .cons a r,.cons b s,h=>by
   rw [gZ,oq r s (by simpa [lS] using h)];simp
 | .nil,.cons _ _,_=>rfl
 | .cons _ _,.nil,_=>rfl
theorem xu:∀(a b:oO) (i:Nat) (x y:Sm),(lS a)[i]? =some x→(lS b)[i]? =some y→o_ x y=false→gZ a b=false
 | .nil,.nil,i,x,y,h,_,_=>by simp [lS] at h
 | .cons a r,.cons b s,0,x,y,hx,hy,h=>by
   simp only [lS,List.getElem?_cons_zero,Option.some.injEq] at hx hy;subst hx;subst hy
   rw [gZ,h];rfl
 | .cons a r,.cons b s,i+1,x,y,hx,hy,h=>by
   rw [gZ,xu r s i x y hx hy h];simp
 | .nil,.cons _ _,i,x,y,h,_,_=>by simp [lS] at h
 | .cons _ _,.nil,i,x,y,_,h,_=>by simp [lS] at h
theorem xw:∀(a b:List Fm),a.length=b.length→(∀(i:Nat) x y,a[i]? =some x→b[i]? =some y→wz x y=true)→fV a b=true
 | [],[],_,_=>rfl
 | a :: r,b :: s,hl,h=>by
   rw [fV,h 0 a b rfl rfl,xw r s (by simpa using hl) fun i x y hx hy=>h (i+1) x y hx hy];rfl
 | [],_ :: _,h,_=>by simp at h
 | _ :: _,[],h,_=>by simp at h
theorem qQ:∀(a b:List Fm),a.length≠b.length→fV a b=false
 | [],[],h=>(h rfl).elim
 | a :: r,b :: s,h=>by
   rw [fV,qQ r s (by simpa using h)];simp
 | [],_ :: _,_=>rfl
 | _ :: _,[],_=>rfl
theorem xA:∀(a b:List Fm) (i:Nat) (x y:Fm),a[i]? =some x→b[i]? =some y→wz x y=false→fV a b=false
 | [],[],i,x,y,h,_,_=>by simp at h
 | a :: r,b :: s,0,x,y,hx,hy,h=>by
   simp only [List.getElem?_cons_zero,Option.some.injEq] at hx hy;subst hx;subst hy
   rw [fV,h];rfl
 | a :: r,b :: s,i+1,x,y,hx,hy,h=>by
   rw [fV,xA r s i x y hx hy h];simp
 | [],_ :: _,i,x,y,h,_,_=>by simp at h
 | _ :: _,[],i,x,y,_,h,_=>by simp at h
end Go.bG.YtjcicgkencfbgaaGreatDoor
namespace Go.bG.YtjcicgkencfbgaaGreatDoor
open Go.Proofs
set_option maxRecDepth 4000
mutual
def bK (S:Nat→Prop)(σ:St)(v:AV):Tr→Prop
 | .nil=>v= .p0
 | .ex k n name text l r args line=>∃(o g:Nat) (L R A:AV),S o∧v= .p o g 0∧σ[o]? =some ⟨g,false,.cells 67 [.i .i64 k,.i .u32 n,.s name,.s text,L,R,A,.i .i64 line]⟩∧bK S σ L l∧bK S σ R r∧kJ S σ A args
def kJ (S:Nat→Prop)(σ:St)(v:AV):rF→Prop
 | .nil=>v= .sl0
 | .cons t r=>∃(o g:Nat) (cs:List AV),S o∧v= .sl o g 0 cs.length 1∧σ[o]? =some ⟨g,false,.cells 62 cs⟩∧∃a tl,cs=a :: tl∧bK S σ a t∧tX S σ tl r
def tX (S:Nat→Prop)(σ:St)(cs:List AV):rF→Prop
 | .nil=>cs=[]
 | .cons t r=>∃a tl,cs=a :: tl∧bK S σ a t∧tX S σ tl r
end
mutual
theorem bK.mono {S S':Nat→Prop} {σ σ':St} (h1:∀o,S o→S' o)(h2:∀o,S o→∀a,σ[o]? =some a→σ'[o]? =some a):∀{t:Tr} {v:AV},bK S σ v t→bK S' σ' v t
 | .nil,v,h=>h
 | .ex k n name text l r args line,v,h=>by
   obtain⟨o,g,L,R,A,hs,hv,ho,hl,hr,ha⟩:=h
   exact⟨o,g,L,R,A,h1 o hs,hv,h2 o hs _ ho,bK.mono h1 h2 hl,bK.mono h1 h2 hr,kJ.mono h1 h2 ha⟩
theorem kJ.mono {S S':Nat→Prop} {σ σ':St} (h1:∀o,S o→S' o)(h2:∀o,S o→∀a,σ[o]? =some a→σ'[o]? =some a):∀{t:rF} {v:AV},kJ S σ v t→kJ S' σ' v t
 | .nil,v,h=>h
 | .cons t r,v,h=>by
   obtain⟨o,g,cs,hs,hv,ho,a,tl,hc,hx,hl⟩:=h
   exact⟨o,g,cs,h1 o hs,hv,h2 o hs _ ho,a,tl,hc,bK.mono h1 h2 hx,tX.mono h1 h2 hl⟩
theorem tX.mono {S S':Nat→Prop} {σ σ':St} (h1:∀o,S o→S' o)(h2:∀o,S o→∀a,σ[o]? =some a→σ'[o]? =some a):∀{t:rF} {cs:List AV},tX S σ cs t→tX S' σ' cs t
 | .nil,cs,h=>h
 | .cons t r,cs,h=>by
   obtain⟨a,tl,hc,h3,h4⟩:=h
   exact⟨a,tl,hc,bK.mono h1 h2 h3,tX.mono h1 h2 h4⟩
end
mutual
theorem bK.below {S:Nat→Prop} {σ:St} :∀{t:Tr} {v:AV},bK S σ v t→bK (fun o=>S o∧o<σ.length) σ v t
 | .nil,v,h=>h
 | .ex k n name text l r args line,v,h=>by
   obtain⟨o,g,L,R,A,hs,hv,ho,hl,hr,ha⟩:=h
   exact⟨o,g,L,R,A,⟨hs,aX ho⟩,hv,ho,bK.below hl,bK.below hr,kJ.below ha⟩
theorem kJ.below {S:Nat→Prop} {σ:St} :∀{t:rF} {v:AV},kJ S σ v t→kJ (fun o=>S o∧o<σ.length) σ v t
 | .nil,v,h=>h
 | .cons t r,v,h=>by
   obtain⟨o,g,cs,hs,hv,ho,a,tl,hc,hx,hl⟩:=h
   exact⟨o,g,cs,⟨hs,aX ho⟩,hv,ho,a,tl,hc,bK.below hx,tX.below hl⟩
theorem tX.below {S:Nat→Prop} {σ:St} :∀{t:rF} {cs:List AV},tX S σ cs t→tX (fun o=>S o∧o<σ.length) σ cs t
 | .nil,cs,h=>h
 | .cons t r,cs,h=>by
   obtain⟨a,tl,hc,h3,h4⟩:=h
   exact⟨a,tl,hc,bK.below h3,tX.below h4⟩
end
structure aI (p:Nat)(σ σ':St):Prop where
 len:σ.length≤σ'.length
 old:∀i,i<σ.length→i≠p→σ'[i]? =σ[i]?
theorem aI.refl (p:Nat)(σ:St):aI p σ σ:=⟨Nat.le_refl _,fun _ _ _=>rfl⟩
theorem aI.trans {p:Nat} {a b c:St} (h:aI p a b)(k:aI p b c):aI p a c:=
 ⟨Nat.le_trans h.len k.len,fun i hi hp=>by rw [k.old i (Nat.lt_of_lt_of_le hi h.len) hp,h.old i hi hp]⟩
theorem aI.of {p:Nat} {a b:St} (h:Ext a b):aI p a b:=⟨h.len,fun i hi _=>h.old i hi⟩
theorem aI.new {p:Nat} {a b:St} (h:aI p a b)(e:Nat)(cs:List AV):aI p a (au e cs b):=h.trans (.of ((Ext.refl b).new e cs))
theorem aI.xB {p:Nat} {a b:St} (h:aI p a b)(x:AO):aI p a (b.set p x):=
 ⟨by rw [List.length_set];exact h.len,fun i hi hp=>by rw [List.getElem?_set_ne (fun e=>hp e.symm)];exact h.old i hi hp⟩
theorem aI.set {p:Nat} {a b:St} (h:aI p a b) {o:Nat} (ho:a.length≤o)(x:AO):aI p a (b.set o x):=
 ⟨by rw [List.length_set];exact h.len,fun i hi hp=>by rw [List.getElem?_set_ne (fun e=>by omega)];exact h.old i hi hp⟩
theorem aI.get {p:Nat} {σ σ':St} (h:aI p σ σ') {o:Nat} {a:AO} (hp:o≠p)(ho:σ[o]? =some a):σ'[o]? =some a:=by rw [h.old o (aX ho) hp];exact ho
theorem aI.take {p:Nat} {σ σ':St} (h:aI p σ σ') {n:Nat} (hp:n≤p)(hn:n≤σ.length):σ'.take n=σ.take n:=by
 apply List.ext_getElem?
 intro i
 rw [List.getElem?_take,List.getElem?_take]
 split
 ·exact h.old i (by omega) (by omega)
 ·rfl
end Go.bG.YtjcicgkencfbgaaGreatDoor
namespace Go.bG.YtjcicgkencfbgaaGreatDoor
open Go.Proofs
set_option maxRecDepth 4000
def kK (w g n m d:Nat)(b:Bool)(c l:Nat):List AV:=[.sl w g 0 n 3,.i .i64 m,.i .i64 d,.b b,.i .i64 c,.i .i64 l]
structure PO (p w g:Nat)(all:List Tok)(σ:St)(m d:Nat)(b:Bool)(c l:Nat):Prop where
 obj:σ[p]? =some ⟨0,false,.cells 49 (kK w g all.length m d b c l)⟩
 tok:σ[w]? =some ⟨g,false,.cells 38 (dX all)⟩
 ne:w≠p
 len:all.length≤40000
 at_:m<all.length
 dp:d≤1000
theorem qU:∀(all:List Tok) (m:Nat) (t:Tok),all[m]? =some t→((dX all).drop (m*3)).take 3=gI t.k t.s t.l
 | x :: l,0,t,h=>by cases h;simp [dX,gI]
 | x :: l,m+1,t,h=>by
   have e:dX (x :: l)=gI x.k x.s x.l ++ dX l:=rfl
   rw [e,show (m+1)*3=3+m*3 by omega,←List.drop_drop,List.drop_left' (by rfl)]
   exact qU l m t h
def dH (s:List UInt8)(t:Tok):Bool:=(t.k == 4 || t.k == 3) && t.s == s
def fF (p w g n:Nat)(σ:St)(m d:Nat)(b:Bool)(c l:Nat):St:=σ.set p ⟨0,false,.cells 49 (kK w g n m d b c l)⟩
theorem PO.set {p w g m d:Nat} {b:Bool} {c l:Nat} {all:List Tok} {σ:St} (h:PO p w g all σ m d b c l) {m' d':Nat} {b':Bool} {c' l':Nat} (hm:m'< all.length)(hd:d'≤1000):PO p w g all (fF p w g all.length σ m' d' b' c' l') m' d' b' c' l':=
 ⟨at_set h.obj _,aK h.tok h.ne.symm _,h.ne,h.len,hm,hd⟩
end Go.bG.YtjcicgkencfbgaaGreatDoor
namespace Go.bG.YtjcicgkencfbgaaGreatDoor
open Go.Proofs
set_option maxRecDepth 4000
theorem jV {σ σ':St} {v:AV} {Q:AV→St→Prop} {p:Nat} {a b:AO} (ho:σ[p]? =some a)(ho':σ'[p]? =some b)(hab:a≠b)(q:Q v σ'):Fin σ v σ' Q:=Fin.ne (fun e=>by
 have h:=congrArg (fun l=>l[p]?) e
 simp only [List.getElem?_take,if_pos (aX ho),ho,ho'] at h
 exact hab (Option.some.inj h).symm) q
theorem IK:∀(s:List UInt8) (n:Nat),n≤qP n s
 | [],n=>Nat.le_refl _
 | c :: s,n=>Nat.le_trans (show n≤10*n+(c.toNat - 48) by omega) (IK s _)
end Go.bG.YtjcicgkencfbgaaGreatDoor
namespace Go.bG.YtjcicgkencfbgaaGreatDoor
open Go.Proofs
set_option maxRecDepth 4000
theorem PO.new {p w g m d c l:Nat} {b:Bool} {all:List Tok} {σ:St} (h:PO p w g all σ m d b c l)(e:Nat)(cs:List AV):PO p w g all (au e cs σ) m d b c l:=⟨at_new h.obj _ _,at_new h.tok _ _,h.ne,h.len,h.at_,h.dp⟩
theorem PO.ext {p w g n m d c l:Nat} {b:Bool} {σ:St} :aI p σ (fF p w g n σ m d b c l):=(aI.refl p σ).xB _
end Go.bG.YtjcicgkencfbgaaGreatDoor
namespace Go.bG.YtjcicgkencfbgaaGreatDoor
open Go.Proofs
set_option maxRecDepth 4000
def PE (p w g:Nat)(all:List Tok)(σ:St)(d:Nat)(Q:AV→St→Prop):Re Tr→Prop
 | .ok t ts=>∀o g' σ' m' c l,aI p σ σ'→PO p w g all σ' m' d false c l→all.drop m'= ts→bK (fun i=>σ.length≤i) σ' (.p o g' 0) t→Q (.p o g' 0) σ'
 | .bad c l=>∀o g' σ' m',aI p σ σ'→PO p w g all σ' m' d true c l→Q (.p o g' 0) σ'
 | .out=>True
theorem aW {all:List Tok} {m:Nat} {t:Tok} {r:List Tok} (h:all.drop m=t :: r):all[m]? =some t∧all.drop (m+1)=r:=by
 constructor
 ·have:=congrArg List.head? h
  rw [List.head?_drop] at this;exact this
 ·rw [←List.tail_drop,h];rfl
theorem jv {all:List Tok} {m:Nat} (h:aU (all.drop m)):m<all.length:=by
 rcases Nat.lt_or_ge m all.length with hl | hl
 ·exact hl
 ·rw [List.drop_of_length_le hl] at h;exact h.elim
def PL (k j:Nat)(p w g:Nat)(all:List Tok)(B:Nat)(σ:St)(d:Nat)(Q:Out→Env→St→Prop):Re Tr→Prop
 | .ok t ts=>∀o g' σ' m' c l e',get e' k= .p o g' 0→aI p σ σ'→PO p w g all σ' m' d false c l→all.drop m'= ts→bK (fun i=>B≤i) σ' (.p o g' 0) t→Q .ret e' σ'
 | .bad c l=>∀o g' σ' m' e',get e' j= .p o g' 0→get e' 1000000= .u→aI p σ σ'→PO p w g all σ' m' d true c l→Q (.exit 0) e' σ'
 | .out=>True
section
variable {p w g:Nat} {all:List Tok} {n:Nat}
theorem aN {s:List UInt8} {m:Nat} {t:Tok} {r:List Tok} (he:aU (all.drop m))(hts:all.drop m=t :: r)(hi:dH s t=true):m+1<all.length∧aU (all.drop (m+1))∧(all.drop (m+1)).length<(all.drop m).length:=by
 have h1:=jq (s:=s) he (by rw [hts];exact hi)
 rw [hts] at h1
 have e:all.drop (m+1)=r:=(aW hts).2
 have h2:aU (all.drop (m+1)):=by rw [e];exact h1.1
 exact⟨jv h2,h2,by rw [e,hts];simp⟩
end
end Go.bG.YtjcicgkencfbgaaGreatDoor
namespace Go.bG.YtjcicgkencfbgaaGreatDoor
open Go.Proofs
set_option maxRecDepth 4000
theorem PE.to {p w g d:Nat} {all:List Tok} {σ σ1:St} {Q Q':AV→St→Prop} {r:Re Tr} (hQ:PE p w g all σ d Q r)(x1:aI p σ σ1)(k:∀o g' s,Q (.p o g' 0) s→Q' (.p o g' 0) s):PE p w g all σ1 d Q' r:=by
 cases r with
 | out=>trivial
 | bad c l=>exact fun o g' σ2 m2 x2 h2=>k _ _ _ (hQ o g' σ2 m2 (x1.trans x2) h2)
 | ok x ts=>exact fun o g' σ2 m2 c2 l2 x2 h2 hm hex=>k _ _ _ (hQ o g' σ2 m2 c2 l2 (x1.trans x2) h2 hm (bK.mono (fun i hi=>Nat.le_trans x1.len hi) (fun i hi a ha=>ha) hex))
def oC (all:List Tok):Prop:=∀z∈all,z.k=2→(∀c∈z.s,48≤c.toNat∧c.toNat≤57)∧qP 0 z.s<4294967296∧z.s.length≤100000
section
variable {p w g:Nat} {all:List Tok} {n:Nat}
end
end Go.bG.YtjcicgkencfbgaaGreatDoor
namespace Go.bG.YtjcicgkencfbgaaGreatDoor
open Go.Proofs
set_option maxRecDepth 4000
section
variable {p w g:Nat} {all:List Tok} {n:Nat}
theorem PL.ext {k j B d:Nat} {σ σ1:St} {Q:Out→Env→St→Prop} {r:Re Tr} (hQ:PL k j p w g all B σ d Q r)(x1:aI p σ σ1):PL k j p w g all B σ1 d Q r:=by
 cases r with
 | out=>trivial
 | bad c l=>exact fun o g' σ2 m2 e' q1 q2 x2 h2=>hQ o g' σ2 m2 e' q1 q2 (x1.trans x2) h2
 | ok x ts=>exact fun o g' σ2 m2 c2 l2 e' q1 x2 h2 hm hex=>hQ o g' σ2 m2 c2 l2 e' q1 (x1.trans x2) h2 hm hex
theorem bK.ext {B:Nat} {σ σ1:St} {v:AV} {x:Tr} (h:bK (fun i=>B≤i) σ v x)(x1:aI p σ σ1)(hp:p<B):bK (fun i=>B≤i) σ1 v x:=bK.mono (fun i hi=>hi) (fun i hi a ha=>x1.get (by omega) ha) h
theorem PE.U1 {k j d:Nat} {σ σ1:St} {Q:AV→St→Prop} {Q':Out→Env→St→Prop} {r:Re Tr} (hQ:PE p w g all σ d Q r)(x1:aI p σ σ1)(kr:∀o g' s e',get e' k= .p o g' 0→Q (.p o g' 0) s→Q' .ret e' s)
 (kx:∀o g' s e',get e' j= .p o g' 0→get e' 1000000= .u→Q (.p o g' 0) s→Q' (.exit 0) e' s):PL k j p w g all σ.length σ1 d Q' r:=by
 cases r with
 | out=>trivial
 | bad c l=>exact fun o g' σ2 m2 e' q1 q2 x2 h2=>kx _ _ _ _ q1 q2 (hQ o g' σ2 m2 (x1.trans x2) h2)
 | ok x ts=>exact fun o g' σ2 m2 c2 l2 e' q1 x2 h2 hm hex=>kr _ _ _ _ q1 (hQ o g' σ2 m2 c2 l2 (x1.trans x2) h2 hm hex)
end
end Go.bG.YtjcicgkencfbgaaGreatDoor
namespace Go.bG.YtjcicgkencfbgaaGreatDoor
open Go.Proofs
set_option maxRecDepth 4000
theorem GL (s:List UInt8):fM s≤6:=by
 unfold fM
 repeat' split
 all_goals omega
section
variable {p w g:Nat} {all:List Tok} {n:Nat}
end
end Go.bG.YtjcicgkencfbgaaGreatDoor
namespace Go.bG.YtjcicgkencfbgaaGreatDoor
open Go.Proofs
set_option maxRecDepth 4000
def Et (B:Nat)(σ:St)(v:AV)(cs:List AV):Prop:=(cs=[]∧v= .sl0)∨∃o g,B≤o∧v= .sl o g 0 cs.length 1∧σ[o]? =some ⟨g,false,.cells 62 cs⟩∧cs≠[]
def apart (v:AV)(i:Nat):Prop:=∀o g n z,v= .sl o g 0 n z→i≠o
theorem Cj {B:Nat} {σ:St} {v:AV} {cs:List AV} (h:Et B σ v cs) {oy gy:Nat} (hcs:cs.all AV.one=true)(hl:cs.length≤100000) {C:Nat} (hC:σ[C]? =some ⟨0,false,.cells 62 [.p oy gy 0]⟩)(hB:B≤σ.length) {Q:AV→St→Prop}
 (q:∀v' σ',Et B σ' v' (cs ++ [.p oy gy 0])→σ.length≤σ'.length→(∀i,i<σ.length→apart v i→σ'[i]? =σ[i]?∧apart v' i)→(∀i,i<B→σ'[i]? =σ[i]?)→(∀i,σ'.length≤i→apart v' i)→Q v' σ') :
 DX L_.get false 65 v (.sl C 0 0 1 1) σ Q:=by
 constructor
 refine ak (v:=ji) rfl ?_
 refine ak (v:=bC) rfl ?_
 refine ak (kG hC (Nat.le_of_ble_eq_true rfl)) ?_
 rcases h with ⟨rfl,rfl⟩ | ⟨o,g,h1,rfl,h3,_⟩
 ·refine⟨Nat.le_of_ble_eq_true rfl,?_⟩
  refine q _ _ (.inr ⟨σ.length,0,hB,rfl,?_,by simp⟩) (by rw [aH];omega) (fun i hi _=>⟨dn hi,fun o g n z e=>by cases e;omega⟩) (fun i hi=>dn (by omega)) (fun i hi o g n z e=>by cases e;rw [aH] at hi;omega)
  rw [aG];rfl
 ·refine ak (qc h3) ?_
  refine⟨rfl,by simp,?_,by rw [List.drop_zero,List.take_of_length_le (by omega)];exact hcs,?_⟩
  ·show (cs.length+1)*8≤_;omega
  refine q _ _ (.inr ⟨o,g+1,h1,by simp,?_,by simp⟩) (by rw [List.length_set];exact Nat.le_refl _) (fun i hi ha=>⟨by rw [List.getElem?_set_ne (fun e=>ha o g _ _ rfl e.symm)],fun o' g' n z e=>by cases e;exact ha o g _ _ rfl⟩) (fun i hi=>by rw [List.getElem?_set_ne (by omega)]) (fun i hi o' g' n z e=>by cases e;rw [List.length_set] at hi;have:=aX h3;omega)
  rw [at_set h3]
  simp [List.take_of_length_le]
  rfl
def fP (S:Nat→Prop)(σ:St):List AV→List Tr→Prop
 | [],[]=>True
 | a :: cs,x :: xs=>(∃o g,a= .p o g 0)∧bK S σ a x∧fP S σ cs xs
 | _,_=>False
theorem fP.mono {S S':Nat→Prop} {σ σ':St} (h1:∀o,S o→S' o)(h2:∀o,S o→∀a,σ[o]? =some a→σ'[o]? =some a):∀{cs:List AV} {xs:List Tr},fP S σ cs xs→fP S' σ' cs xs
 | [],[],_=>trivial
 | a :: cs,x :: xs,h=>⟨h.1,bK.mono h1 h2 h.2.1,fP.mono h1 h2 h.2.2⟩
theorem fP.snoc {S:Nat→Prop} {σ:St} :∀{cs:List AV} {xs:List Tr} {a:AV} {x:Tr},fP S σ cs xs→(∃o g,a= .p o g 0)→bK S σ a x→fP S σ (cs ++ [a]) (xs ++ [x])
 | [],[],a,x,_,ha,hx=>⟨ha,hx,trivial⟩
 | b :: cs,y :: xs,a,x,h,ha,hx=>⟨h.1,h.2.1,fP.snoc h.2.2 ha hx⟩
theorem fP.len {S:Nat→Prop} {σ:St} :∀{cs:List AV} {xs:List Tr},fP S σ cs xs→cs.length=xs.length
 | [],[],_=>rfl
 | a :: cs,x :: xs,h=>by have:=fP.len h.2.2;simp [this]
theorem fP.one {S:Nat→Prop} {σ:St} :∀{cs:List AV} {xs:List Tr},fP S σ cs xs→cs.all AV.one=true
 | [],[],_=>rfl
 | a :: cs,x :: xs,h=>by
   obtain⟨o,g,rfl⟩:=h.1
   rw [List.all_cons,fP.one h.2.2];rfl
def KR:List Tr→rF
 | []=>.nil
 | x :: xs=>.cons x (KR xs)
def rG:rF→List Tr
 | .nil=>[]
 | .cons x xs=>x :: rG xs
theorem U2:∀xs:rF,KR (rG xs)=xs
 | .nil=>rfl
 | .cons x xs=>by show rF.cons x (KR (rG xs))=_;rw [U2 xs]
theorem fP.argL {S:Nat→Prop} {σ:St} :∀{cs:List AV} {xs:List Tr},fP S σ cs xs→tX S σ cs (KR xs)
 | [],[],_=>rfl
 | a :: cs,x :: xs,h=>⟨a,cs,rfl,h.2.1,fP.argL h.2.2⟩
def kV (B:Nat)(σ:St)(v:AV)(xs:List Tr):Prop:=∃cs,Et B σ v cs∧fP (fun i=>B≤i∧apart v i) σ cs xs
theorem kV.arg {B:Nat} {σ:St} {v:AV} {xs:List Tr} (h:kV B σ v xs):kJ (fun i=>B≤i) σ v (KR xs):=by
 obtain⟨cs,h1,h2'⟩:=h
 have h2:fP (fun i=>B≤i) σ cs xs:=h2'.mono (fun i hi=>hi.1) (fun i hi a ha=>ha)
 rcases h1 with ⟨rfl,rfl⟩ | ⟨o,g,q1,rfl,q3,q4⟩
 ·cases xs with
  | nil=>rfl
  | cons _ _=>exact h2.elim
 ·cases cs with
  | nil=>
    cases xs with
    | nil=>exact(q4 rfl).elim
    | cons _ _=>exact h2.elim
  | cons a cs=>
    cases xs with
    | nil=>exact h2.elim
    | cons x xs=>exact⟨o,g,a :: cs,q1,rfl,q3,a,cs,rfl,h2.2.1,h2.2.2.argL⟩
end Go.bG.YtjcicgkencfbgaaGreatDoor
namespace Go.bG.YtjcicgkencfbgaaGreatDoor
open Go.Proofs
set_option maxRecDepth 4000
structure pJ (p B:Nat)(σ σ':St):Prop where
 len:σ.length≤σ'.length
 old:∀i,i<B→i≠p→σ'[i]? =σ[i]?
theorem pJ.refl (p B:Nat)(σ:St):pJ p B σ σ:=⟨Nat.le_refl _,fun _ _ _=>rfl⟩
theorem pJ.trans {p B:Nat} {a b c:St} (h:pJ p B a b)(k:pJ p B b c):pJ p B a c:=⟨Nat.le_trans h.len k.len,fun i hi hp=>by rw [k.old i hi hp,h.old i hi hp]⟩
theorem pJ.of {p B:Nat} {a b:St} (h:aI p a b)(hB:B≤a.length):pJ p B a b:=⟨h.len,fun i hi hp=>h.old i (by omega) hp⟩
def yT (v:AV):Prop:=v= .sl0∨∃o g n,v= .sl o g 0 n 1
section
variable {p w g:Nat} {all:List Tok} {n:Nat}
theorem Et.sl {B:Nat} {σ:St} {v:AV} {cs:List AV} (h:Et B σ v cs):yT v:=by
 rcases h with ⟨_,rfl⟩ | ⟨o,g,_,rfl,_⟩
 ·exact .inl rfl
 ·exact .inr ⟨_,_,_,rfl⟩
theorem PO.keep {m d c l:Nat} {b:Bool} {σ σ':St} (h:PO p w g all σ m d b c l)(h1:σ'[p]? =σ[p]?)(h2:σ'[w]? =σ[w]?):PO p w g all σ' m d b c l:=⟨h1.trans h.obj,h2.trans h.tok,h.ne,h.len,h.at_,h.dp⟩
theorem fP.below {S:Nat→Prop} {σ:St} :∀{cs:List AV} {xs:List Tr},fP S σ cs xs→fP (fun o=>S o∧o<σ.length) σ cs xs
 | [],[],_=>trivial
 | a :: cs,x :: xs,h=>⟨h.1,h.2.1.below,h.2.2.below⟩
end
end Go.bG.YtjcicgkencfbgaaGreatDoor
namespace Go.bG.YtjcicgkencfbgaaGreatDoor
open Go.Proofs
set_option maxRecDepth 4000
section
variable {p w g:Nat} {all:List Tok} {n:Nat}
end
end Go.bG.YtjcicgkencfbgaaGreatDoor
namespace Go.bG.YtjcicgkencfbgaaGreatDoor
open Go.Proofs
end Go.bG.YtjcicgkencfbgaaGreatDoor
namespace Go.bG.YtjcicgkencfbgaaGreatDoor
open Go.Proofs
set_option maxRecDepth 4000
section
variable {p w g:Nat} {all:List Tok} {n:Nat}
end
end Go.bG.YtjcicgkencfbgaaGreatDoor
