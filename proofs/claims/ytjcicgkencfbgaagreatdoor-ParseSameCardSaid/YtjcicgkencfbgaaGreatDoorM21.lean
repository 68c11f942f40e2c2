/- Texts of this claim, joined: Sp, Sq, Sw, Rp, Ra, Rb, Rc, Rd1, Rd2, Rd3, Rd4, Rd5, Rd6, Rd7, Rd8, Re1. -/
import Derived.Test.YtjcicgkencfbgaaGreatDoorM19
import Derived.Test.YtjcicgkencfbgaaGreatDoorM20
set_option linter.unusedVariables false
set_option linter.unusedSimpArgs false
namespace Go.bG.YtjcicgkencfbgaaGreatDoor
mutual
inductive Tr where
 | nil
 | ex (k n:Nat) (name text:List UInt8) (l r:Tr) (args:rF) (line:Nat)
inductive rF where
 | nil
 | cons (t:Tr) (r:rF)
end
mutual
inductive Sm where
 | st (k:Nat) (name:List UInt8) (ptr:Bool) (l r:Tr) (th el:oO) (line:Nat)
inductive oO where
 | nil
 | cons (s:Sm) (r:oO)
end
structure Fm where
 name:List UInt8
 params:List (List UInt8×Bool)
 ptr:Bool
 body:oO
 line:Nat
inductive Re (α:Type) where
 | ok (a:α) (ts:List Tok)
 | bad (c l:Nat)
 | out
def Re.bind {α β:Type} (r:Re α)(f:α→List Tok→Re β):Re β:=match r with
 | .ok a ts=>f a ts
 | .bad c l=>.bad c l
 | .out=>.out
def aY (s:List UInt8):List Tok→Bool
 | t :: _=>(t.k == 4 || t.k == 3) && t.s == s
 | []=>false
def jR:List Tok→Nat
 | t :: _=>t.l
 | []=>0
def aP (s:List UInt8)(ts:List Tok):Re Unit:=if aY s ts=true then .ok () ts.tail else .bad 4 (jR ts)
def gq (s:List UInt8)(d:Nat)(ts:List Tok):Re Unit:=if aY s ts=true∧64≤d then .bad 3 (jR ts) else aP s ts
def dU (ts:List Tok):Re (List UInt8):=match ts with
 | t :: r=>if t.k=1 then .ok t.s r else .bad 4 t.l
 | []=>.out
def fM (s:List UInt8):Nat:=
 if s=[124,124] then 1 else if s=[38,38] then 2 else if s=[61,61]∨s=[33,61] then 3
 else if s=[60]∨s=[60,61]∨s=[62]∨s=[62,61] then 4
 else if s=[43]∨s=[45]∨s=[124]∨s=[94] then 5
 else if s=[42]∨s=[47]∨s=[37]∨s=[38]∨s=[60,60]∨s=[62,62] then 6 else 0
def qP:Nat→List UInt8→Nat
 | n,[]=>n
 | n,c :: l=>qP (10*n+(c.toNat - 48)) l
def Fh:List UInt8:=[110,101,119]
def Yk:List UInt8:=[105,110]
def qj:List UInt8:=[101,108,115,101]
def IG:List UInt8:=[105,102]
def QB:List UInt8:=[118,97,114]
def fB:List UInt8:=[112,116,114]
def Aj:List UInt8:=[119,104,105,108,101]
def QC:List UInt8:=[111,117,116]
def GI:List UInt8:=[102,114,101,101]
def Ak:List UInt8:=[100,114,97,105,110]
def uT:List UInt8:=[114,101,116,117,114,110]
def yM:List UInt8:=[102,117,110,99]
def QD (t:Tok):Tr:=.ex 1 (qP 0 t.s) [] [] .nil .nil .nil t.l
def Bv (nm:List UInt8)(l:Nat):Tr:=.ex 2 0 nm [] .nil .nil .nil l
mutual
def dO:Nat→Nat→Nat→List Tok→Re Tr
 | 0,_,_,_=>.out
 | n+1,d,c,ts=>(Ci n d ts).bind fun x ts=>jf n d c x ts
def jf:Nat→Nat→Nat→Tr→List Tok→Re Tr
 | 0,_,_,_,_=>.out
 | _+1,_,_,_,[]=>.out
 | n+1,d,c,x,t :: r=>
   if t.k=3∧fM t.s≠0∧¬fM t.s<c then(dO n d (fM t.s+1) r).bind fun y ts=>jf n d c (.ex 3 0 [] t.s x y .nil t.l) ts
   else .ok x (t :: r)
def Ci:Nat→Nat→List Tok→Re Tr
 | 0,_,_=>.out
 | _+1,_,[]=>.out
 | n+1,d,t :: r=>
   if aY [33] (t :: r)=true∨aY [45] (t :: r)=true then
    if 64≤d then .bad 3 t.l else(Ci n (d+1) r).bind fun x ts=>.ok (.ex 3 0 [] t.s .nil x .nil t.l) ts
   else iV n d (t :: r)
def iV:Nat→Nat→List Tok→Re Tr
 | 0,_,_=>.out
 | n+1,d,ts=>(iy n d ts).bind fun x ts=>fO n d x ts
def fO:Nat→Nat→Tr→List Tok→Re Tr
 | 0,_,_,_=>.out
 | _+1,_,_,[]=>.out
 | n+1,d,x,t :: r=>
   if aY [91] (t :: r)=true then(iI n d [91] [93] (t :: r)).bind fun y ts=>fO n d (.ex 5 0 [] [] x y .nil t.l) ts
   else if aY [58] (t :: r)=true then(jS n d r).bind fun y ts=>fO n d (.ex 6 0 [] [] x y .nil t.l) ts
   else .ok x (t :: r)
def iI:Nat→Nat→List UInt8→List UInt8→List Tok→Re Tr
 | 0,_,_,_,_=>.out
 | n+1,d,a,b,ts=>(gq a d ts).bind fun _ ts=>(dO n (d+1) 1 ts).bind fun x ts=>(aP b ts).bind fun _ ts=>.ok x ts
def jS:Nat→Nat→List Tok→Re Tr
 | 0,_,_=>.out
 | _+1,_,[]=>.out
 | n+1,d,t :: r=>
   if aY [40] (t :: r)=true then iI n d [40] [41] (t :: r)
   else if t.k=2 then .ok (QD t) r
   else(dU (t :: r)).bind fun nm ts=>.ok (Bv nm t.l) ts
def iy:Nat→Nat→List Tok→Re Tr
 | 0,_,_=>.out
 | _+1,_,[]=>.out
 | n+1,d,t :: r=>
   if aY [40] (t :: r)=true then iI n d [40] [41] (t :: r)
   else if aY Fh (t :: r)=true then(iI n d [40] [41] r).bind fun x ts=>.ok (.ex 7 0 [] [] x .nil .nil t.l) ts
   else if aY Yk (t :: r)=true then(gq [40] d r).bind fun _ ts=>(aP [41] ts).bind fun _ ts=>.ok (.ex 8 0 [] [] .nil .nil .nil t.l) ts
   else if t.k=2 then .ok (QD t) r
   else(dU (t :: r)).bind fun nm ts=>
    if aY [40] ts=true then(gq [40] d ts).bind fun _ ts=>(eU n (d+1) true ts).bind fun a ts=>(aP [41] ts).bind fun _ ts=>.ok (.ex 4 0 nm [] .nil .nil a t.l) ts
    else .ok (Bv nm t.l) ts
def eU:Nat→Nat→Bool→List Tok→Re rF
 | 0,_,_,_=>.out
 | n+1,d,first,ts=>
   if aY [41] ts=true then .ok .nil ts
   else(if first=true then .ok () ts else aP [44] ts).bind fun _ ts=>(dO n d 1 ts).bind fun x ts=>(eU n d false ts).bind fun xs ts=>.ok (.cons x xs) ts
end
mutual
def dI:Nat→Nat→List Tok→Re oO
 | 0,_,_=>.out
 | n+1,d,ts=>(gq [123] d ts).bind fun _ ts=>(gW n (d+1) ts).bind fun l ts=>(aP [125] ts).bind fun _ ts=>.ok l ts
def gW:Nat→Nat→List Tok→Re oO
 | 0,_,_=>.out
 | n+1,d,ts=>
   if aY [125] ts=true then .ok .nil ts
   else(kH n d ts).bind fun x ts=>(gW n d ts).bind fun l ts=>.ok (.cons x l) ts
def dQ:Nat→Nat→Nat→List Tok→Re Sm
 | 0,_,_,_=>.out
 | n+1,d,line,ts=>(dO n d 1 ts).bind fun c ts=>(dI n d ts).bind fun th ts=>
   if aY qj ts=true then
    if aY IG ts.tail=true then(dQ n d (jR ts.tail) ts.tail.tail).bind fun b ts=>.ok (.st 4 [] false .nil c th (.cons b .nil) line) ts
    else(dI n d ts.tail).bind fun el ts=>.ok (.st 4 [] false .nil c th el line) ts
   else .ok (.st 4 [] false .nil c th .nil line) ts
def bW:Nat→Nat→List Tok→Re Tr
 | 0,_,_=>.out
 | n+1,d,ts=>(dO n d 1 ts).bind fun x ts=>(aP [59] ts).bind fun _ ts=>.ok x ts
def kH:Nat→Nat→List Tok→Re Sm
 | 0,_,_=>.out
 | _+1,_,[]=>.out
 | n+1,d,t :: r=>
   if aY QB (t :: r)=true then(dU r).bind fun nm ts=>
    let p:=aY fB ts
    let ts:=if p=true then ts.tail else ts
    if aY [61] ts=true then(bW n d ts.tail).bind fun x ts=>.ok (.st 1 nm p .nil x .nil .nil t.l) ts
    else(aP [59] ts).bind fun _ ts=>.ok (.st 1 nm p .nil .nil .nil .nil t.l) ts
   else if aY IG (t :: r)=true then dQ n d t.l r
   else if aY Aj (t :: r)=true then(dO n d 1 r).bind fun c ts=>(dI n d ts).bind fun th ts=>.ok (.st 5 [] false .nil c th .nil t.l) ts
   else if aY QC (t :: r)=true then(bW n d r).bind fun x ts=>.ok (.st 6 [] false .nil x .nil .nil t.l) ts
   else if aY GI (t :: r)=true then(bW n d r).bind fun x ts=>.ok (.st 7 [] false .nil x .nil .nil t.l) ts
   else if aY Ak (t :: r)=true then(aP [59] r).bind fun _ ts=>.ok (.st 8 [] false .nil .nil .nil .nil t.l) ts
   else if aY uT (t :: r)=true then
    if aY [59] r=true then .ok (.st 9 [] false .nil .nil .nil .nil t.l) r.tail
    else(bW n d r).bind fun x ts=>.ok (.st 9 [] false .nil x .nil .nil t.l) ts
   else(iV n d (t :: r)).bind fun x ts=>match x with
    | .nil=>.out
    | .ex k _ nm _ _ _ _ _=>
      if aY [61] ts=true then
        if k=2 then(bW n d ts.tail).bind fun y ts=>.ok (.st 2 nm false .nil y .nil .nil t.l) ts
        else if k=5∨k=6 then(bW n d ts.tail).bind fun y ts=>.ok (.st 3 [] false x y .nil .nil t.l) ts
        else .bad 4 (jR ts)
      else if k=4 then(aP [59] ts).bind fun _ ts=>.ok (.st 10 [] false .nil x .nil .nil t.l) ts
      else .bad 4 (jR ts)
end
def bY:Nat→Bool→List Tok→Re (List (List UInt8×Bool))
 | 0,_,_=>.out
 | n+1,first,ts=>
   if aY [41] ts=true then .ok [] ts
   else(if first=true then .ok () ts else aP [44] ts).bind fun _ ts=>(dU ts).bind fun nm ts=>
    let p:=aY fB ts
    (bY n false (if p=true then ts.tail else ts)).bind fun l ts=>.ok ((nm,p) :: l) ts
def nY (n:Nat)(ts:List Tok):Re Fm:=(aP yM ts).bind fun _ bJ=>(dU bJ).bind fun nm bJ=>(gq [40] 0 bJ).bind fun _ bJ=>(bY n true bJ).bind fun ps bJ=>(aP [41] bJ).bind fun _ bJ=>
 let p:=aY fB bJ
 (dI n 0 (if p=true then bJ.tail else bJ)).bind fun b bJ=>.ok ⟨nm,ps,p,b,jR ts⟩ bJ
def gB:Nat→List Tok→Re (List Fm)
 | 0,_=>.out
 | _+1,[]=>.out
 | n+1,t :: r=>if t.k=5 then .ok [] (t :: r) else(nY n (t :: r)).bind fun f ts=>(gB n ts).bind fun l ts=>.ok (f :: l) ts
end Go.bG.YtjcicgkencfbgaaGreatDoor
namespace Go.bG.YtjcicgkencfbgaaGreatDoor
def aU:List Tok→Prop
 | []=>False
 | t :: r=>if r=[] then t.k=5 else aU r
theorem aU.tail {t:Tok} {r:List Tok} (h:aU (t :: r))(hk:t.k≠5):aU r:=by
 unfold aU at h
 split at h
 ·exact(hk h).elim
 ·exact h
theorem aU.ne {ts:List Tok} (h:aU ts):∃t r,ts=t :: r:=by
 cases ts with
 | nil=>exact h.elim
 | cons t r=>exact⟨t,r,rfl⟩
theorem iW {s:List UInt8} {t:Tok} {r:List Tok} (h:aY s (t :: r)=true):t.k≠5:=by
 unfold aY at h
 simp only [Bool.and_eq_true,Bool.or_eq_true,beq_iff_eq] at h
 rcases h.1 with h | h <;> rw [h] <;> decide
theorem jq {s:List UInt8} {ts:List Tok} (he:aU ts)(h:aY s ts=true):aU ts.tail∧ts.tail.length<ts.length:=by
 obtain⟨t,r,rfl⟩:=he.ne
 exact⟨he.tail (iW h),by simp⟩
def Gd {α:Type} (V:α→Prop)(r:Re α)(L:Nat):Prop:=match r with
 | .ok a ts=>V a∧aU ts∧ts.length<L
 | .bad _ _=>True
 | .out=>False
theorem Gd.bind {α β:Type} {V:α→Prop} {U:β→Prop} {r:Re α} {f:α→List Tok→Re β} {L M:Nat} (h:Gd V r L)(hf:∀a ts,V a→aU ts→ts.length<L→Gd U (f a ts) M):Gd U (r.bind f) M:=by
 cases r with
 | ok a ts=>exact hf a ts h.1 h.2.1 h.2.2
 | bad c l=>trivial
 | out=>exact h.elim
theorem Gd.mono {α:Type} {V:α→Prop} {r:Re α} {L M:Nat} (h:Gd V r L)(hl:L≤M):Gd V r M:=by
 cases r with
 | ok a ts=>exact⟨h.1,h.2.1,Nat.lt_of_lt_of_le h.2.2 hl⟩
 | bad c l=>trivial
 | out=>exact h.elim
theorem jg (s:List UInt8) {ts:List Tok} (he:aU ts):Gd (fun _=>True) (aP s ts) ts.length:=by
 unfold aP
 split
 ·rename_i h;exact⟨trivial,jq he h⟩
 ·trivial
theorem uV (s:List UInt8)(d:Nat) {ts:List Tok} (he:aU ts):Gd (fun _=>True) (gq s d ts) ts.length:=by
 unfold gq
 split
 ·trivial
 ·exact jg s he
theorem uX {ts:List Tok} (he:aU ts):Gd (fun _=>True) (dU ts) ts.length:=by
 obtain⟨t,r,rfl⟩:=he.ne
 unfold dU
 simp only
 split
 ·rename_i h;exact⟨trivial,he.tail (by rw [h];decide),by simp⟩
 ·trivial
abbrev An {α:Type} :α→Prop:=fun _=>True
def Jg:Tr→Prop
 | .nil=>False
 | _=>True
structure AllE (n:Nat):Prop where
 expr:∀d c ts,aU ts→10*ts.length+9≤n→Gd Jg (dO n d c ts) ts.length
 loop:∀d c x ts,Jg x→aU ts→10*ts.length+9≤n→Gd Jg (jf n d c x ts) (ts.length+1)
 un:∀d ts,aU ts→10*ts.length+8≤n→Gd Jg (Ci n d ts) ts.length
 post:∀d ts,aU ts→10*ts.length+7≤n→Gd Jg (iV n d ts) ts.length
 nZ:∀d x ts,Jg x→aU ts→10*ts.length+9≤n→Gd Jg (fO n d x ts) (ts.length+1)
 with_:∀d a b ts,aU ts→10*ts.length+5≤n→Gd Jg (iI n d a b ts) ts.length
 cell:∀d ts,aU ts→10*ts.length+6≤n→Gd Jg (jS n d ts) ts.length
 first:∀d ts,aU ts→10*ts.length+6≤n→Gd Jg (iy n d ts) ts.length
 args:∀d f ts,aU ts→10*ts.length+10≤n→Gd An (eU n d f ts) (ts.length+1)
theorem jr:∀n,AllE n
 | 0=>⟨fun _ _ _ _ h=>by omega,fun _ _ _ _ _ _ h=>by omega,fun _ _ _ h=>by omega,fun _ _ _ h=>by omega,fun _ _ _ _ _ h=>by omega,fun _ _ _ _ _ h=>by omega,fun _ _ _ h=>by omega,fun _ _ _ h=>by omega,fun _ _ _ _ h=>by omega⟩
 | n+1=>by
   have ih:=jr n
   refine⟨fun d c ts he hn=>?_,fun d c x ts hx he hn=>?_,fun d ts he hn=>?_,fun d ts he hn=>?_,fun d x ts hx he hn=>?_,fun d a b ts he hn=>?_,fun d ts he hn=>?_,fun d ts he hn=>?_,fun d f ts he hn=>?_⟩
   ·unfold dO
    exact(ih.un d ts he (by omega)).bind fun x ts' hx he' hl=>(ih.loop d c x ts' hx he' (by omega)).mono (by omega)
   ·obtain⟨t,r,rfl⟩:=he.ne
    unfold jf
    simp only [List.length_cons] at hn
    split
    ·rename_i h
     have her:=he.tail (by rw [h.1];decide)
     exact(ih.expr d _ r her (by omega)).bind fun y ts' _ he' hl=>(ih.loop d c (.ex 3 0 [] t.s x y .nil t.l) ts' trivial he' (by omega)).mono (by simp;omega)
    ·exact⟨hx,he,Nat.lt_succ_self _⟩
   ·obtain⟨t,r,rfl⟩:=he.ne
    unfold Ci
    simp only [List.length_cons] at hn
    split
    ·rename_i h
     have her:aU r:=by rcases h with h | h <;> exact he.tail (iW h)
     split
     ·trivial
     ·exact(ih.un (d+1) r her (by omega)).bind fun x ts' _ he' hl=>⟨trivial,he',by simp;omega⟩
    ·exact ih.post d _ he (by simp only [List.length_cons];omega)
   ·unfold iV
    exact(ih.first d ts he (by omega)).bind fun x ts' hx he' hl=>(ih.nZ d x ts' hx he' (by omega)).mono (by omega)
   ·obtain⟨t,r,rfl⟩:=he.ne
    unfold fO
    simp only [List.length_cons] at hn
    split
    ·rename_i h
     exact(ih.with_ d _ _ _ he (by simp only [List.length_cons];omega)).bind fun y ts' _ he' hl=>(ih.nZ d (.ex 5 0 [] [] x y .nil t.l) ts' trivial he' (by simp only [List.length_cons] at hl;omega)).mono (by omega)
    ·split
     ·rename_i h
      have her:=he.tail (iW h)
      exact(ih.cell d r her (by omega)).bind fun y ts' _ he' hl=>(ih.nZ d (.ex 6 0 [] [] x y .nil t.l) ts' trivial he' (by omega)).mono (by simp;omega)
     ·exact⟨hx,he,Nat.lt_succ_self _⟩
   ·unfold iI
    exact(uV a d he).bind fun _ bJ _ he1 hl1=>(ih.expr (d+1) 1 bJ he1 (by omega)).bind fun x fU hx he2 hl2=>(jg b he2).bind fun _ Jh _ he3 hl3=>⟨hx,he3,by omega⟩
   ·obtain⟨t,r,rfl⟩:=he.ne
    unfold jS
    simp only [List.length_cons] at hn
    split
    ·exact ih.with_ d _ _ _ he (by simp only [List.length_cons];omega)
    ·split
     ·rename_i h;exact⟨trivial,he.tail (by rw [h];decide),by simp⟩
     ·exact(uX he).bind fun nm bJ _ he1 hl1=>⟨trivial,he1,hl1⟩
   ·obtain⟨t,r,rfl⟩:=he.ne
    unfold iy
    simp only [List.length_cons] at hn
    split
    ·exact ih.with_ d _ _ _ he (by simp only [List.length_cons];omega)
    ·split
     ·rename_i h
      have her:=he.tail (iW h)
      exact(ih.with_ d _ _ r her (by omega)).bind fun x bJ _ he1 hl1=>⟨trivial,he1,by simp;omega⟩
     ·split
      ·rename_i h
       have her:=he.tail (iW h)
       exact(uV _ d her).bind fun _ bJ _ he1 hl1=>(jg _ he1).bind fun _ fU _ he2 hl2=>⟨trivial,he2,by simp;omega⟩
      ·split
       ·rename_i h;exact⟨trivial,he.tail (by rw [h];decide),by simp⟩
       ·refine(uX he).bind fun nm bJ _ he1 hl1=>?_
        simp only [List.length_cons] at hl1
        split
        ·exact(uV _ d he1).bind fun _ fU _ he2 hl2=>(ih.args (d+1) true fU he2 (by omega)).bind fun a Jh _ he3 hl3=>(jg _ he3).bind fun _ BM _ he4 hl4=>⟨trivial,he4,by simp;omega⟩
        ·exact⟨trivial,he1,by simp;omega⟩
   ·unfold eU
    split
    ·exact⟨trivial,he,Nat.lt_succ_self _⟩
    ·have h1:Gd An (if f=true then Re.ok () ts else aP [44] ts) (ts.length+1):=by
      split
      ·exact⟨trivial,he,Nat.lt_succ_self _⟩
      ·exact(jg _ he).mono (Nat.le_succ _)
     exact h1.bind fun _ bJ _ he1 hl1=>(ih.expr d 1 bJ he1 (by omega)).bind fun x fU _ he2 hl2=>(ih.args d false fU he2 (by omega)).bind fun xs Jh _ he3 hl3=>⟨trivial,he3,by omega⟩
structure AllS (n:Nat):Prop where
 block:∀d ts,aU ts→10*ts.length+10≤n→Gd An (dI n d ts) ts.length
 stmts:∀d ts,aU ts→10*ts.length+15≤n→Gd An (gW n d ts) (ts.length+1)
 branch:∀d l ts,aU ts→10*ts.length+12≤n→Gd An (dQ n d l ts) ts.length
 ended:∀d ts,aU ts→10*ts.length+10≤n→Gd An (bW n d ts) ts.length
 stmt:∀d ts,aU ts→10*ts.length+14≤n→Gd An (kH n d ts) ts.length
theorem ny:∀n,AllS n
 | 0=>⟨fun _ _ _ h=>by omega,fun _ _ _ h=>by omega,fun _ _ _ _ h=>by omega,fun _ _ _ h=>by omega,fun _ _ _ h=>by omega⟩
 | n+1=>by
   have ih:=ny n
   have ie:=jr n
   refine⟨fun d ts he hn=>?_,fun d ts he hn=>?_,fun d l ts he hn=>?_,fun d ts he hn=>?_,fun d ts he hn=>?_⟩
   ·unfold dI
    exact(uV _ d he).bind fun _ bJ _ he1 hl1=>(ih.stmts (d+1) bJ he1 (by omega)).bind fun l fU _ he2 hl2=>(jg _ he2).bind fun _ Jh _ he3 hl3=>⟨trivial,he3,by omega⟩
   ·unfold gW
    split
    ·exact⟨trivial,he,Nat.lt_succ_self _⟩
    ·exact(ih.stmt d ts he (by omega)).bind fun x bJ _ he1 hl1=>(ih.stmts d bJ he1 (by omega)).bind fun l fU _ he2 hl2=>⟨trivial,he2,by omega⟩
   ·unfold dQ
    refine(ie.expr d 1 ts he (by omega)).bind fun c bJ _ he1 hl1=>(ih.block d bJ he1 (by omega)).bind fun th fU _ he2 hl2=>?_
    split
    ·rename_i h
     obtain⟨he3,hl3⟩:=jq he2 h
     split
     ·rename_i h2
      obtain⟨he4,hl4⟩:=jq he3 h2
      exact(ih.branch d _ _ he4 (by omega)).bind fun b wu _ ER hl5=>⟨trivial,ER,by omega⟩
     ·exact(ih.block d _ he3 (by omega)).bind fun b wu _ ER hl5=>⟨trivial,ER,by omega⟩
    ·exact⟨trivial,he2,by omega⟩
   ·unfold bW
    exact(ie.expr d 1 ts he (by omega)).bind fun x bJ _ he1 hl1=>(jg _ he1).bind fun _ fU _ he2 hl2=>⟨trivial,he2,by omega⟩
   ·obtain⟨t,r,rfl⟩:=he.ne
    unfold kH
    simp only [List.length_cons] at hn
    split
    ·rename_i h
     have her:=he.tail (iW h)
     refine(uX her).bind fun nm bJ _ he1 hl1=>?_
     have h2:aU (if aY fB bJ=true then bJ.tail else bJ)∧(if aY fB bJ=true then bJ.tail else bJ).length≤bJ.length:=by
      split
      ·rename_i h2
       obtain⟨a,b⟩:=jq he1 h2
       exact⟨a,by omega⟩
      ·exact⟨he1,Nat.le_refl _⟩
     simp only
     generalize (if aY fB bJ=true then bJ.tail else bJ)=fU at h2
     split
     ·rename_i h3
      obtain⟨he3,hl3⟩:=jq h2.1 h3
      exact(ih.ended d _ he3 (by omega)).bind fun x BM _ he4 hl4=>⟨trivial,he4,by simp;omega⟩
     ·exact(jg _ h2.1).bind fun _ BM _ he4 hl4=>⟨trivial,he4,by simp;omega⟩
    ·split
     ·rename_i h;exact(ih.branch d _ r (he.tail (iW h)) (by omega)).mono (by simp)
     ·split
      ·rename_i h
       exact(ie.expr d 1 r (he.tail (iW h)) (by omega)).bind fun c bJ _ he1 hl1=>(ih.block d bJ he1 (by omega)).bind fun th fU _ he2 hl2=>⟨trivial,he2,by simp;omega⟩
      ·split
       ·rename_i h
        exact(ih.ended d r (he.tail (iW h)) (by omega)).bind fun x bJ _ he1 hl1=>⟨trivial,he1,by simp;omega⟩
       ·split
        ·rename_i h
         exact(ih.ended d r (he.tail (iW h)) (by omega)).bind fun x bJ _ he1 hl1=>⟨trivial,he1,by simp;omega⟩
        ·split
         ·rename_i h
          exact(jg _ (he.tail (iW h))).bind fun _ bJ _ he1 hl1=>⟨trivial,he1,by simp;omega⟩
         ·split
          ·rename_i h
           have her:=he.tail (iW h)
           split
           ·rename_i h2
            obtain⟨he2,hl2⟩:=jq her h2
            exact⟨trivial,he2,by simp;omega⟩
           ·exact(ih.ended d r her (by omega)).bind fun x bJ _ he1 hl1=>⟨trivial,he1,by simp;omega⟩
          ·refine(ie.post d _ he (by simp only [List.length_cons];omega)).bind fun x bJ hx he1 hl1=>?_
           cases x with
           | nil=>exact hx.elim
           | ex k n' nm tx l r' a ln=>
             simp only
             split
             ·rename_i h2
              obtain⟨he2,hl2⟩:=jq he1 h2
              simp only [List.length_cons] at hl1
              split
              ·exact(ih.ended d _ he2 (by omega)).bind fun y fU _ he3 hl3=>⟨trivial,he3,by simp;omega⟩
              ·split
               ·exact(ih.ended d _ he2 (by omega)).bind fun y fU _ he3 hl3=>⟨trivial,he3,by simp;omega⟩
               ·trivial
             ·split
              ·exact(jg _ he1).bind fun _ fU _ he2 hl2=>⟨trivial,he2,by omega⟩
              ·trivial
theorem ql:∀(n:Nat) (f:Bool) (ts:List Tok),aU ts→ts.length+1≤n→Gd An (bY n f ts) (ts.length+1)
 | 0,_,_,_,h=>by omega
 | n+1,f,ts,he,hn=>by
   unfold bY
   split
   ·exact⟨trivial,he,Nat.lt_succ_self _⟩
   ·have h1:Gd An (if f=true then Re.ok () ts else aP [44] ts) (ts.length+1):=by
     split
     ·exact⟨trivial,he,Nat.lt_succ_self _⟩
     ·exact(jg _ he).mono (Nat.le_succ _)
    refine h1.bind fun _ bJ _ he1 hl1=>(uX he1).bind fun nm fU _ he2 hl2=>?_
    have h2:aU (if aY fB fU=true then fU.tail else fU)∧(if aY fB fU=true then fU.tail else fU).length≤fU.length:=by
     split
     ·rename_i h2
      obtain⟨a,b⟩:=jq he2 h2
      exact⟨a,by omega⟩
     ·exact⟨he2,Nat.le_refl _⟩
    simp only
    generalize (if aY fB fU=true then fU.tail else fU)=Jh at h2
    exact(ql n false Jh h2.1 (by omega)).bind fun l BM _ he4 hl4=>⟨trivial,he4,by omega⟩
theorem II (n:Nat)(ts:List Tok)(he:aU ts)(hn:10*ts.length+10≤n):Gd An (nY n ts) ts.length:=by
 unfold nY
 refine(jg _ he).bind fun _ bJ _ he1 hl1=>(uX he1).bind fun nm fU _ he2 hl2=>(uV _ 0 he2).bind fun _ Jh _ he3 hl3=>(ql n true Jh he3 (by omega)).bind fun ps BM _ he4 hl4=>(jg _ he4).bind fun _ wu _ ER hl5=>?_
 have h2:aU (if aY fB wu=true then wu.tail else wu)∧(if aY fB wu=true then wu.tail else wu).length≤wu.length:=by
  split
  ·rename_i h2
   obtain⟨a,b⟩:=jq ER h2
   exact⟨a,by omega⟩
  ·exact⟨ER,Nat.le_refl _⟩
 simp only
 generalize (if aY fB wu=true then wu.tail else wu)=ts6 at h2
 exact((ny n).block 0 ts6 h2.1 (by omega)).bind fun b ts7 _ he7 Ib=>⟨trivial,he7,by omega⟩
theorem Ej:∀(n:Nat) (ts:List Tok),aU ts→10*ts.length+11≤n→Gd An (gB n ts) (ts.length+1)
 | 0,_,_,h=>by omega
 | n+1,ts,he,hn=>by
   obtain⟨t,r,rfl⟩:=he.ne
   unfold gB
   split
   ·exact⟨trivial,he,Nat.lt_succ_self _⟩
   ·simp only [List.length_cons] at hn
    exact(II n _ he (by simp only [List.length_cons];omega)).bind fun f bJ _ he1 hl1=>(Ej n bJ he1 (by simp only [List.length_cons] at hl1;omega)).bind fun l fU _ he2 hl2=>⟨trivial,he2,by omega⟩
end Go.bG.YtjcicgkencfbgaaGreatDoor
namespace Go.bG.YtjcicgkencfbgaaGreatDoor
def mO:rF→List Tr
 | .nil=>[]
 | .cons t r=>t :: mO r
def lS:oO→List Sm
 | .nil=>[]
 | .cons t r=>t :: lS r
mutual
def wT:Tr→Nat
 | .nil=>0
 | .ex _ _ _ _ l r a _=>wT l+wT r+ES a
def ES:rF→Nat
 | .nil=>0
 | .cons t r=>1+wT t+ES r
end
mutual
def wS:Sm→Nat
 | .st _ _ _ l r th el _=>wT l+wT r+wZ th+wZ el
def wZ:oO→Nat
 | .nil=>0
 | .cons t r=>1+wS t+wZ r
end
def wF (f:Fm):Nat:=f.params.length+wZ f.body
def ET:List Fm→Nat
 | []=>0
 | f :: l=>1+wF f+ET l
theorem yN:∀l:rF,(mO l).length≤ES l
 | .nil=>Nat.le_refl _
 | .cons t r=>by have:=yN r;simp only [mO,ES,List.length_cons];omega
theorem yO:∀l:oO,(lS l).length≤wZ l
 | .nil=>Nat.le_refl _
 | .cons t r=>by have:=yO r;simp only [lS,wZ,List.length_cons];omega
theorem yP:∀l:List Fm,l.length≤ET l
 | []=>Nat.le_refl _
 | t :: r=>by have:=yP r;simp only [ET,List.length_cons];omega
theorem KN:∀(l:rF) (i:Nat) (t:Tr),(mO l)[i]? =some t→wT t+1≤ES l
 | .nil,i,t,h=>by simp [mO] at h
 | .cons a r,0,t,h=>by simp only [mO,List.getElem?_cons_zero,Option.some.injEq] at h;subst h;simp only [ES];omega
 | .cons a r,i+1,t,h=>by
   simp only [mO,List.getElem?_cons_succ] at h
   have:=KN r i t h;simp only [ES];omega
theorem Em:∀(l:oO) (i:Nat) (t:Sm),(lS l)[i]? =some t→wS t+1≤wZ l
 | .nil,i,t,h=>by simp [lS] at h
 | .cons a r,0,t,h=>by simp only [lS,List.getElem?_cons_zero,Option.some.injEq] at h;subst h;simp only [wZ];omega
 | .cons a r,i+1,t,h=>by
   simp only [lS,List.getElem?_cons_succ] at h
   have:=Em r i t h;simp only [wZ];omega
theorem KO:∀(l:List Fm) (i:Nat) (t:Fm),l[i]? =some t→wF t+1≤ET l
 | [],i,t,h=>by simp at h
 | a :: r,0,t,h=>by simp only [List.getElem?_cons_zero,Option.some.injEq] at h;subst h;simp only [ET];omega
 | a :: r,i+1,t,h=>by
   simp only [List.getElem?_cons_succ] at h
   have:=KO r i t h;simp only [ET];omega
def Gw {α:Type} (w:α→Nat)(r:Re α)(L:Nat):Prop:=match r with
 | .ok a ts=>w a+ts.length≤L
 | _=>True
theorem Gw.bind {α β:Type} {w:α→Nat} {u:β→Nat} {r:Re α} {f:α→List Tok→Re β} {L M:Nat} (h:Gw w r L)(hf:∀a ts,w a+ts.length≤L→Gw u (f a ts) M):Gw u (r.bind f) M:=by
 cases r with
 | ok a ts=>exact hf a ts h
 | bad c l=>trivial
 | out=>trivial
theorem Gw.mono {α:Type} {w:α→Nat} {r:Re α} {L M:Nat} (h:Gw w r L)(hl:L≤M):Gw w r M:=by
 cases r with
 | ok a ts=>exact Nat.le_trans h hl
 | bad c l=>trivial
 | out=>trivial
abbrev w1 {α:Type} :α→Nat:=fun _=>1
abbrev w0 {α:Type} :α→Nat:=fun _=>0
theorem Yl {s:List UInt8} {ts:List Tok} (h:aY s ts=true):ts.tail.length+1=ts.length:=by
 cases ts with
 | nil=>simp [aY] at h
 | cons t r=>rfl
theorem n_ (ts:List Tok):ts.tail.length≤ts.length:=by cases ts <;> simp
theorem jF (s:List UInt8)(ts:List Tok):Gw w1 (aP s ts) ts.length:=by
 unfold aP
 split
 ·rename_i h;have:=Yl h;show 1+_≤_;omega
 ·trivial
theorem yQ (s:List UInt8)(d:Nat)(ts:List Tok):Gw w1 (gq s d ts) ts.length:=by
 unfold gq
 split
 ·trivial
 ·exact jF s ts
theorem yR (ts:List Tok):Gw w1 (dU ts) ts.length:=by
 unfold dU
 split
 ·split
  ·show 1+_≤_;simp;omega
  ·trivial
 ·trivial
abbrev Bz:Tr→Nat:=fun x=>1+wT x
abbrev wS1:Sm→Nat:=fun x=>1+wS x
abbrev UW:oO→Nat:=fun x=>1+wZ x
structure WtE (n:Nat):Prop where
 expr:∀d c ts,Gw Bz (dO n d c ts) ts.length
 loop:∀d c x ts,Gw wT (jf n d c x ts) (wT x+ts.length)
 un:∀d ts,Gw Bz (Ci n d ts) ts.length
 post:∀d ts,Gw Bz (iV n d ts) ts.length
 nZ:∀d x ts,Gw wT (fO n d x ts) (wT x+ts.length)
 with_:∀d a b ts,Gw Bz (iI n d a b ts) ts.length
 cell:∀d ts,Gw Bz (jS n d ts) ts.length
 first:∀d ts,Gw Bz (iy n d ts) ts.length
 args:∀d f ts,Gw ES (eU n d f ts) ts.length
theorem wtE:∀n,WtE n
 | 0=>⟨fun _ _ _=>by unfold dO;trivial,fun _ _ _ _=>by unfold jf;trivial,fun _ _=>by unfold Ci;trivial,fun _ _=>by unfold iV;trivial,fun _ _ _=>by unfold fO;trivial,fun _ _ _ _=>by unfold iI;trivial,fun _ _=>by unfold jS;trivial,fun _ _=>by unfold iy;trivial,fun _ _ _=>by unfold eU;trivial⟩
 | n+1=>by
   have ih:=wtE n
   refine⟨fun d c ts=>?_,fun d c x ts=>?_,fun d ts=>?_,fun d ts=>?_,fun d x ts=>?_,fun d a b ts=>?_,fun d ts=>?_,fun d ts=>?_,fun d f ts=>?_⟩
   ·unfold dO
    refine(ih.un d ts).bind fun x ts' hx=>?_
    have:=ih.loop d c x ts'
    cases hr:jf n d c x ts' with
    | ok a fU=>rw [hr] at this;have h:wT a+fU.length≤wT x+ts'.length:=this;show 1+wT a+fU.length≤_;simp only [Bz] at hx;omega
    | bad c l=>trivial
    | out=>trivial
   ·cases ts with
    | nil=>unfold jf;trivial
    | cons t r=>
      unfold jf
      split
      ·refine(ih.expr d _ r).bind fun y ts' hy=>(ih.loop d c (.ex 3 0 [] t.s x y .nil t.l) ts').mono ?_
       simp only [Bz] at hy;simp only [wT,ES,List.length_cons];omega
      ·exact Nat.le_refl _
   ·cases ts with
    | nil=>unfold Ci;trivial
    | cons t r=>
      unfold Ci
      split
      ·split
       ·trivial
       ·refine(ih.un (d+1) r).bind fun x ts' hx=>?_
        simp only [Bz] at hx;show 1+wT _+_≤_;simp only [wT,ES,List.length_cons];omega
      ·exact ih.post d _
   ·unfold iV
    refine(ih.first d ts).bind fun x ts' hx=>?_
    have:=ih.nZ d x ts'
    cases hr:fO n d x ts' with
    | ok a fU=>rw [hr] at this;have h:wT a+fU.length≤wT x+ts'.length:=this;show 1+wT a+fU.length≤_;simp only [Bz] at hx;omega
    | bad c l=>trivial
    | out=>trivial
   ·cases ts with
    | nil=>unfold fO;trivial
    | cons t r=>
      unfold fO
      split
      ·refine(ih.with_ d _ _ _).bind fun y ts' hy=>(ih.nZ d (.ex 5 0 [] [] x y .nil t.l) ts').mono ?_
       simp only [Bz] at hy;simp only [wT,ES];omega
      ·split
       ·refine(ih.cell d r).bind fun y ts' hy=>(ih.nZ d (.ex 6 0 [] [] x y .nil t.l) ts').mono ?_
        simp only [Bz] at hy;simp only [wT,ES,List.length_cons];omega
       ·exact Nat.le_refl _
   ·unfold iI
    refine(yQ a d ts).bind fun _ bJ h1=>(ih.expr (d+1) 1 bJ).bind fun x fU h2=>(jF b fU).bind fun _ Jh h3=>?_
    simp only [Bz,w1] at *;show 1+wT x+_≤_;omega
   ·cases ts with
    | nil=>unfold jS;trivial
    | cons t r=>
      unfold jS
      split
      ·exact ih.with_ d _ _ _
      ·split
       ·show 1+wT (QD t)+_≤_;simp only [QD,wT,ES,List.length_cons];omega
       ·refine(yR _).bind fun nm bJ h1=>?_
        simp only [w1] at h1;show 1+wT (Bv nm t.l)+_≤_;simp only [Bv,wT,ES];omega
   ·cases ts with
    | nil=>unfold iy;trivial
    | cons t r=>
      unfold iy
      split
      ·exact ih.with_ d _ _ _
      ·split
       ·refine(ih.with_ d _ _ r).bind fun x bJ h1=>?_
        simp only [Bz] at h1;show 1+wT _+_≤_;simp only [wT,ES,List.length_cons];omega
       ·split
        ·refine(yQ _ d r).bind fun _ bJ h1=>(jF _ bJ).bind fun _ fU h2=>?_
         simp only [w1] at *;show 1+wT _+_≤_;simp only [wT,ES,List.length_cons];omega
        ·split
         ·show 1+wT (QD t)+_≤_;simp only [QD,wT,ES,List.length_cons];omega
         ·refine(yR _).bind fun nm bJ h1=>?_
          simp only [w1] at h1
          split
          ·refine(yQ _ d bJ).bind fun _ fU h2=>(ih.args (d+1) true fU).bind fun a Jh h3=>(jF _ Jh).bind fun _ BM h4=>?_
           simp only [w1] at *;show 1+wT _+_≤_;simp only [wT];omega
          ·show 1+wT (Bv nm t.l)+_≤_;simp only [Bv,wT,ES];omega
   ·unfold eU
    split
    ·show 0+_≤_;omega
    ·have h1:Gw w0 (if f=true then Re.ok () ts else aP [44] ts) ts.length:=by
      split
      ·show 0+_≤_;omega
      ·have:=jF [44] ts
       cases hr:aP [44] ts with
       | ok a fU=>rw [hr] at this;have h:1+fU.length≤ts.length:=this;show 0+_≤_;omega
       | bad c l=>trivial
       | out=>trivial
     refine h1.bind fun _ bJ h1=>(ih.expr d 1 bJ).bind fun x fU h2=>(ih.args d false fU).bind fun xs Jh h3=>?_
     simp only [Bz,w0] at *;show ES _+_≤_;simp only [ES];omega
structure WtS (n:Nat):Prop where
 block:∀d ts,Gw UW (dI n d ts) ts.length
 stmts:∀d ts,Gw wZ (gW n d ts) ts.length
 branch:∀d l ts,Gw wS1 (dQ n d l ts) ts.length
 ended:∀d ts,Gw Bz (bW n d ts) ts.length
 stmt:∀d ts,Gw wS1 (kH n d ts) ts.length
theorem IJ (ts:List Tok):(if aY fB ts=true then ts.tail else ts).length≤ts.length:=by
 split
 ·exact n_ ts
 ·exact Nat.le_refl _
theorem wtS:∀n,WtS n
 | 0=>⟨fun _ _=>by unfold dI;trivial,fun _ _=>by unfold gW;trivial,fun _ _ _=>by unfold dQ;trivial,fun _ _=>by unfold bW;trivial,fun _ _=>by unfold kH;trivial⟩
 | n+1=>by
   have ih:=wtS n
   have ie:=wtE n
   refine⟨fun d ts=>?_,fun d ts=>?_,fun d l ts=>?_,fun d ts=>?_,fun d ts=>?_⟩
   ·unfold dI
    refine(yQ _ d ts).bind fun _ bJ h1=>(ih.stmts (d+1) bJ).bind fun l fU h2=>(jF _ fU).bind fun _ Jh h3=>?_
    simp only [w1] at *;show 1+wZ l+_≤_;omega
   ·unfold gW
    split
    ·show 0+_≤_;omega
    ·refine(ih.stmt d ts).bind fun x bJ h1=>(ih.stmts d bJ).bind fun l fU h2=>?_
     simp only [wS1] at *;show wZ _+_≤_;simp only [wZ];omega
   ·unfold dQ
    refine(ie.expr d 1 ts).bind fun c bJ h1=>(ih.block d bJ).bind fun th fU h2=>?_
    simp only [Bz,UW] at *
    have t1:=n_ fU
    have t2:=n_ fU.tail
    have t3:=n_ fU.tail.tail
    split
    ·split
     ·refine(ih.branch d _ _).bind fun b wu h5=>?_
      simp only [wS1] at *;show 1+wS _+_≤_;simp only [wS,wZ,wT];omega
     ·refine(ih.block d _).bind fun b wu h5=>?_
      simp only [UW] at *;show 1+wS _+_≤_;simp only [wS,wT];omega
    ·show 1+wS _+_≤_;simp only [wS,wZ,wT];omega
   ·unfold bW
    refine(ie.expr d 1 ts).bind fun c bJ h1=>(jF _ bJ).bind fun _ fU h2=>?_
    simp only [Bz,w1] at *;show 1+wT c+_≤_;omega
   ·cases ts with
    | nil=>unfold kH;trivial
    | cons t r=>
      unfold kH
      split
      ·refine(yR r).bind fun nm bJ h1=>?_
       have h2:=IJ bJ
       simp only [w1] at h1 ⊢
       generalize (if aY fB bJ=true then bJ.tail else bJ)=fU at h2 ⊢
       have t2:=n_ fU
       split
       ·refine(ih.ended d _).bind fun x BM h4=>?_
        simp only [Bz] at *;show 1+wS _+_≤_;simp only [wS,wZ,wT,List.length_cons];omega
       ·refine(jF _ fU).bind fun _ BM h4=>?_
        simp only [w1] at *;show 1+wS _+_≤_;simp only [wS,wZ,wT,List.length_cons];omega
      ·split
       ·exact(ih.branch d _ r).mono (by simp)
       ·split
        ·refine(ie.expr d 1 r).bind fun c bJ h1=>(ih.block d bJ).bind fun th fU h2=>?_
         simp only [Bz,UW] at *;show 1+wS _+_≤_;simp only [wS,wZ,wT,List.length_cons];omega
        ·split
         ·refine(ih.ended d r).bind fun x bJ h1=>?_
          simp only [Bz] at *;show 1+wS _+_≤_;simp only [wS,wZ,wT,List.length_cons];omega
         ·split
          ·refine(ih.ended d r).bind fun x bJ h1=>?_
           simp only [Bz] at *;show 1+wS _+_≤_;simp only [wS,wZ,wT,List.length_cons];omega
          ·split
           ·refine(jF _ r).bind fun x bJ h1=>?_
            simp only [w1] at *;show 1+wS _+_≤_;simp only [wS,wZ,wT,List.length_cons];omega
           ·split
            ·split
             ·have:=n_ r;show 1+wS _+_≤_;simp only [wS,wZ,wT,List.length_cons];omega
             ·refine(ih.ended d r).bind fun x bJ h1=>?_
              simp only [Bz] at *;show 1+wS _+_≤_;simp only [wS,wZ,wT,List.length_cons];omega
            ·refine(ie.post d _).bind fun x bJ h1=>?_
             have t1:=n_ bJ
             cases x with
             | nil=>trivial
             | ex k n' nm tx l r' a ln=>
               simp only [Bz] at h1 ⊢
               split
               ·split
                ·refine(ih.ended d _).bind fun y fU h2=>?_
                 simp only [Bz,wT] at *;show 1+wS _+_≤_;simp only [wS,wZ,wT];omega
                ·split
                 ·refine(ih.ended d _).bind fun y fU h2=>?_
                  simp only [Bz,wT] at *;show 1+wS _+_≤_;simp only [wS,wZ,wT];omega
                 ·trivial
               ·split
                ·refine(jF _ bJ).bind fun _ fU h2=>?_
                 simp only [w1,wT] at *;show 1+wS _+_≤_;simp only [wS,wZ,wT];omega
                ·trivial
theorem GK:∀(n:Nat) (f:Bool) (ts:List Tok),Gw List.length (bY n f ts) ts.length
 | 0,_,_=>trivial
 | n+1,f,ts=>by
   unfold bY
   split
   ·show 0+_≤_;omega
   ·have h1:Gw w0 (if f=true then Re.ok () ts else aP [44] ts) ts.length:=by
     split
     ·show 0+_≤_;omega
     ·have:=jF [44] ts
      cases hr:aP [44] ts with
      | ok a fU=>rw [hr] at this;have h:1+fU.length≤ts.length:=this;show 0+_≤_;omega
      | bad c l=>trivial
      | out=>trivial
    refine h1.bind fun _ bJ h1=>(yR bJ).bind fun nm fU h2=>?_
    have h3:=IJ fU
    simp only [w1,w0] at *
    generalize (if aY fB fU=true then fU.tail else fU)=Jh at h3 ⊢
    refine(GK n false Jh).bind fun l BM h4=>?_
    show (_ :: l).length+_≤_
    simp only [List.length_cons];omega
theorem Ym (n:Nat)(ts:List Tok):Gw (fun f=>1+wF f) (nY n ts) ts.length:=by
 unfold nY
 refine(jF _ ts).bind fun _ bJ h1=>(yR bJ).bind fun nm fU h2=>(yQ _ 0 fU).bind fun _ Jh h3=>(GK n true Jh).bind fun ps BM h4=>(jF _ BM).bind fun _ wu h5=>?_
 have h6:=IJ wu
 simp only [w1] at *
 generalize (if aY fB wu=true then wu.tail else wu)=ts6 at h6 ⊢
 refine((wtS n).block 0 ts6).bind fun b ts7 h7=>?_
 simp only [UW] at *;show 1+wF _+_≤_;simp only [wF];omega
theorem En:∀(n:Nat) (ts:List Tok),Gw ET (gB n ts) ts.length
 | 0,_=>trivial
 | _+1,[]=>trivial
 | n+1,t :: r=>by
   unfold gB
   split
   ·show 0+_≤_;omega
   ·refine(Ym n _).bind fun f bJ h1=>(En n bJ).bind fun l fU h2=>?_
    show ET _+_≤_;simp only [ET];omega
mutual
def jT:Tr→Tr→Bool
 | .nil,.nil=>true
 | .ex k n nm tx l r al1 _,.ex k' n' nm' Mc l' r' al2 _=>(k == k' && n == n' && nm == nm' && tx == Mc) && (jY al1 al2 && jT l l' && jT r r')
 | _,_=>false
def jY:rF→rF→Bool
 | .nil,.nil=>true
 | .cons a r,.cons b s=>jT a b && jY r s
 | _,_=>false
end
mutual
def o_:Sm→Sm→Bool
 | .st k nm p l r th el _,.st k' nm' p' l' r' th' el' _=>(k == k' && nm == nm' && p == p') && (jT l l' && jT r r' && gZ th th' && gZ el el')
def gZ:oO→oO→Bool
 | .nil,.nil=>true
 | .cons a r,.cons b s=>o_ a b && gZ r s
 | _,_=>false
end
def wz (f g:Fm):Bool:=f.name == g.name && f.ptr == g.ptr && f.params == g.params && gZ f.body g.body
def fV:List Fm→List Fm→Bool
 | [],[]=>true
 | a :: r,b :: s=>wz a b && fV r s
 | _,_=>false
theorem w_:∀(a b:rF),(mO a).length=(mO b).length→(∀(i:Nat) x y,(mO a)[i]? =some x→(mO b)[i]? =some y→jT x y=true)→jY a b=true
 | .nil,.nil,_,_=>rfl
 | .cons a r,.cons b s,hl,h=>by
   rw [jY,h 0 a b rfl rfl,w_ r s (by simpa [mO] using hl) fun i x y hx hy=>h (i+1) x y hx hy];rfl
 | .nil,.cons _ _,h,_=>by simp [mO] at h
 | .cons _ _,.nil,h,_=>by simp [mO] at h
theorem oh:∀(a b:rF),(mO a).length≠(mO b).length→jY a b=false
 | .nil,.nil,h=>(h rfl).elim
 | .cons a r,.cons b s,h=>by
   rw [jY,oh r s (by simpa [mO] using h)];simp
 | .nil,.cons _ _,_=>rfl
 | .cons _ _,.nil,_=>rfl
theorem xk:∀(a b:rF) (i:Nat) (x y:Tr),(mO a)[i]? =some x→(mO b)[i]? =some y→jT x y=false→jY a b=false
 | .nil,.nil,i,x,y,h,_,_=>by simp [mO] at h
 | .cons a r,.cons b s,0,x,y,hx,hy,h=>by
   simp only [mO,List.getElem?_cons_zero,Option.some.injEq] at hx hy;subst hx;subst hy
   rw [jY,h];rfl
 | .cons a r,.cons b s,i+1,x,y,hx,hy,h=>by
   rw [jY,xk r s i x y hx hy h];simp
 | .nil,.cons _ _,i,x,y,h,_,_=>by simp [mO] at h
 | .cons _ _,.nil,i,x,y,_,h,_=>by simp [mO] at h
theorem xq:∀(a b:oO),(lS a).length=(lS b).length→(∀(i:Nat) x y,(lS a)[i]? =some x→(lS b)[i]? =some y→o_ x y=true)→gZ a b=true
 | .nil,.nil,_,_=>rfl
 | .cons a r,.cons b s,hl,h=>by
   rw [gZ,h 0 a b rfl rfl,xq r s (by simpa [lS] using hl) fun i x y hx hy=>h (i+1) x y hx hy];rfl
 | .nil,.cons _ _,h,_=>by simp [lS] at h
 | .cons _ _,.nil,h,_=>by simp [lS] at h
theorem oq:∀(a b:oO),(lS a).length≠(lS b).length→gZ a b=false
 | .nil,.nil,h=>(h rfl).elim
 | .cons a r,.cons b s,h=>by
   rw [gZ,oq r s (by simpa [lS] using h)];simp
 | .nil,.cons _ _,_=>rfl
 | .cons _ _,.nil,_=>rfl
theorem xu:∀(a b:oO) (i:Nat) (x y:Sm),(lS a)[i]? =some x→(lS b)[i]? =some y→o_ x y=false→gZ a b=false
 | .nil,.nil,i,x,y,h,_,_=>by simp [lS] at h
 | .cons a r,.cons b s,0,x,y,hx,hy,h=>by
   simp only [lS,List.getElem?_cons_zero,Option.some.injEq] at hx hy;subst hx;subst hy
   rw [gZ,h];rfl
 | .cons a r,.cons b s,i+1,x,y,hx,hy,h=>by
   rw [gZ,xu r s i x y hx hy h];simp
 | .nil,.cons _ _,i,x,y,h,_,_=>by simp [lS] at h
 | .cons _ _,.nil,i,x,y,_,h,_=>by simp [lS] at h
theorem xw:∀(a b:List Fm),a.length=b.length→(∀(i:Nat) x y,a[i]? =some x→b[i]? =some y→wz x y=true)→fV a b=true
 | [],[],_,_=>rfl
 | a :: r,b :: s,hl,h=>by
   rw [fV,h 0 a b rfl rfl,xw r s (by simpa using hl) fun i x y hx hy=>h (i+1) x y hx hy];rfl
 | [],_ :: _,h,_=>by simp at h
 | _ :: _,[],h,_=>by simp at h
theorem qQ:∀(a b:List Fm),a.length≠b.length→fV a b=false
 | [],[],h=>(h rfl).elim
 | a :: r,b :: s,h=>by
   rw [fV,qQ r s (by simpa using h)];simp
 | [],_ :: _,_=>rfl
 | _ :: _,[],_=>rfl
theorem xA:∀(a b:List Fm) (i:Nat) (x y:Fm),a[i]? =some x→b[i]? =some y→wz x y=false→fV a b=false
 | [],[],i,x,y,h,_,_=>by simp at h
 | a :: r,b :: s,0,x,y,hx,hy,h=>by
   simp only [List.getElem?_cons_zero,Option.some.injEq] at hx hy;subst hx;subst hy
   rw [fV,h];rfl
 | a :: r,b :: s,i+1,x,y,hx,hy,h=>by
   rw [fV,xA r s i x y hx hy h];simp
 | [],_ :: _,i,x,y,h,_,_=>by simp at h
 | _ :: _,[],i,x,y,_,h,_=>by simp at h
end Go.bG.YtjcicgkencfbgaaGreatDoor
namespace Go.bG.YtjcicgkencfbgaaGreatDoor
open Go.Proofs
set_option maxRecDepth 4000
mutual
def bK (S:Nat→Prop)(σ:St)(v:AV):Tr→Prop
 | .nil=>v= .p0
 | .ex k n name text l r args line=>∃(o g:Nat) (L R A:AV),S o∧v= .p o g 0∧σ[o]? =some ⟨g,false,.cells 67 [.i .i64 k,.i .u32 n,.s name,.s text,L,R,A,.i .i64 line]⟩∧bK S σ L l∧bK S σ R r∧kJ S σ A args
def kJ (S:Nat→Prop)(σ:St)(v:AV):rF→Prop
 | .nil=>v= .sl0
 | .cons t r=>∃(o g:Nat) (cs:List AV),S o∧v= .sl o g 0 cs.length 1∧σ[o]? =some ⟨g,false,.cells 62 cs⟩∧∃a tl,cs=a :: tl∧bK S σ a t∧tX S σ tl r
def tX (S:Nat→Prop)(σ:St)(cs:List AV):rF→Prop
 | .nil=>cs=[]
 | .cons t r=>∃a tl,cs=a :: tl∧bK S σ a t∧tX S σ tl r
end
mutual
theorem bK.mono {S S':Nat→Prop} {σ σ':St} (h1:∀o,S o→S' o)(h2:∀o,S o→∀a,σ[o]? =some a→σ'[o]? =some a):∀{t:Tr} {v:AV},bK S σ v t→bK S' σ' v t
 | .nil,v,h=>h
 | .ex k n name text l r args line,v,h=>by
   obtain⟨o,g,L,R,A,hs,hv,ho,hl,hr,ha⟩:=h
   exact⟨o,g,L,R,A,h1 o hs,hv,h2 o hs _ ho,bK.mono h1 h2 hl,bK.mono h1 h2 hr,kJ.mono h1 h2 ha⟩
theorem kJ.mono {S S':Nat→Prop} {σ σ':St} (h1:∀o,S o→S' o)(h2:∀o,S o→∀a,σ[o]? =some a→σ'[o]? =some a):∀{t:rF} {v:AV},kJ S σ v t→kJ S' σ' v t
 | .nil,v,h=>h
 | .cons t r,v,h=>by
   obtain⟨o,g,cs,hs,hv,ho,a,tl,hc,hx,hl⟩:=h
   exact⟨o,g,cs,h1 o hs,hv,h2 o hs _ ho,a,tl,hc,bK.mono h1 h2 hx,tX.mono h1 h2 hl⟩
theorem tX.mono {S S':Nat→Prop} {σ σ':St} (h1:∀o,S o→S' o)(h2:∀o,S o→∀a,σ[o]? =some a→σ'[o]? =some a):∀{t:rF} {cs:List AV},tX S σ cs t→tX S' σ' cs t
 | .nil,cs,h=>h
 | .cons t r,cs,h=>by
   obtain⟨a,tl,hc,h3,h4⟩:=h
   exact⟨a,tl,hc,bK.mono h1 h2 h3,tX.mono h1 h2 h4⟩
end
mutual
theorem bK.below {S:Nat→Prop} {σ:St} :∀{t:Tr} {v:AV},bK S σ v t→bK (fun o=>S o∧o<σ.length) σ v t
 | .nil,v,h=>h
 | .ex k n name text l r args line,v,h=>by
   obtain⟨o,g,L,R,A,hs,hv,ho,hl,hr,ha⟩:=h
   exact⟨o,g,L,R,A,⟨hs,aX ho⟩,hv,ho,bK.below hl,bK.below hr,kJ.below ha⟩
theorem kJ.below {S:Nat→Prop} {σ:St} :∀{t:rF} {v:AV},kJ S σ v t→kJ (fun o=>S o∧o<σ.length) σ v t
 | .nil,v,h=>h
 | .cons t r,v,h=>by
   obtain⟨o,g,cs,hs,hv,ho,a,tl,hc,hx,hl⟩:=h
   exact⟨o,g,cs,⟨hs,aX ho⟩,hv,ho,a,tl,hc,bK.below hx,tX.below hl⟩
theorem tX.below {S:Nat→Prop} {σ:St} :∀{t:rF} {cs:List AV},tX S σ cs t→tX (fun o=>S o∧o<σ.length) σ cs t
 | .nil,cs,h=>h
 | .cons t r,cs,h=>by
   obtain⟨a,tl,hc,h3,h4⟩:=h
   exact⟨a,tl,hc,bK.below h3,tX.below h4⟩
end
structure aI (p:Nat)(σ σ':St):Prop where
 len:σ.length≤σ'.length
 old:∀i,i<σ.length→i≠p→σ'[i]? =σ[i]?
theorem aI.refl (p:Nat)(σ:St):aI p σ σ:=⟨Nat.le_refl _,fun _ _ _=>rfl⟩
theorem aI.trans {p:Nat} {a b c:St} (h:aI p a b)(k:aI p b c):aI p a c:=
 ⟨Nat.le_trans h.len k.len,fun i hi hp=>by rw [k.old i (Nat.lt_of_lt_of_le hi h.len) hp,h.old i hi hp]⟩
theorem aI.of {p:Nat} {a b:St} (h:Ext a b):aI p a b:=⟨h.len,fun i hi _=>h.old i hi⟩
theorem aI.new {p:Nat} {a b:St} (h:aI p a b)(e:Nat)(cs:List AV):aI p a (au e cs b):=h.trans (.of ((Ext.refl b).new e cs))
theorem aI.xB {p:Nat} {a b:St} (h:aI p a b)(x:AO):aI p a (b.set p x):=
 ⟨by rw [List.length_set];exact h.len,fun i hi hp=>by rw [List.getElem?_set_ne (fun e=>hp e.symm)];exact h.old i hi hp⟩
theorem aI.set {p:Nat} {a b:St} (h:aI p a b) {o:Nat} (ho:a.length≤o)(x:AO):aI p a (b.set o x):=
 ⟨by rw [List.length_set];exact h.len,fun i hi hp=>by rw [List.getElem?_set_ne (fun e=>by omega)];exact h.old i hi hp⟩
theorem aI.get {p:Nat} {σ σ':St} (h:aI p σ σ') {o:Nat} {a:AO} (hp:o≠p)(ho:σ[o]? =some a):σ'[o]? =some a:=by rw [h.old o (aX ho) hp];exact ho
theorem aI.take {p:Nat} {σ σ':St} (h:aI p σ σ') {n:Nat} (hp:n≤p)(hn:n≤σ.length):σ'.take n=σ.take n:=by
 apply List.ext_getElem?
 intro i
 rw [List.getElem?_take,List.getElem?_take]
 split
 ·exact h.old i (by omega) (by omega)
 ·rfl
end Go.bG.YtjcicgkencfbgaaGreatDoor
namespace Go.bG.YtjcicgkencfbgaaGreatDoor
open Go.Proofs
set_option maxRecDepth 4000
def kK (w g n m d:Nat)(b:Bool)(c l:Nat):List AV:=[.sl w g 0 n 3,.i .i64 m,.i .i64 d,.b b,.i .i64 c,.i .i64 l]
structure PO (p w g:Nat)(all:List Tok)(σ:St)(m d:Nat)(b:Bool)(c l:Nat):Prop where
 obj:σ[p]? =some ⟨0,false,.cells 49 (kK w g all.length m d b c l)⟩
 tok:σ[w]? =some ⟨g,false,.cells 38 (dX all)⟩
 ne:w≠p
 len:all.length≤40000
 at_:m<all.length
 dp:d≤1000
theorem qU:∀(all:List Tok) (m:Nat) (t:Tok),all[m]? =some t→((dX all).drop (m*3)).take 3=gI t.k t.s t.l
 | x :: l,0,t,h=>by cases h;simp [dX,gI]
 | x :: l,m+1,t,h=>by
   have e:dX (x :: l)=gI x.k x.s x.l ++ dX l:=rfl
   rw [e,show (m+1)*3=3+m*3 by omega,←List.drop_drop,List.drop_left' (by rfl)]
   exact qU l m t h
theorem iO {p w g m d:Nat} {b:Bool} {c l:Nat} {all:List Tok} {σ:St} {t:Tok} (h:PO p w g all σ m d b c l)(ht:all[m]? =some t):ay X 15 [.p p 0 0] σ fun v s=>v= .ag (gI t.k t.s t.l)∧s=σ:=by
 have hl:=h.len
 have hm:=h.at_
 have h1:(au 38 [.i .i64 0,.s [],.i .i64 0] σ)[p]? =_:=at_new h.obj _ _
 have h2:(au 38 [.i .i64 0,.s [],.i .i64 0] σ)[w]? =_:=at_new h.tok _ _
 refine ay.body (F:=F15) aF (lit:=false) rfl rfl (Nat.le_of_ble_eq_true rfl) ?_
 conv=>whnf
 refine ak (aj (T:=oQ) rfl rfl (ah h1) rfl) ?_
 conv=>whnf
 refine ak (aj (T:=dA) rfl rfl (ah h1) rfl) ?_
 conv=>whnf
 refine ak (aj (T:=oQ) rfl rfl (ah h1) rfl) ?_
 conv=>whnf
 refine⟨((all.length - 1:Nat):Int),by rw [wrap_i64 (by omega) (by omega)];omega,?_⟩
 conv=>whnf
 refine⟨m,by rw [if_neg (by decide)];omega,hm,?_⟩
 conv=>whnf
 refine ak (bV (T:=fE) rfl rfl (ah h2) (by rw [lQ];show 0+m*3+3≤_;omega)) ?_
 rw [show ((dX all).drop (0+m*3)).take (fE).size=gI t.k t.s t.l by rw [Nat.zero_add];exact qU all m t ht]
 conv=>whnf
 refine ak (aC (T:=fE) (gI t.k t.s t.l) rfl (aG _ _ _) rfl rfl (by decide) rfl) ?_
 conv=>whnf
 refine ak (bV (T:=fE) rfl rfl (ah (at_set (aG _ _ _) _)) (Nat.le_of_ble_eq_true rfl)) ?_
 conv=>whnf
 exact Fin.flat rfl (((Ext.refl σ).new _ _).set (Nat.le_refl _) _).take ⟨rfl,rfl⟩
def dH (s:List UInt8)(t:Tok):Bool:=(t.k == 4 || t.k == 3) && t.s == s
theorem jI {p w g m d:Nat} {b:Bool} {c l:Nat} {all:List Tok} {σ:St} {t:Tok} (s:List UInt8)(h:PO p w g all σ m d b c l)(ht:all[m]? =some t):ay X 44 [.p p 0 0,.s s] σ fun v s'=>v= .b (!b && dH s t)∧s'= σ:=by
 refine ay.body (F:=F44) aF (lit:=false) rfl rfl (Nat.le_of_ble_eq_true rfl) ?_
 conv=>whnf
 refine ay.to (iO h ht) ?_
 conv=>whnf
 refine ak (aC (T:=fE) (gI t.k t.s t.l) rfl (aG _ _ _) rfl rfl (by decide) rfl) ?_
 conv=>whnf
 have hp:p<σ.length:=aX h.obj
 have h1:((au 38 [.i .i64 0,.s [],.i .i64 0] σ).set σ.length ⟨0,false,.cells 38 (gI t.k t.s t.l)⟩)[p]? =_:=aK (at_new h.obj _ _) (by omega) _
 have h3:((au 38 [.i .i64 0,.s [],.i .i64 0] σ).set σ.length ⟨0,false,.cells 38 (gI t.k t.s t.l)⟩)[σ.length]? =_:=at_set (aG _ _ _) _
 have hx:=(((Ext.refl σ).new 38 [.i .i64 0,.s [],.i .i64 0]).set (Nat.le_refl _) ⟨0,false,.cells 38 (gI t.k t.s t.l)⟩).take
 refine ak (aj (T:=kY) rfl rfl (ah h1) rfl) ?_
 cases b with
 | true=>
   conv=>whnf
   exact Fin.flat rfl hx ⟨rfl,rfl⟩
 | false=>
   conv=>whnf
   refine ak (aj (T:=dA) rfl rfl (ah h3) rfl) ?_
   conv=>whnf
   by_cases h4:t.k=4
   ·rw [decide_eq_true (by omega)]
    conv=>whnf
    refine ak (aj (T:=eG) rfl rfl (ah h3) rfl) ?_
    conv=>whnf
    cases he:t.s == s <;> (conv=>whnf)
    ·exact Fin.flat rfl hx ⟨by simp [dH,h4,he],rfl⟩
    ·exact Fin.flat rfl hx ⟨by simp [dH,h4,he],rfl⟩
   ·rw [decide_eq_false (by omega)]
    conv=>whnf
    refine ak (aj (T:=dA) rfl rfl (ah h3) rfl) ?_
    conv=>whnf
    by_cases h5:t.k=3
    ·rw [decide_eq_true (by omega)]
     conv=>whnf
     refine ak (aj (T:=eG) rfl rfl (ah h3) rfl) ?_
     conv=>whnf
     cases he:t.s == s <;> (conv=>whnf)
     ·exact Fin.flat rfl hx ⟨by simp [dH,h5,he],rfl⟩
     ·exact Fin.flat rfl hx ⟨by simp [dH,h5,he],rfl⟩
    ·rw [decide_eq_false (by omega)]
     conv=>whnf
     exact Fin.flat rfl hx ⟨by simp [dH,h4,h5],rfl⟩
def fF (p w g n:Nat)(σ:St)(m d:Nat)(b:Bool)(c l:Nat):St:=σ.set p ⟨0,false,.cells 49 (kK w g n m d b c l)⟩
theorem PO.set {p w g m d:Nat} {b:Bool} {c l:Nat} {all:List Tok} {σ:St} (h:PO p w g all σ m d b c l) {m' d':Nat} {b':Bool} {c' l':Nat} (hm:m'< all.length)(hd:d'≤1000):PO p w g all (fF p w g all.length σ m' d' b' c' l') m' d' b' c' l':=
 ⟨at_set h.obj _,aK h.tok h.ne.symm _,h.ne,h.len,hm,hd⟩
theorem qm {p w g n:Nat} {σ:St} {m d:Nat} {b:Bool} {c l m' d':Nat} {b':Bool} {c' l':Nat} :fF p w g n (fF p w g n σ m d b c l) m' d' b' c' l'= fF p w g n σ m' d' b' c' l':=by
 unfold fF;rw [List.set_set]
theorem bg {p w g n:Nat} {σ:St} {m d:Nat} {b:Bool} {c l:Nat} :(fF p w g n σ m d b c l).length=σ.length:=by unfold fF;rw [List.length_set]
theorem dw {p w g m d:Nat} {b:Bool} {c l:Nat} {all:List Tok} {σ:St} {t:Tok} (s:List UInt8)(h:PO p w g all σ m d b c l)(ht:all[m]? =some t) {Q:AV→St→Prop}
 (q1:b=false→dH s t=true→Q (.b true) (fF p w g all.length σ (m+1) d b c l)) (q0:(!b && dH s t)=false→Q (.b false) σ):ay X 45 [.p p 0 0,.s s] σ Q:=by
 have hl:=h.len
 have hm:=h.at_
 refine ay.body (F:=F45) aF (lit:=false) rfl rfl (Nat.le_of_ble_eq_true rfl) ?_
 conv=>whnf
 refine ay.to (jI s h ht) ?_
 cases hi:(!b && dH s t) with
 | false=>
   conv=>whnf
   exact Fin.flat rfl List.take_length (q0 hi)
 | true=>
   rw [Bool.and_eq_true,Bool.not_eq_true'] at hi
   conv=>whnf
   refine ak (aj (T:=dA) rfl rfl (ah h.obj) rfl) ?_
   conv=>whnf
   refine⟨((m+1:Nat):Int),by rw [wrap_i64 (by omega) (by omega)];omega,?_⟩
   conv=>whnf
   refine ak (aC (T:=dA) (kK w g all.length (m+1) d b c l) rfl h.obj rfl rfl (Nat.le_of_ble_eq_true rfl) rfl) ?_
   conv=>whnf
   exact Fin.same bg (q1 hi.1 hi.2)
theorem qV {p w g m d:Nat} {b:Bool} {c l:Nat} {all:List Tok} {σ:St} {t:Tok} (e:Nat)(h:PO p w g all σ m d b c l)(ht:all[m]? =some t) {Q:AV→St→Prop}
 (q1:b=false→Q (.tu []) (fF p w g all.length σ m d true e t.l)) (q0:b=true→Q (.tu []) σ):ay X 84 [.p p 0 0,.i .i64 e] σ Q:=by
 have hl:=h.len
 have hm:=h.at_
 refine ay.body (F:=F84) aF (lit:=false) rfl rfl (Nat.le_of_ble_eq_true rfl) ?_
 conv=>whnf
 refine ak (aj (T:=kY) rfl rfl (ah h.obj) rfl) ?_
 cases b with
 | true=>
   conv=>whnf
   exact Fin.flat rfl List.take_length (q0 rfl)
 | false=>
   conv=>whnf
   refine ak (aC (T:=kY) (kK w g all.length m d true c l) rfl h.obj rfl rfl (Nat.le_of_ble_eq_true rfl) rfl) ?_
   have h':=h.set (m':=m) (d':=d) (b':=true) (c':=c) (l':=l) hm h.dp
   conv=>whnf
   refine ay.to (iO h' ht) ?_
   conv=>whnf
   refine ak (aC (T:=iw) (kK w g all.length m d true e t.l) rfl h'.obj rfl rfl (Nat.le_of_ble_eq_true rfl) rfl) ?_
   conv=>whnf
   have e1:=qm (p:=p) (w:=w) (g:=g) (n:=all.length) (σ:=σ) (m:=m) (d:=d) (b:=true) (c:=c) (l:=l) (m':=m) (d':=d) (b':=true) (c':=e) (l':=t.l)
   unfold fF at e1
   rw [e1]
   exact Fin.same bg (q1 rfl)
theorem jG {p w g m d c l:Nat} {all:List Tok} {σ:St} {t:Tok} (s:List UInt8)(h:PO p w g all σ m d false c l)(ht:all[m]? =some t) {Q:AV→St→Prop}
 (q1:dH s t=true→Q (.tu []) (fF p w g all.length σ (m+1) d false c l)) (q0:dH s t=false→Q (.tu []) (fF p w g all.length σ m d true 4 t.l)):ay X 41 [.p p 0 0,.s s] σ Q:=by
 refine ay.body (F:=F41) aF (lit:=false) rfl rfl (Nat.le_of_ble_eq_true rfl) ?_
 conv=>whnf
 refine dw s h ht (fun _ h1=>?_) (fun h0=>?_)
 ·conv=>whnf
  exact Fin.same bg (q1 h1)
 ·conv=>whnf
  refine qV 4 h ht (fun _=>?_) (fun e=>by cases e)
  conv=>whnf
  exact Fin.same bg (q0 (by simpa using h0))
theorem ou {p w g m d c l:Nat} {all:List Tok} {σ:St} {t:Tok} (s:List UInt8)(h:PO p w g all σ m d true c l)(ht:all[m]? =some t) {Q:AV→St→Prop} (q:Q (.tu []) σ):ay X 41 [.p p 0 0,.s s] σ Q:=by
 refine ay.body (F:=F41) aF (lit:=false) rfl rfl (Nat.le_of_ble_eq_true rfl) ?_
 conv=>whnf
 refine dw s h ht (fun e=>by cases e) (fun _=>?_)
 conv=>whnf
 refine qV 4 h ht (fun e=>by cases e) (fun _=>?_)
 conv=>whnf
 exact Fin.flat rfl List.take_length q
theorem qW {p w g m d c l:Nat} {all:List Tok} {σ:St} {t:Tok} (s:List UInt8)(h:PO p w g all σ m d false c l)(ht:all[m]? =some t)(hd:d+1≤1000)(hn:dH s t=true→m+1<all.length) {Q:AV→St→Prop}
 (q1:dH s t=true→d<64→Q (.tu []) (fF p w g all.length σ (m+1) (d+1) false c l)) (q2:dH s t=true→64≤d→Q (.tu []) (fF p w g all.length σ m (d+1) true 3 t.l)) (q0:dH s t=false→Q (.tu []) (fF p w g all.length σ m (d+1) true 4 t.l)):ay X 43 [.p p 0 0,.s s] σ Q:=by
 have hm:=h.at_
 have hl:=h.len
 refine ay.body (F:=F43) aF (lit:=false) rfl rfl (Nat.le_of_ble_eq_true rfl) ?_
 conv=>whnf
 refine ay.to (jI s h ht) ?_
 cases hi:dH s t with
 | false=>
   conv=>whnf
   refine jG s h ht (fun e=>by rw [hi] at e;cases e) (fun _=>?_)
   conv=>whnf
   refine ak (aj (T:=dA) rfl rfl (ah (h.set hm h.dp).obj) rfl) ?_
   conv=>whnf
   refine⟨((d+1:Nat):Int),by rw [wrap_i64 (by omega) (by omega)];omega,?_⟩
   conv=>whnf
   refine ak (aC (T:=dA) (kK w g all.length m (d+1) true 4 t.l) rfl (h.set hm h.dp).obj rfl rfl (Nat.le_of_ble_eq_true rfl) rfl) ?_
   conv=>whnf
   rw [show List.set (fF p w g all.length σ m d true 4 t.l) p _=_ from qm]
   exact Fin.same bg (q0 hi)
 | true=>
   conv=>whnf
   refine ak (aj (T:=dA) rfl rfl (ah h.obj) rfl) ?_
   conv=>whnf
   by_cases h64:64≤d
   ·rw [decide_eq_true (by omega)]
    conv=>whnf
    refine qV 3 h ht (fun _=>?_) (fun e=>by cases e)
    conv=>whnf
    refine ou s (h.set hm h.dp) ht ?_
    conv=>whnf
    refine ak (aj (T:=dA) rfl rfl (ah (h.set hm h.dp).obj) rfl) ?_
    conv=>whnf
    refine⟨((d+1:Nat):Int),by rw [wrap_i64 (by omega) (by omega)];omega,?_⟩
    conv=>whnf
    refine ak (aC (T:=dA) (kK w g all.length m (d+1) true 3 t.l) rfl (h.set hm h.dp).obj rfl rfl (Nat.le_of_ble_eq_true rfl) rfl) ?_
    conv=>whnf
    rw [show List.set (fF p w g all.length σ m d true 3 t.l) p _=_ from qm]
    exact Fin.same bg (q2 hi h64)
   ·rw [decide_eq_false (by omega)]
    conv=>whnf
    refine jG s h ht (fun _=>?_) (fun e=>by rw [hi] at e;cases e)
    conv=>whnf
    refine ak (aj (T:=dA) rfl rfl (ah (h.set (hn hi) h.dp).obj) rfl) ?_
    conv=>whnf
    refine⟨((d+1:Nat):Int),by rw [wrap_i64 (by omega) (by omega)];omega,?_⟩
    conv=>whnf
    refine ak (aC (T:=dA) (kK w g all.length (m+1) (d+1) false c l) rfl (h.set (hn hi) h.dp).obj rfl rfl (Nat.le_of_ble_eq_true rfl) rfl) ?_
    conv=>whnf
    rw [show List.set (fF p w g all.length σ (m+1) d false c l) p _=_ from qm]
    exact Fin.same bg (q1 hi (by omega))
theorem Eo {p w g m d c l:Nat} {all:List Tok} {σ:St} {t:Tok} (s:List UInt8)(h:PO p w g all σ m d true c l)(ht:all[m]? =some t)(hd:d+1≤1000) {Q:AV→St→Prop}
 (q:Q (.tu []) (fF p w g all.length σ m (d+1) true c l)):ay X 43 [.p p 0 0,.s s] σ Q:=by
 have hm:=h.at_
 have hl:=h.len
 refine ay.body (F:=F43) aF (lit:=false) rfl rfl (Nat.le_of_ble_eq_true rfl) ?_
 conv=>whnf
 refine ay.to (jI s h ht) ?_
 conv=>whnf
 refine ou s h ht ?_
 conv=>whnf
 refine ak (aj (T:=dA) rfl rfl (ah h.obj) rfl) ?_
 conv=>whnf
 refine⟨((d+1:Nat):Int),by rw [wrap_i64 (by omega) (by omega)];omega,?_⟩
 conv=>whnf
 refine ak (aC (T:=dA) (kK w g all.length m (d+1) true c l) rfl h.obj rfl rfl (Nat.le_of_ble_eq_true rfl) rfl) ?_
 conv=>whnf
 exact Fin.same bg q
theorem yS {p w g m d c l:Nat} {all:List Tok} {σ:St} {t:Tok} (s:List UInt8)(h:PO p w g all σ m (d+1) false c l)(ht:all[m]? =some t)(hn:dH s t=true→m+1<all.length) {Q:AV→St→Prop}
 (q1:dH s t=true→Q (.tu []) (fF p w g all.length σ (m+1) d false c l)) (q0:dH s t=false→Q (.tu []) (fF p w g all.length σ m d true 4 t.l)):ay X 46 [.p p 0 0,.s s] σ Q:=by
 have hm:=h.at_
 have hl:=h.len
 have hd:=h.dp
 refine ay.body (F:=F46) aF (lit:=false) rfl rfl (Nat.le_of_ble_eq_true rfl) ?_
 conv=>whnf
 refine jG s h ht (fun hi=>?_) (fun hi=>?_)
 ·conv=>whnf
  refine ak (aj (T:=dA) rfl rfl (ah (h.set (hn hi) h.dp).obj) rfl) ?_
  conv=>whnf
  refine⟨(d:Int),by rw [wrap_i64 (by omega) (by omega)];omega,?_⟩
  conv=>whnf
  refine ak (aC (T:=dA) (kK w g all.length (m+1) d false c l) rfl (h.set (hn hi) h.dp).obj rfl rfl (Nat.le_of_ble_eq_true rfl) rfl) ?_
  conv=>whnf
  rw [show List.set (fF p w g all.length σ (m+1) (d+1) false c l) p _=_ from qm]
  exact Fin.same bg (q1 hi)
 ·conv=>whnf
  refine ak (aj (T:=dA) rfl rfl (ah (h.set hm h.dp).obj) rfl) ?_
  conv=>whnf
  refine⟨(d:Int),by rw [wrap_i64 (by omega) (by omega)];omega,?_⟩
  conv=>whnf
  refine ak (aC (T:=dA) (kK w g all.length m d true 4 t.l) rfl (h.set hm h.dp).obj rfl rfl (Nat.le_of_ble_eq_true rfl) rfl) ?_
  conv=>whnf
  rw [show List.set (fF p w g all.length σ m (d+1) true 4 t.l) p _=_ from qm]
  exact Fin.same bg (q0 hi)
theorem gX {p w g m d c l:Nat} {all:List Tok} {σ:St} {t:Tok} (s:List UInt8)(h:PO p w g all σ m (d+1) true c l)(ht:all[m]? =some t) {Q:AV→St→Prop}
 (q:Q (.tu []) (fF p w g all.length σ m d true c l)):ay X 46 [.p p 0 0,.s s] σ Q:=by
 have hm:=h.at_
 have hl:=h.len
 have hd:=h.dp
 refine ay.body (F:=F46) aF (lit:=false) rfl rfl (Nat.le_of_ble_eq_true rfl) ?_
 conv=>whnf
 refine ou s h ht ?_
 conv=>whnf
 refine ak (aj (T:=dA) rfl rfl (ah h.obj) rfl) ?_
 conv=>whnf
 refine⟨(d:Int),by rw [wrap_i64 (by omega) (by omega)];omega,?_⟩
 conv=>whnf
 refine ak (aC (T:=dA) (kK w g all.length m d true c l) rfl h.obj rfl rfl (Nat.le_of_ble_eq_true rfl) rfl) ?_
 conv=>whnf
 exact Fin.same bg q
end Go.bG.YtjcicgkencfbgaaGreatDoor
namespace Go.bG.YtjcicgkencfbgaaGreatDoor
open Go.Proofs
set_option maxRecDepth 4000
theorem UY (s:List UInt8)(σ:St):ay X 134 [.s s] σ fun v s'=>v= .i .i64 (fM s)∧s'= σ:=by
 refine ay.body (F:=Z5) aF (lit:=false) rfl rfl (Nat.le_of_ble_eq_true rfl) ?_
 repeat' ((conv=>whnf);split)
 all_goals (conv=>whnf)
 all_goals exact Fin.flat rfl List.take_length ⟨by simp_all [fM],rfl⟩
theorem jV {σ σ':St} {v:AV} {Q:AV→St→Prop} {p:Nat} {a b:AO} (ho:σ[p]? =some a)(ho':σ'[p]? =some b)(hab:a≠b)(q:Q v σ'):Fin σ v σ' Q:=Fin.ne (fun e=>by
 have h:=congrArg (fun l=>l[p]?) e
 simp only [List.getElem?_take,if_pos (aX ho),ho,ho'] at h
 exact hab (Option.some.inj h).symm) q
theorem UZ {w g n m d c l m' d' c' l':Nat} {b b':Bool} (h:m≠m'∨b≠b'):(⟨0,false,.cells 49 (kK w g n m d b c l)⟩:AO)≠⟨0,false,.cells 49 (kK w g n m' d' b' c' l')⟩:=by
 intro e
 injection e with _ _ e
 injection e with _ e
 simp only [kK,List.cons.injEq,AV.i.injEq,AV.b.injEq,true_and] at e
 rcases h with h | h
 ·exact h (by have:=e.1;omega)
 ·exact h e.2.2.1
theorem uY {p w g m d c l:Nat} {all:List Tok} {σ:St} {t:Tok} (h:PO p w g all σ m d false c l)(ht:all[m]? =some t)(hn:t.k=1→m+1<all.length) {Q:AV→St→Prop}
 (q1:t.k=1→∀σ',aI p σ σ'→PO p w g all σ' (m+1) d false c l→Q (.s t.s) σ') (q0:t.k≠1→∀σ',aI p σ σ'→PO p w g all σ' m d true 4 t.l→Q (.s []) σ'):ay X 42 [.p p 0 0] σ Q:=by
 have hm:=h.at_
 have hl:=h.len
 refine ay.body (F:=F42) aF (lit:=false) rfl rfl (Nat.le_of_ble_eq_true rfl) ?_
 conv=>whnf
 refine ay.to (iO h ht) ?_
 conv=>whnf
 refine ak (aC (T:=fE) (gI t.k t.s t.l) rfl (aG _ _ _) rfl rfl (Nat.le_of_ble_eq_true rfl) rfl) ?_
 conv=>whnf
 have hp:p<σ.length:=aX h.obj
 have h1:PO p w g all ((au 38 [.i .i64 0,.s [],.i .i64 0] σ).set σ.length ⟨0,false,.cells 38 (gI t.k t.s t.l)⟩) m d false c l:=⟨aK (at_new h.obj _ _) (by omega) _,aK (at_new h.tok _ _) (by have:=aX h.tok;omega) _,h.ne,hl,hm,h.dp⟩
 have h3:((au 38 [.i .i64 0,.s [],.i .i64 0] σ).set σ.length ⟨0,false,.cells 38 (gI t.k t.s t.l)⟩)[σ.length]? =_:=at_set (aG _ _ _) _
 refine ak (aj (T:=kY) rfl rfl (ah h1.obj) rfl) ?_
 conv=>whnf
 refine ak (aj (T:=dA) rfl rfl (ah h3) rfl) ?_
 conv=>whnf
 have hx:aI p σ ((au 38 [.i .i64 0,.s [],.i .i64 0] σ).set σ.length ⟨0,false,.cells 38 (gI t.k t.s t.l)⟩):=((aI.refl p σ).new _ _).set (Nat.le_refl _) _
 by_cases hk:t.k=1
 ·rw [decide_eq_true (by omega)]
  conv=>whnf
  refine ak (aj (T:=dA) rfl rfl (ah h1.obj) rfl) ?_
  conv=>whnf
  refine⟨((m+1:Nat):Int),by rw [wrap_i64 (by omega) (by omega)];omega,?_⟩
  conv=>whnf
  refine ak (aC (T:=dA) (kK w g all.length (m+1) d false c l) rfl h1.obj rfl rfl (Nat.le_of_ble_eq_true rfl) rfl) ?_
  conv=>whnf
  refine ak (aj (T:=eG) rfl rfl (ah (aK h3 (by omega) _)) rfl) ?_
  conv=>whnf
  have h9:=h1.set (m':=m+1) (d':=d) (b':=false) (c':=c) (l':=l) (hn hk) h.dp
  exact jV h.obj h9.obj (UZ (.inl (by omega))) (q1 hk _ (hx.xB _) h9)
 ·rw [decide_eq_false (by omega)]
  conv=>whnf
  refine qV 4 h1 ht (fun _=>?_) (fun e=>by cases e)
  conv=>whnf
  have h9:=h1.set (m':=m) (d':=d) (b':=true) (c':=4) (l':=t.l) hm h.dp
  exact jV h.obj h9.obj (UZ (.inr (by decide))) (q0 hk _ (hx.xB _) h9)
theorem Ep {p w g m d c l:Nat} {all:List Tok} {σ:St} {t:Tok} (h:PO p w g all σ m d true c l)(ht:all[m]? =some t) {Q:AV→St→Prop} (q:Q (.s []) σ):ay X 42 [.p p 0 0] σ Q:=by
 have hm:=h.at_
 have hl:=h.len
 refine ay.body (F:=F42) aF (lit:=false) rfl rfl (Nat.le_of_ble_eq_true rfl) ?_
 conv=>whnf
 refine ay.to (iO h ht) ?_
 conv=>whnf
 refine ak (aC (T:=fE) (gI t.k t.s t.l) rfl (aG _ _ _) rfl rfl (Nat.le_of_ble_eq_true rfl) rfl) ?_
 conv=>whnf
 have hp:p<σ.length:=aX h.obj
 have h1:PO p w g all ((au 38 [.i .i64 0,.s [],.i .i64 0] σ).set σ.length ⟨0,false,.cells 38 (gI t.k t.s t.l)⟩) m d true c l:=⟨aK (at_new h.obj _ _) (by omega) _,aK (at_new h.tok _ _) (by have:=aX h.tok;omega) _,h.ne,hl,hm,h.dp⟩
 have hx:=(((Ext.refl σ).new 38 [.i .i64 0,.s [],.i .i64 0]).set (Nat.le_refl _) ⟨0,false,.cells 38 (gI t.k t.s t.l)⟩).take
 refine ak (aj (T:=kY) rfl rfl (ah h1.obj) rfl) ?_
 conv=>whnf
 refine qV 4 h1 ht (fun e=>by cases e) (fun _=>?_)
 conv=>whnf
 exact Fin.flat rfl hx q
theorem IK:∀(s:List UInt8) (n:Nat),n≤qP n s
 | [],n=>Nat.le_refl _
 | c :: s,n=>Nat.le_trans (show n≤10*n+(c.toNat - 48) by omega) (IK s _)
theorem ND (s:List UInt8)(hd:∀c∈s,48≤c.toNat∧c.toNat≤57)(hl:s.length≤100000)(σ:St)(Q:Out→Env→St→Prop):∀(k m n:Nat),m+k=s.length→qP n (s.drop m)<4294967296→
 (∀e',get e' 3= .i .u32 (qP n (s.drop m))→get e' 1000000= .u→Q (.exit 0) e' σ)→
 aS X [0,3,4] S_ [(0,.s s),(3,.i .u32 n),(4,.i .i64 m)] σ Q:=by
 intro k
 induction k with
 | zero=>
   intro m n hm hv hq
   refine aS.round aF (lit:=false) ?_
   conv=>whnf
   rw [decide_eq_false (by omega)]
   conv=>whnf
   refine hq _ ?_ rfl
   rw [List.drop_of_length_le (by omega)];rfl
 | succ k ih=>
   intro m n hm hv hq
   obtain⟨c,hc⟩:∃c,s[m]? =some c:=⟨_,List.getElem?_eq_getElem (by omega)⟩
   have hdr:=drop_cons hc
   have hcd:=hd c (List.mem_of_getElem? hc)
   rw [hdr] at hv hq
   have hb:10*n+(c.toNat - 48)<4294967296:=Nat.lt_of_le_of_lt (IK (s.drop (m+1)) (10*n+(c.toNat - 48))) hv
   have hv':id (qP (10*n+(c.toNat - 48)) (s.drop (m+1))<4294967296):=hv
   clear hv
   refine aS.round aF (lit:=false) ?_
   conv=>whnf
   rw [decide_eq_true (by omega)]
   conv=>whnf
   refine⟨10*n,wrap_u32 (by omega) (by omega),?_⟩
   conv=>whnf
   refine⟨m,c,rfl,hc,?_⟩
   conv=>whnf
   refine⟨_,wrap_u8 (n:=c.toNat - 48) (by omega) (by omega),?_⟩
   conv=>whnf
   refine⟨_,wrap_u32 (n:=(c.toNat:Int) - 48) (by omega) (by omega),?_⟩
   conv=>whnf
   refine⟨((10*n+(c.toNat - 48):Nat):Int),by rw [wrap_u32 (by omega) (by omega)];omega,?_⟩
   conv=>whnf
   refine⟨((m+1:Nat):Int),by rw [wrap_i64 (by omega) (by omega)];omega,?_⟩
   conv=>whnf
   exact ih (m+1) _ (by omega) hv' hq
theorem KP (s:List UInt8)(hd:∀c∈s,48≤c.toNat∧c.toNat≤57)(hl:s.length≤100000)(hv:qP 0 s<4294967296)(σ:St):ay X 151 [.s s] σ fun v s'=>v= .i .u32 (qP 0 s)∧s'= σ:=by
 refine ay.body (F:=aad) aF (lit:=false) rfl rfl (Nat.le_of_ble_eq_true rfl) ?_
 conv=>whnf
 refine ND s hd hl σ _ s.length 0 0 (by omega) (by rw [List.drop_zero];exact hv) fun e' h3 h9=>?_
 rw [List.drop_zero] at h3
 conv=>whnf
 rw [show dK.ev e' (.t 3)=get e' 3 from rfl,h3]
 conv=>whnf
 exact Fin.flat rfl List.take_length ⟨rfl,rfl⟩
end Go.bG.YtjcicgkencfbgaaGreatDoor
namespace Go.bG.YtjcicgkencfbgaaGreatDoor
open Go.Proofs
set_option maxRecDepth 4000
theorem qX {p w g m d c l:Nat} {b:Bool} {all:List Tok} {σ:St} (t:Tok)(h:PO p w g all σ m d b c l) {Q:St→Prop}
 (q:∀σ1,aI p σ σ1→PO p w g all σ1 m d b c l→σ1[σ.length]? =some ⟨0,false,.cells 38 (gI t.k t.s t.l)⟩→σ1.length=σ.length+1→Q σ1) :
 om (jW (L_.get 38) (.p σ.length 0 0) (.ag (gI t.k t.s t.l)) (au 38 fE.zero.cells σ)) Q:=by
 refine ak (aC (T:=fE) (gI t.k t.s t.l) rfl (aG _ _ _) rfl rfl (Nat.le_of_ble_eq_true rfl) rfl) ?_
 have hp:=aX h.obj
 have hw:=aX h.tok
 refine q _ (((aI.refl p σ).new _ _).set (Nat.le_refl _) _) ⟨aK (at_new h.obj _ _) (by omega) _,aK (at_new h.tok _ _) (by omega) _,h.ne,h.len,h.at_,h.dp⟩ (at_set (aG _ _ _) _) ?_
 rw [List.length_set,aH]
theorem PO.new {p w g m d c l:Nat} {b:Bool} {all:List Tok} {σ:St} (h:PO p w g all σ m d b c l)(e:Nat)(cs:List AV):PO p w g all (au e cs σ) m d b c l:=⟨at_new h.obj _ _,at_new h.tok _ _,h.ne,h.len,h.at_,h.dp⟩
theorem QE {p w g m d c l:Nat} {all:List Tok} {σ:St} {t:Tok} (h:PO p w g all σ m d true c l)(ht:all[m]? =some t) {Q:AV→St→Prop}
 (q:∀o σ',aI p σ σ'→PO p w g all σ' m d true c l→Q (.p o 0 0) σ'):ay X 135 [.p p 0 0] σ Q:=by
 refine ay.body (F:=Xu) aF (lit:=false) rfl rfl (Nat.le_of_ble_eq_true rfl) ?_
 conv=>whnf
 refine ay.to (iO h ht) ?_
 conv=>whnf
 refine qX t h fun σ1 x1 h1 ht1 hl1=>?_
 conv=>whnf
 refine ay.to (jI _ h1 ht) ?_
 conv=>whnf
 refine dw _ h1 ht (fun e=>by cases e) (fun _=>?_)
 conv=>whnf
 refine dw _ h1 ht (fun e=>by cases e) (fun _=>?_)
 conv=>whnf
 refine ak (aj (T:=dA) rfl rfl (ah ht1) rfl) ?_
 conv=>whnf
 cases hk:decide ((t.k:Int)=2)
 case' true=>
  conv=>whnf
  refine ak (aj (T:=kY) rfl rfl (ah h1.obj) rfl) ?_
 all_goals
  conv=>whnf
  refine Ep h1 ht ?_
  conv=>whnf
  refine ay.to (jI _ h1 ht) ?_
  conv=>whnf
  refine ak (aj (T:=dA) rfl rfl (ah ht1) rfl) ?_
  conv=>whnf
  exact Fin.ref rfl (q _ _ (x1.new _ _) (h1.new _ _))
theorem U0 {p w g m d c l:Nat} {all:List Tok} {σ:St} {t:Tok} (h:PO p w g all σ m d true c l)(ht:all[m]? =some t) {Q:AV→St→Prop}
 (q:∀o σ',aI p σ σ'→PO p w g all σ' m d true c l→Q (.p o 0 0) σ'):ay X 117 [.p p 0 0] σ Q:=by
 refine ay.body (F:=Xp) aF (lit:=false) rfl rfl (Nat.le_of_ble_eq_true rfl) ?_
 conv=>whnf
 refine QE h ht fun o σ1 x1 h1=>?_
 conv=>whnf
 refine aS.round aF (lit:=false) ?_
 conv=>whnf
 refine ak (aj (T:=kY) rfl rfl (ah h1.obj) rfl) ?_
 conv=>whnf
 exact Fin.ref rfl (q _ _ x1 h1)
theorem Am {p w g m d c l:Nat} {all:List Tok} {σ:St} {t:Tok} (h:PO p w g all σ m d true c l)(ht:all[m]? =some t) {Q:AV→St→Prop}
 (q:∀o σ',aI p σ σ'→PO p w g all σ' m d true c l→Q (.p o 0 0) σ'):ay X 133 [.p p 0 0] σ Q:=by
 refine ay.body (F:=Xt) aF (lit:=false) rfl rfl (Nat.le_of_ble_eq_true rfl) ?_
 conv=>whnf
 refine ay.to (iO h ht) ?_
 conv=>whnf
 refine qX t h fun σ1 x1 h1 ht1 hl1=>?_
 conv=>whnf
 refine ay.to (jI _ h1 ht) ?_
 conv=>whnf
 refine ay.to (jI _ h1 ht) ?_
 conv=>whnf
 refine U0 h1 ht fun o σ2 x2 h2=>?_
 conv=>whnf
 exact Fin.ref rfl (q _ _ (x1.trans x2) h2)
theorem Es {p w g m d c l:Nat} {all:List Tok} {σ:St} {t:Tok} (k:Nat)(h:PO p w g all σ m d true c l)(ht:all[m]? =some t) {Q:AV→St→Prop}
 (q:∀o σ',aI p σ σ'→PO p w g all σ' m d true c l→Q (.p o 0 0) σ'):ay X 114 [.p p 0 0,.i .i64 k] σ Q:=by
 refine ay.body (F:=Xo) aF (lit:=false) rfl rfl (Nat.le_of_ble_eq_true rfl) ?_
 conv=>whnf
 refine Am h ht fun o σ1 x1 h1=>?_
 conv=>whnf
 refine aS.round aF (lit:=false) ?_
 conv=>whnf
 refine ak (aj (T:=kY) rfl rfl (ah h1.obj) rfl) ?_
 conv=>whnf
 exact Fin.ref rfl (q _ _ x1 h1)
theorem PO.ext {p w g n m d c l:Nat} {b:Bool} {σ:St} :aI p σ (fF p w g n σ m d b c l):=(aI.refl p σ).xB _
end Go.bG.YtjcicgkencfbgaaGreatDoor
namespace Go.bG.YtjcicgkencfbgaaGreatDoor
open Go.Proofs
set_option maxRecDepth 4000
def PE (p w g:Nat)(all:List Tok)(σ:St)(d:Nat)(Q:AV→St→Prop):Re Tr→Prop
 | .ok t ts=>∀o g' σ' m' c l,aI p σ σ'→PO p w g all σ' m' d false c l→all.drop m'= ts→bK (fun i=>σ.length≤i) σ' (.p o g' 0) t→Q (.p o g' 0) σ'
 | .bad c l=>∀o g' σ' m',aI p σ σ'→PO p w g all σ' m' d true c l→Q (.p o g' 0) σ'
 | .out=>True
theorem aW {all:List Tok} {m:Nat} {t:Tok} {r:List Tok} (h:all.drop m=t :: r):all[m]? =some t∧all.drop (m+1)=r:=by
 constructor
 ·have:=congrArg List.head? h
  rw [List.head?_drop] at this;exact this
 ·rw [←List.tail_drop,h];rfl
theorem jv {all:List Tok} {m:Nat} (h:aU (all.drop m)):m<all.length:=by
 rcases Nat.lt_or_ge m all.length with hl | hl
 ·exact hl
 ·rw [List.drop_of_length_le hl] at h;exact h.elim
def PL (k j:Nat)(p w g:Nat)(all:List Tok)(B:Nat)(σ:St)(d:Nat)(Q:Out→Env→St→Prop):Re Tr→Prop
 | .ok t ts=>∀o g' σ' m' c l e',get e' k= .p o g' 0→aI p σ σ'→PO p w g all σ' m' d false c l→all.drop m'= ts→bK (fun i=>B≤i) σ' (.p o g' 0) t→Q .ret e' σ'
 | .bad c l=>∀o g' σ' m' e',get e' j= .p o g' 0→get e' 1000000= .u→aI p σ σ'→PO p w g all σ' m' d true c l→Q (.exit 0) e' σ'
 | .out=>True
structure WE (p w g:Nat)(all:List Tok)(n:Nat):Prop where
 expr:∀(d c:Nat) (σ:St) (m c0 l0:Nat) (Q:AV→St→Prop),PO p w g all σ m d false c0 l0→d≤64→c≤8→aU (all.drop m)→10*(all.drop m).length+9≤n→PE p w g all σ d Q (dO n d c (all.drop m))→ay X 114 [.p p 0 0,.i .i64 c] σ Q
 un:∀(d:Nat) (σ:St) (m c0 l0:Nat) (Q:AV→St→Prop),PO p w g all σ m d false c0 l0→d≤64→aU (all.drop m)→10*(all.drop m).length+8≤n→PE p w g all σ d Q (Ci n d (all.drop m))→ay X 133 [.p p 0 0] σ Q
 post:∀(d:Nat) (σ:St) (m c0 l0:Nat) (Q:AV→St→Prop),PO p w g all σ m d false c0 l0→d≤64→aU (all.drop m)→10*(all.drop m).length+7≤n→PE p w g all σ d Q (iV n d (all.drop m))→ay X 117 [.p p 0 0] σ Q
 with_:∀(d:Nat) (a b:List UInt8) (σ:St) (m c0 l0:Nat) (Q:AV→St→Prop),PO p w g all σ m d false c0 l0→d≤64→aU (all.drop m)→10*(all.drop m).length+5≤n→PE p w g all σ d Q (iI n d a b (all.drop m))→ay X 136 [.p p 0 0,.s a,.s b] σ Q
 cell:∀(d:Nat) (σ:St) (m c0 l0:Nat) (Q:AV→St→Prop),PO p w g all σ m d false c0 l0→d≤64→aU (all.drop m)→10*(all.drop m).length+6≤n→PE p w g all σ d Q (jS n d (all.drop m))→ay X 137 [.p p 0 0] σ Q
 first:∀(d:Nat) (σ:St) (m c0 l0:Nat) (Q:AV→St→Prop),PO p w g all σ m d false c0 l0→d≤64→aU (all.drop m)→10*(all.drop m).length+6≤n→PE p w g all σ d Q (iy n d (all.drop m))→ay X 135 [.p p 0 0] σ Q
 nZ:∀(d B:Nat) (x:Tr) (σ:St) (m c0 l0 o g':Nat) (Q:Out→Env→St→Prop),PO p w g all σ m d false c0 l0→d≤64→p<B→B≤σ.length→Jg x→bK (fun i=>B≤i) σ (.p o g' 0) x→aU (all.drop m)→10*(all.drop m).length+9≤n→PL 2 3 p w g all B σ d Q (fO n d x (all.drop m))→aS X [0,3] H7 [(0,.p p 0 0),(3,.p o g' 0)] σ Q
 loop:∀(d c B:Nat) (x:Tr) (σ:St) (m c0 l0 o g':Nat) (Q:Out→Env→St→Prop),PO p w g all σ m d false c0 l0→d≤64→c≤8→p<B→B≤σ.length→Jg x→bK (fun i=>B≤i) σ (.p o g' 0) x→aU (all.drop m)→10*(all.drop m).length+9≤n→PL 4 5 p w g all B σ d Q (jf n d c x (all.drop m))→aS X [0,1,5] H6 [(0,.p p 0 0),(1,.i .i64 c),(5,.p o g' 0)] σ Q
section
variable {p w g:Nat} {all:List Tok} {n:Nat}
theorem aN {s:List UInt8} {m:Nat} {t:Tok} {r:List Tok} (he:aU (all.drop m))(hts:all.drop m=t :: r)(hi:dH s t=true):m+1<all.length∧aU (all.drop (m+1))∧(all.drop (m+1)).length<(all.drop m).length:=by
 have h1:=jq (s:=s) he (by rw [hts];exact hi)
 rw [hts] at h1
 have e:all.drop (m+1)=r:=(aW hts).2
 have h2:aU (all.drop (m+1)):=by rw [e];exact h1.1
 exact⟨jv h2,h2,by rw [e,hts];simp⟩
theorem aan (ih:WE p w g all n)(d:Nat)(a b:List UInt8)(σ:St)(m c0 l0:Nat)(Q:AV→St→Prop)(h:PO p w g all σ m d false c0 l0)(hd:d≤64)(he:aU (all.drop m))(hn:10*(all.drop m).length+5≤n+1)(hQ:PE p w g all σ d Q (iI (n+1) d a b (all.drop m))):ay X 136 [.p p 0 0,.s a,.s b] σ Q:=by
 obtain⟨t,r,hts⟩:=he.ne
 obtain⟨ht,hr⟩:=aW hts
 have hm:=h.at_
 refine ay.body (F:=Z7) aF (lit:=false) rfl rfl (Nat.le_of_ble_eq_true rfl) ?_
 conv=>whnf
 unfold iI gq at hQ
 rw [hts] at hQ
 refine qW a h ht (by omega) (fun hi=>(aN he hts hi).1) (fun hi h64=>?_) (fun hi h64=>?_) (fun hi=>?_)
 ·obtain⟨hm1,he1,hl1⟩:=aN he hts hi
  have h1:=h.set (m':=m+1) (d':=d+1) (b':=false) (c':=c0) (l':=l0) hm1 (by omega)
  conv=>whnf
  rw [if_neg (by omega),aP,if_pos (show aY a (t :: r)=true from hi)] at hQ
  have hQ:PE p w g all σ d Q ((dO n (d+1) 1 r).bind fun x ts=>(aP b ts).bind fun _ ts=>.ok x ts):=hQ
  have hg:=(jr n).expr (d+1) 1 (all.drop (m+1)) he1 (by omega)
  refine ih.expr (d+1) 1 _ (m+1) _ _ _ h1 (by omega) (by omega) he1 (by omega) ?_
  rw [hr] at hg ⊢
  generalize dO n (d+1) 1 r=r1 at hg hQ
  cases r1 with
  | out=>exact hg.elim
  | bad c l=>
    intro o g' σ2 m2 x2 h2
    conv=>whnf
    obtain⟨t2,ht2⟩:∃t2,all[m2]? =some t2:=⟨_,List.getElem?_eq_getElem h2.at_⟩
    refine gX _ h2 ht2 ?_
    have h3:=h2.set (m':=m2) (d':=d) (b':=true) (c':=c) (l':=l) h2.at_ h.dp
    conv=>whnf
    exact Fin.ref rfl (hQ _ _ _ _ ((PO.ext.trans x2).trans PO.ext) h3)
  | ok x bJ=>
    intro o g' σ2 m2 c2 l2 x2 h2 hm2 hex
    have he2:aU (all.drop m2):=by rw [hm2];exact hg.2.1
    obtain⟨t2,r2,fD⟩:=he2.ne
    obtain⟨ht2,hr2⟩:=aW fD
    have hQ:PE p w g all σ d Q ((aP b bJ).bind fun _ ts=>.ok x ts):=hQ
    rw [←hm2,fD] at hQ
    conv=>whnf
    refine yS _ h2 ht2 (fun hi2=>(aN he2 fD hi2).1) (fun hi2=>?_) (fun hi2=>?_)
    ·rw [aP,if_pos (show aY b (t2 :: r2)=true from hi2)] at hQ
     have h3:=h2.set (m':=m2+1) (d':=d) (b':=false) (c':=c2) (l':=l2) (aN he2 fD hi2).1 h.dp
     conv=>whnf
     refine Fin.ref rfl (hQ _ _ _ _ _ _ ((PO.ext.trans x2).trans PO.ext) h3 hr2 ?_)
     exact bK.mono (fun i hi=>by rw [bg] at hi;exact hi) (fun i hi a ha=>PO.ext.get (by rw [bg] at hi;have:=aX h.obj;omega) ha) hex
    ·rw [aP,if_neg (show ¬aY b (t2 :: r2)=true by rw [show aY b (t2 :: r2)=dH b t2 from rfl,hi2];decide)] at hQ
     have h3:=h2.set (m':=m2) (d':=d) (b':=true) (c':=4) (l':=t2.l) h2.at_ h.dp
     conv=>whnf
     exact Fin.ref rfl (hQ _ _ _ _ ((PO.ext.trans x2).trans PO.ext) h3)
 ·have h1:=h.set (m':=m) (d':=d+1) (b':=true) (c':=3) (l':=t.l) h.at_ (by omega)
  conv=>whnf
  rw [if_pos ⟨show aY a (t :: r)=true from hi,h64⟩] at hQ
  refine Es 1 h1 ht fun o σ2 x2 h2=>?_
  conv=>whnf
  refine gX _ h2 ht ?_
  have h3:=h2.set (m':=m) (d':=d) (b':=true) (c':=3) (l':=t.l) h.at_ h.dp
  conv=>whnf
  exact Fin.ref rfl (hQ _ _ _ _ ((PO.ext.trans x2).trans PO.ext) h3)
 ·have h1:=h.set (m':=m) (d':=d+1) (b':=true) (c':=4) (l':=t.l) h.at_ (by omega)
  have hiw:¬aY a (t :: r)=true:=by rw [show aY a (t :: r)=dH a t from rfl,hi];decide
  conv=>whnf
  rw [if_neg (fun e=>hiw e.1),aP,if_neg hiw] at hQ
  refine Es 1 h1 ht fun o σ2 x2 h2=>?_
  conv=>whnf
  refine gX _ h2 ht ?_
  have h3:=h2.set (m':=m) (d':=d) (b':=true) (c':=4) (l':=t.l) h.at_ h.dp
  conv=>whnf
  exact Fin.ref rfl (hQ _ _ _ _ ((PO.ext.trans x2).trans PO.ext) h3)
theorem un_w (ih:WE p w g all n)(d:Nat)(σ:St)(m c0 l0:Nat)(Q:AV→St→Prop)(h:PO p w g all σ m d false c0 l0)(hd:d≤64)(he:aU (all.drop m))(hn:10*(all.drop m).length+8≤n+1)(hQ:PE p w g all σ d Q (Ci (n+1) d (all.drop m))):ay X 133 [.p p 0 0] σ Q:=by
 obtain⟨t,r,hts⟩:=he.ne
 obtain⟨ht,hr⟩:=aW hts
 have hm:=h.at_
 refine ay.body (F:=Xt) aF (lit:=false) rfl rfl (Nat.le_of_ble_eq_true rfl) ?_
 conv=>whnf
 refine ay.to (iO h ht) ?_
 conv=>whnf
 refine qX t h fun σ1 x1 h1 ht1 hl1=>?_
 have hts':=hts
 unfold Ci at hQ
 rw [hts] at hQ
 simp only at hQ
 have hpl:=aX h.obj
 have htk:∀s,aI p σ1 s→s[σ.length]? =some ⟨0,false,.cells 38 (gI t.k t.s t.l)⟩:=fun s x=>x.get (by omega) ht1
 conv=>whnf
 refine ay.to (jI _ h1 ht) ?_
 cases hi1:dH [33] t with
 | true=>
   have hk:dH t.s t=true:=by
    have:=hi1
    simp only [dH,Bool.and_eq_true,beq_self_eq_true,and_true] at this ⊢
    exact this.1
   rw [if_pos (show aY [33] (t :: r)=true∨aY [45] (t :: r)=true from .inl hi1)] at hQ
   conv=>whnf
   refine ak (aj (T:=eG) rfl rfl (ah ht1) rfl) ?_
   conv=>whnf
   refine qW t.s h1 ht (by omega) (fun hi=>(aN he hts hi).1) (fun _ h64=>?_) (fun _ h64=>?_) (fun hi=>by rw [hk] at hi;cases hi)
   ·obtain⟨hm1,he1,hle⟩:=aN he hts hk
    have h2:=h1.set (m':=m+1) (d':=d+1) (b':=false) (c':=c0) (l':=l0) hm1 (by omega)
    rw [if_neg (by omega)] at hQ
    conv=>whnf
    have hg:=(jr n).un (d+1) (all.drop (m+1)) he1 (by omega)
    refine ih.un (d+1) _ (m+1) _ _ _ h2 (by omega) he1 (by omega) ?_
    rw [hr] at hg ⊢
    generalize Ci n (d+1) r=r1 at hg hQ
    cases r1 with
    | out=>exact hg.elim
    | bad c l=>
      intro o g' σ2 m2 x2 h3
      have x3:aI p σ1 σ2:=PO.ext.trans x2
      have h4:=h3.set (m':=m2) (d':=d) (b':=true) (c':=c) (l':=l) h3.at_ h.dp
      have x4:aI p σ1 (fF p w g all.length σ2 m2 d true c l):=x3.trans PO.ext
      conv=>whnf
      refine ak (aj (T:=dA) rfl rfl (ah h3.obj) rfl) ?_
      conv=>whnf
      refine⟨(d:Int),by rw [wrap_i64 (by omega) (by omega)];omega,?_⟩
      conv=>whnf
      refine ak (aC (T:=dA) (kK w g all.length m2 d true c l) rfl h3.obj rfl rfl (Nat.le_of_ble_eq_true rfl) rfl) ?_
      conv=>whnf
      refine ak (aj (T:=eG) rfl rfl (ah (htk _ x4)) rfl) ?_
      conv=>whnf
      refine ak (aj (T:=dA) rfl rfl (ah (htk _ x4)) rfl) ?_
      conv=>whnf
      exact Fin.ref rfl (hQ _ _ _ _ (x1.trans (x4.new _ _)) (h4.new _ _))
    | ok x bJ=>
      intro o g' σ2 m2 c2 l2 x2 h3 hm2 hex
      have x3:aI p σ1 σ2:=PO.ext.trans x2
      have h4:=h3.set (m':=m2) (d':=d) (b':=false) (c':=c2) (l':=l2) h3.at_ h.dp
      have x4:aI p σ1 (fF p w g all.length σ2 m2 d false c2 l2):=x3.trans PO.ext
      conv=>whnf
      refine ak (aj (T:=dA) rfl rfl (ah h3.obj) rfl) ?_
      conv=>whnf
      refine⟨(d:Int),by rw [wrap_i64 (by omega) (by omega)];omega,?_⟩
      conv=>whnf
      refine ak (aC (T:=dA) (kK w g all.length m2 d false c2 l2) rfl h3.obj rfl rfl (Nat.le_of_ble_eq_true rfl) rfl) ?_
      conv=>whnf
      refine ak (aj (T:=eG) rfl rfl (ah (htk _ x4)) rfl) ?_
      conv=>whnf
      refine ak (aj (T:=dA) rfl rfl (ah (htk _ x4)) rfl) ?_
      conv=>whnf
      have l4:=x4.len
      have oz:=x2.len
      rw [bg] at oz
      refine Fin.ref rfl (hQ _ _ _ _ _ _ (x1.trans (x4.new _ _)) (h4.new _ _) hm2 ?_)
      refine⟨_,0,.p0,.p o g' 0,.sl0,(by omega:σ.length≤(fF p w g all.length σ2 m2 d false c2 l2).length),rfl,aG _ _ _,rfl,?_,rfl⟩
      exact bK.mono (fun i hi=>by rw [bg] at hi;omega) (fun i hi a ha=>at_new (PO.ext.get (by rw [bg] at hi;omega) ha) _ _) hex
   ·have h2:=h1.set (m':=m) (d':=d+1) (b':=true) (c':=3) (l':=t.l) h.at_ (by omega)
    rw [if_pos h64] at hQ
    conv=>whnf
    refine Am h2 ht fun o σ2 x2 h3=>?_
    have x3:aI p σ1 σ2:=PO.ext.trans x2
    have h4:=h3.set (m':=m) (d':=d) (b':=true) (c':=3) (l':=t.l) h3.at_ h.dp
    have x4:aI p σ1 (fF p w g all.length σ2 m d true 3 t.l):=x3.trans PO.ext
    conv=>whnf
    refine ak (aj (T:=dA) rfl rfl (ah h3.obj) rfl) ?_
    conv=>whnf
    refine⟨(d:Int),by rw [wrap_i64 (by omega) (by omega)];omega,?_⟩
    conv=>whnf
    refine ak (aC (T:=dA) (kK w g all.length m d true 3 t.l) rfl h3.obj rfl rfl (Nat.le_of_ble_eq_true rfl) rfl) ?_
    conv=>whnf
    refine ak (aj (T:=eG) rfl rfl (ah (htk _ x4)) rfl) ?_
    conv=>whnf
    refine ak (aj (T:=dA) rfl rfl (ah (htk _ x4)) rfl) ?_
    conv=>whnf
    exact Fin.ref rfl (hQ _ _ _ _ (x1.trans (x4.new _ _)) (h4.new _ _))
 | false=>
   conv=>whnf
   refine ay.to (jI _ h1 ht) ?_
   cases hi2:dH [45] t with
   | false=>
     conv=>whnf
     rw [if_neg (by rw [show aY [33] (t :: r)=dH [33] t from rfl,show aY [45] (t :: r)=dH [45] t from rfl,hi1,hi2];simp),←hts] at hQ
     have hrel:(all.drop m).length=(all.drop m).length:=rfl
     refine ih.post d σ1 m _ _ _ h1 hd he (by omega) ?_
     generalize iV n d (all.drop m)=r1 at hQ
     cases r1 with
     | out=>trivial
     | bad c l=>
       intro o g' σ2 m2 x2 h2
       conv=>whnf
       exact Fin.ref rfl (hQ _ _ _ _ (x1.trans x2) h2)
     | ok x bJ=>
       intro o g' σ2 m2 c2 l2 x2 h2 hm2 hex
       conv=>whnf
       exact Fin.ref rfl (hQ _ _ _ _ _ _ (x1.trans x2) h2 hm2 (bK.mono (fun i hi=>by omega) (fun i hi a ha=>ha) hex))
   | true=>
     have hk:dH t.s t=true:=by
        have:=hi2
        simp only [dH,Bool.and_eq_true,beq_self_eq_true,and_true] at this ⊢
        exact this.1
     rw [if_pos (show aY [33] (t :: r)=true∨aY [45] (t :: r)=true from .inr hi2)] at hQ
     conv=>whnf
     refine ak (aj (T:=eG) rfl rfl (ah ht1) rfl) ?_
     conv=>whnf
     refine qW t.s h1 ht (by omega) (fun hi=>(aN he hts hi).1) (fun _ h64=>?_) (fun _ h64=>?_) (fun hi=>by rw [hk] at hi;cases hi)
     ·obtain⟨hm1,he1,hle⟩:=aN he hts hk
      have h2:=h1.set (m':=m+1) (d':=d+1) (b':=false) (c':=c0) (l':=l0) hm1 (by omega)
      rw [if_neg (by omega)] at hQ
      conv=>whnf
      have hg:=(jr n).un (d+1) (all.drop (m+1)) he1 (by omega)
      refine ih.un (d+1) _ (m+1) _ _ _ h2 (by omega) he1 (by omega) ?_
      rw [hr] at hg ⊢
      generalize Ci n (d+1) r=r1 at hg hQ
      cases r1 with
      | out=>exact hg.elim
      | bad c l=>
        intro o g' σ2 m2 x2 h3
        have x3:aI p σ1 σ2:=PO.ext.trans x2
        have h4:=h3.set (m':=m2) (d':=d) (b':=true) (c':=c) (l':=l) h3.at_ h.dp
        have x4:aI p σ1 (fF p w g all.length σ2 m2 d true c l):=x3.trans PO.ext
        conv=>whnf
        refine ak (aj (T:=dA) rfl rfl (ah h3.obj) rfl) ?_
        conv=>whnf
        refine⟨(d:Int),by rw [wrap_i64 (by omega) (by omega)];omega,?_⟩
        conv=>whnf
        refine ak (aC (T:=dA) (kK w g all.length m2 d true c l) rfl h3.obj rfl rfl (Nat.le_of_ble_eq_true rfl) rfl) ?_
        conv=>whnf
        refine ak (aj (T:=eG) rfl rfl (ah (htk _ x4)) rfl) ?_
        conv=>whnf
        refine ak (aj (T:=dA) rfl rfl (ah (htk _ x4)) rfl) ?_
        conv=>whnf
        exact Fin.ref rfl (hQ _ _ _ _ (x1.trans (x4.new _ _)) (h4.new _ _))
      | ok x bJ=>
        intro o g' σ2 m2 c2 l2 x2 h3 hm2 hex
        have x3:aI p σ1 σ2:=PO.ext.trans x2
        have h4:=h3.set (m':=m2) (d':=d) (b':=false) (c':=c2) (l':=l2) h3.at_ h.dp
        have x4:aI p σ1 (fF p w g all.length σ2 m2 d false c2 l2):=x3.trans PO.ext
        conv=>whnf
        refine ak (aj (T:=dA) rfl rfl (ah h3.obj) rfl) ?_
        conv=>whnf
        refine⟨(d:Int),by rw [wrap_i64 (by omega) (by omega)];omega,?_⟩
        conv=>whnf
        refine ak (aC (T:=dA) (kK w g all.length m2 d false c2 l2) rfl h3.obj rfl rfl (Nat.le_of_ble_eq_true rfl) rfl) ?_
        conv=>whnf
        refine ak (aj (T:=eG) rfl rfl (ah (htk _ x4)) rfl) ?_
        conv=>whnf
        refine ak (aj (T:=dA) rfl rfl (ah (htk _ x4)) rfl) ?_
        conv=>whnf
        have l4:=x4.len
        have oz:=x2.len
        rw [bg] at oz
        refine Fin.ref rfl (hQ _ _ _ _ _ _ (x1.trans (x4.new _ _)) (h4.new _ _) hm2 ?_)
        refine⟨_,0,.p0,.p o g' 0,.sl0,(by omega:σ.length≤(fF p w g all.length σ2 m2 d false c2 l2).length),rfl,aG _ _ _,rfl,?_,rfl⟩
        exact bK.mono (fun i hi=>by rw [bg] at hi;omega) (fun i hi a ha=>at_new (PO.ext.get (by rw [bg] at hi;omega) ha) _ _) hex
     ·have h2:=h1.set (m':=m) (d':=d+1) (b':=true) (c':=3) (l':=t.l) h.at_ (by omega)
      rw [if_pos h64] at hQ
      conv=>whnf
      refine Am h2 ht fun o σ2 x2 h3=>?_
      have x3:aI p σ1 σ2:=PO.ext.trans x2
      have h4:=h3.set (m':=m) (d':=d) (b':=true) (c':=3) (l':=t.l) h3.at_ h.dp
      have x4:aI p σ1 (fF p w g all.length σ2 m d true 3 t.l):=x3.trans PO.ext
      conv=>whnf
      refine ak (aj (T:=dA) rfl rfl (ah h3.obj) rfl) ?_
      conv=>whnf
      refine⟨(d:Int),by rw [wrap_i64 (by omega) (by omega)];omega,?_⟩
      conv=>whnf
      refine ak (aC (T:=dA) (kK w g all.length m d true 3 t.l) rfl h3.obj rfl rfl (Nat.le_of_ble_eq_true rfl) rfl) ?_
      conv=>whnf
      refine ak (aj (T:=eG) rfl rfl (ah (htk _ x4)) rfl) ?_
      conv=>whnf
      refine ak (aj (T:=dA) rfl rfl (ah (htk _ x4)) rfl) ?_
      conv=>whnf
      exact Fin.ref rfl (hQ _ _ _ _ (x1.trans (x4.new _ _)) (h4.new _ _))
end
end Go.bG.YtjcicgkencfbgaaGreatDoor
namespace Go.bG.YtjcicgkencfbgaaGreatDoor
open Go.Proofs
set_option maxRecDepth 4000
theorem PE.to {p w g d:Nat} {all:List Tok} {σ σ1:St} {Q Q':AV→St→Prop} {r:Re Tr} (hQ:PE p w g all σ d Q r)(x1:aI p σ σ1)(k:∀o g' s,Q (.p o g' 0) s→Q' (.p o g' 0) s):PE p w g all σ1 d Q' r:=by
 cases r with
 | out=>trivial
 | bad c l=>exact fun o g' σ2 m2 x2 h2=>k _ _ _ (hQ o g' σ2 m2 (x1.trans x2) h2)
 | ok x ts=>exact fun o g' σ2 m2 c2 l2 x2 h2 hm hex=>k _ _ _ (hQ o g' σ2 m2 c2 l2 (x1.trans x2) h2 hm (bK.mono (fun i hi=>Nat.le_trans x1.len hi) (fun i hi a ha=>ha) hex))
def oC (all:List Tok):Prop:=∀z∈all,z.k=2→(∀c∈z.s,48≤c.toNat∧c.toNat≤57)∧qP 0 z.s<4294967296∧z.s.length≤100000
section
variable {p w g:Nat} {all:List Tok} {n:Nat}
theorem o7 (hno:oC all)(ih:WE p w g all n)(d:Nat)(σ:St)(m c0 l0:Nat)(Q:AV→St→Prop)(h:PO p w g all σ m d false c0 l0)(hd:d≤64)(he:aU (all.drop m))(hn:10*(all.drop m).length+6≤n+1)(hQ:PE p w g all σ d Q (jS (n+1) d (all.drop m))):ay X 137 [.p p 0 0] σ Q:=by
 obtain⟨t,r,hts⟩:=he.ne
 obtain⟨ht,hr⟩:=aW hts
 have hm:=h.at_
 have hal:=h.len
 refine ay.body (F:=Z8) aF (lit:=false) rfl rfl (Nat.le_of_ble_eq_true rfl) ?_
 conv=>whnf
 refine ay.to (iO h ht) ?_
 conv=>whnf
 refine qX t h fun σ1 x1 h1 ht1 hl1=>?_
 have hpl:=aX h.obj
 have htk:∀s,aI p σ1 s→s[σ.length]? =some ⟨0,false,.cells 38 (gI t.k t.s t.l)⟩:=fun s x=>x.get (by omega) ht1
 unfold jS at hQ
 rw [hts] at hQ
 simp only at hQ
 conv=>whnf
 refine ay.to (jI _ h1 ht) ?_
 cases hi1:dH [40] t with
 | true=>
   conv=>whnf
   rw [if_pos (show aY [40] (t :: r)=true from hi1),←hts] at hQ
   refine ih.with_ d [40] [41] σ1 m _ _ _ h1 hd he (by omega) (hQ.to x1 fun o g' s q=>?_)
   conv=>whnf
   exact Fin.ref rfl q
 | false=>
   rw [if_neg (by rw [show aY [40] (t :: r)=dH [40] t from rfl,hi1];decide)] at hQ
   conv=>whnf
   refine ak (aj (T:=dA) rfl rfl (ah ht1) rfl) ?_
   conv=>whnf
   by_cases hk:t.k=2
   ·rw [decide_eq_true (by omega)]
    rw [if_pos hk] at hQ
    obtain⟨n1,n2,n3⟩:=hno t (List.mem_of_getElem? ht) hk
    have he1:aU (all.drop (m+1)):=by rw [hr];rw [hts] at he;exact he.tail (by rw [hk];decide)
    have h2:=h1.set (m':=m+1) (d':=d) (b':=false) (c':=c0) (l':=l0) (jv he1) h.dp
    have x2:aI p σ1 (fF p w g all.length σ1 (m+1) d false c0 l0):=PO.ext
    conv=>whnf
    refine ak (aj (T:=kY) rfl rfl (ah h1.obj) rfl) ?_
    conv=>whnf
    refine ak (aj (T:=dA) rfl rfl (ah h1.obj) rfl) ?_
    conv=>whnf
    refine⟨((m+1:Nat):Int),by rw [wrap_i64 (by omega) (by omega)];omega,?_⟩
    conv=>whnf
    refine ak (aC (T:=dA) (kK w g all.length (m+1) d false c0 l0) rfl h1.obj rfl rfl (Nat.le_of_ble_eq_true rfl) rfl) ?_
    conv=>whnf
    refine ak (aj (T:=eG) rfl rfl (ah (htk _ x2)) rfl) ?_
    conv=>whnf
    refine ak (aj (T:=dA) rfl rfl (ah (htk _ x2)) rfl) ?_
    conv=>whnf
    refine ay.to (KP t.s n1 n3 n2 _) ?_
    conv=>whnf
    refine⟨?_,?_⟩
    ·conv=>whnf
     refine ak (aj (T:=dA) rfl rfl (ah (htk _ x2)) rfl) ?_
     rfl
    ·conv=>whnf
     refine Fin.ref rfl (hQ _ _ _ _ _ _ (x1.trans (x2.new _ _)) (h2.new _ _) hr ?_)
     exact⟨_,0,.p0,.p0,.sl0,by show σ.length≤(fF p w g all.length σ1 (m+1) d false c0 l0).length;rw [bg];exact x1.len,rfl,aG _ _ _,rfl,rfl,rfl⟩
   ·rw [decide_eq_false (by omega)]
    rw [if_neg hk] at hQ
    conv=>whnf
    refine ak (aj (T:=dA) rfl rfl (ah ht1) rfl) ?_
    conv=>whnf
    refine uY h1 ht (fun hk1=>jv (by rw [hr];rw [hts] at he;exact he.tail (by rw [hk1];decide))) (fun hk1 σ2 x2 h2=>?_) (fun hk1 σ2 x2 h2=>?_)
    ·simp only [dU,if_pos hk1] at hQ
     conv=>whnf
     refine⟨?_,?_⟩
     ·conv=>whnf
      refine ak (aj (T:=dA) rfl rfl (ah (htk _ x2)) rfl) ?_
      rfl
     ·conv=>whnf
      refine Fin.ref rfl (hQ _ _ _ _ _ _ (x1.trans (x2.new _ _)) (h2.new _ _) hr ?_)
      exact⟨_,0,.p0,.p0,.sl0,by have:=x1.len;have:=x2.len;omega,rfl,aG _ _ _,rfl,rfl,rfl⟩
    ·simp only [dU,if_neg hk1] at hQ
     conv=>whnf
     refine⟨?_,?_⟩
     ·conv=>whnf
      refine ak (aj (T:=dA) rfl rfl (ah (htk _ x2)) rfl) ?_
      rfl
     ·conv=>whnf
      exact Fin.ref rfl (hQ _ _ _ _ (x1.trans (x2.new _ _)) (h2.new _ _))
end
end Go.bG.YtjcicgkencfbgaaGreatDoor
namespace Go.bG.YtjcicgkencfbgaaGreatDoor
open Go.Proofs
set_option maxRecDepth 4000
section
variable {p w g:Nat} {all:List Tok} {n:Nat}
theorem PL.ext {k j B d:Nat} {σ σ1:St} {Q:Out→Env→St→Prop} {r:Re Tr} (hQ:PL k j p w g all B σ d Q r)(x1:aI p σ σ1):PL k j p w g all B σ1 d Q r:=by
 cases r with
 | out=>trivial
 | bad c l=>exact fun o g' σ2 m2 e' q1 q2 x2 h2=>hQ o g' σ2 m2 e' q1 q2 (x1.trans x2) h2
 | ok x ts=>exact fun o g' σ2 m2 c2 l2 e' q1 x2 h2 hm hex=>hQ o g' σ2 m2 c2 l2 e' q1 (x1.trans x2) h2 hm hex
theorem bK.ext {B:Nat} {σ σ1:St} {v:AV} {x:Tr} (h:bK (fun i=>B≤i) σ v x)(x1:aI p σ σ1)(hp:p<B):bK (fun i=>B≤i) σ1 v x:=bK.mono (fun i hi=>hi) (fun i hi a ha=>x1.get (by omega) ha) h
theorem Ap {m d c l o g':Nat} {σ:St} {Q:Out→Env→St→Prop} (h:PO p w g all σ m d true c l)(q:∀e',get e' 3= .p o g' 0→get e' 1000000= .u→Q (.exit 0) e' σ):aS X [0,3] H7 [(0,.p p 0 0),(3,.p o g' 0)] σ Q:=by
 refine aS.round aF (lit:=false) ?_
 conv=>whnf
 refine ak (aj (T:=kY) rfl rfl (ah h.obj) rfl) ?_
 conv=>whnf
 exact q _ rfl rfl
theorem Yn (ih:WE p w g all n)(d B:Nat)(x:Tr)(σ:St)(m c0 l0 o g':Nat)(Q:Out→Env→St→Prop)(h:PO p w g all σ m d false c0 l0)(hd:d≤64)(hp:p<B)(hB:B≤σ.length)(hnx:Jg x)(hex:bK (fun i=>B≤i) σ (.p o g' 0) x)(he:aU (all.drop m))(hn:10*(all.drop m).length+9≤n+1)
 (hQ:PL 2 3 p w g all B σ d Q (fO (n+1) d x (all.drop m))):aS X [0,3] H7 [(0,.p p 0 0),(3,.p o g' 0)] σ Q:=by
 obtain⟨t,r,hts⟩:=he.ne
 obtain⟨ht,hr⟩:=aW hts
 have hm:=h.at_
 refine aS.round aF (lit:=false) ?_
 conv=>whnf
 refine ak (aj (T:=kY) rfl rfl (ah h.obj) rfl) ?_
 conv=>whnf
 refine ay.to (iO h ht) ?_
 conv=>whnf
 refine qX t h fun σ1 x1 h1 ht1 hl1=>?_
 have hpl:=aX h.obj
 have htk:∀s,aI p σ1 s→s[σ.length]? =some ⟨0,false,.cells 38 (gI t.k t.s t.l)⟩:=fun s x=>x.get (by omega) ht1
 unfold fO at hQ
 rw [hts] at hQ
 simp only at hQ
 conv=>whnf
 refine ay.to (jI _ h1 ht) ?_
 cases hi1:dH [91] t with
 | true=>
   conv=>whnf
   rw [if_pos (show aY [91] (t :: r)=true from hi1),←hts] at hQ
   have hg:=(jr n).with_ d [91] [93] (all.drop m) he (by omega)
   refine ih.with_ d [91] [93] σ1 m _ _ _ h1 hd he (by omega) ?_
   generalize iI n d [91] [93] (all.drop m)=r1 at hg hQ
   cases r1 with
   | out=>exact hg.elim
   | bad c l=>
     intro o2 g2 σ2 m2 x2 h2
     conv=>whnf
     refine ak (aj (T:=dA) rfl rfl (ah (htk _ x2)) rfl) ?_
     conv=>whnf
     exact Ap (h2.new _ _) fun e' q1 q2=>hQ _ _ _ _ e' q1 q2 (x1.trans (x2.new _ _)) (h2.new _ _)
   | ok y bJ=>
     intro o2 g2 σ2 m2 c2 l2 x2 h2 hm2 tY
     conv=>whnf
     refine ak (aj (T:=dA) rfl rfl (ah (htk _ x2)) rfl) ?_
     conv=>whnf
     have hQ:PL 2 3 p w g all B σ d Q (fO n d (.ex 5 0 [] [] x y .nil t.l) bJ):=hQ
     rw [←hm2] at hQ hg
     have oz:=x2.len
     refine ih.nZ d B (.ex 5 0 [] [] x y .nil t.l) _ m2 c2 l2 σ2.length 0 Q (h2.new _ _) hd hp (by rw [aH];omega) trivial ⟨_,0,.p o g' 0,.p o2 g2 0,.sl0,(by omega:B≤σ2.length),rfl,aG _ _ _,?_,?_,rfl⟩ hg.2.1 (by have:=hg.2.2;omega) (hQ.ext (x1.trans (x2.new _ _)))
     ·exact hex.ext ((x1.trans x2).new _ _) hp
     ·exact bK.mono (fun i hi=>by omega) (fun i hi a ha=>at_new ha _ _) tY
 | false=>
   rw [if_neg (by rw [show aY [91] (t :: r)=dH [91] t from rfl,hi1];decide)] at hQ
   conv=>whnf
   refine dw _ h1 ht (fun _ hi2=>?_) (fun hi2=>?_)
   ·rw [if_pos (show aY [58] (t :: r)=true from hi2),←hr] at hQ
    obtain⟨hm1,he1,hle⟩:=aN he hts hi2
    have h2':=h1.set (m':=m+1) (d':=d) (b':=false) (c':=c0) (l':=l0) hm1 h.dp
    have hg:=(jr n).cell d (all.drop (m+1)) he1 (by omega)
    conv=>whnf
    refine ih.cell d _ (m+1) _ _ _ h2' hd he1 (by omega) ?_
    generalize jS n d (all.drop (m+1))=r1 at hg hQ
    cases r1 with
    | out=>exact hg.elim
    | bad c l=>
      intro o2 g2 σ2 m2 x2' h2
      have x2:aI p σ1 σ2:=PO.ext.trans x2'
      conv=>whnf
      refine ak (aj (T:=dA) rfl rfl (ah (htk _ x2)) rfl) ?_
      conv=>whnf
      exact Ap (h2.new _ _) fun e' q1 q2=>hQ _ _ _ _ e' q1 q2 (x1.trans (x2.new _ _)) (h2.new _ _)
    | ok y bJ=>
      intro o2 g2 σ2 m2 c2 l2 x2' h2 hm2 tY
      have x2:aI p σ1 σ2:=PO.ext.trans x2'
      conv=>whnf
      refine ak (aj (T:=dA) rfl rfl (ah (htk _ x2)) rfl) ?_
      conv=>whnf
      have hQ:PL 2 3 p w g all B σ d Q (fO n d (.ex 6 0 [] [] x y .nil t.l) bJ):=hQ
      rw [←hm2] at hQ hg
      have oz:=x2.len
      refine ih.nZ d B (.ex 6 0 [] [] x y .nil t.l) _ m2 c2 l2 σ2.length 0 Q (h2.new _ _) hd hp (by rw [aH];omega) trivial ⟨_,0,.p o g' 0,.p o2 g2 0,.sl0,(by omega:B≤σ2.length),rfl,aG _ _ _,?_,?_,rfl⟩ hg.2.1 (by have:=hg.2.2;omega) (hQ.ext (x1.trans (x2.new _ _)))
      ·exact hex.ext ((x1.trans x2).new _ _) hp
      ·exact bK.mono (fun i hi=>by rw [bg] at hi;omega) (fun i hi a ha=>at_new ha _ _) tY
   ·rw [if_neg (by rw [show aY [58] (t :: r)=dH [58] t from rfl];simpa using hi2)] at hQ
    conv=>whnf
    exact hQ o g' σ1 m c0 l0 _ rfl x1 h1 hts (hex.ext x1 hp)
theorem PE.U1 {k j d:Nat} {σ σ1:St} {Q:AV→St→Prop} {Q':Out→Env→St→Prop} {r:Re Tr} (hQ:PE p w g all σ d Q r)(x1:aI p σ σ1)(kr:∀o g' s e',get e' k= .p o g' 0→Q (.p o g' 0) s→Q' .ret e' s)
 (kx:∀o g' s e',get e' j= .p o g' 0→get e' 1000000= .u→Q (.p o g' 0) s→Q' (.exit 0) e' s):PL k j p w g all σ.length σ1 d Q' r:=by
 cases r with
 | out=>trivial
 | bad c l=>exact fun o g' σ2 m2 e' q1 q2 x2 h2=>kx _ _ _ _ q1 q2 (hQ o g' σ2 m2 (x1.trans x2) h2)
 | ok x ts=>exact fun o g' σ2 m2 c2 l2 e' q1 x2 h2 hm hex=>kr _ _ _ _ q1 (hQ o g' σ2 m2 c2 l2 (x1.trans x2) h2 hm hex)
theorem aaq (ih:WE p w g all n)(d:Nat)(σ:St)(m c0 l0:Nat)(Q:AV→St→Prop)(h:PO p w g all σ m d false c0 l0)(hd:d≤64)(he:aU (all.drop m))(hn:10*(all.drop m).length+7≤n+1)(hQ:PE p w g all σ d Q (iV (n+1) d (all.drop m))):ay X 117 [.p p 0 0] σ Q:=by
 refine ay.body (F:=Xp) aF (lit:=false) rfl rfl (Nat.le_of_ble_eq_true rfl) ?_
 conv=>whnf
 unfold iV at hQ
 have hg:=(jr n).first d (all.drop m) he (by omega)
 refine ih.first d σ m _ _ _ h hd he (by omega) ?_
 generalize iy n d (all.drop m)=r1 at hg hQ
 cases r1 with
 | out=>exact hg.elim
 | bad c l=>
   intro o g' σ2 m2 x2 h2
   conv=>whnf
   refine Ap h2 fun e' q1 q2=>?_
   conv=>whnf
   rw [show dK.ev e' (.t 3)=get e' 3 from rfl,q1]
   conv=>whnf
   exact Fin.ref rfl (hQ _ _ _ _ x2 h2)
 | ok x bJ=>
   intro o g' σ2 m2 c2 l2 x2 h2 hm2 hex
   have hQ:PE p w g all σ d Q (fO n d x bJ):=hQ
   rw [←hm2] at hQ hg
   conv=>whnf
   have hlt:=hg.2.2
   refine ih.nZ d σ.length x σ2 m2 c2 l2 o g' _ h2 hd (aX h.obj) x2.len hg.1 hex hg.2.1 (by omega) (hQ.U1 x2 (fun o g' s e' q1 q=>?_) (fun o g' s e' q1 q2 q=>?_))
   ·conv=>whnf
    rw [q1]
    conv=>whnf
    exact Fin.ref rfl q
   ·conv=>whnf
    rw [show dK.ev e' (.t 3)=get e' 3 from rfl,q1]
    conv=>whnf
    exact Fin.ref rfl q
end
end Go.bG.YtjcicgkencfbgaaGreatDoor
namespace Go.bG.YtjcicgkencfbgaaGreatDoor
open Go.Proofs
set_option maxRecDepth 4000
theorem GL (s:List UInt8):fM s≤6:=by
 unfold fM
 repeat' split
 all_goals omega
section
variable {p w g:Nat} {all:List Tok} {n:Nat}
theorem KQ {m d c l o g' k:Nat} {σ:St} {Q:Out→Env→St→Prop} (h:PO p w g all σ m d true c l)(q:∀e',get e' 5= .p o g' 0→get e' 1000000= .u→Q (.exit 0) e' σ):aS X [0,1,5] H6 [(0,.p p 0 0),(1,.i .i64 k),(5,.p o g' 0)] σ Q:=by
 refine aS.round aF (lit:=false) ?_
 conv=>whnf
 refine ak (aj (T:=kY) rfl rfl (ah h.obj) rfl) ?_
 conv=>whnf
 exact q _ rfl rfl
theorem aar (ih:WE p w g all n)(d c B:Nat)(x:Tr)(σ:St)(m c0 l0 o g':Nat)(Q:Out→Env→St→Prop)(h:PO p w g all σ m d false c0 l0)(hd:d≤64)(hc8:c≤8)(hp:p<B)(hB:B≤σ.length)(hnx:Jg x)(hex:bK (fun i=>B≤i) σ (.p o g' 0) x)(he:aU (all.drop m))(hn:10*(all.drop m).length+9≤n+1)
 (hQ:PL 4 5 p w g all B σ d Q (jf (n+1) d c x (all.drop m))):aS X [0,1,5] H6 [(0,.p p 0 0),(1,.i .i64 c),(5,.p o g' 0)] σ Q:=by
 obtain⟨t,r,hts⟩:=he.ne
 obtain⟨ht,hr⟩:=aW hts
 have hm:=h.at_
 have hal:=h.len
 have hb6:=GL t.s
 refine aS.round aF (lit:=false) ?_
 conv=>whnf
 refine ak (aj (T:=kY) rfl rfl (ah h.obj) rfl) ?_
 conv=>whnf
 refine ay.to (iO h ht) ?_
 conv=>whnf
 refine qX t h fun σ1 x1 h1 ht1 hl1=>?_
 have hpl:=aX h.obj
 have htk:∀s,aI p σ1 s→s[σ.length]? =some ⟨0,false,.cells 38 (gI t.k t.s t.l)⟩:=fun s x=>x.get (by omega) ht1
 unfold jf at hQ
 rw [hts] at hQ
 simp only at hQ
 conv=>whnf
 refine ak (aj (T:=dA) rfl rfl (ah ht1) rfl) ?_
 conv=>whnf
 by_cases hk:t.k=3
 ·rw [decide_eq_true (by omega)]
  conv=>whnf
  refine ak (aj (T:=eG) rfl rfl (ah ht1) rfl) ?_
  conv=>whnf
  refine ay.to (UY t.s σ1) ?_
  conv=>whnf
  by_cases hb:fM t.s<c
  ·rw [decide_eq_true (by omega)]
   rw [if_neg (fun e=>e.2.2 hb)] at hQ
   conv=>whnf
   exact hQ o g' σ1 m c0 l0 _ rfl x1 h1 hts (hex.ext x1 hp)
  ·rw [decide_eq_false (by omega)]
   conv=>whnf
   by_cases hz:fM t.s=0
   ·rw [decide_eq_true (by omega)]
    rw [if_neg (fun e=>e.2.1 hz)] at hQ
    conv=>whnf
    exact hQ o g' σ1 m c0 l0 _ rfl x1 h1 hts (hex.ext x1 hp)
   ·rw [decide_eq_false (by omega)]
    rw [if_pos ⟨hk,hz,hb⟩,←hr] at hQ
    have he1:aU (all.drop (m+1)):=by rw [hr];rw [hts] at he;exact he.tail (by rw [hk];decide)
    have hle:(all.drop (m+1)).length<(all.drop m).length:=by rw [hr,hts];simp
    have h2':=h1.set (m':=m+1) (d':=d) (b':=false) (c':=c0) (l':=l0) (jv he1) h.dp
    have hg:=(jr n).expr d (fM t.s+1) (all.drop (m+1)) he1 (by omega)
    conv=>whnf
    refine ak (aj (T:=dA) rfl rfl (ah h1.obj) rfl) ?_
    conv=>whnf
    refine⟨((m+1:Nat):Int),by rw [wrap_i64 (by omega) (by omega)];omega,?_⟩
    conv=>whnf
    refine ak (aC (T:=dA) (kK w g all.length (m+1) d false c0 l0) rfl h1.obj rfl rfl (Nat.le_of_ble_eq_true rfl) rfl) ?_
    conv=>whnf
    refine⟨((fM t.s+1:Nat):Int),by rw [wrap_i64 (by omega) (by omega)];omega,?_⟩
    conv=>whnf
    refine ih.expr d (fM t.s+1) _ (m+1) _ _ _ h2' hd (by omega) he1 (by omega) ?_
    generalize dO n d (fM t.s+1) (all.drop (m+1))=r1 at hg hQ
    cases r1 with
    | out=>exact hg.elim
    | bad c l=>
      intro o2 g2 σ2 m2 x2' h2
      have x2:aI p σ1 σ2:=PO.ext.trans x2'
      conv=>whnf
      refine ak (aj (T:=eG) rfl rfl (ah (htk _ x2)) rfl) ?_
      conv=>whnf
      refine ak (aj (T:=dA) rfl rfl (ah (htk _ x2)) rfl) ?_
      conv=>whnf
      exact KQ (h2.new _ _) fun e' q1 q2=>hQ _ _ _ _ e' q1 q2 (x1.trans (x2.new _ _)) (h2.new _ _)
    | ok y bJ=>
      intro o2 g2 σ2 m2 c2 l2 x2' h2 hm2 tY
      have x2:aI p σ1 σ2:=PO.ext.trans x2'
      conv=>whnf
      refine ak (aj (T:=eG) rfl rfl (ah (htk _ x2)) rfl) ?_
      conv=>whnf
      refine ak (aj (T:=dA) rfl rfl (ah (htk _ x2)) rfl) ?_
      conv=>whnf
      have hQ:PL 4 5 p w g all B σ d Q (jf n d c (.ex 3 0 [] t.s x y .nil t.l) bJ):=hQ
      rw [←hm2] at hQ hg
      have oz:=x2.len
      refine ih.loop d c B (.ex 3 0 [] t.s x y .nil t.l) _ m2 c2 l2 σ2.length 0 Q (h2.new _ _) hd hc8 hp (by rw [aH];omega) trivial ⟨_,0,.p o g' 0,.p o2 g2 0,.sl0,(by omega:B≤σ2.length),rfl,aG _ _ _,?_,?_,rfl⟩ hg.2.1 (by have:=hg.2.2;omega) (hQ.ext (x1.trans (x2.new _ _)))
      ·exact hex.ext ((x1.trans x2).new _ _) hp
      ·exact bK.mono (fun i hi=>by have hi:(fF p w g all.length σ1 (m+1) d false c0 l0).length≤i:=hi;rw [bg] at hi;omega) (fun i hi a ha=>at_new ha _ _) tY
 ·rw [decide_eq_false (by omega)]
  rw [if_neg (fun e=>hk e.1)] at hQ
  conv=>whnf
  by_cases hb:0<c
  ·rw [decide_eq_true (by omega)]
   conv=>whnf
   exact hQ o g' σ1 m c0 l0 _ rfl x1 h1 hts (hex.ext x1 hp)
  ·rw [decide_eq_false (by omega)]
   conv=>whnf
   exact hQ o g' σ1 m c0 l0 _ rfl x1 h1 hts (hex.ext x1 hp)
theorem aas (ih:WE p w g all n)(d c:Nat)(σ:St)(m c0 l0:Nat)(Q:AV→St→Prop)(h:PO p w g all σ m d false c0 l0)(hd:d≤64)(hc8:c≤8)(he:aU (all.drop m))(hn:10*(all.drop m).length+9≤n+1)(hQ:PE p w g all σ d Q (dO (n+1) d c (all.drop m))):ay X 114 [.p p 0 0,.i .i64 c] σ Q:=by
 refine ay.body (F:=Xo) aF (lit:=false) rfl rfl (Nat.le_of_ble_eq_true rfl) ?_
 conv=>whnf
 unfold dO at hQ
 have hg:=(jr n).un d (all.drop m) he (by omega)
 refine ih.un d σ m _ _ _ h hd he (by omega) ?_
 generalize Ci n d (all.drop m)=r1 at hg hQ
 cases r1 with
 | out=>exact hg.elim
 | bad c l=>
   intro o g' σ2 m2 x2 h2
   conv=>whnf
   refine KQ h2 fun e' q1 q2=>?_
   conv=>whnf
   rw [show dK.ev e' (.t 5)=get e' 5 from rfl,q1]
   conv=>whnf
   exact Fin.ref rfl (hQ _ _ _ _ x2 h2)
 | ok x bJ=>
   intro o g' σ2 m2 c2 l2 x2 h2 hm2 hex
   have hQ:PE p w g all σ d Q (jf n d c x bJ):=hQ
   rw [←hm2] at hQ hg
   conv=>whnf
   have hlt:=hg.2.2
   refine ih.loop d c σ.length x σ2 m2 c2 l2 o g' _ h2 hd hc8 (aX h.obj) x2.len hg.1 hex hg.2.1 (by omega) (hQ.U1 x2 (fun o g' s e' q1 q=>?_) (fun o g' s e' q1 q2 q=>?_))
   ·conv=>whnf
    rw [q1]
    conv=>whnf
    exact Fin.ref rfl q
   ·conv=>whnf
    rw [show dK.ev e' (.t 5)=get e' 5 from rfl,q1]
    conv=>whnf
    exact Fin.ref rfl q
end
end Go.bG.YtjcicgkencfbgaaGreatDoor
namespace Go.bG.YtjcicgkencfbgaaGreatDoor
open Go.Proofs
set_option maxRecDepth 4000
def Et (B:Nat)(σ:St)(v:AV)(cs:List AV):Prop:=(cs=[]∧v= .sl0)∨∃o g,B≤o∧v= .sl o g 0 cs.length 1∧σ[o]? =some ⟨g,false,.cells 62 cs⟩∧cs≠[]
def apart (v:AV)(i:Nat):Prop:=∀o g n z,v= .sl o g 0 n z→i≠o
theorem Cj {B:Nat} {σ:St} {v:AV} {cs:List AV} (h:Et B σ v cs) {oy gy:Nat} (hcs:cs.all AV.one=true)(hl:cs.length≤100000) {C:Nat} (hC:σ[C]? =some ⟨0,false,.cells 62 [.p oy gy 0]⟩)(hB:B≤σ.length) {Q:AV→St→Prop}
 (q:∀v' σ',Et B σ' v' (cs ++ [.p oy gy 0])→σ.length≤σ'.length→(∀i,i<σ.length→apart v i→σ'[i]? =σ[i]?∧apart v' i)→(∀i,i<B→σ'[i]? =σ[i]?)→(∀i,σ'.length≤i→apart v' i)→Q v' σ') :
 DX L_.get false 65 v (.sl C 0 0 1 1) σ Q:=by
 constructor
 refine ak (v:=ji) rfl ?_
 refine ak (v:=bC) rfl ?_
 refine ak (kG hC (Nat.le_of_ble_eq_true rfl)) ?_
 rcases h with ⟨rfl,rfl⟩ | ⟨o,g,h1,rfl,h3,_⟩
 ·refine⟨Nat.le_of_ble_eq_true rfl,?_⟩
  refine q _ _ (.inr ⟨σ.length,0,hB,rfl,?_,by simp⟩) (by rw [aH];omega) (fun i hi _=>⟨dn hi,fun o g n z e=>by cases e;omega⟩) (fun i hi=>dn (by omega)) (fun i hi o g n z e=>by cases e;rw [aH] at hi;omega)
  rw [aG];rfl
 ·refine ak (qc h3) ?_
  refine⟨rfl,by simp,?_,by rw [List.drop_zero,List.take_of_length_le (by omega)];exact hcs,?_⟩
  ·show (cs.length+1)*8≤_;omega
  refine q _ _ (.inr ⟨o,g+1,h1,by simp,?_,by simp⟩) (by rw [List.length_set];exact Nat.le_refl _) (fun i hi ha=>⟨by rw [List.getElem?_set_ne (fun e=>ha o g _ _ rfl e.symm)],fun o' g' n z e=>by cases e;exact ha o g _ _ rfl⟩) (fun i hi=>by rw [List.getElem?_set_ne (by omega)]) (fun i hi o' g' n z e=>by cases e;rw [List.length_set] at hi;have:=aX h3;omega)
  rw [at_set h3]
  simp [List.take_of_length_le]
  rfl
def fP (S:Nat→Prop)(σ:St):List AV→List Tr→Prop
 | [],[]=>True
 | a :: cs,x :: xs=>(∃o g,a= .p o g 0)∧bK S σ a x∧fP S σ cs xs
 | _,_=>False
theorem fP.mono {S S':Nat→Prop} {σ σ':St} (h1:∀o,S o→S' o)(h2:∀o,S o→∀a,σ[o]? =some a→σ'[o]? =some a):∀{cs:List AV} {xs:List Tr},fP S σ cs xs→fP S' σ' cs xs
 | [],[],_=>trivial
 | a :: cs,x :: xs,h=>⟨h.1,bK.mono h1 h2 h.2.1,fP.mono h1 h2 h.2.2⟩
theorem fP.snoc {S:Nat→Prop} {σ:St} :∀{cs:List AV} {xs:List Tr} {a:AV} {x:Tr},fP S σ cs xs→(∃o g,a= .p o g 0)→bK S σ a x→fP S σ (cs ++ [a]) (xs ++ [x])
 | [],[],a,x,_,ha,hx=>⟨ha,hx,trivial⟩
 | b :: cs,y :: xs,a,x,h,ha,hx=>⟨h.1,h.2.1,fP.snoc h.2.2 ha hx⟩
theorem fP.len {S:Nat→Prop} {σ:St} :∀{cs:List AV} {xs:List Tr},fP S σ cs xs→cs.length=xs.length
 | [],[],_=>rfl
 | a :: cs,x :: xs,h=>by have:=fP.len h.2.2;simp [this]
theorem fP.one {S:Nat→Prop} {σ:St} :∀{cs:List AV} {xs:List Tr},fP S σ cs xs→cs.all AV.one=true
 | [],[],_=>rfl
 | a :: cs,x :: xs,h=>by
   obtain⟨o,g,rfl⟩:=h.1
   rw [List.all_cons,fP.one h.2.2];rfl
def KR:List Tr→rF
 | []=>.nil
 | x :: xs=>.cons x (KR xs)
def rG:rF→List Tr
 | .nil=>[]
 | .cons x xs=>x :: rG xs
theorem U2:∀xs:rF,KR (rG xs)=xs
 | .nil=>rfl
 | .cons x xs=>by show rF.cons x (KR (rG xs))=_;rw [U2 xs]
theorem fP.argL {S:Nat→Prop} {σ:St} :∀{cs:List AV} {xs:List Tr},fP S σ cs xs→tX S σ cs (KR xs)
 | [],[],_=>rfl
 | a :: cs,x :: xs,h=>⟨a,cs,rfl,h.2.1,fP.argL h.2.2⟩
def kV (B:Nat)(σ:St)(v:AV)(xs:List Tr):Prop:=∃cs,Et B σ v cs∧fP (fun i=>B≤i∧apart v i) σ cs xs
theorem kV.arg {B:Nat} {σ:St} {v:AV} {xs:List Tr} (h:kV B σ v xs):kJ (fun i=>B≤i) σ v (KR xs):=by
 obtain⟨cs,h1,h2'⟩:=h
 have h2:fP (fun i=>B≤i) σ cs xs:=h2'.mono (fun i hi=>hi.1) (fun i hi a ha=>ha)
 rcases h1 with ⟨rfl,rfl⟩ | ⟨o,g,q1,rfl,q3,q4⟩
 ·cases xs with
  | nil=>rfl
  | cons _ _=>exact h2.elim
 ·cases cs with
  | nil=>
    cases xs with
    | nil=>exact(q4 rfl).elim
    | cons _ _=>exact h2.elim
  | cons a cs=>
    cases xs with
    | nil=>exact h2.elim
    | cons x xs=>exact⟨o,g,a :: cs,q1,rfl,q3,a,cs,rfl,h2.2.1,h2.2.2.argL⟩
end Go.bG.YtjcicgkencfbgaaGreatDoor
namespace Go.bG.YtjcicgkencfbgaaGreatDoor
open Go.Proofs
set_option maxRecDepth 4000
structure pJ (p B:Nat)(σ σ':St):Prop where
 len:σ.length≤σ'.length
 old:∀i,i<B→i≠p→σ'[i]? =σ[i]?
theorem pJ.refl (p B:Nat)(σ:St):pJ p B σ σ:=⟨Nat.le_refl _,fun _ _ _=>rfl⟩
theorem pJ.trans {p B:Nat} {a b c:St} (h:pJ p B a b)(k:pJ p B b c):pJ p B a c:=⟨Nat.le_trans h.len k.len,fun i hi hp=>by rw [k.old i hi hp,h.old i hi hp]⟩
theorem pJ.of {p B:Nat} {a b:St} (h:aI p a b)(hB:B≤a.length):pJ p B a b:=⟨h.len,fun i hi hp=>h.old i (by omega) hp⟩
def yT (v:AV):Prop:=v= .sl0∨∃o g n,v= .sl o g 0 n 1
section
variable {p w g:Nat} {all:List Tok} {n:Nat}
def PA (p w g tl:Nat)(nm:List UInt8)(all:List Tok)(B:Nat)(σ:St)(d:Nat)(acc:List Tr)(Q:Out→Env→St→Prop):Re rF→Prop
 | .ok xs ts=>∀v σ' m' c l e',get e' 0= .p p 0 0→get e' 3= .p tl 0 0→get e' 4= .s nm→get e' 5=v→get e' 1000000= .u→pJ p B σ σ'→PO p w g all σ' m' d false c l→all.drop m'= ts→kV B σ' v (acc ++ rG xs)→Q (.exit 0) e' σ'
 | .bad c l=>∀v σ' m' e',get e' 0= .p p 0 0→get e' 3= .p tl 0 0→get e' 4= .s nm→get e' 5=v→get e' 1000000= .u→pJ p B σ σ'→PO p w g all σ' m' d true c l→yT v→Q (.exit 0) e' σ'
 | .out=>True
theorem yU {m d c l tl:Nat} {nm:List UInt8} {v:AV} {σ:St} {Q:Out→Env→St→Prop} (h:PO p w g all σ m d true c l)(hv:yT v)
 (q:∀e',get e' 0= .p p 0 0→get e' 3= .p tl 0 0→get e' 4= .s nm→get e' 5=v→get e' 1000000= .u→Q (.exit 0) e' σ):aS X [0,3,4,5] DJ [(0,.p p 0 0),(3,.p tl 0 0),(4,.s nm),(5,v)] σ Q:=by
 rcases hv with rfl | ⟨o,g,k,rfl⟩
 all_goals
  refine aS.round aF (lit:=false) ?_
  conv=>whnf
  refine ak (aj (T:=kY) rfl rfl (ah h.obj) rfl) ?_
  conv=>whnf
  exact q _ rfl rfl rfl rfl rfl
theorem Et.sl {B:Nat} {σ:St} {v:AV} {cs:List AV} (h:Et B σ v cs):yT v:=by
 rcases h with ⟨_,rfl⟩ | ⟨o,g,_,rfl,_⟩
 ·exact .inl rfl
 ·exact .inr ⟨_,_,_,rfl⟩
theorem PO.keep {m d c l:Nat} {b:Bool} {σ σ':St} (h:PO p w g all σ m d b c l)(h1:σ'[p]? =σ[p]?)(h2:σ'[w]? =σ[w]?):PO p w g all σ' m d b c l:=⟨h1.trans h.obj,h2.trans h.tok,h.ne,h.len,h.at_,h.dp⟩
theorem fP.below {S:Nat→Prop} {σ:St} :∀{cs:List AV} {xs:List Tr},fP S σ cs xs→fP (fun o=>S o∧o<σ.length) σ cs xs
 | [],[],_=>trivial
 | a :: cs,x :: xs,h=>⟨h.1,h.2.1.below,h.2.2.below⟩
theorem aat (ih:WE p w g all n)(tl:Nat)(nm:List UInt8)(d B:Nat)(BN:∀(acc:List Tr) (v:AV) (σ:St) (m c0 l0:Nat) (Q:Out→Env→St→Prop),PO p w g all σ m d false c0 l0→B≤σ.length→kV B σ v acc→aU (all.drop m)→10*(all.drop m).length+10≤n→acc.length+(all.drop m).length≤40001→PA p w g tl nm all B σ d acc Q (eU n d acc.isEmpty (all.drop m))→aS X [0,3,4,5] DJ [(0,.p p 0 0),(3,.p tl 0 0),(4,.s nm),(5,v)] σ Q)
 (acc:List Tr) (v:AV) (σ:St) (m c0 l0:Nat) (Q:Out→Env→St→Prop) (h:PO p w g all σ m d false c0 l0) (hd:d≤64) (hp:p<B) (hw:w<B) (hB:B≤σ.length) (ha:kV B σ v acc) (he:aU (all.drop m)) (hn:10*(all.drop m).length+10≤n+1) (hs:acc.length+(all.drop m).length≤40001)
 (hQ:PA p w g tl nm all B σ d acc Q (eU (n+1) d acc.isEmpty (all.drop m))):aS X [0,3,4,5] DJ [(0,.p p 0 0),(3,.p tl 0 0),(4,.s nm),(5,v)] σ Q:=by
 obtain⟨t,r,hts⟩:=he.ne
 obtain⟨ht,hr⟩:=aW hts
 have hm:=h.at_
 have hal:=h.len
 unfold eU at hQ
 rw [hts] at hQ
 obtain⟨cs,hraw,hea⟩:=ha
 have hcl:=hea.len
 have hco:=hea.one
 rcases hraw with ⟨rfl,rfl⟩ | ⟨o,g',q1,rfl,q3,q4⟩
 ·obtain rfl:acc=[]:=by cases acc with | nil=>rfl | cons _ _=>cases hcl
  refine aS.round aF (lit:=false) ?_
  conv=>whnf
  refine ak (aj (T:=kY) rfl rfl (ah h.obj) rfl) ?_
  conv=>whnf
  refine ay.to (jI _ h ht) ?_
  cases hi:dH [41] t with
  | true=>
    conv=>whnf
    rw [if_pos (show aY [41] (t :: r)=true from hi)] at hQ
    exact hQ .sl0 σ m c0 l0 _ rfl rfl rfl rfl rfl (.refl _ _ _) h hts ⟨[],.inl ⟨rfl,rfl⟩,trivial⟩
  | false=>
    rw [if_neg (by rw [show aY [41] (t :: r)=dH [41] t from rfl,hi];decide),←hts] at hQ
    have hg:=(jr n).expr d 1 (all.drop m) he (by omega)
    have hQ:PA p w g tl nm all B σ d [] Q ((dO n d 1 (all.drop m)).bind fun x ts=>(eU n d false ts).bind fun xs ts=>.ok (.cons x xs) ts):=hQ
    conv=>whnf
    refine ih.expr d 1 σ m _ _ _ h hd (by omega) he (by omega) ?_
    generalize dO n d 1 (all.drop m)=r1 at hg hQ
    cases r1 with
    | out=>exact hg.elim
    | bad c l=>
      intro o2 g2 σ2 m2 x2 h2
      have l2:=x2.len
      conv=>whnf
      refine Cj (B:=B) (cs:=[]) (.inl ⟨rfl,rfl⟩) rfl (by simp) (aG _ _ _) (by rw [aH];omega) fun v' σ3 hr3 hl3 ho3 hb3 U3=>?_
      rw [aH] at hl3
      have h3:PO p w g all σ3 m2 d true c l:=(h2.new 62 [.p o2 g2 0]).keep (hb3 p hp) (hb3 w hw)
      have hsl:=hr3.sl
      obtain⟨o3,g3,p1,rfl,p3,p4⟩:=hr3.resolve_left (by simp)
      conv=>whnf
      exact yU h3 hsl fun e' e0 e3 e4 e5 e9=>hQ _ σ3 m2 e' e0 e3 e4 e5 e9 ⟨by omega,fun i hi fZ=>by rw [hb3 i hi,dn (by omega),x2.old i (by omega) fZ]⟩ h3 hsl
    | ok y bJ=>
      intro o2 g2 σ2 m2 c2 l2 x2 h2 hm2 tY
      have lx:=x2.len
      conv=>whnf
      refine Cj (B:=B) (cs:=[]) (.inl ⟨rfl,rfl⟩) rfl (by simp) (aG _ _ _) (by rw [aH];omega) fun v' σ3 hr3 hl3 ho3 hb3 U3=>?_
      have h3:PO p w g all σ3 m2 d false c2 l2:=(h2.new 62 [.p o2 g2 0]).keep (hb3 p hp) (hb3 w hw)
      have hacc:kV B σ3 v' [y]:=⟨_,hr3,⟨_,_,rfl⟩,bK.mono (fun i hi=>⟨by omega,(ho3 i (by rw [aH];omega) (fun _ _ _ _ e=>by cases e)).2⟩) (fun i hi a ha=>by rw [(ho3 i (by rw [aH];omega) (fun _ _ _ _ e=>by cases e)).1];exact at_new ha _ _) tY.below,trivial⟩
      rw [aH] at hl3
      have hx3:pJ p B σ σ3:=⟨by omega,fun i hi fZ=>by rw [hb3 i hi,dn (by omega),x2.old i (by omega) fZ]⟩
      have hQ:PA p w g tl nm all B σ d [] Q ((eU n d false bJ).bind fun xs ts=>.ok (.cons y xs) ts):=hQ
      rw [←hm2] at hQ hg
      have hlt:=hg.2.2
      obtain⟨o3,g3,p1,rfl,p3,p4⟩:=hr3.resolve_left (by simp)
      conv=>whnf
      refine BN [y] _ σ3 m2 c2 l2 Q h3 (by omega) hacc hg.2.1 (by omega) (by simp only [List.length_cons,List.length_nil] at hs ⊢;omega) ?_
      show PA p w g tl nm all B σ3 d [y] Q (eU n d false (all.drop m2))
      generalize eU n d false (all.drop m2)=r2 at hQ
      cases r2 with
      | out=>trivial
      | bad c l=>exact fun v4 eY m4 e' e0 e3 e4 e5 e9 x4=>hQ v4 eY m4 e' e0 e3 e4 e5 e9 (hx3.trans x4)
      | ok xs BM=>exact fun v4 eY m4 c4 l4 e' e0 e3 e4 e5 e9 x4 h4 hm4 uZ=>hQ v4 eY m4 c4 l4 e' e0 e3 e4 e5 e9 (hx3.trans x4) h4 hm4 uZ
 ·have hcp:0<cs.length:=List.length_pos_iff.2 q4
  have hol:=aX q3
  have hne:acc.isEmpty=false:=by cases acc with | nil=>(simp only [List.length_nil] at hcl;omega) | cons _ _=>rfl
  rw [hne] at hQ
  have step:∀(σ2:St) (o2 g2:Nat) (x2:aI p σ σ2) (Q2:AV→St→Prop),(∀o3 g3 k σ3,Et B σ3 (.sl o3 g3 0 k 1) (cs ++ [.p o2 g2 0])→pJ p B σ σ3→σ3[p]? =σ2[p]?→σ3[w]? =σ2[w]?→(∀(D:Nat) y,D≤σ2.length→σ.length≤D→bK (fun i=>D≤i) σ2 (.p o2 g2 0) y→kV B σ3 (.sl o3 g3 0 k 1) (acc ++ [y]))→B≤σ3.length→Q2 (.sl o3 g3 0 k 1) σ3)→
        DX L_.get false 65 (.sl o g' 0 cs.length 1) (.sl σ2.length 0 0 1 1) (au 62 [.p o2 g2 0] σ2) Q2:=by
   intro σ2 o2 g2 x2 Q2 q
   have lx:=x2.len
   refine Cj (B:=B) (cs:=cs) (.inr ⟨o,g',q1,rfl,at_new (x2.get (by omega) q3) _ _,q4⟩) hco (by omega) (aG _ _ _) (by rw [aH];omega) fun v' σ3 hr3 hl3 ho3 hb3 U3=>?_
   rw [aH] at hl3
   obtain⟨o3,g3,p1,rfl,p3,p4⟩:=hr3.resolve_left (by simp)
   refine q _ _ _ σ3 hr3 ⟨by omega,fun i hi fZ=>by rw [hb3 i hi,dn (by omega),x2.old i (by omega) fZ]⟩ (by rw [hb3 p hp,dn (by have:=aX h.obj;omega)]) (by rw [hb3 w hw,dn (by have:=aX h.tok;omega)]) (fun D y hD hD2 tY=>?_) (by omega)
   refine⟨_,hr3,fP.snoc (fP.mono (fun i hi=>⟨hi.1.1,(ho3 i (by rw [aH];omega) hi.1.2).2⟩) (fun i hi a ha=>by rw [(ho3 i (by rw [aH];omega) hi.1.2).1,dn (by omega),x2.old i hi.2 (by omega)];exact ha) hea.below) ⟨_,_,rfl⟩ (bK.mono (fun i hi=>⟨by omega,(ho3 i (by rw [aH];omega) (fun _ _ _ _ e=>by cases e;omega)).2⟩) (fun i hi a ha=>by rw [(ho3 i (by rw [aH];omega) (fun _ _ _ _ e=>by cases e;omega)).1];exact at_new ha _ _) tY.below)⟩
  refine aS.round aF (lit:=false) ?_
  conv=>whnf
  refine ak (aj (T:=kY) rfl rfl (ah h.obj) rfl) ?_
  conv=>whnf
  refine ay.to (jI _ h ht) ?_
  cases hi:dH [41] t with
  | true=>
    conv=>whnf
    rw [if_pos (show aY [41] (t :: r)=true from hi)] at hQ
    exact hQ _ σ m c0 l0 _ rfl rfl rfl rfl rfl (.refl _ _ _) h hts ⟨cs,.inr ⟨o,g',q1,rfl,q3,q4⟩,by rw [show acc ++ rG .nil=acc from List.append_nil acc];exact hea⟩
  | false=>
    rw [if_neg (by rw [show aY [41] (t :: r)=dH [41] t from rfl,hi];decide),if_neg (by decide)] at hQ
    conv=>whnf
    rw [decide_eq_true (by omega)]
    conv=>whnf
    refine jG _ h ht (fun hi2=>?_) (fun hi2=>?_)
    ·rw [aP,if_pos (show aY [44] (t :: r)=true from hi2)] at hQ
     obtain⟨hm1,he1,hle⟩:=aN he hts hi2
     have h1:=h.set (m':=m+1) (d':=d) (b':=false) (c':=c0) (l':=l0) hm1 h.dp
     have hg:=(jr n).expr d 1 (all.drop (m+1)) he1 (by omega)
     have hQ:PA p w g tl nm all B σ d acc Q ((dO n d 1 r).bind fun x ts=>(eU n d false ts).bind fun xs ts=>.ok (.cons x xs) ts):=hQ
     rw [←hr] at hQ
     conv=>whnf
     refine ih.expr d 1 _ (m+1) _ _ _ h1 hd (by omega) he1 (by omega) ?_
     generalize dO n d 1 (all.drop (m+1))=r1 at hg hQ
     cases r1 with
     | out=>exact hg.elim
     | bad c l=>
       intro o2 g2 σ2 m2 x2' h2
       conv=>whnf
       refine step σ2 o2 g2 (PO.ext.trans x2') _ fun o3 g3 k σ3 hr3 hx3 e1 e2 _ _=>?_
       have h3:=h2.keep e1 e2
       conv=>whnf
       exact yU h3 hr3.sl fun e' e0 e3 e4 e5 e9=>hQ _ σ3 m2 e' e0 e3 e4 e5 e9 hx3 h3 hr3.sl
     | ok y bJ=>
       intro o2 g2 σ2 m2 c2 l2 x2' h2 hm2 tY
       have lx':=x2'.len
       rw [bg] at lx'
       conv=>whnf
       refine step σ2 o2 g2 (PO.ext.trans x2') _ fun o3 g3 k σ3 hr3 hx3 e1 e2 hac hB3=>?_
       have h3:=h2.keep e1 e2
       have hacc:=hac _ y (by rw [bg];exact lx') (by rw [bg];exact Nat.le_refl _) tY
       have hQ:PA p w g tl nm all B σ d acc Q ((eU n d false bJ).bind fun xs ts=>.ok (.cons y xs) ts):=hQ
       rw [←hm2] at hQ hg
       have hlt:=hg.2.2
       conv=>whnf
       refine BN (acc ++ [y]) _ σ3 m2 c2 l2 Q h3 hB3 hacc hg.2.1 (by omega) (by rw [List.length_append];simp only [List.length_cons,List.length_nil];omega) ?_
       rw [show (acc ++ [y]).isEmpty=false by cases acc <;> rfl]
       generalize eU n d false (all.drop m2)=r2 at hQ
       cases r2 with
       | out=>trivial
       | bad c l=>exact fun v4 eY m4 e' e0 e3 e4 e5 e9 x4=>hQ v4 eY m4 e' e0 e3 e4 e5 e9 (hx3.trans x4)
       | ok xs BM=>exact fun v4 eY m4 c4 l4 e' e0 e3 e4 e5 e9 x4 h4 hm4 uZ=>hQ v4 eY m4 c4 l4 e' e0 e3 e4 e5 e9 (hx3.trans x4) h4 hm4 (by rw [List.append_assoc] at uZ;exact uZ)
    ·rw [aP,if_neg (by rw [show aY [44] (t :: r)=dH [44] t from rfl,hi2];decide)] at hQ
     have h1:=h.set (m':=m) (d':=d) (b':=true) (c':=4) (l':=t.l) h.at_ h.dp
     conv=>whnf
     refine Es 1 h1 ht fun o2 σ2 x2' h2=>?_
     conv=>whnf
     refine step σ2 o2 0 (PO.ext.trans x2') _ fun o3 g3 k σ3 hr3 hx3 e1 e2 _ _=>?_
     have h3:=h2.keep e1 e2
     conv=>whnf
     exact yU h3 hr3.sl fun e' e0 e3 e4 e5 e9=>hQ _ σ3 m e' e0 e3 e4 e5 e9 hx3 h3 hr3.sl
end
end Go.bG.YtjcicgkencfbgaaGreatDoor
namespace Go.bG.YtjcicgkencfbgaaGreatDoor
open Go.Proofs
set_option maxRecDepth 4000
section
variable {p w g:Nat} {all:List Tok} {n:Nat}
def Cm (p w g:Nat)(all:List Tok)(n:Nat):Prop:=∀(tl:Nat) (nm:List UInt8) (d B:Nat),d≤64→p<B→w<B→∀(acc:List Tr) (v:AV) (σ:St) (m c0 l0:Nat) (Q:Out→Env→St→Prop),PO p w g all σ m d false c0 l0→B≤σ.length→kV B σ v acc→aU (all.drop m)→10*(all.drop m).length+10≤n→acc.length+(all.drop m).length≤40001→PA p w g tl nm all B σ d acc Q (eU n d acc.isEmpty (all.drop m))→aS X [0,3,4,5] DJ [(0,.p p 0 0),(3,.p tl 0 0),(4,.s nm),(5,v)] σ Q
theorem U4 (ih:WE p w g all n)(BN:Cm p w g all n):Cm p w g all (n+1):=fun tl nm d B hd hp hw acc v σ m c0 l0 Q h hB ha he hn hs hQ=>aat ih tl nm d B (BN tl nm d B hd hp hw) acc v σ m c0 l0 Q h hd hp hw hB ha he hn hs hQ
theorem Yo (hno:oC all)(ih:WE p w g all n)(BN:Cm p w g all n)(d:Nat)(σ:St)(m c0 l0:Nat)(Q:AV→St→Prop)(h:PO p w g all σ m d false c0 l0)(hd:d≤64)(he:aU (all.drop m))(hn:10*(all.drop m).length+6≤n+1)(hQ:PE p w g all σ d Q (iy (n+1) d (all.drop m))):ay X 135 [.p p 0 0] σ Q:=by
 obtain⟨t,r,hts⟩:=he.ne
 obtain⟨ht,hr⟩:=aW hts
 have hm:=h.at_
 have hal:=h.len
 refine ay.body (F:=Xu) aF (lit:=false) rfl rfl (Nat.le_of_ble_eq_true rfl) ?_
 conv=>whnf
 refine ay.to (iO h ht) ?_
 conv=>whnf
 refine qX t h fun σ1 x1 h1 ht1 hl1=>?_
 have hpl:=aX h.obj
 have hwl:=aX h.tok
 have htk:∀s,aI p σ1 s→s[σ.length]? =some ⟨0,false,.cells 38 (gI t.k t.s t.l)⟩:=fun s x=>x.get (by omega) ht1
 unfold iy at hQ
 rw [hts] at hQ
 simp only at hQ
 conv=>whnf
 refine ay.to (jI _ h1 ht) ?_
 cases hi1:dH [40] t with
 | true=>
   conv=>whnf
   rw [if_pos (show aY [40] (t :: r)=true from hi1),←hts] at hQ
   refine ih.with_ d [40] [41] σ1 m _ _ _ h1 hd he (by omega) (hQ.to x1 fun o g' s q=>?_)
   conv=>whnf
   exact Fin.ref rfl q
 | false=>
   rw [if_neg (by rw [show aY [40] (t :: r)=dH [40] t from rfl,hi1];decide)] at hQ
   conv=>whnf
   refine dw _ h1 ht (fun _ hi2=>?_) (fun hi2=>?_)
   ·rw [if_pos (show aY Fh (t :: r)=true from hi2),←hr] at hQ
    obtain⟨hm1,he1,hle⟩:=aN he hts hi2
    have h2':=h1.set (m':=m+1) (d':=d) (b':=false) (c':=c0) (l':=l0) hm1 h.dp
    have hg:=(jr n).with_ d [40] [41] (all.drop (m+1)) he1 (by omega)
    conv=>whnf
    refine ak (aj (T:=dA) rfl rfl (ah (htk _ PO.ext)) rfl) ?_
    conv=>whnf
    refine ih.with_ d [40] [41] _ (m+1) _ _ _ h2' hd he1 (by omega) ?_
    generalize iI n d [40] [41] (all.drop (m+1))=r1 at hg hQ
    cases r1 with
    | out=>exact hg.elim
    | bad c l=>
      intro o2 g2 σ2 m2 x2' h2
      have x2:aI p σ1 σ2:=PO.ext.trans x2'
      conv=>whnf
      refine⟨?_,?_⟩
      ·conv=>whnf
       refine ak (aj (T:=dA) rfl rfl (ah (htk _ x2)) rfl) ?_
       rfl
      ·conv=>whnf
       exact Fin.ref rfl (hQ _ _ _ _ (x1.trans (x2.new _ _)) (h2.new _ _))
    | ok y bJ=>
      intro o2 g2 σ2 m2 c2 l2 x2' h2 hm2 tY
      have x2:aI p σ1 σ2:=PO.ext.trans x2'
      have hQ:PE p w g all σ d Q (.ok (.ex 7 0 [] [] y .nil .nil t.l) bJ):=hQ
      conv=>whnf
      refine⟨?_,?_⟩
      ·conv=>whnf
       refine ak (aj (T:=dA) rfl rfl (ah (htk _ x2)) rfl) ?_
       rfl
      ·conv=>whnf
       have oz:=x2.len
       refine Fin.ref rfl (hQ _ _ _ _ _ _ (x1.trans (x2.new _ _)) (h2.new _ _) hm2 ⟨_,0,.p o2 g2 0,.p0,.sl0,(by omega:σ.length≤σ2.length),rfl,aG _ _ _,?_,rfl,rfl⟩)
       exact bK.mono (fun i hi=>by have hi:(fF p w g all.length σ1 (m+1) d false c0 l0).length≤i:=hi;rw [bg] at hi;omega) (fun i hi a ha=>at_new ha _ _) tY
   ·rw [if_neg (by rw [show aY Fh (t :: r)=dH [110,101,119] t from rfl];simpa using hi2)] at hQ
    conv=>whnf
    refine dw _ h1 ht (fun _ hi3=>?_) (fun hi3=>?_)
    ·rw [if_pos (show aY Yk (t :: r)=true from hi3),←hr] at hQ
     obtain⟨hm1,he1,hle⟩:=aN he hts hi3
     obtain⟨t2,r2,fD⟩:=he1.ne
     obtain⟨ht2,hr2⟩:=aW fD
     have h2:=h1.set (m':=m+1) (d':=d) (b':=false) (c':=c0) (l':=l0) hm1 h.dp
     have fin:∀(σ2:St),aI p σ1 σ2→σ2[σ.length]? =some ⟨0,false,.cells 38 (gI t.k t.s t.l)⟩:=htk
     unfold gq at hQ
     rw [fD] at hQ
     conv=>whnf
     refine qW _ h2 ht2 (by omega) (fun hi=>(aN he1 fD hi).1) (fun hi h64=>?_) (fun hi h64=>?_) (fun hi=>?_)
     ·rw [if_neg (by omega),aP,if_pos (show aY [40] (t2 :: r2)=true from hi)] at hQ
      have hQ:PE p w g all σ d Q ((aP [41] r2).bind fun _ ts=>.ok (.ex 8 0 [] [] .nil .nil .nil t.l) ts):=hQ
      obtain⟨KU,he3,hle3⟩:=aN he1 fD hi
      have h3:=h2.set (m':=m+1+1) (d':=d+1) (b':=false) (c':=c0) (l':=l0) KU (by omega)
      obtain⟨t3,r3,jL⟩:=he3.ne
      obtain⟨ht3,hr3⟩:=aW jL
      rw [←hr2,jL] at hQ
      conv=>whnf
      refine yS _ h3 ht3 (fun hi=>(aN he3 jL hi).1) (fun hi4=>?_) (fun hi4=>?_)
      ·rw [aP,if_pos (show aY [41] (t3 :: r3)=true from hi4)] at hQ
       have h4:=h3.set (m':=m+1+1+1) (d':=d) (b':=false) (c':=c0) (l':=l0) (aN he3 jL hi4).1 h.dp
       have x4:aI p σ1 _:=(PO.ext.trans PO.ext).trans (PO.ext (σ:=fF p w g all.length (fF p w g all.length σ1 (m+1) d false c0 l0) (m+1+1) (d+1) false c0 l0) (w:=w) (g:=g) (n:=all.length) (m:=m+1+1+1) (d:=d) (b:=false) (c:=c0) (l:=l0))
       conv=>whnf
       refine ak (aj (T:=dA) rfl rfl (ah (htk _ x4)) rfl) ?_
       conv=>whnf
       refine Fin.ref rfl (hQ _ _ _ _ _ _ (x1.trans (x4.new _ _)) (h4.new _ _) hr3 ?_)
       exact⟨_,0,.p0,.p0,.sl0,Nat.le_trans x1.len x4.len,rfl,aG _ _ _,rfl,rfl,rfl⟩
      ·rw [aP,if_neg (by rw [show aY [41] (t3 :: r3)=dH [41] t3 from rfl,hi4];decide)] at hQ
       have h4:=h3.set (m':=m+1+1) (d':=d) (b':=true) (c':=4) (l':=t3.l) KU h.dp
       have x4:aI p σ1 _:=(PO.ext.trans PO.ext).trans (PO.ext (σ:=fF p w g all.length (fF p w g all.length σ1 (m+1) d false c0 l0) (m+1+1) (d+1) false c0 l0) (w:=w) (g:=g) (n:=all.length) (m:=m+1+1) (d:=d) (b:=true) (c:=4) (l:=t3.l))
       conv=>whnf
       refine ak (aj (T:=dA) rfl rfl (ah (htk _ x4)) rfl) ?_
       conv=>whnf
       exact Fin.ref rfl (hQ _ _ _ _ (x1.trans (x4.new _ _)) (h4.new _ _))
     ·rw [if_pos ⟨show aY [40] (t2 :: r2)=true from hi,h64⟩] at hQ
      have h3:=h2.set (m':=m+1) (d':=d+1) (b':=true) (c':=3) (l':=t2.l) hm1 (by omega)
      have h4:=h3.set (m':=m+1) (d':=d) (b':=true) (c':=3) (l':=t2.l) hm1 h.dp
      have x4:aI p σ1 _:=(PO.ext.trans PO.ext).trans (PO.ext (σ:=fF p w g all.length (fF p w g all.length σ1 (m+1) d false c0 l0) (m+1) (d+1) true 3 t2.l) (w:=w) (g:=g) (n:=all.length) (m:=m+1) (d:=d) (b:=true) (c:=3) (l:=t2.l))
      conv=>whnf
      refine gX _ h3 ht2 ?_
      conv=>whnf
      refine ak (aj (T:=dA) rfl rfl (ah (htk _ x4)) rfl) ?_
      conv=>whnf
      exact Fin.ref rfl (hQ _ _ _ _ (x1.trans (x4.new _ _)) (h4.new _ _))
     ·rw [if_neg (fun e=>by have:=e.1;rw [show aY [40] (t2 :: r2)=dH [40] t2 from rfl,hi] at this;cases this),aP,if_neg (by rw [show aY [40] (t2 :: r2)=dH [40] t2 from rfl,hi];decide)] at hQ
      have h3:=h2.set (m':=m+1) (d':=d+1) (b':=true) (c':=4) (l':=t2.l) hm1 (by omega)
      have h4:=h3.set (m':=m+1) (d':=d) (b':=true) (c':=4) (l':=t2.l) hm1 h.dp
      have x4:aI p σ1 _:=(PO.ext.trans PO.ext).trans (PO.ext (σ:=fF p w g all.length (fF p w g all.length σ1 (m+1) d false c0 l0) (m+1) (d+1) true 4 t2.l) (w:=w) (g:=g) (n:=all.length) (m:=m+1) (d:=d) (b:=true) (c:=4) (l:=t2.l))
      conv=>whnf
      refine gX _ h3 ht2 ?_
      conv=>whnf
      refine ak (aj (T:=dA) rfl rfl (ah (htk _ x4)) rfl) ?_
      conv=>whnf
      exact Fin.ref rfl (hQ _ _ _ _ (x1.trans (x4.new _ _)) (h4.new _ _))
    ·rw [if_neg (by rw [show aY Yk (t :: r)=dH [105,110] t from rfl];simpa using hi3)] at hQ
     conv=>whnf
     refine ak (aj (T:=dA) rfl rfl (ah ht1) rfl) ?_
     conv=>whnf
     by_cases hk:t.k=2
     ·rw [decide_eq_true (by omega)]
      rw [if_pos hk] at hQ
      obtain⟨n1,n2,n3⟩:=hno t (List.mem_of_getElem? ht) hk
      have he1:aU (all.drop (m+1)):=by rw [hr];rw [hts] at he;exact he.tail (by rw [hk];decide)
      have h2:=h1.set (m':=m+1) (d':=d) (b':=false) (c':=c0) (l':=l0) (jv he1) h.dp
      have x2:aI p σ1 (fF p w g all.length σ1 (m+1) d false c0 l0):=PO.ext
      conv=>whnf
      refine ak (aj (T:=kY) rfl rfl (ah h1.obj) rfl) ?_
      conv=>whnf
      refine ak (aj (T:=dA) rfl rfl (ah h1.obj) rfl) ?_
      conv=>whnf
      refine⟨((m+1:Nat):Int),by rw [wrap_i64 (by omega) (by omega)];omega,?_⟩
      conv=>whnf
      refine ak (aC (T:=dA) (kK w g all.length (m+1) d false c0 l0) rfl h1.obj rfl rfl (Nat.le_of_ble_eq_true rfl) rfl) ?_
      conv=>whnf
      refine ak (aj (T:=eG) rfl rfl (ah (htk _ x2)) rfl) ?_
      conv=>whnf
      refine ak (aj (T:=dA) rfl rfl (ah (htk _ x2)) rfl) ?_
      conv=>whnf
      refine ay.to (KP t.s n1 n3 n2 _) ?_
      conv=>whnf
      refine⟨?_,?_⟩
      ·conv=>whnf
       refine ak (aj (T:=dA) rfl rfl (ah (htk _ x2)) rfl) ?_
       rfl
      ·conv=>whnf
       refine Fin.ref rfl (hQ _ _ _ _ _ _ (x1.trans (x2.new _ _)) (h2.new _ _) hr ?_)
       exact⟨_,0,.p0,.p0,.sl0,by show σ.length≤(fF p w g all.length σ1 (m+1) d false c0 l0).length;rw [bg];exact x1.len,rfl,aG _ _ _,rfl,rfl,rfl⟩
     ·rw [decide_eq_false (by omega)]
      rw [if_neg hk] at hQ
      conv=>whnf
      refine uY h1 ht (fun hk1=>jv (by rw [hr];rw [hts] at he;exact he.tail (by rw [hk1];decide))) (fun hk1 σ2 x2 h2=>?_) (fun hk1 σ2 x2 h2=>?_)
      ·have he1:aU (all.drop (m+1)):=by rw [hr];rw [hts] at he;exact he.tail (by rw [hk1];decide)
       have hle:(all.drop (m+1)).length<(all.drop m).length:=by rw [hr,hts];simp
       obtain⟨t2,r2,fD⟩:=he1.ne
       obtain⟨ht2,hr2⟩:=aW fD
       simp only [dU,if_pos hk1] at hQ
       have hQ:PE p w g all σ d Q (if aY [40] r=true then(gq [40] d r).bind fun _ ts=>(eU n (d+1) true ts).bind fun a ts=>(aP [41] ts).bind fun _ ts=>.ok (.ex 4 0 t.s [] .nil .nil a t.l) ts else .ok (Bv t.s t.l) r):=hQ
       rw [←hr,fD] at hQ
       conv=>whnf
       refine ay.to (jI _ h2 ht2) ?_
       cases hi4:dH [40] t2 with
       | false=>
         rw [if_neg (by rw [show aY [40] (t2 :: r2)=dH [40] t2 from rfl,hi4];decide)] at hQ
         conv=>whnf
         refine ak (aj (T:=dA) rfl rfl (ah (htk _ x2)) rfl) ?_
         conv=>whnf
         refine Fin.ref rfl (hQ _ _ _ _ _ _ (x1.trans (x2.new _ _)) (h2.new _ _) fD ?_)
         exact⟨_,0,.p0,.p0,.sl0,Nat.le_trans x1.len x2.len,rfl,aG _ _ _,rfl,rfl,rfl⟩
       | true=>
         rw [if_pos (show aY [40] (t2 :: r2)=true from hi4)] at hQ
         conv=>whnf
         unfold gq at hQ
         refine qW _ h2 ht2 (by omega) (fun hi=>(aN he1 fD hi).1) (fun hi h64=>?_) (fun hi h64=>?_) (fun hi=>by rw [hi] at hi4;cases hi4)
         ·rw [if_neg (by omega),aP,if_pos (show aY [40] (t2 :: r2)=true from hi)] at hQ
          have hQ:PE p w g all σ d Q ((eU n (d+1) true r2).bind fun a ts=>(aP [41] ts).bind fun _ ts=>.ok (.ex 4 0 t.s [] .nil .nil a t.l) ts):=hQ
          obtain⟨KU,he3,hle3⟩:=aN he1 fD hi
          have h3:=h2.set (m':=m+1+1) (d':=d+1) (b':=false) (c':=c0) (l':=l0) KU (by omega)
          have hg:=(jr n).args (d+1) true (all.drop (m+1+1)) he3 (by omega)
          have lx2:=x2.len
          have hall:(all.drop (m+1+1)).length≤40000:=by rw [List.length_drop];omega
          rw [←hr2] at hQ
          conv=>whnf
          refine BN σ.length t.s (d+1) σ2.length (by omega) (by omega) (by omega) [] .sl0 _ (m+1+1) c0 l0 _ h3 (by rw [bg];exact Nat.le_refl _) ⟨[],.inl ⟨rfl,rfl⟩,trivial⟩ he3 (by omega) (by simp only [List.length_nil];omega) ?_
          show PA p w g σ.length t.s all σ2.length _ (d+1) [] _ (eU n (d+1) true (all.drop (m+1+1)))
          generalize eU n (d+1) true (all.drop (m+1+1))=r1 at hg hQ
          cases r1 with
          | out=>exact hg.elim
          | bad c l=>
            intro v4 eY m4 e' e0 e3 e4 e5 e9 x4 h4 hsl
            obtain⟨t4,IL⟩:∃t4,all[m4]? =some t4:=⟨_,List.getElem?_eq_getElem h4.at_⟩
            have h5:=h4.set (m':=m4) (d':=d) (b':=true) (c':=c) (l':=l) h4.at_ h.dp
            have hx4:aI p σ2 eY:=⟨by have:=x4.len;rw [bg] at this;exact this,fun i hi fZ=>by rw [x4.old i hi fZ];exact PO.ext.old i hi fZ⟩
            have x5:aI p σ1 (fF p w g all.length eY m4 d true c l):=(x2.trans hx4).trans PO.ext
            conv=>whnf
            rw [show dK.ev e' (.t 0)=get e' 0 from rfl,e0]
            conv=>whnf
            refine gX _ h4 IL ?_
            conv=>whnf
            have k3:get (put (some 87) (AV.tu []) (put (some 86) (.p p 0 0) e')) 3= .p σ.length 0 0:=e3
            have k4:get (put (some 87) (AV.tu []) (put (some 86) (.p p 0 0) e')) 4= .s t.s:=e4
            have k5:get (put (some 87) (AV.tu []) (put (some 86) (.p p 0 0) e')) 5=v4:=e5
            erw [k3]
            conv=>whnf
            erw [k4]
            conv=>whnf
            erw [k5]
            rcases hsl with rfl | ⟨o5,g5,n5,rfl⟩
            all_goals
              conv=>whnf
              refine ak (aj (T:=dA) rfl rfl (ah (htk _ x5)) rfl) ?_
              conv=>whnf
              exact Fin.ref rfl (hQ _ _ _ _ (x1.trans (x5.new _ _)) (h5.new _ _))
          | ok xs BM=>
            intro v4 eY m4 c4 l4 e' e0 e3 e4 e5 e9 x4 h4 hm4 hac
            have he4:aU (all.drop m4):=by rw [hm4];exact hg.2.1
            obtain⟨t4,r4,oD⟩:=he4.ne
            obtain⟨IL,hr4⟩:=aW oD
            have hx4:aI p σ2 eY:=⟨by have:=x4.len;rw [bg] at this;exact this,fun i hi fZ=>by rw [x4.old i hi fZ];exact PO.ext.old i hi fZ⟩
            have hsl:yT v4:=by obtain⟨cs4,hr5,_⟩:=hac;exact hr5.sl
            have harg:=hac.arg
            rw [show ([]:List Tr) ++ rG xs=rG xs from rfl,U2] at harg
            have hQ:PE p w g all σ d Q ((aP [41] BM).bind fun _ ts=>.ok (.ex 4 0 t.s [] .nil .nil xs t.l) ts):=hQ
            rw [←hm4,oD] at hQ
            have k3:get (put (some 87) (AV.tu []) (put (some 86) (.p p 0 0) e')) 3= .p σ.length 0 0:=e3
            have k4:get (put (some 87) (AV.tu []) (put (some 86) (.p p 0 0) e')) 4= .s t.s:=e4
            have k5:get (put (some 87) (AV.tu []) (put (some 86) (.p p 0 0) e')) 5=v4:=e5
            conv=>whnf
            rw [show dK.ev e' (.t 0)=get e' 0 from rfl,e0]
            conv=>whnf
            refine yS _ h4 IL (fun hi=>(aN he4 oD hi).1) (fun hi5=>?_) (fun hi5=>?_)
            ·rw [aP,if_pos (show aY [41] (t4 :: r4)=true from hi5)] at hQ
             have h5:=h4.set (m':=m4+1) (d':=d) (b':=false) (c':=c4) (l':=l4) (aN he4 oD hi5).1 h.dp
             have x5:aI p σ1 (fF p w g all.length eY (m4+1) d false c4 l4):=(x2.trans hx4).trans PO.ext
             have l1:=x1.len
             have l5:=x5.len
             conv=>whnf
             erw [k3]
             conv=>whnf
             erw [k4]
             conv=>whnf
             erw [k5]
             rcases hsl with rfl | ⟨o5,g5,n5,rfl⟩
             all_goals
              conv=>whnf
              refine ak (aj (T:=dA) rfl rfl (ah (htk _ x5)) rfl) ?_
              conv=>whnf
              refine Fin.ref rfl (hQ _ _ _ _ _ _ (x1.trans (x5.new _ _)) (h5.new _ _) hr4 ⟨_,0,.p0,.p0,_,Nat.le_trans l1 l5,rfl,aG _ _ _,rfl,rfl,kJ.mono (fun i hi=>by omega) (fun i hi a ha=>at_new (PO.ext.get (by omega) ha) _ _) harg⟩)
            ·rw [aP,if_neg (by rw [show aY [41] (t4 :: r4)=dH [41] t4 from rfl,hi5];decide)] at hQ
             have h5:=h4.set (m':=m4) (d':=d) (b':=true) (c':=4) (l':=t4.l) h4.at_ h.dp
             have x5:aI p σ1 (fF p w g all.length eY m4 d true 4 t4.l):=(x2.trans hx4).trans PO.ext
             conv=>whnf
             erw [k3]
             conv=>whnf
             erw [k4]
             conv=>whnf
             erw [k5]
             rcases hsl with rfl | ⟨o5,g5,n5,rfl⟩
             all_goals
              conv=>whnf
              refine ak (aj (T:=dA) rfl rfl (ah (htk _ x5)) rfl) ?_
              conv=>whnf
              exact Fin.ref rfl (hQ _ _ _ _ (x1.trans (x5.new _ _)) (h5.new _ _))
         ·rw [if_pos ⟨show aY [40] (t2 :: r2)=true from hi,h64⟩] at hQ
          have h3:=h2.set (m':=m+1) (d':=d+1) (b':=true) (c':=3) (l':=t2.l) h2.at_ (by omega)
          have h5:=h3.set (m':=m+1) (d':=d) (b':=true) (c':=3) (l':=t2.l) h2.at_ h.dp
          have x5:aI p σ1 _:=(x2.trans PO.ext).trans (PO.ext (σ:=fF p w g all.length σ2 (m+1) (d+1) true 3 t2.l) (w:=w) (g:=g) (n:=all.length) (m:=m+1) (d:=d) (b:=true) (c:=3) (l:=t2.l))
          conv=>whnf
          refine yU (nm:=t.s) (tl:=σ.length) h3 (.inl rfl) fun e' e0 e3 e4 e5 e9=>?_
          have k3:get (put (some 87) (AV.tu []) (put (some 86) (.p p 0 0) e')) 3= .p σ.length 0 0:=e3
          have k4:get (put (some 87) (AV.tu []) (put (some 86) (.p p 0 0) e')) 4= .s t.s:=e4
          have k5:get (put (some 87) (AV.tu []) (put (some 86) (.p p 0 0) e')) 5= .sl0:=e5
          conv=>whnf
          rw [show dK.ev e' (.t 0)=get e' 0 from rfl,e0]
          conv=>whnf
          refine gX _ h3 ht2 ?_
          conv=>whnf
          erw [k3]
          conv=>whnf
          erw [k4]
          conv=>whnf
          erw [k5]
          conv=>whnf
          refine ak (aj (T:=dA) rfl rfl (ah (htk _ x5)) rfl) ?_
          conv=>whnf
          exact Fin.ref rfl (hQ _ _ _ _ (x1.trans (x5.new _ _)) (h5.new _ _))
      ·simp only [dU,if_neg hk1] at hQ
       obtain⟨t2,ht2⟩:∃t2,all[m]? =some t2:=⟨_,ht⟩
       conv=>whnf
       refine ay.to (jI _ h2 ht2) ?_
       conv=>whnf
       refine ak (aj (T:=dA) rfl rfl (ah (htk _ x2)) rfl) ?_
       conv=>whnf
       exact Fin.ref rfl (hQ _ _ _ _ (x1.trans (x2.new _ _)) (h2.new _ _))
end
end Go.bG.YtjcicgkencfbgaaGreatDoor
namespace Go.bG.YtjcicgkencfbgaaGreatDoor
open Go.Proofs
theorem NG {p w g:Nat} {all:List Tok} (hno:oC all):∀n,WE p w g all n∧Cm p w g all n
 | 0=>⟨⟨fun _ _ _ _ _ _ _ _ _ _ _ h=>absurd h (by omega),fun _ _ _ _ _ _ _ _ _ h=>absurd h (by omega),fun _ _ _ _ _ _ _ _ _ h=>absurd h (by omega),fun _ _ _ _ _ _ _ _ _ _ _ h=>absurd h (by omega),fun _ _ _ _ _ _ _ _ _ h=>absurd h (by omega),fun _ _ _ _ _ _ _ _ _ h=>absurd h (by omega),fun _ _ _ _ _ _ _ _ _ _ _ _ _ _ _ _ _ h=>absurd h (by omega),fun _ _ _ _ _ _ _ _ _ _ _ _ _ _ _ _ _ _ _ h=>absurd h (by omega)⟩,fun _ _ _ _ _ _ _ _ _ _ _ _ _ _ _ _ _ _ h=>absurd h (by omega)⟩
 | n+1=>by
   obtain⟨ih,BN⟩:=NG (p:=p) (w:=w) (g:=g) hno n
   exact⟨⟨fun d c σ m c0 l0 Q h hd hc he hn hQ=>aas ih d c σ m c0 l0 Q h hd hc he hn hQ,fun d σ m c0 l0 Q h hd he hn hQ=>un_w ih d σ m c0 l0 Q h hd he hn hQ,fun d σ m c0 l0 Q h hd he hn hQ=>aaq ih d σ m c0 l0 Q h hd he hn hQ,fun d a b σ m c0 l0 Q h hd he hn hQ=>aan ih d a b σ m c0 l0 Q h hd he hn hQ,fun d σ m c0 l0 Q h hd he hn hQ=>o7 hno ih d σ m c0 l0 Q h hd he hn hQ,fun d σ m c0 l0 Q h hd he hn hQ=>Yo hno ih BN d σ m c0 l0 Q h hd he hn hQ,fun d B x σ m c0 l0 o g' Q h hd hp hB hx he' he hn hQ=>Yn ih d B x σ m c0 l0 o g' Q h hd hp hB hx he' he hn hQ,fun d c B x σ m c0 l0 o g' Q h hd hc hp hB hx he' he hn hQ=>aar ih d c B x σ m c0 l0 o g' Q h hd hc hp hB hx he' he hn hQ⟩,U4 ih BN⟩
end Go.bG.YtjcicgkencfbgaaGreatDoor
namespace Go.bG.YtjcicgkencfbgaaGreatDoor
open Go.Proofs
set_option maxRecDepth 4000
section
variable {p w g:Nat} {all:List Tok} {n:Nat}
theorem Yp (ih:WE p w g all n)(d:Nat)(σ:St)(m c0 l0:Nat)(Q:AV→St→Prop)(h:PO p w g all σ m d false c0 l0)(hd:d≤64)(he:aU (all.drop m))(hn:10*(all.drop m).length+10≤n+1)(hQ:PE p w g all σ d Q (bW (n+1) d (all.drop m))):ay X 116 [.p p 0 0] σ Q:=by
 refine ay.body (F:=ZW) aF (lit:=false) rfl rfl (Nat.le_of_ble_eq_true rfl) ?_
 conv=>whnf
 unfold bW at hQ
 have hQ:PE p w g all σ d Q ((dO n d 1 (all.drop m)).bind fun x ts=>(aP [59] ts).bind fun _ ts=>.ok x ts):=hQ
 have hg:=(jr n).expr d 1 (all.drop m) he (by omega)
 refine ih.expr d 1 σ m _ _ _ h hd (by omega) he (by omega) ?_
 generalize dO n d 1 (all.drop m)=r1 at hg hQ
 cases r1 with
 | out=>exact hg.elim
 | bad c l=>
   intro o g' σ2 m2 x2 h2
   obtain⟨t2,ht2⟩:∃t2,all[m2]? =some t2:=⟨_,List.getElem?_eq_getElem h2.at_⟩
   conv=>whnf
   refine ou _ h2 ht2 ?_
   conv=>whnf
   exact Fin.ref rfl (hQ _ _ _ _ x2 h2)
 | ok x bJ=>
   intro o g' σ2 m2 c2 l2 x2 h2 hm2 hex
   have he2:aU (all.drop m2):=by rw [hm2];exact hg.2.1
   obtain⟨t2,r2,fD⟩:=he2.ne
   obtain⟨ht2,hr2⟩:=aW fD
   have hQ:PE p w g all σ d Q ((aP [59] bJ).bind fun _ ts=>.ok x ts):=hQ
   rw [←hm2,fD] at hQ
   conv=>whnf
   refine jG _ h2 ht2 (fun hi=>?_) (fun hi=>?_)
   ·rw [aP,if_pos (show aY [59] (t2 :: r2)=true from hi)] at hQ
    have h3:=h2.set (m':=m2+1) (d':=d) (b':=false) (c':=c2) (l':=l2) (aN he2 fD hi).1 h.dp
    conv=>whnf
    exact Fin.ref rfl (hQ _ _ _ _ _ _ (x2.trans PO.ext) h3 hr2 (bK.ext hex PO.ext (aX h.obj)))
   ·rw [aP,if_neg (by rw [show aY [59] (t2 :: r2)=dH [59] t2 from rfl,hi];decide)] at hQ
    have h3:=h2.set (m':=m2) (d':=d) (b':=true) (c':=4) (l':=t2.l) h2.at_ h.dp
    conv=>whnf
    exact Fin.ref rfl (hQ _ _ _ _ (x2.trans PO.ext) h3)
end
end Go.bG.YtjcicgkencfbgaaGreatDoor
