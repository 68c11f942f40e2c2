/- Texts of this claim, joined: Sp, Sq, Sw, Rp, Ra, Rb, Rc, Rd1, Rd2, Rd3, Rd4, Rd5, Rd6, Rd7, Rd8, Re1. -/
import Derived.Test.YtlkfbfhkcaldlaaGreatDoorM18
import Derived.Test.YtlkfbfhkcaldlaaGreatDoorM19
set_option linter.unusedVariables false
set_option linter.unusedSimpArgs false
namespace Go.Abs.YtlkfbfhkcaldlaaGreatDoor
mutual
inductive Tr where
 | nil
 | ex (k n:Nat) (name text:List UInt8) (l r:Tr) (args:Trs) (line:Nat)
inductive Trs where
 | nil
 | cons (t:Tr) (r:Trs)
end
mutual
inductive Sm where
 | st (k:Nat) (name:List UInt8) (ptr:Bool) (l r:Tr) (th el:Sms) (line:Nat)
inductive Sms where
 | nil
 | cons (s:Sm) (r:Sms)
end
structure Fm where
 name:List UInt8
 params:List (List UInt8×Bool)
 ptr:Bool
 body:Sms
 line:Nat
inductive Re (α:Type) where
 | ok (a:α) (ts:List Tok)
 | bad (c l:Nat)
 | out
def Re.bind {α β:Type} (r:Re α)(f:α→List Tok→Re β):Re β:=match r with
 | .ok a ts=>f a ts
 | .bad c l=>.bad c l
 | .out=>.out
def isW (s:List UInt8):List Tok→Bool
 | t :: _=>(t.k == 4 || t.k == 3) && t.s == s
 | []=>false
def lineW:List Tok→Nat
 | t :: _=>t.l
 | []=>0
def mustW (s:List UInt8)(ts:List Tok):Re Unit:=if isW s ts=true then .ok () ts.tail else .bad 4 (lineW ts)
def openW (s:List UInt8)(d:Nat)(ts:List Tok):Re Unit:=if isW s ts=true∧64≤d then .bad 3 (lineW ts) else mustW s ts
def nameW (ts:List Tok):Re (List UInt8):=match ts with
 | t :: r=>if t.k=1 then .ok t.s r else .bad 4 t.l
 | []=>.out
def bindsP (s:List UInt8):Nat:=
 if s=[124,124] then 1 else if s=[38,38] then 2 else if s=[61,61]∨s=[33,61] then 3
 else if s=[60]∨s=[60,61]∨s=[62]∨s=[62,61] then 4
 else if s=[43]∨s=[45]∨s=[124]∨s=[94] then 5
 else if s=[42]∨s=[47]∨s=[37]∨s=[38]∨s=[60,60]∨s=[62,62] then 6 else 0
def numP:Nat→List UInt8→Nat
 | n,[]=>n
 | n,c :: l=>numP (10*n+(c.toNat - 48)) l
def wNew:List UInt8:=[110,101,119]
def wIn:List UInt8:=[105,110]
def wElse:List UInt8:=[101,108,115,101]
def wIf:List UInt8:=[105,102]
def wVar:List UInt8:=[118,97,114]
def wPtr:List UInt8:=[112,116,114]
def wWhile:List UInt8:=[119,104,105,108,101]
def wOut:List UInt8:=[111,117,116]
def wFree:List UInt8:=[102,114,101,101]
def wDrain:List UInt8:=[100,114,97,105,110]
def wReturn:List UInt8:=[114,101,116,117,114,110]
def wFunc:List UInt8:=[102,117,110,99]
def numT (t:Tok):Tr:=.ex 1 (numP 0 t.s) [] [] .nil .nil .nil t.l
def nameT (nm:List UInt8)(l:Nat):Tr:=.ex 2 0 nm [] .nil .nil .nil l
mutual
def pExpr:Nat→Nat→Nat→List Tok→Re Tr
 | 0,_,_,_=>.out
 | n+1,d,c,ts=>(pUn n d ts).bind fun x ts=>pLoop n d c x ts
def pLoop:Nat→Nat→Nat→Tr→List Tok→Re Tr
 | 0,_,_,_,_=>.out
 | _+1,_,_,_,[]=>.out
 | n+1,d,c,x,t :: r=>
   if t.k=3∧bindsP t.s≠0∧¬bindsP t.s<c then(pExpr n d (bindsP t.s+1) r).bind fun y ts=>pLoop n d c (.ex 3 0 [] t.s x y .nil t.l) ts
   else .ok x (t :: r)
def pUn:Nat→Nat→List Tok→Re Tr
 | 0,_,_=>.out
 | _+1,_,[]=>.out
 | n+1,d,t :: r=>
   if isW [33] (t :: r)=true∨isW [45] (t :: r)=true then
    if 64≤d then .bad 3 t.l else(pUn n (d+1) r).bind fun x ts=>.ok (.ex 3 0 [] t.s .nil x .nil t.l) ts
   else pPost n d (t :: r)
def pPost:Nat→Nat→List Tok→Re Tr
 | 0,_,_=>.out
 | n+1,d,ts=>(pFirst n d ts).bind fun x ts=>pPostL n d x ts
def pPostL:Nat→Nat→Tr→List Tok→Re Tr
 | 0,_,_,_=>.out
 | _+1,_,_,[]=>.out
 | n+1,d,x,t :: r=>
   if isW [91] (t :: r)=true then(pWith n d [91] [93] (t :: r)).bind fun y ts=>pPostL n d (.ex 5 0 [] [] x y .nil t.l) ts
   else if isW [58] (t :: r)=true then(pCell n d r).bind fun y ts=>pPostL n d (.ex 6 0 [] [] x y .nil t.l) ts
   else .ok x (t :: r)
def pWith:Nat→Nat→List UInt8→List UInt8→List Tok→Re Tr
 | 0,_,_,_,_=>.out
 | n+1,d,a,b,ts=>(openW a d ts).bind fun _ ts=>(pExpr n (d+1) 1 ts).bind fun x ts=>(mustW b ts).bind fun _ ts=>.ok x ts
def pCell:Nat→Nat→List Tok→Re Tr
 | 0,_,_=>.out
 | _+1,_,[]=>.out
 | n+1,d,t :: r=>
   if isW [40] (t :: r)=true then pWith n d [40] [41] (t :: r)
   else if t.k=2 then .ok (numT t) r
   else(nameW (t :: r)).bind fun nm ts=>.ok (nameT nm t.l) ts
def pFirst:Nat→Nat→List Tok→Re Tr
 | 0,_,_=>.out
 | _+1,_,[]=>.out
 | n+1,d,t :: r=>
   if isW [40] (t :: r)=true then pWith n d [40] [41] (t :: r)
   else if isW wNew (t :: r)=true then(pWith n d [40] [41] r).bind fun x ts=>.ok (.ex 7 0 [] [] x .nil .nil t.l) ts
   else if isW wIn (t :: r)=true then(openW [40] d r).bind fun _ ts=>(mustW [41] ts).bind fun _ ts=>.ok (.ex 8 0 [] [] .nil .nil .nil t.l) ts
   else if t.k=2 then .ok (numT t) r
   else(nameW (t :: r)).bind fun nm ts=>
    if isW [40] ts=true then(openW [40] d ts).bind fun _ ts=>(pArgs n (d+1) true ts).bind fun a ts=>(mustW [41] ts).bind fun _ ts=>.ok (.ex 4 0 nm [] .nil .nil a t.l) ts
    else .ok (nameT nm t.l) ts
def pArgs:Nat→Nat→Bool→List Tok→Re Trs
 | 0,_,_,_=>.out
 | n+1,d,first,ts=>
   if isW [41] ts=true then .ok .nil ts
   else(if first=true then .ok () ts else mustW [44] ts).bind fun _ ts=>(pExpr n d 1 ts).bind fun x ts=>(pArgs n d false ts).bind fun xs ts=>.ok (.cons x xs) ts
end
mutual
def pBlock:Nat→Nat→List Tok→Re Sms
 | 0,_,_=>.out
 | n+1,d,ts=>(openW [123] d ts).bind fun _ ts=>(pStmts n (d+1) ts).bind fun l ts=>(mustW [125] ts).bind fun _ ts=>.ok l ts
def pStmts:Nat→Nat→List Tok→Re Sms
 | 0,_,_=>.out
 | n+1,d,ts=>
   if isW [125] ts=true then .ok .nil ts
   else(pStmt n d ts).bind fun x ts=>(pStmts n d ts).bind fun l ts=>.ok (.cons x l) ts
def pBranch:Nat→Nat→Nat→List Tok→Re Sm
 | 0,_,_,_=>.out
 | n+1,d,line,ts=>(pExpr n d 1 ts).bind fun c ts=>(pBlock n d ts).bind fun th ts=>
   if isW wElse ts=true then
    if isW wIf ts.tail=true then(pBranch n d (lineW ts.tail) ts.tail.tail).bind fun b ts=>.ok (.st 4 [] false .nil c th (.cons b .nil) line) ts
    else(pBlock n d ts.tail).bind fun el ts=>.ok (.st 4 [] false .nil c th el line) ts
   else .ok (.st 4 [] false .nil c th .nil line) ts
def pEnded:Nat→Nat→List Tok→Re Tr
 | 0,_,_=>.out
 | n+1,d,ts=>(pExpr n d 1 ts).bind fun x ts=>(mustW [59] ts).bind fun _ ts=>.ok x ts
def pStmt:Nat→Nat→List Tok→Re Sm
 | 0,_,_=>.out
 | _+1,_,[]=>.out
 | n+1,d,t :: r=>
   if isW wVar (t :: r)=true then(nameW r).bind fun nm ts=>
    let p:=isW wPtr ts
    let ts:=if p=true then ts.tail else ts
    if isW [61] ts=true then(pEnded n d ts.tail).bind fun x ts=>.ok (.st 1 nm p .nil x .nil .nil t.l) ts
    else(mustW [59] ts).bind fun _ ts=>.ok (.st 1 nm p .nil .nil .nil .nil t.l) ts
   else if isW wIf (t :: r)=true then pBranch n d t.l r
   else if isW wWhile (t :: r)=true then(pExpr n d 1 r).bind fun c ts=>(pBlock n d ts).bind fun th ts=>.ok (.st 5 [] false .nil c th .nil t.l) ts
   else if isW wOut (t :: r)=true then(pEnded n d r).bind fun x ts=>.ok (.st 6 [] false .nil x .nil .nil t.l) ts
   else if isW wFree (t :: r)=true then(pEnded n d r).bind fun x ts=>.ok (.st 7 [] false .nil x .nil .nil t.l) ts
   else if isW wDrain (t :: r)=true then(mustW [59] r).bind fun _ ts=>.ok (.st 8 [] false .nil .nil .nil .nil t.l) ts
   else if isW wReturn (t :: r)=true then
    if isW [59] r=true then .ok (.st 9 [] false .nil .nil .nil .nil t.l) r.tail
    else(pEnded n d r).bind fun x ts=>.ok (.st 9 [] false .nil x .nil .nil t.l) ts
   else(pPost n d (t :: r)).bind fun x ts=>match x with
    | .nil=>.out
    | .ex k _ nm _ _ _ _ _=>
      if isW [61] ts=true then
        if k=2 then(pEnded n d ts.tail).bind fun y ts=>.ok (.st 2 nm false .nil y .nil .nil t.l) ts
        else if k=5∨k=6 then(pEnded n d ts.tail).bind fun y ts=>.ok (.st 3 [] false x y .nil .nil t.l) ts
        else .bad 4 (lineW ts)
      else if k=4 then(mustW [59] ts).bind fun _ ts=>.ok (.st 10 [] false .nil x .nil .nil t.l) ts
      else .bad 4 (lineW ts)
end
def pParams:Nat→Bool→List Tok→Re (List (List UInt8×Bool))
 | 0,_,_=>.out
 | n+1,first,ts=>
   if isW [41] ts=true then .ok [] ts
   else(if first=true then .ok () ts else mustW [44] ts).bind fun _ ts=>(nameW ts).bind fun nm ts=>
    let p:=isW wPtr ts
    (pParams n false (if p=true then ts.tail else ts)).bind fun l ts=>.ok ((nm,p) :: l) ts
def pFunc (n:Nat)(ts:List Tok):Re Fm:=(mustW wFunc ts).bind fun _ ts1=>(nameW ts1).bind fun nm ts1=>(openW [40] 0 ts1).bind fun _ ts1=>(pParams n true ts1).bind fun ps ts1=>(mustW [41] ts1).bind fun _ ts1=>
 let p:=isW wPtr ts1
 (pBlock n 0 (if p=true then ts1.tail else ts1)).bind fun b ts1=>.ok ⟨nm,ps,p,b,lineW ts⟩ ts1
def pFuncs:Nat→List Tok→Re (List Fm)
 | 0,_=>.out
 | _+1,[]=>.out
 | n+1,t :: r=>if t.k=5 then .ok [] (t :: r) else(pFunc n (t :: r)).bind fun f ts=>(pFuncs n ts).bind fun l ts=>.ok (f :: l) ts
end Go.Abs.YtlkfbfhkcaldlaaGreatDoor
namespace Go.Abs.YtlkfbfhkcaldlaaGreatDoor
def EndOk:List Tok→Prop
 | []=>False
 | t :: r=>if r=[] then t.k=5 else EndOk r
theorem EndOk.tail {t:Tok} {r:List Tok} (h:EndOk (t :: r))(hk:t.k≠5):EndOk r:=by
 unfold EndOk at h
 split at h
 ·exact(hk h).elim
 ·exact h
theorem EndOk.ne {ts:List Tok} (h:EndOk ts):∃t r,ts=t :: r:=by
 cases ts with
 | nil=>exact h.elim
 | cons t r=>exact⟨t,r,rfl⟩
theorem isW_kind {s:List UInt8} {t:Tok} {r:List Tok} (h:isW s (t :: r)=true):t.k≠5:=by
 unfold isW at h
 simp only [Bool.and_eq_true,Bool.or_eq_true,beq_iff_eq] at h
 rcases h.1 with h | h <;> rw [h] <;> decide
theorem isW_tail {s:List UInt8} {ts:List Tok} (he:EndOk ts)(h:isW s ts=true):EndOk ts.tail∧ts.tail.length<ts.length:=by
 obtain⟨t,r,rfl⟩:=he.ne
 exact⟨he.tail (isW_kind h),by simp⟩
def Gd {α:Type} (V:α→Prop)(r:Re α)(L:Nat):Prop:=match r with
 | .ok a ts=>V a∧EndOk ts∧ts.length<L
 | .bad _ _=>True
 | .out=>False
theorem Gd.bind {α β:Type} {V:α→Prop} {U:β→Prop} {r:Re α} {f:α→List Tok→Re β} {L M:Nat} (h:Gd V r L)(hf:∀a ts,V a→EndOk ts→ts.length<L→Gd U (f a ts) M):Gd U (r.bind f) M:=by
 cases r with
 | ok a ts=>exact hf a ts h.1 h.2.1 h.2.2
 | bad c l=>trivial
 | out=>exact h.elim
theorem Gd.mono {α:Type} {V:α→Prop} {r:Re α} {L M:Nat} (h:Gd V r L)(hl:L≤M):Gd V r M:=by
 cases r with
 | ok a ts=>exact⟨h.1,h.2.1,Nat.lt_of_lt_of_le h.2.2 hl⟩
 | bad c l=>trivial
 | out=>exact h.elim
theorem gd_must (s:List UInt8) {ts:List Tok} (he:EndOk ts):Gd (fun _=>True) (mustW s ts) ts.length:=by
 unfold mustW
 split
 ·rename_i h;exact⟨trivial,isW_tail he h⟩
 ·trivial
theorem gd_open (s:List UInt8)(d:Nat) {ts:List Tok} (he:EndOk ts):Gd (fun _=>True) (openW s d ts) ts.length:=by
 unfold openW
 split
 ·trivial
 ·exact gd_must s he
theorem gd_name {ts:List Tok} (he:EndOk ts):Gd (fun _=>True) (nameW ts) ts.length:=by
 obtain⟨t,r,rfl⟩:=he.ne
 unfold nameW
 simp only
 split
 ·rename_i h;exact⟨trivial,he.tail (by rw [h];decide),by simp⟩
 ·trivial
abbrev An {α:Type} :α→Prop:=fun _=>True
def nnT:Tr→Prop
 | .nil=>False
 | _=>True
structure AllE (n:Nat):Prop where
 expr:∀d c ts,EndOk ts→10*ts.length+9≤n→Gd nnT (pExpr n d c ts) ts.length
 loop:∀d c x ts,nnT x→EndOk ts→10*ts.length+9≤n→Gd nnT (pLoop n d c x ts) (ts.length+1)
 un:∀d ts,EndOk ts→10*ts.length+8≤n→Gd nnT (pUn n d ts) ts.length
 post:∀d ts,EndOk ts→10*ts.length+7≤n→Gd nnT (pPost n d ts) ts.length
 postL:∀d x ts,nnT x→EndOk ts→10*ts.length+9≤n→Gd nnT (pPostL n d x ts) (ts.length+1)
 with_:∀d a b ts,EndOk ts→10*ts.length+5≤n→Gd nnT (pWith n d a b ts) ts.length
 cell:∀d ts,EndOk ts→10*ts.length+6≤n→Gd nnT (pCell n d ts) ts.length
 first:∀d ts,EndOk ts→10*ts.length+6≤n→Gd nnT (pFirst n d ts) ts.length
 args:∀d f ts,EndOk ts→10*ts.length+10≤n→Gd An (pArgs n d f ts) (ts.length+1)
theorem allE:∀n,AllE n
 | 0=>⟨fun _ _ _ _ h=>by omega,fun _ _ _ _ _ _ h=>by omega,fun _ _ _ h=>by omega,fun _ _ _ h=>by omega,fun _ _ _ _ _ h=>by omega,fun _ _ _ _ _ h=>by omega,fun _ _ _ h=>by omega,fun _ _ _ h=>by omega,fun _ _ _ _ h=>by omega⟩
 | n+1=>by
   have ih:=allE n
   refine⟨fun d c ts he hn=>?_,fun d c x ts hx he hn=>?_,fun d ts he hn=>?_,fun d ts he hn=>?_,fun d x ts hx he hn=>?_,fun d a b ts he hn=>?_,fun d ts he hn=>?_,fun d ts he hn=>?_,fun d f ts he hn=>?_⟩
   ·unfold pExpr
    exact(ih.un d ts he (by omega)).bind fun x ts' hx he' hl=>(ih.loop d c x ts' hx he' (by omega)).mono (by omega)
   ·obtain⟨t,r,rfl⟩:=he.ne
    unfold pLoop
    simp only [List.length_cons] at hn
    split
    ·rename_i h
     have her:=he.tail (by rw [h.1];decide)
     exact(ih.expr d _ r her (by omega)).bind fun y ts' _ he' hl=>(ih.loop d c (.ex 3 0 [] t.s x y .nil t.l) ts' trivial he' (by omega)).mono (by simp;omega)
    ·exact⟨hx,he,Nat.lt_succ_self _⟩
   ·obtain⟨t,r,rfl⟩:=he.ne
    unfold pUn
    simp only [List.length_cons] at hn
    split
    ·rename_i h
     have her:EndOk r:=by rcases h with h | h <;> exact he.tail (isW_kind h)
     split
     ·trivial
     ·exact(ih.un (d+1) r her (by omega)).bind fun x ts' _ he' hl=>⟨trivial,he',by simp;omega⟩
    ·exact ih.post d _ he (by simp only [List.length_cons];omega)
   ·unfold pPost
    exact(ih.first d ts he (by omega)).bind fun x ts' hx he' hl=>(ih.postL d x ts' hx he' (by omega)).mono (by omega)
   ·obtain⟨t,r,rfl⟩:=he.ne
    unfold pPostL
    simp only [List.length_cons] at hn
    split
    ·rename_i h
     exact(ih.with_ d _ _ _ he (by simp only [List.length_cons];omega)).bind fun y ts' _ he' hl=>(ih.postL d (.ex 5 0 [] [] x y .nil t.l) ts' trivial he' (by simp only [List.length_cons] at hl;omega)).mono (by omega)
    ·split
     ·rename_i h
      have her:=he.tail (isW_kind h)
      exact(ih.cell d r her (by omega)).bind fun y ts' _ he' hl=>(ih.postL d (.ex 6 0 [] [] x y .nil t.l) ts' trivial he' (by omega)).mono (by simp;omega)
     ·exact⟨hx,he,Nat.lt_succ_self _⟩
   ·unfold pWith
    exact(gd_open a d he).bind fun _ ts1 _ he1 hl1=>(ih.expr (d+1) 1 ts1 he1 (by omega)).bind fun x ts2 hx he2 hl2=>(gd_must b he2).bind fun _ ts3 _ he3 hl3=>⟨hx,he3,by omega⟩
   ·obtain⟨t,r,rfl⟩:=he.ne
    unfold pCell
    simp only [List.length_cons] at hn
    split
    ·exact ih.with_ d _ _ _ he (by simp only [List.length_cons];omega)
    ·split
     ·rename_i h;exact⟨trivial,he.tail (by rw [h];decide),by simp⟩
     ·exact(gd_name he).bind fun nm ts1 _ he1 hl1=>⟨trivial,he1,hl1⟩
   ·obtain⟨t,r,rfl⟩:=he.ne
    unfold pFirst
    simp only [List.length_cons] at hn
    split
    ·exact ih.with_ d _ _ _ he (by simp only [List.length_cons];omega)
    ·split
     ·rename_i h
      have her:=he.tail (isW_kind h)
      exact(ih.with_ d _ _ r her (by omega)).bind fun x ts1 _ he1 hl1=>⟨trivial,he1,by simp;omega⟩
     ·split
      ·rename_i h
       have her:=he.tail (isW_kind h)
       exact(gd_open _ d her).bind fun _ ts1 _ he1 hl1=>(gd_must _ he1).bind fun _ ts2 _ he2 hl2=>⟨trivial,he2,by simp;omega⟩
      ·split
       ·rename_i h;exact⟨trivial,he.tail (by rw [h];decide),by simp⟩
       ·refine(gd_name he).bind fun nm ts1 _ he1 hl1=>?_
        simp only [List.length_cons] at hl1
        split
        ·exact(gd_open _ d he1).bind fun _ ts2 _ he2 hl2=>(ih.args (d+1) true ts2 he2 (by omega)).bind fun a ts3 _ he3 hl3=>(gd_must _ he3).bind fun _ ts4 _ he4 hl4=>⟨trivial,he4,by simp;omega⟩
        ·exact⟨trivial,he1,by simp;omega⟩
   ·unfold pArgs
    split
    ·exact⟨trivial,he,Nat.lt_succ_self _⟩
    ·have h1:Gd An (if f=true then Re.ok () ts else mustW [44] ts) (ts.length+1):=by
      split
      ·exact⟨trivial,he,Nat.lt_succ_self _⟩
      ·exact(gd_must _ he).mono (Nat.le_succ _)
     exact h1.bind fun _ ts1 _ he1 hl1=>(ih.expr d 1 ts1 he1 (by omega)).bind fun x ts2 _ he2 hl2=>(ih.args d false ts2 he2 (by omega)).bind fun xs ts3 _ he3 hl3=>⟨trivial,he3,by omega⟩
structure AllS (n:Nat):Prop where
 block:∀d ts,EndOk ts→10*ts.length+10≤n→Gd An (pBlock n d ts) ts.length
 stmts:∀d ts,EndOk ts→10*ts.length+15≤n→Gd An (pStmts n d ts) (ts.length+1)
 branch:∀d l ts,EndOk ts→10*ts.length+12≤n→Gd An (pBranch n d l ts) ts.length
 ended:∀d ts,EndOk ts→10*ts.length+10≤n→Gd An (pEnded n d ts) ts.length
 stmt:∀d ts,EndOk ts→10*ts.length+14≤n→Gd An (pStmt n d ts) ts.length
theorem allS:∀n,AllS n
 | 0=>⟨fun _ _ _ h=>by omega,fun _ _ _ h=>by omega,fun _ _ _ _ h=>by omega,fun _ _ _ h=>by omega,fun _ _ _ h=>by omega⟩
 | n+1=>by
   have ih:=allS n
   have ie:=allE n
   refine⟨fun d ts he hn=>?_,fun d ts he hn=>?_,fun d l ts he hn=>?_,fun d ts he hn=>?_,fun d ts he hn=>?_⟩
   ·unfold pBlock
    exact(gd_open _ d he).bind fun _ ts1 _ he1 hl1=>(ih.stmts (d+1) ts1 he1 (by omega)).bind fun l ts2 _ he2 hl2=>(gd_must _ he2).bind fun _ ts3 _ he3 hl3=>⟨trivial,he3,by omega⟩
   ·unfold pStmts
    split
    ·exact⟨trivial,he,Nat.lt_succ_self _⟩
    ·exact(ih.stmt d ts he (by omega)).bind fun x ts1 _ he1 hl1=>(ih.stmts d ts1 he1 (by omega)).bind fun l ts2 _ he2 hl2=>⟨trivial,he2,by omega⟩
   ·unfold pBranch
    refine(ie.expr d 1 ts he (by omega)).bind fun c ts1 _ he1 hl1=>(ih.block d ts1 he1 (by omega)).bind fun th ts2 _ he2 hl2=>?_
    split
    ·rename_i h
     obtain⟨he3,hl3⟩:=isW_tail he2 h
     split
     ·rename_i h2
      obtain⟨he4,hl4⟩:=isW_tail he3 h2
      exact(ih.branch d _ _ he4 (by omega)).bind fun b ts5 _ he5 hl5=>⟨trivial,he5,by omega⟩
     ·exact(ih.block d _ he3 (by omega)).bind fun b ts5 _ he5 hl5=>⟨trivial,he5,by omega⟩
    ·exact⟨trivial,he2,by omega⟩
   ·unfold pEnded
    exact(ie.expr d 1 ts he (by omega)).bind fun x ts1 _ he1 hl1=>(gd_must _ he1).bind fun _ ts2 _ he2 hl2=>⟨trivial,he2,by omega⟩
   ·obtain⟨t,r,rfl⟩:=he.ne
    unfold pStmt
    simp only [List.length_cons] at hn
    split
    ·rename_i h
     have her:=he.tail (isW_kind h)
     refine(gd_name her).bind fun nm ts1 _ he1 hl1=>?_
     have h2:EndOk (if isW wPtr ts1=true then ts1.tail else ts1)∧(if isW wPtr ts1=true then ts1.tail else ts1).length≤ts1.length:=by
      split
      ·rename_i h2
       obtain⟨a,b⟩:=isW_tail he1 h2
       exact⟨a,by omega⟩
      ·exact⟨he1,Nat.le_refl _⟩
     simp only
     generalize (if isW wPtr ts1=true then ts1.tail else ts1)=ts2 at h2
     split
     ·rename_i h3
      obtain⟨he3,hl3⟩:=isW_tail h2.1 h3
      exact(ih.ended d _ he3 (by omega)).bind fun x ts4 _ he4 hl4=>⟨trivial,he4,by simp;omega⟩
     ·exact(gd_must _ h2.1).bind fun _ ts4 _ he4 hl4=>⟨trivial,he4,by simp;omega⟩
    ·split
     ·rename_i h;exact(ih.branch d _ r (he.tail (isW_kind h)) (by omega)).mono (by simp)
     ·split
      ·rename_i h
       exact(ie.expr d 1 r (he.tail (isW_kind h)) (by omega)).bind fun c ts1 _ he1 hl1=>(ih.block d ts1 he1 (by omega)).bind fun th ts2 _ he2 hl2=>⟨trivial,he2,by simp;omega⟩
      ·split
       ·rename_i h
        exact(ih.ended d r (he.tail (isW_kind h)) (by omega)).bind fun x ts1 _ he1 hl1=>⟨trivial,he1,by simp;omega⟩
       ·split
        ·rename_i h
         exact(ih.ended d r (he.tail (isW_kind h)) (by omega)).bind fun x ts1 _ he1 hl1=>⟨trivial,he1,by simp;omega⟩
        ·split
         ·rename_i h
          exact(gd_must _ (he.tail (isW_kind h))).bind fun _ ts1 _ he1 hl1=>⟨trivial,he1,by simp;omega⟩
         ·split
          ·rename_i h
           have her:=he.tail (isW_kind h)
           split
           ·rename_i h2
            obtain⟨he2,hl2⟩:=isW_tail her h2
            exact⟨trivial,he2,by simp;omega⟩
           ·exact(ih.ended d r her (by omega)).bind fun x ts1 _ he1 hl1=>⟨trivial,he1,by simp;omega⟩
          ·refine(ie.post d _ he (by simp only [List.length_cons];omega)).bind fun x ts1 hx he1 hl1=>?_
           cases x with
           | nil=>exact hx.elim
           | ex k n' nm tx l r' a ln=>
             simp only
             split
             ·rename_i h2
              obtain⟨he2,hl2⟩:=isW_tail he1 h2
              simp only [List.length_cons] at hl1
              split
              ·exact(ih.ended d _ he2 (by omega)).bind fun y ts2 _ he3 hl3=>⟨trivial,he3,by simp;omega⟩
              ·split
               ·exact(ih.ended d _ he2 (by omega)).bind fun y ts2 _ he3 hl3=>⟨trivial,he3,by simp;omega⟩
               ·trivial
             ·split
              ·exact(gd_must _ he1).bind fun _ ts2 _ he2 hl2=>⟨trivial,he2,by omega⟩
              ·trivial
theorem gd_params:∀(n:Nat) (f:Bool) (ts:List Tok),EndOk ts→ts.length+1≤n→Gd An (pParams n f ts) (ts.length+1)
 | 0,_,_,_,h=>by omega
 | n+1,f,ts,he,hn=>by
   unfold pParams
   split
   ·exact⟨trivial,he,Nat.lt_succ_self _⟩
   ·have h1:Gd An (if f=true then Re.ok () ts else mustW [44] ts) (ts.length+1):=by
     split
     ·exact⟨trivial,he,Nat.lt_succ_self _⟩
     ·exact(gd_must _ he).mono (Nat.le_succ _)
    refine h1.bind fun _ ts1 _ he1 hl1=>(gd_name he1).bind fun nm ts2 _ he2 hl2=>?_
    have h2:EndOk (if isW wPtr ts2=true then ts2.tail else ts2)∧(if isW wPtr ts2=true then ts2.tail else ts2).length≤ts2.length:=by
     split
     ·rename_i h2
      obtain⟨a,b⟩:=isW_tail he2 h2
      exact⟨a,by omega⟩
     ·exact⟨he2,Nat.le_refl _⟩
    simp only
    generalize (if isW wPtr ts2=true then ts2.tail else ts2)=ts3 at h2
    exact(gd_params n false ts3 h2.1 (by omega)).bind fun l ts4 _ he4 hl4=>⟨trivial,he4,by omega⟩
theorem gd_func (n:Nat)(ts:List Tok)(he:EndOk ts)(hn:10*ts.length+10≤n):Gd An (pFunc n ts) ts.length:=by
 unfold pFunc
 refine(gd_must _ he).bind fun _ ts1 _ he1 hl1=>(gd_name he1).bind fun nm ts2 _ he2 hl2=>(gd_open _ 0 he2).bind fun _ ts3 _ he3 hl3=>(gd_params n true ts3 he3 (by omega)).bind fun ps ts4 _ he4 hl4=>(gd_must _ he4).bind fun _ ts5 _ he5 hl5=>?_
 have h2:EndOk (if isW wPtr ts5=true then ts5.tail else ts5)∧(if isW wPtr ts5=true then ts5.tail else ts5).length≤ts5.length:=by
  split
  ·rename_i h2
   obtain⟨a,b⟩:=isW_tail he5 h2
   exact⟨a,by omega⟩
  ·exact⟨he5,Nat.le_refl _⟩
 simp only
 generalize (if isW wPtr ts5=true then ts5.tail else ts5)=ts6 at h2
 exact((allS n).block 0 ts6 h2.1 (by omega)).bind fun b ts7 _ he7 hl7=>⟨trivial,he7,by omega⟩
theorem gd_funcs:∀(n:Nat) (ts:List Tok),EndOk ts→10*ts.length+11≤n→Gd An (pFuncs n ts) (ts.length+1)
 | 0,_,_,h=>by omega
 | n+1,ts,he,hn=>by
   obtain⟨t,r,rfl⟩:=he.ne
   unfold pFuncs
   split
   ·exact⟨trivial,he,Nat.lt_succ_self _⟩
   ·simp only [List.length_cons] at hn
    exact(gd_func n _ he (by simp only [List.length_cons];omega)).bind fun f ts1 _ he1 hl1=>(gd_funcs n ts1 he1 (by simp only [List.length_cons] at hl1;omega)).bind fun l ts2 _ he2 hl2=>⟨trivial,he2,by omega⟩
end Go.Abs.YtlkfbfhkcaldlaaGreatDoor
namespace Go.Abs.YtlkfbfhkcaldlaaGreatDoor
def trL:Trs→List Tr
 | .nil=>[]
 | .cons t r=>t :: trL r
def smL:Sms→List Sm
 | .nil=>[]
 | .cons t r=>t :: smL r
mutual
def wT:Tr→Nat
 | .nil=>0
 | .ex _ _ _ _ l r a _=>wT l+wT r+wTs a
def wTs:Trs→Nat
 | .nil=>0
 | .cons t r=>1+wT t+wTs r
end
mutual
def wS:Sm→Nat
 | .st _ _ _ l r th el _=>wT l+wT r+wSs th+wSs el
def wSs:Sms→Nat
 | .nil=>0
 | .cons t r=>1+wS t+wSs r
end
def wF (f:Fm):Nat:=f.params.length+wSs f.body
def wFs:List Fm→Nat
 | []=>0
 | f :: l=>1+wF f+wFs l
theorem trL_len:∀l:Trs,(trL l).length≤wTs l
 | .nil=>Nat.le_refl _
 | .cons t r=>by have:=trL_len r;simp only [trL,wTs,List.length_cons];omega
theorem smL_len:∀l:Sms,(smL l).length≤wSs l
 | .nil=>Nat.le_refl _
 | .cons t r=>by have:=smL_len r;simp only [smL,wSs,List.length_cons];omega
theorem wFs_len:∀l:List Fm,l.length≤wFs l
 | []=>Nat.le_refl _
 | t :: r=>by have:=wFs_len r;simp only [wFs,List.length_cons];omega
theorem trL_w:∀(l:Trs) (i:Nat) (t:Tr),(trL l)[i]? =some t→wT t+1≤wTs l
 | .nil,i,t,h=>by simp [trL] at h
 | .cons a r,0,t,h=>by simp only [trL,List.getElem?_cons_zero,Option.some.injEq] at h;subst h;simp only [wTs];omega
 | .cons a r,i+1,t,h=>by
   simp only [trL,List.getElem?_cons_succ] at h
   have:=trL_w r i t h;simp only [wTs];omega
theorem smL_w:∀(l:Sms) (i:Nat) (t:Sm),(smL l)[i]? =some t→wS t+1≤wSs l
 | .nil,i,t,h=>by simp [smL] at h
 | .cons a r,0,t,h=>by simp only [smL,List.getElem?_cons_zero,Option.some.injEq] at h;subst h;simp only [wSs];omega
 | .cons a r,i+1,t,h=>by
   simp only [smL,List.getElem?_cons_succ] at h
   have:=smL_w r i t h;simp only [wSs];omega
theorem wFs_w:∀(l:List Fm) (i:Nat) (t:Fm),l[i]? =some t→wF t+1≤wFs l
 | [],i,t,h=>by simp at h
 | a :: r,0,t,h=>by simp only [List.getElem?_cons_zero,Option.some.injEq] at h;subst h;simp only [wFs];omega
 | a :: r,i+1,t,h=>by
   simp only [List.getElem?_cons_succ] at h
   have:=wFs_w r i t h;simp only [wFs];omega
def Gw {α:Type} (w:α→Nat)(r:Re α)(L:Nat):Prop:=match r with
 | .ok a ts=>w a+ts.length≤L
 | _=>True
theorem Gw.bind {α β:Type} {w:α→Nat} {u:β→Nat} {r:Re α} {f:α→List Tok→Re β} {L M:Nat} (h:Gw w r L)(hf:∀a ts,w a+ts.length≤L→Gw u (f a ts) M):Gw u (r.bind f) M:=by
 cases r with
 | ok a ts=>exact hf a ts h
 | bad c l=>trivial
 | out=>trivial
theorem Gw.mono {α:Type} {w:α→Nat} {r:Re α} {L M:Nat} (h:Gw w r L)(hl:L≤M):Gw w r M:=by
 cases r with
 | ok a ts=>exact Nat.le_trans h hl
 | bad c l=>trivial
 | out=>trivial
abbrev w1 {α:Type} :α→Nat:=fun _=>1
abbrev w0 {α:Type} :α→Nat:=fun _=>0
theorem isW_len {s:List UInt8} {ts:List Tok} (h:isW s ts=true):ts.tail.length+1=ts.length:=by
 cases ts with
 | nil=>simp [isW] at h
 | cons t r=>rfl
theorem tail_len (ts:List Tok):ts.tail.length≤ts.length:=by cases ts <;> simp
theorem gw_must (s:List UInt8)(ts:List Tok):Gw w1 (mustW s ts) ts.length:=by
 unfold mustW
 split
 ·rename_i h;have:=isW_len h;show 1+_≤_;omega
 ·trivial
theorem gw_open (s:List UInt8)(d:Nat)(ts:List Tok):Gw w1 (openW s d ts) ts.length:=by
 unfold openW
 split
 ·trivial
 ·exact gw_must s ts
theorem gw_name (ts:List Tok):Gw w1 (nameW ts) ts.length:=by
 unfold nameW
 split
 ·split
  ·show 1+_≤_;simp;omega
  ·trivial
 ·trivial
abbrev wT1:Tr→Nat:=fun x=>1+wT x
abbrev wS1:Sm→Nat:=fun x=>1+wS x
abbrev wS1s:Sms→Nat:=fun x=>1+wSs x
structure WtE (n:Nat):Prop where
 expr:∀d c ts,Gw wT1 (pExpr n d c ts) ts.length
 loop:∀d c x ts,Gw wT (pLoop n d c x ts) (wT x+ts.length)
 un:∀d ts,Gw wT1 (pUn n d ts) ts.length
 post:∀d ts,Gw wT1 (pPost n d ts) ts.length
 postL:∀d x ts,Gw wT (pPostL n d x ts) (wT x+ts.length)
 with_:∀d a b ts,Gw wT1 (pWith n d a b ts) ts.length
 cell:∀d ts,Gw wT1 (pCell n d ts) ts.length
 first:∀d ts,Gw wT1 (pFirst n d ts) ts.length
 args:∀d f ts,Gw wTs (pArgs n d f ts) ts.length
theorem wtE:∀n,WtE n
 | 0=>⟨fun _ _ _=>by unfold pExpr;trivial,fun _ _ _ _=>by unfold pLoop;trivial,fun _ _=>by unfold pUn;trivial,fun _ _=>by unfold pPost;trivial,fun _ _ _=>by unfold pPostL;trivial,fun _ _ _ _=>by unfold pWith;trivial,fun _ _=>by unfold pCell;trivial,fun _ _=>by unfold pFirst;trivial,fun _ _ _=>by unfold pArgs;trivial⟩
 | n+1=>by
   have ih:=wtE n
   refine⟨fun d c ts=>?_,fun d c x ts=>?_,fun d ts=>?_,fun d ts=>?_,fun d x ts=>?_,fun d a b ts=>?_,fun d ts=>?_,fun d ts=>?_,fun d f ts=>?_⟩
   ·unfold pExpr
    refine(ih.un d ts).bind fun x ts' hx=>?_
    have:=ih.loop d c x ts'
    cases hr:pLoop n d c x ts' with
    | ok a ts2=>rw [hr] at this;have h:wT a+ts2.length≤wT x+ts'.length:=this;show 1+wT a+ts2.length≤_;simp only [wT1] at hx;omega
    | bad c l=>trivial
    | out=>trivial
   ·cases ts with
    | nil=>unfold pLoop;trivial
    | cons t r=>
      unfold pLoop
      split
      ·refine(ih.expr d _ r).bind fun y ts' hy=>(ih.loop d c (.ex 3 0 [] t.s x y .nil t.l) ts').mono ?_
       simp only [wT1] at hy;simp only [wT,wTs,List.length_cons];omega
      ·exact Nat.le_refl _
   ·cases ts with
    | nil=>unfold pUn;trivial
    | cons t r=>
      unfold pUn
      split
      ·split
       ·trivial
       ·refine(ih.un (d+1) r).bind fun x ts' hx=>?_
        simp only [wT1] at hx;show 1+wT _+_≤_;simp only [wT,wTs,List.length_cons];omega
      ·exact ih.post d _
   ·unfold pPost
    refine(ih.first d ts).bind fun x ts' hx=>?_
    have:=ih.postL d x ts'
    cases hr:pPostL n d x ts' with
    | ok a ts2=>rw [hr] at this;have h:wT a+ts2.length≤wT x+ts'.length:=this;show 1+wT a+ts2.length≤_;simp only [wT1] at hx;omega
    | bad c l=>trivial
    | out=>trivial
   ·cases ts with
    | nil=>unfold pPostL;trivial
    | cons t r=>
      unfold pPostL
      split
      ·refine(ih.with_ d _ _ _).bind fun y ts' hy=>(ih.postL d (.ex 5 0 [] [] x y .nil t.l) ts').mono ?_
       simp only [wT1] at hy;simp only [wT,wTs];omega
      ·split
       ·refine(ih.cell d r).bind fun y ts' hy=>(ih.postL d (.ex 6 0 [] [] x y .nil t.l) ts').mono ?_
        simp only [wT1] at hy;simp only [wT,wTs,List.length_cons];omega
       ·exact Nat.le_refl _
   ·unfold pWith
    refine(gw_open a d ts).bind fun _ ts1 h1=>(ih.expr (d+1) 1 ts1).bind fun x ts2 h2=>(gw_must b ts2).bind fun _ ts3 h3=>?_
    simp only [wT1,w1] at *;show 1+wT x+_≤_;omega
   ·cases ts with
    | nil=>unfold pCell;trivial
    | cons t r=>
      unfold pCell
      split
      ·exact ih.with_ d _ _ _
      ·split
       ·show 1+wT (numT t)+_≤_;simp only [numT,wT,wTs,List.length_cons];omega
       ·refine(gw_name _).bind fun nm ts1 h1=>?_
        simp only [w1] at h1;show 1+wT (nameT nm t.l)+_≤_;simp only [nameT,wT,wTs];omega
   ·cases ts with
    | nil=>unfold pFirst;trivial
    | cons t r=>
      unfold pFirst
      split
      ·exact ih.with_ d _ _ _
      ·split
       ·refine(ih.with_ d _ _ r).bind fun x ts1 h1=>?_
        simp only [wT1] at h1;show 1+wT _+_≤_;simp only [wT,wTs,List.length_cons];omega
       ·split
        ·refine(gw_open _ d r).bind fun _ ts1 h1=>(gw_must _ ts1).bind fun _ ts2 h2=>?_
         simp only [w1] at *;show 1+wT _+_≤_;simp only [wT,wTs,List.length_cons];omega
        ·split
         ·show 1+wT (numT t)+_≤_;simp only [numT,wT,wTs,List.length_cons];omega
         ·refine(gw_name _).bind fun nm ts1 h1=>?_
          simp only [w1] at h1
          split
          ·refine(gw_open _ d ts1).bind fun _ ts2 h2=>(ih.args (d+1) true ts2).bind fun a ts3 h3=>(gw_must _ ts3).bind fun _ ts4 h4=>?_
           simp only [w1] at *;show 1+wT _+_≤_;simp only [wT];omega
          ·show 1+wT (nameT nm t.l)+_≤_;simp only [nameT,wT,wTs];omega
   ·unfold pArgs
    split
    ·show 0+_≤_;omega
    ·have h1:Gw w0 (if f=true then Re.ok () ts else mustW [44] ts) ts.length:=by
      split
      ·show 0+_≤_;omega
      ·have:=gw_must [44] ts
       cases hr:mustW [44] ts with
       | ok a ts2=>rw [hr] at this;have h:1+ts2.length≤ts.length:=this;show 0+_≤_;omega
       | bad c l=>trivial
       | out=>trivial
     refine h1.bind fun _ ts1 h1=>(ih.expr d 1 ts1).bind fun x ts2 h2=>(ih.args d false ts2).bind fun xs ts3 h3=>?_
     simp only [wT1,w0] at *;show wTs _+_≤_;simp only [wTs];omega
structure WtS (n:Nat):Prop where
 block:∀d ts,Gw wS1s (pBlock n d ts) ts.length
 stmts:∀d ts,Gw wSs (pStmts n d ts) ts.length
 branch:∀d l ts,Gw wS1 (pBranch n d l ts) ts.length
 ended:∀d ts,Gw wT1 (pEnded n d ts) ts.length
 stmt:∀d ts,Gw wS1 (pStmt n d ts) ts.length
theorem ptr_len (ts:List Tok):(if isW wPtr ts=true then ts.tail else ts).length≤ts.length:=by
 split
 ·exact tail_len ts
 ·exact Nat.le_refl _
theorem wtS:∀n,WtS n
 | 0=>⟨fun _ _=>by unfold pBlock;trivial,fun _ _=>by unfold pStmts;trivial,fun _ _ _=>by unfold pBranch;trivial,fun _ _=>by unfold pEnded;trivial,fun _ _=>by unfold pStmt;trivial⟩
 | n+1=>by
   have ih:=wtS n
   have ie:=wtE n
   refine⟨fun d ts=>?_,fun d ts=>?_,fun d l ts=>?_,fun d ts=>?_,fun d ts=>?_⟩
   ·unfold pBlock
    refine(gw_open _ d ts).bind fun _ ts1 h1=>(ih.stmts (d+1) ts1).bind fun l ts2 h2=>(gw_must _ ts2).bind fun _ ts3 h3=>?_
    simp only [w1] at *;show 1+wSs l+_≤_;omega
   ·unfold pStmts
    split
    ·show 0+_≤_;omega
    ·refine(ih.stmt d ts).bind fun x ts1 h1=>(ih.stmts d ts1).bind fun l ts2 h2=>?_
     simp only [wS1] at *;show wSs _+_≤_;simp only [wSs];omega
   ·unfold pBranch
    refine(ie.expr d 1 ts).bind fun c ts1 h1=>(ih.block d ts1).bind fun th ts2 h2=>?_
    simp only [wT1,wS1s] at *
    have t1:=tail_len ts2
    have t2:=tail_len ts2.tail
    have t3:=tail_len ts2.tail.tail
    split
    ·split
     ·refine(ih.branch d _ _).bind fun b ts5 h5=>?_
      simp only [wS1] at *;show 1+wS _+_≤_;simp only [wS,wSs,wT];omega
     ·refine(ih.block d _).bind fun b ts5 h5=>?_
      simp only [wS1s] at *;show 1+wS _+_≤_;simp only [wS,wT];omega
    ·show 1+wS _+_≤_;simp only [wS,wSs,wT];omega
   ·unfold pEnded
    refine(ie.expr d 1 ts).bind fun c ts1 h1=>(gw_must _ ts1).bind fun _ ts2 h2=>?_
    simp only [wT1,w1] at *;show 1+wT c+_≤_;omega
   ·cases ts with
    | nil=>unfold pStmt;trivial
    | cons t r=>
      unfold pStmt
      split
      ·refine(gw_name r).bind fun nm ts1 h1=>?_
       have h2:=ptr_len ts1
       simp only [w1] at h1 ⊢
       generalize (if isW wPtr ts1=true then ts1.tail else ts1)=ts2 at h2 ⊢
       have t2:=tail_len ts2
       split
       ·refine(ih.ended d _).bind fun x ts4 h4=>?_
        simp only [wT1] at *;show 1+wS _+_≤_;simp only [wS,wSs,wT,List.length_cons];omega
       ·refine(gw_must _ ts2).bind fun _ ts4 h4=>?_
        simp only [w1] at *;show 1+wS _+_≤_;simp only [wS,wSs,wT,List.length_cons];omega
      ·split
       ·exact(ih.branch d _ r).mono (by simp)
       ·split
        ·refine(ie.expr d 1 r).bind fun c ts1 h1=>(ih.block d ts1).bind fun th ts2 h2=>?_
         simp only [wT1,wS1s] at *;show 1+wS _+_≤_;simp only [wS,wSs,wT,List.length_cons];omega
        ·split
         ·refine(ih.ended d r).bind fun x ts1 h1=>?_
          simp only [wT1] at *;show 1+wS _+_≤_;simp only [wS,wSs,wT,List.length_cons];omega
         ·split
          ·refine(ih.ended d r).bind fun x ts1 h1=>?_
           simp only [wT1] at *;show 1+wS _+_≤_;simp only [wS,wSs,wT,List.length_cons];omega
          ·split
           ·refine(gw_must _ r).bind fun x ts1 h1=>?_
            simp only [w1] at *;show 1+wS _+_≤_;simp only [wS,wSs,wT,List.length_cons];omega
           ·split
            ·split
             ·have:=tail_len r;show 1+wS _+_≤_;simp only [wS,wSs,wT,List.length_cons];omega
             ·refine(ih.ended d r).bind fun x ts1 h1=>?_
              simp only [wT1] at *;show 1+wS _+_≤_;simp only [wS,wSs,wT,List.length_cons];omega
            ·refine(ie.post d _).bind fun x ts1 h1=>?_
             have t1:=tail_len ts1
             cases x with
             | nil=>trivial
             | ex k n' nm tx l r' a ln=>
               simp only [wT1] at h1 ⊢
               split
               ·split
                ·refine(ih.ended d _).bind fun y ts2 h2=>?_
                 simp only [wT1,wT] at *;show 1+wS _+_≤_;simp only [wS,wSs,wT];omega
                ·split
                 ·refine(ih.ended d _).bind fun y ts2 h2=>?_
                  simp only [wT1,wT] at *;show 1+wS _+_≤_;simp only [wS,wSs,wT];omega
                 ·trivial
               ·split
                ·refine(gw_must _ ts1).bind fun _ ts2 h2=>?_
                 simp only [w1,wT] at *;show 1+wS _+_≤_;simp only [wS,wSs,wT];omega
                ·trivial
theorem gw_params:∀(n:Nat) (f:Bool) (ts:List Tok),Gw List.length (pParams n f ts) ts.length
 | 0,_,_=>trivial
 | n+1,f,ts=>by
   unfold pParams
   split
   ·show 0+_≤_;omega
   ·have h1:Gw w0 (if f=true then Re.ok () ts else mustW [44] ts) ts.length:=by
     split
     ·show 0+_≤_;omega
     ·have:=gw_must [44] ts
      cases hr:mustW [44] ts with
      | ok a ts2=>rw [hr] at this;have h:1+ts2.length≤ts.length:=this;show 0+_≤_;omega
      | bad c l=>trivial
      | out=>trivial
    refine h1.bind fun _ ts1 h1=>(gw_name ts1).bind fun nm ts2 h2=>?_
    have h3:=ptr_len ts2
    simp only [w1,w0] at *
    generalize (if isW wPtr ts2=true then ts2.tail else ts2)=ts3 at h3 ⊢
    refine(gw_params n false ts3).bind fun l ts4 h4=>?_
    show (_ :: l).length+_≤_
    simp only [List.length_cons];omega
theorem gw_func (n:Nat)(ts:List Tok):Gw (fun f=>1+wF f) (pFunc n ts) ts.length:=by
 unfold pFunc
 refine(gw_must _ ts).bind fun _ ts1 h1=>(gw_name ts1).bind fun nm ts2 h2=>(gw_open _ 0 ts2).bind fun _ ts3 h3=>(gw_params n true ts3).bind fun ps ts4 h4=>(gw_must _ ts4).bind fun _ ts5 h5=>?_
 have h6:=ptr_len ts5
 simp only [w1] at *
 generalize (if isW wPtr ts5=true then ts5.tail else ts5)=ts6 at h6 ⊢
 refine((wtS n).block 0 ts6).bind fun b ts7 h7=>?_
 simp only [wS1s] at *;show 1+wF _+_≤_;simp only [wF];omega
theorem gw_funcs:∀(n:Nat) (ts:List Tok),Gw wFs (pFuncs n ts) ts.length
 | 0,_=>trivial
 | _+1,[]=>trivial
 | n+1,t :: r=>by
   unfold pFuncs
   split
   ·show 0+_≤_;omega
   ·refine(gw_func n _).bind fun f ts1 h1=>(gw_funcs n ts1).bind fun l ts2 h2=>?_
    show wFs _+_≤_;simp only [wFs];omega
mutual
def sameT:Tr→Tr→Bool
 | .nil,.nil=>true
 | .ex k n nm tx l r al1 _,.ex k' n' nm' tx' l' r' al2 _=>(k == k' && n == n' && nm == nm' && tx == tx') && (sameTs al1 al2 && sameT l l' && sameT r r')
 | _,_=>false
def sameTs:Trs→Trs→Bool
 | .nil,.nil=>true
 | .cons a r,.cons b s=>sameT a b && sameTs r s
 | _,_=>false
end
mutual
def sameS:Sm→Sm→Bool
 | .st k nm p l r th el _,.st k' nm' p' l' r' th' el' _=>(k == k' && nm == nm' && p == p') && (sameT l l' && sameT r r' && sameSs th th' && sameSs el el')
def sameSs:Sms→Sms→Bool
 | .nil,.nil=>true
 | .cons a r,.cons b s=>sameS a b && sameSs r s
 | _,_=>false
end
def sameF (f g:Fm):Bool:=f.name == g.name && f.ptr == g.ptr && f.params == g.params && sameSs f.body g.body
def sameFs:List Fm→List Fm→Bool
 | [],[]=>true
 | a :: r,b :: s=>sameF a b && sameFs r s
 | _,_=>false
theorem sameTs_all:∀(a b:Trs),(trL a).length=(trL b).length→(∀(i:Nat) x y,(trL a)[i]? =some x→(trL b)[i]? =some y→sameT x y=true)→sameTs a b=true
 | .nil,.nil,_,_=>rfl
 | .cons a r,.cons b s,hl,h=>by
   rw [sameTs,h 0 a b rfl rfl,sameTs_all r s (by simpa [trL] using hl) fun i x y hx hy=>h (i+1) x y hx hy];rfl
 | .nil,.cons _ _,h,_=>by simp [trL] at h
 | .cons _ _,.nil,h,_=>by simp [trL] at h
theorem sameTs_len:∀(a b:Trs),(trL a).length≠(trL b).length→sameTs a b=false
 | .nil,.nil,h=>(h rfl).elim
 | .cons a r,.cons b s,h=>by
   rw [sameTs,sameTs_len r s (by simpa [trL] using h)];simp
 | .nil,.cons _ _,_=>rfl
 | .cons _ _,.nil,_=>rfl
theorem sameTs_one:∀(a b:Trs) (i:Nat) (x y:Tr),(trL a)[i]? =some x→(trL b)[i]? =some y→sameT x y=false→sameTs a b=false
 | .nil,.nil,i,x,y,h,_,_=>by simp [trL] at h
 | .cons a r,.cons b s,0,x,y,hx,hy,h=>by
   simp only [trL,List.getElem?_cons_zero,Option.some.injEq] at hx hy;subst hx;subst hy
   rw [sameTs,h];rfl
 | .cons a r,.cons b s,i+1,x,y,hx,hy,h=>by
   rw [sameTs,sameTs_one r s i x y hx hy h];simp
 | .nil,.cons _ _,i,x,y,h,_,_=>by simp [trL] at h
 | .cons _ _,.nil,i,x,y,_,h,_=>by simp [trL] at h
theorem sameSs_all:∀(a b:Sms),(smL a).length=(smL b).length→(∀(i:Nat) x y,(smL a)[i]? =some x→(smL b)[i]? =some y→sameS x y=true)→sameSs a b=true
 | .nil,.nil,_,_=>rfl
 | .cons a r,.cons b s,hl,h=>by
   rw [sameSs,h 0 a b rfl rfl,sameSs_all r s (by simpa [smL] using hl) fun i x y hx hy=>h (i+1) x y hx hy];rfl
 | .nil,.cons _ _,h,_=>by simp [smL] at h
 | .cons _ _,.nil,h,_=>by simp [smL] at h
theorem sameSs_len:∀(a b:Sms),(smL a).length≠(smL b).length→sameSs a b=false
 | .nil,.nil,h=>(h rfl).elim
 | .cons a r,.cons b s,h=>by
   rw [sameSs,sameSs_len r s (by simpa [smL] using h)];simp
 | .nil,.cons _ _,_=>rfl
 | .cons _ _,.nil,_=>rfl
theorem sameSs_one:∀(a b:Sms) (i:Nat) (x y:Sm),(smL a)[i]? =some x→(smL b)[i]? =some y→sameS x y=false→sameSs a b=false
 | .nil,.nil,i,x,y,h,_,_=>by simp [smL] at h
 | .cons a r,.cons b s,0,x,y,hx,hy,h=>by
   simp only [smL,List.getElem?_cons_zero,Option.some.injEq] at hx hy;subst hx;subst hy
   rw [sameSs,h];rfl
 | .cons a r,.cons b s,i+1,x,y,hx,hy,h=>by
   rw [sameSs,sameSs_one r s i x y hx hy h];simp
 | .nil,.cons _ _,i,x,y,h,_,_=>by simp [smL] at h
 | .cons _ _,.nil,i,x,y,_,h,_=>by simp [smL] at h
theorem sameFs_all:∀(a b:List Fm),a.length=b.length→(∀(i:Nat) x y,a[i]? =some x→b[i]? =some y→sameF x y=true)→sameFs a b=true
 | [],[],_,_=>rfl
 | a :: r,b :: s,hl,h=>by
   rw [sameFs,h 0 a b rfl rfl,sameFs_all r s (by simpa using hl) fun i x y hx hy=>h (i+1) x y hx hy];rfl
 | [],_ :: _,h,_=>by simp at h
 | _ :: _,[],h,_=>by simp at h
theorem sameFs_len:∀(a b:List Fm),a.length≠b.length→sameFs a b=false
 | [],[],h=>(h rfl).elim
 | a :: r,b :: s,h=>by
   rw [sameFs,sameFs_len r s (by simpa using h)];simp
 | [],_ :: _,_=>rfl
 | _ :: _,[],_=>rfl
theorem sameFs_one:∀(a b:List Fm) (i:Nat) (x y:Fm),a[i]? =some x→b[i]? =some y→sameF x y=false→sameFs a b=false
 | [],[],i,x,y,h,_,_=>by simp at h
 | a :: r,b :: s,0,x,y,hx,hy,h=>by
   simp only [List.getElem?_cons_zero,Option.some.injEq] at hx hy;subst hx;subst hy
   rw [sameFs,h];rfl
 | a :: r,b :: s,i+1,x,y,hx,hy,h=>by
   rw [sameFs,sameFs_one r s i x y hx hy h];simp
 | [],_ :: _,i,x,y,h,_,_=>by simp at h
 | _ :: _,[],i,x,y,_,h,_=>by simp at h
end Go.Abs.YtlkfbfhkcaldlaaGreatDoor
namespace Go.Abs.YtlkfbfhkcaldlaaGreatDoor
open Go.Proofs
set_option maxRecDepth 4000
mutual
def bC (S:Nat→Prop)(σ:St)(v:AV):Tr→Prop
 | .nil=>v= .p0
 | .ex k n name text l r args line=>∃(o g:Nat) (L R A:AV),S o∧v= .p o g 0∧σ[o]? =some ⟨g,false,.cells 48 [.i .i64 k,.i .u32 n,.s name,.s text,L,R,A,.i .i64 line]⟩∧bC S σ L l∧bC S σ R r∧gK S σ A args
def gK (S:Nat→Prop)(σ:St)(v:AV):Trs→Prop
 | .nil=>v= .sl0
 | .cons t r=>∃(o g:Nat) (cs:List AV),S o∧v= .sl o g 0 cs.length 1∧σ[o]? =some ⟨g,false,.cells 44 cs⟩∧∃a tl,cs=a :: tl∧bC S σ a t∧nP S σ tl r
def nP (S:Nat→Prop)(σ:St)(cs:List AV):Trs→Prop
 | .nil=>cs=[]
 | .cons t r=>∃a tl,cs=a :: tl∧bC S σ a t∧nP S σ tl r
end
mutual
theorem bC.mono {S S':Nat→Prop} {σ σ':St} (h1:∀o,S o→S' o)(h2:∀o,S o→∀a,σ[o]? =some a→σ'[o]? =some a):∀{t:Tr} {v:AV},bC S σ v t→bC S' σ' v t
 | .nil,v,h=>h
 | .ex k n name text l r args line,v,h=>by
   obtain⟨o,g,L,R,A,hs,hv,ho,hl,hr,ha⟩:=h
   exact⟨o,g,L,R,A,h1 o hs,hv,h2 o hs _ ho,bC.mono h1 h2 hl,bC.mono h1 h2 hr,gK.mono h1 h2 ha⟩
theorem gK.mono {S S':Nat→Prop} {σ σ':St} (h1:∀o,S o→S' o)(h2:∀o,S o→∀a,σ[o]? =some a→σ'[o]? =some a):∀{t:Trs} {v:AV},gK S σ v t→gK S' σ' v t
 | .nil,v,h=>h
 | .cons t r,v,h=>by
   obtain⟨o,g,cs,hs,hv,ho,a,tl,hc,hx,hl⟩:=h
   exact⟨o,g,cs,h1 o hs,hv,h2 o hs _ ho,a,tl,hc,bC.mono h1 h2 hx,nP.mono h1 h2 hl⟩
theorem nP.mono {S S':Nat→Prop} {σ σ':St} (h1:∀o,S o→S' o)(h2:∀o,S o→∀a,σ[o]? =some a→σ'[o]? =some a):∀{t:Trs} {cs:List AV},nP S σ cs t→nP S' σ' cs t
 | .nil,cs,h=>h
 | .cons t r,cs,h=>by
   obtain⟨a,tl,hc,h3,h4⟩:=h
   exact⟨a,tl,hc,bC.mono h1 h2 h3,nP.mono h1 h2 h4⟩
end
mutual
theorem bC.below {S:Nat→Prop} {σ:St} :∀{t:Tr} {v:AV},bC S σ v t→bC (fun o=>S o∧o<σ.length) σ v t
 | .nil,v,h=>h
 | .ex k n name text l r args line,v,h=>by
   obtain⟨o,g,L,R,A,hs,hv,ho,hl,hr,ha⟩:=h
   exact⟨o,g,L,R,A,⟨hs,bn ho⟩,hv,ho,bC.below hl,bC.below hr,gK.below ha⟩
theorem gK.below {S:Nat→Prop} {σ:St} :∀{t:Trs} {v:AV},gK S σ v t→gK (fun o=>S o∧o<σ.length) σ v t
 | .nil,v,h=>h
 | .cons t r,v,h=>by
   obtain⟨o,g,cs,hs,hv,ho,a,tl,hc,hx,hl⟩:=h
   exact⟨o,g,cs,⟨hs,bn ho⟩,hv,ho,a,tl,hc,bC.below hx,nP.below hl⟩
theorem nP.below {S:Nat→Prop} {σ:St} :∀{t:Trs} {cs:List AV},nP S σ cs t→nP (fun o=>S o∧o<σ.length) σ cs t
 | .nil,cs,h=>h
 | .cons t r,cs,h=>by
   obtain⟨a,tl,hc,h3,h4⟩:=h
   exact⟨a,tl,hc,bC.below h3,nP.below h4⟩
end
structure aO (p:Nat)(σ σ':St):Prop where
 len:σ.length≤σ'.length
 old:∀i,i<σ.length→i≠p→σ'[i]? =σ[i]?
theorem aO.refl (p:Nat)(σ:St):aO p σ σ:=⟨Nat.le_refl _,fun _ _ _=>rfl⟩
theorem aO.trans {p:Nat} {a b c:St} (h:aO p a b)(k:aO p b c):aO p a c:=
 ⟨Nat.le_trans h.len k.len,fun i hi hp=>by rw [k.old i (Nat.lt_of_lt_of_le hi h.len) hp,h.old i hi hp]⟩
theorem aO.of {p:Nat} {a b:St} (h:Ext a b):aO p a b:=⟨h.len,fun i hi _=>h.old i hi⟩
theorem aO.new {p:Nat} {a b:St} (h:aO p a b)(e:Nat)(cs:List AV):aO p a (au e cs b):=h.trans (.of ((Ext.refl b).new e cs))
theorem aO.tV {p:Nat} {a b:St} (h:aO p a b)(x:AO):aO p a (b.set p x):=
 ⟨by rw [List.length_set];exact h.len,fun i hi hp=>by rw [List.getElem?_set_ne (fun e=>hp e.symm)];exact h.old i hi hp⟩
theorem aO.set {p:Nat} {a b:St} (h:aO p a b) {o:Nat} (ho:a.length≤o)(x:AO):aO p a (b.set o x):=
 ⟨by rw [List.length_set];exact h.len,fun i hi hp=>by rw [List.getElem?_set_ne (fun e=>by omega)];exact h.old i hi hp⟩
theorem aO.get {p:Nat} {σ σ':St} (h:aO p σ σ') {o:Nat} {a:AO} (hp:o≠p)(ho:σ[o]? =some a):σ'[o]? =some a:=by rw [h.old o (bn ho) hp];exact ho
theorem aO.take {p:Nat} {σ σ':St} (h:aO p σ σ') {n:Nat} (hp:n≤p)(hn:n≤σ.length):σ'.take n=σ.take n:=by
 apply List.ext_getElem?
 intro i
 rw [List.getElem?_take,List.getElem?_take]
 split
 ·exact h.old i (by omega) (by omega)
 ·rfl
end Go.Abs.YtlkfbfhkcaldlaaGreatDoor
namespace Go.Abs.YtlkfbfhkcaldlaaGreatDoor
open Go.Proofs
set_option maxRecDepth 4000
def Z5 (w g n m d:Nat)(b:Bool)(c l:Nat):List AV:=[.sl w g 0 n 3,.i .i64 m,.i .i64 d,.b b,.i .i64 c,.i .i64 l]
structure PO (p w g:Nat)(all:List Tok)(σ:St)(m d:Nat)(b:Bool)(c l:Nat):Prop where
 obj:σ[p]? =some ⟨0,false,.cells 57 (Z5 w g all.length m d b c l)⟩
 tok:σ[w]? =some ⟨g,false,.cells 62 (dI all)⟩
 ne:w≠p
 len:all.length≤40000
 at_:m<all.length
 dp:d≤1000
theorem yu:∀(all:List Tok) (m:Nat) (t:Tok),all[m]? =some t→((dI all).drop (m*3)).take 3=nO t.k t.s t.l
 | x :: l,0,t,h=>by cases h;simp [dI,nO]
 | x :: l,m+1,t,h=>by
   have e:dI (x :: l)=nO x.k x.s x.l ++ dI l:=rfl
   rw [e,show (m+1)*3=3+m*3 by omega,←List.drop_drop,List.drop_left' (by rfl)]
   exact yu l m t h
def fB (s:List UInt8)(t:Tok):Bool:=(t.k == 4 || t.k == 3) && t.s == s
def Z7 (p w g n:Nat)(σ:St)(m d:Nat)(b:Bool)(c l:Nat):St:=σ.set p ⟨0,false,.cells 57 (Z5 w g n m d b c l)⟩
theorem PO.set {p w g m d:Nat} {b:Bool} {c l:Nat} {all:List Tok} {σ:St} (h:PO p w g all σ m d b c l) {m' d':Nat} {b':Bool} {c' l':Nat} (hm:m'< all.length)(hd:d'≤1000):PO p w g all (Z7 p w g all.length σ m' d' b' c' l') m' d' b' c' l':=
 ⟨at_set h.obj _,aN h.tok h.ne.symm _,h.ne,h.len,hm,hd⟩
end Go.Abs.YtlkfbfhkcaldlaaGreatDoor
namespace Go.Abs.YtlkfbfhkcaldlaaGreatDoor
open Go.Proofs
set_option maxRecDepth 4000
theorem rH {σ σ':St} {v:AV} {Q:AV→St→Prop} {p:Nat} {a b:AO} (ho:σ[p]? =some a)(ho':σ'[p]? =some b)(hab:a≠b)(q:Q v σ'):Fin σ v σ' Q:=Fin.ne (fun e=>by
 have h:=congrArg (fun l=>l[p]?) e
 simp only [List.getElem?_take,if_pos (bn ho),ho,ho'] at h
 exact hab (Option.some.inj h).symm) q
theorem IC:∀(s:List UInt8) (n:Nat),n≤numP n s
 | [],n=>Nat.le_refl _
 | c :: s,n=>Nat.le_trans (show n≤10*n+(c.toNat - 48) by omega) (IC s _)
end Go.Abs.YtlkfbfhkcaldlaaGreatDoor
namespace Go.Abs.YtlkfbfhkcaldlaaGreatDoor
open Go.Proofs
set_option maxRecDepth 4000
theorem PO.new {p w g m d c l:Nat} {b:Bool} {all:List Tok} {σ:St} (h:PO p w g all σ m d b c l)(e:Nat)(cs:List AV):PO p w g all (au e cs σ) m d b c l:=⟨at_new h.obj _ _,at_new h.tok _ _,h.ne,h.len,h.at_,h.dp⟩
theorem PO.ext {p w g n m d c l:Nat} {b:Bool} {σ:St} :aO p σ (Z7 p w g n σ m d b c l):=(aO.refl p σ).tV _
end Go.Abs.YtlkfbfhkcaldlaaGreatDoor
namespace Go.Abs.YtlkfbfhkcaldlaaGreatDoor
open Go.Proofs
set_option maxRecDepth 4000
def PE (p w g:Nat)(all:List Tok)(σ:St)(d:Nat)(Q:AV→St→Prop):Re Tr→Prop
 | .ok t ts=>∀o g' σ' m' c l,aO p σ σ'→PO p w g all σ' m' d false c l→all.drop m'= ts→bC (fun i=>σ.length≤i) σ' (.p o g' 0) t→Q (.p o g' 0) σ'
 | .bad c l=>∀o g' σ' m',aO p σ σ'→PO p w g all σ' m' d true c l→Q (.p o g' 0) σ'
 | .out=>True
theorem bJ {all:List Tok} {m:Nat} {t:Tok} {r:List Tok} (h:all.drop m=t :: r):all[m]? =some t∧all.drop (m+1)=r:=by
 constructor
 ·have:=congrArg List.head? h
  rw [List.head?_drop] at this;exact this
 ·rw [←List.tail_drop,h];rfl
theorem nR {all:List Tok} {m:Nat} (h:EndOk (all.drop m)):m<all.length:=by
 rcases Nat.lt_or_ge m all.length with hl | hl
 ·exact hl
 ·rw [List.drop_of_length_le hl] at h;exact h.elim
def PL (k j:Nat)(p w g:Nat)(all:List Tok)(B:Nat)(σ:St)(d:Nat)(Q:Out→Env→St→Prop):Re Tr→Prop
 | .ok t ts=>∀o g' σ' m' c l e',get e' k= .p o g' 0→aO p σ σ'→PO p w g all σ' m' d false c l→all.drop m'= ts→bC (fun i=>B≤i) σ' (.p o g' 0) t→Q .ret e' σ'
 | .bad c l=>∀o g' σ' m' e',get e' j= .p o g' 0→get e' 1000000= .u→aO p σ σ'→PO p w g all σ' m' d true c l→Q (.exit 0) e' σ'
 | .out=>True
section
variable {p w g:Nat} {all:List Tok} {n:Nat}
theorem aU {s:List UInt8} {m:Nat} {t:Tok} {r:List Tok} (he:EndOk (all.drop m))(hts:all.drop m=t :: r)(hi:fB s t=true):m+1<all.length∧EndOk (all.drop (m+1))∧(all.drop (m+1)).length<(all.drop m).length:=by
 have h1:=isW_tail (s:=s) he (by rw [hts];exact hi)
 rw [hts] at h1
 have e:all.drop (m+1)=r:=(bJ hts).2
 have h2:EndOk (all.drop (m+1)):=by rw [e];exact h1.1
 exact⟨nR h2,h2,by rw [e,hts];simp⟩
end
end Go.Abs.YtlkfbfhkcaldlaaGreatDoor
namespace Go.Abs.YtlkfbfhkcaldlaaGreatDoor
open Go.Proofs
set_option maxRecDepth 4000
theorem PE.to {p w g d:Nat} {all:List Tok} {σ σ1:St} {Q Q':AV→St→Prop} {r:Re Tr} (hQ:PE p w g all σ d Q r)(x1:aO p σ σ1)(k:∀o g' s,Q (.p o g' 0) s→Q' (.p o g' 0) s):PE p w g all σ1 d Q' r:=by
 cases r with
 | out=>trivial
 | bad c l=>exact fun o g' σ2 m2 x2 h2=>k _ _ _ (hQ o g' σ2 m2 (x1.trans x2) h2)
 | ok x ts=>exact fun o g' σ2 m2 c2 l2 x2 h2 hm hex=>k _ _ _ (hQ o g' σ2 m2 c2 l2 (x1.trans x2) h2 hm (bC.mono (fun i hi=>Nat.le_trans x1.len hi) (fun i hi a ha=>ha) hex))
def yw (all:List Tok):Prop:=∀z∈all,z.k=2→(∀c∈z.s,48≤c.toNat∧c.toNat≤57)∧numP 0 z.s<4294967296∧z.s.length≤100000
section
variable {p w g:Nat} {all:List Tok} {n:Nat}
end
end Go.Abs.YtlkfbfhkcaldlaaGreatDoor
namespace Go.Abs.YtlkfbfhkcaldlaaGreatDoor
open Go.Proofs
set_option maxRecDepth 4000
section
variable {p w g:Nat} {all:List Tok} {n:Nat}
theorem PL.ext {k j B d:Nat} {σ σ1:St} {Q:Out→Env→St→Prop} {r:Re Tr} (hQ:PL k j p w g all B σ d Q r)(x1:aO p σ σ1):PL k j p w g all B σ1 d Q r:=by
 cases r with
 | out=>trivial
 | bad c l=>exact fun o g' σ2 m2 e' q1 q2 x2 h2=>hQ o g' σ2 m2 e' q1 q2 (x1.trans x2) h2
 | ok x ts=>exact fun o g' σ2 m2 c2 l2 e' q1 x2 h2 hm hex=>hQ o g' σ2 m2 c2 l2 e' q1 (x1.trans x2) h2 hm hex
theorem bC.ext {B:Nat} {σ σ1:St} {v:AV} {x:Tr} (h:bC (fun i=>B≤i) σ v x)(x1:aO p σ σ1)(hp:p<B):bC (fun i=>B≤i) σ1 v x:=bC.mono (fun i hi=>hi) (fun i hi a ha=>x1.get (by omega) ha) h
theorem PE.UN {k j d:Nat} {σ σ1:St} {Q:AV→St→Prop} {Q':Out→Env→St→Prop} {r:Re Tr} (hQ:PE p w g all σ d Q r)(x1:aO p σ σ1)(kr:∀o g' s e',get e' k= .p o g' 0→Q (.p o g' 0) s→Q' .ret e' s)
 (kx:∀o g' s e',get e' j= .p o g' 0→get e' 1000000= .u→Q (.p o g' 0) s→Q' (.exit 0) e' s):PL k j p w g all σ.length σ1 d Q' r:=by
 cases r with
 | out=>trivial
 | bad c l=>exact fun o g' σ2 m2 e' q1 q2 x2 h2=>kx _ _ _ _ q1 q2 (hQ o g' σ2 m2 (x1.trans x2) h2)
 | ok x ts=>exact fun o g' σ2 m2 c2 l2 e' q1 x2 h2 hm hex=>kr _ _ _ _ q1 (hQ o g' σ2 m2 c2 l2 (x1.trans x2) h2 hm hex)
end
end Go.Abs.YtlkfbfhkcaldlaaGreatDoor
namespace Go.Abs.YtlkfbfhkcaldlaaGreatDoor
open Go.Proofs
set_option maxRecDepth 4000
theorem Am (s:List UInt8):bindsP s≤6:=by
 unfold bindsP
 repeat' split
 all_goals omega
section
variable {p w g:Nat} {all:List Tok} {n:Nat}
end
end Go.Abs.YtlkfbfhkcaldlaaGreatDoor
namespace Go.Abs.YtlkfbfhkcaldlaaGreatDoor
open Go.Proofs
set_option maxRecDepth 4000
def Aq (B:Nat)(σ:St)(v:AV)(cs:List AV):Prop:=(cs=[]∧v= .sl0)∨∃o g,B≤o∧v= .sl o g 0 cs.length 1∧σ[o]? =some ⟨g,false,.cells 44 cs⟩∧cs≠[]
def apart (v:AV)(i:Nat):Prop:=∀o g n z,v= .sl o g 0 n z→i≠o
theorem Q8 {B:Nat} {σ:St} {v:AV} {cs:List AV} (h:Aq B σ v cs) {oy gy:Nat} (hcs:cs.all AV.one=true)(hl:cs.length≤100000) {C:Nat} (hC:σ[C]? =some ⟨0,false,.cells 44 [.p oy gy 0]⟩)(hB:B≤σ.length) {Q:AV→St→Prop}
 (q:∀v' σ',Aq B σ' v' (cs ++ [.p oy gy 0])→σ.length≤σ'.length→(∀i,i<σ.length→apart v i→σ'[i]? =σ[i]?∧apart v' i)→(∀i,i<B→σ'[i]? =σ[i]?)→(∀i,σ'.length≤i→apart v' i)→Q v' σ') :
 xM D7.get false 46 v (.sl C 0 0 1 1) σ Q:=by
 constructor
 refine ak (v:=nJ) rfl ?_
 refine ak (v:=aV) rfl ?_
 refine ak (iC hC (Nat.le_of_ble_eq_true rfl)) ?_
 rcases h with ⟨rfl,rfl⟩ | ⟨o,g,h1,rfl,h3,_⟩
 ·refine⟨Nat.le_of_ble_eq_true rfl,?_⟩
  refine q _ _ (.inr ⟨σ.length,0,hB,rfl,?_,by simp⟩) (by rw [aI];omega) (fun i hi _=>⟨dB hi,fun o g n z e=>by cases e;omega⟩) (fun i hi=>dB (by omega)) (fun i hi o g n z e=>by cases e;rw [aI] at hi;omega)
  rw [aH];rfl
 ·refine ak (jV h3) ?_
  refine⟨rfl,by simp,?_,by rw [List.drop_zero,List.take_of_length_le (by omega)];exact hcs,?_⟩
  ·show (cs.length+1)*8≤_;omega
  refine q _ _ (.inr ⟨o,g+1,h1,by simp,?_,by simp⟩) (by rw [List.length_set];exact Nat.le_refl _) (fun i hi ha=>⟨by rw [List.getElem?_set_ne (fun e=>ha o g _ _ rfl e.symm)],fun o' g' n z e=>by cases e;exact ha o g _ _ rfl⟩) (fun i hi=>by rw [List.getElem?_set_ne (by omega)]) (fun i hi o' g' n z e=>by cases e;rw [List.length_set] at hi;have:=bn h3;omega)
  rw [at_set h3]
  simp [List.take_of_length_le]
  rfl
def dR (S:Nat→Prop)(σ:St):List AV→List Tr→Prop
 | [],[]=>True
 | a :: cs,x :: xs=>(∃o g,a= .p o g 0)∧bC S σ a x∧dR S σ cs xs
 | _,_=>False
theorem dR.mono {S S':Nat→Prop} {σ σ':St} (h1:∀o,S o→S' o)(h2:∀o,S o→∀a,σ[o]? =some a→σ'[o]? =some a):∀{cs:List AV} {xs:List Tr},dR S σ cs xs→dR S' σ' cs xs
 | [],[],_=>trivial
 | a :: cs,x :: xs,h=>⟨h.1,bC.mono h1 h2 h.2.1,dR.mono h1 h2 h.2.2⟩
theorem dR.snoc {S:Nat→Prop} {σ:St} :∀{cs:List AV} {xs:List Tr} {a:AV} {x:Tr},dR S σ cs xs→(∃o g,a= .p o g 0)→bC S σ a x→dR S σ (cs ++ [a]) (xs ++ [x])
 | [],[],a,x,_,ha,hx=>⟨ha,hx,trivial⟩
 | b :: cs,y :: xs,a,x,h,ha,hx=>⟨h.1,h.2.1,dR.snoc h.2.2 ha hx⟩
theorem dR.len {S:Nat→Prop} {σ:St} :∀{cs:List AV} {xs:List Tr},dR S σ cs xs→cs.length=xs.length
 | [],[],_=>rfl
 | a :: cs,x :: xs,h=>by have:=dR.len h.2.2;simp [this]
theorem dR.one {S:Nat→Prop} {σ:St} :∀{cs:List AV} {xs:List Tr},dR S σ cs xs→cs.all AV.one=true
 | [],[],_=>rfl
 | a :: cs,x :: xs,h=>by
   obtain⟨o,g,rfl⟩:=h.1
   rw [List.all_cons,dR.one h.2.2];rfl
def Ew:List Tr→Trs
 | []=>.nil
 | x :: xs=>.cons x (Ew xs)
def uQ:Trs→List Tr
 | .nil=>[]
 | .cons x xs=>x :: uQ xs
theorem Tf:∀xs:Trs,Ew (uQ xs)=xs
 | .nil=>rfl
 | .cons x xs=>by show Trs.cons x (Ew (uQ xs))=_;rw [Tf xs]
theorem dR.Z8 {S:Nat→Prop} {σ:St} :∀{cs:List AV} {xs:List Tr},dR S σ cs xs→nP S σ cs (Ew xs)
 | [],[],_=>rfl
 | a :: cs,x :: xs,h=>⟨a,cs,rfl,h.2.1,dR.Z8 h.2.2⟩
def lH (B:Nat)(σ:St)(v:AV)(xs:List Tr):Prop:=∃cs,Aq B σ v cs∧dR (fun i=>B≤i∧apart v i) σ cs xs
theorem lH.arg {B:Nat} {σ:St} {v:AV} {xs:List Tr} (h:lH B σ v xs):gK (fun i=>B≤i) σ v (Ew xs):=by
 obtain⟨cs,h1,h2'⟩:=h
 have h2:dR (fun i=>B≤i) σ cs xs:=h2'.mono (fun i hi=>hi.1) (fun i hi a ha=>ha)
 rcases h1 with ⟨rfl,rfl⟩ | ⟨o,g,q1,rfl,q3,q4⟩
 ·cases xs with
  | nil=>rfl
  | cons _ _=>exact h2.elim
 ·cases cs with
  | nil=>
    cases xs with
    | nil=>exact(q4 rfl).elim
    | cons _ _=>exact h2.elim
  | cons a cs=>
    cases xs with
    | nil=>exact h2.elim
    | cons x xs=>exact⟨o,g,a :: cs,q1,rfl,q3,a,cs,rfl,h2.2.1,h2.2.2.Z8⟩
end Go.Abs.YtlkfbfhkcaldlaaGreatDoor
namespace Go.Abs.YtlkfbfhkcaldlaaGreatDoor
open Go.Proofs
set_option maxRecDepth 4000
structure yV (p B:Nat)(σ σ':St):Prop where
 len:σ.length≤σ'.length
 old:∀i,i<B→i≠p→σ'[i]? =σ[i]?
theorem yV.refl (p B:Nat)(σ:St):yV p B σ σ:=⟨Nat.le_refl _,fun _ _ _=>rfl⟩
theorem yV.trans {p B:Nat} {a b c:St} (h:yV p B a b)(k:yV p B b c):yV p B a c:=⟨Nat.le_trans h.len k.len,fun i hi hp=>by rw [k.old i hi hp,h.old i hi hp]⟩
theorem yV.of {p B:Nat} {a b:St} (h:aO p a b)(hB:B≤a.length):yV p B a b:=⟨h.len,fun i hi hp=>h.old i (by omega) hp⟩
def CS (v:AV):Prop:=v= .sl0∨∃o g n,v= .sl o g 0 n 1
section
variable {p w g:Nat} {all:List Tok} {n:Nat}
theorem Aq.sl {B:Nat} {σ:St} {v:AV} {cs:List AV} (h:Aq B σ v cs):CS v:=by
 rcases h with ⟨_,rfl⟩ | ⟨o,g,_,rfl,_⟩
 ·exact .inl rfl
 ·exact .inr ⟨_,_,_,rfl⟩
theorem PO.keep {m d c l:Nat} {b:Bool} {σ σ':St} (h:PO p w g all σ m d b c l)(h1:σ'[p]? =σ[p]?)(h2:σ'[w]? =σ[w]?):PO p w g all σ' m d b c l:=⟨h1.trans h.obj,h2.trans h.tok,h.ne,h.len,h.at_,h.dp⟩
theorem dR.below {S:Nat→Prop} {σ:St} :∀{cs:List AV} {xs:List Tr},dR S σ cs xs→dR (fun o=>S o∧o<σ.length) σ cs xs
 | [],[],_=>trivial
 | a :: cs,x :: xs,h=>⟨h.1,h.2.1.below,h.2.2.below⟩
end
end Go.Abs.YtlkfbfhkcaldlaaGreatDoor
namespace Go.Abs.YtlkfbfhkcaldlaaGreatDoor
open Go.Proofs
set_option maxRecDepth 4000
section
variable {p w g:Nat} {all:List Tok} {n:Nat}
end
end Go.Abs.YtlkfbfhkcaldlaaGreatDoor
namespace Go.Abs.YtlkfbfhkcaldlaaGreatDoor
open Go.Proofs
end Go.Abs.YtlkfbfhkcaldlaaGreatDoor
namespace Go.Abs.YtlkfbfhkcaldlaaGreatDoor
open Go.Proofs
set_option maxRecDepth 4000
section
variable {p w g:Nat} {all:List Tok} {n:Nat}
end
end Go.Abs.YtlkfbfhkcaldlaaGreatDoor
