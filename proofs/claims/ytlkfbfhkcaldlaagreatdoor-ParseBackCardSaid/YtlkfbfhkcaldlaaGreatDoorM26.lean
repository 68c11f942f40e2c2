/- Texts of this claim, joined: Va, Vb, Vc, Vd. -/
import Derived.Test.YtlkfbfhkcaldlaaGreatDoorM20
import Derived.Test.YtlkfbfhkcaldlaaGreatDoorM18
import Derived.Test.YtlkfbfhkcaldlaaGreatDoorM25
import Derived.Lib.ItoaNum
set_option linter.unusedVariables false
set_option linter.unusedSimpArgs false
namespace Go.Abs.YtlkfbfhkcaldlaaGreatDoor
set_option maxRecDepth 4000
def isNN:Tr→Bool
 | .ex k _ _ _ _ _ _ _=>k == 1 || k == 2
 | .nil=>false
def isNil:Tr→Bool
 | .nil=>true
 | _=>false
mutual
inductive WT:Tr→Prop
 | num (n ln:Nat):n<4294967296→WT (.ex 1 n [] [] .nil .nil .nil ln)
 | name (nm:List UInt8) (ln:Nat):Good 1 nm→WT (.ex 2 0 nm [] .nil .nil .nil ln)
 | un (tx:List UInt8) (r:Tr) (ln:Nat):(tx=[33]∨tx=[45])→WT r→WT (.ex 3 0 [] tx .nil r .nil ln)
 | bin (tx:List UInt8) (l r:Tr) (ln:Nat):bindsP tx≠0→WT l→WT r→WT (.ex 3 0 [] tx l r .nil ln)
 | call (nm:List UInt8) (ar:Trs) (ln:Nat):Good 1 nm→WTs ar→WT (.ex 4 0 nm [] .nil .nil ar ln)
 | cell (l r:Tr) (ln:Nat):WT l→WT r→WT (.ex 5 0 [] [] l r .nil ln)
 | link (l r:Tr) (ln:Nat):WT l→WT r→WT (.ex 6 0 [] [] l r .nil ln)
 | new (l:Tr) (ln:Nat):WT l→WT (.ex 7 0 [] [] l .nil .nil ln)
 | inn (ln:Nat):WT (.ex 8 0 [] [] .nil .nil .nil ln)
inductive WTs:Trs→Prop
 | nil:WTs .nil
 | cons (t:Tr) (r:Trs):WT t→WTs r→WTs (.cons t r)
end
theorem WT.nn {t:Tr} (h:WT t):isNil t=false:=by cases h <;> rfl
mutual
def dT:Tr→Nat→Nat
 | .nil,_=>0
 | .ex k _ _ tx l r ar _,c=>
   if k=4 then 1+dTs ar
   else if k=5 then max (dT l 8) (1+dT r 1)
   else if k=6 then max (dT l 8) (if isNN r=true then 0 else 1+dT r 1)
   else if k=7 then 1+dT l 1
   else if k=8 then 1
   else if k=3 then
    if isNil l=true then(if 7<c then 1 else 0)+(1+dT r 7)
    else(if bindsP tx<c then 1 else 0)+max (dT l (bindsP tx)) (dT r (bindsP tx+1))
   else 0
def dTs:Trs→Nat
 | .nil=>0
 | .cons t r=>max (dT t 1) (dTs r)
end
theorem bindsP_6 (s:List UInt8):bindsP s≤6:=by
 unfold bindsP
 repeat' split
 all_goals omega
theorem dT_num (n ln c:Nat):dT (.ex 1 n [] [] .nil .nil .nil ln) c=0:=by simp [dT]
theorem dT_name (nm:List UInt8)(ln c:Nat):dT (.ex 2 0 nm [] .nil .nil .nil ln) c=0:=by simp [dT]
theorem dT_un (tx:List UInt8)(r:Tr)(ln c:Nat):dT (.ex 3 0 [] tx .nil r .nil ln) c=(if 7<c then 1 else 0)+(1+dT r 7):=by simp [dT,isNil]
theorem dT_bin (tx:List UInt8)(l r:Tr)(ln c:Nat)(h:isNil l=false):dT (.ex 3 0 [] tx l r .nil ln) c=(if bindsP tx<c then 1 else 0)+max (dT l (bindsP tx)) (dT r (bindsP tx+1)):=by simp [dT,h]
theorem dT_call (nm:List UInt8)(ar:Trs)(ln c:Nat):dT (.ex 4 0 nm [] .nil .nil ar ln) c=1+dTs ar:=by simp [dT]
theorem dT_cell (l r:Tr)(ln c:Nat):dT (.ex 5 0 [] [] l r .nil ln) c=max (dT l 8) (1+dT r 1):=by simp [dT]
theorem dT_link (l r:Tr)(ln c:Nat):dT (.ex 6 0 [] [] l r .nil ln) c=max (dT l 8) (if isNN r=true then 0 else 1+dT r 1):=by simp [dT]
theorem dT_new (l:Tr)(ln c:Nat):dT (.ex 7 0 [] [] l .nil .nil ln) c=1+dT l 1:=by simp [dT]
theorem dT_in (ln c:Nat):dT (.ex 8 0 [] [] .nil .nil .nil ln) c=1:=by simp [dT]
theorem dT_le {t:Tr} (h:WT t) {c c':Nat} (hc:c≤c'):dT t c≤dT t c':=by
 cases h with
 | num n ln h=>rw [dT_num];omega
 | name nm ln h=>rw [dT_name];omega
 | un tx r ln h1 h2=>rw [dT_un,dT_un];split <;> split <;> omega
 | bin tx l r ln h1 h2 h3=>rw [dT_bin _ _ _ _ _ h2.nn,dT_bin _ _ _ _ _ h2.nn];split <;> split <;> omega
 | call nm ar ln h1 h2=>rw [dT_call,dT_call];exact Nat.le_refl _
 | cell l r ln h1 h2=>rw [dT_cell,dT_cell];exact Nat.le_refl _
 | link l r ln h1 h2=>rw [dT_link,dT_link];exact Nat.le_refl _
 | new l ln h=>rw [dT_new,dT_new];exact Nat.le_refl _
 | inn ln=>rw [dT_in,dT_in];exact Nat.le_refl _
theorem dT_8 {t:Tr} (h:WT t):dT t 8≤1+dT t 1:=by
 cases h with
 | num n ln h=>rw [dT_num];omega
 | name nm ln h=>rw [dT_name];omega
 | un tx r ln h1 h2=>rw [dT_un,dT_un];split <;> split <;> omega
 | bin tx l r ln h1 h2 h3=>rw [dT_bin _ _ _ _ _ h2.nn,dT_bin _ _ _ _ _ h2.nn];split <;> split <;> omega
 | call nm ar ln h1 h2=>rw [dT_call,dT_call];omega
 | cell l r ln h1 h2=>rw [dT_cell,dT_cell];omega
 | link l r ln h1 h2=>rw [dT_link,dT_link];omega
 | new l ln h=>rw [dT_new,dT_new];omega
 | inn ln=>rw [dT_in,dT_in];omega
def TkG (t:Tok):Prop:=t.k=5∨(Good t.k t.s∧(t.k=2→numP 0 t.s<4294967296))
def TG (ts:List Tok):Prop:=∀t∈ts,TkG t
theorem TG.tail {t:Tok} {r:List Tok} (h:TG (t :: r)):TG r:=fun x hx=>h x (List.mem_cons_of_mem _ hx)
theorem TG.tl {ts:List Tok} (h:TG ts):TG ts.tail:=by cases ts with
 | nil=>exact h
 | cons t r=>exact h.tail
theorem TG.head {t:Tok} {r:List Tok} (h:TG (t :: r)):TkG t:=h t (List.mem_cons_self ..)
def NoOp (c:Nat)(ts:List Tok):Prop:=∀t r,ts=t :: r→t.k=3→bindsP t.s≠0→bindsP t.s<c
def Gq {α:Type} (V:α→List Tok→Prop):Re α→Prop
 | .ok a ts=>V a ts
 | _=>True
theorem Gq.bind {α β:Type} {V:α→List Tok→Prop} {U:β→List Tok→Prop} {r:Re α} {f:α→List Tok→Re β} (h:Gq V r)(hf:∀a ts,V a ts→Gq U (f a ts)):Gq U (r.bind f):=by
 cases r with
 | ok a ts=>exact hf a ts h
 | bad c l=>trivial
 | out=>trivial
theorem Gq.mono {α:Type} {V U:α→List Tok→Prop} {r:Re α} (h:Gq V r)(hf:∀a ts,V a ts→U a ts):Gq U r:=by
 cases r with
 | ok a ts=>exact hf a ts h
 | bad c l=>trivial
 | out=>trivial
theorem gq_must (s:List UInt8) {ts:List Tok} (h:TG ts):Gq (fun _ rs=>TG rs) (mustW s ts):=by
 unfold mustW
 split
 ·exact h.tl
 ·trivial
theorem gq_open (s:List UInt8)(d:Nat) {ts:List Tok} (h:TG ts):Gq (fun _ rs=>TG rs∧d<64) (openW s d ts):=by
 unfold openW
 split
 ·trivial
 ·rename_i hn
  unfold mustW
  split
  ·rename_i hi
   exact⟨h.tl,by
        have:¬64≤d:=fun hd=>hn ⟨hi,hd⟩
        omega⟩
  ·trivial
theorem gq_name {ts:List Tok} (h:TG ts):Gq (fun nm rs=>TG rs∧Good 1 nm) (nameW ts):=by
 unfold nameW
 cases ts with
 | nil=>trivial
 | cons t r=>
   simp only
   split
   ·rename_i hk
    refine⟨h.tail,?_⟩
    rcases h.head with h5 | ⟨hg,_⟩
    ·rw [hk] at h5;cases h5
    ·rw [hk] at hg;exact hg
   ·trivial
theorem num_wt {t:Tok} (h:TkG t)(hk:t.k=2):WT (numT t):=by
 rcases h with h5 | ⟨_,hn⟩
 ·rw [hk] at h5;cases h5
 ·exact .num _ _ (hn hk)
structure PWE (n:Nat):Prop where
 e:∀d c ts,d≤64→c≤7→TG ts→Gq (fun t rs=>WT t∧TG rs∧d+dT t c≤64∧NoOp c rs) (pExpr n d c ts)
 l:∀d c m x ts,d≤64→c≤m→WT x→TG ts→d+dT x m≤64→NoOp (m+1) ts→Gq (fun t rs=>WT t∧TG rs∧d+dT t c≤64∧NoOp c rs) (pLoop n d c x ts)
 u:∀d ts,d≤64→TG ts→Gq (fun t rs=>WT t∧TG rs∧d+dT t 7≤64) (pUn n d ts)
 p:∀d ts,d≤64→TG ts→Gq (fun t rs=>WT t∧TG rs∧d+dT t 8≤64) (pPost n d ts)
 q:∀d x ts,d≤64→WT x→TG ts→d+dT x 8≤64→Gq (fun t rs=>WT t∧TG rs∧d+dT t 8≤64) (pPostL n d x ts)
 w:∀d a b ts,d≤64→TG ts→Gq (fun t rs=>WT t∧TG rs∧d+1+dT t 1≤64) (pWith n d a b ts)
 c:∀d ts,d≤64→TG ts→Gq (fun t rs=>WT t∧TG rs∧d+(if isNN t=true then 0 else 1+dT t 1)≤64) (pCell n d ts)
 f:∀d ts,d≤64→TG ts→Gq (fun t rs=>WT t∧TG rs∧d+dT t 8≤64) (pFirst n d ts)
 a:∀d b ts,d≤64→TG ts→Gq (fun t rs=>WTs t∧TG rs∧d+dTs t≤64) (pArgs n d b ts)
theorem pwE:∀n,PWE n
 | 0=>by
   constructor
   all_goals
    intros
    simp only [pExpr,pLoop,pUn,pPost,pPostL,pWith,pCell,pFirst,pArgs,Gq]
 | n+1=>by
   have ih:=pwE n
   refine⟨fun d c ts hd hc h=>?_,fun d c m x ts hd hc hx h hm ho=>?_,fun d ts hd h=>?_,fun d ts hd h=>?_,fun d x ts hd hx h hm=>?_,fun d a b ts hd h=>?_,fun d ts hd h=>?_,fun d ts hd h=>?_,fun d b ts hd h=>?_⟩
   ·unfold pExpr
    exact(ih.u d ts hd h).bind fun x ts1 ⟨h1,h2,h3⟩=>ih.l d c 7 x ts1 hd hc h1 h2 h3 (fun t r _ _ _=>by have:=bindsP_6 t.s;omega)
   ·unfold pLoop
    cases ts with
    | nil=>trivial
    | cons t r=>
      simp only
      split
      ·rename_i hk
       obtain⟨k1,k2,k3⟩:=hk
       have hb:=ho t r rfl k1 k2
       have h6:=bindsP_6 t.s
       refine(ih.e d (bindsP t.s+1) r hd (by omega) h.tail).bind fun y ts1 ⟨h1,h2,h3,h4⟩=>?_
       refine ih.l d c (bindsP t.s) (.ex 3 0 [] t.s x y .nil t.l) ts1 hd (by omega) (.bin _ _ _ _ k2 hx h1) h2 ?_ h4
       rw [dT_bin _ _ _ _ _ hx.nn,if_neg (by omega)]
       have:=dT_le hx (c:=bindsP t.s) (c':=m) (by omega)
       omega
      ·rename_i hk
       refine⟨hx,h,by have:=dT_le hx hc;omega,fun t' r' he h3 hb=>?_⟩
       cases he
       have:¬¬bindsP t.s<c:=fun hn=>hk ⟨h3,hb,hn⟩
       omega
   ·unfold pUn
    cases ts with
    | nil=>trivial
    | cons t r=>
      simp only
      split
      ·rename_i hk
       split
       ·trivial
       ·refine(ih.u (d+1) r (by omega) h.tail).bind fun x ts1 ⟨h1,h2,h3⟩=>⟨.un _ _ _ ?_ h1,h2,by rw [dT_un,if_neg (by omega)];omega⟩
        unfold isW at hk
        simp only [Bool.and_eq_true,beq_iff_eq] at hk
        rcases hk with hk | hk
        ·exact .inl hk.2
        ·exact .inr hk.2
      ·exact(ih.p d _ hd h).mono fun t ts ⟨h1,h2,h3⟩=>⟨h1,h2,by have:=dT_le h1 (c:=7) (c':=8) (by omega);omega⟩
   ·unfold pPost
    exact(ih.f d ts hd h).bind fun x ts1 ⟨h1,h2,h3⟩=>ih.q d x ts1 hd h1 h2 h3
   ·unfold pPostL
    cases ts with
    | nil=>trivial
    | cons t r=>
      simp only
      split
      ·exact(ih.w d _ _ _ hd h).bind fun y ts1 ⟨h1,h2,h3⟩=>ih.q d _ ts1 hd (.cell _ _ _ hx h1) h2 (by rw [dT_cell];omega)
      ·split
       ·exact(ih.c d r hd h.tail).bind fun y ts1 ⟨h1,h2,h3⟩=>ih.q d _ ts1 hd (.link _ _ _ hx h1) h2 (by rw [dT_link];omega)
       ·exact⟨hx,h,hm⟩
   ·unfold pWith
    exact(gq_open a d h).bind fun _ ts1 ⟨h1,h2⟩=>(ih.e (d+1) 1 ts1 (by omega) (by omega) h1).bind fun x ts2 ⟨k1,k2,k3,_⟩=>(gq_must b k2).bind fun _ ts3 h3=>⟨k1,h3,k3⟩
   ·unfold pCell
    cases ts with
    | nil=>trivial
    | cons t r=>
      simp only
      split
      ·exact(ih.w d _ _ _ hd h).mono fun t ts ⟨h1,h2,h3⟩=>⟨h1,h2,by split <;> omega⟩
      ·split
       ·rename_i hk
        exact⟨num_wt h.head hk,h.tail,by rw [if_pos (show isNN (numT t)=true from rfl)];omega⟩
       ·exact(gq_name h).bind fun nm ts1 ⟨h1,h2⟩=>⟨.name _ _ h2,h1,by rw [if_pos (show isNN (nameT nm t.l)=true from rfl)];omega⟩
   ·unfold pFirst
    cases ts with
    | nil=>trivial
    | cons t r=>
      simp only
      split
      ·exact(ih.w d _ _ _ hd h).mono fun t ts ⟨h1,h2,h3⟩=>⟨h1,h2,by have:=dT_8 h1;omega⟩
      ·split
       ·exact(ih.w d _ _ r hd h.tail).bind fun x ts1 ⟨h1,h2,h3⟩=>⟨.new _ _ h1,h2,by rw [dT_new];omega⟩
       ·split
        ·exact(gq_open _ d h.tail).bind fun _ ts1 ⟨h1,h2⟩=>(gq_must _ h1).bind fun _ ts2 h3=>⟨.inn _,h3,by rw [dT_in];omega⟩
        ·split
         ·rename_i hk
          exact⟨num_wt h.head hk,h.tail,by unfold numT;rw [dT_num];omega⟩
         ·refine(gq_name h).bind fun nm ts1 ⟨h1,h2⟩=>?_
          split
          ·exact(gq_open _ d h1).bind fun _ ts2 ⟨k1,k2⟩=>(ih.a (d+1) true ts2 (by omega) k1).bind fun a ts3 ⟨j1,j2,j3⟩=>(gq_must _ j2).bind fun _ ts4 h4=>⟨.call _ _ _ h2 j1,h4,by rw [dT_call];omega⟩
          ·exact⟨.name _ _ h2,h1,by unfold nameT;rw [dT_name];omega⟩
   ·unfold pArgs
    split
    ·exact⟨.nil,h,by simp only [dTs];omega⟩
    ·have h1:Gq (fun _ rs=>TG rs) (if b=true then Re.ok () ts else mustW [44] ts):=by
      split
      ·exact h
      ·exact gq_must _ h
     exact h1.bind fun _ ts1 h1=>(ih.e d 1 ts1 hd (by omega) h1).bind fun x ts2 ⟨k1,k2,k3,_⟩=>(ih.a d false ts2 hd k2).bind fun xs ts3 ⟨j1,j2,j3⟩=>⟨.cons _ _ k1 j1,j2,by simp only [dTs];omega⟩
end Go.Abs.YtlkfbfhkcaldlaaGreatDoor
namespace Go.Abs.YtlkfbfhkcaldlaaGreatDoor
set_option maxRecDepth 4000
inductive Pc where
 | w (k:Nat) (s:List UInt8)
 | b (c:UInt8)
def txP:List Pc→List UInt8
 | []=>[]
 | .w _ s :: r=>s ++ txP r
 | .b c :: r=>c :: txP r
def tkP:List Pc→List Tok
 | []=>[]
 | .w k s :: r=>⟨k,s,0⟩ :: tkP r
 | .b _ :: r=>tkP r
theorem txP_app:∀a b:List Pc,txP (a ++ b)=txP a ++ txP b
 | [],_=>rfl
 | .w _ s :: r,b=>by simp only [List.cons_append,txP,txP_app r b,List.append_assoc]
 | .b c :: r,b=>by simp only [List.cons_append,txP,txP_app r b]
theorem tkP_app:∀a b:List Pc,tkP (a ++ b)=tkP a ++ tkP b
 | [],_=>rfl
 | .w _ s :: r,b=>by simp only [List.cons_append,tkP,tkP_app r b]
 | .b c :: r,b=>by simp only [List.cons_append,tkP,tkP_app r b]
def parC (b:Bool)(s:List Pc):List Pc:=if b then [.w 3 [40]] ++ s ++ [.w 3 [41]] else s
mutual
def pcE:Tr→Nat→List Pc
 | .nil,_=>[]
 | .ex k n nm tx l r ar _,c=>
   if k=1 then [.w 2 (Lib.decDigits n)]
   else if k=2 then [.w 1 nm]
   else if k=4 then [.w 1 nm,.w 3 [40]] ++ pcAs ar true ++ [.w 3 [41]]
   else if k=5 then pcE l 8 ++ [.w 3 [91]] ++ pcE r 1 ++ [.w 3 [93]]
   else if k=6 then pcE l 8 ++ [.w 3 [58]] ++ (if isNN r=true then pcE r 8 else [.w 3 [40]] ++ pcE r 1 ++ [.w 3 [41]])
   else if k=7 then [.w 4 wNew,.w 3 [40]] ++ pcE l 1 ++ [.w 3 [41]]
   else if k=8 then [.w 4 wIn,.w 3 [40],.w 3 [41]]
   else if isNil l=true then parC (decide (7<c)) ([.w 3 tx] ++ pcE r 7)
   else parC (decide (bindsP tx<c)) (pcE l (bindsP tx) ++ [.b 32,.w 3 tx,.b 32] ++ pcE r (bindsP tx+1))
def pcAs:Trs→Bool→List Pc
 | .nil,_=>[]
 | .cons t r,first=>(if first=true then [] else [.w 3 [44],.b 32]) ++ pcE t 1 ++ pcAs r false
end
abbrev tS (s:List UInt8):Tok:=⟨3,s,0⟩
abbrev tK (s:List UInt8):Tok:=⟨4,s,0⟩
def tkE (t:Tr)(c:Nat):List Tok:=tkP (pcE t c)
def tkA (t:Trs)(b:Bool):List Tok:=tkP (pcAs t b)
def parK (b:Bool)(s:List Tok):List Tok:=if b then tS [40] :: (s ++ [tS [41]]) else s
theorem tkP_par (b:Bool)(s:List Pc):tkP (parC b s)=parK b (tkP s):=by
 cases b
 ·rfl
 ·show tkP ([.w 3 [40]] ++ s ++ [.w 3 [41]])=_
  rw [tkP_app,tkP_app];rfl
theorem tkE_num (n ln c:Nat):tkE (.ex 1 n [] [] .nil .nil .nil ln) c=[⟨2,Lib.decDigits n,0⟩]:=by simp [tkE,pcE,tkP]
theorem tkE_name (nm:List UInt8)(ln c:Nat):tkE (.ex 2 0 nm [] .nil .nil .nil ln) c=[⟨1,nm,0⟩]:=by simp [tkE,pcE,tkP]
theorem tkE_un (tx:List UInt8)(r:Tr)(ln c:Nat):tkE (.ex 3 0 [] tx .nil r .nil ln) c=parK (decide (7<c)) (tS tx :: tkE r 7):=by
 simp [tkE,pcE,tkP_par,isNil,tkP]
theorem tkE_bin (tx:List UInt8)(l r:Tr)(ln c:Nat)(h:isNil l=false):tkE (.ex 3 0 [] tx l r .nil ln) c=parK (decide (bindsP tx<c)) (tkE l (bindsP tx) ++ tS tx :: tkE r (bindsP tx+1)):=by
 simp [tkE,pcE,h,tkP_par,tkP_app,tkP]
theorem tkE_call (nm:List UInt8)(ar:Trs)(ln c:Nat):tkE (.ex 4 0 nm [] .nil .nil ar ln) c=⟨1,nm,0⟩ :: tS [40] :: (tkA ar true ++ [tS [41]]):=by
 simp [tkE,tkA,pcE,tkP_app,tkP]
theorem tkE_cell (l r:Tr)(ln c:Nat):tkE (.ex 5 0 [] [] l r .nil ln) c=tkE l 8 ++ tS [91] :: (tkE r 1 ++ [tS [93]]):=by
 simp [tkE,pcE,tkP_app,tkP]
theorem tkE_link (l r:Tr)(ln c:Nat):tkE (.ex 6 0 [] [] l r .nil ln) c=tkE l 8 ++ tS [58] :: (if isNN r=true then tkE r 8 else tS [40] :: (tkE r 1 ++ [tS [41]])):=by
 by_cases h:isNN r=true <;> simp [tkE,pcE,tkP_app,tkP,h]
theorem tkE_new (l:Tr)(ln c:Nat):tkE (.ex 7 0 [] [] l .nil .nil ln) c=tK wNew :: tS [40] :: (tkE l 1 ++ [tS [41]]):=by
 simp [tkE,pcE,tkP_app,tkP]
theorem tkE_in (ln c:Nat):tkE (.ex 8 0 [] [] .nil .nil .nil ln) c=[tK wIn,tS [40],tS [41]]:=by simp [tkE,pcE,tkP]
theorem tkA_nil (b:Bool):tkA .nil b=[]:=by simp [tkA,pcAs,tkP]
theorem tkA_cons (t:Tr)(r:Trs)(b:Bool):tkA (.cons t r) b=(if b=true then [] else [tS [44]]) ++ (tkE t 1 ++ tkA r false):=by
 cases b <;> simp [tkE,tkA,pcAs,tkP_app,tkP]
def hdP (z:Tok):Prop:=z.k=1∨z.k=2∨(z.k=3∧z.s=[40])∨(z.k=4∧(z.s=wNew∨z.s=wIn))
def hdE (z:Tok):Prop:=hdP z∨(z.k=3∧(z.s=[33]∨z.s=[45]))
theorem hd8:∀{t:Tr},WT t→∃z r,tkE t 8=z :: r∧hdP z
 | .ex k n nm tx l r ar ln,h=>by
   cases h with
   | num n ln h=>exact⟨_,_,tkE_num _ _ _,.inr (.inl rfl)⟩
   | name nm ln h=>exact⟨_,_,tkE_name _ _ _,.inl rfl⟩
   | un tx r ln h1 h2=>exact⟨_,_,tkE_un _ _ _ _,.inr (.inr (.inl ⟨rfl,rfl⟩))⟩
   | bin tx l r ln h1 h2 h3=>
     refine⟨_,_,(tkE_bin _ _ _ _ _ h2.nn).trans (by rw [decide_eq_true (by have:=bindsP_6 tx;omega)];rfl),.inr (.inr (.inl ⟨rfl,rfl⟩))⟩
   | call nm ar ln h1 h2=>exact⟨_,_,tkE_call _ _ _ _,.inl rfl⟩
   | cell l r ln h1 h2=>
     obtain⟨z,y,hz,hp⟩:=hd8 h1
     exact⟨z,_,by rw [tkE_cell,hz];rfl,hp⟩
   | link l r ln h1 h2=>
     obtain⟨z,y,hz,hp⟩:=hd8 h1
     exact⟨z,_,by rw [tkE_link,hz];rfl,hp⟩
   | new l ln h=>exact⟨_,_,tkE_new _ _ _,.inr (.inr (.inr ⟨rfl,.inl rfl⟩))⟩
   | inn ln=>exact⟨_,_,tkE_in _ _,.inr (.inr (.inr ⟨rfl,.inr rfl⟩))⟩
theorem hdA:∀{t:Tr},WT t→∀c,∃z r,tkE t c=z :: r∧hdE z
 | .ex k n nm tx l r ar ln,h,c=>by
   cases h with
   | num n ln h=>exact⟨_,_,tkE_num _ _ _,.inl (.inr (.inl rfl))⟩
   | name nm ln h=>exact⟨_,_,tkE_name _ _ _,.inl (.inl rfl)⟩
   | un tx r ln h1 h2=>
     by_cases hc:7<c
     ·exact⟨_,_,(tkE_un _ _ _ _).trans (by rw [decide_eq_true hc];rfl),.inl (.inr (.inr (.inl ⟨rfl,rfl⟩)))⟩
     ·exact⟨_,_,(tkE_un _ _ _ _).trans (by rw [decide_eq_false hc];rfl),.inr ⟨rfl,h1⟩⟩
   | bin tx l r ln h1 h2 h3=>
     by_cases hc:bindsP tx<c
     ·exact⟨_,_,(tkE_bin _ _ _ _ _ h2.nn).trans (by rw [decide_eq_true hc];rfl),.inl (.inr (.inr (.inl ⟨rfl,rfl⟩)))⟩
     ·obtain⟨z,y,hz,hp⟩:=hdA h2 (bindsP tx)
      exact⟨z,_,(tkE_bin _ _ _ _ _ h2.nn).trans (by rw [decide_eq_false hc,hz];rfl),hp⟩
   | call nm ar ln h1 h2=>exact⟨_,_,tkE_call _ _ _ _,.inl (.inl rfl)⟩
   | cell l r ln h1 h2=>
     obtain⟨z,y,hz,hp⟩:=hd8 h1
     exact⟨z,_,by rw [tkE_cell,hz];rfl,.inl hp⟩
   | link l r ln h1 h2=>
     obtain⟨z,y,hz,hp⟩:=hd8 h1
     exact⟨z,_,by rw [tkE_link,hz];rfl,.inl hp⟩
   | new l ln h=>exact⟨_,_,tkE_new _ _ _,.inl (.inr (.inr (.inr ⟨rfl,.inl rfl⟩)))⟩
   | inn ln=>exact⟨_,_,tkE_in _ _,.inl (.inr (.inr (.inr ⟨rfl,.inr rfl⟩)))⟩
theorem isW_P {z:Tok} {r:List Tok} (h:hdP z)(s:List UInt8)(h1:s≠[40])(h2:s≠wNew)(h3:s≠wIn):isW s (z :: r)=false:=by
 show ((z.k == 4 || z.k == 3) && z.s == s)=false
 rcases h with h | h | ⟨h,hs⟩ | ⟨h,hs | hs⟩
 ·rw [h];rfl
 ·rw [h];rfl
 ·rw [h,hs,show ([40] == s)=false from by simpa using fun e=>h1 e.symm];rfl
 ·rw [h,hs,show (wNew == s)=false from by simpa using fun e=>h2 e.symm];rfl
 ·rw [h,hs,show (wIn == s)=false from by simpa using fun e=>h3 e.symm];rfl
theorem isW_E {z:Tok} {r:List Tok} (h:hdE z)(s:List UInt8)(h1:s≠[40])(h2:s≠wNew)(h3:s≠wIn)(h4:s≠[33])(h5:s≠[45]):isW s (z :: r)=false:=by
 rcases h with h | ⟨h,hs | hs⟩
 ·exact isW_P h s h1 h2 h3
 ·show ((z.k == 4 || z.k == 3) && z.s == s)=false;rw [h,hs,show ([33] == s)=false from by simpa using fun e=>h4 e.symm];rfl
 ·show ((z.k == 4 || z.k == 3) && z.s == s)=false;rw [h,hs,show ([45] == s)=false from by simpa using fun e=>h5 e.symm];rfl
structure Cl (ts:List Tok):Prop where
 ne:∃z r,ts=z :: r
 p:isW [40] ts=false
 b:isW [91] ts=false
 l:isW [58] ts=false
structure PR (t:Tr):Prop where
 po:∀d ts n,d+dT t 8≤64→isW [40] ts=false→10*(tkE t 8 ++ ts).length+7≤n→∃n',10*ts.length+9≤n'∧pPost n d (tkE t 8 ++ ts)=pPostL n' d (eT t) ts
 un:∀d ts n,d+dT t 7≤64→Cl ts→10*(tkE t 7 ++ ts).length+8≤n→pUn n d (tkE t 7 ++ ts)= .ok (eT t) ts
 ex:∀d c b ts n,d+dT t b≤64→c≤b→b≤7→Cl ts→NoOp (b+1) ts→10*(tkE t b ++ ts).length+9≤n→∃n',10*ts.length+9≤n'∧pExpr n d c (tkE t b ++ ts)=pLoop n' d c (eT t) ts
theorem postL_end {n d:Nat} {x:Tr} {ts:List Tok} (h:Cl ts)(hn:1≤n):pPostL n d x ts= .ok x ts:=by
 obtain⟨z,r,rfl⟩:=h.ne
 obtain⟨m,rfl⟩:∃m,n=m+1:=⟨n - 1,by omega⟩
 unfold pPostL
 rw [if_neg (by rw [h.b];decide),if_neg (by rw [h.l];decide)]
theorem loop_end {n d c:Nat} {x:Tr} {ts:List Tok} (h:Cl ts)(ho:NoOp c ts)(hn:1≤n):pLoop n d c x ts= .ok x ts:=by
 obtain⟨z,r,rfl⟩:=h.ne
 obtain⟨m,rfl⟩:∃m,n=m+1:=⟨n - 1,by omega⟩
 unfold pLoop
 rw [if_neg]
 rintro ⟨h1,h2,h3⟩
 exact h3 (ho z r rfl h1 h2)
theorem must_ok (s:List UInt8)(ts:List Tok):mustW s (tS s :: ts)= .ok () ts:=by
 unfold mustW
 rw [if_pos (by simp [isW])];rfl
theorem must_okK (s:List UInt8)(ts:List Tok):mustW s (tK s :: ts)= .ok () ts:=by
 unfold mustW
 rw [if_pos (by simp [isW])];rfl
theorem open_ok (s:List UInt8)(d:Nat)(ts:List Tok)(h:d<64):openW s d (tS s :: ts)= .ok () ts:=by
 unfold openW
 rw [if_neg (by rintro ⟨_,h2⟩;omega),must_ok]
theorem cl_of {s:List UInt8} {ts:List Tok} (h:s≠[40]∧s≠[91]∧s≠[58]):Cl (tS s :: ts):=by
 refine⟨⟨_,_,rfl⟩,?_,?_,?_⟩ <;> unfold isW <;> simp [h.1,h.2.1,h.2.2]
theorem noop_of {s:List UInt8} {c:Nat} {ts:List Tok} (h:bindsP s=0∨bindsP s<c):NoOp c (tS s :: ts):=by
 intro t r he _ hb
 cases he
 rcases h with h | h
 ·exact(hb h).elim
 ·exact h
theorem PR.whole {t:Tr} (h:PR t) {d n:Nat} {ts:List Tok} (hd:d+dT t 1≤64)(hc:Cl ts)(ho:NoOp 1 ts)(hn:10*(tkE t 1 ++ ts).length+9≤n):pExpr n d 1 (tkE t 1 ++ ts)= .ok (eT t) ts:=by
 obtain⟨n',h1,h2⟩:=h.ex d 1 1 ts n hd (Nat.le_refl _) (by omega) hc (fun z r e1 e2 e3=>by have:=ho z r e1 e2 e3;omega) hn
 rw [h2,loop_end hc ho (by omega)]
theorem PR.with_ {t:Tr} (h:PR t) {d n:Nat} {a b:List UInt8} {ts:List Tok} (hb:b=[41]∨b=[93])(hd:d+1+dT t 1≤64)(hn:10*(tkE t 1 ++ tS b :: ts).length+10≤n):pWith n d a b (tS a :: (tkE t 1 ++ tS b :: ts))= .ok (eT t) ts:=by
 obtain⟨m,rfl⟩:∃m,n=m+1:=⟨n - 1,by omega⟩
 have hcl:Cl (tS b :: ts):=by rcases hb with rfl | rfl <;> exact cl_of (by decide)
 have hno:NoOp 1 (tS b :: ts):=by rcases hb with rfl | rfl <;> exact noop_of (.inl (by decide))
 unfold pWith
 rw [open_ok a d _ (by omega)]
 show (pExpr m (d+1) 1 (tkE t 1 ++ tS b :: ts)).bind _=_
 rw [h.whole hd hcl hno (by omega)]
 show (mustW b (tS b :: ts)).bind _=_
 rw [must_ok];rfl
end Go.Abs.YtlkfbfhkcaldlaaGreatDoor
namespace Go.Abs.YtlkfbfhkcaldlaaGreatDoor
set_option maxRecDepth 4000
theorem numP_app (b:List UInt8):∀(a:List UInt8) (v:Nat),numP v (a ++ b)=numP (numP v a) b:=by
 intro a
 induction a with
 | nil=>intro v;rfl
 | cons c a ih=>intro v;exact ih _
theorem bind_ok {α β:Type} (a:α)(ts:List Tok)(f:α→List Tok→Re β):(Re.ok a ts).bind f=f a ts:=rfl
theorem dig_nat {k:Nat} (h:k<10):(UInt8.ofNat (48+k)).toNat=48+k:=by
 rw [UInt8.toNat_ofNat'];omega
theorem numP_one (v:Nat)(c:UInt8):numP v [c]=10*v+(c.toNat - 48):=rfl
theorem numP_dec (n:Nat):numP 0 (Lib.decDigits n)=n:=by
 induction n using Nat.strongRecOn with
 | _ n ih=>
   rw [Lib.decDigits]
   by_cases h:n<10
   ·rw [dif_pos h,numP_one,dig_nat h];omega
   ·rw [dif_neg h,numP_app _ _ 0,ih (n / 10) (by omega),numP_one,dig_nat (by omega)];omega
theorem len_pos {t:Tr} (h:WT t)(c:Nat):1≤(tkE t c).length:=by
 obtain⟨z,r,hz,_⟩:=hdA h c
 rw [hz];simp
abbrev PoOk (t:Tr):Prop:=∀d ts n,d+dT t 8≤64→isW [40] ts=false→10*(tkE t 8 ++ ts).length+7≤n→∃n',10*ts.length+9≤n'∧pPost n d (tkE t 8 ++ ts)=pPostL n' d (eT t) ts
abbrev UnOk (t:Tr):Prop:=∀d ts n,d+dT t 7≤64→Cl ts→10*(tkE t 7 ++ ts).length+8≤n→pUn n d (tkE t 7 ++ ts)= .ok (eT t) ts
theorem un_of_po {t:Tr} (hw:WT t)(h7:tkE t 7=tkE t 8)(hd7:dT t 7=dT t 8)(po:PoOk t):UnOk t:=by
 intro d ts n hd hc hn
 rw [h7] at hn ⊢
 obtain⟨z,r,hz,hp⟩:=hd8 hw
 obtain⟨m,rfl⟩:∃m,n=m+1:=⟨n - 1,by omega⟩
 obtain⟨n',h1,h2⟩:=po d ts m (by omega) hc.p (by omega)
 rw [hz] at h2 ⊢
 rw [List.cons_append] at h2 ⊢
 unfold pUn
 rw [if_neg (by rw [isW_P hp [33] (by decide) (by decide) (by decide),isW_P hp [45] (by decide) (by decide) (by decide)];decide),h2,postL_end hc (by omega)]
theorem ex_of_un {t:Tr} (hw:WT t)(un:UnOk t) {d c b n:Nat} {ts:List Tok} (hb:tkE t b=tkE t 7)(hd7:dT t b=dT t 7)(hd:d+dT t b≤64)(hc:Cl ts)(hn:10*(tkE t b ++ ts).length+9≤n) :
 ∃ n',10*ts.length+9≤n'∧pExpr n d c (tkE t b ++ ts)=pLoop n' d c (eT t) ts:=by
 obtain⟨m,rfl⟩:∃m,n=m+1:=⟨n - 1,by omega⟩
 have hl:=len_pos hw 7
 rw [hb] at hn ⊢
 refine⟨m,by rw [List.length_append] at hn;omega,?_⟩
 unfold pExpr
 rw [un d ts m (by omega) hc (by omega)];rfl
theorem PR.prim {t:Tr} (hw:WT t)(ht:∀b,tkE t b=tkE t 8)(hdt:∀b,dT t b=dT t 8)(po:PoOk t):PR t:=
 have un:=un_of_po hw (ht 7) (hdt 7) po
 ⟨po,un,fun d c b ts n hd _ _ hc _ hn=>ex_of_un hw un ((ht b).trans (ht 7).symm) ((hdt b).trans (hdt 7).symm) hd hc hn⟩
theorem po_first {t:Tr} (h:∀d ts n,d+dT t 8≤64→isW [40] ts=false→10*(tkE t 8 ++ ts).length+6≤n→pFirst n d (tkE t 8 ++ ts)= .ok (eT t) ts)(hw:WT t):PoOk t:=by
 intro d ts n hd hp hn
 obtain⟨m,rfl⟩:∃m,n=m+1:=⟨n - 1,by omega⟩
 have hl:=len_pos hw 8
 refine⟨m,by rw [List.length_append] at hn;omega,?_⟩
 unfold pPost
 rw [h d ts m hd hp (by omega)];rfl
theorem isW_num (s x:List UInt8)(r:List Tok):isW s (⟨2,x,0⟩ :: r)=false:=rfl
theorem isW_nm (s x:List UInt8)(r:List Tok):isW s (⟨1,x,0⟩ :: r)=false:=rfl
theorem pr_num (n ln:Nat)(h:n<4294967296):PR (.ex 1 n [] [] .nil .nil .nil ln):=by
 refine PR.prim (.num _ _ h) (fun b=>by rw [tkE_num,tkE_num]) (fun b=>by rw [dT_num,dT_num]) (po_first (fun d ts m hd hp hm=>?_) (.num _ _ h))
 rw [tkE_num] at hm ⊢
 obtain⟨k,rfl⟩:∃k,m=k+1:=⟨m - 1,by omega⟩
 show pFirst (k+1) d (⟨2,Lib.decDigits n,0⟩ :: ts)=_
 unfold pFirst
 rw [isW_num,isW_num,isW_num,if_neg (by decide),if_neg (by decide),if_neg (by decide),if_pos rfl]
 show Re.ok (Tr.ex 1 (numP 0 (Lib.decDigits n)) [] [] .nil .nil .nil 0) ts=_
 rw [numP_dec];rfl
theorem pr_name (nm:List UInt8)(ln:Nat)(h:Good 1 nm):PR (.ex 2 0 nm [] .nil .nil .nil ln):=by
 refine PR.prim (.name _ _ h) (fun b=>by rw [tkE_name,tkE_name]) (fun b=>by rw [dT_name,dT_name]) (po_first (fun d ts m hd hp hm=>?_) (.name _ _ h))
 rw [tkE_name] at hm ⊢
 obtain⟨k,rfl⟩:∃k,m=k+1:=⟨m - 1,by omega⟩
 show pFirst (k+1) d (⟨1,nm,0⟩ :: ts)=_
 unfold pFirst
 simp only [isW_nm]
 rw [if_neg (by decide),if_neg (by decide),if_neg (by decide),if_neg (by decide)]
 show (Re.ok nm ts).bind _=_
 show (if isW [40] ts=true then _ else _)=_
 rw [if_neg (by rw [hp];decide)];rfl
theorem pr_in (ln:Nat):PR (.ex 8 0 [] [] .nil .nil .nil ln):=by
 refine PR.prim (.inn _) (fun b=>by rw [tkE_in,tkE_in]) (fun b=>by rw [dT_in,dT_in]) (po_first (fun d ts m hd hp hm=>?_) (.inn _))
 rw [tkE_in] at hm ⊢
 rw [dT_in] at hd
 obtain⟨k,rfl⟩:∃k,m=k+1:=⟨m - 1,by omega⟩
 show pFirst (k+1) d (tK wIn :: tS [40] :: tS [41] :: ts)=_
 unfold pFirst
 rw [if_neg (by simp [isW,wIn]),if_neg (by simp [isW,wIn,wNew]),if_pos (by simp [isW]),open_ok _ _ _ (by omega)]
 show ((mustW [41] (tS [41] :: ts)).bind fun _ ts=>Re.ok (Tr.ex 8 0 [] [] Tr.nil Tr.nil Trs.nil (tK wIn).l) ts)=_
 rw [must_ok];rfl
theorem pr_new (l:Tr)(ln:Nat)(h:WT l)(hl:PR l):PR (.ex 7 0 [] [] l .nil .nil ln):=by
 refine PR.prim (.new _ _ h) (fun b=>by rw [tkE_new,tkE_new]) (fun b=>by rw [dT_new,dT_new]) (po_first (fun d ts m hd hp hm=>?_) (.new _ _ h))
 rw [tkE_new] at hm ⊢
 rw [dT_new] at hd
 obtain⟨k,rfl⟩:∃k,m=k+1:=⟨m - 1,by omega⟩
 simp only [List.cons_append,List.append_assoc,List.nil_append,List.length_cons] at hm ⊢
 unfold pFirst
 rw [if_neg (by simp [isW,wNew]),if_pos (by simp [isW]),hl.with_ (.inl rfl) (by omega) (by omega)];rfl
theorem pr_cell (l r:Tr)(ln:Nat)(h1:WT l)(h2:WT r)(hl:PR l)(hr:PR r):PR (.ex 5 0 [] [] l r .nil ln):=by
 refine PR.prim (.cell _ _ _ h1 h2) (fun b=>by rw [tkE_cell,tkE_cell]) (fun b=>by rw [dT_cell,dT_cell]) fun d ts n hd hp hn=>?_
 rw [tkE_cell] at hn ⊢
 rw [dT_cell] at hd
 simp only [List.cons_append,List.append_assoc,List.nil_append] at hn ⊢
 obtain⟨n1,k1,k2⟩:=hl.po d (tS [91] :: (tkE r 1 ++ tS [93] :: ts)) n (by omega) (by simp [isW]) hn
 obtain⟨m,rfl⟩:∃m,n1=m+1:=⟨n1 - 1,by omega⟩
 simp only [List.length_cons,List.length_append] at k1
 rw [k2]
 refine⟨m,by omega,?_⟩
 conv=>lhs;unfold pPostL
 simp only
 rw [if_pos (by simp [isW]),hr.with_ (.inr rfl) (by omega) (by simp only [List.length_cons,List.length_append];omega)];rfl
theorem pr_link (l r:Tr)(ln:Nat)(h1:WT l)(h2:WT r)(hl:PR l)(hr:PR r):PR (.ex 6 0 [] [] l r .nil ln):=by
 refine PR.prim (.link _ _ _ h1 h2) (fun b=>by rw [tkE_link,tkE_link]) (fun b=>by rw [dT_link,dT_link]) fun d ts n hd hp hn=>?_
 rw [tkE_link] at hn ⊢
 rw [dT_link] at hd
 simp only [List.cons_append,List.append_assoc,List.nil_append] at hn ⊢
 obtain⟨n1,k1,k2⟩:=hl.po d (tS [58] :: ((if isNN r=true then tkE r 8 else tS [40] :: (tkE r 1 ++ [tS [41]])) ++ ts)) n (by omega) (by simp [isW]) hn
 obtain⟨m,rfl⟩:∃m,n1=m+1:=⟨n1 - 1,by omega⟩
 simp only [List.length_cons,List.length_append] at k1
 rw [k2]
 refine⟨m,by omega,?_⟩
 conv=>lhs;unfold pPostL
 simp only
 rw [if_neg (by simp [isW]),if_pos (by simp [isW])]
 have hc:pCell m d ((if isNN r=true then tkE r 8 else tS [40] :: (tkE r 1 ++ [tS [41]])) ++ ts)= .ok (eT r) ts:=by
  obtain⟨k,rfl⟩:∃k,m=k+1:=⟨m - 1,by omega⟩
  by_cases hN:isNN r=true
  ·rw [if_pos hN]
   cases h2 with
   | num n ln h=>
     rw [tkE_num]
     show pCell (k+1) d (⟨2,Lib.decDigits n,0⟩ :: ts)=_
     unfold pCell
     rw [isW_num,if_neg (by decide),if_pos rfl]
     show Re.ok (Tr.ex 1 (numP 0 (Lib.decDigits n)) [] [] .nil .nil .nil 0) ts=_
     rw [numP_dec];rfl
   | name nm ln h=>
     rw [tkE_name]
     show pCell (k+1) d (⟨1,nm,0⟩ :: ts)=_
     unfold pCell
     rw [isW_nm,if_neg (by decide),if_neg (by simp)];rfl
   | un tx r ln h1 h2=>cases hN
   | bin tx l r ln h1 h2 h3=>cases hN
   | call nm ar ln h1 h2=>cases hN
   | cell l r ln h1 h2=>cases hN
   | link l r ln h1 h2=>cases hN
   | new l ln h=>cases hN
   | inn ln=>cases hN
  ·rw [if_neg hN] at hd k1 ⊢
   simp only [List.cons_append,List.append_assoc,List.nil_append,List.length_cons,List.length_append,List.length_nil] at k1 ⊢
   unfold pCell
   rw [if_pos (by simp [isW]),hr.with_ (.inl rfl) (by omega) (by simp only [List.length_cons,List.length_append];omega)]
 rw [hc];rfl
theorem pr_un (tx:List UInt8)(r:Tr)(ln:Nat)(h1:tx=[33]∨tx=[45])(h2:WT r)(hr:PR r):PR (.ex 3 0 [] tx .nil r .nil ln):=by
 have hw:WT (.ex 3 0 [] tx .nil r .nil ln):=.un _ _ _ h1 h2
 have e7:∀b,b≤7→tkE (.ex 3 0 [] tx .nil r .nil ln) b=tS tx :: tkE r 7:=fun b hb=>by rw [tkE_un,decide_eq_false (by omega)];rfl
 have d7:∀b,b≤7→dT (.ex 3 0 [] tx .nil r .nil ln) b=1+dT r 7:=fun b hb=>by rw [dT_un,if_neg (by omega)];omega
 have un:UnOk (.ex 3 0 [] tx .nil r .nil ln):=by
  intro d ts n hd hc hn
  rw [e7 7 (by omega)] at hn ⊢
  rw [d7 7 (by omega)] at hd
  obtain⟨m,rfl⟩:∃m,n=m+1:=⟨n - 1,by omega⟩
  simp only [List.cons_append,List.length_cons] at hn ⊢
  unfold pUn
  rw [if_pos (by rcases h1 with rfl | rfl <;> simp [isW]),if_neg (by omega),hr.un (d+1) ts m (by omega) hc (by omega)];rfl
 have ex:∀d c b ts n,d+dT (.ex 3 0 [] tx .nil r .nil ln) b≤64→c≤b→b≤7→Cl ts→NoOp (b+1) ts→10*(tkE (.ex 3 0 [] tx .nil r .nil ln) b ++ ts).length+9≤n→∃n',10*ts.length+9≤n'∧pExpr n d c (tkE (.ex 3 0 [] tx .nil r .nil ln) b ++ ts)=pLoop n' d c (eT (.ex 3 0 [] tx .nil r .nil ln)) ts:=
  fun d c b ts n hd _ hb hc _ hn=>ex_of_un hw un ((e7 b hb).trans (e7 7 (by omega)).symm) ((d7 b hb).trans (d7 7 (by omega)).symm) hd hc hn
 refine⟨po_first (fun d ts m hd hp hm=>?_) hw,un,ex⟩
 have e8:tkE (.ex 3 0 [] tx .nil r .nil ln) 8=tS [40] :: (tkE (.ex 3 0 [] tx .nil r .nil ln) 1 ++ [tS [41]]):=by rw [tkE_un,e7 1 (by omega)];rfl
 have d8:dT (.ex 3 0 [] tx .nil r .nil ln) 8=1+dT (.ex 3 0 [] tx .nil r .nil ln) 1:=by rw [d7 1 (by omega),dT_un,if_pos (by omega)]
 rw [d8] at hd
 rw [e8] at hm ⊢
 simp only [List.cons_append,List.append_assoc,List.nil_append,List.length_cons] at hm ⊢
 have hcl:Cl (tS [41] :: ts):=cl_of (by decide)
 have hno:NoOp 1 (tS [41] :: ts):=noop_of (.inl (by decide))
 obtain⟨k,rfl⟩:∃k,m=k+1:=⟨m - 1,by omega⟩
 obtain⟨k,rfl⟩:∃k',k=k'+ 1:=⟨k - 1,by omega⟩
 unfold pFirst
 rw [if_pos (by simp [isW])]
 unfold pWith
 rw [open_ok _ _ _ (by omega)]
 show (pExpr k (d+1) 1 (tkE (.ex 3 0 [] tx .nil r .nil ln) 1 ++ tS [41] :: ts)).bind _=_
 obtain⟨n',k1,k2⟩:=ex (d+1) 1 1 (tS [41] :: ts) k (by omega) (Nat.le_refl _) (by omega) hcl (noop_of (.inl (by decide))) (by omega)
 rw [k2,loop_end hcl hno (by omega)]
 show ((mustW [41] (tS [41] :: ts)).bind fun _ ts=>Re.ok (eT (.ex 3 0 [] tx .nil r .nil ln)) ts)=_
 rw [must_ok];rfl
theorem binds_no {tx:List UInt8} (h:bindsP tx≠0):tx≠[40]∧tx≠[91]∧tx≠[58]:=⟨by rintro rfl;exact h (by decide),by rintro rfl;exact h (by decide),by rintro rfl;exact h (by decide)⟩
theorem pr_bin (tx:List UInt8)(l r:Tr)(ln:Nat)(h1:bindsP tx≠0)(h2:WT l)(h3:WT r)(hl:PR l)(hr:PR r):PR (.ex 3 0 [] tx l r .nil ln):=by
 have hw:WT (.ex 3 0 [] tx l r .nil ln):=.bin _ _ _ _ h1 h2 h3
 have h6:=bindsP_6 tx
 obtain⟨t,ht⟩:∃t,t=Tr.ex 3 0 [] tx l r .nil ln:=⟨_,rfl⟩
 have e0:∀b,b≤bindsP tx→tkE t b=tkE l (bindsP tx) ++ tS tx :: tkE r (bindsP tx+1):=fun b hb=>by rw [ht,tkE_bin _ _ _ _ _ h2.nn,decide_eq_false (by omega)];rfl
 have d0:∀b,b≤bindsP tx→dT t b=max (dT l (bindsP tx)) (dT r (bindsP tx+1)):=fun b hb=>by rw [ht,dT_bin _ _ _ _ _ h2.nn,if_neg (by omega)];omega
 have e1:∀b,bindsP tx<b→tkE t b=tS [40] :: (tkE t 1 ++ [tS [41]]):=fun b hb=>by rw [e0 1 (by omega),ht,tkE_bin _ _ _ _ _ h2.nn,decide_eq_true hb];rfl
 have d1:∀b,bindsP tx<b→dT t b=1+dT t 1:=fun b hb=>by rw [d0 1 (by omega),ht,dT_bin _ _ _ _ _ h2.nn,if_pos hb]
 have ex0:∀d c b ts n,d+dT t b≤64→c≤b→b≤bindsP tx→Cl ts→NoOp (b+1) ts→10*(tkE t b ++ ts).length+9≤n→∃n',10*ts.length+9≤n'∧pExpr n d c (tkE t b ++ ts)=pLoop n' d c (eT t) ts:=by
  intro d c b ts n hd hcb hb hc ho hn
  rw [e0 b hb] at hn ⊢
  rw [d0 b hb] at hd
  simp only [List.cons_append,List.append_assoc] at hn ⊢
  obtain⟨n1,k1,k2⟩:=hl.ex d c (bindsP tx) (tS tx :: (tkE r (bindsP tx+1) ++ ts)) n (by omega) (by omega) (by omega) (cl_of (binds_no h1)) (noop_of (.inr (by omega))) hn
  obtain⟨m,rfl⟩:∃m,n1=m+1:=⟨n1 - 1,by omega⟩
  simp only [List.length_cons] at k1
  have hlr:=len_pos h3 (bindsP tx+1)
  rw [k2]
  refine⟨m,by rw [List.length_append] at k1;omega,?_⟩
  conv=>lhs;unfold pLoop
  simp only
  rw [if_pos ⟨trivial,h1,by omega⟩]
  obtain⟨n2,j1,j2⟩:=hr.ex d (bindsP tx+1) (bindsP tx+1) ts m (by omega) (Nat.le_refl _) (by omega) hc (fun z y q1 q2 q3=>by have:=ho z y q1 q2 q3;omega) (by omega)
  rw [j2,loop_end hc (fun z y q1 q2 q3=>by have:=ho z y q1 q2 q3;omega) (by omega),ht];rfl
 have fst:∀d ts m,d+1+dT t 1≤64→10*(tkE t 1 ++ tS [41] :: ts).length+11≤m→pFirst m d (tS [40] :: (tkE t 1 ++ tS [41] :: ts))= .ok (eT t) ts:=by
  intro d ts m hd hm
  obtain⟨k,rfl⟩:∃k,m=k+1:=⟨m - 1,by omega⟩
  obtain⟨k,rfl⟩:∃k',k=k'+ 1:=⟨k - 1,by omega⟩
  have hcl:Cl (tS [41] :: ts):=cl_of (by decide)
  have hno:NoOp 1 (tS [41] :: ts):=noop_of (.inl (by decide))
  unfold pFirst
  rw [if_pos (by simp [isW])]
  unfold pWith
  rw [open_ok _ _ _ (by omega)]
  show (pExpr k (d+1) 1 (tkE t 1 ++ tS [41] :: ts)).bind _=_
  obtain⟨n',k1,k2⟩:=ex0 (d+1) 1 1 (tS [41] :: ts) k (by omega) (Nat.le_refl _) (by omega) hcl (noop_of (.inl (by decide))) (by omega)
  rw [k2,loop_end hcl hno (by omega)]
  show ((mustW [41] (tS [41] :: ts)).bind fun _ ts=>Re.ok (eT t) ts)=_
  rw [must_ok];rfl
 have po:PoOk t:=po_first (fun d ts m hd hp hm=>by
  rw [e1 8 (by omega)] at hm ⊢
  rw [d1 8 (by omega)] at hd
  simp only [List.cons_append,List.append_assoc,List.nil_append,List.length_cons] at hm ⊢
  exact fst d ts m (by omega) (by omega)) (by rw [ht];exact hw)
 have hw':WT t:=by rw [ht];exact hw
 have un:UnOk t:=un_of_po hw' ((e1 7 (by omega)).trans (e1 8 (by omega)).symm) ((d1 7 (by omega)).trans (d1 8 (by omega)).symm) po
 rw [←ht]
 refine⟨po,un,fun d c b ts n hd hcb hb hc ho hn=>?_⟩
 by_cases hbb:b≤bindsP tx
 ·exact ex0 d c b ts n hd hcb hbb hc ho hn
 ·exact ex_of_un hw' un ((e1 b (by omega)).trans (e1 7 (by omega)).symm) ((d1 b (by omega)).trans (d1 7 (by omega)).symm) hd hc hn
def ArOk (a:Trs):Prop:=∀d b ts n,d+dTs a≤64→10*(tkA a b ++ tS [41] :: ts).length+10≤n→pArgs n d b (tkA a b ++ tS [41] :: ts)= .ok (eTs a) (tS [41] :: ts)
theorem ar_nil:ArOk .nil:=by
 intro d b ts n hd hn
 obtain⟨m,rfl⟩:∃m,n=m+1:=⟨n - 1,by omega⟩
 rw [tkA_nil]
 show pArgs (m+1) d b (tS [41] :: ts)=_
 unfold pArgs
 rw [if_pos (by simp [isW])];rfl
theorem tkA_head {a:Trs} (h:WTs a)(ts:List Tok):Cl (tkA a false ++ tS [41] :: ts)∧NoOp 1 (tkA a false ++ tS [41] :: ts):=by
 cases h with
 | nil=>rw [tkA_nil];exact⟨cl_of (by decide),noop_of (.inl (by decide))⟩
 | cons t r h1 h2=>rw [tkA_cons];exact⟨cl_of (by decide),noop_of (.inl (by decide))⟩
theorem ar_cons {t:Tr} {r:Trs} (h1:WT t)(h2:WTs r)(ht:PR t)(hr:ArOk r):ArOk (.cons t r):=by
 intro d b ts n hd hn
 obtain⟨m,rfl⟩:∃m,n=m+1:=⟨n - 1,by omega⟩
 simp only [dTs] at hd
 obtain⟨z,y,hz,hp⟩:=hdA h1 1
 obtain⟨hcl,hno⟩:=tkA_head h2 ts
 have hlp:=len_pos h1 1
 have main:∀inp,10*(tkE t 1 ++ (tkA r false ++ tS [41] :: ts)).length+10≤m+1→inp=tkE t 1 ++ (tkA r false ++ tS [41] :: ts)→((pExpr m d 1 inp).bind fun x ts=>(pArgs m d false ts).bind fun xs ts=>Re.ok (Trs.cons x xs) ts)= .ok (eTs (.cons t r)) (tS [41] :: ts):=by
  rintro _ hm rfl
  rw [ht.whole (by omega) hcl hno (by omega)]
  show (pArgs m d false (tkA r false ++ tS [41] :: ts)).bind _=_
  rw [hr d false ts m (by omega) (by rw [List.length_append] at hm;omega)];rfl
 rw [tkA_cons] at hn ⊢
 unfold pArgs
 cases b with
 | true=>
   simp only [if_true,List.nil_append,List.append_assoc] at hn ⊢
   rw [if_neg (by rw [hz,List.cons_append,isW_E hp _ (by decide) (by decide) (by decide) (by decide) (by decide)];decide)]
   exact main _ (by omega) rfl
 | false=>
   simp only [Bool.false_eq_true,if_false,List.cons_append,List.nil_append,List.append_assoc,List.length_cons] at hn ⊢
   rw [if_neg (by simp [isW]),must_ok]
   exact main _ (by omega) rfl
theorem pr_call (nm:List UInt8)(ar:Trs)(ln:Nat)(h:Good 1 nm)(h2:WTs ar)(ha:ArOk ar):PR (.ex 4 0 nm [] .nil .nil ar ln):=by
 refine PR.prim (.call _ _ _ h h2) (fun b=>by rw [tkE_call,tkE_call]) (fun b=>by rw [dT_call,dT_call]) (po_first (fun d ts m hd hp hm=>?_) (.call _ _ _ h h2))
 rw [tkE_call] at hm ⊢
 rw [dT_call] at hd
 obtain⟨k,rfl⟩:∃k,m=k+1:=⟨m - 1,by omega⟩
 simp only [List.cons_append,List.append_assoc,List.nil_append,List.length_cons] at hm ⊢
 unfold pFirst
 simp only [isW_nm]
 rw [if_neg (by decide),if_neg (by decide),if_neg (by decide),if_neg (by decide)]
 rw [show nameW (⟨1,nm,0⟩ :: tS [40] :: (tkA ar true ++ tS [41] :: ts))= .ok nm (tS [40] :: (tkA ar true ++ tS [41] :: ts)) from rfl,bind_ok,if_pos (by simp [isW]),open_ok _ _ _ (by omega),bind_ok,ha (d+1) true ts k (by omega) (by omega),bind_ok,must_ok];rfl
mutual
theorem prAll:∀(t:Tr),WT t→PR t
 | .nil,h=>by cases h
 | .ex k n nm tx l r ar ln,h=>by
   cases h with
   | num _ _ h=>exact pr_num _ _ h
   | name _ _ h=>exact pr_name _ _ h
   | un _ _ _ h1 h2=>exact pr_un _ _ _ h1 h2 (prAll _ h2)
   | bin _ _ _ _ h1 h2 h3=>exact pr_bin _ _ _ _ h1 h2 h3 (prAll _ h2) (prAll _ h3)
   | call _ _ _ h1 h2=>exact pr_call _ _ _ h1 h2 (arAll _ h2)
   | cell _ _ _ h1 h2=>exact pr_cell _ _ _ h1 h2 (prAll _ h1) (prAll _ h2)
   | link _ _ _ h1 h2=>exact pr_link _ _ _ h1 h2 (prAll _ h1) (prAll _ h2)
   | new _ _ h=>exact pr_new _ _ h (prAll _ h)
   | inn _=>exact pr_in _
theorem arAll:∀(a:Trs),WTs a→ArOk a
 | .nil,_=>ar_nil
 | .cons t r,h=>by
   cases h with
   | cons _ _ h1 h2=>exact ar_cons h1 h2 (prAll t h1) (arAll r h2)
end
end Go.Abs.YtlkfbfhkcaldlaaGreatDoor
namespace Go.Abs.YtlkfbfhkcaldlaaGreatDoor
set_option maxRecDepth 4000
def kE:Tr→Nat
 | .nil=>0
 | .ex k .. =>k
def kS:Sm→Nat
 | .st k .. =>k
def endS:Sms→Bool
 | .nil=>true
 | _=>false
mutual
inductive WS:Sm→Prop
 | var (nm:List UInt8) (p:Bool) (r:Tr) (ln:Nat):Good 1 nm→(r= .nil∨WT r)→WS (.st 1 nm p .nil r .nil .nil ln)
 | set (nm:List UInt8) (r:Tr) (ln:Nat):Good 1 nm→WT r→WS (.st 2 nm false .nil r .nil .nil ln)
 | cell (l r:Tr) (ln:Nat):WT l→(kE l=5∨kE l=6)→WT r→WS (.st 3 [] false l r .nil .nil ln)
 | iff (r:Tr) (th el:Sms) (ln:Nat):WT r→WSs th→WSs el→WS (.st 4 [] false .nil r th el ln)
 | whl (r:Tr) (th:Sms) (ln:Nat):WT r→WSs th→WS (.st 5 [] false .nil r th .nil ln)
 | out (r:Tr) (ln:Nat):WT r→WS (.st 6 [] false .nil r .nil .nil ln)
 | free (r:Tr) (ln:Nat):WT r→WS (.st 7 [] false .nil r .nil .nil ln)
 | drain (ln:Nat):WS (.st 8 [] false .nil .nil .nil .nil ln)
 | ret (r:Tr) (ln:Nat):(r= .nil∨WT r)→WS (.st 9 [] false .nil r .nil .nil ln)
 | call (r:Tr) (ln:Nat):WT r→kE r=4→WS (.st 10 [] false .nil r .nil .nil ln)
inductive WSs:Sms→Prop
 | nil:WSs .nil
 | cons (s:Sm) (r:Sms):WS s→WSs r→WSs (.cons s r)
end
mutual
def dS:Sm→Nat
 | .st k _ _ l r th el _=>max (max (dT l 8) (dT r 1)) (if k=4 then max (1+dSs th) (dEl el) else if k=5 then 1+dSs th else 0)
def dSs:Sms→Nat
 | .nil=>0
 | .cons s r=>max (dS s) (dSs r)
def dEl:Sms→Nat
 | .nil=>0
 | .cons s r=>if endS r=true∧kS s=4 then dS s else 1+max (dS s) (dSs r)
end
structure WFm (f:Fm):Prop where
 name:Good 1 f.name
 ps:∀p∈f.params,Good 1 p.1
 body:WSs f.body
 deep:1+dSs f.body≤64
theorem dEl_le (el:Sms):dEl el≤1+dSs el:=by
 cases el with
 | nil=>simp only [dEl];omega
 | cons s r=>simp only [dEl,dSs];split <;> omega
theorem dT_nil (c:Nat):dT .nil c=0:=rfl
theorem dT_call1 {r:Tr} (h:WT r)(hk:kE r=4)(c c':Nat):dT r c=dT r c':=by
 cases h <;> first | (simp [kE] at hk;done) | (rw [dT_call,dT_call])
structure PWS (n:Nat):Prop where
 block:∀d ts,d≤64→TG ts→Gq (fun l rs=>WSs l∧TG rs∧d+1+dSs l≤64) (pBlock n d ts)
 stmts:∀d ts,d≤64→TG ts→Gq (fun l rs=>WSs l∧TG rs∧d+dSs l≤64) (pStmts n d ts)
 branch:∀d ln ts,d≤64→TG ts→Gq (fun s rs=>WS s∧TG rs∧d+dS s≤64∧kS s=4) (pBranch n d ln ts)
 ended:∀d ts,d≤64→TG ts→Gq (fun t rs=>WT t∧TG rs∧d+dT t 1≤64) (pEnded n d ts)
 stmt:∀d ts,d≤64→TG ts→Gq (fun s rs=>WS s∧TG rs∧d+dS s≤64) (pStmt n d ts)
theorem ptr_tg {ts:List Tok} (h:TG ts):TG (if isW wPtr ts=true then ts.tail else ts):=by
 split
 ·exact h.tl
 ·exact h
theorem pwS:∀n,PWS n
 | 0=>by
   constructor
   all_goals
    intros
    simp only [pBlock,pStmts,pBranch,pEnded,pStmt,Gq]
 | n+1=>by
   have ih:=pwS n
   have ie:=pwE n
   refine⟨fun d ts hd h=>?_,fun d ts hd h=>?_,fun d ln ts hd h=>?_,fun d ts hd h=>?_,fun d ts hd h=>?_⟩
   ·unfold pBlock
    exact(gq_open _ d h).bind fun _ ts1 ⟨h1,h2⟩=>(ih.stmts (d+1) ts1 (by omega) h1).bind fun l ts2 ⟨k1,k2,k3⟩=>(gq_must _ k2).bind fun _ ts3 h3=>⟨k1,h3,k3⟩
   ·unfold pStmts
    split
    ·exact⟨.nil,h,by simp only [dSs];omega⟩
    ·exact(ih.stmt d ts hd h).bind fun x ts1 ⟨h1,h2,h3⟩=>(ih.stmts d ts1 hd h2).bind fun l ts2 ⟨k1,k2,k3⟩=>⟨.cons _ _ h1 k1,k2,by simp only [dSs];omega⟩
   ·unfold pBranch
    refine(ie.e d 1 ts hd (by omega) h).bind fun c ts1 ⟨h1,h2,h3,_⟩=>(ih.block d ts1 hd h2).bind fun th ts2 ⟨k1,k2,k3⟩=>?_
    split
    ·split
     ·exact(ih.branch d _ _ hd k2.tl.tl).bind fun b ts5 ⟨j1,j2,j3,j4⟩=>⟨.iff _ _ _ _ h1 k1 (.cons _ _ j1 .nil),j2,by
           simp only [dS,dEl,dT_nil,if_true,endS,j4,and_self];omega,rfl⟩
     ·exact(ih.block d _ hd k2.tl).bind fun b ts5 ⟨j1,j2,j3⟩=>⟨.iff _ _ _ _ h1 k1 j1,j2,by
           have:=dEl_le b
           simp only [dS,dT_nil,if_true];omega,rfl⟩
    ·exact⟨.iff _ _ _ _ h1 k1 .nil,k2,by simp only [dS,dEl,dT_nil,if_true];omega,rfl⟩
   ·unfold pEnded
    exact(ie.e d 1 ts hd (by omega) h).bind fun x ts1 ⟨h1,h2,h3,_⟩=>(gq_must _ h2).bind fun _ ts2 h4=>⟨h1,h4,h3⟩
   ·unfold pStmt
    cases ts with
    | nil=>trivial
    | cons t r=>
      simp only
      split
      ·refine(gq_name h.tail).bind fun nm ts1 ⟨h1,h2⟩=>?_
       have h3:=ptr_tg h1
       generalize (if isW wPtr ts1=true then ts1.tail else ts1)=ts2 at h3
       split
       ·exact(ih.ended d _ hd h3.tl).bind fun x ts4 ⟨k1,k2,k3⟩=>⟨.var _ _ _ _ h2 (.inr k1),k2,by simp only [dS,dT_nil];simp;omega⟩
       ·exact(gq_must _ h3).bind fun _ ts4 h4=>⟨.var _ _ _ _ h2 (.inl rfl),h4,by simp only [dS,dT_nil];simp;omega⟩
      ·split
       ·exact(ih.branch d _ r hd h.tail).mono fun s ts ⟨h1,h2,h3,_⟩=>⟨h1,h2,h3⟩
       ·split
        ·exact(ie.e d 1 r hd (by omega) h.tail).bind fun c ts1 ⟨h1,h2,h3,_⟩=>(ih.block d ts1 hd h2).bind fun th ts2 ⟨k1,k2,k3⟩=>⟨.whl _ _ _ h1 k1,k2,by simp only [dS,dT_nil];simp;omega⟩
        ·split
         ·exact(ih.ended d r hd h.tail).bind fun x ts4 ⟨k1,k2,k3⟩=>⟨.out _ _ k1,k2,by simp only [dS,dT_nil];simp;omega⟩
         ·split
          ·exact(ih.ended d r hd h.tail).bind fun x ts4 ⟨k1,k2,k3⟩=>⟨.free _ _ k1,k2,by simp only [dS,dT_nil];simp;omega⟩
          ·split
           ·exact(gq_must _ h.tail).bind fun _ ts4 h4=>⟨.drain _,h4,by simp only [dS,dT_nil];simp;omega⟩
           ·split
            ·split
             ·exact⟨.ret _ _ (.inl rfl),h.tail.tl,by simp only [dS,dT_nil];simp;omega⟩
             ·exact(ih.ended d r hd h.tail).bind fun x ts4 ⟨k1,k2,k3⟩=>⟨.ret _ _ (.inr k1),k2,by simp only [dS,dT_nil];simp;omega⟩
            ·refine(ie.p d _ hd h).bind fun x ts1 ⟨h1,h2,h3⟩=>?_
             cases x with
             | nil=>trivial
             | ex k n nm tx xl xr ar ln=>
               simp only
               split
               ·split
                ·rename_i hk
                 subst hk
                 have hg:Good 1 nm:=by cases h1;assumption
                 exact(ih.ended d _ hd h2.tl).bind fun y ts4 ⟨k1,k2,k3⟩=>⟨.set _ _ _ hg k1,k2,by simp only [dS,dT_nil];simp;omega⟩
                ·split
                 ·rename_i hk
                  exact(ih.ended d _ hd h2.tl).bind fun y ts4 ⟨k1,k2,k3⟩=>⟨.cell _ _ _ h1 hk k1,k2,by simp only [dS];simp;omega⟩
                 ·trivial
               ·split
                ·rename_i hk
                 exact(gq_must _ h2).bind fun _ ts4 h4=>⟨.call _ _ h1 hk,h4,by
                  have:=dT_call1 h1 hk 8 1
                  simp only [dS,dT_nil];simp;omega⟩
                ·trivial
theorem pw_params:∀(n:Nat) (b:Bool) (ts:List Tok),TG ts→Gq (fun l rs=>(∀p∈l,Good 1 p.1)∧TG rs) (pParams n b ts)
 | 0,_,_,_=>trivial
 | n+1,b,ts,h=>by
   unfold pParams
   split
   ·exact⟨fun _ h=>(by cases h),h⟩
   ·have h1:Gq (fun _ rs=>TG rs) (if b=true then Re.ok () ts else mustW [44] ts):=by
     split
     ·exact h
     ·exact gq_must _ h
    refine h1.bind fun _ ts1 h1=>(gq_name h1).bind fun nm ts2 ⟨h2,h3⟩=>?_
    exact(pw_params n false _ (ptr_tg h2)).bind fun l ts3 ⟨h4,h5⟩=>⟨fun p hp=>by
     rcases List.mem_cons.1 hp with rfl | hp
     ·exact h3
     ·exact h4 p hp,h5⟩
theorem pw_func (n:Nat) {ts:List Tok} (h:TG ts):Gq (fun f rs=>WFm f∧TG rs) (pFunc n ts):=by
 unfold pFunc
 refine(gq_must _ h).bind fun _ ts1 h1=>(gq_name h1).bind fun nm ts2 ⟨h2,h3⟩=>(gq_open _ 0 h2).bind fun _ ts3 ⟨h4,_⟩=>(pw_params n true ts3 h4).bind fun ps ts4 ⟨h5,h6⟩=>(gq_must _ h6).bind fun _ ts5 h7=>?_
 exact((pwS n).block 0 _ (by omega) (ptr_tg h7)).bind fun b ts6 ⟨h8,h9,h10⟩=>⟨⟨h3,h5,h8,by show 1+dSs b≤64;omega⟩,h9⟩
theorem pw_funcs:∀(n:Nat) (ts:List Tok),TG ts→Gq (fun l rs=>(∀f∈l,WFm f)∧TG rs) (pFuncs n ts)
 | 0,_,_=>trivial
 | _+1,[],_=>trivial
 | n+1,t :: r,h=>by
   unfold pFuncs
   split
   ·exact⟨fun _ h=>(by cases h),h⟩
   ·exact(pw_func n h).bind fun f ts1 ⟨h1,h2⟩=>(pw_funcs n ts1 h2).bind fun l ts2 ⟨h3,h4⟩=>⟨fun x hx=>by
     rcases List.mem_cons.1 hx with rfl | hx
     ·exact h1
     ·exact h3 x hx,h4⟩
end Go.Abs.YtlkfbfhkcaldlaaGreatDoor
