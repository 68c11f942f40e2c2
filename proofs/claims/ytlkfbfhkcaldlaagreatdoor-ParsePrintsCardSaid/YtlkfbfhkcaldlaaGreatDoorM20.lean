/- Texts of this claim, joined: Bz1, Bz2, Va, Vb, Vc, Vd. -/
import Derived.Test.YtlkfbfhkcaldlaaGreatDoorM16
import Derived.Test.YtlkfbfhkcaldlaaGreatDoorM14
import Derived.Lib.ItoaNum
set_option linter.unusedVariables false
set_option linter.unusedSimpArgs false
namespace Go.Abs.YtlkfbfhkcaldlaaGreatDoor
def lz (t:Tok):Tok:=⟨t.k,t.s,0⟩
mutual
def eT:Tr->Tr
 | .nil=>.nil
 | .ex k n nm tx l r ar _=>.ex k n nm tx (eT l) (eT r) (OD ar) 0
def OD:jA->jA
 | .nil=>.nil
 | .cons t r=>.cons (eT t) (OD r)
end
mutual
def eS:Sm->Sm
 | .st k nm p l r th el _=>.st k nm p (eT l) (eT r) (xZ th) (xZ el) 0
def xZ:gY->gY
 | .nil=>.nil
 | .cons t r=>.cons (eS t) (xZ r)
end
def eF (f:Fm):Fm:=⟨f.name,f.params,f.ptr,xZ f.body,0⟩
def Re.er {α β:Type} (g:α->β):Re α->Re β
 | .ok a ts=>.ok (g a) (ts.map lz)
 | .bad c _=>.bad c 0
 | .out=>.out
theorem bC {α β α' β':Type} (r:Re α)(f:α->List Tok->Re β)(h:α->α')(g:β->β')(f':α'->List Tok->Re β')(H:∀a ts,f' (h a) (ts.map lz)=(f a ts).er g):(r.er h).bind f'= (r.bind f).er g:=by
 cases r with
 | ok a ts=>exact H a ts
 | bad c l=>rfl
 | out=>rfl
theorem kY (s:List UInt8)(ts:List Tok):aY s (ts.map lz)=aY s ts:=by cases ts <;> rfl
theorem iR (s:List UInt8)(t:Tok)(r r':List Tok):aY s (lz t :: r')=aY s (t :: r):=rfl
theorem uM (ts:List Tok):kW (ts.map lz)=0:=by cases ts <;> rfl
theorem rP (ts:List Tok):(ts.map lz).tail=ts.tail.map lz:=by cases ts <;> rfl
theorem iL (s:List UInt8)(ts:List Tok):aQ s (ts.map lz)=(aQ s ts).er id:=by
 unfold aQ
 rw [kY,uM,rP]
 split <;> rfl
theorem uN (s:List UInt8)(d:Nat)(ts:List Tok):gV s d (ts.map lz)=(gV s d ts).er id:=by
 unfold gV
 rw [kY,uM,iL]
 split <;> rfl
theorem uO (ts:List Tok):fA (ts.map lz)=(fA ts).er id:=by
 cases ts with
 | nil=>rfl
 | cons t r=>
   show (if t.k=1 then Re.ok t.s (r.map lz) else .bad 4 0)=(if t.k=1 then Re.ok t.s r else .bad 4 t.l).er id
   split <;> rfl
structure LzE (n:Nat):Prop where
 e:∀d c ts,dn n d c (ts.map lz)=(dn n d c ts).er eT
 l:∀d c x ts,fZ n d c (eT x) (ts.map lz)=(fZ n d c x ts).er eT
 u:∀d ts,xP n d (ts.map lz)=(xP n d ts).er eT
 p:∀d ts,gW n d (ts.map lz)=(gW n d ts).er eT
 q:∀d x ts,dP n d (eT x) (ts.map lz)=(dP n d x ts).er eT
 w:∀d a b ts,gI n d a b (ts.map lz)=(gI n d a b ts).er eT
 c:∀d ts,h_ n d (ts.map lz)=(h_ n d ts).er eT
 f:∀d ts,dI n d (ts.map lz)=(dI n d ts).er eT
 a:∀d b ts,fG n d b (ts.map lz)=(fG n d b ts).er OD
theorem lzE:∀n,LzE n
 | 0=>by
   constructor
   all_goals
    intros
    simp only [dn,fZ,xP,gW,dP,gI,h_,dI,fG,Re.er]
 | n+1=>by
   have ih:=lzE n
   constructor
   ·intro d c ts
    simp only [dn]
    rw [ih.u]
    exact bC _ _ eT eT _ fun x ts=>ih.l d c x ts
   ·intro d c x ts
    cases ts with
    | nil=>simp only [List.map_nil,fZ];rfl
    | cons t r=>
      simp only [List.map_cons,fZ]
      show (if t.k=3/\aF t.s≠0/\¬aF t.s<c then _ else _)=_
      by_cases h:t.k=3/\aF t.s≠0/\¬aF t.s<c
      ·rw [if_pos h,if_pos h]
       show (dn n d (aF t.s+1) (r.map lz)).bind _=_
       rw [ih.e]
       exact bC _ _ eT eT _ fun y ts=>ih.l d c (.ex 3 0 [] t.s x y .nil t.l) ts
      ·rw [if_neg h,if_neg h];rfl
   ·intro d ts
    cases ts with
    | nil=>simp only [List.map_nil,xP];rfl
    | cons t r=>
      simp only [List.map_cons,xP]
      rw [iR [33] t r,iR [45] t r]
      by_cases h:aY [33] (t :: r)=true\/aY [45] (t :: r)=true
      ·rw [if_pos h,if_pos h]
       by_cases hd:64<=d
       ·rw [if_pos hd,if_pos hd];rfl
       ·rw [if_neg hd,if_neg hd,ih.u]
        exact bC _ _ eT eT _ fun x ts=>rfl
      ·rw [if_neg h,if_neg h]
       exact ih.p d (t :: r)
   ·intro d ts
    simp only [gW]
    rw [ih.f]
    exact bC _ _ eT eT _ fun x ts=>ih.q d x ts
   ·intro d x ts
    cases ts with
    | nil=>simp only [List.map_nil,dP];rfl
    | cons t r=>
      simp only [List.map_cons,dP]
      rw [iR [91] t r,iR [58] t r]
      by_cases h:aY [91] (t :: r)=true
      ·rw [if_pos h,if_pos h]
       rw [show gI n d [91] [93] (lz t :: r.map lz)=(gI n d [91] [93] (t :: r)).er eT from ih.w d _ _ (t :: r)]
       exact bC _ _ eT eT _ fun y ts=>ih.q d (.ex 5 0 [] [] x y .nil t.l) ts
      ·rw [if_neg h,if_neg h]
       by_cases h:aY [58] (t :: r)=true
       ·rw [if_pos h,if_pos h,ih.c]
        exact bC _ _ eT eT _ fun y ts=>ih.q d (.ex 6 0 [] [] x y .nil t.l) ts
       ·rw [if_neg h,if_neg h];rfl
   ·intro d a b ts
    simp only [gI]
    rw [uN]
    refine bC _ _ id eT _ fun _ ts=>?_
    rw [ih.e]
    refine bC _ _ eT eT _ fun x ts=>?_
    rw [iL]
    exact bC _ _ id eT _ fun _ ts=>rfl
   ·intro d ts
    cases ts with
    | nil=>simp only [List.map_nil,h_];rfl
    | cons t r=>
      simp only [List.map_cons,h_]
      rw [iR [40] t r]
      by_cases h:aY [40] (t :: r)=true
      ·rw [if_pos h,if_pos h]
       exact ih.w d _ _ (t :: r)
      ·rw [if_neg h,if_neg h]
       show (if t.k=2 then _ else _)=_
       by_cases h:t.k=2
       ·rw [if_pos h,if_pos h];rfl
       ·rw [if_neg h,if_neg h]
        rw [show fA (lz t :: r.map lz)=(fA (t :: r)).er id from uO (t :: r)]
        exact bC _ _ id eT _ fun nm ts=>rfl
   ·intro d ts
    cases ts with
    | nil=>simp only [List.map_nil,dI];rfl
    | cons t r=>
      simp only [List.map_cons,dI]
      rw [iR [40] t r,iR qF t r,iR FM t r]
      by_cases h:aY [40] (t :: r)=true
      ·rw [if_pos h,if_pos h]
       exact ih.w d _ _ (t :: r)
      rw [if_neg h,if_neg h]
      by_cases h:aY qF (t :: r)=true
      ·rw [if_pos h,if_pos h,ih.w]
       exact bC _ _ eT eT _ fun x ts=>rfl
      rw [if_neg h,if_neg h]
      by_cases h:aY FM (t :: r)=true
      ·rw [if_pos h,if_pos h,uN]
       refine bC _ _ id eT _ fun _ ts=>?_
       rw [iL]
       exact bC _ _ id eT _ fun _ ts=>rfl
      rw [if_neg h,if_neg h]
      show (if t.k=2 then _ else _)=_
      by_cases h:t.k=2
      ·rw [if_pos h,if_pos h];rfl
      rw [if_neg h,if_neg h]
      rw [show fA (lz t :: r.map lz)=(fA (t :: r)).er id from uO (t :: r)]
      refine bC _ _ id eT _ fun nm ts=>?_
      show (if aY [40] (ts.map lz)=true then _ else _)=_
      rw [kY]
      by_cases h:aY [40] ts=true
      ·rw [if_pos h,if_pos h,uN]
       refine bC _ _ id eT _ fun _ ts=>?_
       rw [ih.a]
       refine bC _ _ OD eT _ fun a ts=>?_
       rw [iL]
       exact bC _ _ id eT _ fun _ ts=>rfl
      ·rw [if_neg h,if_neg h];rfl
   ·intro d b ts
    simp only [fG]
    rw [kY]
    by_cases h:aY [41] ts=true
    ·rw [if_pos h,if_pos h];rfl
    rw [if_neg h,if_neg h]
    rw [show (if b=true then Re.ok () (ts.map lz) else aQ [44] (ts.map lz))=(if b=true then Re.ok () ts else aQ [44] ts).er id by
     split
     ·rfl
     ·exact iL _ _]
    refine bC _ _ id OD _ fun _ ts=>?_
    rw [ih.e]
    refine bC _ _ eT OD _ fun x ts=>?_
    rw [ih.a]
    exact bC _ _ OD OD _ fun xs ts=>rfl
end Go.Abs.YtlkfbfhkcaldlaaGreatDoor
namespace Go.Abs.YtlkfbfhkcaldlaaGreatDoor
structure LzS (n:Nat):Prop where
 b:∀d ts,dD n d (ts.map lz)=(dD n d ts).er xZ
 s:∀d ts,eG n d (ts.map lz)=(eG n d ts).er xZ
 r:∀d ln ts,dQ n d 0 (ts.map lz)=(dQ n d ln ts).er eS
 e:∀d ts,bU n d (ts.map lz)=(bU n d ts).er eT
 t:∀d ts,fE n d (ts.map lz)=(fE n d ts).er eS
theorem OE (ts:List Tok):(if aY dA ts=true then(ts.map lz).tail else ts.map lz)=(if aY dA ts=true then ts.tail else ts).map lz:=by
 rw [rP];split <;> rfl
theorem lzS:∀n,LzS n
 | 0=>by
   constructor
   all_goals
    intros
    simp only [dD,eG,dQ,bU,fE,Re.er]
 | n+1=>by
   have ih:=lzS n
   have E:=lzE n
   constructor
   ·intro d ts
    simp only [dD]
    rw [uN]
    refine bC _ _ id xZ _ fun _ ts=>?_
    rw [ih.s]
    refine bC _ _ xZ xZ _ fun l ts=>?_
    rw [iL]
    exact bC _ _ id xZ _ fun _ ts=>rfl
   ·intro d ts
    simp only [eG]
    rw [kY]
    by_cases h:aY [125] ts=true
    ·rw [if_pos h,if_pos h];rfl
    rw [if_neg h,if_neg h,ih.t]
    refine bC _ _ eS xZ _ fun x ts=>?_
    rw [ih.s]
    exact bC _ _ xZ xZ _ fun l ts=>rfl
   ·intro d ln ts
    simp only [dQ]
    rw [E.e]
    refine bC _ _ eT eS _ fun c ts=>?_
    rw [ih.b]
    refine bC _ _ xZ eS _ fun th ts=>?_
    rw [kY,rP,kY,uM,rP]
    by_cases h:aY jJ ts=true
    ·rw [if_pos h,if_pos h]
     by_cases h:aY I7 ts.tail=true
     ·rw [if_pos h,if_pos h,ih.r d (kW ts.tail)]
      exact bC _ _ eS eS _ fun b ts=>rfl
     ·rw [if_neg h,if_neg h,ih.b]
      exact bC _ _ xZ eS _ fun el ts=>rfl
    ·rw [if_neg h,if_neg h];rfl
   ·intro d ts
    simp only [bU]
    rw [E.e]
    refine bC _ _ eT eT _ fun x ts=>?_
    rw [iL]
    exact bC _ _ id eT _ fun _ ts=>rfl
   ·intro d ts
    cases ts with
    | nil=>simp only [List.map_nil,fE];rfl
    | cons t r=>
      simp only [List.map_cons,fE]
      rw [iR Et t r,iR I7 t r,iR ql t r,iR Eu t r,iR uy t r,iR oH t r,iR fD t r]
      by_cases h:aY Et (t :: r)=true
      ·rw [if_pos h,if_pos h,uO]
       refine bC _ _ id eS _ fun nm ts=>?_
       rw [kY,OE,kY,rP]
       by_cases h:aY [61] (if aY dA ts=true then ts.tail else ts)=true
       ·rw [if_pos h,if_pos h,ih.e]
        exact bC _ _ eT eS _ fun x ts=>rfl
       ·rw [if_neg h,if_neg h,iL]
        exact bC _ _ id eS _ fun _ ts=>rfl
      rw [if_neg h,if_neg h]
      by_cases h:aY I7 (t :: r)=true
      ·rw [if_pos h,if_pos h]
       exact ih.r d t.l r
      rw [if_neg h,if_neg h]
      by_cases h:aY ql (t :: r)=true
      ·rw [if_pos h,if_pos h,E.e]
       refine bC _ _ eT eS _ fun c ts=>?_
       rw [ih.b]
       exact bC _ _ xZ eS _ fun th ts=>rfl
      rw [if_neg h,if_neg h]
      by_cases h:aY Eu (t :: r)=true
      ·rw [if_pos h,if_pos h,ih.e]
       exact bC _ _ eT eS _ fun x ts=>rfl
      rw [if_neg h,if_neg h]
      by_cases h:aY uy (t :: r)=true
      ·rw [if_pos h,if_pos h,ih.e]
       exact bC _ _ eT eS _ fun x ts=>rfl
      rw [if_neg h,if_neg h]
      by_cases h:aY oH (t :: r)=true
      ·rw [if_pos h,if_pos h,iL]
       exact bC _ _ id eS _ fun _ ts=>rfl
      rw [if_neg h,if_neg h]
      by_cases h:aY fD (t :: r)=true
      ·rw [if_pos h,if_pos h,kY,rP]
       by_cases h:aY [59] r=true
       ·rw [if_pos h,if_pos h];rfl
       ·rw [if_neg h,if_neg h,ih.e]
        exact bC _ _ eT eS _ fun x ts=>rfl
      rw [if_neg h,if_neg h]
      rw [show gW n d (lz t :: r.map lz)=(gW n d (t :: r)).er eT from E.p d (t :: r)]
      refine bC _ _ eT eS _ fun x ts=>?_
      cases x with
      | nil=>rfl
      | ex k m nm tx l rr ar ln=>
        show (if aY [61] (ts.map lz)=true then _ else _)=_
        simp only [kY,rP,uM]
        by_cases h:aY [61] ts=true
        ·rw [if_pos h,if_pos h]
         by_cases h:k=2
         ·rw [if_pos h,if_pos h,ih.e]
          exact bC _ _ eT eS _ fun y ts=>rfl
         rw [if_neg h,if_neg h]
         by_cases h:k=5\/k=6
         ·rw [if_pos h,if_pos h,ih.e]
          exact bC _ _ eT eS _ fun y ts=>rfl
         rw [if_neg h,if_neg h];rfl
        rw [if_neg h,if_neg h]
        by_cases h:k=4
        ·rw [if_pos h,if_pos h,iL]
         exact bC _ _ id eS _ fun _ ts=>rfl
        rw [if_neg h,if_neg h];rfl
theorem lzPar:∀(n:Nat) (b:Bool) (ts:List Tok),cZ n b (ts.map lz)=(cZ n b ts).er id
 | 0,b,ts=>by simp only [cZ,Re.er]
 | n+1,b,ts=>by
   simp only [cZ]
   rw [kY]
   by_cases h:aY [41] ts=true
   ·rw [if_pos h,if_pos h];rfl
   rw [if_neg h,if_neg h]
   rw [show (if b=true then Re.ok () (ts.map lz) else aQ [44] (ts.map lz))=(if b=true then Re.ok () ts else aQ [44] ts).er id by
    split
    ·rfl
    ·exact iL _ _]
   refine bC _ _ id id _ fun _ ts=>?_
   rw [uO]
   refine bC _ _ id id _ fun nm ts=>?_
   rw [kY,OE,lzPar n]
   exact bC _ _ id id _ fun l ts=>rfl
theorem lzFn (n:Nat)(ts:List Tok):kH n (ts.map lz)=(kH n ts).er eF:=by
 simp only [kH]
 rw [iL,uM]
 refine bC _ _ id eF _ fun _ t1=>?_
 rw [uO]
 refine bC _ _ id eF _ fun nm t1=>?_
 rw [uN]
 refine bC _ _ id eF _ fun _ t1=>?_
 rw [lzPar]
 refine bC _ _ id eF _ fun ps t1=>?_
 rw [iL]
 refine bC _ _ id eF _ fun _ t1=>?_
 rw [kY,OE,(lzS n).b]
 exact bC _ _ xZ eF _ fun b t1=>rfl
theorem lzFs:∀(n:Nat) (ts:List Tok),eH n (ts.map lz)=(eH n ts).er (List.map eF)
 | 0,ts=>by simp only [eH,Re.er]
 | n+1,[]=>by simp only [List.map_nil,eH];rfl
 | n+1,t :: r=>by
   simp only [List.map_cons,eH]
   show (if t.k=5 then _ else _)=_
   by_cases h:t.k=5
   ·rw [if_pos h,if_pos h];rfl
   rw [if_neg h,if_neg h]
   rw [show kH n (lz t :: r.map lz)=(kH n (t :: r)).er eF from lzFn n (t :: r)]
   refine bC _ _ eF (List.map eF) _ fun f ts=>?_
   rw [lzFs n]
   exact bC _ _ (List.map eF) (List.map eF) _ fun l ts=>rfl
mutual
theorem zh:∀x y:Tr,mV x y=mV (eT x) (eT y)
 | .nil,.nil=>rfl
 | .nil,.ex .. =>rfl
 | .ex ..,.nil=>rfl
 | .ex k n nm tx l r ar ln,.ex k' n' nm' tx' l' r' ar' OB=>by simp only [eT,mV];rw [zh l l',zh r r',Md ar ar']
theorem Md:∀x y:jA,jY x y=jY (OD x) (OD y)
 | .nil,.nil=>rfl
 | .nil,.cons .. =>rfl
 | .cons ..,.nil=>rfl
 | .cons t r,.cons t' r'=>by simp only [OD,jY];rw [zh t t',Md r r']
end
mutual
theorem Zl:∀x y:Sm,qH x y=qH (eS x) (eS y)
 | .st k nm p l r th el ln,.st k' nm' p' l' r' Xk Xl OB=>by simp only [eS,qH];rw [<-zh l l',<-zh r r',<-zi th Xk,<-zi el Xl]
theorem zi:∀x y:gY,jl x y=jl (xZ x) (xZ y)
 | .nil,.nil=>rfl
 | .nil,.cons .. =>rfl
 | .cons ..,.nil=>rfl
 | .cons t r,.cons t' r'=>by simp only [xZ,jl];rw [Zl t t',zi r r']
end
theorem Me:∀x y:List Fm,jQ x y=jQ (x.map eF) (y.map eF)
 | [],[]=>rfl
 | [],_ :: _=>rfl
 | _ :: _,[]=>rfl
 | f :: r,g :: s=>by
   simp only [List.map_cons,jQ]
   rw [Me r s]
   simp only [yU,eF]
   rw [zi f.body g.body]
mutual
theorem oN:∀x:Tr,mV x x=true
 | .nil=>rfl
 | .ex k n nm tx l r ar ln=>by rw [mV,oN l,oN r,BL ar];simp
theorem BL:∀x:jA,jY x x=true
 | .nil=>rfl
 | .cons t r=>by rw [jY,oN t,BL r];rfl
end
mutual
theorem OG:∀x:Sm,qH x x=true
 | .st k nm pt l r th el ln=>by rw [qH,oN l,oN r,pX th,pX el];simp
theorem pX:∀x:gY,jl x x=true
 | .nil=>rfl
 | .cons t r=>by rw [jl,OG t,pX r];rfl
end
theorem OH (f:Fm):yU f f=true:=by rw [yU,pX];simp
theorem BM:∀x:List Fm,jQ x x=true
 | []=>rfl
 | f :: r=>by rw [jQ,OH f,BM r];rfl
end Go.Abs.YtlkfbfhkcaldlaaGreatDoor
namespace Go.Abs.YtlkfbfhkcaldlaaGreatDoor
set_option maxRecDepth 4000
def qM:Tr->Bool
 | .ex k _ _ _ _ _ _ _=>k == 1 || k == 2
 | .nil=>false
def isNil:Tr->Bool
 | .nil=>true
 | _=>false
mutual
inductive WT:Tr->Prop
 | num (n ln:Nat):n<4294967296->WT (.ex 1 n [] [] .nil .nil .nil ln)
 | name (nm:List UInt8) (ln:Nat):Good 1 nm->WT (.ex 2 0 nm [] .nil .nil .nil ln)
 | un (tx:List UInt8) (r:Tr) (ln:Nat):(tx=[33]\/tx=[45])->WT r->WT (.ex 3 0 [] tx .nil r .nil ln)
 | bin (tx:List UInt8) (l r:Tr) (ln:Nat):aF tx≠0->WT l->WT r->WT (.ex 3 0 [] tx l r .nil ln)
 | call (nm:List UInt8) (ar:jA) (ln:Nat):Good 1 nm->OI ar->WT (.ex 4 0 nm [] .nil .nil ar ln)
 | cell (l r:Tr) (ln:Nat):WT l->WT r->WT (.ex 5 0 [] [] l r .nil ln)
 | link (l r:Tr) (ln:Nat):WT l->WT r->WT (.ex 6 0 [] [] l r .nil ln)
 | new (l:Tr) (ln:Nat):WT l->WT (.ex 7 0 [] [] l .nil .nil ln)
 | inn (ln:Nat):WT (.ex 8 0 [] [] .nil .nil .nil ln)
inductive OI:jA->Prop
 | nil:OI .nil
 | cons (t:Tr) (r:jA):WT t->OI r->OI (.cons t r)
end
theorem WT.nn {t:Tr} (h:WT t):isNil t=false:=by cases h <;> rfl
mutual
def dT:Tr->Nat->Nat
 | .nil,_=>0
 | .ex k _ _ tx l r ar _,c=>
   if k=4 then 1+dTs ar
   else if k=5 then max (dT l 8) (1+dT r 1)
   else if k=6 then max (dT l 8) (if qM r=true then 0 else 1+dT r 1)
   else if k=7 then 1+dT l 1
   else if k=8 then 1
   else if k=3 then
    if isNil l=true then(if 7<c then 1 else 0)+(1+dT r 7)
    else(if aF tx<c then 1 else 0)+max (dT l (aF tx)) (dT r (aF tx+1))
   else 0
def dTs:jA->Nat
 | .nil=>0
 | .cons t r=>max (dT t 1) (dTs r)
end
theorem qN (s:List UInt8):aF s<=6:=by
 unfold aF
 repeat' split
 all_goals omega
theorem jG (n ln c:Nat):dT (.ex 1 n [] [] .nil .nil .nil ln) c=0:=by simp [dT]
theorem vW (nm:List UInt8)(ln c:Nat):dT (.ex 2 0 nm [] .nil .nil .nil ln) c=0:=by simp [dT]
theorem ER (tx:List UInt8)(r:Tr)(ln c:Nat):dT (.ex 3 0 [] tx .nil r .nil ln) c=(if 7<c then 1 else 0)+(1+dT r 7):=by simp [dT,isNil]
theorem lU (tx:List UInt8)(l r:Tr)(ln c:Nat)(h:isNil l=false):dT (.ex 3 0 [] tx l r .nil ln) c=(if aF tx<c then 1 else 0)+max (dT l (aF tx)) (dT r (aF tx+1)):=by simp [dT,h]
theorem mg (nm:List UInt8)(ar:jA)(ln c:Nat):dT (.ex 4 0 nm [] .nil .nil ar ln) c=1+dTs ar:=by simp [dT]
theorem pY (l r:Tr)(ln c:Nat):dT (.ex 5 0 [] [] l r .nil ln) c=max (dT l 8) (1+dT r 1):=by simp [dT]
theorem qc (l r:Tr)(ln c:Nat):dT (.ex 6 0 [] [] l r .nil ln) c=max (dT l 8) (if qM r=true then 0 else 1+dT r 1):=by simp [dT]
theorem uP (l:Tr)(ln c:Nat):dT (.ex 7 0 [] [] l .nil .nil ln) c=1+dT l 1:=by simp [dT]
theorem BN (ln c:Nat):dT (.ex 8 0 [] [] .nil .nil .nil ln) c=1:=by simp [dT]
theorem VZ {t:Tr} (h:WT t) {c c':Nat} (hc:c<=c'):dT t c<=dT t c':=by
 cases h with
 | num n ln h=>rw [jG];omega
 | name nm ln h=>rw [vW];omega
 | un tx r ln h1 h2=>rw [ER,ER];split <;> split <;> omega
 | bin tx l r ln h1 h2 h3=>rw [lU _ _ _ _ _ h2.nn,lU _ _ _ _ _ h2.nn];split <;> split <;> omega
 | call nm ar ln h1 h2=>rw [mg,mg];exact Nat.le_refl _
 | cell l r ln h1 h2=>rw [pY,pY];exact Nat.le_refl _
 | link l r ln h1 h2=>rw [qc,qc];exact Nat.le_refl _
 | new l ln h=>rw [uP,uP];exact Nat.le_refl _
 | inn ln=>rw [BN,BN];exact Nat.le_refl _
theorem dT_8 {t:Tr} (h:WT t):dT t 8<=1+dT t 1:=by
 cases h with
 | num n ln h=>rw [jG];omega
 | name nm ln h=>rw [vW];omega
 | un tx r ln h1 h2=>rw [ER,ER];split <;> split <;> omega
 | bin tx l r ln h1 h2 h3=>rw [lU _ _ _ _ _ h2.nn,lU _ _ _ _ _ h2.nn];split <;> split <;> omega
 | call nm ar ln h1 h2=>rw [mg,mg];omega
 | cell l r ln h1 h2=>rw [pY,pY];omega
 | link l r ln h1 h2=>rw [qc,qc];omega
 | new l ln h=>rw [uP,uP];omega
 | inn ln=>rw [BN,BN];omega
def TkG (t:Tok):Prop:=t.k=5\/(Good t.k t.s/\(t.k=2->lD 0 t.s<4294967296))
def TG (ts:List Tok):Prop:=∀t∈ts,TkG t
theorem TG.tail {t:Tok} {r:List Tok} (h:TG (t :: r)):TG r:=fun x hx=>h x (List.mem_cons_of_mem _ hx)
theorem TG.tl {ts:List Tok} (h:TG ts):TG ts.tail:=by cases ts with
 | nil=>exact h
 | cons t r=>exact h.tail
theorem TG.head {t:Tok} {r:List Tok} (h:TG (t :: r)):TkG t:=h t (List.mem_cons_self ..)
def rQ (c:Nat)(ts:List Tok):Prop:=∀t r,ts=t :: r->t.k=3->aF t.s≠0->aF t.s<c
def Gq {α:Type} (V:α->List Tok->Prop):Re α->Prop
 | .ok a ts=>V a ts
 | _=>True
theorem Gq.bind {α β:Type} {V:α->List Tok->Prop} {U:β->List Tok->Prop} {r:Re α} {f:α->List Tok->Re β} (h:Gq V r)(hf:∀a ts,V a ts->Gq U (f a ts)):Gq U (r.bind f):=by
 cases r with
 | ok a ts=>exact hf a ts h
 | bad c l=>trivial
 | out=>trivial
theorem Gq.mono {α:Type} {V U:α->List Tok->Prop} {r:Re α} (h:Gq V r)(hf:∀a ts,V a ts->U a ts):Gq U r:=by
 cases r with
 | ok a ts=>exact hf a ts h
 | bad c l=>trivial
 | out=>trivial
theorem jV (s:List UInt8) {ts:List Tok} (h:TG ts):Gq (fun _ rs=>TG rs) (aQ s ts):=by
 unfold aQ
 split
 ·exact h.tl
 ·trivial
theorem zk (s:List UInt8)(d:Nat) {ts:List Tok} (h:TG ts):Gq (fun _ rs=>TG rs/\d<64) (gV s d ts):=by
 unfold gV
 split
 ·trivial
 ·rename_i hn
  unfold aQ
  split
  ·rename_i hi
   exact⟨h.tl,by
        have:¬64<=d:=fun hd=>hn ⟨hi,hd⟩
        omega⟩
  ·trivial
theorem zl {ts:List Tok} (h:TG ts):Gq (fun nm rs=>TG rs/\Good 1 nm) (fA ts):=by
 unfold fA
 cases ts with
 | nil=>trivial
 | cons t r=>
   simp only
   split
   ·rename_i hk
    refine⟨h.tail,?_⟩
    rcases h.head with h5 | ⟨hg,_⟩
    ·rw [hk] at h5;cases h5
    ·rw [hk] at hg;exact hg
   ·trivial
theorem V4 {t:Tok} (h:TkG t)(hk:t.k=2):WT (Am t):=by
 rcases h with h5 | ⟨_,hn⟩
 ·rw [hk] at h5;cases h5
 ·exact .num _ _ (hn hk)
structure PWE (n:Nat):Prop where
 e:∀d c ts,d<=64->c<=7->TG ts->Gq (fun t rs=>WT t/\TG rs/\d+dT t c<=64/\rQ c rs) (dn n d c ts)
 l:∀d c m x ts,d<=64->c<=m->WT x->TG ts->d+dT x m<=64->rQ (m+1) ts->Gq (fun t rs=>WT t/\TG rs/\d+dT t c<=64/\rQ c rs) (fZ n d c x ts)
 u:∀d ts,d<=64->TG ts->Gq (fun t rs=>WT t/\TG rs/\d+dT t 7<=64) (xP n d ts)
 p:∀d ts,d<=64->TG ts->Gq (fun t rs=>WT t/\TG rs/\d+dT t 8<=64) (gW n d ts)
 q:∀d x ts,d<=64->WT x->TG ts->d+dT x 8<=64->Gq (fun t rs=>WT t/\TG rs/\d+dT t 8<=64) (dP n d x ts)
 w:∀d a b ts,d<=64->TG ts->Gq (fun t rs=>WT t/\TG rs/\d+1+dT t 1<=64) (gI n d a b ts)
 c:∀d ts,d<=64->TG ts->Gq (fun t rs=>WT t/\TG rs/\d+(if qM t=true then 0 else 1+dT t 1)<=64) (h_ n d ts)
 f:∀d ts,d<=64->TG ts->Gq (fun t rs=>WT t/\TG rs/\d+dT t 8<=64) (dI n d ts)
 a:∀d b ts,d<=64->TG ts->Gq (fun t rs=>OI t/\TG rs/\d+dTs t<=64) (fG n d b ts)
theorem pwE:∀n,PWE n
 | 0=>by
   constructor
   all_goals
    intros
    simp only [dn,fZ,xP,gW,dP,gI,h_,dI,fG,Gq]
 | n+1=>by
   have ih:=pwE n
   refine⟨fun d c ts hd hc h=>?_,fun d c m x ts hd hc hx h hm ho=>?_,fun d ts hd h=>?_,fun d ts hd h=>?_,fun d x ts hd hx h hm=>?_,fun d a b ts hd h=>?_,fun d ts hd h=>?_,fun d ts hd h=>?_,fun d b ts hd h=>?_⟩
   ·unfold dn
    exact(ih.u d ts hd h).bind fun x bI ⟨h1,h2,h3⟩=>ih.l d c 7 x bI hd hc h1 h2 h3 (fun t r _ _ _=>by have:=qN t.s;omega)
   ·unfold fZ
    cases ts with
    | nil=>trivial
    | cons t r=>
      simp only
      split
      ·rename_i hk
       obtain⟨k1,k2,k3⟩:=hk
       have hb:=ho t r rfl k1 k2
       have h6:=qN t.s
       refine(ih.e d (aF t.s+1) r hd (by omega) h.tail).bind fun y bI ⟨h1,h2,h3,h4⟩=>?_
       refine ih.l d c (aF t.s) (.ex 3 0 [] t.s x y .nil t.l) bI hd (by omega) (.bin _ _ _ _ k2 hx h1) h2 ?_ h4
       rw [lU _ _ _ _ _ hx.nn,if_neg (by omega)]
       have:=VZ hx (c:=aF t.s) (c':=m) (by omega)
       omega
      ·rename_i hk
       refine⟨hx,h,by have:=VZ hx hc;omega,fun t' r' he h3 hb=>?_⟩
       cases he
       have:¬¬aF t.s<c:=fun hn=>hk ⟨h3,hb,hn⟩
       omega
   ·unfold xP
    cases ts with
    | nil=>trivial
    | cons t r=>
      simp only
      split
      ·rename_i hk
       split
       ·trivial
       ·refine(ih.u (d+1) r (by omega) h.tail).bind fun x bI ⟨h1,h2,h3⟩=>⟨.un _ _ _ ?_ h1,h2,by rw [ER,if_neg (by omega)];omega⟩
        unfold aY at hk
        simp only [fJ,beq_iff_eq] at hk
        rcases hk with hk | hk
        ·exact .inl hk.2
        ·exact .inr hk.2
      ·exact(ih.p d _ hd h).mono fun t ts ⟨h1,h2,h3⟩=>⟨h1,h2,by have:=VZ h1 (c:=7) (c':=8) (by omega);omega⟩
   ·unfold gW
    exact(ih.f d ts hd h).bind fun x bI ⟨h1,h2,h3⟩=>ih.q d x bI hd h1 h2 h3
   ·unfold dP
    cases ts with
    | nil=>trivial
    | cons t r=>
      simp only
      split
      ·exact(ih.w d _ _ _ hd h).bind fun y bI ⟨h1,h2,h3⟩=>ih.q d _ bI hd (.cell _ _ _ hx h1) h2 (by rw [pY];omega)
      ·split
       ·exact(ih.c d r hd h.tail).bind fun y bI ⟨h1,h2,h3⟩=>ih.q d _ bI hd (.link _ _ _ hx h1) h2 (by rw [qc];omega)
       ·exact⟨hx,h,hm⟩
   ·unfold gI
    exact(zk a d h).bind fun _ bI ⟨h1,h2⟩=>(ih.e (d+1) 1 bI (by omega) (by omega) h1).bind fun x dM ⟨k1,k2,k3,_⟩=>(jV b k2).bind fun _ vK h3=>⟨k1,h3,k3⟩
   ·unfold h_
    cases ts with
    | nil=>trivial
    | cons t r=>
      simp only
      split
      ·exact(ih.w d _ _ _ hd h).mono fun t ts ⟨h1,h2,h3⟩=>⟨h1,h2,by split <;> omega⟩
      ·split
       ·rename_i hk
        exact⟨V4 h.head hk,h.tail,by rw [if_pos (show qM (Am t)=true from rfl)];omega⟩
       ·exact(zl h).bind fun nm bI ⟨h1,h2⟩=>⟨.name _ _ h2,h1,by rw [if_pos (show qM (qG nm t.l)=true from rfl)];omega⟩
   ·unfold dI
    cases ts with
    | nil=>trivial
    | cons t r=>
      simp only
      split
      ·exact(ih.w d _ _ _ hd h).mono fun t ts ⟨h1,h2,h3⟩=>⟨h1,h2,by have:=dT_8 h1;omega⟩
      ·split
       ·exact(ih.w d _ _ r hd h.tail).bind fun x bI ⟨h1,h2,h3⟩=>⟨.new _ _ h1,h2,by rw [uP];omega⟩
       ·split
        ·exact(zk _ d h.tail).bind fun _ bI ⟨h1,h2⟩=>(jV _ h1).bind fun _ dM h3=>⟨.inn _,h3,by rw [BN];omega⟩
        ·split
         ·rename_i hk
          exact⟨V4 h.head hk,h.tail,by unfold Am;rw [jG];omega⟩
         ·refine(zl h).bind fun nm bI ⟨h1,h2⟩=>?_
          split
          ·exact(zk _ d h1).bind fun _ dM ⟨k1,k2⟩=>(ih.a (d+1) true dM (by omega) k1).bind fun a vK ⟨j1,j2,j3⟩=>(jV _ j2).bind fun _ wW h4=>⟨.call _ _ _ h2 j1,h4,by rw [mg];omega⟩
          ·exact⟨.name _ _ h2,h1,by unfold qG;rw [vW];omega⟩
   ·unfold fG
    split
    ·exact⟨.nil,h,by simp only [dTs];omega⟩
    ·have h1:Gq (fun _ rs=>TG rs) (if b=true then Re.ok () ts else aQ [44] ts):=by
      split
      ·exact h
      ·exact jV _ h
     exact h1.bind fun _ bI h1=>(ih.e d 1 bI hd (by omega) h1).bind fun x dM ⟨k1,k2,k3,_⟩=>(ih.a d false dM hd k2).bind fun xs vK ⟨j1,j2,j3⟩=>⟨.cons _ _ k1 j1,j2,by simp only [dTs];omega⟩
end Go.Abs.YtlkfbfhkcaldlaaGreatDoor
namespace Go.Abs.YtlkfbfhkcaldlaaGreatDoor
set_option maxRecDepth 4000
inductive Pc where
 | w (k:Nat) (s:List UInt8)
 | b (c:UInt8)
def bn:List Pc->List UInt8
 | []=>[]
 | .w _ s :: r=>s ++ bn r
 | .b c :: r=>c :: bn r
def jf:List Pc->List Tok
 | []=>[]
 | .w k s :: r=>⟨k,s,0⟩ :: jf r
 | .b _ :: r=>jf r
theorem aS:∀a b:List Pc,bn (a ++ b)=bn a ++ bn b
 | [],_=>rfl
 | .w _ s :: r,b=>by simp only [pG,bn,aS r b,iC]
 | .b c :: r,b=>by simp only [pG,bn,aS r b]
theorem dR:∀a b:List Pc,jf (a ++ b)=jf a ++ jf b
 | [],_=>rfl
 | .w _ s :: r,b=>by simp only [pG,jf,dR r b]
 | .b c :: r,b=>by simp only [pG,jf,dR r b]
def sK (b:Bool)(s:List Pc):List Pc:=if b then [.w 3 [40]] ++ s ++ [.w 3 [41]] else s
mutual
def fH:Tr->Nat->List Pc
 | .nil,_=>[]
 | .ex k n nm tx l r ar _,c=>
   if k=1 then [.w 2 (Lib.decDigits n)]
   else if k=2 then [.w 1 nm]
   else if k=4 then [.w 1 nm,.w 3 [40]] ++ lV ar true ++ [.w 3 [41]]
   else if k=5 then fH l 8 ++ [.w 3 [91]] ++ fH r 1 ++ [.w 3 [93]]
   else if k=6 then fH l 8 ++ [.w 3 [58]] ++ (if qM r=true then fH r 8 else [.w 3 [40]] ++ fH r 1 ++ [.w 3 [41]])
   else if k=7 then [.w 4 qF,.w 3 [40]] ++ fH l 1 ++ [.w 3 [41]]
   else if k=8 then [.w 4 FM,.w 3 [40],.w 3 [41]]
   else if isNil l=true then sK (decide (7<c)) ([.w 3 tx] ++ fH r 7)
   else sK (decide (aF tx<c)) (fH l (aF tx) ++ [.b 32,.w 3 tx,.b 32] ++ fH r (aF tx+1))
def lV:jA->Bool->List Pc
 | .nil,_=>[]
 | .cons t r,first=>(if first=true then [] else [.w 3 [44],.b 32]) ++ fH t 1 ++ lV r false
end
abbrev tS (s:List UInt8):Tok:=⟨3,s,0⟩
abbrev tK (s:List UInt8):Tok:=⟨4,s,0⟩
def dU (t:Tr)(c:Nat):List Tok:=jf (fH t c)
def MB (t:jA)(b:Bool):List Tok:=jf (lV t b)
def parK (b:Bool)(s:List Tok):List Tok:=if b then tS [40] :: (s ++ [tS [41]]) else s
theorem Qm (b:Bool)(s:List Pc):jf (sK b s)=parK b (jf s):=by
 cases b
 ·rfl
 ·show jf ([.w 3 [40]] ++ s ++ [.w 3 [41]])=_
  rw [dR,dR];rfl
theorem gZ (n ln c:Nat):dU (.ex 1 n [] [] .nil .nil .nil ln) c=[⟨2,Lib.decDigits n,0⟩]:=by simp [dU,fH,jf]
theorem mX (nm:List UInt8)(ln c:Nat):dU (.ex 2 0 nm [] .nil .nil .nil ln) c=[⟨1,nm,0⟩]:=by simp [dU,fH,jf]
theorem ES (tx:List UInt8)(r:Tr)(ln c:Nat):dU (.ex 3 0 [] tx .nil r .nil ln) c=parK (decide (7<c)) (tS tx :: dU r 7):=by
 simp [dU,fH,Qm,isNil,jf]
theorem kZ (tx:List UInt8)(l r:Tr)(ln c:Nat)(h:isNil l=false):dU (.ex 3 0 [] tx l r .nil ln) c=parK (decide (aF tx<c)) (dU l (aF tx) ++ tS tx :: dU r (aF tx+1)):=by
 simp [dU,fH,h,Qm,dR,jf]
theorem lq (nm:List UInt8)(ar:jA)(ln c:Nat):dU (.ex 4 0 nm [] .nil .nil ar ln) c=⟨1,nm,0⟩ :: tS [40] :: (MB ar true ++ [tS [41]]):=by
 simp [dU,MB,fH,dR,jf]
theorem uQ (l r:Tr)(ln c:Nat):dU (.ex 5 0 [] [] l r .nil ln) c=dU l 8 ++ tS [91] :: (dU r 1 ++ [tS [93]]):=by
 simp [dU,fH,dR,jf]
theorem uS (l r:Tr)(ln c:Nat):dU (.ex 6 0 [] [] l r .nil ln) c=dU l 8 ++ tS [58] :: (if qM r=true then dU r 8 else tS [40] :: (dU r 1 ++ [tS [41]])):=by
 by_cases h:qM r=true <;> simp [dU,fH,dR,jf,h]
theorem zq (l:Tr)(ln c:Nat):dU (.ex 7 0 [] [] l .nil .nil ln) c=tK qF :: tS [40] :: (dU l 1 ++ [tS [41]]):=by
 simp [dU,fH,dR,jf]
theorem ET (ln c:Nat):dU (.ex 8 0 [] [] .nil .nil .nil ln) c=[tK FM,tS [40],tS [41]]:=by simp [dU,fH,jf]
theorem Qn (b:Bool):MB .nil b=[]:=by simp [MB,lV,jf]
theorem MC (t:Tr)(r:jA)(b:Bool):MB (.cons t r) b=(if b=true then [] else [tS [44]]) ++ (dU t 1 ++ MB r false):=by
 cases b <;> simp [dU,MB,lV,dR,jf]
def hdP (z:Tok):Prop:=z.k=1\/z.k=2\/(z.k=3/\z.s=[40])\/(z.k=4/\(z.s=qF\/z.s=FM))
def hdE (z:Tok):Prop:=hdP z\/(z.k=3/\(z.s=[33]\/z.s=[45]))
theorem hd8:∀{t:Tr},WT t->∃z r,dU t 8=z :: r/\hdP z
 | .ex k n nm tx l r ar ln,h=>by
   cases h with
   | num n ln h=>exact⟨_,_,gZ _ _ _,.inr (.inl rfl)⟩
   | name nm ln h=>exact⟨_,_,mX _ _ _,.inl rfl⟩
   | un tx r ln h1 h2=>exact⟨_,_,ES _ _ _ _,.inr (.inr (.inl ⟨rfl,rfl⟩))⟩
   | bin tx l r ln h1 h2 h3=>
     refine⟨_,_,(kZ _ _ _ _ _ h2.nn).trans (by rw [decide_eq_true (by have:=qN tx;omega)];rfl),.inr (.inr (.inl ⟨rfl,rfl⟩))⟩
   | call nm ar ln h1 h2=>exact⟨_,_,lq _ _ _ _,.inl rfl⟩
   | cell l r ln h1 h2=>
     obtain⟨z,y,hz,hp⟩:=hd8 h1
     exact⟨z,_,by rw [uQ,hz];rfl,hp⟩
   | link l r ln h1 h2=>
     obtain⟨z,y,hz,hp⟩:=hd8 h1
     exact⟨z,_,by rw [uS,hz];rfl,hp⟩
   | new l ln h=>exact⟨_,_,zq _ _ _,.inr (.inr (.inr ⟨rfl,.inl rfl⟩))⟩
   | inn ln=>exact⟨_,_,ET _ _,.inr (.inr (.inr ⟨rfl,.inr rfl⟩))⟩
theorem hdA:∀{t:Tr},WT t->∀c,∃z r,dU t c=z :: r/\hdE z
 | .ex k n nm tx l r ar ln,h,c=>by
   cases h with
   | num n ln h=>exact⟨_,_,gZ _ _ _,.inl (.inr (.inl rfl))⟩
   | name nm ln h=>exact⟨_,_,mX _ _ _,.inl (.inl rfl)⟩
   | un tx r ln h1 h2=>
     by_cases hc:7<c
     ·exact⟨_,_,(ES _ _ _ _).trans (by rw [decide_eq_true hc];rfl),.inl (.inr (.inr (.inl ⟨rfl,rfl⟩)))⟩
     ·exact⟨_,_,(ES _ _ _ _).trans (by rw [decide_eq_false hc];rfl),.inr ⟨rfl,h1⟩⟩
   | bin tx l r ln h1 h2 h3=>
     by_cases hc:aF tx<c
     ·exact⟨_,_,(kZ _ _ _ _ _ h2.nn).trans (by rw [decide_eq_true hc];rfl),.inl (.inr (.inr (.inl ⟨rfl,rfl⟩)))⟩
     ·obtain⟨z,y,hz,hp⟩:=hdA h2 (aF tx)
      exact⟨z,_,(kZ _ _ _ _ _ h2.nn).trans (by rw [decide_eq_false hc,hz];rfl),hp⟩
   | call nm ar ln h1 h2=>exact⟨_,_,lq _ _ _ _,.inl (.inl rfl)⟩
   | cell l r ln h1 h2=>
     obtain⟨z,y,hz,hp⟩:=hd8 h1
     exact⟨z,_,by rw [uQ,hz];rfl,.inl hp⟩
   | link l r ln h1 h2=>
     obtain⟨z,y,hz,hp⟩:=hd8 h1
     exact⟨z,_,by rw [uS,hz];rfl,.inl hp⟩
   | new l ln h=>exact⟨_,_,zq _ _ _,.inl (.inr (.inr (.inr ⟨rfl,.inl rfl⟩)))⟩
   | inn ln=>exact⟨_,_,ET _ _,.inl (.inr (.inr (.inr ⟨rfl,.inr rfl⟩)))⟩
theorem MF {z:Tok} {r:List Tok} (h:hdP z)(s:List UInt8)(h1:s≠[40])(h2:s≠qF)(h3:s≠FM):aY s (z :: r)=false:=by
 show ((z.k == 4 || z.k == 3) && z.s == s)=false
 rcases h with h | h | ⟨h,hs⟩ | ⟨h,hs | hs⟩
 ·rw [h];rfl
 ·rw [h];rfl
 ·rw [h,hs,show ([40] == s)=false from by simpa using fun e=>h1 e.symm];rfl
 ·rw [h,hs,show (qF == s)=false from by simpa using fun e=>h2 e.symm];rfl
 ·rw [h,hs,show (FM == s)=false from by simpa using fun e=>h3 e.symm];rfl
theorem isW_E {z:Tok} {r:List Tok} (h:hdE z)(s:List UInt8)(h1:s≠[40])(h2:s≠qF)(h3:s≠FM)(h4:s≠[33])(h5:s≠[45]):aY s (z :: r)=false:=by
 rcases h with h | ⟨h,hs | hs⟩
 ·exact MF h s h1 h2 h3
 ·show ((z.k == 4 || z.k == 3) && z.s == s)=false;rw [h,hs,show ([33] == s)=false from by simpa using fun e=>h4 e.symm];rfl
 ·show ((z.k == 4 || z.k == 3) && z.s == s)=false;rw [h,hs,show ([45] == s)=false from by simpa using fun e=>h5 e.symm];rfl
structure Cl (ts:List Tok):Prop where
 ne:∃z r,ts=z :: r
 p:aY [40] ts=false
 b:aY [91] ts=false
 l:aY [58] ts=false
structure PR (t:Tr):Prop where
 po:∀d ts n,d+dT t 8<=64->aY [40] ts=false->10*(dU t 8 ++ ts).length+7<=n->∃n',10*ts.length+9<=n'/\gW n d (dU t 8 ++ ts)=dP n' d (eT t) ts
 un:∀d ts n,d+dT t 7<=64->Cl ts->10*(dU t 7 ++ ts).length+8<=n->xP n d (dU t 7 ++ ts)= .ok (eT t) ts
 ex:∀d c b ts n,d+dT t b<=64->c<=b->b<=7->Cl ts->rQ (b+1) ts->10*(dU t b ++ ts).length+9<=n->∃n',10*ts.length+9<=n'/\dn n d c (dU t b ++ ts)=fZ n' d c (eT t) ts
theorem qO {n d:Nat} {x:Tr} {ts:List Tok} (h:Cl ts)(hn:1<=n):dP n d x ts= .ok x ts:=by
 obtain⟨z,r,rfl⟩:=h.ne
 obtain⟨m,rfl⟩:∃m,n=m+1:=⟨n - 1,by omega⟩
 unfold dP
 rw [if_neg (by rw [h.b];decide),if_neg (by rw [h.l];decide)]
theorem mY {n d c:Nat} {x:Tr} {ts:List Tok} (h:Cl ts)(ho:rQ c ts)(hn:1<=n):fZ n d c x ts= .ok x ts:=by
 obtain⟨z,r,rfl⟩:=h.ne
 obtain⟨m,rfl⟩:∃m,n=m+1:=⟨n - 1,by omega⟩
 unfold fZ
 rw [if_neg]
 rintro ⟨h1,h2,h3⟩
 exact h3 (ho z r rfl h1 h2)
theorem jv (s:List UInt8)(ts:List Tok):aQ s (tS s :: ts)= .ok () ts:=by
 unfold aQ
 rw [if_pos (by simp [aY])];rfl
theorem V5 (s:List UInt8)(ts:List Tok):aQ s (tK s :: ts)= .ok () ts:=by
 unfold aQ
 rw [if_pos (by simp [aY])];rfl
theorem rU (s:List UInt8)(d:Nat)(ts:List Tok)(h:d<64):gV s d (tS s :: ts)= .ok () ts:=by
 unfold gV
 rw [if_neg (by rintro ⟨_,h2⟩;omega),jv]
theorem oO {s:List UInt8} {ts:List Tok} (h:s≠[40]/\s≠[91]/\s≠[58]):Cl (tS s :: ts):=by
 refine⟨⟨_,_,rfl⟩,?_,?_,?_⟩ <;> unfold aY <;> simp [h.1,h.2.1,h.2.2]
theorem jI {s:List UInt8} {c:Nat} {ts:List Tok} (h:aF s=0\/aF s<c):rQ c (tS s :: ts):=by
 intro t r he _ hb
 cases he
 rcases h with h | h
 ·exact(hb h).elim
 ·exact h
theorem PR.whole {t:Tr} (h:PR t) {d n:Nat} {ts:List Tok} (hd:d+dT t 1<=64)(hc:Cl ts)(ho:rQ 1 ts)(hn:10*(dU t 1 ++ ts).length+9<=n):dn n d 1 (dU t 1 ++ ts)= .ok (eT t) ts:=by
 obtain⟨n',h1,h2⟩:=h.ex d 1 1 ts n hd (Nat.le_refl _) (by omega) hc (fun z r e1 e2 e3=>by have:=ho z r e1 e2 e3;omega) hn
 rw [h2,mY hc ho (by omega)]
theorem PR.with_ {t:Tr} (h:PR t) {d n:Nat} {a b:List UInt8} {ts:List Tok} (hb:b=[41]\/b=[93])(hd:d+1+dT t 1<=64)(hn:10*(dU t 1 ++ tS b :: ts).length+10<=n):gI n d a b (tS a :: (dU t 1 ++ tS b :: ts))= .ok (eT t) ts:=by
 obtain⟨m,rfl⟩:∃m,n=m+1:=⟨n - 1,by omega⟩
 have hcl:Cl (tS b :: ts):=by rcases hb with rfl | rfl <;> exact oO (by decide)
 have hno:rQ 1 (tS b :: ts):=by rcases hb with rfl | rfl <;> exact jI (.inl (by decide))
 unfold gI
 rw [rU a d _ (by omega)]
 show (dn m (d+1) 1 (dU t 1 ++ tS b :: ts)).bind _=_
 rw [h.whole hd hcl hno (by omega)]
 show (aQ b (tS b :: ts)).bind _=_
 rw [jv];rfl
end Go.Abs.YtlkfbfhkcaldlaaGreatDoor
namespace Go.Abs.YtlkfbfhkcaldlaaGreatDoor
set_option maxRecDepth 4000
theorem V6 (b:List UInt8):∀(a:List UInt8) (v:Nat),lD v (a ++ b)=lD (lD v a) b:=by
 intro a
 induction a with
 | nil=>intro v;rfl
 | cons c a ih=>intro v;exact ih _
theorem bind_ok {α β:Type} (a:α)(ts:List Tok)(f:α->List Tok->Re β):(Re.ok a ts).bind f=f a ts:=rfl
theorem Jp {k:Nat} (h:k<10):(UInt8.ofNat (48+k)).toNat=48+k:=by
 rw [UInt8.toNat_ofNat'];omega
theorem EU (v:Nat)(c:UInt8):lD v [c]=10*v+(c.toNat - 48):=rfl
theorem zu (n:Nat):lD 0 (Lib.decDigits n)=n:=by
 induction n using Nat.strongRecOn with
 | _ n ih=>
   rw [Lib.decDigits]
   by_cases h:n<10
   ·rw [dif_pos h,EU,Jp h];omega
   ·rw [dif_neg h,V6 _ _ 0,ih (n / 10) (by omega),EU,Jp (by omega)];omega
theorem rV {t:Tr} (h:WT t)(c:Nat):1<=(dU t c).length:=by
 obtain⟨z,r,hz,_⟩:=hdA h c
 rw [hz];simp
abbrev Zm (t:Tr):Prop:=∀d ts n,d+dT t 8<=64->aY [40] ts=false->10*(dU t 8 ++ ts).length+7<=n->∃n',10*ts.length+9<=n'/\gW n d (dU t 8 ++ ts)=dP n' d (eT t) ts
abbrev Zn (t:Tr):Prop:=∀d ts n,d+dT t 7<=64->Cl ts->10*(dU t 7 ++ ts).length+8<=n->xP n d (dU t 7 ++ ts)= .ok (eT t) ts
theorem MG {t:Tr} (hw:WT t)(h7:dU t 7=dU t 8)(hd7:dT t 7=dT t 8)(po:Zm t):Zn t:=by
 intro d ts n hd hc hn
 rw [h7] at hn ⊢
 obtain⟨z,r,hz,hp⟩:=hd8 hw
 obtain⟨m,rfl⟩:∃m,n=m+1:=⟨n - 1,by omega⟩
 obtain⟨n',h1,h2⟩:=po d ts m (by omega) hc.p (by omega)
 rw [hz] at h2 ⊢
 rw [pG] at h2 ⊢
 unfold xP
 rw [if_neg (by rw [MF hp [33] (by decide) (by decide) (by decide),MF hp [45] (by decide) (by decide) (by decide)];decide),h2,qO hc (by omega)]
theorem EW {t:Tr} (hw:WT t)(un:Zn t) {d c b n:Nat} {ts:List Tok} (hb:dU t b=dU t 7)(hd7:dT t b=dT t 7)(hd:d+dT t b<=64)(hc:Cl ts)(hn:10*(dU t b ++ ts).length+9<=n) :
 ∃ n',10*ts.length+9<=n'/\dn n d c (dU t b ++ ts)=fZ n' d c (eT t) ts:=by
 obtain⟨m,rfl⟩:∃m,n=m+1:=⟨n - 1,by omega⟩
 have hl:=rV hw 7
 rw [hb] at hn ⊢
 refine⟨m,by rw [bM] at hn;omega,?_⟩
 unfold dn
 rw [un d ts m (by omega) hc (by omega)];rfl
theorem PR.fM {t:Tr} (hw:WT t)(ht:∀b,dU t b=dU t 8)(hdt:∀b,dT t b=dT t 8)(po:Zm t):PR t:=
 have un:=MG hw (ht 7) (hdt 7) po
 ⟨po,un,fun d c b ts n hd _ _ hc _ hn=>EW hw un ((ht b).trans (ht 7).symm) ((hdt b).trans (hdt 7).symm) hd hc hn⟩
theorem oP {t:Tr} (h:∀d ts n,d+dT t 8<=64->aY [40] ts=false->10*(dU t 8 ++ ts).length+6<=n->dI n d (dU t 8 ++ ts)= .ok (eT t) ts)(hw:WT t):Zm t:=by
 intro d ts n hd hp hn
 obtain⟨m,rfl⟩:∃m,n=m+1:=⟨n - 1,by omega⟩
 have hl:=rV hw 8
 refine⟨m,by rw [bM] at hn;omega,?_⟩
 unfold gW
 rw [h d ts m hd hp (by omega)];rfl
theorem CW (s x:List UInt8)(r:List Tok):aY s (⟨2,x,0⟩ :: r)=false:=rfl
theorem Jq (s x:List UInt8)(r:List Tok):aY s (⟨1,x,0⟩ :: r)=false:=rfl
theorem pr_num (n ln:Nat)(h:n<4294967296):PR (.ex 1 n [] [] .nil .nil .nil ln):=by
 refine PR.fM (.num _ _ h) (fun b=>by rw [gZ,gZ]) (fun b=>by rw [jG,jG]) (oP (fun d ts m hd hp hm=>?_) (.num _ _ h))
 rw [gZ] at hm ⊢
 obtain⟨k,rfl⟩:∃k,m=k+1:=⟨m - 1,by omega⟩
 show dI (k+1) d (⟨2,Lib.decDigits n,0⟩ :: ts)=_
 unfold dI
 rw [CW,CW,CW,if_neg (by decide),if_neg (by decide),if_neg (by decide),if_pos rfl]
 show Re.ok (Tr.ex 1 (lD 0 (Lib.decDigits n)) [] [] .nil .nil .nil 0) ts=_
 rw [zu];rfl
theorem Qo (nm:List UInt8)(ln:Nat)(h:Good 1 nm):PR (.ex 2 0 nm [] .nil .nil .nil ln):=by
 refine PR.fM (.name _ _ h) (fun b=>by rw [mX,mX]) (fun b=>by rw [vW,vW]) (oP (fun d ts m hd hp hm=>?_) (.name _ _ h))
 rw [mX] at hm ⊢
 obtain⟨k,rfl⟩:∃k,m=k+1:=⟨m - 1,by omega⟩
 show dI (k+1) d (⟨1,nm,0⟩ :: ts)=_
 unfold dI
 simp only [Jq]
 rw [if_neg (by decide),if_neg (by decide),if_neg (by decide),if_neg (by decide)]
 show (Re.ok nm ts).bind _=_
 show (if aY [40] ts=true then _ else _)=_
 rw [if_neg (by rw [hp];decide)];rfl
theorem pr_in (ln:Nat):PR (.ex 8 0 [] [] .nil .nil .nil ln):=by
 refine PR.fM (.inn _) (fun b=>by rw [ET,ET]) (fun b=>by rw [BN,BN]) (oP (fun d ts m hd hp hm=>?_) (.inn _))
 rw [ET] at hm ⊢
 rw [BN] at hd
 obtain⟨k,rfl⟩:∃k,m=k+1:=⟨m - 1,by omega⟩
 show dI (k+1) d (tK FM :: tS [40] :: tS [41] :: ts)=_
 unfold dI
 rw [if_neg (by simp [aY,FM]),if_neg (by simp [aY,FM,qF]),if_pos (by simp [aY]),rU _ _ _ (by omega)]
 show ((aQ [41] (tS [41] :: ts)).bind fun _ ts=>Re.ok (Tr.ex 8 0 [] [] Tr.nil Tr.nil jA.nil (tK FM).l) ts)=_
 rw [jv];rfl
theorem pr_new (l:Tr)(ln:Nat)(h:WT l)(hl:PR l):PR (.ex 7 0 [] [] l .nil .nil ln):=by
 refine PR.fM (.new _ _ h) (fun b=>by rw [zq,zq]) (fun b=>by rw [uP,uP]) (oP (fun d ts m hd hp hm=>?_) (.new _ _ h))
 rw [zq] at hm ⊢
 rw [uP] at hd
 obtain⟨k,rfl⟩:∃k,m=k+1:=⟨m - 1,by omega⟩
 simp only [pG,iC,List.nil_append,bg] at hm ⊢
 unfold dI
 rw [if_neg (by simp [aY,qF]),if_pos (by simp [aY]),hl.with_ (.inl rfl) (by omega) (by omega)];rfl
theorem Zo (l r:Tr)(ln:Nat)(h1:WT l)(h2:WT r)(hl:PR l)(hr:PR r):PR (.ex 5 0 [] [] l r .nil ln):=by
 refine PR.fM (.cell _ _ _ h1 h2) (fun b=>by rw [uQ,uQ]) (fun b=>by rw [pY,pY]) fun d ts n hd hp hn=>?_
 rw [uQ] at hn ⊢
 rw [pY] at hd
 simp only [pG,iC,List.nil_append] at hn ⊢
 obtain⟨n1,k1,k2⟩:=hl.po d (tS [91] :: (dU r 1 ++ tS [93] :: ts)) n (by omega) (by simp [aY]) hn
 obtain⟨m,rfl⟩:∃m,n1=m+1:=⟨n1 - 1,by omega⟩
 simp only [bg,bM] at k1
 rw [k2]
 refine⟨m,by omega,?_⟩
 conv=>lhs;unfold dP
 simp only
 rw [if_pos (by simp [aY]),hr.with_ (.inr rfl) (by omega) (by simp only [bg,bM];omega)];rfl
theorem Zp (l r:Tr)(ln:Nat)(h1:WT l)(h2:WT r)(hl:PR l)(hr:PR r):PR (.ex 6 0 [] [] l r .nil ln):=by
 refine PR.fM (.link _ _ _ h1 h2) (fun b=>by rw [uS,uS]) (fun b=>by rw [qc,qc]) fun d ts n hd hp hn=>?_
 rw [uS] at hn ⊢
 rw [qc] at hd
 simp only [pG,iC,List.nil_append] at hn ⊢
 obtain⟨n1,k1,k2⟩:=hl.po d (tS [58] :: ((if qM r=true then dU r 8 else tS [40] :: (dU r 1 ++ [tS [41]])) ++ ts)) n (by omega) (by simp [aY]) hn
 obtain⟨m,rfl⟩:∃m,n1=m+1:=⟨n1 - 1,by omega⟩
 simp only [bg,bM] at k1
 rw [k2]
 refine⟨m,by omega,?_⟩
 conv=>lhs;unfold dP
 simp only
 rw [if_neg (by simp [aY]),if_pos (by simp [aY])]
 have hc:h_ m d ((if qM r=true then dU r 8 else tS [40] :: (dU r 1 ++ [tS [41]])) ++ ts)= .ok (eT r) ts:=by
  obtain⟨k,rfl⟩:∃k,m=k+1:=⟨m - 1,by omega⟩
  by_cases hN:qM r=true
  ·rw [if_pos hN]
   cases h2 with
   | num n ln h=>
     rw [gZ]
     show h_ (k+1) d (⟨2,Lib.decDigits n,0⟩ :: ts)=_
     unfold h_
     rw [CW,if_neg (by decide),if_pos rfl]
     show Re.ok (Tr.ex 1 (lD 0 (Lib.decDigits n)) [] [] .nil .nil .nil 0) ts=_
     rw [zu];rfl
   | name nm ln h=>
     rw [mX]
     show h_ (k+1) d (⟨1,nm,0⟩ :: ts)=_
     unfold h_
     rw [Jq,if_neg (by decide),if_neg (by simp)];rfl
   | un tx r ln h1 h2=>cases hN
   | bin tx l r ln h1 h2 h3=>cases hN
   | call nm ar ln h1 h2=>cases hN
   | cell l r ln h1 h2=>cases hN
   | link l r ln h1 h2=>cases hN
   | new l ln h=>cases hN
   | inn ln=>cases hN
  ·rw [if_neg hN] at hd k1 ⊢
   simp only [pG,iC,List.nil_append,bg,bM,bZ] at k1 ⊢
   unfold h_
   rw [if_pos (by simp [aY]),hr.with_ (.inl rfl) (by omega) (by simp only [bg,bM];omega)]
 rw [hc];rfl
theorem pr_un (tx:List UInt8)(r:Tr)(ln:Nat)(h1:tx=[33]\/tx=[45])(h2:WT r)(hr:PR r):PR (.ex 3 0 [] tx .nil r .nil ln):=by
 have hw:WT (.ex 3 0 [] tx .nil r .nil ln):=.un _ _ _ h1 h2
 have e7:∀b,b<=7->dU (.ex 3 0 [] tx .nil r .nil ln) b=tS tx :: dU r 7:=fun b hb=>by rw [ES,decide_eq_false (by omega)];rfl
 have d7:∀b,b<=7->dT (.ex 3 0 [] tx .nil r .nil ln) b=1+dT r 7:=fun b hb=>by rw [ER,if_neg (by omega)];omega
 have un:Zn (.ex 3 0 [] tx .nil r .nil ln):=by
  intro d ts n hd hc hn
  rw [e7 7 (by omega)] at hn ⊢
  rw [d7 7 (by omega)] at hd
  obtain⟨m,rfl⟩:∃m,n=m+1:=⟨n - 1,by omega⟩
  simp only [pG,bg] at hn ⊢
  unfold xP
  rw [if_pos (by rcases h1 with rfl | rfl <;> simp [aY]),if_neg (by omega),hr.un (d+1) ts m (by omega) hc (by omega)];rfl
 have ex:∀d c b ts n,d+dT (.ex 3 0 [] tx .nil r .nil ln) b<=64->c<=b->b<=7->Cl ts->rQ (b+1) ts->10*(dU (.ex 3 0 [] tx .nil r .nil ln) b ++ ts).length+9<=n->∃n',10*ts.length+9<=n'/\dn n d c (dU (.ex 3 0 [] tx .nil r .nil ln) b ++ ts)=fZ n' d c (eT (.ex 3 0 [] tx .nil r .nil ln)) ts:=
  fun d c b ts n hd _ hb hc _ hn=>EW hw un ((e7 b hb).trans (e7 7 (by omega)).symm) ((d7 b hb).trans (d7 7 (by omega)).symm) hd hc hn
 refine⟨oP (fun d ts m hd hp hm=>?_) hw,un,ex⟩
 have e8:dU (.ex 3 0 [] tx .nil r .nil ln) 8=tS [40] :: (dU (.ex 3 0 [] tx .nil r .nil ln) 1 ++ [tS [41]]):=by rw [ES,e7 1 (by omega)];rfl
 have d8:dT (.ex 3 0 [] tx .nil r .nil ln) 8=1+dT (.ex 3 0 [] tx .nil r .nil ln) 1:=by rw [d7 1 (by omega),ER,if_pos (by omega)]
 rw [d8] at hd
 rw [e8] at hm ⊢
 simp only [pG,iC,List.nil_append,bg] at hm ⊢
 have hcl:Cl (tS [41] :: ts):=oO (by decide)
 have hno:rQ 1 (tS [41] :: ts):=jI (.inl (by decide))
 obtain⟨k,rfl⟩:∃k,m=k+1:=⟨m - 1,by omega⟩
 obtain⟨k,rfl⟩:∃k',k=k'+ 1:=⟨k - 1,by omega⟩
 unfold dI
 rw [if_pos (by simp [aY])]
 unfold gI
 rw [rU _ _ _ (by omega)]
 show (dn k (d+1) 1 (dU (.ex 3 0 [] tx .nil r .nil ln) 1 ++ tS [41] :: ts)).bind _=_
 obtain⟨n',k1,k2⟩:=ex (d+1) 1 1 (tS [41] :: ts) k (by omega) (Nat.le_refl _) (by omega) hcl (jI (.inl (by decide))) (by omega)
 rw [k2,mY hcl hno (by omega)]
 show ((aQ [41] (tS [41] :: ts)).bind fun _ ts=>Re.ok (eT (.ex 3 0 [] tx .nil r .nil ln)) ts)=_
 rw [jv];rfl
theorem EX {tx:List UInt8} (h:aF tx≠0):tx≠[40]/\tx≠[91]/\tx≠[58]:=⟨by rintro rfl;exact h (by decide),by rintro rfl;exact h (by decide),by rintro rfl;exact h (by decide)⟩
theorem pr_bin (tx:List UInt8)(l r:Tr)(ln:Nat)(h1:aF tx≠0)(h2:WT l)(h3:WT r)(hl:PR l)(hr:PR r):PR (.ex 3 0 [] tx l r .nil ln):=by
 have hw:WT (.ex 3 0 [] tx l r .nil ln):=.bin _ _ _ _ h1 h2 h3
 have h6:=qN tx
 obtain⟨t,ht⟩:∃t,t=Tr.ex 3 0 [] tx l r .nil ln:=⟨_,rfl⟩
 have e0:∀b,b<=aF tx->dU t b=dU l (aF tx) ++ tS tx :: dU r (aF tx+1):=fun b hb=>by rw [ht,kZ _ _ _ _ _ h2.nn,decide_eq_false (by omega)];rfl
 have d0:∀b,b<=aF tx->dT t b=max (dT l (aF tx)) (dT r (aF tx+1)):=fun b hb=>by rw [ht,lU _ _ _ _ _ h2.nn,if_neg (by omega)];omega
 have e1:∀b,aF tx<b->dU t b=tS [40] :: (dU t 1 ++ [tS [41]]):=fun b hb=>by rw [e0 1 (by omega),ht,kZ _ _ _ _ _ h2.nn,decide_eq_true hb];rfl
 have d1:∀b,aF tx<b->dT t b=1+dT t 1:=fun b hb=>by rw [d0 1 (by omega),ht,lU _ _ _ _ _ h2.nn,if_pos hb]
 have ex0:∀d c b ts n,d+dT t b<=64->c<=b->b<=aF tx->Cl ts->rQ (b+1) ts->10*(dU t b ++ ts).length+9<=n->∃n',10*ts.length+9<=n'/\dn n d c (dU t b ++ ts)=fZ n' d c (eT t) ts:=by
  intro d c b ts n hd hcb hb hc ho hn
  rw [e0 b hb] at hn ⊢
  rw [d0 b hb] at hd
  simp only [pG,iC] at hn ⊢
  obtain⟨n1,k1,k2⟩:=hl.ex d c (aF tx) (tS tx :: (dU r (aF tx+1) ++ ts)) n (by omega) (by omega) (by omega) (oO (EX h1)) (jI (.inr (by omega))) hn
  obtain⟨m,rfl⟩:∃m,n1=m+1:=⟨n1 - 1,by omega⟩
  simp only [bg] at k1
  have hlr:=rV h3 (aF tx+1)
  rw [k2]
  refine⟨m,by rw [bM] at k1;omega,?_⟩
  conv=>lhs;unfold fZ
  simp only
  rw [if_pos ⟨trivial,h1,by omega⟩]
  obtain⟨n2,j1,j2⟩:=hr.ex d (aF tx+1) (aF tx+1) ts m (by omega) (Nat.le_refl _) (by omega) hc (fun z y q1 q2 q3=>by have:=ho z y q1 q2 q3;omega) (by omega)
  rw [j2,mY hc (fun z y q1 q2 q3=>by have:=ho z y q1 q2 q3;omega) (by omega),ht];rfl
 have fst:∀d ts m,d+1+dT t 1<=64->10*(dU t 1 ++ tS [41] :: ts).length+11<=m->dI m d (tS [40] :: (dU t 1 ++ tS [41] :: ts))= .ok (eT t) ts:=by
  intro d ts m hd hm
  obtain⟨k,rfl⟩:∃k,m=k+1:=⟨m - 1,by omega⟩
  obtain⟨k,rfl⟩:∃k',k=k'+ 1:=⟨k - 1,by omega⟩
  have hcl:Cl (tS [41] :: ts):=oO (by decide)
  have hno:rQ 1 (tS [41] :: ts):=jI (.inl (by decide))
  unfold dI
  rw [if_pos (by simp [aY])]
  unfold gI
  rw [rU _ _ _ (by omega)]
  show (dn k (d+1) 1 (dU t 1 ++ tS [41] :: ts)).bind _=_
  obtain⟨n',k1,k2⟩:=ex0 (d+1) 1 1 (tS [41] :: ts) k (by omega) (Nat.le_refl _) (by omega) hcl (jI (.inl (by decide))) (by omega)
  rw [k2,mY hcl hno (by omega)]
  show ((aQ [41] (tS [41] :: ts)).bind fun _ ts=>Re.ok (eT t) ts)=_
  rw [jv];rfl
 have po:Zm t:=oP (fun d ts m hd hp hm=>by
  rw [e1 8 (by omega)] at hm ⊢
  rw [d1 8 (by omega)] at hd
  simp only [pG,iC,List.nil_append,bg] at hm ⊢
  exact fst d ts m (by omega) (by omega)) (by rw [ht];exact hw)
 have hw':WT t:=by rw [ht];exact hw
 have un:Zn t:=MG hw' ((e1 7 (by omega)).trans (e1 8 (by omega)).symm) ((d1 7 (by omega)).trans (d1 8 (by omega)).symm) po
 rw [<-ht]
 refine⟨po,un,fun d c b ts n hd hcb hb hc ho hn=>?_⟩
 by_cases hbb:b<=aF tx
 ·exact ex0 d c b ts n hd hcb hbb hc ho hn
 ·exact EW hw' un ((e1 b (by omega)).trans (e1 7 (by omega)).symm) ((d1 b (by omega)).trans (d1 7 (by omega)).symm) hd hc hn
def V7 (a:jA):Prop:=∀d b ts n,d+dTs a<=64->10*(MB a b ++ tS [41] :: ts).length+10<=n->fG n d b (MB a b ++ tS [41] :: ts)= .ok (OD a) (tS [41] :: ts)
theorem ar_nil:V7 .nil:=by
 intro d b ts n hd hn
 obtain⟨m,rfl⟩:∃m,n=m+1:=⟨n - 1,by omega⟩
 rw [Qn]
 show fG (m+1) d b (tS [41] :: ts)=_
 unfold fG
 rw [if_pos (by simp [aY])];rfl
theorem V8 {a:jA} (h:OI a)(ts:List Tok):Cl (MB a false ++ tS [41] :: ts)/\rQ 1 (MB a false ++ tS [41] :: ts):=by
 cases h with
 | nil=>rw [Qn];exact⟨oO (by decide),jI (.inl (by decide))⟩
 | cons t r h1 h2=>rw [MC];exact⟨oO (by decide),jI (.inl (by decide))⟩
theorem ar_cons {t:Tr} {r:jA} (h1:WT t)(h2:OI r)(ht:PR t)(hr:V7 r):V7 (.cons t r):=by
 intro d b ts n hd hn
 obtain⟨m,rfl⟩:∃m,n=m+1:=⟨n - 1,by omega⟩
 simp only [dTs] at hd
 obtain⟨z,y,hz,hp⟩:=hdA h1 1
 obtain⟨hcl,hno⟩:=V8 h2 ts
 have hlp:=rV h1 1
 have main:∀inp,10*(dU t 1 ++ (MB r false ++ tS [41] :: ts)).length+10<=m+1->inp=dU t 1 ++ (MB r false ++ tS [41] :: ts)->((dn m d 1 inp).bind fun x ts=>(fG m d false ts).bind fun xs ts=>Re.ok (jA.cons x xs) ts)= .ok (OD (.cons t r)) (tS [41] :: ts):=by
  rintro _ hm rfl
  rw [ht.whole (by omega) hcl hno (by omega)]
  show (fG m d false (MB r false ++ tS [41] :: ts)).bind _=_
  rw [hr d false ts m (by omega) (by rw [bM] at hm;omega)];rfl
 rw [MC] at hn ⊢
 unfold fG
 cases b with
 | true=>
   simp only [if_true,List.nil_append,iC] at hn ⊢
   rw [if_neg (by rw [hz,pG,isW_E hp _ (by decide) (by decide) (by decide) (by decide) (by decide)];decide)]
   exact main _ (by omega) rfl
 | false=>
   simp only [nR,if_false,pG,List.nil_append,iC,bg] at hn ⊢
   rw [if_neg (by simp [aY]),jv]
   exact main _ (by omega) rfl
theorem Zr (nm:List UInt8)(ar:jA)(ln:Nat)(h:Good 1 nm)(h2:OI ar)(ha:V7 ar):PR (.ex 4 0 nm [] .nil .nil ar ln):=by
 refine PR.fM (.call _ _ _ h h2) (fun b=>by rw [lq,lq]) (fun b=>by rw [mg,mg]) (oP (fun d ts m hd hp hm=>?_) (.call _ _ _ h h2))
 rw [lq] at hm ⊢
 rw [mg] at hd
 obtain⟨k,rfl⟩:∃k,m=k+1:=⟨m - 1,by omega⟩
 simp only [pG,iC,List.nil_append,bg] at hm ⊢
 unfold dI
 simp only [Jq]
 rw [if_neg (by decide),if_neg (by decide),if_neg (by decide),if_neg (by decide)]
 rw [show fA (⟨1,nm,0⟩ :: tS [40] :: (MB ar true ++ tS [41] :: ts))= .ok nm (tS [40] :: (MB ar true ++ tS [41] :: ts)) from rfl,bind_ok,if_pos (by simp [aY]),rU _ _ _ (by omega),bind_ok,ha (d+1) true ts k (by omega) (by omega),bind_ok,jv];rfl
mutual
theorem kJ:∀(t:Tr),WT t->PR t
 | .nil,h=>by cases h
 | .ex k n nm tx l r ar ln,h=>by
   cases h with
   | num _ _ h=>exact pr_num _ _ h
   | name _ _ h=>exact Qo _ _ h
   | un _ _ _ h1 h2=>exact pr_un _ _ _ h1 h2 (kJ _ h2)
   | bin _ _ _ _ h1 h2 h3=>exact pr_bin _ _ _ _ h1 h2 h3 (kJ _ h2) (kJ _ h3)
   | call _ _ _ h1 h2=>exact Zr _ _ _ h1 h2 (arAll _ h2)
   | cell _ _ _ h1 h2=>exact Zo _ _ _ h1 h2 (kJ _ h1) (kJ _ h2)
   | link _ _ _ h1 h2=>exact Zp _ _ _ h1 h2 (kJ _ h1) (kJ _ h2)
   | new _ _ h=>exact pr_new _ _ h (kJ _ h)
   | inn _=>exact pr_in _
theorem arAll:∀(a:jA),OI a->V7 a
 | .nil,_=>ar_nil
 | .cons t r,h=>by
   cases h with
   | cons _ _ h1 h2=>exact ar_cons h1 h2 (kJ t h1) (arAll r h2)
end
end Go.Abs.YtlkfbfhkcaldlaaGreatDoor
namespace Go.Abs.YtlkfbfhkcaldlaaGreatDoor
set_option maxRecDepth 4000
def kE:Tr->Nat
 | .nil=>0
 | .ex k .. =>k
def kS:Sm->Nat
 | .st k .. =>k
def rW:gY->Bool
 | .nil=>true
 | _=>false
mutual
inductive WS:Sm->Prop
 | var (nm:List UInt8) (p:Bool) (r:Tr) (ln:Nat):Good 1 nm->(r= .nil\/WT r)->WS (.st 1 nm p .nil r .nil .nil ln)
 | set (nm:List UInt8) (r:Tr) (ln:Nat):Good 1 nm->WT r->WS (.st 2 nm false .nil r .nil .nil ln)
 | cell (l r:Tr) (ln:Nat):WT l->(kE l=5\/kE l=6)->WT r->WS (.st 3 [] false l r .nil .nil ln)
 | iff (r:Tr) (th el:gY) (ln:Nat):WT r->Hr th->Hr el->WS (.st 4 [] false .nil r th el ln)
 | whl (r:Tr) (th:gY) (ln:Nat):WT r->Hr th->WS (.st 5 [] false .nil r th .nil ln)
 | out (r:Tr) (ln:Nat):WT r->WS (.st 6 [] false .nil r .nil .nil ln)
 | free (r:Tr) (ln:Nat):WT r->WS (.st 7 [] false .nil r .nil .nil ln)
 | drain (ln:Nat):WS (.st 8 [] false .nil .nil .nil .nil ln)
 | ret (r:Tr) (ln:Nat):(r= .nil\/WT r)->WS (.st 9 [] false .nil r .nil .nil ln)
 | call (r:Tr) (ln:Nat):WT r->kE r=4->WS (.st 10 [] false .nil r .nil .nil ln)
inductive Hr:gY->Prop
 | nil:Hr .nil
 | cons (s:Sm) (r:gY):WS s->Hr r->Hr (.cons s r)
end
mutual
def dS:Sm->Nat
 | .st k _ _ l r th el _=>max (max (dT l 8) (dT r 1)) (if k=4 then max (1+Cb th) (Qp el) else if k=5 then 1+Cb th else 0)
def Cb:gY->Nat
 | .nil=>0
 | .cons s r=>max (dS s) (Cb r)
def Qp:gY->Nat
 | .nil=>0
 | .cons s r=>if rW r=true/\kS s=4 then dS s else 1+max (dS s) (Cb r)
end
structure Qq (f:Fm):Prop where
 name:Good 1 f.name
 ps:∀p∈f.params,Good 1 p.1
 body:Hr f.body
 deep:1+Cb f.body<=64
theorem dEl_le (el:gY):Qp el<=1+Cb el:=by
 cases el with
 | nil=>simp only [Qp];omega
 | cons s r=>simp only [Qp,Cb];split <;> omega
theorem kC (c:Nat):dT .nil c=0:=rfl
theorem MH {r:Tr} (h:WT r)(hk:kE r=4)(c c':Nat):dT r c=dT r c':=by
 cases h <;> first | (simp [kE] at hk;done) | (rw [mg,mg])
structure PWS (n:Nat):Prop where
 block:∀d ts,d<=64->TG ts->Gq (fun l rs=>Hr l/\TG rs/\d+1+Cb l<=64) (dD n d ts)
 stmts:∀d ts,d<=64->TG ts->Gq (fun l rs=>Hr l/\TG rs/\d+Cb l<=64) (eG n d ts)
 branch:∀d ln ts,d<=64->TG ts->Gq (fun s rs=>WS s/\TG rs/\d+dS s<=64/\kS s=4) (dQ n d ln ts)
 ended:∀d ts,d<=64->TG ts->Gq (fun t rs=>WT t/\TG rs/\d+dT t 1<=64) (bU n d ts)
 stmt:∀d ts,d<=64->TG ts->Gq (fun s rs=>WS s/\TG rs/\d+dS s<=64) (fE n d ts)
theorem OJ {ts:List Tok} (h:TG ts):TG (if aY dA ts=true then ts.tail else ts):=by
 split
 ·exact h.tl
 ·exact h
theorem pwS:∀n,PWS n
 | 0=>by
   constructor
   all_goals
    intros
    simp only [dD,eG,dQ,bU,fE,Gq]
 | n+1=>by
   have ih:=pwS n
   have ie:=pwE n
   refine⟨fun d ts hd h=>?_,fun d ts hd h=>?_,fun d ln ts hd h=>?_,fun d ts hd h=>?_,fun d ts hd h=>?_⟩
   ·unfold dD
    exact(zk _ d h).bind fun _ bI ⟨h1,h2⟩=>(ih.stmts (d+1) bI (by omega) h1).bind fun l dM ⟨k1,k2,k3⟩=>(jV _ k2).bind fun _ vK h3=>⟨k1,h3,k3⟩
   ·unfold eG
    split
    ·exact⟨.nil,h,by simp only [Cb];omega⟩
    ·exact(ih.stmt d ts hd h).bind fun x bI ⟨h1,h2,h3⟩=>(ih.stmts d bI hd h2).bind fun l dM ⟨k1,k2,k3⟩=>⟨.cons _ _ h1 k1,k2,by simp only [Cb];omega⟩
   ·unfold dQ
    refine(ie.e d 1 ts hd (by omega) h).bind fun c bI ⟨h1,h2,h3,_⟩=>(ih.block d bI hd h2).bind fun th dM ⟨k1,k2,k3⟩=>?_
    split
    ·split
     ·exact(ih.branch d _ _ hd k2.tl.tl).bind fun b su ⟨j1,j2,j3,j4⟩=>⟨.iff _ _ _ _ h1 k1 (.cons _ _ j1 .nil),j2,by
           simp only [dS,Qp,kC,if_true,rW,j4,and_self];omega,rfl⟩
     ·exact(ih.block d _ hd k2.tl).bind fun b su ⟨j1,j2,j3⟩=>⟨.iff _ _ _ _ h1 k1 j1,j2,by
           have:=dEl_le b
           simp only [dS,kC,if_true];omega,rfl⟩
    ·exact⟨.iff _ _ _ _ h1 k1 .nil,k2,by simp only [dS,Qp,kC,if_true];omega,rfl⟩
   ·unfold bU
    exact(ie.e d 1 ts hd (by omega) h).bind fun x bI ⟨h1,h2,h3,_⟩=>(jV _ h2).bind fun _ dM h4=>⟨h1,h4,h3⟩
   ·unfold fE
    cases ts with
    | nil=>trivial
    | cons t r=>
      simp only
      split
      ·refine(zl h.tail).bind fun nm bI ⟨h1,h2⟩=>?_
       have h3:=OJ h1
       generalize (if aY dA bI=true then bI.tail else bI)=dM at h3
       split
       ·exact(ih.ended d _ hd h3.tl).bind fun x wW ⟨k1,k2,k3⟩=>⟨.var _ _ _ _ h2 (.inr k1),k2,by simp only [dS,kC];simp;omega⟩
       ·exact(jV _ h3).bind fun _ wW h4=>⟨.var _ _ _ _ h2 (.inl rfl),h4,by simp only [dS,kC];simp;omega⟩
      ·split
       ·exact(ih.branch d _ r hd h.tail).mono fun s ts ⟨h1,h2,h3,_⟩=>⟨h1,h2,h3⟩
       ·split
        ·exact(ie.e d 1 r hd (by omega) h.tail).bind fun c bI ⟨h1,h2,h3,_⟩=>(ih.block d bI hd h2).bind fun th dM ⟨k1,k2,k3⟩=>⟨.whl _ _ _ h1 k1,k2,by simp only [dS,kC];simp;omega⟩
        ·split
         ·exact(ih.ended d r hd h.tail).bind fun x wW ⟨k1,k2,k3⟩=>⟨.out _ _ k1,k2,by simp only [dS,kC];simp;omega⟩
         ·split
          ·exact(ih.ended d r hd h.tail).bind fun x wW ⟨k1,k2,k3⟩=>⟨.free _ _ k1,k2,by simp only [dS,kC];simp;omega⟩
          ·split
           ·exact(jV _ h.tail).bind fun _ wW h4=>⟨.drain _,h4,by simp only [dS,kC];simp;omega⟩
           ·split
            ·split
             ·exact⟨.ret _ _ (.inl rfl),h.tail.tl,by simp only [dS,kC];simp;omega⟩
             ·exact(ih.ended d r hd h.tail).bind fun x wW ⟨k1,k2,k3⟩=>⟨.ret _ _ (.inr k1),k2,by simp only [dS,kC];simp;omega⟩
            ·refine(ie.p d _ hd h).bind fun x bI ⟨h1,h2,h3⟩=>?_
             cases x with
             | nil=>trivial
             | ex k n nm tx xl xr ar ln=>
               simp only
               split
               ·split
                ·rename_i hk
                 subst hk
                 have hg:Good 1 nm:=by cases h1;assumption
                 exact(ih.ended d _ hd h2.tl).bind fun y wW ⟨k1,k2,k3⟩=>⟨.set _ _ _ hg k1,k2,by simp only [dS,kC];simp;omega⟩
                ·split
                 ·rename_i hk
                  exact(ih.ended d _ hd h2.tl).bind fun y wW ⟨k1,k2,k3⟩=>⟨.cell _ _ _ h1 hk k1,k2,by simp only [dS];simp;omega⟩
                 ·trivial
               ·split
                ·rename_i hk
                 exact(jV _ h2).bind fun _ wW h4=>⟨.call _ _ h1 hk,h4,by
                  have:=MH h1 hk 8 1
                  simp only [dS,kC];simp;omega⟩
                ·trivial
theorem Ht:∀(n:Nat) (b:Bool) (ts:List Tok),TG ts->Gq (fun l rs=>(∀p∈l,Good 1 p.1)/\TG rs) (cZ n b ts)
 | 0,_,_,_=>trivial
 | n+1,b,ts,h=>by
   unfold cZ
   split
   ·exact⟨fun _ h=>(by cases h),h⟩
   ·have h1:Gq (fun _ rs=>TG rs) (if b=true then Re.ok () ts else aQ [44] ts):=by
     split
     ·exact h
     ·exact jV _ h
    refine h1.bind fun _ bI h1=>(zl h1).bind fun nm dM ⟨h2,h3⟩=>?_
    exact(Ht n false _ (OJ h2)).bind fun l vK ⟨h4,h5⟩=>⟨fun p hp=>by
     rcases List.mem_cons.1 hp with rfl | hp
     ·exact h3
     ·exact h4 p hp,h5⟩
theorem Zt (n:Nat) {ts:List Tok} (h:TG ts):Gq (fun f rs=>Qq f/\TG rs) (kH n ts):=by
 unfold kH
 refine(jV _ h).bind fun _ bI h1=>(zl h1).bind fun nm dM ⟨h2,h3⟩=>(zk _ 0 h2).bind fun _ vK ⟨h4,_⟩=>(Ht n true vK h4).bind fun ps wW ⟨h5,h6⟩=>(jV _ h6).bind fun _ su h7=>?_
 exact((pwS n).block 0 _ (by omega) (OJ h7)).bind fun b Xj ⟨h8,h9,h10⟩=>⟨⟨h3,h5,h8,by show 1+Cb b<=64;omega⟩,h9⟩
theorem EY:∀(n:Nat) (ts:List Tok),TG ts->Gq (fun l rs=>(∀f∈l,Qq f)/\TG rs) (eH n ts)
 | 0,_,_=>trivial
 | _+1,[],_=>trivial
 | n+1,t :: r,h=>by
   unfold eH
   split
   ·exact⟨fun _ h=>(by cases h),h⟩
   ·exact(Zt n h).bind fun f bI ⟨h1,h2⟩=>(EY n bI h2).bind fun l dM ⟨h3,h4⟩=>⟨fun x hx=>by
     rcases List.mem_cons.1 hx with rfl | hx
     ·exact h1
     ·exact h3 x hx,h4⟩
end Go.Abs.YtlkfbfhkcaldlaaGreatDoor
