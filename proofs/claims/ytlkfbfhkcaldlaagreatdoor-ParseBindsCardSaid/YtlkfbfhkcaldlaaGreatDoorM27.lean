/- Texts of this claim, joined: Bz1, Bz2. -/
import Derived.Test.YtlkfbfhkcaldlaaGreatDoorM22
set_option linter.unusedVariables false
set_option linter.unusedSimpArgs false
namespace Go.Abs.YtlkfbfhkcaldlaaGreatDoor
def lz (t:Tok):Tok:=⟨t.k,t.s,0⟩
mutual
def eT:Tr→Tr
 | .nil=>.nil
 | .ex k n nm tx l r ar _=>.ex k n nm tx (eT l) (eT r) (OD ar) 0
def OD:jA→jA
 | .nil=>.nil
 | .cons t r=>.cons (eT t) (OD r)
end
mutual
def eS:Sm→Sm
 | .st k nm p l r th el _=>.st k nm p (eT l) (eT r) (xZ th) (xZ el) 0
def xZ:gY→gY
 | .nil=>.nil
 | .cons t r=>.cons (eS t) (xZ r)
end
def eF (f:Fm):Fm:=⟨f.name,f.params,f.ptr,xZ f.body,0⟩
def Re.er {α β:Type} (g:α→β):Re α→Re β
 | .ok a ts=>.ok (g a) (ts.map lz)
 | .bad c _=>.bad c 0
 | .out=>.out
theorem bC {α β α' β':Type} (r:Re α)(f:α→List Tok→Re β)(h:α→α')(g:β→β')(f':α'→List Tok→Re β')(H:∀a ts,f' (h a) (ts.map lz)=(f a ts).er g):(r.er h).bind f'= (r.bind f).er g:=by
 cases r with
 | ok a ts=>exact H a ts
 | bad c l=>rfl
 | out=>rfl
theorem kY (s:List UInt8)(ts:List Tok):aY s (ts.map lz)=aY s ts:=by cases ts <;> rfl
theorem iR (s:List UInt8)(t:Tok)(r r':List Tok):aY s (lz t :: r')=aY s (t :: r):=rfl
theorem uM (ts:List Tok):kW (ts.map lz)=0:=by cases ts <;> rfl
theorem rP (ts:List Tok):(ts.map lz).tail=ts.tail.map lz:=by cases ts <;> rfl
theorem iL (s:List UInt8)(ts:List Tok):aQ s (ts.map lz)=(aQ s ts).er id:=by
 unfold aQ
 rw [kY,uM,rP]
 split <;> rfl
theorem uN (s:List UInt8)(d:Nat)(ts:List Tok):gV s d (ts.map lz)=(gV s d ts).er id:=by
 unfold gV
 rw [kY,uM,iL]
 split <;> rfl
theorem uO (ts:List Tok):fA (ts.map lz)=(fA ts).er id:=by
 cases ts with
 | nil=>rfl
 | cons t r=>
   show (if t.k=1 then Re.ok t.s (r.map lz) else .bad 4 0)=(if t.k=1 then Re.ok t.s r else .bad 4 t.l).er id
   split <;> rfl
structure LzE (n:Nat):Prop where
 e:∀d c ts,dn n d c (ts.map lz)=(dn n d c ts).er eT
 l:∀d c x ts,fZ n d c (eT x) (ts.map lz)=(fZ n d c x ts).er eT
 u:∀d ts,xP n d (ts.map lz)=(xP n d ts).er eT
 p:∀d ts,gW n d (ts.map lz)=(gW n d ts).er eT
 q:∀d x ts,dP n d (eT x) (ts.map lz)=(dP n d x ts).er eT
 w:∀d a b ts,gI n d a b (ts.map lz)=(gI n d a b ts).er eT
 c:∀d ts,h_ n d (ts.map lz)=(h_ n d ts).er eT
 f:∀d ts,dI n d (ts.map lz)=(dI n d ts).er eT
 a:∀d b ts,fG n d b (ts.map lz)=(fG n d b ts).er OD
theorem lzE:∀n,LzE n
 | 0=>by
   constructor
   all_goals
    intros
    simp only [dn,fZ,xP,gW,dP,gI,h_,dI,fG,Re.er]
 | n+1=>by
   have ih:=lzE n
   constructor
   ·intro d c ts
    simp only [dn]
    rw [ih.u]
    exact bC _ _ eT eT _ fun x ts=>ih.l d c x ts
   ·intro d c x ts
    cases ts with
    | nil=>simp only [List.map_nil,fZ];rfl
    | cons t r=>
      simp only [List.map_cons,fZ]
      show (if t.k=3∧aF t.s≠0∧¬aF t.s<c then _ else _)=_
      by_cases h:t.k=3∧aF t.s≠0∧¬aF t.s<c
      ·rw [if_pos h,if_pos h]
       show (dn n d (aF t.s+1) (r.map lz)).bind _=_
       rw [ih.e]
       exact bC _ _ eT eT _ fun y ts=>ih.l d c (.ex 3 0 [] t.s x y .nil t.l) ts
      ·rw [if_neg h,if_neg h];rfl
   ·intro d ts
    cases ts with
    | nil=>simp only [List.map_nil,xP];rfl
    | cons t r=>
      simp only [List.map_cons,xP]
      rw [iR [33] t r,iR [45] t r]
      by_cases h:aY [33] (t :: r)=true∨aY [45] (t :: r)=true
      ·rw [if_pos h,if_pos h]
       by_cases hd:64≤d
       ·rw [if_pos hd,if_pos hd];rfl
       ·rw [if_neg hd,if_neg hd,ih.u]
        exact bC _ _ eT eT _ fun x ts=>rfl
      ·rw [if_neg h,if_neg h]
       exact ih.p d (t :: r)
   ·intro d ts
    simp only [gW]
    rw [ih.f]
    exact bC _ _ eT eT _ fun x ts=>ih.q d x ts
   ·intro d x ts
    cases ts with
    | nil=>simp only [List.map_nil,dP];rfl
    | cons t r=>
      simp only [List.map_cons,dP]
      rw [iR [91] t r,iR [58] t r]
      by_cases h:aY [91] (t :: r)=true
      ·rw [if_pos h,if_pos h]
       rw [show gI n d [91] [93] (lz t :: r.map lz)=(gI n d [91] [93] (t :: r)).er eT from ih.w d _ _ (t :: r)]
       exact bC _ _ eT eT _ fun y ts=>ih.q d (.ex 5 0 [] [] x y .nil t.l) ts
      ·rw [if_neg h,if_neg h]
       by_cases h:aY [58] (t :: r)=true
       ·rw [if_pos h,if_pos h,ih.c]
        exact bC _ _ eT eT _ fun y ts=>ih.q d (.ex 6 0 [] [] x y .nil t.l) ts
       ·rw [if_neg h,if_neg h];rfl
   ·intro d a b ts
    simp only [gI]
    rw [uN]
    refine bC _ _ id eT _ fun _ ts=>?_
    rw [ih.e]
    refine bC _ _ eT eT _ fun x ts=>?_
    rw [iL]
    exact bC _ _ id eT _ fun _ ts=>rfl
   ·intro d ts
    cases ts with
    | nil=>simp only [List.map_nil,h_];rfl
    | cons t r=>
      simp only [List.map_cons,h_]
      rw [iR [40] t r]
      by_cases h:aY [40] (t :: r)=true
      ·rw [if_pos h,if_pos h]
       exact ih.w d _ _ (t :: r)
      ·rw [if_neg h,if_neg h]
       show (if t.k=2 then _ else _)=_
       by_cases h:t.k=2
       ·rw [if_pos h,if_pos h];rfl
       ·rw [if_neg h,if_neg h]
        rw [show fA (lz t :: r.map lz)=(fA (t :: r)).er id from uO (t :: r)]
        exact bC _ _ id eT _ fun nm ts=>rfl
   ·intro d ts
    cases ts with
    | nil=>simp only [List.map_nil,dI];rfl
    | cons t r=>
      simp only [List.map_cons,dI]
      rw [iR [40] t r,iR qF t r,iR FM t r]
      by_cases h:aY [40] (t :: r)=true
      ·rw [if_pos h,if_pos h]
       exact ih.w d _ _ (t :: r)
      rw [if_neg h,if_neg h]
      by_cases h:aY qF (t :: r)=true
      ·rw [if_pos h,if_pos h,ih.w]
       exact bC _ _ eT eT _ fun x ts=>rfl
      rw [if_neg h,if_neg h]
      by_cases h:aY FM (t :: r)=true
      ·rw [if_pos h,if_pos h,uN]
       refine bC _ _ id eT _ fun _ ts=>?_
       rw [iL]
       exact bC _ _ id eT _ fun _ ts=>rfl
      rw [if_neg h,if_neg h]
      show (if t.k=2 then _ else _)=_
      by_cases h:t.k=2
      ·rw [if_pos h,if_pos h];rfl
      rw [if_neg h,if_neg h]
      rw [show fA (lz t :: r.map lz)=(fA (t :: r)).er id from uO (t :: r)]
      refine bC _ _ id eT _ fun nm ts=>?_
      show (if aY [40] (ts.map lz)=true then _ else _)=_
      rw [kY]
      by_cases h:aY [40] ts=true
      ·rw [if_pos h,if_pos h,uN]
       refine bC _ _ id eT _ fun _ ts=>?_
       rw [ih.a]
       refine bC _ _ OD eT _ fun a ts=>?_
       rw [iL]
       exact bC _ _ id eT _ fun _ ts=>rfl
      ·rw [if_neg h,if_neg h];rfl
   ·intro d b ts
    simp only [fG]
    rw [kY]
    by_cases h:aY [41] ts=true
    ·rw [if_pos h,if_pos h];rfl
    rw [if_neg h,if_neg h]
    rw [show (if b=true then Re.ok () (ts.map lz) else aQ [44] (ts.map lz))=(if b=true then Re.ok () ts else aQ [44] ts).er id by
     split
     ·rfl
     ·exact iL _ _]
    refine bC _ _ id OD _ fun _ ts=>?_
    rw [ih.e]
    refine bC _ _ eT OD _ fun x ts=>?_
    rw [ih.a]
    exact bC _ _ OD OD _ fun xs ts=>rfl
end Go.Abs.YtlkfbfhkcaldlaaGreatDoor
namespace Go.Abs.YtlkfbfhkcaldlaaGreatDoor
structure LzS (n:Nat):Prop where
 b:∀d ts,dD n d (ts.map lz)=(dD n d ts).er xZ
 s:∀d ts,eG n d (ts.map lz)=(eG n d ts).er xZ
 r:∀d ln ts,dQ n d 0 (ts.map lz)=(dQ n d ln ts).er eS
 e:∀d ts,bU n d (ts.map lz)=(bU n d ts).er eT
 t:∀d ts,fE n d (ts.map lz)=(fE n d ts).er eS
theorem OE (ts:List Tok):(if aY dA ts=true then(ts.map lz).tail else ts.map lz)=(if aY dA ts=true then ts.tail else ts).map lz:=by
 rw [rP];split <;> rfl
theorem lzS:∀n,LzS n
 | 0=>by
   constructor
   all_goals
    intros
    simp only [dD,eG,dQ,bU,fE,Re.er]
 | n+1=>by
   have ih:=lzS n
   have E:=lzE n
   constructor
   ·intro d ts
    simp only [dD]
    rw [uN]
    refine bC _ _ id xZ _ fun _ ts=>?_
    rw [ih.s]
    refine bC _ _ xZ xZ _ fun l ts=>?_
    rw [iL]
    exact bC _ _ id xZ _ fun _ ts=>rfl
   ·intro d ts
    simp only [eG]
    rw [kY]
    by_cases h:aY [125] ts=true
    ·rw [if_pos h,if_pos h];rfl
    rw [if_neg h,if_neg h,ih.t]
    refine bC _ _ eS xZ _ fun x ts=>?_
    rw [ih.s]
    exact bC _ _ xZ xZ _ fun l ts=>rfl
   ·intro d ln ts
    simp only [dQ]
    rw [E.e]
    refine bC _ _ eT eS _ fun c ts=>?_
    rw [ih.b]
    refine bC _ _ xZ eS _ fun th ts=>?_
    rw [kY,rP,kY,uM,rP]
    by_cases h:aY jJ ts=true
    ·rw [if_pos h,if_pos h]
     by_cases h:aY I7 ts.tail=true
     ·rw [if_pos h,if_pos h,ih.r d (kW ts.tail)]
      exact bC _ _ eS eS _ fun b ts=>rfl
     ·rw [if_neg h,if_neg h,ih.b]
      exact bC _ _ xZ eS _ fun el ts=>rfl
    ·rw [if_neg h,if_neg h];rfl
   ·intro d ts
    simp only [bU]
    rw [E.e]
    refine bC _ _ eT eT _ fun x ts=>?_
    rw [iL]
    exact bC _ _ id eT _ fun _ ts=>rfl
   ·intro d ts
    cases ts with
    | nil=>simp only [List.map_nil,fE];rfl
    | cons t r=>
      simp only [List.map_cons,fE]
      rw [iR Et t r,iR I7 t r,iR ql t r,iR Eu t r,iR uy t r,iR oH t r,iR fD t r]
      by_cases h:aY Et (t :: r)=true
      ·rw [if_pos h,if_pos h,uO]
       refine bC _ _ id eS _ fun nm ts=>?_
       rw [kY,OE,kY,rP]
       by_cases h:aY [61] (if aY dA ts=true then ts.tail else ts)=true
       ·rw [if_pos h,if_pos h,ih.e]
        exact bC _ _ eT eS _ fun x ts=>rfl
       ·rw [if_neg h,if_neg h,iL]
        exact bC _ _ id eS _ fun _ ts=>rfl
      rw [if_neg h,if_neg h]
      by_cases h:aY I7 (t :: r)=true
      ·rw [if_pos h,if_pos h]
       exact ih.r d t.l r
      rw [if_neg h,if_neg h]
      by_cases h:aY ql (t :: r)=true
      ·rw [if_pos h,if_pos h,E.e]
       refine bC _ _ eT eS _ fun c ts=>?_
       rw [ih.b]
       exact bC _ _ xZ eS _ fun th ts=>rfl
      rw [if_neg h,if_neg h]
      by_cases h:aY Eu (t :: r)=true
      ·rw [if_pos h,if_pos h,ih.e]
       exact bC _ _ eT eS _ fun x ts=>rfl
      rw [if_neg h,if_neg h]
      by_cases h:aY uy (t :: r)=true
      ·rw [if_pos h,if_pos h,ih.e]
       exact bC _ _ eT eS _ fun x ts=>rfl
      rw [if_neg h,if_neg h]
      by_cases h:aY oH (t :: r)=true
      ·rw [if_pos h,if_pos h,iL]
       exact bC _ _ id eS _ fun _ ts=>rfl
      rw [if_neg h,if_neg h]
      by_cases h:aY fD (t :: r)=true
      ·rw [if_pos h,if_pos h,kY,rP]
       by_cases h:aY [59] r=true
       ·rw [if_pos h,if_pos h];rfl
       ·rw [if_neg h,if_neg h,ih.e]
        exact bC _ _ eT eS _ fun x ts=>rfl
      rw [if_neg h,if_neg h]
      rw [show gW n d (lz t :: r.map lz)=(gW n d (t :: r)).er eT from E.p d (t :: r)]
      refine bC _ _ eT eS _ fun x ts=>?_
      cases x with
      | nil=>rfl
      | ex k m nm tx l rr ar ln=>
        show (if aY [61] (ts.map lz)=true then _ else _)=_
        simp only [kY,rP,uM]
        by_cases h:aY [61] ts=true
        ·rw [if_pos h,if_pos h]
         by_cases h:k=2
         ·rw [if_pos h,if_pos h,ih.e]
          exact bC _ _ eT eS _ fun y ts=>rfl
         rw [if_neg h,if_neg h]
         by_cases h:k=5∨k=6
         ·rw [if_pos h,if_pos h,ih.e]
          exact bC _ _ eT eS _ fun y ts=>rfl
         rw [if_neg h,if_neg h];rfl
        rw [if_neg h,if_neg h]
        by_cases h:k=4
        ·rw [if_pos h,if_pos h,iL]
         exact bC _ _ id eS _ fun _ ts=>rfl
        rw [if_neg h,if_neg h];rfl
theorem lzPar:∀(n:Nat) (b:Bool) (ts:List Tok),cZ n b (ts.map lz)=(cZ n b ts).er id
 | 0,b,ts=>by simp only [cZ,Re.er]
 | n+1,b,ts=>by
   simp only [cZ]
   rw [kY]
   by_cases h:aY [41] ts=true
   ·rw [if_pos h,if_pos h];rfl
   rw [if_neg h,if_neg h]
   rw [show (if b=true then Re.ok () (ts.map lz) else aQ [44] (ts.map lz))=(if b=true then Re.ok () ts else aQ [44] ts).er id by
    split
    ·rfl
    ·exact iL _ _]
   refine bC _ _ id id _ fun _ ts=>?_
   rw [uO]
   refine bC _ _ id id _ fun nm ts=>?_
   rw [kY,OE,lzPar n]
   exact bC _ _ id id _ fun l ts=>rfl
theorem lzFn (n:Nat)(ts:List Tok):kH n (ts.map lz)=(kH n ts).er eF:=by
 simp only [kH]
 rw [iL,uM]
 refine bC _ _ id eF _ fun _ t1=>?_
 rw [uO]
 refine bC _ _ id eF _ fun nm t1=>?_
 rw [uN]
 refine bC _ _ id eF _ fun _ t1=>?_
 rw [lzPar]
 refine bC _ _ id eF _ fun ps t1=>?_
 rw [iL]
 refine bC _ _ id eF _ fun _ t1=>?_
 rw [kY,OE,(lzS n).b]
 exact bC _ _ xZ eF _ fun b t1=>rfl
theorem lzFs:∀(n:Nat) (ts:List Tok),eH n (ts.map lz)=(eH n ts).er (List.map eF)
 | 0,ts=>by simp only [eH,Re.er]
 | n+1,[]=>by simp only [List.map_nil,eH];rfl
 | n+1,t :: r=>by
   simp only [List.map_cons,eH]
   show (if t.k=5 then _ else _)=_
   by_cases h:t.k=5
   ·rw [if_pos h,if_pos h];rfl
   rw [if_neg h,if_neg h]
   rw [show kH n (lz t :: r.map lz)=(kH n (t :: r)).er eF from lzFn n (t :: r)]
   refine bC _ _ eF (List.map eF) _ fun f ts=>?_
   rw [lzFs n]
   exact bC _ _ (List.map eF) (List.map eF) _ fun l ts=>rfl
mutual
theorem zh:∀x y:Tr,mV x y=mV (eT x) (eT y)
 | .nil,.nil=>rfl
 | .nil,.ex .. =>rfl
 | .ex ..,.nil=>rfl
 | .ex k n nm tx l r ar ln,.ex k' n' nm' tx' l' r' ar' OB=>by simp only [eT,mV];rw [zh l l',zh r r',Md ar ar']
theorem Md:∀x y:jA,jY x y=jY (OD x) (OD y)
 | .nil,.nil=>rfl
 | .nil,.cons .. =>rfl
 | .cons ..,.nil=>rfl
 | .cons t r,.cons t' r'=>by simp only [OD,jY];rw [zh t t',Md r r']
end
mutual
theorem Zl:∀x y:Sm,qH x y=qH (eS x) (eS y)
 | .st k nm p l r th el ln,.st k' nm' p' l' r' Xk Xl OB=>by simp only [eS,qH];rw [←zh l l',←zh r r',←zi th Xk,←zi el Xl]
theorem zi:∀x y:gY,jl x y=jl (xZ x) (xZ y)
 | .nil,.nil=>rfl
 | .nil,.cons .. =>rfl
 | .cons ..,.nil=>rfl
 | .cons t r,.cons t' r'=>by simp only [xZ,jl];rw [Zl t t',zi r r']
end
theorem Me:∀x y:List Fm,jQ x y=jQ (x.map eF) (y.map eF)
 | [],[]=>rfl
 | [],_ :: _=>rfl
 | _ :: _,[]=>rfl
 | f :: r,g :: s=>by
   simp only [List.map_cons,jQ]
   rw [Me r s]
   simp only [yU,eF]
   rw [zi f.body g.body]
mutual
theorem oN:∀x:Tr,mV x x=true
 | .nil=>rfl
 | .ex k n nm tx l r ar ln=>by rw [mV,oN l,oN r,BL ar];simp
theorem BL:∀x:jA,jY x x=true
 | .nil=>rfl
 | .cons t r=>by rw [jY,oN t,BL r];rfl
end
mutual
theorem OG:∀x:Sm,qH x x=true
 | .st k nm pt l r th el ln=>by rw [qH,oN l,oN r,pX th,pX el];simp
theorem pX:∀x:gY,jl x x=true
 | .nil=>rfl
 | .cons t r=>by rw [jl,OG t,pX r];rfl
end
theorem OH (f:Fm):yU f f=true:=by rw [yU,pX];simp
theorem BM:∀x:List Fm,jQ x x=true
 | []=>rfl
 | f :: r=>by rw [jQ,OH f,BM r];rfl
end Go.Abs.YtlkfbfhkcaldlaaGreatDoor
