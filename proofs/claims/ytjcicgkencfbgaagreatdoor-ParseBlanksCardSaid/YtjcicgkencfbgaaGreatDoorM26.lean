/- Texts of this claim, joined: Bz1, Bz2. -/
import Derived.Test.YtjcicgkencfbgaaGreatDoorM21
set_option linter.unusedVariables false
set_option linter.unusedSimpArgs false
namespace Go.bG.YtjcicgkencfbgaaGreatDoor
def lz (t:Tok):Tok:=⟨t.k,t.s,0⟩
mutual
def eT:Tr→Tr
 | .nil=>.nil
 | .ex k n nm tx l r ar _=>.ex k n nm tx (eT l) (eT r) (Vz ar) 0
def Vz:rF→rF
 | .nil=>.nil
 | .cons t r=>.cons (eT t) (Vz r)
end
mutual
def eS:Sm→Sm
 | .st k nm p l r th el _=>.st k nm p (eT l) (eT r) (GZ th) (GZ el) 0
def GZ:oO→oO
 | .nil=>.nil
 | .cons t r=>.cons (eS t) (GZ r)
end
def eF (f:Fm):Fm:=⟨f.name,f.params,f.ptr,GZ f.body,0⟩
def Re.er {α β:Type} (g:α→β):Re α→Re β
 | .ok a ts=>.ok (g a) (ts.map lz)
 | .bad c _=>.bad c 0
 | .out=>.out
theorem bF {α β α' β':Type} (r:Re α)(f:α→List Tok→Re β)(h:α→α')(g:β→β')(f':α'→List Tok→Re β')(H:∀a ts,f' (h a) (ts.map lz)=(f a ts).er g):(r.er h).bind f'= (r.bind f).er g:=by
 cases r with
 | ok a ts=>exact H a ts
 | bad c l=>rfl
 | out=>rfl
theorem kX (s:List UInt8)(ts:List Tok):aY s (ts.map lz)=aY s ts:=by cases ts <;> rfl
theorem iP (s:List UInt8)(t:Tok)(r r':List Tok):aY s (lz t :: r')=aY s (t :: r):=rfl
theorem uj (ts:List Tok):jR (ts.map lz)=0:=by cases ts <;> rfl
theorem qY (ts:List Tok):(ts.map lz).tail=ts.tail.map lz:=by cases ts <;> rfl
theorem iH (s:List UInt8)(ts:List Tok):aP s (ts.map lz)=(aP s ts).er id:=by
 unfold aP
 rw [kX,uj,qY]
 split <;> rfl
theorem um (s:List UInt8)(d:Nat)(ts:List Tok):gq s d (ts.map lz)=(gq s d ts).er id:=by
 unfold gq
 rw [kX,uj,iH]
 split <;> rfl
theorem uo (ts:List Tok):dU (ts.map lz)=(dU ts).er id:=by
 cases ts with
 | nil=>rfl
 | cons t r=>
   show (if t.k=1 then Re.ok t.s (r.map lz) else .bad 4 0)=(if t.k=1 then Re.ok t.s r else .bad 4 t.l).er id
   split <;> rfl
structure LzE (n:Nat):Prop where
 e:∀d c ts,dO n d c (ts.map lz)=(dO n d c ts).er eT
 l:∀d c x ts,jf n d c (eT x) (ts.map lz)=(jf n d c x ts).er eT
 u:∀d ts,Ci n d (ts.map lz)=(Ci n d ts).er eT
 p:∀d ts,iV n d (ts.map lz)=(iV n d ts).er eT
 q:∀d x ts,fO n d (eT x) (ts.map lz)=(fO n d x ts).er eT
 w:∀d a b ts,iI n d a b (ts.map lz)=(iI n d a b ts).er eT
 c:∀d ts,jS n d (ts.map lz)=(jS n d ts).er eT
 f:∀d ts,iy n d (ts.map lz)=(iy n d ts).er eT
 a:∀d b ts,eU n d b (ts.map lz)=(eU n d b ts).er Vz
theorem lzE:∀n,LzE n
 | 0=>by
   constructor
   all_goals
    intros
    simp only [dO,jf,Ci,iV,fO,iI,jS,iy,eU,Re.er]
 | n+1=>by
   have ih:=lzE n
   constructor
   ·intro d c ts
    simp only [dO]
    rw [ih.u]
    exact bF _ _ eT eT _ fun x ts=>ih.l d c x ts
   ·intro d c x ts
    cases ts with
    | nil=>simp only [List.map_nil,jf];rfl
    | cons t r=>
      simp only [List.map_cons,jf]
      show (if t.k=3∧fM t.s≠0∧¬fM t.s<c then _ else _)=_
      by_cases h:t.k=3∧fM t.s≠0∧¬fM t.s<c
      ·rw [if_pos h,if_pos h]
       show (dO n d (fM t.s+1) (r.map lz)).bind _=_
       rw [ih.e]
       exact bF _ _ eT eT _ fun y ts=>ih.l d c (.ex 3 0 [] t.s x y .nil t.l) ts
      ·rw [if_neg h,if_neg h];rfl
   ·intro d ts
    cases ts with
    | nil=>simp only [List.map_nil,Ci];rfl
    | cons t r=>
      simp only [List.map_cons,Ci]
      rw [iP [33] t r,iP [45] t r]
      by_cases h:aY [33] (t :: r)=true∨aY [45] (t :: r)=true
      ·rw [if_pos h,if_pos h]
       by_cases hd:64≤d
       ·rw [if_pos hd,if_pos hd];rfl
       ·rw [if_neg hd,if_neg hd,ih.u]
        exact bF _ _ eT eT _ fun x ts=>rfl
      ·rw [if_neg h,if_neg h]
       exact ih.p d (t :: r)
   ·intro d ts
    simp only [iV]
    rw [ih.f]
    exact bF _ _ eT eT _ fun x ts=>ih.q d x ts
   ·intro d x ts
    cases ts with
    | nil=>simp only [List.map_nil,fO];rfl
    | cons t r=>
      simp only [List.map_cons,fO]
      rw [iP [91] t r,iP [58] t r]
      by_cases h:aY [91] (t :: r)=true
      ·rw [if_pos h,if_pos h]
       rw [show iI n d [91] [93] (lz t :: r.map lz)=(iI n d [91] [93] (t :: r)).er eT from ih.w d _ _ (t :: r)]
       exact bF _ _ eT eT _ fun y ts=>ih.q d (.ex 5 0 [] [] x y .nil t.l) ts
      ·rw [if_neg h,if_neg h]
       by_cases h:aY [58] (t :: r)=true
       ·rw [if_pos h,if_pos h,ih.c]
        exact bF _ _ eT eT _ fun y ts=>ih.q d (.ex 6 0 [] [] x y .nil t.l) ts
       ·rw [if_neg h,if_neg h];rfl
   ·intro d a b ts
    simp only [iI]
    rw [um]
    refine bF _ _ id eT _ fun _ ts=>?_
    rw [ih.e]
    refine bF _ _ eT eT _ fun x ts=>?_
    rw [iH]
    exact bF _ _ id eT _ fun _ ts=>rfl
   ·intro d ts
    cases ts with
    | nil=>simp only [List.map_nil,jS];rfl
    | cons t r=>
      simp only [List.map_cons,jS]
      rw [iP [40] t r]
      by_cases h:aY [40] (t :: r)=true
      ·rw [if_pos h,if_pos h]
       exact ih.w d _ _ (t :: r)
      ·rw [if_neg h,if_neg h]
       show (if t.k=2 then _ else _)=_
       by_cases h:t.k=2
       ·rw [if_pos h,if_pos h];rfl
       ·rw [if_neg h,if_neg h]
        rw [show dU (lz t :: r.map lz)=(dU (t :: r)).er id from uo (t :: r)]
        exact bF _ _ id eT _ fun nm ts=>rfl
   ·intro d ts
    cases ts with
    | nil=>simp only [List.map_nil,iy];rfl
    | cons t r=>
      simp only [List.map_cons,iy]
      rw [iP [40] t r,iP Fh t r,iP Yk t r]
      by_cases h:aY [40] (t :: r)=true
      ·rw [if_pos h,if_pos h]
       exact ih.w d _ _ (t :: r)
      rw [if_neg h,if_neg h]
      by_cases h:aY Fh (t :: r)=true
      ·rw [if_pos h,if_pos h,ih.w]
       exact bF _ _ eT eT _ fun x ts=>rfl
      rw [if_neg h,if_neg h]
      by_cases h:aY Yk (t :: r)=true
      ·rw [if_pos h,if_pos h,um]
       refine bF _ _ id eT _ fun _ ts=>?_
       rw [iH]
       exact bF _ _ id eT _ fun _ ts=>rfl
      rw [if_neg h,if_neg h]
      show (if t.k=2 then _ else _)=_
      by_cases h:t.k=2
      ·rw [if_pos h,if_pos h];rfl
      rw [if_neg h,if_neg h]
      rw [show dU (lz t :: r.map lz)=(dU (t :: r)).er id from uo (t :: r)]
      refine bF _ _ id eT _ fun nm ts=>?_
      show (if aY [40] (ts.map lz)=true then _ else _)=_
      rw [kX]
      by_cases h:aY [40] ts=true
      ·rw [if_pos h,if_pos h,um]
       refine bF _ _ id eT _ fun _ ts=>?_
       rw [ih.a]
       refine bF _ _ Vz eT _ fun a ts=>?_
       rw [iH]
       exact bF _ _ id eT _ fun _ ts=>rfl
      ·rw [if_neg h,if_neg h];rfl
   ·intro d b ts
    simp only [eU]
    rw [kX]
    by_cases h:aY [41] ts=true
    ·rw [if_pos h,if_pos h];rfl
    rw [if_neg h,if_neg h]
    rw [show (if b=true then Re.ok () (ts.map lz) else aP [44] (ts.map lz))=(if b=true then Re.ok () ts else aP [44] ts).er id by
     split
     ·rfl
     ·exact iH _ _]
    refine bF _ _ id Vz _ fun _ ts=>?_
    rw [ih.e]
    refine bF _ _ eT Vz _ fun x ts=>?_
    rw [ih.a]
    exact bF _ _ Vz Vz _ fun xs ts=>rfl
end Go.bG.YtjcicgkencfbgaaGreatDoor
namespace Go.bG.YtjcicgkencfbgaaGreatDoor
structure LzS (n:Nat):Prop where
 b:∀d ts,dI n d (ts.map lz)=(dI n d ts).er GZ
 s:∀d ts,gW n d (ts.map lz)=(gW n d ts).er GZ
 r:∀d ln ts,dQ n d 0 (ts.map lz)=(dQ n d ln ts).er eS
 e:∀d ts,bW n d (ts.map lz)=(bW n d ts).er eT
 t:∀d ts,kH n d (ts.map lz)=(kH n d ts).er eS
theorem N9 (ts:List Tok):(if aY fB ts=true then(ts.map lz).tail else ts.map lz)=(if aY fB ts=true then ts.tail else ts).map lz:=by
 rw [qY];split <;> rfl
theorem lzS:∀n,LzS n
 | 0=>by
   constructor
   all_goals
    intros
    simp only [dI,gW,dQ,bW,kH,Re.er]
 | n+1=>by
   have ih:=lzS n
   have E:=lzE n
   constructor
   ·intro d ts
    simp only [dI]
    rw [um]
    refine bF _ _ id GZ _ fun _ ts=>?_
    rw [ih.s]
    refine bF _ _ GZ GZ _ fun l ts=>?_
    rw [iH]
    exact bF _ _ id GZ _ fun _ ts=>rfl
   ·intro d ts
    simp only [gW]
    rw [kX]
    by_cases h:aY [125] ts=true
    ·rw [if_pos h,if_pos h];rfl
    rw [if_neg h,if_neg h,ih.t]
    refine bF _ _ eS GZ _ fun x ts=>?_
    rw [ih.s]
    exact bF _ _ GZ GZ _ fun l ts=>rfl
   ·intro d ln ts
    simp only [dQ]
    rw [E.e]
    refine bF _ _ eT eS _ fun c ts=>?_
    rw [ih.b]
    refine bF _ _ GZ eS _ fun th ts=>?_
    rw [kX,qY,kX,uj,qY]
    by_cases h:aY qj ts=true
    ·rw [if_pos h,if_pos h]
     by_cases h:aY IG ts.tail=true
     ·rw [if_pos h,if_pos h,ih.r d (jR ts.tail)]
      exact bF _ _ eS eS _ fun b ts=>rfl
     ·rw [if_neg h,if_neg h,ih.b]
      exact bF _ _ GZ eS _ fun el ts=>rfl
    ·rw [if_neg h,if_neg h];rfl
   ·intro d ts
    simp only [bW]
    rw [E.e]
    refine bF _ _ eT eT _ fun x ts=>?_
    rw [iH]
    exact bF _ _ id eT _ fun _ ts=>rfl
   ·intro d ts
    cases ts with
    | nil=>simp only [List.map_nil,kH];rfl
    | cons t r=>
      simp only [List.map_cons,kH]
      rw [iP QB t r,iP IG t r,iP Aj t r,iP QC t r,iP GI t r,iP Ak t r,iP uT t r]
      by_cases h:aY QB (t :: r)=true
      ·rw [if_pos h,if_pos h,uo]
       refine bF _ _ id eS _ fun nm ts=>?_
       rw [kX,N9,kX,qY]
       by_cases h:aY [61] (if aY fB ts=true then ts.tail else ts)=true
       ·rw [if_pos h,if_pos h,ih.e]
        exact bF _ _ eT eS _ fun x ts=>rfl
       ·rw [if_neg h,if_neg h,iH]
        exact bF _ _ id eS _ fun _ ts=>rfl
      rw [if_neg h,if_neg h]
      by_cases h:aY IG (t :: r)=true
      ·rw [if_pos h,if_pos h]
       exact ih.r d t.l r
      rw [if_neg h,if_neg h]
      by_cases h:aY Aj (t :: r)=true
      ·rw [if_pos h,if_pos h,E.e]
       refine bF _ _ eT eS _ fun c ts=>?_
       rw [ih.b]
       exact bF _ _ GZ eS _ fun th ts=>rfl
      rw [if_neg h,if_neg h]
      by_cases h:aY QC (t :: r)=true
      ·rw [if_pos h,if_pos h,ih.e]
       exact bF _ _ eT eS _ fun x ts=>rfl
      rw [if_neg h,if_neg h]
      by_cases h:aY GI (t :: r)=true
      ·rw [if_pos h,if_pos h,ih.e]
       exact bF _ _ eT eS _ fun x ts=>rfl
      rw [if_neg h,if_neg h]
      by_cases h:aY Ak (t :: r)=true
      ·rw [if_pos h,if_pos h,iH]
       exact bF _ _ id eS _ fun _ ts=>rfl
      rw [if_neg h,if_neg h]
      by_cases h:aY uT (t :: r)=true
      ·rw [if_pos h,if_pos h,kX,qY]
       by_cases h:aY [59] r=true
       ·rw [if_pos h,if_pos h];rfl
       ·rw [if_neg h,if_neg h,ih.e]
        exact bF _ _ eT eS _ fun x ts=>rfl
      rw [if_neg h,if_neg h]
      rw [show iV n d (lz t :: r.map lz)=(iV n d (t :: r)).er eT from E.p d (t :: r)]
      refine bF _ _ eT eS _ fun x ts=>?_
      cases x with
      | nil=>rfl
      | ex k m nm tx l rr ar ln=>
        show (if aY [61] (ts.map lz)=true then _ else _)=_
        simp only [kX,qY,uj]
        by_cases h:aY [61] ts=true
        ·rw [if_pos h,if_pos h]
         by_cases h:k=2
         ·rw [if_pos h,if_pos h,ih.e]
          exact bF _ _ eT eS _ fun y ts=>rfl
         rw [if_neg h,if_neg h]
         by_cases h:k=5∨k=6
         ·rw [if_pos h,if_pos h,ih.e]
          exact bF _ _ eT eS _ fun y ts=>rfl
         rw [if_neg h,if_neg h];rfl
        rw [if_neg h,if_neg h]
        by_cases h:k=4
        ·rw [if_pos h,if_pos h,iH]
         exact bF _ _ id eS _ fun _ ts=>rfl
        rw [if_neg h,if_neg h];rfl
theorem Zr:∀(n:Nat) (b:Bool) (ts:List Tok),bY n b (ts.map lz)=(bY n b ts).er id
 | 0,b,ts=>by simp only [bY,Re.er]
 | n+1,b,ts=>by
   simp only [bY]
   rw [kX]
   by_cases h:aY [41] ts=true
   ·rw [if_pos h,if_pos h];rfl
   rw [if_neg h,if_neg h]
   rw [show (if b=true then Re.ok () (ts.map lz) else aP [44] (ts.map lz))=(if b=true then Re.ok () ts else aP [44] ts).er id by
    split
    ·rfl
    ·exact iH _ _]
   refine bF _ _ id id _ fun _ ts=>?_
   rw [uo]
   refine bF _ _ id id _ fun nm ts=>?_
   rw [kX,N9,Zr n]
   exact bF _ _ id id _ fun l ts=>rfl
theorem lzFn (n:Nat)(ts:List Tok):nY n (ts.map lz)=(nY n ts).er eF:=by
 simp only [nY]
 rw [iH,uj]
 refine bF _ _ id eF _ fun _ t1=>?_
 rw [uo]
 refine bF _ _ id eF _ fun nm t1=>?_
 rw [um]
 refine bF _ _ id eF _ fun _ t1=>?_
 rw [Zr]
 refine bF _ _ id eF _ fun ps t1=>?_
 rw [iH]
 refine bF _ _ id eF _ fun _ t1=>?_
 rw [kX,N9,(lzS n).b]
 exact bF _ _ GZ eF _ fun b t1=>rfl
theorem lzFs:∀(n:Nat) (ts:List Tok),gB n (ts.map lz)=(gB n ts).er (List.map eF)
 | 0,ts=>by simp only [gB,Re.er]
 | n+1,[]=>by simp only [List.map_nil,gB];rfl
 | n+1,t :: r=>by
   simp only [List.map_cons,gB]
   show (if t.k=5 then _ else _)=_
   by_cases h:t.k=5
   ·rw [if_pos h,if_pos h];rfl
   rw [if_neg h,if_neg h]
   rw [show nY n (lz t :: r.map lz)=(nY n (t :: r)).er eF from lzFn n (t :: r)]
   refine bF _ _ eF (List.map eF) _ fun f ts=>?_
   rw [lzFs n]
   exact bF _ _ (List.map eF) (List.map eF) _ fun l ts=>rfl
mutual
theorem zl:∀x y:Tr,jT x y=jT (eT x) (eT y)
 | .nil,.nil=>rfl
 | .nil,.ex .. =>rfl
 | .ex ..,.nil=>rfl
 | .ex k n nm tx l r ar ln,.ex k' n' nm' Mc l' r' Vr AQ=>by simp only [eT,jT];rw [zl l l',zl r r',Lu ar Vr]
theorem Lu:∀x y:rF,jY x y=jY (Vz x) (Vz y)
 | .nil,.nil=>rfl
 | .nil,.cons .. =>rfl
 | .cons ..,.nil=>rfl
 | .cons t r,.cons t' r'=>by simp only [Vz,jY];rw [zl t t',Lu r r']
end
mutual
theorem YN:∀x y:Sm,o_ x y=o_ (eS x) (eS y)
 | .st k nm p l r th el ln,.st k' nm' p' l' r' th' el' AQ=>by simp only [eS,o_];rw [←zl l l',←zl r r',←zq th th',←zq el el']
theorem zq:∀x y:oO,gZ x y=gZ (GZ x) (GZ y)
 | .nil,.nil=>rfl
 | .nil,.cons .. =>rfl
 | .cons ..,.nil=>rfl
 | .cons t r,.cons t' r'=>by simp only [GZ,gZ];rw [YN t t',zq r r']
end
theorem LC:∀x y:List Fm,fV x y=fV (x.map eF) (y.map eF)
 | [],[]=>rfl
 | [],_ :: _=>rfl
 | _ :: _,[]=>rfl
 | f :: r,g :: s=>by
   simp only [List.map_cons,fV]
   rw [LC r s]
   simp only [wz,eF]
   rw [zq f.body g.body]
mutual
theorem oL:∀x:Tr,jT x x=true
 | .nil=>rfl
 | .ex k n nm tx l r ar ln=>by rw [jT,oL l,oL r,BF ar];simp
theorem BF:∀x:rF,jY x x=true
 | .nil=>rfl
 | .cons t r=>by rw [jY,oL t,BF r];rfl
end
mutual
theorem N_:∀x:Sm,o_ x x=true
 | .st k nm pt l r th el ln=>by rw [o_,oL l,oL r,pz th,pz el];simp
theorem pz:∀x:oO,gZ x x=true
 | .nil=>rfl
 | .cons t r=>by rw [gZ,N_ t,pz r];rfl
end
theorem Oa (f:Fm):wz f f=true:=by rw [wz,pz];simp
theorem uq:∀x:List Fm,fV x x=true
 | []=>rfl
 | f :: r=>by rw [fV,Oa f,uq r];rfl
end Go.bG.YtjcicgkencfbgaaGreatDoor
