/- Texts of this claim, joined: Bz1, Bz2. -/
import Derived.Test.YtlkfbfhkcaldlaaGreatDoorM20
set_option linter.unusedVariables false
set_option linter.unusedSimpArgs false
namespace Go.Abs.YtlkfbfhkcaldlaaGreatDoor
def lz (t:Tok):Tok:=⟨t.k,t.s,0⟩
mutual
def eT:Tr→Tr
 | .nil=>.nil
 | .ex k n nm tx l r ar _=>.ex k n nm tx (eT l) (eT r) (eTs ar) 0
def eTs:Trs→Trs
 | .nil=>.nil
 | .cons t r=>.cons (eT t) (eTs r)
end
mutual
def eS:Sm→Sm
 | .st k nm p l r th el _=>.st k nm p (eT l) (eT r) (eSs th) (eSs el) 0
def eSs:Sms→Sms
 | .nil=>.nil
 | .cons t r=>.cons (eS t) (eSs r)
end
def eF (f:Fm):Fm:=⟨f.name,f.params,f.ptr,eSs f.body,0⟩
def Re.er {α β:Type} (g:α→β):Re α→Re β
 | .ok a ts=>.ok (g a) (ts.map lz)
 | .bad c _=>.bad c 0
 | .out=>.out
theorem er_bind {α β α' β':Type} (r:Re α)(f:α→List Tok→Re β)(h:α→α')(g:β→β')(f':α'→List Tok→Re β')(H:∀a ts,f' (h a) (ts.map lz)=(f a ts).er g):(r.er h).bind f'= (r.bind f).er g:=by
 cases r with
 | ok a ts=>exact H a ts
 | bad c l=>rfl
 | out=>rfl
theorem isW_lz (s:List UInt8)(ts:List Tok):isW s (ts.map lz)=isW s ts:=by cases ts <;> rfl
theorem isW_lzc (s:List UInt8)(t:Tok)(r r':List Tok):isW s (lz t :: r')=isW s (t :: r):=rfl
theorem lineW_lz (ts:List Tok):lineW (ts.map lz)=0:=by cases ts <;> rfl
theorem tail_lz (ts:List Tok):(ts.map lz).tail=ts.tail.map lz:=by cases ts <;> rfl
theorem mustW_lz (s:List UInt8)(ts:List Tok):mustW s (ts.map lz)=(mustW s ts).er id:=by
 unfold mustW
 rw [isW_lz,lineW_lz,tail_lz]
 split <;> rfl
theorem openW_lz (s:List UInt8)(d:Nat)(ts:List Tok):openW s d (ts.map lz)=(openW s d ts).er id:=by
 unfold openW
 rw [isW_lz,lineW_lz,mustW_lz]
 split <;> rfl
theorem nameW_lz (ts:List Tok):nameW (ts.map lz)=(nameW ts).er id:=by
 cases ts with
 | nil=>rfl
 | cons t r=>
   show (if t.k=1 then Re.ok t.s (r.map lz) else .bad 4 0)=(if t.k=1 then Re.ok t.s r else .bad 4 t.l).er id
   split <;> rfl
structure LzE (n:Nat):Prop where
 e:∀d c ts,pExpr n d c (ts.map lz)=(pExpr n d c ts).er eT
 l:∀d c x ts,pLoop n d c (eT x) (ts.map lz)=(pLoop n d c x ts).er eT
 u:∀d ts,pUn n d (ts.map lz)=(pUn n d ts).er eT
 p:∀d ts,pPost n d (ts.map lz)=(pPost n d ts).er eT
 q:∀d x ts,pPostL n d (eT x) (ts.map lz)=(pPostL n d x ts).er eT
 w:∀d a b ts,pWith n d a b (ts.map lz)=(pWith n d a b ts).er eT
 c:∀d ts,pCell n d (ts.map lz)=(pCell n d ts).er eT
 f:∀d ts,pFirst n d (ts.map lz)=(pFirst n d ts).er eT
 a:∀d b ts,pArgs n d b (ts.map lz)=(pArgs n d b ts).er eTs
theorem lzE:∀n,LzE n
 | 0=>by
   constructor
   all_goals
    intros
    simp only [pExpr,pLoop,pUn,pPost,pPostL,pWith,pCell,pFirst,pArgs,Re.er]
 | n+1=>by
   have ih:=lzE n
   constructor
   ·intro d c ts
    simp only [pExpr]
    rw [ih.u]
    exact er_bind _ _ eT eT _ fun x ts=>ih.l d c x ts
   ·intro d c x ts
    cases ts with
    | nil=>simp only [List.map_nil,pLoop];rfl
    | cons t r=>
      simp only [List.map_cons,pLoop]
      show (if t.k=3∧bindsP t.s≠0∧¬bindsP t.s<c then _ else _)=_
      by_cases h:t.k=3∧bindsP t.s≠0∧¬bindsP t.s<c
      ·rw [if_pos h,if_pos h]
       show (pExpr n d (bindsP t.s+1) (r.map lz)).bind _=_
       rw [ih.e]
       exact er_bind _ _ eT eT _ fun y ts=>ih.l d c (.ex 3 0 [] t.s x y .nil t.l) ts
      ·rw [if_neg h,if_neg h];rfl
   ·intro d ts
    cases ts with
    | nil=>simp only [List.map_nil,pUn];rfl
    | cons t r=>
      simp only [List.map_cons,pUn]
      rw [isW_lzc [33] t r,isW_lzc [45] t r]
      by_cases h:isW [33] (t :: r)=true∨isW [45] (t :: r)=true
      ·rw [if_pos h,if_pos h]
       by_cases hd:64≤d
       ·rw [if_pos hd,if_pos hd];rfl
       ·rw [if_neg hd,if_neg hd,ih.u]
        exact er_bind _ _ eT eT _ fun x ts=>rfl
      ·rw [if_neg h,if_neg h]
       exact ih.p d (t :: r)
   ·intro d ts
    simp only [pPost]
    rw [ih.f]
    exact er_bind _ _ eT eT _ fun x ts=>ih.q d x ts
   ·intro d x ts
    cases ts with
    | nil=>simp only [List.map_nil,pPostL];rfl
    | cons t r=>
      simp only [List.map_cons,pPostL]
      rw [isW_lzc [91] t r,isW_lzc [58] t r]
      by_cases h:isW [91] (t :: r)=true
      ·rw [if_pos h,if_pos h]
       rw [show pWith n d [91] [93] (lz t :: r.map lz)=(pWith n d [91] [93] (t :: r)).er eT from ih.w d _ _ (t :: r)]
       exact er_bind _ _ eT eT _ fun y ts=>ih.q d (.ex 5 0 [] [] x y .nil t.l) ts
      ·rw [if_neg h,if_neg h]
       by_cases h:isW [58] (t :: r)=true
       ·rw [if_pos h,if_pos h,ih.c]
        exact er_bind _ _ eT eT _ fun y ts=>ih.q d (.ex 6 0 [] [] x y .nil t.l) ts
       ·rw [if_neg h,if_neg h];rfl
   ·intro d a b ts
    simp only [pWith]
    rw [openW_lz]
    refine er_bind _ _ id eT _ fun _ ts=>?_
    rw [ih.e]
    refine er_bind _ _ eT eT _ fun x ts=>?_
    rw [mustW_lz]
    exact er_bind _ _ id eT _ fun _ ts=>rfl
   ·intro d ts
    cases ts with
    | nil=>simp only [List.map_nil,pCell];rfl
    | cons t r=>
      simp only [List.map_cons,pCell]
      rw [isW_lzc [40] t r]
      by_cases h:isW [40] (t :: r)=true
      ·rw [if_pos h,if_pos h]
       exact ih.w d _ _ (t :: r)
      ·rw [if_neg h,if_neg h]
       show (if t.k=2 then _ else _)=_
       by_cases h:t.k=2
       ·rw [if_pos h,if_pos h];rfl
       ·rw [if_neg h,if_neg h]
        rw [show nameW (lz t :: r.map lz)=(nameW (t :: r)).er id from nameW_lz (t :: r)]
        exact er_bind _ _ id eT _ fun nm ts=>rfl
   ·intro d ts
    cases ts with
    | nil=>simp only [List.map_nil,pFirst];rfl
    | cons t r=>
      simp only [List.map_cons,pFirst]
      rw [isW_lzc [40] t r,isW_lzc wNew t r,isW_lzc wIn t r]
      by_cases h:isW [40] (t :: r)=true
      ·rw [if_pos h,if_pos h]
       exact ih.w d _ _ (t :: r)
      rw [if_neg h,if_neg h]
      by_cases h:isW wNew (t :: r)=true
      ·rw [if_pos h,if_pos h,ih.w]
       exact er_bind _ _ eT eT _ fun x ts=>rfl
      rw [if_neg h,if_neg h]
      by_cases h:isW wIn (t :: r)=true
      ·rw [if_pos h,if_pos h,openW_lz]
       refine er_bind _ _ id eT _ fun _ ts=>?_
       rw [mustW_lz]
       exact er_bind _ _ id eT _ fun _ ts=>rfl
      rw [if_neg h,if_neg h]
      show (if t.k=2 then _ else _)=_
      by_cases h:t.k=2
      ·rw [if_pos h,if_pos h];rfl
      rw [if_neg h,if_neg h]
      rw [show nameW (lz t :: r.map lz)=(nameW (t :: r)).er id from nameW_lz (t :: r)]
      refine er_bind _ _ id eT _ fun nm ts=>?_
      show (if isW [40] (ts.map lz)=true then _ else _)=_
      rw [isW_lz]
      by_cases h:isW [40] ts=true
      ·rw [if_pos h,if_pos h,openW_lz]
       refine er_bind _ _ id eT _ fun _ ts=>?_
       rw [ih.a]
       refine er_bind _ _ eTs eT _ fun a ts=>?_
       rw [mustW_lz]
       exact er_bind _ _ id eT _ fun _ ts=>rfl
      ·rw [if_neg h,if_neg h];rfl
   ·intro d b ts
    simp only [pArgs]
    rw [isW_lz]
    by_cases h:isW [41] ts=true
    ·rw [if_pos h,if_pos h];rfl
    rw [if_neg h,if_neg h]
    rw [show (if b=true then Re.ok () (ts.map lz) else mustW [44] (ts.map lz))=(if b=true then Re.ok () ts else mustW [44] ts).er id by
     split
     ·rfl
     ·exact mustW_lz _ _]
    refine er_bind _ _ id eTs _ fun _ ts=>?_
    rw [ih.e]
    refine er_bind _ _ eT eTs _ fun x ts=>?_
    rw [ih.a]
    exact er_bind _ _ eTs eTs _ fun xs ts=>rfl
end Go.Abs.YtlkfbfhkcaldlaaGreatDoor
namespace Go.Abs.YtlkfbfhkcaldlaaGreatDoor
structure LzS (n:Nat):Prop where
 b:∀d ts,pBlock n d (ts.map lz)=(pBlock n d ts).er eSs
 s:∀d ts,pStmts n d (ts.map lz)=(pStmts n d ts).er eSs
 r:∀d ln ts,pBranch n d 0 (ts.map lz)=(pBranch n d ln ts).er eS
 e:∀d ts,pEnded n d (ts.map lz)=(pEnded n d ts).er eT
 t:∀d ts,pStmt n d (ts.map lz)=(pStmt n d ts).er eS
theorem GY (ts:List Tok):(if isW wPtr ts=true then(ts.map lz).tail else ts.map lz)=(if isW wPtr ts=true then ts.tail else ts).map lz:=by
 rw [tail_lz];split <;> rfl
theorem lzS:∀n,LzS n
 | 0=>by
   constructor
   all_goals
    intros
    simp only [pBlock,pStmts,pBranch,pEnded,pStmt,Re.er]
 | n+1=>by
   have ih:=lzS n
   have E:=lzE n
   constructor
   ·intro d ts
    simp only [pBlock]
    rw [openW_lz]
    refine er_bind _ _ id eSs _ fun _ ts=>?_
    rw [ih.s]
    refine er_bind _ _ eSs eSs _ fun l ts=>?_
    rw [mustW_lz]
    exact er_bind _ _ id eSs _ fun _ ts=>rfl
   ·intro d ts
    simp only [pStmts]
    rw [isW_lz]
    by_cases h:isW [125] ts=true
    ·rw [if_pos h,if_pos h];rfl
    rw [if_neg h,if_neg h,ih.t]
    refine er_bind _ _ eS eSs _ fun x ts=>?_
    rw [ih.s]
    exact er_bind _ _ eSs eSs _ fun l ts=>rfl
   ·intro d ln ts
    simp only [pBranch]
    rw [E.e]
    refine er_bind _ _ eT eS _ fun c ts=>?_
    rw [ih.b]
    refine er_bind _ _ eSs eS _ fun th ts=>?_
    rw [isW_lz,tail_lz,isW_lz,lineW_lz,tail_lz]
    by_cases h:isW wElse ts=true
    ·rw [if_pos h,if_pos h]
     by_cases h:isW wIf ts.tail=true
     ·rw [if_pos h,if_pos h,ih.r d (lineW ts.tail)]
      exact er_bind _ _ eS eS _ fun b ts=>rfl
     ·rw [if_neg h,if_neg h,ih.b]
      exact er_bind _ _ eSs eS _ fun el ts=>rfl
    ·rw [if_neg h,if_neg h];rfl
   ·intro d ts
    simp only [pEnded]
    rw [E.e]
    refine er_bind _ _ eT eT _ fun x ts=>?_
    rw [mustW_lz]
    exact er_bind _ _ id eT _ fun _ ts=>rfl
   ·intro d ts
    cases ts with
    | nil=>simp only [List.map_nil,pStmt];rfl
    | cons t r=>
      simp only [List.map_cons,pStmt]
      rw [isW_lzc wVar t r,isW_lzc wIf t r,isW_lzc wWhile t r,isW_lzc wOut t r,isW_lzc wFree t r,isW_lzc wDrain t r,isW_lzc wReturn t r]
      by_cases h:isW wVar (t :: r)=true
      ·rw [if_pos h,if_pos h,nameW_lz]
       refine er_bind _ _ id eS _ fun nm ts=>?_
       rw [isW_lz,GY,isW_lz,tail_lz]
       by_cases h:isW [61] (if isW wPtr ts=true then ts.tail else ts)=true
       ·rw [if_pos h,if_pos h,ih.e]
        exact er_bind _ _ eT eS _ fun x ts=>rfl
       ·rw [if_neg h,if_neg h,mustW_lz]
        exact er_bind _ _ id eS _ fun _ ts=>rfl
      rw [if_neg h,if_neg h]
      by_cases h:isW wIf (t :: r)=true
      ·rw [if_pos h,if_pos h]
       exact ih.r d t.l r
      rw [if_neg h,if_neg h]
      by_cases h:isW wWhile (t :: r)=true
      ·rw [if_pos h,if_pos h,E.e]
       refine er_bind _ _ eT eS _ fun c ts=>?_
       rw [ih.b]
       exact er_bind _ _ eSs eS _ fun th ts=>rfl
      rw [if_neg h,if_neg h]
      by_cases h:isW wOut (t :: r)=true
      ·rw [if_pos h,if_pos h,ih.e]
       exact er_bind _ _ eT eS _ fun x ts=>rfl
      rw [if_neg h,if_neg h]
      by_cases h:isW wFree (t :: r)=true
      ·rw [if_pos h,if_pos h,ih.e]
       exact er_bind _ _ eT eS _ fun x ts=>rfl
      rw [if_neg h,if_neg h]
      by_cases h:isW wDrain (t :: r)=true
      ·rw [if_pos h,if_pos h,mustW_lz]
       exact er_bind _ _ id eS _ fun _ ts=>rfl
      rw [if_neg h,if_neg h]
      by_cases h:isW wReturn (t :: r)=true
      ·rw [if_pos h,if_pos h,isW_lz,tail_lz]
       by_cases h:isW [59] r=true
       ·rw [if_pos h,if_pos h];rfl
       ·rw [if_neg h,if_neg h,ih.e]
        exact er_bind _ _ eT eS _ fun x ts=>rfl
      rw [if_neg h,if_neg h]
      rw [show pPost n d (lz t :: r.map lz)=(pPost n d (t :: r)).er eT from E.p d (t :: r)]
      refine er_bind _ _ eT eS _ fun x ts=>?_
      cases x with
      | nil=>rfl
      | ex k m nm tx l rr ar ln=>
        show (if isW [61] (ts.map lz)=true then _ else _)=_
        simp only [isW_lz,tail_lz,lineW_lz]
        by_cases h:isW [61] ts=true
        ·rw [if_pos h,if_pos h]
         by_cases h:k=2
         ·rw [if_pos h,if_pos h,ih.e]
          exact er_bind _ _ eT eS _ fun y ts=>rfl
         rw [if_neg h,if_neg h]
         by_cases h:k=5∨k=6
         ·rw [if_pos h,if_pos h,ih.e]
          exact er_bind _ _ eT eS _ fun y ts=>rfl
         rw [if_neg h,if_neg h];rfl
        rw [if_neg h,if_neg h]
        by_cases h:k=4
        ·rw [if_pos h,if_pos h,mustW_lz]
         exact er_bind _ _ id eS _ fun _ ts=>rfl
        rw [if_neg h,if_neg h];rfl
theorem Tt:∀(n:Nat) (b:Bool) (ts:List Tok),pParams n b (ts.map lz)=(pParams n b ts).er id
 | 0,b,ts=>by simp only [pParams,Re.er]
 | n+1,b,ts=>by
   simp only [pParams]
   rw [isW_lz]
   by_cases h:isW [41] ts=true
   ·rw [if_pos h,if_pos h];rfl
   rw [if_neg h,if_neg h]
   rw [show (if b=true then Re.ok () (ts.map lz) else mustW [44] (ts.map lz))=(if b=true then Re.ok () ts else mustW [44] ts).er id by
    split
    ·rfl
    ·exact mustW_lz _ _]
   refine er_bind _ _ id id _ fun _ ts=>?_
   rw [nameW_lz]
   refine er_bind _ _ id id _ fun nm ts=>?_
   rw [isW_lz,GY,Tt n]
   exact er_bind _ _ id id _ fun l ts=>rfl
theorem lzFn (n:Nat)(ts:List Tok):pFunc n (ts.map lz)=(pFunc n ts).er eF:=by
 simp only [pFunc]
 rw [mustW_lz,lineW_lz]
 refine er_bind _ _ id eF _ fun _ t1=>?_
 rw [nameW_lz]
 refine er_bind _ _ id eF _ fun nm t1=>?_
 rw [openW_lz]
 refine er_bind _ _ id eF _ fun _ t1=>?_
 rw [Tt]
 refine er_bind _ _ id eF _ fun ps t1=>?_
 rw [mustW_lz]
 refine er_bind _ _ id eF _ fun _ t1=>?_
 rw [isW_lz,GY,(lzS n).b]
 exact er_bind _ _ eSs eF _ fun b t1=>rfl
theorem lzFs:∀(n:Nat) (ts:List Tok),pFuncs n (ts.map lz)=(pFuncs n ts).er (List.map eF)
 | 0,ts=>by simp only [pFuncs,Re.er]
 | n+1,[]=>by simp only [List.map_nil,pFuncs];rfl
 | n+1,t :: r=>by
   simp only [List.map_cons,pFuncs]
   show (if t.k=5 then _ else _)=_
   by_cases h:t.k=5
   ·rw [if_pos h,if_pos h];rfl
   rw [if_neg h,if_neg h]
   rw [show pFunc n (lz t :: r.map lz)=(pFunc n (t :: r)).er eF from lzFn n (t :: r)]
   refine er_bind _ _ eF (List.map eF) _ fun f ts=>?_
   rw [lzFs n]
   exact er_bind _ _ (List.map eF) (List.map eF) _ fun l ts=>rfl
mutual
theorem rQ:∀x y:Tr,sameT x y=sameT (eT x) (eT y)
 | .nil,.nil=>rfl
 | .nil,.ex .. =>rfl
 | .ex ..,.nil=>rfl
 | .ex k n nm tx l r ar ln,.ex k' n' nm' tx' l' r' ar' ln'=>by simp only [eT,sameT];rw [rQ l l',rQ r r',EU ar ar']
theorem EU:∀x y:Trs,sameTs x y=sameTs (eTs x) (eTs y)
 | .nil,.nil=>rfl
 | .nil,.cons .. =>rfl
 | .cons ..,.nil=>rfl
 | .cons t r,.cons t' r'=>by simp only [eTs,sameTs];rw [rQ t t',EU r r']
end
mutual
theorem RG:∀x y:Sm,sameS x y=sameS (eS x) (eS y)
 | .st k nm p l r th el ln,.st k' nm' p' l' r' th' el' ln'=>by simp only [eS,sameS];rw [←rQ l l',←rQ r r',←rU th th',←rU el el']
theorem rU:∀x y:Sms,sameSs x y=sameSs (eSs x) (eSs y)
 | .nil,.nil=>rfl
 | .nil,.cons .. =>rfl
 | .cons ..,.nil=>rfl
 | .cons t r,.cons t' r'=>by simp only [eSs,sameSs];rw [RG t t',rU r r']
end
theorem EW:∀x y:List Fm,sameFs x y=sameFs (x.map eF) (y.map eF)
 | [],[]=>rfl
 | [],_ :: _=>rfl
 | _ :: _,[]=>rfl
 | f :: r,g :: s=>by
   simp only [List.map_cons,sameFs]
   rw [EW r s]
   simp only [sameF,eF]
   rw [rU f.body g.body]
mutual
theorem kD:∀x:Tr,sameT x x=true
 | .nil=>rfl
 | .ex k n nm tx l r ar ln=>by rw [sameT,kD l,kD r,uT ar];simp
theorem uT:∀x:Trs,sameTs x x=true
 | .nil=>rfl
 | .cons t r=>by rw [sameTs,kD t,uT r];rfl
end
mutual
theorem GZ:∀x:Sm,sameS x x=true
 | .st k nm pt l r th el ln=>by rw [sameS,kD l,kD r,kV th,kV el];simp
theorem kV:∀x:Sms,sameSs x x=true
 | .nil=>rfl
 | .cons t r=>by rw [sameSs,GZ t,kV r];rfl
end
theorem G5 (f:Fm):sameF f f=true:=by rw [sameF,kV];simp
theorem uV:∀x:List Fm,sameFs x x=true
 | []=>rfl
 | f :: r=>by rw [sameFs,G5 f,uV r];rfl
end Go.Abs.YtlkfbfhkcaldlaaGreatDoor
