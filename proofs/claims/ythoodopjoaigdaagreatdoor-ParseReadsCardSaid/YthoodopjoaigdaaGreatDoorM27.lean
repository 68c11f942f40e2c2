/- Texts of this claim, joined: Td, Sw, Sx, Rs1, Rs2, Rs3, Rs4. -/
import Derived.Test.YthoodopjoaigdaaGreatDoorM20
import Derived.Test.YthoodopjoaigdaaGreatDoorM21
import Derived.Test.YthoodopjoaigdaaGreatDoorM24
import Derived.Test.YthoodopjoaigdaaGreatDoorM26
set_option linter.unusedVariables false
set_option linter.unusedSimpArgs false
namespace Go.bP.YthoodopjoaigdaaGreatDoor
open Go.Proofs
set_option maxRecDepth 4000
theorem has_is:hasAll Tryz.prog 40 148=some false:=by kernel_rfl
theorem KA:hasAll Tryz.prog 40 143=some true:=by kernel_rfl
theorem as_to {σ:St} (hg:σ.take G0.length=G0)(o g off o2:Nat)(h2:σ[o2]? =some ⟨0,false,.cells 40 [.p0]⟩)(Q:AV→St→Prop)(q:Q (.b true) (σ.set o2 ⟨0,false,.cells 40 [.p o g off]⟩)) :
 ay X 16 [.ic 40 (.p o g off),.ic 58 (.p o2 0 0)] σ Q:=by
 refine ay.of ?_
 rw [jq (g:=pAs) rfl]
 have h5:σ[0]? =G0[0]? :=rW hg (by decide)
 have hs:iO (aJ Tryz.prog 40) (.p o2 0 0) (.p o g off) σ=some (σ.set o2 ⟨0,false,.cells 40 [.p o g off]⟩):=by
  have:=aC (τ:=Ie.get) (t:=40) (T:=Ic) (y:=.p o g off) (off:=0) [.p o g off] rfl h2 rfl rfl (Nat.le_of_ble_eq_true rfl) rfl
  exact Ed (X:=X) aH this
 unfold pAs
 simp only
 rw [h5]
 exact⟨_,by show (iO (aJ Tryz.prog 40) (.p o2 0 0) (.p o g off) σ).map (fun x=>(AV.b true,x))=_;rw [hs];rfl,q⟩
theorem Oi (v:AV)(σ:St)(Q:AV→St→Prop)(q:Q (.ic 136 (.ag [.p 10 0 27])) σ):ay X 50 [.ic 27 v] σ Q:=by
 refine ay.of ?_
 rw [jq (g:=zT) rfl]
 exact⟨_,rfl,q⟩
theorem Dw (σ:St)(Q:AV→St→Prop)(q:Q (.b true) σ):ay X 201 [.ag [.p 10 0 27]] σ Q:=by
 refine ay.of ?_
 rw [jq (g:=nU) rfl]
 exact⟨_,rfl,q⟩
theorem Oj {σ:St} {o g:Nat} {ro:Bool} {e l:Int} (h:σ[o]? =some ⟨g,ro,.cells 29 [.i .i64 e,.i .i64 l]⟩):ay X 194 [.p o g 0] σ fun v s=>v= .ic 27 (.i .i64 e)∧s=σ:=by
 refine ay.body (F:=XA) aH (lit:=false) rfl rfl (Nat.le_of_ble_eq_true rfl) ?_
 conv=>whnf
 refine ak (aj (T:=Ib) rfl rfl (ah h) rfl) ?_
 conv=>whnf
 exact Fin.flat rfl List.take_length ⟨rfl,rfl⟩
set_option maxHeartbeats 4000000 in
theorem Y4 {σ:St} {o g:Nat} {ro:Bool} {e l:Int} (h:σ[o]? =some ⟨g,ro,.cells 29 [.i .i64 e,.i .i64 l]⟩):ay X 51 [.ic 40 (.p o g 0),.ic 27 (.i .i64 e),.b true] σ fun v s=>v= .b true∧s=σ:=by
 refine ay.body (F:=F51) aH (lit:=false) rfl rfl (Nat.le_of_ble_eq_true rfl) ?_
 conv=>whnf
 refine aW.round aH (lit:=false) ?_
 conv=>whnf
 refine Qr.of has_is ?_
 conv=>whnf
 refine Qr.of KA ?_
 conv=>whnf
 refine ay.to (Oj h) ?_
 conv=>whnf
 refine aW.round aH (lit:=false) ?_
 conv=>whnf
 split
 ·conv=>whnf
  exact Fin.flat rfl List.take_length ⟨rfl,rfl⟩
 ·rename_i h;exfalso;simp at h
theorem Is_to {σ:St} {o g:Nat} {ro:Bool} {e l:Int} (h:σ[o]? =some ⟨g,ro,.cells 29 [.i .i64 e,.i .i64 l]⟩):ay X 17 [.ic 40 (.p o g 0),.ic 27 (.i .i64 e)] σ fun v s=>v= .b true∧s=σ:=by
 refine ay.body (F:=F17) aH (lit:=false) rfl rfl (Nat.le_of_ble_eq_true rfl) ?_
 conv=>whnf
 refine Oi _ _ _ ?_
 conv=>whnf
 refine Dw _ _ ?_
 conv=>whnf
 refine ay.to (Y4 h) ?_
 conv=>whnf
 exact Fin.flat rfl List.take_length ⟨rfl,rfl⟩
theorem VF (c l:Int)(σ:St):ay X 6 [.fM,.ag [.i .i64 c,.i .i64 l],.b false] σ fun v s=>v= .b true∧s=σ:=by
 refine ay.body (F:=F6) aH (lit:=false) rfl rfl (Nat.le_of_ble_eq_true rfl) ?_
 conv=>whnf
 conv=>whnf
 exact Fin.flat rfl ((Ext.refl σ).new _ _).take ⟨rfl,rfl⟩
theorem VG {σ:St} (hg:σ.take G0.length=G0) {o g:Nat} {ro:Bool} {e l:Int} (h:σ[o]? =some ⟨g,ro,.cells 29 [.i .i64 e,.i .i64 l]⟩):ay X 6 [.ic 40 (.p o g 0),.ag [.i .i64 e,.i .i64 l],.b true] σ fun v s=>v= .b true∧s=σ:=by
 refine ay.body (F:=F6) aH (lit:=false) rfl rfl (Nat.le_of_ble_eq_true rfl) ?_
 conv=>whnf
 have hx:=((Ext.refl σ).new 29 [.i .i64 e,.i .i64 l]).new 40 [.p0]
 have hx2:Ext σ _:=hx.set (o:=σ.length+1) (by omega) ⟨0,false,.cells 40 [.p o g 0]⟩
 have e1:(au 29 [.i .i64 e,.i .i64 l] σ).length=σ.length+1:=aG _ _ _
 have hb:=aK (at_new (aF 29 [.i .i64 e,.i .i64 l] σ) 40 [.p0]) (o':=σ.length+1) (by omega) ⟨0,false,.cells 40 [.p o g 0]⟩
 have hp:=at_set (aF 40 [.p0] (au 29 [.i .i64 e,.i .i64 l] σ)) ⟨0,false,.cells 40 [.p o g 0]⟩
 rw [←e1] at hx2 hb
 have hf:=hx2.get h
 refine as_to (kZ hx hg) _ _ _ _ (aF _ _ _) _ ?_
 refine ak (aj (T:=Ic) rfl rfl (ah (hp)) rfl) ?_
 conv=>whnf
 refine ak (aj (T:=Ib) rfl rfl (ah (hf)) rfl) ?_
 conv=>whnf
 refine ak (aj (T:=Ib) rfl rfl (ah (hb)) rfl) ?_
 conv=>whnf
 rw [decide_eq_true (rfl)]
 conv=>whnf
 refine ak (aj (T:=Ic) rfl rfl (ah (hp)) rfl) ?_
 conv=>whnf
 refine ak (aj (T:=cu) rfl rfl (ah (hf)) rfl) ?_
 conv=>whnf
 refine ak (aj (T:=cu) rfl rfl (ah (hb)) rfl) ?_
 conv=>whnf
 rw [decide_eq_true (rfl)]
 conv=>whnf
 refine ak (aj (T:=Ib) rfl rfl (ah (hb)) rfl) ?_
 conv=>whnf
 refine ay.to (Is_to hf) ?_
 conv=>whnf
 exact Fin.flat rfl hx2.take ⟨rfl,rfl⟩
end Go.bP.YthoodopjoaigdaaGreatDoor
namespace Go.bP.YthoodopjoaigdaaGreatDoor
def Dx:yV→List Tr
 | .nil=>[]
 | .cons t r=>t :: Dx r
def CJ:ug→List Sm
 | .nil=>[]
 | .cons t r=>t :: CJ r
mutual
def wT:Tr→Nat
 | .nil=>0
 | .ex _ _ _ _ l r a _=>wT l+wT r+Dy a
def Dy:yV→Nat
 | .nil=>0
 | .cons t r=>1+wT t+Dy r
end
mutual
def wS:Sm→Nat
 | .st _ _ _ l r th el _=>wT l+wT r+xA th+xA el
def xA:ug→Nat
 | .nil=>0
 | .cons t r=>1+wS t+xA r
end
def wF (f:Fm):Nat:=f.params.length+xA f.body
def Oz:List Fm→Nat
 | []=>0
 | f :: l=>1+wF f+Oz l
theorem L9:∀l:yV,(Dx l).length≤Dy l
 | .nil=>Nat.le_refl _
 | .cons t r=>by have:=L9 r;simp only [Dx,Dy,List.length_cons];omega
theorem L_:∀l:ug,(CJ l).length≤xA l
 | .nil=>Nat.le_refl _
 | .cons t r=>by have:=L_ r;simp only [CJ,xA,List.length_cons];omega
theorem Mc:∀l:List Fm,l.length≤Oz l
 | []=>Nat.le_refl _
 | t :: r=>by have:=Mc r;simp only [Oz,List.length_cons];omega
theorem WC:∀(l:yV) (i:Nat) (t:Tr),(Dx l)[i]? =some t→wT t+1≤Dy l
 | .nil,i,t,h=>by simp [Dx] at h
 | .cons a r,0,t,h=>by simp only [Dx,List.getElem?_cons_zero,Option.some.injEq] at h;subst h;simp only [Dy];omega
 | .cons a r,i+1,t,h=>by
   simp only [Dx,List.getElem?_cons_succ] at h
   have:=WC r i t h;simp only [Dy];omega
theorem WG:∀(l:ug) (i:Nat) (t:Sm),(CJ l)[i]? =some t→wS t+1≤xA l
 | .nil,i,t,h=>by simp [CJ] at h
 | .cons a r,0,t,h=>by simp only [CJ,List.getElem?_cons_zero,Option.some.injEq] at h;subst h;simp only [xA];omega
 | .cons a r,i+1,t,h=>by
   simp only [CJ,List.getElem?_cons_succ] at h
   have:=WG r i t h;simp only [xA];omega
theorem WH:∀(l:List Fm) (i:Nat) (t:Fm),l[i]? =some t→wF t+1≤Oz l
 | [],i,t,h=>by simp at h
 | a :: r,0,t,h=>by simp only [List.getElem?_cons_zero,Option.some.injEq] at h;subst h;simp only [Oz];omega
 | a :: r,i+1,t,h=>by
   simp only [List.getElem?_cons_succ] at h
   have:=WH r i t h;simp only [Oz];omega
def Gw {α:Type} (w:α→Nat)(r:Re α)(L:Nat):Prop:=match r with
 | .ok a ts=>w a+ts.length≤L
 | _=>True
theorem Gw.bind {α β:Type} {w:α→Nat} {u:β→Nat} {r:Re α} {f:α→List Tok→Re β} {L M:Nat} (h:Gw w r L)(hf:∀a ts,w a+ts.length≤L→Gw u (f a ts) M):Gw u (r.bind f) M:=by
 cases r with
 | ok a ts=>exact hf a ts h
 | bad c l=>trivial
 | out=>trivial
theorem Gw.mono {α:Type} {w:α→Nat} {r:Re α} {L M:Nat} (h:Gw w r L)(hl:L≤M):Gw w r M:=by
 cases r with
 | ok a ts=>exact Nat.le_trans h hl
 | bad c l=>trivial
 | out=>trivial
abbrev w1 {α:Type} :α→Nat:=fun _=>1
abbrev w0 {α:Type} :α→Nat:=fun _=>0
theorem VH {s:List UInt8} {ts:List Tok} (h:bf s ts=true):ts.tail.length+1=ts.length:=by
 cases ts with
 | nil=>simp [bf] at h
 | cons t r=>rfl
theorem nJ (ts:List Tok):ts.tail.length≤ts.length:=by cases ts <;> simp
theorem jf (s:List UInt8)(ts:List Tok):Gw w1 (aQ s ts) ts.length:=by
 unfold aQ
 split
 ·rename_i h;have:=VH h;show 1+_≤_;omega
 ·trivial
theorem w_ (s:List UInt8)(d:Nat)(ts:List Tok):Gw w1 (gG s d ts) ts.length:=by
 unfold gG
 split
 ·trivial
 ·exact jf s ts
theorem xk (ts:List Tok):Gw w1 (eP ts) ts.length:=by
 unfold eP
 split
 ·split
  ·show 1+_≤_;simp;omega
  ·trivial
 ·trivial
abbrev zf:Tr→Nat:=fun x=>1+wT x
abbrev wS1:Sm→Nat:=fun x=>1+wS x
abbrev Sv:ug→Nat:=fun x=>1+xA x
structure WtE (n:Nat):Prop where
 expr:∀d c ts,Gw zf (dQ n d c ts) ts.length
 loop:∀d c x ts,Gw wT (jU n d c x ts) (wT x+ts.length)
 un:∀d ts,Gw zf (FT n d ts) ts.length
 post:∀d ts,Gw zf (jV n d ts) ts.length
 m_:∀d x ts,Gw wT (gU n d x ts) (wT x+ts.length)
 with_:∀d a b ts,Gw zf (jI n d a b ts) ts.length
 cell:∀d ts,Gw zf (lS n d ts) ts.length
 first:∀d ts,Gw zf (jk n d ts) ts.length
 args:∀d f ts,Gw Dy (fF n d f ts) ts.length
theorem wtE:∀n,WtE n
 | 0=>⟨fun _ _ _=>by unfold dQ;trivial,fun _ _ _ _=>by unfold jU;trivial,fun _ _=>by unfold FT;trivial,fun _ _=>by unfold jV;trivial,fun _ _ _=>by unfold gU;trivial,fun _ _ _ _=>by unfold jI;trivial,fun _ _=>by unfold lS;trivial,fun _ _=>by unfold jk;trivial,fun _ _ _=>by unfold fF;trivial⟩
 | n+1=>by
   have ih:=wtE n
   refine⟨fun d c ts=>?_,fun d c x ts=>?_,fun d ts=>?_,fun d ts=>?_,fun d x ts=>?_,fun d a b ts=>?_,fun d ts=>?_,fun d ts=>?_,fun d f ts=>?_⟩
   ·unfold dQ
    refine(ih.un d ts).bind fun x ts' hx=>?_
    have:=ih.loop d c x ts'
    cases hr:jU n d c x ts' with
    | ok a fO=>rw [hr] at this;have h:wT a+fO.length≤wT x+ts'.length:=this;show 1+wT a+fO.length≤_;simp only [zf] at hx;omega
    | bad c l=>trivial
    | out=>trivial
   ·cases ts with
    | nil=>unfold jU;trivial
    | cons t r=>
      unfold jU
      split
      ·refine(ih.expr d _ r).bind fun y ts' hy=>(ih.loop d c (.ex 3 0 [] t.s x y .nil t.l) ts').mono ?_
       simp only [zf] at hy;simp only [wT,Dy,List.length_cons];omega
      ·exact Nat.le_refl _
   ·cases ts with
    | nil=>unfold FT;trivial
    | cons t r=>
      unfold FT
      split
      ·split
       ·trivial
       ·refine(ih.un (d+1) r).bind fun x ts' hx=>?_
        simp only [zf] at hx;show 1+wT _+_≤_;simp only [wT,Dy,List.length_cons];omega
      ·exact ih.post d _
   ·unfold jV
    refine(ih.first d ts).bind fun x ts' hx=>?_
    have:=ih.m_ d x ts'
    cases hr:gU n d x ts' with
    | ok a fO=>rw [hr] at this;have h:wT a+fO.length≤wT x+ts'.length:=this;show 1+wT a+fO.length≤_;simp only [zf] at hx;omega
    | bad c l=>trivial
    | out=>trivial
   ·cases ts with
    | nil=>unfold gU;trivial
    | cons t r=>
      unfold gU
      split
      ·refine(ih.with_ d _ _ _).bind fun y ts' hy=>(ih.m_ d (.ex 5 0 [] [] x y .nil t.l) ts').mono ?_
       simp only [zf] at hy;simp only [wT,Dy];omega
      ·split
       ·refine(ih.cell d r).bind fun y ts' hy=>(ih.m_ d (.ex 6 0 [] [] x y .nil t.l) ts').mono ?_
        simp only [zf] at hy;simp only [wT,Dy,List.length_cons];omega
       ·exact Nat.le_refl _
   ·unfold jI
    refine(w_ a d ts).bind fun _ bH h1=>(ih.expr (d+1) 1 bH).bind fun x fO h2=>(jf b fO).bind fun _ Gq h3=>?_
    simp only [zf,w1] at *;show 1+wT x+_≤_;omega
   ·cases ts with
    | nil=>unfold lS;trivial
    | cons t r=>
      unfold lS
      split
      ·exact ih.with_ d _ _ _
      ·split
       ·show 1+wT (NW t)+_≤_;simp only [NW,wT,Dy,List.length_cons];omega
       ·refine(xk _).bind fun nm bH h1=>?_
        simp only [w1] at h1;show 1+wT (yX nm t.l)+_≤_;simp only [yX,wT,Dy];omega
   ·cases ts with
    | nil=>unfold jk;trivial
    | cons t r=>
      unfold jk
      split
      ·exact ih.with_ d _ _ _
      ·split
       ·refine(ih.with_ d _ _ r).bind fun x bH h1=>?_
        simp only [zf] at h1;show 1+wT _+_≤_;simp only [wT,Dy,List.length_cons];omega
       ·split
        ·refine(w_ _ d r).bind fun _ bH h1=>(jf _ bH).bind fun _ fO h2=>?_
         simp only [w1] at *;show 1+wT _+_≤_;simp only [wT,Dy,List.length_cons];omega
        ·split
         ·show 1+wT (NW t)+_≤_;simp only [NW,wT,Dy,List.length_cons];omega
         ·refine(xk _).bind fun nm bH h1=>?_
          simp only [w1] at h1
          split
          ·refine(w_ _ d bH).bind fun _ fO h2=>(ih.args (d+1) true fO).bind fun a Gq h3=>(jf _ Gq).bind fun _ zx h4=>?_
           simp only [w1] at *;show 1+wT _+_≤_;simp only [wT];omega
          ·show 1+wT (yX nm t.l)+_≤_;simp only [yX,wT,Dy];omega
   ·unfold fF
    split
    ·show 0+_≤_;omega
    ·have h1:Gw w0 (if f=true then Re.ok () ts else aQ [44] ts) ts.length:=by
      split
      ·show 0+_≤_;omega
      ·have:=jf [44] ts
       cases hr:aQ [44] ts with
       | ok a fO=>rw [hr] at this;have h:1+fO.length≤ts.length:=this;show 0+_≤_;omega
       | bad c l=>trivial
       | out=>trivial
     refine h1.bind fun _ bH h1=>(ih.expr d 1 bH).bind fun x fO h2=>(ih.args d false fO).bind fun xs Gq h3=>?_
     simp only [zf,w0] at *;show Dy _+_≤_;simp only [Dy];omega
structure WtS (n:Nat):Prop where
 block:∀d ts,Gw Sv (dK n d ts) ts.length
 stmts:∀d ts,Gw xA (iC n d ts) ts.length
 branch:∀d l ts,Gw wS1 (eG n d l ts) ts.length
 ended:∀d ts,Gw zf (bW n d ts) ts.length
 stmt:∀d ts,Gw wS1 (mZ n d ts) ts.length
theorem Gm (ts:List Tok):(if bf fC ts=true then ts.tail else ts).length≤ts.length:=by
 split
 ·exact nJ ts
 ·exact Nat.le_refl _
theorem wtS:∀n,WtS n
 | 0=>⟨fun _ _=>by unfold dK;trivial,fun _ _=>by unfold iC;trivial,fun _ _ _=>by unfold eG;trivial,fun _ _=>by unfold bW;trivial,fun _ _=>by unfold mZ;trivial⟩
 | n+1=>by
   have ih:=wtS n
   have ie:=wtE n
   refine⟨fun d ts=>?_,fun d ts=>?_,fun d l ts=>?_,fun d ts=>?_,fun d ts=>?_⟩
   ·unfold dK
    refine(w_ _ d ts).bind fun _ bH h1=>(ih.stmts (d+1) bH).bind fun l fO h2=>(jf _ fO).bind fun _ Gq h3=>?_
    simp only [w1] at *;show 1+xA l+_≤_;omega
   ·unfold iC
    split
    ·show 0+_≤_;omega
    ·refine(ih.stmt d ts).bind fun x bH h1=>(ih.stmts d bH).bind fun l fO h2=>?_
     simp only [wS1] at *;show xA _+_≤_;simp only [xA];omega
   ·unfold eG
    refine(ie.expr d 1 ts).bind fun c bH h1=>(ih.block d bH).bind fun th fO h2=>?_
    simp only [zf,Sv] at *
    have t1:=nJ fO
    have t2:=nJ fO.tail
    have t3:=nJ fO.tail.tail
    split
    ·split
     ·refine(ih.branch d _ _).bind fun b uj h5=>?_
      simp only [wS1] at *;show 1+wS _+_≤_;simp only [wS,xA,wT];omega
     ·refine(ih.block d _).bind fun b uj h5=>?_
      simp only [Sv] at *;show 1+wS _+_≤_;simp only [wS,wT];omega
    ·show 1+wS _+_≤_;simp only [wS,xA,wT];omega
   ·unfold bW
    refine(ie.expr d 1 ts).bind fun c bH h1=>(jf _ bH).bind fun _ fO h2=>?_
    simp only [zf,w1] at *;show 1+wT c+_≤_;omega
   ·cases ts with
    | nil=>unfold mZ;trivial
    | cons t r=>
      unfold mZ
      split
      ·refine(xk r).bind fun nm bH h1=>?_
       have h2:=Gm bH
       simp only [w1] at h1 ⊢
       generalize (if bf fC bH=true then bH.tail else bH)=fO at h2 ⊢
       have t2:=nJ fO
       split
       ·refine(ih.ended d _).bind fun x zx h4=>?_
        simp only [zf] at *;show 1+wS _+_≤_;simp only [wS,xA,wT,List.length_cons];omega
       ·refine(jf _ fO).bind fun _ zx h4=>?_
        simp only [w1] at *;show 1+wS _+_≤_;simp only [wS,xA,wT,List.length_cons];omega
      ·split
       ·exact(ih.branch d _ r).mono (by simp)
       ·split
        ·refine(ie.expr d 1 r).bind fun c bH h1=>(ih.block d bH).bind fun th fO h2=>?_
         simp only [zf,Sv] at *;show 1+wS _+_≤_;simp only [wS,xA,wT,List.length_cons];omega
        ·split
         ·refine(ih.ended d r).bind fun x bH h1=>?_
          simp only [zf] at *;show 1+wS _+_≤_;simp only [wS,xA,wT,List.length_cons];omega
         ·split
          ·refine(ih.ended d r).bind fun x bH h1=>?_
           simp only [zf] at *;show 1+wS _+_≤_;simp only [wS,xA,wT,List.length_cons];omega
          ·split
           ·refine(jf _ r).bind fun x bH h1=>?_
            simp only [w1] at *;show 1+wS _+_≤_;simp only [wS,xA,wT,List.length_cons];omega
           ·split
            ·split
             ·have:=nJ r;show 1+wS _+_≤_;simp only [wS,xA,wT,List.length_cons];omega
             ·refine(ih.ended d r).bind fun x bH h1=>?_
              simp only [zf] at *;show 1+wS _+_≤_;simp only [wS,xA,wT,List.length_cons];omega
            ·refine(ie.post d _).bind fun x bH h1=>?_
             have t1:=nJ bH
             cases x with
             | nil=>trivial
             | ex k n' nm tx l r' a ln=>
               simp only [zf] at h1 ⊢
               split
               ·split
                ·refine(ih.ended d _).bind fun y fO h2=>?_
                 simp only [zf,wT] at *;show 1+wS _+_≤_;simp only [wS,xA,wT];omega
                ·split
                 ·refine(ih.ended d _).bind fun y fO h2=>?_
                  simp only [zf,wT] at *;show 1+wS _+_≤_;simp only [wS,xA,wT];omega
                 ·trivial
               ·split
                ·refine(jf _ bH).bind fun _ fO h2=>?_
                 simp only [w1,wT] at *;show 1+wS _+_≤_;simp only [wS,xA,wT];omega
                ·trivial
theorem EI:∀(n:Nat) (f:Bool) (ts:List Tok),Gw List.length (b_ n f ts) ts.length
 | 0,_,_=>trivial
 | n+1,f,ts=>by
   unfold b_
   split
   ·show 0+_≤_;omega
   ·have h1:Gw w0 (if f=true then Re.ok () ts else aQ [44] ts) ts.length:=by
     split
     ·show 0+_≤_;omega
     ·have:=jf [44] ts
      cases hr:aQ [44] ts with
      | ok a fO=>rw [hr] at this;have h:1+fO.length≤ts.length:=this;show 0+_≤_;omega
      | bad c l=>trivial
      | out=>trivial
    refine h1.bind fun _ bH h1=>(xk bH).bind fun nm fO h2=>?_
    have h3:=Gm fO
    simp only [w1,w0] at *
    generalize (if bf fC fO=true then fO.tail else fO)=Gq at h3 ⊢
    refine(EI n false Gq).bind fun l zx h4=>?_
    show (_ :: l).length+_≤_
    simp only [List.length_cons];omega
theorem VI (n:Nat)(ts:List Tok):Gw (fun f=>1+wF f) (uh n ts) ts.length:=by
 unfold uh
 refine(jf _ ts).bind fun _ bH h1=>(xk bH).bind fun nm fO h2=>(w_ _ 0 fO).bind fun _ Gq h3=>(EI n true Gq).bind fun ps zx h4=>(jf _ zx).bind fun _ uj h5=>?_
 have h6:=Gm uj
 simp only [w1] at *
 generalize (if bf fC uj=true then uj.tail else uj)=Yk at h6 ⊢
 refine((wtS n).block 0 Yk).bind fun b ts7 h7=>?_
 simp only [Sv] at *;show 1+wF _+_≤_;simp only [wF];omega
theorem Ji:∀(n:Nat) (ts:List Tok),Gw Oz (iJ n ts) ts.length
 | 0,_=>trivial
 | _+1,[]=>trivial
 | n+1,t :: r=>by
   unfold iJ
   split
   ·show 0+_≤_;omega
   ·refine(VI n _).bind fun f bH h1=>(Ji n bH).bind fun l fO h2=>?_
    show Oz _+_≤_;simp only [Oz];omega
end Go.bP.YthoodopjoaigdaaGreatDoor
namespace Go.bP.YthoodopjoaigdaaGreatDoor
open Go.Proofs
set_option maxRecDepth 4000
mutual
def hT:Tr→Nat
 | .nil=>0
 | .ex _ _ _ _ l r a _=>1+hT l+hT r+hTs a
def hTs:yV→Nat
 | .nil=>0
 | .cons t r=>1+hT t+hTs r
end
theorem Sz:∀(l:yV) (i:Nat) (t:Tr),(Dx l)[i]? =some t→hT t+1≤hTs l
 | .nil,i,t,h=>by simp [Dx] at h
 | .cons a r,0,t,h=>by simp only [Dx,List.getElem?_cons_zero,Option.some.injEq] at h;subst h;simp only [hTs];omega
 | .cons a r,i+1,t,h=>by
   simp only [Dx,List.getElem?_cons_succ] at h
   have:=Sz r i t h;simp only [hTs];omega
theorem bJ.shape {S:Nat→Prop} {σ:St} {v:AV} :∀{t:Tr},bJ S σ v t→v= .p0∨∃o g,v= .p o g 0
 | .nil,h=>.inl h
 | .ex ..,h=>by obtain⟨o,g,L,R,A,_,hv,_⟩:=h;exact .inr ⟨o,g,hv⟩
theorem bJ.two {S S':Nat→Prop} {σ:St} {v v2:AV} :∀{t:Tr},bJ S σ v t→bJ S' σ v2 t→(v= .p0∧v2= .p0)∨∃o g o' g',v= .p o g 0∧v2= .p o' g' 0
 | .nil,h,k=>.inl ⟨h,k⟩
 | .ex ..,h,k=>by obtain⟨o,g,L,R,A,_,hv,_⟩:=h;obtain⟨o',g',L',R',A',_,hu,_⟩:=k;exact .inr ⟨o,g,o',g',hv,hu⟩
theorem qU.list {S:Nat→Prop} {σ:St} :∀{r:yV} {cs:List AV},qU S σ cs r→cs.length=(Dx r).length∧∀(i:Nat) (t:Tr),(Dx r)[i]? =some t→∃a,cs[i]? =some a∧bJ S σ a t
 | .nil,cs,h=>by have h:cs=[]:=h;subst h;exact⟨rfl,fun i t h=>by simp [Dx] at h⟩
 | .cons t r,cs,h=>by
   obtain⟨a,tl,rfl,h1,h2⟩:=h
   obtain⟨h3,h4⟩:=qU.list h2
   refine⟨by simp [Dx,h3],fun i t' ht=>?_⟩
   cases i with
   | zero=>simp only [Dx,List.getElem?_cons_zero,Option.some.injEq] at ht;subst ht;exact⟨a,rfl,h1⟩
   | succ i=>exact h4 i t' (by simpa [Dx] using ht)
theorem jZ.list {S:Nat→Prop} {σ:St} {A:AV} {t:Tr} {r:yV} (h:jZ S σ A (.cons t r)):∃o g cs,A= .sl o g 0 cs.length 1∧σ[o]? =some ⟨g,false,.cells 63 cs⟩∧cs.length=(Dx (.cons t r)).length∧∀(i:Nat) (x:Tr),(Dx (.cons t r))[i]? =some x→∃a,cs[i]? =some a∧bJ S σ a x:=by
 obtain⟨o,g,cs,_,hv,ho,a,tl,hc,hx,hl⟩:=h
 have h2:qU S σ cs (.cons t r):=⟨a,tl,hc,hx,hl⟩
 obtain⟨h3,h4⟩:=h2.list
 exact⟨o,g,cs,hv,ho,h3,h4⟩
def exO (g k n:Nat)(nm tx:List UInt8)(L R A:AV)(ln:Nat):AO:=⟨g,false,.cells 68 [.i .i64 k,.i .u32 n,.s nm,.s tx,L,R,A,.i .i64 ln]⟩
mutual
def hS:Sm→Nat
 | .st _ _ _ _ _ th el _=>1+WI th+WI el
def WI:ug→Nat
 | .nil=>0
 | .cons t r=>1+hS t+WI r
end
theorem SA:∀(l:ug) (i:Nat) (t:Sm),(CJ l)[i]? =some t→hS t+1≤WI l
 | .nil,i,t,h=>by simp [CJ] at h
 | .cons a r,0,t,h=>by simp only [CJ,List.getElem?_cons_zero,Option.some.injEq] at h;subst h;simp only [WI];omega
 | .cons a r,i+1,t,h=>by
   simp only [CJ,List.getElem?_cons_succ] at h
   have:=SA r i t h;simp only [WI];omega
theorem Ja.list {S:Nat→Prop} {σ:St} :∀{r:ug} {cs:List AV},Ja S σ cs r→cs.length=(CJ r).length∧∀(i:Nat) (t:Sm),(CJ r)[i]? =some t→∃a,cs[i]? =some a∧kM S σ a t
 | .nil,cs,h=>by have h:cs=[]:=h;subst h;exact⟨rfl,fun i t h=>by simp [CJ] at h⟩
 | .cons t r,cs,h=>by
   obtain⟨a,tl,rfl,h1,h2⟩:=h
   obtain⟨h3,h4⟩:=Ja.list h2
   refine⟨by simp [CJ,h3],fun i t' ht=>?_⟩
   cases i with
   | zero=>simp only [CJ,List.getElem?_cons_zero,Option.some.injEq] at ht;subst ht;exact⟨a,rfl,h1⟩
   | succ i=>exact h4 i t' (by simpa [CJ] using ht)
theorem dR.list {S:Nat→Prop} {σ:St} {A:AV} {t:Sm} {r:ug} (h:dR S σ A (.cons t r)):∃o g cs,A= .sl o g 0 cs.length 1∧σ[o]? =some ⟨g,false,.cells 121 cs⟩∧cs.length=(CJ (.cons t r)).length∧∀(i:Nat) (x:Sm),(CJ (.cons t r))[i]? =some x→∃a,cs[i]? =some a∧kM S σ a x:=by
 obtain⟨o,g,cs,_,hv,ho,a,tl,hc,hx,hl⟩:=h
 have h2:Ja S σ cs (.cons t r):=⟨a,tl,hc,hx,hl⟩
 obtain⟨h3,h4⟩:=h2.list
 exact⟨o,g,cs,hv,ho,h3,h4⟩
def TwoE (a b:AV):Prop:=(a= .p0∧b= .p0)∨∃o g o' g',a= .p o g 0∧b= .p o' g' 0
def VJ (a b:AV):Prop:=(a= .sl0∧b= .sl0)∨∃o g n o' g' n',a= .sl o g 0 n 1∧b= .sl o' g' 0 n' 1
theorem dR.two {S S':Nat→Prop} {σ:St} {v x:AV} :∀{t:ug},dR S σ v t→dR S' σ x t→VJ v x
 | .nil,h,k=>.inl ⟨h,k⟩
 | .cons ..,h,k=>by obtain⟨o,g,cs,_,hv,_⟩:=h;obtain⟨o',g',cs',_,hu,_⟩:=k;exact .inr ⟨o,g,_,o',g',_,hv,hu⟩
def smO (g k:Nat)(nm:List UInt8)(pt:Bool)(L R T E:AV)(ln:Nat):AO:=⟨g,false,.cells 120 [.i .i64 k,.s nm,.b pt,L,R,T,E,.i .i64 ln]⟩
def SB (σ:St)(A:AV)(l:List (List UInt8×Bool)):Prop:=(A= .sl0∧l=[])∨∃o g,A= .sl o g 0 l.length 2∧σ[o]? =some ⟨g,false,.cells 90 (oN l)⟩
theorem gJ.list {S:Nat→Prop} {σ:St} :∀{cs:List AV} {fs:List Fm},gJ S σ cs fs→cs.length=fs.length∧∀(i:Nat) (f:Fm),fs[i]? =some f→∃a,cs[i]? =some a∧yx S σ a f
 | [],[],_=>⟨rfl,fun i f h=>by simp at h⟩
 | a :: cs,f :: fs,h=>by
   obtain⟨h1,h2⟩:=gJ.list h.2.2
   refine⟨by simp [h1],fun i f' hf=>?_⟩
   cases i with
   | zero=>simp only [List.getElem?_cons_zero,Option.some.injEq] at hf;subst hf;exact⟨a,rfl,h.2.1⟩
   | succ i=>exact h2 i f' (by simpa using hf)
theorem uw.or {S:Nat→Prop} {σ:St} {A:AV} {l:List (List UInt8×Bool)} (h:uw S σ A l):SB σ A l:=by
 rcases h with ⟨h1,h2⟩ | ⟨o,g,_,h2,h3⟩
 ·exact .inl ⟨h2,h1⟩
 ·exact .inr ⟨o,g,h2,h3⟩
theorem yF:∀(l:List (List UInt8×Bool)) (m:Nat) (q:List UInt8×Bool),l[m]? =some q→((oN l).drop (m*2)).take 2=[.s q.1,.b q.2]
 | x :: l,0,q,h=>by cases h;simp [oN]
 | x :: l,m+1,q,h=>by
   have e:oN (x :: l)=[.s x.1,.b x.2] ++ oN l:=rfl
   rw [e,show (m+1)*2=2+m*2 by omega,←List.drop_drop,List.drop_left' (by rfl)]
   exact yF l m q h
end Go.bP.YthoodopjoaigdaaGreatDoor
namespace Go.bP.YthoodopjoaigdaaGreatDoor
open Go.Proofs
set_option maxRecDepth 4000
@[reducible] def likeX (o1 g1 o2 g2 oa ga n:Nat):Env:=put (some 95) (.b false) (put (some 94) (.i .i64 n) (put (some 93) (.sl oa ga 0 n 1) (put (some 92) (.p o1 g1 (0+6)) (put (some 91) (.p o1 g1 0) (put (some 90) (.p o1 g1 0) (put (some 89) (.i .i64 n) [(0,.p o1 g1 0),(1,.p o2 g2 0),(2,.b true),(7,.i .i64 n)]))))))
section
variable {σ:St} {o1 g1 o2 g2 k n ln:Nat} {nm tx:List UInt8} {L1 R1 L2 R2:AV}
theorem KC {oa ga ob gb:Nat} {cs ds:List AV} (h1:σ[o1]? =some (exO g1 k n nm tx L1 R1 (.sl oa ga 0 cs.length 1) ln))(h2:σ[o2]? =some (exO g2 k n nm tx L2 R2 (.sl ob gb 0 ds.length 1) ln))
 (hc1:σ[oa]? =some ⟨ga,false,.cells 63 cs⟩) (hc2:σ[ob]? =some ⟨gb,false,.cells 63 ds⟩) (hl:cs.length=ds.length) (hb:cs.length≤100000)
 (hp:∀i,i<cs.length→∃a b,cs[i]? =some a∧ds[i]? =some b∧(a= .p0∨∃o g,a= .p o g 0)∧(b= .p0∨∃o g,b= .p o g 0)∧ay X 83 [a,b,.b true] σ fun v s=>v= .b true∧s=σ) {Q:Out→Env→St→Prop}
 (q:Q (.exit 0) (likeX o1 g1 o2 g2 oa ga cs.length) σ):∀(d m:Nat),m+d=cs.length→
 aW X [0,1,2,7] V9 [(0,.p o1 g1 0),(1,.p o2 g2 0),(2,.b true),(7,.i .i64 m)] σ Q:=by
 intro d
 induction d with
 | zero=>
   intro m hm
   obtain rfl:m=cs.length:=hm
   refine aW.round aH (lit:=false) ?_
   conv=>whnf
   refine ak (aj (T:=nN) rfl rfl (ah (h1)) rfl) ?_
   conv=>whnf
   rw [decide_eq_false (by omega)]
   conv=>whnf
   conv=>whnf
   exact q
 | succ d ih=>
   intro m hm
   obtain⟨a,b,ha,hb',hpa,hpb,hr⟩:=hp m (by omega)
   have ha':cs[0+m*1]? =some a:=by rw [Nat.zero_add,Nat.mul_one];exact ha
   have SC:ds[0+m*1]? =some b:=by rw [Nat.zero_add,Nat.mul_one];exact hb'
   rcases hpa with rfl | ⟨oo,gg,rfl⟩ <;> rcases hpb with rfl | ⟨oo2,gg2,rfl⟩
   all_goals
    refine aW.round aH (lit:=false) ?_
    conv=>whnf
    refine ak (aj (T:=nN) rfl rfl (ah (h1)) rfl) ?_
    conv=>whnf
    rw [decide_eq_true (by omega)]
    conv=>whnf
    conv=>whnf
    refine ak (aj (T:=nN) rfl rfl (ah (h1)) rfl) ?_
    conv=>whnf
    refine⟨m,rfl,by omega,?_⟩
    conv=>whnf
    refine ak (aj (T:=bG) rfl rfl (ah hc1) ha') ?_
    conv=>whnf
    refine ak (aj (T:=nN) rfl rfl (ah (h2)) rfl) ?_
    conv=>whnf
    refine⟨m,rfl,by omega,?_⟩
    conv=>whnf
    refine ak (aj (T:=bG) rfl rfl (ah hc2) SC) ?_
    conv=>whnf
    refine ay.to hr ?_
    conv=>whnf
    refine⟨((m+1:Nat):Int),wrap_i64 (by omega) (by omega),?_⟩
    conv=>whnf
    exact ih (m+1) (by omega)
end
set_option maxHeartbeats 2000000 in
theorem VK {k n ln:Nat} {nm tx:List UInt8} {ar:yV} {S S':Nat→Prop} {σ:St} {o1 g1 o2 g2:Nat} {L1 R1 A1 L2 R2 A2:AV} (h1:σ[o1]? =some (exO g1 k n nm tx L1 R1 A1 ln))(h2:σ[o2]? =some (exO g2 k n nm tx L2 R2 A2 ln))(ha1:jZ S σ A1 ar)(ha2:jZ S' σ A2 ar)(hw:Dy ar≤100000)
 (sl:(L1= .p0∧L2= .p0)∨∃o g o' g',L1= .p o g 0∧L2= .p o' g' 0) (sr:(R1= .p0∧R2= .p0)∨∃o g o' g',R1= .p o g 0∧R2= .p o' g' 0) (cl:ay X 83 [L1,L2,.b true] σ fun v s=>v= .b true∧s=σ) (cr:ay X 83 [R1,R2,.b true] σ fun v s=>v= .b true∧s=σ)
 (ce:∀(i:Nat) (y:Tr),(Dx ar)[i]? =some y→∀a b,bJ S σ a y→bJ S' σ b y→ay X 83 [a,b,.b true] σ fun v s=>v= .b true∧s=σ):ay X 83 [.p o1 g1 0,.p o2 g2 0,.b true] σ fun v s=>v= .b true∧s=σ:=by
 cases ar with
 | nil=>
   have ha1:A1= .sl0:=ha1
   have ha2:A2= .sl0:=ha2
   subst ha1;subst ha2
   refine ay.body (F:=ZQ) aH (lit:=false) rfl rfl (Nat.le_of_ble_eq_true rfl) ?_
   conv=>whnf
   refine ak (aj (T:=cu) rfl rfl (ah (h1)) rfl) ?_
   conv=>whnf
   refine ak (aj (T:=cu) rfl rfl (ah (h2)) rfl) ?_
   conv=>whnf
   rw [decide_eq_true (rfl)]
   conv=>whnf
   conv=>whnf
   refine ak (aj (T:=Qg) rfl rfl (ah (h1)) rfl) ?_
   conv=>whnf
   refine ak (aj (T:=Qg) rfl rfl (ah (h2)) rfl) ?_
   conv=>whnf
   rw [decide_eq_true (rfl)]
   conv=>whnf
   conv=>whnf
   refine ak (aj (T:=fA) rfl rfl (ah (h1)) rfl) ?_
   conv=>whnf
   refine ak (aj (T:=fA) rfl rfl (ah (h2)) rfl) ?_
   conv=>whnf
   rw [beq_self_eq_true nm]
   conv=>whnf
   refine ak (aj (T:=fA) rfl rfl (ah (h1)) rfl) ?_
   conv=>whnf
   refine ak (aj (T:=fA) rfl rfl (ah (h2)) rfl) ?_
   conv=>whnf
   rw [beq_self_eq_true tx]
   conv=>whnf
   refine ak (aj (T:=nN) rfl rfl (ah (h1)) rfl) ?_
   conv=>whnf
   refine ak (aj (T:=nN) rfl rfl (ah (h2)) rfl) ?_
   conv=>whnf
   refine ak (aj (T:=cu) rfl rfl (ah (h1)) rfl) ?_
   conv=>whnf
   refine ak (aj (T:=cu) rfl rfl (ah (h2)) rfl) ?_
   conv=>whnf
   rw [decide_eq_true (rfl)]
   conv=>whnf
   conv=>whnf
   refine aW.round aH (lit:=false) ?_
   conv=>whnf
   refine ak (aj (T:=nN) rfl rfl (ah (h1)) rfl) ?_
   conv=>whnf
   rcases sl with ⟨rfl,rfl⟩ | ⟨ol1,gl1,ol2,gl2,rfl,rfl⟩ <;> rcases sr with ⟨rfl,rfl⟩ | ⟨or1,gr1,or2,gr2,rfl,rfl⟩
   all_goals
    refine ak (aj (T:=bG) rfl rfl (ah (h1)) rfl) ?_
    conv=>whnf
    refine ak (aj (T:=bG) rfl rfl (ah (h2)) rfl) ?_
    conv=>whnf
    refine ay.to cl ?_
    conv=>whnf
    refine ak (aj (T:=bG) rfl rfl (ah (h1)) rfl) ?_
    conv=>whnf
    refine ak (aj (T:=bG) rfl rfl (ah (h2)) rfl) ?_
    conv=>whnf
    refine ay.to cr ?_
    conv=>whnf
    exact Fin.flat rfl List.take_length ⟨rfl,rfl⟩
 | cons t ts=>
   obtain⟨oa,ga,cs,rfl,hc1,SE,he1⟩:=ha1.list
   obtain⟨ob,gb,ds,rfl,hc2,Y5,he2⟩:=ha2.list
   have hcl:cs.length=ds.length:=by rw [SE,Y5]
   have hbd:cs.length≤100000:=by rw [SE];have:=L9 (.cons t ts);omega
   have hpp:∀i,i<cs.length→∃a b,cs[i]? =some a∧ds[i]? =some b∧(a= .p0∨∃o g,a= .p o g 0)∧(b= .p0∨∃o g,b= .p o g 0)∧ay X 83 [a,b,.b true] σ fun v s=>v= .b true∧s=σ:=by
    intro i hi
    obtain⟨y,hy⟩:∃y,(Dx (.cons t ts))[i]? =some y:=⟨_,List.getElem?_eq_getElem (by omega)⟩
    obtain⟨a,ha,hea⟩:=he1 i y hy
    obtain⟨b,hb,heb⟩:=he2 i y hy
    exact⟨a,b,ha,hb,hea.shape,heb.shape,ce i y hy a b hea heb⟩
   refine ay.body (F:=ZQ) aH (lit:=false) rfl rfl (Nat.le_of_ble_eq_true rfl) ?_
   conv=>whnf
   refine ak (aj (T:=cu) rfl rfl (ah (h1)) rfl) ?_
   conv=>whnf
   refine ak (aj (T:=cu) rfl rfl (ah (h2)) rfl) ?_
   conv=>whnf
   rw [decide_eq_true (rfl)]
   conv=>whnf
   conv=>whnf
   refine ak (aj (T:=Qg) rfl rfl (ah (h1)) rfl) ?_
   conv=>whnf
   refine ak (aj (T:=Qg) rfl rfl (ah (h2)) rfl) ?_
   conv=>whnf
   rw [decide_eq_true (rfl)]
   conv=>whnf
   conv=>whnf
   refine ak (aj (T:=fA) rfl rfl (ah (h1)) rfl) ?_
   conv=>whnf
   refine ak (aj (T:=fA) rfl rfl (ah (h2)) rfl) ?_
   conv=>whnf
   rw [beq_self_eq_true nm]
   conv=>whnf
   refine ak (aj (T:=fA) rfl rfl (ah (h1)) rfl) ?_
   conv=>whnf
   refine ak (aj (T:=fA) rfl rfl (ah (h2)) rfl) ?_
   conv=>whnf
   rw [beq_self_eq_true tx]
   conv=>whnf
   refine ak (aj (T:=nN) rfl rfl (ah (h1)) rfl) ?_
   conv=>whnf
   refine ak (aj (T:=nN) rfl rfl (ah (h2)) rfl) ?_
   conv=>whnf
   rw [decide_eq_true (by omega)]
   conv=>whnf
   conv=>whnf
   refine ak (aj (T:=cu) rfl rfl (ah (h1)) rfl) ?_
   conv=>whnf
   refine ak (aj (T:=cu) rfl rfl (ah (h2)) rfl) ?_
   conv=>whnf
   rw [decide_eq_true (rfl)]
   conv=>whnf
   conv=>whnf
   refine KC h1 h2 hc1 hc2 hcl hbd hpp ?_ cs.length 0 (by omega)
   conv=>whnf
   rcases sl with ⟨rfl,rfl⟩ | ⟨ol1,gl1,ol2,gl2,rfl,rfl⟩ <;> rcases sr with ⟨rfl,rfl⟩ | ⟨or1,gr1,or2,gr2,rfl,rfl⟩
   all_goals
    refine ak (aj (T:=bG) rfl rfl (ah (h1)) rfl) ?_
    conv=>whnf
    refine ak (aj (T:=bG) rfl rfl (ah (h2)) rfl) ?_
    conv=>whnf
    refine ay.to cl ?_
    conv=>whnf
    refine ak (aj (T:=bG) rfl rfl (ah (h1)) rfl) ?_
    conv=>whnf
    refine ak (aj (T:=bG) rfl rfl (ah (h2)) rfl) ?_
    conv=>whnf
    refine ay.to cr ?_
    conv=>whnf
    exact Fin.flat rfl List.take_length ⟨rfl,rfl⟩
theorem SG {σ:St} :ay X 83 [.p0,.p0,.b true] σ fun v s=>v= .b true∧s=σ:=by
 refine ay.body (F:=ZQ) aH (lit:=false) rfl rfl (Nat.le_of_ble_eq_true rfl) ?_
 conv=>whnf
 exact Fin.flat rfl List.take_length ⟨rfl,rfl⟩
theorem CX:∀(N:Nat) (x:Tr),hT x≤N→∀{S S':Nat→Prop} {σ:St} {a b:AV},bJ S σ a x→bJ S' σ b x→wT x≤100000→ay X 83 [a,b,.b true] σ fun v s=>v= .b true∧s=σ
 | N,.nil,_,S,S',σ,a,b,ha,hb,_=>by
   have ha:a= .p0:=ha
   have hb:b= .p0:=hb
   subst ha;subst hb
   exact SG
 | 0,.ex ..,h,_,_,_,_,_,_,_,_=>by simp only [hT] at h;omega
 | N+1,.ex k n nm tx l r ar ln,h,S,S',σ,a,b,ha,hb,hw=>by
   simp only [hT] at h
   simp only [wT] at hw
   obtain⟨o1,g1,L1,R1,A1,_,rfl,h1,hl1,hr1,ha1⟩:=ha
   obtain⟨o2,g2,L2,R2,A2,_,rfl,h2,hl2,hr2,ha2⟩:=hb
   exact VK h1 h2 ha1 ha2 (by omega) (hl1.two hl2) (hr1.two hr2) (CX N l (by omega) hl1 hl2 (by omega)) (CX N r (by omega) hr1 hr2 (by omega)) fun i y hy a b hea heb=>by
    have h3:=Sz _ i y hy
    have h4:=WC _ i y hy
    exact CX N y (by omega) hea heb (by omega)
end Go.bP.YthoodopjoaigdaaGreatDoor
namespace Go.bP.YthoodopjoaigdaaGreatDoor
open Go.Proofs
set_option maxRecDepth 4000
structure WJ (σ:St)(a b:AV) where
 (o g o' g' k ln:Nat) (nm:List UInt8) (pt:Bool) (L R T E L' R' T' E':AV)
 ea:a= .p o g 0
 eb:b= .p o' g' 0
 h1:σ[o]? =some (smO g k nm pt L R T E ln)
 h2:σ[o']? =some (smO g' k nm pt L' R' T' E' ln)
 tl:TwoE L L'
 tr:TwoE R R'
 tt:VJ T T'
 te:VJ E E'
 cl:ay X 83 [L,L',.b true] σ fun v s=>v= .b true∧s=σ
 cr:ay X 83 [R,R',.b true] σ fun v s=>v= .b true∧s=σ
 ct:ay X 52 [T,T',.b true] σ fun v s=>v= .b true∧s=σ
 ce:ay X 52 [E,E',.b true] σ fun v s=>v= .b true∧s=σ
@[reducible] def Y6 (oa ga n ob gb:Nat):Env:=put (some 18) (.b false) (put (some 17) (.i .i64 n) (put (some 16) (.sl oa ga 0 n 1) (put (some 15) (.i .i64 n) [(0,.sl oa ga 0 n 1),(1,.sl ob gb 0 n 1),(2,.b true),(7,.i .i64 n)])))
section
variable {σ:St}
set_option maxHeartbeats 4000000 in
theorem KD {oa ga ob gb:Nat} {cs ds:List AV} (hc1:σ[oa]? =some ⟨ga,false,.cells 121 cs⟩)(hc2:σ[ob]? =some ⟨gb,false,.cells 121 ds⟩)(hl:ds.length=cs.length)(hb:cs.length≤100000)
 (hp:∀i,i<cs.length→∃a b,cs[i]? =some a∧ds[i]? =some b∧Nonempty (WJ σ a b)) {Q:Out→Env→St→Prop}
 (q:Q (.exit 0) (Y6 oa ga cs.length ob gb) σ):∀(d m:Nat),m+d=cs.length→
 aW X [0,1,2,7] V5 [(0,.sl oa ga 0 cs.length 1),(1,.sl ob gb 0 cs.length 1),(2,.b true),(7,.i .i64 m)] σ Q:=by
 intro d
 induction d with
 | zero=>
   intro m hm
   obtain rfl:m=cs.length:=hm
   refine aW.round aH (lit:=false) ?_
   conv=>whnf
   rw [decide_eq_false (by omega)]
   conv=>whnf
   conv=>whnf
   exact q
 | succ d ih=>
   intro m hm
   obtain⟨a,b,ha,hb',⟨o,g,o',g',k,ln,nm,pt,L,R,T,E,L',R',T',E',rfl,rfl,h1,h2,tl,tr,tt,te,cl,cr,ct,ce⟩⟩:=hp m (by omega)
   have ha':cs[0+m*1]? =some (.p o g 0):=by rw [Nat.zero_add,Nat.mul_one];exact ha
   have SC:ds[0+m*1]? =some (.p o' g' 0):=by rw [Nat.zero_add,Nat.mul_one];exact hb'
   have step:=ih (m+1) (by omega)
   clear ih hp
   refine aW.round aH (lit:=false) ?_
   conv=>whnf
   rw [decide_eq_true (by omega)]
   conv=>whnf
   conv=>whnf
   refine⟨m,rfl,by omega,?_⟩
   conv=>whnf
   refine ak (aj (T:=bU) rfl rfl (ah hc1) ha') ?_
   conv=>whnf
   refine⟨m,rfl,by omega,?_⟩
   conv=>whnf
   refine ak (aj (T:=bU) rfl rfl (ah hc2) SC) ?_
   conv=>whnf
   refine ak (aj (T:=cu) rfl rfl (ah (h1)) rfl) ?_
   conv=>whnf
   refine ak (aj (T:=cu) rfl rfl (ah (h2)) rfl) ?_
   conv=>whnf
   rw [decide_eq_true (rfl)]
   conv=>whnf
   conv=>whnf
   refine ak (aj (T:=fA) rfl rfl (ah (h1)) rfl) ?_
   conv=>whnf
   refine ak (aj (T:=fA) rfl rfl (ah (h2)) rfl) ?_
   conv=>whnf
   rw [beq_self_eq_true nm]
   conv=>whnf
   refine ak (aj (T:=kR) rfl rfl (ah (h1)) rfl) ?_
   conv=>whnf
   cases pt
   all_goals
    conv=>whnf
    refine ak (aj (T:=kR) rfl rfl (ah (h2)) rfl) ?_
    conv=>whnf
    refine ak (aj (T:=cu) rfl rfl (ah (h1)) rfl) ?_
    conv=>whnf
    refine ak (aj (T:=cu) rfl rfl (ah (h2)) rfl) ?_
    conv=>whnf
    rw [decide_eq_true (rfl)]
    conv=>whnf
    conv=>whnf
    rcases tl with ⟨rfl,rfl⟩ | ⟨_,_,_,_,rfl,rfl⟩ <;> rcases tr with ⟨rfl,rfl⟩ | ⟨_,_,_,_,rfl,rfl⟩ <;> rcases tt with ⟨rfl,rfl⟩ | ⟨_,_,_,_,_,_,rfl,rfl⟩ <;> rcases te with ⟨rfl,rfl⟩ | ⟨_,_,_,_,_,_,rfl,rfl⟩
    all_goals
        refine ak (aj (T:=bG) rfl rfl (ah (h1)) rfl) ?_
        conv=>whnf
        refine ak (aj (T:=bG) rfl rfl (ah (h2)) rfl) ?_
        conv=>whnf
        refine ay.to cl ?_
        conv=>whnf
        refine ak (aj (T:=bG) rfl rfl (ah (h1)) rfl) ?_
        conv=>whnf
        refine ak (aj (T:=bG) rfl rfl (ah (h2)) rfl) ?_
        conv=>whnf
        refine ay.to cr ?_
        conv=>whnf
        refine ak (aj (T:=dN) rfl rfl (ah (h1)) rfl) ?_
        conv=>whnf
        refine ak (aj (T:=dN) rfl rfl (ah (h2)) rfl) ?_
        conv=>whnf
        refine ay.to ct ?_
        conv=>whnf
        refine ak (aj (T:=dN) rfl rfl (ah (h1)) rfl) ?_
        conv=>whnf
        refine ak (aj (T:=dN) rfl rfl (ah (h2)) rfl) ?_
        conv=>whnf
        refine ay.to ce ?_
        conv=>whnf
        refine⟨((m+1:Nat):Int),wrap_i64 (by omega) (by omega),?_⟩
        conv=>whnf
        exact step
end
theorem Ol {σ:St} :ay X 52 [.sl0,.sl0,.b true] σ fun v s=>v= .b true∧s=σ:=by
 refine ay.body (F:=F52) aH (lit:=false) rfl rfl (Nat.le_of_ble_eq_true rfl) ?_
 conv=>whnf
 refine aW.round aH (lit:=false) ?_
 conv=>whnf
 exact Fin.flat rfl List.take_length ⟨rfl,rfl⟩
theorem KE {σ:St} {oa ga ob gb:Nat} {cs ds:List AV} (hc1:σ[oa]? =some ⟨ga,false,.cells 121 cs⟩)(hc2:σ[ob]? =some ⟨gb,false,.cells 121 ds⟩)(hl:ds.length=cs.length)(hb:cs.length≤100000)
 (hp:∀i,i<cs.length→∃a b,cs[i]? =some a∧ds[i]? =some b∧Nonempty (WJ σ a b)):ay X 52 [.sl oa ga 0 cs.length 1,.sl ob gb 0 cs.length 1,.b true] σ fun v s=>v= .b true∧s=σ:=by
 refine ay.body (F:=F52) aH (lit:=false) rfl rfl (Nat.le_of_ble_eq_true rfl) ?_
 conv=>whnf
 rw [decide_eq_true (rfl)]
 conv=>whnf
 conv=>whnf
 refine KD hc1 hc2 hl hb hp ?_ cs.length 0 (by omega)
 conv=>whnf
 exact Fin.flat rfl List.take_length ⟨rfl,rfl⟩
theorem KF:∀(N:Nat) (x:ug),WI x≤N→∀{S S':Nat→Prop} {σ:St} {a b:AV},dR S σ a x→dR S' σ b x→xA x≤100000→ay X 52 [a,b,.b true] σ fun v s=>v= .b true∧s=σ
 | _,.nil,_,S,S',σ,a,b,ha,hb,_=>by
   have ha:a= .sl0:=ha
   have hb:b= .sl0:=hb
   subst ha;subst hb
   exact Ol
 | 0,.cons ..,h,_,_,_,_,_,_,_,_=>by simp only [WI] at h;omega
 | N+1,.cons t ts,h,S,S',σ,a,b,ha,hb,hw=>by
   obtain⟨oa,ga,cs,rfl,hc1,SE,he1⟩:=ha.list
   obtain⟨ob,gb,ds,rfl,hc2,Y5,he2⟩:=hb.list
   have hcl:ds.length=cs.length:=by rw [SE,Y5]
   rw [hcl]
   refine KE hc1 hc2 hcl (by rw [SE];have:=L_ (.cons t ts);omega) fun i hi=>?_
   obtain⟨y,hy⟩:∃y,(CJ (.cons t ts))[i]? =some y:=⟨_,List.getElem?_eq_getElem (by omega)⟩
   obtain⟨a,ha,hea⟩:=he1 i y hy
   obtain⟨b,hb,heb⟩:=he2 i y hy
   have h3:=SA _ i y hy
   have h4:=WG _ i y hy
   obtain⟨k,nm,pt,l,r,th,el,ln⟩:=y
   obtain⟨o,g,L,R,T,E,_,ea,h1,hl1,hr1,ht1,hE1⟩:=hea
   obtain⟨o',g',L',R',T',E',_,eb,h2,hl2,hr2,ht2,hE2⟩:=heb
   simp only [hS] at h3
   simp only [wS] at h4
   exact⟨a,b,ha,hb,⟨o,g,o',g',k,ln,nm,pt,L,R,T,E,L',R',T',E',ea,eb,h1,h2,hl1.two hl2,hr1.two hr2,ht1.two ht2,hE1.two hE2,CX _ l (Nat.le_refl _) hl1 hl2 (by omega),CX _ r (Nat.le_refl _) hr1 hr2 (by omega),KF N th (by omega) ht1 ht2 (by omega),KF N el (by omega) hE1 hE2 (by omega)⟩⟩
end Go.bP.YthoodopjoaigdaaGreatDoor
namespace Go.bP.YthoodopjoaigdaaGreatDoor
open Go.Proofs
set_option maxRecDepth 4000
@[reducible] def Y7 (oA oB i x y oa ga n:Nat):Env:=put (some 135) (.b false) (put (some 134) (.i .i64 n) (put (some 133) (.sl oa ga 0 n 2) (put (some 132) (.p x 0 (0+1)) (put (some 131) (.p x 0 0) (put (some 130) (.p x 0 0) (put (some 129) (.i .i64 n) [(0,.p oA 0 0),(1,.p oB 0 0),(2,.b true),(7,.i .i64 i),(8,.p x 0 0),(9,.p y 0 0),(10,.i .i64 n)]))))))
section
variable {σ:St} {oA oB i x y ln:Nat} {nm:List UInt8} {pt:Bool} {Bd WL:AV}
theorem KG {oa ga ob gb:Nat} {l:List (List UInt8×Bool)} (h1:σ[x]? =some (gu nm (.sl oa ga 0 l.length 2) pt Bd ln))(h2:σ[y]? =some (gu nm (.sl ob gb 0 l.length 2) pt WL ln))
 (hc1:σ[oa]? =some ⟨ga,false,.cells 90 (oN l)⟩) (hc2:σ[ob]? =some ⟨gb,false,.cells 90 (oN l)⟩) (hb:l.length≤100000) {Q:Out→Env→St→Prop}
 (q:Q (.exit 2) (Y7 oA oB i x y oa ga l.length) σ):∀(d m:Nat),m+d=l.length→
 aW X [0,1,2,7,8,9,10] VU [(0,.p oA 0 0),(1,.p oB 0 0),(2,.b true),(7,.i .i64 i),(8,.p x 0 0),(9,.p y 0 0),(10,.i .i64 m)] σ Q:=by
 intro d
 induction d with
 | zero=>
   intro m hm
   obtain rfl:m=l.length:=hm
   refine aW.round aH (lit:=false) ?_
   conv=>whnf
   refine ak (aj (T:=fU) rfl rfl (ah (h1)) rfl) ?_
   conv=>whnf
   rw [decide_eq_false (by omega)]
   conv=>whnf
   conv=>whnf
   exact q
 | succ d ih=>
   intro m hm
   obtain⟨p,hp⟩:∃p,l[m]? =some p:=⟨_,List.getElem?_eq_getElem (by omega)⟩
   have hpl:=wV l
   refine aW.round aH (lit:=false) ?_
   conv=>whnf
   refine ak (aj (T:=fU) rfl rfl (ah (h1)) rfl) ?_
   conv=>whnf
   rw [decide_eq_true (by omega)]
   conv=>whnf
   conv=>whnf
   refine ak (aj (T:=fU) rfl rfl (ah (h1)) rfl) ?_
   conv=>whnf
   refine⟨m,rfl,by omega,?_⟩
   conv=>whnf
   refine ak (bQ (T:=lI) rfl rfl (ah hc1) (by rw [hpl];show 0+m*2+2≤_;omega)) ?_
   rw [show ((oN l).drop (0+m*2)).take (lI).size=[.s p.1,.b p.2] by rw [Nat.zero_add];exact yF l m p hp]
   conv=>whnf
   refine ak (aj (T:=fU) rfl rfl (ah (h2)) rfl) ?_
   conv=>whnf
   refine⟨m,rfl,by omega,?_⟩
   conv=>whnf
   refine ak (bQ (T:=lI) rfl rfl (ah hc2) (by rw [hpl];show 0+m*2+2≤_;omega)) ?_
   rw [show ((oN l).drop (0+m*2)).take (lI).size=[.s p.1,.b p.2] by rw [Nat.zero_add];exact yF l m p hp]
   conv=>whnf
   rw [beq_self_eq_true p.1,beq_self_eq_true p.2]
   conv=>whnf
   refine⟨((m+1:Nat):Int),wrap_i64 (by omega) (by omega),?_⟩
   conv=>whnf
   exact ih (m+1) (by omega)
end
structure WM (σ:St)(a b:AV) where
 (o o' ln:Nat) (nm:List UInt8) (pt:Bool) (l:List (List UInt8×Bool)) (A Bd A' WL:AV)
 ea:a= .p o 0 0
 eb:b= .p o' 0 0
 h1:σ[o]? =some (gu nm A pt Bd ln)
 h2:σ[o']? =some (gu nm A' pt WL ln)
 hA:SB σ A l
 hA':SB σ A' l
 hl:l.length≤100000
 tb:VJ Bd WL
 cb:ay X 52 [Bd,WL,.b true] σ fun v s=>v= .b true∧s=σ
@[reducible] def Y8 (oA oB oa ga n:Nat):Env:=put (some 40) (.b false) (put (some 39) (.i .i64 n) (put (some 38) (.sl oa ga 0 n 1) (put (some 37) (.p oA 0 (0+0)) (put (some 36) (.p oA 0 0) (put (some 35) (.p oA 0 0) (put (some 34) (.i .i64 n) [(0,.p oA 0 0),(1,.p oB 0 0),(2,.b true),(7,.i .i64 n)]))))))
section
variable {σ:St} {oA oB:Nat}
set_option maxHeartbeats 4000000 in
theorem KH {oa ga ob gb:Nat} {cs ds:List AV} (hx:σ[oA]? =some (uy (.sl oa ga 0 cs.length 1)))(hy:σ[oB]? =some (uy (.sl ob gb 0 ds.length 1)))(hc1:σ[oa]? =some ⟨ga,false,.cells 49 cs⟩)(hc2:σ[ob]? =some ⟨gb,false,.cells 49 ds⟩)(hl:ds.length=cs.length)(hb:cs.length≤100000)
 (hp:∀i,i<cs.length→∃a b,cs[i]? =some a∧ds[i]? =some b∧Nonempty (WM σ a b)) {Q:Out→Env→St→Prop}
 (q:Q (.exit 0) (Y8 oA oB oa ga cs.length) σ):∀(d m:Nat),m+d=cs.length→
 aW X [0,1,2,7] VW [(0,.p oA 0 0),(1,.p oB 0 0),(2,.b true),(7,.i .i64 m)] σ Q:=by
 intro d
 induction d with
 | zero=>
   intro m hm
   obtain rfl:m=cs.length:=hm
   refine aW.round aH (lit:=false) ?_
   conv=>whnf
   refine ak (aj (T:=lH) rfl rfl (ah (hx)) rfl) ?_
   conv=>whnf
   rw [decide_eq_false (by omega)]
   conv=>whnf
   conv=>whnf
   exact q
 | succ d ih=>
   intro m hm
   obtain⟨a,b,ha,hb',⟨o,o',ln,nm,pt,l,A,Bd,A',WL,rfl,rfl,h1,h2,hA,hA',hll,tb,cb⟩⟩:=hp m (by omega)
   have ha':cs[0+m*1]? =some (.p o 0 0):=by rw [Nat.zero_add,Nat.mul_one];exact ha
   have SC:ds[0+m*1]? =some (.p o' 0 0):=by rw [Nat.zero_add,Nat.mul_one];exact hb'
   have step:=ih (m+1) (by omega)
   clear ih hp
   refine aW.round aH (lit:=false) ?_
   conv=>whnf
   refine ak (aj (T:=lH) rfl rfl (ah (hx)) rfl) ?_
   conv=>whnf
   rw [decide_eq_true (by omega)]
   conv=>whnf
   conv=>whnf
   refine ak (aj (T:=lH) rfl rfl (ah (hx)) rfl) ?_
   conv=>whnf
   refine⟨m,rfl,by omega,?_⟩
   conv=>whnf
   refine ak (aj (T:=dX) rfl rfl (ah hc1) ha') ?_
   conv=>whnf
   refine ak (aj (T:=lH) rfl rfl (ah (hy)) rfl) ?_
   conv=>whnf
   refine⟨m,rfl,by omega,?_⟩
   conv=>whnf
   refine ak (aj (T:=dX) rfl rfl (ah hc2) SC) ?_
   conv=>whnf
   refine ak (aj (T:=fA) rfl rfl (ah (h1)) rfl) ?_
   conv=>whnf
   refine ak (aj (T:=fA) rfl rfl (ah (h2)) rfl) ?_
   conv=>whnf
   rw [beq_self_eq_true nm]
   conv=>whnf
   refine ak (aj (T:=kR) rfl rfl (ah (h1)) rfl) ?_
   conv=>whnf
   cases pt
   all_goals
    conv=>whnf
    refine ak (aj (T:=kR) rfl rfl (ah (h2)) rfl) ?_
    conv=>whnf
    rcases hA with ⟨rfl,rfl⟩ | ⟨o1,g1,rfl,q1⟩ <;> rcases hA' with ⟨rfl,hz⟩ | ⟨o2,g2,rfl,q2⟩
    case' inr.inl=>subst hz
    case' inl.inl | inl.inr | inr.inl=>
        refine ak (aj (T:=fU) rfl rfl (ah (h1)) rfl) ?_
        conv=>whnf
        refine ak (aj (T:=fU) rfl rfl (ah (h2)) rfl) ?_
        conv=>whnf
        refine ak (aj (T:=cu) rfl rfl (ah (h1)) rfl) ?_
        conv=>whnf
        refine ak (aj (T:=cu) rfl rfl (ah (h2)) rfl) ?_
        conv=>whnf
        rw [decide_eq_true (rfl)]
        conv=>whnf
        conv=>whnf
        rcases tb with ⟨rfl,rfl⟩ | ⟨_,_,_,_,_,_,rfl,rfl⟩
        all_goals
         refine ak (aj (T:=dN) rfl rfl (ah (h1)) rfl) ?_
         conv=>whnf
         refine ak (aj (T:=dN) rfl rfl (ah (h2)) rfl) ?_
         conv=>whnf
         refine ay.to cb ?_
         conv=>whnf
         refine aW.round aH (lit:=false) ?_
         conv=>whnf
         refine ak (aj (T:=fU) rfl rfl (ah (h1)) rfl) ?_
         conv=>whnf
         refine⟨((m+1:Nat):Int),wrap_i64 (by omega) (by omega),?_⟩
         conv=>whnf
         exact step
    refine ak (aj (T:=fU) rfl rfl (ah (h1)) rfl) ?_
    conv=>whnf
    refine ak (aj (T:=fU) rfl rfl (ah (h2)) rfl) ?_
    conv=>whnf
    rw [decide_eq_true (rfl)]
    conv=>whnf
    conv=>whnf
    refine ak (aj (T:=cu) rfl rfl (ah (h1)) rfl) ?_
    conv=>whnf
    refine ak (aj (T:=cu) rfl rfl (ah (h2)) rfl) ?_
    conv=>whnf
    rw [decide_eq_true (rfl)]
    conv=>whnf
    conv=>whnf
    rcases tb with ⟨rfl,rfl⟩ | ⟨_,_,_,_,_,_,rfl,rfl⟩
    all_goals
        refine ak (aj (T:=dN) rfl rfl (ah (h1)) rfl) ?_
        conv=>whnf
        refine ak (aj (T:=dN) rfl rfl (ah (h2)) rfl) ?_
        conv=>whnf
        refine ay.to cb ?_
        conv=>whnf
        refine KG h1 h2 q1 q2 hll ?_ l.length 0 (by omega)
        conv=>whnf
        refine⟨((m+1:Nat):Int),wrap_i64 (by omega) (by omega),?_⟩
        conv=>whnf
        exact step
end
end Go.bP.YthoodopjoaigdaaGreatDoor
namespace Go.bP.YthoodopjoaigdaaGreatDoor
open Go.Proofs
set_option maxRecDepth 4000
theorem VL {S S':Nat→Prop} {σ:St} {a b:AV} {fs:List Fm} (ha:rD S σ a fs)(hb:rD S' σ b fs)(hw:Oz fs≤100000):ay X 18 [a,b,.b true] σ fun v s=>v= .b true∧s=σ:=by
 obtain⟨oA,A,_,rfl,hx,dA⟩:=ha
 obtain⟨oB,B,_,rfl,hy,dB⟩:=hb
 rcases dA with ⟨rfl,rfl⟩ | ⟨oa,ga,cs,_,rfl,hc1,e1,n1⟩ <;> rcases dB with ⟨hz,rfl⟩ | ⟨ob,gb,ds,_,rfl,hc2,e2,n2⟩
 ·refine ay.body (F:=ZF) aH (lit:=false) rfl rfl (Nat.le_of_ble_eq_true rfl) ?_
  conv=>whnf
  refine ak (aj (T:=lH) rfl rfl (ah (hx)) rfl) ?_
  conv=>whnf
  refine ak (aj (T:=lH) rfl rfl (ah (hy)) rfl) ?_
  conv=>whnf
  refine aW.round aH (lit:=false) ?_
  conv=>whnf
  refine ak (aj (T:=lH) rfl rfl (ah (hx)) rfl) ?_
  conv=>whnf
  exact Fin.flat rfl List.take_length ⟨rfl,rfl⟩
 ·have:=e2.list.1
  exact absurd (List.length_eq_zero_iff.1 (by simpa using this)) n2
 ·subst hz
  have:=e1.list.1
  exact absurd (List.length_eq_zero_iff.1 (by simpa using this)) n1
 ·obtain⟨l1,q1⟩:=e1.list
  obtain⟨l2,q2⟩:=e2.list
  have hl:ds.length=cs.length:=by rw [l1,l2]
  have hfl:=Mc fs
  have hp:∀i,i<cs.length→∃a b,cs[i]? =some a∧ds[i]? =some b∧Nonempty (WM σ a b):=by
   intro i hi
   obtain⟨f,hf⟩:∃f,fs[i]? =some f:=⟨_,List.getElem?_eq_getElem (by omega)⟩
   obtain⟨a,ha,hea⟩:=q1 i f hf
   obtain⟨b,hb,heb⟩:=q2 i f hf
   have h4:=WH _ i f hf
   obtain⟨nm,ps,pt,bd,ln⟩:=f
   obtain⟨o,A,Bd,_,ea,h1,hA,hB⟩:=hea
   obtain⟨o',A',WL,_,eb,h2,hA',hB'⟩:=heb
   simp only [wF] at h4
   exact⟨a,b,ha,hb,⟨o,o',ln,nm,pt,ps,A,Bd,A',WL,ea,eb,h1,h2,hA.or,hA'.or,by omega,hB.two hB',KF _ bd (Nat.le_refl _) hB hB' (by omega)⟩⟩
  refine ay.body (F:=ZF) aH (lit:=false) rfl rfl (Nat.le_of_ble_eq_true rfl) ?_
  conv=>whnf
  refine ak (aj (T:=lH) rfl rfl (ah (hx)) rfl) ?_
  conv=>whnf
  refine ak (aj (T:=lH) rfl rfl (ah (hy)) rfl) ?_
  conv=>whnf
  rw [decide_eq_true (by omega)]
  conv=>whnf
  conv=>whnf
  refine KH hx hy hc1 hc2 hl (by omega) hp ?_ cs.length 0 (by omega)
  conv=>whnf
  exact Fin.flat rfl List.take_length ⟨rfl,rfl⟩
theorem Om {σ:St} :ay X 18 [.p0,.p0,.b true] σ fun v s=>v= .b true∧s=σ:=by
 refine ay.body (F:=ZF) aH (lit:=false) rfl rfl (Nat.le_of_ble_eq_true rfl) ?_
 conv=>whnf
 exact Fin.flat rfl List.take_length ⟨rfl,rfl⟩
theorem Md {a b:AV} {σ:St} (ha:a= .p0∨∃o g,a= .p o g 0)(hb:b= .p0∨∃o g,b= .p o g 0)(h:ay X 18 [a,b,.b true] σ fun v s=>v= .b true∧s=σ):ay X 7 [a,b] σ fun v s=>v= .b true∧s=σ:=by
 rcases ha with rfl | ⟨_,_,rfl⟩ <;> rcases hb with rfl | ⟨_,_,rfl⟩
 all_goals
  refine ay.body (F:=F7) aH (lit:=false) rfl rfl (Nat.le_of_ble_eq_true rfl) ?_
  conv=>whnf
  refine ay.to h ?_
  conv=>whnf
  exact Fin.flat rfl List.take_length ⟨rfl,rfl⟩
theorem CY:∀(k:Nat) (s:List UInt8) (l:Nat) (acc:List Tok) {a:List Tok} {n:Nat},kJ k s l acc= .done a n→a.length≤acc.length+k
 | 0,[],l,acc,a,n,h=>by cases h;simp
 | 0,_ :: _,l,acc,a,n,h=>by cases h;simp
 | k+1,[],l,acc,a,n,h=>by cases h;omega
 | k+1,c :: r,l,acc,a,n,h=>by
   simp only [kJ] at h
   split at h
   ·have:=CY k _ _ _ h;omega
   ·have:=CY k _ _ _ h;rw [List.length_append] at this;simp only [List.length_cons,List.length_nil] at this;omega
   ·cases h
theorem SH {t:List UInt8} {l:List Tok} (h:qO t= .toks l):l.length≤40000:=by
 unfold qO at h
 split at h
 ·cases h
 ·rename_i hl
  cases hr:kJ t.length t 0 [] with
  | done a b=>
    rw [hr] at h
    have:=CY _ _ _ _ hr
    cases h
    rw [List.length_append]
    simp only [List.length_cons,List.length_nil] at this ⊢
    omega
  | bad a b=>rw [hr] at h;cases h
theorem SI {t:List UInt8} {fs:List Fm} {ts:List Tok} (h:uZ t= .ok fs ts):Oz fs≤100000:=by
 unfold uZ at h
 split at h
 ·cases h
 ·rename_i l hl
  have h1:=SH hl
  have h2:=Ji (10*l.length+11) l
  rw [h] at h2
  have h2:Oz fs+ts.length≤l.length:=h2
  omega
theorem Oo (t:List UInt8)(σ:St)(hg:σ.take G0.length=G0):ay X 3 [.s t] σ fun v s=>v= .b true∧s=σ:=by
 refine ay.body (F:=F3) aH (lit:=false) rfl rfl (Nat.le_of_ble_eq_true rfl) ?_
 conv=>whnf
 refine Vy t σ hg _ ?_
 cases hr:uZ t with
 | out=>trivial
 | ok fs ts=>
   have hw:=SI hr
   intro o σ1 x1 hp1
   conv=>whnf
   refine L8 t σ1 _ ?_
   rw [hr]
   intro o2 σ2 x2 hp2
   conv=>whnf
   refine ak (aC (T:=lG) ([.i .i64 0,.i .i64 0]) rfl (aF _ _ _) rfl rfl (Nat.le_of_ble_eq_true rfl) rfl) ?_
   have x6:Ext σ2 ((au 29 lG.zero.cells σ2).set σ2.length ⟨0,false,.cells 29 [.i .i64 0,.i .i64 0]⟩):=((Ext.refl σ2).new _ _).set (Nat.le_refl _) _
   have b6:((au 29 lG.zero.cells σ2).set σ2.length ⟨0,false,.cells 29 [.i .i64 0,.i .i64 0]⟩)[σ2.length]? =_:=at_set (aF _ _ _) _
   have l6:((au 29 lG.zero.cells σ2).set σ2.length ⟨0,false,.cells 29 [.i .i64 0,.i .i64 0]⟩).length=σ2.length+1:=by rw [List.length_set,aG]
   generalize (au 29 lG.zero.cells σ2).set σ2.length ⟨0,false,.cells 29 [.i .i64 0,.i .i64 0]⟩=lV at b6 x6 l6 ⊢
   conv=>whnf
   have x12:=(x1.trans x2).trans x6
   refine ak (bQ (T:=lG) rfl rfl (ah (b6)) (Nat.le_of_ble_eq_true rfl)) ?_
   conv=>whnf
   refine ay.to (VF 0 0 _) ?_
   conv=>whnf
   refine ay.to (Md (.inr ⟨_,_,rfl⟩) (.inr ⟨_,_,rfl⟩) (VL (hp1.mono (fun i hi=>hi) (fun i hi a ha=>x6.get (x2.get ha))) (hp2.mono (fun i hi=>hi) (fun i hi a ha=>x6.get ha)) hw)) ?_
   conv=>whnf
   refine IE _ (kZ x12 hg) ?_
   conv=>whnf
   exact Fin.flat rfl x12.take ⟨rfl,rfl⟩
 | bad c l=>
   intro o g σ1 x1 hf
   conv=>whnf
   refine L8 t σ1 _ ?_
   rw [hr]
   show _
   conv=>whnf
   refine ak (aC (T:=lG) ([.i .i64 c,.i .i64 l]) rfl (aF _ _ _) rfl rfl (Nat.le_of_ble_eq_true rfl) rfl) ?_
   have x6:Ext σ1 ((au 29 lG.zero.cells σ1).set σ1.length ⟨0,false,.cells 29 [.i .i64 c,.i .i64 l]⟩):=((Ext.refl σ1).new _ _).set (Nat.le_refl _) _
   have b6:((au 29 lG.zero.cells σ1).set σ1.length ⟨0,false,.cells 29 [.i .i64 c,.i .i64 l]⟩)[σ1.length]? =_:=at_set (aF _ _ _) _
   have l6:((au 29 lG.zero.cells σ1).set σ1.length ⟨0,false,.cells 29 [.i .i64 c,.i .i64 l]⟩).length=σ1.length+1:=by rw [List.length_set,aG]
   generalize (au 29 lG.zero.cells σ1).set σ1.length ⟨0,false,.cells 29 [.i .i64 c,.i .i64 l]⟩=lV at b6 x6 l6 ⊢
   conv=>whnf
   have x12:=x1.trans x6
   refine ak (bQ (T:=lG) rfl rfl (ah (b6)) (Nat.le_of_ble_eq_true rfl)) ?_
   conv=>whnf
   refine ay.to (VG (kZ x12 hg) (x6.get hf)) ?_
   conv=>whnf
   refine ay.to (Md (.inl rfl) (.inl rfl) Om) ?_
   conv=>whnf
   refine IE _ (kZ x12 hg) ?_
   conv=>whnf
   exact Fin.flat rfl x12.take ⟨rfl,rfl⟩
end Go.bP.YthoodopjoaigdaaGreatDoor
