/- Texts of this claim, joined: Abs53, Abs54, Abs55, Fg. -/
import Derived.Test.YthggaoedidfpcaaGreatDoorM16
import Derived.Test.YthggaoedidfpcaaGreatDoorM07
import Derived.Test.YthggaoedidfpcaaGreatDoorM08
set_option linter.unusedVariables false
set_option linter.unusedSimpArgs false
namespace Go.dX
inductive Fr where
 | sq (b:Nat) (c:AC)
 | bk (id:Nat)
 | lp (b:Nat) (l:List Nat) (c:AC)
 | hd (k g d:Nat) (h:AC)
structure Nd where
 live:List Nat
 b:Nat
 c:AC
 fs:List Fr
noncomputable def V4:List Nat→Bool:=List.rec (motive:=fun _=>Bool) false (fun d _ _=>Nat.beq d (nat_lit 1000000))
noncomputable def cnt:AC→Nat:=AC.rec (motive:=fun _=>Nat) 0 (fun _=>0) (fun _=>0) (fun _ _ a b=>Nat.add a b) (fun _ _ _ a b=>Nat.add a b) (fun _ _ a=>a) (fun _ _ a=>Nat.succ a) (fun l _ a=>bC (V4 l) (Nat.succ a) a) (fun _=>0) 0 (fun _=>0) (fun _=>0) (fun _=>0) (fun _ _ _ _ _ a _=>a)
def iL:AC→Nat
 | .seq a b=>iL a+iL b+1
 | .cond _ a b=>iL a+iL b+1
 | .blk _ c=>iL c+1
 | .loop _ c=>iL c+1
 | .cut _ c=>iL c+1
 | .hnd _ _ _ c _=>iL c+1
 | _=>1
noncomputable def nodes:AC→Nat→List Fr→List Nd:=AC.rec (motive:=fun _=>Nat→List Fr→List Nd)
 (fun _ _=>[]) (fun _ _ _=>[]) (fun _ _ _=>[])
 (fun a c iha rP b fs=>iha b (.sq (Nat.add b (cnt a)) c :: fs) ++ rP (Nat.add b (cnt a)) fs)
 (fun _ a _ iha rP b fs=>iha b fs ++ rP (Nat.add b (cnt a)) fs)
 (fun id _ ih b fs=>ih b (.bk id :: fs))
 (fun l c ih b fs=>⟨l,Nat.succ b,c,.lp b l c :: fs⟩ :: ih (Nat.succ b) (.lp b l c :: fs))
 (fun l c ih b fs=>bC (V4 l) (⟨l,Nat.succ b,c,fs⟩ :: ih (Nat.succ b) fs) (ih b fs))
 (fun _ _ _=>[]) (fun _ _=>[])
 (fun _ _ _=>[]) (fun _ _ _=>[]) (fun _ _ _=>[]) (fun k g d _ h ih _ b fs=>ih b (.hd k g d h :: fs))
theorem Fq (k g d:Nat)(c h:AC)(b:Nat)(fs:List Fr):nodes (.hnd k g d c h) b fs=nodes c b (.hd k g d h :: fs):=rfl
theorem uK (a c:AC)(b:Nat)(fs:List Fr):nodes (.seq a c) b fs=nodes a b (.sq (b+cnt a) c :: fs) ++ nodes c (b+cnt a) fs:=rfl
theorem qY (x:bT)(a c:AC)(b:Nat)(fs:List Fr):nodes (.cond x a c) b fs=nodes a b fs ++ nodes c (b+cnt a) fs:=rfl
theorem Qv (id:Nat)(c:AC)(b:Nat)(fs:List Fr):nodes (.blk id c) b fs=nodes c b (.bk id :: fs):=rfl
theorem vW (l:List Nat)(c:AC)(b:Nat)(fs:List Fr):nodes (.loop l c) b fs=⟨l,b+1,c,.lp b l c :: fs⟩ :: nodes c (b+1) (.lp b l c :: fs):=rfl
theorem lS (l:List Nat)(c:AC)(b:Nat)(fs:List Fr):nodes (.cut l c) b fs=bC (V4 l) (⟨l,b+1,c,fs⟩ :: nodes c (b+1) fs) (nodes c b fs):=rfl
theorem Oq (l:List Nat)(c:AC):cnt (.cut l c)=bC (V4 l) (cnt c+1) (cnt c):=rfl
theorem uM (c:AC):∀(b:Nat) (fs:List Fr),(nodes c b fs).length=cnt c:=by
 induction c with
 | skip=>intro b fs;rfl
 | reg _=>intro b fs;rfl
 | gJ _=>intro b fs;rfl
 | exit _=>intro b fs;rfl
 | ret=>intro b fs;rfl
 | iO _=>intro b fs;rfl
 | iM _=>intro b fs;rfl
 | Kv _=>intro b fs;rfl
 | hnd k g d c h ih _=>intro b fs;rw [Fq,ih];rfl
 | seq a c iha rP=>intro b fs;rw [uK,List.length_append,iha,rP];rfl
 | cond x a c iha rP=>intro b fs;rw [qY,List.length_append,iha,rP];rfl
 | blk id c ih=>intro b fs;rw [Qv,ih];rfl
 | loop l c ih=>intro b fs;rw [vW,List.length_cons,ih];rfl
 | cut l c ih=>
   intro b fs
   rw [lS,Oq]
   cases V4 l with
   | true=>rw [jE,jE,List.length_cons,ih]
   | false=>rw [jv,jv,ih]
inductive lT where
 | normal
 | exit (id:Nat)
 | ret
 | gu (v:FV)
noncomputable def lT.av:lT→Out
 | .normal=>.normal
 | .exit id=>.exit id
 | .ret=>.ret
 | .gu v=>.gu v.av
noncomputable def lT.rc (o:lT):FV:=lT.rec (motive:=fun _=>FV) (.n (nat_lit 5) (nat_lit 0)) (fun _=>.n (nat_lit 5) (nat_lit 0)) (.n (nat_lit 5) (nat_lit 0)) (fun v=>v) o
theorem lT.rc_av (o:lT):o.rc.av=o.av.rec':=by cases o <;> rfl
abbrev KQ:=lT→dP→GS→Bool
abbrev Go:=Nat→List FV→GS→Bool
noncomputable def H6:Nat→List FV→dP→dP:=fun n l e=>List.rec (motive:=fun _=>Nat→dP) (fun _=>e) (fun a _ ih n=>(n,a) :: ih (Nat.succ n)) l n
theorem AB:∀(l:List FV) (n:Nat),dV (H6 n l [])=d_ n (l.map FV.av)
 | [],_=>rfl
 | a :: l,n=>by
   show (n,a.av) :: dV (H6 (n+1) l [])=_
   rw [AB l];rfl
noncomputable def valsF (e:dP):List Nat→List FV:=List.rec (motive:=fun _=>List FV) [] (fun d _ ih=>jF e d :: ih)
noncomputable def JW:List Nat→List FV→dP:=List.rec (motive:=fun _=>List FV→dP) (fun _=>[]) (fun d _ ih vs=>List.rec (motive:=fun _=>dP) [] (fun v vs _=>(d,v) :: ih vs) vs)
noncomputable abbrev kSeq (A:dP→GS→KQ→Bool) (Q:KQ):KQ:=fun o e s=>lT.rec (motive:=fun _=>Bool) (A e s Q) (fun id=>Q (.exit id) e s) (Q .ret e s) (fun v=>Q (.gu v) e s) o
noncomputable abbrev kBlk (id:Nat) (Q:KQ):KQ:=fun o e s=>lT.rec (motive:=fun _=>Bool) (Q .normal e s) (fun j=>bC (Nat.beq j id) (Q .normal e s) (Q (.exit j) e s)) (Q .ret e s) (fun v=>Q (.gu v) e s) o
noncomputable abbrev kLp (go:Go) (b:Nat) (l:List Nat) (Q:KQ):KQ:=fun o e s=>lT.rec (motive:=fun _=>Bool) (go b (valsF e l) s) (fun id=>Q (.exit id) e s) (Q .ret e s) (fun v=>Q (.gu v) e s) o
noncomputable def kHr (k g d:Nat)(n:Nat)(H:dP→GS→KQ→Bool)(o:lT)(e:dP)(s:GS)(Q:KQ):Bool:=match jF e k with
 | .n _ _=>Q o e s
 | .c 3 g' [.c 0 _ a,.c 0 _ c]=>bC (Nat.beq g g') (bC (Nat.ble (a ++ c).length d) (bC (Nat.beq n (nat_lit 0)) (H ((d,o.rc) :: H6 (nat_lit 0) (a ++ c) []) s fun o2 _ s2=>lT.rec (motive:=fun _=>Bool) (Q .ret e s2) (fun _=>false) (Q .ret e s2) (fun _=>false) o2) false) false) false
 | _=>false
noncomputable abbrev kHd (k g d:Nat) (n:Nat) (H:dP→GS→KQ→Bool) (Q:KQ):KQ:=fun o e s=>lT.rec (motive:=fun _=>Bool) (kHr k g d n H .normal e s Q) (fun _=>false) (kHr k g d n H .ret e s Q) (fun v=>kHr k g d n H (.gu v) e s Q) o
section
variable (X:Ctx)(τ:jc)(run:aP)(go:Go)
noncomputable def gDfr (run:Rn)(a:AI)(e:dP)(s:GS)(K:dP→GS→Bool):Bool:=match jF e (a.d.getD 0) with
 | .n _ _=>Qs X τ run [a] e s K
 | _=>false
noncomputable def vC:AC→Nat→dP→GS→KQ→Bool:=AC.rec (motive:=fun _=>Nat→dP→GS→KQ→Bool)
 (fun _ e s Q=>Q .normal e s)
 (fun ops _ e s Q=>Qs X τ (nR run) ops e s fun e s=>Q .normal e s)
 (fun ops _ e s Q=>VU X τ (nR run) ops e s fun e s=>Q .normal e s)
 (fun a _ iha rP b e s Q=>iha b e s (kSeq (rP (Nat.add b (cnt a))) Q))
 (fun x a _ iha rP b e s Q=>bC (tX x) (bH (Ia e x) (iha b e s Q) (rP (Nat.add b (cnt a)) e s Q)) false)
 (fun id _ ih b e s Q=>ih b e s (kBlk id Q))
 (fun l _ _ b e s _=>go b (valsF e l) s)
 (fun l _ ih b e s Q=>bC (V4 l) (go b (valsF e l) s) (ih b (JW l (valsF e l)) s Q))
 (fun id _ e s Q=>Q (.exit id) e s)
 (fun _ e s Q=>Q .ret e s)
 (fun ops _ e s Q=>JU X τ run ops e s (fun e s=>Q .normal e s) fun e v s=>Q (.gu v) e s)
 (fun ops _ e s Q=>JV X τ run ops e s (fun e s=>Q .normal e s) fun v s=>Q (.gu v) (Du ops e) s)
 (fun a _ e s Q=>gDfr X τ (nR run) a e s fun e s=>Q .normal e s)
 (fun k g d _ h rP ihh b e s Q=>rP b ((k,.n (nat_lit 0) (nat_lit 0)) :: e) s (kHd k g d (cnt h) (ihh (nat_lit 0)) Q))
noncomputable def ak:FV→Bool:=FV.rec (motive_1:=fun _=>Bool) (motive_2:=fun _=>PUnit) (fun _ _=>true) (fun _ _ _=>true) (fun _ _ _ _ _=>true) (fun _ _=>true) (fun t _ _ _=>bC (Nat.beq t (nat_lit 4)) false true) ⟨⟩ (fun _ _ _ _=>⟨⟩)
noncomputable abbrev gRes1 (e:dP) (s:GS) (r:AR) (K:KF):Bool:=AR.rec (motive:=fun _=>Bool) (fun n=>bC (ak (jF e n)) (K (jF e n)) false) (fun a t=>match τ t with
 | some T=>bC T.d.agg (cO T.size (jF e a) s K) (ah (jF e a) s K)
 | none=>false) r
noncomputable abbrev Fv (e:dP) (s:GS):List AR→(List FV→Bool)→Bool:=List.rec (motive:=fun _=>(List FV→Bool)→Bool) (fun K=>K []) (fun r _ ih K=>gRes1 τ e s r fun v=>ih fun l=>K (v :: l))
noncomputable abbrev V5 (l:List FV) (s:GS) (K:KS):Bool:=match l with
 | [v]=>K v s
 | l=>K (.c (nat_lit 1) (nat_lit 0) l) s
noncomputable abbrev kFin (res:List AR) (K Z:KS):KQ:=fun o e s=>lT.rec (motive:=fun _=>Bool) (Fv τ e s res fun l=>V5 l s K) (fun _=>false) (Fv τ e s res fun l=>V5 l s K) (fun v=>Z v s) o
noncomputable abbrev Ko (res:List AR) (K Z:KS):List Fr→KQ:=List.rec (motive:=fun _=>KQ) (kFin τ res K Z) (fun f _ ih=>Fr.rec (motive:=fun _=>KQ) (fun b c=>kSeq (vC X τ run go c b) ih) (fun id=>kBlk id ih) (fun b l _=>kLp go b l ih) (fun k g d h=>kHd k g d (cnt h) (vC X τ run go h (nat_lit 0)) ih) f)
end
def aK (X:Ctx)(n:Nat):List Fr→Out→Env→St→Option (Out×Env×St)
 | [],q,e,σ=>some (q,e,σ)
 | .sq _ c :: fs,q,e,σ=>match q with
   | .normal=>(aW X (mJ X n) n c e σ).bind fun r=>aK X n fs r.1 r.2.1 r.2.2
   | q=>aK X n fs q e σ
 | .bk id :: fs,q,e,σ=>match q with
   | .exit j=>aK X n fs (if j=id then .normal else .exit j) e σ
   | q=>aK X n fs q e σ
 | .lp _ l c :: fs,q,e,σ=>match q with
   | .normal=>(iP l (aW X (mJ X n) n c) n e σ).bind fun r=>aK X n fs r.1 r.2.1 r.2.2
   | q=>aK X n fs q e σ
 | .hd k g d h :: fs,q,e,σ=>match q with
   | .exit _=>none
   | q=>(wI k g d (aW X (mJ X n) n h) (d_ 0) q e σ).bind fun r=>aK X n fs r.1 r.2.1 r.2.2
def Dy (X:Ctx)(n:Nat)(c:AC)(fs:List Fr)(e:Env)(σ:St):Option (Out×Env×St):=(aW X (mJ X n) n c e σ).bind fun r=>aK X n fs r.1 r.2.1 r.2.2
def FinY (X:Ctx)(res:List AR)(K Z:KS)(y:Out×Env×St):Prop:=∃b v σ' s',Iu X res y=some (b,FV.av v,σ')∧GS.Is s' σ'∧(bif b then Z v s' else K v s')=true
def Ot (X:Ctx)(res:List AR)(K Z:KS)(o:Option (Out×Env×St)):Prop:=∃y,o=some y∧FinY X res K Z y
section
variable {X:Ctx}
theorem kX {n m:Nat} (h:n≤m) {c:AC} {e:Env} {σ:St} {x} (hx:aW X (mJ X n) n c e σ=some x):aW X (mJ X m) m c e σ=some x:=kQ (pG X h) h hx
theorem loop_le {n m:Nat} (h:n≤m) {l:List Nat} {c:AC} {e:Env} {σ:St} {x} (hx:iP l (aW X (mJ X n) n c) n e σ=some x):iP l (aW X (mJ X m) m c) m e σ=some x:=
 qj (fun _ _ _ hx=>kX h hx) h hx
theorem ML {n m:Nat} (h:n≤m) {k g d:Nat} {c:AC} {o:Out} {e:Env} {σ:St} {x} (hx:wI k g d (aW X (mJ X n) n c) (d_ 0) o e σ=some x):wI k g d (aW X (mJ X m) m c) (d_ 0) o e σ=some x:=
 Ad (fun _ _ _ hb=>kX h hb) hx
theorem iY {n m:Nat} (h:n≤m):∀(fs:List Fr) {q:Out} {e:Env} {σ:St} {x} (_:aK X n fs q e σ=some x),aK X m fs q e σ=some x
 | [],_,_,_,_,hx=>hx
 | .sq b c :: fs,q,e,σ,x,hx=>by
   cases q with
   | normal=>
     simp only [aK,Option.bind_eq_some_iff] at hx ⊢
     obtain⟨r,h1,h2⟩:=hx
     exact⟨r,kX h h1,iY h fs h2⟩
   | exit j=>exact iY (q:=.exit j) h fs hx
   | ret=>exact iY (q:=.ret) h fs hx
   | gu v=>exact iY (q:=.gu v) h fs hx
 | .bk id :: fs,q,e,σ,x,hx=>by
   cases q with
   | normal=>exact iY (q:=.normal) h fs hx
   | exit j=>exact iY (q:=if j=id then .normal else .exit j) h fs hx
   | ret=>exact iY (q:=.ret) h fs hx
   | gu v=>exact iY (q:=.gu v) h fs hx
 | .lp b l c :: fs,q,e,σ,x,hx=>by
   cases q with
   | normal=>
     simp only [aK,Option.bind_eq_some_iff] at hx ⊢
     obtain⟨r,h1,h2⟩:=hx
     exact⟨r,loop_le h h1,iY h fs h2⟩
   | exit j=>exact iY (q:=.exit j) h fs hx
   | ret=>exact iY (q:=.ret) h fs hx
   | gu v=>exact iY (q:=.gu v) h fs hx
 | .hd k g d c :: fs,q,e,σ,x,hx=>by
   cases q with
   | exit j=>cases hx
   | normal=>
     simp only [aK,Option.bind_eq_some_iff] at hx ⊢
     obtain⟨r,h1,h2⟩:=hx
     exact⟨r,ML h h1,iY h fs h2⟩
   | ret=>
     simp only [aK,Option.bind_eq_some_iff] at hx ⊢
     obtain⟨r,h1,h2⟩:=hx
     exact⟨r,ML h h1,iY h fs h2⟩
   | gu v=>
     simp only [aK,Option.bind_eq_some_iff] at hx ⊢
     obtain⟨r,h1,h2⟩:=hx
     exact⟨r,ML h h1,iY h fs h2⟩
end
def pI:List Fr→Nat
 | []=>0
 | .sq _ c :: fs=>iL c+pI fs
 | _ :: fs=>pI fs
theorem Qw (c:AC):0<iL c:=by cases c <;> simp [iL]
section
variable {X:Ctx} {τ:jc} (bU:τ.Ok X.P) {run:aP} (hr:run.Ok X) {go:Go} {res:List AR} {K Z:KS} {N:List Nd}
def GoOk (X:Ctx)(go:Go)(res:List AR)(K Z:KS)(N:List Nd):Prop:=∀i nd,N[i]? =some nd→∀(vs:List FV) (s:GS) (σ:St),s.Is σ→go i vs s=true→∃n,Ot X res K Z (Dy X n nd.c nd.fs (dV (JW nd.live vs)) σ)
def H7 (N:List Nd)(c:AC)(b:Nat)(fs:List Fr):Prop:=∀i nd,(nodes c b fs)[i]? =some nd→N[b+i]? =some nd
def H8 (N:List Nd):List Fr→Prop
 | []=>True
 | .sq b c :: fs=>H7 N c b fs∧H8 N fs
 | .bk _ :: fs=>H8 N fs
 | .lp b l c :: fs=>N[b]? =some ⟨l,b+1,c,.lp b l c :: fs⟩∧H8 N fs
 | .hd _ _ _ _ :: fs=>H8 N fs
theorem qC (e:dP):∀l:List Nat,dV (JW l (valsF e l))=clear l (dV e)
 | []=>rfl
 | d :: l=>by
   show (d,(jF e d).av) :: dV (JW l (valsF e l))=_
   rw [qC e l,fV];rfl
theorem H7.seq {a c:AC} {b:Nat} {fs:List Fr} (h:H7 N (.seq a c) b fs):H7 N a b (.sq (b+cnt a) c :: fs)∧H7 N c (b+cnt a) fs:=by
 refine⟨fun i nd hi=>h i nd ?_,fun i nd hi=>?_⟩
 ·rw [uK]
  rw [List.getElem?_append_left (List.getElem?_eq_some_iff.1 hi).1];exact hi
 ·have:=h (cnt a+i) nd (by
   rw [uK]
   rw [List.getElem?_append_right (by rw [uM];omega),uM,show cnt a+i - cnt a=i by omega];exact hi)
  rw [show b+cnt a+i=b+(cnt a+i) by omega];exact this
theorem H7.cond {x:bT} {a c:AC} {b:Nat} {fs:List Fr} (h:H7 N (.cond x a c) b fs):H7 N a b fs∧H7 N c (b+cnt a) fs:=by
 refine⟨fun i nd hi=>h i nd ?_,fun i nd hi=>?_⟩
 ·rw [qY]
  rw [List.getElem?_append_left (List.getElem?_eq_some_iff.1 hi).1];exact hi
 ·have:=h (cnt a+i) nd (by
   rw [qY]
   rw [List.getElem?_append_right (by rw [uM];omega),uM,show cnt a+i - cnt a=i by omega];exact hi)
  rw [show b+cnt a+i=b+(cnt a+i) by omega];exact this
theorem H7.hnd {k g d:Nat} {c h:AC} {b:Nat} {fs:List Fr} (q:H7 N (.hnd k g d c h) b fs):H7 N c b (.hd k g d h :: fs):=fun i nd hi=>q i nd (by rw [Fq];exact hi)
theorem Fz {n:Nat} {b:Nat} {l:List Nat} {c:AC} {fs:List Fr} {e:Env} {σ:St} {x} (h:Dy X n c (.lp b l c :: fs) (clear l e) σ=some x):(iP l (aW X (mJ X (n+1)) (n+1) c) (n+1) e σ).bind (fun r=>aK X (n+1) fs r.1 r.2.1 r.2.2)=some x:=by
 unfold Dy at h
 rw [Option.bind_eq_some_iff] at h
 obtain⟨⟨q,e1,σ1⟩,h1,h2⟩:=h
 have h1':=kX (Nat.le_succ n) h1
 rw [Option.bind_eq_some_iff]
 cases q with
 | normal=>
   simp only [aK,Option.bind_eq_some_iff] at h2
   obtain⟨r,h3,h4⟩:=h2
   refine⟨r,?_,iY (Nat.le_succ n) fs h4⟩
   simp only [iP,h1']
   exact qj (fun _ _ _ hx=>kX (Nat.le_succ n) hx) (Nat.le_refl n) h3
 | exit j=>
   refine⟨(.exit j,e1,σ1),?_,iY (Nat.le_succ n) fs h2⟩
   simp only [iP,h1']
 | ret=>
   refine⟨(.ret,e1,σ1),?_,iY (Nat.le_succ n) fs h2⟩
   simp only [iP,h1']
 | gu v=>
   refine⟨(.gu v,e1,σ1),?_,iY (Nat.le_succ n) fs h2⟩
   simp only [iP,h1']
end
end Go.dX
namespace Go.dX
section
variable {X:Ctx} {τ:jc} (bU:τ.Ok X.P) {run:aP} (hr:run.Ok X) {go:Go} {res:List AR} {K Z:KS} {N:List Nd} (hgo:GoOk X go res K Z N)
include bU
theorem V6 {e:dP} {s:GS} {σ:St} (h:s.Is σ) {r:AR} {K:KF} (hk:gRes1 τ e s r K=true):∃v:FV,uZ X.P (dV e) σ r=some v.av∧K v=true:=by
 cases r with
 | t n=>
   obtain⟨h1,h2⟩:=aT hk
   refine⟨_,?_,h2⟩
   simp only [uZ]
   rw [←fV]
   have hn:∀x:FV,ak x=true→∀c v,x.av≠.cd c v:=by
     intro x hx c v
     cases x with
     | n t x=>
       rw [FV.xu]
       rcases lN t x with ⟨k,_,e⟩ | ⟨_,e⟩ | ⟨_,e⟩ | ⟨_,e⟩ | ⟨_,e⟩ | ⟨_,e⟩ | ⟨_,e⟩ | e <;> (rw [e];intro h;cases h)
     | c t a l=>
       have q1:t≠4:=fun e=>by subst e;exact Bool.noConfusion (show false=true from hx)
       rw [FV.CU]
       rcases qR t a (FV.Qj l) with ⟨e,q⟩ | ⟨e,q⟩ | ⟨e,q⟩ | ⟨e,q⟩ | ⟨e,q⟩ | ⟨e,q⟩ | ⟨e,q⟩
       all_goals first | (exact(q1 e).elim) | (rw [q];intro h;cases h)
     | _=>intro h;cases h
   split
   ·rename_i c v hc;exact(hn _ h1 _ _ hc).elim
   ·rfl
 | cell a t=>
   have hk':(match τ t with
    | some T=>bC T.d.agg (cO T.size (jF e a) s K) (ah (jF e a) s K)
    | none=>false)=true:=hk
   split at hk'
   ·rename_i T hT
    simp only [uZ]
    rw [←fV,bU _ _ hT]
    cases ha:T.d.agg with
    | true=>rw [ha,jE] at hk';exact E_ h ha hk'
    | false=>rw [ha,jv] at hk';exact E8 h ha hk'
   ·cases hk'
theorem JX {e:dP} {s:GS} {σ:St} (h:s.Is σ):∀(rs:List AR) {K:List FV→Bool} (_:Fv τ e s rs K=true),∃l,pX X.P (dV e) σ rs=some (l.map FV.av)∧K l=true
 | [],K,hk=>⟨[],rfl,hk⟩
 | r :: rs,K,hk=>by
   obtain⟨v,h1,h2⟩:=V6 bU h (K:=fun v=>Fv τ e s rs fun l=>K (v :: l)) hk
   obtain⟨l,h3,h4⟩:=JX h rs h2
   exact⟨_,by simp only [pX,h1,h3,List.map_cons],h4⟩
theorem kRes_ok {e:dP} {s:GS} {σ:St} (h:s.Is σ) {K:KS} (hk:Fv τ e s res (fun l=>V5 l s K)=true):∃v:FV,uO X.P res (dV e) σ=some v.av∧K v s=true:=by
 obtain⟨l,h1,h2⟩:=JX bU h res hk
 unfold uO
 rw [h1]
 unfold V5 at h2
 split at h2
 ·exact⟨_,rfl,h2⟩
 ·rename_i hn
  refine⟨_,?_,h2⟩
  rw [CW]
  cases l with
  | nil=>rfl
  | cons a l=>cases l with
    | nil=>exact(hn a rfl).elim
    | cons b l=>rfl
theorem Ou {e:dP} {s:GS} {σ:St} (h:s.Is σ) {K Z:KS} (hk:Fv τ e s res (fun l=>V5 l s K)=true) {o:Out} (ho:o= .normal∨o= .ret):FinY X res K Z (o,dV e,σ):=by
 obtain⟨v,h1,h2⟩:=kRes_ok bU h hk
 rcases ho with rfl | rfl
 ·exact⟨false,v,σ,s,by simp only [Iu];rw [h1];rfl,h,h2⟩
 ·exact⟨false,v,σ,s,by simp only [Iu];rw [h1];rfl,h,h2⟩
omit bU in
theorem Ov (t x:Nat):∀f a c,(FV.n t x).av≠.fn f a c:=by
 intro f a c
 rw [FV.xu]
 rcases lN t x with ⟨k,_,e⟩ | ⟨_,e⟩ | ⟨_,e⟩ | ⟨_,e⟩ | ⟨_,e⟩ | ⟨_,e⟩ | ⟨_,e⟩ | e <;> (rw [e];intro h;cases h)
omit bU in
theorem V7 {k g d n:Nat} {H:dP→GS→KQ→Bool} {o:lT} {e:dP} {s:GS} {σ:St} {Q:KQ} (h:s.Is σ)(hk:kHr k g d n H o e s Q=true) :
 (∀(f:Env→St→Option (Out×Env×St)) (arg:List AV→Env),wI k g d f arg o.av (dV e) σ=some (o.av,dV e,σ)∧Q o e s=true)∨
 (n=0∧∃l:List FV,H ((d,o.rc) :: H6 0 l []) s (fun o2 _ s2=>lT.rec (motive:=fun _=>Bool) (Q .ret e s2) (fun _=>false) (Q .ret e s2) (fun _=>false) o2)=true∧
  ∀ (f:Env→St→Option (Out×Env×St)) (x:Out×Env×St),f ((d,o.av.rec') :: d_ 0 (l.map FV.av)) σ=some x→(x.1= .normal∨x.1= .ret)→wI k g d f (d_ 0) o.av (dV e) σ=some (.ret,dV e,x.2.2)):=by
 unfold kHr at hk
 split at hk
 ·rename_i t x hx
  refine .inl fun f arg=>⟨?_,hk⟩
  unfold wI
  rw [←fV,hx]
  split
  ·rename_i g' a c hfn;exact(Ov _ _ _ _ _ hfn).elim
  ·rfl
 ·rename_i g' a1 a a2 c hx
  obtain⟨h1,hk⟩:=aT hk
  obtain⟨h3,hk⟩:=aT hk
  obtain⟨h2,hk⟩:=aT hk
  refine .inr ⟨Nat.eq_of_beq_eq_true h2,a ++ c,hk,?_⟩
  intro f x hf hx1
  have ev:(FV.c 3 g' [.c 0 a1 a,.c 0 a2 c]).av= .fn (.func g') (a.map FV.av) (c.map FV.av):=by
   rw [FV.CU,FV.tH]
   simp only [List.map_cons,List.map_nil,oP];rfl
  unfold wI
  rw [←fV,hx,ev]
  simp only
  rw [if_pos ⟨Nat.eq_of_beq_eq_true h1,by rw [←List.map_append,List.length_map];exact Nat.le_of_ble_eq_true h3⟩,←List.map_append,hf]
  obtain⟨q,e2,σ2⟩:=x
  rcases hx1 with rfl | rfl <;> rfl
 ·cases hk
theorem Ox {run':Rn} (hr':run'.Ok X) {a:AI} {e:dP} {s:GS} {σ:St} (h:s.Is σ) {K:dP→GS→Bool} (hk:gDfr X τ run' a e s K=true) :
 ∃ n e' σ' s',aW X (mJ X n) n (.Kv a) (dV e) σ=some (.normal,dV e',σ')∧GS.Is s' σ'∧K e' s'= true:=by
 unfold gDfr at hk
 split at hk
 ·rename_i t x hx
  obtain⟨n,e',σ',s',h1,h2,h3⟩:=AA bU hr' h hk
  refine⟨n,e',σ',s',?_,h2,h3⟩
  simp only [aW]
  rw [if_neg]
  ·erw [h1];rfl
  ·rw [←fV,hx]
   intro hf
   unfold AV.isFn at hf
   split at hf
   ·rename_i f a c hh;exact Ov _ _ _ _ _ hh
   ·cases hf
 ·cases hk
include hr
theorem MN:∀(c:AC) (b:Nat) (e:dP) (s:GS) (σ:St) (Q:KQ),cnt c=0→s.Is σ→vC X τ run go c b e s Q=true→
 ∃ n o e' σ' s',aW X (mJ X n) n c (dV e) σ=some (lT.av o,dV e',σ')∧GS.Is s' σ'∧Q o e' s'= true:=by
 intro c
 induction c with
 | skip=>intro b e s σ Q _ h hk;exact⟨0,.normal,e,σ,s,rfl,h,hk⟩
 | exit id=>intro b e s σ Q _ h hk;exact⟨0,.exit id,e,σ,s,rfl,h,hk⟩
 | ret=>intro b e s σ Q _ h hk;exact⟨0,.ret,e,σ,s,rfl,h,hk⟩
 | reg ops=>
   intro b e s σ Q _ h hk
   obtain⟨n1,e',σ',s',h1,h2,h3⟩:=AA bU hr.n h (K:=fun e s=>Q .normal e s) hk
   exact⟨n1,.normal,e',σ',s',by simp only [aW];erw [h1];rfl,h2,h3⟩
 | gJ ops=>
   intro b e s σ Q _ h hk
   obtain⟨n1,e',σ',s',h1,h2,h3⟩:=HY bU hr.n h (K:=fun e s=>Q .normal e s) hk
   exact⟨n1,.normal,e',σ',s',by simp only [aW];erw [h1];rfl,h2,h3⟩
 | iO ops=>
   intro b e s σ Q _ h hk
   obtain⟨n1,hn⟩:=Dw bU hr h (K:=fun e s=>Q .normal e s) (Z:=fun e v s=>Q (.gu v) e s) hk
   rcases hn with ⟨e',σ',s',h1,h2,h3⟩ | ⟨e',v,σ',s',h1,h2,h3⟩
   ·exact⟨n1,.normal,e',σ',s',h1,h2,h3⟩
   ·exact⟨n1,.gu v,e',σ',s',h1,h2,h3⟩
 | Kv a=>
   intro b e s σ Q _ h hk
   obtain⟨n1,e',σ',s',h1,h2,h3⟩:=Ox bU hr.n h (K:=fun e s=>Q .normal e s) hk
   exact⟨n1,.normal,e',σ',s',h1,h2,h3⟩
 | iM ops=>
   intro b e s σ Q _ h hk
   obtain⟨n1,hn⟩:=Dx bU hr (W:=rC ops (dV e)) h (K:=fun e s=>Q .normal e s) (Z:=fun v s=>Q (.gu v) (Du ops e) s) hk
   rcases hn with ⟨e',σ',s',h1,h2,h3⟩ | ⟨v,σ',s',h1,h2,h3⟩
   ·exact⟨n1,.normal,e',σ',s',h1,h2,h3⟩
   ·exact⟨n1,.gu v,Du ops e,σ',s',by rw [Oo];exact h1,h2,h3⟩
 | seq a c iha rP=>
   intro b e s σ Q hc h hk
   have hc':cnt a+cnt c=0:=hc
   obtain⟨n1,o,e1,σ1,s1,h1,h2,h3⟩:=iha b e s σ _ (by omega) h hk
   cases o with
   | normal=>
     obtain⟨n2,o2,e2,σ2,s2,q1,q2,q3⟩:=rP _ e1 s1 σ1 _ (by omega) h2 h3
     refine⟨max n1 n2,o2,e2,σ2,s2,?_,q2,q3⟩
     simp only [aW]
     rw [kX (Nat.le_max_left n1 n2) h1]
     exact kX (Nat.le_max_right n1 n2) q1
   | exit id=>exact⟨n1,.exit id,e1,σ1,s1,by simp only [aW];rw [h1];rfl,h2,h3⟩
   | ret=>exact⟨n1,.ret,e1,σ1,s1,by simp only [aW];rw [h1];rfl,h2,h3⟩
   | gu v=>exact⟨n1,.gu v,e1,σ1,s1,by simp only [aW];rw [h1];rfl,h2,h3⟩
 | cond x a c iha rP=>
   intro b e s σ Q hc h hk
   have hc':cnt a+cnt c=0:=hc
   obtain⟨h0,hk2⟩:=aT hk
   rcases Va hk2 with ⟨h1,h2⟩ | ⟨h1,h2⟩
   ·rw [og h0] at h1
    obtain⟨n,o,e',σ',s',q1,q2⟩:=iha b e s σ Q (by omega) h h2
    exact⟨n,o,e',σ',s',by simp only [aW,h1];exact q1,q2⟩
   ·rw [og h0] at h1
    obtain⟨n,o,e',σ',s',q1,q2⟩:=rP _ e s σ Q (by omega) h h2
    exact⟨n,o,e',σ',s',by simp only [aW,h1];exact q1,q2⟩
 | blk id c ih=>
   intro b e s σ Q hc h hk
   obtain⟨n1,o,e1,σ1,s1,h1,h2,h3⟩:=ih b e s σ _ hc h hk
   cases o with
   | normal=>exact⟨n1,.normal,e1,σ1,s1,by simp only [aW];rw [h1];rfl,h2,h3⟩
   | ret=>exact⟨n1,.ret,e1,σ1,s1,by simp only [aW];rw [h1];rfl,h2,h3⟩
   | gu v=>exact⟨n1,.gu v,e1,σ1,s1,by simp only [aW];rw [h1];rfl,h2,h3⟩
   | exit j=>
     have h3':bC (Nat.beq j id) (Q .normal e1 s1) (Q (.exit j) e1 s1)=true:=h3
     cases hj:Nat.beq j id with
     | true=>
       rw [hj,jE] at h3'
       exact⟨n1,.normal,e1,σ1,s1,by simp only [aW];rw [h1];simp only [lT.av];rw [if_pos (Nat.eq_of_beq_eq_true hj)],h2,h3'⟩
     | false=>
       rw [hj,jv] at h3'
       exact⟨n1,.exit j,e1,σ1,s1,by simp only [aW];rw [h1];simp only [lT.av];rw [if_neg (Nat.ne_of_beq_eq_false hj)],h2,h3'⟩
 | loop l c ih=>intro b e s σ Q hc;exact absurd hc (Nat.succ_ne_zero _)
 | cut l c ih=>
   intro b e s σ Q hc h hk
   have hk':bC (V4 l) (go b (valsF e l) s) (vC X τ run go c b (JW l (valsF e l)) s Q)=true:=hk
   rw [Oq] at hc
   cases hj:V4 l with
   | true=>rw [hj,jE] at hc;exact absurd hc (Nat.succ_ne_zero _)
   | false=>
     rw [hj,jv] at hc hk'
     obtain⟨n,o,e',σ',s',q1,q2⟩:=ih b _ s σ Q hc h hk'
     rw [qC] at q1
     exact⟨n,o,e',σ',s',q1,q2⟩
 | hnd k g d c h' rP ihh=>
   intro b e s σ Q hc h hk
   obtain⟨n1,o,e1,σ1,s1,h1,h2,h3⟩:=rP b ((k,.n 0 0) :: e) s σ _ hc h hk
   have h1:aW X (mJ X n1) n1 c ((k,.u) :: dV e) σ=some (lT.av o,dV e1,σ1):=h1
   have key:(∀id,o≠.exit id)→kHr k g d (cnt h') (vC X τ run go h' 0) o e1 s1 Q=true→∃n o e' σ' s',aW X (mJ X n) n (.hnd k g d c h') (dV e) σ=some (lT.av o,dV e',σ')∧GS.Is s' σ'∧Q o e' s'= true:=by
    intro hne h3
    rcases V7 h2 h3 with hq | ⟨hn,l,hq,hq2⟩
    ·refine⟨n1,o,e1,σ1,s1,?_,h2,(hq (fun _ _=>none) (fun _=>[])).2⟩
     simp only [aW,h1]
     have:=(hq (aW X (mJ X n1) n1 h') (d_ 0)).1
     cases o with
     | exit id=>exact(hne id rfl).elim
     | normal=>exact this
     | ret=>exact this
     | gu v=>exact this
    ·obtain⟨n2,o2,e2,σ2,s2,q1,q2,q3⟩:=ihh 0 _ s1 σ1 _ hn h2 hq
     have ea:dV ((d,o.rc) :: H6 0 l [])=(d,o.av.rec') :: d_ 0 (l.map FV.av):=by
         show (d,o.rc.av) :: dV (H6 0 l [])=_
         rw [AB,lT.rc_av]
     rw [ea] at q1
     have q3':(o2.av= .normal∨o2.av= .ret)∧Q .ret e1 s2=true:=by
         cases o2 with
         | normal=>exact⟨.inl rfl,q3⟩
         | ret=>exact⟨.inr rfl,q3⟩
         | exit id=>cases q3
         | gu v=>cases q3
     have:=hq2 (aW X (mJ X (max n1 n2)) (max n1 n2) h') _ (kX (Nat.le_max_right n1 n2) q1) q3'.1
     refine⟨max n1 n2,.ret,e1,σ2,s2,?_,q2,q3'.2⟩
     simp only [aW,kX (Nat.le_max_left n1 n2) h1]
     cases o with
     | exit id=>exact(hne id rfl).elim
     | normal=>exact this
     | ret=>exact this
     | gu v=>exact this
   cases o with
   | exit id=>cases h3
   | normal=>exact key (fun _ q=>by cases q) h3
   | ret=>exact key (fun _ q=>by cases q) h3
   | gu v=>exact key (fun _ q=>by cases q) h3
include hgo
theorem jm:∀(m:Nat) (c:AC) (b:Nat) (fs:List Fr) (e:dP) (s:GS) (σ:St),iL c+pI fs≤m→H7 N c b fs→H8 N fs→s.Is σ→vC X τ run go c b e s (Ko X τ run go res K Z fs)=true→∃n,Ot X res K Z (Dy X n c fs (dV e) σ)
 | 0,c,_,_,_,_,_,hm,_,_,_,_=>by have:=Qw c;omega
 | m+1,c,b,fs,e,s,σ,hm,hat,hfr,h,hk=>by
   have leaf:∀(fs:List Fr) (o:lT) (e:dP) (s:GS) (σ:St),pI fs≤m→H8 N fs→s.Is σ→Ko X τ run go res K Z fs o e s=true→∃n,Ot X res K Z (aK X n fs o.av (dV e) σ):=by
    intro fs
    induction fs with
    | nil=>
      intro o e s σ _ _ h hk
      cases o with
      | exit j=>cases hk
      | normal=>exact⟨0,_,rfl,Ou bU h hk (.inl rfl)⟩
      | ret=>exact⟨0,_,rfl,Ou bU h hk (.inr rfl)⟩
      | gu v=>exact⟨0,_,rfl,true,v,σ,s,rfl,h,hk⟩
    | cons f fs ih=>
      intro o e s σ hs hf h hk
      cases f with
      | sq b c=>
        cases o with
        | normal=>exact jm m c b fs e s σ hs hf.1 hf.2 h hk
        | exit j=>exact ih (.exit j) e s σ (by simp only [pI] at hs;omega) hf.2 h hk
        | ret=>exact ih .ret e s σ (by simp only [pI] at hs;omega) hf.2 h hk
        | gu v=>exact ih (.gu v) e s σ (by simp only [pI] at hs;omega) hf.2 h hk
      | bk id=>
        cases o with
        | normal=>exact ih .normal e s σ hs hf h hk
        | ret=>exact ih .ret e s σ hs hf h hk
        | gu v=>exact ih (.gu v) e s σ hs hf h hk
        | exit j=>
          have hk':bC (Nat.beq j id) (Ko X τ run go res K Z fs .normal e s) (Ko X τ run go res K Z fs (.exit j) e s)=true:=hk
          cases hj:Nat.beq j id with
          | true=>
            rw [hj,jE] at hk'
            obtain⟨n,hn⟩:=ih .normal e s σ hs hf h hk'
            exact⟨n,by simp only [aK,lT.av];rw [if_pos (Nat.eq_of_beq_eq_true hj)];exact hn⟩
          | false=>
            rw [hj,jv] at hk'
            obtain⟨n,hn⟩:=ih (.exit j) e s σ hs hf h hk'
            exact⟨n,by simp only [aK,lT.av];rw [if_neg (Nat.ne_of_beq_eq_false hj)];exact hn⟩
      | lp b l c=>
        cases o with
        | exit j=>exact ih (.exit j) e s σ hs hf.2 h hk
        | ret=>exact ih .ret e s σ hs hf.2 h hk
        | gu v=>exact ih (.gu v) e s σ hs hf.2 h hk
        | normal=>
          have hk':go b (valsF e l) s=true:=hk
          obtain⟨n,y,q1,q2⟩:=hgo b _ hf.1 _ _ _ h hk'
          rw [qC] at q1
          exact⟨n+1,y,Fz q1,q2⟩
      | hd k g d h'=>
        have key:(∀id,o≠.exit id)→kHr k g d (cnt h') (vC X τ run go h' 0) o e s (Ko X τ run go res K Z fs)=true→∃n,Ot X res K Z (aK X n (.hd k g d h' :: fs) o.av (dV e) σ):=by
         intro hne hk
         have e1:∀n,aK X n (.hd k g d h' :: fs) o.av (dV e) σ=(wI k g d (aW X (mJ X n) n h') (d_ 0) o.av (dV e) σ).bind fun r=>aK X n fs r.1 r.2.1 r.2.2:=by
            intro n
            cases o with
            | exit id=>exact(hne id rfl).elim
            | normal=>rfl
            | ret=>rfl
            | gu v=>rfl
         rcases V7 h hk with hq | ⟨hn,l,hq,hq2⟩
         ·obtain⟨n,hn⟩:=ih o e s σ hs hf h (hq (fun _ _=>none) (fun _=>[])).2
          exact⟨n,by rw [e1,(hq _ _).1];exact hn⟩
         ·obtain⟨n2,o2,e2,σ2,s2,q1,q2,q3⟩:=MN bU hr h' 0 _ s σ _ hn h hq
          have ea:dV ((d,o.rc) :: H6 0 l [])=(d,o.av.rec') :: d_ 0 (l.map FV.av):=by
             show (d,o.rc.av) :: dV (H6 0 l [])=_
             rw [AB,lT.rc_av]
          rw [ea] at q1
          have q3':(o2.av= .normal∨o2.av= .ret)∧Ko X τ run go res K Z fs .ret e s2=true:=by
             cases o2 with
             | normal=>exact⟨.inl rfl,q3⟩
             | ret=>exact⟨.inr rfl,q3⟩
             | exit id=>cases q3
             | gu v=>cases q3
          obtain⟨n1,y,r1,r2⟩:=ih .ret e s2 σ2 hs hf q2 q3'.2
          refine⟨max n1 n2,y,?_,r2⟩
          rw [e1,hq2 (aW X (mJ X (max n1 n2)) (max n1 n2) h') _ (kX (Nat.le_max_right n1 n2) q1) q3'.1]
          exact iY (Nat.le_max_left n1 n2) fs r1
        cases o with
        | exit id=>cases hk
        | normal=>exact key (fun _ q=>by cases q) hk
        | ret=>exact key (fun _ q=>by cases q) hk
        | gu v=>exact key (fun _ q=>by cases q) hk
   cases c with
   | skip=>
     obtain⟨n,hn⟩:=leaf fs .normal e s σ (by simp only [iL] at hm;omega) hfr h hk
     exact⟨n,hn⟩
   | exit j=>
     obtain⟨n,hn⟩:=leaf fs (.exit j) e s σ (by simp only [iL] at hm;omega) hfr h hk
     exact⟨n,hn⟩
   | ret=>
     obtain⟨n,hn⟩:=leaf fs .ret e s σ (by simp only [iL] at hm;omega) hfr h hk
     exact⟨n,hn⟩
   | reg ops=>
     obtain⟨n1,e',σ',s',h1,h2,h3⟩:=AA bU hr.n h (K:=fun e s=>Ko X τ run go res K Z fs .normal e s) hk
     obtain⟨n2,y,q1,q2⟩:=leaf fs .normal e' s' σ' (by simp only [iL] at hm;omega) hfr h2 h3
     refine⟨max n1 n2,y,?_,q2⟩
     simp only [Dy,aW]
     erw [uy (yK X (Nat.le_max_left n1 n2)) h1]
     exact iY (Nat.le_max_right n1 n2) fs q1
   | gJ ops=>
     obtain⟨n1,e',σ',s',h1,h2,h3⟩:=HY bU hr.n h (K:=fun e s=>Ko X τ run go res K Z fs .normal e s) hk
     obtain⟨n2,y,q1,q2⟩:=leaf fs .normal e' s' σ' (by simp only [iL] at hm;omega) hfr h2 h3
     refine⟨max n1 n2,y,?_,q2⟩
     simp only [Dy,aW]
     erw [wS (yK X (Nat.le_max_left n1 n2)) h1]
     exact iY (Nat.le_max_right n1 n2) fs q1
   | iO ops=>
     obtain⟨n1,hn⟩:=Dw bU hr h (K:=fun e s=>Ko X τ run go res K Z fs .normal e s) (Z:=fun e v s=>Ko X τ run go res K Z fs (.gu v) e s) hk
     rcases hn with ⟨e',σ',s',h1,h2,h3⟩ | ⟨e',v,σ',s',h1,h2,h3⟩
     ·obtain⟨n2,y,q1,q2⟩:=leaf fs .normal e' s' σ' (by simp only [iL] at hm;omega) hfr h2 h3
      refine⟨max n1 n2,y,?_,q2⟩
      simp only [Dy,aW,su (pG X (Nat.le_max_left n1 n2)) h1,Option.bind_some]
      exact iY (Nat.le_max_right n1 n2) fs q1
     ·obtain⟨n2,y,q1,q2⟩:=leaf fs (.gu v) e' s' σ' (by simp only [iL] at hm;omega) hfr h2 h3
      refine⟨max n1 n2,y,?_,q2⟩
      simp only [Dy,aW,su (pG X (Nat.le_max_left n1 n2)) h1,Option.bind_some]
      exact iY (Nat.le_max_right n1 n2) fs q1
   | Kv a=>
     obtain⟨n1,e',σ',s',h1,h2,h3⟩:=Ox bU hr.n h (K:=fun e s=>Ko X τ run go res K Z fs .normal e s) hk
     obtain⟨n2,y,q1,q2⟩:=leaf fs .normal e' s' σ' (by simp only [iL] at hm;omega) hfr h2 h3
     refine⟨max n1 n2,y,?_,q2⟩
     simp only [Dy,kX (Nat.le_max_left n1 n2) h1,Option.bind_some]
     exact iY (Nat.le_max_right n1 n2) fs q1
   | iM ops=>
     obtain⟨n1,hn⟩:=Dx bU hr (W:=rC ops (dV e)) h (K:=fun e s=>Ko X τ run go res K Z fs .normal e s) (Z:=fun v s=>Ko X τ run go res K Z fs (.gu v) (Du ops e) s) hk
     rcases hn with ⟨e',σ',s',h1,h2,h3⟩ | ⟨v,σ',s',h1,h2,h3⟩
     ·obtain⟨n2,y,q1,q2⟩:=leaf fs .normal e' s' σ' (by simp only [iL] at hm;omega) hfr h2 h3
      refine⟨max n1 n2,y,?_,q2⟩
      simp only [Dy,aW,sD (pG X (Nat.le_max_left n1 n2)) h1,Option.bind_some]
      exact iY (Nat.le_max_right n1 n2) fs q1
     ·obtain⟨n2,y,q1,q2⟩:=leaf fs (.gu v) (Du ops e) s' σ' (by simp only [iL] at hm;omega) hfr h2 h3
      refine⟨max n1 n2,y,?_,q2⟩
      simp only [Dy,aW,sD (pG X (Nat.le_max_left n1 n2)) h1,Option.bind_some]
      rw [Oo] at q1
      exact iY (Nat.le_max_right n1 n2) fs q1
   | seq a c=>
     obtain⟨ha1,ha2⟩:=hat.seq
     obtain⟨n,hn⟩:=jm m a b (.sq (b+cnt a) c :: fs) e s σ (by simp only [iL,pI] at hm ⊢;omega) ha1 ⟨ha2,hfr⟩ h hk
     refine⟨n,?_⟩
     have e1:Dy X n (.seq a c) fs (dV e) σ=Dy X n a (.sq (b+cnt a) c :: fs) (dV e) σ:=by
        simp only [Dy,aW]
        cases aW X (mJ X n) n a (dV e) σ with
        | none=>rfl
        | some r=>
          obtain⟨q,e',σ'⟩:=r
          cases q <;> rfl
     rw [e1];exact hn
   | cond x a c=>
     obtain⟨ha1,ha2⟩:=hat.cond
     obtain⟨h0,hk2⟩:=aT hk
     rcases Va hk2 with ⟨h1,h2⟩ | ⟨h1,h2⟩
     ·rw [og h0] at h1
      obtain⟨n,hn⟩:=jm m a b fs e s σ (by simp only [iL] at hm;omega) ha1 hfr h h2
      exact⟨n,by simp only [Dy,aW,h1];exact hn⟩
     ·rw [og h0] at h1
      obtain⟨n,hn⟩:=jm m c (b+cnt a) fs e s σ (by simp only [iL] at hm;omega) ha2 hfr h h2
      exact⟨n,by simp only [Dy,aW,h1];exact hn⟩
   | blk id c=>
     obtain⟨n,hn⟩:=jm m c b (.bk id :: fs) e s σ (by simp only [iL,pI] at hm ⊢;omega) hat hfr h hk
     refine⟨n,?_⟩
     have e1:Dy X n (.blk id c) fs (dV e) σ=Dy X n c (.bk id :: fs) (dV e) σ:=by
        simp only [Dy,aW]
        cases aW X (mJ X n) n c (dV e) σ with
        | none=>rfl
        | some r=>
          obtain⟨q,e',σ'⟩:=r
          cases q <;> rfl
     rw [e1];exact hn
   | hnd k g d c h'=>
     obtain⟨n,hn⟩:=jm m c b (.hd k g d h' :: fs) ((k,.n 0 0) :: e) s σ (by simp only [iL,pI] at hm ⊢;omega) hat.hnd hfr h hk
     refine⟨n,?_⟩
     have e1:Dy X n (.hnd k g d c h') fs (dV e) σ=Dy X n c (.hd k g d h' :: fs) ((k,.u) :: dV e) σ:=by
        simp only [Dy,aW]
        cases aW X (mJ X n) n c ((k,.u) :: dV e) σ with
        | none=>rfl
        | some r=>
          obtain⟨q,e',σ'⟩:=r
          cases q <;> rfl
     rw [e1];exact hn
   | loop l c=>
     have hk':go b (valsF e l) s=true:=hk
     have hnd:=hat 0 ⟨l,b+1,c,.lp b l c :: fs⟩ rfl
     obtain⟨n,y,q1,q2⟩:=hgo _ _ hnd _ _ _ h hk'
     rw [qC] at q1
     exact⟨n+1,y,Fz q1,q2⟩
   | cut l c=>
     have hk':bC (V4 l) (go b (valsF e l) s) (vC X τ run go c b (JW l (valsF e l)) s (Ko X τ run go res K Z fs))=true:=hk
     cases hj:V4 l with
     | true=>
       rw [hj,jE] at hk'
       have hnd:=hat 0 ⟨l,b+1,c,fs⟩ (by rw [lS,hj];rfl)
       obtain⟨n,y,q1,q2⟩:=hgo _ _ hnd _ _ _ h hk'
       rw [qC] at q1
       exact⟨n,y,q1,q2⟩
     | false=>
       rw [hj,jv] at hk'
       have hat':H7 N c b fs:=fun i nd hi=>hat i nd (by rw [lS,hj];exact hi)
       obtain⟨n,hn⟩:=jm m c b fs (JW l (valsF e l)) s σ (by simp only [iL] at hm;omega) hat' hfr h hk'
       rw [qC] at hn
       exact⟨n,hn⟩
end
abbrev BF:=aP→Go→KS→KS→List FV→GS→Bool
noncomputable def gNode (X:Ctx)(τ:jc)(res:List AR)(nd:Nd):BF:=fun run go K Z vs s=>vC X τ run go nd.c nd.b (JW nd.live vs) s (Ko X τ run go res K Z nd.fs)
noncomputable def aQ (X:Ctx)(τ:jc)(F:AF)(i:Nat):BF:=fun run go K Z vs s=>match (nodes F.code 0 [])[i]? with
 | some nd=>gNode X τ F.res nd run go K Z vs s
 | none=>false
def BF.Ok (X:Ctx)(τ:jc)(F:AF)(i:Nat)(bf:BF):Prop:=∀run go K Z vs s,bf run go K Z vs s=true→aQ X τ F i run go K Z vs s=true
noncomputable def goN (D:Nat→BF)(run:aP)(K Z:KS)(fuel:Nat):Go:=Nat.rec (motive:=fun _=>Go) (fun _ _ _=>false) (fun _ go i vs s=>D i run go K Z vs s) fuel
abbrev FE:=aP→List FV→GS→KS→KS→Bool
abbrev EN:=aP→Go→List FV→GS→KS→KS→Bool
noncomputable def aI (X:Ctx)(τ:jc)(F:AF):EN:=fun run go args s K Z=>vC X τ run go F.code 0 (H6 0 args []) s (Ko X τ run go F.res K Z [])
noncomputable def bF (X:Ctx)(τ:jc)(F:AF)(D:Nat→BF)(E:EN)(fuel:Nat):FE:=fun run args s K Z=>bC (Nat.ble args.length F.nt) (E run (goN D run K Z fuel) args s K Z) false
def FE.Ok (X:Ctx)(f:Nat)(fe:FE):Prop:=∀(run:aP),run.Ok X→∀(args:List FV) (s:GS) (σ:St) (K Z:KS),s.Is σ→fe run args s K Z=true→∃n,Qu (mJ X n f (args.map FV.av) σ) K Z
section
variable {X:Ctx} {τ:jc} (bU:τ.Ok X.P)
include bU
theorem V8 {F:AF} {D:Nat→BF} (hD:∀i,(D i).Ok X τ F i) {run:aP} (hr:run.Ok X) {K Z:KS} :∀fuel,GoOk X (goN D run K Z fuel) F.res K Z (nodes F.code 0 [])
 | 0=>fun i nd hi vs s σ h hk=>by cases hk
 | fuel+1=>fun i nd hi vs s σ h hk=>by
   have hk':D i run (goN D run K Z fuel) K Z vs s=true:=hk
   have h1:=hD i _ _ _ _ _ _ hk'
   unfold aQ at h1
   rw [hi] at h1
   have hat:H7 (nodes F.code 0 []) nd.c nd.b nd.fs∧H8 (nodes F.code 0 []) nd.fs:=by
    have key:∀(c:AC) (b:Nat) (fs:List Fr),H7 (nodes F.code 0 []) c b fs→H8 (nodes F.code 0 []) fs→∀nd∈nodes c b fs,H7 (nodes F.code 0 []) nd.c nd.b nd.fs∧H8 (nodes F.code 0 []) nd.fs:=by
        intro c
        induction c with
        | skip=>intro b fs _ _ nd hm;cases hm
        | reg _=>intro b fs _ _ nd hm;cases hm
        | gJ _=>intro b fs _ _ nd hm;cases hm
        | exit _=>intro b fs _ _ nd hm;cases hm
        | ret=>intro b fs _ _ nd hm;cases hm
        | iO _=>intro b fs _ _ nd hm;cases hm
        | iM _=>intro b fs _ _ nd hm;cases hm
        | Kv _=>intro b fs _ _ nd hm;cases hm
        | hnd k g d c h ih _=>intro b fs h1 h2 nd hm;exact ih b _ h1.hnd h2 nd hm
        | seq a c iha rP=>
          intro b fs h1 h2 nd hm
          obtain⟨q1,q2⟩:=h1.seq
          rw [uK,List.mem_append] at hm
          rcases hm with hm | hm
          ·exact iha _ _ q1 ⟨q2,h2⟩ nd hm
          ·exact rP _ _ q2 h2 nd hm
        | cond x a c iha rP=>
          intro b fs h1 h2 nd hm
          obtain⟨q1,q2⟩:=h1.cond
          rw [qY,List.mem_append] at hm
          rcases hm with hm | hm
          ·exact iha _ _ q1 h2 nd hm
          ·exact rP _ _ q2 h2 nd hm
        | blk id c ih=>intro b fs h1 h2 nd hm;exact ih _ _ h1 h2 nd hm
        | loop l c ih=>
          intro b fs h1 h2 nd hm
          have h3:=h1 0 _ rfl
          have h4:H7 (nodes F.code 0 []) c (b+1) (.lp b l c :: fs):=fun i nd hi=>by
            have:=h1 (i+1) nd (by rw [vW,List.getElem?_cons_succ];exact hi)
            rw [show b+1+i=b+(i+1) by omega];exact this
          rw [vW,List.mem_cons] at hm
          rcases hm with rfl | hm
          ·exact⟨h4,h3,h2⟩
          ·exact ih _ _ h4 ⟨h3,h2⟩ nd hm
        | cut l c ih=>
          intro b fs h1 h2 nd hm
          cases hj:V4 l with
          | true=>
            have h4:H7 (nodes F.code 0 []) c (b+1) fs:=fun i nd hi=>by
              have:=h1 (i+1) nd (by rw [lS,hj,jE,List.getElem?_cons_succ];exact hi)
              rw [show b+1+i=b+(i+1) by omega];exact this
            rw [lS,hj,jE,List.mem_cons] at hm
            rcases hm with rfl | hm
            ·exact⟨h4,h2⟩
            ·exact ih _ _ h4 h2 nd hm
          | false=>
            rw [lS,hj,jv] at hm
            exact ih _ _ (fun i nd hi=>h1 i nd (by rw [lS,hj];exact hi)) h2 nd hm
    exact key F.code 0 [] (fun i nd hi=>by rw [Nat.zero_add];exact hi) trivial nd (List.mem_of_getElem? hi)
   exact jm bU hr (V8 hD hr fuel) _ nd.c nd.b nd.fs _ _ _ (Nat.le_refl _) hat.1 hat.2 h h1
theorem aF {f:Nat} {F:AF} (hp:X.lg f=none)(hF:X.fns f=some F) {D:Nat→BF} (hD:∀i,(D i).Ok X τ F i) {E:EN} (hE:∀run go args s K Z,E run go args s K Z=true→aI X τ F run go args s K Z=true)(fuel:Nat):(bF X τ F D E fuel).Ok X f:=by
 intro run hr args s σ K Z h hk
 obtain⟨h1,h2⟩:=aT hk
 have h3:=hE _ _ _ _ _ _ h2
 obtain⟨n,y,q1,b,v,σ',s',q2,q3,q4⟩:=jm bU hr (V8 bU hD hr fuel) _ F.code 0 [] _ _ _ (Nat.le_refl _) (fun i nd hi=>by rw [Nat.zero_add];exact hi) trivial h h3
 rw [AB] at q1
 have q1':aW X (mJ X n) n F.code (d_ 0 (args.map FV.av)) σ=some y:=by
  unfold Dy at q1
  rw [Option.bind_eq_some_iff] at q1
  obtain⟨⟨a,b,c⟩,r1,r2⟩:=q1
  cases r2;exact r1
 refine⟨n+1,b,v,σ',s',?_,q3,q4⟩
 simp only [mJ,hp,hF]
 rw [if_pos (by rw [List.length_map];exact Nat.le_of_ble_eq_true h1),EC,q1']
 exact q2
noncomputable def feGen (X:Ctx)(τ:jc)(F:AF)(fuel:Nat):FE:=bF X τ F (aQ X τ F) (aI X τ F) fuel
theorem V9 {f:Nat} {F:AF} (hp:X.lg f=none)(hF:X.fns f=some F)(fuel:Nat):(feGen X τ F fuel).Ok X f:=
 aF bU hp hF (fun i run go K Z vs s hk=>hk) (fun run go args s K Z hk=>hk) fuel
end
inductive TF where
 | nil
 | leaf (f:Nat) (fe:FE)
 | node (m:Nat) (l r:TF)
noncomputable def TF.go:TF→Nat→FE:=TF.rec (motive:=fun _=>Nat→FE) (fun _ _ _ _ _ _=>false) (fun f fe n run args s K Z=>bC (Nat.beq f n) (fe run args s K Z) false) (fun m _ _ l r n=>bC (Nat.ble (Nat.succ n) m) (l n) (r n))
def TF.Ok (X:Ctx):TF→Prop
 | .nil=>True
 | .leaf f fe=>fe.Ok X f
 | .node _ l r=>l.Ok X∧r.Ok X
theorem TF.go_ok {X:Ctx} :∀(t:TF) (f:Nat),t.Ok X→(t.go f).Ok X f
 | .nil,f,_=>fun run hr args s σ K Z h hk=>by cases hk
 | .leaf g fe,f,ht=>fun run hr args s σ K Z h hk=>by
   obtain⟨h1,h2⟩:=aT hk
   rw [←Nat.eq_of_beq_eq_true h1]
   exact ht run hr args s σ K Z h h2
 | .node m l r,f,ht=>fun run hr args s σ K Z h hk=>by
   have hk':bC (Nat.ble (f+1) m) (l.go f) (r.go f) run args s K Z=true:=hk
   cases hb:Nat.ble (f+1) m with
   | true=>rw [hb,jE] at hk';exact TF.go_ok l f ht.1 run hr args s σ K Z h hk'
   | false=>rw [hb,jv] at hk';exact TF.go_ok r f ht.2 run hr args s σ K Z h hk'
noncomputable def rnN (T:TF)(d:Nat):aP:=Nat.rec (motive:=fun _=>aP) (fun _ _ _ _ _=>false) (fun _ ih f args s K Z=>T.go f ih args s K Z) d
theorem V_ {X:Ctx} {T:TF} (hT:T.Ok X):∀d,(rnN T d).Ok X
 | 0=>fun f args s σ K Z h hk=>by cases hk
 | d+1=>fun f args s σ K Z h hk=>TF.go_ok T f hT _ (V_ hT d) args s σ K Z h hk
noncomputable def GO.of (a:AO)(K:GO→Bool):Bool:=match a with
 | ⟨g,ro,.cells e cs⟩=>bC (vw cs) (bC (Nat.ble cs.length (nat_lit 8)) (bC (jQ (bV cs)) (fN cs.length fun n=>K (.cells g ro e n n (bV cs) .lf)) false) (fN cs.length fun n=>rF (bV cs) .lf (nat_lit 0) fun t=>K (.cells g ro e n (nat_lit 1) [.n (nat_lit 1) (nat_lit 0)] t))) false
 | _=>K .dead
theorem GO.of_ok {a:AO} {K:GO→Bool} (hk:GO.of a K=true):∃f:GO,f.Is a∧K f=true:=by
 unfold GO.of at hk
 split at hk
 ·rename_i g ro e cs
  obtain⟨h1,hk1⟩:=aT hk
  clear hk
  have hl:(bV cs).length=cs.length:=by
   have:=congrArg List.length (iU _ h1)
   rw [List.length_map] at this;exact this
  cases hsz:Nat.ble cs.length (nat_lit 8) with
  | false=>
    rw [hsz,jv,kT] at hk1
    have hb:=eH.rep (d:=[.n 1 0]) rfl cs.length
    rw [show cs.length*[FV.n 1 0].length=cs.length by simp,show [FV.n 1 0].length=1 from rfl] at hb
    obtain⟨t',q1,q2,q3⟩:=qy (bV cs) hb (off:=0) (by omega) hk1
    have e1:setCells (dN ([FV.n 1 0].map FV.av) cs.length) 0 ((bV cs).map FV.av)=cs:=by
        have:=lW ((bV cs).map FV.av) [] (dN ([FV.n 1 0].map FV.av) cs.length) (by rw [jJ];simp [hl])
        rw [iU _ h1] at this ⊢
        simpa using this
    rw [e1] at q2
    exact⟨.cells g ro e cs.length 1 [.n 1 0] t',⟨cs,rfl,q2⟩,q1⟩
  | true=>
  rw [hsz,jE] at hk1
  obtain⟨h2,hk⟩:=aT hk1
  rw [kT] at hk
  have hc:=eH.list h2
  rw [iU _ h1,hl] at hc
  exact⟨.cells g ro e cs.length cs.length (bV cs) .lf,⟨cs,rfl,hc⟩,hk⟩
 ·exact⟨.dead,trivial,hk⟩
noncomputable def GS.lay (σ:St):GS→(GS→Bool)→Bool:=List.rec (motive:=fun _=>GS→(GS→Bool)→Bool) (fun s K=>K s) (fun a _ ih s K=>GO.of a fun f=>s.new f fun _ s=>ih s K) σ
theorem GS.GZ:∀(σ:St) {s:GS} {iZ:St} (_:s.Is iZ) {K:GS→Bool} (_:GS.lay σ s K=true),∃s',K s'= true∧s'.Is (iZ ++ σ)
 | [],s,iZ,h,K,hk=>⟨s,hk,by simpa using h⟩
 | a :: σ,s,iZ,h,K,hk=>by
   obtain⟨f,hf,hk2⟩:=GO.of_ok (K:=fun f=>s.new f fun _ s=>GS.lay σ s K) hk
   obtain⟨s1,h1,h2⟩:=GS.tC h hf hk2
   obtain⟨s2,q1,q2⟩:=GS.GZ σ h2 h1
   exact⟨s2,q1,by simpa using q2⟩
def GS.nil:GS:=⟨0,.lf⟩
theorem GS.U1:GS.nil.Is []:=⟨rfl,fun o f h=>by cases h⟩
noncomputable def gTop (T:TF)(d f:Nat)(args:List FV)(σ:St)(K:FV→Bool):Bool:=GS.lay σ GS.nil fun s=>rnN T d f args s (fun v _=>K v) nK
theorem Qx {X:Ctx} {G:Nat} {T:TF} (hX:X.Sound G)(hT:T.Ok X) {d f:Nat} {args:List FV} {σ:St} {K:FV→Bool} (hk:gTop T d f args σ K=true) {μ:Mu} {w:World} (hs:gQ G μ σ w) {bg:Array Value} (hr:aY μ w (args.map FV.av) bg.toList) :
 Does X.P f bg w fun e w'=>∃(r:FV) (σ':St),K r=true∧After G μ σ w r.av σ' e w':=by
 obtain⟨s,h1,h2⟩:=GS.GZ σ GS.U1 hk
 obtain⟨n,v,σ',s',q1,q2,q3⟩:=(V_ hT d).n f args s σ _ (by simpa using h2) h1
 exact(b_ok hX n f _ σ _ σ' q1 μ w bg hs hr).mono fun e w' ha=>⟨v,σ',q3,ha⟩
noncomputable def isTrue:FV→Bool:=FV.rec (motive_1:=fun _=>Bool) (motive_2:=fun _=>PUnit) (fun t x=>bC (Nat.beq t (nat_lit 1)) (Nat.ble (nat_lit 1) x) false) (fun _ _ _=>false) (fun _ _ _ _ _=>false) (fun _ _=>false) (fun _ _ _ _=>false) ⟨⟩ (fun _ _ _ _=>⟨⟩)
theorem Qy {v:FV} (h:isTrue v=true):v.av= .b true:=by
 cases v with
 | n t x=>
   obtain⟨h1,h2⟩:=aT h
   have h1:t=1:=Nat.eq_of_beq_eq_true h1
   have h2:1≤x:=Nat.le_of_ble_eq_true h2
   subst h1
   rw [FV.xu,CV,qU (by omega)];rfl
 | _=>cases h
end Go.dX
namespace Go.dX
inductive TB where
 | nil
 | leaf (i:Nat) (bf:BF)
 | node (m:Nat) (l r:TB)
noncomputable def TB.get:TB→Nat→BF:=TB.rec (motive:=fun _=>Nat→BF) (fun _ _ _ _ _ _ _=>false) (fun i bf n r g K Z vs s=>bC (Nat.beq i n) (bf r g K Z vs s) false) (fun m _ _ l r n=>bC (Nat.ble (Nat.succ n) m) (l n) (r n))
def TB.Ok (X:Ctx)(τ:jc)(F:AF):TB→Prop
 | .nil=>True
 | .leaf i bf=>bf.Ok X τ F i
 | .node _ l r=>l.Ok X τ F∧r.Ok X τ F
theorem TB.aO {X:Ctx} {τ:jc} {F:AF} :∀(t:TB) (_:t.Ok X τ F) (i:Nat),(t.get i).Ok X τ F i
 | .nil,_,i=>fun r g K Z vs s h=>by cases h
 | .leaf j bf,ht,i=>fun r g K Z vs s h=>by
   obtain⟨h1,h2⟩:=aT h
   rw [←Nat.eq_of_beq_eq_true h1]
   exact ht r g K Z vs s h2
 | .node m l r,ht,i=>fun r' g K Z vs s h=>by
   have h':bC (Nat.ble (i+1) m) (l.get i) (r.get i) r' g K Z vs s=true:=h
   cases hb:Nat.ble (i+1) m with
   | true=>rw [hb,jE] at h';exact TB.aO l ht.1 i r' g K Z vs s h'
   | false=>rw [hb,jv] at h';exact TB.aO r ht.2 i r' g K Z vs s h'
noncomputable def u0 (f:GS→Bool)(vs:List FV)(s:GS):Bool:=List.rec (motive:=fun _=>(GS→Bool)→GS→Bool) (fun f s=>f s) (fun _ _ _ _ _=>false) vs f s
theorem u0_ok {f:GS→Bool} {vs:List FV} {s:GS} (h:u0 f vs s=true):vs=[]∧f s=true:=by cases vs with | nil=>exact⟨rfl,h⟩ | cons _ _=>cases h
theorem FB {X:Ctx} {τ:jc} {F:AF} {f:aP→Go→KS→KS→GS→Bool} (e:∀r g K Z s,aI X τ F r g [] s K Z=f r g K Z s):∀r g args s K Z,(fun(r:aP) (g:Go) (args:List FV) (s:GS) (K Z:KS)=>u0 (f r g K Z) args s) r g args s K Z=true→aI X τ F r g args s K Z=true:=fun r g args s K Z h=>by obtain⟨rfl,h⟩:=u0_ok (f:=f r g K Z) h;exact(e r g K Z s).trans h
noncomputable def u1 (f:FV→GS→Bool)(vs:List FV)(s:GS):Bool:=List.rec (motive:=fun _=>(FV→GS→Bool)→GS→Bool) (fun _ _=>false) (fun a l _ f s=>u0 (f a) l s) vs f s
theorem Wh {f:FV→GS→Bool} {vs:List FV} {s:GS} (h:u1 f vs s=true):∃a0,vs=[a0]∧f a0 s=true:=by cases vs with | nil=>cases h | cons a l=>(obtain⟨rfl,h⟩:=u0_ok (show u0 (f a) l s=true from h);exact⟨a,rfl,h⟩)
theorem dF {X:Ctx} {τ:jc} {F:AF} {f:aP→Go→KS→KS→FV→GS→Bool} (e:∀r g K Z a0 s,aI X τ F r g [a0] s K Z=f r g K Z a0 s):∀r g args s K Z,(fun(r:aP) (g:Go) (args:List FV) (s:GS) (K Z:KS)=>u1 (f r g K Z) args s) r g args s K Z=true→aI X τ F r g args s K Z=true:=fun r g args s K Z h=>by obtain⟨a0,rfl,h⟩:=Wh (f:=f r g K Z) h;exact(e r g K Z a0 s).trans h
noncomputable def u2 (f:FV→FV→GS→Bool)(vs:List FV)(s:GS):Bool:=List.rec (motive:=fun _=>(FV→FV→GS→Bool)→GS→Bool) (fun _ _=>false) (fun a l _ f s=>u1 (f a) l s) vs f s
theorem Wi {f:FV→FV→GS→Bool} {vs:List FV} {s:GS} (h:u2 f vs s=true):∃a0 a1,vs=[a0,a1]∧f a0 a1 s=true:=by cases vs with | nil=>cases h | cons a l=>(obtain⟨b0,rfl,h⟩:=Wh (show u1 (f a) l s=true from h);exact⟨a,_,rfl,h⟩)
theorem vF {X:Ctx} {τ:jc} {F:AF} {i:Nat} {f:aP→Go→KS→KS→FV→FV→GS→Bool} (e:∀r g K Z a0 a1 s,aQ X τ F i r g K Z [a0,a1] s=f r g K Z a0 a1 s):BF.Ok X τ F i (fun r g K Z=>u2 (f r g K Z)):=fun r g K Z vs s h=>by obtain⟨a0,a1,rfl,h⟩:=Wi h;exact(e r g K Z a0 a1 s).trans h
theorem dB {X:Ctx} {τ:jc} {F:AF} {f:aP→Go→KS→KS→FV→FV→GS→Bool} (e:∀r g K Z a0 a1 s,aI X τ F r g [a0,a1] s K Z=f r g K Z a0 a1 s):∀r g args s K Z,(fun(r:aP) (g:Go) (args:List FV) (s:GS) (K Z:KS)=>u2 (f r g K Z) args s) r g args s K Z=true→aI X τ F r g args s K Z=true:=fun r g args s K Z h=>by obtain⟨a0,a1,rfl,h⟩:=Wi (f:=f r g K Z) h;exact(e r g K Z a0 a1 s).trans h
noncomputable def u3 (f:FV→FV→FV→GS→Bool)(vs:List FV)(s:GS):Bool:=List.rec (motive:=fun _=>(FV→FV→FV→GS→Bool)→GS→Bool) (fun _ _=>false) (fun a l _ f s=>u2 (f a) l s) vs f s
theorem Wj {f:FV→FV→FV→GS→Bool} {vs:List FV} {s:GS} (h:u3 f vs s=true):∃a0 a1 a2,vs=[a0,a1,a2]∧f a0 a1 a2 s=true:=by cases vs with | nil=>cases h | cons a l=>(obtain⟨b0,b1,rfl,h⟩:=Wi (show u2 (f a) l s=true from h);exact⟨a,_,_,rfl,h⟩)
theorem gG {X:Ctx} {τ:jc} {F:AF} {i:Nat} {f:aP→Go→KS→KS→FV→FV→FV→GS→Bool} (e:∀r g K Z a0 a1 a2 s,aQ X τ F i r g K Z [a0,a1,a2] s=f r g K Z a0 a1 a2 s):BF.Ok X τ F i (fun r g K Z=>u3 (f r g K Z)):=fun r g K Z vs s h=>by obtain⟨a0,a1,a2,rfl,h⟩:=Wj h;exact(e r g K Z a0 a1 a2 s).trans h
theorem gq {X:Ctx} {τ:jc} {F:AF} {f:aP→Go→KS→KS→FV→FV→FV→GS→Bool} (e:∀r g K Z a0 a1 a2 s,aI X τ F r g [a0,a1,a2] s K Z=f r g K Z a0 a1 a2 s):∀r g args s K Z,(fun(r:aP) (g:Go) (args:List FV) (s:GS) (K Z:KS)=>u3 (f r g K Z) args s) r g args s K Z=true→aI X τ F r g args s K Z=true:=fun r g args s K Z h=>by obtain⟨a0,a1,a2,rfl,h⟩:=Wj (f:=f r g K Z) h;exact(e r g K Z a0 a1 a2 s).trans h
noncomputable def u4 (f:FV→FV→FV→FV→GS→Bool)(vs:List FV)(s:GS):Bool:=List.rec (motive:=fun _=>(FV→FV→FV→FV→GS→Bool)→GS→Bool) (fun _ _=>false) (fun a l _ f s=>u3 (f a) l s) vs f s
theorem Wl {f:FV→FV→FV→FV→GS→Bool} {vs:List FV} {s:GS} (h:u4 f vs s=true):∃a0 a1 a2 a3,vs=[a0,a1,a2,a3]∧f a0 a1 a2 a3 s=true:=by cases vs with | nil=>cases h | cons a l=>(obtain⟨b0,b1,b2,rfl,h⟩:=Wj (show u3 (f a) l s=true from h);exact⟨a,_,_,_,rfl,h⟩)
theorem fO {X:Ctx} {τ:jc} {F:AF} {i:Nat} {f:aP→Go→KS→KS→FV→FV→FV→FV→GS→Bool} (e:∀r g K Z a0 a1 a2 a3 s,aQ X τ F i r g K Z [a0,a1,a2,a3] s=f r g K Z a0 a1 a2 a3 s):BF.Ok X τ F i (fun r g K Z=>u4 (f r g K Z)):=fun r g K Z vs s h=>by obtain⟨a0,a1,a2,a3,rfl,h⟩:=Wl h;exact(e r g K Z a0 a1 a2 a3 s).trans h
theorem rG {X:Ctx} {τ:jc} {F:AF} {f:aP→Go→KS→KS→FV→FV→FV→FV→GS→Bool} (e:∀r g K Z a0 a1 a2 a3 s,aI X τ F r g [a0,a1,a2,a3] s K Z=f r g K Z a0 a1 a2 a3 s):∀r g args s K Z,(fun(r:aP) (g:Go) (args:List FV) (s:GS) (K Z:KS)=>u4 (f r g K Z) args s) r g args s K Z=true→aI X τ F r g args s K Z=true:=fun r g args s K Z h=>by obtain⟨a0,a1,a2,a3,rfl,h⟩:=Wl (f:=f r g K Z) h;exact(e r g K Z a0 a1 a2 a3 s).trans h
noncomputable def u5 (f:FV→FV→FV→FV→FV→GS→Bool)(vs:List FV)(s:GS):Bool:=List.rec (motive:=fun _=>(FV→FV→FV→FV→FV→GS→Bool)→GS→Bool) (fun _ _=>false) (fun a l _ f s=>u4 (f a) l s) vs f s
theorem Wn {f:FV→FV→FV→FV→FV→GS→Bool} {vs:List FV} {s:GS} (h:u5 f vs s=true):∃a0 a1 a2 a3 a4,vs=[a0,a1,a2,a3,a4]∧f a0 a1 a2 a3 a4 s=true:=by cases vs with | nil=>cases h | cons a l=>(obtain⟨b0,b1,b2,b3,rfl,h⟩:=Wl (show u4 (f a) l s=true from h);exact⟨a,_,_,_,_,rfl,h⟩)
theorem gI {X:Ctx} {τ:jc} {F:AF} {i:Nat} {f:aP→Go→KS→KS→FV→FV→FV→FV→FV→GS→Bool} (e:∀r g K Z a0 a1 a2 a3 a4 s,aQ X τ F i r g K Z [a0,a1,a2,a3,a4] s=f r g K Z a0 a1 a2 a3 a4 s):BF.Ok X τ F i (fun r g K Z=>u5 (f r g K Z)):=fun r g K Z vs s h=>by obtain⟨a0,a1,a2,a3,a4,rfl,h⟩:=Wn h;exact(e r g K Z a0 a1 a2 a3 a4 s).trans h
theorem Oy {X:Ctx} {τ:jc} {F:AF} {f:aP→Go→KS→KS→FV→FV→FV→FV→FV→GS→Bool} (e:∀r g K Z a0 a1 a2 a3 a4 s,aI X τ F r g [a0,a1,a2,a3,a4] s K Z=f r g K Z a0 a1 a2 a3 a4 s):∀r g args s K Z,(fun(r:aP) (g:Go) (args:List FV) (s:GS) (K Z:KS)=>u5 (f r g K Z) args s) r g args s K Z=true→aI X τ F r g args s K Z=true:=fun r g args s K Z h=>by obtain⟨a0,a1,a2,a3,a4,rfl,h⟩:=Wn (f:=f r g K Z) h;exact(e r g K Z a0 a1 a2 a3 a4 s).trans h
noncomputable def u6 (f:FV→FV→FV→FV→FV→FV→GS→Bool)(vs:List FV)(s:GS):Bool:=List.rec (motive:=fun _=>(FV→FV→FV→FV→FV→FV→GS→Bool)→GS→Bool) (fun _ _=>false) (fun a l _ f s=>u5 (f a) l s) vs f s
theorem Wp {f:FV→FV→FV→FV→FV→FV→GS→Bool} {vs:List FV} {s:GS} (h:u6 f vs s=true):∃a0 a1 a2 a3 a4 a5,vs=[a0,a1,a2,a3,a4,a5]∧f a0 a1 a2 a3 a4 a5 s=true:=by cases vs with | nil=>cases h | cons a l=>(obtain⟨b0,b1,b2,b3,b4,rfl,h⟩:=Wn (show u5 (f a) l s=true from h);exact⟨a,_,_,_,_,_,rfl,h⟩)
theorem jR {X:Ctx} {τ:jc} {F:AF} {i:Nat} {f:aP→Go→KS→KS→FV→FV→FV→FV→FV→FV→GS→Bool} (e:∀r g K Z a0 a1 a2 a3 a4 a5 s,aQ X τ F i r g K Z [a0,a1,a2,a3,a4,a5] s=f r g K Z a0 a1 a2 a3 a4 a5 s):BF.Ok X τ F i (fun r g K Z=>u6 (f r g K Z)):=fun r g K Z vs s h=>by obtain⟨a0,a1,a2,a3,a4,a5,rfl,h⟩:=Wp h;exact(e r g K Z a0 a1 a2 a3 a4 a5 s).trans h
theorem u6_en {X:Ctx} {τ:jc} {F:AF} {f:aP→Go→KS→KS→FV→FV→FV→FV→FV→FV→GS→Bool} (e:∀r g K Z a0 a1 a2 a3 a4 a5 s,aI X τ F r g [a0,a1,a2,a3,a4,a5] s K Z=f r g K Z a0 a1 a2 a3 a4 a5 s):∀r g args s K Z,(fun(r:aP) (g:Go) (args:List FV) (s:GS) (K Z:KS)=>u6 (f r g K Z) args s) r g args s K Z=true→aI X τ F r g args s K Z=true:=fun r g args s K Z h=>by obtain⟨a0,a1,a2,a3,a4,a5,rfl,h⟩:=Wp (f:=f r g K Z) h;exact(e r g K Z a0 a1 a2 a3 a4 a5 s).trans h
noncomputable def u7 (f:FV→FV→FV→FV→FV→FV→FV→GS→Bool)(vs:List FV)(s:GS):Bool:=List.rec (motive:=fun _=>(FV→FV→FV→FV→FV→FV→FV→GS→Bool)→GS→Bool) (fun _ _=>false) (fun a l _ f s=>u6 (f a) l s) vs f s
theorem u7_ok {f:FV→FV→FV→FV→FV→FV→FV→GS→Bool} {vs:List FV} {s:GS} (h:u7 f vs s=true):∃a0 a1 a2 a3 a4 a5 a6,vs=[a0,a1,a2,a3,a4,a5,a6]∧f a0 a1 a2 a3 a4 a5 a6 s=true:=by cases vs with | nil=>cases h | cons a l=>(obtain⟨b0,b1,b2,b3,b4,b5,rfl,h⟩:=Wp (show u6 (f a) l s=true from h);exact⟨a,_,_,_,_,_,_,rfl,h⟩)
theorem qE {X:Ctx} {τ:jc} {F:AF} {i:Nat} {f:aP→Go→KS→KS→FV→FV→FV→FV→FV→FV→FV→GS→Bool} (e:∀r g K Z a0 a1 a2 a3 a4 a5 a6 s,aQ X τ F i r g K Z [a0,a1,a2,a3,a4,a5,a6] s=f r g K Z a0 a1 a2 a3 a4 a5 a6 s):BF.Ok X τ F i (fun r g K Z=>u7 (f r g K Z)):=fun r g K Z vs s h=>by obtain⟨a0,a1,a2,a3,a4,a5,a6,rfl,h⟩:=u7_ok h;exact(e r g K Z a0 a1 a2 a3 a4 a5 a6 s).trans h
noncomputable def u8 (f:FV→FV→FV→FV→FV→FV→FV→FV→GS→Bool)(vs:List FV)(s:GS):Bool:=List.rec (motive:=fun _=>(FV→FV→FV→FV→FV→FV→FV→FV→GS→Bool)→GS→Bool) (fun _ _=>false) (fun a l _ f s=>u7 (f a) l s) vs f s
theorem u8_ok {f:FV→FV→FV→FV→FV→FV→FV→FV→GS→Bool} {vs:List FV} {s:GS} (h:u8 f vs s=true):∃a0 a1 a2 a3 a4 a5 a6 a7,vs=[a0,a1,a2,a3,a4,a5,a6,a7]∧f a0 a1 a2 a3 a4 a5 a6 a7 s=true:=by cases vs with | nil=>cases h | cons a l=>(obtain⟨b0,b1,b2,b3,b4,b5,b6,rfl,h⟩:=u7_ok (show u7 (f a) l s=true from h);exact⟨a,_,_,_,_,_,_,_,rfl,h⟩)
theorem vG {X:Ctx} {τ:jc} {F:AF} {i:Nat} {f:aP→Go→KS→KS→FV→FV→FV→FV→FV→FV→FV→FV→GS→Bool} (e:∀r g K Z a0 a1 a2 a3 a4 a5 a6 a7 s,aQ X τ F i r g K Z [a0,a1,a2,a3,a4,a5,a6,a7] s=f r g K Z a0 a1 a2 a3 a4 a5 a6 a7 s):BF.Ok X τ F i (fun r g K Z=>u8 (f r g K Z)):=fun r g K Z vs s h=>by obtain⟨a0,a1,a2,a3,a4,a5,a6,a7,rfl,h⟩:=u8_ok h;exact(e r g K Z a0 a1 a2 a3 a4 a5 a6 a7 s).trans h
noncomputable def u9 (f:FV→FV→FV→FV→FV→FV→FV→FV→FV→GS→Bool)(vs:List FV)(s:GS):Bool:=List.rec (motive:=fun _=>(FV→FV→FV→FV→FV→FV→FV→FV→FV→GS→Bool)→GS→Bool) (fun _ _=>false) (fun a l _ f s=>u8 (f a) l s) vs f s
theorem u9_ok {f:FV→FV→FV→FV→FV→FV→FV→FV→FV→GS→Bool} {vs:List FV} {s:GS} (h:u9 f vs s=true):∃a0 a1 a2 a3 a4 a5 a6 a7 a8,vs=[a0,a1,a2,a3,a4,a5,a6,a7,a8]∧f a0 a1 a2 a3 a4 a5 a6 a7 a8 s=true:=by cases vs with | nil=>cases h | cons a l=>(obtain⟨b0,b1,b2,b3,b4,b5,b6,b7,rfl,h⟩:=u8_ok (show u8 (f a) l s=true from h);exact⟨a,_,_,_,_,_,_,_,_,rfl,h⟩)
theorem Oz {X:Ctx} {τ:jc} {F:AF} {i:Nat} {f:aP→Go→KS→KS→FV→FV→FV→FV→FV→FV→FV→FV→FV→GS→Bool} (e:∀r g K Z a0 a1 a2 a3 a4 a5 a6 a7 a8 s,aQ X τ F i r g K Z [a0,a1,a2,a3,a4,a5,a6,a7,a8] s=f r g K Z a0 a1 a2 a3 a4 a5 a6 a7 a8 s):BF.Ok X τ F i (fun r g K Z=>u9 (f r g K Z)):=fun r g K Z vs s h=>by obtain⟨a0,a1,a2,a3,a4,a5,a6,a7,a8,rfl,h⟩:=u9_ok h;exact(e r g K Z a0 a1 a2 a3 a4 a5 a6 a7 a8 s).trans h
noncomputable def u10 (f:FV→FV→FV→FV→FV→FV→FV→FV→FV→FV→GS→Bool)(vs:List FV)(s:GS):Bool:=List.rec (motive:=fun _=>(FV→FV→FV→FV→FV→FV→FV→FV→FV→FV→GS→Bool)→GS→Bool) (fun _ _=>false) (fun a l _ f s=>u9 (f a) l s) vs f s
noncomputable def u11 (f:FV→FV→FV→FV→FV→FV→FV→FV→FV→FV→FV→GS→Bool)(vs:List FV)(s:GS):Bool:=List.rec (motive:=fun _=>(FV→FV→FV→FV→FV→FV→FV→FV→FV→FV→FV→GS→Bool)→GS→Bool) (fun _ _=>false) (fun a l _ f s=>u10 (f a) l s) vs f s
noncomputable def u12 (f:FV→FV→FV→FV→FV→FV→FV→FV→FV→FV→FV→FV→GS→Bool)(vs:List FV)(s:GS):Bool:=List.rec (motive:=fun _=>(FV→FV→FV→FV→FV→FV→FV→FV→FV→FV→FV→FV→GS→Bool)→GS→Bool) (fun _ _=>false) (fun a l _ f s=>u11 (f a) l s) vs f s
noncomputable def u13 (f:FV→FV→FV→FV→FV→FV→FV→FV→FV→FV→FV→FV→FV→GS→Bool)(vs:List FV)(s:GS):Bool:=List.rec (motive:=fun _=>(FV→FV→FV→FV→FV→FV→FV→FV→FV→FV→FV→FV→FV→GS→Bool)→GS→Bool) (fun _ _=>false) (fun a l _ f s=>u12 (f a) l s) vs f s
noncomputable def u14 (f:FV→FV→FV→FV→FV→FV→FV→FV→FV→FV→FV→FV→FV→FV→GS→Bool)(vs:List FV)(s:GS):Bool:=List.rec (motive:=fun _=>(FV→FV→FV→FV→FV→FV→FV→FV→FV→FV→FV→FV→FV→FV→GS→Bool)→GS→Bool) (fun _ _=>false) (fun a l _ f s=>u13 (f a) l s) vs f s
noncomputable def u15 (f:FV→FV→FV→FV→FV→FV→FV→FV→FV→FV→FV→FV→FV→FV→FV→GS→Bool)(vs:List FV)(s:GS):Bool:=List.rec (motive:=fun _=>(FV→FV→FV→FV→FV→FV→FV→FV→FV→FV→FV→FV→FV→FV→FV→GS→Bool)→GS→Bool) (fun _ _=>false) (fun a l _ f s=>u14 (f a) l s) vs f s
noncomputable def u16 (f:FV→FV→FV→FV→FV→FV→FV→FV→FV→FV→FV→FV→FV→FV→FV→FV→GS→Bool)(vs:List FV)(s:GS):Bool:=List.rec (motive:=fun _=>(FV→FV→FV→FV→FV→FV→FV→FV→FV→FV→FV→FV→FV→FV→FV→FV→GS→Bool)→GS→Bool) (fun _ _=>false) (fun a l _ f s=>u15 (f a) l s) vs f s
noncomputable def u17 (f:FV→FV→FV→FV→FV→FV→FV→FV→FV→FV→FV→FV→FV→FV→FV→FV→FV→GS→Bool)(vs:List FV)(s:GS):Bool:=List.rec (motive:=fun _=>(FV→FV→FV→FV→FV→FV→FV→FV→FV→FV→FV→FV→FV→FV→FV→FV→FV→GS→Bool)→GS→Bool) (fun _ _=>false) (fun a l _ f s=>u16 (f a) l s) vs f s
noncomputable def u18 (f:FV→FV→FV→FV→FV→FV→FV→FV→FV→FV→FV→FV→FV→FV→FV→FV→FV→FV→GS→Bool)(vs:List FV)(s:GS):Bool:=List.rec (motive:=fun _=>(FV→FV→FV→FV→FV→FV→FV→FV→FV→FV→FV→FV→FV→FV→FV→FV→FV→FV→GS→Bool)→GS→Bool) (fun _ _=>false) (fun a l _ f s=>u17 (f a) l s) vs f s
noncomputable def u19 (f:FV→FV→FV→FV→FV→FV→FV→FV→FV→FV→FV→FV→FV→FV→FV→FV→FV→FV→FV→GS→Bool)(vs:List FV)(s:GS):Bool:=List.rec (motive:=fun _=>(FV→FV→FV→FV→FV→FV→FV→FV→FV→FV→FV→FV→FV→FV→FV→FV→FV→FV→FV→GS→Bool)→GS→Bool) (fun _ _=>false) (fun a l _ f s=>u18 (f a) l s) vs f s
noncomputable def u20 (f:FV→FV→FV→FV→FV→FV→FV→FV→FV→FV→FV→FV→FV→FV→FV→FV→FV→FV→FV→FV→GS→Bool)(vs:List FV)(s:GS):Bool:=List.rec (motive:=fun _=>(FV→FV→FV→FV→FV→FV→FV→FV→FV→FV→FV→FV→FV→FV→FV→FV→FV→FV→FV→FV→GS→Bool)→GS→Bool) (fun _ _=>false) (fun a l _ f s=>u19 (f a) l s) vs f s
noncomputable def u21 (f:FV→FV→FV→FV→FV→FV→FV→FV→FV→FV→FV→FV→FV→FV→FV→FV→FV→FV→FV→FV→FV→GS→Bool)(vs:List FV)(s:GS):Bool:=List.rec (motive:=fun _=>(FV→FV→FV→FV→FV→FV→FV→FV→FV→FV→FV→FV→FV→FV→FV→FV→FV→FV→FV→FV→FV→GS→Bool)→GS→Bool) (fun _ _=>false) (fun a l _ f s=>u20 (f a) l s) vs f s
noncomputable def u22 (f:FV→FV→FV→FV→FV→FV→FV→FV→FV→FV→FV→FV→FV→FV→FV→FV→FV→FV→FV→FV→FV→FV→GS→Bool)(vs:List FV)(s:GS):Bool:=List.rec (motive:=fun _=>(FV→FV→FV→FV→FV→FV→FV→FV→FV→FV→FV→FV→FV→FV→FV→FV→FV→FV→FV→FV→FV→FV→GS→Bool)→GS→Bool) (fun _ _=>false) (fun a l _ f s=>u21 (f a) l s) vs f s
noncomputable def u23 (f:FV→FV→FV→FV→FV→FV→FV→FV→FV→FV→FV→FV→FV→FV→FV→FV→FV→FV→FV→FV→FV→FV→FV→GS→Bool)(vs:List FV)(s:GS):Bool:=List.rec (motive:=fun _=>(FV→FV→FV→FV→FV→FV→FV→FV→FV→FV→FV→FV→FV→FV→FV→FV→FV→FV→FV→FV→FV→FV→FV→GS→Bool)→GS→Bool) (fun _ _=>false) (fun a l _ f s=>u22 (f a) l s) vs f s
noncomputable def u24 (f:FV→FV→FV→FV→FV→FV→FV→FV→FV→FV→FV→FV→FV→FV→FV→FV→FV→FV→FV→FV→FV→FV→FV→FV→GS→Bool)(vs:List FV)(s:GS):Bool:=List.rec (motive:=fun _=>(FV→FV→FV→FV→FV→FV→FV→FV→FV→FV→FV→FV→FV→FV→FV→FV→FV→FV→FV→FV→FV→FV→FV→FV→GS→Bool)→GS→Bool) (fun _ _=>false) (fun a l _ f s=>u23 (f a) l s) vs f s
noncomputable def u25 (f:FV→FV→FV→FV→FV→FV→FV→FV→FV→FV→FV→FV→FV→FV→FV→FV→FV→FV→FV→FV→FV→FV→FV→FV→FV→GS→Bool)(vs:List FV)(s:GS):Bool:=List.rec (motive:=fun _=>(FV→FV→FV→FV→FV→FV→FV→FV→FV→FV→FV→FV→FV→FV→FV→FV→FV→FV→FV→FV→FV→FV→FV→FV→FV→GS→Bool)→GS→Bool) (fun _ _=>false) (fun a l _ f s=>u24 (f a) l s) vs f s
noncomputable def u26 (f:FV→FV→FV→FV→FV→FV→FV→FV→FV→FV→FV→FV→FV→FV→FV→FV→FV→FV→FV→FV→FV→FV→FV→FV→FV→FV→GS→Bool)(vs:List FV)(s:GS):Bool:=List.rec (motive:=fun _=>(FV→FV→FV→FV→FV→FV→FV→FV→FV→FV→FV→FV→FV→FV→FV→FV→FV→FV→FV→FV→FV→FV→FV→FV→FV→FV→GS→Bool)→GS→Bool) (fun _ _=>false) (fun a l _ f s=>u25 (f a) l s) vs f s
noncomputable def u27 (f:FV→FV→FV→FV→FV→FV→FV→FV→FV→FV→FV→FV→FV→FV→FV→FV→FV→FV→FV→FV→FV→FV→FV→FV→FV→FV→FV→GS→Bool)(vs:List FV)(s:GS):Bool:=List.rec (motive:=fun _=>(FV→FV→FV→FV→FV→FV→FV→FV→FV→FV→FV→FV→FV→FV→FV→FV→FV→FV→FV→FV→FV→FV→FV→FV→FV→FV→FV→GS→Bool)→GS→Bool) (fun _ _=>false) (fun a l _ f s=>u26 (f a) l s) vs f s
noncomputable def u28 (f:FV→FV→FV→FV→FV→FV→FV→FV→FV→FV→FV→FV→FV→FV→FV→FV→FV→FV→FV→FV→FV→FV→FV→FV→FV→FV→FV→FV→GS→Bool)(vs:List FV)(s:GS):Bool:=List.rec (motive:=fun _=>(FV→FV→FV→FV→FV→FV→FV→FV→FV→FV→FV→FV→FV→FV→FV→FV→FV→FV→FV→FV→FV→FV→FV→FV→FV→FV→FV→FV→GS→Bool)→GS→Bool) (fun _ _=>false) (fun a l _ f s=>u27 (f a) l s) vs f s
noncomputable def u29 (f:FV→FV→FV→FV→FV→FV→FV→FV→FV→FV→FV→FV→FV→FV→FV→FV→FV→FV→FV→FV→FV→FV→FV→FV→FV→FV→FV→FV→FV→GS→Bool)(vs:List FV)(s:GS):Bool:=List.rec (motive:=fun _=>(FV→FV→FV→FV→FV→FV→FV→FV→FV→FV→FV→FV→FV→FV→FV→FV→FV→FV→FV→FV→FV→FV→FV→FV→FV→FV→FV→FV→FV→GS→Bool)→GS→Bool) (fun _ _=>false) (fun a l _ f s=>u28 (f a) l s) vs f s
noncomputable def u30 (f:FV→FV→FV→FV→FV→FV→FV→FV→FV→FV→FV→FV→FV→FV→FV→FV→FV→FV→FV→FV→FV→FV→FV→FV→FV→FV→FV→FV→FV→FV→GS→Bool)(vs:List FV)(s:GS):Bool:=List.rec (motive:=fun _=>(FV→FV→FV→FV→FV→FV→FV→FV→FV→FV→FV→FV→FV→FV→FV→FV→FV→FV→FV→FV→FV→FV→FV→FV→FV→FV→FV→FV→FV→FV→GS→Bool)→GS→Bool) (fun _ _=>false) (fun a l _ f s=>u29 (f a) l s) vs f s
noncomputable def u31 (f:FV→FV→FV→FV→FV→FV→FV→FV→FV→FV→FV→FV→FV→FV→FV→FV→FV→FV→FV→FV→FV→FV→FV→FV→FV→FV→FV→FV→FV→FV→FV→GS→Bool)(vs:List FV)(s:GS):Bool:=List.rec (motive:=fun _=>(FV→FV→FV→FV→FV→FV→FV→FV→FV→FV→FV→FV→FV→FV→FV→FV→FV→FV→FV→FV→FV→FV→FV→FV→FV→FV→FV→FV→FV→FV→FV→GS→Bool)→GS→Bool) (fun _ _=>false) (fun a l _ f s=>u30 (f a) l s) vs f s
noncomputable def u32 (f:FV→FV→FV→FV→FV→FV→FV→FV→FV→FV→FV→FV→FV→FV→FV→FV→FV→FV→FV→FV→FV→FV→FV→FV→FV→FV→FV→FV→FV→FV→FV→FV→GS→Bool)(vs:List FV)(s:GS):Bool:=List.rec (motive:=fun _=>(FV→FV→FV→FV→FV→FV→FV→FV→FV→FV→FV→FV→FV→FV→FV→FV→FV→FV→FV→FV→FV→FV→FV→FV→FV→FV→FV→FV→FV→FV→FV→FV→GS→Bool)→GS→Bool) (fun _ _=>false) (fun a l _ f s=>u31 (f a) l s) vs f s
end Go.dX
namespace Go.dX.YthggaoedidfpcaaGreatDoor
open Go.Proofs
abbrev Wv:=List FV→GS→KS→Bool
noncomputable def Wv.fe (q:Wv):FE:=fun _ args s K _=>q args s K
def Wv.Ok (X:Ctx)(f:Nat)(q:Wv):Prop:=∀(args:List FV) (s:GS) (σ:St) (K:KS),s.Is σ→q args s K=true→∃n,QH (bFn X n f (args.map FV.av) σ) K
theorem Wv.Ok.fe {X:Ctx} {f:Nat} {q:Wv} (h:q.Ok X f):(q.fe).Ok X f:=fun _ _ args s σ K Z hs hk=>by
 obtain⟨n,v,σ',s',h1,h2,h3⟩:=h args s σ K hs hk
 exact⟨n,false,v,σ',s',iG.1 h1,h2,h3⟩
theorem xO {X:Ctx} {f:Nat} {p:List AV→St→Option (AV×St)} (hp:X.lg f=some p) {args:List FV} {σ:St} {K:KS} (h:QH (p (args.map FV.av) σ) K):∃n,QH (bFn X n f (args.map FV.av) σ) K:=by
 obtain⟨v,σ',s',h1,h2,h3⟩:=h
 exact⟨1,v,σ',s',iG.2 (by simp only [mJ,hp,h1,Option.map_some]),h2,h3⟩
noncomputable def ug:Wv:=fun args s K=>match args with
 | [.s n v,.n t c]=>bC (Nat.beq t (nat_lit 512)) (eu (some (.i .i64 (Lib.indexByte (g_ n v) (Nat.mod c (nat_lit 256)).toUInt8))) fun r=>K r s) false
 | _=>false
theorem Dz:ug.Ok XB 60:=by
 intro args s σ K h hk
 refine xO (p:=nS) (by kernel_rfl) ?_
 unfold ug at hk
 split at hk
 ·rename_i n v t c
  obtain⟨h1,h2⟩:=aT hk
  have h1:t=512:=Nat.eq_of_beq_eq_true h1
  subst h1
  obtain⟨r,h3,h4⟩:=Dl h2
  refine⟨r,σ,s,?_,h,h4⟩
  have e1:FV.av (.n 512 c)= .i .u8 (c%256:Nat):=by
   have hx:c%256<256:=Nat.mod_lt _ (by omega)
   rw [FV.xu,show (512:Nat)=tg .u8 from rfl,jL,←l7 .u8 c,show c%2^IntKind.u8.bits=c%256 from rfl,wrap_small .u8 (by simp only [IntKind.signed,IntKind.bits,if_false,Bool.false_eq_true];omega)]
  simp only [List.map_cons,List.map_nil,e1,FV.yM,nS,Int.toNat_natCast]
  rw [←show AV.i .i64 (Lib.indexByte (g_ n v) (c%256).toUInt8)=r.av from Option.some.inj h3]
 ·cases hk
noncomputable def Wx (s:GS)(g:Nat)(K:KF):Bool:=Df (s.t.get g) (nat_lit 0) fun _ _ n m d t=>bC (Nat.ble (nat_lit 1) n) (C9 m d t (nat_lit 0) K) false
theorem JY {s:GS} {σ:St} (h:s.Is σ) {g:Nat} {K:KF} (hk:Wx s g K=true):∃ro e v rest,σ[g]? =some ⟨0,ro,.cells e (FV.av v :: rest)⟩∧K v=true:=by
 obtain⟨ro,e,n,m,d,t,cs,h1,h2,h3⟩:=lX h hk
 obtain⟨h4,h5⟩:=aT h3
 rw [xC] at h5
 have h4:1≤n:=Nat.le_of_ble_eq_true h4
 have h6:=h2.at_ 0 (by omega)
 cases cs with
 | nil=>simp at h6
 | cons c rest=>
   have h6:c=_:=Option.some.inj h6
   exact⟨ro,e,_,rest,by rw [←h6];exact h1,h5⟩
noncomputable def isIc:FV→Bool:=FV.rec (motive_1:=fun _=>Bool) (motive_2:=fun _=>PUnit) (fun _ _=>false) (fun _ _ _=>false) (fun _ _ _ _ _=>false) (fun _ _=>false) (fun t _ _ _=>Nat.beq t (nat_lit 2)) ⟨⟩ (fun _ _ _ _=>⟨⟩)
theorem isIc_ok {v:FV} (h:isIc v=true):∃t x,v.av= .ic t x:=by
 cases v with
 | c t a l=>have h:t=2:=Nat.eq_of_beq_eq_true h;subst h;exact⟨_,_,rfl⟩
 | _=>cases h
noncomputable def uh:Wv:=fun args s K=>match args with
 | [.s n v,.n 36893488147419103233 10,.n 36893488147419103233 32]=>bC (Nat.ble n (nat_lit 281474976710656)) (match Lib.parseUintB 32 (g_ n v) with
   | .ok u=>eu (some (.tu [.i .u64 u,.fK])) fun r=>K r s
   | .range=>Wx s 5 fun e=>bC (isIc e) (K (.c 1 0 [.n 36893488147419103232 4294967295,.c 2 252 [.n 0 0]]) s) false
   | _=>false) false
 | _=>false
theorem DC:uh.Ok XB 65:=by
 intro args s σ K h hk
 refine xO (p:=nT) (by kernel_rfl) ?_
 unfold uh at hk
 split at hk
 ·rename_i n v
  obtain⟨h1,h2⟩:=aT hk
  have h1:n≤281474976710656:=Nat.le_of_ble_eq_true h1
  have e10:FV.av (.n 36893488147419103233 10)= .i .i64 10:=kJ (n:=10) (by omega)
  have e32:FV.av (.n 36893488147419103233 32)= .i .i64 32:=kJ (n:=32) (by omega)
  simp only [List.map_cons,List.map_nil,e10,e32,FV.yM,nT]
  rw [gK,if_pos h1]
  split at h2
  ·rename_i u hu
   simp only [hu]
   obtain⟨r,h3,h4⟩:=Dl h2
   exact⟨r,σ,s,by rw [Option.some.inj h3],h,h4⟩
  ·rename_i hu
   simp only [hu]
   obtain⟨ro,e,c,rest,q1,q2⟩:=JY h h2
   obtain⟨q3,q4⟩:=aT q2
   obtain⟨t,x,q5⟩:=isIc_ok q3
   rw [q5] at q1
   refine⟨_,σ,s,?_,h,q4⟩
   rw [q1,CW]
   simp only [List.map_cons,List.map_nil,xA]
   rw [FV.xu,show (36893488147419103232:Nat)=tg .u64 from rfl,jL,wrap_small .u64 (by simp only [IntKind.signed,IntKind.bits,if_false,Bool.false_eq_true];omega)];rfl
  ·cases h2
 ·cases hk
noncomputable def fqAs:Wv:=fun args s K=>match args with
 | [.n 5 _,_]=>K (.n 1 0) s
 | [.c 2 49 [.p o g off],.c 2 51 [.p o2 g2 off2]]=>Wx s 0 fun e=>(match e with
   | .c 2 117 [.c 0 _ [.p 11 0 24]]=>aS (.p o2 g2 off2) (.p o g off) s fun s'=>K (.n 1 1) s'
   | _=>false)
 | _=>false
theorem tyFault:∃a b c d e f,aH Tryz.prog 49=some ⟨.ptr a,1,b,c,d,e,f⟩:=⟨_,_,_,_,_,_,aN 49 yT49 rfl⟩
theorem fqAs_ok:fqAs.Ok XB 9:=by
 intro args s σ K h hk
 refine xO (p:=pAs) (by kernel_rfl) ?_
 unfold fqAs at hk
 split at hk
 ·exact⟨_,σ,s,rfl,h,hk⟩
 ·rename_i o g off o2 g2 off2
  obtain⟨ro,e,v,rest,q1,q2⟩:=JY h hk
  split at q2
  ·rename_i aa
   obtain⟨ta,tb,tc,td,te,tf,hT⟩:=tyFault
   obtain⟨σ',s',r1,r2,r3⟩:=Dh h (T:=⟨.ptr ta,1,tb,tc,td,te,tf⟩) rfl q2
   refine⟨_,σ',s',?_,r2,r3⟩
   simp only [List.map_cons,List.map_nil,xA,FV.CS,pAs]
   rw [xA,oP] at q1
   simp only [List.map_cons,List.map_nil,FV.CS] at q1
   simp only [q1,hT]
   rw [show jB (some ⟨.ptr ta,1,tb,tc,td,te,tf⟩) (.p o2 g2 off2) (.p o g off) σ=some σ' from r1];rfl
  ·cases q2
 ·cases hk
noncomputable def DF:Wv:=fun args s K=>match args with
 | [.c 2 28 [_]]=>K (.c 2 117 [.c 0 0 [.p 11 0 28]]) s
 | _=>false
theorem JZ:DF.Ok XB 25:=by
 intro args s σ K h hk
 refine xO (p:=Ap) (by kernel_rfl) ?_
 unfold DF at hk
 split at hk
 ·exact⟨_,σ,s,rfl,h,hk⟩
 ·cases hk
noncomputable def qZ:Wv:=fun args s K=>match args with
 | [.c 0 _ [.p 11 0 28]]=>K (.n 1 1) s
 | _=>false
theorem zY:qZ.Ok XB 230:=by
 intro args s σ K h hk
 refine xO (p:=oO) (by kernel_rfl) ?_
 unfold qZ at hk
 split at hk
 ·exact⟨_,σ,s,rfl,h,hk⟩
 ·cases hk
noncomputable def zK:FE:=ug.fe
theorem DJ:zK.Ok XB 60:=Dz.fe
noncomputable def zM:FE:=uh.fe
theorem DK:zM.Ok XB 65:=DC.fe
noncomputable def feAs:FE:=fqAs.fe
theorem feAs_ok:feAs.Ok XB 9:=fqAs_ok.fe
noncomputable def J3:FE:=DF.fe
theorem J4:J3.Ok XB 25:=JZ.fe
noncomputable def xP:FE:=qZ.fe
theorem zZ:xP.Ok XB 230:=zY.fe
end Go.dX.YthggaoedidfpcaaGreatDoor
