/- Texts of this claim, joined: Abs53, Abs54, Abs55, Fg. -/
import Derived.Test.YtnbdedokjfpckaaGreatDoorM13
import Derived.Test.YtnbdedokjfpckaaGreatDoorM09
set_option linter.unusedVariables false
set_option linter.unusedSimpArgs false
namespace Go.cO
inductive Fr where
 | sq (b:Nat) (c:AC)
 | bk (id:Nat)
 | lp (b:Nat) (l:List Nat) (c:AC)
structure Nd where
 live:List Nat
 b:Nat
 c:AC
 fs:List Fr
noncomputable def XF:List Nat→Bool:=List.rec (motive:=fun _=>Bool) false (fun d _ _=>Nat.beq d (nat_lit 1000000))
noncomputable def cnt:AC→Nat:=AC.rec (motive:=fun _=>Nat) 0 (fun _=>0) (fun _=>0) (fun _ _ a b=>Nat.add a b) (fun _ _ _ a b=>Nat.add a b) (fun _ _ a=>a) (fun _ _ a=>Nat.succ a) (fun l _ a=>bC (XF l) (Nat.succ a) a) (fun _=>0) 0
def je:AC→Nat
 | .seq a b=>je a+je b+1
 | .cond _ a b=>je a+je b+1
 | .blk _ c=>je c+1
 | .loop _ c=>je c+1
 | .cut _ c=>je c+1
 | _=>1
noncomputable def nodes:AC→Nat→List Fr→List Nd:=AC.rec (motive:=fun _=>Nat→List Fr→List Nd)
 (fun _ _=>[]) (fun _ _ _=>[]) (fun _ _ _=>[])
 (fun a c iha IL b fs=>iha b (.sq (Nat.add b (cnt a)) c :: fs) ++ IL (Nat.add b (cnt a)) fs)
 (fun _ a _ iha IL b fs=>iha b fs ++ IL (Nat.add b (cnt a)) fs)
 (fun id _ ih b fs=>ih b (.bk id :: fs))
 (fun l c ih b fs=>⟨l,Nat.succ b,c,.lp b l c :: fs⟩ :: ih (Nat.succ b) (.lp b l c :: fs))
 (fun l c ih b fs=>bC (XF l) (⟨l,Nat.succ b,c,fs⟩ :: ih (Nat.succ b) fs) (ih b fs))
 (fun _ _ _=>[]) (fun _ _=>[])
theorem qK (a c:AC)(b:Nat)(fs:List Fr):nodes (.seq a c) b fs=nodes a b (.sq (b+cnt a) c :: fs) ++ nodes c (b+cnt a) fs:=rfl
theorem oV (x:bH)(a c:AC)(b:Nat)(fs:List Fr):nodes (.cond x a c) b fs=nodes a b fs ++ nodes c (b+cnt a) fs:=rfl
theorem MH (id:Nat)(c:AC)(b:Nat)(fs:List Fr):nodes (.blk id c) b fs=nodes c b (.bk id :: fs):=rfl
theorem rW (l:List Nat)(c:AC)(b:Nat)(fs:List Fr):nodes (.loop l c) b fs=⟨l,b+1,c,.lp b l c :: fs⟩ :: nodes c (b+1) (.lp b l c :: fs):=rfl
theorem jW (l:List Nat)(c:AC)(b:Nat)(fs:List Fr):nodes (.cut l c) b fs=bC (XF l) (⟨l,b+1,c,fs⟩ :: nodes c (b+1) fs) (nodes c b fs):=rfl
theorem XG (l:List Nat)(c:AC):cnt (.cut l c)=bC (XF l) (cnt c+1) (cnt c):=rfl
theorem qL (c:AC):∀(b:Nat) (fs:List Fr),(nodes c b fs).length=cnt c:=by
 induction c with
 | skip=>intro b fs;rfl
 | reg _=>intro b fs;rfl
 | l9 _=>intro b fs;rfl
 | exit _=>intro b fs;rfl
 | ret=>intro b fs;rfl
 | seq a c iha IL=>intro b fs;rw [qK,List.length_append,iha,IL];rfl
 | cond x a c iha IL=>intro b fs;rw [oV,List.length_append,iha,IL];rfl
 | blk id c ih=>intro b fs;rw [MH,ih];rfl
 | loop l c ih=>intro b fs;rw [rW,List.length_cons,ih];rfl
 | cut l c ih=>
   intro b fs
   rw [jW,XG]
   cases XF l with
   | true=>rw [jr,jr,List.length_cons,ih]
   | false=>rw [iU,iU,ih]
abbrev KQ:=Out→dZ→GS→Bool
abbrev Go:=Nat→List FV→GS→Bool
noncomputable def valsF (e:dZ):List Nat→List FV:=List.rec (motive:=fun _=>List FV) [] (fun d _ ih=>jy e d :: ih)
noncomputable def IQ:List Nat→List FV→dZ:=List.rec (motive:=fun _=>List FV→dZ) (fun _=>[]) (fun d _ ih vs=>List.rec (motive:=fun _=>dZ) [] (fun v vs _=>(d,v) :: ih vs) vs)
noncomputable abbrev kSeq (A:dZ→GS→KQ→Bool) (Q:KQ):KQ:=fun o e s=>Out.rec (motive:=fun _=>Bool) (A e s Q) (fun id=>Q (.exit id) e s) (Q .ret e s) o
noncomputable abbrev kBlk (id:Nat) (Q:KQ):KQ:=fun o e s=>Out.rec (motive:=fun _=>Bool) (Q .normal e s) (fun j=>bC (Nat.beq j id) (Q .normal e s) (Q (.exit j) e s)) (Q .ret e s) o
noncomputable abbrev kLp (go:Go) (b:Nat) (l:List Nat) (Q:KQ):KQ:=fun o e s=>Out.rec (motive:=fun _=>Bool) (go b (valsF e l) s) (fun id=>Q (.exit id) e s) (Q .ret e s) o
section
variable (X:Ctx)(τ:gU)(run:Rn)(go:Go)
noncomputable def Gh:AC→Nat→dZ→GS→KQ→Bool:=AC.rec (motive:=fun _=>Nat→dZ→GS→KQ→Bool)
 (fun _ e s Q=>Q .normal e s)
 (fun ops _ e s Q=>Qy X τ run ops e s fun e s=>Q .normal e s)
 (fun ops _ e s Q=>Qz X τ run ops e s fun e s=>Q .normal e s)
 (fun a _ iha IL b e s Q=>iha b e s (kSeq (IL (Nat.add b (cnt a))) Q))
 (fun x a _ iha IL b e s Q=>bC (rV x) (bV (GN e x) (iha b e s Q) (IL (Nat.add b (cnt a)) e s Q)) false)
 (fun id _ ih b e s Q=>ih b e s (kBlk id Q))
 (fun l _ _ b e s _=>go b (valsF e l) s)
 (fun l _ ih b e s Q=>bC (XF l) (go b (valsF e l) s) (ih b (IQ l (valsF e l)) s Q))
 (fun id _ e s Q=>Q (.exit id) e s)
 (fun _ e s Q=>Q .ret e s)
noncomputable def aj:FV→Bool:=FV.rec (motive_1:=fun _=>Bool) (motive_2:=fun _=>PUnit) (fun _ _=>true) (fun _ _ _=>true) (fun _ _ _ _ _=>true) (fun _ _=>true) (fun t _ _ _=>bC (Nat.beq t (nat_lit 4)) false true) ⟨⟩ (fun _ _ _ _=>⟨⟩)
noncomputable abbrev gRes1 (e:dZ) (s:GS) (r:AR) (K:KF):Bool:=AR.rec (motive:=fun _=>Bool) (fun n=>bC (aj (jy e n)) (K (jy e n)) false) (fun a t=>match τ t with
 | some T=>bC T.d.agg (aB T.size (jy e a) s K) (ak (jy e a) s K)
 | none=>false) r
noncomputable abbrev Gi (e:dZ) (s:GS):List AR→(List FV→Bool)→Bool:=List.rec (motive:=fun _=>(List FV→Bool)→Bool) (fun K=>K []) (fun r _ ih K=>gRes1 τ e s r fun v=>ih fun l=>K (v :: l))
noncomputable abbrev XH (l:List FV) (s:GS) (K:KS):Bool:=match l with
 | [v]=>K v s
 | l=>K (.c (nat_lit 1) (nat_lit 0) l) s
noncomputable abbrev kFin (res:List AR) (K:KS):KQ:=fun o e s=>Out.rec (motive:=fun _=>Bool) (Gi τ e s res fun l=>XH l s K) (fun _=>false) (Gi τ e s res fun l=>XH l s K) o
noncomputable abbrev XI (res:List AR) (K:KS):List Fr→KQ:=List.rec (motive:=fun _=>KQ) (kFin τ res K) (fun f _ ih=>Fr.rec (motive:=fun _=>KQ) (fun b c=>kSeq (Gh X τ run go c b) ih) (fun id=>kBlk id ih) (fun b l _=>kLp go b l ih) f)
end
def aK (X:Ctx)(n:Nat):List Fr→Out→Env→St→Option (Out×Env×St)
 | [],q,e,σ=>some (q,e,σ)
 | .sq _ c :: fs,q,e,σ=>match q with
   | .normal=>(bJ X (bFn X n) n c e σ).bind fun r=>aK X n fs r.1 r.2.1 r.2.2
   | q=>aK X n fs q e σ
 | .bk id :: fs,q,e,σ=>match q with
   | .exit j=>aK X n fs (if j=id then .normal else .exit j) e σ
   | q=>aK X n fs q e σ
 | .lp _ l c :: fs,q,e,σ=>match q with
   | .normal=>(iY l (bJ X (bFn X n) n c) n e σ).bind fun r=>aK X n fs r.1 r.2.1 r.2.2
   | q=>aK X n fs q e σ
def IU (X:Ctx)(n:Nat)(c:AC)(fs:List Fr)(e:Env)(σ:St):Option (Out×Env×St):=(bJ X (bFn X n) n c e σ).bind fun r=>aK X n fs r.1 r.2.1 r.2.2
def QD (X:Ctx)(res:List AR)(K:KS)(o:Option (Out×Env×St)):Prop:=∃q e' σ' v s',o=some (q,e',σ')∧(q= .normal∨q= .ret)∧mg X.P res e' σ'= some (FV.av v)∧GS.Is s' σ'∧K v s'= true
section
variable {X:Ctx}
theorem xZ {n m:Nat} (h:n≤m) {c:AC} {e:Env} {σ:St} {x} (hx:bJ X (bFn X n) n c e σ=some x):bJ X (bFn X m) m c e σ=some x:=jB (rO X h) h hx
theorem XJ {n m:Nat} (h:n≤m) {l:List Nat} {c:AC} {e:Env} {σ:St} {x} (hx:iY l (bJ X (bFn X n) n c) n e σ=some x):iY l (bJ X (bFn X m) m c) m e σ=some x:=
 nN (fun _ _ _ hx=>xZ h hx) h hx
theorem mX {n m:Nat} (h:n≤m):∀(fs:List Fr) {q:Out} {e:Env} {σ:St} {x} (_:aK X n fs q e σ=some x),aK X m fs q e σ=some x
 | [],_,_,_,_,hx=>hx
 | .sq b c :: fs,q,e,σ,x,hx=>by
   cases q with
   | normal=>
     simp only [aK,Option.bind_eq_some_iff] at hx ⊢
     obtain⟨r,h1,h2⟩:=hx
     exact⟨r,xZ h h1,mX h fs h2⟩
   | exit j=>exact mX (q:=.exit j) h fs hx
   | ret=>exact mX (q:=.ret) h fs hx
 | .bk id :: fs,q,e,σ,x,hx=>by
   cases q with
   | normal=>exact mX (q:=.normal) h fs hx
   | exit j=>exact mX (q:=if j=id then .normal else .exit j) h fs hx
   | ret=>exact mX (q:=.ret) h fs hx
 | .lp b l c :: fs,q,e,σ,x,hx=>by
   cases q with
   | normal=>
     simp only [aK,Option.bind_eq_some_iff] at hx ⊢
     obtain⟨r,h1,h2⟩:=hx
     exact⟨r,XJ h h1,mX h fs h2⟩
   | exit j=>exact mX (q:=.exit j) h fs hx
   | ret=>exact mX (q:=.ret) h fs hx
end
def qp:List Fr→Nat
 | []=>0
 | .sq _ c :: fs=>je c+qp fs
 | _ :: fs=>qp fs
theorem MI (c:AC):0<je c:=by cases c <;> simp [je]
section
variable {X:Ctx} {τ:gU} (bM:τ.Ok X.P) {run:Rn} (hr:run.Ok X) {go:Go} {res:List AR} {K:KS} {N:List Nd}
def GoOk (X:Ctx)(go:Go)(res:List AR)(K:KS)(N:List Nd):Prop:=∀i nd,N[i]? =some nd→∀(vs:List FV) (s:GS) (σ:St),s.Is σ→go i vs s=true→∃n,QD X res K (IU X n nd.c nd.fs (gV (IQ nd.live vs)) σ)
def GR (N:List Nd)(c:AC)(b:Nat)(fs:List Fr):Prop:=∀i nd,(nodes c b fs)[i]? =some nd→N[b+i]? =some nd
def Gj (N:List Nd):List Fr→Prop
 | []=>True
 | .sq b c :: fs=>GR N c b fs∧Gj N fs
 | .bk _ :: fs=>Gj N fs
 | .lp b l c :: fs=>N[b]? =some ⟨l,b+1,c,.lp b l c :: fs⟩∧Gj N fs
theorem qw (e:dZ):∀l:List Nat,gV (IQ l (valsF e l))=clear l (gV e)
 | []=>rfl
 | d :: l=>by
   show (d,(jy e d).av) :: gV (IQ l (valsF e l))=_
   rw [qw e l,iC];rfl
theorem GR.seq {a c:AC} {b:Nat} {fs:List Fr} (h:GR N (.seq a c) b fs):GR N a b (.sq (b+cnt a) c :: fs)∧GR N c (b+cnt a) fs:=by
 refine⟨fun i nd hi=>h i nd ?_,fun i nd hi=>?_⟩
 ·rw [qK]
  rw [List.getElem?_append_left (List.getElem?_eq_some_iff.1 hi).1];exact hi
 ·have:=h (cnt a+i) nd (by
   rw [qK]
   rw [List.getElem?_append_right (by rw [qL];omega),qL,show cnt a+i - cnt a=i by omega];exact hi)
  rw [show b+cnt a+i=b+(cnt a+i) by omega];exact this
theorem GR.cond {x:bH} {a c:AC} {b:Nat} {fs:List Fr} (h:GR N (.cond x a c) b fs):GR N a b fs∧GR N c (b+cnt a) fs:=by
 refine⟨fun i nd hi=>h i nd ?_,fun i nd hi=>?_⟩
 ·rw [oV]
  rw [List.getElem?_append_left (List.getElem?_eq_some_iff.1 hi).1];exact hi
 ·have:=h (cnt a+i) nd (by
   rw [oV]
   rw [List.getElem?_append_right (by rw [qL];omega),qL,show cnt a+i - cnt a=i by omega];exact hi)
  rw [show b+cnt a+i=b+(cnt a+i) by omega];exact this
theorem CO {n:Nat} {b:Nat} {l:List Nat} {c:AC} {fs:List Fr} {e:Env} {σ:St} {x} (h:IU X n c (.lp b l c :: fs) (clear l e) σ=some x):(iY l (bJ X (bFn X (n+1)) (n+1) c) (n+1) e σ).bind (fun r=>aK X (n+1) fs r.1 r.2.1 r.2.2)=some x:=by
 unfold IU at h
 rw [Option.bind_eq_some_iff] at h
 obtain⟨⟨q,e1,σ1⟩,h1,h2⟩:=h
 have h1':=xZ (Nat.le_succ n) h1
 rw [Option.bind_eq_some_iff]
 cases q with
 | normal=>
   simp only [aK,Option.bind_eq_some_iff] at h2
   obtain⟨r,h3,h4⟩:=h2
   refine⟨r,?_,mX (Nat.le_succ n) fs h4⟩
   simp only [iY,h1']
   exact nN (fun _ _ _ hx=>xZ (Nat.le_succ n) hx) (Nat.le_refl n) h3
 | exit j=>
   refine⟨(.exit j,e1,σ1),?_,mX (Nat.le_succ n) fs h2⟩
   simp only [iY,h1']
 | ret=>
   refine⟨(.ret,e1,σ1),?_,mX (Nat.le_succ n) fs h2⟩
   simp only [iY,h1']
end
end Go.cO
namespace Go.cO
section
variable {X:Ctx} {τ:gU} (bM:τ.Ok X.P) {run:Rn} (hr:run.Ok X) {go:Go} {res:List AR} {K:KS} {N:List Nd} (hgo:GoOk X go res K N)
include bM
theorem QE {e:dZ} {s:GS} {σ:St} (h:s.Is σ) {r:AR} {K:KF} (hk:gRes1 τ e s r K=true):∃v:FV,pz X.P (gV e) σ r=some v.av∧K v=true:=by
 cases r with
 | t n=>
   obtain⟨h1,h2⟩:=aF hk
   refine⟨_,?_,h2⟩
   simp only [pz]
   rw [←iC]
   have hn:∀x:FV,aj x=true→∀c v,x.av≠.cd c v:=by
     intro x hx c v
     cases x with
     | n t x=>
       rw [FV.AQ]
       rcases lX t x with ⟨k,_,e⟩ | ⟨_,e⟩ | ⟨_,e⟩ | ⟨_,e⟩ | ⟨_,e⟩ | ⟨_,e⟩ | ⟨_,e⟩ | e <;> (rw [e];intro h;cases h)
     | c t a l=>
       have q1:t≠4:=fun e=>by subst e;exact Bool.noConfusion (show false=true from hx)
       rw [FV.Dy]
       rcases oO t a (FV.L6 l) with ⟨e,q⟩ | ⟨e,q⟩ | ⟨e,q⟩ | ⟨e,q⟩ | ⟨e,q⟩ | ⟨e,q⟩ | ⟨e,q⟩
       all_goals first | (exact(q1 e).elim) | (rw [q];intro h;cases h)
     | _=>intro h;cases h
   split
   ·rename_i c v hc;exact(hn _ h1 _ _ hc).elim
   ·rfl
 | cell a t=>
   have hk':(match τ t with
    | some T=>bC T.d.agg (aB T.size (jy e a) s K) (ak (jy e a) s K)
    | none=>false)=true:=hk
   split at hk'
   ·rename_i T hT
    simp only [pz]
    rw [←iC,bM _ _ hT]
    cases ha:T.d.agg with
    | true=>rw [ha,jr] at hk';exact Cb h ha hk'
    | false=>rw [ha,iU] at hk';exact lq h ha hk'
   ·cases hk'
theorem Gl {e:dZ} {s:GS} {σ:St} (h:s.Is σ):∀(rs:List AR) {K:List FV→Bool} (_:Gi τ e s rs K=true),∃l,mG X.P (gV e) σ rs=some (l.map FV.av)∧K l=true
 | [],K,hk=>⟨[],rfl,hk⟩
 | r :: rs,K,hk=>by
   obtain⟨v,h1,h2⟩:=QE bM h (K:=fun v=>Gi τ e s rs fun l=>K (v :: l)) hk
   obtain⟨l,h3,h4⟩:=Gl h rs h2
   exact⟨_,by simp only [mG,h1,h3,List.map_cons],h4⟩
theorem J6 {e:dZ} {s:GS} {σ:St} (h:s.Is σ) {K:KS} (hk:Gi τ e s res (fun l=>XH l s K)=true):∃v:FV,mg X.P res (gV e) σ=some v.av∧K v s=true:=by
 obtain⟨l,h1,h2⟩:=Gl bM h res hk
 unfold mg
 rw [h1]
 unfold XH at h2
 split at h2
 ·exact⟨_,rfl,h2⟩
 ·rename_i hn
  refine⟨_,?_,h2⟩
  rw [wR]
  cases l with
  | nil=>rfl
  | cons a l=>cases l with
    | nil=>exact(hn a rfl).elim
    | cons b l=>rfl
include hr hgo
theorem iK:∀(m:Nat) (c:AC) (b:Nat) (fs:List Fr) (e:dZ) (s:GS) (σ:St),je c+qp fs≤m→GR N c b fs→Gj N fs→s.Is σ→Gh X τ run go c b e s (XI X τ run go res K fs)=true→∃n,QD X res K (IU X n c fs (gV e) σ)
 | 0,c,_,_,_,_,_,hm,_,_,_,_=>by have:=MI c;omega
 | m+1,c,b,fs,e,s,σ,hm,hat,hfr,h,hk=>by
   have leaf:∀(fs:List Fr) (o:Out) (e:dZ) (s:GS) (σ:St),qp fs≤m→Gj N fs→s.Is σ→XI X τ run go res K fs o e s=true→∃n,QD X res K (aK X n fs o (gV e) σ):=by
    intro fs
    induction fs with
    | nil=>
      intro o e s σ _ _ h hk
      cases o with
      | exit j=>cases hk
      | normal=>
        obtain⟨v,h1,h2⟩:=J6 bM h hk
        exact⟨0,_,_,_,v,s,rfl,.inl rfl,h1,h,h2⟩
      | ret=>
        obtain⟨v,h1,h2⟩:=J6 bM h hk
        exact⟨0,_,_,_,v,s,rfl,.inr rfl,h1,h,h2⟩
    | cons f fs ih=>
      intro o e s σ hs hf h hk
      cases f with
      | sq b c=>
        cases o with
        | normal=>exact iK m c b fs e s σ hs hf.1 hf.2 h hk
        | exit j=>exact ih (.exit j) e s σ (by simp only [qp] at hs;omega) hf.2 h hk
        | ret=>exact ih .ret e s σ (by simp only [qp] at hs;omega) hf.2 h hk
      | bk id=>
        cases o with
        | normal=>exact ih .normal e s σ hs hf h hk
        | ret=>exact ih .ret e s σ hs hf h hk
        | exit j=>
          have hk':bC (Nat.beq j id) (XI X τ run go res K fs .normal e s) (XI X τ run go res K fs (.exit j) e s)=true:=hk
          cases hj:Nat.beq j id with
          | true=>
            rw [hj,jr] at hk'
            obtain⟨n,hn⟩:=ih .normal e s σ hs hf h hk'
            exact⟨n,by simp only [aK];rw [if_pos (Nat.eq_of_beq_eq_true hj)];exact hn⟩
          | false=>
            rw [hj,iU] at hk'
            obtain⟨n,hn⟩:=ih (.exit j) e s σ hs hf h hk'
            exact⟨n,by simp only [aK];rw [if_neg (Nat.ne_of_beq_eq_false hj)];exact hn⟩
      | lp b l c=>
        cases o with
        | exit j=>exact ih (.exit j) e s σ hs hf.2 h hk
        | ret=>exact ih .ret e s σ hs hf.2 h hk
        | normal=>
          have hk':go b (valsF e l) s=true:=hk
          obtain⟨n,q,e',σ',v,s',q1,q2⟩:=hgo b _ hf.1 _ _ _ h hk'
          rw [qw] at q1
          exact⟨n+1,q,e',σ',v,s',CO q1,q2⟩
   cases c with
   | skip=>
     obtain⟨n,hn⟩:=leaf fs .normal e s σ (by simp only [je] at hm;omega) hfr h hk
     exact⟨n,hn⟩
   | exit j=>
     obtain⟨n,hn⟩:=leaf fs (.exit j) e s σ (by simp only [je] at hm;omega) hfr h hk
     exact⟨n,hn⟩
   | ret=>
     obtain⟨n,hn⟩:=leaf fs .ret e s σ (by simp only [je] at hm;omega) hfr h hk
     exact⟨n,hn⟩
   | reg ops=>
     obtain⟨n1,e',σ',s',h1,h2,h3⟩:=J4 bM hr h (K:=fun e s=>XI X τ run go res K fs .normal e s) hk
     obtain⟨n2,q,e2,σ2,v,s2,q1,q2⟩:=leaf fs .normal e' s' σ' (by simp only [je] at hm;omega) hfr h2 h3
     refine⟨max n1 n2,q,e2,σ2,v,s2,?_,q2⟩
     simp only [IU,bJ,tJ (rO X (Nat.le_max_left n1 n2)) h1,Option.map_some,Option.bind_some]
     exact mX (Nat.le_max_right n1 n2) fs q1
   | l9 ops=>
     obtain⟨n1,e',σ',s',h1,h2,h3⟩:=J5 bM hr h (K:=fun e s=>XI X τ run go res K fs .normal e s) hk
     obtain⟨n2,q,e2,σ2,v,s2,q1,q2⟩:=leaf fs .normal e' s' σ' (by simp only [je] at hm;omega) hfr h2 h3
     refine⟨max n1 n2,q,e2,σ2,v,s2,?_,q2⟩
     simp only [IU,bJ,tK (rO X (Nat.le_max_left n1 n2)) h1,Option.map_some,Option.bind_some]
     exact mX (Nat.le_max_right n1 n2) fs q1
   | seq a c=>
     obtain⟨ha1,ha2⟩:=hat.seq
     obtain⟨n,hn⟩:=iK m a b (.sq (b+cnt a) c :: fs) e s σ (by simp only [je,qp] at hm ⊢;omega) ha1 ⟨ha2,hfr⟩ h hk
     refine⟨n,?_⟩
     have e1:IU X n (.seq a c) fs (gV e) σ=IU X n a (.sq (b+cnt a) c :: fs) (gV e) σ:=by
        simp only [IU,bJ]
        cases bJ X (bFn X n) n a (gV e) σ with
        | none=>rfl
        | some r=>
          obtain⟨q,e',σ'⟩:=r
          cases q <;> rfl
     rw [e1];exact hn
   | cond x a c=>
     obtain⟨ha1,ha2⟩:=hat.cond
     obtain⟨h0,hk2⟩:=aF hk
     rcases dIf_ok hk2 with ⟨h1,h2⟩ | ⟨h1,h2⟩
     ·rw [ql h0] at h1
      obtain⟨n,hn⟩:=iK m a b fs e s σ (by simp only [je] at hm;omega) ha1 hfr h h2
      exact⟨n,by simp only [IU,bJ,h1];exact hn⟩
     ·rw [ql h0] at h1
      obtain⟨n,hn⟩:=iK m c (b+cnt a) fs e s σ (by simp only [je] at hm;omega) ha2 hfr h h2
      exact⟨n,by simp only [IU,bJ,h1];exact hn⟩
   | blk id c=>
     obtain⟨n,hn⟩:=iK m c b (.bk id :: fs) e s σ (by simp only [je,qp] at hm ⊢;omega) hat hfr h hk
     refine⟨n,?_⟩
     have e1:IU X n (.blk id c) fs (gV e) σ=IU X n c (.bk id :: fs) (gV e) σ:=by
        simp only [IU,bJ]
        cases bJ X (bFn X n) n c (gV e) σ with
        | none=>rfl
        | some r=>
          obtain⟨q,e',σ'⟩:=r
          cases q <;> rfl
     rw [e1];exact hn
   | loop l c=>
     have hk':go b (valsF e l) s=true:=hk
     have hnd:=hat 0 ⟨l,b+1,c,.lp b l c :: fs⟩ rfl
     obtain⟨n,q,e',σ',v,s',q1,q2⟩:=hgo _ _ hnd _ _ _ h hk'
     rw [qw] at q1
     exact⟨n+1,q,e',σ',v,s',CO q1,q2⟩
   | cut l c=>
     have hk':bC (XF l) (go b (valsF e l) s) (Gh X τ run go c b (IQ l (valsF e l)) s (XI X τ run go res K fs))=true:=hk
     cases hj:XF l with
     | true=>
       rw [hj,jr] at hk'
       have hnd:=hat 0 ⟨l,b+1,c,fs⟩ (by rw [jW,hj];rfl)
       obtain⟨n,q,e',σ',v,s',q1,q2⟩:=hgo _ _ hnd _ _ _ h hk'
       rw [qw] at q1
       exact⟨n,q,e',σ',v,s',q1,q2⟩
     | false=>
       rw [hj,iU] at hk'
       have hat':GR N c b fs:=fun i nd hi=>hat i nd (by rw [jW,hj];exact hi)
       obtain⟨n,hn⟩:=iK m c b fs (IQ l (valsF e l)) s σ (by simp only [je] at hm;omega) hat' hfr h hk'
       rw [qw] at hn
       exact⟨n,hn⟩
end
abbrev BF:=Rn→Go→KS→List FV→GS→Bool
noncomputable def gNode (X:Ctx)(τ:gU)(res:List AR)(nd:Nd):BF:=fun run go K vs s=>Gh X τ run go nd.c nd.b (IQ nd.live vs) s (XI X τ run go res K nd.fs)
noncomputable def aU (X:Ctx)(τ:gU)(F:AF)(i:Nat):BF:=fun run go K vs s=>match (nodes F.code 0 [])[i]? with
 | some nd=>gNode X τ F.res nd run go K vs s
 | none=>false
def BF.Ok (X:Ctx)(τ:gU)(F:AF)(i:Nat)(bf:BF):Prop:=∀run go K vs s,bf run go K vs s=true→aU X τ F i run go K vs s=true
noncomputable def goN (D:Nat→BF)(run:Rn)(K:KS)(fuel:Nat):Go:=Nat.rec (motive:=fun _=>Go) (fun _ _ _=>false) (fun _ go i vs s=>D i run go K vs s) fuel
noncomputable def argE:Nat→List FV→dZ→dZ:=fun n l e=>List.rec (motive:=fun _=>Nat→dZ) (fun _=>e) (fun a _ ih n=>(n,a) :: ih (Nat.succ n)) l n
theorem J7:∀(l:List FV) (n:Nat),gV (argE n l [])=eX n (l.map FV.av)
 | [],_=>rfl
 | a :: l,n=>by
   show (n,a.av) :: gV (argE (n+1) l [])=_
   rw [J7 l];rfl
abbrev FE:=Rn→List FV→GS→KS→Bool
noncomputable def aH (X:Ctx)(τ:gU)(F:AF):Rn→Go→List FV→GS→KS→Bool:=fun run go args s K=>Gh X τ run go F.code 0 (argE 0 args []) s (XI X τ run go F.res K [])
noncomputable def bG (X:Ctx)(τ:gU)(F:AF)(D:Nat→BF)(E:Rn→Go→List FV→GS→KS→Bool)(fuel:Nat):FE:=fun run args s K=>bC (Nat.ble args.length F.nt) (E run (goN D run K fuel) args s K) false
def FE.Ok (X:Ctx)(f:Nat)(fe:FE):Prop:=∀(run:Rn),run.Ok X→∀(args:List FV) (s:GS) (σ:St) (K:KS),s.Is σ→fe run args s K=true→∃n,Vf (bFn X n f (args.map FV.av) σ) K
section
variable {X:Ctx} {τ:gU} (bM:τ.Ok X.P)
include bM
theorem QF {F:AF} {D:Nat→BF} (hD:∀i,(D i).Ok X τ F i) {run:Rn} (hr:run.Ok X) {K:KS} :∀fuel,GoOk X (goN D run K fuel) F.res K (nodes F.code 0 [])
 | 0=>fun i nd hi vs s σ h hk=>by cases hk
 | fuel+1=>fun i nd hi vs s σ h hk=>by
   have hk':D i run (goN D run K fuel) K vs s=true:=hk
   have h1:=hD i _ _ _ _ _ hk'
   unfold aU at h1
   rw [hi] at h1
   have hat:GR (nodes F.code 0 []) nd.c nd.b nd.fs∧Gj (nodes F.code 0 []) nd.fs:=by
    have key:∀(c:AC) (b:Nat) (fs:List Fr),GR (nodes F.code 0 []) c b fs→Gj (nodes F.code 0 []) fs→∀nd∈nodes c b fs,GR (nodes F.code 0 []) nd.c nd.b nd.fs∧Gj (nodes F.code 0 []) nd.fs:=by
        intro c
        induction c with
        | skip=>intro b fs _ _ nd hm;cases hm
        | reg _=>intro b fs _ _ nd hm;cases hm
        | l9 _=>intro b fs _ _ nd hm;cases hm
        | exit _=>intro b fs _ _ nd hm;cases hm
        | ret=>intro b fs _ _ nd hm;cases hm
        | seq a c iha IL=>
          intro b fs h1 h2 nd hm
          obtain⟨q1,q2⟩:=h1.seq
          rw [qK,List.mem_append] at hm
          rcases hm with hm | hm
          ·exact iha _ _ q1 ⟨q2,h2⟩ nd hm
          ·exact IL _ _ q2 h2 nd hm
        | cond x a c iha IL=>
          intro b fs h1 h2 nd hm
          obtain⟨q1,q2⟩:=h1.cond
          rw [oV,List.mem_append] at hm
          rcases hm with hm | hm
          ·exact iha _ _ q1 h2 nd hm
          ·exact IL _ _ q2 h2 nd hm
        | blk id c ih=>intro b fs h1 h2 nd hm;exact ih _ _ h1 h2 nd hm
        | loop l c ih=>
          intro b fs h1 h2 nd hm
          have h3:=h1 0 _ rfl
          have h4:GR (nodes F.code 0 []) c (b+1) (.lp b l c :: fs):=fun i nd hi=>by
            have:=h1 (i+1) nd (by rw [rW,List.getElem?_cons_succ];exact hi)
            rw [show b+1+i=b+(i+1) by omega];exact this
          rw [rW,List.mem_cons] at hm
          rcases hm with rfl | hm
          ·exact⟨h4,h3,h2⟩
          ·exact ih _ _ h4 ⟨h3,h2⟩ nd hm
        | cut l c ih=>
          intro b fs h1 h2 nd hm
          cases hj:XF l with
          | true=>
            have h4:GR (nodes F.code 0 []) c (b+1) fs:=fun i nd hi=>by
              have:=h1 (i+1) nd (by rw [jW,hj,jr,List.getElem?_cons_succ];exact hi)
              rw [show b+1+i=b+(i+1) by omega];exact this
            rw [jW,hj,jr,List.mem_cons] at hm
            rcases hm with rfl | hm
            ·exact⟨h4,h2⟩
            ·exact ih _ _ h4 h2 nd hm
          | false=>
            rw [jW,hj,iU] at hm
            exact ih _ _ (fun i nd hi=>h1 i nd (by rw [jW,hj];exact hi)) h2 nd hm
    exact key F.code 0 [] (fun i nd hi=>by rw [Nat.zero_add];exact hi) trivial nd (List.mem_of_getElem? hi)
   exact iK bM hr (QF hD hr fuel) _ nd.c nd.b nd.fs _ _ _ (Nat.le_refl _) hat.1 hat.2 h h1
theorem aC {f:Nat} {F:AF} (hp:X.lD f=none)(hF:X.fns f=some F) {D:Nat→BF} (hD:∀i,(D i).Ok X τ F i) {E:Rn→Go→List FV→GS→KS→Bool} (hE:∀run go args s K,E run go args s K=true→aH X τ F run go args s K=true)(fuel:Nat):(bG X τ F D E fuel).Ok X f:=by
 intro run hr args s σ K h hk
 obtain⟨h1,h2⟩:=aF hk
 have h3:=hE _ _ _ _ _ h2
 obtain⟨n,q,e',σ',v,s',q1,q2,q3,q4,q5⟩:=iK bM hr (QF bM hD hr fuel) _ F.code 0 [] _ _ _ (Nat.le_refl _) (fun i nd hi=>by rw [Nat.zero_add];exact hi) trivial h h3
 rw [J7] at q1
 have q1':bJ X (bFn X n) n F.code (eX 0 (args.map FV.av)) σ=some (q,e',σ'):=by
  unfold IU at q1
  rw [Option.bind_eq_some_iff] at q1
  obtain⟨⟨a,b,c⟩,r1,r2⟩:=q1
  cases r2;exact r1
 refine⟨n+1,v,σ',s',?_,q4,q5⟩
 simp only [bFn,hp,hF]
 rw [if_pos (by rw [List.length_map];exact Nat.le_of_ble_eq_true h1),q1']
 rcases q2 with rfl | rfl
 ·simp only;rw [q3];rfl
 ·simp only;rw [q3];rfl
end
inductive TF where
 | nil
 | leaf (f:Nat) (fe:FE)
 | node (m:Nat) (l r:TF)
noncomputable def TF.go:TF→Nat→FE:=TF.rec (motive:=fun _=>Nat→FE) (fun _ _ _ _ _=>false) (fun f fe n run args s K=>bC (Nat.beq f n) (fe run args s K) false) (fun m _ _ l r n=>bC (Nat.ble (Nat.succ n) m) (l n) (r n))
def TF.Ok (X:Ctx):TF→Prop
 | .nil=>True
 | .leaf f fe=>fe.Ok X f
 | .node _ l r=>l.Ok X∧r.Ok X
theorem TF.go_ok {X:Ctx} :∀(t:TF) (f:Nat),t.Ok X→(t.go f).Ok X f
 | .nil,f,_=>fun run hr args s σ K h hk=>by cases hk
 | .leaf g fe,f,ht=>fun run hr args s σ K h hk=>by
   obtain⟨h1,h2⟩:=aF hk
   rw [←Nat.eq_of_beq_eq_true h1]
   exact ht run hr args s σ K h h2
 | .node m l r,f,ht=>fun run hr args s σ K h hk=>by
   have hk':bC (Nat.ble (f+1) m) (l.go f) (r.go f) run args s K=true:=hk
   cases hb:Nat.ble (f+1) m with
   | true=>rw [hb,jr] at hk';exact TF.go_ok l f ht.1 run hr args s σ K h hk'
   | false=>rw [hb,iU] at hk';exact TF.go_ok r f ht.2 run hr args s σ K h hk'
noncomputable def rnN (T:TF)(d:Nat):Rn:=Nat.rec (motive:=fun _=>Rn) (fun _ _ _ _=>false) (fun _ ih f args s K=>T.go f ih args s K) d
theorem IV {X:Ctx} {T:TF} (hT:T.Ok X):∀d,(rnN T d).Ok X
 | 0=>fun f args s σ K h hk=>by cases hk
 | d+1=>fun f args s σ K h hk=>TF.go_ok T f hT _ (IV hT d) args s σ K h hk
noncomputable def GO.of (a:AO)(K:GO→Bool):Bool:=match a with
 | ⟨g,ro,.cells e cs⟩=>bC (qW cs) (bC (Nat.ble cs.length (nat_lit 8)) (bC (iQ (eG cs)) (fN cs.length fun n=>K (.cells g ro e n n (eG cs) .lf)) false) (fN cs.length fun n=>o7 (eG cs) .lf (nat_lit 0) fun t=>K (.cells g ro e n (nat_lit 1) [.n (nat_lit 1) (nat_lit 0)] t))) false
 | _=>K .dead
theorem GO.of_ok {a:AO} {K:GO→Bool} (hk:GO.of a K=true):∃f:GO,f.Is a∧K f=true:=by
 unfold GO.of at hk
 split at hk
 ·rename_i g ro e cs
  obtain⟨h1,hk1⟩:=aF hk
  clear hk
  have hl:(eG cs).length=cs.length:=by
   have:=congrArg List.length (gG _ h1)
   rw [List.length_map] at this;exact this
  cases hsz:Nat.ble cs.length (nat_lit 8) with
  | false=>
    rw [hsz,iU,jM] at hk1
    have hb:=dB.rep (d:=[.n 1 0]) rfl cs.length
    rw [show cs.length*[FV.n 1 0].length=cs.length by simp,show [FV.n 1 0].length=1 from rfl] at hb
    obtain⟨t',q1,q2,q3⟩:=nX (eG cs) hb (off:=0) (by omega) hk1
    have e1:setCells (iG ([FV.n 1 0].map FV.av) cs.length) 0 ((eG cs).map FV.av)=cs:=by
        have:=jY ((eG cs).map FV.av) [] (iG ([FV.n 1 0].map FV.av) cs.length) (by rw [fU];simp [hl])
        rw [gG _ h1] at this ⊢
        simpa using this
    rw [e1] at q2
    exact⟨.cells g ro e cs.length 1 [.n 1 0] t',⟨cs,rfl,q2⟩,q1⟩
  | true=>
  rw [hsz,jr] at hk1
  obtain⟨h2,hk⟩:=aF hk1
  rw [jM] at hk
  have hc:=dB.list h2
  rw [gG _ h1,hl] at hc
  exact⟨.cells g ro e cs.length cs.length (eG cs) .lf,⟨cs,rfl,hc⟩,hk⟩
 ·exact⟨.dead,trivial,hk⟩
noncomputable def GS.lay (σ:St):GS→(GS→Bool)→Bool:=List.rec (motive:=fun _=>GS→(GS→Bool)→Bool) (fun s K=>K s) (fun a _ ih s K=>GO.of a fun f=>s.new f fun _ s=>ih s K) σ
theorem GS.zG:∀(σ:St) {s:GS} {jh:St} (_:s.Is jh) {K:GS→Bool} (_:GS.lay σ s K=true),∃s',K s'= true∧s'.Is (jh ++ σ)
 | [],s,jh,h,K,hk=>⟨s,hk,by simpa using h⟩
 | a :: σ,s,jh,h,K,hk=>by
   obtain⟨f,hf,hk2⟩:=GO.of_ok (K:=fun f=>s.new f fun _ s=>GS.lay σ s K) hk
   obtain⟨s1,h1,h2⟩:=GS.rQ h hf hk2
   obtain⟨s2,q1,q2⟩:=GS.zG σ h2 h1
   exact⟨s2,q1,by simpa using q2⟩
def GS.nil:GS:=⟨0,.lf⟩
theorem GS.Io:GS.nil.Is []:=⟨rfl,fun o f h=>by cases h⟩
noncomputable def gTop (T:TF)(d f:Nat)(args:List FV)(σ:St)(K:FV→Bool):Bool:=GS.lay σ GS.nil fun s=>rnN T d f args s fun v _=>K v
theorem MJ {X:Ctx} {G:Nat} {T:TF} (hX:X.Sound G)(hT:T.Ok X) {d f:Nat} {args:List FV} {σ:St} {K:FV→Bool} (hk:gTop T d f args σ K=true) {μ:Mu} {w:World} (hs:fH G μ σ w) {aW:Array Value} (hr:aQ μ w (args.map FV.av) aW.toList) :
 Does X.P f aW w fun e w'=>∃(r:FV) (σ':St),K r=true∧After G μ σ w r.av σ' e w':=by
 obtain⟨s,h1,h2⟩:=GS.zG σ GS.Io hk
 obtain⟨n,v,σ',s',q1,q2,q3⟩:=IV hT d f args s σ _ (by simpa using h2) h1
 exact(b_ok hX n f _ σ _ σ' q1 μ w aW hs hr).mono fun e w' ha=>⟨v,σ',q3,ha⟩
end Go.cO
namespace Go.cO
inductive TB where
 | nil
 | leaf (i:Nat) (bf:BF)
 | node (m:Nat) (l r:TB)
noncomputable def TB.get:TB→Nat→BF:=TB.rec (motive:=fun _=>Nat→BF) (fun _ _ _ _ _ _=>false) (fun i bf n r g K vs s=>bC (Nat.beq i n) (bf r g K vs s) false) (fun m _ _ l r n=>bC (Nat.ble (Nat.succ n) m) (l n) (r n))
def TB.Ok (X:Ctx)(τ:gU)(F:AF):TB→Prop
 | .nil=>True
 | .leaf i bf=>bf.Ok X τ F i
 | .node _ l r=>l.Ok X τ F∧r.Ok X τ F
theorem TB.aP {X:Ctx} {τ:gU} {F:AF} :∀(t:TB) (_:t.Ok X τ F) (i:Nat),(t.get i).Ok X τ F i
 | .nil,_,i=>fun r g K vs s h=>by cases h
 | .leaf j bf,ht,i=>fun r g K vs s h=>by
   obtain⟨h1,h2⟩:=aF h
   rw [←Nat.eq_of_beq_eq_true h1]
   exact ht r g K vs s h2
 | .node m l r,ht,i=>fun r' g K vs s h=>by
   have h':bC (Nat.ble (i+1) m) (l.get i) (r.get i) r' g K vs s=true:=h
   cases hb:Nat.ble (i+1) m with
   | true=>rw [hb,jr] at h';exact TB.aP l ht.1 i r' g K vs s h'
   | false=>rw [hb,iU] at h';exact TB.aP r ht.2 i r' g K vs s h'
noncomputable def u0 (f:GS→Bool)(vs:List FV)(s:GS):Bool:=List.rec (motive:=fun _=>(GS→Bool)→GS→Bool) (fun f s=>f s) (fun _ _ _ _ _=>false) vs f s
theorem u0_ok {f:GS→Bool} {vs:List FV} {s:GS} (h:u0 f vs s=true):vs=[]∧f s=true:=by cases vs with | nil=>exact⟨rfl,h⟩ | cons _ _=>cases h
theorem CP {X:Ctx} {τ:gU} {F:AF} {f:Rn→Go→KS→GS→Bool} (e:∀r g K s,aH X τ F r g [] s K=f r g K s):∀r g args s K,(fun(r:Rn) (g:Go) (args:List FV) (s:GS) (K:KS)=>u0 (f r g K) args s) r g args s K=true→aH X τ F r g args s K=true:=fun r g args s K h=>by obtain⟨rfl,h⟩:=u0_ok (f:=f r g K) h;exact(e r g K s).trans h
noncomputable def u1 (f:FV→GS→Bool)(vs:List FV)(s:GS):Bool:=List.rec (motive:=fun _=>(FV→GS→Bool)→GS→Bool) (fun _ _=>false) (fun a l _ f s=>u0 (f a) l s) vs f s
theorem QG {f:FV→GS→Bool} {vs:List FV} {s:GS} (h:u1 f vs s=true):∃a0,vs=[a0]∧f a0 s=true:=by cases vs with | nil=>cases h | cons a l=>(obtain⟨rfl,h⟩:=u0_ok (show u0 (f a) l s=true from h);exact⟨a,rfl,h⟩)
theorem u1_bf {X:Ctx} {τ:gU} {F:AF} {i:Nat} {f:Rn→Go→KS→FV→GS→Bool} (e:∀r g K a0 s,aU X τ F i r g K [a0] s=f r g K a0 s):BF.Ok X τ F i (fun r g K=>u1 (f r g K)):=fun r g K vs s h=>by obtain⟨a0,rfl,h⟩:=QG h;exact(e r g K a0 s).trans h
theorem dR {X:Ctx} {τ:gU} {F:AF} {f:Rn→Go→KS→FV→GS→Bool} (e:∀r g K a0 s,aH X τ F r g [a0] s K=f r g K a0 s):∀r g args s K,(fun(r:Rn) (g:Go) (args:List FV) (s:GS) (K:KS)=>u1 (f r g K) args s) r g args s K=true→aH X τ F r g args s K=true:=fun r g args s K h=>by obtain⟨a0,rfl,h⟩:=QG (f:=f r g K) h;exact(e r g K a0 s).trans h
noncomputable def u2 (f:FV→FV→GS→Bool)(vs:List FV)(s:GS):Bool:=List.rec (motive:=fun _=>(FV→FV→GS→Bool)→GS→Bool) (fun _ _=>false) (fun a l _ f s=>u1 (f a) l s) vs f s
theorem QH {f:FV→FV→GS→Bool} {vs:List FV} {s:GS} (h:u2 f vs s=true):∃a0 a1,vs=[a0,a1]∧f a0 a1 s=true:=by cases vs with | nil=>cases h | cons a l=>(obtain⟨b0,rfl,h⟩:=QG (show u1 (f a) l s=true from h);exact⟨a,_,rfl,h⟩)
theorem Gm {X:Ctx} {τ:gU} {F:AF} {i:Nat} {f:Rn→Go→KS→FV→FV→GS→Bool} (e:∀r g K a0 a1 s,aU X τ F i r g K [a0,a1] s=f r g K a0 a1 s):BF.Ok X τ F i (fun r g K=>u2 (f r g K)):=fun r g K vs s h=>by obtain⟨a0,a1,rfl,h⟩:=QH h;exact(e r g K a0 a1 s).trans h
theorem dI {X:Ctx} {τ:gU} {F:AF} {f:Rn→Go→KS→FV→FV→GS→Bool} (e:∀r g K a0 a1 s,aH X τ F r g [a0,a1] s K=f r g K a0 a1 s):∀r g args s K,(fun(r:Rn) (g:Go) (args:List FV) (s:GS) (K:KS)=>u2 (f r g K) args s) r g args s K=true→aH X τ F r g args s K=true:=fun r g args s K h=>by obtain⟨a0,a1,rfl,h⟩:=QH (f:=f r g K) h;exact(e r g K a0 a1 s).trans h
noncomputable def u3 (f:FV→FV→FV→GS→Bool)(vs:List FV)(s:GS):Bool:=List.rec (motive:=fun _=>(FV→FV→FV→GS→Bool)→GS→Bool) (fun _ _=>false) (fun a l _ f s=>u2 (f a) l s) vs f s
theorem QI {f:FV→FV→FV→GS→Bool} {vs:List FV} {s:GS} (h:u3 f vs s=true):∃a0 a1 a2,vs=[a0,a1,a2]∧f a0 a1 a2 s=true:=by cases vs with | nil=>cases h | cons a l=>(obtain⟨b0,b1,rfl,h⟩:=QH (show u2 (f a) l s=true from h);exact⟨a,_,_,rfl,h⟩)
theorem lY {X:Ctx} {τ:gU} {F:AF} {i:Nat} {f:Rn→Go→KS→FV→FV→FV→GS→Bool} (e:∀r g K a0 a1 a2 s,aU X τ F i r g K [a0,a1,a2] s=f r g K a0 a1 a2 s):BF.Ok X τ F i (fun r g K=>u3 (f r g K)):=fun r g K vs s h=>by obtain⟨a0,a1,a2,rfl,h⟩:=QI h;exact(e r g K a0 a1 a2 s).trans h
theorem jK {X:Ctx} {τ:gU} {F:AF} {f:Rn→Go→KS→FV→FV→FV→GS→Bool} (e:∀r g K a0 a1 a2 s,aH X τ F r g [a0,a1,a2] s K=f r g K a0 a1 a2 s):∀r g args s K,(fun(r:Rn) (g:Go) (args:List FV) (s:GS) (K:KS)=>u3 (f r g K) args s) r g args s K=true→aH X τ F r g args s K=true:=fun r g args s K h=>by obtain⟨a0,a1,a2,rfl,h⟩:=QI (f:=f r g K) h;exact(e r g K a0 a1 a2 s).trans h
noncomputable def u4 (f:FV→FV→FV→FV→GS→Bool)(vs:List FV)(s:GS):Bool:=List.rec (motive:=fun _=>(FV→FV→FV→FV→GS→Bool)→GS→Bool) (fun _ _=>false) (fun a l _ f s=>u3 (f a) l s) vs f s
theorem QJ {f:FV→FV→FV→FV→GS→Bool} {vs:List FV} {s:GS} (h:u4 f vs s=true):∃a0 a1 a2 a3,vs=[a0,a1,a2,a3]∧f a0 a1 a2 a3 s=true:=by cases vs with | nil=>cases h | cons a l=>(obtain⟨b0,b1,b2,rfl,h⟩:=QI (show u3 (f a) l s=true from h);exact⟨a,_,_,_,rfl,h⟩)
theorem qx {X:Ctx} {τ:gU} {F:AF} {i:Nat} {f:Rn→Go→KS→FV→FV→FV→FV→GS→Bool} (e:∀r g K a0 a1 a2 a3 s,aU X τ F i r g K [a0,a1,a2,a3] s=f r g K a0 a1 a2 a3 s):BF.Ok X τ F i (fun r g K=>u4 (f r g K)):=fun r g K vs s h=>by obtain⟨a0,a1,a2,a3,rfl,h⟩:=QJ h;exact(e r g K a0 a1 a2 a3 s).trans h
theorem uN {X:Ctx} {τ:gU} {F:AF} {f:Rn→Go→KS→FV→FV→FV→FV→GS→Bool} (e:∀r g K a0 a1 a2 a3 s,aH X τ F r g [a0,a1,a2,a3] s K=f r g K a0 a1 a2 a3 s):∀r g args s K,(fun(r:Rn) (g:Go) (args:List FV) (s:GS) (K:KS)=>u4 (f r g K) args s) r g args s K=true→aH X τ F r g args s K=true:=fun r g args s K h=>by obtain⟨a0,a1,a2,a3,rfl,h⟩:=QJ (f:=f r g K) h;exact(e r g K a0 a1 a2 a3 s).trans h
noncomputable def u5 (f:FV→FV→FV→FV→FV→GS→Bool)(vs:List FV)(s:GS):Bool:=List.rec (motive:=fun _=>(FV→FV→FV→FV→FV→GS→Bool)→GS→Bool) (fun _ _=>false) (fun a l _ f s=>u4 (f a) l s) vs f s
theorem QK {f:FV→FV→FV→FV→FV→GS→Bool} {vs:List FV} {s:GS} (h:u5 f vs s=true):∃a0 a1 a2 a3 a4,vs=[a0,a1,a2,a3,a4]∧f a0 a1 a2 a3 a4 s=true:=by cases vs with | nil=>cases h | cons a l=>(obtain⟨b0,b1,b2,b3,rfl,h⟩:=QJ (show u4 (f a) l s=true from h);exact⟨a,_,_,_,_,rfl,h⟩)
theorem kE {X:Ctx} {τ:gU} {F:AF} {i:Nat} {f:Rn→Go→KS→FV→FV→FV→FV→FV→GS→Bool} (e:∀r g K a0 a1 a2 a3 a4 s,aU X τ F i r g K [a0,a1,a2,a3,a4] s=f r g K a0 a1 a2 a3 a4 s):BF.Ok X τ F i (fun r g K=>u5 (f r g K)):=fun r g K vs s h=>by obtain⟨a0,a1,a2,a3,a4,rfl,h⟩:=QK h;exact(e r g K a0 a1 a2 a3 a4 s).trans h
theorem QL {X:Ctx} {τ:gU} {F:AF} {f:Rn→Go→KS→FV→FV→FV→FV→FV→GS→Bool} (e:∀r g K a0 a1 a2 a3 a4 s,aH X τ F r g [a0,a1,a2,a3,a4] s K=f r g K a0 a1 a2 a3 a4 s):∀r g args s K,(fun(r:Rn) (g:Go) (args:List FV) (s:GS) (K:KS)=>u5 (f r g K) args s) r g args s K=true→aH X τ F r g args s K=true:=fun r g args s K h=>by obtain⟨a0,a1,a2,a3,a4,rfl,h⟩:=QK (f:=f r g K) h;exact(e r g K a0 a1 a2 a3 a4 s).trans h
noncomputable def u6 (f:FV→FV→FV→FV→FV→FV→GS→Bool)(vs:List FV)(s:GS):Bool:=List.rec (motive:=fun _=>(FV→FV→FV→FV→FV→FV→GS→Bool)→GS→Bool) (fun _ _=>false) (fun a l _ f s=>u5 (f a) l s) vs f s
theorem QM {f:FV→FV→FV→FV→FV→FV→GS→Bool} {vs:List FV} {s:GS} (h:u6 f vs s=true):∃a0 a1 a2 a3 a4 a5,vs=[a0,a1,a2,a3,a4,a5]∧f a0 a1 a2 a3 a4 a5 s=true:=by cases vs with | nil=>cases h | cons a l=>(obtain⟨b0,b1,b2,b3,b4,rfl,h⟩:=QK (show u5 (f a) l s=true from h);exact⟨a,_,_,_,_,_,rfl,h⟩)
theorem oh {X:Ctx} {τ:gU} {F:AF} {i:Nat} {f:Rn→Go→KS→FV→FV→FV→FV→FV→FV→GS→Bool} (e:∀r g K a0 a1 a2 a3 a4 a5 s,aU X τ F i r g K [a0,a1,a2,a3,a4,a5] s=f r g K a0 a1 a2 a3 a4 a5 s):BF.Ok X τ F i (fun r g K=>u6 (f r g K)):=fun r g K vs s h=>by obtain⟨a0,a1,a2,a3,a4,a5,rfl,h⟩:=QM h;exact(e r g K a0 a1 a2 a3 a4 a5 s).trans h
theorem u6_en {X:Ctx} {τ:gU} {F:AF} {f:Rn→Go→KS→FV→FV→FV→FV→FV→FV→GS→Bool} (e:∀r g K a0 a1 a2 a3 a4 a5 s,aH X τ F r g [a0,a1,a2,a3,a4,a5] s K=f r g K a0 a1 a2 a3 a4 a5 s):∀r g args s K,(fun(r:Rn) (g:Go) (args:List FV) (s:GS) (K:KS)=>u6 (f r g K) args s) r g args s K=true→aH X τ F r g args s K=true:=fun r g args s K h=>by obtain⟨a0,a1,a2,a3,a4,a5,rfl,h⟩:=QM (f:=f r g K) h;exact(e r g K a0 a1 a2 a3 a4 a5 s).trans h
noncomputable def u7 (f:FV→FV→FV→FV→FV→FV→FV→GS→Bool)(vs:List FV)(s:GS):Bool:=List.rec (motive:=fun _=>(FV→FV→FV→FV→FV→FV→FV→GS→Bool)→GS→Bool) (fun _ _=>false) (fun a l _ f s=>u6 (f a) l s) vs f s
theorem u7_ok {f:FV→FV→FV→FV→FV→FV→FV→GS→Bool} {vs:List FV} {s:GS} (h:u7 f vs s=true):∃a0 a1 a2 a3 a4 a5 a6,vs=[a0,a1,a2,a3,a4,a5,a6]∧f a0 a1 a2 a3 a4 a5 a6 s=true:=by cases vs with | nil=>cases h | cons a l=>(obtain⟨b0,b1,b2,b3,b4,b5,rfl,h⟩:=QM (show u6 (f a) l s=true from h);exact⟨a,_,_,_,_,_,_,rfl,h⟩)
theorem Ac {X:Ctx} {τ:gU} {F:AF} {i:Nat} {f:Rn→Go→KS→FV→FV→FV→FV→FV→FV→FV→GS→Bool} (e:∀r g K a0 a1 a2 a3 a4 a5 a6 s,aU X τ F i r g K [a0,a1,a2,a3,a4,a5,a6] s=f r g K a0 a1 a2 a3 a4 a5 a6 s):BF.Ok X τ F i (fun r g K=>u7 (f r g K)):=fun r g K vs s h=>by obtain⟨a0,a1,a2,a3,a4,a5,a6,rfl,h⟩:=u7_ok h;exact(e r g K a0 a1 a2 a3 a4 a5 a6 s).trans h
noncomputable def u8 (f:FV→FV→FV→FV→FV→FV→FV→FV→GS→Bool)(vs:List FV)(s:GS):Bool:=List.rec (motive:=fun _=>(FV→FV→FV→FV→FV→FV→FV→FV→GS→Bool)→GS→Bool) (fun _ _=>false) (fun a l _ f s=>u7 (f a) l s) vs f s
theorem u8_ok {f:FV→FV→FV→FV→FV→FV→FV→FV→GS→Bool} {vs:List FV} {s:GS} (h:u8 f vs s=true):∃a0 a1 a2 a3 a4 a5 a6 a7,vs=[a0,a1,a2,a3,a4,a5,a6,a7]∧f a0 a1 a2 a3 a4 a5 a6 a7 s=true:=by cases vs with | nil=>cases h | cons a l=>(obtain⟨b0,b1,b2,b3,b4,b5,b6,rfl,h⟩:=u7_ok (show u7 (f a) l s=true from h);exact⟨a,_,_,_,_,_,_,_,rfl,h⟩)
theorem u8_bf {X:Ctx} {τ:gU} {F:AF} {i:Nat} {f:Rn→Go→KS→FV→FV→FV→FV→FV→FV→FV→FV→GS→Bool} (e:∀r g K a0 a1 a2 a3 a4 a5 a6 a7 s,aU X τ F i r g K [a0,a1,a2,a3,a4,a5,a6,a7] s=f r g K a0 a1 a2 a3 a4 a5 a6 a7 s):BF.Ok X τ F i (fun r g K=>u8 (f r g K)):=fun r g K vs s h=>by obtain⟨a0,a1,a2,a3,a4,a5,a6,a7,rfl,h⟩:=u8_ok h;exact(e r g K a0 a1 a2 a3 a4 a5 a6 a7 s).trans h
noncomputable def u9 (f:FV→FV→FV→FV→FV→FV→FV→FV→FV→GS→Bool)(vs:List FV)(s:GS):Bool:=List.rec (motive:=fun _=>(FV→FV→FV→FV→FV→FV→FV→FV→FV→GS→Bool)→GS→Bool) (fun _ _=>false) (fun a l _ f s=>u8 (f a) l s) vs f s
theorem u9_ok {f:FV→FV→FV→FV→FV→FV→FV→FV→FV→GS→Bool} {vs:List FV} {s:GS} (h:u9 f vs s=true):∃a0 a1 a2 a3 a4 a5 a6 a7 a8,vs=[a0,a1,a2,a3,a4,a5,a6,a7,a8]∧f a0 a1 a2 a3 a4 a5 a6 a7 a8 s=true:=by cases vs with | nil=>cases h | cons a l=>(obtain⟨b0,b1,b2,b3,b4,b5,b6,b7,rfl,h⟩:=u8_ok (show u8 (f a) l s=true from h);exact⟨a,_,_,_,_,_,_,_,_,rfl,h⟩)
theorem Ad {X:Ctx} {τ:gU} {F:AF} {i:Nat} {f:Rn→Go→KS→FV→FV→FV→FV→FV→FV→FV→FV→FV→GS→Bool} (e:∀r g K a0 a1 a2 a3 a4 a5 a6 a7 a8 s,aU X τ F i r g K [a0,a1,a2,a3,a4,a5,a6,a7,a8] s=f r g K a0 a1 a2 a3 a4 a5 a6 a7 a8 s):BF.Ok X τ F i (fun r g K=>u9 (f r g K)):=fun r g K vs s h=>by obtain⟨a0,a1,a2,a3,a4,a5,a6,a7,a8,rfl,h⟩:=u9_ok h;exact(e r g K a0 a1 a2 a3 a4 a5 a6 a7 a8 s).trans h
noncomputable def u10 (f:FV→FV→FV→FV→FV→FV→FV→FV→FV→FV→GS→Bool)(vs:List FV)(s:GS):Bool:=List.rec (motive:=fun _=>(FV→FV→FV→FV→FV→FV→FV→FV→FV→FV→GS→Bool)→GS→Bool) (fun _ _=>false) (fun a l _ f s=>u9 (f a) l s) vs f s
theorem QN {f:FV→FV→FV→FV→FV→FV→FV→FV→FV→FV→GS→Bool} {vs:List FV} {s:GS} (h:u10 f vs s=true):∃a0 a1 a2 a3 a4 a5 a6 a7 a8 a9,vs=[a0,a1,a2,a3,a4,a5,a6,a7,a8,a9]∧f a0 a1 a2 a3 a4 a5 a6 a7 a8 a9 s=true:=by cases vs with | nil=>cases h | cons a l=>(obtain⟨b0,b1,b2,b3,b4,b5,b6,b7,b8,rfl,h⟩:=u9_ok (show u9 (f a) l s=true from h);exact⟨a,_,_,_,_,_,_,_,_,_,rfl,h⟩)
theorem QO {X:Ctx} {τ:gU} {F:AF} {i:Nat} {f:Rn→Go→KS→FV→FV→FV→FV→FV→FV→FV→FV→FV→FV→GS→Bool} (e:∀r g K a0 a1 a2 a3 a4 a5 a6 a7 a8 a9 s,aU X τ F i r g K [a0,a1,a2,a3,a4,a5,a6,a7,a8,a9] s=f r g K a0 a1 a2 a3 a4 a5 a6 a7 a8 a9 s):BF.Ok X τ F i (fun r g K=>u10 (f r g K)):=fun r g K vs s h=>by obtain⟨a0,a1,a2,a3,a4,a5,a6,a7,a8,a9,rfl,h⟩:=QN h;exact(e r g K a0 a1 a2 a3 a4 a5 a6 a7 a8 a9 s).trans h
noncomputable def u11 (f:FV→FV→FV→FV→FV→FV→FV→FV→FV→FV→FV→GS→Bool)(vs:List FV)(s:GS):Bool:=List.rec (motive:=fun _=>(FV→FV→FV→FV→FV→FV→FV→FV→FV→FV→FV→GS→Bool)→GS→Bool) (fun _ _=>false) (fun a l _ f s=>u10 (f a) l s) vs f s
theorem u11_ok {f:FV→FV→FV→FV→FV→FV→FV→FV→FV→FV→FV→GS→Bool} {vs:List FV} {s:GS} (h:u11 f vs s=true):∃a0 a1 a2 a3 a4 a5 a6 a7 a8 a9 a10,vs=[a0,a1,a2,a3,a4,a5,a6,a7,a8,a9,a10]∧f a0 a1 a2 a3 a4 a5 a6 a7 a8 a9 a10 s=true:=by cases vs with | nil=>cases h | cons a l=>(obtain⟨b0,b1,b2,b3,b4,b5,b6,b7,b8,b9,rfl,h⟩:=QN (show u10 (f a) l s=true from h);exact⟨a,_,_,_,_,_,_,_,_,_,_,rfl,h⟩)
noncomputable def u12 (f:FV→FV→FV→FV→FV→FV→FV→FV→FV→FV→FV→FV→GS→Bool)(vs:List FV)(s:GS):Bool:=List.rec (motive:=fun _=>(FV→FV→FV→FV→FV→FV→FV→FV→FV→FV→FV→FV→GS→Bool)→GS→Bool) (fun _ _=>false) (fun a l _ f s=>u11 (f a) l s) vs f s
theorem u12_ok {f:FV→FV→FV→FV→FV→FV→FV→FV→FV→FV→FV→FV→GS→Bool} {vs:List FV} {s:GS} (h:u12 f vs s=true):∃a0 a1 a2 a3 a4 a5 a6 a7 a8 a9 a10 a11,vs=[a0,a1,a2,a3,a4,a5,a6,a7,a8,a9,a10,a11]∧f a0 a1 a2 a3 a4 a5 a6 a7 a8 a9 a10 a11 s=true:=by cases vs with | nil=>cases h | cons a l=>(obtain⟨b0,b1,b2,b3,b4,b5,b6,b7,b8,b9,b10,rfl,h⟩:=u11_ok (show u11 (f a) l s=true from h);exact⟨a,_,_,_,_,_,_,_,_,_,_,_,rfl,h⟩)
noncomputable def u13 (f:FV→FV→FV→FV→FV→FV→FV→FV→FV→FV→FV→FV→FV→GS→Bool)(vs:List FV)(s:GS):Bool:=List.rec (motive:=fun _=>(FV→FV→FV→FV→FV→FV→FV→FV→FV→FV→FV→FV→FV→GS→Bool)→GS→Bool) (fun _ _=>false) (fun a l _ f s=>u12 (f a) l s) vs f s
theorem u13_ok {f:FV→FV→FV→FV→FV→FV→FV→FV→FV→FV→FV→FV→FV→GS→Bool} {vs:List FV} {s:GS} (h:u13 f vs s=true):∃a0 a1 a2 a3 a4 a5 a6 a7 a8 a9 a10 a11 a12,vs=[a0,a1,a2,a3,a4,a5,a6,a7,a8,a9,a10,a11,a12]∧f a0 a1 a2 a3 a4 a5 a6 a7 a8 a9 a10 a11 a12 s=true:=by cases vs with | nil=>cases h | cons a l=>(obtain⟨b0,b1,b2,b3,b4,b5,b6,b7,b8,b9,b10,b11,rfl,h⟩:=u12_ok (show u12 (f a) l s=true from h);exact⟨a,_,_,_,_,_,_,_,_,_,_,_,_,rfl,h⟩)
noncomputable def u14 (f:FV→FV→FV→FV→FV→FV→FV→FV→FV→FV→FV→FV→FV→FV→GS→Bool)(vs:List FV)(s:GS):Bool:=List.rec (motive:=fun _=>(FV→FV→FV→FV→FV→FV→FV→FV→FV→FV→FV→FV→FV→FV→GS→Bool)→GS→Bool) (fun _ _=>false) (fun a l _ f s=>u13 (f a) l s) vs f s
theorem u14_ok {f:FV→FV→FV→FV→FV→FV→FV→FV→FV→FV→FV→FV→FV→FV→GS→Bool} {vs:List FV} {s:GS} (h:u14 f vs s=true):∃a0 a1 a2 a3 a4 a5 a6 a7 a8 a9 a10 a11 a12 yc,vs=[a0,a1,a2,a3,a4,a5,a6,a7,a8,a9,a10,a11,a12,yc]∧f a0 a1 a2 a3 a4 a5 a6 a7 a8 a9 a10 a11 a12 yc s=true:=by cases vs with | nil=>cases h | cons a l=>(obtain⟨b0,b1,b2,b3,b4,b5,b6,b7,b8,b9,b10,b11,b12,rfl,h⟩:=u13_ok (show u13 (f a) l s=true from h);exact⟨a,_,_,_,_,_,_,_,_,_,_,_,_,_,rfl,h⟩)
noncomputable def u15 (f:FV→FV→FV→FV→FV→FV→FV→FV→FV→FV→FV→FV→FV→FV→FV→GS→Bool)(vs:List FV)(s:GS):Bool:=List.rec (motive:=fun _=>(FV→FV→FV→FV→FV→FV→FV→FV→FV→FV→FV→FV→FV→FV→FV→GS→Bool)→GS→Bool) (fun _ _=>false) (fun a l _ f s=>u14 (f a) l s) vs f s
theorem QS {f:FV→FV→FV→FV→FV→FV→FV→FV→FV→FV→FV→FV→FV→FV→FV→GS→Bool} {vs:List FV} {s:GS} (h:u15 f vs s=true):∃a0 a1 a2 a3 a4 a5 a6 a7 a8 a9 a10 a11 a12 yc AU,vs=[a0,a1,a2,a3,a4,a5,a6,a7,a8,a9,a10,a11,a12,yc,AU]∧f a0 a1 a2 a3 a4 a5 a6 a7 a8 a9 a10 a11 a12 yc AU s=true:=by cases vs with | nil=>cases h | cons a l=>(obtain⟨b0,b1,b2,b3,b4,b5,b6,b7,b8,b9,b10,b11,b12,b13,rfl,h⟩:=u14_ok (show u14 (f a) l s=true from h);exact⟨a,_,_,_,_,_,_,_,_,_,_,_,_,_,_,rfl,h⟩)
theorem u15_bf {X:Ctx} {τ:gU} {F:AF} {i:Nat} {f:Rn→Go→KS→FV→FV→FV→FV→FV→FV→FV→FV→FV→FV→FV→FV→FV→FV→FV→GS→Bool} (e:∀r g K a0 a1 a2 a3 a4 a5 a6 a7 a8 a9 a10 a11 a12 yc AU s,aU X τ F i r g K [a0,a1,a2,a3,a4,a5,a6,a7,a8,a9,a10,a11,a12,yc,AU] s=f r g K a0 a1 a2 a3 a4 a5 a6 a7 a8 a9 a10 a11 a12 yc AU s):BF.Ok X τ F i (fun r g K=>u15 (f r g K)):=fun r g K vs s h=>by obtain⟨a0,a1,a2,a3,a4,a5,a6,a7,a8,a9,a10,a11,a12,yc,AU,rfl,h⟩:=QS h;exact(e r g K a0 a1 a2 a3 a4 a5 a6 a7 a8 a9 a10 a11 a12 yc AU s).trans h
noncomputable def u16 (f:FV→FV→FV→FV→FV→FV→FV→FV→FV→FV→FV→FV→FV→FV→FV→FV→GS→Bool)(vs:List FV)(s:GS):Bool:=List.rec (motive:=fun _=>(FV→FV→FV→FV→FV→FV→FV→FV→FV→FV→FV→FV→FV→FV→FV→FV→GS→Bool)→GS→Bool) (fun _ _=>false) (fun a l _ f s=>u15 (f a) l s) vs f s
theorem u16_ok {f:FV→FV→FV→FV→FV→FV→FV→FV→FV→FV→FV→FV→FV→FV→FV→FV→GS→Bool} {vs:List FV} {s:GS} (h:u16 f vs s=true):∃a0 a1 a2 a3 a4 a5 a6 a7 a8 a9 a10 a11 a12 yc AU MK,vs=[a0,a1,a2,a3,a4,a5,a6,a7,a8,a9,a10,a11,a12,yc,AU,MK]∧f a0 a1 a2 a3 a4 a5 a6 a7 a8 a9 a10 a11 a12 yc AU MK s=true:=by cases vs with | nil=>cases h | cons a l=>(obtain⟨b0,b1,b2,b3,b4,b5,b6,b7,b8,b9,b10,b11,b12,b13,b14,rfl,h⟩:=QS (show u15 (f a) l s=true from h);exact⟨a,_,_,_,_,_,_,_,_,_,_,_,_,_,_,_,rfl,h⟩)
noncomputable def u17 (f:FV→FV→FV→FV→FV→FV→FV→FV→FV→FV→FV→FV→FV→FV→FV→FV→FV→GS→Bool)(vs:List FV)(s:GS):Bool:=List.rec (motive:=fun _=>(FV→FV→FV→FV→FV→FV→FV→FV→FV→FV→FV→FV→FV→FV→FV→FV→FV→GS→Bool)→GS→Bool) (fun _ _=>false) (fun a l _ f s=>u16 (f a) l s) vs f s
theorem u17_ok {f:FV→FV→FV→FV→FV→FV→FV→FV→FV→FV→FV→FV→FV→FV→FV→FV→FV→GS→Bool} {vs:List FV} {s:GS} (h:u17 f vs s=true):∃a0 a1 a2 a3 a4 a5 a6 a7 a8 a9 a10 a11 a12 yc AU MK a16,vs=[a0,a1,a2,a3,a4,a5,a6,a7,a8,a9,a10,a11,a12,yc,AU,MK,a16]∧f a0 a1 a2 a3 a4 a5 a6 a7 a8 a9 a10 a11 a12 yc AU MK a16 s=true:=by cases vs with | nil=>cases h | cons a l=>(obtain⟨b0,b1,b2,b3,b4,b5,b6,b7,b8,b9,b10,b11,b12,b13,b14,b15,rfl,h⟩:=u16_ok (show u16 (f a) l s=true from h);exact⟨a,_,_,_,_,_,_,_,_,_,_,_,_,_,_,_,_,rfl,h⟩)
noncomputable def u18 (f:FV→FV→FV→FV→FV→FV→FV→FV→FV→FV→FV→FV→FV→FV→FV→FV→FV→FV→GS→Bool)(vs:List FV)(s:GS):Bool:=List.rec (motive:=fun _=>(FV→FV→FV→FV→FV→FV→FV→FV→FV→FV→FV→FV→FV→FV→FV→FV→FV→FV→GS→Bool)→GS→Bool) (fun _ _=>false) (fun a l _ f s=>u17 (f a) l s) vs f s
theorem u18_ok {f:FV→FV→FV→FV→FV→FV→FV→FV→FV→FV→FV→FV→FV→FV→FV→FV→FV→FV→GS→Bool} {vs:List FV} {s:GS} (h:u18 f vs s=true):∃a0 a1 a2 a3 a4 a5 a6 a7 a8 a9 a10 a11 a12 yc AU MK a16 a17,vs=[a0,a1,a2,a3,a4,a5,a6,a7,a8,a9,a10,a11,a12,yc,AU,MK,a16,a17]∧f a0 a1 a2 a3 a4 a5 a6 a7 a8 a9 a10 a11 a12 yc AU MK a16 a17 s=true:=by cases vs with | nil=>cases h | cons a l=>(obtain⟨b0,b1,b2,b3,b4,b5,b6,b7,b8,b9,b10,b11,b12,b13,b14,b15,b16,rfl,h⟩:=u17_ok (show u17 (f a) l s=true from h);exact⟨a,_,_,_,_,_,_,_,_,_,_,_,_,_,_,_,_,_,rfl,h⟩)
theorem u18_bf {X:Ctx} {τ:gU} {F:AF} {i:Nat} {f:Rn→Go→KS→FV→FV→FV→FV→FV→FV→FV→FV→FV→FV→FV→FV→FV→FV→FV→FV→FV→FV→GS→Bool} (e:∀r g K a0 a1 a2 a3 a4 a5 a6 a7 a8 a9 a10 a11 a12 yc AU MK a16 a17 s,aU X τ F i r g K [a0,a1,a2,a3,a4,a5,a6,a7,a8,a9,a10,a11,a12,yc,AU,MK,a16,a17] s=f r g K a0 a1 a2 a3 a4 a5 a6 a7 a8 a9 a10 a11 a12 yc AU MK a16 a17 s):BF.Ok X τ F i (fun r g K=>u18 (f r g K)):=fun r g K vs s h=>by obtain⟨a0,a1,a2,a3,a4,a5,a6,a7,a8,a9,a10,a11,a12,yc,AU,MK,a16,a17,rfl,h⟩:=u18_ok h;exact(e r g K a0 a1 a2 a3 a4 a5 a6 a7 a8 a9 a10 a11 a12 yc AU MK a16 a17 s).trans h
noncomputable def u19 (f:FV→FV→FV→FV→FV→FV→FV→FV→FV→FV→FV→FV→FV→FV→FV→FV→FV→FV→FV→GS→Bool)(vs:List FV)(s:GS):Bool:=List.rec (motive:=fun _=>(FV→FV→FV→FV→FV→FV→FV→FV→FV→FV→FV→FV→FV→FV→FV→FV→FV→FV→FV→GS→Bool)→GS→Bool) (fun _ _=>false) (fun a l _ f s=>u18 (f a) l s) vs f s
noncomputable def u20 (f:FV→FV→FV→FV→FV→FV→FV→FV→FV→FV→FV→FV→FV→FV→FV→FV→FV→FV→FV→FV→GS→Bool)(vs:List FV)(s:GS):Bool:=List.rec (motive:=fun _=>(FV→FV→FV→FV→FV→FV→FV→FV→FV→FV→FV→FV→FV→FV→FV→FV→FV→FV→FV→FV→GS→Bool)→GS→Bool) (fun _ _=>false) (fun a l _ f s=>u19 (f a) l s) vs f s
noncomputable def u21 (f:FV→FV→FV→FV→FV→FV→FV→FV→FV→FV→FV→FV→FV→FV→FV→FV→FV→FV→FV→FV→FV→GS→Bool)(vs:List FV)(s:GS):Bool:=List.rec (motive:=fun _=>(FV→FV→FV→FV→FV→FV→FV→FV→FV→FV→FV→FV→FV→FV→FV→FV→FV→FV→FV→FV→FV→GS→Bool)→GS→Bool) (fun _ _=>false) (fun a l _ f s=>u20 (f a) l s) vs f s
noncomputable def u22 (f:FV→FV→FV→FV→FV→FV→FV→FV→FV→FV→FV→FV→FV→FV→FV→FV→FV→FV→FV→FV→FV→FV→GS→Bool)(vs:List FV)(s:GS):Bool:=List.rec (motive:=fun _=>(FV→FV→FV→FV→FV→FV→FV→FV→FV→FV→FV→FV→FV→FV→FV→FV→FV→FV→FV→FV→FV→FV→GS→Bool)→GS→Bool) (fun _ _=>false) (fun a l _ f s=>u21 (f a) l s) vs f s
noncomputable def u23 (f:FV→FV→FV→FV→FV→FV→FV→FV→FV→FV→FV→FV→FV→FV→FV→FV→FV→FV→FV→FV→FV→FV→FV→GS→Bool)(vs:List FV)(s:GS):Bool:=List.rec (motive:=fun _=>(FV→FV→FV→FV→FV→FV→FV→FV→FV→FV→FV→FV→FV→FV→FV→FV→FV→FV→FV→FV→FV→FV→FV→GS→Bool)→GS→Bool) (fun _ _=>false) (fun a l _ f s=>u22 (f a) l s) vs f s
noncomputable def u24 (f:FV→FV→FV→FV→FV→FV→FV→FV→FV→FV→FV→FV→FV→FV→FV→FV→FV→FV→FV→FV→FV→FV→FV→FV→GS→Bool)(vs:List FV)(s:GS):Bool:=List.rec (motive:=fun _=>(FV→FV→FV→FV→FV→FV→FV→FV→FV→FV→FV→FV→FV→FV→FV→FV→FV→FV→FV→FV→FV→FV→FV→FV→GS→Bool)→GS→Bool) (fun _ _=>false) (fun a l _ f s=>u23 (f a) l s) vs f s
noncomputable def u25 (f:FV→FV→FV→FV→FV→FV→FV→FV→FV→FV→FV→FV→FV→FV→FV→FV→FV→FV→FV→FV→FV→FV→FV→FV→FV→GS→Bool)(vs:List FV)(s:GS):Bool:=List.rec (motive:=fun _=>(FV→FV→FV→FV→FV→FV→FV→FV→FV→FV→FV→FV→FV→FV→FV→FV→FV→FV→FV→FV→FV→FV→FV→FV→FV→GS→Bool)→GS→Bool) (fun _ _=>false) (fun a l _ f s=>u24 (f a) l s) vs f s
noncomputable def u26 (f:FV→FV→FV→FV→FV→FV→FV→FV→FV→FV→FV→FV→FV→FV→FV→FV→FV→FV→FV→FV→FV→FV→FV→FV→FV→FV→GS→Bool)(vs:List FV)(s:GS):Bool:=List.rec (motive:=fun _=>(FV→FV→FV→FV→FV→FV→FV→FV→FV→FV→FV→FV→FV→FV→FV→FV→FV→FV→FV→FV→FV→FV→FV→FV→FV→FV→GS→Bool)→GS→Bool) (fun _ _=>false) (fun a l _ f s=>u25 (f a) l s) vs f s
noncomputable def u27 (f:FV→FV→FV→FV→FV→FV→FV→FV→FV→FV→FV→FV→FV→FV→FV→FV→FV→FV→FV→FV→FV→FV→FV→FV→FV→FV→FV→GS→Bool)(vs:List FV)(s:GS):Bool:=List.rec (motive:=fun _=>(FV→FV→FV→FV→FV→FV→FV→FV→FV→FV→FV→FV→FV→FV→FV→FV→FV→FV→FV→FV→FV→FV→FV→FV→FV→FV→FV→GS→Bool)→GS→Bool) (fun _ _=>false) (fun a l _ f s=>u26 (f a) l s) vs f s
noncomputable def u28 (f:FV→FV→FV→FV→FV→FV→FV→FV→FV→FV→FV→FV→FV→FV→FV→FV→FV→FV→FV→FV→FV→FV→FV→FV→FV→FV→FV→FV→GS→Bool)(vs:List FV)(s:GS):Bool:=List.rec (motive:=fun _=>(FV→FV→FV→FV→FV→FV→FV→FV→FV→FV→FV→FV→FV→FV→FV→FV→FV→FV→FV→FV→FV→FV→FV→FV→FV→FV→FV→FV→GS→Bool)→GS→Bool) (fun _ _=>false) (fun a l _ f s=>u27 (f a) l s) vs f s
noncomputable def u29 (f:FV→FV→FV→FV→FV→FV→FV→FV→FV→FV→FV→FV→FV→FV→FV→FV→FV→FV→FV→FV→FV→FV→FV→FV→FV→FV→FV→FV→FV→GS→Bool)(vs:List FV)(s:GS):Bool:=List.rec (motive:=fun _=>(FV→FV→FV→FV→FV→FV→FV→FV→FV→FV→FV→FV→FV→FV→FV→FV→FV→FV→FV→FV→FV→FV→FV→FV→FV→FV→FV→FV→FV→GS→Bool)→GS→Bool) (fun _ _=>false) (fun a l _ f s=>u28 (f a) l s) vs f s
noncomputable def u30 (f:FV→FV→FV→FV→FV→FV→FV→FV→FV→FV→FV→FV→FV→FV→FV→FV→FV→FV→FV→FV→FV→FV→FV→FV→FV→FV→FV→FV→FV→FV→GS→Bool)(vs:List FV)(s:GS):Bool:=List.rec (motive:=fun _=>(FV→FV→FV→FV→FV→FV→FV→FV→FV→FV→FV→FV→FV→FV→FV→FV→FV→FV→FV→FV→FV→FV→FV→FV→FV→FV→FV→FV→FV→FV→GS→Bool)→GS→Bool) (fun _ _=>false) (fun a l _ f s=>u29 (f a) l s) vs f s
noncomputable def u31 (f:FV→FV→FV→FV→FV→FV→FV→FV→FV→FV→FV→FV→FV→FV→FV→FV→FV→FV→FV→FV→FV→FV→FV→FV→FV→FV→FV→FV→FV→FV→FV→GS→Bool)(vs:List FV)(s:GS):Bool:=List.rec (motive:=fun _=>(FV→FV→FV→FV→FV→FV→FV→FV→FV→FV→FV→FV→FV→FV→FV→FV→FV→FV→FV→FV→FV→FV→FV→FV→FV→FV→FV→FV→FV→FV→FV→GS→Bool)→GS→Bool) (fun _ _=>false) (fun a l _ f s=>u30 (f a) l s) vs f s
noncomputable def u32 (f:FV→FV→FV→FV→FV→FV→FV→FV→FV→FV→FV→FV→FV→FV→FV→FV→FV→FV→FV→FV→FV→FV→FV→FV→FV→FV→FV→FV→FV→FV→FV→FV→GS→Bool)(vs:List FV)(s:GS):Bool:=List.rec (motive:=fun _=>(FV→FV→FV→FV→FV→FV→FV→FV→FV→FV→FV→FV→FV→FV→FV→FV→FV→FV→FV→FV→FV→FV→FV→FV→FV→FV→FV→FV→FV→FV→FV→FV→GS→Bool)→GS→Bool) (fun _ _=>false) (fun a l _ f s=>u31 (f a) l s) vs f s
end Go.cO
namespace Go.cO.YtnbdedokjfpckaaGreatDoor
open Go.Proofs
theorem uO {X:Ctx} {f:Nat} {p:List AV→St→Option (AV×St)} (hp:X.lD f=some p) {args:List FV} {σ:St} {K:KS} (h:Vf (p (args.map FV.av) σ) K):∃n,Vf (bFn X n f (args.map FV.av) σ) K:=by
 refine⟨1,?_⟩
 simp only [bFn,hp]
 exact h
theorem av_u8 (c:Nat):FV.av (.n 512 c)= .i .u8 (c%256:Nat):=by
 have hx:c%256<256:=Nat.mod_lt _ (by omega)
 rw [FV.AQ,show (512:Nat)=tg .u8 from rfl,jG,←kC .u8 c,show c%2^IntKind.u8.bits=c%256 from rfl,wrap_small .u8 (by simp only [IntKind.signed,IntKind.bits,if_false,Bool.false_eq_true];omega)]
noncomputable def qy:FE:=fun _ args s K=>match args with
 | [.s n v,.n t c]=>bC (Nat.beq t (nat_lit 512)) (dQ (some (.i .i64 (Lib.indexByte (fD n v) (Nat.mod c (nat_lit 256)).toUInt8))) fun r=>K r s) false
 | _=>false
theorem Ae:qy.Ok XB 224:=by
 intro run hr args s σ K h hk
 refine uO (p:=lM) (by kernel_rfl) ?_
 unfold qy at hk
 split at hk
 ·rename_i n v t c
  obtain⟨h1,h2⟩:=aF hk
  have h1:t=512:=Nat.eq_of_beq_eq_true h1
  subst h1
  obtain⟨r,h3,h4⟩:=og h2
  refine⟨r,σ,s,?_,h,h4⟩
  simp only [List.map_cons,List.map_nil,av_u8 c,FV.uy,lM,Int.toNat_natCast]
  rw [←show AV.i .i64 (Lib.indexByte (fD n v) (c%256).toUInt8)=r.av from Option.some.inj h3]
 ·cases hk
noncomputable def D6:FE:=fun _ args s K=>match args with
 | [.s n v,.n t c]=>bC (Nat.beq t (nat_lit 512)) (dQ (some (.i .i64 (Lib.countByte (fD n v) (Nat.mod c (nat_lit 256)).toUInt8:Nat))) fun r=>K r s) false
 | _=>false
theorem IW:D6.Ok XB 198:=by
 intro run hr args s σ K h hk
 refine uO (p:=y8) (by kernel_rfl) ?_
 unfold D6 at hk
 split at hk
 ·rename_i n v t c
  obtain⟨h1,h2⟩:=aF hk
  have h1:t=512:=Nat.eq_of_beq_eq_true h1
  subst h1
  obtain⟨r,h3,h4⟩:=og h2
  refine⟨r,σ,s,?_,h,h4⟩
  simp only [List.map_cons,List.map_nil,av_u8 c,FV.uy,y8,Int.toNat_natCast]
  rw [←show AV.i .i64 (Lib.countByte (fD n v) (c%256).toUInt8:Nat)=r.av from Option.some.inj h3]
 ·cases hk
noncomputable def cellG (s:GS)(g:Nat)(K:KF):Bool:=xk (s.t.get g) (nat_lit 0) fun _ _ n m d t=>bC (Nat.ble (nat_lit 1) n) (zO m d t (nat_lit 0) K) false
theorem QT {s:GS} {σ:St} (h:s.Is σ) {g:Nat} {K:KF} (hk:cellG s g K=true):∃ro e v rest,σ[g]? =some ⟨0,ro,.cells e (FV.av v :: rest)⟩∧K v=true:=by
 obtain⟨ro,e,n,m,d,t,cs,h1,h2,h3⟩:=jJ h hk
 obtain⟨h4,h5⟩:=aF h3
 rw [uG] at h5
 have h4:1≤n:=Nat.le_of_ble_eq_true h4
 have h6:=h2.at_ 0 (by omega)
 cases cs with
 | nil=>simp at h6
 | cons c rest=>
   have h6:c=_:=Option.some.inj h6
   exact⟨ro,e,_,rest,by rw [←h6];exact h1,h5⟩
noncomputable def isIc:FV→Bool:=FV.rec (motive_1:=fun _=>Bool) (motive_2:=fun _=>PUnit) (fun _ _=>false) (fun _ _ _=>false) (fun _ _ _ _ _=>false) (fun _ _=>false) (fun t _ _ _=>Nat.beq t (nat_lit 2)) ⟨⟩ (fun _ _ _ _=>⟨⟩)
theorem XK {v:FV} (h:isIc v=true):∃t x,v.av= .ic t x:=by
 cases v with
 | c t a l=>have h:t=2:=Nat.eq_of_beq_eq_true h;subst h;exact⟨_,_,rfl⟩
 | _=>cases h
noncomputable def rX:FE:=fun _ args s K=>match args with
 | [.s n v,.n 36893488147419103233 10,.n 36893488147419103233 64]=>bC (Nat.ble n (nat_lit 281474976710656)) (match Lib.parseIntB 64 (fD n v) with
   | .ok u=>dQ (some (.tu [.i .i64 u,.gK])) fun r=>K r s
   | .range=>false
   | Lib.NumEnd.syntax=>cellG s 4 fun e=>bC (isIc e) (K (.c 1 0 [.n 36893488147419103233 0,.c 2 269 [.n 0 0]]) s) false) false
 | _=>false
theorem AX:rX.Ok XB 146:=by
 intro run hr args s σ K h hk
 refine uO (p:=nU) (by kernel_rfl) ?_
 unfold rX at hk
 split at hk
 ·rename_i n v
  obtain⟨h1,h2⟩:=aF hk
  have h1:n≤281474976710656:=Nat.le_of_ble_eq_true h1
  have e10:FV.av (.n 36893488147419103233 10)= .i .i64 10:=gB (n:=10) (by omega)
  have e64:FV.av (.n 36893488147419103233 64)= .i .i64 64:=gB (n:=64) (by omega)
  simp only [List.map_cons,List.map_nil,e10,e64,FV.uy,nU]
  rw [eY,if_pos h1]
  split at h2
  ·rename_i u hu
   simp only [hu]
   obtain⟨r,h3,h4⟩:=og h2
   exact⟨r,σ,s,by rw [Option.some.inj h3],h,h4⟩
  ·cases h2
  ·rename_i hu
   simp only [hu]
   obtain⟨ro,e,c,rest,q1,q2⟩:=QT h h2
   obtain⟨q3,q4⟩:=aF q2
   obtain⟨t,x,q5⟩:=XK q3
   rw [q5] at q1
   refine⟨_,σ,s,?_,h,q4⟩
   rw [q1,wR]
   simp only [List.map_cons,List.map_nil,Fp]
   rw [show FV.av (.n 36893488147419103233 0)= .i .i64 0 from gB (n:=0) (by omega)];rfl
 ·cases hk
noncomputable def QU:FE:=fun _ args s K=>match args with
 | [.n 36893488147419103233 16]=>Qa 39 (nat_lit 4) (nat_lit 1) [.n 36893488147419103232 0] s fun o s1=>newL 152 [.n 36893488147419103233 256,.sl o 0 0 4 1] s1 fun o1 s2=>
     Qa 5 (nat_lit 4096) (nat_lit 1) [.n 512 0] s2 fun o2 s3=>newL 103 [.p o1 0 0,.sl o2 0 0 4096 1] s3 fun o3 s4=>K (.c 1 0 [.p o3 0 0,.n 36893488147419103233 0]) s4
 | _=>false
theorem QV:QU.Ok XB 23:=by
 intro run hr args s σ K h hk
 refine uO (p:=OW) (by kernel_rfl) ?_
 unfold QU at hk
 split at hk
 ·have e16:FV.av (.n 36893488147419103233 16)= .i .i64 16:=gB (n:=16) (by omega)
  obtain⟨s1,k1,i1⟩:=xX h (dB.rep (d:=[.n 36893488147419103232 0]) rfl 4) hk
  obtain⟨s2,k2,i2⟩:=uK i1 k1
  obtain⟨s3,k3,i3⟩:=xX i2 (dB.rep (d:=[.n 512 0]) rfl 4096) k2
  obtain⟨s4,k4,i4⟩:=uK i3 k3
  refine⟨_,_,s4,?_,i4,k4⟩
  have l1:(bg 39 (iG ([FV.n 36893488147419103232 0].map FV.av) 4) σ).length=σ.length+1:=by simp [bg]
  simp only [List.map_cons,List.map_nil,e16,OW]
  have z64:FV.av (.n 36893488147419103232 0)= .i .u64 0:=by rfl
  have z8:FV.av (.n 512 0)= .i .u8 0:=by rfl
  have z256:FV.av (.n 36893488147419103233 256)= .i .i64 256:=gB (n:=256) (by omega)
  have z0:FV.av (.n 36893488147419103233 0)= .i .i64 0:=gB (n:=0) (by omega)
  rw [wR]
  simp only [List.map_cons,List.map_nil,FV.wZ,FV.qV,z64,z8,z256,z0,bg,List.length_append,List.length_cons,List.length_nil,xO,y7,uh,List.append_assoc,List.cons_append,List.nil_append]
 ·cases hk
noncomputable def fv1:FV→FV
 | .p o g k=>.p o g (Nat.succ k)
 | v=>v
noncomputable def Af:FE:=fun _ args s K=>match args with
 | [p,r,b]=>ak p s fun m=>ak m s fun n=>ak (fv1 m) s fun l=>match Jz r.av b.av n.av l.av with
   | some q=>ak (.p q.1 q.2.1 q.2.2.1) s fun x=>match vF x.av q.2.2.2 with
     | some z=>dQ (some (.i .u64 z)) fun y=>aX (.p q.1 q.2.1 q.2.2.1) y s fun s'=>dQ (some (.b true)) fun r=>K r s'
     | none=>false
   | none=>false
 | _=>false
theorem Gn:Af.Ok XB 40:=by
 intro run hr args s σ K h hk
 refine uO (p:=oL) (by kernel_rfl) ?_
 unfold Af at hk
 split at hk
 ·rename_i p r b
  obtain⟨m,h1,hk⟩:=lq h (T:=yW) rfl hk
  have hm:(fv1 m).av=ch1 m.av:=by
   cases m with
   | p o g k=>rfl
   | _=>cases hk
  obtain⟨n,h2,hk⟩:=lq h (T:=yW) rfl hk
  obtain⟨l,h3,hk⟩:=lq h (T:=yW) rfl hk
  rw [hm] at h3
  split at hk
  ·rename_i q hq
   obtain⟨x,h4,hk⟩:=lq h (T:=yW) rfl hk
   rw [FV.wZ] at h4
   split at hk
   ·rename_i z hz
    obtain⟨y,h5,hk⟩:=og hk
    obtain⟨σ',s',h6,h7,hk⟩:=zU h (T:=yW) rfl hk
    obtain⟨r',h8,hk⟩:=og hk
    rw [FV.wZ,←Option.some.inj h5] at h6
    refine⟨r',σ',s',?_,h7,hk⟩
    simp only [List.map_cons,List.map_nil,oL,h1,h2,h3,hq,h4,hz,h6,Option.bind_some,Option.map_some]
    rw [Option.some.inj h8]
   ·cases hk
  ·cases hk
 ·cases hk
end Go.cO.YtnbdedokjfpckaaGreatDoor
