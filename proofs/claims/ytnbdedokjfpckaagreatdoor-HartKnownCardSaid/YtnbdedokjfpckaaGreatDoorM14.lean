/- Texts of this claim, joined: Abs53, Abs54, Abs55, Fg. -/
import Derived.Test.YtnbdedokjfpckaaGreatDoorM13
import Derived.Test.YtnbdedokjfpckaaGreatDoorM09
set_option linter.unusedVariables false
set_option linter.unusedSimpArgs false
namespace Go.dD
inductive Fr where
 | sq (b:Nat) (c:AC)
 | bk (id:Nat)
 | lp (b:Nat) (l:List Nat) (c:AC)
structure Nd where
 live:List Nat
 b:Nat
 c:AC
 fs:List Fr
noncomputable def VN:List Nat→Bool:=List.rec (motive:=fun _=>Bool) false (fun d _ _=>Nat.beq d (nat_lit 1000000))
noncomputable def cnt:AC→Nat:=AC.rec (motive:=fun _=>Nat) 0 (fun _=>0) (fun _=>0) (fun _ _ a b=>Nat.add a b) (fun _ _ _ a b=>Nat.add a b) (fun _ _ a=>a) (fun _ _ a=>Nat.succ a) (fun l _ a=>bC (VN l) (Nat.succ a) a) (fun _=>0) 0
def iQ:AC→Nat
 | .seq a b=>iQ a+iQ b+1
 | .cond _ a b=>iQ a+iQ b+1
 | .blk _ c=>iQ c+1
 | .loop _ c=>iQ c+1
 | .cut _ c=>iQ c+1
 | _=>1
noncomputable def nodes:AC→Nat→List Fr→List Nd:=AC.rec (motive:=fun _=>Nat→List Fr→List Nd)
 (fun _ _=>[]) (fun _ _ _=>[]) (fun _ _ _=>[])
 (fun a c iha GX b fs=>iha b (.sq (Nat.add b (cnt a)) c :: fs) ++ GX (Nat.add b (cnt a)) fs)
 (fun _ a _ iha GX b fs=>iha b fs ++ GX (Nat.add b (cnt a)) fs)
 (fun id _ ih b fs=>ih b (.bk id :: fs))
 (fun l c ih b fs=>⟨l,Nat.succ b,c,.lp b l c :: fs⟩ :: ih (Nat.succ b) (.lp b l c :: fs))
 (fun l c ih b fs=>bC (VN l) (⟨l,Nat.succ b,c,fs⟩ :: ih (Nat.succ b) fs) (ih b fs))
 (fun _ _ _=>[]) (fun _ _=>[])
theorem pI (a c:AC)(b:Nat)(fs:List Fr):nodes (.seq a c) b fs=nodes a b (.sq (b+cnt a) c :: fs) ++ nodes c (b+cnt a) fs:=rfl
theorem nR (x:bG)(a c:AC)(b:Nat)(fs:List Fr):nodes (.cond x a c) b fs=nodes a b fs ++ nodes c (b+cnt a) fs:=rfl
theorem Kz (id:Nat)(c:AC)(b:Nat)(fs:List Fr):nodes (.blk id c) b fs=nodes c b (.bk id :: fs):=rfl
theorem qK (l:List Nat)(c:AC)(b:Nat)(fs:List Fr):nodes (.loop l c) b fs=⟨l,b+1,c,.lp b l c :: fs⟩ :: nodes c (b+1) (.lp b l c :: fs):=rfl
theorem jG (l:List Nat)(c:AC)(b:Nat)(fs:List Fr):nodes (.cut l c) b fs=bC (VN l) (⟨l,b+1,c,fs⟩ :: nodes c (b+1) fs) (nodes c b fs):=rfl
theorem VO (l:List Nat)(c:AC):cnt (.cut l c)=bC (VN l) (cnt c+1) (cnt c):=rfl
theorem pJ (c:AC):∀(b:Nat) (fs:List Fr),(nodes c b fs).length=cnt c:=by
 induction c with
 | skip=>intro b fs;rfl
 | reg _=>intro b fs;rfl
 | lI _=>intro b fs;rfl
 | exit _=>intro b fs;rfl
 | ret=>intro b fs;rfl
 | seq a c iha GX=>intro b fs;rw [pI,List.length_append,iha,GX];rfl
 | cond x a c iha GX=>intro b fs;rw [nR,List.length_append,iha,GX];rfl
 | blk id c ih=>intro b fs;rw [Kz,ih];rfl
 | loop l c ih=>intro b fs;rw [qK,List.length_cons,ih];rfl
 | cut l c ih=>
   intro b fs
   rw [jG,VO]
   cases VN l with
   | true=>rw [jd,jd,List.length_cons,ih]
   | false=>rw [iP,iP,ih]
abbrev KQ:=Out→dU→GS→Bool
abbrev Go:=Nat→List FV→GS→Bool
noncomputable def valsF (e:dU):List Nat→List FV:=List.rec (motive:=fun _=>List FV) [] (fun d _ ih=>jf e d :: ih)
noncomputable def GY:List Nat→List FV→dU:=List.rec (motive:=fun _=>List FV→dU) (fun _=>[]) (fun d _ ih vs=>List.rec (motive:=fun _=>dU) [] (fun v vs _=>(d,v) :: ih vs) vs)
noncomputable abbrev kSeq (A:dU→GS→KQ→Bool) (Q:KQ):KQ:=fun o e s=>Out.rec (motive:=fun _=>Bool) (A e s Q) (fun id=>Q (.exit id) e s) (Q .ret e s) o
noncomputable abbrev kBlk (id:Nat) (Q:KQ):KQ:=fun o e s=>Out.rec (motive:=fun _=>Bool) (Q .normal e s) (fun j=>bC (Nat.beq j id) (Q .normal e s) (Q (.exit j) e s)) (Q .ret e s) o
noncomputable abbrev kLp (go:Go) (b:Nat) (l:List Nat) (Q:KQ):KQ:=fun o e s=>Out.rec (motive:=fun _=>Bool) (go b (valsF e l) s) (fun id=>Q (.exit id) e s) (Q .ret e s) o
section
variable (X:Ctx)(τ:gK)(run:Rn)(go:Go)
noncomputable def EI:AC→Nat→dU→GS→KQ→Bool:=AC.rec (motive:=fun _=>Nat→dU→GS→KQ→Bool)
 (fun _ e s Q=>Q .normal e s)
 (fun ops _ e s Q=>O9 X τ run ops e s fun e s=>Q .normal e s)
 (fun ops _ e s Q=>O_ X τ run ops e s fun e s=>Q .normal e s)
 (fun a _ iha GX b e s Q=>iha b e s (kSeq (GX (Nat.add b (cnt a))) Q))
 (fun x a _ iha GX b e s Q=>bC (qJ x) (bT (EW e x) (iha b e s Q) (GX (Nat.add b (cnt a)) e s Q)) false)
 (fun id _ ih b e s Q=>ih b e s (kBlk id Q))
 (fun l _ _ b e s _=>go b (valsF e l) s)
 (fun l _ ih b e s Q=>bC (VN l) (go b (valsF e l) s) (ih b (GY l (valsF e l)) s Q))
 (fun id _ e s Q=>Q (.exit id) e s)
 (fun _ e s Q=>Q .ret e s)
noncomputable def aj:FV→Bool:=FV.rec (motive_1:=fun _=>Bool) (motive_2:=fun _=>PUnit) (fun _ _=>true) (fun _ _ _=>true) (fun _ _ _ _ _=>true) (fun _ _=>true) (fun t _ _ _=>bC (Nat.beq t (nat_lit 4)) false true) ⟨⟩ (fun _ _ _ _=>⟨⟩)
noncomputable abbrev Zc (e:dU) (s:GS) (r:AR) (K:KF):Bool:=AR.rec (motive:=fun _=>Bool) (fun n=>bC (aj (jf e n)) (K (jf e n)) false) (fun a t=>match τ t with
 | some T=>bC T.d.agg (aB T.size (jf e a) s K) (ak (jf e a) s K)
 | none=>false) r
noncomputable abbrev EJ (e:dU) (s:GS):List AR→(List FV→Bool)→Bool:=List.rec (motive:=fun _=>(List FV→Bool)→Bool) (fun K=>K []) (fun r _ ih K=>Zc τ e s r fun v=>ih fun l=>K (v :: l))
noncomputable abbrev VP (l:List FV) (s:GS) (K:KS):Bool:=match l with
 | [v]=>K v s
 | l=>K (.c (nat_lit 1) (nat_lit 0) l) s
noncomputable abbrev kFin (res:List AR) (K:KS):KQ:=fun o e s=>Out.rec (motive:=fun _=>Bool) (EJ τ e s res fun l=>VP l s K) (fun _=>false) (EJ τ e s res fun l=>VP l s K) o
noncomputable abbrev VQ (res:List AR) (K:KS):List Fr→KQ:=List.rec (motive:=fun _=>KQ) (kFin τ res K) (fun f _ ih=>Fr.rec (motive:=fun _=>KQ) (fun b c=>kSeq (EI X τ run go c b) ih) (fun id=>kBlk id ih) (fun b l _=>kLp go b l ih) f)
end
def aK (X:Ctx)(n:Nat):List Fr→Out→Env→St→Option (Out×Env×St)
 | [],q,e,σ=>some (q,e,σ)
 | .sq _ c :: fs,q,e,σ=>match q with
   | .normal=>(bK X (bFn X n) n c e σ).bind fun r=>aK X n fs r.1 r.2.1 r.2.2
   | q=>aK X n fs q e σ
 | .bk id :: fs,q,e,σ=>match q with
   | .exit j=>aK X n fs (if j=id then .normal else .exit j) e σ
   | q=>aK X n fs q e σ
 | .lp _ l c :: fs,q,e,σ=>match q with
   | .normal=>(iK l (bK X (bFn X n) n c) n e σ).bind fun r=>aK X n fs r.1 r.2.1 r.2.2
   | q=>aK X n fs q e σ
def GZ (X:Ctx)(n:Nat)(c:AC)(fs:List Fr)(e:Env)(σ:St):Option (Out×Env×St):=(bK X (bFn X n) n c e σ).bind fun r=>aK X n fs r.1 r.2.1 r.2.2
def Pm (X:Ctx)(res:List AR)(K:KS)(o:Option (Out×Env×St)):Prop:=∃q e' σ' v s',o=some (q,e',σ')∧(q= .normal∨q= .ret)∧m_ X.P res e' σ'= some (FV.av v)∧GS.Is s' σ'∧K v s'= true
section
variable {X:Ctx}
theorem wQ {n m:Nat} (h:n≤m) {c:AC} {e:Env} {σ:St} {x} (hx:bK X (bFn X n) n c e σ=some x):bK X (bFn X m) m c e σ=some x:=jh (qF X h) h hx
theorem VR {n m:Nat} (h:n≤m) {l:List Nat} {c:AC} {e:Env} {σ:St} {x} (hx:iK l (bK X (bFn X n) n c) n e σ=some x):iK l (bK X (bFn X m) m c) m e σ=some x:=
 l9 (fun _ _ _ hx=>wQ h hx) h hx
theorem lH {n m:Nat} (h:n≤m):∀(fs:List Fr) {q:Out} {e:Env} {σ:St} {x} (_:aK X n fs q e σ=some x),aK X m fs q e σ=some x
 | [],_,_,_,_,hx=>hx
 | .sq b c :: fs,q,e,σ,x,hx=>by
   cases q with
   | normal=>
     simp only [aK,Option.bind_eq_some_iff] at hx ⊢
     obtain⟨r,h1,h2⟩:=hx
     exact⟨r,wQ h h1,lH h fs h2⟩
   | exit j=>exact lH (q:=.exit j) h fs hx
   | ret=>exact lH (q:=.ret) h fs hx
 | .bk id :: fs,q,e,σ,x,hx=>by
   cases q with
   | normal=>exact lH (q:=.normal) h fs hx
   | exit j=>exact lH (q:=if j=id then .normal else .exit j) h fs hx
   | ret=>exact lH (q:=.ret) h fs hx
 | .lp b l c :: fs,q,e,σ,x,hx=>by
   cases q with
   | normal=>
     simp only [aK,Option.bind_eq_some_iff] at hx ⊢
     obtain⟨r,h1,h2⟩:=hx
     exact⟨r,VR h h1,lH h fs h2⟩
   | exit j=>exact lH (q:=.exit j) h fs hx
   | ret=>exact lH (q:=.ret) h fs hx
end
def oQ:List Fr→Nat
 | []=>0
 | .sq _ c :: fs=>iQ c+oQ fs
 | _ :: fs=>oQ fs
theorem KA (c:AC):0<iQ c:=by cases c <;> simp [iQ]
section
variable {X:Ctx} {τ:gK} (bJ:τ.Ok X.P) {run:Rn} (hr:run.Ok X) {go:Go} {res:List AR} {K:KS} {N:List Nd}
def GoOk (X:Ctx)(go:Go)(res:List AR)(K:KS)(N:List Nd):Prop:=∀i nd,N[i]? =some nd→∀(vs:List FV) (s:GS) (σ:St),s.Is σ→go i vs s=true→∃n,Pm X res K (GZ X n nd.c nd.fs (fV (GY nd.live vs)) σ)
def EX (N:List Nd)(c:AC)(b:Nat)(fs:List Fr):Prop:=∀i nd,(nodes c b fs)[i]? =some nd→N[b+i]? =some nd
def EK (N:List Nd):List Fr→Prop
 | []=>True
 | .sq b c :: fs=>EX N c b fs∧EK N fs
 | .bk _ :: fs=>EK N fs
 | .lp b l c :: fs=>N[b]? =some ⟨l,b+1,c,.lp b l c :: fs⟩∧EK N fs
theorem oU (e:dU):∀l:List Nat,fV (GY l (valsF e l))=clear l (fV e)
 | []=>rfl
 | d :: l=>by
   show (d,(jf e d).av) :: fV (GY l (valsF e l))=_
   rw [oU e l,gY];rfl
theorem EX.seq {a c:AC} {b:Nat} {fs:List Fr} (h:EX N (.seq a c) b fs):EX N a b (.sq (b+cnt a) c :: fs)∧EX N c (b+cnt a) fs:=by
 refine⟨fun i nd hi=>h i nd ?_,fun i nd hi=>?_⟩
 ·rw [pI]
  rw [List.getElem?_append_left (List.getElem?_eq_some_iff.1 hi).1];exact hi
 ·have:=h (cnt a+i) nd (by
   rw [pI]
   rw [List.getElem?_append_right (by rw [pJ];omega),pJ,show cnt a+i - cnt a=i by omega];exact hi)
  rw [show b+cnt a+i=b+(cnt a+i) by omega];exact this
theorem EX.cond {x:bG} {a c:AC} {b:Nat} {fs:List Fr} (h:EX N (.cond x a c) b fs):EX N a b fs∧EX N c (b+cnt a) fs:=by
 refine⟨fun i nd hi=>h i nd ?_,fun i nd hi=>?_⟩
 ·rw [nR]
  rw [List.getElem?_append_left (List.getElem?_eq_some_iff.1 hi).1];exact hi
 ·have:=h (cnt a+i) nd (by
   rw [nR]
   rw [List.getElem?_append_right (by rw [pJ];omega),pJ,show cnt a+i - cnt a=i by omega];exact hi)
  rw [show b+cnt a+i=b+(cnt a+i) by omega];exact this
theorem A8 {n:Nat} {b:Nat} {l:List Nat} {c:AC} {fs:List Fr} {e:Env} {σ:St} {x} (h:GZ X n c (.lp b l c :: fs) (clear l e) σ=some x):(iK l (bK X (bFn X (n+1)) (n+1) c) (n+1) e σ).bind (fun r=>aK X (n+1) fs r.1 r.2.1 r.2.2)=some x:=by
 unfold GZ at h
 rw [Option.bind_eq_some_iff] at h
 obtain⟨⟨q,e1,σ1⟩,h1,h2⟩:=h
 have h1':=wQ (Nat.le_succ n) h1
 rw [Option.bind_eq_some_iff]
 cases q with
 | normal=>
   simp only [aK,Option.bind_eq_some_iff] at h2
   obtain⟨r,h3,h4⟩:=h2
   refine⟨r,?_,lH (Nat.le_succ n) fs h4⟩
   simp only [iK,h1']
   exact l9 (fun _ _ _ hx=>wQ (Nat.le_succ n) hx) (Nat.le_refl n) h3
 | exit j=>
   refine⟨(.exit j,e1,σ1),?_,lH (Nat.le_succ n) fs h2⟩
   simp only [iK,h1']
 | ret=>
   refine⟨(.ret,e1,σ1),?_,lH (Nat.le_succ n) fs h2⟩
   simp only [iK,h1']
end
end Go.dD
namespace Go.dD
section
variable {X:Ctx} {τ:gK} (bJ:τ.Ok X.P) {run:Rn} (hr:run.Ok X) {go:Go} {res:List AR} {K:KS} {N:List Nd} (hgo:GoOk X go res K N)
include bJ
theorem Pn {e:dU} {s:GS} {σ:St} (h:s.Is σ) {r:AR} {K:KF} (hk:Zc τ e s r K=true):∃v:FV,pU X.P (fV e) σ r=some v.av∧K v=true:=by
 cases r with
 | t n=>
   obtain⟨h1,h2⟩:=aF hk
   refine⟨_,?_,h2⟩
   simp only [pU]
   rw [←gY]
   have hn:∀x:FV,aj x=true→∀c v,x.av≠.cd c v:=by
     intro x hx c v
     cases x with
     | n t x=>
       rw [FV.yC]
       rcases kR t x with ⟨k,_,e⟩ | ⟨_,e⟩ | ⟨_,e⟩ | ⟨_,e⟩ | ⟨_,e⟩ | ⟨_,e⟩ | ⟨_,e⟩ | e <;> (rw [e];intro h;cases h)
     | c t a l=>
       have q1:t≠4:=fun e=>by subst e;exact Bool.noConfusion (show false=true from hx)
       rw [FV.BP]
       rcases nK t a (FV.J7 l) with ⟨e,q⟩ | ⟨e,q⟩ | ⟨e,q⟩ | ⟨e,q⟩ | ⟨e,q⟩ | ⟨e,q⟩ | ⟨e,q⟩
       all_goals first | (exact(q1 e).elim) | (rw [q];intro h;cases h)
     | _=>intro h;cases h
   split
   ·rename_i c v hc;exact(hn _ h1 _ _ hc).elim
   ·rfl
 | cell a t=>
   have hk':(match τ t with
    | some T=>bC T.d.agg (aB T.size (jf e a) s K) (ak (jf e a) s K)
    | none=>false)=true:=hk
   split at hk'
   ·rename_i T hT
    simp only [pU]
    rw [←gY,bJ _ _ hT]
    cases ha:T.d.agg with
    | true=>rw [ha,jd] at hk';exact AA h ha hk'
    | false=>rw [ha,iP] at hk';exact jY h ha hk'
   ·cases hk'
theorem EL {e:dU} {s:GS} {σ:St} (h:s.Is σ):∀(rs:List AR) {K:List FV→Bool} (_:EJ τ e s rs K=true),∃l,lX X.P (fV e) σ rs=some (l.map FV.av)∧K l=true
 | [],K,hk=>⟨[],rfl,hk⟩
 | r :: rs,K,hk=>by
   obtain⟨v,h1,h2⟩:=Pn bJ h (K:=fun v=>EJ τ e s rs fun l=>K (v :: l)) hk
   obtain⟨l,h3,h4⟩:=EL h rs h2
   exact⟨_,by simp only [lX,h1,h3,List.map_cons],h4⟩
theorem I9 {e:dU} {s:GS} {σ:St} (h:s.Is σ) {K:KS} (hk:EJ τ e s res (fun l=>VP l s K)=true):∃v:FV,m_ X.P res (fV e) σ=some v.av∧K v s=true:=by
 obtain⟨l,h1,h2⟩:=EL bJ h res hk
 unfold m_
 rw [h1]
 unfold VP at h2
 split at h2
 ·exact⟨_,rfl,h2⟩
 ·rename_i hn
  refine⟨_,?_,h2⟩
  rw [vF]
  cases l with
  | nil=>rfl
  | cons a l=>cases l with
    | nil=>exact(hn a rfl).elim
    | cons b l=>rfl
include hr hgo
theorem iw:∀(m:Nat) (c:AC) (b:Nat) (fs:List Fr) (e:dU) (s:GS) (σ:St),iQ c+oQ fs≤m→EX N c b fs→EK N fs→s.Is σ→EI X τ run go c b e s (VQ X τ run go res K fs)=true→∃n,Pm X res K (GZ X n c fs (fV e) σ)
 | 0,c,_,_,_,_,_,hm,_,_,_,_=>by have:=KA c;omega
 | m+1,c,b,fs,e,s,σ,hm,hat,hfr,h,hk=>by
   have leaf:∀(fs:List Fr) (o:Out) (e:dU) (s:GS) (σ:St),oQ fs≤m→EK N fs→s.Is σ→VQ X τ run go res K fs o e s=true→∃n,Pm X res K (aK X n fs o (fV e) σ):=by
    intro fs
    induction fs with
    | nil=>
      intro o e s σ _ _ h hk
      cases o with
      | exit j=>cases hk
      | normal=>
        obtain⟨v,h1,h2⟩:=I9 bJ h hk
        exact⟨0,_,_,_,v,s,rfl,.inl rfl,h1,h,h2⟩
      | ret=>
        obtain⟨v,h1,h2⟩:=I9 bJ h hk
        exact⟨0,_,_,_,v,s,rfl,.inr rfl,h1,h,h2⟩
    | cons f fs ih=>
      intro o e s σ hs hf h hk
      cases f with
      | sq b c=>
        cases o with
        | normal=>exact iw m c b fs e s σ hs hf.1 hf.2 h hk
        | exit j=>exact ih (.exit j) e s σ (by simp only [oQ] at hs;omega) hf.2 h hk
        | ret=>exact ih .ret e s σ (by simp only [oQ] at hs;omega) hf.2 h hk
      | bk id=>
        cases o with
        | normal=>exact ih .normal e s σ hs hf h hk
        | ret=>exact ih .ret e s σ hs hf h hk
        | exit j=>
          have hk':bC (Nat.beq j id) (VQ X τ run go res K fs .normal e s) (VQ X τ run go res K fs (.exit j) e s)=true:=hk
          cases hj:Nat.beq j id with
          | true=>
            rw [hj,jd] at hk'
            obtain⟨n,hn⟩:=ih .normal e s σ hs hf h hk'
            exact⟨n,by simp only [aK];rw [if_pos (Nat.eq_of_beq_eq_true hj)];exact hn⟩
          | false=>
            rw [hj,iP] at hk'
            obtain⟨n,hn⟩:=ih (.exit j) e s σ hs hf h hk'
            exact⟨n,by simp only [aK];rw [if_neg (Nat.ne_of_beq_eq_false hj)];exact hn⟩
      | lp b l c=>
        cases o with
        | exit j=>exact ih (.exit j) e s σ hs hf.2 h hk
        | ret=>exact ih .ret e s σ hs hf.2 h hk
        | normal=>
          have hk':go b (valsF e l) s=true:=hk
          obtain⟨n,q,e',σ',v,s',q1,q2⟩:=hgo b _ hf.1 _ _ _ h hk'
          rw [oU] at q1
          exact⟨n+1,q,e',σ',v,s',A8 q1,q2⟩
   cases c with
   | skip=>
     obtain⟨n,hn⟩:=leaf fs .normal e s σ (by simp only [iQ] at hm;omega) hfr h hk
     exact⟨n,hn⟩
   | exit j=>
     obtain⟨n,hn⟩:=leaf fs (.exit j) e s σ (by simp only [iQ] at hm;omega) hfr h hk
     exact⟨n,hn⟩
   | ret=>
     obtain⟨n,hn⟩:=leaf fs .ret e s σ (by simp only [iQ] at hm;omega) hfr h hk
     exact⟨n,hn⟩
   | reg ops=>
     obtain⟨n1,e',σ',s',h1,h2,h3⟩:=I7 bJ hr h (K:=fun e s=>VQ X τ run go res K fs .normal e s) hk
     obtain⟨n2,q,e2,σ2,v,s2,q1,q2⟩:=leaf fs .normal e' s' σ' (by simp only [iQ] at hm;omega) hfr h2 h3
     refine⟨max n1 n2,q,e2,σ2,v,s2,?_,q2⟩
     simp only [GZ,bK,rP (qF X (Nat.le_max_left n1 n2)) h1,Option.map_some,Option.bind_some]
     exact lH (Nat.le_max_right n1 n2) fs q1
   | lI ops=>
     obtain⟨n1,e',σ',s',h1,h2,h3⟩:=I8 bJ hr h (K:=fun e s=>VQ X τ run go res K fs .normal e s) hk
     obtain⟨n2,q,e2,σ2,v,s2,q1,q2⟩:=leaf fs .normal e' s' σ' (by simp only [iQ] at hm;omega) hfr h2 h3
     refine⟨max n1 n2,q,e2,σ2,v,s2,?_,q2⟩
     simp only [GZ,bK,rQ (qF X (Nat.le_max_left n1 n2)) h1,Option.map_some,Option.bind_some]
     exact lH (Nat.le_max_right n1 n2) fs q1
   | seq a c=>
     obtain⟨ha1,ha2⟩:=hat.seq
     obtain⟨n,hn⟩:=iw m a b (.sq (b+cnt a) c :: fs) e s σ (by simp only [iQ,oQ] at hm ⊢;omega) ha1 ⟨ha2,hfr⟩ h hk
     refine⟨n,?_⟩
     have e1:GZ X n (.seq a c) fs (fV e) σ=GZ X n a (.sq (b+cnt a) c :: fs) (fV e) σ:=by
        simp only [GZ,bK]
        cases bK X (bFn X n) n a (fV e) σ with
        | none=>rfl
        | some r=>
          obtain⟨q,e',σ'⟩:=r
          cases q <;> rfl
     rw [e1];exact hn
   | cond x a c=>
     obtain⟨ha1,ha2⟩:=hat.cond
     obtain⟨h0,hk2⟩:=aF hk
     rcases dIf_ok hk2 with ⟨h1,h2⟩ | ⟨h1,h2⟩
     ·rw [oN h0] at h1
      obtain⟨n,hn⟩:=iw m a b fs e s σ (by simp only [iQ] at hm;omega) ha1 hfr h h2
      exact⟨n,by simp only [GZ,bK,h1];exact hn⟩
     ·rw [oN h0] at h1
      obtain⟨n,hn⟩:=iw m c (b+cnt a) fs e s σ (by simp only [iQ] at hm;omega) ha2 hfr h h2
      exact⟨n,by simp only [GZ,bK,h1];exact hn⟩
   | blk id c=>
     obtain⟨n,hn⟩:=iw m c b (.bk id :: fs) e s σ (by simp only [iQ,oQ] at hm ⊢;omega) hat hfr h hk
     refine⟨n,?_⟩
     have e1:GZ X n (.blk id c) fs (fV e) σ=GZ X n c (.bk id :: fs) (fV e) σ:=by
        simp only [GZ,bK]
        cases bK X (bFn X n) n c (fV e) σ with
        | none=>rfl
        | some r=>
          obtain⟨q,e',σ'⟩:=r
          cases q <;> rfl
     rw [e1];exact hn
   | loop l c=>
     have hk':go b (valsF e l) s=true:=hk
     have hnd:=hat 0 ⟨l,b+1,c,.lp b l c :: fs⟩ rfl
     obtain⟨n,q,e',σ',v,s',q1,q2⟩:=hgo _ _ hnd _ _ _ h hk'
     rw [oU] at q1
     exact⟨n+1,q,e',σ',v,s',A8 q1,q2⟩
   | cut l c=>
     have hk':bC (VN l) (go b (valsF e l) s) (EI X τ run go c b (GY l (valsF e l)) s (VQ X τ run go res K fs))=true:=hk
     cases hj:VN l with
     | true=>
       rw [hj,jd] at hk'
       have hnd:=hat 0 ⟨l,b+1,c,fs⟩ (by rw [jG,hj];rfl)
       obtain⟨n,q,e',σ',v,s',q1,q2⟩:=hgo _ _ hnd _ _ _ h hk'
       rw [oU] at q1
       exact⟨n,q,e',σ',v,s',q1,q2⟩
     | false=>
       rw [hj,iP] at hk'
       have hat':EX N c b fs:=fun i nd hi=>hat i nd (by rw [jG,hj];exact hi)
       obtain⟨n,hn⟩:=iw m c b fs (GY l (valsF e l)) s σ (by simp only [iQ] at hm;omega) hat' hfr h hk'
       rw [oU] at hn
       exact⟨n,hn⟩
end
abbrev BF:=Rn→Go→KS→List FV→GS→Bool
noncomputable def gNode (X:Ctx)(τ:gK)(res:List AR)(nd:Nd):BF:=fun run go K vs s=>EI X τ run go nd.c nd.b (GY nd.live vs) s (VQ X τ run go res K nd.fs)
noncomputable def aV (X:Ctx)(τ:gK)(F:AF)(i:Nat):BF:=fun run go K vs s=>match (nodes F.code 0 [])[i]? with
 | some nd=>gNode X τ F.res nd run go K vs s
 | none=>false
def BF.Ok (X:Ctx)(τ:gK)(F:AF)(i:Nat)(bf:BF):Prop:=∀run go K vs s,bf run go K vs s=true→aV X τ F i run go K vs s=true
noncomputable def goN (D:Nat→BF)(run:Rn)(K:KS)(fuel:Nat):Go:=Nat.rec (motive:=fun _=>Go) (fun _ _ _=>false) (fun _ go i vs s=>D i run go K vs s) fuel
noncomputable def argE:Nat→List FV→dU→dU:=fun n l e=>List.rec (motive:=fun _=>Nat→dU) (fun _=>e) (fun a _ ih n=>(n,a) :: ih (Nat.succ n)) l n
theorem I_:∀(l:List FV) (n:Nat),fV (argE n l [])=eU n (l.map FV.av)
 | [],_=>rfl
 | a :: l,n=>by
   show (n,a.av) :: fV (argE (n+1) l [])=_
   rw [I_ l];rfl
abbrev FE:=Rn→List FV→GS→KS→Bool
noncomputable def aG (X:Ctx)(τ:gK)(F:AF):Rn→Go→List FV→GS→KS→Bool:=fun run go args s K=>EI X τ run go F.code 0 (argE 0 args []) s (VQ X τ run go F.res K [])
noncomputable def bF (X:Ctx)(τ:gK)(F:AF)(D:Nat→BF)(E:Rn→Go→List FV→GS→KS→Bool)(fuel:Nat):FE:=fun run args s K=>bC (Nat.ble args.length F.nt) (E run (goN D run K fuel) args s K) false
def FE.Ok (X:Ctx)(f:Nat)(fe:FE):Prop:=∀(run:Rn),run.Ok X→∀(args:List FV) (s:GS) (σ:St) (K:KS),s.Is σ→fe run args s K=true→∃n,Tj (bFn X n f (args.map FV.av) σ) K
section
variable {X:Ctx} {τ:gK} (bJ:τ.Ok X.P)
include bJ
theorem Po {F:AF} {D:Nat→BF} (hD:∀i,(D i).Ok X τ F i) {run:Rn} (hr:run.Ok X) {K:KS} :∀fuel,GoOk X (goN D run K fuel) F.res K (nodes F.code 0 [])
 | 0=>fun i nd hi vs s σ h hk=>by cases hk
 | fuel+1=>fun i nd hi vs s σ h hk=>by
   have hk':D i run (goN D run K fuel) K vs s=true:=hk
   have h1:=hD i _ _ _ _ _ hk'
   unfold aV at h1
   rw [hi] at h1
   have hat:EX (nodes F.code 0 []) nd.c nd.b nd.fs∧EK (nodes F.code 0 []) nd.fs:=by
    have key:∀(c:AC) (b:Nat) (fs:List Fr),EX (nodes F.code 0 []) c b fs→EK (nodes F.code 0 []) fs→∀nd∈nodes c b fs,EX (nodes F.code 0 []) nd.c nd.b nd.fs∧EK (nodes F.code 0 []) nd.fs:=by
        intro c
        induction c with
        | skip=>intro b fs _ _ nd hm;cases hm
        | reg _=>intro b fs _ _ nd hm;cases hm
        | lI _=>intro b fs _ _ nd hm;cases hm
        | exit _=>intro b fs _ _ nd hm;cases hm
        | ret=>intro b fs _ _ nd hm;cases hm
        | seq a c iha GX=>
          intro b fs h1 h2 nd hm
          obtain⟨q1,q2⟩:=h1.seq
          rw [pI,List.mem_append] at hm
          rcases hm with hm | hm
          ·exact iha _ _ q1 ⟨q2,h2⟩ nd hm
          ·exact GX _ _ q2 h2 nd hm
        | cond x a c iha GX=>
          intro b fs h1 h2 nd hm
          obtain⟨q1,q2⟩:=h1.cond
          rw [nR,List.mem_append] at hm
          rcases hm with hm | hm
          ·exact iha _ _ q1 h2 nd hm
          ·exact GX _ _ q2 h2 nd hm
        | blk id c ih=>intro b fs h1 h2 nd hm;exact ih _ _ h1 h2 nd hm
        | loop l c ih=>
          intro b fs h1 h2 nd hm
          have h3:=h1 0 _ rfl
          have h4:EX (nodes F.code 0 []) c (b+1) (.lp b l c :: fs):=fun i nd hi=>by
            have:=h1 (i+1) nd (by rw [qK,List.getElem?_cons_succ];exact hi)
            rw [show b+1+i=b+(i+1) by omega];exact this
          rw [qK,List.mem_cons] at hm
          rcases hm with rfl | hm
          ·exact⟨h4,h3,h2⟩
          ·exact ih _ _ h4 ⟨h3,h2⟩ nd hm
        | cut l c ih=>
          intro b fs h1 h2 nd hm
          cases hj:VN l with
          | true=>
            have h4:EX (nodes F.code 0 []) c (b+1) fs:=fun i nd hi=>by
              have:=h1 (i+1) nd (by rw [jG,hj,jd,List.getElem?_cons_succ];exact hi)
              rw [show b+1+i=b+(i+1) by omega];exact this
            rw [jG,hj,jd,List.mem_cons] at hm
            rcases hm with rfl | hm
            ·exact⟨h4,h2⟩
            ·exact ih _ _ h4 h2 nd hm
          | false=>
            rw [jG,hj,iP] at hm
            exact ih _ _ (fun i nd hi=>h1 i nd (by rw [jG,hj];exact hi)) h2 nd hm
    exact key F.code 0 [] (fun i nd hi=>by rw [Nat.zero_add];exact hi) trivial nd (List.mem_of_getElem? hi)
   exact iw bJ hr (Po hD hr fuel) _ nd.c nd.b nd.fs _ _ _ (Nat.le_refl _) hat.1 hat.2 h h1
theorem aC {f:Nat} {F:AF} (hp:X.ql f=none)(hF:X.fns f=some F) {D:Nat→BF} (hD:∀i,(D i).Ok X τ F i) {E:Rn→Go→List FV→GS→KS→Bool} (hE:∀run go args s K,E run go args s K=true→aG X τ F run go args s K=true)(fuel:Nat):(bF X τ F D E fuel).Ok X f:=by
 intro run hr args s σ K h hk
 obtain⟨h1,h2⟩:=aF hk
 have h3:=hE _ _ _ _ _ h2
 obtain⟨n,q,e',σ',v,s',q1,q2,q3,q4,q5⟩:=iw bJ hr (Po bJ hD hr fuel) _ F.code 0 [] _ _ _ (Nat.le_refl _) (fun i nd hi=>by rw [Nat.zero_add];exact hi) trivial h h3
 rw [I_] at q1
 have q1':bK X (bFn X n) n F.code (eU 0 (args.map FV.av)) σ=some (q,e',σ'):=by
  unfold GZ at q1
  rw [Option.bind_eq_some_iff] at q1
  obtain⟨⟨a,b,c⟩,r1,r2⟩:=q1
  cases r2;exact r1
 refine⟨n+1,v,σ',s',?_,q4,q5⟩
 simp only [bFn,hp,hF]
 rw [if_pos (by rw [List.length_map];exact Nat.le_of_ble_eq_true h1),q1']
 rcases q2 with rfl | rfl
 ·simp only;rw [q3];rfl
 ·simp only;rw [q3];rfl
end
inductive TF where
 | nil
 | leaf (f:Nat) (fe:FE)
 | node (m:Nat) (l r:TF)
noncomputable def TF.go:TF→Nat→FE:=TF.rec (motive:=fun _=>Nat→FE) (fun _ _ _ _ _=>false) (fun f fe n run args s K=>bC (Nat.beq f n) (fe run args s K) false) (fun m _ _ l r n=>bC (Nat.ble (Nat.succ n) m) (l n) (r n))
def TF.Ok (X:Ctx):TF→Prop
 | .nil=>True
 | .leaf f fe=>fe.Ok X f
 | .node _ l r=>l.Ok X∧r.Ok X
theorem TF.go_ok {X:Ctx} :∀(t:TF) (f:Nat),t.Ok X→(t.go f).Ok X f
 | .nil,f,_=>fun run hr args s σ K h hk=>by cases hk
 | .leaf g fe,f,ht=>fun run hr args s σ K h hk=>by
   obtain⟨h1,h2⟩:=aF hk
   rw [←Nat.eq_of_beq_eq_true h1]
   exact ht run hr args s σ K h h2
 | .node m l r,f,ht=>fun run hr args s σ K h hk=>by
   have hk':bC (Nat.ble (f+1) m) (l.go f) (r.go f) run args s K=true:=hk
   cases hb:Nat.ble (f+1) m with
   | true=>rw [hb,jd] at hk';exact TF.go_ok l f ht.1 run hr args s σ K h hk'
   | false=>rw [hb,iP] at hk';exact TF.go_ok r f ht.2 run hr args s σ K h hk'
noncomputable def rnN (T:TF)(d:Nat):Rn:=Nat.rec (motive:=fun _=>Rn) (fun _ _ _ _=>false) (fun _ ih f args s K=>T.go f ih args s K) d
theorem Pq {X:Ctx} {T:TF} (hT:T.Ok X):∀d,(rnN T d).Ok X
 | 0=>fun f args s σ K h hk=>by cases hk
 | d+1=>fun f args s σ K h hk=>TF.go_ok T f hT _ (Pq hT d) args s σ K h hk
noncomputable def GO.of (a:AO)(K:GO→Bool):Bool:=match a with
 | ⟨g,ro,.cells e cs⟩=>bC (qg cs) (bC (Nat.ble cs.length (nat_lit 8)) (bC (iG (dY cs)) (fN cs.length fun n=>K (.cells g ro e n n (dY cs) .lf)) false) (fN cs.length fun n=>nU (dY cs) .lf (nat_lit 0) fun t=>K (.cells g ro e n (nat_lit 1) [.n (nat_lit 1) (nat_lit 0)] t))) false
 | _=>K .dead
theorem GO.of_ok {a:AO} {K:GO→Bool} (hk:GO.of a K=true):∃f:GO,f.Is a∧K f=true:=by
 unfold GO.of at hk
 split at hk
 ·rename_i g ro e cs
  obtain⟨h1,hk1⟩:=aF hk
  clear hk
  have hl:(dY cs).length=cs.length:=by
   have:=congrArg List.length (fQ _ h1)
   rw [List.length_map] at this;exact this
  cases hsz:Nat.ble cs.length (nat_lit 8) with
  | false=>
    rw [hsz,iP,jv] at hk1
    have hb:=dn.rep (d:=[.n 1 0]) rfl cs.length
    rw [show cs.length*[FV.n 1 0].length=cs.length by simp,show [FV.n 1 0].length=1 from rfl] at hb
    obtain⟨t',q1,q2,q3⟩:=mO (dY cs) hb (off:=0) (by omega) hk1
    have e1:setCells (h_ ([FV.n 1 0].map FV.av) cs.length) 0 ((dY cs).map FV.av)=cs:=by
        have:=jI ((dY cs).map FV.av) [] (h_ ([FV.n 1 0].map FV.av) cs.length) (by rw [fE];simp [hl])
        rw [fQ _ h1] at this ⊢
        simpa using this
    rw [e1] at q2
    exact⟨.cells g ro e cs.length 1 [.n 1 0] t',⟨cs,rfl,q2⟩,q1⟩
  | true=>
  rw [hsz,jd] at hk1
  obtain⟨h2,hk⟩:=aF hk1
  rw [jv] at hk
  have hc:=dn.list h2
  rw [fQ _ h1,hl] at hc
  exact⟨.cells g ro e cs.length cs.length (dY cs) .lf,⟨cs,rfl,hc⟩,hk⟩
 ·exact⟨.dead,trivial,hk⟩
noncomputable def GS.lay (σ:St):GS→(GS→Bool)→Bool:=List.rec (motive:=fun _=>GS→(GS→Bool)→Bool) (fun s K=>K s) (fun a _ ih s K=>GO.of a fun f=>s.new f fun _ s=>ih s K) σ
theorem GS.BO:∀(σ:St) {s:GS} {iT:St} (_:s.Is iT) {K:GS→Bool} (_:GS.lay σ s K=true),∃s',K s'= true∧s'.Is (iT ++ σ)
 | [],s,iT,h,K,hk=>⟨s,hk,by simpa using h⟩
 | a :: σ,s,iT,h,K,hk=>by
   obtain⟨f,hf,hk2⟩:=GO.of_ok (K:=fun f=>s.new f fun _ s=>GS.lay σ s K) hk
   obtain⟨s1,h1,h2⟩:=GS.qH h hf hk2
   obtain⟨s2,q1,q2⟩:=GS.BO σ h2 h1
   exact⟨s2,q1,by simpa using q2⟩
def GS.nil:GS:=⟨0,.lf⟩
theorem GS.Oa:GS.nil.Is []:=⟨rfl,fun o f h=>by cases h⟩
noncomputable def gTop (T:TF)(d f:Nat)(args:List FV)(σ:St)(K:FV→Bool):Bool:=GS.lay σ GS.nil fun s=>rnN T d f args s fun v _=>K v
theorem KC {X:Ctx} {G:Nat} {T:TF} (hX:X.Sound G)(hT:T.Ok X) {d f:Nat} {args:List FV} {σ:St} {K:FV→Bool} (hk:gTop T d f args σ K=true) {μ:Mu} {w:World} (hs:fD G μ σ w) {aX:Array Value} (hr:aQ μ w (args.map FV.av) aX.toList) :
 Does X.P f aX w fun e w'=>∃(r:FV) (σ':St),K r=true∧After G μ σ w r.av σ' e w':=by
 obtain⟨s,h1,h2⟩:=GS.BO σ GS.Oa hk
 obtain⟨n,v,σ',s',q1,q2,q3⟩:=Pq hT d f args s σ _ (by simpa using h2) h1
 exact(b_ok hX n f _ σ _ σ' q1 μ w aX hs hr).mono fun e w' ha=>⟨v,σ',q3,ha⟩
noncomputable def isTrue:FV→Bool:=FV.rec (motive_1:=fun _=>Bool) (motive_2:=fun _=>PUnit) (fun t x=>bC (Nat.beq t (nat_lit 1)) (Nat.ble (nat_lit 1) x) false) (fun _ _ _=>false) (fun _ _ _ _ _=>false) (fun _ _=>false) (fun _ _ _ _=>false) ⟨⟩ (fun _ _ _ _=>⟨⟩)
theorem KD {v:FV} (h:isTrue v=true):v.av= .b true:=by
 cases v with
 | n t x=>
   obtain⟨h1,h2⟩:=aF h
   have h1:t=1:=Nat.eq_of_beq_eq_true h1
   have h2:1≤x:=Nat.le_of_ble_eq_true h2
   subst h1
   rw [FV.yC,yD,nM (by omega)];rfl
 | _=>cases h
end Go.dD
namespace Go.dD
inductive TB where
 | nil
 | leaf (i:Nat) (bf:BF)
 | node (m:Nat) (l r:TB)
noncomputable def TB.get:TB→Nat→BF:=TB.rec (motive:=fun _=>Nat→BF) (fun _ _ _ _ _ _=>false) (fun i bf n r g K vs s=>bC (Nat.beq i n) (bf r g K vs s) false) (fun m _ _ l r n=>bC (Nat.ble (Nat.succ n) m) (l n) (r n))
def TB.Ok (X:Ctx)(τ:gK)(F:AF):TB→Prop
 | .nil=>True
 | .leaf i bf=>bf.Ok X τ F i
 | .node _ l r=>l.Ok X τ F∧r.Ok X τ F
theorem TB.aO {X:Ctx} {τ:gK} {F:AF} :∀(t:TB) (_:t.Ok X τ F) (i:Nat),(t.get i).Ok X τ F i
 | .nil,_,i=>fun r g K vs s h=>by cases h
 | .leaf j bf,ht,i=>fun r g K vs s h=>by
   obtain⟨h1,h2⟩:=aF h
   rw [←Nat.eq_of_beq_eq_true h1]
   exact ht r g K vs s h2
 | .node m l r,ht,i=>fun r' g K vs s h=>by
   have h':bC (Nat.ble (i+1) m) (l.get i) (r.get i) r' g K vs s=true:=h
   cases hb:Nat.ble (i+1) m with
   | true=>rw [hb,jd] at h';exact TB.aO l ht.1 i r' g K vs s h'
   | false=>rw [hb,iP] at h';exact TB.aO r ht.2 i r' g K vs s h'
noncomputable def u0 (f:GS→Bool)(vs:List FV)(s:GS):Bool:=List.rec (motive:=fun _=>(GS→Bool)→GS→Bool) (fun f s=>f s) (fun _ _ _ _ _=>false) vs f s
theorem Zd {f:GS→Bool} {vs:List FV} {s:GS} (h:u0 f vs s=true):vs=[]∧f s=true:=by cases vs with | nil=>exact⟨rfl,h⟩ | cons _ _=>cases h
theorem A_ {X:Ctx} {τ:gK} {F:AF} {f:Rn→Go→KS→GS→Bool} (e:∀r g K s,aG X τ F r g [] s K=f r g K s):∀r g args s K,(fun(r:Rn) (g:Go) (args:List FV) (s:GS) (K:KS)=>u0 (f r g K) args s) r g args s K=true→aG X τ F r g args s K=true:=fun r g args s K h=>by obtain⟨rfl,h⟩:=Zd (f:=f r g K) h;exact(e r g K s).trans h
noncomputable def u1 (f:FV→GS→Bool)(vs:List FV)(s:GS):Bool:=List.rec (motive:=fun _=>(FV→GS→Bool)→GS→Bool) (fun _ _=>false) (fun a l _ f s=>u0 (f a) l s) vs f s
theorem Pv {f:FV→GS→Bool} {vs:List FV} {s:GS} (h:u1 f vs s=true):∃a0,vs=[a0]∧f a0 s=true:=by cases vs with | nil=>cases h | cons a l=>(obtain⟨rfl,h⟩:=Zd (show u0 (f a) l s=true from h);exact⟨a,rfl,h⟩)
theorem u1_bf {X:Ctx} {τ:gK} {F:AF} {i:Nat} {f:Rn→Go→KS→FV→GS→Bool} (e:∀r g K a0 s,aV X τ F i r g K [a0] s=f r g K a0 s):BF.Ok X τ F i (fun r g K=>u1 (f r g K)):=fun r g K vs s h=>by obtain⟨a0,rfl,h⟩:=Pv h;exact(e r g K a0 s).trans h
theorem dM {X:Ctx} {τ:gK} {F:AF} {f:Rn→Go→KS→FV→GS→Bool} (e:∀r g K a0 s,aG X τ F r g [a0] s K=f r g K a0 s):∀r g args s K,(fun(r:Rn) (g:Go) (args:List FV) (s:GS) (K:KS)=>u1 (f r g K) args s) r g args s K=true→aG X τ F r g args s K=true:=fun r g args s K h=>by obtain⟨a0,rfl,h⟩:=Pv (f:=f r g K) h;exact(e r g K a0 s).trans h
noncomputable def u2 (f:FV→FV→GS→Bool)(vs:List FV)(s:GS):Bool:=List.rec (motive:=fun _=>(FV→FV→GS→Bool)→GS→Bool) (fun _ _=>false) (fun a l _ f s=>u1 (f a) l s) vs f s
theorem Px {f:FV→FV→GS→Bool} {vs:List FV} {s:GS} (h:u2 f vs s=true):∃a0 a1,vs=[a0,a1]∧f a0 a1 s=true:=by cases vs with | nil=>cases h | cons a l=>(obtain⟨b0,rfl,h⟩:=Pv (show u1 (f a) l s=true from h);exact⟨a,_,rfl,h⟩)
theorem EM {X:Ctx} {τ:gK} {F:AF} {i:Nat} {f:Rn→Go→KS→FV→FV→GS→Bool} (e:∀r g K a0 a1 s,aV X τ F i r g K [a0,a1] s=f r g K a0 a1 s):BF.Ok X τ F i (fun r g K=>u2 (f r g K)):=fun r g K vs s h=>by obtain⟨a0,a1,rfl,h⟩:=Px h;exact(e r g K a0 a1 s).trans h
theorem dF {X:Ctx} {τ:gK} {F:AF} {f:Rn→Go→KS→FV→FV→GS→Bool} (e:∀r g K a0 a1 s,aG X τ F r g [a0,a1] s K=f r g K a0 a1 s):∀r g args s K,(fun(r:Rn) (g:Go) (args:List FV) (s:GS) (K:KS)=>u2 (f r g K) args s) r g args s K=true→aG X τ F r g args s K=true:=fun r g args s K h=>by obtain⟨a0,a1,rfl,h⟩:=Px (f:=f r g K) h;exact(e r g K a0 a1 s).trans h
noncomputable def u3 (f:FV→FV→FV→GS→Bool)(vs:List FV)(s:GS):Bool:=List.rec (motive:=fun _=>(FV→FV→FV→GS→Bool)→GS→Bool) (fun _ _=>false) (fun a l _ f s=>u2 (f a) l s) vs f s
theorem Py {f:FV→FV→FV→GS→Bool} {vs:List FV} {s:GS} (h:u3 f vs s=true):∃a0 a1 a2,vs=[a0,a1,a2]∧f a0 a1 a2 s=true:=by cases vs with | nil=>cases h | cons a l=>(obtain⟨b0,b1,rfl,h⟩:=Px (show u2 (f a) l s=true from h);exact⟨a,_,_,rfl,h⟩)
theorem kS {X:Ctx} {τ:gK} {F:AF} {i:Nat} {f:Rn→Go→KS→FV→FV→FV→GS→Bool} (e:∀r g K a0 a1 a2 s,aV X τ F i r g K [a0,a1,a2] s=f r g K a0 a1 a2 s):BF.Ok X τ F i (fun r g K=>u3 (f r g K)):=fun r g K vs s h=>by obtain⟨a0,a1,a2,rfl,h⟩:=Py h;exact(e r g K a0 a1 a2 s).trans h
theorem jq {X:Ctx} {τ:gK} {F:AF} {f:Rn→Go→KS→FV→FV→FV→GS→Bool} (e:∀r g K a0 a1 a2 s,aG X τ F r g [a0,a1,a2] s K=f r g K a0 a1 a2 s):∀r g args s K,(fun(r:Rn) (g:Go) (args:List FV) (s:GS) (K:KS)=>u3 (f r g K) args s) r g args s K=true→aG X τ F r g args s K=true:=fun r g args s K h=>by obtain⟨a0,a1,a2,rfl,h⟩:=Py (f:=f r g K) h;exact(e r g K a0 a1 a2 s).trans h
noncomputable def u4 (f:FV→FV→FV→FV→GS→Bool)(vs:List FV)(s:GS):Bool:=List.rec (motive:=fun _=>(FV→FV→FV→FV→GS→Bool)→GS→Bool) (fun _ _=>false) (fun a l _ f s=>u3 (f a) l s) vs f s
theorem Pz {f:FV→FV→FV→FV→GS→Bool} {vs:List FV} {s:GS} (h:u4 f vs s=true):∃a0 a1 a2 a3,vs=[a0,a1,a2,a3]∧f a0 a1 a2 a3 s=true:=by cases vs with | nil=>cases h | cons a l=>(obtain⟨b0,b1,b2,rfl,h⟩:=Py (show u3 (f a) l s=true from h);exact⟨a,_,_,_,rfl,h⟩)
theorem qh {X:Ctx} {τ:gK} {F:AF} {i:Nat} {f:Rn→Go→KS→FV→FV→FV→FV→GS→Bool} (e:∀r g K a0 a1 a2 a3 s,aV X τ F i r g K [a0,a1,a2,a3] s=f r g K a0 a1 a2 a3 s):BF.Ok X τ F i (fun r g K=>u4 (f r g K)):=fun r g K vs s h=>by obtain⟨a0,a1,a2,a3,rfl,h⟩:=Pz h;exact(e r g K a0 a1 a2 a3 s).trans h
theorem tC {X:Ctx} {τ:gK} {F:AF} {f:Rn→Go→KS→FV→FV→FV→FV→GS→Bool} (e:∀r g K a0 a1 a2 a3 s,aG X τ F r g [a0,a1,a2,a3] s K=f r g K a0 a1 a2 a3 s):∀r g args s K,(fun(r:Rn) (g:Go) (args:List FV) (s:GS) (K:KS)=>u4 (f r g K) args s) r g args s K=true→aG X τ F r g args s K=true:=fun r g args s K h=>by obtain⟨a0,a1,a2,a3,rfl,h⟩:=Pz (f:=f r g K) h;exact(e r g K a0 a1 a2 a3 s).trans h
noncomputable def u5 (f:FV→FV→FV→FV→FV→GS→Bool)(vs:List FV)(s:GS):Bool:=List.rec (motive:=fun _=>(FV→FV→FV→FV→FV→GS→Bool)→GS→Bool) (fun _ _=>false) (fun a l _ f s=>u4 (f a) l s) vs f s
theorem PD {f:FV→FV→FV→FV→FV→GS→Bool} {vs:List FV} {s:GS} (h:u5 f vs s=true):∃a0 a1 a2 a3 a4,vs=[a0,a1,a2,a3,a4]∧f a0 a1 a2 a3 a4 s=true:=by cases vs with | nil=>cases h | cons a l=>(obtain⟨b0,b1,b2,b3,rfl,h⟩:=Pz (show u4 (f a) l s=true from h);exact⟨a,_,_,_,_,rfl,h⟩)
theorem kT {X:Ctx} {τ:gK} {F:AF} {i:Nat} {f:Rn→Go→KS→FV→FV→FV→FV→FV→GS→Bool} (e:∀r g K a0 a1 a2 a3 a4 s,aV X τ F i r g K [a0,a1,a2,a3,a4] s=f r g K a0 a1 a2 a3 a4 s):BF.Ok X τ F i (fun r g K=>u5 (f r g K)):=fun r g K vs s h=>by obtain⟨a0,a1,a2,a3,a4,rfl,h⟩:=PD h;exact(e r g K a0 a1 a2 a3 a4 s).trans h
theorem PE {X:Ctx} {τ:gK} {F:AF} {f:Rn→Go→KS→FV→FV→FV→FV→FV→GS→Bool} (e:∀r g K a0 a1 a2 a3 a4 s,aG X τ F r g [a0,a1,a2,a3,a4] s K=f r g K a0 a1 a2 a3 a4 s):∀r g args s K,(fun(r:Rn) (g:Go) (args:List FV) (s:GS) (K:KS)=>u5 (f r g K) args s) r g args s K=true→aG X τ F r g args s K=true:=fun r g args s K h=>by obtain⟨a0,a1,a2,a3,a4,rfl,h⟩:=PD (f:=f r g K) h;exact(e r g K a0 a1 a2 a3 a4 s).trans h
noncomputable def u6 (f:FV→FV→FV→FV→FV→FV→GS→Bool)(vs:List FV)(s:GS):Bool:=List.rec (motive:=fun _=>(FV→FV→FV→FV→FV→FV→GS→Bool)→GS→Bool) (fun _ _=>false) (fun a l _ f s=>u5 (f a) l s) vs f s
theorem PG {f:FV→FV→FV→FV→FV→FV→GS→Bool} {vs:List FV} {s:GS} (h:u6 f vs s=true):∃a0 a1 a2 a3 a4 a5,vs=[a0,a1,a2,a3,a4,a5]∧f a0 a1 a2 a3 a4 a5 s=true:=by cases vs with | nil=>cases h | cons a l=>(obtain⟨b0,b1,b2,b3,b4,rfl,h⟩:=PD (show u5 (f a) l s=true from h);exact⟨a,_,_,_,_,_,rfl,h⟩)
theorem nV {X:Ctx} {τ:gK} {F:AF} {i:Nat} {f:Rn→Go→KS→FV→FV→FV→FV→FV→FV→GS→Bool} (e:∀r g K a0 a1 a2 a3 a4 a5 s,aV X τ F i r g K [a0,a1,a2,a3,a4,a5] s=f r g K a0 a1 a2 a3 a4 a5 s):BF.Ok X τ F i (fun r g K=>u6 (f r g K)):=fun r g K vs s h=>by obtain⟨a0,a1,a2,a3,a4,a5,rfl,h⟩:=PG h;exact(e r g K a0 a1 a2 a3 a4 a5 s).trans h
theorem u6_en {X:Ctx} {τ:gK} {F:AF} {f:Rn→Go→KS→FV→FV→FV→FV→FV→FV→GS→Bool} (e:∀r g K a0 a1 a2 a3 a4 a5 s,aG X τ F r g [a0,a1,a2,a3,a4,a5] s K=f r g K a0 a1 a2 a3 a4 a5 s):∀r g args s K,(fun(r:Rn) (g:Go) (args:List FV) (s:GS) (K:KS)=>u6 (f r g K) args s) r g args s K=true→aG X τ F r g args s K=true:=fun r g args s K h=>by obtain⟨a0,a1,a2,a3,a4,a5,rfl,h⟩:=PG (f:=f r g K) h;exact(e r g K a0 a1 a2 a3 a4 a5 s).trans h
noncomputable def u7 (f:FV→FV→FV→FV→FV→FV→FV→GS→Bool)(vs:List FV)(s:GS):Bool:=List.rec (motive:=fun _=>(FV→FV→FV→FV→FV→FV→FV→GS→Bool)→GS→Bool) (fun _ _=>false) (fun a l _ f s=>u6 (f a) l s) vs f s
theorem Ze {f:FV→FV→FV→FV→FV→FV→FV→GS→Bool} {vs:List FV} {s:GS} (h:u7 f vs s=true):∃a0 a1 a2 a3 a4 a5 a6,vs=[a0,a1,a2,a3,a4,a5,a6]∧f a0 a1 a2 a3 a4 a5 a6 s=true:=by cases vs with | nil=>cases h | cons a l=>(obtain⟨b0,b1,b2,b3,b4,b5,rfl,h⟩:=PG (show u6 (f a) l s=true from h);exact⟨a,_,_,_,_,_,_,rfl,h⟩)
theorem Ba {X:Ctx} {τ:gK} {F:AF} {i:Nat} {f:Rn→Go→KS→FV→FV→FV→FV→FV→FV→FV→GS→Bool} (e:∀r g K a0 a1 a2 a3 a4 a5 a6 s,aV X τ F i r g K [a0,a1,a2,a3,a4,a5,a6] s=f r g K a0 a1 a2 a3 a4 a5 a6 s):BF.Ok X τ F i (fun r g K=>u7 (f r g K)):=fun r g K vs s h=>by obtain⟨a0,a1,a2,a3,a4,a5,a6,rfl,h⟩:=Ze h;exact(e r g K a0 a1 a2 a3 a4 a5 a6 s).trans h
noncomputable def u8 (f:FV→FV→FV→FV→FV→FV→FV→FV→GS→Bool)(vs:List FV)(s:GS):Bool:=List.rec (motive:=fun _=>(FV→FV→FV→FV→FV→FV→FV→FV→GS→Bool)→GS→Bool) (fun _ _=>false) (fun a l _ f s=>u7 (f a) l s) vs f s
theorem Zf {f:FV→FV→FV→FV→FV→FV→FV→FV→GS→Bool} {vs:List FV} {s:GS} (h:u8 f vs s=true):∃a0 a1 a2 a3 a4 a5 a6 a7,vs=[a0,a1,a2,a3,a4,a5,a6,a7]∧f a0 a1 a2 a3 a4 a5 a6 a7 s=true:=by cases vs with | nil=>cases h | cons a l=>(obtain⟨b0,b1,b2,b3,b4,b5,b6,rfl,h⟩:=Ze (show u7 (f a) l s=true from h);exact⟨a,_,_,_,_,_,_,_,rfl,h⟩)
theorem Zg {X:Ctx} {τ:gK} {F:AF} {i:Nat} {f:Rn→Go→KS→FV→FV→FV→FV→FV→FV→FV→FV→GS→Bool} (e:∀r g K a0 a1 a2 a3 a4 a5 a6 a7 s,aV X τ F i r g K [a0,a1,a2,a3,a4,a5,a6,a7] s=f r g K a0 a1 a2 a3 a4 a5 a6 a7 s):BF.Ok X τ F i (fun r g K=>u8 (f r g K)):=fun r g K vs s h=>by obtain⟨a0,a1,a2,a3,a4,a5,a6,a7,rfl,h⟩:=Zf h;exact(e r g K a0 a1 a2 a3 a4 a5 a6 a7 s).trans h
noncomputable def u9 (f:FV→FV→FV→FV→FV→FV→FV→FV→FV→GS→Bool)(vs:List FV)(s:GS):Bool:=List.rec (motive:=fun _=>(FV→FV→FV→FV→FV→FV→FV→FV→FV→GS→Bool)→GS→Bool) (fun _ _=>false) (fun a l _ f s=>u8 (f a) l s) vs f s
theorem Zh {f:FV→FV→FV→FV→FV→FV→FV→FV→FV→GS→Bool} {vs:List FV} {s:GS} (h:u9 f vs s=true):∃a0 a1 a2 a3 a4 a5 a6 a7 a8,vs=[a0,a1,a2,a3,a4,a5,a6,a7,a8]∧f a0 a1 a2 a3 a4 a5 a6 a7 a8 s=true:=by cases vs with | nil=>cases h | cons a l=>(obtain⟨b0,b1,b2,b3,b4,b5,b6,b7,rfl,h⟩:=Zf (show u8 (f a) l s=true from h);exact⟨a,_,_,_,_,_,_,_,_,rfl,h⟩)
theorem yT {X:Ctx} {τ:gK} {F:AF} {i:Nat} {f:Rn→Go→KS→FV→FV→FV→FV→FV→FV→FV→FV→FV→GS→Bool} (e:∀r g K a0 a1 a2 a3 a4 a5 a6 a7 a8 s,aV X τ F i r g K [a0,a1,a2,a3,a4,a5,a6,a7,a8] s=f r g K a0 a1 a2 a3 a4 a5 a6 a7 a8 s):BF.Ok X τ F i (fun r g K=>u9 (f r g K)):=fun r g K vs s h=>by obtain⟨a0,a1,a2,a3,a4,a5,a6,a7,a8,rfl,h⟩:=Zh h;exact(e r g K a0 a1 a2 a3 a4 a5 a6 a7 a8 s).trans h
noncomputable def u10 (f:FV→FV→FV→FV→FV→FV→FV→FV→FV→FV→GS→Bool)(vs:List FV)(s:GS):Bool:=List.rec (motive:=fun _=>(FV→FV→FV→FV→FV→FV→FV→FV→FV→FV→GS→Bool)→GS→Bool) (fun _ _=>false) (fun a l _ f s=>u9 (f a) l s) vs f s
theorem PI {f:FV→FV→FV→FV→FV→FV→FV→FV→FV→FV→GS→Bool} {vs:List FV} {s:GS} (h:u10 f vs s=true):∃a0 a1 a2 a3 a4 a5 a6 a7 a8 a9,vs=[a0,a1,a2,a3,a4,a5,a6,a7,a8,a9]∧f a0 a1 a2 a3 a4 a5 a6 a7 a8 a9 s=true:=by cases vs with | nil=>cases h | cons a l=>(obtain⟨b0,b1,b2,b3,b4,b5,b6,b7,b8,rfl,h⟩:=Zh (show u9 (f a) l s=true from h);exact⟨a,_,_,_,_,_,_,_,_,_,rfl,h⟩)
theorem PK {X:Ctx} {τ:gK} {F:AF} {i:Nat} {f:Rn→Go→KS→FV→FV→FV→FV→FV→FV→FV→FV→FV→FV→GS→Bool} (e:∀r g K a0 a1 a2 a3 a4 a5 a6 a7 a8 a9 s,aV X τ F i r g K [a0,a1,a2,a3,a4,a5,a6,a7,a8,a9] s=f r g K a0 a1 a2 a3 a4 a5 a6 a7 a8 a9 s):BF.Ok X τ F i (fun r g K=>u10 (f r g K)):=fun r g K vs s h=>by obtain⟨a0,a1,a2,a3,a4,a5,a6,a7,a8,a9,rfl,h⟩:=PI h;exact(e r g K a0 a1 a2 a3 a4 a5 a6 a7 a8 a9 s).trans h
noncomputable def u11 (f:FV→FV→FV→FV→FV→FV→FV→FV→FV→FV→FV→GS→Bool)(vs:List FV)(s:GS):Bool:=List.rec (motive:=fun _=>(FV→FV→FV→FV→FV→FV→FV→FV→FV→FV→FV→GS→Bool)→GS→Bool) (fun _ _=>false) (fun a l _ f s=>u10 (f a) l s) vs f s
theorem u11_ok {f:FV→FV→FV→FV→FV→FV→FV→FV→FV→FV→FV→GS→Bool} {vs:List FV} {s:GS} (h:u11 f vs s=true):∃a0 a1 a2 a3 a4 a5 a6 a7 a8 a9 a10,vs=[a0,a1,a2,a3,a4,a5,a6,a7,a8,a9,a10]∧f a0 a1 a2 a3 a4 a5 a6 a7 a8 a9 a10 s=true:=by cases vs with | nil=>cases h | cons a l=>(obtain⟨b0,b1,b2,b3,b4,b5,b6,b7,b8,b9,rfl,h⟩:=PI (show u10 (f a) l s=true from h);exact⟨a,_,_,_,_,_,_,_,_,_,_,rfl,h⟩)
noncomputable def u12 (f:FV→FV→FV→FV→FV→FV→FV→FV→FV→FV→FV→FV→GS→Bool)(vs:List FV)(s:GS):Bool:=List.rec (motive:=fun _=>(FV→FV→FV→FV→FV→FV→FV→FV→FV→FV→FV→FV→GS→Bool)→GS→Bool) (fun _ _=>false) (fun a l _ f s=>u11 (f a) l s) vs f s
theorem u12_ok {f:FV→FV→FV→FV→FV→FV→FV→FV→FV→FV→FV→FV→GS→Bool} {vs:List FV} {s:GS} (h:u12 f vs s=true):∃a0 a1 a2 a3 a4 a5 a6 a7 a8 a9 a10 a11,vs=[a0,a1,a2,a3,a4,a5,a6,a7,a8,a9,a10,a11]∧f a0 a1 a2 a3 a4 a5 a6 a7 a8 a9 a10 a11 s=true:=by cases vs with | nil=>cases h | cons a l=>(obtain⟨b0,b1,b2,b3,b4,b5,b6,b7,b8,b9,b10,rfl,h⟩:=u11_ok (show u11 (f a) l s=true from h);exact⟨a,_,_,_,_,_,_,_,_,_,_,_,rfl,h⟩)
noncomputable def u13 (f:FV→FV→FV→FV→FV→FV→FV→FV→FV→FV→FV→FV→FV→GS→Bool)(vs:List FV)(s:GS):Bool:=List.rec (motive:=fun _=>(FV→FV→FV→FV→FV→FV→FV→FV→FV→FV→FV→FV→FV→GS→Bool)→GS→Bool) (fun _ _=>false) (fun a l _ f s=>u12 (f a) l s) vs f s
theorem u13_ok {f:FV→FV→FV→FV→FV→FV→FV→FV→FV→FV→FV→FV→FV→GS→Bool} {vs:List FV} {s:GS} (h:u13 f vs s=true):∃a0 a1 a2 a3 a4 a5 a6 a7 a8 a9 a10 a11 a12,vs=[a0,a1,a2,a3,a4,a5,a6,a7,a8,a9,a10,a11,a12]∧f a0 a1 a2 a3 a4 a5 a6 a7 a8 a9 a10 a11 a12 s=true:=by cases vs with | nil=>cases h | cons a l=>(obtain⟨b0,b1,b2,b3,b4,b5,b6,b7,b8,b9,b10,b11,rfl,h⟩:=u12_ok (show u12 (f a) l s=true from h);exact⟨a,_,_,_,_,_,_,_,_,_,_,_,_,rfl,h⟩)
noncomputable def u14 (f:FV→FV→FV→FV→FV→FV→FV→FV→FV→FV→FV→FV→FV→FV→GS→Bool)(vs:List FV)(s:GS):Bool:=List.rec (motive:=fun _=>(FV→FV→FV→FV→FV→FV→FV→FV→FV→FV→FV→FV→FV→FV→GS→Bool)→GS→Bool) (fun _ _=>false) (fun a l _ f s=>u13 (f a) l s) vs f s
theorem u14_ok {f:FV→FV→FV→FV→FV→FV→FV→FV→FV→FV→FV→FV→FV→FV→GS→Bool} {vs:List FV} {s:GS} (h:u14 f vs s=true):∃a0 a1 a2 a3 a4 a5 a6 a7 a8 a9 a10 a11 a12 wR,vs=[a0,a1,a2,a3,a4,a5,a6,a7,a8,a9,a10,a11,a12,wR]∧f a0 a1 a2 a3 a4 a5 a6 a7 a8 a9 a10 a11 a12 wR s=true:=by cases vs with | nil=>cases h | cons a l=>(obtain⟨b0,b1,b2,b3,b4,b5,b6,b7,b8,b9,b10,b11,b12,rfl,h⟩:=u13_ok (show u13 (f a) l s=true from h);exact⟨a,_,_,_,_,_,_,_,_,_,_,_,_,_,rfl,h⟩)
noncomputable def u15 (f:FV→FV→FV→FV→FV→FV→FV→FV→FV→FV→FV→FV→FV→FV→FV→GS→Bool)(vs:List FV)(s:GS):Bool:=List.rec (motive:=fun _=>(FV→FV→FV→FV→FV→FV→FV→FV→FV→FV→FV→FV→FV→FV→FV→GS→Bool)→GS→Bool) (fun _ _=>false) (fun a l _ f s=>u14 (f a) l s) vs f s
theorem PL {f:FV→FV→FV→FV→FV→FV→FV→FV→FV→FV→FV→FV→FV→FV→FV→GS→Bool} {vs:List FV} {s:GS} (h:u15 f vs s=true):∃a0 a1 a2 a3 a4 a5 a6 a7 a8 a9 a10 a11 a12 wR zx,vs=[a0,a1,a2,a3,a4,a5,a6,a7,a8,a9,a10,a11,a12,wR,zx]∧f a0 a1 a2 a3 a4 a5 a6 a7 a8 a9 a10 a11 a12 wR zx s=true:=by cases vs with | nil=>cases h | cons a l=>(obtain⟨b0,b1,b2,b3,b4,b5,b6,b7,b8,b9,b10,b11,b12,b13,rfl,h⟩:=u14_ok (show u14 (f a) l s=true from h);exact⟨a,_,_,_,_,_,_,_,_,_,_,_,_,_,_,rfl,h⟩)
theorem u15_bf {X:Ctx} {τ:gK} {F:AF} {i:Nat} {f:Rn→Go→KS→FV→FV→FV→FV→FV→FV→FV→FV→FV→FV→FV→FV→FV→FV→FV→GS→Bool} (e:∀r g K a0 a1 a2 a3 a4 a5 a6 a7 a8 a9 a10 a11 a12 wR zx s,aV X τ F i r g K [a0,a1,a2,a3,a4,a5,a6,a7,a8,a9,a10,a11,a12,wR,zx] s=f r g K a0 a1 a2 a3 a4 a5 a6 a7 a8 a9 a10 a11 a12 wR zx s):BF.Ok X τ F i (fun r g K=>u15 (f r g K)):=fun r g K vs s h=>by obtain⟨a0,a1,a2,a3,a4,a5,a6,a7,a8,a9,a10,a11,a12,wR,zx,rfl,h⟩:=PL h;exact(e r g K a0 a1 a2 a3 a4 a5 a6 a7 a8 a9 a10 a11 a12 wR zx s).trans h
noncomputable def u16 (f:FV→FV→FV→FV→FV→FV→FV→FV→FV→FV→FV→FV→FV→FV→FV→FV→GS→Bool)(vs:List FV)(s:GS):Bool:=List.rec (motive:=fun _=>(FV→FV→FV→FV→FV→FV→FV→FV→FV→FV→FV→FV→FV→FV→FV→FV→GS→Bool)→GS→Bool) (fun _ _=>false) (fun a l _ f s=>u15 (f a) l s) vs f s
theorem u16_ok {f:FV→FV→FV→FV→FV→FV→FV→FV→FV→FV→FV→FV→FV→FV→FV→FV→GS→Bool} {vs:List FV} {s:GS} (h:u16 f vs s=true):∃a0 a1 a2 a3 a4 a5 a6 a7 a8 a9 a10 a11 a12 wR zx KE,vs=[a0,a1,a2,a3,a4,a5,a6,a7,a8,a9,a10,a11,a12,wR,zx,KE]∧f a0 a1 a2 a3 a4 a5 a6 a7 a8 a9 a10 a11 a12 wR zx KE s=true:=by cases vs with | nil=>cases h | cons a l=>(obtain⟨b0,b1,b2,b3,b4,b5,b6,b7,b8,b9,b10,b11,b12,b13,b14,rfl,h⟩:=PL (show u15 (f a) l s=true from h);exact⟨a,_,_,_,_,_,_,_,_,_,_,_,_,_,_,_,rfl,h⟩)
noncomputable def u17 (f:FV→FV→FV→FV→FV→FV→FV→FV→FV→FV→FV→FV→FV→FV→FV→FV→FV→GS→Bool)(vs:List FV)(s:GS):Bool:=List.rec (motive:=fun _=>(FV→FV→FV→FV→FV→FV→FV→FV→FV→FV→FV→FV→FV→FV→FV→FV→FV→GS→Bool)→GS→Bool) (fun _ _=>false) (fun a l _ f s=>u16 (f a) l s) vs f s
theorem u17_ok {f:FV→FV→FV→FV→FV→FV→FV→FV→FV→FV→FV→FV→FV→FV→FV→FV→FV→GS→Bool} {vs:List FV} {s:GS} (h:u17 f vs s=true):∃a0 a1 a2 a3 a4 a5 a6 a7 a8 a9 a10 a11 a12 wR zx KE a16,vs=[a0,a1,a2,a3,a4,a5,a6,a7,a8,a9,a10,a11,a12,wR,zx,KE,a16]∧f a0 a1 a2 a3 a4 a5 a6 a7 a8 a9 a10 a11 a12 wR zx KE a16 s=true:=by cases vs with | nil=>cases h | cons a l=>(obtain⟨b0,b1,b2,b3,b4,b5,b6,b7,b8,b9,b10,b11,b12,b13,b14,b15,rfl,h⟩:=u16_ok (show u16 (f a) l s=true from h);exact⟨a,_,_,_,_,_,_,_,_,_,_,_,_,_,_,_,_,rfl,h⟩)
noncomputable def u18 (f:FV→FV→FV→FV→FV→FV→FV→FV→FV→FV→FV→FV→FV→FV→FV→FV→FV→FV→GS→Bool)(vs:List FV)(s:GS):Bool:=List.rec (motive:=fun _=>(FV→FV→FV→FV→FV→FV→FV→FV→FV→FV→FV→FV→FV→FV→FV→FV→FV→FV→GS→Bool)→GS→Bool) (fun _ _=>false) (fun a l _ f s=>u17 (f a) l s) vs f s
theorem u18_ok {f:FV→FV→FV→FV→FV→FV→FV→FV→FV→FV→FV→FV→FV→FV→FV→FV→FV→FV→GS→Bool} {vs:List FV} {s:GS} (h:u18 f vs s=true):∃a0 a1 a2 a3 a4 a5 a6 a7 a8 a9 a10 a11 a12 wR zx KE a16 a17,vs=[a0,a1,a2,a3,a4,a5,a6,a7,a8,a9,a10,a11,a12,wR,zx,KE,a16,a17]∧f a0 a1 a2 a3 a4 a5 a6 a7 a8 a9 a10 a11 a12 wR zx KE a16 a17 s=true:=by cases vs with | nil=>cases h | cons a l=>(obtain⟨b0,b1,b2,b3,b4,b5,b6,b7,b8,b9,b10,b11,b12,b13,b14,b15,b16,rfl,h⟩:=u17_ok (show u17 (f a) l s=true from h);exact⟨a,_,_,_,_,_,_,_,_,_,_,_,_,_,_,_,_,_,rfl,h⟩)
theorem u18_bf {X:Ctx} {τ:gK} {F:AF} {i:Nat} {f:Rn→Go→KS→FV→FV→FV→FV→FV→FV→FV→FV→FV→FV→FV→FV→FV→FV→FV→FV→FV→FV→GS→Bool} (e:∀r g K a0 a1 a2 a3 a4 a5 a6 a7 a8 a9 a10 a11 a12 wR zx KE a16 a17 s,aV X τ F i r g K [a0,a1,a2,a3,a4,a5,a6,a7,a8,a9,a10,a11,a12,wR,zx,KE,a16,a17] s=f r g K a0 a1 a2 a3 a4 a5 a6 a7 a8 a9 a10 a11 a12 wR zx KE a16 a17 s):BF.Ok X τ F i (fun r g K=>u18 (f r g K)):=fun r g K vs s h=>by obtain⟨a0,a1,a2,a3,a4,a5,a6,a7,a8,a9,a10,a11,a12,wR,zx,KE,a16,a17,rfl,h⟩:=u18_ok h;exact(e r g K a0 a1 a2 a3 a4 a5 a6 a7 a8 a9 a10 a11 a12 wR zx KE a16 a17 s).trans h
noncomputable def u19 (f:FV→FV→FV→FV→FV→FV→FV→FV→FV→FV→FV→FV→FV→FV→FV→FV→FV→FV→FV→GS→Bool)(vs:List FV)(s:GS):Bool:=List.rec (motive:=fun _=>(FV→FV→FV→FV→FV→FV→FV→FV→FV→FV→FV→FV→FV→FV→FV→FV→FV→FV→FV→GS→Bool)→GS→Bool) (fun _ _=>false) (fun a l _ f s=>u18 (f a) l s) vs f s
noncomputable def u20 (f:FV→FV→FV→FV→FV→FV→FV→FV→FV→FV→FV→FV→FV→FV→FV→FV→FV→FV→FV→FV→GS→Bool)(vs:List FV)(s:GS):Bool:=List.rec (motive:=fun _=>(FV→FV→FV→FV→FV→FV→FV→FV→FV→FV→FV→FV→FV→FV→FV→FV→FV→FV→FV→FV→GS→Bool)→GS→Bool) (fun _ _=>false) (fun a l _ f s=>u19 (f a) l s) vs f s
noncomputable def u21 (f:FV→FV→FV→FV→FV→FV→FV→FV→FV→FV→FV→FV→FV→FV→FV→FV→FV→FV→FV→FV→FV→GS→Bool)(vs:List FV)(s:GS):Bool:=List.rec (motive:=fun _=>(FV→FV→FV→FV→FV→FV→FV→FV→FV→FV→FV→FV→FV→FV→FV→FV→FV→FV→FV→FV→FV→GS→Bool)→GS→Bool) (fun _ _=>false) (fun a l _ f s=>u20 (f a) l s) vs f s
noncomputable def u22 (f:FV→FV→FV→FV→FV→FV→FV→FV→FV→FV→FV→FV→FV→FV→FV→FV→FV→FV→FV→FV→FV→FV→GS→Bool)(vs:List FV)(s:GS):Bool:=List.rec (motive:=fun _=>(FV→FV→FV→FV→FV→FV→FV→FV→FV→FV→FV→FV→FV→FV→FV→FV→FV→FV→FV→FV→FV→FV→GS→Bool)→GS→Bool) (fun _ _=>false) (fun a l _ f s=>u21 (f a) l s) vs f s
noncomputable def u23 (f:FV→FV→FV→FV→FV→FV→FV→FV→FV→FV→FV→FV→FV→FV→FV→FV→FV→FV→FV→FV→FV→FV→FV→GS→Bool)(vs:List FV)(s:GS):Bool:=List.rec (motive:=fun _=>(FV→FV→FV→FV→FV→FV→FV→FV→FV→FV→FV→FV→FV→FV→FV→FV→FV→FV→FV→FV→FV→FV→FV→GS→Bool)→GS→Bool) (fun _ _=>false) (fun a l _ f s=>u22 (f a) l s) vs f s
noncomputable def u24 (f:FV→FV→FV→FV→FV→FV→FV→FV→FV→FV→FV→FV→FV→FV→FV→FV→FV→FV→FV→FV→FV→FV→FV→FV→GS→Bool)(vs:List FV)(s:GS):Bool:=List.rec (motive:=fun _=>(FV→FV→FV→FV→FV→FV→FV→FV→FV→FV→FV→FV→FV→FV→FV→FV→FV→FV→FV→FV→FV→FV→FV→FV→GS→Bool)→GS→Bool) (fun _ _=>false) (fun a l _ f s=>u23 (f a) l s) vs f s
noncomputable def u25 (f:FV→FV→FV→FV→FV→FV→FV→FV→FV→FV→FV→FV→FV→FV→FV→FV→FV→FV→FV→FV→FV→FV→FV→FV→FV→GS→Bool)(vs:List FV)(s:GS):Bool:=List.rec (motive:=fun _=>(FV→FV→FV→FV→FV→FV→FV→FV→FV→FV→FV→FV→FV→FV→FV→FV→FV→FV→FV→FV→FV→FV→FV→FV→FV→GS→Bool)→GS→Bool) (fun _ _=>false) (fun a l _ f s=>u24 (f a) l s) vs f s
noncomputable def u26 (f:FV→FV→FV→FV→FV→FV→FV→FV→FV→FV→FV→FV→FV→FV→FV→FV→FV→FV→FV→FV→FV→FV→FV→FV→FV→FV→GS→Bool)(vs:List FV)(s:GS):Bool:=List.rec (motive:=fun _=>(FV→FV→FV→FV→FV→FV→FV→FV→FV→FV→FV→FV→FV→FV→FV→FV→FV→FV→FV→FV→FV→FV→FV→FV→FV→FV→GS→Bool)→GS→Bool) (fun _ _=>false) (fun a l _ f s=>u25 (f a) l s) vs f s
noncomputable def u27 (f:FV→FV→FV→FV→FV→FV→FV→FV→FV→FV→FV→FV→FV→FV→FV→FV→FV→FV→FV→FV→FV→FV→FV→FV→FV→FV→FV→GS→Bool)(vs:List FV)(s:GS):Bool:=List.rec (motive:=fun _=>(FV→FV→FV→FV→FV→FV→FV→FV→FV→FV→FV→FV→FV→FV→FV→FV→FV→FV→FV→FV→FV→FV→FV→FV→FV→FV→FV→GS→Bool)→GS→Bool) (fun _ _=>false) (fun a l _ f s=>u26 (f a) l s) vs f s
noncomputable def u28 (f:FV→FV→FV→FV→FV→FV→FV→FV→FV→FV→FV→FV→FV→FV→FV→FV→FV→FV→FV→FV→FV→FV→FV→FV→FV→FV→FV→FV→GS→Bool)(vs:List FV)(s:GS):Bool:=List.rec (motive:=fun _=>(FV→FV→FV→FV→FV→FV→FV→FV→FV→FV→FV→FV→FV→FV→FV→FV→FV→FV→FV→FV→FV→FV→FV→FV→FV→FV→FV→FV→GS→Bool)→GS→Bool) (fun _ _=>false) (fun a l _ f s=>u27 (f a) l s) vs f s
noncomputable def u29 (f:FV→FV→FV→FV→FV→FV→FV→FV→FV→FV→FV→FV→FV→FV→FV→FV→FV→FV→FV→FV→FV→FV→FV→FV→FV→FV→FV→FV→FV→GS→Bool)(vs:List FV)(s:GS):Bool:=List.rec (motive:=fun _=>(FV→FV→FV→FV→FV→FV→FV→FV→FV→FV→FV→FV→FV→FV→FV→FV→FV→FV→FV→FV→FV→FV→FV→FV→FV→FV→FV→FV→FV→GS→Bool)→GS→Bool) (fun _ _=>false) (fun a l _ f s=>u28 (f a) l s) vs f s
noncomputable def u30 (f:FV→FV→FV→FV→FV→FV→FV→FV→FV→FV→FV→FV→FV→FV→FV→FV→FV→FV→FV→FV→FV→FV→FV→FV→FV→FV→FV→FV→FV→FV→GS→Bool)(vs:List FV)(s:GS):Bool:=List.rec (motive:=fun _=>(FV→FV→FV→FV→FV→FV→FV→FV→FV→FV→FV→FV→FV→FV→FV→FV→FV→FV→FV→FV→FV→FV→FV→FV→FV→FV→FV→FV→FV→FV→GS→Bool)→GS→Bool) (fun _ _=>false) (fun a l _ f s=>u29 (f a) l s) vs f s
noncomputable def u31 (f:FV→FV→FV→FV→FV→FV→FV→FV→FV→FV→FV→FV→FV→FV→FV→FV→FV→FV→FV→FV→FV→FV→FV→FV→FV→FV→FV→FV→FV→FV→FV→GS→Bool)(vs:List FV)(s:GS):Bool:=List.rec (motive:=fun _=>(FV→FV→FV→FV→FV→FV→FV→FV→FV→FV→FV→FV→FV→FV→FV→FV→FV→FV→FV→FV→FV→FV→FV→FV→FV→FV→FV→FV→FV→FV→FV→GS→Bool)→GS→Bool) (fun _ _=>false) (fun a l _ f s=>u30 (f a) l s) vs f s
noncomputable def u32 (f:FV→FV→FV→FV→FV→FV→FV→FV→FV→FV→FV→FV→FV→FV→FV→FV→FV→FV→FV→FV→FV→FV→FV→FV→FV→FV→FV→FV→FV→FV→FV→FV→GS→Bool)(vs:List FV)(s:GS):Bool:=List.rec (motive:=fun _=>(FV→FV→FV→FV→FV→FV→FV→FV→FV→FV→FV→FV→FV→FV→FV→FV→FV→FV→FV→FV→FV→FV→FV→FV→FV→FV→FV→FV→FV→FV→FV→FV→GS→Bool)→GS→Bool) (fun _ _=>false) (fun a l _ f s=>u31 (f a) l s) vs f s
end Go.dD
namespace Go.dD.YtnbdedokjfpckaaGreatDoor
open Go.Proofs
theorem tH {X:Ctx} {f:Nat} {p:List AV→St→Option (AV×St)} (hp:X.ql f=some p) {args:List FV} {σ:St} {K:KS} (h:Tj (p (args.map FV.av) σ) K):∃n,Tj (bFn X n f (args.map FV.av) σ) K:=by
 refine⟨1,?_⟩
 simp only [bFn,hp]
 exact h
theorem Zi (c:Nat):FV.av (.n 512 c)= .i .u8 (c%256:Nat):=by
 have hx:c%256<256:=Nat.mod_lt _ (by omega)
 rw [FV.yC,show (512:Nat)=tg .u8 from rfl,jl,←jM .u8 c,show c%2^IntKind.u8.bits=c%256 from rfl,wrap_small .u8 (by simp only [IntKind.signed,IntKind.bits,if_false,Bool.false_eq_true];omega)]
noncomputable def oV:FE:=fun _ args s K=>match args with
 | [.s n v,.n t c]=>bC (Nat.beq t (nat_lit 512)) (dP (some (.i .i64 (Lib.indexByte (eF n v) (Nat.mod c (nat_lit 256)).toUInt8))) fun r=>K r s) false
 | _=>false
theorem yU:oV.Ok XB 224:=by
 intro run hr args s σ K h hk
 refine tH (p:=kG) (by kernel_rfl) ?_
 unfold oV at hk
 split at hk
 ·rename_i n v t c
  obtain⟨h1,h2⟩:=aF hk
  have h1:t=512:=Nat.eq_of_beq_eq_true h1
  subst h1
  obtain⟨r,h3,h4⟩:=mW h2
  refine⟨r,σ,s,?_,h,h4⟩
  simp only [List.map_cons,List.map_nil,Zi c,FV.sN,kG,Int.toNat_natCast]
  rw [←show AV.i .i64 (Lib.indexByte (eF n v) (c%256).toUInt8)=r.av from Option.some.inj h3]
 ·cases hk
noncomputable def CO:FE:=fun _ args s K=>match args with
 | [.s n v,.n t c]=>bC (Nat.beq t (nat_lit 512)) (dP (some (.i .i64 (Lib.countByte (eF n v) (Nat.mod c (nat_lit 256)).toUInt8:Nat))) fun r=>K r s) false
 | _=>false
theorem G5:CO.Ok XB 198:=by
 intro run hr args s σ K h hk
 refine tH (p:=xX) (by kernel_rfl) ?_
 unfold CO at hk
 split at hk
 ·rename_i n v t c
  obtain⟨h1,h2⟩:=aF hk
  have h1:t=512:=Nat.eq_of_beq_eq_true h1
  subst h1
  obtain⟨r,h3,h4⟩:=mW h2
  refine⟨r,σ,s,?_,h,h4⟩
  simp only [List.map_cons,List.map_nil,Zi c,FV.sN,xX,Int.toNat_natCast]
  rw [←show AV.i .i64 (Lib.countByte (eF n v) (c%256).toUInt8:Nat)=r.av from Option.some.inj h3]
 ·cases hk
noncomputable def Zj (s:GS)(g:Nat)(K:KF):Bool:=yL (s.t.get g) (nat_lit 0) fun _ _ n m d t=>bC (Nat.ble (nat_lit 1) n) (yI m d t (nat_lit 0) K) false
theorem PN {s:GS} {σ:St} (h:s.Is σ) {g:Nat} {K:KF} (hk:Zj s g K=true):∃ro e v rest,σ[g]? =some ⟨0,ro,.cells e (FV.av v :: rest)⟩∧K v=true:=by
 obtain⟨ro,e,n,m,d,t,cs,h1,h2,h3⟩:=jJ h hk
 obtain⟨h4,h5⟩:=aF h3
 rw [sS] at h5
 have h4:1≤n:=Nat.le_of_ble_eq_true h4
 have h6:=h2.at_ 0 (by omega)
 cases cs with
 | nil=>simp at h6
 | cons c rest=>
   have h6:c=_:=Option.some.inj h6
   exact⟨ro,e,_,rest,by rw [←h6];exact h1,h5⟩
noncomputable def isIc:FV→Bool:=FV.rec (motive_1:=fun _=>Bool) (motive_2:=fun _=>PUnit) (fun _ _=>false) (fun _ _ _=>false) (fun _ _ _ _ _=>false) (fun _ _=>false) (fun t _ _ _=>Nat.beq t (nat_lit 2)) ⟨⟩ (fun _ _ _ _=>⟨⟩)
theorem VT {v:FV} (h:isIc v=true):∃t x,v.av= .ic t x:=by
 cases v with
 | c t a l=>have h:t=2:=Nat.eq_of_beq_eq_true h;subst h;exact⟨_,_,rfl⟩
 | _=>cases h
noncomputable def qL:FE:=fun _ args s K=>match args with
 | [.s n v,.n 36893488147419103233 10,.n 36893488147419103233 64]=>bC (Nat.ble n (nat_lit 281474976710656)) (match Lib.parseIntB 64 (eF n v) with
   | .ok u=>dP (some (.tu [.i .i64 u,.gq])) fun r=>K r s
   | .range=>false
   | Lib.NumEnd.syntax=>Zj s 4 fun e=>bC (isIc e) (K (.c 1 0 [.n 36893488147419103233 0,.c 2 269 [.n 0 0]]) s) false) false
 | _=>false
theorem zy:qL.Ok XB 146:=by
 intro run hr args s σ K h hk
 refine tH (p:=mM) (by kernel_rfl) ?_
 unfold qL at hk
 split at hk
 ·rename_i n v
  obtain⟨h1,h2⟩:=aF hk
  have h1:n≤281474976710656:=Nat.le_of_ble_eq_true h1
  have e10:FV.av (.n 36893488147419103233 10)= .i .i64 10:=fP (n:=10) (by omega)
  have e64:FV.av (.n 36893488147419103233 64)= .i .i64 64:=fP (n:=64) (by omega)
  simp only [List.map_cons,List.map_nil,e10,e64,FV.sN,mM]
  rw [d_,if_pos h1]
  split at h2
  ·rename_i u hu
   simp only [hu]
   obtain⟨r,h3,h4⟩:=mW h2
   exact⟨r,σ,s,by rw [Option.some.inj h3],h,h4⟩
  ·cases h2
  ·rename_i hu
   simp only [hu]
   obtain⟨ro,e,c,rest,q1,q2⟩:=PN h h2
   obtain⟨q3,q4⟩:=aF q2
   obtain⟨t,x,q5⟩:=VT q3
   rw [q5] at q1
   refine⟨_,σ,s,?_,h,q4⟩
   rw [q1,vF]
   simp only [List.map_cons,List.map_nil,Ed]
   rw [show FV.av (.n 36893488147419103233 0)= .i .i64 0 from fP (n:=0) (by omega)];rfl
 ·cases hk
noncomputable def PO:FE:=fun _ args s K=>match args with
 | [.n 36893488147419103233 16]=>OH 39 (nat_lit 4) (nat_lit 1) [.n 36893488147419103232 0] s fun o s1=>newL 152 [.n 36893488147419103233 256,.sl o 0 0 4 1] s1 fun o1 s2=>
     OH 5 (nat_lit 4096) (nat_lit 1) [.n 512 0] s2 fun o2 s3=>newL 103 [.p o1 0 0,.sl o2 0 0 4096 1] s3 fun o3 s4=>K (.c 1 0 [.p o3 0 0,.n 36893488147419103233 0]) s4
 | _=>false
theorem PS:PO.Ok XB 23:=by
 intro run hr args s σ K h hk
 refine tH (p:=NC) (by kernel_rfl) ?_
 unfold PO at hk
 split at hk
 ·have e16:FV.av (.n 36893488147419103233 16)= .i .i64 16:=fP (n:=16) (by omega)
  obtain⟨s1,k1,i1⟩:=wM h (dn.rep (d:=[.n 36893488147419103232 0]) rfl 4) hk
  obtain⟨s2,k2,i2⟩:=sZ i1 k1
  obtain⟨s3,k3,i3⟩:=wM i2 (dn.rep (d:=[.n 512 0]) rfl 4096) k2
  obtain⟨s4,k4,i4⟩:=sZ i3 k3
  refine⟨_,_,s4,?_,i4,k4⟩
  have l1:(bU 39 (h_ ([FV.n 36893488147419103232 0].map FV.av) 4) σ).length=σ.length+1:=by simp [bU]
  simp only [List.map_cons,List.map_nil,e16,NC]
  have z64:FV.av (.n 36893488147419103232 0)= .i .u64 0:=by rfl
  have z8:FV.av (.n 512 0)= .i .u8 0:=by rfl
  have z256:FV.av (.n 36893488147419103233 256)= .i .i64 256:=fP (n:=256) (by omega)
  have z0:FV.av (.n 36893488147419103233 0)= .i .i64 0:=fP (n:=0) (by omega)
  rw [vF]
  simp only [List.map_cons,List.map_nil,FV.vN,FV.qc,z64,z8,z256,z0,bU,List.length_append,List.length_cons,List.length_nil,wH,xW,sF,List.append_assoc,List.cons_append,List.nil_append]
 ·cases hk
noncomputable def fv1:FV→FV
 | .p o g k=>.p o g (Nat.succ k)
 | v=>v
noncomputable def yV:FE:=fun _ args s K=>match args with
 | [p,r,b]=>ak p s fun m=>ak m s fun n=>ak (fv1 m) s fun l=>match Nw r.av b.av n.av l.av with
   | some q=>ak (.p q.1 q.2.1 q.2.2.1) s fun x=>match FZ x.av q.2.2.2 with
     | some z=>dP (some (.i .u64 z)) fun y=>aW (.p q.1 q.2.1 q.2.2.1) y s fun s'=>dP (some (.b true)) fun r=>K r s'
     | none=>false
   | none=>false
 | _=>false
theorem EN:yV.Ok XB 40:=by
 intro run hr args s σ K h hk
 refine tH (p:=sD) (by kernel_rfl) ?_
 unfold yV at hk
 split at hk
 ·rename_i p r b
  obtain⟨m,h1,hk⟩:=jY h (T:=yW) rfl hk
  have hm:(fv1 m).av=ch1 m.av:=by
   cases m with
   | p o g k=>rfl
   | _=>cases hk
  obtain⟨n,h2,hk⟩:=jY h (T:=yW) rfl hk
  obtain⟨l,h3,hk⟩:=jY h (T:=yW) rfl hk
  rw [hm] at h3
  split at hk
  ·rename_i q hq
   obtain⟨x,h4,hk⟩:=jY h (T:=yW) rfl hk
   rw [FV.vN] at h4
   split at hk
   ·rename_i z hz
    obtain⟨y,h5,hk⟩:=mW hk
    obtain⟨σ',s',h6,h7,hk⟩:=yM h (T:=yW) rfl hk
    obtain⟨r',h8,hk⟩:=mW hk
    rw [FV.vN,←Option.some.inj h5] at h6
    refine⟨r',σ',s',?_,h7,hk⟩
    simp only [List.map_cons,List.map_nil,sD,h1,h2,h3,hq,h4,hz,h6,Option.bind_some,Option.map_some]
    rw [Option.some.inj h8]
   ·cases hk
  ·cases hk
 ·cases hk
end Go.dD.YtnbdedokjfpckaaGreatDoor
