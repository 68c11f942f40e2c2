/- Texts of this claim, joined: Abs53, Abs54, Abs55. -/
import Derived.Test.YtobmjhfgmhfocaaGreatDoorM14
set_option linter.unusedVariables false
set_option linter.unusedSimpArgs false
namespace Go.bK
inductive Fr where
 | sq (b:Nat) (c:AC)
 | bk (id:Nat)
 | lp (b:Nat) (l:List Nat) (c:AC)
structure Nd where
 live:List Nat
 b:Nat
 c:AC
 fs:List Fr
noncomputable def Zp:List Nat→Bool:=List.rec (motive:=fun _=>Bool) false (fun d _ _=>Nat.beq d (nat_lit 1000000))
noncomputable def cnt:AC→Nat:=AC.rec (motive:=fun _=>Nat) 0 (fun _=>0) (fun _=>0) (fun _ _ a b=>Nat.add a b) (fun _ _ _ a b=>Nat.add a b) (fun _ _ a=>a) (fun _ _ a=>Nat.succ a) (fun l _ a=>bC (Zp l) (Nat.succ a) a) (fun _=>0) 0
def jB:AC→Nat
 | .seq a b=>jB a+jB b+1
 | .cond _ a b=>jB a+jB b+1
 | .blk _ c=>jB c+1
 | .loop _ c=>jB c+1
 | .cut _ c=>jB c+1
 | _=>1
noncomputable def nodes:AC→Nat→List Fr→List Nd:=AC.rec (motive:=fun _=>Nat→List Fr→List Nd)
 (fun _ _=>[]) (fun _ _ _=>[]) (fun _ _ _=>[])
 (fun a c iha NQ b fs=>iha b (.sq (Nat.add b (cnt a)) c :: fs) ++ NQ (Nat.add b (cnt a)) fs)
 (fun _ a _ iha NQ b fs=>iha b fs ++ NQ (Nat.add b (cnt a)) fs)
 (fun id _ ih b fs=>ih b (.bk id :: fs))
 (fun l c ih b fs=>⟨l,Nat.succ b,c,.lp b l c :: fs⟩ :: ih (Nat.succ b) (.lp b l c :: fs))
 (fun l c ih b fs=>bC (Zp l) (⟨l,Nat.succ b,c,fs⟩ :: ih (Nat.succ b) fs) (ih b fs))
 (fun _ _ _=>[]) (fun _ _=>[])
theorem uj (a c:AC)(b:Nat)(fs:List Fr):nodes (.seq a c) b fs=nodes a b (.sq (b+cnt a) c :: fs) ++ nodes c (b+cnt a) fs:=rfl
theorem qC (x:bH)(a c:AC)(b:Nat)(fs:List Fr):nodes (.cond x a c) b fs=nodes a b fs ++ nodes c (b+cnt a) fs:=rfl
theorem QU (id:Nat)(c:AC)(b:Nat)(fs:List Fr):nodes (.blk id c) b fs=nodes c b (.bk id :: fs):=rfl
theorem vY (l:List Nat)(c:AC)(b:Nat)(fs:List Fr):nodes (.loop l c) b fs=⟨l,b+1,c,.lp b l c :: fs⟩ :: nodes c (b+1) (.lp b l c :: fs):=rfl
theorem lH (l:List Nat)(c:AC)(b:Nat)(fs:List Fr):nodes (.cut l c) b fs=bC (Zp l) (⟨l,b+1,c,fs⟩ :: nodes c (b+1) fs) (nodes c b fs):=rfl
theorem Zq (l:List Nat)(c:AC):cnt (.cut l c)=bC (Zp l) (cnt c+1) (cnt c):=rfl
theorem um (c:AC):∀(b:Nat) (fs:List Fr),(nodes c b fs).length=cnt c:=by
 induction c with
 | skip=>intro b fs;rfl
 | reg _=>intro b fs;rfl
 | kU _=>intro b fs;rfl
 | exit _=>intro b fs;rfl
 | ret=>intro b fs;rfl
 | seq a c iha NQ=>intro b fs;rw [uj,List.length_append,iha,NQ];rfl
 | cond x a c iha NQ=>intro b fs;rw [qC,List.length_append,iha,NQ];rfl
 | blk id c ih=>intro b fs;rw [QU,ih];rfl
 | loop l c ih=>intro b fs;rw [vY,List.length_cons,ih];rfl
 | cut l c ih=>
   intro b fs
   rw [lH,Zq]
   cases Zp l with
   | true=>rw [lD,lD,List.length_cons,ih]
   | false=>rw [kF,kF,ih]
abbrev KQ:=Out→eP→GS→Bool
abbrev Go:=Nat→List FV→GS→Bool
noncomputable def valsF (e:eP):List Nat→List FV:=List.rec (motive:=fun _=>List FV) [] (fun d _ ih=>jW e d :: ih)
noncomputable def NR:List Nat→List FV→eP:=List.rec (motive:=fun _=>List FV→eP) (fun _=>[]) (fun d _ ih vs=>List.rec (motive:=fun _=>eP) [] (fun v vs _=>(d,v) :: ih vs) vs)
noncomputable abbrev kSeq (A:eP→GS→KQ→Bool) (Q:KQ):KQ:=fun o e s=>Out.rec (motive:=fun _=>Bool) (A e s Q) (fun id=>Q (.exit id) e s) (Q .ret e s) o
noncomputable abbrev kBlk (id:Nat) (Q:KQ):KQ:=fun o e s=>Out.rec (motive:=fun _=>Bool) (Q .normal e s) (fun j=>bC (Nat.beq j id) (Q .normal e s) (Q (.exit j) e s)) (Q .ret e s) o
noncomputable abbrev kLp (go:Go) (b:Nat) (l:List Nat) (Q:KQ):KQ:=fun o e s=>Out.rec (motive:=fun _=>Bool) (go b (valsF e l) s) (fun id=>Q (.exit id) e s) (Q .ret e s) o
section
variable (X:Ctx)(τ:jR)(run:Rn)(go:Go)
noncomputable def KA:AC→Nat→eP→GS→KQ→Bool:=AC.rec (motive:=fun _=>Nat→eP→GS→KQ→Bool)
 (fun _ e s Q=>Q .normal e s)
 (fun ops _ e s Q=>VP X τ run ops e s fun e s=>Q .normal e s)
 (fun ops _ e s Q=>VQ X τ run ops e s fun e s=>Q .normal e s)
 (fun a _ iha NQ b e s Q=>iha b e s (kSeq (NQ (Nat.add b (cnt a))) Q))
 (fun x a _ iha NQ b e s Q=>bC (vX x) (dIf (LU e x) (iha b e s Q) (NQ (Nat.add b (cnt a)) e s Q)) false)
 (fun id _ ih b e s Q=>ih b e s (kBlk id Q))
 (fun l _ _ b e s _=>go b (valsF e l) s)
 (fun l _ ih b e s Q=>bC (Zp l) (go b (valsF e l) s) (ih b (NR l (valsF e l)) s Q))
 (fun id _ e s Q=>Q (.exit id) e s)
 (fun _ e s Q=>Q .ret e s)
noncomputable def VW:FV→Bool:=FV.rec (motive_1:=fun _=>Bool) (motive_2:=fun _=>PUnit) (fun _ _=>true) (fun _ _ _=>true) (fun _ _ _ _ _=>true) (fun _ _=>true) (fun t _ _ _=>bC (Nat.beq t (nat_lit 4)) false true) ⟨⟩ (fun _ _ _ _=>⟨⟩)
noncomputable abbrev gRes1 (e:eP) (s:GS) (r:AR) (K:KF):Bool:=AR.rec (motive:=fun _=>Bool) (fun n=>bC (VW (jW e n)) (K (jW e n)) false) (fun a t=>match τ t with
 | some T=>bC T.d.agg (DT T.size (jW e a) s K) (Ik (jW e a) s K)
 | none=>false) r
noncomputable abbrev KC (e:eP) (s:GS):List AR→(List FV→Bool)→Bool:=List.rec (motive:=fun _=>(List FV→Bool)→Bool) (fun K=>K []) (fun r _ ih K=>gRes1 τ e s r fun v=>ih fun l=>K (v :: l))
noncomputable abbrev Zr (l:List FV) (s:GS) (K:KS):Bool:=match l with
 | [v]=>K v s
 | l=>K (.c (nat_lit 1) (nat_lit 0) l) s
noncomputable abbrev kFin (res:List AR) (K:KS):KQ:=fun o e s=>Out.rec (motive:=fun _=>Bool) (KC τ e s res fun l=>Zr l s K) (fun _=>false) (KC τ e s res fun l=>Zr l s K) o
noncomputable abbrev Zt (res:List AR) (K:KS):List Fr→KQ:=List.rec (motive:=fun _=>KQ) (kFin τ res K) (fun f _ ih=>Fr.rec (motive:=fun _=>KQ) (fun b c=>kSeq (KA X τ run go c b) ih) (fun id=>kBlk id ih) (fun b l _=>kLp go b l ih) f)
end
def aK (X:Ctx)(n:Nat):List Fr→Out→Env→St→Option (Out×Env×St)
 | [],q,e,σ=>some (q,e,σ)
 | .sq _ c :: fs,q,e,σ=>match q with
   | .normal=>(aX X (bFn X n) n c e σ).bind fun r=>aK X n fs r.1 r.2.1 r.2.2
   | q=>aK X n fs q e σ
 | .bk id :: fs,q,e,σ=>match q with
   | .exit j=>aK X n fs (if j=id then .normal else .exit j) e σ
   | q=>aK X n fs q e σ
 | .lp _ l c :: fs,q,e,σ=>match q with
   | .normal=>(jv l (aX X (bFn X n) n c) n e σ).bind fun r=>aK X n fs r.1 r.2.1 r.2.2
   | q=>aK X n fs q e σ
def NS (X:Ctx)(n:Nat)(c:AC)(fs:List Fr)(e:Env)(σ:St):Option (Out×Env×St):=(aX X (bFn X n) n c e σ).bind fun r=>aK X n fs r.1 r.2.1 r.2.2
def VX (X:Ctx)(res:List AR)(K:KS)(o:Option (Out×Env×St)):Prop:=∃q e' σ' v s',o=some (q,e',σ')∧(q= .normal∨q= .ret)∧qc X.P res e' σ'= some (FV.av v)∧GS.Is s' σ'∧K v s'= true
section
variable {X:Ctx}
theorem BH {n m:Nat} (h:n≤m) {c:AC} {e:Env} {σ:St} {x} (hx:aX X (bFn X n) n c e σ=some x):aX X (bFn X m) m c e σ=some x:=j_ (vT X h) h hx
theorem Zu {n m:Nat} (h:n≤m) {l:List Nat} {c:AC} {e:Env} {σ:St} {x} (hx:jv l (aX X (bFn X n) n c) n e σ=some x):jv l (aX X (bFn X m) m c) m e σ=some x:=
 o_ (fun _ _ _ hx=>BH h hx) h hx
theorem oD {n m:Nat} (h:n≤m):∀(fs:List Fr) {q:Out} {e:Env} {σ:St} {x} (_:aK X n fs q e σ=some x),aK X m fs q e σ=some x
 | [],_,_,_,_,hx=>hx
 | .sq b c :: fs,q,e,σ,x,hx=>by
   cases q with
   | normal=>
     simp only [aK,Option.bind_eq_some_iff] at hx ⊢
     obtain⟨r,h1,h2⟩:=hx
     exact⟨r,BH h h1,oD h fs h2⟩
   | exit j=>exact oD (q:=.exit j) h fs hx
   | ret=>exact oD (q:=.ret) h fs hx
 | .bk id :: fs,q,e,σ,x,hx=>by
   cases q with
   | normal=>exact oD (q:=.normal) h fs hx
   | exit j=>exact oD (q:=if j=id then .normal else .exit j) h fs hx
   | ret=>exact oD (q:=.ret) h fs hx
 | .lp b l c :: fs,q,e,σ,x,hx=>by
   cases q with
   | normal=>
     simp only [aK,Option.bind_eq_some_iff] at hx ⊢
     obtain⟨r,h1,h2⟩:=hx
     exact⟨r,Zu h h1,oD h fs h2⟩
   | exit j=>exact oD (q:=.exit j) h fs hx
   | ret=>exact oD (q:=.ret) h fs hx
end
def r_:List Fr→Nat
 | []=>0
 | .sq _ c :: fs=>jB c+r_ fs
 | _ :: fs=>r_ fs
theorem QV (c:AC):0<jB c:=by cases c <;> simp [jB]
section
variable {X:Ctx} {τ:jR} (bJ:τ.Ok X.P) {run:Rn} (hr:run.Ok X) {go:Go} {res:List AR} {K:KS} {N:List Nd}
def GoOk (X:Ctx)(go:Go)(res:List AR)(K:KS)(N:List Nd):Prop:=∀i nd,N[i]? =some nd→∀(vs:List FV) (s:GS) (σ:St),s.Is σ→go i vs s=true→∃n,VX X res K (NS X n nd.c nd.fs (g_ (NR nd.live vs)) σ)
def LV (N:List Nd)(c:AC)(b:Nat)(fs:List Fr):Prop:=∀i nd,(nodes c b fs)[i]? =some nd→N[b+i]? =some nd
def KD (N:List Nd):List Fr→Prop
 | []=>True
 | .sq b c :: fs=>LV N c b fs∧KD N fs
 | .bk _ :: fs=>KD N fs
 | .lp b l c :: fs=>N[b]? =some ⟨l,b+1,c,.lp b l c :: fs⟩∧KD N fs
theorem su (e:eP):∀l:List Nat,g_ (NR l (valsF e l))=clear l (g_ e)
 | []=>rfl
 | d :: l=>by
   show (d,(jW e d).av) :: g_ (NR l (valsF e l))=_
   rw [su e l,iO];rfl
theorem LV.seq {a c:AC} {b:Nat} {fs:List Fr} (h:LV N (.seq a c) b fs):LV N a b (.sq (b+cnt a) c :: fs)∧LV N c (b+cnt a) fs:=by
 refine⟨fun i nd hi=>h i nd ?_,fun i nd hi=>?_⟩
 ·rw [uj]
  rw [List.getElem?_append_left (List.getElem?_eq_some_iff.1 hi).1];exact hi
 ·have:=h (cnt a+i) nd (by
   rw [uj]
   rw [List.getElem?_append_right (by rw [um];omega),um,show cnt a+i - cnt a=i by omega];exact hi)
  rw [show b+cnt a+i=b+(cnt a+i) by omega];exact this
theorem LV.cond {x:bH} {a c:AC} {b:Nat} {fs:List Fr} (h:LV N (.cond x a c) b fs):LV N a b fs∧LV N c (b+cnt a) fs:=by
 refine⟨fun i nd hi=>h i nd ?_,fun i nd hi=>?_⟩
 ·rw [qC]
  rw [List.getElem?_append_left (List.getElem?_eq_some_iff.1 hi).1];exact hi
 ·have:=h (cnt a+i) nd (by
   rw [qC]
   rw [List.getElem?_append_right (by rw [um];omega),um,show cnt a+i - cnt a=i by omega];exact hi)
  rw [show b+cnt a+i=b+(cnt a+i) by omega];exact this
theorem Gs {n:Nat} {b:Nat} {l:List Nat} {c:AC} {fs:List Fr} {e:Env} {σ:St} {x} (h:NS X n c (.lp b l c :: fs) (clear l e) σ=some x):(jv l (aX X (bFn X (n+1)) (n+1) c) (n+1) e σ).bind (fun r=>aK X (n+1) fs r.1 r.2.1 r.2.2)=some x:=by
 unfold NS at h
 rw [Option.bind_eq_some_iff] at h
 obtain⟨⟨q,e1,σ1⟩,h1,h2⟩:=h
 have h1':=BH (Nat.le_succ n) h1
 rw [Option.bind_eq_some_iff]
 cases q with
 | normal=>
   simp only [aK,Option.bind_eq_some_iff] at h2
   obtain⟨r,h3,h4⟩:=h2
   refine⟨r,?_,oD (Nat.le_succ n) fs h4⟩
   simp only [jv,h1']
   exact o_ (fun _ _ _ hx=>BH (Nat.le_succ n) hx) (Nat.le_refl n) h3
 | exit j=>
   refine⟨(.exit j,e1,σ1),?_,oD (Nat.le_succ n) fs h2⟩
   simp only [jv,h1']
 | ret=>
   refine⟨(.ret,e1,σ1),?_,oD (Nat.le_succ n) fs h2⟩
   simp only [jv,h1']
end
end Go.bK
namespace Go.bK
section
variable {X:Ctx} {τ:jR} (bJ:τ.Ok X.P) {run:Rn} (hr:run.Ok X) {go:Go} {res:List AR} {K:KS} {N:List Nd} (hgo:GoOk X go res K N)
include bJ
theorem VY {e:eP} {s:GS} {σ:St} (h:s.Is σ) {r:AR} {K:KF} (hk:gRes1 τ e s r K=true):∃v:FV,uM X.P (g_ e) σ r=some v.av∧K v=true:=by
 cases r with
 | t n=>
   obtain⟨h1,h2⟩:=aH hk
   refine⟨_,?_,h2⟩
   simp only [uM]
   rw [←iO]
   have hn:∀x:FV,VW x=true→∀c v,x.av≠.cd c v:=by
     intro x hx c v
     cases x with
     | n t x=>
       rw [FV.xP]
       rcases nN t x with ⟨k,_,e⟩ | ⟨_,e⟩ | ⟨_,e⟩ | ⟨_,e⟩ | ⟨_,e⟩ | ⟨_,e⟩ | ⟨_,e⟩ | e <;> (rw [e];intro h;cases h)
     | c t a l=>
       have q1:t≠4:=fun e=>by subst e;exact Bool.noConfusion (show false=true from hx)
       rw [FV.Ic]
       rcases qy t a (FV.QJ l) with ⟨e,q⟩ | ⟨e,q⟩ | ⟨e,q⟩ | ⟨e,q⟩ | ⟨e,q⟩ | ⟨e,q⟩ | ⟨e,q⟩
       all_goals first | (exact(q1 e).elim) | (rw [q];intro h;cases h)
     | _=>intro h;cases h
   split
   ·rename_i c v hc;exact(hn _ h1 _ _ hc).elim
   ·rfl
 | cell a t=>
   have hk':(match τ t with
    | some T=>bC T.d.agg (DT T.size (jW e a) s K) (Ik (jW e a) s K)
    | none=>false)=true:=hk
   split at hk'
   ·rename_i T hT
    simp only [uM]
    rw [←iO,bJ _ _ hT]
    cases ha:T.d.agg with
    | true=>rw [ha,lD] at hk';exact Gj h ha hk'
    | false=>rw [ha,kF] at hk';exact Gi h ha hk'
   ·cases hk'
theorem KE {e:eP} {s:GS} {σ:St} (h:s.Is σ):∀(rs:List AR) {K:List FV→Bool} (_:KC τ e s rs K=true),∃l,oV X.P (g_ e) σ rs=some (l.map FV.av)∧K l=true
 | [],K,hk=>⟨[],rfl,hk⟩
 | r :: rs,K,hk=>by
   obtain⟨v,h1,h2⟩:=VY bJ h (K:=fun v=>KC τ e s rs fun l=>K (v :: l)) hk
   obtain⟨l,h3,h4⟩:=KE h rs h2
   exact⟨_,by simp only [oV,h1,h3,List.map_cons],h4⟩
theorem Px {e:eP} {s:GS} {σ:St} (h:s.Is σ) {K:KS} (hk:KC τ e s res (fun l=>Zr l s K)=true):∃v:FV,qc X.P res (g_ e) σ=some v.av∧K v s=true:=by
 obtain⟨l,h1,h2⟩:=KE bJ h res hk
 unfold qc
 rw [h1]
 unfold Zr at h2
 split at h2
 ·exact⟨_,rfl,h2⟩
 ·rename_i hn
  refine⟨_,?_,h2⟩
  rw [DJ]
  cases l with
  | nil=>rfl
  | cons a l=>cases l with
    | nil=>exact(hn a rfl).elim
    | cons b l=>rfl
include hr hgo
theorem iY:∀(m:Nat) (c:AC) (b:Nat) (fs:List Fr) (e:eP) (s:GS) (σ:St),jB c+r_ fs≤m→LV N c b fs→KD N fs→s.Is σ→KA X τ run go c b e s (Zt X τ run go res K fs)=true→∃n,VX X res K (NS X n c fs (g_ e) σ)
 | 0,c,_,_,_,_,_,hm,_,_,_,_=>by have:=QV c;omega
 | m+1,c,b,fs,e,s,σ,hm,hat,hfr,h,hk=>by
   have leaf:∀(fs:List Fr) (o:Out) (e:eP) (s:GS) (σ:St),r_ fs≤m→KD N fs→s.Is σ→Zt X τ run go res K fs o e s=true→∃n,VX X res K (aK X n fs o (g_ e) σ):=by
    intro fs
    induction fs with
    | nil=>
      intro o e s σ _ _ h hk
      cases o with
      | exit j=>cases hk
      | normal=>
        obtain⟨v,h1,h2⟩:=Px bJ h hk
        exact⟨0,_,_,_,v,s,rfl,.inl rfl,h1,h,h2⟩
      | ret=>
        obtain⟨v,h1,h2⟩:=Px bJ h hk
        exact⟨0,_,_,_,v,s,rfl,.inr rfl,h1,h,h2⟩
    | cons f fs ih=>
      intro o e s σ hs hf h hk
      cases f with
      | sq b c=>
        cases o with
        | normal=>exact iY m c b fs e s σ hs hf.1 hf.2 h hk
        | exit j=>exact ih (.exit j) e s σ (by simp only [r_] at hs;omega) hf.2 h hk
        | ret=>exact ih .ret e s σ (by simp only [r_] at hs;omega) hf.2 h hk
      | bk id=>
        cases o with
        | normal=>exact ih .normal e s σ hs hf h hk
        | ret=>exact ih .ret e s σ hs hf h hk
        | exit j=>
          have hk':bC (Nat.beq j id) (Zt X τ run go res K fs .normal e s) (Zt X τ run go res K fs (.exit j) e s)=true:=hk
          cases hj:Nat.beq j id with
          | true=>
            rw [hj,lD] at hk'
            obtain⟨n,hn⟩:=ih .normal e s σ hs hf h hk'
            exact⟨n,by simp only [aK];rw [if_pos (Nat.eq_of_beq_eq_true hj)];exact hn⟩
          | false=>
            rw [hj,kF] at hk'
            obtain⟨n,hn⟩:=ih (.exit j) e s σ hs hf h hk'
            exact⟨n,by simp only [aK];rw [if_neg (Nat.ne_of_beq_eq_false hj)];exact hn⟩
      | lp b l c=>
        cases o with
        | exit j=>exact ih (.exit j) e s σ hs hf.2 h hk
        | ret=>exact ih .ret e s σ hs hf.2 h hk
        | normal=>
          have hk':go b (valsF e l) s=true:=hk
          obtain⟨n,q,e',σ',v,s',q1,q2⟩:=hgo b _ hf.1 _ _ _ h hk'
          rw [su] at q1
          exact⟨n+1,q,e',σ',v,s',Gs q1,q2⟩
   cases c with
   | skip=>
     obtain⟨n,hn⟩:=leaf fs .normal e s σ (by simp only [jB] at hm;omega) hfr h hk
     exact⟨n,hn⟩
   | exit j=>
     obtain⟨n,hn⟩:=leaf fs (.exit j) e s σ (by simp only [jB] at hm;omega) hfr h hk
     exact⟨n,hn⟩
   | ret=>
     obtain⟨n,hn⟩:=leaf fs .ret e s σ (by simp only [jB] at hm;omega) hfr h hk
     exact⟨n,hn⟩
   | reg ops=>
     obtain⟨n1,e',σ',s',h1,h2,h3⟩:=Pq bJ hr h (K:=fun e s=>Zt X τ run go res K fs .normal e s) hk
     obtain⟨n2,q,e2,σ2,v,s2,q1,q2⟩:=leaf fs .normal e' s' σ' (by simp only [jB] at hm;omega) hfr h2 h3
     refine⟨max n1 n2,q,e2,σ2,v,s2,?_,q2⟩
     simp only [NS,aX,wY (vT X (Nat.le_max_left n1 n2)) h1,Option.map_some,Option.bind_some]
     exact oD (Nat.le_max_right n1 n2) fs q1
   | kU ops=>
     obtain⟨n1,e',σ',s',h1,h2,h3⟩:=Pv bJ hr h (K:=fun e s=>Zt X τ run go res K fs .normal e s) hk
     obtain⟨n2,q,e2,σ2,v,s2,q1,q2⟩:=leaf fs .normal e' s' σ' (by simp only [jB] at hm;omega) hfr h2 h3
     refine⟨max n1 n2,q,e2,σ2,v,s2,?_,q2⟩
     simp only [NS,aX,wZ (vT X (Nat.le_max_left n1 n2)) h1,Option.map_some,Option.bind_some]
     exact oD (Nat.le_max_right n1 n2) fs q1
   | seq a c=>
     obtain⟨ha1,ha2⟩:=hat.seq
     obtain⟨n,hn⟩:=iY m a b (.sq (b+cnt a) c :: fs) e s σ (by simp only [jB,r_] at hm ⊢;omega) ha1 ⟨ha2,hfr⟩ h hk
     refine⟨n,?_⟩
     have e1:NS X n (.seq a c) fs (g_ e) σ=NS X n a (.sq (b+cnt a) c :: fs) (g_ e) σ:=by
        simp only [NS,aX]
        cases aX X (bFn X n) n a (g_ e) σ with
        | none=>rfl
        | some r=>
          obtain⟨q,e',σ'⟩:=r
          cases q <;> rfl
     rw [e1];exact hn
   | cond x a c=>
     obtain⟨ha1,ha2⟩:=hat.cond
     obtain⟨h0,hk2⟩:=aH hk
     rcases dIf_ok hk2 with ⟨h1,h2⟩ | ⟨h1,h2⟩
     ·rw [rW h0] at h1
      obtain⟨n,hn⟩:=iY m a b fs e s σ (by simp only [jB] at hm;omega) ha1 hfr h h2
      exact⟨n,by simp only [NS,aX,h1];exact hn⟩
     ·rw [rW h0] at h1
      obtain⟨n,hn⟩:=iY m c (b+cnt a) fs e s σ (by simp only [jB] at hm;omega) ha2 hfr h h2
      exact⟨n,by simp only [NS,aX,h1];exact hn⟩
   | blk id c=>
     obtain⟨n,hn⟩:=iY m c b (.bk id :: fs) e s σ (by simp only [jB,r_] at hm ⊢;omega) hat hfr h hk
     refine⟨n,?_⟩
     have e1:NS X n (.blk id c) fs (g_ e) σ=NS X n c (.bk id :: fs) (g_ e) σ:=by
        simp only [NS,aX]
        cases aX X (bFn X n) n c (g_ e) σ with
        | none=>rfl
        | some r=>
          obtain⟨q,e',σ'⟩:=r
          cases q <;> rfl
     rw [e1];exact hn
   | loop l c=>
     have hk':go b (valsF e l) s=true:=hk
     have hnd:=hat 0 ⟨l,b+1,c,.lp b l c :: fs⟩ rfl
     obtain⟨n,q,e',σ',v,s',q1,q2⟩:=hgo _ _ hnd _ _ _ h hk'
     rw [su] at q1
     exact⟨n+1,q,e',σ',v,s',Gs q1,q2⟩
   | cut l c=>
     have hk':bC (Zp l) (go b (valsF e l) s) (KA X τ run go c b (NR l (valsF e l)) s (Zt X τ run go res K fs))=true:=hk
     cases hj:Zp l with
     | true=>
       rw [hj,lD] at hk'
       have hnd:=hat 0 ⟨l,b+1,c,fs⟩ (by rw [lH,hj];rfl)
       obtain⟨n,q,e',σ',v,s',q1,q2⟩:=hgo _ _ hnd _ _ _ h hk'
       rw [su] at q1
       exact⟨n,q,e',σ',v,s',q1,q2⟩
     | false=>
       rw [hj,kF] at hk'
       have hat':LV N c b fs:=fun i nd hi=>hat i nd (by rw [lH,hj];exact hi)
       obtain⟨n,hn⟩:=iY m c b fs (NR l (valsF e l)) s σ (by simp only [jB] at hm;omega) hat' hfr h hk'
       rw [su] at hn
       exact⟨n,hn⟩
end
abbrev BF:=Rn→Go→KS→List FV→GS→Bool
noncomputable def gNode (X:Ctx)(τ:jR)(res:List AR)(nd:Nd):BF:=fun run go K vs s=>KA X τ run go nd.c nd.b (NR nd.live vs) s (Zt X τ run go res K nd.fs)
noncomputable def NT (X:Ctx)(τ:jR)(F:AF)(i:Nat):BF:=fun run go K vs s=>match (nodes F.code 0 [])[i]? with
 | some nd=>gNode X τ F.res nd run go K vs s
 | none=>false
def BF.Ok (X:Ctx)(τ:jR)(F:AF)(i:Nat)(bf:BF):Prop:=∀run go K vs s,bf run go K vs s=true→NT X τ F i run go K vs s=true
noncomputable def goN (D:Nat→BF)(run:Rn)(K:KS)(fuel:Nat):Go:=Nat.rec (motive:=fun _=>Go) (fun _ _ _=>false) (fun _ go i vs s=>D i run go K vs s) fuel
noncomputable def argE:Nat→List FV→eP→eP:=fun n l e=>List.rec (motive:=fun _=>Nat→eP) (fun _=>e) (fun a _ ih n=>(n,a) :: ih (Nat.succ n)) l n
theorem Py:∀(l:List FV) (n:Nat),g_ (argE n l [])=fM n (l.map FV.av)
 | [],_=>rfl
 | a :: l,n=>by
   show (n,a.av) :: g_ (argE (n+1) l [])=_
   rw [Py l];rfl
abbrev FE:=Rn→List FV→GS→KS→Bool
noncomputable def VZ (X:Ctx)(τ:jR)(F:AF):Rn→Go→List FV→GS→KS→Bool:=fun run go args s K=>KA X τ run go F.code 0 (argE 0 args []) s (Zt X τ run go F.res K [])
noncomputable def feOf (X:Ctx)(τ:jR)(F:AF)(D:Nat→BF)(E:Rn→Go→List FV→GS→KS→Bool)(fuel:Nat):FE:=fun run args s K=>bC (Nat.ble args.length F.nt) (E run (goN D run K fuel) args s K) false
def FE.Ok (X:Ctx)(f:Nat)(fe:FE):Prop:=∀(run:Rn),run.Ok X→∀(args:List FV) (s:GS) (σ:St) (K:KS),s.Is σ→fe run args s K=true→∃n,Xj (bFn X n f (args.map FV.av) σ) K
section
variable {X:Ctx} {τ:jR} (bJ:τ.Ok X.P)
include bJ
theorem V3 {F:AF} {D:Nat→BF} (hD:∀i,(D i).Ok X τ F i) {run:Rn} (hr:run.Ok X) {K:KS} :∀fuel,GoOk X (goN D run K fuel) F.res K (nodes F.code 0 [])
 | 0=>fun i nd hi vs s σ h hk=>by cases hk
 | fuel+1=>fun i nd hi vs s σ h hk=>by
   have hk':D i run (goN D run K fuel) K vs s=true:=hk
   have h1:=hD i _ _ _ _ _ hk'
   unfold NT at h1
   rw [hi] at h1
   have hat:LV (nodes F.code 0 []) nd.c nd.b nd.fs∧KD (nodes F.code 0 []) nd.fs:=by
    have key:∀(c:AC) (b:Nat) (fs:List Fr),LV (nodes F.code 0 []) c b fs→KD (nodes F.code 0 []) fs→∀nd∈nodes c b fs,LV (nodes F.code 0 []) nd.c nd.b nd.fs∧KD (nodes F.code 0 []) nd.fs:=by
        intro c
        induction c with
        | skip=>intro b fs _ _ nd hm;cases hm
        | reg _=>intro b fs _ _ nd hm;cases hm
        | kU _=>intro b fs _ _ nd hm;cases hm
        | exit _=>intro b fs _ _ nd hm;cases hm
        | ret=>intro b fs _ _ nd hm;cases hm
        | seq a c iha NQ=>
          intro b fs h1 h2 nd hm
          obtain⟨q1,q2⟩:=h1.seq
          rw [uj,List.mem_append] at hm
          rcases hm with hm | hm
          ·exact iha _ _ q1 ⟨q2,h2⟩ nd hm
          ·exact NQ _ _ q2 h2 nd hm
        | cond x a c iha NQ=>
          intro b fs h1 h2 nd hm
          obtain⟨q1,q2⟩:=h1.cond
          rw [qC,List.mem_append] at hm
          rcases hm with hm | hm
          ·exact iha _ _ q1 h2 nd hm
          ·exact NQ _ _ q2 h2 nd hm
        | blk id c ih=>intro b fs h1 h2 nd hm;exact ih _ _ h1 h2 nd hm
        | loop l c ih=>
          intro b fs h1 h2 nd hm
          have h3:=h1 0 _ rfl
          have h4:LV (nodes F.code 0 []) c (b+1) (.lp b l c :: fs):=fun i nd hi=>by
            have:=h1 (i+1) nd (by rw [vY,List.getElem?_cons_succ];exact hi)
            rw [show b+1+i=b+(i+1) by omega];exact this
          rw [vY,List.mem_cons] at hm
          rcases hm with rfl | hm
          ·exact⟨h4,h3,h2⟩
          ·exact ih _ _ h4 ⟨h3,h2⟩ nd hm
        | cut l c ih=>
          intro b fs h1 h2 nd hm
          cases hj:Zp l with
          | true=>
            have h4:LV (nodes F.code 0 []) c (b+1) fs:=fun i nd hi=>by
              have:=h1 (i+1) nd (by rw [lH,hj,lD,List.getElem?_cons_succ];exact hi)
              rw [show b+1+i=b+(i+1) by omega];exact this
            rw [lH,hj,lD,List.mem_cons] at hm
            rcases hm with rfl | hm
            ·exact⟨h4,h2⟩
            ·exact ih _ _ h4 h2 nd hm
          | false=>
            rw [lH,hj,kF] at hm
            exact ih _ _ (fun i nd hi=>h1 i nd (by rw [lH,hj];exact hi)) h2 nd hm
    exact key F.code 0 [] (fun i nd hi=>by rw [Nat.zero_add];exact hi) trivial nd (List.mem_of_getElem? hi)
   exact iY bJ hr (V3 hD hr fuel) _ nd.c nd.b nd.fs _ _ _ (Nat.le_refl _) hat.1 hat.2 h h1
theorem Zv {f:Nat} {F:AF} (hp:X.gG f=none)(hF:X.fns f=some F) {D:Nat→BF} (hD:∀i,(D i).Ok X τ F i) {E:Rn→Go→List FV→GS→KS→Bool} (hE:∀run go args s K,E run go args s K=true→VZ X τ F run go args s K=true)(fuel:Nat):(feOf X τ F D E fuel).Ok X f:=by
 intro run hr args s σ K h hk
 obtain⟨h1,h2⟩:=aH hk
 have h3:=hE _ _ _ _ _ h2
 obtain⟨n,q,e',σ',v,s',q1,q2,q3,q4,q5⟩:=iY bJ hr (V3 bJ hD hr fuel) _ F.code 0 [] _ _ _ (Nat.le_refl _) (fun i nd hi=>by rw [Nat.zero_add];exact hi) trivial h h3
 rw [Py] at q1
 have q1':aX X (bFn X n) n F.code (fM 0 (args.map FV.av)) σ=some (q,e',σ'):=by
  unfold NS at q1
  rw [Option.bind_eq_some_iff] at q1
  obtain⟨⟨a,b,c⟩,r1,r2⟩:=q1
  cases r2;exact r1
 refine⟨n+1,v,σ',s',?_,q4,q5⟩
 simp only [bFn,hp,hF]
 rw [if_pos (by rw [List.length_map];exact Nat.le_of_ble_eq_true h1),q1']
 rcases q2 with rfl | rfl
 ·simp only;rw [q3];rfl
 ·simp only;rw [q3];rfl
noncomputable def bG (X:Ctx)(τ:jR)(F:AF)(fuel:Nat):FE:=feOf X τ F (NT X τ F) (VZ X τ F) fuel
theorem aN {f:Nat} {F:AF} (hp:X.gG f=none)(hF:X.fns f=some F)(fuel:Nat):(bG X τ F fuel).Ok X f:=
 Zv bJ hp hF (fun i run go K vs s hk=>hk) (fun run go args s K hk=>hk) fuel
end
inductive TF where
 | nil
 | leaf (f:Nat) (fe:FE)
 | node (m:Nat) (l r:TF)
noncomputable def TF.go:TF→Nat→FE:=TF.rec (motive:=fun _=>Nat→FE) (fun _ _ _ _ _=>false) (fun f fe n run args s K=>bC (Nat.beq f n) (fe run args s K) false) (fun m _ _ l r n=>bC (Nat.ble (Nat.succ n) m) (l n) (r n))
def TF.Ok (X:Ctx):TF→Prop
 | .nil=>True
 | .leaf f fe=>fe.Ok X f
 | .node _ l r=>l.Ok X∧r.Ok X
theorem TF.go_ok {X:Ctx} :∀(t:TF) (f:Nat),t.Ok X→(t.go f).Ok X f
 | .nil,f,_=>fun run hr args s σ K h hk=>by cases hk
 | .leaf g fe,f,ht=>fun run hr args s σ K h hk=>by
   obtain⟨h1,h2⟩:=aH hk
   rw [←Nat.eq_of_beq_eq_true h1]
   exact ht run hr args s σ K h h2
 | .node m l r,f,ht=>fun run hr args s σ K h hk=>by
   have hk':bC (Nat.ble (f+1) m) (l.go f) (r.go f) run args s K=true:=hk
   cases hb:Nat.ble (f+1) m with
   | true=>rw [hb,lD] at hk';exact TF.go_ok l f ht.1 run hr args s σ K h hk'
   | false=>rw [hb,kF] at hk';exact TF.go_ok r f ht.2 run hr args s σ K h hk'
noncomputable def rnN (T:TF)(d:Nat):Rn:=Nat.rec (motive:=fun _=>Rn) (fun _ _ _ _=>false) (fun _ ih f args s K=>T.go f ih args s K) d
theorem V4 {X:Ctx} {T:TF} (hT:T.Ok X):∀d,(rnN T d).Ok X
 | 0=>fun f args s σ K h hk=>by cases hk
 | d+1=>fun f args s σ K h hk=>TF.go_ok T f hT _ (V4 hT d) args s σ K h hk
noncomputable def GO.of (a:AO)(K:GO→Bool):Bool:=match a with
 | ⟨g,ro,.cells e cs⟩=>bC (uT cs) (bC (Nat.ble cs.length (nat_lit 8)) (bC (jU (jV cs)) (fN cs.length fun n=>K (.cells g ro e n n (jV cs) .lf)) false) (fN cs.length fun n=>qI (jV cs) .lf (nat_lit 0) fun t=>K (.cells g ro e n (nat_lit 1) [.n (nat_lit 1) (nat_lit 0)] t))) false
 | _=>K .dead
theorem GO.of_ok {a:AO} {K:GO→Bool} (hk:GO.of a K=true):∃f:GO,f.Is a∧K f=true:=by
 unfold GO.of at hk
 split at hk
 ·rename_i g ro e cs
  obtain⟨h1,hk1⟩:=aH hk
  clear hk
  have hl:(jV cs).length=cs.length:=by
   have:=congrArg List.length (gU _ h1)
   rw [List.length_map] at this;exact this
  cases hsz:Nat.ble cs.length (nat_lit 8) with
  | false=>
    rw [hsz,kF,kE] at hk1
    have hb:=dQ.rep (d:=[.n 1 0]) rfl cs.length
    rw [show cs.length*[FV.n 1 0].length=cs.length by simp,show [FV.n 1 0].length=1 from rfl] at hb
    obtain⟨t',q1,q2,q3⟩:=pI (jV cs) hb (off:=0) (by omega) hk1
    have e1:setCells (nV ([FV.n 1 0].map FV.av) cs.length) 0 ((jV cs).map FV.av)=cs:=by
        have:=lK ((jV cs).map FV.av) [] (nV ([FV.n 1 0].map FV.av) cs.length) (by rw [iV];simp [hl])
        rw [gU _ h1] at this ⊢
        simpa using this
    rw [e1] at q2
    exact⟨.cells g ro e cs.length 1 [.n 1 0] t',⟨cs,rfl,q2⟩,q1⟩
  | true=>
  rw [hsz,lD] at hk1
  obtain⟨h2,hk⟩:=aH hk1
  rw [kE] at hk
  have hc:=dQ.list h2
  rw [gU _ h1,hl] at hc
  exact⟨.cells g ro e cs.length cs.length (jV cs) .lf,⟨cs,rfl,hc⟩,hk⟩
 ·exact⟨.dead,trivial,hk⟩
noncomputable def GS.lay (σ:St):GS→(GS→Bool)→Bool:=List.rec (motive:=fun _=>GS→(GS→Bool)→Bool) (fun s K=>K s) (fun a _ ih s K=>GO.of a fun f=>s.new f fun _ s=>ih s K) σ
theorem GS.Ib:∀(σ:St) {s:GS} {pW:St} (_:s.Is pW) {K:GS→Bool} (_:GS.lay σ s K=true),∃s',K s'= true∧s'.Is (pW ++ σ)
 | [],s,pW,h,K,hk=>⟨s,hk,by simpa using h⟩
 | a :: σ,s,pW,h,K,hk=>by
   obtain⟨f,hf,hk2⟩:=GO.of_ok (K:=fun f=>s.new f fun _ s=>GS.lay σ s K) hk
   obtain⟨s1,h1,h2⟩:=GS.vW h hf hk2
   obtain⟨s2,q1,q2⟩:=GS.Ib σ h2 h1
   exact⟨s2,q1,by simpa using q2⟩
def GS.nil:GS:=⟨0,.lf⟩
theorem GS.UR:GS.nil.Is []:=⟨rfl,fun o f h=>by cases h⟩
noncomputable def gTop (T:TF)(d f:Nat)(args:List FV)(σ:St)(K:FV→Bool):Bool:=GS.lay σ GS.nil fun s=>rnN T d f args s fun v _=>K v
theorem QW {X:Ctx} {G:Nat} {T:TF} (hX:X.Sound G)(hT:T.Ok X) {d f:Nat} {args:List FV} {σ:St} {K:FV→Bool} (hk:gTop T d f args σ K=true) {μ:Mu} {w:World} (hs:fP G μ σ w) {aV:Array Value} (hr:aQ μ w (args.map FV.av) aV.toList) :
 Does X.P f aV w fun e w'=>∃(r:FV) (σ':St),K r=true∧After G μ σ w r.av σ' e w':=by
 obtain⟨s,h1,h2⟩:=GS.Ib σ GS.UR hk
 obtain⟨n,v,σ',s',q1,q2,q3⟩:=V4 hT d f args s σ _ (by simpa using h2) h1
 exact(b_ok hX n f _ σ _ σ' q1 μ w aV hs hr).mono fun e w' ha=>⟨v,σ',q3,ha⟩
noncomputable def isTrue:FV→Bool:=FV.rec (motive_1:=fun _=>Bool) (motive_2:=fun _=>PUnit) (fun t x=>bC (Nat.beq t (nat_lit 1)) (Nat.ble (nat_lit 1) x) false) (fun _ _ _=>false) (fun _ _ _ _ _=>false) (fun _ _=>false) (fun _ _ _ _=>false) ⟨⟩ (fun _ _ _ _=>⟨⟩)
theorem QX {v:FV} (h:isTrue v=true):v.av= .b true:=by
 cases v with
 | n t x=>
   obtain⟨h1,h2⟩:=aH h
   have h1:t=1:=Nat.eq_of_beq_eq_true h1
   have h2:1≤x:=Nat.le_of_ble_eq_true h2
   subst h1
   rw [FV.xP,DF,qA (by omega)];rfl
 | _=>cases h
end Go.bK
namespace Go.bK
inductive TB where
 | nil
 | leaf (i:Nat) (bf:BF)
 | node (m:Nat) (l r:TB)
noncomputable def TB.get:TB→Nat→BF:=TB.rec (motive:=fun _=>Nat→BF) (fun _ _ _ _ _ _=>false) (fun i bf n r g K vs s=>bC (Nat.beq i n) (bf r g K vs s) false) (fun m _ _ l r n=>bC (Nat.ble (Nat.succ n) m) (l n) (r n))
def TB.Ok (X:Ctx)(τ:jR)(F:AF):TB→Prop
 | .nil=>True
 | .leaf i bf=>bf.Ok X τ F i
 | .node _ l r=>l.Ok X τ F∧r.Ok X τ F
noncomputable def u0 (f:GS→Bool)(vs:List FV)(s:GS):Bool:=List.rec (motive:=fun _=>(GS→Bool)→GS→Bool) (fun f s=>f s) (fun _ _ _ _ _=>false) vs f s
noncomputable def u1 (f:FV→GS→Bool)(vs:List FV)(s:GS):Bool:=List.rec (motive:=fun _=>(FV→GS→Bool)→GS→Bool) (fun _ _=>false) (fun a l _ f s=>u0 (f a) l s) vs f s
noncomputable def u2 (f:FV→FV→GS→Bool)(vs:List FV)(s:GS):Bool:=List.rec (motive:=fun _=>(FV→FV→GS→Bool)→GS→Bool) (fun _ _=>false) (fun a l _ f s=>u1 (f a) l s) vs f s
noncomputable def u3 (f:FV→FV→FV→GS→Bool)(vs:List FV)(s:GS):Bool:=List.rec (motive:=fun _=>(FV→FV→FV→GS→Bool)→GS→Bool) (fun _ _=>false) (fun a l _ f s=>u2 (f a) l s) vs f s
noncomputable def u4 (f:FV→FV→FV→FV→GS→Bool)(vs:List FV)(s:GS):Bool:=List.rec (motive:=fun _=>(FV→FV→FV→FV→GS→Bool)→GS→Bool) (fun _ _=>false) (fun a l _ f s=>u3 (f a) l s) vs f s
noncomputable def u5 (f:FV→FV→FV→FV→FV→GS→Bool)(vs:List FV)(s:GS):Bool:=List.rec (motive:=fun _=>(FV→FV→FV→FV→FV→GS→Bool)→GS→Bool) (fun _ _=>false) (fun a l _ f s=>u4 (f a) l s) vs f s
noncomputable def u6 (f:FV→FV→FV→FV→FV→FV→GS→Bool)(vs:List FV)(s:GS):Bool:=List.rec (motive:=fun _=>(FV→FV→FV→FV→FV→FV→GS→Bool)→GS→Bool) (fun _ _=>false) (fun a l _ f s=>u5 (f a) l s) vs f s
noncomputable def u7 (f:FV→FV→FV→FV→FV→FV→FV→GS→Bool)(vs:List FV)(s:GS):Bool:=List.rec (motive:=fun _=>(FV→FV→FV→FV→FV→FV→FV→GS→Bool)→GS→Bool) (fun _ _=>false) (fun a l _ f s=>u6 (f a) l s) vs f s
noncomputable def u8 (f:FV→FV→FV→FV→FV→FV→FV→FV→GS→Bool)(vs:List FV)(s:GS):Bool:=List.rec (motive:=fun _=>(FV→FV→FV→FV→FV→FV→FV→FV→GS→Bool)→GS→Bool) (fun _ _=>false) (fun a l _ f s=>u7 (f a) l s) vs f s
noncomputable def u9 (f:FV→FV→FV→FV→FV→FV→FV→FV→FV→GS→Bool)(vs:List FV)(s:GS):Bool:=List.rec (motive:=fun _=>(FV→FV→FV→FV→FV→FV→FV→FV→FV→GS→Bool)→GS→Bool) (fun _ _=>false) (fun a l _ f s=>u8 (f a) l s) vs f s
noncomputable def u10 (f:FV→FV→FV→FV→FV→FV→FV→FV→FV→FV→GS→Bool)(vs:List FV)(s:GS):Bool:=List.rec (motive:=fun _=>(FV→FV→FV→FV→FV→FV→FV→FV→FV→FV→GS→Bool)→GS→Bool) (fun _ _=>false) (fun a l _ f s=>u9 (f a) l s) vs f s
noncomputable def u11 (f:FV→FV→FV→FV→FV→FV→FV→FV→FV→FV→FV→GS→Bool)(vs:List FV)(s:GS):Bool:=List.rec (motive:=fun _=>(FV→FV→FV→FV→FV→FV→FV→FV→FV→FV→FV→GS→Bool)→GS→Bool) (fun _ _=>false) (fun a l _ f s=>u10 (f a) l s) vs f s
noncomputable def u12 (f:FV→FV→FV→FV→FV→FV→FV→FV→FV→FV→FV→FV→GS→Bool)(vs:List FV)(s:GS):Bool:=List.rec (motive:=fun _=>(FV→FV→FV→FV→FV→FV→FV→FV→FV→FV→FV→FV→GS→Bool)→GS→Bool) (fun _ _=>false) (fun a l _ f s=>u11 (f a) l s) vs f s
noncomputable def u13 (f:FV→FV→FV→FV→FV→FV→FV→FV→FV→FV→FV→FV→FV→GS→Bool)(vs:List FV)(s:GS):Bool:=List.rec (motive:=fun _=>(FV→FV→FV→FV→FV→FV→FV→FV→FV→FV→FV→FV→FV→GS→Bool)→GS→Bool) (fun _ _=>false) (fun a l _ f s=>u12 (f a) l s) vs f s
noncomputable def u14 (f:FV→FV→FV→FV→FV→FV→FV→FV→FV→FV→FV→FV→FV→FV→GS→Bool)(vs:List FV)(s:GS):Bool:=List.rec (motive:=fun _=>(FV→FV→FV→FV→FV→FV→FV→FV→FV→FV→FV→FV→FV→FV→GS→Bool)→GS→Bool) (fun _ _=>false) (fun a l _ f s=>u13 (f a) l s) vs f s
noncomputable def u15 (f:FV→FV→FV→FV→FV→FV→FV→FV→FV→FV→FV→FV→FV→FV→FV→GS→Bool)(vs:List FV)(s:GS):Bool:=List.rec (motive:=fun _=>(FV→FV→FV→FV→FV→FV→FV→FV→FV→FV→FV→FV→FV→FV→FV→GS→Bool)→GS→Bool) (fun _ _=>false) (fun a l _ f s=>u14 (f a) l s) vs f s
noncomputable def u16 (f:FV→FV→FV→FV→FV→FV→FV→FV→FV→FV→FV→FV→FV→FV→FV→FV→GS→Bool)(vs:List FV)(s:GS):Bool:=List.rec (motive:=fun _=>(FV→FV→FV→FV→FV→FV→FV→FV→FV→FV→FV→FV→FV→FV→FV→FV→GS→Bool)→GS→Bool) (fun _ _=>false) (fun a l _ f s=>u15 (f a) l s) vs f s
noncomputable def u17 (f:FV→FV→FV→FV→FV→FV→FV→FV→FV→FV→FV→FV→FV→FV→FV→FV→FV→GS→Bool)(vs:List FV)(s:GS):Bool:=List.rec (motive:=fun _=>(FV→FV→FV→FV→FV→FV→FV→FV→FV→FV→FV→FV→FV→FV→FV→FV→FV→GS→Bool)→GS→Bool) (fun _ _=>false) (fun a l _ f s=>u16 (f a) l s) vs f s
noncomputable def u18 (f:FV→FV→FV→FV→FV→FV→FV→FV→FV→FV→FV→FV→FV→FV→FV→FV→FV→FV→GS→Bool)(vs:List FV)(s:GS):Bool:=List.rec (motive:=fun _=>(FV→FV→FV→FV→FV→FV→FV→FV→FV→FV→FV→FV→FV→FV→FV→FV→FV→FV→GS→Bool)→GS→Bool) (fun _ _=>false) (fun a l _ f s=>u17 (f a) l s) vs f s
noncomputable def u19 (f:FV→FV→FV→FV→FV→FV→FV→FV→FV→FV→FV→FV→FV→FV→FV→FV→FV→FV→FV→GS→Bool)(vs:List FV)(s:GS):Bool:=List.rec (motive:=fun _=>(FV→FV→FV→FV→FV→FV→FV→FV→FV→FV→FV→FV→FV→FV→FV→FV→FV→FV→FV→GS→Bool)→GS→Bool) (fun _ _=>false) (fun a l _ f s=>u18 (f a) l s) vs f s
noncomputable def u20 (f:FV→FV→FV→FV→FV→FV→FV→FV→FV→FV→FV→FV→FV→FV→FV→FV→FV→FV→FV→FV→GS→Bool)(vs:List FV)(s:GS):Bool:=List.rec (motive:=fun _=>(FV→FV→FV→FV→FV→FV→FV→FV→FV→FV→FV→FV→FV→FV→FV→FV→FV→FV→FV→FV→GS→Bool)→GS→Bool) (fun _ _=>false) (fun a l _ f s=>u19 (f a) l s) vs f s
noncomputable def u21 (f:FV→FV→FV→FV→FV→FV→FV→FV→FV→FV→FV→FV→FV→FV→FV→FV→FV→FV→FV→FV→FV→GS→Bool)(vs:List FV)(s:GS):Bool:=List.rec (motive:=fun _=>(FV→FV→FV→FV→FV→FV→FV→FV→FV→FV→FV→FV→FV→FV→FV→FV→FV→FV→FV→FV→FV→GS→Bool)→GS→Bool) (fun _ _=>false) (fun a l _ f s=>u20 (f a) l s) vs f s
noncomputable def u22 (f:FV→FV→FV→FV→FV→FV→FV→FV→FV→FV→FV→FV→FV→FV→FV→FV→FV→FV→FV→FV→FV→FV→GS→Bool)(vs:List FV)(s:GS):Bool:=List.rec (motive:=fun _=>(FV→FV→FV→FV→FV→FV→FV→FV→FV→FV→FV→FV→FV→FV→FV→FV→FV→FV→FV→FV→FV→FV→GS→Bool)→GS→Bool) (fun _ _=>false) (fun a l _ f s=>u21 (f a) l s) vs f s
noncomputable def u23 (f:FV→FV→FV→FV→FV→FV→FV→FV→FV→FV→FV→FV→FV→FV→FV→FV→FV→FV→FV→FV→FV→FV→FV→GS→Bool)(vs:List FV)(s:GS):Bool:=List.rec (motive:=fun _=>(FV→FV→FV→FV→FV→FV→FV→FV→FV→FV→FV→FV→FV→FV→FV→FV→FV→FV→FV→FV→FV→FV→FV→GS→Bool)→GS→Bool) (fun _ _=>false) (fun a l _ f s=>u22 (f a) l s) vs f s
noncomputable def u24 (f:FV→FV→FV→FV→FV→FV→FV→FV→FV→FV→FV→FV→FV→FV→FV→FV→FV→FV→FV→FV→FV→FV→FV→FV→GS→Bool)(vs:List FV)(s:GS):Bool:=List.rec (motive:=fun _=>(FV→FV→FV→FV→FV→FV→FV→FV→FV→FV→FV→FV→FV→FV→FV→FV→FV→FV→FV→FV→FV→FV→FV→FV→GS→Bool)→GS→Bool) (fun _ _=>false) (fun a l _ f s=>u23 (f a) l s) vs f s
noncomputable def u25 (f:FV→FV→FV→FV→FV→FV→FV→FV→FV→FV→FV→FV→FV→FV→FV→FV→FV→FV→FV→FV→FV→FV→FV→FV→FV→GS→Bool)(vs:List FV)(s:GS):Bool:=List.rec (motive:=fun _=>(FV→FV→FV→FV→FV→FV→FV→FV→FV→FV→FV→FV→FV→FV→FV→FV→FV→FV→FV→FV→FV→FV→FV→FV→FV→GS→Bool)→GS→Bool) (fun _ _=>false) (fun a l _ f s=>u24 (f a) l s) vs f s
noncomputable def u26 (f:FV→FV→FV→FV→FV→FV→FV→FV→FV→FV→FV→FV→FV→FV→FV→FV→FV→FV→FV→FV→FV→FV→FV→FV→FV→FV→GS→Bool)(vs:List FV)(s:GS):Bool:=List.rec (motive:=fun _=>(FV→FV→FV→FV→FV→FV→FV→FV→FV→FV→FV→FV→FV→FV→FV→FV→FV→FV→FV→FV→FV→FV→FV→FV→FV→FV→GS→Bool)→GS→Bool) (fun _ _=>false) (fun a l _ f s=>u25 (f a) l s) vs f s
noncomputable def u27 (f:FV→FV→FV→FV→FV→FV→FV→FV→FV→FV→FV→FV→FV→FV→FV→FV→FV→FV→FV→FV→FV→FV→FV→FV→FV→FV→FV→GS→Bool)(vs:List FV)(s:GS):Bool:=List.rec (motive:=fun _=>(FV→FV→FV→FV→FV→FV→FV→FV→FV→FV→FV→FV→FV→FV→FV→FV→FV→FV→FV→FV→FV→FV→FV→FV→FV→FV→FV→GS→Bool)→GS→Bool) (fun _ _=>false) (fun a l _ f s=>u26 (f a) l s) vs f s
noncomputable def u28 (f:FV→FV→FV→FV→FV→FV→FV→FV→FV→FV→FV→FV→FV→FV→FV→FV→FV→FV→FV→FV→FV→FV→FV→FV→FV→FV→FV→FV→GS→Bool)(vs:List FV)(s:GS):Bool:=List.rec (motive:=fun _=>(FV→FV→FV→FV→FV→FV→FV→FV→FV→FV→FV→FV→FV→FV→FV→FV→FV→FV→FV→FV→FV→FV→FV→FV→FV→FV→FV→FV→GS→Bool)→GS→Bool) (fun _ _=>false) (fun a l _ f s=>u27 (f a) l s) vs f s
noncomputable def u29 (f:FV→FV→FV→FV→FV→FV→FV→FV→FV→FV→FV→FV→FV→FV→FV→FV→FV→FV→FV→FV→FV→FV→FV→FV→FV→FV→FV→FV→FV→GS→Bool)(vs:List FV)(s:GS):Bool:=List.rec (motive:=fun _=>(FV→FV→FV→FV→FV→FV→FV→FV→FV→FV→FV→FV→FV→FV→FV→FV→FV→FV→FV→FV→FV→FV→FV→FV→FV→FV→FV→FV→FV→GS→Bool)→GS→Bool) (fun _ _=>false) (fun a l _ f s=>u28 (f a) l s) vs f s
noncomputable def u30 (f:FV→FV→FV→FV→FV→FV→FV→FV→FV→FV→FV→FV→FV→FV→FV→FV→FV→FV→FV→FV→FV→FV→FV→FV→FV→FV→FV→FV→FV→FV→GS→Bool)(vs:List FV)(s:GS):Bool:=List.rec (motive:=fun _=>(FV→FV→FV→FV→FV→FV→FV→FV→FV→FV→FV→FV→FV→FV→FV→FV→FV→FV→FV→FV→FV→FV→FV→FV→FV→FV→FV→FV→FV→FV→GS→Bool)→GS→Bool) (fun _ _=>false) (fun a l _ f s=>u29 (f a) l s) vs f s
noncomputable def u31 (f:FV→FV→FV→FV→FV→FV→FV→FV→FV→FV→FV→FV→FV→FV→FV→FV→FV→FV→FV→FV→FV→FV→FV→FV→FV→FV→FV→FV→FV→FV→FV→GS→Bool)(vs:List FV)(s:GS):Bool:=List.rec (motive:=fun _=>(FV→FV→FV→FV→FV→FV→FV→FV→FV→FV→FV→FV→FV→FV→FV→FV→FV→FV→FV→FV→FV→FV→FV→FV→FV→FV→FV→FV→FV→FV→FV→GS→Bool)→GS→Bool) (fun _ _=>false) (fun a l _ f s=>u30 (f a) l s) vs f s
noncomputable def u32 (f:FV→FV→FV→FV→FV→FV→FV→FV→FV→FV→FV→FV→FV→FV→FV→FV→FV→FV→FV→FV→FV→FV→FV→FV→FV→FV→FV→FV→FV→FV→FV→FV→GS→Bool)(vs:List FV)(s:GS):Bool:=List.rec (motive:=fun _=>(FV→FV→FV→FV→FV→FV→FV→FV→FV→FV→FV→FV→FV→FV→FV→FV→FV→FV→FV→FV→FV→FV→FV→FV→FV→FV→FV→FV→FV→FV→FV→FV→GS→Bool)→GS→Bool) (fun _ _=>false) (fun a l _ f s=>u31 (f a) l s) vs f s
end Go.bK
