/- Texts of this claim, joined: Abs3, Abs13, Abs14, Abs15, Abs16, Abs17, Abs60, Abs61, Abs62, Abs18, Abs19. -/
import Derived.Test.YtnbdedokjfpckaaGreatDoorM01
import Derived.LoopN
import Derived.Scope
import Derived.Orders
import Derived.Defers
set_option linter.unusedVariables false
set_option linter.unusedSimpArgs false
namespace Go.dD
def Ex {α:Type} (g:Nat→Option α)(Q:α→Prop):Prop:=∃n r,g n=some r∧Q r
def Run.le (r r':Run):Prop:=∀f args σ x,r f args σ=some x→r' f args σ=some x
theorem Dk {X:Ctx} {r r':Run} (h:r.le r') {ρ:bG→AV} {op:dA} {σ:St} {x:AV×St} (hx:cO X r ρ op σ=some x):cO X r' ρ op σ=some x:=by
 cases op with
 | call f args=>
   simp only [cO] at hx ⊢
   split at hx
   ·exact h _ _ _ _ hx
   ·simp at hx
 | inv y m args=>
   simp only [cO] at hx ⊢
   split at hx
   ·split at hx
    ·exact h _ _ _ _ hx
    ·simp at hx
   ·simp at hx
 | _=>exact hx
theorem l7 {X:Ctx} {r r':Run} (h:r.le r') {e:Env} {a:AI} {σ:St} {x:AV×St} (hx:b_ X r e a σ=some x):b_ X r' e a σ=some x:=by
 unfold b_ at *
 cases hg:a.gd with
 | none=>rw [hg] at hx;exact Dk h hx
 | some g=>
   rw [hg] at hx
   simp only at hx ⊢
   cases hw:dO e (some g) with
   | none=>rw [hw] at hx;simp at hx
   | some c=>
     rw [hw] at hx
     simp only at hx ⊢
     by_cases hp:a.op.pure=true
     ·simpa only [hp,if_true] using hx
     ·simp only [hp,if_false,Bool.false_eq_true] at hx ⊢
      by_cases hc:c=true
      ·simp only [hc,if_true] at hx ⊢
       split at hx
       ·rename_i hall;rw [if_pos hall];exact Dk h hx
       ·simp at hx
      ·simpa only [hc,if_false,Bool.false_eq_true] using hx
theorem rP {X:Ctx} {r r':Run} (h:r.le r'):∀{ops:List AI} {e:Env} {σ:St} {x:Env×St},jU X r ops e σ=some x→jU X r' ops e σ=some x
 | [],_,_,_,hx=>hx
 | a :: ops,e,σ,x,hx=>by
   simp only [jU] at hx ⊢
   cases hs:b_ X r e a σ with
   | none=>rw [hs] at hx;simp at hx
   | some y=>rw [hs] at hx;rw [l7 h hs];exact rP h hx
theorem rQ {X:Ctx} {r r':Run} (h:r.le r'):∀{ops:List (AI×List AI)} {e:Env} {σ:St} {x:Env×St},qm X r ops e σ=some x→qm X r' ops e σ=some x
 | [],_,_,_,hx=>hx
 | (a,ag) :: ops,e,σ,x,hx=>by
   simp only [qm] at hx ⊢
   cases hs:b_ X r e a σ with
   | none=>rw [hs] at hx;simp at hx
   | some y=>
     rw [hs] at hx;rw [l7 h hs]
     simp only at hx ⊢
     split at hx
     ·rename_i hall;rw [if_pos hall];exact rQ h hx
     ·simp at hx
theorem l9 {live:List Nat} {b b':Env→St→Option (Out×Env×St)} (h:∀e σ x,b e σ=some x→b' e σ=some x) :
 ∀ {n m:Nat} {e:Env} {σ:St} {x:Out×Env×St},n≤m→iK live b n e σ=some x→iK live b' m e σ=some x
 | 0,_,_,_,_,_,hx=>by simp [iK] at hx
 | n+1,0,_,_,_,hn,_=>by omega
 | n+1,m+1,e,σ,x,hn,hx=>by
   simp only [iK] at hx ⊢
   cases hb:b (clear live e) σ with
   | none=>rw [hb] at hx;simp at hx
   | some y=>
     rw [hb] at hx;rw [h _ _ _ hb]
     obtain⟨o,e',σ'⟩:=y
     cases o with
     | normal=>exact l9 h (by omega) hx
     | exit id=>exact hx
     | ret=>exact hx
theorem jh {X:Ctx} {r r':Run} (h:r.le r') {n m:Nat} (hn:n≤m):∀{c:AC} {e:Env} {σ:St} {x:Out×Env×St},bK X r n c e σ=some x→bK X r' m c e σ=some x:=by
 intro c
 induction c with
 | skip=>intro e σ x hx;exact hx
 | exit id=>intro e σ x hx;exact hx
 | ret=>intro e σ x hx;exact hx
 | reg ops=>
   intro e σ x hx
   simp only [bK] at hx ⊢
   cases hs:jU X r ops e σ with
   | none=>rw [hs] at hx;simp at hx
   | some y=>rw [hs] at hx;rw [rP h hs];exact hx
 | lI ops=>
   intro e σ x hx
   simp only [bK] at hx ⊢
   cases hs:qm X r ops e σ with
   | none=>rw [hs] at hx;simp at hx
   | some y=>rw [hs] at hx;rw [rQ h hs];exact hx
 | seq a b iha ihb=>
   intro e σ x hx
   simp only [bK] at hx ⊢
   cases hs:bK X r n a e σ with
   | none=>rw [hs] at hx;simp at hx
   | some y=>
     rw [hs] at hx;rw [iha hs]
     obtain⟨o,e',σ'⟩:=y
     cases o with
     | normal=>exact ihb hx
     | exit id=>exact hx
     | ret=>exact hx
 | cond y a b iha ihb=>
   intro e σ x hx
   simp only [bK] at hx ⊢
   split at hx <;> first | exact iha hx | exact ihb hx | simp at hx
 | blk id c ih=>
   intro e σ x hx
   simp only [bK] at hx ⊢
   cases hs:bK X r n c e σ with
   | none=>rw [hs] at hx;simp at hx
   | some y=>rw [hs] at hx;rw [ih hs];exact hx
 | loop live c ih=>
   intro e σ x hx
   simp only [bK] at hx ⊢
   exact l9 (fun _ _ _ hb=>ih hb) hn hx
 | cut live c ih=>
   intro e σ x hx
   simp only [bK] at hx ⊢
   exact ih hx
theorem Dl (X:Ctx):∀n,(aFn X n).le (aFn X (n+1))
 | 0=>fun _ _ _ _ hx=>by simp [aFn] at hx
 | n+1=>fun f args σ x hx=>by
   rw [aFn] at hx ⊢
   cases hp:X.ql f with
   | some g=>rw [hp] at hx;exact hx
   | none=>
     rw [hp] at hx
     simp only at hx ⊢
     cases hf:X.fns f with
     | none=>rw [hf] at hx;simp at hx
     | some F=>
       rw [hf] at hx
       simp only at hx ⊢
       split at hx
       ·rename_i hl
        rw [if_pos hl]
        cases hc:bK X (aFn X n) n F.code (eU 0 args) σ with
        | none=>rw [hc] at hx;simp at hx
        | some y=>rw [hc] at hx;rw [jh (Dl X n) (Nat.le_succ n) hc];exact hx
       ·simp at hx
theorem jP (X:Ctx) {n m:Nat} (h:n≤m):(aFn X n).le (aFn X m):=by
 induction h with
 | refl=>exact fun _ _ _ _ h=>h
 | step _ ih=>exact fun f args σ x hx=>Dl X _ _ _ _ _ (ih _ _ _ _ hx)
def zk (X:Ctx)(f:Nat)(args:List AV)(σ:St)(Q:AV→St→Prop):Prop:=Ex (fun n=>aFn X n f args σ) fun r=>Q r.1 r.2
def EvC (X:Ctx)(c:AC)(e:Env)(σ:St)(Q:Out→Env→St→Prop):Prop:=Ex (fun n=>bK X (aFn X n) n c e σ) fun r=>Q r.1 r.2.1 r.2.2
def EvL (X:Ctx)(live:List Nat)(c:AC)(e:Env)(σ:St)(Q:Out→Env→St→Prop):Prop:=Ex (fun n=>iK live (bK X (aFn X n) n c) n e σ) fun r=>Q r.1 r.2.1 r.2.2
def EvO (X:Ctx)(ops:List AI)(e:Env)(σ:St)(Q:Env→St→Prop):Prop:=Ex (fun n=>jU X (aFn X n) ops e σ) fun r=>Q r.1 r.2
def EvD (X:Ctx)(ops:List (AI×List AI))(e:Env)(σ:St)(Q:Env→St→Prop):Prop:=Ex (fun n=>qm X (aFn X n) ops e σ) fun r=>Q r.1 r.2
def EvS (X:Ctx)(e:Env)(a:AI)(σ:St)(Q:AV→St→Prop):Prop:=Ex (fun n=>b_ X (aFn X n) e a σ) fun r=>Q r.1 r.2
def opt {α:Type} (o:Option α)(Q:α→Prop):Prop:=∃r,o=some r∧Q r
theorem fO {α:Type} (a:α)(Q:α→Prop):opt (some a) Q↔Q a:=⟨fun⟨_,h,q⟩=>(by cases h;exact q),fun q=>⟨a,rfl,q⟩⟩
theorem eX {α:Type} (Q:α→Prop):opt none Q↔False:=⟨fun⟨_,h,_⟩=>(by cases h),False.elim⟩
theorem dI {α β:Type} (f:α→β)(o:Option α)(Q:β→Prop):opt (o.map f) Q↔opt o fun a=>Q (f a):=by
 cases o <;> simp [fO,eX]
theorem LC {α β:Type} (f:α→Option β)(o:Option α)(Q:β→Prop):opt (o.bind f) Q↔opt o fun a=>opt (f a) Q:=by
 cases o <;> simp [fO,eX]
theorem dJ {α:Type} (o:Option α)(Q:α→Prop):Ex (fun _=>o) Q↔opt o Q:=⟨fun⟨_,r,h,q⟩=>⟨r,h,q⟩,fun⟨r,h,q⟩=>⟨0,r,h,q⟩⟩
section
variable {X:Ctx} {e:Env} {σ:St} {Q:Out→Env→St→Prop}
theorem Dn:EvC X .skip e σ Q↔Q .normal e σ:=by simp [EvC,bK,dJ,fO]
theorem Dp {id:Nat} :EvC X (.exit id) e σ Q↔Q (.exit id) e σ:=by simp [EvC,bK,dJ,fO]
theorem Hq:EvC X .ret e σ Q↔Q .ret e σ:=by simp [EvC,bK,dJ,fO]
theorem Hr {ops:List AI} :EvC X (.reg ops) e σ Q↔EvO X ops e σ fun e' σ'=>Q .normal e' σ':=by
 constructor
 ·rintro ⟨n,r,h,q⟩
  try dsimp only at h
  simp only [bK,Option.map_eq_some_iff] at h
  obtain⟨y,hy,rfl⟩:=h
  exact⟨n,y,hy,q⟩
 ·rintro ⟨n,r,h,q⟩
  try dsimp only at h
  exact⟨n,_,by simp only [bK];rw [h];rfl,q⟩
theorem Ht {ops:List (AI×List AI)} :EvC X (.lI ops) e σ Q↔EvD X ops e σ fun e' σ'=>Q .normal e' σ':=by
 constructor
 ·rintro ⟨n,r,h,q⟩
  try dsimp only at h
  simp only [bK,Option.map_eq_some_iff] at h
  obtain⟨y,hy,rfl⟩:=h
  exact⟨n,y,hy,q⟩
 ·rintro ⟨n,r,h,q⟩
  try dsimp only at h
  exact⟨n,_,by simp only [bK];rw [h];rfl,q⟩
def Out.next (K:Env→St→Prop)(Q:Out→Env→St→Prop):Out→Env→St→Prop
 | .normal,e,σ=>K e σ
 | o,e,σ=>Q o e σ
theorem Out.ou (K:Env→St→Prop)(Q:Out→Env→St→Prop)(e:Env)(σ:St):Out.next K Q .normal e σ=K e σ:=rfl
theorem Out.t_ (K:Env→St→Prop)(Q:Out→Env→St→Prop)(e:Env)(σ:St)(id:Nat):Out.next K Q (.exit id) e σ=Q (.exit id) e σ:=rfl
theorem Out.xk (K:Env→St→Prop)(Q:Out→Env→St→Prop)(e:Env)(σ:St):Out.next K Q .ret e σ=Q .ret e σ:=rfl
theorem Hu {a b:AC} :EvC X (.seq a b) e σ Q↔EvC X a e σ (Out.next (fun e' σ'=>EvC X b e' σ' Q) Q):=by
 constructor
 ·rintro ⟨n,r,h,q⟩
  try dsimp only at h
  simp only [bK] at h
  cases hs:bK X (aFn X n) n a e σ with
  | none=>rw [hs] at h;simp at h
  | some y=>
    rw [hs] at h
    obtain⟨o,e',σ'⟩:=y
    refine⟨n,_,hs,?_⟩
    cases o with
    | normal=>exact⟨n,r,h,q⟩
    | exit id=>simp only [Option.some.injEq] at h;subst h;exact q
    | ret=>simp only [Option.some.injEq] at h;subst h;exact q
 ·rintro ⟨n,⟨o,e',σ'⟩,h,q⟩
  try dsimp only at h
  cases o with
  | normal=>
    obtain⟨m,r,hm,q'⟩:=q
    try dsimp only at hm
    refine⟨max n m,r,?_,q'⟩
    simp only [bK]
    rw [jh (jP X (Nat.le_max_left n m)) (Nat.le_max_left n m) h]
    exact jh (jP X (Nat.le_max_right n m)) (Nat.le_max_right n m) hm
  | exit id=>exact⟨n,_,by simp only [bK];rw [h],q⟩
  | ret=>exact⟨n,_,by simp only [bK];rw [h],q⟩
def Bl (v:AV)(A B:Prop):Prop:=match v with | .b true=>A | .b false=>B | _=>False
theorem Ju {A B:Prop} :Bl (.b true) A B↔A:=Iff.rfl
theorem FM {A B:Prop} :Bl (.b false) A B↔B:=Iff.rfl
theorem cndV_b {t:Bool} {A B:Prop} :Bl (.b t) A B↔(t=true→A)∧(t=false→B):=by cases t <;> simp [Bl]
theorem Dq {x:bG} {a b:AC} :EvC X (.cond x a b) e σ Q↔Bl (x.ev e) (EvC X a e σ Q) (EvC X b e σ Q):=by
 cases hx:x.ev e with
 | b t=>cases t <;> simp [EvC,bK,hx,Bl]
 | _=>simp only [EvC,bK,hx,dJ,eX,Bl]
def Out.zX (id:Nat)(Q:Out→Env→St→Prop):Out→Env→St→Prop
 | .exit j,e,σ=>if j=id then Q .normal e σ else Q (.exit j) e σ
 | o,e,σ=>Q o e σ
theorem Out.rU (id:Nat)(Q:Out→Env→St→Prop)(e:Env)(σ:St):Out.zX id Q .normal e σ=Q .normal e σ:=rfl
theorem Out.xq (id j:Nat)(Q:Out→Env→St→Prop)(e:Env)(σ:St):Out.zX id Q (.exit j) e σ=if j=id then Q .normal e σ else Q (.exit j) e σ:=rfl
theorem Out.zY (id:Nat)(Q:Out→Env→St→Prop)(e:Env)(σ:St):Out.zX id Q .ret e σ=Q .ret e σ:=rfl
theorem Hw {id:Nat} {c:AC} :EvC X (.blk id c) e σ Q↔EvC X c e σ (Out.zX id Q):=by
 constructor
 ·rintro ⟨n,r,h,q⟩
  try dsimp only at h
  simp only [bK] at h
  cases hs:bK X (aFn X n) n c e σ with
  | none=>rw [hs] at h;simp at h
  | some y=>
    rw [hs] at h
    obtain⟨o,e',σ'⟩:=y
    refine⟨n,_,hs,?_⟩
    cases o with
    | exit j=>
      simp only [Option.some.injEq] at h;subst h
      simp only [Out.zX]
      by_cases hj:j=id <;> simpa [hj] using q
    | normal=>simp only [Option.some.injEq] at h;subst h;exact q
    | ret=>simp only [Option.some.injEq] at h;subst h;exact q
 ·rintro ⟨n,⟨o,e',σ'⟩,h,q⟩
  try dsimp only at h
  cases o with
  | exit j=>
    refine⟨n,_,by simp only [bK];rw [h],?_⟩
    simp only [Out.zX] at q
    by_cases hj:j=id <;> simpa [hj] using q
  | normal=>exact⟨n,_,by simp only [bK];rw [h],q⟩
  | ret=>exact⟨n,_,by simp only [bK];rw [h],q⟩
theorem Hy {live:List Nat} {c:AC} :EvC X (.cut live c) e σ Q↔EvC X c (clear live e) σ Q:=Iff.rfl
theorem Dt {live:List Nat} {c:AC} :EvC X (.loop live c) e σ Q↔EvL X live c e σ Q:=Iff.rfl
theorem oz {live:List Nat} {c:AC} :EvL X live c e σ Q↔EvC X c (clear live e) σ (Out.next (fun e' σ'=>EvL X live c e' σ' Q) Q):=by
 constructor
 ·rintro ⟨n,r,h,q⟩
  try dsimp only at h
  cases n with
  | zero=>simp [iK] at h
  | succ n=>
    simp only [iK] at h
    cases hs:bK X (aFn X (n+1)) (n+1) c (clear live e) σ with
    | none=>rw [hs] at h;simp at h
    | some y=>
      rw [hs] at h
      obtain⟨o,e',σ'⟩:=y
      refine⟨n+1,_,hs,?_⟩
      cases o with
      | normal=>exact⟨n+1,r,l9 (fun _ _ _ h=>h) (Nat.le_succ n) h,q⟩
      | exit id=>simp only [Option.some.injEq] at h;subst h;exact q
      | ret=>simp only [Option.some.injEq] at h;subst h;exact q
 ·rintro ⟨n,⟨o,e',σ'⟩,h,q⟩
  try dsimp only at h
  cases o with
  | normal=>
    obtain⟨m,r,hm,q'⟩:=q
    try dsimp only at hm
    refine⟨max n m+1,r,?_,q'⟩
    simp only [iK]
    rw [jh (jP X (Nat.le_trans (Nat.le_max_left n m) (Nat.le_succ _))) (Nat.le_trans (Nat.le_max_left n m) (Nat.le_succ _)) h]
    exact l9 (fun _ _ _ hb=>jh (jP X (Nat.le_trans (Nat.le_max_right n m) (Nat.le_succ _))) (Nat.le_trans (Nat.le_max_right n m) (Nat.le_succ _)) hb) (Nat.le_max_right n m) hm
  | exit id=>
    refine⟨n+1,_,?_,q⟩
    simp only [iK]
    rw [jh (jP X (Nat.le_succ n)) (Nat.le_succ n) h]
  | ret=>
    refine⟨n+1,_,?_,q⟩
    simp only [iK]
    rw [jh (jP X (Nat.le_succ n)) (Nat.le_succ n) h]
end
section
variable {X:Ctx} {e:Env} {σ:St}
theorem Hz {Q:Env→St→Prop} :EvO X [] e σ Q↔Q e σ:=by simp [EvO,jU,dJ,fO]
theorem Du {a:AI} {r:List AI} {Q:Env→St→Prop} :EvO X (a :: r) e σ Q↔EvS X e a σ fun v σ'=>EvO X r (put a.d v e) σ' Q:=by
 constructor
 ·rintro ⟨n,x,h,q⟩
  try dsimp only at h
  simp only [jU] at h
  cases hs:b_ X (aFn X n) e a σ with
  | none=>rw [hs] at h;simp at h
  | some y=>rw [hs] at h;exact⟨n,y,hs,n,x,h,q⟩
 ·rintro ⟨n,y,hs,m,x,h,q⟩
  try dsimp only at h hs
  refine⟨max n m,x,?_,q⟩
  simp only [jU]
  rw [l7 (jP X (Nat.le_max_left n m)) hs]
  exact rP (jP X (Nat.le_max_right n m)) h
theorem HY {Q:Env→St→Prop} :EvD X [] e σ Q↔Q e σ:=by simp [EvD,qm,dJ,fO]
theorem Dv {a:AI} {ag:List AI} {r:List (AI×List AI)} {Q:Env→St→Prop} :
 EvD X ((a,ag) :: r) e σ Q↔EvS X e a σ fun v σ'=>ag.all (lJ X e σ')=true∧EvD X r (put a.d v e) σ' Q:=by
 constructor
 ·rintro ⟨n,x,h,q⟩
  try dsimp only at h
  simp only [qm] at h
  cases hs:b_ X (aFn X n) e a σ with
  | none=>rw [hs] at h;simp at h
  | some y=>
    rw [hs] at h
    simp only at h
    split at h
    ·rename_i hall;exact⟨n,y,hs,hall,n,x,h,q⟩
    ·simp at h
 ·rintro ⟨n,y,hs,hall,m,x,h,q⟩
  try dsimp only at h hs
  refine⟨max n m,x,?_,q⟩
  simp only [qm]
  rw [l7 (jP X (Nat.le_max_left n m)) hs]
  simp only [hall,if_true]
  exact rQ (jP X (Nat.le_max_right n m)) h
variable {Q:AV→St→Prop} {d:Option Nat}
def rV (X:Ctx)(f:AV)(args:List AV)(σ:St)(Q:AV→St→Prop):Prop:=match f with | .fn (.func k) first cap=>zk X k (first ++ args ++ cap) σ Q | _=>False
theorem LD {k:Nat} {first cap args:List AV} :rV X (.fn (.func k) first cap) args σ Q↔zk X k (first ++ args ++ cap) σ Q:=Iff.rfl
theorem LG {f:bG} {args:List bG} :EvS X e ⟨d,none,.call f args⟩ σ Q↔rV X (f.ev e) (args.map (bG.ev e)) σ Q:=by
 cases hf:f.ev e with
 | fn k a c=>cases k <;> simp [EvS,b_,cO,hf,zk,dJ,rV,eX]
 | _=>simp only [EvS,b_,cO,hf,dJ,eX,rV]
def invV (X:Ctx)(x:AV)(m:String)(args:List AV)(σ:St)(Q:AV→St→Prop):Prop:=match x with | .ic t v=>opt (X.meth t m v) (fun k=>zk X k.1 (k.2 :: args) σ Q) | _=>False
theorem Ui {t:Nat} {v:AV} {m:String} {args:List AV} :invV X (.ic t v) m args σ Q↔opt (X.meth t m v) (fun k=>zk X k.1 (k.2 :: args) σ Q):=Iff.rfl
theorem Uj {x:bG} {m:String} {args:List bG} :EvS X e ⟨d,none,.inv x m args⟩ σ Q↔invV X (x.ev e) m (args.map (bG.ev e)) σ Q:=by
 cases hf:x.ev e with
 | ic t v=>cases hm:X.meth t m v <;> simp [EvS,b_,cO,hf,hm,zk,dJ,invV,eX,fO]
 | _=>simp only [EvS,b_,cO,hf,dJ,eX,invV]
theorem EvS_op {op:dA} (h:(match op with | .call _ _ | .inv _ _ _=>false | _=>true)=true):EvS X e ⟨d,none,op⟩ σ Q↔opt (dL X.P (bG.ev e) op σ) fun r=>Q r.1 r.2:=by
 cases op <;> first | (simp at h;done) | simp only [EvS,b_,cO,dJ]
theorem LH {op:dA} {g:Nat×Bool} (h:op.pure=true):EvS X e ⟨d,some g,op⟩ σ Q↔opt (dO e (some g)) fun c=>
 opt (iI X.P c e op σ) fun v=>Q v σ:=by
 cases hw:dO e (some g) with
 | none=>simp [EvS,b_,hw,dJ,eX]
 | some c=>simp only [EvS,b_,hw,h,if_true,dJ,fO,dI]
def YH (c:Bool)(A B:Prop):Prop:=if c then A else B
theorem LJ {A B:Prop} :YH true A B↔A:=Iff.rfl
theorem Jv {A B:Prop} :YH false A B↔B:=Iff.rfl
theorem ifV_b {t:Bool} {A B:Prop} :YH t A B↔(t=true→A)∧(t=false→B):=by cases t <;> simp [YH]
def xu (X:Ctx)(ρ:bG→AV)(op:dA)(σ:St)(Q:AV→St→Prop):Prop:=Ex (fun n=>cO X (aFn X n) ρ op σ) fun r=>Q r.1 r.2
theorem H6 {op:dA} {g:Nat×Bool} (h:op.pure=false):EvS X e ⟨d,some g,op⟩ σ Q↔opt (dO e (some g)) fun c=>
 YH c (op.bM.all (fun o=>(o.ev e).cnd)=true∧xu X (fun o=>(o.ev e).val) op σ Q) (Q (.tu []) σ):=by
 cases hw:dO e (some g) with
 | none=>simp [EvS,b_,hw,dJ,eX]
 | some c=>
   simp only [EvS,b_,hw,h,fO,YH,xu]
   cases c with
   | false=>simp [dJ,fO]
   | true=>
     by_cases hc:op.bM.all (fun o=>(o.ev e).cnd)=true
     ·simp [hc]
     ·simp [hc,dJ,eX]
theorem zZ {ρ:bG→AV} {f:bG} {args:List bG} :xu X ρ (.call f args) σ Q↔rV X (ρ f) (args.map ρ) σ Q:=by
 cases hf:ρ f with
 | fn k a c=>cases k <;> simp [xu,cO,hf,zk,dJ,rV,eX]
 | _=>simp only [xu,cO,hf,dJ,eX,rV]
theorem Dw {ρ:bG→AV} {x:bG} {m:String} {args:List bG} :xu X ρ (.inv x m args) σ Q↔invV X (ρ x) m (args.map ρ) σ Q:=by
 cases hf:ρ x with
 | ic t v=>cases hm:X.meth t m v <;> simp [xu,cO,hf,hm,zk,dJ,invV,eX,fO]
 | _=>simp only [xu,cO,hf,dJ,eX,invV]
theorem bW {ρ:bG→AV} {op:dA} (h:(match op with | .call _ _ | .inv _ _ _=>false | _=>true)=true):xu X ρ op σ Q↔opt (dL X.P ρ op σ) fun r=>Q r.1 r.2:=by
 cases op <;> first | (simp at h;done) | simp only [xu,cO,dJ]
def LK:Out→Bool
 | .exit _=>false
 | _=>true
theorem EvF_fn {f:Nat} {F:AF} {args:List AV} (hp:X.ql f=none)(hf:X.fns f=some F)(hl:args.length≤F.nt) :
 zk X f args σ Q↔EvC X F.code (eU 0 args) σ fun o e σ'=>LK o=true∧opt ((m_ X.P F.res e σ').map fun v=>norm σ v σ') fun r=>Q r.1 r.2:=by
 constructor
 ·rintro ⟨n,x,h,q⟩
  try dsimp only at h
  cases n with
  | zero=>simp [aFn] at h
  | succ n=>
    simp only [aFn,hp,hf,hl,if_true] at h
    cases hc:bK X (aFn X n) n F.code (eU 0 args) σ with
    | none=>rw [hc] at h;simp at h
    | some y=>
      rw [hc] at h
      obtain⟨o,e',σ'⟩:=y
      refine⟨n,_,hc,?_⟩
      cases o with
      | exit j=>simp at h
      | normal=>exact⟨rfl,x,h,q⟩
      | ret=>exact⟨rfl,x,h,q⟩
 ·rintro ⟨n,⟨o,e',σ'⟩,hc,ho,x,hv,q⟩
  try dsimp only at hc
  refine⟨n+1,x,?_,q⟩
  simp only [aFn,hp,hf,hl,if_true,hc]
  cases o with
  | exit j=>simp [LK] at ho
  | normal=>exact hv
  | ret=>exact hv
theorem Uk {f:Nat} {args:List AV} {v:AV} {σ':St} (h:zk X f args σ fun a s=>a=v∧s=σ'):zk X f args σ Q↔Q v σ':=by
 obtain⟨n,x,hx,h1,h2⟩:=h
 constructor
 ·rintro ⟨m,y,hy,q⟩
  try dsimp only at hx hy
  have a:=jP X (Nat.le_max_left n m) _ _ _ _ hx
  have b:=jP X (Nat.le_max_right n m) _ _ _ _ hy
  rw [a] at b
  obtain rfl:=Option.some.inj b
  exact h1▸h2▸q
 ·intro q
  exact⟨n,x,hx,by show Q x.1 x.2;rw [h1,h2];exact q⟩
theorem xw {f:Nat} {args:List AV} {Q':AV→St→Prop} (h:zk X f args σ Q)(hq:∀v s,Q v s→Q' v s):zk X f args σ Q':=by
 obtain⟨n,x,hx,q⟩:=h
 exact⟨n,x,hx,hq _ _ q⟩
end
theorem rW {X:Ctx} {c:AC} {e:Env} {σ:St} {Q Q':Out→Env→St→Prop} (h:EvC X c e σ Q)(hq:∀o e s,Q o e s→Q' o e s):EvC X c e σ Q':=by
 obtain⟨n,x,hx,q⟩:=h
 exact⟨n,x,hx,hq _ _ _ q⟩
theorem LM {X:Ctx} {live:List Nat} {c:AC} {e:Env} {σ:St} {Q Q':Out→Env→St→Prop} (h:EvL X live c e σ Q)(hq:∀o e s,Q o e s→Q' o e s):EvL X live c e σ Q':=by
 obtain⟨n,x,hx,q⟩:=h
 exact⟨n,x,hx,hq _ _ _ q⟩
section
variable {X:Ctx}
@[congr] theorem EvL_congr {l:List Nat} {e e':Env} {a:AC} {σ σ':St} {Q:Out→Env→St→Prop} (he:e=e') (h:σ=σ'):EvL X l a e σ Q↔EvL X l a e' σ' Q:=by rw [h,he]
@[congr] theorem EvF_congr {f:Nat} {a a':List AV} {σ σ':St} {Q:AV→St→Prop} (ha:a=a') (h:σ=σ'):zk X f a σ Q↔zk X f a' σ' Q:=by rw [h,ha]
@[congr] theorem YI {f f':AV} {a a':List AV} {σ σ':St} {Q:AV→St→Prop} (hf:f=f') (ha:a=a') (h:σ=σ'):rV X f a σ Q↔rV X f' a' σ' Q:=by rw [h,ha,hf]
@[congr] theorem invV_congr {f f':AV} {m:String} {a a':List AV} {σ σ':St} {Q:AV→St→Prop} (hf:f=f') (ha:a=a') (h:σ=σ'):invV X f m a σ Q↔invV X f' m a' σ' Q:=by rw [h,ha,hf]
@[congr] theorem opt_congr {α:Type} {o o':Option α} {Q:α→Prop} (h:o=o'):opt o Q↔opt o' Q:=by rw [h]
@[congr] theorem cndV_congr {v v':AV} {A B:Prop} (h:v=v'):Bl v A B↔Bl v' A B:=by rw [h]
@[congr] theorem ifV_congr {v v':Bool} {A B:Prop} (h:v=v'):YH v A B↔YH v' A B:=by rw [h]
end
attribute [simp ↓] Dn Dp Hq Hr Ht Hu Dq Hw Dt Hy Hz Du HY Dv LG Uj EvS_op LH H6 zZ Dw bW
attribute [simp ↓] Out.ou Out.t_ Out.xk Out.rU Out.xq Out.zY fO eX dI LC
attribute [simp] Ju FM cndV_b LJ Jv ifV_b LD Ui LK
attribute [simp] get put bG.ev bG.isC eU dA.bM dO AV.val AV.cnd lW iI merge uO qj dL gy iH EZ y7 Tq y8 Fh Fg KO m_ lX pU norm AV.flat AV.zJ clear
end Go.dD
namespace Go.dD
def lC (ops:Array Oper):Option (Nat×Bool)→Option (Nat×Bool)→Bool
 | none,none=>true
 | some (j,w),some (n,w')=>w == w' && ((ops[j]?).bind (·.dst)) == some n
 | _,_=>false
def uZ (N:Nat):Option Nat→Bool
 | none=>true
 | some d=>decide (d<N)
def lS (P:Program)(G N:Nat)(ops:Array Oper)(o:Oper)(a:AI):Bool:=o.dst == a.d && uZ N a.d && lC ops o.guard a.gd && lQ P G o.op a.op
def xA (P:Program)(G N:Nat)(ops:Array Oper):List Nat→List AI→Bool
 | [],[]=>true
 | i :: is,a :: xs=>(match ops[i]? with | some o=>lS P G N ops o a | none=>false) && xA P G N ops is xs
 | _,_=>false
def Enters (P:Program)(f:Nat):Prop:=∀(args:Array Value) (w:World),(callFunc f args).run P w= .ok (.enter f args) w
theorem mg {P:Program} {f:Nat} {fn:Func} (hf:P.funcs[f]? =some fn)(hn:(fn.name == "runtime.NumGoroutine")=false)(hb:fn.body.isSome=true):Enters P f:=by
 intro args w
 obtain⟨c,hc⟩:=Option.isSome_iff_exists.1 hb
 have h1:fn.name≠"runtime.NumGoroutine" :=by simpa using hn
 simp [callFunc,hf,h1,hc]
def After (G:Nat)(μ:Mu)(σ:St)(w:World)(r:AV)(σ':St)(e:Ending)(w':World):Prop:=∃v μ',e= .returned v∧aN μ' w' r v∧Step G μ σ w μ' σ' w'
def Does (P:Program)(f:Nat)(aX:Array Value)(w:World)(R:Ending→World→Prop):Prop:=
 ((callFunc f aX).run P w= .ok (.enter f aX) w∧Calls P f aX w R)∨∃v w',(callFunc f aX).run P w= .ok (.value v) w'∧R (.returned v) w'
theorem Does.mono {P:Program} {f:Nat} {aX:Array Value} {w:World} {R R':Ending→World→Prop} (h:Does P f aX w R)(hr:∀e w',R e w'→R' e w'):Does P f aX w R':=by
 rcases h with ⟨h1,h2⟩ | ⟨v,w',h1,h2⟩
 ·exact .inl ⟨h1,h2.mono hr⟩
 ·exact .inr ⟨v,w',h1,hr _ _ h2⟩
def jT (P:Program)(G:Nat)(run:Run):Prop:=∀f args σ r σ',run f args σ=some (r,σ')→∀μ w (aX:Array Value),fD G μ σ w→aQ μ w args aX.toList→Does P f aX w (After G μ σ w r σ')
structure Ctx.Ok (X:Ctx)(G:Nat):Prop where
 meth:∀t m a k,X.meth t m a=some k→∀(μ:Mu) (v:Value) (w:World),aN μ w a v→∃v',(method (X.P.types.size+Made.depth) t v m).run X.P w= .ok (k.1,v') w∧aN μ w k.2 v'
 ql:∀f g,X.ql f=some g→∀args σ r σ',g args σ=some (r,σ')→∀μ w (aX:Array Value),fD G μ σ w→aQ μ w args aX.toList→Does X.P f aX w (After G μ σ w r σ')
structure dR (G N:Nat)(μ:Mu)(w:World)(e:Env)(tmps:Array Value):Prop where
 size:tmps.size=N
 rel:∀n,aN μ w (get e n) (tmps.getD n undef)
section
variable {X:Ctx} {G N:Nat} {μ:Mu} {σ:St} {w:World}
theorem dR.mono {μ':Mu} {w':World} {e:Env} {tmps:Array Value} (h:dR G N μ w e tmps)(hm:μ.le μ')(hw:jc w w'):dR G N μ' w' e tmps:=
 ⟨h.size,fun n=>aN.mono hm hw _ _ (h.rel n)⟩
theorem dR.put {e:Env} {act:Act} {d:Option Nat} {r:AV} {v:Value} (h:dR G N μ w e act.tmps)(hd:uZ N d=true)(hr:aN μ w r v):dR G N μ w (dD.put d r e) (act.put d v).tmps:=by
 cases d with
 | none=>exact h
 | some d=>
   simp only [uZ,decide_eq_true_eq] at hd
   refine⟨by simpa [Act.put] using h.size,fun n=>?_⟩
   have hs:=h.size
   simp only [dD.put,Go.dD.get,Act.put]
   rw [Array.getD_eq_getD_getElem?,Array.getElem?_setIfInBounds]
   split
   ·rename_i he;subst he
    rw [if_pos (by omega)]
    exact hr
   ·rename_i he
    rw [←Array.getD_eq_getD_getElem?]
    exact h.rel n
theorem dR.clear {e:Env} {tmps:Array Value} (h:dR G N μ w e tmps)(l:List Nat):dR G N μ w (dD.clear l e) tmps:=by
 refine⟨h.size,fun n=>?_⟩
 have hg:get (dD.clear l e) n=get e n∨get (dD.clear l e) n= .u:=by
  unfold dD.clear
  induction l with
  | nil=>exact .inr rfl
  | cons d l ih=>
    simp only [List.map_cons,Go.dD.get]
    split
    ·rename_i he;subst he;exact .inl rfl
    ·exact ih
 rcases hg with hg | hg
 ·rw [hg];exact h.rel n
 ·rw [hg];trivial
theorem lD (hs:fD G μ σ w) {e:Env} {act:Act} (h:dR G N μ w e act.tmps) {x:Operand} {y:bG} (hk:bV G x y=true):aN μ w (y.ev e) (act.eval x):=by
 unfold bV at hk
 split at hk
 ·simp only [beq_iff_eq] at hk;subst hk;exact h.rel _
 ·have:=AV.mY _ _ hk
  simp only [bG.ev]
  rw [←this]
  exact qZ _
 ·simp only [Bool.and_eq_true,beq_iff_eq,decide_eq_true_eq] at hk
  obtain⟨rfl,hg⟩:=hk
  exact⟨_,0,hs.tV _ hg,rfl⟩
 ·simp only [beq_iff_eq] at hk;subst hk
  exact⟨#[],#[],rfl,rfl,rfl⟩
 ·cases hk
theorem H7 (hs:fD G μ σ w) {e:Env} {act:Act} (h:dR G N μ w e act.tmps)(l:List bG):ny G μ w l (bG.ev e) act.eval:=fun _ _ hk _=>lD hs h hk
theorem H8 (hs:fD G μ σ w) {e:Env} {act:Act} (h:dR G N μ w e act.tmps)(l:List bG)(hc:∀y∈l,(y.ev e).cnd=true):ny G μ w l (fun y=>(y.ev e).val) act.eval:=
 fun _ y hk hy=>o8 (lD hs h hk) (hc y hy)
def LP:Option Value→Option Bool
 | some (.bool b)=>some b
 | _=>none
theorem nC {ops:Array Oper} {e:Env} {act:Act} {o:Oper} {g:Option (Nat×Bool)} {c:Bool} (h:dR G N μ w e act.tmps)(hk:lC ops o.guard g=true)(hw:dO e g=some c) :
 Region.wanted o (yielded ops act.tmps)=c:=by
 cases hg:o.guard with
 | none=>
   rw [hg] at hk
   cases g with
   | none=>simp only [dO,Option.some.injEq] at hw;subst hw;simp [Region.wanted,hg]
   | some g=>simp [lC] at hk
 | some jw=>
   rw [hg] at hk
   obtain⟨j,want⟩:=jw
   cases g with
   | none=>simp [lC] at hk
   | some g=>
     obtain⟨n,want'⟩:=g
     simp only [lC,Bool.and_eq_true,beq_iff_eq] at hk
     obtain⟨rfl,hd⟩:=hk
     have hrel:=h.rel n
     have hy:yielded ops act.tmps j=LP act.tmps[n]? :=by
        simp only [yielded,hd,Option.bind_some]
        rfl
     have hget:∀b,act.tmps.getD n undef= .bool b→act.tmps[n]? =some (.bool b):=by
        intro b hb
        simp only [Array.getD] at hb
        split at hb
        ·rename_i hlt;rw [Array.getElem?_eq_getElem hlt];exact congrArg some hb
        ·cases hb
     have hund:act.tmps.getD n undef=undef→LP act.tmps[n]? =none:=by
        intro hu
        simp only [Array.getD] at hu
        split at hu
        ·rename_i hlt;rw [Array.getElem?_eq_getElem hlt];rw [show act.tmps[n]=undef from hu];rfl
        ·rename_i hlt;rw [Array.getElem?_eq_none (by omega)];rfl
     simp only [dO] at hw
     simp only [Region.wanted,hg,hy]
     split at hw
     ·rename_i x hx
      rw [hx] at hrel
      simp only [aN] at hrel
      rw [hget _ hrel]
      simp only [Option.some.injEq] at hw
      subst hw
      cases x <;> cases want <;> rfl
     ·rename_i c' x hx
      rw [hx] at hrel
      simp only [Option.some.injEq] at hw
      cases c' with
      | true=>
        simp only [aN,if_true] at hrel
        rw [hget _ hrel]
        subst hw
        cases x <;> cases want <;> rfl
      | false=>
        simp only [aN] at hrel
        have hr':act.tmps.getD n undef=undef:=hrel
        rw [hund hr']
        subst hw
        cases want <;> rfl
     ·rename_i x hx' hx
      rw [hx] at hrel
      have hr':act.tmps.getD n undef=undef:=hrel
      rw [hund hr']
      simp only [Option.some.injEq] at hw
      subst hw
      cases want <;> rfl
     ·rename_i hx
      rw [hx] at hrel
      obtain⟨a,ha,hl⟩:=hrel
      have hu:act.tmps.getD n undef=undef:=by
       rw [ha]
       simp only [aQ] at hl
       have:a= #[]:=by apply Array.ext';simpa using hl
       rw [this];rfl
      rw [hund hu]
      simp only [Option.some.injEq] at hw
      subst hw
      cases want <;> rfl
     ·cases hw
def Bo (P:Program)(ops:Array Oper)(o:Oper)(K:Act→World→Prop)(Q:Exit→Act→World→Prop)(act:Act)(w:World):Prop:=
 if Region.wanted o (yielded ops act.tmps) then o.wp P act w K Q∨(o.asks P act w∧LetsOut Q) else K (act.put o.dst undef) w
theorem H9 {P:Program} {o:Oper} {act:Act} {K:Act→World→Prop} {Q:Exit→Act→World→Prop} {r:AV} {σ':St} {b:Bool} (h:Bj P G μ σ w (execOp act.eval o) r σ' b)
 (hK:∀v w' μ',aN μ' w' r v→Step G μ σ w μ' σ' w'→K (act.put o.dst v) w'):o.wp P act w K Q:=by
 obtain⟨n,w',μ',v,h1,h2,h3,h4,_⟩:=h
 unfold Oper.wp
 rw [h1]
 rcases h2 with rfl | ⟨rfl,rfl⟩
 ·exact hK _ _ _ h3 h4
 ·exact hK _ _ _ h3 h4
theorem xB {P:Program} {o:Oper} {act:Act} {K:Act→World→Prop} {Q:Exit→Act→World→Prop} {r:AV} {σ':St} (h:Bj P G μ σ w (execOp act.eval o) r σ' true)
 (hK:∀v,aN μ w r v→K (act.put o.dst v) w):o.wp P act w K Q:=by
 obtain⟨n,w',μ',v,h1,h2,h3,h4,h5⟩:=h
 obtain⟨rfl,rfl⟩:=h5 rfl
 unfold Oper.wp
 rw [h1]
 rcases h2 with rfl | ⟨rfl,rfl⟩
 ·exact hK _ h3
 ·exact hK _ h3
theorem H_ {P:Program} {run:Run} (hrun:jT P G run) {o:Oper} {act:Act} {K:Act→World→Prop} {Q:Exit→Act→World→Prop} {f:Nat} {args:List AV} {r:AV} {σ':St} {aX:Array Value}
 (hs:fD G μ σ w) (h:run f args σ=some (r,σ')) (hx:(execOp act.eval o).run P w=(callFunc f aX).run P w) (hr:aQ μ w args aX.toList)
 (hK:∀v w' μ',aN μ' w' r v→Step G μ σ w μ' σ' w'→K (act.put o.dst v) w'):o.wp P act w K Q:=by
 unfold Oper.wp
 rcases hrun _ _ _ _ _ h μ w aX hs hr with ⟨h1,h2⟩ | ⟨v,w',h1,v',μ',hv,hr',hst⟩
 ·rw [hx,h1,Oper.upon_enter]
  refine h2.mono fun e w' he=>?_
  obtain⟨v,μ',rfl,hv,hst⟩:=he
  exact hK _ _ _ hv hst
 ·rw [hx,h1,Oper.upon_value]
  cases hv
  exact hK _ _ _ hr' hst
theorem z_ {run:Run} (hX:X.Ok G)(hrun:jT X.P G run) {o:Oper} {a:dA} {act:Act} {tJ:bG→AV} {K:Act→World→Prop} {Q:Exit→Act→World→Prop} {r:AV} {σ':St} (hs:fD G μ σ w)(hok:lQ X.P G o.op a=true)
 (hρ:ny G μ w a.bM tJ act.eval) (hn:rO tJ) (h:cO X run tJ a σ=some (r,σ'))
 (hK:∀v w' μ',aN μ' w' r v→Step G μ σ w μ' σ' w'→K (act.put o.dst v) w'):o.wp X.P act w K Q:=by
 by_cases hcall:∃f args,a= .call f args
 ·obtain⟨f,args,rfl⟩:=hcall
  simp only [cO] at h
  cases hop:o.op with
  | call c=>
    rw [hop] at hok
    simp only [lQ,lN] at hok
    cases hc:c.callee with
    | invoke x m=>rw [hc] at hok;simp at hok
    | builtin b=>
      rw [hc] at hok
      simp only [iC] at hok
      split at hok <;> simp_all
    | value fo=>
      rw [hc] at hok
      simp only [Bool.and_eq_true] at hok
      split at h
      ·rename_i k first cap hf
       have hfr:=hρ _ _ hok.1 (by simp [dA.bM])
       rw [hf] at hfr
       obtain⟨ca,cc,hfv,r1,r2⟩:=hfr
       have hargs:=kC hρ hok.2 (fun y hy=>by simp [dA.bM,hy])
       refine H_ hrun (aX:=ca ++ c.args.map act.eval ++ cc) hs h ?_ ?_ hK
       ·simp [execOp,hop,resolve,hc,hfv,Deferred.ofValue,invoke]
       ·simp only [Array.toList_append,Array.toList_map]
        exact(r1.append hargs).append r2
      ·cases h
  | _=>rw [hop] at hok;simp [lQ] at hok
 by_cases hinv:∃x m args,a= .inv x m args
 ·obtain⟨x,m,args,rfl⟩:=hinv
  simp only [cO] at h
  cases hop:o.op with
  | call c=>
    rw [hop] at hok
    simp only [lQ,lN] at hok
    cases hc:c.callee with
    | value fo=>rw [hc] at hok;simp at hok
    | builtin b=>
      rw [hc] at hok
      simp only [iC] at hok
      split at hok <;> simp_all
    | invoke xo m'=>
      rw [hc] at hok
      simp only [Bool.and_eq_true,beq_iff_eq] at hok
      obtain⟨⟨hx,rfl⟩,hargs⟩:=hok
      split at h
      ·rename_i t v hxv
       split at h
       ·rename_i k hk
        have hxr:=hρ _ _ hx (by simp [dA.bM])
        rw [hxv] at hxr
        obtain⟨y,hy,hyr⟩:=hxr
        have hargs':=kC hρ hargs (fun y hy=>by simp [dA.bM,hy])
        obtain⟨y',hm,hyr'⟩:=hX.meth t _ _ k hk μ y w hyr
        refine H_ hrun (aX:=#[y'] ++ c.args.map act.eval) hs h ?_ ?_ hK
        ·have he:(#[Value.iface t y] ++ c.args.map act.eval).extract 1 (#[Value.iface t y] ++ c.args.map act.eval).size=c.args.map act.eval:=by
               apply Array.ext'
               simp only [Array.toList_extract,Array.toList_append,List.extract_eq_take_drop,Array.size_append,Array.size_map]
               simp [List.take_of_length_le]
         have h0:(#[Value.iface t y] ++ c.args.map act.eval)[0]? =some (Value.iface t y):=by rw [Array.getElem?_append];simp
         have h2:(c.args.map act.eval).extract 0 c.args.size=c.args.map act.eval:=by
               apply Array.ext'
               simp [List.take_of_length_le]
         simp [execOp,hop,resolve,hc,hy,invoke,callMethod,h0,hm,h2]
        ·simp only [Array.toList_append,Array.toList_map]
         exact⟨y',_,rfl,hyr',hargs'⟩
       ·cases h
      ·cases h
  | _=>rw [hop] at hok;simp [lQ] at hok
 have h':dL X.P tJ a σ=some (r,σ'):=by
  cases a <;> first | exact h | exact absurd ⟨_,_,rfl⟩ hcall | exact absurd ⟨_,_,_,rfl⟩ hinv
 exact H9 (FI hs hok hρ hn h') hK
end
end Go.dD
namespace Go.dD
theorem u_ (e:Env):rO (bG.ev e):=by
 intro v h
 simp only [bG.ev] at h
 rw [h];rfl
theorem rX (e:Env):rO (fun y=>(y.ev e).val):=fun _ h=>h
theorem xC {P:Program} {ρ:bG→AV} {op:dA} {σ σ':St} {r:AV} (hp:op.pure=true)(h:dL P ρ op σ=some (r,σ')):σ'= σ:=by
 cases op <;> simp only [dA.pure,Bool.false_eq_true] at hp <;> simp only [dL] at h
 all_goals first
  | (rw [Option.map_eq_some_iff] at h;obtain⟨q,_,h⟩:=h;cases h;rfl)
  | (cases h;rfl)
  | (split at h <;> first | (cases h;done) | (cases h;rfl) | (rw [Option.map_eq_some_iff] at h;obtain⟨q,_,h⟩:=h;cases h;rfl))
section
variable {X:Ctx} {G N:Nat} {μ:Mu} {σ:St} {w:World} {ops:Array Oper}
theorem kD {run:Run} {ρ:bG→AV} {op:dA} (hp:op.pure=true):cO X run ρ op σ=dL X.P ρ op σ:=by
 cases op <;> first | rfl | (simp [dA.pure] at hp)
theorem Ul {e:Env} {l:List bG} (h:(l.all fun o=>jZ true (o.ev e).cnd)=true):∀y∈l,(y.ev e).cnd=true:=by
 simp only [List.all_eq_true,dV] at h
 exact h
theorem Jw {o:Oper} {q a b:bG} {e:Env} {act:Act} {r:AV} (hs:fD G μ σ w)(he:dR G N μ w e act.tmps)(hok:lQ X.P G o.op (.pick q a b)=true)
 (h:qj true (q.ev e) (a.ev e) (b.ev e)=some r) {f:Bool} :Bj X.P G μ σ w (execOp act.eval o) r σ f:=by
 cases ho:o.op <;> rw [ho] at hok <;> simp only [lQ,Bool.false_eq_true] at hok
 case pick c x y=>
  simp only [Bool.and_eq_true] at hok
  unfold qj at h
  split at h
  ·rename_i z hz
   split at h
   ·rename_i hi
    cases h
    simp only [dV,Bool.and_eq_true,Bool.true_and] at hi
    have hq:=o8 (lD hs he hok.1.1) hi.1.1
    rw [hz] at hq
    simp only [aN] at hq
    refine⟨.value (if z then act.eval x else act.eval y),w,μ,_,?_,.inl rfl,?_,Step.refl hs,fun _=>⟨rfl,rfl⟩⟩
    ·simp [execOp,ho,hq,asBool]
    ·simp only [aN,if_true]
     refine zU (fun ht=>o8 (lD hs he hok.1.2) (by simpa [ht] using hi.1.2)) (fun ht=>o8 (lD hs he hok.2) (by simpa [ht] using hi.2))
   ·cases h
  ·cases h
 case call c=>
  unfold lN at hok
  split at hok <;> rename_i h1 h2 <;> first | (cases h2;done) | skip
  all_goals simp_all [iC]
theorem guard_false {P:Program} {e:Env} {op:dA} {r:AV} (h:iI P false e op σ=some r):∃v,r= .cd false v:=by
 simp only [iI,Bool.false_eq_true,if_false,Option.some.injEq] at h
 exact⟨_,h.symm⟩
theorem guard_true {o:Oper} {a:dA} {e:Env} {act:Act} {r:AV} (hs:fD G μ σ w)(he:dR G N μ w e act.tmps)(hok:lQ X.P G o.op a=true)(hp:a.pure=true)
 (h0:iI X.P true e a σ=some r):Bj X.P G μ σ w (execOp act.eval o) r σ a.exact:=by
 have h:gB X.P e a σ=some r:=h0
 by_cases hpk:∃q x y,a= .pick q x y
 ·obtain⟨q,x,y,rfl⟩:=hpk
  exact Jw hs he hok h
 have h':lW true (a.bM.all (fun o=>jZ true (o.ev e).cnd)) (dL X.P (fun o=>(o.ev e).val) a σ)=some r:=by
  cases a <;> first | exact h | exact absurd ⟨_,_,_,rfl⟩ hpk
 unfold lW at h'
 split at h'
 ·rename_i q hq
  split at h'
  ·rename_i hi
   cases h'
   obtain⟨r1,σ1⟩:=q
   have hσ:=xC hp hq
   subst hσ
   obtain⟨n,w',μ',v,h1,h2,h3,h4⟩:=FI hs hok (H8 hs he a.bM (Ul hi)) (rX e) hq
   exact⟨n,w',μ',v,h1,h2,by simpa [aN] using h3,h4⟩
  ·cases h'
 ·simp at h'
theorem Dx {run:Run} (hX:X.Ok G)(hrun:jT X.P G run) {o:Oper} {a:AI} {e:Env} {act:Act} {K:Act→World→Prop} {Q:Exit→Act→World→Prop} {r:AV} {σ':St} (hs:fD G μ σ w)(he:dR G N μ w e act.tmps)
 (hok:lS X.P G N ops o a=true) (h:b_ X run e a σ=some (r,σ'))
 (hK:∀v w' μ',aN μ' w' r v→Step G μ σ w μ' σ' w'→K (act.put o.dst v) w'):Bo X.P ops o K Q act w:=by
 simp only [lS,Bool.and_eq_true,beq_iff_eq] at hok
 obtain⟨⟨⟨hd,hN⟩,hg⟩,hop⟩:=hok
 unfold b_ at h
 unfold Bo
 split at h
 ·rename_i hgd
  rw [hgd] at hg
  rw [nC he hg (c:=true) rfl,if_pos rfl]
  exact .inl (z_ hX hrun hs hop (H7 hs he _) (u_ e) h hK)
 ·rename_i g hgd
  rw [hgd] at hg
  split at h
  ·cases h
  ·rename_i c hc
   rw [nC he hg hc]
   split at h
   ·rename_i hp
    rw [Option.map_eq_some_iff] at h
    obtain⟨q,hq,h⟩:=h;cases h
    cases c with
    | true=>
      rw [if_pos rfl]
      exact .inl (H9 (guard_true hs he hop hp hq) hK)
    | false=>
      rw [if_neg (by simp)]
      obtain⟨v,rfl⟩:=guard_false hq
      exact hK _ _ _ (by simp [aN]) (Step.refl hs)
   ·cases c with
    | true=>
      rw [if_pos rfl] at h ⊢
      split at h
      ·rename_i ha
       simp only [List.all_eq_true] at ha
       exact .inl (z_ hX hrun hs hop (H8 hs he _ ha) (rX e) h hK)
      ·cases h
    | false=>
      simp only [Bool.false_eq_true,if_false,Option.some.injEq,Prod.mk.injEq] at h ⊢
      obtain⟨rfl,rfl⟩:=h
      exact hK _ _ _ ⟨#[],rfl,rfl⟩ (Step.refl hs)
theorem qx {op:dA} (h:op.exact=true):op.pure=true:=by
 cases op <;> first | exact h | cases h
theorem FN {run:Run} {o:Oper} {a:AI} {e:Env} {act:Act} {K:Act→World→Prop} {Q:Exit→Act→World→Prop} {r:AV} {σ':St} (hs:fD G μ σ w)(he:dR G N μ w e act.tmps)
 (hok:lS X.P G N ops o a=true) (hx:a.op.exact=true) (h:b_ X run e a σ=some (r,σ'))
 (hK:∀v,aN μ w r v→K (act.put o.dst v) w):Bo X.P ops o K Q act w:=by
 simp only [lS,Bool.and_eq_true,beq_iff_eq] at hok
 obtain⟨⟨⟨hd,hN⟩,hg⟩,hop⟩:=hok
 have hp:=qx hx
 unfold b_ at h
 unfold Bo
 split at h
 ·rename_i hgd
  rw [hgd] at hg
  rw [nC he hg (c:=true) rfl,if_pos rfl]
  rw [kD hp] at h
  have hto:=FI hs hop (H7 hs he _) (u_ e) h
  rw [hx] at hto
  exact .inl (xB hto hK)
 ·rename_i g hgd
  rw [hgd] at hg
  split at h
  ·cases h
  ·rename_i c hc
   rw [nC he hg hc]
   split at h
   ·rw [Option.map_eq_some_iff] at h
    obtain⟨q,hq,h⟩:=h;cases h
    cases c with
    | true=>
      rw [if_pos rfl]
      have hto:=guard_true hs he hop hp hq
      rw [hx] at hto
      exact .inl (xB hto hK)
    | false=>
      rw [if_neg (by simp)]
      obtain⟨v,rfl⟩:=guard_false hq
      exact hK _ (by simp [aN])
   ·rename_i hn;exact absurd hp hn
def mD (ds:List Deferred)(G N:Nat)(μ:Mu)(σ:St)(w:World)(e':Env)(σ':St)(act':Act)(w':World):Prop:=
 ∃ μ',Step G μ σ w μ' σ' w'∧dR G N μ' w' e' act'.tmps∧act'.defers=ds
theorem iM (act:Act)(d:Option Tmp)(v:Value):(act.put d v).defers=act.defers:=by cases d <;> rfl
theorem Bq {ds:List Deferred} {run:Run} (hX:X.Ok G)(hrun:jT X.P G run) {Q:Exit→Act→World→Prop} :∀(is:List Nat) (l:List AI) (e:Env) (act:Act) (μ:Mu) (σ:St) (w:World) (e':Env) (σ':St),
 xA X.P G N ops is l=true→fD G μ σ w→dR G N μ w e act.tmps→act.defers=ds→jU X run l e σ=some (e',σ')→
 (∀act' w',mD ds G N μ σ w e' σ' act' w'→Q .normal act' w')→wpOps X.P ops Q is act w
 | [],[],e,act,μ,σ,w,e',σ',_,hs,he,hd,h,hQ=>by
   cases h
   exact hQ _ _ ⟨μ,Step.refl hs,he,hd⟩
 | [],_ :: _,_,_,_,_,_,_,_,hk,_,_,_,_,_=>by simp [xA] at hk
 | _ :: _,[],_,_,_,_,_,_,_,hk,_,_,_,_,_=>by simp [xA] at hk
 | i :: is,a :: l,e,act,μ,σ,w,e',σ',hk,hs,he,hd,h,hQ=>by
   simp only [xA,Bool.and_eq_true] at hk
   obtain⟨h1,h2⟩:=hk
   split at h1
   ·rename_i o ho
    simp only [jU] at h
    split at h
    ·rename_i v σ1 hst
     rw [wpOps]
     simp only [ho]
     refine Dx (ops:=ops) hX hrun hs he h1 hst fun u w' μ' hv hstep=>?_
     have hk1:=h1
     simp only [lS,Bool.and_eq_true,beq_iff_eq] at hk1
     have he':=(he.mono hstep.ext hstep.tX)
     refine Bq (ds:=ds) hX hrun is l _ _ μ' σ1 w' e' σ' h2 hstep.pV (by rw [hk1.1.1.1];exact he'.put hk1.1.1.2 hv) (by rw [iM];exact hd) h ?_
     intro act' w'' hl
     obtain⟨μ2,hs2,he2,hd2⟩:=hl
     exact hQ _ _ ⟨μ2,hstep.trans hs2,he2,hd2⟩
    ·cases h
   ·cases h1
end
end Go.dD
namespace Go.dD
def bG.sl:bG→List Nat
 | .t n=>[n]
 | .c _=>[]
def AI.slots (a:AI):List Nat:=a.op.bM.flatMap bG.sl ++ (match a.gd with | some (n,_)=>[n] | none=>[])
def dA.still:dA→Bool
 | .load _ _ | .slc _ _ _ _ | .EY _ _ _ _ | .YE _ _ | .vY false _ _ _=>false
 | op=>op.pure
section
variable {X:Ctx} {P:Program} {G N:Nat} {σ:St} {ops:Array Oper}
theorem Aa {ρ ρ':bG→AV} {op:dA} (h:∀y∈op.bM,ρ y=ρ' y):dL P ρ op σ=dL P ρ' op σ:=by
 have hm:∀l:List bG,(∀y∈l,ρ y=ρ' y)→l.map ρ=l.map ρ':=fun l hl=>List.map_congr_left hl
 have hp:∀l:List (Nat×bG),(∀y∈l.map (·.2),ρ y=ρ' y)→(l.map fun q=>(q.1,ρ q.2))=l.map fun q=>(q.1,ρ' q.2):=fun l hl=>
  List.map_congr_left fun q hq=>by rw [hl q.2 (List.mem_map.2 ⟨q,hq,rfl⟩)]
 cases op
 case build t ps=>simp only [dL,dA.bM] at h ⊢;rw [hp _ h]
 case zG t n ps=>simp only [dL,dA.bM] at h ⊢;rw [hp _ h]
 case vX f a c=>
  simp only [dL,dA.bM] at h ⊢
  rw [hm a fun y hy=>h y (by simp [hy]),hm c fun y hy=>h y (by simp [hy])]
 case mn mx xs=>simp only [dL,dA.bM] at h ⊢;rw [hm _ h]
 case S9 t r=>
  simp only [dA.bM] at h
  have h2:r.map ρ=r.map ρ':=by
   cases r with
   | none=>rfl
   | some y=>simp only [Option.map_some];rw [h y (by simp)]
  simp only [dL]
  rw [h2]
 case sl3 t x l hh m=>
  simp only [dA.bM] at h
  have h1:ρ x=ρ' x:=h x (by simp)
  have h2:l.map ρ=l.map ρ':=by
   cases l with
   | none=>rfl
   | some y=>simp only [Option.map_some];rw [h y (by simp)]
  have h3:ρ hh=ρ' hh:=h hh (by simp)
  have h4:ρ m=ρ' m:=h m (by simp)
  simp only [dL]
  rw [h1,h2,h3,h4]
 case slc t x l hh=>
  simp only [dA.bM] at h
  have h1:ρ x=ρ' x:=h x (by simp)
  have h2:l.map ρ=l.map ρ':=by
   cases l with
   | none=>rfl
   | some y=>simp only [Option.map_some];rw [h y (by simp)]
  have h3:hh.map ρ=hh.map ρ':=by
   cases hh with
   | none=>rfl
   | some y=>simp only [Option.map_some];rw [h y (by simp)]
  simp only [dL]
  rw [h1,h2,h3]
 all_goals first
  | rfl
  | (simp only [dA.bM,List.mem_cons,List.not_mem_nil,or_false,forall_eq_or_imp,forall_eq] at h;simp only [dL,h])
theorem vg {run:Run} {ρ ρ':bG→AV} {op:dA} (h:∀y∈op.bM,ρ y=ρ' y):cO X run ρ op σ=cO X run ρ' op σ:=by
 have hm:∀l:List bG,(∀y∈l,ρ y=ρ' y)→l.map ρ=l.map ρ':=fun l hl=>List.map_congr_left hl
 cases op
 case call f args=>simp only [cO,dA.bM] at h ⊢;rw [h f (by simp),hm args fun y hy=>h y (by simp [hy])]
 case inv x m args=>simp only [cO,dA.bM] at h ⊢;rw [h x (by simp),hm args fun y hy=>h y (by simp [hy])]
 all_goals exact Aa (P:=X.P) (σ:=σ) h
theorem rY {e e':Env} {y:bG} (h:∀x∈y.sl,get e x=get e' x):y.ev e=y.ev e':=by
 cases y with
 | c v=>rfl
 | t n=>exact h n (by simp [bG.sl])
theorem all_congr {l:List bG} {p q:bG→Bool} (h:∀y∈l,p y=q y):l.all p=l.all q:=by
 induction l with
 | nil=>rfl
 | cons y l ih=>simp only [List.all_cons];rw [h y (by simp),ih fun z hz=>h z (by simp [hz])]
theorem Bv {c:Bool} {e e':Env} {op:dA} (h:∀y∈op.bM,y.ev e=y.ev e'):iI P c e op σ=iI P c e' op σ:=by
 have hl:lW true (op.bM.all (fun o=>jZ true (o.ev e).cnd)) (dL P (fun o=>(o.ev e).val) op σ)=lW true (op.bM.all (fun o=>jZ true (o.ev e').cnd)) (dL P (fun o=>(o.ev e').val) op σ):=by
  rw [all_congr (q:=fun o=>jZ true (o.ev e').cnd) fun y hy=>by rw [h y hy],Aa (ρ':=fun o=>(o.ev e').val) fun y hy=>by rw [h y hy]]
 suffices gB P e op σ=gB P e' op σ by unfold iI;rw [this]
 by_cases hpk:∃q x y,op= .pick q x y
 ·obtain⟨q,x,y,rfl⟩:=hpk
  simp only [gB]
  rw [h q (by simp [dA.bM]),h x (by simp [dA.bM]),h y (by simp [dA.bM])]
 ·cases op <;> first | exact hl | exact absurd ⟨_,_,_,rfl⟩ hpk
theorem iW {run:Run} {e e':Env} {a:AI} (h:∀x∈a.slots,get e x=get e' x):b_ X run e a σ=b_ X run e' a σ:=by
 have ho:∀y∈a.op.bM,y.ev e=y.ev e':=fun y hy=>rY fun x hx=>h x (by
  simp only [AI.slots,List.mem_append,List.mem_flatMap];exact .inl ⟨y,hy,hx⟩)
 unfold b_
 cases hg:a.gd with
 | none=>exact vg ho
 | some g=>
   obtain⟨n,w⟩:=g
   have hw:dO e (some (n,w))=dO e' (some (n,w)):=by
    simp only [dO]
    rw [h n (by simp [AI.slots,hg])]
   simp only [hw]
   cases dO e' (some (n,w)) with
   | none=>rfl
   | some c=>
     simp only []
     rw [Bv ho,all_congr (q:=fun o=>(o.ev e').cnd) fun y hy=>by rw [ho y hy],vg (ρ':=fun o=>(o.ev e').val) fun y hy=>by rw [ho y hy]]
theorem xE {o:Option AV} {v:AV} {σ1:St} (h:o.map (·,σ)=some (v,σ1))(σ':St):o.map (·,σ')=some (v,σ'):=by
 cases o with
 | none=>cases h
 | some q=>cases h;rfl
theorem o9 {ρ:bG→AV} {op:dA} {σ1:St} {v:AV} (hs:op.still=true)(h:dL P ρ op σ=some (v,σ1))(σ':St):dL P ρ op σ'= some (v,σ'):=by
 by_cases hc:∃b s d x,op= .vY b s d x
 ·obtain⟨b,s,d,x,rfl⟩:=hc
  cases b with
  | false=>cases hs
  | true=>
    simp only [dL] at h ⊢
    rw [Fj (σ:=σ)]
    exact xE h σ'
 cases op <;> (try exact absurd ⟨_,_,_,_,rfl⟩ hc) <;> simp only [dA.still,dA.pure,Bool.false_eq_true] at hs <;> simp only [dL] at h ⊢
 all_goals first
  | exact xE h σ'
  | (cases h;rfl)
  | (split at h <;> first | (cases h;done) | (cases h;rfl) | exact xE h σ')
theorem qy {op:dA} (h:op.still=true):op.pure=true:=by
 cases op <;> first | rfl | exact h
theorem Jy {c ok:Bool} {q q':Option (AV×St)} (h:q.map (·.1)=q'.map (·.1)):lW c ok q=lW c ok q':=by
 cases q <;> cases q' <;> simp_all [lW]
theorem xG {ρ:bG→AV} {op:dA} (hs:op.still=true)(σ σ':St):(dL P ρ op σ).map (·.1)=(dL P ρ op σ').map (·.1):=by
 cases h:dL P ρ op σ with
 | some q=>rw [o9 hs (σ1:=q.2) (v:=q.1) h σ'];rfl
 | none=>
   cases h':dL P ρ op σ' with
   | none=>rfl
   | some q=>rw [o9 hs (σ1:=q.2) (v:=q.1) h' σ] at h;cases h
theorem Bz {c:Bool} {e:Env} {op:dA} (hs:op.still=true)(σ σ':St):iI P c e op σ=iI P c e op σ':=by
 have hl:=Jy (c:=true) (ok:=op.bM.all (fun o=>jZ true (o.ev e).cnd)) (xG (P:=P) (ρ:=fun o=>(o.ev e).val) hs σ σ')
 suffices gB P e op σ=gB P e op σ' by unfold iI;rw [this]
 by_cases hpk:∃q x y,op= .pick q x y
 ·obtain⟨q,x,y,rfl⟩:=hpk;rfl
 ·cases op <;> first | exact hl | exact absurd ⟨_,_,_,rfl⟩ hpk
theorem nD {run:Run} {e:Env} {a:AI} {σ1:St} {v:AV} (hp:a.op.pure=true)(h:b_ X run e a σ=some (v,σ1)):σ1=σ:=by
 unfold b_ at h
 split at h
 ·rw [kD hp] at h;exact xC hp h
 ·split at h
  ·cases h
  ·rw [if_pos hp,Option.map_eq_some_iff] at h
   obtain⟨q,_,h⟩:=h;cases h;rfl
theorem Dy {run:Run} {e:Env} {a:AI} {σ1:St} {v:AV} (hs:a.op.still=true)(h:b_ X run e a σ=some (v,σ1))(σ':St):b_ X run e a σ'= some (v,σ'):=by
 have hp:=qy hs
 unfold b_ at h ⊢
 split at h
 ·rename_i hg
  rw [kD hp] at h
  rw [kD hp]
  exact o9 hs h σ'
 ·split at h
  ·cases h
  ·rename_i c hc
   rw [if_pos hp,Option.map_eq_some_iff] at h
   obtain⟨q,hq,h⟩:=h;cases h
   simp only [hc,hp,if_true]
   rw [Bz hs σ' σ,hq];rfl
end
structure DI where
 i:Nat
 a:AI
 again:List AI
 Ac:List Nat
def dK (ops:Array Oper)(i:Nat):List Nat:=match ops[i]? with
 | some o=>(o.after.toList.filter (Region.binds .any)).map (·.on)
 | none=>[]
def Dz (P:Program)(G N:Nat)(ops:Array Oper)(i:Nat)(a:AI):Bool:=match ops[i]? with
 | some o=>lS P G N ops o a
 | none=>false
def uni:List Nat→List Nat→List Nat
 | [],l=>l
 | j :: js,l=>uni js (if l.contains j then l else j :: l)
def YJ (done:List DI):List Nat→List Nat→List Nat
 | [],l=>l
 | j :: js,l=>YJ done js (match done.find? (·.i == j) with | some t=>uni t.Ac l | none=>l)
def xH (P:Program)(G N:Nat)(ops:Array Oper):List (AI×List AI)→List DI→List DI
 | [],done=>done.reverse
 | (a,ag) :: r,done=>match (List.range ops.size).find? (fun i=>!(done.any (·.i == i)) && Dz P G N ops i a) with
   | some i=>xH P G N ops r (⟨i,a,ag,YJ done (dK ops i) (dK ops i)⟩ :: done)
   | none=>[]
def DC (P:Program)(G N:Nat)(ops:Array Oper)(T:List DI)(p:Nat)(t:DI):Bool:=
 Dz P G N ops t.i t.a &&
 (dK ops t.i).all (fun j=>(T.take p).any (·.i == j)) &&
 t.Ac.all fun j=>(dK ops t.i).contains j || (T.take p).any fun b=>(dK ops t.i).contains b.i && b.Ac.contains j
def oC (P:Program)(G N:Nat)(ops:Array Oper)(T:List DI)(q:Nat)(b:DI)(p:Nat)(a:DI):Bool:=
 b.i != a.i &&
 (match b.a.d with
    | some x=>a.a.d != some x && (!(a.a.slots.contains x) || a.Ac.contains b.i)
    | none=>true) &&
 (match a.a.d with
    | some x=>!(b.a.slots.contains x) || a.Ac.contains b.i
    | none=>true) &&
 (b.a.op.pure || a.a.op.still || a.Ac.contains b.i) &&
 (a.a.op.pure || !b.a.op.pure || b.a.op.still || a.Ac.contains b.i || a.again.any fun b'=>Dz P G N ops b.i b' && b'.op.pure && b'.slots.all (fun x=>b.a.slots.contains x && ((T.take p).drop q).all fun r=>r.a.d != some x))
def LQ (P:Program)(G N:Nat)(ops:Array Oper)(T:List DI):Bool:=
 (List.range ops.size).all (fun i=>T.any (·.i == i)) &&
 (List.range T.length).all fun p=>match T[p]? with
    | some t=>DC P G N ops T p t && (List.range p).all fun q=>match T[q]? with
      | some b=>oC P G N ops T q b p t
      | none=>true
    | none=>true
def FP (i:Nat)(k:Nat→Bool):Bool:=match i with
 | 0=>k 0
 | n+1=>k (n+1)
def wE:List Nat→(List Nat→Bool)→Bool
 | [],k=>k []
 | i :: l,k=>FP i fun i'=>wE l fun l'=>k (i' :: l')
def BA:List DI→(List DI→Bool)→Bool
 | [],k=>k []
 | ⟨i,a,ag,Ac⟩ :: r,k=>FP i fun i'=>wE Ac fun anc'=>BA r fun r'=>k (⟨i',a,ag,anc'⟩ :: r')
theorem Ad (i:Nat)(k:Nat→Bool):FP i k=k i:=by cases i <;> rfl
theorem xI:∀(l:List Nat) (k:List Nat→Bool),wE l k=k l
 | [],_=>rfl
 | i :: l,k=>by simp only [wE,Ad,xI l]
theorem Ae:∀(l:List DI) (k:List DI→Bool),BA l k=k l
 | [],_=>rfl
 | ⟨i,a,ag,Ac⟩ :: r,k=>by simp only [BA,Ad,xI,Ae r]
def Ia (P:Program)(G N:Nat)(ops:Array Oper)(l:List (AI×List AI)):Bool:=
 BA (xH P G N ops l []) fun T=>LQ P G N ops T && T.length == l.length
theorem Af {P:Program} {G N:Nat} {ops:Array Oper} :∀(l:List (AI×List AI)) (done:List DI),(xH P G N ops l done).length=l.length+done.length→
 (xH P G N ops l done).map (fun t=>(t.a,t.again))=done.reverse.map (fun t=>(t.a,t.again)) ++ l
 | [],done,_=>by simp [xH]
 | (a,ag) :: r,done,h=>by
   unfold xH at h ⊢
   split
   ·rename_i i hi
    rw [hi] at h
    simp only at h
    rw [Af r _ (by rw [h];simp;omega)]
    simp
   ·rename_i hi
    rw [hi] at h
    simp at h
    omega
end Go.dD
namespace Go.dD
structure Tab (P:Program)(G N:Nat)(ops:Array Oper)(T:List DI):Prop where
 all:∀i<ops.size,∃(p:Nat) (t:DI),T[p]? =some t∧t.i=i
 at':∀(p:Nat) (t:DI),T[p]? =some t→∃o,ops[t.i]? =some o∧lS P G N ops o t.a=true
 edge:∀(p:Nat) (t:DI),T[p]? =some t→∀j∈dK ops t.i,∃(q:Nat) (b:DI),q<p∧T[q]? =some b∧b.i=j
 Ac:∀(p:Nat) (t:DI),T[p]? =some t→∀j∈t.Ac,j∈dK ops t.i∨∃(q:Nat) (b:DI),q<p∧T[q]? =some b∧b.i∈dK ops t.i∧j∈b.Ac
 ne:∀(q:Nat) (b:DI) (p:Nat) (a:DI),q<p→T[q]? =some b→T[p]? =some a→b.i≠a.i
 dst:∀(q:Nat) (b:DI) (p:Nat) (a:DI),q<p→T[q]? =some b→T[p]? =some a→∀x,b.a.d=some x→a.a.d≠some x
 raw:∀(q:Nat) (b:DI) (p:Nat) (a:DI),q<p→T[q]? =some b→T[p]? =some a→∀x,b.a.d=some x→x∈a.a.slots→b.i∈a.Ac
 war:∀(q:Nat) (b:DI) (p:Nat) (a:DI),q<p→T[q]? =some b→T[p]? =some a→∀x,a.a.d=some x→x∈b.a.slots→b.i∈a.Ac
 eff:∀(q:Nat) (b:DI) (p:Nat) (a:DI),q<p→T[q]? =some b→T[p]? =some a→b.a.op.pure=false→a.a.op.still=false→b.i∈a.Ac
 again:∀(q:Nat) (b:DI) (p:Nat) (a:DI),q<p→T[q]? =some b→T[p]? =some a→a.a.op.pure=false→b.a.op.pure=true→b.a.op.still=false→b.i∉a.Ac→
  ∃ b'∈a.again,(∃o,ops[b.i]? =some o∧lS P G N ops o b'= true)∧b'.op.pure=true∧∀x∈b'.slots,x∈b.a.slots∧∀(r:Nat) (c:DI),q≤r→r<p→T[r]? =some c→c.a.d≠some x
theorem mF {P:Program} {G N:Nat} {ops:Array Oper} {i:Nat} {a:AI} (h:Dz P G N ops i a=true):∃o,ops[i]? =some o∧lS P G N ops o a=true:=by
 unfold Dz at h
 split at h
 ·rename_i o ho;exact⟨o,ho,h⟩
 ·cases h
theorem rZ {α:Type} {l:List α} {p:Nat} {x:α} (h:x∈l.take p):∃q,q<p∧l[q]? =some x:=by
 obtain⟨q,hq⟩:=List.getElem?_of_mem h
 rw [List.getElem?_take] at hq
 split at hq
 ·exact⟨q,by assumption,hq⟩
 ·cases hq
theorem FQ {P:Program} {G N:Nat} {ops:Array Oper} {T:List DI} (h:LQ P G N ops T=true):Tab P G N ops T:=by
 simp only [LQ,Bool.and_eq_true,List.all_eq_true,List.mem_range,List.any_eq_true,beq_iff_eq] at h
 obtain⟨h1,h2⟩:=h
 have one:∀(p:Nat) (t:DI),T[p]? =some t→DC P G N ops T p t=true:=by
  intro p t ht
  have:=h2 p (bZ ht)
  rw [ht] at this
  simp only [Bool.and_eq_true] at this
  exact this.1
 have pair:∀(q:Nat) (b:DI) (p:Nat) (a:DI),q<p→T[q]? =some b→T[p]? =some a→oC P G N ops T q b p a=true:=by
  intro q b p a uf hb ha
  have:=h2 p (bZ ha)
  rw [ha] at this
  simp only [Bool.and_eq_true,List.all_eq_true,List.mem_range] at this
  have:=this.2 q uf
  rw [hb] at this
  exact this
 refine⟨?_,?_,?_,?_,?_,?_,?_,?_,?_,?_⟩
 ·intro i hi
  obtain⟨t,ht,hti⟩:=h1 i hi
  obtain⟨p,hp⟩:=List.getElem?_of_mem ht
  exact⟨p,t,hp,hti⟩
 ·intro p t ht
  have:=one p t ht
  simp only [DC,Bool.and_eq_true] at this
  exact mF this.1.1
 ·intro p t ht j hj
  have:=one p t ht
  simp only [DC,Bool.and_eq_true,List.all_eq_true,List.any_eq_true,beq_iff_eq] at this
  obtain⟨b,hb,hbj⟩:=this.1.2 j hj
  obtain⟨q,hq,hqb⟩:=rZ hb
  exact⟨q,b,hq,hqb,hbj⟩
 ·intro p t ht j hj
  have:=one p t ht
  simp only [DC,Bool.and_eq_true,List.all_eq_true,List.any_eq_true,beq_iff_eq,Bool.or_eq_true,List.contains_iff_mem] at this
  rcases this.2 j hj with h | ⟨b,hb,hbj⟩
  ·exact .inl h
  ·obtain⟨q,hq,hqb⟩:=rZ hb
   exact .inr ⟨q,b,hq,hqb,hbj.1,hbj.2⟩
 ·intro q b p a uf hb ha
  have:=pair q b p a uf hb ha
  simp only [oC,Bool.and_eq_true,bne_iff_ne] at this
  exact this.1.1.1.1
 ·intro q b p a uf hb ha x hx
  have:=pair q b p a uf hb ha
  simp only [oC,Bool.and_eq_true,hx,bne_iff_ne] at this
  exact this.1.1.1.2.1
 ·intro q b p a uf hb ha x hx hs
  have:=pair q b p a uf hb ha
  simp only [oC,Bool.and_eq_true,hx,Bool.or_eq_true,Bool.not_eq_true',List.contains_iff_mem] at this
  rcases this.1.1.1.2.2 with h | h
  ·rw [List.contains_eq_mem] at h;simp at h;exact absurd hs h
  ·exact h
 ·intro q b p a uf hb ha x hx hs
  have:=pair q b p a uf hb ha
  simp only [oC,Bool.and_eq_true,hx,Bool.or_eq_true,Bool.not_eq_true',List.contains_iff_mem] at this
  rcases this.1.1.2 with h | h
  ·rw [List.contains_eq_mem] at h;simp at h;exact absurd hs h
  ·exact h
 ·intro q b p a uf hb ha hx hs
  have:=pair q b p a uf hb ha
  simp only [oC,Bool.and_eq_true,hx,hs,Bool.or_eq_true,List.contains_iff_mem,Bool.false_eq_true,false_or] at this
  exact this.1.2
 ·intro q b p a uf hb ha hx hs1 hs hn
  have:=pair q b p a uf hb ha
  simp only [oC,Bool.and_eq_true,hx,hs,hs1,Bool.or_eq_true,List.contains_iff_mem,Bool.false_eq_true,false_or,Bool.not_true,or_false,hn,List.any_eq_true,List.all_eq_true,bne_iff_ne] at this
  obtain⟨b',hb',⟨h3,h4⟩,h5⟩:=this.2
  refine⟨b',hb',mF h3,h4,fun x hx=>⟨(h5 x hx).1,fun r c hr hrp hc=>(h5 x hx).2 c ?_⟩⟩
  refine List.mem_of_getElem? (i:=r - q) ?_
  rw [List.getElem?_drop,List.getElem?_take,if_pos (by omega),show q+(r - q)=r by omega]
  exact hc
end Go.dD
namespace Go.dD
theorem ji {d:Nat} {v:AV} {e:Env} :get (put (some d) v e) d=v:=by simp [put,get]
theorem jB {d:Option Nat} {v:AV} {e:Env} {x:Nat} (h:d≠some x):get (put d v e) x=get e x:=by
 cases d with
 | none=>rfl
 | some d=>
   have hne:¬d=x:=fun he=>h (by rw [he])
   simp [put,get,hne]
theorem DF {X:Ctx} {run:Run} :∀(l:List (AI×List AI)) (e:Env) (σ:St) (e':Env) (σ':St),qm X run l e σ=some (e',σ')→
 ∃ (E:Nat→Env) (S:Nat→St) (V:Nat→AV),E 0=e∧S 0=σ∧E l.length=e'∧S l.length=σ'∧
   ∀ (p:Nat) (a:AI) (ag:List AI),l[p]? =some (a,ag)→b_ X run (E p) a (S p)=some (V p,S (p+1))∧E (p+1)=put a.d (V p) (E p)∧∀b∈ag,lJ X (E p) (S (p+1)) b=true
 | [],e,σ,e',σ',h=>by
   cases h
   exact⟨fun _=>e,fun _=>σ,fun _=>.u,rfl,rfl,rfl,rfl,fun p a ag hp=>by simp at hp⟩
 | (a,ag) :: l,e,σ,e',σ',h=>by
   simp only [qm] at h
   split at h
   ·rename_i v σ1 hst
    split at h
    ·rename_i hag
     obtain⟨E,S,V,h1,h2,h3,h4,h5⟩:=DF l _ _ _ _ h
     refine⟨fun | 0=>e | p+1=>E p,fun | 0=>σ | p+1=>S p,fun | 0=>v | p+1=>V p,rfl,rfl,h3,h4,?_⟩
     intro p a' ag' hp
     cases p with
     | zero=>
       simp only [List.getElem?_cons_zero,Option.some.injEq,Prod.mk.injEq] at hp
       obtain⟨rfl,rfl⟩:=hp
       refine⟨by simpa [h2] using hst,h1,?_⟩
       intro b hb
       simp only [List.all_eq_true] at hag
       simpa [h2] using hag b hb
     | succ p=>
       exact h5 p a' ag' (by simpa using hp)
    ·cases h
   ·cases h
section
variable {X:Ctx} {G N:Nat} {ops:Array Oper} {T:List DI}
structure Runs (X:Ctx)(run:Run)(T:List DI)(E:Nat→Env)(S:Nat→St)(V:Nat→AV):Prop where
 step:∀(p:Nat) (t:DI),T[p]? =some t→b_ X run (E p) t.a (S p)=some (V p,S (p+1))
 env:∀(p:Nat) (t:DI),T[p]? =some t→E (p+1)=put t.a.d (V p) (E p)
 again:∀(p:Nat) (t:DI),T[p]? =some t→∀b∈t.again,lJ X (E p) (S (p+1)) b=true
variable {run:Run} {E:Nat→Env} {S:Nat→St} {V:Nat→AV}
theorem kE (hR:Runs X run T E S V) {x:Nat} :∀(p q:Nat),q≤p→p≤T.length→(∀(r:Nat) (c:DI),q≤r→r<p→T[r]? =some c→c.a.d≠some x)→get (E p) x=get (E q) x
 | 0,q,hq,_,_=>by rw [show q=0 by omega]
 | p+1,q,hq,hp,h=>by
   by_cases uf:q=p+1
   ·rw [uf]
   ·have ht:T[p]? =some T[p]:=List.getElem?_eq_getElem (by omega)
    rw [hR.env p _ ht,jB (h p _ (by omega) (by omega) ht)]
    exact kE hR p q (by omega) (by omega) fun r c h1 h2 h3=>h r c h1 (by omega) h3
theorem ug (hT:Tab X.P G N ops T)(hR:Runs X run T E S V) {x q p:Nat} {t:DI} (hq:T[q]? =some t)(hx:t.a.d=some x)(uf:q<p)(hp:p≤T.length):get (E p) x=V q:=by
 rw [kE hR p (q+1) (by omega) hp fun r c h1 h2 h3=>hT.dst q t r c (by omega) hq h3 x hx,hR.env q t hq,hx,ji]
theorem kF (hR:Runs X run T E S V):∀(p q:Nat),q≤p→p≤T.length→(∀(r:Nat) (c:DI),q≤r→r<p→T[r]? =some c→c.a.op.pure=true)→S p=S q
 | 0,q,hq,_,_=>by rw [show q=0 by omega]
 | p+1,q,hq,hp,h=>by
   by_cases uf:q=p+1
   ·rw [uf]
   ·have ht:T[p]? =some T[p]:=List.getElem?_eq_getElem (by omega)
    rw [nD (h p _ (by omega) (by omega) ht) (hR.step p _ ht)]
    exact kF hR p q (by omega) (by omega) fun r c h1 h2 h3=>h r c h1 (by omega) h3
def Closed (ops:Array Oper)(L:Nat→Prop):Prop:=∀i,L i→∀j∈dK ops i,L j
theorem xJ (hT:Tab X.P G N ops T) {L:Nat→Prop} (hc:Closed ops L):∀(p:Nat) (t:DI),T[p]? =some t→(∀j∈dK ops t.i,L j)→∀j∈t.Ac,L j:=by
 intro p
 induction p using Nat.strongRecOn with
 | _ p ih=>
   intro t ht hb j hj
   rcases hT.Ac p t ht j hj with h | ⟨q,b,hq,hqb,hbi,hjb⟩
   ·exact hb j h
   ·exact ih q hq b hqb (hc _ (hb _ hbi)) j hjb
structure At (X:Ctx)(G N:Nat)(ops:Array Oper)(T:List DI)(E:Nat→Env)(S:Nat→St)(V:Nat→AV)(L:Nat→Prop)(c:Nat)(ec:Env):Prop where
 closed:Closed ops L
 le:c≤T.length
 cut:∀(q:Nat) (t:DI),T[q]? =some t→t.a.op.pure=false→(q<c↔L t.i)
 wrote:∀(q:Nat) (t:DI) (x:Nat),T[q]? =some t→L t.i→t.a.d=some x→get ec x=V q
 kept:∀(x:Nat),(∀(q:Nat) (t:DI),T[q]? =some t→L t.i→t.a.d≠some x)→get ec x=get (E 0) x
variable {L:Nat→Prop} {c:Nat} {ec:Env}
theorem pos_eq (hT:Tab X.P G N ops T) {p q:Nat} {t u:DI} (hp:T[p]? =some t)(hq:T[q]? =some u)(h:t.i=u.i):p=q:=by
 rcases Nat.lt_trichotomy p q with hl | hl | hl
 ·exact absurd h (hT.ne p t q u hl hp hq)
 ·exact hl
 ·exact absurd h.symm (hT.ne q u p t hl hq hp)
theorem xK (hT:Tab X.P G N ops T) {p q:Nat} {t u:DI} {x:Nat} (hp:T[p]? =some t)(hq:T[q]? =some u)(h:t.a.d=some x)(k:u.a.d=some x):p=q:=by
 rcases Nat.lt_trichotomy p q with hl | hl | hl
 ·exact absurd k (hT.dst p t q u hl hp hq x h)
 ·exact hl
 ·exact absurd h (hT.dst q u p t hl hq hp x k)
theorem At.agree (hT:Tab X.P G N ops T)(hR:Runs X run T E S V)(h:At X G N ops T E S V L c ec) {p:Nat} {t:DI} (hp:T[p]? =some t)(hn:¬L t.i)(hb:∀j∈dK ops t.i,L j) :
 ∀ x∈t.a.slots,get ec x=get (E p) x:=by
 intro x hx
 have hlen:p<T.length:=bZ hp
 by_cases hw:∃(q:Nat) (u:DI),T[q]? =some u∧u.a.d=some x
 ·obtain⟨q,u,hq,hu⟩:=hw
  rcases Nat.lt_trichotomy q p with hl | hl | hl
  ·have hL:=xJ hT h.closed p t hp hb _ (hT.raw q u p t hl hq hp x hu hx)
   rw [h.wrote q u x hq hL hu,ug hT hR hq hu hl (by omega)]
  ·subst hl
   rw [hp] at hq;cases hq
   rw [h.kept x fun r v hr hv hd=>by
        have hpr:=xK hT hp hr hu hd
        subst hpr
        rw [hp] at hr;cases hr
        exact hn hv]
   rw [kE hR q 0 (by omega) (by omega) fun r v _ h2 hr hd=>by have:=xK hT hp hr hu hd;omega]
  ·have hA:=hT.war p t q u hl hp hq x hu hx
   have hnu:¬L u.i:=fun hL=>hn (xJ hT h.closed q u hq (h.closed _ hL) _ hA)
   rw [h.kept x fun r v hr hv hd=>by
        have:=xK hT hq hr hu hd
        subst this
        rw [hq] at hr;cases hr
        exact hnu hv]
   rw [kE hR p 0 (by omega) (by omega) fun r v _ h2 hr hd=>by have:=xK hT hq hr hu hd;omega]
 ·rw [h.kept x fun r v hr _ hd=>hw ⟨r,v,hr,hd⟩]
  rw [kE hR p 0 (by omega) (by omega) fun r v _ _ hr hd=>hw ⟨r,v,hr,hd⟩]
theorem DJ (T:List DI)(p:Nat):∀c:Nat,(∀(r:Nat) (v:DI),p≤r→r<c→T[r]? =some v→v.a.op.pure=true)∨
 ∃ (q:Nat) (u:DI),p≤q∧q<c∧T[q]? =some u∧u.a.op.pure=false∧∀(r:Nat) (v:DI),q<r→r<c→T[r]? =some v→v.a.op.pure=true
 | 0=>.inl fun r v _ h=>by omega
 | c+1=>by
   by_cases hc:∃u,T[c]? =some u∧u.a.op.pure=false∧p≤c
   ·obtain⟨u,hu,hpu,hpc⟩:=hc
    exact .inr ⟨c,u,hpc,by omega,hu,hpu,fun r v h1 h2=>by omega⟩
   ·have hc':∀(v:DI),p≤c→T[c]? =some v→v.a.op.pure=true:=fun v h1 h2=>by
     cases hh:v.a.op.pure with
     | true=>rfl
     | false=>exact absurd ⟨v,h2,hh,h1⟩ hc
    rcases DJ T p c with h | ⟨q,u,h1,h2,h3,h4,h5⟩
    ·refine .inl fun r v hr hrc hv=>?_
     by_cases hrc':r=c
     ·subst hrc';exact hc' v hr hv
     ·exact h r v hr (by omega) hv
    ·refine .inr ⟨q,u,h1,by omega,h3,h4,fun r v hr hrc hv=>?_⟩
     by_cases hrc':r=c
     ·subst hrc';exact hc' v (by omega) hv
     ·exact h5 r v hr (by omega) hv
theorem At.next (hT:Tab X.P G N ops T)(hR:Runs X run T E S V)(h:At X G N ops T E S V L c ec) {p:Nat} {t:DI} (hp:T[p]? =some t)(hn:¬L t.i)(hb:∀j∈dK ops t.i,L j) {o:Oper} (ho:ops[t.i]? =some o) :
 ∃ run' a' c',(run'= run∨run'= fun _ _ _=>none)∧lS X.P G N ops o a'= true∧b_ X run' ec a' (S c)=some (V p,S c')∧c'≤T.length∧
   ∀ (q:Nat) (u:DI),T[q]? =some u→u.a.op.pure=false→(q<c'↔L u.i∨q=p):=by
 have hlen:p<T.length:=bZ hp
 have hok:lS X.P G N ops o t.a=true:=by
  obtain⟨o',ho',h'⟩:=hT.at' p t hp
  rw [ho] at ho';cases ho';exact h'
 have hag:=h.agree hT hR hp hn hb
 have hanc:=xJ hT h.closed p t hp hb
 have hst:=hR.step p t hp
 have Ib:t.a.op.still=false→c≤p→S p=S c:=fun hs hcp=>kF hR p c hcp (by omega) fun r u h1 h2 hr=>by
  cases hpu:u.a.op.pure with
  | true=>rfl
  | false=>
    have hL:=hanc _ (hT.eff r u p t h2 hr hp hpu hs)
    have:=(h.cut r u hr hpu).2 hL
    omega
 cases hpure:t.a.op.pure with
 | false=>
   have hs:t.a.op.still=false:=by
    cases hh:t.a.op.still with
    | false=>rfl
    | true=>rw [qy hh] at hpure;cases hpure
   have hcp:c≤p:=by
    apply Nat.le_of_not_lt
    intro hlt
    exact hn ((h.cut p t hp hpure).1 hlt)
   refine⟨run,t.a,p+1,.inl rfl,hok,?_,by omega,?_⟩
   ·rw [iW hag,←Ib hs hcp];exact hst
   ·intro q u hq hpu
    constructor
    ·intro hlt
     by_cases uf:q=p
     ·exact .inr uf
     ·exact .inl (hanc _ (hT.eff q u p t (by omega) hq hp hpu hs))
    ·intro hL
     rcases hL with hL | hL
     ·apply Nat.lt_of_not_le
      intro hle
      have hA:=hT.eff p t q u (by omega) hp hq hpure (by
       cases hh:u.a.op.still with
       | false=>rfl
       | true=>rw [qy hh] at hpu;cases hpu)
      exact hn (xJ hT h.closed q u hq (h.closed _ hL) _ hA)
     ·omega
 | true=>
   have hcut:∀(q:Nat) (u:DI),T[q]? =some u→u.a.op.pure=false→(q<c↔L u.i∨q=p):=by
    intro q u hq hpu
    rw [h.cut q u hq hpu]
    constructor
    ·exact .inl
    ·rintro (h | h)
     ·exact h
     ·subst h;rw [hp] at hq;cases hq;rw [hpure] at hpu;cases hpu
   cases hs:t.a.op.still with
   | true=>exact⟨run,t.a,c,.inl rfl,hok,by rw [iW hag];exact Dy hs hst _,h.le,hcut⟩
   | false=>
     have hSp:S (p+1)=S p:=nD hpure hst
     by_cases hcp:c≤p
     ·refine⟨run,t.a,c,.inl rfl,hok,?_,h.le,hcut⟩
      rw [iW hag,←Ib hs hcp,hst,hSp]
     ·
        rcases DJ T p c with hex | ⟨q,u,h1,h2,hq,hpu,hlast⟩
        rotate_left
        ·skip
         have uf:p<q:=by
          rcases Nat.lt_or_ge p q with hl | hl
          ·exact hl
          ·have:q=p:=by omega
           subst this;rw [hp] at hq;cases hq;rw [hpure] at hpu;cases hpu
         have hLu:=(h.cut q u hq hpu).1 h2
         have hnA:t.i∉u.Ac:=fun hA=>hn (xJ hT h.closed q u hq (h.closed _ hLu) _ hA)
         obtain⟨b',hb',⟨o',ho',hok'⟩,hbp,hsl⟩:=hT.again p t q u uf hp hq hpu hpure hs hnA
         rw [ho] at ho';cases ho'
         have Um:=hR.again q u hq b' hb'
         have hSc:S c=S (q+1):=kF hR c (q+1) (by omega) h.le fun r v h3 h4 hr=>hlast r v (by omega) h4 hr
         have hd:b'.d=t.a.d:=by
          simp only [lS,Bool.and_eq_true,beq_iff_eq] at hok hok'
          rw [←hok.1.1.1,←hok'.1.1.1]
         refine⟨fun _ _ _=>none,b',c,.inr rfl,hok',?_,h.le,hcut⟩
         unfold lJ at Um
         split at Um
         ·rename_i d v σ1 hbd hstep
          have hv:=AV.mY _ _ Um
          have hσ1:=nD hbp hstep
          subst hσ1
          rw [hd] at hbd
          rw [ug hT hR hp hbd uf (by have:=bZ hq;omega)] at hv
          rw [hSc,iW (e':=E q),hstep,hv]
          intro x hx
          rw [hag x (hsl x hx).1]
          rw [kE hR q p (by omega) (by have:=bZ hq;omega) fun r v h3 h4 hr=>(hsl x hx).2 r v h3 h4 hr]
         ·cases Um
        ·have hSc:S c=S p:=kF hR c p (by omega) h.le hex
         refine⟨run,t.a,c,.inl rfl,hok,?_,h.le,hcut⟩
         rw [iW hag,hSc,hst,hSp]
theorem jX {listed:Array Bool} {i:Nat} (h:i<listed.size):listed.getD i true=listed.getD i false:=by
 rw [Array.getD_eq_getD_getElem?,Array.getD_eq_getD_getElem?,Array.getElem?_eq_getElem h];rfl
theorem o_ {i j:Nat} {o:Oper} (ho:ops[i]? =some o):j∈dK ops i↔∃e∈o.after,Region.binds .any e=true∧e.on=j:=by
 unfold dK
 rw [ho]
 simp only [List.mem_map,List.mem_filter,Array.mem_toList_iff]
 constructor
 ·rintro ⟨e,⟨h1,h2⟩,h3⟩;exact⟨e,h1,h2,h3⟩
 ·rintro ⟨e,h1,h2,h3⟩;exact⟨e,⟨h1,h2⟩,h3⟩
def KR (n:Nat)(listed:Array Bool):List Nat:=(List.range n).filter fun i=>!listed.getD i false
theorem Ic {n i:Nat} {listed:Array Bool} (hi:i<n)(hs:listed.size=n)(hl:listed.getD i false=false):(KR n (listed.setIfInBounds i true)).length<(KR n listed).length:=by
 have he:KR n (listed.setIfInBounds i true)=(KR n listed).filter (fun j=>j != i):=by
  unfold KR
  rw [List.filter_filter]
  apply List.filter_congr
  intro j hj
  by_cases hji:i=j
  ·subst hji
   simp [Array.getElem?_setIfInBounds,hs,hi]
  ·rw [getD_set_ne false hji]
   simp [Ne.symm hji]
 rw [he,List.length_filter_lt_length_iff_exists]
 refine⟨i,?_,by simp⟩
 unfold KR
 rw [List.mem_filter]
 exact⟨List.mem_range.2 hi,by rw [hl];rfl⟩
theorem Un {ds:List Deferred} (hX:X.Ok G)(hrun:jT X.P G run)(hT:Tab X.P G N ops T)(hR:Runs X run T E S V) {Q:Exit→Act→World→Prop} {yY:Mu} {iT:St} {w0:World}
 (hQ:∀act' w',mD ds G N yY iT w0 (E T.length) (S T.length) act' w'→Q .normal act' w') :
 ∀ (fuel:Nat) (listed:Array Bool) (c:Nat) (ec:Env) (act:Act) (w:World) (μ:Mu),(KR ops.size listed).length≤fuel→listed.size=ops.size→(∀i,listed.getD i false=true→i<ops.size)→
   At X G N ops T E S V (fun i=>listed.getD i false=true) c ec→Step G yY iT w0 μ (S c) w→dR G N μ w ec act.tmps→act.defers=ds→
   wpAny X.P .any ops Q fuel listed act w:=by
 have hdone:∀(listed:Array Bool) (c:Nat) (ec:Env) (act:Act) (w:World) (μ:Mu),listed.size=ops.size→
  At X G N ops T E S V (fun i=>listed.getD i false=true) c ec→Step G yY iT w0 μ (S c) w→dR G N μ w ec act.tmps→act.defers=ds→Region.ready .any ops listed=[]→Q .normal act w:=by
  intro listed c ec act w μ hsz hat hst hen hdf hr
  have hall:∀(p:Nat) (t:DI),T[p]? =some t→listed.getD t.i false=true:=by
   intro p
   induction p using Nat.strongRecOn with
   | _ p ih=>
     intro t ht
     cases hl:listed.getD t.i false with
     | true=>rfl
     | false=>
       exfalso
       obtain⟨o,ho,hok⟩:=hT.at' p t ht
       have hlt:t.i<ops.size:=(Array.getElem?_eq_some_iff.1 ho).1
       have:t.i∈Region.ready .any ops listed:=by
         rw [mem_ready]
         refine⟨by rw [jX (by omega)];exact hl,o,ho,fun e he hb=>?_⟩
         obtain⟨q,b,hq,hqb,hbi⟩:=hT.edge p t ht e.on ((o_ ho).2 ⟨e,he,hb,rfl⟩)
         rw [←hbi];exact ih q hq b hqb
       rw [hr] at this;cases this
  refine hQ _ _ ⟨μ,?_,⟨hen.size,fun x=>?_⟩,hdf⟩
  ·have:S T.length=S c:=kF hR _ c hat.le (Nat.le_refl _) fun r v h1 h2 hv=>by
        cases hh:v.a.op.pure with
        | true=>rfl
        | false=>have:=(hat.cut r v hv hh).2 (hall r v hv);omega
   rw [this];exact hst
  ·have hx:get ec x=get (E T.length) x:=by
        by_cases hw:∃(q:Nat) (u:DI),T[q]? =some u∧u.a.d=some x
        ·obtain⟨q,u,hq,hu⟩:=hw
         rw [hat.wrote q u x hq (hall q u hq) hu,ug hT hR hq hu (bZ hq) (Nat.le_refl _)]
        ·rw [hat.kept x fun r v hr _ hd=>hw ⟨r,v,hr,hd⟩]
         rw [kE hR T.length 0 (by omega) (by omega) fun r v _ _ hr hd=>hw ⟨r,v,hr,hd⟩]
   rw [←hx];exact hen.rel x
 intro fuel
 induction fuel with
 | zero=>
   intro listed c ec act w μ hfu hsz hlt hat hst hen hdf
   have hr:Region.ready .any ops listed=[]:=by
    apply List.eq_nil_iff_forall_not_mem.2
    intro i hi
    obtain⟨h0,o,ho,_⟩:=mem_ready.1 hi
    have hil:i<ops.size:=(Array.getElem?_eq_some_iff.1 ho).1
    rw [jX (by omega)] at h0
    have:i∈KR ops.size listed:=List.mem_filter.2 ⟨List.mem_range.2 hil,by rw [h0];rfl⟩
    have:=List.length_pos_of_mem this
    omega
   exact⟨hr,hdone listed c ec act w μ hsz hat hst hen hdf hr⟩
 | succ fuel ih=>
   intro listed c ec act w μ hfu hsz hlt hat hst hen hdf
   refine⟨hdone listed c ec act w μ hsz hat hst hen hdf,fun i hi=>?_⟩
   obtain⟨h0,o,ho,hbind⟩:=mem_ready.1 hi
   have hil:i<ops.size:=(Array.getElem?_eq_some_iff.1 ho).1
   rw [jX (by omega)] at h0
   obtain⟨p,t,hp,hti⟩:=hT.all i hil
   subst hti
   have hb:∀j∈dK ops t.i,listed.getD j false=true:=fun j hj=>by
    obtain⟨e,he,hbe,rfl⟩:=(o_ ho).1 hj
    exact hbind e he hbe
   have hn:¬listed.getD t.i false=true:=by rw [h0];simp
   obtain⟨run',a',c',hrun',hok',hstep,hle',hcut'⟩:=hat.next hT hR hp hn hb ho
   have hro:jT X.P G run':=by
    rcases hrun' with rfl | rfl
    ·exact hrun
    ·intro f args σ r σ' h;cases h
   unfold wpOp
   rw [ho]
   refine Dx (ops:=ops) hX hro hst.pV hen hok' hstep fun v w' μ' hv hs'=>?_
   have hka:=hok'
   simp only [lS,Bool.and_eq_true,beq_iff_eq] at hka
   have hdt:t.a.d=o.dst:=by
    obtain⟨o',ho',h'⟩:=hT.at' p t hp
    rw [ho] at ho';cases ho'
    simp only [lS,Bool.and_eq_true,beq_iff_eq] at h'
    exact h'.1.1.1.symm
   have hget:∀j,(listed.setIfInBounds t.i true).getD j false=true↔listed.getD j false=true∨j=t.i:=by
    intro j
    by_cases hj:t.i=j
    ·subst hj;simp [Array.getElem?_setIfInBounds,hsz,hil]
    ·rw [getD_set_ne false hj];simp [Ne.symm hj]
   refine ih _ c' (put o.dst (V p) ec) _ w' μ' ?_ (by simpa using hsz) ?_ ⟨?_,hle',?_,?_,?_⟩ (hst.trans hs') ?_ (by rw [iM];exact hdf)
   ·have:=Ic (n:=ops.size) hil hsz h0
    omega
   ·intro j hj
    rcases (hget j).1 hj with h | h
    ·exact hlt j h
    ·rw [h];exact hil
   ·intro j hj k hk
    rw [hget] at hj ⊢
    rcases hj with hj | hj
    ·exact .inl (hat.closed j hj k hk)
    ·rw [hj] at hk;exact .inl (hb k hk)
   ·intro q u hq hpu
    rw [hcut' q u hq hpu,hget]
    constructor
    ·rintro (h | h)
     ·exact .inl h
     ·subst h;rw [hp] at hq;cases hq;exact .inr rfl
    ·rintro (h | h)
     ·exact .inl h
     ·exact .inr (pos_eq hT hq hp h)
   ·intro q u x hq hu hx
    rw [hget] at hu
    by_cases uf:q=p
    ·subst uf;rw [hp] at hq;cases hq
     rw [←hdt,hx,ji]
    ·rw [jB fun hd=>uf (xK hT hq hp hx (by rw [hdt];exact hd))]
     rcases hu with hu | hu
     ·exact hat.wrote q u x hq hu hx
     ·exact absurd (pos_eq hT hq hp hu) uf
   ·intro x hx
    rw [jB fun hd=>hx p t hp ((hget _).2 (.inr rfl)) (by rw [hdt];exact hd)]
    exact hat.kept x fun q u hq hu=>hx q u hq ((hget _).2 (.inl hu))
   ·have he':=hen.mono hs'.ext hs'.tX
    have hN:uZ N o.dst=true:=by rw [hka.1.1.1];exact hka.1.1.2
    exact he'.put hN hv
end
end Go.dD
namespace Go.dD
structure Bx where
 i:Nat
 j:Nat
 d:Nat
 t:Nat
 y:bG
def Bx.ais (b:Bx):List AI:=[⟨some b.d,none,.alloc b.t⟩,⟨none,none,.store b.t (.t b.d) b.y⟩]
def isAl (a:AI):Bool:=match a.op with
 | .alloc _=>true
 | _=>false
def atOp (P:Program)(G N:Nat)(ops:Array Oper)(a:AI):Nat:=((List.range ops.size).find? fun i=>match ops[i]? with
 | some o=>lS P G N ops o a
 | none=>false).getD ops.size
def bxOf (P:Program)(G N:Nat)(ops:Array Oper)(a c:AI):Bx:=match a.d,a.op,c.op with
 | some d,.alloc t,.store _ _ y=>⟨atOp P G N ops a,atOp P G N ops c,d,t,y⟩
 | _,_,_=>⟨0,0,0,0,.c .u⟩
def Ie (P:Program)(G N:Nat)(ops:Array Oper):List AI→List Bx
 | a :: c :: r=>bxOf P G N ops a c :: Ie P G N ops r
 | _=>[]
def LU (P:Program)(G N:Nat)(ops:Array Oper)(l:List AI):List (Nat×AI):=l.map fun a=>(atOp P G N ops a,a)
def nG (l:List AI):List AI:=l.takeWhile fun a=>!isAl a
def uh (l:List AI):List AI:=l.dropWhile fun a=>!isAl a
def AI.eqB (a b:AI):Bool:=a.d == b.d && a.gd == b.gd && (match a.op,b.op with
 | .alloc t,.alloc t'=>t == t'
 | .store t x y,.store t' x' y'=>t == t' && (match x,x' with | .t n,.t n'=>n == n' | _,_=>false) && (match y,y' with | .t n,.t n'=>n == n' | .c v,.c v'=>AV.eqv v v' | _,_=>false)
 | _,_=>false)
theorem AI.eqB_eq {a b:AI} (h:a.eqB b=true):a=b:=by
 obtain⟨d,g,op⟩:=a
 obtain⟨d',g',op'⟩:=b
 simp only [AI.eqB,Bool.and_eq_true,beq_iff_eq] at h
 obtain⟨⟨rfl,rfl⟩,h⟩:=h
 split at h
 ·simp only [beq_iff_eq] at h;subst h;rfl
 ·rename_i t x y t' x' y' h1 h2
  simp only [Bool.and_eq_true,beq_iff_eq] at h
  obtain⟨⟨rfl,h3⟩,h4⟩:=h
  split at h3
  ·simp only [beq_iff_eq] at h3;subst h3
   split at h4
   ·simp only [beq_iff_eq] at h4;subst h4;rfl
   ·rw [AV.mY _ _ h4]
   ·cases h4
  ·cases h3
 ·cases h
def Ig:List AI→List AI→Bool
 | [],[]=>true
 | a :: r,b :: s=>a.eqB b && Ig r s
 | _,_=>false
theorem DK:∀{a b:List AI},Ig a b=true→a=b
 | [],[],_=>rfl
 | [],_ :: _,h=>by cases h
 | _ :: _,[],h=>by cases h
 | a :: r,b :: s,h=>by
   simp only [Ig,Bool.and_eq_true] at h
   rw [AI.eqB_eq h.1,DK h.2]
def gJ {α:Type} (f:α→α→Bool):List α→Bool
 | []=>true
 | a :: r=>r.all (f a) && gJ f r
theorem oD {α:Type} {f:α→α→Bool} :∀{l:List α},gJ f l=true→∀{p q:Nat} {a b:α},p<q→l[p]? =some a→l[q]? =some b→f a b=true
 | [],_,_,_,_,_,_,h,_=>by cases h
 | c :: r,h,0,q+1,a,b,_,ha,hb=>by
   cases ha
   simp only [gJ,Bool.and_eq_true,List.all_eq_true] at h
   exact h.1 _ (List.mem_of_getElem? hb)
 | c :: r,h,p+1,q+1,a,b,hl,ha,hb=>by
   simp only [gJ,Bool.and_eq_true] at h
   exact oD h.2 (Nat.lt_of_succ_lt_succ hl) ha hb
def xM (N:Nat)(ops:Array Oper)(A:List (Nat×AI))(B:List Bx)(k n x:Nat):Bool:=
 decide (x<N) && ((A.all (fun q=>q.2.d != some x) && B.all fun b=>b.d != x) || (A.take n).any fun q=>q.2.d == some x && (dK ops k).contains q.1)
def okA (P:Program)(G N:Nat)(ops:Array Oper)(A:List (Nat×AI))(B:List Bx)(p:Nat):Bool:=match A[p]? with
 | some q=>Dz P G N ops q.1 q.2 && q.2.op.exact && q.2.slots.all (xM N ops A B q.1 p)
 | none=>true
def vM (f:Bool)(A:List (Nat×AI))(B:List Bx):List Nat:=A.map (·.1) ++ (match f with
 | true=>B.flatMap fun b=>[b.i,b.j]
 | false=>B.map (·.i) ++ B.map (·.j))
theorem oG {f:Bool} {A:List (Nat×AI)} {B:List Bx} {k:Nat} :k∈vM f A B↔(∃q∈A,q.1=k)∨∃b∈B,b.i=k∨b.j=k:=by
 cases f
 ·simp only [vM,List.mem_append,List.mem_map]
  constructor
  ·rintro (h | ⟨b,hb,rfl⟩ | ⟨b,hb,rfl⟩)
   ·exact .inl h
   ·exact .inr ⟨b,hb,.inl rfl⟩
   ·exact .inr ⟨b,hb,.inr rfl⟩
  ·rintro (h | ⟨b,hb,rfl | rfl⟩)
   ·exact .inl h
   ·exact .inr (.inl ⟨b,hb,rfl⟩)
   ·exact .inr (.inr ⟨b,hb,rfl⟩)
 ·simp only [vM,List.mem_append,List.mem_map,List.mem_flatMap,List.mem_cons,List.not_mem_nil,or_false]
  constructor
  ·rintro (h | ⟨b,hb,rfl | rfl⟩)
   ·exact .inl h
   ·exact .inr ⟨b,hb,.inl rfl⟩
   ·exact .inr ⟨b,hb,.inr rfl⟩
  ·rintro (h | ⟨b,hb,rfl | rfl⟩)
   ·exact .inl h
   ·exact .inr ⟨b,hb,.inl rfl⟩
   ·exact .inr ⟨b,hb,.inr rfl⟩
def Ag (f:Bool)(P:Program)(G N:Nat)(ops:Array Oper)(l:List AI)(A:List (Nat×AI))(B:List Bx):Bool:=
 Ig (uh l) (B.flatMap Bx.ais) &&
 gJ (fun q q'=>q.1 != q'.1 && (q.2.d == none || q.2.d != q'.2.d)) A &&
 gJ (fun b b'=>b.i != b'.i && b.i != b'.j && b.j != b'.i && b.j != b'.j && b.d != b'.d) B &&
 A.all (fun q=>B.all fun b=>q.1 != b.i && q.1 != b.j && q.2.d != some b.d) &&
 (List.range ops.size).all (fun i=>(vM f A B).contains i) &&
 (List.range (vM f A B).length).all (fun p=>(dK ops ((vM f A B).getD p 0)).all fun k=>((vM f A B).take p).contains k) &&
 (List.range A.length).all (okA P G N ops A B) &&
 B.all fun b=>Dz P G N ops b.i ⟨some b.d,none,.alloc b.t⟩ && Dz P G N ops b.j ⟨none,none,.store b.t (.t b.d) b.y⟩ && b.i != b.j && (dK ops b.j).contains b.i && b.y.sl.all (xM N ops A B b.j A.length)
def Uo (P:Program)(G N:Nat)(ops:Array Oper)(l:List AI):Bool:=
 Ag true P G N ops l (LU P G N ops (nG l)) (Ie P G N ops (uh l)) || Ag false P G N ops l (LU P G N ops (nG l)) (Ie P G N ops (uh l))
section
variable {P:Program} {G N:Nat} {μ:Mu} {σ:St} {w:World} {ops:Array Oper}
theorem Step.place (h:fD G μ σ w) {k e:Nat} {cs:List AV} {dh:Array Value} (hk:σ[k]? =some ⟨0,false,.dead⟩)(hG:G≤k)(hn:μ k 0=none)(hr:aQ μ w cs dh.toList) :
 Step G μ σ w (μ.upd k 0 (w.heap.size,0)) (σ.set k ⟨0,false,.cells e cs⟩) { w with heap:=w.heap.push (.cells dh e) } :=by
 have hlt:k<σ.length:=bZ hk
 have hle:=Mu.n_ (x:=(w.heap.size,0)) hn
 have hw:=jc.push w (.cells dh e)
 have hold:∀b,b<w.heap.size→({ w with heap:=w.heap.push (.cells dh e) } :World).heap[b]? =w.heap[b]? :=fun b hb=>by
  show (w.heap.push _)[b]? =_
  rw [Array.getElem?_push,if_neg (by omega)]
 have hnew:({ w with heap:=w.heap.push (.cells dh e) } :World).heap[w.heap.size]? =some (.cells dh e):=by
  show (w.heap.push _)[w.heap.size]? =_
  simp
 have hsz:({ w with heap:=w.heap.push (.cells dh e) } :World).heap.size=w.heap.size+1:=by simp
 have hcase:∀(o:Nat) a',(σ.set k ⟨0,false,.cells e cs⟩)[o]? =some a'→(σ[o]? =some a'∧o≠k)∨(o=k∧a'= ⟨0,false,.cells e cs⟩):=by
  intro o a' ho
  rw [List.getElem?_set] at ho
  split at ho
  ·rename_i hko;subst hko
   try rw [if_pos hlt] at ho
   cases ho
   exact .inr ⟨rfl,rfl⟩
  ·rename_i hko;exact .inl ⟨ho,fun h=>hko h.symm⟩
 have hlen:=hr.length
 simp only [Array.length_toList] at hlen
 refine⟨⟨?_,?_,?_,?_,?_,?_,?_⟩,hle,hw,rfl,rfl,rfl,by omega,fun b hb _=>hold b hb,?_⟩
 ·intro o a' ho hl'
  rcases hcase o a' ho with ⟨ho',hne⟩ | ⟨rfl,rfl⟩
  ·obtain⟨b,δ,h1,h2⟩:=h.obj o a' ho' hl'
   exact⟨b,δ,hle _ _ _ h1,qo.mono hle hw (hold b (h.blk _ _ _ _ h1)) h2⟩
  ·refine⟨w.heap.size,0,Mu.bH _ _ _ _,dh,(0,0),hnew,by omega,fun j c hj=>?_,fun _ j _ hj=>by omega⟩
   obtain⟨v,r1,r2⟩:=hr.get j c hj
   exact⟨v,by rw [Nat.zero_add];simpa using r1,aN.mono hle hw c v r2⟩
 ·intro o o' a1 a2 b δ wu ho ho' hro hl1 hl2 hb1 hb2
  rcases hcase o a1 ho with ⟨ho1,hne⟩ | ⟨rfl,rfl⟩ <;> rcases hcase o' a2 ho' with ⟨ho2,hne'⟩ | ⟨rfl,rfl⟩
  ·rw [Mu.upd_ne (by simp [hne])] at hb1
   rw [Mu.upd_ne (by simp [hne'])] at hb2
   exact h.inj o o' a1 a2 b δ wu ho1 ho2 hro hl1 hl2 hb1 hb2
  ·rw [Mu.upd_ne (by simp [hne])] at hb1
   rw [Mu.bH] at hb2
   cases hb2
   have:=h.blk _ _ _ _ hb1
   omega
  ·rw [Mu.upd_ne (by simp [hne'])] at hb2
   rw [Mu.bH] at hb1
   cases hb1
   have:=h.blk _ _ _ _ hb2
   omega
  ·rfl
 ·intro o g y hy
  by_cases he:o=k∧g=0
  ·exact⟨⟨0,false,.cells e cs⟩,by rw [he.1,List.getElem?_set_self hlt],by rw [he.2];exact Nat.zero_le _⟩
  ·rw [Mu.upd_ne he] at hy
   obtain⟨a',ha,hle'⟩:=h.dom _ _ _ hy
   by_cases hok:o=k
   ·subst hok
    rw [hk] at ha;cases ha
    exact absurd ⟨rfl,Nat.le_zero.1 hle'⟩ he
   ·exact⟨a',by rw [List.getElem?_set_ne (Ne.symm hok)];exact ha,hle'⟩
 ·intro o g b δ hy
  by_cases he:o=k∧g=0
  ·rw [he.1,he.2,Mu.bH] at hy;cases hy;omega
  ·rw [Mu.upd_ne he] at hy;have:=h.blk _ _ _ _ hy;omega
 ·intro g hg'
  exact hle _ _ _ (h.tV g hg')
 ·intro o b δ hy
  by_cases he:o=k∧(0:Nat)=0
  ·rw [he.1,Mu.bH] at hy;cases hy;rfl
  ·rw [Mu.upd_ne he] at hy;exact h.low _ _ _ hy
 ·intro g e' cs' hg ho
  rcases hcase g _ ho with ⟨ho',_⟩ | ⟨rfl,_⟩
  ·exact hw _ _ _ (h.full g e' cs' hg ho')
  ·omega
 ·intro o a' b δ ho hro hl' hb hlt'
  rcases hcase o a' ho with ⟨ho',hne⟩ | ⟨rfl,rfl⟩
  ·rw [Mu.upd_ne (by simp [hne])] at hb
   exact⟨o,a',δ,ho',hro,hl',hb⟩
  ·rw [Mu.bH] at hb;cases hb;omega
theorem Step.LV (h:fD G μ σ w)(n:Nat):Step G μ σ w μ (σ ++ List.replicate n ⟨0,false,.dead⟩) w:=by
 have hcase:∀(o:Nat) a',(σ ++ List.replicate n (⟨0,false,.dead⟩:AO))[o]? =some a'→σ[o]? =some a'∨a'= ⟨0,false,.dead⟩:=by
  intro o a' ho
  rw [List.getElem?_append] at ho
  split at ho
  ·exact .inl ho
  ·rw [List.getElem?_replicate] at ho
   split at ho
   ·cases ho;exact .inr rfl
   ·cases ho
 refine⟨⟨?_,?_,?_,h.blk,h.tV,h.low,?_⟩,Mu.le_refl μ,jc.refl w,rfl,rfl,rfl,Nat.le_refl _,fun _ _ _=>rfl,?_⟩
 ·intro o a' ho hl
  rcases hcase o a' ho with ho | rfl
  ·exact h.obj o a' ho hl
  ·cases hl
 ·intro o o' a1 a2 b δ wu ho ho' hro hl1 hl2 hb1 hb2
  rcases hcase o a1 ho with ho1 | rfl
  ·rcases hcase o' a2 ho' with ho2 | rfl
   ·exact h.inj o o' a1 a2 b δ wu ho1 ho2 hro hl1 hl2 hb1 hb2
   ·cases hl2
  ·cases hl1
 ·intro o g y hy
  obtain⟨a',ha,hle'⟩:=h.dom _ _ _ hy
  exact⟨a',by rw [List.getElem?_append_left (bZ ha)];exact ha,hle'⟩
 ·intro g e cs hg ho
  rcases hcase g _ ho with ho | ho
  ·exact h.full g e cs hg ho
  ·cases ho
 ·intro o a' b δ ho hro hl hb _
  rcases hcase o a' ho with ho | rfl
  ·exact⟨o,a',δ,ho,hro,hl,hb⟩
  ·cases hl
theorem fD.above (h:fD G μ σ w) {o g:Nat} (ho:σ.length≤o):μ o g=none:=by
 cases hq:μ o g with
 | none=>rfl
 | some y=>obtain⟨a,ha,_⟩:=h.dom _ _ _ hq;have:=bZ ha;omega
theorem fD.G_le (h:fD G μ σ w):G≤σ.length:=by
 rcases Nat.lt_or_ge σ.length G with hl | hl
 ·have:=h.tV _ hl
  rw [h.above (Nat.le_refl _)] at this;cases this
 ·exact hl
theorem vk {o g:Nat} {cs:List AV} (τ:St)(h:gu σ o g=some cs):gu (σ ++ τ) o g=some cs:=by
 unfold gu at h ⊢
 cases ho:σ[o]? with
 | none=>rw [ho] at h;cases h
 | some a=>rw [List.getElem?_append_left (bZ ho),ho];rw [ho] at h;exact h
theorem xO {x:AV} {es:List (AV×AV)} (τ:St)(h:mZ σ x=some es):mZ (σ ++ τ) x=some es:=by
 unfold mZ at h ⊢
 split at h
 ·exact h
 ·rename_i o g
  cases ho:σ[o]? with
  | none=>rw [ho] at h;cases h
  | some a=>rw [List.getElem?_append_left (bZ ho),ho];rw [ho] at h;exact h
 ·cases h
theorem Jz {T:Option AT} {x v:AV} (τ:St)(h:gW T x σ=some v):gW T x (σ ++ τ)=some v:=by
 unfold gW at h ⊢
 split at h
 ·rw [Option.bind_eq_some_iff] at h
  obtain⟨cs,h1,h2⟩:=h
  simp only [vk τ h1,Option.bind_some];exact h2
 ·cases h
theorem LW {t:Nat} {x v:AV} {lo hi:Option AV} (τ:St)(h:vK P t x lo hi σ=some v):vK P t x lo hi (σ ++ τ)=some v:=by
 unfold vK at h ⊢
 split at h
 ·cases h
 ·rename_i T hT
  split at h
  ·exact h
  ·exact h
  ·exact h
  ·rename_i n e o g off hd
   split at h
   ·rename_i hz
    rw [if_pos hz]
    rw [Option.bind_eq_some_iff] at h
    obtain⟨cs,h1,h2⟩:=h
    simp only [vk τ h1,Option.bind_some];exact h2
   ·cases h
  ·cases h
theorem LX {t:Nat} {x k v:AV} {ok:Bool} (τ:St)(h:wV P t x k ok σ=some v):wV P t x k ok (σ ++ τ)=some v:=by
 unfold wV at h ⊢
 split at h
 ·rename_i kt et _ _ _ _ _ _ hT
  split at h
  ·rename_i es E h1 h2
   simp only [xO τ h1,h2];exact h
  ·cases h
 ·cases h
theorem LY {t:Nat} {x v:AV} (τ:St)(h:Fq P t x σ=some v):Fq P t x (σ ++ τ)=some v:=by
 unfold Fq at h ⊢
 split at h
 ·rw [Option.map_eq_some_iff] at h
  obtain⟨es,h1,h2⟩:=h
  simp only [xO τ h1,Option.map_some,h2]
 ·cases h
theorem Ih {ρ:bG→AV} {op:dA} {v:AV} {σ1:St} (τ:St)(hx:op.exact=true)(h:dL P ρ op σ=some (v,σ1)):dL P ρ op (σ ++ τ)=some (v,σ ++ τ):=by
 by_cases hs:op.still=true
 ·exact o9 hs h _
 ·cases op <;> simp only [dA.exact,dA.pure,dA.still,Bool.false_eq_true,not_true_eq_false,not_false_eq_true] at hx hs <;> simp only [dL] at h ⊢ <;> rw [Option.map_eq_some_iff] at h <;> obtain⟨q,hq,h⟩:=h <;> cases h
  ·rw [Jz τ hq];rfl
  ·rw [LW τ hq];rfl
  ·rw [LX τ hq];rfl
  ·rw [LY τ hq];rfl
theorem JA {X:Ctx} {run:Run} {e:Env} {a:AI} {v:AV} {σ1:St} (τ:St)(hx:a.op.exact=true)(h:b_ X run e a σ=some (v,σ1)):b_ X run e a (σ ++ τ)=some (v,σ ++ τ):=by
 have hp:=qx hx
 unfold b_ at h ⊢
 split at h
 ·rename_i hg
  rw [kD hp] at h ⊢
  exact Ih τ hx h
 ·rename_i g hg
  split at h
  ·cases h
  ·rename_i c hc
   simp only [hp,if_true] at h ⊢
   rw [Option.map_eq_some_iff] at h
   obtain⟨q,hq,h⟩:=h;cases h
   rw [Option.map_eq_some_iff]
   refine⟨v,?_,rfl⟩
   cases c with
   | false=>exact hq
   | true=>
     have h0:gB X.P e a.op σ=some v:=hq
     show gB X.P e a.op (σ ++ τ)=some v
     by_cases hpk:∃q x y,a.op= .pick q x y
     ·obtain⟨q,x,y,hpk⟩:=hpk
      rw [hpk] at h0 ⊢;exact h0
     have e1:∀σ',gB X.P e a.op σ'= lW true (a.op.bM.all (fun o=>jZ true (o.ev e).cnd)) (dL X.P (fun o=>(o.ev e).val) a.op σ'):=by
      intro σ'
      generalize a.op=op at hpk ⊢
      cases op <;> first | rfl | exact absurd ⟨_,_,_,rfl⟩ hpk
     rw [e1] at h0 ⊢
     cases ho:dL X.P (fun o=>(o.ev e).val) a.op σ with
     | none=>rw [ho] at h0;cases h0
     | some r=>
       obtain⟨r1,r2⟩:=r
       rw [ho] at h0
       rw [Ih τ hx ho]
       exact h0
end
end Go.dD
namespace Go.dD
section
variable {X:Ctx} {run:Run}
theorem DL:∀(l m:List AI) (e:Env) (σ:St),jU X run (l ++ m) e σ=(jU X run l e σ).bind fun r=>jU X run m r.1 r.2
 | [],_,_,_=>rfl
 | a :: l,m,e,σ=>by
   simp only [List.cons_append,jU]
   cases b_ X run e a σ with
   | none=>rfl
   | some r=>exact DL l m _ _
theorem recA {σ:St} :∀(l:List AI) (e eP:Env) (KU:St),(∀a∈l,a.op.pure=true)→jU X run l e σ=some (eP,KU)→KU=σ∧(∀x,(∀a∈l,a.d≠some x)→get eP x=get e x)∧
 ∀ (p:Nat) a,l[p]? =some a→∃Ep v,b_ X run Ep a σ=some (v,σ)∧(∀x,(∀(q:Nat) c,p≤q→l[q]? =some c→c.d≠some x)→get Ep x=get eP x)∧
   ∀ x,a.d=some x→(∀(q:Nat) c,p<q→l[q]? =some c→c.d≠some x)→get eP x=v
 | [],e,eP,KU,_,h=>by
   cases h
   exact⟨rfl,fun _ _=>rfl,fun p a ha=>by simp at ha⟩
 | a :: l,e,eP,KU,hp,h=>by
   simp only [jU] at h
   split at h
   ·rename_i v σ1 hst
    have h1:=nD (hp a (List.mem_cons_self ..)) hst
    subst h1
    obtain⟨r1,r2,r3⟩:=recA l (put a.d v e) eP KU (fun c hc=>hp c (List.mem_cons_of_mem _ hc)) h
    have keep:∀x,(∀c∈a :: l,c.d≠some x)→get eP x=get e x:=fun x hx=>by
        rw [r2 x fun c hc=>hx c (List.mem_cons_of_mem _ hc),jB (hx a (List.mem_cons_self ..))]
    refine⟨r1,keep,fun p c hc=>?_⟩
    cases p with
    | zero=>
      cases hc
      refine⟨e,v,hst,fun x hx=>(keep x fun c hc=>?_).symm,fun x hx hl=>?_⟩
      ·obtain⟨q,hq⟩:=List.getElem?_of_mem hc
       exact hx q c (Nat.zero_le _) hq
      ·rw [r2 x fun c hc=>by
          obtain⟨q,hq⟩:=List.getElem?_of_mem hc
          exact hl (q+1) c (Nat.succ_pos _) hq,hx,ji]
    | succ p=>
      obtain⟨Ep,hu,q1,q2,q3⟩:=r3 p c hc
      refine⟨Ep,hu,q1,fun x hx=>q2 x fun q d hq hd=>hx (q+1) d (by omega) hd,fun x hx hl=>q3 x hx fun q d hq hd=>hl (q+1) d (by omega) hd⟩
   ·cases h
def uj (P:Program)(t:Nat):List AV:=match aA P t with
 | some T=>T.zero.cells
 | none=>[]
def oH (P:Program)(e:Env)(b:Bx):AO:=⟨0,false,.cells b.t (setCells (uj P b.t) 0 (b.y.ev e).cells)⟩
structure BxOk (P:Program)(e:Env)(b:Bx):Prop where
 ty:∃T,aA P b.t=some T∧(b.y.ev e).cells.length=T.size∧(b.y.ev e).cells.all AV.one=true∧0+T.size≤T.zero.cells.length
theorem Ur {e:Env} {d t:Nat} {σ:St} :b_ X run e ⟨some d,none,.alloc t⟩ σ=(aA X.P t).map fun T=>(.p σ.length 0 0,bU t T.zero.cells σ):=rfl
theorem Us {e:Env} {d t:Nat} {y:bG} {σ:St} :b_ X run e ⟨none,none,.store t (.t d) y⟩ σ=(gV (aA X.P t) (get e d) (y.ev e) σ).map (.tu [],·):=rfl
theorem recB:∀(B:List Bx) (e e':Env) (σ σ':St),gJ (fun b b'=>b.d != b'.d) B=true→(∀b∈B,∀b'∈B,b'.d∉b.y.sl)→jU X run (B.flatMap Bx.ais) e σ=some (e',σ')→
 σ'= σ ++ B.map (oH X.P e)∧(∀x,(∀b∈B,b.d≠x)→get e' x=get e x)∧(∀(k:Nat) b,B[k]? =some b→get e' b.d= .p (σ.length+k) 0 0)∧∀b∈B,BxOk X.P e b
 | [],e,e',σ,σ',_,_,h=>by
   cases h
   exact⟨by simp,fun _ _=>rfl,fun k b hb=>by simp at hb,fun b hb=>by cases hb⟩
 | b :: r,e,e',σ,σ',hd,hy,h=>by
   simp only [List.flatMap_cons,Bx.ais,List.cons_append,List.nil_append,jU,Ur,Us] at h
   cases hT:aA X.P b.t with
   | none=>rw [hT] at h;simp at h
   | some T=>
     rw [hT] at h
     simp only [Option.map_some,put] at h
     have hd0:get ((b.d,AV.p σ.length 0 0) :: e) b.d= .p σ.length 0 0:=by simp [get]
     rw [hd0] at h
     have hnew:(bU b.t T.zero.cells σ)[σ.length]? =some ⟨0,false,.cells b.t T.zero.cells⟩:=by simp [bU]
     have hyb:b.y.ev ((b.d,.p σ.length 0 0) :: e)=b.y.ev e:=rY fun x hx=>by
        have hne:¬b.d=x:=fun hh=>hy b (List.mem_cons_self ..) b (List.mem_cons_self ..) (by rw [hh];exact hx)
        simp [get,hne]
     rw [hyb] at h
     obtain⟨y0,hy0⟩:∃y0,y0=b.y.ev e:=⟨_,rfl⟩
     rw [←hy0] at h
     simp only [gV,hnew] at h
     split at h
     ·rename_i v σ1 hst
      split at hst
      ·rename_i hc
       obtain⟨_,_,c1,c2,c3⟩:=hc
       simp only [Option.map_some,Option.some.injEq,Prod.mk.injEq] at hst
       obtain⟨rfl,rfl⟩:=hst
       have hset:(bU b.t T.zero.cells σ).set σ.length ⟨0,false,.cells b.t (setCells T.zero.cells 0 y0.cells)⟩=σ ++ [oH X.P e b]:=by
          simp only [bU,oH,uj,hT,hy0]
          rw [List.set_append_right _ _ (Nat.le_refl _)]
          simp
       have h2:jU X run (r.flatMap Bx.ais) ((b.d,.p σ.length 0 0) :: e) (σ ++ [oH X.P e b])=some (e',σ'):=by rw [←hset];exact h
       simp only [gJ,Bool.and_eq_true,List.all_eq_true,bne_iff_ne,ne_eq] at hd
       obtain⟨r1,r2,r3,r4⟩:=recB r _ e' _ σ' hd.2 (fun c hc c' hc'=>hy c (List.mem_cons_of_mem _ hc) c' (List.mem_cons_of_mem _ hc')) h2
       have hyr:∀c∈r,c.y.ev ((b.d,.p σ.length 0 0) :: e)=c.y.ev e:=fun c hc=>rY fun x hx=>by
          have hne:¬b.d=x:=fun hh=>hy c (List.mem_cons_of_mem _ hc) b (List.mem_cons_self ..) (by rw [hh];exact hx)
          simp [get,hne]
       refine⟨?_,fun x hx=>?_,fun k c hc=>?_,fun c hc=>?_⟩
       ·rw [r1,List.map_cons,List.append_assoc,List.singleton_append]
        congr 2
        exact List.map_congr_left fun c hc=>by simp only [oH,hyr c hc]
       ·have hne:¬b.d=x:=fun hh=>hx b (List.mem_cons_self ..) hh
        rw [r2 x fun c hc=>hx c (List.mem_cons_of_mem _ hc)]
        simp [get,hne]
       ·cases k with
        | zero=>
          cases hc
          rw [r2 b.d fun c hc hh=>hd.1 c hc hh.symm]
          simp [get]
        | succ k=>
          rw [r3 k c hc]
          simp only [List.length_append,List.length_cons,List.length_nil]
          congr 1;omega
       ·rcases List.mem_cons.1 hc with rfl | hc
        ·exact⟨T,hT,by rw [←hy0];exact c1,by rw [←hy0];exact c2,by omega⟩
        ·obtain⟨T',q⟩:=r4 c hc
         rw [hyr c hc] at q
         exact⟨T',q⟩
      ·simp at hst
     ·cases h
end
end Go.dD
namespace Go.dD
section
variable {X:Ctx} {run:Run} {G N:Nat} {ops:Array Oper} {A:List (Nat×AI)} {B:List Bx}
structure FrOk (f:Bool)(P:Program)(G N:Nat)(ops:Array Oper)(l:List AI)(A:List (Nat×AI))(B:List Bx):Prop where
 b:uh l=B.flatMap Bx.ais
 aa:∀{p q:Nat} {a c:Nat×AI},p<q→A[p]? =some a→A[q]? =some c→a.1≠c.1∧∀x,a.2.d=some x→c.2.d≠some x
 bb:∀{p q:Nat} {a c:Bx},p<q→B[p]? =some a→B[q]? =some c→a.i≠c.i∧a.i≠c.j∧a.j≠c.i∧a.j≠c.j∧a.d≠c.d
 ab:∀a∈A,∀c∈B,a.1≠c.i∧a.1≠c.j∧a.2.d≠some c.d
 all:∀i<ops.size,(∃a∈A,a.1=i)∨∃c∈B,c.i=i∨c.j=i
 ord:∀(p k:Nat),(vM f A B)[p]? =some k→∀j∈dK ops k,∃q,q<p∧(vM f A B)[q]? =some j
 a:∀(p:Nat) a,A[p]? =some a→(∃o,ops[a.1]? =some o∧lS P G N ops o a.2=true)∧a.2.op.exact=true∧∀x∈a.2.slots,xM N ops A B a.1 p x=true
 c:∀c∈B,(∃o,ops[c.i]? =some o∧lS P G N ops o ⟨some c.d,none,.alloc c.t⟩=true)∧(∃o,ops[c.j]? =some o∧lS P G N ops o ⟨none,none,.store c.t (.t c.d) c.y⟩=true)∧c.i≠c.j∧c.i∈dK ops c.j∧∀x∈c.y.sl,xM N ops A B c.j A.length x=true
theorem JB {P:Program} {l:List AI} {f:Bool} (h:Ag f P G N ops l A B=true):FrOk f P G N ops l A B:=by
 simp only [Ag,Bool.and_eq_true] at h
 obtain⟨⟨⟨⟨⟨⟨⟨h1,h2⟩,h3⟩,h4⟩,h5⟩,h6⟩,h7⟩,h8⟩:=h
 simp only [List.all_eq_true,Bool.and_eq_true,bne_iff_ne,ne_eq,List.mem_range,List.contains_iff_mem] at h4 h5 h6 h7 h8
 refine⟨DK h1,fun hl ha hb=>?_,fun hl ha hb=>?_,fun a ha c hc=>⟨(h4 a ha c hc).1.1,(h4 a ha c hc).1.2,(h4 a ha c hc).2⟩,fun i hi=>?_,fun p k hp j hj=>?_,fun p a ha=>?_,fun c hc=>?_⟩
 ·have:=oD h2 hl ha hb
  simp only [Bool.and_eq_true,bne_iff_ne,ne_eq,Bool.or_eq_true,beq_iff_eq] at this
  refine⟨this.1,fun x hx hx'=>?_⟩
  rcases this.2 with h | h
  ·rw [h] at hx;cases hx
  ·exact h (hx.trans hx'.symm)
 ·have:=oD h3 hl ha hb
  simp only [Bool.and_eq_true,bne_iff_ne,ne_eq] at this
  exact⟨this.1.1.1.1,this.1.1.1.2,this.1.1.2,this.1.2,this.2⟩
 ·have:=h5 i hi
  exact oG.1 this
 ·have:=h6 p (bZ hp)
  rw [List.getD_eq_getElem?_getD,hp] at this
  exact rZ (this j hj)
 ·have:=h7 p (bZ ha)
  unfold okA at this
  rw [ha] at this
  simp only [Bool.and_eq_true,List.all_eq_true] at this
  exact⟨mF this.1.1,this.1.2,this.2⟩
 ·obtain⟨⟨⟨⟨q1,q2⟩,q3⟩,q4⟩,q5⟩:=h8 c hc
  exact⟨mF q1,mF q2,q3,q4,q5⟩
def iY (P:Program)(e:Env)(L:Nat→Bool)(b:Bx):AO:=if L b.i then(if L b.j then oH P e b else⟨0,false,.cells b.t (uj P b.t)⟩) else⟨0,false,.dead⟩
def wG (P:Program)(e:Env)(B:List Bx)(L:Nat→Bool)(σ:St):St:=σ ++ B.map (iY P e L)
theorem FT {P:Program} {e:Env} {L:Nat→Bool} {σ:St} {k:Nat} {b:Bx} (h:B[k]? =some b):(wG P e B L σ)[σ.length+k]? =some (iY P e L b):=by
 unfold wG
 rw [List.getElem?_append_right (by omega),show σ.length+k - σ.length=k by omega,List.getElem?_map,h];rfl
theorem Ii {P:Program} {e:Env} {L L':Nat→Bool} {σ:St} {k:Nat} {b:Bx} (h:B[k]? =some b)(ho:∀(k':Nat) b',B[k']? =some b'→k'≠k→iY P e L' b'= iY P e L b') :
 wG P e B L' σ=(wG P e B L σ).set (σ.length+k) (iY P e L' b):=by
 apply List.ext_getElem?
 intro n
 rw [List.getElem?_set]
 have hlt:=bZ h
 split
 ·rename_i hn;subst hn
  rw [FT h,if_pos (by simp [wG];omega)]
 ·rename_i hn
  unfold wG
  rw [List.getElem?_append,List.getElem?_append]
  split
  ·rfl
  ·rename_i hge
   rw [List.getElem?_map,List.getElem?_map]
   cases hb:B[n - σ.length]? with
   | none=>rfl
   | some b'=>simp only [Option.map_some];rw [ho _ b' hb (by omega)]
theorem LZ {P:Program} {e:Env} {L L':Nat→Bool} {σ:St} (ho:∀b∈B,iY P e L' b=iY P e L b):wG P e B L' σ=wG P e B L σ:=by
 unfold wG
 rw [List.map_congr_left ho]
theorem DN {μ:Mu} {w:World} {e:Env} {tmps:Array Value} (hN:tmps.size=N)(K:Nat→Prop)(h:∀x,x<N→K x→aN μ w (get e x) (tmps.getD x undef)):∃e1,dR G N μ w e1 tmps∧∀x,x<N→K x→get e1 x=get e x:=by
 classical
 refine⟨(List.range N).map fun n=>(n,if K n then get e n else .u),⟨hN,fun n=>?_⟩,?_⟩
 all_goals
  have hg:∀(M:Nat) (n:Nat),get ((List.range' 0 M).map fun n=>(n,if K n then get e n else .u)) n=if n<M then(if K n then get e n else .u) else .u:=by
   intro M
   suffices hs:∀(M s n:Nat),get ((List.range' s M).map fun n=>(n,if K n then get e n else .u)) n=if s≤n∧n<s+M then(if K n then get e n else .u) else .u by
        intro n;rw [hs M 0 n];simp
   intro M
   induction M with
   | zero=>intro s n;rw [if_neg (by omega)];rfl
   | succ M ih=>
     intro s n
     simp only [List.range'_succ,List.map_cons,get]
     by_cases hsn:s=n
     ·subst hsn
      rw [if_pos rfl,if_pos (show s≤s∧s<s+(M+1) from⟨Nat.le_refl _,by omega⟩)]
     ·rw [if_neg hsn,ih (s+1) n]
      by_cases hc:s≤n∧n<s+(M+1)
      ·rw [if_pos hc,if_pos ⟨by omega,by omega⟩]
      ·rw [if_neg hc,if_neg (by omega)]
  rw [List.range_eq_range']
 ·rw [hg N n]
  split
  ·rename_i hn
   split
   ·rename_i hk;exact h n hn hk
   ·trivial
  ·trivial
 ·intro x hx hk
  rw [hg N x,if_pos hx,if_pos hk]
structure Mid (P:Program)(G N:Nat)(ds:List Deferred)(A:List (Nat×AI))(B:List Bx)(eP:Env)(iT:St)(yY:Mu)(w0:World)(L:Nat→Bool)(act:Act)(w:World)(μ:Mu):Prop where
 st:Step G yY iT w0 μ (wG P eP B L iT) w
 size:act.tmps.size=N
 df:act.defers=ds
 vals:∀x,(∀b∈B,b.d≠x)→(∀q∈A,q.2.d=some x→L q.1=true)→aN μ w (get eP x) (act.tmps.getD x undef)
 ptr:∀(k:Nat) b,B[k]? =some b→L b.i=true→aN μ w (.p (iT.length+k) 0 0) (act.tmps.getD b.d undef)
 free:∀(k:Nat) b,B[k]? =some b→L b.i=false→μ (iT.length+k) 0=none
def um (L:Nat→Bool)(i:Nat):Nat→Bool:=fun j=>if j=i then true else L j
theorem mG (L:Nat→Bool)(i:Nat):um L i i=true:=by simp [um]
theorem dW {L:Nat→Bool} {i j:Nat} (h:j≠i):um L i j=L j:=by simp [um,h]
theorem mJ {act:Act} {d:Option Tmp} {v:Value} {x:Nat} (h:d≠some x):(act.put d v).tmps.getD x undef=act.tmps.getD x undef:=by
 cases d with
 | none=>rfl
 | some d=>
   have hne:¬d=x:=fun he=>h (by rw [he])
   simp only [Act.put]
   rw [Array.getD_eq_getD_getElem?,Array.getElem?_setIfInBounds,if_neg hne,←Array.getD_eq_getD_getElem?]
theorem pX {act:Act} {d:Tmp} {v:Value} (h:d<act.tmps.size):(act.put (some d) v).tmps.getD d undef=v:=by
 simp only [Act.put]
 rw [Array.getD_eq_getD_getElem?,Array.getElem?_setIfInBounds,if_pos rfl,if_pos h];rfl
theorem xP {act:Act} {d:Option Tmp} {v:Value} :(act.put d v).tmps.size=act.tmps.size:=by
 cases d <;> simp [Act.put]
section
variable {f:Bool} {ds:List Deferred} {l:List AI} {e eP e':Env} {iT σ':St} {yY:Mu} {w0:World} {L:Nat→Bool} {act:Act} {w:World} {μ:Mu} {K:Act→World→Prop} {Q:Exit→Act→World→Prop}
structure Ran (X:Ctx)(run:Run)(A:List (Nat×AI))(B:List Bx)(e eP e':Env)(iT σ':St):Prop where
 keep:∀x,(∀q∈A,q.2.d≠some x)→get eP x=get e x
 at':∀(p:Nat) q,A[p]? =some q→∃Ep v,b_ X run Ep q.2 iT=some (v,iT)∧(∀x,(∀(r:Nat) c,p≤r→A[r]? =some c→c.2.d≠some x)→get Ep x=get eP x)∧∀x,q.2.d=some x→(∀(r:Nat) c,p<r→A[r]? =some c→c.2.d≠some x)→get eP x=v
 store:σ'= iT ++ B.map (oH X.P eP)
 YK:∀x,(∀b∈B,b.d≠x)→get e' x=get eP x
 ptrB:∀(k:Nat) b,B[k]? =some b→get e' b.d= .p (iT.length+k) 0 0
 okB:∀b∈B,BxOk X.P eP b
variable (hF:FrOk f X.P G N ops l A B)(hR:Ran X run A B e eP e' iT σ')
include hF hR
omit hR in
theorem Mid.src (h:Mid X.P G N ds A B eP iT yY w0 L act w μ) {k n x:Nat} (hs:xM N ops A B k n x=true)(hb:∀j∈dK ops k,L j=true):x<N∧(∀b∈B,b.d≠x)∧(∀q∈A,q.2.d=some x→L q.1=true)∧∀(r:Nat) c,n≤r→A[r]? =some c→c.2.d≠some x:=by
 simp only [xM,Bool.and_eq_true,decide_eq_true_eq,Bool.or_eq_true,List.all_eq_true,bne_iff_ne,ne_eq,List.any_eq_true,beq_iff_eq,List.contains_iff_mem] at hs
 obtain⟨h1,h2⟩:=hs
 rcases h2 with ⟨h2,h3⟩ | ⟨q,hq,h2,h3⟩
 ·exact⟨h1,h3,fun q hq hx=>absurd hx (h2 q hq),fun r c _ hc=>h2 c (List.mem_of_getElem? hc)⟩
 ·obtain⟨p,hp,hpq⟩:=rZ hq
  have hmem:=List.mem_of_getElem? hpq
  refine⟨h1,fun b hbB hd=>(hF.ab q hmem b hbB).2.2 (by rw [h2,hd]),fun q' hq' hx=>?_,fun r c hr hc hx=>?_⟩
  ·obtain⟨p',hp'⟩:=List.getElem?_of_mem hq'
   rcases Nat.lt_trichotomy p p' with hl | he | hl
   ·exact absurd hx ((hF.aa hl hpq hp').2 x h2)
   ·subst he;rw [hpq] at hp';cases hp';exact hb _ h3
   ·exact absurd h2 ((hF.aa hl hp' hpq).2 x hx)
  ·exact(hF.aa (by omega) hpq hc).2 x h2 hx
omit hF hR in
theorem r_ {o:Oper} {a:AI} (h:lS X.P G N ops o a=true):o.dst=a.d∧uZ N a.d=true∧lC ops o.guard a.gd=true∧lQ X.P G o.op a.op=true:=by
 simp only [lS,Bool.and_eq_true,beq_iff_eq] at h
 exact⟨h.1.1.1,h.1.1.2,h.1.2,h.2⟩
theorem Mid.value (h:Mid X.P G N ds A B eP iT yY w0 L act w μ) {p:Nat} {q:Nat×AI} (hq:A[p]? =some q) {o:Oper} (ho:ops[q.1]? =some o)(hb:∀j∈dK ops q.1,L j=true)
 (hK:∀act',Mid X.P G N ds A B eP iT yY w0 (um L q.1) act' w μ→K act' w):Bo X.P ops o K Q act w:=by
 obtain⟨⟨o',ho',hok⟩,hex,hsl⟩:=hF.a p q hq
 rw [ho] at ho';cases ho'
 obtain⟨Ep,v,s1,s2,s3⟩:=hR.at' p q hq
 have hmem:=List.mem_of_getElem? hq
 have hsrc:∀x∈q.2.slots,_:=fun x hx=>h.src hF (hsl x hx) hb
 obtain⟨e1,hen,he1⟩:=DN (G:=G) (μ:=μ) (w:=w) (e:=eP) h.size (fun x=>(∀b∈B,b.d≠x)∧∀q∈A,q.2.d=some x→L q.1=true) fun x _ hx=>h.vals x hx.1 hx.2
 have hst:b_ X run e1 q.2 (wG X.P eP B L iT)=some (v,wG X.P eP B L iT):=by
  rw [iW (e':=Ep) fun x hx=>by
   obtain⟨q1,q2,q3,q4⟩:=hsrc x hx
   rw [he1 x q1 ⟨q2,q3⟩,s2 x q4]]
  exact JA _ hex s1
 obtain⟨hdst,hN,_,_⟩:=r_ hok
 refine FN (ops:=ops) h.st.pV hen hok hex hst fun u hu=>hK _ ?_
 have hL:∀b∈B,iY X.P eP (um L q.1) b=iY X.P eP L b:=fun b hbB=>by
  obtain⟨n1,n2,_⟩:=hF.ab q hmem b hbB
  simp only [iY,dW (Ne.symm n1),dW (Ne.symm n2)]
 refine⟨by rw [LZ hL];exact h.st,by rw [xP];exact h.size,by rw [iM];exact h.df,fun x hx1 hx2=>?_,fun k b hbk hl=>?_,fun k b hbk hl=>?_⟩
 ·rw [hdst]
  by_cases hd:q.2.d=some x
  ·rw [hd] at hN ⊢
   have hxN:x<act.tmps.size:=by rw [h.size];simpa [uZ] using hN
   rw [pX hxN,s3 x hd fun r c hr hc=>(hF.aa hr hq hc).2 x hd]
   exact hu
  ·rw [mJ hd]
   refine h.vals x hx1 fun q' hq' hx'=>?_
   have:=hx2 q' hq' hx'
   by_cases hqq:q'.1=q.1
   ·exfalso
    obtain⟨p',hp'⟩:=List.getElem?_of_mem hq'
    rcases Nat.lt_trichotomy p p' with hl | he | hl
    ·exact(hF.aa hl hq hp').1 hqq.symm
    ·subst he;rw [hq] at hp';cases hp';exact hd hx'
    ·exact(hF.aa hl hp' hq).1 hqq
   ·rw [dW hqq] at this;exact this
 ·have n1:=hF.ab q hmem b (List.mem_of_getElem? hbk)
  rw [dW (Ne.symm n1.1)] at hl
  rw [hdst,mJ n1.2.2]
  exact h.ptr k b hbk hl
 ·have n1:=hF.ab q hmem b (List.mem_of_getElem? hbk)
  rw [dW (Ne.symm n1.1)] at hl
  exact h.free k b hbk hl
theorem Mid.alloc (h:Mid X.P G N ds A B eP iT yY w0 L act w μ)(hG:G≤iT.length) {k:Nat} {b:Bx} (hbk:B[k]? =some b) {o:Oper} (ho:ops[b.i]? =some o)(hi:L b.i=false)(hj:L b.j=false)
 (hK:∀act' w' μ',Mid X.P G N ds A B eP iT yY w0 (um L b.i) act' w' μ'→K act' w'):Bo X.P ops o K Q act w:=by
 have hmem:=List.mem_of_getElem? hbk
 obtain⟨⟨o',ho',hok⟩,_,hij,_⟩:=hF.c b hmem
 rw [ho] at ho';cases ho'
 obtain⟨hdst,hN,hg,hop⟩:=r_ hok
 obtain⟨T,hT,_⟩:=(hR.okB b hmem).ty
 obtain⟨z,z1,z2⟩:=rC (w:=w) hT
 have hgn:o.guard=none:=by
  cases hgg:o.guard with
  | none=>rfl
  | some g=>rw [hgg] at hg;simp [lC] at hg
 have hopp:o.op= .alloc b.t:=by
  cases hoo:o.op <;> rw [hoo] at hop <;> simp only [lQ,Bool.false_eq_true] at hop
  ·simp only [beq_iff_eq] at hop;rw [hop]
  ·rename_i c
   unfold lN at hop
   split at hop <;> first | (cases hop;done) | simp_all [iC]
 have hrun:(execOp act.eval o).run X.P w= .ok (.value (.pointer (some ⟨w.heap.size,0,none⟩))) { w with heap:=w.heap.push (.cells z.cells b.t) } :=by
  simp [execOp,hopp,Instr.alloc,z1,newVar,newRow]
 have hdead:(wG X.P eP B L iT)[iT.length+k]? =some ⟨0,false,.dead⟩:=by
  rw [FT hbk];simp [iY,hi]
 have hst:=Step.place (e:=b.t) h.st.pV hdead (by omega) (h.free k b hbk hi) (oh z2)
 have hdN:b.d<act.tmps.size:=by rw [h.size];simpa [uZ] using hN
 have hother:∀(k':Nat) b',B[k']? =some b'→k'≠k→b'.i≠b.i∧b'.j≠b.i∧b'.d≠b.d:=by
  intro k' b' hb' hne
  rcases Nat.lt_or_ge k' k with hl | hl
  ·have:=hF.bb hl hb' hbk;exact⟨this.1,this.2.2.1,this.2.2.2.2⟩
  ·have:=hF.bb (show k<k' by omega) hbk hb';exact⟨Ne.symm this.1,Ne.symm this.2.1,Ne.symm this.2.2.2.2⟩
 have hset:wG X.P eP B (um L b.i) iT=(wG X.P eP B L iT).set (iT.length+k) ⟨0,false,.cells b.t T.zero.cells⟩:=by
  rw [Ii (L:=L) hbk fun k' b' hb' hne=>by
   obtain⟨n1,n2,_⟩:=hother k' b' hb' hne
   simp only [iY,dW n1,dW n2]]
  congr 1
  simp [iY,mG,dW (Ne.symm hij),hj,uj,hT]
 unfold Bo
 rw [if_pos (by simp [Region.wanted,hgn])]
 refine .inl ?_
 unfold Oper.wp
 rw [hrun]
 refine hK _ _ _ ⟨by rw [hset];exact h.st.trans hst,by rw [xP];exact h.size,by rw [iM];exact h.df,fun x hx1 hx2=>?_,fun k' b' hb' hl=>?_,fun k' b' hb' hl=>?_⟩
 ·rw [hdst,mJ (fun hh=>hx1 b hmem (Option.some.inj hh))]
  refine aN.mono hst.ext hst.tX _ _ (h.vals x hx1 fun q hq hx=>?_)
  have:=hx2 q hq hx
  rw [dW (hF.ab q hq b hmem).1] at this;exact this
 ·rw [hdst]
  by_cases hkk:k'= k
  ·subst hkk
   rw [hbk] at hb';cases hb'
   rw [pX hdN]
   exact⟨w.heap.size,0,Mu.bH _ _ _ _,rfl⟩
  ·obtain⟨n1,_,n3⟩:=hother k' b' hb' hkk
   rw [dW n1] at hl
   rw [mJ fun hh=>n3 (Option.some.inj hh).symm]
   exact aN.mono hst.ext hst.tX _ _ (h.ptr k' b' hb' hl)
 ·by_cases hkk:k'= k
  ·subst hkk
   rw [hbk] at hb';cases hb'
   rw [mG] at hl;cases hl
  ·obtain⟨n1,_,_⟩:=hother k' b' hb' hkk
   rw [dW n1] at hl
   rw [Mu.upd_ne (by omega)]
   exact h.free k' b' hb' hl
theorem Mid.store (h:Mid X.P G N ds A B eP iT yY w0 L act w μ) {k:Nat} {b:Bx} (hbk:B[k]? =some b) {o:Oper} (ho:ops[b.j]? =some o)(hb:∀j∈dK ops b.j,L j=true)(hj:L b.j=false)
 (hK:∀act' w' μ',Mid X.P G N ds A B eP iT yY w0 (um L b.j) act' w' μ'→K act' w'):Bo X.P ops o K Q act w:=by
 have hmem:=List.mem_of_getElem? hbk
 obtain⟨⟨oi,hoi,hoki⟩,⟨o',ho',hok⟩,hij,hbi,hsl⟩:=hF.c b hmem
 rw [ho] at ho';cases ho'
 have hi:L b.i=true:=hb _ hbi
 obtain⟨hdst,_,hg,hop⟩:=r_ hok
 obtain⟨_,hN,_,_⟩:=r_ hoki
 obtain⟨T,hT,t1,t2,t3⟩:=(hR.okB b hmem).ty
 have hgn:o.guard=none:=by
  cases hgg:o.guard with
  | none=>rfl
  | some g=>rw [hgg] at hg;simp [lC] at hg
 have hdN:b.d<N:=by simpa [uZ] using hN
 obtain⟨e1,hen,he1⟩:=DN (G:=G) (μ:=μ) (w:=w) (e:=put (some b.d) (.p (iT.length+k) 0 0) eP) h.size (fun x=>x=b.d∨((∀b∈B,b.d≠x)∧∀q∈A,q.2.d=some x→L q.1=true)) fun x _ hx=>by
  rcases hx with rfl | hx
  ·rw [ji];exact h.ptr k b hbk hi
  ·rw [jB fun hh=>hx.1 b hmem (Option.some.inj hh)];exact h.vals x hx.1 hx.2
 have hy:b.y.ev e1=b.y.ev eP:=rY fun x hx=>by
  obtain⟨q1,q2,q3,_⟩:=h.src hF (hsl x hx) hb
  rw [he1 x q1 (.inr ⟨q2,q3⟩),jB fun hh=>q2 b hmem (Option.some.inj hh)]
 have Ld:(wG X.P eP B L iT)[iT.length+k]? =some ⟨0,false,.cells b.t T.zero.cells⟩:=by
  rw [FT hbk];simp [iY,hi,hj,uj,hT]
 have hstore:gV (aA X.P b.t) (.p (iT.length+k) 0 0) (b.y.ev eP) (wG X.P eP B L iT)=some ((wG X.P eP B L iT).set (iT.length+k) (oH X.P eP b)):=by
  simp only [gV,hT,Ld]
  rw [if_pos ⟨trivial,trivial,t1,t2,by omega⟩]
  simp [oH,uj,hT]
 have hother:∀(k':Nat) b',B[k']? =some b'→k'≠k→b'.i≠b.j∧b'.j≠b.j:=by
  intro k' b' hb' hne
  rcases Nat.lt_or_ge k' k with hl | hl
  ·have:=hF.bb hl hb' hbk;exact⟨this.2.1,this.2.2.2.1⟩
  ·have:=hF.bb (show k<k' by omega) hbk hb';exact⟨Ne.symm this.2.2.1,Ne.symm this.2.2.2.1⟩
 have hset:wG X.P eP B (um L b.j) iT=(wG X.P eP B L iT).set (iT.length+k) (oH X.P eP b):=by
  rw [Ii (L:=L) hbk fun k' b' hb' hne=>by
   obtain⟨n1,n2⟩:=hother k' b' hb' hne
   simp only [iY,dW n1,dW n2]]
  congr 1
  simp [iY,mG,dW hij,hi]
 obtain⟨x',y',hopp,hx',hy'⟩:∃x' y',o.op= .store b.t x' y'∧bV G x' (.t b.d)=true∧bV G y' b.y=true:=by
  cases hoo:o.op <;> rw [hoo] at hop <;> simp only [lQ,Bool.false_eq_true] at hop
  ·simp only [Bool.and_eq_true,beq_iff_eq] at hop
   exact⟨_,_,by rw [hop.1.1],hop.1.2,hop.2⟩
  ·rename_i c
   unfold lN at hop
   split at hop <;> first | (cases hop;done) | simp_all [iC]
 have rx:=lD h.st.pV hen hx'
 have ry:=lD h.st.pV hen hy'
 rw [hy] at ry
 have hxe:(bG.t b.d).ev e1= .p (iT.length+k) 0 0:=by
  show get e1 b.d=_
  rw [he1 b.d hdN (.inl rfl),ji]
 rw [hxe] at rx
 obtain⟨w',s1,s2⟩:=zO h.st.pV hstore rx ry
 have hrun:(execOp act.eval o).run X.P w= .ok .skip w':=by simp [execOp,hopp,s1]
 unfold Bo
 rw [if_pos (by simp [Region.wanted,hgn])]
 refine .inl ?_
 unfold Oper.wp
 rw [hrun]
 have hd0:o.dst=none:=hdst
 refine hK _ _ _ ⟨by rw [hset];exact h.st.trans s2,by rw [xP];exact h.size,by rw [iM];exact h.df,fun x hx1 hx2=>?_,fun k' b' hb' hl=>?_,fun k' b' hb' hl=>?_⟩
 ·rw [hd0,mJ (by simp)]
  refine aN.mono s2.ext s2.tX _ _ (h.vals x hx1 fun q hq hx=>?_)
  have:=hx2 q hq hx
  rw [dW (hF.ab q hq b hmem).2.1] at this;exact this
 ·rw [hd0,mJ (by simp)]
  refine aN.mono s2.ext s2.tX _ _ (h.ptr k' b' hb' ?_)
  by_cases hkk:k'= k
  ·subst hkk;rw [hbk] at hb';cases hb';exact hi
  ·rw [dW (hother k' b' hb' hkk).1] at hl;exact hl
 ·by_cases hkk:k'= k
  ·subst hkk;rw [hbk] at hb';cases hb'
   rw [dW hij,hi] at hl;cases hl
  ·rw [dW (hother k' b' hb' hkk).1] at hl
   exact h.free k' b' hb' hl
end
theorem JC (l:List AI):nG l ++ uh l=l:=List.takeWhile_append_dropWhile
theorem L6 {ds:List Deferred} {eP e':Env} {iT σ':St} {yY μ:Mu} {w0 w:World} {e:Env} {L:Nat→Bool} {act:Act} (hR:Ran X run A B e eP e' iT σ')(h:Mid X.P G N ds A B eP iT yY w0 L act w μ)(hA:∀q∈A,L q.1=true)(hB:∀b∈B,L b.i=true∧L b.j=true) :
 mD ds G N yY iT w0 e' σ' act w:=by
 have hst:wG X.P eP B L iT=σ':=by
  rw [hR.store]
  unfold wG
  have hm:B.map (iY X.P eP L)=B.map (oH X.P eP):=List.map_congr_left fun b hb=>by simp only [iY,(hB b hb).1,(hB b hb).2,if_true]
  rw [hm]
 refine⟨μ,by rw [←hst];exact h.st,⟨h.size,fun x=>?_⟩,h.df⟩
 by_cases hx:∃b∈B,b.d=x
 ·obtain⟨b,hb,rfl⟩:=hx
  obtain⟨k,hk⟩:=List.getElem?_of_mem hb
  rw [hR.ptrB k b hk]
  exact h.ptr k b hk (hB b hb).1
 ·have hx':∀b∈B,b.d≠x:=fun b hb hd=>hx ⟨b,hb,hd⟩
  rw [hR.YK x hx']
  exact h.vals x hx' fun q hq _=>hA q hq
theorem fr_any {f:Bool} {ds:List Deferred} {l:List AI} {e eP e':Env} {iT σ':St} {yY:Mu} {w0:World} {Q:Exit→Act→World→Prop} (hF:FrOk f X.P G N ops l A B)(hR:Ran X run A B e eP e' iT σ')(hG:G≤iT.length)
 (hQ:∀act' w',mD ds G N yY iT w0 e' σ' act' w'→Q .normal act' w') :
 ∀ (fuel:Nat) (listed:Array Bool) (act:Act) (w:World) (μ:Mu),(KR ops.size listed).length≤fuel→listed.size=ops.size→(∀i,listed.getD i false=true→∀j∈dK ops i,listed.getD j false=true)→
   Mid X.P G N ds A B eP iT yY w0 (fun i=>listed.getD i false) act w μ→wpAny X.P .any ops Q fuel listed act w:=by
 have hlt:∀(p k:Nat),(vM f A B)[p]? =some k→k<ops.size:=by
  intro p k hk
  have hm:=List.mem_of_getElem? hk
  rw [oG] at hm
  rcases hm with ⟨q,hq,rfl⟩ | ⟨b,hb,rfl | rfl⟩
  ·obtain⟨p',hp'⟩:=List.getElem?_of_mem hq
   obtain⟨⟨o,ho,_⟩,_⟩:=hF.a p' q hp'
   exact(Array.getElem?_eq_some_iff.1 ho).1
  ·obtain⟨⟨o,ho,_⟩,_⟩:=hF.c b hb
   exact(Array.getElem?_eq_some_iff.1 ho).1
  ·obtain⟨_,⟨o,ho,_⟩,_⟩:=hF.c b hb
   exact(Array.getElem?_eq_some_iff.1 ho).1
 have hdone:∀(listed:Array Bool) (act:Act) (w:World) (μ:Mu),listed.size=ops.size→Mid X.P G N ds A B eP iT yY w0 (fun i=>listed.getD i false) act w μ→Region.ready .any ops listed=[]→Q .normal act w:=by
  intro listed act w μ hsz hM hr
  have hall:∀(p k:Nat),(vM f A B)[p]? =some k→listed.getD k false=true:=by
   intro p
   induction p using Nat.strongRecOn with
   | _ p ih=>
     intro k hk
     cases hl:listed.getD k false with
     | true=>rfl
     | false=>
       exfalso
       have hkl:=hlt p k hk
       have:k∈Region.ready .any ops listed:=by
         rw [mem_ready]
         refine⟨by rw [jX (by omega)];exact hl,ops[k],Array.getElem?_eq_getElem hkl,fun ed he hb=>?_⟩
         obtain⟨q,hq,hqk⟩:=hF.ord p k hk ed.on ((o_ (Array.getElem?_eq_getElem hkl)).2 ⟨ed,he,hb,rfl⟩)
         exact ih q hq _ hqk
       rw [hr] at this;cases this
  have hmem:∀k∈vM f A B,listed.getD k false=true:=fun k hk=>by
   obtain⟨p,hp⟩:=List.getElem?_of_mem hk
   exact hall p k hp
  refine hQ _ _ (L6 hR hM (fun q hq=>hmem _ ?_) fun b hb=>⟨hmem _ ?_,hmem _ ?_⟩)
  ·exact oG.2 (.inl ⟨q,hq,rfl⟩)
  ·exact oG.2 (.inr ⟨b,hb,.inl rfl⟩)
  ·exact oG.2 (.inr ⟨b,hb,.inr rfl⟩)
 intro fuel
 induction fuel with
 | zero=>
   intro listed act w μ hfu hsz hcl hM
   have hr:Region.ready .any ops listed=[]:=by
    apply List.eq_nil_iff_forall_not_mem.2
    intro i hi
    obtain⟨h0,o,ho,_⟩:=mem_ready.1 hi
    have hil:i<ops.size:=(Array.getElem?_eq_some_iff.1 ho).1
    rw [jX (by omega)] at h0
    have:i∈KR ops.size listed:=List.mem_filter.2 ⟨List.mem_range.2 hil,by rw [h0];rfl⟩
    have:=List.length_pos_of_mem this
    omega
   exact⟨hr,hdone listed act w μ hsz hM hr⟩
 | succ fuel ih=>
   intro listed act w μ hfu hsz hcl hM
   refine⟨hdone listed act w μ hsz hM,fun i hi=>?_⟩
   obtain⟨h0,o,ho,hbind⟩:=mem_ready.1 hi
   have hil:i<ops.size:=(Array.getElem?_eq_some_iff.1 ho).1
   rw [jX (by omega)] at h0
   have hb:∀j∈dK ops i,listed.getD j false=true:=fun j hj=>by
    obtain⟨ed,he,hbd,rfl⟩:=(o_ ho).1 hj
    exact hbind ed he hbd
   have hget:∀j,(listed.setIfInBounds i true).getD j false=um (fun i=>listed.getD i false) i j:=by
    intro j
    by_cases hj:j=i
    ·subst hj;rw [mG];simp [Array.getElem?_setIfInBounds,hsz,hil]
    ·rw [dW hj,getD_set_ne false (Ne.symm hj)]
   have hfun:(fun j=>(listed.setIfInBounds i true).getD j false)=um (fun i=>listed.getD i false) i:=funext hget
   have hnext:∀act' w' μ',Mid X.P G N ds A B eP iT yY w0 (um (fun i=>listed.getD i false) i) act' w' μ'→wpAny X.P .any ops Q fuel (listed.setIfInBounds i true) act' w':=by
    intro act' w' μ' hM'
    refine ih _ act' w' μ' ?_ (by simpa using hsz) ?_ (by rw [hfun];exact hM')
    ·have:=Ic (n:=ops.size) hil hsz h0
     omega
    ·intro j hj k hk
     rw [hget] at hj ⊢
     by_cases hki:k=i
     ·rw [hki,mG]
     ·rw [dW hki]
      by_cases hji:j=i
      ·subst hji;exact hb k hk
      ·rw [dW hji] at hj;exact hcl j hj k hk
   unfold wpOp
   rw [ho]
   rcases hF.all i hil with ⟨q,hq,rfl⟩ | ⟨b,hbB,hbi⟩
   ·obtain⟨p,hp⟩:=List.getElem?_of_mem hq
    exact hM.value hF hR hp ho hb fun act' hM'=>hnext act' w μ hM'
   ·obtain⟨k,hk⟩:=List.getElem?_of_mem hbB
    obtain⟨_,_,_,hbib,_⟩:=hF.c b hbB
    rcases hbi with rfl | rfl
    ·refine hM.alloc hF hR hG hk ho h0 ?_ hnext
     cases hj:listed.getD b.j false with
     | false=>rfl
     | true=>have:=hcl b.j hj b.i hbib;rw [h0] at this;cases this
    ·exact hM.store hF hR hk ho hb h0 hnext
theorem pY {α:Type} {f g:α→α→Bool} (h:∀a b,f a b=true→g a b=true):∀{l:List α},gJ f l=true→gJ g l=true
 | [],_=>rfl
 | a :: l,q=>by
   simp only [gJ,Bool.and_eq_true,List.all_eq_true] at q ⊢
   exact⟨fun b hb=>h a b (q.1 b hb),pY h q.2⟩
theorem L8 {ds:List Deferred} {id:Nat} {l:List AI} {Q:Exit→Act→World→Prop} {e e':Env} {act:Act} {μ:Mu} {σ σ':St} {w:World} (hf:X.P.follows .mixedOrders=true)(hok:Uo X.P G N ops l=true)
 (hs:fD G μ σ w) (he:dR G N μ w e act.tmps) (hd:act.defers=ds) (h:jU X run l e σ=some (e',σ')) (hQ:∀act' w',mD ds G N μ σ w e' σ' act' w'→Q .normal act' w'):(Code.region id ops true).wp X.P Q act w:=by
 unfold Uo at hok
 have hAm:(LU X.P G N ops (nG l)).map (·.2)=nG l:=by simp [LU,Function.comp_def]
 generalize LU X.P G N ops (nG l)=A at hok hAm
 generalize Ie X.P G N ops (uh l)=B at hok
 obtain⟨f,hok⟩:∃f,Ag f X.P G N ops l A B=true:=by
  rw [Bool.or_eq_true] at hok
  rcases hok with h | h
  ·exact⟨_,h⟩
  ·exact⟨_,h⟩
 have hF:=JB hok
 rw [←JC l,DL,hF.b,Option.bind_eq_some_iff] at h
 obtain⟨⟨eP,KU⟩,hA,hB⟩:=h
 have hat:∀(p:Nat) a,(nG l)[p]? =some a→∃q,A[p]? =some q∧q.2=a:=by
  intro p a hp
  rw [←hAm,List.getElem?_map,Option.map_eq_some_iff] at hp
  exact hp
 obtain⟨r1,r2,r3⟩:=recA (nG l) e eP KU (fun a ha=>by
  obtain⟨p,hp⟩:=List.getElem?_of_mem ha
  obtain⟨q,hq,rfl⟩:=hat p a hp
  exact qx (hF.a p q hq).2.1) hA
 have r1:KU=σ:=r1
 subst r1
 have hbd:gJ (fun b b':Bx=>b.d != b'.d) B=true:=by
  have h0:=hok
  simp only [Ag,Bool.and_eq_true] at h0
  exact pY (fun a b q=>by simp only [Bool.and_eq_true] at q;exact q.2) h0.1.1.1.1.1.2
 obtain⟨s1,s2,s3,s4⟩:=recB B eP e' KU σ' hbd (fun b hb b' hb' hx=>by
  have h1:=(hF.c b hb).2.2.2.2 _ hx
  simp only [xM,Bool.and_eq_true,decide_eq_true_eq,Bool.or_eq_true,List.all_eq_true,bne_iff_ne,ne_eq,List.any_eq_true,beq_iff_eq] at h1
  rcases h1.2 with h2 | ⟨q,hq,h2,_⟩
  ·exact h2.2 b' hb' rfl
  ·exact(hF.ab q (List.mem_of_mem_take hq) b' hb').2.2 h2) hB
 have hAat:∀(p:Nat) q,A[p]? =some q→(nG l)[p]? =some q.2:=fun p q hq=>by rw [←hAm,List.getElem?_map,hq];rfl
 have hR:Ran X run A B e eP e' KU σ':={
  keep:=fun x hx=>r2 x fun a ha=>by
   obtain⟨p,hp⟩:=List.getElem?_of_mem ha
   obtain⟨q,hq,rfl⟩:=hat p a hp
   exact hx q (List.mem_of_getElem? hq)
  at':=fun p q hq=>by
   obtain⟨Ep,v,q1,q2,q3⟩:=r3 p q.2 (hAat p q hq)
   refine⟨Ep,v,q1,fun x hx=>q2 x fun r c hr hc=>?_,fun x hx hl=>q3 x hx fun r c hr hc=>?_⟩
   ·obtain⟨q',hq',rfl⟩:=hat r c hc;exact hx r q' hr hq'
   ·obtain⟨q',hq',rfl⟩:=hat r c hc;exact hl r q' hr hq'
  store:=s1
  YK:=s2
  ptrB:=s3
  okB:=s4 }
 have hdr:=Step.drew hs
 have hno:∀i,(Array.replicate ops.size false).getD i false=false:=by
  intro i
  rw [Array.getD_eq_getD_getElem?,Array.getElem?_replicate]
  split <;> rfl
 have hstd:wG X.P eP B (fun i=>(Array.replicate ops.size false).getD i false) KU=KU ++ List.replicate B.length ⟨0,false,.dead⟩:=by
  unfold wG
  have hm:B.map (iY X.P eP (fun i=>(Array.replicate ops.size false).getD i false))=B.map (fun _=>(⟨0,false,.dead⟩:AO)):=List.map_congr_left fun b hb=>by simp [iY,hno]
  rw [hm,List.map_const']
 refine wp_region_any hf (fr_any hF hR hs.G_le hQ ops.size _ act _ μ ?_ (by simp) (fun i hi=>by rw [hno] at hi;cases hi) ⟨?_,he.size,hd,fun x hx1 hx2=>?_,fun k b hbk hl=>(by simp only [hno] at hl;cases hl),fun k b hbk _=>hs.above (by omega)⟩)
 ·unfold KR
  exact Nat.le_trans (List.length_filter_le _ _) (by simp)
 ·rw [hstd]
  exact hdr.trans (Step.LV hdr.pV _)
 ·rw [hR.keep x fun q hq hx=>by have:=hx2 q hq hx;simp only [hno] at this;cases this]
  exact aN.mono hdr.ext hdr.tX _ _ (he.rel x)
end
end Go.dD
namespace Go.dD
theorem Ij {ds:List Deferred} {X:Ctx} {G N:Nat} {run:Run} (hX:X.Ok G)(hrun:jT X.P G run)(hf:X.P.follows .mixedOrders=true) {id:Nat} {ops:Array Oper} {l:List (AI×List AI)} {Q:Exit→Act→World→Prop}
 {e:Env} {act:Act} {μ:Mu} {σ:St} {w:World} {e':Env} {σ':St} (hok:Ia X.P G N ops l=true) (hs:fD G μ σ w) (he:dR G N μ w e act.tmps) (hd:act.defers=ds) (h:qm X run l e σ=some (e',σ'))
 (hQ:∀act' w',mD ds G N μ σ w e' σ' act' w'→Q .normal act' w'):(Code.region id ops true).wp X.P Q act w:=by
 simp only [Ia,Ae,Bool.and_eq_true,beq_iff_eq] at hok
 obtain⟨hT,hlen⟩:=hok
 have hmap:=Af (P:=X.P) (G:=G) (N:=N) (ops:=ops) l [] (by simpa using hlen)
 simp only [List.reverse_nil,List.map_nil,List.nil_append] at hmap
 have hT':=FQ hT
 generalize xH X.P G N ops l []=T at *
 obtain⟨E,S,V,h1,h2,h3,h4,h5⟩:=DF l e σ e' σ' h
 have hR:Runs X run T E S V:=by
  have hg:∀(p:Nat) (t:DI),T[p]? =some t→l[p]? =some (t.a,t.again):=by
   intro p t ht
   rw [←hmap,List.getElem?_map,ht];rfl
  exact⟨fun p t ht=>(h5 p _ _ (hg p t ht)).1,fun p t ht=>(h5 p _ _ (hg p t ht)).2.1,fun p t ht=>(h5 p _ _ (hg p t ht)).2.2⟩
 refine wp_region_any hf (Un hX hrun hT' hR (yY:=μ) (iT:=σ) (w0:=w) ?_ ops.size _ 0 e act _ μ ?_ (by simp) ?_ ?_ (by rw [h2];exact Step.drew hs) ?_ hd)
 ·rw [hlen,h3,h4];exact hQ
 ·unfold KR
  exact Nat.le_trans (List.length_filter_le _ _) (by simp)
 ·intro i hi
  rw [Array.getD_eq_getD_getElem?,Array.getElem?_replicate] at hi
  split at hi
  ·assumption
  ·cases hi
 ·have hno:∀i,¬(Array.replicate ops.size false).getD i false=true:=by
   intro i hi
   rw [Array.getD_eq_getD_getElem?,Array.getElem?_replicate] at hi
   split at hi <;> cases hi
  refine⟨fun i hi=>absurd hi (hno i),Nat.zero_le _,fun q t _ _=>?_,fun q t x _ hl=>absurd hl (hno _),fun x _=>by rw [h1]⟩
  constructor
  ·intro hl;omega
  ·intro hl;exact absurd hl (hno _)
 ·exact he.mono (Mu.le_refl μ) (fun _ _ _ q=>q)
def AC.unJ:AC→AC
 | .cut l b=>match l with
   | d :: _=>if d=1000000 then b else .cut l b
   | []=>.cut l b
 | b=>b
theorem AC.JD (b:AC):b.unJ=b∨∃l,b= .cut l b.unJ:=by
 cases b with
 | cut l b=>
   cases l with
   | nil=>exact .inl rfl
   | cons d l=>
     simp only [AC.unJ]
     split
     ·exact .inr ⟨d :: l,rfl⟩
     ·exact .inl rfl
 | _=>exact .inl rfl
def zl (P:Program)(G N:Nat):Code→AC→Bool
 | .scope c,a=>zl P G N c a
 | .skip,.skip=>true
 | .label _,.skip=>true
 | .region _ ops false,.reg l=>xA P G N ops (List.range ops.size) l
 | .region _ ops true,.lI l=>Ia P G N ops l
 | .region _ ops false,.cut _ (.reg l)=>xA P G N ops (List.range ops.size) l
 | .region _ ops true,.cut _ (.lI l)=>Ia P G N ops l
 | .region _ ops true,.reg l=>Uo P G N ops l
 | .region _ ops true,.cut _ (.reg l)=>Uo P G N ops l
 | .seq c d,.seq a b=>zl P G N c a && zl P G N d b.unJ
 | .cond x c d,.cond y a b=>bV G x y && zl P G N c a && zl P G N d b
 | .block id c,.blk id' a=>id == id' && zl P G N c a
 | .loop c,.loop _ a=>zl P G N c a
 | .exit id,.exit id'=>id == id'
 | .ret,.ret=>true
 | _,.cond (.c .u) (.exit _) (.exit _)=>true
 | _,_=>false
def Out.exit':Out→Exit
 | .normal=>.normal
 | .exit id=>.exit id
 | .ret=>.ret
theorem mD.trans {ds:List Deferred} {G N:Nat} {μ:Mu} {σ σ1 σ2:St} {w w1 w2:World} {e1 e2:Env} {a1 a2:Act} {Hf:Mu} (h:Step G μ σ w Hf σ1 w1)(k:mD ds G N Hf σ1 w1 e2 σ2 a2 w2):mD ds G N μ σ w e2 σ2 a2 w2:=by
 obtain⟨μ2,h1,h2,h3⟩:=k
 exact⟨μ2,h.trans h1,h2,h3⟩
section
variable {X:Ctx} {G N:Nat} {run:Run}
def FU (X:Ctx)(G N:Nat)(c:Code)(f:Env→St→Option (Out×Env×St)):Prop:=
 ∀ (ds:List Deferred) (e:Env) (act:Act) (μ:Mu) (σ:St) (w:World) (o:Out) (e':Env) (σ':St) (Q:Exit→Act→World→Prop),fD G μ σ w→dR G N μ w e act.tmps→act.defers=ds→f e σ=some (o,e',σ')→
   (∀act' w',mD ds G N μ σ w e' σ' act' w'→Q o.exit' act' w')→c.wp X.P Q act w
theorem L9 {c:Code} {live:List Nat} {f:Env→St→Option (Out×Env×St)} (h:FU X G N c f)(n:Nat):FU X G N (.loop c) (iK live f n):=by
 intro ds e act μ σ w o e' σ' Q hs he hd hf hQ
 refine wp_loop_rounds n ?_
 induction n generalizing e act μ σ w with
 | zero=>cases hf
 | succ n ih=>
   rw [rounds_succ]
   simp only [iK] at hf
   split at hf
   ·rename_i e1 σ1 h1
    refine h ds (clear live e) act μ σ w .normal e1 σ1 _ hs (he.clear live) hd h1 fun act' w' hl=>?_
    obtain⟨Hf,hst,hen,hdf⟩:=hl
    exact ih e1 act' Hf σ1 w' hst.pV hen hdf hf fun act2 w2 hl2=>hQ _ _ (mD.trans (e1:=e1) (a1:=act') hst hl2)
   ·rename_i hnn
    refine h ds (clear live e) act μ σ w o e' σ' _ hs (he.clear live) hd hf fun act' w' hl=>?_
    cases o with
    | normal=>exact absurd hf (hnn _ _)
    | exit id=>exact hQ _ _ hl
    | ret=>exact hQ _ _ hl
theorem iO (hX:X.Ok G)(hrun:jT X.P G run)(hf:X.P.follows .mixedOrders=true) {n:Nat} :∀(c:Code) (a:AC),zl X.P G N c a=true→FU X G N c (bK X run n a)
 | .scope c,a,hok=>by
   intro ds e act μ σ w o e' σ' Q hs he hd h hQ
   refine wp_scope_straight (iO hX hrun hf c a (by simpa [zl] using hok) ds e act μ σ w o e' σ' _ hs he hd h fun act' w' hl=>?_)
   have:=hQ act' w' hl
   cases o <;> exact this
 | .skip,.skip,_=>by
   intro ds e act μ σ w o e' σ' Q hs he hd h hQ
   cases h
   exact wp_skip (hQ _ _ ⟨μ,Step.refl hs,he,hd⟩)
 | .label _,.skip,_=>by
   intro ds e act μ σ w o e' σ' Q hs he hd h hQ
   cases h
   exact wp_label (hQ _ _ ⟨μ,Step.refl hs,he,hd⟩)
 | .region id ops false,.reg l,hok=>by
   intro ds e act μ σ w o e' σ' Q hs he hd h hQ
   simp only [bK,Option.map_eq_some_iff] at h
   obtain⟨⟨e1,σ1⟩,h1,h2⟩:=h
   cases h2
   exact wp_region (Bq (ops:=ops) hX hrun _ l e act μ σ w _ _ (by simpa [zl] using hok) hs he hd h1 hQ)
 | .region id ops true,.lI l,hok=>by
   intro ds e act μ σ w o e' σ' Q hs he hd h hQ
   simp only [bK,Option.map_eq_some_iff] at h
   obtain⟨⟨e1,σ1⟩,h1,h2⟩:=h
   cases h2
   exact Ij hX hrun hf (by simpa [zl] using hok) hs he hd h1 hQ
 | .region id ops false,.cut live (.reg l),hok=>by
   intro ds e act μ σ w o e' σ' Q hs he hd h hQ
   simp only [bK,Option.map_eq_some_iff] at h
   obtain⟨⟨e1,σ1⟩,h1,h2⟩:=h
   cases h2
   exact wp_region (Bq (ops:=ops) hX hrun _ l _ act μ σ w _ _ (by simpa [zl] using hok) hs (he.clear live) hd h1 hQ)
 | .region id ops true,.cut live (.lI l),hok=>by
   intro ds e act μ σ w o e' σ' Q hs he hd h hQ
   simp only [bK,Option.map_eq_some_iff] at h
   obtain⟨⟨e1,σ1⟩,h1,h2⟩:=h
   cases h2
   exact Ij hX hrun hf (by simpa [zl] using hok) hs (he.clear live) hd h1 hQ
 | .region id ops true,.reg l,hok=>by
   intro ds e act μ σ w o e' σ' Q hs he hd h hQ
   simp only [bK,Option.map_eq_some_iff] at h
   obtain⟨⟨e1,σ1⟩,h1,h2⟩:=h
   cases h2
   exact L8 hf (by simpa [zl] using hok) hs he hd h1 hQ
 | .region id ops true,.cut live (.reg l),hok=>by
   intro ds e act μ σ w o e' σ' Q hs he hd h hQ
   simp only [bK,Option.map_eq_some_iff] at h
   obtain⟨⟨e1,σ1⟩,h1,h2⟩:=h
   cases h2
   exact L8 hf (by simpa [zl] using hok) hs (he.clear live) hd h1 hQ
 | .seq c d,.seq a b,hok=>by
   intro ds e act μ σ w o e' σ' Q hs he hd h hQ
   simp only [zl,Bool.and_eq_true] at hok
   simp only [bK] at h
   refine wp_seq ?_
   split at h
   ·rename_i e1 σ1 h1
    refine iO hX hrun hf c a hok.1 ds e act μ σ w .normal e1 σ1 _ hs he hd h1 fun act' w' hl=>?_
    obtain⟨Hf,hst,hen,hdf⟩:=hl
    have hd2:=iO hX hrun hf d b.unJ hok.2 (n:=n)
    rcases AC.JD b with hb | ⟨l,hb⟩
    ·rw [hb] at hd2
     exact hd2 ds e1 act' Hf σ1 w' o e' σ' Q hst.pV hen hdf h fun act2 w2 hl2=>hQ _ _ (mD.trans (e1:=e1) (a1:=act') hst hl2)
    ·rw [hb] at h
     simp only [bK] at h
     exact hd2 ds (clear l e1) act' Hf σ1 w' o e' σ' Q hst.pV (hen.clear l) hdf h fun act2 w2 hl2=>hQ _ _ (mD.trans (e1:=e1) (a1:=act') hst hl2)
   ·rename_i hnn
    refine iO hX hrun hf c a hok.1 ds e act μ σ w o e' σ' _ hs he hd h fun act' w' hl=>?_
    cases o with
    | normal=>exact absurd h (hnn _ _)
    | exit id=>exact hQ _ _ hl
    | ret=>exact hQ _ _ hl
 | .cond x c d,.cond y a b,hok=>by
   intro ds e act μ σ w o e' σ' Q hs he hd h hQ
   simp only [zl,Bool.and_eq_true] at hok
   have hx:=lD hs he hok.1.1
   simp only [bK] at h
   split at h
   ·rename_i hy
    rw [hy] at hx
    exact wp_cond_true hx (iO hX hrun hf c a hok.1.2 ds e act μ σ w o e' σ' _ hs he hd h hQ)
   ·rename_i hy
    rw [hy] at hx
    exact wp_cond_false hx (iO hX hrun hf d b hok.2 ds e act μ σ w o e' σ' _ hs he hd h hQ)
   ·cases h
 | .block id c,.blk id' a,hok=>by
   intro ds e act μ σ w o e' σ' Q hs he hd h hQ
   simp only [zl,Bool.and_eq_true,beq_iff_eq] at hok
   obtain⟨rfl,hok⟩:=hok
   simp only [bK] at h
   refine wp_block ?_
   split at h
   ·rename_i j e1 σ1 h1
    simp only [Option.some.injEq,Prod.mk.injEq] at h
    obtain⟨rfl,rfl,rfl⟩:=h
    refine iO hX hrun hf c a hok ds e act μ σ w (.exit j) _ _ _ hs he hd h1 fun act' w' hl=>?_
    have hq:=hQ act' w' hl
    simp only [Out.exit',Exit.inBlock]
    split
    ·rename_i hj;rw [if_pos hj] at hq;exact hq
    ·rename_i hj;rw [if_neg hj] at hq;exact hq
   ·rename_i hnn
    refine iO hX hrun hf c a hok ds e act μ σ w o e' σ' _ hs he hd h fun act' w' hl=>?_
    cases o with
    | normal=>exact hQ _ _ hl
    | exit id=>exact absurd h (hnn _ _ _)
    | ret=>exact hQ _ _ hl
 | .loop c,.loop live a,hok=>by
   have hc:=iO hX hrun hf c a (n:=n) (by simpa [zl] using hok)
   intro ds e act μ σ w o e' σ' Q hs he hd h hQ
   exact L9 hc n ds e act μ σ w o e' σ' Q hs he hd h hQ
 | .exit id,.exit id',hok=>by
   intro ds e act μ σ w o e' σ' Q hs he hd h hQ
   simp only [zl,beq_iff_eq] at hok
   subst hok
   cases h
   exact wp_exit (hQ _ _ ⟨μ,Step.refl hs,he,hd⟩)
 | .ret,.ret,_=>by
   intro ds e act μ σ w o e' σ' Q hs he hd h hQ
   cases h
   exact wp_ret (hQ _ _ ⟨μ,Step.refl hs,he,hd⟩)
 | _,.cond (.c .u) (.exit _) (.exit _),_=>by
   intro ds e act μ σ w o e' σ' Q hs he hd h hQ
   simp [bK,bG.ev] at h
end
end Go.dD
namespace Go.dD
def qA:List ResultVar→List AR→Bool
 | [],[]=>true
 | .tmp n :: l,.t m :: r=>n == m && qA l r
 | .cell a t :: l,.cell b s :: r=>a == b && t == s && qA l r
 | _,_=>false
def bD (P:Program)(G:Nat)(f:Nat)(F:AF):Bool:=match P.funcs[f]? with
 | some fn=>fn.ntmps == F.nt && !(fn.name == "runtime.NumGoroutine") && qA fn.results.toList F.res && (match fn.body with
   | some c=>zl P G F.nt c F.code
   | none=>false)
 | none=>false
def Ah (P:Program)(f:Nat)(aX:Array Value)(w:World)(R:Ending→World→Prop):Prop:=
 (callFunc f aX).run P w= .ok (.enter f aX) w∧∀u,CallsD P f aX u w fun e u' w'=>u'= u∧R e w'
def BD (X:Ctx)(G:Nat)(run:Run):Prop:=∀f,X.dk f=true→∀args σ r σ',run f args σ=some (r,σ')→∀μ w (aX:Array Value),fD G μ σ w→aQ μ w args aX.toList→Ah X.P f aX w (After G μ σ w r σ')
def L_ (P:Program)(fns:Nat→Option AF)(dk:Nat→Bool)(G f:Nat)(F:AF):Prop:=
 ∀ (X:Ctx),X.P=P→X.fns=fns→X.dk=dk→X.Ok G→X.P.follows .mixedOrders=true→∀(run:Run) (n:Nat),jT X.P G run→BD X G run→
   ∀ (args:List AV) (σ:St) (o:Out) (e:Env) (σ1:St) (v:AV),args.length≤F.nt→bK X run n F.code (eU 0 args) σ=some (o,e,σ1)→o= .normal∨o= .ret→m_ X.P F.res e σ1=some v→
   ∀ (μ:Mu) (w:World) (aX:Array Value),fD G μ σ w→aQ μ w args aX.toList→Enters X.P f∧Calls X.P f aX w (After G μ σ w v σ1)
structure Ctx.Sound (X:Ctx)(G:Nat):Prop where
 ok:X.Ok G
 draws:X.P.follows .mixedOrders=true
 fns:∀f F,X.ql f=none→X.fns f=some F→bD X.P G f F=true∨L_ X.P X.fns X.dk G f F
 dks:∀f,X.dk f=true→X.ql f=none∧∀F,X.fns f=some F→bD X.P G f F=true
section
variable {X:Ctx} {G N:Nat} {μ:Mu} {σ:St} {w:World}
theorem xQ:∀(args:List AV) (k n:Nat),get (eU k args) n=if k≤n then(args[n - k]?).getD .u else .u
 | [],k,n=>by simp [eU,get]
 | a :: rest,k,n=>by
   simp only [eU,get]
   split
   ·rename_i h;subst h;simp
   ·rename_i h
    rw [xQ rest (k+1) n]
    by_cases hk:k≤n
    ·rw [if_pos hk,if_pos (by omega),show n - k=(n - (k+1))+1 by omega];simp
    ·rw [if_neg hk,if_neg (by omega)]
theorem DR {args:List AV} {aX:Array Value} {nt:Nat} (h:aQ μ w args aX.toList)(hl:args.length≤nt):dR G nt μ w (eU 0 args) (aX ++ Array.replicate (nt - aX.size) undef):=by
 have hsz:aX.size=args.length:=by have:=h.length;simpa using this
 refine⟨by simp;omega,fun n=>?_⟩
 rw [xQ]
 simp only [Nat.zero_le,if_true,Nat.sub_zero]
 cases hn:args[n]? with
 | none=>trivial
 | some a=>
   obtain⟨v,hv,hr⟩:=h.get n a hn
   have hlt:n<aX.size:=by have:=bZ hn;omega
   rw [Array.getElem?_toList] at hv
   simp only [Option.getD_some]
   rw [Array.getD_eq_getD_getElem?,Array.getElem?_append_left hlt,hv]
   exact hr
def Ik (tmps:Array Value):ResultVar→Sem Value
 | .tmp t=>pure (tmps.getD t undef)
 | .cell a t=>do loadVar t (←asAddr (tmps.getD a undef))
theorem xR (hs:fD G μ σ w) {e:Env} {tmps:Array Value} (he:dR G N μ w e tmps):∀(l:List ResultVar) (r:List AR) (vs:List AV),qA l r=true→lX X.P e σ r=some vs→
 ∃ us,(l.mapM (Ik tmps)).run X.P w= .ok us w∧aQ μ w vs us
 | [],[],vs,_,h=>by
   simp only [lX,Option.some.injEq] at h
   subst h
   exact⟨[],by simp,rfl⟩
 | .tmp n :: l,.t m :: r,vs,hok,h=>by
   simp only [qA,Bool.and_eq_true,beq_iff_eq] at hok
   obtain⟨rfl,hok⟩:=hok
   simp only [lX] at h
   split at h
   ·rename_i v vs' hv hvs
    cases h
    obtain⟨us,h1,h2⟩:=xR hs he l r vs' hok hvs
    have hvn:v=get e n:=by
        simp only [pU] at hv
        split at hv
        ·cases hv
        ·exact(Option.some.inj hv).symm
    refine⟨tmps.getD n undef :: us,?_,_,us,rfl,by rw [hvn];exact he.rel n,h2⟩
    simp [List.mapM_cons,Ik,h1]
   ·cases h
 | .cell a t :: l,.cell b s :: r,vs,hok,h=>by
   simp only [qA,Bool.and_eq_true,beq_iff_eq] at hok
   obtain⟨⟨rfl,rfl⟩,hok⟩:=hok
   simp only [lX] at h
   split at h
   ·rename_i v vs' hv hvs
    cases h
    obtain⟨us,h1,h2⟩:=xR hs he l r vs' hok hvs
    simp only [pU] at hv
    have hr:=he.rel a
    unfold gW at hv
    split at hv
    ·rename_i T o g off hT hx
     rw [hx] at hr
     rw [Option.bind_eq_some_iff] at hv
     obtain⟨cs,hc,hp⟩:=hv
     obtain⟨b,δ,hb,hbe⟩:=hr
     obtain⟨u,q1,q2⟩:=uQ hT hs hc hp hb
     refine⟨u :: us,?_,u,us,rfl,q2,h2⟩
     simp [List.mapM_cons,Ik,hbe,asAddr,q1,h1]
    ·cases hv
   ·cases h
theorem DT (hs:fD G μ σ w) {e:Env} {tmps:Array Value} (he:dR G N μ w e tmps) {fn:Func} {r:List AR} {v:AV} (hok:qA fn.results.toList r=true)(h:m_ X.P r e σ=some v) :
 ∃ u,(results fn tmps).run X.P w= .ok u w∧aN μ w v u:=by
 unfold m_ at h
 cases hL:lX X.P e σ r with
 | none=>rw [hL] at h;cases h
 | some vs=>
   rw [hL] at h
   obtain⟨us,h1,h2⟩:=xR (X:=X) hs he _ r vs hok hL
   have hm:(results fn tmps).run X.P w= .ok (if h:us.toArray.size=1 then us.toArray[0] else .tuple us.toArray) w:=by
    have hf:results fn tmps=(do let vs ←fn.results.mapM (Ik tmps);pure (if h:vs.size=1 then vs[0] else .tuple vs)):=rfl
    rw [hf,Array.mapM_eq_mapM_toList]
    simp [h1]
   have hlen:=h2.length
   refine⟨_,hm,?_⟩
   split at h
   ·rename_i v' hvs
    cases h
    cases hvs
    obtain⟨y,ys,rfl,q1,q2⟩:=h2
    simp only [aQ] at q2
    subst q2
    exact q1
   ·rename_i hn hvs
    cases h
    cases hvs
    have h1':us.toArray.size≠1:=by
        simp only [List.size_toArray]
        intro hu
        rw [hu] at hlen
        cases vs with
        | nil=>cases hlen
        | cons x xs=>
          cases xs with
          | nil=>exact hn x rfl
          | cons _ _=>simp at hlen
    rw [dif_neg h1']
    exact⟨us.toArray,rfl,h2⟩
   ·rename_i hvs;cases hvs
theorem YL (hX:X.Ok G)(hdr:X.P.follows .mixedOrders=true) {f:Nat} {F:AF} (hok:bD X.P G f F=true):∃fn c,X.P.funcs[f]? =some fn∧fn.body=some c∧fn.ntmps=F.nt∧Enters X.P f∧
 ∀ (run:Run) (n:Nat),jT X.P G run→∀(args:List AV) (σ:St) (o:Out) (e:Env) (σ1:St) (v:AV),args.length≤F.nt→bK X run n F.code (eU 0 args) σ=some (o,e,σ1)→o= .normal∨o= .ret→m_ X.P F.res e σ1=some v→
 ∀ (μ:Mu) (w:World) (aX:Array Value),fD G μ σ w→aQ μ w args aX.toList→c.wp X.P (bodyPost X.P fn (After G μ σ w v σ1)) { tmps:=aX ++ Array.replicate (fn.ntmps - aX.size) undef,defers:=[] } w:=by
 unfold bD at hok
 split at hok
 ·rename_i fn hfn
  simp only [Bool.and_eq_true,beq_iff_eq,Bool.not_eq_true'] at hok
  obtain⟨⟨⟨hnt,hnm⟩,hres⟩,hbody⟩:=hok
  split at hbody
  ·rename_i c hc
   refine⟨fn,c,hfn,hc,hnt,mg hfn hnm (by rw [hc];rfl),?_⟩
   intro run n hrun args σ o e σ1 v hlen hcode ho hv μ w aX hs hr
   have hsz:aX.size=args.length:=by have:=hr.length;simpa using this
   rw [hnt]
   have hen:=DR (G:=G) hr hlen
   refine iO hX hrun hdr c F.code hbody [] _ { tmps:=aX ++ Array.replicate (F.nt - aX.size) undef,defers:=[] } μ σ w o e σ1 _ hs hen rfl hcode fun act' w' hl=>?_
   obtain⟨Hf,hst,hen1,hd1⟩:=hl
   obtain⟨u,hu1,hu2⟩:=DT (X:=X) hst.pV hen1 hres hv
   have hafter:After G μ σ w v σ1 (.returned u) w':=⟨u,Hf,rfl,hu2,hst⟩
   rcases ho with rfl | rfl
   ·exact⟨hd1,u,hu1,hafter⟩
   ·exact⟨hd1,u,hu1,hafter⟩
  ·cases hbody
 ·cases hok
theorem Il (hX:X.Ok G)(hdr:X.P.follows .mixedOrders=true) {f:Nat} {F:AF} (hok:bD X.P G f F=true∨L_ X.P X.fns X.dk G f F) {run:Run} {n:Nat} (hrun:jT X.P G run)(hrd:BD X G run) {args:List AV} {σ:St} {o:Out} {e:Env} {σ1:St} {v:AV} (hlen:args.length≤F.nt)
 (hcode:bK X run n F.code (eU 0 args) σ=some (o,e,σ1)) (ho:o= .normal∨o= .ret) (hv:m_ X.P F.res e σ1=some v) {μ:Mu} {w:World} {aX:Array Value} (hs:fD G μ σ w) (hr:aQ μ w args aX.toList):Enters X.P f∧Calls X.P f aX w (After G μ σ w v σ1):=by
 rcases hok with hok | hok
 ·obtain⟨fn,c,hfn,hc,hnt,hen,hwp⟩:=YL hX hdr hok
  exact⟨hen,calls_of_wp hfn hc (hwp run n hrun args σ o e σ1 v hlen hcode ho hv μ w aX hs hr)⟩
 ·exact hok X rfl rfl rfl hX hdr run n hrun hrd args σ o e σ1 v hlen hcode ho hv μ w aX hs hr
theorem DU (hX:X.Ok G)(hdr:X.P.follows .mixedOrders=true) {f:Nat} {F:AF} (hok:bD X.P G f F=true) {run:Run} {n:Nat} (hrun:jT X.P G run) {args:List AV} {σ:St} {o:Out} {e:Env} {σ1:St} {v:AV} (hlen:args.length≤F.nt)
 (hcode:bK X run n F.code (eU 0 args) σ=some (o,e,σ1)) (ho:o= .normal∨o= .ret) (hv:m_ X.P F.res e σ1=some v) {μ:Mu} {w:World} {aX:Array Value} (hs:fD G μ σ w) (hr:aQ μ w args aX.toList):Ah X.P f aX w (After G μ σ w v σ1):=by
 obtain⟨fn,c,hfn,hc,hnt,hen,hwp⟩:=YL hX hdr hok
 exact⟨hen aX w,fun u=>callsD_of_wp hfn hc (hwp run n hrun args σ o e σ1 v hlen hcode ho hv μ w aX hs hr)⟩
theorem After.Mc {r:AV} {σ' σ1:St} {v:AV} {e':Ending} {w':World} (hs:fD G μ σ w)(hn:norm σ v σ1=(r,σ'))(h:After G μ σ w v σ1 e' w'):After G μ σ w r σ' e' w':=by
 obtain⟨u,Hf,he,hu2,hst⟩:=h
 unfold norm at hn
 split at hn
 ·rename_i hfl
  simp only [Bool.and_eq_true] at hfl
  cases hn
  exact⟨u,μ,he,aN.flat _ _ hfl.1 hu2,Step.norm hs hst (qX _ _ hfl.2)⟩
 ·cases hn
  exact⟨u,Hf,he,hu2,hst⟩
theorem CallsD.monoR {P:Program} {f:Nat} {aX:Array Value} {w:World} {R R':Ending→World→Prop} (h:Ah P f aX w R)(hr:∀e w',R e w'→R' e w'):Ah P f aX w R':=
 ⟨h.1,fun u=>(h.2 u).mono fun e u' w' q=>⟨q.1,hr _ _ q.2⟩⟩
theorem Io (hX:X.Sound G):∀n,jT X.P G (aFn X n)∧BD X G (aFn X n)
 | 0=>⟨(by intro f args σ r σ' h;cases h),(by intro f _ args σ r σ' h;cases h)⟩
 | n+1=>by
   obtain⟨ih,ihd⟩:=Io hX n
   constructor
   ·intro f args σ r σ' h
    simp only [aFn] at h
    split at h
    ·rename_i g hg
     exact hX.ok.ql f g hg _ _ _ _ h
    ·rename_i hp
     split at h
     ·rename_i F hF
      intro μ w aX hs hr
      split at h
      ·rename_i hlen
       have main:∀(o:Out) (e:Env) (σ1:St),bK X (aFn X n) n F.code (eU 0 args) σ=some (o,e,σ1)→o= .normal∨o= .ret→(m_ X.P F.res e σ1).map (fun v=>norm σ v σ1)=some (r,σ')→Does X.P f aX w (After G μ σ w r σ'):=by
        intro o e σ1 hcode ho hmap
        rw [Option.map_eq_some_iff] at hmap
        obtain⟨v,hv,xU⟩:=hmap
        obtain⟨he,hc⟩:=Il hX.ok hX.draws (hX.fns f F hp hF) ih ihd hlen hcode ho hv hs hr
        exact .inl ⟨he aX w,hc.mono fun e' w' q=>q.Mc hs xU⟩
       split at h
       ·rename_i e σ1 hcode;exact main _ _ _ hcode (.inl rfl) h
       ·rename_i e σ1 hcode;exact main _ _ _ hcode (.inr rfl) h
       ·cases h
      ·cases h
     ·cases h
   ·intro f hdk args σ r σ' h
    obtain⟨hp,hokf⟩:=hX.dks f hdk
    simp only [aFn,hp] at h
    split at h
    ·rename_i F hF
     intro μ w aX hs hr
     split at h
     ·rename_i hlen
      have main:∀(o:Out) (e:Env) (σ1:St),bK X (aFn X n) n F.code (eU 0 args) σ=some (o,e,σ1)→o= .normal∨o= .ret→(m_ X.P F.res e σ1).map (fun v=>norm σ v σ1)=some (r,σ')→Ah X.P f aX w (After G μ σ w r σ'):=by
            intro o e σ1 hcode ho hmap
            rw [Option.map_eq_some_iff] at hmap
            obtain⟨v,hv,xU⟩:=hmap
            exact CallsD.monoR (DU hX.ok hX.draws (hokf F hF) ih hlen hcode ho hv hs hr) fun e' w' q=>q.Mc hs xU
      split at h
      ·rename_i e σ1 hcode;exact main _ _ _ hcode (.inl rfl) h
      ·rename_i e σ1 hcode;exact main _ _ _ hcode (.inr rfl) h
      ·cases h
     ·cases h
    ·cases h
theorem fn_ok (hX:X.Sound G)(n:Nat):jT X.P G (aFn X n):=(Io hX n).1
theorem zk.does (hX:X.Sound G) {f:Nat} {args:List AV} {Q:AV→St→Prop} (h:zk X f args σ Q)(hs:fD G μ σ w) {aX:Array Value} (hr:aQ μ w args aX.toList) :
 Does X.P f aX w fun e w'=>∃r σ',Q r σ'∧After G μ σ w r σ' e w':=by
 obtain⟨n,⟨r,σ'⟩,h1,h2⟩:=h
 exact(fn_ok hX n f args σ r σ' h1 μ w aX hs hr).mono fun e w' ha=>⟨r,σ',h2,ha⟩
theorem Does.calls {P:Program} {f:Nat} {aX:Array Value} {R:Ending→World→Prop} (h:Does P f aX w R)(he:Enters P f):Calls P f aX w R:=by
 rcases h with ⟨_,h⟩ | ⟨v,w',h1,_⟩
 ·exact h
 ·rw [he aX w] at h1;cases h1
theorem zk.calls (hX:X.Sound G) {f:Nat} {args:List AV} {Q:AV→St→Prop} (h:zk X f args σ Q)(he:Enters X.P f)(hs:fD G μ σ w) {aX:Array Value} (hr:aQ μ w args aX.toList) :
 Calls X.P f aX w fun e w'=>∃r σ',Q r σ'∧After G μ σ w r σ' e w':=(h.does hX hs hr).calls he
end
end Go.dD
