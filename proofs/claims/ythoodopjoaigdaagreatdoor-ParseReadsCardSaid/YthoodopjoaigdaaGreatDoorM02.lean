/- Texts of this claim, joined: Abs3, Abs13, Abs14, Abs15, Abs16, Abs17, Abs18, Abs19. -/
import Derived.Test.YthoodopjoaigdaaGreatDoorM01
import Derived.LoopN
import Derived.Scope
import Derived.Orders
import Derived.Defers
set_option linter.unusedVariables false
set_option linter.unusedSimpArgs false
namespace Go.bP
def Ex {α:Type} (g:Nat→Option α)(Q:α→Prop):Prop:=∃n r,g n=some r∧Q r
def Run.le (r r':Run):Prop:=∀f args σ x,r f args σ=some x→r' f args σ=some x
theorem GZ {X:Ctx} {r r':Run} (h:r.le r') {ρ:dI→AV} {op:eH} {σ:St} {x:AV×St} (hx:g_ X r ρ op σ=some x):g_ X r' ρ op σ=some x:=by
 cases op with
 | call f args=>
   simp only [g_] at hx ⊢
   split at hx
   ·exact h _ _ _ _ hx
   ·simp at hx
 | inv y m args=>
   simp only [g_] at hx ⊢
   split at hx
   ·split at hx
    ·exact h _ _ _ _ hx
    ·simp at hx
   ·simp at hx
 | _=>exact hx
theorem vN {X:Ctx} {r r':Run} (h:r.le r') {e:Env} {a:AI} {σ:St} {x:AV×St} (hx:fK X r e a σ=some x):fK X r' e a σ=some x:=by
 unfold fK at *
 cases hg:a.gd with
 | none=>rw [hg] at hx;exact GZ h hx
 | some g=>
   rw [hg] at hx
   simp only at hx ⊢
   cases hw:fE e (some g) with
   | none=>rw [hw] at hx;simp at hx
   | some c=>
     rw [hw] at hx
     simp only at hx ⊢
     by_cases hp:a.op.pure=true
     ·simpa only [hp,if_true] using hx
     ·simp only [hp,if_false,Bool.false_eq_true] at hx ⊢
      by_cases hc:c=true
      ·simp only [hc,if_true] at hx ⊢
       split at hx
       ·rename_i hall;rw [if_pos hall];exact GZ h hx
       ·simp at hx
      ·simpa only [hc,if_false,Bool.false_eq_true] using hx
theorem EN {X:Ctx} {r r':Run} (h:r.le r'):∀{ops:List AI} {e:Env} {σ:St} {x:Env×St},tq X r ops e σ=some x→tq X r' ops e σ=some x
 | [],_,_,_,hx=>hx
 | a :: ops,e,σ,x,hx=>by
   simp only [tq] at hx ⊢
   cases hs:fK X r e a σ with
   | none=>rw [hs] at hx;simp at hx
   | some y=>rw [hs] at hx;rw [vN h hs];exact EN h hx
theorem EO {X:Ctx} {r r':Run} (h:r.le r'):∀{ops:List (AI×List AI)} {e:Env} {σ:St} {x:Env×St},xC X r ops e σ=some x→xC X r' ops e σ=some x
 | [],_,_,_,hx=>hx
 | (a,ag) :: ops,e,σ,x,hx=>by
   simp only [xC] at hx ⊢
   cases hs:fK X r e a σ with
   | none=>rw [hs] at hx;simp at hx
   | some y=>
     rw [hs] at hx;rw [vN h hs]
     simp only at hx ⊢
     split at hx
     ·rename_i hall;rw [if_pos hall];exact EO h hx
     ·simp at hx
theorem vO {live:List Nat} {b b':Env→St→Option (Out×Env×St)} (h:∀e σ x,b e σ=some x→b' e σ=some x) :
 ∀ {n m:Nat} {e:Env} {σ:St} {x:Out×Env×St},n≤m→nS live b n e σ=some x→nS live b' m e σ=some x
 | 0,_,_,_,_,_,hx=>by simp [nS] at hx
 | n+1,0,_,_,_,hn,_=>by omega
 | n+1,m+1,e,σ,x,hn,hx=>by
   simp only [nS] at hx ⊢
   cases hb:b (clear live e) σ with
   | none=>rw [hb] at hx;simp at hx
   | some y=>
     rw [hb] at hx;rw [h _ _ _ hb]
     obtain⟨o,e',σ'⟩:=y
     cases o with
     | normal=>exact vO h (by omega) hx
     | exit id=>exact hx
     | ret=>exact hx
theorem mM {X:Ctx} {r r':Run} (h:r.le r') {n m:Nat} (hn:n≤m):∀{c:AC} {e:Env} {σ:St} {x:Out×Env×St},bF X r n c e σ=some x→bF X r' m c e σ=some x:=by
 intro c
 induction c with
 | skip=>intro e σ x hx;exact hx
 | exit id=>intro e σ x hx;exact hx
 | ret=>intro e σ x hx;exact hx
 | reg ops=>
   intro e σ x hx
   simp only [bF] at hx ⊢
   cases hs:tq X r ops e σ with
   | none=>rw [hs] at hx;simp at hx
   | some y=>rw [hs] at hx;rw [EN h hs];exact hx
 | jm ops=>
   intro e σ x hx
   simp only [bF] at hx ⊢
   cases hs:xC X r ops e σ with
   | none=>rw [hs] at hx;simp at hx
   | some y=>rw [hs] at hx;rw [EO h hs];exact hx
 | seq a b iha ihb=>
   intro e σ x hx
   simp only [bF] at hx ⊢
   cases hs:bF X r n a e σ with
   | none=>rw [hs] at hx;simp at hx
   | some y=>
     rw [hs] at hx;rw [iha hs]
     obtain⟨o,e',σ'⟩:=y
     cases o with
     | normal=>exact ihb hx
     | exit id=>exact hx
     | ret=>exact hx
 | cond y a b iha ihb=>
   intro e σ x hx
   simp only [bF] at hx ⊢
   split at hx <;> first | exact iha hx | exact ihb hx | simp at hx
 | blk id c ih=>
   intro e σ x hx
   simp only [bF] at hx ⊢
   cases hs:bF X r n c e σ with
   | none=>rw [hs] at hx;simp at hx
   | some y=>rw [hs] at hx;rw [ih hs];exact hx
 | loop live c ih=>
   intro e σ x hx
   simp only [bF] at hx ⊢
   exact vO (fun _ _ _ hb=>ih hb) hn hx
 | cut live c ih=>
   intro e σ x hx
   simp only [bF] at hx ⊢
   exact ih hx
theorem G5 (X:Ctx):∀n,(aFn X n).le (aFn X (n+1))
 | 0=>fun _ _ _ _ hx=>by simp [aFn] at hx
 | n+1=>fun f args σ x hx=>by
   rw [aFn] at hx ⊢
   cases hp:X.iE f with
   | some g=>rw [hp] at hx;exact hx
   | none=>
     rw [hp] at hx
     simp only at hx ⊢
     cases hf:X.fns f with
     | none=>rw [hf] at hx;simp at hx
     | some F=>
       rw [hf] at hx
       simp only at hx ⊢
       split at hx
       ·rename_i hl
        rw [if_pos hl]
        cases hc:bF X (aFn X n) n F.code (gW 0 args) σ with
        | none=>rw [hc] at hx;simp at hx
        | some y=>rw [hc] at hx;rw [mM (G5 X n) (Nat.le_succ n) hc];exact hx
       ·simp at hx
theorem lF (X:Ctx) {n m:Nat} (h:n≤m):(aFn X n).le (aFn X m):=by
 induction h with
 | refl=>exact fun _ _ _ _ h=>h
 | step _ ih=>exact fun f args σ x hx=>G5 X _ _ _ _ _ (ih _ _ _ _ hx)
def Aw (X:Ctx)(f:Nat)(args:List AV)(σ:St)(Q:AV→St→Prop):Prop:=Ex (fun n=>aFn X n f args σ) fun r=>Q r.1 r.2
def EvC (X:Ctx)(c:AC)(e:Env)(σ:St)(Q:Out→Env→St→Prop):Prop:=Ex (fun n=>bF X (aFn X n) n c e σ) fun r=>Q r.1 r.2.1 r.2.2
def EvL (X:Ctx)(live:List Nat)(c:AC)(e:Env)(σ:St)(Q:Out→Env→St→Prop):Prop:=Ex (fun n=>nS live (bF X (aFn X n) n c) n e σ) fun r=>Q r.1 r.2.1 r.2.2
def Za (X:Ctx)(ops:List AI)(e:Env)(σ:St)(Q:Env→St→Prop):Prop:=Ex (fun n=>tq X (aFn X n) ops e σ) fun r=>Q r.1 r.2
def Zb (X:Ctx)(ops:List (AI×List AI))(e:Env)(σ:St)(Q:Env→St→Prop):Prop:=Ex (fun n=>xC X (aFn X n) ops e σ) fun r=>Q r.1 r.2
def EvS (X:Ctx)(e:Env)(a:AI)(σ:St)(Q:AV→St→Prop):Prop:=Ex (fun n=>fK X (aFn X n) e a σ) fun r=>Q r.1 r.2
def opt {α:Type} (o:Option α)(Q:α→Prop):Prop:=∃r,o=some r∧Q r
theorem h_ {α:Type} (a:α)(Q:α→Prop):opt (some a) Q↔Q a:=⟨fun⟨_,h,q⟩=>(by cases h;exact q),fun q=>⟨a,rfl,q⟩⟩
theorem gB {α:Type} (Q:α→Prop):opt none Q↔False:=⟨fun⟨_,h,_⟩=>(by cases h),False.elim⟩
theorem dV {α β:Type} (f:α→β)(o:Option α)(Q:β→Prop):opt (o.map f) Q↔opt o fun a=>Q (f a):=by
 cases o <;> simp [h_,gB]
theorem O7 {α β:Type} (f:α→Option β)(o:Option α)(Q:β→Prop):opt (o.bind f) Q↔opt o fun a=>opt (f a) Q:=by
 cases o <;> simp [h_,gB]
theorem dU {α:Type} (o:Option α)(Q:α→Prop):Ex (fun _=>o) Q↔opt o Q:=⟨fun⟨_,r,h,q⟩=>⟨r,h,q⟩,fun⟨r,h,q⟩=>⟨0,r,h,q⟩⟩
section
variable {X:Ctx} {e:Env} {σ:St} {Q:Out→Env→St→Prop}
theorem G6:EvC X .skip e σ Q↔Q .normal e σ:=by simp [EvC,bF,dU,h_]
theorem G7 {id:Nat} :EvC X (.exit id) e σ Q↔Q (.exit id) e σ:=by simp [EvC,bF,dU,h_]
theorem KP:EvC X .ret e σ Q↔Q .ret e σ:=by simp [EvC,bF,dU,h_]
theorem KQ {ops:List AI} :EvC X (.reg ops) e σ Q↔Za X ops e σ fun e' σ'=>Q .normal e' σ':=by
 constructor
 ·rintro ⟨n,r,h,q⟩
  try dsimp only at h
  simp only [bF,Option.map_eq_some_iff] at h
  obtain⟨y,hy,rfl⟩:=h
  exact⟨n,y,hy,q⟩
 ·rintro ⟨n,r,h,q⟩
  try dsimp only at h
  exact⟨n,_,by simp only [bF];rw [h];rfl,q⟩
theorem KR {ops:List (AI×List AI)} :EvC X (.jm ops) e σ Q↔Zb X ops e σ fun e' σ'=>Q .normal e' σ':=by
 constructor
 ·rintro ⟨n,r,h,q⟩
  try dsimp only at h
  simp only [bF,Option.map_eq_some_iff] at h
  obtain⟨y,hy,rfl⟩:=h
  exact⟨n,y,hy,q⟩
 ·rintro ⟨n,r,h,q⟩
  try dsimp only at h
  exact⟨n,_,by simp only [bF];rw [h];rfl,q⟩
def Out.next (K:Env→St→Prop)(Q:Out→Env→St→Prop):Out→Env→St→Prop
 | .normal,e,σ=>K e σ
 | o,e,σ=>Q o e σ
theorem Out.qF (K:Env→St→Prop)(Q:Out→Env→St→Prop)(e:Env)(σ:St):Out.next K Q .normal e σ=K e σ:=rfl
theorem Out.xI (K:Env→St→Prop)(Q:Out→Env→St→Prop)(e:Env)(σ:St)(id:Nat):Out.next K Q (.exit id) e σ=Q (.exit id) e σ:=rfl
theorem Out.AA (K:Env→St→Prop)(Q:Out→Env→St→Prop)(e:Env)(σ:St):Out.next K Q .ret e σ=Q .ret e σ:=rfl
theorem KU {a b:AC} :EvC X (.seq a b) e σ Q↔EvC X a e σ (Out.next (fun e' σ'=>EvC X b e' σ' Q) Q):=by
 constructor
 ·rintro ⟨n,r,h,q⟩
  try dsimp only at h
  simp only [bF] at h
  cases hs:bF X (aFn X n) n a e σ with
  | none=>rw [hs] at h;simp at h
  | some y=>
    rw [hs] at h
    obtain⟨o,e',σ'⟩:=y
    refine⟨n,_,hs,?_⟩
    cases o with
    | normal=>exact⟨n,r,h,q⟩
    | exit id=>simp only [Option.some.injEq] at h;subst h;exact q
    | ret=>simp only [Option.some.injEq] at h;subst h;exact q
 ·rintro ⟨n,⟨o,e',σ'⟩,h,q⟩
  try dsimp only at h
  cases o with
  | normal=>
    obtain⟨m,r,hm,q'⟩:=q
    try dsimp only at hm
    refine⟨max n m,r,?_,q'⟩
    simp only [bF]
    rw [mM (lF X (Nat.le_max_left n m)) (Nat.le_max_left n m) h]
    exact mM (lF X (Nat.le_max_right n m)) (Nat.le_max_right n m) hm
  | exit id=>exact⟨n,_,by simp only [bF];rw [h],q⟩
  | ret=>exact⟨n,_,by simp only [bF];rw [h],q⟩
def EP (v:AV)(A B:Prop):Prop:=match v with | .b true=>A | .b false=>B | _=>False
theorem MP {A B:Prop} :EP (.b true) A B↔A:=Iff.rfl
theorem JA {A B:Prop} :EP (.b false) A B↔B:=Iff.rfl
theorem W9 {t:Bool} {A B:Prop} :EP (.b t) A B↔(t=true→A)∧(t=false→B):=by cases t <;> simp [EP]
theorem G8 {x:dI} {a b:AC} :EvC X (.cond x a b) e σ Q↔EP (x.ev e) (EvC X a e σ Q) (EvC X b e σ Q):=by
 cases hx:x.ev e with
 | b t=>cases t <;> simp [EvC,bF,hx,EP]
 | _=>simp only [EvC,bF,hx,dU,gB,EP]
def Out.DT (id:Nat)(Q:Out→Env→St→Prop):Out→Env→St→Prop
 | .exit j,e,σ=>if j=id then Q .normal e σ else Q (.exit j) e σ
 | o,e,σ=>Q o e σ
theorem Out.vP (id:Nat)(Q:Out→Env→St→Prop)(e:Env)(σ:St):Out.DT id Q .normal e σ=Q .normal e σ:=rfl
theorem Out.AB (id j:Nat)(Q:Out→Env→St→Prop)(e:Env)(σ:St):Out.DT id Q (.exit j) e σ=if j=id then Q .normal e σ else Q (.exit j) e σ:=rfl
theorem Out.DU (id:Nat)(Q:Out→Env→St→Prop)(e:Env)(σ:St):Out.DT id Q .ret e σ=Q .ret e σ:=rfl
theorem KW {id:Nat} {c:AC} :EvC X (.blk id c) e σ Q↔EvC X c e σ (Out.DT id Q):=by
 constructor
 ·rintro ⟨n,r,h,q⟩
  try dsimp only at h
  simp only [bF] at h
  cases hs:bF X (aFn X n) n c e σ with
  | none=>rw [hs] at h;simp at h
  | some y=>
    rw [hs] at h
    obtain⟨o,e',σ'⟩:=y
    refine⟨n,_,hs,?_⟩
    cases o with
    | exit j=>
      simp only [Option.some.injEq] at h;subst h
      simp only [Out.DT]
      by_cases hj:j=id <;> simpa [hj] using q
    | normal=>simp only [Option.some.injEq] at h;subst h;exact q
    | ret=>simp only [Option.some.injEq] at h;subst h;exact q
 ·rintro ⟨n,⟨o,e',σ'⟩,h,q⟩
  try dsimp only at h
  cases o with
  | exit j=>
    refine⟨n,_,by simp only [bF];rw [h],?_⟩
    simp only [Out.DT] at q
    by_cases hj:j=id <;> simpa [hj] using q
  | normal=>exact⟨n,_,by simp only [bF];rw [h],q⟩
  | ret=>exact⟨n,_,by simp only [bF];rw [h],q⟩
theorem KX {live:List Nat} {c:AC} :EvC X (.cut live c) e σ Q↔EvC X c (clear live e) σ Q:=Iff.rfl
theorem G9 {live:List Nat} {c:AC} :EvC X (.loop live c) e σ Q↔EvL X live c e σ Q:=Iff.rfl
theorem qG {live:List Nat} {c:AC} :EvL X live c e σ Q↔EvC X c (clear live e) σ (Out.next (fun e' σ'=>EvL X live c e' σ' Q) Q):=by
 constructor
 ·rintro ⟨n,r,h,q⟩
  try dsimp only at h
  cases n with
  | zero=>simp [nS] at h
  | succ n=>
    simp only [nS] at h
    cases hs:bF X (aFn X (n+1)) (n+1) c (clear live e) σ with
    | none=>rw [hs] at h;simp at h
    | some y=>
      rw [hs] at h
      obtain⟨o,e',σ'⟩:=y
      refine⟨n+1,_,hs,?_⟩
      cases o with
      | normal=>exact⟨n+1,r,vO (fun _ _ _ h=>h) (Nat.le_succ n) h,q⟩
      | exit id=>simp only [Option.some.injEq] at h;subst h;exact q
      | ret=>simp only [Option.some.injEq] at h;subst h;exact q
 ·rintro ⟨n,⟨o,e',σ'⟩,h,q⟩
  try dsimp only at h
  cases o with
  | normal=>
    obtain⟨m,r,hm,q'⟩:=q
    try dsimp only at hm
    refine⟨max n m+1,r,?_,q'⟩
    simp only [nS]
    rw [mM (lF X (Nat.le_trans (Nat.le_max_left n m) (Nat.le_succ _))) (Nat.le_trans (Nat.le_max_left n m) (Nat.le_succ _)) h]
    exact vO (fun _ _ _ hb=>mM (lF X (Nat.le_trans (Nat.le_max_right n m) (Nat.le_succ _))) (Nat.le_trans (Nat.le_max_right n m) (Nat.le_succ _)) hb) (Nat.le_max_right n m) hm
  | exit id=>
    refine⟨n+1,_,?_,q⟩
    simp only [nS]
    rw [mM (lF X (Nat.le_succ n)) (Nat.le_succ n) h]
  | ret=>
    refine⟨n+1,_,?_,q⟩
    simp only [nS]
    rw [mM (lF X (Nat.le_succ n)) (Nat.le_succ n) h]
end
section
variable {X:Ctx} {e:Env} {σ:St}
theorem KY {Q:Env→St→Prop} :Za X [] e σ Q↔Q e σ:=by simp [Za,tq,dU,h_]
theorem G_ {a:AI} {r:List AI} {Q:Env→St→Prop} :Za X (a :: r) e σ Q↔EvS X e a σ fun v σ'=>Za X r (put a.d v e) σ' Q:=by
 constructor
 ·rintro ⟨n,x,h,q⟩
  try dsimp only at h
  simp only [tq] at h
  cases hs:fK X (aFn X n) e a σ with
  | none=>rw [hs] at h;simp at h
  | some y=>rw [hs] at h;exact⟨n,y,hs,n,x,h,q⟩
 ·rintro ⟨n,y,hs,m,x,h,q⟩
  try dsimp only at h hs
  refine⟨max n m,x,?_,q⟩
  simp only [tq]
  rw [vN (lF X (Nat.le_max_left n m)) hs]
  exact EN (lF X (Nat.le_max_right n m)) h
theorem KZ {Q:Env→St→Prop} :Zb X [] e σ Q↔Q e σ:=by simp [Zb,xC,dU,h_]
theorem He {a:AI} {ag:List AI} {r:List (AI×List AI)} {Q:Env→St→Prop} :
 Zb X ((a,ag) :: r) e σ Q↔EvS X e a σ fun v σ'=>ag.all (uz X e σ')=true∧Zb X r (put a.d v e) σ' Q:=by
 constructor
 ·rintro ⟨n,x,h,q⟩
  try dsimp only at h
  simp only [xC] at h
  cases hs:fK X (aFn X n) e a σ with
  | none=>rw [hs] at h;simp at h
  | some y=>
    rw [hs] at h
    simp only at h
    split at h
    ·rename_i hall;exact⟨n,y,hs,hall,n,x,h,q⟩
    ·simp at h
 ·rintro ⟨n,y,hs,hall,m,x,h,q⟩
  try dsimp only at h hs
  refine⟨max n m,x,?_,q⟩
  simp only [xC]
  rw [vN (lF X (Nat.le_max_left n m)) hs]
  simp only [hall,if_true]
  exact EO (lF X (Nat.le_max_right n m)) h
variable {Q:AV→St→Prop} {d:Option Nat}
def vT (X:Ctx)(f:AV)(args:List AV)(σ:St)(Q:AV→St→Prop):Prop:=match f with | .fn (.func k) first cap=>Aw X k (first ++ args ++ cap) σ Q | _=>False
theorem O8 {k:Nat} {first cap args:List AV} :vT X (.fn (.func k) first cap) args σ Q↔Aw X k (first ++ args ++ cap) σ Q:=Iff.rfl
theorem O9 {f:dI} {args:List dI} :EvS X e ⟨d,none,.call f args⟩ σ Q↔vT X (f.ev e) (args.map (dI.ev e)) σ Q:=by
 cases hf:f.ev e with
 | fn k a c=>cases k <;> simp [EvS,fK,g_,hf,Aw,dU,vT,gB]
 | _=>simp only [EvS,fK,g_,hf,dU,gB,vT]
def invV (X:Ctx)(x:AV)(m:String)(args:List AV)(σ:St)(Q:AV→St→Prop):Prop:=match x with | .ic t v=>opt (X.meth t m v) (fun k=>Aw X k.1 (k.2 :: args) σ Q) | _=>False
theorem TY {t:Nat} {v:AV} {m:String} {args:List AV} :invV X (.ic t v) m args σ Q↔opt (X.meth t m v) (fun k=>Aw X k.1 (k.2 :: args) σ Q):=Iff.rfl
theorem T_ {x:dI} {m:String} {args:List dI} :EvS X e ⟨d,none,.inv x m args⟩ σ Q↔invV X (x.ev e) m (args.map (dI.ev e)) σ Q:=by
 cases hf:x.ev e with
 | ic t v=>cases hm:X.meth t m v <;> simp [EvS,fK,g_,hf,hm,Aw,dU,invV,gB,h_]
 | _=>simp only [EvS,fK,g_,hf,dU,gB,invV]
theorem W_ {op:eH} (h:(match op with | .call _ _ | .inv _ _ _=>false | _=>true)=true):EvS X e ⟨d,none,op⟩ σ Q↔opt (jh X.P (dI.ev e) op σ) fun r=>Q r.1 r.2:=by
 cases op <;> first | (simp at h;done) | simp only [EvS,fK,g_,dU]
theorem O_ {op:eH} {g:Nat×Bool} (h:op.pure=true):EvS X e ⟨d,some g,op⟩ σ Q↔opt (fE e (some g)) fun c=>
 opt (jP X.P c e op σ) fun v=>Q v σ:=by
 cases hw:fE e (some g) with
 | none=>simp [EvS,fK,hw,dU,gB]
 | some c=>simp only [EvS,fK,hw,h,if_true,dU,h_,dV]
def VO (c:Bool)(A B:Prop):Prop:=if c then A else B
theorem Pg {A B:Prop} :VO true A B↔A:=Iff.rfl
theorem MQ {A B:Prop} :VO false A B↔B:=Iff.rfl
theorem Zy {t:Bool} {A B:Prop} :VO t A B↔(t=true→A)∧(t=false→B):=by cases t <;> simp [VO]
def AL (X:Ctx)(ρ:dI→AV)(op:eH)(σ:St)(Q:AV→St→Prop):Prop:=Ex (fun n=>g_ X (aFn X n) ρ op σ) fun r=>Q r.1 r.2
theorem K_ {op:eH} {g:Nat×Bool} (h:op.pure=false):EvS X e ⟨d,some g,op⟩ σ Q↔opt (fE e (some g)) fun c=>
 VO c (op.cZ.all (fun o=>(o.ev e).cnd)=true∧AL X (fun o=>(o.ev e).val) op σ Q) (Q (.tu []) σ):=by
 cases hw:fE e (some g) with
 | none=>simp [EvS,fK,hw,dU,gB]
 | some c=>
   simp only [EvS,fK,hw,h,h_,VO,AL]
   cases c with
   | false=>simp [dU,h_]
   | true=>
     by_cases hc:op.cZ.all (fun o=>(o.ev e).cnd)=true
     ·simp [hc]
     ·simp [hc,dU,gB]
theorem DV {ρ:dI→AV} {f:dI} {args:List dI} :AL X ρ (.call f args) σ Q↔vT X (ρ f) (args.map ρ) σ Q:=by
 cases hf:ρ f with
 | fn k a c=>cases k <;> simp [AL,g_,hf,Aw,dU,vT,gB]
 | _=>simp only [AL,g_,hf,dU,gB,vT]
theorem Hf {ρ:dI→AV} {x:dI} {m:String} {args:List dI} :AL X ρ (.inv x m args) σ Q↔invV X (ρ x) m (args.map ρ) σ Q:=by
 cases hf:ρ x with
 | ic t v=>cases hm:X.meth t m v <;> simp [AL,g_,hf,hm,Aw,dU,invV,gB,h_]
 | _=>simp only [AL,g_,hf,dU,gB,invV]
theorem dw {ρ:dI→AV} {op:eH} (h:(match op with | .call _ _ | .inv _ _ _=>false | _=>true)=true):AL X ρ op σ Q↔opt (jh X.P ρ op σ) fun r=>Q r.1 r.2:=by
 cases op <;> first | (simp at h;done) | simp only [AL,g_,dU]
def Ph:Out→Bool
 | .exit _=>false
 | _=>true
theorem Xa {f:Nat} {F:AF} {args:List AV} (hp:X.iE f=none)(hf:X.fns f=some F)(hl:args.length≤F.nt) :
 Aw X f args σ Q↔EvC X F.code (gW 0 args) σ fun o e σ'=>Ph o=true∧opt ((tC X.P F.res e σ').map fun v=>norm σ v σ') fun r=>Q r.1 r.2:=by
 constructor
 ·rintro ⟨n,x,h,q⟩
  try dsimp only at h
  cases n with
  | zero=>simp [aFn] at h
  | succ n=>
    simp only [aFn,hp,hf,hl,if_true] at h
    cases hc:bF X (aFn X n) n F.code (gW 0 args) σ with
    | none=>rw [hc] at h;simp at h
    | some y=>
      rw [hc] at h
      obtain⟨o,e',σ'⟩:=y
      refine⟨n,_,hc,?_⟩
      cases o with
      | exit j=>simp at h
      | normal=>exact⟨rfl,x,h,q⟩
      | ret=>exact⟨rfl,x,h,q⟩
 ·rintro ⟨n,⟨o,e',σ'⟩,hc,ho,x,hv,q⟩
  try dsimp only at hc
  refine⟨n+1,x,?_,q⟩
  simp only [aFn,hp,hf,hl,if_true,hc]
  cases o with
  | exit j=>simp [Ph] at ho
  | normal=>exact hv
  | ret=>exact hv
theorem jq {f:Nat} {g:List AV→St→Option (AV×St)} {args:List AV} (hp:X.iE f=some g):Aw X f args σ Q↔opt (g args σ) fun r=>Q r.1 r.2:=by
 constructor
 ·rintro ⟨n,x,h,q⟩
  try dsimp only at h
  cases n with
  | zero=>simp [aFn] at h
  | succ n=>simp only [aFn,hp] at h;exact⟨x,h,q⟩
 ·rintro ⟨x,h,q⟩
  exact⟨1,x,by simp only [aFn,hp];exact h,q⟩
theorem Ua {f:Nat} {args:List AV} {v:AV} {σ':St} (h:Aw X f args σ fun a s=>a=v∧s=σ'):Aw X f args σ Q↔Q v σ':=by
 obtain⟨n,x,hx,h1,h2⟩:=h
 constructor
 ·rintro ⟨m,y,hy,q⟩
  try dsimp only at hx hy
  have a:=lF X (Nat.le_max_left n m) _ _ _ _ hx
  have b:=lF X (Nat.le_max_right n m) _ _ _ _ hy
  rw [a] at b
  obtain rfl:=Option.some.inj b
  exact h1▸h2▸q
 ·intro q
  exact⟨n,x,hx,by show Q x.1 x.2;rw [h1,h2];exact q⟩
theorem AP {f:Nat} {args:List AV} {Q':AV→St→Prop} (h:Aw X f args σ Q)(hq:∀v s,Q v s→Q' v s):Aw X f args σ Q':=by
 obtain⟨n,x,hx,q⟩:=h
 exact⟨n,x,hx,hq _ _ q⟩
end
theorem vU {X:Ctx} {c:AC} {e:Env} {σ:St} {Q Q':Out→Env→St→Prop} (h:EvC X c e σ Q)(hq:∀o e s,Q o e s→Q' o e s):EvC X c e σ Q':=by
 obtain⟨n,x,hx,q⟩:=h
 exact⟨n,x,hx,hq _ _ _ q⟩
theorem Pj {X:Ctx} {live:List Nat} {c:AC} {e:Env} {σ:St} {Q Q':Out→Env→St→Prop} (h:EvL X live c e σ Q)(hq:∀o e s,Q o e s→Q' o e s):EvL X live c e σ Q':=by
 obtain⟨n,x,hx,q⟩:=h
 exact⟨n,x,hx,hq _ _ _ q⟩
section
variable {X:Ctx}
@[congr] theorem Zc {l:List Nat} {e e':Env} {a:AC} {σ σ':St} {Q:Out→Env→St→Prop} (he:e=e') (h:σ=σ'):EvL X l a e σ Q↔EvL X l a e' σ' Q:=by rw [h,he]
@[congr] theorem Zd {f:Nat} {a a':List AV} {σ σ':St} {Q:AV→St→Prop} (ha:a=a') (h:σ=σ'):Aw X f a σ Q↔Aw X f a' σ' Q:=by rw [h,ha]
@[congr] theorem VP {f f':AV} {a a':List AV} {σ σ':St} {Q:AV→St→Prop} (hf:f=f') (ha:a=a') (h:σ=σ'):vT X f a σ Q↔vT X f' a' σ' Q:=by rw [h,ha,hf]
@[congr] theorem Xb {f f':AV} {m:String} {a a':List AV} {σ σ':St} {Q:AV→St→Prop} (hf:f=f') (ha:a=a') (h:σ=σ'):invV X f m a σ Q↔invV X f' m a' σ' Q:=by rw [h,ha,hf]
@[congr] theorem Ze {α:Type} {o o':Option α} {Q:α→Prop} (h:o=o'):opt o Q↔opt o' Q:=by rw [h]
@[congr] theorem Xc {v v':AV} {A B:Prop} (h:v=v'):EP v A B↔EP v' A B:=by rw [h]
@[congr] theorem Zf {v v':Bool} {A B:Prop} (h:v=v'):VO v A B↔VO v' A B:=by rw [h]
end
attribute [simp ↓] G6 G7 KP KQ KR KU G8 KW G9 KX KY G_ KZ He O9 T_ W_ O_ K_ DV Hf dw
attribute [simp ↓] Out.qF Out.xI Out.AA Out.vP Out.AB Out.DU h_ gB dV O7
attribute [simp] MP JA W9 Pg MQ Zy O8 TY Ph
attribute [simp] get put dI.ev dI.isC gW eH.cZ fE AV.val AV.cnd qp jP merge Gx Ah jh oQ MC WU lC Zp MF OO MG Zq tC qw Ai norm AV.flat AV.kW clear
end Go.bP
namespace Go.bP
def vW (ops:Array Oper):Option (Nat×Bool)→Option (Nat×Bool)→Bool
 | none,none=>true
 | some (j,w),some (n,w')=>w == w' && ((ops[j]?).bind (·.dst)) == some n
 | _,_=>false
def La (N:Nat):Option Nat→Bool
 | none=>true
 | some d=>decide (d<N)
def uH (P:Program)(G N:Nat)(ops:Array Oper)(o:Oper)(a:AI):Bool:=o.dst == a.d && La N a.d && vW ops o.guard a.gd && qh P G o.op a.op
def AQ (P:Program)(G N:Nat)(ops:Array Oper):List Nat→List AI→Bool
 | [],[]=>true
 | i :: is,a :: xs=>(match ops[i]? with | some o=>uH P G N ops o a | none=>false) && AQ P G N ops is xs
 | _,_=>false
def Enters (P:Program)(f:Nat):Prop:=∀(args:Array Value) (w:World),(callFunc f args).run P w= .ok (.enter f args) w
theorem ig {P:Program} {f:Nat} {fn:Func} (hf:P.funcs[f]? =some fn)(hn:(fn.name == "runtime.NumGoroutine")=false)(hb:fn.body.isSome=true):Enters P f:=by
 intro args w
 obtain⟨c,hc⟩:=Option.isSome_iff_exists.1 hb
 have h1:fn.name≠"runtime.NumGoroutine" :=by simpa using hn
 simp [callFunc,hf,h1,hc]
def After (G:Nat)(μ:Mu)(σ:St)(w:World)(r:AV)(σ':St)(e:Ending)(w':World):Prop:=∃v μ',e= .returned v∧aO μ' w' r v∧Step G μ σ w μ' σ' w'
def Does (P:Program)(f:Nat)(aU:Array Value)(w:World)(R:Ending→World→Prop):Prop:=
 ((callFunc f aU).run P w= .ok (.enter f aU) w∧Calls P f aU w R)∨∃v w',(callFunc f aU).run P w= .ok (.value v) w'∧R (.returned v) w'
theorem Does.mono {P:Program} {f:Nat} {aU:Array Value} {w:World} {R R':Ending→World→Prop} (h:Does P f aU w R)(hr:∀e w',R e w'→R' e w'):Does P f aU w R':=by
 rcases h with ⟨h1,h2⟩ | ⟨v,w',h1,h2⟩
 ·exact .inl ⟨h1,h2.mono hr⟩
 ·exact .inr ⟨v,w',h1,hr _ _ h2⟩
def lQ (P:Program)(G:Nat)(run:Run):Prop:=∀f args σ r σ',run f args σ=some (r,σ')→∀μ w (aU:Array Value),gK G μ σ w→aP μ w args aU.toList→Does P f aU w (After G μ σ w r σ')
structure Ctx.Ok (X:Ctx)(G:Nat):Prop where
 meth:∀t m a k,X.meth t m a=some k→∀(μ:Mu) (v:Value) (w:World),aO μ w a v→∃v',(method (X.P.types.size+Made.depth) t v m).run X.P w= .ok (k.1,v') w∧aO μ w k.2 v'
 iE:∀f g,X.iE f=some g→∀args σ r σ',g args σ=some (r,σ')→∀μ w (aU:Array Value),gK G μ σ w→aP μ w args aU.toList→Does X.P f aU w (After G μ σ w r σ')
structure fH (G N:Nat)(μ:Mu)(w:World)(e:Env)(tmps:Array Value):Prop where
 size:tmps.size=N
 rel:∀n,aO μ w (get e n) (tmps.getD n undef)
section
variable {X:Ctx} {G N:Nat} {μ:Mu} {σ:St} {w:World}
theorem fH.mono {μ':Mu} {w':World} {e:Env} {tmps:Array Value} (h:fH G N μ w e tmps)(hm:μ.le μ')(hw:jK w w'):fH G N μ' w' e tmps:=
 ⟨h.size,fun n=>aO.mono hm hw _ _ (h.rel n)⟩
theorem fH.put {e:Env} {act:Act} {d:Option Nat} {r:AV} {v:Value} (h:fH G N μ w e act.tmps)(hd:La N d=true)(hr:aO μ w r v):fH G N μ w (bP.put d r e) (act.put d v).tmps:=by
 cases d with
 | none=>exact h
 | some d=>
   simp only [La,decide_eq_true_eq] at hd
   refine⟨by simpa [Act.put] using h.size,fun n=>?_⟩
   have hs:=h.size
   simp only [bP.put,Go.bP.get,Act.put]
   rw [Array.getD_eq_getD_getElem?,Array.getElem?_setIfInBounds]
   split
   ·rename_i he;subst he
    rw [if_pos (by omega)]
    exact hr
   ·rename_i he
    rw [←Array.getD_eq_getD_getElem?]
    exact h.rel n
theorem fH.clear {e:Env} {tmps:Array Value} (h:fH G N μ w e tmps)(l:List Nat):fH G N μ w (bP.clear l e) tmps:=by
 refine⟨h.size,fun n=>?_⟩
 have hg:get (bP.clear l e) n=get e n∨get (bP.clear l e) n= .u:=by
  unfold bP.clear
  induction l with
  | nil=>exact .inr rfl
  | cons d l ih=>
    simp only [List.map_cons,Go.bP.get]
    split
    ·rename_i he;subst he;exact .inl rfl
    ·exact ih
 rcases hg with hg | hg
 ·rw [hg];exact h.rel n
 ·rw [hg];trivial
theorem rQ (hs:gK G μ σ w) {e:Env} {act:Act} (h:fH G N μ w e act.tmps) {x:Operand} {y:dI} (hk:dD G x y=true):aO μ w (y.ev e) (act.eval x):=by
 unfold dD at hk
 split at hk
 ·simp only [beq_iff_eq] at hk;subst hk;exact h.rel _
 ·have:=AV.qm _ _ hk
  simp only [dI.ev]
  rw [←this]
  exact vw _
 ·simp only [Bool.and_eq_true,beq_iff_eq,decide_eq_true_eq] at hk
  obtain⟨rfl,hg⟩:=hk
  exact⟨_,0,hs.oV _ hg,rfl⟩
 ·simp only [beq_iff_eq] at hk;subst hk
  exact⟨#[],#[],rfl,rfl,rfl⟩
 ·cases hk
theorem Ub (hs:gK G μ σ w) {e:Env} {act:Act} (h:fH G N μ w e act.tmps)(l:List dI):pq G μ w l (dI.ev e) act.eval:=fun _ _ hk _=>rQ hs h hk
theorem Lc (hs:gK G μ σ w) {e:Env} {act:Act} (h:fH G N μ w e act.tmps)(l:List dI)(hc:∀y∈l,(y.ev e).cnd=true):pq G μ w l (fun y=>(y.ev e).val) act.eval:=
 fun _ y hk hy=>rP (rQ hs h hk) (hc y hy)
def Pm:Option Value→Option Bool
 | some (.bool b)=>some b
 | _=>none
theorem AU {ops:Array Oper} {e:Env} {act:Act} {o:Oper} {g:Option (Nat×Bool)} {c:Bool} (h:fH G N μ w e act.tmps)(hk:vW ops o.guard g=true)(hw:fE e g=some c) :
 Region.wanted o (yielded ops act.tmps)=c:=by
 cases hg:o.guard with
 | none=>
   rw [hg] at hk
   cases g with
   | none=>simp only [fE,Option.some.injEq] at hw;subst hw;simp [Region.wanted,hg]
   | some g=>simp [vW] at hk
 | some jw=>
   rw [hg] at hk
   obtain⟨j,want⟩:=jw
   cases g with
   | none=>simp [vW] at hk
   | some g=>
     obtain⟨n,want'⟩:=g
     simp only [vW,Bool.and_eq_true,beq_iff_eq] at hk
     obtain⟨rfl,hd⟩:=hk
     have hrel:=h.rel n
     have hy:yielded ops act.tmps j=Pm act.tmps[n]? :=by
        simp only [yielded,hd,Option.bind_some]
        rfl
     have hget:∀b,act.tmps.getD n undef= .bool b→act.tmps[n]? =some (.bool b):=by
        intro b hb
        simp only [Array.getD] at hb
        split at hb
        ·rename_i hlt;rw [Array.getElem?_eq_getElem hlt];exact congrArg some hb
        ·cases hb
     have Xd:act.tmps.getD n undef=undef→Pm act.tmps[n]? =none:=by
        intro hu
        simp only [Array.getD] at hu
        split at hu
        ·rename_i hlt;rw [Array.getElem?_eq_getElem hlt];rw [show act.tmps[n]=undef from hu];rfl
        ·rename_i hlt;rw [Array.getElem?_eq_none (by omega)];rfl
     simp only [fE] at hw
     simp only [Region.wanted,hg,hy]
     split at hw
     ·rename_i x hx
      rw [hx] at hrel
      simp only [aO] at hrel
      rw [hget _ hrel]
      simp only [Option.some.injEq] at hw
      subst hw
      cases x <;> cases want <;> rfl
     ·rename_i c' x hx
      rw [hx] at hrel
      simp only [Option.some.injEq] at hw
      cases c' with
      | true=>
        simp only [aO,if_true] at hrel
        rw [hget _ hrel]
        subst hw
        cases x <;> cases want <;> rfl
      | false=>
        simp only [aO] at hrel
        have hr':act.tmps.getD n undef=undef:=hrel
        rw [Xd hr']
        subst hw
        cases want <;> rfl
     ·rename_i x hx' hx
      rw [hx] at hrel
      have hr':act.tmps.getD n undef=undef:=hrel
      rw [Xd hr']
      simp only [Option.some.injEq] at hw
      subst hw
      cases want <;> rfl
     ·rename_i hx
      rw [hx] at hrel
      obtain⟨a,ha,hl⟩:=hrel
      have hu:act.tmps.getD n undef=undef:=by
       rw [ha]
       simp only [aP] at hl
       have:a= #[]:=by apply Array.ext';simpa using hl
       rw [this];rfl
      rw [Xd hu]
      simp only [Option.some.injEq] at hw
      subst hw
      cases want <;> rfl
     ·cases hw
def Zz (P:Program)(ops:Array Oper)(o:Oper)(K:Act→World→Prop)(Q:Exit→Act→World→Prop)(act:Act)(w:World):Prop:=
 if Region.wanted o (yielded ops act.tmps) then o.wp P act w K Q∨(o.asks P act w∧LetsOut Q) else K (act.put o.dst undef) w
theorem Ld {P:Program} {o:Oper} {act:Act} {K:Act→World→Prop} {Q:Exit→Act→World→Prop} {r:AV} {σ':St} (h:GX P G μ σ w (execOp act.eval o) r σ')
 (hK:∀v w' μ',aO μ' w' r v→Step G μ σ w μ' σ' w'→K (act.put o.dst v) w'):o.wp P act w K Q:=by
 obtain⟨n,w',μ',v,h1,h2,h3,h4⟩:=h
 unfold Oper.wp
 rw [h1]
 rcases h2 with rfl | ⟨rfl,rfl⟩
 ·exact hK _ _ _ h3 h4
 ·exact hK _ _ _ h3 h4
theorem Le {P:Program} {run:Run} (hrun:lQ P G run) {o:Oper} {act:Act} {K:Act→World→Prop} {Q:Exit→Act→World→Prop} {f:Nat} {args:List AV} {r:AV} {σ':St} {aU:Array Value}
 (hs:gK G μ σ w) (h:run f args σ=some (r,σ')) (hx:(execOp act.eval o).run P w=(callFunc f aU).run P w) (hr:aP μ w args aU.toList)
 (hK:∀v w' μ',aO μ' w' r v→Step G μ σ w μ' σ' w'→K (act.put o.dst v) w'):o.wp P act w K Q:=by
 unfold Oper.wp
 rcases hrun _ _ _ _ _ h μ w aU hs hr with ⟨h1,h2⟩ | ⟨v,w',h1,v',μ',hv,hr',hst⟩
 ·rw [hx,h1,Oper.upon_enter]
  refine h2.mono fun e w' he=>?_
  obtain⟨v,μ',rfl,hv,hst⟩:=he
  exact hK _ _ _ hv hst
 ·rw [hx,h1,Oper.upon_value]
  cases hv
  exact hK _ _ _ hr' hst
theorem DW {run:Run} (hX:X.Ok G)(hrun:lQ X.P G run) {o:Oper} {a:eH} {act:Act} {xq:dI→AV} {K:Act→World→Prop} {Q:Exit→Act→World→Prop} {r:AV} {σ':St} (hs:gK G μ σ w)(hok:qh X.P G o.op a=true)
 (hρ:pq G μ w a.cZ xq act.eval) (hn:vM xq) (h:g_ X run xq a σ=some (r,σ'))
 (hK:∀v w' μ',aO μ' w' r v→Step G μ σ w μ' σ' w'→K (act.put o.dst v) w'):o.wp X.P act w K Q:=by
 by_cases hcall:∃f args,a= .call f args
 ·obtain⟨f,args,rfl⟩:=hcall
  simp only [g_] at h
  cases hop:o.op with
  | call c=>
    rw [hop] at hok
    simp only [qh,qE] at hok
    cases hc:c.callee with
    | invoke x m=>rw [hc] at hok;simp at hok
    | builtin b=>
      rw [hc] at hok
      simp only [j_] at hok
      split at hok <;> simp_all
    | value fo=>
      rw [hc] at hok
      simp only [Bool.and_eq_true] at hok
      split at h
      ·rename_i k first cap hf
       have hfr:=hρ _ _ hok.1 (by simp [eH.cZ])
       rw [hf] at hfr
       obtain⟨ca,cc,hfv,r1,r2⟩:=hfr
       have hargs:=mJ hρ hok.2 (fun y hy=>by simp [eH.cZ,hy])
       refine Le hrun (aU:=ca ++ c.args.map act.eval ++ cc) hs h ?_ ?_ hK
       ·simp [execOp,hop,resolve,hc,hfv,Deferred.ofValue,invoke]
       ·simp only [Array.toList_append,Array.toList_map]
        exact(r1.append hargs).append r2
      ·cases h
  | _=>rw [hop] at hok;simp [qh] at hok
 by_cases hinv:∃x m args,a= .inv x m args
 ·obtain⟨x,m,args,rfl⟩:=hinv
  simp only [g_] at h
  cases hop:o.op with
  | call c=>
    rw [hop] at hok
    simp only [qh,qE] at hok
    cases hc:c.callee with
    | value fo=>rw [hc] at hok;simp at hok
    | builtin b=>
      rw [hc] at hok
      simp only [j_] at hok
      split at hok <;> simp_all
    | invoke xo m'=>
      rw [hc] at hok
      simp only [Bool.and_eq_true,beq_iff_eq] at hok
      obtain⟨⟨hx,rfl⟩,hargs⟩:=hok
      split at h
      ·rename_i t v hxv
       split at h
       ·rename_i k hk
        have hxr:=hρ _ _ hx (by simp [eH.cZ])
        rw [hxv] at hxr
        obtain⟨y,hy,hyr⟩:=hxr
        have hargs':=mJ hρ hargs (fun y hy=>by simp [eH.cZ,hy])
        obtain⟨y',hm,hyr'⟩:=hX.meth t _ _ k hk μ y w hyr
        refine Le hrun (aU:=#[y'] ++ c.args.map act.eval) hs h ?_ ?_ hK
        ·have he:(#[Value.iface t y] ++ c.args.map act.eval).extract 1 (#[Value.iface t y] ++ c.args.map act.eval).size=c.args.map act.eval:=by
               apply Array.ext'
               simp only [Array.toList_extract,Array.toList_append,List.extract_eq_take_drop,Array.size_append,Array.size_map]
               simp [List.take_of_length_le]
         have h0:(#[Value.iface t y] ++ c.args.map act.eval)[0]? =some (Value.iface t y):=by rw [Array.getElem?_append];simp
         have h2:(c.args.map act.eval).extract 0 c.args.size=c.args.map act.eval:=by
               apply Array.ext'
               simp [List.take_of_length_le]
         simp [execOp,hop,resolve,hc,hy,invoke,callMethod,h0,hm,h2]
        ·simp only [Array.toList_append,Array.toList_map]
         exact⟨y',_,rfl,hyr',hargs'⟩
       ·cases h
      ·cases h
  | _=>rw [hop] at hok;simp [qh] at hok
 have h':jh X.P xq a σ=some (r,σ'):=by
  cases a <;> first | exact h | exact absurd ⟨_,_,rfl⟩ hcall | exact absurd ⟨_,_,_,rfl⟩ hinv
 exact Ld (O6 hs hok hρ hn h') hK
end
end Go.bP
namespace Go.bP
theorem Hg (e:Env):vM (dI.ev e):=by
 intro v h
 simp only [dI.ev] at h
 rw [h];rfl
theorem vX (e:Env):vM (fun y=>(y.ev e).val):=fun _ h=>h
theorem AX {P:Program} {ρ:dI→AV} {op:eH} {σ σ':St} {r:AV} (hp:op.pure=true)(h:jh P ρ op σ=some (r,σ')):σ'= σ:=by
 cases op <;> simp only [eH.pure,Bool.false_eq_true] at hp <;> simp only [jh] at h
 all_goals first
  | (rw [Option.map_eq_some_iff] at h;obtain⟨q,_,h⟩:=h;cases h;rfl)
  | (cases h;rfl)
  | (split at h <;> first | (cases h;done) | (cases h;rfl) | (rw [Option.map_eq_some_iff] at h;obtain⟨q,_,h⟩:=h;cases h;rfl))
section
variable {X:Ctx} {G N:Nat} {μ:Mu} {σ:St} {w:World} {ops:Array Oper}
theorem uI {run:Run} {ρ:dI→AV} {op:eH} (hp:op.pure=true):g_ X run ρ op σ=jh X.P ρ op σ:=by
 cases op <;> first | rfl | (simp [eH.pure] at hp)
theorem Uc {e:Env} {l:List dI} (h:(l.all fun o=>nK true (o.ev e).cnd)=true):∀y∈l,(y.ev e).cnd=true:=by
 simp only [List.all_eq_true,iq] at h
 exact h
theorem MS {o:Oper} {q a b:dI} {e:Env} {act:Act} {r:AV} (hs:gK G μ σ w)(he:fH G N μ w e act.tmps)(hok:qh X.P G o.op (.pick q a b)=true)
 (h:Ah true (q.ev e) (a.ev e) (b.ev e)=some r):GX X.P G μ σ w (execOp act.eval o) r σ:=by
 cases ho:o.op <;> rw [ho] at hok <;> simp only [qh,Bool.false_eq_true] at hok
 case pick c x y=>
  simp only [Bool.and_eq_true] at hok
  unfold Ah at h
  split at h
  ·rename_i z hz
   split at h
   ·rename_i hi
    cases h
    simp only [iq,Bool.and_eq_true,Bool.true_and] at hi
    have hq:=rP (rQ hs he hok.1.1) hi.1.1
    rw [hz] at hq
    simp only [aO] at hq
    refine⟨.value (if z then act.eval x else act.eval y),w,μ,_,?_,.inl rfl,?_,Step.refl hs⟩
    ·simp [execOp,ho,hq,asBool]
    ·simp only [aO,if_true]
     refine DN (fun ht=>rP (rQ hs he hok.1.2) (by simpa [ht] using hi.1.2)) (fun ht=>rP (rQ hs he hok.2) (by simpa [ht] using hi.2))
   ·cases h
  ·cases h
 case call c=>
  unfold qE at hok
  split at hok <;> rename_i h1 h2 <;> first | (cases h2;done) | skip
  all_goals simp_all [j_]
theorem guard_false {P:Program} {e:Env} {op:eH} {r:AV} (h:jP P false e op σ=some r):∃v,r= .cd false v:=by
 simp only [jP,Bool.false_eq_true,if_false,Option.some.injEq] at h
 exact⟨_,h.symm⟩
theorem guard_true {o:Oper} {a:eH} {e:Env} {act:Act} {r:AV} (hs:gK G μ σ w)(he:fH G N μ w e act.tmps)(hok:qh X.P G o.op a=true)(hp:a.pure=true)
 (h0:jP X.P true e a σ=some r):GX X.P G μ σ w (execOp act.eval o) r σ:=by
 have h:lT X.P e a σ=some r:=h0
 by_cases hpk:∃q x y,a= .pick q x y
 ·obtain⟨q,x,y,rfl⟩:=hpk
  exact MS hs he hok h
 have h':qp true (a.cZ.all (fun o=>nK true (o.ev e).cnd)) (jh X.P (fun o=>(o.ev e).val) a σ)=some r:=by
  cases a <;> first | exact h | exact absurd ⟨_,_,_,rfl⟩ hpk
 unfold qp at h'
 split at h'
 ·rename_i q hq
  split at h'
  ·rename_i hi
   cases h'
   obtain⟨r1,σ1⟩:=q
   have hσ:=AX hp hq
   subst hσ
   obtain⟨n,w',μ',v,h1,h2,h3,h4⟩:=O6 hs hok (Lc hs he a.cZ (Uc hi)) (vX e) hq
   exact⟨n,w',μ',v,h1,h2,by simpa [aO] using h3,h4⟩
  ·cases h'
 ·simp at h'
theorem vY {run:Run} (hX:X.Ok G)(hrun:lQ X.P G run) {o:Oper} {a:AI} {e:Env} {act:Act} {K:Act→World→Prop} {Q:Exit→Act→World→Prop} {r:AV} {σ':St} (hs:gK G μ σ w)(he:fH G N μ w e act.tmps)
 (hok:uH X.P G N ops o a=true) (h:fK X run e a σ=some (r,σ'))
 (hK:∀v w' μ',aO μ' w' r v→Step G μ σ w μ' σ' w'→K (act.put o.dst v) w'):Zz X.P ops o K Q act w:=by
 simp only [uH,Bool.and_eq_true,beq_iff_eq] at hok
 obtain⟨⟨⟨hd,hN⟩,hg⟩,hop⟩:=hok
 unfold fK at h
 unfold Zz
 split at h
 ·rename_i hgd
  rw [hgd] at hg
  rw [AU he hg (c:=true) rfl,if_pos rfl]
  exact .inl (DW hX hrun hs hop (Ub hs he _) (Hg e) h hK)
 ·rename_i g hgd
  rw [hgd] at hg
  split at h
  ·cases h
  ·rename_i c hc
   rw [AU he hg hc]
   split at h
   ·rename_i hp
    rw [Option.map_eq_some_iff] at h
    obtain⟨q,hq,h⟩:=h;cases h
    cases c with
    | true=>
      rw [if_pos rfl]
      exact .inl (Ld (guard_true hs he hop hp hq) hK)
    | false=>
      rw [if_neg (by simp)]
      obtain⟨v,rfl⟩:=guard_false hq
      exact hK _ _ _ (by simp [aO]) (Step.refl hs)
   ·cases c with
    | true=>
      rw [if_pos rfl] at h ⊢
      split at h
      ·rename_i ha
       simp only [List.all_eq_true] at ha
       exact .inl (DW hX hrun hs hop (Lc hs he _ ha) (vX e) h hK)
      ·cases h
    | false=>
      simp only [Bool.false_eq_true,if_false,Option.some.injEq,Prod.mk.injEq] at h ⊢
      obtain⟨rfl,rfl⟩:=h
      exact hK _ _ _ ⟨#[],rfl,rfl⟩ (Step.refl hs)
def tZ (ds:List Deferred)(G N:Nat)(μ:Mu)(σ:St)(w:World)(e':Env)(σ':St)(act':Act)(w':World):Prop:=
 ∃ μ',Step G μ σ w μ' σ' w'∧fH G N μ' w' e' act'.tmps∧act'.defers=ds
theorem t_ (act:Act)(d:Option Tmp)(v:Value):(act.put d v).defers=act.defers:=by cases d <;> rfl
theorem ER {ds:List Deferred} {run:Run} (hX:X.Ok G)(hrun:lQ X.P G run) {Q:Exit→Act→World→Prop} :∀(is:List Nat) (l:List AI) (e:Env) (act:Act) (μ:Mu) (σ:St) (w:World) (e':Env) (σ':St),
 AQ X.P G N ops is l=true→gK G μ σ w→fH G N μ w e act.tmps→act.defers=ds→tq X run l e σ=some (e',σ')→
 (∀act' w',tZ ds G N μ σ w e' σ' act' w'→Q .normal act' w')→wpOps X.P ops Q is act w
 | [],[],e,act,μ,σ,w,e',σ',_,hs,he,hd,h,hQ=>by
   cases h
   exact hQ _ _ ⟨μ,Step.refl hs,he,hd⟩
 | [],_ :: _,_,_,_,_,_,_,_,hk,_,_,_,_,_=>by simp [AQ] at hk
 | _ :: _,[],_,_,_,_,_,_,_,hk,_,_,_,_,_=>by simp [AQ] at hk
 | i :: is,a :: l,e,act,μ,σ,w,e',σ',hk,hs,he,hd,h,hQ=>by
   simp only [AQ,Bool.and_eq_true] at hk
   obtain⟨h1,h2⟩:=hk
   split at h1
   ·rename_i o ho
    simp only [tq] at h
    split at h
    ·rename_i v σ1 hst
     rw [wpOps]
     simp only [ho]
     refine vY (ops:=ops) hX hrun hs he h1 hst fun u w' μ' hv hstep=>?_
     have hk1:=h1
     simp only [uH,Bool.and_eq_true,beq_iff_eq] at hk1
     have he':=(he.mono hstep.ext hstep.uD)
     refine ER (ds:=ds) hX hrun is l _ _ μ' σ1 w' e' σ' h2 hstep.rJ (by rw [hk1.1.1.1];exact he'.put hk1.1.1.2 hv) (by rw [t_];exact hd) h ?_
     intro act' w'' hl
     obtain⟨EK,hs2,he2,hd2⟩:=hl
     exact hQ _ _ ⟨EK,hstep.trans hs2,he2,hd2⟩
    ·cases h
   ·cases h1
end
end Go.bP
namespace Go.bP
def dI.sl:dI→List Nat
 | .t n=>[n]
 | .c _=>[]
def AI.slots (a:AI):List Nat:=a.op.cZ.flatMap dI.sl ++ (match a.gd with | some (n,_)=>[n] | none=>[])
def eH.still:eH→Bool
 | .load _ _ | .slc _ _ _ _ | .S9 _ _ _ _ | .WS _ _=>false
 | op=>op.pure
section
variable {X:Ctx} {P:Program} {G N:Nat} {σ:St} {ops:Array Oper}
theorem DX {ρ ρ':dI→AV} {op:eH} (h:∀y∈op.cZ,ρ y=ρ' y):jh P ρ op σ=jh P ρ' op σ:=by
 have hm:∀l:List dI,(∀y∈l,ρ y=ρ' y)→l.map ρ=l.map ρ':=fun l hl=>List.map_congr_left hl
 have hp:∀l:List (Nat×dI),(∀y∈l.map (·.2),ρ y=ρ' y)→(l.map fun q=>(q.1,ρ q.2))=l.map fun q=>(q.1,ρ' q.2):=fun l hl=>
  List.map_congr_left fun q hq=>by rw [hl q.2 (List.mem_map.2 ⟨q,hq,rfl⟩)]
 cases op
 case build t ps=>simp only [jh,eH.cZ] at h ⊢;rw [hp _ h]
 case iM t n ps=>simp only [jh,eH.cZ] at h ⊢;rw [hp _ h]
 case Gt f a c=>
  simp only [jh,eH.cZ] at h ⊢
  rw [hm a fun y hy=>h y (by simp [hy]),hm c fun y hy=>h y (by simp [hy])]
 case mn mx xs=>simp only [jh,eH.cZ] at h ⊢;rw [hm _ h]
 case VN t r=>
  simp only [eH.cZ] at h
  have h2:r.map ρ=r.map ρ':=by
   cases r with
   | none=>rfl
   | some y=>simp only [Option.map_some];rw [h y (by simp)]
  simp only [jh]
  rw [h2]
 case sl3 t x l hh m=>
  simp only [eH.cZ] at h
  have h1:ρ x=ρ' x:=h x (by simp)
  have h2:l.map ρ=l.map ρ':=by
   cases l with
   | none=>rfl
   | some y=>simp only [Option.map_some];rw [h y (by simp)]
  have h3:ρ hh=ρ' hh:=h hh (by simp)
  have h4:ρ m=ρ' m:=h m (by simp)
  simp only [jh]
  rw [h1,h2,h3,h4]
 case slc t x l hh=>
  simp only [eH.cZ] at h
  have h1:ρ x=ρ' x:=h x (by simp)
  have h2:l.map ρ=l.map ρ':=by
   cases l with
   | none=>rfl
   | some y=>simp only [Option.map_some];rw [h y (by simp)]
  have h3:hh.map ρ=hh.map ρ':=by
   cases hh with
   | none=>rfl
   | some y=>simp only [Option.map_some];rw [h y (by simp)]
  simp only [jh]
  rw [h1,h2,h3]
 all_goals first
  | rfl
  | (simp only [eH.cZ,List.mem_cons,List.not_mem_nil,or_false,forall_eq_or_imp,forall_eq] at h;simp only [jh,h])
theorem yQ {run:Run} {ρ ρ':dI→AV} {op:eH} (h:∀y∈op.cZ,ρ y=ρ' y):g_ X run ρ op σ=g_ X run ρ' op σ:=by
 have hm:∀l:List dI,(∀y∈l,ρ y=ρ' y)→l.map ρ=l.map ρ':=fun l hl=>List.map_congr_left hl
 cases op
 case call f args=>simp only [g_,eH.cZ] at h ⊢;rw [h f (by simp),hm args fun y hy=>h y (by simp [hy])]
 case inv x m args=>simp only [g_,eH.cZ] at h ⊢;rw [h x (by simp),hm args fun y hy=>h y (by simp [hy])]
 all_goals exact DX (P:=X.P) (σ:=σ) h
theorem Pn {e e':Env} {y:dI} (h:∀x∈y.sl,get e x=get e' x):y.ev e=y.ev e':=by
 cases y with
 | c v=>rfl
 | t n=>exact h n (by simp [dI.sl])
theorem all_congr {l:List dI} {p q:dI→Bool} (h:∀y∈l,p y=q y):l.all p=l.all q:=by
 induction l with
 | nil=>rfl
 | cons y l ih=>simp only [List.all_cons];rw [h y (by simp),ih fun z hz=>h z (by simp [hz])]
theorem ES {c:Bool} {e e':Env} {op:eH} (h:∀y∈op.cZ,y.ev e=y.ev e'):jP P c e op σ=jP P c e' op σ:=by
 have hl:qp true (op.cZ.all (fun o=>nK true (o.ev e).cnd)) (jh P (fun o=>(o.ev e).val) op σ)=qp true (op.cZ.all (fun o=>nK true (o.ev e').cnd)) (jh P (fun o=>(o.ev e').val) op σ):=by
  rw [all_congr (q:=fun o=>nK true (o.ev e').cnd) fun y hy=>by rw [h y hy],DX (ρ':=fun o=>(o.ev e').val) fun y hy=>by rw [h y hy]]
 suffices lT P e op σ=lT P e' op σ by unfold jP;rw [this]
 by_cases hpk:∃q x y,op= .pick q x y
 ·obtain⟨q,x,y,rfl⟩:=hpk
  simp only [lT]
  rw [h q (by simp [eH.cZ]),h x (by simp [eH.cZ]),h y (by simp [eH.cZ])]
 ·cases op <;> first | exact hl | exact absurd ⟨_,_,_,rfl⟩ hpk
theorem kY {run:Run} {e e':Env} {a:AI} (h:∀x∈a.slots,get e x=get e' x):fK X run e a σ=fK X run e' a σ:=by
 have ho:∀y∈a.op.cZ,y.ev e=y.ev e':=fun y hy=>Pn fun x hx=>h x (by
  simp only [AI.slots,List.mem_append,List.mem_flatMap];exact .inl ⟨y,hy,hx⟩)
 unfold fK
 cases hg:a.gd with
 | none=>exact yQ ho
 | some g=>
   obtain⟨n,w⟩:=g
   have hw:fE e (some (n,w))=fE e' (some (n,w)):=by
    simp only [fE]
    rw [h n (by simp [AI.slots,hg])]
   simp only [hw]
   cases fE e' (some (n,w)) with
   | none=>rfl
   | some c=>
     simp only []
     rw [ES ho,all_congr (q:=fun o=>(o.ev e').cnd) fun y hy=>by rw [ho y hy],yQ (ρ':=fun o=>(o.ev e').val) fun y hy=>by rw [ho y hy]]
theorem Hl {o:Option AV} {v:AV} {σ1:St} (h:o.map (·,σ)=some (v,σ1))(σ':St):o.map (·,σ')=some (v,σ'):=by
 cases o with
 | none=>cases h
 | some q=>cases h;rfl
theorem xJ {ρ:dI→AV} {op:eH} {σ1:St} {v:AV} (hs:op.still=true)(h:jh P ρ op σ=some (v,σ1))(σ':St):jh P ρ op σ'= some (v,σ'):=by
 cases op <;> simp only [eH.still,eH.pure,Bool.false_eq_true] at hs <;> simp only [jh] at h ⊢
 all_goals first
  | exact Hl h σ'
  | (cases h;rfl)
  | (split at h <;> first | (cases h;done) | (cases h;rfl) | exact Hl h σ')
theorem uJ {op:eH} (h:op.still=true):op.pure=true:=by
 cases op <;> first | exact h | rfl
theorem MV {c ok:Bool} {q q':Option (AV×St)} (h:q.map (·.1)=q'.map (·.1)):qp c ok q=qp c ok q':=by
 cases q <;> cases q' <;> simp_all [qp]
theorem AY {ρ:dI→AV} {op:eH} (hs:op.still=true)(σ σ':St):(jh P ρ op σ).map (·.1)=(jh P ρ op σ').map (·.1):=by
 cases h:jh P ρ op σ with
 | some q=>rw [xJ hs (σ1:=q.2) (v:=q.1) h σ'];rfl
 | none=>
   cases h':jh P ρ op σ' with
   | none=>rfl
   | some q=>rw [xJ hs (σ1:=q.2) (v:=q.1) h' σ] at h;cases h
theorem ET {c:Bool} {e:Env} {op:eH} (hs:op.still=true)(σ σ':St):jP P c e op σ=jP P c e op σ':=by
 have hl:=MV (c:=true) (ok:=op.cZ.all (fun o=>nK true (o.ev e).cnd)) (AY (P:=P) (ρ:=fun o=>(o.ev e).val) hs σ σ')
 suffices lT P e op σ=lT P e op σ' by unfold jP;rw [this]
 by_cases hpk:∃q x y,op= .pick q x y
 ·obtain⟨q,x,y,rfl⟩:=hpk;rfl
 ·cases op <;> first | exact hl | exact absurd ⟨_,_,_,rfl⟩ hpk
theorem uK {run:Run} {e:Env} {a:AI} {σ1:St} {v:AV} (hp:a.op.pure=true)(h:fK X run e a σ=some (v,σ1)):σ1=σ:=by
 unfold fK at h
 split at h
 ·rw [uI hp] at h;exact AX hp h
 ·split at h
  ·cases h
  ·rw [if_pos hp,Option.map_eq_some_iff] at h
   obtain⟨q,_,h⟩:=h;cases h;rfl
theorem Ho {run:Run} {e:Env} {a:AI} {σ1:St} {v:AV} (hs:a.op.still=true)(h:fK X run e a σ=some (v,σ1))(σ':St):fK X run e a σ'= some (v,σ'):=by
 have hp:=uJ hs
 unfold fK at h ⊢
 split at h
 ·rename_i hg
  rw [uI hp] at h
  rw [uI hp]
  exact xJ hs h σ'
 ·split at h
  ·cases h
  ·rename_i c hc
   rw [if_pos hp,Option.map_eq_some_iff] at h
   obtain⟨q,hq,h⟩:=h;cases h
   simp only [hc,hp,if_true]
   rw [ET hs σ' σ,hq];rfl
end
structure DI where
 i:Nat
 a:AI
 again:List AI
 DY:List Nat
def iy (ops:Array Oper)(i:Nat):List Nat:=match ops[i]? with
 | some o=>(o.after.toList.filter (Region.binds .any)).map (·.on)
 | none=>[]
def Po (P:Program)(G N:Nat)(ops:Array Oper)(i:Nat)(a:AI):Bool:=match ops[i]? with
 | some o=>uH P G N ops o a
 | none=>false
def uni:List Nat→List Nat→List Nat
 | [],l=>l
 | j :: js,l=>uni js (if l.contains j then l else j :: l)
def VQ (done:List DI):List Nat→List Nat→List Nat
 | [],l=>l
 | j :: js,l=>VQ done js (match done.find? (·.i == j) with | some t=>uni t.DY l | none=>l)
def AZ (P:Program)(G N:Nat)(ops:Array Oper):List (AI×List AI)→List DI→List DI
 | [],done=>done.reverse
 | (a,ag) :: r,done=>match (List.range ops.size).find? (fun i=>!(done.any (·.i == i)) && Po P G N ops i a) with
   | some i=>AZ P G N ops r (⟨i,a,ag,VQ done (iy ops i) (iy ops i)⟩ :: done)
   | none=>[]
def Hq (P:Program)(G N:Nat)(ops:Array Oper)(T:List DI)(p:Nat)(t:DI):Bool:=
 Po P G N ops t.i t.a &&
 (iy ops t.i).all (fun j=>(T.take p).any (·.i == j)) &&
 t.DY.all fun j=>(iy ops t.i).contains j || (T.take p).any fun b=>(iy ops t.i).contains b.i && b.DY.contains j
def qH (P:Program)(G N:Nat)(ops:Array Oper)(T:List DI)(q:Nat)(b:DI)(p:Nat)(a:DI):Bool:=
 b.i != a.i &&
 (match b.a.d with
    | some x=>a.a.d != some x && (!(a.a.slots.contains x) || a.DY.contains b.i)
    | none=>true) &&
 (match a.a.d with
    | some x=>!(b.a.slots.contains x) || a.DY.contains b.i
    | none=>true) &&
 (b.a.op.pure || a.a.op.still || a.DY.contains b.i) &&
 (a.a.op.pure || !b.a.op.pure || b.a.op.still || a.DY.contains b.i || a.again.any fun b'=>Po P G N ops b.i b' && b'.op.pure && b'.slots.all (fun x=>b.a.slots.contains x && ((T.take p).drop q).all fun r=>r.a.d != some x))
def A8 (P:Program)(G N:Nat)(ops:Array Oper)(T:List DI):Bool:=
 (List.range ops.size).all (fun i=>T.any (·.i == i)) &&
 (List.range T.length).all fun p=>match T[p]? with
    | some t=>Hq P G N ops T p t && (List.range p).all fun q=>match T[q]? with
      | some b=>qH P G N ops T q b p t
      | none=>true
    | none=>true
def JB (i:Nat)(k:Nat→Bool):Bool:=match i with
 | 0=>k 0
 | n+1=>k (n+1)
def zO:List Nat→(List Nat→Bool)→Bool
 | [],k=>k []
 | i :: l,k=>JB i fun i'=>zO l fun l'=>k (i' :: l')
def EU:List DI→(List DI→Bool)→Bool
 | [],k=>k []
 | ⟨i,a,ag,DY⟩ :: r,k=>JB i fun i'=>zO DY fun anc'=>EU r fun r'=>k (⟨i',a,ag,anc'⟩ :: r')
theorem DZ (i:Nat)(k:Nat→Bool):JB i k=k i:=by cases i <;> rfl
theorem A_:∀(l:List Nat) (k:List Nat→Bool),zO l k=k l
 | [],_=>rfl
 | i :: l,k=>by simp only [zO,DZ,A_ l]
theorem D5:∀(l:List DI) (k:List DI→Bool),EU l k=k l
 | [],_=>rfl
 | ⟨i,a,ag,DY⟩ :: r,k=>by simp only [EU,DZ,A_,D5 r]
def Lh (P:Program)(G N:Nat)(ops:Array Oper)(l:List (AI×List AI)):Bool:=
 EU (AZ P G N ops l []) fun T=>A8 P G N ops T && T.length == l.length
theorem D6 {P:Program} {G N:Nat} {ops:Array Oper} :∀(l:List (AI×List AI)) (done:List DI),(AZ P G N ops l done).length=l.length+done.length→
 (AZ P G N ops l done).map (fun t=>(t.a,t.again))=done.reverse.map (fun t=>(t.a,t.again)) ++ l
 | [],done,_=>by simp [AZ]
 | (a,ag) :: r,done,h=>by
   unfold AZ at h ⊢
   split
   ·rename_i i hi
    rw [hi] at h
    simp only at h
    rw [D6 r _ (by rw [h];simp;omega)]
    simp
   ·rename_i hi
    rw [hi] at h
    simp at h
    omega
end Go.bP
namespace Go.bP
structure Tab (P:Program)(G N:Nat)(ops:Array Oper)(T:List DI):Prop where
 all:∀i<ops.size,∃(p:Nat) (t:DI),T[p]? =some t∧t.i=i
 at':∀(p:Nat) (t:DI),T[p]? =some t→∃o,ops[t.i]? =some o∧uH P G N ops o t.a=true
 edge:∀(p:Nat) (t:DI),T[p]? =some t→∀j∈iy ops t.i,∃(q:Nat) (b:DI),q<p∧T[q]? =some b∧b.i=j
 DY:∀(p:Nat) (t:DI),T[p]? =some t→∀j∈t.DY,j∈iy ops t.i∨∃(q:Nat) (b:DI),q<p∧T[q]? =some b∧b.i∈iy ops t.i∧j∈b.DY
 ne:∀(q:Nat) (b:DI) (p:Nat) (a:DI),q<p→T[q]? =some b→T[p]? =some a→b.i≠a.i
 dst:∀(q:Nat) (b:DI) (p:Nat) (a:DI),q<p→T[q]? =some b→T[p]? =some a→∀x,b.a.d=some x→a.a.d≠some x
 raw:∀(q:Nat) (b:DI) (p:Nat) (a:DI),q<p→T[q]? =some b→T[p]? =some a→∀x,b.a.d=some x→x∈a.a.slots→b.i∈a.DY
 war:∀(q:Nat) (b:DI) (p:Nat) (a:DI),q<p→T[q]? =some b→T[p]? =some a→∀x,a.a.d=some x→x∈b.a.slots→b.i∈a.DY
 eff:∀(q:Nat) (b:DI) (p:Nat) (a:DI),q<p→T[q]? =some b→T[p]? =some a→b.a.op.pure=false→a.a.op.still=false→b.i∈a.DY
 again:∀(q:Nat) (b:DI) (p:Nat) (a:DI),q<p→T[q]? =some b→T[p]? =some a→a.a.op.pure=false→b.a.op.pure=true→b.a.op.still=false→b.i∉a.DY→
  ∃ b'∈a.again,(∃o,ops[b.i]? =some o∧uH P G N ops o b'= true)∧b'.op.pure=true∧∀x∈b'.slots,x∈b.a.slots∧∀(r:Nat) (c:DI),q≤r→r<p→T[r]? =some c→c.a.d≠some x
theorem D7 {P:Program} {G N:Nat} {ops:Array Oper} {i:Nat} {a:AI} (h:Po P G N ops i a=true):∃o,ops[i]? =some o∧uH P G N ops o a=true:=by
 unfold Po at h
 split at h
 ·rename_i o ho;exact⟨o,ho,h⟩
 ·cases h
theorem Hr {α:Type} {l:List α} {p:Nat} {x:α} (h:x∈l.take p):∃q,q<p∧l[q]? =some x:=by
 obtain⟨q,hq⟩:=List.getElem?_of_mem h
 rw [List.getElem?_take] at hq
 split at hq
 ·exact⟨q,by assumption,hq⟩
 ·cases hq
theorem JC {P:Program} {G N:Nat} {ops:Array Oper} {T:List DI} (h:A8 P G N ops T=true):Tab P G N ops T:=by
 simp only [A8,Bool.and_eq_true,List.all_eq_true,List.mem_range,List.any_eq_true,beq_iff_eq] at h
 obtain⟨h1,h2⟩:=h
 have one:∀(p:Nat) (t:DI),T[p]? =some t→Hq P G N ops T p t=true:=by
  intro p t ht
  have:=h2 p (dW ht)
  rw [ht] at this
  simp only [Bool.and_eq_true] at this
  exact this.1
 have pair:∀(q:Nat) (b:DI) (p:Nat) (a:DI),q<p→T[q]? =some b→T[p]? =some a→qH P G N ops T q b p a=true:=by
  intro q b p a tJ hb ha
  have:=h2 p (dW ha)
  rw [ha] at this
  simp only [Bool.and_eq_true,List.all_eq_true,List.mem_range] at this
  have:=this.2 q tJ
  rw [hb] at this
  exact this
 refine⟨?_,?_,?_,?_,?_,?_,?_,?_,?_,?_⟩
 ·intro i hi
  obtain⟨t,ht,hti⟩:=h1 i hi
  obtain⟨p,hp⟩:=List.getElem?_of_mem ht
  exact⟨p,t,hp,hti⟩
 ·intro p t ht
  have:=one p t ht
  simp only [Hq,Bool.and_eq_true] at this
  exact D7 this.1.1
 ·intro p t ht j hj
  have:=one p t ht
  simp only [Hq,Bool.and_eq_true,List.all_eq_true,List.any_eq_true,beq_iff_eq] at this
  obtain⟨b,hb,hbj⟩:=this.1.2 j hj
  obtain⟨q,hq,Xe⟩:=Hr hb
  exact⟨q,b,hq,Xe,hbj⟩
 ·intro p t ht j hj
  have:=one p t ht
  simp only [Hq,Bool.and_eq_true,List.all_eq_true,List.any_eq_true,beq_iff_eq,Bool.or_eq_true,List.contains_iff_mem] at this
  rcases this.2 j hj with h | ⟨b,hb,hbj⟩
  ·exact .inl h
  ·obtain⟨q,hq,Xe⟩:=Hr hb
   exact .inr ⟨q,b,hq,Xe,hbj.1,hbj.2⟩
 ·intro q b p a tJ hb ha
  have:=pair q b p a tJ hb ha
  simp only [qH,Bool.and_eq_true,bne_iff_ne] at this
  exact this.1.1.1.1
 ·intro q b p a tJ hb ha x hx
  have:=pair q b p a tJ hb ha
  simp only [qH,Bool.and_eq_true,hx,bne_iff_ne] at this
  exact this.1.1.1.2.1
 ·intro q b p a tJ hb ha x hx hs
  have:=pair q b p a tJ hb ha
  simp only [qH,Bool.and_eq_true,hx,Bool.or_eq_true,Bool.not_eq_true',List.contains_iff_mem] at this
  rcases this.1.1.1.2.2 with h | h
  ·rw [List.contains_eq_mem] at h;simp at h;exact absurd hs h
  ·exact h
 ·intro q b p a tJ hb ha x hx hs
  have:=pair q b p a tJ hb ha
  simp only [qH,Bool.and_eq_true,hx,Bool.or_eq_true,Bool.not_eq_true',List.contains_iff_mem] at this
  rcases this.1.1.2 with h | h
  ·rw [List.contains_eq_mem] at h;simp at h;exact absurd hs h
  ·exact h
 ·intro q b p a tJ hb ha hx hs
  have:=pair q b p a tJ hb ha
  simp only [qH,Bool.and_eq_true,hx,hs,Bool.or_eq_true,List.contains_iff_mem,Bool.false_eq_true,false_or] at this
  exact this.1.2
 ·intro q b p a tJ hb ha hx hs1 hs hn
  have:=pair q b p a tJ hb ha
  simp only [qH,Bool.and_eq_true,hx,hs,hs1,Bool.or_eq_true,List.contains_iff_mem,Bool.false_eq_true,false_or,Bool.not_true,or_false,hn,List.any_eq_true,List.all_eq_true,bne_iff_ne] at this
  obtain⟨b',hb',⟨h3,h4⟩,h5⟩:=this.2
  refine⟨b',hb',D7 h3,h4,fun x hx=>⟨(h5 x hx).1,fun r c hr Zg hc=>(h5 x hx).2 c ?_⟩⟩
  refine List.mem_of_getElem? (i:=r - q) ?_
  rw [List.getElem?_drop,List.getElem?_take,if_pos (by omega),show q+(r - q)=r by omega]
  exact hc
end Go.bP
namespace Go.bP
theorem vZ {d:Nat} {v:AV} {e:Env} :get (put (some d) v e) d=v:=by simp [put,get]
theorem ku {d:Option Nat} {v:AV} {e:Env} {x:Nat} (h:d≠some x):get (put d v e) x=get e x:=by
 cases d with
 | none=>rfl
 | some d=>
   have hne:¬d=x:=fun he=>h (by rw [he])
   simp [put,get,hne]
theorem Ht {X:Ctx} {run:Run} :∀(l:List (AI×List AI)) (e:Env) (σ:St) (e':Env) (σ':St),xC X run l e σ=some (e',σ')→
 ∃ (E:Nat→Env) (S:Nat→St) (V:Nat→AV),E 0=e∧S 0=σ∧E l.length=e'∧S l.length=σ'∧
   ∀ (p:Nat) (a:AI) (ag:List AI),l[p]? =some (a,ag)→fK X run (E p) a (S p)=some (V p,S (p+1))∧E (p+1)=put a.d (V p) (E p)∧∀b∈ag,uz X (E p) (S (p+1)) b=true
 | [],e,σ,e',σ',h=>by
   cases h
   exact⟨fun _=>e,fun _=>σ,fun _=>.u,rfl,rfl,rfl,rfl,fun p a ag hp=>by simp at hp⟩
 | (a,ag) :: l,e,σ,e',σ',h=>by
   simp only [xC] at h
   split at h
   ·rename_i v σ1 hst
    split at h
    ·rename_i hag
     obtain⟨E,S,V,h1,h2,h3,h4,h5⟩:=Ht l _ _ _ _ h
     refine⟨fun | 0=>e | p+1=>E p,fun | 0=>σ | p+1=>S p,fun | 0=>v | p+1=>V p,rfl,rfl,h3,h4,?_⟩
     intro p a' ag' hp
     cases p with
     | zero=>
       simp only [List.getElem?_cons_zero,Option.some.injEq,Prod.mk.injEq] at hp
       obtain⟨rfl,rfl⟩:=hp
       refine⟨by simpa [h2] using hst,h1,?_⟩
       intro b hb
       simp only [List.all_eq_true] at hag
       simpa [h2] using hag b hb
     | succ p=>
       exact h5 p a' ag' (by simpa using hp)
    ·cases h
   ·cases h
section
variable {X:Ctx} {G N:Nat} {ops:Array Oper} {T:List DI}
structure Runs (X:Ctx)(run:Run)(T:List DI)(E:Nat→Env)(S:Nat→St)(V:Nat→AV):Prop where
 step:∀(p:Nat) (t:DI),T[p]? =some t→fK X run (E p) t.a (S p)=some (V p,S (p+1))
 env:∀(p:Nat) (t:DI),T[p]? =some t→E (p+1)=put t.a.d (V p) (E p)
 again:∀(p:Nat) (t:DI),T[p]? =some t→∀b∈t.again,uz X (E p) (S (p+1)) b=true
variable {run:Run} {E:Nat→Env} {S:Nat→St} {V:Nat→AV}
theorem mO (hR:Runs X run T E S V) {x:Nat} :∀(p q:Nat),q≤p→p≤T.length→(∀(r:Nat) (c:DI),q≤r→r<p→T[r]? =some c→c.a.d≠some x)→get (E p) x=get (E q) x
 | 0,q,hq,_,_=>by rw [show q=0 by omega]
 | p+1,q,hq,hp,h=>by
   by_cases tJ:q=p+1
   ·rw [tJ]
   ·have ht:T[p]? =some T[p]:=List.getElem?_eq_getElem (by omega)
    rw [hR.env p _ ht,ku (h p _ (by omega) (by omega) ht)]
    exact mO hR p q (by omega) (by omega) fun r c h1 h2 h3=>h r c h1 (by omega) h3
theorem xK (hT:Tab X.P G N ops T)(hR:Runs X run T E S V) {x q p:Nat} {t:DI} (hq:T[q]? =some t)(hx:t.a.d=some x)(tJ:q<p)(hp:p≤T.length):get (E p) x=V q:=by
 rw [mO hR p (q+1) (by omega) hp fun r c h1 h2 h3=>hT.dst q t r c (by omega) hq h3 x hx,hR.env q t hq,hx,vZ]
theorem mP (hR:Runs X run T E S V):∀(p q:Nat),q≤p→p≤T.length→(∀(r:Nat) (c:DI),q≤r→r<p→T[r]? =some c→c.a.op.pure=true)→S p=S q
 | 0,q,hq,_,_=>by rw [show q=0 by omega]
 | p+1,q,hq,hp,h=>by
   by_cases tJ:q=p+1
   ·rw [tJ]
   ·have ht:T[p]? =some T[p]:=List.getElem?_eq_getElem (by omega)
    rw [uK (h p _ (by omega) (by omega) ht) (hR.step p _ ht)]
    exact mP hR p q (by omega) (by omega) fun r c h1 h2 h3=>h r c h1 (by omega) h3
def Closed (ops:Array Oper)(L:Nat→Prop):Prop:=∀i,L i→∀j∈iy ops i,L j
theorem Ba (hT:Tab X.P G N ops T) {L:Nat→Prop} (hc:Closed ops L):∀(p:Nat) (t:DI),T[p]? =some t→(∀j∈iy ops t.i,L j)→∀j∈t.DY,L j:=by
 intro p
 induction p using Nat.strongRecOn with
 | _ p ih=>
   intro t ht hb j hj
   rcases hT.DY p t ht j hj with h | ⟨q,b,hq,Xe,hbi,hjb⟩
   ·exact hb j h
   ·exact ih q hq b Xe (hc _ (hb _ hbi)) j hjb
structure At (X:Ctx)(G N:Nat)(ops:Array Oper)(T:List DI)(E:Nat→Env)(S:Nat→St)(V:Nat→AV)(L:Nat→Prop)(c:Nat)(ec:Env):Prop where
 closed:Closed ops L
 le:c≤T.length
 cut:∀(q:Nat) (t:DI),T[q]? =some t→t.a.op.pure=false→(q<c↔L t.i)
 wrote:∀(q:Nat) (t:DI) (x:Nat),T[q]? =some t→L t.i→t.a.d=some x→get ec x=V q
 kept:∀(x:Nat),(∀(q:Nat) (t:DI),T[q]? =some t→L t.i→t.a.d≠some x)→get ec x=get (E 0) x
variable {L:Nat→Prop} {c:Nat} {ec:Env}
theorem pos_eq (hT:Tab X.P G N ops T) {p q:Nat} {t u:DI} (hp:T[p]? =some t)(hq:T[q]? =some u)(h:t.i=u.i):p=q:=by
 rcases Nat.lt_trichotomy p q with hl | hl | hl
 ·exact absurd h (hT.ne p t q u hl hp hq)
 ·exact hl
 ·exact absurd h.symm (hT.ne q u p t hl hq hp)
theorem Bc (hT:Tab X.P G N ops T) {p q:Nat} {t u:DI} {x:Nat} (hp:T[p]? =some t)(hq:T[q]? =some u)(h:t.a.d=some x)(k:u.a.d=some x):p=q:=by
 rcases Nat.lt_trichotomy p q with hl | hl | hl
 ·exact absurd k (hT.dst p t q u hl hp hq x h)
 ·exact hl
 ·exact absurd h (hT.dst q u p t hl hq hp x k)
theorem At.agree (hT:Tab X.P G N ops T)(hR:Runs X run T E S V)(h:At X G N ops T E S V L c ec) {p:Nat} {t:DI} (hp:T[p]? =some t)(hn:¬L t.i)(hb:∀j∈iy ops t.i,L j) :
 ∀ x∈t.a.slots,get ec x=get (E p) x:=by
 intro x hx
 have hlen:p<T.length:=dW hp
 by_cases hw:∃(q:Nat) (u:DI),T[q]? =some u∧u.a.d=some x
 ·obtain⟨q,u,hq,hu⟩:=hw
  rcases Nat.lt_trichotomy q p with hl | hl | hl
  ·have hL:=Ba hT h.closed p t hp hb _ (hT.raw q u p t hl hq hp x hu hx)
   rw [h.wrote q u x hq hL hu,xK hT hR hq hu hl (by omega)]
  ·subst hl
   rw [hp] at hq;cases hq
   rw [h.kept x fun r v hr hv hd=>by
        have hpr:=Bc hT hp hr hu hd
        subst hpr
        rw [hp] at hr;cases hr
        exact hn hv]
   rw [mO hR q 0 (by omega) (by omega) fun r v _ h2 hr hd=>by have:=Bc hT hp hr hu hd;omega]
  ·have hA:=hT.war p t q u hl hp hq x hu hx
   have hnu:¬L u.i:=fun hL=>hn (Ba hT h.closed q u hq (h.closed _ hL) _ hA)
   rw [h.kept x fun r v hr hv hd=>by
        have:=Bc hT hq hr hu hd
        subst this
        rw [hq] at hr;cases hr
        exact hnu hv]
   rw [mO hR p 0 (by omega) (by omega) fun r v _ h2 hr hd=>by have:=Bc hT hq hr hu hd;omega]
 ·rw [h.kept x fun r v hr _ hd=>hw ⟨r,v,hr,hd⟩]
  rw [mO hR p 0 (by omega) (by omega) fun r v _ _ hr hd=>hw ⟨r,v,hr,hd⟩]
theorem Hu (T:List DI)(p:Nat):∀c:Nat,(∀(r:Nat) (v:DI),p≤r→r<c→T[r]? =some v→v.a.op.pure=true)∨
 ∃ (q:Nat) (u:DI),p≤q∧q<c∧T[q]? =some u∧u.a.op.pure=false∧∀(r:Nat) (v:DI),q<r→r<c→T[r]? =some v→v.a.op.pure=true
 | 0=>.inl fun r v _ h=>by omega
 | c+1=>by
   by_cases hc:∃u,T[c]? =some u∧u.a.op.pure=false∧p≤c
   ·obtain⟨u,hu,hpu,hpc⟩:=hc
    exact .inr ⟨c,u,hpc,by omega,hu,hpu,fun r v h1 h2=>by omega⟩
   ·have hc':∀(v:DI),p≤c→T[c]? =some v→v.a.op.pure=true:=fun v h1 h2=>by
     cases hh:v.a.op.pure with
     | true=>rfl
     | false=>exact absurd ⟨v,h2,hh,h1⟩ hc
    rcases Hu T p c with h | ⟨q,u,h1,h2,h3,h4,h5⟩
    ·refine .inl fun r v hr hrc hv=>?_
     by_cases Xf:r=c
     ·subst Xf;exact hc' v hr hv
     ·exact h r v hr (by omega) hv
    ·refine .inr ⟨q,u,h1,by omega,h3,h4,fun r v hr hrc hv=>?_⟩
     by_cases Xf:r=c
     ·subst Xf;exact hc' v (by omega) hv
     ·exact h5 r v hr (by omega) hv
theorem At.next (hT:Tab X.P G N ops T)(hR:Runs X run T E S V)(h:At X G N ops T E S V L c ec) {p:Nat} {t:DI} (hp:T[p]? =some t)(hn:¬L t.i)(hb:∀j∈iy ops t.i,L j) {o:Oper} (ho:ops[t.i]? =some o) :
 ∃ run' a' c',(run'= run∨run'= fun _ _ _=>none)∧uH X.P G N ops o a'= true∧fK X run' ec a' (S c)=some (V p,S c')∧c'≤T.length∧
   ∀ (q:Nat) (u:DI),T[q]? =some u→u.a.op.pure=false→(q<c'↔L u.i∨q=p):=by
 have hlen:p<T.length:=dW hp
 have hok:uH X.P G N ops o t.a=true:=by
  obtain⟨o',ho',h'⟩:=hT.at' p t hp
  rw [ho] at ho';cases ho';exact h'
 have hag:=h.agree hT hR hp hn hb
 have ZA:=Ba hT h.closed p t hp hb
 have hst:=hR.step p t hp
 have Lj:t.a.op.still=false→c≤p→S p=S c:=fun hs hcp=>mP hR p c hcp (by omega) fun r u h1 h2 hr=>by
  cases hpu:u.a.op.pure with
  | true=>rfl
  | false=>
    have hL:=ZA _ (hT.eff r u p t h2 hr hp hpu hs)
    have:=(h.cut r u hr hpu).2 hL
    omega
 cases hpure:t.a.op.pure with
 | false=>
   have hs:t.a.op.still=false:=by
    cases hh:t.a.op.still with
    | false=>rfl
    | true=>rw [uJ hh] at hpure;cases hpure
   have hcp:c≤p:=by
    apply Nat.le_of_not_lt
    intro hlt
    exact hn ((h.cut p t hp hpure).1 hlt)
   refine⟨run,t.a,p+1,.inl rfl,hok,?_,by omega,?_⟩
   ·rw [kY hag,←Lj hs hcp];exact hst
   ·intro q u hq hpu
    constructor
    ·intro hlt
     by_cases tJ:q=p
     ·exact .inr tJ
     ·exact .inl (ZA _ (hT.eff q u p t (by omega) hq hp hpu hs))
    ·intro hL
     rcases hL with hL | hL
     ·apply Nat.lt_of_not_le
      intro hle
      have hA:=hT.eff p t q u (by omega) hp hq hpure (by
       cases hh:u.a.op.still with
       | false=>rfl
       | true=>rw [uJ hh] at hpu;cases hpu)
      exact hn (Ba hT h.closed q u hq (h.closed _ hL) _ hA)
     ·omega
 | true=>
   have hcut:∀(q:Nat) (u:DI),T[q]? =some u→u.a.op.pure=false→(q<c↔L u.i∨q=p):=by
    intro q u hq hpu
    rw [h.cut q u hq hpu]
    constructor
    ·exact .inl
    ·rintro (h | h)
     ·exact h
     ·subst h;rw [hp] at hq;cases hq;rw [hpure] at hpu;cases hpu
   cases hs:t.a.op.still with
   | true=>exact⟨run,t.a,c,.inl rfl,hok,by rw [kY hag];exact Ho hs hst _,h.le,hcut⟩
   | false=>
     have hSp:S (p+1)=S p:=uK hpure hst
     by_cases hcp:c≤p
     ·refine⟨run,t.a,c,.inl rfl,hok,?_,h.le,hcut⟩
      rw [kY hag,←Lj hs hcp,hst,hSp]
     ·
        rcases Hu T p c with hex | ⟨q,u,h1,h2,hq,hpu,hlast⟩
        rotate_left
        ·skip
         have tJ:p<q:=by
          rcases Nat.lt_or_ge p q with hl | hl
          ·exact hl
          ·have:q=p:=by omega
           subst this;rw [hp] at hq;cases hq;rw [hpure] at hpu;cases hpu
         have hLu:=(h.cut q u hq hpu).1 h2
         have hnA:t.i∉u.DY:=fun hA=>hn (Ba hT h.closed q u hq (h.closed _ hLu) _ hA)
         obtain⟨b',hb',⟨o',ho',hok'⟩,hbp,hsl⟩:=hT.again p t q u tJ hp hq hpu hpure hs hnA
         rw [ho] at ho';cases ho'
         have Ud:=hR.again q u hq b' hb'
         have hSc:S c=S (q+1):=mP hR c (q+1) (by omega) h.le fun r v h3 h4 hr=>hlast r v (by omega) h4 hr
         have hd:b'.d=t.a.d:=by
          simp only [uH,Bool.and_eq_true,beq_iff_eq] at hok hok'
          rw [←hok.1.1.1,←hok'.1.1.1]
         refine⟨fun _ _ _=>none,b',c,.inr rfl,hok',?_,h.le,hcut⟩
         unfold uz at Ud
         split at Ud
         ·rename_i d v σ1 hbd hstep
          have hv:=AV.qm _ _ Ud
          have hσ1:=uK hbp hstep
          subst hσ1
          rw [hd] at hbd
          rw [xK hT hR hp hbd tJ (by have:=dW hq;omega)] at hv
          rw [hSc,kY (e':=E q),hstep,hv]
          intro x hx
          rw [hag x (hsl x hx).1]
          rw [mO hR q p (by omega) (by have:=dW hq;omega) fun r v h3 h4 hr=>(hsl x hx).2 r v h3 h4 hr]
         ·cases Ud
        ·have hSc:S c=S p:=mP hR c p (by omega) h.le hex
         refine⟨run,t.a,c,.inl rfl,hok,?_,h.le,hcut⟩
         rw [kY hag,hSc,hst,hSp]
theorem xM {listed:Array Bool} {i:Nat} (h:i<listed.size):listed.getD i true=listed.getD i false:=by
 rw [Array.getD_eq_getD_getElem?,Array.getD_eq_getD_getElem?,Array.getElem?_eq_getElem h];rfl
theorem D8 {i j:Nat} {o:Oper} (ho:ops[i]? =some o):j∈iy ops i↔∃e∈o.after,Region.binds .any e=true∧e.on=j:=by
 unfold iy
 rw [ho]
 simp only [List.mem_map,List.mem_filter,Array.mem_toList_iff]
 constructor
 ·rintro ⟨e,⟨h1,h2⟩,h3⟩;exact⟨e,h1,h2,h3⟩
 ·rintro ⟨e,h1,h2,h3⟩;exact⟨e,⟨h1,h2⟩,h3⟩
def Ue (n:Nat)(listed:Array Bool):List Nat:=(List.range n).filter fun i=>!listed.getD i false
theorem Uf {n i:Nat} {listed:Array Bool} (hi:i<n)(hs:listed.size=n)(hl:listed.getD i false=false):(Ue n (listed.setIfInBounds i true)).length<(Ue n listed).length:=by
 have he:Ue n (listed.setIfInBounds i true)=(Ue n listed).filter (fun j=>j != i):=by
  unfold Ue
  rw [List.filter_filter]
  apply List.filter_congr
  intro j hj
  by_cases hji:i=j
  ·subst hji
   simp [Array.getElem?_setIfInBounds,hs,hi]
  ·rw [getD_set_ne false hji]
   simp [Ne.symm hji]
 rw [he,List.length_filter_lt_length_iff_exists]
 refine⟨i,?_,by simp⟩
 unfold Ue
 rw [List.mem_filter]
 exact⟨List.mem_range.2 hi,by rw [hl];rfl⟩
theorem Ug {ds:List Deferred} (hX:X.Ok G)(hrun:lQ X.P G run)(hT:Tab X.P G N ops T)(hR:Runs X run T E S V) {Q:Exit→Act→World→Prop} {μ0:Mu} {Bf:St} {w0:World}
 (hQ:∀act' w',tZ ds G N μ0 Bf w0 (E T.length) (S T.length) act' w'→Q .normal act' w') :
 ∀ (fuel:Nat) (listed:Array Bool) (c:Nat) (ec:Env) (act:Act) (w:World) (μ:Mu),(Ue ops.size listed).length≤fuel→listed.size=ops.size→(∀i,listed.getD i false=true→i<ops.size)→
   At X G N ops T E S V (fun i=>listed.getD i false=true) c ec→Step G μ0 Bf w0 μ (S c) w→fH G N μ w ec act.tmps→act.defers=ds→
   wpAny X.P .any ops Q fuel listed act w:=by
 have hdone:∀(listed:Array Bool) (c:Nat) (ec:Env) (act:Act) (w:World) (μ:Mu),listed.size=ops.size→
  At X G N ops T E S V (fun i=>listed.getD i false=true) c ec→Step G μ0 Bf w0 μ (S c) w→fH G N μ w ec act.tmps→act.defers=ds→Region.ready .any ops listed=[]→Q .normal act w:=by
  intro listed c ec act w μ hsz hat hst hen hdf hr
  have hall:∀(p:Nat) (t:DI),T[p]? =some t→listed.getD t.i false=true:=by
   intro p
   induction p using Nat.strongRecOn with
   | _ p ih=>
     intro t ht
     cases hl:listed.getD t.i false with
     | true=>rfl
     | false=>
       exfalso
       obtain⟨o,ho,hok⟩:=hT.at' p t ht
       have hlt:t.i<ops.size:=(Array.getElem?_eq_some_iff.1 ho).1
       have:t.i∈Region.ready .any ops listed:=by
         rw [mem_ready]
         refine⟨by rw [xM (by omega)];exact hl,o,ho,fun e he hb=>?_⟩
         obtain⟨q,b,hq,Xe,hbi⟩:=hT.edge p t ht e.on ((D8 ho).2 ⟨e,he,hb,rfl⟩)
         rw [←hbi];exact ih q hq b Xe
       rw [hr] at this;cases this
  refine hQ _ _ ⟨μ,?_,⟨hen.size,fun x=>?_⟩,hdf⟩
  ·have:S T.length=S c:=mP hR _ c hat.le (Nat.le_refl _) fun r v h1 h2 hv=>by
        cases hh:v.a.op.pure with
        | true=>rfl
        | false=>have:=(hat.cut r v hv hh).2 (hall r v hv);omega
   rw [this];exact hst
  ·have hx:get ec x=get (E T.length) x:=by
        by_cases hw:∃(q:Nat) (u:DI),T[q]? =some u∧u.a.d=some x
        ·obtain⟨q,u,hq,hu⟩:=hw
         rw [hat.wrote q u x hq (hall q u hq) hu,xK hT hR hq hu (dW hq) (Nat.le_refl _)]
        ·rw [hat.kept x fun r v hr _ hd=>hw ⟨r,v,hr,hd⟩]
         rw [mO hR T.length 0 (by omega) (by omega) fun r v _ _ hr hd=>hw ⟨r,v,hr,hd⟩]
   rw [←hx];exact hen.rel x
 intro fuel
 induction fuel with
 | zero=>
   intro listed c ec act w μ hfu hsz hlt hat hst hen hdf
   have hr:Region.ready .any ops listed=[]:=by
    apply List.eq_nil_iff_forall_not_mem.2
    intro i hi
    obtain⟨h0,o,ho,_⟩:=mem_ready.1 hi
    have hil:i<ops.size:=(Array.getElem?_eq_some_iff.1 ho).1
    rw [xM (by omega)] at h0
    have:i∈Ue ops.size listed:=List.mem_filter.2 ⟨List.mem_range.2 hil,by rw [h0];rfl⟩
    have:=List.length_pos_of_mem this
    omega
   exact⟨hr,hdone listed c ec act w μ hsz hat hst hen hdf hr⟩
 | succ fuel ih=>
   intro listed c ec act w μ hfu hsz hlt hat hst hen hdf
   refine⟨hdone listed c ec act w μ hsz hat hst hen hdf,fun i hi=>?_⟩
   obtain⟨h0,o,ho,hbind⟩:=mem_ready.1 hi
   have hil:i<ops.size:=(Array.getElem?_eq_some_iff.1 ho).1
   rw [xM (by omega)] at h0
   obtain⟨p,t,hp,hti⟩:=hT.all i hil
   subst hti
   have hb:∀j∈iy ops t.i,listed.getD j false=true:=fun j hj=>by
    obtain⟨e,he,hbe,rfl⟩:=(D8 ho).1 hj
    exact hbind e he hbe
   have hn:¬listed.getD t.i false=true:=by rw [h0];simp
   obtain⟨run',a',c',hrun',hok',hstep,hle',hcut'⟩:=hat.next hT hR hp hn hb ho
   have hro:lQ X.P G run':=by
    rcases hrun' with rfl | rfl
    ·exact hrun
    ·intro f args σ r σ' h;cases h
   unfold wpOp
   rw [ho]
   refine vY (ops:=ops) hX hro hst.rJ hen hok' hstep fun v w' μ' hv hs'=>?_
   have hka:=hok'
   simp only [uH,Bool.and_eq_true,beq_iff_eq] at hka
   have hdt:t.a.d=o.dst:=by
    obtain⟨o',ho',h'⟩:=hT.at' p t hp
    rw [ho] at ho';cases ho'
    simp only [uH,Bool.and_eq_true,beq_iff_eq] at h'
    exact h'.1.1.1.symm
   have hget:∀j,(listed.setIfInBounds t.i true).getD j false=true↔listed.getD j false=true∨j=t.i:=by
    intro j
    by_cases hj:t.i=j
    ·subst hj;simp [Array.getElem?_setIfInBounds,hsz,hil]
    ·rw [getD_set_ne false hj];simp [Ne.symm hj]
   refine ih _ c' (put o.dst (V p) ec) _ w' μ' ?_ (by simpa using hsz) ?_ ⟨?_,hle',?_,?_,?_⟩ (hst.trans hs') ?_ (by rw [t_];exact hdf)
   ·have:=Uf (n:=ops.size) hil hsz h0
    omega
   ·intro j hj
    rcases (hget j).1 hj with h | h
    ·exact hlt j h
    ·rw [h];exact hil
   ·intro j hj k hk
    rw [hget] at hj ⊢
    rcases hj with hj | hj
    ·exact .inl (hat.closed j hj k hk)
    ·rw [hj] at hk;exact .inl (hb k hk)
   ·intro q u hq hpu
    rw [hcut' q u hq hpu,hget]
    constructor
    ·rintro (h | h)
     ·exact .inl h
     ·subst h;rw [hp] at hq;cases hq;exact .inr rfl
    ·rintro (h | h)
     ·exact .inl h
     ·exact .inr (pos_eq hT hq hp h)
   ·intro q u x hq hu hx
    rw [hget] at hu
    by_cases tJ:q=p
    ·subst tJ;rw [hp] at hq;cases hq
     rw [←hdt,hx,vZ]
    ·rw [ku fun hd=>tJ (Bc hT hq hp hx (by rw [hdt];exact hd))]
     rcases hu with hu | hu
     ·exact hat.wrote q u x hq hu hx
     ·exact absurd (pos_eq hT hq hp hu) tJ
   ·intro x hx
    rw [ku fun hd=>hx p t hp ((hget _).2 (.inr rfl)) (by rw [hdt];exact hd)]
    exact hat.kept x fun q u hq hu=>hx q u hq ((hget _).2 (.inl hu))
   ·have he':=hen.mono hs'.ext hs'.uD
    have hN:La N o.dst=true:=by rw [hka.1.1.1];exact hka.1.1.2
    exact he'.put hN hv
end
end Go.bP
namespace Go.bP
theorem Ll {ds:List Deferred} {X:Ctx} {G N:Nat} {run:Run} (hX:X.Ok G)(hrun:lQ X.P G run)(hf:X.P.follows .mixedOrders=true) {id:Nat} {ops:Array Oper} {l:List (AI×List AI)} {Q:Exit→Act→World→Prop}
 {e:Env} {act:Act} {μ:Mu} {σ:St} {w:World} {e':Env} {σ':St} (hok:Lh X.P G N ops l=true) (hs:gK G μ σ w) (he:fH G N μ w e act.tmps) (hd:act.defers=ds) (h:xC X run l e σ=some (e',σ'))
 (hQ:∀act' w',tZ ds G N μ σ w e' σ' act' w'→Q .normal act' w'):(Code.region id ops true).wp X.P Q act w:=by
 simp only [Lh,D5,Bool.and_eq_true,beq_iff_eq] at hok
 obtain⟨hT,hlen⟩:=hok
 have hmap:=D6 (P:=X.P) (G:=G) (N:=N) (ops:=ops) l [] (by simpa using hlen)
 simp only [List.reverse_nil,List.map_nil,List.nil_append] at hmap
 have hT':=JC hT
 generalize AZ X.P G N ops l []=T at *
 obtain⟨E,S,V,h1,h2,h3,h4,h5⟩:=Ht l e σ e' σ' h
 have hR:Runs X run T E S V:=by
  have hg:∀(p:Nat) (t:DI),T[p]? =some t→l[p]? =some (t.a,t.again):=by
   intro p t ht
   rw [←hmap,List.getElem?_map,ht];rfl
  exact⟨fun p t ht=>(h5 p _ _ (hg p t ht)).1,fun p t ht=>(h5 p _ _ (hg p t ht)).2.1,fun p t ht=>(h5 p _ _ (hg p t ht)).2.2⟩
 refine wp_region_any hf (Ug hX hrun hT' hR (μ0:=μ) (Bf:=σ) (w0:=w) ?_ ops.size _ 0 e act _ μ ?_ (by simp) ?_ ?_ (by rw [h2];exact Step.drew hs) ?_ hd)
 ·rw [hlen,h3,h4];exact hQ
 ·unfold Ue
  exact Nat.le_trans (List.length_filter_le _ _) (by simp)
 ·intro i hi
  rw [Array.getD_eq_getD_getElem?,Array.getElem?_replicate] at hi
  split at hi
  ·assumption
  ·cases hi
 ·have hno:∀i,¬(Array.replicate ops.size false).getD i false=true:=by
   intro i hi
   rw [Array.getD_eq_getD_getElem?,Array.getElem?_replicate] at hi
   split at hi <;> cases hi
  refine⟨fun i hi=>absurd hi (hno i),Nat.zero_le _,fun q t _ _=>?_,fun q t x _ hl=>absurd hl (hno _),fun x _=>by rw [h1]⟩
  constructor
  ·intro hl;omega
  ·intro hl;exact absurd hl (hno _)
 ·exact he.mono (Mu.le_refl μ) (fun _ _ _ q=>q)
def AC.zq:AC→AC
 | .cut l b=>match l with
   | d :: _=>if d=1000000 then b else .cut l b
   | []=>.cut l b
 | b=>b
theorem AC.rU (b:AC):b.zq=b∨∃l,b= .cut l b.zq:=by
 cases b with
 | cut l b=>
   cases l with
   | nil=>exact .inl rfl
   | cons d l=>
     simp only [AC.zq]
     split
     ·exact .inr ⟨d :: l,rfl⟩
     ·exact .inl rfl
 | _=>exact .inl rfl
def zQ (P:Program)(G N:Nat):Code→AC→Bool
 | .scope c,a=>zQ P G N c a
 | .skip,.skip=>true
 | .label _,.skip=>true
 | .region _ ops false,.reg l=>AQ P G N ops (List.range ops.size) l
 | .region _ ops true,.jm l=>Lh P G N ops l
 | .region _ ops false,.cut _ (.reg l)=>AQ P G N ops (List.range ops.size) l
 | .region _ ops true,.cut _ (.jm l)=>Lh P G N ops l
 | .seq c d,.seq a b=>zQ P G N c a && zQ P G N d b.zq
 | .cond x c d,.cond y a b=>dD G x y && zQ P G N c a && zQ P G N d b
 | .block id c,.blk id' a=>id == id' && zQ P G N c a
 | .loop c,.loop _ a=>zQ P G N c a
 | .exit id,.exit id'=>id == id'
 | .ret,.ret=>true
 | _,_=>false
def Out.exit':Out→Exit
 | .normal=>.normal
 | .exit id=>.exit id
 | .ret=>.ret
theorem tZ.trans {ds:List Deferred} {G N:Nat} {μ:Mu} {σ σ1 σ2:St} {w w1 w2:World} {e1 e2:Env} {a1 a2:Act} {oZ:Mu} (h:Step G μ σ w oZ σ1 w1)(k:tZ ds G N oZ σ1 w1 e2 σ2 a2 w2):tZ ds G N μ σ w e2 σ2 a2 w2:=by
 obtain⟨EK,h1,h2,h3⟩:=k
 exact⟨EK,h.trans h1,h2,h3⟩
section
variable {X:Ctx} {G N:Nat} {run:Run}
def JD (X:Ctx)(G N:Nat)(c:Code)(f:Env→St→Option (Out×Env×St)):Prop:=
 ∀ (ds:List Deferred) (e:Env) (act:Act) (μ:Mu) (σ:St) (w:World) (o:Out) (e':Env) (σ':St) (Q:Exit→Act→World→Prop),gK G μ σ w→fH G N μ w e act.tmps→act.defers=ds→f e σ=some (o,e',σ')→
   (∀act' w',tZ ds G N μ σ w e' σ' act' w'→Q o.exit' act' w')→c.wp X.P Q act w
theorem Pq {c:Code} {live:List Nat} {f:Env→St→Option (Out×Env×St)} (h:JD X G N c f)(n:Nat):JD X G N (.loop c) (nS live f n):=by
 intro ds e act μ σ w o e' σ' Q hs he hd hf hQ
 refine wp_loop_rounds n ?_
 induction n generalizing e act μ σ w with
 | zero=>cases hf
 | succ n ih=>
   rw [rounds_succ]
   simp only [nS] at hf
   split at hf
   ·rename_i e1 σ1 h1
    refine h ds (clear live e) act μ σ w .normal e1 σ1 _ hs (he.clear live) hd h1 fun act' w' hl=>?_
    obtain⟨oZ,hst,hen,hdf⟩:=hl
    exact ih e1 act' oZ σ1 w' hst.rJ hen hdf hf fun ZB w2 hl2=>hQ _ _ (tZ.trans (e1:=e1) (a1:=act') hst hl2)
   ·rename_i hnn
    refine h ds (clear live e) act μ σ w o e' σ' _ hs (he.clear live) hd hf fun act' w' hl=>?_
    cases o with
    | normal=>exact absurd hf (hnn _ _)
    | exit id=>exact hQ _ _ hl
    | ret=>exact hQ _ _ hl
theorem fV (hX:X.Ok G)(hrun:lQ X.P G run)(hf:X.P.follows .mixedOrders=true) {n:Nat} :∀(c:Code) (a:AC),zQ X.P G N c a=true→JD X G N c (bF X run n a)
 | .scope c,a,hok=>by
   intro ds e act μ σ w o e' σ' Q hs he hd h hQ
   refine wp_scope_straight (fV hX hrun hf c a (by simpa [zQ] using hok) ds e act μ σ w o e' σ' _ hs he hd h fun act' w' hl=>?_)
   have:=hQ act' w' hl
   cases o <;> exact this
 | .skip,.skip,_=>by
   intro ds e act μ σ w o e' σ' Q hs he hd h hQ
   cases h
   exact wp_skip (hQ _ _ ⟨μ,Step.refl hs,he,hd⟩)
 | .label _,.skip,_=>by
   intro ds e act μ σ w o e' σ' Q hs he hd h hQ
   cases h
   exact wp_label (hQ _ _ ⟨μ,Step.refl hs,he,hd⟩)
 | .region id ops false,.reg l,hok=>by
   intro ds e act μ σ w o e' σ' Q hs he hd h hQ
   simp only [bF,Option.map_eq_some_iff] at h
   obtain⟨⟨e1,σ1⟩,h1,h2⟩:=h
   cases h2
   exact wp_region (ER (ops:=ops) hX hrun _ l e act μ σ w _ _ (by simpa [zQ] using hok) hs he hd h1 hQ)
 | .region id ops true,.jm l,hok=>by
   intro ds e act μ σ w o e' σ' Q hs he hd h hQ
   simp only [bF,Option.map_eq_some_iff] at h
   obtain⟨⟨e1,σ1⟩,h1,h2⟩:=h
   cases h2
   exact Ll hX hrun hf (by simpa [zQ] using hok) hs he hd h1 hQ
 | .region id ops false,.cut live (.reg l),hok=>by
   intro ds e act μ σ w o e' σ' Q hs he hd h hQ
   simp only [bF,Option.map_eq_some_iff] at h
   obtain⟨⟨e1,σ1⟩,h1,h2⟩:=h
   cases h2
   exact wp_region (ER (ops:=ops) hX hrun _ l _ act μ σ w _ _ (by simpa [zQ] using hok) hs (he.clear live) hd h1 hQ)
 | .region id ops true,.cut live (.jm l),hok=>by
   intro ds e act μ σ w o e' σ' Q hs he hd h hQ
   simp only [bF,Option.map_eq_some_iff] at h
   obtain⟨⟨e1,σ1⟩,h1,h2⟩:=h
   cases h2
   exact Ll hX hrun hf (by simpa [zQ] using hok) hs (he.clear live) hd h1 hQ
 | .seq c d,.seq a b,hok=>by
   intro ds e act μ σ w o e' σ' Q hs he hd h hQ
   simp only [zQ,Bool.and_eq_true] at hok
   simp only [bF] at h
   refine wp_seq ?_
   split at h
   ·rename_i e1 σ1 h1
    refine fV hX hrun hf c a hok.1 ds e act μ σ w .normal e1 σ1 _ hs he hd h1 fun act' w' hl=>?_
    obtain⟨oZ,hst,hen,hdf⟩:=hl
    have hd2:=fV hX hrun hf d b.zq hok.2 (n:=n)
    rcases AC.rU b with hb | ⟨l,hb⟩
    ·rw [hb] at hd2
     exact hd2 ds e1 act' oZ σ1 w' o e' σ' Q hst.rJ hen hdf h fun ZB w2 hl2=>hQ _ _ (tZ.trans (e1:=e1) (a1:=act') hst hl2)
    ·rw [hb] at h
     simp only [bF] at h
     exact hd2 ds (clear l e1) act' oZ σ1 w' o e' σ' Q hst.rJ (hen.clear l) hdf h fun ZB w2 hl2=>hQ _ _ (tZ.trans (e1:=e1) (a1:=act') hst hl2)
   ·rename_i hnn
    refine fV hX hrun hf c a hok.1 ds e act μ σ w o e' σ' _ hs he hd h fun act' w' hl=>?_
    cases o with
    | normal=>exact absurd h (hnn _ _)
    | exit id=>exact hQ _ _ hl
    | ret=>exact hQ _ _ hl
 | .cond x c d,.cond y a b,hok=>by
   intro ds e act μ σ w o e' σ' Q hs he hd h hQ
   simp only [zQ,Bool.and_eq_true] at hok
   have hx:=rQ hs he hok.1.1
   simp only [bF] at h
   split at h
   ·rename_i hy
    rw [hy] at hx
    exact wp_cond_true hx (fV hX hrun hf c a hok.1.2 ds e act μ σ w o e' σ' _ hs he hd h hQ)
   ·rename_i hy
    rw [hy] at hx
    exact wp_cond_false hx (fV hX hrun hf d b hok.2 ds e act μ σ w o e' σ' _ hs he hd h hQ)
   ·cases h
 | .block id c,.blk id' a,hok=>by
   intro ds e act μ σ w o e' σ' Q hs he hd h hQ
   simp only [zQ,Bool.and_eq_true,beq_iff_eq] at hok
   obtain⟨rfl,hok⟩:=hok
   simp only [bF] at h
   refine wp_block ?_
   split at h
   ·rename_i j e1 σ1 h1
    simp only [Option.some.injEq,Prod.mk.injEq] at h
    obtain⟨rfl,rfl,rfl⟩:=h
    refine fV hX hrun hf c a hok ds e act μ σ w (.exit j) _ _ _ hs he hd h1 fun act' w' hl=>?_
    have hq:=hQ act' w' hl
    simp only [Out.exit',Exit.inBlock]
    split
    ·rename_i hj;rw [if_pos hj] at hq;exact hq
    ·rename_i hj;rw [if_neg hj] at hq;exact hq
   ·rename_i hnn
    refine fV hX hrun hf c a hok ds e act μ σ w o e' σ' _ hs he hd h fun act' w' hl=>?_
    cases o with
    | normal=>exact hQ _ _ hl
    | exit id=>exact absurd h (hnn _ _ _)
    | ret=>exact hQ _ _ hl
 | .loop c,.loop live a,hok=>by
   have hc:=fV hX hrun hf c a (n:=n) (by simpa [zQ] using hok)
   intro ds e act μ σ w o e' σ' Q hs he hd h hQ
   exact Pq hc n ds e act μ σ w o e' σ' Q hs he hd h hQ
 | .exit id,.exit id',hok=>by
   intro ds e act μ σ w o e' σ' Q hs he hd h hQ
   simp only [zQ,beq_iff_eq] at hok
   subst hok
   cases h
   exact wp_exit (hQ _ _ ⟨μ,Step.refl hs,he,hd⟩)
 | .ret,.ret,_=>by
   intro ds e act μ σ w o e' σ' Q hs he hd h hQ
   cases h
   exact wp_ret (hQ _ _ ⟨μ,Step.refl hs,he,hd⟩)
end
end Go.bP
namespace Go.bP
def qI:List ResultVar→List AR→Bool
 | [],[]=>true
 | .tmp n :: l,.t m :: r=>n == m && qI l r
 | .cell a t :: l,.cell b s :: r=>a == b && t == s && qI l r
 | _,_=>false
def bI (P:Program)(G:Nat)(f:Nat)(F:AF):Bool:=match P.funcs[f]? with
 | some fn=>fn.ntmps == F.nt && !(fn.name == "runtime.NumGoroutine") && qI fn.results.toList F.res && (match fn.body with
   | some c=>zQ P G F.nt c F.code
   | none=>false)
 | none=>false
def D9 (P:Program)(f:Nat)(aU:Array Value)(w:World)(R:Ending→World→Prop):Prop:=
 (callFunc f aU).run P w= .ok (.enter f aU) w∧∀u,CallsD P f aU u w fun e u' w'=>u'= u∧R e w'
def EW (X:Ctx)(G:Nat)(run:Run):Prop:=∀f,X.dk f=true→∀args σ r σ',run f args σ=some (r,σ')→∀μ w (aU:Array Value),gK G μ σ w→aP μ w args aU.toList→D9 X.P f aU w (After G μ σ w r σ')
def JE (P:Program)(fns:Nat→Option AF)(dk:Nat→Bool)(G f:Nat)(F:AF):Prop:=
 ∀ (X:Ctx),X.P=P→X.fns=fns→X.dk=dk→X.Ok G→X.P.follows .mixedOrders=true→∀(run:Run) (n:Nat),lQ X.P G run→EW X G run→
   ∀ (args:List AV) (σ:St) (o:Out) (e:Env) (σ1:St) (v:AV),args.length≤F.nt→bF X run n F.code (gW 0 args) σ=some (o,e,σ1)→o= .normal∨o= .ret→tC X.P F.res e σ1=some v→
   ∀ (μ:Mu) (w:World) (aU:Array Value),gK G μ σ w→aP μ w args aU.toList→Enters X.P f∧Calls X.P f aU w (After G μ σ w v σ1)
structure Ctx.Sound (X:Ctx)(G:Nat):Prop where
 ok:X.Ok G
 draws:X.P.follows .mixedOrders=true
 fns:∀f F,X.iE f=none→X.fns f=some F→bI X.P G f F=true∨JE X.P X.fns X.dk G f F
 Oq:∀f,X.dk f=true→X.iE f=none∧∀F,X.fns f=some F→bI X.P G f F=true
section
variable {X:Ctx} {G N:Nat} {μ:Mu} {σ:St} {w:World}
theorem Bg:∀(args:List AV) (k n:Nat),get (gW k args) n=if k≤n then(args[n - k]?).getD .u else .u
 | [],k,n=>by simp [gW,get]
 | a :: rest,k,n=>by
   simp only [gW,get]
   split
   ·rename_i h;subst h;simp
   ·rename_i h
    rw [Bg rest (k+1) n]
    by_cases hk:k≤n
    ·rw [if_pos hk,if_pos (by omega),show n - k=(n - (k+1))+1 by omega];simp
    ·rw [if_neg hk,if_neg (by omega)]
theorem yR {args:List AV} {aU:Array Value} {nt:Nat} (h:aP μ w args aU.toList)(hl:args.length≤nt):fH G nt μ w (gW 0 args) (aU ++ Array.replicate (nt - aU.size) undef):=by
 have hsz:aU.size=args.length:=by have:=h.length;simpa using this
 refine⟨by simp;omega,fun n=>?_⟩
 rw [Bg]
 simp only [Nat.zero_le,if_true,Nat.sub_zero]
 cases hn:args[n]? with
 | none=>trivial
 | some a=>
   obtain⟨v,hv,hr⟩:=h.get n a hn
   have hlt:n<aU.size:=by have:=dW hn;omega
   rw [Array.getElem?_toList] at hv
   simp only [Option.getD_some]
   rw [Array.getD_eq_getD_getElem?,Array.getElem?_append_left hlt,hv]
   exact hr
def Lm (tmps:Array Value):ResultVar→Sem Value
 | .tmp t=>pure (tmps.getD t undef)
 | .cell a t=>do loadVar t (←asAddr (tmps.getD a undef))
theorem Bh (hs:gK G μ σ w) {e:Env} {tmps:Array Value} (he:fH G N μ w e tmps):∀(l:List ResultVar) (r:List AR) (vs:List AV),qI l r=true→qw X.P e σ r=some vs→
 ∃ us,(l.mapM (Lm tmps)).run X.P w= .ok us w∧aP μ w vs us
 | [],[],vs,_,h=>by
   simp only [qw,Option.some.injEq] at h
   subst h
   exact⟨[],by simp,rfl⟩
 | .tmp n :: l,.t m :: r,vs,hok,h=>by
   simp only [qI,Bool.and_eq_true,beq_iff_eq] at hok
   obtain⟨rfl,hok⟩:=hok
   simp only [qw] at h
   split at h
   ·rename_i v vs' hv hvs
    cases h
    obtain⟨us,h1,h2⟩:=Bh hs he l r vs' hok hvs
    have hvn:v=get e n:=by
        simp only [Ai] at hv
        split at hv
        ·cases hv
        ·exact(Option.some.inj hv).symm
    refine⟨tmps.getD n undef :: us,?_,_,us,rfl,by rw [hvn];exact he.rel n,h2⟩
    simp [List.mapM_cons,Lm,h1]
   ·cases h
 | .cell a t :: l,.cell b s :: r,vs,hok,h=>by
   simp only [qI,Bool.and_eq_true,beq_iff_eq] at hok
   obtain⟨⟨rfl,rfl⟩,hok⟩:=hok
   simp only [qw] at h
   split at h
   ·rename_i v vs' hv hvs
    cases h
    obtain⟨us,h1,h2⟩:=Bh hs he l r vs' hok hvs
    simp only [Ai] at hv
    have hr:=he.rel a
    unfold nO at hv
    split at hv
    ·rename_i T o g off hT hx
     rw [hx] at hr
     rw [Option.bind_eq_some_iff] at hv
     obtain⟨cs,hc,hp⟩:=hv
     obtain⟨b,δ,hb,hbe⟩:=hr
     obtain⟨u,q1,q2⟩:=yJ hT hs hc hp hb
     refine⟨u :: us,?_,u,us,rfl,q2,h2⟩
     simp [List.mapM_cons,Lm,hbe,asAddr,q1,h1]
    ·cases hv
   ·cases h
theorem qJ (hs:gK G μ σ w) {e:Env} {tmps:Array Value} (he:fH G N μ w e tmps) {fn:Func} {r:List AR} {v:AV} (hok:qI fn.results.toList r=true)(h:tC X.P r e σ=some v) :
 ∃ u,(results fn tmps).run X.P w= .ok u w∧aO μ w v u:=by
 unfold tC at h
 cases hL:qw X.P e σ r with
 | none=>rw [hL] at h;cases h
 | some vs=>
   rw [hL] at h
   obtain⟨us,h1,h2⟩:=Bh (X:=X) hs he _ r vs hok hL
   have hm:(results fn tmps).run X.P w= .ok (if h:us.toArray.size=1 then us.toArray[0] else .tuple us.toArray) w:=by
    have hf:results fn tmps=(do let vs ←fn.results.mapM (Lm tmps);pure (if h:vs.size=1 then vs[0] else .tuple vs)):=rfl
    rw [hf,Array.mapM_eq_mapM_toList]
    simp [h1]
   have hlen:=h2.length
   refine⟨_,hm,?_⟩
   split at h
   ·rename_i v' hvs
    cases h
    cases hvs
    obtain⟨y,ys,rfl,q1,q2⟩:=h2
    simp only [aP] at q2
    subst q2
    exact q1
   ·rename_i hn hvs
    cases h
    cases hvs
    have h1':us.toArray.size≠1:=by
        simp only [List.size_toArray]
        intro hu
        rw [hu] at hlen
        cases vs with
        | nil=>cases hlen
        | cons x xs=>
          cases xs with
          | nil=>exact hn x rfl
          | cons _ _=>simp at hlen
    rw [dif_neg h1']
    exact⟨us.toArray,rfl,h2⟩
   ·rename_i hvs;cases hvs
theorem VR (hX:X.Ok G)(hdr:X.P.follows .mixedOrders=true) {f:Nat} {F:AF} (hok:bI X.P G f F=true):∃fn c,X.P.funcs[f]? =some fn∧fn.body=some c∧fn.ntmps=F.nt∧Enters X.P f∧
 ∀ (run:Run) (n:Nat),lQ X.P G run→∀(args:List AV) (σ:St) (o:Out) (e:Env) (σ1:St) (v:AV),args.length≤F.nt→bF X run n F.code (gW 0 args) σ=some (o,e,σ1)→o= .normal∨o= .ret→tC X.P F.res e σ1=some v→
 ∀ (μ:Mu) (w:World) (aU:Array Value),gK G μ σ w→aP μ w args aU.toList→c.wp X.P (bodyPost X.P fn (After G μ σ w v σ1)) { tmps:=aU ++ Array.replicate (fn.ntmps - aU.size) undef,defers:=[] } w:=by
 unfold bI at hok
 split at hok
 ·rename_i fn hfn
  simp only [Bool.and_eq_true,beq_iff_eq,Bool.not_eq_true'] at hok
  obtain⟨⟨⟨hnt,hnm⟩,hres⟩,hbody⟩:=hok
  split at hbody
  ·rename_i c hc
   refine⟨fn,c,hfn,hc,hnt,ig hfn hnm (by rw [hc];rfl),?_⟩
   intro run n hrun args σ o e σ1 v hlen hcode ho hv μ w aU hs hr
   have hsz:aU.size=args.length:=by have:=hr.length;simpa using this
   rw [hnt]
   have hen:=yR (G:=G) hr hlen
   refine fV hX hrun hdr c F.code hbody [] _ { tmps:=aU ++ Array.replicate (F.nt - aU.size) undef,defers:=[] } μ σ w o e σ1 _ hs hen rfl hcode fun act' w' hl=>?_
   obtain⟨oZ,hst,hen1,hd1⟩:=hl
   obtain⟨u,hu1,hu2⟩:=qJ (X:=X) hst.rJ hen1 hres hv
   have hafter:After G μ σ w v σ1 (.returned u) w':=⟨u,oZ,rfl,hu2,hst⟩
   rcases ho with rfl | rfl
   ·exact⟨hd1,u,hu1,hafter⟩
   ·exact⟨hd1,u,hu1,hafter⟩
  ·cases hbody
 ·cases hok
theorem Lp (hX:X.Ok G)(hdr:X.P.follows .mixedOrders=true) {f:Nat} {F:AF} (hok:bI X.P G f F=true∨JE X.P X.fns X.dk G f F) {run:Run} {n:Nat} (hrun:lQ X.P G run)(hrd:EW X G run) {args:List AV} {σ:St} {o:Out} {e:Env} {σ1:St} {v:AV} (hlen:args.length≤F.nt)
 (hcode:bF X run n F.code (gW 0 args) σ=some (o,e,σ1)) (ho:o= .normal∨o= .ret) (hv:tC X.P F.res e σ1=some v) {μ:Mu} {w:World} {aU:Array Value} (hs:gK G μ σ w) (hr:aP μ w args aU.toList):Enters X.P f∧Calls X.P f aU w (After G μ σ w v σ1):=by
 rcases hok with hok | hok
 ·obtain⟨fn,c,hfn,hc,hnt,hen,hwp⟩:=VR hX hdr hok
  exact⟨hen,calls_of_wp hfn hc (hwp run n hrun args σ o e σ1 v hlen hcode ho hv μ w aU hs hr)⟩
 ·exact hok X rfl rfl rfl hX hdr run n hrun hrd args σ o e σ1 v hlen hcode ho hv μ w aU hs hr
theorem Hw (hX:X.Ok G)(hdr:X.P.follows .mixedOrders=true) {f:Nat} {F:AF} (hok:bI X.P G f F=true) {run:Run} {n:Nat} (hrun:lQ X.P G run) {args:List AV} {σ:St} {o:Out} {e:Env} {σ1:St} {v:AV} (hlen:args.length≤F.nt)
 (hcode:bF X run n F.code (gW 0 args) σ=some (o,e,σ1)) (ho:o= .normal∨o= .ret) (hv:tC X.P F.res e σ1=some v) {μ:Mu} {w:World} {aU:Array Value} (hs:gK G μ σ w) (hr:aP μ w args aU.toList):D9 X.P f aU w (After G μ σ w v σ1):=by
 obtain⟨fn,c,hfn,hc,hnt,hen,hwp⟩:=VR hX hdr hok
 exact⟨hen aU w,fun u=>callsD_of_wp hfn hc (hwp run n hrun args σ o e σ1 v hlen hcode ho hv μ w aU hs hr)⟩
theorem After.Pv {r:AV} {σ' σ1:St} {v:AV} {e':Ending} {w':World} (hs:gK G μ σ w)(hn:norm σ v σ1=(r,σ'))(h:After G μ σ w v σ1 e' w'):After G μ σ w r σ' e' w':=by
 obtain⟨u,oZ,he,hu2,hst⟩:=h
 unfold norm at hn
 split at hn
 ·rename_i hfl
  simp only [Bool.and_eq_true] at hfl
  cases hn
  exact⟨u,μ,he,aO.flat _ _ hfl.1 hu2,Step.norm hs hst (kV _ _ hfl.2)⟩
 ·cases hn
  exact⟨u,oZ,he,hu2,hst⟩
theorem CallsD.ZC {P:Program} {f:Nat} {aU:Array Value} {w:World} {R R':Ending→World→Prop} (h:D9 P f aU w R)(hr:∀e w',R e w'→R' e w'):D9 P f aU w R':=
 ⟨h.1,fun u=>(h.2 u).mono fun e u' w' q=>⟨q.1,hr _ _ q.2⟩⟩
theorem Lr (hX:X.Sound G):∀n,lQ X.P G (aFn X n)∧EW X G (aFn X n)
 | 0=>⟨(by intro f args σ r σ' h;cases h),(by intro f _ args σ r σ' h;cases h)⟩
 | n+1=>by
   obtain⟨ih,ihd⟩:=Lr hX n
   constructor
   ·intro f args σ r σ' h
    simp only [aFn] at h
    split at h
    ·rename_i g hg
     exact hX.ok.iE f g hg _ _ _ _ h
    ·rename_i hp
     split at h
     ·rename_i F hF
      intro μ w aU hs hr
      split at h
      ·rename_i hlen
       have main:∀(o:Out) (e:Env) (σ1:St),bF X (aFn X n) n F.code (gW 0 args) σ=some (o,e,σ1)→o= .normal∨o= .ret→(tC X.P F.res e σ1).map (fun v=>norm σ v σ1)=some (r,σ')→Does X.P f aU w (After G μ σ w r σ'):=by
        intro o e σ1 hcode ho hmap
        rw [Option.map_eq_some_iff] at hmap
        obtain⟨v,hv,Bj⟩:=hmap
        obtain⟨he,hc⟩:=Lp hX.ok hX.draws (hX.fns f F hp hF) ih ihd hlen hcode ho hv hs hr
        exact .inl ⟨he aU w,hc.mono fun e' w' q=>q.Pv hs Bj⟩
       split at h
       ·rename_i e σ1 hcode;exact main _ _ _ hcode (.inl rfl) h
       ·rename_i e σ1 hcode;exact main _ _ _ hcode (.inr rfl) h
       ·cases h
      ·cases h
     ·cases h
   ·intro f hdk args σ r σ' h
    obtain⟨hp,Xg⟩:=hX.Oq f hdk
    simp only [aFn,hp] at h
    split at h
    ·rename_i F hF
     intro μ w aU hs hr
     split at h
     ·rename_i hlen
      have main:∀(o:Out) (e:Env) (σ1:St),bF X (aFn X n) n F.code (gW 0 args) σ=some (o,e,σ1)→o= .normal∨o= .ret→(tC X.P F.res e σ1).map (fun v=>norm σ v σ1)=some (r,σ')→D9 X.P f aU w (After G μ σ w r σ'):=by
            intro o e σ1 hcode ho hmap
            rw [Option.map_eq_some_iff] at hmap
            obtain⟨v,hv,Bj⟩:=hmap
            exact CallsD.ZC (Hw hX.ok hX.draws (Xg F hF) ih hlen hcode ho hv hs hr) fun e' w' q=>q.Pv hs Bj
      split at h
      ·rename_i e σ1 hcode;exact main _ _ _ hcode (.inl rfl) h
      ·rename_i e σ1 hcode;exact main _ _ _ hcode (.inr rfl) h
      ·cases h
     ·cases h
    ·cases h
theorem ZE (hX:X.Sound G)(n:Nat):lQ X.P G (aFn X n):=(Lr hX n).1
theorem Aw.does (hX:X.Sound G) {f:Nat} {args:List AV} {Q:AV→St→Prop} (h:Aw X f args σ Q)(hs:gK G μ σ w) {aU:Array Value} (hr:aP μ w args aU.toList) :
 Does X.P f aU w fun e w'=>∃r σ',Q r σ'∧After G μ σ w r σ' e w':=by
 obtain⟨n,⟨r,σ'⟩,h1,h2⟩:=h
 exact(ZE hX n f args σ r σ' h1 μ w aU hs hr).mono fun e w' ha=>⟨r,σ',h2,ha⟩
theorem Does.calls {P:Program} {f:Nat} {aU:Array Value} {R:Ending→World→Prop} (h:Does P f aU w R)(he:Enters P f):Calls P f aU w R:=by
 rcases h with ⟨_,h⟩ | ⟨v,w',h1,_⟩
 ·exact h
 ·rw [he aU w] at h1;cases h1
theorem Aw.calls (hX:X.Sound G) {f:Nat} {args:List AV} {Q:AV→St→Prop} (h:Aw X f args σ Q)(he:Enters X.P f)(hs:gK G μ σ w) {aU:Array Value} (hr:aP μ w args aU.toList) :
 Calls X.P f aU w fun e w'=>∃r σ',Q r σ'∧After G μ σ w r σ' e w':=(h.does hX hs hr).calls he
end
end Go.bP
