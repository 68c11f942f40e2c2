/- Texts of this claim, joined: Abs3, Abs13, Abs14, Abs15, Abs16, Abs17, Abs60, Abs61, Abs62, Abs18, Abs19. -/
import Derived.Test.YtnbdedokjfpckaaGreatDoorM01
import Derived.LoopN
import Derived.Scope
import Derived.Orders
import Derived.Defers
set_option linter.unusedVariables false
set_option linter.unusedSimpArgs false
namespace Go.cO
def Ex {α:Type} (g:Nat→Option α)(Q:α→Prop):Prop:=∃n r,g n=some r∧Q r
def Run.le (r r':Run):Prop:=∀f args σ x,r f args σ=some x→r' f args σ=some x
theorem Eu {X:Ctx} {r r':Run} (h:r.le r') {ρ:bH→AV} {op:dG} {σ:St} {x:AV×St} (hx:dD X r ρ op σ=some x):dD X r' ρ op σ=some x:=by
 cases op with
 | call f args=>
   simp only [dD] at hx ⊢
   split at hx
   ·exact h _ _ _ _ hx
   ·simp at hx
 | inv y m args=>
   simp only [dD] at hx ⊢
   split at hx
   ·split at hx
    ·exact h _ _ _ _ hx
    ·simp at hx
   ·simp at hx
 | _=>exact hx
theorem nM {X:Ctx} {r r':Run} (h:r.le r') {e:Env} {a:AI} {σ:St} {x:AV×St} (hx:cZ X r e a σ=some x):cZ X r' e a σ=some x:=by
 unfold cZ at *
 cases hg:a.gd with
 | none=>rw [hg] at hx;exact Eu h hx
 | some g=>
   rw [hg] at hx
   simp only at hx ⊢
   cases hw:dW e (some g) with
   | none=>rw [hw] at hx;simp at hx
   | some c=>
     rw [hw] at hx
     simp only at hx ⊢
     by_cases hp:a.op.pure=true
     ·simpa only [hp,if_true] using hx
     ·simp only [hp,if_false,Bool.false_eq_true] at hx ⊢
      by_cases hc:c=true
      ·simp only [hc,if_true] at hx ⊢
       split at hx
       ·rename_i hall;rw [if_pos hall];exact Eu h hx
       ·simp at hx
      ·simpa only [hc,if_false,Bool.false_eq_true] using hx
theorem tJ {X:Ctx} {r r':Run} (h:r.le r'):∀{ops:List AI} {e:Env} {σ:St} {x:Env×St},kR X r ops e σ=some x→kR X r' ops e σ=some x
 | [],_,_,_,hx=>hx
 | a :: ops,e,σ,x,hx=>by
   simp only [kR] at hx ⊢
   cases hs:cZ X r e a σ with
   | none=>rw [hs] at hx;simp at hx
   | some y=>rw [hs] at hx;rw [nM h hs];exact tJ h hx
theorem tK {X:Ctx} {r r':Run} (h:r.le r'):∀{ops:List (AI×List AI)} {e:Env} {σ:St} {x:Env×St},qZ X r ops e σ=some x→qZ X r' ops e σ=some x
 | [],_,_,_,hx=>hx
 | (a,ag) :: ops,e,σ,x,hx=>by
   simp only [qZ] at hx ⊢
   cases hs:cZ X r e a σ with
   | none=>rw [hs] at hx;simp at hx
   | some y=>
     rw [hs] at hx;rw [nM h hs]
     simp only at hx ⊢
     split at hx
     ·rename_i hall;rw [if_pos hall];exact tK h hx
     ·simp at hx
theorem nN {live:List Nat} {b b':Env→St→Option (Out×Env×St)} (h:∀e σ x,b e σ=some x→b' e σ=some x) :
 ∀ {n m:Nat} {e:Env} {σ:St} {x:Out×Env×St},n≤m→iY live b n e σ=some x→iY live b' m e σ=some x
 | 0,_,_,_,_,_,hx=>by simp [iY] at hx
 | n+1,0,_,_,_,hn,_=>by omega
 | n+1,m+1,e,σ,x,hn,hx=>by
   simp only [iY] at hx ⊢
   cases hb:b (clear live e) σ with
   | none=>rw [hb] at hx;simp at hx
   | some y=>
     rw [hb] at hx;rw [h _ _ _ hb]
     obtain⟨o,e',σ'⟩:=y
     cases o with
     | normal=>exact nN h (by omega) hx
     | exit id=>exact hx
     | ret=>exact hx
theorem jB {X:Ctx} {r r':Run} (h:r.le r') {n m:Nat} (hn:n≤m):∀{c:AC} {e:Env} {σ:St} {x:Out×Env×St},bJ X r n c e σ=some x→bJ X r' m c e σ=some x:=by
 intro c
 induction c with
 | skip=>intro e σ x hx;exact hx
 | exit id=>intro e σ x hx;exact hx
 | ret=>intro e σ x hx;exact hx
 | reg ops=>
   intro e σ x hx
   simp only [bJ] at hx ⊢
   cases hs:kR X r ops e σ with
   | none=>rw [hs] at hx;simp at hx
   | some y=>rw [hs] at hx;rw [tJ h hs];exact hx
 | l9 ops=>
   intro e σ x hx
   simp only [bJ] at hx ⊢
   cases hs:qZ X r ops e σ with
   | none=>rw [hs] at hx;simp at hx
   | some y=>rw [hs] at hx;rw [tK h hs];exact hx
 | seq a b iha ihb=>
   intro e σ x hx
   simp only [bJ] at hx ⊢
   cases hs:bJ X r n a e σ with
   | none=>rw [hs] at hx;simp at hx
   | some y=>
     rw [hs] at hx;rw [iha hs]
     obtain⟨o,e',σ'⟩:=y
     cases o with
     | normal=>exact ihb hx
     | exit id=>exact hx
     | ret=>exact hx
 | cond y a b iha ihb=>
   intro e σ x hx
   simp only [bJ] at hx ⊢
   split at hx <;> first | exact iha hx | exact ihb hx | simp at hx
 | blk id c ih=>
   intro e σ x hx
   simp only [bJ] at hx ⊢
   cases hs:bJ X r n c e σ with
   | none=>rw [hs] at hx;simp at hx
   | some y=>rw [hs] at hx;rw [ih hs];exact hx
 | loop live c ih=>
   intro e σ x hx
   simp only [bJ] at hx ⊢
   exact nN (fun _ _ _ hb=>ih hb) hn hx
 | cut live c ih=>
   intro e σ x hx
   simp only [bJ] at hx ⊢
   exact ih hx
theorem Ew (X:Ctx):∀n,(aFn X n).le (aFn X (n+1))
 | 0=>fun _ _ _ _ hx=>by simp [aFn] at hx
 | n+1=>fun f args σ x hx=>by
   rw [aFn] at hx ⊢
   cases hp:X.lD f with
   | some g=>rw [hp] at hx;exact hx
   | none=>
     rw [hp] at hx
     simp only at hx ⊢
     cases hf:X.fns f with
     | none=>rw [hf] at hx;simp at hx
     | some F=>
       rw [hf] at hx
       simp only at hx ⊢
       split at hx
       ·rename_i hl
        rw [if_pos hl]
        cases hc:bJ X (aFn X n) n F.code (eX 0 args) σ with
        | none=>rw [hc] at hx;simp at hx
        | some y=>rw [hc] at hx;rw [jB (Ew X n) (Nat.le_succ n) hc];exact hx
       ·simp at hx
theorem kH (X:Ctx) {n m:Nat} (h:n≤m):(aFn X n).le (aFn X m):=by
 induction h with
 | refl=>exact fun _ _ _ _ h=>h
 | step _ ih=>exact fun f args σ x hx=>Ew X _ _ _ _ _ (ih _ _ _ _ hx)
def yF (X:Ctx)(f:Nat)(args:List AV)(σ:St)(Q:AV→St→Prop):Prop:=Ex (fun n=>aFn X n f args σ) fun r=>Q r.1 r.2
def EvC (X:Ctx)(c:AC)(e:Env)(σ:St)(Q:Out→Env→St→Prop):Prop:=Ex (fun n=>bJ X (aFn X n) n c e σ) fun r=>Q r.1 r.2.1 r.2.2
def EvL (X:Ctx)(live:List Nat)(c:AC)(e:Env)(σ:St)(Q:Out→Env→St→Prop):Prop:=Ex (fun n=>iY live (bJ X (aFn X n) n c) n e σ) fun r=>Q r.1 r.2.1 r.2.2
def EvO (X:Ctx)(ops:List AI)(e:Env)(σ:St)(Q:Env→St→Prop):Prop:=Ex (fun n=>kR X (aFn X n) ops e σ) fun r=>Q r.1 r.2
def EvD (X:Ctx)(ops:List (AI×List AI))(e:Env)(σ:St)(Q:Env→St→Prop):Prop:=Ex (fun n=>qZ X (aFn X n) ops e σ) fun r=>Q r.1 r.2
def EvS (X:Ctx)(e:Env)(a:AI)(σ:St)(Q:AV→St→Prop):Prop:=Ex (fun n=>cZ X (aFn X n) e a σ) fun r=>Q r.1 r.2
def opt {α:Type} (o:Option α)(Q:α→Prop):Prop:=∃r,o=some r∧Q r
theorem gy {α:Type} (a:α)(Q:α→Prop):opt (some a) Q↔Q a:=⟨fun⟨_,h,q⟩=>(by cases h;exact q),fun q=>⟨a,rfl,q⟩⟩
theorem fJ {α:Type} (Q:α→Prop):opt none Q↔False:=⟨fun⟨_,h,_⟩=>(by cases h),False.elim⟩
theorem dL {α β:Type} (f:α→β)(o:Option α)(Q:β→Prop):opt (o.map f) Q↔opt o fun a=>Q (f a):=by
 cases o <;> simp [gy,fJ]
theorem ND {α β:Type} (f:α→Option β)(o:Option α)(Q:β→Prop):opt (o.bind f) Q↔opt o fun a=>opt (f a) Q:=by
 cases o <;> simp [gy,fJ]
theorem dM {α:Type} (o:Option α)(Q:α→Prop):Ex (fun _=>o) Q↔opt o Q:=⟨fun⟨_,r,h,q⟩=>⟨r,h,q⟩,fun⟨r,h,q⟩=>⟨0,r,h,q⟩⟩
section
variable {X:Ctx} {e:Env} {σ:St} {Q:Out→Env→St→Prop}
theorem Ey:EvC X .skip e σ Q↔Q .normal e σ:=by simp [EvC,bJ,dM,gy]
theorem Ez {id:Nat} :EvC X (.exit id) e σ Q↔Q (.exit id) e σ:=by simp [EvC,bJ,dM,gy]
theorem Jb:EvC X .ret e σ Q↔Q .ret e σ:=by simp [EvC,bJ,dM,gy]
theorem Jc {ops:List AI} :EvC X (.reg ops) e σ Q↔EvO X ops e σ fun e' σ'=>Q .normal e' σ':=by
 constructor
 ·rintro ⟨n,r,h,q⟩
  try dsimp only at h
  simp only [bJ,Option.map_eq_some_iff] at h
  obtain⟨y,hy,rfl⟩:=h
  exact⟨n,y,hy,q⟩
 ·rintro ⟨n,r,h,q⟩
  try dsimp only at h
  exact⟨n,_,by simp only [bJ];rw [h];rfl,q⟩
theorem Jd {ops:List (AI×List AI)} :EvC X (.l9 ops) e σ Q↔EvD X ops e σ fun e' σ'=>Q .normal e' σ':=by
 constructor
 ·rintro ⟨n,r,h,q⟩
  try dsimp only at h
  simp only [bJ,Option.map_eq_some_iff] at h
  obtain⟨y,hy,rfl⟩:=h
  exact⟨n,y,hy,q⟩
 ·rintro ⟨n,r,h,q⟩
  try dsimp only at h
  exact⟨n,_,by simp only [bJ];rw [h];rfl,q⟩
def Out.next (K:Env→St→Prop)(Q:Out→Env→St→Prop):Out→Env→St→Prop
 | .normal,e,σ=>K e σ
 | o,e,σ=>Q o e σ
theorem Out.gW (K:Env→St→Prop)(Q:Out→Env→St→Prop)(e:Env)(σ:St):Out.next K Q .normal e σ=K e σ:=rfl
theorem Out.kX (K:Env→St→Prop)(Q:Out→Env→St→Prop)(e:Env)(σ:St)(id:Nat):Out.next K Q (.exit id) e σ=Q (.exit id) e σ:=rfl
theorem Out.nO (K:Env→St→Prop)(Q:Out→Env→St→Prop)(e:Env)(σ:St):Out.next K Q .ret e σ=Q .ret e σ:=rfl
theorem jg {a b:AC} :EvC X (.seq a b) e σ Q↔EvC X a e σ (Out.next (fun e' σ'=>EvC X b e' σ' Q) Q):=by
 constructor
 ·rintro ⟨n,r,h,q⟩
  try dsimp only at h
  simp only [bJ] at h
  cases hs:bJ X (aFn X n) n a e σ with
  | none=>rw [hs] at h;simp at h
  | some y=>
    rw [hs] at h
    obtain⟨o,e',σ'⟩:=y
    refine⟨n,_,hs,?_⟩
    cases o with
    | normal=>exact⟨n,r,h,q⟩
    | exit id=>simp only [Option.some.injEq] at h;subst h;exact q
    | ret=>simp only [Option.some.injEq] at h;subst h;exact q
 ·rintro ⟨n,⟨o,e',σ'⟩,h,q⟩
  try dsimp only at h
  cases o with
  | normal=>
    obtain⟨m,r,hm,q'⟩:=q
    try dsimp only at hm
    refine⟨max n m,r,?_,q'⟩
    simp only [bJ]
    rw [jB (kH X (Nat.le_max_left n m)) (Nat.le_max_left n m) h]
    exact jB (kH X (Nat.le_max_right n m)) (Nat.le_max_right n m) hm
  | exit id=>exact⟨n,_,by simp only [bJ];rw [h],q⟩
  | ret=>exact⟨n,_,by simp only [bJ];rw [h],q⟩
def CZ (v:AV)(A B:Prop):Prop:=match v with | .b true=>A | .b false=>B | _=>False
theorem KO {A B:Prop} :CZ (.b true) A B↔A:=Iff.rfl
theorem Hu {A B:Prop} :CZ (.b false) A B↔B:=Iff.rfl
theorem cndV_b {t:Bool} {A B:Prop} :CZ (.b t) A B↔(t=true→A)∧(t=false→B):=by cases t <;> simp [CZ]
theorem EC {x:bH} {a b:AC} :EvC X (.cond x a b) e σ Q↔CZ (x.ev e) (EvC X a e σ Q) (EvC X b e σ Q):=by
 cases hx:x.ev e with
 | b t=>cases t <;> simp [EvC,bJ,hx,CZ]
 | _=>simp only [EvC,bJ,hx,dM,fJ,CZ]
def Out.wI (id:Nat)(Q:Out→Env→St→Prop):Out→Env→St→Prop
 | .exit j,e,σ=>if j=id then Q .normal e σ else Q (.exit j) e σ
 | o,e,σ=>Q o e σ
theorem Out.tN (id:Nat)(Q:Out→Env→St→Prop)(e:Env)(σ:St):Out.wI id Q .normal e σ=Q .normal e σ:=rfl
theorem Out.oG (id j:Nat)(Q:Out→Env→St→Prop)(e:Env)(σ:St):Out.wI id Q (.exit j) e σ=if j=id then Q .normal e σ else Q (.exit j) e σ:=rfl
theorem Out.Bo (id:Nat)(Q:Out→Env→St→Prop)(e:Env)(σ:St):Out.wI id Q .ret e σ=Q .ret e σ:=rfl
theorem xJ {id:Nat} {c:AC} :EvC X (.blk id c) e σ Q↔EvC X c e σ (Out.wI id Q):=by
 constructor
 ·rintro ⟨n,r,h,q⟩
  try dsimp only at h
  simp only [bJ] at h
  cases hs:bJ X (aFn X n) n c e σ with
  | none=>rw [hs] at h;simp at h
  | some y=>
    rw [hs] at h
    obtain⟨o,e',σ'⟩:=y
    refine⟨n,_,hs,?_⟩
    cases o with
    | exit j=>
      simp only [Option.some.injEq] at h;subst h
      simp only [Out.wI]
      by_cases hj:j=id <;> simpa [hj] using q
    | normal=>simp only [Option.some.injEq] at h;subst h;exact q
    | ret=>simp only [Option.some.injEq] at h;subst h;exact q
 ·rintro ⟨n,⟨o,e',σ'⟩,h,q⟩
  try dsimp only at h
  cases o with
  | exit j=>
    refine⟨n,_,by simp only [bJ];rw [h],?_⟩
    simp only [Out.wI] at q
    by_cases hj:j=id <;> simpa [hj] using q
  | normal=>exact⟨n,_,by simp only [bJ];rw [h],q⟩
  | ret=>exact⟨n,_,by simp only [bJ];rw [h],q⟩
theorem mM {live:List Nat} {c:AC} :EvC X (.cut live c) e σ Q↔EvC X c (clear live e) σ Q:=Iff.rfl
theorem tV {live:List Nat} {c:AC} :EvC X (.loop live c) e σ Q↔EvL X live c e σ Q:=Iff.rfl
theorem jC {live:List Nat} {c:AC} :EvL X live c e σ Q↔EvC X c (clear live e) σ (Out.next (fun e' σ'=>EvL X live c e' σ' Q) Q):=by
 constructor
 ·rintro ⟨n,r,h,q⟩
  try dsimp only at h
  cases n with
  | zero=>simp [iY] at h
  | succ n=>
    simp only [iY] at h
    cases hs:bJ X (aFn X (n+1)) (n+1) c (clear live e) σ with
    | none=>rw [hs] at h;simp at h
    | some y=>
      rw [hs] at h
      obtain⟨o,e',σ'⟩:=y
      refine⟨n+1,_,hs,?_⟩
      cases o with
      | normal=>exact⟨n+1,r,nN (fun _ _ _ h=>h) (Nat.le_succ n) h,q⟩
      | exit id=>simp only [Option.some.injEq] at h;subst h;exact q
      | ret=>simp only [Option.some.injEq] at h;subst h;exact q
 ·rintro ⟨n,⟨o,e',σ'⟩,h,q⟩
  try dsimp only at h
  cases o with
  | normal=>
    obtain⟨m,r,hm,q'⟩:=q
    try dsimp only at hm
    refine⟨max n m+1,r,?_,q'⟩
    simp only [iY]
    rw [jB (kH X (Nat.le_trans (Nat.le_max_left n m) (Nat.le_succ _))) (Nat.le_trans (Nat.le_max_left n m) (Nat.le_succ _)) h]
    exact nN (fun _ _ _ hb=>jB (kH X (Nat.le_trans (Nat.le_max_right n m) (Nat.le_succ _))) (Nat.le_trans (Nat.le_max_right n m) (Nat.le_succ _)) hb) (Nat.le_max_right n m) hm
  | exit id=>
    refine⟨n+1,_,?_,q⟩
    simp only [iY]
    rw [jB (kH X (Nat.le_succ n)) (Nat.le_succ n) h]
  | ret=>
    refine⟨n+1,_,?_,q⟩
    simp only [iY]
    rw [jB (kH X (Nat.le_succ n)) (Nat.le_succ n) h]
end
section
variable {X:Ctx} {e:Env} {σ:St}
theorem Je {Q:Env→St→Prop} :EvO X [] e σ Q↔Q e σ:=by simp [EvO,kR,dM,gy]
theorem ED {a:AI} {r:List AI} {Q:Env→St→Prop} :EvO X (a :: r) e σ Q↔EvS X e a σ fun v σ'=>EvO X r (put a.d v e) σ' Q:=by
 constructor
 ·rintro ⟨n,x,h,q⟩
  try dsimp only at h
  simp only [kR] at h
  cases hs:cZ X (aFn X n) e a σ with
  | none=>rw [hs] at h;simp at h
  | some y=>rw [hs] at h;exact⟨n,y,hs,n,x,h,q⟩
 ·rintro ⟨n,y,hs,m,x,h,q⟩
  try dsimp only at h hs
  refine⟨max n m,x,?_,q⟩
  simp only [kR]
  rw [nM (kH X (Nat.le_max_left n m)) hs]
  exact tJ (kH X (Nat.le_max_right n m)) h
theorem Jf {Q:Env→St→Prop} :EvD X [] e σ Q↔Q e σ:=by simp [EvD,qZ,dM,gy]
theorem EF {a:AI} {ag:List AI} {r:List (AI×List AI)} {Q:Env→St→Prop} :
 EvD X ((a,ag) :: r) e σ Q↔EvS X e a σ fun v σ'=>ag.all (mY X e σ')=true∧EvD X r (put a.d v e) σ' Q:=by
 constructor
 ·rintro ⟨n,x,h,q⟩
  try dsimp only at h
  simp only [qZ] at h
  cases hs:cZ X (aFn X n) e a σ with
  | none=>rw [hs] at h;simp at h
  | some y=>
    rw [hs] at h
    simp only at h
    split at h
    ·rename_i hall;exact⟨n,y,hs,hall,n,x,h,q⟩
    ·simp at h
 ·rintro ⟨n,y,hs,hall,m,x,h,q⟩
  try dsimp only at h hs
  refine⟨max n m,x,?_,q⟩
  simp only [qZ]
  rw [nM (kH X (Nat.le_max_left n m)) hs]
  simp only [hall,if_true]
  exact tK (kH X (Nat.le_max_right n m)) h
variable {Q:AV→St→Prop} {d:Option Nat}
def tX (X:Ctx)(f:AV)(args:List AV)(σ:St)(Q:AV→St→Prop):Prop:=match f with | .fn (.func k) first cap=>yF X k (first ++ args ++ cap) σ Q | _=>False
theorem NG {k:Nat} {first cap args:List AV} :tX X (.fn (.func k) first cap) args σ Q↔yF X k (first ++ args ++ cap) σ Q:=Iff.rfl
theorem NH {f:bH} {args:List bH} :EvS X e ⟨d,none,.call f args⟩ σ Q↔tX X (f.ev e) (args.map (bH.ev e)) σ Q:=by
 cases hf:f.ev e with
 | fn k a c=>cases k <;> simp [EvS,cZ,dD,hf,yF,dM,tX,fJ]
 | _=>simp only [EvS,cZ,dD,hf,dM,fJ,tX]
def invV (X:Ctx)(x:AV)(m:String)(args:List AV)(σ:St)(Q:AV→St→Prop):Prop:=match x with | .ic t v=>opt (X.meth t m v) (fun k=>yF X k.1 (k.2 :: args) σ Q) | _=>False
theorem VT {t:Nat} {v:AV} {m:String} {args:List AV} :invV X (.ic t v) m args σ Q↔opt (X.meth t m v) (fun k=>yF X k.1 (k.2 :: args) σ Q):=Iff.rfl
theorem VU {x:bH} {m:String} {args:List bH} :EvS X e ⟨d,none,.inv x m args⟩ σ Q↔invV X (x.ev e) m (args.map (bH.ev e)) σ Q:=by
 cases hf:x.ev e with
 | ic t v=>cases hm:X.meth t m v <;> simp [EvS,cZ,dD,hf,hm,yF,dM,invV,fJ,gy]
 | _=>simp only [EvS,cZ,dD,hf,dM,fJ,invV]
theorem EvS_op {op:dG} (h:(match op with | .call _ _ | .inv _ _ _=>false | _=>true)=true):EvS X e ⟨d,none,op⟩ σ Q↔opt (dO X.P (bH.ev e) op σ) fun r=>Q r.1 r.2:=by
 cases op <;> first | (simp at h;done) | simp only [EvS,cZ,dD,dM]
theorem NI {op:dG} {g:Nat×Bool} (h:op.pure=true):EvS X e ⟨d,some g,op⟩ σ Q↔opt (dW e (some g)) fun c=>
 opt (iT X.P c e op σ) fun v=>Q v σ:=by
 cases hw:dW e (some g) with
 | none=>simp [EvS,cZ,hw,dM,fJ]
 | some c=>simp only [EvS,cZ,hw,h,if_true,dM,gy,dL]
def ifV (c:Bool)(A B:Prop):Prop:=if c then A else B
theorem NJ {A B:Prop} :ifV true A B↔A:=Iff.rfl
theorem KP {A B:Prop} :ifV false A B↔B:=Iff.rfl
theorem ifV_b {t:Bool} {A B:Prop} :ifV t A B↔(t=true→A)∧(t=false→B):=by cases t <;> simp [ifV]
def yG (X:Ctx)(ρ:bH→AV)(op:dG)(σ:St)(Q:AV→St→Prop):Prop:=Ex (fun n=>dD X (aFn X n) ρ op σ) fun r=>Q r.1 r.2
theorem Jg {op:dG} {g:Nat×Bool} (h:op.pure=false):EvS X e ⟨d,some g,op⟩ σ Q↔opt (dW e (some g)) fun c=>
 ifV c (op.bQ.all (fun o=>(o.ev e).cnd)=true∧yG X (fun o=>(o.ev e).val) op σ Q) (Q (.tu []) σ):=by
 cases hw:dW e (some g) with
 | none=>simp [EvS,cZ,hw,dM,fJ]
 | some c=>
   simp only [EvS,cZ,hw,h,gy,ifV,yG]
   cases c with
   | false=>simp [dM,gy]
   | true=>
     by_cases hc:op.bQ.all (fun o=>(o.ev e).cnd)=true
     ·simp [hc]
     ·simp [hc,dM,fJ]
theorem Bq {ρ:bH→AV} {f:bH} {args:List bH} :yG X ρ (.call f args) σ Q↔tX X (ρ f) (args.map ρ) σ Q:=by
 cases hf:ρ f with
 | fn k a c=>cases k <;> simp [yG,dD,hf,yF,dM,tX,fJ]
 | _=>simp only [yG,dD,hf,dM,fJ,tX]
theorem EG {ρ:bH→AV} {x:bH} {m:String} {args:List bH} :yG X ρ (.inv x m args) σ Q↔invV X (ρ x) m (args.map ρ) σ Q:=by
 cases hf:ρ x with
 | ic t v=>cases hm:X.meth t m v <;> simp [yG,dD,hf,hm,yF,dM,invV,fJ,gy]
 | _=>simp only [yG,dD,hf,dM,fJ,invV]
theorem b_ {ρ:bH→AV} {op:dG} (h:(match op with | .call _ _ | .inv _ _ _=>false | _=>true)=true):yG X ρ op σ Q↔opt (dO X.P ρ op σ) fun r=>Q r.1 r.2:=by
 cases op <;> first | (simp at h;done) | simp only [yG,dD,dM]
def NK:Out→Bool
 | .exit _=>false
 | _=>true
theorem NM {f:Nat} {F:AF} {args:List AV} (hp:X.lD f=none)(hf:X.fns f=some F)(hl:args.length≤F.nt) :
 yF X f args σ Q↔EvC X F.code (eX 0 args) σ fun o e σ'=>NK o=true∧opt ((mg X.P F.res e σ').map fun v=>norm σ v σ') fun r=>Q r.1 r.2:=by
 constructor
 ·rintro ⟨n,x,h,q⟩
  try dsimp only at h
  cases n with
  | zero=>simp [aFn] at h
  | succ n=>
    simp only [aFn,hp,hf,hl,if_true] at h
    cases hc:bJ X (aFn X n) n F.code (eX 0 args) σ with
    | none=>rw [hc] at h;simp at h
    | some y=>
      rw [hc] at h
      obtain⟨o,e',σ'⟩:=y
      refine⟨n,_,hc,?_⟩
      cases o with
      | exit j=>simp at h
      | normal=>exact⟨rfl,x,h,q⟩
      | ret=>exact⟨rfl,x,h,q⟩
 ·rintro ⟨n,⟨o,e',σ'⟩,hc,ho,x,hv,q⟩
  try dsimp only at hc
  refine⟨n+1,x,?_,q⟩
  simp only [aFn,hp,hf,hl,if_true,hc]
  cases o with
  | exit j=>simp [NK] at ho
  | normal=>exact hv
  | ret=>exact hv
theorem NP {f:Nat} {g:List AV→St→Option (AV×St)} {args:List AV} (hp:X.lD f=some g):yF X f args σ Q↔opt (g args σ) fun r=>Q r.1 r.2:=by
 constructor
 ·rintro ⟨n,x,h,q⟩
  try dsimp only at h
  cases n with
  | zero=>simp [aFn] at h
  | succ n=>simp only [aFn,hp] at h;exact⟨x,h,q⟩
 ·rintro ⟨x,h,q⟩
  exact⟨1,x,by simp only [aFn,hp];exact h,q⟩
theorem VW {f:Nat} {args:List AV} {v:AV} {σ':St} (h:yF X f args σ fun a s=>a=v∧s=σ'):yF X f args σ Q↔Q v σ':=by
 obtain⟨n,x,hx,h1,h2⟩:=h
 constructor
 ·rintro ⟨m,y,hy,q⟩
  try dsimp only at hx hy
  have a:=kH X (Nat.le_max_left n m) _ _ _ _ hx
  have b:=kH X (Nat.le_max_right n m) _ _ _ _ hy
  rw [a] at b
  obtain rfl:=Option.some.inj b
  exact h1▸h2▸q
 ·intro q
  exact⟨n,x,hx,by show Q x.1 x.2;rw [h1,h2];exact q⟩
theorem yH {f:Nat} {args:List AV} {Q':AV→St→Prop} (h:yF X f args σ Q)(hq:∀v s,Q v s→Q' v s):yF X f args σ Q':=by
 obtain⟨n,x,hx,q⟩:=h
 exact⟨n,x,hx,hq _ _ q⟩
end
theorem j_ {X:Ctx} {c:AC} {e:Env} {σ:St} {Q Q':Out→Env→St→Prop} (h:EvC X c e σ Q)(hq:∀o e s,Q o e s→Q' o e s):EvC X c e σ Q':=by
 obtain⟨n,x,hx,q⟩:=h
 exact⟨n,x,hx,hq _ _ _ q⟩
theorem NQ {X:Ctx} {live:List Nat} {c:AC} {e:Env} {σ:St} {Q Q':Out→Env→St→Prop} (h:EvL X live c e σ Q)(hq:∀o e s,Q o e s→Q' o e s):EvL X live c e σ Q':=by
 obtain⟨n,x,hx,q⟩:=h
 exact⟨n,x,hx,hq _ _ _ q⟩
section
variable {X:Ctx}
@[congr] theorem EvL_congr {l:List Nat} {e e':Env} {a:AC} {σ σ':St} {Q:Out→Env→St→Prop} (he:e=e') (h:σ=σ'):EvL X l a e σ Q↔EvL X l a e' σ' Q:=by rw [h,he]
@[congr] theorem EvF_congr {f:Nat} {a a':List AV} {σ σ':St} {Q:AV→St→Prop} (ha:a=a') (h:σ=σ'):yF X f a σ Q↔yF X f a' σ' Q:=by rw [h,ha]
@[congr] theorem callV_congr {f f':AV} {a a':List AV} {σ σ':St} {Q:AV→St→Prop} (hf:f=f') (ha:a=a') (h:σ=σ'):tX X f a σ Q↔tX X f' a' σ' Q:=by rw [h,ha,hf]
@[congr] theorem invV_congr {f f':AV} {m:String} {a a':List AV} {σ σ':St} {Q:AV→St→Prop} (hf:f=f') (ha:a=a') (h:σ=σ'):invV X f m a σ Q↔invV X f' m a' σ' Q:=by rw [h,ha,hf]
@[congr] theorem opt_congr {α:Type} {o o':Option α} {Q:α→Prop} (h:o=o'):opt o Q↔opt o' Q:=by rw [h]
@[congr] theorem cndV_congr {v v':AV} {A B:Prop} (h:v=v'):CZ v A B↔CZ v' A B:=by rw [h]
@[congr] theorem ifV_congr {v v':Bool} {A B:Prop} (h:v=v'):ifV v A B↔ifV v' A B:=by rw [h]
end
attribute [simp ↓] Ey Ez Jb Jc Jd jg EC xJ tV mM Je ED Jf EF NH VU EvS_op NI Jg Bq EG b_
attribute [simp ↓] Out.gW Out.kX Out.nO Out.tN Out.oG Out.Bo gy fJ dL ND
attribute [simp] KO Hu cndV_b NJ KP ifV_b NG VT NK
attribute [simp] get put bH.ev bH.isC eX dG.bQ dW AV.val AV.cnd nH iT merge vX qY dO gQ iR GV Aq Vl Ar G9 G8 MS mg mG pz norm AV.flat AV.vY clear
end Go.cO
namespace Go.cO
def mO (ops:Array Oper):Option (Nat×Bool)→Option (Nat×Bool)→Bool
 | none,none=>true
 | some (j,w),some (n,w')=>w == w' && ((ops[j]?).bind (·.dst)) == some n
 | _,_=>false
def wJ (N:Nat):Option Nat→Bool
 | none=>true
 | some d=>decide (d<N)
def ny (P:Program)(G N:Nat)(ops:Array Oper)(o:Oper)(a:AI):Bool:=o.dst == a.d && wJ N a.d && mO ops o.guard a.gd && ni P G o.op a.op
def yI (P:Program)(G N:Nat)(ops:Array Oper):List Nat→List AI→Bool
 | [],[]=>true
 | i :: is,a :: xs=>(match ops[i]? with | some o=>ny P G N ops o a | none=>false) && yI P G N ops is xs
 | _,_=>false
def Enters (P:Program)(f:Nat):Prop:=∀(args:Array Value) (w:World),(callFunc f args).run P w= .ok (.enter f args) w
theorem kY {P:Program} {f:Nat} {fn:Func} (hf:P.funcs[f]? =some fn)(hn:(fn.name == "runtime.NumGoroutine")=false)(hb:fn.body.isSome=true):Enters P f:=by
 intro args w
 obtain⟨c,hc⟩:=Option.isSome_iff_exists.1 hb
 have h1:fn.name≠"runtime.NumGoroutine" :=by simpa using hn
 simp [callFunc,hf,h1,hc]
def After (G:Nat)(μ:Mu)(σ:St)(w:World)(r:AV)(σ':St)(e:Ending)(w':World):Prop:=∃v μ',e= .returned v∧aJ μ' w' r v∧Step G μ σ w μ' σ' w'
def Does (P:Program)(f:Nat)(aW:Array Value)(w:World)(R:Ending→World→Prop):Prop:=
 ((callFunc f aW).run P w= .ok (.enter f aW) w∧Calls P f aW w R)∨∃v w',(callFunc f aW).run P w= .ok (.value v) w'∧R (.returned v) w'
theorem Does.mono {P:Program} {f:Nat} {aW:Array Value} {w:World} {R R':Ending→World→Prop} (h:Does P f aW w R)(hr:∀e w',R e w'→R' e w'):Does P f aW w R':=by
 rcases h with ⟨h1,h2⟩ | ⟨v,w',h1,h2⟩
 ·exact .inl ⟨h1,h2.mono hr⟩
 ·exact .inr ⟨v,w',h1,hr _ _ h2⟩
def kP (P:Program)(G:Nat)(run:Run):Prop:=∀f args σ r σ',run f args σ=some (r,σ')→∀μ w (aW:Array Value),fH G μ σ w→aQ μ w args aW.toList→Does P f aW w (After G μ σ w r σ')
structure Ctx.Ok (X:Ctx)(G:Nat):Prop where
 meth:∀t m a k,X.meth t m a=some k→∀(μ:Mu) (v:Value) (w:World),aJ μ w a v→∃v',(method (X.P.types.size+Made.depth) t v m).run X.P w= .ok (k.1,v') w∧aJ μ w k.2 v'
 lD:∀f g,X.lD f=some g→∀args σ r σ',g args σ=some (r,σ')→∀μ w (aW:Array Value),fH G μ σ w→aQ μ w args aW.toList→Does X.P f aW w (After G μ σ w r σ')
structure dY (G N:Nat)(μ:Mu)(w:World)(e:Env)(tmps:Array Value):Prop where
 size:tmps.size=N
 rel:∀n,aJ μ w (get e n) (tmps.getD n undef)
section
variable {X:Ctx} {G N:Nat} {μ:Mu} {σ:St} {w:World}
theorem dY.mono {μ':Mu} {w':World} {e:Env} {tmps:Array Value} (h:dY G N μ w e tmps)(hm:μ.le μ')(hw:ji w w'):dY G N μ' w' e tmps:=
 ⟨h.size,fun n=>aJ.mono hm hw _ _ (h.rel n)⟩
theorem dY.put {e:Env} {act:Act} {d:Option Nat} {r:AV} {v:Value} (h:dY G N μ w e act.tmps)(hd:wJ N d=true)(hr:aJ μ w r v):dY G N μ w (cO.put d r e) (act.put d v).tmps:=by
 cases d with
 | none=>exact h
 | some d=>
   simp only [wJ,decide_eq_true_eq] at hd
   refine⟨by simpa [Act.put] using h.size,fun n=>?_⟩
   have hs:=h.size
   simp only [cO.put,Go.cO.get,Act.put]
   rw [Array.getD_eq_getD_getElem?,Array.getElem?_setIfInBounds]
   split
   ·rename_i he;subst he
    rw [if_pos (by omega)]
    exact hr
   ·rename_i he
    rw [←Array.getD_eq_getD_getElem?]
    exact h.rel n
theorem dY.clear {e:Env} {tmps:Array Value} (h:dY G N μ w e tmps)(l:List Nat):dY G N μ w (cO.clear l e) tmps:=by
 refine⟨h.size,fun n=>?_⟩
 have hg:get (cO.clear l e) n=get e n∨get (cO.clear l e) n= .u:=by
  unfold cO.clear
  induction l with
  | nil=>exact .inr rfl
  | cons d l ih=>
    simp only [List.map_cons,Go.cO.get]
    split
    ·rename_i he;subst he;exact .inl rfl
    ·exact ih
 rcases hg with hg | hg
 ·rw [hg];exact h.rel n
 ·rw [hg];trivial
theorem mP (hs:fH G μ σ w) {e:Env} {act:Act} (h:dY G N μ w e act.tmps) {x:Operand} {y:bH} (hk:bZ G x y=true):aJ μ w (y.ev e) (act.eval x):=by
 unfold bZ at hk
 split at hk
 ·simp only [beq_iff_eq] at hk;subst hk;exact h.rel _
 ·have:=AV.kG _ _ hk
  simp only [bH.ev]
  rw [←this]
  exact sO _
 ·simp only [Bool.and_eq_true,beq_iff_eq,decide_eq_true_eq] at hk
  obtain⟨rfl,hg⟩:=hk
  exact⟨_,0,hs.rC _ hg,rfl⟩
 ·simp only [beq_iff_eq] at hk;subst hk
  exact⟨#[],#[],rfl,rfl,rfl⟩
 ·cases hk
theorem Jh (hs:fH G μ σ w) {e:Env} {act:Act} (h:dY G N μ w e act.tmps)(l:List bH):oD G μ w l (bH.ev e) act.eval:=fun _ _ hk _=>mP hs h hk
theorem Ji (hs:fH G μ σ w) {e:Env} {act:Act} (h:dY G N μ w e act.tmps)(l:List bH)(hc:∀y∈l,(y.ev e).cnd=true):oD G μ w l (fun y=>(y.ev e).val) act.eval:=
 fun _ y hk hy=>qE (mP hs h hk) (hc y hy)
def NR:Option Value→Option Bool
 | some (.bool b)=>some b
 | _=>none
theorem oH {ops:Array Oper} {e:Env} {act:Act} {o:Oper} {g:Option (Nat×Bool)} {c:Bool} (h:dY G N μ w e act.tmps)(hk:mO ops o.guard g=true)(hw:dW e g=some c) :
 Region.wanted o (yielded ops act.tmps)=c:=by
 cases hg:o.guard with
 | none=>
   rw [hg] at hk
   cases g with
   | none=>simp only [dW,Option.some.injEq] at hw;subst hw;simp [Region.wanted,hg]
   | some g=>simp [mO] at hk
 | some jw=>
   rw [hg] at hk
   obtain⟨j,want⟩:=jw
   cases g with
   | none=>simp [mO] at hk
   | some g=>
     obtain⟨n,want'⟩:=g
     simp only [mO,Bool.and_eq_true,beq_iff_eq] at hk
     obtain⟨rfl,hd⟩:=hk
     have hrel:=h.rel n
     have hy:yielded ops act.tmps j=NR act.tmps[n]? :=by
        simp only [yielded,hd,Option.bind_some]
        rfl
     have hget:∀b,act.tmps.getD n undef= .bool b→act.tmps[n]? =some (.bool b):=by
        intro b hb
        simp only [Array.getD] at hb
        split at hb
        ·rename_i hlt;rw [Array.getElem?_eq_getElem hlt];exact congrArg some hb
        ·cases hb
     have hund:act.tmps.getD n undef=undef→NR act.tmps[n]? =none:=by
        intro hu
        simp only [Array.getD] at hu
        split at hu
        ·rename_i hlt;rw [Array.getElem?_eq_getElem hlt];rw [show act.tmps[n]=undef from hu];rfl
        ·rename_i hlt;rw [Array.getElem?_eq_none (by omega)];rfl
     simp only [dW] at hw
     simp only [Region.wanted,hg,hy]
     split at hw
     ·rename_i x hx
      rw [hx] at hrel
      simp only [aJ] at hrel
      rw [hget _ hrel]
      simp only [Option.some.injEq] at hw
      subst hw
      cases x <;> cases want <;> rfl
     ·rename_i c' x hx
      rw [hx] at hrel
      simp only [Option.some.injEq] at hw
      cases c' with
      | true=>
        simp only [aJ,if_true] at hrel
        rw [hget _ hrel]
        subst hw
        cases x <;> cases want <;> rfl
      | false=>
        simp only [aJ] at hrel
        have hr':act.tmps.getD n undef=undef:=hrel
        rw [hund hr']
        subst hw
        cases want <;> rfl
     ·rename_i x hx' hx
      rw [hx] at hrel
      have hr':act.tmps.getD n undef=undef:=hrel
      rw [hund hr']
      simp only [Option.some.injEq] at hw
      subst hw
      cases want <;> rfl
     ·rename_i hx
      rw [hx] at hrel
      obtain⟨a,ha,hl⟩:=hrel
      have hu:act.tmps.getD n undef=undef:=by
       rw [ha]
       simp only [aQ] at hl
       have:a= #[]:=by apply Array.ext';simpa using hl
       rw [this];rfl
      rw [hund hu]
      simp only [Option.some.injEq] at hw
      subst hw
      cases want <;> rfl
     ·cases hw
def C9 (P:Program)(ops:Array Oper)(o:Oper)(K:Act→World→Prop)(Q:Exit→Act→World→Prop)(act:Act)(w:World):Prop:=
 if Region.wanted o (yielded ops act.tmps) then o.wp P act w K Q∨(o.asks P act w∧LetsOut Q) else K (act.put o.dst undef) w
theorem Jj {P:Program} {o:Oper} {act:Act} {K:Act→World→Prop} {Q:Exit→Act→World→Prop} {r:AV} {σ':St} {b:Bool} (h:CY P G μ σ w (execOp act.eval o) r σ' b)
 (hK:∀v w' μ',aJ μ' w' r v→Step G μ σ w μ' σ' w'→K (act.put o.dst v) w'):o.wp P act w K Q:=by
 obtain⟨n,w',μ',v,h1,h2,h3,h4,_⟩:=h
 unfold Oper.wp
 rw [h1]
 rcases h2 with rfl | ⟨rfl,rfl⟩
 ·exact hK _ _ _ h3 h4
 ·exact hK _ _ _ h3 h4
theorem yJ {P:Program} {o:Oper} {act:Act} {K:Act→World→Prop} {Q:Exit→Act→World→Prop} {r:AV} {σ':St} (h:CY P G μ σ w (execOp act.eval o) r σ' true)
 (hK:∀v,aJ μ w r v→K (act.put o.dst v) w):o.wp P act w K Q:=by
 obtain⟨n,w',μ',v,h1,h2,h3,h4,h5⟩:=h
 obtain⟨rfl,rfl⟩:=h5 rfl
 unfold Oper.wp
 rw [h1]
 rcases h2 with rfl | ⟨rfl,rfl⟩
 ·exact hK _ h3
 ·exact hK _ h3
theorem Jk {P:Program} {run:Run} (hrun:kP P G run) {o:Oper} {act:Act} {K:Act→World→Prop} {Q:Exit→Act→World→Prop} {f:Nat} {args:List AV} {r:AV} {σ':St} {aW:Array Value}
 (hs:fH G μ σ w) (h:run f args σ=some (r,σ')) (hx:(execOp act.eval o).run P w=(callFunc f aW).run P w) (hr:aQ μ w args aW.toList)
 (hK:∀v w' μ',aJ μ' w' r v→Step G μ σ w μ' σ' w'→K (act.put o.dst v) w'):o.wp P act w K Q:=by
 unfold Oper.wp
 rcases hrun _ _ _ _ _ h μ w aW hs hr with ⟨h1,h2⟩ | ⟨v,w',h1,v',μ',hv,hr',hst⟩
 ·rw [hx,h1,Oper.upon_enter]
  refine h2.mono fun e w' he=>?_
  obtain⟨v,μ',rfl,hv,hst⟩:=he
  exact hK _ _ _ hv hst
 ·rw [hx,h1,Oper.upon_value]
  cases hv
  exact hK _ _ _ hr' hst
theorem Bv {run:Run} (hX:X.Ok G)(hrun:kP X.P G run) {o:Oper} {a:dG} {act:Act} {uS:bH→AV} {K:Act→World→Prop} {Q:Exit→Act→World→Prop} {r:AV} {σ':St} (hs:fH G μ σ w)(hok:ni X.P G o.op a=true)
 (hρ:oD G μ w a.bQ uS act.eval) (hn:tH uS) (h:dD X run uS a σ=some (r,σ'))
 (hK:∀v w' μ',aJ μ' w' r v→Step G μ σ w μ' σ' w'→K (act.put o.dst v) w'):o.wp X.P act w K Q:=by
 by_cases hcall:∃f args,a= .call f args
 ·obtain⟨f,args,rfl⟩:=hcall
  simp only [dD] at h
  cases hop:o.op with
  | call c=>
    rw [hop] at hok
    simp only [ni,ng] at hok
    cases hc:c.callee with
    | invoke x m=>rw [hc] at hok;simp at hok
    | builtin b=>
      rw [hc] at hok
      simp only [iM] at hok
      split at hok <;> simp_all
    | value fo=>
      rw [hc] at hok
      simp only [Bool.and_eq_true] at hok
      split at h
      ·rename_i k first cap hf
       have hfr:=hρ _ _ hok.1 (by simp [dG.bQ])
       rw [hf] at hfr
       obtain⟨ca,cc,hfv,r1,r2⟩:=hfr
       have hargs:=lH hρ hok.2 (fun y hy=>by simp [dG.bQ,hy])
       refine Jk hrun (aW:=ca ++ c.args.map act.eval ++ cc) hs h ?_ ?_ hK
       ·simp [execOp,hop,resolve,hc,hfv,Deferred.ofValue,invoke]
       ·simp only [Array.toList_append,Array.toList_map]
        exact(r1.append hargs).append r2
      ·cases h
  | _=>rw [hop] at hok;simp [ni] at hok
 by_cases hinv:∃x m args,a= .inv x m args
 ·obtain⟨x,m,args,rfl⟩:=hinv
  simp only [dD] at h
  cases hop:o.op with
  | call c=>
    rw [hop] at hok
    simp only [ni,ng] at hok
    cases hc:c.callee with
    | value fo=>rw [hc] at hok;simp at hok
    | builtin b=>
      rw [hc] at hok
      simp only [iM] at hok
      split at hok <;> simp_all
    | invoke xo m'=>
      rw [hc] at hok
      simp only [Bool.and_eq_true,beq_iff_eq] at hok
      obtain⟨⟨hx,rfl⟩,hargs⟩:=hok
      split at h
      ·rename_i t v hxv
       split at h
       ·rename_i k hk
        have hxr:=hρ _ _ hx (by simp [dG.bQ])
        rw [hxv] at hxr
        obtain⟨y,hy,hyr⟩:=hxr
        have hargs':=lH hρ hargs (fun y hy=>by simp [dG.bQ,hy])
        obtain⟨y',hm,hyr'⟩:=hX.meth t _ _ k hk μ y w hyr
        refine Jk hrun (aW:=#[y'] ++ c.args.map act.eval) hs h ?_ ?_ hK
        ·have he:(#[Value.iface t y] ++ c.args.map act.eval).extract 1 (#[Value.iface t y] ++ c.args.map act.eval).size=c.args.map act.eval:=by
               apply Array.ext'
               simp only [Array.toList_extract,Array.toList_append,List.extract_eq_take_drop,Array.size_append,Array.size_map]
               simp [List.take_of_length_le]
         have h0:(#[Value.iface t y] ++ c.args.map act.eval)[0]? =some (Value.iface t y):=by rw [Array.getElem?_append];simp
         have h2:(c.args.map act.eval).extract 0 c.args.size=c.args.map act.eval:=by
               apply Array.ext'
               simp [List.take_of_length_le]
         simp [execOp,hop,resolve,hc,hy,invoke,callMethod,h0,hm,h2]
        ·simp only [Array.toList_append,Array.toList_map]
         exact⟨y',_,rfl,hyr',hargs'⟩
       ·cases h
      ·cases h
  | _=>rw [hop] at hok;simp [ni] at hok
 have h':dO X.P uS a σ=some (r,σ'):=by
  cases a <;> first | exact h | exact absurd ⟨_,_,rfl⟩ hcall | exact absurd ⟨_,_,_,rfl⟩ hinv
 exact Jj (Ht hs hok hρ hn h') hK
end
end Go.cO
namespace Go.cO
theorem wK (e:Env):tH (bH.ev e):=by
 intro v h
 simp only [bH.ev] at h
 rw [h];rfl
theorem tY (e:Env):tH (fun y=>(y.ev e).val):=fun _ h=>h
theorem yK {P:Program} {ρ:bH→AV} {op:dG} {σ σ':St} {r:AV} (hp:op.pure=true)(h:dO P ρ op σ=some (r,σ')):σ'= σ:=by
 cases op <;> simp only [dG.pure,Bool.false_eq_true] at hp <;> simp only [dO] at h
 all_goals first
  | (rw [Option.map_eq_some_iff] at h;obtain⟨q,_,h⟩:=h;cases h;rfl)
  | (cases h;rfl)
  | (split at h <;> first | (cases h;done) | (cases h;rfl) | (rw [Option.map_eq_some_iff] at h;obtain⟨q,_,h⟩:=h;cases h;rfl))
section
variable {X:Ctx} {G N:Nat} {μ:Mu} {σ:St} {w:World} {ops:Array Oper}
theorem lI {run:Run} {ρ:bH→AV} {op:dG} (hp:op.pure=true):dD X run ρ op σ=dO X.P ρ op σ:=by
 cases op <;> first | rfl | (simp [dG.pure] at hp)
theorem VX {e:Env} {l:List bH} (h:(l.all fun o=>lC true (o.ev e).cnd)=true):∀y∈l,(y.ev e).cnd=true:=by
 simp only [List.all_eq_true,eu] at h
 exact h
theorem KR {o:Oper} {q a b:bH} {e:Env} {act:Act} {r:AV} (hs:fH G μ σ w)(he:dY G N μ w e act.tmps)(hok:ni X.P G o.op (.pick q a b)=true)
 (h:qY true (q.ev e) (a.ev e) (b.ev e)=some r) {f:Bool} :CY X.P G μ σ w (execOp act.eval o) r σ f:=by
 cases ho:o.op <;> rw [ho] at hok <;> simp only [ni,Bool.false_eq_true] at hok
 case pick c x y=>
  simp only [Bool.and_eq_true] at hok
  unfold qY at h
  split at h
  ·rename_i z hz
   split at h
   ·rename_i hi
    cases h
    simp only [eu,Bool.and_eq_true,Bool.true_and] at hi
    have hq:=qE (mP hs he hok.1.1) hi.1.1
    rw [hz] at hq
    simp only [aJ] at hq
    refine⟨.value (if z then act.eval x else act.eval y),w,μ,_,?_,.inl rfl,?_,Step.refl hs,fun _=>⟨rfl,rfl⟩⟩
    ·simp [execOp,ho,hq,asBool]
    ·simp only [aJ,if_true]
     refine Bj (fun ht=>qE (mP hs he hok.1.2) (by simpa [ht] using hi.1.2)) (fun ht=>qE (mP hs he hok.2) (by simpa [ht] using hi.2))
   ·cases h
  ·cases h
 case call c=>
  unfold ng at hok
  split at hok <;> rename_i h1 h2 <;> first | (cases h2;done) | skip
  all_goals simp_all [iM]
theorem guard_false {P:Program} {e:Env} {op:dG} {r:AV} (h:iT P false e op σ=some r):∃v,r= .cd false v:=by
 simp only [iT,Bool.false_eq_true,if_false,Option.some.injEq] at h
 exact⟨_,h.symm⟩
theorem guard_true {o:Oper} {a:dG} {e:Env} {act:Act} {r:AV} (hs:fH G μ σ w)(he:dY G N μ w e act.tmps)(hok:ni X.P G o.op a=true)(hp:a.pure=true)
 (h0:iT X.P true e a σ=some r):CY X.P G μ σ w (execOp act.eval o) r σ a.exact:=by
 have h:gZ X.P e a σ=some r:=h0
 by_cases hpk:∃q x y,a= .pick q x y
 ·obtain⟨q,x,y,rfl⟩:=hpk
  exact KR hs he hok h
 have h':nH true (a.bQ.all (fun o=>lC true (o.ev e).cnd)) (dO X.P (fun o=>(o.ev e).val) a σ)=some r:=by
  cases a <;> first | exact h | exact absurd ⟨_,_,_,rfl⟩ hpk
 unfold nH at h'
 split at h'
 ·rename_i q hq
  split at h'
  ·rename_i hi
   cases h'
   obtain⟨r1,σ1⟩:=q
   have hσ:=yK hp hq
   subst hσ
   obtain⟨n,w',μ',v,h1,h2,h3,h4⟩:=Ht hs hok (Ji hs he a.bQ (VX hi)) (tY e) hq
   exact⟨n,w',μ',v,h1,h2,by simpa [aJ] using h3,h4⟩
  ·cases h'
 ·simp at h'
theorem EH {run:Run} (hX:X.Ok G)(hrun:kP X.P G run) {o:Oper} {a:AI} {e:Env} {act:Act} {K:Act→World→Prop} {Q:Exit→Act→World→Prop} {r:AV} {σ':St} (hs:fH G μ σ w)(he:dY G N μ w e act.tmps)
 (hok:ny X.P G N ops o a=true) (h:cZ X run e a σ=some (r,σ'))
 (hK:∀v w' μ',aJ μ' w' r v→Step G μ σ w μ' σ' w'→K (act.put o.dst v) w'):C9 X.P ops o K Q act w:=by
 simp only [ny,Bool.and_eq_true,beq_iff_eq] at hok
 obtain⟨⟨⟨hd,hN⟩,hg⟩,hop⟩:=hok
 unfold cZ at h
 unfold C9
 split at h
 ·rename_i hgd
  rw [hgd] at hg
  rw [oH he hg (c:=true) rfl,if_pos rfl]
  exact .inl (Bv hX hrun hs hop (Jh hs he _) (wK e) h hK)
 ·rename_i g hgd
  rw [hgd] at hg
  split at h
  ·cases h
  ·rename_i c hc
   rw [oH he hg hc]
   split at h
   ·rename_i hp
    rw [Option.map_eq_some_iff] at h
    obtain⟨q,hq,h⟩:=h;cases h
    cases c with
    | true=>
      rw [if_pos rfl]
      exact .inl (Jj (guard_true hs he hop hp hq) hK)
    | false=>
      rw [if_neg (by simp)]
      obtain⟨v,rfl⟩:=guard_false hq
      exact hK _ _ _ (by simp [aJ]) (Step.refl hs)
   ·cases c with
    | true=>
      rw [if_pos rfl] at h ⊢
      split at h
      ·rename_i ha
       simp only [List.all_eq_true] at ha
       exact .inl (Bv hX hrun hs hop (Ji hs he _ ha) (tY e) h hK)
      ·cases h
    | false=>
      simp only [Bool.false_eq_true,if_false,Option.some.injEq,Prod.mk.injEq] at h ⊢
      obtain⟨rfl,rfl⟩:=h
      exact hK _ _ _ ⟨#[],rfl,rfl⟩ (Step.refl hs)
theorem rF {op:dG} (h:op.exact=true):op.pure=true:=by
 cases op <;> first | exact h | cases h
theorem Hw {run:Run} {o:Oper} {a:AI} {e:Env} {act:Act} {K:Act→World→Prop} {Q:Exit→Act→World→Prop} {r:AV} {σ':St} (hs:fH G μ σ w)(he:dY G N μ w e act.tmps)
 (hok:ny X.P G N ops o a=true) (hx:a.op.exact=true) (h:cZ X run e a σ=some (r,σ'))
 (hK:∀v,aJ μ w r v→K (act.put o.dst v) w):C9 X.P ops o K Q act w:=by
 simp only [ny,Bool.and_eq_true,beq_iff_eq] at hok
 obtain⟨⟨⟨hd,hN⟩,hg⟩,hop⟩:=hok
 have hp:=rF hx
 unfold cZ at h
 unfold C9
 split at h
 ·rename_i hgd
  rw [hgd] at hg
  rw [oH he hg (c:=true) rfl,if_pos rfl]
  rw [lI hp] at h
  have hto:=Ht hs hop (Jh hs he _) (wK e) h
  rw [hx] at hto
  exact .inl (yJ hto hK)
 ·rename_i g hgd
  rw [hgd] at hg
  split at h
  ·cases h
  ·rename_i c hc
   rw [oH he hg hc]
   split at h
   ·rw [Option.map_eq_some_iff] at h
    obtain⟨q,hq,h⟩:=h;cases h
    cases c with
    | true=>
      rw [if_pos rfl]
      have hto:=guard_true hs he hop hp hq
      rw [hx] at hto
      exact .inl (yJ hto hK)
    | false=>
      rw [if_neg (by simp)]
      obtain⟨v,rfl⟩:=guard_false hq
      exact hK _ (by simp [aJ])
   ·rename_i hn;exact absurd hp hn
def nP (ds:List Deferred)(G N:Nat)(μ:Mu)(σ:St)(w:World)(e':Env)(σ':St)(act':Act)(w':World):Prop:=
 ∃ μ',Step G μ σ w μ' σ' w'∧dY G N μ' w' e' act'.tmps∧act'.defers=ds
theorem jc (act:Act)(d:Option Tmp)(v:Value):(act.put d v).defers=act.defers:=by cases d <;> rfl
theorem C_ {ds:List Deferred} {run:Run} (hX:X.Ok G)(hrun:kP X.P G run) {Q:Exit→Act→World→Prop} :∀(is:List Nat) (l:List AI) (e:Env) (act:Act) (μ:Mu) (σ:St) (w:World) (e':Env) (σ':St),
 yI X.P G N ops is l=true→fH G μ σ w→dY G N μ w e act.tmps→act.defers=ds→kR X run l e σ=some (e',σ')→
 (∀act' w',nP ds G N μ σ w e' σ' act' w'→Q .normal act' w')→wpOps X.P ops Q is act w
 | [],[],e,act,μ,σ,w,e',σ',_,hs,he,hd,h,hQ=>by
   cases h
   exact hQ _ _ ⟨μ,Step.refl hs,he,hd⟩
 | [],_ :: _,_,_,_,_,_,_,_,hk,_,_,_,_,_=>by simp [yI] at hk
 | _ :: _,[],_,_,_,_,_,_,_,hk,_,_,_,_,_=>by simp [yI] at hk
 | i :: is,a :: l,e,act,μ,σ,w,e',σ',hk,hs,he,hd,h,hQ=>by
   simp only [yI,Bool.and_eq_true] at hk
   obtain⟨h1,h2⟩:=hk
   split at h1
   ·rename_i o ho
    simp only [kR] at h
    split at h
    ·rename_i v σ1 hst
     rw [wpOps]
     simp only [ho]
     refine EH (ops:=ops) hX hrun hs he h1 hst fun u w' μ' hv hstep=>?_
     have hk1:=h1
     simp only [ny,Bool.and_eq_true,beq_iff_eq] at hk1
     have he':=(he.mono hstep.ext hstep.sK)
     refine C_ (ds:=ds) hX hrun is l _ _ μ' σ1 w' e' σ' h2 hstep.nI (by rw [hk1.1.1.1];exact he'.put hk1.1.1.2 hv) (by rw [jc];exact hd) h ?_
     intro act' w'' hl
     obtain⟨μ2,hs2,he2,hd2⟩:=hl
     exact hQ _ _ ⟨μ2,hstep.trans hs2,he2,hd2⟩
    ·cases h
   ·cases h1
end
end Go.cO
namespace Go.cO
def bH.sl:bH→List Nat
 | .t n=>[n]
 | .c _=>[]
def AI.slots (a:AI):List Nat:=a.op.bQ.flatMap bH.sl ++ (match a.gd with | some (n,_)=>[n] | none=>[])
def dG.still:dG→Bool
 | .load _ _ | .slc _ _ _ _ | .GU _ _ _ _ | .mln _ _ | .xB false _ _ _=>false
 | op=>op.pure
section
variable {X:Ctx} {P:Program} {G N:Nat} {σ:St} {ops:Array Oper}
theorem Bz {ρ ρ':bH→AV} {op:dG} (h:∀y∈op.bQ,ρ y=ρ' y):dO P ρ op σ=dO P ρ' op σ:=by
 have hm:∀l:List bH,(∀y∈l,ρ y=ρ' y)→l.map ρ=l.map ρ':=fun l hl=>List.map_congr_left hl
 have hp:∀l:List (Nat×bH),(∀y∈l.map (·.2),ρ y=ρ' y)→(l.map fun q=>(q.1,ρ q.2))=l.map fun q=>(q.1,ρ' q.2):=fun l hl=>
  List.map_congr_left fun q hq=>by rw [hl q.2 (List.mem_map.2 ⟨q,hq,rfl⟩)]
 cases op
 case build t ps=>simp only [dO,dG.bQ] at h ⊢;rw [hp _ h]
 case A8 t n ps=>simp only [dO,dG.bQ] at h ⊢;rw [hp _ h]
 case xA f a c=>
  simp only [dO,dG.bQ] at h ⊢
  rw [hm a fun y hy=>h y (by simp [hy]),hm c fun y hy=>h y (by simp [hy])]
 case mn mx xs=>simp only [dO,dG.bQ] at h ⊢;rw [hm _ h]
 case U0 t r=>
  simp only [dG.bQ] at h
  have h2:r.map ρ=r.map ρ':=by
   cases r with
   | none=>rfl
   | some y=>simp only [Option.map_some];rw [h y (by simp)]
  simp only [dO]
  rw [h2]
 case sl3 t x l hh m=>
  simp only [dG.bQ] at h
  have h1:ρ x=ρ' x:=h x (by simp)
  have h2:l.map ρ=l.map ρ':=by
   cases l with
   | none=>rfl
   | some y=>simp only [Option.map_some];rw [h y (by simp)]
  have h3:ρ hh=ρ' hh:=h hh (by simp)
  have h4:ρ m=ρ' m:=h m (by simp)
  simp only [dO]
  rw [h1,h2,h3,h4]
 case slc t x l hh=>
  simp only [dG.bQ] at h
  have h1:ρ x=ρ' x:=h x (by simp)
  have h2:l.map ρ=l.map ρ':=by
   cases l with
   | none=>rfl
   | some y=>simp only [Option.map_some];rw [h y (by simp)]
  have h3:hh.map ρ=hh.map ρ':=by
   cases hh with
   | none=>rfl
   | some y=>simp only [Option.map_some];rw [h y (by simp)]
  simp only [dO]
  rw [h1,h2,h3]
 all_goals first
  | rfl
  | (simp only [dG.bQ,List.mem_cons,List.not_mem_nil,or_false,forall_eq_or_imp,forall_eq] at h;simp only [dO,h])
theorem wL {run:Run} {ρ ρ':bH→AV} {op:dG} (h:∀y∈op.bQ,ρ y=ρ' y):dD X run ρ op σ=dD X run ρ' op σ:=by
 have hm:∀l:List bH,(∀y∈l,ρ y=ρ' y)→l.map ρ=l.map ρ':=fun l hl=>List.map_congr_left hl
 cases op
 case call f args=>simp only [dD,dG.bQ] at h ⊢;rw [h f (by simp),hm args fun y hy=>h y (by simp [hy])]
 case inv x m args=>simp only [dD,dG.bQ] at h ⊢;rw [h x (by simp),hm args fun y hy=>h y (by simp [hy])]
 all_goals exact Bz (P:=X.P) (σ:=σ) h
theorem tZ {e e':Env} {y:bH} (h:∀x∈y.sl,get e x=get e' x):y.ev e=y.ev e':=by
 cases y with
 | c v=>rfl
 | t n=>exact h n (by simp [bH.sl])
theorem all_congr {l:List bH} {p q:bH→Bool} (h:∀y∈l,p y=q y):l.all p=l.all q:=by
 induction l with
 | nil=>rfl
 | cons y l ih=>simp only [List.all_cons];rw [h y (by simp),ih fun z hz=>h z (by simp [hz])]
theorem Dc {c:Bool} {e e':Env} {op:dG} (h:∀y∈op.bQ,y.ev e=y.ev e'):iT P c e op σ=iT P c e' op σ:=by
 have hl:nH true (op.bQ.all (fun o=>lC true (o.ev e).cnd)) (dO P (fun o=>(o.ev e).val) op σ)=nH true (op.bQ.all (fun o=>lC true (o.ev e').cnd)) (dO P (fun o=>(o.ev e').val) op σ):=by
  rw [all_congr (q:=fun o=>lC true (o.ev e').cnd) fun y hy=>by rw [h y hy],Bz (ρ':=fun o=>(o.ev e').val) fun y hy=>by rw [h y hy]]
 suffices gZ P e op σ=gZ P e' op σ by unfold iT;rw [this]
 by_cases hpk:∃q x y,op= .pick q x y
 ·obtain⟨q,x,y,rfl⟩:=hpk
  simp only [gZ]
  rw [h q (by simp [dG.bQ]),h x (by simp [dG.bQ]),h y (by simp [dG.bQ])]
 ·cases op <;> first | exact hl | exact absurd ⟨_,_,_,rfl⟩ hpk
theorem jl {run:Run} {e e':Env} {a:AI} (h:∀x∈a.slots,get e x=get e' x):cZ X run e a σ=cZ X run e' a σ:=by
 have ho:∀y∈a.op.bQ,y.ev e=y.ev e':=fun y hy=>tZ fun x hx=>h x (by
  simp only [AI.slots,List.mem_append,List.mem_flatMap];exact .inl ⟨y,hy,hx⟩)
 unfold cZ
 cases hg:a.gd with
 | none=>exact wL ho
 | some g=>
   obtain⟨n,w⟩:=g
   have hw:dW e (some (n,w))=dW e' (some (n,w)):=by
    simp only [dW]
    rw [h n (by simp [AI.slots,hg])]
   simp only [hw]
   cases dW e' (some (n,w)) with
   | none=>rfl
   | some c=>
     simp only []
     rw [Dc ho,all_congr (q:=fun o=>(o.ev e').cnd) fun y hy=>by rw [ho y hy],wL (ρ':=fun o=>(o.ev e').val) fun y hy=>by rw [ho y hy]]
theorem yL {o:Option AV} {v:AV} {σ1:St} (h:o.map (·,σ)=some (v,σ1))(σ':St):o.map (·,σ')=some (v,σ'):=by
 cases o with
 | none=>cases h
 | some q=>cases h;rfl
theorem qF {ρ:bH→AV} {op:dG} {σ1:St} {v:AV} (hs:op.still=true)(h:dO P ρ op σ=some (v,σ1))(σ':St):dO P ρ op σ'= some (v,σ'):=by
 by_cases hc:∃b s d x,op= .xB b s d x
 ·obtain⟨b,s,d,x,rfl⟩:=hc
  cases b with
  | false=>cases hs
  | true=>
    simp only [dO] at h ⊢
    rw [G_ (σ:=σ)]
    exact yL h σ'
 cases op <;> (try exact absurd ⟨_,_,_,_,rfl⟩ hc) <;> simp only [dG.still,dG.pure,Bool.false_eq_true] at hs <;> simp only [dO] at h ⊢
 all_goals first
  | exact yL h σ'
  | (cases h;rfl)
  | (split at h <;> first | (cases h;done) | (cases h;rfl) | exact yL h σ')
theorem rG {op:dG} (h:op.still=true):op.pure=true:=by
 cases op <;> first | rfl | exact h
theorem KU {c ok:Bool} {q q':Option (AV×St)} (h:q.map (·.1)=q'.map (·.1)):nH c ok q=nH c ok q':=by
 cases q <;> cases q' <;> simp_all [nH]
theorem yM {ρ:bH→AV} {op:dG} (hs:op.still=true)(σ σ':St):(dO P ρ op σ).map (·.1)=(dO P ρ op σ').map (·.1):=by
 cases h:dO P ρ op σ with
 | some q=>rw [qF hs (σ1:=q.2) (v:=q.1) h σ'];rfl
 | none=>
   cases h':dO P ρ op σ' with
   | none=>rfl
   | some q=>rw [qF hs (σ1:=q.2) (v:=q.1) h' σ] at h;cases h
theorem Df {c:Bool} {e:Env} {op:dG} (hs:op.still=true)(σ σ':St):iT P c e op σ=iT P c e op σ':=by
 have hl:=KU (c:=true) (ok:=op.bQ.all (fun o=>lC true (o.ev e).cnd)) (yM (P:=P) (ρ:=fun o=>(o.ev e).val) hs σ σ')
 suffices gZ P e op σ=gZ P e op σ' by unfold iT;rw [this]
 by_cases hpk:∃q x y,op= .pick q x y
 ·obtain⟨q,x,y,rfl⟩:=hpk;rfl
 ·cases op <;> first | exact hl | exact absurd ⟨_,_,_,rfl⟩ hpk
theorem oI {run:Run} {e:Env} {a:AI} {σ1:St} {v:AV} (hp:a.op.pure=true)(h:cZ X run e a σ=some (v,σ1)):σ1=σ:=by
 unfold cZ at h
 split at h
 ·rw [lI hp] at h;exact yK hp h
 ·split at h
  ·cases h
  ·rw [if_pos hp,Option.map_eq_some_iff] at h
   obtain⟨q,_,h⟩:=h;cases h;rfl
theorem EI {run:Run} {e:Env} {a:AI} {σ1:St} {v:AV} (hs:a.op.still=true)(h:cZ X run e a σ=some (v,σ1))(σ':St):cZ X run e a σ'= some (v,σ'):=by
 have hp:=rG hs
 unfold cZ at h ⊢
 split at h
 ·rename_i hg
  rw [lI hp] at h
  rw [lI hp]
  exact qF hs h σ'
 ·split at h
  ·cases h
  ·rename_i c hc
   rw [if_pos hp,Option.map_eq_some_iff] at h
   obtain⟨q,hq,h⟩:=h;cases h
   simp only [hc,hp,if_true]
   rw [Df hs σ' σ,hq];rfl
end
structure DI where
 i:Nat
 a:AI
 again:List AI
 BA:List Nat
def dN (ops:Array Oper)(i:Nat):List Nat:=match ops[i]? with
 | some o=>(o.after.toList.filter (Region.binds .any)).map (·.on)
 | none=>[]
def EJ (P:Program)(G N:Nat)(ops:Array Oper)(i:Nat)(a:AI):Bool:=match ops[i]? with
 | some o=>ny P G N ops o a
 | none=>false
def uni:List Nat→List Nat→List Nat
 | [],l=>l
 | j :: js,l=>uni js (if l.contains j then l else j :: l)
def ancOf (done:List DI):List Nat→List Nat→List Nat
 | [],l=>l
 | j :: js,l=>ancOf done js (match done.find? (·.i == j) with | some t=>uni t.BA l | none=>l)
def yN (P:Program)(G N:Nat)(ops:Array Oper):List (AI×List AI)→List DI→List DI
 | [],done=>done.reverse
 | (a,ag) :: r,done=>match (List.range ops.size).find? (fun i=>!(done.any (·.i == i)) && EJ P G N ops i a) with
   | some i=>yN P G N ops r (⟨i,a,ag,ancOf done (dN ops i) (dN ops i)⟩ :: done)
   | none=>[]
def EK (P:Program)(G N:Nat)(ops:Array Oper)(T:List DI)(p:Nat)(t:DI):Bool:=
 EJ P G N ops t.i t.a &&
 (dN ops t.i).all (fun j=>(T.take p).any (·.i == j)) &&
 t.BA.all fun j=>(dN ops t.i).contains j || (T.take p).any fun b=>(dN ops t.i).contains b.i && b.BA.contains j
def pO (P:Program)(G N:Nat)(ops:Array Oper)(T:List DI)(q:Nat)(b:DI)(p:Nat)(a:DI):Bool:=
 b.i != a.i &&
 (match b.a.d with
    | some x=>a.a.d != some x && (!(a.a.slots.contains x) || a.BA.contains b.i)
    | none=>true) &&
 (match a.a.d with
    | some x=>!(b.a.slots.contains x) || a.BA.contains b.i
    | none=>true) &&
 (b.a.op.pure || a.a.op.still || a.BA.contains b.i) &&
 (a.a.op.pure || !b.a.op.pure || b.a.op.still || a.BA.contains b.i || a.again.any fun b'=>EJ P G N ops b.i b' && b'.op.pure && b'.slots.all (fun x=>b.a.slots.contains x && ((T.take p).drop q).all fun r=>r.a.d != some x))
def NS (P:Program)(G N:Nat)(ops:Array Oper)(T:List DI):Bool:=
 (List.range ops.size).all (fun i=>T.any (·.i == i)) &&
 (List.range T.length).all fun p=>match T[p]? with
    | some t=>EK P G N ops T p t && (List.range p).all fun q=>match T[q]? with
      | some b=>pO P G N ops T q b p t
      | none=>true
    | none=>true
def Hy (i:Nat)(k:Nat→Bool):Bool:=match i with
 | 0=>k 0
 | n+1=>k (n+1)
def xK:List Nat→(List Nat→Bool)→Bool
 | [],k=>k []
 | i :: l,k=>Hy i fun i'=>xK l fun l'=>k (i' :: l')
def Dh:List DI→(List DI→Bool)→Bool
 | [],k=>k []
 | ⟨i,a,ag,BA⟩ :: r,k=>Hy i fun i'=>xK BA fun anc'=>Dh r fun r'=>k (⟨i',a,ag,anc'⟩ :: r')
theorem BD (i:Nat)(k:Nat→Bool):Hy i k=k i:=by cases i <;> rfl
theorem yO:∀(l:List Nat) (k:List Nat→Bool),xK l k=k l
 | [],_=>rfl
 | i :: l,k=>by simp only [xK,BD,yO l]
theorem BG:∀(l:List DI) (k:List DI→Bool),Dh l k=k l
 | [],_=>rfl
 | ⟨i,a,ag,BA⟩ :: r,k=>by simp only [Dh,BD,yO,BG r]
def Jl (P:Program)(G N:Nat)(ops:Array Oper)(l:List (AI×List AI)):Bool:=
 Dh (yN P G N ops l []) fun T=>NS P G N ops T && T.length == l.length
theorem BH {P:Program} {G N:Nat} {ops:Array Oper} :∀(l:List (AI×List AI)) (done:List DI),(yN P G N ops l done).length=l.length+done.length→
 (yN P G N ops l done).map (fun t=>(t.a,t.again))=done.reverse.map (fun t=>(t.a,t.again)) ++ l
 | [],done,_=>by simp [yN]
 | (a,ag) :: r,done,h=>by
   unfold yN at h ⊢
   split
   ·rename_i i hi
    rw [hi] at h
    simp only at h
    rw [BH r _ (by rw [h];simp;omega)]
    simp
   ·rename_i hi
    rw [hi] at h
    simp at h
    omega
end Go.cO
namespace Go.cO
structure Tab (P:Program)(G N:Nat)(ops:Array Oper)(T:List DI):Prop where
 all:∀i<ops.size,∃(p:Nat) (t:DI),T[p]? =some t∧t.i=i
 at':∀(p:Nat) (t:DI),T[p]? =some t→∃o,ops[t.i]? =some o∧ny P G N ops o t.a=true
 edge:∀(p:Nat) (t:DI),T[p]? =some t→∀j∈dN ops t.i,∃(q:Nat) (b:DI),q<p∧T[q]? =some b∧b.i=j
 BA:∀(p:Nat) (t:DI),T[p]? =some t→∀j∈t.BA,j∈dN ops t.i∨∃(q:Nat) (b:DI),q<p∧T[q]? =some b∧b.i∈dN ops t.i∧j∈b.BA
 ne:∀(q:Nat) (b:DI) (p:Nat) (a:DI),q<p→T[q]? =some b→T[p]? =some a→b.i≠a.i
 dst:∀(q:Nat) (b:DI) (p:Nat) (a:DI),q<p→T[q]? =some b→T[p]? =some a→∀x,b.a.d=some x→a.a.d≠some x
 raw:∀(q:Nat) (b:DI) (p:Nat) (a:DI),q<p→T[q]? =some b→T[p]? =some a→∀x,b.a.d=some x→x∈a.a.slots→b.i∈a.BA
 war:∀(q:Nat) (b:DI) (p:Nat) (a:DI),q<p→T[q]? =some b→T[p]? =some a→∀x,a.a.d=some x→x∈b.a.slots→b.i∈a.BA
 eff:∀(q:Nat) (b:DI) (p:Nat) (a:DI),q<p→T[q]? =some b→T[p]? =some a→b.a.op.pure=false→a.a.op.still=false→b.i∈a.BA
 again:∀(q:Nat) (b:DI) (p:Nat) (a:DI),q<p→T[q]? =some b→T[p]? =some a→a.a.op.pure=false→b.a.op.pure=true→b.a.op.still=false→b.i∉a.BA→
  ∃ b'∈a.again,(∃o,ops[b.i]? =some o∧ny P G N ops o b'= true)∧b'.op.pure=true∧∀x∈b'.slots,x∈b.a.slots∧∀(r:Nat) (c:DI),q≤r→r<p→T[r]? =some c→c.a.d≠some x
theorem nR {P:Program} {G N:Nat} {ops:Array Oper} {i:Nat} {a:AI} (h:EJ P G N ops i a=true):∃o,ops[i]? =some o∧ny P G N ops o a=true:=by
 unfold EJ at h
 split at h
 ·rename_i o ho;exact⟨o,ho,h⟩
 ·cases h
theorem t_ {α:Type} {l:List α} {p:Nat} {x:α} (h:x∈l.take p):∃q,q<p∧l[q]? =some x:=by
 obtain⟨q,hq⟩:=List.getElem?_of_mem h
 rw [List.getElem?_take] at hq
 split at hq
 ·exact⟨q,by assumption,hq⟩
 ·cases hq
theorem Hz {P:Program} {G N:Nat} {ops:Array Oper} {T:List DI} (h:NS P G N ops T=true):Tab P G N ops T:=by
 simp only [NS,Bool.and_eq_true,List.all_eq_true,List.mem_range,List.any_eq_true,beq_iff_eq] at h
 obtain⟨h1,h2⟩:=h
 have one:∀(p:Nat) (t:DI),T[p]? =some t→EK P G N ops T p t=true:=by
  intro p t ht
  have:=h2 p (cu ht)
  rw [ht] at this
  simp only [Bool.and_eq_true] at this
  exact this.1
 have pair:∀(q:Nat) (b:DI) (p:Nat) (a:DI),q<p→T[q]? =some b→T[p]? =some a→pO P G N ops T q b p a=true:=by
  intro q b p a uZ hb ha
  have:=h2 p (cu ha)
  rw [ha] at this
  simp only [Bool.and_eq_true,List.all_eq_true,List.mem_range] at this
  have:=this.2 q uZ
  rw [hb] at this
  exact this
 refine⟨?_,?_,?_,?_,?_,?_,?_,?_,?_,?_⟩
 ·intro i hi
  obtain⟨t,ht,hti⟩:=h1 i hi
  obtain⟨p,hp⟩:=List.getElem?_of_mem ht
  exact⟨p,t,hp,hti⟩
 ·intro p t ht
  have:=one p t ht
  simp only [EK,Bool.and_eq_true] at this
  exact nR this.1.1
 ·intro p t ht j hj
  have:=one p t ht
  simp only [EK,Bool.and_eq_true,List.all_eq_true,List.any_eq_true,beq_iff_eq] at this
  obtain⟨b,hb,hbj⟩:=this.1.2 j hj
  obtain⟨q,hq,hqb⟩:=t_ hb
  exact⟨q,b,hq,hqb,hbj⟩
 ·intro p t ht j hj
  have:=one p t ht
  simp only [EK,Bool.and_eq_true,List.all_eq_true,List.any_eq_true,beq_iff_eq,Bool.or_eq_true,List.contains_iff_mem] at this
  rcases this.2 j hj with h | ⟨b,hb,hbj⟩
  ·exact .inl h
  ·obtain⟨q,hq,hqb⟩:=t_ hb
   exact .inr ⟨q,b,hq,hqb,hbj.1,hbj.2⟩
 ·intro q b p a uZ hb ha
  have:=pair q b p a uZ hb ha
  simp only [pO,Bool.and_eq_true,bne_iff_ne] at this
  exact this.1.1.1.1
 ·intro q b p a uZ hb ha x hx
  have:=pair q b p a uZ hb ha
  simp only [pO,Bool.and_eq_true,hx,bne_iff_ne] at this
  exact this.1.1.1.2.1
 ·intro q b p a uZ hb ha x hx hs
  have:=pair q b p a uZ hb ha
  simp only [pO,Bool.and_eq_true,hx,Bool.or_eq_true,Bool.not_eq_true',List.contains_iff_mem] at this
  rcases this.1.1.1.2.2 with h | h
  ·rw [List.contains_eq_mem] at h;simp at h;exact absurd hs h
  ·exact h
 ·intro q b p a uZ hb ha x hx hs
  have:=pair q b p a uZ hb ha
  simp only [pO,Bool.and_eq_true,hx,Bool.or_eq_true,Bool.not_eq_true',List.contains_iff_mem] at this
  rcases this.1.1.2 with h | h
  ·rw [List.contains_eq_mem] at h;simp at h;exact absurd hs h
  ·exact h
 ·intro q b p a uZ hb ha hx hs
  have:=pair q b p a uZ hb ha
  simp only [pO,Bool.and_eq_true,hx,hs,Bool.or_eq_true,List.contains_iff_mem,Bool.false_eq_true,false_or] at this
  exact this.1.2
 ·intro q b p a uZ hb ha hx hs1 hs hn
  have:=pair q b p a uZ hb ha
  simp only [pO,Bool.and_eq_true,hx,hs,hs1,Bool.or_eq_true,List.contains_iff_mem,Bool.false_eq_true,false_or,Bool.not_true,or_false,hn,List.any_eq_true,List.all_eq_true,bne_iff_ne] at this
  obtain⟨b',hb',⟨h3,h4⟩,h5⟩:=this.2
  refine⟨b',hb',nR h3,h4,fun x hx=>⟨(h5 x hx).1,fun r c hr hrp hc=>(h5 x hx).2 c ?_⟩⟩
  refine List.mem_of_getElem? (i:=r - q) ?_
  rw [List.getElem?_drop,List.getElem?_take,if_pos (by omega),show q+(r - q)=r by omega]
  exact hc
end Go.cO
namespace Go.cO
theorem jD {d:Nat} {v:AV} {e:Env} :get (put (some d) v e) d=v:=by simp [put,get]
theorem jR {d:Option Nat} {v:AV} {e:Env} {x:Nat} (h:d≠some x):get (put d v e) x=get e x:=by
 cases d with
 | none=>rfl
 | some d=>
   have hne:¬d=x:=fun he=>h (by rw [he])
   simp [put,get,hne]
theorem EL {X:Ctx} {run:Run} :∀(l:List (AI×List AI)) (e:Env) (σ:St) (e':Env) (σ':St),qZ X run l e σ=some (e',σ')→
 ∃ (E:Nat→Env) (S:Nat→St) (V:Nat→AV),E 0=e∧S 0=σ∧E l.length=e'∧S l.length=σ'∧
   ∀ (p:Nat) (a:AI) (ag:List AI),l[p]? =some (a,ag)→cZ X run (E p) a (S p)=some (V p,S (p+1))∧E (p+1)=put a.d (V p) (E p)∧∀b∈ag,mY X (E p) (S (p+1)) b=true
 | [],e,σ,e',σ',h=>by
   cases h
   exact⟨fun _=>e,fun _=>σ,fun _=>.u,rfl,rfl,rfl,rfl,fun p a ag hp=>by simp at hp⟩
 | (a,ag) :: l,e,σ,e',σ',h=>by
   simp only [qZ] at h
   split at h
   ·rename_i v σ1 hst
    split at h
    ·rename_i hag
     obtain⟨E,S,V,h1,h2,h3,h4,h5⟩:=EL l _ _ _ _ h
     refine⟨fun | 0=>e | p+1=>E p,fun | 0=>σ | p+1=>S p,fun | 0=>v | p+1=>V p,rfl,rfl,h3,h4,?_⟩
     intro p a' ag' hp
     cases p with
     | zero=>
       simp only [List.getElem?_cons_zero,Option.some.injEq,Prod.mk.injEq] at hp
       obtain⟨rfl,rfl⟩:=hp
       refine⟨by simpa [h2] using hst,h1,?_⟩
       intro b hb
       simp only [List.all_eq_true] at hag
       simpa [h2] using hag b hb
     | succ p=>
       exact h5 p a' ag' (by simpa using hp)
    ·cases h
   ·cases h
section
variable {X:Ctx} {G N:Nat} {ops:Array Oper} {T:List DI}
structure Runs (X:Ctx)(run:Run)(T:List DI)(E:Nat→Env)(S:Nat→St)(V:Nat→AV):Prop where
 step:∀(p:Nat) (t:DI),T[p]? =some t→cZ X run (E p) t.a (S p)=some (V p,S (p+1))
 env:∀(p:Nat) (t:DI),T[p]? =some t→E (p+1)=put t.a.d (V p) (E p)
 again:∀(p:Nat) (t:DI),T[p]? =some t→∀b∈t.again,mY X (E p) (S (p+1)) b=true
variable {run:Run} {E:Nat→Env} {S:Nat→St} {V:Nat→AV}
theorem lJ (hR:Runs X run T E S V) {x:Nat} :∀(p q:Nat),q≤p→p≤T.length→(∀(r:Nat) (c:DI),q≤r→r<p→T[r]? =some c→c.a.d≠some x)→get (E p) x=get (E q) x
 | 0,q,hq,_,_=>by rw [show q=0 by omega]
 | p+1,q,hq,hp,h=>by
   by_cases uZ:q=p+1
   ·rw [uZ]
   ·have ht:T[p]? =some T[p]:=List.getElem?_eq_getElem (by omega)
    rw [hR.env p _ ht,jR (h p _ (by omega) (by omega) ht)]
    exact lJ hR p q (by omega) (by omega) fun r c h1 h2 h3=>h r c h1 (by omega) h3
theorem u_ (hT:Tab X.P G N ops T)(hR:Runs X run T E S V) {x q p:Nat} {t:DI} (hq:T[q]? =some t)(hx:t.a.d=some x)(uZ:q<p)(hp:p≤T.length):get (E p) x=V q:=by
 rw [lJ hR p (q+1) (by omega) hp fun r c h1 h2 h3=>hT.dst q t r c (by omega) hq h3 x hx,hR.env q t hq,hx,jD]
theorem lK (hR:Runs X run T E S V):∀(p q:Nat),q≤p→p≤T.length→(∀(r:Nat) (c:DI),q≤r→r<p→T[r]? =some c→c.a.op.pure=true)→S p=S q
 | 0,q,hq,_,_=>by rw [show q=0 by omega]
 | p+1,q,hq,hp,h=>by
   by_cases uZ:q=p+1
   ·rw [uZ]
   ·have ht:T[p]? =some T[p]:=List.getElem?_eq_getElem (by omega)
    rw [oI (h p _ (by omega) (by omega) ht) (hR.step p _ ht)]
    exact lK hR p q (by omega) (by omega) fun r c h1 h2 h3=>h r c h1 (by omega) h3
def Closed (ops:Array Oper)(L:Nat→Prop):Prop:=∀i,L i→∀j∈dN ops i,L j
theorem yP (hT:Tab X.P G N ops T) {L:Nat→Prop} (hc:Closed ops L):∀(p:Nat) (t:DI),T[p]? =some t→(∀j∈dN ops t.i,L j)→∀j∈t.BA,L j:=by
 intro p
 induction p using Nat.strongRecOn with
 | _ p ih=>
   intro t ht hb j hj
   rcases hT.BA p t ht j hj with h | ⟨q,b,hq,hqb,hbi,hjb⟩
   ·exact hb j h
   ·exact ih q hq b hqb (hc _ (hb _ hbi)) j hjb
structure At (X:Ctx)(G N:Nat)(ops:Array Oper)(T:List DI)(E:Nat→Env)(S:Nat→St)(V:Nat→AV)(L:Nat→Prop)(c:Nat)(ec:Env):Prop where
 closed:Closed ops L
 le:c≤T.length
 cut:∀(q:Nat) (t:DI),T[q]? =some t→t.a.op.pure=false→(q<c↔L t.i)
 wrote:∀(q:Nat) (t:DI) (x:Nat),T[q]? =some t→L t.i→t.a.d=some x→get ec x=V q
 kept:∀(x:Nat),(∀(q:Nat) (t:DI),T[q]? =some t→L t.i→t.a.d≠some x)→get ec x=get (E 0) x
variable {L:Nat→Prop} {c:Nat} {ec:Env}
theorem pos_eq (hT:Tab X.P G N ops T) {p q:Nat} {t u:DI} (hp:T[p]? =some t)(hq:T[q]? =some u)(h:t.i=u.i):p=q:=by
 rcases Nat.lt_trichotomy p q with hl | hl | hl
 ·exact absurd h (hT.ne p t q u hl hp hq)
 ·exact hl
 ·exact absurd h.symm (hT.ne q u p t hl hq hp)
theorem yQ (hT:Tab X.P G N ops T) {p q:Nat} {t u:DI} {x:Nat} (hp:T[p]? =some t)(hq:T[q]? =some u)(h:t.a.d=some x)(k:u.a.d=some x):p=q:=by
 rcases Nat.lt_trichotomy p q with hl | hl | hl
 ·exact absurd k (hT.dst p t q u hl hp hq x h)
 ·exact hl
 ·exact absurd h (hT.dst q u p t hl hq hp x k)
theorem At.agree (hT:Tab X.P G N ops T)(hR:Runs X run T E S V)(h:At X G N ops T E S V L c ec) {p:Nat} {t:DI} (hp:T[p]? =some t)(hn:¬L t.i)(hb:∀j∈dN ops t.i,L j) :
 ∀ x∈t.a.slots,get ec x=get (E p) x:=by
 intro x hx
 have hlen:p<T.length:=cu hp
 by_cases hw:∃(q:Nat) (u:DI),T[q]? =some u∧u.a.d=some x
 ·obtain⟨q,u,hq,hu⟩:=hw
  rcases Nat.lt_trichotomy q p with hl | hl | hl
  ·have hL:=yP hT h.closed p t hp hb _ (hT.raw q u p t hl hq hp x hu hx)
   rw [h.wrote q u x hq hL hu,u_ hT hR hq hu hl (by omega)]
  ·subst hl
   rw [hp] at hq;cases hq
   rw [h.kept x fun r v hr hv hd=>by
        have hpr:=yQ hT hp hr hu hd
        subst hpr
        rw [hp] at hr;cases hr
        exact hn hv]
   rw [lJ hR q 0 (by omega) (by omega) fun r v _ h2 hr hd=>by have:=yQ hT hp hr hu hd;omega]
  ·have hA:=hT.war p t q u hl hp hq x hu hx
   have hnu:¬L u.i:=fun hL=>hn (yP hT h.closed q u hq (h.closed _ hL) _ hA)
   rw [h.kept x fun r v hr hv hd=>by
        have:=yQ hT hq hr hu hd
        subst this
        rw [hq] at hr;cases hr
        exact hnu hv]
   rw [lJ hR p 0 (by omega) (by omega) fun r v _ h2 hr hd=>by have:=yQ hT hq hr hu hd;omega]
 ·rw [h.kept x fun r v hr _ hd=>hw ⟨r,v,hr,hd⟩]
  rw [lJ hR p 0 (by omega) (by omega) fun r v _ _ hr hd=>hw ⟨r,v,hr,hd⟩]
theorem EM (T:List DI)(p:Nat):∀c:Nat,(∀(r:Nat) (v:DI),p≤r→r<c→T[r]? =some v→v.a.op.pure=true)∨
 ∃ (q:Nat) (u:DI),p≤q∧q<c∧T[q]? =some u∧u.a.op.pure=false∧∀(r:Nat) (v:DI),q<r→r<c→T[r]? =some v→v.a.op.pure=true
 | 0=>.inl fun r v _ h=>by omega
 | c+1=>by
   by_cases hc:∃u,T[c]? =some u∧u.a.op.pure=false∧p≤c
   ·obtain⟨u,hu,hpu,hpc⟩:=hc
    exact .inr ⟨c,u,hpc,by omega,hu,hpu,fun r v h1 h2=>by omega⟩
   ·have hc':∀(v:DI),p≤c→T[c]? =some v→v.a.op.pure=true:=fun v h1 h2=>by
     cases hh:v.a.op.pure with
     | true=>rfl
     | false=>exact absurd ⟨v,h2,hh,h1⟩ hc
    rcases EM T p c with h | ⟨q,u,h1,h2,h3,h4,h5⟩
    ·refine .inl fun r v hr hrc hv=>?_
     by_cases hrc':r=c
     ·subst hrc';exact hc' v hr hv
     ·exact h r v hr (by omega) hv
    ·refine .inr ⟨q,u,h1,by omega,h3,h4,fun r v hr hrc hv=>?_⟩
     by_cases hrc':r=c
     ·subst hrc';exact hc' v (by omega) hv
     ·exact h5 r v hr (by omega) hv
theorem At.next (hT:Tab X.P G N ops T)(hR:Runs X run T E S V)(h:At X G N ops T E S V L c ec) {p:Nat} {t:DI} (hp:T[p]? =some t)(hn:¬L t.i)(hb:∀j∈dN ops t.i,L j) {o:Oper} (ho:ops[t.i]? =some o) :
 ∃ run' a' c',(run'= run∨run'= fun _ _ _=>none)∧ny X.P G N ops o a'= true∧cZ X run' ec a' (S c)=some (V p,S c')∧c'≤T.length∧
   ∀ (q:Nat) (u:DI),T[q]? =some u→u.a.op.pure=false→(q<c'↔L u.i∨q=p):=by
 have hlen:p<T.length:=cu hp
 have hok:ny X.P G N ops o t.a=true:=by
  obtain⟨o',ho',h'⟩:=hT.at' p t hp
  rw [ho] at ho';cases ho';exact h'
 have hag:=h.agree hT hR hp hn hb
 have hanc:=yP hT h.closed p t hp hb
 have hst:=hR.step p t hp
 have Jm:t.a.op.still=false→c≤p→S p=S c:=fun hs hcp=>lK hR p c hcp (by omega) fun r u h1 h2 hr=>by
  cases hpu:u.a.op.pure with
  | true=>rfl
  | false=>
    have hL:=hanc _ (hT.eff r u p t h2 hr hp hpu hs)
    have:=(h.cut r u hr hpu).2 hL
    omega
 cases hpure:t.a.op.pure with
 | false=>
   have hs:t.a.op.still=false:=by
    cases hh:t.a.op.still with
    | false=>rfl
    | true=>rw [rG hh] at hpure;cases hpure
   have hcp:c≤p:=by
    apply Nat.le_of_not_lt
    intro hlt
    exact hn ((h.cut p t hp hpure).1 hlt)
   refine⟨run,t.a,p+1,.inl rfl,hok,?_,by omega,?_⟩
   ·rw [jl hag,←Jm hs hcp];exact hst
   ·intro q u hq hpu
    constructor
    ·intro hlt
     by_cases uZ:q=p
     ·exact .inr uZ
     ·exact .inl (hanc _ (hT.eff q u p t (by omega) hq hp hpu hs))
    ·intro hL
     rcases hL with hL | hL
     ·apply Nat.lt_of_not_le
      intro hle
      have hA:=hT.eff p t q u (by omega) hp hq hpure (by
       cases hh:u.a.op.still with
       | false=>rfl
       | true=>rw [rG hh] at hpu;cases hpu)
      exact hn (yP hT h.closed q u hq (h.closed _ hL) _ hA)
     ·omega
 | true=>
   have hcut:∀(q:Nat) (u:DI),T[q]? =some u→u.a.op.pure=false→(q<c↔L u.i∨q=p):=by
    intro q u hq hpu
    rw [h.cut q u hq hpu]
    constructor
    ·exact .inl
    ·rintro (h | h)
     ·exact h
     ·subst h;rw [hp] at hq;cases hq;rw [hpure] at hpu;cases hpu
   cases hs:t.a.op.still with
   | true=>exact⟨run,t.a,c,.inl rfl,hok,by rw [jl hag];exact EI hs hst _,h.le,hcut⟩
   | false=>
     have hSp:S (p+1)=S p:=oI hpure hst
     by_cases hcp:c≤p
     ·refine⟨run,t.a,c,.inl rfl,hok,?_,h.le,hcut⟩
      rw [jl hag,←Jm hs hcp,hst,hSp]
     ·
        rcases EM T p c with hex | ⟨q,u,h1,h2,hq,hpu,hlast⟩
        rotate_left
        ·skip
         have uZ:p<q:=by
          rcases Nat.lt_or_ge p q with hl | hl
          ·exact hl
          ·have:q=p:=by omega
           subst this;rw [hp] at hq;cases hq;rw [hpure] at hpu;cases hpu
         have hLu:=(h.cut q u hq hpu).1 h2
         have hnA:t.i∉u.BA:=fun hA=>hn (yP hT h.closed q u hq (h.closed _ hLu) _ hA)
         obtain⟨b',hb',⟨o',ho',hok'⟩,hbp,hsl⟩:=hT.again p t q u uZ hp hq hpu hpure hs hnA
         rw [ho] at ho';cases ho'
         have VY:=hR.again q u hq b' hb'
         have hSc:S c=S (q+1):=lK hR c (q+1) (by omega) h.le fun r v h3 h4 hr=>hlast r v (by omega) h4 hr
         have hd:b'.d=t.a.d:=by
          simp only [ny,Bool.and_eq_true,beq_iff_eq] at hok hok'
          rw [←hok.1.1.1,←hok'.1.1.1]
         refine⟨fun _ _ _=>none,b',c,.inr rfl,hok',?_,h.le,hcut⟩
         unfold mY at VY
         split at VY
         ·rename_i d v σ1 hbd hstep
          have hv:=AV.kG _ _ VY
          have hσ1:=oI hbp hstep
          subst hσ1
          rw [hd] at hbd
          rw [u_ hT hR hp hbd uZ (by have:=cu hq;omega)] at hv
          rw [hSc,jl (e':=E q),hstep,hv]
          intro x hx
          rw [hag x (hsl x hx).1]
          rw [lJ hR q p (by omega) (by have:=cu hq;omega) fun r v h3 h4 hr=>(hsl x hx).2 r v h3 h4 hr]
         ·cases VY
        ·have hSc:S c=S p:=lK hR c p (by omega) h.le hex
         refine⟨run,t.a,c,.inl rfl,hok,?_,h.le,hcut⟩
         rw [jl hag,hSc,hst,hSp]
theorem kZ {listed:Array Bool} {i:Nat} (h:i<listed.size):listed.getD i true=listed.getD i false:=by
 rw [Array.getD_eq_getD_getElem?,Array.getD_eq_getD_getElem?,Array.getElem?_eq_getElem h];rfl
theorem qG {i j:Nat} {o:Oper} (ho:ops[i]? =some o):j∈dN ops i↔∃e∈o.after,Region.binds .any e=true∧e.on=j:=by
 unfold dN
 rw [ho]
 simp only [List.mem_map,List.mem_filter,Array.mem_toList_iff]
 constructor
 ·rintro ⟨e,⟨h1,h2⟩,h3⟩;exact⟨e,h1,h2,h3⟩
 ·rintro ⟨e,h1,h2,h3⟩;exact⟨e,⟨h1,h2⟩,h3⟩
def MW (n:Nat)(listed:Array Bool):List Nat:=(List.range n).filter fun i=>!listed.getD i false
theorem Jo {n i:Nat} {listed:Array Bool} (hi:i<n)(hs:listed.size=n)(hl:listed.getD i false=false):(MW n (listed.setIfInBounds i true)).length<(MW n listed).length:=by
 have he:MW n (listed.setIfInBounds i true)=(MW n listed).filter (fun j=>j != i):=by
  unfold MW
  rw [List.filter_filter]
  apply List.filter_congr
  intro j hj
  by_cases hji:i=j
  ·subst hji
   simp [Array.getElem?_setIfInBounds,hs,hi]
  ·rw [getD_set_ne false hji]
   simp [Ne.symm hji]
 rw [he,List.length_filter_lt_length_iff_exists]
 refine⟨i,?_,by simp⟩
 unfold MW
 rw [List.mem_filter]
 exact⟨List.mem_range.2 hi,by rw [hl];rfl⟩
theorem VZ {ds:List Deferred} (hX:X.Ok G)(hrun:kP X.P G run)(hT:Tab X.P G N ops T)(hR:Runs X run T E S V) {Q:Exit→Act→World→Prop} {Am:Mu} {jh:St} {w0:World}
 (hQ:∀act' w',nP ds G N Am jh w0 (E T.length) (S T.length) act' w'→Q .normal act' w') :
 ∀ (fuel:Nat) (listed:Array Bool) (c:Nat) (ec:Env) (act:Act) (w:World) (μ:Mu),(MW ops.size listed).length≤fuel→listed.size=ops.size→(∀i,listed.getD i false=true→i<ops.size)→
   At X G N ops T E S V (fun i=>listed.getD i false=true) c ec→Step G Am jh w0 μ (S c) w→dY G N μ w ec act.tmps→act.defers=ds→
   wpAny X.P .any ops Q fuel listed act w:=by
 have hdone:∀(listed:Array Bool) (c:Nat) (ec:Env) (act:Act) (w:World) (μ:Mu),listed.size=ops.size→
  At X G N ops T E S V (fun i=>listed.getD i false=true) c ec→Step G Am jh w0 μ (S c) w→dY G N μ w ec act.tmps→act.defers=ds→Region.ready .any ops listed=[]→Q .normal act w:=by
  intro listed c ec act w μ hsz hat hst hen hdf hr
  have hall:∀(p:Nat) (t:DI),T[p]? =some t→listed.getD t.i false=true:=by
   intro p
   induction p using Nat.strongRecOn with
   | _ p ih=>
     intro t ht
     cases hl:listed.getD t.i false with
     | true=>rfl
     | false=>
       exfalso
       obtain⟨o,ho,hok⟩:=hT.at' p t ht
       have hlt:t.i<ops.size:=(Array.getElem?_eq_some_iff.1 ho).1
       have:t.i∈Region.ready .any ops listed:=by
         rw [mem_ready]
         refine⟨by rw [kZ (by omega)];exact hl,o,ho,fun e he hb=>?_⟩
         obtain⟨q,b,hq,hqb,hbi⟩:=hT.edge p t ht e.on ((qG ho).2 ⟨e,he,hb,rfl⟩)
         rw [←hbi];exact ih q hq b hqb
       rw [hr] at this;cases this
  refine hQ _ _ ⟨μ,?_,⟨hen.size,fun x=>?_⟩,hdf⟩
  ·have:S T.length=S c:=lK hR _ c hat.le (Nat.le_refl _) fun r v h1 h2 hv=>by
        cases hh:v.a.op.pure with
        | true=>rfl
        | false=>have:=(hat.cut r v hv hh).2 (hall r v hv);omega
   rw [this];exact hst
  ·have hx:get ec x=get (E T.length) x:=by
        by_cases hw:∃(q:Nat) (u:DI),T[q]? =some u∧u.a.d=some x
        ·obtain⟨q,u,hq,hu⟩:=hw
         rw [hat.wrote q u x hq (hall q u hq) hu,u_ hT hR hq hu (cu hq) (Nat.le_refl _)]
        ·rw [hat.kept x fun r v hr _ hd=>hw ⟨r,v,hr,hd⟩]
         rw [lJ hR T.length 0 (by omega) (by omega) fun r v _ _ hr hd=>hw ⟨r,v,hr,hd⟩]
   rw [←hx];exact hen.rel x
 intro fuel
 induction fuel with
 | zero=>
   intro listed c ec act w μ hfu hsz hlt hat hst hen hdf
   have hr:Region.ready .any ops listed=[]:=by
    apply List.eq_nil_iff_forall_not_mem.2
    intro i hi
    obtain⟨h0,o,ho,_⟩:=mem_ready.1 hi
    have hil:i<ops.size:=(Array.getElem?_eq_some_iff.1 ho).1
    rw [kZ (by omega)] at h0
    have:i∈MW ops.size listed:=List.mem_filter.2 ⟨List.mem_range.2 hil,by rw [h0];rfl⟩
    have:=List.length_pos_of_mem this
    omega
   exact⟨hr,hdone listed c ec act w μ hsz hat hst hen hdf hr⟩
 | succ fuel ih=>
   intro listed c ec act w μ hfu hsz hlt hat hst hen hdf
   refine⟨hdone listed c ec act w μ hsz hat hst hen hdf,fun i hi=>?_⟩
   obtain⟨h0,o,ho,hbind⟩:=mem_ready.1 hi
   have hil:i<ops.size:=(Array.getElem?_eq_some_iff.1 ho).1
   rw [kZ (by omega)] at h0
   obtain⟨p,t,hp,hti⟩:=hT.all i hil
   subst hti
   have hb:∀j∈dN ops t.i,listed.getD j false=true:=fun j hj=>by
    obtain⟨e,he,hbe,rfl⟩:=(qG ho).1 hj
    exact hbind e he hbe
   have hn:¬listed.getD t.i false=true:=by rw [h0];simp
   obtain⟨run',a',c',hrun',hok',hstep,hle',hcut'⟩:=hat.next hT hR hp hn hb ho
   have hro:kP X.P G run':=by
    rcases hrun' with rfl | rfl
    ·exact hrun
    ·intro f args σ r σ' h;cases h
   unfold wpOp
   rw [ho]
   refine EH (ops:=ops) hX hro hst.nI hen hok' hstep fun v w' μ' hv hs'=>?_
   have hka:=hok'
   simp only [ny,Bool.and_eq_true,beq_iff_eq] at hka
   have hdt:t.a.d=o.dst:=by
    obtain⟨o',ho',h'⟩:=hT.at' p t hp
    rw [ho] at ho';cases ho'
    simp only [ny,Bool.and_eq_true,beq_iff_eq] at h'
    exact h'.1.1.1.symm
   have hget:∀j,(listed.setIfInBounds t.i true).getD j false=true↔listed.getD j false=true∨j=t.i:=by
    intro j
    by_cases hj:t.i=j
    ·subst hj;simp [Array.getElem?_setIfInBounds,hsz,hil]
    ·rw [getD_set_ne false hj];simp [Ne.symm hj]
   refine ih _ c' (put o.dst (V p) ec) _ w' μ' ?_ (by simpa using hsz) ?_ ⟨?_,hle',?_,?_,?_⟩ (hst.trans hs') ?_ (by rw [jc];exact hdf)
   ·have:=Jo (n:=ops.size) hil hsz h0
    omega
   ·intro j hj
    rcases (hget j).1 hj with h | h
    ·exact hlt j h
    ·rw [h];exact hil
   ·intro j hj k hk
    rw [hget] at hj ⊢
    rcases hj with hj | hj
    ·exact .inl (hat.closed j hj k hk)
    ·rw [hj] at hk;exact .inl (hb k hk)
   ·intro q u hq hpu
    rw [hcut' q u hq hpu,hget]
    constructor
    ·rintro (h | h)
     ·exact .inl h
     ·subst h;rw [hp] at hq;cases hq;exact .inr rfl
    ·rintro (h | h)
     ·exact .inl h
     ·exact .inr (pos_eq hT hq hp h)
   ·intro q u x hq hu hx
    rw [hget] at hu
    by_cases uZ:q=p
    ·subst uZ;rw [hp] at hq;cases hq
     rw [←hdt,hx,jD]
    ·rw [jR fun hd=>uZ (yQ hT hq hp hx (by rw [hdt];exact hd))]
     rcases hu with hu | hu
     ·exact hat.wrote q u x hq hu hx
     ·exact absurd (pos_eq hT hq hp hu) uZ
   ·intro x hx
    rw [jR fun hd=>hx p t hp ((hget _).2 (.inr rfl)) (by rw [hdt];exact hd)]
    exact hat.kept x fun q u hq hu=>hx q u hq ((hget _).2 (.inl hu))
   ·have he':=hen.mono hs'.ext hs'.sK
    have hN:wJ N o.dst=true:=by rw [hka.1.1.1];exact hka.1.1.2
    exact he'.put hN hv
end
end Go.cO
namespace Go.cO
structure Bx where
 i:Nat
 j:Nat
 d:Nat
 t:Nat
 y:bH
def Bx.ais (b:Bx):List AI:=[⟨some b.d,none,.alloc b.t⟩,⟨none,none,.store b.t (.t b.d) b.y⟩]
def isAl (a:AI):Bool:=match a.op with
 | .alloc _=>true
 | _=>false
def atOp (P:Program)(G N:Nat)(ops:Array Oper)(a:AI):Nat:=((List.range ops.size).find? fun i=>match ops[i]? with
 | some o=>ny P G N ops o a
 | none=>false).getD ops.size
def bxOf (P:Program)(G N:Nat)(ops:Array Oper)(a c:AI):Bx:=match a.d,a.op,c.op with
 | some d,.alloc t,.store _ _ y=>⟨atOp P G N ops a,atOp P G N ops c,d,t,y⟩
 | _,_,_=>⟨0,0,0,0,.c .u⟩
def Jp (P:Program)(G N:Nat)(ops:Array Oper):List AI→List Bx
 | a :: c :: r=>bxOf P G N ops a c :: Jp P G N ops r
 | _=>[]
def NT (P:Program)(G N:Nat)(ops:Array Oper)(l:List AI):List (Nat×AI):=l.map fun a=>(atOp P G N ops a,a)
def oJ (l:List AI):List AI:=l.takeWhile fun a=>!isAl a
def vg (l:List AI):List AI:=l.dropWhile fun a=>!isAl a
def AI.eqB (a b:AI):Bool:=a.d == b.d && a.gd == b.gd && (match a.op,b.op with
 | .alloc t,.alloc t'=>t == t'
 | .store t x y,.store t' x' y'=>t == t' && (match x,x' with | .t n,.t n'=>n == n' | _,_=>false) && (match y,y' with | .t n,.t n'=>n == n' | .c v,.c v'=>AV.eqv v v' | _,_=>false)
 | _,_=>false)
theorem AI.eqB_eq {a b:AI} (h:a.eqB b=true):a=b:=by
 obtain⟨d,g,op⟩:=a
 obtain⟨d',g',op'⟩:=b
 simp only [AI.eqB,Bool.and_eq_true,beq_iff_eq] at h
 obtain⟨⟨rfl,rfl⟩,h⟩:=h
 split at h
 ·simp only [beq_iff_eq] at h;subst h;rfl
 ·rename_i t x y t' x' y' h1 h2
  simp only [Bool.and_eq_true,beq_iff_eq] at h
  obtain⟨⟨rfl,h3⟩,h4⟩:=h
  split at h3
  ·simp only [beq_iff_eq] at h3;subst h3
   split at h4
   ·simp only [beq_iff_eq] at h4;subst h4;rfl
   ·rw [AV.kG _ _ h4]
   ·cases h4
  ·cases h3
 ·cases h
def Jq:List AI→List AI→Bool
 | [],[]=>true
 | a :: r,b :: s=>a.eqB b && Jq r s
 | _,_=>false
theorem EN:∀{a b:List AI},Jq a b=true→a=b
 | [],[],_=>rfl
 | [],_ :: _,h=>by cases h
 | _ :: _,[],h=>by cases h
 | a :: r,b :: s,h=>by
   simp only [Jq,Bool.and_eq_true] at h
   rw [AI.eqB_eq h.1,EN h.2]
def ig {α:Type} (f:α→α→Bool):List α→Bool
 | []=>true
 | a :: r=>r.all (f a) && ig f r
theorem pR {α:Type} {f:α→α→Bool} :∀{l:List α},ig f l=true→∀{p q:Nat} {a b:α},p<q→l[p]? =some a→l[q]? =some b→f a b=true
 | [],_,_,_,_,_,_,h,_=>by cases h
 | c :: r,h,0,q+1,a,b,_,ha,hb=>by
   cases ha
   simp only [ig,Bool.and_eq_true,List.all_eq_true] at h
   exact h.1 _ (List.mem_of_getElem? hb)
 | c :: r,h,p+1,q+1,a,b,hl,ha,hb=>by
   simp only [ig,Bool.and_eq_true] at h
   exact pR h.2 (Nat.lt_of_succ_lt_succ hl) ha hb
def yR (N:Nat)(ops:Array Oper)(A:List (Nat×AI))(B:List Bx)(k n x:Nat):Bool:=
 decide (x<N) && ((A.all (fun q=>q.2.d != some x) && B.all fun b=>b.d != x) || (A.take n).any fun q=>q.2.d == some x && (dN ops k).contains q.1)
def okA (P:Program)(G N:Nat)(ops:Array Oper)(A:List (Nat×AI))(B:List Bx)(p:Nat):Bool:=match A[p]? with
 | some q=>EJ P G N ops q.1 q.2 && q.2.op.exact && q.2.slots.all (yR N ops A B q.1 p)
 | none=>true
def wY (f:Bool)(A:List (Nat×AI))(B:List Bx):List Nat:=A.map (·.1) ++ (match f with
 | true=>B.flatMap fun b=>[b.i,b.j]
 | false=>B.map (·.i) ++ B.map (·.j))
theorem pU {f:Bool} {A:List (Nat×AI)} {B:List Bx} {k:Nat} :k∈wY f A B↔(∃q∈A,q.1=k)∨∃b∈B,b.i=k∨b.j=k:=by
 cases f
 ·simp only [wY,List.mem_append,List.mem_map]
  constructor
  ·rintro (h | ⟨b,hb,rfl⟩ | ⟨b,hb,rfl⟩)
   ·exact .inl h
   ·exact .inr ⟨b,hb,.inl rfl⟩
   ·exact .inr ⟨b,hb,.inr rfl⟩
  ·rintro (h | ⟨b,hb,rfl | rfl⟩)
   ·exact .inl h
   ·exact .inr (.inl ⟨b,hb,rfl⟩)
   ·exact .inr (.inr ⟨b,hb,rfl⟩)
 ·simp only [wY,List.mem_append,List.mem_map,List.mem_flatMap,List.mem_cons,List.not_mem_nil,or_false]
  constructor
  ·rintro (h | ⟨b,hb,rfl | rfl⟩)
   ·exact .inl h
   ·exact .inr ⟨b,hb,.inl rfl⟩
   ·exact .inr ⟨b,hb,.inr rfl⟩
  ·rintro (h | ⟨b,hb,rfl | rfl⟩)
   ·exact .inl h
   ·exact .inr ⟨b,hb,.inl rfl⟩
   ·exact .inr ⟨b,hb,.inr rfl⟩
def BI (f:Bool)(P:Program)(G N:Nat)(ops:Array Oper)(l:List AI)(A:List (Nat×AI))(B:List Bx):Bool:=
 Jq (vg l) (B.flatMap Bx.ais) &&
 ig (fun q q'=>q.1 != q'.1 && (q.2.d == none || q.2.d != q'.2.d)) A &&
 ig (fun b b'=>b.i != b'.i && b.i != b'.j && b.j != b'.i && b.j != b'.j && b.d != b'.d) B &&
 A.all (fun q=>B.all fun b=>q.1 != b.i && q.1 != b.j && q.2.d != some b.d) &&
 (List.range ops.size).all (fun i=>(wY f A B).contains i) &&
 (List.range (wY f A B).length).all (fun p=>(dN ops ((wY f A B).getD p 0)).all fun k=>((wY f A B).take p).contains k) &&
 (List.range A.length).all (okA P G N ops A B) &&
 B.all fun b=>EJ P G N ops b.i ⟨some b.d,none,.alloc b.t⟩ && EJ P G N ops b.j ⟨none,none,.store b.t (.t b.d) b.y⟩ && b.i != b.j && (dN ops b.j).contains b.i && b.y.sl.all (yR N ops A B b.j A.length)
def V3 (P:Program)(G N:Nat)(ops:Array Oper)(l:List AI):Bool:=
 BI true P G N ops l (NT P G N ops (oJ l)) (Jp P G N ops (vg l)) || BI false P G N ops l (NT P G N ops (oJ l)) (Jp P G N ops (vg l))
section
variable {P:Program} {G N:Nat} {μ:Mu} {σ:St} {w:World} {ops:Array Oper}
theorem Step.place (h:fH G μ σ w) {k e:Nat} {cs:List AV} {dF:Array Value} (hk:σ[k]? =some ⟨0,false,.dead⟩)(hG:G≤k)(hn:μ k 0=none)(hr:aQ μ w cs dF.toList) :
 Step G μ σ w (μ.upd k 0 (w.heap.size,0)) (σ.set k ⟨0,false,.cells e cs⟩) { w with heap:=w.heap.push (.cells dF e) } :=by
 have hlt:k<σ.length:=cu hk
 have hle:=Mu.pG (x:=(w.heap.size,0)) hn
 have hw:=ji.push w (.cells dF e)
 have hold:∀b,b<w.heap.size→({ w with heap:=w.heap.push (.cells dF e) } :World).heap[b]? =w.heap[b]? :=fun b hb=>by
  show (w.heap.push _)[b]? =_
  rw [Array.getElem?_push,if_neg (by omega)]
 have hnew:({ w with heap:=w.heap.push (.cells dF e) } :World).heap[w.heap.size]? =some (.cells dF e):=by
  show (w.heap.push _)[w.heap.size]? =_
  simp
 have hsz:({ w with heap:=w.heap.push (.cells dF e) } :World).heap.size=w.heap.size+1:=by simp
 have hcase:∀(o:Nat) a',(σ.set k ⟨0,false,.cells e cs⟩)[o]? =some a'→(σ[o]? =some a'∧o≠k)∨(o=k∧a'= ⟨0,false,.cells e cs⟩):=by
  intro o a' ho
  rw [List.getElem?_set] at ho
  split at ho
  ·rename_i hko;subst hko
   try rw [if_pos hlt] at ho
   cases ho
   exact .inr ⟨rfl,rfl⟩
  ·rename_i hko;exact .inl ⟨ho,fun h=>hko h.symm⟩
 have hlen:=hr.length
 simp only [Array.length_toList] at hlen
 refine⟨⟨?_,?_,?_,?_,?_,?_,?_⟩,hle,hw,rfl,rfl,rfl,by omega,fun b hb _=>hold b hb,?_⟩
 ·intro o a' ho hl'
  rcases hcase o a' ho with ⟨ho',hne⟩ | ⟨rfl,rfl⟩
  ·obtain⟨b,δ,h1,h2⟩:=h.obj o a' ho' hl'
   exact⟨b,δ,hle _ _ _ h1,pF.mono hle hw (hold b (h.blk _ _ _ _ h1)) h2⟩
  ·refine⟨w.heap.size,0,Mu.bK _ _ _ _,dF,(0,0),hnew,by omega,fun j c hj=>?_,fun _ j _ hj=>by omega⟩
   obtain⟨v,r1,r2⟩:=hr.get j c hj
   exact⟨v,by rw [Nat.zero_add];simpa using r1,aJ.mono hle hw c v r2⟩
 ·intro o o' a1 a2 b δ uV ho ho' hro hl1 hl2 hb1 hb2
  rcases hcase o a1 ho with ⟨ho1,hne⟩ | ⟨rfl,rfl⟩ <;> rcases hcase o' a2 ho' with ⟨ho2,hne'⟩ | ⟨rfl,rfl⟩
  ·rw [Mu.upd_ne (by simp [hne])] at hb1
   rw [Mu.upd_ne (by simp [hne'])] at hb2
   exact h.inj o o' a1 a2 b δ uV ho1 ho2 hro hl1 hl2 hb1 hb2
  ·rw [Mu.upd_ne (by simp [hne])] at hb1
   rw [Mu.bK] at hb2
   cases hb2
   have:=h.blk _ _ _ _ hb1
   omega
  ·rw [Mu.upd_ne (by simp [hne'])] at hb2
   rw [Mu.bK] at hb1
   cases hb1
   have:=h.blk _ _ _ _ hb2
   omega
  ·rfl
 ·intro o g y hy
  by_cases he:o=k∧g=0
  ·exact⟨⟨0,false,.cells e cs⟩,by rw [he.1,List.getElem?_set_self hlt],by rw [he.2];exact Nat.zero_le _⟩
  ·rw [Mu.upd_ne he] at hy
   obtain⟨a',ha,hle'⟩:=h.dom _ _ _ hy
   by_cases hok:o=k
   ·subst hok
    rw [hk] at ha;cases ha
    exact absurd ⟨rfl,Nat.le_zero.1 hle'⟩ he
   ·exact⟨a',by rw [List.getElem?_set_ne (Ne.symm hok)];exact ha,hle'⟩
 ·intro o g b δ hy
  by_cases he:o=k∧g=0
  ·rw [he.1,he.2,Mu.bK] at hy;cases hy;omega
  ·rw [Mu.upd_ne he] at hy;have:=h.blk _ _ _ _ hy;omega
 ·intro g hg'
  exact hle _ _ _ (h.rC g hg')
 ·intro o b δ hy
  by_cases he:o=k∧(0:Nat)=0
  ·rw [he.1,Mu.bK] at hy;cases hy;rfl
  ·rw [Mu.upd_ne he] at hy;exact h.low _ _ _ hy
 ·intro g e' cs' hg ho
  rcases hcase g _ ho with ⟨ho',_⟩ | ⟨rfl,_⟩
  ·exact hw _ _ _ (h.full g e' cs' hg ho')
  ·omega
 ·intro o a' b δ ho hro hl' hb hlt'
  rcases hcase o a' ho with ⟨ho',hne⟩ | ⟨rfl,rfl⟩
  ·rw [Mu.upd_ne (by simp [hne])] at hb
   exact⟨o,a',δ,ho',hro,hl',hb⟩
  ·rw [Mu.bK] at hb;cases hb;omega
theorem Step.NU (h:fH G μ σ w)(n:Nat):Step G μ σ w μ (σ ++ List.replicate n ⟨0,false,.dead⟩) w:=by
 have hcase:∀(o:Nat) a',(σ ++ List.replicate n (⟨0,false,.dead⟩:AO))[o]? =some a'→σ[o]? =some a'∨a'= ⟨0,false,.dead⟩:=by
  intro o a' ho
  rw [List.getElem?_append] at ho
  split at ho
  ·exact .inl ho
  ·rw [List.getElem?_replicate] at ho
   split at ho
   ·cases ho;exact .inr rfl
   ·cases ho
 refine⟨⟨?_,?_,?_,h.blk,h.rC,h.low,?_⟩,Mu.le_refl μ,ji.refl w,rfl,rfl,rfl,Nat.le_refl _,fun _ _ _=>rfl,?_⟩
 ·intro o a' ho hl
  rcases hcase o a' ho with ho | rfl
  ·exact h.obj o a' ho hl
  ·cases hl
 ·intro o o' a1 a2 b δ uV ho ho' hro hl1 hl2 hb1 hb2
  rcases hcase o a1 ho with ho1 | rfl
  ·rcases hcase o' a2 ho' with ho2 | rfl
   ·exact h.inj o o' a1 a2 b δ uV ho1 ho2 hro hl1 hl2 hb1 hb2
   ·cases hl2
  ·cases hl1
 ·intro o g y hy
  obtain⟨a',ha,hle'⟩:=h.dom _ _ _ hy
  exact⟨a',by rw [List.getElem?_append_left (cu ha)];exact ha,hle'⟩
 ·intro g e cs hg ho
  rcases hcase g _ ho with ho | ho
  ·exact h.full g e cs hg ho
  ·cases ho
 ·intro o a' b δ ho hro hl hb _
  rcases hcase o a' ho with ho | rfl
  ·exact⟨o,a',δ,ho,hro,hl,hb⟩
  ·cases hl
theorem fH.above (h:fH G μ σ w) {o g:Nat} (ho:σ.length≤o):μ o g=none:=by
 cases hq:μ o g with
 | none=>rfl
 | some y=>obtain⟨a,ha,_⟩:=h.dom _ _ _ hq;have:=cu ha;omega
theorem fH.G_le (h:fH G μ σ w):G≤σ.length:=by
 rcases Nat.lt_or_ge σ.length G with hl | hl
 ·have:=h.rC _ hl
  rw [h.above (Nat.le_refl _)] at this;cases this
 ·exact hl
theorem wM {o g:Nat} {cs:List AV} (τ:St)(h:fC σ o g=some cs):fC (σ ++ τ) o g=some cs:=by
 unfold fC at h ⊢
 cases ho:σ[o]? with
 | none=>rw [ho] at h;cases h
 | some a=>rw [List.getElem?_append_left (cu ho),ho];rw [ho] at h;exact h
theorem yS {x:AV} {es:List (AV×AV)} (τ:St)(h:ou σ x=some es):ou (σ ++ τ) x=some es:=by
 unfold ou at h ⊢
 split at h
 ·exact h
 ·rename_i o g
  cases ho:σ[o]? with
  | none=>rw [ho] at h;cases h
  | some a=>rw [List.getElem?_append_left (cu ho),ho];rw [ho] at h;exact h
 ·cases h
theorem KW {T:Option AT} {x v:AV} (τ:St)(h:fG T x σ=some v):fG T x (σ ++ τ)=some v:=by
 unfold fG at h ⊢
 split at h
 ·rw [Option.bind_eq_some_iff] at h
  obtain⟨cs,h1,h2⟩:=h
  simp only [wM τ h1,Option.bind_some];exact h2
 ·cases h
theorem NV {t:Nat} {x v:AV} {lo hi:Option AV} (τ:St)(h:wX P t x lo hi σ=some v):wX P t x lo hi (σ ++ τ)=some v:=by
 unfold wX at h ⊢
 split at h
 ·cases h
 ·rename_i T hT
  split at h
  ·exact h
  ·exact h
  ·exact h
  ·rename_i n e o g off hd
   split at h
   ·rename_i hz
    rw [if_pos hz]
    rw [Option.bind_eq_some_iff] at h
    obtain⟨cs,h1,h2⟩:=h
    simp only [wM τ h1,Option.bind_some];exact h2
   ·cases h
  ·cases h
theorem NW {t:Nat} {x k v:AV} {ok:Bool} (τ:St)(h:yw P t x k ok σ=some v):yw P t x k ok (σ ++ τ)=some v:=by
 unfold yw at h ⊢
 split at h
 ·rename_i kt et _ _ _ _ _ _ hT
  split at h
  ·rename_i es E h1 h2
   simp only [yS τ h1,h2];exact h
  ·cases h
 ·cases h
theorem NY {t:Nat} {x v:AV} (τ:St)(h:He P t x σ=some v):He P t x (σ ++ τ)=some v:=by
 unfold He at h ⊢
 split at h
 ·rw [Option.map_eq_some_iff] at h
  obtain⟨es,h1,h2⟩:=h
  simp only [yS τ h1,Option.map_some,h2]
 ·cases h
theorem Jr {ρ:bH→AV} {op:dG} {v:AV} {σ1:St} (τ:St)(hx:op.exact=true)(h:dO P ρ op σ=some (v,σ1)):dO P ρ op (σ ++ τ)=some (v,σ ++ τ):=by
 by_cases hs:op.still=true
 ·exact qF hs h _
 ·cases op <;> simp only [dG.exact,dG.pure,dG.still,Bool.false_eq_true,not_true_eq_false,not_false_eq_true] at hx hs <;> simp only [dO] at h ⊢ <;> rw [Option.map_eq_some_iff] at h <;> obtain⟨q,hq,h⟩:=h <;> cases h
  ·rw [KW τ hq];rfl
  ·rw [NV τ hq];rfl
  ·rw [NW τ hq];rfl
  ·rw [NY τ hq];rfl
theorem KX {X:Ctx} {run:Run} {e:Env} {a:AI} {v:AV} {σ1:St} (τ:St)(hx:a.op.exact=true)(h:cZ X run e a σ=some (v,σ1)):cZ X run e a (σ ++ τ)=some (v,σ ++ τ):=by
 have hp:=rF hx
 unfold cZ at h ⊢
 split at h
 ·rename_i hg
  rw [lI hp] at h ⊢
  exact Jr τ hx h
 ·rename_i g hg
  split at h
  ·cases h
  ·rename_i c hc
   simp only [hp,if_true] at h ⊢
   rw [Option.map_eq_some_iff] at h
   obtain⟨q,hq,h⟩:=h;cases h
   rw [Option.map_eq_some_iff]
   refine⟨v,?_,rfl⟩
   cases c with
   | false=>exact hq
   | true=>
     have h0:gZ X.P e a.op σ=some v:=hq
     show gZ X.P e a.op (σ ++ τ)=some v
     by_cases hpk:∃q x y,a.op= .pick q x y
     ·obtain⟨q,x,y,hpk⟩:=hpk
      rw [hpk] at h0 ⊢;exact h0
     have e1:∀σ',gZ X.P e a.op σ'= nH true (a.op.bQ.all (fun o=>lC true (o.ev e).cnd)) (dO X.P (fun o=>(o.ev e).val) a.op σ'):=by
      intro σ'
      generalize a.op=op at hpk ⊢
      cases op <;> first | rfl | exact absurd ⟨_,_,_,rfl⟩ hpk
     rw [e1] at h0 ⊢
     cases ho:dO X.P (fun o=>(o.ev e).val) a.op σ with
     | none=>rw [ho] at h0;cases h0
     | some r=>
       obtain⟨r1,r2⟩:=r
       rw [ho] at h0
       rw [Jr τ hx ho]
       exact h0
end
end Go.cO
namespace Go.cO
section
variable {X:Ctx} {run:Run}
theorem EO:∀(l m:List AI) (e:Env) (σ:St),kR X run (l ++ m) e σ=(kR X run l e σ).bind fun r=>kR X run m r.1 r.2
 | [],_,_,_=>rfl
 | a :: l,m,e,σ=>by
   simp only [List.cons_append,kR]
   cases cZ X run e a σ with
   | none=>rfl
   | some r=>exact EO l m _ _
theorem recA {σ:St} :∀(l:List AI) (e eP:Env) (MX:St),(∀a∈l,a.op.pure=true)→kR X run l e σ=some (eP,MX)→MX=σ∧(∀x,(∀a∈l,a.d≠some x)→get eP x=get e x)∧
 ∀ (p:Nat) a,l[p]? =some a→∃Ep v,cZ X run Ep a σ=some (v,σ)∧(∀x,(∀(q:Nat) c,p≤q→l[q]? =some c→c.d≠some x)→get Ep x=get eP x)∧
   ∀ x,a.d=some x→(∀(q:Nat) c,p<q→l[q]? =some c→c.d≠some x)→get eP x=v
 | [],e,eP,MX,_,h=>by
   cases h
   exact⟨rfl,fun _ _=>rfl,fun p a ha=>by simp at ha⟩
 | a :: l,e,eP,MX,hp,h=>by
   simp only [kR] at h
   split at h
   ·rename_i v σ1 hst
    have h1:=oI (hp a (List.mem_cons_self ..)) hst
    subst h1
    obtain⟨r1,r2,r3⟩:=recA l (put a.d v e) eP MX (fun c hc=>hp c (List.mem_cons_of_mem _ hc)) h
    have keep:∀x,(∀c∈a :: l,c.d≠some x)→get eP x=get e x:=fun x hx=>by
        rw [r2 x fun c hc=>hx c (List.mem_cons_of_mem _ hc),jR (hx a (List.mem_cons_self ..))]
    refine⟨r1,keep,fun p c hc=>?_⟩
    cases p with
    | zero=>
      cases hc
      refine⟨e,v,hst,fun x hx=>(keep x fun c hc=>?_).symm,fun x hx hl=>?_⟩
      ·obtain⟨q,hq⟩:=List.getElem?_of_mem hc
       exact hx q c (Nat.zero_le _) hq
      ·rw [r2 x fun c hc=>by
          obtain⟨q,hq⟩:=List.getElem?_of_mem hc
          exact hl (q+1) c (Nat.succ_pos _) hq,hx,jD]
    | succ p=>
      obtain⟨Ep,hu,q1,q2,q3⟩:=r3 p c hc
      refine⟨Ep,hu,q1,fun x hx=>q2 x fun q d hq hd=>hx (q+1) d (by omega) hd,fun x hx hl=>q3 x hx fun q d hq hd=>hl (q+1) d (by omega) hd⟩
   ·cases h
def vk (P:Program)(t:Nat):List AV:=match aA P t with
 | some T=>T.zero.cells
 | none=>[]
def pV (P:Program)(e:Env)(b:Bx):AO:=⟨0,false,.cells b.t (setCells (vk P b.t) 0 (b.y.ev e).cells)⟩
structure BxOk (P:Program)(e:Env)(b:Bx):Prop where
 ty:∃T,aA P b.t=some T∧(b.y.ev e).cells.length=T.size∧(b.y.ev e).cells.all AV.one=true∧0+T.size≤T.zero.cells.length
theorem V4 {e:Env} {d t:Nat} {σ:St} :cZ X run e ⟨some d,none,.alloc t⟩ σ=(aA X.P t).map fun T=>(.p σ.length 0 0,bg t T.zero.cells σ):=rfl
theorem V5 {e:Env} {d t:Nat} {y:bH} {σ:St} :cZ X run e ⟨none,none,.store t (.t d) y⟩ σ=(f_ (aA X.P t) (get e d) (y.ev e) σ).map (.tu [],·):=rfl
theorem recB:∀(B:List Bx) (e e':Env) (σ σ':St),ig (fun b b'=>b.d != b'.d) B=true→(∀b∈B,∀b'∈B,b'.d∉b.y.sl)→kR X run (B.flatMap Bx.ais) e σ=some (e',σ')→
 σ'= σ ++ B.map (pV X.P e)∧(∀x,(∀b∈B,b.d≠x)→get e' x=get e x)∧(∀(k:Nat) b,B[k]? =some b→get e' b.d= .p (σ.length+k) 0 0)∧∀b∈B,BxOk X.P e b
 | [],e,e',σ,σ',_,_,h=>by
   cases h
   exact⟨by simp,fun _ _=>rfl,fun k b hb=>by simp at hb,fun b hb=>by cases hb⟩
 | b :: r,e,e',σ,σ',hd,hy,h=>by
   simp only [List.flatMap_cons,Bx.ais,List.cons_append,List.nil_append,kR,V4,V5] at h
   cases hT:aA X.P b.t with
   | none=>rw [hT] at h;simp at h
   | some T=>
     rw [hT] at h
     simp only [Option.map_some,put] at h
     have hd0:get ((b.d,AV.p σ.length 0 0) :: e) b.d= .p σ.length 0 0:=by simp [get]
     rw [hd0] at h
     have hnew:(bg b.t T.zero.cells σ)[σ.length]? =some ⟨0,false,.cells b.t T.zero.cells⟩:=by simp [bg]
     have hyb:b.y.ev ((b.d,.p σ.length 0 0) :: e)=b.y.ev e:=tZ fun x hx=>by
        have hne:¬b.d=x:=fun hh=>hy b (List.mem_cons_self ..) b (List.mem_cons_self ..) (by rw [hh];exact hx)
        simp [get,hne]
     rw [hyb] at h
     obtain⟨y0,hy0⟩:∃y0,y0=b.y.ev e:=⟨_,rfl⟩
     rw [←hy0] at h
     simp only [f_,hnew] at h
     split at h
     ·rename_i v σ1 hst
      split at hst
      ·rename_i hc
       obtain⟨_,_,c1,c2,c3⟩:=hc
       simp only [Option.map_some,Option.some.injEq,Prod.mk.injEq] at hst
       obtain⟨rfl,rfl⟩:=hst
       have hset:(bg b.t T.zero.cells σ).set σ.length ⟨0,false,.cells b.t (setCells T.zero.cells 0 y0.cells)⟩=σ ++ [pV X.P e b]:=by
          simp only [bg,pV,vk,hT,hy0]
          rw [List.set_append_right _ _ (Nat.le_refl _)]
          simp
       have h2:kR X run (r.flatMap Bx.ais) ((b.d,.p σ.length 0 0) :: e) (σ ++ [pV X.P e b])=some (e',σ'):=by rw [←hset];exact h
       simp only [ig,Bool.and_eq_true,List.all_eq_true,bne_iff_ne,ne_eq] at hd
       obtain⟨r1,r2,r3,r4⟩:=recB r _ e' _ σ' hd.2 (fun c hc c' hc'=>hy c (List.mem_cons_of_mem _ hc) c' (List.mem_cons_of_mem _ hc')) h2
       have hyr:∀c∈r,c.y.ev ((b.d,.p σ.length 0 0) :: e)=c.y.ev e:=fun c hc=>tZ fun x hx=>by
          have hne:¬b.d=x:=fun hh=>hy c (List.mem_cons_of_mem _ hc) b (List.mem_cons_self ..) (by rw [hh];exact hx)
          simp [get,hne]
       refine⟨?_,fun x hx=>?_,fun k c hc=>?_,fun c hc=>?_⟩
       ·rw [r1,List.map_cons,List.append_assoc,List.singleton_append]
        congr 2
        exact List.map_congr_left fun c hc=>by simp only [pV,hyr c hc]
       ·have hne:¬b.d=x:=fun hh=>hx b (List.mem_cons_self ..) hh
        rw [r2 x fun c hc=>hx c (List.mem_cons_of_mem _ hc)]
        simp [get,hne]
       ·cases k with
        | zero=>
          cases hc
          rw [r2 b.d fun c hc hh=>hd.1 c hc hh.symm]
          simp [get]
        | succ k=>
          rw [r3 k c hc]
          simp only [List.length_append,List.length_cons,List.length_nil]
          congr 1;omega
       ·rcases List.mem_cons.1 hc with rfl | hc
        ·exact⟨T,hT,by rw [←hy0];exact c1,by rw [←hy0];exact c2,by omega⟩
        ·obtain⟨T',q⟩:=r4 c hc
         rw [hyr c hc] at q
         exact⟨T',q⟩
      ·simp at hst
     ·cases h
end
end Go.cO
namespace Go.cO
section
variable {X:Ctx} {run:Run} {G N:Nat} {ops:Array Oper} {A:List (Nat×AI)} {B:List Bx}
structure FrOk (f:Bool)(P:Program)(G N:Nat)(ops:Array Oper)(l:List AI)(A:List (Nat×AI))(B:List Bx):Prop where
 b:vg l=B.flatMap Bx.ais
 aa:∀{p q:Nat} {a c:Nat×AI},p<q→A[p]? =some a→A[q]? =some c→a.1≠c.1∧∀x,a.2.d=some x→c.2.d≠some x
 bb:∀{p q:Nat} {a c:Bx},p<q→B[p]? =some a→B[q]? =some c→a.i≠c.i∧a.i≠c.j∧a.j≠c.i∧a.j≠c.j∧a.d≠c.d
 ab:∀a∈A,∀c∈B,a.1≠c.i∧a.1≠c.j∧a.2.d≠some c.d
 all:∀i<ops.size,(∃a∈A,a.1=i)∨∃c∈B,c.i=i∨c.j=i
 ord:∀(p k:Nat),(wY f A B)[p]? =some k→∀j∈dN ops k,∃q,q<p∧(wY f A B)[q]? =some j
 a:∀(p:Nat) a,A[p]? =some a→(∃o,ops[a.1]? =some o∧ny P G N ops o a.2=true)∧a.2.op.exact=true∧∀x∈a.2.slots,yR N ops A B a.1 p x=true
 c:∀c∈B,(∃o,ops[c.i]? =some o∧ny P G N ops o ⟨some c.d,none,.alloc c.t⟩=true)∧(∃o,ops[c.j]? =some o∧ny P G N ops o ⟨none,none,.store c.t (.t c.d) c.y⟩=true)∧c.i≠c.j∧c.i∈dN ops c.j∧∀x∈c.y.sl,yR N ops A B c.j A.length x=true
theorem KY {P:Program} {l:List AI} {f:Bool} (h:BI f P G N ops l A B=true):FrOk f P G N ops l A B:=by
 simp only [BI,Bool.and_eq_true] at h
 obtain⟨⟨⟨⟨⟨⟨⟨h1,h2⟩,h3⟩,h4⟩,h5⟩,h6⟩,h7⟩,h8⟩:=h
 simp only [List.all_eq_true,Bool.and_eq_true,bne_iff_ne,ne_eq,List.mem_range,List.contains_iff_mem] at h4 h5 h6 h7 h8
 refine⟨EN h1,fun hl ha hb=>?_,fun hl ha hb=>?_,fun a ha c hc=>⟨(h4 a ha c hc).1.1,(h4 a ha c hc).1.2,(h4 a ha c hc).2⟩,fun i hi=>?_,fun p k hp j hj=>?_,fun p a ha=>?_,fun c hc=>?_⟩
 ·have:=pR h2 hl ha hb
  simp only [Bool.and_eq_true,bne_iff_ne,ne_eq,Bool.or_eq_true,beq_iff_eq] at this
  refine⟨this.1,fun x hx hx'=>?_⟩
  rcases this.2 with h | h
  ·rw [h] at hx;cases hx
  ·exact h (hx.trans hx'.symm)
 ·have:=pR h3 hl ha hb
  simp only [Bool.and_eq_true,bne_iff_ne,ne_eq] at this
  exact⟨this.1.1.1.1,this.1.1.1.2,this.1.1.2,this.1.2,this.2⟩
 ·have:=h5 i hi
  exact pU.1 this
 ·have:=h6 p (cu hp)
  rw [List.getD_eq_getElem?_getD,hp] at this
  exact t_ (this j hj)
 ·have:=h7 p (cu ha)
  unfold okA at this
  rw [ha] at this
  simp only [Bool.and_eq_true,List.all_eq_true] at this
  exact⟨nR this.1.1,this.1.2,this.2⟩
 ·obtain⟨⟨⟨⟨q1,q2⟩,q3⟩,q4⟩,q5⟩:=h8 c hc
  exact⟨nR q1,nR q2,q3,q4,q5⟩
def jm (P:Program)(e:Env)(L:Nat→Bool)(b:Bx):AO:=if L b.i then(if L b.j then pV P e b else⟨0,false,.cells b.t (vk P b.t)⟩) else⟨0,false,.dead⟩
def xM (P:Program)(e:Env)(B:List Bx)(L:Nat→Bool)(σ:St):St:=σ ++ B.map (jm P e L)
theorem HY {P:Program} {e:Env} {L:Nat→Bool} {σ:St} {k:Nat} {b:Bx} (h:B[k]? =some b):(xM P e B L σ)[σ.length+k]? =some (jm P e L b):=by
 unfold xM
 rw [List.getElem?_append_right (by omega),show σ.length+k - σ.length=k by omega,List.getElem?_map,h];rfl
theorem Js {P:Program} {e:Env} {L L':Nat→Bool} {σ:St} {k:Nat} {b:Bx} (h:B[k]? =some b)(ho:∀(k':Nat) b',B[k']? =some b'→k'≠k→jm P e L' b'= jm P e L b') :
 xM P e B L' σ=(xM P e B L σ).set (σ.length+k) (jm P e L' b):=by
 apply List.ext_getElem?
 intro n
 rw [List.getElem?_set]
 have hlt:=cu h
 split
 ·rename_i hn;subst hn
  rw [HY h,if_pos (by simp [xM];omega)]
 ·rename_i hn
  unfold xM
  rw [List.getElem?_append,List.getElem?_append]
  split
  ·rfl
  ·rename_i hge
   rw [List.getElem?_map,List.getElem?_map]
   cases hb:B[n - σ.length]? with
   | none=>rfl
   | some b'=>simp only [Option.map_some];rw [ho _ b' hb (by omega)]
theorem NZ {P:Program} {e:Env} {L L':Nat→Bool} {σ:St} (ho:∀b∈B,jm P e L' b=jm P e L b):xM P e B L' σ=xM P e B L σ:=by
 unfold xM
 rw [List.map_congr_left ho]
theorem EP {μ:Mu} {w:World} {e:Env} {tmps:Array Value} (hN:tmps.size=N)(K:Nat→Prop)(h:∀x,x<N→K x→aJ μ w (get e x) (tmps.getD x undef)):∃e1,dY G N μ w e1 tmps∧∀x,x<N→K x→get e1 x=get e x:=by
 classical
 refine⟨(List.range N).map fun n=>(n,if K n then get e n else .u),⟨hN,fun n=>?_⟩,?_⟩
 all_goals
  have hg:∀(M:Nat) (n:Nat),get ((List.range' 0 M).map fun n=>(n,if K n then get e n else .u)) n=if n<M then(if K n then get e n else .u) else .u:=by
   intro M
   suffices hs:∀(M s n:Nat),get ((List.range' s M).map fun n=>(n,if K n then get e n else .u)) n=if s≤n∧n<s+M then(if K n then get e n else .u) else .u by
        intro n;rw [hs M 0 n];simp
   intro M
   induction M with
   | zero=>intro s n;rw [if_neg (by omega)];rfl
   | succ M ih=>
     intro s n
     simp only [List.range'_succ,List.map_cons,get]
     by_cases hsn:s=n
     ·subst hsn
      rw [if_pos rfl,if_pos (show s≤s∧s<s+(M+1) from⟨Nat.le_refl _,by omega⟩)]
     ·rw [if_neg hsn,ih (s+1) n]
      by_cases hc:s≤n∧n<s+(M+1)
      ·rw [if_pos hc,if_pos ⟨by omega,by omega⟩]
      ·rw [if_neg hc,if_neg (by omega)]
  rw [List.range_eq_range']
 ·rw [hg N n]
  split
  ·rename_i hn
   split
   ·rename_i hk;exact h n hn hk
   ·trivial
  ·trivial
 ·intro x hx hk
  rw [hg N x,if_pos hx,if_pos hk]
structure Mid (P:Program)(G N:Nat)(ds:List Deferred)(A:List (Nat×AI))(B:List Bx)(eP:Env)(jh:St)(Am:Mu)(w0:World)(L:Nat→Bool)(act:Act)(w:World)(μ:Mu):Prop where
 st:Step G Am jh w0 μ (xM P eP B L jh) w
 size:act.tmps.size=N
 df:act.defers=ds
 vals:∀x,(∀b∈B,b.d≠x)→(∀q∈A,q.2.d=some x→L q.1=true)→aJ μ w (get eP x) (act.tmps.getD x undef)
 ptr:∀(k:Nat) b,B[k]? =some b→L b.i=true→aJ μ w (.p (jh.length+k) 0 0) (act.tmps.getD b.d undef)
 free:∀(k:Nat) b,B[k]? =some b→L b.i=false→μ (jh.length+k) 0=none
def vw (L:Nat→Bool)(i:Nat):Nat→Bool:=fun j=>if j=i then true else L j
theorem nS (L:Nat→Bool)(i:Nat):vw L i i=true:=by simp [vw]
theorem eF {L:Nat→Bool} {i j:Nat} (h:j≠i):vw L i j=L j:=by simp [vw,h]
theorem nT {act:Act} {d:Option Tmp} {v:Value} {x:Nat} (h:d≠some x):(act.put d v).tmps.getD x undef=act.tmps.getD x undef:=by
 cases d with
 | none=>rfl
 | some d=>
   have hne:¬d=x:=fun he=>h (by rw [he])
   simp only [Act.put]
   rw [Array.getD_eq_getD_getElem?,Array.getElem?_setIfInBounds,if_neg hne,←Array.getD_eq_getD_getElem?]
theorem qR {act:Act} {d:Tmp} {v:Value} (h:d<act.tmps.size):(act.put (some d) v).tmps.getD d undef=v:=by
 simp only [Act.put]
 rw [Array.getD_eq_getD_getElem?,Array.getElem?_setIfInBounds,if_pos rfl,if_pos h];rfl
theorem yT {act:Act} {d:Option Tmp} {v:Value} :(act.put d v).tmps.size=act.tmps.size:=by
 cases d <;> simp [Act.put]
section
variable {f:Bool} {ds:List Deferred} {l:List AI} {e eP e':Env} {jh σ':St} {Am:Mu} {w0:World} {L:Nat→Bool} {act:Act} {w:World} {μ:Mu} {K:Act→World→Prop} {Q:Exit→Act→World→Prop}
structure Ran (X:Ctx)(run:Run)(A:List (Nat×AI))(B:List Bx)(e eP e':Env)(jh σ':St):Prop where
 keep:∀x,(∀q∈A,q.2.d≠some x)→get eP x=get e x
 at':∀(p:Nat) q,A[p]? =some q→∃Ep v,cZ X run Ep q.2 jh=some (v,jh)∧(∀x,(∀(r:Nat) c,p≤r→A[r]? =some c→c.2.d≠some x)→get Ep x=get eP x)∧∀x,q.2.d=some x→(∀(r:Nat) c,p<r→A[r]? =some c→c.2.d≠some x)→get eP x=v
 store:σ'= jh ++ B.map (pV X.P eP)
 keepB:∀x,(∀b∈B,b.d≠x)→get e' x=get eP x
 ptrB:∀(k:Nat) b,B[k]? =some b→get e' b.d= .p (jh.length+k) 0 0
 okB:∀b∈B,BxOk X.P eP b
variable (hF:FrOk f X.P G N ops l A B)(hR:Ran X run A B e eP e' jh σ')
include hF hR
omit hR in
theorem Mid.src (h:Mid X.P G N ds A B eP jh Am w0 L act w μ) {k n x:Nat} (hs:yR N ops A B k n x=true)(hb:∀j∈dN ops k,L j=true):x<N∧(∀b∈B,b.d≠x)∧(∀q∈A,q.2.d=some x→L q.1=true)∧∀(r:Nat) c,n≤r→A[r]? =some c→c.2.d≠some x:=by
 simp only [yR,Bool.and_eq_true,decide_eq_true_eq,Bool.or_eq_true,List.all_eq_true,bne_iff_ne,ne_eq,List.any_eq_true,beq_iff_eq,List.contains_iff_mem] at hs
 obtain⟨h1,h2⟩:=hs
 rcases h2 with ⟨h2,h3⟩ | ⟨q,hq,h2,h3⟩
 ·exact⟨h1,h3,fun q hq hx=>absurd hx (h2 q hq),fun r c _ hc=>h2 c (List.mem_of_getElem? hc)⟩
 ·obtain⟨p,hp,hpq⟩:=t_ hq
  have hmem:=List.mem_of_getElem? hpq
  refine⟨h1,fun b hbB hd=>(hF.ab q hmem b hbB).2.2 (by rw [h2,hd]),fun q' hq' hx=>?_,fun r c hr hc hx=>?_⟩
  ·obtain⟨p',hp'⟩:=List.getElem?_of_mem hq'
   rcases Nat.lt_trichotomy p p' with hl | he | hl
   ·exact absurd hx ((hF.aa hl hpq hp').2 x h2)
   ·subst he;rw [hpq] at hp';cases hp';exact hb _ h3
   ·exact absurd h2 ((hF.aa hl hp' hpq).2 x hx)
  ·exact(hF.aa (by omega) hpq hc).2 x h2 hx
omit hF hR in
theorem uf {o:Oper} {a:AI} (h:ny X.P G N ops o a=true):o.dst=a.d∧wJ N a.d=true∧mO ops o.guard a.gd=true∧ni X.P G o.op a.op=true:=by
 simp only [ny,Bool.and_eq_true,beq_iff_eq] at h
 exact⟨h.1.1.1,h.1.1.2,h.1.2,h.2⟩
theorem Mid.value (h:Mid X.P G N ds A B eP jh Am w0 L act w μ) {p:Nat} {q:Nat×AI} (hq:A[p]? =some q) {o:Oper} (ho:ops[q.1]? =some o)(hb:∀j∈dN ops q.1,L j=true)
 (hK:∀act',Mid X.P G N ds A B eP jh Am w0 (vw L q.1) act' w μ→K act' w):C9 X.P ops o K Q act w:=by
 obtain⟨⟨o',ho',hok⟩,hex,hsl⟩:=hF.a p q hq
 rw [ho] at ho';cases ho'
 obtain⟨Ep,v,s1,s2,s3⟩:=hR.at' p q hq
 have hmem:=List.mem_of_getElem? hq
 have hsrc:∀x∈q.2.slots,_:=fun x hx=>h.src hF (hsl x hx) hb
 obtain⟨e1,hen,he1⟩:=EP (G:=G) (μ:=μ) (w:=w) (e:=eP) h.size (fun x=>(∀b∈B,b.d≠x)∧∀q∈A,q.2.d=some x→L q.1=true) fun x _ hx=>h.vals x hx.1 hx.2
 have hst:cZ X run e1 q.2 (xM X.P eP B L jh)=some (v,xM X.P eP B L jh):=by
  rw [jl (e':=Ep) fun x hx=>by
   obtain⟨q1,q2,q3,q4⟩:=hsrc x hx
   rw [he1 x q1 ⟨q2,q3⟩,s2 x q4]]
  exact KX _ hex s1
 obtain⟨hdst,hN,_,_⟩:=uf hok
 refine Hw (ops:=ops) h.st.nI hen hok hex hst fun u hu=>hK _ ?_
 have hL:∀b∈B,jm X.P eP (vw L q.1) b=jm X.P eP L b:=fun b hbB=>by
  obtain⟨n1,n2,_⟩:=hF.ab q hmem b hbB
  simp only [jm,eF (Ne.symm n1),eF (Ne.symm n2)]
 refine⟨by rw [NZ hL];exact h.st,by rw [yT];exact h.size,by rw [jc];exact h.df,fun x hx1 hx2=>?_,fun k b hbk hl=>?_,fun k b hbk hl=>?_⟩
 ·rw [hdst]
  by_cases hd:q.2.d=some x
  ·rw [hd] at hN ⊢
   have hxN:x<act.tmps.size:=by rw [h.size];simpa [wJ] using hN
   rw [qR hxN,s3 x hd fun r c hr hc=>(hF.aa hr hq hc).2 x hd]
   exact hu
  ·rw [nT hd]
   refine h.vals x hx1 fun q' hq' hx'=>?_
   have:=hx2 q' hq' hx'
   by_cases hqq:q'.1=q.1
   ·exfalso
    obtain⟨p',hp'⟩:=List.getElem?_of_mem hq'
    rcases Nat.lt_trichotomy p p' with hl | he | hl
    ·exact(hF.aa hl hq hp').1 hqq.symm
    ·subst he;rw [hq] at hp';cases hp';exact hd hx'
    ·exact(hF.aa hl hp' hq).1 hqq
   ·rw [eF hqq] at this;exact this
 ·have n1:=hF.ab q hmem b (List.mem_of_getElem? hbk)
  rw [eF (Ne.symm n1.1)] at hl
  rw [hdst,nT n1.2.2]
  exact h.ptr k b hbk hl
 ·have n1:=hF.ab q hmem b (List.mem_of_getElem? hbk)
  rw [eF (Ne.symm n1.1)] at hl
  exact h.free k b hbk hl
theorem Mid.alloc (h:Mid X.P G N ds A B eP jh Am w0 L act w μ)(hG:G≤jh.length) {k:Nat} {b:Bx} (hbk:B[k]? =some b) {o:Oper} (ho:ops[b.i]? =some o)(hi:L b.i=false)(hj:L b.j=false)
 (hK:∀act' w' μ',Mid X.P G N ds A B eP jh Am w0 (vw L b.i) act' w' μ'→K act' w'):C9 X.P ops o K Q act w:=by
 have hmem:=List.mem_of_getElem? hbk
 obtain⟨⟨o',ho',hok⟩,_,hij,_⟩:=hF.c b hmem
 rw [ho] at ho';cases ho'
 obtain⟨hdst,hN,hg,hop⟩:=uf hok
 obtain⟨T,hT,_⟩:=(hR.okB b hmem).ty
 obtain⟨z,z1,z2⟩:=sQ (w:=w) hT
 have hgn:o.guard=none:=by
  cases hgg:o.guard with
  | none=>rfl
  | some g=>rw [hgg] at hg;simp [mO] at hg
 have hopp:o.op= .alloc b.t:=by
  cases hoo:o.op <;> rw [hoo] at hop <;> simp only [ni,Bool.false_eq_true] at hop
  ·simp only [beq_iff_eq] at hop;rw [hop]
  ·rename_i c
   unfold ng at hop
   split at hop <;> first | (cases hop;done) | simp_all [iM]
 have hrun:(execOp act.eval o).run X.P w= .ok (.value (.pointer (some ⟨w.heap.size,0,none⟩))) { w with heap:=w.heap.push (.cells z.cells b.t) } :=by
  simp [execOp,hopp,Instr.alloc,z1,newVar,newRow]
 have hdead:(xM X.P eP B L jh)[jh.length+k]? =some ⟨0,false,.dead⟩:=by
  rw [HY hbk];simp [jm,hi]
 have hst:=Step.place (e:=b.t) h.st.nI hdead (by omega) (h.free k b hbk hi) (pJ z2)
 have hdN:b.d<act.tmps.size:=by rw [h.size];simpa [wJ] using hN
 have hother:∀(k':Nat) b',B[k']? =some b'→k'≠k→b'.i≠b.i∧b'.j≠b.i∧b'.d≠b.d:=by
  intro k' b' hb' hne
  rcases Nat.lt_or_ge k' k with hl | hl
  ·have:=hF.bb hl hb' hbk;exact⟨this.1,this.2.2.1,this.2.2.2.2⟩
  ·have:=hF.bb (show k<k' by omega) hbk hb';exact⟨Ne.symm this.1,Ne.symm this.2.1,Ne.symm this.2.2.2.2⟩
 have hset:xM X.P eP B (vw L b.i) jh=(xM X.P eP B L jh).set (jh.length+k) ⟨0,false,.cells b.t T.zero.cells⟩:=by
  rw [Js (L:=L) hbk fun k' b' hb' hne=>by
   obtain⟨n1,n2,_⟩:=hother k' b' hb' hne
   simp only [jm,eF n1,eF n2]]
  congr 1
  simp [jm,nS,eF (Ne.symm hij),hj,vk,hT]
 unfold C9
 rw [if_pos (by simp [Region.wanted,hgn])]
 refine .inl ?_
 unfold Oper.wp
 rw [hrun]
 refine hK _ _ _ ⟨by rw [hset];exact h.st.trans hst,by rw [yT];exact h.size,by rw [jc];exact h.df,fun x hx1 hx2=>?_,fun k' b' hb' hl=>?_,fun k' b' hb' hl=>?_⟩
 ·rw [hdst,nT (fun hh=>hx1 b hmem (Option.some.inj hh))]
  refine aJ.mono hst.ext hst.sK _ _ (h.vals x hx1 fun q hq hx=>?_)
  have:=hx2 q hq hx
  rw [eF (hF.ab q hq b hmem).1] at this;exact this
 ·rw [hdst]
  by_cases hkk:k'= k
  ·subst hkk
   rw [hbk] at hb';cases hb'
   rw [qR hdN]
   exact⟨w.heap.size,0,Mu.bK _ _ _ _,rfl⟩
  ·obtain⟨n1,_,n3⟩:=hother k' b' hb' hkk
   rw [eF n1] at hl
   rw [nT fun hh=>n3 (Option.some.inj hh).symm]
   exact aJ.mono hst.ext hst.sK _ _ (h.ptr k' b' hb' hl)
 ·by_cases hkk:k'= k
  ·subst hkk
   rw [hbk] at hb';cases hb'
   rw [nS] at hl;cases hl
  ·obtain⟨n1,_,_⟩:=hother k' b' hb' hkk
   rw [eF n1] at hl
   rw [Mu.upd_ne (by omega)]
   exact h.free k' b' hb' hl
theorem Mid.store (h:Mid X.P G N ds A B eP jh Am w0 L act w μ) {k:Nat} {b:Bx} (hbk:B[k]? =some b) {o:Oper} (ho:ops[b.j]? =some o)(hb:∀j∈dN ops b.j,L j=true)(hj:L b.j=false)
 (hK:∀act' w' μ',Mid X.P G N ds A B eP jh Am w0 (vw L b.j) act' w' μ'→K act' w'):C9 X.P ops o K Q act w:=by
 have hmem:=List.mem_of_getElem? hbk
 obtain⟨⟨oi,hoi,hoki⟩,⟨o',ho',hok⟩,hij,hbi,hsl⟩:=hF.c b hmem
 rw [ho] at ho';cases ho'
 have hi:L b.i=true:=hb _ hbi
 obtain⟨hdst,_,hg,hop⟩:=uf hok
 obtain⟨_,hN,_,_⟩:=uf hoki
 obtain⟨T,hT,t1,t2,t3⟩:=(hR.okB b hmem).ty
 have hgn:o.guard=none:=by
  cases hgg:o.guard with
  | none=>rfl
  | some g=>rw [hgg] at hg;simp [mO] at hg
 have hdN:b.d<N:=by simpa [wJ] using hN
 obtain⟨e1,hen,he1⟩:=EP (G:=G) (μ:=μ) (w:=w) (e:=put (some b.d) (.p (jh.length+k) 0 0) eP) h.size (fun x=>x=b.d∨((∀b∈B,b.d≠x)∧∀q∈A,q.2.d=some x→L q.1=true)) fun x _ hx=>by
  rcases hx with rfl | hx
  ·rw [jD];exact h.ptr k b hbk hi
  ·rw [jR fun hh=>hx.1 b hmem (Option.some.inj hh)];exact h.vals x hx.1 hx.2
 have hy:b.y.ev e1=b.y.ev eP:=tZ fun x hx=>by
  obtain⟨q1,q2,q3,_⟩:=h.src hF (hsl x hx) hb
  rw [he1 x q1 (.inr ⟨q2,q3⟩),jR fun hh=>q2 b hmem (Option.some.inj hh)]
 have Np:(xM X.P eP B L jh)[jh.length+k]? =some ⟨0,false,.cells b.t T.zero.cells⟩:=by
  rw [HY hbk];simp [jm,hi,hj,vk,hT]
 have hstore:f_ (aA X.P b.t) (.p (jh.length+k) 0 0) (b.y.ev eP) (xM X.P eP B L jh)=some ((xM X.P eP B L jh).set (jh.length+k) (pV X.P eP b)):=by
  simp only [f_,hT,Np]
  rw [if_pos ⟨trivial,trivial,t1,t2,by omega⟩]
  simp [pV,vk,hT]
 have hother:∀(k':Nat) b',B[k']? =some b'→k'≠k→b'.i≠b.j∧b'.j≠b.j:=by
  intro k' b' hb' hne
  rcases Nat.lt_or_ge k' k with hl | hl
  ·have:=hF.bb hl hb' hbk;exact⟨this.2.1,this.2.2.2.1⟩
  ·have:=hF.bb (show k<k' by omega) hbk hb';exact⟨Ne.symm this.2.2.1,Ne.symm this.2.2.2.1⟩
 have hset:xM X.P eP B (vw L b.j) jh=(xM X.P eP B L jh).set (jh.length+k) (pV X.P eP b):=by
  rw [Js (L:=L) hbk fun k' b' hb' hne=>by
   obtain⟨n1,n2⟩:=hother k' b' hb' hne
   simp only [jm,eF n1,eF n2]]
  congr 1
  simp [jm,nS,eF hij,hi]
 obtain⟨x',y',hopp,hx',hy'⟩:∃x' y',o.op= .store b.t x' y'∧bZ G x' (.t b.d)=true∧bZ G y' b.y=true:=by
  cases hoo:o.op <;> rw [hoo] at hop <;> simp only [ni,Bool.false_eq_true] at hop
  ·simp only [Bool.and_eq_true,beq_iff_eq] at hop
   exact⟨_,_,by rw [hop.1.1],hop.1.2,hop.2⟩
  ·rename_i c
   unfold ng at hop
   split at hop <;> first | (cases hop;done) | simp_all [iM]
 have rx:=mP h.st.nI hen hx'
 have ry:=mP h.st.nI hen hy'
 rw [hy] at ry
 have hxe:(bH.t b.d).ev e1= .p (jh.length+k) 0 0:=by
  show get e1 b.d=_
  rw [he1 b.d hdN (.inl rfl),jD]
 rw [hxe] at rx
 obtain⟨w',s1,s2⟩:=Bf h.st.nI hstore rx ry
 have hrun:(execOp act.eval o).run X.P w= .ok .skip w':=by simp [execOp,hopp,s1]
 unfold C9
 rw [if_pos (by simp [Region.wanted,hgn])]
 refine .inl ?_
 unfold Oper.wp
 rw [hrun]
 have hd0:o.dst=none:=hdst
 refine hK _ _ _ ⟨by rw [hset];exact h.st.trans s2,by rw [yT];exact h.size,by rw [jc];exact h.df,fun x hx1 hx2=>?_,fun k' b' hb' hl=>?_,fun k' b' hb' hl=>?_⟩
 ·rw [hd0,nT (by simp)]
  refine aJ.mono s2.ext s2.sK _ _ (h.vals x hx1 fun q hq hx=>?_)
  have:=hx2 q hq hx
  rw [eF (hF.ab q hq b hmem).2.1] at this;exact this
 ·rw [hd0,nT (by simp)]
  refine aJ.mono s2.ext s2.sK _ _ (h.ptr k' b' hb' ?_)
  by_cases hkk:k'= k
  ·subst hkk;rw [hbk] at hb';cases hb';exact hi
  ·rw [eF (hother k' b' hb' hkk).1] at hl;exact hl
 ·by_cases hkk:k'= k
  ·subst hkk;rw [hbk] at hb';cases hb'
   rw [eF hij,hi] at hl;cases hl
  ·rw [eF (hother k' b' hb' hkk).1] at hl
   exact h.free k' b' hb' hl
end
theorem KZ (l:List AI):oJ l ++ vg l=l:=List.takeWhile_append_dropWhile
theorem N7 {ds:List Deferred} {eP e':Env} {jh σ':St} {Am μ:Mu} {w0 w:World} {e:Env} {L:Nat→Bool} {act:Act} (hR:Ran X run A B e eP e' jh σ')(h:Mid X.P G N ds A B eP jh Am w0 L act w μ)(hA:∀q∈A,L q.1=true)(hB:∀b∈B,L b.i=true∧L b.j=true) :
 nP ds G N Am jh w0 e' σ' act w:=by
 have hst:xM X.P eP B L jh=σ':=by
  rw [hR.store]
  unfold xM
  have hm:B.map (jm X.P eP L)=B.map (pV X.P eP):=List.map_congr_left fun b hb=>by simp only [jm,(hB b hb).1,(hB b hb).2,if_true]
  rw [hm]
 refine⟨μ,by rw [←hst];exact h.st,⟨h.size,fun x=>?_⟩,h.df⟩
 by_cases hx:∃b∈B,b.d=x
 ·obtain⟨b,hb,rfl⟩:=hx
  obtain⟨k,hk⟩:=List.getElem?_of_mem hb
  rw [hR.ptrB k b hk]
  exact h.ptr k b hk (hB b hb).1
 ·have hx':∀b∈B,b.d≠x:=fun b hb hd=>hx ⟨b,hb,hd⟩
  rw [hR.keepB x hx']
  exact h.vals x hx' fun q hq _=>hA q hq
theorem fr_any {f:Bool} {ds:List Deferred} {l:List AI} {e eP e':Env} {jh σ':St} {Am:Mu} {w0:World} {Q:Exit→Act→World→Prop} (hF:FrOk f X.P G N ops l A B)(hR:Ran X run A B e eP e' jh σ')(hG:G≤jh.length)
 (hQ:∀act' w',nP ds G N Am jh w0 e' σ' act' w'→Q .normal act' w') :
 ∀ (fuel:Nat) (listed:Array Bool) (act:Act) (w:World) (μ:Mu),(MW ops.size listed).length≤fuel→listed.size=ops.size→(∀i,listed.getD i false=true→∀j∈dN ops i,listed.getD j false=true)→
   Mid X.P G N ds A B eP jh Am w0 (fun i=>listed.getD i false) act w μ→wpAny X.P .any ops Q fuel listed act w:=by
 have hlt:∀(p k:Nat),(wY f A B)[p]? =some k→k<ops.size:=by
  intro p k hk
  have hm:=List.mem_of_getElem? hk
  rw [pU] at hm
  rcases hm with ⟨q,hq,rfl⟩ | ⟨b,hb,rfl | rfl⟩
  ·obtain⟨p',hp'⟩:=List.getElem?_of_mem hq
   obtain⟨⟨o,ho,_⟩,_⟩:=hF.a p' q hp'
   exact(Array.getElem?_eq_some_iff.1 ho).1
  ·obtain⟨⟨o,ho,_⟩,_⟩:=hF.c b hb
   exact(Array.getElem?_eq_some_iff.1 ho).1
  ·obtain⟨_,⟨o,ho,_⟩,_⟩:=hF.c b hb
   exact(Array.getElem?_eq_some_iff.1 ho).1
 have hdone:∀(listed:Array Bool) (act:Act) (w:World) (μ:Mu),listed.size=ops.size→Mid X.P G N ds A B eP jh Am w0 (fun i=>listed.getD i false) act w μ→Region.ready .any ops listed=[]→Q .normal act w:=by
  intro listed act w μ hsz hM hr
  have hall:∀(p k:Nat),(wY f A B)[p]? =some k→listed.getD k false=true:=by
   intro p
   induction p using Nat.strongRecOn with
   | _ p ih=>
     intro k hk
     cases hl:listed.getD k false with
     | true=>rfl
     | false=>
       exfalso
       have hkl:=hlt p k hk
       have:k∈Region.ready .any ops listed:=by
         rw [mem_ready]
         refine⟨by rw [kZ (by omega)];exact hl,ops[k],Array.getElem?_eq_getElem hkl,fun ed he hb=>?_⟩
         obtain⟨q,hq,hqk⟩:=hF.ord p k hk ed.on ((qG (Array.getElem?_eq_getElem hkl)).2 ⟨ed,he,hb,rfl⟩)
         exact ih q hq _ hqk
       rw [hr] at this;cases this
  have hmem:∀k∈wY f A B,listed.getD k false=true:=fun k hk=>by
   obtain⟨p,hp⟩:=List.getElem?_of_mem hk
   exact hall p k hp
  refine hQ _ _ (N7 hR hM (fun q hq=>hmem _ ?_) fun b hb=>⟨hmem _ ?_,hmem _ ?_⟩)
  ·exact pU.2 (.inl ⟨q,hq,rfl⟩)
  ·exact pU.2 (.inr ⟨b,hb,.inl rfl⟩)
  ·exact pU.2 (.inr ⟨b,hb,.inr rfl⟩)
 intro fuel
 induction fuel with
 | zero=>
   intro listed act w μ hfu hsz hcl hM
   have hr:Region.ready .any ops listed=[]:=by
    apply List.eq_nil_iff_forall_not_mem.2
    intro i hi
    obtain⟨h0,o,ho,_⟩:=mem_ready.1 hi
    have hil:i<ops.size:=(Array.getElem?_eq_some_iff.1 ho).1
    rw [kZ (by omega)] at h0
    have:i∈MW ops.size listed:=List.mem_filter.2 ⟨List.mem_range.2 hil,by rw [h0];rfl⟩
    have:=List.length_pos_of_mem this
    omega
   exact⟨hr,hdone listed act w μ hsz hM hr⟩
 | succ fuel ih=>
   intro listed act w μ hfu hsz hcl hM
   refine⟨hdone listed act w μ hsz hM,fun i hi=>?_⟩
   obtain⟨h0,o,ho,hbind⟩:=mem_ready.1 hi
   have hil:i<ops.size:=(Array.getElem?_eq_some_iff.1 ho).1
   rw [kZ (by omega)] at h0
   have hb:∀j∈dN ops i,listed.getD j false=true:=fun j hj=>by
    obtain⟨ed,he,hbd,rfl⟩:=(qG ho).1 hj
    exact hbind ed he hbd
   have hget:∀j,(listed.setIfInBounds i true).getD j false=vw (fun i=>listed.getD i false) i j:=by
    intro j
    by_cases hj:j=i
    ·subst hj;rw [nS];simp [Array.getElem?_setIfInBounds,hsz,hil]
    ·rw [eF hj,getD_set_ne false (Ne.symm hj)]
   have hfun:(fun j=>(listed.setIfInBounds i true).getD j false)=vw (fun i=>listed.getD i false) i:=funext hget
   have hnext:∀act' w' μ',Mid X.P G N ds A B eP jh Am w0 (vw (fun i=>listed.getD i false) i) act' w' μ'→wpAny X.P .any ops Q fuel (listed.setIfInBounds i true) act' w':=by
    intro act' w' μ' hM'
    refine ih _ act' w' μ' ?_ (by simpa using hsz) ?_ (by rw [hfun];exact hM')
    ·have:=Jo (n:=ops.size) hil hsz h0
     omega
    ·intro j hj k hk
     rw [hget] at hj ⊢
     by_cases hki:k=i
     ·rw [hki,nS]
     ·rw [eF hki]
      by_cases hji:j=i
      ·subst hji;exact hb k hk
      ·rw [eF hji] at hj;exact hcl j hj k hk
   unfold wpOp
   rw [ho]
   rcases hF.all i hil with ⟨q,hq,rfl⟩ | ⟨b,hbB,hbi⟩
   ·obtain⟨p,hp⟩:=List.getElem?_of_mem hq
    exact hM.value hF hR hp ho hb fun act' hM'=>hnext act' w μ hM'
   ·obtain⟨k,hk⟩:=List.getElem?_of_mem hbB
    obtain⟨_,_,_,hbib,_⟩:=hF.c b hbB
    rcases hbi with rfl | rfl
    ·refine hM.alloc hF hR hG hk ho h0 ?_ hnext
     cases hj:listed.getD b.j false with
     | false=>rfl
     | true=>have:=hcl b.j hj b.i hbib;rw [h0] at this;cases this
    ·exact hM.store hF hR hk ho hb h0 hnext
theorem qU {α:Type} {f g:α→α→Bool} (h:∀a b,f a b=true→g a b=true):∀{l:List α},ig f l=true→ig g l=true
 | [],_=>rfl
 | a :: l,q=>by
   simp only [ig,Bool.and_eq_true,List.all_eq_true] at q ⊢
   exact⟨fun b hb=>h a b (q.1 b hb),qU h q.2⟩
theorem N8 {ds:List Deferred} {id:Nat} {l:List AI} {Q:Exit→Act→World→Prop} {e e':Env} {act:Act} {μ:Mu} {σ σ':St} {w:World} (hf:X.P.follows .mixedOrders=true)(hok:V3 X.P G N ops l=true)
 (hs:fH G μ σ w) (he:dY G N μ w e act.tmps) (hd:act.defers=ds) (h:kR X run l e σ=some (e',σ')) (hQ:∀act' w',nP ds G N μ σ w e' σ' act' w'→Q .normal act' w'):(Code.region id ops true).wp X.P Q act w:=by
 unfold V3 at hok
 have hAm:(NT X.P G N ops (oJ l)).map (·.2)=oJ l:=by simp [NT,Function.comp_def]
 generalize NT X.P G N ops (oJ l)=A at hok hAm
 generalize Jp X.P G N ops (vg l)=B at hok
 obtain⟨f,hok⟩:∃f,BI f X.P G N ops l A B=true:=by
  rw [Bool.or_eq_true] at hok
  rcases hok with h | h
  ·exact⟨_,h⟩
  ·exact⟨_,h⟩
 have hF:=KY hok
 rw [←KZ l,EO,hF.b,Option.bind_eq_some_iff] at h
 obtain⟨⟨eP,MX⟩,hA,hB⟩:=h
 have hat:∀(p:Nat) a,(oJ l)[p]? =some a→∃q,A[p]? =some q∧q.2=a:=by
  intro p a hp
  rw [←hAm,List.getElem?_map,Option.map_eq_some_iff] at hp
  exact hp
 obtain⟨r1,r2,r3⟩:=recA (oJ l) e eP MX (fun a ha=>by
  obtain⟨p,hp⟩:=List.getElem?_of_mem ha
  obtain⟨q,hq,rfl⟩:=hat p a hp
  exact rF (hF.a p q hq).2.1) hA
 have r1:MX=σ:=r1
 subst r1
 have hbd:ig (fun b b':Bx=>b.d != b'.d) B=true:=by
  have h0:=hok
  simp only [BI,Bool.and_eq_true] at h0
  exact qU (fun a b q=>by simp only [Bool.and_eq_true] at q;exact q.2) h0.1.1.1.1.1.2
 obtain⟨s1,s2,s3,s4⟩:=recB B eP e' MX σ' hbd (fun b hb b' hb' hx=>by
  have h1:=(hF.c b hb).2.2.2.2 _ hx
  simp only [yR,Bool.and_eq_true,decide_eq_true_eq,Bool.or_eq_true,List.all_eq_true,bne_iff_ne,ne_eq,List.any_eq_true,beq_iff_eq] at h1
  rcases h1.2 with h2 | ⟨q,hq,h2,_⟩
  ·exact h2.2 b' hb' rfl
  ·exact(hF.ab q (List.mem_of_mem_take hq) b' hb').2.2 h2) hB
 have hAat:∀(p:Nat) q,A[p]? =some q→(oJ l)[p]? =some q.2:=fun p q hq=>by rw [←hAm,List.getElem?_map,hq];rfl
 have hR:Ran X run A B e eP e' MX σ':={
  keep:=fun x hx=>r2 x fun a ha=>by
   obtain⟨p,hp⟩:=List.getElem?_of_mem ha
   obtain⟨q,hq,rfl⟩:=hat p a hp
   exact hx q (List.mem_of_getElem? hq)
  at':=fun p q hq=>by
   obtain⟨Ep,v,q1,q2,q3⟩:=r3 p q.2 (hAat p q hq)
   refine⟨Ep,v,q1,fun x hx=>q2 x fun r c hr hc=>?_,fun x hx hl=>q3 x hx fun r c hr hc=>?_⟩
   ·obtain⟨q',hq',rfl⟩:=hat r c hc;exact hx r q' hr hq'
   ·obtain⟨q',hq',rfl⟩:=hat r c hc;exact hl r q' hr hq'
  store:=s1
  keepB:=s2
  ptrB:=s3
  okB:=s4 }
 have hdr:=Step.drew hs
 have hno:∀i,(Array.replicate ops.size false).getD i false=false:=by
  intro i
  rw [Array.getD_eq_getD_getElem?,Array.getElem?_replicate]
  split <;> rfl
 have hstd:xM X.P eP B (fun i=>(Array.replicate ops.size false).getD i false) MX=MX ++ List.replicate B.length ⟨0,false,.dead⟩:=by
  unfold xM
  have hm:B.map (jm X.P eP (fun i=>(Array.replicate ops.size false).getD i false))=B.map (fun _=>(⟨0,false,.dead⟩:AO)):=List.map_congr_left fun b hb=>by simp [jm,hno]
  rw [hm,List.map_const']
 refine wp_region_any hf (fr_any hF hR hs.G_le hQ ops.size _ act _ μ ?_ (by simp) (fun i hi=>by rw [hno] at hi;cases hi) ⟨?_,he.size,hd,fun x hx1 hx2=>?_,fun k b hbk hl=>(by simp only [hno] at hl;cases hl),fun k b hbk _=>hs.above (by omega)⟩)
 ·unfold MW
  exact Nat.le_trans (List.length_filter_le _ _) (by simp)
 ·rw [hstd]
  exact hdr.trans (Step.NU hdr.nI _)
 ·rw [hR.keep x fun q hq hx=>by have:=hx2 q hq hx;simp only [hno] at this;cases this]
  exact aJ.mono hdr.ext hdr.sK _ _ (he.rel x)
end
end Go.cO
namespace Go.cO
theorem Jt {ds:List Deferred} {X:Ctx} {G N:Nat} {run:Run} (hX:X.Ok G)(hrun:kP X.P G run)(hf:X.P.follows .mixedOrders=true) {id:Nat} {ops:Array Oper} {l:List (AI×List AI)} {Q:Exit→Act→World→Prop}
 {e:Env} {act:Act} {μ:Mu} {σ:St} {w:World} {e':Env} {σ':St} (hok:Jl X.P G N ops l=true) (hs:fH G μ σ w) (he:dY G N μ w e act.tmps) (hd:act.defers=ds) (h:qZ X run l e σ=some (e',σ'))
 (hQ:∀act' w',nP ds G N μ σ w e' σ' act' w'→Q .normal act' w'):(Code.region id ops true).wp X.P Q act w:=by
 simp only [Jl,BG,Bool.and_eq_true,beq_iff_eq] at hok
 obtain⟨hT,hlen⟩:=hok
 have hmap:=BH (P:=X.P) (G:=G) (N:=N) (ops:=ops) l [] (by simpa using hlen)
 simp only [List.reverse_nil,List.map_nil,List.nil_append] at hmap
 have hT':=Hz hT
 generalize yN X.P G N ops l []=T at *
 obtain⟨E,S,V,h1,h2,h3,h4,h5⟩:=EL l e σ e' σ' h
 have hR:Runs X run T E S V:=by
  have hg:∀(p:Nat) (t:DI),T[p]? =some t→l[p]? =some (t.a,t.again):=by
   intro p t ht
   rw [←hmap,List.getElem?_map,ht];rfl
  exact⟨fun p t ht=>(h5 p _ _ (hg p t ht)).1,fun p t ht=>(h5 p _ _ (hg p t ht)).2.1,fun p t ht=>(h5 p _ _ (hg p t ht)).2.2⟩
 refine wp_region_any hf (VZ hX hrun hT' hR (Am:=μ) (jh:=σ) (w0:=w) ?_ ops.size _ 0 e act _ μ ?_ (by simp) ?_ ?_ (by rw [h2];exact Step.drew hs) ?_ hd)
 ·rw [hlen,h3,h4];exact hQ
 ·unfold MW
  exact Nat.le_trans (List.length_filter_le _ _) (by simp)
 ·intro i hi
  rw [Array.getD_eq_getD_getElem?,Array.getElem?_replicate] at hi
  split at hi
  ·assumption
  ·cases hi
 ·have hno:∀i,¬(Array.replicate ops.size false).getD i false=true:=by
   intro i hi
   rw [Array.getD_eq_getD_getElem?,Array.getElem?_replicate] at hi
   split at hi <;> cases hi
  refine⟨fun i hi=>absurd hi (hno i),Nat.zero_le _,fun q t _ _=>?_,fun q t x _ hl=>absurd hl (hno _),fun x _=>by rw [h1]⟩
  constructor
  ·intro hl;omega
  ·intro hl;exact absurd hl (hno _)
 ·exact he.mono (Mu.le_refl μ) (fun _ _ _ q=>q)
def AC.unJ:AC→AC
 | .cut l b=>match l with
   | d :: _=>if d=1000000 then b else .cut l b
   | []=>.cut l b
 | b=>b
theorem AC.K_ (b:AC):b.unJ=b∨∃l,b= .cut l b.unJ:=by
 cases b with
 | cut l b=>
   cases l with
   | nil=>exact .inl rfl
   | cons d l=>
     simp only [AC.unJ]
     split
     ·exact .inr ⟨d :: l,rfl⟩
     ·exact .inl rfl
 | _=>exact .inl rfl
def AB (P:Program)(G N:Nat):Code→AC→Bool
 | .scope c,a=>AB P G N c a
 | .skip,.skip=>true
 | .label _,.skip=>true
 | .region _ ops false,.reg l=>yI P G N ops (List.range ops.size) l
 | .region _ ops true,.l9 l=>Jl P G N ops l
 | .region _ ops false,.cut _ (.reg l)=>yI P G N ops (List.range ops.size) l
 | .region _ ops true,.cut _ (.l9 l)=>Jl P G N ops l
 | .region _ ops true,.reg l=>V3 P G N ops l
 | .region _ ops true,.cut _ (.reg l)=>V3 P G N ops l
 | .seq c d,.seq a b=>AB P G N c a && AB P G N d b.unJ
 | .cond x c d,.cond y a b=>bZ G x y && AB P G N c a && AB P G N d b
 | .block id c,.blk id' a=>id == id' && AB P G N c a
 | .loop c,.loop _ a=>AB P G N c a
 | .exit id,.exit id'=>id == id'
 | .ret,.ret=>true
 | _,.cond (.c .u) (.exit _) (.exit _)=>true
 | _,_=>false
def Out.exit':Out→Exit
 | .normal=>.normal
 | .exit id=>.exit id
 | .ret=>.ret
theorem nP.trans {ds:List Deferred} {G N:Nat} {μ:Mu} {σ σ1 σ2:St} {w w1 w2:World} {e1 e2:Env} {a1 a2:Act} {xG:Mu} (h:Step G μ σ w xG σ1 w1)(k:nP ds G N xG σ1 w1 e2 σ2 a2 w2):nP ds G N μ σ w e2 σ2 a2 w2:=by
 obtain⟨μ2,h1,h2,h3⟩:=k
 exact⟨μ2,h.trans h1,h2,h3⟩
section
variable {X:Ctx} {G N:Nat} {run:Run}
def H6 (X:Ctx)(G N:Nat)(c:Code)(f:Env→St→Option (Out×Env×St)):Prop:=
 ∀ (ds:List Deferred) (e:Env) (act:Act) (μ:Mu) (σ:St) (w:World) (o:Out) (e':Env) (σ':St) (Q:Exit→Act→World→Prop),fH G μ σ w→dY G N μ w e act.tmps→act.defers=ds→f e σ=some (o,e',σ')→
   (∀act' w',nP ds G N μ σ w e' σ' act' w'→Q o.exit' act' w')→c.wp X.P Q act w
theorem N9 {c:Code} {live:List Nat} {f:Env→St→Option (Out×Env×St)} (h:H6 X G N c f)(n:Nat):H6 X G N (.loop c) (iY live f n):=by
 intro ds e act μ σ w o e' σ' Q hs he hd hf hQ
 refine wp_loop_rounds n ?_
 induction n generalizing e act μ σ w with
 | zero=>cases hf
 | succ n ih=>
   rw [rounds_succ]
   simp only [iY] at hf
   split at hf
   ·rename_i e1 σ1 h1
    refine h ds (clear live e) act μ σ w .normal e1 σ1 _ hs (he.clear live) hd h1 fun act' w' hl=>?_
    obtain⟨xG,hst,hen,hdf⟩:=hl
    exact ih e1 act' xG σ1 w' hst.nI hen hdf hf fun act2 w2 hl2=>hQ _ _ (nP.trans (e1:=e1) (a1:=act') hst hl2)
   ·rename_i hnn
    refine h ds (clear live e) act μ σ w o e' σ' _ hs (he.clear live) hd hf fun act' w' hl=>?_
    cases o with
    | normal=>exact absurd hf (hnn _ _)
    | exit id=>exact hQ _ _ hl
    | ret=>exact hQ _ _ hl
theorem jd (hX:X.Ok G)(hrun:kP X.P G run)(hf:X.P.follows .mixedOrders=true) {n:Nat} :∀(c:Code) (a:AC),AB X.P G N c a=true→H6 X G N c (bJ X run n a)
 | .scope c,a,hok=>by
   intro ds e act μ σ w o e' σ' Q hs he hd h hQ
   refine wp_scope_straight (jd hX hrun hf c a (by simpa [AB] using hok) ds e act μ σ w o e' σ' _ hs he hd h fun act' w' hl=>?_)
   have:=hQ act' w' hl
   cases o <;> exact this
 | .skip,.skip,_=>by
   intro ds e act μ σ w o e' σ' Q hs he hd h hQ
   cases h
   exact wp_skip (hQ _ _ ⟨μ,Step.refl hs,he,hd⟩)
 | .label _,.skip,_=>by
   intro ds e act μ σ w o e' σ' Q hs he hd h hQ
   cases h
   exact wp_label (hQ _ _ ⟨μ,Step.refl hs,he,hd⟩)
 | .region id ops false,.reg l,hok=>by
   intro ds e act μ σ w o e' σ' Q hs he hd h hQ
   simp only [bJ,Option.map_eq_some_iff] at h
   obtain⟨⟨e1,σ1⟩,h1,h2⟩:=h
   cases h2
   exact wp_region (C_ (ops:=ops) hX hrun _ l e act μ σ w _ _ (by simpa [AB] using hok) hs he hd h1 hQ)
 | .region id ops true,.l9 l,hok=>by
   intro ds e act μ σ w o e' σ' Q hs he hd h hQ
   simp only [bJ,Option.map_eq_some_iff] at h
   obtain⟨⟨e1,σ1⟩,h1,h2⟩:=h
   cases h2
   exact Jt hX hrun hf (by simpa [AB] using hok) hs he hd h1 hQ
 | .region id ops false,.cut live (.reg l),hok=>by
   intro ds e act μ σ w o e' σ' Q hs he hd h hQ
   simp only [bJ,Option.map_eq_some_iff] at h
   obtain⟨⟨e1,σ1⟩,h1,h2⟩:=h
   cases h2
   exact wp_region (C_ (ops:=ops) hX hrun _ l _ act μ σ w _ _ (by simpa [AB] using hok) hs (he.clear live) hd h1 hQ)
 | .region id ops true,.cut live (.l9 l),hok=>by
   intro ds e act μ σ w o e' σ' Q hs he hd h hQ
   simp only [bJ,Option.map_eq_some_iff] at h
   obtain⟨⟨e1,σ1⟩,h1,h2⟩:=h
   cases h2
   exact Jt hX hrun hf (by simpa [AB] using hok) hs (he.clear live) hd h1 hQ
 | .region id ops true,.reg l,hok=>by
   intro ds e act μ σ w o e' σ' Q hs he hd h hQ
   simp only [bJ,Option.map_eq_some_iff] at h
   obtain⟨⟨e1,σ1⟩,h1,h2⟩:=h
   cases h2
   exact N8 hf (by simpa [AB] using hok) hs he hd h1 hQ
 | .region id ops true,.cut live (.reg l),hok=>by
   intro ds e act μ σ w o e' σ' Q hs he hd h hQ
   simp only [bJ,Option.map_eq_some_iff] at h
   obtain⟨⟨e1,σ1⟩,h1,h2⟩:=h
   cases h2
   exact N8 hf (by simpa [AB] using hok) hs (he.clear live) hd h1 hQ
 | .seq c d,.seq a b,hok=>by
   intro ds e act μ σ w o e' σ' Q hs he hd h hQ
   simp only [AB,Bool.and_eq_true] at hok
   simp only [bJ] at h
   refine wp_seq ?_
   split at h
   ·rename_i e1 σ1 h1
    refine jd hX hrun hf c a hok.1 ds e act μ σ w .normal e1 σ1 _ hs he hd h1 fun act' w' hl=>?_
    obtain⟨xG,hst,hen,hdf⟩:=hl
    have hd2:=jd hX hrun hf d b.unJ hok.2 (n:=n)
    rcases AC.K_ b with hb | ⟨l,hb⟩
    ·rw [hb] at hd2
     exact hd2 ds e1 act' xG σ1 w' o e' σ' Q hst.nI hen hdf h fun act2 w2 hl2=>hQ _ _ (nP.trans (e1:=e1) (a1:=act') hst hl2)
    ·rw [hb] at h
     simp only [bJ] at h
     exact hd2 ds (clear l e1) act' xG σ1 w' o e' σ' Q hst.nI (hen.clear l) hdf h fun act2 w2 hl2=>hQ _ _ (nP.trans (e1:=e1) (a1:=act') hst hl2)
   ·rename_i hnn
    refine jd hX hrun hf c a hok.1 ds e act μ σ w o e' σ' _ hs he hd h fun act' w' hl=>?_
    cases o with
    | normal=>exact absurd h (hnn _ _)
    | exit id=>exact hQ _ _ hl
    | ret=>exact hQ _ _ hl
 | .cond x c d,.cond y a b,hok=>by
   intro ds e act μ σ w o e' σ' Q hs he hd h hQ
   simp only [AB,Bool.and_eq_true] at hok
   have hx:=mP hs he hok.1.1
   simp only [bJ] at h
   split at h
   ·rename_i hy
    rw [hy] at hx
    exact wp_cond_true hx (jd hX hrun hf c a hok.1.2 ds e act μ σ w o e' σ' _ hs he hd h hQ)
   ·rename_i hy
    rw [hy] at hx
    exact wp_cond_false hx (jd hX hrun hf d b hok.2 ds e act μ σ w o e' σ' _ hs he hd h hQ)
   ·cases h
 | .block id c,.blk id' a,hok=>by
   intro ds e act μ σ w o e' σ' Q hs he hd h hQ
   simp only [AB,Bool.and_eq_true,beq_iff_eq] at hok
   obtain⟨rfl,hok⟩:=hok
   simp only [bJ] at h
   refine wp_block ?_
   split at h
   ·rename_i j e1 σ1 h1
    simp only [Option.some.injEq,Prod.mk.injEq] at h
    obtain⟨rfl,rfl,rfl⟩:=h
    refine jd hX hrun hf c a hok ds e act μ σ w (.exit j) _ _ _ hs he hd h1 fun act' w' hl=>?_
    have hq:=hQ act' w' hl
    simp only [Out.exit',Exit.inBlock]
    split
    ·rename_i hj;rw [if_pos hj] at hq;exact hq
    ·rename_i hj;rw [if_neg hj] at hq;exact hq
   ·rename_i hnn
    refine jd hX hrun hf c a hok ds e act μ σ w o e' σ' _ hs he hd h fun act' w' hl=>?_
    cases o with
    | normal=>exact hQ _ _ hl
    | exit id=>exact absurd h (hnn _ _ _)
    | ret=>exact hQ _ _ hl
 | .loop c,.loop live a,hok=>by
   have hc:=jd hX hrun hf c a (n:=n) (by simpa [AB] using hok)
   intro ds e act μ σ w o e' σ' Q hs he hd h hQ
   exact N9 hc n ds e act μ σ w o e' σ' Q hs he hd h hQ
 | .exit id,.exit id',hok=>by
   intro ds e act μ σ w o e' σ' Q hs he hd h hQ
   simp only [AB,beq_iff_eq] at hok
   subst hok
   cases h
   exact wp_exit (hQ _ _ ⟨μ,Step.refl hs,he,hd⟩)
 | .ret,.ret,_=>by
   intro ds e act μ σ w o e' σ' Q hs he hd h hQ
   cases h
   exact wp_ret (hQ _ _ ⟨μ,Step.refl hs,he,hd⟩)
 | _,.cond (.c .u) (.exit _) (.exit _),_=>by
   intro ds e act μ σ w o e' σ' Q hs he hd h hQ
   simp [bJ,bH.ev] at h
end
end Go.cO
namespace Go.cO
def rH:List ResultVar→List AR→Bool
 | [],[]=>true
 | .tmp n :: l,.t m :: r=>n == m && rH l r
 | .cell a t :: l,.cell b s :: r=>a == b && t == s && rH l r
 | _,_=>false
def bD (P:Program)(G:Nat)(f:Nat)(F:AF):Bool:=match P.funcs[f]? with
 | some fn=>fn.ntmps == F.nt && !(fn.name == "runtime.NumGoroutine") && rH fn.results.toList F.res && (match fn.body with
   | some c=>AB P G F.nt c F.code
   | none=>false)
 | none=>false
def BJ (P:Program)(f:Nat)(aW:Array Value)(w:World)(R:Ending→World→Prop):Prop:=
 (callFunc f aW).run P w= .ok (.enter f aW) w∧∀u,CallsD P f aW u w fun e u' w'=>u'= u∧R e w'
def Di (X:Ctx)(G:Nat)(run:Run):Prop:=∀f,X.dk f=true→∀args σ r σ',run f args σ=some (r,σ')→∀μ w (aW:Array Value),fH G μ σ w→aQ μ w args aW.toList→BJ X.P f aW w (After G μ σ w r σ')
def N_ (P:Program)(fns:Nat→Option AF)(dk:Nat→Bool)(G f:Nat)(F:AF):Prop:=
 ∀ (X:Ctx),X.P=P→X.fns=fns→X.dk=dk→X.Ok G→X.P.follows .mixedOrders=true→∀(run:Run) (n:Nat),kP X.P G run→Di X G run→
   ∀ (args:List AV) (σ:St) (o:Out) (e:Env) (σ1:St) (v:AV),args.length≤F.nt→bJ X run n F.code (eX 0 args) σ=some (o,e,σ1)→o= .normal∨o= .ret→mg X.P F.res e σ1=some v→
   ∀ (μ:Mu) (w:World) (aW:Array Value),fH G μ σ w→aQ μ w args aW.toList→Enters X.P f∧Calls X.P f aW w (After G μ σ w v σ1)
structure Ctx.Sound (X:Ctx)(G:Nat):Prop where
 ok:X.Ok G
 draws:X.P.follows .mixedOrders=true
 fns:∀f F,X.lD f=none→X.fns f=some F→bD X.P G f F=true∨N_ X.P X.fns X.dk G f F
 dks:∀f,X.dk f=true→X.lD f=none∧∀F,X.fns f=some F→bD X.P G f F=true
section
variable {X:Ctx} {G N:Nat} {μ:Mu} {σ:St} {w:World}
theorem yU:∀(args:List AV) (k n:Nat),get (eX k args) n=if k≤n then(args[n - k]?).getD .u else .u
 | [],k,n=>by simp [eX,get]
 | a :: rest,k,n=>by
   simp only [eX,get]
   split
   ·rename_i h;subst h;simp
   ·rename_i h
    rw [yU rest (k+1) n]
    by_cases hk:k≤n
    ·rw [if_pos hk,if_pos (by omega),show n - k=(n - (k+1))+1 by omega];simp
    ·rw [if_neg hk,if_neg (by omega)]
theorem ER {args:List AV} {aW:Array Value} {nt:Nat} (h:aQ μ w args aW.toList)(hl:args.length≤nt):dY G nt μ w (eX 0 args) (aW ++ Array.replicate (nt - aW.size) undef):=by
 have hsz:aW.size=args.length:=by have:=h.length;simpa using this
 refine⟨by simp;omega,fun n=>?_⟩
 rw [yU]
 simp only [Nat.zero_le,if_true,Nat.sub_zero]
 cases hn:args[n]? with
 | none=>trivial
 | some a=>
   obtain⟨v,hv,hr⟩:=h.get n a hn
   have hlt:n<aW.size:=by have:=cu hn;omega
   rw [Array.getElem?_toList] at hv
   simp only [Option.getD_some]
   rw [Array.getD_eq_getD_getElem?,Array.getElem?_append_left hlt,hv]
   exact hr
def Ju (tmps:Array Value):ResultVar→Sem Value
 | .tmp t=>pure (tmps.getD t undef)
 | .cell a t=>do loadVar t (←asAddr (tmps.getD a undef))
theorem yV (hs:fH G μ σ w) {e:Env} {tmps:Array Value} (he:dY G N μ w e tmps):∀(l:List ResultVar) (r:List AR) (vs:List AV),rH l r=true→mG X.P e σ r=some vs→
 ∃ us,(l.mapM (Ju tmps)).run X.P w= .ok us w∧aQ μ w vs us
 | [],[],vs,_,h=>by
   simp only [mG,Option.some.injEq] at h
   subst h
   exact⟨[],by simp,rfl⟩
 | .tmp n :: l,.t m :: r,vs,hok,h=>by
   simp only [rH,Bool.and_eq_true,beq_iff_eq] at hok
   obtain⟨rfl,hok⟩:=hok
   simp only [mG] at h
   split at h
   ·rename_i v vs' hv hvs
    cases h
    obtain⟨us,h1,h2⟩:=yV hs he l r vs' hok hvs
    have hvn:v=get e n:=by
        simp only [pz] at hv
        split at hv
        ·cases hv
        ·exact(Option.some.inj hv).symm
    refine⟨tmps.getD n undef :: us,?_,_,us,rfl,by rw [hvn];exact he.rel n,h2⟩
    simp [List.mapM_cons,Ju,h1]
   ·cases h
 | .cell a t :: l,.cell b s :: r,vs,hok,h=>by
   simp only [rH,Bool.and_eq_true,beq_iff_eq] at hok
   obtain⟨⟨rfl,rfl⟩,hok⟩:=hok
   simp only [mG] at h
   split at h
   ·rename_i v vs' hv hvs
    cases h
    obtain⟨us,h1,h2⟩:=yV hs he l r vs' hok hvs
    simp only [pz] at hv
    have hr:=he.rel a
    unfold fG at hv
    split at hv
    ·rename_i T o g off hT hx
     rw [hx] at hr
     rw [Option.bind_eq_some_iff] at hv
     obtain⟨cs,hc,hp⟩:=hv
     obtain⟨b,δ,hb,hbe⟩:=hr
     obtain⟨u,q1,q2⟩:=wo hT hs hc hp hb
     refine⟨u :: us,?_,u,us,rfl,q2,h2⟩
     simp [List.mapM_cons,Ju,hbe,asAddr,q1,h1]
    ·cases hv
   ·cases h
theorem ES (hs:fH G μ σ w) {e:Env} {tmps:Array Value} (he:dY G N μ w e tmps) {fn:Func} {r:List AR} {v:AV} (hok:rH fn.results.toList r=true)(h:mg X.P r e σ=some v) :
 ∃ u,(results fn tmps).run X.P w= .ok u w∧aJ μ w v u:=by
 unfold mg at h
 cases hL:mG X.P e σ r with
 | none=>rw [hL] at h;cases h
 | some vs=>
   rw [hL] at h
   obtain⟨us,h1,h2⟩:=yV (X:=X) hs he _ r vs hok hL
   have hm:(results fn tmps).run X.P w= .ok (if h:us.toArray.size=1 then us.toArray[0] else .tuple us.toArray) w:=by
    have hf:results fn tmps=(do let vs ←fn.results.mapM (Ju tmps);pure (if h:vs.size=1 then vs[0] else .tuple vs)):=rfl
    rw [hf,Array.mapM_eq_mapM_toList]
    simp [h1]
   have hlen:=h2.length
   refine⟨_,hm,?_⟩
   split at h
   ·rename_i v' hvs
    cases h
    cases hvs
    obtain⟨y,ys,rfl,q1,q2⟩:=h2
    simp only [aQ] at q2
    subst q2
    exact q1
   ·rename_i hn hvs
    cases h
    cases hvs
    have h1':us.toArray.size≠1:=by
        simp only [List.size_toArray]
        intro hu
        rw [hu] at hlen
        cases vs with
        | nil=>cases hlen
        | cons x xs=>
          cases xs with
          | nil=>exact hn x rfl
          | cons _ _=>simp at hlen
    rw [dif_neg h1']
    exact⟨us.toArray,rfl,h2⟩
   ·rename_i hvs;cases hvs
theorem fn_wp (hX:X.Ok G)(hdr:X.P.follows .mixedOrders=true) {f:Nat} {F:AF} (hok:bD X.P G f F=true):∃fn c,X.P.funcs[f]? =some fn∧fn.body=some c∧fn.ntmps=F.nt∧Enters X.P f∧
 ∀ (run:Run) (n:Nat),kP X.P G run→∀(args:List AV) (σ:St) (o:Out) (e:Env) (σ1:St) (v:AV),args.length≤F.nt→bJ X run n F.code (eX 0 args) σ=some (o,e,σ1)→o= .normal∨o= .ret→mg X.P F.res e σ1=some v→
 ∀ (μ:Mu) (w:World) (aW:Array Value),fH G μ σ w→aQ μ w args aW.toList→c.wp X.P (bodyPost X.P fn (After G μ σ w v σ1)) { tmps:=aW ++ Array.replicate (fn.ntmps - aW.size) undef,defers:=[] } w:=by
 unfold bD at hok
 split at hok
 ·rename_i fn hfn
  simp only [Bool.and_eq_true,beq_iff_eq,Bool.not_eq_true'] at hok
  obtain⟨⟨⟨hnt,hnm⟩,hres⟩,hbody⟩:=hok
  split at hbody
  ·rename_i c hc
   refine⟨fn,c,hfn,hc,hnt,kY hfn hnm (by rw [hc];rfl),?_⟩
   intro run n hrun args σ o e σ1 v hlen hcode ho hv μ w aW hs hr
   have hsz:aW.size=args.length:=by have:=hr.length;simpa using this
   rw [hnt]
   have hen:=ER (G:=G) hr hlen
   refine jd hX hrun hdr c F.code hbody [] _ { tmps:=aW ++ Array.replicate (F.nt - aW.size) undef,defers:=[] } μ σ w o e σ1 _ hs hen rfl hcode fun act' w' hl=>?_
   obtain⟨xG,hst,hen1,hd1⟩:=hl
   obtain⟨u,hu1,hu2⟩:=ES (X:=X) hst.nI hen1 hres hv
   have hafter:After G μ σ w v σ1 (.returned u) w':=⟨u,xG,rfl,hu2,hst⟩
   rcases ho with rfl | rfl
   ·exact⟨hd1,u,hu1,hafter⟩
   ·exact⟨hd1,u,hu1,hafter⟩
  ·cases hbody
 ·cases hok
theorem Jv (hX:X.Ok G)(hdr:X.P.follows .mixedOrders=true) {f:Nat} {F:AF} (hok:bD X.P G f F=true∨N_ X.P X.fns X.dk G f F) {run:Run} {n:Nat} (hrun:kP X.P G run)(hrd:Di X G run) {args:List AV} {σ:St} {o:Out} {e:Env} {σ1:St} {v:AV} (hlen:args.length≤F.nt)
 (hcode:bJ X run n F.code (eX 0 args) σ=some (o,e,σ1)) (ho:o= .normal∨o= .ret) (hv:mg X.P F.res e σ1=some v) {μ:Mu} {w:World} {aW:Array Value} (hs:fH G μ σ w) (hr:aQ μ w args aW.toList):Enters X.P f∧Calls X.P f aW w (After G μ σ w v σ1):=by
 rcases hok with hok | hok
 ·obtain⟨fn,c,hfn,hc,hnt,hen,hwp⟩:=fn_wp hX hdr hok
  exact⟨hen,calls_of_wp hfn hc (hwp run n hrun args σ o e σ1 v hlen hcode ho hv μ w aW hs hr)⟩
 ·exact hok X rfl rfl rfl hX hdr run n hrun hrd args σ o e σ1 v hlen hcode ho hv μ w aW hs hr
theorem ET (hX:X.Ok G)(hdr:X.P.follows .mixedOrders=true) {f:Nat} {F:AF} (hok:bD X.P G f F=true) {run:Run} {n:Nat} (hrun:kP X.P G run) {args:List AV} {σ:St} {o:Out} {e:Env} {σ1:St} {v:AV} (hlen:args.length≤F.nt)
 (hcode:bJ X run n F.code (eX 0 args) σ=some (o,e,σ1)) (ho:o= .normal∨o= .ret) (hv:mg X.P F.res e σ1=some v) {μ:Mu} {w:World} {aW:Array Value} (hs:fH G μ σ w) (hr:aQ μ w args aW.toList):BJ X.P f aW w (After G μ σ w v σ1):=by
 obtain⟨fn,c,hfn,hc,hnt,hen,hwp⟩:=fn_wp hX hdr hok
 exact⟨hen aW w,fun u=>callsD_of_wp hfn hc (hwp run n hrun args σ o e σ1 v hlen hcode ho hv μ w aW hs hr)⟩
theorem After.Oa {r:AV} {σ' σ1:St} {v:AV} {e':Ending} {w':World} (hs:fH G μ σ w)(hn:norm σ v σ1=(r,σ'))(h:After G μ σ w v σ1 e' w'):After G μ σ w r σ' e' w':=by
 obtain⟨u,xG,he,hu2,hst⟩:=h
 unfold norm at hn
 split at hn
 ·rename_i hfl
  simp only [Bool.and_eq_true] at hfl
  cases hn
  exact⟨u,μ,he,aJ.flat _ _ hfl.1 hu2,Step.norm hs hst (lu _ _ hfl.2)⟩
 ·cases hn
  exact⟨u,xG,he,hu2,hst⟩
theorem CallsD.monoR {P:Program} {f:Nat} {aW:Array Value} {w:World} {R R':Ending→World→Prop} (h:BJ P f aW w R)(hr:∀e w',R e w'→R' e w'):BJ P f aW w R':=
 ⟨h.1,fun u=>(h.2 u).mono fun e u' w' q=>⟨q.1,hr _ _ q.2⟩⟩
theorem Jw (hX:X.Sound G):∀n,kP X.P G (aFn X n)∧Di X G (aFn X n)
 | 0=>⟨(by intro f args σ r σ' h;cases h),(by intro f _ args σ r σ' h;cases h)⟩
 | n+1=>by
   obtain⟨ih,ihd⟩:=Jw hX n
   constructor
   ·intro f args σ r σ' h
    simp only [aFn] at h
    split at h
    ·rename_i g hg
     exact hX.ok.lD f g hg _ _ _ _ h
    ·rename_i hp
     split at h
     ·rename_i F hF
      intro μ w aW hs hr
      split at h
      ·rename_i hlen
       have main:∀(o:Out) (e:Env) (σ1:St),bJ X (aFn X n) n F.code (eX 0 args) σ=some (o,e,σ1)→o= .normal∨o= .ret→(mg X.P F.res e σ1).map (fun v=>norm σ v σ1)=some (r,σ')→Does X.P f aW w (After G μ σ w r σ'):=by
        intro o e σ1 hcode ho hmap
        rw [Option.map_eq_some_iff] at hmap
        obtain⟨v,hv,yX⟩:=hmap
        obtain⟨he,hc⟩:=Jv hX.ok hX.draws (hX.fns f F hp hF) ih ihd hlen hcode ho hv hs hr
        exact .inl ⟨he aW w,hc.mono fun e' w' q=>q.Oa hs yX⟩
       split at h
       ·rename_i e σ1 hcode;exact main _ _ _ hcode (.inl rfl) h
       ·rename_i e σ1 hcode;exact main _ _ _ hcode (.inr rfl) h
       ·cases h
      ·cases h
     ·cases h
   ·intro f hdk args σ r σ' h
    obtain⟨hp,hokf⟩:=hX.dks f hdk
    simp only [aFn,hp] at h
    split at h
    ·rename_i F hF
     intro μ w aW hs hr
     split at h
     ·rename_i hlen
      have main:∀(o:Out) (e:Env) (σ1:St),bJ X (aFn X n) n F.code (eX 0 args) σ=some (o,e,σ1)→o= .normal∨o= .ret→(mg X.P F.res e σ1).map (fun v=>norm σ v σ1)=some (r,σ')→BJ X.P f aW w (After G μ σ w r σ'):=by
            intro o e σ1 hcode ho hmap
            rw [Option.map_eq_some_iff] at hmap
            obtain⟨v,hv,yX⟩:=hmap
            exact CallsD.monoR (ET hX.ok hX.draws (hokf F hF) ih hlen hcode ho hv hs hr) fun e' w' q=>q.Oa hs yX
      split at h
      ·rename_i e σ1 hcode;exact main _ _ _ hcode (.inl rfl) h
      ·rename_i e σ1 hcode;exact main _ _ _ hcode (.inr rfl) h
      ·cases h
     ·cases h
    ·cases h
theorem fn_ok (hX:X.Sound G)(n:Nat):kP X.P G (aFn X n):=(Jw hX n).1
theorem yF.does (hX:X.Sound G) {f:Nat} {args:List AV} {Q:AV→St→Prop} (h:yF X f args σ Q)(hs:fH G μ σ w) {aW:Array Value} (hr:aQ μ w args aW.toList) :
 Does X.P f aW w fun e w'=>∃r σ',Q r σ'∧After G μ σ w r σ' e w':=by
 obtain⟨n,⟨r,σ'⟩,h1,h2⟩:=h
 exact(fn_ok hX n f args σ r σ' h1 μ w aW hs hr).mono fun e w' ha=>⟨r,σ',h2,ha⟩
theorem Does.calls {P:Program} {f:Nat} {aW:Array Value} {R:Ending→World→Prop} (h:Does P f aW w R)(he:Enters P f):Calls P f aW w R:=by
 rcases h with ⟨_,h⟩ | ⟨v,w',h1,_⟩
 ·exact h
 ·rw [he aW w] at h1;cases h1
theorem yF.calls (hX:X.Sound G) {f:Nat} {args:List AV} {Q:AV→St→Prop} (h:yF X f args σ Q)(he:Enters X.P f)(hs:fH G μ σ w) {aW:Array Value} (hr:aQ μ w args aW.toList) :
 Calls X.P f aW w fun e w'=>∃r σ',Q r σ'∧After G μ σ w r σ' e w':=(h.does hX hs hr).calls he
end
end Go.cO
