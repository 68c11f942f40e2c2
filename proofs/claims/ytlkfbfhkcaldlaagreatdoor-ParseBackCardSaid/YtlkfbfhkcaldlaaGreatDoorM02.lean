/- Texts of this claim, joined: Abs3, Abs13, Abs14, Abs15, Abs16, Abs17, Abs18, Abs19. -/
import Derived.Test.YtlkfbfhkcaldlaaGreatDoorM01
import Derived.LoopN
import Derived.Scope
import Derived.Orders
import Derived.Defers
set_option linter.unusedVariables false
set_option linter.unusedSimpArgs false
namespace Go.Abs
def Ex {α:Type} (g:Nat→Option α)(Q:α→Prop):Prop:=∃n r,g n=some r∧Q r
def Run.le (r r':Run):Prop:=∀f args σ x,r f args σ=some x→r' f args σ=some x
theorem Dt {X:Ctx} {r r':Run} (h:r.le r') {ρ:cZ→AV} {op:dH} {σ:St} {x:AV×St} (hx:eY X r ρ op σ=some x):eY X r' ρ op σ=some x:=by
 cases op with
 | call f args=>
   simp only [eY] at hx ⊢
   split at hx
   ·exact h _ _ _ _ hx
   ·simp at hx
 | inv y m args=>
   simp only [eY] at hx ⊢
   split at hx
   ·split at hx
    ·exact h _ _ _ _ hx
    ·simp at hx
   ·simp at hx
 | _=>exact hx
theorem qN {X:Ctx} {r r':Run} (h:r.le r') {e:Env} {a:AI} {σ:St} {x:AV×St} (hx:dO X r e a σ=some x):dO X r' e a σ=some x:=by
 unfold dO at *
 cases hg:a.gd with
 | none=>rw [hg] at hx;exact Dt h hx
 | some g=>
   rw [hg] at hx
   simp only at hx ⊢
   cases hw:dK e (some g) with
   | none=>rw [hw] at hx;simp at hx
   | some c=>
     rw [hw] at hx
     simp only at hx ⊢
     by_cases hp:a.op.pure=true
     ·simpa only [hp,if_true] using hx
     ·simp only [hp,if_false,Bool.false_eq_true] at hx ⊢
      by_cases hc:c=true
      ·simp only [hc,if_true] at hx ⊢
       split at hx
       ·rename_i hall;rw [if_pos hall];exact Dt h hx
       ·simp at hx
      ·simpa only [hc,if_false,Bool.false_eq_true] using hx
theorem Bc {X:Ctx} {r r':Run} (h:r.le r'):∀{ops:List AI} {e:Env} {σ:St} {x:Env×St},oM X r ops e σ=some x→oM X r' ops e σ=some x
 | [],_,_,_,hx=>hx
 | a :: ops,e,σ,x,hx=>by
   simp only [oM] at hx ⊢
   cases hs:dO X r e a σ with
   | none=>rw [hs] at hx;simp at hx
   | some y=>rw [hs] at hx;rw [qN h hs];exact Bc h hx
theorem Bf {X:Ctx} {r r':Run} (h:r.le r'):∀{ops:List (AI×List AI)} {e:Env} {σ:St} {x:Env×St},r_ X r ops e σ=some x→r_ X r' ops e σ=some x
 | [],_,_,_,hx=>hx
 | (a,ag) :: ops,e,σ,x,hx=>by
   simp only [r_] at hx ⊢
   cases hs:dO X r e a σ with
   | none=>rw [hs] at hx;simp at hx
   | some y=>
     rw [hs] at hx;rw [qN h hs]
     simp only at hx ⊢
     split at hx
     ·rename_i hall;rw [if_pos hall];exact Bf h hx
     ·simp at hx
theorem qO {live:List Nat} {b b':Env→St→Option (Out×Env×St)} (h:∀e σ x,b e σ=some x→b' e σ=some x) :
 ∀ {n m:Nat} {e:Env} {σ:St} {x:Out×Env×St},n≤m→kP live b n e σ=some x→kP live b' m e σ=some x
 | 0,_,_,_,_,_,hx=>by simp [kP] at hx
 | n+1,0,_,_,_,hn,_=>by omega
 | n+1,m+1,e,σ,x,hn,hx=>by
   simp only [kP] at hx ⊢
   cases hb:b (clear live e) σ with
   | none=>rw [hb] at hx;simp at hx
   | some y=>
     rw [hb] at hx;rw [h _ _ _ hb]
     obtain⟨o,e',σ'⟩:=y
     cases o with
     | normal=>exact qO h (by omega) hx
     | exit id=>exact hx
     | ret=>exact hx
theorem jQ {X:Ctx} {r r':Run} (h:r.le r') {n m:Nat} (hn:n≤m):∀{c:AC} {e:Env} {σ:St} {x:Out×Env×St},aZ X r n c e σ=some x→aZ X r' m c e σ=some x:=by
 intro c
 induction c with
 | skip=>intro e σ x hx;exact hx
 | exit id=>intro e σ x hx;exact hx
 | ret=>intro e σ x hx;exact hx
 | reg ops=>
   intro e σ x hx
   simp only [aZ] at hx ⊢
   cases hs:oM X r ops e σ with
   | none=>rw [hs] at hx;simp at hx
   | some y=>rw [hs] at hx;rw [Bc h hs];exact hx
 | jA ops=>
   intro e σ x hx
   simp only [aZ] at hx ⊢
   cases hs:r_ X r ops e σ with
   | none=>rw [hs] at hx;simp at hx
   | some y=>rw [hs] at hx;rw [Bf h hs];exact hx
 | seq a b iha ihb=>
   intro e σ x hx
   simp only [aZ] at hx ⊢
   cases hs:aZ X r n a e σ with
   | none=>rw [hs] at hx;simp at hx
   | some y=>
     rw [hs] at hx;rw [iha hs]
     obtain⟨o,e',σ'⟩:=y
     cases o with
     | normal=>exact ihb hx
     | exit id=>exact hx
     | ret=>exact hx
 | cond y a b iha ihb=>
   intro e σ x hx
   simp only [aZ] at hx ⊢
   split at hx <;> first | exact iha hx | exact ihb hx | simp at hx
 | blk id c ih=>
   intro e σ x hx
   simp only [aZ] at hx ⊢
   cases hs:aZ X r n c e σ with
   | none=>rw [hs] at hx;simp at hx
   | some y=>rw [hs] at hx;rw [ih hs];exact hx
 | loop live c ih=>
   intro e σ x hx
   simp only [aZ] at hx ⊢
   exact qO (fun _ _ _ hb=>ih hb) hn hx
 | cut live c ih=>
   intro e σ x hx
   simp only [aZ] at hx ⊢
   exact ih hx
theorem Du (X:Ctx):∀n,(aFn X n).le (aFn X (n+1))
 | 0=>fun _ _ _ _ hx=>by simp [aFn] at hx
 | n+1=>fun f args σ x hx=>by
   rw [aFn] at hx ⊢
   cases hp:X.prim f with
   | some g=>rw [hp] at hx;exact hx
   | none=>
     rw [hp] at hx
     simp only at hx ⊢
     cases hf:X.fns f with
     | none=>rw [hf] at hx;simp at hx
     | some F=>
       rw [hf] at hx
       simp only at hx ⊢
       split at hx
       ·rename_i hl
        rw [if_pos hl]
        cases hc:aZ X (aFn X n) n F.code (eH 0 args) σ with
        | none=>rw [hc] at hx;simp at hx
        | some y=>rw [hc] at hx;rw [jQ (Du X n) (Nat.le_succ n) hc];exact hx
       ·simp at hx
theorem jr (X:Ctx) {n m:Nat} (h:n≤m):(aFn X n).le (aFn X m):=by
 induction h with
 | refl=>exact fun _ _ _ _ h=>h
 | step _ ih=>exact fun f args σ x hx=>Du X _ _ _ _ _ (ih _ _ _ _ hx)
def wM (X:Ctx)(f:Nat)(args:List AV)(σ:St)(Q:AV→St→Prop):Prop:=Ex (fun n=>aFn X n f args σ) fun r=>Q r.1 r.2
def EvC (X:Ctx)(c:AC)(e:Env)(σ:St)(Q:Out→Env→St→Prop):Prop:=Ex (fun n=>aZ X (aFn X n) n c e σ) fun r=>Q r.1 r.2.1 r.2.2
def EvL (X:Ctx)(live:List Nat)(c:AC)(e:Env)(σ:St)(Q:Out→Env→St→Prop):Prop:=Ex (fun n=>kP live (aZ X (aFn X n) n c) n e σ) fun r=>Q r.1 r.2.1 r.2.2
def VP (X:Ctx)(ops:List AI)(e:Env)(σ:St)(Q:Env→St→Prop):Prop:=Ex (fun n=>oM X (aFn X n) ops e σ) fun r=>Q r.1 r.2
def VQ (X:Ctx)(ops:List (AI×List AI))(e:Env)(σ:St)(Q:Env→St→Prop):Prop:=Ex (fun n=>r_ X (aFn X n) ops e σ) fun r=>Q r.1 r.2
def EvS (X:Ctx)(e:Env)(a:AI)(σ:St)(Q:AV→St→Prop):Prop:=Ex (fun n=>dO X (aFn X n) e a σ) fun r=>Q r.1 r.2
def opt {α:Type} (o:Option α)(Q:α→Prop):Prop:=∃r,o=some r∧Q r
theorem fA {α:Type} (a:α)(Q:α→Prop):opt (some a) Q↔Q a:=⟨fun⟨_,h,q⟩=>(by cases h;exact q),fun q=>⟨a,rfl,q⟩⟩
theorem dX {α:Type} (Q:α→Prop):opt none Q↔False:=⟨fun⟨_,h,_⟩=>(by cases h),False.elim⟩
theorem dA {α β:Type} (f:α→β)(o:Option α)(Q:β→Prop):opt (o.map f) Q↔opt o fun a=>Q (f a):=by
 cases o <;> simp [fA,dX]
theorem Lh {α β:Type} (f:α→Option β)(o:Option α)(Q:β→Prop):opt (o.bind f) Q↔opt o fun a=>opt (f a) Q:=by
 cases o <;> simp [fA,dX]
theorem dw {α:Type} (o:Option α)(Q:α→Prop):Ex (fun _=>o) Q↔opt o Q:=⟨fun⟨_,r,h,q⟩=>⟨r,h,q⟩,fun⟨r,h,q⟩=>⟨0,r,h,q⟩⟩
section
variable {X:Ctx} {e:Env} {σ:St} {Q:Out→Env→St→Prop}
theorem Dv:EvC X .skip e σ Q↔Q .normal e σ:=by simp [EvC,aZ,dw,fA]
theorem Dw {id:Nat} :EvC X (.exit id) e σ Q↔Q (.exit id) e σ:=by simp [EvC,aZ,dw,fA]
theorem Hu:EvC X .ret e σ Q↔Q .ret e σ:=by simp [EvC,aZ,dw,fA]
theorem Hw {ops:List AI} :EvC X (.reg ops) e σ Q↔VP X ops e σ fun e' σ'=>Q .normal e' σ':=by
 constructor
 ·rintro ⟨n,r,h,q⟩
  try dsimp only at h
  simp only [aZ,Option.map_eq_some_iff] at h
  obtain⟨y,hy,rfl⟩:=h
  exact⟨n,y,hy,q⟩
 ·rintro ⟨n,r,h,q⟩
  try dsimp only at h
  exact⟨n,_,by simp only [aZ];rw [h];rfl,q⟩
theorem Hy {ops:List (AI×List AI)} :EvC X (.jA ops) e σ Q↔VQ X ops e σ fun e' σ'=>Q .normal e' σ':=by
 constructor
 ·rintro ⟨n,r,h,q⟩
  try dsimp only at h
  simp only [aZ,Option.map_eq_some_iff] at h
  obtain⟨y,hy,rfl⟩:=h
  exact⟨n,y,hy,q⟩
 ·rintro ⟨n,r,h,q⟩
  try dsimp only at h
  exact⟨n,_,by simp only [aZ];rw [h];rfl,q⟩
def Out.next (K:Env→St→Prop)(Q:Out→Env→St→Prop):Out→Env→St→Prop
 | .normal,e,σ=>K e σ
 | o,e,σ=>Q o e σ
theorem Out.nC (K:Env→St→Prop)(Q:Out→Env→St→Prop)(e:Env)(σ:St):Out.next K Q .normal e σ=K e σ:=rfl
theorem Out.sH (K:Env→St→Prop)(Q:Out→Env→St→Prop)(e:Env)(σ:St)(id:Nat):Out.next K Q (.exit id) e σ=Q (.exit id) e σ:=rfl
theorem Out.wP (K:Env→St→Prop)(Q:Out→Env→St→Prop)(e:Env)(σ:St):Out.next K Q .ret e σ=Q .ret e σ:=rfl
theorem Hz {a b:AC} :EvC X (.seq a b) e σ Q↔EvC X a e σ (Out.next (fun e' σ'=>EvC X b e' σ' Q) Q):=by
 constructor
 ·rintro ⟨n,r,h,q⟩
  try dsimp only at h
  simp only [aZ] at h
  cases hs:aZ X (aFn X n) n a e σ with
  | none=>rw [hs] at h;simp at h
  | some y=>
    rw [hs] at h
    obtain⟨o,e',σ'⟩:=y
    refine⟨n,_,hs,?_⟩
    cases o with
    | normal=>exact⟨n,r,h,q⟩
    | exit id=>simp only [Option.some.injEq] at h;subst h;exact q
    | ret=>simp only [Option.some.injEq] at h;subst h;exact q
 ·rintro ⟨n,⟨o,e',σ'⟩,h,q⟩
  try dsimp only at h
  cases o with
  | normal=>
    obtain⟨m,r,hm,q'⟩:=q
    try dsimp only at hm
    refine⟨max n m,r,?_,q'⟩
    simp only [aZ]
    rw [jQ (jr X (Nat.le_max_left n m)) (Nat.le_max_left n m) h]
    exact jQ (jr X (Nat.le_max_right n m)) (Nat.le_max_right n m) hm
  | exit id=>exact⟨n,_,by simp only [aZ];rw [h],q⟩
  | ret=>exact⟨n,_,by simp only [aZ];rw [h],q⟩
def Bg (v:AV)(A B:Prop):Prop:=match v with | .b true=>A | .b false=>B | _=>False
theorem Jg {A B:Prop} :Bg (.b true) A B↔A:=Iff.rfl
theorem FD {A B:Prop} :Bg (.b false) A B↔B:=Iff.rfl
theorem TQ {t:Bool} {A B:Prop} :Bg (.b t) A B↔(t=true→A)∧(t=false→B):=by cases t <;> simp [Bg]
theorem Dx {x:cZ} {a b:AC} :EvC X (.cond x a b) e σ Q↔Bg (x.ev e) (EvC X a e σ Q) (EvC X b e σ Q):=by
 cases hx:x.ev e with
 | b t=>cases t <;> simp [EvC,aZ,hx,Bg]
 | _=>simp only [EvC,aZ,hx,dw,dX,Bg]
def Out.zI (id:Nat)(Q:Out→Env→St→Prop):Out→Env→St→Prop
 | .exit j,e,σ=>if j=id then Q .normal e σ else Q (.exit j) e σ
 | o,e,σ=>Q o e σ
theorem Out.qP (id:Nat)(Q:Out→Env→St→Prop)(e:Env)(σ:St):Out.zI id Q .normal e σ=Q .normal e σ:=rfl
theorem Out.wQ (id j:Nat)(Q:Out→Env→St→Prop)(e:Env)(σ:St):Out.zI id Q (.exit j) e σ=if j=id then Q .normal e σ else Q (.exit j) e σ:=rfl
theorem Out.zJ (id:Nat)(Q:Out→Env→St→Prop)(e:Env)(σ:St):Out.zI id Q .ret e σ=Q .ret e σ:=rfl
theorem HY {id:Nat} {c:AC} :EvC X (.blk id c) e σ Q↔EvC X c e σ (Out.zI id Q):=by
 constructor
 ·rintro ⟨n,r,h,q⟩
  try dsimp only at h
  simp only [aZ] at h
  cases hs:aZ X (aFn X n) n c e σ with
  | none=>rw [hs] at h;simp at h
  | some y=>
    rw [hs] at h
    obtain⟨o,e',σ'⟩:=y
    refine⟨n,_,hs,?_⟩
    cases o with
    | exit j=>
      simp only [Option.some.injEq] at h;subst h
      simp only [Out.zI]
      by_cases hj:j=id <;> simpa [hj] using q
    | normal=>simp only [Option.some.injEq] at h;subst h;exact q
    | ret=>simp only [Option.some.injEq] at h;subst h;exact q
 ·rintro ⟨n,⟨o,e',σ'⟩,h,q⟩
  try dsimp only at h
  cases o with
  | exit j=>
    refine⟨n,_,by simp only [aZ];rw [h],?_⟩
    simp only [Out.zI] at q
    by_cases hj:j=id <;> simpa [hj] using q
  | normal=>exact⟨n,_,by simp only [aZ];rw [h],q⟩
  | ret=>exact⟨n,_,by simp only [aZ];rw [h],q⟩
theorem H6 {live:List Nat} {c:AC} :EvC X (.cut live c) e σ Q↔EvC X c (clear live e) σ Q:=Iff.rfl
theorem Dy {live:List Nat} {c:AC} :EvC X (.loop live c) e σ Q↔EvL X live c e σ Q:=Iff.rfl
theorem nD {live:List Nat} {c:AC} :EvL X live c e σ Q↔EvC X c (clear live e) σ (Out.next (fun e' σ'=>EvL X live c e' σ' Q) Q):=by
 constructor
 ·rintro ⟨n,r,h,q⟩
  try dsimp only at h
  cases n with
  | zero=>simp [kP] at h
  | succ n=>
    simp only [kP] at h
    cases hs:aZ X (aFn X (n+1)) (n+1) c (clear live e) σ with
    | none=>rw [hs] at h;simp at h
    | some y=>
      rw [hs] at h
      obtain⟨o,e',σ'⟩:=y
      refine⟨n+1,_,hs,?_⟩
      cases o with
      | normal=>exact⟨n+1,r,qO (fun _ _ _ h=>h) (Nat.le_succ n) h,q⟩
      | exit id=>simp only [Option.some.injEq] at h;subst h;exact q
      | ret=>simp only [Option.some.injEq] at h;subst h;exact q
 ·rintro ⟨n,⟨o,e',σ'⟩,h,q⟩
  try dsimp only at h
  cases o with
  | normal=>
    obtain⟨m,r,hm,q'⟩:=q
    try dsimp only at hm
    refine⟨max n m+1,r,?_,q'⟩
    simp only [kP]
    rw [jQ (jr X (Nat.le_trans (Nat.le_max_left n m) (Nat.le_succ _))) (Nat.le_trans (Nat.le_max_left n m) (Nat.le_succ _)) h]
    exact qO (fun _ _ _ hb=>jQ (jr X (Nat.le_trans (Nat.le_max_right n m) (Nat.le_succ _))) (Nat.le_trans (Nat.le_max_right n m) (Nat.le_succ _)) hb) (Nat.le_max_right n m) hm
  | exit id=>
    refine⟨n+1,_,?_,q⟩
    simp only [kP]
    rw [jQ (jr X (Nat.le_succ n)) (Nat.le_succ n) h]
  | ret=>
    refine⟨n+1,_,?_,q⟩
    simp only [kP]
    rw [jQ (jr X (Nat.le_succ n)) (Nat.le_succ n) h]
end
section
variable {X:Ctx} {e:Env} {σ:St}
theorem H7 {Q:Env→St→Prop} :VP X [] e σ Q↔Q e σ:=by simp [VP,oM,dw,fA]
theorem Dz {a:AI} {r:List AI} {Q:Env→St→Prop} :VP X (a :: r) e σ Q↔EvS X e a σ fun v σ'=>VP X r (put a.d v e) σ' Q:=by
 constructor
 ·rintro ⟨n,x,h,q⟩
  try dsimp only at h
  simp only [oM] at h
  cases hs:dO X (aFn X n) e a σ with
  | none=>rw [hs] at h;simp at h
  | some y=>rw [hs] at h;exact⟨n,y,hs,n,x,h,q⟩
 ·rintro ⟨n,y,hs,m,x,h,q⟩
  try dsimp only at h hs
  refine⟨max n m,x,?_,q⟩
  simp only [oM]
  rw [qN (jr X (Nat.le_max_left n m)) hs]
  exact Bc (jr X (Nat.le_max_right n m)) h
theorem H8 {Q:Env→St→Prop} :VQ X [] e σ Q↔Q e σ:=by simp [VQ,r_,dw,fA]
theorem DC {a:AI} {ag:List AI} {r:List (AI×List AI)} {Q:Env→St→Prop} :
 VQ X ((a,ag) :: r) e σ Q↔EvS X e a σ fun v σ'=>ag.all (pJ X e σ')=true∧VQ X r (put a.d v e) σ' Q:=by
 constructor
 ·rintro ⟨n,x,h,q⟩
  try dsimp only at h
  simp only [r_] at h
  cases hs:dO X (aFn X n) e a σ with
  | none=>rw [hs] at h;simp at h
  | some y=>
    rw [hs] at h
    simp only at h
    split at h
    ·rename_i hall;exact⟨n,y,hs,hall,n,x,h,q⟩
    ·simp at h
 ·rintro ⟨n,y,hs,hall,m,x,h,q⟩
  try dsimp only at h hs
  refine⟨max n m,x,?_,q⟩
  simp only [r_]
  rw [qN (jr X (Nat.le_max_left n m)) hs]
  simp only [hall,if_true]
  exact Bf (jr X (Nat.le_max_right n m)) h
variable {Q:AV→St→Prop} {d:Option Nat}
def qQ (X:Ctx)(f:AV)(args:List AV)(σ:St)(Q:AV→St→Prop):Prop:=match f with | .fn (.func k) first cap=>wM X k (first ++ args ++ cap) σ Q | _=>False
theorem Lj {k:Nat} {first cap args:List AV} :qQ X (.fn (.func k) first cap) args σ Q↔wM X k (first ++ args ++ cap) σ Q:=Iff.rfl
theorem Ll {f:cZ} {args:List cZ} :EvS X e ⟨d,none,.call f args⟩ σ Q↔qQ X (f.ev e) (args.map (cZ.ev e)) σ Q:=by
 cases hf:f.ev e with
 | fn k a c=>cases k <;> simp [EvS,dO,eY,hf,wM,dw,qQ,dX]
 | _=>simp only [EvS,dO,eY,hf,dw,dX,qQ]
def invV (X:Ctx)(x:AV)(m:String)(args:List AV)(σ:St)(Q:AV→St→Prop):Prop:=match x with | .ic t v=>opt (X.meth t m v) (fun k=>wM X k.1 (k.2 :: args) σ Q) | _=>False
theorem P6 {t:Nat} {v:AV} {m:String} {args:List AV} :invV X (.ic t v) m args σ Q↔opt (X.meth t m v) (fun k=>wM X k.1 (k.2 :: args) σ Q):=Iff.rfl
theorem P7 {x:cZ} {m:String} {args:List cZ} :EvS X e ⟨d,none,.inv x m args⟩ σ Q↔invV X (x.ev e) m (args.map (cZ.ev e)) σ Q:=by
 cases hf:x.ev e with
 | ic t v=>cases hm:X.meth t m v <;> simp [EvS,dO,eY,hf,hm,wM,dw,invV,dX,fA]
 | _=>simp only [EvS,dO,eY,hf,dw,dX,invV]
theorem TR {op:dH} (h:(match op with | .call _ _ | .inv _ _ _=>false | _=>true)=true):EvS X e ⟨d,none,op⟩ σ Q↔opt (gV X.P (cZ.ev e) op σ) fun r=>Q r.1 r.2:=by
 cases op <;> first | (simp at h;done) | simp only [EvS,dO,eY,dw]
theorem Lm {op:dH} {g:Nat×Bool} (h:op.pure=true):EvS X e ⟨d,some g,op⟩ σ Q↔opt (dK e (some g)) fun c=>
 opt (iF X.P c e op σ) fun v=>Q v σ:=by
 cases hw:dK e (some g) with
 | none=>simp [EvS,dO,hw,dw,dX]
 | some c=>simp only [EvS,dO,hw,h,if_true,dw,fA,dA]
def Sz (c:Bool)(A B:Prop):Prop:=if c then A else B
theorem Lp {A B:Prop} :Sz true A B↔A:=Iff.rfl
theorem Jh {A B:Prop} :Sz false A B↔B:=Iff.rfl
theorem Wv {t:Bool} {A B:Prop} :Sz t A B↔(t=true→A)∧(t=false→B):=by cases t <;> simp [Sz]
def wR (X:Ctx)(ρ:cZ→AV)(op:dH)(σ:St)(Q:AV→St→Prop):Prop:=Ex (fun n=>eY X (aFn X n) ρ op σ) fun r=>Q r.1 r.2
theorem H9 {op:dH} {g:Nat×Bool} (h:op.pure=false):EvS X e ⟨d,some g,op⟩ σ Q↔opt (dK e (some g)) fun c=>
 Sz c (op.bH.all (fun o=>(o.ev e).cnd)=true∧wR X (fun o=>(o.ev e).val) op σ Q) (Q (.tu []) σ):=by
 cases hw:dK e (some g) with
 | none=>simp [EvS,dO,hw,dw,dX]
 | some c=>
   simp only [EvS,dO,hw,h,fA,Sz,wR]
   cases c with
   | false=>simp [dw,fA]
   | true=>
     by_cases hc:op.bH.all (fun o=>(o.ev e).cnd)=true
     ·simp [hc]
     ·simp [hc,dw,dX]
theorem zK {ρ:cZ→AV} {f:cZ} {args:List cZ} :wR X ρ (.call f args) σ Q↔qQ X (ρ f) (args.map ρ) σ Q:=by
 cases hf:ρ f with
 | fn k a c=>cases k <;> simp [wR,eY,hf,wM,dw,qQ,dX]
 | _=>simp only [wR,eY,hf,dw,dX,qQ]
theorem DF {ρ:cZ→AV} {x:cZ} {m:String} {args:List cZ} :wR X ρ (.inv x m args) σ Q↔invV X (ρ x) m (args.map ρ) σ Q:=by
 cases hf:ρ x with
 | ic t v=>cases hm:X.meth t m v <;> simp [wR,eY,hf,hm,wM,dw,invV,dX,fA]
 | _=>simp only [wR,eY,hf,dw,dX,invV]
theorem bK {ρ:cZ→AV} {op:dH} (h:(match op with | .call _ _ | .inv _ _ _=>false | _=>true)=true):wR X ρ op σ Q↔opt (gV X.P ρ op σ) fun r=>Q r.1 r.2:=by
 cases op <;> first | (simp at h;done) | simp only [wR,eY,dw]
def Lr:Out→Bool
 | .exit _=>false
 | _=>true
theorem TS {f:Nat} {F:AF} {args:List AV} (hp:X.prim f=none)(hf:X.fns f=some F)(hl:args.length≤F.nt) :
 wM X f args σ Q↔EvC X F.code (eH 0 args) σ fun o e σ'=>Lr o=true∧opt ((oN X.P F.res e σ').map fun v=>norm σ v σ') fun r=>Q r.1 r.2:=by
 constructor
 ·rintro ⟨n,x,h,q⟩
  try dsimp only at h
  cases n with
  | zero=>simp [aFn] at h
  | succ n=>
    simp only [aFn,hp,hf,hl,if_true] at h
    cases hc:aZ X (aFn X n) n F.code (eH 0 args) σ with
    | none=>rw [hc] at h;simp at h
    | some y=>
      rw [hc] at h
      obtain⟨o,e',σ'⟩:=y
      refine⟨n,_,hc,?_⟩
      cases o with
      | exit j=>simp at h
      | normal=>exact⟨rfl,x,h,q⟩
      | ret=>exact⟨rfl,x,h,q⟩
 ·rintro ⟨n,⟨o,e',σ'⟩,hc,ho,x,hv,q⟩
  try dsimp only at hc
  refine⟨n+1,x,?_,q⟩
  simp only [aFn,hp,hf,hl,if_true,hc]
  cases o with
  | exit j=>simp [Lr] at ho
  | normal=>exact hv
  | ret=>exact hv
theorem jf {f:Nat} {g:List AV→St→Option (AV×St)} {args:List AV} (hp:X.prim f=some g):wM X f args σ Q↔opt (g args σ) fun r=>Q r.1 r.2:=by
 constructor
 ·rintro ⟨n,x,h,q⟩
  try dsimp only at h
  cases n with
  | zero=>simp [aFn] at h
  | succ n=>simp only [aFn,hp] at h;exact⟨x,h,q⟩
 ·rintro ⟨x,h,q⟩
  exact⟨1,x,by simp only [aFn,hp];exact h,q⟩
theorem P8 {f:Nat} {args:List AV} {v:AV} {σ':St} (h:wM X f args σ fun a s=>a=v∧s=σ'):wM X f args σ Q↔Q v σ':=by
 obtain⟨n,x,hx,h1,h2⟩:=h
 constructor
 ·rintro ⟨m,y,hy,q⟩
  try dsimp only at hx hy
  have a:=jr X (Nat.le_max_left n m) _ _ _ _ hx
  have b:=jr X (Nat.le_max_right n m) _ _ _ _ hy
  rw [a] at b
  obtain rfl:=Option.some.inj b
  exact h1▸h2▸q
 ·intro q
  exact⟨n,x,hx,by show Q x.1 x.2;rw [h1,h2];exact q⟩
theorem wU {f:Nat} {args:List AV} {Q':AV→St→Prop} (h:wM X f args σ Q)(hq:∀v s,Q v s→Q' v s):wM X f args σ Q':=by
 obtain⟨n,x,hx,q⟩:=h
 exact⟨n,x,hx,hq _ _ q⟩
end
theorem qU {X:Ctx} {c:AC} {e:Env} {σ:St} {Q Q':Out→Env→St→Prop} (h:EvC X c e σ Q)(hq:∀o e s,Q o e s→Q' o e s):EvC X c e σ Q':=by
 obtain⟨n,x,hx,q⟩:=h
 exact⟨n,x,hx,hq _ _ _ q⟩
theorem Ls {X:Ctx} {live:List Nat} {c:AC} {e:Env} {σ:St} {Q Q':Out→Env→St→Prop} (h:EvL X live c e σ Q)(hq:∀o e s,Q o e s→Q' o e s):EvL X live c e σ Q':=by
 obtain⟨n,x,hx,q⟩:=h
 exact⟨n,x,hx,hq _ _ _ q⟩
section
variable {X:Ctx}
@[congr] theorem VR {l:List Nat} {e e':Env} {a:AC} {σ σ':St} {Q:Out→Env→St→Prop} (he:e=e') (h:σ=σ'):EvL X l a e σ Q↔EvL X l a e' σ' Q:=by rw [h,he]
@[congr] theorem VT {f:Nat} {a a':List AV} {σ σ':St} {Q:AV→St→Prop} (ha:a=a') (h:σ=σ'):wM X f a σ Q↔wM X f a' σ' Q:=by rw [h,ha]
@[congr] theorem SA {f f':AV} {a a':List AV} {σ σ':St} {Q:AV→St→Prop} (hf:f=f') (ha:a=a') (h:σ=σ'):qQ X f a σ Q↔qQ X f' a' σ' Q:=by rw [h,ha,hf]
@[congr] theorem TT {f f':AV} {m:String} {a a':List AV} {σ σ':St} {Q:AV→St→Prop} (hf:f=f') (ha:a=a') (h:σ=σ'):invV X f m a σ Q↔invV X f' m a' σ' Q:=by rw [h,ha,hf]
@[congr] theorem VU {α:Type} {o o':Option α} {Q:α→Prop} (h:o=o'):opt o Q↔opt o' Q:=by rw [h]
@[congr] theorem TU {v v':AV} {A B:Prop} (h:v=v'):Bg v A B↔Bg v' A B:=by rw [h]
@[congr] theorem VW {v v':Bool} {A B:Prop} (h:v=v'):Sz v A B↔Sz v' A B:=by rw [h]
end
attribute [simp ↓] Dv Dw Hu Hw Hy Hz Dx HY Dy H6 H7 Dz H8 DC Ll P7 TR Lm H9 zK DF bK
attribute [simp ↓] Out.nC Out.sH Out.wP Out.qP Out.wQ Out.zJ fA dX dA Lh
attribute [simp] Jg FD TQ Lp Jh Wv Lj P6 Lr
attribute [simp] get put cZ.ev cZ.isC eH dH.bH dK AV.val AV.cnd mW iF merge CZ wz gV lM I7 TF jo Wj I8 KN I9 Wl oN mX wB norm AV.flat AV.jc clear
end Go.Abs
namespace Go.Abs
def qV (ops:Array Oper):Option (Nat×Bool)→Option (Nat×Bool)→Bool
 | none,none=>true
 | some (j,w),some (n,w')=>w == w' && ((ops[j]?).bind (·.dst)) == some n
 | _,_=>false
def H_ (N:Nat):Option Nat→Bool
 | none=>true
 | some d=>decide (d<N)
def pV (P:Program)(G N:Nat)(ops:Array Oper)(o:Oper)(a:AI):Bool:=o.dst == a.d && H_ N a.d && qV ops o.guard a.gd && mO P G o.op a.op
def wV (P:Program)(G N:Nat)(ops:Array Oper):List Nat→List AI→Bool
 | [],[]=>true
 | i :: is,a :: xs=>(match ops[i]? with | some o=>pV P G N ops o a | none=>false) && wV P G N ops is xs
 | _,_=>false
def Enters (P:Program)(f:Nat):Prop:=∀(args:Array Value) (w:World),(callFunc f args).run P w= .ok (.enter f args) w
theorem fU {P:Program} {f:Nat} {fn:Func} (hf:P.funcs[f]? =some fn)(hn:(fn.name == "runtime.NumGoroutine")=false)(hb:fn.body.isSome=true):Enters P f:=by
 intro args w
 obtain⟨c,hc⟩:=Option.isSome_iff_exists.1 hb
 have h1:fn.name≠"runtime.NumGoroutine" :=by simpa using hn
 simp [callFunc,hf,h1,hc]
def After (G:Nat)(μ:Mu)(σ:St)(w:World)(r:AV)(σ':St)(e:Ending)(w':World):Prop:=∃v μ',e= .returned v∧aJ μ' w' r v∧Step G μ σ w μ' σ' w'
def Does (P:Program)(f:Nat)(aP:Array Value)(w:World)(R:Ending→World→Prop):Prop:=
 ((callFunc f aP).run P w= .ok (.enter f aP) w∧Calls P f aP w R)∨∃v w',(callFunc f aP).run P w= .ok (.value v) w'∧R (.returned v) w'
theorem Does.mono {P:Program} {f:Nat} {aP:Array Value} {w:World} {R R':Ending→World→Prop} (h:Does P f aP w R)(hr:∀e w',R e w'→R' e w'):Does P f aP w R':=by
 rcases h with ⟨h1,h2⟩ | ⟨v,w',h1,h2⟩
 ·exact .inl ⟨h1,h2.mono hr⟩
 ·exact .inr ⟨v,w',h1,hr _ _ h2⟩
def jD (P:Program)(G:Nat)(run:Run):Prop:=∀f args σ r σ',run f args σ=some (r,σ')→∀μ w (aP:Array Value),eG G μ σ w→aK μ w args aP.toList→Does P f aP w (After G μ σ w r σ')
structure Ctx.Ok (X:Ctx)(G:Nat):Prop where
 meth:∀t m a k,X.meth t m a=some k→∀(μ:Mu) (v:Value) (w:World),aJ μ w a v→∃v',(method (X.P.types.size+Made.depth) t v m).run X.P w= .ok (k.1,v') w∧aJ μ w k.2 v'
 prim:∀f g,X.prim f=some g→∀args σ r σ',g args σ=some (r,σ')→∀μ w (aP:Array Value),eG G μ σ w→aK μ w args aP.toList→Does X.P f aP w (After G μ σ w r σ')
structure dN (G N:Nat)(μ:Mu)(w:World)(e:Env)(tmps:Array Value):Prop where
 size:tmps.size=N
 rel:∀n,aJ μ w (get e n) (tmps.getD n undef)
section
variable {X:Ctx} {G N:Nat} {μ:Mu} {σ:St} {w:World}
theorem dN.mono {μ':Mu} {w':World} {e:Env} {tmps:Array Value} (h:dN G N μ w e tmps)(hm:μ.le μ')(hw:iD w w'):dN G N μ' w' e tmps:=
 ⟨h.size,fun n=>aJ.mono hm hw _ _ (h.rel n)⟩
theorem dN.put {e:Env} {act:Act} {d:Option Nat} {r:AV} {v:Value} (h:dN G N μ w e act.tmps)(hd:H_ N d=true)(hr:aJ μ w r v):dN G N μ w (Abs.put d r e) (act.put d v).tmps:=by
 cases d with
 | none=>exact h
 | some d=>
   simp only [H_,decide_eq_true_eq] at hd
   refine⟨by simpa [Act.put] using h.size,fun n=>?_⟩
   have hs:=h.size
   simp only [Abs.put,Go.Abs.get,Act.put]
   rw [Array.getD_eq_getD_getElem?,Array.getElem?_setIfInBounds]
   split
   ·rename_i he;subst he
    rw [if_pos (by omega)]
    exact hr
   ·rename_i he
    rw [←Array.getD_eq_getD_getElem?]
    exact h.rel n
theorem dN.clear {e:Env} {tmps:Array Value} (h:dN G N μ w e tmps)(l:List Nat):dN G N μ w (Abs.clear l e) tmps:=by
 refine⟨h.size,fun n=>?_⟩
 have hg:get (Abs.clear l e) n=get e n∨get (Abs.clear l e) n= .u:=by
  unfold Abs.clear
  induction l with
  | nil=>exact .inr rfl
  | cons d l ih=>
    simp only [List.map_cons,Go.Abs.get]
    split
    ·rename_i he;subst he;exact .inl rfl
    ·exact ih
 rcases hg with hg | hg
 ·rw [hg];exact h.rel n
 ·rw [hg];trivial
theorem ou (hs:eG G μ σ w) {e:Env} {act:Act} (h:dN G N μ w e act.tmps) {x:Operand} {y:cZ} (hk:bM G x y=true):aJ μ w (y.ev e) (act.eval x):=by
 unfold bM at hk
 split at hk
 ·simp only [beq_iff_eq] at hk;subst hk;exact h.rel _
 ·have:=AV.mQ _ _ hk
  simp only [cZ.ev]
  rw [←this]
  exact qE _
 ·simp only [Bool.and_eq_true,beq_iff_eq,decide_eq_true_eq] at hk
  obtain⟨rfl,hg⟩:=hk
  exact⟨_,0,hs.pK _ hg,rfl⟩
 ·simp only [beq_iff_eq] at hk;subst hk
  exact⟨#[],#[],rfl,rfl,rfl⟩
 ·cases hk
theorem P9 (hs:eG G μ σ w) {e:Env} {act:Act} (h:dN G N μ w e act.tmps)(l:List cZ):lU G μ w l (cZ.ev e) act.eval:=fun _ _ hk _=>ou hs h hk
theorem Ia (hs:eG G μ σ w) {e:Env} {act:Act} (h:dN G N μ w e act.tmps)(l:List cZ)(hc:∀y∈l,(y.ev e).cnd=true):lU G μ w l (fun y=>(y.ev e).val) act.eval:=
 fun _ y hk hy=>oq (ou hs h hk) (hc y hy)
def Lu:Option Value→Option Bool
 | some (.bool b)=>some b
 | _=>none
theorem wW {ops:Array Oper} {e:Env} {act:Act} {o:Oper} {g:Option (Nat×Bool)} {c:Bool} (h:dN G N μ w e act.tmps)(hk:qV ops o.guard g=true)(hw:dK e g=some c) :
 Region.wanted o (yielded ops act.tmps)=c:=by
 cases hg:o.guard with
 | none=>
   rw [hg] at hk
   cases g with
   | none=>simp only [dK,Option.some.injEq] at hw;subst hw;simp [Region.wanted,hg]
   | some g=>simp [qV] at hk
 | some jw=>
   rw [hg] at hk
   obtain⟨j,want⟩:=jw
   cases g with
   | none=>simp [qV] at hk
   | some g=>
     obtain⟨n,want'⟩:=g
     simp only [qV,Bool.and_eq_true,beq_iff_eq] at hk
     obtain⟨rfl,hd⟩:=hk
     have hrel:=h.rel n
     have hy:yielded ops act.tmps j=Lu act.tmps[n]? :=by
        simp only [yielded,hd,Option.bind_some]
        rfl
     have hget:∀b,act.tmps.getD n undef= .bool b→act.tmps[n]? =some (.bool b):=by
        intro b hb
        simp only [Array.getD] at hb
        split at hb
        ·rename_i hlt;rw [Array.getElem?_eq_getElem hlt];exact congrArg some hb
        ·cases hb
     have TV:act.tmps.getD n undef=undef→Lu act.tmps[n]? =none:=by
        intro hu
        simp only [Array.getD] at hu
        split at hu
        ·rename_i hlt;rw [Array.getElem?_eq_getElem hlt];rw [show act.tmps[n]=undef from hu];rfl
        ·rename_i hlt;rw [Array.getElem?_eq_none (by omega)];rfl
     simp only [dK] at hw
     simp only [Region.wanted,hg,hy]
     split at hw
     ·rename_i x hx
      rw [hx] at hrel
      simp only [aJ] at hrel
      rw [hget _ hrel]
      simp only [Option.some.injEq] at hw
      subst hw
      cases x <;> cases want <;> rfl
     ·rename_i c' x hx
      rw [hx] at hrel
      simp only [Option.some.injEq] at hw
      cases c' with
      | true=>
        simp only [aJ,if_true] at hrel
        rw [hget _ hrel]
        subst hw
        cases x <;> cases want <;> rfl
      | false=>
        simp only [aJ] at hrel
        have hr':act.tmps.getD n undef=undef:=hrel
        rw [TV hr']
        subst hw
        cases want <;> rfl
     ·rename_i x hx' hx
      rw [hx] at hrel
      have hr':act.tmps.getD n undef=undef:=hrel
      rw [TV hr']
      simp only [Option.some.injEq] at hw
      subst hw
      cases want <;> rfl
     ·rename_i hx
      rw [hx] at hrel
      obtain⟨a,ha,hl⟩:=hrel
      have hu:act.tmps.getD n undef=undef:=by
       rw [ha]
       simp only [aK] at hl
       have:a= #[]:=by apply Array.ext';simpa using hl
       rw [this];rfl
      rw [TV hu]
      simp only [Option.some.injEq] at hw
      subst hw
      cases want <;> rfl
     ·cases hw
def Wx (P:Program)(ops:Array Oper)(o:Oper)(K:Act→World→Prop)(Q:Exit→Act→World→Prop)(act:Act)(w:World):Prop:=
 if Region.wanted o (yielded ops act.tmps) then o.wp P act w K Q∨(o.asks P act w∧LetsOut Q) else K (act.put o.dst undef) w
theorem Ib {P:Program} {o:Oper} {act:Act} {K:Act→World→Prop} {Q:Exit→Act→World→Prop} {r:AV} {σ':St} (h:Dp P G μ σ w (execOp act.eval o) r σ')
 (hK:∀v w' μ',aJ μ' w' r v→Step G μ σ w μ' σ' w'→K (act.put o.dst v) w'):o.wp P act w K Q:=by
 obtain⟨n,w',μ',v,h1,h2,h3,h4⟩:=h
 unfold Oper.wp
 rw [h1]
 rcases h2 with rfl | ⟨rfl,rfl⟩
 ·exact hK _ _ _ h3 h4
 ·exact hK _ _ _ h3 h4
theorem Ic {P:Program} {run:Run} (hrun:jD P G run) {o:Oper} {act:Act} {K:Act→World→Prop} {Q:Exit→Act→World→Prop} {f:Nat} {args:List AV} {r:AV} {σ':St} {aP:Array Value}
 (hs:eG G μ σ w) (h:run f args σ=some (r,σ')) (hx:(execOp act.eval o).run P w=(callFunc f aP).run P w) (hr:aK μ w args aP.toList)
 (hK:∀v w' μ',aJ μ' w' r v→Step G μ σ w μ' σ' w'→K (act.put o.dst v) w'):o.wp P act w K Q:=by
 unfold Oper.wp
 rcases hrun _ _ _ _ _ h μ w aP hs hr with ⟨h1,h2⟩ | ⟨v,w',h1,v',μ',hv,hr',hst⟩
 ·rw [hx,h1,Oper.upon_enter]
  refine h2.mono fun e w' he=>?_
  obtain⟨v,μ',rfl,hv,hst⟩:=he
  exact hK _ _ _ hv hst
 ·rw [hx,h1,Oper.upon_value]
  cases hv
  exact hK _ _ _ hr' hst
theorem zM {run:Run} (hX:X.Ok G)(hrun:jD X.P G run) {o:Oper} {a:dH} {act:Act} {rX:cZ→AV} {K:Act→World→Prop} {Q:Exit→Act→World→Prop} {r:AV} {σ':St} (hs:eG G μ σ w)(hok:mO X.P G o.op a=true)
 (hρ:lU G μ w a.bH rX act.eval) (hn:qM rX) (h:eY X run rX a σ=some (r,σ'))
 (hK:∀v w' μ',aJ μ' w' r v→Step G μ σ w μ' σ' w'→K (act.put o.dst v) w'):o.wp X.P act w K Q:=by
 by_cases hcall:∃f args,a= .call f args
 ·obtain⟨f,args,rfl⟩:=hcall
  simp only [eY] at h
  cases hop:o.op with
  | call c=>
    rw [hop] at hok
    simp only [mO,ny] at hok
    cases hc:c.callee with
    | invoke x m=>rw [hc] at hok;simp at hok
    | builtin b=>
      rw [hc] at hok
      simp only [iL] at hok
      split at hok <;> simp_all
    | value fo=>
      rw [hc] at hok
      simp only [Bool.and_eq_true] at hok
      split at h
      ·rename_i k first cap hf
       have hfr:=hρ _ _ hok.1 (by simp [dH.bH])
       rw [hf] at hfr
       obtain⟨ca,cc,hfv,r1,r2⟩:=hfr
       have hargs:=jP hρ hok.2 (fun y hy=>by simp [dH.bH,hy])
       refine Ic hrun (aP:=ca ++ c.args.map act.eval ++ cc) hs h ?_ ?_ hK
       ·simp [execOp,hop,resolve,hc,hfv,Deferred.ofValue,invoke]
       ·simp only [Array.toList_append,Array.toList_map]
        exact(r1.append hargs).append r2
      ·cases h
  | _=>rw [hop] at hok;simp [mO] at hok
 by_cases hinv:∃x m args,a= .inv x m args
 ·obtain⟨x,m,args,rfl⟩:=hinv
  simp only [eY] at h
  cases hop:o.op with
  | call c=>
    rw [hop] at hok
    simp only [mO,ny] at hok
    cases hc:c.callee with
    | value fo=>rw [hc] at hok;simp at hok
    | builtin b=>
      rw [hc] at hok
      simp only [iL] at hok
      split at hok <;> simp_all
    | invoke xo m'=>
      rw [hc] at hok
      simp only [Bool.and_eq_true,beq_iff_eq] at hok
      obtain⟨⟨hx,rfl⟩,hargs⟩:=hok
      split at h
      ·rename_i t v hxv
       split at h
       ·rename_i k hk
        have hxr:=hρ _ _ hx (by simp [dH.bH])
        rw [hxv] at hxr
        obtain⟨y,hy,hyr⟩:=hxr
        have hargs':=jP hρ hargs (fun y hy=>by simp [dH.bH,hy])
        obtain⟨y',hm,hyr'⟩:=hX.meth t _ _ k hk μ y w hyr
        refine Ic hrun (aP:=#[y'] ++ c.args.map act.eval) hs h ?_ ?_ hK
        ·have he:(#[Value.iface t y] ++ c.args.map act.eval).extract 1 (#[Value.iface t y] ++ c.args.map act.eval).size=c.args.map act.eval:=by
               apply Array.ext'
               simp only [Array.toList_extract,Array.toList_append,List.extract_eq_take_drop,Array.size_append,Array.size_map]
               simp [List.take_of_length_le]
         have h0:(#[Value.iface t y] ++ c.args.map act.eval)[0]? =some (Value.iface t y):=by rw [Array.getElem?_append];simp
         have h2:(c.args.map act.eval).extract 0 c.args.size=c.args.map act.eval:=by
               apply Array.ext'
               simp [List.take_of_length_le]
         simp [execOp,hop,resolve,hc,hy,invoke,callMethod,h0,hm,h2]
        ·simp only [Array.toList_append,Array.toList_map]
         exact⟨y',_,rfl,hyr',hargs'⟩
       ·cases h
      ·cases h
  | _=>rw [hop] at hok;simp [mO] at hok
 have h':gV X.P rX a σ=some (r,σ'):=by
  cases a <;> first | exact h | exact absurd ⟨_,_,rfl⟩ hcall | exact absurd ⟨_,_,_,rfl⟩ hinv
 exact Ib (Le hs hok hρ hn h') hK
end
end Go.Abs
namespace Go.Abs
theorem DJ (e:Env):qM (cZ.ev e):=by
 intro v h
 simp only [cZ.ev] at h
 rw [h];rfl
theorem qW (e:Env):qM (fun y=>(y.ev e).val):=fun _ h=>h
theorem wX {P:Program} {ρ:cZ→AV} {op:dH} {σ σ':St} {r:AV} (hp:op.pure=true)(h:gV P ρ op σ=some (r,σ')):σ'= σ:=by
 cases op <;> simp only [dH.pure,Bool.false_eq_true] at hp <;> simp only [gV] at h
 all_goals first
  | (rw [Option.map_eq_some_iff] at h;obtain⟨q,_,h⟩:=h;cases h;rfl)
  | (cases h;rfl)
  | (split at h <;> first | (cases h;done) | (cases h;rfl) | (rw [Option.map_eq_some_iff] at h;obtain⟨q,_,h⟩:=h;cases h;rfl))
section
variable {X:Ctx} {G N:Nat} {μ:Mu} {σ:St} {w:World} {ops:Array Oper}
theorem pW {run:Run} {ρ:cZ→AV} {op:dH} (hp:op.pure=true):eY X run ρ op σ=gV X.P ρ op σ:=by
 cases op <;> first | rfl | (simp [dH.pure] at hp)
theorem P_ {e:Env} {l:List cZ} (h:(l.all fun o=>kG true (o.ev e).cnd)=true):∀y∈l,(y.ev e).cnd=true:=by
 simp only [List.all_eq_true,fF] at h
 exact h
theorem Ji {o:Oper} {q a b:cZ} {e:Env} {act:Act} {r:AV} (hs:eG G μ σ w)(he:dN G N μ w e act.tmps)(hok:mO X.P G o.op (.pick q a b)=true)
 (h:wz true (q.ev e) (a.ev e) (b.ev e)=some r):Dp X.P G μ σ w (execOp act.eval o) r σ:=by
 cases ho:o.op <;> rw [ho] at hok <;> simp only [mO,Bool.false_eq_true] at hok
 case pick c x y=>
  simp only [Bool.and_eq_true] at hok
  unfold wz at h
  split at h
  ·rename_i z hz
   split at h
   ·rename_i hi
    cases h
    simp only [fF,Bool.and_eq_true,Bool.true_and] at hi
    have hq:=oq (ou hs he hok.1.1) hi.1.1
    rw [hz] at hq
    simp only [aJ] at hq
    refine⟨.value (if z then act.eval x else act.eval y),w,μ,_,?_,.inl rfl,?_,Step.refl hs⟩
    ·simp [execOp,ho,hq,asBool]
    ·simp only [aJ,if_true]
     refine zG (fun ht=>oq (ou hs he hok.1.2) (by simpa [ht] using hi.1.2)) (fun ht=>oq (ou hs he hok.2) (by simpa [ht] using hi.2))
   ·cases h
  ·cases h
 case call c=>
  unfold ny at hok
  split at hok <;> rename_i h1 h2 <;> first | (cases h2;done) | skip
  all_goals simp_all [iL]
theorem guard_false {P:Program} {e:Env} {op:dH} {r:AV} (h:iF P false e op σ=some r):∃v,r= .cd false v:=by
 simp only [iF,Bool.false_eq_true,if_false,Option.some.injEq] at h
 exact⟨_,h.symm⟩
theorem guard_true {o:Oper} {a:dH} {e:Env} {act:Act} {r:AV} (hs:eG G μ σ w)(he:dN G N μ w e act.tmps)(hok:mO X.P G o.op a=true)(hp:a.pure=true)
 (h0:iF X.P true e a σ=some r):Dp X.P G μ σ w (execOp act.eval o) r σ:=by
 have h:jG X.P e a σ=some r:=h0
 by_cases hpk:∃q x y,a= .pick q x y
 ·obtain⟨q,x,y,rfl⟩:=hpk
  exact Ji hs he hok h
 have h':mW true (a.bH.all (fun o=>kG true (o.ev e).cnd)) (gV X.P (fun o=>(o.ev e).val) a σ)=some r:=by
  cases a <;> first | exact h | exact absurd ⟨_,_,_,rfl⟩ hpk
 unfold mW at h'
 split at h'
 ·rename_i q hq
  split at h'
  ·rename_i hi
   cases h'
   obtain⟨r1,σ1⟩:=q
   have hσ:=wX hp hq
   subst hσ
   obtain⟨n,w',μ',v,h1,h2,h3,h4⟩:=Le hs hok (Ia hs he a.bH (P_ hi)) (qW e) hq
   exact⟨n,w',μ',v,h1,h2,by simpa [aJ] using h3,h4⟩
  ·cases h'
 ·simp at h'
theorem qX {run:Run} (hX:X.Ok G)(hrun:jD X.P G run) {o:Oper} {a:AI} {e:Env} {act:Act} {K:Act→World→Prop} {Q:Exit→Act→World→Prop} {r:AV} {σ':St} (hs:eG G μ σ w)(he:dN G N μ w e act.tmps)
 (hok:pV X.P G N ops o a=true) (h:dO X run e a σ=some (r,σ'))
 (hK:∀v w' μ',aJ μ' w' r v→Step G μ σ w μ' σ' w'→K (act.put o.dst v) w'):Wx X.P ops o K Q act w:=by
 simp only [pV,Bool.and_eq_true,beq_iff_eq] at hok
 obtain⟨⟨⟨hd,hN⟩,hg⟩,hop⟩:=hok
 unfold dO at h
 unfold Wx
 split at h
 ·rename_i hgd
  rw [hgd] at hg
  rw [wW he hg (c:=true) rfl,if_pos rfl]
  exact .inl (zM hX hrun hs hop (P9 hs he _) (DJ e) h hK)
 ·rename_i g hgd
  rw [hgd] at hg
  split at h
  ·cases h
  ·rename_i c hc
   rw [wW he hg hc]
   split at h
   ·rename_i hp
    rw [Option.map_eq_some_iff] at h
    obtain⟨q,hq,h⟩:=h;cases h
    cases c with
    | true=>
      rw [if_pos rfl]
      exact .inl (Ib (guard_true hs he hop hp hq) hK)
    | false=>
      rw [if_neg (by simp)]
      obtain⟨v,rfl⟩:=guard_false hq
      exact hK _ _ _ (by simp [aJ]) (Step.refl hs)
   ·cases c with
    | true=>
      rw [if_pos rfl] at h ⊢
      split at h
      ·rename_i ha
       simp only [List.all_eq_true] at ha
       exact .inl (zM hX hrun hs hop (Ia hs he _ ha) (qW e) h hK)
      ·cases h
    | false=>
      simp only [Bool.false_eq_true,if_false,Option.some.injEq,Prod.mk.injEq] at h ⊢
      obtain⟨rfl,rfl⟩:=h
      exact hK _ _ _ ⟨#[],rfl,rfl⟩ (Step.refl hs)
def o9 (ds:List Deferred)(G N:Nat)(μ:Mu)(σ:St)(w:World)(e':Env)(σ':St)(act':Act)(w':World):Prop:=
 ∃ μ',Step G μ σ w μ' σ' w'∧dN G N μ' w' e' act'.tmps∧act'.defers=ds
theorem o_ (act:Act)(d:Option Tmp)(v:Value):(act.put d v).defers=act.defers:=by cases d <;> rfl
theorem Bh {ds:List Deferred} {run:Run} (hX:X.Ok G)(hrun:jD X.P G run) {Q:Exit→Act→World→Prop} :∀(is:List Nat) (l:List AI) (e:Env) (act:Act) (μ:Mu) (σ:St) (w:World) (e':Env) (σ':St),
 wV X.P G N ops is l=true→eG G μ σ w→dN G N μ w e act.tmps→act.defers=ds→oM X run l e σ=some (e',σ')→
 (∀act' w',o9 ds G N μ σ w e' σ' act' w'→Q .normal act' w')→wpOps X.P ops Q is act w
 | [],[],e,act,μ,σ,w,e',σ',_,hs,he,hd,h,hQ=>by
   cases h
   exact hQ _ _ ⟨μ,Step.refl hs,he,hd⟩
 | [],_ :: _,_,_,_,_,_,_,_,hk,_,_,_,_,_=>by simp [wV] at hk
 | _ :: _,[],_,_,_,_,_,_,_,hk,_,_,_,_,_=>by simp [wV] at hk
 | i :: is,a :: l,e,act,μ,σ,w,e',σ',hk,hs,he,hd,h,hQ=>by
   simp only [wV,Bool.and_eq_true] at hk
   obtain⟨h1,h2⟩:=hk
   split at h1
   ·rename_i o ho
    simp only [oM] at h
    split at h
    ·rename_i v σ1 hst
     rw [wpOps]
     simp only [ho]
     refine qX (ops:=ops) hX hrun hs he h1 hst fun u w' μ' hv hstep=>?_
     have hk1:=h1
     simp only [pV,Bool.and_eq_true,beq_iff_eq] at hk1
     have he':=(he.mono hstep.ext hstep.pO)
     refine Bh (ds:=ds) hX hrun is l _ _ μ' σ1 w' e' σ' h2 hstep.oP (by rw [hk1.1.1.1];exact he'.put hk1.1.1.2 hv) (by rw [o_];exact hd) h ?_
     intro act' w'' hl
     obtain⟨A8,hs2,he2,hd2⟩:=hl
     exact hQ _ _ ⟨A8,hstep.trans hs2,he2,hd2⟩
    ·cases h
   ·cases h1
end
end Go.Abs
namespace Go.Abs
def cZ.sl:cZ→List Nat
 | .t n=>[n]
 | .c _=>[]
def AI.slots (a:AI):List Nat:=a.op.bH.flatMap cZ.sl ++ (match a.gd with | some (n,_)=>[n] | none=>[])
def dH.still:dH→Bool
 | .load _ _ | .slc _ _ _ _ | .O3 _ _ _ _ | .TD _ _=>false
 | op=>op.pure
section
variable {X:Ctx} {P:Program} {G N:Nat} {σ:St} {ops:Array Oper}
theorem zO {ρ ρ':cZ→AV} {op:dH} (h:∀y∈op.bH,ρ y=ρ' y):gV P ρ op σ=gV P ρ' op σ:=by
 have hm:∀l:List cZ,(∀y∈l,ρ y=ρ' y)→l.map ρ=l.map ρ':=fun l hl=>List.map_congr_left hl
 have hp:∀l:List (Nat×cZ),(∀y∈l.map (·.2),ρ y=ρ' y)→(l.map fun q=>(q.1,ρ q.2))=l.map fun q=>(q.1,ρ' q.2):=fun l hl=>
  List.map_congr_left fun q hq=>by rw [hl q.2 (List.mem_map.2 ⟨q,hq,rfl⟩)]
 cases op
 case build t ps=>simp only [gV,dH.bH] at h ⊢;rw [hp _ h]
 case gJ t n ps=>simp only [gV,dH.bH] at h ⊢;rw [hp _ h]
 case CW f a c=>
  simp only [gV,dH.bH] at h ⊢
  rw [hm a fun y hy=>h y (by simp [hy]),hm c fun y hy=>h y (by simp [hy])]
 case mn mx xs=>simp only [gV,dH.bH] at h ⊢;rw [hm _ h]
 case Sv t r=>
  simp only [dH.bH] at h
  have h2:r.map ρ=r.map ρ':=by
   cases r with
   | none=>rfl
   | some y=>simp only [Option.map_some];rw [h y (by simp)]
  simp only [gV]
  rw [h2]
 case sl3 t x l hh m=>
  simp only [dH.bH] at h
  have h1:ρ x=ρ' x:=h x (by simp)
  have h2:l.map ρ=l.map ρ':=by
   cases l with
   | none=>rfl
   | some y=>simp only [Option.map_some];rw [h y (by simp)]
  have h3:ρ hh=ρ' hh:=h hh (by simp)
  have h4:ρ m=ρ' m:=h m (by simp)
  simp only [gV]
  rw [h1,h2,h3,h4]
 case slc t x l hh=>
  simp only [dH.bH] at h
  have h1:ρ x=ρ' x:=h x (by simp)
  have h2:l.map ρ=l.map ρ':=by
   cases l with
   | none=>rfl
   | some y=>simp only [Option.map_some];rw [h y (by simp)]
  have h3:hh.map ρ=hh.map ρ':=by
   cases hh with
   | none=>rfl
   | some y=>simp only [Option.map_some];rw [h y (by simp)]
  simp only [gV]
  rw [h1,h2,h3]
 all_goals first
  | rfl
  | (simp only [dH.bH,List.mem_cons,List.not_mem_nil,or_false,forall_eq_or_imp,forall_eq] at h;simp only [gV,h])
theorem uJ {run:Run} {ρ ρ':cZ→AV} {op:dH} (h:∀y∈op.bH,ρ y=ρ' y):eY X run ρ op σ=eY X run ρ' op σ:=by
 have hm:∀l:List cZ,(∀y∈l,ρ y=ρ' y)→l.map ρ=l.map ρ':=fun l hl=>List.map_congr_left hl
 cases op
 case call f args=>simp only [eY,dH.bH] at h ⊢;rw [h f (by simp),hm args fun y hy=>h y (by simp [hy])]
 case inv x m args=>simp only [eY,dH.bH] at h ⊢;rw [h x (by simp),hm args fun y hy=>h y (by simp [hy])]
 all_goals exact zO (P:=X.P) (σ:=σ) h
theorem LC {e e':Env} {y:cZ} (h:∀x∈y.sl,get e x=get e' x):y.ev e=y.ev e':=by
 cases y with
 | c v=>rfl
 | t n=>exact h n (by simp [cZ.sl])
theorem all_congr {l:List cZ} {p q:cZ→Bool} (h:∀y∈l,p y=q y):l.all p=l.all q:=by
 induction l with
 | nil=>rfl
 | cons y l ih=>simp only [List.all_cons];rw [h y (by simp),ih fun z hz=>h z (by simp [hz])]
theorem Bj {c:Bool} {e e':Env} {op:dH} (h:∀y∈op.bH,y.ev e=y.ev e'):iF P c e op σ=iF P c e' op σ:=by
 have hl:mW true (op.bH.all (fun o=>kG true (o.ev e).cnd)) (gV P (fun o=>(o.ev e).val) op σ)=mW true (op.bH.all (fun o=>kG true (o.ev e').cnd)) (gV P (fun o=>(o.ev e').val) op σ):=by
  rw [all_congr (q:=fun o=>kG true (o.ev e').cnd) fun y hy=>by rw [h y hy],zO (ρ':=fun o=>(o.ev e').val) fun y hy=>by rw [h y hy]]
 suffices jG P e op σ=jG P e' op σ by unfold iF;rw [this]
 by_cases hpk:∃q x y,op= .pick q x y
 ·obtain⟨q,x,y,rfl⟩:=hpk
  simp only [jG]
  rw [h q (by simp [dH.bH]),h x (by simp [dH.bH]),h y (by simp [dH.bH])]
 ·cases op <;> first | exact hl | exact absurd ⟨_,_,_,rfl⟩ hpk
theorem jg {run:Run} {e e':Env} {a:AI} (h:∀x∈a.slots,get e x=get e' x):dO X run e a σ=dO X run e' a σ:=by
 have ho:∀y∈a.op.bH,y.ev e=y.ev e':=fun y hy=>LC fun x hx=>h x (by
  simp only [AI.slots,List.mem_append,List.mem_flatMap];exact .inl ⟨y,hy,hx⟩)
 unfold dO
 cases hg:a.gd with
 | none=>exact uJ ho
 | some g=>
   obtain⟨n,w⟩:=g
   have hw:dK e (some (n,w))=dK e' (some (n,w)):=by
    simp only [dK]
    rw [h n (by simp [AI.slots,hg])]
   simp only [hw]
   cases dK e' (some (n,w)) with
   | none=>rfl
   | some c=>
     simp only []
     rw [Bj ho,all_congr (q:=fun o=>(o.ev e').cnd) fun y hy=>by rw [ho y hy],uJ (ρ':=fun o=>(o.ev e').val) fun y hy=>by rw [ho y hy]]
theorem DK {o:Option AV} {v:AV} {σ1:St} (h:o.map (·,σ)=some (v,σ1))(σ':St):o.map (·,σ')=some (v,σ'):=by
 cases o with
 | none=>cases h
 | some q=>cases h;rfl
theorem sJ {ρ:cZ→AV} {op:dH} {σ1:St} {v:AV} (hs:op.still=true)(h:gV P ρ op σ=some (v,σ1))(σ':St):gV P ρ op σ'= some (v,σ'):=by
 cases op <;> simp only [dH.still,dH.pure,Bool.false_eq_true] at hs <;> simp only [gV] at h ⊢
 all_goals first
  | exact DK h σ'
  | (cases h;rfl)
  | (split at h <;> first | (cases h;done) | (cases h;rfl) | exact DK h σ')
theorem pX {op:dH} (h:op.still=true):op.pure=true:=by
 cases op <;> first | exact h | rfl
theorem Jj {c ok:Bool} {q q':Option (AV×St)} (h:q.map (·.1)=q'.map (·.1)):mW c ok q=mW c ok q':=by
 cases q <;> cases q' <;> simp_all [mW]
theorem wY {ρ:cZ→AV} {op:dH} (hs:op.still=true)(σ σ':St):(gV P ρ op σ).map (·.1)=(gV P ρ op σ').map (·.1):=by
 cases h:gV P ρ op σ with
 | some q=>rw [sJ hs (σ1:=q.2) (v:=q.1) h σ'];rfl
 | none=>
   cases h':gV P ρ op σ' with
   | none=>rfl
   | some q=>rw [sJ hs (σ1:=q.2) (v:=q.1) h' σ] at h;cases h
theorem Bl {c:Bool} {e:Env} {op:dH} (hs:op.still=true)(σ σ':St):iF P c e op σ=iF P c e op σ':=by
 have hl:=Jj (c:=true) (ok:=op.bH.all (fun o=>kG true (o.ev e).cnd)) (wY (P:=P) (ρ:=fun o=>(o.ev e).val) hs σ σ')
 suffices jG P e op σ=jG P e op σ' by unfold iF;rw [this]
 by_cases hpk:∃q x y,op= .pick q x y
 ·obtain⟨q,x,y,rfl⟩:=hpk;rfl
 ·cases op <;> first | exact hl | exact absurd ⟨_,_,_,rfl⟩ hpk
theorem pY {run:Run} {e:Env} {a:AI} {σ1:St} {v:AV} (hp:a.op.pure=true)(h:dO X run e a σ=some (v,σ1)):σ1=σ:=by
 unfold dO at h
 split at h
 ·rw [pW hp] at h;exact wX hp h
 ·split at h
  ·cases h
  ·rw [if_pos hp,Option.map_eq_some_iff] at h
   obtain⟨q,_,h⟩:=h;cases h;rfl
theorem DL {run:Run} {e:Env} {a:AI} {σ1:St} {v:AV} (hs:a.op.still=true)(h:dO X run e a σ=some (v,σ1))(σ':St):dO X run e a σ'= some (v,σ'):=by
 have hp:=pX hs
 unfold dO at h ⊢
 split at h
 ·rename_i hg
  rw [pW hp] at h
  rw [pW hp]
  exact sJ hs h σ'
 ·split at h
  ·cases h
  ·rename_i c hc
   rw [if_pos hp,Option.map_eq_some_iff] at h
   obtain⟨q,hq,h⟩:=h;cases h
   simp only [hc,hp,if_true]
   rw [Bl hs σ' σ,hq];rfl
end
structure DI where
 i:Nat
 a:AI
 again:List AI
 zQ:List Nat
def fH (ops:Array Oper)(i:Nat):List Nat:=match ops[i]? with
 | some o=>(o.after.toList.filter (Region.binds .any)).map (·.on)
 | none=>[]
def LD (P:Program)(G N:Nat)(ops:Array Oper)(i:Nat)(a:AI):Bool:=match ops[i]? with
 | some o=>pV P G N ops o a
 | none=>false
def uni:List Nat→List Nat→List Nat
 | [],l=>l
 | j :: js,l=>uni js (if l.contains j then l else j :: l)
def SB (done:List DI):List Nat→List Nat→List Nat
 | [],l=>l
 | j :: js,l=>SB done js (match done.find? (·.i == j) with | some t=>uni t.zQ l | none=>l)
def wZ (P:Program)(G N:Nat)(ops:Array Oper):List (AI×List AI)→List DI→List DI
 | [],done=>done.reverse
 | (a,ag) :: r,done=>match (List.range ops.size).find? (fun i=>!(done.any (·.i == i)) && LD P G N ops i a) with
   | some i=>wZ P G N ops r (⟨i,a,ag,SB done (fH ops i) (fH ops i)⟩ :: done)
   | none=>[]
def DN (P:Program)(G N:Nat)(ops:Array Oper)(T:List DI)(p:Nat)(t:DI):Bool:=
 LD P G N ops t.i t.a &&
 (fH ops t.i).all (fun j=>(T.take p).any (·.i == j)) &&
 t.zQ.all fun j=>(fH ops t.i).contains j || (T.take p).any fun b=>(fH ops t.i).contains b.i && b.zQ.contains j
def nG (P:Program)(G N:Nat)(ops:Array Oper)(T:List DI)(q:Nat)(b:DI)(p:Nat)(a:DI):Bool:=
 b.i != a.i &&
 (match b.a.d with
    | some x=>a.a.d != some x && (!(a.a.slots.contains x) || a.zQ.contains b.i)
    | none=>true) &&
 (match a.a.d with
    | some x=>!(b.a.slots.contains x) || a.zQ.contains b.i
    | none=>true) &&
 (b.a.op.pure || a.a.op.still || a.zQ.contains b.i) &&
 (a.a.op.pure || !b.a.op.pure || b.a.op.still || a.zQ.contains b.i || a.again.any fun b'=>LD P G N ops b.i b' && b'.op.pure && b'.slots.all (fun x=>b.a.slots.contains x && ((T.take p).drop q).all fun r=>r.a.d != some x))
def fJ (P:Program)(G N:Nat)(ops:Array Oper)(T:List DI):Bool:=
 (List.range ops.size).all (fun i=>T.any (·.i == i)) &&
 (List.range T.length).all fun p=>match T[p]? with
    | some t=>DN P G N ops T p t && (List.range p).all fun q=>match T[q]? with
      | some b=>nG P G N ops T q b p t
      | none=>true
    | none=>true
def FH (i:Nat)(k:Nat→Bool):Bool:=match i with
 | 0=>k 0
 | n+1=>k (n+1)
def vK:List Nat→(List Nat→Bool)→Bool
 | [],k=>k []
 | i :: l,k=>FH i fun i'=>vK l fun l'=>k (i' :: l')
def Bo:List DI→(List DI→Bool)→Bool
 | [],k=>k []
 | ⟨i,a,ag,zQ⟩ :: r,k=>FH i fun i'=>vK zQ fun anc'=>Bo r fun r'=>k (⟨i',a,ag,anc'⟩ :: r')
theorem zT (i:Nat)(k:Nat→Bool):FH i k=k i:=by cases i <;> rfl
theorem w_:∀(l:List Nat) (k:List Nat→Bool),vK l k=k l
 | [],_=>rfl
 | i :: l,k=>by simp only [vK,zT,w_ l]
theorem zU:∀(l:List DI) (k:List DI→Bool),Bo l k=k l
 | [],_=>rfl
 | ⟨i,a,ag,zQ⟩ :: r,k=>by simp only [Bo,zT,w_,zU r]
def Ie (P:Program)(G N:Nat)(ops:Array Oper)(l:List (AI×List AI)):Bool:=
 Bo (wZ P G N ops l []) fun T=>fJ P G N ops T && T.length == l.length
theorem zW {P:Program} {G N:Nat} {ops:Array Oper} :∀(l:List (AI×List AI)) (done:List DI),(wZ P G N ops l done).length=l.length+done.length→
 (wZ P G N ops l done).map (fun t=>(t.a,t.again))=done.reverse.map (fun t=>(t.a,t.again)) ++ l
 | [],done,_=>by simp [wZ]
 | (a,ag) :: r,done,h=>by
   unfold wZ at h ⊢
   split
   ·rename_i i hi
    rw [hi] at h
    simp only at h
    rw [zW r _ (by rw [h];simp;omega)]
    simp
   ·rename_i hi
    rw [hi] at h
    simp at h
    omega
end Go.Abs
namespace Go.Abs
structure Tab (P:Program)(G N:Nat)(ops:Array Oper)(T:List DI):Prop where
 all:∀i<ops.size,∃(p:Nat) (t:DI),T[p]? =some t∧t.i=i
 at':∀(p:Nat) (t:DI),T[p]? =some t→∃o,ops[t.i]? =some o∧pV P G N ops o t.a=true
 edge:∀(p:Nat) (t:DI),T[p]? =some t→∀j∈fH ops t.i,∃(q:Nat) (b:DI),q<p∧T[q]? =some b∧b.i=j
 zQ:∀(p:Nat) (t:DI),T[p]? =some t→∀j∈t.zQ,j∈fH ops t.i∨∃(q:Nat) (b:DI),q<p∧T[q]? =some b∧b.i∈fH ops t.i∧j∈b.zQ
 ne:∀(q:Nat) (b:DI) (p:Nat) (a:DI),q<p→T[q]? =some b→T[p]? =some a→b.i≠a.i
 dst:∀(q:Nat) (b:DI) (p:Nat) (a:DI),q<p→T[q]? =some b→T[p]? =some a→∀x,b.a.d=some x→a.a.d≠some x
 raw:∀(q:Nat) (b:DI) (p:Nat) (a:DI),q<p→T[q]? =some b→T[p]? =some a→∀x,b.a.d=some x→x∈a.a.slots→b.i∈a.zQ
 war:∀(q:Nat) (b:DI) (p:Nat) (a:DI),q<p→T[q]? =some b→T[p]? =some a→∀x,a.a.d=some x→x∈b.a.slots→b.i∈a.zQ
 eff:∀(q:Nat) (b:DI) (p:Nat) (a:DI),q<p→T[q]? =some b→T[p]? =some a→b.a.op.pure=false→a.a.op.still=false→b.i∈a.zQ
 again:∀(q:Nat) (b:DI) (p:Nat) (a:DI),q<p→T[q]? =some b→T[p]? =some a→a.a.op.pure=false→b.a.op.pure=true→b.a.op.still=false→b.i∉a.zQ→
  ∃ b'∈a.again,(∃o,ops[b.i]? =some o∧pV P G N ops o b'= true)∧b'.op.pure=true∧∀x∈b'.slots,x∈b.a.slots∧∀(r:Nat) (c:DI),q≤r→r<p→T[r]? =some c→c.a.d≠some x
theorem zX {P:Program} {G N:Nat} {ops:Array Oper} {i:Nat} {a:AI} (h:LD P G N ops i a=true):∃o,ops[i]? =some o∧pV P G N ops o a=true:=by
 unfold LD at h
 split at h
 ·rename_i o ho;exact⟨o,ho,h⟩
 ·cases h
theorem DR {α:Type} {l:List α} {p:Nat} {x:α} (h:x∈l.take p):∃q,q<p∧l[q]? =some x:=by
 obtain⟨q,hq⟩:=List.getElem?_of_mem h
 rw [List.getElem?_take] at hq
 split at hq
 ·exact⟨q,by assumption,hq⟩
 ·cases hq
theorem FI {P:Program} {G N:Nat} {ops:Array Oper} {T:List DI} (h:fJ P G N ops T=true):Tab P G N ops T:=by
 simp only [fJ,Bool.and_eq_true,List.all_eq_true,List.mem_range,List.any_eq_true,beq_iff_eq] at h
 obtain⟨h1,h2⟩:=h
 have one:∀(p:Nat) (t:DI),T[p]? =some t→DN P G N ops T p t=true:=by
  intro p t ht
  have:=h2 p (dF ht)
  rw [ht] at this
  simp only [Bool.and_eq_true] at this
  exact this.1
 have pair:∀(q:Nat) (b:DI) (p:Nat) (a:DI),q<p→T[q]? =some b→T[p]? =some a→nG P G N ops T q b p a=true:=by
  intro q b p a sK hb ha
  have:=h2 p (dF ha)
  rw [ha] at this
  simp only [Bool.and_eq_true,List.all_eq_true,List.mem_range] at this
  have:=this.2 q sK
  rw [hb] at this
  exact this
 refine⟨?_,?_,?_,?_,?_,?_,?_,?_,?_,?_⟩
 ·intro i hi
  obtain⟨t,ht,hti⟩:=h1 i hi
  obtain⟨p,hp⟩:=List.getElem?_of_mem ht
  exact⟨p,t,hp,hti⟩
 ·intro p t ht
  have:=one p t ht
  simp only [DN,Bool.and_eq_true] at this
  exact zX this.1.1
 ·intro p t ht j hj
  have:=one p t ht
  simp only [DN,Bool.and_eq_true,List.all_eq_true,List.any_eq_true,beq_iff_eq] at this
  obtain⟨b,hb,hbj⟩:=this.1.2 j hj
  obtain⟨q,hq,TW⟩:=DR hb
  exact⟨q,b,hq,TW,hbj⟩
 ·intro p t ht j hj
  have:=one p t ht
  simp only [DN,Bool.and_eq_true,List.all_eq_true,List.any_eq_true,beq_iff_eq,Bool.or_eq_true,List.contains_iff_mem] at this
  rcases this.2 j hj with h | ⟨b,hb,hbj⟩
  ·exact .inl h
  ·obtain⟨q,hq,TW⟩:=DR hb
   exact .inr ⟨q,b,hq,TW,hbj.1,hbj.2⟩
 ·intro q b p a sK hb ha
  have:=pair q b p a sK hb ha
  simp only [nG,Bool.and_eq_true,bne_iff_ne] at this
  exact this.1.1.1.1
 ·intro q b p a sK hb ha x hx
  have:=pair q b p a sK hb ha
  simp only [nG,Bool.and_eq_true,hx,bne_iff_ne] at this
  exact this.1.1.1.2.1
 ·intro q b p a sK hb ha x hx hs
  have:=pair q b p a sK hb ha
  simp only [nG,Bool.and_eq_true,hx,Bool.or_eq_true,Bool.not_eq_true',List.contains_iff_mem] at this
  rcases this.1.1.1.2.2 with h | h
  ·rw [List.contains_eq_mem] at h;simp at h;exact absurd hs h
  ·exact h
 ·intro q b p a sK hb ha x hx hs
  have:=pair q b p a sK hb ha
  simp only [nG,Bool.and_eq_true,hx,Bool.or_eq_true,Bool.not_eq_true',List.contains_iff_mem] at this
  rcases this.1.1.2 with h | h
  ·rw [List.contains_eq_mem] at h;simp at h;exact absurd hs h
  ·exact h
 ·intro q b p a sK hb ha hx hs
  have:=pair q b p a sK hb ha
  simp only [nG,Bool.and_eq_true,hx,hs,Bool.or_eq_true,List.contains_iff_mem,Bool.false_eq_true,false_or] at this
  exact this.1.2
 ·intro q b p a sK hb ha hx hs1 hs hn
  have:=pair q b p a sK hb ha
  simp only [nG,Bool.and_eq_true,hx,hs,hs1,Bool.or_eq_true,List.contains_iff_mem,Bool.false_eq_true,false_or,Bool.not_true,or_false,hn,List.any_eq_true,List.all_eq_true,bne_iff_ne] at this
  obtain⟨b',hb',⟨h3,h4⟩,h5⟩:=this.2
  refine⟨b',hb',zX h3,h4,fun x hx=>⟨(h5 x hx).1,fun r c hr VX hc=>(h5 x hx).2 c ?_⟩⟩
  refine List.mem_of_getElem? (i:=r - q) ?_
  rw [List.getElem?_drop,List.getElem?_take,if_pos (by omega),show q+(r - q)=r by omega]
  exact hc
end Go.Abs
namespace Go.Abs
theorem qY {d:Nat} {v:AV} {e:Env} :get (put (some d) v e) d=v:=by simp [put,get]
theorem iM {d:Option Nat} {v:AV} {e:Env} {x:Nat} (h:d≠some x):get (put d v e) x=get e x:=by
 cases d with
 | none=>rfl
 | some d=>
   have hne:¬d=x:=fun he=>h (by rw [he])
   simp [put,get,hne]
theorem DT {X:Ctx} {run:Run} :∀(l:List (AI×List AI)) (e:Env) (σ:St) (e':Env) (σ':St),r_ X run l e σ=some (e',σ')→
 ∃ (E:Nat→Env) (S:Nat→St) (V:Nat→AV),E 0=e∧S 0=σ∧E l.length=e'∧S l.length=σ'∧
   ∀ (p:Nat) (a:AI) (ag:List AI),l[p]? =some (a,ag)→dO X run (E p) a (S p)=some (V p,S (p+1))∧E (p+1)=put a.d (V p) (E p)∧∀b∈ag,pJ X (E p) (S (p+1)) b=true
 | [],e,σ,e',σ',h=>by
   cases h
   exact⟨fun _=>e,fun _=>σ,fun _=>.u,rfl,rfl,rfl,rfl,fun p a ag hp=>by simp at hp⟩
 | (a,ag) :: l,e,σ,e',σ',h=>by
   simp only [r_] at h
   split at h
   ·rename_i v σ1 hst
    split at h
    ·rename_i hag
     obtain⟨E,S,V,h1,h2,h3,h4,h5⟩:=DT l _ _ _ _ h
     refine⟨fun | 0=>e | p+1=>E p,fun | 0=>σ | p+1=>S p,fun | 0=>v | p+1=>V p,rfl,rfl,h3,h4,?_⟩
     intro p a' ag' hp
     cases p with
     | zero=>
       simp only [List.getElem?_cons_zero,Option.some.injEq,Prod.mk.injEq] at hp
       obtain⟨rfl,rfl⟩:=hp
       refine⟨by simpa [h2] using hst,h1,?_⟩
       intro b hb
       simp only [List.all_eq_true] at hag
       simpa [h2] using hag b hb
     | succ p=>
       exact h5 p a' ag' (by simpa using hp)
    ·cases h
   ·cases h
section
variable {X:Ctx} {G N:Nat} {ops:Array Oper} {T:List DI}
structure Runs (X:Ctx)(run:Run)(T:List DI)(E:Nat→Env)(S:Nat→St)(V:Nat→AV):Prop where
 step:∀(p:Nat) (t:DI),T[p]? =some t→dO X run (E p) t.a (S p)=some (V p,S (p+1))
 env:∀(p:Nat) (t:DI),T[p]? =some t→E (p+1)=put t.a.d (V p) (E p)
 again:∀(p:Nat) (t:DI),T[p]? =some t→∀b∈t.again,pJ X (E p) (S (p+1)) b=true
variable {run:Run} {E:Nat→Env} {S:Nat→St} {V:Nat→AV}
theorem jR (hR:Runs X run T E S V) {x:Nat} :∀(p q:Nat),q≤p→p≤T.length→(∀(r:Nat) (c:DI),q≤r→r<p→T[r]? =some c→c.a.d≠some x)→get (E p) x=get (E q) x
 | 0,q,hq,_,_=>by rw [show q=0 by omega]
 | p+1,q,hq,hp,h=>by
   by_cases sK:q=p+1
   ·rw [sK]
   ·have ht:T[p]? =some T[p]:=List.getElem?_eq_getElem (by omega)
    rw [hR.env p _ ht,iM (h p _ (by omega) (by omega) ht)]
    exact jR hR p q (by omega) (by omega) fun r c h1 h2 h3=>h r c h1 (by omega) h3
theorem sN (hT:Tab X.P G N ops T)(hR:Runs X run T E S V) {x q p:Nat} {t:DI} (hq:T[q]? =some t)(hx:t.a.d=some x)(sK:q<p)(hp:p≤T.length):get (E p) x=V q:=by
 rw [jR hR p (q+1) (by omega) hp fun r c h1 h2 h3=>hT.dst q t r c (by omega) hq h3 x hx,hR.env q t hq,hx,qY]
theorem jS (hR:Runs X run T E S V):∀(p q:Nat),q≤p→p≤T.length→(∀(r:Nat) (c:DI),q≤r→r<p→T[r]? =some c→c.a.op.pure=true)→S p=S q
 | 0,q,hq,_,_=>by rw [show q=0 by omega]
 | p+1,q,hq,hp,h=>by
   by_cases sK:q=p+1
   ·rw [sK]
   ·have ht:T[p]? =some T[p]:=List.getElem?_eq_getElem (by omega)
    rw [pY (h p _ (by omega) (by omega) ht) (hR.step p _ ht)]
    exact jS hR p q (by omega) (by omega) fun r c h1 h2 h3=>h r c h1 (by omega) h3
def Closed (ops:Array Oper)(L:Nat→Prop):Prop:=∀i,L i→∀j∈fH ops i,L j
theorem xk (hT:Tab X.P G N ops T) {L:Nat→Prop} (hc:Closed ops L):∀(p:Nat) (t:DI),T[p]? =some t→(∀j∈fH ops t.i,L j)→∀j∈t.zQ,L j:=by
 intro p
 induction p using Nat.strongRecOn with
 | _ p ih=>
   intro t ht hb j hj
   rcases hT.zQ p t ht j hj with h | ⟨q,b,hq,TW,hbi,hjb⟩
   ·exact hb j h
   ·exact ih q hq b TW (hc _ (hb _ hbi)) j hjb
structure At (X:Ctx)(G N:Nat)(ops:Array Oper)(T:List DI)(E:Nat→Env)(S:Nat→St)(V:Nat→AV)(L:Nat→Prop)(c:Nat)(ec:Env):Prop where
 closed:Closed ops L
 le:c≤T.length
 cut:∀(q:Nat) (t:DI),T[q]? =some t→t.a.op.pure=false→(q<c↔L t.i)
 wrote:∀(q:Nat) (t:DI) (x:Nat),T[q]? =some t→L t.i→t.a.d=some x→get ec x=V q
 kept:∀(x:Nat),(∀(q:Nat) (t:DI),T[q]? =some t→L t.i→t.a.d≠some x)→get ec x=get (E 0) x
variable {L:Nat→Prop} {c:Nat} {ec:Env}
theorem pos_eq (hT:Tab X.P G N ops T) {p q:Nat} {t u:DI} (hp:T[p]? =some t)(hq:T[q]? =some u)(h:t.i=u.i):p=q:=by
 rcases Nat.lt_trichotomy p q with hl | hl | hl
 ·exact absurd h (hT.ne p t q u hl hp hq)
 ·exact hl
 ·exact absurd h.symm (hT.ne q u p t hl hq hp)
theorem xq (hT:Tab X.P G N ops T) {p q:Nat} {t u:DI} {x:Nat} (hp:T[p]? =some t)(hq:T[q]? =some u)(h:t.a.d=some x)(k:u.a.d=some x):p=q:=by
 rcases Nat.lt_trichotomy p q with hl | hl | hl
 ·exact absurd k (hT.dst p t q u hl hp hq x h)
 ·exact hl
 ·exact absurd h (hT.dst q u p t hl hq hp x k)
theorem At.agree (hT:Tab X.P G N ops T)(hR:Runs X run T E S V)(h:At X G N ops T E S V L c ec) {p:Nat} {t:DI} (hp:T[p]? =some t)(hn:¬L t.i)(hb:∀j∈fH ops t.i,L j) :
 ∀ x∈t.a.slots,get ec x=get (E p) x:=by
 intro x hx
 have hlen:p<T.length:=dF hp
 by_cases hw:∃(q:Nat) (u:DI),T[q]? =some u∧u.a.d=some x
 ·obtain⟨q,u,hq,hu⟩:=hw
  rcases Nat.lt_trichotomy q p with hl | hl | hl
  ·have hL:=xk hT h.closed p t hp hb _ (hT.raw q u p t hl hq hp x hu hx)
   rw [h.wrote q u x hq hL hu,sN hT hR hq hu hl (by omega)]
  ·subst hl
   rw [hp] at hq;cases hq
   rw [h.kept x fun r v hr hv hd=>by
        have hpr:=xq hT hp hr hu hd
        subst hpr
        rw [hp] at hr;cases hr
        exact hn hv]
   rw [jR hR q 0 (by omega) (by omega) fun r v _ h2 hr hd=>by have:=xq hT hp hr hu hd;omega]
  ·have hA:=hT.war p t q u hl hp hq x hu hx
   have hnu:¬L u.i:=fun hL=>hn (xk hT h.closed q u hq (h.closed _ hL) _ hA)
   rw [h.kept x fun r v hr hv hd=>by
        have:=xq hT hq hr hu hd
        subst this
        rw [hq] at hr;cases hr
        exact hnu hv]
   rw [jR hR p 0 (by omega) (by omega) fun r v _ h2 hr hd=>by have:=xq hT hq hr hu hd;omega]
 ·rw [h.kept x fun r v hr _ hd=>hw ⟨r,v,hr,hd⟩]
  rw [jR hR p 0 (by omega) (by omega) fun r v _ _ hr hd=>hw ⟨r,v,hr,hd⟩]
theorem DU (T:List DI)(p:Nat):∀c:Nat,(∀(r:Nat) (v:DI),p≤r→r<c→T[r]? =some v→v.a.op.pure=true)∨
 ∃ (q:Nat) (u:DI),p≤q∧q<c∧T[q]? =some u∧u.a.op.pure=false∧∀(r:Nat) (v:DI),q<r→r<c→T[r]? =some v→v.a.op.pure=true
 | 0=>.inl fun r v _ h=>by omega
 | c+1=>by
   by_cases hc:∃u,T[c]? =some u∧u.a.op.pure=false∧p≤c
   ·obtain⟨u,hu,hpu,hpc⟩:=hc
    exact .inr ⟨c,u,hpc,by omega,hu,hpu,fun r v h1 h2=>by omega⟩
   ·have hc':∀(v:DI),p≤c→T[c]? =some v→v.a.op.pure=true:=fun v h1 h2=>by
     cases hh:v.a.op.pure with
     | true=>rfl
     | false=>exact absurd ⟨v,h2,hh,h1⟩ hc
    rcases DU T p c with h | ⟨q,u,h1,h2,h3,h4,h5⟩
    ·refine .inl fun r v hr hrc hv=>?_
     by_cases TY:r=c
     ·subst TY;exact hc' v hr hv
     ·exact h r v hr (by omega) hv
    ·refine .inr ⟨q,u,h1,by omega,h3,h4,fun r v hr hrc hv=>?_⟩
     by_cases TY:r=c
     ·subst TY;exact hc' v (by omega) hv
     ·exact h5 r v hr (by omega) hv
theorem At.next (hT:Tab X.P G N ops T)(hR:Runs X run T E S V)(h:At X G N ops T E S V L c ec) {p:Nat} {t:DI} (hp:T[p]? =some t)(hn:¬L t.i)(hb:∀j∈fH ops t.i,L j) {o:Oper} (ho:ops[t.i]? =some o) :
 ∃ run' a' c',(run'= run∨run'= fun _ _ _=>none)∧pV X.P G N ops o a'= true∧dO X run' ec a' (S c)=some (V p,S c')∧c'≤T.length∧
   ∀ (q:Nat) (u:DI),T[q]? =some u→u.a.op.pure=false→(q<c'↔L u.i∨q=p):=by
 have hlen:p<T.length:=dF hp
 have hok:pV X.P G N ops o t.a=true:=by
  obtain⟨o',ho',h'⟩:=hT.at' p t hp
  rw [ho] at ho';cases ho';exact h'
 have hag:=h.agree hT hR hp hn hb
 have Wy:=xk hT h.closed p t hp hb
 have hst:=hR.step p t hp
 have Ig:t.a.op.still=false→c≤p→S p=S c:=fun hs hcp=>jS hR p c hcp (by omega) fun r u h1 h2 hr=>by
  cases hpu:u.a.op.pure with
  | true=>rfl
  | false=>
    have hL:=Wy _ (hT.eff r u p t h2 hr hp hpu hs)
    have:=(h.cut r u hr hpu).2 hL
    omega
 cases hpure:t.a.op.pure with
 | false=>
   have hs:t.a.op.still=false:=by
    cases hh:t.a.op.still with
    | false=>rfl
    | true=>rw [pX hh] at hpure;cases hpure
   have hcp:c≤p:=by
    apply Nat.le_of_not_lt
    intro hlt
    exact hn ((h.cut p t hp hpure).1 hlt)
   refine⟨run,t.a,p+1,.inl rfl,hok,?_,by omega,?_⟩
   ·rw [jg hag,←Ig hs hcp];exact hst
   ·intro q u hq hpu
    constructor
    ·intro hlt
     by_cases sK:q=p
     ·exact .inr sK
     ·exact .inl (Wy _ (hT.eff q u p t (by omega) hq hp hpu hs))
    ·intro hL
     rcases hL with hL | hL
     ·apply Nat.lt_of_not_le
      intro hle
      have hA:=hT.eff p t q u (by omega) hp hq hpure (by
       cases hh:u.a.op.still with
       | false=>rfl
       | true=>rw [pX hh] at hpu;cases hpu)
      exact hn (xk hT h.closed q u hq (h.closed _ hL) _ hA)
     ·omega
 | true=>
   have hcut:∀(q:Nat) (u:DI),T[q]? =some u→u.a.op.pure=false→(q<c↔L u.i∨q=p):=by
    intro q u hq hpu
    rw [h.cut q u hq hpu]
    constructor
    ·exact .inl
    ·rintro (h | h)
     ·exact h
     ·subst h;rw [hp] at hq;cases hq;rw [hpure] at hpu;cases hpu
   cases hs:t.a.op.still with
   | true=>exact⟨run,t.a,c,.inl rfl,hok,by rw [jg hag];exact DL hs hst _,h.le,hcut⟩
   | false=>
     have hSp:S (p+1)=S p:=pY hpure hst
     by_cases hcp:c≤p
     ·refine⟨run,t.a,c,.inl rfl,hok,?_,h.le,hcut⟩
      rw [jg hag,←Ig hs hcp,hst,hSp]
     ·
        rcases DU T p c with hex | ⟨q,u,h1,h2,hq,hpu,hlast⟩
        rotate_left
        ·skip
         have sK:p<q:=by
          rcases Nat.lt_or_ge p q with hl | hl
          ·exact hl
          ·have:q=p:=by omega
           subst this;rw [hp] at hq;cases hq;rw [hpure] at hpu;cases hpu
         have hLu:=(h.cut q u hq hpu).1 h2
         have hnA:t.i∉u.zQ:=fun hA=>hn (xk hT h.closed q u hq (h.closed _ hLu) _ hA)
         obtain⟨b',hb',⟨o',ho',hok'⟩,hbp,hsl⟩:=hT.again p t q u sK hp hq hpu hpure hs hnA
         rw [ho] at ho';cases ho'
         have Qa:=hR.again q u hq b' hb'
         have hSc:S c=S (q+1):=jS hR c (q+1) (by omega) h.le fun r v h3 h4 hr=>hlast r v (by omega) h4 hr
         have hd:b'.d=t.a.d:=by
          simp only [pV,Bool.and_eq_true,beq_iff_eq] at hok hok'
          rw [←hok.1.1.1,←hok'.1.1.1]
         refine⟨fun _ _ _=>none,b',c,.inr rfl,hok',?_,h.le,hcut⟩
         unfold pJ at Qa
         split at Qa
         ·rename_i d v σ1 hbd hstep
          have hv:=AV.mQ _ _ Qa
          have hσ1:=pY hbp hstep
          subst hσ1
          rw [hd] at hbd
          rw [sN hT hR hp hbd sK (by have:=dF hq;omega)] at hv
          rw [hSc,jg (e':=E q),hstep,hv]
          intro x hx
          rw [hag x (hsl x hx).1]
          rw [jR hR q p (by omega) (by have:=dF hq;omega) fun r v h3 h4 hr=>(hsl x hx).2 r v h3 h4 hr]
         ·cases Qa
        ·have hSc:S c=S p:=jS hR c p (by omega) h.le hex
         refine⟨run,t.a,c,.inl rfl,hok,?_,h.le,hcut⟩
         rw [jg hag,hSc,hst,hSp]
theorem sO {listed:Array Bool} {i:Nat} (h:i<listed.size):listed.getD i true=listed.getD i false:=by
 rw [Array.getD_eq_getD_getElem?,Array.getD_eq_getD_getElem?,Array.getElem?_eq_getElem h];rfl
theorem zY {i j:Nat} {o:Oper} (ho:ops[i]? =some o):j∈fH ops i↔∃e∈o.after,Region.binds .any e=true∧e.on=j:=by
 unfold fH
 rw [ho]
 simp only [List.mem_map,List.mem_filter,Array.mem_toList_iff]
 constructor
 ·rintro ⟨e,⟨h1,h2⟩,h3⟩;exact⟨e,h1,h2,h3⟩
 ·rintro ⟨e,h1,h2,h3⟩;exact⟨e,⟨h1,h2⟩,h3⟩
def Qb (n:Nat)(listed:Array Bool):List Nat:=(List.range n).filter fun i=>!listed.getD i false
theorem Qc {n i:Nat} {listed:Array Bool} (hi:i<n)(hs:listed.size=n)(hl:listed.getD i false=false):(Qb n (listed.setIfInBounds i true)).length<(Qb n listed).length:=by
 have he:Qb n (listed.setIfInBounds i true)=(Qb n listed).filter (fun j=>j != i):=by
  unfold Qb
  rw [List.filter_filter]
  apply List.filter_congr
  intro j hj
  by_cases hji:i=j
  ·subst hji
   simp [Array.getElem?_setIfInBounds,hs,hi]
  ·rw [getD_set_ne false hji]
   simp [Ne.symm hji]
 rw [he,List.length_filter_lt_length_iff_exists]
 refine⟨i,?_,by simp⟩
 unfold Qb
 rw [List.mem_filter]
 exact⟨List.mem_range.2 hi,by rw [hl];rfl⟩
theorem Qd {ds:List Deferred} (hX:X.Ok G)(hrun:jD X.P G run)(hT:Tab X.P G N ops T)(hR:Runs X run T E S V) {Q:Exit→Act→World→Prop} {μ0:Mu} {xu:St} {w0:World}
 (hQ:∀act' w',o9 ds G N μ0 xu w0 (E T.length) (S T.length) act' w'→Q .normal act' w') :
 ∀ (fuel:Nat) (listed:Array Bool) (c:Nat) (ec:Env) (act:Act) (w:World) (μ:Mu),(Qb ops.size listed).length≤fuel→listed.size=ops.size→(∀i,listed.getD i false=true→i<ops.size)→
   At X G N ops T E S V (fun i=>listed.getD i false=true) c ec→Step G μ0 xu w0 μ (S c) w→dN G N μ w ec act.tmps→act.defers=ds→
   wpAny X.P .any ops Q fuel listed act w:=by
 have hdone:∀(listed:Array Bool) (c:Nat) (ec:Env) (act:Act) (w:World) (μ:Mu),listed.size=ops.size→
  At X G N ops T E S V (fun i=>listed.getD i false=true) c ec→Step G μ0 xu w0 μ (S c) w→dN G N μ w ec act.tmps→act.defers=ds→Region.ready .any ops listed=[]→Q .normal act w:=by
  intro listed c ec act w μ hsz hat hst hen hdf hr
  have hall:∀(p:Nat) (t:DI),T[p]? =some t→listed.getD t.i false=true:=by
   intro p
   induction p using Nat.strongRecOn with
   | _ p ih=>
     intro t ht
     cases hl:listed.getD t.i false with
     | true=>rfl
     | false=>
       exfalso
       obtain⟨o,ho,hok⟩:=hT.at' p t ht
       have hlt:t.i<ops.size:=(Array.getElem?_eq_some_iff.1 ho).1
       have:t.i∈Region.ready .any ops listed:=by
         rw [mem_ready]
         refine⟨by rw [sO (by omega)];exact hl,o,ho,fun e he hb=>?_⟩
         obtain⟨q,b,hq,TW,hbi⟩:=hT.edge p t ht e.on ((zY ho).2 ⟨e,he,hb,rfl⟩)
         rw [←hbi];exact ih q hq b TW
       rw [hr] at this;cases this
  refine hQ _ _ ⟨μ,?_,⟨hen.size,fun x=>?_⟩,hdf⟩
  ·have:S T.length=S c:=jS hR _ c hat.le (Nat.le_refl _) fun r v h1 h2 hv=>by
        cases hh:v.a.op.pure with
        | true=>rfl
        | false=>have:=(hat.cut r v hv hh).2 (hall r v hv);omega
   rw [this];exact hst
  ·have hx:get ec x=get (E T.length) x:=by
        by_cases hw:∃(q:Nat) (u:DI),T[q]? =some u∧u.a.d=some x
        ·obtain⟨q,u,hq,hu⟩:=hw
         rw [hat.wrote q u x hq (hall q u hq) hu,sN hT hR hq hu (dF hq) (Nat.le_refl _)]
        ·rw [hat.kept x fun r v hr _ hd=>hw ⟨r,v,hr,hd⟩]
         rw [jR hR T.length 0 (by omega) (by omega) fun r v _ _ hr hd=>hw ⟨r,v,hr,hd⟩]
   rw [←hx];exact hen.rel x
 intro fuel
 induction fuel with
 | zero=>
   intro listed c ec act w μ hfu hsz hlt hat hst hen hdf
   have hr:Region.ready .any ops listed=[]:=by
    apply List.eq_nil_iff_forall_not_mem.2
    intro i hi
    obtain⟨h0,o,ho,_⟩:=mem_ready.1 hi
    have hil:i<ops.size:=(Array.getElem?_eq_some_iff.1 ho).1
    rw [sO (by omega)] at h0
    have:i∈Qb ops.size listed:=List.mem_filter.2 ⟨List.mem_range.2 hil,by rw [h0];rfl⟩
    have:=List.length_pos_of_mem this
    omega
   exact⟨hr,hdone listed c ec act w μ hsz hat hst hen hdf hr⟩
 | succ fuel ih=>
   intro listed c ec act w μ hfu hsz hlt hat hst hen hdf
   refine⟨hdone listed c ec act w μ hsz hat hst hen hdf,fun i hi=>?_⟩
   obtain⟨h0,o,ho,hbind⟩:=mem_ready.1 hi
   have hil:i<ops.size:=(Array.getElem?_eq_some_iff.1 ho).1
   rw [sO (by omega)] at h0
   obtain⟨p,t,hp,hti⟩:=hT.all i hil
   subst hti
   have hb:∀j∈fH ops t.i,listed.getD j false=true:=fun j hj=>by
    obtain⟨e,he,hbe,rfl⟩:=(zY ho).1 hj
    exact hbind e he hbe
   have hn:¬listed.getD t.i false=true:=by rw [h0];simp
   obtain⟨run',a',c',hrun',hok',hstep,hle',hcut'⟩:=hat.next hT hR hp hn hb ho
   have hro:jD X.P G run':=by
    rcases hrun' with rfl | rfl
    ·exact hrun
    ·intro f args σ r σ' h;cases h
   unfold wpOp
   rw [ho]
   refine qX (ops:=ops) hX hro hst.oP hen hok' hstep fun v w' μ' hv hs'=>?_
   have hka:=hok'
   simp only [pV,Bool.and_eq_true,beq_iff_eq] at hka
   have hdt:t.a.d=o.dst:=by
    obtain⟨o',ho',h'⟩:=hT.at' p t hp
    rw [ho] at ho';cases ho'
    simp only [pV,Bool.and_eq_true,beq_iff_eq] at h'
    exact h'.1.1.1.symm
   have hget:∀j,(listed.setIfInBounds t.i true).getD j false=true↔listed.getD j false=true∨j=t.i:=by
    intro j
    by_cases hj:t.i=j
    ·subst hj;simp [Array.getElem?_setIfInBounds,hsz,hil]
    ·rw [getD_set_ne false hj];simp [Ne.symm hj]
   refine ih _ c' (put o.dst (V p) ec) _ w' μ' ?_ (by simpa using hsz) ?_ ⟨?_,hle',?_,?_,?_⟩ (hst.trans hs') ?_ (by rw [o_];exact hdf)
   ·have:=Qc (n:=ops.size) hil hsz h0
    omega
   ·intro j hj
    rcases (hget j).1 hj with h | h
    ·exact hlt j h
    ·rw [h];exact hil
   ·intro j hj k hk
    rw [hget] at hj ⊢
    rcases hj with hj | hj
    ·exact .inl (hat.closed j hj k hk)
    ·rw [hj] at hk;exact .inl (hb k hk)
   ·intro q u hq hpu
    rw [hcut' q u hq hpu,hget]
    constructor
    ·rintro (h | h)
     ·exact .inl h
     ·subst h;rw [hp] at hq;cases hq;exact .inr rfl
    ·rintro (h | h)
     ·exact .inl h
     ·exact .inr (pos_eq hT hq hp h)
   ·intro q u x hq hu hx
    rw [hget] at hu
    by_cases sK:q=p
    ·subst sK;rw [hp] at hq;cases hq
     rw [←hdt,hx,qY]
    ·rw [iM fun hd=>sK (xq hT hq hp hx (by rw [hdt];exact hd))]
     rcases hu with hu | hu
     ·exact hat.wrote q u x hq hu hx
     ·exact absurd (pos_eq hT hq hp hu) sK
   ·intro x hx
    rw [iM fun hd=>hx p t hp ((hget _).2 (.inr rfl)) (by rw [hdt];exact hd)]
    exact hat.kept x fun q u hq hu=>hx q u hq ((hget _).2 (.inl hu))
   ·have he':=hen.mono hs'.ext hs'.pO
    have hN:H_ N o.dst=true:=by rw [hka.1.1.1];exact hka.1.1.2
    exact he'.put hN hv
end
end Go.Abs
namespace Go.Abs
theorem Ih {ds:List Deferred} {X:Ctx} {G N:Nat} {run:Run} (hX:X.Ok G)(hrun:jD X.P G run)(hf:X.P.follows .mixedOrders=true) {id:Nat} {ops:Array Oper} {l:List (AI×List AI)} {Q:Exit→Act→World→Prop}
 {e:Env} {act:Act} {μ:Mu} {σ:St} {w:World} {e':Env} {σ':St} (hok:Ie X.P G N ops l=true) (hs:eG G μ σ w) (he:dN G N μ w e act.tmps) (hd:act.defers=ds) (h:r_ X run l e σ=some (e',σ'))
 (hQ:∀act' w',o9 ds G N μ σ w e' σ' act' w'→Q .normal act' w'):(Code.region id ops true).wp X.P Q act w:=by
 simp only [Ie,zU,Bool.and_eq_true,beq_iff_eq] at hok
 obtain⟨hT,hlen⟩:=hok
 have hmap:=zW (P:=X.P) (G:=G) (N:=N) (ops:=ops) l [] (by simpa using hlen)
 simp only [List.reverse_nil,List.map_nil,List.nil_append] at hmap
 have hT':=FI hT
 generalize wZ X.P G N ops l []=T at *
 obtain⟨E,S,V,h1,h2,h3,h4,h5⟩:=DT l e σ e' σ' h
 have hR:Runs X run T E S V:=by
  have hg:∀(p:Nat) (t:DI),T[p]? =some t→l[p]? =some (t.a,t.again):=by
   intro p t ht
   rw [←hmap,List.getElem?_map,ht];rfl
  exact⟨fun p t ht=>(h5 p _ _ (hg p t ht)).1,fun p t ht=>(h5 p _ _ (hg p t ht)).2.1,fun p t ht=>(h5 p _ _ (hg p t ht)).2.2⟩
 refine wp_region_any hf (Qd hX hrun hT' hR (μ0:=μ) (xu:=σ) (w0:=w) ?_ ops.size _ 0 e act _ μ ?_ (by simp) ?_ ?_ (by rw [h2];exact Step.drew hs) ?_ hd)
 ·rw [hlen,h3,h4];exact hQ
 ·unfold Qb
  exact Nat.le_trans (List.length_filter_le _ _) (by simp)
 ·intro i hi
  rw [Array.getD_eq_getD_getElem?,Array.getElem?_replicate] at hi
  split at hi
  ·assumption
  ·cases hi
 ·have hno:∀i,¬(Array.replicate ops.size false).getD i false=true:=by
   intro i hi
   rw [Array.getD_eq_getD_getElem?,Array.getElem?_replicate] at hi
   split at hi <;> cases hi
  refine⟨fun i hi=>absurd hi (hno i),Nat.zero_le _,fun q t _ _=>?_,fun q t x _ hl=>absurd hl (hno _),fun x _=>by rw [h1]⟩
  constructor
  ·intro hl;omega
  ·intro hl;exact absurd hl (hno _)
 ·exact he.mono (Mu.le_refl μ) (fun _ _ _ q=>q)
def AC.u_:AC→AC
 | .cut l b=>match l with
   | d :: _=>if d=1000000 then b else .cut l b
   | []=>.cut l b
 | b=>b
theorem AC.oC (b:AC):b.u_=b∨∃l,b= .cut l b.u_:=by
 cases b with
 | cut l b=>
   cases l with
   | nil=>exact .inl rfl
   | cons d l=>
     simp only [AC.u_]
     split
     ·exact .inr ⟨d :: l,rfl⟩
     ·exact .inl rfl
 | _=>exact .inl rfl
def vM (P:Program)(G N:Nat):Code→AC→Bool
 | .scope c,a=>vM P G N c a
 | .skip,.skip=>true
 | .label _,.skip=>true
 | .region _ ops false,.reg l=>wV P G N ops (List.range ops.size) l
 | .region _ ops true,.jA l=>Ie P G N ops l
 | .region _ ops false,.cut _ (.reg l)=>wV P G N ops (List.range ops.size) l
 | .region _ ops true,.cut _ (.jA l)=>Ie P G N ops l
 | .seq c d,.seq a b=>vM P G N c a && vM P G N d b.u_
 | .cond x c d,.cond y a b=>bM G x y && vM P G N c a && vM P G N d b
 | .block id c,.blk id' a=>id == id' && vM P G N c a
 | .loop c,.loop _ a=>vM P G N c a
 | .exit id,.exit id'=>id == id'
 | .ret,.ret=>true
 | _,_=>false
def Out.exit':Out→Exit
 | .normal=>.normal
 | .exit id=>.exit id
 | .ret=>.ret
theorem o9.trans {ds:List Deferred} {G N:Nat} {μ:Mu} {σ σ1 σ2:St} {w w1 w2:World} {e1 e2:Env} {a1 a2:Act} {lQ:Mu} (h:Step G μ σ w lQ σ1 w1)(k:o9 ds G N lQ σ1 w1 e2 σ2 a2 w2):o9 ds G N μ σ w e2 σ2 a2 w2:=by
 obtain⟨A8,h1,h2,h3⟩:=k
 exact⟨A8,h.trans h1,h2,h3⟩
section
variable {X:Ctx} {G N:Nat} {run:Run}
def FM (X:Ctx)(G N:Nat)(c:Code)(f:Env→St→Option (Out×Env×St)):Prop:=
 ∀ (ds:List Deferred) (e:Env) (act:Act) (μ:Mu) (σ:St) (w:World) (o:Out) (e':Env) (σ':St) (Q:Exit→Act→World→Prop),eG G μ σ w→dN G N μ w e act.tmps→act.defers=ds→f e σ=some (o,e',σ')→
   (∀act' w',o9 ds G N μ σ w e' σ' act' w'→Q o.exit' act' w')→c.wp X.P Q act w
theorem LG {c:Code} {live:List Nat} {f:Env→St→Option (Out×Env×St)} (h:FM X G N c f)(n:Nat):FM X G N (.loop c) (kP live f n):=by
 intro ds e act μ σ w o e' σ' Q hs he hd hf hQ
 refine wp_loop_rounds n ?_
 induction n generalizing e act μ σ w with
 | zero=>cases hf
 | succ n ih=>
   rw [rounds_succ]
   simp only [kP] at hf
   split at hf
   ·rename_i e1 σ1 h1
    refine h ds (clear live e) act μ σ w .normal e1 σ1 _ hs (he.clear live) hd h1 fun act' w' hl=>?_
    obtain⟨lQ,hst,hen,hdf⟩:=hl
    exact ih e1 act' lQ σ1 w' hst.oP hen hdf hf fun WA w2 hl2=>hQ _ _ (o9.trans (e1:=e1) (a1:=act') hst hl2)
   ·rename_i hnn
    refine h ds (clear live e) act μ σ w o e' σ' _ hs (he.clear live) hd hf fun act' w' hl=>?_
    cases o with
    | normal=>exact absurd hf (hnn _ _)
    | exit id=>exact hQ _ _ hl
    | ret=>exact hQ _ _ hl
theorem dU (hX:X.Ok G)(hrun:jD X.P G run)(hf:X.P.follows .mixedOrders=true) {n:Nat} :∀(c:Code) (a:AC),vM X.P G N c a=true→FM X G N c (aZ X run n a)
 | .scope c,a,hok=>by
   intro ds e act μ σ w o e' σ' Q hs he hd h hQ
   refine wp_scope_straight (dU hX hrun hf c a (by simpa [vM] using hok) ds e act μ σ w o e' σ' _ hs he hd h fun act' w' hl=>?_)
   have:=hQ act' w' hl
   cases o <;> exact this
 | .skip,.skip,_=>by
   intro ds e act μ σ w o e' σ' Q hs he hd h hQ
   cases h
   exact wp_skip (hQ _ _ ⟨μ,Step.refl hs,he,hd⟩)
 | .label _,.skip,_=>by
   intro ds e act μ σ w o e' σ' Q hs he hd h hQ
   cases h
   exact wp_label (hQ _ _ ⟨μ,Step.refl hs,he,hd⟩)
 | .region id ops false,.reg l,hok=>by
   intro ds e act μ σ w o e' σ' Q hs he hd h hQ
   simp only [aZ,Option.map_eq_some_iff] at h
   obtain⟨⟨e1,σ1⟩,h1,h2⟩:=h
   cases h2
   exact wp_region (Bh (ops:=ops) hX hrun _ l e act μ σ w _ _ (by simpa [vM] using hok) hs he hd h1 hQ)
 | .region id ops true,.jA l,hok=>by
   intro ds e act μ σ w o e' σ' Q hs he hd h hQ
   simp only [aZ,Option.map_eq_some_iff] at h
   obtain⟨⟨e1,σ1⟩,h1,h2⟩:=h
   cases h2
   exact Ih hX hrun hf (by simpa [vM] using hok) hs he hd h1 hQ
 | .region id ops false,.cut live (.reg l),hok=>by
   intro ds e act μ σ w o e' σ' Q hs he hd h hQ
   simp only [aZ,Option.map_eq_some_iff] at h
   obtain⟨⟨e1,σ1⟩,h1,h2⟩:=h
   cases h2
   exact wp_region (Bh (ops:=ops) hX hrun _ l _ act μ σ w _ _ (by simpa [vM] using hok) hs (he.clear live) hd h1 hQ)
 | .region id ops true,.cut live (.jA l),hok=>by
   intro ds e act μ σ w o e' σ' Q hs he hd h hQ
   simp only [aZ,Option.map_eq_some_iff] at h
   obtain⟨⟨e1,σ1⟩,h1,h2⟩:=h
   cases h2
   exact Ih hX hrun hf (by simpa [vM] using hok) hs (he.clear live) hd h1 hQ
 | .seq c d,.seq a b,hok=>by
   intro ds e act μ σ w o e' σ' Q hs he hd h hQ
   simp only [vM,Bool.and_eq_true] at hok
   simp only [aZ] at h
   refine wp_seq ?_
   split at h
   ·rename_i e1 σ1 h1
    refine dU hX hrun hf c a hok.1 ds e act μ σ w .normal e1 σ1 _ hs he hd h1 fun act' w' hl=>?_
    obtain⟨lQ,hst,hen,hdf⟩:=hl
    have hd2:=dU hX hrun hf d b.u_ hok.2 (n:=n)
    rcases AC.oC b with hb | ⟨l,hb⟩
    ·rw [hb] at hd2
     exact hd2 ds e1 act' lQ σ1 w' o e' σ' Q hst.oP hen hdf h fun WA w2 hl2=>hQ _ _ (o9.trans (e1:=e1) (a1:=act') hst hl2)
    ·rw [hb] at h
     simp only [aZ] at h
     exact hd2 ds (clear l e1) act' lQ σ1 w' o e' σ' Q hst.oP (hen.clear l) hdf h fun WA w2 hl2=>hQ _ _ (o9.trans (e1:=e1) (a1:=act') hst hl2)
   ·rename_i hnn
    refine dU hX hrun hf c a hok.1 ds e act μ σ w o e' σ' _ hs he hd h fun act' w' hl=>?_
    cases o with
    | normal=>exact absurd h (hnn _ _)
    | exit id=>exact hQ _ _ hl
    | ret=>exact hQ _ _ hl
 | .cond x c d,.cond y a b,hok=>by
   intro ds e act μ σ w o e' σ' Q hs he hd h hQ
   simp only [vM,Bool.and_eq_true] at hok
   have hx:=ou hs he hok.1.1
   simp only [aZ] at h
   split at h
   ·rename_i hy
    rw [hy] at hx
    exact wp_cond_true hx (dU hX hrun hf c a hok.1.2 ds e act μ σ w o e' σ' _ hs he hd h hQ)
   ·rename_i hy
    rw [hy] at hx
    exact wp_cond_false hx (dU hX hrun hf d b hok.2 ds e act μ σ w o e' σ' _ hs he hd h hQ)
   ·cases h
 | .block id c,.blk id' a,hok=>by
   intro ds e act μ σ w o e' σ' Q hs he hd h hQ
   simp only [vM,Bool.and_eq_true,beq_iff_eq] at hok
   obtain⟨rfl,hok⟩:=hok
   simp only [aZ] at h
   refine wp_block ?_
   split at h
   ·rename_i j e1 σ1 h1
    simp only [Option.some.injEq,Prod.mk.injEq] at h
    obtain⟨rfl,rfl,rfl⟩:=h
    refine dU hX hrun hf c a hok ds e act μ σ w (.exit j) _ _ _ hs he hd h1 fun act' w' hl=>?_
    have hq:=hQ act' w' hl
    simp only [Out.exit',Exit.inBlock]
    split
    ·rename_i hj;rw [if_pos hj] at hq;exact hq
    ·rename_i hj;rw [if_neg hj] at hq;exact hq
   ·rename_i hnn
    refine dU hX hrun hf c a hok ds e act μ σ w o e' σ' _ hs he hd h fun act' w' hl=>?_
    cases o with
    | normal=>exact hQ _ _ hl
    | exit id=>exact absurd h (hnn _ _ _)
    | ret=>exact hQ _ _ hl
 | .loop c,.loop live a,hok=>by
   have hc:=dU hX hrun hf c a (n:=n) (by simpa [vM] using hok)
   intro ds e act μ σ w o e' σ' Q hs he hd h hQ
   exact LG hc n ds e act μ σ w o e' σ' Q hs he hd h hQ
 | .exit id,.exit id',hok=>by
   intro ds e act μ σ w o e' σ' Q hs he hd h hQ
   simp only [vM,beq_iff_eq] at hok
   subst hok
   cases h
   exact wp_exit (hQ _ _ ⟨μ,Step.refl hs,he,hd⟩)
 | .ret,.ret,_=>by
   intro ds e act μ σ w o e' σ' Q hs he hd h hQ
   cases h
   exact wp_ret (hQ _ _ ⟨μ,Step.refl hs,he,hd⟩)
end
end Go.Abs
namespace Go.Abs
def nH:List ResultVar→List AR→Bool
 | [],[]=>true
 | .tmp n :: l,.t m :: r=>n == m && nH l r
 | .cell a t :: l,.cell b s :: r=>a == b && t == s && nH l r
 | _,_=>false
def bQ (P:Program)(G:Nat)(f:Nat)(F:AF):Bool:=match P.funcs[f]? with
 | some fn=>fn.ntmps == F.nt && !(fn.name == "runtime.NumGoroutine") && nH fn.results.toList F.res && (match fn.body with
   | some c=>vM P G F.nt c F.code
   | none=>false)
 | none=>false
def zZ (P:Program)(f:Nat)(aP:Array Value)(w:World)(R:Ending→World→Prop):Prop:=
 (callFunc f aP).run P w= .ok (.enter f aP) w∧∀u,CallsD P f aP u w fun e u' w'=>u'= u∧R e w'
def Bq (X:Ctx)(G:Nat)(run:Run):Prop:=∀f,X.dk f=true→∀args σ r σ',run f args σ=some (r,σ')→∀μ w (aP:Array Value),eG G μ σ w→aK μ w args aP.toList→zZ X.P f aP w (After G μ σ w r σ')
def FN (P:Program)(fns:Nat→Option AF)(dk:Nat→Bool)(G f:Nat)(F:AF):Prop:=
 ∀ (X:Ctx),X.P=P→X.fns=fns→X.dk=dk→X.Ok G→X.P.follows .mixedOrders=true→∀(run:Run) (n:Nat),jD X.P G run→Bq X G run→
   ∀ (args:List AV) (σ:St) (o:Out) (e:Env) (σ1:St) (v:AV),args.length≤F.nt→aZ X run n F.code (eH 0 args) σ=some (o,e,σ1)→o= .normal∨o= .ret→oN X.P F.res e σ1=some v→
   ∀ (μ:Mu) (w:World) (aP:Array Value),eG G μ σ w→aK μ w args aP.toList→Enters X.P f∧Calls X.P f aP w (After G μ σ w v σ1)
structure Ctx.Sound (X:Ctx)(G:Nat):Prop where
 ok:X.Ok G
 draws:X.P.follows .mixedOrders=true
 fns:∀f F,X.prim f=none→X.fns f=some F→bQ X.P G f F=true∨FN X.P X.fns X.dk G f F
 Kq:∀f,X.dk f=true→X.prim f=none∧∀F,X.fns f=some F→bQ X.P G f F=true
section
variable {X:Ctx} {G N:Nat} {μ:Mu} {σ:St} {w:World}
theorem xw:∀(args:List AV) (k n:Nat),get (eH k args) n=if k≤n then(args[n - k]?).getD .u else .u
 | [],k,n=>by simp [eH,get]
 | a :: rest,k,n=>by
   simp only [eH,get]
   split
   ·rename_i h;subst h;simp
   ·rename_i h
    rw [xw rest (k+1) n]
    by_cases hk:k≤n
    ·rw [if_pos hk,if_pos (by omega),show n - k=(n - (k+1))+1 by omega];simp
    ·rw [if_neg hk,if_neg (by omega)]
theorem uK {args:List AV} {aP:Array Value} {nt:Nat} (h:aK μ w args aP.toList)(hl:args.length≤nt):dN G nt μ w (eH 0 args) (aP ++ Array.replicate (nt - aP.size) undef):=by
 have hsz:aP.size=args.length:=by have:=h.length;simpa using this
 refine⟨by simp;omega,fun n=>?_⟩
 rw [xw]
 simp only [Nat.zero_le,if_true,Nat.sub_zero]
 cases hn:args[n]? with
 | none=>trivial
 | some a=>
   obtain⟨v,hv,hr⟩:=h.get n a hn
   have hlt:n<aP.size:=by have:=dF hn;omega
   rw [Array.getElem?_toList] at hv
   simp only [Option.getD_some]
   rw [Array.getD_eq_getD_getElem?,Array.getElem?_append_left hlt,hv]
   exact hr
def Ii (tmps:Array Value):ResultVar→Sem Value
 | .tmp t=>pure (tmps.getD t undef)
 | .cell a t=>do loadVar t (←asAddr (tmps.getD a undef))
theorem xA (hs:eG G μ σ w) {e:Env} {tmps:Array Value} (he:dN G N μ w e tmps):∀(l:List ResultVar) (r:List AR) (vs:List AV),nH l r=true→mX X.P e σ r=some vs→
 ∃ us,(l.mapM (Ii tmps)).run X.P w= .ok us w∧aK μ w vs us
 | [],[],vs,_,h=>by
   simp only [mX,Option.some.injEq] at h
   subst h
   exact⟨[],by simp,rfl⟩
 | .tmp n :: l,.t m :: r,vs,hok,h=>by
   simp only [nH,Bool.and_eq_true,beq_iff_eq] at hok
   obtain⟨rfl,hok⟩:=hok
   simp only [mX] at h
   split at h
   ·rename_i v vs' hv hvs
    cases h
    obtain⟨us,h1,h2⟩:=xA hs he l r vs' hok hvs
    have hvn:v=get e n:=by
        simp only [wB] at hv
        split at hv
        ·cases hv
        ·exact(Option.some.inj hv).symm
    refine⟨tmps.getD n undef :: us,?_,_,us,rfl,by rw [hvn];exact he.rel n,h2⟩
    simp [List.mapM_cons,Ii,h1]
   ·cases h
 | .cell a t :: l,.cell b s :: r,vs,hok,h=>by
   simp only [nH,Bool.and_eq_true,beq_iff_eq] at hok
   obtain⟨⟨rfl,rfl⟩,hok⟩:=hok
   simp only [mX] at h
   split at h
   ·rename_i v vs' hv hvs
    cases h
    obtain⟨us,h1,h2⟩:=xA hs he l r vs' hok hvs
    simp only [wB] at hv
    have hr:=he.rel a
    unfold kL at hv
    split at hv
    ·rename_i T o g off hT hx
     rw [hx] at hr
     rw [Option.bind_eq_some_iff] at hv
     obtain⟨cs,hc,hp⟩:=hv
     obtain⟨b,δ,hb,hbe⟩:=hr
     obtain⟨u,q1,q2⟩:=uy hT hs hc hp hb
     refine⟨u :: us,?_,u,us,rfl,q2,h2⟩
     simp [List.mapM_cons,Ii,hbe,asAddr,q1,h1]
    ·cases hv
   ·cases h
theorem nI (hs:eG G μ σ w) {e:Env} {tmps:Array Value} (he:dN G N μ w e tmps) {fn:Func} {r:List AR} {v:AV} (hok:nH fn.results.toList r=true)(h:oN X.P r e σ=some v) :
 ∃ u,(results fn tmps).run X.P w= .ok u w∧aJ μ w v u:=by
 unfold oN at h
 cases hL:mX X.P e σ r with
 | none=>rw [hL] at h;cases h
 | some vs=>
   rw [hL] at h
   obtain⟨us,h1,h2⟩:=xA (X:=X) hs he _ r vs hok hL
   have hm:(results fn tmps).run X.P w= .ok (if h:us.toArray.size=1 then us.toArray[0] else .tuple us.toArray) w:=by
    have hf:results fn tmps=(do let vs ←fn.results.mapM (Ii tmps);pure (if h:vs.size=1 then vs[0] else .tuple vs)):=rfl
    rw [hf,Array.mapM_eq_mapM_toList]
    simp [h1]
   have hlen:=h2.length
   refine⟨_,hm,?_⟩
   split at h
   ·rename_i v' hvs
    cases h
    cases hvs
    obtain⟨y,ys,rfl,q1,q2⟩:=h2
    simp only [aK] at q2
    subst q2
    exact q1
   ·rename_i hn hvs
    cases h
    cases hvs
    have h1':us.toArray.size≠1:=by
        simp only [List.size_toArray]
        intro hu
        rw [hu] at hlen
        cases vs with
        | nil=>cases hlen
        | cons x xs=>
          cases xs with
          | nil=>exact hn x rfl
          | cons _ _=>simp at hlen
    rw [dif_neg h1']
    exact⟨us.toArray,rfl,h2⟩
   ·rename_i hvs;cases hvs
theorem SC (hX:X.Ok G)(hdr:X.P.follows .mixedOrders=true) {f:Nat} {F:AF} (hok:bQ X.P G f F=true):∃fn c,X.P.funcs[f]? =some fn∧fn.body=some c∧fn.ntmps=F.nt∧Enters X.P f∧
 ∀ (run:Run) (n:Nat),jD X.P G run→∀(args:List AV) (σ:St) (o:Out) (e:Env) (σ1:St) (v:AV),args.length≤F.nt→aZ X run n F.code (eH 0 args) σ=some (o,e,σ1)→o= .normal∨o= .ret→oN X.P F.res e σ1=some v→
 ∀ (μ:Mu) (w:World) (aP:Array Value),eG G μ σ w→aK μ w args aP.toList→c.wp X.P (bodyPost X.P fn (After G μ σ w v σ1)) { tmps:=aP ++ Array.replicate (fn.ntmps - aP.size) undef,defers:=[] } w:=by
 unfold bQ at hok
 split at hok
 ·rename_i fn hfn
  simp only [Bool.and_eq_true,beq_iff_eq,Bool.not_eq_true'] at hok
  obtain⟨⟨⟨hnt,hnm⟩,hres⟩,hbody⟩:=hok
  split at hbody
  ·rename_i c hc
   refine⟨fn,c,hfn,hc,hnt,fU hfn hnm (by rw [hc];rfl),?_⟩
   intro run n hrun args σ o e σ1 v hlen hcode ho hv μ w aP hs hr
   have hsz:aP.size=args.length:=by have:=hr.length;simpa using this
   rw [hnt]
   have hen:=uK (G:=G) hr hlen
   refine dU hX hrun hdr c F.code hbody [] _ { tmps:=aP ++ Array.replicate (F.nt - aP.size) undef,defers:=[] } μ σ w o e σ1 _ hs hen rfl hcode fun act' w' hl=>?_
   obtain⟨lQ,hst,hen1,hd1⟩:=hl
   obtain⟨u,hu1,hu2⟩:=nI (X:=X) hst.oP hen1 hres hv
   have hafter:After G μ σ w v σ1 (.returned u) w':=⟨u,lQ,rfl,hu2,hst⟩
   rcases ho with rfl | rfl
   ·exact⟨hd1,u,hu1,hafter⟩
   ·exact⟨hd1,u,hu1,hafter⟩
  ·cases hbody
 ·cases hok
theorem Ij (hX:X.Ok G)(hdr:X.P.follows .mixedOrders=true) {f:Nat} {F:AF} (hok:bQ X.P G f F=true∨FN X.P X.fns X.dk G f F) {run:Run} {n:Nat} (hrun:jD X.P G run)(hrd:Bq X G run) {args:List AV} {σ:St} {o:Out} {e:Env} {σ1:St} {v:AV} (hlen:args.length≤F.nt)
 (hcode:aZ X run n F.code (eH 0 args) σ=some (o,e,σ1)) (ho:o= .normal∨o= .ret) (hv:oN X.P F.res e σ1=some v) {μ:Mu} {w:World} {aP:Array Value} (hs:eG G μ σ w) (hr:aK μ w args aP.toList):Enters X.P f∧Calls X.P f aP w (After G μ σ w v σ1):=by
 rcases hok with hok | hok
 ·obtain⟨fn,c,hfn,hc,hnt,hen,hwp⟩:=SC hX hdr hok
  exact⟨hen,calls_of_wp hfn hc (hwp run n hrun args σ o e σ1 v hlen hcode ho hv μ w aP hs hr)⟩
 ·exact hok X rfl rfl rfl hX hdr run n hrun hrd args σ o e σ1 v hlen hcode ho hv μ w aP hs hr
theorem DV (hX:X.Ok G)(hdr:X.P.follows .mixedOrders=true) {f:Nat} {F:AF} (hok:bQ X.P G f F=true) {run:Run} {n:Nat} (hrun:jD X.P G run) {args:List AV} {σ:St} {o:Out} {e:Env} {σ1:St} {v:AV} (hlen:args.length≤F.nt)
 (hcode:aZ X run n F.code (eH 0 args) σ=some (o,e,σ1)) (ho:o= .normal∨o= .ret) (hv:oN X.P F.res e σ1=some v) {μ:Mu} {w:World} {aP:Array Value} (hs:eG G μ σ w) (hr:aK μ w args aP.toList):zZ X.P f aP w (After G μ σ w v σ1):=by
 obtain⟨fn,c,hfn,hc,hnt,hen,hwp⟩:=SC hX hdr hok
 exact⟨hen aP w,fun u=>callsD_of_wp hfn hc (hwp run n hrun args σ o e σ1 v hlen hcode ho hv μ w aP hs hr)⟩
theorem After.LH {r:AV} {σ' σ1:St} {v:AV} {e':Ending} {w':World} (hs:eG G μ σ w)(hn:norm σ v σ1=(r,σ'))(h:After G μ σ w v σ1 e' w'):After G μ σ w r σ' e' w':=by
 obtain⟨u,lQ,he,hu2,hst⟩:=h
 unfold norm at hn
 split at hn
 ·rename_i hfl
  simp only [Bool.and_eq_true] at hfl
  cases hn
  exact⟨u,μ,he,aJ.flat _ _ hfl.1 hu2,Step.norm hs hst (iZ _ _ hfl.2)⟩
 ·cases hn
  exact⟨u,lQ,he,hu2,hst⟩
theorem CallsD.WB {P:Program} {f:Nat} {aP:Array Value} {w:World} {R R':Ending→World→Prop} (h:zZ P f aP w R)(hr:∀e w',R e w'→R' e w'):zZ P f aP w R':=
 ⟨h.1,fun u=>(h.2 u).mono fun e u' w' q=>⟨q.1,hr _ _ q.2⟩⟩
theorem Ik (hX:X.Sound G):∀n,jD X.P G (aFn X n)∧Bq X G (aFn X n)
 | 0=>⟨(by intro f args σ r σ' h;cases h),(by intro f _ args σ r σ' h;cases h)⟩
 | n+1=>by
   obtain⟨ih,ihd⟩:=Ik hX n
   constructor
   ·intro f args σ r σ' h
    simp only [aFn] at h
    split at h
    ·rename_i g hg
     exact hX.ok.prim f g hg _ _ _ _ h
    ·rename_i hp
     split at h
     ·rename_i F hF
      intro μ w aP hs hr
      split at h
      ·rename_i hlen
       have main:∀(o:Out) (e:Env) (σ1:St),aZ X (aFn X n) n F.code (eH 0 args) σ=some (o,e,σ1)→o= .normal∨o= .ret→(oN X.P F.res e σ1).map (fun v=>norm σ v σ1)=some (r,σ')→Does X.P f aP w (After G μ σ w r σ'):=by
        intro o e σ1 hcode ho hmap
        rw [Option.map_eq_some_iff] at hmap
        obtain⟨v,hv,xB⟩:=hmap
        obtain⟨he,hc⟩:=Ij hX.ok hX.draws (hX.fns f F hp hF) ih ihd hlen hcode ho hv hs hr
        exact .inl ⟨he aP w,hc.mono fun e' w' q=>q.LH hs xB⟩
       split at h
       ·rename_i e σ1 hcode;exact main _ _ _ hcode (.inl rfl) h
       ·rename_i e σ1 hcode;exact main _ _ _ hcode (.inr rfl) h
       ·cases h
      ·cases h
     ·cases h
   ·intro f hdk args σ r σ' h
    obtain⟨hp,T_⟩:=hX.Kq f hdk
    simp only [aFn,hp] at h
    split at h
    ·rename_i F hF
     intro μ w aP hs hr
     split at h
     ·rename_i hlen
      have main:∀(o:Out) (e:Env) (σ1:St),aZ X (aFn X n) n F.code (eH 0 args) σ=some (o,e,σ1)→o= .normal∨o= .ret→(oN X.P F.res e σ1).map (fun v=>norm σ v σ1)=some (r,σ')→zZ X.P f aP w (After G μ σ w r σ'):=by
            intro o e σ1 hcode ho hmap
            rw [Option.map_eq_some_iff] at hmap
            obtain⟨v,hv,xB⟩:=hmap
            exact CallsD.WB (DV hX.ok hX.draws (T_ F hF) ih hlen hcode ho hv hs hr) fun e' w' q=>q.LH hs xB
      split at h
      ·rename_i e σ1 hcode;exact main _ _ _ hcode (.inl rfl) h
      ·rename_i e σ1 hcode;exact main _ _ _ hcode (.inr rfl) h
      ·cases h
     ·cases h
    ·cases h
theorem WC (hX:X.Sound G)(n:Nat):jD X.P G (aFn X n):=(Ik hX n).1
theorem wM.does (hX:X.Sound G) {f:Nat} {args:List AV} {Q:AV→St→Prop} (h:wM X f args σ Q)(hs:eG G μ σ w) {aP:Array Value} (hr:aK μ w args aP.toList) :
 Does X.P f aP w fun e w'=>∃r σ',Q r σ'∧After G μ σ w r σ' e w':=by
 obtain⟨n,⟨r,σ'⟩,h1,h2⟩:=h
 exact(WC hX n f args σ r σ' h1 μ w aP hs hr).mono fun e w' ha=>⟨r,σ',h2,ha⟩
theorem Does.calls {P:Program} {f:Nat} {aP:Array Value} {R:Ending→World→Prop} (h:Does P f aP w R)(he:Enters P f):Calls P f aP w R:=by
 rcases h with ⟨_,h⟩ | ⟨v,w',h1,_⟩
 ·exact h
 ·rw [he aP w] at h1;cases h1
theorem wM.calls (hX:X.Sound G) {f:Nat} {args:List AV} {Q:AV→St→Prop} (h:wM X f args σ Q)(he:Enters X.P f)(hs:eG G μ σ w) {aP:Array Value} (hr:aK μ w args aP.toList) :
 Calls X.P f aP w fun e w'=>∃r σ',Q r σ'∧After G μ σ w r σ' e w':=(h.does hX hs hr).calls he
end
end Go.Abs
