/- Texts of this claim, joined: Abs3, Abs13, Abs14, Abs15, Abs16, Abs17, Abs18, Abs19. -/
import Derived.Test.YtlkfbfhkcaldlaaGreatDoorM01
import Derived.LoopN
import Derived.Scope
import Derived.Orders
import Derived.Defers
set_option linter.unusedVariables false
set_option linter.unusedSimpArgs false
namespace Go.Abs
def Ex {α:Type} (g:Nat->Option α)(Q:α->Prop):Prop:=∃n r,g n=some r/\Q r
def Run.le (r r':Run):Prop:=∀f args Z x,r f args Z=some x->r' f args Z=some x
theorem J6 {X:Ctx} {r r':Run} (h:r.le r') {ρ:Opd->AV} {op:AOp} {Z:St} {x:AV×St} (hx:iH X r ρ op Z=some x):iH X r' ρ op Z=some x:=by
 cases op with
 | call f args=>
   simp only [iH] at hx ⊢
   split at hx
   ·exact h _ _ _ _ hx
   ·simp at hx
 | inv y m args=>
   simp only [iH] at hx ⊢
   split at hx
   ·split at hx
    ·exact h _ _ _ _ hx
    ·simp at hx
   ·simp at hx
 | _=>exact hx
theorem yF {X:Ctx} {r r':Run} (h:r.le r') {e:Env} {a:AI} {Z:St} {x:AV×St} (hx:fU X r e a Z=some x):fU X r' e a Z=some x:=by
 unfold fU at *
 cases hg:a.gd with
 | none=>rw [hg] at hx;exact J6 h hx
 | some g=>
   rw [hg] at hx
   simp only at hx ⊢
   cases hw:fK e (some g) with
   | none=>rw [hw] at hx;simp at hx
   | some c=>
     rw [hw] at hx
     simp only at hx ⊢
     by_cases hp:a.op.pure=true
     ·simpa only [hp,if_true] using hx
     ·simp only [hp,if_false,nR] at hx ⊢
      by_cases hc:c=true
      ·simp only [hc,if_true] at hx ⊢
       split at hx
       ·rename_i hall;rw [if_pos hall];exact J6 h hx
       ·simp at hx
      ·simpa only [hc,if_false,nR] using hx
theorem Ik {X:Ctx} {r r':Run} (h:r.le r'):∀{ops:List AI} {e:Env} {Z:St} {x:Env×St},wo X r ops e Z=some x->wo X r' ops e Z=some x
 | [],_,_,_,hx=>hx
 | a :: ops,e,Z,x,hx=>by
   simp only [wo] at hx ⊢
   cases hs:fU X r e a Z with
   | none=>rw [hs] at hx;simp at hx
   | some y=>rw [hs] at hx;rw [yF h hs];exact Ik h hx
theorem Il {X:Ctx} {r r':Run} (h:r.le r'):∀{ops:List (AI×List AI)} {e:Env} {Z:St} {x:Env×St},zO X r ops e Z=some x->zO X r' ops e Z=some x
 | [],_,_,_,hx=>hx
 | (a,ag) :: ops,e,Z,x,hx=>by
   simp only [zO] at hx ⊢
   cases hs:fU X r e a Z with
   | none=>rw [hs] at hx;simp at hx
   | some y=>
     rw [hs] at hx;rw [yF h hs]
     simp only at hx ⊢
     split at hx
     ·rename_i hall;rw [if_pos hall];exact Il h hx
     ·simp at hx
theorem yG {live:List Nat} {b b':Env->St->Option (Out×Env×St)} (h:∀e Z x,b e Z=some x->b' e Z=some x) :
 ∀ {n m:Nat} {e:Env} {Z:St} {x:Out×Env×St},n<=m->pK live b n e Z=some x->pK live b' m e Z=some x
 | 0,_,_,_,_,_,hx=>by simp [pK] at hx
 | n+1,0,_,_,_,hn,_=>by omega
 | n+1,m+1,e,Z,x,hn,hx=>by
   simp only [pK] at hx ⊢
   cases hb:b (clear live e) Z with
   | none=>rw [hb] at hx;simp at hx
   | some y=>
     rw [hb] at hx;rw [h _ _ _ hb]
     obtain⟨o,e',Z'⟩:=y
     cases o with
     | normal=>exact yG h (by omega) hx
     | exit id=>exact hx
     | ret=>exact hx
theorem nZ {X:Ctx} {r r':Run} (h:r.le r') {n m:Nat} (hn:n<=m):∀{c:AC} {e:Env} {Z:St} {x:Out×Env×St},bH X r n c e Z=some x->bH X r' m c e Z=some x:=by
 intro c
 induction c with
 | skip=>intro e Z x hx;exact hx
 | exit id=>intro e Z x hx;exact hx
 | ret=>intro e Z x hx;exact hx
 | reg ops=>
   intro e Z x hx
   simp only [bH] at hx ⊢
   cases hs:wo X r ops e Z with
   | none=>rw [hs] at hx;simp at hx
   | some y=>rw [hs] at hx;rw [Ik h hs];exact hx
 | drw ops=>
   intro e Z x hx
   simp only [bH] at hx ⊢
   cases hs:zO X r ops e Z with
   | none=>rw [hs] at hx;simp at hx
   | some y=>rw [hs] at hx;rw [Il h hs];exact hx
 | seq a b iha ihb=>
   intro e Z x hx
   simp only [bH] at hx ⊢
   cases hs:bH X r n a e Z with
   | none=>rw [hs] at hx;simp at hx
   | some y=>
     rw [hs] at hx;rw [iha hs]
     obtain⟨o,e',Z'⟩:=y
     cases o with
     | normal=>exact ihb hx
     | exit id=>exact hx
     | ret=>exact hx
 | cond y a b iha ihb=>
   intro e Z x hx
   simp only [bH] at hx ⊢
   split at hx <;> first | exact iha hx | exact ihb hx | simp at hx
 | blk id c ih=>
   intro e Z x hx
   simp only [bH] at hx ⊢
   cases hs:bH X r n c e Z with
   | none=>rw [hs] at hx;simp at hx
   | some y=>rw [hs] at hx;rw [ih hs];exact hx
 | loop live c ih=>
   intro e Z x hx
   simp only [bH] at hx ⊢
   exact yG (fun _ _ _ hb=>ih hb) hn hx
 | cut live c ih=>
   intro e Z x hx
   simp only [bH] at hx ⊢
   exact ih hx
theorem J7 (X:Ctx):∀n,(aFn X n).le (aFn X (n+1))
 | 0=>fun _ _ _ _ hx=>by simp [aFn] at hx
 | n+1=>fun f args Z x hx=>by
   rw [aFn] at hx ⊢
   cases hp:X.fM f with
   | some g=>rw [hp] at hx;exact hx
   | none=>
     rw [hp] at hx
     simp only at hx ⊢
     cases hf:X.fns f with
     | none=>rw [hf] at hx;simp at hx
     | some F=>
       rw [hf] at hx
       simp only at hx ⊢
       split at hx
       ·rename_i hl
        rw [if_pos hl]
        cases hc:bH X (aFn X n) n F.code (iD 0 args) Z with
        | none=>rw [hc] at hx;simp at hx
        | some y=>rw [hc] at hx;rw [nZ (J7 X n) (Nat.le_succ n) hc];exact hx
       ·simp at hx
theorem ng (X:Ctx) {n m:Nat} (h:n<=m):(aFn X n).le (aFn X m):=by
 induction h with
 | refl=>exact fun _ _ _ _ h=>h
 | step _ ih=>exact fun f args Z x hx=>J7 X _ _ _ _ _ (ih _ _ _ _ hx)
def Du (X:Ctx)(f:Nat)(args:List AV)(Z:St)(Q:AV->St->Prop):Prop:=Ex (fun n=>aFn X n f args Z) fun r=>Q r.1 r.2
def EvC (X:Ctx)(c:AC)(e:Env)(Z:St)(Q:Out->Env->St->Prop):Prop:=Ex (fun n=>bH X (aFn X n) n c e Z) fun r=>Q r.1 r.2.1 r.2.2
def EvL (X:Ctx)(live:List Nat)(c:AC)(e:Env)(Z:St)(Q:Out->Env->St->Prop):Prop:=Ex (fun n=>pK live (bH X (aFn X n) n c) n e Z) fun r=>Q r.1 r.2.1 r.2.2
def EvO (X:Ctx)(ops:List AI)(e:Env)(Z:St)(Q:Env->St->Prop):Prop:=Ex (fun n=>wo X (aFn X n) ops e Z) fun r=>Q r.1 r.2
def EvD (X:Ctx)(ops:List (AI×List AI))(e:Env)(Z:St)(Q:Env->St->Prop):Prop:=Ex (fun n=>zO X (aFn X n) ops e Z) fun r=>Q r.1 r.2
def EvS (X:Ctx)(e:Env)(a:AI)(Z:St)(Q:AV->St->Prop):Prop:=Ex (fun n=>fU X (aFn X n) e a Z) fun r=>Q r.1 r.2
def opt {α:Type} (o:Option α)(Q:α->Prop):Prop:=∃r,o=some r/\Q r
theorem iI {α:Type} (a:α)(Q:α->Prop):opt (some a) Q↔Q a:=⟨fun⟨_,h,q⟩=>(by cases h;exact q),fun q=>⟨a,rfl,q⟩⟩
theorem gQ {α:Type} (Q:α->Prop):opt none Q↔False:=⟨fun⟨_,h,_⟩=>(by cases h),False.elim⟩
theorem d_ {α β:Type} (f:α->β)(o:Option α)(Q:β->Prop):opt (o.map f) Q↔opt o fun a=>Q (f a):=by
 cases o <;> simp [iI,gQ]
theorem TI {α β:Type} (f:α->Option β)(o:Option α)(Q:β->Prop):opt (o.bind f) Q↔opt o fun a=>opt (f a) Q:=by
 cases o <;> simp [iI,gQ]
theorem dZ {α:Type} (o:Option α)(Q:α->Prop):Ex (fun _=>o) Q↔opt o Q:=⟨fun⟨_,r,h,q⟩=>⟨r,h,q⟩,fun⟨r,h,q⟩=>⟨0,r,h,q⟩⟩
section
variable {X:Ctx} {e:Env} {Z:St} {Q:Out->Env->St->Prop}
theorem J8:EvC X .skip e Z Q↔Q .normal e Z:=by simp [EvC,bH,dZ,iI]
theorem J9 {id:Nat} :EvC X (.exit id) e Z Q↔Q (.exit id) e Z:=by simp [EvC,bH,dZ,iI]
theorem O_:EvC X .ret e Z Q↔Q .ret e Z:=by simp [EvC,bH,dZ,iI]
theorem Pg {ops:List AI} :EvC X (.reg ops) e Z Q↔EvO X ops e Z fun e' Z'=>Q .normal e' Z':=by
 constructor
 ·rintro ⟨n,r,h,q⟩
  try dsimp only at h
  simp only [bH,iU] at h
  obtain⟨y,hy,rfl⟩:=h
  exact⟨n,y,hy,q⟩
 ·rintro ⟨n,r,h,q⟩
  try dsimp only at h
  exact⟨n,_,by simp only [bH];rw [h];rfl,q⟩
theorem Ph {ops:List (AI×List AI)} :EvC X (.drw ops) e Z Q↔EvD X ops e Z fun e' Z'=>Q .normal e' Z':=by
 constructor
 ·rintro ⟨n,r,h,q⟩
  try dsimp only at h
  simp only [bH,iU] at h
  obtain⟨y,hy,rfl⟩:=h
  exact⟨n,y,hy,q⟩
 ·rintro ⟨n,r,h,q⟩
  try dsimp only at h
  exact⟨n,_,by simp only [bH];rw [h];rfl,q⟩
def Out.next (K:Env->St->Prop)(Q:Out->Env->St->Prop):Out->Env->St->Prop
 | .normal,e,Z=>K e Z
 | o,e,Z=>Q o e Z
theorem Out.tV (K:Env->St->Prop)(Q:Out->Env->St->Prop)(e:Env)(Z:St):Out.next K Q .normal e Z=K e Z:=rfl
theorem Out.zW (K:Env->St->Prop)(Q:Out->Env->St->Prop)(e:Env)(Z:St)(id:Nat):Out.next K Q (.exit id) e Z=Q (.exit id) e Z:=rfl
theorem Out.Dv (K:Env->St->Prop)(Q:Out->Env->St->Prop)(e:Env)(Z:St):Out.next K Q .ret e Z=Q .ret e Z:=rfl
theorem Pj {a b:AC} :EvC X (.seq a b) e Z Q↔EvC X a e Z (Out.next (fun e' Z'=>EvC X b e' Z' Q) Q):=by
 constructor
 ·rintro ⟨n,r,h,q⟩
  try dsimp only at h
  simp only [bH] at h
  cases hs:bH X (aFn X n) n a e Z with
  | none=>rw [hs] at h;simp at h
  | some y=>
    rw [hs] at h
    obtain⟨o,e',Z'⟩:=y
    refine⟨n,_,hs,?_⟩
    cases o with
    | normal=>exact⟨n,r,h,q⟩
    | exit id=>simp only [oW] at h;subst h;exact q
    | ret=>simp only [oW] at h;subst h;exact q
 ·rintro ⟨n,⟨o,e',Z'⟩,h,q⟩
  try dsimp only at h
  cases o with
  | normal=>
    obtain⟨m,r,hm,q'⟩:=q
    try dsimp only at hm
    refine⟨max n m,r,?_,q'⟩
    simp only [bH]
    rw [nZ (ng X (Nat.le_max_left n m)) (Nat.le_max_left n m) h]
    exact nZ (ng X (Nat.le_max_right n m)) (Nat.le_max_right n m) hm
  | exit id=>exact⟨n,_,by simp only [bH];rw [h],q⟩
  | ret=>exact⟨n,_,by simp only [bH];rw [h],q⟩
def Io (v:AV)(A B:Prop):Prop:=match v with | .b true=>A | .b false=>B | _=>False
theorem QN {A B:Prop} :Io (.b true) A B↔A:=Iff.rfl
theorem NC {A B:Prop} :Io (.b false) A B↔B:=Iff.rfl
theorem cndV_b {t:Bool} {A B:Prop} :Io (.b t) A B↔(t=true->A)/\(t=false->B):=by cases t <;> simp [Io]
theorem J_ {x:Opd} {a b:AC} :EvC X (.cond x a b) e Z Q↔Io (x.ev e) (EvC X a e Z Q) (EvC X b e Z Q):=by
 cases hx:x.ev e with
 | b t=>cases t <;> simp [EvC,bH,hx,Io]
 | _=>simp only [EvC,bH,hx,dZ,gQ,Io]
def Out.Gp (id:Nat)(Q:Out->Env->St->Prop):Out->Env->St->Prop
 | .exit j,e,Z=>if j=id then Q .normal e Z else Q (.exit j) e Z
 | o,e,Z=>Q o e Z
theorem Out.yH (id:Nat)(Q:Out->Env->St->Prop)(e:Env)(Z:St):Out.Gp id Q .normal e Z=Q .normal e Z:=rfl
theorem Out.Dw (id j:Nat)(Q:Out->Env->St->Prop)(e:Env)(Z:St):Out.Gp id Q (.exit j) e Z=if j=id then Q .normal e Z else Q (.exit j) e Z:=rfl
theorem Out.Gs (id:Nat)(Q:Out->Env->St->Prop)(e:Env)(Z:St):Out.Gp id Q .ret e Z=Q .ret e Z:=rfl
theorem Pm {id:Nat} {c:AC} :EvC X (.blk id c) e Z Q↔EvC X c e Z (Out.Gp id Q):=by
 constructor
 ·rintro ⟨n,r,h,q⟩
  try dsimp only at h
  simp only [bH] at h
  cases hs:bH X (aFn X n) n c e Z with
  | none=>rw [hs] at h;simp at h
  | some y=>
    rw [hs] at h
    obtain⟨o,e',Z'⟩:=y
    refine⟨n,_,hs,?_⟩
    cases o with
    | exit j=>
      simp only [oW] at h;subst h
      simp only [Out.Gp]
      by_cases hj:j=id <;> simpa [hj] using q
    | normal=>simp only [oW] at h;subst h;exact q
    | ret=>simp only [oW] at h;subst h;exact q
 ·rintro ⟨n,⟨o,e',Z'⟩,h,q⟩
  try dsimp only at h
  cases o with
  | exit j=>
    refine⟨n,_,by simp only [bH];rw [h],?_⟩
    simp only [Out.Gp] at q
    by_cases hj:j=id <;> simpa [hj] using q
  | normal=>exact⟨n,_,by simp only [bH];rw [h],q⟩
  | ret=>exact⟨n,_,by simp only [bH];rw [h],q⟩
theorem Pn {live:List Nat} {c:AC} :EvC X (.cut live c) e Z Q↔EvC X c (clear live e) Z Q:=Iff.rfl
theorem Ko {live:List Nat} {c:AC} :EvC X (.loop live c) e Z Q↔EvL X live c e Z Q:=Iff.rfl
theorem tX {live:List Nat} {c:AC} :EvL X live c e Z Q↔EvC X c (clear live e) Z (Out.next (fun e' Z'=>EvL X live c e' Z' Q) Q):=by
 constructor
 ·rintro ⟨n,r,h,q⟩
  try dsimp only at h
  cases n with
  | zero=>simp [pK] at h
  | succ n=>
    simp only [pK] at h
    cases hs:bH X (aFn X (n+1)) (n+1) c (clear live e) Z with
    | none=>rw [hs] at h;simp at h
    | some y=>
      rw [hs] at h
      obtain⟨o,e',Z'⟩:=y
      refine⟨n+1,_,hs,?_⟩
      cases o with
      | normal=>exact⟨n+1,r,yG (fun _ _ _ h=>h) (Nat.le_succ n) h,q⟩
      | exit id=>simp only [oW] at h;subst h;exact q
      | ret=>simp only [oW] at h;subst h;exact q
 ·rintro ⟨n,⟨o,e',Z'⟩,h,q⟩
  try dsimp only at h
  cases o with
  | normal=>
    obtain⟨m,r,hm,q'⟩:=q
    try dsimp only at hm
    refine⟨max n m+1,r,?_,q'⟩
    simp only [pK]
    rw [nZ (ng X (Nat.le_trans (Nat.le_max_left n m) (Nat.le_succ _))) (Nat.le_trans (Nat.le_max_left n m) (Nat.le_succ _)) h]
    exact yG (fun _ _ _ hb=>nZ (ng X (Nat.le_trans (Nat.le_max_right n m) (Nat.le_succ _))) (Nat.le_trans (Nat.le_max_right n m) (Nat.le_succ _)) hb) (Nat.le_max_right n m) hm
  | exit id=>
    refine⟨n+1,_,?_,q⟩
    simp only [pK]
    rw [nZ (ng X (Nat.le_succ n)) (Nat.le_succ n) h]
  | ret=>
    refine⟨n+1,_,?_,q⟩
    simp only [pK]
    rw [nZ (ng X (Nat.le_succ n)) (Nat.le_succ n) h]
end
section
variable {X:Ctx} {e:Env} {Z:St}
theorem Po {Q:Env->St->Prop} :EvO X [] e Z Q↔Q e Z:=by simp [EvO,wo,dZ,iI]
theorem Kq {a:AI} {r:List AI} {Q:Env->St->Prop} :EvO X (a :: r) e Z Q↔EvS X e a Z fun v Z'=>EvO X r (put a.d v e) Z' Q:=by
 constructor
 ·rintro ⟨n,x,h,q⟩
  try dsimp only at h
  simp only [wo] at h
  cases hs:fU X (aFn X n) e a Z with
  | none=>rw [hs] at h;simp at h
  | some y=>rw [hs] at h;exact⟨n,y,hs,n,x,h,q⟩
 ·rintro ⟨n,y,hs,m,x,h,q⟩
  try dsimp only at h hs
  refine⟨max n m,x,?_,q⟩
  simp only [wo]
  rw [yF (ng X (Nat.le_max_left n m)) hs]
  exact Ik (ng X (Nat.le_max_right n m)) h
theorem Pq {Q:Env->St->Prop} :EvD X [] e Z Q↔Q e Z:=by simp [EvD,zO,dZ,iI]
theorem Kr {a:AI} {ag:List AI} {r:List (AI×List AI)} {Q:Env->St->Prop} :
 EvD X ((a,ag) :: r) e Z Q↔EvS X e a Z fun v Z'=>ag.all (w_ X e Z')=true/\EvD X r (put a.d v e) Z' Q:=by
 constructor
 ·rintro ⟨n,x,h,q⟩
  try dsimp only at h
  simp only [zO] at h
  cases hs:fU X (aFn X n) e a Z with
  | none=>rw [hs] at h;simp at h
  | some y=>
    rw [hs] at h
    simp only at h
    split at h
    ·rename_i hall;exact⟨n,y,hs,hall,n,x,h,q⟩
    ·simp at h
 ·rintro ⟨n,y,hs,hall,m,x,h,q⟩
  try dsimp only at h hs
  refine⟨max n m,x,?_,q⟩
  simp only [zO]
  rw [yF (ng X (Nat.le_max_left n m)) hs]
  simp only [hall,if_true]
  exact Il (ng X (Nat.le_max_right n m)) h
variable {Q:AV->St->Prop} {d:Option Nat}
def yI (X:Ctx)(f:AV)(args:List AV)(Z:St)(Q:AV->St->Prop):Prop:=match f with | .fn (.func k) first cap=>Du X k (first ++ args ++ cap) Z Q | _=>False
theorem TJ {k:Nat} {first cap args:List AV} :yI X (.fn (.func k) first cap) args Z Q↔Du X k (first ++ args ++ cap) Z Q:=Iff.rfl
theorem TL {f:Opd} {args:List Opd} :EvS X e ⟨d,none,.call f args⟩ Z Q↔yI X (f.ev e) (args.map (Opd.ev e)) Z Q:=by
 cases hf:f.ev e with
 | fn k a c=>cases k <;> simp [EvS,fU,iH,hf,Du,dZ,yI,gQ]
 | _=>simp only [EvS,fU,iH,hf,dZ,gQ,yI]
def invV (X:Ctx)(x:AV)(m:String)(args:List AV)(Z:St)(Q:AV->St->Prop):Prop:=match x with | .ic t v=>opt (X.meth t m v) (fun k=>Du X k.1 (k.2 :: args) Z Q) | _=>False
theorem X_ {t:Nat} {v:AV} {m:String} {args:List AV} :invV X (.ic t v) m args Z Q↔opt (X.meth t m v) (fun k=>Du X k.1 (k.2 :: args) Z Q):=Iff.rfl
theorem Ya {x:Opd} {m:String} {args:List Opd} :EvS X e ⟨d,none,.inv x m args⟩ Z Q↔invV X (x.ev e) m (args.map (Opd.ev e)) Z Q:=by
 cases hf:x.ev e with
 | ic t v=>cases hm:X.meth t m v <;> simp [EvS,fU,iH,hf,hm,Du,dZ,invV,gQ,iI]
 | _=>simp only [EvS,fU,iH,hf,dZ,gQ,invV]
theorem EvS_op {op:AOp} (h:(match op with | .call _ _ | .inv _ _ _=>false | _=>true)=true):EvS X e ⟨d,none,op⟩ Z Q↔opt (jO X.P (Opd.ev e) op Z) fun r=>Q r.1 r.2:=by
 cases op <;> first | (simp at h;done) | simp only [EvS,fU,iH,dZ]
theorem TM {op:AOp} {g:Nat×Bool} (h:op.pure=true):EvS X e ⟨d,some g,op⟩ Z Q↔opt (fK e (some g)) fun c=>
 opt (kP X.P c e op Z) fun v=>Q v Z:=by
 cases hw:fK e (some g) with
 | none=>simp [EvS,fU,hw,dZ,gQ]
 | some c=>simp only [EvS,fU,hw,h,if_true,dZ,iI,d_]
def Z_ (c:Bool)(A B:Prop):Prop:=if c then A else B
theorem TN {A B:Prop} :Z_ true A B↔A:=Iff.rfl
theorem QO {A B:Prop} :Z_ false A B↔B:=Iff.rfl
theorem ifV_b {t:Bool} {A B:Prop} :Z_ t A B↔(t=true->A)/\(t=false->B):=by cases t <;> simp [Z_]
def Dx (X:Ctx)(ρ:Opd->AV)(op:AOp)(Z:St)(Q:AV->St->Prop):Prop:=Ex (fun n=>iH X (aFn X n) ρ op Z) fun r=>Q r.1 r.2
theorem Pv {op:AOp} {g:Nat×Bool} (h:op.pure=false):EvS X e ⟨d,some g,op⟩ Z Q↔opt (fK e (some g)) fun c=>
 Z_ c (op.bW.all (fun o=>(o.ev e).cnd)=true/\Dx X (fun o=>(o.ev e).val) op Z Q) (Q (.tu []) Z):=by
 cases hw:fK e (some g) with
 | none=>simp [EvS,fU,hw,dZ,gQ]
 | some c=>
   simp only [EvS,fU,hw,h,iI,Z_,Dx]
   cases c with
   | false=>simp [dZ,iI]
   | true=>
     by_cases hc:op.bW.all (fun o=>(o.ev e).cnd)=true
     ·simp [hc]
     ·simp [hc,dZ,gQ]
theorem Gt {ρ:Opd->AV} {f:Opd} {args:List Opd} :Dx X ρ (.call f args) Z Q↔yI X (ρ f) (args.map ρ) Z Q:=by
 cases hf:ρ f with
 | fn k a c=>cases k <;> simp [Dx,iH,hf,Du,dZ,yI,gQ]
 | _=>simp only [Dx,iH,hf,dZ,gQ,yI]
theorem Kt {ρ:Opd->AV} {x:Opd} {m:String} {args:List Opd} :Dx X ρ (.inv x m args) Z Q↔invV X (ρ x) m (args.map ρ) Z Q:=by
 cases hf:ρ x with
 | ic t v=>cases hm:X.meth t m v <;> simp [Dx,iH,hf,hm,Du,dZ,invV,gQ,iI]
 | _=>simp only [Dx,iH,hf,dZ,gQ,invV]
theorem cO {ρ:Opd->AV} {op:AOp} (h:(match op with | .call _ _ | .inv _ _ _=>false | _=>true)=true):Dx X ρ op Z Q↔opt (jO X.P ρ op Z) fun r=>Q r.1 r.2:=by
 cases op <;> first | (simp at h;done) | simp only [Dx,iH,dZ]
def TP:Out->Bool
 | .exit _=>false
 | _=>true
theorem EvF_fn {f:Nat} {F:AF} {args:List AV} (hp:X.fM f=none)(hf:X.fns f=some F)(hl:args.length<=F.nt) :
 Du X f args Z Q↔EvC X F.code (iD 0 args) Z fun o e Z'=>TP o=true/\opt ((wu X.P F.res e Z').map fun v=>norm Z v Z') fun r=>Q r.1 r.2:=by
 constructor
 ·rintro ⟨n,x,h,q⟩
  try dsimp only at h
  cases n with
  | zero=>simp [aFn] at h
  | succ n=>
    simp only [aFn,hp,hf,hl,if_true] at h
    cases hc:bH X (aFn X n) n F.code (iD 0 args) Z with
    | none=>rw [hc] at h;simp at h
    | some y=>
      rw [hc] at h
      obtain⟨o,e',Z'⟩:=y
      refine⟨n,_,hc,?_⟩
      cases o with
      | exit j=>simp at h
      | normal=>exact⟨rfl,x,h,q⟩
      | ret=>exact⟨rfl,x,h,q⟩
 ·rintro ⟨n,⟨o,e',Z'⟩,hc,ho,x,hv,q⟩
  try dsimp only at hc
  refine⟨n+1,x,?_,q⟩
  simp only [aFn,hp,hf,hl,if_true,hc]
  cases o with
  | exit j=>simp [TP] at ho
  | normal=>exact hv
  | ret=>exact hv
theorem kR {f:Nat} {g:List AV->St->Option (AV×St)} {args:List AV} (hp:X.fM f=some g):Du X f args Z Q↔opt (g args Z) fun r=>Q r.1 r.2:=by
 constructor
 ·rintro ⟨n,x,h,q⟩
  try dsimp only at h
  cases n with
  | zero=>simp [aFn] at h
  | succ n=>simp only [aFn,hp] at h;exact⟨x,h,q⟩
 ·rintro ⟨x,h,q⟩
  exact⟨1,x,by simp only [aFn,hp];exact h,q⟩
theorem Yb {f:Nat} {args:List AV} {v:AV} {Z':St} (h:Du X f args Z fun a s=>a=v/\s=Z'):Du X f args Z Q↔Q v Z':=by
 obtain⟨n,x,hx,h1,h2⟩:=h
 constructor
 ·rintro ⟨m,y,hy,q⟩
  try dsimp only at hx hy
  have a:=ng X (Nat.le_max_left n m) _ _ _ _ hx
  have b:=ng X (Nat.le_max_right n m) _ _ _ _ hy
  rw [a] at b
  obtain rfl:=Option.some.inj b
  exact h1▸h2▸q
 ·intro q
  exact⟨n,x,hx,by show Q x.1 x.2;rw [h1,h2];exact q⟩
theorem Dy {f:Nat} {args:List AV} {Q':AV->St->Prop} (h:Du X f args Z Q)(hq:∀v s,Q v s->Q' v s):Du X f args Z Q':=by
 obtain⟨n,x,hx,q⟩:=h
 exact⟨n,x,hx,hq _ _ q⟩
end
theorem yJ {X:Ctx} {c:AC} {e:Env} {Z:St} {Q Q':Out->Env->St->Prop} (h:EvC X c e Z Q)(hq:∀o e s,Q o e s->Q' o e s):EvC X c e Z Q':=by
 obtain⟨n,x,hx,q⟩:=h
 exact⟨n,x,hx,hq _ _ _ q⟩
theorem TQ {X:Ctx} {live:List Nat} {c:AC} {e:Env} {Z:St} {Q Q':Out->Env->St->Prop} (h:EvL X live c e Z Q)(hq:∀o e s,Q o e s->Q' o e s):EvL X live c e Z Q':=by
 obtain⟨n,x,hx,q⟩:=h
 exact⟨n,x,hx,hq _ _ _ q⟩
section
variable {X:Ctx}
@[congr] theorem EvL_congr {l:List Nat} {e e':Env} {a:AC} {Z Z':St} {Q:Out->Env->St->Prop} (he:e=e') (h:Z=Z'):EvL X l a e Z Q↔EvL X l a e' Z' Q:=by rw [h,he]
@[congr] theorem EvF_congr {f:Nat} {a a':List AV} {Z Z':St} {Q:AV->St->Prop} (ha:a=a') (h:Z=Z'):Du X f a Z Q↔Du X f a' Z' Q:=by rw [h,ha]
@[congr] theorem aac {f f':AV} {a a':List AV} {Z Z':St} {Q:AV->St->Prop} (hf:f=f') (ha:a=a') (h:Z=Z'):yI X f a Z Q↔yI X f' a' Z' Q:=by rw [h,ha,hf]
@[congr] theorem invV_congr {f f':AV} {m:String} {a a':List AV} {Z Z':St} {Q:AV->St->Prop} (hf:f=f') (ha:a=a') (h:Z=Z'):invV X f m a Z Q↔invV X f' m a' Z' Q:=by rw [h,ha,hf]
@[congr] theorem opt_congr {α:Type} {o o':Option α} {Q:α->Prop} (h:o=o'):opt o Q↔opt o' Q:=by rw [h]
@[congr] theorem cndV_congr {v v':AV} {A B:Prop} (h:v=v'):Io v A B↔Io v' A B:=by rw [h]
@[congr] theorem ifV_congr {v v':Bool} {A B:Prop} (h:v=v'):Z_ v A B↔Z_ v' A B:=by rw [h]
end
attribute [simp ↓] J8 J9 O_ Pg Ph Pj J_ Pm Ko Pn Po Kq Pq Kr TL Ya EvS_op TM Pv Gt Kt cO
attribute [simp ↓] Out.tV Out.zW Out.Dv Out.yH Out.Dw Out.Gs iI gQ d_ TI
attribute [simp] QN NC cndV_b TN QO ifV_b TJ X_ TP
attribute [simp] get put Opd.ev Opd.isC iD AOp.bW fK AV.val AV.cnd sQ kP merge JM Dh jO aBin aInt aCmp aStr aUn aLen aNil aTas aMn wu sU Di norm AV.flat AV.mF clear
end Go.Abs
namespace Go.Abs
def yK (ops:Array Oper):Option (Nat×Bool)->Option (Nat×Bool)->Bool
 | none,none=>true
 | some (j,w),some (n,w')=>w == w' && ((ops[j]?).bind (·.dst)) == some n
 | _,_=>false
def Px (N:Nat):Option Nat->Bool
 | none=>true
 | some d=>decide (d<N)
def xA (P:Program)(G N:Nat)(ops:Array Oper)(o:Oper)(a:AI):Bool:=o.dst == a.d && Px N a.d && yK ops o.guard a.gd && sH P G o.op a.op
def Dz (P:Program)(G N:Nat)(ops:Array Oper):List Nat->List AI->Bool
 | [],[]=>true
 | i :: is,a :: xs=>(match ops[i]? with | some o=>xA P G N ops o a | none=>false) && Dz P G N ops is xs
 | _,_=>false
def Enters (P:Program)(f:Nat):Prop:=∀(args:Array Value) (w:World),(callFunc f args).run P w= .ok (.enter f args) w
theorem iw {P:Program} {f:Nat} {fn:Func} (hf:P.funcs[f]? =some fn)(hn:(fn.name == "runtime.NumGoroutine")=false)(hb:fn.body.isSome=true):Enters P f:=by
 intro args w
 obtain⟨c,hc⟩:=Option.isSome_iff_exists.1 hb
 have h1:fn.name≠"runtime.NumGoroutine" :=by simpa using hn
 simp [callFunc,hf,h1,hc]
def After (G:Nat)(Y:Mu)(Z:St)(w:World)(r:AV)(Z':St)(e:Ending)(w':World):Prop:=∃v Y',e= .returned v/\aI Y' w' r v/\Step G Y Z w Y' Z' w'
def Does (P:Program)(f:Nat)(aO:Array Value)(w:World)(R:Ending->World->Prop):Prop:=
 ((callFunc f aO).run P w= .ok (.enter f aO) w/\Calls P f aO w R)\/∃v w',(callFunc f aO).run P w= .ok (.value v) w'/\R (.returned v) w'
theorem Does.mono {P:Program} {f:Nat} {aO:Array Value} {w:World} {R R':Ending->World->Prop} (h:Does P f aO w R)(hr:∀e w',R e w'->R' e w'):Does P f aO w R':=by
 rcases h with ⟨h1,h2⟩ | ⟨v,w',h1,h2⟩
 ·exact .inl ⟨h1,h2.mono hr⟩
 ·exact .inr ⟨v,w',h1,hr _ _ h2⟩
def nC (P:Program)(G:Nat)(run:Run):Prop:=∀f args Z r Z',run f args Z=some (r,Z')->∀Y w (aO:Array Value),g_ G Y Z w->aJ Y w args aO.toList->Does P f aO w (After G Y Z w r Z')
structure Ctx.Ok (X:Ctx)(G:Nat):Prop where
 meth:∀t m a k,X.meth t m a=some k->∀(Y:Mu) (v:Value) (w:World),aI Y w a v->∃v',(method (X.P.types.size+Made.depth) t v m).run X.P w= .ok (k.1,v') w/\aI Y w k.2 v'
 fM:∀f g,X.fM f=some g->∀args Z r Z',g args Z=some (r,Z')->∀Y w (aO:Array Value),g_ G Y Z w->aJ Y w args aO.toList->Does X.P f aO w (After G Y Z w r Z')
structure fQ (G N:Nat)(Y:Mu)(w:World)(e:Env)(tmps:Array Value):Prop where
 size:tmps.size=N
 rel:∀n,aI Y w (get e n) (tmps.getD n undef)
section
variable {X:Ctx} {G N:Nat} {Y:Mu} {Z:St} {w:World}
theorem fQ.mono {Y':Mu} {w':World} {e:Env} {tmps:Array Value} (h:fQ G N Y w e tmps)(hm:Y.le Y')(hw:kK w w'):fQ G N Y' w' e tmps:=
 ⟨h.size,fun n=>aI.mono hm hw _ _ (h.rel n)⟩
theorem fQ.put {e:Env} {act:Act} {d:Option Nat} {r:AV} {v:Value} (h:fQ G N Y w e act.tmps)(hd:Px N d=true)(hr:aI Y w r v):fQ G N Y w (Abs.put d r e) (act.put d v).tmps:=by
 cases d with
 | none=>exact h
 | some d=>
   simp only [Px,decide_eq_true_eq] at hd
   refine⟨by simpa [Act.put] using h.size,fun n=>?_⟩
   have hs:=h.size
   simp only [Abs.put,Go.Abs.get,Act.put]
   rw [Array.getD_eq_getD_getElem?,Array.getElem?_setIfInBounds]
   split
   ·rename_i he;subst he
    rw [if_pos (by omega)]
    exact hr
   ·rename_i he
    rw [<-Array.getD_eq_getD_getElem?]
    exact h.rel n
theorem fQ.clear {e:Env} {tmps:Array Value} (h:fQ G N Y w e tmps)(l:List Nat):fQ G N Y w (Abs.clear l e) tmps:=by
 refine⟨h.size,fun n=>?_⟩
 have hg:get (Abs.clear l e) n=get e n\/get (Abs.clear l e) n= .u:=by
  unfold Abs.clear
  induction l with
  | nil=>exact .inr rfl
  | cons d l ih=>
    simp only [List.map_cons,Go.Abs.get]
    split
    ·rename_i he;subst he;exact .inl rfl
    ·exact ih
 rcases hg with hg | hg
 ·rw [hg];exact h.rel n
 ·rw [hg];trivial
theorem u_ (hs:g_ G Y Z w) {e:Env} {act:Act} (h:fQ G N Y w e act.tmps) {x:Operand} {y:Opd} (hk:dh G x y=true):aI Y w (y.ev e) (act.eval x):=by
 unfold dh at hk
 split at hk
 ·simp only [beq_iff_eq] at hk;subst hk;exact h.rel _
 ·have:=AV.qU _ _ hk
  simp only [Opd.ev]
  rw [<-this]
  exact yh _
 ·simp only [fJ,beq_iff_eq,decide_eq_true_eq] at hk
  obtain⟨rfl,hg⟩:=hk
  exact⟨_,0,hs.xk _ hg,rfl⟩
 ·simp only [beq_iff_eq] at hk;subst hk
  exact⟨#[],#[],rfl,rfl,rfl⟩
 ·cases hk
theorem Yc (hs:g_ G Y Z w) {e:Env} {act:Act} (h:fQ G N Y w e act.tmps)(l:List Opd):qY G Y w l (Opd.ev e) act.eval:=fun _ _ hk _=>u_ hs h hk
theorem Py (hs:g_ G Y Z w) {e:Env} {act:Act} (h:fQ G N Y w e act.tmps)(l:List Opd)(hc:∀y∈l,(y.ev e).cnd=true):qY G Y w l (fun y=>(y.ev e).val) act.eval:=
 fun _ y hk hy=>uZ (u_ hs h hk) (hc y hy)
def TR:Option Value->Option Bool
 | some (.bool b)=>some b
 | _=>none
theorem DC {ops:Array Oper} {e:Env} {act:Act} {o:Oper} {g:Option (Nat×Bool)} {c:Bool} (h:fQ G N Y w e act.tmps)(hk:yK ops o.guard g=true)(hw:fK e g=some c) :
 Region.wanted o (yielded ops act.tmps)=c:=by
 cases hg:o.guard with
 | none=>
   rw [hg] at hk
   cases g with
   | none=>simp only [fK,oW] at hw;subst hw;simp [Region.wanted,hg]
   | some g=>simp [yK] at hk
 | some jw=>
   rw [hg] at hk
   obtain⟨j,want⟩:=jw
   cases g with
   | none=>simp [yK] at hk
   | some g=>
     obtain⟨n,want'⟩:=g
     simp only [yK,fJ,beq_iff_eq] at hk
     obtain⟨rfl,hd⟩:=hk
     have hrel:=h.rel n
     have hy:yielded ops act.tmps j=TR act.tmps[n]? :=by
        simp only [yielded,hd,Option.bind_some]
        rfl
     have hget:∀b,act.tmps.getD n undef= .bool b->act.tmps[n]? =some (.bool b):=by
        intro b hb
        simp only [Array.getD] at hb
        split at hb
        ·rename_i hlt;rw [Array.getElem?_eq_getElem hlt];exact congrArg some hb
        ·cases hb
     have hund:act.tmps.getD n undef=undef->TR act.tmps[n]? =none:=by
        intro hu
        simp only [Array.getD] at hu
        split at hu
        ·rename_i hlt;rw [Array.getElem?_eq_getElem hlt];rw [show act.tmps[n]=undef from hu];rfl
        ·rename_i hlt;rw [Array.getElem?_eq_none (by omega)];rfl
     simp only [fK] at hw
     simp only [Region.wanted,hg,hy]
     split at hw
     ·rename_i x hx
      rw [hx] at hrel
      simp only [aI] at hrel
      rw [hget _ hrel]
      simp only [oW] at hw
      subst hw
      cases x <;> cases want <;> rfl
     ·rename_i c' x hx
      rw [hx] at hrel
      simp only [oW] at hw
      cases c' with
      | true=>
        simp only [aI,if_true] at hrel
        rw [hget _ hrel]
        subst hw
        cases x <;> cases want <;> rfl
      | false=>
        simp only [aI] at hrel
        have hr':act.tmps.getD n undef=undef:=hrel
        rw [hund hr']
        subst hw
        cases want <;> rfl
     ·rename_i x hx' hx
      rw [hx] at hrel
      have hr':act.tmps.getD n undef=undef:=hrel
      rw [hund hr']
      simp only [oW] at hw
      subst hw
      cases want <;> rfl
     ·rename_i hx
      rw [hx] at hrel
      obtain⟨a,ha,hl⟩:=hrel
      have hu:act.tmps.getD n undef=undef:=by
       rw [ha]
       simp only [aJ] at hl
       have:a= #[]:=by apply Array.ext';simpa using hl
       rw [this];rfl
      rw [hund hu]
      simp only [oW] at hw
      subst hw
      cases want <;> rfl
     ·cases hw
def DoOp (P:Program)(ops:Array Oper)(o:Oper)(K:Act->World->Prop)(Q:Exit->Act->World->Prop)(act:Act)(w:World):Prop:=
 if Region.wanted o (yielded ops act.tmps) then o.wp P act w K Q\/(o.asks P act w/\LetsOut Q) else K (act.put o.dst undef) w
theorem Pz {P:Program} {o:Oper} {act:Act} {K:Act->World->Prop} {Q:Exit->Act->World->Prop} {r:AV} {Z':St} (h:J4 P G Y Z w (execOp act.eval o) r Z')
 (hK:∀v w' Y',aI Y' w' r v->Step G Y Z w Y' Z' w'->K (act.put o.dst v) w'):o.wp P act w K Q:=by
 obtain⟨n,w',Y',v,h1,h2,h3,h4⟩:=h
 unfold Oper.wp
 rw [h1]
 rcases h2 with rfl | ⟨rfl,rfl⟩
 ·exact hK _ _ _ h3 h4
 ·exact hK _ _ _ h3 h4
theorem PD {P:Program} {run:Run} (hrun:nC P G run) {o:Oper} {act:Act} {K:Act->World->Prop} {Q:Exit->Act->World->Prop} {f:Nat} {args:List AV} {r:AV} {Z':St} {aO:Array Value}
 (hs:g_ G Y Z w) (h:run f args Z=some (r,Z')) (hx:(execOp act.eval o).run P w=(callFunc f aO).run P w) (hr:aJ Y w args aO.toList)
 (hK:∀v w' Y',aI Y' w' r v->Step G Y Z w Y' Z' w'->K (act.put o.dst v) w'):o.wp P act w K Q:=by
 unfold Oper.wp
 rcases hrun _ _ _ _ _ h Y w aO hs hr with ⟨h1,h2⟩ | ⟨v,w',h1,v',Y',hv,hr',hst⟩
 ·rw [hx,h1,Oper.upon_enter]
  refine h2.mono fun e w' he=>?_
  obtain⟨v,Y',rfl,hv,hst⟩:=he
  exact hK _ _ _ hv hst
 ·rw [hx,h1,Oper.upon_value]
  cases hv
  exact hK _ _ _ hr' hst
theorem Gu {run:Run} (hX:X.Ok G)(hrun:nC X.P G run) {o:Oper} {a:AOp} {act:Act} {zJ:Opd->AV} {K:Act->World->Prop} {Q:Exit->Act->World->Prop} {r:AV} {Z':St} (hs:g_ G Y Z w)(hok:sH X.P G o.op a=true)
 (hρ:qY G Y w a.bW zJ act.eval) (hn:yE zJ) (h:iH X run zJ a Z=some (r,Z'))
 (hK:∀v w' Y',aI Y' w' r v->Step G Y Z w Y' Z' w'->K (act.put o.dst v) w'):o.wp X.P act w K Q:=by
 by_cases hcall:∃f args,a= .call f args
 ·obtain⟨f,args,rfl⟩:=hcall
  simp only [iH] at h
  cases hop:o.op with
  | call c=>
    rw [hop] at hok
    simp only [sH,tN] at hok
    cases hc:c.callee with
    | invoke x m=>rw [hc] at hok;simp at hok
    | builtin b=>
      rw [hc] at hok
      simp only [lI] at hok
      split at hok <;> simp_all
    | value fo=>
      rw [hc] at hok
      simp only [fJ] at hok
      split at h
      ·rename_i k first cap hf
       have hfr:=hρ _ _ hok.1 (by simp [AOp.bW])
       rw [hf] at hfr
       obtain⟨ca,cc,hfv,r1,r2⟩:=hfr
       have hargs:=nY hρ hok.2 (fun y hy=>by simp [AOp.bW,hy])
       refine PD hrun (aO:=ca ++ c.args.map act.eval ++ cc) hs h ?_ ?_ hK
       ·simp [execOp,hop,resolve,hc,hfv,Deferred.ofValue,invoke]
       ·simp only [Array.toList_append,Array.toList_map]
        exact(r1.append hargs).append r2
      ·cases h
  | _=>rw [hop] at hok;simp [sH] at hok
 by_cases hinv:∃x m args,a= .inv x m args
 ·obtain⟨x,m,args,rfl⟩:=hinv
  simp only [iH] at h
  cases hop:o.op with
  | call c=>
    rw [hop] at hok
    simp only [sH,tN] at hok
    cases hc:c.callee with
    | value fo=>rw [hc] at hok;simp at hok
    | builtin b=>
      rw [hc] at hok
      simp only [lI] at hok
      split at hok <;> simp_all
    | invoke xo m'=>
      rw [hc] at hok
      simp only [fJ,beq_iff_eq] at hok
      obtain⟨⟨hx,rfl⟩,hargs⟩:=hok
      split at h
      ·rename_i t v hxv
       split at h
       ·rename_i k hk
        have hxr:=hρ _ _ hx (by simp [AOp.bW])
        rw [hxv] at hxr
        obtain⟨y,hy,hyr⟩:=hxr
        have hargs':=nY hρ hargs (fun y hy=>by simp [AOp.bW,hy])
        obtain⟨y',hm,hyr'⟩:=hX.meth t _ _ k hk Y y w hyr
        refine PD hrun (aO:=#[y'] ++ c.args.map act.eval) hs h ?_ ?_ hK
        ·have he:(#[Value.iface t y] ++ c.args.map act.eval).extract 1 (#[Value.iface t y] ++ c.args.map act.eval).size=c.args.map act.eval:=by
               apply Array.ext'
               simp only [Array.toList_extract,Array.toList_append,List.extract_eq_take_drop,Array.size_append,Array.size_map]
               simp [List.take_of_length_le]
         have h0:(#[Value.iface t y] ++ c.args.map act.eval)[0]? =some (Value.iface t y):=by rw [Array.getElem?_append];simp
         have h2:(c.args.map act.eval).extract 0 c.args.size=c.args.map act.eval:=by
               apply Array.ext'
               simp [List.take_of_length_le]
         simp [execOp,hop,resolve,hc,hy,invoke,callMethod,h0,hm,h2]
        ·simp only [Array.toList_append,Array.toList_map]
         exact⟨y',_,rfl,hyr',hargs'⟩
       ·cases h
      ·cases h
  | _=>rw [hop] at hok;simp [sH] at hok
 have h':jO X.P zJ a Z=some (r,Z'):=by
  cases a <;> first | exact h | exact absurd ⟨_,_,rfl⟩ hcall | exact absurd ⟨_,_,_,rfl⟩ hinv
 exact Pz (TF hs hok hρ hn h') hK
end
end Go.Abs
namespace Go.Abs
theorem Ku (e:Env):yE (Opd.ev e):=by
 intro v h
 simp only [Opd.ev] at h
 rw [h];rfl
theorem yL (e:Env):yE (fun y=>(y.ev e).val):=fun _ h=>h
theorem DF {P:Program} {ρ:Opd->AV} {op:AOp} {Z Z':St} {r:AV} (hp:op.pure=true)(h:jO P ρ op Z=some (r,Z')):Z'= Z:=by
 cases op <;> simp only [AOp.pure,nR] at hp <;> simp only [jO] at h
 all_goals first
  | (rw [iU] at h;obtain⟨q,_,h⟩:=h;cases h;rfl)
  | (cases h;rfl)
  | (split at h <;> first | (cases h;done) | (cases h;rfl) | (rw [iU] at h;obtain⟨q,_,h⟩:=h;cases h;rfl))
section
variable {X:Ctx} {G N:Nat} {Y:Mu} {Z:St} {w:World} {ops:Array Oper}
theorem xB {run:Run} {ρ:Opd->AV} {op:AOp} (hp:op.pure=true):iH X run ρ op Z=jO X.P ρ op Z:=by
 cases op <;> first | rfl | (simp [AOp.pure] at hp)
theorem Yd {e:Env} {l:List Opd} (h:(l.all fun o=>oZ true (o.ev e).cnd)=true):∀y∈l,(y.ev e).cnd=true:=by
 simp only [List.all_eq_true,iO] at h
 exact h
theorem QS {o:Oper} {q a b:Opd} {e:Env} {act:Act} {r:AV} (hs:g_ G Y Z w)(he:fQ G N Y w e act.tmps)(hok:sH X.P G o.op (.pick q a b)=true)
 (h:Dh true (q.ev e) (a.ev e) (b.ev e)=some r):J4 X.P G Y Z w (execOp act.eval o) r Z:=by
 cases ho:o.op <;> rw [ho] at hok <;> simp only [sH,nR] at hok
 case pick c x y=>
  simp only [fJ] at hok
  unfold Dh at h
  split at h
  ·rename_i z hz
   split at h
   ·rename_i hi
    cases h
    simp only [iO,fJ,Bool.true_and] at hi
    have hq:=uZ (u_ hs he hok.1.1) hi.1.1
    rw [hz] at hq
    simp only [aI] at hq
    refine⟨.value (if z then act.eval x else act.eval y),w,Y,_,?_,.inl rfl,?_,Step.refl hs⟩
    ·simp [execOp,ho,hq,asBool]
    ·simp only [aI,if_true]
     refine Gl (fun ht=>uZ (u_ hs he hok.1.2) (by simpa [ht] using hi.1.2)) (fun ht=>uZ (u_ hs he hok.2) (by simpa [ht] using hi.2))
   ·cases h
  ·cases h
 case call c=>
  unfold tN at hok
  split at hok <;> rename_i h1 h2 <;> first | (cases h2;done) | skip
  all_goals simp_all [lI]
theorem guard_false {P:Program} {e:Env} {op:AOp} {r:AV} (h:kP P false e op Z=some r):∃v,r= .cd false v:=by
 simp only [kP,nR,if_false,oW] at h
 exact⟨_,h.symm⟩
theorem guard_true {o:Oper} {a:AOp} {e:Env} {act:Act} {r:AV} (hs:g_ G Y Z w)(he:fQ G N Y w e act.tmps)(hok:sH X.P G o.op a=true)(hp:a.pure=true)
 (h0:kP X.P true e a Z=some r):J4 X.P G Y Z w (execOp act.eval o) r Z:=by
 have h:nH X.P e a Z=some r:=h0
 by_cases hpk:∃q x y,a= .pick q x y
 ·obtain⟨q,x,y,rfl⟩:=hpk
  exact QS hs he hok h
 have h':sQ true (a.bW.all (fun o=>oZ true (o.ev e).cnd)) (jO X.P (fun o=>(o.ev e).val) a Z)=some r:=by
  cases a <;> first | exact h | exact absurd ⟨_,_,_,rfl⟩ hpk
 unfold sQ at h'
 split at h'
 ·rename_i q hq
  split at h'
  ·rename_i hi
   cases h'
   obtain⟨r1,Z1⟩:=q
   have hZ:=DF hp hq
   subst hZ
   obtain⟨n,w',Y',v,h1,h2,h3,h4⟩:=TF hs hok (Py hs he a.bW (Yd hi)) (yL e) hq
   exact⟨n,w',Y',v,h1,h2,by simpa [aI] using h3,h4⟩
  ·cases h'
 ·simp at h'
theorem yM {run:Run} (hX:X.Ok G)(hrun:nC X.P G run) {o:Oper} {a:AI} {e:Env} {act:Act} {K:Act->World->Prop} {Q:Exit->Act->World->Prop} {r:AV} {Z':St} (hs:g_ G Y Z w)(he:fQ G N Y w e act.tmps)
 (hok:xA X.P G N ops o a=true) (h:fU X run e a Z=some (r,Z'))
 (hK:∀v w' Y',aI Y' w' r v->Step G Y Z w Y' Z' w'->K (act.put o.dst v) w'):DoOp X.P ops o K Q act w:=by
 simp only [xA,fJ,beq_iff_eq] at hok
 obtain⟨⟨⟨hd,hN⟩,hg⟩,hop⟩:=hok
 unfold fU at h
 unfold DoOp
 split at h
 ·rename_i hgd
  rw [hgd] at hg
  rw [DC he hg (c:=true) rfl,if_pos rfl]
  exact .inl (Gu hX hrun hs hop (Yc hs he _) (Ku e) h hK)
 ·rename_i g hgd
  rw [hgd] at hg
  split at h
  ·cases h
  ·rename_i c hc
   rw [DC he hg hc]
   split at h
   ·rename_i hp
    rw [iU] at h
    obtain⟨q,hq,h⟩:=h;cases h
    cases c with
    | true=>
      rw [if_pos rfl]
      exact .inl (Pz (guard_true hs he hop hp hq) hK)
    | false=>
      rw [if_neg (by simp)]
      obtain⟨v,rfl⟩:=guard_false hq
      exact hK _ _ _ (by simp [aI]) (Step.refl hs)
   ·cases c with
    | true=>
      rw [if_pos rfl] at h ⊢
      split at h
      ·rename_i ha
       simp only [List.all_eq_true] at ha
       exact .inl (Gu hX hrun hs hop (Py hs he _ ha) (yL e) h hK)
      ·cases h
    | false=>
      simp only [nR,if_false,oW,Prod.mk.injEq] at h ⊢
      obtain⟨rfl,rfl⟩:=h
      exact hK _ _ _ ⟨#[],rfl,rfl⟩ (Step.refl hs)
def wP (ds:List Deferred)(G N:Nat)(Y:Mu)(Z:St)(w:World)(e':Env)(Z':St)(act':Act)(w':World):Prop:=
 ∃ Y',Step G Y Z w Y' Z' w'/\fQ G N Y' w' e' act'.tmps/\act'.defers=ds
theorem wQ (act:Act)(d:Option Tmp)(v:Value):(act.put d v).defers=act.defers:=by cases d <;> rfl
theorem Ip {ds:List Deferred} {run:Run} (hX:X.Ok G)(hrun:nC X.P G run) {Q:Exit->Act->World->Prop} :∀(is:List Nat) (l:List AI) (e:Env) (act:Act) (Y:Mu) (Z:St) (w:World) (e':Env) (Z':St),
 Dz X.P G N ops is l=true->g_ G Y Z w->fQ G N Y w e act.tmps->act.defers=ds->wo X run l e Z=some (e',Z')->
 (∀act' w',wP ds G N Y Z w e' Z' act' w'->Q .normal act' w')->wpOps X.P ops Q is act w
 | [],[],e,act,Y,Z,w,e',Z',_,hs,he,hd,h,hQ=>by
   cases h
   exact hQ _ _ ⟨Y,Step.refl hs,he,hd⟩
 | [],_ :: _,_,_,_,_,_,_,_,hk,_,_,_,_,_=>by simp [Dz] at hk
 | _ :: _,[],_,_,_,_,_,_,_,hk,_,_,_,_,_=>by simp [Dz] at hk
 | i :: is,a :: l,e,act,Y,Z,w,e',Z',hk,hs,he,hd,h,hQ=>by
   simp only [Dz,fJ] at hk
   obtain⟨h1,h2⟩:=hk
   split at h1
   ·rename_i o ho
    simp only [wo] at h
    split at h
    ·rename_i v Z1 hst
     rw [wpOps]
     simp only [ho]
     refine yM (ops:=ops) hX hrun hs he h1 hst fun u w' Y' hv hstep=>?_
     have hk1:=h1
     simp only [xA,fJ,beq_iff_eq] at hk1
     have he':=(he.mono hstep.ext hstep.xq)
     refine Ip (ds:=ds) hX hrun is l _ _ Y' Z1 w' e' Z' h2 hstep.wB (by rw [hk1.1.1.1];exact he'.put hk1.1.1.2 hv) (by rw [wQ];exact hd) h ?_
     intro act' w'' hl
     obtain⟨Y2,hs2,he2,hd2⟩:=hl
     exact hQ _ _ ⟨Y2,hstep.trans hs2,he2,hd2⟩
    ·cases h
   ·cases h1
end
end Go.Abs
namespace Go.Abs
def Opd.sl:Opd->List Nat
 | .t n=>[n]
 | .c _=>[]
def AI.slots (a:AI):List Nat:=a.op.bW.flatMap Opd.sl ++ (match a.gd with | some (n,_)=>[n] | none=>[])
def AOp.still:AOp->Bool
 | .load _ _ | .slc _ _ _ _ | .lku _ _ _ _ | .mln _ _=>false
 | op=>op.pure
section
variable {X:Ctx} {P:Program} {G N:Nat} {Z:St} {ops:Array Oper}
theorem Gv {ρ ρ':Opd->AV} {op:AOp} (h:∀y∈op.bW,ρ y=ρ' y):jO P ρ op Z=jO P ρ' op Z:=by
 have hm:∀l:List Opd,(∀y∈l,ρ y=ρ' y)->l.map ρ=l.map ρ':=fun l hl=>List.map_congr_left hl
 have hp:∀l:List (Nat×Opd),(∀y∈l.map (·.2),ρ y=ρ' y)->(l.map fun q=>(q.1,ρ q.2))=l.map fun q=>(q.1,ρ' q.2):=fun l hl=>
  List.map_congr_left fun q hq=>by rw [hl q.2 (List.mem_map.2 ⟨q,hq,rfl⟩)]
 cases op
 case build t ps=>simp only [jO,AOp.bW] at h ⊢;rw [hp _ h]
 case bsl t n ps=>simp only [jO,AOp.bW] at h ⊢;rw [hp _ h]
 case mkf f a c=>
  simp only [jO,AOp.bW] at h ⊢
  rw [hm a fun y hy=>h y (by simp [hy]),hm c fun y hy=>h y (by simp [hy])]
 case mn mx xs=>simp only [jO,AOp.bW] at h ⊢;rw [hm _ h]
 case mkm t r=>
  simp only [AOp.bW] at h
  have h2:r.map ρ=r.map ρ':=by
   cases r with
   | none=>rfl
   | some y=>simp only [Option.map_some];rw [h y (by simp)]
  simp only [jO]
  rw [h2]
 case sl3 t x l hh m=>
  simp only [AOp.bW] at h
  have h1:ρ x=ρ' x:=h x (by simp)
  have h2:l.map ρ=l.map ρ':=by
   cases l with
   | none=>rfl
   | some y=>simp only [Option.map_some];rw [h y (by simp)]
  have h3:ρ hh=ρ' hh:=h hh (by simp)
  have h4:ρ m=ρ' m:=h m (by simp)
  simp only [jO]
  rw [h1,h2,h3,h4]
 case slc t x l hh=>
  simp only [AOp.bW] at h
  have h1:ρ x=ρ' x:=h x (by simp)
  have h2:l.map ρ=l.map ρ':=by
   cases l with
   | none=>rfl
   | some y=>simp only [Option.map_some];rw [h y (by simp)]
  have h3:hh.map ρ=hh.map ρ':=by
   cases hh with
   | none=>rfl
   | some y=>simp only [Option.map_some];rw [h y (by simp)]
  simp only [jO]
  rw [h1,h2,h3]
 all_goals first
  | rfl
  | (simp only [AOp.bW,List.mem_cons,List.not_mem_nil,or_false,forall_eq_or_imp,forall_eq] at h;simp only [jO,h])
theorem Bq {run:Run} {ρ ρ':Opd->AV} {op:AOp} (h:∀y∈op.bW,ρ y=ρ' y):iH X run ρ op Z=iH X run ρ' op Z:=by
 have hm:∀l:List Opd,(∀y∈l,ρ y=ρ' y)->l.map ρ=l.map ρ':=fun l hl=>List.map_congr_left hl
 cases op
 case call f args=>simp only [iH,AOp.bW] at h ⊢;rw [h f (by simp),hm args fun y hy=>h y (by simp [hy])]
 case inv x m args=>simp only [iH,AOp.bW] at h ⊢;rw [h x (by simp),hm args fun y hy=>h y (by simp [hy])]
 all_goals exact Gv (P:=X.P) (Z:=Z) h
theorem TS {e e':Env} {y:Opd} (h:∀x∈y.sl,get e x=get e' x):y.ev e=y.ev e':=by
 cases y with
 | c v=>rfl
 | t n=>exact h n (by simp [Opd.sl])
theorem all_congr {l:List Opd} {p q:Opd->Bool} (h:∀y∈l,p y=q y):l.all p=l.all q:=by
 induction l with
 | nil=>rfl
 | cons y l ih=>simp only [List.all_cons];rw [h y (by simp),ih fun z hz=>h z (by simp [hz])]
theorem Iq {c:Bool} {e e':Env} {op:AOp} (h:∀y∈op.bW,y.ev e=y.ev e'):kP P c e op Z=kP P c e' op Z:=by
 have hl:sQ true (op.bW.all (fun o=>oZ true (o.ev e).cnd)) (jO P (fun o=>(o.ev e).val) op Z)=sQ true (op.bW.all (fun o=>oZ true (o.ev e').cnd)) (jO P (fun o=>(o.ev e').val) op Z):=by
  rw [all_congr (q:=fun o=>oZ true (o.ev e').cnd) fun y hy=>by rw [h y hy],Gv (ρ':=fun o=>(o.ev e').val) fun y hy=>by rw [h y hy]]
 suffices nH P e op Z=nH P e' op Z by unfold kP;rw [this]
 by_cases hpk:∃q x y,op= .pick q x y
 ·obtain⟨q,x,y,rfl⟩:=hpk
  simp only [nH]
  rw [h q (by simp [AOp.bW]),h x (by simp [AOp.bW]),h y (by simp [AOp.bW])]
 ·cases op <;> first | exact hl | exact absurd ⟨_,_,_,rfl⟩ hpk
theorem mJ {run:Run} {e e':Env} {a:AI} (h:∀x∈a.slots,get e x=get e' x):fU X run e a Z=fU X run e' a Z:=by
 have ho:∀y∈a.op.bW,y.ev e=y.ev e':=fun y hy=>TS fun x hx=>h x (by
  simp only [AI.slots,List.mem_append,List.mem_flatMap];exact .inl ⟨y,hy,hx⟩)
 unfold fU
 cases hg:a.gd with
 | none=>exact Bq ho
 | some g=>
   obtain⟨n,w⟩:=g
   have hw:fK e (some (n,w))=fK e' (some (n,w)):=by
    simp only [fK]
    rw [h n (by simp [AI.slots,hg])]
   simp only [hw]
   cases fK e' (some (n,w)) with
   | none=>rfl
   | some c=>
     simp only []
     rw [Iq ho,all_congr (q:=fun o=>(o.ev e').cnd) fun y hy=>by rw [ho y hy],Bq (ρ':=fun o=>(o.ev e').val) fun y hy=>by rw [ho y hy]]
theorem Kv {o:Option AV} {v:AV} {Z1:St} (h:o.map (·,Z)=some (v,Z1))(Z':St):o.map (·,Z')=some (v,Z'):=by
 cases o with
 | none=>cases h
 | some q=>cases h;rfl
theorem zX {ρ:Opd->AV} {op:AOp} {Z1:St} {v:AV} (hs:op.still=true)(h:jO P ρ op Z=some (v,Z1))(Z':St):jO P ρ op Z'= some (v,Z'):=by
 cases op <;> simp only [AOp.still,AOp.pure,nR] at hs <;> simp only [jO] at h ⊢
 all_goals first
  | exact Kv h Z'
  | (cases h;rfl)
  | (split at h <;> first | (cases h;done) | (cases h;rfl) | exact Kv h Z')
theorem xC {op:AOp} (h:op.still=true):op.pure=true:=by
 cases op <;> first | exact h | rfl
theorem QT {c ok:Bool} {q q':Option (AV×St)} (h:q.map (·.1)=q'.map (·.1)):sQ c ok q=sQ c ok q':=by
 cases q <;> cases q' <;> simp_all [sQ]
theorem DJ {ρ:Opd->AV} {op:AOp} (hs:op.still=true)(Z Z':St):(jO P ρ op Z).map (·.1)=(jO P ρ op Z').map (·.1):=by
 cases h:jO P ρ op Z with
 | some q=>rw [zX hs (Z1:=q.2) (v:=q.1) h Z'];rfl
 | none=>
   cases h':jO P ρ op Z' with
   | none=>rfl
   | some q=>rw [zX hs (Z1:=q.2) (v:=q.1) h' Z] at h;cases h
theorem Ir {c:Bool} {e:Env} {op:AOp} (hs:op.still=true)(Z Z':St):kP P c e op Z=kP P c e op Z':=by
 have hl:=QT (c:=true) (ok:=op.bW.all (fun o=>oZ true (o.ev e).cnd)) (DJ (P:=P) (ρ:=fun o=>(o.ev e).val) hs Z Z')
 suffices nH P e op Z=nH P e op Z' by unfold kP;rw [this]
 by_cases hpk:∃q x y,op= .pick q x y
 ·obtain⟨q,x,y,rfl⟩:=hpk;rfl
 ·cases op <;> first | exact hl | exact absurd ⟨_,_,_,rfl⟩ hpk
theorem xE {run:Run} {e:Env} {a:AI} {Z1:St} {v:AV} (hp:a.op.pure=true)(h:fU X run e a Z=some (v,Z1)):Z1=Z:=by
 unfold fU at h
 split at h
 ·rw [xB hp] at h;exact DF hp h
 ·split at h
  ·cases h
  ·rw [if_pos hp,iU] at h
   obtain⟨q,_,h⟩:=h;cases h;rfl
theorem Kw {run:Run} {e:Env} {a:AI} {Z1:St} {v:AV} (hs:a.op.still=true)(h:fU X run e a Z=some (v,Z1))(Z':St):fU X run e a Z'= some (v,Z'):=by
 have hp:=xC hs
 unfold fU at h ⊢
 split at h
 ·rename_i hg
  rw [xB hp] at h
  rw [xB hp]
  exact zX hs h Z'
 ·split at h
  ·cases h
  ·rename_i c hc
   rw [if_pos hp,iU] at h
   obtain⟨q,hq,h⟩:=h;cases h
   simp only [hc,hp,if_true]
   rw [Ir hs Z' Z,hq];rfl
end
structure DI where
 i:Nat
 a:AI
 again:List AI
 Gx:List Nat
def iQ (ops:Array Oper)(i:Nat):List Nat:=match ops[i]? with
 | some o=>(o.after.toList.filter (Region.binds .any)).map (·.on)
 | none=>[]
def okAt (P:Program)(G N:Nat)(ops:Array Oper)(i:Nat)(a:AI):Bool:=match ops[i]? with
 | some o=>xA P G N ops o a
 | none=>false
def uni:List Nat->List Nat->List Nat
 | [],l=>l
 | j :: js,l=>uni js (if l.contains j then l else j :: l)
def aad (done:List DI):List Nat->List Nat->List Nat
 | [],l=>l
 | j :: js,l=>aad done js (match done.find? (·.i == j) with | some t=>uni t.Gx l | none=>l)
def DK (P:Program)(G N:Nat)(ops:Array Oper):List (AI×List AI)->List DI->List DI
 | [],done=>done.reverse
 | (a,ag) :: r,done=>match (List.range ops.size).find? (fun i=>!(done.any (·.i == i)) && okAt P G N ops i a) with
   | some i=>DK P G N ops r (⟨i,a,ag,aad done (iQ ops i) (iQ ops i)⟩ :: done)
   | none=>[]
def Ky (P:Program)(G N:Nat)(ops:Array Oper)(T:List DI)(p:Nat)(t:DI):Bool:=
 okAt P G N ops t.i t.a &&
 (iQ ops t.i).all (fun j=>(T.take p).any (·.i == j)) &&
 t.Gx.all fun j=>(iQ ops t.i).contains j || (T.take p).any fun b=>(iQ ops t.i).contains b.i && b.Gx.contains j
def tY (P:Program)(G N:Nat)(ops:Array Oper)(T:List DI)(q:Nat)(b:DI)(p:Nat)(a:DI):Bool:=
 b.i != a.i &&
 (match b.a.d with
    | some x=>a.a.d != some x && (!(a.a.slots.contains x) || a.Gx.contains b.i)
    | none=>true) &&
 (match a.a.d with
    | some x=>!(b.a.slots.contains x) || a.Gx.contains b.i
    | none=>true) &&
 (b.a.op.pure || a.a.op.still || a.Gx.contains b.i) &&
 (a.a.op.pure || !b.a.op.pure || b.a.op.still || a.Gx.contains b.i || a.again.any fun b'=>okAt P G N ops b.i b' && b'.op.pure && b'.slots.all (fun x=>b.a.slots.contains x && ((T.take p).drop q).all fun r=>r.a.d != some x))
def iV (P:Program)(G N:Nat)(ops:Array Oper)(T:List DI):Bool:=
 (List.range ops.size).all (fun i=>T.any (·.i == i)) &&
 (List.range T.length).all fun p=>match T[p]? with
    | some t=>Ky P G N ops T p t && (List.range p).all fun q=>match T[q]? with
      | some b=>tY P G N ops T q b p t
      | none=>true
    | none=>true
def ND (i:Nat)(k:Nat->Bool):Bool:=match i with
 | 0=>k 0
 | n+1=>k (n+1)
def Cm:List Nat->(List Nat->Bool)->Bool
 | [],k=>k []
 | i :: l,k=>ND i fun i'=>Cm l fun l'=>k (i' :: l')
def Iu:List DI->(List DI->Bool)->Bool
 | [],k=>k []
 | ⟨i,a,ag,Gx⟩ :: r,k=>ND i fun i'=>Cm Gx fun anc'=>Iu r fun r'=>k (⟨i',a,ag,anc'⟩ :: r')
theorem Gy (i:Nat)(k:Nat->Bool):ND i k=k i:=by cases i <;> rfl
theorem DL:∀(l:List Nat) (k:List Nat->Bool),Cm l k=k l
 | [],_=>rfl
 | i :: l,k=>by simp only [Cm,Gy,DL l]
theorem Gz:∀(l:List DI) (k:List DI->Bool),Iu l k=k l
 | [],_=>rfl
 | ⟨i,a,ag,Gx⟩ :: r,k=>by simp only [Iu,Gy,DL,Gz r]
def PG (P:Program)(G N:Nat)(ops:Array Oper)(l:List (AI×List AI)):Bool:=
 Iu (DK P G N ops l []) fun T=>iV P G N ops T && T.length == l.length
theorem GH {P:Program} {G N:Nat} {ops:Array Oper} :∀(l:List (AI×List AI)) (done:List DI),(DK P G N ops l done).length=l.length+done.length->
 (DK P G N ops l done).map (fun t=>(t.a,t.again))=done.reverse.map (fun t=>(t.a,t.again)) ++ l
 | [],done,_=>by simp [DK]
 | (a,ag) :: r,done,h=>by
   unfold DK at h ⊢
   split
   ·rename_i i hi
    rw [hi] at h
    simp only at h
    rw [GH r _ (by rw [h];simp;omega)]
    simp
   ·rename_i hi
    rw [hi] at h
    simp at h
    omega
end Go.Abs
namespace Go.Abs
structure Tab (P:Program)(G N:Nat)(ops:Array Oper)(T:List DI):Prop where
 all:∀i<ops.size,∃(p:Nat) (t:DI),T[p]? =some t/\t.i=i
 at':∀(p:Nat) (t:DI),T[p]? =some t->∃o,ops[t.i]? =some o/\xA P G N ops o t.a=true
 edge:∀(p:Nat) (t:DI),T[p]? =some t->∀j∈iQ ops t.i,∃(q:Nat) (b:DI),q<p/\T[q]? =some b/\b.i=j
 Gx:∀(p:Nat) (t:DI),T[p]? =some t->∀j∈t.Gx,j∈iQ ops t.i\/∃(q:Nat) (b:DI),q<p/\T[q]? =some b/\b.i∈iQ ops t.i/\j∈b.Gx
 ne:∀(q:Nat) (b:DI) (p:Nat) (a:DI),q<p->T[q]? =some b->T[p]? =some a->b.i≠a.i
 dst:∀(q:Nat) (b:DI) (p:Nat) (a:DI),q<p->T[q]? =some b->T[p]? =some a->∀x,b.a.d=some x->a.a.d≠some x
 raw:∀(q:Nat) (b:DI) (p:Nat) (a:DI),q<p->T[q]? =some b->T[p]? =some a->∀x,b.a.d=some x->x∈a.a.slots->b.i∈a.Gx
 war:∀(q:Nat) (b:DI) (p:Nat) (a:DI),q<p->T[q]? =some b->T[p]? =some a->∀x,a.a.d=some x->x∈b.a.slots->b.i∈a.Gx
 eff:∀(q:Nat) (b:DI) (p:Nat) (a:DI),q<p->T[q]? =some b->T[p]? =some a->b.a.op.pure=false->a.a.op.still=false->b.i∈a.Gx
 again:∀(q:Nat) (b:DI) (p:Nat) (a:DI),q<p->T[q]? =some b->T[p]? =some a->a.a.op.pure=false->b.a.op.pure=true->b.a.op.still=false->b.i∉a.Gx->
  ∃ b'∈a.again,(∃o,ops[b.i]? =some o/\xA P G N ops o b'= true)/\b'.op.pure=true/\∀x∈b'.slots,x∈b.a.slots/\∀(r:Nat) (c:DI),q<=r->r<p->T[r]? =some c->c.a.d≠some x
theorem GI {P:Program} {G N:Nat} {ops:Array Oper} {i:Nat} {a:AI} (h:okAt P G N ops i a=true):∃o,ops[i]? =some o/\xA P G N ops o a=true:=by
 unfold okAt at h
 split at h
 ·rename_i o ho;exact⟨o,ho,h⟩
 ·cases h
theorem Kz {α:Type} {l:List α} {p:Nat} {x:α} (h:x∈l.take p):∃q,q<p/\l[q]? =some x:=by
 obtain⟨q,hq⟩:=List.getElem?_of_mem h
 rw [List.getElem?_take] at hq
 split at hq
 ·exact⟨q,by assumption,hq⟩
 ·cases hq
theorem NG {P:Program} {G N:Nat} {ops:Array Oper} {T:List DI} (h:iV P G N ops T=true):Tab P G N ops T:=by
 simp only [iV,fJ,List.all_eq_true,List.mem_range,List.any_eq_true,beq_iff_eq] at h
 obtain⟨h1,h2⟩:=h
 have one:∀(p:Nat) (t:DI),T[p]? =some t->Ky P G N ops T p t=true:=by
  intro p t ht
  have:=h2 p (eP ht)
  rw [ht] at this
  simp only [fJ] at this
  exact this.1
 have pair:∀(q:Nat) (b:DI) (p:Nat) (a:DI),q<p->T[q]? =some b->T[p]? =some a->tY P G N ops T q b p a=true:=by
  intro q b p a zY hb ha
  have:=h2 p (eP ha)
  rw [ha] at this
  simp only [fJ,List.all_eq_true,List.mem_range] at this
  have:=this.2 q zY
  rw [hb] at this
  exact this
 refine⟨?_,?_,?_,?_,?_,?_,?_,?_,?_,?_⟩
 ·intro i hi
  obtain⟨t,ht,hti⟩:=h1 i hi
  obtain⟨p,hp⟩:=List.getElem?_of_mem ht
  exact⟨p,t,hp,hti⟩
 ·intro p t ht
  have:=one p t ht
  simp only [Ky,fJ] at this
  exact GI this.1.1
 ·intro p t ht j hj
  have:=one p t ht
  simp only [Ky,fJ,List.all_eq_true,List.any_eq_true,beq_iff_eq] at this
  obtain⟨b,hb,hbj⟩:=this.1.2 j hj
  obtain⟨q,hq,hqb⟩:=Kz hb
  exact⟨q,b,hq,hqb,hbj⟩
 ·intro p t ht j hj
  have:=one p t ht
  simp only [Ky,fJ,List.all_eq_true,List.any_eq_true,beq_iff_eq,Bool.or_eq_true,List.contains_iff_mem] at this
  rcases this.2 j hj with h | ⟨b,hb,hbj⟩
  ·exact .inl h
  ·obtain⟨q,hq,hqb⟩:=Kz hb
   exact .inr ⟨q,b,hq,hqb,hbj.1,hbj.2⟩
 ·intro q b p a zY hb ha
  have:=pair q b p a zY hb ha
  simp only [tY,fJ,bne_iff_ne] at this
  exact this.1.1.1.1
 ·intro q b p a zY hb ha x hx
  have:=pair q b p a zY hb ha
  simp only [tY,fJ,hx,bne_iff_ne] at this
  exact this.1.1.1.2.1
 ·intro q b p a zY hb ha x hx hs
  have:=pair q b p a zY hb ha
  simp only [tY,fJ,hx,Bool.or_eq_true,Bool.not_eq_true',List.contains_iff_mem] at this
  rcases this.1.1.1.2.2 with h | h
  ·rw [List.contains_eq_mem] at h;simp at h;exact absurd hs h
  ·exact h
 ·intro q b p a zY hb ha x hx hs
  have:=pair q b p a zY hb ha
  simp only [tY,fJ,hx,Bool.or_eq_true,Bool.not_eq_true',List.contains_iff_mem] at this
  rcases this.1.1.2 with h | h
  ·rw [List.contains_eq_mem] at h;simp at h;exact absurd hs h
  ·exact h
 ·intro q b p a zY hb ha hx hs
  have:=pair q b p a zY hb ha
  simp only [tY,fJ,hx,hs,Bool.or_eq_true,List.contains_iff_mem,nR,false_or] at this
  exact this.1.2
 ·intro q b p a zY hb ha hx hs1 hs hn
  have:=pair q b p a zY hb ha
  simp only [tY,fJ,hx,hs,hs1,Bool.or_eq_true,List.contains_iff_mem,nR,false_or,Bool.not_true,or_false,hn,List.any_eq_true,List.all_eq_true,bne_iff_ne] at this
  obtain⟨b',hb',⟨h3,h4⟩,h5⟩:=this.2
  refine⟨b',hb',GI h3,h4,fun x hx=>⟨(h5 x hx).1,fun r c hr hrp hc=>(h5 x hx).2 c ?_⟩⟩
  refine List.mem_of_getElem? (i:=r - q) ?_
  rw [List.getElem?_drop,List.getElem?_take,if_pos (by omega),show q+(r - q)=r by omega]
  exact hc
end Go.Abs
namespace Go.Abs
theorem yN {d:Nat} {v:AV} {e:Env} :get (put (some d) v e) d=v:=by simp [put,get]
theorem lJ {d:Option Nat} {v:AV} {e:Env} {x:Nat} (h:d≠some x):get (put d v e) x=get e x:=by
 cases d with
 | none=>rfl
 | some d=>
   have hne:¬d=x:=fun he=>h (by rw [he])
   simp [put,get,hne]
theorem KA {X:Ctx} {run:Run} :∀(l:List (AI×List AI)) (e:Env) (Z:St) (e':Env) (Z':St),zO X run l e Z=some (e',Z')->
 ∃ (E:Nat->Env) (S:Nat->St) (V:Nat->AV),E 0=e/\S 0=Z/\E l.length=e'/\S l.length=Z'/\
   ∀ (p:Nat) (a:AI) (ag:List AI),l[p]? =some (a,ag)->fU X run (E p) a (S p)=some (V p,S (p+1))/\E (p+1)=put a.d (V p) (E p)/\∀b∈ag,w_ X (E p) (S (p+1)) b=true
 | [],e,Z,e',Z',h=>by
   cases h
   exact⟨fun _=>e,fun _=>Z,fun _=>.u,rfl,rfl,rfl,rfl,fun p a ag hp=>by simp at hp⟩
 | (a,ag) :: l,e,Z,e',Z',h=>by
   simp only [zO] at h
   split at h
   ·rename_i v Z1 hst
    split at h
    ·rename_i hag
     obtain⟨E,S,V,h1,h2,h3,h4,h5⟩:=KA l _ _ _ _ h
     refine⟨fun | 0=>e | p+1=>E p,fun | 0=>Z | p+1=>S p,fun | 0=>v | p+1=>V p,rfl,rfl,h3,h4,?_⟩
     intro p a' ag' hp
     cases p with
     | zero=>
       simp only [List.getElem?_cons_zero,oW,Prod.mk.injEq] at hp
       obtain⟨rfl,rfl⟩:=hp
       refine⟨by simpa [h2] using hst,h1,?_⟩
       intro b hb
       simp only [List.all_eq_true] at hag
       simpa [h2] using hag b hb
     | succ p=>
       exact h5 p a' ag' (by simpa using hp)
    ·cases h
   ·cases h
section
variable {X:Ctx} {G N:Nat} {ops:Array Oper} {T:List DI}
structure Runs (X:Ctx)(run:Run)(T:List DI)(E:Nat->Env)(S:Nat->St)(V:Nat->AV):Prop where
 step:∀(p:Nat) (t:DI),T[p]? =some t->fU X run (E p) t.a (S p)=some (V p,S (p+1))
 env:∀(p:Nat) (t:DI),T[p]? =some t->E (p+1)=put t.a.d (V p) (E p)
 again:∀(p:Nat) (t:DI),T[p]? =some t->∀b∈t.again,w_ X (E p) (S (p+1)) b=true
variable {run:Run} {E:Nat->Env} {S:Nat->St} {V:Nat->AV}
theorem n_ (hR:Runs X run T E S V) {x:Nat} :∀(p q:Nat),q<=p->p<=T.length->(∀(r:Nat) (c:DI),q<=r->r<p->T[r]? =some c->c.a.d≠some x)->get (E p) x=get (E q) x
 | 0,q,hq,_,_=>by rw [show q=0 by omega]
 | p+1,q,hq,hp,h=>by
   by_cases zY:q=p+1
   ·rw [zY]
   ·have ht:T[p]? =some T[p]:=sN (by omega)
    rw [hR.env p _ ht,lJ (h p _ (by omega) (by omega) ht)]
    exact n_ hR p q (by omega) (by omega) fun r c h1 h2 h3=>h r c h1 (by omega) h3
theorem zZ (hT:Tab X.P G N ops T)(hR:Runs X run T E S V) {x q p:Nat} {t:DI} (hq:T[q]? =some t)(hx:t.a.d=some x)(zY:q<p)(hp:p<=T.length):get (E p) x=V q:=by
 rw [n_ hR p (q+1) (by omega) hp fun r c h1 h2 h3=>hT.dst q t r c (by omega) hq h3 x hx,hR.env q t hq,hx,yN]
theorem oh (hR:Runs X run T E S V):∀(p q:Nat),q<=p->p<=T.length->(∀(r:Nat) (c:DI),q<=r->r<p->T[r]? =some c->c.a.op.pure=true)->S p=S q
 | 0,q,hq,_,_=>by rw [show q=0 by omega]
 | p+1,q,hq,hp,h=>by
   by_cases zY:q=p+1
   ·rw [zY]
   ·have ht:T[p]? =some T[p]:=sN (by omega)
    rw [xE (h p _ (by omega) (by omega) ht) (hR.step p _ ht)]
    exact oh hR p q (by omega) (by omega) fun r c h1 h2 h3=>h r c h1 (by omega) h3
def Closed (ops:Array Oper)(L:Nat->Prop):Prop:=∀i,L i->∀j∈iQ ops i,L j
theorem DN (hT:Tab X.P G N ops T) {L:Nat->Prop} (hc:Closed ops L):∀(p:Nat) (t:DI),T[p]? =some t->(∀j∈iQ ops t.i,L j)->∀j∈t.Gx,L j:=by
 intro p
 induction p using Nat.strongRecOn with
 | _ p ih=>
   intro t ht hb j hj
   rcases hT.Gx p t ht j hj with h | ⟨q,b,hq,hqb,hbi,hjb⟩
   ·exact hb j h
   ·exact ih q hq b hqb (hc _ (hb _ hbi)) j hjb
structure At (X:Ctx)(G N:Nat)(ops:Array Oper)(T:List DI)(E:Nat->Env)(S:Nat->St)(V:Nat->AV)(L:Nat->Prop)(c:Nat)(ec:Env):Prop where
 closed:Closed ops L
 le:c<=T.length
 cut:∀(q:Nat) (t:DI),T[q]? =some t->t.a.op.pure=false->(q<c↔L t.i)
 wrote:∀(q:Nat) (t:DI) (x:Nat),T[q]? =some t->L t.i->t.a.d=some x->get ec x=V q
 kept:∀(x:Nat),(∀(q:Nat) (t:DI),T[q]? =some t->L t.i->t.a.d≠some x)->get ec x=get (E 0) x
variable {L:Nat->Prop} {c:Nat} {ec:Env}
theorem pos_eq (hT:Tab X.P G N ops T) {p q:Nat} {t u:DI} (hp:T[p]? =some t)(hq:T[q]? =some u)(h:t.i=u.i):p=q:=by
 rcases Nat.lt_trichotomy p q with hl | hl | hl
 ·exact absurd h (hT.ne p t q u hl hp hq)
 ·exact hl
 ·exact absurd h.symm (hT.ne q u p t hl hq hp)
theorem DR (hT:Tab X.P G N ops T) {p q:Nat} {t u:DI} {x:Nat} (hp:T[p]? =some t)(hq:T[q]? =some u)(h:t.a.d=some x)(k:u.a.d=some x):p=q:=by
 rcases Nat.lt_trichotomy p q with hl | hl | hl
 ·exact absurd k (hT.dst p t q u hl hp hq x h)
 ·exact hl
 ·exact absurd h (hT.dst q u p t hl hq hp x k)
theorem At.agree (hT:Tab X.P G N ops T)(hR:Runs X run T E S V)(h:At X G N ops T E S V L c ec) {p:Nat} {t:DI} (hp:T[p]? =some t)(hn:¬L t.i)(hb:∀j∈iQ ops t.i,L j) :
 ∀ x∈t.a.slots,get ec x=get (E p) x:=by
 intro x hx
 have hlen:p<T.length:=eP hp
 by_cases hw:∃(q:Nat) (u:DI),T[q]? =some u/\u.a.d=some x
 ·obtain⟨q,u,hq,hu⟩:=hw
  rcases Nat.lt_trichotomy q p with hl | hl | hl
  ·have hL:=DN hT h.closed p t hp hb _ (hT.raw q u p t hl hq hp x hu hx)
   rw [h.wrote q u x hq hL hu,zZ hT hR hq hu hl (by omega)]
  ·subst hl
   rw [hp] at hq;cases hq
   rw [h.kept x fun r v hr hv hd=>by
        have hpr:=DR hT hp hr hu hd
        subst hpr
        rw [hp] at hr;cases hr
        exact hn hv]
   rw [n_ hR q 0 (by omega) (by omega) fun r v _ h2 hr hd=>by have:=DR hT hp hr hu hd;omega]
  ·have hA:=hT.war p t q u hl hp hq x hu hx
   have hnu:¬L u.i:=fun hL=>hn (DN hT h.closed q u hq (h.closed _ hL) _ hA)
   rw [h.kept x fun r v hr hv hd=>by
        have:=DR hT hq hr hu hd
        subst this
        rw [hq] at hr;cases hr
        exact hnu hv]
   rw [n_ hR p 0 (by omega) (by omega) fun r v _ h2 hr hd=>by have:=DR hT hq hr hu hd;omega]
 ·rw [h.kept x fun r v hr _ hd=>hw ⟨r,v,hr,hd⟩]
  rw [n_ hR p 0 (by omega) (by omega) fun r v _ _ hr hd=>hw ⟨r,v,hr,hd⟩]
theorem KC (T:List DI)(p:Nat):∀c:Nat,(∀(r:Nat) (v:DI),p<=r->r<c->T[r]? =some v->v.a.op.pure=true)\/
 ∃ (q:Nat) (u:DI),p<=q/\q<c/\T[q]? =some u/\u.a.op.pure=false/\∀(r:Nat) (v:DI),q<r->r<c->T[r]? =some v->v.a.op.pure=true
 | 0=>.inl fun r v _ h=>by omega
 | c+1=>by
   by_cases hc:∃u,T[c]? =some u/\u.a.op.pure=false/\p<=c
   ·obtain⟨u,hu,hpu,hpc⟩:=hc
    exact .inr ⟨c,u,hpc,by omega,hu,hpu,fun r v h1 h2=>by omega⟩
   ·have hc':∀(v:DI),p<=c->T[c]? =some v->v.a.op.pure=true:=fun v h1 h2=>by
     cases hh:v.a.op.pure with
     | true=>rfl
     | false=>exact absurd ⟨v,h2,hh,h1⟩ hc
    rcases KC T p c with h | ⟨q,u,h1,h2,h3,h4,h5⟩
    ·refine .inl fun r v hr hrc hv=>?_
     by_cases hrc':r=c
     ·subst hrc';exact hc' v hr hv
     ·exact h r v hr (by omega) hv
    ·refine .inr ⟨q,u,h1,by omega,h3,h4,fun r v hr hrc hv=>?_⟩
     by_cases hrc':r=c
     ·subst hrc';exact hc' v (by omega) hv
     ·exact h5 r v hr (by omega) hv
theorem At.next (hT:Tab X.P G N ops T)(hR:Runs X run T E S V)(h:At X G N ops T E S V L c ec) {p:Nat} {t:DI} (hp:T[p]? =some t)(hn:¬L t.i)(hb:∀j∈iQ ops t.i,L j) {o:Oper} (ho:ops[t.i]? =some o) :
 ∃ run' a' c',(run'= run\/run'= fun _ _ _=>none)/\xA X.P G N ops o a'= true/\fU X run' ec a' (S c)=some (V p,S c')/\c'<=T.length/\
   ∀ (q:Nat) (u:DI),T[q]? =some u->u.a.op.pure=false->(q<c'↔L u.i\/q=p):=by
 have hlen:p<T.length:=eP hp
 have hok:xA X.P G N ops o t.a=true:=by
  obtain⟨o',ho',h'⟩:=hT.at' p t hp
  rw [ho] at ho';cases ho';exact h'
 have hag:=h.agree hT hR hp hn hb
 have hanc:=DN hT h.closed p t hp hb
 have hst:=hR.step p t hp
 have PI:t.a.op.still=false->c<=p->S p=S c:=fun hs hcp=>oh hR p c hcp (by omega) fun r u h1 h2 hr=>by
  cases hpu:u.a.op.pure with
  | true=>rfl
  | false=>
    have hL:=hanc _ (hT.eff r u p t h2 hr hp hpu hs)
    have:=(h.cut r u hr hpu).2 hL
    omega
 cases hpure:t.a.op.pure with
 | false=>
   have hs:t.a.op.still=false:=by
    cases hh:t.a.op.still with
    | false=>rfl
    | true=>rw [xC hh] at hpure;cases hpure
   have hcp:c<=p:=by
    apply Nat.le_of_not_lt
    intro hlt
    exact hn ((h.cut p t hp hpure).1 hlt)
   refine⟨run,t.a,p+1,.inl rfl,hok,?_,by omega,?_⟩
   ·rw [mJ hag,<-PI hs hcp];exact hst
   ·intro q u hq hpu
    constructor
    ·intro hlt
     by_cases zY:q=p
     ·exact .inr zY
     ·exact .inl (hanc _ (hT.eff q u p t (by omega) hq hp hpu hs))
    ·intro hL
     rcases hL with hL | hL
     ·apply Nat.lt_of_not_le
      intro hle
      have hA:=hT.eff p t q u (by omega) hp hq hpure (by
       cases hh:u.a.op.still with
       | false=>rfl
       | true=>rw [xC hh] at hpu;cases hpu)
      exact hn (DN hT h.closed q u hq (h.closed _ hL) _ hA)
     ·omega
 | true=>
   have hcut:∀(q:Nat) (u:DI),T[q]? =some u->u.a.op.pure=false->(q<c↔L u.i\/q=p):=by
    intro q u hq hpu
    rw [h.cut q u hq hpu]
    constructor
    ·exact .inl
    ·rintro (h | h)
     ·exact h
     ·subst h;rw [hp] at hq;cases hq;rw [hpure] at hpu;cases hpu
   cases hs:t.a.op.still with
   | true=>exact⟨run,t.a,c,.inl rfl,hok,by rw [mJ hag];exact Kw hs hst _,h.le,hcut⟩
   | false=>
     have hSp:S (p+1)=S p:=xE hpure hst
     by_cases hcp:c<=p
     ·refine⟨run,t.a,c,.inl rfl,hok,?_,h.le,hcut⟩
      rw [mJ hag,<-PI hs hcp,hst,hSp]
     ·
        rcases KC T p c with hex | ⟨q,u,h1,h2,hq,hpu,hlast⟩
        rotate_left
        ·skip
         have zY:p<q:=by
          rcases Nat.lt_or_ge p q with hl | hl
          ·exact hl
          ·have:q=p:=by omega
           subst this;rw [hp] at hq;cases hq;rw [hpure] at hpu;cases hpu
         have hLu:=(h.cut q u hq hpu).1 h2
         have hnA:t.i∉u.Gx:=fun hA=>hn (DN hT h.closed q u hq (h.closed _ hLu) _ hA)
         obtain⟨b',hb',⟨o',ho',hok'⟩,hbp,hsl⟩:=hT.again p t q u zY hp hq hpu hpure hs hnA
         rw [ho] at ho';cases ho'
         have Ye:=hR.again q u hq b' hb'
         have hSc:S c=S (q+1):=oh hR c (q+1) (by omega) h.le fun r v h3 h4 hr=>hlast r v (by omega) h4 hr
         have hd:b'.d=t.a.d:=by
          simp only [xA,fJ,beq_iff_eq] at hok hok'
          rw [<-hok.1.1.1,<-hok'.1.1.1]
         refine⟨fun _ _ _=>none,b',c,.inr rfl,hok',?_,h.le,hcut⟩
         unfold w_ at Ye
         split at Ye
         ·rename_i d v Z1 hbd hstep
          have hv:=AV.qU _ _ Ye
          have hZ1:=xE hbp hstep
          subst hZ1
          rw [hd] at hbd
          rw [zZ hT hR hp hbd zY (by have:=eP hq;omega)] at hv
          rw [hSc,mJ (e':=E q),hstep,hv]
          intro x hx
          rw [hag x (hsl x hx).1]
          rw [n_ hR q p (by omega) (by have:=eP hq;omega) fun r v h3 h4 hr=>(hsl x hx).2 r v h3 h4 hr]
         ·cases Ye
        ·have hSc:S c=S p:=oh hR c p (by omega) h.le hex
         refine⟨run,t.a,c,.inl rfl,hok,?_,h.le,hcut⟩
         rw [mJ hag,hSc,hst,hSp]
theorem z_ {listed:Array Bool} {i:Nat} (h:i<listed.size):listed.getD i true=listed.getD i false:=by
 rw [Array.getD_eq_getD_getElem?,Array.getD_eq_getD_getElem?,Array.getElem?_eq_getElem h];rfl
theorem GK {i j:Nat} {o:Oper} (ho:ops[i]? =some o):j∈iQ ops i↔∃e∈o.after,Region.binds .any e=true/\e.on=j:=by
 unfold iQ
 rw [ho]
 simp only [List.mem_map,List.mem_filter,Array.mem_toList_iff]
 constructor
 ·rintro ⟨e,⟨h1,h2⟩,h3⟩;exact⟨e,h1,h2,h3⟩
 ·rintro ⟨e,h1,h2,h3⟩;exact⟨e,⟨h1,h2⟩,h3⟩
def Yf (n:Nat)(listed:Array Bool):List Nat:=(List.range n).filter fun i=>!listed.getD i false
theorem Yg {n i:Nat} {listed:Array Bool} (hi:i<n)(hs:listed.size=n)(hl:listed.getD i false=false):(Yf n (listed.setIfInBounds i true)).length<(Yf n listed).length:=by
 have he:Yf n (listed.setIfInBounds i true)=(Yf n listed).filter (fun j=>j != i):=by
  unfold Yf
  rw [List.filter_filter]
  apply List.filter_congr
  intro j hj
  by_cases hji:i=j
  ·subst hji
   simp [Array.getElem?_setIfInBounds,hs,hi]
  ·rw [getD_set_ne false hji]
   simp [Ne.symm hji]
 rw [he,List.length_filter_lt_length_iff_exists]
 refine⟨i,?_,by simp⟩
 unfold Yf
 rw [List.mem_filter]
 exact⟨List.mem_range.2 hi,by rw [hl];rfl⟩
theorem Yh {ds:List Deferred} (hX:X.Ok G)(hrun:nC X.P G run)(hT:Tab X.P G N ops T)(hR:Runs X run T E S V) {Q:Exit->Act->World->Prop} {Y0:Mu} {Z0:St} {w0:World}
 (hQ:∀act' w',wP ds G N Y0 Z0 w0 (E T.length) (S T.length) act' w'->Q .normal act' w') :
 ∀ (fuel:Nat) (listed:Array Bool) (c:Nat) (ec:Env) (act:Act) (w:World) (Y:Mu),(Yf ops.size listed).length<=fuel->listed.size=ops.size->(∀i,listed.getD i false=true->i<ops.size)->
   At X G N ops T E S V (fun i=>listed.getD i false=true) c ec->Step G Y0 Z0 w0 Y (S c) w->fQ G N Y w ec act.tmps->act.defers=ds->
   wpAny X.P .any ops Q fuel listed act w:=by
 have hdone:∀(listed:Array Bool) (c:Nat) (ec:Env) (act:Act) (w:World) (Y:Mu),listed.size=ops.size->
  At X G N ops T E S V (fun i=>listed.getD i false=true) c ec->Step G Y0 Z0 w0 Y (S c) w->fQ G N Y w ec act.tmps->act.defers=ds->Region.ready .any ops listed=[]->Q .normal act w:=by
  intro listed c ec act w Y hsz hat hst hen hdf hr
  have hall:∀(p:Nat) (t:DI),T[p]? =some t->listed.getD t.i false=true:=by
   intro p
   induction p using Nat.strongRecOn with
   | _ p ih=>
     intro t ht
     cases hl:listed.getD t.i false with
     | true=>rfl
     | false=>
       exfalso
       obtain⟨o,ho,hok⟩:=hT.at' p t ht
       have hlt:t.i<ops.size:=(Array.getElem?_eq_some_iff.1 ho).1
       have:t.i∈Region.ready .any ops listed:=by
         rw [mem_ready]
         refine⟨by rw [z_ (by omega)];exact hl,o,ho,fun e he hb=>?_⟩
         obtain⟨q,b,hq,hqb,hbi⟩:=hT.edge p t ht e.on ((GK ho).2 ⟨e,he,hb,rfl⟩)
         rw [<-hbi];exact ih q hq b hqb
       rw [hr] at this;cases this
  refine hQ _ _ ⟨Y,?_,⟨hen.size,fun x=>?_⟩,hdf⟩
  ·have:S T.length=S c:=oh hR _ c hat.le (Nat.le_refl _) fun r v h1 h2 hv=>by
        cases hh:v.a.op.pure with
        | true=>rfl
        | false=>have:=(hat.cut r v hv hh).2 (hall r v hv);omega
   rw [this];exact hst
  ·have hx:get ec x=get (E T.length) x:=by
        by_cases hw:∃(q:Nat) (u:DI),T[q]? =some u/\u.a.d=some x
        ·obtain⟨q,u,hq,hu⟩:=hw
         rw [hat.wrote q u x hq (hall q u hq) hu,zZ hT hR hq hu (eP hq) (Nat.le_refl _)]
        ·rw [hat.kept x fun r v hr _ hd=>hw ⟨r,v,hr,hd⟩]
         rw [n_ hR T.length 0 (by omega) (by omega) fun r v _ _ hr hd=>hw ⟨r,v,hr,hd⟩]
   rw [<-hx];exact hen.rel x
 intro fuel
 induction fuel with
 | zero=>
   intro listed c ec act w Y hfu hsz hlt hat hst hen hdf
   have hr:Region.ready .any ops listed=[]:=by
    apply List.eq_nil_iff_forall_not_mem.2
    intro i hi
    obtain⟨h0,o,ho,_⟩:=mem_ready.1 hi
    have hil:i<ops.size:=(Array.getElem?_eq_some_iff.1 ho).1
    rw [z_ (by omega)] at h0
    have:i∈Yf ops.size listed:=List.mem_filter.2 ⟨List.mem_range.2 hil,by rw [h0];rfl⟩
    have:=List.length_pos_of_mem this
    omega
   exact⟨hr,hdone listed c ec act w Y hsz hat hst hen hdf hr⟩
 | succ fuel ih=>
   intro listed c ec act w Y hfu hsz hlt hat hst hen hdf
   refine⟨hdone listed c ec act w Y hsz hat hst hen hdf,fun i hi=>?_⟩
   obtain⟨h0,o,ho,hbind⟩:=mem_ready.1 hi
   have hil:i<ops.size:=(Array.getElem?_eq_some_iff.1 ho).1
   rw [z_ (by omega)] at h0
   obtain⟨p,t,hp,hti⟩:=hT.all i hil
   subst hti
   have hb:∀j∈iQ ops t.i,listed.getD j false=true:=fun j hj=>by
    obtain⟨e,he,hbe,rfl⟩:=(GK ho).1 hj
    exact hbind e he hbe
   have hn:¬listed.getD t.i false=true:=by rw [h0];simp
   obtain⟨run',a',c',hrun',hok',hstep,hle',hcut'⟩:=hat.next hT hR hp hn hb ho
   have hro:nC X.P G run':=by
    rcases hrun' with rfl | rfl
    ·exact hrun
    ·intro f args Z r Z' h;cases h
   unfold wpOp
   rw [ho]
   refine yM (ops:=ops) hX hro hst.wB hen hok' hstep fun v w' Y' hv hs'=>?_
   have hka:=hok'
   simp only [xA,fJ,beq_iff_eq] at hka
   have hdt:t.a.d=o.dst:=by
    obtain⟨o',ho',h'⟩:=hT.at' p t hp
    rw [ho] at ho';cases ho'
    simp only [xA,fJ,beq_iff_eq] at h'
    exact h'.1.1.1.symm
   have hget:∀j,(listed.setIfInBounds t.i true).getD j false=true↔listed.getD j false=true\/j=t.i:=by
    intro j
    by_cases hj:t.i=j
    ·subst hj;simp [Array.getElem?_setIfInBounds,hsz,hil]
    ·rw [getD_set_ne false hj];simp [Ne.symm hj]
   refine ih _ c' (put o.dst (V p) ec) _ w' Y' ?_ (by simpa using hsz) ?_ ⟨?_,hle',?_,?_,?_⟩ (hst.trans hs') ?_ (by rw [wQ];exact hdf)
   ·have:=Yg (n:=ops.size) hil hsz h0
    omega
   ·intro j hj
    rcases (hget j).1 hj with h | h
    ·exact hlt j h
    ·rw [h];exact hil
   ·intro j hj k hk
    rw [hget] at hj ⊢
    rcases hj with hj | hj
    ·exact .inl (hat.closed j hj k hk)
    ·rw [hj] at hk;exact .inl (hb k hk)
   ·intro q u hq hpu
    rw [hcut' q u hq hpu,hget]
    constructor
    ·rintro (h | h)
     ·exact .inl h
     ·subst h;rw [hp] at hq;cases hq;exact .inr rfl
    ·rintro (h | h)
     ·exact .inl h
     ·exact .inr (pos_eq hT hq hp h)
   ·intro q u x hq hu hx
    rw [hget] at hu
    by_cases zY:q=p
    ·subst zY;rw [hp] at hq;cases hq
     rw [<-hdt,hx,yN]
    ·rw [lJ fun hd=>zY (DR hT hq hp hx (by rw [hdt];exact hd))]
     rcases hu with hu | hu
     ·exact hat.wrote q u x hq hu hx
     ·exact absurd (pos_eq hT hq hp hu) zY
   ·intro x hx
    rw [lJ fun hd=>hx p t hp ((hget _).2 (.inr rfl)) (by rw [hdt];exact hd)]
    exact hat.kept x fun q u hq hu=>hx q u hq ((hget _).2 (.inl hu))
   ·have he':=hen.mono hs'.ext hs'.xq
    have hN:Px N o.dst=true:=by rw [hka.1.1.1];exact hka.1.1.2
    exact he'.put hN hv
end
end Go.Abs
namespace Go.Abs
theorem PK {ds:List Deferred} {X:Ctx} {G N:Nat} {run:Run} (hX:X.Ok G)(hrun:nC X.P G run)(hf:X.P.follows .mixedOrders=true) {id:Nat} {ops:Array Oper} {l:List (AI×List AI)} {Q:Exit->Act->World->Prop}
 {e:Env} {act:Act} {Y:Mu} {Z:St} {w:World} {e':Env} {Z':St} (hok:PG X.P G N ops l=true) (hs:g_ G Y Z w) (he:fQ G N Y w e act.tmps) (hd:act.defers=ds) (h:zO X run l e Z=some (e',Z'))
 (hQ:∀act' w',wP ds G N Y Z w e' Z' act' w'->Q .normal act' w'):(Code.region id ops true).wp X.P Q act w:=by
 simp only [PG,Gz,fJ,beq_iff_eq] at hok
 obtain⟨hT,hlen⟩:=hok
 have hmap:=GH (P:=X.P) (G:=G) (N:=N) (ops:=ops) l [] (by simpa using hlen)
 simp only [List.reverse_nil,List.map_nil,List.nil_append] at hmap
 have hT':=NG hT
 generalize DK X.P G N ops l []=T at *
 obtain⟨E,S,V,h1,h2,h3,h4,h5⟩:=KA l e Z e' Z' h
 have hR:Runs X run T E S V:=by
  have hg:∀(p:Nat) (t:DI),T[p]? =some t->l[p]? =some (t.a,t.again):=by
   intro p t ht
   rw [<-hmap,List.getElem?_map,ht];rfl
  exact⟨fun p t ht=>(h5 p _ _ (hg p t ht)).1,fun p t ht=>(h5 p _ _ (hg p t ht)).2.1,fun p t ht=>(h5 p _ _ (hg p t ht)).2.2⟩
 refine wp_region_any hf (Yh hX hrun hT' hR (Y0:=Y) (Z0:=Z) (w0:=w) ?_ ops.size _ 0 e act _ Y ?_ (by simp) ?_ ?_ (by rw [h2];exact Step.drew hs) ?_ hd)
 ·rw [hlen,h3,h4];exact hQ
 ·unfold Yf
  exact Nat.le_trans (List.length_filter_le _ _) (by simp)
 ·intro i hi
  rw [Array.getD_eq_getD_getElem?,Array.getElem?_replicate] at hi
  split at hi
  ·assumption
  ·cases hi
 ·have hno:∀i,¬(Array.replicate ops.size false).getD i false=true:=by
   intro i hi
   rw [Array.getD_eq_getD_getElem?,Array.getElem?_replicate] at hi
   split at hi <;> cases hi
  refine⟨fun i hi=>absurd hi (hno i),Nat.zero_le _,fun q t _ _=>?_,fun q t x _ hl=>absurd hl (hno _),fun x _=>by rw [h1]⟩
  constructor
  ·intro hl;omega
  ·intro hl;exact absurd hl (hno _)
 ·exact he.mono (Mu.le_refl Y) (fun _ _ _ q=>q)
def AC.BP:AC->AC
 | .cut l b=>match l with
   | d :: _=>if d=1000000 then b else .cut l b
   | []=>.cut l b
 | b=>b
theorem AC.vg (b:AC):b.BP=b\/∃l,b= .cut l b.BP:=by
 cases b with
 | cut l b=>
   cases l with
   | nil=>exact .inl rfl
   | cons d l=>
     simp only [AC.BP]
     split
     ·exact .inr ⟨d :: l,rfl⟩
     ·exact .inl rfl
 | _=>exact .inl rfl
def CB (P:Program)(G N:Nat):Code->AC->Bool
 | .scope c,a=>CB P G N c a
 | .skip,.skip=>true
 | .label _,.skip=>true
 | .region _ ops false,.reg l=>Dz P G N ops (List.range ops.size) l
 | .region _ ops true,.drw l=>PG P G N ops l
 | .region _ ops false,.cut _ (.reg l)=>Dz P G N ops (List.range ops.size) l
 | .region _ ops true,.cut _ (.drw l)=>PG P G N ops l
 | .seq c d,.seq a b=>CB P G N c a && CB P G N d b.BP
 | .cond x c d,.cond y a b=>dh G x y && CB P G N c a && CB P G N d b
 | .block id c,.blk id' a=>id == id' && CB P G N c a
 | .loop c,.loop _ a=>CB P G N c a
 | .exit id,.exit id'=>id == id'
 | .ret,.ret=>true
 | _,_=>false
def Out.exit':Out->Exit
 | .normal=>.normal
 | .exit id=>.exit id
 | .ret=>.ret
theorem wP.trans {ds:List Deferred} {G N:Nat} {Y:Mu} {Z Z1 Z2:St} {w w1 w2:World} {e1 e2:Env} {a1 a2:Act} {Y1:Mu} (h:Step G Y Z w Y1 Z1 w1)(k:wP ds G N Y1 Z1 w1 e2 Z2 a2 w2):wP ds G N Y Z w e2 Z2 a2 w2:=by
 obtain⟨Y2,h1,h2,h3⟩:=k
 exact⟨Y2,h.trans h1,h2,h3⟩
section
variable {X:Ctx} {G N:Nat} {run:Run}
def NH (X:Ctx)(G N:Nat)(c:Code)(f:Env->St->Option (Out×Env×St)):Prop:=
 ∀ (ds:List Deferred) (e:Env) (act:Act) (Y:Mu) (Z:St) (w:World) (o:Out) (e':Env) (Z':St) (Q:Exit->Act->World->Prop),g_ G Y Z w->fQ G N Y w e act.tmps->act.defers=ds->f e Z=some (o,e',Z')->
   (∀act' w',wP ds G N Y Z w e' Z' act' w'->Q o.exit' act' w')->c.wp X.P Q act w
theorem TU {c:Code} {live:List Nat} {f:Env->St->Option (Out×Env×St)} (h:NH X G N c f)(n:Nat):NH X G N (.loop c) (pK live f n):=by
 intro ds e act Y Z w o e' Z' Q hs he hd hf hQ
 refine wp_loop_rounds n ?_
 induction n generalizing e act Y Z w with
 | zero=>cases hf
 | succ n ih=>
   rw [rounds_succ]
   simp only [pK] at hf
   split at hf
   ·rename_i e1 Z1 h1
    refine h ds (clear live e) act Y Z w .normal e1 Z1 _ hs (he.clear live) hd h1 fun act' w' hl=>?_
    obtain⟨Y1,hst,hen,hdf⟩:=hl
    exact ih e1 act' Y1 Z1 w' hst.wB hen hdf hf fun act2 w2 hl2=>hQ _ _ (wP.trans (e1:=e1) (a1:=act') hst hl2)
   ·rename_i hnn
    refine h ds (clear live e) act Y Z w o e' Z' _ hs (he.clear live) hd hf fun act' w' hl=>?_
    cases o with
    | normal=>exact absurd hf (hnn _ _)
    | exit id=>exact hQ _ _ hl
    | ret=>exact hQ _ _ hl
theorem gB (hX:X.Ok G)(hrun:nC X.P G run)(hf:X.P.follows .mixedOrders=true) {n:Nat} :∀(c:Code) (a:AC),CB X.P G N c a=true->NH X G N c (bH X run n a)
 | .scope c,a,hok=>by
   intro ds e act Y Z w o e' Z' Q hs he hd h hQ
   refine wp_scope_straight (gB hX hrun hf c a (by simpa [CB] using hok) ds e act Y Z w o e' Z' _ hs he hd h fun act' w' hl=>?_)
   have:=hQ act' w' hl
   cases o <;> exact this
 | .skip,.skip,_=>by
   intro ds e act Y Z w o e' Z' Q hs he hd h hQ
   cases h
   exact wp_skip (hQ _ _ ⟨Y,Step.refl hs,he,hd⟩)
 | .label _,.skip,_=>by
   intro ds e act Y Z w o e' Z' Q hs he hd h hQ
   cases h
   exact wp_label (hQ _ _ ⟨Y,Step.refl hs,he,hd⟩)
 | .region id ops false,.reg l,hok=>by
   intro ds e act Y Z w o e' Z' Q hs he hd h hQ
   simp only [bH,iU] at h
   obtain⟨⟨e1,Z1⟩,h1,h2⟩:=h
   cases h2
   exact wp_region (Ip (ops:=ops) hX hrun _ l e act Y Z w _ _ (by simpa [CB] using hok) hs he hd h1 hQ)
 | .region id ops true,.drw l,hok=>by
   intro ds e act Y Z w o e' Z' Q hs he hd h hQ
   simp only [bH,iU] at h
   obtain⟨⟨e1,Z1⟩,h1,h2⟩:=h
   cases h2
   exact PK hX hrun hf (by simpa [CB] using hok) hs he hd h1 hQ
 | .region id ops false,.cut live (.reg l),hok=>by
   intro ds e act Y Z w o e' Z' Q hs he hd h hQ
   simp only [bH,iU] at h
   obtain⟨⟨e1,Z1⟩,h1,h2⟩:=h
   cases h2
   exact wp_region (Ip (ops:=ops) hX hrun _ l _ act Y Z w _ _ (by simpa [CB] using hok) hs (he.clear live) hd h1 hQ)
 | .region id ops true,.cut live (.drw l),hok=>by
   intro ds e act Y Z w o e' Z' Q hs he hd h hQ
   simp only [bH,iU] at h
   obtain⟨⟨e1,Z1⟩,h1,h2⟩:=h
   cases h2
   exact PK hX hrun hf (by simpa [CB] using hok) hs (he.clear live) hd h1 hQ
 | .seq c d,.seq a b,hok=>by
   intro ds e act Y Z w o e' Z' Q hs he hd h hQ
   simp only [CB,fJ] at hok
   simp only [bH] at h
   refine wp_seq ?_
   split at h
   ·rename_i e1 Z1 h1
    refine gB hX hrun hf c a hok.1 ds e act Y Z w .normal e1 Z1 _ hs he hd h1 fun act' w' hl=>?_
    obtain⟨Y1,hst,hen,hdf⟩:=hl
    have hd2:=gB hX hrun hf d b.BP hok.2 (n:=n)
    rcases AC.vg b with hb | ⟨l,hb⟩
    ·rw [hb] at hd2
     exact hd2 ds e1 act' Y1 Z1 w' o e' Z' Q hst.wB hen hdf h fun act2 w2 hl2=>hQ _ _ (wP.trans (e1:=e1) (a1:=act') hst hl2)
    ·rw [hb] at h
     simp only [bH] at h
     exact hd2 ds (clear l e1) act' Y1 Z1 w' o e' Z' Q hst.wB (hen.clear l) hdf h fun act2 w2 hl2=>hQ _ _ (wP.trans (e1:=e1) (a1:=act') hst hl2)
   ·rename_i hnn
    refine gB hX hrun hf c a hok.1 ds e act Y Z w o e' Z' _ hs he hd h fun act' w' hl=>?_
    cases o with
    | normal=>exact absurd h (hnn _ _)
    | exit id=>exact hQ _ _ hl
    | ret=>exact hQ _ _ hl
 | .cond x c d,.cond y a b,hok=>by
   intro ds e act Y Z w o e' Z' Q hs he hd h hQ
   simp only [CB,fJ] at hok
   have hx:=u_ hs he hok.1.1
   simp only [bH] at h
   split at h
   ·rename_i hy
    rw [hy] at hx
    exact wp_cond_true hx (gB hX hrun hf c a hok.1.2 ds e act Y Z w o e' Z' _ hs he hd h hQ)
   ·rename_i hy
    rw [hy] at hx
    exact wp_cond_false hx (gB hX hrun hf d b hok.2 ds e act Y Z w o e' Z' _ hs he hd h hQ)
   ·cases h
 | .block id c,.blk id' a,hok=>by
   intro ds e act Y Z w o e' Z' Q hs he hd h hQ
   simp only [CB,fJ,beq_iff_eq] at hok
   obtain⟨rfl,hok⟩:=hok
   simp only [bH] at h
   refine wp_block ?_
   split at h
   ·rename_i j e1 Z1 h1
    simp only [oW,Prod.mk.injEq] at h
    obtain⟨rfl,rfl,rfl⟩:=h
    refine gB hX hrun hf c a hok ds e act Y Z w (.exit j) _ _ _ hs he hd h1 fun act' w' hl=>?_
    have hq:=hQ act' w' hl
    simp only [Out.exit',Exit.inBlock]
    split
    ·rename_i hj;rw [if_pos hj] at hq;exact hq
    ·rename_i hj;rw [if_neg hj] at hq;exact hq
   ·rename_i hnn
    refine gB hX hrun hf c a hok ds e act Y Z w o e' Z' _ hs he hd h fun act' w' hl=>?_
    cases o with
    | normal=>exact hQ _ _ hl
    | exit id=>exact absurd h (hnn _ _ _)
    | ret=>exact hQ _ _ hl
 | .loop c,.loop live a,hok=>by
   have hc:=gB hX hrun hf c a (n:=n) (by simpa [CB] using hok)
   intro ds e act Y Z w o e' Z' Q hs he hd h hQ
   exact TU hc n ds e act Y Z w o e' Z' Q hs he hd h hQ
 | .exit id,.exit id',hok=>by
   intro ds e act Y Z w o e' Z' Q hs he hd h hQ
   simp only [CB,beq_iff_eq] at hok
   subst hok
   cases h
   exact wp_exit (hQ _ _ ⟨Y,Step.refl hs,he,hd⟩)
 | .ret,.ret,_=>by
   intro ds e act Y Z w o e' Z' Q hs he hd h hQ
   cases h
   exact wp_ret (hQ _ _ ⟨Y,Step.refl hs,he,hd⟩)
end
end Go.Abs
namespace Go.Abs
def tZ:List ResultVar->List AR->Bool
 | [],[]=>true
 | .tmp n :: l,.t m :: r=>n == m && tZ l r
 | .cell a t :: l,.cell b s :: r=>a == b && t == s && tZ l r
 | _,_=>false
def cu (P:Program)(G:Nat)(f:Nat)(F:AF):Bool:=match P.funcs[f]? with
 | some fn=>fn.ntmps == F.nt && !(fn.name == "runtime.NumGoroutine") && tZ fn.results.toList F.res && (match fn.body with
   | some c=>CB P G F.nt c F.code
   | none=>false)
 | none=>false
def GL (P:Program)(f:Nat)(aO:Array Value)(w:World)(R:Ending->World->Prop):Prop:=
 (callFunc f aO).run P w= .ok (.enter f aO) w/\∀u,CallsD P f aO u w fun e u' w'=>u'= u/\R e w'
def Iw (X:Ctx)(G:Nat)(run:Run):Prop:=∀f,X.dk f=true->∀args Z r Z',run f args Z=some (r,Z')->∀Y w (aO:Array Value),g_ G Y Z w->aJ Y w args aO.toList->GL X.P f aO w (After G Y Z w r Z')
def NI (P:Program)(fns:Nat->Option AF)(dk:Nat->Bool)(G f:Nat)(F:AF):Prop:=
 ∀ (X:Ctx),X.P=P->X.fns=fns->X.dk=dk->X.Ok G->X.P.follows .mixedOrders=true->∀(run:Run) (n:Nat),nC X.P G run->Iw X G run->
   ∀ (args:List AV) (Z:St) (o:Out) (e:Env) (Z1:St) (v:AV),args.length<=F.nt->bH X run n F.code (iD 0 args) Z=some (o,e,Z1)->o= .normal\/o= .ret->wu X.P F.res e Z1=some v->
   ∀ (Y:Mu) (w:World) (aO:Array Value),g_ G Y Z w->aJ Y w args aO.toList->Enters X.P f/\Calls X.P f aO w (After G Y Z w v Z1)
structure Ctx.Sound (X:Ctx)(G:Nat):Prop where
 ok:X.Ok G
 draws:X.P.follows .mixedOrders=true
 fns:∀f F,X.fM f=none->X.fns f=some F->cu X.P G f F=true\/NI X.P X.fns X.dk G f F
 SS:∀f,X.dk f=true->X.fM f=none/\∀F,X.fns f=some F->cu X.P G f F=true
section
variable {X:Ctx} {G N:Nat} {Y:Mu} {Z:St} {w:World}
theorem DU:∀(args:List AV) (k n:Nat),get (iD k args) n=if k<=n then(args[n - k]?).getD .u else .u
 | [],k,n=>by simp [iD,get]
 | a :: rest,k,n=>by
   simp only [iD,get]
   split
   ·rename_i h;subst h;simp
   ·rename_i h
    rw [DU rest (k+1) n]
    by_cases hk:k<=n
    ·rw [if_pos hk,if_pos (by omega),show n - k=(n - (k+1))+1 by omega];simp
    ·rw [if_neg hk,if_neg (by omega)]
theorem Bv {args:List AV} {aO:Array Value} {nt:Nat} (h:aJ Y w args aO.toList)(hl:args.length<=nt):fQ G nt Y w (iD 0 args) (aO ++ Array.replicate (nt - aO.size) undef):=by
 have hsz:aO.size=args.length:=by have:=h.length;simpa using this
 refine⟨by simp;omega,fun n=>?_⟩
 rw [DU]
 simp only [Nat.zero_le,if_true,Nat.sub_zero]
 cases hn:args[n]? with
 | none=>trivial
 | some a=>
   obtain⟨v,hv,hr⟩:=h.get n a hn
   have hlt:n<aO.size:=by have:=eP hn;omega
   rw [Array.getElem?_toList] at hv
   simp only [Option.getD_some]
   rw [Array.getD_eq_getD_getElem?,Array.getElem?_append_left hlt,hv]
   exact hr
def PN (tmps:Array Value):ResultVar->Sem Value
 | .tmp t=>pure (tmps.getD t undef)
 | .cell a t=>do loadVar t (<-asAddr (tmps.getD a undef))
theorem DV (hs:g_ G Y Z w) {e:Env} {tmps:Array Value} (he:fQ G N Y w e tmps):∀(l:List ResultVar) (r:List AR) (vs:List AV),tZ l r=true->sU X.P e Z r=some vs->
 ∃ us,(l.mapM (PN tmps)).run X.P w= .ok us w/\aJ Y w vs us
 | [],[],vs,_,h=>by
   simp only [sU,oW] at h
   subst h
   exact⟨[],by simp,rfl⟩
 | .tmp n :: l,.t m :: r,vs,hok,h=>by
   simp only [tZ,fJ,beq_iff_eq] at hok
   obtain⟨rfl,hok⟩:=hok
   simp only [sU] at h
   split at h
   ·rename_i v vs' hv hvs
    cases h
    obtain⟨us,h1,h2⟩:=DV hs he l r vs' hok hvs
    have hvn:v=get e n:=by
        simp only [Di] at hv
        split at hv
        ·cases hv
        ·exact(Option.some.inj hv).symm
    refine⟨tmps.getD n undef :: us,?_,_,us,rfl,by rw [hvn];exact he.rel n,h2⟩
    simp [List.mapM_cons,PN,h1]
   ·cases h
 | .cell a t :: l,.cell b s :: r,vs,hok,h=>by
   simp only [tZ,fJ,beq_iff_eq] at hok
   obtain⟨⟨rfl,rfl⟩,hok⟩:=hok
   simp only [sU] at h
   split at h
   ·rename_i v vs' hv hvs
    cases h
    obtain⟨us,h1,h2⟩:=DV hs he l r vs' hok hvs
    simp only [Di] at hv
    have hr:=he.rel a
    unfold aLoad at hv
    split at hv
    ·rename_i T o g off hT hx
     rw [hx] at hr
     rw [Option.bind_eq_some_iff] at hv
     obtain⟨cs,hc,hp⟩:=hv
     obtain⟨b,δ,hb,hbe⟩:=hr
     obtain⟨u,q1,q2⟩:=Bc hT hs hc hp hb
     refine⟨u :: us,?_,u,us,rfl,q2,h2⟩
     simp [List.mapM_cons,PN,hbe,asAddr,q1,h1]
    ·cases hv
   ·cases h
theorem t_ (hs:g_ G Y Z w) {e:Env} {tmps:Array Value} (he:fQ G N Y w e tmps) {fn:Func} {r:List AR} {v:AV} (hok:tZ fn.results.toList r=true)(h:wu X.P r e Z=some v) :
 ∃ u,(results fn tmps).run X.P w= .ok u w/\aI Y w v u:=by
 unfold wu at h
 cases hL:sU X.P e Z r with
 | none=>rw [hL] at h;cases h
 | some vs=>
   rw [hL] at h
   obtain⟨us,h1,h2⟩:=DV (X:=X) hs he _ r vs hok hL
   have hm:(results fn tmps).run X.P w= .ok (if h:us.toArray.size=1 then us.toArray[0] else .tuple us.toArray) w:=by
    have hf:results fn tmps=(do let vs <-fn.results.mapM (PN tmps);pure (if h:vs.size=1 then vs[0] else .tuple vs)):=rfl
    rw [hf,Array.mapM_eq_mapM_toList]
    simp [h1]
   have hlen:=h2.length
   refine⟨_,hm,?_⟩
   split at h
   ·rename_i v' hvs
    cases h
    cases hvs
    obtain⟨y,ys,rfl,q1,q2⟩:=h2
    simp only [aJ] at q2
    subst q2
    exact q1
   ·rename_i hn hvs
    cases h
    cases hvs
    have h1':us.toArray.size≠1:=by
        simp only [List.size_toArray]
        intro hu
        rw [hu] at hlen
        cases vs with
        | nil=>cases hlen
        | cons x xs=>
          cases xs with
          | nil=>exact hn x rfl
          | cons _ _=>simp at hlen
    rw [dif_neg h1']
    exact⟨us.toArray,rfl,h2⟩
   ·rename_i hvs;cases hvs
theorem aae (hX:X.Ok G)(hdr:X.P.follows .mixedOrders=true) {f:Nat} {F:AF} (hok:cu X.P G f F=true):∃fn c,X.P.funcs[f]? =some fn/\fn.body=some c/\fn.ntmps=F.nt/\Enters X.P f/\
 ∀ (run:Run) (n:Nat),nC X.P G run->∀(args:List AV) (Z:St) (o:Out) (e:Env) (Z1:St) (v:AV),args.length<=F.nt->bH X run n F.code (iD 0 args) Z=some (o,e,Z1)->o= .normal\/o= .ret->wu X.P F.res e Z1=some v->
 ∀ (Y:Mu) (w:World) (aO:Array Value),g_ G Y Z w->aJ Y w args aO.toList->c.wp X.P (bodyPost X.P fn (After G Y Z w v Z1)) { tmps:=aO ++ Array.replicate (fn.ntmps - aO.size) undef,defers:=[] } w:=by
 unfold cu at hok
 split at hok
 ·rename_i fn hfn
  simp only [fJ,beq_iff_eq,Bool.not_eq_true'] at hok
  obtain⟨⟨⟨hnt,hnm⟩,hres⟩,hbody⟩:=hok
  split at hbody
  ·rename_i c hc
   refine⟨fn,c,hfn,hc,hnt,iw hfn hnm (by rw [hc];rfl),?_⟩
   intro run n hrun args Z o e Z1 v hlen hcode ho hv Y w aO hs hr
   have hsz:aO.size=args.length:=by have:=hr.length;simpa using this
   rw [hnt]
   have hen:=Bv (G:=G) hr hlen
   refine gB hX hrun hdr c F.code hbody [] _ { tmps:=aO ++ Array.replicate (F.nt - aO.size) undef,defers:=[] } Y Z w o e Z1 _ hs hen rfl hcode fun act' w' hl=>?_
   obtain⟨Y1,hst,hen1,hd1⟩:=hl
   obtain⟨u,hu1,hu2⟩:=t_ (X:=X) hst.wB hen1 hres hv
   have hafter:After G Y Z w v Z1 (.returned u) w':=⟨u,Y1,rfl,hu2,hst⟩
   rcases ho with rfl | rfl
   ·exact⟨hd1,u,hu1,hafter⟩
   ·exact⟨hd1,u,hu1,hafter⟩
  ·cases hbody
 ·cases hok
theorem PS (hX:X.Ok G)(hdr:X.P.follows .mixedOrders=true) {f:Nat} {F:AF} (hok:cu X.P G f F=true\/NI X.P X.fns X.dk G f F) {run:Run} {n:Nat} (hrun:nC X.P G run)(hrd:Iw X G run) {args:List AV} {Z:St} {o:Out} {e:Env} {Z1:St} {v:AV} (hlen:args.length<=F.nt)
 (hcode:bH X run n F.code (iD 0 args) Z=some (o,e,Z1)) (ho:o= .normal\/o= .ret) (hv:wu X.P F.res e Z1=some v) {Y:Mu} {w:World} {aO:Array Value} (hs:g_ G Y Z w) (hr:aJ Y w args aO.toList):Enters X.P f/\Calls X.P f aO w (After G Y Z w v Z1):=by
 rcases hok with hok | hok
 ·obtain⟨fn,c,hfn,hc,hnt,hen,hwp⟩:=aae hX hdr hok
  exact⟨hen,calls_of_wp hfn hc (hwp run n hrun args Z o e Z1 v hlen hcode ho hv Y w aO hs hr)⟩
 ·exact hok X rfl rfl rfl hX hdr run n hrun hrd args Z o e Z1 v hlen hcode ho hv Y w aO hs hr
theorem KD (hX:X.Ok G)(hdr:X.P.follows .mixedOrders=true) {f:Nat} {F:AF} (hok:cu X.P G f F=true) {run:Run} {n:Nat} (hrun:nC X.P G run) {args:List AV} {Z:St} {o:Out} {e:Env} {Z1:St} {v:AV} (hlen:args.length<=F.nt)
 (hcode:bH X run n F.code (iD 0 args) Z=some (o,e,Z1)) (ho:o= .normal\/o= .ret) (hv:wu X.P F.res e Z1=some v) {Y:Mu} {w:World} {aO:Array Value} (hs:g_ G Y Z w) (hr:aJ Y w args aO.toList):GL X.P f aO w (After G Y Z w v Z1):=by
 obtain⟨fn,c,hfn,hc,hnt,hen,hwp⟩:=aae hX hdr hok
 exact⟨hen aO w,fun u=>callsD_of_wp hfn hc (hwp run n hrun args Z o e Z1 v hlen hcode ho hv Y w aO hs hr)⟩
theorem After.TV {r:AV} {Z' Z1:St} {v:AV} {e':Ending} {w':World} (hs:g_ G Y Z w)(hn:norm Z v Z1=(r,Z'))(h:After G Y Z w v Z1 e' w'):After G Y Z w r Z' e' w':=by
 obtain⟨u,Y1,he,hu2,hst⟩:=h
 unfold norm at hn
 split at hn
 ·rename_i hfl
  simp only [fJ] at hfl
  cases hn
  exact⟨u,Y,he,aI.flat _ _ hfl.1 hu2,Step.norm hs hst (mD _ _ hfl.2)⟩
 ·cases hn
  exact⟨u,Y1,he,hu2,hst⟩
theorem CallsD.monoR {P:Program} {f:Nat} {aO:Array Value} {w:World} {R R':Ending->World->Prop} (h:GL P f aO w R)(hr:∀e w',R e w'->R' e w'):GL P f aO w R':=
 ⟨h.1,fun u=>(h.2 u).mono fun e u' w' q=>⟨q.1,hr _ _ q.2⟩⟩
theorem PU (hX:X.Sound G):∀n,nC X.P G (aFn X n)/\Iw X G (aFn X n)
 | 0=>⟨(by intro f args Z r Z' h;cases h),(by intro f _ args Z r Z' h;cases h)⟩
 | n+1=>by
   obtain⟨ih,ihd⟩:=PU hX n
   constructor
   ·intro f args Z r Z' h
    simp only [aFn] at h
    split at h
    ·rename_i g hg
     exact hX.ok.fM f g hg _ _ _ _ h
    ·rename_i hp
     split at h
     ·rename_i F hF
      intro Y w aO hs hr
      split at h
      ·rename_i hlen
       have main:∀(o:Out) (e:Env) (Z1:St),bH X (aFn X n) n F.code (iD 0 args) Z=some (o,e,Z1)->o= .normal\/o= .ret->(wu X.P F.res e Z1).map (fun v=>norm Z v Z1)=some (r,Z')->Does X.P f aO w (After G Y Z w r Z'):=by
        intro o e Z1 hcode ho hmap
        rw [iU] at hmap
        obtain⟨v,hv,DW⟩:=hmap
        obtain⟨he,hc⟩:=PS hX.ok hX.draws (hX.fns f F hp hF) ih ihd hlen hcode ho hv hs hr
        exact .inl ⟨he aO w,hc.mono fun e' w' q=>q.TV hs DW⟩
       split at h
       ·rename_i e Z1 hcode;exact main _ _ _ hcode (.inl rfl) h
       ·rename_i e Z1 hcode;exact main _ _ _ hcode (.inr rfl) h
       ·cases h
      ·cases h
     ·cases h
   ·intro f hdk args Z r Z' h
    obtain⟨hp,hokf⟩:=hX.SS f hdk
    simp only [aFn,hp] at h
    split at h
    ·rename_i F hF
     intro Y w aO hs hr
     split at h
     ·rename_i hlen
      have main:∀(o:Out) (e:Env) (Z1:St),bH X (aFn X n) n F.code (iD 0 args) Z=some (o,e,Z1)->o= .normal\/o= .ret->(wu X.P F.res e Z1).map (fun v=>norm Z v Z1)=some (r,Z')->GL X.P f aO w (After G Y Z w r Z'):=by
            intro o e Z1 hcode ho hmap
            rw [iU] at hmap
            obtain⟨v,hv,DW⟩:=hmap
            exact CallsD.monoR (KD hX.ok hX.draws (hokf F hF) ih hlen hcode ho hv hs hr) fun e' w' q=>q.TV hs DW
      split at h
      ·rename_i e Z1 hcode;exact main _ _ _ hcode (.inl rfl) h
      ·rename_i e Z1 hcode;exact main _ _ _ hcode (.inr rfl) h
      ·cases h
     ·cases h
    ·cases h
theorem fn_ok (hX:X.Sound G)(n:Nat):nC X.P G (aFn X n):=(PU hX n).1
theorem Du.does (hX:X.Sound G) {f:Nat} {args:List AV} {Q:AV->St->Prop} (h:Du X f args Z Q)(hs:g_ G Y Z w) {aO:Array Value} (hr:aJ Y w args aO.toList) :
 Does X.P f aO w fun e w'=>∃r Z',Q r Z'/\After G Y Z w r Z' e w':=by
 obtain⟨n,⟨r,Z'⟩,h1,h2⟩:=h
 exact(fn_ok hX n f args Z r Z' h1 Y w aO hs hr).mono fun e w' ha=>⟨r,Z',h2,ha⟩
theorem Does.calls {P:Program} {f:Nat} {aO:Array Value} {R:Ending->World->Prop} (h:Does P f aO w R)(he:Enters P f):Calls P f aO w R:=by
 rcases h with ⟨_,h⟩ | ⟨v,w',h1,_⟩
 ·exact h
 ·rw [he aO w] at h1;cases h1
theorem Du.calls (hX:X.Sound G) {f:Nat} {args:List AV} {Q:AV->St->Prop} (h:Du X f args Z Q)(he:Enters X.P f)(hs:g_ G Y Z w) {aO:Array Value} (hr:aJ Y w args aO.toList) :
 Calls X.P f aO w fun e w'=>∃r Z',Q r Z'/\After G Y Z w r Z' e w':=(h.does hX hs hr).calls he
end
end Go.Abs
