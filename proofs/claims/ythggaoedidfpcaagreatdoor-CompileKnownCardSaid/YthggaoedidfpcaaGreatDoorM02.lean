/- Texts of this claim, joined: Abs3, Abs13, Abs14, Abs15, Abs16, Abs17, Abs60, Abs61, Abs62, Abs64, Abs67, Abs68, Abs18, Abs19, Abs65, Abs66. -/
import Derived.Test.YthggaoedidfpcaaGreatDoorM01
import Derived.LoopN
import Derived.Scope
import Derived.Orders
import Derived.Defers
import Derived.Recover
set_option linter.unusedVariables false
set_option linter.unusedSimpArgs false
namespace Go.dX
def Ex {α:Type} (g:Nat→Option α)(Q:α→Prop):Prop:=∃n r,g n=some r∧Q r
def Run.le (r r':Run):Prop:=∀f args σ x,r f args σ=some x→r' f args σ=some x
theorem Ir {X:Ctx} {r r':Run} (h:r.le r') {ρ:bT→AV} {op:dM} {σ:St} {x:AV×St} (hx:dO X r ρ op σ=some x):dO X r' ρ op σ=some x:=by
 cases op with
 | call f args=>
   simp only [dO] at hx ⊢
   split at hx
   ·exact h _ _ _ _ hx
   ·simp at hx
 | inv y m args=>
   simp only [dO] at hx ⊢
   split at hx
   ·split at hx
    ·exact h _ _ _ _ hx
    ·simp at hx
   ·simp at hx
 | _=>exact hx
theorem qh {X:Ctx} {r r':Run} (h:r.le r') {e:Env} {a:AI} {σ:St} {x:AV×St} (hx:dK X r e a σ=some x):dK X r' e a σ=some x:=by
 unfold dK at *
 cases hg:a.gd with
 | none=>rw [hg] at hx;exact Ir h hx
 | some g=>
   rw [hg] at hx
   simp only at hx ⊢
   cases hw:eG e (some g) with
   | none=>rw [hw] at hx;simp at hx
   | some c=>
     rw [hw] at hx
     simp only at hx ⊢
     by_cases hp:a.op.pure=true
     ·simpa only [hp,if_true] using hx
     ·simp only [hp,if_false,Bool.false_eq_true] at hx ⊢
      by_cases hc:c=true
      ·simp only [hc,if_true] at hx ⊢
       split at hx
       ·rename_i hall;rw [if_pos hall];exact Ir h hx
       ·simp at hx
      ·simpa only [hc,if_false,Bool.false_eq_true] using hx
theorem uy {X:Ctx} {r r':Run} (h:r.le r'):∀{ops:List AI} {e:Env} {σ:St} {x:Env×St},jG X r ops e σ=some x→jG X r' ops e σ=some x
 | [],_,_,_,hx=>hx
 | a :: ops,e,σ,x,hx=>by
   simp only [jG] at hx ⊢
   cases hs:dK X r e a σ with
   | none=>rw [hs] at hx;simp at hx
   | some y=>rw [hs] at hx;rw [qh h hs];exact uy h hx
theorem wS {X:Ctx} {r r':Run} (h:r.le r'):∀{ops:List (AI×List AI)} {e:Env} {σ:St} {x:Env×St},o7 X r ops e σ=some x→o7 X r' ops e σ=some x
 | [],_,_,_,hx=>hx
 | (a,ag) :: ops,e,σ,x,hx=>by
   simp only [o7] at hx ⊢
   cases hs:dK X r e a σ with
   | none=>rw [hs] at hx;simp at hx
   | some y=>
     rw [hs] at hx;rw [qh h hs]
     simp only at hx ⊢
     split at hx
     ·rename_i hall;rw [if_pos hall];exact wS h hx
     ·simp at hx
def gW.le (r r':gW):Prop:=∀f args σ x,r f args σ=some x→r' f args σ=some x
theorem iG {r:gW} {f:Nat} {args:List AV} {σ:St} {x:AV×St} :nrm r f args σ=some x↔r f args σ=some (false,x):=by
 unfold nrm
 constructor
 ·intro h
  split at h
  ·rename_i h1;cases h;exact h1
  ·cases h
 ·intro h;rw [h]
theorem Bd {r r':gW} (h:r.le r'):(nrm r).le (nrm r'):=fun _ _ _ _ hx=>iG.2 (h _ _ _ _ (iG.1 hx))
theorem Ez {X:Ctx} {r r':gW} (h:r.le r') {ρ:bT→AV} {op:dM} {σ:St} {x:Bool×AV×St} (hx:eF X r ρ op σ=some x):eF X r' ρ op σ=some x:=by
 cases op with
 | call f args=>
   simp only [eF] at hx ⊢
   split at hx
   ·exact h _ _ _ _ hx
   ·simp at hx
 | inv y m args=>
   simp only [eF] at hx ⊢
   split at hx
   ·split at hx
    ·exact h _ _ _ _ hx
    ·simp at hx
   ·simp at hx
 | _=>exact hx
theorem uz {X:Ctx} {r r':gW} (h:r.le r') {e:Env} {a:AI} {σ:St} {x:Bool×AV×St} (hx:iy X r e a σ=some x):iy X r' e a σ=some x:=by
 unfold iy at *
 cases hg:a.gd with
 | none=>rw [hg] at hx;exact Ez h hx
 | some g=>
   rw [hg] at hx
   simp only at hx ⊢
   cases hw:eG e (some g) with
   | none=>rw [hw] at hx;simp at hx
   | some c=>
     rw [hw] at hx
     simp only at hx ⊢
     by_cases hp:a.op.pure=true
     ·simpa only [hp,if_true] using hx
     ·simp only [hp,if_false,Bool.false_eq_true] at hx ⊢
      by_cases hc:c=true
      ·simp only [hc,if_true] at hx ⊢
       split at hx
       ·rename_i hall;rw [if_pos hall];exact Ez h hx
       ·simp at hx
      ·simpa only [hc,if_false,Bool.false_eq_true] using hx
theorem su {X:Ctx} {r r':gW} (h:r.le r'):∀{ops:List AI} {e:Env} {σ:St} {x:Out×Env×St},nD X r ops e σ=some x→nD X r' ops e σ=some x
 | [],_,_,_,hx=>hx
 | a :: ops,e,σ,x,hx=>by
   simp only [nD] at hx ⊢
   cases hs:iy X r e a σ with
   | none=>rw [hs] at hx;simp at hx
   | some y=>
     rw [hs] at hx;rw [uz h hs]
     obtain⟨b,v,σ'⟩:=y
     cases b with
     | false=>exact su h hx
     | true=>exact hx
theorem sD {X:Ctx} {r r':gW} (h:r.le r') {W:Env} :∀{ops:List (AI×List AI)} {e:Env} {σ:St} {x:Out×Env×St},mQ X r W ops e σ=some x→mQ X r' W ops e σ=some x
 | [],_,_,_,hx=>hx
 | (a,ag) :: ops,e,σ,x,hx=>by
   simp only [mQ] at hx ⊢
   cases hs:iy X r e a σ with
   | none=>rw [hs] at hx;simp at hx
   | some y=>
     rw [hs] at hx;rw [uz h hs]
     obtain⟨b,v,σ'⟩:=y
     cases b with
     | false=>
       simp only at hx ⊢
       split at hx
       ·rename_i hall;rw [if_pos hall];exact sD h hx
       ·cases hx
     | true=>exact hx
theorem Ad {k g d:Nat} {f f':Env→St→Option (Out×Env×St)} (h:∀e σ x,f e σ=some x→f' e σ=some x) {arg:List AV→Env} {o:Out} {e:Env} {σ:St} {x:Out×Env×St} (hx:wI k g d f arg o e σ=some x):wI k g d f' arg o e σ=some x:=by
 unfold wI at hx ⊢
 split at hx
 ·split at hx
  ·rename_i hg
   rw [if_pos hg]
   cases hf:f ((d,o.rec') :: arg _) σ with
   | none=>rw [hf] at hx;simp at hx
   | some y=>rw [hf] at hx;rw [h _ _ _ hf];exact hx
  ·cases hx
 ·exact hx
theorem qj {live:List Nat} {b b':Env→St→Option (Out×Env×St)} (h:∀e σ x,b e σ=some x→b' e σ=some x) :
 ∀ {n m:Nat} {e:Env} {σ:St} {x:Out×Env×St},n≤m→iP live b n e σ=some x→iP live b' m e σ=some x
 | 0,_,_,_,_,_,hx=>by simp [iP] at hx
 | n+1,0,_,_,_,hn,_=>by omega
 | n+1,m+1,e,σ,x,hn,hx=>by
   simp only [iP] at hx ⊢
   cases hb:b (clear live e) σ with
   | none=>rw [hb] at hx;simp at hx
   | some y=>
     rw [hb] at hx;rw [h _ _ _ hb]
     obtain⟨o,e',σ'⟩:=y
     cases o with
     | normal=>exact qj h (by omega) hx
     | exit id=>exact hx
     | ret=>exact hx
     | gu v=>exact hx
theorem kQ {X:Ctx} {r r':gW} (h:r.le r') {n m:Nat} (hn:n≤m):∀{c:AC} {e:Env} {σ:St} {x:Out×Env×St},aW X r n c e σ=some x→aW X r' m c e σ=some x:=by
 intro c
 induction c with
 | skip=>intro e σ x hx;exact hx
 | exit id=>intro e σ x hx;exact hx
 | ret=>intro e σ x hx;exact hx
 | reg ops=>
   intro e σ x hx
   simp only [aW] at hx ⊢
   cases hs:jG X (nrm r) ops e σ with
   | none=>rw [hs] at hx;simp at hx
   | some y=>rw [hs] at hx;rw [uy (Bd h) hs];exact hx
 | iO ops=>intro e σ x hx;exact su h hx
 | iM ops=>intro e σ x hx;exact sD h hx
 | Kv a=>
   intro e σ x hx
   simp only [aW] at hx ⊢
   split at hx
   ·cases hx
   ·rename_i hf
    rw [if_neg hf]
    cases hs:jG X (nrm r) [a] e σ with
    | none=>rw [hs] at hx;simp at hx
    | some y=>rw [hs] at hx;rw [uy (Bd h) hs];exact hx
 | hnd k g d c h rP ihh=>
   intro e σ x hx
   simp only [aW] at hx ⊢
   cases hs:aW X r n c ((k,.u) :: e) σ with
   | none=>rw [hs] at hx;simp at hx
   | some y=>
     rw [hs] at hx;rw [rP hs]
     obtain⟨o,e',σ'⟩:=y
     cases o with
     | exit id=>exact hx
     | normal=>exact Ad (fun _ _ _ hb=>ihh hb) hx
     | ret=>exact Ad (fun _ _ _ hb=>ihh hb) hx
     | gu v=>exact Ad (fun _ _ _ hb=>ihh hb) hx
 | gJ ops=>
   intro e σ x hx
   simp only [aW] at hx ⊢
   cases hs:o7 X (nrm r) ops e σ with
   | none=>rw [hs] at hx;simp at hx
   | some y=>rw [hs] at hx;rw [wS (Bd h) hs];exact hx
 | seq a b iha ihb=>
   intro e σ x hx
   simp only [aW] at hx ⊢
   cases hs:aW X r n a e σ with
   | none=>rw [hs] at hx;simp at hx
   | some y=>
     rw [hs] at hx;rw [iha hs]
     obtain⟨o,e',σ'⟩:=y
     cases o with
     | normal=>exact ihb hx
     | exit id=>exact hx
     | ret=>exact hx
     | gu v=>exact hx
 | cond y a b iha ihb=>
   intro e σ x hx
   simp only [aW] at hx ⊢
   split at hx <;> first | exact iha hx | exact ihb hx | simp at hx
 | blk id c ih=>
   intro e σ x hx
   simp only [aW] at hx ⊢
   cases hs:aW X r n c e σ with
   | none=>rw [hs] at hx;simp at hx
   | some y=>rw [hs] at hx;rw [ih hs];exact hx
 | loop live c ih=>
   intro e σ x hx
   simp only [aW] at hx ⊢
   exact qj (fun _ _ _ hb=>ih hb) hn hx
 | cut live c ih=>
   intro e σ x hx
   simp only [aW] at hx ⊢
   exact ih hx
def Iu (X:Ctx)(res:List AR)(y:Out×Env×St):Option (Bool×AV×St):=match y with
 | (.normal,e,σ') | (.ret,e,σ')=>(uO X.P res e σ').map fun v=>(false,v,σ')
 | (.gu v,_,σ')=>some (true,v,σ')
 | _=>none
theorem EC (X:Ctx)(run:gW)(n:Nat)(F:AF)(args:List AV)(σ:St):aBody X run n F args σ=(aW X run n F.code (d_ 0 args) σ).bind (Iu X F.res):=by
 unfold aBody
 cases aW X run n F.code (d_ 0 args) σ with
 | none=>rfl
 | some y=>obtain⟨o,e,σ'⟩:=y;cases o <;> rfl
theorem Iw {X:Ctx} {r r':gW} (h:r.le r') {n m:Nat} (hn:n≤m) {F:AF} {args:List AV} {σ:St} {x:Bool×AV×St} (hx:aBody X r n F args σ=some x):aBody X r' m F args σ=some x:=by
 unfold aBody at hx ⊢
 cases hc:aW X r n F.code (d_ 0 args) σ with
 | none=>rw [hc] at hx;simp at hx
 | some y=>rw [hc] at hx;rw [kQ h hn hc];exact hx
theorem Iy (X:Ctx):∀n,(zQ X n).le (zQ X (n+1))
 | 0=>fun _ _ _ _ hx=>by simp [zQ] at hx
 | n+1=>fun f args σ x hx=>by
   rw [zQ] at hx ⊢
   cases hp:X.lg f with
   | some g=>rw [hp] at hx;exact hx
   | none=>
     rw [hp] at hx
     simp only at hx ⊢
     cases hf:X.fns f with
     | none=>rw [hf] at hx;simp at hx
     | some F=>
       rw [hf] at hx
       simp only at hx ⊢
       split at hx
       ·rename_i hl
        rw [if_pos hl]
        cases hc:aBody X (zQ X n) n F args σ with
        | none=>rw [hc] at hx;simp at hx
        | some y=>rw [hc] at hx;rw [Iw (Iy X n) (Nat.le_succ n) hc];exact hx
       ·simp at hx
theorem sF (X:Ctx) {n m:Nat} (h:n≤m):(zQ X n).le (zQ X m):=by
 induction h with
 | refl=>exact fun _ _ _ _ h=>h
 | step _ ih=>exact fun f args σ x hx=>Iy X _ _ _ _ _ (ih _ _ _ _ hx)
theorem yg (X:Ctx) {n m:Nat} (h:n≤m):(aFn X n).le (aFn X m):=Bd (sF X h)
def DN (X:Ctx)(f:Nat)(args:List AV)(σ:St)(Q:AV→St→Prop):Prop:=Ex (fun n=>aFn X n f args σ) fun r=>Q r.1 r.2
def EvC (X:Ctx)(c:AC)(e:Env)(σ:St)(Q:Out→Env→St→Prop):Prop:=Ex (fun n=>aW X (zQ X n) n c e σ) fun r=>Q r.1 r.2.1 r.2.2
def EvL (X:Ctx)(live:List Nat)(c:AC)(e:Env)(σ:St)(Q:Out→Env→St→Prop):Prop:=Ex (fun n=>iP live (aW X (zQ X n) n c) n e σ) fun r=>Q r.1 r.2.1 r.2.2
def EvO (X:Ctx)(ops:List AI)(e:Env)(σ:St)(Q:Env→St→Prop):Prop:=Ex (fun n=>jG X (aFn X n) ops e σ) fun r=>Q r.1 r.2
def EvD (X:Ctx)(ops:List (AI×List AI))(e:Env)(σ:St)(Q:Env→St→Prop):Prop:=Ex (fun n=>o7 X (aFn X n) ops e σ) fun r=>Q r.1 r.2
def EvS (X:Ctx)(e:Env)(a:AI)(σ:St)(Q:AV→St→Prop):Prop:=Ex (fun n=>dK X (aFn X n) e a σ) fun r=>Q r.1 r.2
def opt {α:Type} (o:Option α)(Q:α→Prop):Prop:=∃r,o=some r∧Q r
theorem iQ {α:Type} (a:α)(Q:α→Prop):opt (some a) Q↔Q a:=⟨fun⟨_,h,q⟩=>(by cases h;exact q),fun q=>⟨a,rfl,q⟩⟩
theorem gX {α:Type} (Q:α→Prop):opt none Q↔False:=⟨fun⟨_,h,_⟩=>(by cases h),False.elim⟩
theorem fB {α β:Type} (f:α→β)(o:Option α)(Q:β→Prop):opt (o.map f) Q↔opt o fun a=>Q (f a):=by
 cases o <;> simp [iQ,gX]
theorem Q5 {α β:Type} (f:α→Option β)(o:Option α)(Q:β→Prop):opt (o.bind f) Q↔opt o fun a=>opt (f a) Q:=by
 cases o <;> simp [iQ,gX]
theorem fD {α:Type} (o:Option α)(Q:α→Prop):Ex (fun _=>o) Q↔opt o Q:=⟨fun⟨_,r,h,q⟩=>⟨r,h,q⟩,fun⟨r,h,q⟩=>⟨0,r,h,q⟩⟩
section
variable {X:Ctx} {e:Env} {σ:St} {Q:Out→Env→St→Prop}
theorem Iz:EvC X .skip e σ Q↔Q .normal e σ:=by simp [EvC,aW,fD,iQ]
theorem IB {id:Nat} :EvC X (.exit id) e σ Q↔Q (.exit id) e σ:=by simp [EvC,aW,fD,iQ]
theorem Nb:EvC X .ret e σ Q↔Q .ret e σ:=by simp [EvC,aW,fD,iQ]
theorem Nc {ops:List AI} :EvC X (.reg ops) e σ Q↔EvO X ops e σ fun e' σ'=>Q .normal e' σ':=by
 constructor
 ·rintro ⟨n,r,h,q⟩
  try dsimp only at h
  simp only [aW,Option.map_eq_some_iff] at h
  obtain⟨y,hy,rfl⟩:=h
  exact⟨n,y,hy,q⟩
 ·rintro ⟨n,r,h,q⟩
  try dsimp only at h
  exact⟨n,_,by simp only [aW];erw [h];rfl,q⟩
theorem Nh {ops:List (AI×List AI)} :EvC X (.gJ ops) e σ Q↔EvD X ops e σ fun e' σ'=>Q .normal e' σ':=by
 constructor
 ·rintro ⟨n,r,h,q⟩
  try dsimp only at h
  simp only [aW,Option.map_eq_some_iff] at h
  obtain⟨y,hy,rfl⟩:=h
  exact⟨n,y,hy,q⟩
 ·rintro ⟨n,r,h,q⟩
  try dsimp only at h
  exact⟨n,_,by simp only [aW];erw [h];rfl,q⟩
def Out.next (K:Env→St→Prop)(Q:Out→Env→St→Prop):Out→Env→St→Prop
 | .normal,e,σ=>K e σ
 | o,e,σ=>Q o e σ
theorem Out.zu (K:Env→St→Prop)(Q:Out→Env→St→Prop)(e:Env)(σ:St):Out.next K Q .normal e σ=K e σ:=rfl
theorem Out.ED (K:Env→St→Prop)(Q:Out→Env→St→Prop)(e:Env)(σ:St)(id:Nat):Out.next K Q (.exit id) e σ=Q (.exit id) e σ:=rfl
theorem Out.IC (K:Env→St→Prop)(Q:Out→Env→St→Prop)(e:Env)(σ:St)(v:AV):Out.next K Q (.gu v) e σ=Q (.gu v) e σ:=rfl
theorem Out.IE (K:Env→St→Prop)(Q:Out→Env→St→Prop)(e:Env)(σ:St):Out.next K Q .ret e σ=Q .ret e σ:=rfl
theorem Nj {a b:AC} :EvC X (.seq a b) e σ Q↔EvC X a e σ (Out.next (fun e' σ'=>EvC X b e' σ' Q) Q):=by
 constructor
 ·rintro ⟨n,r,h,q⟩
  try dsimp only at h
  simp only [aW] at h
  cases hs:aW X (zQ X n) n a e σ with
  | none=>rw [hs] at h;simp at h
  | some y=>
    rw [hs] at h
    obtain⟨o,e',σ'⟩:=y
    refine⟨n,_,hs,?_⟩
    cases o with
    | normal=>exact⟨n,r,h,q⟩
    | exit id=>simp only [Option.some.injEq] at h;subst h;exact q
    | ret=>simp only [Option.some.injEq] at h;subst h;exact q
    | gu v=>simp only [Option.some.injEq] at h;subst h;exact q
 ·rintro ⟨n,⟨o,e',σ'⟩,h,q⟩
  try dsimp only at h
  cases o with
  | normal=>
    obtain⟨m,r,hm,q'⟩:=q
    try dsimp only at hm
    refine⟨max n m,r,?_,q'⟩
    simp only [aW]
    rw [kQ (sF X (Nat.le_max_left n m)) (Nat.le_max_left n m) h]
    exact kQ (sF X (Nat.le_max_right n m)) (Nat.le_max_right n m) hm
  | exit id=>exact⟨n,_,by simp only [aW];rw [h],q⟩
  | ret=>exact⟨n,_,by simp only [aW];rw [h],q⟩
  | gu v=>exact⟨n,_,by simp only [aW];rw [h],q⟩
def FT (v:AV)(A B:Prop):Prop:=match v with | .b true=>A | .b false=>B | _=>False
theorem OX {A B:Prop} :FT (.b true) A B↔A:=Iff.rfl
theorem KX {A B:Prop} :FT (.b false) A B↔B:=Iff.rfl
theorem cndV_b {t:Bool} {A B:Prop} :FT (.b t) A B↔(t=true→A)∧(t=false→B):=by cases t <;> simp [FT]
theorem IG {x:bT} {a b:AC} :EvC X (.cond x a b) e σ Q↔FT (x.ev e) (EvC X a e σ Q) (EvC X b e σ Q):=by
 cases hx:x.ev e with
 | b t=>cases t <;> simp [EvC,aW,hx,FT]
 | _=>simp only [EvC,aW,hx,fD,gX,FT]
def Out.Bf (id:Nat)(Q:Out→Env→St→Prop):Out→Env→St→Prop
 | .exit j,e,σ=>if j=id then Q .normal e σ else Q (.exit j) e σ
 | o,e,σ=>Q o e σ
theorem Out.wU (id:Nat)(Q:Out→Env→St→Prop)(e:Env)(σ:St):Out.Bf id Q .normal e σ=Q .normal e σ:=rfl
theorem Out.Bg (id j:Nat)(Q:Out→Env→St→Prop)(e:Env)(σ:St):Out.Bf id Q (.exit j) e σ=if j=id then Q .normal e σ else Q (.exit j) e σ:=rfl
theorem Out.EF (id:Nat)(Q:Out→Env→St→Prop)(e:Env)(σ:St)(v:AV):Out.Bf id Q (.gu v) e σ=Q (.gu v) e σ:=rfl
theorem Out.EG (id:Nat)(Q:Out→Env→St→Prop)(e:Env)(σ:St):Out.Bf id Q .ret e σ=Q .ret e σ:=rfl
theorem Nk {id:Nat} {c:AC} :EvC X (.blk id c) e σ Q↔EvC X c e σ (Out.Bf id Q):=by
 constructor
 ·rintro ⟨n,r,h,q⟩
  try dsimp only at h
  simp only [aW] at h
  cases hs:aW X (zQ X n) n c e σ with
  | none=>rw [hs] at h;simp at h
  | some y=>
    rw [hs] at h
    obtain⟨o,e',σ'⟩:=y
    refine⟨n,_,hs,?_⟩
    cases o with
    | exit j=>
      simp only [Option.some.injEq] at h;subst h
      simp only [Out.Bf]
      by_cases hj:j=id <;> simpa [hj] using q
    | normal=>simp only [Option.some.injEq] at h;subst h;exact q
    | ret=>simp only [Option.some.injEq] at h;subst h;exact q
    | gu v=>simp only [Option.some.injEq] at h;subst h;exact q
 ·rintro ⟨n,⟨o,e',σ'⟩,h,q⟩
  try dsimp only at h
  cases o with
  | exit j=>
    refine⟨n,_,by simp only [aW];rw [h],?_⟩
    simp only [Out.Bf] at q
    by_cases hj:j=id <;> simpa [hj] using q
  | normal=>exact⟨n,_,by simp only [aW];rw [h],q⟩
  | ret=>exact⟨n,_,by simp only [aW];rw [h],q⟩
  | gu v=>exact⟨n,_,by simp only [aW];rw [h],q⟩
theorem Nl {live:List Nat} {c:AC} :EvC X (.cut live c) e σ Q↔EvC X c (clear live e) σ Q:=Iff.rfl
theorem II {live:List Nat} {c:AC} :EvC X (.loop live c) e σ Q↔EvL X live c e σ Q:=Iff.rfl
theorem IJ {live:List Nat} {c:AC} :EvL X live c e σ Q↔EvC X c (clear live e) σ (Out.next (fun e' σ'=>EvL X live c e' σ' Q) Q):=by
 constructor
 ·rintro ⟨n,r,h,q⟩
  try dsimp only at h
  cases n with
  | zero=>simp [iP] at h
  | succ n=>
    simp only [iP] at h
    cases hs:aW X (zQ X (n+1)) (n+1) c (clear live e) σ with
    | none=>rw [hs] at h;simp at h
    | some y=>
      rw [hs] at h
      obtain⟨o,e',σ'⟩:=y
      refine⟨n+1,_,hs,?_⟩
      cases o with
      | normal=>exact⟨n+1,r,qj (fun _ _ _ h=>h) (Nat.le_succ n) h,q⟩
      | exit id=>simp only [Option.some.injEq] at h;subst h;exact q
      | ret=>simp only [Option.some.injEq] at h;subst h;exact q
      | gu v=>simp only [Option.some.injEq] at h;subst h;exact q
 ·rintro ⟨n,⟨o,e',σ'⟩,h,q⟩
  try dsimp only at h
  cases o with
  | normal=>
    obtain⟨m,r,hm,q'⟩:=q
    try dsimp only at hm
    refine⟨max n m+1,r,?_,q'⟩
    simp only [iP]
    rw [kQ (sF X (Nat.le_trans (Nat.le_max_left n m) (Nat.le_succ _))) (Nat.le_trans (Nat.le_max_left n m) (Nat.le_succ _)) h]
    exact qj (fun _ _ _ hb=>kQ (sF X (Nat.le_trans (Nat.le_max_right n m) (Nat.le_succ _))) (Nat.le_trans (Nat.le_max_right n m) (Nat.le_succ _)) hb) (Nat.le_max_right n m) hm
  | exit id=>
    refine⟨n+1,_,?_,q⟩
    simp only [iP]
    rw [kQ (sF X (Nat.le_succ n)) (Nat.le_succ n) h]
  | ret=>
    refine⟨n+1,_,?_,q⟩
    simp only [iP]
    rw [kQ (sF X (Nat.le_succ n)) (Nat.le_succ n) h]
  | gu v=>
    refine⟨n+1,_,?_,q⟩
    simp only [iP]
    rw [kQ (sF X (Nat.le_succ n)) (Nat.le_succ n) h]
end
section
variable {X:Ctx} {e:Env} {σ:St}
theorem Np {Q:Env→St→Prop} :EvO X [] e σ Q↔Q e σ:=by simp [EvO,jG,fD,iQ]
theorem IK {a:AI} {r:List AI} {Q:Env→St→Prop} :EvO X (a :: r) e σ Q↔EvS X e a σ fun v σ'=>EvO X r (put a.d v e) σ' Q:=by
 constructor
 ·rintro ⟨n,x,h,q⟩
  try dsimp only at h
  simp only [jG] at h
  cases hs:dK X (aFn X n) e a σ with
  | none=>rw [hs] at h;simp at h
  | some y=>rw [hs] at h;exact⟨n,y,hs,n,x,h,q⟩
 ·rintro ⟨n,y,hs,m,x,h,q⟩
  try dsimp only at h hs
  refine⟨max n m,x,?_,q⟩
  simp only [jG]
  rw [qh (yg X (Nat.le_max_left n m)) hs]
  exact uy (yg X (Nat.le_max_right n m)) h
theorem Nq {Q:Env→St→Prop} :EvD X [] e σ Q↔Q e σ:=by simp [EvD,o7,fD,iQ]
theorem IL {a:AI} {ag:List AI} {r:List (AI×List AI)} {Q:Env→St→Prop} :
 EvD X ((a,ag) :: r) e σ Q↔EvS X e a σ fun v σ'=>ag.all (lq X e σ')=true∧EvD X r (put a.d v e) σ' Q:=by
 constructor
 ·rintro ⟨n,x,h,q⟩
  try dsimp only at h
  simp only [o7] at h
  cases hs:dK X (aFn X n) e a σ with
  | none=>rw [hs] at h;simp at h
  | some y=>
    rw [hs] at h
    simp only at h
    split at h
    ·rename_i hall;exact⟨n,y,hs,hall,n,x,h,q⟩
    ·simp at h
 ·rintro ⟨n,y,hs,hall,m,x,h,q⟩
  try dsimp only at h hs
  refine⟨max n m,x,?_,q⟩
  simp only [o7]
  rw [qh (yg X (Nat.le_max_left n m)) hs]
  simp only [hall,if_true]
  exact wS (yg X (Nat.le_max_right n m)) h
variable {Q:AV→St→Prop} {d:Option Nat}
def wV (X:Ctx)(f:AV)(args:List AV)(σ:St)(Q:AV→St→Prop):Prop:=match f with | .fn (.func k) first cap=>DN X k (first ++ args ++ cap) σ Q | _=>False
theorem Q7 {k:Nat} {first cap args:List AV} :wV X (.fn (.func k) first cap) args σ Q↔DN X k (first ++ args ++ cap) σ Q:=Iff.rfl
theorem Q8 {f:bT} {args:List bT} :EvS X e ⟨d,none,.call f args⟩ σ Q↔wV X (f.ev e) (args.map (bT.ev e)) σ Q:=by
 cases hf:f.ev e with
 | fn k a c=>cases k <;> simp [EvS,dK,dO,hf,DN,fD,wV,gX]
 | _=>simp only [EvS,dK,dO,hf,fD,gX,wV]
def invV (X:Ctx)(x:AV)(m:String)(args:List AV)(σ:St)(Q:AV→St→Prop):Prop:=match x with | .ic t v=>opt (X.meth t m v) (fun k=>DN X k.1 (k.2 :: args) σ Q) | _=>False
theorem invV_ic {t:Nat} {v:AV} {m:String} {args:List AV} :invV X (.ic t v) m args σ Q↔opt (X.meth t m v) (fun k=>DN X k.1 (k.2 :: args) σ Q):=Iff.rfl
theorem EvS_inv {x:bT} {m:String} {args:List bT} :EvS X e ⟨d,none,.inv x m args⟩ σ Q↔invV X (x.ev e) m (args.map (bT.ev e)) σ Q:=by
 cases hf:x.ev e with
 | ic t v=>cases hm:X.meth t m v <;> simp [EvS,dK,dO,hf,hm,DN,fD,invV,gX,iQ]
 | _=>simp only [EvS,dK,dO,hf,fD,gX,invV]
theorem EvS_op {op:dM} (h:(match op with | .call _ _ | .inv _ _ _=>false | _=>true)=true):EvS X e ⟨d,none,op⟩ σ Q↔opt (eY X.P (bT.ev e) op σ) fun r=>Q r.1 r.2:=by
 cases op <;> first | (simp at h;done) | simp only [EvS,dK,dO,fD]
theorem Q9 {op:dM} {g:Nat×Bool} (h:op.pure=true):EvS X e ⟨d,some g,op⟩ σ Q↔opt (eG e (some g)) fun c=>
 opt (jC X.P c e op σ) fun v=>Q v σ:=by
 cases hw:eG e (some g) with
 | none=>simp [EvS,dK,hw,fD,gX]
 | some c=>simp only [EvS,dK,hw,h,if_true,fD,iQ,fB]
def ifV (c:Bool)(A B:Prop):Prop:=if c then A else B
theorem Q_ {A B:Prop} :ifV true A B↔A:=Iff.rfl
theorem OY {A B:Prop} :ifV false A B↔B:=Iff.rfl
theorem ifV_b {t:Bool} {A B:Prop} :ifV t A B↔(t=true→A)∧(t=false→B):=by cases t <;> simp [ifV]
def Bh (X:Ctx)(ρ:bT→AV)(op:dM)(σ:St)(Q:AV→St→Prop):Prop:=Ex (fun n=>dO X (aFn X n) ρ op σ) fun r=>Q r.1 r.2
theorem Nr {op:dM} {g:Nat×Bool} (h:op.pure=false):EvS X e ⟨d,some g,op⟩ σ Q↔opt (eG e (some g)) fun c=>
 ifV c (op.bK.all (fun o=>(o.ev e).cnd)=true∧Bh X (fun o=>(o.ev e).val) op σ Q) (Q (.tu []) σ):=by
 cases hw:eG e (some g) with
 | none=>simp [EvS,dK,hw,fD,gX]
 | some c=>
   simp only [EvS,dK,hw,h,iQ,ifV,Bh]
   cases c with
   | false=>simp [fD,iQ]
   | true=>
     by_cases hc:op.bK.all (fun o=>(o.ev e).cnd)=true
     ·simp [hc]
     ·simp [hc,fD,gX]
theorem EH {ρ:bT→AV} {f:bT} {args:List bT} :Bh X ρ (.call f args) σ Q↔wV X (ρ f) (args.map ρ) σ Q:=by
 cases hf:ρ f with
 | fn k a c=>cases k <;> simp [Bh,dO,hf,DN,fD,wV,gX]
 | _=>simp only [Bh,dO,hf,fD,gX,wV]
theorem IQ {ρ:bT→AV} {x:bT} {m:String} {args:List bT} :Bh X ρ (.inv x m args) σ Q↔invV X (ρ x) m (args.map ρ) σ Q:=by
 cases hf:ρ x with
 | ic t v=>cases hm:X.meth t m v <;> simp [Bh,dO,hf,hm,DN,fD,invV,gX,iQ]
 | _=>simp only [Bh,dO,hf,fD,gX,invV]
theorem dJ {ρ:bT→AV} {op:dM} (h:(match op with | .call _ _ | .inv _ _ _=>false | _=>true)=true):Bh X ρ op σ Q↔opt (eY X.P ρ op σ) fun r=>Q r.1 r.2:=by
 cases op <;> first | (simp at h;done) | simp only [Bh,dO,fD]
def Ns:Out→Bool
 | .exit _=>false
 | .gu _=>false
 | _=>true
theorem EvF_fn {f:Nat} {F:AF} {args:List AV} (hp:X.lg f=none)(hf:X.fns f=some F)(hl:args.length≤F.nt) :
 DN X f args σ Q↔EvC X F.code (d_ 0 args) σ fun o e σ'=>Ns o=true∧opt ((uO X.P F.res e σ').map fun v=>norm σ v σ') fun r=>Q r.1 r.2:=by
 constructor
 ·rintro ⟨n,x,h,q⟩
  try dsimp only at h
  have h:=iG.1 h
  cases n with
  | zero=>simp [zQ] at h
  | succ n=>
    simp only [zQ,hp,hf,hl,if_true,Option.map_eq_some_iff] at h
    obtain⟨y,h1,h2⟩:=h
    unfold aBody at h1
    cases hc:aW X (zQ X n) n F.code (d_ 0 args) σ with
    | none=>rw [hc] at h1;simp at h1
    | some z=>
      rw [hc] at h1
      obtain⟨o,e',σ'⟩:=z
      refine⟨n,_,hc,?_⟩
      have key:(uO X.P F.res e' σ').map (fun v=>(false,v,σ'))=some y→opt ((uO X.P F.res e' σ').map fun v=>norm σ v σ') fun r=>Q r.1 r.2:=by
       intro h1
       rw [Option.map_eq_some_iff] at h1
       obtain⟨v,hv,rfl⟩:=h1
       rw [hv]
       exact⟨_,rfl,by simp only [yY,Prod.mk.injEq,true_and] at h2;subst h2;exact q⟩
      cases o with
      | exit j=>simp at h1
      | gu v=>simp only [Option.some.injEq] at h1;subst h1;simp [yY] at h2
      | normal=>exact⟨rfl,key h1⟩
      | ret=>exact⟨rfl,key h1⟩
 ·rintro ⟨n,⟨o,e',σ'⟩,hc,ho,x,hv,q⟩
  try dsimp only at hc
  rw [Option.map_eq_some_iff] at hv
  obtain⟨v,hv,hx⟩:=hv
  refine⟨n+1,x,?_,q⟩
  refine iG.2 ?_
  simp only [zQ,hp,hf,hl,if_true,aBody,hc]
  cases o with
  | exit j=>simp [Ns] at ho
  | gu v=>simp [Ns] at ho
  | normal=>simp only at hv;simp only [hv,Option.map_some,yY,hx]
  | ret=>simp only at hv;simp only [hv,Option.map_some,yY,hx]
theorem Rf {f:Nat} {g:List AV→St→Option (AV×St)} {args:List AV} (hp:X.lg f=some g):DN X f args σ Q↔opt (g args σ) fun r=>Q r.1 r.2:=by
 constructor
 ·rintro ⟨n,x,h,q⟩
  try dsimp only at h
  have h:=iG.1 h
  cases n with
  | zero=>simp [zQ] at h
  | succ n=>
    simp only [zQ,hp,Option.map_eq_some_iff] at h
    obtain⟨y,h1,h2⟩:=h
    cases h2
    exact⟨_,h1,q⟩
 ·rintro ⟨x,h,q⟩
  exact⟨1,x,iG.2 (by simp only [zQ,hp,h,Option.map_some]),q⟩
theorem EvF_iff {f:Nat} {args:List AV} {v:AV} {σ':St} (h:DN X f args σ fun a s=>a=v∧s=σ'):DN X f args σ Q↔Q v σ':=by
 obtain⟨n,x,hx,h1,h2⟩:=h
 constructor
 ·rintro ⟨m,y,hy,q⟩
  try dsimp only at hx hy
  have a:=yg X (Nat.le_max_left n m) _ _ _ _ hx
  have b:=yg X (Nat.le_max_right n m) _ _ _ _ hy
  rw [a] at b
  obtain rfl:=Option.some.inj b
  exact h1▸h2▸q
 ·intro q
  exact⟨n,x,hx,by show Q x.1 x.2;rw [h1,h2];exact q⟩
theorem Bj {f:Nat} {args:List AV} {Q':AV→St→Prop} (h:DN X f args σ Q)(hq:∀v s,Q v s→Q' v s):DN X f args σ Q':=by
 obtain⟨n,x,hx,q⟩:=h
 exact⟨n,x,hx,hq _ _ q⟩
end
theorem Bl {X:Ctx} {c:AC} {e:Env} {σ:St} {Q Q':Out→Env→St→Prop} (h:EvC X c e σ Q)(hq:∀o e s,Q o e s→Q' o e s):EvC X c e σ Q':=by
 obtain⟨n,x,hx,q⟩:=h
 exact⟨n,x,hx,hq _ _ _ q⟩
theorem Rh {X:Ctx} {live:List Nat} {c:AC} {e:Env} {σ:St} {Q Q':Out→Env→St→Prop} (h:EvL X live c e σ Q)(hq:∀o e s,Q o e s→Q' o e s):EvL X live c e σ Q':=by
 obtain⟨n,x,hx,q⟩:=h
 exact⟨n,x,hx,hq _ _ _ q⟩
section
variable {X:Ctx}
@[congr] theorem EvL_congr {l:List Nat} {e e':Env} {a:AC} {σ σ':St} {Q:Out→Env→St→Prop} (he:e=e') (h:σ=σ'):EvL X l a e σ Q↔EvL X l a e' σ' Q:=by rw [h,he]
@[congr] theorem EvF_congr {f:Nat} {a a':List AV} {σ σ':St} {Q:AV→St→Prop} (ha:a=a') (h:σ=σ'):DN X f a σ Q↔DN X f a' σ' Q:=by rw [h,ha]
@[congr] theorem callV_congr {f f':AV} {a a':List AV} {σ σ':St} {Q:AV→St→Prop} (hf:f=f') (ha:a=a') (h:σ=σ'):wV X f a σ Q↔wV X f' a' σ' Q:=by rw [h,ha,hf]
@[congr] theorem invV_congr {f f':AV} {m:String} {a a':List AV} {σ σ':St} {Q:AV→St→Prop} (hf:f=f') (ha:a=a') (h:σ=σ'):invV X f m a σ Q↔invV X f' m a' σ' Q:=by rw [h,ha,hf]
@[congr] theorem opt_congr {α:Type} {o o':Option α} {Q:α→Prop} (h:o=o'):opt o Q↔opt o' Q:=by rw [h]
@[congr] theorem cndV_congr {v v':AV} {A B:Prop} (h:v=v'):FT v A B↔FT v' A B:=by rw [h]
@[congr] theorem ifV_congr {v v':Bool} {A B:Prop} (h:v=v'):ifV v A B↔ifV v' A B:=by rw [h]
end
attribute [simp ↓] Iz IB Nb Nc Nh Nj IG Nk II Nl Np IK Nq IL Q8 EvS_inv EvS_op Q9 Nr EH IQ dJ
attribute [simp ↓] Out.zu Out.ED Out.IE Out.IC Out.wU Out.Bg Out.EG Out.EF iQ gX fB Q5
attribute [simp] OX KX cndV_b Q_ OY ifV_b Q7 invV_ic Ns
attribute [simp] get put bT.ev bT.isC d_ dM.bK eG AV.val AV.cnd pW jC merge yX vI eY gU jS Kw DU OB DV KI xW aMn uO pX uZ norm AV.flat AV.AU clear
end Go.dX
namespace Go.dX
def mY (ops:Array Oper):Option (Nat×Bool)→Option (Nat×Bool)→Bool
 | none,none=>true
 | some (j,w),some (n,w')=>w == w' && ((ops[j]?).bind (·.dst)) == some n
 | _,_=>false
def rD (N:Nat):Option Nat→Bool
 | none=>true
 | some d=>decide (d<N)
def iR (P:Program)(G N:Nat)(ops:Array Oper)(o:Oper)(a:AI):Bool:=o.dst == a.d && rD N a.d && mY ops o.guard a.gd && jT P G o.op a.op
def nI (P:Program)(G N:Nat)(ops:Array Oper):List Nat→List AI→Bool
 | [],[]=>true
 | i :: is,a :: xs=>(match ops[i]? with | some o=>iR P G N ops o a | none=>false) && nI P G N ops is xs
 | _,_=>false
def Enters (P:Program)(f:Nat):Prop:=∀(args:Array Value) (w:World),(callFunc f args).run P w= .ok (.enter f args) w
theorem kF {P:Program} {f:Nat} {fn:Func} (hf:P.funcs[f]? =some fn)(hn:(fn.name == "runtime.NumGoroutine")=false)(hb:fn.body.isSome=true):Enters P f:=by
 intro args w
 obtain⟨c,hc⟩:=Option.isSome_iff_exists.1 hb
 have h1:fn.name≠"runtime.NumGoroutine" :=by simpa using hn
 simp [callFunc,hf,h1,hc]
def After (G:Nat)(μ:Mu)(σ:St)(w:World)(r:AV)(σ':St)(e:Ending)(w':World):Prop:=∃v μ',e= .returned v∧aV μ' w' r v∧Step G μ σ w μ' σ' w'
def Does (P:Program)(f:Nat)(bg:Array Value)(w:World)(R:Ending→World→Prop):Prop:=
 ((callFunc f bg).run P w= .ok (.enter f bg) w∧Calls P f bg w R)∨∃v w',(callFunc f bg).run P w= .ok (.value v) w'∧R (.returned v) w'
theorem Does.mono {P:Program} {f:Nat} {bg:Array Value} {w:World} {R R':Ending→World→Prop} (h:Does P f bg w R)(hr:∀e w',R e w'→R' e w'):Does P f bg w R':=by
 rcases h with ⟨h1,h2⟩ | ⟨v,w',h1,h2⟩
 ·exact .inl ⟨h1,h2.mono hr⟩
 ·exact .inr ⟨v,w',h1,hr _ _ h2⟩
def nJ (P:Program)(G:Nat)(run:Run):Prop:=∀f args σ r σ',run f args σ=some (r,σ')→∀μ w (bg:Array Value),gQ G μ σ w→aY μ w args bg.toList→Does P f bg w (After G μ σ w r σ')
def AfterP (G:Nat)(μ:Mu)(σ:St)(w:World)(r:AV)(σ':St)(e:Ending)(w':World):Prop:=∃v μ',e= .panicked [{ v,recovered:=false }]∧aV μ' w' r v∧Step G μ σ w μ' σ' w'
def lu (G:Nat)(μ:Mu)(σ:St)(w:World):Bool→AV→St→Ending→World→Prop
 | false=>After G μ σ w
 | true=>AfterP G μ σ w
def gY (P:Program)(G:Nat)(run:gW):Prop:=∀f args σ b r σ',run f args σ=some (b,r,σ')→∀μ w (bg:Array Value),gQ G μ σ w→aY μ w args bg.toList→Does P f bg w (lu G μ σ w b r σ')
theorem gY.nrm {P:Program} {G:Nat} {run:gW} (h:gY P G run):nJ P G (nrm run):=fun f args σ r σ' hr μ w bg hs hv=>h f args σ false r σ' (iG.1 hr) μ w bg hs hv
structure Ctx.Ok (X:Ctx)(G:Nat):Prop where
 meth:∀t m a k,X.meth t m a=some k→∀(μ:Mu) (v:Value) (w:World),aV μ w a v→∃v',(method (X.P.types.size+Made.depth) t v m).run X.P w= .ok (k.1,v') w∧aV μ w k.2 v'
 lg:∀f g,X.lg f=some g→∀args σ r σ',g args σ=some (r,σ')→∀μ w (bg:Array Value),gQ G μ σ w→aY μ w args bg.toList→Does X.P f bg w (After G μ σ w r σ')
structure dw (G N:Nat)(μ:Mu)(w:World)(e:Env)(tmps:Array Value):Prop where
 size:tmps.size=N
 rel:∀n,aV μ w (get e n) (tmps.getD n undef)
section
variable {X:Ctx} {G N:Nat} {μ:Mu} {σ:St} {w:World}
theorem dw.mono {μ':Mu} {w':World} {e:Env} {tmps:Array Value} (h:dw G N μ w e tmps)(hm:μ.le μ')(hw:jH w w'):dw G N μ' w' e tmps:=
 ⟨h.size,fun n=>aV.mono hm hw _ _ (h.rel n)⟩
theorem dw.put {e:Env} {act:Act} {d:Option Nat} {r:AV} {v:Value} (h:dw G N μ w e act.tmps)(hd:rD N d=true)(hr:aV μ w r v):dw G N μ w (dX.put d r e) (act.put d v).tmps:=by
 cases d with
 | none=>exact h
 | some d=>
   simp only [rD,decide_eq_true_eq] at hd
   refine⟨by simpa [Act.put] using h.size,fun n=>?_⟩
   have hs:=h.size
   simp only [dX.put,Go.dX.get,Act.put]
   rw [Array.getD_eq_getD_getElem?,Array.getElem?_setIfInBounds]
   split
   ·rename_i he;subst he
    rw [if_pos (by omega)]
    exact hr
   ·rename_i he
    rw [←Array.getD_eq_getD_getElem?]
    exact h.rel n
theorem dw.clear {e:Env} {tmps:Array Value} (h:dw G N μ w e tmps)(l:List Nat):dw G N μ w (dX.clear l e) tmps:=by
 refine⟨h.size,fun n=>?_⟩
 have hg:get (dX.clear l e) n=get e n∨get (dX.clear l e) n= .u:=by
  unfold dX.clear
  induction l with
  | nil=>exact .inr rfl
  | cons d l ih=>
    simp only [List.map_cons,Go.dX.get]
    split
    ·rename_i he;subst he;exact .inl rfl
    ·exact ih
 rcases hg with hg | hg
 ·rw [hg];exact h.rel n
 ·rw [hg];trivial
theorem mZ (hs:gQ G μ σ w) {e:Env} {act:Act} (h:dw G N μ w e act.tmps) {x:Operand} {y:bT} (hk:dG G x y=true):aV μ w (y.ev e) (act.eval x):=by
 unfold dG at hk
 split at hk
 ·simp only [beq_iff_eq] at hk;subst hk;exact h.rel _
 ·have:=AV.oW _ _ hk
  simp only [bT.ev]
  rw [←this]
  exact wJ _
 ·simp only [Bool.and_eq_true,beq_iff_eq,decide_eq_true_eq] at hk
  obtain⟨rfl,hg⟩:=hk
  exact⟨_,0,hs.qI _ hg,rfl⟩
 ·simp only [beq_iff_eq] at hk;subst hk
  exact⟨#[],#[],rfl,rfl,rfl⟩
 ·cases hk
theorem Ae (hs:gQ G μ σ w) {e:Env} {act:Act} (h:dw G N μ w e act.tmps)(l:List bT):pq G μ w l (bT.ev e) act.eval:=fun _ _ hk _=>mZ hs h hk
theorem FU (hs:gQ G μ σ w) {e:Env} {act:Act} (h:dw G N μ w e act.tmps)(l:List bT)(hc:∀y∈l,(y.ev e).cnd=true):pq G μ w l (fun y=>(y.ev e).val) act.eval:=
 fun _ y hk hy=>uw (mZ hs h hk) (hc y hy)
def Ri:Option Value→Option Bool
 | some (.bool b)=>some b
 | _=>none
theorem lC {ops:Array Oper} {e:Env} {act:Act} {o:Oper} {g:Option (Nat×Bool)} {c:Bool} (h:dw G N μ w e act.tmps)(hk:mY ops o.guard g=true)(hw:eG e g=some c) :
 Region.wanted o (yielded ops act.tmps)=c:=by
 cases hg:o.guard with
 | none=>
   rw [hg] at hk
   cases g with
   | none=>simp only [eG,Option.some.injEq] at hw;subst hw;simp [Region.wanted,hg]
   | some g=>simp [mY] at hk
 | some jw=>
   rw [hg] at hk
   obtain⟨j,want⟩:=jw
   cases g with
   | none=>simp [mY] at hk
   | some g=>
     obtain⟨n,want'⟩:=g
     simp only [mY,Bool.and_eq_true,beq_iff_eq] at hk
     obtain⟨rfl,hd⟩:=hk
     have hrel:=h.rel n
     have hy:yielded ops act.tmps j=Ri act.tmps[n]? :=by
        simp only [yielded,hd,Option.bind_some]
        rfl
     have hget:∀b,act.tmps.getD n undef= .bool b→act.tmps[n]? =some (.bool b):=by
        intro b hb
        simp only [Array.getD] at hb
        split at hb
        ·rename_i hlt;rw [Array.getElem?_eq_getElem hlt];exact congrArg some hb
        ·cases hb
     have hund:act.tmps.getD n undef=undef→Ri act.tmps[n]? =none:=by
        intro hu
        simp only [Array.getD] at hu
        split at hu
        ·rename_i hlt;rw [Array.getElem?_eq_getElem hlt];rw [show act.tmps[n]=undef from hu];rfl
        ·rename_i hlt;rw [Array.getElem?_eq_none (by omega)];rfl
     simp only [eG] at hw
     simp only [Region.wanted,hg,hy]
     split at hw
     ·rename_i x hx
      rw [hx] at hrel
      simp only [aV] at hrel
      rw [hget _ hrel]
      simp only [Option.some.injEq] at hw
      subst hw
      cases x <;> cases want <;> rfl
     ·rename_i c' x hx
      rw [hx] at hrel
      simp only [Option.some.injEq] at hw
      cases c' with
      | true=>
        simp only [aV,if_true] at hrel
        rw [hget _ hrel]
        subst hw
        cases x <;> cases want <;> rfl
      | false=>
        simp only [aV] at hrel
        have hr':act.tmps.getD n undef=undef:=hrel
        rw [hund hr']
        subst hw
        cases want <;> rfl
     ·rename_i x hx' hx
      rw [hx] at hrel
      have hr':act.tmps.getD n undef=undef:=hrel
      rw [hund hr']
      simp only [Option.some.injEq] at hw
      subst hw
      cases want <;> rfl
     ·rename_i hx
      rw [hx] at hrel
      obtain⟨a,ha,hl⟩:=hrel
      have hu:act.tmps.getD n undef=undef:=by
       rw [ha]
       simp only [aY] at hl
       have:a= #[]:=by apply Array.ext';simpa using hl
       rw [this];rfl
      rw [hund hu]
      simp only [Option.some.injEq] at hw
      subst hw
      cases want <;> rfl
     ·cases hw
def Bo (P:Program)(ops:Array Oper)(o:Oper)(K:Act→World→Prop)(Q:Exit→Act→World→Prop)(act:Act)(w:World):Prop:=
 if Region.wanted o (yielded ops act.tmps) then o.wp P act w K Q∨(o.asks P act w∧LetsOut Q) else K (act.put o.dst undef) w
theorem Af {P:Program} {o:Oper} {act:Act} {K:Act→World→Prop} {Q:Exit→Act→World→Prop} {r:AV} {σ':St} {b:Bool} (h:FQ P G μ σ w (execOp act.eval o) r σ' b)
 (hK:∀v w' μ',aV μ' w' r v→Step G μ σ w μ' σ' w'→K (act.put o.dst v) w'):o.wp P act w K Q:=by
 obtain⟨n,w',μ',v,h1,h2,h3,h4,_⟩:=h
 unfold Oper.wp
 rw [h1]
 rcases h2 with rfl | ⟨rfl,rfl⟩
 ·exact hK _ _ _ h3 h4
 ·exact hK _ _ _ h3 h4
theorem Bq {P:Program} {o:Oper} {act:Act} {K:Act→World→Prop} {Q:Exit→Act→World→Prop} {r:AV} {σ':St} (h:FQ P G μ σ w (execOp act.eval o) r σ' true)
 (hK:∀v,aV μ w r v→K (act.put o.dst v) w):o.wp P act w K Q:=by
 obtain⟨n,w',μ',v,h1,h2,h3,h4,h5⟩:=h
 obtain⟨rfl,rfl⟩:=h5 rfl
 unfold Oper.wp
 rw [h1]
 rcases h2 with rfl | ⟨rfl,rfl⟩
 ·exact hK _ h3
 ·exact hK _ h3
theorem Nu {P:Program} {run:Run} (hrun:nJ P G run) {o:Oper} {act:Act} {K:Act→World→Prop} {Q:Exit→Act→World→Prop} {f:Nat} {args:List AV} {r:AV} {σ':St} {bg:Array Value}
 (hs:gQ G μ σ w) (h:run f args σ=some (r,σ')) (hx:(execOp act.eval o).run P w=(callFunc f bg).run P w) (hr:aY μ w args bg.toList)
 (hK:∀v w' μ',aV μ' w' r v→Step G μ σ w μ' σ' w'→K (act.put o.dst v) w'):o.wp P act w K Q:=by
 unfold Oper.wp
 rcases hrun _ _ _ _ _ h μ w bg hs hr with ⟨h1,h2⟩ | ⟨v,w',h1,v',μ',hv,hr',hst⟩
 ·rw [hx,h1,Oper.upon_enter]
  refine h2.mono fun e w' he=>?_
  obtain⟨v,μ',rfl,hv,hst⟩:=he
  exact hK _ _ _ hv hst
 ·rw [hx,h1,Oper.upon_value]
  cases hv
  exact hK _ _ _ hr' hst
theorem EI {run:Run} (hX:X.Ok G)(hrun:nJ X.P G run) {o:Oper} {a:dM} {act:Act} {uP:bT→AV} {K:Act→World→Prop} {Q:Exit→Act→World→Prop} {r:AV} {σ':St} (hs:gQ G μ σ w)(hok:jT X.P G o.op a=true)
 (hρ:pq G μ w a.bK uP act.eval) (hn:r_ uP) (h:dO X run uP a σ=some (r,σ'))
 (hK:∀v w' μ',aV μ' w' r v→Step G μ σ w μ' σ' w'→K (act.put o.dst v) w'):o.wp X.P act w K Q:=by
 by_cases hcall:∃f args,a= .call f args
 ·obtain⟨f,args,rfl⟩:=hcall
  simp only [dO] at h
  cases hop:o.op with
  | call c=>
    rw [hop] at hok
    simp only [jT,ku] at hok
    cases hc:c.callee with
    | invoke x m=>rw [hc] at hok;simp at hok
    | builtin b=>
      rw [hc] at hok
      simp only [gB] at hok
      split at hok <;> simp_all
    | value fo=>
      rw [hc] at hok
      simp only [Bool.and_eq_true] at hok
      split at h
      ·rename_i k first cap hf
       have hfr:=hρ _ _ hok.1 (by simp [dM.bK])
       rw [hf] at hfr
       obtain⟨ca,cc,hfv,r1,r2⟩:=hfr
       have hargs:=kP hρ hok.2 (fun y hy=>by simp [dM.bK,hy])
       refine Nu hrun (bg:=ca ++ c.args.map act.eval ++ cc) hs h ?_ ?_ hK
       ·simp [execOp,hop,resolve,hc,hfv,Deferred.ofValue,invoke]
       ·simp only [Array.toList_append,Array.toList_map]
        exact(r1.append hargs).append r2
      ·cases h
  | _=>rw [hop] at hok;simp [jT] at hok
 by_cases hinv:∃x m args,a= .inv x m args
 ·obtain⟨x,m,args,rfl⟩:=hinv
  simp only [dO] at h
  cases hop:o.op with
  | call c=>
    rw [hop] at hok
    simp only [jT,ku] at hok
    cases hc:c.callee with
    | value fo=>rw [hc] at hok;simp at hok
    | builtin b=>
      rw [hc] at hok
      simp only [gB] at hok
      split at hok <;> simp_all
    | invoke xo m'=>
      rw [hc] at hok
      simp only [Bool.and_eq_true,beq_iff_eq] at hok
      obtain⟨⟨hx,rfl⟩,hargs⟩:=hok
      split at h
      ·rename_i t v hxv
       split at h
       ·rename_i k hk
        have hxr:=hρ _ _ hx (by simp [dM.bK])
        rw [hxv] at hxr
        obtain⟨y,hy,F9⟩:=hxr
        have hargs':=kP hρ hargs (fun y hy=>by simp [dM.bK,hy])
        obtain⟨y',hm,hyr'⟩:=hX.meth t _ _ k hk μ y w F9
        refine Nu hrun (bg:=#[y'] ++ c.args.map act.eval) hs h ?_ ?_ hK
        ·have he:(#[Value.iface t y] ++ c.args.map act.eval).extract 1 (#[Value.iface t y] ++ c.args.map act.eval).size=c.args.map act.eval:=by
               apply Array.ext'
               simp only [Array.toList_extract,Array.toList_append,List.extract_eq_take_drop,Array.size_append,Array.size_map]
               simp [List.take_of_length_le]
         have h0:(#[Value.iface t y] ++ c.args.map act.eval)[0]? =some (Value.iface t y):=by rw [Array.getElem?_append];simp
         have h2:(c.args.map act.eval).extract 0 c.args.size=c.args.map act.eval:=by
               apply Array.ext'
               simp [List.take_of_length_le]
         simp [execOp,hop,resolve,hc,hy,invoke,callMethod,h0,hm,h2]
        ·simp only [Array.toList_append,Array.toList_map]
         exact⟨y',_,rfl,hyr',hargs'⟩
       ·cases h
      ·cases h
  | _=>rw [hop] at hok;simp [jT] at hok
 have h':eY X.P uP a σ=some (r,σ'):=by
  cases a <;> first | exact h | exact absurd ⟨_,_,rfl⟩ hcall | exact absurd ⟨_,_,_,rfl⟩ hinv
 exact Af (Bc hs hok hρ hn h') hK
theorem IU {P:Program} {run:gW} (hrun:gY P G run) {o:Oper} {act:Act} {K:Act→World→Prop} {Q:Exit→Act→World→Prop} {f:Nat} {args:List AV} {b:Bool} {r:AV} {σ':St} {bg:Array Value}
 (hs:gQ G μ σ w) (h:run f args σ=some (b,r,σ')) (hx:(execOp act.eval o).run P w=(callFunc f bg).run P w) (hr:aY μ w args bg.toList)
 (hK:b=false→∀v w' μ',aV μ' w' r v→Step G μ σ w μ' σ' w'→K (act.put o.dst v) w') (hQ:b=true→∀v w' μ',aV μ' w' r v→Step G μ σ w μ' σ' w'→Q (.panic [{ v,recovered:=false }]) act w'):o.wp P act w K Q:=by
 cases b with
 | false=>
   unfold Oper.wp
   rcases hrun _ _ _ _ _ _ h μ w bg hs hr with ⟨h1,h2⟩ | ⟨v,w',h1,v',μ',hv,hr',hst⟩
   ·rw [hx,h1,Oper.upon_enter]
    refine h2.mono fun e w' he=>?_
    obtain⟨v,μ',rfl,hv,hst⟩:=he
    exact hK rfl _ _ _ hv hst
   ·rw [hx,h1,Oper.upon_value]
    cases hv
    exact hK rfl _ _ _ hr' hst
 | true=>
   unfold Oper.wp
   rcases hrun _ _ _ _ _ _ h μ w bg hs hr with ⟨h1,h2⟩ | ⟨v,w',h1,v',μ',hv,hr',hst⟩
   ·rw [hx,h1,Oper.upon_enter]
    refine h2.mono fun e w' he=>?_
    obtain⟨v,μ',rfl,hv,hst⟩:=he
    exact hQ rfl _ _ _ hv hst
   ·cases hv
theorem Bv {run:gW} (hX:X.Ok G)(hrun:gY X.P G run) {o:Oper} {a:dM} {act:Act} {uP:bT→AV} {K:Act→World→Prop} {Q:Exit→Act→World→Prop} {b:Bool} {r:AV} {σ':St} (hs:gQ G μ σ w)(hok:jT X.P G o.op a=true)
 (hρ:pq G μ w a.bK uP act.eval) (hn:r_ uP) (h:eF X run uP a σ=some (b,r,σ'))
 (hK:b=false→∀v w' μ',aV μ' w' r v→Step G μ σ w μ' σ' w'→K (act.put o.dst v) w') (hQ:b=true→∀v w' μ',aV μ' w' r v→Step G μ σ w μ' σ' w'→Q (.panic [{ v,recovered:=false }]) act w'):o.wp X.P act w K Q:=by
 have plain:(eY X.P uP a σ).map (fun r=>(false,r))=some (b,r,σ')→o.wp X.P act w K Q:=by
  intro h
  rw [Option.map_eq_some_iff] at h
  obtain⟨q,h1,h2⟩:=h
  cases h2
  exact Af (Bc hs hok hρ hn h1) (hK rfl)
 by_cases hcall:∃f args,a= .call f args
 ·obtain⟨f,args,rfl⟩:=hcall
  simp only [eF] at h
  cases hop:o.op with
  | call c=>
    rw [hop] at hok
    simp only [jT,ku] at hok
    cases hc:c.callee with
    | invoke x m=>rw [hc] at hok;simp at hok
    | builtin b=>
      rw [hc] at hok
      simp only [gB] at hok
      split at hok <;> simp_all
    | value fo=>
      rw [hc] at hok
      simp only [Bool.and_eq_true] at hok
      split at h
      ·rename_i k first cap hf
       have hfr:=hρ _ _ hok.1 (by simp [dM.bK])
       rw [hf] at hfr
       obtain⟨ca,cc,hfv,r1,r2⟩:=hfr
       have hargs:=kP hρ hok.2 (fun y hy=>by simp [dM.bK,hy])
       refine IU hrun (bg:=ca ++ c.args.map act.eval ++ cc) hs h ?_ ?_ hK hQ
       ·simp [execOp,hop,resolve,hc,hfv,Deferred.ofValue,invoke]
       ·simp only [Array.toList_append,Array.toList_map]
        exact(r1.append hargs).append r2
      ·cases h
  | _=>rw [hop] at hok;simp [jT] at hok
 by_cases hinv:∃x m args,a= .inv x m args
 ·obtain⟨x,m,args,rfl⟩:=hinv
  simp only [eF] at h
  cases hop:o.op with
  | call c=>
    rw [hop] at hok
    simp only [jT,ku] at hok
    cases hc:c.callee with
    | value fo=>rw [hc] at hok;simp at hok
    | builtin b=>
      rw [hc] at hok
      simp only [gB] at hok
      split at hok <;> simp_all
    | invoke xo m'=>
      rw [hc] at hok
      simp only [Bool.and_eq_true,beq_iff_eq] at hok
      obtain⟨⟨hx,rfl⟩,hargs⟩:=hok
      split at h
      ·rename_i t v hxv
       split at h
       ·rename_i k hk
        have hxr:=hρ _ _ hx (by simp [dM.bK])
        rw [hxv] at hxr
        obtain⟨y,hy,F9⟩:=hxr
        have hargs':=kP hρ hargs (fun y hy=>by simp [dM.bK,hy])
        obtain⟨y',hm,hyr'⟩:=hX.meth t _ _ k hk μ y w F9
        refine IU hrun (bg:=#[y'] ++ c.args.map act.eval) hs h ?_ ?_ hK hQ
        ·have he:(#[Value.iface t y] ++ c.args.map act.eval).extract 1 (#[Value.iface t y] ++ c.args.map act.eval).size=c.args.map act.eval:=by
               apply Array.ext'
               simp only [Array.toList_extract,Array.toList_append,List.extract_eq_take_drop,Array.size_append,Array.size_map]
               simp [List.take_of_length_le]
         have h0:(#[Value.iface t y] ++ c.args.map act.eval)[0]? =some (Value.iface t y):=by rw [Array.getElem?_append];simp
         have h2:(c.args.map act.eval).extract 0 c.args.size=c.args.map act.eval:=by
               apply Array.ext'
               simp [List.take_of_length_le]
         simp [execOp,hop,resolve,hc,hy,invoke,callMethod,h0,hm,h2]
        ·simp only [Array.toList_append,Array.toList_map]
         exact⟨y',_,rfl,hyr',hargs'⟩
       ·cases h
      ·cases h
  | _=>rw [hop] at hok;simp [jT] at hok
 by_cases hpnc:∃x,a= .gu x
 ·obtain⟨x,rfl⟩:=hpnc
  simp only [eF] at h
  cases hop:o.op with
  | call c=>
    rw [hop] at hok
    simp only [jT,ku] at hok
    cases hc:c.callee with
    | value fo=>rw [hc] at hok;simp at hok
    | invoke x m=>rw [hc] at hok;simp at hok
    | builtin b=>
      rw [hc] at hok
      simp only [gB] at hok
      split at hok <;> simp_all
  | panic y=>
    rw [hop] at hok
    simp only [jT] at hok
    split at h
    ·rename_i t v hxv
     have hxr:=hρ _ _ hok (by simp [dM.bK])
     rw [hxv] at hxr
     obtain⟨z,hz,OM⟩:=hxr
     cases h
     have hrun:(execOp act.eval o).run X.P w= .halt (.panic (.iface t z)) w:=by
      simp only [execOp,hop,hz]
      rfl
     unfold Oper.wp
     rw [hrun,Oper.upon_panic]
     exact hQ rfl _ _ _ ⟨z,rfl,OM⟩ (Step.refl hs)
    ·cases h
  | _=>rw [hop] at hok;simp [jT] at hok
 by_cases hbin:∃op t x y,a= .bin op t x y
 ·obtain⟨op,t,x,y,rfl⟩:=hbin
  simp only [eF] at h
  split at h
  ·rename_i hz
   cases h
   cases hop:o.op with
   | call c=>
     rw [hop] at hok
     simp only [jT,ku] at hok
     cases hc:c.callee with
     | value fo=>rw [hc] at hok;simp at hok
     | invoke x m=>rw [hc] at hok;simp at hok
     | builtin b=>
       rw [hc] at hok
       simp only [gB] at hok
       split at hok <;> simp_all
   | binOp op' t' x' y' pos=>
     rw [hop] at hok
     simp only [jT,Bool.and_eq_true,beq_iff_eq] at hok
     obtain⟨⟨⟨rfl,rfl⟩,hx⟩,hy⟩:=hok
     have hxr:=hρ _ _ hx (by simp [dM.bK])
     have F9:=hρ _ _ hy (by simp [dM.bK])
     have hrun:(execOp act.eval o).run X.P w= .halt (.panic (.iface X.P.rt.errorString (.string ⟨divText.toArray⟩))) w:=by
      unfold oJ at hz
      split at hz
      all_goals first | cases hz | skip
      all_goals
            rename_i k n k' m hxe hye
            simp only [Bool.and_eq_true,beq_iff_eq] at hz
            obtain⟨rfl,rfl⟩:=hz
            rw [hxe] at hxr
            rw [hye] at F9
            simp only [aV] at hxr F9
            have ht:strVal "integer divide by zero" = .string ⟨divText.toArray⟩:=by kernel_rfl
            simp [execOp,hop,hxr,F9,eqGuard,binOp,Op.intDiv,runtimePanic,goPanic,ht]
     unfold Oper.wp
     rw [hrun,Oper.upon_panic]
     exact hQ rfl _ _ _ ⟨_,rfl,rfl⟩ (Step.refl hs)
   | _=>rw [hop] at hok;simp [jT] at hok
  ·exact plain h
 refine plain ?_
 cases a <;> first | exact h | exact absurd ⟨_,_,rfl⟩ hcall | exact absurd ⟨_,_,_,rfl⟩ hinv | exact absurd ⟨_,rfl⟩ hpnc | exact absurd ⟨_,_,_,_,rfl⟩ hbin
end
end Go.dX
namespace Go.dX
theorem oK (e:Env):r_ (bT.ev e):=by
 intro v h
 simp only [bT.ev] at h
 rw [h];rfl
theorem qL (e:Env):r_ (fun y=>(y.ev e).val):=fun _ h=>h
theorem Bz {P:Program} {ρ:bT→AV} {op:dM} {σ σ':St} {r:AV} (hp:op.pure=true)(h:eY P ρ op σ=some (r,σ')):σ'= σ:=by
 cases op <;> simp only [dM.pure,Bool.false_eq_true] at hp <;> simp only [eY] at h
 all_goals first
  | (rw [Option.map_eq_some_iff] at h;obtain⟨q,_,h⟩:=h;cases h;rfl)
  | (cases h;rfl)
  | (split at h <;> first | (cases h;done) | (cases h;rfl) | (rw [Option.map_eq_some_iff] at h;obtain⟨q,_,h⟩:=h;cases h;rfl))
section
variable {X:Ctx} {G N:Nat} {μ:Mu} {σ:St} {w:World} {ops:Array Oper}
theorem lD {run:Run} {ρ:bT→AV} {op:dM} (hp:op.pure=true):dO X run ρ op σ=eY X.P ρ op σ:=by
 cases op <;> first | rfl | (simp [dM.pure] at hp)
theorem all_cnd {e:Env} {l:List bT} (h:(l.all fun o=>nC true (o.ev e).cnd)=true):∀y∈l,(y.ev e).cnd=true:=by
 simp only [List.all_eq_true,fQ] at h
 exact h
theorem OZ {o:Oper} {q a b:bT} {e:Env} {act:Act} {r:AV} (hs:gQ G μ σ w)(he:dw G N μ w e act.tmps)(hok:jT X.P G o.op (.pick q a b)=true)
 (h:vI true (q.ev e) (a.ev e) (b.ev e)=some r) {f:Bool} :FQ X.P G μ σ w (execOp act.eval o) r σ f:=by
 cases ho:o.op <;> rw [ho] at hok <;> simp only [jT,Bool.false_eq_true] at hok
 case pick c x y=>
  simp only [Bool.and_eq_true] at hok
  unfold vI at h
  split at h
  ·rename_i z hz
   split at h
   ·rename_i hi
    cases h
    simp only [fQ,Bool.and_eq_true,Bool.true_and] at hi
    have hq:=uw (mZ hs he hok.1.1) hi.1.1
    rw [hz] at hq
    simp only [aV] at hq
    refine⟨.value (if z then act.eval x else act.eval y),w,μ,_,?_,.inl rfl,?_,Step.refl hs,fun _=>⟨rfl,rfl⟩⟩
    ·simp [execOp,ho,hq,asBool]
    ·simp only [aV,if_true]
     refine Ew (fun ht=>uw (mZ hs he hok.1.2) (by simpa [ht] using hi.1.2)) (fun ht=>uw (mZ hs he hok.2) (by simpa [ht] using hi.2))
   ·cases h
  ·cases h
 case call c=>
  unfold ku at hok
  split at hok <;> rename_i h1 h2 <;> first | (cases h2;done) | skip
  all_goals simp_all [gB]
theorem guard_false {P:Program} {e:Env} {op:dM} {r:AV} (h:jC P false e op σ=some r):∃v,r= .cd false v:=by
 simp only [jC,Bool.false_eq_true,if_false,Option.some.injEq] at h
 exact⟨_,h.symm⟩
theorem guard_true {o:Oper} {a:dM} {e:Env} {act:Act} {r:AV} (hs:gQ G μ σ w)(he:dw G N μ w e act.tmps)(hok:jT X.P G o.op a=true)(hp:a.pure=true)
 (h0:jC X.P true e a σ=some r):FQ X.P G μ σ w (execOp act.eval o) r σ a.exact:=by
 have h:ji X.P e a σ=some r:=h0
 by_cases hpk:∃q x y,a= .pick q x y
 ·obtain⟨q,x,y,rfl⟩:=hpk
  exact OZ hs he hok h
 have h':pW true (a.bK.all (fun o=>nC true (o.ev e).cnd)) (eY X.P (fun o=>(o.ev e).val) a σ)=some r:=by
  cases a <;> first | exact h | exact absurd ⟨_,_,_,rfl⟩ hpk
 unfold pW at h'
 split at h'
 ·rename_i q hq
  split at h'
  ·rename_i hi
   cases h'
   obtain⟨r1,σ1⟩:=q
   have hσ:=Bz hp hq
   subst hσ
   obtain⟨n,w',μ',v,h1,h2,h3,h4⟩:=Bc hs hok (FU hs he a.bK (all_cnd hi)) (qL e) hq
   exact⟨n,w',μ',v,h1,h2,by simpa [aV] using h3,h4⟩
  ·cases h'
 ·simp at h'
theorem kR {run:Run} (hX:X.Ok G)(hrun:nJ X.P G run) {o:Oper} {a:AI} {e:Env} {act:Act} {K:Act→World→Prop} {Q:Exit→Act→World→Prop} {r:AV} {σ':St} (hs:gQ G μ σ w)(he:dw G N μ w e act.tmps)
 (hok:iR X.P G N ops o a=true) (h:dK X run e a σ=some (r,σ'))
 (hK:∀v w' μ',aV μ' w' r v→Step G μ σ w μ' σ' w'→K (act.put o.dst v) w'):Bo X.P ops o K Q act w:=by
 simp only [iR,Bool.and_eq_true,beq_iff_eq] at hok
 obtain⟨⟨⟨hd,hN⟩,hg⟩,hop⟩:=hok
 unfold dK at h
 unfold Bo
 split at h
 ·rename_i hgd
  rw [hgd] at hg
  rw [lC he hg (c:=true) rfl,if_pos rfl]
  exact .inl (EI hX hrun hs hop (Ae hs he _) (oK e) h hK)
 ·rename_i g hgd
  rw [hgd] at hg
  split at h
  ·cases h
  ·rename_i c hc
   rw [lC he hg hc]
   split at h
   ·rename_i hp
    rw [Option.map_eq_some_iff] at h
    obtain⟨q,hq,h⟩:=h;cases h
    cases c with
    | true=>
      rw [if_pos rfl]
      exact .inl (Af (guard_true hs he hop hp hq) hK)
    | false=>
      rw [if_neg (by simp)]
      obtain⟨v,rfl⟩:=guard_false hq
      exact hK _ _ _ (by simp [aV]) (Step.refl hs)
   ·cases c with
    | true=>
      rw [if_pos rfl] at h ⊢
      split at h
      ·rename_i ha
       simp only [List.all_eq_true] at ha
       exact .inl (EI hX hrun hs hop (FU hs he _ ha) (qL e) h hK)
      ·cases h
    | false=>
      simp only [Bool.false_eq_true,if_false,Option.some.injEq,Prod.mk.injEq] at h ⊢
      obtain⟨rfl,rfl⟩:=h
      exact hK _ _ _ ⟨#[],rfl,rfl⟩ (Step.refl hs)
theorem qM {op:dM} (h:op.exact=true):op.pure=true:=by
 cases op <;> first | exact h | cases h
theorem KY {run:Run} {o:Oper} {a:AI} {e:Env} {act:Act} {K:Act→World→Prop} {Q:Exit→Act→World→Prop} {r:AV} {σ':St} (hs:gQ G μ σ w)(he:dw G N μ w e act.tmps)
 (hok:iR X.P G N ops o a=true) (hx:a.op.exact=true) (h:dK X run e a σ=some (r,σ'))
 (hK:∀v,aV μ w r v→K (act.put o.dst v) w):Bo X.P ops o K Q act w:=by
 simp only [iR,Bool.and_eq_true,beq_iff_eq] at hok
 obtain⟨⟨⟨hd,hN⟩,hg⟩,hop⟩:=hok
 have hp:=qM hx
 unfold dK at h
 unfold Bo
 split at h
 ·rename_i hgd
  rw [hgd] at hg
  rw [lC he hg (c:=true) rfl,if_pos rfl]
  rw [lD hp] at h
  have hto:=Bc hs hop (Ae hs he _) (oK e) h
  rw [hx] at hto
  exact .inl (Bq hto hK)
 ·rename_i g hgd
  rw [hgd] at hg
  split at h
  ·cases h
  ·rename_i c hc
   rw [lC he hg hc]
   split at h
   ·rw [Option.map_eq_some_iff] at h
    obtain⟨q,hq,h⟩:=h;cases h
    cases c with
    | true=>
      rw [if_pos rfl]
      have hto:=guard_true hs he hop hp hq
      rw [hx] at hto
      exact .inl (Bq hto hK)
    | false=>
      rw [if_neg (by simp)]
      obtain⟨v,rfl⟩:=guard_false hq
      exact hK _ (by simp [aV])
   ·rename_i hn;exact absurd hp hn
def sG (ds:List Deferred)(G N:Nat)(μ:Mu)(σ:St)(w:World)(e':Env)(σ':St)(act':Act)(w':World):Prop:=
 ∃ μ',Step G μ σ w μ' σ' w'∧dw G N μ' w' e' act'.tmps∧act'.defers=ds
theorem dL (act:Act)(d:Option Tmp)(v:Value):(act.put d v).defers=act.defers:=by cases d <;> rfl
theorem Nv {ds:List Deferred} {run:Run} (hX:X.Ok G)(hrun:nJ X.P G run) {Q:Exit→Act→World→Prop} :∀(is:List Nat) (l:List AI) (e:Env) (act:Act) (μ:Mu) (σ:St) (w:World) (e':Env) (σ':St),
 nI X.P G N ops is l=true→gQ G μ σ w→dw G N μ w e act.tmps→act.defers=ds→jG X run l e σ=some (e',σ')→
 (∀act' w',sG ds G N μ σ w e' σ' act' w'→Q .normal act' w')→wpOps X.P ops Q is act w
 | [],[],e,act,μ,σ,w,e',σ',_,hs,he,hd,h,hQ=>by
   cases h
   exact hQ _ _ ⟨μ,Step.refl hs,he,hd⟩
 | [],_ :: _,_,_,_,_,_,_,_,hk,_,_,_,_,_=>by simp [nI] at hk
 | _ :: _,[],_,_,_,_,_,_,_,hk,_,_,_,_,_=>by simp [nI] at hk
 | i :: is,a :: l,e,act,μ,σ,w,e',σ',hk,hs,he,hd,h,hQ=>by
   simp only [nI,Bool.and_eq_true] at hk
   obtain⟨h1,h2⟩:=hk
   split at h1
   ·rename_i o ho
    simp only [jG] at h
    split at h
    ·rename_i v σ1 hst
     rw [wpOps]
     simp only [ho]
     refine kR (ops:=ops) hX hrun hs he h1 hst fun u w' μ' hv hstep=>?_
     have hk1:=h1
     simp only [iR,Bool.and_eq_true,beq_iff_eq] at hk1
     have he':=(he.mono hstep.ext hstep.kY)
     refine Nv (ds:=ds) hX hrun is l _ _ μ' σ1 w' e' σ' h2 hstep.pJ (by rw [hk1.1.1.1];exact he'.put hk1.1.1.2 hv) (by rw [dL];exact hd) h ?_
     intro act' w'' hl
     obtain⟨y7,hs2,he2,hd2⟩:=hl
     exact hQ _ _ ⟨y7,hstep.trans hs2,he2,hd2⟩
    ·cases h
   ·cases h1
def Rj (μ:Mu)(w:World):Out→Exit→Prop
 | .normal,x=>x= .normal
 | .exit id,x=>x= .exit id
 | .ret,x=>x= .ret
 | .gu r,x=>∃v,x= .panic [{ v,recovered:=false }]∧aV μ w r v
def nM (ds:List Deferred)(G N:Nat)(μ:Mu)(σ:St)(w:World)(o:Out)(e':Env)(σ':St)(x:Exit)(act':Act)(w':World):Prop:=
 ∃ μ',Step G μ σ w μ' σ' w'∧dw G N μ' w' e' act'.tmps∧act'.defers=ds∧Rj μ' w' o x
theorem yh {run:gW} (hX:X.Ok G)(hrun:gY X.P G run) {o:Oper} {a:AI} {e:Env} {act:Act} {K:Act→World→Prop} {Q:Exit→Act→World→Prop} {b:Bool} {r:AV} {σ':St} (hs:gQ G μ σ w)(he:dw G N μ w e act.tmps)
 (hok:iR X.P G N ops o a=true) (h:iy X run e a σ=some (b,r,σ'))
 (hK:b=false→∀v w' μ',aV μ' w' r v→Step G μ σ w μ' σ' w'→K (act.put o.dst v) w') (hQ:b=true→∀v w' μ',aV μ' w' r v→Step G μ σ w μ' σ' w'→Q (.panic [{ v,recovered:=false }]) act w'):Bo X.P ops o K Q act w:=by
 simp only [iR,Bool.and_eq_true,beq_iff_eq] at hok
 obtain⟨⟨⟨hd,hN⟩,hg⟩,hop⟩:=hok
 unfold iy at h
 unfold Bo
 split at h
 ·rename_i hgd
  rw [hgd] at hg
  rw [lC he hg (c:=true) rfl,if_pos rfl]
  exact .inl (Bv hX hrun hs hop (Ae hs he _) (oK e) h hK hQ)
 ·rename_i g hgd
  rw [hgd] at hg
  split at h
  ·cases h
  ·rename_i c hc
   rw [lC he hg hc]
   split at h
   ·rename_i hp
    rw [Option.map_eq_some_iff] at h
    obtain⟨q,hq,h⟩:=h;cases h
    cases c with
    | true=>
      rw [if_pos rfl]
      exact .inl (Af (guard_true hs he hop hp hq) (hK rfl))
    | false=>
      rw [if_neg (by simp)]
      obtain⟨v,rfl⟩:=guard_false hq
      exact hK rfl _ _ _ (by simp [aV]) (Step.refl hs)
   ·cases c with
    | true=>
      rw [if_pos rfl] at h ⊢
      split at h
      ·rename_i ha
       simp only [List.all_eq_true] at ha
       exact .inl (Bv hX hrun hs hop (FU hs he _ ha) (qL e) h hK hQ)
      ·cases h
    | false=>
      simp only [Bool.false_eq_true,if_false,Option.some.injEq,Prod.mk.injEq] at h ⊢
      obtain⟨rfl,rfl,rfl⟩:=h
      exact hK rfl _ _ _ ⟨#[],rfl,rfl⟩ (Step.refl hs)
theorem IV {ds:List Deferred} {run:gW} (hX:X.Ok G)(hrun:gY X.P G run) {Q:Exit→Act→World→Prop} :∀(is:List Nat) (l:List AI) (e:Env) (act:Act) (μ:Mu) (σ:St) (w:World) (q:Out) (e':Env) (σ':St),
 nI X.P G N ops is l=true→gQ G μ σ w→dw G N μ w e act.tmps→act.defers=ds→nD X run l e σ=some (q,e',σ')→
 (∀x act' w',nM ds G N μ σ w q e' σ' x act' w'→Q x act' w')→wpOps X.P ops Q is act w
 | [],[],e,act,μ,σ,w,q,e',σ',_,hs,he,hd,h,hQ=>by
   cases h
   exact hQ _ _ _ ⟨μ,Step.refl hs,he,hd,rfl⟩
 | [],_ :: _,_,_,_,_,_,_,_,_,hk,_,_,_,_,_=>by simp [nI] at hk
 | _ :: _,[],_,_,_,_,_,_,_,_,hk,_,_,_,_,_=>by simp [nI] at hk
 | i :: is,a :: l,e,act,μ,σ,w,q,e',σ',hk,hs,he,hd,h,hQ=>by
   simp only [nI,Bool.and_eq_true] at hk
   obtain⟨h1,h2⟩:=hk
   split at h1
   ·rename_i o ho
    simp only [nD] at h
    have hk1:=h1
    simp only [iR,Bool.and_eq_true,beq_iff_eq] at hk1
    rw [wpOps]
    simp only [ho]
    split at h
    ·rename_i v σ1 hst
     refine yh (ops:=ops) hX hrun hs he h1 hst (fun _ u w' μ' hv hstep=>?_) (fun hb=>by cases hb)
     have he':=(he.mono hstep.ext hstep.kY)
     refine IV (ds:=ds) hX hrun is l _ _ μ' σ1 w' q e' σ' h2 hstep.pJ (by rw [hk1.1.1.1];exact he'.put hk1.1.1.2 hv) (by rw [dL];exact hd) h ?_
     intro x act' w'' hl
     obtain⟨y7,hs2,he2,hd2,ho2⟩:=hl
     exact hQ _ _ _ ⟨y7,hstep.trans hs2,he2,hd2,ho2⟩
    ·rename_i v σ1 hst
     cases h
     refine yh (ops:=ops) hX hrun hs he h1 hst (fun hb=>by cases hb) (fun _ u w' μ' hv hstep=>?_)
     exact hQ _ _ _ ⟨μ',hstep,he.mono hstep.ext hstep.kY,hd,u,rfl,hv⟩
    ·cases h
   ·cases h1
end
end Go.dX
namespace Go.dX
def bT.sl:bT→List Nat
 | .t n=>[n]
 | .c _=>[]
def AI.slots (a:AI):List Nat:=a.op.bK.flatMap bT.sl ++ (match a.gd with | some (n,_)=>[n] | none=>[])
def dM.still:dM→Bool
 | .load _ _ | .slc _ _ _ _ | .uN _ _ _ _ | .Ku _ _ | .wu false _ _ _=>false
 | op=>op.pure
section
variable {X:Ctx} {P:Program} {G N:Nat} {σ:St} {ops:Array Oper}
theorem yj {ρ ρ':bT→AV} {op:dM} (h:∀y∈op.bK,ρ y=ρ' y):eY P ρ op σ=eY P ρ' op σ:=by
 have hm:∀l:List bT,(∀y∈l,ρ y=ρ' y)→l.map ρ=l.map ρ':=fun l hl=>List.map_congr_left hl
 have hp:∀l:List (Nat×bT),(∀y∈l.map (·.2),ρ y=ρ' y)→(l.map fun q=>(q.1,ρ q.2))=l.map fun q=>(q.1,ρ' q.2):=fun l hl=>
  List.map_congr_left fun q hq=>by rw [hl q.2 (List.mem_map.2 ⟨q,hq,rfl⟩)]
 cases op
 case build t ps=>simp only [eY,dM.bK] at h ⊢;rw [hp _ h]
 case jo t n ps=>simp only [eY,dM.bK] at h ⊢;rw [hp _ h]
 case rQ f a c=>
  simp only [eY,dM.bK] at h ⊢
  rw [hm a fun y hy=>h y (by simp [hy]),hm c fun y hy=>h y (by simp [hy])]
 case mn mx xs=>simp only [eY,dM.bK] at h ⊢;rw [hm _ h]
 case Ei t r=>
  simp only [dM.bK] at h
  have h2:r.map ρ=r.map ρ':=by
   cases r with
   | none=>rfl
   | some y=>simp only [Option.map_some];rw [h y (by simp)]
  simp only [eY]
  rw [h2]
 case sl3 t x l hh m=>
  simp only [dM.bK] at h
  have h1:ρ x=ρ' x:=h x (by simp)
  have h2:l.map ρ=l.map ρ':=by
   cases l with
   | none=>rfl
   | some y=>simp only [Option.map_some];rw [h y (by simp)]
  have h3:ρ hh=ρ' hh:=h hh (by simp)
  have h4:ρ m=ρ' m:=h m (by simp)
  simp only [eY]
  rw [h1,h2,h3,h4]
 case slc t x l hh=>
  simp only [dM.bK] at h
  have h1:ρ x=ρ' x:=h x (by simp)
  have h2:l.map ρ=l.map ρ':=by
   cases l with
   | none=>rfl
   | some y=>simp only [Option.map_some];rw [h y (by simp)]
  have h3:hh.map ρ=hh.map ρ':=by
   cases hh with
   | none=>rfl
   | some y=>simp only [Option.map_some];rw [h y (by simp)]
  simp only [eY]
  rw [h1,h2,h3]
 all_goals first
  | rfl
  | (simp only [dM.bK,List.mem_cons,List.not_mem_nil,or_false,forall_eq_or_imp,forall_eq] at h;simp only [eY,h])
theorem zx {run:Run} {ρ ρ':bT→AV} {op:dM} (h:∀y∈op.bK,ρ y=ρ' y):dO X run ρ op σ=dO X run ρ' op σ:=by
 have hm:∀l:List bT,(∀y∈l,ρ y=ρ' y)→l.map ρ=l.map ρ':=fun l hl=>List.map_congr_left hl
 cases op
 case call f args=>simp only [dO,dM.bK] at h ⊢;rw [h f (by simp),hm args fun y hy=>h y (by simp [hy])]
 case inv x m args=>simp only [dO,dM.bK] at h ⊢;rw [h x (by simp),hm args fun y hy=>h y (by simp [hy])]
 all_goals exact yj (P:=X.P) (σ:=σ) h
theorem sH {e e':Env} {y:bT} (h:∀x∈y.sl,get e x=get e' x):y.ev e=y.ev e':=by
 cases y with
 | c v=>rfl
 | t n=>exact h n (by simp [bT.sl])
theorem all_congr {l:List bT} {p q:bT→Bool} (h:∀y∈l,p y=q y):l.all p=l.all q:=by
 induction l with
 | nil=>rfl
 | cons y l ih=>simp only [List.all_cons];rw [h y (by simp),ih fun z hz=>h z (by simp [hz])]
theorem wW {c:Bool} {e e':Env} {op:dM} (h:∀y∈op.bK,y.ev e=y.ev e'):jC P c e op σ=jC P c e' op σ:=by
 have hl:pW true (op.bK.all (fun o=>nC true (o.ev e).cnd)) (eY P (fun o=>(o.ev e).val) op σ)=pW true (op.bK.all (fun o=>nC true (o.ev e').cnd)) (eY P (fun o=>(o.ev e').val) op σ):=by
  rw [all_congr (q:=fun o=>nC true (o.ev e').cnd) fun y hy=>by rw [h y hy],yj (ρ':=fun o=>(o.ev e').val) fun y hy=>by rw [h y hy]]
 suffices ji P e op σ=ji P e' op σ by unfold jC;rw [this]
 by_cases hpk:∃q x y,op= .pick q x y
 ·obtain⟨q,x,y,rfl⟩:=hpk
  simp only [ji]
  rw [h q (by simp [dM.bK]),h x (by simp [dM.bK]),h y (by simp [dM.bK])]
 ·cases op <;> first | exact hl | exact absurd ⟨_,_,_,rfl⟩ hpk
theorem f_ {run:Run} {e e':Env} {a:AI} (h:∀x∈a.slots,get e x=get e' x):dK X run e a σ=dK X run e' a σ:=by
 have ho:∀y∈a.op.bK,y.ev e=y.ev e':=fun y hy=>sH fun x hx=>h x (by
  simp only [AI.slots,List.mem_append,List.mem_flatMap];exact .inl ⟨y,hy,hx⟩)
 unfold dK
 cases hg:a.gd with
 | none=>exact zx ho
 | some g=>
   obtain⟨n,w⟩:=g
   have hw:eG e (some (n,w))=eG e' (some (n,w)):=by
    simp only [eG]
    rw [h n (by simp [AI.slots,hg])]
   simp only [hw]
   cases eG e' (some (n,w)) with
   | none=>rfl
   | some c=>
     simp only []
     rw [wW ho,all_congr (q:=fun o=>(o.ev e').cnd) fun y hy=>by rw [ho y hy],zx (ρ':=fun o=>(o.ev e').val) fun y hy=>by rw [ho y hy]]
theorem BA {o:Option AV} {v:AV} {σ1:St} (h:o.map (·,σ)=some (v,σ1))(σ':St):o.map (·,σ')=some (v,σ'):=by
 cases o with
 | none=>cases h
 | some q=>cases h;rfl
theorem uD {ρ:bT→AV} {op:dM} {σ1:St} {v:AV} (hs:op.still=true)(h:eY P ρ op σ=some (v,σ1))(σ':St):eY P ρ op σ'= some (v,σ'):=by
 by_cases hc:∃b s d x,op= .wu b s d x
 ·obtain⟨b,s,d,x,rfl⟩:=hc
  cases b with
  | false=>cases hs
  | true=>
    simp only [eY] at h ⊢
    rw [KJ (σ:=σ)]
    exact BA h σ'
 cases op <;> (try exact absurd ⟨_,_,_,_,rfl⟩ hc) <;> simp only [dM.still,dM.pure,Bool.false_eq_true] at hs <;> simp only [eY] at h ⊢
 all_goals first
  | exact BA h σ'
  | (cases h;rfl)
  | (split at h <;> first | (cases h;done) | (cases h;rfl) | exact BA h σ')
theorem lF {op:dM} (h:op.still=true):op.pure=true:=by
 cases op <;> first | rfl | exact h
theorem O0 {c ok:Bool} {q q':Option (AV×St)} (h:q.map (·.1)=q'.map (·.1)):pW c ok q=pW c ok q':=by
 cases q <;> cases q' <;> simp_all [pW]
theorem BD {ρ:bT→AV} {op:dM} (hs:op.still=true)(σ σ':St):(eY P ρ op σ).map (·.1)=(eY P ρ op σ').map (·.1):=by
 cases h:eY P ρ op σ with
 | some q=>rw [uD hs (σ1:=q.2) (v:=q.1) h σ'];rfl
 | none=>
   cases h':eY P ρ op σ' with
   | none=>rfl
   | some q=>rw [uD hs (σ1:=q.2) (v:=q.1) h' σ] at h;cases h
theorem FW {c:Bool} {e:Env} {op:dM} (hs:op.still=true)(σ σ':St):jC P c e op σ=jC P c e op σ':=by
 have hl:=O0 (c:=true) (ok:=op.bK.all (fun o=>nC true (o.ev e).cnd)) (BD (P:=P) (ρ:=fun o=>(o.ev e).val) hs σ σ')
 suffices ji P e op σ=ji P e op σ' by unfold jC;rw [this]
 by_cases hpk:∃q x y,op= .pick q x y
 ·obtain⟨q,x,y,rfl⟩:=hpk;rfl
 ·cases op <;> first | exact hl | exact absurd ⟨_,_,_,rfl⟩ hpk
theorem jl {run:Run} {e:Env} {a:AI} {σ1:St} {v:AV} (hp:a.op.pure=true)(h:dK X run e a σ=some (v,σ1)):σ1=σ:=by
 unfold dK at h
 split at h
 ·rw [lD hp] at h;exact Bz hp h
 ·split at h
  ·cases h
  ·rw [if_pos hp,Option.map_eq_some_iff] at h
   obtain⟨q,_,h⟩:=h;cases h;rfl
theorem zy {run:Run} {e:Env} {a:AI} {σ1:St} {v:AV} (hs:a.op.still=true)(h:dK X run e a σ=some (v,σ1))(σ':St):dK X run e a σ'= some (v,σ'):=by
 have hp:=lF hs
 unfold dK at h ⊢
 split at h
 ·rename_i hg
  rw [lD hp] at h
  rw [lD hp]
  exact uD hs h σ'
 ·split at h
  ·cases h
  ·rename_i c hc
   rw [if_pos hp,Option.map_eq_some_iff] at h
   obtain⟨q,hq,h⟩:=h;cases h
   simp only [hc,hp,if_true]
   rw [FW hs σ' σ,hq];rfl
end
structure DI where
 i:Nat
 a:AI
 again:List AI
 qN:List Nat
def dW (ops:Array Oper)(i:Nat):List Nat:=match ops[i]? with
 | some o=>(o.after.toList.filter (Region.binds .any)).map (·.on)
 | none=>[]
def FX (P:Program)(G N:Nat)(ops:Array Oper)(i:Nat)(a:AI):Bool:=match ops[i]? with
 | some o=>iR P G N ops o a
 | none=>false
def uni:List Nat→List Nat→List Nat
 | [],l=>l
 | j :: js,l=>uni js (if l.contains j then l else j :: l)
def ancOf (done:List DI):List Nat→List Nat→List Nat
 | [],l=>l
 | j :: js,l=>ancOf done js (match done.find? (·.i == j) with | some t=>uni t.qN l | none=>l)
def sJ (P:Program)(G N:Nat)(ops:Array Oper):List (AI×List AI)→List DI→List DI
 | [],done=>done.reverse
 | (a,ag) :: r,done=>match (List.range ops.size).find? (fun i=>!(done.any (·.i == i)) && FX P G N ops i a) with
   | some i=>sJ P G N ops r (⟨i,a,ag,ancOf done (dW ops i) (dW ops i)⟩ :: done)
   | none=>[]
def vg (P:Program)(G N:Nat)(ops:Array Oper)(T:List DI)(p:Nat)(t:DI):Bool:=
 FX P G N ops t.i t.a &&
 (dW ops t.i).all (fun j=>(T.take p).any (·.i == j)) &&
 t.qN.all fun j=>(dW ops t.i).contains j || (T.take p).any fun b=>(dW ops t.i).contains b.i && b.qN.contains j
def sK (P:Program)(G N:Nat)(ops:Array Oper)(T:List DI)(q:Nat)(b:DI)(p:Nat)(a:DI):Bool:=
 b.i != a.i &&
 (match b.a.d with
    | some x=>a.a.d != some x && (!(a.a.slots.contains x) || a.qN.contains b.i)
    | none=>true) &&
 (match a.a.d with
    | some x=>!(b.a.slots.contains x) || a.qN.contains b.i
    | none=>true) &&
 (b.a.op.pure || a.a.op.still || a.qN.contains b.i) &&
 (a.a.op.pure || !b.a.op.pure || b.a.op.still || a.qN.contains b.i || a.again.any fun b'=>FX P G N ops b.i b' && b'.op.pure && b'.slots.all (fun x=>b.a.slots.contains x && ((T.take p).drop q).all fun r=>r.a.d != some x))
def Nw (P:Program)(G N:Nat)(ops:Array Oper)(T:List DI):Bool:=
 (List.range ops.size).all (fun i=>T.any (·.i == i)) &&
 (List.range T.length).all fun p=>match T[p]? with
    | some t=>vg P G N ops T p t && (List.range p).all fun q=>match T[q]? with
      | some b=>sK P G N ops T q b p t
      | none=>true
    | none=>true
def KZ (i:Nat)(k:Nat→Bool):Bool:=match i with
 | 0=>k 0
 | n+1=>k (n+1)
def Ag:List Nat→(List Nat→Bool)→Bool
 | [],k=>k []
 | i :: l,k=>KZ i fun i'=>Ag l fun l'=>k (i' :: l')
def yu:List DI→(List DI→Bool)→Bool
 | [],k=>k []
 | ⟨i,a,ag,qN⟩ :: r,k=>KZ i fun i'=>Ag qN fun anc'=>yu r fun r'=>k (⟨i',a,ag,anc'⟩ :: r')
theorem EJ (i:Nat)(k:Nat→Bool):KZ i k=k i:=by cases i <;> rfl
theorem BG:∀(l:List Nat) (k:List Nat→Bool),Ag l k=k l
 | [],_=>rfl
 | i :: l,k=>by simp only [Ag,EJ,BG l]
theorem ql:∀(l:List DI) (k:List DI→Bool),yu l k=k l
 | [],_=>rfl
 | ⟨i,a,ag,qN⟩ :: r,k=>by simp only [yu,EJ,BG,ql r]
def IW (P:Program)(G N:Nat)(ops:Array Oper)(l:List (AI×List AI)):Bool:=
 yu (sJ P G N ops l []) fun T=>Nw P G N ops T && T.length == l.length
theorem uF {P:Program} {G N:Nat} {ops:Array Oper} :∀(l:List (AI×List AI)) (done:List DI),(sJ P G N ops l done).length=l.length+done.length→
 (sJ P G N ops l done).map (fun t=>(t.a,t.again))=done.reverse.map (fun t=>(t.a,t.again)) ++ l
 | [],done,_=>by simp [sJ]
 | (a,ag) :: r,done,h=>by
   unfold sJ at h ⊢
   split
   ·rename_i i hi
    rw [hi] at h
    simp only at h
    rw [uF r _ (by rw [h];simp;omega)]
    simp
   ·rename_i hi
    rw [hi] at h
    simp at h
    omega
end Go.dX
namespace Go.dX
structure Tab (P:Program)(G N:Nat)(ops:Array Oper)(T:List DI):Prop where
 all:∀i<ops.size,∃(p:Nat) (t:DI),T[p]? =some t∧t.i=i
 at':∀(p:Nat) (t:DI),T[p]? =some t→∃o,ops[t.i]? =some o∧iR P G N ops o t.a=true
 edge:∀(p:Nat) (t:DI),T[p]? =some t→∀j∈dW ops t.i,∃(q:Nat) (b:DI),q<p∧T[q]? =some b∧b.i=j
 qN:∀(p:Nat) (t:DI),T[p]? =some t→∀j∈t.qN,j∈dW ops t.i∨∃(q:Nat) (b:DI),q<p∧T[q]? =some b∧b.i∈dW ops t.i∧j∈b.qN
 ne:∀(q:Nat) (b:DI) (p:Nat) (a:DI),q<p→T[q]? =some b→T[p]? =some a→b.i≠a.i
 dst:∀(q:Nat) (b:DI) (p:Nat) (a:DI),q<p→T[q]? =some b→T[p]? =some a→∀x,b.a.d=some x→a.a.d≠some x
 raw:∀(q:Nat) (b:DI) (p:Nat) (a:DI),q<p→T[q]? =some b→T[p]? =some a→∀x,b.a.d=some x→x∈a.a.slots→b.i∈a.qN
 war:∀(q:Nat) (b:DI) (p:Nat) (a:DI),q<p→T[q]? =some b→T[p]? =some a→∀x,a.a.d=some x→x∈b.a.slots→b.i∈a.qN
 eff:∀(q:Nat) (b:DI) (p:Nat) (a:DI),q<p→T[q]? =some b→T[p]? =some a→b.a.op.pure=false→a.a.op.still=false→b.i∈a.qN
 again:∀(q:Nat) (b:DI) (p:Nat) (a:DI),q<p→T[q]? =some b→T[p]? =some a→a.a.op.pure=false→b.a.op.pure=true→b.a.op.still=false→b.i∉a.qN→
  ∃ b'∈a.again,(∃o,ops[b.i]? =some o∧iR P G N ops o b'= true)∧b'.op.pure=true∧∀x∈b'.slots,x∈b.a.slots∧∀(r:Nat) (c:DI),q≤r→r<p→T[r]? =some c→c.a.d≠some x
theorem lG {P:Program} {G N:Nat} {ops:Array Oper} {i:Nat} {a:AI} (h:FX P G N ops i a=true):∃o,ops[i]? =some o∧iR P G N ops o a=true:=by
 unfold FX at h
 split at h
 ·rename_i o ho;exact⟨o,ho,h⟩
 ·cases h
theorem qm {α:Type} {l:List α} {p:Nat} {x:α} (h:x∈l.take p):∃q,q<p∧l[q]? =some x:=by
 obtain⟨q,hq⟩:=List.getElem?_of_mem h
 rw [List.getElem?_take] at hq
 split at hq
 ·exact⟨q,by assumption,hq⟩
 ·cases hq
theorem BH {P:Program} {G N:Nat} {ops:Array Oper} {T:List DI} (h:Nw P G N ops T=true):Tab P G N ops T:=by
 simp only [Nw,Bool.and_eq_true,List.all_eq_true,List.mem_range,List.any_eq_true,beq_iff_eq] at h
 obtain⟨h1,h2⟩:=h
 have one:∀(p:Nat) (t:DI),T[p]? =some t→vg P G N ops T p t=true:=by
  intro p t ht
  have:=h2 p (cZ ht)
  rw [ht] at this
  simp only [Bool.and_eq_true] at this
  exact this.1
 have pair:∀(q:Nat) (b:DI) (p:Nat) (a:DI),q<p→T[q]? =some b→T[p]? =some a→sK P G N ops T q b p a=true:=by
  intro q b p a lH hb ha
  have:=h2 p (cZ ha)
  rw [ha] at this
  simp only [Bool.and_eq_true,List.all_eq_true,List.mem_range] at this
  have:=this.2 q lH
  rw [hb] at this
  exact this
 refine⟨?_,?_,?_,?_,?_,?_,?_,?_,?_,?_⟩
 ·intro i hi
  obtain⟨t,ht,hti⟩:=h1 i hi
  obtain⟨p,hp⟩:=List.getElem?_of_mem ht
  exact⟨p,t,hp,hti⟩
 ·intro p t ht
  have:=one p t ht
  simp only [vg,Bool.and_eq_true] at this
  exact lG this.1.1
 ·intro p t ht j hj
  have:=one p t ht
  simp only [vg,Bool.and_eq_true,List.all_eq_true,List.any_eq_true,beq_iff_eq] at this
  obtain⟨b,hb,hbj⟩:=this.1.2 j hj
  obtain⟨q,hq,IX⟩:=qm hb
  exact⟨q,b,hq,IX,hbj⟩
 ·intro p t ht j hj
  have:=one p t ht
  simp only [vg,Bool.and_eq_true,List.all_eq_true,List.any_eq_true,beq_iff_eq,Bool.or_eq_true,List.contains_iff_mem] at this
  rcases this.2 j hj with h | ⟨b,hb,hbj⟩
  ·exact .inl h
  ·obtain⟨q,hq,IX⟩:=qm hb
   exact .inr ⟨q,b,hq,IX,hbj.1,hbj.2⟩
 ·intro q b p a lH hb ha
  have:=pair q b p a lH hb ha
  simp only [sK,Bool.and_eq_true,bne_iff_ne] at this
  exact this.1.1.1.1
 ·intro q b p a lH hb ha x hx
  have:=pair q b p a lH hb ha
  simp only [sK,Bool.and_eq_true,hx,bne_iff_ne] at this
  exact this.1.1.1.2.1
 ·intro q b p a lH hb ha x hx hs
  have:=pair q b p a lH hb ha
  simp only [sK,Bool.and_eq_true,hx,Bool.or_eq_true,Bool.not_eq_true',List.contains_iff_mem] at this
  rcases this.1.1.1.2.2 with h | h
  ·rw [List.contains_eq_mem] at h;simp at h;exact absurd hs h
  ·exact h
 ·intro q b p a lH hb ha x hx hs
  have:=pair q b p a lH hb ha
  simp only [sK,Bool.and_eq_true,hx,Bool.or_eq_true,Bool.not_eq_true',List.contains_iff_mem] at this
  rcases this.1.1.2 with h | h
  ·rw [List.contains_eq_mem] at h;simp at h;exact absurd hs h
  ·exact h
 ·intro q b p a lH hb ha hx hs
  have:=pair q b p a lH hb ha
  simp only [sK,Bool.and_eq_true,hx,hs,Bool.or_eq_true,List.contains_iff_mem,Bool.false_eq_true,false_or] at this
  exact this.1.2
 ·intro q b p a lH hb ha hx hs1 hs hn
  have:=pair q b p a lH hb ha
  simp only [sK,Bool.and_eq_true,hx,hs,hs1,Bool.or_eq_true,List.contains_iff_mem,Bool.false_eq_true,false_or,Bool.not_true,or_false,hn,List.any_eq_true,List.all_eq_true,bne_iff_ne] at this
  obtain⟨b',hb',⟨h3,h4⟩,h5⟩:=this.2
  refine⟨b',hb',lG h3,h4,fun x hx=>⟨(h5 x hx).1,fun r c hr hrp hc=>(h5 x hx).2 c ?_⟩⟩
  refine List.mem_of_getElem? (i:=r - q) ?_
  rw [List.getElem?_drop,List.getElem?_take,if_pos (by omega),show q+(r - q)=r by omega]
  exact hc
end Go.dX
namespace Go.dX
theorem eU {d:Nat} {v:AV} {e:Env} :get (put (some d) v e) d=v:=by simp [put,get]
theorem dY {d:Option Nat} {v:AV} {e:Env} {x:Nat} (h:d≠some x):get (put d v e) x=get e x:=by
 cases d with
 | none=>rfl
 | some d=>
   have hne:¬d=x:=fun he=>h (by rw [he])
   simp [put,get,hne]
theorem BI {X:Ctx} {run:Run} :∀(l:List (AI×List AI)) (e:Env) (σ:St) (e':Env) (σ':St),o7 X run l e σ=some (e',σ')→
 ∃ (E:Nat→Env) (S:Nat→St) (V:Nat→AV),E 0=e∧S 0=σ∧E l.length=e'∧S l.length=σ'∧
   ∀ (p:Nat) (a:AI) (ag:List AI),l[p]? =some (a,ag)→dK X run (E p) a (S p)=some (V p,S (p+1))∧E (p+1)=put a.d (V p) (E p)∧∀b∈ag,lq X (E p) (S (p+1)) b=true
 | [],e,σ,e',σ',h=>by
   cases h
   exact⟨fun _=>e,fun _=>σ,fun _=>.u,rfl,rfl,rfl,rfl,fun p a ag hp=>by simp at hp⟩
 | (a,ag) :: l,e,σ,e',σ',h=>by
   simp only [o7] at h
   split at h
   ·rename_i v σ1 hst
    split at h
    ·rename_i hag
     obtain⟨E,S,V,h1,h2,h3,h4,h5⟩:=BI l _ _ _ _ h
     refine⟨fun | 0=>e | p+1=>E p,fun | 0=>σ | p+1=>S p,fun | 0=>v | p+1=>V p,rfl,rfl,h3,h4,?_⟩
     intro p a' ag' hp
     cases p with
     | zero=>
       simp only [List.getElem?_cons_zero,Option.some.injEq,Prod.mk.injEq] at hp
       obtain⟨rfl,rfl⟩:=hp
       refine⟨by simpa [h2] using hst,h1,?_⟩
       intro b hb
       simp only [List.all_eq_true] at hag
       simpa [h2] using hag b hb
     | succ p=>
       exact h5 p a' ag' (by simpa using hp)
    ·cases h
   ·cases h
section
variable {X:Ctx} {G N:Nat} {ops:Array Oper} {T:List DI}
structure Runs (X:Ctx)(run:Run)(T:List DI)(m:Nat)(E:Nat→Env)(S:Nat→St)(V:Nat→AV):Prop where
 size:m≤T.length
 step:∀(p:Nat) (t:DI),p<m→T[p]? =some t→dK X run (E p) t.a (S p)=some (V p,S (p+1))
 env:∀(p:Nat) (t:DI),p<m→T[p]? =some t→E (p+1)=put t.a.d (V p) (E p)
 again:∀(p:Nat) (t:DI),p<m→T[p]? =some t→∀b∈t.again,lq X (E p) (S (p+1)) b=true
variable {run:Run} {m:Nat} {E:Nat→Env} {S:Nat→St} {V:Nat→AV}
theorem iT (hR:Runs X run T m E S V) {x:Nat} :∀(p q:Nat),q≤p→p≤m→(∀(r:Nat) (c:DI),q≤r→r<p→T[r]? =some c→c.a.d≠some x)→get (E p) x=get (E q) x
 | 0,q,hq,_,_=>by rw [show q=0 by omega]
 | p+1,q,hq,hp,h=>by
   by_cases lH:q=p+1
   ·rw [lH]
   ·have ht:T[p]? =some (T[p]'(by have:=hR.size;omega)):=List.getElem?_eq_getElem (by have:=hR.size;omega)
    rw [hR.env p _ (by omega) ht,dY (h p _ (by omega) (by omega) ht)]
    exact iT hR p q (by omega) (by omega) fun r c h1 h2 h3=>h r c h1 (by omega) h3
theorem yw (hT:Tab X.P G N ops T)(hR:Runs X run T m E S V) {x q p:Nat} {t:DI} (hq:T[q]? =some t)(hx:t.a.d=some x)(lH:q<p)(hp:p≤m):get (E p) x=V q:=by
 rw [iT hR p (q+1) (by omega) hp fun r c h1 h2 h3=>hT.dst q t r c (by omega) hq h3 x hx,hR.env q t (by omega) hq,hx,eU]
theorem gZ (hR:Runs X run T m E S V):∀(p q:Nat),q≤p→p≤m→(∀(r:Nat) (c:DI),q≤r→r<p→T[r]? =some c→c.a.op.pure=true)→S p=S q
 | 0,q,hq,_,_=>by rw [show q=0 by omega]
 | p+1,q,hq,hp,h=>by
   by_cases lH:q=p+1
   ·rw [lH]
   ·have ht:T[p]? =some (T[p]'(by have:=hR.size;omega)):=List.getElem?_eq_getElem (by have:=hR.size;omega)
    rw [jl (h p _ (by omega) (by omega) ht) (hR.step p _ (by omega) ht)]
    exact gZ hR p q (by omega) (by omega) fun r c h1 h2 h3=>h r c h1 (by omega) h3
def Closed (ops:Array Oper)(L:Nat→Prop):Prop:=∀i,L i→∀j∈dW ops i,L j
theorem yx (hT:Tab X.P G N ops T) {L:Nat→Prop} (hc:Closed ops L):∀(p:Nat) (t:DI),T[p]? =some t→(∀j∈dW ops t.i,L j)→∀j∈t.qN,L j:=by
 intro p
 induction p using Nat.strongRecOn with
 | _ p ih=>
   intro t ht hb j hj
   rcases hT.qN p t ht j hj with h | ⟨q,b,hq,IX,hbi,hjb⟩
   ·exact hb j h
   ·exact ih q hq b IX (hc _ (hb _ hbi)) j hjb
structure At (X:Ctx)(G N:Nat)(ops:Array Oper)(T:List DI)(m:Nat)(E:Nat→Env)(S:Nat→St)(V:Nat→AV)(L:Nat→Prop)(c:Nat)(ec:Env):Prop where
 closed:Closed ops L
 le:c≤m
 lt:∀(q:Nat) (t:DI),T[q]? =some t→L t.i→q<m
 cut:∀(q:Nat) (t:DI),T[q]? =some t→t.a.op.pure=false→(q<c↔L t.i)
 wrote:∀(q:Nat) (t:DI) (x:Nat),T[q]? =some t→L t.i→t.a.d=some x→get ec x=V q
 kept:∀(x:Nat),(∀(q:Nat) (t:DI),T[q]? =some t→L t.i→t.a.d≠some x)→get ec x=get (E 0) x
variable {L:Nat→Prop} {c:Nat} {ec:Env}
theorem pos_eq (hT:Tab X.P G N ops T) {p q:Nat} {t u:DI} (hp:T[p]? =some t)(hq:T[q]? =some u)(h:t.i=u.i):p=q:=by
 rcases Nat.lt_trichotomy p q with hl | hl | hl
 ·exact absurd h (hT.ne p t q u hl hp hq)
 ·exact hl
 ·exact absurd h.symm (hT.ne q u p t hl hq hp)
theorem yA (hT:Tab X.P G N ops T) {p q:Nat} {t u:DI} {x:Nat} (hp:T[p]? =some t)(hq:T[q]? =some u)(h:t.a.d=some x)(k:u.a.d=some x):p=q:=by
 rcases Nat.lt_trichotomy p q with hl | hl | hl
 ·exact absurd k (hT.dst p t q u hl hp hq x h)
 ·exact hl
 ·exact absurd h (hT.dst q u p t hl hq hp x k)
theorem At.agree (hT:Tab X.P G N ops T)(hR:Runs X run T m E S V)(h:At X G N ops T m E S V L c ec) {p:Nat} {t:DI} (hp:T[p]? =some t)(hlen:p≤m)(hn:¬L t.i)(hb:∀j∈dW ops t.i,L j) :
 ∀ x∈t.a.slots,get ec x=get (E p) x:=by
 intro x hx
 by_cases hw:∃(q:Nat) (u:DI),T[q]? =some u∧u.a.d=some x
 ·obtain⟨q,u,hq,hu⟩:=hw
  rcases Nat.lt_trichotomy q p with hl | hl | hl
  ·have hL:=yx hT h.closed p t hp hb _ (hT.raw q u p t hl hq hp x hu hx)
   rw [h.wrote q u x hq hL hu,yw hT hR hq hu hl (by omega)]
  ·subst hl
   rw [hp] at hq;cases hq
   rw [h.kept x fun r v hr hv hd=>by
        have hpr:=yA hT hp hr hu hd
        subst hpr
        rw [hp] at hr;cases hr
        exact hn hv]
   rw [iT hR q 0 (by omega) (by omega) fun r v _ h2 hr hd=>by have:=yA hT hp hr hu hd;omega]
  ·have hA:=hT.war p t q u hl hp hq x hu hx
   have hnu:¬L u.i:=fun hL=>hn (yx hT h.closed q u hq (h.closed _ hL) _ hA)
   rw [h.kept x fun r v hr hv hd=>by
        have:=yA hT hq hr hu hd
        subst this
        rw [hq] at hr;cases hr
        exact hnu hv]
   rw [iT hR p 0 (by omega) (by omega) fun r v _ h2 hr hd=>by have:=yA hT hq hr hu hd;omega]
 ·rw [h.kept x fun r v hr _ hd=>hw ⟨r,v,hr,hd⟩]
  rw [iT hR p 0 (by omega) (by omega) fun r v _ _ hr hd=>hw ⟨r,v,hr,hd⟩]
theorem BJ (T:List DI)(p:Nat):∀c:Nat,(∀(r:Nat) (v:DI),p≤r→r<c→T[r]? =some v→v.a.op.pure=true)∨
 ∃ (q:Nat) (u:DI),p≤q∧q<c∧T[q]? =some u∧u.a.op.pure=false∧∀(r:Nat) (v:DI),q<r→r<c→T[r]? =some v→v.a.op.pure=true
 | 0=>.inl fun r v _ h=>by omega
 | c+1=>by
   by_cases hc:∃u,T[c]? =some u∧u.a.op.pure=false∧p≤c
   ·obtain⟨u,hu,hpu,hpc⟩:=hc
    exact .inr ⟨c,u,hpc,by omega,hu,hpu,fun r v h1 h2=>by omega⟩
   ·have hc':∀(v:DI),p≤c→T[c]? =some v→v.a.op.pure=true:=fun v h1 h2=>by
     cases hh:v.a.op.pure with
     | true=>rfl
     | false=>exact absurd ⟨v,h2,hh,h1⟩ hc
    rcases BJ T p c with h | ⟨q,u,h1,h2,h3,h4,h5⟩
    ·refine .inl fun r v hr hrc hv=>?_
     by_cases hrc':r=c
     ·subst hrc';exact hc' v hr hv
     ·exact h r v hr (by omega) hv
    ·refine .inr ⟨q,u,h1,by omega,h3,h4,fun r v hr hrc hv=>?_⟩
     by_cases hrc':r=c
     ·subst hrc';exact hc' v (by omega) hv
     ·exact h5 r v hr (by omega) hv
theorem At.next (hT:Tab X.P G N ops T)(hR:Runs X run T m E S V)(h:At X G N ops T m E S V L c ec) {p:Nat} {t:DI} (hp:T[p]? =some t)(hlen:p<m)(hn:¬L t.i)(hb:∀j∈dW ops t.i,L j) {o:Oper} (ho:ops[t.i]? =some o) :
 ∃ run' a' c',(run'= run∨run'= fun _ _ _=>none)∧iR X.P G N ops o a'= true∧dK X run' ec a' (S c)=some (V p,S c')∧c'≤m∧
   ∀ (q:Nat) (u:DI),T[q]? =some u→u.a.op.pure=false→(q<c'↔L u.i∨q=p):=by
 have hok:iR X.P G N ops o t.a=true:=by
  obtain⟨o',ho',h'⟩:=hT.at' p t hp
  rw [ho] at ho';cases ho';exact h'
 have hag:=h.agree hT hR hp (Nat.le_of_lt hlen) hn hb
 have D5:=yx hT h.closed p t hp hb
 have hst:=hR.step p t hlen hp
 have wX:t.a.op.still=false→c≤p→S p=S c:=fun hs hcp=>gZ hR p c hcp (by omega) fun r u h1 h2 hr=>by
  cases hpu:u.a.op.pure with
  | true=>rfl
  | false=>
    have hL:=D5 _ (hT.eff r u p t h2 hr hp hpu hs)
    have:=(h.cut r u hr hpu).2 hL
    omega
 cases hpure:t.a.op.pure with
 | false=>
   have hs:t.a.op.still=false:=by
    cases hh:t.a.op.still with
    | false=>rfl
    | true=>rw [lF hh] at hpure;cases hpure
   have hcp:c≤p:=by
    apply Nat.le_of_not_lt
    intro hlt
    exact hn ((h.cut p t hp hpure).1 hlt)
   refine⟨run,t.a,p+1,.inl rfl,hok,?_,by omega,?_⟩
   ·rw [f_ hag,←wX hs hcp];exact hst
   ·intro q u hq hpu
    constructor
    ·intro hlt
     by_cases lH:q=p
     ·exact .inr lH
     ·exact .inl (D5 _ (hT.eff q u p t (by omega) hq hp hpu hs))
    ·intro hL
     rcases hL with hL | hL
     ·apply Nat.lt_of_not_le
      intro hle
      have hA:=hT.eff p t q u (by omega) hp hq hpure (by
       cases hh:u.a.op.still with
       | false=>rfl
       | true=>rw [lF hh] at hpu;cases hpu)
      exact hn (yx hT h.closed q u hq (h.closed _ hL) _ hA)
     ·omega
 | true=>
   have hcut:∀(q:Nat) (u:DI),T[q]? =some u→u.a.op.pure=false→(q<c↔L u.i∨q=p):=by
    intro q u hq hpu
    rw [h.cut q u hq hpu]
    constructor
    ·exact .inl
    ·rintro (h | h)
     ·exact h
     ·subst h;rw [hp] at hq;cases hq;rw [hpure] at hpu;cases hpu
   cases hs:t.a.op.still with
   | true=>exact⟨run,t.a,c,.inl rfl,hok,by rw [f_ hag];exact zy hs hst _,h.le,hcut⟩
   | false=>
     have hSp:S (p+1)=S p:=jl hpure hst
     by_cases hcp:c≤p
     ·refine⟨run,t.a,c,.inl rfl,hok,?_,h.le,hcut⟩
      rw [f_ hag,←wX hs hcp,hst,hSp]
     ·
        rcases BJ T p c with hex | ⟨q,u,h1,h2,hq,hpu,hlast⟩
        rotate_left
        ·skip
         have lH:p<q:=by
          rcases Nat.lt_or_ge p q with hl | hl
          ·exact hl
          ·have:q=p:=by omega
           subst this;rw [hp] at hq;cases hq;rw [hpure] at hpu;cases hpu
         have hLu:=(h.cut q u hq hpu).1 h2
         have hnA:t.i∉u.qN:=fun hA=>hn (yx hT h.closed q u hq (h.closed _ hLu) _ hA)
         obtain⟨b',hb',⟨o',ho',hok'⟩,hbp,hsl⟩:=hT.again p t q u lH hp hq hpu hpure hs hnA
         rw [ho] at ho';cases ho'
         have hqm:q<m:=Nat.lt_of_lt_of_le h2 h.le
         have FY:=hR.again q u hqm hq b' hb'
         have hSc:S c=S (q+1):=gZ hR c (q+1) (by omega) h.le fun r v h3 h4 hr=>hlast r v (by omega) h4 hr
         have hd:b'.d=t.a.d:=by
          simp only [iR,Bool.and_eq_true,beq_iff_eq] at hok hok'
          rw [←hok.1.1.1,←hok'.1.1.1]
         refine⟨fun _ _ _=>none,b',c,.inr rfl,hok',?_,h.le,hcut⟩
         unfold lq at FY
         split at FY
         ·rename_i d v σ1 hbd hstep
          have hv:=AV.oW _ _ FY
          have hσ1:=jl hbp hstep
          subst hσ1
          rw [hd] at hbd
          rw [yw hT hR hp hbd lH (by omega)] at hv
          rw [hSc,f_ (e':=E q),hstep,hv]
          intro x hx
          rw [hag x (hsl x hx).1]
          rw [iT hR q p (by omega) (by omega) fun r v h3 h4 hr=>(hsl x hx).2 r v h3 h4 hr]
         ·cases FY
        ·have hSc:S c=S p:=gZ hR c p (by omega) h.le hex
         refine⟨run,t.a,c,.inl rfl,hok,?_,h.le,hcut⟩
         rw [f_ hag,hSc,hst,hSp]
theorem iD {listed:Array Bool} {i:Nat} (h:i<listed.size):listed.getD i true=listed.getD i false:=by
 rw [Array.getD_eq_getD_getElem?,Array.getD_eq_getD_getElem?,Array.getElem?_eq_getElem h];rfl
theorem kG {i j:Nat} {o:Oper} (ho:ops[i]? =some o):j∈dW ops i↔∃e∈o.after,Region.binds .any e=true∧e.on=j:=by
 unfold dW
 rw [ho]
 simp only [List.mem_map,List.mem_filter,Array.mem_toList_iff]
 constructor
 ·rintro ⟨e,⟨h1,h2⟩,h3⟩;exact⟨e,h1,h2,h3⟩
 ·rintro ⟨e,h1,h2,h3⟩;exact⟨e,⟨h1,h2⟩,h3⟩
def FZ (n:Nat)(listed:Array Bool):List Nat:=(List.range n).filter fun i=>!listed.getD i false
theorem Ah {n i:Nat} {listed:Array Bool} (hi:i<n)(hs:listed.size=n)(hl:listed.getD i false=false):(FZ n (listed.setIfInBounds i true)).length<(FZ n listed).length:=by
 have he:FZ n (listed.setIfInBounds i true)=(FZ n listed).filter (fun j=>j != i):=by
  unfold FZ
  rw [List.filter_filter]
  apply List.filter_congr
  intro j hj
  by_cases hji:i=j
  ·subst hji
   simp [Array.getElem?_setIfInBounds,hs,hi]
  ·rw [getD_set_ne false hji]
   simp [Ne.symm hji]
 rw [he,List.length_filter_lt_length_iff_exists]
 refine⟨i,?_,by simp⟩
 unfold FZ
 rw [List.mem_filter]
 exact⟨List.mem_range.2 hi,by rw [hl];rfl⟩
theorem any_rel {ds:List Deferred} (hX:X.Ok G)(hrun:nJ X.P G run)(hT:Tab X.P G N ops T)(hR:Runs X run T T.length E S V) {Q:Exit→Act→World→Prop} {qF:Mu} {iZ:St} {w0:World}
 (hQ:∀act' w',sG ds G N qF iZ w0 (E T.length) (S T.length) act' w'→Q .normal act' w') :
 ∀ (fuel:Nat) (listed:Array Bool) (c:Nat) (ec:Env) (act:Act) (w:World) (μ:Mu),(FZ ops.size listed).length≤fuel→listed.size=ops.size→(∀i,listed.getD i false=true→i<ops.size)→
   At X G N ops T T.length E S V (fun i=>listed.getD i false=true) c ec→Step G qF iZ w0 μ (S c) w→dw G N μ w ec act.tmps→act.defers=ds→
   wpAny X.P .any ops Q fuel listed act w:=by
 have hdone:∀(listed:Array Bool) (c:Nat) (ec:Env) (act:Act) (w:World) (μ:Mu),listed.size=ops.size→
  At X G N ops T T.length E S V (fun i=>listed.getD i false=true) c ec→Step G qF iZ w0 μ (S c) w→dw G N μ w ec act.tmps→act.defers=ds→Region.ready .any ops listed=[]→Q .normal act w:=by
  intro listed c ec act w μ hsz hat hst hen hdf hr
  have hall:∀(p:Nat) (t:DI),T[p]? =some t→listed.getD t.i false=true:=by
   intro p
   induction p using Nat.strongRecOn with
   | _ p ih=>
     intro t ht
     cases hl:listed.getD t.i false with
     | true=>rfl
     | false=>
       exfalso
       obtain⟨o,ho,hok⟩:=hT.at' p t ht
       have hlt:t.i<ops.size:=(Array.getElem?_eq_some_iff.1 ho).1
       have:t.i∈Region.ready .any ops listed:=by
         rw [mem_ready]
         refine⟨by rw [iD (by omega)];exact hl,o,ho,fun e he hb=>?_⟩
         obtain⟨q,b,hq,IX,hbi⟩:=hT.edge p t ht e.on ((kG ho).2 ⟨e,he,hb,rfl⟩)
         rw [←hbi];exact ih q hq b IX
       rw [hr] at this;cases this
  refine hQ _ _ ⟨μ,?_,⟨hen.size,fun x=>?_⟩,hdf⟩
  ·have:S T.length=S c:=gZ hR _ c hat.le (Nat.le_refl _) fun r v h1 h2 hv=>by
        cases hh:v.a.op.pure with
        | true=>rfl
        | false=>have:=(hat.cut r v hv hh).2 (hall r v hv);omega
   rw [this];exact hst
  ·have hx:get ec x=get (E T.length) x:=by
        by_cases hw:∃(q:Nat) (u:DI),T[q]? =some u∧u.a.d=some x
        ·obtain⟨q,u,hq,hu⟩:=hw
         rw [hat.wrote q u x hq (hall q u hq) hu,yw hT hR hq hu (cZ hq) (Nat.le_refl _)]
        ·rw [hat.kept x fun r v hr _ hd=>hw ⟨r,v,hr,hd⟩]
         rw [iT hR T.length 0 (by omega) (by omega) fun r v _ _ hr hd=>hw ⟨r,v,hr,hd⟩]
   rw [←hx];exact hen.rel x
 intro fuel
 induction fuel with
 | zero=>
   intro listed c ec act w μ hfu hsz hlt hat hst hen hdf
   have hr:Region.ready .any ops listed=[]:=by
    apply List.eq_nil_iff_forall_not_mem.2
    intro i hi
    obtain⟨h0,o,ho,_⟩:=mem_ready.1 hi
    have hil:i<ops.size:=(Array.getElem?_eq_some_iff.1 ho).1
    rw [iD (by omega)] at h0
    have:i∈FZ ops.size listed:=List.mem_filter.2 ⟨List.mem_range.2 hil,by rw [h0];rfl⟩
    have:=List.length_pos_of_mem this
    omega
   exact⟨hr,hdone listed c ec act w μ hsz hat hst hen hdf hr⟩
 | succ fuel ih=>
   intro listed c ec act w μ hfu hsz hlt hat hst hen hdf
   refine⟨hdone listed c ec act w μ hsz hat hst hen hdf,fun i hi=>?_⟩
   obtain⟨h0,o,ho,hbind⟩:=mem_ready.1 hi
   have hil:i<ops.size:=(Array.getElem?_eq_some_iff.1 ho).1
   rw [iD (by omega)] at h0
   obtain⟨p,t,hp,hti⟩:=hT.all i hil
   subst hti
   have hb:∀j∈dW ops t.i,listed.getD j false=true:=fun j hj=>by
    obtain⟨e,he,hbe,rfl⟩:=(kG ho).1 hj
    exact hbind e he hbe
   have hn:¬listed.getD t.i false=true:=by rw [h0];simp
   obtain⟨run',a',c',hrun',hok',hstep,hle',hcut'⟩:=hat.next hT hR hp (cZ hp) hn hb ho
   have hro:nJ X.P G run':=by
    rcases hrun' with rfl | rfl
    ·exact hrun
    ·intro f args σ r σ' h;cases h
   unfold wpOp
   rw [ho]
   refine kR (ops:=ops) hX hro hst.pJ hen hok' hstep fun v w' μ' hv hs'=>?_
   have hka:=hok'
   simp only [iR,Bool.and_eq_true,beq_iff_eq] at hka
   have hdt:t.a.d=o.dst:=by
    obtain⟨o',ho',h'⟩:=hT.at' p t hp
    rw [ho] at ho';cases ho'
    simp only [iR,Bool.and_eq_true,beq_iff_eq] at h'
    exact h'.1.1.1.symm
   have hget:∀j,(listed.setIfInBounds t.i true).getD j false=true↔listed.getD j false=true∨j=t.i:=by
    intro j
    by_cases hj:t.i=j
    ·subst hj;simp [Array.getElem?_setIfInBounds,hsz,hil]
    ·rw [getD_set_ne false hj];simp [Ne.symm hj]
   refine ih _ c' (put o.dst (V p) ec) _ w' μ' ?_ (by simpa using hsz) ?_ ⟨?_,hle',fun q u hq _=>cZ hq,?_,?_,?_⟩ (hst.trans hs') ?_ (by rw [dL];exact hdf)
   ·have:=Ah (n:=ops.size) hil hsz h0
    omega
   ·intro j hj
    rcases (hget j).1 hj with h | h
    ·exact hlt j h
    ·rw [h];exact hil
   ·intro j hj k hk
    rw [hget] at hj ⊢
    rcases hj with hj | hj
    ·exact .inl (hat.closed j hj k hk)
    ·rw [hj] at hk;exact .inl (hb k hk)
   ·intro q u hq hpu
    rw [hcut' q u hq hpu,hget]
    constructor
    ·rintro (h | h)
     ·exact .inl h
     ·subst h;rw [hp] at hq;cases hq;exact .inr rfl
    ·rintro (h | h)
     ·exact .inl h
     ·exact .inr (pos_eq hT hq hp h)
   ·intro q u x hq hu hx
    rw [hget] at hu
    by_cases lH:q=p
    ·subst lH;rw [hp] at hq;cases hq
     rw [←hdt,hx,eU]
    ·rw [dY fun hd=>lH (yA hT hq hp hx (by rw [hdt];exact hd))]
     rcases hu with hu | hu
     ·exact hat.wrote q u x hq hu hx
     ·exact absurd (pos_eq hT hq hp hu) lH
   ·intro x hx
    rw [dY fun hd=>hx p t hp ((hget _).2 (.inr rfl)) (by rw [hdt];exact hd)]
    exact hat.kept x fun q u hq hu=>hx q u hq ((hget _).2 (.inl hu))
   ·have he':=hen.mono hs'.ext hs'.kY
    have hN:rD N o.dst=true:=by rw [hka.1.1.1];exact hka.1.1.2
    exact he'.put hN hv
end
end Go.dX
namespace Go.dX
structure Bx where
 i:Nat
 j:Nat
 d:Nat
 t:Nat
 y:bT
def Bx.ais (b:Bx):List AI:=[⟨some b.d,none,.alloc b.t⟩,⟨none,none,.store b.t (.t b.d) b.y⟩]
def isAl (a:AI):Bool:=match a.op with
 | .alloc _=>true
 | _=>false
def atOp (P:Program)(G N:Nat)(ops:Array Oper)(a:AI):Nat:=((List.range ops.size).find? fun i=>match ops[i]? with
 | some o=>iR P G N ops o a
 | none=>false).getD ops.size
def bxOf (P:Program)(G N:Nat)(ops:Array Oper)(a c:AI):Bx:=match a.d,a.op,c.op with
 | some d,.alloc t,.store _ _ y=>⟨atOp P G N ops a,atOp P G N ops c,d,t,y⟩
 | _,_,_=>⟨0,0,0,0,.c .u⟩
def Ny (P:Program)(G N:Nat)(ops:Array Oper):List AI→List Bx
 | a :: c :: r=>bxOf P G N ops a c :: Ny P G N ops r
 | _=>[]
def Rk (P:Program)(G N:Nat)(ops:Array Oper)(l:List AI):List (Nat×AI):=l.map fun a=>(atOp P G N ops a,a)
def qO (l:List AI):List AI:=l.takeWhile fun a=>!isAl a
def yB (l:List AI):List AI:=l.dropWhile fun a=>!isAl a
def AI.eqB (a b:AI):Bool:=a.d == b.d && a.gd == b.gd && (match a.op,b.op with
 | .alloc t,.alloc t'=>t == t'
 | .store t x y,.store t' x' y'=>t == t' && (match x,x' with | .t n,.t n'=>n == n' | _,_=>false) && (match y,y' with | .t n,.t n'=>n == n' | .c v,.c v'=>AV.eqv v v' | _,_=>false)
 | _,_=>false)
theorem AI.eqB_eq {a b:AI} (h:a.eqB b=true):a=b:=by
 obtain⟨d,g,op⟩:=a
 obtain⟨d',g',op'⟩:=b
 simp only [AI.eqB,Bool.and_eq_true,beq_iff_eq] at h
 obtain⟨⟨rfl,rfl⟩,h⟩:=h
 split at h
 ·simp only [beq_iff_eq] at h;subst h;rfl
 ·rename_i t x y t' x' y' h1 h2
  simp only [Bool.and_eq_true,beq_iff_eq] at h
  obtain⟨⟨rfl,h3⟩,h4⟩:=h
  split at h3
  ·simp only [beq_iff_eq] at h3;subst h3
   split at h4
   ·simp only [beq_iff_eq] at h4;subst h4;rfl
   ·rw [AV.oW _ _ h4]
   ·cases h4
  ·cases h3
 ·cases h
def Nz:List AI→List AI→Bool
 | [],[]=>true
 | a :: r,b :: s=>a.eqB b && Nz r s
 | _,_=>false
theorem IY:∀{a b:List AI},Nz a b=true→a=b
 | [],[],_=>rfl
 | [],_ :: _,h=>by cases h
 | _ :: _,[],h=>by cases h
 | a :: r,b :: s,h=>by
   simp only [Nz,Bool.and_eq_true] at h
   rw [AI.eqB_eq h.1,IY h.2]
def jr {α:Type} (f:α→α→Bool):List α→Bool
 | []=>true
 | a :: r=>r.all (f a) && jr f r
theorem sN {α:Type} {f:α→α→Bool} :∀{l:List α},jr f l=true→∀{p q:Nat} {a b:α},p<q→l[p]? =some a→l[q]? =some b→f a b=true
 | [],_,_,_,_,_,_,h,_=>by cases h
 | c :: r,h,0,q+1,a,b,_,ha,hb=>by
   cases ha
   simp only [jr,Bool.and_eq_true,List.all_eq_true] at h
   exact h.1 _ (List.mem_of_getElem? hb)
 | c :: r,h,p+1,q+1,a,b,hl,ha,hb=>by
   simp only [jr,Bool.and_eq_true] at h
   exact sN h.2 (Nat.lt_of_succ_lt_succ hl) ha hb
def BK (N:Nat)(ops:Array Oper)(A:List (Nat×AI))(B:List Bx)(k n x:Nat):Bool:=
 decide (x<N) && ((A.all (fun q=>q.2.d != some x) && B.all fun b=>b.d != x) || (A.take n).any fun q=>q.2.d == some x && (dW ops k).contains q.1)
def okA (P:Program)(G N:Nat)(ops:Array Oper)(A:List (Nat×AI))(B:List Bx)(p:Nat):Bool:=match A[p]? with
 | some q=>FX P G N ops q.1 q.2 && q.2.op.exact && q.2.slots.all (BK N ops A B q.1 p)
 | none=>true
def zT (f:Bool)(A:List (Nat×AI))(B:List Bx):List Nat:=A.map (·.1) ++ (match f with
 | true=>B.flatMap fun b=>[b.i,b.j]
 | false=>B.map (·.i) ++ B.map (·.j))
theorem sO {f:Bool} {A:List (Nat×AI)} {B:List Bx} {k:Nat} :k∈zT f A B↔(∃q∈A,q.1=k)∨∃b∈B,b.i=k∨b.j=k:=by
 cases f
 ·simp only [zT,List.mem_append,List.mem_map]
  constructor
  ·rintro (h | ⟨b,hb,rfl⟩ | ⟨b,hb,rfl⟩)
   ·exact .inl h
   ·exact .inr ⟨b,hb,.inl rfl⟩
   ·exact .inr ⟨b,hb,.inr rfl⟩
  ·rintro (h | ⟨b,hb,rfl | rfl⟩)
   ·exact .inl h
   ·exact .inr (.inl ⟨b,hb,rfl⟩)
   ·exact .inr (.inr ⟨b,hb,rfl⟩)
 ·simp only [zT,List.mem_append,List.mem_map,List.mem_flatMap,List.mem_cons,List.not_mem_nil,or_false]
  constructor
  ·rintro (h | ⟨b,hb,rfl | rfl⟩)
   ·exact .inl h
   ·exact .inr ⟨b,hb,.inl rfl⟩
   ·exact .inr ⟨b,hb,.inr rfl⟩
  ·rintro (h | ⟨b,hb,rfl | rfl⟩)
   ·exact .inl h
   ·exact .inr ⟨b,hb,.inl rfl⟩
   ·exact .inr ⟨b,hb,.inr rfl⟩
def EK (f:Bool)(P:Program)(G N:Nat)(ops:Array Oper)(l:List AI)(A:List (Nat×AI))(B:List Bx):Bool:=
 Nz (yB l) (B.flatMap Bx.ais) &&
 jr (fun q q'=>q.1 != q'.1 && (q.2.d == none || q.2.d != q'.2.d)) A &&
 jr (fun b b'=>b.i != b'.i && b.i != b'.j && b.j != b'.i && b.j != b'.j && b.d != b'.d) B &&
 A.all (fun q=>B.all fun b=>q.1 != b.i && q.1 != b.j && q.2.d != some b.d) &&
 (List.range ops.size).all (fun i=>(zT f A B).contains i) &&
 (List.range (zT f A B).length).all (fun p=>(dW ops ((zT f A B).getD p 0)).all fun k=>((zT f A B).take p).contains k) &&
 (List.range A.length).all (okA P G N ops A B) &&
 B.all fun b=>FX P G N ops b.i ⟨some b.d,none,.alloc b.t⟩ && FX P G N ops b.j ⟨none,none,.store b.t (.t b.d) b.y⟩ && b.i != b.j && (dW ops b.j).contains b.i && b.y.sl.all (BK N ops A B b.j A.length)
def Rl (P:Program)(G N:Nat)(ops:Array Oper)(l:List AI):Bool:=
 EK true P G N ops l (Rk P G N ops (qO l)) (Ny P G N ops (yB l)) || EK false P G N ops l (Rk P G N ops (qO l)) (Ny P G N ops (yB l))
section
variable {P:Program} {G N:Nat} {μ:Mu} {σ:St} {w:World} {ops:Array Oper}
theorem Step.place (h:gQ G μ σ w) {k e:Nat} {cs:List AV} {dZ:Array Value} (hk:σ[k]? =some ⟨0,false,.dead⟩)(hG:G≤k)(hn:μ k 0=none)(hr:aY μ w cs dZ.toList) :
 Step G μ σ w (μ.upd k 0 (w.heap.size,0)) (σ.set k ⟨0,false,.cells e cs⟩) { w with heap:=w.heap.push (.cells dZ e) } :=by
 have hlt:k<σ.length:=cZ hk
 have hle:=Mu.o8 (x:=(w.heap.size,0)) hn
 have hw:=jH.push w (.cells dZ e)
 have hold:∀b,b<w.heap.size→({ w with heap:=w.heap.push (.cells dZ e) } :World).heap[b]? =w.heap[b]? :=fun b hb=>by
  show (w.heap.push _)[b]? =_
  rw [Array.getElem?_push,if_neg (by omega)]
 have hnew:({ w with heap:=w.heap.push (.cells dZ e) } :World).heap[w.heap.size]? =some (.cells dZ e):=by
  show (w.heap.push _)[w.heap.size]? =_
  simp
 have hsz:({ w with heap:=w.heap.push (.cells dZ e) } :World).heap.size=w.heap.size+1:=by simp
 have hcase:∀(o:Nat) a',(σ.set k ⟨0,false,.cells e cs⟩)[o]? =some a'→(σ[o]? =some a'∧o≠k)∨(o=k∧a'= ⟨0,false,.cells e cs⟩):=by
  intro o a' ho
  rw [List.getElem?_set] at ho
  split at ho
  ·rename_i hko;subst hko
   try rw [if_pos hlt] at ho
   cases ho
   exact .inr ⟨rfl,rfl⟩
  ·rename_i hko;exact .inl ⟨ho,fun h=>hko h.symm⟩
 have hlen:=hr.length
 simp only [Array.length_toList] at hlen
 refine⟨⟨?_,?_,?_,?_,?_,?_,?_⟩,hle,hw,rfl,rfl,rfl,by omega,fun b hb _=>hold b hb,?_,?_⟩
 ·intro o a' ho hl'
  rcases hcase o a' ho with ⟨ho',hne⟩ | ⟨rfl,rfl⟩
  ·obtain⟨b,δ,h1,h2⟩:=h.obj o a' ho' hl'
   exact⟨b,δ,hle _ _ _ h1,rV.mono hle hw (hold b (h.blk _ _ _ _ h1)) h2⟩
  ·refine⟨w.heap.size,0,Mu.bY _ _ _ _,dZ,(0,0),hnew,by omega,fun j c hj=>?_,fun _ j _ hj=>by omega⟩
   obtain⟨v,r1,r2⟩:=hr.get j c hj
   exact⟨v,by rw [Nat.zero_add];simpa using r1,aV.mono hle hw c v r2⟩
 ·intro o o' a1 a2 b δ yZ ho ho' hro hl1 hl2 hb1 hb2
  rcases hcase o a1 ho with ⟨ho1,hne⟩ | ⟨rfl,rfl⟩ <;> rcases hcase o' a2 ho' with ⟨ho2,hne'⟩ | ⟨rfl,rfl⟩
  ·rw [Mu.upd_ne (by simp [hne])] at hb1
   rw [Mu.upd_ne (by simp [hne'])] at hb2
   exact h.inj o o' a1 a2 b δ yZ ho1 ho2 hro hl1 hl2 hb1 hb2
  ·rw [Mu.upd_ne (by simp [hne])] at hb1
   rw [Mu.bY] at hb2
   cases hb2
   have:=h.blk _ _ _ _ hb1
   omega
  ·rw [Mu.upd_ne (by simp [hne'])] at hb2
   rw [Mu.bY] at hb1
   cases hb1
   have:=h.blk _ _ _ _ hb2
   omega
  ·rfl
 ·intro o g y hy
  by_cases he:o=k∧g=0
  ·exact⟨⟨0,false,.cells e cs⟩,by rw [he.1,List.getElem?_set_self hlt],by rw [he.2];exact Nat.zero_le _⟩
  ·rw [Mu.upd_ne he] at hy
   obtain⟨a',ha,hle'⟩:=h.dom _ _ _ hy
   by_cases hok:o=k
   ·subst hok
    rw [hk] at ha;cases ha
    exact absurd ⟨rfl,Nat.le_zero.1 hle'⟩ he
   ·exact⟨a',by rw [List.getElem?_set_ne (Ne.symm hok)];exact ha,hle'⟩
 ·intro o g b δ hy
  by_cases he:o=k∧g=0
  ·rw [he.1,he.2,Mu.bY] at hy;cases hy;omega
  ·rw [Mu.upd_ne he] at hy;have:=h.blk _ _ _ _ hy;omega
 ·intro g hg'
  exact hle _ _ _ (h.qI g hg')
 ·intro o b δ hy
  by_cases he:o=k∧(0:Nat)=0
  ·rw [he.1,Mu.bY] at hy;cases hy;rfl
  ·rw [Mu.upd_ne he] at hy;exact h.low _ _ _ hy
 ·intro g e' cs' hg ho
  rcases hcase g _ ho with ⟨ho',_⟩ | ⟨rfl,_⟩
  ·exact hw _ _ _ (h.full g e' cs' hg ho')
  ·omega
 ·intro o a' b δ ho hro hl' hb hlt'
  rcases hcase o a' ho with ⟨ho',hne⟩ | ⟨rfl,rfl⟩
  ·rw [Mu.upd_ne (by simp [hne])] at hb
   exact⟨o,a',δ,ho',hro,hl',hb⟩
  ·rw [Mu.bY] at hb;cases hb;omega
 ·intro o a' b δ ho hl' hb hlt'
  rcases hcase o a' ho with ⟨ho',hne⟩ | ⟨rfl,rfl⟩
  ·rw [Mu.upd_ne (by simp [hne])] at hb
   exact⟨o,a',δ,ho',hl',hb⟩
  ·rw [Mu.bY] at hb;cases hb;omega
theorem Step.deads (h:gQ G μ σ w)(n:Nat):Step G μ σ w μ (σ ++ List.replicate n ⟨0,false,.dead⟩) w:=by
 have hcase:∀(o:Nat) a',(σ ++ List.replicate n (⟨0,false,.dead⟩:AO))[o]? =some a'→σ[o]? =some a'∨a'= ⟨0,false,.dead⟩:=by
  intro o a' ho
  rw [List.getElem?_append] at ho
  split at ho
  ·exact .inl ho
  ·rw [List.getElem?_replicate] at ho
   split at ho
   ·cases ho;exact .inr rfl
   ·cases ho
 refine⟨⟨?_,?_,?_,h.blk,h.qI,h.low,?_⟩,Mu.le_refl μ,jH.refl w,rfl,rfl,rfl,Nat.le_refl _,fun _ _ _=>rfl,?_,?_⟩
 ·intro o a' ho hl
  rcases hcase o a' ho with ho | rfl
  ·exact h.obj o a' ho hl
  ·cases hl
 ·intro o o' a1 a2 b δ yZ ho ho' hro hl1 hl2 hb1 hb2
  rcases hcase o a1 ho with ho1 | rfl
  ·rcases hcase o' a2 ho' with ho2 | rfl
   ·exact h.inj o o' a1 a2 b δ yZ ho1 ho2 hro hl1 hl2 hb1 hb2
   ·cases hl2
  ·cases hl1
 ·intro o g y hy
  obtain⟨a',ha,hle'⟩:=h.dom _ _ _ hy
  exact⟨a',by rw [List.getElem?_append_left (cZ ha)];exact ha,hle'⟩
 ·intro g e cs hg ho
  rcases hcase g _ ho with ho | ho
  ·exact h.full g e cs hg ho
  ·cases ho
 ·intro o a' b δ ho hro hl hb _
  rcases hcase o a' ho with ho | rfl
  ·exact⟨o,a',δ,ho,hro,hl,hb⟩
  ·cases hl
 ·intro o a' b δ ho hl hb _
  rcases hcase o a' ho with ho | rfl
  ·exact⟨o,a',δ,ho,hl,hb⟩
  ·cases hl
theorem gQ.above (h:gQ G μ σ w) {o g:Nat} (ho:σ.length≤o):μ o g=none:=by
 cases hq:μ o g with
 | none=>rfl
 | some y=>obtain⟨a,ha,_⟩:=h.dom _ _ _ hq;have:=cZ ha;omega
theorem gQ.G_le (h:gQ G μ σ w):G≤σ.length:=by
 rcases Nat.lt_or_ge σ.length G with hl | hl
 ·have:=h.qI _ hl
  rw [h.above (Nat.le_refl _)] at this;cases this
 ·exact hl
theorem zA {o g:Nat} {cs:List AV} (τ:St)(h:jh σ o g=some cs):jh (σ ++ τ) o g=some cs:=by
 unfold jh at h ⊢
 cases ho:σ[o]? with
 | none=>rw [ho] at h;cases h
 | some a=>rw [List.getElem?_append_left (cZ ho),ho];rw [ho] at h;exact h
theorem BL {x:AV} {es:List (AV×AV)} (τ:St)(h:oZ σ x=some es):oZ (σ ++ τ) x=some es:=by
 unfold oZ at h ⊢
 split at h
 ·exact h
 ·rename_i o g
  cases ho:σ[o]? with
  | none=>rw [ho] at h;cases h
  | some a=>rw [List.getElem?_append_left (cZ ho),ho];rw [ho] at h;exact h
 ·cases h
theorem O1 {T:Option AT} {x v:AV} (τ:St)(h:lY T x σ=some v):lY T x (σ ++ τ)=some v:=by
 unfold lY at h ⊢
 split at h
 ·rw [Option.bind_eq_some_iff] at h
  obtain⟨cs,h1,h2⟩:=h
  simp only [zA τ h1,Option.bind_some];exact h2
 ·cases h
theorem Ro {t:Nat} {x v:AV} {lo hi:Option AV} (τ:St)(h:zO P t x lo hi σ=some v):zO P t x lo hi (σ ++ τ)=some v:=by
 unfold zO at h ⊢
 split at h
 ·cases h
 ·rename_i T hT
  split at h
  ·exact h
  ·exact h
  ·exact h
  ·rename_i n e o g off hd
   split at h
   ·rename_i hz
    rw [if_pos hz]
    rw [Option.bind_eq_some_iff] at h
    obtain⟨cs,h1,h2⟩:=h
    simp only [zA τ h1,Option.bind_some];exact h2
   ·cases h
  ·cases h
theorem Rq {t:Nat} {x k v:AV} {ok:Bool} (τ:St)(h:AP P t x k ok σ=some v):AP P t x k ok (σ ++ τ)=some v:=by
 unfold AP at h ⊢
 split at h
 ·rename_i kt et _ _ _ _ _ _ hT
  split at h
  ·rename_i es E h1 h2
   simp only [BL τ h1,h2];exact h
  ·cases h
 ·cases h
theorem Rt {t:Nat} {x v:AV} (τ:St)(h:FI P t x σ=some v):FI P t x (σ ++ τ)=some v:=by
 unfold FI at h ⊢
 split at h
 ·rw [Option.map_eq_some_iff] at h
  obtain⟨es,h1,h2⟩:=h
  simp only [BL τ h1,Option.map_some,h2]
 ·cases h
theorem NC {ρ:bT→AV} {op:dM} {v:AV} {σ1:St} (τ:St)(hx:op.exact=true)(h:eY P ρ op σ=some (v,σ1)):eY P ρ op (σ ++ τ)=some (v,σ ++ τ):=by
 by_cases hs:op.still=true
 ·exact uD hs h _
 ·cases op <;> simp only [dM.exact,dM.pure,dM.still,Bool.false_eq_true,not_true_eq_false,not_false_eq_true] at hx hs <;> simp only [eY] at h ⊢ <;> rw [Option.map_eq_some_iff] at h <;> obtain⟨q,hq,h⟩:=h <;> cases h
  ·rw [O1 τ hq];rfl
  ·rw [Ro τ hq];rfl
  ·rw [Rq τ hq];rfl
  ·rw [Rt τ hq];rfl
theorem O3 {X:Ctx} {run:Run} {e:Env} {a:AI} {v:AV} {σ1:St} (τ:St)(hx:a.op.exact=true)(h:dK X run e a σ=some (v,σ1)):dK X run e a (σ ++ τ)=some (v,σ ++ τ):=by
 have hp:=qM hx
 unfold dK at h ⊢
 split at h
 ·rename_i hg
  rw [lD hp] at h ⊢
  exact NC τ hx h
 ·rename_i g hg
  split at h
  ·cases h
  ·rename_i c hc
   simp only [hp,if_true] at h ⊢
   rw [Option.map_eq_some_iff] at h
   obtain⟨q,hq,h⟩:=h;cases h
   rw [Option.map_eq_some_iff]
   refine⟨v,?_,rfl⟩
   cases c with
   | false=>exact hq
   | true=>
     have h0:ji X.P e a.op σ=some v:=hq
     show ji X.P e a.op (σ ++ τ)=some v
     by_cases hpk:∃q x y,a.op= .pick q x y
     ·obtain⟨q,x,y,hpk⟩:=hpk
      rw [hpk] at h0 ⊢;exact h0
     have e1:∀σ',ji X.P e a.op σ'= pW true (a.op.bK.all (fun o=>nC true (o.ev e).cnd)) (eY X.P (fun o=>(o.ev e).val) a.op σ'):=by
      intro σ'
      generalize a.op=op at hpk ⊢
      cases op <;> first | rfl | exact absurd ⟨_,_,_,rfl⟩ hpk
     rw [e1] at h0 ⊢
     cases ho:eY X.P (fun o=>(o.ev e).val) a.op σ with
     | none=>rw [ho] at h0;cases h0
     | some r=>
       obtain⟨r1,r2⟩:=r
       rw [ho] at h0
       rw [NC τ hx ho]
       exact h0
end
end Go.dX
namespace Go.dX
section
variable {X:Ctx} {run:Run}
theorem IZ:∀(l m:List AI) (e:Env) (σ:St),jG X run (l ++ m) e σ=(jG X run l e σ).bind fun r=>jG X run m r.1 r.2
 | [],_,_,_=>rfl
 | a :: l,m,e,σ=>by
   simp only [List.cons_append,jG]
   cases dK X run e a σ with
   | none=>rfl
   | some r=>exact IZ l m _ _
theorem recA {σ:St} :∀(l:List AI) (e eP:Env) (QE:St),(∀a∈l,a.op.pure=true)→jG X run l e σ=some (eP,QE)→QE=σ∧(∀x,(∀a∈l,a.d≠some x)→get eP x=get e x)∧
 ∀ (p:Nat) a,l[p]? =some a→∃Ep v,dK X run Ep a σ=some (v,σ)∧(∀x,(∀(q:Nat) c,p≤q→l[q]? =some c→c.d≠some x)→get Ep x=get eP x)∧
   ∀ x,a.d=some x→(∀(q:Nat) c,p<q→l[q]? =some c→c.d≠some x)→get eP x=v
 | [],e,eP,QE,_,h=>by
   cases h
   exact⟨rfl,fun _ _=>rfl,fun p a ha=>by simp at ha⟩
 | a :: l,e,eP,QE,hp,h=>by
   simp only [jG] at h
   split at h
   ·rename_i v σ1 hst
    have h1:=jl (hp a (List.mem_cons_self ..)) hst
    subst h1
    obtain⟨r1,r2,r3⟩:=recA l (put a.d v e) eP QE (fun c hc=>hp c (List.mem_cons_of_mem _ hc)) h
    have keep:∀x,(∀c∈a :: l,c.d≠some x)→get eP x=get e x:=fun x hx=>by
        rw [r2 x fun c hc=>hx c (List.mem_cons_of_mem _ hc),dY (hx a (List.mem_cons_self ..))]
    refine⟨r1,keep,fun p c hc=>?_⟩
    cases p with
    | zero=>
      cases hc
      refine⟨e,v,hst,fun x hx=>(keep x fun c hc=>?_).symm,fun x hx hl=>?_⟩
      ·obtain⟨q,hq⟩:=List.getElem?_of_mem hc
       exact hx q c (Nat.zero_le _) hq
      ·rw [r2 x fun c hc=>by
          obtain⟨q,hq⟩:=List.getElem?_of_mem hc
          exact hl (q+1) c (Nat.succ_pos _) hq,hx,eU]
    | succ p=>
      obtain⟨Ep,hu,q1,q2,q3⟩:=r3 p c hc
      refine⟨Ep,hu,q1,fun x hx=>q2 x fun q d hq hd=>hx (q+1) d (by omega) hd,fun x hx hl=>q3 x hx fun q d hq hd=>hl (q+1) d (by omega) hd⟩
   ·cases h
def yC (P:Program)(t:Nat):List AV:=match aH P t with
 | some T=>T.zero.cells
 | none=>[]
def sQ (P:Program)(e:Env)(b:Bx):AO:=⟨0,false,.cells b.t (setCells (yC P b.t) 0 (b.y.ev e).cells)⟩
structure BxOk (P:Program)(e:Env)(b:Bx):Prop where
 ty:∃T,aH P b.t=some T∧(b.y.ev e).cells.length=T.size∧(b.y.ev e).cells.all AV.one=true∧0+T.size≤T.zero.cells.length
theorem Gf {e:Env} {d t:Nat} {σ:St} :dK X run e ⟨some d,none,.alloc t⟩ σ=(aH X.P t).map fun T=>(.p σ.length 0 0,dD t T.zero.cells σ):=rfl
theorem step_st {e:Env} {d t:Nat} {y:bT} {σ:St} :dK X run e ⟨none,none,.store t (.t d) y⟩ σ=(jB (aH X.P t) (get e d) (y.ev e) σ).map (.tu [],·):=rfl
theorem recB:∀(B:List Bx) (e e':Env) (σ σ':St),jr (fun b b'=>b.d != b'.d) B=true→(∀b∈B,∀b'∈B,b'.d∉b.y.sl)→jG X run (B.flatMap Bx.ais) e σ=some (e',σ')→
 σ'= σ ++ B.map (sQ X.P e)∧(∀x,(∀b∈B,b.d≠x)→get e' x=get e x)∧(∀(k:Nat) b,B[k]? =some b→get e' b.d= .p (σ.length+k) 0 0)∧∀b∈B,BxOk X.P e b
 | [],e,e',σ,σ',_,_,h=>by
   cases h
   exact⟨by simp,fun _ _=>rfl,fun k b hb=>by simp at hb,fun b hb=>by cases hb⟩
 | b :: r,e,e',σ,σ',hd,hy,h=>by
   simp only [List.flatMap_cons,Bx.ais,List.cons_append,List.nil_append,jG,Gf,step_st] at h
   cases hT:aH X.P b.t with
   | none=>rw [hT] at h;simp at h
   | some T=>
     rw [hT] at h
     simp only [Option.map_some,put] at h
     have hd0:get ((b.d,AV.p σ.length 0 0) :: e) b.d= .p σ.length 0 0:=by simp [get]
     rw [hd0] at h
     have hnew:(dD b.t T.zero.cells σ)[σ.length]? =some ⟨0,false,.cells b.t T.zero.cells⟩:=by simp [dD]
     have hyb:b.y.ev ((b.d,.p σ.length 0 0) :: e)=b.y.ev e:=sH fun x hx=>by
        have hne:¬b.d=x:=fun hh=>hy b (List.mem_cons_self ..) b (List.mem_cons_self ..) (by rw [hh];exact hx)
        simp [get,hne]
     rw [hyb] at h
     obtain⟨y0,hy0⟩:∃y0,y0=b.y.ev e:=⟨_,rfl⟩
     rw [←hy0] at h
     simp only [jB,hnew] at h
     split at h
     ·rename_i v σ1 hst
      split at hst
      ·rename_i hc
       obtain⟨_,_,c1,c2,c3⟩:=hc
       simp only [Option.map_some,Option.some.injEq,Prod.mk.injEq] at hst
       obtain⟨rfl,rfl⟩:=hst
       have hset:(dD b.t T.zero.cells σ).set σ.length ⟨0,false,.cells b.t (setCells T.zero.cells 0 y0.cells)⟩=σ ++ [sQ X.P e b]:=by
          simp only [dD,sQ,yC,hT,hy0]
          rw [List.set_append_right _ _ (Nat.le_refl _)]
          simp
       have h2:jG X run (r.flatMap Bx.ais) ((b.d,.p σ.length 0 0) :: e) (σ ++ [sQ X.P e b])=some (e',σ'):=by rw [←hset];exact h
       simp only [jr,Bool.and_eq_true,List.all_eq_true,bne_iff_ne,ne_eq] at hd
       obtain⟨r1,r2,r3,r4⟩:=recB r _ e' _ σ' hd.2 (fun c hc c' hc'=>hy c (List.mem_cons_of_mem _ hc) c' (List.mem_cons_of_mem _ hc')) h2
       have F9:∀c∈r,c.y.ev ((b.d,.p σ.length 0 0) :: e)=c.y.ev e:=fun c hc=>sH fun x hx=>by
          have hne:¬b.d=x:=fun hh=>hy c (List.mem_cons_of_mem _ hc) b (List.mem_cons_self ..) (by rw [hh];exact hx)
          simp [get,hne]
       refine⟨?_,fun x hx=>?_,fun k c hc=>?_,fun c hc=>?_⟩
       ·rw [r1,List.map_cons,List.append_assoc,List.singleton_append]
        congr 2
        exact List.map_congr_left fun c hc=>by simp only [sQ,F9 c hc]
       ·have hne:¬b.d=x:=fun hh=>hx b (List.mem_cons_self ..) hh
        rw [r2 x fun c hc=>hx c (List.mem_cons_of_mem _ hc)]
        simp [get,hne]
       ·cases k with
        | zero=>
          cases hc
          rw [r2 b.d fun c hc hh=>hd.1 c hc hh.symm]
          simp [get]
        | succ k=>
          rw [r3 k c hc]
          simp only [List.length_append,List.length_cons,List.length_nil]
          congr 1;omega
       ·rcases List.mem_cons.1 hc with rfl | hc
        ·exact⟨T,hT,by rw [←hy0];exact c1,by rw [←hy0];exact c2,by omega⟩
        ·obtain⟨T',q⟩:=r4 c hc
         rw [F9 c hc] at q
         exact⟨T',q⟩
      ·simp at hst
     ·cases h
end
end Go.dX
namespace Go.dX
section
variable {X:Ctx} {run:Run} {G N:Nat} {ops:Array Oper} {A:List (Nat×AI)} {B:List Bx}
structure FrOk (f:Bool)(P:Program)(G N:Nat)(ops:Array Oper)(l:List AI)(A:List (Nat×AI))(B:List Bx):Prop where
 b:yB l=B.flatMap Bx.ais
 aa:∀{p q:Nat} {a c:Nat×AI},p<q→A[p]? =some a→A[q]? =some c→a.1≠c.1∧∀x,a.2.d=some x→c.2.d≠some x
 bb:∀{p q:Nat} {a c:Bx},p<q→B[p]? =some a→B[q]? =some c→a.i≠c.i∧a.i≠c.j∧a.j≠c.i∧a.j≠c.j∧a.d≠c.d
 ab:∀a∈A,∀c∈B,a.1≠c.i∧a.1≠c.j∧a.2.d≠some c.d
 all:∀i<ops.size,(∃a∈A,a.1=i)∨∃c∈B,c.i=i∨c.j=i
 ord:∀(p k:Nat),(zT f A B)[p]? =some k→∀j∈dW ops k,∃q,q<p∧(zT f A B)[q]? =some j
 a:∀(p:Nat) a,A[p]? =some a→(∃o,ops[a.1]? =some o∧iR P G N ops o a.2=true)∧a.2.op.exact=true∧∀x∈a.2.slots,BK N ops A B a.1 p x=true
 c:∀c∈B,(∃o,ops[c.i]? =some o∧iR P G N ops o ⟨some c.d,none,.alloc c.t⟩=true)∧(∃o,ops[c.j]? =some o∧iR P G N ops o ⟨none,none,.store c.t (.t c.d) c.y⟩=true)∧c.i≠c.j∧c.i∈dW ops c.j∧∀x∈c.y.sl,BK N ops A B c.j A.length x=true
theorem O4 {P:Program} {l:List AI} {f:Bool} (h:EK f P G N ops l A B=true):FrOk f P G N ops l A B:=by
 simp only [EK,Bool.and_eq_true] at h
 obtain⟨⟨⟨⟨⟨⟨⟨h1,h2⟩,h3⟩,h4⟩,h5⟩,h6⟩,h7⟩,h8⟩:=h
 simp only [List.all_eq_true,Bool.and_eq_true,bne_iff_ne,ne_eq,List.mem_range,List.contains_iff_mem] at h4 h5 h6 h7 h8
 refine⟨IY h1,fun hl ha hb=>?_,fun hl ha hb=>?_,fun a ha c hc=>⟨(h4 a ha c hc).1.1,(h4 a ha c hc).1.2,(h4 a ha c hc).2⟩,fun i hi=>?_,fun p k hp j hj=>?_,fun p a ha=>?_,fun c hc=>?_⟩
 ·have:=sN h2 hl ha hb
  simp only [Bool.and_eq_true,bne_iff_ne,ne_eq,Bool.or_eq_true,beq_iff_eq] at this
  refine⟨this.1,fun x hx hx'=>?_⟩
  rcases this.2 with h | h
  ·rw [h] at hx;cases hx
  ·exact h (hx.trans hx'.symm)
 ·have:=sN h3 hl ha hb
  simp only [Bool.and_eq_true,bne_iff_ne,ne_eq] at this
  exact⟨this.1.1.1.1,this.1.1.1.2,this.1.1.2,this.1.2,this.2⟩
 ·have:=h5 i hi
  exact sO.1 this
 ·have:=h6 p (cZ hp)
  rw [List.getD_eq_getElem?_getD,hp] at this
  exact qm (this j hj)
 ·have:=h7 p (cZ ha)
  unfold okA at this
  rw [ha] at this
  simp only [Bool.and_eq_true,List.all_eq_true] at this
  exact⟨lG this.1.1,this.1.2,this.2⟩
 ·obtain⟨⟨⟨⟨q1,q2⟩,q3⟩,q4⟩,q5⟩:=h8 c hc
  exact⟨lG q1,lG q2,q3,q4,q5⟩
def kH (P:Program)(e:Env)(L:Nat→Bool)(b:Bx):AO:=if L b.i then(if L b.j then sQ P e b else⟨0,false,.cells b.t (yC P b.t)⟩) else⟨0,false,.dead⟩
def Ai (P:Program)(e:Env)(B:List Bx)(L:Nat→Bool)(σ:St):St:=σ ++ B.map (kH P e L)
theorem K_ {P:Program} {e:Env} {L:Nat→Bool} {σ:St} {k:Nat} {b:Bx} (h:B[k]? =some b):(Ai P e B L σ)[σ.length+k]? =some (kH P e L b):=by
 unfold Ai
 rw [List.getElem?_append_right (by omega),show σ.length+k - σ.length=k by omega,List.getElem?_map,h];rfl
theorem ND {P:Program} {e:Env} {L L':Nat→Bool} {σ:St} {k:Nat} {b:Bx} (h:B[k]? =some b)(ho:∀(k':Nat) b',B[k']? =some b'→k'≠k→kH P e L' b'= kH P e L b') :
 Ai P e B L' σ=(Ai P e B L σ).set (σ.length+k) (kH P e L' b):=by
 apply List.ext_getElem?
 intro n
 rw [List.getElem?_set]
 have hlt:=cZ h
 split
 ·rename_i hn;subst hn
  rw [K_ h,if_pos (by simp [Ai];omega)]
 ·rename_i hn
  unfold Ai
  rw [List.getElem?_append,List.getElem?_append]
  split
  ·rfl
  ·rename_i hge
   rw [List.getElem?_map,List.getElem?_map]
   cases hb:B[n - σ.length]? with
   | none=>rfl
   | some b'=>simp only [Option.map_some];rw [ho _ b' hb (by omega)]
theorem Ru {P:Program} {e:Env} {L L':Nat→Bool} {σ:St} (ho:∀b∈B,kH P e L' b=kH P e L b):Ai P e B L' σ=Ai P e B L σ:=by
 unfold Ai
 rw [List.map_congr_left ho]
theorem I4 {μ:Mu} {w:World} {e:Env} {tmps:Array Value} (hN:tmps.size=N)(K:Nat→Prop)(h:∀x,x<N→K x→aV μ w (get e x) (tmps.getD x undef)):∃e1,dw G N μ w e1 tmps∧∀x,x<N→K x→get e1 x=get e x:=by
 classical
 refine⟨(List.range N).map fun n=>(n,if K n then get e n else .u),⟨hN,fun n=>?_⟩,?_⟩
 all_goals
  have hg:∀(M:Nat) (n:Nat),get ((List.range' 0 M).map fun n=>(n,if K n then get e n else .u)) n=if n<M then(if K n then get e n else .u) else .u:=by
   intro M
   suffices hs:∀(M s n:Nat),get ((List.range' s M).map fun n=>(n,if K n then get e n else .u)) n=if s≤n∧n<s+M then(if K n then get e n else .u) else .u by
        intro n;rw [hs M 0 n];simp
   intro M
   induction M with
   | zero=>intro s n;rw [if_neg (by omega)];rfl
   | succ M ih=>
     intro s n
     simp only [List.range'_succ,List.map_cons,get]
     by_cases hsn:s=n
     ·subst hsn
      rw [if_pos rfl,if_pos (show s≤s∧s<s+(M+1) from⟨Nat.le_refl _,by omega⟩)]
     ·rw [if_neg hsn,ih (s+1) n]
      by_cases hc:s≤n∧n<s+(M+1)
      ·rw [if_pos hc,if_pos ⟨by omega,by omega⟩]
      ·rw [if_neg hc,if_neg (by omega)]
  rw [List.range_eq_range']
 ·rw [hg N n]
  split
  ·rename_i hn
   split
   ·rename_i hk;exact h n hn hk
   ·trivial
  ·trivial
 ·intro x hx hk
  rw [hg N x,if_pos hx,if_pos hk]
structure Mid (P:Program)(G N:Nat)(ds:List Deferred)(A:List (Nat×AI))(B:List Bx)(eP:Env)(iZ:St)(qF:Mu)(w0:World)(L:Nat→Bool)(act:Act)(w:World)(μ:Mu):Prop where
 st:Step G qF iZ w0 μ (Ai P eP B L iZ) w
 size:act.tmps.size=N
 df:act.defers=ds
 vals:∀x,(∀b∈B,b.d≠x)→(∀q∈A,q.2.d=some x→L q.1=true)→aV μ w (get eP x) (act.tmps.getD x undef)
 ptr:∀(k:Nat) b,B[k]? =some b→L b.i=true→aV μ w (.p (iZ.length+k) 0 0) (act.tmps.getD b.d undef)
 free:∀(k:Nat) b,B[k]? =some b→L b.i=false→μ (iZ.length+k) 0=none
def yD (L:Nat→Bool)(i:Nat):Nat→Bool:=fun j=>if j=i then true else L j
theorem qo (L:Nat→Bool)(i:Nat):yD L i i=true:=by simp [yD]
theorem fU {L:Nat→Bool} {i j:Nat} (h:j≠i):yD L i j=L j:=by simp [yD,h]
theorem nN {act:Act} {d:Option Tmp} {v:Value} {x:Nat} (h:d≠some x):(act.put d v).tmps.getD x undef=act.tmps.getD x undef:=by
 cases d with
 | none=>rfl
 | some d=>
   have hne:¬d=x:=fun he=>h (by rw [he])
   simp only [Act.put]
   rw [Array.getD_eq_getD_getElem?,Array.getElem?_setIfInBounds,if_neg hne,←Array.getD_eq_getD_getElem?]
theorem lV {act:Act} {d:Tmp} {v:Value} (h:d<act.tmps.size):(act.put (some d) v).tmps.getD d undef=v:=by
 simp only [Act.put]
 rw [Array.getD_eq_getD_getElem?,Array.getElem?_setIfInBounds,if_pos rfl,if_pos h];rfl
theorem BM {act:Act} {d:Option Tmp} {v:Value} :(act.put d v).tmps.size=act.tmps.size:=by
 cases d <;> simp [Act.put]
section
variable {f:Bool} {ds:List Deferred} {l:List AI} {e eP e':Env} {iZ σ':St} {qF:Mu} {w0:World} {L:Nat→Bool} {act:Act} {w:World} {μ:Mu} {K:Act→World→Prop} {Q:Exit→Act→World→Prop}
structure Ran (X:Ctx)(run:Run)(A:List (Nat×AI))(B:List Bx)(e eP e':Env)(iZ σ':St):Prop where
 keep:∀x,(∀q∈A,q.2.d≠some x)→get eP x=get e x
 at':∀(p:Nat) q,A[p]? =some q→∃Ep v,dK X run Ep q.2 iZ=some (v,iZ)∧(∀x,(∀(r:Nat) c,p≤r→A[r]? =some c→c.2.d≠some x)→get Ep x=get eP x)∧∀x,q.2.d=some x→(∀(r:Nat) c,p<r→A[r]? =some c→c.2.d≠some x)→get eP x=v
 store:σ'= iZ ++ B.map (sQ X.P eP)
 keepB:∀x,(∀b∈B,b.d≠x)→get e' x=get eP x
 ptrB:∀(k:Nat) b,B[k]? =some b→get e' b.d= .p (iZ.length+k) 0 0
 okB:∀b∈B,BxOk X.P eP b
variable (hF:FrOk f X.P G N ops l A B)(hR:Ran X run A B e eP e' iZ σ')
include hF hR
omit hR in
theorem Mid.src (h:Mid X.P G N ds A B eP iZ qF w0 L act w μ) {k n x:Nat} (hs:BK N ops A B k n x=true)(hb:∀j∈dW ops k,L j=true):x<N∧(∀b∈B,b.d≠x)∧(∀q∈A,q.2.d=some x→L q.1=true)∧∀(r:Nat) c,n≤r→A[r]? =some c→c.2.d≠some x:=by
 simp only [BK,Bool.and_eq_true,decide_eq_true_eq,Bool.or_eq_true,List.all_eq_true,bne_iff_ne,ne_eq,List.any_eq_true,beq_iff_eq,List.contains_iff_mem] at hs
 obtain⟨h1,h2⟩:=hs
 rcases h2 with ⟨h2,h3⟩ | ⟨q,hq,h2,h3⟩
 ·exact⟨h1,h3,fun q hq hx=>absurd hx (h2 q hq),fun r c _ hc=>h2 c (List.mem_of_getElem? hc)⟩
 ·obtain⟨p,hp,hpq⟩:=qm hq
  have hmem:=List.mem_of_getElem? hpq
  refine⟨h1,fun b hbB hd=>(hF.ab q hmem b hbB).2.2 (by rw [h2,hd]),fun q' hq' hx=>?_,fun r c hr hc hx=>?_⟩
  ·obtain⟨p',hp'⟩:=List.getElem?_of_mem hq'
   rcases Nat.lt_trichotomy p p' with hl | he | hl
   ·exact absurd hx ((hF.aa hl hpq hp').2 x h2)
   ·subst he;rw [hpq] at hp';cases hp';exact hb _ h3
   ·exact absurd h2 ((hF.aa hl hp' hpq).2 x hx)
  ·exact(hF.aa (by omega) hpq hc).2 x h2 hx
omit hF hR in
theorem sS {o:Oper} {a:AI} (h:iR X.P G N ops o a=true):o.dst=a.d∧rD N a.d=true∧mY ops o.guard a.gd=true∧jT X.P G o.op a.op=true:=by
 simp only [iR,Bool.and_eq_true,beq_iff_eq] at h
 exact⟨h.1.1.1,h.1.1.2,h.1.2,h.2⟩
theorem Mid.value (h:Mid X.P G N ds A B eP iZ qF w0 L act w μ) {p:Nat} {q:Nat×AI} (hq:A[p]? =some q) {o:Oper} (ho:ops[q.1]? =some o)(hb:∀j∈dW ops q.1,L j=true)
 (hK:∀act',Mid X.P G N ds A B eP iZ qF w0 (yD L q.1) act' w μ→K act' w):Bo X.P ops o K Q act w:=by
 obtain⟨⟨o',ho',hok⟩,hex,hsl⟩:=hF.a p q hq
 rw [ho] at ho';cases ho'
 obtain⟨Ep,v,s1,s2,s3⟩:=hR.at' p q hq
 have hmem:=List.mem_of_getElem? hq
 have hsrc:∀x∈q.2.slots,_:=fun x hx=>h.src hF (hsl x hx) hb
 obtain⟨e1,hen,he1⟩:=I4 (G:=G) (μ:=μ) (w:=w) (e:=eP) h.size (fun x=>(∀b∈B,b.d≠x)∧∀q∈A,q.2.d=some x→L q.1=true) fun x _ hx=>h.vals x hx.1 hx.2
 have hst:dK X run e1 q.2 (Ai X.P eP B L iZ)=some (v,Ai X.P eP B L iZ):=by
  rw [f_ (e':=Ep) fun x hx=>by
   obtain⟨q1,q2,q3,q4⟩:=hsrc x hx
   rw [he1 x q1 ⟨q2,q3⟩,s2 x q4]]
  exact O3 _ hex s1
 obtain⟨hdst,hN,_,_⟩:=sS hok
 refine KY (ops:=ops) h.st.pJ hen hok hex hst fun u hu=>hK _ ?_
 have hL:∀b∈B,kH X.P eP (yD L q.1) b=kH X.P eP L b:=fun b hbB=>by
  obtain⟨n1,n2,_⟩:=hF.ab q hmem b hbB
  simp only [kH,fU (Ne.symm n1),fU (Ne.symm n2)]
 refine⟨by rw [Ru hL];exact h.st,by rw [BM];exact h.size,by rw [dL];exact h.df,fun x hx1 hx2=>?_,fun k b hbk hl=>?_,fun k b hbk hl=>?_⟩
 ·rw [hdst]
  by_cases hd:q.2.d=some x
  ·rw [hd] at hN ⊢
   have hxN:x<act.tmps.size:=by rw [h.size];simpa [rD] using hN
   rw [lV hxN,s3 x hd fun r c hr hc=>(hF.aa hr hq hc).2 x hd]
   exact hu
  ·rw [nN hd]
   refine h.vals x hx1 fun q' hq' hx'=>?_
   have:=hx2 q' hq' hx'
   by_cases hqq:q'.1=q.1
   ·exfalso
    obtain⟨p',hp'⟩:=List.getElem?_of_mem hq'
    rcases Nat.lt_trichotomy p p' with hl | he | hl
    ·exact(hF.aa hl hq hp').1 hqq.symm
    ·subst he;rw [hq] at hp';cases hp';exact hd hx'
    ·exact(hF.aa hl hp' hq).1 hqq
   ·rw [fU hqq] at this;exact this
 ·have n1:=hF.ab q hmem b (List.mem_of_getElem? hbk)
  rw [fU (Ne.symm n1.1)] at hl
  rw [hdst,nN n1.2.2]
  exact h.ptr k b hbk hl
 ·have n1:=hF.ab q hmem b (List.mem_of_getElem? hbk)
  rw [fU (Ne.symm n1.1)] at hl
  exact h.free k b hbk hl
theorem Mid.alloc (h:Mid X.P G N ds A B eP iZ qF w0 L act w μ)(hG:G≤iZ.length) {k:Nat} {b:Bx} (hbk:B[k]? =some b) {o:Oper} (ho:ops[b.i]? =some o)(hi:L b.i=false)(hj:L b.j=false)
 (hK:∀act' w' μ',Mid X.P G N ds A B eP iZ qF w0 (yD L b.i) act' w' μ'→K act' w'):Bo X.P ops o K Q act w:=by
 have hmem:=List.mem_of_getElem? hbk
 obtain⟨⟨o',ho',hok⟩,_,hij,_⟩:=hF.c b hmem
 rw [ho] at ho';cases ho'
 obtain⟨hdst,hN,hg,hop⟩:=sS hok
 obtain⟨T,hT,_⟩:=(hR.okB b hmem).ty
 obtain⟨z,z1,z2⟩:=rW (w:=w) hT
 have hgn:o.guard=none:=by
  cases hgg:o.guard with
  | none=>rfl
  | some g=>rw [hgg] at hg;simp [mY] at hg
 have Rw:o.op= .alloc b.t:=by
  cases hoo:o.op <;> rw [hoo] at hop <;> simp only [jT,Bool.false_eq_true] at hop
  ·simp only [beq_iff_eq] at hop;rw [hop]
  ·rename_i c
   unfold ku at hop
   split at hop <;> first | (cases hop;done) | simp_all [gB]
 have hrun:(execOp act.eval o).run X.P w= .ok (.value (.pointer (some ⟨w.heap.size,0,none⟩))) { w with heap:=w.heap.push (.cells z.cells b.t) } :=by
  simp [execOp,Rw,Instr.alloc,z1,newVar,newRow]
 have hdead:(Ai X.P eP B L iZ)[iZ.length+k]? =some ⟨0,false,.dead⟩:=by
  rw [K_ hbk];simp [kH,hi]
 have hst:=Step.place (e:=b.t) h.st.pJ hdead (by omega) (h.free k b hbk hi) (qc z2)
 have hdN:b.d<act.tmps.size:=by rw [h.size];simpa [rD] using hN
 have hother:∀(k':Nat) b',B[k']? =some b'→k'≠k→b'.i≠b.i∧b'.j≠b.i∧b'.d≠b.d:=by
  intro k' b' hb' hne
  rcases Nat.lt_or_ge k' k with hl | hl
  ·have:=hF.bb hl hb' hbk;exact⟨this.1,this.2.2.1,this.2.2.2.2⟩
  ·have:=hF.bb (show k<k' by omega) hbk hb';exact⟨Ne.symm this.1,Ne.symm this.2.1,Ne.symm this.2.2.2.2⟩
 have hset:Ai X.P eP B (yD L b.i) iZ=(Ai X.P eP B L iZ).set (iZ.length+k) ⟨0,false,.cells b.t T.zero.cells⟩:=by
  rw [ND (L:=L) hbk fun k' b' hb' hne=>by
   obtain⟨n1,n2,_⟩:=hother k' b' hb' hne
   simp only [kH,fU n1,fU n2]]
  congr 1
  simp [kH,qo,fU (Ne.symm hij),hj,yC,hT]
 unfold Bo
 rw [if_pos (by simp [Region.wanted,hgn])]
 refine .inl ?_
 unfold Oper.wp
 rw [hrun]
 refine hK _ _ _ ⟨by rw [hset];exact h.st.trans hst,by rw [BM];exact h.size,by rw [dL];exact h.df,fun x hx1 hx2=>?_,fun k' b' hb' hl=>?_,fun k' b' hb' hl=>?_⟩
 ·rw [hdst,nN (fun hh=>hx1 b hmem (Option.some.inj hh))]
  refine aV.mono hst.ext hst.kY _ _ (h.vals x hx1 fun q hq hx=>?_)
  have:=hx2 q hq hx
  rw [fU (hF.ab q hq b hmem).1] at this;exact this
 ·rw [hdst]
  by_cases hkk:k'= k
  ·subst hkk
   rw [hbk] at hb';cases hb'
   rw [lV hdN]
   exact⟨w.heap.size,0,Mu.bY _ _ _ _,rfl⟩
  ·obtain⟨n1,_,n3⟩:=hother k' b' hb' hkk
   rw [fU n1] at hl
   rw [nN fun hh=>n3 (Option.some.inj hh).symm]
   exact aV.mono hst.ext hst.kY _ _ (h.ptr k' b' hb' hl)
 ·by_cases hkk:k'= k
  ·subst hkk
   rw [hbk] at hb';cases hb'
   rw [qo] at hl;cases hl
  ·obtain⟨n1,_,_⟩:=hother k' b' hb' hkk
   rw [fU n1] at hl
   rw [Mu.upd_ne (by omega)]
   exact h.free k' b' hb' hl
theorem Mid.store (h:Mid X.P G N ds A B eP iZ qF w0 L act w μ) {k:Nat} {b:Bx} (hbk:B[k]? =some b) {o:Oper} (ho:ops[b.j]? =some o)(hb:∀j∈dW ops b.j,L j=true)(hj:L b.j=false)
 (hK:∀act' w' μ',Mid X.P G N ds A B eP iZ qF w0 (yD L b.j) act' w' μ'→K act' w'):Bo X.P ops o K Q act w:=by
 have hmem:=List.mem_of_getElem? hbk
 obtain⟨⟨oi,hoi,hoki⟩,⟨o',ho',hok⟩,hij,hbi,hsl⟩:=hF.c b hmem
 rw [ho] at ho';cases ho'
 have hi:L b.i=true:=hb _ hbi
 obtain⟨hdst,_,hg,hop⟩:=sS hok
 obtain⟨_,hN,_,_⟩:=sS hoki
 obtain⟨T,hT,t1,t2,t3⟩:=(hR.okB b hmem).ty
 have hgn:o.guard=none:=by
  cases hgg:o.guard with
  | none=>rfl
  | some g=>rw [hgg] at hg;simp [mY] at hg
 have hdN:b.d<N:=by simpa [rD] using hN
 obtain⟨e1,hen,he1⟩:=I4 (G:=G) (μ:=μ) (w:=w) (e:=put (some b.d) (.p (iZ.length+k) 0 0) eP) h.size (fun x=>x=b.d∨((∀b∈B,b.d≠x)∧∀q∈A,q.2.d=some x→L q.1=true)) fun x _ hx=>by
  rcases hx with rfl | hx
  ·rw [eU];exact h.ptr k b hbk hi
  ·rw [dY fun hh=>hx.1 b hmem (Option.some.inj hh)];exact h.vals x hx.1 hx.2
 have hy:b.y.ev e1=b.y.ev eP:=sH fun x hx=>by
  obtain⟨q1,q2,q3,_⟩:=h.src hF (hsl x hx) hb
  rw [he1 x q1 (.inr ⟨q2,q3⟩),dY fun hh=>q2 b hmem (Option.some.inj hh)]
 have QO:(Ai X.P eP B L iZ)[iZ.length+k]? =some ⟨0,false,.cells b.t T.zero.cells⟩:=by
  rw [K_ hbk];simp [kH,hi,hj,yC,hT]
 have hstore:jB (aH X.P b.t) (.p (iZ.length+k) 0 0) (b.y.ev eP) (Ai X.P eP B L iZ)=some ((Ai X.P eP B L iZ).set (iZ.length+k) (sQ X.P eP b)):=by
  simp only [jB,hT,QO]
  rw [if_pos ⟨trivial,trivial,t1,t2,by omega⟩]
  simp [sQ,yC,hT]
 have hother:∀(k':Nat) b',B[k']? =some b'→k'≠k→b'.i≠b.j∧b'.j≠b.j:=by
  intro k' b' hb' hne
  rcases Nat.lt_or_ge k' k with hl | hl
  ·have:=hF.bb hl hb' hbk;exact⟨this.2.1,this.2.2.2.1⟩
  ·have:=hF.bb (show k<k' by omega) hbk hb';exact⟨Ne.symm this.2.2.1,Ne.symm this.2.2.2.1⟩
 have hset:Ai X.P eP B (yD L b.j) iZ=(Ai X.P eP B L iZ).set (iZ.length+k) (sQ X.P eP b):=by
  rw [ND (L:=L) hbk fun k' b' hb' hne=>by
   obtain⟨n1,n2⟩:=hother k' b' hb' hne
   simp only [kH,fU n1,fU n2]]
  congr 1
  simp [kH,qo,fU hij,hi]
 obtain⟨x',y',Rw,hx',hy'⟩:∃x' y',o.op= .store b.t x' y'∧dG G x' (.t b.d)=true∧dG G y' b.y=true:=by
  cases hoo:o.op <;> rw [hoo] at hop <;> simp only [jT,Bool.false_eq_true] at hop
  ·simp only [Bool.and_eq_true,beq_iff_eq] at hop
   exact⟨_,_,by rw [hop.1.1],hop.1.2,hop.2⟩
  ·rename_i c
   unfold ku at hop
   split at hop <;> first | (cases hop;done) | simp_all [gB]
 have rx:=mZ h.st.pJ hen hx'
 have ry:=mZ h.st.pJ hen hy'
 rw [hy] at ry
 have hxe:(bT.t b.d).ev e1= .p (iZ.length+k) 0 0:=by
  show get e1 b.d=_
  rw [he1 b.d hdN (.inl rfl),eU]
 rw [hxe] at rx
 obtain⟨w',s1,s2⟩:=Es h.st.pJ hstore rx ry
 have hrun:(execOp act.eval o).run X.P w= .ok .skip w':=by simp [execOp,Rw,s1]
 unfold Bo
 rw [if_pos (by simp [Region.wanted,hgn])]
 refine .inl ?_
 unfold Oper.wp
 rw [hrun]
 have hd0:o.dst=none:=hdst
 refine hK _ _ _ ⟨by rw [hset];exact h.st.trans s2,by rw [BM];exact h.size,by rw [dL];exact h.df,fun x hx1 hx2=>?_,fun k' b' hb' hl=>?_,fun k' b' hb' hl=>?_⟩
 ·rw [hd0,nN (by simp)]
  refine aV.mono s2.ext s2.kY _ _ (h.vals x hx1 fun q hq hx=>?_)
  have:=hx2 q hq hx
  rw [fU (hF.ab q hq b hmem).2.1] at this;exact this
 ·rw [hd0,nN (by simp)]
  refine aV.mono s2.ext s2.kY _ _ (h.ptr k' b' hb' ?_)
  by_cases hkk:k'= k
  ·subst hkk;rw [hbk] at hb';cases hb';exact hi
  ·rw [fU (hother k' b' hb' hkk).1] at hl;exact hl
 ·by_cases hkk:k'= k
  ·subst hkk;rw [hbk] at hb';cases hb'
   rw [fU hij,hi] at hl;cases hl
  ·rw [fU (hother k' b' hb' hkk).1] at hl
   exact h.free k' b' hb' hl
end
theorem O5 (l:List AI):qO l ++ yB l=l:=List.takeWhile_append_dropWhile
theorem Rx {ds:List Deferred} {eP e':Env} {iZ σ':St} {qF μ:Mu} {w0 w:World} {e:Env} {L:Nat→Bool} {act:Act} (hR:Ran X run A B e eP e' iZ σ')(h:Mid X.P G N ds A B eP iZ qF w0 L act w μ)(hA:∀q∈A,L q.1=true)(hB:∀b∈B,L b.i=true∧L b.j=true) :
 sG ds G N qF iZ w0 e' σ' act w:=by
 have hst:Ai X.P eP B L iZ=σ':=by
  rw [hR.store]
  unfold Ai
  have hm:B.map (kH X.P eP L)=B.map (sQ X.P eP):=List.map_congr_left fun b hb=>by simp only [kH,(hB b hb).1,(hB b hb).2,if_true]
  rw [hm]
 refine⟨μ,by rw [←hst];exact h.st,⟨h.size,fun x=>?_⟩,h.df⟩
 by_cases hx:∃b∈B,b.d=x
 ·obtain⟨b,hb,rfl⟩:=hx
  obtain⟨k,hk⟩:=List.getElem?_of_mem hb
  rw [hR.ptrB k b hk]
  exact h.ptr k b hk (hB b hb).1
 ·have hx':∀b∈B,b.d≠x:=fun b hb hd=>hx ⟨b,hb,hd⟩
  rw [hR.keepB x hx']
  exact h.vals x hx' fun q hq _=>hA q hq
theorem fr_any {f:Bool} {ds:List Deferred} {l:List AI} {e eP e':Env} {iZ σ':St} {qF:Mu} {w0:World} {Q:Exit→Act→World→Prop} (hF:FrOk f X.P G N ops l A B)(hR:Ran X run A B e eP e' iZ σ')(hG:G≤iZ.length)
 (hQ:∀act' w',sG ds G N qF iZ w0 e' σ' act' w'→Q .normal act' w') :
 ∀ (fuel:Nat) (listed:Array Bool) (act:Act) (w:World) (μ:Mu),(FZ ops.size listed).length≤fuel→listed.size=ops.size→(∀i,listed.getD i false=true→∀j∈dW ops i,listed.getD j false=true)→
   Mid X.P G N ds A B eP iZ qF w0 (fun i=>listed.getD i false) act w μ→wpAny X.P .any ops Q fuel listed act w:=by
 have hlt:∀(p k:Nat),(zT f A B)[p]? =some k→k<ops.size:=by
  intro p k hk
  have hm:=List.mem_of_getElem? hk
  rw [sO] at hm
  rcases hm with ⟨q,hq,rfl⟩ | ⟨b,hb,rfl | rfl⟩
  ·obtain⟨p',hp'⟩:=List.getElem?_of_mem hq
   obtain⟨⟨o,ho,_⟩,_⟩:=hF.a p' q hp'
   exact(Array.getElem?_eq_some_iff.1 ho).1
  ·obtain⟨⟨o,ho,_⟩,_⟩:=hF.c b hb
   exact(Array.getElem?_eq_some_iff.1 ho).1
  ·obtain⟨_,⟨o,ho,_⟩,_⟩:=hF.c b hb
   exact(Array.getElem?_eq_some_iff.1 ho).1
 have hdone:∀(listed:Array Bool) (act:Act) (w:World) (μ:Mu),listed.size=ops.size→Mid X.P G N ds A B eP iZ qF w0 (fun i=>listed.getD i false) act w μ→Region.ready .any ops listed=[]→Q .normal act w:=by
  intro listed act w μ hsz hM hr
  have hall:∀(p k:Nat),(zT f A B)[p]? =some k→listed.getD k false=true:=by
   intro p
   induction p using Nat.strongRecOn with
   | _ p ih=>
     intro k hk
     cases hl:listed.getD k false with
     | true=>rfl
     | false=>
       exfalso
       have hkl:=hlt p k hk
       have:k∈Region.ready .any ops listed:=by
         rw [mem_ready]
         refine⟨by rw [iD (by omega)];exact hl,ops[k],Array.getElem?_eq_getElem hkl,fun ed he hb=>?_⟩
         obtain⟨q,hq,hqk⟩:=hF.ord p k hk ed.on ((kG (Array.getElem?_eq_getElem hkl)).2 ⟨ed,he,hb,rfl⟩)
         exact ih q hq _ hqk
       rw [hr] at this;cases this
  have hmem:∀k∈zT f A B,listed.getD k false=true:=fun k hk=>by
   obtain⟨p,hp⟩:=List.getElem?_of_mem hk
   exact hall p k hp
  refine hQ _ _ (Rx hR hM (fun q hq=>hmem _ ?_) fun b hb=>⟨hmem _ ?_,hmem _ ?_⟩)
  ·exact sO.2 (.inl ⟨q,hq,rfl⟩)
  ·exact sO.2 (.inr ⟨b,hb,.inl rfl⟩)
  ·exact sO.2 (.inr ⟨b,hb,.inr rfl⟩)
 intro fuel
 induction fuel with
 | zero=>
   intro listed act w μ hfu hsz hcl hM
   have hr:Region.ready .any ops listed=[]:=by
    apply List.eq_nil_iff_forall_not_mem.2
    intro i hi
    obtain⟨h0,o,ho,_⟩:=mem_ready.1 hi
    have hil:i<ops.size:=(Array.getElem?_eq_some_iff.1 ho).1
    rw [iD (by omega)] at h0
    have:i∈FZ ops.size listed:=List.mem_filter.2 ⟨List.mem_range.2 hil,by rw [h0];rfl⟩
    have:=List.length_pos_of_mem this
    omega
   exact⟨hr,hdone listed act w μ hsz hM hr⟩
 | succ fuel ih=>
   intro listed act w μ hfu hsz hcl hM
   refine⟨hdone listed act w μ hsz hM,fun i hi=>?_⟩
   obtain⟨h0,o,ho,hbind⟩:=mem_ready.1 hi
   have hil:i<ops.size:=(Array.getElem?_eq_some_iff.1 ho).1
   rw [iD (by omega)] at h0
   have hb:∀j∈dW ops i,listed.getD j false=true:=fun j hj=>by
    obtain⟨ed,he,hbd,rfl⟩:=(kG ho).1 hj
    exact hbind ed he hbd
   have hget:∀j,(listed.setIfInBounds i true).getD j false=yD (fun i=>listed.getD i false) i j:=by
    intro j
    by_cases hj:j=i
    ·subst hj;rw [qo];simp [Array.getElem?_setIfInBounds,hsz,hil]
    ·rw [fU hj,getD_set_ne false (Ne.symm hj)]
   have hfun:(fun j=>(listed.setIfInBounds i true).getD j false)=yD (fun i=>listed.getD i false) i:=funext hget
   have hnext:∀act' w' μ',Mid X.P G N ds A B eP iZ qF w0 (yD (fun i=>listed.getD i false) i) act' w' μ'→wpAny X.P .any ops Q fuel (listed.setIfInBounds i true) act' w':=by
    intro act' w' μ' hM'
    refine ih _ act' w' μ' ?_ (by simpa using hsz) ?_ (by rw [hfun];exact hM')
    ·have:=Ah (n:=ops.size) hil hsz h0
     omega
    ·intro j hj k hk
     rw [hget] at hj ⊢
     by_cases hki:k=i
     ·rw [hki,qo]
     ·rw [fU hki]
      by_cases hji:j=i
      ·subst hji;exact hb k hk
      ·rw [fU hji] at hj;exact hcl j hj k hk
   unfold wpOp
   rw [ho]
   rcases hF.all i hil with ⟨q,hq,rfl⟩ | ⟨b,hbB,hbi⟩
   ·obtain⟨p,hp⟩:=List.getElem?_of_mem hq
    exact hM.value hF hR hp ho hb fun act' hM'=>hnext act' w μ hM'
   ·obtain⟨k,hk⟩:=List.getElem?_of_mem hbB
    obtain⟨_,_,_,hbib,_⟩:=hF.c b hbB
    rcases hbi with rfl | rfl
    ·refine hM.alloc hF hR hG hk ho h0 ?_ hnext
     cases hj:listed.getD b.j false with
     | false=>rfl
     | true=>have:=hcl b.j hj b.i hbib;rw [h0] at this;cases this
    ·exact hM.store hF hR hk ho hb h0 hnext
theorem vk {α:Type} {f g:α→α→Bool} (h:∀a b,f a b=true→g a b=true):∀{l:List α},jr f l=true→jr g l=true
 | [],_=>rfl
 | a :: l,q=>by
   simp only [jr,Bool.and_eq_true,List.all_eq_true] at q ⊢
   exact⟨fun b hb=>h a b (q.1 b hb),vk h q.2⟩
theorem fr_rel {ds:List Deferred} {id:Nat} {l:List AI} {Q:Exit→Act→World→Prop} {e e':Env} {act:Act} {μ:Mu} {σ σ':St} {w:World} (hf:X.P.follows .mixedOrders=true)(hok:Rl X.P G N ops l=true)
 (hs:gQ G μ σ w) (he:dw G N μ w e act.tmps) (hd:act.defers=ds) (h:jG X run l e σ=some (e',σ')) (hQ:∀act' w',sG ds G N μ σ w e' σ' act' w'→Q .normal act' w'):(Code.region id ops true).wp X.P Q act w:=by
 unfold Rl at hok
 have hAm:(Rk X.P G N ops (qO l)).map (·.2)=qO l:=by simp [Rk,Function.comp_def]
 generalize Rk X.P G N ops (qO l)=A at hok hAm
 generalize Ny X.P G N ops (yB l)=B at hok
 obtain⟨f,hok⟩:∃f,EK f X.P G N ops l A B=true:=by
  rw [Bool.or_eq_true] at hok
  rcases hok with h | h
  ·exact⟨_,h⟩
  ·exact⟨_,h⟩
 have hF:=O4 hok
 rw [←O5 l,IZ,hF.b,Option.bind_eq_some_iff] at h
 obtain⟨⟨eP,QE⟩,hA,hB⟩:=h
 have hat:∀(p:Nat) a,(qO l)[p]? =some a→∃q,A[p]? =some q∧q.2=a:=by
  intro p a hp
  rw [←hAm,List.getElem?_map,Option.map_eq_some_iff] at hp
  exact hp
 obtain⟨r1,r2,r3⟩:=recA (qO l) e eP QE (fun a ha=>by
  obtain⟨p,hp⟩:=List.getElem?_of_mem ha
  obtain⟨q,hq,rfl⟩:=hat p a hp
  exact qM (hF.a p q hq).2.1) hA
 have r1:QE=σ:=r1
 subst r1
 have hbd:jr (fun b b':Bx=>b.d != b'.d) B=true:=by
  have h0:=hok
  simp only [EK,Bool.and_eq_true] at h0
  exact vk (fun a b q=>by simp only [Bool.and_eq_true] at q;exact q.2) h0.1.1.1.1.1.2
 obtain⟨s1,s2,s3,s4⟩:=recB B eP e' QE σ' hbd (fun b hb b' hb' hx=>by
  have h1:=(hF.c b hb).2.2.2.2 _ hx
  simp only [BK,Bool.and_eq_true,decide_eq_true_eq,Bool.or_eq_true,List.all_eq_true,bne_iff_ne,ne_eq,List.any_eq_true,beq_iff_eq] at h1
  rcases h1.2 with h2 | ⟨q,hq,h2,_⟩
  ·exact h2.2 b' hb' rfl
  ·exact(hF.ab q (List.mem_of_mem_take hq) b' hb').2.2 h2) hB
 have hAat:∀(p:Nat) q,A[p]? =some q→(qO l)[p]? =some q.2:=fun p q hq=>by rw [←hAm,List.getElem?_map,hq];rfl
 have hR:Ran X run A B e eP e' QE σ':={
  keep:=fun x hx=>r2 x fun a ha=>by
   obtain⟨p,hp⟩:=List.getElem?_of_mem ha
   obtain⟨q,hq,rfl⟩:=hat p a hp
   exact hx q (List.mem_of_getElem? hq)
  at':=fun p q hq=>by
   obtain⟨Ep,v,q1,q2,q3⟩:=r3 p q.2 (hAat p q hq)
   refine⟨Ep,v,q1,fun x hx=>q2 x fun r c hr hc=>?_,fun x hx hl=>q3 x hx fun r c hr hc=>?_⟩
   ·obtain⟨q',hq',rfl⟩:=hat r c hc;exact hx r q' hr hq'
   ·obtain⟨q',hq',rfl⟩:=hat r c hc;exact hl r q' hr hq'
  store:=s1
  keepB:=s2
  ptrB:=s3
  okB:=s4 }
 have hdr:=Step.drew hs
 have hno:∀i,(Array.replicate ops.size false).getD i false=false:=by
  intro i
  rw [Array.getD_eq_getD_getElem?,Array.getElem?_replicate]
  split <;> rfl
 have hstd:Ai X.P eP B (fun i=>(Array.replicate ops.size false).getD i false) QE=QE ++ List.replicate B.length ⟨0,false,.dead⟩:=by
  unfold Ai
  have hm:B.map (kH X.P eP (fun i=>(Array.replicate ops.size false).getD i false))=B.map (fun _=>(⟨0,false,.dead⟩:AO)):=List.map_congr_left fun b hb=>by simp [kH,hno]
  rw [hm,List.map_const']
 refine wp_region_any hf (fr_any hF hR hs.G_le hQ ops.size _ act _ μ ?_ (by simp) (fun i hi=>by rw [hno] at hi;cases hi) ⟨?_,he.size,hd,fun x hx1 hx2=>?_,fun k b hbk hl=>(by simp only [hno] at hl;cases hl),fun k b hbk _=>hs.above (by omega)⟩)
 ·unfold FZ
  exact Nat.le_trans (List.length_filter_le _ _) (by simp)
 ·rw [hstd]
  exact hdr.trans (Step.deads hdr.pJ _)
 ·rw [hR.keep x fun q hq hx=>by have:=hx2 q hq hx;simp only [hno] at this;cases this]
  exact aV.mono hdr.ext hdr.kY _ _ (he.rel x)
end
end Go.dX
namespace Go.dX
def La (T:List DI):Bool:=(List.range T.length).all fun p=>match T[p]? with
 | some t=>t.a.op.pure || (T.drop (p+1)).all fun u=>u.qN.contains t.i
 | none=>true
def vM (P:Program)(G N:Nat)(ops:Array Oper)(l:List (AI×List AI)):Bool:=
 yu (sJ P G N ops l []) fun T=>Nw P G N ops T && T.length == l.length && La T
theorem I5 {T:List DI} (h:La T=true):∀(m:Nat) (t:DI) (p:Nat) (u:DI),T[m]? =some t→t.a.op.pure=false→m<p→T[p]? =some u→t.i∈u.qN:=by
 intro m t p u hm ht hmp hp
 unfold La at h
 rw [List.all_eq_true] at h
 have h1:=h m (List.mem_range.2 (cZ hm))
 rw [hm] at h1
 simp only [ht,Bool.false_or,List.all_eq_true] at h1
 have h2:=h1 u (by
  refine List.mem_of_getElem? (i:=p - (m+1)) ?_
  rw [List.getElem?_drop,show m+1+(p - (m+1))=p by omega];exact hp)
 simpa using h2
theorem Gg {X:Ctx} {run:gW} {e:Env} {a:AI} {σ σ':St} {v:AV} (h:iy X run e a σ=some (false,v,σ')):dK X (nrm run) e a σ=some (v,σ'):=by
 have hc:∀(ρ:bT→AV),eF X run ρ a.op σ=some (false,v,σ')→dO X (nrm run) ρ a.op σ=some (v,σ'):=by
  intro ρ h
  have pl:∀o:Option (AV×St),(o.map fun r=>(false,r))=some (false,v,σ')→o=some (v,σ'):=by
   intro o ho
   rw [Option.map_eq_some_iff] at ho
   obtain⟨q,h1,h2⟩:=ho
   cases h2;exact h1
  cases hop:a.op <;> rw [hop] at h
  case call f args=>
   simp only [eF] at h
   simp only [dO]
   split at h
   ·exact iG.2 h
   ·cases h
  case inv x m args=>
   simp only [eF] at h
   simp only [dO]
   split at h
   ·split at h
    ·exact iG.2 h
    ·cases h
   ·cases h
  case gu x=>
   simp only [eF] at h
   split at h <;> cases h
  case bin op t x y=>
   simp only [eF] at h
   split at h
   ·cases h
   ·exact pl _ h
  all_goals exact pl _ h
 unfold iy at h
 unfold dK
 split at h
 ·exact hc _ h
 ·rename_i g hg
  split at h
  ·cases h
  ·rename_i c hw
   split at h
   ·rename_i hp
    rw [if_pos hp]
    rw [Option.map_eq_some_iff] at h ⊢
    obtain⟨q,h1,h2⟩:=h
    cases h2;exact⟨_,h1,rfl⟩
   ·rename_i hp
    rw [if_neg hp]
    split at h
    ·rename_i hc1
     rw [if_pos hc1]
     split at h
     ·rename_i ha;rw [if_pos ha];exact hc _ h
     ·cases h
    ·rename_i hc1;rw [if_neg hc1];cases h;rfl
theorem EL {X:Ctx} {run:gW} {W:Env} :∀(l:List (AI×List AI)) (e:Env) (σ:St) (q:Out) (e':Env) (σ':St),mQ X run W l e σ=some (q,e',σ')→
 (q= .normal∧o7 X (nrm run) l e σ=some (e',σ'))∨
 ∃ (r:AV) (m:Nat) (a:AI) (ag:List AI) (E:Nat→Env) (S:Nat→St) (V:Nat→AV),q= .gu r∧e'= W∧l[m]? =some (a,ag)∧a.op.pure=false∧E 0=e∧S 0=σ∧iy X run (E m) a (S m)=some (true,r,σ')∧
   ∀ (p:Nat) (a:AI) (ag:List AI),p<m→l[p]? =some (a,ag)→dK X (nrm run) (E p) a (S p)=some (V p,S (p+1))∧E (p+1)=put a.d (V p) (E p)∧∀b∈ag,lq X (E p) (S (p+1)) b=true
 | [],e,σ,q,e',σ',h=>by cases h;exact .inl ⟨rfl,rfl⟩
 | (a,ag) :: l,e,σ,q,e',σ',h=>by
   simp only [mQ] at h
   split at h
   ·rename_i v σ1 hst
    have hst':=Gg hst
    split at h
    ·rename_i hag
     rcases EL l _ _ _ _ _ h with ⟨h1,h2⟩ | ⟨r,m,a1,ag1,E,S,V,h1,h2,h3,h4,h5,h6,h7,h8⟩
     ·refine .inl ⟨h1,?_⟩
      simp only [o7,hst',hag,if_true]
      exact h2
     ·refine .inr ⟨r,m+1,a1,ag1,fun | 0=>e | p+1=>E p,fun | 0=>σ | p+1=>S p,fun | 0=>v | p+1=>V p,h1,h2,h3,h4,rfl,rfl,h7,?_⟩
      intro p a' ag' hpm hp
      cases p with
      | zero=>
        simp only [List.getElem?_cons_zero,Option.some.injEq,Prod.mk.injEq] at hp
        obtain⟨rfl,rfl⟩:=hp
        refine⟨by simpa [h6] using hst',h5,?_⟩
        intro b hb
        simp only [List.all_eq_true] at hag
        simpa [h6] using hag b hb
      | succ p=>exact h8 p a' ag' (by omega) (by simpa using hp)
    ·cases h
   ·rename_i v σ1 hst
    split at h
    ·cases h
    ·rename_i hp
     cases h
     exact .inr ⟨v,0,a,ag,fun _=>e,fun _=>σ,fun _=>.u,rfl,rfl,rfl,by simpa using hp,rfl,rfl,hst,fun p _ _ hpm=>by omega⟩
   ·cases h
theorem wY {X:Ctx} {run:gW} {σ:St} {ρ ρ':bT→AV} {op:dM} (h:∀y∈op.bK,ρ y=ρ' y):eF X run ρ op σ=eF X run ρ' op σ:=by
 have hm:∀l:List bT,(∀y∈l,ρ y=ρ' y)→l.map ρ=l.map ρ':=fun l hl=>List.map_congr_left hl
 have ha:eY X.P ρ op σ=eY X.P ρ' op σ:=yj h
 cases op
 case call f args=>simp only [eF,dM.bK] at h ⊢;rw [h f (by simp),hm args fun y hy=>h y (by simp [hy])]
 case inv x m args=>simp only [eF,dM.bK] at h ⊢;rw [h x (by simp),hm args fun y hy=>h y (by simp [hy])]
 case gu x=>simp only [eF,dM.bK] at h ⊢;rw [h x (by simp)]
 case bin op t x y=>simp only [eF,dM.bK] at h ⊢;rw [ha,h x (by simp),h y (by simp)]
 all_goals exact congrArg (fun o=>Option.map (fun r=>(false,r)) o) ha
theorem Gh {X:Ctx} {run:gW} {σ:St} {e e':Env} {a:AI} (h:∀x∈a.slots,get e x=get e' x):iy X run e a σ=iy X run e' a σ:=by
 have ho:∀y∈a.op.bK,y.ev e=y.ev e':=fun y hy=>sH fun x hx=>h x (by
  simp only [AI.slots,List.mem_append,List.mem_flatMap];exact .inl ⟨y,hy,hx⟩)
 unfold iy
 cases hg:a.gd with
 | none=>exact wY ho
 | some g=>
   obtain⟨n,w⟩:=g
   have hw:eG e (some (n,w))=eG e' (some (n,w)):=by
    simp only [eG]
    rw [h n (by simp [AI.slots,hg])]
   simp only [hw]
   cases eG e' (some (n,w)) with
   | none=>rfl
   | some c=>
     simp only []
     rw [wW ho,all_congr (q:=fun o=>(o.ev e').cnd) fun y hy=>by rw [ho y hy],wY (ρ':=fun o=>(o.ev e').val) fun y hy=>by rw [ho y hy]]
section
variable {X:Ctx} {G N:Nat} {ops:Array Oper} {T:List DI} {run:gW} {m:Nat} {E:Nat→Env} {S:Nat→St} {V:Nat→AV}
theorem Ry {ds:List Deferred} (hX:X.Ok G)(hrun:gY X.P G run)(hT:Tab X.P G N ops T) {t0:DI} (hm:T[m]? =some t0)(hR:Runs X (nrm run) T m E S V) {r:AV} {σ':St} (hpan:iy X run (E m) t0.a (S m)=some (true,r,σ'))
 (hpure:t0.a.op.pure=false) (hdesc:∀(p:Nat) (u:DI),m<p→T[p]? =some u→t0.i∈u.qN) {W:Env} (hW:∀x,get W x= .u∨(get W x=get (E 0) x∧∀(q:Nat) (t:DI),T[q]? =some t→t.a.d≠some x))
 {Q:Exit→Act→World→Prop} {qF:Mu} {iZ:St} {w0:World} (hQ:∀x act' w',nM ds G N qF iZ w0 (.gu r) W σ' x act' w'→Q x act' w') :
 ∀ (fuel:Nat) (listed:Array Bool) (c:Nat) (ec:Env) (act:Act) (w:World) (μ:Mu),(FZ ops.size listed).length≤fuel→listed.size=ops.size→(∀i,listed.getD i false=true→i<ops.size)→
   At X G N ops T m E S V (fun i=>listed.getD i false=true) c ec→Step G qF iZ w0 μ (S c) w→dw G N μ w ec act.tmps→act.defers=ds→
   wpAny X.P .any ops Q fuel listed act w:=by
 have hs0:t0.a.op.still=false:=by
  cases hh:t0.a.op.still with
  | false=>rfl
  | true=>rw [lF hh] at hpure;cases hpure
 have hdone:∀(listed:Array Bool) (c:Nat) (ec:Env),listed.size=ops.size→At X G N ops T m E S V (fun i=>listed.getD i false=true) c ec→Region.ready .any ops listed=[]→False:=by
  intro listed c ec hsz hat hr
  have hall:∀(p:Nat) (t:DI),T[p]? =some t→listed.getD t.i false=true:=by
   intro p
   induction p using Nat.strongRecOn with
   | _ p ih=>
     intro t ht
     cases hl:listed.getD t.i false with
     | true=>rfl
     | false=>
       exfalso
       obtain⟨o,ho,hok⟩:=hT.at' p t ht
       have hlt:t.i<ops.size:=(Array.getElem?_eq_some_iff.1 ho).1
       have:t.i∈Region.ready .any ops listed:=by
         rw [mem_ready]
         refine⟨by rw [iD (by omega)];exact hl,o,ho,fun e he hb=>?_⟩
         obtain⟨q,b,hq,IX,hbi⟩:=hT.edge p t ht e.on ((kG ho).2 ⟨e,he,hb,rfl⟩)
         rw [←hbi];exact ih q hq b IX
       rw [hr] at this;cases this
  have:=hat.lt m t0 hm (hall m t0 hm)
  omega
 intro fuel
 induction fuel with
 | zero=>
   intro listed c ec act w μ hfu hsz hlt hat hst hen hdf
   have hr:Region.ready .any ops listed=[]:=by
    apply List.eq_nil_iff_forall_not_mem.2
    intro i hi
    obtain⟨h0,o,ho,_⟩:=mem_ready.1 hi
    have hil:i<ops.size:=(Array.getElem?_eq_some_iff.1 ho).1
    rw [iD (by omega)] at h0
    have:i∈FZ ops.size listed:=List.mem_filter.2 ⟨List.mem_range.2 hil,by rw [h0];rfl⟩
    have:=List.length_pos_of_mem this
    omega
   exact(hdone listed c ec hsz hat hr).elim
 | succ fuel ih=>
   intro listed c ec act w μ hfu hsz hlt hat hst hen hdf
   refine⟨fun hr=>(hdone listed c ec hsz hat hr).elim,fun i hi=>?_⟩
   obtain⟨h0,o,ho,hbind⟩:=mem_ready.1 hi
   have hil:i<ops.size:=(Array.getElem?_eq_some_iff.1 ho).1
   rw [iD (by omega)] at h0
   obtain⟨p,t,hp,hti⟩:=hT.all i hil
   subst hti
   have hb:∀j∈dW ops t.i,listed.getD j false=true:=fun j hj=>by
    obtain⟨e,he,hbe,rfl⟩:=(kG ho).1 hj
    exact hbind e he hbe
   have hn:¬listed.getD t.i false=true:=by rw [h0];simp
   have D5:=yx hT hat.closed p t hp hb
   rcases Nat.lt_trichotomy p m with hpm | hpm | hpm
   rotate_left
   ·
     subst hpm
     rw [hm] at hp;cases hp
     obtain⟨o',ho',hok'⟩:=hT.at' p t0 hm
     rw [ho] at ho';cases ho'
     have hSp:S p=S c:=gZ hR p c hat.le (Nat.le_refl _) fun q u h1 h2 hq=>by
        cases hpu:u.a.op.pure with
        | true=>rfl
        | false=>
          have hL:=D5 _ (hT.eff q u p t0 h2 hq hm hpu hs0)
          have:=(hat.cut q u hq hpu).2 hL
          omega
     have hst':iy X run ec t0.a (S c)=some (true,r,σ'):=by
        rw [Gh (hat.agree hT hR hm (Nat.le_refl _) hn hb),←hSp];exact hpan
     unfold wpOp
     rw [ho]
     refine yh (ops:=ops) hX hrun hst.pJ hen hok' hst' (fun hb=>by cases hb) (fun _ v w' μ' hv hs'=>?_)
     refine hQ _ _ _ ⟨μ',hst.trans hs',⟨hen.size,fun x=>?_⟩,hdf,v,rfl,hv⟩
     rcases hW x with h1 | ⟨h1,h2⟩
     ·rw [h1];trivial
     ·rw [h1,←hat.kept x fun q u hq _=>h2 q u hq]
      exact aV.mono hs'.ext hs'.kY _ _ (hen.rel x)
   ·
     exact absurd (hat.lt m t0 hm (D5 _ (hdesc p t hpm hp))) (by omega)
   obtain⟨run',a',c',hrun',hok',hstep,hle',hcut'⟩:=hat.next hT hR hp hpm hn hb ho
   have hro:nJ X.P G run':=by
    rcases hrun' with rfl | rfl
    ·exact hrun.nrm
    ·intro f args σ r σ' h;cases h
   unfold wpOp
   rw [ho]
   refine kR (ops:=ops) hX hro hst.pJ hen hok' hstep fun v w' μ' hv hs'=>?_
   have hka:=hok'
   simp only [iR,Bool.and_eq_true,beq_iff_eq] at hka
   have hdt:t.a.d=o.dst:=by
    obtain⟨o',ho',h'⟩:=hT.at' p t hp
    rw [ho] at ho';cases ho'
    simp only [iR,Bool.and_eq_true,beq_iff_eq] at h'
    exact h'.1.1.1.symm
   have hget:∀j,(listed.setIfInBounds t.i true).getD j false=true↔listed.getD j false=true∨j=t.i:=by
    intro j
    by_cases hj:t.i=j
    ·subst hj;simp [Array.getElem?_setIfInBounds,hsz,hil]
    ·rw [getD_set_ne false hj];simp [Ne.symm hj]
   refine ih _ c' (put o.dst (V p) ec) _ w' μ' ?_ (by simpa using hsz) ?_ ⟨?_,hle',?_,?_,?_,?_⟩ (hst.trans hs') ?_ (by rw [dL];exact hdf)
   ·have:=Ah (n:=ops.size) hil hsz h0
    omega
   ·intro j hj
    rcases (hget j).1 hj with h | h
    ·exact hlt j h
    ·rw [h];exact hil
   ·intro j hj k hk
    rw [hget] at hj ⊢
    rcases hj with hj | hj
    ·exact .inl (hat.closed j hj k hk)
    ·rw [hj] at hk;exact .inl (hb k hk)
   ·intro q u hq hu
    rw [hget] at hu
    rcases hu with hu | hu
    ·exact hat.lt q u hq hu
    ·rw [pos_eq hT hq hp hu];exact hpm
   ·intro q u hq hpu
    rw [hcut' q u hq hpu,hget]
    constructor
    ·rintro (h | h)
     ·exact .inl h
     ·subst h;rw [hp] at hq;cases hq;exact .inr rfl
    ·rintro (h | h)
     ·exact .inl h
     ·exact .inr (pos_eq hT hq hp h)
   ·intro q u x hq hu hx
    rw [hget] at hu
    by_cases lH:q=p
    ·subst lH;rw [hp] at hq;cases hq
     rw [←hdt,hx,eU]
    ·rw [dY fun hd=>lH (yA hT hq hp hx (by rw [hdt];exact hd))]
     rcases hu with hu | hu
     ·exact hat.wrote q u x hq hu hx
     ·exact absurd (pos_eq hT hq hp hu) lH
   ·intro x hx
    rw [dY fun hd=>hx p t hp ((hget _).2 (.inr rfl)) (by rw [hdt];exact hd)]
    exact hat.kept x fun q u hq hu=>hx q u hq ((hget _).2 (.inl hu))
   ·have he':=hen.mono hs'.ext hs'.kY
    have hN:rD N o.dst=true:=by rw [hka.1.1.1];exact hka.1.1.2
    exact he'.put hN hv
end
theorem Rz (l:List (AI×List AI))(e:Env)(x:Nat):get (rC l e) x= .u∨(get (rC l e) x=get e x∧∀y∈l,y.1.d≠some x):=by
 unfold rC
 induction l with
 | nil=>exact .inr ⟨rfl,fun y hy=>by cases hy⟩
 | cons y l ih=>
   cases hd:y.1.d with
   | none=>
     rw [List.filterMap_cons_none (f:=fun x:AI×List AI=>x.1.d) hd]
     rcases ih with h | ⟨h1,h2⟩
     ·exact .inl h
     ·refine .inr ⟨h1,fun z hz=>?_⟩
      rcases List.mem_cons.1 hz with rfl | hz
      ·rw [hd];simp
      ·exact h2 z hz
   | some d=>
     rw [List.filterMap_cons_some (f:=fun x:AI×List AI=>x.1.d) hd,List.map_cons,List.cons_append]
     simp only [Go.dX.get]
     by_cases hx:d=x
     ·rw [if_pos hx];exact .inl rfl
     ·rw [if_neg hx]
      rcases ih with h | ⟨h1,h2⟩
      ·exact .inl h
      ·refine .inr ⟨h1,fun z hz=>?_⟩
       rcases List.mem_cons.1 hz with rfl | hz
       ·rw [hd];intro h;cases h;exact hx rfl
       ·exact h2 z hz
end Go.dX
namespace Go.dX
def I7 (a:AI):Bool:=match a with
 | ⟨some _,none,.alloc _⟩=>true
 | _=>false
def m_ (P:Program)(G N:Nat)(ops:Array Oper)(T:List DI)(f:Nat)(q:Nat)(b:DI)(p:Nat)(a:DI):Bool:=
 b.i != a.i &&
 (match b.a.d with
    | some x=>a.a.d != some x && (!(a.a.slots.contains x) || (a.qN.contains b.i && (!(Nat.beq q f) || (List.range f).all fun r=>match T[r]? with
      | some c=>c.a.op.pure || a.qN.contains c.i
      | none=>true)))
    | none=>true) &&
 (match a.a.d with
    | some x=>!(b.a.slots.contains x) || a.qN.contains b.i
    | none=>true) &&
 (b.a.op.pure || a.a.op.still || Nat.beq p f || a.qN.contains b.i) &&
 (a.a.op.pure || !b.a.op.pure || b.a.op.still || a.qN.contains b.i || a.again.any fun b'=>FX P G N ops b.i b' && b'.op.pure && b'.slots.all (fun x=>b.a.slots.contains x && ((T.take p).drop q).all fun r=>r.a.d != some x))
def Lc (P:Program)(G N:Nat)(ops:Array Oper)(T:List DI)(f:Nat):Bool:=
 (match T[f]? with
    | some t=>I7 t.a
    | none=>false) &&
 (List.range ops.size).all (fun i=>T.any (·.i == i)) &&
 (List.range T.length).all fun p=>match T[p]? with
    | some t=>vg P G N ops T p t && (List.range p).all fun q=>match T[q]? with
      | some b=>m_ P G N ops T f q b p t
      | none=>true
    | none=>true
def Ld (P:Program)(G N:Nat)(ops:Array Oper)(l:List (AI×List AI)):Bool:=
 yu (sJ P G N ops l []) fun T=>Lc P G N ops T (T.findIdx fun t=>I7 t.a) && T.length == l.length
structure D6 (P:Program)(G N:Nat)(ops:Array Oper)(T:List DI)(f:Nat)(tf:DI)(fd fe:Nat):Prop where
 O6:T[f]? =some tf
 fa:tf.a=⟨some fd,none,.alloc fe⟩
 all:∀i<ops.size,∃(p:Nat) (t:DI),T[p]? =some t∧t.i=i
 at':∀(p:Nat) (t:DI),T[p]? =some t→∃o,ops[t.i]? =some o∧iR P G N ops o t.a=true
 edge:∀(p:Nat) (t:DI),T[p]? =some t→∀j∈dW ops t.i,∃(q:Nat) (b:DI),q<p∧T[q]? =some b∧b.i=j
 qN:∀(p:Nat) (t:DI),T[p]? =some t→∀j∈t.qN,j∈dW ops t.i∨∃(q:Nat) (b:DI),q<p∧T[q]? =some b∧b.i∈dW ops t.i∧j∈b.qN
 ne:∀(q:Nat) (b:DI) (p:Nat) (a:DI),q<p→T[q]? =some b→T[p]? =some a→b.i≠a.i
 dst:∀(q:Nat) (b:DI) (p:Nat) (a:DI),q<p→T[q]? =some b→T[p]? =some a→∀x,b.a.d=some x→a.a.d≠some x
 raw:∀(q:Nat) (b:DI) (p:Nat) (a:DI),q<p→T[q]? =some b→T[p]? =some a→∀x,b.a.d=some x→x∈a.a.slots→b.i∈a.qN
 rdr:∀(p:Nat) (a:DI),f<p→T[p]? =some a→fd∈a.a.slots→∀(r:Nat) (c:DI),r<f→T[r]? =some c→c.a.op.pure=false→c.i∈a.qN
 war:∀(q:Nat) (b:DI) (p:Nat) (a:DI),q<p→T[q]? =some b→T[p]? =some a→∀x,a.a.d=some x→x∈b.a.slots→b.i∈a.qN
 eff:∀(q:Nat) (b:DI) (p:Nat) (a:DI),q<p→T[q]? =some b→T[p]? =some a→b.a.op.pure=false→a.a.op.still=false→p≠f→b.i∈a.qN
 again:∀(q:Nat) (b:DI) (p:Nat) (a:DI),q<p→T[q]? =some b→T[p]? =some a→a.a.op.pure=false→b.a.op.pure=true→b.a.op.still=false→b.i∉a.qN→
  ∃ b'∈a.again,(∃o,ops[b.i]? =some o∧iR P G N ops o b'= true)∧b'.op.pure=true∧∀x∈b'.slots,x∈b.a.slots∧∀(r:Nat) (c:DI),q≤r→r<p→T[r]? =some c→c.a.d≠some x
theorem Le {a:AI} (h:I7 a=true):∃d e,a=⟨some d,none,.alloc e⟩:=by
 unfold I7 at h
 split at h
 ·exact⟨_,_,rfl⟩
 ·cases h
theorem I8 {P:Program} {G N:Nat} {ops:Array Oper} {T:List DI} {f:Nat} (h:Lc P G N ops T f=true):∃tf fd fe,D6 P G N ops T f tf fd fe:=by
 simp only [Lc,Bool.and_eq_true,List.all_eq_true,List.mem_range,List.any_eq_true,beq_iff_eq] at h
 obtain⟨⟨h0,h1⟩,h2⟩:=h
 obtain⟨tf,fd,fe,hf,hfa⟩:∃tf fd fe,T[f]? =some tf∧tf.a=⟨some fd,none,.alloc fe⟩:=by
  split at h0
  ·rename_i t ht
   obtain⟨d,e,hde⟩:=Le h0
   exact⟨t,d,e,ht,hde⟩
  ·cases h0
 have one:∀(p:Nat) (t:DI),T[p]? =some t→vg P G N ops T p t=true:=by
  intro p t ht
  have:=h2 p (cZ ht)
  rw [ht] at this
  simp only [Bool.and_eq_true] at this
  exact this.1
 have pair:∀(q:Nat) (b:DI) (p:Nat) (a:DI),q<p→T[q]? =some b→T[p]? =some a→m_ P G N ops T f q b p a=true:=by
  intro q b p a lH hb ha
  have:=h2 p (cZ ha)
  rw [ha] at this
  simp only [Bool.and_eq_true,List.all_eq_true,List.mem_range] at this
  have:=this.2 q lH
  rw [hb] at this
  exact this
 refine⟨tf,fd,fe,hf,hfa,?_,?_,?_,?_,?_,?_,?_,?_,?_,?_,?_⟩
 ·intro i hi
  obtain⟨t,ht,hti⟩:=h1 i hi
  obtain⟨p,hp⟩:=List.getElem?_of_mem ht
  exact⟨p,t,hp,hti⟩
 ·intro p t ht
  have:=one p t ht
  simp only [vg,Bool.and_eq_true] at this
  exact lG this.1.1
 ·intro p t ht j hj
  have:=one p t ht
  simp only [vg,Bool.and_eq_true,List.all_eq_true,List.any_eq_true,beq_iff_eq] at this
  obtain⟨b,hb,hbj⟩:=this.1.2 j hj
  obtain⟨q,hq,IX⟩:=qm hb
  exact⟨q,b,hq,IX,hbj⟩
 ·intro p t ht j hj
  have:=one p t ht
  simp only [vg,Bool.and_eq_true,List.all_eq_true,List.any_eq_true,beq_iff_eq,Bool.or_eq_true,List.contains_iff_mem] at this
  rcases this.2 j hj with h | ⟨b,hb,hbj⟩
  ·exact .inl h
  ·obtain⟨q,hq,IX⟩:=qm hb
   exact .inr ⟨q,b,hq,IX,hbj.1,hbj.2⟩
 ·intro q b p a lH hb ha
  have:=pair q b p a lH hb ha
  simp only [m_,Bool.and_eq_true,bne_iff_ne] at this
  exact this.1.1.1.1
 ·intro q b p a lH hb ha x hx
  have:=pair q b p a lH hb ha
  simp only [m_,Bool.and_eq_true,hx,bne_iff_ne] at this
  exact this.1.1.1.2.1
 ·intro q b p a lH hb ha x hx hs
  have:=pair q b p a lH hb ha
  simp only [m_,Bool.and_eq_true,hx,Bool.or_eq_true,Bool.not_eq_true',List.contains_iff_mem] at this
  rcases this.1.1.1.2.2 with h | h
  ·rw [List.contains_eq_mem] at h;simp at h;exact absurd hs h
  ·exact h.1
 ·intro p a hfp ha hs r c hr hc hcp
  have:=pair f tf p a hfp hf ha
  have hx:tf.a.d=some fd:=by rw [hfa]
  simp only [m_,Bool.and_eq_true,hx,Bool.or_eq_true,Bool.not_eq_true',List.contains_iff_mem] at this
  rcases this.1.1.1.2.2 with h | h
  ·rw [List.contains_eq_mem] at h;simp at h;exact absurd hs h
  ·rcases h.2 with h | h
   ·rw [Nat.beq_refl] at h;cases h
   ·rw [List.all_eq_true] at h
    have h3:=h r (List.mem_range.2 hr)
    rw [hc] at h3
    simpa [hcp] using h3
 ·intro q b p a lH hb ha x hx hs
  have:=pair q b p a lH hb ha
  simp only [m_,Bool.and_eq_true,hx,Bool.or_eq_true,Bool.not_eq_true',List.contains_iff_mem] at this
  rcases this.1.1.2 with h | h
  ·rw [List.contains_eq_mem] at h;simp at h;exact absurd hs h
  ·exact h
 ·intro q b p a lH hb ha hx hs hpf
  have:=pair q b p a lH hb ha
  simp only [m_,Bool.and_eq_true,hx,hs,Bool.or_eq_true,List.contains_iff_mem,Bool.false_eq_true,false_or] at this
  rcases this.1.2 with h | h
  ·exact absurd (Nat.eq_of_beq_eq_true h) hpf
  ·exact h
 ·intro q b p a lH hb ha hx hs1 hs hn
  have:=pair q b p a lH hb ha
  simp only [m_,Bool.and_eq_true,hx,hs,hs1,Bool.or_eq_true,List.contains_iff_mem,Bool.false_eq_true,false_or,Bool.not_true,or_false,hn,List.any_eq_true,List.all_eq_true,bne_iff_ne] at this
  obtain⟨b',hb',⟨h3,h4⟩,h5⟩:=this.2
  refine⟨b',hb',lG h3,h4,fun x hx=>⟨(h5 x hx).1,fun r c hr hrp hc=>(h5 x hx).2 c ?_⟩⟩
  refine List.mem_of_getElem? (i:=r - q) ?_
  rw [List.getElem?_drop,List.getElem?_take,if_pos (by omega),show q+(r - q)=r by omega]
  exact hc
section
variable {G:Nat} {qF μ:Mu} {iZ σ:St} {w0 w:World}
theorem Step.pend (h:gQ G μ σ w)(x:Obj):Step G μ σ w μ σ { w with heap:=w.heap.push x } :=by
 have hw:=jH.push w x
 have hold:∀b,b<w.heap.size→({ w with heap:=w.heap.push x } :World).heap[b]? =w.heap[b]? :=fun b hb=>by
  show (w.heap.push x)[b]? =_
  rw [Array.getElem?_push,if_neg (by omega)]
 refine⟨⟨fun o a ho hl=>?_,h.inj,h.dom,fun o g b δ q=>?_,h.qI,h.low,fun g e cs hg ho=>hw _ _ _ (h.full g e cs hg ho)⟩,fun _ _ _ h=>h,hw,rfl,rfl,rfl,by simp,fun b hb _=>hold b hb,fun o a b δ h1 h2 h3 h4 _=>⟨o,a,δ,h1,h2,h3,h4⟩,fun o a b δ h1 h3 h4 _=>⟨o,a,δ,h1,h3,h4⟩⟩
 ·obtain⟨b,δ,h1,h2⟩:=h.obj o a ho hl
  exact⟨b,δ,h1,rV.mono (Mu.le_refl μ) hw (hold b (h.blk _ _ _ _ h1)) h2⟩
 ·have:=h.blk _ _ _ _ q
  simp;omega
structure RD (w0:World)(μ:Mu)(σ:St)(w:World)(e:Nat)(dZ:Array Value)(b:Nat):Prop where
 new:w0.heap.size≤b
 blk:w.heap[b]? =some (.cells dZ e)
 free:∀(o:Nat) a δ,σ[o]? =some a→a.k.live=true→μ o a.g≠some (b,δ)
theorem RD.step {e:Nat} {dZ:Array Value} {b:Nat} {μ':Mu} {σ':St} {w':World} (h:RD w0 μ σ w e dZ b)(k:Step G μ σ w μ' σ' w'):RD w0 μ' σ' w' e dZ b:=by
 have hlt:=lt_of_heap h.blk
 refine⟨h.new,?_,fun o a δ h1 h2 h3=>?_⟩
 ·rw [k.frame b hlt fun o a δ h1 _ h3=>h.free o a δ h1 h3];exact h.blk
 ·obtain⟨o2,a2,xY,q1,q2,q3⟩:=k.MW o a b δ h1 h2 h3 hlt
  exact h.free o2 a2 xY q1 q2 q3
theorem Step.adopt {e:Nat} {dZ:Array Value} {b:Nat} {cs:List AV} (h:Step G qF iZ w0 μ σ w)(hp:RD w0 μ σ w e dZ b)(hr:aY μ w cs dZ.toList) :
 Step G qF iZ w0 (μ.upd σ.length 0 (b,0)) (dD e cs σ) w:=by
 have hs:=h.pJ
 have hnone:μ σ.length 0=none:=hs.above (Nat.le_refl _)
 have hle:=Mu.o8 (x:=(b,0)) hnone
 have hlt:=lt_of_heap hp.blk
 have hlen:=hr.length
 simp only [Array.length_toList] at hlen
 have hcase:∀(o:Nat) a',(dD e cs σ)[o]? =some a'→(σ[o]? =some a'∧o≠σ.length)∨(o=σ.length∧a'= ⟨0,false,.cells e cs⟩):=by
  intro o a' ho
  unfold dD at ho
  rcases Nat.lt_trichotomy o σ.length with hl | he | hg
  ·rw [List.getElem?_append_left hl] at ho;exact .inl ⟨ho,by omega⟩
  ·subst he;simp at ho;exact .inr ⟨rfl,ho.symm⟩
  ·rw [List.getElem?_eq_none (by simp;omega)] at ho;cases ho
 refine⟨⟨?_,?_,?_,?_,?_,?_,?_⟩,fun o g x q=>hle _ _ _ (h.ext _ _ _ q),h.kY,h.os,h.tape,h.output,h.size,h.frame,?_,?_⟩
 ·intro o a' ho hl
  rcases hcase o a' ho with ⟨ho',hne⟩ | ⟨rfl,rfl⟩
  ·obtain⟨b1,δ,h1,h2⟩:=hs.obj o a' ho' hl
   exact⟨b1,δ,hle _ _ _ h1,rV.mono hle (jH.refl _) rfl h2⟩
  ·refine⟨b,0,Mu.bY _ _ _ _,dZ,(0,0),hp.blk,by omega,fun j c hj=>?_,fun _ j _ hj=>by omega⟩
   obtain⟨v,r1,r2⟩:=hr.get j c hj
   exact⟨v,by rw [Nat.zero_add];simpa using r1,aV.mono hle (jH.refl _) c v r2⟩
 ·intro o o' a1 a2 b1 δ yZ ho ho' hro hl1 hl2 hb1 hb2
  rcases hcase o a1 ho with ⟨ho1,hne⟩ | ⟨rfl,rfl⟩ <;> rcases hcase o' a2 ho' with ⟨ho2,hne'⟩ | ⟨rfl,rfl⟩
  ·rw [Mu.upd_ne (by simp [hne])] at hb1
   rw [Mu.upd_ne (by simp [hne'])] at hb2
   exact hs.inj o o' a1 a2 b1 δ yZ ho1 ho2 hro hl1 hl2 hb1 hb2
  ·rw [Mu.upd_ne (by simp [hne])] at hb1
   rw [Mu.bY] at hb2
   cases hb2
   exact absurd hb1 (hp.free o a1 δ ho1 hl1)
  ·rw [Mu.upd_ne (by simp [hne'])] at hb2
   rw [Mu.bY] at hb1
   cases hb1
   exact absurd hb2 (hp.free o' a2 yZ ho2 hl2)
  ·rfl
 ·intro o g y hy
  by_cases he:o=σ.length∧g=0
  ·exact⟨⟨0,false,.cells e cs⟩,by rw [he.1];simp [dD],by rw [he.2];exact Nat.zero_le _⟩
  ·rw [Mu.upd_ne he] at hy
   obtain⟨a',ha,hle'⟩:=hs.dom _ _ _ hy
   exact⟨a',by unfold dD;rw [List.getElem?_append_left (cZ ha)];exact ha,hle'⟩
 ·intro o g b1 δ hy
  by_cases he:o=σ.length∧g=0
  ·rw [he.1,he.2,Mu.bY] at hy;cases hy;exact hlt
  ·rw [Mu.upd_ne he] at hy;exact hs.blk _ _ _ _ hy
 ·intro g hg'
  exact hle _ _ _ (hs.qI g hg')
 ·intro o b1 δ hy
  by_cases he:o=σ.length∧(0:Nat)=0
  ·rw [he.1,Mu.bY] at hy;cases hy;rfl
  ·rw [Mu.upd_ne he] at hy;exact hs.low _ _ _ hy
 ·intro g e' cs' hg' ho
  rcases hcase g _ ho with ⟨ho',_⟩ | ⟨rfl,h1⟩
  ·exact hs.full g e' cs' hg' ho'
  ·cases h1
 ·intro o a' b1 δ ho hro hl hb1 hb2
  rcases hcase o a' ho with ⟨ho1,hne⟩ | ⟨rfl,rfl⟩
  ·rw [Mu.upd_ne (by simp [hne])] at hb1
   exact h.prov o a' b1 δ ho1 hro hl hb1 hb2
  ·rw [Mu.bY] at hb1;cases hb1;exact absurd hb2 (Nat.not_lt.2 hp.new)
 ·intro o a' b1 δ ho hl hb1 hb2
  rcases hcase o a' ho with ⟨ho1,hne⟩ | ⟨rfl,rfl⟩
  ·rw [Mu.upd_ne (by simp [hne])] at hb1
   exact h.MW o a' b1 δ ho1 hl hb1 hb2
  ·rw [Mu.bY] at hb1;cases hb1;exact absurd hb2 (Nat.not_lt.2 hp.new)
end
end Go.dX
namespace Go.dX
section
variable {X:Ctx} {G N:Nat} {ops:Array Oper} {T:List DI} {f:Nat} {tf:DI} {fd fe:Nat}
theorem uG (hT:D6 X.P G N ops T f tf fd fe) {L:Nat→Prop} (hc:Closed ops L):∀(p:Nat) (t:DI),T[p]? =some t→(∀j∈dW ops t.i,L j)→∀j∈t.qN,L j:=by
 intro p
 induction p using Nat.strongRecOn with
 | _ p ih=>
   intro t ht hb j hj
   rcases hT.qN p t ht j hj with h | ⟨q,b,hq,IX,hbi,hjb⟩
   ·exact hb j h
   ·exact ih q hq b IX (hc _ (hb _ hbi)) j hjb
theorem wZ (hT:D6 X.P G N ops T f tf fd fe) {p q:Nat} {t u:DI} (hp:T[p]? =some t)(hq:T[q]? =some u)(h:t.i=u.i):p=q:=by
 rcases Nat.lt_trichotomy p q with hl | hl | hl
 ·exact absurd h (hT.ne p t q u hl hp hq)
 ·exact hl
 ·exact absurd h.symm (hT.ne q u p t hl hq hp)
theorem oL (hT:D6 X.P G N ops T f tf fd fe) {p q:Nat} {t u:DI} {x:Nat} (hp:T[p]? =some t)(hq:T[q]? =some u)(h:t.a.d=some x)(k:u.a.d=some x):p=q:=by
 rcases Nat.lt_trichotomy p q with hl | hl | hl
 ·exact absurd k (hT.dst p t q u hl hp hq x h)
 ·exact hl
 ·exact absurd h (hT.dst q u p t hl hq hp x k)
variable {run:Run} {m:Nat} {E:Nat→Env} {S:Nat→St} {V:Nat→AV}
theorem vN (hT:D6 X.P G N ops T f tf fd fe)(hR:Runs X run T m E S V) {x q p:Nat} {t:DI} (hq:T[q]? =some t)(hx:t.a.d=some x)(lH:q<p)(hp:p≤m):get (E p) x=V q:=by
 rw [iT hR p (q+1) (by omega) hp fun r c h1 h2 h3=>hT.dst q t r c (by omega) hq h3 x hx,hR.env q t (by omega) hq,hx,eU]
def Ahead (T:List DI)(f:Nat)(L:Nat→Prop):Prop:=∀(r:Nat) (c:DI),r<f→T[r]? =some c→c.a.op.pure=false→L c.i
structure QF (ops:Array Oper)(T:List DI)(f:Nat)(tf:DI)(E:Nat→Env)(V:Nat→AV)(pend:Bool)(L:Nat→Prop)(c:Nat)(ec:Env):Prop where
 closed:Closed ops L
 le:c≤T.length
 cut:∀(q:Nat) (t:DI),T[q]? =some t→t.a.op.pure=false→q≠f→(q<c↔L t.i)
 RF:pend=false→(f<c↔L tf.i)
 cutp:pend=true→L tf.i∧c≤f
 wrote:∀(q:Nat) (t:DI) (x:Nat),T[q]? =some t→L t.i→t.a.d=some x→(q=f→pend=false)→get ec x=V q
 kept:∀(x:Nat),(∀(q:Nat) (t:DI),T[q]? =some t→L t.i→t.a.d≠some x)→get ec x=get (E 0) x
variable {L:Nat→Prop} {c:Nat} {ec:Env} {pend:Bool}
theorem QF.agree (hT:D6 X.P G N ops T f tf fd fe)(hR:Runs X run T T.length E S V)(h:QF ops T f tf E V pend L c ec)(hw:pend=true→¬Ahead T f L) {p:Nat} {t:DI} (hp:T[p]? =some t)(hn:¬L t.i)(hb:∀j∈dW ops t.i,L j) :
 ∀ x∈t.a.slots,get ec x=get (E p) x:=by
 intro x hx
 have hlen:=Nat.le_of_lt (cZ hp)
 by_cases hw':∃(q:Nat) (u:DI),T[q]? =some u∧u.a.d=some x
 ·obtain⟨q,u,hq,hu⟩:=hw'
  rcases Nat.lt_trichotomy q p with hl | hl | hl
  ·have hL:=uG hT h.closed p t hp hb _ (hT.raw q u p t hl hq hp x hu hx)
   rw [h.wrote q u x hq hL hu fun BN=>?_,vN hT hR hq hu hl hlen]
   cases zG:pend with
   | false=>rfl
   | true=>
     exfalso
     subst BN
     rw [hT.O6] at hq
     cases hq
     rw [hT.fa] at hu
     obtain rfl:fd=x:=Option.some.inj hu
     exact hw zG fun r c hr hc hcp=>uG hT h.closed p t hp hb _ (hT.rdr p t hl hp hx r c hr hc hcp)
  ·subst hl
   rw [hp] at hq;cases hq
   rw [h.kept x fun r v hr hv hd=>by
        have hpr:=oL hT hp hr hu hd
        subst hpr
        rw [hp] at hr;cases hr
        exact hn hv]
   rw [iT hR q 0 (by omega) (by omega) fun r v _ h2 hr hd=>by have:=oL hT hp hr hu hd;omega]
  ·have hA:=hT.war p t q u hl hp hq x hu hx
   have hnu:¬L u.i:=fun hL=>hn (uG hT h.closed q u hq (h.closed _ hL) _ hA)
   rw [h.kept x fun r v hr hv hd=>by
        have:=oL hT hq hr hu hd
        subst this
        rw [hq] at hr;cases hr
        exact hnu hv]
   rw [iT hR p 0 (by omega) (by omega) fun r v _ h2 hr hd=>by have:=oL hT hq hr hu hd;omega]
 ·rw [h.kept x fun r v hr _ hd=>hw' ⟨r,v,hr,hd⟩]
  rw [iT hR p 0 (by omega) (by omega) fun r v _ _ hr hd=>hw' ⟨r,v,hr,hd⟩]
theorem QF.next (hT:D6 X.P G N ops T f tf fd fe)(hR:Runs X run T T.length E S V)(h:QF ops T f tf E V pend L c ec)(hw:pend=true→¬Ahead T f L) {p:Nat} {t:DI} (hp:T[p]? =some t)(hpf:p≠f)(hn:¬L t.i)(hb:∀j∈dW ops t.i,L j)
 {o:Oper} (ho:ops[t.i]? =some o) :
 ∃ run' a' c',(run'= run∨run'= fun _ _ _=>none)∧iR X.P G N ops o a'= true∧dK X run' ec a' (S c)=some (V p,S c')∧c'≤T.length∧
   (∀(q:Nat) (u:DI),T[q]? =some u→u.a.op.pure=false→q≠f→(q<c'↔L u.i∨q=p))∧(pend=false→(f<c'↔L tf.i))∧(pend=true→c'≤f):=by
 have hlen:=cZ hp
 have hok:iR X.P G N ops o t.a=true:=by
  obtain⟨o',ho',h'⟩:=hT.at' p t hp
  rw [ho] at ho';cases ho';exact h'
 have hag:=h.agree hT hR hw hp hn hb
 have D5:=uG hT h.closed p t hp hb
 have hst:=hR.step p t hlen hp
 have hftp:tf.a.op.pure=false:=by simp [hT.fa,dM.pure]
 have hno:t.a.op.still=false→pend=true→¬f<p:=fun hs zG hfp=>hw zG fun r u hr hu hpu=>D5 _ (hT.eff r u p t (by omega) hu hp hpu hs hpf)
 have hbef:t.a.op.still=false→∀(r:Nat) (u:DI),r<p→T[r]? =some u→u.a.op.pure=false→r<c:=by
  intro hs r u hr hu hpu
  have hL:=D5 _ (hT.eff r u p t hr hu hp hpu hs hpf)
  by_cases hrf:r=f
  ·subst hrf
   rw [hT.O6] at hu
   cases hu
   cases zG:pend with
   | false=>exact(h.RF zG).2 hL
   | true=>exact absurd hr (hno hs zG)
  ·exact(h.cut r u hu hpu hrf).2 hL
 have wX:t.a.op.still=false→c≤p→S p=S c:=fun hs hcp=>gZ hR p c hcp (by omega) fun r u h1 h2 hr=>by
  cases hpu:u.a.op.pure with
  | true=>rfl
  | false=>have:=hbef hs r u h2 hr hpu;omega
 cases hpure:t.a.op.pure with
 | false=>
   have hs:t.a.op.still=false:=by
    cases hh:t.a.op.still with
    | false=>rfl
    | true=>rw [lF hh] at hpure;cases hpure
   have hcp:c≤p:=by
    apply Nat.le_of_not_lt
    intro hlt
    exact hn ((h.cut p t hp hpure hpf).1 hlt)
   refine⟨run,t.a,p+1,.inl rfl,hok,?_,by omega,?_,fun zG=>?_,fun zG=>?_⟩
   ·rw [f_ hag,←wX hs hcp];exact hst
   ·intro q u hq hpu BN
    constructor
    ·intro hlt
     by_cases lH:q=p
     ·exact .inr lH
     ·exact .inl (D5 _ (hT.eff q u p t (by omega) hq hp hpu hs hpf))
    ·intro hL
     rcases hL with hL | hL
     ·apply Nat.lt_of_not_le
      intro hle
      have hA:=hT.eff p t q u (by omega) hp hq hpure (by
       cases hh:u.a.op.still with
       | false=>rfl
       | true=>rw [lF hh] at hpu;cases hpu) BN
      exact hn (uG hT h.closed q u hq (h.closed _ hL) _ hA)
     ·omega
   ·constructor
    ·intro hlt
     exact D5 _ (hT.eff f tf p t (by omega) hT.O6 hp hftp hs hpf)
    ·intro hL
     have:=(h.RF zG).2 hL
     omega
   ·have:=hno hs zG
    omega
 | true=>
   have hcut:∀(q:Nat) (u:DI),T[q]? =some u→u.a.op.pure=false→q≠f→(q<c↔L u.i∨q=p):=by
    intro q u hq hpu BN
    rw [h.cut q u hq hpu BN]
    constructor
    ·exact .inl
    ·rintro (h | h)
     ·exact h
     ·subst h;rw [hp] at hq;cases hq;rw [hpure] at hpu;cases hpu
   have hc1:=h.RF
   have hc2:pend=true→c≤f:=fun zG=>(h.cutp zG).2
   cases hs:t.a.op.still with
   | true=>exact⟨run,t.a,c,.inl rfl,hok,by rw [f_ hag];exact zy hs hst _,h.le,hcut,hc1,hc2⟩
   | false=>
     have hSp:S (p+1)=S p:=jl hpure hst
     by_cases hcp:c≤p
     ·refine⟨run,t.a,c,.inl rfl,hok,?_,h.le,hcut,hc1,hc2⟩
      rw [f_ hag,←wX hs hcp,hst,hSp]
     ·rcases BJ T p c with hex | ⟨q,u,h1,h2,hq,hpu,hlast⟩
      rotate_left
      ·have lH:p<q:=by
          rcases Nat.lt_or_ge p q with hl | hl
          ·exact hl
          ·have:q=p:=by omega
           subst this;rw [hp] at hq;cases hq;rw [hpure] at hpu;cases hpu
       have hLu:L u.i:=by
          by_cases BN:q=f
          ·subst BN
           rw [hT.O6] at hq
           cases hq
           cases zG:pend with
           | false=>exact(hc1 zG).1 h2
           | true=>have:=hc2 zG;omega
          ·exact(h.cut q u hq hpu BN).1 h2
       have hnA:t.i∉u.qN:=fun hA=>hn (uG hT h.closed q u hq (h.closed _ hLu) _ hA)
       obtain⟨b',hb',⟨o',ho',hok'⟩,hbp,hsl⟩:=hT.again p t q u lH hp hq hpu hpure hs hnA
       rw [ho] at ho';cases ho'
       have hqm:q<T.length:=Nat.lt_of_lt_of_le h2 h.le
       have FY:=hR.again q u hqm hq b' hb'
       have hSc:S c=S (q+1):=gZ hR c (q+1) (by omega) h.le fun r v h3 h4 hr=>hlast r v (by omega) h4 hr
       have hd:b'.d=t.a.d:=by
          simp only [iR,Bool.and_eq_true,beq_iff_eq] at hok hok'
          rw [←hok.1.1.1,←hok'.1.1.1]
       refine⟨fun _ _ _=>none,b',c,.inr rfl,hok',?_,h.le,hcut,hc1,hc2⟩
       unfold lq at FY
       split at FY
       ·rename_i d v σ1 hbd hstep
        have hv:=AV.oW _ _ FY
        have hσ1:=jl hbp hstep
        subst hσ1
        rw [hd] at hbd
        rw [vN hT hR hp hbd lH (by omega)] at hv
        rw [hSc,f_ (e':=E q),hstep,hv]
        intro x hx
        rw [hag x (hsl x hx).1]
        rw [iT hR q p (by omega) (by omega) fun r v h3 h4 hr=>(hsl x hx).2 r v h3 h4 hr]
       ·cases FY
      ·have hSc:S c=S p:=gZ hR c p (by omega) h.le hex
       refine⟨run,t.a,c,.inl rfl,hok,?_,h.le,hcut,hc1,hc2⟩
       rw [f_ hag,hSc,hst,hSp]
def PD (P:Program)(fd fe:Nat)(w0:World)(μ:Mu)(σ:St)(w:World)(tmps:Array Value):Prop:=
 ∃ b z A,aH P fe=some A∧xU z=A.zero∧RD w0 μ σ w fe z.cells b∧tmps.getD fd undef= .pointer (some ⟨b,0,none⟩)
section
variable {qF μ:Mu} {iZ:St} {w0 w:World} {tmps:Array Value}
theorem QF.adopt (hT:D6 X.P G N ops T f tf fd fe)(hR:Runs X run T T.length E S V)(h:QF ops T f tf E V true L c ec)(ha:Ahead T f L)(hst:Step G qF iZ w0 μ (S c) w)(hen:dw G N μ w ec tmps)(zG:PD X.P fd fe w0 μ (S c) w tmps) :
 ∃ μ' ec',QF ops T f tf E V false L (f+1) ec'∧Step G qF iZ w0 μ' (S (f+1)) w∧dw G N μ' w ec' tmps:=by
 obtain⟨hL,hcf⟩:=h.cutp rfl
 obtain⟨b,z,A,hA,hz,hp,htm⟩:=zG
 have hfl:=cZ hT.O6
 have hS:S f=S c:=gZ hR f c hcf (by omega) fun r u h1 h2 hr=>by
  cases hpu:u.a.op.pure with
  | true=>rfl
  | false=>have:=(h.cut r u hr hpu (by omega)).2 (ha r u h2 hr hpu);omega
 have hstep:=hR.step f tf hfl hT.O6
 rw [hT.fa,Gf,hA,hS] at hstep
 simp only [Option.map_some,Option.some.injEq,Prod.mk.injEq] at hstep
 obtain⟨hV,hS1⟩:=hstep
 have hdf:tf.a.d=some fd:=by rw [hT.fa]
 have hle:=Mu.o8 (g:=0) (x:=(b,0)) (hst.pJ.above (Nat.le_refl (S c).length))
 refine⟨μ.upd (S c).length 0 (b,0),put (some fd) (V f) ec,⟨h.closed,by omega,fun q u hq hpu BN=>?_,fun _=>?_,fun hh=>(by cases hh),fun q u x hq hu hx _=>?_,fun x hx=>?_⟩,?_,hen.size,fun x=>?_⟩
 ·constructor
  ·intro hlt;exact ha q u (by omega) hq hpu
  ·intro hu;have:=(h.cut q u hq hpu BN).2 hu;omega
 ·exact⟨fun _=>hL,fun _=>by omega⟩
 ·by_cases BN:q=f
  ·subst BN
   rw [hT.O6] at hq
   cases hq
   rw [hdf] at hx;cases hx
   exact eU
  ·rw [dY fun hd=>BN (oL hT hq hT.O6 hx (hdf.trans hd))]
   exact h.wrote q u x hq hu hx fun hh=>absurd hh BN
 ·rw [dY fun hd=>hx f tf hT.O6 hL (hdf.trans hd)]
  exact h.kept x hx
 ·rw [←hS1]
  exact Step.adopt hst hp (qc hz)
 ·by_cases hx:fd=x
  ·subst hx
   rw [eU,←hV,htm]
   exact⟨b,0,Mu.bY _ _ _ _,rfl⟩
  ·rw [dY fun hd=>hx (Option.some.inj hd)]
   exact aV.mono hle (jH.refl _) _ _ (hen.rel x)
theorem QF.norm (hT:D6 X.P G N ops T f tf fd fe)(hR:Runs X run T T.length E S V)(h:QF ops T f tf E V pend L c ec)(hst:Step G qF iZ w0 μ (S c) w)(hen:dw G N μ w ec tmps)(zG:pend=true→PD X.P fd fe w0 μ (S c) w tmps) :
 ∃ I9 c' μ' ec',QF ops T f tf E V I9 L c' ec'∧Step G qF iZ w0 μ' (S c') w∧dw G N μ' w ec' tmps∧(I9=true→PD X.P fd fe w0 μ' (S c') w tmps)∧(I9=true→¬Ahead T f L):=by
 by_cases hc:pend=true∧Ahead T f L
 ·obtain⟨rfl,ha⟩:=hc
  obtain⟨μ',ec',h1,h2,h3⟩:=h.adopt hT hR ha hst hen (zG rfl)
  exact⟨false,f+1,μ',ec',h1,h2,h3,fun hh=>(by cases hh),fun hh=>(by cases hh)⟩
 ·exact⟨pend,c,μ,ec,h,hst,hen,zG,fun h1 h2=>hc ⟨h1,h2⟩⟩
end
theorem RG {ds:List Deferred} (hX:X.Ok G)(hrun:nJ X.P G run)(hT:D6 X.P G N ops T f tf fd fe)(hR:Runs X run T T.length E S V) {Q:Exit→Act→World→Prop} {qF:Mu} {iZ:St} {w0:World}
 (hQ:∀act' w',sG ds G N qF iZ w0 (E T.length) (S T.length) act' w'→Q .normal act' w') :
 ∀ (fuel:Nat) (listed:Array Bool) (pend:Bool) (c:Nat) (ec:Env) (act:Act) (w:World) (μ:Mu),(FZ ops.size listed).length≤fuel→listed.size=ops.size→
   QF ops T f tf E V pend (fun i=>listed.getD i false=true) c ec→Step G qF iZ w0 μ (S c) w→dw G N μ w ec act.tmps→(pend=true→PD X.P fd fe w0 μ (S c) w act.tmps)→act.defers=ds→
   wpAny X.P .any ops Q fuel listed act w:=by
 have hdone:∀(listed:Array Bool) (pend:Bool) (c:Nat) (ec:Env) (act:Act) (w:World) (μ:Mu),listed.size=ops.size→
  QF ops T f tf E V pend (fun i=>listed.getD i false=true) c ec→Step G qF iZ w0 μ (S c) w→dw G N μ w ec act.tmps→(pend=true→¬Ahead T f (fun i=>listed.getD i false=true))→act.defers=ds→Region.ready .any ops listed=[]→Q .normal act w:=by
  intro listed pend c ec act w μ hsz hat hst hen hw hdf hr
  have hall:∀(p:Nat) (t:DI),T[p]? =some t→listed.getD t.i false=true:=by
   intro p
   induction p using Nat.strongRecOn with
   | _ p ih=>
     intro t ht
     cases hl:listed.getD t.i false with
     | true=>rfl
     | false=>
       exfalso
       obtain⟨o,ho,hok⟩:=hT.at' p t ht
       have hlt:t.i<ops.size:=(Array.getElem?_eq_some_iff.1 ho).1
       have:t.i∈Region.ready .any ops listed:=by
         rw [mem_ready]
         refine⟨by rw [iD (by omega)];exact hl,o,ho,fun e he hb=>?_⟩
         obtain⟨q,b,hq,IX,hbi⟩:=hT.edge p t ht e.on ((kG ho).2 ⟨e,he,hb,rfl⟩)
         rw [←hbi];exact ih q hq b IX
       rw [hr] at this;cases this
  have hpf:pend=false:=by
   cases zG:pend with
   | false=>rfl
   | true=>exact absurd (fun r u _ hu _=>hall r u hu) (hw zG)
  refine hQ _ _ ⟨μ,?_,⟨hen.size,fun x=>?_⟩,hdf⟩
  ·have:S T.length=S c:=gZ hR _ c hat.le (Nat.le_refl _) fun r v h1 h2 hv=>by
        cases hh:v.a.op.pure with
        | true=>rfl
        | false=>
          by_cases hrf:r=f
          ·have:=(hat.RF hpf).2 (hall f tf hT.O6);omega
          ·have:=(hat.cut r v hv hh hrf).2 (hall r v hv);omega
   rw [this];exact hst
  ·have hx:get ec x=get (E T.length) x:=by
        by_cases hw:∃(q:Nat) (u:DI),T[q]? =some u∧u.a.d=some x
        ·obtain⟨q,u,hq,hu⟩:=hw
         rw [hat.wrote q u x hq (hall q u hq) hu fun _=>hpf,vN hT hR hq hu (cZ hq) (Nat.le_refl _)]
        ·rw [hat.kept x fun r v hr _ hd=>hw ⟨r,v,hr,hd⟩]
         rw [iT hR T.length 0 (by omega) (by omega) fun r v _ _ hr hd=>hw ⟨r,v,hr,hd⟩]
   rw [←hx];exact hen.rel x
 intro fuel
 induction fuel with
 | zero=>
   intro listed pend c ec act w μ hfu hsz hat hst hen zG hdf
   obtain⟨I9,c',μ',ec',hat',hst',hen',_,hw⟩:=hat.norm hT hR hst hen zG
   have hr:Region.ready .any ops listed=[]:=by
    apply List.eq_nil_iff_forall_not_mem.2
    intro i hi
    obtain⟨h0,o,ho,_⟩:=mem_ready.1 hi
    have hil:i<ops.size:=(Array.getElem?_eq_some_iff.1 ho).1
    rw [iD (by omega)] at h0
    have:i∈FZ ops.size listed:=List.mem_filter.2 ⟨List.mem_range.2 hil,by rw [h0];rfl⟩
    have:=List.length_pos_of_mem this
    omega
   exact⟨hr,hdone listed I9 c' ec' act w μ' hsz hat' hst' hen' hw hdf hr⟩
 | succ fuel ih=>
   intro listed pend0 c0 ec0 act w μ00 hfu hsz hat0 hst0 I_ hpd0 hdf
   obtain⟨pend,c,μ,ec,hat,hst,hen,zG,hw⟩:=hat0.norm hT hR hst0 I_ hpd0
   refine⟨hdone listed pend c ec act w μ hsz hat hst hen hw hdf,fun i hi=>?_⟩
   obtain⟨h0,o,ho,hbind⟩:=mem_ready.1 hi
   have hil:i<ops.size:=(Array.getElem?_eq_some_iff.1 ho).1
   rw [iD (by omega)] at h0
   obtain⟨p,t,hp,hti⟩:=hT.all i hil
   subst hti
   have hb:∀j∈dW ops t.i,listed.getD j false=true:=fun j hj=>by
    obtain⟨e,he,hbe,rfl⟩:=(kG ho).1 hj
    exact hbind e he hbe
   have hn:¬listed.getD t.i false=true:=by rw [h0];simp
   have hok0:iR X.P G N ops o t.a=true:=by
    obtain⟨o',ho',h'⟩:=hT.at' p t hp
    rw [ho] at ho';cases ho';exact h'
   obtain⟨hdt,hN,hgd,hop⟩:=sS hok0
   have hget:∀j,(listed.setIfInBounds t.i true).getD j false=true↔listed.getD j false=true∨j=t.i:=by
    intro j
    by_cases hj:t.i=j
    ·subst hj;simp [Array.getElem?_setIfInBounds,hsz,hil]
    ·rw [getD_set_ne false hj];simp [Ne.symm hj]
   have hfu':(FZ ops.size (listed.setIfInBounds t.i true)).length≤fuel:=by
    have:=Ah (n:=ops.size) hil hsz h0
    omega
   have hclo:Closed ops (fun j=>(listed.setIfInBounds t.i true).getD j false=true):=by
    intro j hj k hk
    rw [hget] at hj ⊢
    rcases hj with hj | hj
    ·exact .inl (hat.closed j hj k hk)
    ·rw [hj] at hk;exact .inl (hb k hk)
   have O7:tf.a.d=some fd:=by rw [hT.fa]
   by_cases hpf:p=f
   ·
     subst hpf
     obtain rfl:tf=t:=Option.some.inj (hT.O6.symm.trans hp)
     have hpend:pend=false:=by
        cases hq:pend with
        | false=>rfl
        | true=>exact absurd (hat.cutp hq).1 hn
     have hcp:c≤p:=by
        rcases Nat.lt_or_ge p c with hl | hl
        ·exact absurd ((hat.RF hpend).1 hl) hn
        ·exact hl
     have hstep:=hR.step p tf (cZ hp) hp
     rw [hT.fa,Gf,Option.map_eq_some_iff] at hstep
     obtain⟨A,hA,_⟩:=hstep
     obtain⟨z,z1,z2⟩:=rW (w:=w) hA
     rw [hT.fa] at hgd hop
     have hgn:o.guard=none:=by
        cases hgg:o.guard with
        | none=>rfl
        | some g=>rw [hgg] at hgd;simp [mY] at hgd
     have Rw:o.op= .alloc fe:=by
        cases hoo:o.op <;> rw [hoo] at hop <;> simp only [jT,Bool.false_eq_true] at hop
        ·simp only [beq_iff_eq] at hop;rw [hop]
        ·rename_i c
         unfold ku at hop
         split at hop <;> first | (cases hop;done) | simp_all [gB]
     have hrn:(execOp act.eval o).run X.P w= .ok (.value (.pointer (some ⟨w.heap.size,0,none⟩))) { w with heap:=w.heap.push (.cells z.cells fe) } :=by
        simp [execOp,Rw,Instr.alloc,z1,newVar,newRow]
     have hdst:o.dst=some fd:=hdt.trans O7
     have hdN:fd<act.tmps.size:=by rw [O7] at hN;rw [hen.size];simpa [rD] using hN
     unfold wpOp
     rw [ho]
     simp only []
     rw [if_pos (by simp [Region.wanted,hgn])]
     refine .inl ?_
     unfold Oper.wp
     rw [hrn]
     have hps:=Step.pend hst.pJ (.cells z.cells fe)
     refine ih _ true c (put (some fd) .u ec) _ _ μ hfu' (by simpa using hsz) ⟨hclo,hat.le,fun q u hq hpu BN=>?_,fun hh=>(by cases hh),fun _=>⟨(hget _).2 (.inr rfl),hcp⟩,fun q u x hq hu hx BN=>?_,fun x hx=>?_⟩ (hst.trans hps) ?_ (fun _=>⟨w.heap.size,z,A,hA,z2,⟨hst.size,by show (w.heap.push _)[w.heap.size]? =_;simp,fun o1 a1 δ h1 h2 h3=>?_⟩,?_⟩) (by rw [dL];exact hdf)
     ·rw [hat.cut q u hq hpu BN,hget]
      constructor
      ·exact .inl
      ·rintro (hh | hh)
       ·exact hh
       ·exact absurd (wZ hT hq hp hh) BN
     ·have hne:q≠p:=fun hh=>by have:=BN hh;cases this
      rw [hget] at hu
      rw [dY fun hd=>hne (oL hT hq hp hx (O7.trans hd))]
      rcases hu with hu | hu
      ·exact hat.wrote q u x hq hu hx fun hh=>absurd hh hne
      ·exact absurd (wZ hT hq hp hu) hne
     ·rw [dY fun hd=>hx p tf hp ((hget _).2 (.inr rfl)) (O7.trans hd)]
      exact hat.kept x fun q u hq hu=>hx q u hq ((hget _).2 (.inl hu))
     ·rw [hdst]
      exact(hen.mono hps.ext hps.kY).put (by rw [O7] at hN;exact hN) trivial
     ·have:=hst.pJ.blk _ _ _ _ h3;omega
     ·rw [hdst];exact lV hdN
   ·obtain⟨run',a',c',hrun',hok',hstep,hle',hcut',hcf',hcp'⟩:=hat.next hT hR hw hp hpf hn hb ho
    have hro:nJ X.P G run':=by
        rcases hrun' with rfl | rfl
        ·exact hrun
        ·intro f args σ r σ' h;cases h
    have hfi:¬tf.i=t.i:=fun hh=>hpf (wZ hT hp hT.O6 hh.symm)
    unfold wpOp
    rw [ho]
    refine kR (ops:=ops) hX hro hst.pJ hen hok' hstep fun v w' μ' hv hs'=>?_
    have hka:=hok'
    simp only [iR,Bool.and_eq_true,beq_iff_eq] at hka
    refine ih _ pend c' (put o.dst (V p) ec) _ w' μ' hfu' (by simpa using hsz) ⟨hclo,hle',?_,fun O8=>?_,fun O8=>⟨(hget _).2 (.inl (hat.cutp O8).1),hcp' O8⟩,?_,?_⟩ (hst.trans hs') ?_ (fun O8=>?_) (by rw [dL];exact hdf)
    ·intro q u hq hpu BN
     rw [hcut' q u hq hpu BN,hget]
     constructor
     ·rintro (h | h)
      ·exact .inl h
      ·subst h;rw [hp] at hq;cases hq;exact .inr rfl
     ·rintro (h | h)
      ·exact .inl h
      ·exact .inr (wZ hT hq hp h)
    ·rw [hcf' O8,hget]
     exact⟨.inl,fun hh=>hh.resolve_right hfi⟩
    ·intro q u x hq hu hx BN
     rw [hget] at hu
     by_cases lH:q=p
     ·subst lH;rw [hp] at hq;cases hq
      rw [hdt,hx,eU]
     ·rw [dY fun hd=>lH (oL hT hq hp hx (by rw [←hdt];exact hd))]
      rcases hu with hu | hu
      ·exact hat.wrote q u x hq hu hx BN
      ·exact absurd (wZ hT hq hp hu) lH
    ·intro x hx
     rw [dY fun hd=>hx p t hp ((hget _).2 (.inr rfl)) (by rw [←hdt];exact hd)]
     exact hat.kept x fun q u hq hu=>hx q u hq ((hget _).2 (.inl hu))
    ·have he':=hen.mono hs'.ext hs'.kY
     have hN':rD N o.dst=true:=by rw [hka.1.1.1];exact hka.1.1.2
     exact he'.put hN' hv
    ·obtain⟨b,z,A,h1,h2,h3,h4⟩:=zG O8
     refine⟨b,z,A,h1,h2,h3.step hs',?_⟩
     rw [nN fun hd=>hpf (oL hT hp hT.O6 (by rw [←hdt];exact hd) O7)]
     exact h4
end
end Go.dX
namespace Go.dX
theorem Ja {ds:List Deferred} {X:Ctx} {G N:Nat} {run:Run} (hX:X.Ok G)(hrun:nJ X.P G run)(hf:X.P.follows .mixedOrders=true) {id:Nat} {ops:Array Oper} {l:List (AI×List AI)} {Q:Exit→Act→World→Prop}
 {e:Env} {act:Act} {μ:Mu} {σ:St} {w:World} {e':Env} {σ':St} (hok:IW X.P G N ops l=true) (hs:gQ G μ σ w) (he:dw G N μ w e act.tmps) (hd:act.defers=ds) (h:o7 X run l e σ=some (e',σ'))
 (hQ:∀act' w',sG ds G N μ σ w e' σ' act' w'→Q .normal act' w'):(Code.region id ops true).wp X.P Q act w:=by
 simp only [IW,ql,Bool.and_eq_true,beq_iff_eq] at hok
 obtain⟨hT,hlen⟩:=hok
 have hmap:=uF (P:=X.P) (G:=G) (N:=N) (ops:=ops) l [] (by simpa using hlen)
 simp only [List.reverse_nil,List.map_nil,List.nil_append] at hmap
 have hT':=BH hT
 generalize sJ X.P G N ops l []=T at *
 obtain⟨E,S,V,h1,h2,h3,h4,h5⟩:=BI l e σ e' σ' h
 have hR:Runs X run T T.length E S V:=by
  have hg:∀(p:Nat) (t:DI),T[p]? =some t→l[p]? =some (t.a,t.again):=by
   intro p t ht
   rw [←hmap,List.getElem?_map,ht];rfl
  exact⟨Nat.le_refl _,fun p t _ ht=>(h5 p _ _ (hg p t ht)).1,fun p t _ ht=>(h5 p _ _ (hg p t ht)).2.1,fun p t _ ht=>(h5 p _ _ (hg p t ht)).2.2⟩
 refine wp_region_any hf (any_rel hX hrun hT' hR (qF:=μ) (iZ:=σ) (w0:=w) ?_ ops.size _ 0 e act _ μ ?_ (by simp) ?_ ?_ (by rw [h2];exact Step.drew hs) ?_ hd)
 ·rw [hlen,h3,h4];exact hQ
 ·unfold FZ
  exact Nat.le_trans (List.length_filter_le _ _) (by simp)
 ·intro i hi
  rw [Array.getD_eq_getD_getElem?,Array.getElem?_replicate] at hi
  split at hi
  ·assumption
  ·cases hi
 ·have hno:∀i,¬(Array.replicate ops.size false).getD i false=true:=by
   intro i hi
   rw [Array.getD_eq_getD_getElem?,Array.getElem?_replicate] at hi
   split at hi <;> cases hi
  refine⟨fun i hi=>absurd hi (hno i),Nat.zero_le _,fun q t ht _=>cZ ht,fun q t _ _=>?_,fun q t x _ hl=>absurd hl (hno _),fun x _=>by rw [h1]⟩
  constructor
  ·intro hl;omega
  ·intro hl;exact absurd hl (hno _)
 ·exact he.mono (Mu.le_refl μ) (fun _ _ _ q=>q)
theorem RH {ds:List Deferred} {X:Ctx} {G N:Nat} {run:Run} (hX:X.Ok G)(hrun:nJ X.P G run)(hf:X.P.follows .mixedOrders=true) {id:Nat} {ops:Array Oper} {l:List (AI×List AI)} {Q:Exit→Act→World→Prop}
 {e:Env} {act:Act} {μ:Mu} {σ:St} {w:World} {e':Env} {σ':St} (hok:Ld X.P G N ops l=true) (hs:gQ G μ σ w) (he:dw G N μ w e act.tmps) (hd:act.defers=ds) (h:o7 X run l e σ=some (e',σ'))
 (hQ:∀act' w',sG ds G N μ σ w e' σ' act' w'→Q .normal act' w'):(Code.region id ops true).wp X.P Q act w:=by
 simp only [Ld,ql,Bool.and_eq_true,beq_iff_eq] at hok
 obtain⟨hT,hlen⟩:=hok
 have hmap:=uF (P:=X.P) (G:=G) (N:=N) (ops:=ops) l [] (by simpa using hlen)
 simp only [List.reverse_nil,List.map_nil,List.nil_append] at hmap
 obtain⟨tf,fd,fe,hT'⟩:=I8 hT
 generalize sJ X.P G N ops l []=T at *
 generalize (T.findIdx fun t=>I7 t.a)=f at *
 obtain⟨E,S,V,h1,h2,h3,h4,h5⟩:=BI l e σ e' σ' h
 have hR:Runs X run T T.length E S V:=by
  have hg:∀(p:Nat) (t:DI),T[p]? =some t→l[p]? =some (t.a,t.again):=by
   intro p t ht
   rw [←hmap,List.getElem?_map,ht];rfl
  exact⟨Nat.le_refl _,fun p t _ ht=>(h5 p _ _ (hg p t ht)).1,fun p t _ ht=>(h5 p _ _ (hg p t ht)).2.1,fun p t _ ht=>(h5 p _ _ (hg p t ht)).2.2⟩
 have hno:∀i,¬(Array.replicate ops.size false).getD i false=true:=by
  intro i hi
  rw [Array.getD_eq_getD_getElem?,Array.getElem?_replicate] at hi
  split at hi <;> cases hi
 refine wp_region_any hf (RG hX hrun hT' hR (qF:=μ) (iZ:=σ) (w0:=w) ?_ ops.size _ false 0 e act _ μ ?_ (by simp) ?_ (by rw [h2];exact Step.drew hs) ?_ (fun hh=>by cases hh) hd)
 ·rw [hlen,h3,h4];exact hQ
 ·unfold FZ
  exact Nat.le_trans (List.length_filter_le _ _) (by simp)
 ·refine⟨fun i hi=>absurd hi (hno i),Nat.zero_le _,fun q t _ _ _=>?_,fun _=>?_,fun hh=>(by cases hh),fun q t x _ hl=>absurd hl (hno _),fun x _=>by rw [h1]⟩
  ·exact⟨fun hl=>by omega,fun hl=>absurd hl (hno _)⟩
  ·exact⟨fun hl=>by omega,fun hl=>absurd hl (hno _)⟩
 ·exact he.mono (Mu.le_refl μ) (fun _ _ _ q=>q)
def BO (P:Program)(G N:Nat)(ops:Array Oper)(l:List (AI×List AI)):Bool:=IW P G N ops l || Ld P G N ops l
theorem drw_rel {ds:List Deferred} {X:Ctx} {G N:Nat} {run:Run} (hX:X.Ok G)(hrun:nJ X.P G run)(hf:X.P.follows .mixedOrders=true) {id:Nat} {ops:Array Oper} {l:List (AI×List AI)} {Q:Exit→Act→World→Prop}
 {e:Env} {act:Act} {μ:Mu} {σ:St} {w:World} {e':Env} {σ':St} (hok:BO X.P G N ops l=true) (hs:gQ G μ σ w) (he:dw G N μ w e act.tmps) (hd:act.defers=ds) (h:o7 X run l e σ=some (e',σ'))
 (hQ:∀act' w',sG ds G N μ σ w e' σ' act' w'→Q .normal act' w'):(Code.region id ops true).wp X.P Q act w:=by
 rw [BO,Bool.or_eq_true] at hok
 rcases hok with hok | hok
 ·exact Ja hX hrun hf hok hs he hd h hQ
 ·exact RH hX hrun hf hok hs he hd h hQ
theorem Gi {P:Program} {G N:Nat} {ops:Array Oper} {l:List (AI×List AI)} (h:vM P G N ops l=true):IW P G N ops l=true:=by
 simp only [vM,IW,ql,Bool.and_eq_true] at h ⊢
 exact h.1
theorem RI {ds:List Deferred} {X:Ctx} {G N:Nat} {run:gW} (hX:X.Ok G)(hrun:gY X.P G run)(hf:X.P.follows .mixedOrders=true) {id:Nat} {ops:Array Oper} {l:List (AI×List AI)} {Q:Exit→Act→World→Prop}
 {e:Env} {act:Act} {μ:Mu} {σ:St} {w:World} {q:Out} {e':Env} {σ':St} (hok:vM X.P G N ops l=true) (hs:gQ G μ σ w) (he:dw G N μ w e act.tmps) (hd:act.defers=ds) (h:mQ X run (rC l e) l e σ=some (q,e',σ'))
 (hQ:∀x act' w',nM ds G N μ σ w q e' σ' x act' w'→Q x act' w'):(Code.region id ops true).wp X.P Q act w:=by
 rcases EL l e σ q e' σ' h with ⟨rfl,hdd⟩ | ⟨r,m,a,ag,E,S,V,rfl,rfl,h3,h4,h5,h6,h7,h8⟩
 ·exact Ja hX hrun.nrm hf (Gi hok) hs he hd hdd fun act' w' hl=>hQ _ _ _ (by
   obtain⟨y7,k1,k2,k3⟩:=hl
   exact⟨y7,k1,k2,k3,rfl⟩)
 simp only [vM,ql,Bool.and_eq_true,beq_iff_eq] at hok
 obtain⟨⟨hT,hlen⟩,hpan⟩:=hok
 have hmap:=uF (P:=X.P) (G:=G) (N:=N) (ops:=ops) l [] (by simpa using hlen)
 simp only [List.reverse_nil,List.map_nil,List.nil_append] at hmap
 have hT':=BH hT
 have hpan':=I5 hpan
 generalize sJ X.P G N ops l []=T at *
 have hg:∀(p:Nat) (t:DI),T[p]? =some t→l[p]? =some (t.a,t.again):=by
  intro p t ht
  rw [←hmap,List.getElem?_map,ht];rfl
 have hml:m<l.length:=(List.getElem?_eq_some_iff.1 h3).1
 obtain⟨t0,ht0⟩:∃t0,T[m]? =some t0:=⟨_,List.getElem?_eq_getElem (by omega)⟩
 have hta:t0.a=a:=by
  have:=hg m t0 ht0
  rw [h3] at this
  exact(congrArg Prod.fst (Option.some.inj this)).symm
 have hR:Runs X (nrm run) T m E S V:=
  ⟨by omega,fun p t hp ht=>(h8 p _ _ hp (hg p t ht)).1,fun p t hp ht=>(h8 p _ _ hp (hg p t ht)).2.1,fun p t hp ht=>(h8 p _ _ hp (hg p t ht)).2.2⟩
 refine wp_region_any hf (Ry hX hrun hT' ht0 hR (by rw [hta];exact h7) (by rw [hta];exact h4) (fun p u hp hu=>hpan' m t0 p u ht0 (by rw [hta];exact h4) hp hu) (W:=rC l e) (qF:=μ) (iZ:=σ) (w0:=w) ?_ hQ ops.size _ 0 e act _ μ ?_ (by simp) ?_ ?_ (by rw [h6];exact Step.drew hs) ?_ hd)
 ·intro x
  rcases Rz l e x with hx | ⟨hx,hy⟩
  ·exact .inl hx
  ·refine .inr ⟨by rw [h5];exact hx,fun q t ht=>?_⟩
   exact hy _ (List.mem_of_getElem? (hg q t ht))
 ·unfold FZ
  exact Nat.le_trans (List.length_filter_le _ _) (by simp)
 ·intro i hi
  rw [Array.getD_eq_getD_getElem?,Array.getElem?_replicate] at hi
  split at hi
  ·assumption
  ·cases hi
 ·have hno:∀i,¬(Array.replicate ops.size false).getD i false=true:=by
   intro i hi
   rw [Array.getD_eq_getD_getElem?,Array.getElem?_replicate] at hi
   split at hi <;> cases hi
  refine⟨fun i hi=>absurd hi (hno i),Nat.zero_le _,fun q t ht hl=>absurd hl (hno _),fun q t _ _=>?_,fun q t x _ hl=>absurd hl (hno _),fun x _=>by rw [h5]⟩
  constructor
  ·intro hl;omega
  ·intro hl;exact absurd hl (hno _)
 ·exact he.mono (Mu.le_refl μ) (fun _ _ _ q=>q)
def AC.unJ:AC→AC
 | .cut l b=>match l with
   | d :: _=>if d=1000000 then b else .cut l b
   | []=>.cut l b
 | b=>b
theorem AC.EM (b:AC):b.unJ=b∨∃l,b= .cut l b.unJ:=by
 cases b with
 | cut l b=>
   cases l with
   | nil=>exact .inl rfl
   | cons d l=>
     simp only [AC.unJ]
     split
     ·exact .inr ⟨d :: l,rfl⟩
     ·exact .inl rfl
 | _=>exact .inl rfl
def nO:AC→Bool
 | .cond (.c .u) (.exit _) (.exit _)=>true
 | _=>false
def rH (P:Program)(G N:Nat):Code→AC→Bool
 | .scope c,a=>nO a || rH P G N c a
 | .skip,.skip=>true
 | .label _,.skip=>true
 | .region _ ops false,.reg l=>nI P G N ops (List.range ops.size) l
 | .region _ ops true,.gJ l=>BO P G N ops l
 | .region _ ops false,.cut _ (.reg l)=>nI P G N ops (List.range ops.size) l
 | .region _ ops false,.iO l=>nI P G N ops (List.range ops.size) l
 | .region _ ops false,.cut _ (.iO l)=>nI P G N ops (List.range ops.size) l
 | .region _ ops true,.cut _ (.gJ l)=>BO P G N ops l
 | .region _ ops true,.iM l=>vM P G N ops l
 | .region _ ops true,.cut _ (.iM l)=>vM P G N ops l
 | .region _ ops true,.reg l=>Rl P G N ops l
 | .region _ ops true,.cut _ (.reg l)=>Rl P G N ops l
 | .seq c d,.seq a b=>(nO a || rH P G N c a) && (nO b.unJ || rH P G N d b.unJ)
 | .cond x c d,.cond y a b=>dG G x y && (nO a || rH P G N c a) && (nO b || rH P G N d b)
 | .block id c,.blk id' a=>id == id' && (nO a || rH P G N c a)
 | .loop c,.loop _ a=>nO a || rH P G N c a
 | .exit id,.exit id'=>id == id'
 | .ret,.ret=>true
 | _,_=>false
def okC (P:Program)(G N:Nat)(c:Code)(a:AC):Bool:=nO a || rH P G N c a
theorem nM.trans {ds:List Deferred} {G N:Nat} {μ:Mu} {σ σ1 σ2:St} {w w1 w2:World} {o:Out} {x:Exit} {e2:Env} {a2:Act} {pK:Mu} (h:Step G μ σ w pK σ1 w1)(k:nM ds G N pK σ1 w1 o e2 σ2 x a2 w2):nM ds G N μ σ w o e2 σ2 x a2 w2:=by
 obtain⟨y7,h1,h2,h3,h4⟩:=k
 exact⟨y7,h.trans h1,h2,h3,h4⟩
theorem nM.clear {ds:List Deferred} {G N:Nat} {μ:Mu} {σ σ2:St} {w w2:World} {o:Out} {x:Exit} {e2:Env} {a2:Act} (k:nM ds G N μ σ w o e2 σ2 x a2 w2)(l:List Nat):nM ds G N μ σ w o (dX.clear l e2) σ2 x a2 w2:=by
 obtain⟨y7,h1,h2,h3,h4⟩:=k
 exact⟨y7,h1,h2.clear l,h3,h4⟩
theorem sG.x {ds:List Deferred} {G N:Nat} {μ:Mu} {σ σ2:St} {w w2:World} {e2:Env} {a2:Act} (k:sG ds G N μ σ w e2 σ2 a2 w2):nM ds G N μ σ w .normal e2 σ2 .normal a2 w2:=by
 obtain⟨y7,h1,h2,h3⟩:=k
 exact⟨y7,h1,h2,h3,rfl⟩
section
variable {X:Ctx} {G N:Nat} {run:gW}
def sU (X:Ctx)(G N:Nat)(c:Code)(f:Env→St→Option (Out×Env×St)):Prop:=
 ∀ (ds:List Deferred) (e:Env) (act:Act) (μ:Mu) (σ:St) (w:World) (o:Out) (e':Env) (σ':St) (Q:Exit→Act→World→Prop),gQ G μ σ w→dw G N μ w e act.tmps→act.defers=ds→f e σ=some (o,e',σ')→
   (∀x act' w',nM ds G N μ σ w o e' σ' x act' w'→Q x act' w')→c.wp X.P Q act w
theorem RJ {c:Code} {live:List Nat} {f:Env→St→Option (Out×Env×St)} (h:sU X G N c f)(n:Nat):sU X G N (.loop c) (iP live f n):=by
 intro ds e act μ σ w o e' σ' Q hs he hd hf hQ
 refine wp_loop_rounds n ?_
 induction n generalizing e act μ σ w with
 | zero=>cases hf
 | succ n ih=>
   rw [rounds_succ]
   simp only [iP] at hf
   split at hf
   ·rename_i e1 σ1 h1
    refine h ds (clear live e) act μ σ w .normal e1 σ1 _ hs (he.clear live) hd h1 fun x act' w' hl=>?_
    obtain⟨pK,hst,hen,hdf,rfl⟩:=hl
    exact ih e1 act' pK σ1 w' hst.pJ hen hdf hf fun x Lh w2 hl2=>hQ _ _ _ (hl2.trans hst)
   ·rename_i hnn
    refine h ds (clear live e) act μ σ w o e' σ' _ hs (he.clear live) hd hf fun x act' w' hl=>?_
    have hq:=hQ _ _ _ hl
    obtain⟨_,_,_,_,hx⟩:=hl
    cases o with
    | normal=>exact absurd hf (hnn _ _)
    | exit id=>cases hx;exact hq
    | ret=>cases hx;exact hq
    | gu r=>obtain⟨v,rfl,_⟩:=hx;exact hq
theorem RN {n:Nat} {c:Code} {a:AC} (h:nO a=true):sU X G N c (aW X run n a):=by
 intro ds e act μ σ w o e' σ' Q hs he hd hc hQ
 unfold nO at h
 split at h
 ·simp [aW,bT.ev] at hc
 ·cases h
theorem pz {n:Nat} {c:Code} {a:AC} (h:(nO a || rH X.P G N c a)=true)(k:rH X.P G N c a=true→sU X G N c (aW X run n a)):sU X G N c (aW X run n a):=by
 rw [Bool.or_eq_true] at h
 rcases h with h | h
 ·exact RN h
 ·exact k h
theorem Lj (hX:X.Ok G)(hrun:gY X.P G run)(hf:X.P.follows .mixedOrders=true) {n:Nat} {id:Nat} {ops:Array Oper} {draw:Bool} {a:AC} (hok:rH X.P G N (.region id ops draw) a=true):sU X G N (.region id ops draw) (aW X run n a):=by
 intro ds e act μ σ w o e' σ' Q hs he hd h hQ
 have still:∀(l:List AI) (e:Env),draw=false→nI X.P G N ops (List.range ops.size) l=true→dw G N μ w e act.tmps→aW X run n (.reg l) e σ=some (o,e',σ')→(Code.region id ops draw).wp X.P Q act w:=by
  intro l e hdr hk2 he2 h2
  subst hdr
  simp only [aW,Option.map_eq_some_iff] at h2
  obtain⟨⟨e1,σ1⟩,h1,h3⟩:=h2
  cases h3
  exact wp_region (Nv (ops:=ops) hX hrun.nrm _ l e act μ σ w _ _ hk2 hs he2 hd h1 fun act' w' hl=>hQ _ _ _ hl.x)
 have RP:∀(l:List AI) (e:Env),draw=false→nI X.P G N ops (List.range ops.size) l=true→dw G N μ w e act.tmps→aW X run n (.iO l) e σ=some (o,e',σ')→(Code.region id ops draw).wp X.P Q act w:=by
  intro l e hdr hk2 he2 h2
  subst hdr
  exact wp_region (IV (ops:=ops) hX hrun _ l e act μ σ w _ _ _ hk2 hs he2 hd h2 hQ)
 have draws:∀(l:List (AI×List AI)) (e:Env),draw=true→BO X.P G N ops l=true→dw G N μ w e act.tmps→aW X run n (.gJ l) e σ=some (o,e',σ')→(Code.region id ops draw).wp X.P Q act w:=by
  intro l e hdr hk2 he2 h2
  subst hdr
  simp only [aW,Option.map_eq_some_iff] at h2
  obtain⟨⟨e1,σ1⟩,h1,h3⟩:=h2
  cases h3
  exact drw_rel hX hrun.nrm hf hk2 hs he2 hd h1 fun act' w' hl=>hQ _ _ _ hl.x
 have RQ:∀(l:List (AI×List AI)) (e:Env),draw=true→vM X.P G N ops l=true→dw G N μ w e act.tmps→aW X run n (.iM l) e σ=some (o,e',σ')→(Code.region id ops draw).wp X.P Q act w:=by
  intro l e hdr hk2 he2 h2
  subst hdr
  exact RI hX hrun hf hk2 hs he2 hd h2 hQ
 have free:∀(l:List AI) (e:Env),draw=true→Rl X.P G N ops l=true→dw G N μ w e act.tmps→aW X run n (.reg l) e σ=some (o,e',σ')→(Code.region id ops draw).wp X.P Q act w:=by
  intro l e hdr hk2 he2 h2
  subst hdr
  simp only [aW,Option.map_eq_some_iff] at h2
  obtain⟨⟨e1,σ1⟩,h1,h3⟩:=h2
  cases h3
  exact fr_rel hf hk2 hs he2 hd h1 fun act' w' hl=>hQ _ _ _ hl.x
 cases draw with
 | false=>
   cases a with
   | reg l=>exact still l e rfl hok he h
   | iO l=>exact RP l e rfl hok he h
   | cut live b=>
     cases b with
     | reg l=>exact still l _ rfl hok (he.clear live) h
     | iO l=>exact RP l _ rfl hok (he.clear live) h
     | _=>cases hok
   | _=>cases hok
 | true=>
   cases a with
   | reg l=>exact free l e rfl hok he h
   | gJ l=>exact draws l e rfl hok he h
   | iM l=>exact RQ l e rfl hok he h
   | cut live b=>
     cases b with
     | reg l=>exact free l _ rfl hok (he.clear live) h
     | gJ l=>exact draws l _ rfl hok (he.clear live) h
     | iM l=>exact RQ l _ rfl hok (he.clear live) h
     | _=>cases hok
   | _=>cases hok
theorem O9 (hX:X.Ok G)(hrun:gY X.P G run)(hf:X.P.follows .mixedOrders=true) {n:Nat} :∀(c:Code) (a:AC),rH X.P G N c a=true→sU X G N c (aW X run n a):=by
 intro c
 induction c with
 | scope c ih=>
   intro a hok ds e act μ σ w o e' σ' Q hs he hd h hQ
   refine wp_scope_straight (pz (by simpa [rH] using hok) (ih a) ds e act μ σ w o e' σ' _ hs he hd h fun x act' w' hl=>?_)
   have hq:=hQ x act' w' hl
   obtain⟨_,_,_,_,hx⟩:=hl
   cases o with
   | normal=>cases hx;exact hq
   | exit id=>cases hx;exact hq
   | ret=>cases hx;exact hq
   | gu r=>obtain⟨v,rfl,_⟩:=hx;exact hq
 | skip=>
   intro a hok
   cases a with
   | skip=>
     intro ds e act μ σ w o e' σ' Q hs he hd h hQ
     cases h
     exact wp_skip (hQ _ _ _ ⟨μ,Step.refl hs,he,hd,rfl⟩)
   | _=>cases hok
 | label l=>
   intro a hok
   cases a with
   | skip=>
     intro ds e act μ σ w o e' σ' Q hs he hd h hQ
     cases h
     exact wp_label (hQ _ _ _ ⟨μ,Step.refl hs,he,hd,rfl⟩)
   | _=>cases hok
 | region id ops draw=>intro a hok;exact Lj hX hrun hf hok
 | seq c d rP RS=>
   intro a hok
   cases a with
   | seq a b=>
     intro ds e act μ σ w o e' σ' Q hs he hd h hQ
     simp only [rH,Bool.and_eq_true] at hok
     simp only [aW] at h
     refine wp_seq ?_
     split at h
     ·rename_i e1 σ1 h1
      refine pz hok.1 (rP a) ds e act μ σ w .normal e1 σ1 _ hs he hd h1 fun x act' w' hl=>?_
      obtain⟨pK,hst,hen,hdf,rfl⟩:=hl
      have hd2:=pz (n:=n) (run:=run) hok.2 (RS b.unJ)
      rcases AC.EM b with hb | ⟨l,hb⟩
      ·rw [hb] at hd2
       exact hd2 ds e1 act' pK σ1 w' o e' σ' Q hst.pJ hen hdf h fun x Lh w2 hl2=>hQ _ _ _ (hl2.trans hst)
      ·rw [hb] at h
       simp only [aW] at h
       exact hd2 ds (clear l e1) act' pK σ1 w' o e' σ' Q hst.pJ (hen.clear l) hdf h fun x Lh w2 hl2=>hQ _ _ _ (hl2.trans hst)
     ·rename_i hnn
      refine pz hok.1 (rP a) ds e act μ σ w o e' σ' _ hs he hd h fun x act' w' hl=>?_
      have hq:=hQ _ _ _ hl
      obtain⟨_,_,_,_,hx⟩:=hl
      cases o with
      | normal=>exact absurd h (hnn _ _)
      | exit id=>cases hx;exact hq
      | ret=>cases hx;exact hq
      | gu r=>obtain⟨v,rfl,_⟩:=hx;exact hq
   | _=>cases hok
 | cond x c d rP RS=>
   intro a hok
   cases a with
   | cond y a b=>
     intro ds e act μ σ w o e' σ' Q hs he hd h hQ
     simp only [rH,Bool.and_eq_true] at hok
     have hx:=mZ hs he hok.1.1
     simp only [aW] at h
     split at h
     ·rename_i hy
      rw [hy] at hx
      exact wp_cond_true hx (pz hok.1.2 (rP a) ds e act μ σ w o e' σ' _ hs he hd h hQ)
     ·rename_i hy
      rw [hy] at hx
      exact wp_cond_false hx (pz hok.2 (RS b) ds e act μ σ w o e' σ' _ hs he hd h hQ)
     ·cases h
   | _=>cases hok
 | block id c ih=>
   intro a hok
   cases a with
   | blk id' a=>
     intro ds e act μ σ w o e' σ' Q hs he hd h hQ
     simp only [rH,Bool.and_eq_true,beq_iff_eq] at hok
     obtain⟨rfl,hok⟩:=hok
     simp only [aW] at h
     refine wp_block ?_
     split at h
     ·rename_i j e1 σ1 h1
      simp only [Option.some.injEq,Prod.mk.injEq] at h
      obtain⟨rfl,rfl,rfl⟩:=h
      refine pz hok (ih a) ds e act μ σ w (.exit j) _ _ _ hs he hd h1 fun x act' w' hl=>?_
      obtain⟨pK,k1,k2,k3,rfl⟩:=hl
      simp only [Exit.inBlock]
      split
      ·rename_i hj;exact hQ _ _ _ ⟨pK,k1,k2,k3,by rw [if_pos hj];rfl⟩
      ·rename_i hj;exact hQ _ _ _ ⟨pK,k1,k2,k3,by rw [if_neg hj];rfl⟩
     ·rename_i hnn
      refine pz hok (ih a) ds e act μ σ w o e' σ' _ hs he hd h fun x act' w' hl=>?_
      have hq:=hQ _ _ _ hl
      obtain⟨_,_,_,_,hx⟩:=hl
      cases o with
      | normal=>cases hx;exact hq
      | exit id=>exact absurd h (hnn _ _ _)
      | ret=>cases hx;exact hq
      | gu r=>obtain⟨v,rfl,_⟩:=hx;exact hq
   | _=>cases hok
 | loop c ih=>
   intro a hok
   cases a with
   | loop live a=>exact RJ (pz (by simpa [rH] using hok) (ih a)) n
   | _=>cases hok
 | exit id=>
   intro a hok
   cases a with
   | exit id'=>
     intro ds e act μ σ w o e' σ' Q hs he hd h hQ
     simp only [rH,beq_iff_eq] at hok
     subst hok
     cases h
     exact wp_exit (hQ _ _ _ ⟨μ,Step.refl hs,he,hd,rfl⟩)
   | _=>cases hok
 | ret=>
   intro a hok
   cases a with
   | ret=>
     intro ds e act μ σ w o e' σ' Q hs he hd h hQ
     cases h
     exact wp_ret (hQ _ _ _ ⟨μ,Step.refl hs,he,hd,rfl⟩)
   | _=>cases hok
 | _=>intro a hok;cases a <;> cases hok
theorem sV (hX:X.Ok G)(hrun:gY X.P G run)(hf:X.P.follows .mixedOrders=true) {n:Nat} (c:Code)(a:AC)(h:okC X.P G N c a=true):sU X G N c (aW X run n a):=pz h (O9 hX hrun hf c a)
end
end Go.dX
namespace Go.dX
def pF:List ResultVar→List AR→Bool
 | [],[]=>true
 | .tmp n :: l,.t m :: r=>n == m && pF l r
 | .cell a t :: l,.cell b s :: r=>a == b && t == s && pF l r
 | _,_=>false
def Jb (P:Program)(G:Nat)(f:Nat)(F:AF):Bool:=match P.funcs[f]? with
 | some fn=>fn.ntmps == F.nt && !(fn.name == "runtime.NumGoroutine") && pF fn.results.toList F.res && (match fn.body with
   | some c=>okC P G F.nt c F.code
   | none=>false)
 | none=>false
def NG (P:Program)(f:Nat)(bg:Array Value)(w:World)(R:Ending→World→Prop):Prop:=
 (callFunc f bg).run P w= .ok (.enter f bg) w∧∀u,CallsD P f bg u w fun e u' w'=>u'= u∧R e w'
def Gj (X:Ctx)(G:Nat)(run:Run):Prop:=∀f,X.dk f=true→∀args σ r σ',run f args σ=some (r,σ')→∀μ w (bg:Array Value),gQ G μ σ w→aY μ w args bg.toList→NG X.P f bg w (After G μ σ w r σ')
def BP (P:Program)(fns:Nat→Option AF)(dk:Nat→Bool)(G f:Nat)(F:AF):Prop:=
 ∀ (X:Ctx),X.P=P→X.fns=fns→X.dk=dk→X.Ok G→X.P.follows .mixedOrders=true→∀(run:gW) (n:Nat),gY X.P G run→Gj X G (nrm run)→
   ∀ (args:List AV) (σ:St) (b:Bool) (v:AV) (σ1:St),args.length≤F.nt→aBody X run n F args σ=some (b,v,σ1)→
   ∀ (μ:Mu) (w:World) (bg:Array Value),gQ G μ σ w→aY μ w args bg.toList→Enters X.P f∧Calls X.P f bg w (lu G μ σ w b v σ1)
structure Ctx.Sound (X:Ctx)(G:Nat):Prop where
 ok:X.Ok G
 draws:X.P.follows .mixedOrders=true
 fns:∀f F,X.lg f=none→X.fns f=some F→Jb X.P G f F=true∨BP X.P X.fns X.dk G f F
 dks:∀f,X.dk f=true→X.lg f=none∧∀F,X.fns f=some F→Jb X.P G f F=true
section
variable {X:Ctx} {G N:Nat} {μ:Mu} {σ:St} {w:World}
theorem BQ:∀(args:List AV) (k n:Nat),get (d_ k args) n=if k≤n then(args[n - k]?).getD .u else .u
 | [],k,n=>by simp [d_,get]
 | a :: rest,k,n=>by
   simp only [d_,get]
   split
   ·rename_i h;subst h;simp
   ·rename_i h
    rw [BQ rest (k+1) n]
    by_cases hk:k≤n
    ·rw [if_pos hk,if_pos (by omega),show n - k=(n - (k+1))+1 by omega];simp
    ·rw [if_neg hk,if_neg (by omega)]
theorem oM {args:List AV} {bg:Array Value} {nt:Nat} (h:aY μ w args bg.toList)(hl:args.length≤nt):dw G nt μ w (d_ 0 args) (bg ++ Array.replicate (nt - bg.size) undef):=by
 have hsz:bg.size=args.length:=by have:=h.length;simpa using this
 refine⟨by simp;omega,fun n=>?_⟩
 rw [BQ]
 simp only [Nat.zero_le,if_true,Nat.sub_zero]
 cases hn:args[n]? with
 | none=>trivial
 | some a=>
   obtain⟨v,hv,hr⟩:=h.get n a hn
   have hlt:n<bg.size:=by have:=cZ hn;omega
   rw [Array.getElem?_toList] at hv
   simp only [Option.getD_some]
   rw [Array.getD_eq_getD_getElem?,Array.getElem?_append_left hlt,hv]
   exact hr
def NH (tmps:Array Value):ResultVar→Sem Value
 | .tmp t=>pure (tmps.getD t undef)
 | .cell a t=>do loadVar t (←asAddr (tmps.getD a undef))
theorem BR (hs:gQ G μ σ w) {e:Env} {tmps:Array Value} (he:dw G N μ w e tmps):∀(l:List ResultVar) (r:List AR) (vs:List AV),pF l r=true→pX X.P e σ r=some vs→
 ∃ us,(l.mapM (NH tmps)).run X.P w= .ok us w∧aY μ w vs us
 | [],[],vs,_,h=>by
   simp only [pX,Option.some.injEq] at h
   subst h
   exact⟨[],by simp,rfl⟩
 | .tmp n :: l,.t m :: r,vs,hok,h=>by
   simp only [pF,Bool.and_eq_true,beq_iff_eq] at hok
   obtain⟨rfl,hok⟩:=hok
   simp only [pX] at h
   split at h
   ·rename_i v vs' hv hvs
    cases h
    obtain⟨us,h1,h2⟩:=BR hs he l r vs' hok hvs
    have hvn:v=get e n:=by
        simp only [uZ] at hv
        split at hv
        ·cases hv
        ·exact(Option.some.inj hv).symm
    refine⟨tmps.getD n undef :: us,?_,_,us,rfl,by rw [hvn];exact he.rel n,h2⟩
    simp [List.mapM_cons,NH,h1]
   ·cases h
 | .cell a t :: l,.cell b s :: r,vs,hok,h=>by
   simp only [pF,Bool.and_eq_true,beq_iff_eq] at hok
   obtain⟨⟨rfl,rfl⟩,hok⟩:=hok
   simp only [pX] at h
   split at h
   ·rename_i v vs' hv hvs
    cases h
    obtain⟨us,h1,h2⟩:=BR hs he l r vs' hok hvs
    simp only [uZ] at hv
    have hr:=he.rel a
    unfold lY at hv
    split at hv
    ·rename_i T o g off hT hx
     rw [hx] at hr
     rw [Option.bind_eq_some_iff] at hv
     obtain⟨cs,hc,hp⟩:=hv
     obtain⟨b,δ,hb,hbe⟩:=hr
     obtain⟨u,q1,q2⟩:=y9 hT hs hc hp hb
     refine⟨u :: us,?_,u,us,rfl,q2,h2⟩
     simp [List.mapM_cons,NH,hbe,asAddr,q1,h1]
    ·cases hv
   ·cases h
theorem oN (hs:gQ G μ σ w) {e:Env} {tmps:Array Value} (he:dw G N μ w e tmps) {fn:Func} {r:List AR} {v:AV} (hok:pF fn.results.toList r=true)(h:uO X.P r e σ=some v) :
 ∃ u,(results fn tmps).run X.P w= .ok u w∧aV μ w v u:=by
 unfold uO at h
 cases hL:pX X.P e σ r with
 | none=>rw [hL] at h;cases h
 | some vs=>
   rw [hL] at h
   obtain⟨us,h1,h2⟩:=BR (X:=X) hs he _ r vs hok hL
   have hm:(results fn tmps).run X.P w= .ok (if h:us.toArray.size=1 then us.toArray[0] else .tuple us.toArray) w:=by
    have hf:results fn tmps=(do let vs ←fn.results.mapM (NH tmps);pure (if h:vs.size=1 then vs[0] else .tuple vs)):=rfl
    rw [hf,Array.mapM_eq_mapM_toList]
    simp [h1]
   have hlen:=h2.length
   refine⟨_,hm,?_⟩
   split at h
   ·rename_i v' hvs
    cases h
    cases hvs
    obtain⟨y,ys,rfl,q1,q2⟩:=h2
    simp only [aY] at q2
    subst q2
    exact q1
   ·rename_i hn hvs
    cases h
    cases hvs
    have h1':us.toArray.size≠1:=by
        simp only [List.size_toArray]
        intro hu
        rw [hu] at hlen
        cases vs with
        | nil=>cases hlen
        | cons x xs=>
          cases xs with
          | nil=>exact hn x rfl
          | cons _ _=>simp at hlen
    rw [dif_neg h1']
    exact⟨us.toArray,rfl,h2⟩
   ·rename_i hvs;cases hvs
theorem fn_wp (hX:X.Ok G)(hdr:X.P.follows .mixedOrders=true) {f:Nat} {F:AF} (hok:Jb X.P G f F=true):∃fn c,X.P.funcs[f]? =some fn∧fn.body=some c∧fn.ntmps=F.nt∧Enters X.P f∧
 ∀ (run:gW) (n:Nat),gY X.P G run→∀(args:List AV) (σ:St) (b:Bool) (v:AV) (σ1:St),args.length≤F.nt→aBody X run n F args σ=some (b,v,σ1)→
 ∀ (μ:Mu) (w:World) (bg:Array Value),gQ G μ σ w→aY μ w args bg.toList→c.wp X.P (bodyPost X.P fn (lu G μ σ w b v σ1)) { tmps:=bg ++ Array.replicate (fn.ntmps - bg.size) undef,defers:=[] } w:=by
 unfold Jb at hok
 split at hok
 ·rename_i fn hfn
  simp only [Bool.and_eq_true,beq_iff_eq,Bool.not_eq_true'] at hok
  obtain⟨⟨⟨hnt,hnm⟩,hres⟩,hbody⟩:=hok
  split at hbody
  ·rename_i c hc
   refine⟨fn,c,hfn,hc,hnt,kF hfn hnm (by rw [hc];rfl),?_⟩
   intro run n hrun args σ b v σ1 hlen hb μ w bg hs hr
   have hsz:bg.size=args.length:=by have:=hr.length;simpa using this
   rw [hnt]
   have hen:=oM (G:=G) hr hlen
   unfold aBody at hb
   cases hcode:aW X run n F.code (d_ 0 args) σ with
   | none=>rw [hcode] at hb;simp at hb
   | some y=>
     obtain⟨o,e,σ2⟩:=y
     rw [hcode] at hb
     refine sV hX hrun hdr c F.code hbody [] _ { tmps:=bg ++ Array.replicate (F.nt - bg.size) undef,defers:=[] } μ σ w o e σ2 _ hs hen rfl hcode fun x act' w' hl=>?_
     obtain⟨pK,hst,RU,hd1,hx⟩:=hl
     have normal:(uO X.P F.res e σ2).map (fun v=>(false,v,σ2))=some (b,v,σ1)→∃u,(results fn act'.tmps).run X.P w'= .ok u w'∧lu G μ σ w b v σ1 (.returned u) w':=by
      intro hb
      rw [Option.map_eq_some_iff] at hb
      obtain⟨v',hv,hb⟩:=hb
      cases hb
      obtain⟨u,hu1,hu2⟩:=oN (X:=X) hst.pJ RU hres hv
      exact⟨u,hu1,u,pK,rfl,hu2,hst⟩
     cases o with
     | exit j=>simp at hb
     | normal=>
       cases hx
       obtain⟨u,hu1,ha⟩:=normal hb
       exact⟨hd1,u,hu1,ha⟩
     | ret=>
       cases hx
       obtain⟨u,hu1,ha⟩:=normal hb
       exact⟨hd1,u,hu1,ha⟩
     | gu r=>
       obtain⟨u,rfl,hv⟩:=hx
       cases hb
       exact⟨hd1,u,pK,rfl,hv,hst⟩
  ·cases hbody
 ·cases hok
theorem NI (hX:X.Ok G)(hdr:X.P.follows .mixedOrders=true) {f:Nat} {F:AF} (hok:Jb X.P G f F=true∨BP X.P X.fns X.dk G f F) {run:gW} {n:Nat} (hrun:gY X.P G run)(hrd:Gj X G (nrm run)) {args:List AV} {σ:St} {b:Bool} {v:AV} {σ1:St} (hlen:args.length≤F.nt)
 (hb:aBody X run n F args σ=some (b,v,σ1)) {μ:Mu} {w:World} {bg:Array Value} (hs:gQ G μ σ w) (hr:aY μ w args bg.toList):Enters X.P f∧Calls X.P f bg w (lu G μ σ w b v σ1):=by
 rcases hok with hok | hok
 ·obtain⟨fn,c,hfn,hc,hnt,hen,hwp⟩:=fn_wp hX hdr hok
  exact⟨hen,calls_of_wp hfn hc (hwp run n hrun args σ b v σ1 hlen hb μ w bg hs hr)⟩
 ·exact hok X rfl rfl rfl hX hdr run n hrun hrd args σ b v σ1 hlen hb μ w bg hs hr
theorem Jc (hX:X.Ok G)(hdr:X.P.follows .mixedOrders=true) {f:Nat} {F:AF} (hok:Jb X.P G f F=true) {run:gW} {n:Nat} (hrun:gY X.P G run) {args:List AV} {σ:St} {b:Bool} {v:AV} {σ1:St} (hlen:args.length≤F.nt)
 (hb:aBody X run n F args σ=some (b,v,σ1)) {μ:Mu} {w:World} {bg:Array Value} (hs:gQ G μ σ w) (hr:aY μ w args bg.toList):NG X.P f bg w (lu G μ σ w b v σ1):=by
 obtain⟨fn,c,hfn,hc,hnt,hen,hwp⟩:=fn_wp hX hdr hok
 exact⟨hen bg w,fun u=>callsD_of_wp hfn hc (hwp run n hrun args σ b v σ1 hlen hb μ w bg hs hr)⟩
theorem After.Gl {r:AV} {σ' σ1:St} {v:AV} {e':Ending} {w':World} (hs:gQ G μ σ w)(hn:norm σ v σ1=(r,σ'))(h:After G μ σ w v σ1 e' w'):After G μ σ w r σ' e' w':=by
 obtain⟨u,pK,he,hu2,hst⟩:=h
 unfold norm at hn
 split at hn
 ·rename_i hfl
  simp only [Bool.and_eq_true] at hfl
  cases hn
  exact⟨u,μ,he,aV.flat _ _ hfl.1 hu2,Step.norm hs hst (wH _ _ hfl.2)⟩
 ·cases hn
  exact⟨u,pK,he,hu2,hst⟩
theorem lu.Gl {b b':Bool} {r:AV} {σ' σ1:St} {v:AV} {e':Ending} {w':World} (hs:gQ G μ σ w)(hn:yY σ (b,v,σ1)=(b',r,σ'))(h:lu G μ σ w b v σ1 e' w'):lu G μ σ w b' r σ' e' w':=by
 cases b with
 | false=>
   simp only [yY,Prod.mk.injEq] at hn
   obtain⟨rfl,hn⟩:=hn
   exact After.Gl hs hn h
 | true=>
   simp only [yY,Prod.mk.injEq] at hn
   obtain⟨rfl,rfl,rfl⟩:=hn
   exact h
theorem CallsD.monoR {P:Program} {f:Nat} {bg:Array Value} {w:World} {R R':Ending→World→Prop} (h:NG P f bg w R)(hr:∀e w',R e w'→R' e w'):NG P f bg w R':=
 ⟨h.1,fun u=>(h.2 u).mono fun e u' w' q=>⟨q.1,hr _ _ q.2⟩⟩
theorem NJ (hX:X.Sound G):∀n,gY X.P G (zQ X n)∧Gj X G (aFn X n)
 | 0=>⟨(by intro f args σ b r σ' h;cases h),(by intro f _ args σ r σ' h;cases h)⟩
 | n+1=>by
   obtain⟨ih,RS⟩:=NJ hX n
   constructor
   ·intro f args σ b r σ' h
    simp only [zQ] at h
    split at h
    ·rename_i g hg
     rw [Option.map_eq_some_iff] at h
     obtain⟨y,h,hy⟩:=h
     cases hy
     exact hX.ok.lg f g hg _ _ _ _ h
    ·rename_i hp
     split at h
     ·rename_i F hF
      intro μ w bg hs hr
      split at h
      ·rename_i hlen
       rw [Option.map_eq_some_iff] at h
       obtain⟨⟨b1,v1,σ1⟩,hb,hn⟩:=h
       obtain⟨he,hc⟩:=NI hX.ok hX.draws (hX.fns f F hp hF) ih RS hlen hb hs hr
       exact .inl ⟨he bg w,hc.mono fun e' w' q=>q.Gl hs hn⟩
      ·cases h
     ·cases h
   ·intro f hdk args σ r σ' h
    obtain⟨hp,hokf⟩:=hX.dks f hdk
    have h:=iG.1 h
    simp only [zQ,hp] at h
    split at h
    ·rename_i F hF
     intro μ w bg hs hr
     split at h
     ·rename_i hlen
      rw [Option.map_eq_some_iff] at h
      obtain⟨⟨b1,v1,σ1⟩,hb,hn⟩:=h
      exact CallsD.monoR (Jc hX.ok hX.draws (hokf F hF) ih hlen hb hs hr) fun e' w' q=>q.Gl (b':=false) hs hn
     ·cases h
    ·cases h
theorem runP_ok (hX:X.Sound G)(n:Nat):gY X.P G (zQ X n):=(NJ hX n).1
theorem fn_ok (hX:X.Sound G)(n:Nat):nJ X.P G (aFn X n):=(runP_ok hX n).nrm
theorem DN.does (hX:X.Sound G) {f:Nat} {args:List AV} {Q:AV→St→Prop} (h:DN X f args σ Q)(hs:gQ G μ σ w) {bg:Array Value} (hr:aY μ w args bg.toList) :
 Does X.P f bg w fun e w'=>∃r σ',Q r σ'∧After G μ σ w r σ' e w':=by
 obtain⟨n,⟨r,σ'⟩,h1,h2⟩:=h
 exact(fn_ok hX n f args σ r σ' h1 μ w bg hs hr).mono fun e w' ha=>⟨r,σ',h2,ha⟩
theorem Does.calls {P:Program} {f:Nat} {bg:Array Value} {R:Ending→World→Prop} (h:Does P f bg w R)(he:Enters P f):Calls P f bg w R:=by
 rcases h with ⟨_,h⟩ | ⟨v,w',h1,_⟩
 ·exact h
 ·rw [he bg w] at h1;cases h1
theorem DN.calls (hX:X.Sound G) {f:Nat} {args:List AV} {Q:AV→St→Prop} (h:DN X f args σ Q)(he:Enters X.P f)(hs:gQ G μ σ w) {bg:Array Value} (hr:aY μ w args bg.toList) :
 Calls X.P f bg w fun e w'=>∃r σ',Q r σ'∧After G μ σ w r σ' e w':=(h.does hX hs hr).calls he
end
end Go.dX
namespace Go.dX
def kC (k:Nat):AC→Bool
 | .skip=>true
 | .exit _=>true
 | .ret=>true
 | .reg ops=>ops.all fun a=>a.d != some k
 | .iO ops=>ops.all fun a=>a.d != some k
 | .gJ ops=>ops.all fun a=>a.1.d != some k
 | .iM ops=>ops.all fun a=>a.1.d != some k
 | .seq a b=>kC k a && kC k b
 | .cond _ a b=>kC k a && kC k b
 | .blk _ c=>kC k c
 | .loop l c=>l.contains k && kC k c
 | .cut l c=>l.contains k && kC k c
 | .hnd _ _ _ _ _=>false
 | .Kv _=>false
theorem BU {k:Nat} :∀(l:List Nat) (_:k∈l) (e:Env),get (clear l e) k=get e k
 | [],h,_=>by cases h
 | d :: l,h,e=>by
   have ih:=BU (k:=k) l
   unfold clear at ih ⊢
   simp only [List.map_cons,Go.dX.get]
   split
   ·rename_i hd;rw [hd]
   ·rename_i hd
    rcases List.mem_cons.1 h with rfl | h
    ·exact(hd rfl).elim
    ·exact ih h e
theorem ni {l:List Nat} {k:Nat} (h:l.contains k=true)(e:Env):get (clear l e) k=get e k:=BU l (by simpa using h) e
theorem EO {X:Ctx} {run:Run} {k:Nat} :∀(ops:List AI) (e:Env) (σ:St) (e':Env) (σ':St),(ops.all fun a=>a.d != some k)=true→jG X run ops e σ=some (e',σ')→get e' k=get e k
 | [],e,σ,e',σ',_,h=>by cases h;rfl
 | a :: r,e,σ,e',σ',hs,h=>by
   rw [List.all_cons,Bool.and_eq_true] at hs
   simp only [jG] at h
   split at h
   ·rw [EO r _ _ _ _ hs.2 h,dY (by simpa using hs.1)]
   ·cases h
theorem EP {X:Ctx} {run:Run} {k:Nat} :∀(ops:List (AI×List AI)) (e:Env) (σ:St) (e':Env) (σ':St),(ops.all fun a=>a.1.d != some k)=true→o7 X run ops e σ=some (e',σ')→get e' k=get e k
 | [],e,σ,e',σ',_,h=>by cases h;rfl
 | (a,ag) :: r,e,σ,e',σ',hs,h=>by
   rw [List.all_cons,Bool.and_eq_true] at hs
   simp only [o7] at h
   split at h
   ·split at h
    ·rw [EP r _ _ _ _ hs.2 h,dY (by simpa using hs.1)]
    ·cases h
   ·cases h
theorem BX {X:Ctx} {run:gW} {k:Nat} :∀(ops:List AI) (e:Env) (σ:St) (o:Out) (e':Env) (σ':St),(ops.all fun a=>a.d != some k)=true→nD X run ops e σ=some (o,e',σ')→get e' k=get e k
 | [],e,σ,o,e',σ',_,h=>by cases h;rfl
 | a :: r,e,σ,o,e',σ',hs,h=>by
   rw [List.all_cons,Bool.and_eq_true] at hs
   simp only [nD] at h
   split at h
   ·rw [BX r _ _ _ _ _ hs.2 h,dY (by simpa using hs.1)]
   ·cases h;rfl
   ·cases h
theorem BZ {X:Ctx} {run:gW} {k:Nat} {W:Env} :∀(ops:List (AI×List AI)) (e:Env) (σ:St) (o:Out) (e':Env) (σ':St),(ops.all fun a=>a.1.d != some k)=true→mQ X run W ops e σ=some (o,e',σ')→get e' k=get e k∨e'= W
 | [],e,σ,o,e',σ',_,h=>by cases h;exact .inl rfl
 | (a,ag) :: r,e,σ,o,e',σ',hs,h=>by
   rw [List.all_cons,Bool.and_eq_true] at hs
   simp only [mQ] at h
   split at h
   ·split at h
    ·rcases BZ r _ _ _ _ _ hs.2 h with q | q
     ·rw [dY (by simpa using hs.1)] at q;exact .inl q
     ·exact .inr q
    ·cases h
   ·split at h
    ·cases h
    ·cases h;exact .inr rfl
   ·cases h
theorem Ll {k:Nat} (ops:List (AI×List AI))(e:Env)(hs:(ops.all fun a=>a.1.d != some k)=true):get (rC ops e) k=get e k:=by
 unfold rC
 induction ops with
 | nil=>rfl
 | cons y l ih=>
   rw [List.all_cons,Bool.and_eq_true] at hs
   cases hd:y.1.d with
   | none=>rw [List.filterMap_cons_none (f:=fun x:AI×List AI=>x.1.d) hd];exact ih hs.2
   | some d=>
     rw [List.filterMap_cons_some (f:=fun x:AI×List AI=>x.1.d) hd,List.map_cons,List.cons_append]
     simp only [Go.dX.get]
     have h1:=hs.1
     rw [hd] at h1
     rw [if_neg (by simpa using h1)]
     exact ih hs.2
theorem Lm {X:Ctx} {run:gW} {n k:Nat} :∀(a:AC) (e:Env) (σ:St) (o:Out) (e':Env) (σ':St),kC k a=true→aW X run n a e σ=some (o,e',σ')→get e' k=get e k:=by
 intro a
 induction a with
 | skip=>intro e σ o e' σ' _ h;cases h;rfl
 | exit id=>intro e σ o e' σ' _ h;cases h;rfl
 | ret=>intro e σ o e' σ' _ h;cases h;rfl
 | reg ops=>
   intro e σ o e' σ' hs h
   simp only [aW,Option.map_eq_some_iff] at h
   obtain⟨r,h1,h⟩:=h
   cases h
   exact EO ops e σ _ _ hs h1
 | gJ ops=>
   intro e σ o e' σ' hs h
   simp only [aW,Option.map_eq_some_iff] at h
   obtain⟨r,h1,h⟩:=h
   cases h
   exact EP ops e σ _ _ hs h1
 | iO ops=>intro e σ o e' σ' hs h;exact BX ops e σ _ _ _ hs h
 | iM ops=>
   intro e σ o e' σ' hs h
   rcases BZ ops e σ _ _ _ hs h with q | q
   ·exact q
   ·rw [q];exact Ll ops e hs
 | seq a b iha ihb=>
   intro e σ o e' σ' hs h
   simp only [kC,Bool.and_eq_true] at hs
   simp only [aW] at h
   split at h
   ·rename_i e1 s1 h1
    rw [ihb _ _ _ _ _ hs.2 h,iha _ _ _ _ _ hs.1 h1]
   ·exact iha _ _ _ _ _ hs.1 h
 | cond x a b iha ihb=>
   intro e σ o e' σ' hs h
   simp only [kC,Bool.and_eq_true] at hs
   simp only [aW] at h
   split at h
   ·exact iha _ _ _ _ _ hs.1 h
   ·exact ihb _ _ _ _ _ hs.2 h
   ·cases h
 | blk id c ih=>
   intro e σ o e' σ' hs h
   simp only [aW] at h
   split at h
   ·rename_i j e1 s1 h1
    simp only [Option.some.injEq,Prod.mk.injEq] at h
    obtain⟨rfl,rfl,rfl⟩:=h
    exact ih _ _ _ _ _ hs h1
   ·exact ih _ _ _ _ _ hs h
 | loop l c ih=>
   intro e σ o e' σ' hs h
   simp only [kC,Bool.and_eq_true] at hs
   simp only [aW] at h
   have key:∀(m:Nat) (e:Env) (σ:St),iP l (aW X run n c) m e σ=some (o,e',σ')→get e' k=get e k:=by
    intro m
    induction m with
    | zero=>intro e σ h;cases h
    | succ m ihm=>
      intro e σ h
      simp only [iP] at h
      split at h
      ·rename_i e1 s1 h1
       rw [ihm _ _ h,ih _ _ _ _ _ hs.2 h1,ni hs.1]
      ·rw [ih _ _ _ _ _ hs.2 h,ni hs.1]
   exact key n e σ h
 | cut l c ih=>
   intro e σ o e' σ' hs h
   simp only [kC,Bool.and_eq_true] at hs
   simp only [aW] at h
   rw [ih _ _ _ _ _ hs.2 h,ni hs.1]
 | hnd _ _ _ _ _ _ _=>intro e σ o e' σ' hs h;cases hs
 | Kv _=>intro e σ o e' σ' hs h;cases hs
def cutK (k:Nat):AC→Bool
 | .cut l _=>l.contains k
 | _=>true
def RV (P:Program)(G N k:Nat)(ops:Array Oper)(a:AI):Bool:=ops.size == 2 && (match ops[0]?,ops[1]? with
 | some o0,some o1=>iR P G N ops o0 a && a.d == some k && a.gd.isNone && (match a.op with | .rQ (.func _) _ _=>true | _=>false) &&
  o1.guard.isNone && o1.dst.isNone && (match o1.op with
    | .defer c=>(match c.callee with
      | .value (.tmp j)=>j == k && c.args.size == 0
      | _=>false)
    | _=>false)
 | _,_=>false)
def w_ (P:Program)(G N k:Nat):Code→AC→Bool
 | .scope c,a=>w_ P G N k c a
 | .seq c d,.seq a b=>(okC P G N (.seq c d) (.seq a b) && kC k (.seq a b)) || (w_ P G N k c a && w_ P G N k d b.unJ && cutK k b)
 | .cond x c d,.cond y a b=>dG G x y && w_ P G N k c a && w_ P G N k d b
 | .block id c,.blk id' a=>id == id' && w_ P G N k c a
 | .loop c,.loop l a=>l.contains k && w_ P G N k c a
 | .region _ ops false,.Kv a=>RV P G N k ops a
 | c,a=>okC P G N c a && kC k a
def uQ (k:Nat)(μ:Mu)(w:World)(e:Env)(ds:List Deferred):Prop:=match get e k with
 | .fn (.func g) first cap=>∃a c,ds=[⟨.fn (.func g) c,a⟩]∧aY μ w first a.toList∧aY μ w cap c.toList
 | _=>ds=[]
theorem uQ.mono {k:Nat} {μ μ':Mu} {w w':World} {e:Env} {ds:List Deferred} (h:uQ k μ w e ds)(hm:μ.le μ')(hw:jH w w'):uQ k μ' w' e ds:=by
 unfold uQ at h ⊢
 split at h
 ·obtain⟨a,c,h1,h2,h3⟩:=h
  exact⟨a,c,h1,aY.mono hm hw _ _ h2,aY.mono hm hw _ _ h3⟩
 ·exact h
theorem uQ.same {k:Nat} {μ:Mu} {w:World} {e e':Env} {ds:List Deferred} (h:uQ k μ w e ds)(he:get e' k=get e k):uQ k μ w e' ds:=by
 unfold uQ at h ⊢
 rw [he];exact h
def B_ (k G N:Nat)(μ:Mu)(σ:St)(w:World)(o:Out)(e':Env)(σ':St)(x:Exit)(act':Act)(w':World):Prop:=
 ∃ μ',Step G μ σ w μ' σ' w'∧dw G N μ' w' e' act'.tmps∧uQ k μ' w' e' act'.defers∧Rj μ' w' o x
theorem B_.trans {k G N:Nat} {μ:Mu} {σ σ1 σ2:St} {w w1 w2:World} {o:Out} {x:Exit} {e2:Env} {a2:Act} {pK:Mu} (h:Step G μ σ w pK σ1 w1)(q:B_ k G N pK σ1 w1 o e2 σ2 x a2 w2):B_ k G N μ σ w o e2 σ2 x a2 w2:=by
 obtain⟨y7,h1,h2,h3,h4⟩:=q
 exact⟨y7,h.trans h1,h2,h3,h4⟩
section
variable {X:Ctx} {G N:Nat} {run:gW}
def Aj (X:Ctx)(G N k:Nat)(c:Code)(f:Env→St→Option (Out×Env×St)):Prop:=
 ∀ (e:Env) (act:Act) (μ:Mu) (σ:St) (w:World) (o:Out) (e':Env) (σ':St) (Q:Exit→Act→World→Prop),gQ G μ σ w→dw G N μ w e act.tmps→uQ k μ w e act.defers→f e σ=some (o,e',σ')→
   (∀x act' w',B_ k G N μ σ w o e' σ' x act' w'→Q x act' w')→c.wp X.P Q act w
theorem nP (hX:X.Ok G)(hrun:gY X.P G run)(hf:X.P.follows .mixedOrders=true) {n k:Nat} {c:Code} {a:AC} (h:(okC X.P G N c a && kC k a)=true):Aj X G N k c (aW X run n a):=by
 rw [Bool.and_eq_true] at h
 intro e act μ σ w o e' σ' Q hs he hd hc hQ
 refine sV hX hrun hf c a h.1 act.defers e act μ σ w o e' σ' Q hs he rfl hc fun x act' w' hl=>?_
 obtain⟨pK,h1,h2,h3,h4⟩:=hl
 refine hQ _ _ _ ⟨pK,h1,h2,?_,h4⟩
 rw [h3]
 exact(hd.mono h1.ext h1.kY).same (Lm a _ _ _ _ _ h.2 hc)
theorem O_ {k:Nat} {c:Code} {live:List Nat} (hl:live.contains k=true) {f:Env→St→Option (Out×Env×St)} (h:Aj X G N k c f)(n:Nat):Aj X G N k (.loop c) (iP live f n):=by
 intro e act μ σ w o e' σ' Q hs he hd hf hQ
 refine wp_loop_rounds n ?_
 induction n generalizing e act μ σ w with
 | zero=>cases hf
 | succ n ih=>
   rw [rounds_succ]
   simp only [iP] at hf
   split at hf
   ·rename_i e1 σ1 h1
    refine h (clear live e) act μ σ w .normal e1 σ1 _ hs (he.clear live) (hd.same (ni hl e)) h1 fun x act' w' hl=>?_
    obtain⟨pK,hst,hen,hdf,rfl⟩:=hl
    exact ih e1 act' pK σ1 w' hst.pJ hen hdf hf fun x Lh w2 hl2=>hQ _ _ _ (hl2.trans hst)
   ·rename_i hnn
    refine h (clear live e) act μ σ w o e' σ' _ hs (he.clear live) (hd.same (ni hl e)) hf fun x act' w' hl=>?_
    have hq:=hQ _ _ _ hl
    obtain⟨_,_,_,_,hx⟩:=hl
    cases o with
    | normal=>exact absurd hf (hnn _ _)
    | exit id=>cases hx;exact hq
    | ret=>cases hx;exact hq
    | gu r=>obtain⟨v,rfl,_⟩:=hx;exact hq
theorem dfr_rel (hX:X.Ok G)(hrun:gY X.P G run) {k n:Nat} {id:Nat} {ops:Array Oper} {a:AI} (h:RV X.P G N k ops a=true) {e:Env} {act:Act} {μ:Mu} {σ:St} {w:World} {o:Out} {e':Env} {σ':St} {Q:Exit→Act→World→Prop}
 (hs:gQ G μ σ w) (he:dw G N μ w e act.tmps) (hd:uQ k μ w e act.defers) (hc:aW X run n (.Kv a) e σ=some (o,e',σ')) (hQ:∀x act' w',B_ k G N μ σ w o e' σ' x act' w'→Q x act' w'):(Code.region id ops false).wp X.P Q act w:=by
 unfold RV at h
 rw [Bool.and_eq_true,beq_iff_eq] at h
 obtain⟨hsz,h⟩:=h
 split at h
 ·rename_i o0 o1 ho0 ho1
  simp only [Bool.and_eq_true,beq_iff_eq] at h
  obtain⟨⟨⟨⟨⟨⟨h1,h2⟩,h3⟩,h4⟩,h5⟩,h6⟩,h7⟩:=h
  have hg1:o1.guard=none:=by simpa using h5
  have hd1:o1.dst=none:=by simpa using h6
  have hga:a.gd=none:=by simpa using h3
  simp only [aW] at hc
  split at hc
  ·cases hc
  rename_i hnf
  rw [h2] at hnf
  have hd0:act.defers=[]:=by
   unfold uQ at hd
   split at hd
   ·rename_i g f c hh;rw [Option.getD_some,hh] at hnf;exact absurd rfl hnf
   ·exact hd
  simp only [Option.map_eq_some_iff,jG] at hc
  obtain⟨⟨e1,s1⟩,hc,hce⟩:=hc
  cases hce
  split at hc
  ·rename_i v σ1 hst
   cases hc
   refine wp_region ?_
   rw [hsz,show List.range 2=[0,1] from rfl,wpOps]
   simp only [ho0]
   refine kR (ops:=ops) hX hrun.nrm hs he h1 hst fun u w1 pK hv st1=>?_
   have hk1:=h1
   simp only [iR,Bool.and_eq_true,beq_iff_eq] at hk1
   have en1:dw G N pK w1 (put a.d v e) (act.put o0.dst u).tmps:=by rw [hk1.1.1.1];exact(he.mono st1.ext st1.kY).put hk1.1.1.2 hv
   rw [wpOps]
   simp only [ho1]
   split at h4
   ·rename_i g first cap hop
    unfold dK at hst
    rw [hga] at hst
    simp only [dO,hop,eY,Option.some.injEq,Prod.mk.injEq] at hst
    obtain⟨rfl,rfl⟩:=hst
    split at h7
    ·rename_i c ho1op
     split at h7
     ·rename_i j hcal
      simp only [Bool.and_eq_true,beq_iff_eq] at h7
      obtain⟨rfl,hargs⟩:=h7
      have hget:get (put a.d (.fn (.func g) (first.map (bT.ev e)) (cap.map (bT.ev e))) e) j= .fn (.func g) (first.map (bT.ev e)) (cap.map (bT.ev e)):=by rw [h2];exact eU
      have hr:=en1.rel j
      rw [hget] at hr
      obtain⟨ca,cc,hval,r1,r2⟩:=hr
      have hw:Region.wanted o1 (yielded ops (act.put o0.dst u).tmps)=true:=by simp [Region.wanted,hg1]
      rw [if_pos hw]
      refine .inl ?_
      unfold Oper.wp
      have hempty:c.args.map (act.put o0.dst u).eval= #[]:=by
       have:c.args= #[]:=Array.eq_empty_of_size_eq_zero hargs
       rw [this];simp
      have hex:(execOp (act.put o0.dst u).eval o1).run X.P w1= .ok (.defer ⟨.fn (.func g) cc,ca ++ #[]⟩) w1:=by
       have hv2:(act.put o0.dst u).eval (.tmp j)= .func (.func g) ca cc:=hval
       simp only [execOp,ho1op,resolve,hcal,hempty,hv2]
       rfl
      rw [hex,Oper.upon_defer,wpOps,hd1]
      refine hQ _ _ _ ⟨pK,st1,en1,?_,rfl⟩
      unfold uQ
      rw [hget]
      refine⟨ca ++ #[],cc,?_,by simpa using r1,r2⟩
      show ⟨.fn (.func g) cc,ca ++ #[]⟩ :: (act.put o0.dst u).defers=_
      rw [dL,hd0]
     ·cases h7
    ·cases h7
   ·cases h4
  ·cases hc
 ·cases h
theorem Pg (hX:X.Ok G)(hrun:gY X.P G run)(hf:X.P.follows .mixedOrders=true) {n k:Nat} :∀(c:Code) (a:AC),w_ X.P G N k c a=true→Aj X G N k c (aW X run n a):=by
 intro c
 induction c with
 | scope c ih=>
   intro a hok e act μ σ w o e' σ' Q hs he hd h hQ
   refine wp_scope_straight (ih a (by simpa [w_] using hok) e act μ σ w o e' σ' _ hs he hd h fun x act' w' hl=>?_)
   have hq:=hQ x act' w' hl
   obtain⟨_,_,_,_,hx⟩:=hl
   cases o with
   | normal=>cases hx;exact hq
   | exit id=>cases hx;exact hq
   | ret=>cases hx;exact hq
   | gu r=>obtain⟨v,rfl,_⟩:=hx;exact hq
 | seq c d rP RS=>
   intro a hok
   cases a with
   | seq a b=>
     simp only [w_,Bool.or_eq_true,Bool.and_eq_true] at hok
     rcases hok with hok | hok
     ·exact nP hX hrun hf (by rw [Bool.and_eq_true];exact hok)
     intro e act μ σ w o e' σ' Q hs he hd h hQ
     simp only [aW] at h
     refine wp_seq ?_
     split at h
     ·rename_i e1 σ1 h1
      refine rP a hok.1.1 e act μ σ w .normal e1 σ1 _ hs he hd h1 fun x act' w' hl=>?_
      obtain⟨pK,hst,hen,hdf,rfl⟩:=hl
      have hd2:=RS b.unJ hok.1.2
      rcases AC.EM b with hb | ⟨l,hb⟩
      ·rw [hb] at hd2
       exact hd2 e1 act' pK σ1 w' o e' σ' Q hst.pJ hen hdf h fun x Lh w2 hl2=>hQ _ _ _ (hl2.trans hst)
      ·have hk:=hok.2
       rw [hb] at h hk
       simp only [aW] at h
       exact hd2 (clear l e1) act' pK σ1 w' o e' σ' Q hst.pJ (hen.clear l) (hdf.same (ni hk e1)) h fun x Lh w2 hl2=>hQ _ _ _ (hl2.trans hst)
     ·rename_i hnn
      refine rP a hok.1.1 e act μ σ w o e' σ' _ hs he hd h fun x act' w' hl=>?_
      have hq:=hQ _ _ _ hl
      obtain⟨_,_,_,_,hx⟩:=hl
      cases o with
      | normal=>exact absurd h (hnn _ _)
      | exit id=>cases hx;exact hq
      | ret=>cases hx;exact hq
      | gu r=>obtain⟨v,rfl,_⟩:=hx;exact hq
   | _=>exact nP hX hrun hf hok
 | cond x c d rP RS=>
   intro a hok
   cases a with
   | cond y a b=>
     simp only [w_,Bool.and_eq_true] at hok
     intro e act μ σ w o e' σ' Q hs he hd h hQ
     have hx:=mZ hs he hok.1.1
     simp only [aW] at h
     split at h
     ·rename_i hy
      rw [hy] at hx
      exact wp_cond_true hx (rP a hok.1.2 e act μ σ w o e' σ' _ hs he hd h hQ)
     ·rename_i hy
      rw [hy] at hx
      exact wp_cond_false hx (RS b hok.2 e act μ σ w o e' σ' _ hs he hd h hQ)
     ·cases h
   | _=>exact nP hX hrun hf hok
 | block id c ih=>
   intro a hok
   cases a with
   | blk id' a=>
     simp only [w_,Bool.and_eq_true,beq_iff_eq] at hok
     obtain⟨rfl,hok⟩:=hok
     intro e act μ σ w o e' σ' Q hs he hd h hQ
     simp only [aW] at h
     refine wp_block ?_
     split at h
     ·rename_i j e1 σ1 h1
      simp only [Option.some.injEq,Prod.mk.injEq] at h
      obtain⟨rfl,rfl,rfl⟩:=h
      refine ih a hok e act μ σ w (.exit j) _ _ _ hs he hd h1 fun x act' w' hl=>?_
      obtain⟨pK,k1,k2,k3,rfl⟩:=hl
      simp only [Exit.inBlock]
      split
      ·rename_i hj;exact hQ _ _ _ ⟨pK,k1,k2,k3,by rw [if_pos hj];rfl⟩
      ·rename_i hj;exact hQ _ _ _ ⟨pK,k1,k2,k3,by rw [if_neg hj];rfl⟩
     ·rename_i hnn
      refine ih a hok e act μ σ w o e' σ' _ hs he hd h fun x act' w' hl=>?_
      have hq:=hQ _ _ _ hl
      obtain⟨_,_,_,_,hx⟩:=hl
      cases o with
      | normal=>cases hx;exact hq
      | exit id=>exact absurd h (hnn _ _ _)
      | ret=>cases hx;exact hq
      | gu r=>obtain⟨v,rfl,_⟩:=hx;exact hq
   | _=>exact nP hX hrun hf hok
 | loop c ih=>
   intro a hok
   cases a with
   | loop l a=>
     simp only [w_,Bool.and_eq_true] at hok
     exact O_ hok.1 (ih a hok.2) n
   | _=>exact nP hX hrun hf hok
 | region id ops draw=>
   intro a hok
   cases a with
   | Kv a=>
     cases draw with
     | false=>
       intro e act μ σ w o e' σ' Q hs he hd h hQ
       exact dfr_rel hX hrun hok hs he hd h hQ
     | true=>cases hok
   | _=>exact nP hX hrun hf (by cases draw <;> exact hok)
 | _=>intro a hok;exact nP hX hrun hf (by cases a <;> exact hok)
end
end Go.dX
namespace Go.dX
def okRcv (o:Oper)(d:Nat):Bool:=o.guard.isNone && o.dst == some d && (match o.op with
 | .call c=>(match c.callee with
   | .builtin b=>(match b with | .recover=>true | _=>false)
   | _=>false)
 | _=>false)
def yE (P:Program)(G N:Nat)(ops:Array Oper):List Nat→List AI→Bool
 | [],[]=>true
 | i :: is,a :: xs=>(match ops[i]? with | some o=>iR P G N ops o a && a.gd.isNone && o.guard.isNone && a.op.exact | none=>false) && yE P G N ops is xs
 | _,_=>false
def okHF (P:Program)(G g d:Nat)(h:AC):Bool:=match P.funcs[g]? with
 | some fn=>!(fn.name == "runtime.NumGoroutine") && fn.results.size == 0 && decide (d<fn.ntmps) && (match fn.body,h with
   | some (.seq (.region _ ops false) rest),.seq (.reg l) b=>(match ops[0]? with | some o=>okRcv o d | none=>false) && yE P G fn.ntmps ops (List.range ops.size).tail l && okC P G fn.ntmps rest b
   | _,_=>false)
 | none=>false
section
variable {X:Ctx} {G N:Nat} {run:gW}
theorem Jd {run:Run} {ops:Array Oper} {ds:List Deferred} {Q:Exit→Act→List Frame→World→Prop} {cs:List Frame} {μ:Mu} {w:World} :∀(is:List Nat) (l:List AI) (e:Env) (act:Act) (σ:St) (e':Env) (σ':St),
 yE X.P G N ops is l=true→gQ G μ σ w→dw G N μ w e act.tmps→act.defers=ds→jG X run l e σ=some (e',σ')→
 (∀act',σ'= σ→dw G N μ w e' act'.tmps→act'.defers=ds→Q .normal act' cs w)→wpOpsS X.P ops Q is act cs w
 | [],[],e,act,σ,e',σ',_,hs,he,hd,h,hQ=>by
   cases h
   exact hQ _ rfl he hd
 | [],_ :: _,_,_,_,_,_,hk,_,_,_,_,_=>by simp [yE] at hk
 | _ :: _,[],_,_,_,_,_,hk,_,_,_,_,_=>by simp [yE] at hk
 | i :: is,a :: l,e,act,σ,e',σ',hk,hs,he,hd,h,hQ=>by
   simp only [yE,Bool.and_eq_true] at hk
   obtain⟨h1,h2⟩:=hk
   split at h1
   ·rename_i o ho
    simp only [Bool.and_eq_true] at h1
    obtain⟨⟨⟨hok,hga⟩,hgo⟩,hex⟩:=h1
    have hga:a.gd=none:=by simpa using hga
    have hgo:o.guard=none:=by simpa using hgo
    simp only [jG] at h
    split at h
    ·rename_i v σ1 hst
     have hp:=qM hex
     have hσ:=jl hp hst
     subst hσ
     unfold dK at hst
     rw [hga] at hst
     simp only at hst
     rw [lD hp] at hst
     have hok':=hok
     simp only [iR,Bool.and_eq_true,beq_iff_eq] at hok'
     have hto:=Bc hs hok'.2 (Ae hs he _) (oK e) hst
     rw [hex] at hto
     obtain⟨n,w',μ',u,hrun,hn,hv,hstp,hsame⟩:=hto
     obtain⟨rfl,rfl⟩:=hsame rfl
     have hw:Region.wanted o (yielded ops act.tmps)=true:=by simp [Region.wanted,hgo]
     have hrest:wpOpsS X.P ops Q is (act.put o.dst u) cs w':=by
      refine Jd is l _ _ σ1 e' σ' h2 hs (by rw [hok'.1.1.1];exact he.put hok'.1.1.2 hv) (by rw [dL];exact hd) h hQ
     rw [wpOpsS]
     simp only [ho]
     rw [if_pos hw,hrun]
     rcases hn with rfl | ⟨rfl,rfl⟩
     ·exact hrest
     ·exact hrest
    ·cases h
   ·cases h1
inductive Rcv (μ:Mu) (w:World):AV→FrameMode→FrameMode→Prop where
 | still:Rcv μ w .fK .returning .returning
 | up (r:AV) (v:Value):aV μ w r v→Rcv μ w r (.panicking [{ v,recovered:=false }]) (.panicking [{ v,recovered:=true }])
theorem hf_does (hX:X.Ok G)(hrun:gY X.P G run)(hf:X.P.follows .mixedOrders=true) {n g d:Nat} {h:AC} (hok:okHF X.P G g d h=true) {rv:AV} {args:List AV} {σ:St} {q:Out} {e':Env} {σ':St}
 (hc:aW X run n h ((d,rv) :: d_ 0 args) σ=some (q,e',σ')) (hq:q= .normal∨q= .ret) (hl:args.length≤d) {μ:Mu} {w:World} {bg:Array Value} (hs:gQ G μ σ w) (hr:aY μ w args bg.toList) {u u2:FrameMode} (hu:Rcv μ w rv u u2) :
 (callFunc g bg).run X.P w= .ok (.enter g bg) w∧CallsD X.P g bg u w fun e u' w'=>(∃v,e= .returned v)∧u'= u2∧∃μ',Step G μ σ w μ' σ' w':=by
 unfold okHF at hok
 split at hok
 ·rename_i fn hfn
  simp only [Bool.and_eq_true,Bool.not_eq_true',beq_iff_eq,decide_eq_true_eq] at hok
  obtain⟨⟨⟨hnm,hres⟩,hdN⟩,hbody⟩:=hok
  split at hbody
  ·rename_i fid ops rest l b hfb
   simp only [Bool.and_eq_true] at hbody
   obtain⟨⟨hrcv,hidx⟩,hrest⟩:=hbody
   refine⟨kF hfn hnm (by rw [hfb];rfl) bg w,?_⟩
   split at hrcv
   ·rename_i o ho
    simp only [okRcv,Bool.and_eq_true,beq_iff_eq] at hrcv
    obtain⟨⟨hg,hdst⟩,hop⟩:=hrcv
    have hg:o.guard=none:=by simpa using hg
    have hlt:0<ops.size:=(Array.getElem?_eq_some_iff.1 ho).1
    simp only [aW] at hc
    have hsplit:∃e1 σ1,jG X (nrm run) l ((d,rv) :: d_ 0 args) σ=some (e1,σ1)∧aW X run n b e1 σ1=some (q,e',σ'):=by
     cases ho2:jG X (nrm run) l ((d,rv) :: d_ 0 args) σ with
     | none=>rw [ho2] at hc;cases hc
     | some y=>rw [ho2] at hc;exact⟨y.1,y.2,rfl,hc⟩
    obtain⟨e1,σ1,hops,hb⟩:=hsplit
    refine callsD_of_wpS hfn hfb fun c₀ cs hmode=>?_
    apply wpS_seq
    apply wpS_region
    have hrange:List.range ops.size=0 :: (List.range ops.size).tail:=by
     cases hz:List.range ops.size with
     | nil=>have:=congrArg List.length hz;rw [List.length_range,List.length_nil] at this;omega
     | cons a t=>
       have h0:=congrArg (fun x=>x[0]?) hz
       simp only [List.getElem?_cons_zero] at h0
       rw [List.getElem?_range hlt] at h0
       cases h0;rfl
    rw [hrange,wpOpsS]
    simp only [ho]
    have hw:∀t,Region.wanted o (yielded ops t)=true:=fun t=>by simp [Region.wanted,hg]
    rw [if_pos (hw _)]
    have hsz:bg.size=args.length:=by have:=hr.length;simpa using this
    have I_:=oM (G:=G) (args:=args) (nt:=fn.ntmps) hr (Nat.le_trans hl (Nat.le_of_lt hdN))
    have hexec:∀ρ,(execOp ρ o).run X.P w= .ok .recover w:=by
     intro ρ
     split at hop
     ·rename_i c hc2
      split at hop
      ·rename_i bb hbb
       split at hop
       ·simp only [execOp,hc2,resolve,hbb];rfl
       ·cases hop
      ·cases hop
     ·cases hop
    rw [hexec]
    have behind:∀(cs':List Frame) (v:Value),aV μ w rv v→(∃u',cs'= { c₀ with mode:=u' } :: cs∧u'= u2)→
     wpOpsS X.P ops (Exit.thenS (rest.wpS X.P (bodyPostS X.P fn c₀ cs fun e u' w'=>(∃v,e= .returned v)∧u'= u2∧∃μ',Step G μ σ w μ' σ' w')) (bodyPostS X.P fn c₀ cs fun e u' w'=>(∃v,e= .returned v)∧u'= u2∧∃μ',Step G μ σ w μ' σ' w')) (List.range ops.size).tail
      (Act.put { tmps:=bg ++ Array.replicate (fn.ntmps - bg.size) undef,defers:=[] } o.dst v) cs' w:=by
     intro cs' v hv hcs
     refine Jd (X:=X) (N:=fn.ntmps) (run:=nrm run) (ds:=[]) _ l ((d,rv) :: d_ 0 args) _ σ e1 σ1 hidx hs ?_ ?_ hops ?_
     ·rw [hdst]
      exact I_.put (d:=some d) (act:={ tmps:=bg ++ Array.replicate (fn.ntmps - bg.size) undef,defers:=[] }) (by simp only [rD,decide_eq_true_eq];exact hdN) hv
     ·rw [dL]
     ·intro act' hσ RU hdf
      subst hσ
      refine wpS_of_wp (sV hX hrun hf rest b hrest [] e1 act' μ σ1 w q e' σ' _ hs RU hdf hb fun x Lh w2 hl2=>?_)
      obtain⟨y7,st2,en2,d2,hx⟩:=hl2
      obtain⟨u',rfl,hu'⟩:=hcs
      have hre:∃vv,(results fn Lh.tmps).run X.P w2= .ok vv w2:=by
       have h0:uO X.P [] e' σ'= some (.tu []):=rfl
       have hn:pF fn.results.toList []=true:=by
                have:fn.results= #[]:=Array.eq_empty_of_size_eq_zero hres
                rw [this];rfl
       obtain⟨vv,q1,_⟩:=oN (X:=X) st2.pJ en2 hn h0
       exact⟨vv,q1⟩
      obtain⟨vv,hvv⟩:=hre
      rcases hq with rfl | rfl
      ·cases hx;exact⟨d2,u',rfl,vv,hvv,⟨vv,rfl⟩,hu',y7,st2⟩
      ·cases hx;exact⟨d2,u',rfl,vv,hvv,⟨vv,rfl⟩,hu',y7,st2⟩
    cases hu with
    | still=>
      have hrec:recoverD (c₀ :: cs)=none:=by simp only [recoverD,hmode]
      simp only [hrec]
      exact behind _ _ (by simp [aV]) ⟨.returning,by rw [←hmode],rfl⟩
    | up r v hv=>
      have hrec:recoverD (c₀ :: cs)=some (v,{ c₀ with mode:=.panicking [{ v,recovered:=true }] } :: cs):=by simp only [recoverD,hmode]
      simp only [hrec]
      exact behind _ _ hv ⟨_,rfl,rfl⟩
   ·cases hrcv
  ·cases hbody
 ·cases hok
def RX (P:Program)(G f:Nat)(F:AF):Bool:=match P.funcs[f]?,F.code with
 | some fn,.hnd k g d c h=>fn.ntmps == F.nt && !(fn.name == "runtime.NumGoroutine") && pF fn.results.toList F.res && decide (k<F.nt) && okHF P G g d h && (match fn.body with
   | some b=>w_ P G F.nt k b c
   | none=>false)
 | _,_=>false
theorem RY {P:Program} {fns:Nat→Option AF} {dk:Nat→Bool} {G f:Nat} {F:AF} (hok:RX P G f F=true):BP P fns dk G f F:=by
 intro X hP hF hD hX hdr run n hrun hrd args σ b v σ1 hlen hb μ w bg hs hr
 subst hP
 unfold RX at hok
 split at hok
 ·rename_i fn k g d c h hfn hcode
  simp only [Bool.and_eq_true,Bool.not_eq_true',beq_iff_eq,decide_eq_true_eq] at hok
  obtain⟨⟨⟨⟨⟨hnt,hnm⟩,hres⟩,hk⟩,hhf⟩,hbody⟩:=hok
  split at hbody
  ·rename_i body hbd
   have hen:Enters X.P f:=kF hfn hnm (by rw [hbd];rfl)
   refine⟨hen,calls_of_wp_defers hfn hbd ?_⟩
   rw [EC,hcode] at hb
   simp only [aW] at hb
   cases hc:aW X run n c ((k,.u) :: d_ 0 args) σ with
   | none=>rw [hc] at hb;simp at hb
   | some y=>
     obtain⟨o,e1,s1⟩:=y
     rw [hc] at hb
     have hsz:bg.size=args.length:=by have:=hr.length;simpa using this
     rw [hnt]
     have I_:=oM (G:=G) hr hlen
     have RU:dw G F.nt μ w ((k,.u) :: d_ 0 args) (bg ++ Array.replicate (F.nt - bg.size) undef):=by
      refine⟨I_.size,fun m=>?_⟩
      simp only [Go.dX.get]
      split
      ·trivial
      ·exact I_.rel m
     have hD0:uQ k μ w ((k,.u) :: d_ 0 args) []:=by
      unfold uQ
      simp [Go.dX.get]
     refine Pg hX hrun hdr body c hbody ((k,.u) :: d_ 0 args) { tmps:=bg ++ Array.replicate (F.nt - bg.size) undef,defers:=[] } μ σ w o e1 s1 _ hs RU hD0 hc fun x act' w' hl=>?_
     obtain⟨pK,st1,en1,hd1,hx⟩:=hl
     have fin:∀(y7:Mu) (w2:World) (s2:St) (q:Out),q= .normal∨q= .ret→Step G pK s1 w' y7 s2 w2→Iu X F.res (q,e1,s2)=some (b,v,σ1)→∃vv,(results fn act'.tmps).run X.P w2= .ok vv w2∧lu G μ σ w b v σ1 (.returned vv) w2:=by
      intro y7 w2 s2 q hq st2 hb2
      have hb2:(uO X.P F.res e1 s2).map (fun v=>(false,v,s2))=some (b,v,σ1):=by rcases hq with rfl | rfl <;> exact hb2
      rw [Option.map_eq_some_iff] at hb2
      obtain⟨v',hv,hb2⟩:=hb2
      cases hb2
      obtain⟨vv,q1,q2⟩:=oN (X:=X) st2.pJ (en1.mono st2.ext st2.kY) hres hv
      exact⟨vv,q1,vv,y7,rfl,q2,st1.trans st2⟩
     have key:∀(u u2:FrameMode) (R:Prop),u≠.run→Rcv pK w' o.rec' u u2→settle u2= .returning→(wI k g d (aW X run n h) (d_ 0) o e1 s1).bind (Iu X F.res)=some (b,v,σ1)→
            ((∀g' first cap,get e1 k≠.fn (.func g') first cap)→act'.defers=[]→Iu X F.res (o,e1,s1)=some (b,v,σ1)→Leaves X.P fn act'.tmps (lu G μ σ w b v σ1) act'.defers u w')→Leaves X.P fn act'.tmps (lu G μ σ w b v σ1) act'.defers u w':=by
      intro u u2 R hur hu hset hb hno
      unfold uQ at hd1
      unfold wI at hb
      split at hd1
      ·rename_i g' first cap hget
       rw [hget] at hb
       obtain⟨ca,cc,hds,r1,r2⟩:=hd1
       simp only at hb
       split at hb
       ·rename_i hg
        obtain⟨rfl,hlen2⟩:=hg
        cases hh:aW X run n h ((d,o.rec') :: d_ 0 (first ++ cap)) s1 with
        | none=>rw [hh] at hb;cases hb
        | some z=>
          obtain⟨q,e2,s2⟩:=z
          rw [hh] at hb
          have hq:(q= .normal∨q= .ret)∧Iu X F.res (.ret,e1,s2)=some (b,v,σ1):=by
           cases q with
           | normal=>exact⟨.inl rfl,hb⟩
           | ret=>exact⟨.inr rfl,hb⟩
           | exit id=>cases hb
           | gu r=>cases hb
          have hr2:aY pK w' (first ++ cap) (ca ++ cc).toList:=by
           rw [Array.toList_append];exact r1.append r2
          obtain⟨hi,hD⟩:=hf_does hX hrun hdr hhf hh hq.1 hlen2 st1.pJ hr2 hu
          rw [hds]
          refine leaves_cons hur hi (hD.mono fun ee u' w2 hR=>?_)
          obtain⟨⟨vr,rfl⟩,rfl,y7,st2⟩:=hR
          obtain⟨vv,q1,q2⟩:=fin y7 w2 s2 .ret (.inr rfl) st2 hq.2
          show Leaves X.P fn act'.tmps _ [] (settle u') w2
          rw [hset]
          exact⟨vv,q1,q2⟩
       ·cases hb
      ·rename_i hne
       refine hno (fun g' first cap hh=>hne _ _ _ hh) hd1 ?_
       split at hb
       ·rename_i g' first cap hh;exact(hne _ _ _ hh).elim
       ·exact hb
     cases o with
     | exit id=>cases hb
     | normal=>
       cases hx
       refine key .returning .returning True (by simp) .still rfl hb fun _ hd0 hb2=>?_
       obtain⟨vv,q1,q2⟩:=fin pK w' s1 .normal (.inl rfl) (Step.refl st1.pJ) hb2
       rw [hd0]
       exact⟨vv,q1,q2⟩
     | ret=>
       cases hx
       refine key .returning .returning True (by simp) .still rfl hb fun _ hd0 hb2=>?_
       obtain⟨vv,q1,q2⟩:=fin pK w' s1 .ret (.inr rfl) (Step.refl st1.pJ) hb2
       rw [hd0]
       exact⟨vv,q1,q2⟩
     | gu r=>
       obtain⟨pv,rfl,hpv⟩:=hx
       refine key (.panicking [{ v:=pv,recovered:=false }]) (.panicking [{ v:=pv,recovered:=true }]) True (by simp) (.up r pv hpv) rfl hb fun _ hd0 hb2=>?_
       cases hb2
       rw [hd0]
       exact⟨pv,pK,rfl,hpv,st1⟩
  ·cases hbody
 ·cases hok
def aU (P:Program)(G f:Nat)(F:AF):Bool:=Jb P G f F || RX P G f F
theorem RZ {P:Program} {fns:Nat→Option AF} {dk:Nat→Bool} {G f:Nat} {F:AF} (h:aU P G f F=true):Jb P G f F=true∨BP P fns dk G f F:=by
 rw [aU,Bool.or_eq_true] at h
 exact h.imp id RY
end
end Go.dX
