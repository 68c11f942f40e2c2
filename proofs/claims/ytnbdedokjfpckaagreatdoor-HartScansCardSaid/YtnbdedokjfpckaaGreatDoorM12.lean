/- Texts of this claim, joined: Abs30, Abs40, Abs41, Abs42, Abs43, Abs44, Abs45. -/
import Derived.Test.YtnbdedokjfpckaaGreatDoorM02
import Derived.Test.YtnbdedokjfpckaaGreatDoorM08
set_option linter.unusedVariables false
set_option linter.unusedSimpArgs false
namespace Go.cO
def bFn (X:Ctx):Nat→Run
 | 0,_,_,_=>none
 | n+1,f,args,σ=>
   match X.lD f with
   | some g=>g args σ
   | none=>match X.fns f with
     | some F=>
       if args.length≤F.nt then
        match bJ X (bFn X n) n F.code (eX 0 args) σ with
        | some (.normal,e,σ') | some (.ret,e,σ')=>(mg X.P F.res e σ').map fun v=>(v,σ')
        | _=>none
       else none
     | none=>none
theorem Fj (X:Ctx):∀n,(bFn X n).le (bFn X (n+1))
 | 0=>fun _ _ _ _ hx=>by simp [bFn] at hx
 | n+1=>fun f args σ x hx=>by
   rw [bFn] at hx ⊢
   cases hp:X.lD f with
   | some g=>rw [hp] at hx;exact hx
   | none=>
     rw [hp] at hx
     simp only at hx ⊢
     cases hf:X.fns f with
     | none=>rw [hf] at hx;simp at hx
     | some F=>
       rw [hf] at hx
       simp only at hx ⊢
       split at hx
       ·rename_i hl
        rw [if_pos hl]
        cases hc:bJ X (bFn X n) n F.code (eX 0 args) σ with
        | none=>rw [hc] at hx;simp at hx
        | some y=>rw [hc] at hx;rw [jB (Fj X n) (Nat.le_succ n) hc];exact hx
       ·simp at hx
theorem rO (X:Ctx) {n m:Nat} (h:n≤m):(bFn X n).le (bFn X m):=by
 induction h with
 | refl=>exact fun _ _ _ _ h=>h
 | step _ ih=>exact fun f args σ x hx=>Fj X _ _ _ _ _ (ih _ _ _ _ hx)
theorem Pv {X:Ctx} {G:Nat} (hX:X.Sound G):∀n,kP X.P G (bFn X n)∧Di X G (bFn X n)
 | 0=>⟨(by intro f args σ r σ' h;cases h),(by intro f _ args σ r σ' h;cases h)⟩
 | n+1=>by
   obtain⟨ih,ihd⟩:=Pv hX n
   constructor
   ·intro f args σ r σ' h
    simp only [bFn] at h
    split at h
    ·rename_i g hg
     exact hX.ok.lD f g hg _ _ _ _ h
    ·rename_i hp
     split at h
     ·rename_i F hF
      intro μ w aW hs hr
      split at h
      ·rename_i hlen
       have main:∀(o:Out) (e:Env) (σ1:St),bJ X (bFn X n) n F.code (eX 0 args) σ=some (o,e,σ1)→o= .normal∨o= .ret→(mg X.P F.res e σ1).map (fun v=>(v,σ1))=some (r,σ')→Does X.P f aW w (After G μ σ w r σ'):=by
             intro o e σ1 hcode ho hmap
             rw [Option.map_eq_some_iff] at hmap
             obtain⟨v,hv,yX⟩:=hmap
             cases yX
             obtain⟨he,hc⟩:=Jv hX.ok hX.draws (hX.fns f F hp hF) ih ihd hlen hcode ho hv hs hr
             exact .inl ⟨he aW w,hc⟩
       split at h
       ·rename_i e σ1 hcode;exact main _ _ _ hcode (.inl rfl) h
       ·rename_i e σ1 hcode;exact main _ _ _ hcode (.inr rfl) h
       ·cases h
      ·cases h
     ·cases h
   ·intro f hdk args σ r σ' h
    obtain⟨hp,hokf⟩:=hX.dks f hdk
    simp only [bFn,hp] at h
    split at h
    ·rename_i F hF
     intro μ w aW hs hr
     split at h
     ·rename_i hlen
      have main:∀(o:Out) (e:Env) (σ1:St),bJ X (bFn X n) n F.code (eX 0 args) σ=some (o,e,σ1)→o= .normal∨o= .ret→(mg X.P F.res e σ1).map (fun v=>(v,σ1))=some (r,σ')→BJ X.P f aW w (After G μ σ w r σ'):=by
            intro o e σ1 hcode ho hmap
            rw [Option.map_eq_some_iff] at hmap
            obtain⟨v,hv,yX⟩:=hmap
            cases yX
            exact ET hX.ok hX.draws (hokf F hF) ih hlen hcode ho hv hs hr
      split at h
      ·rename_i e σ1 hcode;exact main _ _ _ hcode (.inl rfl) h
      ·rename_i e σ1 hcode;exact main _ _ _ hcode (.inr rfl) h
      ·cases h
     ·cases h
    ·cases h
theorem b_ok {X:Ctx} {G:Nat} (hX:X.Sound G)(n:Nat):kP X.P G (bFn X n):=(Pv hX n).1
noncomputable def fN (n:Nat)(K:Nat→Bool):Bool:=Nat.rec (K (nat_lit 0)) (fun m _=>K (Nat.succ m)) n
theorem jM (n:Nat)(K:Nat→Bool):fN n K=K n:=by cases n <;> rfl
noncomputable def fSp {α:Type} (l:List α):(List α→Bool)→Bool:=List.rec (fun K=>K []) (fun a _ ih K=>ih fun t=>K (a :: t)) l
theorem vJ {α:Type} (l:List α)(K:List α→Bool):fSp l K=K l:=by
 induction l generalizing K with
 | nil=>rfl
 | cons a l ih=>exact ih _
inductive Tr (α:Type) where
 | lf
 | nd (v:Option α) (l r:Tr α)
section
variable {α:Type}
noncomputable def Tr.pick (v:Option α)(gl gr:Nat→Option α)(k:Nat):Option α:=Nat.rec (motive:=fun _=>Option α) v (fun k _=>Bool.rec (motive:=fun _=>Option α) (gr (Nat.div k (nat_lit 2))) (gl (Nat.div k (nat_lit 2))) (Nat.beq (Nat.mod k (nat_lit 2)) (nat_lit 0))) k
noncomputable def Tr.get:Tr α→Nat→Option α:=Tr.rec (fun _=>none) (fun v _ _ gl gr=>Tr.pick v gl gr)
abbrev TK (α:Type):=Tr α→Nat→α→(Tr α→Bool)→Bool
def Tr.kl (v:Option α)(r:Tr α)(K:Tr α→Bool)(l:Tr α):Bool:=K (.nd v l r)
def Tr.kr (v:Option α)(l:Tr α)(K:Tr α→Bool)(r:Tr α):Bool:=K (.nd v l r)
noncomputable def Tr.go (ih:TK α)(x:α)(K:Tr α→Bool)(v:Option α)(l r:Tr α)(k:Nat):Bool:=
 Bool.rec (ih r (Nat.div k (nat_lit 2)) x (kr v l K)) (ih l (Nat.div k (nat_lit 2)) x (kl v r K)) (Nat.beq (Nat.mod k (nat_lit 2)) (nat_lit 0))
noncomputable def Tr.at' (ih:TK α)(k:Nat)(x:α)(K:Tr α→Bool)(v:Option α)(l r:Tr α):Bool:=Nat.rec (K (.nd (some x) l r)) (fun k _=>Tr.go ih x K v l r k) k
noncomputable def Tr.st (ih:TK α)(t:Tr α)(k:Nat)(x:α)(K:Tr α→Bool):Bool:=Tr.rec (at' ih k x K none .lf .lf) (fun v l r _ _=>at' ih k x K v l r) t
noncomputable def Tr.set' (n:Nat):TK α:=Nat.rec (fun _ _ _ _=>false) (fun _ ih=>Tr.st ih) n
noncomputable def Tr.set:TK α:=Tr.set' (nat_lit 60)
theorem Tr.get_lf (k:Nat):(Tr.lf:Tr α).get k=none:=rfl
theorem Tr.lS (v:Option α)(l r:Tr α)(k:Nat):(Tr.nd v l r).get (k+1)=if k%2=0 then l.get (k / 2) else r.get (k / 2):=by
 show Bool.rec (motive:=fun _=>Option α) (r.get (k / 2)) (l.get (k / 2)) (Nat.beq (k%2) 0)=_
 cases h:Nat.beq (k%2) 0 with
 | true=>rw [if_pos (Nat.eq_of_beq_eq_true h)]
 | false=>rw [if_neg (Nat.ne_of_beq_eq_false h)]
theorem Tr.Dx:∀(n:Nat) (t:Tr α) (k:Nat) (x:α) (K:Tr α→Bool),Tr.set' n t k x K=true→∃t',K t'= true∧∀j,t'.get j=if j=k then some x else t.get j
 | 0,_,_,_,_,h=>by cases h
 | n+1,t,k,x,K,h=>by
   have main:∀(v:Option α) (l r:Tr α),(∀j,(Tr.nd v l r).get j=t.get j)→Tr.at' (Tr.set' n) k x K v l r=true→∃t',K t'= true∧∀j,t'.get j=if j=k then some x else t.get j:=by
    intro v l r hg h
    cases k with
    | zero=>
      refine⟨_,h,fun j=>?_⟩
      cases j with
      | zero=>rfl
      | succ j=>rw [if_neg (by omega),←hg,Tr.lS,Tr.lS]
    | succ k=>
      have h':Bool.rec (Tr.set' n r (k / 2) x (Tr.kr v l K)) (Tr.set' n l (k / 2) x (Tr.kl v r K)) (Nat.beq (k%2) 0)=true:=h
      cases hb:Nat.beq (k%2) 0 with
      | true=>
        rw [hb] at h'
        obtain⟨t',h1,h2⟩:=Tr.Dx n _ _ _ _ h'
        have hk:=Nat.eq_of_beq_eq_true hb
        refine⟨_,h1,fun j=>?_⟩
        cases j with
        | zero=>rw [if_neg (by omega),←hg];rfl
        | succ j=>
          rw [←hg,Tr.lS,Tr.lS,h2]
          by_cases hj:j%2=0
          ·rw [if_pos hj,if_pos hj]
           by_cases he:j=k
           ·subst he;rw [if_pos rfl,if_pos rfl]
           ·rw [if_neg (by omega),if_neg (by omega)]
          ·rw [if_neg hj,if_neg hj,if_neg (by omega)]
      | false=>
        rw [hb] at h'
        obtain⟨t',h1,h2⟩:=Tr.Dx n _ _ _ _ h'
        have hk:=Nat.ne_of_beq_eq_false hb
        refine⟨_,h1,fun j=>?_⟩
        cases j with
        | zero=>rw [if_neg (by omega),←hg];rfl
        | succ j=>
          rw [←hg,Tr.lS,Tr.lS,h2]
          by_cases hj:j%2=0
          ·rw [if_pos hj,if_pos hj,if_neg (by omega)]
          ·rw [if_neg hj,if_neg hj]
           by_cases he:j=k
           ·subst he;rw [if_pos rfl,if_pos rfl]
           ·rw [if_neg (by omega),if_neg (by omega)]
   cases t with
   | lf=>
     refine main none .lf .lf (fun j=>?_) h
     cases j with
     | zero=>rfl
     | succ j=>rw [Tr.lS];simp [Tr.get_lf]
   | nd v l r=>exact main v l r (fun _=>rfl) h
theorem Tr.rP {t:Tr α} {k:Nat} {x:α} {K:Tr α→Bool} (h:Tr.set t k x K=true):∃t',K t'= true∧∀j,t'.get j=if j=k then some x else t.get j:=Tr.Dx _ t k x K h
end
structure FA where
 n:Nat
 d:List AV
 t:Tr AV
noncomputable def nthD (d:List AV):Nat→AV:=List.rec (fun _=>.u) (fun a _ ih k=>Nat.rec a (fun k _=>ih k) k) d
theorem JI:∀(d:List AV) (k:Nat) (a:AV),d[k]? =some a→nthD d k=a
 | [],k,a,h=>by simp at h
 | x :: d,0,a,h=>by simp at h;exact h
 | x :: d,k+1,a,h=>JI d k a (by simpa using h)
noncomputable def FA.get (a:FA)(i:Nat):AV:=Option.rec (nthD a.d (Nat.mod i a.d.length)) (fun v=>v) (a.t.get i)
def FA.Is (a:FA)(cs:List AV):Prop:=cs.length=a.n∧∀i,i<a.n→cs[i]? =some (a.get i)
def FA.of (l:List AV):FA:=⟨l.length,l,.lf⟩
theorem FA.Px (l:List AV):(FA.of l).Is l:=by
 refine⟨rfl,fun i hi=>?_⟩
 have hi':i<l.length:=hi
 show l[i]? =some (nthD l (i%l.length))
 rw [Nat.mod_eq_of_lt hi',JI l i l[i] (List.getElem?_eq_getElem hi')]
 exact List.getElem?_eq_getElem hi'
theorem JJ (z:List AV)(hz:0<z.length):∀(n i:Nat),i<n*z.length→(iG z n)[i]? =z[i%z.length]?
 | 0,i,h=>by simp at h
 | n+1,i,h=>by
   simp only [iG]
   by_cases hi:i<z.length
   ·rw [List.getElem?_append_left hi,Nat.mod_eq_of_lt hi]
   ·rw [List.getElem?_append_right (by omega),JJ z hz n (i - z.length) (by rw [Nat.succ_mul] at h;omega)]
    congr 1
    conv=>rhs;rw [show i=(i - z.length)+z.length by omega]
    rw [Nat.add_mod_right]
def FA.rep (z:List AV)(n:Nat):FA:=⟨n*z.length,z,.lf⟩
noncomputable def FA.rng (a:FA)(len:Nat):Nat→List AV:=Nat.rec (fun _=>[]) (fun _ ih off=>a.get off :: ih (Nat.succ off)) len
noncomputable def FA.put (a:FA)(i:Nat)(v:AV)(K:FA→Bool):Bool:=a.t.set i v fun t=>K ⟨a.n,a.d,t⟩
theorem FA.lT {a:FA} {cs:List AV} (h:a.Is cs) {i:Nat} {v:AV} {K:FA→Bool} (hi:i<a.n)(hk:a.put i v K=true):∃a',K a'= true∧a'.n=a.n∧a'.Is (cs.set i v):=by
 obtain⟨t',h1,h2⟩:=Tr.rP hk
 refine⟨_,h1,rfl,by rw [List.length_set];exact h.1,fun j hj=>?_⟩
 have hg:∀j,FA.get ⟨a.n,a.d,t'⟩ j=if j=i then v else a.get j:=by
  intro j
  simp only [FA.get,h2]
  by_cases hj:j=i
  ·rw [if_pos hj,if_pos hj]
  ·rw [if_neg hj,if_neg hj]
 rw [hg,List.getElem?_set]
 have:=h.1
 by_cases hji:i=j
 ·subst hji
  rw [if_pos rfl,if_pos rfl,if_pos (by omega)]
 ·rw [if_neg hji,if_neg (fun e=>hji e.symm)]
  exact h.2 j hj
noncomputable def FA.puts (ys:List AV):FA→Nat→(FA→Bool)→Bool:=List.rec (fun a _ K=>K a) (fun y _ ih a off K=>a.put off y fun a=>ih a (Nat.succ off) K) ys
noncomputable def FA.app (a:FA)(m:Nat)(ys:List AV)(K:FA→Bool):Bool:=fN (Nat.add m ys.length) fun n=>FA.puts ys ⟨n,a.d,a.t⟩ m K
theorem jY:∀(ys cs zs:List AV),zs.length=ys.length→setCells (cs ++ zs) cs.length ys=cs ++ ys
 | [],cs,zs,h=>by
   have:zs=[]:=List.eq_nil_of_length_eq_zero h
   subst this;rfl
 | y :: ys,cs,[],h=>by simp at h
 | y :: ys,cs,z :: zs,h=>by
   simp only [setCells]
   rw [List.set_append_right _ _ (Nat.le_refl _),Nat.sub_self,List.set_cons_zero]
   have:=jY ys (cs ++ [y]) zs (by simpa using h)
   simp only [List.append_assoc,List.singleton_append,List.length_append,List.length_singleton] at this
   exact this
inductive FK where
 | cells (e:Nat) (a:FA)
 | iter (s:List UInt8) (pos:Nat)
 | maps (es:List (AV×AV))
 | dead
structure FO where
 g:Nat
 ro:Bool
 k:FK
structure FS where
 n:Nat
 t:Tr FO
def FK.Is:FK→AK→Prop
 | .cells e a,.cells e' cs=>e=e'∧a.Is cs
 | .iter s p,.iter s' p'=>s=s'∧p=p'
 | .maps m,.maps m'=>m=m'
 | .dead,.dead=>True
 | .dead,.sD _ _=>True
 | _,_=>False
def FO.Is (f:FO)(a:AO):Prop:=f.g=a.g∧f.ro=a.ro∧f.k.Is a.k
def FS.Is (s:FS)(σ:St):Prop:=σ.length=s.n∧∀o f,s.t.get o=some f→∃a,σ[o]? =some a∧f.Is a
noncomputable def FS.new (s:FS)(f:FO)(K:FS→Bool):Bool:=s.t.set s.n f fun t=>fN (Nat.succ s.n) fun n=>K ⟨n,t⟩
theorem FS.rQ {s:FS} {σ:St} (h:s.Is σ) {f:FO} {a:AO} (hf:f.Is a) {K:FS→Bool} (hk:s.new f K=true):∃s',K s'= true∧s'.Is (σ ++ [a]):=by
 obtain⟨t',h1,h2⟩:=Tr.rP hk
 rw [jM] at h1
 have hl:=h.1
 refine⟨_,h1,by simp [hl],fun o f' ho=>?_⟩
 have ho':t'.get o=some f':=ho
 rw [h2] at ho'
 by_cases he:o=s.n
 ·rw [if_pos he] at ho';cases ho'
  subst he
  exact⟨a,by rw [←hl];simp,hf⟩
 ·rw [if_neg he] at ho'
  obtain⟨a',q1,q2⟩:=h.2 o f' ho'
  have:=(List.getElem?_eq_some_iff.1 q1).1
  exact⟨a',by rw [List.getElem?_append_left this];exact q1,q2⟩
noncomputable def FS.put (s:FS)(o:Nat)(f:FO)(K:FS→Bool):Bool:=s.t.set o f fun t=>K ⟨s.n,t⟩
theorem FS.lT {s:FS} {σ:St} (h:s.Is σ) {o:Nat} (ho:o<σ.length) {f:FO} {a:AO} (hf:f.Is a) {K:FS→Bool} (hk:s.put o f K=true):∃s',K s'= true∧s'.Is (σ.set o a):=by
 obtain⟨t',h1,h2⟩:=Tr.rP hk
 have hl:=h.1
 refine⟨_,h1,by simp [hl],fun j f' hj=>?_⟩
 have hj':t'.get j=some f':=hj
 rw [h2] at hj'
 rw [List.getElem?_set]
 by_cases he:j=o
 ·rw [if_pos he] at hj';cases hj'
  subst he
  exact⟨a,by rw [if_pos rfl,if_pos ho],hf⟩
 ·rw [if_neg he] at hj'
  rw [if_neg (fun e=>he e.symm)]
  exact h.2 j f' hj'
theorem FS.cells_at {s:FS} {σ:St} (h:s.Is σ) {o g e:Nat} {ro:Bool} {a:FA} (ho:s.t.get o=some ⟨g,ro,.cells e a⟩):∃cs,σ[o]? =some ⟨g,ro,.cells e cs⟩∧a.Is cs:=by
 obtain⟨⟨g',ro',k'⟩,h1,h2,h3,h4⟩:=h.2 _ _ ho
 simp only at h2 h3 h4
 subst h2;subst h3
 cases k' with
 | cells e' cs=>obtain⟨rfl,h5⟩:=h4;exact⟨cs,h1,h5⟩
 | iter _ _=>exact h4.elim
 | maps _=>exact h4.elim
 | dead=>exact h4.elim
 | sD _ _=>exact h4.elim
noncomputable def FK.of:AK→FK
 | .cells e cs=>.cells e (.of cs)
 | .iter s p=>.iter s p
 | .maps m=>.maps m
 | .dead=>.dead
 | .sD _ _=>.dead
theorem FK.Px (k:AK):(FK.of k).Is k:=by
 cases k with
 | cells e cs=>exact⟨rfl,FA.Px cs⟩
 | iter _ _=>exact⟨rfl,rfl⟩
 | maps _=>exact rfl
 | dead=>trivial
 | sD _ _=>trivial
noncomputable def FS.lay (σ:St):FS→(FS→Bool)→Bool:=List.rec (fun s K=>K s) (fun a _ ih s K=>s.new ⟨a.g,a.ro,FK.of a.k⟩ fun s=>ih s K) σ
theorem FS.zG:∀(σ:St) {s:FS} {jh:St} (_:s.Is jh) {K:FS→Bool} (_:FS.lay σ s K=true),∃s',K s'= true∧s'.Is (jh ++ σ)
 | [],s,jh,h,K,hk=>⟨s,hk,by simpa using h⟩
 | a :: σ,s,jh,h,K,hk=>by
   have hk':s.new ⟨a.g,a.ro,FK.of a.k⟩ (fun s=>FS.lay σ s K)=true:=hk
   obtain⟨s1,h1,h2⟩:=FS.rQ h (a:=a) ⟨rfl,rfl,FK.Px a.k⟩ hk'
   obtain⟨s2,q1,q2⟩:=FS.zG σ h2 h1
   exact⟨s2,q1,by simpa using q2⟩
def FS.nil:FS:=⟨0,.lf⟩
theorem FS.Io:FS.nil.Is []:=⟨rfl,fun o f h=>by cases h⟩
end Go.cO
namespace Go.cO
inductive FV where
 | n (t x:Nat)
 | p (o g off:Nat)
 | sl (o g off n z:Nat)
 | s (n v:Nat)
 | c (t a:Nat) (l:List FV)
 deriving Inhabited
def tg:IntKind→Nat
 | .i8=>513 | .i16=>131073 | .i32=>8589934593 | .i64=>36893488147419103233
 | .u8=>512 | .u16=>131072 | .u32=>8589934592 | .u64=>36893488147419103232
def kOf (t:Nat):Option IntKind:=
 if t=36893488147419103233 then some .i64 else if t=512 then some .u8 else if t=8589934592 then some .u32 else if t=36893488147419103232 then some .u64 else
 if t=8589934593 then some .i32 else if t=131072 then some .u16 else if t=513 then some .i8 else if t=131073 then some .i16 else none
theorem kOf_tg (k:IntKind):kOf (tg k)=some k:=by cases k <;> rfl
theorem zH {t:Nat} {k:IntKind} (h:kOf t=some k):t=tg k:=by
 unfold kOf at h
 repeat' split at h
 all_goals first | (cases h;assumption) | cases h
noncomputable def fD (n:Nat):Nat→List UInt8:=Nat.rec (motive:=fun _=>Nat→List UInt8) (fun _=>[]) (fun _ ih v=>UInt8.ofNat (Nat.mod v (nat_lit 256)) :: ih (Nat.div v (nat_lit 256))) n
theorem vK (v:Nat):fD 0 v=[]:=rfl
theorem dX (n v:Nat):fD (n+1) v=UInt8.ofNat (v%256) :: fD n (v / 256):=rfl
theorem eY:∀n v,(fD n v).length=n
 | 0,_=>rfl
 | n+1,v=>by rw [dX,List.length_cons,eY n]
def kK (t x:Nat):AV:=match kOf t with
 | some k=>.i k (k.wrap x)
 | none=>if t=1 then .b (!Nat.beq x 0) else if t=2 then .p0 else if t=3 then .sl0 else if t=4 then .fn0 else if t=5 then .gK else if t=0 then .u else .qX
def hdA:List AV→AV
 | []=>.u
 | a :: _=>a
def BU (l:List AV)(i:Nat):List AV:=match l[i]? with
 | some (.ag x)=>x
 | _=>[]
def comp (t a:Nat)(l:List AV):AV:=
 if t=0 then .ag l else if t=1 then .tu l else if t=2 then .ic a (hdA l) else if t=3 then .fn (.func a) (BU l 0) (BU l 1) else if t=4 then .cd (!Nat.beq a 0) (hdA l) else if t=5 then .mp a 0 else .gK
noncomputable def FV.av:FV→AV:=FV.rec (motive_1:=fun _=>AV) (motive_2:=fun _=>List AV) kK .p .sl (fun n v=>.s (fD n v)) (fun t a _ ih=>comp t a ih) [] (fun _ _ a l=>a :: l)
noncomputable def FV.L6:List FV→List AV:=FV.rec_1 (motive_1:=fun _=>AV) (motive_2:=fun _=>List AV) kK .p .sl (fun n v=>.s (fD n v)) (fun t a _ ih=>comp t a ih) [] (fun _ _ a l=>a :: l)
theorem FV.AQ (t x:Nat):FV.av (.n t x)=kK t x:=rfl
theorem FV.wZ (o g off:Nat):FV.av (.p o g off)= .p o g off:=rfl
theorem FV.qV (o g off n z:Nat):FV.av (.sl o g off n z)= .sl o g off n z:=rfl
theorem FV.uy (n v:Nat):FV.av (.s n v)= .s (fD n v):=rfl
theorem FV.Dy (t a:Nat)(l:List FV):FV.av (.c t a l)=comp t a (FV.L6 l):=rfl
theorem FV.vM:∀l:List FV,FV.L6 l=l.map FV.av
 | []=>rfl
 | x :: l=>by show x.av :: FV.L6 l=_;rw [FV.vM l];rfl
theorem jG (k:IntKind)(x:Nat):kK (tg k) x= .i k (k.wrap x):=by unfold kK;rw [kOf_tg]
theorem Dz (x:Nat):kK 1 x= .b (!Nat.beq x 0):=rfl
theorem qc (a:Nat)(l:List FV):FV.av (.c 0 a l)= .ag (l.map FV.av):=by rw [FV.Dy,FV.vM];rfl
theorem wR (a:Nat)(l:List FV):FV.av (.c 1 a l)= .tu (l.map FV.av):=by rw [FV.Dy,FV.vM];rfl
theorem Fp (a:Nat)(v:FV):FV.av (.c 2 a [v])= .ic a v.av:=rfl
theorem Py (v:FV):FV.av (.c 4 1 [v])= .cd true v.av:=rfl
noncomputable def pk:List UInt8→Nat:=List.rec (motive:=fun _=>Nat) (nat_lit 0) (fun b _ ih=>Nat.add b.toNat (Nat.mul (nat_lit 256) ih))
theorem WL (b:UInt8)(l:List UInt8):pk (b :: l)=b.toNat+256*pk l:=rfl
theorem JK:∀l:List UInt8,fD l.length (pk l)=l
 | []=>rfl
 | b :: l=>by
   have hb:=b.toNat_lt
   rw [List.length_cons,dX,WL]
   have h1:(b.toNat+256*pk l)%256=b.toNat:=by omega
   have h2:(b.toNat+256*pk l) / 256=pk l:=by omega
   rw [h1,h2,JK l]
   simp
theorem wrap_eq (k:IntKind)(n:Int):k.wrap (((n%2^k.bits).toNat:Nat):Int)=k.wrap n:=by
 have h:(0:Int)≤n%2^k.bits:=Int.emod_nonneg _ (by cases k <;> decide)
 unfold IntKind.wrap
 rw [Int.toNat_of_nonneg h,Int.emod_emod_of_dvd _ (Int.dvd_refl _)]
end Go.cO
namespace Go.cO
theorem jk (k:IntKind) {a b:Int} (h:a%2^k.bits=b%2^k.bits):k.wrap a=k.wrap b:=by
 unfold IntKind.wrap;rw [h]
theorem iw (k:IntKind)(a:Int):k.wrap a%2^k.bits=a%2^k.bits:=by
 unfold IntKind.wrap
 simp only
 split
 ·rw [Int.sub_emod,Int.emod_self,Int.sub_zero,Int.emod_emod_of_dvd _ (Int.dvd_refl _),Int.emod_emod_of_dvd _ (Int.dvd_refl _)]
 ·rw [Int.emod_emod_of_dvd _ (Int.dvd_refl _)]
theorem Pz (k:IntKind)(a:Int):k.wrap (a%2^k.bits)=k.wrap a:=jk k (Int.emod_emod_of_dvd _ (Int.dvd_refl _))
theorem wrap_add (k:IntKind)(a b:Int):k.wrap (k.wrap a+k.wrap b)=k.wrap (a+b):=jk k (by rw [Int.add_emod,iw,iw,←Int.add_emod])
theorem PD (k:IntKind)(a b:Int):k.wrap (k.wrap a - k.wrap b)=k.wrap (a - b):=jk k (by rw [Int.sub_emod,iw,iw,←Int.sub_emod])
theorem wrap_mul (k:IntKind)(a b:Int):k.wrap (k.wrap a*k.wrap b)=k.wrap (a*b):=jk k (by rw [Int.mul_emod,iw,iw,←Int.mul_emod])
theorem tg_div (k:IntKind):tg k / 2=2^k.bits:=by cases k <;> rfl
theorem tg_mod (k:IntKind):tg k%2=if k.signed then 1 else 0:=by cases k <;> rfl
theorem JL (k:IntKind):tg k / 4=2^(k.bits - 1):=by cases k <;> rfl
theorem lU (k:IntKind):((2^k.bits:Nat):Int)=2^k.bits:=by cases k <;> rfl
theorem kC (k:IntKind)(a:Nat):k.wrap ((a%(2^k.bits):Nat):Int)=k.wrap a:=by
 rw [Int.natCast_emod,lU,Pz]
theorem wrap_small (k:IntKind) {a:Nat} (h:a<(if k.signed then 2^(k.bits - 1) else 2^k.bits)):k.wrap a=a:=by
 cases k <;> simp only [IntKind.wrap,IntKind.signed,IntKind.bits,if_true,if_false,Bool.false_eq_true,Bool.true_and,Bool.false_and] at h ⊢ <;> (try split) <;> first | omega | (simp at *;omega)
noncomputable def ky (t a:Nat):Nat:=Nat.mod (Nat.add a (Nat.mul (Nat.mod t (nat_lit 2)) (Nat.div t (nat_lit 4)))) (Nat.div t (nat_lit 2))
theorem ky_eq (t a:Nat):ky t a=(a+(t%2)*(t / 4))%(t / 2):=rfl
theorem xQ (k:IntKind)(a:Nat):k.wrap a=(ky (tg k) a:Int) - (if k.signed then 2^(k.bits - 1) else 0):=by
 rw [ky_eq,tg_div,tg_mod,JL]
 cases k <;> simp only [IntKind.wrap,IntKind.signed,IntKind.bits,if_true,if_false,Bool.false_eq_true,Bool.true_and,Bool.false_and] <;> (try split) <;> first | omega | (simp at *;omega)
theorem JM (k:IntKind)(a b:Nat):k.wrap a<k.wrap b↔ky (tg k) a<ky (tg k) b:=by rw [xQ,xQ];omega
theorem JO (k:IntKind)(a b:Nat):k.wrap a≤k.wrap b↔ky (tg k) a≤ky (tg k) b:=by rw [xQ,xQ];omega
theorem Fq (k:IntKind)(a b:Nat):k.wrap a=k.wrap b↔a%2^k.bits=b%2^k.bits:=by
 constructor
 ·intro h
  have h1:=iw k a
  have h2:=iw k b
  rw [h] at h1
  have h3:((a%2^k.bits:Nat):Int)=((b%2^k.bits:Nat):Int):=by rw [Int.natCast_emod,Int.natCast_emod,lU,←h1,←h2]
  exact Int.ofNat.inj h3
 ·intro h
  rw [←kC k a,←kC k b,h]
theorem uz:∀n v,fD n (v%256^n)=fD n v
 | 0,_=>rfl
 | n+1,v=>by
   rw [dX,dX]
   have h1:v%256^(n+1)%256=v%256:=by
    rw [Nat.pow_succ,Nat.mul_comm];exact Nat.mod_mul_right_mod _ _ _
   have h2:v%256^(n+1) / 256=(v / 256)%256^n:=by
    rw [Nat.pow_succ,Nat.mul_comm,Nat.mod_mul_right_div_self]
   rw [h1,h2,uz n]
theorem Fv:∀n m v w,fD (n+m) (v%256^n+256^n*w)=fD n v ++ fD m w
 | 0,m,v,w=>by simp [vK,Nat.mod_one]
 | n+1,m,v,w=>by
   have e:n+1+m=(n+m)+1:=by omega
   rw [e,dX,dX,List.cons_append,←Fv n m (v / 256) w]
   have hp:256^(n+1)=256*256^n:=by rw [Nat.pow_succ,Nat.mul_comm]
   have h0:v%256^(n+1)=v%256+256*(v / 256%256^n):=by
    rw [hp];exact Nat.mod_mul
   have h1:(v%256^(n+1)+256^(n+1)*w)%256=v%256:=by
    rw [h0,hp,Nat.mul_assoc];omega
   have h2:(v%256^(n+1)+256^(n+1)*w) / 256=v / 256%256^n+256^n*w:=by
    rw [h0,hp,Nat.mul_assoc];omega
   rw [h1,h2]
theorem BX:∀a n v,(fD n v).drop a=fD (n - a) (v / 256^a)
 | 0,n,v=>by simp
 | a+1,0,v=>by simp [vK]
 | a+1,n+1,v=>by
   rw [dX,List.drop_succ_cons,BX a n,Nat.div_div_eq_div_mul,Nat.pow_succ,Nat.mul_comm 256]
   congr 1;omega
theorem vN:∀a n v,a≤n→(fD n v).take a=fD a v
 | 0,n,v,_=>by simp [vK]
 | a+1,n+1,v,h=>by
   rw [dX,dX,List.take_succ_cons,vN a n _ (by omega)]
theorem Ip (n v a b:Nat)(h:b≤n):((fD n v).drop a).take (b - a)=fD (b - a) (v / 256^a):=by
 rw [BX,vN _ _ _ (by omega)]
theorem zI:∀i n v,i<n→(fD n v)[i]? =some (UInt8.ofNat (v / 256^i%256))
 | 0,n+1,v,_=>by rw [dX];simp
 | i+1,n+1,v,h=>by
   rw [dX,List.getElem?_cons_succ,zI i n _ (by omega),Nat.div_div_eq_div_mul,Nat.pow_succ,Nat.mul_comm 256]
theorem Fz:∀n v w,fD n v=fD n w→v%256^n=w%256^n
 | 0,v,w,_=>by simp [Nat.mod_one]
 | n+1,v,w,h=>by
   rw [dX,dX,List.cons.injEq] at h
   have h1:=congrArg UInt8.toNat h.1
   rw [UInt8.toNat_ofNat',UInt8.toNat_ofNat'] at h1
   have h2:=Fz n _ _ h.2
   have hp:256^(n+1)=256*256^n:=by rw [Nat.pow_succ,Nat.mul_comm]
   rw [hp,Nat.mod_mul,Nat.mod_mul,h2]
   omega
theorem FB (n v m w:Nat):fD n v=fD m w↔n=m∧v%256^n=w%256^m:=by
 constructor
 ·intro h
  have hl:=congrArg List.length h
  rw [eY,eY] at hl
  subst hl
  exact⟨rfl,Fz _ _ _ h⟩
 ·rintro ⟨rfl,h⟩
  rw [←uz n v,←uz n w,h]
theorem Iq (v i:Nat):Nat.shiftRight v (Nat.mul 8 i)=v / 256^i:=by
 show v >>> (8*i)=_
 rw [Nat.shiftRight_eq_div_pow,Nat.pow_mul]
theorem PE (v i:Nat):Nat.shiftLeft v (Nat.mul 8 i)=256^i*v:=by
 show v <<< (8*i)=_
 rw [Nat.shiftLeft_eq,Nat.pow_mul,Nat.mul_comm]
noncomputable def Ir (n v:Nat):Nat:=Nat.mod v (Nat.shiftLeft (nat_lit 1) (Nat.mul (nat_lit 8) n))
theorem xR (n v:Nat):Ir n v=v%256^n:=by
 show v%Nat.shiftLeft 1 (Nat.mul 8 n)=_
 rw [PE,Nat.mul_one]
end Go.cO
namespace Go.cO
abbrev KF:=FV→Bool
noncomputable abbrev bC {α:Type} (b:Bool) (x y:α):α:=Bool.rec (motive:=fun _=>α) y x b
theorem jr {α:Type} (x y:α):bC true x y=x:=rfl
theorem iU {α:Type} (x y:α):bC false x y=y:=rfl
theorem aF {b x:Bool} (h:bC b x false=true):b=true∧x=true:=by cases b;cases h;exact⟨rfl,h⟩
theorem JQ {α:Type} {b:Bool} {x:Option α} {v:α} (h:bC b x none=some v):b=true∧x=some v:=by cases b;cases h;exact⟨rfl,h⟩
noncomputable def uT (x:Nat):Nat→KF→Bool:=Nat.rec (motive:=fun _=>Nat→KF→Bool) (fun t K=>K (.n t (nat_lit 0))) (fun m _ t K=>K (.n t (Nat.succ m))) x
theorem jH (x t:Nat)(K:KF):uT x t K=K (.n t x):=by cases x <;> rfl
noncomputable def kB:Bool→KF→Bool:=Bool.rec (motive:=fun _=>KF→Bool) (fun K=>K (.n (nat_lit 1) (nat_lit 0))) (fun K=>K (.n (nat_lit 1) (nat_lit 1)))
noncomputable def kN:Bool→KF→Bool:=Bool.rec (motive:=fun _=>KF→Bool) (fun K=>K (.n (nat_lit 1) (nat_lit 1))) (fun K=>K (.n (nat_lit 1) (nat_lit 0)))
theorem zJ {b:Bool} {K:KF} (h:kB b K=true):∃v:FV,v.av= .b b∧K v=true:=by cases b <;> exact⟨_,rfl,h⟩
theorem PG {b:Bool} {K:KF} (h:kN b K=true):∃v:FV,v.av= .b (!b)∧K v=true:=by cases b <;> exact⟨_,rfl,h⟩
noncomputable def bI (B:Nat→Nat→Nat→Nat→KF→Bool)(x:FV)(t M:Nat)(y:FV)(K:KF):Bool:=match x,y with
 | .n t1 a,.n t2 b=>bC (Nat.beq t1 t) (bC (Nat.beq t2 t) (B a b t M K) false) false
 | _,_=>false
theorem oZ {B:Nat→Nat→Nat→Nat→KF→Bool} {x y:FV} {t M:Nat} {K:KF} (h:bI B x t M y K=true):∃a b,x= .n t a∧y= .n t b∧B a b t M K=true:=by
 unfold bI at h
 split at h
 ·obtain⟨h1,h⟩:=aF h
  obtain⟨h2,h⟩:=aF h
  rw [Nat.eq_of_beq_eq_true h1,Nat.eq_of_beq_eq_true h2]
  exact⟨_,_,rfl,rfl,h⟩
 ·cases h
noncomputable def dAddN:FV→Nat→Nat→Nat→KF→Bool:=FV.rec (motive_1:=fun _=>Nat→Nat→Nat→KF→Bool) (motive_2:=fun _=>PUnit) (fun t1 b a t M K=>Bool.rec (motive:=fun _=>Nat→Nat→Nat→Nat→KF→Bool) (fun _ _ _ _ _=>false) (fun a b t M K=>uT (Nat.mod (Nat.add a b) M) t K) (Nat.beq t1 t) a b t M K) (fun _ _ _ _ _ _ _=>false) (fun _ _ _ _ _ _ _ _ _=>false) (fun _ _ _ _ _ _=>false) (fun _ _ _ _ _ _ _ _=>false) ⟨⟩ (fun _ _ _ _=>⟨⟩)
noncomputable def dh:FV→Nat→Nat→FV→KF→Bool:=FV.rec (motive_1:=fun _=>Nat→Nat→FV→KF→Bool) (motive_2:=fun _=>PUnit) (fun t1 a t M y K=>Bool.rec (motive:=fun _=>Nat→Nat→Nat→FV→KF→Bool) (fun _ _ _ _ _=>false) (fun a t M y K=>dAddN y a t M K) (Nat.beq t1 t) a t M y K) (fun _ _ _ _ _ _ _=>false) (fun _ _ _ _ _ _ _ _ _=>false) (fun _ _ _ _ _ _=>false) (fun _ _ _ _ _ _ _ _=>false) ⟨⟩ (fun _ _ _ _=>⟨⟩)
theorem WM {x y:FV} {t M:Nat} {K:KF} (h:dh x t M y K=true):∃a b,x= .n t a∧y= .n t b∧uT (Nat.mod (Nat.add a b) M) t K=true:=oZ (x:=x) (y:=y) (t:=t) (M:=M) (K:=K) (B:=fun a b t M K=>uT (Nat.mod (Nat.add a b) M) t K) (by rw [←h];cases x with | n t1 a=>(cases y with | n t2 b=>(show bC (Nat.beq t1 t) (bC (Nat.beq t2 t) _ false) false=Bool.rec (motive:=fun _=>Nat→Nat→Nat→FV→KF→Bool) _ _ (Nat.beq t1 t) a t M _ K;cases Nat.beq t1 t <;> first | rfl | (show bC (Nat.beq t2 t) _ false=Bool.rec (motive:=fun _=>Nat→Nat→Nat→Nat→KF→Bool) _ _ (Nat.beq t2 t) a b t M K;cases Nat.beq t2 t <;> rfl)) | _=>(show false=Bool.rec (motive:=fun _=>Nat→Nat→Nat→FV→KF→Bool) _ _ (Nat.beq t1 t) a t M _ K;cases Nat.beq t1 t <;> rfl)) | _=>rfl)
noncomputable def dSubN:FV→Nat→Nat→Nat→KF→Bool:=FV.rec (motive_1:=fun _=>Nat→Nat→Nat→KF→Bool) (motive_2:=fun _=>PUnit) (fun t1 b a t M K=>Bool.rec (motive:=fun _=>Nat→Nat→Nat→Nat→KF→Bool) (fun _ _ _ _ _=>false) (fun a b t M K=>uT (Nat.mod (Nat.sub (Nat.add a M) (Nat.mod b M)) M) t K) (Nat.beq t1 t) a b t M K) (fun _ _ _ _ _ _ _=>false) (fun _ _ _ _ _ _ _ _ _=>false) (fun _ _ _ _ _ _=>false) (fun _ _ _ _ _ _ _ _=>false) ⟨⟩ (fun _ _ _ _=>⟨⟩)
noncomputable def jv:FV→Nat→Nat→FV→KF→Bool:=FV.rec (motive_1:=fun _=>Nat→Nat→FV→KF→Bool) (motive_2:=fun _=>PUnit) (fun t1 a t M y K=>Bool.rec (motive:=fun _=>Nat→Nat→Nat→FV→KF→Bool) (fun _ _ _ _ _=>false) (fun a t M y K=>dSubN y a t M K) (Nat.beq t1 t) a t M y K) (fun _ _ _ _ _ _ _=>false) (fun _ _ _ _ _ _ _ _ _=>false) (fun _ _ _ _ _ _=>false) (fun _ _ _ _ _ _ _ _=>false) ⟨⟩ (fun _ _ _ _=>⟨⟩)
theorem WO {x y:FV} {t M:Nat} {K:KF} (h:jv x t M y K=true):∃a b,x= .n t a∧y= .n t b∧uT (Nat.mod (Nat.sub (Nat.add a M) (Nat.mod b M)) M) t K=true:=oZ (x:=x) (y:=y) (t:=t) (M:=M) (K:=K) (B:=fun a b t M K=>uT (Nat.mod (Nat.sub (Nat.add a M) (Nat.mod b M)) M) t K) (by rw [←h];cases x with | n t1 a=>(cases y with | n t2 b=>(show bC (Nat.beq t1 t) (bC (Nat.beq t2 t) _ false) false=Bool.rec (motive:=fun _=>Nat→Nat→Nat→FV→KF→Bool) _ _ (Nat.beq t1 t) a t M _ K;cases Nat.beq t1 t <;> first | rfl | (show bC (Nat.beq t2 t) _ false=Bool.rec (motive:=fun _=>Nat→Nat→Nat→Nat→KF→Bool) _ _ (Nat.beq t2 t) a b t M K;cases Nat.beq t2 t <;> rfl)) | _=>(show false=Bool.rec (motive:=fun _=>Nat→Nat→Nat→FV→KF→Bool) _ _ (Nat.beq t1 t) a t M _ K;cases Nat.beq t1 t <;> rfl)) | _=>rfl)
noncomputable def dMulN:FV→Nat→Nat→Nat→KF→Bool:=FV.rec (motive_1:=fun _=>Nat→Nat→Nat→KF→Bool) (motive_2:=fun _=>PUnit) (fun t1 b a t M K=>Bool.rec (motive:=fun _=>Nat→Nat→Nat→Nat→KF→Bool) (fun _ _ _ _ _=>false) (fun a b t M K=>uT (Nat.mod (Nat.mul a b) M) t K) (Nat.beq t1 t) a b t M K) (fun _ _ _ _ _ _ _=>false) (fun _ _ _ _ _ _ _ _ _=>false) (fun _ _ _ _ _ _=>false) (fun _ _ _ _ _ _ _ _=>false) ⟨⟩ (fun _ _ _ _=>⟨⟩)
noncomputable def uD:FV→Nat→Nat→FV→KF→Bool:=FV.rec (motive_1:=fun _=>Nat→Nat→FV→KF→Bool) (motive_2:=fun _=>PUnit) (fun t1 a t M y K=>Bool.rec (motive:=fun _=>Nat→Nat→Nat→FV→KF→Bool) (fun _ _ _ _ _=>false) (fun a t M y K=>dMulN y a t M K) (Nat.beq t1 t) a t M y K) (fun _ _ _ _ _ _ _=>false) (fun _ _ _ _ _ _ _ _ _=>false) (fun _ _ _ _ _ _=>false) (fun _ _ _ _ _ _ _ _=>false) ⟨⟩ (fun _ _ _ _=>⟨⟩)
theorem WQ {x y:FV} {t M:Nat} {K:KF} (h:uD x t M y K=true):∃a b,x= .n t a∧y= .n t b∧uT (Nat.mod (Nat.mul a b) M) t K=true:=oZ (x:=x) (y:=y) (t:=t) (M:=M) (K:=K) (B:=fun a b t M K=>uT (Nat.mod (Nat.mul a b) M) t K) (by rw [←h];cases x with | n t1 a=>(cases y with | n t2 b=>(show bC (Nat.beq t1 t) (bC (Nat.beq t2 t) _ false) false=Bool.rec (motive:=fun _=>Nat→Nat→Nat→FV→KF→Bool) _ _ (Nat.beq t1 t) a t M _ K;cases Nat.beq t1 t <;> first | rfl | (show bC (Nat.beq t2 t) _ false=Bool.rec (motive:=fun _=>Nat→Nat→Nat→Nat→KF→Bool) _ _ (Nat.beq t2 t) a b t M K;cases Nat.beq t2 t <;> rfl)) | _=>(show false=Bool.rec (motive:=fun _=>Nat→Nat→Nat→FV→KF→Bool) _ _ (Nat.beq t1 t) a t M _ K;cases Nat.beq t1 t <;> rfl)) | _=>rfl)
noncomputable def dAndN:FV→Nat→Nat→Nat→KF→Bool:=FV.rec (motive_1:=fun _=>Nat→Nat→Nat→KF→Bool) (motive_2:=fun _=>PUnit) (fun t1 b a t M K=>Bool.rec (motive:=fun _=>Nat→Nat→Nat→Nat→KF→Bool) (fun _ _ _ _ _=>false) (fun a b t M K=>uT (Nat.land (Nat.mod a M) (Nat.mod b M)) t K) (Nat.beq t1 t) a b t M K) (fun _ _ _ _ _ _ _=>false) (fun _ _ _ _ _ _ _ _ _=>false) (fun _ _ _ _ _ _=>false) (fun _ _ _ _ _ _ _ _=>false) ⟨⟩ (fun _ _ _ _=>⟨⟩)
noncomputable def kL:FV→Nat→Nat→FV→KF→Bool:=FV.rec (motive_1:=fun _=>Nat→Nat→FV→KF→Bool) (motive_2:=fun _=>PUnit) (fun t1 a t M y K=>Bool.rec (motive:=fun _=>Nat→Nat→Nat→FV→KF→Bool) (fun _ _ _ _ _=>false) (fun a t M y K=>dAndN y a t M K) (Nat.beq t1 t) a t M y K) (fun _ _ _ _ _ _ _=>false) (fun _ _ _ _ _ _ _ _ _=>false) (fun _ _ _ _ _ _=>false) (fun _ _ _ _ _ _ _ _=>false) ⟨⟩ (fun _ _ _ _=>⟨⟩)
theorem WR {x y:FV} {t M:Nat} {K:KF} (h:kL x t M y K=true):∃a b,x= .n t a∧y= .n t b∧uT (Nat.land (Nat.mod a M) (Nat.mod b M)) t K=true:=oZ (x:=x) (y:=y) (t:=t) (M:=M) (K:=K) (B:=fun a b t M K=>uT (Nat.land (Nat.mod a M) (Nat.mod b M)) t K) (by rw [←h];cases x with | n t1 a=>(cases y with | n t2 b=>(show bC (Nat.beq t1 t) (bC (Nat.beq t2 t) _ false) false=Bool.rec (motive:=fun _=>Nat→Nat→Nat→FV→KF→Bool) _ _ (Nat.beq t1 t) a t M _ K;cases Nat.beq t1 t <;> first | rfl | (show bC (Nat.beq t2 t) _ false=Bool.rec (motive:=fun _=>Nat→Nat→Nat→Nat→KF→Bool) _ _ (Nat.beq t2 t) a b t M K;cases Nat.beq t2 t <;> rfl)) | _=>(show false=Bool.rec (motive:=fun _=>Nat→Nat→Nat→FV→KF→Bool) _ _ (Nat.beq t1 t) a t M _ K;cases Nat.beq t1 t <;> rfl)) | _=>rfl)
noncomputable def dOrN:FV→Nat→Nat→Nat→KF→Bool:=FV.rec (motive_1:=fun _=>Nat→Nat→Nat→KF→Bool) (motive_2:=fun _=>PUnit) (fun t1 b a t M K=>Bool.rec (motive:=fun _=>Nat→Nat→Nat→Nat→KF→Bool) (fun _ _ _ _ _=>false) (fun a b t M K=>uT (Nat.lor (Nat.mod a M) (Nat.mod b M)) t K) (Nat.beq t1 t) a b t M K) (fun _ _ _ _ _ _ _=>false) (fun _ _ _ _ _ _ _ _ _=>false) (fun _ _ _ _ _ _=>false) (fun _ _ _ _ _ _ _ _=>false) ⟨⟩ (fun _ _ _ _=>⟨⟩)
noncomputable def dOr:FV→Nat→Nat→FV→KF→Bool:=FV.rec (motive_1:=fun _=>Nat→Nat→FV→KF→Bool) (motive_2:=fun _=>PUnit) (fun t1 a t M y K=>Bool.rec (motive:=fun _=>Nat→Nat→Nat→FV→KF→Bool) (fun _ _ _ _ _=>false) (fun a t M y K=>dOrN y a t M K) (Nat.beq t1 t) a t M y K) (fun _ _ _ _ _ _ _=>false) (fun _ _ _ _ _ _ _ _ _=>false) (fun _ _ _ _ _ _=>false) (fun _ _ _ _ _ _ _ _=>false) ⟨⟩ (fun _ _ _ _=>⟨⟩)
theorem dOr_ok {x y:FV} {t M:Nat} {K:KF} (h:dOr x t M y K=true):∃a b,x= .n t a∧y= .n t b∧uT (Nat.lor (Nat.mod a M) (Nat.mod b M)) t K=true:=oZ (x:=x) (y:=y) (t:=t) (M:=M) (K:=K) (B:=fun a b t M K=>uT (Nat.lor (Nat.mod a M) (Nat.mod b M)) t K) (by rw [←h];cases x with | n t1 a=>(cases y with | n t2 b=>(show bC (Nat.beq t1 t) (bC (Nat.beq t2 t) _ false) false=Bool.rec (motive:=fun _=>Nat→Nat→Nat→FV→KF→Bool) _ _ (Nat.beq t1 t) a t M _ K;cases Nat.beq t1 t <;> first | rfl | (show bC (Nat.beq t2 t) _ false=Bool.rec (motive:=fun _=>Nat→Nat→Nat→Nat→KF→Bool) _ _ (Nat.beq t2 t) a b t M K;cases Nat.beq t2 t <;> rfl)) | _=>(show false=Bool.rec (motive:=fun _=>Nat→Nat→Nat→FV→KF→Bool) _ _ (Nat.beq t1 t) a t M _ K;cases Nat.beq t1 t <;> rfl)) | _=>rfl)
noncomputable def dXorN:FV→Nat→Nat→Nat→KF→Bool:=FV.rec (motive_1:=fun _=>Nat→Nat→Nat→KF→Bool) (motive_2:=fun _=>PUnit) (fun t1 b a t M K=>Bool.rec (motive:=fun _=>Nat→Nat→Nat→Nat→KF→Bool) (fun _ _ _ _ _=>false) (fun a b t M K=>uT (Nat.xor (Nat.mod a M) (Nat.mod b M)) t K) (Nat.beq t1 t) a b t M K) (fun _ _ _ _ _ _ _=>false) (fun _ _ _ _ _ _ _ _ _=>false) (fun _ _ _ _ _ _=>false) (fun _ _ _ _ _ _ _ _=>false) ⟨⟩ (fun _ _ _ _=>⟨⟩)
noncomputable def dXor:FV→Nat→Nat→FV→KF→Bool:=FV.rec (motive_1:=fun _=>Nat→Nat→FV→KF→Bool) (motive_2:=fun _=>PUnit) (fun t1 a t M y K=>Bool.rec (motive:=fun _=>Nat→Nat→Nat→FV→KF→Bool) (fun _ _ _ _ _=>false) (fun a t M y K=>dXorN y a t M K) (Nat.beq t1 t) a t M y K) (fun _ _ _ _ _ _ _=>false) (fun _ _ _ _ _ _ _ _ _=>false) (fun _ _ _ _ _ _=>false) (fun _ _ _ _ _ _ _ _=>false) ⟨⟩ (fun _ _ _ _=>⟨⟩)
theorem WS {x y:FV} {t M:Nat} {K:KF} (h:dXor x t M y K=true):∃a b,x= .n t a∧y= .n t b∧uT (Nat.xor (Nat.mod a M) (Nat.mod b M)) t K=true:=oZ (x:=x) (y:=y) (t:=t) (M:=M) (K:=K) (B:=fun a b t M K=>uT (Nat.xor (Nat.mod a M) (Nat.mod b M)) t K) (by rw [←h];cases x with | n t1 a=>(cases y with | n t2 b=>(show bC (Nat.beq t1 t) (bC (Nat.beq t2 t) _ false) false=Bool.rec (motive:=fun _=>Nat→Nat→Nat→FV→KF→Bool) _ _ (Nat.beq t1 t) a t M _ K;cases Nat.beq t1 t <;> first | rfl | (show bC (Nat.beq t2 t) _ false=Bool.rec (motive:=fun _=>Nat→Nat→Nat→Nat→KF→Bool) _ _ (Nat.beq t2 t) a b t M K;cases Nat.beq t2 t <;> rfl)) | _=>(show false=Bool.rec (motive:=fun _=>Nat→Nat→Nat→FV→KF→Bool) _ _ (Nat.beq t1 t) a t M _ K;cases Nat.beq t1 t <;> rfl)) | _=>rfl)
noncomputable def dLssN:FV→Nat→Nat→Nat→KF→Bool:=FV.rec (motive_1:=fun _=>Nat→Nat→Nat→KF→Bool) (motive_2:=fun _=>PUnit) (fun t1 b a t M K=>Bool.rec (motive:=fun _=>Nat→Nat→Nat→Nat→KF→Bool) (fun _ _ _ _ _=>false) (fun a b t M K=>kB (Nat.ble (Nat.succ (ky t a)) (ky t b)) K) (Nat.beq t1 t) a b t M K) (fun _ _ _ _ _ _ _=>false) (fun _ _ _ _ _ _ _ _ _=>false) (fun _ _ _ _ _ _=>false) (fun _ _ _ _ _ _ _ _=>false) ⟨⟩ (fun _ _ _ _=>⟨⟩)
noncomputable def fF:FV→Nat→Nat→FV→KF→Bool:=FV.rec (motive_1:=fun _=>Nat→Nat→FV→KF→Bool) (motive_2:=fun _=>PUnit) (fun t1 a t M y K=>Bool.rec (motive:=fun _=>Nat→Nat→Nat→FV→KF→Bool) (fun _ _ _ _ _=>false) (fun a t M y K=>dLssN y a t M K) (Nat.beq t1 t) a t M y K) (fun _ _ _ _ _ _ _=>false) (fun _ _ _ _ _ _ _ _ _=>false) (fun _ _ _ _ _ _=>false) (fun _ _ _ _ _ _ _ _=>false) ⟨⟩ (fun _ _ _ _=>⟨⟩)
theorem WT {x y:FV} {t M:Nat} {K:KF} (h:fF x t M y K=true):∃a b,x= .n t a∧y= .n t b∧kB (Nat.ble (Nat.succ (ky t a)) (ky t b)) K=true:=oZ (x:=x) (y:=y) (t:=t) (M:=M) (K:=K) (B:=fun a b t M K=>kB (Nat.ble (Nat.succ (ky t a)) (ky t b)) K) (by rw [←h];cases x with | n t1 a=>(cases y with | n t2 b=>(show bC (Nat.beq t1 t) (bC (Nat.beq t2 t) _ false) false=Bool.rec (motive:=fun _=>Nat→Nat→Nat→FV→KF→Bool) _ _ (Nat.beq t1 t) a t M _ K;cases Nat.beq t1 t <;> first | rfl | (show bC (Nat.beq t2 t) _ false=Bool.rec (motive:=fun _=>Nat→Nat→Nat→Nat→KF→Bool) _ _ (Nat.beq t2 t) a b t M K;cases Nat.beq t2 t <;> rfl)) | _=>(show false=Bool.rec (motive:=fun _=>Nat→Nat→Nat→FV→KF→Bool) _ _ (Nat.beq t1 t) a t M _ K;cases Nat.beq t1 t <;> rfl)) | _=>rfl)
noncomputable def dLeqN:FV→Nat→Nat→Nat→KF→Bool:=FV.rec (motive_1:=fun _=>Nat→Nat→Nat→KF→Bool) (motive_2:=fun _=>PUnit) (fun t1 b a t M K=>Bool.rec (motive:=fun _=>Nat→Nat→Nat→Nat→KF→Bool) (fun _ _ _ _ _=>false) (fun a b t M K=>kB (Nat.ble (ky t a) (ky t b)) K) (Nat.beq t1 t) a b t M K) (fun _ _ _ _ _ _ _=>false) (fun _ _ _ _ _ _ _ _ _=>false) (fun _ _ _ _ _ _=>false) (fun _ _ _ _ _ _ _ _=>false) ⟨⟩ (fun _ _ _ _=>⟨⟩)
noncomputable def rU:FV→Nat→Nat→FV→KF→Bool:=FV.rec (motive_1:=fun _=>Nat→Nat→FV→KF→Bool) (motive_2:=fun _=>PUnit) (fun t1 a t M y K=>Bool.rec (motive:=fun _=>Nat→Nat→Nat→FV→KF→Bool) (fun _ _ _ _ _=>false) (fun a t M y K=>dLeqN y a t M K) (Nat.beq t1 t) a t M y K) (fun _ _ _ _ _ _ _=>false) (fun _ _ _ _ _ _ _ _ _=>false) (fun _ _ _ _ _ _=>false) (fun _ _ _ _ _ _ _ _=>false) ⟨⟩ (fun _ _ _ _=>⟨⟩)
theorem WU {x y:FV} {t M:Nat} {K:KF} (h:rU x t M y K=true):∃a b,x= .n t a∧y= .n t b∧kB (Nat.ble (ky t a) (ky t b)) K=true:=oZ (x:=x) (y:=y) (t:=t) (M:=M) (K:=K) (B:=fun a b t M K=>kB (Nat.ble (ky t a) (ky t b)) K) (by rw [←h];cases x with | n t1 a=>(cases y with | n t2 b=>(show bC (Nat.beq t1 t) (bC (Nat.beq t2 t) _ false) false=Bool.rec (motive:=fun _=>Nat→Nat→Nat→FV→KF→Bool) _ _ (Nat.beq t1 t) a t M _ K;cases Nat.beq t1 t <;> first | rfl | (show bC (Nat.beq t2 t) _ false=Bool.rec (motive:=fun _=>Nat→Nat→Nat→Nat→KF→Bool) _ _ (Nat.beq t2 t) a b t M K;cases Nat.beq t2 t <;> rfl)) | _=>(show false=Bool.rec (motive:=fun _=>Nat→Nat→Nat→FV→KF→Bool) _ _ (Nat.beq t1 t) a t M _ K;cases Nat.beq t1 t <;> rfl)) | _=>rfl)
noncomputable def dGtrN:FV→Nat→Nat→Nat→KF→Bool:=FV.rec (motive_1:=fun _=>Nat→Nat→Nat→KF→Bool) (motive_2:=fun _=>PUnit) (fun t1 b a t M K=>Bool.rec (motive:=fun _=>Nat→Nat→Nat→Nat→KF→Bool) (fun _ _ _ _ _=>false) (fun a b t M K=>kB (Nat.ble (Nat.succ (ky t b)) (ky t a)) K) (Nat.beq t1 t) a b t M K) (fun _ _ _ _ _ _ _=>false) (fun _ _ _ _ _ _ _ _ _=>false) (fun _ _ _ _ _ _=>false) (fun _ _ _ _ _ _ _ _=>false) ⟨⟩ (fun _ _ _ _=>⟨⟩)
noncomputable def lV:FV→Nat→Nat→FV→KF→Bool:=FV.rec (motive_1:=fun _=>Nat→Nat→FV→KF→Bool) (motive_2:=fun _=>PUnit) (fun t1 a t M y K=>Bool.rec (motive:=fun _=>Nat→Nat→Nat→FV→KF→Bool) (fun _ _ _ _ _=>false) (fun a t M y K=>dGtrN y a t M K) (Nat.beq t1 t) a t M y K) (fun _ _ _ _ _ _ _=>false) (fun _ _ _ _ _ _ _ _ _=>false) (fun _ _ _ _ _ _=>false) (fun _ _ _ _ _ _ _ _=>false) ⟨⟩ (fun _ _ _ _=>⟨⟩)
theorem WV {x y:FV} {t M:Nat} {K:KF} (h:lV x t M y K=true):∃a b,x= .n t a∧y= .n t b∧kB (Nat.ble (Nat.succ (ky t b)) (ky t a)) K=true:=oZ (x:=x) (y:=y) (t:=t) (M:=M) (K:=K) (B:=fun a b t M K=>kB (Nat.ble (Nat.succ (ky t b)) (ky t a)) K) (by rw [←h];cases x with | n t1 a=>(cases y with | n t2 b=>(show bC (Nat.beq t1 t) (bC (Nat.beq t2 t) _ false) false=Bool.rec (motive:=fun _=>Nat→Nat→Nat→FV→KF→Bool) _ _ (Nat.beq t1 t) a t M _ K;cases Nat.beq t1 t <;> first | rfl | (show bC (Nat.beq t2 t) _ false=Bool.rec (motive:=fun _=>Nat→Nat→Nat→Nat→KF→Bool) _ _ (Nat.beq t2 t) a b t M K;cases Nat.beq t2 t <;> rfl)) | _=>(show false=Bool.rec (motive:=fun _=>Nat→Nat→Nat→FV→KF→Bool) _ _ (Nat.beq t1 t) a t M _ K;cases Nat.beq t1 t <;> rfl)) | _=>rfl)
noncomputable def dGeqN:FV→Nat→Nat→Nat→KF→Bool:=FV.rec (motive_1:=fun _=>Nat→Nat→Nat→KF→Bool) (motive_2:=fun _=>PUnit) (fun t1 b a t M K=>Bool.rec (motive:=fun _=>Nat→Nat→Nat→Nat→KF→Bool) (fun _ _ _ _ _=>false) (fun a b t M K=>kB (Nat.ble (ky t b) (ky t a)) K) (Nat.beq t1 t) a b t M K) (fun _ _ _ _ _ _ _=>false) (fun _ _ _ _ _ _ _ _ _=>false) (fun _ _ _ _ _ _=>false) (fun _ _ _ _ _ _ _ _=>false) ⟨⟩ (fun _ _ _ _=>⟨⟩)
noncomputable def lW:FV→Nat→Nat→FV→KF→Bool:=FV.rec (motive_1:=fun _=>Nat→Nat→FV→KF→Bool) (motive_2:=fun _=>PUnit) (fun t1 a t M y K=>Bool.rec (motive:=fun _=>Nat→Nat→Nat→FV→KF→Bool) (fun _ _ _ _ _=>false) (fun a t M y K=>dGeqN y a t M K) (Nat.beq t1 t) a t M y K) (fun _ _ _ _ _ _ _=>false) (fun _ _ _ _ _ _ _ _ _=>false) (fun _ _ _ _ _ _=>false) (fun _ _ _ _ _ _ _ _=>false) ⟨⟩ (fun _ _ _ _=>⟨⟩)
theorem WW {x y:FV} {t M:Nat} {K:KF} (h:lW x t M y K=true):∃a b,x= .n t a∧y= .n t b∧kB (Nat.ble (ky t b) (ky t a)) K=true:=oZ (x:=x) (y:=y) (t:=t) (M:=M) (K:=K) (B:=fun a b t M K=>kB (Nat.ble (ky t b) (ky t a)) K) (by rw [←h];cases x with | n t1 a=>(cases y with | n t2 b=>(show bC (Nat.beq t1 t) (bC (Nat.beq t2 t) _ false) false=Bool.rec (motive:=fun _=>Nat→Nat→Nat→FV→KF→Bool) _ _ (Nat.beq t1 t) a t M _ K;cases Nat.beq t1 t <;> first | rfl | (show bC (Nat.beq t2 t) _ false=Bool.rec (motive:=fun _=>Nat→Nat→Nat→Nat→KF→Bool) _ _ (Nat.beq t2 t) a b t M K;cases Nat.beq t2 t <;> rfl)) | _=>(show false=Bool.rec (motive:=fun _=>Nat→Nat→Nat→FV→KF→Bool) _ _ (Nat.beq t1 t) a t M _ K;cases Nat.beq t1 t <;> rfl)) | _=>rfl)
noncomputable def dEqIN:FV→Nat→Nat→Nat→KF→Bool:=FV.rec (motive_1:=fun _=>Nat→Nat→Nat→KF→Bool) (motive_2:=fun _=>PUnit) (fun t1 b a t M K=>Bool.rec (motive:=fun _=>Nat→Nat→Nat→Nat→KF→Bool) (fun _ _ _ _ _=>false) (fun a b t M K=>kB (Nat.beq (Nat.mod a M) (Nat.mod b M)) K) (Nat.beq t1 t) a b t M K) (fun _ _ _ _ _ _ _=>false) (fun _ _ _ _ _ _ _ _ _=>false) (fun _ _ _ _ _ _=>false) (fun _ _ _ _ _ _ _ _=>false) ⟨⟩ (fun _ _ _ _=>⟨⟩)
noncomputable def bT:FV→Nat→Nat→FV→KF→Bool:=FV.rec (motive_1:=fun _=>Nat→Nat→FV→KF→Bool) (motive_2:=fun _=>PUnit) (fun t1 a t M y K=>Bool.rec (motive:=fun _=>Nat→Nat→Nat→FV→KF→Bool) (fun _ _ _ _ _=>false) (fun a t M y K=>dEqIN y a t M K) (Nat.beq t1 t) a t M y K) (fun _ _ _ _ _ _ _=>false) (fun _ _ _ _ _ _ _ _ _=>false) (fun _ _ _ _ _ _=>false) (fun _ _ _ _ _ _ _ _=>false) ⟨⟩ (fun _ _ _ _=>⟨⟩)
theorem WX {x y:FV} {t M:Nat} {K:KF} (h:bT x t M y K=true):∃a b,x= .n t a∧y= .n t b∧kB (Nat.beq (Nat.mod a M) (Nat.mod b M)) K=true:=oZ (x:=x) (y:=y) (t:=t) (M:=M) (K:=K) (B:=fun a b t M K=>kB (Nat.beq (Nat.mod a M) (Nat.mod b M)) K) (by rw [←h];cases x with | n t1 a=>(cases y with | n t2 b=>(show bC (Nat.beq t1 t) (bC (Nat.beq t2 t) _ false) false=Bool.rec (motive:=fun _=>Nat→Nat→Nat→FV→KF→Bool) _ _ (Nat.beq t1 t) a t M _ K;cases Nat.beq t1 t <;> first | rfl | (show bC (Nat.beq t2 t) _ false=Bool.rec (motive:=fun _=>Nat→Nat→Nat→Nat→KF→Bool) _ _ (Nat.beq t2 t) a b t M K;cases Nat.beq t2 t <;> rfl)) | _=>(show false=Bool.rec (motive:=fun _=>Nat→Nat→Nat→FV→KF→Bool) _ _ (Nat.beq t1 t) a t M _ K;cases Nat.beq t1 t <;> rfl)) | _=>rfl)
noncomputable def dNeIN:FV→Nat→Nat→Nat→KF→Bool:=FV.rec (motive_1:=fun _=>Nat→Nat→Nat→KF→Bool) (motive_2:=fun _=>PUnit) (fun t1 b a t M K=>Bool.rec (motive:=fun _=>Nat→Nat→Nat→Nat→KF→Bool) (fun _ _ _ _ _=>false) (fun a b t M K=>kN (Nat.beq (Nat.mod a M) (Nat.mod b M)) K) (Nat.beq t1 t) a b t M K) (fun _ _ _ _ _ _ _=>false) (fun _ _ _ _ _ _ _ _ _=>false) (fun _ _ _ _ _ _=>false) (fun _ _ _ _ _ _ _ _=>false) ⟨⟩ (fun _ _ _ _=>⟨⟩)
noncomputable def jL:FV→Nat→Nat→FV→KF→Bool:=FV.rec (motive_1:=fun _=>Nat→Nat→FV→KF→Bool) (motive_2:=fun _=>PUnit) (fun t1 a t M y K=>Bool.rec (motive:=fun _=>Nat→Nat→Nat→FV→KF→Bool) (fun _ _ _ _ _=>false) (fun a t M y K=>dNeIN y a t M K) (Nat.beq t1 t) a t M y K) (fun _ _ _ _ _ _ _=>false) (fun _ _ _ _ _ _ _ _ _=>false) (fun _ _ _ _ _ _=>false) (fun _ _ _ _ _ _ _ _=>false) ⟨⟩ (fun _ _ _ _=>⟨⟩)
theorem WY {x y:FV} {t M:Nat} {K:KF} (h:jL x t M y K=true):∃a b,x= .n t a∧y= .n t b∧kN (Nat.beq (Nat.mod a M) (Nat.mod b M)) K=true:=oZ (x:=x) (y:=y) (t:=t) (M:=M) (K:=K) (B:=fun a b t M K=>kN (Nat.beq (Nat.mod a M) (Nat.mod b M)) K) (by rw [←h];cases x with | n t1 a=>(cases y with | n t2 b=>(show bC (Nat.beq t1 t) (bC (Nat.beq t2 t) _ false) false=Bool.rec (motive:=fun _=>Nat→Nat→Nat→FV→KF→Bool) _ _ (Nat.beq t1 t) a t M _ K;cases Nat.beq t1 t <;> first | rfl | (show bC (Nat.beq t2 t) _ false=Bool.rec (motive:=fun _=>Nat→Nat→Nat→Nat→KF→Bool) _ _ (Nat.beq t2 t) a b t M K;cases Nat.beq t2 t <;> rfl)) | _=>(show false=Bool.rec (motive:=fun _=>Nat→Nat→Nat→FV→KF→Bool) _ _ (Nat.beq t1 t) a t M _ K;cases Nat.beq t1 t <;> rfl)) | _=>rfl)
end Go.cO
namespace Go.cO
noncomputable def hdF:List FV→FV:=List.rec (motive:=fun _=>FV) (.n (nat_lit 0) (nat_lit 0)) (fun a _ _=>a)
theorem PI (l:List FV):(hdF l).av=hdA (FV.L6 l):=by cases l <;> rfl
noncomputable def ay:FV→FV:=FV.rec (motive_1:=fun _=>FV) (motive_2:=fun _=>PUnit) .n .p .sl .s (fun t a l _=>bC (Nat.beq t (nat_lit 4)) (hdF l) (.c t a l)) ⟨⟩ (fun _ _ _ _=>⟨⟩)
noncomputable def au:FV→Bool:=FV.rec (motive_1:=fun _=>Bool) (motive_2:=fun _=>PUnit) (fun _ _=>true) (fun _ _ _=>true) (fun _ _ _ _ _=>true) (fun _ _=>true) (fun t a _ _=>bC (Nat.beq t (nat_lit 4)) (bC (Nat.beq a (nat_lit 0)) false true) true) ⟨⟩ (fun _ _ _ _=>⟨⟩)
theorem lX (t x:Nat):(∃k,t=tg k∧kK t x= .i k (k.wrap x))∨(t=1∧kK t x= .b (!Nat.beq x 0))∨(t=2∧kK t x= .p0)∨(t=3∧kK t x= .sl0)∨(t=4∧kK t x= .fn0)∨(t=5∧kK t x= .gK)∨(t=0∧kK t x= .u)∨kK t x= .qX:=by
 unfold kK
 cases hk:kOf t with
 | some k=>exact .inl ⟨k,zH hk,rfl⟩
 | none=>
   simp only
   by_cases h1:t=1
   ·exact .inr (.inl ⟨h1,by rw [if_pos h1]⟩)
   by_cases h2:t=2
   ·exact .inr (.inr (.inl ⟨h2,by rw [if_neg h1,if_pos h2]⟩))
   by_cases h3:t=3
   ·exact .inr (.inr (.inr (.inl ⟨h3,by rw [if_neg h1,if_neg h2,if_pos h3]⟩)))
   by_cases h4:t=4
   ·exact .inr (.inr (.inr (.inr (.inl ⟨h4,by rw [if_neg h1,if_neg h2,if_neg h3,if_pos h4]⟩))))
   by_cases h5:t=5
   ·exact .inr (.inr (.inr (.inr (.inr (.inl ⟨h5,by rw [if_neg h1,if_neg h2,if_neg h3,if_neg h4,if_pos h5]⟩)))))
   by_cases h0:t=0
   ·exact .inr (.inr (.inr (.inr (.inr (.inr (.inl ⟨h0,by rw [if_neg h1,if_neg h2,if_neg h3,if_neg h4,if_neg h5,if_pos h0]⟩))))))
   ·exact .inr (.inr (.inr (.inr (.inr (.inr (.inr (by rw [if_neg h1,if_neg h2,if_neg h3,if_neg h4,if_neg h5,if_neg h0])))))))
theorem PK (t x:Nat)(h:Nat.ble 1 t=true):(kK t x).one=true:=by
 have h:=Nat.le_of_ble_eq_true h
 rcases lX t x with ⟨k,_,e⟩ | ⟨_,e⟩ | ⟨_,e⟩ | ⟨_,e⟩ | ⟨_,e⟩ | ⟨_,e⟩ | ⟨e,_⟩ | e <;> first | (rw [e];rfl) | omega
theorem PL (t x:Nat):(kK t x).val=kK t x:=by
 rcases lX t x with ⟨k,_,e⟩ | ⟨_,e⟩ | ⟨_,e⟩ | ⟨_,e⟩ | ⟨_,e⟩ | ⟨_,e⟩ | ⟨_,e⟩ | e <;> (rw [e];rfl)
theorem PN (t x:Nat):(kK t x).cnd=true:=by
 rcases lX t x with ⟨k,_,e⟩ | ⟨_,e⟩ | ⟨_,e⟩ | ⟨_,e⟩ | ⟨_,e⟩ | ⟨_,e⟩ | ⟨_,e⟩ | e <;> (rw [e];rfl)
theorem oO (t a:Nat)(l:List AV):(t=0∧comp t a l= .ag l)∨(t=1∧comp t a l= .tu l)∨(t=2∧comp t a l= .ic a (hdA l))∨(t=3∧comp t a l= .fn (.func a) (BU l 0) (BU l 1))∨(t=4∧comp t a l= .cd (!Nat.beq a 0) (hdA l))∨(t=5∧comp t a l= .mp a 0)∨(5<t∧comp t a l= .gK):=by
 unfold comp
 by_cases h0:t=0
 ·exact .inl ⟨h0,by rw [if_pos h0]⟩
 by_cases h1:t=1
 ·exact .inr (.inl ⟨h1,by rw [if_neg h0,if_pos h1]⟩)
 by_cases h2:t=2
 ·exact .inr (.inr (.inl ⟨h2,by rw [if_neg h0,if_neg h1,if_pos h2]⟩))
 by_cases h3:t=3
 ·exact .inr (.inr (.inr (.inl ⟨h3,by rw [if_neg h0,if_neg h1,if_neg h2,if_pos h3]⟩)))
 by_cases h4:t=4
 ·exact .inr (.inr (.inr (.inr (.inl ⟨h4,by rw [if_neg h0,if_neg h1,if_neg h2,if_neg h3,if_pos h4]⟩))))
 by_cases h5:t=5
 ·exact .inr (.inr (.inr (.inr (.inr (.inl ⟨h5,by rw [if_neg h0,if_neg h1,if_neg h2,if_neg h3,if_neg h4,if_pos h5]⟩)))))
 ·exact .inr (.inr (.inr (.inr (.inr (.inr ⟨by omega,by rw [if_neg h0,if_neg h1,if_neg h2,if_neg h3,if_neg h4,if_neg h5]⟩)))))
theorem qg {a b:Nat} (h:a≠b):Nat.beq a b=false:=by
 cases hb:Nat.beq a b with
 | false=>rfl
 | true=>exact(h (Nat.eq_of_beq_eq_true hb)).elim
theorem xU (x:FV):(ay x).av=x.av.val:=by
 cases x with
 | n t x=>show kK t x=(kK t x).val;rw [PL]
 | p _ _ _=>rfl
 | sl _ _ _ _ _=>rfl
 | s _ _=>rfl
 | c t a l=>
   show (bC (Nat.beq t 4) (hdF l) (.c t a l)).av=(comp t a (FV.L6 l)).val
   rcases oO t a (FV.L6 l) with ⟨e,q⟩ | ⟨e,q⟩ | ⟨e,q⟩ | ⟨e,q⟩ | ⟨e,q⟩ | ⟨e,q⟩ | ⟨e,q⟩
   all_goals
     rw [q]
     first
       | (rw [qg (by omega:t≠4),iU,FV.Dy,q];rfl)
       | (subst e;rw [show Nat.beq 4 4=true from rfl,jr,PI];rfl)
theorem xW (x:FV):au x=x.av.cnd:=by
 cases x with
 | n t x=>show true=(kK t x).cnd;rw [PN]
 | p _ _ _=>rfl
 | sl _ _ _ _ _=>rfl
 | s _ _=>rfl
 | c t a l=>
   show bC (Nat.beq t 4) (bC (Nat.beq a 0) false true) true=(comp t a (FV.L6 l)).cnd
   rcases oO t a (FV.L6 l) with ⟨e,q⟩ | ⟨e,q⟩ | ⟨e,q⟩ | ⟨e,q⟩ | ⟨e,q⟩ | ⟨e,q⟩ | ⟨e,q⟩
   all_goals
     rw [q]
     first
       | (rw [qg (by omega:t≠4),iU];rfl)
       | (subst e;rw [show Nat.beq 4 4=true from rfl,jr];show _=(!Nat.beq a 0);cases Nat.beq a 0 <;> rfl)
noncomputable def ifN:Nat→Bool→Bool→Bool:=Nat.rec (motive:=fun _=>Bool→Bool→Bool) (fun _ B=>B) (fun _ _ A _=>A)
noncomputable def bV:FV→Bool→Bool→Bool:=FV.rec (motive_1:=fun _=>Bool→Bool→Bool) (motive_2:=fun _=>PUnit) (fun t v A B=>bC (Nat.beq t (nat_lit 1)) (ifN v A B) false) (fun _ _ _ _ _=>false) (fun _ _ _ _ _ _ _=>false) (fun _ _ _ _=>false) (fun _ _ _ _ _ _=>false) ⟨⟩ (fun _ _ _ _=>⟨⟩)
theorem zK {v:Nat} {A B:Bool} (h:ifN v A B=true):(v≠0∧A=true)∨(v=0∧B=true):=by
 cases v with
 | zero=>exact .inr ⟨rfl,h⟩
 | succ v=>exact .inl ⟨by omega,h⟩
theorem dIf_ok {x:FV} {A B:Bool} (h:bV x A B=true):(x.av= .b true∧A=true)∨(x.av= .b false∧B=true):=by
 cases x with
 | n t v=>
   obtain⟨h1,h⟩:=aF h
   have h1:=Nat.eq_of_beq_eq_true h1
   subst h1
   rcases zK h with ⟨h1,h2⟩ | ⟨h1,h2⟩
   ·exact .inl ⟨by rw [FV.AQ,Dz,qg h1];rfl,h2⟩
   ·exact .inr ⟨by subst h1;rfl,h2⟩
 | _=>cases h
def qh (w:Bool):AV→Option Bool
 | .b x=>some (x == w)
 | .cd c (.b x)=>some (c && (x == w))
 | .cd false _=>some false
 | .tu []=>some false
 | _=>none
theorem jU (e:Env)(n:Nat)(w:Bool):dW e (some (n,w))=qh w (get e n):=by
 unfold dW qh
 rfl
noncomputable def PO (t v:Nat)(w A B:Bool):Bool:=bC (Nat.beq t (nat_lit 1)) (bC w (ifN v A B) (ifN v B A)) false
noncomputable def wantH:FV→Bool→Bool→Bool→Bool:=FV.rec (motive_1:=fun _=>Bool→Bool→Bool→Bool) (motive_2:=fun _=>PUnit) (fun t v w A B=>PO t v w A B) (fun _ _ _ _ _ _=>false) (fun _ _ _ _ _ _ _ _=>false) (fun _ _ _ _ _=>false) (fun _ _ _ _ _ _ _=>false) ⟨⟩ (fun _ _ _ _=>⟨⟩)
noncomputable def nilF:List FV→Bool:=List.rec (motive:=fun _=>Bool) true (fun _ _ _=>false)
noncomputable def PS (t a:Nat)(l:List FV)(w A B:Bool):Bool:=bC (Nat.beq t (nat_lit 4)) (ifN a (wantH (hdF l) w A B) B) (bC (Nat.beq t (nat_lit 1)) (bC (nilF l) B false) false)
noncomputable def PU:FV→Bool→Bool→Bool→Bool:=FV.rec (motive_1:=fun _=>Bool→Bool→Bool→Bool) (motive_2:=fun _=>PUnit) (fun t v w A B=>PO t v w A B) (fun _ _ _ _ _ _=>false) (fun _ _ _ _ _ _ _ _=>false) (fun _ _ _ _ _=>false) (fun t a l _ w A B=>PS t a l w A B) ⟨⟩ (fun _ _ _ _=>⟨⟩)
theorem FC {t v:Nat} {w A B:Bool} (h:PO t v w A B=true):∃x,kK t v= .b x∧(((x == w)=true∧A=true)∨((x == w)=false∧B=true)):=by
 obtain⟨h1,h⟩:=aF h
 have h1:=Nat.eq_of_beq_eq_true h1
 subst h1
 refine⟨_,Dz v,?_⟩
 cases w with
 | true=>
   have h:ifN v A B=true:=h
   rcases zK h with ⟨h1,h2⟩ | ⟨h1,h2⟩
   ·exact .inl ⟨by rw [qg h1];rfl,h2⟩
   ·exact .inr ⟨by subst h1;rfl,h2⟩
 | false=>
   have h:ifN v B A=true:=h
   rcases zK h with ⟨h1,h2⟩ | ⟨h1,h2⟩
   ·exact .inr ⟨by rw [qg h1];rfl,h2⟩
   ·exact .inl ⟨by subst h1;rfl,h2⟩
theorem PV {y:FV} {w A B:Bool} (h:wantH y w A B=true):∃x,y.av= .b x∧(((x == w)=true∧A=true)∨((x == w)=false∧B=true)):=by
 cases y with
 | n t v=>exact FC h
 | _=>cases h
theorem zM {y:FV} {w A B:Bool} (h:PU y w A B=true):(qh w y.av=some true∧A=true)∨(qh w y.av=some false∧B=true):=by
 cases y with
 | n t v=>
   obtain⟨x,h1,h2⟩:=FC h
   rw [FV.AQ,h1]
   rcases h2 with ⟨h2,h3⟩ | ⟨h2,h3⟩
   ·exact .inl ⟨by simp only [qh];rw [h2],h3⟩
   ·exact .inr ⟨by simp only [qh];rw [h2],h3⟩
 | c t a l=>
   have h':PS t a l w A B=true:=h
   unfold PS at h'
   rw [FV.Dy]
   cases h4:Nat.beq t 4 with
   | true=>
     rw [h4,jr] at h'
     have h4:=Nat.eq_of_beq_eq_true h4
     subst h4
     show (qh w (.cd (!Nat.beq a 0) (hdA (FV.L6 l)))=some true∧_)∨(qh w (.cd (!Nat.beq a 0) (hdA (FV.L6 l)))=some false∧_)
     rcases zK h' with ⟨h1,h2⟩ | ⟨h1,h2⟩
     ·obtain⟨x,q1,q2⟩:=PV h2
      rw [PI] at q1
      rw [qg h1,q1]
      rcases q2 with ⟨q2,q3⟩ | ⟨q2,q3⟩
      ·exact .inl ⟨by simp only [qh,Bool.not_false,Bool.true_and];rw [q2],q3⟩
      ·exact .inr ⟨by simp only [qh,Bool.not_false,Bool.true_and];rw [q2],q3⟩
     ·subst h1
      refine .inr ⟨?_,h2⟩
      show qh w (.cd false _)=some false
      cases hdA (FV.L6 l) <;> rfl
   | false=>
     rw [h4,iU] at h'
     obtain⟨h1,h'⟩:=aF h'
     obtain⟨h2,h'⟩:=aF h'
     have h1:=Nat.eq_of_beq_eq_true h1
     subst h1
     cases l with
     | nil=>exact .inr ⟨rfl,h'⟩
     | cons _ _=>cases h2
 | _=>cases h
noncomputable def pickN (v:Nat)(a b:FV)(K:KF):Bool:=ifN v (bC (au a) (K (ay a)) false) (bC (au b) (K (ay b)) false)
noncomputable def aT:FV→FV→FV→KF→Bool:=FV.rec (motive_1:=fun _=>FV→FV→KF→Bool) (motive_2:=fun _=>PUnit) (fun t v a b K=>bC (Nat.beq t (nat_lit 1)) (pickN v a b K) false) (fun _ _ _ _ _ _=>false) (fun _ _ _ _ _ _ _ _=>false) (fun _ _ _ _ _=>false) (fun _ _ _ _ _ _ _=>false) ⟨⟩ (fun _ _ _ _=>⟨⟩)
theorem FD (x:Bool)(a b:AV):merge x a b=if x then a else b:=by
 unfold merge
 split
 ·rename_i p q;cases x <;> rfl
 ·rfl
theorem FH {c a b:FV} {K:KF} (h:aT c a b K=true):∃v:FV,vX c.av a.av b.av=some v.av∧K v=true:=by
 cases c with
 | n t v=>
   obtain⟨h1,h⟩:=aF h
   have h1:=Nat.eq_of_beq_eq_true h1
   subst h1
   unfold vX
   rw [FV.AQ,Dz]
   rcases zK h with ⟨h1,h2⟩ | ⟨h1,h2⟩
   ·obtain⟨q1,q2⟩:=aF h2
    rw [xW] at q1
    refine⟨_,?_,q2⟩
    rw [qg h1]
    simp only [Bool.not_false,Bool.not_true,q1,uU,eu,iq,Bool.and_self,if_true,FD,xU]
   ·obtain⟨q1,q2⟩:=aF h2
    rw [xW] at q1
    refine⟨_,?_,q2⟩
    subst h1
    simp only [show Nat.beq 0 0=true from rfl,Bool.not_false,Bool.not_true,q1,uU,eu,iq,Bool.and_self,if_true,FD,xU,Bool.false_eq_true,if_false]
 | _=>cases h
noncomputable def PW (c a b:FV)(K:KF):Bool:=bC (au c) (aT (ay c) a b fun v=>K (.c (nat_lit 4) (nat_lit 1) [v])) false
theorem L8 {c a b:FV} {K:KF} (h:PW c a b K=true):∃v:FV,qY true c.av a.av b.av=some v.av∧K v=true:=by
 obtain⟨h1,h⟩:=aF h
 rw [xW] at h1
 obtain⟨v,h2,h3⟩:=FH h
 refine⟨_,?_,h3⟩
 rw [xU] at h2
 unfold vX at h2
 unfold qY
 split at h2
 ·rename_i x hx
  split at h2
  ·rename_i hc
   have h2:=Option.some.inj h2
   rw [h1]
   simp only [uU,Bool.true_and,hc,if_true]
   rw [Py,←h2]
  ·cases h2
 ·cases h2
noncomputable def L9 (t x:Nat):Bool:=bC (Nat.beq t (nat_lit 36893488147419103233)) (Nat.ble x (nat_lit 9223372036854775807)) (Option.rec (motive:=fun _=>Bool) false (fun k=>IntKind.rec (motive:=fun _=>Bool) (Nat.ble x 127) (Nat.ble x 32767) (Nat.ble x 2147483647) (Nat.ble x 9223372036854775807) (Nat.ble x 255) (Nat.ble x 65535) (Nat.ble x 4294967295) (Nat.ble x 18446744073709551615) k) (kOf t))
theorem Iu {t x:Nat} (h:L9 t x=true):∃k,kK t x= .i k x:=by
 unfold L9 at h
 cases ht:Nat.beq t 36893488147419103233 with
 | true=>
   rw [ht,jr] at h
   have ht:t=36893488147419103233:=Nat.eq_of_beq_eq_true ht
   have h:x≤9223372036854775807:=Nat.le_of_ble_eq_true h
   subst ht
   refine⟨.i64,?_⟩
   rw [show (36893488147419103233:Nat)=tg .i64 from rfl,jG,wrap_small .i64 (by simp only [IntKind.signed,IntKind.bits,if_true];omega)]
 | false=>
   rw [ht,iU] at h
   cases hk:kOf t with
   | none=>rw [hk] at h;cases h
   | some k=>
     rw [hk] at h
     refine⟨k,?_⟩
     rw [zH hk,jG,wrap_small]
     cases k <;> (have h:=Nat.le_of_ble_eq_true h;simp only [IntKind.signed,IntKind.bits,if_true,if_false,Bool.false_eq_true];omega)
noncomputable def PX (n v m w:Nat):Bool:=bC (Nat.beq n m) (Nat.beq (Ir n v) (Ir m w)) false
theorem DC (n v m w:Nat):PX n v m w=(fD n v == fD m w):=by
 unfold PX
 rw [xR,xR]
 rw [Bool.eq_iff_iff,beq_iff_eq,FB]
 constructor
 ·intro h
  obtain⟨h1,h2⟩:=aF h
  exact⟨Nat.eq_of_beq_eq_true h1,Nat.eq_of_beq_eq_true h2⟩
 ·rintro ⟨h1,h2⟩
  rw [h1] at h2 ⊢
  rw [Nat.beq_refl,jr,h2,Nat.beq_refl]
noncomputable def dEqSS (y:FV)(n v:Nat)(K:KF):Bool:=match y with
 | .s m w=>kB (PX n v m w) K
 | _=>false
noncomputable def w_ (x y:FV)(K:KF):Bool:=match x with
 | .s n v=>dEqSS y n v K
 | _=>false
noncomputable def dNeSS (y:FV)(n v:Nat)(K:KF):Bool:=match y with
 | .s m w=>kN (PX n v m w) K
 | _=>false
noncomputable def L_ (x y:FV)(K:KF):Bool:=match x with
 | .s n v=>dNeSS y n v K
 | _=>false
theorem WZ {x y:FV} {K:KF} (h:w_ x y K=true):∃a b,x.av= .s a∧y.av= .s b∧∃v:FV,v.av= .b (a == b)∧K v=true:=by
 unfold w_ at h
 split at h
 ·unfold dEqSS at h
  split at h
  ·obtain⟨v,h1,h2⟩:=zJ h
   exact⟨_,_,rfl,rfl,v,by rw [h1,DC],h2⟩
  ·cases h
 ·cases h
theorem W9 {x y:FV} {K:KF} (h:L_ x y K=true):∃a b,x.av= .s a∧y.av= .s b∧∃v:FV,v.av= .b (a != b)∧K v=true:=by
 unfold L_ at h
 split at h
 ·unfold dNeSS at h
  split at h
  ·obtain⟨v,h1,h2⟩:=PG h
   exact⟨_,_,rfl,rfl,v,by rw [h1,DC];rfl,h2⟩
  ·cases h
 ·cases h
noncomputable def mkS (n v:Nat)(K:KF):Bool:=bC (Nat.ble (nat_lit 0) n) (bC (Nat.ble (nat_lit 0) v) (K (.s n v)) false) false
theorem PY {n v:Nat} {K:KF} (h:mkS n v K=true):K (.s n v)=true:=by
 unfold mkS at h
 obtain⟨_,h⟩:=aF h
 exact(aF h).2
noncomputable def PZ (y:FV)(n v:Nat)(K:KF):Bool:=match y with
 | .s m w=>bC (Nat.ble (Nat.add n m) (nat_lit 9223372036854775807)) (mkS (Nat.add n m) (Nat.add (Ir n v) (Nat.shiftLeft w (Nat.mul (nat_lit 8) n))) K) false
 | _=>false
noncomputable def JR (x y:FV)(K:KF):Bool:=match x with
 | .s n v=>PZ y n v K
 | _=>false
theorem P5 {x y:FV} {K:KF} (h:JR x y K=true):∃a b,x.av= .s a∧y.av= .s b∧∃v:FV,Aq .add a b=some v.av∧K v=true:=by
 unfold JR at h
 split at h
 ·rename_i n v
  unfold PZ at h
  split at h
  ·rename_i m w
   obtain⟨h1,h⟩:=aF h
   have h1:n+m≤9223372036854775807:=Nat.le_of_ble_eq_true h1
   refine⟨_,_,rfl,rfl,_,?_,PY h⟩
   simp only [Aq]
   rw [eY,eY,if_pos h1,FV.uy,←Fv,xR,PE];rfl
  ·cases h
 ·cases h
noncomputable def gY (x:FV)(K:KF):Bool:=match x with
 | .s n _=>bC (Nat.ble n (nat_lit 9223372036854775807)) (K (.n (nat_lit 36893488147419103233) n)) false
 | _=>false
theorem gB {n:Nat} (h:n≤9223372036854775807):FV.av (.n 36893488147419103233 n)= .i .i64 n:=by
 rw [FV.AQ,show (36893488147419103233:Nat)=tg .i64 from rfl,jG,wrap_small .i64 (by simp only [IntKind.signed,IntKind.bits,if_true];omega)]
theorem FI {n:Nat} (h:n<256):FV.av (.n 512 n)= .i .u8 n:=by
 rw [FV.AQ,show (512:Nat)=tg .u8 from rfl,jG,wrap_small .u8 (by simp only [IntKind.signed,IntKind.bits,if_false,Bool.false_eq_true];omega)]
theorem P6 {x:FV} {K:KF} (h:gY x K=true):∃a,x.av= .s a∧∃v:FV,v.av= .i .i64 a.length∧K v=true:=by
 unfold gY at h
 split at h
 ·obtain⟨h1,h⟩:=aF h
  exact⟨_,rfl,_,by rw [gB (Nat.le_of_ble_eq_true h1),eY],h⟩
 ·cases h
noncomputable def fP (x:FV)(K:KF):Bool:=match x with
 | .sl _ _ _ n _=>bC (Nat.ble n (nat_lit 9223372036854775807)) (K (.n (nat_lit 36893488147419103233) n)) false
 | .n t _=>bC (Nat.beq t (nat_lit 3)) (K (.n (nat_lit 36893488147419103233) (nat_lit 0))) false
 | _=>false
theorem P7 {x:FV} {K:KF} (h:fP x K=true):(∃o g off n z,x.av= .sl o g off n z∧∃v:FV,v.av= .i .i64 n∧K v=true)∨(x.av= .sl0∧∃v:FV,v.av= .i .i64 0∧K v=true):=by
 unfold fP at h
 split at h
 ·obtain⟨h1,h⟩:=aF h
  exact .inl ⟨_,_,_,_,_,rfl,_,gB (Nat.le_of_ble_eq_true h1),h⟩
 ·obtain⟨h1,h⟩:=aF h
  have h1:=Nat.eq_of_beq_eq_true h1
  subst h1
  exact .inr ⟨rfl,_,gB (n:=0) (by decide),h⟩
 ·cases h
noncomputable def dIdxI (i:FV)(n v:Nat)(K:KF):Bool:=match i with
 | .n t j=>bC (L9 t j) (bC (Nat.ble (Nat.succ j) n) (uT (Nat.mod (Nat.shiftRight v (Nat.mul (nat_lit 8) j)) (nat_lit 256)) (nat_lit 512) K) false) false
 | _=>false
noncomputable def uF (x i:FV)(K:KF):Bool:=match x with
 | .s n v=>dIdxI i n v K
 | _=>false
theorem P8 {x i:FV} {K:KF} (h:uF x i K=true):∃a k,∃j:Nat,x.av= .s a∧i.av= .i k j∧∃b,a[j]? =some b∧∃v:FV,v.av= .i .u8 b.toNat∧K v=true:=by
 unfold uF at h
 split at h
 ·rename_i n v
  unfold dIdxI at h
  split at h
  ·rename_i t j
   obtain⟨h1,h⟩:=aF h
   obtain⟨h2,h⟩:=aF h
   obtain⟨k,hk⟩:=Iu h1
   have h2:j<n:=Nat.le_of_ble_eq_true h2
   rw [jH] at h
   have hb:v / 256^j%256<256:=Nat.mod_lt _ (by omega)
   refine⟨_,k,j,rfl,hk,_,zI j n v h2,_,?_,h⟩
   have e:Nat.mod (Nat.shiftRight v (Nat.mul 8 j)) 256=v / 256^j%256:=by rw [Iq];rfl
   rw [show Nat.mod (Nat.shiftRight v (Nat.mul (nat_lit 8) j)) (nat_lit 256)=v / 256^j%256 from e,FI hb,UInt8.toNat_ofNat']
   have:v / 256^j%256%2^8=v / 256^j%256:=Nat.mod_eq_of_lt hb
   rw [this]
  ·cases h
 ·cases h
noncomputable def DF (n v a b:Nat)(K:KF):Bool:=bC (Nat.ble a b) (bC (Nat.ble b n) (mkS (Nat.sub b a) (Ir (Nat.sub b a) (Nat.shiftRight v (Nat.mul (nat_lit 8) a))) K) false) false
noncomputable def qN (i:FV)(k:Nat→Bool):Bool:=match i with
 | .n t j=>bC (L9 t j) (k j) false
 | _=>false
theorem iy {i:FV} {k:Nat→Bool} (h:qN i k=true):∃q j,i.av= .i q (j:Nat)∧k j=true:=by
 unfold qN at h
 split at h
 ·obtain⟨h1,h⟩:=aF h
  obtain⟨q,hq⟩:=Iu h1
  exact⟨q,_,hq,h⟩
 ·cases h
noncomputable def jI (x:FV)(lo hi:Option FV)(K:KF):Bool:=match x with
 | .s n v=>(match lo,hi with
   | none,none=>K (.s n v)
   | some i,none=>qN i fun a=>DF n v a n K
   | none,some j=>qN j fun b=>DF n v (nat_lit 0) b K
   | some i,some j=>qN i fun a=>qN j fun b=>DF n v a b K)
 | _=>false
theorem vO {n v a b:Nat} {K:KF} (h:DF n v a b K=true):a≤b∧b≤n∧∃r:FV,r.av= .s (((fD n v).drop a).take (b - a))∧K r=true:=by
 obtain⟨h1,h⟩:=aF h
 obtain⟨h2,h⟩:=aF h
 have h1:a≤b:=Nat.le_of_ble_eq_true h1
 have h2:b≤n:=Nat.le_of_ble_eq_true h2
 refine⟨h1,h2,_,?_,PY h⟩
 rw [Ip _ _ _ _ h2,FV.uy]
 have e:Ir (Nat.sub b a) (Nat.shiftRight v (Nat.mul 8 a))=(v / 256^a)%256^(b - a):=by rw [xR,Iq];rfl
 rw [show Ir (Nat.sub b a) (Nat.shiftRight v (Nat.mul (nat_lit 8) a))=(v / 256^a)%256^(b - a) from e]
 exact congrArg AV.s (uz _ _)
theorem P9 {x:FV} {lo hi:Option FV} {K:KF} (h:jI x lo hi K=true):∃a,x.av= .s a∧∃r:FV,((dV a.length a.length (lo.map FV.av) (hi.map FV.av)).map fun r=>AV.s ((a.drop r.1).take (r.2 - r.1)))=some r.av∧K r=true:=by
 unfold jI at h
 split at h
 ·rename_i n v
  refine⟨_,rfl,?_⟩
  rw [eY]
  split at h
  ·exact⟨_,by simp [dV,GX,GY,FV.uy,vN,List.take_of_length_le,eY],h⟩
  ·obtain⟨q,a,h1,h2⟩:=iy h
   obtain⟨h3,h4,r,h5,h6⟩:=vO h2
   refine⟨r,?_,h6⟩
   rw [h5]
   simp only [Option.map_some,Option.map_none,h1,dV,GX,Option.bind_some,GY]
   rw [if_pos (by omega)];simp
  ·obtain⟨q,b,h1,h2⟩:=iy h
   obtain⟨h3,h4,r,h5,h6⟩:=vO h2
   refine⟨r,?_,h6⟩
   rw [h5]
   simp only [Option.map_some,Option.map_none,h1,dV,GX]
   rw [if_pos (by omega)];simp [GY]
  ·obtain⟨q,a,h1,h2⟩:=iy h
   obtain⟨q',b,h1',h2⟩:=iy h2
   obtain⟨h3,h4,r,h5,h6⟩:=vO h2
   refine⟨r,?_,h6⟩
   rw [h5]
   simp only [Option.map_some,h1,h1',dV,GX]
   rw [if_pos (by omega)]
   simp only [Option.bind_some,GY]
   rw [if_pos (by omega)];simp
 ·cases h
end Go.cO
namespace Go.cO
inductive GO where
 | cells (g:Nat) (ro:Bool) (e n m:Nat) (d:List FV) (t:Tr FV)
 | iter (g n v pos:Nat)
 | maps (g:Nat) (es:List (FV×FV))
 | dead
 | sD (g e n v:Nat)
structure GS where
 n:Nat
 t:Tr GO
abbrev KS:=FV→GS→Bool
noncomputable def DJ:List FV→Nat→FV:=List.rec (motive:=fun _=>Nat→FV) (fun _=>.n (nat_lit 0) (nat_lit 0)) (fun a _ ih k=>Nat.rec (motive:=fun _=>FV) a (fun k _=>ih k) k)
noncomputable def nthK:List FV→Nat→KF→Bool:=List.rec (motive:=fun _=>Nat→KF→Bool) (fun _ K=>K (.n (nat_lit 0) (nat_lit 0))) (fun a _ ih k=>Nat.rec (motive:=fun _=>KF→Bool) (fun K=>K a) (fun k _ K=>ih k K) k)
theorem JU:∀(l:List FV) (k:Nat) (K:KF),nthK l k K=K (DJ l k)
 | [],_,_=>rfl
 | _ :: _,0,_=>rfl
 | _ :: l,k+1,K=>JU l k K
theorem DK:∀(l:List FV) (k:Nat),k<l.length→l[k]? =some (DJ l k)
 | [],k,h=>by simp at h
 | a :: l,0,_=>rfl
 | a :: l,k+1,h=>by rw [List.getElem?_cons_succ];exact DK l k (by simpa using h)
noncomputable def o9 (m:Nat)(d:List FV)(t:Tr FV)(i:Nat):FV:=Option.rec (motive:=fun _=>FV) (DJ d (Nat.mod i m)) (fun v=>v) (t.get i)
noncomputable def zO (m:Nat)(d:List FV)(t:Tr FV)(i:Nat)(K:KF):Bool:=Option.rec (motive:=fun _=>Bool) (nthK d (Nat.mod i m) K) K (t.get i)
theorem uG (m:Nat)(d:List FV)(t:Tr FV)(i:Nat)(K:KF):zO m d t i K=K (o9 m d t i):=by
 unfold zO o9
 cases t.get i with
 | none=>exact JU _ _ _
 | some v=>rfl
noncomputable def uH:FV→Bool:=FV.rec (motive_1:=fun _=>Bool) (motive_2:=fun _=>PUnit) (fun t _=>Nat.ble (nat_lit 1) t) (fun _ _ _=>true) (fun _ _ _ _ _=>true) (fun _ _=>true) (fun t _ _ _=>bC (Nat.beq t (nat_lit 4)) false (Nat.ble (nat_lit 2) t)) ⟨⟩ (fun _ _ _ _=>⟨⟩)
theorem mV {x:FV} (h:uH x=true):x.av.one=true∧x.av.cells=[x.av]:=by
 cases x with
 | n t x=>
   have h1:=PK t x h
   refine⟨h1,?_⟩
   rw [FV.AQ]
   rcases lX t x with ⟨k,_,e⟩ | ⟨_,e⟩ | ⟨_,e⟩ | ⟨_,e⟩ | ⟨_,e⟩ | ⟨_,e⟩ | ⟨_,e⟩ | e <;> (rw [e];rfl)
 | p _ _ _=>exact⟨rfl,rfl⟩
 | sl _ _ _ _ _=>exact⟨rfl,rfl⟩
 | s _ _=>exact⟨rfl,rfl⟩
 | c t a l=>
   have h':bC (Nat.beq t 4) false (Nat.ble 2 t)=true:=h
   have h4:t≠4:=fun e=>by subst e;cases h'
   rw [qg h4,iU] at h'
   have h2:2≤t:=Nat.le_of_ble_eq_true h'
   rw [FV.Dy]
   rcases oO t a (FV.L6 l) with ⟨e,q⟩ | ⟨e,q⟩ | ⟨e,q⟩ | ⟨e,q⟩ | ⟨e,q⟩ | ⟨e,q⟩ | ⟨e,q⟩
   ·omega
   ·omega
   ·rw [q];exact⟨rfl,rfl⟩
   ·rw [q];exact⟨rfl,rfl⟩
   ·omega
   ·rw [q];exact⟨rfl,rfl⟩
   ·rw [q];exact⟨rfl,rfl⟩
noncomputable def iQ:List FV→Bool:=List.rec (motive:=fun _=>Bool) true (fun a _ ih=>bC (uH a) ih false)
theorem jV {a:FV} {l:List FV} (h:iQ (a :: l)=true):uH a=true∧iQ l=true:=aF h
theorem vP:∀(l:List FV) (k:Nat),iQ l=true→k<l.length→uH (DJ l k)=true
 | [],k,_,h=>by simp at h
 | a :: l,0,h,_=>(jV h).1
 | a :: l,k+1,h,hk=>vP l k (jV h).2 (by simpa using hk)
theorem qj:∀l:List FV,iQ l=true→(l.map FV.av).all AV.one=true
 | [],_=>rfl
 | a :: l,h=>by
   obtain⟨h1,h2⟩:=jV h
   simp only [List.map_cons,List.all_cons,(mV h1).1,qj l h2,Bool.and_self]
structure dB (n m:Nat)(d:List FV)(t:Tr FV)(cs:List AV):Prop where
 len:cs.length=n
 at_:∀i,i<n→cs[i]? =some (o9 m d t i).av
 one:∀i,i<n→uH (o9 m d t i)=true
theorem dB.list {d:List FV} (h:iQ d=true):dB d.length d.length d .lf (d.map FV.av):=by
 have hg:∀i,i<d.length→o9 d.length d .lf i=DJ d i:=fun i hi=>by
  show DJ d (i%d.length)=_
  rw [Nat.mod_eq_of_lt hi]
 refine⟨by simp,fun i hi=>?_,fun i hi=>?_⟩
 ·rw [hg i hi,List.getElem?_map,DK d i hi];rfl
 ·rw [hg i hi];exact vP d i h hi
theorem dB.rep {d:List FV} (h:iQ d=true)(k:Nat):dB (k*d.length) d.length d .lf (iG (d.map FV.av) k):=by
 have hz:∀i,i<k*d.length→i%d.length<d.length:=fun i hi=>by
  rcases Nat.eq_zero_or_pos d.length with h0 | h0
  ·rw [h0] at hi;omega
  ·exact Nat.mod_lt _ h0
 refine⟨by rw [fU];simp,fun i hi=>?_,fun i hi=>?_⟩
 ·have h1:=hz i hi
  rw [JJ _ (by simp;omega) k i (by simpa using hi),List.length_map,List.getElem?_map,DK d _ h1];rfl
 ·exact vP d _ h (hz i hi)
theorem JV {n m:Nat} {d:List FV} {t:Tr FV} {cs:List AV} (h:dB n m d t cs) {i:Nat} {v:FV} {K:Tr FV→Bool} (hi:i<n)(hv:uH v=true)(hk:t.set i v K=true):∃t',K t'= true∧dB n m d t' (cs.set i v.av):=by
 obtain⟨t',h1,h2⟩:=Tr.rP hk
 have hg:∀j,o9 m d t' j=if j=i then v else o9 m d t j:=by
  intro j
  unfold o9
  rw [h2]
  by_cases hj:j=i
  ·rw [if_pos hj,if_pos hj]
  ·rw [if_neg hj,if_neg hj]
 have hl:=h.len
 refine⟨t',h1,by simp [hl],fun j hj=>?_,fun j hj=>?_⟩
 ·rw [hg,List.getElem?_set]
  by_cases hji:i=j
  ·subst hji;rw [if_pos rfl,if_pos rfl,if_pos (by omega)]
  ·rw [if_neg hji,if_neg (fun e=>hji e.symm)];exact h.at_ j hj
 ·rw [hg]
  split
  ·exact hv
  ·exact h.one j hj
noncomputable def o7:List FV→Tr FV→Nat→(Tr FV→Bool)→Bool:=List.rec (motive:=fun _=>Tr FV→Nat→(Tr FV→Bool)→Bool) (fun t _ K=>K t) (fun y _ ih t off K=>bC (uH y) (t.set off y fun t=>ih t (Nat.succ off) K) false)
theorem nX:∀(ys:List FV) {n m:Nat} {d:List FV} {t:Tr FV} {cs:List AV} (_:dB n m d t cs) {off:Nat} {K:Tr FV→Bool} (_:off+ys.length≤n) (_:o7 ys t off K=true),∃t',K t'= true∧dB n m d t' (setCells cs off (ys.map FV.av))∧(ys.map FV.av).all AV.one=true
 | [],_,_,_,t,_,h,_,_,_,hk=>⟨t,hk,h,rfl⟩
 | y :: ys,_,_,_,t,_,h,off,K,hl,hk=>by
   simp only [List.length_cons] at hl
   have hk':bC (uH y) (t.set off y fun t=>o7 ys t (off+1) K) false=true:=hk
   obtain⟨h0,hk'⟩:=aF hk'
   obtain⟨t1,h1,h2⟩:=JV h (by omega) h0 hk'
   obtain⟨t2,q1,q2,q3⟩:=nX ys h2 (by omega) h1
   refine⟨t2,q1,q2,?_⟩
   simp only [List.map_cons,List.all_cons,(mV h0).1,q3,Bool.and_self]
noncomputable def BZ (m:Nat)(d:List FV)(t:Tr FV):Nat→Nat→(List FV→Bool)→Bool:=Nat.rec (motive:=fun _=>Nat→(List FV→Bool)→Bool) (fun _ K=>K []) (fun _ ih off K=>zO m d t off fun v=>ih (Nat.succ off) fun l=>K (v :: l))
theorem FM {n m:Nat} {d:List FV} {t:Tr FV} {cs:List AV} (h:dB n m d t cs):∀(k off:Nat) {K:List FV→Bool} (_:off+k≤n) (_:BZ m d t k off K=true),∃l,K l=true∧l.map FV.av=(cs.drop off).take k∧iQ l=true
 | 0,off,K,_,hk=>⟨[],hk,by rw [List.take_zero];rfl,rfl⟩
 | k+1,off,K,hl,hk=>by
   have hk':zO m d t off (fun v=>BZ m d t k (off+1) fun l=>K (v :: l))=true:=hk
   rw [uG] at hk'
   obtain⟨l,h1,h2,h3⟩:=FM h k (off+1) (by omega) hk'
   refine⟨_,h1,?_,?_⟩
   ·have hc:=h.at_ off (by omega)
    obtain⟨hlt,hv⟩:=List.getElem?_eq_some_iff.1 hc
    rw [←List.getElem_cons_drop hlt,List.take_succ_cons,hv,List.map_cons,h2]
   ·show bC (uH _) (iQ l) false=true
    rw [h.one off (by omega),jr];exact h3
noncomputable def FN:Nat→List FV→List FV:=Nat.rec (motive:=fun _=>List FV→List FV) (fun l=>l) (fun _ ih l=>List.rec (motive:=fun _=>List FV) [] (fun _ r _=>ih r) l)
theorem uI:∀(k:Nat) (l:List FV),FN k l=l.drop k
 | 0,_=>rfl
 | k+1,[]=>by rw [List.drop_nil];rfl
 | k+1,_ :: r=>uI k r
noncomputable def W_ (t:Tr FV):Nat→Nat→List FV→(List FV→Bool)→Bool:=Nat.rec (motive:=fun _=>Nat→List FV→(List FV→Bool)→Bool) (fun _ _ K=>K [])
 (fun _ ih off l K=>List.rec (motive:=fun _=>Bool) false (fun a r _=>Option.rec (motive:=fun _=>Bool) (ih (Nat.succ off) r fun q=>K (a :: q)) (fun v=>ih (Nat.succ off) r fun q=>K (v :: q)) (t.get off)) l)
theorem B_:∀(k:Nat) (d:List FV) {a:FV} {r:List FV},d.drop k=a :: r→DJ d k=a∧d.drop (k+1)=r
 | 0,d,a,r,h=>by rw [List.drop_zero] at h;subst h;exact⟨rfl,rfl⟩
 | k+1,[],a,r,h=>by simp at h
 | k+1,_ :: d,a,r,h=>B_ k d h
theorem DL {m:Nat} {d:List FV} {t:Tr FV} :∀(k off:Nat) {l:List FV} {K:List FV→Bool} (_:off+k≤m) (_:d.drop off=l) (_:W_ t k off l K=true),BZ m d t k off K=true
 | 0,_,_,_,_,_,h=>h
 | k+1,off,l,K,hm,hl,h=>by
   cases l with
   | nil=>cases h
   | cons a r=>
     obtain⟨h1,h2⟩:=B_ off d hl
     show zO m d t off (fun v=>BZ m d t k (off+1) fun l=>K (v :: l))=true
     rw [uG]
     have hmod:off%m=off:=Nat.mod_eq_of_lt (by omega)
     have h':Option.rec (motive:=fun _=>Bool) (W_ t k (off+1) r fun q=>K (a :: q)) (fun v=>W_ t k (off+1) r fun q=>K (v :: q)) (t.get off)=true:=h
     have hg:o9 m d t off=Option.rec (motive:=fun _=>FV) (DJ d (off%m)) (fun v=>v) (t.get off):=rfl
     rw [hg,hmod,h1]
     cases ht:t.get off with
     | none=>rw [ht] at h';exact DL k (off+1) (by omega) h2 h'
     | some v=>rw [ht] at h';exact DL k (off+1) (by omega) h2 h'
noncomputable def DN (m:Nat)(d:List FV)(t:Tr FV)(k off:Nat)(K:List FV→Bool):Bool:=bC (Nat.ble (Nat.add off k) m) (W_ t k off (FN off d) K) (BZ m d t k off K)
theorem P_ {m:Nat} {d:List FV} {t:Tr FV} {k off:Nat} {K:List FV→Bool} (h:DN m d t k off K=true):BZ m d t k off K=true:=by
 unfold DN at h
 cases hb:Nat.ble (Nat.add off k) m with
 | true=>
   rw [hb,jr] at h
   exact DL k off (Nat.le_of_ble_eq_true hb) (uI _ _).symm h
 | false=>rw [hb,iU] at h;exact h
theorem qJ {n m:Nat} {d:List FV} {t:Tr FV} {cs:List AV} (h:dB n m d t cs)(k off:Nat) {K:List FV→Bool} (hl:off+k≤n)(hk:DN m d t k off K=true):∃l,K l=true∧l.map FV.av=(cs.drop off).take k∧iQ l=true:=FM h k off hl (P_ hk)
noncomputable def JW:Nat→List FV→List FV:=Nat.rec (motive:=fun _=>List FV→List FV) (fun _=>[]) (fun _ ih l=>List.rec (motive:=fun _=>List FV) [] (fun a r _=>a :: ih r) l)
theorem zQ:∀(k:Nat) (l:List FV),JW k l=l.take k
 | 0,l=>by rw [List.take_zero];rfl
 | k+1,[]=>by rw [List.take_nil];rfl
 | k+1,a :: r=>congrArg (a :: ·) (zQ k r)
theorem setCells_eq:∀(ys cs:List AV) (off:Nat),off+ys.length≤cs.length→setCells cs off ys=cs.take off ++ (ys ++ cs.drop (off+ys.length))
 | [],cs,off,_=>by simp [setCells]
 | y :: ys,cs,off,hl=>by
   simp only [List.length_cons] at hl
   have hlt:off<cs.length:=by omega
   simp only [setCells]
   rw [setCells_eq ys (cs.set off y) (off+1) (by simp;omega)]
   rw [List.take_add_one,List.take_set_of_le (Nat.le_refl off),List.getElem?_set_self hlt,List.drop_set_of_lt (by omega)]
   simp [List.append_assoc,Nat.add_assoc,Nat.add_comm 1]
noncomputable def zT (a b:List FV):List FV:=List.rec (motive:=fun _=>List FV) b (fun x _ ih=>x :: ih) a
theorem oP:∀(a b:List FV),zT a b=a ++ b
 | [],_=>rfl
 | x :: a,b=>congrArg (x :: ·) (oP a b)
noncomputable def bigS (n m:Nat)(d:List FV)(t:Tr FV)(z off:Nat)(l:List FV)(K:List FV→Bool):Bool:=DN m d t off (nat_lit 0) fun p=>DN m d t (Nat.sub n (Nat.add off z)) (Nat.add off z) fun q=>fSp (zT p (zT l q)) fun l'=>bC (iQ l') (K l') false
theorem Xa {n m:Nat} {d:List FV} {t:Tr FV} {cs:List AV} (h:dB n m d t cs) {z off:Nat} {l:List FV} (hz:l.length=z)(hl:off+z≤n) {K:List FV→Bool} (hk:bigS n m d t z off l K=true) :
 ∃ l',K l'= true∧dB n n l' .lf (setCells cs off (l.map FV.av))∧(l.map FV.av).all AV.one=true:=by
 obtain⟨p,k1,k2,_⟩:=qJ h off 0 (by omega) hk
 obtain⟨q,k3,k4,_⟩:=qJ h (n - (off+z)) (off+z) (by omega) k1
 rw [vJ] at k3
 obtain⟨k5,k6⟩:=aF k3
 have hlen:=h.len
 have he:(zT p (zT l q)).map FV.av=setCells cs off (l.map FV.av):=by
  rw [oP,oP,List.map_append,List.map_append,k2,k4,setCells_eq _ _ _ (by rw [List.length_map,hz];omega),List.drop_zero,List.length_map,hz]
  congr 2
  rw [List.take_of_length_le (by rw [List.length_drop];omega)]
 have hn:(zT p (zT l q)).length=n:=by
  have:=congrArg List.length he
  rw [List.length_map,jf] at this
  omega
 refine⟨_,k6,?_,?_⟩
 ·have hc:=dB.list k5
  rw [hn,he] at hc
  exact hc
 ·have ha:=qj _ k5
  rw [oP,oP,List.map_append,List.map_append,List.all_append,List.all_append,Bool.and_eq_true,Bool.and_eq_true] at ha
  exact ha.2.1
noncomputable def xg (es:List (FV×FV)):List (AV×AV):=es.map fun p=>(p.1.av,p.2.av)
noncomputable def GO.Is:GO→AO→Prop
 | .cells g ro e n m d t,a=>∃cs,a=⟨g,ro,.cells e cs⟩∧dB n m d t cs
 | .iter g n v pos,a=>a=⟨g,false,.iter (fD n v) pos⟩
 | .maps g es,a=>a=⟨g,false,.maps (xg es)⟩
 | .dead,_=>True
 | .sD g e n v,a=>a=⟨g,false,.sD e (fD n v)⟩
noncomputable def GS.Is (s:GS)(σ:St):Prop:=σ.length=s.n∧∀o f,s.t.get o=some f→∃a,σ[o]? =some a∧f.Is a
noncomputable def GS.new (s:GS)(f:GO)(K:Nat→GS→Bool):Bool:=fN s.n fun n=>s.t.set n f fun t=>K n ⟨Nat.succ n,t⟩
theorem GS.rQ {s:GS} {σ:St} (h:s.Is σ) {f:GO} {a:AO} (hf:f.Is a) {K:Nat→GS→Bool} (hk:s.new f K=true):∃s',K σ.length s'= true∧s'.Is (σ ++ [a]):=by
 unfold GS.new at hk
 rw [jM] at hk
 obtain⟨t',h1,h2⟩:=Tr.rP hk
 have hl:=h.1
 rw [←hl] at h1 h2
 refine⟨_,h1,by simp,fun o f' ho=>?_⟩
 have ho':t'.get o=some f':=ho
 rw [h2] at ho'
 by_cases he:o=σ.length
 ·rw [if_pos he] at ho';cases ho'
  subst he
  exact⟨a,by simp,hf⟩
 ·rw [if_neg he] at ho'
  obtain⟨a',q1,q2⟩:=h.2 o f' ho'
  have:=(List.getElem?_eq_some_iff.1 q1).1
  exact⟨a',by rw [List.getElem?_append_left this];exact q1,q2⟩
noncomputable def GS.put (s:GS)(o:Nat)(f:GO)(K:GS→Bool):Bool:=s.t.set o f fun t=>K ⟨s.n,t⟩
theorem GS.lT {s:GS} {σ:St} (h:s.Is σ) {o:Nat} (ho:o<σ.length) {f:GO} {a:AO} (hf:f.Is a) {K:GS→Bool} (hk:s.put o f K=true):∃s',K s'= true∧s'.Is (σ.set o a):=by
 obtain⟨t',h1,h2⟩:=Tr.rP hk
 have hl:=h.1
 refine⟨_,h1,by simp [hl],fun j f' hj=>?_⟩
 have hj':t'.get j=some f':=hj
 rw [h2] at hj'
 rw [List.getElem?_set]
 by_cases he:j=o
 ·rw [if_pos he] at hj';cases hj'
  subst he
  exact⟨a,by rw [if_pos rfl,if_pos ho],hf⟩
 ·rw [if_neg he] at hj'
  rw [if_neg (fun e=>he e.symm)]
  exact h.2 j f' hj'
theorem GS.cells_at {s:GS} {σ:St} (h:s.Is σ) {o g e n m:Nat} {ro:Bool} {d:List FV} {t:Tr FV} (ho:s.t.get o=some (.cells g ro e n m d t)):∃cs,σ[o]? =some ⟨g,ro,.cells e cs⟩∧dB n m d t cs:=by
 obtain⟨a,h1,cs,rfl,h2⟩:=h.2 _ _ ho
 exact⟨cs,h1,h2⟩
theorem uJ {σ:St} {o:Nat} {a:AO} (h:σ[o]? =some a):o<σ.length:=(List.getElem?_eq_some_iff.1 h).1
theorem iO {σ:St} {o g e:Nat} {ro:Bool} {cs:List AV} (h:σ[o]? =some ⟨g,ro,.cells e cs⟩):fC σ o g=some cs:=by
 unfold fC;rw [h];simp
noncomputable def xk (f:Option GO)(g:Nat)(K:Bool→Nat→Nat→Nat→List FV→Tr FV→Bool):Bool:=Option.rec (motive:=fun _=>Bool) false (fun f=>GO.rec (motive:=fun _=>Bool) (fun g' ro e n m d t=>bC (Nat.beq g g') (K ro e n m d t) false) (fun _ _ _ _=>false) (fun _ _=>false) false (fun _ _ _ _=>false) f) f
theorem jJ {s:GS} {σ:St} (h:s.Is σ) {o g:Nat} {K:Bool→Nat→Nat→Nat→List FV→Tr FV→Bool} (hk:xk (s.t.get o) g K=true):∃ro e n m d t cs,σ[o]? =some ⟨g,ro,.cells e cs⟩∧dB n m d t cs∧K ro e n m d t=true:=by
 cases ho:s.t.get o with
 | none=>rw [ho] at hk;cases hk
 | some f=>
   rw [ho] at hk
   cases f with
   | cells g' ro e n m d t=>
     obtain⟨h1,h2⟩:=aF hk
     obtain⟨cs,q1,q2⟩:=GS.cells_at h ho
     rw [Nat.eq_of_beq_eq_true h1]
     exact⟨_,_,_,_,_,_,cs,q1,q2,h2⟩
   | _=>cases hk
noncomputable def ak (x:FV)(s:GS)(K:KF):Bool:=FV.rec (motive_1:=fun _=>GS→KF→Bool) (motive_2:=fun _=>PUnit) (fun _ _ _ _=>false) (fun o g off s K=>xk (s.t.get o) g fun _ _ n m d t=>bC (Nat.ble (Nat.succ off) n) (zO m d t off K) false) (fun _ _ _ _ _ _ _=>false) (fun _ _ _ _=>false) (fun _ _ _ _ _ _=>false) ⟨⟩ (fun _ _ _ _=>⟨⟩) x s K
section
variable {s:GS} {σ:St} (h:s.Is σ)
include h
theorem lq {T:AT} (hT:T.d.agg=false) {x:FV} {K:KF} (hk:ak x s K=true):∃v:FV,fG (some T) x.av σ=some v.av∧K v=true:=by
 cases x with
 | p o g off=>
   obtain⟨ro,e,n,m,d,t,cs,h1,h2,h3⟩:=jJ h hk
   obtain⟨h4,h5⟩:=aF h3
   rw [uG] at h5
   refine⟨_,?_,h5⟩
   rw [FV.wZ]
   simp only [fG]
   rw [iO h1]
   simp only [Option.bind_some,partOf,hT,Bool.false_eq_true,if_false]
   exact h2.at_ off (Nat.le_of_ble_eq_true h4)
 | _=>cases hk
noncomputable def aB (z:Nat)(x:FV)(s:GS)(K:KF):Bool:=match x with
 | .p o g off=>xk (s.t.get o) g fun _ _ n m d t=>bC (Nat.ble (Nat.add off z) n) (DN m d t z off fun l=>K (.c (nat_lit 0) (nat_lit 0) l)) false
 | _=>false
theorem Cb {T:AT} (hT:T.d.agg=true) {x:FV} {K:KF} (hk:aB T.size x s K=true):∃v:FV,fG (some T) x.av σ=some v.av∧K v=true:=by
 unfold aB at hk
 split at hk
 ·rename_i o g off
  obtain⟨ro,e,n,m,d,t,cs,h1,h2,h3⟩:=jJ h hk
  obtain⟨h4,h5⟩:=aF h3
  have h4:off+T.size≤n:=Nat.le_of_ble_eq_true h4
  obtain⟨l,q1,q2,q3⟩:=qJ h2 T.size off h4 h5
  refine⟨_,?_,q1⟩
  rw [FV.wZ]
  simp only [fG]
  rw [iO h1]
  simp only [Option.bind_some,partOf,hT,if_true]
  rw [if_pos (by rw [h2.len];exact h4),qc]
  rw [show l.map FV.av=(cs.drop off).take T.size from q2]
 ·cases hk
noncomputable def aX (x y:FV)(s:GS)(K:GS→Bool):Bool:=match x with
 | .p o g off=>bC (uH y) (xk (s.t.get o) g fun ro e n m d t=>bC ro false (bC (Nat.ble (Nat.succ off) n) (t.set off y fun t'=>s.put o (.cells g false e n m d t') K) false)) false
 | _=>false
theorem zU {T:AT} (hT:T.size=1) {x y:FV} {K:GS→Bool} (hk:aX x y s K=true):∃σ' s',f_ (some T) x.av y.av σ=some σ'∧s'.Is σ'∧K s'= true:=by
 unfold aX at hk
 split at hk
 ·rename_i o g off
  obtain⟨h0,hk⟩:=aF hk
  obtain⟨ro,e,n,m,d,t,cs,h1,h2,h3⟩:=jJ h hk
  cases ro with
  | true=>cases h3
  | false=>
    rw [iU] at h3
    obtain⟨h4,h5⟩:=aF h3
    have h4:off<n:=Nat.le_of_ble_eq_true h4
    obtain⟨t',q1,q2⟩:=JV h2 h4 h0 h5
    obtain⟨s',r1,r2⟩:=GS.lT h (uJ h1) (f:=.cells g false e n m d t') (a:=⟨g,false,.cells e (cs.set off y.av)⟩) ⟨_,rfl,q2⟩ q1
    obtain⟨w1,w2⟩:=mV h0
    refine⟨_,s',?_,r2,r1⟩
    rw [FV.wZ]
    simp only [f_,h1]
    rw [w2,if_pos (by refine⟨trivial,trivial,by rw [hT];rfl,by simp [w1],by rw [hT,h2.len];omega⟩)]
    rfl
 ·cases hk
noncomputable def aO (z:Nat)(x y:FV)(s:GS)(K:GS→Bool):Bool:=match x,y with
 | .p o g off,.c 0 _ l=>bC (Nat.beq l.length z) (xk (s.t.get o) g fun ro e n m d t=>bC ro false (bC (Nat.ble (Nat.add off z) n) (bC (bC (Nat.ble (nat_lit 12) z) (Nat.ble n (Nat.add z z)) false) (bigS n m d t z off l fun l'=>s.put o (.cells g false e n n l' .lf) K) (o7 l t off fun t'=>s.put o (.cells g false e n m d t') K)) false)) false
 | _,_=>false
theorem Iw {T:AT} {x y:FV} {K:GS→Bool} (hk:aO T.size x y s K=true):∃σ' s',f_ (some T) x.av y.av σ=some σ'∧s'.Is σ'∧K s'= true:=by
 unfold aO at hk
 split at hk
 ·rename_i o g off a l
  obtain⟨h0,hk⟩:=aF hk
  have h0:=Nat.eq_of_beq_eq_true h0
  obtain⟨ro,e,n,m,d,t,cs,h1,h2,h3⟩:=jJ h hk
  cases ro with
  | true=>cases h3
  | false=>
    rw [iU] at h3
    obtain⟨h4,h5⟩:=aF h3
    have h4:off+T.size≤n:=Nat.le_of_ble_eq_true h4
    obtain⟨s',r1,r2,q3⟩:∃s',K s'= true∧s'.Is (σ.set o ⟨g,false,.cells e (setCells cs off (l.map FV.av))⟩)∧(l.map FV.av).all AV.one=true:=by
        cases hb:bC (Nat.ble (nat_lit 12) T.size) (Nat.ble n (Nat.add T.size T.size)) false with
        | true=>
          rw [hb,jr] at h5
          obtain⟨l',q1,q2,q3⟩:=Xa h2 h0 h4 h5
          obtain⟨s',r1,r2⟩:=GS.lT h (uJ h1) (f:=.cells g false e n n l' .lf) (a:=⟨g,false,.cells e (setCells cs off (l.map FV.av))⟩) ⟨_,rfl,q2⟩ q1
          exact⟨s',r1,r2,q3⟩
        | false=>
          rw [hb,iU] at h5
          obtain⟨t',q1,q2,q3⟩:=nX l h2 (by omega) h5
          obtain⟨s',r1,r2⟩:=GS.lT h (uJ h1) (f:=.cells g false e n m d t') (a:=⟨g,false,.cells e (setCells cs off (l.map FV.av))⟩) ⟨_,rfl,q2⟩ q1
          exact⟨s',r1,r2,q3⟩
    refine⟨_,s',?_,r2,r1⟩
    rw [FV.wZ,qc]
    simp only [f_,h1,AV.cells]
    rw [if_pos (by refine⟨trivial,trivial,by rw [List.length_map];exact h0,q3,by rw [h2.len];omega⟩)]
 ·cases hk
noncomputable def Qa (e n m:Nat)(d:List FV)(s:GS)(K:Nat→GS→Bool):Bool:=s.new (.cells (nat_lit 0) false e n m d .lf) K
theorem xX {e n m:Nat} {d:List FV} {cs:List AV} (hc:dB n m d .lf cs) {K:Nat→GS→Bool} (hk:Qa e n m d s K=true):∃s',K σ.length s'= true∧s'.Is (bg e cs σ):=
 GS.rQ h (f:=.cells 0 false e n m d .lf) (a:=⟨0,false,.cells e cs⟩) ⟨cs,rfl,hc⟩ hk
end
noncomputable def newL (e:Nat)(l:List FV)(s:GS)(K:Nat→GS→Bool):Bool:=bC (iQ l) (fN l.length fun n=>Qa e n n l s K) false
noncomputable def newT (e:Nat)(l:List FV)(s:GS)(K:Nat→GS→Bool):Bool:=fN l.length fun n=>o7 l .lf (nat_lit 0) fun t=>s.new (.cells (nat_lit 0) false e n (nat_lit 1) [.n (nat_lit 1) (nat_lit 0)] t) K
section
variable {s:GS} {σ:St} (h:s.Is σ)
include h
theorem uK {e:Nat} {l:List FV} {K:Nat→GS→Bool} (hk:newL e l s K=true):∃s',K σ.length s'= true∧s'.Is (bg e (l.map FV.av) σ):=by
 obtain⟨h1,h2⟩:=aF hk
 rw [jM] at h2
 exact xX h (dB.list h1) h2
theorem DR {e:Nat} {l:List FV} {K:Nat→GS→Bool} (hk:newT e l s K=true):∃s',K σ.length s'= true∧s'.Is (bg e (l.map FV.av) σ):=by
 unfold newT at hk
 rw [jM] at hk
 have hb:=dB.rep (d:=[.n 1 0]) rfl l.length
 rw [show l.length*[FV.n 1 0].length=l.length by simp,show [FV.n 1 0].length=1 from rfl] at hb
 obtain⟨t',h1,h2,h3⟩:=nX l hb (off:=0) (by omega) hk
 have e1:setCells (iG ([FV.n 1 0].map FV.av) l.length) 0 (l.map FV.av)=l.map FV.av:=by
  have:=jY (l.map FV.av) [] (iG ([FV.n 1 0].map FV.av) l.length) (by rw [fU];simp)
  simpa using this
 rw [e1] at h2
 exact GS.rQ h (f:=.cells 0 false e l.length 1 [.n 1 0] t') (a:=⟨0,false,.cells e (l.map FV.av)⟩) ⟨_,rfl,h2⟩ h1
end
end Go.cO
namespace Go.cO
def Vf (o:Option (AV×St))(K:KS):Prop:=∃v σ' s',o=some (FV.av v,σ')∧GS.Is s' σ'∧K v s'= true
noncomputable def DT:Nat→Nat→(List FV→Bool)→Bool:=Nat.rec (motive:=fun _=>Nat→(List FV→Bool)→Bool) (fun _ K=>K []) (fun _ ih v K=>uT (Nat.mod v (nat_lit 256)) (nat_lit 512) fun b=>ih (Nat.div v (nat_lit 256)) fun l=>K (b :: l))
def byA (b:UInt8):AV:=.i .u8 b.toNat
theorem vS:∀(n v:Nat) {K:List FV→Bool} (_:DT n v K=true),∃l,K l=true∧l.map FV.av=(fD n v).map byA∧l.length=n∧iQ l=true
 | 0,v,K,hk=>⟨[],hk,rfl,rfl,rfl⟩
 | n+1,v,K,hk=>by
   have hk':uT (v%256) 512 (fun b=>DT n (v / 256) fun l=>K (b :: l))=true:=hk
   rw [jH] at hk'
   obtain⟨l,h1,h2,h3,h4⟩:=vS n _ hk'
   have hb:v%256<256:=Nat.mod_lt _ (by omega)
   refine⟨_,h1,?_,by rw [List.length_cons,h3],?_⟩
   ·rw [dX,List.map_cons,List.map_cons,h2,FI hb]
    have e2:v%256%2^8=v%256:=Nat.mod_eq_of_lt hb
    simp only [byA,UInt8.toNat_ofNat',e2]
   ·show bC (uH (.n 512 (v%256))) (iQ l) false=true
    rw [h4];rfl
noncomputable def Xb (z:Nat)(x:FV)(s:GS)(K:Nat→List FV→Bool):Bool:=match x with
 | .n t _=>bC (Nat.beq t (nat_lit 3)) (K (nat_lit 0) []) false
 | .sl o g off n z'=>bC (Nat.beq z' z) (xk (s.t.get o) g fun _ _ n' m d t=>bC (Nat.ble (Nat.add off (Nat.mul n z)) n') (DN m d t (Nat.mul n z) off fun l=>K n l) false) false
 | .s n v=>bC (Nat.beq z (nat_lit 1)) (DT n v fun l=>K n l) false
 | _=>false
section
variable {s:GS} {σ:St} (h:s.Is σ)
include h
theorem JX {z:Nat} {x:FV} {K:Nat→List FV→Bool} (hk:Xb z x s K=true):∃n l,h_ z x.av σ=some (n,l.map FV.av)∧K n l=true∧iQ l=true:=by
 unfold Xb at hk
 split at hk
 ·rename_i t x
  obtain⟨h1,hk⟩:=aF hk
  have h1:=Nat.eq_of_beq_eq_true h1
  subst h1
  exact⟨0,[],rfl,hk,rfl⟩
 ·rename_i o g off n z'
  obtain⟨h1,hk⟩:=aF hk
  have h1:=Nat.eq_of_beq_eq_true h1
  obtain⟨ro,e,n',m,d,t,cs,q1,q2,q3⟩:=jJ h hk
  obtain⟨h4,h5⟩:=aF q3
  have h4:off+n*z≤n':=Nat.le_of_ble_eq_true h4
  obtain⟨l,r1,r2,r3⟩:=qJ q2 _ off h4 h5
  refine⟨n,l,?_,r1,r3⟩
  rw [FV.qV]
  simp only [h_]
  rw [if_pos h1,iO q1]
  simp only [Option.bind_some]
  rw [if_pos (by rw [q2.len];exact h4),show List.map FV.av l=_ from r2]
 ·rename_i n v
  obtain⟨h1,hk⟩:=aF hk
  have h1:=Nat.eq_of_beq_eq_true h1
  obtain⟨l,r1,r2,r3,r4⟩:=vS n v hk
  refine⟨n,l,?_,r1,r4⟩
  rw [FV.uy]
  simp only [h_]
  rw [if_pos h1,eY,r2];rfl
 ·cases hk
end
noncomputable def appO (e z b n m:Nat)(ys:List FV)(o off g:Nat)(s:GS)(K:KS)(ro:Bool)(e' n' m':Nat)(d:List FV)(t:Tr FV):Bool:=
 bC ro false (bC (Nat.beq e' e) (bC (Nat.ble (Nat.add off (Nat.mul n z)) n') (bC (Nat.ble (Nat.mul (Nat.add n m) b) (nat_lit 140737488355328)) (fN (Nat.add n m) fun nm=>fN (Nat.mul n z) fun q=>fN (Nat.mul nm z) fun nz=>
  bC (Nat.beq off (nat_lit 0))
   (o7 ys t q fun t'=>s.put o (.cells (Nat.succ g) false e nz m' d t') fun s'=>K (.sl o (Nat.succ g) (nat_lit 0) nm z) s')
   (DN m' d t q off fun l=>o7 l .lf (nat_lit 0) fun t'=>o7 ys t' q fun t'=>s.put o (.cells (Nat.succ g) false e nz (nat_lit 1) [.n (nat_lit 1) (nat_lit 0)] t') fun s'=>K (.sl o (Nat.succ g) (nat_lit 0) nm z) s')) false) false) false)
noncomputable def appTo (e z b:Nat)(x:FV)(m:Nat)(ys:List FV)(s:GS)(K:KS):Bool:=match x with
 | .n t _=>bC (Nat.beq t (nat_lit 3)) (bC (Nat.ble (Nat.mul m b) (nat_lit 140737488355328)) (newT e ys s fun o s'=>K (.sl o (nat_lit 0) (nat_lit 0) m z) s') false) false
 | .sl o g off n z'=>bC (Nat.beq z' z) (xk (s.t.get o) g fun ro e' n' m' d t=>appO e z b n m ys o off g s K ro e' n' m' d t) false
 | _=>false
noncomputable def isSl:FV→Bool:=FV.rec (motive_1:=fun _=>Bool) (motive_2:=fun _=>PUnit) (fun t _=>Nat.beq t (nat_lit 3)) (fun _ _ _=>false) (fun _ _ _ _ _=>true) (fun _ _=>false) (fun _ _ _ _=>false) ⟨⟩ (fun _ _ _ _=>⟨⟩)
noncomputable def DU (e z b:Nat)(x y:FV)(s:GS)(K:KS):Bool:=Xb z y s fun m ys=>bC (Nat.beq m (nat_lit 0)) (bC (isSl x) (K x s) false) (bC (Nat.beq ys.length (Nat.mul m z)) (appTo e z b x m ys s K) false)
theorem dB.more {n m:Nat} {d:List FV} {t:Tr FV} {cs:List AV} (h:dB n m d t cs) {q:Nat} (hq:q≤n) {ys:List FV} {K:Tr FV→Bool} (hk:o7 ys t q K=true):∃t',K t'= true∧dB (q+ys.length) m d t' (cs.take q ++ ys.map FV.av)∧(ys.map FV.av).all AV.one=true:=by
 have main:∀(ys:List FV) (t:Tr FV) (q:Nat) (K:Tr FV→Bool),o7 ys t q K=true→∃t',K t'= true∧(ys.map FV.av).all AV.one=true∧(∀i,i<q→o9 m d t' i=o9 m d t i)∧∀i,i<ys.length→ys[i]? =some (o9 m d t' (q+i))∧uH (o9 m d t' (q+i))=true:=by
  intro ys
  induction ys with
  | nil=>intro t q K hk;exact⟨t,hk,rfl,fun _ _=>rfl,fun i hi=>by simp at hi⟩
  | cons y ys ih=>
    intro t q K hk
    have hk':bC (uH y) (t.set q y fun t=>o7 ys t (q+1) K) false=true:=hk
    obtain⟨h0,hk'⟩:=aF hk'
    obtain⟨t1,h1,h2⟩:=Tr.rP hk'
    obtain⟨t2,q1,q2,q3,q4⟩:=ih t1 (q+1) K h1
    have hg:∀j,o9 m d t1 j=if j=q then y else o9 m d t j:=by
        intro j
        unfold o9
        rw [h2]
        by_cases hj:j=q
        ·rw [if_pos hj,if_pos hj]
        ·rw [if_neg hj,if_neg hj]
    refine⟨t2,q1,by simp only [List.map_cons,List.all_cons,(mV h0).1,q2,Bool.and_self],fun i hi=>?_,fun i hi=>?_⟩
    ·rw [q3 i (by omega),hg,if_neg (by omega)]
    ·cases i with
     | zero=>rw [Nat.add_zero,q3 q (by omega),hg,if_pos rfl];exact⟨rfl,h0⟩
     | succ i=>
       have:=q4 i (by simpa using hi)
       rw [show q+(i+1)=q+1+i by omega]
       exact this
 obtain⟨t',q1,q2,q3,q4⟩:=main ys t q K hk
 have hl:=h.len
 refine⟨t',q1,⟨by simp;omega,fun i hi=>?_,fun i hi=>?_⟩,q2⟩
 ·by_cases hiq:i<q
  ·rw [List.getElem?_append_left (by simp;omega),List.getElem?_take,if_pos hiq,q3 i hiq]
   exact h.at_ i (by omega)
  ·rw [List.getElem?_append_right (by simp;omega)]
   have e:i - (cs.take q).length=i - q:=by simp;omega
   rw [e,List.getElem?_map,(q4 (i - q) (by omega)).1,show q+(i - q)=i by omega];rfl
 ·by_cases hiq:i<q
  ·rw [q3 i hiq];exact h.one i (by omega)
  ·have:=(q4 (i - q) (by omega)).2
   rw [show q+(i - q)=i by omega] at this;exact this
section
variable {s:GS} {σ:St} (h:s.Is σ)
include h
theorem Xc {E:AT} {e n m:Nat} {ys:List FV} {o off g:Nat} {K:KS} {ro:Bool} {e' n' m':Nat} {d:List FV} {t:Tr FV} {cs:List AV} (hm:ys.length=m*E.size)(ho:σ[o]? =some ⟨g,ro,.cells e' cs⟩)(hc:dB n' m' d t cs)(hk:appO e E.size E.bytes n m ys o off g s K ro e' n' m' d t=true) :
 ro=false∧e'= e∧off+n*E.size≤cs.length∧(n+m)*E.bytes≤140737488355328∧((cs.drop off).take (n*E.size)).all AV.one=true∧(ys.map FV.av).all AV.one=true∧
  ∃ s',s'.Is (σ.set o ⟨g+1,false,.cells e (((cs.drop off).take (n*E.size)) ++ ys.map FV.av)⟩)∧K (.sl o (g+1) 0 (n+m) E.size) s'= true:=by
 unfold appO at hk
 cases ro with
 | true=>cases hk
 | false=>
   rw [iU] at hk
   obtain⟨k1',hk1⟩:=aF hk
   obtain⟨k2',hk2⟩:=aF hk1
   obtain⟨k3',hf⟩:=aF hk2
   have k1:=Nat.eq_of_beq_eq_true k1'
   have k2:off+n*E.size≤n':=Nat.le_of_ble_eq_true k2'
   have k3:(n+m)*E.bytes≤140737488355328:=Nat.le_of_ble_eq_true k3'
   clear hk hk1 hk2 k1' k2' k3'
   rw [jM,jM,jM] at hf
   have hnz:Nat.mul (Nat.add n m) E.size=n*E.size+ys.length:=by rw [hm];exact Nat.add_mul n m E.size
   refine⟨rfl,k1,by rw [hc.len];exact k2,k3,?_⟩
   cases h0:Nat.beq off (nat_lit 0) with
   | true=>
     rw [h0,jr] at hf
     have h0':off=0:=Nat.eq_of_beq_eq_true h0
     clear h0
     subst h0'
     obtain⟨t',q1,q2,q3⟩:=hc.more (q:=n*E.size) (by omega) hf
     rw [hnz] at q1
     obtain⟨s',r1,r2⟩:=GS.lT h (uJ ho) (f:=.cells (g+1) false e (n*E.size+ys.length) m' d t') (a:=⟨g+1,false,.cells e (cs.take (n*E.size) ++ ys.map FV.av)⟩) ⟨_,rfl,q2⟩ q1
     rw [List.drop_zero]
     refine⟨?_,q3,s',r2,r1⟩
     rw [List.all_eq_true]
     intro x hx
     obtain⟨i,hi⟩:=List.getElem?_of_mem hx
     rw [List.getElem?_take] at hi
     split at hi
     ·rename_i hlt
      rw [hc.at_ i (by omega)] at hi
      cases hi
      exact(mV (hc.one i (by omega))).1
     ·cases hi
   | false=>
     rw [h0,iU] at hf
     obtain⟨l,q1,q2,q3⟩:=qJ hc _ off k2 hf
     have hll:l.length=n*E.size:=by
        have e1:=congrArg List.length q2
        have:=hc.len
        simp only [List.length_map,List.length_take,List.length_drop] at e1
        omega
     have hb:=dB.rep (d:=[.n 1 0]) rfl (n*E.size)
     rw [show n*E.size*[FV.n 1 0].length=n*E.size by simp,show [FV.n 1 0].length=1 from rfl] at hb
     obtain⟨t1,r1,r2,r3⟩:=nX l hb (off:=0) (by omega) q1
     have e1:setCells (iG ([FV.n 1 0].map FV.av) (n*E.size)) 0 (l.map FV.av)=l.map FV.av:=by
        have:=jY (l.map FV.av) [] (iG ([FV.n 1 0].map FV.av) (n*E.size)) (by rw [fU];simp [hll])
        simpa using this
     rw [e1] at r2
     obtain⟨t',w1,w2,w3⟩:=r2.more (q:=n*E.size) (Nat.le_refl _) r1
     rw [hnz] at w1
     rw [List.take_of_length_le (by rw [List.length_map,hll];exact Nat.le_refl _),q2] at w2
     obtain⟨s',v1,v2⟩:=GS.lT h (uJ ho) (f:=.cells (g+1) false e (n*E.size+ys.length) 1 [.n 1 0] t') (a:=⟨g+1,false,.cells e ((cs.drop off).take (n*E.size) ++ ys.map FV.av)⟩) ⟨_,rfl,w2⟩ w1
     refine⟨?_,w3,s',v2,v1⟩
     rw [q2] at r3;exact r3
omit h in
theorem Xd {x:FV} (hx:isSl x=true):x.av= .sl0∨∃o g off n z,x= .sl o g off n z:=by
 cases x with
 | n t x=>have hx:t=3:=Nat.eq_of_beq_eq_true hx;subst hx;exact .inl rfl
 | sl o g off n z=>exact .inr ⟨_,_,_,_,_,rfl⟩
 | _=>cases hx
theorem Xe {P:Program} {t e:Nat} {E:AT} {a1 a2 a3 a4 a5 a6} (hT:aA P t=some ⟨.slice e,a1,a2,a3,a4,a5,a6⟩)(hE:aA P e=some E)(h1:0<E.size)(h2:E.zero.cells.length=E.size)(h3:0<E.bytes) {x y:FV} {K:KS} (hk:DU e E.size E.bytes x y s K=true):Vf (G6 P t x.av y.av σ) K:=by
 unfold DU at hk
 obtain⟨m,ys,q1,hk0,hys⟩:=JX h hk
 clear hk
 have hk:=hk0;clear hk0
 unfold G6
 simp only [hT,hE]
 rw [if_pos ⟨h1,h2,h3⟩,q1]
 simp only [Option.bind_some]
 have hone:=qj ys hys
 cases h0:Nat.beq m (nat_lit 0) with
 | true=>
   rw [h0,jr] at hk
   rw [if_pos (Nat.eq_of_beq_eq_true h0)]
   obtain⟨k1,hk⟩:=aF hk
   rcases Xd k1 with hx | ⟨o,g,off,n,z,rfl⟩
   ·rw [hx];exact⟨x,σ,s,by rw [hx],h,hk⟩
   ·exact⟨_,σ,s,rfl,h,hk⟩
 | false=>
   rw [h0,iU] at hk
   rw [if_neg (Nat.ne_of_beq_eq_false h0),if_pos hone]
   obtain⟨hm0,hk2⟩:=aF hk
   have hm:ys.length=m*E.size:=Nat.eq_of_beq_eq_true hm0
   clear hk hm0
   unfold appTo at hk2
   split at hk2
   ·rename_i t1 x1
    obtain⟨k1,hk⟩:=aF hk2
    obtain⟨k2,hk⟩:=aF hk
    have k1':t1=3:=Nat.eq_of_beq_eq_true k1
    clear k1
    subst k1'
    obtain⟨s',r1,r2⟩:=DR h hk
    rw [show FV.av (.n 3 x1)= .sl0 from rfl]
    simp only
    rw [if_pos (show m*E.bytes≤140737488355328 from Nat.le_of_ble_eq_true k2)]
    exact⟨_,_,s',rfl,r2,r1⟩
   ·rename_i o g off n z'
    obtain⟨k1,hk⟩:=aF hk2
    have k1:=Nat.eq_of_beq_eq_true k1
    obtain⟨ro,e',n',m',d,t,cs,w1,w2,w3⟩:=jJ h hk
    obtain⟨rfl,rfl,r2,r3,r4,r5,s',r6,r7⟩:=Xc h hm w1 w2 w3
    rw [FV.qV]
    simp only [w1]
    rw [k1,if_pos (by refine⟨trivial,rfl,trivial,r2,r3,r4⟩)]
    exact⟨_,_,s',rfl,r6,r7⟩
   ·cases hk2
noncomputable def FP (z:Nat)(x y:FV)(s:GS)(K:KS):Bool:=match x with
 | .sl o g off n z'=>bC (Nat.beq z' z) (Xb z y s fun m ys=>xk (s.t.get o) g fun ro e n' m' d t=>bC ro false (bC (Nat.ble (Nat.add off (Nat.mul n z)) n') (bC (Nat.beq ys.length (Nat.mul m z)) (fN (Nat.sub m (Nat.sub m n)) fun q=>bC (Nat.ble q (nat_lit 9223372036854775807)) (o7 (ys.take (Nat.mul q z)) t off fun t'=>s.put o (.cells g false e n' m' d t') fun s'=>K (.n (nat_lit 36893488147419103233) q) s') false) false) false)) false
 | _=>false
theorem Qb {P:Program} {t e:Nat} {E:AT} {a1 a2 a3 a4 a5 a6} (hT:aA P t=some ⟨.slice e,a1,a2,a3,a4,a5,a6⟩)(hE:aA P e=some E) {x y:FV} {K:KS} (hk:FP E.size x y s K=true):Vf (Ba P t x.av y.av σ) K:=by
 unfold FP at hk
 split at hk
 ·rename_i o g off n z'
  obtain⟨k1,hk1⟩:=aF hk
  have k1':=Nat.eq_of_beq_eq_true k1
  clear k1 hk
  subst k1'
  obtain⟨m,ys,q1,hk,hys⟩:=JX h hk1
  clear hk1
  obtain⟨ro,e',n',m',d,t',cs,w1,w2,hk⟩:=jJ h hk
  cases ro with
  | true=>cases hk
  | false=>
    rw [iU] at hk
    obtain⟨k2,hk⟩:=aF hk
    obtain⟨k3,hk⟩:=aF hk
    rw [jM] at hk
    have k2:off+n*E.size≤n':=Nat.le_of_ble_eq_true k2
    have k3:ys.length=m*E.size:=Nat.eq_of_beq_eq_true k3
    have hq:Nat.sub m (Nat.sub m n)=min m n:=by show m - (m - n)=_;omega
    rw [hq] at hk
    obtain⟨k4,hk⟩:=aF hk
    have k4:min m n≤9223372036854775807:=Nat.le_of_ble_eq_true k4
    have hmul:min m n*E.size≤n*E.size:=Nat.mul_le_mul_right _ (Nat.min_le_right m n)
    have hlen:(ys.take (Nat.mul (min m n) E.size)).length≤n*E.size:=by
        rw [List.length_take]
        have e1:Nat.mul (min m n) E.size=min m n*E.size:=rfl
        omega
    obtain⟨t2,r1,r2,r3⟩:=nX _ w2 (by omega) hk
    obtain⟨s',v1,v2⟩:=GS.lT h (uJ w1) (f:=.cells g false e' n' m' d t2) (a:=⟨g,false,.cells e' (setCells cs off ((ys.take (Nat.mul (min m n) E.size)).map FV.av))⟩) ⟨_,rfl,r2⟩ r1
    rw [FV.qV]
    unfold Ba
    simp only [hT,hE]
    rw [if_pos trivial,q1]
    simp only [Option.bind_some,w1]
    rw [if_pos (by refine⟨trivial,by rw [w2.len];exact k2,qj ys hys⟩)]
    refine⟨_,_,s',?_,v2,v1⟩
    rw [gB k4,List.map_take]
    have e2:((min m n:Nat):Int)=min (m:Int) (n:Int):=by omega
    rw [e2];rfl
 ·cases hk
end
end Go.cO
