/- Texts of this claim, joined: Abs30, Abs40, Abs41, Abs42, Abs43, Abs44, Abs45. -/
import Derived.Test.YthggaoedidfpcaaGreatDoorM02
import Derived.Test.YthggaoedidfpcaaGreatDoorM08
set_option linter.unusedVariables false
set_option linter.unusedSimpArgs false
namespace Go.dX
def mJ (X:Ctx):Nat→gW
 | 0,_,_,_=>none
 | n+1,f,args,σ=>
   match X.lg f with
   | some g=>(g args σ).map fun r=>(false,r)
   | none=>match X.fns f with
     | some F=>if args.length≤F.nt then aBody X (mJ X n) n F args σ else none
     | none=>none
def bFn (X:Ctx)(n:Nat):Run:=nrm (mJ X n)
theorem Jw (X:Ctx):∀n,(mJ X n).le (mJ X (n+1))
 | 0=>fun _ _ _ _ hx=>by simp [mJ] at hx
 | n+1=>fun f args σ x hx=>by
   rw [mJ] at hx ⊢
   cases hp:X.lg f with
   | some g=>rw [hp] at hx;exact hx
   | none=>
     rw [hp] at hx
     simp only at hx ⊢
     cases hf:X.fns f with
     | none=>rw [hf] at hx;simp at hx
     | some F=>
       rw [hf] at hx
       simp only at hx ⊢
       split at hx
       ·rename_i hl
        rw [if_pos hl]
        exact Iw (Jw X n) (Nat.le_succ n) hx
       ·simp at hx
theorem pG (X:Ctx) {n m:Nat} (h:n≤m):(mJ X n).le (mJ X m):=by
 induction h with
 | refl=>exact fun _ _ _ _ h=>h
 | step _ ih=>exact fun f args σ x hx=>Jw X _ _ _ _ _ (ih _ _ _ _ hx)
theorem yK (X:Ctx) {n m:Nat} (h:n≤m):(bFn X n).le (bFn X m):=Bd (pG X h)
theorem UZ {X:Ctx} {G:Nat} (hX:X.Sound G):∀n,gY X.P G (mJ X n)∧Gj X G (bFn X n)
 | 0=>⟨(by intro f args σ b r σ' h;cases h),(by intro f _ args σ r σ' h;cases h)⟩
 | n+1=>by
   obtain⟨ih,RS⟩:=UZ hX n
   constructor
   ·intro f args σ b r σ' h
    simp only [mJ] at h
    split at h
    ·rename_i g hg
     rw [Option.map_eq_some_iff] at h
     obtain⟨y,h,hy⟩:=h
     cases hy
     exact hX.ok.lg f g hg _ _ _ _ h
    ·rename_i hp
     split at h
     ·rename_i F hF
      intro μ w bg hs hr
      split at h
      ·rename_i hlen
       obtain⟨he,hc⟩:=NI hX.ok hX.draws (hX.fns f F hp hF) ih RS hlen h hs hr
       exact .inl ⟨he bg w,hc⟩
      ·cases h
     ·cases h
   ·intro f hdk args σ r σ' h
    obtain⟨hp,hokf⟩:=hX.dks f hdk
    have h:=iG.1 h
    simp only [mJ,hp] at h
    split at h
    ·rename_i F hF
     intro μ w bg hs hr
     split at h
     ·rename_i hlen
      exact Jc hX.ok hX.draws (hokf F hF) ih hlen h hs hr
     ·cases h
    ·cases h
theorem q_ok {X:Ctx} {G:Nat} (hX:X.Sound G)(n:Nat):gY X.P G (mJ X n):=(UZ hX n).1
theorem b_ok {X:Ctx} {G:Nat} (hX:X.Sound G)(n:Nat):nJ X.P G (bFn X n):=(q_ok hX n).nrm
noncomputable def fN (n:Nat)(K:Nat→Bool):Bool:=Nat.rec (K (nat_lit 0)) (fun m _=>K (Nat.succ m)) n
theorem kT (n:Nat)(K:Nat→Bool):fN n K=K n:=by cases n <;> rfl
noncomputable def fSp {α:Type} (l:List α):(List α→Bool)→Bool:=List.rec (fun K=>K []) (fun a _ ih K=>ih fun t=>K (a :: t)) l
theorem vS {α:Type} (l:List α)(K:List α→Bool):fSp l K=K l:=by
 induction l generalizing K with
 | nil=>rfl
 | cons a l ih=>exact ih _
inductive Tr (α:Type) where
 | lf
 | nd (v:Option α) (l r:Tr α)
section
variable {α:Type}
noncomputable def Tr.pick (v:Option α)(gl gr:Nat→Option α)(k:Nat):Option α:=Nat.rec (motive:=fun _=>Option α) v (fun k _=>Bool.rec (motive:=fun _=>Option α) (gr (Nat.div k (nat_lit 2))) (gl (Nat.div k (nat_lit 2))) (Nat.beq (Nat.mod k (nat_lit 2)) (nat_lit 0))) k
noncomputable def Tr.get:Tr α→Nat→Option α:=Tr.rec (fun _=>none) (fun v _ _ gl gr=>Tr.pick v gl gr)
abbrev TK (α:Type):=Tr α→Nat→α→(Tr α→Bool)→Bool
def Tr.kl (v:Option α)(r:Tr α)(K:Tr α→Bool)(l:Tr α):Bool:=K (.nd v l r)
def Tr.kr (v:Option α)(l:Tr α)(K:Tr α→Bool)(r:Tr α):Bool:=K (.nd v l r)
noncomputable def Tr.go (ih:TK α)(x:α)(K:Tr α→Bool)(v:Option α)(l r:Tr α)(k:Nat):Bool:=
 Bool.rec (ih r (Nat.div k (nat_lit 2)) x (kr v l K)) (ih l (Nat.div k (nat_lit 2)) x (kl v r K)) (Nat.beq (Nat.mod k (nat_lit 2)) (nat_lit 0))
noncomputable def Tr.at' (ih:TK α)(k:Nat)(x:α)(K:Tr α→Bool)(v:Option α)(l r:Tr α):Bool:=Nat.rec (K (.nd (some x) l r)) (fun k _=>Tr.go ih x K v l r k) k
noncomputable def Tr.st (ih:TK α)(t:Tr α)(k:Nat)(x:α)(K:Tr α→Bool):Bool:=Tr.rec (at' ih k x K none .lf .lf) (fun v l r _ _=>at' ih k x K v l r) t
noncomputable def Tr.set' (n:Nat):TK α:=Nat.rec (fun _ _ _ _=>false) (fun _ ih=>Tr.st ih) n
noncomputable def Tr.set:TK α:=Tr.set' (nat_lit 60)
theorem Tr.get_lf (k:Nat):(Tr.lf:Tr α).get k=none:=rfl
theorem Tr.nY (v:Option α)(l r:Tr α)(k:Nat):(Tr.nd v l r).get (k+1)=if k%2=0 then l.get (k / 2) else r.get (k / 2):=by
 show Bool.rec (motive:=fun _=>Option α) (r.get (k / 2)) (l.get (k / 2)) (Nat.beq (k%2) 0)=_
 cases h:Nat.beq (k%2) 0 with
 | true=>rw [if_pos (Nat.eq_of_beq_eq_true h)]
 | false=>rw [if_neg (Nat.ne_of_beq_eq_false h)]
theorem Tr.GY:∀(n:Nat) (t:Tr α) (k:Nat) (x:α) (K:Tr α→Bool),Tr.set' n t k x K=true→∃t',K t'= true∧∀j,t'.get j=if j=k then some x else t.get j
 | 0,_,_,_,_,h=>by cases h
 | n+1,t,k,x,K,h=>by
   have main:∀(v:Option α) (l r:Tr α),(∀j,(Tr.nd v l r).get j=t.get j)→Tr.at' (Tr.set' n) k x K v l r=true→∃t',K t'= true∧∀j,t'.get j=if j=k then some x else t.get j:=by
    intro v l r hg h
    cases k with
    | zero=>
      refine⟨_,h,fun j=>?_⟩
      cases j with
      | zero=>rfl
      | succ j=>rw [if_neg (by omega),←hg,Tr.nY,Tr.nY]
    | succ k=>
      have h':Bool.rec (Tr.set' n r (k / 2) x (Tr.kr v l K)) (Tr.set' n l (k / 2) x (Tr.kl v r K)) (Nat.beq (k%2) 0)=true:=h
      cases hb:Nat.beq (k%2) 0 with
      | true=>
        rw [hb] at h'
        obtain⟨t',h1,h2⟩:=Tr.GY n _ _ _ _ h'
        have hk:=Nat.eq_of_beq_eq_true hb
        refine⟨_,h1,fun j=>?_⟩
        cases j with
        | zero=>rw [if_neg (by omega),←hg];rfl
        | succ j=>
          rw [←hg,Tr.nY,Tr.nY,h2]
          by_cases hj:j%2=0
          ·rw [if_pos hj,if_pos hj]
           by_cases he:j=k
           ·subst he;rw [if_pos rfl,if_pos rfl]
           ·rw [if_neg (by omega),if_neg (by omega)]
          ·rw [if_neg hj,if_neg hj,if_neg (by omega)]
      | false=>
        rw [hb] at h'
        obtain⟨t',h1,h2⟩:=Tr.GY n _ _ _ _ h'
        have hk:=Nat.ne_of_beq_eq_false hb
        refine⟨_,h1,fun j=>?_⟩
        cases j with
        | zero=>rw [if_neg (by omega),←hg];rfl
        | succ j=>
          rw [←hg,Tr.nY,Tr.nY,h2]
          by_cases hj:j%2=0
          ·rw [if_pos hj,if_pos hj,if_neg (by omega)]
          ·rw [if_neg hj,if_neg hj]
           by_cases he:j=k
           ·subst he;rw [if_pos rfl,if_pos rfl]
           ·rw [if_neg (by omega),if_neg (by omega)]
   cases t with
   | lf=>
     refine main none .lf .lf (fun j=>?_) h
     cases j with
     | zero=>rfl
     | succ j=>rw [Tr.nY];simp [Tr.get_lf]
   | nd v l r=>exact main v l r (fun _=>rfl) h
theorem Tr.vT {t:Tr α} {k:Nat} {x:α} {K:Tr α→Bool} (h:Tr.set t k x K=true):∃t',K t'= true∧∀j,t'.get j=if j=k then some x else t.get j:=Tr.GY _ t k x K h
end
structure FA where
 n:Nat
 d:List AV
 t:Tr AV
noncomputable def nthD (d:List AV):Nat→AV:=List.rec (fun _=>.u) (fun a _ ih k=>Nat.rec a (fun k _=>ih k) k) d
theorem NW:∀(d:List AV) (k:Nat) (a:AV),d[k]? =some a→nthD d k=a
 | [],k,a,h=>by simp at h
 | x :: d,0,a,h=>by simp at h;exact h
 | x :: d,k+1,a,h=>NW d k a (by simpa using h)
noncomputable def FA.get (a:FA)(i:Nat):AV:=Option.rec (nthD a.d (Nat.mod i a.d.length)) (fun v=>v) (a.t.get i)
def FA.Is (a:FA)(cs:List AV):Prop:=cs.length=a.n∧∀i,i<a.n→cs[i]? =some (a.get i)
def FA.of (l:List AV):FA:=⟨l.length,l,.lf⟩
theorem FA.U0 (l:List AV):(FA.of l).Is l:=by
 refine⟨rfl,fun i hi=>?_⟩
 have hi':i<l.length:=hi
 show l[i]? =some (nthD l (i%l.length))
 rw [Nat.mod_eq_of_lt hi',NW l i l[i] (List.getElem?_eq_getElem hi')]
 exact List.getElem?_eq_getElem hi'
theorem NY (z:List AV)(hz:0<z.length):∀(n i:Nat),i<n*z.length→(dN z n)[i]? =z[i%z.length]?
 | 0,i,h=>by simp at h
 | n+1,i,h=>by
   simp only [dN]
   by_cases hi:i<z.length
   ·rw [List.getElem?_append_left hi,Nat.mod_eq_of_lt hi]
   ·rw [List.getElem?_append_right (by omega),NY z hz n (i - z.length) (by rw [Nat.succ_mul] at h;omega)]
    congr 1
    conv=>rhs;rw [show i=(i - z.length)+z.length by omega]
    rw [Nat.add_mod_right]
def FA.rep (z:List AV)(n:Nat):FA:=⟨n*z.length,z,.lf⟩
noncomputable def FA.rng (a:FA)(len:Nat):Nat→List AV:=Nat.rec (fun _=>[]) (fun _ ih off=>a.get off :: ih (Nat.succ off)) len
noncomputable def FA.put (a:FA)(i:Nat)(v:AV)(K:FA→Bool):Bool:=a.t.set i v fun t=>K ⟨a.n,a.d,t⟩
theorem FA.nZ {a:FA} {cs:List AV} (h:a.Is cs) {i:Nat} {v:AV} {K:FA→Bool} (hi:i<a.n)(hk:a.put i v K=true):∃a',K a'= true∧a'.n=a.n∧a'.Is (cs.set i v):=by
 obtain⟨t',h1,h2⟩:=Tr.vT hk
 refine⟨_,h1,rfl,by rw [List.length_set];exact h.1,fun j hj=>?_⟩
 have hg:∀j,FA.get ⟨a.n,a.d,t'⟩ j=if j=i then v else a.get j:=by
  intro j
  simp only [FA.get,h2]
  by_cases hj:j=i
  ·rw [if_pos hj,if_pos hj]
  ·rw [if_neg hj,if_neg hj]
 rw [hg,List.getElem?_set]
 have:=h.1
 by_cases hji:i=j
 ·subst hji
  rw [if_pos rfl,if_pos rfl,if_pos (by omega)]
 ·rw [if_neg hji,if_neg (fun e=>hji e.symm)]
  exact h.2 j hj
noncomputable def FA.puts (ys:List AV):FA→Nat→(FA→Bool)→Bool:=List.rec (fun a _ K=>K a) (fun y _ ih a off K=>a.put off y fun a=>ih a (Nat.succ off) K) ys
noncomputable def FA.app (a:FA)(m:Nat)(ys:List AV)(K:FA→Bool):Bool:=fN (Nat.add m ys.length) fun n=>FA.puts ys ⟨n,a.d,a.t⟩ m K
theorem lW:∀(ys cs zs:List AV),zs.length=ys.length→setCells (cs ++ zs) cs.length ys=cs ++ ys
 | [],cs,zs,h=>by
   have:zs=[]:=List.eq_nil_of_length_eq_zero h
   subst this;rfl
 | y :: ys,cs,[],h=>by simp at h
 | y :: ys,cs,z :: zs,h=>by
   simp only [setCells]
   rw [List.set_append_right _ _ (Nat.le_refl _),Nat.sub_self,List.set_cons_zero]
   have:=lW ys (cs ++ [y]) zs (by simpa using h)
   simp only [List.append_assoc,List.singleton_append,List.length_append,List.length_singleton] at this
   exact this
inductive FK where
 | cells (e:Nat) (a:FA)
 | iter (s:List UInt8) (pos:Nat)
 | maps (es:List (AV×AV))
 | dead
structure FO where
 g:Nat
 ro:Bool
 k:FK
structure FS where
 n:Nat
 t:Tr FO
def FK.Is:FK→AK→Prop
 | .cells e a,.cells e' cs=>e=e'∧a.Is cs
 | .iter s p,.iter s' p'=>s=s'∧p=p'
 | .maps m,.maps m'=>m=m'
 | .dead,.dead=>True
 | .dead,.wo _ _=>True
 | _,_=>False
def FO.Is (f:FO)(a:AO):Prop:=f.g=a.g∧f.ro=a.ro∧f.k.Is a.k
def FS.Is (s:FS)(σ:St):Prop:=σ.length=s.n∧∀o f,s.t.get o=some f→∃a,σ[o]? =some a∧f.Is a
noncomputable def FS.new (s:FS)(f:FO)(K:FS→Bool):Bool:=s.t.set s.n f fun t=>fN (Nat.succ s.n) fun n=>K ⟨n,t⟩
theorem FS.tC {s:FS} {σ:St} (h:s.Is σ) {f:FO} {a:AO} (hf:f.Is a) {K:FS→Bool} (hk:s.new f K=true):∃s',K s'= true∧s'.Is (σ ++ [a]):=by
 obtain⟨t',h1,h2⟩:=Tr.vT hk
 rw [kT] at h1
 have hl:=h.1
 refine⟨_,h1,by simp [hl],fun o f' ho=>?_⟩
 have ho':t'.get o=some f':=ho
 rw [h2] at ho'
 by_cases he:o=s.n
 ·rw [if_pos he] at ho';cases ho'
  subst he
  exact⟨a,by rw [←hl];simp,hf⟩
 ·rw [if_neg he] at ho'
  obtain⟨a',q1,q2⟩:=h.2 o f' ho'
  have:=(List.getElem?_eq_some_iff.1 q1).1
  exact⟨a',by rw [List.getElem?_append_left this];exact q1,q2⟩
noncomputable def FS.put (s:FS)(o:Nat)(f:FO)(K:FS→Bool):Bool:=s.t.set o f fun t=>K ⟨s.n,t⟩
theorem FS.nZ {s:FS} {σ:St} (h:s.Is σ) {o:Nat} (ho:o<σ.length) {f:FO} {a:AO} (hf:f.Is a) {K:FS→Bool} (hk:s.put o f K=true):∃s',K s'= true∧s'.Is (σ.set o a):=by
 obtain⟨t',h1,h2⟩:=Tr.vT hk
 have hl:=h.1
 refine⟨_,h1,by simp [hl],fun j f' hj=>?_⟩
 have hj':t'.get j=some f':=hj
 rw [h2] at hj'
 rw [List.getElem?_set]
 by_cases he:j=o
 ·rw [if_pos he] at hj';cases hj'
  subst he
  exact⟨a,by rw [if_pos rfl,if_pos ho],hf⟩
 ·rw [if_neg he] at hj'
  rw [if_neg (fun e=>he e.symm)]
  exact h.2 j f' hj'
theorem FS.cells_at {s:FS} {σ:St} (h:s.Is σ) {o g e:Nat} {ro:Bool} {a:FA} (ho:s.t.get o=some ⟨g,ro,.cells e a⟩):∃cs,σ[o]? =some ⟨g,ro,.cells e cs⟩∧a.Is cs:=by
 obtain⟨⟨g',ro',k'⟩,h1,h2,h3,h4⟩:=h.2 _ _ ho
 simp only at h2 h3 h4
 subst h2;subst h3
 cases k' with
 | cells e' cs=>obtain⟨rfl,h5⟩:=h4;exact⟨cs,h1,h5⟩
 | iter _ _=>exact h4.elim
 | maps _=>exact h4.elim
 | dead=>exact h4.elim
 | wo _ _=>exact h4.elim
noncomputable def FK.of:AK→FK
 | .cells e cs=>.cells e (.of cs)
 | .iter s p=>.iter s p
 | .maps m=>.maps m
 | .dead=>.dead
 | .wo _ _=>.dead
theorem FK.U0 (k:AK):(FK.of k).Is k:=by
 cases k with
 | cells e cs=>exact⟨rfl,FA.U0 cs⟩
 | iter _ _=>exact⟨rfl,rfl⟩
 | maps _=>exact rfl
 | dead=>trivial
 | wo _ _=>trivial
noncomputable def FS.lay (σ:St):FS→(FS→Bool)→Bool:=List.rec (fun s K=>K s) (fun a _ ih s K=>s.new ⟨a.g,a.ro,FK.of a.k⟩ fun s=>ih s K) σ
theorem FS.GZ:∀(σ:St) {s:FS} {iZ:St} (_:s.Is iZ) {K:FS→Bool} (_:FS.lay σ s K=true),∃s',K s'= true∧s'.Is (iZ ++ σ)
 | [],s,iZ,h,K,hk=>⟨s,hk,by simpa using h⟩
 | a :: σ,s,iZ,h,K,hk=>by
   have hk':s.new ⟨a.g,a.ro,FK.of a.k⟩ (fun s=>FS.lay σ s K)=true:=hk
   obtain⟨s1,h1,h2⟩:=FS.tC h (a:=a) ⟨rfl,rfl,FK.U0 a.k⟩ hk'
   obtain⟨s2,q1,q2⟩:=FS.GZ σ h2 h1
   exact⟨s2,q1,by simpa using q2⟩
def FS.nil:FS:=⟨0,.lf⟩
theorem FS.U1:FS.nil.Is []:=⟨rfl,fun o f h=>by cases h⟩
end Go.dX
namespace Go.dX
inductive FV where
 | n (t x:Nat)
 | p (o g off:Nat)
 | sl (o g off n z:Nat)
 | s (n v:Nat)
 | c (t a:Nat) (l:List FV)
 deriving Inhabited
def tg:IntKind→Nat
 | .i8=>513 | .i16=>131073 | .i32=>8589934593 | .i64=>36893488147419103233
 | .u8=>512 | .u16=>131072 | .u32=>8589934592 | .u64=>36893488147419103232
def kOf (t:Nat):Option IntKind:=
 if t=36893488147419103233 then some .i64 else if t=512 then some .u8 else if t=8589934592 then some .u32 else if t=36893488147419103232 then some .u64 else
 if t=8589934593 then some .i32 else if t=131072 then some .u16 else if t=513 then some .i8 else if t=131073 then some .i16 else none
theorem kOf_tg (k:IntKind):kOf (tg k)=some k:=by cases k <;> rfl
theorem CQ {t:Nat} {k:IntKind} (h:kOf t=some k):t=tg k:=by
 unfold kOf at h
 repeat' split at h
 all_goals first | (cases h;assumption) | cases h
noncomputable def g_ (n:Nat):Nat→List UInt8:=Nat.rec (motive:=fun _=>Nat→List UInt8) (fun _=>[]) (fun _ ih v=>UInt8.ofNat (Nat.mod v (nat_lit 256)) :: ih (Nat.div v (nat_lit 256))) n
theorem yL (v:Nat):g_ 0 v=[]:=rfl
theorem fJ (n v:Nat):g_ (n+1) v=UInt8.ofNat (v%256) :: g_ n (v / 256):=rfl
theorem gK:∀n v,(g_ n v).length=n
 | 0,_=>rfl
 | n+1,v=>by rw [fJ,List.length_cons,gK n]
def mM (t x:Nat):AV:=match kOf t with
 | some k=>.i k (k.wrap x)
 | none=>if t=1 then .b (!Nat.beq x 0) else if t=2 then .p0 else if t=3 then .sl0 else if t=4 then .fn0 else if t=5 then .fK else if t=0 then .u else .kK
def hdA:List AV→AV
 | []=>.u
 | a :: _=>a
def NZ (l:List AV)(i:Nat):List AV:=match l[i]? with
 | some (.ag x)=>x
 | _=>[]
def comp (t a:Nat)(l:List AV):AV:=
 if t=0 then .ag l else if t=1 then .tu l else if t=2 then .ic a (hdA l) else if t=3 then .fn (.func a) (NZ l 0) (NZ l 1) else if t=4 then .cd (!Nat.beq a 0) (hdA l) else if t=5 then .mp a 0 else .fK
noncomputable def FV.av:FV→AV:=FV.rec (motive_1:=fun _=>AV) (motive_2:=fun _=>List AV) mM .p .sl (fun n v=>.s (g_ n v)) (fun t a _ ih=>comp t a ih) [] (fun _ _ a l=>a :: l)
noncomputable def FV.Qj:List FV→List AV:=FV.rec_1 (motive_1:=fun _=>AV) (motive_2:=fun _=>List AV) mM .p .sl (fun n v=>.s (g_ n v)) (fun t a _ ih=>comp t a ih) [] (fun _ _ a l=>a :: l)
theorem FV.xu (t x:Nat):FV.av (.n t x)=mM t x:=rfl
theorem FV.CS (o g off:Nat):FV.av (.p o g off)= .p o g off:=rfl
theorem FV.xw (o g off n z:Nat):FV.av (.sl o g off n z)= .sl o g off n z:=rfl
theorem FV.yM (n v:Nat):FV.av (.s n v)= .s (g_ n v):=rfl
theorem FV.CU (t a:Nat)(l:List FV):FV.av (.c t a l)=comp t a (FV.Qj l):=rfl
theorem FV.tH:∀l:List FV,FV.Qj l=l.map FV.av
 | []=>rfl
 | x :: l=>by show x.av :: FV.Qj l=_;rw [FV.tH l];rfl
theorem jL (k:IntKind)(x:Nat):mM (tg k) x= .i k (k.wrap x):=by unfold mM;rw [kOf_tg]
theorem CV (x:Nat):mM 1 x= .b (!Nat.beq x 0):=rfl
theorem oP (a:Nat)(l:List FV):FV.av (.c 0 a l)= .ag (l.map FV.av):=by rw [FV.CU,FV.tH];rfl
theorem CW (a:Nat)(l:List FV):FV.av (.c 1 a l)= .tu (l.map FV.av):=by rw [FV.CU,FV.tH];rfl
theorem xA (a:Nat)(v:FV):FV.av (.c 2 a [v])= .ic a v.av:=rfl
theorem U2 (v:FV):FV.av (.c 4 1 [v])= .cd true v.av:=rfl
noncomputable def pk:List UInt8→Nat:=List.rec (motive:=fun _=>Nat) (nat_lit 0) (fun b _ ih=>Nat.add b.toNat (Nat.mul (nat_lit 256) ih))
theorem pk_cons (b:UInt8)(l:List UInt8):pk (b :: l)=b.toNat+256*pk l:=rfl
theorem N7:∀l:List UInt8,g_ l.length (pk l)=l
 | []=>rfl
 | b :: l=>by
   have hb:=b.toNat_lt
   rw [List.length_cons,fJ,pk_cons]
   have h1:(b.toNat+256*pk l)%256=b.toNat:=by omega
   have h2:(b.toNat+256*pk l) / 256=pk l:=by omega
   rw [h1,h2,N7 l]
   simp
theorem wrap_eq (k:IntKind)(n:Int):k.wrap (((n%2^k.bits).toNat:Nat):Int)=k.wrap n:=by
 have h:(0:Int)≤n%2^k.bits:=Int.emod_nonneg _ (by cases k <;> decide)
 unfold IntKind.wrap
 rw [Int.toNat_of_nonneg h,Int.emod_emod_of_dvd _ (Int.dvd_refl _)]
end Go.dX
namespace Go.dX
theorem kD (k:IntKind) {a b:Int} (h:a%2^k.bits=b%2^k.bits):k.wrap a=k.wrap b:=by
 unfold IntKind.wrap;rw [h]
theorem jA (k:IntKind)(a:Int):k.wrap a%2^k.bits=a%2^k.bits:=by
 unfold IntKind.wrap
 simp only
 split
 ·rw [Int.sub_emod,Int.emod_self,Int.sub_zero,Int.emod_emod_of_dvd _ (Int.dvd_refl _),Int.emod_emod_of_dvd _ (Int.dvd_refl _)]
 ·rw [Int.emod_emod_of_dvd _ (Int.dvd_refl _)]
theorem U3 (k:IntKind)(a:Int):k.wrap (a%2^k.bits)=k.wrap a:=kD k (Int.emod_emod_of_dvd _ (Int.dvd_refl _))
theorem wrap_add (k:IntKind)(a b:Int):k.wrap (k.wrap a+k.wrap b)=k.wrap (a+b):=kD k (by rw [Int.add_emod,jA,jA,←Int.add_emod])
theorem U4 (k:IntKind)(a b:Int):k.wrap (k.wrap a - k.wrap b)=k.wrap (a - b):=kD k (by rw [Int.sub_emod,jA,jA,←Int.sub_emod])
theorem wrap_mul (k:IntKind)(a b:Int):k.wrap (k.wrap a*k.wrap b)=k.wrap (a*b):=kD k (by rw [Int.mul_emod,jA,jA,←Int.mul_emod])
theorem tg_div (k:IntKind):tg k / 2=2^k.bits:=by cases k <;> rfl
theorem tg_mod (k:IntKind):tg k%2=if k.signed then 1 else 0:=by cases k <;> rfl
theorem N8 (k:IntKind):tg k / 4=2^(k.bits - 1):=by cases k <;> rfl
theorem n_ (k:IntKind):((2^k.bits:Nat):Int)=2^k.bits:=by cases k <;> rfl
theorem l7 (k:IntKind)(a:Nat):k.wrap ((a%(2^k.bits):Nat):Int)=k.wrap a:=by
 rw [Int.natCast_emod,n_,U3]
theorem wrap_small (k:IntKind) {a:Nat} (h:a<(if k.signed then 2^(k.bits - 1) else 2^k.bits)):k.wrap a=a:=by
 cases k <;> simp only [IntKind.wrap,IntKind.signed,IntKind.bits,if_true,if_false,Bool.false_eq_true,Bool.true_and,Bool.false_and] at h ⊢ <;> (try split) <;> first | omega | (simp at *;omega)
noncomputable def ky (t a:Nat):Nat:=Nat.mod (Nat.add a (Nat.mul (Nat.mod t (nat_lit 2)) (Nat.div t (nat_lit 4)))) (Nat.div t (nat_lit 2))
theorem ky_eq (t a:Nat):ky t a=(a+(t%2)*(t / 4))%(t / 2):=rfl
theorem Aq (k:IntKind)(a:Nat):k.wrap a=(ky (tg k) a:Int) - (if k.signed then 2^(k.bits - 1) else 0):=by
 rw [ky_eq,tg_div,tg_mod,N8]
 cases k <;> simp only [IntKind.wrap,IntKind.signed,IntKind.bits,if_true,if_false,Bool.false_eq_true,Bool.true_and,Bool.false_and] <;> (try split) <;> first | omega | (simp at *;omega)
theorem N9 (k:IntKind)(a b:Nat):k.wrap a<k.wrap b↔ky (tg k) a<ky (tg k) b:=by rw [Aq,Aq];omega
theorem N_ (k:IntKind)(a b:Nat):k.wrap a≤k.wrap b↔ky (tg k) a≤ky (tg k) b:=by rw [Aq,Aq];omega
theorem Jy (k:IntKind)(a b:Nat):k.wrap a=k.wrap b↔a%2^k.bits=b%2^k.bits:=by
 constructor
 ·intro h
  have h1:=jA k a
  have h2:=jA k b
  rw [h] at h1
  have h3:((a%2^k.bits:Nat):Int)=((b%2^k.bits:Nat):Int):=by rw [Int.natCast_emod,Int.natCast_emod,n_,←h1,←h2]
  exact Int.ofNat.inj h3
 ·intro h
  rw [←l7 k a,←l7 k b,h]
theorem xB:∀n v,g_ n (v%256^n)=g_ n v
 | 0,_=>rfl
 | n+1,v=>by
   rw [fJ,fJ]
   have h1:v%256^(n+1)%256=v%256:=by
    rw [Nat.pow_succ,Nat.mul_comm];exact Nat.mod_mul_right_mod _ _ _
   have h2:v%256^(n+1) / 256=(v / 256)%256^n:=by
    rw [Nat.pow_succ,Nat.mul_comm,Nat.mod_mul_right_div_self]
   rw [h1,h2,xB n]
theorem Jz:∀n m v w,g_ (n+m) (v%256^n+256^n*w)=g_ n v ++ g_ m w
 | 0,m,v,w=>by simp [yL,Nat.mod_one]
 | n+1,m,v,w=>by
   have e:n+1+m=(n+m)+1:=by omega
   rw [e,fJ,fJ,List.cons_append,←Jz n m (v / 256) w]
   have hp:256^(n+1)=256*256^n:=by rw [Nat.pow_succ,Nat.mul_comm]
   have h0:v%256^(n+1)=v%256+256*(v / 256%256^n):=by
    rw [hp];exact Nat.mod_mul
   have h1:(v%256^(n+1)+256^(n+1)*w)%256=v%256:=by
    rw [h0,hp,Nat.mul_assoc];omega
   have h2:(v%256^(n+1)+256^(n+1)*w) / 256=v / 256%256^n+256^n*w:=by
    rw [h0,hp,Nat.mul_assoc];omega
   rw [h1,h2]
theorem EX:∀a n v,(g_ n v).drop a=g_ (n - a) (v / 256^a)
 | 0,n,v=>by simp
 | a+1,0,v=>by simp [yL]
 | a+1,n+1,v=>by
   rw [fJ,List.drop_succ_cons,EX a n,Nat.div_div_eq_div_mul,Nat.pow_succ,Nat.mul_comm 256]
   congr 1;omega
theorem yN:∀a n v,a≤n→(g_ n v).take a=g_ a v
 | 0,n,v,_=>by simp [yL]
 | a+1,n+1,v,h=>by
   rw [fJ,fJ,List.take_succ_cons,yN a n _ (by omega)]
theorem L9 (n v a b:Nat)(h:b≤n):((g_ n v).drop a).take (b - a)=g_ (b - a) (v / 256^a):=by
 rw [EX,yN _ _ _ (by omega)]
theorem CX:∀i n v,i<n→(g_ n v)[i]? =some (UInt8.ofNat (v / 256^i%256))
 | 0,n+1,v,_=>by rw [fJ];simp
 | i+1,n+1,v,h=>by
   rw [fJ,List.getElem?_cons_succ,CX i n _ (by omega),Nat.div_div_eq_div_mul,Nat.pow_succ,Nat.mul_comm 256]
theorem JA:∀n v w,g_ n v=g_ n w→v%256^n=w%256^n
 | 0,v,w,_=>by simp [Nat.mod_one]
 | n+1,v,w,h=>by
   rw [fJ,fJ,List.cons.injEq] at h
   have h1:=congrArg UInt8.toNat h.1
   rw [UInt8.toNat_ofNat',UInt8.toNat_ofNat'] at h1
   have h2:=JA n _ _ h.2
   have hp:256^(n+1)=256*256^n:=by rw [Nat.pow_succ,Nat.mul_comm]
   rw [hp,Nat.mod_mul,Nat.mod_mul,h2]
   omega
theorem JB (n v m w:Nat):g_ n v=g_ m w↔n=m∧v%256^n=w%256^m:=by
 constructor
 ·intro h
  have hl:=congrArg List.length h
  rw [gK,gK] at hl
  subst hl
  exact⟨rfl,JA _ _ _ h⟩
 ·rintro ⟨rfl,h⟩
  rw [←xB n v,←xB n w,h]
theorem L_ (v i:Nat):Nat.shiftRight v (Nat.mul 8 i)=v / 256^i:=by
 show v >>> (8*i)=_
 rw [Nat.shiftRight_eq_div_pow,Nat.pow_mul]
theorem U5 (v i:Nat):Nat.shiftLeft v (Nat.mul 8 i)=256^i*v:=by
 show v <<< (8*i)=_
 rw [Nat.shiftLeft_eq,Nat.pow_mul,Nat.mul_comm]
noncomputable def Mc (n v:Nat):Nat:=Nat.mod v (Nat.shiftLeft (nat_lit 1) (Nat.mul (nat_lit 8) n))
theorem Ar (n v:Nat):Mc n v=v%256^n:=by
 show v%Nat.shiftLeft 1 (Nat.mul 8 n)=_
 rw [U5,Nat.mul_one]
end Go.dX
namespace Go.dX
abbrev KF:=FV→Bool
noncomputable abbrev bC {α:Type} (b:Bool) (x y:α):α:=Bool.rec (motive:=fun _=>α) y x b
theorem jE {α:Type} (x y:α):bC true x y=x:=rfl
theorem jv {α:Type} (x y:α):bC false x y=y:=rfl
theorem aT {b x:Bool} (h:bC b x false=true):b=true∧x=true:=by cases b;cases h;exact⟨rfl,h⟩
theorem Oa {α:Type} {b:Bool} {x:Option α} {v:α} (h:bC b x none=some v):b=true∧x=some v:=by cases b;cases h;exact⟨rfl,h⟩
noncomputable def xQ (x:Nat):Nat→KF→Bool:=Nat.rec (motive:=fun _=>Nat→KF→Bool) (fun t K=>K (.n t (nat_lit 0))) (fun m _ t K=>K (.n t (Nat.succ m))) x
theorem kU (x t:Nat)(K:KF):xQ x t K=K (.n t x):=by cases x <;> rfl
noncomputable def kB:Bool→KF→Bool:=Bool.rec (motive:=fun _=>KF→Bool) (fun K=>K (.n (nat_lit 1) (nat_lit 0))) (fun K=>K (.n (nat_lit 1) (nat_lit 1)))
noncomputable def kN:Bool→KF→Bool:=Bool.rec (motive:=fun _=>KF→Bool) (fun K=>K (.n (nat_lit 1) (nat_lit 1))) (fun K=>K (.n (nat_lit 1) (nat_lit 0)))
theorem CY {b:Bool} {K:KF} (h:kB b K=true):∃v:FV,v.av= .b b∧K v=true:=by cases b <;> exact⟨_,rfl,h⟩
theorem U6 {b:Bool} {K:KF} (h:kN b K=true):∃v:FV,v.av= .b (!b)∧K v=true:=by cases b <;> exact⟨_,rfl,h⟩
noncomputable def bI (B:Nat→Nat→Nat→Nat→KF→Bool)(x:FV)(t M:Nat)(y:FV)(K:KF):Bool:=match x,y with
 | .n t1 a,.n t2 b=>bC (Nat.beq t1 t) (bC (Nat.beq t2 t) (B a b t M K) false) false
 | _,_=>false
theorem rE {B:Nat→Nat→Nat→Nat→KF→Bool} {x y:FV} {t M:Nat} {K:KF} (h:bI B x t M y K=true):∃a b,x= .n t a∧y= .n t b∧B a b t M K=true:=by
 unfold bI at h
 split at h
 ·obtain⟨h1,h⟩:=aT h
  obtain⟨h2,h⟩:=aT h
  rw [Nat.eq_of_beq_eq_true h1,Nat.eq_of_beq_eq_true h2]
  exact⟨_,_,rfl,rfl,h⟩
 ·cases h
noncomputable def dAddN:FV→Nat→Nat→Nat→KF→Bool:=FV.rec (motive_1:=fun _=>Nat→Nat→Nat→KF→Bool) (motive_2:=fun _=>PUnit) (fun t1 b a t M K=>Bool.rec (motive:=fun _=>Nat→Nat→Nat→Nat→KF→Bool) (fun _ _ _ _ _=>false) (fun a b t M K=>xQ (Nat.mod (Nat.add a b) M) t K) (Nat.beq t1 t) a b t M K) (fun _ _ _ _ _ _ _=>false) (fun _ _ _ _ _ _ _ _ _=>false) (fun _ _ _ _ _ _=>false) (fun _ _ _ _ _ _ _ _=>false) ⟨⟩ (fun _ _ _ _=>⟨⟩)
noncomputable def cu:FV→Nat→Nat→FV→KF→Bool:=FV.rec (motive_1:=fun _=>Nat→Nat→FV→KF→Bool) (motive_2:=fun _=>PUnit) (fun t1 a t M y K=>Bool.rec (motive:=fun _=>Nat→Nat→Nat→FV→KF→Bool) (fun _ _ _ _ _=>false) (fun a t M y K=>dAddN y a t M K) (Nat.beq t1 t) a t M y K) (fun _ _ _ _ _ _ _=>false) (fun _ _ _ _ _ _ _ _ _=>false) (fun _ _ _ _ _ _=>false) (fun _ _ _ _ _ _ _ _=>false) ⟨⟩ (fun _ _ _ _=>⟨⟩)
theorem dAdd_ok {x y:FV} {t M:Nat} {K:KF} (h:cu x t M y K=true):∃a b,x= .n t a∧y= .n t b∧xQ (Nat.mod (Nat.add a b) M) t K=true:=rE (x:=x) (y:=y) (t:=t) (M:=M) (K:=K) (B:=fun a b t M K=>xQ (Nat.mod (Nat.add a b) M) t K) (by rw [←h];cases x with | n t1 a=>(cases y with | n t2 b=>(show bC (Nat.beq t1 t) (bC (Nat.beq t2 t) _ false) false=Bool.rec (motive:=fun _=>Nat→Nat→Nat→FV→KF→Bool) _ _ (Nat.beq t1 t) a t M _ K;cases Nat.beq t1 t <;> first | rfl | (show bC (Nat.beq t2 t) _ false=Bool.rec (motive:=fun _=>Nat→Nat→Nat→Nat→KF→Bool) _ _ (Nat.beq t2 t) a b t M K;cases Nat.beq t2 t <;> rfl)) | _=>(show false=Bool.rec (motive:=fun _=>Nat→Nat→Nat→FV→KF→Bool) _ _ (Nat.beq t1 t) a t M _ K;cases Nat.beq t1 t <;> rfl)) | _=>rfl)
noncomputable def dSubN:FV→Nat→Nat→Nat→KF→Bool:=FV.rec (motive_1:=fun _=>Nat→Nat→Nat→KF→Bool) (motive_2:=fun _=>PUnit) (fun t1 b a t M K=>Bool.rec (motive:=fun _=>Nat→Nat→Nat→Nat→KF→Bool) (fun _ _ _ _ _=>false) (fun a b t M K=>xQ (Nat.mod (Nat.sub (Nat.add a M) (Nat.mod b M)) M) t K) (Nat.beq t1 t) a b t M K) (fun _ _ _ _ _ _ _=>false) (fun _ _ _ _ _ _ _ _ _=>false) (fun _ _ _ _ _ _=>false) (fun _ _ _ _ _ _ _ _=>false) ⟨⟩ (fun _ _ _ _=>⟨⟩)
noncomputable def fH:FV→Nat→Nat→FV→KF→Bool:=FV.rec (motive_1:=fun _=>Nat→Nat→FV→KF→Bool) (motive_2:=fun _=>PUnit) (fun t1 a t M y K=>Bool.rec (motive:=fun _=>Nat→Nat→Nat→FV→KF→Bool) (fun _ _ _ _ _=>false) (fun a t M y K=>dSubN y a t M K) (Nat.beq t1 t) a t M y K) (fun _ _ _ _ _ _ _=>false) (fun _ _ _ _ _ _ _ _ _=>false) (fun _ _ _ _ _ _=>false) (fun _ _ _ _ _ _ _ _=>false) ⟨⟩ (fun _ _ _ _=>⟨⟩)
theorem dSub_ok {x y:FV} {t M:Nat} {K:KF} (h:fH x t M y K=true):∃a b,x= .n t a∧y= .n t b∧xQ (Nat.mod (Nat.sub (Nat.add a M) (Nat.mod b M)) M) t K=true:=rE (x:=x) (y:=y) (t:=t) (M:=M) (K:=K) (B:=fun a b t M K=>xQ (Nat.mod (Nat.sub (Nat.add a M) (Nat.mod b M)) M) t K) (by rw [←h];cases x with | n t1 a=>(cases y with | n t2 b=>(show bC (Nat.beq t1 t) (bC (Nat.beq t2 t) _ false) false=Bool.rec (motive:=fun _=>Nat→Nat→Nat→FV→KF→Bool) _ _ (Nat.beq t1 t) a t M _ K;cases Nat.beq t1 t <;> first | rfl | (show bC (Nat.beq t2 t) _ false=Bool.rec (motive:=fun _=>Nat→Nat→Nat→Nat→KF→Bool) _ _ (Nat.beq t2 t) a b t M K;cases Nat.beq t2 t <;> rfl)) | _=>(show false=Bool.rec (motive:=fun _=>Nat→Nat→Nat→FV→KF→Bool) _ _ (Nat.beq t1 t) a t M _ K;cases Nat.beq t1 t <;> rfl)) | _=>rfl)
noncomputable def dMulN:FV→Nat→Nat→Nat→KF→Bool:=FV.rec (motive_1:=fun _=>Nat→Nat→Nat→KF→Bool) (motive_2:=fun _=>PUnit) (fun t1 b a t M K=>Bool.rec (motive:=fun _=>Nat→Nat→Nat→Nat→KF→Bool) (fun _ _ _ _ _=>false) (fun a b t M K=>xQ (Nat.mod (Nat.mul a b) M) t K) (Nat.beq t1 t) a b t M K) (fun _ _ _ _ _ _ _=>false) (fun _ _ _ _ _ _ _ _ _=>false) (fun _ _ _ _ _ _=>false) (fun _ _ _ _ _ _ _ _=>false) ⟨⟩ (fun _ _ _ _=>⟨⟩)
noncomputable def jU:FV→Nat→Nat→FV→KF→Bool:=FV.rec (motive_1:=fun _=>Nat→Nat→FV→KF→Bool) (motive_2:=fun _=>PUnit) (fun t1 a t M y K=>Bool.rec (motive:=fun _=>Nat→Nat→Nat→FV→KF→Bool) (fun _ _ _ _ _=>false) (fun a t M y K=>dMulN y a t M K) (Nat.beq t1 t) a t M y K) (fun _ _ _ _ _ _ _=>false) (fun _ _ _ _ _ _ _ _ _=>false) (fun _ _ _ _ _ _=>false) (fun _ _ _ _ _ _ _ _=>false) ⟨⟩ (fun _ _ _ _=>⟨⟩)
theorem dMul_ok {x y:FV} {t M:Nat} {K:KF} (h:jU x t M y K=true):∃a b,x= .n t a∧y= .n t b∧xQ (Nat.mod (Nat.mul a b) M) t K=true:=rE (x:=x) (y:=y) (t:=t) (M:=M) (K:=K) (B:=fun a b t M K=>xQ (Nat.mod (Nat.mul a b) M) t K) (by rw [←h];cases x with | n t1 a=>(cases y with | n t2 b=>(show bC (Nat.beq t1 t) (bC (Nat.beq t2 t) _ false) false=Bool.rec (motive:=fun _=>Nat→Nat→Nat→FV→KF→Bool) _ _ (Nat.beq t1 t) a t M _ K;cases Nat.beq t1 t <;> first | rfl | (show bC (Nat.beq t2 t) _ false=Bool.rec (motive:=fun _=>Nat→Nat→Nat→Nat→KF→Bool) _ _ (Nat.beq t2 t) a b t M K;cases Nat.beq t2 t <;> rfl)) | _=>(show false=Bool.rec (motive:=fun _=>Nat→Nat→Nat→FV→KF→Bool) _ _ (Nat.beq t1 t) a t M _ K;cases Nat.beq t1 t <;> rfl)) | _=>rfl)
noncomputable def dAndN:FV→Nat→Nat→Nat→KF→Bool:=FV.rec (motive_1:=fun _=>Nat→Nat→Nat→KF→Bool) (motive_2:=fun _=>PUnit) (fun t1 b a t M K=>Bool.rec (motive:=fun _=>Nat→Nat→Nat→Nat→KF→Bool) (fun _ _ _ _ _=>false) (fun a b t M K=>xQ (Nat.land (Nat.mod a M) (Nat.mod b M)) t K) (Nat.beq t1 t) a b t M K) (fun _ _ _ _ _ _ _=>false) (fun _ _ _ _ _ _ _ _ _=>false) (fun _ _ _ _ _ _=>false) (fun _ _ _ _ _ _ _ _=>false) ⟨⟩ (fun _ _ _ _=>⟨⟩)
noncomputable def zX:FV→Nat→Nat→FV→KF→Bool:=FV.rec (motive_1:=fun _=>Nat→Nat→FV→KF→Bool) (motive_2:=fun _=>PUnit) (fun t1 a t M y K=>Bool.rec (motive:=fun _=>Nat→Nat→Nat→FV→KF→Bool) (fun _ _ _ _ _=>false) (fun a t M y K=>dAndN y a t M K) (Nat.beq t1 t) a t M y K) (fun _ _ _ _ _ _ _=>false) (fun _ _ _ _ _ _ _ _ _=>false) (fun _ _ _ _ _ _=>false) (fun _ _ _ _ _ _ _ _=>false) ⟨⟩ (fun _ _ _ _=>⟨⟩)
theorem dAnd_ok {x y:FV} {t M:Nat} {K:KF} (h:zX x t M y K=true):∃a b,x= .n t a∧y= .n t b∧xQ (Nat.land (Nat.mod a M) (Nat.mod b M)) t K=true:=rE (x:=x) (y:=y) (t:=t) (M:=M) (K:=K) (B:=fun a b t M K=>xQ (Nat.land (Nat.mod a M) (Nat.mod b M)) t K) (by rw [←h];cases x with | n t1 a=>(cases y with | n t2 b=>(show bC (Nat.beq t1 t) (bC (Nat.beq t2 t) _ false) false=Bool.rec (motive:=fun _=>Nat→Nat→Nat→FV→KF→Bool) _ _ (Nat.beq t1 t) a t M _ K;cases Nat.beq t1 t <;> first | rfl | (show bC (Nat.beq t2 t) _ false=Bool.rec (motive:=fun _=>Nat→Nat→Nat→Nat→KF→Bool) _ _ (Nat.beq t2 t) a b t M K;cases Nat.beq t2 t <;> rfl)) | _=>(show false=Bool.rec (motive:=fun _=>Nat→Nat→Nat→FV→KF→Bool) _ _ (Nat.beq t1 t) a t M _ K;cases Nat.beq t1 t <;> rfl)) | _=>rfl)
noncomputable def dOrN:FV→Nat→Nat→Nat→KF→Bool:=FV.rec (motive_1:=fun _=>Nat→Nat→Nat→KF→Bool) (motive_2:=fun _=>PUnit) (fun t1 b a t M K=>Bool.rec (motive:=fun _=>Nat→Nat→Nat→Nat→KF→Bool) (fun _ _ _ _ _=>false) (fun a b t M K=>xQ (Nat.lor (Nat.mod a M) (Nat.mod b M)) t K) (Nat.beq t1 t) a b t M K) (fun _ _ _ _ _ _ _=>false) (fun _ _ _ _ _ _ _ _ _=>false) (fun _ _ _ _ _ _=>false) (fun _ _ _ _ _ _ _ _=>false) ⟨⟩ (fun _ _ _ _=>⟨⟩)
noncomputable def dOr:FV→Nat→Nat→FV→KF→Bool:=FV.rec (motive_1:=fun _=>Nat→Nat→FV→KF→Bool) (motive_2:=fun _=>PUnit) (fun t1 a t M y K=>Bool.rec (motive:=fun _=>Nat→Nat→Nat→FV→KF→Bool) (fun _ _ _ _ _=>false) (fun a t M y K=>dOrN y a t M K) (Nat.beq t1 t) a t M y K) (fun _ _ _ _ _ _ _=>false) (fun _ _ _ _ _ _ _ _ _=>false) (fun _ _ _ _ _ _=>false) (fun _ _ _ _ _ _ _ _=>false) ⟨⟩ (fun _ _ _ _=>⟨⟩)
theorem dOr_ok {x y:FV} {t M:Nat} {K:KF} (h:dOr x t M y K=true):∃a b,x= .n t a∧y= .n t b∧xQ (Nat.lor (Nat.mod a M) (Nat.mod b M)) t K=true:=rE (x:=x) (y:=y) (t:=t) (M:=M) (K:=K) (B:=fun a b t M K=>xQ (Nat.lor (Nat.mod a M) (Nat.mod b M)) t K) (by rw [←h];cases x with | n t1 a=>(cases y with | n t2 b=>(show bC (Nat.beq t1 t) (bC (Nat.beq t2 t) _ false) false=Bool.rec (motive:=fun _=>Nat→Nat→Nat→FV→KF→Bool) _ _ (Nat.beq t1 t) a t M _ K;cases Nat.beq t1 t <;> first | rfl | (show bC (Nat.beq t2 t) _ false=Bool.rec (motive:=fun _=>Nat→Nat→Nat→Nat→KF→Bool) _ _ (Nat.beq t2 t) a b t M K;cases Nat.beq t2 t <;> rfl)) | _=>(show false=Bool.rec (motive:=fun _=>Nat→Nat→Nat→FV→KF→Bool) _ _ (Nat.beq t1 t) a t M _ K;cases Nat.beq t1 t <;> rfl)) | _=>rfl)
noncomputable def dXorN:FV→Nat→Nat→Nat→KF→Bool:=FV.rec (motive_1:=fun _=>Nat→Nat→Nat→KF→Bool) (motive_2:=fun _=>PUnit) (fun t1 b a t M K=>Bool.rec (motive:=fun _=>Nat→Nat→Nat→Nat→KF→Bool) (fun _ _ _ _ _=>false) (fun a b t M K=>xQ (Nat.xor (Nat.mod a M) (Nat.mod b M)) t K) (Nat.beq t1 t) a b t M K) (fun _ _ _ _ _ _ _=>false) (fun _ _ _ _ _ _ _ _ _=>false) (fun _ _ _ _ _ _=>false) (fun _ _ _ _ _ _ _ _=>false) ⟨⟩ (fun _ _ _ _=>⟨⟩)
noncomputable def dXor:FV→Nat→Nat→FV→KF→Bool:=FV.rec (motive_1:=fun _=>Nat→Nat→FV→KF→Bool) (motive_2:=fun _=>PUnit) (fun t1 a t M y K=>Bool.rec (motive:=fun _=>Nat→Nat→Nat→FV→KF→Bool) (fun _ _ _ _ _=>false) (fun a t M y K=>dXorN y a t M K) (Nat.beq t1 t) a t M y K) (fun _ _ _ _ _ _ _=>false) (fun _ _ _ _ _ _ _ _ _=>false) (fun _ _ _ _ _ _=>false) (fun _ _ _ _ _ _ _ _=>false) ⟨⟩ (fun _ _ _ _=>⟨⟩)
theorem dXor_ok {x y:FV} {t M:Nat} {K:KF} (h:dXor x t M y K=true):∃a b,x= .n t a∧y= .n t b∧xQ (Nat.xor (Nat.mod a M) (Nat.mod b M)) t K=true:=rE (x:=x) (y:=y) (t:=t) (M:=M) (K:=K) (B:=fun a b t M K=>xQ (Nat.xor (Nat.mod a M) (Nat.mod b M)) t K) (by rw [←h];cases x with | n t1 a=>(cases y with | n t2 b=>(show bC (Nat.beq t1 t) (bC (Nat.beq t2 t) _ false) false=Bool.rec (motive:=fun _=>Nat→Nat→Nat→FV→KF→Bool) _ _ (Nat.beq t1 t) a t M _ K;cases Nat.beq t1 t <;> first | rfl | (show bC (Nat.beq t2 t) _ false=Bool.rec (motive:=fun _=>Nat→Nat→Nat→Nat→KF→Bool) _ _ (Nat.beq t2 t) a b t M K;cases Nat.beq t2 t <;> rfl)) | _=>(show false=Bool.rec (motive:=fun _=>Nat→Nat→Nat→FV→KF→Bool) _ _ (Nat.beq t1 t) a t M _ K;cases Nat.beq t1 t <;> rfl)) | _=>rfl)
noncomputable def dLssN:FV→Nat→Nat→Nat→KF→Bool:=FV.rec (motive_1:=fun _=>Nat→Nat→Nat→KF→Bool) (motive_2:=fun _=>PUnit) (fun t1 b a t M K=>Bool.rec (motive:=fun _=>Nat→Nat→Nat→Nat→KF→Bool) (fun _ _ _ _ _=>false) (fun a b t M K=>kB (Nat.ble (Nat.succ (ky t a)) (ky t b)) K) (Nat.beq t1 t) a b t M K) (fun _ _ _ _ _ _ _=>false) (fun _ _ _ _ _ _ _ _ _=>false) (fun _ _ _ _ _ _=>false) (fun _ _ _ _ _ _ _ _=>false) ⟨⟩ (fun _ _ _ _=>⟨⟩)
noncomputable def dU:FV→Nat→Nat→FV→KF→Bool:=FV.rec (motive_1:=fun _=>Nat→Nat→FV→KF→Bool) (motive_2:=fun _=>PUnit) (fun t1 a t M y K=>Bool.rec (motive:=fun _=>Nat→Nat→Nat→FV→KF→Bool) (fun _ _ _ _ _=>false) (fun a t M y K=>dLssN y a t M K) (Nat.beq t1 t) a t M y K) (fun _ _ _ _ _ _ _=>false) (fun _ _ _ _ _ _ _ _ _=>false) (fun _ _ _ _ _ _=>false) (fun _ _ _ _ _ _ _ _=>false) ⟨⟩ (fun _ _ _ _=>⟨⟩)
theorem dLss_ok {x y:FV} {t M:Nat} {K:KF} (h:dU x t M y K=true):∃a b,x= .n t a∧y= .n t b∧kB (Nat.ble (Nat.succ (ky t a)) (ky t b)) K=true:=rE (x:=x) (y:=y) (t:=t) (M:=M) (K:=K) (B:=fun a b t M K=>kB (Nat.ble (Nat.succ (ky t a)) (ky t b)) K) (by rw [←h];cases x with | n t1 a=>(cases y with | n t2 b=>(show bC (Nat.beq t1 t) (bC (Nat.beq t2 t) _ false) false=Bool.rec (motive:=fun _=>Nat→Nat→Nat→FV→KF→Bool) _ _ (Nat.beq t1 t) a t M _ K;cases Nat.beq t1 t <;> first | rfl | (show bC (Nat.beq t2 t) _ false=Bool.rec (motive:=fun _=>Nat→Nat→Nat→Nat→KF→Bool) _ _ (Nat.beq t2 t) a b t M K;cases Nat.beq t2 t <;> rfl)) | _=>(show false=Bool.rec (motive:=fun _=>Nat→Nat→Nat→FV→KF→Bool) _ _ (Nat.beq t1 t) a t M _ K;cases Nat.beq t1 t <;> rfl)) | _=>rfl)
noncomputable def dLeqN:FV→Nat→Nat→Nat→KF→Bool:=FV.rec (motive_1:=fun _=>Nat→Nat→Nat→KF→Bool) (motive_2:=fun _=>PUnit) (fun t1 b a t M K=>Bool.rec (motive:=fun _=>Nat→Nat→Nat→Nat→KF→Bool) (fun _ _ _ _ _=>false) (fun a b t M K=>kB (Nat.ble (ky t a) (ky t b)) K) (Nat.beq t1 t) a b t M K) (fun _ _ _ _ _ _ _=>false) (fun _ _ _ _ _ _ _ _ _=>false) (fun _ _ _ _ _ _=>false) (fun _ _ _ _ _ _ _ _=>false) ⟨⟩ (fun _ _ _ _=>⟨⟩)
noncomputable def jd:FV→Nat→Nat→FV→KF→Bool:=FV.rec (motive_1:=fun _=>Nat→Nat→FV→KF→Bool) (motive_2:=fun _=>PUnit) (fun t1 a t M y K=>Bool.rec (motive:=fun _=>Nat→Nat→Nat→FV→KF→Bool) (fun _ _ _ _ _=>false) (fun a t M y K=>dLeqN y a t M K) (Nat.beq t1 t) a t M y K) (fun _ _ _ _ _ _ _=>false) (fun _ _ _ _ _ _ _ _ _=>false) (fun _ _ _ _ _ _=>false) (fun _ _ _ _ _ _ _ _=>false) ⟨⟩ (fun _ _ _ _=>⟨⟩)
theorem dLeq_ok {x y:FV} {t M:Nat} {K:KF} (h:jd x t M y K=true):∃a b,x= .n t a∧y= .n t b∧kB (Nat.ble (ky t a) (ky t b)) K=true:=rE (x:=x) (y:=y) (t:=t) (M:=M) (K:=K) (B:=fun a b t M K=>kB (Nat.ble (ky t a) (ky t b)) K) (by rw [←h];cases x with | n t1 a=>(cases y with | n t2 b=>(show bC (Nat.beq t1 t) (bC (Nat.beq t2 t) _ false) false=Bool.rec (motive:=fun _=>Nat→Nat→Nat→FV→KF→Bool) _ _ (Nat.beq t1 t) a t M _ K;cases Nat.beq t1 t <;> first | rfl | (show bC (Nat.beq t2 t) _ false=Bool.rec (motive:=fun _=>Nat→Nat→Nat→Nat→KF→Bool) _ _ (Nat.beq t2 t) a b t M K;cases Nat.beq t2 t <;> rfl)) | _=>(show false=Bool.rec (motive:=fun _=>Nat→Nat→Nat→FV→KF→Bool) _ _ (Nat.beq t1 t) a t M _ K;cases Nat.beq t1 t <;> rfl)) | _=>rfl)
noncomputable def dGtrN:FV→Nat→Nat→Nat→KF→Bool:=FV.rec (motive_1:=fun _=>Nat→Nat→Nat→KF→Bool) (motive_2:=fun _=>PUnit) (fun t1 b a t M K=>Bool.rec (motive:=fun _=>Nat→Nat→Nat→Nat→KF→Bool) (fun _ _ _ _ _=>false) (fun a b t M K=>kB (Nat.ble (Nat.succ (ky t b)) (ky t a)) K) (Nat.beq t1 t) a b t M K) (fun _ _ _ _ _ _ _=>false) (fun _ _ _ _ _ _ _ _ _=>false) (fun _ _ _ _ _ _=>false) (fun _ _ _ _ _ _ _ _=>false) ⟨⟩ (fun _ _ _ _=>⟨⟩)
noncomputable def je:FV→Nat→Nat→FV→KF→Bool:=FV.rec (motive_1:=fun _=>Nat→Nat→FV→KF→Bool) (motive_2:=fun _=>PUnit) (fun t1 a t M y K=>Bool.rec (motive:=fun _=>Nat→Nat→Nat→FV→KF→Bool) (fun _ _ _ _ _=>false) (fun a t M y K=>dGtrN y a t M K) (Nat.beq t1 t) a t M y K) (fun _ _ _ _ _ _ _=>false) (fun _ _ _ _ _ _ _ _ _=>false) (fun _ _ _ _ _ _=>false) (fun _ _ _ _ _ _ _ _=>false) ⟨⟩ (fun _ _ _ _=>⟨⟩)
theorem dGtr_ok {x y:FV} {t M:Nat} {K:KF} (h:je x t M y K=true):∃a b,x= .n t a∧y= .n t b∧kB (Nat.ble (Nat.succ (ky t b)) (ky t a)) K=true:=rE (x:=x) (y:=y) (t:=t) (M:=M) (K:=K) (B:=fun a b t M K=>kB (Nat.ble (Nat.succ (ky t b)) (ky t a)) K) (by rw [←h];cases x with | n t1 a=>(cases y with | n t2 b=>(show bC (Nat.beq t1 t) (bC (Nat.beq t2 t) _ false) false=Bool.rec (motive:=fun _=>Nat→Nat→Nat→FV→KF→Bool) _ _ (Nat.beq t1 t) a t M _ K;cases Nat.beq t1 t <;> first | rfl | (show bC (Nat.beq t2 t) _ false=Bool.rec (motive:=fun _=>Nat→Nat→Nat→Nat→KF→Bool) _ _ (Nat.beq t2 t) a b t M K;cases Nat.beq t2 t <;> rfl)) | _=>(show false=Bool.rec (motive:=fun _=>Nat→Nat→Nat→FV→KF→Bool) _ _ (Nat.beq t1 t) a t M _ K;cases Nat.beq t1 t <;> rfl)) | _=>rfl)
noncomputable def dGeqN:FV→Nat→Nat→Nat→KF→Bool:=FV.rec (motive_1:=fun _=>Nat→Nat→Nat→KF→Bool) (motive_2:=fun _=>PUnit) (fun t1 b a t M K=>Bool.rec (motive:=fun _=>Nat→Nat→Nat→Nat→KF→Bool) (fun _ _ _ _ _=>false) (fun a b t M K=>kB (Nat.ble (ky t b) (ky t a)) K) (Nat.beq t1 t) a b t M K) (fun _ _ _ _ _ _ _=>false) (fun _ _ _ _ _ _ _ _ _=>false) (fun _ _ _ _ _ _=>false) (fun _ _ _ _ _ _ _ _=>false) ⟨⟩ (fun _ _ _ _=>⟨⟩)
noncomputable def iC:FV→Nat→Nat→FV→KF→Bool:=FV.rec (motive_1:=fun _=>Nat→Nat→FV→KF→Bool) (motive_2:=fun _=>PUnit) (fun t1 a t M y K=>Bool.rec (motive:=fun _=>Nat→Nat→Nat→FV→KF→Bool) (fun _ _ _ _ _=>false) (fun a t M y K=>dGeqN y a t M K) (Nat.beq t1 t) a t M y K) (fun _ _ _ _ _ _ _=>false) (fun _ _ _ _ _ _ _ _ _=>false) (fun _ _ _ _ _ _=>false) (fun _ _ _ _ _ _ _ _=>false) ⟨⟩ (fun _ _ _ _=>⟨⟩)
theorem dGeq_ok {x y:FV} {t M:Nat} {K:KF} (h:iC x t M y K=true):∃a b,x= .n t a∧y= .n t b∧kB (Nat.ble (ky t b) (ky t a)) K=true:=rE (x:=x) (y:=y) (t:=t) (M:=M) (K:=K) (B:=fun a b t M K=>kB (Nat.ble (ky t b) (ky t a)) K) (by rw [←h];cases x with | n t1 a=>(cases y with | n t2 b=>(show bC (Nat.beq t1 t) (bC (Nat.beq t2 t) _ false) false=Bool.rec (motive:=fun _=>Nat→Nat→Nat→FV→KF→Bool) _ _ (Nat.beq t1 t) a t M _ K;cases Nat.beq t1 t <;> first | rfl | (show bC (Nat.beq t2 t) _ false=Bool.rec (motive:=fun _=>Nat→Nat→Nat→Nat→KF→Bool) _ _ (Nat.beq t2 t) a b t M K;cases Nat.beq t2 t <;> rfl)) | _=>(show false=Bool.rec (motive:=fun _=>Nat→Nat→Nat→FV→KF→Bool) _ _ (Nat.beq t1 t) a t M _ K;cases Nat.beq t1 t <;> rfl)) | _=>rfl)
noncomputable def dEqIN:FV→Nat→Nat→Nat→KF→Bool:=FV.rec (motive_1:=fun _=>Nat→Nat→Nat→KF→Bool) (motive_2:=fun _=>PUnit) (fun t1 b a t M K=>Bool.rec (motive:=fun _=>Nat→Nat→Nat→Nat→KF→Bool) (fun _ _ _ _ _=>false) (fun a b t M K=>kB (Nat.beq (Nat.mod a M) (Nat.mod b M)) K) (Nat.beq t1 t) a b t M K) (fun _ _ _ _ _ _ _=>false) (fun _ _ _ _ _ _ _ _ _=>false) (fun _ _ _ _ _ _=>false) (fun _ _ _ _ _ _ _ _=>false) ⟨⟩ (fun _ _ _ _=>⟨⟩)
noncomputable def bP:FV→Nat→Nat→FV→KF→Bool:=FV.rec (motive_1:=fun _=>Nat→Nat→FV→KF→Bool) (motive_2:=fun _=>PUnit) (fun t1 a t M y K=>Bool.rec (motive:=fun _=>Nat→Nat→Nat→FV→KF→Bool) (fun _ _ _ _ _=>false) (fun a t M y K=>dEqIN y a t M K) (Nat.beq t1 t) a t M y K) (fun _ _ _ _ _ _ _=>false) (fun _ _ _ _ _ _ _ _ _=>false) (fun _ _ _ _ _ _=>false) (fun _ _ _ _ _ _ _ _=>false) ⟨⟩ (fun _ _ _ _=>⟨⟩)
theorem dEqI_ok {x y:FV} {t M:Nat} {K:KF} (h:bP x t M y K=true):∃a b,x= .n t a∧y= .n t b∧kB (Nat.beq (Nat.mod a M) (Nat.mod b M)) K=true:=rE (x:=x) (y:=y) (t:=t) (M:=M) (K:=K) (B:=fun a b t M K=>kB (Nat.beq (Nat.mod a M) (Nat.mod b M)) K) (by rw [←h];cases x with | n t1 a=>(cases y with | n t2 b=>(show bC (Nat.beq t1 t) (bC (Nat.beq t2 t) _ false) false=Bool.rec (motive:=fun _=>Nat→Nat→Nat→FV→KF→Bool) _ _ (Nat.beq t1 t) a t M _ K;cases Nat.beq t1 t <;> first | rfl | (show bC (Nat.beq t2 t) _ false=Bool.rec (motive:=fun _=>Nat→Nat→Nat→Nat→KF→Bool) _ _ (Nat.beq t2 t) a b t M K;cases Nat.beq t2 t <;> rfl)) | _=>(show false=Bool.rec (motive:=fun _=>Nat→Nat→Nat→FV→KF→Bool) _ _ (Nat.beq t1 t) a t M _ K;cases Nat.beq t1 t <;> rfl)) | _=>rfl)
noncomputable def dNeIN:FV→Nat→Nat→Nat→KF→Bool:=FV.rec (motive_1:=fun _=>Nat→Nat→Nat→KF→Bool) (motive_2:=fun _=>PUnit) (fun t1 b a t M K=>Bool.rec (motive:=fun _=>Nat→Nat→Nat→Nat→KF→Bool) (fun _ _ _ _ _=>false) (fun a b t M K=>kN (Nat.beq (Nat.mod a M) (Nat.mod b M)) K) (Nat.beq t1 t) a b t M K) (fun _ _ _ _ _ _ _=>false) (fun _ _ _ _ _ _ _ _ _=>false) (fun _ _ _ _ _ _=>false) (fun _ _ _ _ _ _ _ _=>false) ⟨⟩ (fun _ _ _ _=>⟨⟩)
noncomputable def l9:FV→Nat→Nat→FV→KF→Bool:=FV.rec (motive_1:=fun _=>Nat→Nat→FV→KF→Bool) (motive_2:=fun _=>PUnit) (fun t1 a t M y K=>Bool.rec (motive:=fun _=>Nat→Nat→Nat→FV→KF→Bool) (fun _ _ _ _ _=>false) (fun a t M y K=>dNeIN y a t M K) (Nat.beq t1 t) a t M y K) (fun _ _ _ _ _ _ _=>false) (fun _ _ _ _ _ _ _ _ _=>false) (fun _ _ _ _ _ _=>false) (fun _ _ _ _ _ _ _ _=>false) ⟨⟩ (fun _ _ _ _=>⟨⟩)
theorem dNeI_ok {x y:FV} {t M:Nat} {K:KF} (h:l9 x t M y K=true):∃a b,x= .n t a∧y= .n t b∧kN (Nat.beq (Nat.mod a M) (Nat.mod b M)) K=true:=rE (x:=x) (y:=y) (t:=t) (M:=M) (K:=K) (B:=fun a b t M K=>kN (Nat.beq (Nat.mod a M) (Nat.mod b M)) K) (by rw [←h];cases x with | n t1 a=>(cases y with | n t2 b=>(show bC (Nat.beq t1 t) (bC (Nat.beq t2 t) _ false) false=Bool.rec (motive:=fun _=>Nat→Nat→Nat→FV→KF→Bool) _ _ (Nat.beq t1 t) a t M _ K;cases Nat.beq t1 t <;> first | rfl | (show bC (Nat.beq t2 t) _ false=Bool.rec (motive:=fun _=>Nat→Nat→Nat→Nat→KF→Bool) _ _ (Nat.beq t2 t) a b t M K;cases Nat.beq t2 t <;> rfl)) | _=>(show false=Bool.rec (motive:=fun _=>Nat→Nat→Nat→FV→KF→Bool) _ _ (Nat.beq t1 t) a t M _ K;cases Nat.beq t1 t <;> rfl)) | _=>rfl)
end Go.dX
namespace Go.dX
noncomputable def hdF:List FV→FV:=List.rec (motive:=fun _=>FV) (.n (nat_lit 0) (nat_lit 0)) (fun a _ _=>a)
theorem U7 (l:List FV):(hdF l).av=hdA (FV.Qj l):=by cases l <;> rfl
noncomputable def aC:FV→FV:=FV.rec (motive_1:=fun _=>FV) (motive_2:=fun _=>PUnit) .n .p .sl .s (fun t a l _=>bC (Nat.beq t (nat_lit 4)) (hdF l) (.c t a l)) ⟨⟩ (fun _ _ _ _=>⟨⟩)
noncomputable def ay:FV→Bool:=FV.rec (motive_1:=fun _=>Bool) (motive_2:=fun _=>PUnit) (fun _ _=>true) (fun _ _ _=>true) (fun _ _ _ _ _=>true) (fun _ _=>true) (fun t a _ _=>bC (Nat.beq t (nat_lit 4)) (bC (Nat.beq a (nat_lit 0)) false true) true) ⟨⟩ (fun _ _ _ _=>⟨⟩)
theorem lN (t x:Nat):(∃k,t=tg k∧mM t x= .i k (k.wrap x))∨(t=1∧mM t x= .b (!Nat.beq x 0))∨(t=2∧mM t x= .p0)∨(t=3∧mM t x= .sl0)∨(t=4∧mM t x= .fn0)∨(t=5∧mM t x= .fK)∨(t=0∧mM t x= .u)∨mM t x= .kK:=by
 unfold mM
 cases hk:kOf t with
 | some k=>exact .inl ⟨k,CQ hk,rfl⟩
 | none=>
   simp only
   by_cases h1:t=1
   ·exact .inr (.inl ⟨h1,by rw [if_pos h1]⟩)
   by_cases h2:t=2
   ·exact .inr (.inr (.inl ⟨h2,by rw [if_neg h1,if_pos h2]⟩))
   by_cases h3:t=3
   ·exact .inr (.inr (.inr (.inl ⟨h3,by rw [if_neg h1,if_neg h2,if_pos h3]⟩)))
   by_cases h4:t=4
   ·exact .inr (.inr (.inr (.inr (.inl ⟨h4,by rw [if_neg h1,if_neg h2,if_neg h3,if_pos h4]⟩))))
   by_cases h5:t=5
   ·exact .inr (.inr (.inr (.inr (.inr (.inl ⟨h5,by rw [if_neg h1,if_neg h2,if_neg h3,if_neg h4,if_pos h5]⟩)))))
   by_cases h0:t=0
   ·exact .inr (.inr (.inr (.inr (.inr (.inr (.inl ⟨h0,by rw [if_neg h1,if_neg h2,if_neg h3,if_neg h4,if_neg h5,if_pos h0]⟩))))))
   ·exact .inr (.inr (.inr (.inr (.inr (.inr (.inr (by rw [if_neg h1,if_neg h2,if_neg h3,if_neg h4,if_neg h5,if_neg h0])))))))
theorem U8 (t x:Nat)(h:Nat.ble 1 t=true):(mM t x).one=true:=by
 have h:=Nat.le_of_ble_eq_true h
 rcases lN t x with ⟨k,_,e⟩ | ⟨_,e⟩ | ⟨_,e⟩ | ⟨_,e⟩ | ⟨_,e⟩ | ⟨_,e⟩ | ⟨e,_⟩ | e <;> first | (rw [e];rfl) | omega
theorem U9 (t x:Nat):(mM t x).val=mM t x:=by
 rcases lN t x with ⟨k,_,e⟩ | ⟨_,e⟩ | ⟨_,e⟩ | ⟨_,e⟩ | ⟨_,e⟩ | ⟨_,e⟩ | ⟨_,e⟩ | e <;> (rw [e];rfl)
theorem U_ (t x:Nat):(mM t x).cnd=true:=by
 rcases lN t x with ⟨k,_,e⟩ | ⟨_,e⟩ | ⟨_,e⟩ | ⟨_,e⟩ | ⟨_,e⟩ | ⟨_,e⟩ | ⟨_,e⟩ | e <;> (rw [e];rfl)
theorem qR (t a:Nat)(l:List AV):(t=0∧comp t a l= .ag l)∨(t=1∧comp t a l= .tu l)∨(t=2∧comp t a l= .ic a (hdA l))∨(t=3∧comp t a l= .fn (.func a) (NZ l 0) (NZ l 1))∨(t=4∧comp t a l= .cd (!Nat.beq a 0) (hdA l))∨(t=5∧comp t a l= .mp a 0)∨(5<t∧comp t a l= .fK):=by
 unfold comp
 by_cases h0:t=0
 ·exact .inl ⟨h0,by rw [if_pos h0]⟩
 by_cases h1:t=1
 ·exact .inr (.inl ⟨h1,by rw [if_neg h0,if_pos h1]⟩)
 by_cases h2:t=2
 ·exact .inr (.inr (.inl ⟨h2,by rw [if_neg h0,if_neg h1,if_pos h2]⟩))
 by_cases h3:t=3
 ·exact .inr (.inr (.inr (.inl ⟨h3,by rw [if_neg h0,if_neg h1,if_neg h2,if_pos h3]⟩)))
 by_cases h4:t=4
 ·exact .inr (.inr (.inr (.inr (.inl ⟨h4,by rw [if_neg h0,if_neg h1,if_neg h2,if_neg h3,if_pos h4]⟩))))
 by_cases h5:t=5
 ·exact .inr (.inr (.inr (.inr (.inr (.inl ⟨h5,by rw [if_neg h0,if_neg h1,if_neg h2,if_neg h3,if_neg h4,if_pos h5]⟩)))))
 ·exact .inr (.inr (.inr (.inr (.inr (.inr ⟨by omega,by rw [if_neg h0,if_neg h1,if_neg h2,if_neg h3,if_neg h4,if_neg h5]⟩)))))
theorem qU {a b:Nat} (h:a≠b):Nat.beq a b=false:=by
 cases hb:Nat.beq a b with
 | false=>rfl
 | true=>exact(h (Nat.eq_of_beq_eq_true hb)).elim
theorem Au (x:FV):(aC x).av=x.av.val:=by
 cases x with
 | n t x=>show mM t x=(mM t x).val;rw [U9]
 | p _ _ _=>rfl
 | sl _ _ _ _ _=>rfl
 | s _ _=>rfl
 | c t a l=>
   show (bC (Nat.beq t 4) (hdF l) (.c t a l)).av=(comp t a (FV.Qj l)).val
   rcases qR t a (FV.Qj l) with ⟨e,q⟩ | ⟨e,q⟩ | ⟨e,q⟩ | ⟨e,q⟩ | ⟨e,q⟩ | ⟨e,q⟩ | ⟨e,q⟩
   all_goals
     rw [q]
     first
       | (rw [qU (by omega:t≠4),jv,FV.CU,q];rfl)
       | (subst e;rw [show Nat.beq 4 4=true from rfl,jE,U7];rfl)
theorem Aw (x:FV):ay x=x.av.cnd:=by
 cases x with
 | n t x=>show true=(mM t x).cnd;rw [U_]
 | p _ _ _=>rfl
 | sl _ _ _ _ _=>rfl
 | s _ _=>rfl
 | c t a l=>
   show bC (Nat.beq t 4) (bC (Nat.beq a 0) false true) true=(comp t a (FV.Qj l)).cnd
   rcases qR t a (FV.Qj l) with ⟨e,q⟩ | ⟨e,q⟩ | ⟨e,q⟩ | ⟨e,q⟩ | ⟨e,q⟩ | ⟨e,q⟩ | ⟨e,q⟩
   all_goals
     rw [q]
     first
       | (rw [qU (by omega:t≠4),jv];rfl)
       | (subst e;rw [show Nat.beq 4 4=true from rfl,jE];show _=(!Nat.beq a 0);cases Nat.beq a 0 <;> rfl)
noncomputable def ifN:Nat→Bool→Bool→Bool:=Nat.rec (motive:=fun _=>Bool→Bool→Bool) (fun _ B=>B) (fun _ _ A _=>A)
noncomputable def bH:FV→Bool→Bool→Bool:=FV.rec (motive_1:=fun _=>Bool→Bool→Bool) (motive_2:=fun _=>PUnit) (fun t v A B=>bC (Nat.beq t (nat_lit 1)) (ifN v A B) false) (fun _ _ _ _ _=>false) (fun _ _ _ _ _ _ _=>false) (fun _ _ _ _=>false) (fun _ _ _ _ _ _=>false) ⟨⟩ (fun _ _ _ _=>⟨⟩)
theorem CZ {v:Nat} {A B:Bool} (h:ifN v A B=true):(v≠0∧A=true)∨(v=0∧B=true):=by
 cases v with
 | zero=>exact .inr ⟨rfl,h⟩
 | succ v=>exact .inl ⟨by omega,h⟩
theorem Va {x:FV} {A B:Bool} (h:bH x A B=true):(x.av= .b true∧A=true)∨(x.av= .b false∧B=true):=by
 cases x with
 | n t v=>
   obtain⟨h1,h⟩:=aT h
   have h1:=Nat.eq_of_beq_eq_true h1
   subst h1
   rcases CZ h with ⟨h1,h2⟩ | ⟨h1,h2⟩
   ·exact .inl ⟨by rw [FV.xu,CV,qU h1];rfl,h2⟩
   ·exact .inr ⟨by subst h1;rfl,h2⟩
 | _=>cases h
def tJ (w:Bool):AV→Option Bool
 | .b x=>some (x == w)
 | .cd c (.b x)=>some (c && (x == w))
 | .cd false _=>some false
 | .tu []=>some false
 | _=>none
theorem iJ (e:Env)(n:Nat)(w:Bool):eG e (some (n,w))=tJ w (get e n):=by
 unfold eG tJ
 rfl
noncomputable def Vb (t v:Nat)(w A B:Bool):Bool:=bC (Nat.beq t (nat_lit 1)) (bC w (ifN v A B) (ifN v B A)) false
noncomputable def wantH:FV→Bool→Bool→Bool→Bool:=FV.rec (motive_1:=fun _=>Bool→Bool→Bool→Bool) (motive_2:=fun _=>PUnit) (fun t v w A B=>Vb t v w A B) (fun _ _ _ _ _ _=>false) (fun _ _ _ _ _ _ _ _=>false) (fun _ _ _ _ _=>false) (fun _ _ _ _ _ _ _=>false) ⟨⟩ (fun _ _ _ _=>⟨⟩)
noncomputable def nilF:List FV→Bool:=List.rec (motive:=fun _=>Bool) true (fun _ _ _=>false)
noncomputable def Vd (t a:Nat)(l:List FV)(w A B:Bool):Bool:=bC (Nat.beq t (nat_lit 4)) (ifN a (wantH (hdF l) w A B) B) (bC (Nat.beq t (nat_lit 1)) (bC (nilF l) B false) false)
noncomputable def Ve:FV→Bool→Bool→Bool→Bool:=FV.rec (motive_1:=fun _=>Bool→Bool→Bool→Bool) (motive_2:=fun _=>PUnit) (fun t v w A B=>Vb t v w A B) (fun _ _ _ _ _ _=>false) (fun _ _ _ _ _ _ _ _=>false) (fun _ _ _ _ _=>false) (fun t a l _ w A B=>Vd t a l w A B) ⟨⟩ (fun _ _ _ _=>⟨⟩)
theorem JC {t v:Nat} {w A B:Bool} (h:Vb t v w A B=true):∃x,mM t v= .b x∧(((x == w)=true∧A=true)∨((x == w)=false∧B=true)):=by
 obtain⟨h1,h⟩:=aT h
 have h1:=Nat.eq_of_beq_eq_true h1
 subst h1
 refine⟨_,CV v,?_⟩
 cases w with
 | true=>
   have h:ifN v A B=true:=h
   rcases CZ h with ⟨h1,h2⟩ | ⟨h1,h2⟩
   ·exact .inl ⟨by rw [qU h1];rfl,h2⟩
   ·exact .inr ⟨by subst h1;rfl,h2⟩
 | false=>
   have h:ifN v B A=true:=h
   rcases CZ h with ⟨h1,h2⟩ | ⟨h1,h2⟩
   ·exact .inr ⟨by rw [qU h1];rfl,h2⟩
   ·exact .inl ⟨by subst h1;rfl,h2⟩
theorem Vf {y:FV} {w A B:Bool} (h:wantH y w A B=true):∃x,y.av= .b x∧(((x == w)=true∧A=true)∨((x == w)=false∧B=true)):=by
 cases y with
 | n t v=>exact JC h
 | _=>cases h
theorem tK {y:FV} {w A B:Bool} (h:Ve y w A B=true):(tJ w y.av=some true∧A=true)∨(tJ w y.av=some false∧B=true):=by
 cases y with
 | n t v=>
   obtain⟨x,h1,h2⟩:=JC h
   rw [FV.xu,h1]
   rcases h2 with ⟨h2,h3⟩ | ⟨h2,h3⟩
   ·exact .inl ⟨by simp only [tJ];rw [h2],h3⟩
   ·exact .inr ⟨by simp only [tJ];rw [h2],h3⟩
 | c t a l=>
   have h':Vd t a l w A B=true:=h
   unfold Vd at h'
   rw [FV.CU]
   cases h4:Nat.beq t 4 with
   | true=>
     rw [h4,jE] at h'
     have h4:=Nat.eq_of_beq_eq_true h4
     subst h4
     show (tJ w (.cd (!Nat.beq a 0) (hdA (FV.Qj l)))=some true∧_)∨(tJ w (.cd (!Nat.beq a 0) (hdA (FV.Qj l)))=some false∧_)
     rcases CZ h' with ⟨h1,h2⟩ | ⟨h1,h2⟩
     ·obtain⟨x,q1,q2⟩:=Vf h2
      rw [U7] at q1
      rw [qU h1,q1]
      rcases q2 with ⟨q2,q3⟩ | ⟨q2,q3⟩
      ·exact .inl ⟨by simp only [tJ,Bool.not_false,Bool.true_and];rw [q2],q3⟩
      ·exact .inr ⟨by simp only [tJ,Bool.not_false,Bool.true_and];rw [q2],q3⟩
     ·subst h1
      refine .inr ⟨?_,h2⟩
      show tJ w (.cd false _)=some false
      cases hdA (FV.Qj l) <;> rfl
   | false=>
     rw [h4,jv] at h'
     obtain⟨h1,h'⟩:=aT h'
     obtain⟨h2,h'⟩:=aT h'
     have h1:=Nat.eq_of_beq_eq_true h1
     subst h1
     cases l with
     | nil=>exact .inr ⟨rfl,h'⟩
     | cons _ _=>cases h2
 | _=>cases h
noncomputable def pickN (v:Nat)(a b:FV)(K:KF):Bool:=ifN v (bC (ay a) (K (aC a)) false) (bC (ay b) (K (aC b)) false)
noncomputable def aZ:FV→FV→FV→KF→Bool:=FV.rec (motive_1:=fun _=>FV→FV→KF→Bool) (motive_2:=fun _=>PUnit) (fun t v a b K=>bC (Nat.beq t (nat_lit 1)) (pickN v a b K) false) (fun _ _ _ _ _ _=>false) (fun _ _ _ _ _ _ _ _=>false) (fun _ _ _ _ _=>false) (fun _ _ _ _ _ _ _=>false) ⟨⟩ (fun _ _ _ _=>⟨⟩)
theorem JD (x:Bool)(a b:AV):merge x a b=if x then a else b:=by
 unfold merge
 split
 ·rename_i p q;cases x <;> rfl
 ·rfl
theorem JE {c a b:FV} {K:KF} (h:aZ c a b K=true):∃v:FV,yX c.av a.av b.av=some v.av∧K v=true:=by
 cases c with
 | n t v=>
   obtain⟨h1,h⟩:=aT h
   have h1:=Nat.eq_of_beq_eq_true h1
   subst h1
   unfold yX
   rw [FV.xu,CV]
   rcases CZ h with ⟨h1,h2⟩ | ⟨h1,h2⟩
   ·obtain⟨q1,q2⟩:=aT h2
    rw [Aw] at q1
    refine⟨_,?_,q2⟩
    rw [qU h1]
    simp only [Bool.not_false,Bool.not_true,q1,xX,fQ,jy,Bool.and_self,if_true,JD,Au]
   ·obtain⟨q1,q2⟩:=aT h2
    rw [Aw] at q1
    refine⟨_,?_,q2⟩
    subst h1
    simp only [show Nat.beq 0 0=true from rfl,Bool.not_false,Bool.not_true,q1,xX,fQ,jy,Bool.and_self,if_true,JD,Au,Bool.false_eq_true,if_false]
 | _=>cases h
noncomputable def Vg (c a b:FV)(K:KF):Bool:=bC (ay c) (aZ (aC c) a b fun v=>K (.c (nat_lit 4) (nat_lit 1) [v])) false
theorem Qk {c a b:FV} {K:KF} (h:Vg c a b K=true):∃v:FV,vI true c.av a.av b.av=some v.av∧K v=true:=by
 obtain⟨h1,h⟩:=aT h
 rw [Aw] at h1
 obtain⟨v,h2,h3⟩:=JE h
 refine⟨_,?_,h3⟩
 rw [Au] at h2
 unfold yX at h2
 unfold vI
 split at h2
 ·rename_i x hx
  split at h2
  ·rename_i hc
   have h2:=Option.some.inj h2
   rw [h1]
   simp only [xX,Bool.true_and,hc,if_true]
   rw [U2,←h2]
  ·cases h2
 ·cases h2
noncomputable def Ql (t x:Nat):Bool:=bC (Nat.beq t (nat_lit 36893488147419103233)) (Nat.ble x (nat_lit 9223372036854775807)) (Option.rec (motive:=fun _=>Bool) false (fun k=>IntKind.rec (motive:=fun _=>Bool) (Nat.ble x 127) (Nat.ble x 32767) (Nat.ble x 2147483647) (Nat.ble x 9223372036854775807) (Nat.ble x 255) (Nat.ble x 65535) (Nat.ble x 4294967295) (Nat.ble x 18446744073709551615) k) (kOf t))
theorem Md {t x:Nat} (h:Ql t x=true):∃k,mM t x= .i k x:=by
 unfold Ql at h
 cases ht:Nat.beq t 36893488147419103233 with
 | true=>
   rw [ht,jE] at h
   have ht:t=36893488147419103233:=Nat.eq_of_beq_eq_true ht
   have h:x≤9223372036854775807:=Nat.le_of_ble_eq_true h
   subst ht
   refine⟨.i64,?_⟩
   rw [show (36893488147419103233:Nat)=tg .i64 from rfl,jL,wrap_small .i64 (by simp only [IntKind.signed,IntKind.bits,if_true];omega)]
 | false=>
   rw [ht,jv] at h
   cases hk:kOf t with
   | none=>rw [hk] at h;cases h
   | some k=>
     rw [hk] at h
     refine⟨k,?_⟩
     rw [CQ hk,jL,wrap_small]
     cases k <;> (have h:=Nat.le_of_ble_eq_true h;simp only [IntKind.signed,IntKind.bits,if_true,if_false,Bool.false_eq_true];omega)
noncomputable def Vh (n v m w:Nat):Bool:=bC (Nat.beq n m) (Nat.beq (Mc n v) (Mc m w)) false
theorem G5 (n v m w:Nat):Vh n v m w=(g_ n v == g_ m w):=by
 unfold Vh
 rw [Ar,Ar]
 rw [Bool.eq_iff_iff,beq_iff_eq,JB]
 constructor
 ·intro h
  obtain⟨h1,h2⟩:=aT h
  exact⟨Nat.eq_of_beq_eq_true h1,Nat.eq_of_beq_eq_true h2⟩
 ·rintro ⟨h1,h2⟩
  rw [h1] at h2 ⊢
  rw [Nat.beq_refl,jE,h2,Nat.beq_refl]
noncomputable def dEqSS (y:FV)(n v:Nat)(K:KF):Bool:=match y with
 | .s m w=>kB (Vh n v m w) K
 | _=>false
noncomputable def kV (x y:FV)(K:KF):Bool:=match x with
 | .s n v=>dEqSS y n v K
 | _=>false
noncomputable def dNeSS (y:FV)(n v:Nat)(K:KF):Bool:=match y with
 | .s m w=>kN (Vh n v m w) K
 | _=>false
noncomputable def Vj (x y:FV)(K:KF):Bool:=match x with
 | .s n v=>dNeSS y n v K
 | _=>false
theorem dEqS_ok {x y:FV} {K:KF} (h:kV x y K=true):∃a b,x.av= .s a∧y.av= .s b∧∃v:FV,v.av= .b (a == b)∧K v=true:=by
 unfold kV at h
 split at h
 ·unfold dEqSS at h
  split at h
  ·obtain⟨v,h1,h2⟩:=CY h
   exact⟨_,_,rfl,rfl,v,by rw [h1,G5],h2⟩
  ·cases h
 ·cases h
theorem dNeS_ok {x y:FV} {K:KF} (h:Vj x y K=true):∃a b,x.av= .s a∧y.av= .s b∧∃v:FV,v.av= .b (a != b)∧K v=true:=by
 unfold Vj at h
 split at h
 ·unfold dNeSS at h
  split at h
  ·obtain⟨v,h1,h2⟩:=U6 h
   exact⟨_,_,rfl,rfl,v,by rw [h1,G5];rfl,h2⟩
  ·cases h
 ·cases h
noncomputable def mkS (n v:Nat)(K:KF):Bool:=bC (Nat.ble (nat_lit 0) n) (bC (Nat.ble (nat_lit 0) v) (K (.s n v)) false) false
theorem Vk {n v:Nat} {K:KF} (h:mkS n v K=true):K (.s n v)=true:=by
 unfold mkS at h
 obtain⟨_,h⟩:=aT h
 exact(aT h).2
noncomputable def Vl (y:FV)(n v:Nat)(K:KF):Bool:=match y with
 | .s m w=>bC (Nat.ble (Nat.add n m) (nat_lit 9223372036854775807)) (mkS (Nat.add n m) (Nat.add (Mc n v) (Nat.shiftLeft w (Nat.mul (nat_lit 8) n))) K) false
 | _=>false
noncomputable def EY (x y:FV)(K:KF):Bool:=match x with
 | .s n v=>Vl y n v K
 | _=>false
theorem Vm {x y:FV} {K:KF} (h:EY x y K=true):∃a b,x.av= .s a∧y.av= .s b∧∃v:FV,DU .add a b=some v.av∧K v=true:=by
 unfold EY at h
 split at h
 ·rename_i n v
  unfold Vl at h
  split at h
  ·rename_i m w
   obtain⟨h1,h⟩:=aT h
   have h1:n+m≤9223372036854775807:=Nat.le_of_ble_eq_true h1
   refine⟨_,_,rfl,rfl,_,?_,Vk h⟩
   simp only [DU]
   rw [gK,gK,if_pos h1,FV.yM,←Jz,Ar,U5];rfl
  ·cases h
 ·cases h
noncomputable def fE (x:FV)(K:KF):Bool:=match x with
 | .s n _=>bC (Nat.ble n (nat_lit 9223372036854775807)) (K (.n (nat_lit 36893488147419103233) n)) false
 | _=>false
theorem kJ {n:Nat} (h:n≤9223372036854775807):FV.av (.n 36893488147419103233 n)= .i .i64 n:=by
 rw [FV.xu,show (36893488147419103233:Nat)=tg .i64 from rfl,jL,wrap_small .i64 (by simp only [IntKind.signed,IntKind.bits,if_true];omega)]
theorem JF {n:Nat} (h:n<256):FV.av (.n 512 n)= .i .u8 n:=by
 rw [FV.xu,show (512:Nat)=tg .u8 from rfl,jL,wrap_small .u8 (by simp only [IntKind.signed,IntKind.bits,if_false,Bool.false_eq_true];omega)]
theorem Vo {x:FV} {K:KF} (h:fE x K=true):∃a,x.av= .s a∧∃v:FV,v.av= .i .i64 a.length∧K v=true:=by
 unfold fE at h
 split at h
 ·obtain⟨h1,h⟩:=aT h
  exact⟨_,rfl,_,by rw [kJ (Nat.le_of_ble_eq_true h1),gK],h⟩
 ·cases h
noncomputable def dh (x:FV)(K:KF):Bool:=match x with
 | .sl _ _ _ n _=>bC (Nat.ble n (nat_lit 9223372036854775807)) (K (.n (nat_lit 36893488147419103233) n)) false
 | .n t _=>bC (Nat.beq t (nat_lit 3)) (K (.n (nat_lit 36893488147419103233) (nat_lit 0))) false
 | _=>false
theorem Vp {x:FV} {K:KF} (h:dh x K=true):(∃o g off n z,x.av= .sl o g off n z∧∃v:FV,v.av= .i .i64 n∧K v=true)∨(x.av= .sl0∧∃v:FV,v.av= .i .i64 0∧K v=true):=by
 unfold dh at h
 split at h
 ·obtain⟨h1,h⟩:=aT h
  exact .inl ⟨_,_,_,_,_,rfl,_,kJ (Nat.le_of_ble_eq_true h1),h⟩
 ·obtain⟨h1,h⟩:=aT h
  have h1:=Nat.eq_of_beq_eq_true h1
  subst h1
  exact .inr ⟨rfl,_,kJ (n:=0) (by decide),h⟩
 ·cases h
noncomputable def dIdxI (i:FV)(n v:Nat)(K:KF):Bool:=match i with
 | .n t j=>bC (Ql t j) (bC (Nat.ble (Nat.succ j) n) (xQ (Nat.mod (Nat.shiftRight v (Nat.mul (nat_lit 8) j)) (nat_lit 256)) (nat_lit 512) K) false) false
 | _=>false
noncomputable def dQ (x i:FV)(K:KF):Bool:=match x with
 | .s n v=>dIdxI i n v K
 | _=>false
theorem Vq {x i:FV} {K:KF} (h:dQ x i K=true):∃a k,∃j:Nat,x.av= .s a∧i.av= .i k j∧∃b,a[j]? =some b∧∃v:FV,v.av= .i .u8 b.toNat∧K v=true:=by
 unfold dQ at h
 split at h
 ·rename_i n v
  unfold dIdxI at h
  split at h
  ·rename_i t j
   obtain⟨h1,h⟩:=aT h
   obtain⟨h2,h⟩:=aT h
   obtain⟨k,hk⟩:=Md h1
   have h2:j<n:=Nat.le_of_ble_eq_true h2
   rw [kU] at h
   have hb:v / 256^j%256<256:=Nat.mod_lt _ (by omega)
   refine⟨_,k,j,rfl,hk,_,CX j n v h2,_,?_,h⟩
   have e:Nat.mod (Nat.shiftRight v (Nat.mul 8 j)) 256=v / 256^j%256:=by rw [L_];rfl
   rw [show Nat.mod (Nat.shiftRight v (Nat.mul (nat_lit 8) j)) (nat_lit 256)=v / 256^j%256 from e,JF hb,UInt8.toNat_ofNat']
   have:v / 256^j%256%2^8=v / 256^j%256:=Nat.mod_eq_of_lt hb
   rw [this]
  ·cases h
 ·cases h
noncomputable def G6 (n v a b:Nat)(K:KF):Bool:=bC (Nat.ble a b) (bC (Nat.ble b n) (mkS (Nat.sub b a) (Mc (Nat.sub b a) (Nat.shiftRight v (Nat.mul (nat_lit 8) a))) K) false) false
noncomputable def uS (i:FV)(k:Nat→Bool):Bool:=match i with
 | .n t j=>bC (Ql t j) (k j) false
 | _=>false
theorem jD {i:FV} {k:Nat→Bool} (h:uS i k=true):∃q j,i.av= .i q (j:Nat)∧k j=true:=by
 unfold uS at h
 split at h
 ·obtain⟨h1,h⟩:=aT h
  obtain⟨q,hq⟩:=Md h1
  exact⟨q,_,hq,h⟩
 ·cases h
noncomputable def iq (x:FV)(lo hi:Option FV)(K:KF):Bool:=match x with
 | .s n v=>(match lo,hi with
   | none,none=>K (.s n v)
   | some i,none=>uS i fun a=>G6 n v a n K
   | none,some j=>uS j fun b=>G6 n v (nat_lit 0) b K
   | some i,some j=>uS i fun a=>uS j fun b=>G6 n v a b K)
 | _=>false
theorem yO {n v a b:Nat} {K:KF} (h:G6 n v a b K=true):a≤b∧b≤n∧∃r:FV,r.av= .s (((g_ n v).drop a).take (b - a))∧K r=true:=by
 obtain⟨h1,h⟩:=aT h
 obtain⟨h2,h⟩:=aT h
 have h1:a≤b:=Nat.le_of_ble_eq_true h1
 have h2:b≤n:=Nat.le_of_ble_eq_true h2
 refine⟨h1,h2,_,?_,Vk h⟩
 rw [L9 _ _ _ _ h2,FV.yM]
 have e:Mc (Nat.sub b a) (Nat.shiftRight v (Nat.mul 8 a))=(v / 256^a)%256^(b - a):=by rw [Ar,L_];rfl
 rw [show Mc (Nat.sub b a) (Nat.shiftRight v (Nat.mul (nat_lit 8) a))=(v / 256^a)%256^(b - a) from e]
 exact congrArg AV.s (xB _ _)
theorem Vr {x:FV} {lo hi:Option FV} {K:KF} (h:iq x lo hi K=true):∃a,x.av= .s a∧∃r:FV,((fG a.length a.length (lo.map FV.av) (hi.map FV.av)).map fun r=>AV.s ((a.drop r.1).take (r.2 - r.1)))=some r.av∧K r=true:=by
 unfold iq at h
 split at h
 ·rename_i n v
  refine⟨_,rfl,?_⟩
  rw [gK]
  split at h
  ·exact⟨_,by simp [fG,Ky,Kz,FV.yM,yN,List.take_of_length_le,gK],h⟩
  ·obtain⟨q,a,h1,h2⟩:=jD h
   obtain⟨h3,h4,r,h5,h6⟩:=yO h2
   refine⟨r,?_,h6⟩
   rw [h5]
   simp only [Option.map_some,Option.map_none,h1,fG,Ky,Option.bind_some,Kz]
   rw [if_pos (by omega)];simp
  ·obtain⟨q,b,h1,h2⟩:=jD h
   obtain⟨h3,h4,r,h5,h6⟩:=yO h2
   refine⟨r,?_,h6⟩
   rw [h5]
   simp only [Option.map_some,Option.map_none,h1,fG,Ky]
   rw [if_pos (by omega)];simp [Kz]
  ·obtain⟨q,a,h1,h2⟩:=jD h
   obtain⟨q',b,h1',h2⟩:=jD h2
   obtain⟨h3,h4,r,h5,h6⟩:=yO h2
   refine⟨r,?_,h6⟩
   rw [h5]
   simp only [Option.map_some,h1,h1',fG,Ky]
   rw [if_pos (by omega)]
   simp only [Option.bind_some,Kz]
   rw [if_pos (by omega)];simp
 ·cases h
end Go.dX
namespace Go.dX
inductive GO where
 | cells (g:Nat) (ro:Bool) (e n m:Nat) (d:List FV) (t:Tr FV)
 | iter (g n v pos:Nat)
 | maps (g:Nat) (es:List (FV×FV))
 | dead
 | wo (g e n v:Nat)
structure GS where
 n:Nat
 t:Tr GO
abbrev KS:=FV→GS→Bool
noncomputable def G7:List FV→Nat→FV:=List.rec (motive:=fun _=>Nat→FV) (fun _=>.n (nat_lit 0) (nat_lit 0)) (fun a _ ih k=>Nat.rec (motive:=fun _=>FV) a (fun k _=>ih k) k)
noncomputable def nthK:List FV→Nat→KF→Bool:=List.rec (motive:=fun _=>Nat→KF→Bool) (fun _ K=>K (.n (nat_lit 0) (nat_lit 0))) (fun a _ ih k=>Nat.rec (motive:=fun _=>KF→Bool) (fun K=>K a) (fun k _ K=>ih k K) k)
theorem Ob:∀(l:List FV) (k:Nat) (K:KF),nthK l k K=K (G7 l k)
 | [],_,_=>rfl
 | _ :: _,0,_=>rfl
 | _ :: l,k+1,K=>Ob l k K
theorem G8:∀(l:List FV) (k:Nat),k<l.length→l[k]? =some (G7 l k)
 | [],k,h=>by simp at h
 | a :: l,0,_=>rfl
 | a :: l,k+1,h=>by rw [List.getElem?_cons_succ];exact G8 l k (by simpa using h)
noncomputable def tN (m:Nat)(d:List FV)(t:Tr FV)(i:Nat):FV:=Option.rec (motive:=fun _=>FV) (G7 d (Nat.mod i m)) (fun v=>v) (t.get i)
noncomputable def C9 (m:Nat)(d:List FV)(t:Tr FV)(i:Nat)(K:KF):Bool:=Option.rec (motive:=fun _=>Bool) (nthK d (Nat.mod i m) K) K (t.get i)
theorem xC (m:Nat)(d:List FV)(t:Tr FV)(i:Nat)(K:KF):C9 m d t i K=K (tN m d t i):=by
 unfold C9 tN
 cases t.get i with
 | none=>exact Ob _ _ _
 | some v=>rfl
noncomputable def xE:FV→Bool:=FV.rec (motive_1:=fun _=>Bool) (motive_2:=fun _=>PUnit) (fun t _=>Nat.ble (nat_lit 1) t) (fun _ _ _=>true) (fun _ _ _ _ _=>true) (fun _ _=>true) (fun t _ _ _=>bC (Nat.beq t (nat_lit 4)) false (Nat.ble (nat_lit 2) t)) ⟨⟩ (fun _ _ _ _=>⟨⟩)
theorem oQ {x:FV} (h:xE x=true):x.av.one=true∧x.av.cells=[x.av]:=by
 cases x with
 | n t x=>
   have h1:=U8 t x h
   refine⟨h1,?_⟩
   rw [FV.xu]
   rcases lN t x with ⟨k,_,e⟩ | ⟨_,e⟩ | ⟨_,e⟩ | ⟨_,e⟩ | ⟨_,e⟩ | ⟨_,e⟩ | ⟨_,e⟩ | e <;> (rw [e];rfl)
 | p _ _ _=>exact⟨rfl,rfl⟩
 | sl _ _ _ _ _=>exact⟨rfl,rfl⟩
 | s _ _=>exact⟨rfl,rfl⟩
 | c t a l=>
   have h':bC (Nat.beq t 4) false (Nat.ble 2 t)=true:=h
   have h4:t≠4:=fun e=>by subst e;cases h'
   rw [qU h4,jv] at h'
   have h2:2≤t:=Nat.le_of_ble_eq_true h'
   rw [FV.CU]
   rcases qR t a (FV.Qj l) with ⟨e,q⟩ | ⟨e,q⟩ | ⟨e,q⟩ | ⟨e,q⟩ | ⟨e,q⟩ | ⟨e,q⟩ | ⟨e,q⟩
   ·omega
   ·omega
   ·rw [q];exact⟨rfl,rfl⟩
   ·rw [q];exact⟨rfl,rfl⟩
   ·omega
   ·rw [q];exact⟨rfl,rfl⟩
   ·rw [q];exact⟨rfl,rfl⟩
noncomputable def jQ:List FV→Bool:=List.rec (motive:=fun _=>Bool) true (fun a _ ih=>bC (xE a) ih false)
theorem lQ {a:FV} {l:List FV} (h:jQ (a :: l)=true):xE a=true∧jQ l=true:=aT h
theorem yP:∀(l:List FV) (k:Nat),jQ l=true→k<l.length→xE (G7 l k)=true
 | [],k,_,h=>by simp at h
 | a :: l,0,h,_=>(lQ h).1
 | a :: l,k+1,h,hk=>yP l k (lQ h).2 (by simpa using hk)
theorem tV:∀l:List FV,jQ l=true→(l.map FV.av).all AV.one=true
 | [],_=>rfl
 | a :: l,h=>by
   obtain⟨h1,h2⟩:=lQ h
   simp only [List.map_cons,List.all_cons,(oQ h1).1,tV l h2,Bool.and_self]
structure eH (n m:Nat)(d:List FV)(t:Tr FV)(cs:List AV):Prop where
 len:cs.length=n
 at_:∀i,i<n→cs[i]? =some (tN m d t i).av
 one:∀i,i<n→xE (tN m d t i)=true
theorem eH.list {d:List FV} (h:jQ d=true):eH d.length d.length d .lf (d.map FV.av):=by
 have hg:∀i,i<d.length→tN d.length d .lf i=G7 d i:=fun i hi=>by
  show G7 d (i%d.length)=_
  rw [Nat.mod_eq_of_lt hi]
 refine⟨by simp,fun i hi=>?_,fun i hi=>?_⟩
 ·rw [hg i hi,List.getElem?_map,G8 d i hi];rfl
 ·rw [hg i hi];exact yP d i h hi
theorem eH.rep {d:List FV} (h:jQ d=true)(k:Nat):eH (k*d.length) d.length d .lf (dN (d.map FV.av) k):=by
 have hz:∀i,i<k*d.length→i%d.length<d.length:=fun i hi=>by
  rcases Nat.eq_zero_or_pos d.length with h0 | h0
  ·rw [h0] at hi;omega
  ·exact Nat.mod_lt _ h0
 refine⟨by rw [jJ];simp,fun i hi=>?_,fun i hi=>?_⟩
 ·have h1:=hz i hi
  rw [NY _ (by simp;omega) k i (by simpa using hi),List.length_map,List.getElem?_map,G8 d _ h1];rfl
 ·exact yP d _ h (hz i hi)
theorem Oc {n m:Nat} {d:List FV} {t:Tr FV} {cs:List AV} (h:eH n m d t cs) {i:Nat} {v:FV} {K:Tr FV→Bool} (hi:i<n)(hv:xE v=true)(hk:t.set i v K=true):∃t',K t'= true∧eH n m d t' (cs.set i v.av):=by
 obtain⟨t',h1,h2⟩:=Tr.vT hk
 have hg:∀j,tN m d t' j=if j=i then v else tN m d t j:=by
  intro j
  unfold tN
  rw [h2]
  by_cases hj:j=i
  ·rw [if_pos hj,if_pos hj]
  ·rw [if_neg hj,if_neg hj]
 have hl:=h.len
 refine⟨t',h1,by simp [hl],fun j hj=>?_,fun j hj=>?_⟩
 ·rw [hg,List.getElem?_set]
  by_cases hji:i=j
  ·subst hji;rw [if_pos rfl,if_pos rfl,if_pos (by omega)]
  ·rw [if_neg hji,if_neg (fun e=>hji e.symm)];exact h.at_ j hj
 ·rw [hg]
  split
  ·exact hv
  ·exact h.one j hj
noncomputable def rF:List FV→Tr FV→Nat→(Tr FV→Bool)→Bool:=List.rec (motive:=fun _=>Tr FV→Nat→(Tr FV→Bool)→Bool) (fun t _ K=>K t) (fun y _ ih t off K=>bC (xE y) (t.set off y fun t=>ih t (Nat.succ off) K) false)
theorem qy:∀(ys:List FV) {n m:Nat} {d:List FV} {t:Tr FV} {cs:List AV} (_:eH n m d t cs) {off:Nat} {K:Tr FV→Bool} (_:off+ys.length≤n) (_:rF ys t off K=true),∃t',K t'= true∧eH n m d t' (setCells cs off (ys.map FV.av))∧(ys.map FV.av).all AV.one=true
 | [],_,_,_,t,_,h,_,_,_,hk=>⟨t,hk,h,rfl⟩
 | y :: ys,_,_,_,t,_,h,off,K,hl,hk=>by
   simp only [List.length_cons] at hl
   have hk':bC (xE y) (t.set off y fun t=>rF ys t (off+1) K) false=true:=hk
   obtain⟨h0,hk'⟩:=aT hk'
   obtain⟨t1,h1,h2⟩:=Oc h (by omega) h0 hk'
   obtain⟨t2,q1,q2,q3⟩:=qy ys h2 (by omega) h1
   refine⟨t2,q1,q2,?_⟩
   simp only [List.map_cons,List.all_cons,(oQ h0).1,q3,Bool.and_self]
noncomputable def EZ (m:Nat)(d:List FV)(t:Tr FV):Nat→Nat→(List FV→Bool)→Bool:=Nat.rec (motive:=fun _=>Nat→(List FV→Bool)→Bool) (fun _ K=>K []) (fun _ ih off K=>C9 m d t off fun v=>ih (Nat.succ off) fun l=>K (v :: l))
theorem JG {n m:Nat} {d:List FV} {t:Tr FV} {cs:List AV} (h:eH n m d t cs):∀(k off:Nat) {K:List FV→Bool} (_:off+k≤n) (_:EZ m d t k off K=true),∃l,K l=true∧l.map FV.av=(cs.drop off).take k∧jQ l=true
 | 0,off,K,_,hk=>⟨[],hk,by rw [List.take_zero];rfl,rfl⟩
 | k+1,off,K,hl,hk=>by
   have hk':C9 m d t off (fun v=>EZ m d t k (off+1) fun l=>K (v :: l))=true:=hk
   rw [xC] at hk'
   obtain⟨l,h1,h2,h3⟩:=JG h k (off+1) (by omega) hk'
   refine⟨_,h1,?_,?_⟩
   ·have hc:=h.at_ off (by omega)
    obtain⟨hlt,hv⟩:=List.getElem?_eq_some_iff.1 hc
    rw [←List.getElem_cons_drop hlt,List.take_succ_cons,hv,List.map_cons,h2]
   ·show bC (xE _) (jQ l) false=true
    rw [h.one off (by omega),jE];exact h3
noncomputable def JH:Nat→List FV→List FV:=Nat.rec (motive:=fun _=>List FV→List FV) (fun l=>l) (fun _ ih l=>List.rec (motive:=fun _=>List FV) [] (fun _ r _=>ih r) l)
theorem xG:∀(k:Nat) (l:List FV),JH k l=l.drop k
 | 0,_=>rfl
 | k+1,[]=>by rw [List.drop_nil];rfl
 | k+1,_ :: r=>xG k r
noncomputable def rngL (t:Tr FV):Nat→Nat→List FV→(List FV→Bool)→Bool:=Nat.rec (motive:=fun _=>Nat→List FV→(List FV→Bool)→Bool) (fun _ _ K=>K [])
 (fun _ ih off l K=>List.rec (motive:=fun _=>Bool) false (fun a r _=>Option.rec (motive:=fun _=>Bool) (ih (Nat.succ off) r fun q=>K (a :: q)) (fun v=>ih (Nat.succ off) r fun q=>K (v :: q)) (t.get off)) l)
theorem E5:∀(k:Nat) (d:List FV) {a:FV} {r:List FV},d.drop k=a :: r→G7 d k=a∧d.drop (k+1)=r
 | 0,d,a,r,h=>by rw [List.drop_zero] at h;subst h;exact⟨rfl,rfl⟩
 | k+1,[],a,r,h=>by simp at h
 | k+1,_ :: d,a,r,h=>E5 k d h
theorem G9 {m:Nat} {d:List FV} {t:Tr FV} :∀(k off:Nat) {l:List FV} {K:List FV→Bool} (_:off+k≤m) (_:d.drop off=l) (_:rngL t k off l K=true),EZ m d t k off K=true
 | 0,_,_,_,_,_,h=>h
 | k+1,off,l,K,hm,hl,h=>by
   cases l with
   | nil=>cases h
   | cons a r=>
     obtain⟨h1,h2⟩:=E5 off d hl
     show C9 m d t off (fun v=>EZ m d t k (off+1) fun l=>K (v :: l))=true
     rw [xC]
     have hmod:off%m=off:=Nat.mod_eq_of_lt (by omega)
     have h':Option.rec (motive:=fun _=>Bool) (rngL t k (off+1) r fun q=>K (a :: q)) (fun v=>rngL t k (off+1) r fun q=>K (v :: q)) (t.get off)=true:=h
     have hg:tN m d t off=Option.rec (motive:=fun _=>FV) (G7 d (off%m)) (fun v=>v) (t.get off):=rfl
     rw [hg,hmod,h1]
     cases ht:t.get off with
     | none=>rw [ht] at h';exact G9 k (off+1) (by omega) h2 h'
     | some v=>rw [ht] at h';exact G9 k (off+1) (by omega) h2 h'
noncomputable def G_ (m:Nat)(d:List FV)(t:Tr FV)(k off:Nat)(K:List FV→Bool):Bool:=bC (Nat.ble (Nat.add off k) m) (rngL t k off (JH off d) K) (EZ m d t k off K)
theorem Vs {m:Nat} {d:List FV} {t:Tr FV} {k off:Nat} {K:List FV→Bool} (h:G_ m d t k off K=true):EZ m d t k off K=true:=by
 unfold G_ at h
 cases hb:Nat.ble (Nat.add off k) m with
 | true=>
   rw [hb,jE] at h
   exact G9 k off (Nat.le_of_ble_eq_true hb) (xG _ _).symm h
 | false=>rw [hb,jv] at h;exact h
theorem uJ {n m:Nat} {d:List FV} {t:Tr FV} {cs:List AV} (h:eH n m d t cs)(k off:Nat) {K:List FV→Bool} (hl:off+k≤n)(hk:G_ m d t k off K=true):∃l,K l=true∧l.map FV.av=(cs.drop off).take k∧jQ l=true:=JG h k off hl (Vs hk)
noncomputable def Oe:Nat→List FV→List FV:=Nat.rec (motive:=fun _=>List FV→List FV) (fun _=>[]) (fun _ ih l=>List.rec (motive:=fun _=>List FV) [] (fun a r _=>a :: ih r) l)
theorem C_:∀(k:Nat) (l:List FV),Oe k l=l.take k
 | 0,l=>by rw [List.take_zero];rfl
 | k+1,[]=>by rw [List.take_nil];rfl
 | k+1,a :: r=>congrArg (a :: ·) (C_ k r)
theorem setCells_eq:∀(ys cs:List AV) (off:Nat),off+ys.length≤cs.length→setCells cs off ys=cs.take off ++ (ys ++ cs.drop (off+ys.length))
 | [],cs,off,_=>by simp [setCells]
 | y :: ys,cs,off,hl=>by
   simp only [List.length_cons] at hl
   have hlt:off<cs.length:=by omega
   simp only [setCells]
   rw [setCells_eq ys (cs.set off y) (off+1) (by simp;omega)]
   rw [List.take_add_one,List.take_set_of_le (Nat.le_refl off),List.getElem?_set_self hlt,List.drop_set_of_lt (by omega)]
   simp [List.append_assoc,Nat.add_assoc,Nat.add_comm 1]
noncomputable def Dc (a b:List FV):List FV:=List.rec (motive:=fun _=>List FV) b (fun x _ ih=>x :: ih) a
theorem qV:∀(a b:List FV),Dc a b=a ++ b
 | [],_=>rfl
 | x :: a,b=>congrArg (x :: ·) (qV a b)
noncomputable def bigS (n m:Nat)(d:List FV)(t:Tr FV)(z off:Nat)(l:List FV)(K:List FV→Bool):Bool:=G_ m d t off (nat_lit 0) fun p=>G_ m d t (Nat.sub n (Nat.add off z)) (Nat.add off z) fun q=>fSp (Dc p (Dc l q)) fun l'=>bC (jQ l') (K l') false
theorem bigS_ok {n m:Nat} {d:List FV} {t:Tr FV} {cs:List AV} (h:eH n m d t cs) {z off:Nat} {l:List FV} (hz:l.length=z)(hl:off+z≤n) {K:List FV→Bool} (hk:bigS n m d t z off l K=true) :
 ∃ l',K l'= true∧eH n n l' .lf (setCells cs off (l.map FV.av))∧(l.map FV.av).all AV.one=true:=by
 obtain⟨p,k1,k2,_⟩:=uJ h off 0 (by omega) hk
 obtain⟨q,k3,k4,_⟩:=uJ h (n - (off+z)) (off+z) (by omega) k1
 rw [vS] at k3
 obtain⟨k5,k6⟩:=aT k3
 have hlen:=h.len
 have he:(Dc p (Dc l q)).map FV.av=setCells cs off (l.map FV.av):=by
  rw [qV,qV,List.map_append,List.map_append,k2,k4,setCells_eq _ _ _ (by rw [List.length_map,hz];omega),List.drop_zero,List.length_map,hz]
  congr 2
  rw [List.take_of_length_le (by rw [List.length_drop];omega)]
 have hn:(Dc p (Dc l q)).length=n:=by
  have:=congrArg List.length he
  rw [List.length_map,jZ] at this
  omega
 refine⟨_,k6,?_,?_⟩
 ·have hc:=eH.list k5
  rw [hn,he] at hc
  exact hc
 ·have ha:=tV _ k5
  rw [qV,qV,List.map_append,List.map_append,List.all_append,List.all_append,Bool.and_eq_true,Bool.and_eq_true] at ha
  exact ha.2.1
noncomputable def yQ (es:List (FV×FV)):List (AV×AV):=es.map fun p=>(p.1.av,p.2.av)
noncomputable def GO.Is:GO→AO→Prop
 | .cells g ro e n m d t,a=>∃cs,a=⟨g,ro,.cells e cs⟩∧eH n m d t cs
 | .iter g n v pos,a=>a=⟨g,false,.iter (g_ n v) pos⟩
 | .maps g es,a=>a=⟨g,false,.maps (yQ es)⟩
 | .dead,_=>True
 | .wo g e n v,a=>a=⟨g,false,.wo e (g_ n v)⟩
noncomputable def GS.Is (s:GS)(σ:St):Prop:=σ.length=s.n∧∀o f,s.t.get o=some f→∃a,σ[o]? =some a∧f.Is a
noncomputable def GS.new (s:GS)(f:GO)(K:Nat→GS→Bool):Bool:=fN s.n fun n=>s.t.set n f fun t=>K n ⟨Nat.succ n,t⟩
theorem GS.tC {s:GS} {σ:St} (h:s.Is σ) {f:GO} {a:AO} (hf:f.Is a) {K:Nat→GS→Bool} (hk:s.new f K=true):∃s',K σ.length s'= true∧s'.Is (σ ++ [a]):=by
 unfold GS.new at hk
 rw [kT] at hk
 obtain⟨t',h1,h2⟩:=Tr.vT hk
 have hl:=h.1
 rw [←hl] at h1 h2
 refine⟨_,h1,by simp,fun o f' ho=>?_⟩
 have ho':t'.get o=some f':=ho
 rw [h2] at ho'
 by_cases he:o=σ.length
 ·rw [if_pos he] at ho';cases ho'
  subst he
  exact⟨a,by simp,hf⟩
 ·rw [if_neg he] at ho'
  obtain⟨a',q1,q2⟩:=h.2 o f' ho'
  have:=(List.getElem?_eq_some_iff.1 q1).1
  exact⟨a',by rw [List.getElem?_append_left this];exact q1,q2⟩
noncomputable def GS.put (s:GS)(o:Nat)(f:GO)(K:GS→Bool):Bool:=s.t.set o f fun t=>K ⟨s.n,t⟩
theorem GS.nZ {s:GS} {σ:St} (h:s.Is σ) {o:Nat} (ho:o<σ.length) {f:GO} {a:AO} (hf:f.Is a) {K:GS→Bool} (hk:s.put o f K=true):∃s',K s'= true∧s'.Is (σ.set o a):=by
 obtain⟨t',h1,h2⟩:=Tr.vT hk
 have hl:=h.1
 refine⟨_,h1,by simp [hl],fun j f' hj=>?_⟩
 have hj':t'.get j=some f':=hj
 rw [h2] at hj'
 rw [List.getElem?_set]
 by_cases he:j=o
 ·rw [if_pos he] at hj';cases hj'
  subst he
  exact⟨a,by rw [if_pos rfl,if_pos ho],hf⟩
 ·rw [if_neg he] at hj'
  rw [if_neg (fun e=>he e.symm)]
  exact h.2 j f' hj'
theorem GS.cells_at {s:GS} {σ:St} (h:s.Is σ) {o g e n m:Nat} {ro:Bool} {d:List FV} {t:Tr FV} (ho:s.t.get o=some (.cells g ro e n m d t)):∃cs,σ[o]? =some ⟨g,ro,.cells e cs⟩∧eH n m d t cs:=by
 obtain⟨a,h1,cs,rfl,h2⟩:=h.2 _ _ ho
 exact⟨cs,h1,h2⟩
theorem xH {σ:St} {o:Nat} {a:AO} (h:σ[o]? =some a):o<σ.length:=(List.getElem?_eq_some_iff.1 h).1
theorem jP {σ:St} {o g e:Nat} {ro:Bool} {cs:List AV} (h:σ[o]? =some ⟨g,ro,.cells e cs⟩):jh σ o g=some cs:=by
 unfold jh;rw [h];simp
noncomputable def Df (f:Option GO)(g:Nat)(K:Bool→Nat→Nat→Nat→List FV→Tr FV→Bool):Bool:=Option.rec (motive:=fun _=>Bool) false (fun f=>GO.rec (motive:=fun _=>Bool) (fun g' ro e n m d t=>bC (Nat.beq g g') (K ro e n m d t) false) (fun _ _ _ _=>false) (fun _ _=>false) false (fun _ _ _ _=>false) f) f
theorem lX {s:GS} {σ:St} (h:s.Is σ) {o g:Nat} {K:Bool→Nat→Nat→Nat→List FV→Tr FV→Bool} (hk:Df (s.t.get o) g K=true):∃ro e n m d t cs,σ[o]? =some ⟨g,ro,.cells e cs⟩∧eH n m d t cs∧K ro e n m d t=true:=by
 cases ho:s.t.get o with
 | none=>rw [ho] at hk;cases hk
 | some f=>
   rw [ho] at hk
   cases f with
   | cells g' ro e n m d t=>
     obtain⟨h1,h2⟩:=aT hk
     obtain⟨cs,q1,q2⟩:=GS.cells_at h ho
     rw [Nat.eq_of_beq_eq_true h1]
     exact⟨_,_,_,_,_,_,cs,q1,q2,h2⟩
   | _=>cases hk
noncomputable def ah (x:FV)(s:GS)(K:KF):Bool:=FV.rec (motive_1:=fun _=>GS→KF→Bool) (motive_2:=fun _=>PUnit) (fun _ _ _ _=>false) (fun o g off s K=>Df (s.t.get o) g fun _ _ n m d t=>bC (Nat.ble (Nat.succ off) n) (C9 m d t off K) false) (fun _ _ _ _ _ _ _=>false) (fun _ _ _ _=>false) (fun _ _ _ _ _ _=>false) ⟨⟩ (fun _ _ _ _=>⟨⟩) x s K
section
variable {s:GS} {σ:St} (h:s.Is σ)
include h
theorem E8 {T:AT} (hT:T.d.agg=false) {x:FV} {K:KF} (hk:ah x s K=true):∃v:FV,lY (some T) x.av σ=some v.av∧K v=true:=by
 cases x with
 | p o g off=>
   obtain⟨ro,e,n,m,d,t,cs,h1,h2,h3⟩:=lX h hk
   obtain⟨h4,h5⟩:=aT h3
   rw [xC] at h5
   refine⟨_,?_,h5⟩
   rw [FV.CS]
   simp only [lY]
   rw [jP h1]
   simp only [Option.bind_some,partOf,hT,Bool.false_eq_true,if_false]
   exact h2.at_ off (Nat.le_of_ble_eq_true h4)
 | _=>cases hk
noncomputable def cO (z:Nat)(x:FV)(s:GS)(K:KF):Bool:=match x with
 | .p o g off=>Df (s.t.get o) g fun _ _ n m d t=>bC (Nat.ble (Nat.add off z) n) (G_ m d t z off fun l=>K (.c (nat_lit 0) (nat_lit 0) l)) false
 | _=>false
theorem E_ {T:AT} (hT:T.d.agg=true) {x:FV} {K:KF} (hk:cO T.size x s K=true):∃v:FV,lY (some T) x.av σ=some v.av∧K v=true:=by
 unfold cO at hk
 split at hk
 ·rename_i o g off
  obtain⟨ro,e,n,m,d,t,cs,h1,h2,h3⟩:=lX h hk
  obtain⟨h4,h5⟩:=aT h3
  have h4:off+T.size≤n:=Nat.le_of_ble_eq_true h4
  obtain⟨l,q1,q2,q3⟩:=uJ h2 T.size off h4 h5
  refine⟨_,?_,q1⟩
  rw [FV.CS]
  simp only [lY]
  rw [jP h1]
  simp only [Option.bind_some,partOf,hT,if_true]
  rw [if_pos (by rw [h2.len];exact h4),oP]
  rw [show l.map FV.av=(cs.drop off).take T.size from q2]
 ·cases hk
noncomputable def aS (x y:FV)(s:GS)(K:GS→Bool):Bool:=match x with
 | .p o g off=>bC (xE y) (Df (s.t.get o) g fun ro e n m d t=>bC ro false (bC (Nat.ble (Nat.succ off) n) (t.set off y fun t'=>s.put o (.cells g false e n m d t') K) false)) false
 | _=>false
theorem Dh {T:AT} (hT:T.size=1) {x y:FV} {K:GS→Bool} (hk:aS x y s K=true):∃σ' s',jB (some T) x.av y.av σ=some σ'∧s'.Is σ'∧K s'= true:=by
 unfold aS at hk
 split at hk
 ·rename_i o g off
  obtain⟨h0,hk⟩:=aT hk
  obtain⟨ro,e,n,m,d,t,cs,h1,h2,h3⟩:=lX h hk
  cases ro with
  | true=>cases h3
  | false=>
    rw [jv] at h3
    obtain⟨h4,h5⟩:=aT h3
    have h4:off<n:=Nat.le_of_ble_eq_true h4
    obtain⟨t',q1,q2⟩:=Oc h2 h4 h0 h5
    obtain⟨s',r1,r2⟩:=GS.nZ h (xH h1) (f:=.cells g false e n m d t') (a:=⟨g,false,.cells e (cs.set off y.av)⟩) ⟨_,rfl,q2⟩ q1
    obtain⟨w1,w2⟩:=oQ h0
    refine⟨_,s',?_,r2,r1⟩
    rw [FV.CS]
    simp only [jB,h1]
    rw [w2,if_pos (by refine⟨trivial,trivial,by rw [hT];rfl,by simp [w1],by rw [hT,h2.len];omega⟩)]
    rfl
 ·cases hk
noncomputable def bJ (z:Nat)(x y:FV)(s:GS)(K:GS→Bool):Bool:=match x,y with
 | .p o g off,.c 0 _ l=>bC (Nat.beq l.length z) (Df (s.t.get o) g fun ro e n m d t=>bC ro false (bC (Nat.ble (Nat.add off z) n) (bC (bC (Nat.ble (nat_lit 12) z) (Nat.ble n (Nat.add z z)) false) (bigS n m d t z off l fun l'=>s.put o (.cells g false e n n l' .lf) K) (rF l t off fun t'=>s.put o (.cells g false e n m d t') K)) false)) false
 | _,_=>false
theorem Me {T:AT} {x y:FV} {K:GS→Bool} (hk:bJ T.size x y s K=true):∃σ' s',jB (some T) x.av y.av σ=some σ'∧s'.Is σ'∧K s'= true:=by
 unfold bJ at hk
 split at hk
 ·rename_i o g off a l
  obtain⟨h0,hk⟩:=aT hk
  have h0:=Nat.eq_of_beq_eq_true h0
  obtain⟨ro,e,n,m,d,t,cs,h1,h2,h3⟩:=lX h hk
  cases ro with
  | true=>cases h3
  | false=>
    rw [jv] at h3
    obtain⟨h4,h5⟩:=aT h3
    have h4:off+T.size≤n:=Nat.le_of_ble_eq_true h4
    obtain⟨s',r1,r2,q3⟩:∃s',K s'= true∧s'.Is (σ.set o ⟨g,false,.cells e (setCells cs off (l.map FV.av))⟩)∧(l.map FV.av).all AV.one=true:=by
        cases hb:bC (Nat.ble (nat_lit 12) T.size) (Nat.ble n (Nat.add T.size T.size)) false with
        | true=>
          rw [hb,jE] at h5
          obtain⟨l',q1,q2,q3⟩:=bigS_ok h2 h0 h4 h5
          obtain⟨s',r1,r2⟩:=GS.nZ h (xH h1) (f:=.cells g false e n n l' .lf) (a:=⟨g,false,.cells e (setCells cs off (l.map FV.av))⟩) ⟨_,rfl,q2⟩ q1
          exact⟨s',r1,r2,q3⟩
        | false=>
          rw [hb,jv] at h5
          obtain⟨t',q1,q2,q3⟩:=qy l h2 (by omega) h5
          obtain⟨s',r1,r2⟩:=GS.nZ h (xH h1) (f:=.cells g false e n m d t') (a:=⟨g,false,.cells e (setCells cs off (l.map FV.av))⟩) ⟨_,rfl,q2⟩ q1
          exact⟨s',r1,r2,q3⟩
    refine⟨_,s',?_,r2,r1⟩
    rw [FV.CS,oP]
    simp only [jB,h1,AV.cells]
    rw [if_pos (by refine⟨trivial,trivial,by rw [List.length_map];exact h0,q3,by rw [h2.len];omega⟩)]
 ·cases hk
noncomputable def newD (e n m:Nat)(d:List FV)(s:GS)(K:Nat→GS→Bool):Bool:=s.new (.cells (nat_lit 0) false e n m d .lf) K
theorem Og {e n m:Nat} {d:List FV} {cs:List AV} (hc:eH n m d .lf cs) {K:Nat→GS→Bool} (hk:newD e n m d s K=true):∃s',K σ.length s'= true∧s'.Is (dD e cs σ):=
 GS.tC h (f:=.cells 0 false e n m d .lf) (a:=⟨0,false,.cells e cs⟩) ⟨cs,rfl,hc⟩ hk
end
noncomputable def newL (e:Nat)(l:List FV)(s:GS)(K:Nat→GS→Bool):Bool:=bC (jQ l) (fN l.length fun n=>newD e n n l s K) false
noncomputable def newT (e:Nat)(l:List FV)(s:GS)(K:Nat→GS→Bool):Bool:=fN l.length fun n=>rF l .lf (nat_lit 0) fun t=>s.new (.cells (nat_lit 0) false e n (nat_lit 1) [.n (nat_lit 1) (nat_lit 0)] t) K
section
variable {s:GS} {σ:St} (h:s.Is σ)
include h
theorem He {e:Nat} {l:List FV} {K:Nat→GS→Bool} (hk:newL e l s K=true):∃s',K σ.length s'= true∧s'.Is (dD e (l.map FV.av) σ):=by
 obtain⟨h1,h2⟩:=aT hk
 rw [kT] at h2
 exact Og h (eH.list h1) h2
theorem Hf {e:Nat} {l:List FV} {K:Nat→GS→Bool} (hk:newT e l s K=true):∃s',K σ.length s'= true∧s'.Is (dD e (l.map FV.av) σ):=by
 unfold newT at hk
 rw [kT] at hk
 have hb:=eH.rep (d:=[.n 1 0]) rfl l.length
 rw [show l.length*[FV.n 1 0].length=l.length by simp,show [FV.n 1 0].length=1 from rfl] at hb
 obtain⟨t',h1,h2,h3⟩:=qy l hb (off:=0) (by omega) hk
 have e1:setCells (dN ([FV.n 1 0].map FV.av) l.length) 0 (l.map FV.av)=l.map FV.av:=by
  have:=lW (l.map FV.av) [] (dN ([FV.n 1 0].map FV.av) l.length) (by rw [jJ];simp)
  simpa using this
 rw [e1] at h2
 exact GS.tC h (f:=.cells 0 false e l.length 1 [.n 1 0] t') (a:=⟨0,false,.cells e (l.map FV.av)⟩) ⟨_,rfl,h2⟩ h1
end
end Go.dX
namespace Go.dX
def QH (o:Option (AV×St))(K:KS):Prop:=∃v σ' s',o=some (FV.av v,σ')∧GS.Is s' σ'∧K v s'= true
noncomputable def Hg:Nat→Nat→(List FV→Bool)→Bool:=Nat.rec (motive:=fun _=>Nat→(List FV→Bool)→Bool) (fun _ K=>K []) (fun _ ih v K=>xQ (Nat.mod v (nat_lit 256)) (nat_lit 512) fun b=>ih (Nat.div v (nat_lit 256)) fun l=>K (b :: l))
def byA (b:UInt8):AV:=.i .u8 b.toNat
theorem yR:∀(n v:Nat) {K:List FV→Bool} (_:Hg n v K=true),∃l,K l=true∧l.map FV.av=(g_ n v).map byA∧l.length=n∧jQ l=true
 | 0,v,K,hk=>⟨[],hk,rfl,rfl,rfl⟩
 | n+1,v,K,hk=>by
   have hk':xQ (v%256) 512 (fun b=>Hg n (v / 256) fun l=>K (b :: l))=true:=hk
   rw [kU] at hk'
   obtain⟨l,h1,h2,h3,h4⟩:=yR n _ hk'
   have hb:v%256<256:=Nat.mod_lt _ (by omega)
   refine⟨_,h1,?_,by rw [List.length_cons,h3],?_⟩
   ·rw [fJ,List.map_cons,List.map_cons,h2,JF hb]
    have e2:v%256%2^8=v%256:=Nat.mod_eq_of_lt hb
    simp only [byA,UInt8.toNat_ofNat',e2]
   ·show bC (xE (.n 512 (v%256))) (jQ l) false=true
    rw [h4];rfl
noncomputable def srcG (z:Nat)(x:FV)(s:GS)(K:Nat→List FV→Bool):Bool:=match x with
 | .n t _=>bC (Nat.beq t (nat_lit 3)) (K (nat_lit 0) []) false
 | .sl o g off n z'=>bC (Nat.beq z' z) (Df (s.t.get o) g fun _ _ n' m d t=>bC (Nat.ble (Nat.add off (Nat.mul n z)) n') (G_ m d t (Nat.mul n z) off fun l=>K n l) false) false
 | .s n v=>bC (Nat.beq z (nat_lit 1)) (Hg n v fun l=>K n l) false
 | _=>false
section
variable {s:GS} {σ:St} (h:s.Is σ)
include h
theorem Oh {z:Nat} {x:FV} {K:Nat→List FV→Bool} (hk:srcG z x s K=true):∃n l,jq z x.av σ=some (n,l.map FV.av)∧K n l=true∧jQ l=true:=by
 unfold srcG at hk
 split at hk
 ·rename_i t x
  obtain⟨h1,hk⟩:=aT hk
  have h1:=Nat.eq_of_beq_eq_true h1
  subst h1
  exact⟨0,[],rfl,hk,rfl⟩
 ·rename_i o g off n z'
  obtain⟨h1,hk⟩:=aT hk
  have h1:=Nat.eq_of_beq_eq_true h1
  obtain⟨ro,e,n',m,d,t,cs,q1,q2,q3⟩:=lX h hk
  obtain⟨h4,h5⟩:=aT q3
  have h4:off+n*z≤n':=Nat.le_of_ble_eq_true h4
  obtain⟨l,r1,r2,r3⟩:=uJ q2 _ off h4 h5
  refine⟨n,l,?_,r1,r3⟩
  rw [FV.xw]
  simp only [jq]
  rw [if_pos h1,jP q1]
  simp only [Option.bind_some]
  rw [if_pos (by rw [q2.len];exact h4),show List.map FV.av l=_ from r2]
 ·rename_i n v
  obtain⟨h1,hk⟩:=aT hk
  have h1:=Nat.eq_of_beq_eq_true h1
  obtain⟨l,r1,r2,r3,r4⟩:=yR n v hk
  refine⟨n,l,?_,r1,r4⟩
  rw [FV.yM]
  simp only [jq]
  rw [if_pos h1,gK,r2];rfl
 ·cases hk
end
noncomputable def appO (e z b n m:Nat)(ys:List FV)(o off g:Nat)(s:GS)(K:KS)(ro:Bool)(e' n' m':Nat)(d:List FV)(t:Tr FV):Bool:=
 bC ro false (bC (Nat.beq e' e) (bC (Nat.ble (Nat.add off (Nat.mul n z)) n') (bC (Nat.ble (Nat.mul (Nat.add n m) b) (nat_lit 140737488355328)) (fN (Nat.add n m) fun nm=>fN (Nat.mul n z) fun q=>fN (Nat.mul nm z) fun nz=>
  bC (Nat.beq off (nat_lit 0))
   (rF ys t q fun t'=>s.put o (.cells (Nat.succ g) false e nz m' d t') fun s'=>K (.sl o (Nat.succ g) (nat_lit 0) nm z) s')
   (G_ m' d t q off fun l=>rF l .lf (nat_lit 0) fun t'=>rF ys t' q fun t'=>s.put o (.cells (Nat.succ g) false e nz (nat_lit 1) [.n (nat_lit 1) (nat_lit 0)] t') fun s'=>K (.sl o (Nat.succ g) (nat_lit 0) nm z) s')) false) false) false)
noncomputable def appTo (e z b:Nat)(x:FV)(m:Nat)(ys:List FV)(s:GS)(K:KS):Bool:=match x with
 | .n t _=>bC (Nat.beq t (nat_lit 3)) (bC (Nat.ble (Nat.mul m b) (nat_lit 140737488355328)) (newT e ys s fun o s'=>K (.sl o (nat_lit 0) (nat_lit 0) m z) s') false) false
 | .sl o g off n z'=>bC (Nat.beq z' z) (Df (s.t.get o) g fun ro e' n' m' d t=>appO e z b n m ys o off g s K ro e' n' m' d t) false
 | _=>false
noncomputable def isSl:FV→Bool:=FV.rec (motive_1:=fun _=>Bool) (motive_2:=fun _=>PUnit) (fun t _=>Nat.beq t (nat_lit 3)) (fun _ _ _=>false) (fun _ _ _ _ _=>true) (fun _ _=>false) (fun _ _ _ _=>false) ⟨⟩ (fun _ _ _ _=>⟨⟩)
noncomputable def mO (e z b:Nat)(x y:FV)(s:GS)(K:KS):Bool:=srcG z y s fun m ys=>bC (Nat.beq m (nat_lit 0)) (bC (isSl x) (K x s) false) (bC (Nat.beq ys.length (Nat.mul m z)) (appTo e z b x m ys s K) false)
theorem eH.more {n m:Nat} {d:List FV} {t:Tr FV} {cs:List AV} (h:eH n m d t cs) {q:Nat} (hq:q≤n) {ys:List FV} {K:Tr FV→Bool} (hk:rF ys t q K=true):∃t',K t'= true∧eH (q+ys.length) m d t' (cs.take q ++ ys.map FV.av)∧(ys.map FV.av).all AV.one=true:=by
 have main:∀(ys:List FV) (t:Tr FV) (q:Nat) (K:Tr FV→Bool),rF ys t q K=true→∃t',K t'= true∧(ys.map FV.av).all AV.one=true∧(∀i,i<q→tN m d t' i=tN m d t i)∧∀i,i<ys.length→ys[i]? =some (tN m d t' (q+i))∧xE (tN m d t' (q+i))=true:=by
  intro ys
  induction ys with
  | nil=>intro t q K hk;exact⟨t,hk,rfl,fun _ _=>rfl,fun i hi=>by simp at hi⟩
  | cons y ys ih=>
    intro t q K hk
    have hk':bC (xE y) (t.set q y fun t=>rF ys t (q+1) K) false=true:=hk
    obtain⟨h0,hk'⟩:=aT hk'
    obtain⟨t1,h1,h2⟩:=Tr.vT hk'
    obtain⟨t2,q1,q2,q3,q4⟩:=ih t1 (q+1) K h1
    have hg:∀j,tN m d t1 j=if j=q then y else tN m d t j:=by
        intro j
        unfold tN
        rw [h2]
        by_cases hj:j=q
        ·rw [if_pos hj,if_pos hj]
        ·rw [if_neg hj,if_neg hj]
    refine⟨t2,q1,by simp only [List.map_cons,List.all_cons,(oQ h0).1,q2,Bool.and_self],fun i hi=>?_,fun i hi=>?_⟩
    ·rw [q3 i (by omega),hg,if_neg (by omega)]
    ·cases i with
     | zero=>rw [Nat.add_zero,q3 q (by omega),hg,if_pos rfl];exact⟨rfl,h0⟩
     | succ i=>
       have:=q4 i (by simpa using hi)
       rw [show q+(i+1)=q+1+i by omega]
       exact this
 obtain⟨t',q1,q2,q3,q4⟩:=main ys t q K hk
 have hl:=h.len
 refine⟨t',q1,⟨by simp;omega,fun i hi=>?_,fun i hi=>?_⟩,q2⟩
 ·by_cases hiq:i<q
  ·rw [List.getElem?_append_left (by simp;omega),List.getElem?_take,if_pos hiq,q3 i hiq]
   exact h.at_ i (by omega)
  ·rw [List.getElem?_append_right (by simp;omega)]
   have e:i - (cs.take q).length=i - q:=by simp;omega
   rw [e,List.getElem?_map,(q4 (i - q) (by omega)).1,show q+(i - q)=i by omega];rfl
 ·by_cases hiq:i<q
  ·rw [q3 i hiq];exact h.one i (by omega)
  ·have:=(q4 (i - q) (by omega)).2
   rw [show q+(i - q)=i by omega] at this;exact this
section
variable {s:GS} {σ:St} (h:s.Is σ)
include h
theorem appO_ok {E:AT} {e n m:Nat} {ys:List FV} {o off g:Nat} {K:KS} {ro:Bool} {e' n' m':Nat} {d:List FV} {t:Tr FV} {cs:List AV} (hm:ys.length=m*E.size)(ho:σ[o]? =some ⟨g,ro,.cells e' cs⟩)(hc:eH n' m' d t cs)(hk:appO e E.size E.bytes n m ys o off g s K ro e' n' m' d t=true) :
 ro=false∧e'= e∧off+n*E.size≤cs.length∧(n+m)*E.bytes≤140737488355328∧((cs.drop off).take (n*E.size)).all AV.one=true∧(ys.map FV.av).all AV.one=true∧
  ∃ s',s'.Is (σ.set o ⟨g+1,false,.cells e (((cs.drop off).take (n*E.size)) ++ ys.map FV.av)⟩)∧K (.sl o (g+1) 0 (n+m) E.size) s'= true:=by
 unfold appO at hk
 cases ro with
 | true=>cases hk
 | false=>
   rw [jv] at hk
   obtain⟨k1',hk1⟩:=aT hk
   obtain⟨k2',hk2⟩:=aT hk1
   obtain⟨k3',hf⟩:=aT hk2
   have k1:=Nat.eq_of_beq_eq_true k1'
   have k2:off+n*E.size≤n':=Nat.le_of_ble_eq_true k2'
   have k3:(n+m)*E.bytes≤140737488355328:=Nat.le_of_ble_eq_true k3'
   clear hk hk1 hk2 k1' k2' k3'
   rw [kT,kT,kT] at hf
   have hnz:Nat.mul (Nat.add n m) E.size=n*E.size+ys.length:=by rw [hm];exact Nat.add_mul n m E.size
   refine⟨rfl,k1,by rw [hc.len];exact k2,k3,?_⟩
   cases h0:Nat.beq off (nat_lit 0) with
   | true=>
     rw [h0,jE] at hf
     have h0':off=0:=Nat.eq_of_beq_eq_true h0
     clear h0
     subst h0'
     obtain⟨t',q1,q2,q3⟩:=hc.more (q:=n*E.size) (by omega) hf
     rw [hnz] at q1
     obtain⟨s',r1,r2⟩:=GS.nZ h (xH ho) (f:=.cells (g+1) false e (n*E.size+ys.length) m' d t') (a:=⟨g+1,false,.cells e (cs.take (n*E.size) ++ ys.map FV.av)⟩) ⟨_,rfl,q2⟩ q1
     rw [List.drop_zero]
     refine⟨?_,q3,s',r2,r1⟩
     rw [List.all_eq_true]
     intro x hx
     obtain⟨i,hi⟩:=List.getElem?_of_mem hx
     rw [List.getElem?_take] at hi
     split at hi
     ·rename_i hlt
      rw [hc.at_ i (by omega)] at hi
      cases hi
      exact(oQ (hc.one i (by omega))).1
     ·cases hi
   | false=>
     rw [h0,jv] at hf
     obtain⟨l,q1,q2,q3⟩:=uJ hc _ off k2 hf
     have hll:l.length=n*E.size:=by
        have e1:=congrArg List.length q2
        have:=hc.len
        simp only [List.length_map,List.length_take,List.length_drop] at e1
        omega
     have hb:=eH.rep (d:=[.n 1 0]) rfl (n*E.size)
     rw [show n*E.size*[FV.n 1 0].length=n*E.size by simp,show [FV.n 1 0].length=1 from rfl] at hb
     obtain⟨t1,r1,r2,r3⟩:=qy l hb (off:=0) (by omega) q1
     have e1:setCells (dN ([FV.n 1 0].map FV.av) (n*E.size)) 0 (l.map FV.av)=l.map FV.av:=by
        have:=lW (l.map FV.av) [] (dN ([FV.n 1 0].map FV.av) (n*E.size)) (by rw [jJ];simp [hll])
        simpa using this
     rw [e1] at r2
     obtain⟨t',w1,w2,w3⟩:=r2.more (q:=n*E.size) (Nat.le_refl _) r1
     rw [hnz] at w1
     rw [List.take_of_length_le (by rw [List.length_map,hll];exact Nat.le_refl _),q2] at w2
     obtain⟨s',v1,v2⟩:=GS.nZ h (xH ho) (f:=.cells (g+1) false e (n*E.size+ys.length) 1 [.n 1 0] t') (a:=⟨g+1,false,.cells e ((cs.drop off).take (n*E.size) ++ ys.map FV.av)⟩) ⟨_,rfl,w2⟩ w1
     refine⟨?_,w3,s',v2,v1⟩
     rw [q2] at r3;exact r3
omit h in
theorem isSl_ok {x:FV} (hx:isSl x=true):x.av= .sl0∨∃o g off n z,x= .sl o g off n z:=by
 cases x with
 | n t x=>have hx:t=3:=Nat.eq_of_beq_eq_true hx;subst hx;exact .inl rfl
 | sl o g off n z=>exact .inr ⟨_,_,_,_,_,rfl⟩
 | _=>cases hx
theorem dApp_ok {P:Program} {t e:Nat} {E:AT} {a1 a2 a3 a4 a5 a6} (hT:aH P t=some ⟨.slice e,a1,a2,a3,a4,a5,a6⟩)(hE:aH P e=some E)(h1:0<E.size)(h2:E.zero.cells.length=E.size)(h3:0<E.bytes) {x y:FV} {K:KS} (hk:mO e E.size E.bytes x y s K=true):QH (KG P t x.av y.av σ) K:=by
 unfold mO at hk
 obtain⟨m,ys,q1,hk0,hys⟩:=Oh h hk
 clear hk
 have hk:=hk0;clear hk0
 unfold KG
 simp only [hT,hE]
 rw [if_pos ⟨h1,h2,h3⟩,q1]
 simp only [Option.bind_some]
 have hone:=tV ys hys
 cases h0:Nat.beq m (nat_lit 0) with
 | true=>
   rw [h0,jE] at hk
   rw [if_pos (Nat.eq_of_beq_eq_true h0)]
   obtain⟨k1,hk⟩:=aT hk
   rcases isSl_ok k1 with hx | ⟨o,g,off,n,z,rfl⟩
   ·rw [hx];exact⟨x,σ,s,by rw [hx],h,hk⟩
   ·exact⟨_,σ,s,rfl,h,hk⟩
 | false=>
   rw [h0,jv] at hk
   rw [if_neg (Nat.ne_of_beq_eq_false h0),if_pos hone]
   obtain⟨hm0,hk2⟩:=aT hk
   have hm:ys.length=m*E.size:=Nat.eq_of_beq_eq_true hm0
   clear hk hm0
   unfold appTo at hk2
   split at hk2
   ·rename_i t1 x1
    obtain⟨k1,hk⟩:=aT hk2
    obtain⟨k2,hk⟩:=aT hk
    have k1':t1=3:=Nat.eq_of_beq_eq_true k1
    clear k1
    subst k1'
    obtain⟨s',r1,r2⟩:=Hf h hk
    rw [show FV.av (.n 3 x1)= .sl0 from rfl]
    simp only
    rw [if_pos (show m*E.bytes≤140737488355328 from Nat.le_of_ble_eq_true k2)]
    exact⟨_,_,s',rfl,r2,r1⟩
   ·rename_i o g off n z'
    obtain⟨k1,hk⟩:=aT hk2
    have k1:=Nat.eq_of_beq_eq_true k1
    obtain⟨ro,e',n',m',d,t,cs,w1,w2,w3⟩:=lX h hk
    obtain⟨rfl,rfl,r2,r3,r4,r5,s',r6,r7⟩:=appO_ok h hm w1 w2 w3
    rw [FV.xw]
    simp only [w1]
    rw [k1,if_pos (by refine⟨trivial,rfl,trivial,r2,r3,r4⟩)]
    exact⟨_,_,s',rfl,r6,r7⟩
   ·cases hk2
noncomputable def Oi (z:Nat)(x y:FV)(s:GS)(K:KS):Bool:=match x with
 | .sl o g off n z'=>bC (Nat.beq z' z) (srcG z y s fun m ys=>Df (s.t.get o) g fun ro e n' m' d t=>bC ro false (bC (Nat.ble (Nat.add off (Nat.mul n z)) n') (bC (Nat.beq ys.length (Nat.mul m z)) (fN (Nat.sub m (Nat.sub m n)) fun q=>bC (Nat.ble q (nat_lit 9223372036854775807)) (rF (ys.take (Nat.mul q z)) t off fun t'=>s.put o (.cells g false e n' m' d t') fun s'=>K (.n (nat_lit 36893488147419103233) q) s') false) false) false)) false
 | _=>false
theorem Vt {P:Program} {t e:Nat} {E:AT} {a1 a2 a3 a4 a5 a6} (hT:aH P t=some ⟨.slice e,a1,a2,a3,a4,a5,a6⟩)(hE:aH P e=some E) {x y:FV} {K:KS} (hk:Oi E.size x y s K=true):QH (Em P t x.av y.av σ) K:=by
 unfold Oi at hk
 split at hk
 ·rename_i o g off n z'
  obtain⟨k1,hk1⟩:=aT hk
  have k1':=Nat.eq_of_beq_eq_true k1
  clear k1 hk
  subst k1'
  obtain⟨m,ys,q1,hk,hys⟩:=Oh h hk1
  clear hk1
  obtain⟨ro,e',n',m',d,t',cs,w1,w2,hk⟩:=lX h hk
  cases ro with
  | true=>cases hk
  | false=>
    rw [jv] at hk
    obtain⟨k2,hk⟩:=aT hk
    obtain⟨k3,hk⟩:=aT hk
    rw [kT] at hk
    have k2:off+n*E.size≤n':=Nat.le_of_ble_eq_true k2
    have k3:ys.length=m*E.size:=Nat.eq_of_beq_eq_true k3
    have hq:Nat.sub m (Nat.sub m n)=min m n:=by show m - (m - n)=_;omega
    rw [hq] at hk
    obtain⟨k4,hk⟩:=aT hk
    have k4:min m n≤9223372036854775807:=Nat.le_of_ble_eq_true k4
    have hmul:min m n*E.size≤n*E.size:=Nat.mul_le_mul_right _ (Nat.min_le_right m n)
    have hlen:(ys.take (Nat.mul (min m n) E.size)).length≤n*E.size:=by
        rw [List.length_take]
        have e1:Nat.mul (min m n) E.size=min m n*E.size:=rfl
        omega
    obtain⟨t2,r1,r2,r3⟩:=qy _ w2 (by omega) hk
    obtain⟨s',v1,v2⟩:=GS.nZ h (xH w1) (f:=.cells g false e' n' m' d t2) (a:=⟨g,false,.cells e' (setCells cs off ((ys.take (Nat.mul (min m n) E.size)).map FV.av))⟩) ⟨_,rfl,r2⟩ r1
    rw [FV.xw]
    unfold Em
    simp only [hT,hE]
    rw [if_pos trivial,q1]
    simp only [Option.bind_some,w1]
    rw [if_pos (by refine⟨trivial,by rw [w2.len];exact k2,tV ys hys⟩)]
    refine⟨_,_,s',?_,v2,v1⟩
    rw [kJ k4,List.map_take]
    have e2:((min m n:Nat):Int)=min (m:Int) (n:Int):=by omega
    rw [e2];rfl
 ·cases hk
end
end Go.dX
