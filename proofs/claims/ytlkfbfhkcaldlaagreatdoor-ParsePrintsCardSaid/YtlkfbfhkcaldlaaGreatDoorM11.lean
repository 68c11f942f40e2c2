/- Texts of this claim, joined: Abs30, Abs63, Wqa. -/
import Derived.Test.YtlkfbfhkcaldlaaGreatDoorM02
import Derived.Test.YtlkfbfhkcaldlaaGreatDoorM07
import Derived.Test.YtlkfbfhkcaldlaaGreatDoorM08
set_option linter.unusedVariables false
set_option linter.unusedSimpArgs false
namespace Go.Abs
def bFn (X:Ctx):Nat->Run
 | 0,_,_,_=>none
 | n+1,f,args,Z=>
   match X.fM f with
   | some g=>g args Z
   | none=>match X.fns f with
     | some F=>
       if args.length<=F.nt then
        match bH X (bFn X n) n F.code (iD 0 args) Z with
        | some (.normal,e,Z') | some (.ret,e,Z')=>(wu X.P F.res e Z').map fun v=>(v,Z')
        | _=>none
       else none
     | none=>none
theorem UZ {X:Ctx} {G:Nat} (hX:X.Sound G):∀n,nC X.P G (bFn X n)/\Iw X G (bFn X n)
 | 0=>⟨(by intro f args Z r Z' h;cases h),(by intro f _ args Z r Z' h;cases h)⟩
 | n+1=>by
   obtain⟨ih,ihd⟩:=UZ hX n
   constructor
   ·intro f args Z r Z' h
    simp only [bFn] at h
    split at h
    ·rename_i g hg
     exact hX.ok.fM f g hg _ _ _ _ h
    ·rename_i hp
     split at h
     ·rename_i F hF
      intro Y w aO hs hr
      split at h
      ·rename_i hlen
       have main:∀(o:Out) (e:Env) (Z1:St),bH X (bFn X n) n F.code (iD 0 args) Z=some (o,e,Z1)->o= .normal\/o= .ret->(wu X.P F.res e Z1).map (fun v=>(v,Z1))=some (r,Z')->Does X.P f aO w (After G Y Z w r Z'):=by
             intro o e Z1 hcode ho hmap
             rw [iU] at hmap
             obtain⟨v,hv,DW⟩:=hmap
             cases DW
             obtain⟨he,hc⟩:=PS hX.ok hX.draws (hX.fns f F hp hF) ih ihd hlen hcode ho hv hs hr
             exact .inl ⟨he aO w,hc⟩
       split at h
       ·rename_i e Z1 hcode;exact main _ _ _ hcode (.inl rfl) h
       ·rename_i e Z1 hcode;exact main _ _ _ hcode (.inr rfl) h
       ·cases h
      ·cases h
     ·cases h
   ·intro f hdk args Z r Z' h
    obtain⟨hp,hokf⟩:=hX.SS f hdk
    simp only [bFn,hp] at h
    split at h
    ·rename_i F hF
     intro Y w aO hs hr
     split at h
     ·rename_i hlen
      have main:∀(o:Out) (e:Env) (Z1:St),bH X (bFn X n) n F.code (iD 0 args) Z=some (o,e,Z1)->o= .normal\/o= .ret->(wu X.P F.res e Z1).map (fun v=>(v,Z1))=some (r,Z')->GL X.P f aO w (After G Y Z w r Z'):=by
            intro o e Z1 hcode ho hmap
            rw [iU] at hmap
            obtain⟨v,hv,DW⟩:=hmap
            cases DW
            exact KD hX.ok hX.draws (hokf F hF) ih hlen hcode ho hv hs hr
      split at h
      ·rename_i e Z1 hcode;exact main _ _ _ hcode (.inl rfl) h
      ·rename_i e Z1 hcode;exact main _ _ _ hcode (.inr rfl) h
      ·cases h
     ·cases h
    ·cases h
theorem b_ok {X:Ctx} {G:Nat} (hX:X.Sound G)(n:Nat):nC X.P G (bFn X n):=(UZ hX n).1
noncomputable def fN (n:Nat)(K:Nat->Bool):Bool:=Nat.rec (K (nat_lit 0)) (fun m _=>K (Nat.succ m)) n
noncomputable def fHd {α:Type} (l:List α)(K:List α->Bool):Bool:=List.rec (K []) (fun a t _=>K (a :: t)) l
abbrev KV:=(AV->Bool)->Bool
noncomputable def vS (x:List UInt8):KV:=fun K=>fHd x fun x=>K (.s x)
inductive Tr (α:Type) where
 | lf
 | nd (v:Option α) (l r:Tr α)
section
variable {α:Type}
noncomputable def Tr.pick (v:Option α)(gl gr:Nat->Option α)(k:Nat):Option α:=Nat.rec (motive:=fun _=>Option α) v (fun k _=>Bool.rec (motive:=fun _=>Option α) (gr (Nat.div k (nat_lit 2))) (gl (Nat.div k (nat_lit 2))) (Nat.beq (Nat.mod k (nat_lit 2)) (nat_lit 0))) k
noncomputable def Tr.get:Tr α->Nat->Option α:=Tr.rec (fun _=>none) (fun v _ _ gl gr=>Tr.pick v gl gr)
abbrev TK (α:Type):=Tr α->Nat->α->(Tr α->Bool)->Bool
def Tr.kl (v:Option α)(r:Tr α)(K:Tr α->Bool)(l:Tr α):Bool:=K (.nd v l r)
def Tr.kr (v:Option α)(l:Tr α)(K:Tr α->Bool)(r:Tr α):Bool:=K (.nd v l r)
noncomputable def Tr.go (ih:TK α)(x:α)(K:Tr α->Bool)(v:Option α)(l r:Tr α)(k:Nat):Bool:=
 Bool.rec (ih r (Nat.div k (nat_lit 2)) x (kr v l K)) (ih l (Nat.div k (nat_lit 2)) x (kl v r K)) (Nat.beq (Nat.mod k (nat_lit 2)) (nat_lit 0))
noncomputable def Tr.at' (ih:TK α)(k:Nat)(x:α)(K:Tr α->Bool)(v:Option α)(l r:Tr α):Bool:=Nat.rec (K (.nd (some x) l r)) (fun k _=>Tr.go ih x K v l r k) k
noncomputable def Tr.st (ih:TK α)(t:Tr α)(k:Nat)(x:α)(K:Tr α->Bool):Bool:=Tr.rec (at' ih k x K none .lf .lf) (fun v l r _ _=>at' ih k x K v l r) t
noncomputable def Tr.set' (n:Nat):TK α:=Nat.rec (fun _ _ _ _=>false) (fun _ ih=>Tr.st ih) n
noncomputable def Tr.set:TK α:=Tr.set' (nat_lit 60)
end
structure FA where
 n:Nat
 d:List AV
 t:Tr AV
noncomputable def nthD (d:List AV):Nat->AV:=List.rec (fun _=>.u) (fun a _ ih k=>Nat.rec a (fun k _=>ih k) k) d
noncomputable def FA.get (a:FA)(i:Nat):AV:=Option.rec (nthD a.d (Nat.mod i a.d.length)) (fun v=>v) (a.t.get i)
def FA.Is (a:FA)(cs:List AV):Prop:=cs.length=a.n/\∀i,i<a.n->cs[i]? =some (a.get i)
def FA.of (l:List AV):FA:=⟨l.length,l,.lf⟩
noncomputable def FA.rng (a:FA)(len:Nat):Nat->List AV:=Nat.rec (fun _=>[]) (fun _ ih off=>a.get off :: ih (Nat.succ off)) len
noncomputable def FA.put (a:FA)(i:Nat)(v:AV)(K:FA->Bool):Bool:=a.t.set i v fun t=>K ⟨a.n,a.d,t⟩
noncomputable def FA.puts (ys:List AV):FA->Nat->(FA->Bool)->Bool:=List.rec (fun a _ K=>K a) (fun y _ ih a off K=>a.put off y fun a=>ih a (Nat.succ off) K) ys
noncomputable def FA.app (a:FA)(m:Nat)(ys:List AV)(K:FA->Bool):Bool:=fN (Nat.add m ys.length) fun n=>FA.puts ys ⟨n,a.d,a.t⟩ m K
inductive FK where
 | cells (e:Nat) (a:FA)
 | iter (s:List UInt8) (pos:Nat)
 | maps (es:List (AV×AV))
 | dead
structure FO where
 g:Nat
 ro:Bool
 k:FK
structure FS where
 n:Nat
 t:Tr FO
def FK.Is:FK->AK->Prop
 | .cells e a,.cells e' cs=>e=e'/\a.Is cs
 | .iter s p,.iter s' p'=>s=s'/\p=p'
 | .maps m,.maps m'=>m=m'
 | .dead,.dead=>True
 | .dead,.froz _ _=>True
 | _,_=>False
def FO.Is (f:FO)(a:AO):Prop:=f.g=a.g/\f.ro=a.ro/\f.k.Is a.k
def FS.Is (s:FS)(Z:St):Prop:=Z.length=s.n/\∀o f,s.t.get o=some f->∃a,Z[o]? =some a/\f.Is a
noncomputable def FS.new (s:FS)(f:FO)(K:FS->Bool):Bool:=s.t.set s.n f fun t=>fN (Nat.succ s.n) fun n=>K ⟨n,t⟩
noncomputable def FS.put (s:FS)(o:Nat)(f:FO)(K:FS->Bool):Bool:=s.t.set o f fun t=>K ⟨s.n,t⟩
noncomputable def FK.of:AK->FK
 | .cells e cs=>.cells e (.of cs)
 | .iter s p=>.iter s p
 | .maps m=>.maps m
 | .dead=>.dead
 | .froz _ _=>.dead
noncomputable def FS.lay (Z:St):FS->(FS->Bool)->Bool:=List.rec (fun s K=>K s) (fun a _ ih s K=>s.new ⟨a.g,a.ro,FK.of a.k⟩ fun s=>ih s K) Z
def FS.nil:FS:=⟨0,.lf⟩
end Go.Abs
namespace Go.Abs
mutual
def AV.ren (r:Nat->Nat):AV->AV
 | .p o g k=>.p (r o) g k
 | .sl o g off n z=>.sl (r o) g off n z
 | .mp o g=>.mp (r o) g
 | .fn f a c=>.fn f (AV.xO r a) (AV.xO r c)
 | .ic t v=>.ic t (v.ren r)
 | .cd c v=>.cd c (v.ren r)
 | .ag a=>.ag (AV.xO r a)
 | .tu a=>.tu (AV.xO r a)
 | v=>v
def AV.xO (r:Nat->Nat):List AV->List AV
 | []=>[]
 | a :: l=>a.ren r :: AV.xO r l
end
mutual
def AV.refs (p:Nat->Bool):AV->Bool
 | .p o g _=>Nat.beq g 0 && p o
 | .sl o g _ _ _=>Nat.beq g 0 && p o
 | .mp o g=>Nat.beq g 0 && p o
 | .fn _ a c=>AV.r_ p a && AV.r_ p c
 | .ic _ v=>v.refs p
 | .cd _ v=>v.refs p
 | .ag a=>AV.r_ p a
 | .tu a=>AV.r_ p a
 | _=>true
def AV.r_ (p:Nat->Bool):List AV->Bool
 | []=>true
 | a :: l=>a.refs p && AV.r_ p l
end
mutual
theorem aI.ren {Y Y':Mu} {w:World} {p:Nat->Bool} {r:Nat->Nat} (h:∀o x,p o=true->Y o 0=some x->Y' (r o) 0=some x):∀(a:AV) (v:Value),a.refs p=true->aI Y w a v->aI Y' w (a.ren r) v:=by
 intro a v hf q
 match a with
 | .u=>trivial
 | .b _ | .i _ _ | .s _ | .p0 | .sl0 | .fn0 | .ic0 | .mp0=>simpa [aI,AV.ren] using q
 | .p o g off=>
   simp only [AV.refs,fJ] at hf
   obtain rfl:g=0:=wJ hf.1
   obtain⟨b,δ,h1,h2⟩:=q
   exact⟨b,δ,h o _ hf.2 h1,h2⟩
 | .sl o g off n z=>
   simp only [AV.refs,fJ] at hf
   obtain rfl:g=0:=wJ hf.1
   obtain⟨b,δ,off',c,e,m,h1,h2⟩:=q
   exact⟨b,δ,off',c,e,m,h o _ hf.2 h1,h2⟩
 | .mp o g=>
   simp only [AV.refs,fJ] at hf
   obtain rfl:g=0:=wJ hf.1
   obtain⟨b,h1,h2⟩:=q
   exact⟨b,h o _ hf.2 h1,h2⟩
 | .fn f xs ys=>
   simp only [AV.refs,fJ] at hf
   obtain⟨a,c,h1,h2,h3⟩:=q
   exact⟨a,c,h1,aJ.ren h _ _ hf.1 h2,aJ.ren h _ _ hf.2 h3⟩
 | .ic t x=>obtain⟨y,h1,h2⟩:=q;exact⟨y,h1,aI.ren h _ _ (by simpa [AV.refs] using hf) h2⟩
 | .ag xs=>obtain⟨y,h1,h2⟩:=q;exact⟨y,h1,aJ.ren h _ _ (by simpa [AV.refs] using hf) h2⟩
 | .tu xs=>obtain⟨y,h1,h2⟩:=q;exact⟨y,h1,aJ.ren h _ _ (by simpa [AV.refs] using hf) h2⟩
 | .cd c x=>
   cases c with
   | true=>simp only [AV.ren,aI,if_true] at q ⊢;exact aI.ren h _ _ (by simpa [AV.refs] using hf) q
   | false=>simpa [aI,AV.ren] using q
theorem aJ.ren {Y Y':Mu} {w:World} {p:Nat->Bool} {r:Nat->Nat} (h:∀o x,p o=true->Y o 0=some x->Y' (r o) 0=some x):∀(l:List AV) (v:List Value),AV.r_ p l=true->aJ Y w l v->aJ Y' w (AV.xO r l) v:=by
 intro l v hf q
 match l with
 | []=>simpa [aJ,AV.xO] using q
 | x :: xs=>
   simp only [AV.r_,fJ] at hf
   obtain⟨y,ys,h1,h2,h3⟩:=q
   exact⟨y,ys,h1,aI.ren h _ _ hf.1 h2,aJ.ren h _ _ hf.2 h3⟩
end
theorem P8 {r:Nat->Nat} :∀(l:List AV) (j:Nat),(AV.xO r l)[j]? =(l[j]?).map (AV.ren r)
 | [],j=>by simp [AV.xO]
 | a :: l,0=>by simp [AV.xO]
 | a :: l,j+1=>by simp only [AV.xO,List.getElem?_cons_succ];exact P8 l j
theorem KZ {r:Nat->Nat} :∀(l:List AV),(AV.xO r l).length=l.length
 | []=>rfl
 | a :: l=>by simp only [AV.xO,bg,KZ l]
theorem K_ {p:Nat->Bool} :∀{l:List AV} {j:Nat} {c:AV},AV.r_ p l=true->l[j]? =some c->c.refs p=true
 | [],j,c,_,h=>by simp at h
 | a :: l,0,c,h,hc=>by simp only [AV.r_,fJ] at h;cases hc;exact h.1
 | a :: l,j+1,c,h,hc=>by simp only [AV.r_,fJ] at h;exact K_ h.2 (by simpa using hc)
def GX (G L:Nat)(ρ:List Nat)(o:Nat):Nat:=if o<G then o else L+ρ.idxOf o
def GY (G:Nat)(ρ:List Nat)(o:Nat):Bool:=decide (o<G) || ρ.contains o
def oD (L:Nat)(ρ:List Nat)(Y Y1:Mu):Mu:=fun o g=>if o<L then Y o g else match g with
 | 0=>(ρ[o - L]?).bind fun o'=>Y1 o' 0
 | _=>none
section
variable {G:Nat} {Y Y1:Mu} {Z Z1 G0 T:St} {w w1:World} {ρ:List Nat}
theorem Step.pick (hok:lS G G0=true)(hs:g_ G Y Z w)(ht:Z.take G0.length=G0)(h:Step G (BD G Y) G0 w Y1 Z1 w1)(hn:ρ.Nodup)(hl:T.length=ρ.length)
 (hT:∀(j:Nat) a,T[j]? =some a->∃o e cs,ρ[j]? =some o/\G<=o/\Z1[o]? =some ⟨0,false,.cells e cs⟩/\a=⟨0,false,.cells e (AV.xO (GX G Z.length ρ) cs)⟩/\AV.r_ (GY G ρ) cs=true) :
 Step G Y Z w (oD Z.length ρ Y Y1) (Z ++ T) w1/\∀(a:AV) (v:Value),a.refs (GY G ρ)=true->aI Y1 w1 a v->aI (oD Z.length ρ Y Y1) w1 (a.ren (GX G Z.length ρ)) v:=by
 have hlen:G0.length=G:=xI hok
 have hGL:G<=Z.length:=by have:=congrArg List.length ht;rw [List.length_take,hlen] at this;omega
 have hro:∀(o:Nat) a,G0[o]? =some a->a.ro=false->a.k.live=true->False:=fun o a ho hr hl=>by rw [(kF hok ho hl).1] at hr;cases hr
 have hb:=h.below hro
 have hg:=Step.of_below hs hb
 have old:∀o g,o<Z.length->oD Z.length ρ Y Y1 o g=Y o g:=fun o g ho=>by unfold oD;rw [if_pos ho]
 have new:∀j o,ρ[j]? =some o->oD Z.length ρ Y Y1 (Z.length+j) 0=Y1 o 0:=fun j o ho=>by
  unfold oD
  rw [if_neg (by omega)]
  simp only [Nat.add_sub_cancel_left,ho,Option.bind_some]
 have hle:Y.le (oD Z.length ρ Y Y1):=by
  intro o g x hx
  obtain⟨a,h1,_⟩:=hs.dom o g x hx
  rw [old o g (List.getElem?_eq_some_iff.1 h1).1];exact hx
 have hr:∀o x,GY G ρ o=true->Y1 o 0=some x->oD Z.length ρ Y Y1 (GX G Z.length ρ o) 0=some x:=by
  intro o x hp hx
  unfold GX
  by_cases ho:o<G
  ·rw [if_pos ho,old o 0 (by omega),hs.xk o ho]
   rw [h.wB.xk o ho] at hx;exact hx
  ·rw [if_neg ho]
   unfold GY at hp
   rw [decide_eq_false ho,Bool.false_or] at hp
   have hm:o∈ρ:=List.contains_iff_mem.1 hp
   have hi:=List.idxOf_lt_length_of_mem hm
   rw [new _ o (by rw [sN hi,List.getElem_idxOf hi])];exact hx
 have at_:∀(o:Nat) a,(Z ++ T)[o]? =some a->(o<Z.length/\Z[o]? =some a)\/∃j,o=Z.length+j/\T[j]? =some a:=by
  intro o a ho
  by_cases hlt:o<Z.length
  ·rw [List.getElem?_append_left hlt] at ho;exact .inl ⟨hlt,ho⟩
  ·rw [List.getElem?_append_right (by omega)] at ho;exact .inr ⟨o - Z.length,by omega,ho⟩
 have newb:∀(j:Nat) a o b δ,T[j]? =some a->ρ[j]? =some o->Y1 o 0=some (b,δ)->¬b<w.heap.size:=by
  intro j a o b δ hj ho hx hlt
  obtain⟨o',e,cs,h1,h2,h3,h4,h5⟩:=hT j a hj
  rw [ho] at h1;cases h1
  obtain⟨o2,a2,BO,s1,s2,s3,_⟩:=h.Tf o _ b δ h3 rfl rfl hx hlt
  exact hro o2 a2 s1 s2 s3
 refine⟨⟨⟨fun o a ho hlv=>?_,fun o o' a a' b δ wL h1 h2 h3 h4 h5 h6 h7=>?_,fun o g x hx=>?_,fun o g b δ hx=>?_,fun g hg=>?_,fun o b δ hx=>?_,fun g e cs hg1 ho=>?_⟩,
  hle,hg.xq,h.os,h.tape,h.output,h.size,fun b hb1 _=>hb.block b hb1,fun o a b δ h1 h2 h3 h4 h5=>?_⟩,fun a v ha hv=>aI.ren hr a v ha hv⟩
 ·rcases at_ o a ho with ⟨hlt,q⟩ | ⟨j,rfl,q⟩
  ·obtain⟨b,δ,h1,h2⟩:=hg.wB.obj o a q hlv
   exact⟨b,δ,by rw [old _ _ hlt];exact h1,wz.mono hle (kK.refl _) rfl h2⟩
  ·obtain⟨o',e,cs,h1,h2,h3,rfl,h5⟩:=hT j a q
   obtain⟨b,δ,h6,h7⟩:=h.wB.obj o' _ h3 rfl
   refine⟨b,δ,by rw [new j o' h1];exact h6,?_⟩
   obtain⟨dB,fr,q1,q2,q3,q4⟩:=h7
   refine⟨dB,fr,q1,by rw [KZ];exact q2,fun i c hi=>?_,q4⟩
   rw [P8,iU] at hi
   obtain⟨c',hc1,rfl⟩:=hi
   obtain⟨v,r1,r2⟩:=q3 i c' hc1
   exact⟨v,r1,aI.ren hr _ _ (K_ h5 hc1) r2⟩
 ·rcases at_ o a h1 with ⟨hlt,q⟩ | ⟨j,rfl,q⟩
  ·rw [old _ _ hlt] at h6
   rcases at_ o' a' h2 with ⟨hlt',q'⟩ | ⟨j',rfl,q'⟩
   ·rw [old _ _ hlt'] at h7
    exact hs.inj o o' a a' b δ wL q q' h3 h4 h5 h6 h7
   ·obtain⟨o2,e,cs,k1,k2,k3,rfl,k5⟩:=hT j' a' q'
    rw [new j' o2 k1] at h7
    exact absurd (hs.blk o a.g b δ h6) (newb j' _ o2 b wL q' k1 h7)
  ·obtain⟨o1,e,cs,k1,k2,k3,rfl,k5⟩:=hT j a q
   rw [new j o1 k1] at h6
   rcases at_ o' a' h2 with ⟨hlt',q'⟩ | ⟨j',rfl,q'⟩
   ·rw [old _ _ hlt'] at h7
    exact absurd (hs.blk o' a'.g b wL h7) (newb j _ o1 b δ q k1 h6)
   ·obtain⟨o2,e2,cs2,l1,l2,l3,rfl,l5⟩:=hT j' a' q'
    rw [new j' o2 l1] at h7
    have he:o1=o2:=h.wB.inj o1 o2 _ _ b δ wL k3 l3 rfl rfl rfl h6 h7
    subst he
    have h8:=(List.getElem?_inj (List.getElem?_eq_some_iff.1 k1).1 hn).1 (k1.trans l1.symm)
    omega
 ·by_cases hlt:o<Z.length
  ·rw [old _ _ hlt] at hx
   obtain⟨a,h1,h2⟩:=hs.dom o g x hx
   exact⟨a,by rw [List.getElem?_append_left hlt];exact h1,h2⟩
  ·unfold oD at hx
   rw [if_neg hlt] at hx
   cases g with
   | succ n=>cases hx
   | zero=>
     simp only [Option.bind_eq_some_iff] at hx
     obtain⟨o',h1,_⟩:=hx
     have hj:=(List.getElem?_eq_some_iff.1 h1).1
     exact⟨_,sN (by rw [bM,hl];omega),Nat.zero_le _⟩
 ·by_cases hlt:o<Z.length
  ·rw [old _ _ hlt] at hx
   exact Nat.lt_of_lt_of_le (hs.blk o g b δ hx) h.size
  ·unfold oD at hx
   rw [if_neg hlt] at hx
   cases g with
   | succ n=>cases hx
   | zero=>
     simp only [Option.bind_eq_some_iff] at hx
     obtain⟨o',_,h2⟩:=hx
     exact h.wB.blk o' 0 b δ h2
 ·rw [old _ _ (by omega)];exact hs.xk g hg
 ·by_cases hlt:o<Z.length
  ·rw [old _ _ hlt] at hx;exact hs.low o b δ hx
  ·unfold oD at hx
   rw [if_neg hlt] at hx
   simp only [Option.bind_eq_some_iff] at hx
   obtain⟨o',_,h2⟩:=hx
   exact h.wB.low o' b δ h2
 ·rw [List.getElem?_append_left (by omega)] at ho
  exact hg.wB.full g e cs hg1 ho
 ·rcases at_ o a h1 with ⟨hlt,q⟩ | ⟨j,rfl,q⟩
  ·rw [old _ _ hlt] at h4
   exact⟨o,a,δ,q,h2,h3,h4⟩
  ·obtain⟨o',e,cs,k1,k2,k3,rfl,k5⟩:=hT j a q
   rw [new j o' k1] at h4
   exact absurd h5 (newb j _ o' b δ q k1 h4)
end
end Go.Abs
namespace Go.Abs.YtlkfbfhkcaldlaaGreatDoor
open Go.Proofs
set_option maxRecDepth 10000000
structure Pk where
 f:Nat
 arg:List UInt8
 v:AV
 ρ:List Nat
 obs:List (Nat×List AV)
def Pk.objs (k:Pk)(L:Nat):St:=k.obs.map fun x=>⟨0,false,.cells x.1 (AV.xO (GX 10 L k.ρ) x.2)⟩
def Pk.ok (k:Pk):Bool:=k.ρ.all (fun o=>Nat.ble 10 o) && k.obs.all (fun x=>AV.r_ (GY 10 k.ρ) x.2) && k.v.refs (GY 10 k.ρ) && Nat.beq k.obs.length k.ρ.length
structure Pk.Good (X:Ctx)(k:Pk):Prop where
 run:∃n,(bFn X n k.f [.s k.arg] G0).map (fun p=>(p.1,k.ρ.map fun i=>p.2[i]?))=some (k.v,k.obs.map fun x=>some ⟨0,false,.cells x.1 x.2⟩)
 ok:k.ok=true
 nodup:k.ρ.Nodup
def pPk (l:List Pk)(f:Nat):List AV->St->Option (AV×St)
 | [.s t],Z=>if nU (Z.take 10) G0=true then(l.find? fun k=>Nat.beq k.f f && k.arg == t).map fun k=>(k.v.ren (GX 10 Z.length k.ρ),Z ++ k.objs Z.length) else none
 | _,_=>none
theorem pPk_ok {X:Ctx} (hX:X.Sound 10) {l:List Pk} (hl:∀k∈l,k.Good X) {f:Nat} {args:List AV} {Z Z':St} {r:AV} (h:pPk l f args Z=some (r,Z')) {Y:Mu} {w:World} {aO:Array Value} (hs:g_ 10 Y Z w)(hr:aJ Y w args aO.toList) :
 Does X.P f aO w (After 10 Y Z w r Z'):=by
 unfold pPk at h
 split at h
 ·rename_i t
  split at h
  ·rename_i ht
   rw [iU] at h
   obtain⟨k,h1,h2⟩:=h
   cases h2
   obtain⟨⟨n,hrun⟩,hok,hnd⟩:=hl k (List.mem_of_find?_eq_some h1)
   have hp:=List.find?_some h1
   rw [fJ,beq_iff_eq] at hp
   obtain⟨hp1,hp⟩:=hp
   have hp1:=wJ hp1
   subst hp1;subst hp
   simp only [Pk.ok,fJ] at hok
   obtain⟨⟨⟨o1,o2⟩,o3⟩,o4⟩:=hok
   have o4:=wJ o4
   have ht':Z.take G0.length=G0:=mD _ _ ht
   rw [iU] at hrun
   obtain⟨⟨v,Z1⟩,hb,he⟩:=hrun
   simp only [Prod.mk.injEq] at he
   obtain⟨rfl,he⟩:=he
   refine(b_ok hX n _ _ _ _ _ hb (BD 10 Y) w aO (hs.cut NZ ht') (aJ.flat _ _ rfl hr)).mono fun e w' hq=>?_
   obtain⟨u,Y1,rfl,hu,hst⟩:=hq
   obtain⟨q1,q2⟩:=Step.pick (T:=k.objs Z.length) (ρ:=k.ρ) NZ hs ht' hst hnd (by rw [Pk.objs,List.length_map,o4]) (fun j a hj=>by
        rw [Pk.objs,List.getElem?_map,iU] at hj
        obtain⟨x,hx,rfl⟩:=hj
        have h3:=congrArg (fun l=>l[j]?) he
        simp only [List.getElem?_map,hx,Option.map_some] at h3
        rw [iU] at h3
        obtain⟨o,ho,h4⟩:=h3
        exact⟨o,x.1,x.2,ho,aU (List.all_eq_true.1 o1 o (List.mem_of_getElem? ho)),h4,rfl,List.all_eq_true.1 o2 x (List.mem_of_getElem? hx)⟩)
   exact⟨u,_,rfl,q2 _ _ o3 hu,q1⟩
  ·cases h
 ·cases h
def fk0:Pk:=⟨85,[102,117,110,99,32,118,97,114,32,112,116,114,32,105,102,32,101,108,115,101,32,119,104,105,108,101,32,111,117,116,32,102,114,101,101,32,100,114,97,105,110,32,114,101,116,117,114,110,32,110,101,119,32,105,110],.sl 10 0 0 12 1,[10],[(9,[.s [102,117,110,99],.s [118,97,114],.s [112,116,114],.s [105,102],.s [101,108,115,101],.s [119,104,105,108,101],.s [111,117,116],.s [102,114,101,101],.s [100,114,97,105,110],.s [114,101,116,117,114,110],.s [110,101,119],.s [105,110]])]⟩
theorem fk0_good:fk0.Good X0:=⟨⟨1000,by kernel_rfl⟩,by kernel_rfl,by decide⟩
def fk1:Pk:=⟨85,[124,124,32,38,38,32,61,61,32,33,61,32,60,61,32,62,61,32,60,60,32,62,62],.sl 10 0 0 8 1,[10],[(9,[.s [124,124],.s [38,38],.s [61,61],.s [33,61],.s [60,61],.s [62,61],.s [60,60],.s [62,62]])]⟩
theorem fk1_good:fk1.Good X0:=⟨⟨1000,by kernel_rfl⟩,by kernel_rfl,by decide⟩
def fks:List Pk:=[fk0,fk1]
theorem U3:∀k∈fks,k.Good X0:=by
 intro k hk
 simp only [fks,List.mem_cons,List.not_mem_nil,or_false] at hk
 rcases hk with rfl | rfl
 ·exact fk0_good
 ·exact fk1_good
@[reducible] noncomputable def X1:Ctx:=X0.add 85 (pPk fks 85)
theorem La:X1.Sound 10:=Ctx.nO Ee _ _ (fun _ _ _ _ h _ _ _ hs hr=>pPk_ok Ee U3 h hs hr)
end Go.Abs.YtlkfbfhkcaldlaaGreatDoor
