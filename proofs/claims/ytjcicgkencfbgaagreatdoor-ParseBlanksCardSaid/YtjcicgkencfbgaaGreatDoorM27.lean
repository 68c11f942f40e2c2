/- Texts of this claim, joined: Bz3, Bw. -/
import Derived.Test.YtjcicgkencfbgaaGreatDoorM26
import Derived.Test.YtjcicgkencfbgaaGreatDoorM19
import Derived.Test.YtjcicgkencfbgaaGreatDoorM24
import Derived.Test.YtjcicgkencfbgaaGreatDoorM20
import Derived.Test.YtjcicgkencfbgaaGreatDoorM21
set_option linter.unusedVariables false
set_option linter.unusedSimpArgs false
namespace Go.bG.YtjcicgkencfbgaaGreatDoor
set_option maxRecDepth 4000
def VA (k:Nat):List UInt8:=if k=0 then [32] else if k=1 then [10] else if k=2 then [9,13,32] else [32,47,47,32,97,32,114,101,109,97,114,107,32,123,10]
def blL (k:Nat):Nat:=if k=0 then 0 else if k=1 then 1 else if k=2 then 0 else 1
theorem LD (k:Nat):∃b x,VA k=b :: x∧dD b.toNat=true:=by
 unfold VA
 split
 ·exact⟨_,_,rfl,by decide⟩
 ·split
  ·exact⟨_,_,rfl,by decide⟩
  ·split
   ·exact⟨_,_,rfl,by decide⟩
   ·exact⟨_,_,rfl,by decide⟩
theorem YO (k:Nat):(VA k).length≤15:=by
 by_cases h0:k=0
 ·subst h0;decide
 ·by_cases h1:k=1
  ·subst h1;decide
  ·by_cases h2:k=2
   ·subst h2;decide
   ·simp [VA,h0,h1,h2]
theorem LG (k:Nat)(x:List UInt8)(l:Nat)(acc:List Tok):qg (VA k ++ x) l acc=qg x (l+blL k) acc:=by
 unfold VA blL
 split
 ·exact yI 32 (.inl rfl) x l acc
 ·split
  ·exact O1 x l acc
  ·split
   ·show qg (9 :: 13 :: 32 :: x) l acc=_
    rw [yI 9 (.inr (.inl rfl)),yI 13 (.inr (.inr rfl)),yI 32 (.inl rfl)];rfl
   ·show qg (32 :: (47 :: 47 :: [32,97,32,114,101,109,97,114,107,32,123] ++ 10 :: x)) l acc=_
    rw [yI 32 (.inl rfl)]
    exact KA _ (by decide) x l acc
def CJ (ks:Nat→Nat):Nat→List Tok→List UInt8
 | _,[]=>[]
 | i,t :: r=>VA (ks i) ++ t.s ++ CJ ks (i+1) r
theorem LH (ks:Nat→Nat):∀(a:List Tok) (i:Nat) (t:Tok),CJ ks i (a ++ [t])=CJ ks i a ++ VA (ks (i+a.length)) ++ t.s
 | [],i,t=>by simp [CJ]
 | x :: a,i,t=>by
   have e:i+1+a.length=i+(a.length+1):=by omega
   simp only [List.cons_append,CJ,LH ks a,e,List.append_assoc,List.length_cons]
def blW (ks:Nat→Nat):Nat→Nat→List Tok→List Tok
 | _,_,[]=>[]
 | i,l,t :: r=>⟨t.k,t.s,l+blL (ks i)⟩ :: blW ks (i+1) (l+blL (ks i)) r
def blN (ks:Nat→Nat):Nat→Nat→List Tok→Nat
 | _,l,[]=>l
 | i,l,_ :: r=>blN ks (i+1) (l+blL (ks i)) r
theorem VB (ks:Nat→Nat):∀(a:List Tok) (i l:Nat),(blW ks i l a).map lz=a.map lz
 | [],_,_=>rfl
 | t :: a,i,l=>by simp only [blW,List.map_cons,VB ks a];rfl
theorem LJ (ks:Nat→Nat)(n:Nat):∀(a:List Tok) (i l:Nat) (acc:List Tok),(∀t∈a,Good t.k t.s)→qg (CJ ks i (a ++ [⟨5,[],n⟩])) l acc= .done (acc ++ blW ks i l a) (blN ks i l (a ++ [⟨5,[],n⟩]))
 | [],i,l,acc,_=>by
   simp only [List.nil_append,CJ,List.append_nil]
   have h:=LG (ks i) [] l acc
   rw [List.append_nil] at h
   rw [h,UC]
   simp [blW,blN]
 | t :: a,i,l,acc,h=>by
   obtain⟨b,y,hy,hb⟩:∃b y,CJ ks (i+1) (a ++ [⟨5,[],n⟩])=b :: y∧dD b.toNat=true:=by
     cases a with
     | nil=>
       obtain⟨b,y,hy,hb⟩:=LD (ks (i+1))
       exact⟨b,y,by simp [CJ,hy],hb⟩
     | cons c a=>
       obtain⟨b,y,hy,hb⟩:=LD (ks (i+1))
       exact⟨b,y ++ (c.s ++ CJ ks (i+1+1) (a ++ [⟨5,[],n⟩])),by simp [CJ,hy],hb⟩
   have hg:=h t (List.mem_cons_self ..)
   have hst:=good_step hg hb y
   have e:CJ ks i (t :: a ++ [⟨5,[],n⟩])=VA (ks i) ++ (t.s ++ b :: y):=by simp only [List.cons_append,CJ,hy,List.append_assoc]
   rw [e,LG,UD hst (by simp),List.drop_left,List.take_left,←hy,LJ ks n a _ _ _ fun t ht=>h t (List.mem_cons_of_mem _ ht)]
   simp [blW,blN]
def qA:List Tok→Nat
 | []=>0
 | t :: r=>t.s.length+15+qA r
theorem zu:∀a b:List Tok,qA (a ++ b)=qA a+qA b
 | [],b=>(Nat.zero_add _).symm
 | t :: a,b=>by simp only [List.cons_append,qA,zu a b];omega
theorem I_ (ks:Nat→Nat):∀(i:Nat) (a:List Tok),(CJ ks i a).length≤qA a
 | _,[]=>Nat.le_refl _
 | i,t :: r=>by
   have h1:=I_ ks (i+1) r
   have h2:=YO (ks i)
   simp only [CJ,List.length_append,qA];omega
theorem vH:∀(n:Nat) (s:List UInt8) (l:Nat) (acc acc':List Tok) (l':Nat),iE n s l acc= .done acc' l'→qA acc'≤qA acc+16*s.length
 | n,[],l,acc,acc',l',hd=>by rw [yH] at hd;cases hd;omega
 | 0,c :: r,l,acc,acc',l',hd=>by cases hd;omega
 | n+1,c :: r,l,acc,acc',l',hd=>by
   have hf:=jc c r
   simp only [iE] at hd
   cases hs:step (c :: r) with
   | skip k nl=>
     rw [hs] at hd
     have:=vH n _ _ _ _ _ hd
     rw [List.length_drop] at this;omega
   | tok kd m=>
     rw [hs] at hd hf
     simp only [Stp.fits] at hf
     have:=vH n _ _ _ _ _ hd
     have hl:((c :: r).take m).length=m:=by rw [List.length_take];omega
     rw [List.length_drop,zu] at this
     simp only [qA,hl] at this;omega
   | err e=>rw [hs] at hd;cases hd
theorem G5:∀(n:Nat) (a:List Tok),qA (a.take n)≤qA a
 | 0,a=>by simp [qA]
 | n+1,[]=>by simp [qA]
 | n+1,t :: a=>by have:=G5 n a;simp only [List.take_succ_cons,qA];omega
theorem QX {t:List UInt8} {a:List Tok} (h:mG t= .toks a):qA a≤16*t.length+15:=by
 unfold mG at h
 split at h
 ·cases h
 ·cases hr:iE t.length t 0 [] with
  | done a' l'=>
    rw [hr] at h
    cases h
    have:=vH _ _ _ _ _ _ hr
    rw [zu]
    simp only [qA,List.length_nil] at this ⊢;omega
  | bad e l'=>rw [hr] at h;cases h
theorem Ob (ks:Nat→Nat) {t:List UInt8} {w:List Tok} (h:mG t= .toks w)(ht:t.length≤2000):(CJ ks 0 w).length≤32015∧∃w',mG (CJ ks 0 w)= .toks w'∧w'.map lz=w.map lz:=by
 have hR:=h
 rw [UE (by omega)] at hR
 cases hr:qg t 0 [] with
 | bad e l'=>rw [hr] at hR;cases hR
 | done a n=>
   rw [hr] at hR
   simp only [UA.fin,Res.toks.injEq] at hR
   subst hR
   have hg:=Ag _ _ _ _ _ _ (fun _ h=>by cases h) hr
   have hwt:=vH _ _ _ _ _ _ hr
   have hlen:(CJ ks 0 (a ++ [⟨5,[],n⟩])).length≤32015:=by
    have h1:=I_ ks 0 (a ++ [⟨5,[],n⟩])
    rw [zu] at h1
    simp only [qA,List.length_nil] at h1 hwt
    omega
   refine⟨hlen,_,by rw [UE (by omega),LJ ks n a 0 0 [] hg];rfl,?_⟩
   rw [List.nil_append,List.map_append,List.map_append,VB]
   rfl
def VD:Re (List Fm)→Re (List Fm)→Prop
 | .ok a _,.ok b _=>fV a b=true
 | .bad c _,.bad c' _=>c=c'
 | .out,.out=>True
 | _,_=>False
theorem VD.of {r r':Re (List Fm)} (h:r.er (List.map eF)=r'.er (List.map eF)):VD r r':=by
 cases r with
 | ok a ts=>
   cases r' with
   | ok b ts'=>
     simp only [Re.er,Re.ok.injEq] at h
     show fV a b=true
     rw [LC,h.1]
     exact uq _
   | bad=>simp [Re.er] at h
   | out=>simp [Re.er] at h
 | bad c l=>
   cases r' with
   | ok=>simp [Re.er] at h
   | bad c' l'=>
     simp only [Re.er,Re.bad.injEq] at h
     exact h.1
   | out=>simp [Re.er] at h
 | out=>
   cases r' with
   | ok=>simp [Re.er] at h
   | bad=>simp [Re.er] at h
   | out=>trivial
theorem Ja (ks:Nat→Nat) {t:List UInt8} {w:List Tok} (h:mG t= .toks w)(ht:t.length≤2000):VD (jB t) (jB (CJ ks 0 w)):=by
 obtain⟨_,w',h',hw⟩:=Ob ks h ht
 have hl:w'.length=w.length:=by have:=congrArg List.length hw;simpa using this
 unfold jB
 rw [h,h']
 show VD (gB (10*w.length+11) w) (gB (10*w'.length+11) w')
 refine VD.of ?_
 rw [←lzFs,←lzFs,hw,hl]
end Go.bG.YtjcicgkencfbgaaGreatDoor
namespace Go.bG.YtjcicgkencfbgaaGreatDoor
open Go.Proofs
set_option maxRecDepth 4000
def byV (b:UInt8):AV:=.i .u8 b.toNat
def G6 (σ:St)(v:AV)(bs:List UInt8):Prop:=(bs=[]∧v= .sl0)∨∃o g ro e,v= .sl o g 0 bs.length 1∧σ[o]? =some ⟨g,ro,.cells e (bs.map byV)⟩
def kB (bs:List UInt8)(i:Nat):Nat:=match bs[i]? with
 | some b=>b.toNat%4
 | none=>0
theorem take_snoc {a:List Tok} {m:Nat} {z:Tok} (h:a[m]? =some z):a.take (m+1)=a.take m ++ [z]:=by rw [List.take_add_one,h];rfl
theorem Oc {l:List Tok} {m:Nat} {t:Tok} (h:l[m]? =some t)(j:Nat)(hj:j<3):(dX l)[0+m*3+j]? =(gI t.k t.s t.l)[j]? :=by
 have:=congrArg (fun x=>x[j]?) (qU l m t h)
 simp only [List.getElem?_take,List.getElem?_drop,hj,if_true] at this
 rw [Nat.zero_add];exact this
set_option maxHeartbeats 8000000 in
theorem LK (t bs:List UInt8)(hbs:bs.length≤9223372036854775807)(σ:St)(vb:AV)(hb:G6 σ vb bs) {w:List Tok} {ow g:Nat} (htok:σ[ow]? =some ⟨g,false,.cells 38 (dX w)⟩)(hlen:w.length≤40000)(hwt:qA w≤32015)(Q:Out→Env→St→Prop)
 (q:∀e',get e' 0= .s t→get e' 7= .s (CJ (kB bs) 0 w)→get e' 1000000= .u→Q (.exit 0) e' σ):∀(d i:Nat),i+d=w.length→
 aS X [0,1,5,7,8] ZP [(0,.s t),(1,vb),(5,.sl ow g 0 w.length 3),(7,.s (CJ (kB bs) 0 (w.take i))),(8,.i .i64 i)] σ Q:=by
 intro d
 induction d with
 | zero=>
   intro i hi
   obtain rfl:i=w.length:=by omega
   rw [List.take_length]
   rcases hb with ⟨rfl,rfl⟩ | ⟨o,g',ro,e,rfl,ho⟩
   all_goals
    refine aS.round aF (lit:=false) ?_
    conv=>whnf
    rw [decide_eq_false (by omega)]
    conv=>whnf
    conv=>whnf
    exact q _ rfl rfl rfl
 | succ d ih=>
   intro i hi
   obtain⟨z,hz⟩:∃z,w[i]? =some z:=⟨_,List.getElem?_eq_getElem (by omega)⟩
   have hih:=ih (i+1) (by omega)
   have hcell:(dX w)[0+i*3+1]? =some (.s z.s):=Oc hz 1 (by decide)
   have hS:(CJ (kB bs) 0 (w.take (i+1))).length≤32015:=by
    have h1:=I_ (kB bs) 0 (w.take (i+1))
    have h2:=G5 (i+1) w
    omega
   rw [take_snoc hz,LH,List.length_take,Nat.min_eq_left (by omega),Nat.zero_add] at hih hS
   rw [List.length_append,List.length_append] at hS
   clear ih
   generalize CJ (kB bs) 0 (w.take i)=S at hih hS ⊢
   have step:∀k:Nat,kB bs i=k→S.length+(VA k).length+z.s.length≤32015∧aS X [0,1,5,7,8] ZP [(0,.s t),(1,vb),(5,.sl ow g 0 w.length 3),(7,.s (S ++ VA k ++ z.s)),(8,.i .i64 (i+1:Nat))] σ Q:=by
    intro k hk
    rw [hk] at hih hS
    exact⟨hS,hih⟩
   clear hih hS
   rcases hb with ⟨rfl,rfl⟩ | ⟨o,g',ro,e,rfl,ho⟩
   ·obtain⟨hS,hih⟩:=step 0 rfl
    have hS:S.length+1+z.s.length≤32015:=hS
    refine aS.round aF (lit:=false) ?_
    conv=>whnf
    rw [decide_eq_true (by omega)]
    conv=>whnf
    conv=>whnf
    refine⟨by decide,?_⟩
    conv=>whnf
    refine⟨by show S.length+1≤_;omega,?_⟩
    conv=>whnf
    refine⟨i,rfl,by omega,?_⟩
    conv=>whnf
    refine ak (aj (T:=eG) rfl rfl (ah htok) hcell) ?_
    conv=>whnf
    refine⟨by rw [List.length_append];show S.length+1+z.s.length≤_;omega,?_⟩
    conv=>whnf
    refine⟨((i+1:Nat):Int),wrap_i64 (by omega) (by omega),?_⟩
    conv=>whnf
    exact hih
   ·by_cases hin:i<bs.length
    ·obtain⟨b,hbi⟩:∃b,bs[i]? =some b:=⟨_,List.getElem?_eq_getElem hin⟩
     have hbc:(bs.map byV)[0+i*1]? =some (byV b):=by rw [Nat.zero_add,Nat.mul_one,List.getElem?_map,hbi];rfl
     have hkd:kB bs i=b.toNat%4:=by unfold kB;rw [hbi]
     obtain⟨hS,hih⟩:=step _ hkd
     refine aS.round aF (lit:=false) ?_
     conv=>whnf
     rw [decide_eq_true (by omega)]
     conv=>whnf
     conv=>whnf
     rw [decide_eq_true (by omega)]
     conv=>whnf
     refine⟨i,rfl,hin,?_⟩
     conv=>whnf
     refine ak (aj (T:=yT5) rfl rfl (ah ho) hbc) ?_
     conv=>whnf
     refine⟨by decide,?_⟩
     conv=>whnf
     rw [show ((b.toNat:Nat):Int).tmod 4=((b.toNat%4:Nat):Int) from rfl]
     have hr:b.toNat%4<4:=Nat.mod_lt _ (by decide)
     generalize b.toNat%4=r at hr hih hS ⊢
     have hr:r=0∨r=1∨r=2∨r=3:=by omega
     rcases hr with rfl | rfl | rfl | rfl
     ·have hS:S.length+1+z.s.length≤32015:=hS
      conv=>whnf
      refine⟨by show S.length+1≤_;omega,?_⟩
      conv=>whnf
      refine⟨i,rfl,by omega,?_⟩
      conv=>whnf
      refine ak (aj (T:=eG) rfl rfl (ah htok) hcell) ?_
      conv=>whnf
      refine⟨by rw [List.length_append];show S.length+1+z.s.length≤_;omega,?_⟩
      conv=>whnf
      refine⟨((i+1:Nat):Int),wrap_i64 (by omega) (by omega),?_⟩
      conv=>whnf
      exact hih
     ·have hS:S.length+1+z.s.length≤32015:=hS
      conv=>whnf
      refine⟨by show S.length+1≤_;omega,?_⟩
      conv=>whnf
      refine⟨i,rfl,by omega,?_⟩
      conv=>whnf
      refine ak (aj (T:=eG) rfl rfl (ah htok) hcell) ?_
      conv=>whnf
      refine⟨by rw [List.length_append];show S.length+1+z.s.length≤_;omega,?_⟩
      conv=>whnf
      refine⟨((i+1:Nat):Int),wrap_i64 (by omega) (by omega),?_⟩
      conv=>whnf
      exact hih
     ·have hS:S.length+3+z.s.length≤32015:=hS
      conv=>whnf
      refine⟨by show S.length+3≤_;omega,?_⟩
      conv=>whnf
      refine⟨i,rfl,by omega,?_⟩
      conv=>whnf
      refine ak (aj (T:=eG) rfl rfl (ah htok) hcell) ?_
      conv=>whnf
      refine⟨by rw [List.length_append];show S.length+3+z.s.length≤_;omega,?_⟩
      conv=>whnf
      refine⟨((i+1:Nat):Int),wrap_i64 (by omega) (by omega),?_⟩
      conv=>whnf
      exact hih
     ·have hS:S.length+15+z.s.length≤32015:=hS
      conv=>whnf
      refine⟨by show S.length+15≤_;omega,?_⟩
      conv=>whnf
      refine⟨i,rfl,by omega,?_⟩
      conv=>whnf
      refine ak (aj (T:=eG) rfl rfl (ah htok) hcell) ?_
      conv=>whnf
      refine⟨by rw [List.length_append];show S.length+15+z.s.length≤_;omega,?_⟩
      conv=>whnf
      refine⟨((i+1:Nat):Int),wrap_i64 (by omega) (by omega),?_⟩
      conv=>whnf
      exact hih
    ·have hkd:kB bs i=0:=by unfold kB;rw [List.getElem?_eq_none (by omega)]
     obtain⟨hS,hih⟩:=step 0 hkd
     have hS:S.length+1+z.s.length≤32015:=hS
     refine aS.round aF (lit:=false) ?_
     conv=>whnf
     rw [decide_eq_true (by omega)]
     conv=>whnf
     conv=>whnf
     rw [decide_eq_false (by omega)]
     conv=>whnf
     refine⟨by decide,?_⟩
     conv=>whnf
     refine⟨by show S.length+1≤_;omega,?_⟩
     conv=>whnf
     refine⟨i,rfl,by omega,?_⟩
     conv=>whnf
     refine ak (aj (T:=eG) rfl rfl (ah htok) hcell) ?_
     conv=>whnf
     refine⟨by rw [List.length_append];show S.length+1+z.s.length≤_;omega,?_⟩
     conv=>whnf
     refine⟨((i+1:Nat):Int),wrap_i64 (by omega) (by omega),?_⟩
     conv=>whnf
     exact hih
end Go.bG.YtjcicgkencfbgaaGreatDoor
