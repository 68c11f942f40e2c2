/- Texts of this claim, joined: Vf, Vh, Vg. -/
import Derived.Test.YtlkfbfhkcaldlaaGreatDoorM21
import Derived.Test.YtlkfbfhkcaldlaaGreatDoorM20
import Derived.Test.YtlkfbfhkcaldlaaGreatDoorM18
set_option linter.unusedVariables false
set_option linter.unusedSimpArgs false
namespace Go.Abs.YtlkfbfhkcaldlaaGreatDoor
set_option maxRecDepth 4000
theorem isW_no {b:UInt8} (h:isWord b.toNat=false):bQ b.toNat=false/\isDigit b.toNat=false:=by
 unfold isWord at h
 rwa [Bool.or_eq_false_iff] at h
theorem Hz {k:Nat} {s:List UInt8} (h:Good k s)(hk:k≠3) {b:UInt8} (hb:isWord b.toNat=false)(x:List UInt8):step (s ++ b :: x)= .tok k s.length:=by
 obtain⟨w3,w2⟩:=isW_no hb
 obtain⟨u,hu,hst,hs⟩:=h
 cases u with
 | nil=>exact(hu rfl).elim
 | cons c r=>
   have hf:=jh c r
   rw [hst] at hf
   simp only [Stp.fits] at hf
   obtain⟨s',hs'⟩:∃s',s=c :: s':=by
    cases s with
    | nil=>simp at hf
    | cons d s'=>simp at hs;exact⟨s',by rw [hs.1]⟩
   unfold step at hst
   split at hst
   ·cases hst
   ·rename_i hp
    simp only at hst
    split at hst
    ·cases hst
    ·rename_i hbl
     have h47:bQ c.toNat=true\/isDigit c.toNat=true->[47,47].isPrefixOf (s ++ b :: x)=false:=by
      intro hc
      subst hs'
      cases hq: [47,47].isPrefixOf (c :: s' ++ b :: x) with
      | false=>rfl
      | true=>
        exfalso
        simp only [pG,List.isPrefixOf,fJ,beq_iff_eq] at hq
        rw [<-hq.1] at hc
        revert hc;decide
     split at hst
     ·rename_i hle
      have hp2:=h47 (.inl hle)
      split at hst
      ·cases hst
      ·rename_i h32
       have hm:s.length=run isWord (c :: r):=by
            split at hst <;> (injection hst with _ h2;exact h2.symm)
       rw [hm] at hs
       have e1:run isWord (s ++ b :: x)=run isWord (c :: r):=by rw [hs];exact um isWord (c :: r) b x hb
       have e2:(s ++ b :: x).take (run isWord (c :: r))=s:=by rw [<-hm];exact List.take_left
       have e3:(c :: r).take (run isWord (c :: r))=s:=hs.symm
       unfold step
       rw [hp2,e1,e2]
       rw [e3] at hst
       subst hs'
       simp only [nR,if_false,pG,hbl,hle,if_true,h32]
       exact hst
     ·rename_i hle
      split at hst
      ·rename_i hdg
       have hp2:=h47 (.inr hdg)
       split at hst
       ·cases hst
       ·rename_i hno
        split at hst
        ·cases hst
        ·rename_i hbig
         injection hst with hk hm
         rw [<-hm] at hs
         have e1:run isDigit (s ++ b :: x)=run isDigit (c :: r):=by rw [hs];exact um isDigit (c :: r) b x w2
         have e2:(s ++ b :: x).take (run isDigit (c :: r))=s:=by rw [hm];exact List.take_left
         have e3:(c :: r).take (run isDigit (c :: r))=s:=hs.symm
         have e4:run bQ ((s ++ b :: x).drop (run isDigit (c :: r)))=0:=by rw [hm,List.drop_left];simp [run,w3]
         unfold step
         rw [hp2,e1,e2,e4]
         rw [e3] at hbig
         have hno2:¬(c.toNat=48/\1<run isDigit (c :: r)):=fun h=>hno (.inl h)
         subst hs'
         simp only [nR,if_false,pG,hbl,hle,hdg,if_true,hno2,Nat.lt_irrefl,or_self,hbig]
         rw [hk,hm]
      ·split at hst
       ·split at hst <;> (injection hst with h1 _;exact(hk h1.symm).elim)
       ·cases hst
def Jt:List UInt8:=[40,41,91,93,58,44,59,123,125,33,45,61]
theorem vX {c:UInt8} (hc:c∈Jt) {b:UInt8} (hb:b≠61)(x:List UInt8):step (c :: b :: x)= .tok 3 1:=by
 have h1:c≠47/\dN c.toNat=false/\bQ c.toNat=false/\isDigit c.toNat=false/\pU c.toNat=true/\∀w∈kV,w.head? =some c->w=[c,61]:=by
  revert c;decide +kernel
 obtain⟨h1,h2,h3,h4,h5,h6⟩:=h1
 have h7:kV.contains ((c :: b :: x).take 2)=false:=by
  show kV.contains [c,b]=false
  cases hq:kV.contains [c,b] with
  | false=>rfl
  | true=>
    have:=h6 _ (List.contains_iff_mem.1 hq) rfl
    simp only [List.cons.injEq,true_and,and_true] at this
    exact(hb this).elim
 unfold step
 rw [if_neg (by simp [List.isPrefixOf,Ne.symm h1])]
 simp only [h2,h3,h4,h5,h7,nR,if_false,if_true]
theorem HY (n:Nat):∀c∈Lib.decDigits n,isDigit c.toNat=true:=by
 induction n using Nat.strongRecOn with
 | _ n ih=>
   have one:∀k,k<10->isDigit (UInt8.ofNat (48+k)).toNat=true:=by
     intro k hk
     rw [Jp hk]
     simp only [isDigit,fJ,decide_eq_true_eq];omega
   rw [Lib.decDigits]
   by_cases h:n<10
   ·rw [dif_pos h]
    intro c hc
    obtain rfl:=List.mem_singleton.1 hc
    exact one n h
   ·rw [dif_neg h]
    intro c hc
    rcases List.mem_append.1 hc with hc | hc
    ·exact ih (n / 10) (by omega) c hc
    ·obtain rfl:=List.mem_singleton.1 hc
     exact one _ (by omega)
theorem MN (n:Nat):∃c r,Lib.decDigits n=c :: r/\(c.toNat=48->r=[]):=by
 induction n using Nat.strongRecOn with
 | _ n ih=>
   rw [Lib.decDigits]
   by_cases h:n<10
   ·rw [dif_pos h];exact⟨_,_,rfl,fun _=>rfl⟩
   ·rw [dif_neg h]
    obtain⟨c,r,h1,h2⟩:=ih (n / 10) (by omega)
    refine⟨c,r ++ [_],by rw [h1];rfl,fun h48=>?_⟩
    exfalso
    have hr:=h2 h48
    subst hr
    have:lD 0 (Lib.decDigits (n / 10))=n / 10:=zu _
    rw [h1,EU,h48] at this
    omega
theorem H6 (p:Int->Bool):∀(l:List UInt8),(∀c∈l,p c.toNat=true)->run p l=l.length
 | [],_=>rfl
 | c :: l,h=>by
   rw [run,if_pos (h c (List.mem_cons_self ..)),H6 p l fun x hx=>h x (List.mem_cons_of_mem _ hx)];rfl
theorem Qu:∀(l:List UInt8) (v:Nat),v<=lD v l
 | [],v=>Nat.le_refl _
 | c :: l,v=>by
   have:=Qu l (10*v+(c.toNat - 48))
   show v<=lD (10*v+(c.toNat - 48)) l
   omega
theorem H7:∀(l:List UInt8) (v:Nat),(∀c∈l,isDigit c.toNat=true)->lD v l<4294967296->∃u,Lib.parseUintM 4294967295 v l= .ok u
 | [],v,_,_=>⟨v,rfl⟩
 | c :: r,v,hd,hv=>by
   have h1:=hd c (List.mem_cons_self ..)
   simp only [isDigit,fJ,decide_eq_true_eq] at h1
   have h2:=Qu r (10*v+(c.toNat - 48))
   have h3:lD v (c :: r)=lD (10*v+(c.toNat - 48)) r:=rfl
   unfold Lib.parseUintM
   rw [if_pos (by omega),if_neg (by omega),if_neg (by omega),show v*10+(c.toNat - 48)=10*v+(c.toNat - 48) by omega]
   exact H7 r _ (fun c hc=>hd c (List.mem_cons_of_mem _ hc)) (by omega)
theorem E_ {n:Nat} (h:n<4294967296):Good 2 (Lib.decDigits n):=by
 obtain⟨c,r,he,h0⟩:=MN n
 have hd:=HY n
 have hr:run isDigit (Lib.decDigits n)=(Lib.decDigits n).length:=H6 _ _ hd
 have hb:tooBig (Lib.decDigits n)=false:=by
  unfold tooBig Lib.parseUintB
  rw [if_neg (by rw [he];simp)]
  obtain⟨u,hu⟩:=H7 (Lib.decDigits n) 0 hd (by rw [zu];exact h)
  rw [show 2^32 - 1=4294967295 from rfl,hu]
 refine⟨Lib.decDigits n,by rw [he];simp,?_,by rw [iq]⟩
 have hc:=hd c (by rw [he];exact List.mem_cons_self ..)
 have hne:c≠47/\dN c.toNat=false/\bQ c.toNat=false:=by
  simp only [isDigit,fJ,decide_eq_true_eq] at hc
  refine⟨by rintro rfl;revert hc;decide,?_,?_⟩
  ·simp only [dN,Bool.or_eq_false_iff,beq_eq_false_iff_ne];omega
  ·simp only [bQ,Bool.or_eq_false_iff,Bool.and_eq_false_iff,decide_eq_false_iff_not,beq_eq_false_iff_ne];omega
 rw [he] at hr hb ⊢
 have hl:¬((c.toNat=48/\1<(c :: r).length)\/0<run bQ ((c :: r).drop (c :: r).length)):=by
  rw [List.drop_length]
  rintro (⟨h1,h2⟩ | h)
  ·rw [h0 h1] at h2;simp at h2
  ·cases h
 unfold step
 rw [if_neg (by simp [List.isPrefixOf,Ne.symm hne.1])]
 simp only [hne.2.1,hne.2.2,hc,nR,if_false,if_true]
 rw [hr,iq,hb,if_neg hl]
 rfl
def Stp1 (k:Nat)(s:List UInt8)(b:UInt8):Prop:=s≠[]/\∀x,step (s ++ b :: x)= .tok k s.length
def lH:List Pc->List UInt8->Prop
 | [],_=>True
 | .b c :: r,x=>(c=32\/c=9\/c=10)/\lH r x
 | .w k s :: r,x=>(∃b y,bn r ++ x=b :: y/\Stp1 k s b)/\lH r x
theorem fV:∀(a b:List Pc) (x:List UInt8),lH a (bn b ++ x)->lH b x->lH (a ++ b) x
 | [],b,x,_,h=>h
 | .b c :: r,b,x,h,k=>⟨h.1,fV r b x h.2 k⟩
 | .w kd s :: r,b,x,h,k=>by
   refine⟨?_,fV r b x h.2 k⟩
   obtain⟨c,y,h1,h2⟩:=h.1
   exact⟨c,y,by show bn (r ++ b) ++ x=c :: y;rw [aS,iC];exact h1,h2⟩
theorem AX:∀(ps:List Pc) (x:List UInt8) (l:Nat) (acc:List Tok),lH ps x->∃l' w,wG (bn ps ++ x) l acc=wG x l' (acc ++ w)/\w.map lz=jf ps
 | [],x,l,acc,_=>⟨l,[],by simp [bn],rfl⟩
 | .b c :: r,x,l,acc,h=>by
   rcases h.1 with rfl | rfl | rfl
   ·obtain⟨l',w,h1,h2⟩:=AX r x l acc h.2
    exact⟨l',w,(P_ 32 (.inl rfl) _ _ _).trans h1,h2⟩
   ·obtain⟨l',w,h1,h2⟩:=AX r x l acc h.2
    exact⟨l',w,(P_ 9 (.inr (.inl rfl)) _ _ _).trans h1,h2⟩
   ·obtain⟨l',w,h1,h2⟩:=AX r x (l+1) acc h.2
    exact⟨l',w,(P9 _ _ _).trans h1,h2⟩
 | .w k s :: r,x,l,acc,h=>by
   obtain⟨b,y,h1,hne,h2⟩:=h.1
   obtain⟨l',w,h3,h4⟩:=AX r x l (acc ++ [⟨k,s,l⟩]) h.2
   refine⟨l',⟨k,s,l⟩ :: w,?_,?_⟩
   ·have hst:=h2 y
    rw [<-h1] at hst
    show wG (s ++ bn r ++ x) l acc=_
    rw [iC,Em hst (by simp [hne]),List.drop_left,List.take_left,h3]
    simp
   ·rw [List.map_cons,h4];rfl
def CZ (x:List UInt8):Prop:=∃b y,x=b :: y/\isWord b.toNat=false/\b≠61
theorem MO {k:Nat} {s:List UInt8} (h:Good k s)(hk:k≠3) {r:List Pc} {x:List UInt8} (hx:CZ (bn r ++ x))(hr:lH r x):lH (.w k s :: r) x:=by
 obtain⟨b,y,h1,h2,_⟩:=hx
 refine⟨⟨b,y,h1,?_,fun x=>Hz h hk h2 x⟩,hr⟩
 rintro rfl
 obtain⟨u,hu,hst,_⟩:=h
 cases u with
 | nil=>exact hu rfl
 | cons c r=>have:=jh c r;rw [hst] at this;exact Nat.lt_irrefl _ this.1
theorem oks {c:UInt8} (hc:c∈Jt) {r:List Pc} {x:List UInt8} (hx:∃b y,bn r ++ x=b :: y/\b≠61)(hr:lH r x):lH (.w 3 [c] :: r) x:=by
 obtain⟨b,y,h1,h2⟩:=hx
 exact⟨⟨b,y,h1,by simp,fun x=>vX hc h2 x⟩,hr⟩
theorem lC {s:List UInt8} (h:s∈keys):Good 4 s:=by
 refine⟨s,?_,?_,by rw [iq]⟩ <;> revert s <;> decide +kernel
theorem Zz {s:List UInt8} (h:aF s≠0):Good 3 s:=by
 have h1:s∈[[124,124],[38,38],[61,61],[33,61],[60],[60,61],[62],[62,61],[43],[45],[124],[94],[42],[47],[37],[38],[60,60],[62,62]]:=by
  unfold aF at h
  repeat' split at h
  all_goals first | (exact(h rfl).elim) | (rename_i hh;first | (subst hh;decide) | (rcases hh with rfl | rfl <;> decide) | (rcases hh with rfl | rfl | rfl | rfl <;> decide) | (rcases hh with rfl | rfl | rfl | rfl | rfl | rfl <;> decide))
 clear h
 refine⟨s,?_,?_,by rw [iq]⟩ <;> revert s <;> decide +kernel
theorem okop {s:List UInt8} (h:aF s≠0) {r:List Pc} {x:List UInt8} (hr:lH r x):lH (.b 32 :: .w 3 s :: .b 32 :: r) x:=by
 refine⟨.inl rfl,⟨32,bn r ++ x,rfl,?_,fun x=>good_step (Zz h) (by decide) x⟩,.inl rfl,hr⟩
 rintro rfl
 exact h (by decide)
def Fst (s:List UInt8):Prop:=∃b y,s=b :: y/\b≠61
theorem Fst.app {s x:List UInt8} (h:Fst s):Fst (s ++ x):=by
 obtain⟨b,y,rfl,h⟩:=h;exact⟨b,_,rfl,h⟩
theorem uT {k:Nat} {s:List UInt8} (h:Good k s)(hk:k=1\/k=2):Fst s:=by
 obtain⟨u,hu,hst,hs⟩:=h
 cases u with
 | nil=>exact(hu rfl).elim
 | cons c r=>
   cases s with
   | nil=>have:=jh c r;rw [hst] at this;exact(Nat.lt_irrefl _ this.1).elim
   | cons d s=>
     simp only [bg,List.take_succ_cons,List.cons.injEq] at hs
     refine⟨d,s,rfl,?_⟩
     rintro rfl
     rw [<-hs.1] at hst
     unfold step at hst
     split at hst
     ·cases hst
     ·simp only at hst
      rw [if_neg (by decide),if_neg (by decide),if_neg (by decide),if_pos (by decide +kernel)] at hst
      split at hst <;> (injection hst with h1 _;omega)
theorem Cc:∀{t:Tr},WT t->∀c,Fst (bn (fH t c))
 | .ex k n nm tx l r ar ln,h,c=>by
   cases h with
   | num _ _ h=>simp [fH,bn];exact uT (E_ h) (.inr rfl)
   | name _ _ h=>simp [fH,bn];exact uT h (.inl rfl)
   | un _ _ _ h1 h2=>
     simp only [fH]
     by_cases hc:7<c
     ·simp [isNil,hc,sK,bn];exact⟨_,_,rfl,by decide⟩
     ·simp [isNil,hc,sK,bn]
      rcases h1 with rfl | rfl <;> exact⟨_,_,rfl,by decide⟩
   | bin _ _ _ _ h1 h2 h3=>
     simp only [fH]
     by_cases hc:aF tx<c
     ·simp [h2.nn,hc,sK,bn];exact⟨_,_,rfl,by decide⟩
     ·simp [h2.nn,hc,sK,aS];exact(Cc h2 _).app
   | call _ _ _ h1 h2=>simp [fH,bn];exact(uT h1 (.inl rfl)).app
   | cell _ _ _ h1 h2=>simp [fH,aS];exact(Cc h1 8).app
   | link _ _ _ h1 h2=>simp [fH,aS];exact(Cc h1 8).app
   | new _ _ h=>simp [fH,bn];exact⟨_,_,rfl,by decide⟩
   | inn _=>simp [fH,bn];exact⟨_,_,rfl,by decide⟩
theorem Ju {b:UInt8} (h:isWord b.toNat=false/\b≠61)(x:List UInt8):CZ (b :: x):=⟨b,x,rfl,h.1,h.2⟩
theorem CZ.ne {x:List UInt8} (h:CZ x):∃b y,x=b :: y/\b≠61:=by obtain⟨b,y,h1,_,h2⟩:=h;exact⟨b,y,h1,h2⟩
theorem OO {c:UInt8} (hc:c∈Jt) {x:List UInt8} (h:CZ x):lH [.w 3 [c]] x:=oks hc h.ne trivial
theorem okpar {ps:List Pc} {x:List UInt8} (b:Bool)(h:∀y,CZ y->lH ps y)(hf:Fst (bn ps))(hx:CZ x):lH (sK b ps) x:=by
 cases b with
 | false=>exact h x hx
 | true=>
   show lH (.w 3 [40] :: (ps ++ [.w 3 [41]])) x
   refine oks (by decide) ?_ (fV ps _ x (h _ (Ju (b:=41) (by decide) x)) (OO (by decide) hx))
   rw [aS,iC]
   exact hf.app
theorem Wl {ps:List Pc} {x:List UInt8} {c:UInt8} (hc:c∈Jt)(hw:isWord c.toNat=false/\c≠61)(h:∀y,CZ y->lH ps y)(hx:CZ x):lH (ps ++ [.w 3 [c]]) x:=
 fV ps _ x (h _ (Ju hw x)) (OO hc hx)
theorem wNew_k:Good 4 qF:=lC (by decide)
theorem wIn_k:Good 4 FM:=lC (by decide)
mutual
theorem OQ:∀{t:Tr},WT t->∀c x,CZ x->lH (fH t c) x
 | .ex k n nm tx l r ar ln,h,c,x,hx=>by
   cases h with
   | num _ _ h=>simp only [fH,if_true];exact MO (E_ h) (by decide) hx trivial
   | name _ _ h=>simp only [fH,if_true,show ¬(2:Nat)=1 by decide,if_false];exact MO h (by decide) hx trivial
   | un _ _ _ h1 h2=>
     have e:fH (.ex 3 0 [] tx .nil r .nil ln) c=sK (decide (7<c)) ([.w 3 tx] ++ fH r 7):=by simp [fH,isNil]
     rw [e]
     refine okpar _ (fun y hy=>?_) ?_ hx
     ·rcases h1 with rfl | rfl
      ·exact oks (by decide) (Cc h2 7).app (OQ h2 7 y hy)
      ·exact oks (by decide) (Cc h2 7).app (OQ h2 7 y hy)
     ·rcases h1 with rfl | rfl <;> exact⟨_,_,rfl,by decide⟩
   | bin _ _ _ _ h1 h2 h3=>
     have e:fH (.ex 3 0 [] tx l r .nil ln) c=sK (decide (aF tx<c)) (fH l (aF tx) ++ ([.b 32,.w 3 tx,.b 32] ++ fH r (aF tx+1))):=by simp [fH,h2.nn]
     rw [e]
     refine okpar _ (fun y hy=>?_) ?_ hx
     ·exact fV _ _ y (OQ h2 _ _ (Ju (b:=32) (by decide) _)) (okop h1 (OQ h3 _ y hy))
     ·rw [aS];exact(Cc h2 _).app
   | call _ _ _ h1 h2=>
     have e:fH (.ex 4 0 nm [] .nil .nil ar ln) c= .w 1 nm :: .w 3 [40] :: (lV ar true ++ [.w 3 [41]]):=by simp [fH]
     rw [e]
     refine MO h1 (by decide) (Ju (b:=40) (by decide) _) (oks (by decide) ?_ (Wl (by decide) (by decide) (fun y hy=>okA h2 true y hy) hx))
     cases h2 with
     | nil=>exact⟨41,x,by simp [lV,bn],by decide⟩
     | cons t r h2 h3=>
       have:=((Cc h2 1).app (x:=bn (lV r false ++ [.w 3 [41]]) ++ x))
       show Fst _
       simpa [lV,aS] using this
   | cell _ _ _ h1 h2=>
     have e:fH (.ex 5 0 [] [] l r .nil ln) c=fH l 8 ++ (.w 3 [91] :: (fH r 1 ++ [.w 3 [93]])):=by simp [fH]
     rw [e]
     refine fV _ _ x (OQ h1 8 _ (Ju (b:=91) (by decide) _)) (oks (by decide) ?_ (Wl (by decide) (by decide) (fun y hy=>OQ h2 1 y hy) hx))
     rw [aS,iC];exact(Cc h2 1).app
   | link _ _ _ h1 h2=>
     have e:fH (.ex 6 0 [] [] l r .nil ln) c=fH l 8 ++ (.w 3 [58] :: (if qM r=true then fH r 8 else .w 3 [40] :: (fH r 1 ++ [.w 3 [41]]))):=by
       by_cases h:qM r=true <;> simp [fH,h]
     rw [e]
     refine fV _ _ x (OQ h1 8 _ (Ju (b:=58) (by decide) _)) (oks (by decide) ?_ ?_)
     ·by_cases h:qM r=true
      ·rw [if_pos h];exact(Cc h2 8).app
      ·rw [if_neg h];exact⟨40,_,rfl,by decide⟩
     ·by_cases h:qM r=true
      ·rw [if_pos h];exact OQ h2 8 x hx
      ·rw [if_neg h]
       refine oks (by decide) ?_ (Wl (by decide) (by decide) (fun y hy=>OQ h2 1 y hy) hx)
       rw [aS,iC];exact(Cc h2 1).app
   | new _ _ h=>
     have e:fH (.ex 7 0 [] [] l .nil .nil ln) c= .w 4 qF :: .w 3 [40] :: (fH l 1 ++ [.w 3 [41]]):=by simp [fH]
     rw [e]
     refine MO wNew_k (by decide) (Ju (b:=40) (by decide) _) (oks (by decide) ?_ (Wl (by decide) (by decide) (fun y hy=>OQ h 1 y hy) hx))
     rw [aS,iC];exact(Cc h 1).app
   | inn _=>
     have e:fH (.ex 8 0 [] [] .nil .nil .nil ln) c=[.w 4 FM,.w 3 [40],.w 3 [41]]:=by simp [fH]
     rw [e]
     exact MO wIn_k (by decide) (Ju (b:=40) (by decide) _) (oks (by decide) ⟨41,x,rfl,by decide⟩ (OO (by decide) hx))
theorem okA:∀{a:jA},OI a->∀b x,CZ x->lH (lV a b) x
 | .nil,_,b,x,hx=>by simp only [lV];trivial
 | .cons t r,h,b,x,hx=>by
   cases h with
   | cons _ _ h1 h2=>
     have hf:CZ (bn (lV r false) ++ x):=by
        cases h2 with
        | nil=>simpa [lV,bn] using hx
        | cons t r _ _=>simp only [lV,nR,if_false,pG,bn];exact Ju (b:=44) (by decide) _
     have hm:=fV _ _ x (OQ h1 1 _ hf) (okA h2 false x hx)
     cases b with
     | true=>simpa [lV] using hm
     | false=>
       have e:lV (.cons t r) false= .w 3 [44] :: .b 32 :: (fH t 1 ++ lV r false):=by simp [lV]
       rw [e]
       exact oks (by decide) ⟨32,_,rfl,by decide⟩ ⟨.inl rfl,hm⟩
end
theorem Jv:∀(d:Nat) {ps:List Pc} {x:List UInt8},lH ps x->lH (lu d ++ ps) x
 | 0,_,_,h=>h
 | d+1,ps,x,h=>⟨.inr (.inl rfl),Jv d h⟩
theorem Qv {ps:List Pc} {x:List UInt8} (h:lH ps x):lH (qp ++ ps) x:=⟨.inl rfl,⟨10,_,rfl,by simp,fun x=>vX (by decide) (by decide) x⟩,.inr (.inr rfl),h⟩
theorem Qw (d:Nat) {x:List UInt8} (h:CZ x):lH (oQ d) x:=Jv d (OO (by decide) h)
theorem MP {r:Tr} (h:WT r) {x:List UInt8} (hx:CZ x):lH (fH r 1 ++ [.w 3 [59]]) x:=Wl (by decide) (by decide) (fun y hy=>OQ h 1 y hy) hx
theorem okeq {r:Tr} (h:WT r) {x:List UInt8} (hx:CZ x):lH (Qr ++ (fH r 1 ++ [.w 3 [59]])) x:=
 ⟨.inl rfl,⟨32,_,rfl,by simp,fun x=>vX (by decide) (by decide) x⟩,.inl rfl,MP h hx⟩
theorem Gf {s:List UInt8} (h:s∈keys) {ps:List Pc} {x:List UInt8} (hp:lH ps x):lH (.w 4 s :: .b 32 :: ps) x:=MO (lC h) (by decide) (Ju (b:=32) (by decide) _) ⟨.inl rfl,hp⟩
theorem uV (x:List UInt8):CZ (32 :: x):=Ju (by decide) x
theorem Wn (x:List UInt8):CZ (10 :: x):=Ju (by decide) x
mutual
theorem okS:∀{s:Sm},WS s->∀d x,CZ x->lH (gu s d) x
 | .st k nm p l r th el ln,h,d,x,hx=>by
   cases h with
   | var _ _ _ _ h1 h2=>
     have e:gu (.st 1 nm p .nil r .nil .nil ln) d= .w 4 Et :: .b 32 :: .w 1 nm :: ((if p=true then [.b 32,.w 4 dA] else []) ++ (if isNil r=true then [.w 3 [59]] else Qr ++ (fH r 1 ++ [.w 3 [59]]))):=by
       by_cases h:isNil r=true <;> simp [gu,h]
     rw [e]
     have ht:lH (if isNil r=true then [.w 3 [59]] else Qr ++ (fH r 1 ++ [.w 3 [59]])) x/\CZ (bn (if isNil r=true then [.w 3 [59]] else Qr ++ (fH r 1 ++ [.w 3 [59]])) ++ x):=by
       rcases h2 with rfl | h2
       ·exact⟨OO (by decide) hx,Ju (b:=59) (by decide) _⟩
       ·rw [if_neg (by rw [h2.nn];decide)];exact⟨okeq h2 hx,uV _⟩
     refine Gf (by decide) (MO h1 (by decide) ?_ ?_)
     ·cases p with
      | true=>exact uV _
      | false=>exact ht.2
     ·cases p with
      | true=>exact⟨.inl rfl,MO (lC (by decide)) (by decide) ht.2 ht.1⟩
      | false=>exact ht.1
   | set _ _ _ h1 h2=>
     have e:gu (.st 2 nm false .nil r .nil .nil ln) d= .w 1 nm :: (Qr ++ (fH r 1 ++ [.w 3 [59]])):=by simp [gu]
     rw [e]
     exact MO h1 (by decide) (uV _) (okeq h2 hx)
   | cell _ _ _ h1 h2 h3=>
     have e:gu (.st 3 [] false l r .nil .nil ln) d=fH l 8 ++ (Qr ++ (fH r 1 ++ [.w 3 [59]])):=by simp [gu]
     rw [e]
     exact fV _ _ x (OQ h1 8 _ (uV _)) (okeq h3 hx)
   | iff _ _ _ _ h1 h2 h3=>
     have e:gu (.st 4 [] false .nil r th el ln) d= .w 4 I7 :: .b 32 :: (fH r 1 ++ (qp ++ (jo th (d+1) ++ (oQ d ++ kL el d)))):=by simp [gu]
     rw [e]
     have he:lH (kL el d) x/\CZ (bn (kL el d) ++ x):=okEl h3 d x hx
     exact Gf (by decide) (fV _ _ x (OQ h1 1 _ (uV _)) (Qv (fV _ _ x (Wp h2 (d+1) _) (fV _ _ x (Qw d he.2) he.1))))
   | whl _ _ _ h1 h2=>
     have e:gu (.st 5 [] false .nil r th .nil ln) d= .w 4 ql :: .b 32 :: (fH r 1 ++ (qp ++ (jo th (d+1) ++ oQ d))):=by simp [gu]
     rw [e]
     exact Gf (by decide) (fV _ _ x (OQ h1 1 _ (uV _)) (Qv (fV _ _ x (Wp h2 (d+1) _) (Qw d hx))))
   | out _ _ h1=>
     have e:gu (.st 6 [] false .nil r .nil .nil ln) d= .w 4 Eu :: .b 32 :: (fH r 1 ++ [.w 3 [59]]):=by simp [gu]
     rw [e];exact Gf (by decide) (MP h1 hx)
   | free _ _ h1=>
     have e:gu (.st 7 [] false .nil r .nil .nil ln) d= .w 4 uy :: .b 32 :: (fH r 1 ++ [.w 3 [59]]):=by simp [gu]
     rw [e];exact Gf (by decide) (MP h1 hx)
   | drain _=>
     have e:gu (.st 8 [] false .nil .nil .nil .nil ln) d=[.w 4 oH,.w 3 [59]]:=by simp [gu]
     rw [e];exact MO (lC (by decide)) (by decide) (Ju (b:=59) (by decide) _) (OO (by decide) hx)
   | ret _ _ h1=>
     rcases h1 with rfl | h1
     ·have e:gu (.st 9 [] false .nil .nil .nil .nil ln) d=[.w 4 fD,.w 3 [59]]:=by simp [gu,isNil]
      rw [e];exact MO (lC (by decide)) (by decide) (Ju (b:=59) (by decide) _) (OO (by decide) hx)
     ·have e:gu (.st 9 [] false .nil r .nil .nil ln) d= .w 4 fD :: .b 32 :: (fH r 1 ++ [.w 3 [59]]):=by simp [gu,h1.nn]
      rw [e];exact Gf (by decide) (MP h1 hx)
   | call _ _ h1 h2=>
     have e:gu (.st 10 [] false .nil r .nil .nil ln) d=fH r 1 ++ [.w 3 [59]]:=by simp [gu]
     rw [e];exact MP h1 hx
theorem Wp:∀{s:gY},Hr s->∀d x,lH (jo s d) x
 | .nil,_,d,x=>by simp only [jo];trivial
 | .cons s r,h,d,x=>by
   cases h with
   | cons _ _ h1 h2=>
     have e:jo (.cons s r) d=lu d ++ (gu s d ++ (.b 10 :: jo r d)):=by simp [jo]
     rw [e]
     exact Jv d (fV _ _ x (okS h1 d _ (Wn _)) ⟨.inr (.inr rfl),Wp h2 d x⟩)
theorem okEl:∀{s:gY},Hr s->∀d x,CZ x->lH (kL s d) x/\CZ (bn (kL s d) ++ x)
 | .nil,_,d,x,hx=>by simp only [kL];exact⟨trivial,hx⟩
 | .cons s r,h,d,x,hx=>by
   cases h with
   | cons _ _ h1 h2=>
     by_cases hk:rW r=true/\kS s=4
     ·have e:kL (.cons s r) d= .b 32 :: .w 4 jJ :: .b 32 :: gu s d:=by simp only [kL,if_pos hk];rfl
      rw [e]
      exact⟨⟨.inl rfl,Gf (by decide) (okS h1 d x hx)⟩,uV _⟩
     ·have e:kL (.cons s r) d= .b 32 :: .w 4 jJ :: (qp ++ (lu (d+1) ++ (gu s (d+1) ++ (.b 10 :: (jo r (d+1) ++ oQ d))))):=by simp only [kL,if_neg hk];simp
      rw [e]
      exact⟨⟨.inl rfl,MO (lC (by decide)) (by decide) (uV _) (Qv (Jv _ (fV _ _ x (okS h1 (d+1) _ (Wn _)) ⟨.inr (.inr rfl),fV _ _ x (Wp h2 (d+1) _) (Qw d hx)⟩)))⟩,uV _⟩
end
theorem okP:∀(ps:List (List UInt8×Bool)),(∀p∈ps,Good 1 p.1)->∀b x,CZ x->lH (rX ps b) x
 | [],_,b,x,_=>trivial
 | (nm,p) :: r,h,b,x,hx=>by
   have h1:=h (nm,p) (List.mem_cons_self ..)
   have ih:=okP r (fun q hq=>h q (List.mem_cons_of_mem _ hq)) false x hx
   have hf:CZ (bn (rX r false) ++ x):=by
    cases r with
    | nil=>exact hx
    | cons y r=>obtain⟨n2,p2⟩:=y;exact Ju (b:=44) (by decide) _
   have hm:lH (.w 1 nm :: ((if p=true then [.b 32,.w 4 dA] else []) ++ rX r false)) x:=by
    refine MO h1 (by decide) ?_ ?_
    ·cases p with
     | true=>exact uV _
     | false=>exact hf
    ·cases p with
     | true=>exact⟨.inl rfl,MO (lC (by decide)) (by decide) hf ih⟩
     | false=>exact ih
   cases b with
   | true=>
     have e:rX ((nm,p) :: r) true= .w 1 nm :: ((if p=true then [.b 32,.w 4 dA] else []) ++ rX r false):=by simp [rX]
     rw [e];exact hm
   | false=>
     have e:rX ((nm,p) :: r) false= .w 3 [44] :: .b 32 :: (.w 1 nm :: ((if p=true then [.b 32,.w 4 dA] else []) ++ rX r false)):=by simp [rX]
     rw [e];exact oks (by decide) ⟨32,_,rfl,by decide⟩ ⟨.inl rfl,hm⟩
theorem okF {f:Fm} (h:Qq f)(x:List UInt8):lH (Nq f) x:=by
 have e:Nq f= .w 4 pV :: .b 32 :: .w 1 f.name :: .w 3 [40] :: (rX f.params true ++ (.w 3 [41] :: ((if f.ptr=true then [.b 32,.w 4 dA] else []) ++ (qp ++ (jo f.body 1 ++ (oQ 0 ++ [.b 10])))))):=by simp [Nq]
 rw [e]
 have ht:lH (qp ++ (jo f.body 1 ++ (oQ 0 ++ [.b 10]))) x:=Qv (fV _ _ x (Wp h.body 1 _) (fV _ _ x (Qw 0 (Wn _)) ⟨.inr (.inr rfl),trivial⟩))
 have h2:lH ((if f.ptr=true then [.b 32,.w 4 dA] else []) ++ (qp ++ (jo f.body 1 ++ (oQ 0 ++ [.b 10])))) x:=by
  by_cases hp:f.ptr=true
  ·rw [if_pos hp];exact⟨.inl rfl,MO (lC (by decide)) (by decide) (uV _) ht⟩
  ·rw [if_neg hp];exact ht
 have hf:∃b y,bn ((if f.ptr=true then [.b 32,.w 4 dA] else []) ++ (qp ++ (jo f.body 1 ++ (oQ 0 ++ [.b 10])))) ++ x=b :: y/\b≠61:=by
  by_cases hp:f.ptr=true
  ·rw [if_pos hp];exact⟨32,_,rfl,by decide⟩
  ·rw [if_neg hp];exact⟨32,_,rfl,by decide⟩
 refine Gf (by decide) (MO h.name (by decide) (Ju (b:=40) (by decide) _) (oks (by decide) ?_ (fV _ _ x (okP _ h.ps true _ (Ju (b:=41) (by decide) _)) (oks (by decide) hf h2))))
 cases hps:f.params with
 | nil=>exact⟨41,_,rfl,by decide⟩
 | cons y r=>
   obtain⟨nm,p⟩:=y
   have hg:=h.ps (nm,p) (by rw [hps];exact List.mem_cons_self ..)
   have:=(uT hg (.inl rfl)).app (x:=bn ((if p=true then [.b 32,.w 4 dA] else []) ++ rX r false ++ (.w 3 [41] :: ((if f.ptr=true then [.b 32,.w 4 dA] else []) ++ (qp ++ (jo f.body 1 ++ (oQ 0 ++ [.b 10])))))) ++ x)
   show Fst _
   simpa [rX,bn,aS] using this
theorem okFs:∀(fs:List Fm),(∀f∈fs,Qq f)->lH (iF fs) []
 | [],_=>trivial
 | f :: r,h=>fV _ _ _ (okF (h f (List.mem_cons_self ..)) _) (okFs r fun x hx=>h x (List.mem_cons_of_mem _ hx))
theorem Sl {fs:List Fm} (h:∀f∈fs,Qq f)(hl:(bn (iF fs)).length<=32768):∃w,uj (bn (iF fs))= .toks w/\w.map lz=Js fs ++ [iG]:=by
 obtain⟨l',w,h1,h2⟩:=AX (iF fs) [] 0 [] (okFs fs h)
 rw [List.append_nil] at h1
 refine⟨w ++ [⟨5,[],l'⟩],?_,?_⟩
 ·rw [N_ hl,h1,Lc];rfl
 ·rw [List.map_append,h2];rfl
end Go.Abs.YtlkfbfhkcaldlaaGreatDoor
namespace Go.Abs.YtlkfbfhkcaldlaaGreatDoor
set_option maxRecDepth 4000
mutual
def nT:Tr->Nat
 | .nil=>0
 | .ex _ _ _ _ l r a _=>1+nT l+nT r+Jw a
def Jw:jA->Nat
 | .nil=>0
 | .cons t r=>1+nT t+Jw r
end
mutual
def nS:Sm->Nat
 | .st _ _ _ l r th el _=>1+nT l+nT r+sG th+sG el
def sG:gY->Nat
 | .nil=>0
 | .cons t r=>nS t+sG r
end
def nF (f:Fm):Nat:=1+f.params.length+sG f.body
def nFs:List Fm->Nat
 | []=>0
 | f :: l=>nF f+nFs l
def Gn {α:Type} (w:α->Nat)(r:Re α)(L:Nat):Prop:=match r with
 | .ok a ts=>w a+2*ts.length<=L
 | _=>True
theorem Gn.bind {α β:Type} {w:α->Nat} {u:β->Nat} {r:Re α} {f:α->List Tok->Re β} {L M:Nat} (h:Gn w r L)(hf:∀a ts,w a+2*ts.length<=L->Gn u (f a ts) M):Gn u (r.bind f) M:=by
 cases r with
 | ok a ts=>exact hf a ts h
 | bad c l=>trivial
 | out=>trivial
theorem Gn.mono {α:Type} {w:α->Nat} {r:Re α} {L M:Nat} (h:Gn w r L)(hl:L<=M):Gn w r M:=by
 cases r with
 | ok a ts=>exact Nat.le_trans h hl
 | bad c l=>trivial
 | out=>trivial
theorem Wq {α:Type} {r:Re α} {L:Nat} (h:Gw w1 r L):Gn (fun _=>2) r (2*L):=by
 cases r with
 | ok a ts=>have h:1+ts.length<=L:=h;show 2+2*ts.length<=_;omega
 | bad c l=>trivial
 | out=>trivial
theorem jW (s:List UInt8)(ts:List Tok):Gn (fun _=>2) (aQ s ts) (2*ts.length):=Wq (jr s ts)
theorem zA (s:List UInt8)(d:Nat)(ts:List Tok):Gn (fun _=>2) (gV s d ts) (2*ts.length):=Wq (vN s d ts)
theorem zG (ts:List Tok):Gn (fun _=>2) (fA ts) (2*ts.length):=Wq (vO ts)
abbrev zM (x:Tr):Nat:=1+nT x
structure NE (n:Nat):Prop where
 e:∀d c ts,Gn zM (dn n d c ts) (2*ts.length)
 l:∀d c x ts,Gn zM (fZ n d c x ts) (1+nT x+2*ts.length)
 u:∀d ts,Gn zM (xP n d ts) (2*ts.length)
 p:∀d ts,Gn zM (gW n d ts) (2*ts.length)
 q:∀d x ts,Gn zM (dP n d x ts) (1+nT x+2*ts.length)
 w:∀d a b ts,Gn (fun x=>4+zM x) (gI n d a b ts) (2*ts.length)
 c:∀d ts,Gn zM (h_ n d ts) (2*ts.length)
 f:∀d ts,Gn zM (dI n d ts) (2*ts.length)
 a:∀d b ts,Gn Jw (fG n d b ts) (2*ts.length)
theorem nE:∀n,NE n
 | 0=>by
   constructor
   all_goals
    intros
    simp only [dn,fZ,xP,gW,dP,gI,h_,dI,fG,Gn]
 | n+1=>by
   have ih:=nE n
   refine⟨fun d c ts=>?_,fun d c x ts=>?_,fun d ts=>?_,fun d ts=>?_,fun d x ts=>?_,fun d a b ts=>?_,fun d ts=>?_,fun d ts=>?_,fun d f ts=>?_⟩
   ·unfold dn
    exact(ih.u d ts).bind fun x bI h1=>(ih.l d c x bI).mono h1
   ·cases ts with
    | nil=>unfold fZ;trivial
    | cons t r=>
      unfold fZ
      split
      ·refine(ih.e d _ r).bind fun y bI h1=>(ih.l d c (.ex 3 0 [] t.s x y .nil t.l) bI).mono ?_
       simp only [zM,nT,Jw,bg] at h1 ⊢;omega
      ·exact Nat.le_refl _
   ·cases ts with
    | nil=>unfold xP;trivial
    | cons t r=>
      unfold xP
      split
      ·split
       ·trivial
       ·refine(ih.u (d+1) r).bind fun x bI h1=>?_
        show 1+nT _+_<=_;simp only [zM,nT,Jw,bg] at h1 ⊢;omega
      ·exact ih.p d _
   ·unfold gW
    exact(ih.f d ts).bind fun x bI h1=>(ih.q d x bI).mono h1
   ·cases ts with
    | nil=>unfold dP;trivial
    | cons t r=>
      unfold dP
      split
      ·refine(ih.w d _ _ _).bind fun y bI h1=>(ih.q d (.ex 5 0 [] [] x y .nil t.l) bI).mono ?_
       simp only [zM,nT,Jw] at h1 ⊢;omega
      ·split
       ·refine(ih.c d r).bind fun y bI h1=>(ih.q d (.ex 6 0 [] [] x y .nil t.l) bI).mono ?_
        simp only [zM,nT,Jw,bg] at h1 ⊢;omega
       ·exact Nat.le_refl _
   ·unfold gI
    refine(zA a d ts).bind fun _ bI h1=>(ih.e (d+1) 1 bI).bind fun x dM h2=>(jW b dM).bind fun _ vK h3=>?_
    show 4+(1+nT x)+_<=_;simp only [zM] at h2;omega
   ·cases ts with
    | nil=>unfold h_;trivial
    | cons t r=>
      unfold h_
      split
      ·refine(?_:Gn zM _ _)
       have:=ih.w d [40] [41] (t :: r)
       cases hr:gI n d [40] [41] (t :: r) with
       | ok a dM=>rw [hr] at this;have h:4+(1+nT a)+2*dM.length<=_:=this;show 1+nT a+_<=_;omega
       | bad c l=>trivial
       | out=>trivial
      ·split
       ·show 1+nT (Am t)+_<=_;simp only [Am,nT,Jw,bg];omega
       ·refine(zG _).bind fun nm bI h1=>?_
        show 1+nT (qG nm t.l)+_<=_;simp only [qG,nT,Jw] at h1 ⊢;omega
   ·cases ts with
    | nil=>unfold dI;trivial
    | cons t r=>
      unfold dI
      split
      ·have:=ih.w d [40] [41] (t :: r)
       cases hr:gI n d [40] [41] (t :: r) with
       | ok a dM=>rw [hr] at this;have h:4+(1+nT a)+2*dM.length<=_:=this;show 1+nT a+_<=_;omega
       | bad c l=>trivial
       | out=>trivial
      ·split
       ·refine(ih.w d _ _ r).bind fun x bI h1=>?_
        simp only [zM] at h1;show 1+nT _+_<=_;simp only [nT,Jw,bg];omega
       ·split
        ·refine(zA _ d r).bind fun _ bI h1=>(jW _ bI).bind fun _ dM h2=>?_
         show 1+nT _+_<=_;simp only [zM,nT,Jw,bg] at h1 h2 ⊢;omega
        ·split
         ·show 1+nT (Am t)+_<=_;simp only [Am,nT,Jw,bg];omega
         ·refine(zG _).bind fun nm bI h1=>?_
          split
          ·refine(zA _ d bI).bind fun _ dM h2=>(ih.a (d+1) true dM).bind fun a vK h3=>(jW _ vK).bind fun _ wW h4=>?_
           show 1+nT _+_<=_;simp only [nT] at h1 ⊢;omega
          ·show 1+nT (qG nm t.l)+_<=_;simp only [qG,nT,Jw] at h1 ⊢;omega
   ·unfold fG
    split
    ·show 0+_<=_;omega
    ·have h1:Gn (fun _=>0) (if f=true then Re.ok () ts else aQ [44] ts) (2*ts.length):=by
      split
      ·show 0+_<=_;omega
      ·have:=jW [44] ts
       cases hr:aQ [44] ts with
       | ok a dM=>rw [hr] at this;have h:2+2*dM.length<=_:=this;show 0+_<=_;omega
       | bad c l=>trivial
       | out=>trivial
     refine h1.bind fun _ bI h1=>(ih.e d 1 bI).bind fun x dM h2=>(ih.a d false dM).bind fun xs vK h3=>?_
     show Jw _+_<=_;simp only [Jw,zM] at h1 h2 h3 ⊢;omega
structure NS (n:Nat):Prop where
 block:∀d ts,Gn sG (dD n d ts) (2*ts.length)
 stmts:∀d ts,Gn sG (eG n d ts) (2*ts.length)
 branch:∀d l ts,Gn nS (dQ n d l ts) (1+2*ts.length)
 ended:∀d ts,Gn zM (bU n d ts) (2*ts.length)
 stmt:∀d ts,Gn nS (fE n d ts) (2*ts.length)
theorem nSl:∀n,NS n
 | 0=>by
   constructor
   all_goals
    intros
    simp only [dD,eG,dQ,bU,fE,Gn]
 | n+1=>by
   have ih:=nSl n
   have ie:=nE n
   refine⟨fun d ts=>?_,fun d ts=>?_,fun d l ts=>?_,fun d ts=>?_,fun d ts=>?_⟩
   ·unfold dD
    refine(zA _ d ts).bind fun _ bI h1=>(ih.stmts (d+1) bI).bind fun l dM h2=>(jW _ dM).bind fun _ vK h3=>?_
    show sG l+_<=_;omega
   ·unfold eG
    split
    ·show 0+_<=_;omega
    ·refine(ih.stmt d ts).bind fun x bI h1=>(ih.stmts d bI).bind fun l dM h2=>?_
     show sG _+_<=_;simp only [sG];omega
   ·unfold dQ
    refine(ie.e d 1 ts).bind fun c bI h1=>(ih.block d bI).bind fun th dM h2=>?_
    simp only [zM] at h1
    have t1:=iZ dM
    have t2:=iZ dM.tail
    split
    ·rename_i hw
     have hw:=CP hw
     split
     ·rename_i hw2
      have hw2:=CP hw2
      refine(ih.branch d _ _).bind fun b su h5=>?_
      show nS _+_<=_;simp only [nS,sG,nT];omega
     ·refine(ih.block d _).bind fun b su h5=>?_
      show nS _+_<=_;simp only [nS,nT];omega
    ·show nS _+_<=_;simp only [nS,sG,nT];omega
   ·unfold bU
    refine(ie.e d 1 ts).bind fun c bI h1=>(jW _ bI).bind fun _ dM h2=>?_
    show 1+nT c+_<=_;simp only [zM] at h1;omega
   ·cases ts with
    | nil=>unfold fE;trivial
    | cons t r=>
      unfold fE
      simp only [bg]
      split
      ·refine(zG r).bind fun nm bI h1=>?_
       have h2:=vP bI
       generalize (if aY dA bI=true then bI.tail else bI)=dM at h2 ⊢
       have t2:=iZ dM
       split
       ·refine(ih.ended d _).bind fun x wW h4=>?_
        show nS _+_<=_;simp only [nS,sG,nT,zM] at h4 ⊢;omega
       ·refine(jW _ dM).bind fun _ wW h4=>?_
        show nS _+_<=_;simp only [nS,sG,nT];omega
      ·split
       ·exact(ih.branch d _ r).mono (by omega)
       ·split
        ·refine(ie.e d 1 r).bind fun c bI h1=>(ih.block d bI).bind fun th dM h2=>?_
         show nS _+_<=_;simp only [nS,sG,nT,zM] at h1 ⊢;omega
        ·split
         ·refine(ih.ended d r).bind fun x bI h1=>?_
          show nS _+_<=_;simp only [nS,sG,nT,zM] at h1 ⊢;omega
         ·split
          ·refine(ih.ended d r).bind fun x bI h1=>?_
           show nS _+_<=_;simp only [nS,sG,nT,zM] at h1 ⊢;omega
          ·split
           ·refine(jW _ r).bind fun x bI h1=>?_
            show nS _+_<=_;simp only [nS,sG,nT];omega
           ·split
            ·split
             ·have:=iZ r;show nS _+_<=_;simp only [nS,sG,nT];omega
             ·refine(ih.ended d r).bind fun x bI h1=>?_
              show nS _+_<=_;simp only [nS,sG,nT,zM] at h1 ⊢;omega
            ·refine(ie.p d _).bind fun x bI h1=>?_
             have t1:=iZ bI
             simp only [bg] at h1
             cases x with
             | nil=>trivial
             | ex k n' nm tx l r' a ln=>
               simp only [zM,nT] at h1 ⊢
               split
               ·rename_i hw
                have hw:=CP hw
                split
                ·refine(ih.ended d _).bind fun y dM h2=>?_
                 show nS _+_<=_;simp only [nS,sG,nT,zM] at h2 ⊢;omega
                ·split
                 ·refine(ih.ended d _).bind fun y dM h2=>?_
                  show nS _+_<=_;simp only [nS,sG,nT,zM] at h2 ⊢;omega
                 ·trivial
               ·split
                ·refine(jW _ bI).bind fun _ dM h2=>?_
                 show nS _+_<=_;simp only [nS,sG,nT];omega
                ·trivial
theorem H8:∀(n:Nat) (f:Bool) (ts:List Tok),Gn List.length (cZ n f ts) (2*ts.length)
 | 0,_,_=>trivial
 | n+1,f,ts=>by
   unfold cZ
   split
   ·show 0+_<=_;omega
   ·have h1:Gn (fun _=>0) (if f=true then Re.ok () ts else aQ [44] ts) (2*ts.length):=by
     split
     ·show 0+_<=_;omega
     ·have:=jW [44] ts
      cases hr:aQ [44] ts with
      | ok a dM=>rw [hr] at this;have h:2+2*dM.length<=_:=this;show 0+_<=_;omega
      | bad c l=>trivial
      | out=>trivial
    refine h1.bind fun _ bI h1=>(zG bI).bind fun nm dM h2=>?_
    have h3:=vP dM
    simp only
    generalize (if aY dA dM=true then dM.tail else dM)=vK at h3 ⊢
    refine(H8 n false vK).bind fun l wW h4=>?_
    show (_ :: l).length+_<=_
    simp only [bg];omega
theorem ZA (n:Nat)(ts:List Tok):Gn nF (kH n ts) (2*ts.length):=by
 unfold kH
 refine(jW _ ts).bind fun _ bI h1=>(zG bI).bind fun nm dM h2=>(zA _ 0 dM).bind fun _ vK h3=>(H8 n true vK).bind fun ps wW h4=>(jW _ wW).bind fun _ su h5=>?_
 have h6:=vP su
 simp only
 generalize (if aY dA su=true then su.tail else su)=Xj at h6 ⊢
 refine((nSl n).block 0 Xj).bind fun b ts7 h7=>?_
 show nF _+_<=_;simp only [nF];omega
theorem MQ:∀(n:Nat) (ts:List Tok),Gn nFs (eH n ts) (2*ts.length)
 | 0,_=>trivial
 | _+1,[]=>trivial
 | n+1,t :: r=>by
   unfold eH
   split
   ·show 0+_<=_;omega
   ·refine(ZA n _).bind fun f bI h1=>(MQ n bI).bind fun l dM h2=>?_
    show nFs _+_<=_;simp only [nFs];omega
theorem vY {s:List UInt8} (h:Good 1 s):s.length<=32:=by
 obtain⟨u,hu,hst,hs⟩:=h
 cases u with
 | nil=>exact(hu rfl).elim
 | cons c r=>
   unfold step at hst
   split at hst
   ·cases hst
   ·simp only at hst
    split at hst
    ·cases hst
    ·split at hst
     ·split at hst
      ·cases hst
      ·split at hst
       ·injection hst with h1 h2;omega
       ·injection hst with h1 h2;omega
     ·split at hst
      ·split at hst
       ·cases hst
       ·split at hst <;> cases hst
      ·split at hst
       ·split at hst <;> (injection hst with h1 h2;omega)
       ·cases hst
theorem Ws:∀(k n:Nat),n<10^(k+1)->(Lib.decDigits n).length<=k+1
 | 0,n,h=>by rw [Lib.decDigits,dif_pos (by omega)];exact Nat.le_refl _
 | k+1,n,h=>by
   rw [Lib.decDigits]
   by_cases hn:n<10
   ·rw [dif_pos hn];simp
   ·rw [dif_neg hn,bM]
    have:=Ws k (n / 10) (by rw [Nat.div_lt_iff_lt_mul (by decide),<-Nat.pow_succ];exact h)
    simp only [bg,bZ];omega
theorem op_2 {s:List UInt8} (h:aF s≠0):s.length<=2:=by
 unfold aF at h
 repeat' split at h
 all_goals first | (exact(h rfl).elim) | (rename_i hh;first | (subst hh;decide) | (rcases hh with rfl | rfl <;> decide) | (rcases hh with rfl | rfl | rfl | rfl <;> decide) | (rcases hh with rfl | rfl | rfl | rfl | rfl | rfl <;> decide))
theorem Qx (b:Bool)(ps:List Pc):(bn (sK b ps)).length<=(bn ps).length+2:=by
 cases b with
 | false=>show (bn ps).length<=_;omega
 | true=>show (bn ([.w 3 [40]] ++ ps ++ [.w 3 [41]])).length<=_;simp [aS,bn]
mutual
theorem qw:∀{t:Tr},WT t->∀c,(bn (fH t c)).length<=50*nT t
 | .ex k n nm tx l r ar ln,h,c=>by
   cases h with
   | num _ _ h=>have:=Ws 9 n (by omega);simp [fH,bn,nT];omega
   | name _ _ h=>have:=vY h;simp [fH,bn,nT];omega
   | un _ _ _ h1 h2=>
     have e:fH (.ex 3 0 [] tx .nil r .nil ln) c=sK (decide (7<c)) ([.w 3 tx] ++ fH r 7):=by simp [fH,isNil]
     have h3:=Qx (decide (7<c)) ([.w 3 tx] ++ fH r 7)
     have h4:=qw h2 7
     have h5:tx.length=1:=by rcases h1 with rfl | rfl <;> rfl
     rw [e]
     rw [aS,bM] at h3
     simp only [bn,List.append_nil] at h3
     simp only [nT];omega
   | bin _ _ _ _ h1 h2 h3=>
     have e:fH (.ex 3 0 [] tx l r .nil ln) c=sK (decide (aF tx<c)) (fH l (aF tx) ++ ([.b 32,.w 3 tx,.b 32] ++ fH r (aF tx+1))):=by simp [fH,h2.nn]
     have h4:=Qx (decide (aF tx<c)) (fH l (aF tx) ++ ([.b 32,.w 3 tx,.b 32] ++ fH r (aF tx+1)))
     have h5:=qw h2 (aF tx)
     have h6:=qw h3 (aF tx+1)
     have h7:=op_2 h1
     rw [e]
     rw [aS,aS,bM,bM] at h4
     simp only [bn,bg,bM,bZ] at h4
     simp only [nT];omega
   | call _ _ _ h1 h2=>
     have h3:=lenA h2 true
     have h4:=vY h1
     simp [fH,aS,bn,nT];omega
   | cell _ _ _ h1 h2=>
     have h3:=qw h1 8
     have h4:=qw h2 1
     simp [fH,aS,bn,nT];omega
   | link _ _ _ h1 h2=>
     have h3:=qw h1 8
     have h4:=qw h2 1
     have h5:=qw h2 8
     by_cases h:qM r=true <;> simp [fH,aS,bn,nT,h] <;> omega
   | new _ _ h=>
     have h3:=qw h 1
     simp [fH,aS,bn,nT,qF];omega
   | inn _=>simp [fH,bn,nT,Jw,FM]
theorem lenA:∀{a:jA},OI a->∀b,(bn (lV a b)).length<=50*Jw a
 | .nil,_,b=>by simp [lV,bn]
 | .cons t r,h,b=>by
   cases h with
   | cons _ _ h1 h2=>
     have h3:=qw h1 1
     have h4:=lenA h2 false
     cases b <;> simp [lV,aS,bn,Jw] <;> omega
end
theorem Fa (d:Nat):(bn (lu d)).length=d:=by
 induction d with
 | zero=>rfl
 | succ d ih=>show (bn (.b 9 :: lu d)).length=_;simp only [bn,bg];rw [ih]
theorem C9:(bn qp).length=3:=rfl
theorem Jy:(bn Qr).length=3:=rfl
theorem C_ (d:Nat):(bn (oQ d)).length=d+1:=by unfold oQ;rw [aS,bM,Fa];rfl
mutual
theorem lenS:∀{s:Sm},WS s->∀d,d+dS s<=70->(bn (gu s d)).length+d+1<=500*nS s
 | .st k nm p l r th el ln,h,d,hd=>by
   cases h with
   | var _ _ _ _ h1 h2=>
     have h3:=vY h1
     simp only [dS] at hd
     rcases h2 with rfl | h2
     ·cases p <;> simp [gu,aS,bn,isNil,nS,nT,sG,Jy,Et,dA] <;> omega
     ·have h4:=qw h2 1
      cases p <;> simp [gu,aS,bn,h2.nn,nS,nT,sG,Jy,Et,dA] <;> omega
   | set _ _ _ h1 h2=>
     have h3:=vY h1
     have h4:=qw h2 1
     simp only [dS] at hd
     simp [gu,aS,bn,nS,nT,sG,Jy];omega
   | cell _ _ _ h1 h2 h3=>
     have h4:=qw h1 8
     have h5:=qw h3 1
     simp only [dS] at hd
     simp [gu,aS,bn,nS,nT,sG,Jy];omega
   | iff _ _ _ _ h1 h2 h3=>
     simp only [dS,if_true] at hd
     have h4:=qw h1 1
     have h5:=MS h2 (d+1) (by omega)
     have h6:=lenEl h3 d (by omega)
     simp [gu,aS,bn,nS,nT,C9,C_,I7];omega
   | whl _ _ _ h1 h2=>
     simp only [dS,show ¬(5:Nat)=4 by decide,if_false,if_true] at hd
     have h4:=qw h1 1
     have h5:=MS h2 (d+1) (by omega)
     simp [gu,aS,bn,nS,sG,nT,C9,C_,ql];omega
   | out _ _ h1=>
     have h4:=qw h1 1
     simp only [dS] at hd
     simp [gu,aS,bn,nS,sG,nT,Eu];omega
   | free _ _ h1=>
     have h4:=qw h1 1
     simp only [dS] at hd
     simp [gu,aS,bn,nS,sG,nT,uy];omega
   | drain _=>
     simp only [dS] at hd
     simp [gu,bn,nS,sG,nT,oH];omega
   | ret _ _ h1=>
     simp only [dS] at hd
     rcases h1 with rfl | h1
     ·simp [gu,bn,nS,sG,nT,fD,isNil];omega
     ·have h4:=qw h1 1
      simp [gu,aS,bn,nS,sG,nT,fD,h1.nn];omega
   | call _ _ h1 h2=>
     have h4:=qw h1 1
     simp only [dS] at hd
     simp [gu,aS,bn,nS,sG,nT];omega
theorem MS:∀{s:gY},Hr s->∀d,d+Cb s<=70->(bn (jo s d)).length<=500*sG s
 | .nil,_,d,_=>by simp [jo,bn]
 | .cons s r,h,d,hd=>by
   cases h with
   | cons _ _ h1 h2=>
     simp only [Cb] at hd
     have h3:=lenS h1 d (by omega)
     have h4:=MS h2 d (by omega)
     simp [jo,aS,bn,sG,Fa];omega
theorem lenEl:∀{s:gY},Hr s->∀d,d+Qp s<=70->(bn (kL s d)).length<=500*sG s+170
 | .nil,_,d,_=>by simp [kL,bn]
 | .cons s r,h,d,hd=>by
   cases h with
   | cons _ _ h1 h2=>
     by_cases hk:rW r=true/\kS s=4
     ·simp only [Qp,if_pos hk] at hd
      have h3:=lenS h1 d (by omega)
      simp [kL,hk.1,hk.2,aS,bn,sG,jJ];omega
     ·simp only [Qp,if_neg hk] at hd
      have h3:=lenS h1 (d+1) (by omega)
      have h4:=MS h2 (d+1) (by omega)
      simp [kL,hk,aS,bn,sG,jJ,C9,C_,Fa];omega
end
theorem lenP:∀(ps:List (List UInt8×Bool)),(∀p∈ps,Good 1 p.1)->∀b,(bn (rX ps b)).length<=50*ps.length
 | [],_,_=>Nat.zero_le _
 | (nm,p) :: r,h,b=>by
   have h1:=vY (h (nm,p) (List.mem_cons_self ..))
   have ih:=lenP r (fun q hq=>h q (List.mem_cons_of_mem _ hq)) false
   simp only at h1
   cases b <;> cases p <;> simp [rX,aS,bn,dA] <;> omega
theorem lenF {f:Fm} (h:Qq f):(bn (Nq f)).length<=500*nF f:=by
 have h1:=vY h.name
 have h2:=lenP _ h.ps true
 have h3:=MS h.body 1 (by have:=h.deep;omega)
 by_cases hp:f.ptr=true <;> simp [Nq,aS,bn,nF,hp,pV,dA,C9,C_] <;> omega
theorem lenFs:∀(fs:List Fm),(∀f∈fs,Qq f)->(bn (iF fs)).length<=500*nFs fs
 | [],_=>Nat.zero_le _
 | f :: r,h=>by
   have h1:=lenF (h f (List.mem_cons_self ..))
   have h2:=lenFs r fun x hx=>h x (List.mem_cons_of_mem _ hx)
   simp only [iF,aS,nFs,bM];omega
end Go.Abs.YtlkfbfhkcaldlaaGreatDoor
namespace Go.Abs.YtlkfbfhkcaldlaaGreatDoor
set_option maxRecDepth 4000
theorem Fb:∀(k:Nat) (s:List UInt8) (l:Nat) (acc:List Tok) {a:List Tok} {n:Nat},mP k s l acc= .done a n->a.length<=acc.length+k
 | 0,[],l,acc,a,n,h=>by cases h;simp
 | 0,_ :: _,l,acc,a,n,h=>by cases h;simp
 | k+1,[],l,acc,a,n,h=>by cases h;omega
 | k+1,c :: r,l,acc,a,n,h=>by
   simp only [mP] at h
   split at h
   ·have:=Fb k _ _ _ h;omega
   ·have:=Fb k _ _ _ h;rw [bM] at this;simp only [bg,bZ] at this;omega
   ·cases h
theorem MV {t:List UInt8} {l:List Tok} (h:uj t= .toks l):l.length<=40000:=by
 unfold uj at h
 split at h
 ·cases h
 ·rename_i hl
  cases hr:mP t.length t 0 [] with
  | done a b=>
    rw [hr] at h
    have:=Fb _ _ _ _ hr
    cases h
    rw [bM]
    simp only [bg,bZ] at this ⊢
    omega
  | bad a b=>rw [hr] at h;cases h
theorem MW {t:List UInt8} {fs:List Fm} {ts:List Tok} (h:jR t= .ok fs ts):Nl fs<=100000:=by
 unfold jR at h
 split at h
 ·cases h
 ·rename_i l hl
  have h1:=MV hl
  have h2:=LC (10*l.length+11) l
  rw [h] at h2
  have h2:Nl fs+ts.length<=l.length:=h2
  omega
theorem Qy {t:List UInt8} {w:List Tok} (h:uj t= .toks w):TG w:=by
 have hno:=(Qk h).2.1
 have hl:t.length<=32768:=by
  unfold uj at h
  split at h
  ·cases h
  ·omega
 have h':=h
 rw [N_ hl] at h'
 cases hr:wG t 0 [] with
 | bad e l'=>rw [hr] at h';cases h'
 | done a n=>
   rw [hr] at h'
   simp only [Ro.fin,Res.toks.injEq] at h'
   have hg:=Ai _ _ _ _ _ _ (fun _ h=>by cases h) hr
   intro z hz
   have hz':=hz
   rw [<-h'] at hz
   rcases List.mem_append.1 hz with hz | hz
   ·exact .inr ⟨hg z hz,fun hk=>(hno z hz' hk).2.1⟩
   ·obtain rfl:=List.mem_singleton.1 hz
    exact .inl rfl
structure Prog (fs:List Fm):Prop where
 wf:∀f∈fs,Qq f
 w:Nl fs<=100000
 len:(bn (iF fs)).length<=100000000
theorem ZB {t:List UInt8} {fs:List Fm} {ts:List Tok} (h:jR t= .ok fs ts):Prog fs:=by
 refine⟨?_,MW h,?_⟩
 ·unfold jR at h
  split at h
  ·cases h
  ·rename_i l hl
   have:=EY (10*l.length+11) l (Qy hl)
   rw [h] at this
   exact this.1
 ·have hwf:∀f∈fs,Qq f:=by
   unfold jR at h
   split at h
   ·cases h
   ·rename_i l hl
    have:=EY (10*l.length+11) l (Qy hl)
    rw [h] at this
    exact this.1
  have h1:=lenFs fs hwf
  unfold jR at h
  split at h
  ·cases h
  ·rename_i l hl
   have h2:=MV hl
   have h3:=MQ (10*l.length+11) l
   rw [h] at h3
   have h3:nFs fs+2*ts.length<=2*l.length:=h3
   omega
theorem OT {fs:List Fm} (h:∀f∈fs,Qq f)(hl:(bn (iF fs)).length<=32768):∃gs ts,jR (bn (iF fs))= .ok gs ts/\gs.map eF=fs.map eF/\jQ fs gs=true:=by
 obtain⟨w,h1,h2⟩:=Sl h hl
 have hlen:w.length=(Js fs ++ [iG]).length:=by rw [<-h2,List.length_map]
 have h3:=ML fs h (10*w.length+11) (by omega)
 rw [<-h2,lzFs] at h3
 have h4:jR (bn (iF fs))=eH (10*w.length+11) w:=by unfold jR;rw [h1]
 cases hr:eH (10*w.length+11) w with
 | ok gs ts=>
   rw [hr] at h3
   simp only [Re.er,Re.ok.injEq] at h3
   exact⟨gs,ts,h4.trans hr,h3.1,by rw [Me,h3.1];exact BM _⟩
 | bad c l=>rw [hr] at h3;cases h3
 | out=>rw [hr] at h3;cases h3
end Go.Abs.YtlkfbfhkcaldlaaGreatDoor
