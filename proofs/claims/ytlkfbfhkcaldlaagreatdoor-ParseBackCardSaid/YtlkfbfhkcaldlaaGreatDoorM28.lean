/- Texts of this claim, joined: Vf, Vh, Vg. -/
import Derived.Test.YtlkfbfhkcaldlaaGreatDoorM27
import Derived.Test.YtlkfbfhkcaldlaaGreatDoorM25
import Derived.Test.YtlkfbfhkcaldlaaGreatDoorM23
set_option linter.unusedVariables false
set_option linter.unusedSimpArgs false
namespace Go.Abs.YtlkfbfhkcaldlaaGreatDoor
set_option maxRecDepth 4000
theorem isW_no {b:UInt8} (h:isWord b.toNat=false):isLetter b.toNat=false∧isDigit b.toNat=false:=by
 unfold isWord at h
 rwa [Bool.or_eq_false_iff] at h
theorem word_step {k:Nat} {s:List UInt8} (h:Good k s)(hk:k≠3) {b:UInt8} (hb:isWord b.toNat=false)(x:List UInt8):step (s ++ b :: x)= .tok k s.length:=by
 obtain⟨w3,w2⟩:=isW_no hb
 obtain⟨u,hu,hst,hs⟩:=h
 cases u with
 | nil=>exact(hu rfl).elim
 | cons c r=>
   have hf:=step_fits c r
   rw [hst] at hf
   simp only [Stp.fits] at hf
   obtain⟨s',hs'⟩:∃s',s=c :: s':=by
    cases s with
    | nil=>simp at hf
    | cons d s'=>simp at hs;exact⟨s',by rw [hs.1]⟩
   unfold step at hst
   split at hst
   ·cases hst
   ·rename_i hp
    simp only at hst
    split at hst
    ·cases hst
    ·rename_i hbl
     have h47:isLetter c.toNat=true∨isDigit c.toNat=true→[47,47].isPrefixOf (s ++ b :: x)=false:=by
      intro hc
      subst hs'
      cases hq: [47,47].isPrefixOf (c :: s' ++ b :: x) with
      | false=>rfl
      | true=>
        exfalso
        simp only [List.cons_append,List.isPrefixOf,Bool.and_eq_true,beq_iff_eq] at hq
        rw [←hq.1] at hc
        revert hc;decide
     split at hst
     ·rename_i hle
      have hp2:=h47 (.inl hle)
      split at hst
      ·cases hst
      ·rename_i h32
       have hm:s.length=run isWord (c :: r):=by
            split at hst <;> (injection hst with _ h2;exact h2.symm)
       rw [hm] at hs
       have e1:run isWord (s ++ b :: x)=run isWord (c :: r):=by rw [hs];exact run_take isWord (c :: r) b x hb
       have e2:(s ++ b :: x).take (run isWord (c :: r))=s:=by rw [←hm];exact List.take_left
       have e3:(c :: r).take (run isWord (c :: r))=s:=hs.symm
       unfold step
       rw [hp2,e1,e2]
       rw [e3] at hst
       subst hs'
       simp only [Bool.false_eq_true,if_false,List.cons_append,hbl,hle,if_true,h32]
       exact hst
     ·rename_i hle
      split at hst
      ·rename_i hdg
       have hp2:=h47 (.inr hdg)
       split at hst
       ·cases hst
       ·rename_i hno
        split at hst
        ·cases hst
        ·rename_i hbig
         injection hst with hk hm
         rw [←hm] at hs
         have e1:run isDigit (s ++ b :: x)=run isDigit (c :: r):=by rw [hs];exact run_take isDigit (c :: r) b x w2
         have e2:(s ++ b :: x).take (run isDigit (c :: r))=s:=by rw [hm];exact List.take_left
         have e3:(c :: r).take (run isDigit (c :: r))=s:=hs.symm
         have e4:run isLetter ((s ++ b :: x).drop (run isDigit (c :: r)))=0:=by rw [hm,List.drop_left];simp [run,w3]
         unfold step
         rw [hp2,e1,e2,e4]
         rw [e3] at hbig
         have hno2:¬(c.toNat=48∧1<run isDigit (c :: r)):=fun h=>hno (.inl h)
         subst hs'
         simp only [Bool.false_eq_true,if_false,List.cons_append,hbl,hle,hdg,if_true,hno2,Nat.lt_irrefl,or_self,hbig]
         rw [hk,hm]
      ·split at hst
       ·split at hst <;> (injection hst with h1 _;exact(hk h1.symm).elim)
       ·cases hst
def plainS:List UInt8:=[40,41,91,93,58,44,59,123,125,33,45,61]
theorem sign_step {c:UInt8} (hc:c∈plainS) {b:UInt8} (hb:b≠61)(x:List UInt8):step (c :: b :: x)= .tok 3 1:=by
 have h1:c≠47∧isBlank c.toNat=false∧isLetter c.toNat=false∧isDigit c.toNat=false∧isOne c.toNat=true∧∀w∈twos,w.head? =some c→w=[c,61]:=by
  revert c;decide +kernel
 obtain⟨h1,h2,h3,h4,h5,h6⟩:=h1
 have h7:twos.contains ((c :: b :: x).take 2)=false:=by
  show twos.contains [c,b]=false
  cases hq:twos.contains [c,b] with
  | false=>rfl
  | true=>
    have:=h6 _ (List.contains_iff_mem.1 hq) rfl
    simp only [List.cons.injEq,true_and,and_true] at this
    exact(hb this).elim
 unfold step
 rw [if_neg (by simp [List.isPrefixOf,Ne.symm h1])]
 simp only [h2,h3,h4,h5,h7,Bool.false_eq_true,if_false,if_true]
theorem dec_digit (n:Nat):∀c∈Lib.decDigits n,isDigit c.toNat=true:=by
 induction n using Nat.strongRecOn with
 | _ n ih=>
   have one:∀k,k<10→isDigit (UInt8.ofNat (48+k)).toNat=true:=by
     intro k hk
     rw [dig_nat hk]
     simp only [isDigit,Bool.and_eq_true,decide_eq_true_eq];omega
   rw [Lib.decDigits]
   by_cases h:n<10
   ·rw [dif_pos h]
    intro c hc
    obtain rfl:=List.mem_singleton.1 hc
    exact one n h
   ·rw [dif_neg h]
    intro c hc
    rcases List.mem_append.1 hc with hc | hc
    ·exact ih (n / 10) (by omega) c hc
    ·obtain rfl:=List.mem_singleton.1 hc
     exact one _ (by omega)
theorem dec_head (n:Nat):∃c r,Lib.decDigits n=c :: r∧(c.toNat=48→r=[]):=by
 induction n using Nat.strongRecOn with
 | _ n ih=>
   rw [Lib.decDigits]
   by_cases h:n<10
   ·rw [dif_pos h];exact⟨_,_,rfl,fun _=>rfl⟩
   ·rw [dif_neg h]
    obtain⟨c,r,h1,h2⟩:=ih (n / 10) (by omega)
    refine⟨c,r ++ [_],by rw [h1];rfl,fun h48=>?_⟩
    exfalso
    have hr:=h2 h48
    subst hr
    have:numP 0 (Lib.decDigits (n / 10))=n / 10:=numP_dec _
    rw [h1,numP_one,h48] at this
    omega
theorem run_whole (p:Int→Bool):∀(l:List UInt8),(∀c∈l,p c.toNat=true)→run p l=l.length
 | [],_=>rfl
 | c :: l,h=>by
   rw [run,if_pos (h c (List.mem_cons_self ..)),run_whole p l fun x hx=>h x (List.mem_cons_of_mem _ hx)];rfl
theorem numP_ge:∀(l:List UInt8) (v:Nat),v≤numP v l
 | [],v=>Nat.le_refl _
 | c :: l,v=>by
   have:=numP_ge l (10*v+(c.toNat - 48))
   show v≤numP (10*v+(c.toNat - 48)) l
   omega
theorem parseM_ok:∀(l:List UInt8) (v:Nat),(∀c∈l,isDigit c.toNat=true)→numP v l<4294967296→∃u,Lib.parseUintM 4294967295 v l= .ok u
 | [],v,_,_=>⟨v,rfl⟩
 | c :: r,v,hd,hv=>by
   have h1:=hd c (List.mem_cons_self ..)
   simp only [isDigit,Bool.and_eq_true,decide_eq_true_eq] at h1
   have h2:=numP_ge r (10*v+(c.toNat - 48))
   have h3:numP v (c :: r)=numP (10*v+(c.toNat - 48)) r:=rfl
   unfold Lib.parseUintM
   rw [if_pos (by omega),if_neg (by omega),if_neg (by omega),show v*10+(c.toNat - 48)=10*v+(c.toNat - 48) by omega]
   exact parseM_ok r _ (fun c hc=>hd c (List.mem_cons_of_mem _ hc)) (by omega)
theorem good_num {n:Nat} (h:n<4294967296):Good 2 (Lib.decDigits n):=by
 obtain⟨c,r,he,h0⟩:=dec_head n
 have hd:=dec_digit n
 have hr:run isDigit (Lib.decDigits n)=(Lib.decDigits n).length:=run_whole _ _ hd
 have hb:tooBig (Lib.decDigits n)=false:=by
  unfold tooBig Lib.parseUintB
  rw [if_neg (by rw [he];simp)]
  obtain⟨u,hu⟩:=parseM_ok (Lib.decDigits n) 0 hd (by rw [numP_dec];exact h)
  rw [show 2^32 - 1=4294967295 from rfl,hu]
 refine⟨Lib.decDigits n,by rw [he];simp,?_,by rw [List.take_length]⟩
 have hc:=hd c (by rw [he];exact List.mem_cons_self ..)
 have hne:c≠47∧isBlank c.toNat=false∧isLetter c.toNat=false:=by
  simp only [isDigit,Bool.and_eq_true,decide_eq_true_eq] at hc
  refine⟨by rintro rfl;revert hc;decide,?_,?_⟩
  ·simp only [isBlank,Bool.or_eq_false_iff,beq_eq_false_iff_ne];omega
  ·simp only [isLetter,Bool.or_eq_false_iff,Bool.and_eq_false_iff,decide_eq_false_iff_not,beq_eq_false_iff_ne];omega
 rw [he] at hr hb ⊢
 have hl:¬((c.toNat=48∧1<(c :: r).length)∨0<run isLetter ((c :: r).drop (c :: r).length)):=by
  rw [List.drop_length]
  rintro (⟨h1,h2⟩ | h)
  ·rw [h0 h1] at h2;simp at h2
  ·cases h
 unfold step
 rw [if_neg (by simp [List.isPrefixOf,Ne.symm hne.1])]
 simp only [hne.2.1,hne.2.2,hc,Bool.false_eq_true,if_false,if_true]
 rw [hr,List.take_length,hb,if_neg hl]
 rfl
def Stp1 (k:Nat)(s:List UInt8)(b:UInt8):Prop:=s≠[]∧∀x,step (s ++ b :: x)= .tok k s.length
def OkP:List Pc→List UInt8→Prop
 | [],_=>True
 | .b c :: r,x=>(c=32∨c=9∨c=10)∧OkP r x
 | .w k s :: r,x=>(∃b y,txP r ++ x=b :: y∧Stp1 k s b)∧OkP r x
theorem OkP_app:∀(a b:List Pc) (x:List UInt8),OkP a (txP b ++ x)→OkP b x→OkP (a ++ b) x
 | [],b,x,_,h=>h
 | .b c :: r,b,x,h,k=>⟨h.1,OkP_app r b x h.2 k⟩
 | .w kd s :: r,b,x,h,k=>by
   refine⟨?_,OkP_app r b x h.2 k⟩
   obtain⟨c,y,h1,h2⟩:=h.1
   exact⟨c,y,by show txP (r ++ b) ++ x=c :: y;rw [txP_app,List.append_assoc];exact h1,h2⟩
theorem lexR_P:∀(ps:List Pc) (x:List UInt8) (l:Nat) (acc:List Tok),OkP ps x→∃l' w,lexR (txP ps ++ x) l acc=lexR x l' (acc ++ w)∧w.map lz=tkP ps
 | [],x,l,acc,_=>⟨l,[],by simp [txP],rfl⟩
 | .b c :: r,x,l,acc,h=>by
   rcases h.1 with rfl | rfl | rfl
   ·obtain⟨l',w,h1,h2⟩:=lexR_P r x l acc h.2
    exact⟨l',w,(lexR_bl 32 (.inl rfl) _ _ _).trans h1,h2⟩
   ·obtain⟨l',w,h1,h2⟩:=lexR_P r x l acc h.2
    exact⟨l',w,(lexR_bl 9 (.inr (.inl rfl)) _ _ _).trans h1,h2⟩
   ·obtain⟨l',w,h1,h2⟩:=lexR_P r x (l+1) acc h.2
    exact⟨l',w,(lexR_lf _ _ _).trans h1,h2⟩
 | .w k s :: r,x,l,acc,h=>by
   obtain⟨b,y,h1,hne,h2⟩:=h.1
   obtain⟨l',w,h3,h4⟩:=lexR_P r x l (acc ++ [⟨k,s,l⟩]) h.2
   refine⟨l',⟨k,s,l⟩ :: w,?_,?_⟩
   ·have hst:=h2 y
    rw [←h1] at hst
    show lexR (s ++ txP r ++ x) l acc=_
    rw [List.append_assoc,lexR_tok hst (by simp [hne]),List.drop_left,List.take_left,h3]
    simp
   ·rw [List.map_cons,h4];rfl
def Fol (x:List UInt8):Prop:=∃b y,x=b :: y∧isWord b.toNat=false∧b≠61
theorem okw {k:Nat} {s:List UInt8} (h:Good k s)(hk:k≠3) {r:List Pc} {x:List UInt8} (hx:Fol (txP r ++ x))(hr:OkP r x):OkP (.w k s :: r) x:=by
 obtain⟨b,y,h1,h2,_⟩:=hx
 refine⟨⟨b,y,h1,?_,fun x=>word_step h hk h2 x⟩,hr⟩
 rintro rfl
 obtain⟨u,hu,hst,_⟩:=h
 cases u with
 | nil=>exact hu rfl
 | cons c r=>have:=step_fits c r;rw [hst] at this;exact Nat.lt_irrefl _ this.1
theorem oks {c:UInt8} (hc:c∈plainS) {r:List Pc} {x:List UInt8} (hx:∃b y,txP r ++ x=b :: y∧b≠61)(hr:OkP r x):OkP (.w 3 [c] :: r) x:=by
 obtain⟨b,y,h1,h2⟩:=hx
 exact⟨⟨b,y,h1,by simp,fun x=>sign_step hc h2 x⟩,hr⟩
theorem good_key {s:List UInt8} (h:s∈keys):Good 4 s:=by
 refine⟨s,?_,?_,by rw [List.take_length]⟩ <;> revert s <;> decide +kernel
theorem good_op {s:List UInt8} (h:bindsP s≠0):Good 3 s:=by
 have h1:s∈[[124,124],[38,38],[61,61],[33,61],[60],[60,61],[62],[62,61],[43],[45],[124],[94],[42],[47],[37],[38],[60,60],[62,62]]:=by
  unfold bindsP at h
  repeat' split at h
  all_goals first | (exact(h rfl).elim) | (rename_i hh;first | (subst hh;decide) | (rcases hh with rfl | rfl <;> decide) | (rcases hh with rfl | rfl | rfl | rfl <;> decide) | (rcases hh with rfl | rfl | rfl | rfl | rfl | rfl <;> decide))
 clear h
 refine⟨s,?_,?_,by rw [List.take_length]⟩ <;> revert s <;> decide +kernel
theorem okop {s:List UInt8} (h:bindsP s≠0) {r:List Pc} {x:List UInt8} (hr:OkP r x):OkP (.b 32 :: .w 3 s :: .b 32 :: r) x:=by
 refine⟨.inl rfl,⟨32,txP r ++ x,rfl,?_,fun x=>good_step (good_op h) (by decide) x⟩,.inl rfl,hr⟩
 rintro rfl
 exact h (by decide)
def Fst (s:List UInt8):Prop:=∃b y,s=b :: y∧b≠61
theorem Fst.app {s x:List UInt8} (h:Fst s):Fst (s ++ x):=by
 obtain⟨b,y,rfl,h⟩:=h;exact⟨b,_,rfl,h⟩
theorem good_fst {k:Nat} {s:List UInt8} (h:Good k s)(hk:k=1∨k=2):Fst s:=by
 obtain⟨u,hu,hst,hs⟩:=h
 cases u with
 | nil=>exact(hu rfl).elim
 | cons c r=>
   cases s with
   | nil=>have:=step_fits c r;rw [hst] at this;exact(Nat.lt_irrefl _ this.1).elim
   | cons d s=>
     simp only [List.length_cons,List.take_succ_cons,List.cons.injEq] at hs
     refine⟨d,s,rfl,?_⟩
     rintro rfl
     rw [←hs.1] at hst
     unfold step at hst
     split at hst
     ·cases hst
     ·simp only at hst
      rw [if_neg (by decide),if_neg (by decide),if_neg (by decide),if_pos (by decide +kernel)] at hst
      split at hst <;> (injection hst with h1 _;omega)
theorem fstE:∀{t:Tr},WT t→∀c,Fst (txP (pcE t c))
 | .ex k n nm tx l r ar ln,h,c=>by
   cases h with
   | num _ _ h=>simp [pcE,txP];exact good_fst (good_num h) (.inr rfl)
   | name _ _ h=>simp [pcE,txP];exact good_fst h (.inl rfl)
   | un _ _ _ h1 h2=>
     simp only [pcE]
     by_cases hc:7<c
     ·simp [isNil,hc,parC,txP];exact⟨_,_,rfl,by decide⟩
     ·simp [isNil,hc,parC,txP]
      rcases h1 with rfl | rfl <;> exact⟨_,_,rfl,by decide⟩
   | bin _ _ _ _ h1 h2 h3=>
     simp only [pcE]
     by_cases hc:bindsP tx<c
     ·simp [h2.nn,hc,parC,txP];exact⟨_,_,rfl,by decide⟩
     ·simp [h2.nn,hc,parC,txP_app];exact(fstE h2 _).app
   | call _ _ _ h1 h2=>simp [pcE,txP];exact(good_fst h1 (.inl rfl)).app
   | cell _ _ _ h1 h2=>simp [pcE,txP_app];exact(fstE h1 8).app
   | link _ _ _ h1 h2=>simp [pcE,txP_app];exact(fstE h1 8).app
   | new _ _ h=>simp [pcE,txP];exact⟨_,_,rfl,by decide⟩
   | inn _=>simp [pcE,txP];exact⟨_,_,rfl,by decide⟩
theorem fol {b:UInt8} (h:isWord b.toNat=false∧b≠61)(x:List UInt8):Fol (b :: x):=⟨b,x,rfl,h.1,h.2⟩
theorem Fol.ne {x:List UInt8} (h:Fol x):∃b y,x=b :: y∧b≠61:=by obtain⟨b,y,h1,_,h2⟩:=h;exact⟨b,y,h1,h2⟩
theorem oks1 {c:UInt8} (hc:c∈plainS) {x:List UInt8} (h:Fol x):OkP [.w 3 [c]] x:=oks hc h.ne trivial
theorem okpar {ps:List Pc} {x:List UInt8} (b:Bool)(h:∀y,Fol y→OkP ps y)(hf:Fst (txP ps))(hx:Fol x):OkP (parC b ps) x:=by
 cases b with
 | false=>exact h x hx
 | true=>
   show OkP (.w 3 [40] :: (ps ++ [.w 3 [41]])) x
   refine oks (by decide) ?_ (OkP_app ps _ x (h _ (fol (b:=41) (by decide) x)) (oks1 (by decide) hx))
   rw [txP_app,List.append_assoc]
   exact hf.app
theorem okcl {ps:List Pc} {x:List UInt8} {c:UInt8} (hc:c∈plainS)(hw:isWord c.toNat=false∧c≠61)(h:∀y,Fol y→OkP ps y)(hx:Fol x):OkP (ps ++ [.w 3 [c]]) x:=
 OkP_app ps _ x (h _ (fol hw x)) (oks1 hc hx)
theorem wNew_k:Good 4 wNew:=good_key (by decide)
theorem wIn_k:Good 4 wIn:=good_key (by decide)
mutual
theorem okE:∀{t:Tr},WT t→∀c x,Fol x→OkP (pcE t c) x
 | .ex k n nm tx l r ar ln,h,c,x,hx=>by
   cases h with
   | num _ _ h=>simp only [pcE,if_true];exact okw (good_num h) (by decide) hx trivial
   | name _ _ h=>simp only [pcE,if_true,show ¬(2:Nat)=1 by decide,if_false];exact okw h (by decide) hx trivial
   | un _ _ _ h1 h2=>
     have e:pcE (.ex 3 0 [] tx .nil r .nil ln) c=parC (decide (7<c)) ([.w 3 tx] ++ pcE r 7):=by simp [pcE,isNil]
     rw [e]
     refine okpar _ (fun y hy=>?_) ?_ hx
     ·rcases h1 with rfl | rfl
      ·exact oks (by decide) (fstE h2 7).app (okE h2 7 y hy)
      ·exact oks (by decide) (fstE h2 7).app (okE h2 7 y hy)
     ·rcases h1 with rfl | rfl <;> exact⟨_,_,rfl,by decide⟩
   | bin _ _ _ _ h1 h2 h3=>
     have e:pcE (.ex 3 0 [] tx l r .nil ln) c=parC (decide (bindsP tx<c)) (pcE l (bindsP tx) ++ ([.b 32,.w 3 tx,.b 32] ++ pcE r (bindsP tx+1))):=by simp [pcE,h2.nn]
     rw [e]
     refine okpar _ (fun y hy=>?_) ?_ hx
     ·exact OkP_app _ _ y (okE h2 _ _ (fol (b:=32) (by decide) _)) (okop h1 (okE h3 _ y hy))
     ·rw [txP_app];exact(fstE h2 _).app
   | call _ _ _ h1 h2=>
     have e:pcE (.ex 4 0 nm [] .nil .nil ar ln) c= .w 1 nm :: .w 3 [40] :: (pcAs ar true ++ [.w 3 [41]]):=by simp [pcE]
     rw [e]
     refine okw h1 (by decide) (fol (b:=40) (by decide) _) (oks (by decide) ?_ (okcl (by decide) (by decide) (fun y hy=>okA h2 true y hy) hx))
     cases h2 with
     | nil=>exact⟨41,x,by simp [pcAs,txP],by decide⟩
     | cons t r h2 h3=>
       have:=((fstE h2 1).app (x:=txP (pcAs r false ++ [.w 3 [41]]) ++ x))
       show Fst _
       simpa [pcAs,txP_app] using this
   | cell _ _ _ h1 h2=>
     have e:pcE (.ex 5 0 [] [] l r .nil ln) c=pcE l 8 ++ (.w 3 [91] :: (pcE r 1 ++ [.w 3 [93]])):=by simp [pcE]
     rw [e]
     refine OkP_app _ _ x (okE h1 8 _ (fol (b:=91) (by decide) _)) (oks (by decide) ?_ (okcl (by decide) (by decide) (fun y hy=>okE h2 1 y hy) hx))
     rw [txP_app,List.append_assoc];exact(fstE h2 1).app
   | link _ _ _ h1 h2=>
     have e:pcE (.ex 6 0 [] [] l r .nil ln) c=pcE l 8 ++ (.w 3 [58] :: (if isNN r=true then pcE r 8 else .w 3 [40] :: (pcE r 1 ++ [.w 3 [41]]))):=by
       by_cases h:isNN r=true <;> simp [pcE,h]
     rw [e]
     refine OkP_app _ _ x (okE h1 8 _ (fol (b:=58) (by decide) _)) (oks (by decide) ?_ ?_)
     ·by_cases h:isNN r=true
      ·rw [if_pos h];exact(fstE h2 8).app
      ·rw [if_neg h];exact⟨40,_,rfl,by decide⟩
     ·by_cases h:isNN r=true
      ·rw [if_pos h];exact okE h2 8 x hx
      ·rw [if_neg h]
       refine oks (by decide) ?_ (okcl (by decide) (by decide) (fun y hy=>okE h2 1 y hy) hx)
       rw [txP_app,List.append_assoc];exact(fstE h2 1).app
   | new _ _ h=>
     have e:pcE (.ex 7 0 [] [] l .nil .nil ln) c= .w 4 wNew :: .w 3 [40] :: (pcE l 1 ++ [.w 3 [41]]):=by simp [pcE]
     rw [e]
     refine okw wNew_k (by decide) (fol (b:=40) (by decide) _) (oks (by decide) ?_ (okcl (by decide) (by decide) (fun y hy=>okE h 1 y hy) hx))
     rw [txP_app,List.append_assoc];exact(fstE h 1).app
   | inn _=>
     have e:pcE (.ex 8 0 [] [] .nil .nil .nil ln) c=[.w 4 wIn,.w 3 [40],.w 3 [41]]:=by simp [pcE]
     rw [e]
     exact okw wIn_k (by decide) (fol (b:=40) (by decide) _) (oks (by decide) ⟨41,x,rfl,by decide⟩ (oks1 (by decide) hx))
theorem okA:∀{a:Trs},WTs a→∀b x,Fol x→OkP (pcAs a b) x
 | .nil,_,b,x,hx=>by simp only [pcAs];trivial
 | .cons t r,h,b,x,hx=>by
   cases h with
   | cons _ _ h1 h2=>
     have hf:Fol (txP (pcAs r false) ++ x):=by
        cases h2 with
        | nil=>simpa [pcAs,txP] using hx
        | cons t r _ _=>simp only [pcAs,Bool.false_eq_true,if_false,List.cons_append,txP];exact fol (b:=44) (by decide) _
     have hm:=OkP_app _ _ x (okE h1 1 _ hf) (okA h2 false x hx)
     cases b with
     | true=>simpa [pcAs] using hm
     | false=>
       have e:pcAs (.cons t r) false= .w 3 [44] :: .b 32 :: (pcE t 1 ++ pcAs r false):=by simp [pcAs]
       rw [e]
       exact oks (by decide) ⟨32,_,rfl,by decide⟩ ⟨.inl rfl,hm⟩
end
theorem oktabs:∀(d:Nat) {ps:List Pc} {x:List UInt8},OkP ps x→OkP (tabsP d ++ ps) x
 | 0,_,_,h=>h
 | d+1,ps,x,h=>⟨.inr (.inl rfl),oktabs d h⟩
theorem okopn {ps:List Pc} {x:List UInt8} (h:OkP ps x):OkP (opnP ++ ps) x:=⟨.inl rfl,⟨10,_,rfl,by simp,fun x=>sign_step (by decide) (by decide) x⟩,.inr (.inr rfl),h⟩
theorem okcls (d:Nat) {x:List UInt8} (h:Fol x):OkP (clsP d) x:=oktabs d (oks1 (by decide) h)
theorem okend {r:Tr} (h:WT r) {x:List UInt8} (hx:Fol x):OkP (pcE r 1 ++ [.w 3 [59]]) x:=okcl (by decide) (by decide) (fun y hy=>okE h 1 y hy) hx
theorem okeq {r:Tr} (h:WT r) {x:List UInt8} (hx:Fol x):OkP (eqP ++ (pcE r 1 ++ [.w 3 [59]])) x:=
 ⟨.inl rfl,⟨32,_,rfl,by simp,fun x=>sign_step (by decide) (by decide) x⟩,.inl rfl,okend h hx⟩
theorem okkw {s:List UInt8} (h:s∈keys) {ps:List Pc} {x:List UInt8} (hp:OkP ps x):OkP (.w 4 s :: .b 32 :: ps) x:=okw (good_key h) (by decide) (fol (b:=32) (by decide) _) ⟨.inl rfl,hp⟩
theorem fol32 (x:List UInt8):Fol (32 :: x):=fol (by decide) x
theorem fol10 (x:List UInt8):Fol (10 :: x):=fol (by decide) x
mutual
theorem okS:∀{s:Sm},WS s→∀d x,Fol x→OkP (pcS s d) x
 | .st k nm p l r th el ln,h,d,x,hx=>by
   cases h with
   | var _ _ _ _ h1 h2=>
     have e:pcS (.st 1 nm p .nil r .nil .nil ln) d= .w 4 wVar :: .b 32 :: .w 1 nm :: ((if p=true then [.b 32,.w 4 wPtr] else []) ++ (if isNil r=true then [.w 3 [59]] else eqP ++ (pcE r 1 ++ [.w 3 [59]]))):=by
       by_cases h:isNil r=true <;> simp [pcS,h]
     rw [e]
     have ht:OkP (if isNil r=true then [.w 3 [59]] else eqP ++ (pcE r 1 ++ [.w 3 [59]])) x∧Fol (txP (if isNil r=true then [.w 3 [59]] else eqP ++ (pcE r 1 ++ [.w 3 [59]])) ++ x):=by
       rcases h2 with rfl | h2
       ·exact⟨oks1 (by decide) hx,fol (b:=59) (by decide) _⟩
       ·rw [if_neg (by rw [h2.nn];decide)];exact⟨okeq h2 hx,fol32 _⟩
     refine okkw (by decide) (okw h1 (by decide) ?_ ?_)
     ·cases p with
      | true=>exact fol32 _
      | false=>exact ht.2
     ·cases p with
      | true=>exact⟨.inl rfl,okw (good_key (by decide)) (by decide) ht.2 ht.1⟩
      | false=>exact ht.1
   | set _ _ _ h1 h2=>
     have e:pcS (.st 2 nm false .nil r .nil .nil ln) d= .w 1 nm :: (eqP ++ (pcE r 1 ++ [.w 3 [59]])):=by simp [pcS]
     rw [e]
     exact okw h1 (by decide) (fol32 _) (okeq h2 hx)
   | cell _ _ _ h1 h2 h3=>
     have e:pcS (.st 3 [] false l r .nil .nil ln) d=pcE l 8 ++ (eqP ++ (pcE r 1 ++ [.w 3 [59]])):=by simp [pcS]
     rw [e]
     exact OkP_app _ _ x (okE h1 8 _ (fol32 _)) (okeq h3 hx)
   | iff _ _ _ _ h1 h2 h3=>
     have e:pcS (.st 4 [] false .nil r th el ln) d= .w 4 wIf :: .b 32 :: (pcE r 1 ++ (opnP ++ (pcSs th (d+1) ++ (clsP d ++ pcEl el d)))):=by simp [pcS]
     rw [e]
     have he:OkP (pcEl el d) x∧Fol (txP (pcEl el d) ++ x):=okEl h3 d x hx
     exact okkw (by decide) (OkP_app _ _ x (okE h1 1 _ (fol32 _)) (okopn (OkP_app _ _ x (okSs h2 (d+1) _) (OkP_app _ _ x (okcls d he.2) he.1))))
   | whl _ _ _ h1 h2=>
     have e:pcS (.st 5 [] false .nil r th .nil ln) d= .w 4 wWhile :: .b 32 :: (pcE r 1 ++ (opnP ++ (pcSs th (d+1) ++ clsP d))):=by simp [pcS]
     rw [e]
     exact okkw (by decide) (OkP_app _ _ x (okE h1 1 _ (fol32 _)) (okopn (OkP_app _ _ x (okSs h2 (d+1) _) (okcls d hx))))
   | out _ _ h1=>
     have e:pcS (.st 6 [] false .nil r .nil .nil ln) d= .w 4 wOut :: .b 32 :: (pcE r 1 ++ [.w 3 [59]]):=by simp [pcS]
     rw [e];exact okkw (by decide) (okend h1 hx)
   | free _ _ h1=>
     have e:pcS (.st 7 [] false .nil r .nil .nil ln) d= .w 4 wFree :: .b 32 :: (pcE r 1 ++ [.w 3 [59]]):=by simp [pcS]
     rw [e];exact okkw (by decide) (okend h1 hx)
   | drain _=>
     have e:pcS (.st 8 [] false .nil .nil .nil .nil ln) d=[.w 4 wDrain,.w 3 [59]]:=by simp [pcS]
     rw [e];exact okw (good_key (by decide)) (by decide) (fol (b:=59) (by decide) _) (oks1 (by decide) hx)
   | ret _ _ h1=>
     rcases h1 with rfl | h1
     ·have e:pcS (.st 9 [] false .nil .nil .nil .nil ln) d=[.w 4 wReturn,.w 3 [59]]:=by simp [pcS,isNil]
      rw [e];exact okw (good_key (by decide)) (by decide) (fol (b:=59) (by decide) _) (oks1 (by decide) hx)
     ·have e:pcS (.st 9 [] false .nil r .nil .nil ln) d= .w 4 wReturn :: .b 32 :: (pcE r 1 ++ [.w 3 [59]]):=by simp [pcS,h1.nn]
      rw [e];exact okkw (by decide) (okend h1 hx)
   | call _ _ h1 h2=>
     have e:pcS (.st 10 [] false .nil r .nil .nil ln) d=pcE r 1 ++ [.w 3 [59]]:=by simp [pcS]
     rw [e];exact okend h1 hx
theorem okSs:∀{s:Sms},WSs s→∀d x,OkP (pcSs s d) x
 | .nil,_,d,x=>by simp only [pcSs];trivial
 | .cons s r,h,d,x=>by
   cases h with
   | cons _ _ h1 h2=>
     have e:pcSs (.cons s r) d=tabsP d ++ (pcS s d ++ (.b 10 :: pcSs r d)):=by simp [pcSs]
     rw [e]
     exact oktabs d (OkP_app _ _ x (okS h1 d _ (fol10 _)) ⟨.inr (.inr rfl),okSs h2 d x⟩)
theorem okEl:∀{s:Sms},WSs s→∀d x,Fol x→OkP (pcEl s d) x∧Fol (txP (pcEl s d) ++ x)
 | .nil,_,d,x,hx=>by simp only [pcEl];exact⟨trivial,hx⟩
 | .cons s r,h,d,x,hx=>by
   cases h with
   | cons _ _ h1 h2=>
     by_cases hk:endS r=true∧kS s=4
     ·have e:pcEl (.cons s r) d= .b 32 :: .w 4 wElse :: .b 32 :: pcS s d:=by simp only [pcEl,if_pos hk];rfl
      rw [e]
      exact⟨⟨.inl rfl,okkw (by decide) (okS h1 d x hx)⟩,fol32 _⟩
     ·have e:pcEl (.cons s r) d= .b 32 :: .w 4 wElse :: (opnP ++ (tabsP (d+1) ++ (pcS s (d+1) ++ (.b 10 :: (pcSs r (d+1) ++ clsP d))))):=by simp only [pcEl,if_neg hk];simp
      rw [e]
      exact⟨⟨.inl rfl,okw (good_key (by decide)) (by decide) (fol32 _) (okopn (oktabs _ (OkP_app _ _ x (okS h1 (d+1) _ (fol10 _)) ⟨.inr (.inr rfl),OkP_app _ _ x (okSs h2 (d+1) _) (okcls d hx)⟩)))⟩,fol32 _⟩
end
theorem okP:∀(ps:List (List UInt8×Bool)),(∀p∈ps,Good 1 p.1)→∀b x,Fol x→OkP (pcP ps b) x
 | [],_,b,x,_=>trivial
 | (nm,p) :: r,h,b,x,hx=>by
   have h1:=h (nm,p) (List.mem_cons_self ..)
   have ih:=okP r (fun q hq=>h q (List.mem_cons_of_mem _ hq)) false x hx
   have hf:Fol (txP (pcP r false) ++ x):=by
    cases r with
    | nil=>exact hx
    | cons y r=>obtain⟨n2,p2⟩:=y;exact fol (b:=44) (by decide) _
   have hm:OkP (.w 1 nm :: ((if p=true then [.b 32,.w 4 wPtr] else []) ++ pcP r false)) x:=by
    refine okw h1 (by decide) ?_ ?_
    ·cases p with
     | true=>exact fol32 _
     | false=>exact hf
    ·cases p with
     | true=>exact⟨.inl rfl,okw (good_key (by decide)) (by decide) hf ih⟩
     | false=>exact ih
   cases b with
   | true=>
     have e:pcP ((nm,p) :: r) true= .w 1 nm :: ((if p=true then [.b 32,.w 4 wPtr] else []) ++ pcP r false):=by simp [pcP]
     rw [e];exact hm
   | false=>
     have e:pcP ((nm,p) :: r) false= .w 3 [44] :: .b 32 :: (.w 1 nm :: ((if p=true then [.b 32,.w 4 wPtr] else []) ++ pcP r false)):=by simp [pcP]
     rw [e];exact oks (by decide) ⟨32,_,rfl,by decide⟩ ⟨.inl rfl,hm⟩
theorem okF {f:Fm} (h:WFm f)(x:List UInt8):OkP (pcF f) x:=by
 have e:pcF f= .w 4 wFunc :: .b 32 :: .w 1 f.name :: .w 3 [40] :: (pcP f.params true ++ (.w 3 [41] :: ((if f.ptr=true then [.b 32,.w 4 wPtr] else []) ++ (opnP ++ (pcSs f.body 1 ++ (clsP 0 ++ [.b 10])))))):=by simp [pcF]
 rw [e]
 have ht:OkP (opnP ++ (pcSs f.body 1 ++ (clsP 0 ++ [.b 10]))) x:=okopn (OkP_app _ _ x (okSs h.body 1 _) (OkP_app _ _ x (okcls 0 (fol10 _)) ⟨.inr (.inr rfl),trivial⟩))
 have h2:OkP ((if f.ptr=true then [.b 32,.w 4 wPtr] else []) ++ (opnP ++ (pcSs f.body 1 ++ (clsP 0 ++ [.b 10])))) x:=by
  by_cases hp:f.ptr=true
  ·rw [if_pos hp];exact⟨.inl rfl,okw (good_key (by decide)) (by decide) (fol32 _) ht⟩
  ·rw [if_neg hp];exact ht
 have hf:∃b y,txP ((if f.ptr=true then [.b 32,.w 4 wPtr] else []) ++ (opnP ++ (pcSs f.body 1 ++ (clsP 0 ++ [.b 10])))) ++ x=b :: y∧b≠61:=by
  by_cases hp:f.ptr=true
  ·rw [if_pos hp];exact⟨32,_,rfl,by decide⟩
  ·rw [if_neg hp];exact⟨32,_,rfl,by decide⟩
 refine okkw (by decide) (okw h.name (by decide) (fol (b:=40) (by decide) _) (oks (by decide) ?_ (OkP_app _ _ x (okP _ h.ps true _ (fol (b:=41) (by decide) _)) (oks (by decide) hf h2))))
 cases hps:f.params with
 | nil=>exact⟨41,_,rfl,by decide⟩
 | cons y r=>
   obtain⟨nm,p⟩:=y
   have hg:=h.ps (nm,p) (by rw [hps];exact List.mem_cons_self ..)
   have:=(good_fst hg (.inl rfl)).app (x:=txP ((if p=true then [.b 32,.w 4 wPtr] else []) ++ pcP r false ++ (.w 3 [41] :: ((if f.ptr=true then [.b 32,.w 4 wPtr] else []) ++ (opnP ++ (pcSs f.body 1 ++ (clsP 0 ++ [.b 10])))))) ++ x)
   show Fst _
   simpa [pcP,txP,txP_app] using this
theorem okFs:∀(fs:List Fm),(∀f∈fs,WFm f)→OkP (pcFs fs) []
 | [],_=>trivial
 | f :: r,h=>OkP_app _ _ _ (okF (h f (List.mem_cons_self ..)) _) (okFs r fun x hx=>h x (List.mem_cons_of_mem _ hx))
theorem lex_print {fs:List Fm} (h:∀f∈fs,WFm f)(hl:(txP (pcFs fs)).length≤32768):∃w,lexS (txP (pcFs fs))= .toks w∧w.map lz=tkFs fs ++ [tEnd]:=by
 obtain⟨l',w,h1,h2⟩:=lexR_P (pcFs fs) [] 0 [] (okFs fs h)
 rw [List.append_nil] at h1
 refine⟨w ++ [⟨5,[],l'⟩],?_,?_⟩
 ·rw [lexS_R hl,h1,lexR_nil];rfl
 ·rw [List.map_append,h2];rfl
end Go.Abs.YtlkfbfhkcaldlaaGreatDoor
namespace Go.Abs.YtlkfbfhkcaldlaaGreatDoor
set_option maxRecDepth 4000
mutual
def nT:Tr→Nat
 | .nil=>0
 | .ex _ _ _ _ l r a _=>1+nT l+nT r+nTs a
def nTs:Trs→Nat
 | .nil=>0
 | .cons t r=>1+nT t+nTs r
end
mutual
def nS:Sm→Nat
 | .st _ _ _ l r th el _=>1+nT l+nT r+nSs th+nSs el
def nSs:Sms→Nat
 | .nil=>0
 | .cons t r=>nS t+nSs r
end
def nF (f:Fm):Nat:=1+f.params.length+nSs f.body
def nFs:List Fm→Nat
 | []=>0
 | f :: l=>nF f+nFs l
def Gn {α:Type} (w:α→Nat)(r:Re α)(L:Nat):Prop:=match r with
 | .ok a ts=>w a+2*ts.length≤L
 | _=>True
theorem Gn.bind {α β:Type} {w:α→Nat} {u:β→Nat} {r:Re α} {f:α→List Tok→Re β} {L M:Nat} (h:Gn w r L)(hf:∀a ts,w a+2*ts.length≤L→Gn u (f a ts) M):Gn u (r.bind f) M:=by
 cases r with
 | ok a ts=>exact hf a ts h
 | bad c l=>trivial
 | out=>trivial
theorem Gn.mono {α:Type} {w:α→Nat} {r:Re α} {L M:Nat} (h:Gn w r L)(hl:L≤M):Gn w r M:=by
 cases r with
 | ok a ts=>exact Nat.le_trans h hl
 | bad c l=>trivial
 | out=>trivial
theorem gn_of {α:Type} {r:Re α} {L:Nat} (h:Gw w1 r L):Gn (fun _=>2) r (2*L):=by
 cases r with
 | ok a ts=>have h:1+ts.length≤L:=h;show 2+2*ts.length≤_;omega
 | bad c l=>trivial
 | out=>trivial
theorem gn_must (s:List UInt8)(ts:List Tok):Gn (fun _=>2) (mustW s ts) (2*ts.length):=gn_of (gw_must s ts)
theorem gn_open (s:List UInt8)(d:Nat)(ts:List Tok):Gn (fun _=>2) (openW s d ts) (2*ts.length):=gn_of (gw_open s d ts)
theorem gn_name (ts:List Tok):Gn (fun _=>2) (nameW ts) (2*ts.length):=gn_of (gw_name ts)
abbrev nT1 (x:Tr):Nat:=1+nT x
structure NE (n:Nat):Prop where
 e:∀d c ts,Gn nT1 (pExpr n d c ts) (2*ts.length)
 l:∀d c x ts,Gn nT1 (pLoop n d c x ts) (1+nT x+2*ts.length)
 u:∀d ts,Gn nT1 (pUn n d ts) (2*ts.length)
 p:∀d ts,Gn nT1 (pPost n d ts) (2*ts.length)
 q:∀d x ts,Gn nT1 (pPostL n d x ts) (1+nT x+2*ts.length)
 w:∀d a b ts,Gn (fun x=>4+nT1 x) (pWith n d a b ts) (2*ts.length)
 c:∀d ts,Gn nT1 (pCell n d ts) (2*ts.length)
 f:∀d ts,Gn nT1 (pFirst n d ts) (2*ts.length)
 a:∀d b ts,Gn nTs (pArgs n d b ts) (2*ts.length)
theorem nE:∀n,NE n
 | 0=>by
   constructor
   all_goals
    intros
    simp only [pExpr,pLoop,pUn,pPost,pPostL,pWith,pCell,pFirst,pArgs,Gn]
 | n+1=>by
   have ih:=nE n
   refine⟨fun d c ts=>?_,fun d c x ts=>?_,fun d ts=>?_,fun d ts=>?_,fun d x ts=>?_,fun d a b ts=>?_,fun d ts=>?_,fun d ts=>?_,fun d f ts=>?_⟩
   ·unfold pExpr
    exact(ih.u d ts).bind fun x ts1 h1=>(ih.l d c x ts1).mono h1
   ·cases ts with
    | nil=>unfold pLoop;trivial
    | cons t r=>
      unfold pLoop
      split
      ·refine(ih.e d _ r).bind fun y ts1 h1=>(ih.l d c (.ex 3 0 [] t.s x y .nil t.l) ts1).mono ?_
       simp only [nT1,nT,nTs,List.length_cons] at h1 ⊢;omega
      ·exact Nat.le_refl _
   ·cases ts with
    | nil=>unfold pUn;trivial
    | cons t r=>
      unfold pUn
      split
      ·split
       ·trivial
       ·refine(ih.u (d+1) r).bind fun x ts1 h1=>?_
        show 1+nT _+_≤_;simp only [nT1,nT,nTs,List.length_cons] at h1 ⊢;omega
      ·exact ih.p d _
   ·unfold pPost
    exact(ih.f d ts).bind fun x ts1 h1=>(ih.q d x ts1).mono h1
   ·cases ts with
    | nil=>unfold pPostL;trivial
    | cons t r=>
      unfold pPostL
      split
      ·refine(ih.w d _ _ _).bind fun y ts1 h1=>(ih.q d (.ex 5 0 [] [] x y .nil t.l) ts1).mono ?_
       simp only [nT1,nT,nTs] at h1 ⊢;omega
      ·split
       ·refine(ih.c d r).bind fun y ts1 h1=>(ih.q d (.ex 6 0 [] [] x y .nil t.l) ts1).mono ?_
        simp only [nT1,nT,nTs,List.length_cons] at h1 ⊢;omega
       ·exact Nat.le_refl _
   ·unfold pWith
    refine(gn_open a d ts).bind fun _ ts1 h1=>(ih.e (d+1) 1 ts1).bind fun x ts2 h2=>(gn_must b ts2).bind fun _ ts3 h3=>?_
    show 4+(1+nT x)+_≤_;simp only [nT1] at h2;omega
   ·cases ts with
    | nil=>unfold pCell;trivial
    | cons t r=>
      unfold pCell
      split
      ·refine(?_:Gn nT1 _ _)
       have:=ih.w d [40] [41] (t :: r)
       cases hr:pWith n d [40] [41] (t :: r) with
       | ok a ts2=>rw [hr] at this;have h:4+(1+nT a)+2*ts2.length≤_:=this;show 1+nT a+_≤_;omega
       | bad c l=>trivial
       | out=>trivial
      ·split
       ·show 1+nT (numT t)+_≤_;simp only [numT,nT,nTs,List.length_cons];omega
       ·refine(gn_name _).bind fun nm ts1 h1=>?_
        show 1+nT (nameT nm t.l)+_≤_;simp only [nameT,nT,nTs] at h1 ⊢;omega
   ·cases ts with
    | nil=>unfold pFirst;trivial
    | cons t r=>
      unfold pFirst
      split
      ·have:=ih.w d [40] [41] (t :: r)
       cases hr:pWith n d [40] [41] (t :: r) with
       | ok a ts2=>rw [hr] at this;have h:4+(1+nT a)+2*ts2.length≤_:=this;show 1+nT a+_≤_;omega
       | bad c l=>trivial
       | out=>trivial
      ·split
       ·refine(ih.w d _ _ r).bind fun x ts1 h1=>?_
        simp only [nT1] at h1;show 1+nT _+_≤_;simp only [nT,nTs,List.length_cons];omega
       ·split
        ·refine(gn_open _ d r).bind fun _ ts1 h1=>(gn_must _ ts1).bind fun _ ts2 h2=>?_
         show 1+nT _+_≤_;simp only [nT1,nT,nTs,List.length_cons] at h1 h2 ⊢;omega
        ·split
         ·show 1+nT (numT t)+_≤_;simp only [numT,nT,nTs,List.length_cons];omega
         ·refine(gn_name _).bind fun nm ts1 h1=>?_
          split
          ·refine(gn_open _ d ts1).bind fun _ ts2 h2=>(ih.a (d+1) true ts2).bind fun a ts3 h3=>(gn_must _ ts3).bind fun _ ts4 h4=>?_
           show 1+nT _+_≤_;simp only [nT] at h1 ⊢;omega
          ·show 1+nT (nameT nm t.l)+_≤_;simp only [nameT,nT,nTs] at h1 ⊢;omega
   ·unfold pArgs
    split
    ·show 0+_≤_;omega
    ·have h1:Gn (fun _=>0) (if f=true then Re.ok () ts else mustW [44] ts) (2*ts.length):=by
      split
      ·show 0+_≤_;omega
      ·have:=gn_must [44] ts
       cases hr:mustW [44] ts with
       | ok a ts2=>rw [hr] at this;have h:2+2*ts2.length≤_:=this;show 0+_≤_;omega
       | bad c l=>trivial
       | out=>trivial
     refine h1.bind fun _ ts1 h1=>(ih.e d 1 ts1).bind fun x ts2 h2=>(ih.a d false ts2).bind fun xs ts3 h3=>?_
     show nTs _+_≤_;simp only [nTs,nT1] at h1 h2 h3 ⊢;omega
structure NS (n:Nat):Prop where
 block:∀d ts,Gn nSs (pBlock n d ts) (2*ts.length)
 stmts:∀d ts,Gn nSs (pStmts n d ts) (2*ts.length)
 branch:∀d l ts,Gn nS (pBranch n d l ts) (1+2*ts.length)
 ended:∀d ts,Gn nT1 (pEnded n d ts) (2*ts.length)
 stmt:∀d ts,Gn nS (pStmt n d ts) (2*ts.length)
theorem nSl:∀n,NS n
 | 0=>by
   constructor
   all_goals
    intros
    simp only [pBlock,pStmts,pBranch,pEnded,pStmt,Gn]
 | n+1=>by
   have ih:=nSl n
   have ie:=nE n
   refine⟨fun d ts=>?_,fun d ts=>?_,fun d l ts=>?_,fun d ts=>?_,fun d ts=>?_⟩
   ·unfold pBlock
    refine(gn_open _ d ts).bind fun _ ts1 h1=>(ih.stmts (d+1) ts1).bind fun l ts2 h2=>(gn_must _ ts2).bind fun _ ts3 h3=>?_
    show nSs l+_≤_;omega
   ·unfold pStmts
    split
    ·show 0+_≤_;omega
    ·refine(ih.stmt d ts).bind fun x ts1 h1=>(ih.stmts d ts1).bind fun l ts2 h2=>?_
     show nSs _+_≤_;simp only [nSs];omega
   ·unfold pBranch
    refine(ie.e d 1 ts).bind fun c ts1 h1=>(ih.block d ts1).bind fun th ts2 h2=>?_
    simp only [nT1] at h1
    have t1:=tail_len ts2
    have t2:=tail_len ts2.tail
    split
    ·rename_i hw
     have hw:=isW_len hw
     split
     ·rename_i hw2
      have hw2:=isW_len hw2
      refine(ih.branch d _ _).bind fun b ts5 h5=>?_
      show nS _+_≤_;simp only [nS,nSs,nT];omega
     ·refine(ih.block d _).bind fun b ts5 h5=>?_
      show nS _+_≤_;simp only [nS,nT];omega
    ·show nS _+_≤_;simp only [nS,nSs,nT];omega
   ·unfold pEnded
    refine(ie.e d 1 ts).bind fun c ts1 h1=>(gn_must _ ts1).bind fun _ ts2 h2=>?_
    show 1+nT c+_≤_;simp only [nT1] at h1;omega
   ·cases ts with
    | nil=>unfold pStmt;trivial
    | cons t r=>
      unfold pStmt
      simp only [List.length_cons]
      split
      ·refine(gn_name r).bind fun nm ts1 h1=>?_
       have h2:=ptr_len ts1
       generalize (if isW wPtr ts1=true then ts1.tail else ts1)=ts2 at h2 ⊢
       have t2:=tail_len ts2
       split
       ·refine(ih.ended d _).bind fun x ts4 h4=>?_
        show nS _+_≤_;simp only [nS,nSs,nT,nT1] at h4 ⊢;omega
       ·refine(gn_must _ ts2).bind fun _ ts4 h4=>?_
        show nS _+_≤_;simp only [nS,nSs,nT];omega
      ·split
       ·exact(ih.branch d _ r).mono (by omega)
       ·split
        ·refine(ie.e d 1 r).bind fun c ts1 h1=>(ih.block d ts1).bind fun th ts2 h2=>?_
         show nS _+_≤_;simp only [nS,nSs,nT,nT1] at h1 ⊢;omega
        ·split
         ·refine(ih.ended d r).bind fun x ts1 h1=>?_
          show nS _+_≤_;simp only [nS,nSs,nT,nT1] at h1 ⊢;omega
         ·split
          ·refine(ih.ended d r).bind fun x ts1 h1=>?_
           show nS _+_≤_;simp only [nS,nSs,nT,nT1] at h1 ⊢;omega
          ·split
           ·refine(gn_must _ r).bind fun x ts1 h1=>?_
            show nS _+_≤_;simp only [nS,nSs,nT];omega
           ·split
            ·split
             ·have:=tail_len r;show nS _+_≤_;simp only [nS,nSs,nT];omega
             ·refine(ih.ended d r).bind fun x ts1 h1=>?_
              show nS _+_≤_;simp only [nS,nSs,nT,nT1] at h1 ⊢;omega
            ·refine(ie.p d _).bind fun x ts1 h1=>?_
             have t1:=tail_len ts1
             simp only [List.length_cons] at h1
             cases x with
             | nil=>trivial
             | ex k n' nm tx l r' a ln=>
               simp only [nT1,nT] at h1 ⊢
               split
               ·rename_i hw
                have hw:=isW_len hw
                split
                ·refine(ih.ended d _).bind fun y ts2 h2=>?_
                 show nS _+_≤_;simp only [nS,nSs,nT,nT1] at h2 ⊢;omega
                ·split
                 ·refine(ih.ended d _).bind fun y ts2 h2=>?_
                  show nS _+_≤_;simp only [nS,nSs,nT,nT1] at h2 ⊢;omega
                 ·trivial
               ·split
                ·refine(gn_must _ ts1).bind fun _ ts2 h2=>?_
                 show nS _+_≤_;simp only [nS,nSs,nT];omega
                ·trivial
theorem gn_params:∀(n:Nat) (f:Bool) (ts:List Tok),Gn List.length (pParams n f ts) (2*ts.length)
 | 0,_,_=>trivial
 | n+1,f,ts=>by
   unfold pParams
   split
   ·show 0+_≤_;omega
   ·have h1:Gn (fun _=>0) (if f=true then Re.ok () ts else mustW [44] ts) (2*ts.length):=by
     split
     ·show 0+_≤_;omega
     ·have:=gn_must [44] ts
      cases hr:mustW [44] ts with
      | ok a ts2=>rw [hr] at this;have h:2+2*ts2.length≤_:=this;show 0+_≤_;omega
      | bad c l=>trivial
      | out=>trivial
    refine h1.bind fun _ ts1 h1=>(gn_name ts1).bind fun nm ts2 h2=>?_
    have h3:=ptr_len ts2
    simp only
    generalize (if isW wPtr ts2=true then ts2.tail else ts2)=ts3 at h3 ⊢
    refine(gn_params n false ts3).bind fun l ts4 h4=>?_
    show (_ :: l).length+_≤_
    simp only [List.length_cons];omega
theorem gn_func (n:Nat)(ts:List Tok):Gn nF (pFunc n ts) (2*ts.length):=by
 unfold pFunc
 refine(gn_must _ ts).bind fun _ ts1 h1=>(gn_name ts1).bind fun nm ts2 h2=>(gn_open _ 0 ts2).bind fun _ ts3 h3=>(gn_params n true ts3).bind fun ps ts4 h4=>(gn_must _ ts4).bind fun _ ts5 h5=>?_
 have h6:=ptr_len ts5
 simp only
 generalize (if isW wPtr ts5=true then ts5.tail else ts5)=ts6 at h6 ⊢
 refine((nSl n).block 0 ts6).bind fun b ts7 h7=>?_
 show nF _+_≤_;simp only [nF];omega
theorem gn_funcs:∀(n:Nat) (ts:List Tok),Gn nFs (pFuncs n ts) (2*ts.length)
 | 0,_=>trivial
 | _+1,[]=>trivial
 | n+1,t :: r=>by
   unfold pFuncs
   split
   ·show 0+_≤_;omega
   ·refine(gn_func n _).bind fun f ts1 h1=>(gn_funcs n ts1).bind fun l ts2 h2=>?_
    show nFs _+_≤_;simp only [nFs];omega
theorem name_32 {s:List UInt8} (h:Good 1 s):s.length≤32:=by
 obtain⟨u,hu,hst,hs⟩:=h
 cases u with
 | nil=>exact(hu rfl).elim
 | cons c r=>
   unfold step at hst
   split at hst
   ·cases hst
   ·simp only at hst
    split at hst
    ·cases hst
    ·split at hst
     ·split at hst
      ·cases hst
      ·split at hst
       ·injection hst with h1 h2;omega
       ·injection hst with h1 h2;omega
     ·split at hst
      ·split at hst
       ·cases hst
       ·split at hst <;> cases hst
      ·split at hst
       ·split at hst <;> (injection hst with h1 h2;omega)
       ·cases hst
theorem dec_10:∀(k n:Nat),n<10^(k+1)→(Lib.decDigits n).length≤k+1
 | 0,n,h=>by rw [Lib.decDigits,dif_pos (by omega)];exact Nat.le_refl _
 | k+1,n,h=>by
   rw [Lib.decDigits]
   by_cases hn:n<10
   ·rw [dif_pos hn];simp
   ·rw [dif_neg hn,List.length_append]
    have:=dec_10 k (n / 10) (by rw [Nat.div_lt_iff_lt_mul (by decide),←Nat.pow_succ];exact h)
    simp only [List.length_cons,List.length_nil];omega
theorem op_2 {s:List UInt8} (h:bindsP s≠0):s.length≤2:=by
 unfold bindsP at h
 repeat' split at h
 all_goals first | (exact(h rfl).elim) | (rename_i hh;first | (subst hh;decide) | (rcases hh with rfl | rfl <;> decide) | (rcases hh with rfl | rfl | rfl | rfl <;> decide) | (rcases hh with rfl | rfl | rfl | rfl | rfl | rfl <;> decide))
theorem par_len (b:Bool)(ps:List Pc):(txP (parC b ps)).length≤(txP ps).length+2:=by
 cases b with
 | false=>show (txP ps).length≤_;omega
 | true=>show (txP ([.w 3 [40]] ++ ps ++ [.w 3 [41]])).length≤_;simp [txP_app,txP]
mutual
theorem lenE:∀{t:Tr},WT t→∀c,(txP (pcE t c)).length≤50*nT t
 | .ex k n nm tx l r ar ln,h,c=>by
   cases h with
   | num _ _ h=>have:=dec_10 9 n (by omega);simp [pcE,txP,nT];omega
   | name _ _ h=>have:=name_32 h;simp [pcE,txP,nT];omega
   | un _ _ _ h1 h2=>
     have e:pcE (.ex 3 0 [] tx .nil r .nil ln) c=parC (decide (7<c)) ([.w 3 tx] ++ pcE r 7):=by simp [pcE,isNil]
     have h3:=par_len (decide (7<c)) ([.w 3 tx] ++ pcE r 7)
     have h4:=lenE h2 7
     have h5:tx.length=1:=by rcases h1 with rfl | rfl <;> rfl
     rw [e]
     rw [txP_app,List.length_append] at h3
     simp only [txP,List.append_nil] at h3
     simp only [nT];omega
   | bin _ _ _ _ h1 h2 h3=>
     have e:pcE (.ex 3 0 [] tx l r .nil ln) c=parC (decide (bindsP tx<c)) (pcE l (bindsP tx) ++ ([.b 32,.w 3 tx,.b 32] ++ pcE r (bindsP tx+1))):=by simp [pcE,h2.nn]
     have h4:=par_len (decide (bindsP tx<c)) (pcE l (bindsP tx) ++ ([.b 32,.w 3 tx,.b 32] ++ pcE r (bindsP tx+1)))
     have h5:=lenE h2 (bindsP tx)
     have h6:=lenE h3 (bindsP tx+1)
     have h7:=op_2 h1
     rw [e]
     rw [txP_app,txP_app,List.length_append,List.length_append] at h4
     simp only [txP,List.length_cons,List.length_append,List.length_nil] at h4
     simp only [nT];omega
   | call _ _ _ h1 h2=>
     have h3:=lenA h2 true
     have h4:=name_32 h1
     simp [pcE,txP_app,txP,nT];omega
   | cell _ _ _ h1 h2=>
     have h3:=lenE h1 8
     have h4:=lenE h2 1
     simp [pcE,txP_app,txP,nT];omega
   | link _ _ _ h1 h2=>
     have h3:=lenE h1 8
     have h4:=lenE h2 1
     have h5:=lenE h2 8
     by_cases h:isNN r=true <;> simp [pcE,txP_app,txP,nT,h] <;> omega
   | new _ _ h=>
     have h3:=lenE h 1
     simp [pcE,txP_app,txP,nT,wNew];omega
   | inn _=>simp [pcE,txP,nT,nTs,wIn]
theorem lenA:∀{a:Trs},WTs a→∀b,(txP (pcAs a b)).length≤50*nTs a
 | .nil,_,b=>by simp [pcAs,txP]
 | .cons t r,h,b=>by
   cases h with
   | cons _ _ h1 h2=>
     have h3:=lenE h1 1
     have h4:=lenA h2 false
     cases b <;> simp [pcAs,txP_app,txP,nTs] <;> omega
end
theorem tabs_len (d:Nat):(txP (tabsP d)).length=d:=by
 induction d with
 | zero=>rfl
 | succ d ih=>show (txP (.b 9 :: tabsP d)).length=_;simp only [txP,List.length_cons];rw [ih]
theorem opn_len:(txP opnP).length=3:=rfl
theorem eq_len:(txP eqP).length=3:=rfl
theorem cls_len (d:Nat):(txP (clsP d)).length=d+1:=by unfold clsP;rw [txP_app,List.length_append,tabs_len];rfl
mutual
theorem lenS:∀{s:Sm},WS s→∀d,d+dS s≤70→(txP (pcS s d)).length+d+1≤500*nS s
 | .st k nm p l r th el ln,h,d,hd=>by
   cases h with
   | var _ _ _ _ h1 h2=>
     have h3:=name_32 h1
     simp only [dS] at hd
     rcases h2 with rfl | h2
     ·cases p <;> simp [pcS,txP_app,txP,isNil,nS,nT,nSs,eq_len,wVar,wPtr] <;> omega
     ·have h4:=lenE h2 1
      cases p <;> simp [pcS,txP_app,txP,h2.nn,nS,nT,nSs,eq_len,wVar,wPtr] <;> omega
   | set _ _ _ h1 h2=>
     have h3:=name_32 h1
     have h4:=lenE h2 1
     simp only [dS] at hd
     simp [pcS,txP_app,txP,nS,nT,nSs,eq_len];omega
   | cell _ _ _ h1 h2 h3=>
     have h4:=lenE h1 8
     have h5:=lenE h3 1
     simp only [dS] at hd
     simp [pcS,txP_app,txP,nS,nT,nSs,eq_len];omega
   | iff _ _ _ _ h1 h2 h3=>
     simp only [dS,if_true] at hd
     have h4:=lenE h1 1
     have h5:=lenSs h2 (d+1) (by omega)
     have h6:=lenEl h3 d (by omega)
     simp [pcS,txP_app,txP,nS,nT,opn_len,cls_len,wIf];omega
   | whl _ _ _ h1 h2=>
     simp only [dS,show ¬(5:Nat)=4 by decide,if_false,if_true] at hd
     have h4:=lenE h1 1
     have h5:=lenSs h2 (d+1) (by omega)
     simp [pcS,txP_app,txP,nS,nSs,nT,opn_len,cls_len,wWhile];omega
   | out _ _ h1=>
     have h4:=lenE h1 1
     simp only [dS] at hd
     simp [pcS,txP_app,txP,nS,nSs,nT,wOut];omega
   | free _ _ h1=>
     have h4:=lenE h1 1
     simp only [dS] at hd
     simp [pcS,txP_app,txP,nS,nSs,nT,wFree];omega
   | drain _=>
     simp only [dS] at hd
     simp [pcS,txP,nS,nSs,nT,wDrain];omega
   | ret _ _ h1=>
     simp only [dS] at hd
     rcases h1 with rfl | h1
     ·simp [pcS,txP,nS,nSs,nT,wReturn,isNil];omega
     ·have h4:=lenE h1 1
      simp [pcS,txP_app,txP,nS,nSs,nT,wReturn,h1.nn];omega
   | call _ _ h1 h2=>
     have h4:=lenE h1 1
     simp only [dS] at hd
     simp [pcS,txP_app,txP,nS,nSs,nT];omega
theorem lenSs:∀{s:Sms},WSs s→∀d,d+dSs s≤70→(txP (pcSs s d)).length≤500*nSs s
 | .nil,_,d,_=>by simp [pcSs,txP]
 | .cons s r,h,d,hd=>by
   cases h with
   | cons _ _ h1 h2=>
     simp only [dSs] at hd
     have h3:=lenS h1 d (by omega)
     have h4:=lenSs h2 d (by omega)
     simp [pcSs,txP_app,txP,nSs,tabs_len];omega
theorem lenEl:∀{s:Sms},WSs s→∀d,d+dEl s≤70→(txP (pcEl s d)).length≤500*nSs s+170
 | .nil,_,d,_=>by simp [pcEl,txP]
 | .cons s r,h,d,hd=>by
   cases h with
   | cons _ _ h1 h2=>
     by_cases hk:endS r=true∧kS s=4
     ·simp only [dEl,if_pos hk] at hd
      have h3:=lenS h1 d (by omega)
      simp [pcEl,hk.1,hk.2,txP_app,txP,nSs,wElse];omega
     ·simp only [dEl,if_neg hk] at hd
      have h3:=lenS h1 (d+1) (by omega)
      have h4:=lenSs h2 (d+1) (by omega)
      simp [pcEl,hk,txP_app,txP,nSs,wElse,opn_len,cls_len,tabs_len];omega
end
theorem lenP:∀(ps:List (List UInt8×Bool)),(∀p∈ps,Good 1 p.1)→∀b,(txP (pcP ps b)).length≤50*ps.length
 | [],_,_=>Nat.zero_le _
 | (nm,p) :: r,h,b=>by
   have h1:=name_32 (h (nm,p) (List.mem_cons_self ..))
   have ih:=lenP r (fun q hq=>h q (List.mem_cons_of_mem _ hq)) false
   simp only at h1
   cases b <;> cases p <;> simp [pcP,txP_app,txP,wPtr] <;> omega
theorem lenF {f:Fm} (h:WFm f):(txP (pcF f)).length≤500*nF f:=by
 have h1:=name_32 h.name
 have h2:=lenP _ h.ps true
 have h3:=lenSs h.body 1 (by have:=h.deep;omega)
 by_cases hp:f.ptr=true <;> simp [pcF,txP_app,txP,nF,hp,wFunc,wPtr,opn_len,cls_len] <;> omega
theorem lenFs:∀(fs:List Fm),(∀f∈fs,WFm f)→(txP (pcFs fs)).length≤500*nFs fs
 | [],_=>Nat.zero_le _
 | f :: r,h=>by
   have h1:=lenF (h f (List.mem_cons_self ..))
   have h2:=lenFs r fun x hx=>h x (List.mem_cons_of_mem _ hx)
   simp only [pcFs,txP_app,nFs,List.length_append];omega
end Go.Abs.YtlkfbfhkcaldlaaGreatDoor
namespace Go.Abs.YtlkfbfhkcaldlaaGreatDoor
set_option maxRecDepth 4000
theorem yI:∀(k:Nat) (s:List UInt8) (l:Nat) (acc:List Tok) {a:List Tok} {n:Nat},lexG k s l acc= .done a n→a.length≤acc.length+k
 | 0,[],l,acc,a,n,h=>by cases h;simp
 | 0,_ :: _,l,acc,a,n,h=>by cases h;simp
 | k+1,[],l,acc,a,n,h=>by cases h;omega
 | k+1,c :: r,l,acc,a,n,h=>by
   simp only [lexG] at h
   split at h
   ·have:=yI k _ _ _ h;omega
   ·have:=yI k _ _ _ h;rw [List.length_append] at this;simp only [List.length_cons,List.length_nil] at this;omega
   ·cases h
theorem EX {t:List UInt8} {l:List Tok} (h:lexS t= .toks l):l.length≤40000:=by
 unfold lexS at h
 split at h
 ·cases h
 ·rename_i hl
  cases hr:lexG t.length t 0 [] with
  | done a b=>
    rw [hr] at h
    have:=yI _ _ _ _ hr
    cases h
    rw [List.length_append]
    simp only [List.length_cons,List.length_nil] at this ⊢
    omega
  | bad a b=>rw [hr] at h;cases h
theorem EY {t:List UInt8} {fs:List Fm} {ts:List Tok} (h:jy t= .ok fs ts):wFs fs≤100000:=by
 unfold jy at h
 split at h
 ·cases h
 ·rename_i l hl
  have h1:=EX hl
  have h2:=gw_funcs (10*l.length+11) l
  rw [h] at h2
  have h2:wFs fs+ts.length≤l.length:=h2
  omega
theorem IU {t:List UInt8} {w:List Tok} (h:lexS t= .toks w):TG w:=by
 have hno:=(IL h).2.1
 have hl:t.length≤32768:=by
  unfold lexS at h
  split at h
  ·cases h
  ·omega
 have h':=h
 rw [lexS_R hl] at h'
 cases hr:lexR t 0 [] with
 | bad e l'=>rw [hr] at h';cases h'
 | done a n=>
   rw [hr] at h'
   simp only [Res0.fin,Res.toks.injEq] at h'
   have hg:=lexG_good _ _ _ _ _ _ (fun _ h=>by cases h) hr
   intro z hz
   have hz':=hz
   rw [←h'] at hz
   rcases List.mem_append.1 hz with hz | hz
   ·exact .inr ⟨hg z hz,fun hk=>(hno z hz' hk).2.1⟩
   ·obtain rfl:=List.mem_singleton.1 hz
    exact .inl rfl
structure Prog (fs:List Fm):Prop where
 wf:∀f∈fs,WFm f
 w:wFs fs≤100000
 len:(txP (pcFs fs)).length≤100000000
theorem IV {t:List UInt8} {fs:List Fm} {ts:List Tok} (h:jy t= .ok fs ts):Prog fs:=by
 refine⟨?_,EY h,?_⟩
 ·unfold jy at h
  split at h
  ·cases h
  ·rename_i l hl
   have:=pw_funcs (10*l.length+11) l (IU hl)
   rw [h] at this
   exact this.1
 ·have hwf:∀f∈fs,WFm f:=by
   unfold jy at h
   split at h
   ·cases h
   ·rename_i l hl
    have:=pw_funcs (10*l.length+11) l (IU hl)
    rw [h] at this
    exact this.1
  have h1:=lenFs fs hwf
  unfold jy at h
  split at h
  ·cases h
  ·rename_i l hl
   have h2:=EX hl
   have h3:=gn_funcs (10*l.length+11) l
   rw [h] at h3
   have h3:nFs fs+2*ts.length≤2*l.length:=h3
   omega
theorem yJ {fs:List Fm} (h:∀f∈fs,WFm f)(hl:(txP (pcFs fs)).length≤32768):∃gs ts,jy (txP (pcFs fs))= .ok gs ts∧gs.map eF=fs.map eF∧sameFs fs gs=true:=by
 obtain⟨w,h1,h2⟩:=lex_print h hl
 have hlen:w.length=(tkFs fs ++ [tEnd]).length:=by rw [←h2,List.length_map]
 have h3:=funcs_ok fs h (10*w.length+11) (by omega)
 rw [←h2,lzFs] at h3
 have h4:jy (txP (pcFs fs))=pFuncs (10*w.length+11) w:=by unfold jy;rw [h1]
 cases hr:pFuncs (10*w.length+11) w with
 | ok gs ts=>
   rw [hr] at h3
   simp only [Re.er,Re.ok.injEq] at h3
   exact⟨gs,ts,h4.trans hr,h3.1,by rw [EW,h3.1];exact uV _⟩
 | bad c l=>rw [hr] at h3;cases h3
 | out=>rw [hr] at h3;cases h3
end Go.Abs.YtlkfbfhkcaldlaaGreatDoor
