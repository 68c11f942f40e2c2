/- Texts of this claim, joined: Pa, Pb, Pc, Pe, Pf, Pg, Ph, Pi, Pj. -/
import Derived.Test.YtlkfbfhkcaldlaaGreatDoorM16
import Derived.Test.YtlkfbfhkcaldlaaGreatDoorM15
set_option linter.unusedVariables false
set_option linter.unusedSimpArgs false
namespace Go.Abs.YtlkfbfhkcaldlaaGreatDoor
open Go.Proofs
set_option maxRecDepth 4000
def qm (w g n m d:Nat)(f:AV):List AV:=[.sl w g (3*m) (n - m) 3,.i .i64 d,f]
structure PW (p w g:Nat)(all:List Tok)(Z:St)(m d:Nat)(f:AV):Prop where
 obj:Z[p]? =some ⟨0,false,.cells 88 (qm w g all.length m d f)⟩
 tok:Z[w]? =some ⟨g,false,.cells 62 (eY all)⟩
 ne:w≠p
 len:all.length<=40001
 at_:m<all.length
 dp:d<=1000
section
variable {p w g m d:Nat} {all:List Tok} {Z Z':St} {f:AV}
theorem PW.keep (h:PW p w g all Z m d f)(h1:Z'[p]? =Z[p]?)(h2:Z'[w]? =Z[w]?):PW p w g all Z' m d f:=⟨h1.trans h.obj,h2.trans h.tok,h.ne,h.len,h.at_,h.dp⟩
theorem PW.new (h:PW p w g all Z m d f)(e:Nat)(cs:List AV):PW p w g all (newCells e cs Z) m d f:=h.keep (eu (bK h.obj)) (eu (bK h.tok))
theorem PW.bT (h:PW p w g all Z m d f) {x gx e:Nat} {ro:Bool} {cs:List AV} (hx:Z[x]? =some ⟨gx,ro,.cells e cs⟩)(h1:e≠88)(h2:e≠62)(a:AO):PW p w g all (Z.set x a) m d f:=by
 have n1:x≠p:=fun q=>by subst q;have:=hx.symm.trans h.obj;cases this;exact h1 rfl
 have n2:x≠w:=fun q=>by subst q;have:=hx.symm.trans h.tok;cases this;exact h2 rfl
 exact⟨aK h.obj n1 _,aK h.tok n2 _,h.ne,h.len,h.at_,h.dp⟩
theorem PW.put (h:PW p w g all Z m d f) {m' d':Nat} (f':AV)(hm:m'< all.length)(hd:d'<=1000):PW p w g all (Z.set p ⟨0,false,.cells 88 (qm w g all.length m' d' f')⟩) m' d' f':=
 ⟨at_set h.obj _,aK h.tok h.ne.symm _,h.ne,h.len,hm,hd⟩
theorem PW.chg {m' d' w' g':Nat} {all':List Tok} {f':AV} (h:PW p w g all Z m d f)(h':PW p w' g' all' Z' m' d' f')(hne:(w,g,m)≠(w',g',m')\/d≠d'\/f≠f') {v:AV} {Q:AV->St->Prop} (q:Q v Z'):Fin Z v Z' Q:=by
 refine yV h.obj h'.obj (fun e=>?_) q
 injection e with _ _ e
 injection e with _ e
 simp only [qm,List.cons.injEq,AV.sl.injEq,AV.i.injEq,and_true,true_and] at e
 obtain⟨⟨e1,e2,e3,e4⟩,e5,e6⟩:=e
 rcases hne with h | h | h
 ·exact h (by rw [e1,e2,show m=m' by omega])
 ·exact h (by omega)
 ·exact h e6
theorem jZ {t:Tok} (h:PW p w g all Z m d f)(ht:all[m]? =some t):au X 25 [.p p 0 0] Z fun v s=>v= .ag (uw t.k t.s t.l)/\s=Z:=by
 have hm:=h.at_
 have hal:=h.len
 have h1:(newCells 62 [.i .i64 0,.s [],.i .i64 0] Z)[p]? =_:=at_new h.obj _ _
 have h2:(newCells 62 [.i .i64 0,.s [],.i .i64 0] Z)[w]? =_:=at_new h.tok _ _
 refine au.body (F:=F25) ay (lit:=false) rfl rfl (aU rfl) ?_
 conv=>whnf
 refine ak (aj (T:=qC) rfl rfl (ah (h1)) rfl) ?_
 conv=>whnf
 refine⟨0,rfl,by omega,?_⟩
 conv=>whnf
 refine ak (gU (T:=BR) rfl rfl (ah h2) (by rw [nP];show 3*m+0*3+3<=_;omega)) ?_
 rw [show ((eY all).drop (3*m+0*3)).take (BR).size=uw t.k t.s t.l by rw [show 3*m+0*3=m*3 by omega];exact EG all m t ht]
 conv=>whnf
 refine ak (aC (T:=BR) (uw t.k t.s t.l) rfl (aG _ _ _) rfl rfl (aU rfl) rfl) ?_
 conv=>whnf
 refine ak (gU (T:=BR) rfl rfl (ah (at_set (aG _ _ _) _)) (aU rfl)) ?_
 conv=>whnf
 exact Fin.flat rfl (((Ext.refl Z).new _ _).set (Nat.le_refl _) _).take ⟨rfl,rfl⟩
theorem mW (h:PW p w g all Z m d .p0):au X 24 [.p p 0 0] Z fun v s=>v= .b false/\s=Z:=by
 refine au.body (F:=F24) ay (lit:=false) rfl rfl (aU rfl) ?_
 conv=>whnf
 refine ak (aj (T:=Uw) rfl rfl (ah (h.obj)) rfl) ?_
 conv=>whnf
 exact Fin.flat rfl iq ⟨rfl,rfl⟩
theorem jm (h:PW p w g all Z m d f)(hm:m+1<all.length) {Q:AV->St->Prop} (q:∀Z',aN p Z Z'->PW p w g all Z' (m+1) d f->Q (.tu []) Z'):au X 89 [.p p 0 0] Z Q:=by
 have hal:=h.len
 refine au.body (F:=F89) ay (lit:=false) rfl rfl (aU rfl) ?_
 conv=>whnf
 refine ak (aj (T:=qC) rfl rfl (ah (h.obj)) rfl) ?_
 conv=>whnf
 rw [decide_eq_true (by omega)]
 conv=>whnf
 conv=>whnf
 refine ak (aj (T:=qC) rfl rfl (ah (h.obj)) rfl) ?_
 conv=>whnf
 refine⟨1,rfl,by omega,?_⟩
 conv=>whnf
 refine ak (aC (T:=qC) (qm w g all.length (m+1) d f) rfl (h.obj) rfl rfl (aU rfl) rfl) ?_
 conv=>whnf
 have h':=h.put f hm h.dp
 exact h.chg h' (.inl (by simp)) (q _ ((aN.refl p Z).Aq _) h')
theorem PW.ext (h:PW p w g all Z m d f)(x:Ext Z Z'):PW p w g all Z' m d f:=h.keep (x.old _ (bK h.obj)) (x.old _ (bK h.tok))
theorem pW (t:Tok) {Q:St->Prop} (q:∀Z1,Ext Z Z1->Z1[Z.length]? =some ⟨0,false,.cells 62 (uw t.k t.s t.l)⟩->Z1.length=Z.length+1->Q Z1) :
 om (aStore (KL.get 62) (.p Z.length 0 0) (.ag (uw t.k t.s t.l)) (newCells 62 BR.zero.cells Z)) Q:=by
 refine ak (aC (T:=BR) (uw t.k t.s t.l) rfl (aG _ _ _) rfl rfl (aU rfl) rfl) ?_
 refine q _ (((Ext.refl Z).new _ _).set (Nat.le_refl _) _) (at_set (aG _ _ _) _) ?_
 rw [gK,aH]
def FQ (ws:List (List UInt8))(t:Tok):Bool:=(t.k == 4 || t.k == 3) && ws.contains t.s
theorem jU (s:List UInt8)(t:Tok):FQ [s] t=iK s t:=by
 unfold FQ iK
 rw [show [s].contains t.s=(t.s == s) by show List.elem t.s [s]=_;unfold List.elem;cases (t.s == s) <;> rfl]
theorem BX {t:Tok} (ws:List (List UInt8))(h:PW p w g all Z m d .p0)(ht:all[m]? =some t)(o og:Nat)(ho:cellsAt Z o og=some (ws.map .s))(hl:ws.length<=100):au X 92 [.p p 0 0,.sl o og 0 ws.length 1] Z fun v s=>v= .b (FQ ws t)/\s=Z:=by
 refine au.body (F:=F92) ay (lit:=false) rfl rfl (aU rfl) ?_
 conv=>whnf
 refine au.to (jZ h ht) ?_
 conv=>whnf
 refine pW t fun Z1 x1 ht1 hl1=>?_
 conv=>whnf
 have h1:=h.ext x1
 refine au.to (mW h1) ?_
 conv=>whnf
 refine ak (aj (T:=fF) rfl rfl (ah (ht1)) rfl) ?_
 conv=>whnf
 have hcs:cellsAt Z1 o og=some (ws.map .s):=by
  have hol:o<Z.length:=by
   unfold cellsAt at ho
   rcases Nat.lt_or_ge o Z.length with h | h
   ·exact h
   ·rw [List.getElem?_eq_none h] at ho;cases ho
  unfold cellsAt at ho ⊢
  rw [x1.old o hol];exact ho
 by_cases h4:t.k=4
 ·rw [decide_eq_true (by omega)]
  conv=>whnf
  conv=>whnf
  refine ak (aj (T:=fB) rfl rfl (ah (ht1)) rfl) ?_
  conv=>whnf
  refine au.to (CO t.s o og ws Z1 hcs hl) ?_
  cases hc:ws.contains t.s <;> (conv=>whnf)
  ·exact Fin.flat rfl x1.take ⟨by unfold FQ;rw [hc,Bool.and_false],rfl⟩
  ·exact Fin.flat rfl x1.take ⟨by unfold FQ;rw [hc,h4];rfl,rfl⟩
 ·rw [decide_eq_false (by omega)]
  conv=>whnf
  conv=>whnf
  refine ak (aj (T:=fF) rfl rfl (ah (ht1)) rfl) ?_
  conv=>whnf
  by_cases h5:t.k=3
  ·rw [decide_eq_true (by omega)]
   conv=>whnf
   conv=>whnf
   refine ak (aj (T:=fB) rfl rfl (ah (ht1)) rfl) ?_
   conv=>whnf
   refine au.to (CO t.s o og ws Z1 hcs hl) ?_
   cases hc:ws.contains t.s <;> (conv=>whnf)
   ·exact Fin.flat rfl x1.take ⟨by unfold FQ;rw [hc,Bool.and_false],rfl⟩
   ·exact Fin.flat rfl x1.take ⟨by unfold FQ;rw [hc,h5];rfl,rfl⟩
  ·rw [decide_eq_false (by omega)]
   conv=>whnf
   conv=>whnf
   exact Fin.flat rfl x1.take ⟨by simp [FQ,h4,h5],rfl⟩
theorem oI {t:Tok} (s:List UInt8)(h:PW p w g all Z m d .p0)(ht:all[m]? =some t)(hn:iK s t=true->m+1<all.length) {Q:AV->St->Prop}
 (q1:iK s t=true->∀Z',aN p Z Z'->PW p w g all Z' (m+1) d .p0->Q (.b true) Z') (q0:iK s t=false->Q (.b false) Z):au X 59 [.p p 0 0,.s s] Z Q:=by
 have hpl:=bK h.obj
 refine au.body (F:=F59) ay (lit:=false) rfl rfl (aU rfl) ?_
 conv=>whnf
 have h1:=h.new 9 [.s s]
 refine au.to (BX [s] h1 ht Z.length 0 (mO _ _ _) (aU rfl)) ?_
 conv=>whnf
 rw [jU]
 cases hi:iK s t with
 | false=>
   conv=>whnf
   exact Fin.flat rfl ((Ext.refl Z).new _ _).take (q0 hi)
 | true=>
   conv=>whnf
   refine jm h1 (hn hi) fun Z2 x2 h2=>?_
   conv=>whnf
   exact h.chg h2 (.inl (by simp)) (q1 hi _ (((aN.refl p Z).new _ _).trans x2) h2)
theorem j_ {t:Tok} (s:List UInt8)(h:PW p w g all Z m d .p0)(ht:all[m]? =some t)(hn:iK s t=true->m+1<all.length) {Q:AV->St->Prop}
 (q1:iK s t=true->∀Z',aN p Z Z'->PW p w g all Z' (m+1) d .p0->Q (.tu []) Z') (q0:iK s t=false->False):au X 55 [.p p 0 0,.s s] Z Q:=by
 refine au.body (F:=F55) ay (lit:=false) rfl rfl (aU rfl) ?_
 conv=>whnf
 refine oI s h ht hn (fun hi Z2 x2 h2=>?_) (fun hi=>(q0 hi).elim)
 conv=>whnf
 exact h.chg h2 (.inl (by simp)) (q1 hi _ x2 h2)
theorem Jb {t:Tok} (h:PW p w g all Z m d .p0)(ht:all[m]? =some t)(hn:t.k=1->m+1<all.length) {Q:AV->St->Prop}
 (q1:t.k=1->∀Z',aN p Z Z'->PW p w g all Z' (m+1) d .p0->Q (.s t.s) Z') (q0:t.k≠1->False):au X 56 [.p p 0 0] Z Q:=by
 have hpl:=bK h.obj
 refine au.body (F:=F56) ay (lit:=false) rfl rfl (aU rfl) ?_
 conv=>whnf
 refine au.to (jZ h ht) ?_
 conv=>whnf
 refine pW t fun Z1 x1 ht1 hl1=>?_
 have h1:=h.ext x1
 conv=>whnf
 refine au.to (mW h1) ?_
 conv=>whnf
 refine ak (aj (T:=fF) rfl rfl (ah (ht1)) rfl) ?_
 conv=>whnf
 by_cases hk:t.k=1
 ·rw [decide_eq_true (by omega)]
  conv=>whnf
  conv=>whnf
  refine jm h1 (hn hk) fun Z2 x2 h2=>?_
  conv=>whnf
  refine ak (aj (T:=fB) rfl rfl (ah (x2.get (by omega) ht1)) rfl) ?_
  conv=>whnf
  exact h.chg h2 (.inl (by simp)) (q1 hk _ ((aN.of x1).trans x2) h2)
 ·exact(q0 hk).elim
end
end Go.Abs.YtlkfbfhkcaldlaaGreatDoor
namespace Go.Abs.YtlkfbfhkcaldlaaGreatDoor
open Go.Proofs
set_option maxRecDepth 4000
def Hf (k:List UInt8):List (AV×AV)->Bool
 | []=>true
 | e :: es=>(match e.1 with | .s x=>!(k == x) | _=>false) && Hf k es
theorem Hg {P:Program} {t:Nat} {K:AT} (hK:tyOf P t=some K)(hd:K.d= .str)(k:List UInt8):∀(es:List (AV×AV)) (i:Nat),Hf k es=true->pJ P t (.s k) es i=some none
 | [],_,_=>rfl
 | (.s x,v) :: es,i,h=>by
   simp only [Hf,fJ,Bool.not_eq_true'] at h
   have e1:aEq P 20 t (.s k) (.s x)=some (k == x):=by unfold aEq;rw [hK];simp only [hd]
   simp only [pJ,e1,h.1]
   exact Hg hK hd k es _ h.2
def EI (k:List UInt8):List (List UInt8×Nat)->Nat
 | []=>0
 | e :: es=>if k=e.1 then e.2 else EI k es
def entS (l:List (List UInt8×Nat)):List (AV×AV):=l.map fun e=>(.s e.1,.i .i64 e.2)
theorem LH {P:Program} {t:Nat} {K:AT} (hK:tyOf P t=some K)(hd:K.d= .str)(k:List UInt8):∀(l:List (List UInt8×Nat)) (i:Nat),(pJ P t (.s k) (entS l) i).map (fun r=>match r with | some (_,e)=>e.2 | none=>.i .i64 0)=some (.i .i64 (EI k l))
 | [],_=>rfl
 | e :: l,i=>by
   have e1:aEq P 20 t (.s k) (.s e.1)=some (k == e.1):=by unfold aEq;rw [hK];simp only [hd]
   show (pJ P t (.s k) ((AV.s e.1,AV.i .i64 e.2) :: entS l) i).map _=_
   simp only [pJ,e1,EI]
   by_cases h:k=e.1
   ·rw [if_pos h,show (k == e.1)=true by simp [h]];rfl
   ·rw [if_neg h,show (k == e.1)=false by simp [h]]
    exact LH hK hd k l _
theorem mup_new {P:Program} {t kt et o:Nat} {s1 s2 z c h1 h2} {Z:St} {es:List (AV×AV)} {k:List UInt8} {v:AV} {K:AT} (hT:tyOf P t=some ⟨.map kt et,s1,s2,z,c,h1,h2⟩)(hK:tyOf P kt=some K)(hd:K.d= .str)(ho:Z[o]? =some ⟨0,false,.maps es⟩)(hn:Hf k es=true) :
 JL P t (.mp o 0) (.s k) v Z=some (Z.set o ⟨0,false,.maps (es ++ [(.s k,v)])⟩):=by
 unfold JL
 rw [hT]
 simp only [ho]
 rw [if_pos ⟨trivial,by unfold wK;rw [hK];simp only [hd,nN,Bool.true_or]⟩,Hg hK hd k es 0 hn]
def Jd:List (List UInt8×Nat):=[([124,124],1),([38,38],2),([61,61],3),([33,61],3),([60],4),([60,61],4),([62],4),([62,61],4),([43],5),([45],5),([124],5),([94],5),([42],6),([47],6),([37],6),([38],6),([60,60],6),([62,62],6)]
theorem LJ (s:List UInt8):EI s Jd=aF s:=by
 by_cases h0:s=[124,124]
 ·subst h0;rfl
 by_cases h1:s=[38,38]
 ·subst h1;rfl
 by_cases h2:s=[61,61]
 ·subst h2;rfl
 by_cases h3:s=[33,61]
 ·subst h3;rfl
 by_cases h4:s=[60]
 ·subst h4;rfl
 by_cases h5:s=[60,61]
 ·subst h5;rfl
 by_cases h6:s=[62]
 ·subst h6;rfl
 by_cases h7:s=[62,61]
 ·subst h7;rfl
 by_cases h8:s=[43]
 ·subst h8;rfl
 by_cases h9:s=[45]
 ·subst h9;rfl
 by_cases h10:s=[124]
 ·subst h10;rfl
 by_cases h11:s=[94]
 ·subst h11;rfl
 by_cases h12:s=[42]
 ·subst h12;rfl
 by_cases h13:s=[47]
 ·subst h13;rfl
 by_cases h14:s=[37]
 ·subst h14;rfl
 by_cases h15:s=[38]
 ·subst h15;rfl
 by_cases h16:s=[60,60]
 ·subst h16;rfl
 by_cases h17:s=[62,62]
 ·subst h17;rfl
 simp only [Jd,EI,aF,h0,h1,h2,h3,h4,h5,h6,h7,h8,h9,h10,h11,h12,h13,h14,h15,h16,h17,if_false,or_self]
theorem LK {t:Nat} {T:AT} (h:KL.get t=some T):tyOf X.P t=some T:=ay _ _ h
theorem mup_b {Z:St} {o:Nat} {es:List (AV×AV)} {k:List UInt8} {v:AV} (ho:Z[o]? =some ⟨0,false,.maps es⟩)(hn:Hf k es=true):JL X.P 197 (.mp o 0) (.s k) v Z=some (Z.set o ⟨0,false,.maps (es ++ [(.s k,v)])⟩):=
 mup_new (LK rfl) (LK rfl) rfl ho hn
theorem lku_b {Z:St} {o:Nat} {es:List (AV×AV)} (ho:Z[o]? =some ⟨0,false,.maps es⟩)(s:List UInt8)(l:List (List UInt8×Nat))(he:es=entS l):Nr X.P 197 (.mp o 0) (.s s) false Z=some (.i .i64 (EI s l)):=by
 subst he
 have hT:tyOf X.P 197=some Ux:=LK rfl
 have hK:tyOf X.P 9=some fB:=LK rfl
 have hE:tyOf X.P 3=some fF:=LK rfl
 have h1:=LH hK rfl s l 0
 unfold Nr
 rw [hT]
 simp only [Ux,Dc,ho,if_true,hE]
 rw [if_pos (by unfold wK;rw [hK];rfl),<-h1]
 rfl
theorem mp_set {Z:St} {o:Nat} {es:List (AV×AV)} (h:Z[o]? =some ⟨0,false,.maps es⟩)(es':List (AV×AV)):(Z.set o ⟨0,false,.maps es'⟩)[o]? =some ⟨0,false,.maps es'⟩:=at_set h _
set_option maxHeartbeats 4000000 in
theorem Qe (s:List UInt8)(Z:St):au X 142 [.s s] Z fun v s'=>v= .i .i64 (aF s)/\s'= Z:=by
 refine au.body (F:=F142) ay (lit:=false) rfl rfl (aU rfl) ?_
 conv=>whnf
 have h1:(Z ++ [⟨0,false,.maps []⟩])[Z.length]? =some (⟨0,false,.maps []⟩:AO):=by simp
 have x1:Ext Z (Z ++ [⟨0,false,.maps []⟩]):=⟨by simp,fun i hi=>by rw [List.getElem?_append_left hi]⟩
 generalize Z ++ [⟨0,false,.maps []⟩]=Z1 at h1 x1
 have step:∀(es:List (AV×AV)) (Z1:St) (k:List UInt8) (v:AV) (Q:St->Prop),Z1[Z.length]? =some ⟨0,false,.maps es⟩->Ext Z Z1->Hf k es=true->(∀Z2,Z2[Z.length]? =some ⟨0,false,.maps (es ++ [(.s k,v)])⟩->Ext Z Z2->Q Z2)->om (JL X.P 197 (.mp Z.length 0) (.s k) v Z1) Q:=
  fun es Z1 k v Q h1 x1 hn q=>ak (mup_b h1 hn) (q _ (mp_set h1 _) (x1.set (Nat.le_refl _) _))
 refine step _ _ _ _ _ h1 x1 rfl fun Z2 h2 x2=>?_
 conv=>whnf
 refine step _ _ _ _ _ h2 x2 rfl fun Z3 h3 x3=>?_
 conv=>whnf
 refine step _ _ _ _ _ h3 x3 rfl fun Z4 h4 x4=>?_
 conv=>whnf
 refine step _ _ _ _ _ h4 x4 rfl fun Z5 h5 x5=>?_
 conv=>whnf
 refine step _ _ _ _ _ h5 x5 rfl fun Z6 h6 x6=>?_
 conv=>whnf
 refine step _ _ _ _ _ h6 x6 rfl fun Z7 h7 x7=>?_
 conv=>whnf
 refine step _ _ _ _ _ h7 x7 rfl fun Z8 h8 x8=>?_
 conv=>whnf
 refine step _ _ _ _ _ h8 x8 rfl fun Z9 h9 x9=>?_
 conv=>whnf
 refine step _ _ _ _ _ h9 x9 rfl fun Z10 h10 x10=>?_
 conv=>whnf
 refine step _ _ _ _ _ h10 x10 rfl fun Z11 h11 x11=>?_
 conv=>whnf
 refine step _ _ _ _ _ h11 x11 rfl fun Z12 h12 x12=>?_
 conv=>whnf
 refine step _ _ _ _ _ h12 x12 rfl fun Z13 h13 x13=>?_
 conv=>whnf
 refine step _ _ _ _ _ h13 x13 rfl fun Z14 h14 x14=>?_
 conv=>whnf
 refine step _ _ _ _ _ h14 x14 rfl fun Z15 h15 x15=>?_
 conv=>whnf
 refine step _ _ _ _ _ h15 x15 rfl fun Z16 h16 x16=>?_
 conv=>whnf
 refine step _ _ _ _ _ h16 x16 rfl fun Z17 h17 x17=>?_
 conv=>whnf
 refine step _ _ _ _ _ h17 x17 rfl fun Z18 h18 x18=>?_
 conv=>whnf
 refine step _ _ _ _ _ h18 x18 rfl fun Z19 h19 x19=>?_
 conv=>whnf
 have hl:Nr X.P 197 (.mp Z.length 0) (.s s) false Z19=some (.i .i64 (EI s Jd)):=lku_b h19 s Jd rfl
 refine ak hl ?_
 rw [LJ]
 conv=>whnf
 exact Fin.flat rfl x19.take ⟨rfl,rfl⟩
theorem Hl:∀(l:List UInt8) (v:Nat),(∀c∈l,48<=c.toNat/\c.toNat<=57)->lD v l<4294967296->Lib.parseUintM 4294967295 v l= .ok (lD v l)
 | [],_,_,_=>rfl
 | c :: r,v,hd,hv=>by
   have h1:=hd c (List.mem_cons_self ..)
   have h2:10*v+(c.toNat - 48)<=lD (10*v+(c.toNat - 48)) r:=Qd r _
   have hv':lD (10*v+(c.toNat - 48)) r<4294967296:=hv
   unfold Lib.parseUintM
   rw [if_pos h1,if_neg (by omega),if_neg (by omega),show v*10=10*v from Nat.mul_comm _ _]
   exact Hl r _ (fun c hc=>hd c (List.mem_cons_of_mem _ hc)) hv'
theorem num_p (s:List UInt8)(hd:∀c∈s,48<=c.toNat/\c.toNat<=57)(hn:s≠[])(hv:lD 0 s<4294967296)(hl:s.length<=100000)(Z:St):au X 53 [.s s,.i .i64 10,.i .i64 32] Z fun v s'=>v= .tu [.i .u64 (lD 0 s),.ic0]/\s'= Z:=by
 refine au.of ?_
 rw [kR (g:=jX) rfl]
 have hp:Lib.parseUintB 32 s= .ok (lD 0 s):=by unfold Lib.parseUintB;rw [if_neg hn];exact Hl s 0 hd hv
 unfold jX
 simp only
 rw [if_pos (by omega),hp]
 exact⟨_,rfl,rfl,rfl⟩
end Go.Abs.YtlkfbfhkcaldlaaGreatDoor
namespace Go.Abs.YtlkfbfhkcaldlaaGreatDoor
open Go.Proofs
set_option maxRecDepth 4000
mutual
theorem fq_of:∀(v:AV) (Q:AV->Prop),Q v->fq v Q:=by
 intro v Q h
 match v with
 | .u | .b _ | .i _ _ | .s _ | .p0 | .p _ _ _ | .sl0 | .sl _ _ _ _ _ | .fn _ _ _ | .fn0 | .ic _ _ | .ic0 | .mp0 | .mp _ _ | .cd _ _=>simpa only [fq] using h
 | .ag cs=>simp only [fq];exact dV cs _ h
 | .tu cs=>simp only [fq];exact dV cs _ h
theorem dV:∀(l:List AV) (Q:List AV->Prop),Q l->II l Q:=by
 intro l Q h
 match l with
 | []=>simpa only [II] using h
 | v :: l=>simp only [II];exact fq_of v _ (dV l _ h)
end
def QI (p m d:Nat)(Q:AV->St->Prop):AV->St->Prop:=fun v Z2=>v= .tu []/\∃w2 g2 all2 m2 f,PW p w2 g2 all2 Z2 m2 (d+1) f/\(m<m2\/f≠.p0)/\∀Z3,aN p Z2 Z3->PW p w2 g2 all2 Z3 m2 d f->Q (.tu []) Z3
section
variable {p w g m d:Nat} {all:List Tok} {Z Z':St} {f:AV}
theorem PW.ne_of (h:PW p w g all Z m d .p0) {w2 g2 m2 d2:Nat} {all2:List Tok} {f:AV} {Z3:St} (h3:PW p w2 g2 all2 Z3 m2 d2 f)(hne:m<m2\/f≠.p0) {v:AV} {Q:AV->St->Prop} (q:Q v Z3):Fin Z v Z3 Q:=by
 rcases hne with hne | hne
 ·exact h.chg h3 (.inl (by simp only [ne_eq,Prod.mk.injEq];omega)) q
 ·exact h.chg h3 (.inr (.inr (fun e=>hne e.symm))) q
theorem RF {t:Tok} {k:Nat} {caps:List AV} (wd:List UInt8)(h:PW p w g all Z m d .p0)(ht:all[m]? =some t)(hd:d<=64)(hn:iK wd t=true->m+1<all.length) {Q:AV->St->Prop}
 (q1:iK wd t=true->d<64->∀Z1,aN p Z Z1->PW p w g all Z1 (m+1) (d+1) .p0->au X k caps Z1 (QI p m d Q))
 (q2:iK wd t=true->64<=d->False) (q0:iK wd t=false->False) :
 au X 90 [.p p 0 0,.s wd,.fn (.func k) [] caps] Z Q:=by
 have hm:=h.at_
 have hal:=h.len
 have h1:=h.new 9 [.s wd]
 have x1:aN p Z (newCells 9 [.s wd] Z):=(aN.refl p Z).new _ _
 refine au.body (F:=F90) ay (lit:=false) rfl rfl (aU rfl) ?_
 conv=>whnf
 refine au.to (BX [wd] h1 ht Z.length 0 (mO _ _ _) (aU rfl)) ?_
 conv=>whnf
 rw [jU]
 cases hi:iK wd t with
 | false=>exact(q0 hi).elim
 | true=>
   conv=>whnf
   refine ak (aj (T:=fF) rfl rfl (ah (h1.obj)) rfl) ?_
   conv=>whnf
   by_cases h64:64<=d
   ·exact(q2 hi h64).elim
   ·rw [decide_eq_false (by omega)]
    conv=>whnf
    conv=>whnf
    refine j_ wd h1 ht hn (fun _ Z2 x2 k1=>?_) (fun e=>by rw [hi] at e;cases e)
    conv=>whnf
    refine ak (aj (T:=fF) rfl rfl (ah (k1.obj)) rfl) ?_
    conv=>whnf
    refine⟨((d+1:Nat):Int),by rw [wrap_i64 (by omega) (by omega)];omega,?_⟩
    conv=>whnf
    refine ak (aC (T:=fF) (qm w g all.length (m+1) (d+1) .p0) rfl (k1.obj) rfl rfl (aU rfl) rfl) ?_
    conv=>whnf
    have k4:=k1.put (m':=m+1) (d':=d+1) .p0 k1.at_ (by omega)
    refine dV _ _ ?_
    refine au.mono (q1 hi (by omega) _ ((x1.trans x2).trans ((aN.refl p Z2).Aq _)) k4) fun v s q=>?_
    obtain⟨rfl,w2,g2,all2,m2,f2,j1,j2,j3⟩:=q
    have jd:=j1.dp
    conv=>whnf
    refine ak (aj (T:=fF) rfl rfl (ah (j1.obj)) rfl) ?_
    conv=>whnf
    refine⟨((d:Nat):Int),by rw [wrap_i64 (by omega) (by omega)];omega,?_⟩
    conv=>whnf
    refine ak (aC (T:=fF) (qm w2 g2 all2.length m2 d f2) rfl (j1.obj) rfl rfl (aU rfl) rfl) ?_
    conv=>whnf
    have j4:=j1.put (m':=m2) (d':=d) f2 j1.at_ (by omega)
    exact h.ne_of j4 j2 (j3 _ ((aN.refl p s).Aq _) j4)
theorem lZ {Z Z':St} {v:AV} {Q:AV->St->Prop} (q:Q v Z')(q':Z'.take Z.length=Z->Q v Z):Fin Z v Z' Q:=by
 by_cases h:Z'.take Z.length=Z
 ·constructor
  unfold norm
  split
  ·exact q' h
  ·exact q
 ·exact Fin.ne h q
end
end Go.Abs.YtlkfbfhkcaldlaaGreatDoor
namespace Go.Abs.YtlkfbfhkcaldlaaGreatDoor
open Go.Proofs
set_option maxRecDepth 4000
def wH (p w g:Nat)(all:List Tok)(Z:St)(d:Nat)(Q:AV->St->Prop):Re Tr->Prop
 | .ok t ts=>∀o g' Z' m',aN p Z Z'->PW p w g all Z' m' d .p0->all.drop m'= ts->bP (fun i=>Z.length<=i) Z' (.p o g' 0) t->Q (.p o g' 0) Z'
 | .bad _ _=>False
 | .out=>True
theorem wH.to {p w g d:Nat} {all:List Tok} {Z Z1:St} {Q Q':AV->St->Prop} {r:Re Tr} (hQ:wH p w g all Z d Q r)(x1:aN p Z Z1)(k:∀o g' s,Q (.p o g' 0) s->Q' (.p o g' 0) s):wH p w g all Z1 d Q' r:=by
 cases r with
 | out=>trivial
 | bad c l=>exact hQ
 | ok x ts=>exact fun o g' Z2 m2 x2 h2 hm hex=>k _ _ _ (hQ o g' Z2 m2 (x1.trans x2) h2 hm (bP.mono (fun i hi=>Nat.le_trans x1.len hi) (fun i hi a ha=>ha) hex))
def Vx (k j:Nat)(p w g:Nat)(all:List Tok)(B:Nat)(Z:St)(d:Nat)(Q:Out->Env->St->Prop):Re Tr->Prop
 | .ok t ts=>∀o g' Z' m' e',get e' k= .p o g' 0->get e' 1000000= .u->aN p Z Z'->PW p w g all Z' m' d .p0->all.drop m'= ts->bP (fun i=>B<=i) Z' (.p o g' 0) t->Q (.exit 0) e' Z'
 | .bad _ _=>False
 | .out=>True
structure WP (p w g:Nat)(all:List Tok)(n:Nat):Prop where
 expr:∀(d c:Nat) (Z:St) (m:Nat) (Q:AV->St->Prop),PW p w g all Z m d .p0->d<=64->c<=8->aZ (all.drop m)->10*(all.drop m).length+9<=n->wH p w g all Z d Q (dn n d c (all.drop m))->au X 122 [.p p 0 0,.i .i64 c] Z Q
 un:∀(d:Nat) (Z:St) (m:Nat) (Q:AV->St->Prop),PW p w g all Z m d .p0->d<=64->aZ (all.drop m)->10*(all.drop m).length+8<=n->wH p w g all Z d Q (xP n d (all.drop m))->au X 141 [.p p 0 0] Z Q
 post:∀(d:Nat) (Z:St) (m:Nat) (Q:AV->St->Prop),PW p w g all Z m d .p0->d<=64->aZ (all.drop m)->10*(all.drop m).length+7<=n->wH p w g all Z d Q (gW n d (all.drop m))->au X 124 [.p p 0 0] Z Q
 with_:∀(d:Nat) (a b:List UInt8) (Z:St) (m:Nat) (Q:AV->St->Prop),PW p w g all Z m d .p0->d<=64->aZ (all.drop m)->10*(all.drop m).length+5<=n->wH p w g all Z d Q (gI n d a b (all.drop m))->au X 144 [.p p 0 0,.s a,.s b] Z Q
 cell:∀(d:Nat) (Z:St) (m:Nat) (Q:AV->St->Prop),PW p w g all Z m d .p0->d<=64->aZ (all.drop m)->10*(all.drop m).length+6<=n->wH p w g all Z d Q (h_ n d (all.drop m))->au X 145 [.p p 0 0] Z Q
 first:∀(d:Nat) (Z:St) (m:Nat) (Q:AV->St->Prop),PW p w g all Z m d .p0->d<=64->aZ (all.drop m)->10*(all.drop m).length+6<=n->wH p w g all Z d Q (dI n d (all.drop m))->au X 143 [.p p 0 0] Z Q
 uz:∀(d B:Nat) (x:Tr) (Z:St) (m o g':Nat) (Q:Out->Env->St->Prop),PW p w g all Z m d .p0->d<=64->p<B->B<=Z.length->I8 x->bP (fun i=>B<=i) Z (.p o g' 0) x->aZ (all.drop m)->10*(all.drop m).length+9<=n->Vx 3 3 p w g all B Z d Q (dP n d x (all.drop m))->aV X [0,3] Iz [(0,.p p 0 0),(3,.p o g' 0)] Z Q
 loop:∀(d c B:Nat) (x:Tr) (Z:St) (m o g':Nat) (Q:Out->Env->St->Prop),PW p w g all Z m d .p0->d<=64->c<=8->p<B->B<=Z.length->I8 x->bP (fun i=>B<=i) Z (.p o g' 0) x->aZ (all.drop m)->10*(all.drop m).length+9<=n->Vx 5 5 p w g all B Z d Q (fZ n d c x (all.drop m))->aV X [0,1,5] Iy [(0,.p p 0 0),(1,.i .i64 c),(5,.p o g' 0)] Z Q
theorem yX {Z:St} {o:Nat} {a:AO} (h:Z[o]? =some a):Z.set o a=Z:=by
 obtain⟨hl,he⟩:=List.getElem?_eq_some_iff.1 h
 rw [<-he];exact List.set_getElem_self hl
theorem FP.toP {p B:Nat} {Z Z':St} (h:FP p B Z Z')(hB:B=Z.length):aN p Z Z':=⟨h.len,fun i hi hp=>h.old i (by omega) hp⟩
theorem FP.at_ {p B i:Nat} {Z Z':St} {a:AO} (h:FP p B Z Z')(hi:i<B)(hp:i≠p)(ha:Z[i]? =some a):Z'[i]? =some a:=(h.old i hi hp).trans ha
structure bV (p x:Nat)(Z Z':St):Prop where
 len:Z.length<=Z'.length
 old:∀i,i<Z.length->i≠p->i≠x->Z'[i]? =Z[i]?
theorem bV.of {p x:Nat} {a b:St} (h:aN p a b):bV p x a b:=⟨h.len,fun i hi hp _=>h.old i hi hp⟩
theorem bV.trans {p x:Nat} {a b c:St} (h:bV p x a b)(k:bV p x b c):bV p x a c:=⟨Nat.le_trans h.len k.len,fun i hi hp hx=>by rw [k.old i (Nat.lt_of_lt_of_le hi h.len) hp hx,h.old i hi hp hx]⟩
theorem bV.bT (p x:Nat)(a:St)(o:AO):bV p x a (a.set x o):=⟨by rw [gK];exact Nat.le_refl _,fun i _ _ hx=>by rw [rZ (fun e=>hx e.symm)]⟩
theorem bV.get {p x:Nat} {Z Z':St} (h:bV p x Z Z') {o:Nat} {a:AO} (hp:o≠p)(hx:o≠x)(ho:Z[o]? =some a):Z'[o]? =some a:=by rw [h.old o (bK ho) hp hx];exact ho
theorem aN.bJ {p x:Nat} {Z a b:St} (h:aN p Z a)(k:bV p x a b)(hx:Z.length<=x):aN p Z b:=⟨Nat.le_trans h.len k.len,fun i hi hp=>by rw [k.old i (Nat.lt_of_lt_of_le hi h.len) hp (by omega),h.old i hi hp]⟩
section
variable {p w g:Nat} {all:List Tok} {n:Nat}
theorem Vy (ih:WP p w g all n)(d:Nat)(a b:List UInt8)(Z:St)(m:Nat)(Q:AV->St->Prop)(h:PW p w g all Z m d .p0)(hd:d<=64)(he:aZ (all.drop m))(hn:10*(all.drop m).length+5<=n+1)(hQ:wH p w g all Z d Q (gI (n+1) d a b (all.drop m))):au X 144 [.p p 0 0,.s a,.s b] Z Q:=by
 obtain⟨t,r,hts⟩:=he.ne
 obtain⟨ht,hr⟩:=b_ hts
 have hpl:=bK h.obj
 have hdp:=h.dp
 unfold gI gV at hQ
 rw [hts] at hQ
 refine au.body (F:=F144) ay (lit:=false) rfl rfl (aU rfl) ?_
 conv=>whnf
 have b1:(newCells 85 (AV.p p 0 0).cells Z)[Z.length]? =some ⟨0,false,.cells 85 [.p p 0 0]⟩:=aG _ _ _
 have x1:Ext Z (newCells 85 (AV.p p 0 0).cells Z):=(Ext.refl Z).new _ _
 have l1:(newCells 85 (AV.p p 0 0).cells Z).length=Z.length+1:=aH _ _ _
 generalize newCells 85 (AV.p p 0 0).cells Z=Z1 at b1 x1 l1 ⊢
 have b2:(newCells 9 (AV.s b).cells Z1)[Z1.length]? =some ⟨0,false,.cells 9 [.s b]⟩:=aG _ _ _
 have x2:Ext Z1 (newCells 9 (AV.s b).cells Z1):=(Ext.refl Z1).new _ _
 have l2:(newCells 9 (AV.s b).cells Z1).length=Z1.length+1:=aH _ _ _
 generalize newCells 9 (AV.s b).cells Z1=Z2 at b2 x2 l2 ⊢
 have b3:(newCells 44 aW.zero.cells Z2)[Z2.length]? =some ⟨0,false,.cells 44 [.p0]⟩:=aG _ _ _
 have x3:Ext Z2 (newCells 44 aW.zero.cells Z2):=(Ext.refl Z2).new _ _
 have l3:(newCells 44 aW.zero.cells Z2).length=Z2.length+1:=aH _ _ _
 generalize newCells 44 aW.zero.cells Z2=Z3 at b3 x3 l3 ⊢
 have xx:Ext Z Z3:=(x1.trans x2).trans x3
 have h3:=h.ext xx
 have b1':=x3.get (x2.get b1)
 have b2':=x3.get b2
 refine ak (aj (T:=bf) rfl rfl (ah (b1')) rfl) ?_
 conv=>whnf
 refine au.mono (Q:=fun v s=>v= .tu []/\∃o g',s[Z2.length]? =some ⟨0,false,.cells 44 [.p o g' 0]⟩/\Q (.p o g' 0) s) ?_ fun v s q=>?_
 ·refine RF a h3 ht hd (fun hi=>(aX he hts hi).1) (fun hi h64 s1 y1 k1=>?_) (fun hi h64=>?_) (fun hi=>?_)
  ·obtain⟨hm1,he1,hle⟩:=aX he hts hi
   rw [if_neg (by omega),aQ,if_pos (show aY a (t :: r)=true from hi)] at hQ
   have hQ:wH p w g all Z d Q ((dn n (d+1) 1 r).bind fun x ts=>(aQ b ts).bind fun _ ts=>.ok x ts):=hQ
   have hg:=(uD n).expr (d+1) 1 (all.drop (m+1)) he1 (by omega)
   have c1:=y1.get (by omega) b1'
   have c2:=y1.get (by omega) b2'
   have c3:=y1.get (by omega) b3
   refine au.body (F:=Yv) ay (lit:=false) rfl rfl (aU rfl) ?_
   conv=>whnf
   refine ak (aj (T:=bf) rfl rfl (ah (c1)) rfl) ?_
   conv=>whnf
   refine ih.expr (d+1) 1 s1 (m+1) _ k1 (by omega) (by omega) he1 (by omega) ?_
   rw [hr] at hg ⊢
   generalize dn n (d+1) 1 r=r1 at hg hQ
   cases r1 with
   | out=>exact hg.elim
   | bad c l=>exact False.elim hQ
   | ok x bI=>
     intro o g' s2 m2 y2 k2 hm2 hex
     have he2:aZ (all.drop m2):=by rw [hm2];exact hg.2.1
     obtain⟨t2,r2,jE⟩:=he2.ne
     obtain⟨ht2,hr2⟩:=b_ jE
     have hQ:wH p w g all Z d Q ((aQ b bI).bind fun _ ts=>.ok x ts):=hQ
     have hlt:m+1<m2:=by
      have:=hg.2.2
      rw [<-hm2,<-hr,pF,pF] at this
      omega
     rw [<-hm2,jE] at hQ
     have e3:=y2.get (by omega) c3
     conv=>whnf
     refine ak (aC (T:=aW) ([.p o g' 0]) rfl (e3) rfl rfl (aU rfl) rfl) ?_
     conv=>whnf
     have k3:=k2.bT e3 (by decide) (by decide) ⟨0,false,.cells 44 [.p o g' 0]⟩
     refine ak (aj (T:=bf) rfl rfl (ah (aK (y2.get (by omega) c1) (by omega) _)) rfl) ?_
     conv=>whnf
     refine ak (aj (T:=fB) rfl rfl (ah (aK (y2.get (by omega) c2) (by omega) _)) rfl) ?_
     conv=>whnf
     have e4:(s2.set Z2.length ⟨0,false,.cells 44 [.p o g' 0]⟩)[Z2.length]? =_:=at_set e3 _
     have fr:bV p Z2.length s1 (s2.set Z2.length ⟨0,false,.cells 44 [.p o g' 0]⟩):=(bV.of y2).trans (bV.bT _ _ _ _)
     refine j_ b k3 ht2 (fun hi=>(aX he2 jE hi).1) (fun hi2 s5 y5 k5=>?_) (fun hi2=>?_)
     ·rw [aQ,if_pos (show aY b (t2 :: r2)=true from hi2)] at hQ
      conv=>whnf
      refine k1.ne_of k5 (.inl (by omega)) ⟨rfl,w,g,all,m2+1,_,k5,.inl (by omega),fun s3 y3 j4=>⟨rfl,o,g',y3.get (by omega) (y5.get (by omega) e4),hQ _ _ _ _ (((((aN.of xx).trans y1).bJ fr (by omega)).trans y5).trans y3) j4 hr2 ?_⟩⟩
      have l1':=y1.len
      exact bP.mono (fun i hi=>by omega) (fun i hi a ha=>y3.get (by omega) (y5.get (by omega) (aK ha (by omega) _))) hex
     ·rw [aQ,if_neg (show ¬aY b (t2 :: r2)=true by rw [show aY b (t2 :: r2)=iK b t2 from rfl,hi2];decide)] at hQ
      exact hQ
  ·rw [if_pos ⟨show aY a (t :: r)=true from hi,h64⟩] at hQ
   exact hQ
  ·have hiw:¬aY a (t :: r)=true:=by rw [show aY a (t :: r)=iK a t from rfl,hi];decide
   rw [if_neg (fun e=>hiw e.1),aQ,if_neg hiw] at hQ
   exact hQ
 ·obtain⟨rfl,o,g',q1,q2⟩:=q
  conv=>whnf
  refine ak (aj (T:=aW) rfl rfl (ah (q1)) rfl) ?_
  conv=>whnf
  refine ak (aC (T:=aW) ([.p o g' 0]) rfl (q1) rfl rfl (aU rfl) rfl) ?_
  conv=>whnf
  rw [yX q1]
  refine ak (aj (T:=aW) rfl rfl (ah (q1)) rfl) ?_
  conv=>whnf
  exact Fin.ref rfl q2
end
end Go.Abs.YtlkfbfhkcaldlaaGreatDoor
namespace Go.Abs.YtlkfbfhkcaldlaaGreatDoor
open Go.Proofs
set_option maxRecDepth 4000
theorem LM (a b:List UInt8)(t:Tok):FQ [a,b] t=(iK a t || iK b t):=by
 unfold FQ iK
 rw [show [a,b].contains t.s=(t.s == a || t.s == b) by show List.elem t.s [a,b]=_;simp only [List.elem];cases t.s == a <;> cases t.s == b <;> rfl]
 cases (t.k == 4 || t.k == 3) <;> simp
section
variable {p w g:Nat} {all:List Tok} {n:Nat}
theorem un_p (ih:WP p w g all n)(d:Nat)(Z:St)(m:Nat)(Q:AV->St->Prop)(h:PW p w g all Z m d .p0)(hd:d<=64)(he:aZ (all.drop m))(hn:10*(all.drop m).length+8<=n+1)(hQ:wH p w g all Z d Q (xP (n+1) d (all.drop m))):au X 141 [.p p 0 0] Z Q:=by
 obtain⟨t,r,hts⟩:=he.ne
 obtain⟨ht,hr⟩:=b_ hts
 have hpl:=bK h.obj
 unfold xP at hQ
 rw [hts] at hQ
 simp only at hQ
 refine au.body (F:=Yo) ay (lit:=false) rfl rfl (aU rfl) ?_
 conv=>whnf
 have b1:(newCells 85 (AV.p p 0 0).cells Z)[Z.length]? =some ⟨0,false,.cells 85 [.p p 0 0]⟩:=aG _ _ _
 have x1:Ext Z (newCells 85 (AV.p p 0 0).cells Z):=(Ext.refl Z).new _ _
 have l1:(newCells 85 (AV.p p 0 0).cells Z).length=Z.length+1:=aH _ _ _
 generalize newCells 85 (AV.p p 0 0).cells Z=Z1 at b1 x1 l1 ⊢
 have h1:=h.ext x1
 refine ak (aj (T:=bf) rfl rfl (ah (b1)) rfl) ?_
 conv=>whnf
 refine au.to (jZ h1 ht) ?_
 conv=>whnf
 refine pW t fun Z2 x2 ht2 l2=>?_
 have h2:=h1.ext x2
 have b2:=x2.get b1
 conv=>whnf
 refine ak (aj (T:=bf) rfl rfl (ah (b2)) rfl) ?_
 conv=>whnf
 have b3:(newCells 9 [.s [33],.s [45]] Z2)[Z2.length]? =some ⟨0,false,.cells 9 [.s [33],.s [45]]⟩:=aG _ _ _
 have x3:Ext Z2 (newCells 9 [.s [33],.s [45]] Z2):=(Ext.refl Z2).new _ _
 have l3:(newCells 9 [.s [33],.s [45]] Z2).length=Z2.length+1:=aH _ _ _
 generalize newCells 9 [.s [33],.s [45]] Z2=Z3 at b3 x3 l3 ⊢
 have h3:=h2.ext x3
 have c3:=x3.get b2
 have ht3:=x3.get ht2
 refine au.to (BX [[33],[45]] h3 ht Z2.length 0 (ah b3) (aU rfl)) ?_
 conv=>whnf
 rw [LM]
 have xx:aN p Z Z3:=aN.of ((x1.trans x2).trans x3)
 cases hi:(iK [33] t || iK [45] t) with
 | false=>
   rw [Bool.or_eq_false_iff] at hi
   rw [if_neg (by rw [show aY [33] (t :: r)=iK [33] t from rfl,show aY [45] (t :: r)=iK [45] t from rfl,hi.1,hi.2];simp),<-hts] at hQ
   conv=>whnf
   refine ak (aj (T:=bf) rfl rfl (ah (c3)) rfl) ?_
   conv=>whnf
   refine ih.post d Z3 m _ h3 hd he (by omega) (hQ.to xx fun o g' s q=>?_)
   conv=>whnf
   exact Fin.ref rfl q
 | true=>
   rw [Bool.or_eq_true] at hi
   have hk:iK t.s t=true:=by
    rcases hi with hi | hi <;> (simp only [iK,fJ,beq_self_eq_true,and_true] at hi ⊢;exact hi.1)
   rw [if_pos (show aY [33] (t :: r)=true\/aY [45] (t :: r)=true from hi)] at hQ
   conv=>whnf
   refine ak (aj (T:=fB) rfl rfl (ah (ht3)) rfl) ?_
   conv=>whnf
   refine ak (aj (T:=fF) rfl rfl (ah (ht3)) rfl) ?_
   conv=>whnf
   have b4:(newCells 48 (AV.ag [.i .i64 3,.i .u32 0,.s [],.s t.s,.p0,.p0,.sl0,.i .i64 t.l]).cells Z3)[Z3.length]? =some ⟨0,false,.cells 48 [.i .i64 3,.i .u32 0,.s [],.s t.s,.p0,.p0,.sl0,.i .i64 t.l]⟩:=aG _ _ _
   have x4:Ext Z3 (newCells 48 (AV.ag [.i .i64 3,.i .u32 0,.s [],.s t.s,.p0,.p0,.sl0,.i .i64 t.l]).cells Z3):=(Ext.refl Z3).new _ _
   have l4:(newCells 48 (AV.ag [.i .i64 3,.i .u32 0,.s [],.s t.s,.p0,.p0,.sl0,.i .i64 t.l]).cells Z3).length=Z3.length+1:=aH _ _ _
   generalize newCells 48 (AV.ag [.i .i64 3,.i .u32 0,.s [],.s t.s,.p0,.p0,.sl0,.i .i64 t.l]).cells Z3=Z4 at b4 x4 l4 ⊢
   refine ak (aC (T:=aW) ([.p Z3.length 0 0]) rfl (aG _ _ _) rfl rfl (aU rfl) rfl) ?_
   have x5:Ext Z4 ((newCells 44 aW.zero.cells Z4).set Z4.length ⟨0,false,.cells 44 [.p Z3.length 0 0]⟩):=((Ext.refl Z4).new _ _).set (Nat.le_refl _) _
   have b5:((newCells 44 aW.zero.cells Z4).set Z4.length ⟨0,false,.cells 44 [.p Z3.length 0 0]⟩)[Z4.length]? =_:=at_set (aG _ _ _) _
   have l5:((newCells 44 aW.zero.cells Z4).set Z4.length ⟨0,false,.cells 44 [.p Z3.length 0 0]⟩).length=Z4.length+1:=by rw [gK,aH]
   generalize (newCells 44 aW.zero.cells Z4).set Z4.length ⟨0,false,.cells 44 [.p Z3.length 0 0]⟩=Z5 at b5 x5 l5 ⊢
   conv=>whnf
   have SX:Ext Z3 Z5:=x4.trans x5
   have h5:=h3.ext SX
   have d1:=SX.get c3
   have dt:=SX.get ht3
   have dx:=x5.get b4
   have wX:aN p Z Z5:=xx.trans (aN.of SX)
   refine ak (aj (T:=bf) rfl rfl (ah (d1)) rfl) ?_
   conv=>whnf
   refine ak (aj (T:=fB) rfl rfl (ah (dt)) rfl) ?_
   conv=>whnf
   refine au.mono (Q:=fun v s=>v= .tu []/\s[Z4.length]? =some ⟨0,false,.cells 44 [.p Z3.length 0 0]⟩/\Q (.p Z3.length 0 0) s) ?_ fun v s q=>?_
   ·refine RF t.s h5 ht hd (fun hi=>(aX he hts hi).1) (fun hi h64 s1 y1 k1=>?_) (fun hi h64=>?_) (fun hi=>by rw [hk] at hi;cases hi)
    ·obtain⟨hm1,he1,hle⟩:=aX he hts hi
     rw [if_neg (by omega)] at hQ
     have hg:=(uD n).un (d+1) (all.drop (m+1)) he1 (by omega)
     have e1:=y1.get (by omega) d1
     have e5:=y1.get (by omega) b5
     have ex:=y1.get (by omega) dx
     refine au.body (F:=Yr) ay (lit:=false) rfl rfl (aU rfl) ?_
     conv=>whnf
     refine ak (aj (T:=aW) rfl rfl (ah (e5)) rfl) ?_
     conv=>whnf
     refine ak (aj (T:=bf) rfl rfl (ah (e1)) rfl) ?_
     conv=>whnf
     refine ih.un (d+1) s1 (m+1) _ k1 (by omega) he1 (by omega) ?_
     rw [hr] at hg ⊢
     generalize xP n (d+1) r=r1 at hg hQ
     cases r1 with
     | out=>exact hg.elim
     | bad c l=>exact False.elim hQ
     | ok y bI=>
       intro o g' s2 m2 y2 k2 hm2 LP
       have fx:=y2.get (by omega) ex
       have hlt:m+1<m2:=by
        have:=hg.2.2
        rw [<-hm2,<-hr,pF,pF] at this
        omega
       have hQ:wH p w g all Z d Q (.ok (.ex 3 0 [] t.s .nil y .nil t.l) bI):=hQ
       conv=>whnf
       refine⟨?_,?_⟩
       ·conv=>whnf
        refine ak (aj (T:=aW) rfl rfl (ah (y2.get (by omega) e5)) rfl) ?_
        rfl
       ·conv=>whnf
        refine ak (aC (T:=aW) ([.i .i64 3,.i .u32 0,.s [],.s t.s,.p0,.p o g' 0,.sl0,.i .i64 t.l]) rfl (fx) rfl rfl (aU rfl) rfl) ?_
        conv=>whnf
        have k3:=k2.bT fx (by decide) (by decide) ⟨0,false,.cells 48 [.i .i64 3,.i .u32 0,.s [],.s t.s,.p0,.p o g' 0,.sl0,.i .i64 t.l]⟩
        have fr:bV p Z3.length s1 _:=(bV.of y2).trans (bV.bT p Z3.length s2 ⟨0,false,.cells 48 [.i .i64 3,.i .u32 0,.s [],.s t.s,.p0,.p o g' 0,.sl0,.i .i64 t.l]⟩)
        have ly1:=y1.len
        refine yV ex (at_set fx _) (by simp) ⟨rfl,w,g,all,m2,_,k3,.inl (by omega),fun s3 y3 j4=>⟨rfl,y3.get (by omega) (fr.get (by omega) (by omega) e5),hQ _ _ _ _ (((wX.trans y1).bJ fr (by omega)).trans y3) j4 hm2 ?_⟩⟩
        refine⟨Z3.length,0,.p0,.p o g' 0,.sl0,xx.len,rfl,y3.get (by omega) (at_set fx _),rfl,?_,rfl⟩
        exact bP.mono (fun i hi=>by omega) (fun i hi a ha=>y3.get (by omega) (aK ha (by omega) _)) LP
    ·rw [if_pos h64] at hQ
     exact hQ
   ·obtain⟨rfl,q1,q2⟩:=q
    conv=>whnf
    refine ak (aj (T:=aW) rfl rfl (ah (q1)) rfl) ?_
    conv=>whnf
    exact Fin.ref rfl q2
def EJ (all:List Tok):Prop:=∀z∈all,z.k=2->z.s≠[]
theorem VA (hno:EH all)(hne:EJ all)(ih:WP p w g all n)(d:Nat)(Z:St)(m:Nat)(Q:AV->St->Prop)(h:PW p w g all Z m d .p0)(hd:d<=64)(he:aZ (all.drop m))(hn:10*(all.drop m).length+6<=n+1)(hQ:wH p w g all Z d Q (h_ (n+1) d (all.drop m))):au X 145 [.p p 0 0] Z Q:=by
 obtain⟨t,r,hts⟩:=he.ne
 obtain⟨ht,hr⟩:=b_ hts
 have hpl:=bK h.obj
 unfold h_ at hQ
 rw [hts] at hQ
 simp only at hQ
 refine au.body (F:=Yq) ay (lit:=false) rfl rfl (aU rfl) ?_
 conv=>whnf
 refine au.to (jZ h ht) ?_
 conv=>whnf
 refine pW t fun Z1 x1 ht1 l1=>?_
 have h1:=h.ext x1
 conv=>whnf
 have b2:(newCells 9 [.s [40]] Z1)[Z1.length]? =some ⟨0,false,.cells 9 [.s [40]]⟩:=aG _ _ _
 have x2:Ext Z1 (newCells 9 [.s [40]] Z1):=(Ext.refl Z1).new _ _
 have l2:(newCells 9 [.s [40]] Z1).length=Z1.length+1:=aH _ _ _
 generalize newCells 9 [.s [40]] Z1=Z2 at b2 x2 l2 ⊢
 have h2:=h1.ext x2
 have ht2:=x2.get ht1
 have xx:aN p Z Z2:=aN.of (x1.trans x2)
 refine au.to (BX [[40]] h2 ht Z1.length 0 (ah b2) (aU rfl)) ?_
 conv=>whnf
 rw [jU]
 cases hi1:iK [40] t with
 | true=>
   conv=>whnf
   rw [if_pos (show aY [40] (t :: r)=true from hi1),<-hts] at hQ
   refine ih.with_ d [40] [41] Z2 m _ h2 hd he (by omega) (hQ.to xx fun o g' s q=>?_)
   conv=>whnf
   exact Fin.ref rfl q
 | false=>
   rw [if_neg (by rw [show aY [40] (t :: r)=iK [40] t from rfl,hi1];decide)] at hQ
   conv=>whnf
   refine ak (aj (T:=fF) rfl rfl (ah (ht2)) rfl) ?_
   conv=>whnf
   by_cases hk:t.k=2
   ·rw [decide_eq_true (by omega)]
    conv=>whnf
    rw [if_pos hk] at hQ
    obtain⟨n1,n2,n3⟩:=hno t (List.mem_of_getElem? ht) hk
    have he1:aZ (all.drop (m+1)):=by rw [hr];rw [hts] at he;exact he.tail (by rw [hk];decide)
    conv=>whnf
    refine au.to (mW h2) ?_
    conv=>whnf
    refine jm h2 (uG he1) fun Z3 x3 h3=>?_
    conv=>whnf
    refine ak (aj (T:=fB) rfl rfl (ah (x3.get (by omega) ht2)) rfl) ?_
    conv=>whnf
    refine au.to (num_p t.s n1 (hne t (List.mem_of_getElem? ht) hk) n2 n3 Z3) ?_
    conv=>whnf
    refine⟨((lD 0 t.s:Nat):Int),wrap_u32 (by omega) (by omega),?_⟩
    conv=>whnf
    refine ak (aj (T:=fF) rfl rfl (ah (x3.get (by omega) ht2)) rfl) ?_
    conv=>whnf
    refine Fin.ref rfl (hQ _ _ _ _ ((xx.trans x3).new _ _) (h3.new _ _) hr ?_)
    exact⟨_,0,.p0,.p0,.sl0,by have:=xx.len;have:=x3.len;omega,rfl,aG _ _ _,rfl,rfl,rfl⟩
   ·rw [decide_eq_false (by omega)]
    conv=>whnf
    rw [if_neg hk] at hQ
    conv=>whnf
    refine ak (aj (T:=fF) rfl rfl (ah (ht2)) rfl) ?_
    conv=>whnf
    refine Jb h2 ht (fun hk1=>uG (by rw [hr];rw [hts] at he;exact he.tail (by rw [hk1];decide))) (fun hk1 Z3 x3 h3=>?_) (fun hk1=>?_)
    ·simp only [fA,if_pos hk1] at hQ
     conv=>whnf
     refine⟨?_,?_⟩
     ·conv=>whnf
      refine ak (aj (T:=fF) rfl rfl (ah (x3.get (by omega) ht2)) rfl) ?_
      rfl
     ·conv=>whnf
      refine Fin.ref rfl (hQ _ _ _ _ ((xx.trans x3).new _ _) (h3.new _ _) hr ?_)
      exact⟨_,0,.p0,.p0,.sl0,by have:=xx.len;have:=x3.len;omega,rfl,aG _ _ _,rfl,rfl,rfl⟩
    ·simp only [fA,if_neg hk1] at hQ
     exact hQ
end
end Go.Abs.YtlkfbfhkcaldlaaGreatDoor
namespace Go.Abs.YtlkfbfhkcaldlaaGreatDoor
open Go.Proofs
set_option maxRecDepth 4000
theorem Je {p B D:Nat} {Z0 Z2:St} {A:AV} {acc:List Tr} (ha:qI B Z0 A acc)(x2:aN p Z0 Z2)(hp:p<B)(hB:B<=Z0.length)(hD:D<=Z2.length)(hD0:Z0.length<=D)(hl:acc.length<=90000)(oy gy:Nat) {Q:AV->St->Prop}
 (q:∀o3 g3 k Z3,(∀i,i<B->Z3[i]? =Z2[i]?)->Z2.length<=Z3.length->(∀(i:Nat) (a:AO),Z2[i]? =some a->(∀(g:Nat) (ro:Bool) (cs:List AV),a≠⟨g,ro,.cells 44 cs⟩)->Z3[i]? =some a)->(∀y,bP (fun i=>D<=i) Z2 (.p oy gy 0) y->qI B Z3 (.sl o3 g3 0 k 1) (acc ++ [y]))->Q (.sl o3 g3 0 k 1) Z3) :
 D8 KL.get false 46 A (.sl Z2.length 0 0 1 1) (newCells 44 [.p oy gy 0] Z2) Q:=by
 obtain⟨cs,hraw,hea⟩:=ha
 have hcl:=hea.len
 have hco:=hea.one
 have lx:=x2.len
 have LQ:He B (newCells 44 [.p oy gy 0] Z2) A cs:=by
  rcases hraw with h | ⟨o,g,q1,q2,q3,q4⟩
  ·exact .inl h
  ·exact .inr ⟨o,g,q1,q2,at_new (x2.get (by omega) q3) _ _,q4⟩
 have hlt:∀o g n z,A= .sl o g 0 n z->o<Z0.length:=by
  intro o g n z e
  rcases hraw with ⟨_,h⟩ | ⟨o',g',q1,q2,q3,q4⟩
  ·rw [h] at e;cases e
  ·rw [q2] at e;cases e;exact bK q3
 refine app_raw (B:=B) (cs:=cs) LQ hco (by omega) (aG _ _ _) (by rw [aH];omega) fun v' Z3 hr3 hl3 ho3 hb3 hap3=>?_
 rw [aH] at hl3
 obtain⟨o3,g3,p1,rfl,p3,p4⟩:=hr3.resolve_left (by simp)
 refine q _ _ _ Z3 (fun i hi=>by rw [hb3 i hi,eu (by omega)]) (by omega) (fun i a hi ht=>?_) (fun y LP=>?_)
 ·rw [(ho3 i (by rw [aH];have:=bK hi;omega) ?_).1]
  ·exact at_new hi _ _
  ·intro o g n z e
   rcases hraw with ⟨_,h⟩ | ⟨o',g',q1,q2,q3,q4⟩
   ·rw [h] at e;cases e
   ·rw [q2] at e
    cases e
    intro e
    subst e
    have:=(x2.get (by omega) q3).symm.trans hi
    exact ht _ _ _ (Option.some.inj this).symm
 refine⟨_,hr3,gq.snoc (gq.mono (fun i hi=>⟨hi.1.1,(ho3 i (by rw [aH];omega) hi.1.2).2⟩) (fun i hi a ha=>by rw [(ho3 i (by rw [aH];omega) hi.1.2).1,eu (by omega),x2.old i hi.2 (by omega)];exact ha) hea.below) ⟨_,_,rfl⟩ ?_⟩
 have hap:∀i,D<=i->apart A i:=fun i hi o g n z e=>by have:=hlt o g n z e;omega
 exact bP.mono (fun i hi=>⟨by omega,(ho3 i (by rw [aH];omega) (hap i hi.1)).2⟩) (fun i hi a ha=>by rw [(ho3 i (by rw [aH];omega) (hap i hi.1)).1];exact at_new ha _ _) LP.below
structure dO (p x B:Nat)(Z Z':St):Prop where
 len:Z.length<=Z'.length
 old:∀i,i<B->i≠p->i≠x->Z'[i]? =Z[i]?
theorem dO.refl (p x B:Nat)(Z:St):dO p x B Z Z:=⟨Nat.le_refl _,fun _ _ _ _=>rfl⟩
theorem dO.trans {p x B:Nat} {a b c:St} (h:dO p x B a b)(k:dO p x B b c):dO p x B a c:=⟨Nat.le_trans h.len k.len,fun i hi hp hx=>by rw [k.old i hi hp hx,h.old i hi hp hx]⟩
theorem dO.of {p x B:Nat} {a b:St} (h:aN p a b)(hB:B<=a.length):dO p x B a b:=⟨h.len,fun i hi hp _=>h.old i (by omega) hp⟩
theorem dO.get {p x B o:Nat} {Z Z':St} {a:AO} (h:dO p x B Z Z')(hb:o<B)(hp:o≠p)(hx:o≠x)(ho:Z[o]? =some a):Z'[o]? =some a:=by rw [h.old o hb hp hx];exact ho
theorem qI.keep {B:Nat} {Z Z':St} {v:AV} {xs:List Tr} (h:qI B Z v xs)(k:∀(i:Nat) (a:AO),B<=i->Z[i]? =some a->Z'[i]? =some a):qI B Z' v xs:=by
 obtain⟨cs,h1,h2⟩:=h
 refine⟨cs,?_,h2.mono (fun i hi=>hi) (fun i hi a ha=>k i a hi.1 ha)⟩
 rcases h1 with h | ⟨o,g,q1,q2,q3,q4⟩
 ·exact .inl h
 ·exact .inr ⟨o,g,q1,q2,k o _ q1 q3,q4⟩
theorem PW.LU {p w g m d:Nat} {all:List Tok} {Z Z':St} {f:AV} (h:PW p w g all Z m d f)(k:∀(i:Nat) (a:AO),Z[i]? =some a->(∀(g:Nat) (ro:Bool) (cs:List AV),a≠⟨g,ro,.cells 44 cs⟩)->Z'[i]? =some a):PW p w g all Z' m d f:=
 ⟨k _ _ h.obj (fun _ _ _ e=>by cases e),k _ _ h.tok (fun _ _ _ e=>by cases e),h.ne,h.len,h.at_,h.dp⟩
def jF (xg:Nat)(nm:List UInt8)(ln:Nat)(A:AV):AO:=⟨xg,false,.cells 48 [.i .i64 4,.i .u32 0,.s nm,.s [],.p0,.p0,A,.i .i64 ln]⟩
section
variable {p w g:Nat} {all:List Tok} {n:Nat}
def P1 (p w g:Nat)(all:List Tok)(B xo:Nat)(xg:Nat)(nm:List UInt8)(ln:Nat)(Z:St)(d:Nat)(acc:List Tr)(Q:AV->St->Prop):Re Tr->Prop
 | .ok y ts=>∀A' Z' m',dO p xo B Z Z'->PW p w g all Z' m' d .p0->all.drop m'= ts->Z'[xo]? =some (jF xg nm ln A')->qI B Z' A' (acc ++ [y])->Q (.tu []) Z'
 | .bad _ _=>False
 | .out=>True
theorem args1_p (ih:WP p w g all n)(d B xo bx b1:Nat)(xg:Nat)(nm:List UInt8)(ln:Nat)(acc:List Tr)(A:AV)(Z:St)(m:Nat)(Q:AV->St->Prop)(h:PW p w g all Z m d .p0)(hd:d<=64)(hlt:p<B/\w<B/\xo<B/\bx<B/\b1<B)(hne:xo≠p/\bx≠p/\b1≠p/\bx≠xo/\b1≠xo)(hB:B<=Z.length)
 (hbx:Z[bx]? =some ⟨0,false,.cells 44 [.p xo xg 0]⟩) (hb1:Z[b1]? =some ⟨0,false,.cells 85 [.p p 0 0]⟩) (hx:Z[xo]? =some (jF xg nm ln A)) (ha:qI B Z A acc) (he:aZ (all.drop m)) (hn:10*(all.drop m).length+9<=n) (hs:acc.length<=40001)
 (hQ:P1 p w g all B xo xg nm ln Z d acc Q (dn n d 1 (all.drop m))):au X 156 [.p bx 0 0,.p b1 0 0] Z Q:=by
 have hg:=(uD n).expr d 1 (all.drop m) he (by omega)
 have hsl:JI A:=by obtain⟨cs,hr,_⟩:=ha;exact hr.sl
 rcases hsl with rfl | ⟨oo,gg,kk,rfl⟩
 all_goals
  refine au.body (F:=Yu) ay (lit:=false) rfl rfl (aU rfl) ?_
  conv=>whnf
  refine ak (aj (T:=aW) rfl rfl (ah (hbx)) rfl) ?_
  conv=>whnf
  refine ak (aj (T:=aW) rfl rfl (ah (hbx)) rfl) ?_
  conv=>whnf
  refine ak (aj (T:=uf) rfl rfl (ah (hx)) rfl) ?_
  conv=>whnf
  refine ak (aj (T:=bf) rfl rfl (ah (hb1)) rfl) ?_
  conv=>whnf
  refine ih.expr d 1 Z m _ h hd (by omega) he hn ?_
  generalize dn n d 1 (all.drop m)=r1 at hg hQ
  cases r1 with
  | out=>exact hg.elim
  | bad c l=>exact False.elim hQ
  | ok y bI=>
    intro oy gy Z2 m2 x2 k2 hm2 LP
    have hlt2:m<m2:=by
        have:=hg.2.2
        rw [<-hm2,pF,pF] at this
        omega
    have CQ:=x2.get hne.2.1 hbx
    have cx:=x2.get hne.1 hx
    have lx:=x2.len
    conv=>whnf
    refine⟨?_,?_⟩
    ·conv=>whnf
     refine ak (aj (T:=aW) rfl rfl (ah (CQ)) rfl) ?_
     rfl
    conv=>whnf
    refine⟨?_,?_⟩
    ·conv=>whnf
     refine ak (aj (T:=aW) rfl rfl (ah (CQ)) rfl) ?_
     rfl
    conv=>whnf
    refine⟨?_,?_⟩
    ·conv=>whnf
     refine ak (aj (T:=uf) rfl rfl (ah (cx)) rfl) ?_
     rfl
    conv=>whnf
    refine⟨?_,?_⟩
    ·conv=>whnf
     refine ak (aj (T:=aW) rfl rfl (ah (at_new CQ _ _)) rfl) ?_
     rfl
    conv=>whnf
    refine⟨?_,?_⟩
    ·conv=>whnf
     refine ak (aj (T:=aW) rfl rfl (ah (at_new CQ _ _)) rfl) ?_
     rfl
    conv=>whnf
    refine⟨?_,?_⟩
    ·conv=>whnf
     refine ak (aj (T:=uf) rfl rfl (ah (at_new cx _ _)) rfl) ?_
     rfl
    conv=>whnf
    refine Je (D:=Z.length) ha x2 hlt.1 hB lx (Nat.le_refl _) (by omega) oy gy fun o3 g3 nG Z3 e3 l3 kT kA=>?_
    have dbx:Z3[bx]? =_:=(e3 bx hlt.2.2.2.1).trans CQ
    have dx:Z3[xo]? =_:=(e3 xo hlt.2.2.1).trans cx
    have k3:=k2.LU kT
    conv=>whnf
    refine⟨?_,?_⟩
    ·conv=>whnf
     refine ak (aj (T:=aW) rfl rfl (ah (dbx)) rfl) ?_
     rfl
    conv=>whnf
    refine ak (aC (T:=uf) ([.i .i64 4,.i .u32 0,.s nm,.s [],.p0,.p0,.sl o3 g3 0 nG 1,.i .i64 ln]) rfl (dx) rfl rfl (aU rfl) rfl) ?_
    conv=>whnf
    have k4:=k3.bT dx (by decide) (by decide) ⟨xg,false,.cells 48 [.i .i64 4,.i .u32 0,.s nm,.s [],.p0,.p0,.sl o3 g3 0 nG 1,.i .i64 ln]⟩
    have JJ:dO p xo B Z (Z3.set xo (jF xg nm ln (.sl o3 g3 0 nG 1))):=⟨by rw [gK];omega,fun i hi o_ hix=>by rw [rZ (fun e=>hix e.symm),e3 i hi,x2.old i (by omega) o_]⟩
    exact h.ne_of k4 (.inl hlt2) (hQ _ _ _ JJ k4 hm2 (at_set dx _) ((kA y LP).keep fun i a hi ha=>aK ha (by omega) _))
def PAp (p w g:Nat)(all:List Tok)(B xo b4:Nat)(xg:Nat)(nm:List UInt8)(ln:Nat)(Z:St)(d:Nat)(acc:List Tr)(Q:Out->Env->St->Prop):Re jA->Prop
 | .ok xs ts=>∀A' Z' m' e',get e' 0= .p b4 0 0->dO p xo B Z Z'->PW p w g all Z' m' d .p0->all.drop m'= ts->Z'[xo]? =some (jF xg nm ln A')->qI B Z' A' (acc ++ BJ xs)->Q (.exit 0) e' Z'
 | .bad _ _=>False
 | .out=>True
def uJ (p w g:Nat)(all:List Tok)(n:Nat):Prop:=∀(d B xo bx b1 b4 b5:Nat) (xg:Nat) (nm:List UInt8) (ln:Nat),d<=64->(p<B/\w<B/\xo<B/\bx<B/\b1<B)->(b4<B/\b5<B)->(xo≠p/\bx≠p/\b1≠p/\bx≠xo/\b1≠xo)->(b4≠p/\b5≠p/\b4≠xo/\b5≠xo)->
 ∀ (acc:List Tr) (A:AV) (Z:St) (m:Nat) (Q:Out->Env->St->Prop),PW p w g all Z m d .p0->B<=Z.length->Z[bx]? =some ⟨0,false,.cells 44 [.p xo xg 0]⟩->Z[b1]? =some ⟨0,false,.cells 85 [.p p 0 0]⟩->Z[b4]? =some ⟨0,false,.cells 85 [.p p 0 0]⟩->Z[b5]? =some ⟨0,false,.cells 1 [.fn (.func 156) [] [.p bx 0 0,.p b1 0 0]]⟩->Z[xo]? =some (jF xg nm ln A)->qI B Z A acc->
   aZ (all.drop m)->10*(all.drop m).length+10<=n->acc.length+(all.drop m).length<=40001->PAp p w g all B xo b4 xg nm ln Z d acc Q (fG n d acc.isEmpty (all.drop m))->aV X [0,1,2] Bz [(0,.p b4 0 0),(1,.p b5 0 0),(2,.b acc.isEmpty)] Z Q
theorem args_p (ih:WP p w g all n)(Xm:uJ p w g all n):uJ p w g all (n+1):=by
 intro d B xo bx b1 b4 b5 xg nm ln hd hlt hlt4 hne oK acc A Z m Q h hB hbx hb1 hb4 hb5 hx ha he hn hs hQ
 obtain⟨t,r,hts⟩:=he.ne
 obtain⟨ht,hr⟩:=b_ hts
 unfold fG at hQ
 rw [hts] at hQ
 have key:∀(Z1:St) (m1:Nat) (Q2:AV->St->Prop),dO p xo B Z Z1->PW p w g all Z1 m1 d .p0->m<=m1->aZ (all.drop m1)->Z1[xo]? =some (jF xg nm ln A)->qI B Z1 A acc->(PAp p w g all B xo b4 xg nm ln Z d acc Q ((dn n d 1 (all.drop m1)).bind fun x ts=>(fG n d false ts).bind fun xs ts=>.ok (.cons x xs) ts))->
  (∀s,aV X [0,1,2] Bz [(0,.p b4 0 0),(1,.p b5 0 0),(2,.b false)] s Q->Q2 (.tu []) s)->au X 156 [.p bx 0 0,.p b1 0 0] Z1 Q2:=by
  intro Z1 m1 Q2 x1 h1 hm1 he1 hx1 ha1 hq hk
  have hlen:(all.drop m1).length<=(all.drop m).length:=by rw [pF,pF];omega
  have hg:=(uD n).expr d 1 (all.drop m1) he1 (by omega)
  have lx1:=x1.len
  refine args1_p ih d B xo bx b1 xg nm ln acc A Z1 m1 Q2 h1 hd hlt hne (by omega) (x1.get hlt.2.2.2.1 hne.2.1 hne.2.2.2.1 hbx) (x1.get hlt.2.2.2.2 hne.2.2.1 hne.2.2.2.2 hb1) hx1 ha1 he1 (by omega) (by omega) ?_
  generalize dn n d 1 (all.drop m1)=r1 at hg hq
  cases r1 with
  | out=>exact hg.elim
  | bad c l=>exact False.elim hq
  | ok y bI=>
    intro A' Z2 m2 x2 k2 hm2 hx2 ha2
    have x12:=x1.trans x2
    have lx2:=x2.len
    have hq:PAp p w g all B xo b4 xg nm ln Z d acc Q ((fG n d false bI).bind fun xs ts=>.ok (.cons y xs) ts):=hq
    rw [<-hm2] at hq hg
    have hlt2:=hg.2.2
    have hi:=Xm d B xo bx b1 b4 b5 xg nm ln hd hlt hlt4 hne oK (acc ++ [y]) A' Z2 m2 Q k2 (by omega) (x12.get hlt.2.2.2.1 hne.2.1 hne.2.2.2.1 hbx) (x12.get hlt.2.2.2.2 hne.2.2.1 hne.2.2.2.2 hb1) (x12.get hlt4.1 oK.1 oK.2.2.1 hb4) (x12.get hlt4.2 oK.2.1 oK.2.2.2 hb5) hx2 ha2 hg.2.1 (by omega) (by rw [bM];simp only [bg,bZ];omega)
    rw [show (acc ++ [y]).isEmpty=false by cases acc <;> rfl] at hi
    refine hk _ (hi ?_)
    generalize fG n d false (all.drop m2)=r2 at hq
    cases r2 with
    | out=>trivial
    | bad c l=>exact False.elim hq
    | ok xs wW=>exact fun A4 Z4 m4 e' e0 x4 h4 hm4 hx4 VB=>hq A4 Z4 m4 e' e0 (x12.trans x4) h4 hm4 hx4 (by rw [iC] at VB;exact VB)
 have tail:∀(b:Bool),acc.isEmpty=b->PAp p w g all B xo b4 xg nm ln Z d acc Q (if aY [41] (t :: r)=true then .ok .nil (t :: r) else(if b=true then Re.ok () (t :: r) else aQ [44] (t :: r)).bind fun _ ts=>(dn n d 1 ts).bind fun x ts=>(fG n d false ts).bind fun xs ts=>.ok (.cons x xs) ts)->aV X [0,1,2] Bz [(0,.p b4 0 0),(1,.p b5 0 0),(2,.b b)] Z Q:=by
  intro b hb hQ
  cases b with
  | true=>
    refine aV.round ay (lit:=false) ?_
    conv=>whnf
    refine ak (aj (T:=bf) rfl rfl (ah (hb4)) rfl) ?_
    conv=>whnf
    refine au.to (mW h) ?_
    conv=>whnf
    refine ak (aj (T:=bf) rfl rfl (ah (hb4)) rfl) ?_
    conv=>whnf
    have b7:(newCells 9 [.s [41]] Z)[Z.length]? =some ⟨0,false,.cells 9 [.s [41]]⟩:=aG _ _ _
    have x7:Ext Z (newCells 9 [.s [41]] Z):=(Ext.refl Z).new _ _
    have l7:(newCells 9 [.s [41]] Z).length=Z.length+1:=aH _ _ _
    generalize newCells 9 [.s [41]] Z=Z7 at b7 x7 l7 ⊢
    have h1:=h.ext x7
    have c4:=x7.get hb4
    have c5:=x7.get hb5
    have y1:dO p xo B Z Z7:=.of (aN.of x7) hB
    refine au.to (BX [[41]] h1 ht Z.length 0 (ah b7) (aU rfl)) ?_
    conv=>whnf
    rw [jU]
    cases hi:iK [41] t with
    | true=>
      rw [if_pos (show aY [41] (t :: r)=true from hi)] at hQ
      conv=>whnf
      exact hQ A Z7 m _ rfl y1 h1 hts (x7.get hx) (by rw [show acc ++ BJ .nil=acc from List.append_nil acc];exact ha.keep fun i a _ ha=>x7.get ha)
    | false=>
      rw [if_neg (by rw [show aY [41] (t :: r)=iK [41] t from rfl,hi];decide)] at hQ
      rw [if_pos rfl] at hQ
      conv=>whnf
      refine ak (aj (T:=yT1) rfl rfl (ah (c5)) rfl) ?_
      conv=>whnf
      refine key Z7 m _ y1 h1 (Nat.le_refl _) he (x7.get hx) (ha.keep fun i a _ ha=>x7.get ha) (by rw [hts];exact hQ) fun s q=>?_
      conv=>whnf
      exact q
  | false=>
    refine aV.round ay (lit:=false) ?_
    conv=>whnf
    refine ak (aj (T:=bf) rfl rfl (ah (hb4)) rfl) ?_
    conv=>whnf
    refine au.to (mW h) ?_
    conv=>whnf
    refine ak (aj (T:=bf) rfl rfl (ah (hb4)) rfl) ?_
    conv=>whnf
    have b7:(newCells 9 [.s [41]] Z)[Z.length]? =some ⟨0,false,.cells 9 [.s [41]]⟩:=aG _ _ _
    have x7:Ext Z (newCells 9 [.s [41]] Z):=(Ext.refl Z).new _ _
    have l7:(newCells 9 [.s [41]] Z).length=Z.length+1:=aH _ _ _
    generalize newCells 9 [.s [41]] Z=Z7 at b7 x7 l7 ⊢
    have h1:=h.ext x7
    have c4:=x7.get hb4
    have c5:=x7.get hb5
    have y1:dO p xo B Z Z7:=.of (aN.of x7) hB
    refine au.to (BX [[41]] h1 ht Z.length 0 (ah b7) (aU rfl)) ?_
    conv=>whnf
    rw [jU]
    cases hi:iK [41] t with
    | true=>
      rw [if_pos (show aY [41] (t :: r)=true from hi)] at hQ
      conv=>whnf
      exact hQ A Z7 m _ rfl y1 h1 hts (x7.get hx) (by rw [show acc ++ BJ .nil=acc from List.append_nil acc];exact ha.keep fun i a _ ha=>x7.get ha)
    | false=>
      rw [if_neg (by rw [show aY [41] (t :: r)=iK [41] t from rfl,hi];decide)] at hQ
      rw [if_neg (by decide)] at hQ
      conv=>whnf
      refine ak (aj (T:=bf) rfl rfl (ah (c4)) rfl) ?_
      conv=>whnf
      refine j_ _ h1 ht (fun hi2=>(aX he hts hi2).1) (fun hi2 Z2 x2 h2=>?_) (fun hi2=>?_)
      ·rw [aQ,if_pos (show aY [44] (t :: r)=true from hi2)] at hQ
       obtain⟨hm1,he1,hle⟩:=aX he hts hi2
       have y2:dO p xo B Z Z2:=y1.trans (.of x2 (by omega))
       conv=>whnf
       refine ak (aj (T:=yT1) rfl rfl (ah (x2.get oK.2.1 c5)) rfl) ?_
       conv=>whnf
       refine key Z2 (m+1) _ y2 h2 (by omega) he1 (x2.get hne.1 (x7.get hx)) (ha.keep fun i a hi ha=>x2.get (by omega) (x7.get ha)) (by rw [hr];exact hQ) fun s q=>?_
       conv=>whnf
       exact q
      ·rw [aQ,if_neg (by rw [show aY [44] (t :: r)=iK [44] t from rfl,hi2];decide)] at hQ
       exact hQ
 exact tail _ rfl hQ
end
end Go.Abs.YtlkfbfhkcaldlaaGreatDoor
namespace Go.Abs.YtlkfbfhkcaldlaaGreatDoor
open Go.Proofs
set_option maxRecDepth 4000
theorem Ho {a b:List UInt8} {t:Tok} (h:iK a t=true)(hab:a≠b):iK b t=false:=by
 unfold iK at h ⊢
 simp only [fJ,beq_iff_eq] at h
 rw [h.2,show (a == b)=false by simpa using hab,Bool.and_false]
theorem isT_k {a:List UInt8} {t:Tok} (h:iK a t=true):t.k=4\/t.k=3:=by
 unfold iK at h
 simp only [fJ,Bool.or_eq_true,beq_iff_eq] at h
 exact h.1
section
variable {p w g:Nat} {all:List Tok} {n:Nat}
def P2 (p w g:Nat)(all:List Tok)(xo:Nat)(xg:Nat)(nm:List UInt8)(ln:Nat)(Z:St)(d:Nat)(Q:AV->St->Prop):Re jA->Prop
 | .ok xs ts=>∀A' Z' m',bV p xo Z Z'->PW p w g all Z' m' d .p0->all.drop m'= ts->Z'[xo]? =some (jF xg nm ln A')->jK (fun i=>Z.length<=i) Z' A' xs->Q (.tu []) Z'
 | .bad _ _=>False
 | .out=>True
theorem RH (Xm:uJ p w g all n)(d xo bx b1:Nat)(xg:Nat)(nm:List UInt8)(ln:Nat)(Z:St)(m:Nat)(Q:AV->St->Prop)(t:Tok)(r:List Tok)(h:PW p w g all Z m d .p0)(hd:d<=64)(he:aZ (all.drop m))(hts:all.drop m=t :: r)(h40:iK [40] t=true)(hn:10*r.length+10<=n)
 (hbx:Z[bx]? =some ⟨0,false,.cells 44 [.p xo xg 0]⟩) (hb1:Z[b1]? =some ⟨0,false,.cells 85 [.p p 0 0]⟩) (hx:Z[xo]? =some (jF xg nm ln .sl0)) (hne:xo≠p/\bx≠p/\b1≠p/\bx≠xo/\b1≠xo)
 (hQ:P2 p w g all xo xg nm ln Z d Q ((gV [40] d (t :: r)).bind fun _ ts=>(fG n (d+1) true ts).bind fun a ts=>(aQ [41] ts).bind fun _ ts=>.ok a ts)) :
 au X 57 [.p p 0 0,.fn (.func 156) [] [.p bx 0 0,.p b1 0 0]] Z Q:=by
 obtain⟨ht,hr⟩:=b_ hts
 have hpl:=bK h.obj
 have hwl:=bK h.tok
 have hxl:=bK hx
 have hbl:=bK hbx
 have h1l:=bK hb1
 have hal:=h.len
 have hm:=h.at_
 unfold gV at hQ
 refine au.body (F:=F57) ay (lit:=false) rfl rfl (aU rfl) ?_
 conv=>whnf
 have b4:(newCells 85 (AV.p p 0 0).cells Z)[Z.length]? =some ⟨0,false,.cells 85 [.p p 0 0]⟩:=aG _ _ _
 have x4:Ext Z (newCells 85 (AV.p p 0 0).cells Z):=(Ext.refl Z).new _ _
 have l4:(newCells 85 (AV.p p 0 0).cells Z).length=Z.length+1:=aH _ _ _
 generalize newCells 85 (AV.p p 0 0).cells Z=Z4 at b4 x4 l4 ⊢
 have b5:(newCells 1 (AV.fn (.func 156) [] [.p bx 0 0,.p b1 0 0]).cells Z4)[Z4.length]? =some ⟨0,false,.cells 1 [.fn (.func 156) [] [.p bx 0 0,.p b1 0 0]]⟩:=aG _ _ _
 have x5:Ext Z4 (newCells 1 (AV.fn (.func 156) [] [.p bx 0 0,.p b1 0 0]).cells Z4):=(Ext.refl Z4).new _ _
 have l5:(newCells 1 (AV.fn (.func 156) [] [.p bx 0 0,.p b1 0 0]).cells Z4).length=Z4.length+1:=aH _ _ _
 generalize newCells 1 (AV.fn (.func 156) [] [.p bx 0 0,.p b1 0 0]).cells Z4=Z5 at b5 x5 l5 ⊢
 have xx:=x4.trans x5
 have h5:=h.ext xx
 have c4:=x5.get b4
 refine ak (aj (T:=bf) rfl rfl (ah (c4)) rfl) ?_
 conv=>whnf
 refine au.mono (Q:=fun v s=>v= .tu []/\Fin Z (.tu []) s Q) ?_ fun v s q=>?_
 ·refine RF [40] h5 ht hd (fun hi=>(aX he hts hi).1) (fun hi h64 s1 y1 k1=>?_) (fun hi h64=>?_) (fun hi=>by rw [h40] at hi;cases hi)
  ·rw [if_neg (by omega),aQ,if_pos (show aY [40] (t :: r)=true from hi)] at hQ
   have hQ:P2 p w g all xo xg nm ln Z d Q ((fG n (d+1) true r).bind fun a ts=>(aQ [41] ts).bind fun _ ts=>.ok a ts):=hQ
   obtain⟨hm1,he1,hle⟩:=aX he hts hi
   have hg:=(uD n).args (d+1) true (all.drop (m+1)) he1 (by rw [hr];omega)
   have hx1:aN p Z s1:=(aN.of xx).trans y1
   have e4:=y1.get (by omega) c4
   have e5:=y1.get (by omega) b5
   have ly:=y1.len
   have hall:(all.drop (m+1)).length<=40001:=by rw [pF];omega
   refine au.body (F:=F91) ay (lit:=false) rfl rfl (aU rfl) ?_
   conv=>whnf
   refine Xm (d+1) s1.length xo bx b1 Z.length Z4.length xg nm ln (by omega) ⟨by omega,by omega,by omega,by omega,by omega⟩ ⟨by omega,by omega⟩ hne ⟨by omega,by omega,by omega,by omega⟩ [] .sl0 s1 (m+1) _ k1 (Nat.le_refl _) (hx1.get hne.2.1 hbx) (hx1.get hne.2.2.1 hb1) e4 e5 (hx1.get hne.1 hx) ⟨[],.inl ⟨rfl,rfl⟩,trivial⟩ he1 (by rw [hr];omega) (by simp only [bZ];omega) ?_
   rw [hr] at hg ⊢
   show PAp p w g all s1.length xo Z.length xg nm ln s1 (d+1) [] _ (fG n (d+1) true r)
   generalize fG n (d+1) true r=r1 at hg hQ
   cases r1 with
   | out=>exact hg.elim
   | bad c l=>exact False.elim hQ
   | ok xs bI=>
     intro A' s2 m2 e' e0 y2 k2 hm2 hx2 ha2
     have he2:aZ (all.drop m2):=by rw [hm2];exact hg.2.1
     obtain⟨t2,r2,jE⟩:=he2.ne
     obtain⟨ht2,hr2⟩:=b_ jE
     have hQ:P2 p w g all xo xg nm ln Z d Q ((aQ [41] bI).bind fun _ ts=>.ok xs ts):=hQ
     rw [<-hm2,jE] at hQ
     have f4:=y2.get (by omega) (by omega) (by omega) e4
     have ly2:=y2.len
     have hmm:m+1<=m2:=by
      have:=hg.2.2
      rw [<-hm2,<-hr,pF,pF] at this
      omega
     have harg:=ha2.arg
     rw [show ([]:List Tr) ++ BJ xs=BJ xs from rfl,to_of] at harg
     have fr:∀s3,aN p s2 s3->bV p xo Z s3:=fun s3 y3=>⟨by have:=y3.len;have:=hx1.len;omega,fun i hi o_ hix=>by rw [y3.old i (by have:=hx1.len;omega) o_,y2.old i (by have:=hx1.len;omega) o_ hix,hx1.old i hi o_]⟩
     conv=>whnf
     rw [show Opd.ev e' (.t 0)=get e' 0 from rfl,e0]
     conv=>whnf
     refine ak (aj (T:=bf) rfl rfl (ah (f4)) rfl) ?_
     conv=>whnf
     refine j_ [41] k2 ht2 (fun hi=>(aX he2 jE hi).1) (fun hi2 s5 y5 k5=>?_) (fun hi2=>?_)
     ·rw [aQ,if_pos (show aY [41] (t2 :: r2)=true from hi2)] at hQ
      conv=>whnf
      refine k1.ne_of k5 (.inl (by omega)) ⟨rfl,w,g,all,m2+1,_,k5,.inl (by omega),fun s3 y3 j4=>⟨rfl,?_⟩⟩
      have RI:=y5.trans y3
      refine h.ne_of j4 (.inl (by omega)) (hQ _ _ _ (fr s3 RI) j4 hr2 (RI.get hne.1 hx2) ?_)
      exact jK.mono (fun i hi=>by have:=hx1.len;omega) (fun i hi a ha=>RI.get (by omega) ha) harg
     ·rw [aQ,if_neg (show ¬aY [41] (t2 :: r2)=true by rw [show aY [41] (t2 :: r2)=iK [41] t2 from rfl,hi2];decide)] at hQ
      exact hQ
  ·rw [if_pos ⟨show aY [40] (t :: r)=true from hi,h64⟩] at hQ
   exact hQ
 ·obtain⟨rfl,q⟩:=q
  conv=>whnf
  exact q
theorem Y_ (hno:EH all)(hnn:EJ all)(ih:WP p w g all n)(Xm:uJ p w g all n)(d:Nat)(Z:St)(m:Nat)(Q:AV->St->Prop)(h:PW p w g all Z m d .p0)(hd:d<=64)(he:aZ (all.drop m))(hn:10*(all.drop m).length+6<=n+1)(hQ:wH p w g all Z d Q (dI (n+1) d (all.drop m))):au X 143 [.p p 0 0] Z Q:=by
 obtain⟨t,r,hts⟩:=he.ne
 obtain⟨ht,hr⟩:=b_ hts
 have hpl:=bK h.obj
 have hlr:(all.drop m).length=r.length+1:=by rw [hts];rfl
 unfold dI at hQ
 rw [hts] at hQ
 simp only at hQ
 refine au.body (F:=Yp) ay (lit:=false) rfl rfl (aU rfl) ?_
 conv=>whnf
 have b1:(newCells 85 (AV.p p 0 0).cells Z)[Z.length]? =some ⟨0,false,.cells 85 [.p p 0 0]⟩:=aG _ _ _
 have x1:Ext Z (newCells 85 (AV.p p 0 0).cells Z):=(Ext.refl Z).new _ _
 have l1:(newCells 85 (AV.p p 0 0).cells Z).length=Z.length+1:=aH _ _ _
 generalize newCells 85 (AV.p p 0 0).cells Z=Z1 at b1 x1 l1 ⊢
 have h1:=h.ext x1
 refine ak (aj (T:=bf) rfl rfl (ah (b1)) rfl) ?_
 conv=>whnf
 refine au.to (jZ h1 ht) ?_
 conv=>whnf
 refine pW t fun Z2 x2 ht2 l2=>?_
 have h2:=h1.ext x2
 have b2:=x2.get b1
 have xx:aN p Z Z2:=aN.of (x1.trans x2)
 conv=>whnf
 refine ak (aj (T:=bf) rfl rfl (ah (b2)) rfl) ?_
 conv=>whnf
 refine oI [110,101,119] h2 ht (fun hi=>(aX he hts hi).1) (fun hi s y k=>?_) (fun hi=>?_)
 ·rw [if_neg (by rw [show aY [40] (t :: r)=iK [40] t from rfl,Ho hi (by decide)];decide),if_pos (show aY qF (t :: r)=true from hi),<-hr] at hQ
  obtain⟨hm1,he1,hle⟩:=aX he hts hi
  have hg:=(uD n).with_ d [40] [41] (all.drop (m+1)) he1 (by omega)
  conv=>whnf
  refine ak (aj (T:=bf) rfl rfl (ah (y.get (by omega) b2)) rfl) ?_
  conv=>whnf
  refine ak (aj (T:=fF) rfl rfl (ah (y.get (by omega) ht2)) rfl) ?_
  conv=>whnf
  refine ih.with_ d [40] [41] s (m+1) _ k hd he1 (by omega) ?_
  generalize gI n d [40] [41] (all.drop (m+1))=r1 at hg hQ
  cases r1 with
  | out=>exact hg.elim
  | bad c l=>exact False.elim hQ
  | ok z bI=>
    intro o g' s2 m2 y2 k2 hm2 LV
    have hQ:wH p w g all Z d Q (.ok (.ex 7 0 [] [] z .nil .nil t.l) bI):=hQ
    conv=>whnf
    refine⟨?_,?_⟩
    ·conv=>whnf
     refine ak (aj (T:=fF) rfl rfl (ah (y2.get (by omega) (y.get (by omega) ht2))) rfl) ?_
     rfl
    conv=>whnf
    have ly:=((xx.trans y).trans y2).len
    have ly1:=(xx.trans y).len
    refine Fin.ref rfl (hQ _ _ _ _ (((xx.trans y).trans y2).new _ _) (k2.new _ _) hm2 ⟨_,0,.p o g' 0,.p0,.sl0,ly,rfl,aG _ _ _,?_,rfl,rfl⟩)
    exact bP.mono (fun i hi=>by omega) (fun i hi a ha=>at_new ha _ _) LV
 ·conv=>whnf
  refine ak (aj (T:=bf) rfl rfl (ah (b2)) rfl) ?_
  conv=>whnf
  refine oI [105,110] h2 ht (fun hi=>(aX he hts hi).1) (fun hi2 s y k=>?_) (fun hi2=>?_)
  ·rw [if_neg (by rw [show aY [40] (t :: r)=iK [40] t from rfl,Ho hi2 (by decide)];decide),if_neg (by rw [show aY qF (t :: r)=iK [110,101,119] t from rfl,hi];decide),if_pos (show aY FM (t :: r)=true from hi2),<-hr] at hQ
   obtain⟨hm1,he1,hle⟩:=aX he hts hi2
   obtain⟨t2,r2,jE⟩:=he1.ne
   obtain⟨ht2',hr2⟩:=b_ jE
   unfold gV at hQ
   rw [jE] at hQ
   have c2:=y.get (by omega) b2
   conv=>whnf
   refine ak (aj (T:=bf) rfl rfl (ah (c2)) rfl) ?_
   conv=>whnf
   refine au.mono (Q:=fun v s'=>v= .tu []/\aN p s s'/\Q (.p s'.length 0 0) (newCells 48 [.i .i64 8,.i .u32 0,.s [],.s [],.p0,.p0,.sl0,.i .i64 t.l] s')) ?_ fun v s' q=>?_
   ·refine RF [40] k ht2' hd (fun hi=>(aX he1 jE hi).1) (fun hi h64 s1 y1 k1=>?_) (fun hi h64=>?_) (fun hi=>?_)
    ·rw [if_neg (by omega),aQ,if_pos (show aY [40] (t2 :: r2)=true from hi)] at hQ
     have hQ:wH p w g all Z d Q ((aQ [41] r2).bind fun _ ts=>.ok (.ex 8 0 [] [] .nil .nil .nil t.l) ts):=hQ
     obtain⟨hm3,he3,hle3⟩:=aX he1 jE hi
     obtain⟨t3,r3,FT⟩:=he3.ne
     obtain⟨ht3,hr3⟩:=b_ FT
     rw [<-hr2,FT] at hQ
     refine au.body (F:=Yt) ay (lit:=false) rfl rfl (aU rfl) ?_
     conv=>whnf
     refine ak (aj (T:=bf) rfl rfl (ah (y1.get (by omega) c2)) rfl) ?_
     conv=>whnf
     refine j_ [41] k1 ht3 (fun hi=>(aX he3 FT hi).1) (fun hi3 s5 y5 k5=>?_) (fun hi3=>?_)
     ·rw [aQ,if_pos (show aY [41] (t3 :: r3)=true from hi3)] at hQ
      conv=>whnf
      refine k1.ne_of k5 (.inl (by omega)) ⟨rfl,w,g,all,m+1+1+1,_,k5,.inl (by omega),fun s3 y3 j4=>⟨rfl,(y1.trans y5).trans y3,?_⟩⟩
      have yy:=((xx.trans y).trans ((y1.trans y5).trans y3))
      exact hQ _ _ _ _ (yy.new _ _) (j4.new _ _) hr3 ⟨_,0,.p0,.p0,.sl0,yy.len,rfl,aG _ _ _,rfl,rfl,rfl⟩
     ·rw [aQ,if_neg (show ¬aY [41] (t3 :: r3)=true by rw [show aY [41] (t3 :: r3)=iK [41] t3 from rfl,hi3];decide)] at hQ
      exact hQ
    ·rw [if_pos ⟨show aY [40] (t2 :: r2)=true from hi,h64⟩] at hQ
     exact hQ
    ·have hiw:¬aY [40] (t2 :: r2)=true:=by rw [show aY [40] (t2 :: r2)=iK [40] t2 from rfl,hi];decide
     rw [if_neg (fun e=>hiw e.1),aQ,if_neg hiw] at hQ
     exact hQ
   ·obtain⟨rfl,q1,q2⟩:=q
    conv=>whnf
    refine ak (aj (T:=fF) rfl rfl (ah (q1.get (by omega) (y.get (by omega) ht2))) rfl) ?_
    conv=>whnf
    exact Fin.ref rfl q2
  ·conv=>whnf
   refine ak (aj (T:=bf) rfl rfl (ah (b2)) rfl) ?_
   conv=>whnf
   have hW40:aY [40] (t :: r)=iK [40] t:=rfl
   have hnew:¬aY qF (t :: r)=true:=by rw [show aY qF (t :: r)=iK [110,101,119] t from rfl,hi];decide
   have hin:¬aY FM (t :: r)=true:=by rw [show aY FM (t :: r)=iK [105,110] t from rfl,hi2];decide
   refine VA hno hnn ih d Z2 m _ h2 hd he (by omega) ?_
   unfold h_
   rw [hts]
   simp only
   cases h40:iK [40] t with
   | true=>
     rw [if_pos (hW40.trans h40)] at hQ
     rw [if_pos (hW40.trans h40)]
     have hk1:t.k≠1:=by rcases isT_k h40 with h | h <;> omega
     generalize gI n d [40] [41] (t :: r)=r1 at hQ
     cases r1 with
     | out=>trivial
     | bad c l=>exact False.elim hQ
     | ok z bI=>
       intro o g' s m' y k hm' LV
       have ct:=y.get (by omega) ht2
       have lxx:=xx.len
       conv=>whnf
       refine ak (aC (T:=aW) ([.p o g' 0]) rfl (aG _ _ _) rfl rfl (aU rfl) rfl) ?_
       have x5:Ext s ((newCells 44 aW.zero.cells s).set s.length ⟨0,false,.cells 44 [.p o g' 0]⟩):=((Ext.refl s).new _ _).set (Nat.le_refl _) _
       have b5:((newCells 44 aW.zero.cells s).set s.length ⟨0,false,.cells 44 [.p o g' 0]⟩)[s.length]? =_:=at_set (aG _ _ _) _
       have l5:((newCells 44 aW.zero.cells s).set s.length ⟨0,false,.cells 44 [.p o g' 0]⟩).length=s.length+1:=by rw [gK,aH]
       generalize (newCells 44 aW.zero.cells s).set s.length ⟨0,false,.cells 44 [.p o g' 0]⟩=Z5 at b5 x5 l5 ⊢
       conv=>whnf
       refine ak (aj (T:=fF) rfl rfl (ah (x5.get ct)) rfl) ?_
       conv=>whnf
       rw [decide_eq_false (by omega)]
       conv=>whnf
       conv=>whnf
       refine ak (aj (T:=aW) rfl rfl (ah (b5)) rfl) ?_
       conv=>whnf
       exact Fin.ref rfl (hQ _ _ _ _ ((xx.trans y).trans (aN.of x5)) (k.ext x5) hm' (bP.mono (fun i hi=>by omega) (fun i hi a ha=>x5.get ha) LV))
   | false=>
     have hn40:¬aY [40] (t :: r)=true:=by rw [hW40,h40];decide
     rw [if_neg hn40,if_neg hnew,if_neg hin] at hQ
     rw [if_neg hn40]
     by_cases hk:t.k=2
     ·rw [if_pos hk] at hQ
      rw [if_pos hk]
      intro o g' s m' y k hm' LV
      have ct:=y.get (by omega) ht2
      have lxx:=xx.len
      conv=>whnf
      refine ak (aC (T:=aW) ([.p o g' 0]) rfl (aG _ _ _) rfl rfl (aU rfl) rfl) ?_
      have x5:Ext s ((newCells 44 aW.zero.cells s).set s.length ⟨0,false,.cells 44 [.p o g' 0]⟩):=((Ext.refl s).new _ _).set (Nat.le_refl _) _
      have b5:((newCells 44 aW.zero.cells s).set s.length ⟨0,false,.cells 44 [.p o g' 0]⟩)[s.length]? =_:=at_set (aG _ _ _) _
      have l5:((newCells 44 aW.zero.cells s).set s.length ⟨0,false,.cells 44 [.p o g' 0]⟩).length=s.length+1:=by rw [gK,aH]
      generalize (newCells 44 aW.zero.cells s).set s.length ⟨0,false,.cells 44 [.p o g' 0]⟩=Z5 at b5 x5 l5 ⊢
      conv=>whnf
      refine ak (aj (T:=fF) rfl rfl (ah (x5.get ct)) rfl) ?_
      conv=>whnf
      rw [decide_eq_false (by omega)]
      conv=>whnf
      conv=>whnf
      refine ak (aj (T:=aW) rfl rfl (ah (b5)) rfl) ?_
      conv=>whnf
      exact Fin.ref rfl (hQ _ _ _ _ ((xx.trans y).trans (aN.of x5)) (k.ext x5) hm' (bP.mono (fun i hi=>by omega) (fun i hi a ha=>x5.get ha) LV))
     ·rw [if_neg hk] at hQ
      rw [if_neg hk]
      by_cases hk1:t.k=1
      ·simp only [fA,if_pos hk1] at hQ ⊢
       intro o g' s m' y k hm' LV
       have he1:aZ (all.drop m'):=by rw [hm'];rw [hts] at he;exact he.tail (by rw [hk1];decide)
       obtain⟨t2,r2,jE⟩:=he1.ne
       obtain⟨ht2',hr2⟩:=b_ jE
       have hQ:wH p w g all Z d Q (if aY [40] r=true then(gV [40] d r).bind fun _ ts=>(fG n (d+1) true ts).bind fun a ts=>(aQ [41] ts).bind fun _ ts=>.ok (.ex 4 0 t.s [] .nil .nil a t.l) ts else .ok (qG t.s t.l) r):=hQ
       have hrr:r=t2 :: r2:=by rw [<-jE,hm']
       rw [hrr] at hQ
       have hez':=LV
       obtain⟨xo,xg,L,R,A,hso,hv,hob,hL,hR,hA⟩:=LV
       cases hv
       have hL:L= .p0:=hL
       have hR:R= .p0:=hR
       have hA:A= .sl0:=hA
       subst hL hR hA
       have ct:=y.get (by omega) ht2
       have cb:=y.get (by omega) b2
       have lxx:=xx.len
       have lh:=bK hob
       conv=>whnf
       refine ak (aC (T:=aW) ([.p o g' 0]) rfl (aG _ _ _) rfl rfl (aU rfl) rfl) ?_
       have x5:Ext s ((newCells 44 aW.zero.cells s).set s.length ⟨0,false,.cells 44 [.p o g' 0]⟩):=((Ext.refl s).new _ _).set (Nat.le_refl _) _
       have b5:((newCells 44 aW.zero.cells s).set s.length ⟨0,false,.cells 44 [.p o g' 0]⟩)[s.length]? =_:=at_set (aG _ _ _) _
       have l5:((newCells 44 aW.zero.cells s).set s.length ⟨0,false,.cells 44 [.p o g' 0]⟩).length=s.length+1:=by rw [gK,aH]
       generalize (newCells 44 aW.zero.cells s).set s.length ⟨0,false,.cells 44 [.p o g' 0]⟩=Z5 at b5 x5 l5 ⊢
       conv=>whnf
       have k5:=k.ext x5
       have cob:=x5.get hob
       refine ak (aj (T:=fF) rfl rfl (ah (x5.get ct)) rfl) ?_
       conv=>whnf
       rw [decide_eq_true (by omega)]
       conv=>whnf
       conv=>whnf
       refine ak (aj (T:=aW) rfl rfl (ah (b5)) rfl) ?_
       conv=>whnf
       refine ak (aj (T:=fF) rfl rfl (ah (cob)) rfl) ?_
       conv=>whnf
       refine ak (aj (T:=bf) rfl rfl (ah (x5.get cb)) rfl) ?_
       conv=>whnf
       have b6:(newCells 9 [.s [40]] Z5)[Z5.length]? =some ⟨0,false,.cells 9 [.s [40]]⟩:=aG _ _ _
       have x6:Ext Z5 (newCells 9 [.s [40]] Z5):=(Ext.refl Z5).new _ _
       have l6:(newCells 9 [.s [40]] Z5).length=Z5.length+1:=aH _ _ _
       generalize newCells 9 [.s [40]] Z5=Z6 at b6 x6 l6 ⊢
       have k6:=k5.ext x6
       refine au.to (BX [[40]] k6 ht2' Z5.length 0 (ah b6) (aU rfl)) ?_
       conv=>whnf
       rw [jU]
       cases h42:iK [40] t2 with
       | false=>
         rw [if_neg (by rw [show aY [40] (t2 :: r2)=iK [40] t2 from rfl,h42];decide)] at hQ
         conv=>whnf
         refine ak (aj (T:=aW) rfl rfl (ah (x6.get b5)) rfl) ?_
         conv=>whnf
         exact Fin.ref rfl (hQ _ _ _ _ ((xx.trans y).trans (aN.of (x5.trans x6))) k6 jE (bP.mono (fun i hi=>by omega) (fun i hi a ha=>x6.get (x5.get ha)) hez'))
       | true=>
         rw [if_pos (show aY [40] (t2 :: r2)=true from h42)] at hQ
         have hlen:(all.drop m').length=r2.length+1:=by rw [jE];rfl
         have hlen2:r.length=r2.length+1:=by rw [hrr];rfl
         have d5:=x6.get b5
         have dob:=x6.get cob
         have db:=x6.get (x5.get cb)
         have l6:=x6.len
         conv=>whnf
         refine ak (aj (T:=aW) rfl rfl (ah (d5)) rfl) ?_
         conv=>whnf
         refine ak (aC (T:=fF) ([.i .i64 4,.i .u32 0,.s t.s,.s [],.p0,.p0,.sl0,.i .i64 t.l]) rfl (dob) rfl rfl (aU rfl) rfl) ?_
         conv=>whnf
         have hne5:o≠s.length:=by omega
         have hob1:o≠p:=by omega
         have fr:bV p o Z6 (Z6.set o (jF g' t.s t.l .sl0)):=bV.bT _ _ _ _
         have k7:PW p w g all (Z6.set o (jF g' t.s t.l .sl0)) m' d .p0:=k6.bT dob (by decide) (by decide) _
         have e5:(Z6.set o (jF g' t.s t.l .sl0))[s.length]? =_:=aK d5 hne5 _
         have eb:(Z6.set o (jF g' t.s t.l .sl0))[Z.length]? =_:=aK db (by omega) _
         have eo:(Z6.set o (jF g' t.s t.l .sl0))[o]? =some (jF g' t.s t.l .sl0):=at_set dob _
         have x67:aN p Z (Z6.set o (jF g' t.s t.l .sl0)):=((xx.trans y).trans (aN.of (x5.trans x6))).bJ fr (by omega)
         show _
         refine ak (aj (T:=bf) rfl rfl (ah (eb)) rfl) ?_
         conv=>whnf
         refine RH Xm d o s.length Z.length g' t.s t.l (Z6.set o (jF g' t.s t.l .sl0)) m' _ t2 r2 k7 hd he1 jE h42 (by omega) e5 eb eo ⟨by omega,by omega,by omega,by omega,by omega⟩ ?_
         generalize hR:((gV [40] d (t2 :: r2)).bind fun _ ts=>(fG n (d+1) true ts).bind fun a ts=>(aQ [41] ts).bind fun _ ts=>(Re.ok a ts:Re jA))=R
         have hQ':wH p w g all Z d Q (R.bind fun a ts=>.ok (.ex 4 0 t.s [] .nil .nil a t.l) ts):=by
               rw [<-hR]
               revert hQ
               generalize gV [40] d (t2 :: r2)=r5
               cases r5 with
               | out=>exact id
               | bad c l=>exact id
               | ok _ su=>
                 show wH p w g all Z d Q ((fG n (d+1) true su).bind _)->wH p w g all Z d Q (((fG n (d+1) true su).bind _).bind _)
                 generalize fG n (d+1) true su=r6
                 cases r6 with
                 | out=>exact id
                 | bad c l=>exact id
                 | ok a Xj=>
                   show wH p w g all Z d Q ((aQ [41] Xj).bind _)->wH p w g all Z d Q (((aQ [41] Xj).bind _).bind _)
                   generalize aQ [41] Xj=r7
                   cases r7 <;> exact id
         clear hQ hR
         have l7:=x67.len
         cases R with
         | out=>trivial
         | bad c l=>exact False.elim hQ'
         | ok a bI=>
           intro A' s' m2 fr' k' hm2 ho' ha
           conv=>whnf
           refine ak (aj (T:=aW) rfl rfl (ah (fr'.get (by omega) (fun e=>hne5 e.symm) e5)) rfl) ?_
           conv=>whnf
           refine Fin.ref rfl (hQ' _ _ _ _ (x67.bJ fr' (by omega)) k' hm2 ⟨o,g',.p0,.p0,A',by omega,rfl,ho',rfl,rfl,jK.mono (fun i hi=>by omega) (fun i hi a ha=>ha) ha⟩)
      ·simp only [fA,if_neg hk1] at hQ
       exact False.elim hQ
end
end Go.Abs.YtlkfbfhkcaldlaaGreatDoor
namespace Go.Abs.YtlkfbfhkcaldlaaGreatDoor
open Go.Proofs
set_option maxRecDepth 4000
section
variable {p w g:Nat} {all:List Tok} {n:Nat}
theorem Vx.ext {k j B d:Nat} {Z Z1:St} {Q:Out->Env->St->Prop} {r:Re Tr} (hQ:Vx k j p w g all B Z d Q r)(x:aN p Z Z1):Vx k j p w g all B Z1 d Q r:=by
 cases r with
 | out=>trivial
 | bad c l=>exact False.elim hQ
 | ok y ts=>exact fun o g' Z2 m2 e' q1 q2 x2 h2=>hQ o g' Z2 m2 e' q1 q2 (x.trans x2) h2
theorem wH.toPL {k d:Nat} {Z Z1:St} {Q:AV->St->Prop} {Q':Out->Env->St->Prop} {r:Re Tr} (hQ:wH p w g all Z d Q r)(x1:aN p Z Z1)(q:∀o g' s e',get e' k= .p o g' 0->get e' 1000000= .u->Q (.p o g' 0) s->Q' (.exit 0) e' s):Vx k k p w g all Z.length Z1 d Q' r:=by
 cases r with
 | out=>trivial
 | bad c l=>exact False.elim hQ
 | ok y ts=>exact fun o g' Z2 m2 e' q1 q2 x2 h2 hm hex=>q o g' Z2 e' q1 q2 (hQ o g' Z2 m2 (x1.trans x2) h2 hm hex)
theorem bP.Ar {B:Nat} {Z Z':St} {v:AV} {t:Tr} (h:bP (fun i=>B<=i) Z v t)(x:aN p Z Z')(hp:p<B):bP (fun i=>B<=i) Z' v t:=bP.mono (fun i hi=>hi) (fun i hi a ha=>x.get (by omega) ha) h
theorem Za (ih:WP p w g all n)(d B:Nat)(x:Tr)(Z:St)(m o g':Nat)(Q:Out->Env->St->Prop)(h:PW p w g all Z m d .p0)(hd:d<=64)(hp:p<B)(hB:B<=Z.length)(hnx:I8 x)(hex:bP (fun i=>B<=i) Z (.p o g' 0) x)(he:aZ (all.drop m))(hn:10*(all.drop m).length+9<=n+1)
 (hQ:Vx 3 3 p w g all B Z d Q (dP (n+1) d x (all.drop m))):aV X [0,3] Iz [(0,.p p 0 0),(3,.p o g' 0)] Z Q:=by
 obtain⟨t,r,hts⟩:=he.ne
 obtain⟨ht,hr⟩:=b_ hts
 have hpl:=bK h.obj
 have hlr:(all.drop m).length=r.length+1:=by rw [hts];rfl
 unfold dP at hQ
 rw [hts] at hQ
 simp only at hQ
 refine aV.round ay (lit:=false) ?_
 conv=>whnf
 have b1:(newCells 9 [.s [91],.s [58]] Z)[Z.length]? =some ⟨0,false,.cells 9 [.s [91],.s [58]]⟩:=aG _ _ _
 have x1:Ext Z (newCells 9 [.s [91],.s [58]] Z):=(Ext.refl Z).new _ _
 have l1:(newCells 9 [.s [91],.s [58]] Z).length=Z.length+1:=aH _ _ _
 generalize newCells 9 [.s [91],.s [58]] Z=Z1 at b1 x1 l1 ⊢
 have h1:=h.ext x1
 refine au.to (BX [[91],[58]] h1 ht Z.length 0 (ah b1) (aU rfl)) ?_
 conv=>whnf
 rw [LM]
 cases hi:(iK [91] t || iK [58] t) with
 | false=>
   rw [Bool.or_eq_false_iff] at hi
   rw [if_neg (by rw [show aY [91] (t :: r)=iK [91] t from rfl,hi.1];decide),if_neg (by rw [show aY [58] (t :: r)=iK [58] t from rfl,hi.2];decide)] at hQ
   conv=>whnf
   exact hQ o g' Z1 m _ rfl rfl (aN.of x1) h1 hts (hex.Ar (aN.of x1) hp)
 | true=>
   conv=>whnf
   refine au.to (jZ h1 ht) ?_
   conv=>whnf
   refine pW t fun Z2 x2 ht2 l2=>?_
   have h2:=h1.ext x2
   have xx:aN p Z Z2:=aN.of (x1.trans x2)
   have hex2:=hex.Ar xx hp
   have lxx:=xx.len
   conv=>whnf
   refine ak (aj (T:=fB) rfl rfl (ah (ht2)) rfl) ?_
   conv=>whnf
   cases h91:iK [91] t with
   | true=>
     have hs:t.s=[91]:=by unfold iK at h91;simp only [fJ,beq_iff_eq] at h91;exact h91.2
     rw [if_pos (show aY [91] (t :: r)=true from h91),<-hts] at hQ
     rw [show (t.s == [91])=true by rw [hs];rfl]
     have hg:=(uD n).with_ d [91] [93] (all.drop m) he (by omega)
     conv=>whnf
     refine ak (aj (T:=fF) rfl rfl (ah (ht2)) rfl) ?_
     conv=>whnf
     refine ih.with_ d [91] [93] Z2 m _ h2 hd he (by omega) ?_
     generalize gI n d [91] [93] (all.drop m)=r1 at hg hQ
     cases r1 with
     | out=>exact hg.elim
     | bad c l=>exact False.elim hQ
     | ok y bI=>
       intro o2 g2 s2 m2 y2 k2 hm2 LP
       have hQ:Vx 3 3 p w g all B Z d Q (dP n d (.ex 5 0 [] [] x y .nil t.l) bI):=hQ
       rw [<-hm2] at hQ hg
       have lg:=hg.2.2
       have l22:=y2.len
       conv=>whnf
       refine⟨?_,?_⟩
       ·conv=>whnf
        refine ak (aj (T:=fF) rfl rfl (ah (y2.get (by omega) ht2)) rfl) ?_
        rfl
       conv=>whnf
       refine ih.uz d B (.ex 5 0 [] [] x y .nil t.l) _ m2 _ _ Q (k2.new _ _) hd hp (by rw [aH];omega) trivial ?_ hg.2.1 (by omega) (hQ.ext ((xx.trans y2).new _ _))
       refine⟨_,0,.p o g' 0,.p o2 g2 0,.sl0,by omega,rfl,aG _ _ _,?_,?_,rfl⟩
       ·exact(hex2.Ar y2 hp).Ar ((aN.refl p s2).new _ _) hp
       ·exact bP.mono (fun i hi=>by omega) (fun i hi a ha=>at_new ha _ _) LP
   | false=>
     rw [h91,Bool.false_or] at hi
     have hs:t.s=[58]:=by unfold iK at hi;simp only [fJ,beq_iff_eq] at hi;exact hi.2
     rw [if_neg (by rw [show aY [91] (t :: r)=iK [91] t from rfl,h91];decide),if_pos (show aY [58] (t :: r)=true from hi),<-hr] at hQ
     rw [show (t.s == [91])=false by rw [hs];rfl]
     obtain⟨hm1,he1,hle⟩:=aX he hts hi
     have hg:=(uD n).cell d (all.drop (m+1)) he1 (by omega)
     conv=>whnf
     refine jm h2 hm1 fun Z3 x3 h3=>?_
     have ht3:=x3.get (by omega) ht2
     have xx3:=xx.trans x3
     have lx3:=x3.len
     conv=>whnf
     refine ak (aj (T:=fF) rfl rfl (ah (ht3)) rfl) ?_
     conv=>whnf
     refine ih.cell d Z3 (m+1) _ h3 hd he1 (by omega) ?_
     generalize h_ n d (all.drop (m+1))=r1 at hg hQ
     cases r1 with
     | out=>exact hg.elim
     | bad c l=>exact False.elim hQ
     | ok y bI=>
       intro o2 g2 s2 m2 y2 k2 hm2 LP
       have hQ:Vx 3 3 p w g all B Z d Q (dP n d (.ex 6 0 [] [] x y .nil t.l) bI):=hQ
       rw [<-hm2] at hQ hg
       have lg:=hg.2.2
       have l22:=y2.len
       conv=>whnf
       refine⟨?_,?_⟩
       ·conv=>whnf
        refine ak (aj (T:=fF) rfl rfl (ah (y2.get (by omega) ht3)) rfl) ?_
        rfl
       conv=>whnf
       refine ih.uz d B (.ex 6 0 [] [] x y .nil t.l) _ m2 _ _ Q (k2.new _ _) hd hp (by rw [aH];omega) trivial ?_ hg.2.1 (by omega) (hQ.ext ((xx3.trans y2).new _ _))
       refine⟨_,0,.p o g' 0,.p o2 g2 0,.sl0,by omega,rfl,aG _ _ _,?_,?_,rfl⟩
       ·exact((hex2.Ar x3 hp).Ar y2 hp).Ar ((aN.refl p s2).new _ _) hp
       ·exact bP.mono (fun i hi=>by omega) (fun i hi a ha=>at_new ha _ _) LP
theorem post_p (ih:WP p w g all n)(d:Nat)(Z:St)(m:Nat)(Q:AV->St->Prop)(h:PW p w g all Z m d .p0)(hd:d<=64)(he:aZ (all.drop m))(hn:10*(all.drop m).length+7<=n+1)(hQ:wH p w g all Z d Q (gW (n+1) d (all.drop m))):au X 124 [.p p 0 0] Z Q:=by
 have hpl:=bK h.obj
 unfold gW at hQ
 have hg:=(uD n).first d (all.drop m) he (by omega)
 refine au.body (F:=Ym) ay (lit:=false) rfl rfl (aU rfl) ?_
 conv=>whnf
 refine ih.first d Z m _ h hd he (by omega) ?_
 generalize dI n d (all.drop m)=r1 at hg hQ
 cases r1 with
 | out=>exact hg.elim
 | bad c l=>exact False.elim hQ
 | ok x bI=>
   intro o g' s m2 y k hm2 hex
   have hQ:wH p w g all Z d Q (dP n d x bI):=hQ
   rw [<-hm2] at hQ hg
   have lg:=hg.2.2
   conv=>whnf
   refine ih.uz d Z.length x s m2 o g' _ k hd hpl y.len hg.1 hex hg.2.1 (by omega) (hQ.toPL y fun o g' s e' q1 q2 q=>?_)
   conv=>whnf
   rw [show Opd.ev e' (.t 3)=get e' 3 from rfl,q1]
   conv=>whnf
   exact Fin.ref rfl q
theorem loop_p (ih:WP p w g all n)(d c B:Nat)(x:Tr)(Z:St)(m o g':Nat)(Q:Out->Env->St->Prop)(h:PW p w g all Z m d .p0)(hd:d<=64)(hc8:c<=8)(hp:p<B)(hB:B<=Z.length)(hnx:I8 x)(hex:bP (fun i=>B<=i) Z (.p o g' 0) x)(he:aZ (all.drop m))(hn:10*(all.drop m).length+9<=n+1)
 (hQ:Vx 5 5 p w g all B Z d Q (fZ (n+1) d c x (all.drop m))):aV X [0,1,5] Iy [(0,.p p 0 0),(1,.i .i64 c),(5,.p o g' 0)] Z Q:=by
 obtain⟨t,r,hts⟩:=he.ne
 obtain⟨ht,hr⟩:=b_ hts
 have hpl:=bK h.obj
 have hb6:=G_ t.s
 have hlr:(all.drop m).length=r.length+1:=by rw [hts];rfl
 unfold fZ at hQ
 rw [hts] at hQ
 simp only at hQ
 refine aV.round ay (lit:=false) ?_
 conv=>whnf
 refine au.to (mW h) ?_
 conv=>whnf
 refine au.to (jZ h ht) ?_
 conv=>whnf
 refine pW t fun Z1 x1 ht1 l1=>?_
 have h1:=h.ext x1
 have xx:aN p Z Z1:=aN.of x1
 conv=>whnf
 refine ak (aj (T:=fB) rfl rfl (ah (ht1)) rfl) ?_
 conv=>whnf
 refine au.to (Qe t.s Z1) ?_
 conv=>whnf
 refine ak (aj (T:=fF) rfl rfl (ah (ht1)) rfl) ?_
 conv=>whnf
 by_cases hk:t.k=3
 ·rw [decide_eq_true (by omega)]
  conv=>whnf
  conv=>whnf
  by_cases hz:aF t.s=0
  ·rw [decide_eq_true (by omega)]
   conv=>whnf
   rw [if_neg (fun e=>e.2.1 hz)] at hQ
   conv=>whnf
   exact hQ o g' Z1 m _ rfl rfl xx h1 hts (hex.Ar xx hp)
  ·rw [decide_eq_false (by omega)]
   conv=>whnf
   conv=>whnf
   by_cases hb:aF t.s<c
   ·rw [decide_eq_true (by omega)]
    conv=>whnf
    rw [if_neg (fun e=>e.2.2 hb)] at hQ
    conv=>whnf
    exact hQ o g' Z1 m _ rfl rfl xx h1 hts (hex.Ar xx hp)
   ·rw [decide_eq_false (by omega)]
    conv=>whnf
    rw [if_pos ⟨hk,hz,hb⟩,<-hr] at hQ
    have he1:aZ (all.drop (m+1)):=by rw [hr];rw [hts] at he;exact he.tail (by rw [hk];decide)
    have hle:(all.drop (m+1)).length=r.length:=by rw [hr]
    have hg:=(uD n).expr d (aF t.s+1) (all.drop (m+1)) he1 (by omega)
    conv=>whnf
    refine jm h1 (uG he1) fun Z3 x3 h3=>?_
    have ht3:=x3.get (by omega) ht1
    have xx3:=xx.trans x3
    have lx3:=xx3.len
    conv=>whnf
    refine ak (aj (T:=fB) rfl rfl (ah (ht3)) rfl) ?_
    conv=>whnf
    refine⟨((aF t.s+1:Nat):Int),by rw [wrap_i64 (by omega) (by omega)];omega,?_⟩
    conv=>whnf
    refine ak (aj (T:=fF) rfl rfl (ah (ht3)) rfl) ?_
    conv=>whnf
    refine ih.expr d (aF t.s+1) Z3 (m+1) _ h3 hd (by omega) he1 (by omega) ?_
    generalize dn n d (aF t.s+1) (all.drop (m+1))=r1 at hg hQ
    cases r1 with
    | out=>exact hg.elim
    | bad c l=>exact False.elim hQ
    | ok y bI=>
      intro o2 g2 s2 m2 y2 k2 hm2 LP
      have hQ:Vx 5 5 p w g all B Z d Q (fZ n d c (.ex 3 0 [] t.s x y .nil t.l) bI):=hQ
      rw [<-hm2] at hQ hg
      have lg:=hg.2.2
      have l22:=y2.len
      conv=>whnf
      refine⟨?_,?_⟩
      ·conv=>whnf
       refine ak (aj (T:=fB) rfl rfl (ah (y2.get (by omega) ht3)) rfl) ?_
       rfl
      conv=>whnf
      refine⟨?_,?_⟩
      ·conv=>whnf
       refine ak (aj (T:=fF) rfl rfl (ah (y2.get (by omega) ht3)) rfl) ?_
       rfl
      conv=>whnf
      refine ih.loop d c B (.ex 3 0 [] t.s x y .nil t.l) _ m2 _ _ Q (k2.new _ _) hd hc8 hp (by rw [aH];omega) trivial ?_ hg.2.1 (by omega) (hQ.ext ((xx3.trans y2).new _ _))
      refine⟨_,0,.p o g' 0,.p o2 g2 0,.sl0,by omega,rfl,aG _ _ _,?_,?_,rfl⟩
      ·exact((hex.Ar xx3 hp).Ar y2 hp).Ar ((aN.refl p s2).new _ _) hp
      ·exact bP.mono (fun i hi=>by omega) (fun i hi a ha=>at_new ha _ _) LP
 ·rw [decide_eq_false (by omega)]
  conv=>whnf
  rw [if_neg (fun e=>hk e.1)] at hQ
  conv=>whnf
  exact hQ o g' Z1 m _ rfl rfl xx h1 hts (hex.Ar xx hp)
theorem expr_p (ih:WP p w g all n)(d c:Nat)(Z:St)(m:Nat)(Q:AV->St->Prop)(h:PW p w g all Z m d .p0)(hd:d<=64)(hc8:c<=8)(he:aZ (all.drop m))(hn:10*(all.drop m).length+9<=n+1)(hQ:wH p w g all Z d Q (dn (n+1) d c (all.drop m))):au X 122 [.p p 0 0,.i .i64 c] Z Q:=by
 have hpl:=bK h.obj
 unfold dn at hQ
 have hg:=(uD n).un d (all.drop m) he (by omega)
 refine au.body (F:=Yl) ay (lit:=false) rfl rfl (aU rfl) ?_
 conv=>whnf
 refine ih.un d Z m _ h hd he (by omega) ?_
 generalize xP n d (all.drop m)=r1 at hg hQ
 cases r1 with
 | out=>exact hg.elim
 | bad c l=>exact False.elim hQ
 | ok x bI=>
   intro o g' s m2 y k hm2 hex
   have hQ:wH p w g all Z d Q (fZ n d c x bI):=hQ
   rw [<-hm2] at hQ hg
   have lg:=hg.2.2
   conv=>whnf
   refine ih.loop d c Z.length x s m2 o g' _ k hd hc8 hpl y.len hg.1 hex hg.2.1 (by omega) (hQ.toPL y fun o g' s e' q1 q2 q=>?_)
   conv=>whnf
   rw [q2]
   conv=>whnf
   rw [q1]
   conv=>whnf
   exact Fin.ref rfl q
theorem allP (hno:EH all)(hnn:EJ all):∀n,WP p w g all n/\uJ p w g all n
 | 0=>⟨⟨fun _ _ _ _ _ _ _ _ _ h=>absurd h (by omega),fun _ _ _ _ _ _ _ h=>absurd h (by omega),fun _ _ _ _ _ _ _ h=>absurd h (by omega),fun _ _ _ _ _ _ _ _ _ h=>absurd h (by omega),fun _ _ _ _ _ _ _ h=>absurd h (by omega),fun _ _ _ _ _ _ _ h=>absurd h (by omega),fun _ _ _ _ _ _ _ _ _ _ _ _ _ _ _ h=>absurd h (by omega),fun _ _ _ _ _ _ _ _ _ _ _ _ _ _ _ _ _ h=>absurd h (by omega)⟩,by intro d B xo bx b1 b4 b5 xg nm ln _ _ _ _ _ acc A Z m Q _ _ _ _ _ _ _ _ _ h;omega⟩
 | n+1=>by
   obtain⟨ih,Xm⟩:=allP hno hnn n
   exact⟨⟨fun d c Z m Q h hd hc he hn hQ=>expr_p ih d c Z m Q h hd hc he hn hQ,fun d Z m Q h hd he hn hQ=>un_p ih d Z m Q h hd he hn hQ,fun d Z m Q h hd he hn hQ=>post_p ih d Z m Q h hd he hn hQ,fun d a b Z m Q h hd he hn hQ=>Vy ih d a b Z m Q h hd he hn hQ,fun d Z m Q h hd he hn hQ=>VA hno hnn ih d Z m Q h hd he hn hQ,fun d Z m Q h hd he hn hQ=>Y_ hno hnn ih Xm d Z m Q h hd he hn hQ,fun d B x Z m o g' Q h hd hp hB hx he' he hn hQ=>Za ih d B x Z m o g' Q h hd hp hB hx he' he hn hQ,fun d c B x Z m o g' Q h hd hc hp hB hx he' he hn hQ=>loop_p ih d c B x Z m o g' Q h hd hc hp hB hx he' he hn hQ⟩,args_p ih Xm⟩
end
end Go.Abs.YtlkfbfhkcaldlaaGreatDoor
namespace Go.Abs.YtlkfbfhkcaldlaaGreatDoor
open Go.Proofs
set_option maxRecDepth 4000
mutual
def jc (S:Nat->Prop)(Z:St)(v:AV):Sm->Prop
 | .st k name ptr l r th el line=>∃(o g:Nat) (L R T E:AV),S o/\v= .p o g 0/\Z[o]? =some ⟨g,false,.cells 95 [.i .i64 k,.s name,.b ptr,L,R,T,E,.i .i64 line]⟩/\bP S Z L l/\bP S Z R r/\dX S Z T th/\dX S Z E el
def dX (S:Nat->Prop)(Z:St)(v:AV):gY->Prop
 | .nil=>v= .sl0
 | .cons s r=>∃(o g:Nat) (cs:List AV),S o/\v= .sl o g 0 cs.length 1/\Z[o]? =some ⟨g,false,.cells 96 cs⟩/\∃a tl,cs=a :: tl/\jc S Z a s/\LW S Z tl r
def LW (S:Nat->Prop)(Z:St)(cs:List AV):gY->Prop
 | .nil=>cs=[]
 | .cons s r=>∃a tl,cs=a :: tl/\jc S Z a s/\LW S Z tl r
end
mutual
theorem jc.mono {S S':Nat->Prop} {Z Z':St} (h1:∀o,S o->S' o)(h2:∀o,S o->∀a,Z[o]? =some a->Z'[o]? =some a):∀{t:Sm} {v:AV},jc S Z v t->jc S' Z' v t
 | .st k name ptr l r th el line,v,h=>by
   obtain⟨o,g,L,R,T,E,hs,hv,ho,hl,hr,ht,he⟩:=h
   exact⟨o,g,L,R,T,E,h1 o hs,hv,h2 o hs _ ho,bP.mono h1 h2 hl,bP.mono h1 h2 hr,dX.mono h1 h2 ht,dX.mono h1 h2 he⟩
theorem dX.mono {S S':Nat->Prop} {Z Z':St} (h1:∀o,S o->S' o)(h2:∀o,S o->∀a,Z[o]? =some a->Z'[o]? =some a):∀{t:gY} {v:AV},dX S Z v t->dX S' Z' v t
 | .nil,v,h=>h
 | .cons t r,v,h=>by
   obtain⟨o,g,cs,hs,hv,ho,a,tl,hc,hx,hl⟩:=h
   exact⟨o,g,cs,h1 o hs,hv,h2 o hs _ ho,a,tl,hc,jc.mono h1 h2 hx,LW.mono h1 h2 hl⟩
theorem LW.mono {S S':Nat->Prop} {Z Z':St} (h1:∀o,S o->S' o)(h2:∀o,S o->∀a,Z[o]? =some a->Z'[o]? =some a):∀{t:gY} {cs:List AV},LW S Z cs t->LW S' Z' cs t
 | .nil,cs,h=>h
 | .cons t r,cs,h=>by
   obtain⟨a,tl,hc,h3,h4⟩:=h
   exact⟨a,tl,hc,jc.mono h1 h2 h3,LW.mono h1 h2 h4⟩
end
mutual
theorem jc.below {S:Nat->Prop} {Z:St} :∀{t:Sm} {v:AV},jc S Z v t->jc (fun o=>S o/\o<Z.length) Z v t
 | .st k name ptr l r th el line,v,h=>by
   obtain⟨o,g,L,R,T,E,hs,hv,ho,hl,hr,ht,he⟩:=h
   exact⟨o,g,L,R,T,E,⟨hs,bK ho⟩,hv,ho,bP.below hl,bP.below hr,dX.below ht,dX.below he⟩
theorem dX.below {S:Nat->Prop} {Z:St} :∀{t:gY} {v:AV},dX S Z v t->dX (fun o=>S o/\o<Z.length) Z v t
 | .nil,v,h=>h
 | .cons t r,v,h=>by
   obtain⟨o,g,cs,hs,hv,ho,a,tl,hc,hx,hl⟩:=h
   exact⟨o,g,cs,⟨hs,bK ho⟩,hv,ho,a,tl,hc,jc.below hx,LW.below hl⟩
theorem LW.below {S:Nat->Prop} {Z:St} :∀{t:gY} {cs:List AV},LW S Z cs t->LW (fun o=>S o/\o<Z.length) Z cs t
 | .nil,cs,h=>h
 | .cons t r,cs,h=>by
   obtain⟨a,tl,hc,h3,h4⟩:=h
   exact⟨a,tl,hc,jc.below h3,LW.below h4⟩
end
def RJ (B:Nat)(Z:St)(v:AV)(cs:List AV):Prop:=(cs=[]/\v= .sl0)\/∃o g,B<=o/\v= .sl o g 0 cs.length 1/\Z[o]? =some ⟨g,false,.cells 96 cs⟩/\cs≠[]
theorem VD {B:Nat} {Z:St} {v:AV} {cs:List AV} (h:RJ B Z v cs) {oy gy:Nat} (hcs:cs.all AV.one=true)(hl:cs.length<=100000) {C:Nat} (hC:Z[C]? =some ⟨0,false,.cells 96 [.p oy gy 0]⟩)(hB:B<=Z.length) {Q:AV->St->Prop}
 (q:∀v' Z',RJ B Z' v' (cs ++ [.p oy gy 0])->Z.length<=Z'.length->(∀i,i<Z.length->apart v i->Z'[i]? =Z[i]?/\apart v' i)->(∀i,i<B->Z'[i]? =Z[i]?)->(∀i,Z'.length<=i->apart v' i)->Q v' Z') :
 D8 KL.get false 67 v (.sl C 0 0 1 1) Z Q:=by
 constructor
 refine ak (v:=dL) rfl ?_
 refine ak (v:=dH) rfl ?_
 refine ak (kG hC (aU rfl)) ?_
 rcases h with ⟨rfl,rfl⟩ | ⟨o,g,h1,rfl,h3,_⟩
 ·refine⟨aU rfl,?_⟩
  refine q _ _ (.inr ⟨Z.length,0,hB,rfl,?_,by simp⟩) (by rw [aH];omega) (fun i hi _=>⟨eu hi,fun o g n z e=>by cases e;omega⟩) (fun i hi=>eu (by omega)) (fun i hi o g n z e=>by cases e;rw [aH] at hi;omega)
  rw [aG];rfl
 ·refine ak (oC h3) ?_
  refine⟨rfl,by simp,?_,by rw [List.drop_zero,List.take_of_length_le (by omega)];exact hcs,?_⟩
  ·show (cs.length+1)*8<=_;omega
  refine q _ _ (.inr ⟨o,g+1,h1,by simp,?_,by simp⟩) (by rw [gK];exact Nat.le_refl _) (fun i hi ha=>⟨by rw [rZ (fun e=>ha o g _ _ rfl e.symm)],fun o' g' n z e=>by cases e;exact ha o g _ _ rfl⟩) (fun i hi=>by rw [rZ (by omega)]) (fun i hi o' g' n z e=>by cases e;rw [gK] at hi;have:=bK h3;omega)
  rw [at_set h3]
  simp [List.take_of_length_le]
  rfl
def je (S:Nat->Prop)(Z:St):List AV->List Sm->Prop
 | [],[]=>True
 | a :: cs,x :: xs=>(∃o g,a= .p o g 0)/\jc S Z a x/\je S Z cs xs
 | _,_=>False
theorem je.mono {S S':Nat->Prop} {Z Z':St} (h1:∀o,S o->S' o)(h2:∀o,S o->∀a,Z[o]? =some a->Z'[o]? =some a):∀{cs:List AV} {xs:List Sm},je S Z cs xs->je S' Z' cs xs
 | [],[],_=>trivial
 | a :: cs,x :: xs,h=>⟨h.1,jc.mono h1 h2 h.2.1,je.mono h1 h2 h.2.2⟩
theorem je.snoc {S:Nat->Prop} {Z:St} :∀{cs:List AV} {xs:List Sm} {a:AV} {x:Sm},je S Z cs xs->(∃o g,a= .p o g 0)->jc S Z a x->je S Z (cs ++ [a]) (xs ++ [x])
 | [],[],a,x,_,ha,hx=>⟨ha,hx,trivial⟩
 | b :: cs,y :: xs,a,x,h,ha,hx=>⟨h.1,h.2.1,je.snoc h.2.2 ha hx⟩
theorem je.len {S:Nat->Prop} {Z:St} :∀{cs:List AV} {xs:List Sm},je S Z cs xs->cs.length=xs.length
 | [],[],_=>rfl
 | a :: cs,x :: xs,h=>by have:=je.len h.2.2;simp [this]
theorem je.one {S:Nat->Prop} {Z:St} :∀{cs:List AV} {xs:List Sm},je S Z cs xs->cs.all AV.one=true
 | [],[],_=>rfl
 | a :: cs,x :: xs,h=>by
   obtain⟨o,g,rfl⟩:=h.1
   rw [List.all_cons,je.one h.2.2];rfl
def LX:List Sm->gY
 | []=>.nil
 | x :: xs=>.cons x (LX xs)
def EK:gY->List Sm
 | .nil=>[]
 | .cons x xs=>x :: EK xs
theorem VE:∀xs:gY,LX (EK xs)=xs
 | .nil=>rfl
 | .cons x xs=>by show gY.cons x (LX (EK xs))=_;rw [VE xs]
theorem je.jy {S:Nat->Prop} {Z:St} :∀{cs:List AV} {xs:List Sm},je S Z cs xs->LW S Z cs (LX xs)
 | [],[],_=>rfl
 | a :: cs,x :: xs,h=>⟨a,cs,rfl,h.2.1,je.jy h.2.2⟩
def FU (B:Nat)(Z:St)(v:AV)(xs:List Sm):Prop:=∃cs,RJ B Z v cs/\je (fun i=>B<=i/\apart v i) Z cs xs
theorem FU.arg {B:Nat} {Z:St} {v:AV} {xs:List Sm} (h:FU B Z v xs):dX (fun i=>B<=i) Z v (LX xs):=by
 obtain⟨cs,h1,h2'⟩:=h
 have h2:je (fun i=>B<=i) Z cs xs:=h2'.mono (fun i hi=>hi.1) (fun i hi a ha=>ha)
 rcases h1 with ⟨rfl,rfl⟩ | ⟨o,g,q1,rfl,q3,q4⟩
 ·cases xs with
  | nil=>rfl
  | cons _ _=>exact h2.elim
 ·cases cs with
  | nil=>
    cases xs with
    | nil=>exact(q4 rfl).elim
    | cons _ _=>exact h2.elim
  | cons a cs=>
    cases xs with
    | nil=>exact h2.elim
    | cons x xs=>exact⟨o,g,a :: cs,q1,rfl,q3,a,cs,rfl,h2.2.1,h2.2.2.jy⟩
theorem RJ.sl {B:Nat} {Z:St} {v:AV} {cs:List AV} (h:RJ B Z v cs):JI v:=by
 rcases h with ⟨_,rfl⟩ | ⟨o,g,_,rfl,_⟩
 ·exact .inl rfl
 ·exact .inr ⟨_,_,_,rfl⟩
theorem je.below {S:Nat->Prop} {Z:St} :∀{cs:List AV} {xs:List Sm},je S Z cs xs->je (fun o=>S o/\o<Z.length) Z cs xs
 | [],[],_=>trivial
 | a :: cs,x :: xs,h=>⟨h.1,h.2.1.below,h.2.2.below⟩
theorem LY {p B D:Nat} {Z0 Z2:St} {A:AV} {acc:List Sm} (ha:FU B Z0 A acc)(x2:aN p Z0 Z2)(hp:p<B)(hB:B<=Z0.length)(hD:D<=Z2.length)(hD0:Z0.length<=D)(hl:acc.length<=90000)(oy gy:Nat) {Q:AV->St->Prop}
 (q:∀o3 g3 k Z3,(∀i,i<B->Z3[i]? =Z2[i]?)->Z2.length<=Z3.length->(∀(i:Nat) (a:AO),Z2[i]? =some a->(∀(g:Nat) (ro:Bool) (cs:List AV),a≠⟨g,ro,.cells 96 cs⟩)->Z3[i]? =some a)->(∀y,jc (fun i=>D<=i) Z2 (.p oy gy 0) y->FU B Z3 (.sl o3 g3 0 k 1) (acc ++ [y]))->Q (.sl o3 g3 0 k 1) Z3) :
 D8 KL.get false 67 A (.sl Z2.length 0 0 1 1) (newCells 96 [.p oy gy 0] Z2) Q:=by
 obtain⟨cs,hraw,hea⟩:=ha
 have hcl:=hea.len
 have hco:=hea.one
 have lx:=x2.len
 have LQ:RJ B (newCells 96 [.p oy gy 0] Z2) A cs:=by
  rcases hraw with h | ⟨o,g,q1,q2,q3,q4⟩
  ·exact .inl h
  ·exact .inr ⟨o,g,q1,q2,at_new (x2.get (by omega) q3) _ _,q4⟩
 have hlt:∀o g n z,A= .sl o g 0 n z->o<Z0.length:=by
  intro o g n z e
  rcases hraw with ⟨_,h⟩ | ⟨o',g',q1,q2,q3,q4⟩
  ·rw [h] at e;cases e
  ·rw [q2] at e;cases e;exact bK q3
 refine VD (B:=B) (cs:=cs) LQ hco (by omega) (aG _ _ _) (by rw [aH];omega) fun v' Z3 hr3 hl3 ho3 hb3 hap3=>?_
 rw [aH] at hl3
 obtain⟨o3,g3,p1,rfl,p3,p4⟩:=hr3.resolve_left (by simp)
 refine q _ _ _ Z3 (fun i hi=>by rw [hb3 i hi,eu (by omega)]) (by omega) (fun i a hi ht=>?_) (fun y LP=>?_)
 ·rw [(ho3 i (by rw [aH];have:=bK hi;omega) ?_).1]
  ·exact at_new hi _ _
  ·intro o g n z e
   rcases hraw with ⟨_,h⟩ | ⟨o',g',q1,q2,q3,q4⟩
   ·rw [h] at e;cases e
   ·rw [q2] at e
    cases e
    intro e
    subst e
    have:=(x2.get (by omega) q3).symm.trans hi
    exact ht _ _ _ (Option.some.inj this).symm
 refine⟨_,hr3,je.snoc (je.mono (fun i hi=>⟨hi.1.1,(ho3 i (by rw [aH];omega) hi.1.2).2⟩) (fun i hi a ha=>by rw [(ho3 i (by rw [aH];omega) hi.1.2).1,eu (by omega),x2.old i hi.2 (by omega)];exact ha) hea.below) ⟨_,_,rfl⟩ ?_⟩
 have hap:∀i,D<=i->apart A i:=fun i hi o g n z e=>by have:=hlt o g n z e;omega
 exact jc.mono (fun i hi=>⟨by omega,(ho3 i (by rw [aH];omega) (hap i hi.1)).2⟩) (fun i hi a ha=>by rw [(ho3 i (by rw [aH];omega) (hap i hi.1)).1];exact at_new ha _ _) LP.below
theorem FU.keep {B:Nat} {Z Z':St} {v:AV} {xs:List Sm} (h:FU B Z v xs)(k:∀(i:Nat) (a:AO),B<=i->Z[i]? =some a->Z'[i]? =some a):FU B Z' v xs:=by
 obtain⟨cs,h1,h2⟩:=h
 refine⟨cs,?_,h2.mono (fun i hi=>hi) (fun i hi a ha=>k i a hi.1 ha)⟩
 rcases h1 with h | ⟨o,g,q1,q2,q3,q4⟩
 ·exact .inl h
 ·exact .inr ⟨o,g,q1,q2,k o _ q1 q3,q4⟩
theorem PW.Jf {p w g m d:Nat} {all:List Tok} {Z Z':St} {f:AV} (h:PW p w g all Z m d f)(k:∀(i:Nat) (a:AO),Z[i]? =some a->(∀(g:Nat) (ro:Bool) (cs:List AV),a≠⟨g,ro,.cells 96 cs⟩)->Z'[i]? =some a):PW p w g all Z' m d f:=
 ⟨k _ _ h.obj (fun _ _ _ e=>by cases e),k _ _ h.tok (fun _ _ _ e=>by cases e),h.ne,h.len,h.at_,h.dp⟩
end Go.Abs.YtlkfbfhkcaldlaaGreatDoor
