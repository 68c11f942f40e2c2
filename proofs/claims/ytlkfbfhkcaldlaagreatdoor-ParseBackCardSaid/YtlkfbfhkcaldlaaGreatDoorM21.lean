/- Texts of this claim, joined: Pa, Pb, Pc, Pd, Pe, Pf, Pg, Ph, Pi, Pj. -/
import Derived.Test.YtlkfbfhkcaldlaaGreatDoorM20
import Derived.Test.YtlkfbfhkcaldlaaGreatDoorM19
set_option linter.unusedVariables false
set_option linter.unusedSimpArgs false
namespace Go.Abs.YtlkfbfhkcaldlaaGreatDoor
open Go.Proofs
set_option maxRecDepth 4000
def kZ (w g n m d:Nat)(f:AV):List AV:=[.sl w g (3*m) (n - m) 3,.i .i64 d,f]
structure PW (p w g:Nat)(all:List Tok)(σ:St)(m d:Nat)(f:AV):Prop where
 obj:σ[p]? =some ⟨0,false,.cells 88 (kZ w g all.length m d f)⟩
 tok:σ[w]? =some ⟨g,false,.cells 62 (dI all)⟩
 ne:w≠p
 len:all.length≤40001
 at_:m<all.length
 dp:d≤1000
def PB (p:Nat)(σ:St)(d c l:Nat):Prop:=∃w g all m fo fg,PW p w g all σ m d (.p fo fg 0)∧fo≠p∧σ[fo]? =some ⟨fg,false,.cells 25 [.i .i64 c,.i .i64 l]⟩
section
variable {p w g m d:Nat} {all:List Tok} {σ σ':St} {f:AV}
theorem PW.keep (h:PW p w g all σ m d f)(h1:σ'[p]? =σ[p]?)(h2:σ'[w]? =σ[w]?):PW p w g all σ' m d f:=⟨h1.trans h.obj,h2.trans h.tok,h.ne,h.len,h.at_,h.dp⟩
theorem PW.new (h:PW p w g all σ m d f)(e:Nat)(cs:List AV):PW p w g all (au e cs σ) m d f:=h.keep (dB (bn h.obj)) (dB (bn h.tok))
theorem PW.bF (h:PW p w g all σ m d f) {x gx e:Nat} {ro:Bool} {cs:List AV} (hx:σ[x]? =some ⟨gx,ro,.cells e cs⟩)(h1:e≠88)(h2:e≠62)(a:AO):PW p w g all (σ.set x a) m d f:=by
 have n1:x≠p:=fun q=>by subst q;have:=hx.symm.trans h.obj;cases this;exact h1 rfl
 have n2:x≠w:=fun q=>by subst q;have:=hx.symm.trans h.tok;cases this;exact h2 rfl
 exact⟨aN h.obj n1 _,aN h.tok n2 _,h.ne,h.len,h.at_,h.dp⟩
theorem PB.new {c l:Nat} (h:PB p σ d c l)(e:Nat)(cs:List AV):PB p (au e cs σ) d c l:=by
 obtain⟨w,g,all,m,fo,fg,h1,h2,h3⟩:=h
 exact⟨w,g,all,m,fo,fg,h1.new _ _,h2,at_new h3 _ _⟩
theorem PB.bF {c l:Nat} (h:PB p σ d c l) {x gx e:Nat} {ro:Bool} {cs:List AV} (hx:σ[x]? =some ⟨gx,ro,.cells e cs⟩)(h1:e≠88)(h2:e≠62)(h3:e≠25)(a:AO):PB p (σ.set x a) d c l:=by
 obtain⟨w,g,all,m,fo,fg,q1,q2,q3⟩:=h
 have n3:x≠fo:=fun q=>by subst q;have:=hx.symm.trans q3;cases this;exact h3 rfl
 exact⟨w,g,all,m,fo,fg,q1.bF hx h1 h2 _,q2,aN q3 n3 _⟩
theorem PW.put (h:PW p w g all σ m d f) {m' d':Nat} (f':AV)(hm:m'< all.length)(hd:d'≤1000):PW p w g all (σ.set p ⟨0,false,.cells 88 (kZ w g all.length m' d' f')⟩) m' d' f':=
 ⟨at_set h.obj _,aN h.tok h.ne.symm _,h.ne,h.len,hm,hd⟩
theorem PW.Q9 {m' d' w' g':Nat} {all':List Tok} {f':AV} (h:PW p w g all σ m d f)(h':PW p w' g' all' σ' m' d' f')(hne:(w,g,m)≠(w',g',m')∨d≠d'∨f≠f') {v:AV} {Q:AV→St→Prop} (q:Q v σ'):Fin σ v σ' Q:=by
 refine rH h.obj h'.obj (fun e=>?_) q
 injection e with _ _ e
 injection e with _ e
 simp only [kZ,List.cons.injEq,AV.sl.injEq,AV.i.injEq,and_true,true_and] at e
 obtain⟨⟨e1,e2,e3,e4⟩,e5,e6⟩:=e
 rcases hne with h | h | h
 ·exact h (by rw [e1,e2,show m=m' by omega])
 ·exact h (by omega)
 ·exact h e6
theorem h_ {t:Tok} (h:PW p w g all σ m d f)(ht:all[m]? =some t):ay X 25 [.p p 0 0] σ fun v s=>v= .ag (nO t.k t.s t.l)∧s=σ:=by
 have hm:=h.at_
 have hal:=h.len
 have h1:(au 62 [.i .i64 0,.s [],.i .i64 0] σ)[p]? =_:=at_new h.obj _ _
 have h2:(au 62 [.i .i64 0,.s [],.i .i64 0] σ)[w]? =_:=at_new h.tok _ _
 refine ay.body (F:=F25) aC (lit:=false) rfl rfl (Nat.le_of_ble_eq_true rfl) ?_
 conv=>whnf
 refine ak (aj (T:=lF) rfl rfl (ah (h1)) rfl) ?_
 conv=>whnf
 refine⟨0,rfl,by omega,?_⟩
 conv=>whnf
 refine ak (dY (T:=vk) rfl rfl (ah h2) (by rw [jL];show 3*m+0*3+3≤_;omega)) ?_
 rw [show ((dI all).drop (3*m+0*3)).take (vk).size=nO t.k t.s t.l by rw [show 3*m+0*3=m*3 by omega];exact yu all m t ht]
 conv=>whnf
 refine ak (aF (T:=vk) (nO t.k t.s t.l) rfl (aH _ _ _) rfl rfl (Nat.le_of_ble_eq_true rfl) rfl) ?_
 conv=>whnf
 refine ak (dY (T:=vk) rfl rfl (ah (at_set (aH _ _ _) _)) (Nat.le_of_ble_eq_true rfl)) ?_
 conv=>whnf
 exact Fin.flat rfl (((Ext.refl σ).new _ _).set (Nat.le_refl _) _).take ⟨rfl,rfl⟩
theorem jk (h:PW p w g all σ m d .p0):ay X 24 [.p p 0 0] σ fun v s=>v= .b false∧s=σ:=by
 refine ay.body (F:=F24) aC (lit:=false) rfl rfl (Nat.le_of_ble_eq_true rfl) ?_
 conv=>whnf
 refine ak (aj (T:=MH) rfl rfl (ah (h.obj)) rfl) ?_
 conv=>whnf
 exact Fin.flat rfl List.take_length ⟨rfl,rfl⟩
theorem nU {c l:Nat} (h:PB p σ d c l):ay X 24 [.p p 0 0] σ fun v s=>v= .b true∧s=σ:=by
 obtain⟨w,g,all,m,fo,fg,h1,h2,h3⟩:=h
 refine ay.body (F:=F24) aC (lit:=false) rfl rfl (Nat.le_of_ble_eq_true rfl) ?_
 conv=>whnf
 refine ak (aj (T:=MH) rfl rfl (ah (h1.obj)) rfl) ?_
 conv=>whnf
 exact Fin.flat rfl List.take_length ⟨rfl,rfl⟩
theorem f_ (h:PW p w g all σ m d f)(hm:m+1<all.length) {Q:AV→St→Prop} (q:∀σ',aO p σ σ'→PW p w g all σ' (m+1) d f→Q (.tu []) σ'):ay X 89 [.p p 0 0] σ Q:=by
 have hal:=h.len
 refine ay.body (F:=F89) aC (lit:=false) rfl rfl (Nat.le_of_ble_eq_true rfl) ?_
 conv=>whnf
 refine ak (aj (T:=lF) rfl rfl (ah (h.obj)) rfl) ?_
 conv=>whnf
 rw [decide_eq_true (by omega)]
 conv=>whnf
 conv=>whnf
 refine ak (aj (T:=lF) rfl rfl (ah (h.obj)) rfl) ?_
 conv=>whnf
 refine⟨1,rfl,by omega,?_⟩
 conv=>whnf
 refine ak (aF (T:=lF) (kZ w g all.length (m+1) d f) rfl (h.obj) rfl rfl (Nat.le_of_ble_eq_true rfl) rfl) ?_
 conv=>whnf
 have h':=h.put f hm h.dp
 exact h.Q9 h' (.inl (by simp)) (q _ ((aO.refl p σ).tV _) h')
theorem nV {t:Tok} (c:Nat)(h:PW p w g all σ m d .p0)(ht:all[m]? =some t) {Q:AV→St→Prop} (q:∀σ',aO p σ σ'→PB p σ' d c t.l→Q (.tu []) σ'):ay X 88 [.p p 0 0,.i .i64 c] σ Q:=by
 refine ay.body (F:=F88) aC (lit:=false) rfl rfl (Nat.le_of_ble_eq_true rfl) ?_
 conv=>whnf
 refine ay.to (jk h) ?_
 conv=>whnf
 refine ay.to (h_ h ht) ?_
 conv=>whnf
 have hpl:=bn h.obj
 have h1:=h.new 25 [.i .i64 c,.i .i64 t.l]
 refine ak (aF (T:=MH) (kZ w g all.length m d (.p σ.length 0 0)) rfl (h1.obj) rfl rfl (Nat.le_of_ble_eq_true rfl) rfl) ?_
 conv=>whnf
 have h':=h1.put (.p σ.length 0 0) h.at_ h.dp
 refine h.Q9 h' (.inr (.inr (by simp))) (q _ (((aO.refl p σ).new _ _).tV _) ⟨w,g,all,m,_,0,h',by omega,aN (aH _ _ _) (by omega) _⟩)
theorem NT {c l:Nat} (e:Nat)(h:PB p σ d c l):ay X 88 [.p p 0 0,.i .i64 e] σ fun v s=>v= .tu []∧s=σ:=by
 refine ay.body (F:=F88) aC (lit:=false) rfl rfl (Nat.le_of_ble_eq_true rfl) ?_
 conv=>whnf
 refine ay.to (nU h) ?_
 conv=>whnf
 exact Fin.flat rfl List.take_length ⟨rfl,rfl⟩
theorem PW.ext (h:PW p w g all σ m d f)(x:Ext σ σ'):PW p w g all σ' m d f:=h.keep (x.old _ (bn h.obj)) (x.old _ (bn h.tok))
theorem PB.ext {c l:Nat} (h:PB p σ d c l)(x:Ext σ σ'):PB p σ' d c l:=by
 obtain⟨w,g,all,m,fo,fg,h1,h2,h3⟩:=h
 exact⟨w,g,all,m,fo,fg,h1.ext x,h2,x.get h3⟩
theorem kU (t:Tok) {Q:St→Prop} (q:∀σ1,Ext σ σ1→σ1[σ.length]? =some ⟨0,false,.cells 62 (nO t.k t.s t.l)⟩→σ1.length=σ.length+1→Q σ1) :
 om (jm (D7.get 62) (.p σ.length 0 0) (.ag (nO t.k t.s t.l)) (au 62 vk.zero.cells σ)) Q:=by
 refine ak (aF (T:=vk) (nO t.k t.s t.l) rfl (aH _ _ _) rfl rfl (Nat.le_of_ble_eq_true rfl) rfl) ?_
 refine q _ (((Ext.refl σ).new _ _).set (Nat.le_refl _) _) (at_set (aH _ _ _) _) ?_
 rw [List.length_set,aI]
def yX (ws:List (List UInt8))(t:Tok):Bool:=(t.k == 4 || t.k == 3) && ws.contains t.s
theorem gZ (s:List UInt8)(t:Tok):yX [s] t=fB s t:=by
 unfold yX fB
 rw [show [s].contains t.s=(t.s == s) by show List.elem t.s [s]=_;unfold List.elem;cases (t.s == s) <;> rfl]
theorem vC {t:Tok} (ws:List (List UInt8))(h:PW p w g all σ m d .p0)(ht:all[m]? =some t)(o og:Nat)(ho:bU σ o og=some (ws.map .s))(hl:ws.length≤100):ay X 92 [.p p 0 0,.sl o og 0 ws.length 1] σ fun v s=>v= .b (yX ws t)∧s=σ:=by
 refine ay.body (F:=F92) aC (lit:=false) rfl rfl (Nat.le_of_ble_eq_true rfl) ?_
 conv=>whnf
 refine ay.to (h_ h ht) ?_
 conv=>whnf
 refine kU t fun σ1 x1 ht1 hl1=>?_
 conv=>whnf
 have h1:=h.ext x1
 refine ay.to (jk h1) ?_
 conv=>whnf
 refine ak (aj (T:=dJ) rfl rfl (ah (ht1)) rfl) ?_
 conv=>whnf
 have hcs:bU σ1 o og=some (ws.map .s):=by
  have hol:o<σ.length:=by
   unfold bU at ho
   rcases Nat.lt_or_ge o σ.length with h | h
   ·exact h
   ·rw [List.getElem?_eq_none h] at ho;cases ho
  unfold bU at ho ⊢
  rw [x1.old o hol];exact ho
 by_cases h4:t.k=4
 ·rw [decide_eq_true (by omega)]
  conv=>whnf
  conv=>whnf
  refine ak (aj (T:=dP) rfl rfl (ah (ht1)) rfl) ?_
  conv=>whnf
  refine ay.to (vO t.s o og ws σ1 hcs hl) ?_
  cases hc:ws.contains t.s <;> (conv=>whnf)
  ·exact Fin.flat rfl x1.take ⟨by unfold yX;rw [hc,Bool.and_false],rfl⟩
  ·exact Fin.flat rfl x1.take ⟨by unfold yX;rw [hc,h4];rfl,rfl⟩
 ·rw [decide_eq_false (by omega)]
  conv=>whnf
  conv=>whnf
  refine ak (aj (T:=dJ) rfl rfl (ah (ht1)) rfl) ?_
  conv=>whnf
  by_cases h5:t.k=3
  ·rw [decide_eq_true (by omega)]
   conv=>whnf
   conv=>whnf
   refine ak (aj (T:=dP) rfl rfl (ah (ht1)) rfl) ?_
   conv=>whnf
   refine ay.to (vO t.s o og ws σ1 hcs hl) ?_
   cases hc:ws.contains t.s <;> (conv=>whnf)
   ·exact Fin.flat rfl x1.take ⟨by unfold yX;rw [hc,Bool.and_false],rfl⟩
   ·exact Fin.flat rfl x1.take ⟨by unfold yX;rw [hc,h5];rfl,rfl⟩
  ·rw [decide_eq_false (by omega)]
   conv=>whnf
   conv=>whnf
   exact Fin.flat rfl x1.take ⟨by simp [yX,h4,h5],rfl⟩
theorem Ey {c l:Nat} (h:PB p σ d c l)(o og n:Nat):ay X 92 [.p p 0 0,.sl o og 0 n 1] σ fun v s=>v= .b false∧s=σ:=by
 have h0:=h
 obtain⟨w,g,all,m,fo,fg,h1,h2,h3⟩:=h0
 obtain⟨t,ht⟩:∃t,all[m]? =some t:=⟨_,List.getElem?_eq_getElem h1.at_⟩
 refine ay.body (F:=F92) aC (lit:=false) rfl rfl (Nat.le_of_ble_eq_true rfl) ?_
 conv=>whnf
 refine ay.to (h_ h1 ht) ?_
 conv=>whnf
 refine kU t fun σ1 x1 ht1 hl1=>?_
 conv=>whnf
 refine ay.to (nU (h.ext x1)) ?_
 conv=>whnf
 exact Fin.flat rfl x1.take ⟨rfl,rfl⟩
theorem jZ {t:Tok} (s:List UInt8)(h:PW p w g all σ m d .p0)(ht:all[m]? =some t)(hn:fB s t=true→m+1<all.length) {Q:AV→St→Prop}
 (q1:fB s t=true→∀σ',aO p σ σ'→PW p w g all σ' (m+1) d .p0→Q (.b true) σ') (q0:fB s t=false→Q (.b false) σ):ay X 59 [.p p 0 0,.s s] σ Q:=by
 have hpl:=bn h.obj
 refine ay.body (F:=F59) aC (lit:=false) rfl rfl (Nat.le_of_ble_eq_true rfl) ?_
 conv=>whnf
 have h1:=h.new 9 [.s s]
 refine ay.to (vC [s] h1 ht σ.length 0 (ji _ _ _) (Nat.le_of_ble_eq_true rfl)) ?_
 conv=>whnf
 rw [gZ]
 cases hi:fB s t with
 | false=>
   conv=>whnf
   exact Fin.flat rfl ((Ext.refl σ).new _ _).take (q0 hi)
 | true=>
   conv=>whnf
   refine f_ h1 (hn hi) fun σ2 x2 h2=>?_
   conv=>whnf
   exact h.Q9 h2 (.inl (by simp)) (q1 hi _ (((aO.refl p σ).new _ _).trans x2) h2)
theorem jv {c l:Nat} (s:List UInt8)(h:PB p σ d c l):ay X 59 [.p p 0 0,.s s] σ fun v s=>v= .b false∧s=σ:=by
 refine ay.body (F:=F59) aC (lit:=false) rfl rfl (Nat.le_of_ble_eq_true rfl) ?_
 conv=>whnf
 refine ay.to (Ey (h.new 9 [.s s]) σ.length 0 1) ?_
 conv=>whnf
 exact Fin.flat rfl ((Ext.refl σ).new _ _).take ⟨rfl,rfl⟩
theorem ig {t:Tok} (s:List UInt8)(h:PW p w g all σ m d .p0)(ht:all[m]? =some t)(hn:fB s t=true→m+1<all.length) {Q:AV→St→Prop}
 (q1:fB s t=true→∀σ',aO p σ σ'→PW p w g all σ' (m+1) d .p0→Q (.tu []) σ') (q0:fB s t=false→∀σ',aO p σ σ'→PB p σ' d 4 t.l→Q (.tu []) σ'):ay X 55 [.p p 0 0,.s s] σ Q:=by
 refine ay.body (F:=F55) aC (lit:=false) rfl rfl (Nat.le_of_ble_eq_true rfl) ?_
 conv=>whnf
 refine jZ s h ht hn (fun hi σ2 x2 h2=>?_) (fun hi=>?_)
 ·conv=>whnf
  exact h.Q9 h2 (.inl (by simp)) (q1 hi _ x2 h2)
 ·conv=>whnf
  refine nV 4 h ht fun σ2 x2 h2=>?_
  conv=>whnf
  obtain⟨w',g',all',m',fo,fg,k1,k2,k3⟩:=id h2
  exact h.Q9 k1 (.inr (.inr (by simp))) (q0 hi _ x2 h2)
theorem iq {c l:Nat} (s:List UInt8)(h:PB p σ d c l):ay X 55 [.p p 0 0,.s s] σ fun v s=>v= .tu []∧s=σ:=by
 refine ay.body (F:=F55) aC (lit:=false) rfl rfl (Nat.le_of_ble_eq_true rfl) ?_
 conv=>whnf
 refine ay.to (jv s h) ?_
 conv=>whnf
 refine ay.to (NT 4 h) ?_
 conv=>whnf
 exact Fin.flat rfl List.take_length ⟨rfl,rfl⟩
theorem BU {t:Tok} (h:PW p w g all σ m d .p0)(ht:all[m]? =some t)(hn:t.k=1→m+1<all.length) {Q:AV→St→Prop}
 (q1:t.k=1→∀σ',aO p σ σ'→PW p w g all σ' (m+1) d .p0→Q (.s t.s) σ') (q0:t.k≠1→∀σ',aO p σ σ'→PB p σ' d 4 t.l→Q (.s []) σ'):ay X 56 [.p p 0 0] σ Q:=by
 have hpl:=bn h.obj
 refine ay.body (F:=F56) aC (lit:=false) rfl rfl (Nat.le_of_ble_eq_true rfl) ?_
 conv=>whnf
 refine ay.to (h_ h ht) ?_
 conv=>whnf
 refine kU t fun σ1 x1 ht1 hl1=>?_
 have h1:=h.ext x1
 conv=>whnf
 refine ay.to (jk h1) ?_
 conv=>whnf
 refine ak (aj (T:=dJ) rfl rfl (ah (ht1)) rfl) ?_
 conv=>whnf
 by_cases hk:t.k=1
 ·rw [decide_eq_true (by omega)]
  conv=>whnf
  conv=>whnf
  refine f_ h1 (hn hk) fun σ2 x2 h2=>?_
  conv=>whnf
  refine ak (aj (T:=dP) rfl rfl (ah (x2.get (by omega) ht1)) rfl) ?_
  conv=>whnf
  exact h.Q9 h2 (.inl (by simp)) (q1 hk _ ((aO.of x1).trans x2) h2)
 ·rw [decide_eq_false (by omega)]
  conv=>whnf
  conv=>whnf
  refine nV 4 h1 ht fun σ2 x2 h2=>?_
  conv=>whnf
  obtain⟨w',g',all',m',fo,fg,k1,k2,k3⟩:=id h2
  exact h.Q9 k1 (.inr (.inr (by simp))) (q0 hk _ ((aO.of x1).trans x2) h2)
theorem BX {c l:Nat} (h:PB p σ d c l):ay X 56 [.p p 0 0] σ fun v s=>v= .s []∧s=σ:=by
 have h0:=h
 obtain⟨w,g,all,m,fo,fg,h1,h2,h3⟩:=h0
 obtain⟨t,ht⟩:∃t,all[m]? =some t:=⟨_,List.getElem?_eq_getElem h1.at_⟩
 refine ay.body (F:=F56) aC (lit:=false) rfl rfl (Nat.le_of_ble_eq_true rfl) ?_
 conv=>whnf
 refine ay.to (h_ h1 ht) ?_
 conv=>whnf
 refine kU t fun σ1 x1 ht1 hl1=>?_
 conv=>whnf
 refine ay.to (nU (h.ext x1)) ?_
 conv=>whnf
 refine ay.to (NT 4 (h.ext x1)) ?_
 conv=>whnf
 exact Fin.flat rfl x1.take ⟨rfl,rfl⟩
end
end Go.Abs.YtlkfbfhkcaldlaaGreatDoor
namespace Go.Abs.YtlkfbfhkcaldlaaGreatDoor
open Go.Proofs
set_option maxRecDepth 4000
def Ar (k:List UInt8):List (AV×AV)→Bool
 | []=>true
 | e :: es=>(match e.1 with | .s x=>!(k == x) | _=>false) && Ar k es
theorem Au {P:Program} {t:Nat} {K:AT} (hK:aG P t=some K)(hd:K.d= .str)(k:List UInt8):∀(es:List (AV×AV)) (i:Nat),Ar k es=true→kN P t (.s k) es i=some none
 | [],_,_=>rfl
 | (.s x,v) :: es,i,h=>by
   simp only [Ar,Bool.and_eq_true,Bool.not_eq_true'] at h
   have e1:uq P 20 t (.s k) (.s x)=some (k == x):=by unfold uq;rw [hK];simp only [hd]
   simp only [kN,e1,h.1]
   exact Au hK hd k es _ h.2
def yx (k:List UInt8):List (List UInt8×Nat)→Nat
 | []=>0
 | e :: es=>if k=e.1 then e.2 else yx k es
def UO (l:List (List UInt8×Nat)):List (AV×AV):=l.map fun e=>(.s e.1,.i .i64 e.2)
theorem Ez {P:Program} {t:Nat} {K:AT} (hK:aG P t=some K)(hd:K.d= .str)(k:List UInt8):∀(l:List (List UInt8×Nat)) (i:Nat),(kN P t (.s k) (UO l) i).map (fun r=>match r with | some (_,e)=>e.2 | none=>.i .i64 0)=some (.i .i64 (yx k l))
 | [],_=>rfl
 | e :: l,i=>by
   have e1:uq P 20 t (.s k) (.s e.1)=some (k == e.1):=by unfold uq;rw [hK];simp only [hd]
   show (kN P t (.s k) ((AV.s e.1,AV.i .i64 e.2) :: UO l) i).map _=_
   simp only [kN,e1,yx]
   by_cases h:k=e.1
   ·rw [if_pos h,show (k == e.1)=true by simp [h]];rfl
   ·rw [if_neg h,show (k == e.1)=false by simp [h]]
    exact Ez hK hd k l _
theorem Q_ {P:Program} {t kt et o:Nat} {s1 s2 z c h1 h2} {σ:St} {es:List (AV×AV)} {k:List UInt8} {v:AV} {K:AT} (hT:aG P t=some ⟨.map kt et,s1,s2,z,c,h1,h2⟩)(hK:aG P kt=some K)(hd:K.d= .str)(ho:σ[o]? =some ⟨0,false,.maps es⟩)(hn:Ar k es=true) :
 CY P t (.mp o 0) (.s k) v σ=some (σ.set o ⟨0,false,.maps (es ++ [(.s k,v)])⟩):=by
 unfold CY
 rw [hT]
 simp only [ho]
 rw [if_pos ⟨trivial,by unfold oV;rw [hK];simp only [hd,jK,Bool.true_or]⟩,Au hK hd k es 0 hn]
def BZ:List (List UInt8×Nat):=[([124,124],1),([38,38],2),([61,61],3),([33,61],3),([60],4),([60,61],4),([62],4),([62,61],4),([43],5),([45],5),([124],5),([94],5),([42],6),([47],6),([37],6),([38],6),([60,60],6),([62,62],6)]
theorem EC (s:List UInt8):yx s BZ=bindsP s:=by
 by_cases h0:s=[124,124]
 ·subst h0;rfl
 by_cases h1:s=[38,38]
 ·subst h1;rfl
 by_cases h2:s=[61,61]
 ·subst h2;rfl
 by_cases h3:s=[33,61]
 ·subst h3;rfl
 by_cases h4:s=[60]
 ·subst h4;rfl
 by_cases h5:s=[60,61]
 ·subst h5;rfl
 by_cases h6:s=[62]
 ·subst h6;rfl
 by_cases h7:s=[62,61]
 ·subst h7;rfl
 by_cases h8:s=[43]
 ·subst h8;rfl
 by_cases h9:s=[45]
 ·subst h9;rfl
 by_cases h10:s=[124]
 ·subst h10;rfl
 by_cases h11:s=[94]
 ·subst h11;rfl
 by_cases h12:s=[42]
 ·subst h12;rfl
 by_cases h13:s=[47]
 ·subst h13;rfl
 by_cases h14:s=[37]
 ·subst h14;rfl
 by_cases h15:s=[38]
 ·subst h15;rfl
 by_cases h16:s=[60,60]
 ·subst h16;rfl
 by_cases h17:s=[62,62]
 ·subst h17;rfl
 simp only [BZ,yx,bindsP,h0,h1,h2,h3,h4,h5,h6,h7,h8,h9,h10,h11,h12,h13,h14,h15,h16,h17,if_false,or_self]
theorem ED {t:Nat} {T:AT} (h:D7.get t=some T):aG X.P t=some T:=aC _ _ h
theorem Z9 {σ:St} {o:Nat} {es:List (AV×AV)} {k:List UInt8} {v:AV} (ho:σ[o]? =some ⟨0,false,.maps es⟩)(hn:Ar k es=true):CY X.P 197 (.mp o 0) (.s k) v σ=some (σ.set o ⟨0,false,.maps (es ++ [(.s k,v)])⟩):=
 Q_ (ED rfl) (ED rfl) rfl ho hn
theorem Z_ {σ:St} {o:Nat} {es:List (AV×AV)} (ho:σ[o]? =some ⟨0,false,.maps es⟩)(s:List UInt8)(l:List (List UInt8×Nat))(he:es=UO l):Fj X.P 197 (.mp o 0) (.s s) false σ=some (.i .i64 (yx s l)):=by
 subst he
 have hT:aG X.P 197=some MI:=ED rfl
 have hK:aG X.P 9=some dP:=ED rfl
 have hE:aG X.P 3=some dJ:=ED rfl
 have h1:=Ez hK rfl s l 0
 unfold Fj
 rw [hT]
 simp only [MI,wo,ho,if_true,hE]
 rw [if_pos (by unfold oV;rw [hK];rfl),←h1]
 rfl
theorem UQ {σ:St} {o:Nat} {es:List (AV×AV)} (h:σ[o]? =some ⟨0,false,.maps es⟩)(es':List (AV×AV)):(σ.set o ⟨0,false,.maps es'⟩)[o]? =some ⟨0,false,.maps es'⟩:=at_set h _
set_option maxHeartbeats 4000000 in
theorem IE (s:List UInt8)(σ:St):ay X 142 [.s s] σ fun v s'=>v= .i .i64 (bindsP s)∧s'= σ:=by
 refine ay.body (F:=Uh) aC (lit:=false) rfl rfl (Nat.le_of_ble_eq_true rfl) ?_
 conv=>whnf
 have h1:(σ ++ [⟨0,false,.maps []⟩])[σ.length]? =some (⟨0,false,.maps []⟩:AO):=by simp
 have x1:Ext σ (σ ++ [⟨0,false,.maps []⟩]):=⟨by simp,fun i hi=>by rw [List.getElem?_append_left hi]⟩
 generalize σ ++ [⟨0,false,.maps []⟩]=σ1 at h1 x1
 have step:∀(es:List (AV×AV)) (σ1:St) (k:List UInt8) (v:AV) (Q:St→Prop),σ1[σ.length]? =some ⟨0,false,.maps es⟩→Ext σ σ1→Ar k es=true→(∀σ2,σ2[σ.length]? =some ⟨0,false,.maps (es ++ [(.s k,v)])⟩→Ext σ σ2→Q σ2)→om (CY X.P 197 (.mp σ.length 0) (.s k) v σ1) Q:=
  fun es σ1 k v Q h1 x1 hn q=>ak (Z9 h1 hn) (q _ (UQ h1 _) (x1.set (Nat.le_refl _) _))
 refine step _ _ _ _ _ h1 x1 rfl fun σ2 h2 x2=>?_
 conv=>whnf
 refine step _ _ _ _ _ h2 x2 rfl fun σ3 h3 x3=>?_
 conv=>whnf
 refine step _ _ _ _ _ h3 x3 rfl fun bW h4 x4=>?_
 conv=>whnf
 refine step _ _ _ _ _ h4 x4 rfl fun dL h5 x5=>?_
 conv=>whnf
 refine step _ _ _ _ _ h5 x5 rfl fun jY h6 x6=>?_
 conv=>whnf
 refine step _ _ _ _ _ h6 x6 rfl fun qx h7 x7=>?_
 conv=>whnf
 refine step _ _ _ _ _ h7 x7 rfl fun σ8 h8 x8=>?_
 conv=>whnf
 refine step _ _ _ _ _ h8 x8 rfl fun σ9 h9 x9=>?_
 conv=>whnf
 refine step _ _ _ _ _ h9 x9 rfl fun σ10 h10 x10=>?_
 conv=>whnf
 refine step _ _ _ _ _ h10 x10 rfl fun σ11 h11 x11=>?_
 conv=>whnf
 refine step _ _ _ _ _ h11 x11 rfl fun σ12 h12 x12=>?_
 conv=>whnf
 refine step _ _ _ _ _ h12 x12 rfl fun σ13 h13 x13=>?_
 conv=>whnf
 refine step _ _ _ _ _ h13 x13 rfl fun σ14 h14 x14=>?_
 conv=>whnf
 refine step _ _ _ _ _ h14 x14 rfl fun σ15 h15 x15=>?_
 conv=>whnf
 refine step _ _ _ _ _ h15 x15 rfl fun σ16 h16 x16=>?_
 conv=>whnf
 refine step _ _ _ _ _ h16 x16 rfl fun σ17 h17 x17=>?_
 conv=>whnf
 refine step _ _ _ _ _ h17 x17 rfl fun σ18 h18 x18=>?_
 conv=>whnf
 refine step _ _ _ _ _ h18 x18 rfl fun σ19 h19 x19=>?_
 conv=>whnf
 have hl:Fj X.P 197 (.mp σ.length 0) (.s s) false σ19=some (.i .i64 (yx s BZ)):=Z_ h19 s BZ rfl
 refine ak hl ?_
 rw [EC]
 conv=>whnf
 exact Fin.flat rfl x19.take ⟨rfl,rfl⟩
theorem Aw:∀(l:List UInt8) (v:Nat),(∀c∈l,48≤c.toNat∧c.toNat≤57)→numP v l<4294967296→Lib.parseUintM 4294967295 v l= .ok (numP v l)
 | [],_,_,_=>rfl
 | c :: r,v,hd,hv=>by
   have h1:=hd c (List.mem_cons_self ..)
   have h2:10*v+(c.toNat - 48)≤numP (10*v+(c.toNat - 48)) r:=IC r _
   have hv':numP (10*v+(c.toNat - 48)) r<4294967296:=hv
   unfold Lib.parseUintM
   rw [if_pos h1,if_neg (by omega),if_neg (by omega),show v*10=10*v from Nat.mul_comm _ _]
   exact Aw r _ (fun c hc=>hd c (List.mem_cons_of_mem _ hc)) hv'
theorem aac (s:List UInt8)(hd:∀c∈s,48≤c.toNat∧c.toNat≤57)(hn:s≠[])(hv:numP 0 s<4294967296)(hl:s.length≤100000)(σ:St):ay X 53 [.s s,.i .i64 10,.i .i64 32] σ fun v s'=>v= .tu [.i .u64 (numP 0 s),.eu]∧s'= σ:=by
 refine ay.of ?_
 rw [jf (g:=g_) rfl]
 have hp:Lib.parseUintB 32 s= .ok (numP 0 s):=by unfold Lib.parseUintB;rw [if_neg hn];exact Aw s 0 hd hv
 unfold g_
 simp only
 rw [if_pos (by omega),hp]
 exact⟨_,rfl,rfl,rfl⟩
end Go.Abs.YtlkfbfhkcaldlaaGreatDoor
namespace Go.Abs.YtlkfbfhkcaldlaaGreatDoor
open Go.Proofs
set_option maxRecDepth 4000
mutual
theorem Ti:∀(v:AV) (Q:AV→Prop),Q v→fq v Q:=by
 intro v Q h
 match v with
 | .u | .b _ | .i _ _ | .s _ | .p0 | .p _ _ _ | .sl0 | .sl _ _ _ _ _ | .fn _ _ _ | .fn0 | .ic _ _ | .eu | .rZ | .mp _ _ | .cd _ _=>simpa only [fq] using h
 | .ag cs=>simp only [fq];exact dh cs _ h
 | .tu cs=>simp only [fq];exact dh cs _ h
theorem dh:∀(l:List AV) (Q:List AV→Prop),Q l→BH l Q:=by
 intro l Q h
 match l with
 | []=>simpa only [BH] using h
 | v :: l=>simp only [BH];exact Ti v _ (dh l _ h)
end
def QI (p m d:Nat)(Q:AV→St→Prop):AV→St→Prop:=fun v σ2=>v= .tu []∧∃w2 g2 all2 m2 f,PW p w2 g2 all2 σ2 m2 (d+1) f∧(m<m2∨f≠.p0)∧∀σ3,aO p σ2 σ3→PW p w2 g2 all2 σ3 m2 d f→Q (.tu []) σ3
section
variable {p w g m d:Nat} {all:List Tok} {σ σ':St} {f:AV}
theorem PW.ne_of (h:PW p w g all σ m d .p0) {w2 g2 m2 d2:Nat} {all2:List Tok} {f:AV} {σ3:St} (h3:PW p w2 g2 all2 σ3 m2 d2 f)(hne:m<m2∨f≠.p0) {v:AV} {Q:AV→St→Prop} (q:Q v σ3):Fin σ v σ3 Q:=by
 rcases hne with hne | hne
 ·exact h.Q9 h3 (.inl (by simp only [ne_eq,Prod.mk.injEq];omega)) q
 ·exact h.Q9 h3 (.inr (.inr (fun e=>hne e.symm))) q
theorem JK {t:Tok} {k:Nat} {caps:List AV} (wd:List UInt8)(h:PW p w g all σ m d .p0)(ht:all[m]? =some t)(hd:d≤64)(hn:fB wd t=true→m+1<all.length) {Q:AV→St→Prop}
 (q1:fB wd t=true→d<64→∀σ1,aO p σ σ1→PW p w g all σ1 (m+1) (d+1) .p0→ay X k caps σ1 (QI p m d Q))
 (q2:fB wd t=true→64≤d→∀σ1,aO p σ σ1→PB p σ1 (d+1) 3 t.l→ay X k caps σ1 (QI p m d Q))
 (q0:fB wd t=false→∀σ1,aO p σ σ1→PB p σ1 (d+1) 4 t.l→ay X k caps σ1 (QI p m d Q)) :
 ay X 90 [.p p 0 0,.s wd,.fn (.func k) [] caps] σ Q:=by
 have hm:=h.at_
 have hal:=h.len
 have h1:=h.new 9 [.s wd]
 have x1:aO p σ (au 9 [.s wd] σ):=(aO.refl p σ).new _ _
 refine ay.body (F:=F90) aC (lit:=false) rfl rfl (Nat.le_of_ble_eq_true rfl) ?_
 conv=>whnf
 refine ay.to (vC [wd] h1 ht σ.length 0 (ji _ _ _) (Nat.le_of_ble_eq_true rfl)) ?_
 conv=>whnf
 rw [gZ]
 cases hi:fB wd t with
 | false=>
   conv=>whnf
   refine ig wd h1 ht hn (fun e=>by rw [hi] at e;cases e) (fun _ σ2 x2 hb=>?_)
   obtain⟨w',g',all',m',fo,fg,k1,k2,k3⟩:=id hb
   conv=>whnf
   refine ak (aj (T:=dJ) rfl rfl (ah (k1.obj)) rfl) ?_
   conv=>whnf
   refine⟨((d+1:Nat):Int),by rw [wrap_i64 (by omega) (by omega)];omega,?_⟩
   conv=>whnf
   refine ak (aF (T:=dJ) (kZ w' g' all'.length m' (d+1) (.p fo fg 0)) rfl (k1.obj) rfl rfl (Nat.le_of_ble_eq_true rfl) rfl) ?_
   conv=>whnf
   have k4:=k1.put (m':=m') (d':=d+1) (.p fo fg 0) k1.at_ (by omega)
   refine dh _ _ ?_
   refine ay.mono (q0 hi _ ((x1.trans x2).trans ((aO.refl p σ2).tV _)) ⟨w',g',all',m',fo,fg,k4,k2,aN k3 (fun e=>k2 e.symm) _⟩) fun v s q=>?_
   obtain⟨rfl,w2,g2,all2,m2,f2,j1,j2,j3⟩:=q
   have jd:=j1.dp
   conv=>whnf
   refine ak (aj (T:=dJ) rfl rfl (ah (j1.obj)) rfl) ?_
   conv=>whnf
   refine⟨((d:Nat):Int),by rw [wrap_i64 (by omega) (by omega)];omega,?_⟩
   conv=>whnf
   refine ak (aF (T:=dJ) (kZ w2 g2 all2.length m2 d f2) rfl (j1.obj) rfl rfl (Nat.le_of_ble_eq_true rfl) rfl) ?_
   conv=>whnf
   have j4:=j1.put (m':=m2) (d':=d) f2 j1.at_ (by omega)
   exact h.ne_of j4 j2 (j3 _ ((aO.refl p s).tV _) j4)
 | true=>
   conv=>whnf
   refine ak (aj (T:=dJ) rfl rfl (ah (h1.obj)) rfl) ?_
   conv=>whnf
   by_cases h64:64≤d
   ·rw [decide_eq_true (by omega)]
    conv=>whnf
    conv=>whnf
    refine nV 3 h1 ht fun σ2 x2 hb=>?_
    conv=>whnf
    refine ay.to (iq wd hb) ?_
    conv=>whnf
    obtain⟨w',g',all',m',fo,fg,k1,k2,k3⟩:=id hb
    refine ak (aj (T:=dJ) rfl rfl (ah (k1.obj)) rfl) ?_
    conv=>whnf
    refine⟨((d+1:Nat):Int),by rw [wrap_i64 (by omega) (by omega)];omega,?_⟩
    conv=>whnf
    refine ak (aF (T:=dJ) (kZ w' g' all'.length m' (d+1) (.p fo fg 0)) rfl (k1.obj) rfl rfl (Nat.le_of_ble_eq_true rfl) rfl) ?_
    conv=>whnf
    have k4:=k1.put (m':=m') (d':=d+1) (.p fo fg 0) k1.at_ (by omega)
    refine dh _ _ ?_
    refine ay.mono (q2 hi h64 _ ((x1.trans x2).trans ((aO.refl p σ2).tV _)) ⟨w',g',all',m',fo,fg,k4,k2,aN k3 (fun e=>k2 e.symm) _⟩) fun v s q=>?_
    obtain⟨rfl,w2,g2,all2,m2,f2,j1,j2,j3⟩:=q
    have jd:=j1.dp
    conv=>whnf
    refine ak (aj (T:=dJ) rfl rfl (ah (j1.obj)) rfl) ?_
    conv=>whnf
    refine⟨((d:Nat):Int),by rw [wrap_i64 (by omega) (by omega)];omega,?_⟩
    conv=>whnf
    refine ak (aF (T:=dJ) (kZ w2 g2 all2.length m2 d f2) rfl (j1.obj) rfl rfl (Nat.le_of_ble_eq_true rfl) rfl) ?_
    conv=>whnf
    have j4:=j1.put (m':=m2) (d':=d) f2 j1.at_ (by omega)
    exact h.ne_of j4 j2 (j3 _ ((aO.refl p s).tV _) j4)
   ·rw [decide_eq_false (by omega)]
    conv=>whnf
    conv=>whnf
    refine ig wd h1 ht hn (fun _ σ2 x2 k1=>?_) (fun e=>by rw [hi] at e;cases e)
    conv=>whnf
    refine ak (aj (T:=dJ) rfl rfl (ah (k1.obj)) rfl) ?_
    conv=>whnf
    refine⟨((d+1:Nat):Int),by rw [wrap_i64 (by omega) (by omega)];omega,?_⟩
    conv=>whnf
    refine ak (aF (T:=dJ) (kZ w g all.length (m+1) (d+1) .p0) rfl (k1.obj) rfl rfl (Nat.le_of_ble_eq_true rfl) rfl) ?_
    conv=>whnf
    have k4:=k1.put (m':=m+1) (d':=d+1) .p0 k1.at_ (by omega)
    refine dh _ _ ?_
    refine ay.mono (q1 hi (by omega) _ ((x1.trans x2).trans ((aO.refl p σ2).tV _)) k4) fun v s q=>?_
    obtain⟨rfl,w2,g2,all2,m2,f2,j1,j2,j3⟩:=q
    have jd:=j1.dp
    conv=>whnf
    refine ak (aj (T:=dJ) rfl rfl (ah (j1.obj)) rfl) ?_
    conv=>whnf
    refine⟨((d:Nat):Int),by rw [wrap_i64 (by omega) (by omega)];omega,?_⟩
    conv=>whnf
    refine ak (aF (T:=dJ) (kZ w2 g2 all2.length m2 d f2) rfl (j1.obj) rfl rfl (Nat.le_of_ble_eq_true rfl) rfl) ?_
    conv=>whnf
    have j4:=j1.put (m':=m2) (d':=d) f2 j1.at_ (by omega)
    exact h.ne_of j4 j2 (j3 _ ((aO.refl p s).tV _) j4)
theorem iY {σ σ':St} {v:AV} {Q:AV→St→Prop} (q:Q v σ')(q':σ'.take σ.length=σ→Q v σ):Fin σ v σ' Q:=by
 by_cases h:σ'.take σ.length=σ
 ·constructor
  unfold norm
  split
  ·exact q' h
  ·exact q
 ·exact Fin.ne h q
theorem PB.deep {c l:Nat} (h:PB p σ d c l) {d':Nat} (hd:d'≤1000) {Q:St→Prop} (q:∀σ',aO p σ σ'→PB p σ' d' c l→σ'.length=σ.length→Q σ'):∃(w g:Nat) (all:List Tok) (m fo fg:Nat),σ[p]? =some ⟨0,false,.cells 88 (kZ w g all.length m d (.p fo fg 0))⟩∧Q (σ.set p ⟨0,false,.cells 88 (kZ w g all.length m d' (.p fo fg 0))⟩):=by
 obtain⟨w,g,all,m,fo,fg,h1,h2,h3⟩:=h
 exact⟨w,g,all,m,fo,fg,h1.obj,q _ ((aO.refl p σ).tV _) ⟨w,g,all,m,fo,fg,h1.put _ h1.at_ hd,h2,aN h3 (fun e=>h2 e.symm) _⟩ (by rw [List.length_set])⟩
theorem aad {k c l:Nat} {caps:List AV} (C:St→Prop)(wd:List UInt8)(h:PB p σ d c l)(hd:d+1≤1000) {Q:AV→St→Prop}
 (q:∀σ1,aO p σ σ1→PB p σ1 (d+1) c l→ay X k caps σ1 fun v σ2=>v= .tu []∧PB p σ2 (d+1) c l∧∀σ3,aO p σ2 σ3→PB p σ3 d c l→C σ3)
 (q1:∀σ3,C σ3→PB p σ3 d c l→Q (.tu []) σ3) (q':∀σ3,C σ3→σ3.take σ.length=σ→Q (.tu []) σ) :
 ay X 90 [.p p 0 0,.s wd,.fn (.func k) [] caps] σ Q:=by
 have h1:=h.new 9 [.s wd]
 have x1:aO p σ (au 9 [.s wd] σ):=(aO.refl p σ).new _ _
 refine ay.body (F:=F90) aC (lit:=false) rfl rfl (Nat.le_of_ble_eq_true rfl) ?_
 conv=>whnf
 refine ay.to (Ey h1 σ.length 0 1) ?_
 conv=>whnf
 refine ay.to (iq wd h1) ?_
 conv=>whnf
 obtain⟨w',g',all',m',fo,fg,k1,k2⟩:=h1.deep (d':=d+1) hd (Q:=fun σ2=>ay X k caps σ2 _) fun σ2 x2 h2 _=>q _ (x1.trans x2) h2
 refine ak (aj (T:=dJ) rfl rfl (ah (k1)) rfl) ?_
 conv=>whnf
 refine⟨((d+1:Nat):Int),by rw [wrap_i64 (by omega) (by omega)];omega,?_⟩
 conv=>whnf
 refine ak (aF (T:=dJ) (kZ w' g' all'.length m' (d+1) (.p fo fg 0)) rfl (k1) rfl rfl (Nat.le_of_ble_eq_true rfl) rfl) ?_
 conv=>whnf
 refine dh _ _ ?_
 refine ay.mono k2 fun v s q2=>?_
 obtain⟨rfl,j1,j2⟩:=q2
 obtain⟨w2,g2,all2,m2,fo2,fg2,i1,i2,i3⟩:=j1.deep (d':=d) (by omega) (Q:=fun σ3=>C σ3∧PB p σ3 d c l) fun σ3 x3 h3 _=>⟨j2 _ x3 h3,h3⟩
 conv=>whnf
 refine ak (aj (T:=dJ) rfl rfl (ah (i1)) rfl) ?_
 conv=>whnf
 refine⟨((d:Nat):Int),by rw [wrap_i64 (by omega) (by omega)];omega,?_⟩
 conv=>whnf
 refine ak (aF (T:=dJ) (kZ w2 g2 all2.length m2 d (.p fo2 fg2 0)) rfl (i1) rfl rfl (Nat.le_of_ble_eq_true rfl) rfl) ?_
 conv=>whnf
 exact iY (q1 _ i2 i3) fun e=>q' _ i2 e
end
end Go.Abs.YtlkfbfhkcaldlaaGreatDoor
namespace Go.Abs.YtlkfbfhkcaldlaaGreatDoor
open Go.Proofs
set_option maxRecDepth 4000
section
variable {p d c l:Nat} {σ:St}
theorem PB.tok (h:PB p σ d c l):∃t:Tok,ay X 25 [.p p 0 0] σ fun v s=>v= .ag (nO t.k t.s t.l)∧s=σ:=by
 obtain⟨w,g,all,m,fo,fg,h1,h2,h3⟩:=h
 exact⟨_,h_ h1 (List.getElem?_eq_getElem h1.at_)⟩
theorem PB.lt (h:PB p σ d c l):p<σ.length:=by
 obtain⟨w,g,all,m,fo,fg,h1,h2,h3⟩:=h
 exact bn h1.obj
theorem UR (h:PB p σ d c l) {Q:AV→St→Prop}
 (q:∀o line σ',aO p σ σ'→PB p σ' d c l→σ.length≤o→σ'[o]? =some ⟨0,false,.cells 48 [.i .i64 2,.i .u32 0,.s [],.s [],.p0,.p0,.sl0,.i .i64 line]⟩→Q (.p o 0 0) σ'):ay X 145 [.p p 0 0] σ Q:=by
 obtain⟨t,ht⟩:=PB.tok h
 refine ay.body (F:=Qn) aC (lit:=false) rfl rfl (Nat.le_of_ble_eq_true rfl) ?_
 conv=>whnf
 refine ay.to (ht) ?_
 conv=>whnf
 refine kU t fun σ1 x1 ht1 hl1=>?_
 have h1:=(h.ext x1).new 9 [.s [40]]
 have ht2:=at_new ht1 9 [.s [40]]
 conv=>whnf
 refine ay.to (Ey h1 σ1.length 0 1) ?_
 conv=>whnf
 refine ak (aj (T:=dJ) rfl rfl (ah (ht2)) rfl) ?_
 conv=>whnf
 have x2:Ext σ (au 9 [.s [40]] σ1):=x1.new _ _
 by_cases hk:t.k=2
 ·rw [decide_eq_true (by omega)]
  conv=>whnf
  conv=>whnf
  refine ay.to (nU h1) ?_
  conv=>whnf
  refine ak (aj (T:=dJ) rfl rfl (ah (ht2)) rfl) ?_
  conv=>whnf
  refine ay.to (BX h1) ?_
  conv=>whnf
  refine⟨?_,?_⟩
  ·conv=>whnf
   refine ak (aj (T:=dJ) rfl rfl (ah ht2) rfl) ?_
   rfl
  ·conv=>whnf
   exact Fin.ref rfl (q _ _ _ (aO.of (x2.new _ _)) (h1.new _ _) x2.len (aH _ _ _))
 ·rw [decide_eq_false (by omega)]
  conv=>whnf
  conv=>whnf
  refine ak (aj (T:=dJ) rfl rfl (ah (ht2)) rfl) ?_
  conv=>whnf
  refine ay.to (BX h1) ?_
  conv=>whnf
  refine⟨?_,?_⟩
  ·conv=>whnf
   refine ak (aj (T:=dJ) rfl rfl (ah ht2) rfl) ?_
   rfl
  ·conv=>whnf
   exact Fin.ref rfl (q _ _ _ (aO.of (x2.new _ _)) (h1.new _ _) x2.len (aH _ _ _))
theorem Rf (h:PB p σ d c l) {Q:AV→St→Prop} (q:∀o σ',aO p σ σ'→PB p σ' d c l→Q (.p o 0 0) σ'):ay X 143 [.p p 0 0] σ Q:=by
 have hpl:=PB.lt h
 refine ay.body (F:=Qm) aC (lit:=false) rfl rfl (Nat.le_of_ble_eq_true rfl) ?_
 conv=>whnf
 have b0:(au 85 (AV.p p 0 0).cells σ)[σ.length]? =some ⟨0,false,.cells 85 [.p p 0 0]⟩:=aH _ _ _
 have x0:Ext σ (au 85 (AV.p p 0 0).cells σ):=(Ext.refl σ).new _ _
 have l0:(au 85 (AV.p p 0 0).cells σ).length=σ.length+1:=aI _ _ _
 generalize au 85 (AV.p p 0 0).cells σ=xu at b0 x0 l0 ⊢
 have h0:=h.ext x0
 obtain⟨t,ht⟩:=PB.tok h0
 refine ak (aj (T:=aW) rfl rfl (ah (b0)) rfl) ?_
 conv=>whnf
 refine ay.to (ht) ?_
 conv=>whnf
 refine kU t fun σ1 x1 ht1 hl1=>?_
 have h1:=h0.ext x1
 have b1:=x1.get b0
 conv=>whnf
 refine ak (aj (T:=aW) rfl rfl (ah (b1)) rfl) ?_
 conv=>whnf
 refine ay.to (jv [110,101,119] h1) ?_
 conv=>whnf
 refine ak (aj (T:=aW) rfl rfl (ah (b1)) rfl) ?_
 conv=>whnf
 refine ay.to (jv [105,110] h1) ?_
 conv=>whnf
 refine ak (aj (T:=aW) rfl rfl (ah (b1)) rfl) ?_
 conv=>whnf
 refine UR h1 fun o line σ2 x2 h2 ho hob=>?_
 have hb2:σ2[σ.length]? =_:=x2.get (by omega) b1
 have ht2:=x2.get (by omega) ht1
 have hx2:aO p σ σ2:=((aO.of x0).trans (aO.of x1)).trans x2
 conv=>whnf
 refine ak (aF (T:=aV) ([.p o 0 0]) rfl (aH _ _ _) rfl rfl (Nat.le_of_ble_eq_true rfl) rfl) ?_
 have x3:Ext σ2 ((au 44 aV.zero.cells σ2).set σ2.length ⟨0,false,.cells 44 [.p o 0 0]⟩):=((Ext.refl σ2).new _ _).set (Nat.le_refl _) _
 have b3:((au 44 aV.zero.cells σ2).set σ2.length ⟨0,false,.cells 44 [.p o 0 0]⟩)[σ2.length]? =_:=at_set (aH _ _ _) _
 have l3:((au 44 aV.zero.cells σ2).set σ2.length ⟨0,false,.cells 44 [.p o 0 0]⟩).length=σ2.length+1:=by rw [List.length_set,aI]
 generalize (au 44 aV.zero.cells σ2).set σ2.length ⟨0,false,.cells 44 [.p o 0 0]⟩=σ3 at b3 x3 l3 ⊢
 conv=>whnf
 have h3:=h2.ext x3
 have ht3:=x3.get ht2
 refine ak (aj (T:=dJ) rfl rfl (ah (ht3)) rfl) ?_
 conv=>whnf
 by_cases hk:t.k=1
 ·rw [decide_eq_true (by omega)]
  conv=>whnf
  refine ak (aj (T:=aV) rfl rfl (ah (b3)) rfl) ?_
  conv=>whnf
  refine ak (aj (T:=dJ) rfl rfl (ah (x3.get hob)) rfl) ?_
  conv=>whnf
  refine ak (aj (T:=aW) rfl rfl (ah (x3.get hb2)) rfl) ?_
  conv=>whnf
  have b4:(au 9 [.s [40]] σ3)[σ3.length]? =some ⟨0,false,.cells 9 [.s [40]]⟩:=aH _ _ _
  have x4:Ext σ3 (au 9 [.s [40]] σ3):=(Ext.refl σ3).new _ _
  have l4:(au 9 [.s [40]] σ3).length=σ3.length+1:=aI _ _ _
  generalize au 9 [.s [40]] σ3=bW at b4 x4 l4 ⊢
  refine ay.to (Ey (h3.ext x4) σ3.length 0 1) ?_
  conv=>whnf
  refine ak (aj (T:=aV) rfl rfl (ah (x4.get b3)) rfl) ?_
  conv=>whnf
  exact Fin.ref rfl (q _ _ (hx2.trans (aO.of (x3.trans x4))) (h3.ext x4))
 ·rw [decide_eq_false (by omega)]
  conv=>whnf
  refine ak (aj (T:=aV) rfl rfl (ah (b3)) rfl) ?_
  conv=>whnf
  exact Fin.ref rfl (q _ _ (hx2.trans (aO.of x3)) h3)
theorem UU (h:PB p σ d c l) {Q:AV→St→Prop} (q:∀o σ',aO p σ σ'→PB p σ' d c l→Q (.p o 0 0) σ'):ay X 124 [.p p 0 0] σ Q:=by
 refine ay.body (F:=Qj) aC (lit:=false) rfl rfl (Nat.le_of_ble_eq_true rfl) ?_
 conv=>whnf
 refine Rf h fun o σ1 x1 h1=>?_
 conv=>whnf
 refine aS.round aC (lit:=false) ?_
 conv=>whnf
 refine ay.to (Ey (h1.new _ _) σ1.length 0 2) ?_
 conv=>whnf
 exact Fin.ref rfl (q _ _ (x1.new _ _) (h1.new _ _))
theorem NU (h:PB p σ d c l) {Q:AV→St→Prop} (q:∀o σ',aO p σ σ'→PB p σ' d c l→Q (.p o 0 0) σ'):ay X 141 [.p p 0 0] σ Q:=by
 have h0:=h.new 85 [.p p 0 0]
 have b0:(au 85 [.p p 0 0] σ)[σ.length]? =_:=aH _ _ _
 have x0:Ext σ (au 85 [.p p 0 0] σ):=(Ext.refl σ).new _ _
 obtain⟨t,ht⟩:=PB.tok h0
 refine ay.body (F:=Ql) aC (lit:=false) rfl rfl (Nat.le_of_ble_eq_true rfl) ?_
 conv=>whnf
 refine ak (aj (T:=aW) rfl rfl (ah (b0)) rfl) ?_
 conv=>whnf
 refine ay.to (ht) ?_
 conv=>whnf
 refine kU t fun σ1 x1 ht1 hl1=>?_
 have h1:=h0.ext x1
 have b1:=x1.get b0
 conv=>whnf
 refine ak (aj (T:=aW) rfl rfl (ah (b1)) rfl) ?_
 conv=>whnf
 refine ay.to (Ey (h1.new _ _) σ1.length 0 2) ?_
 conv=>whnf
 refine ak (aj (T:=aW) rfl rfl (ah (at_new b1 _ _)) rfl) ?_
 conv=>whnf
 refine UU (h1.new _ _) fun o σ2 x2 h2=>?_
 conv=>whnf
 exact Fin.ref rfl (q _ _ (((aO.of x0).trans (aO.of (x1.new _ _))).trans x2) h2)
theorem NV (k:Nat)(h:PB p σ d c l) {Q:AV→St→Prop} (q:∀o σ',aO p σ σ'→PB p σ' d c l→Q (.p o 0 0) σ'):ay X 122 [.p p 0 0,.i .i64 k] σ Q:=by
 refine ay.body (F:=Qi) aC (lit:=false) rfl rfl (Nat.le_of_ble_eq_true rfl) ?_
 conv=>whnf
 refine NU h fun o σ1 x1 h1=>?_
 conv=>whnf
 refine aS.round aC (lit:=false) ?_
 conv=>whnf
 refine ay.to (nU h1) ?_
 conv=>whnf
 exact Fin.ref rfl (q _ _ x1 h1)
end
end Go.Abs.YtlkfbfhkcaldlaaGreatDoor
namespace Go.Abs.YtlkfbfhkcaldlaaGreatDoor
open Go.Proofs
set_option maxRecDepth 4000
def oQ (p w g:Nat)(all:List Tok)(σ:St)(d:Nat)(Q:AV→St→Prop):Re Tr→Prop
 | .ok t ts=>∀o g' σ' m',aO p σ σ'→PW p w g all σ' m' d .p0→all.drop m'= ts→bC (fun i=>σ.length≤i) σ' (.p o g' 0) t→Q (.p o g' 0) σ'
 | .bad c l=>∀o g' σ',aO p σ σ'→PB p σ' d c l→Q (.p o g' 0) σ'
 | .out=>True
theorem oQ.to {p w g d:Nat} {all:List Tok} {σ σ1:St} {Q Q':AV→St→Prop} {r:Re Tr} (hQ:oQ p w g all σ d Q r)(x1:aO p σ σ1)(k:∀o g' s,Q (.p o g' 0) s→Q' (.p o g' 0) s):oQ p w g all σ1 d Q' r:=by
 cases r with
 | out=>trivial
 | bad c l=>exact fun o g' σ2 x2 h2=>k _ _ _ (hQ o g' σ2 (x1.trans x2) h2)
 | ok x ts=>exact fun o g' σ2 m2 x2 h2 hm hex=>k _ _ _ (hQ o g' σ2 m2 (x1.trans x2) h2 hm (bC.mono (fun i hi=>Nat.le_trans x1.len hi) (fun i hi a ha=>ha) hex))
def NW (k j:Nat)(p w g:Nat)(all:List Tok)(B:Nat)(σ:St)(d:Nat)(Q:Out→Env→St→Prop):Re Tr→Prop
 | .ok t ts=>∀o g' σ' m' e',get e' k= .p o g' 0→get e' 1000000= .u→aO p σ σ'→PW p w g all σ' m' d .p0→all.drop m'= ts→bC (fun i=>B≤i) σ' (.p o g' 0) t→Q (.exit 0) e' σ'
 | .bad c l=>∀o g' σ' e',get e' j= .p o g' 0→get e' 1000000= .u→aO p σ σ'→PB p σ' d c l→Q (.exit 0) e' σ'
 | .out=>True
structure WP (p w g:Nat)(all:List Tok)(n:Nat):Prop where
 expr:∀(d c:Nat) (σ:St) (m:Nat) (Q:AV→St→Prop),PW p w g all σ m d .p0→d≤64→c≤8→EndOk (all.drop m)→10*(all.drop m).length+9≤n→oQ p w g all σ d Q (pExpr n d c (all.drop m))→ay X 122 [.p p 0 0,.i .i64 c] σ Q
 un:∀(d:Nat) (σ:St) (m:Nat) (Q:AV→St→Prop),PW p w g all σ m d .p0→d≤64→EndOk (all.drop m)→10*(all.drop m).length+8≤n→oQ p w g all σ d Q (pUn n d (all.drop m))→ay X 141 [.p p 0 0] σ Q
 post:∀(d:Nat) (σ:St) (m:Nat) (Q:AV→St→Prop),PW p w g all σ m d .p0→d≤64→EndOk (all.drop m)→10*(all.drop m).length+7≤n→oQ p w g all σ d Q (pPost n d (all.drop m))→ay X 124 [.p p 0 0] σ Q
 with_:∀(d:Nat) (a b:List UInt8) (σ:St) (m:Nat) (Q:AV→St→Prop),PW p w g all σ m d .p0→d≤64→EndOk (all.drop m)→10*(all.drop m).length+5≤n→oQ p w g all σ d Q (pWith n d a b (all.drop m))→ay X 144 [.p p 0 0,.s a,.s b] σ Q
 cell:∀(d:Nat) (σ:St) (m:Nat) (Q:AV→St→Prop),PW p w g all σ m d .p0→d≤64→EndOk (all.drop m)→10*(all.drop m).length+6≤n→oQ p w g all σ d Q (pCell n d (all.drop m))→ay X 145 [.p p 0 0] σ Q
 first:∀(d:Nat) (σ:St) (m:Nat) (Q:AV→St→Prop),PW p w g all σ m d .p0→d≤64→EndOk (all.drop m)→10*(all.drop m).length+6≤n→oQ p w g all σ d Q (pFirst n d (all.drop m))→ay X 143 [.p p 0 0] σ Q
 postL:∀(d B:Nat) (x:Tr) (σ:St) (m o g':Nat) (Q:Out→Env→St→Prop),PW p w g all σ m d .p0→d≤64→p<B→B≤σ.length→nnT x→bC (fun i=>B≤i) σ (.p o g' 0) x→EndOk (all.drop m)→10*(all.drop m).length+9≤n→NW 3 3 p w g all B σ d Q (pPostL n d x (all.drop m))→aS X [0,3] Bz [(0,.p p 0 0),(3,.p o g' 0)] σ Q
 loop:∀(d c B:Nat) (x:Tr) (σ:St) (m o g':Nat) (Q:Out→Env→St→Prop),PW p w g all σ m d .p0→d≤64→c≤8→p<B→B≤σ.length→nnT x→bC (fun i=>B≤i) σ (.p o g' 0) x→EndOk (all.drop m)→10*(all.drop m).length+9≤n→NW 5 5 p w g all B σ d Q (pLoop n d c x (all.drop m))→aS X [0,1,5] Bv [(0,.p p 0 0),(1,.i .i64 c),(5,.p o g' 0)] σ Q
theorem rJ {σ:St} {o:Nat} {a:AO} (h:σ[o]? =some a):σ.set o a=σ:=by
 obtain⟨hl,he⟩:=List.getElem?_eq_some_iff.1 h
 rw [←he];exact List.set_getElem_self hl
theorem yV.at_ {p B i:Nat} {σ σ':St} {a:AO} (h:yV p B σ σ')(hi:i<B)(hp:i≠p)(ha:σ[i]? =some a):σ'[i]? =some a:=(h.old i hi hp).trans ha
structure bG (p x:Nat)(σ σ':St):Prop where
 len:σ.length≤σ'.length
 old:∀i,i<σ.length→i≠p→i≠x→σ'[i]? =σ[i]?
theorem bG.of {p x:Nat} {a b:St} (h:aO p a b):bG p x a b:=⟨h.len,fun i hi hp _=>h.old i hi hp⟩
theorem bG.trans {p x:Nat} {a b c:St} (h:bG p x a b)(k:bG p x b c):bG p x a c:=⟨Nat.le_trans h.len k.len,fun i hi hp hx=>by rw [k.old i (Nat.lt_of_lt_of_le hi h.len) hp hx,h.old i hi hp hx]⟩
theorem bG.bF (p x:Nat)(a:St)(o:AO):bG p x a (a.set x o):=⟨by rw [List.length_set];exact Nat.le_refl _,fun i _ _ hx=>by rw [List.getElem?_set_ne (fun e=>hx e.symm)]⟩
theorem bG.get {p x:Nat} {σ σ':St} (h:bG p x σ σ') {o:Nat} {a:AO} (hp:o≠p)(hx:o≠x)(ho:σ[o]? =some a):σ'[o]? =some a:=by rw [h.old o (bn ho) hp hx];exact ho
theorem aO.bg {p x:Nat} {σ a b:St} (h:aO p σ a)(k:bG p x a b)(hx:σ.length≤x):aO p σ b:=⟨Nat.le_trans h.len k.len,fun i hi hp=>by rw [k.old i (Nat.lt_of_lt_of_le hi h.len) hp (by omega),h.old i hi hp]⟩
section
variable {p w g:Nat} {all:List Tok} {n:Nat}
theorem JL {d c l b1 b2 b3:Nat} {σ:St} {z:List UInt8} {v0:AV} (h:PB p σ d c l)(hb1:σ[b1]? =some ⟨0,false,.cells 85 [.p p 0 0]⟩)(hb2:σ[b2]? =some ⟨0,false,.cells 9 [.s z]⟩)(hb3:σ[b3]? =some ⟨0,false,.cells 44 [v0]⟩)(hv:v0= .p0)(n1:b1≠p∧b2≠p∧b3≠p) {Q:AV→St→Prop}
 (q:∀o σ',PB p σ' d c l→σ'[b3]? =some ⟨0,false,.cells 44 [.p o 0 0]⟩→bG p b3 σ σ'→Q (.tu []) σ') :
 ay X 157 [.p b1 0 0,.p b3 0 0,.p b2 0 0] σ Q:=by
 have l1:=bn hb1
 have l2:=bn hb2
 have l3:=bn hb3
 have n2:b1≠b3:=fun e=>by subst e;rw [hb1] at hb3;cases hb3
 have n3:b2≠b3:=fun e=>by subst e;rw [hb2] at hb3;cases hb3
 refine ay.body (F:=Qr) aC (lit:=false) rfl rfl (Nat.le_of_ble_eq_true rfl) ?_
 conv=>whnf
 refine ak (aj (T:=aW) rfl rfl (ah (hb1)) rfl) ?_
 conv=>whnf
 refine NV 1 h fun o σ1 x1 h1=>?_
 have k3:=x1.get n1.2.2 hb3
 conv=>whnf
 refine ak (aF (T:=aV) ([.p o 0 0]) rfl (k3) rfl rfl (Nat.le_of_ble_eq_true rfl) rfl) ?_
 conv=>whnf
 have h2:=h1.bF k3 (by decide) (by decide) (by decide) ⟨0,false,.cells 44 [.p o 0 0]⟩
 refine ak (aj (T:=aW) rfl rfl (ah (aN (x1.get n1.1 hb1) n2.symm _)) rfl) ?_
 conv=>whnf
 refine ak (aj (T:=dP) rfl rfl (ah (aN (x1.get n1.2.1 hb2) n3.symm _)) rfl) ?_
 conv=>whnf
 refine ay.to (iq z h2) ?_
 conv=>whnf
 have k4:(σ1.set b3 ⟨0,false,.cells 44 [.p o 0 0]⟩)[b3]? =_:=at_set k3 _
 subst hv
 exact rH hb3 k4 (by simp) (q o _ h2 k4 ((bG.of x1).trans (bG.bF _ _ _ _)))
theorem NY (ih:WP p w g all n)(d:Nat)(a b:List UInt8)(σ:St)(m:Nat)(Q:AV→St→Prop)(h:PW p w g all σ m d .p0)(hd:d≤64)(he:EndOk (all.drop m))(hn:10*(all.drop m).length+5≤n+1)(hQ:oQ p w g all σ d Q (pWith (n+1) d a b (all.drop m))):ay X 144 [.p p 0 0,.s a,.s b] σ Q:=by
 obtain⟨t,r,hts⟩:=he.ne
 obtain⟨ht,hr⟩:=bJ hts
 have hpl:=bn h.obj
 have hdp:=h.dp
 unfold pWith openW at hQ
 rw [hts] at hQ
 refine ay.body (F:=Ui) aC (lit:=false) rfl rfl (Nat.le_of_ble_eq_true rfl) ?_
 conv=>whnf
 have b1:(au 85 (AV.p p 0 0).cells σ)[σ.length]? =some ⟨0,false,.cells 85 [.p p 0 0]⟩:=aH _ _ _
 have x1:Ext σ (au 85 (AV.p p 0 0).cells σ):=(Ext.refl σ).new _ _
 have l1:(au 85 (AV.p p 0 0).cells σ).length=σ.length+1:=aI _ _ _
 generalize au 85 (AV.p p 0 0).cells σ=σ1 at b1 x1 l1 ⊢
 have b2:(au 9 (AV.s b).cells σ1)[σ1.length]? =some ⟨0,false,.cells 9 [.s b]⟩:=aH _ _ _
 have x2:Ext σ1 (au 9 (AV.s b).cells σ1):=(Ext.refl σ1).new _ _
 have l2:(au 9 (AV.s b).cells σ1).length=σ1.length+1:=aI _ _ _
 generalize au 9 (AV.s b).cells σ1=σ2 at b2 x2 l2 ⊢
 have b3:(au 44 aV.zero.cells σ2)[σ2.length]? =some ⟨0,false,.cells 44 [.p0]⟩:=aH _ _ _
 have x3:Ext σ2 (au 44 aV.zero.cells σ2):=(Ext.refl σ2).new _ _
 have l3:(au 44 aV.zero.cells σ2).length=σ2.length+1:=aI _ _ _
 generalize au 44 aV.zero.cells σ2=σ3 at b3 x3 l3 ⊢
 have xx:Ext σ σ3:=(x1.trans x2).trans x3
 have h3:=h.ext xx
 have b1':=x3.get (x2.get b1)
 have b2':=x3.get b2
 refine ak (aj (T:=aW) rfl rfl (ah (b1')) rfl) ?_
 conv=>whnf
 refine ay.mono (Q:=fun v s=>v= .tu []∧∃o g',s[σ2.length]? =some ⟨0,false,.cells 44 [.p o g' 0]⟩∧Q (.p o g' 0) s) ?_ fun v s q=>?_
 ·have bad:∀(c l:Nat) (s1:St),aO p σ3 s1→PB p s1 (d+1) c l→oQ p w g all σ d Q (.bad c l)→ay X 157 [.p σ.length 0 0,.p σ2.length 0 0,.p σ1.length 0 0] s1 (QI p m d (fun v s=>v= .tu []∧∃o g',s[σ2.length]? =some ⟨0,false,.cells 44 [.p o g' 0]⟩∧Q (.p o g' 0) s)):=by
   intro c l s1 y1 k1 hq
   refine JL k1 (y1.get (by omega) b1') (y1.get (by omega) b2') (y1.get (by omega) b3) rfl ⟨by omega,by omega,by omega⟩ fun o s2 k2 e2 fr=>?_
   obtain⟨w2,g2,all2,m2,fo,fg,j1,j2,j3⟩:=k2
   exact⟨rfl,w2,g2,all2,m2,_,j1,.inr (by simp),fun s3 y3 j4=>⟨rfl,o,0,y3.get (by omega) e2,hq _ _ _ ((((aO.of xx).trans y1).bg fr (by omega)).trans y3) ⟨w2,g2,all2,m2,fo,fg,j4,j2,y3.get j2 j3⟩⟩⟩
  refine JK a h3 ht hd (fun hi=>(aU he hts hi).1) (fun hi h64 s1 y1 k1=>?_) (fun hi h64 s1 y1 k1=>?_) (fun hi s1 y1 k1=>?_)
  ·obtain⟨hm1,he1,hle⟩:=aU he hts hi
   rw [if_neg (by omega),mustW,if_pos (show isW a (t :: r)=true from hi)] at hQ
   have hQ:oQ p w g all σ d Q ((pExpr n (d+1) 1 r).bind fun x ts=>(mustW b ts).bind fun _ ts=>.ok x ts):=hQ
   have hg:=(allE n).expr (d+1) 1 (all.drop (m+1)) he1 (by omega)
   have c1:=y1.get (by omega) b1'
   have c2:=y1.get (by omega) b2'
   have c3:=y1.get (by omega) b3
   refine ay.body (F:=Qr) aC (lit:=false) rfl rfl (Nat.le_of_ble_eq_true rfl) ?_
   conv=>whnf
   refine ak (aj (T:=aW) rfl rfl (ah (c1)) rfl) ?_
   conv=>whnf
   refine ih.expr (d+1) 1 s1 (m+1) _ k1 (by omega) (by omega) he1 (by omega) ?_
   rw [hr] at hg ⊢
   generalize pExpr n (d+1) 1 r=r1 at hg hQ
   cases r1 with
   | out=>exact hg.elim
   | bad c l=>
     intro o g' s2 y2 k2
     have e3:=y2.get (by omega) c3
     conv=>whnf
     refine ak (aF (T:=aV) ([.p o g' 0]) rfl (e3) rfl rfl (Nat.le_of_ble_eq_true rfl) rfl) ?_
     conv=>whnf
     have k3:=k2.bF e3 (by decide) (by decide) (by decide) ⟨0,false,.cells 44 [.p o g' 0]⟩
     refine ak (aj (T:=aW) rfl rfl (ah (aN (y2.get (by omega) c1) (by omega) _)) rfl) ?_
     conv=>whnf
     refine ak (aj (T:=dP) rfl rfl (ah (aN (y2.get (by omega) c2) (by omega) _)) rfl) ?_
     conv=>whnf
     refine ay.to (iq b k3) ?_
     conv=>whnf
     have e4:(s2.set σ2.length ⟨0,false,.cells 44 [.p o g' 0]⟩)[σ2.length]? =_:=at_set e3 _
     have fr:bG p σ2.length s1 (s2.set σ2.length ⟨0,false,.cells 44 [.p o g' 0]⟩):=(bG.of y2).trans (bG.bF _ _ _ _)
     obtain⟨w2,g2,all2,m2,fo,fg,j1,j2,j3⟩:=k3
     exact k1.ne_of j1 (.inr (by simp)) ⟨rfl,w2,g2,all2,m2,_,j1,.inr (by simp),fun s3 y3 j4=>⟨rfl,o,g',y3.get (by omega) e4,hQ _ _ _ ((((aO.of xx).trans y1).bg fr (by omega)).trans y3) ⟨w2,g2,all2,m2,fo,fg,j4,j2,y3.get j2 j3⟩⟩⟩
   | ok x ts1=>
     intro o g' s2 m2 y2 k2 hm2 hex
     have he2:EndOk (all.drop m2):=by rw [hm2];exact hg.2.1
     obtain⟨t2,r2,gu⟩:=he2.ne
     obtain⟨ht2,hr2⟩:=bJ gu
     have hQ:oQ p w g all σ d Q ((mustW b ts1).bind fun _ ts=>.ok x ts):=hQ
     have hlt:m+1<m2:=by
      have:=hg.2.2
      rw [←hm2,←hr,List.length_drop,List.length_drop] at this
      omega
     rw [←hm2,gu] at hQ
     have e3:=y2.get (by omega) c3
     conv=>whnf
     refine ak (aF (T:=aV) ([.p o g' 0]) rfl (e3) rfl rfl (Nat.le_of_ble_eq_true rfl) rfl) ?_
     conv=>whnf
     have k3:=k2.bF e3 (by decide) (by decide) ⟨0,false,.cells 44 [.p o g' 0]⟩
     refine ak (aj (T:=aW) rfl rfl (ah (aN (y2.get (by omega) c1) (by omega) _)) rfl) ?_
     conv=>whnf
     refine ak (aj (T:=dP) rfl rfl (ah (aN (y2.get (by omega) c2) (by omega) _)) rfl) ?_
     conv=>whnf
     have e4:(s2.set σ2.length ⟨0,false,.cells 44 [.p o g' 0]⟩)[σ2.length]? =_:=at_set e3 _
     have fr:bG p σ2.length s1 (s2.set σ2.length ⟨0,false,.cells 44 [.p o g' 0]⟩):=(bG.of y2).trans (bG.bF _ _ _ _)
     refine ig b k3 ht2 (fun hi=>(aU he2 gu hi).1) (fun hi2 s5 y5 k5=>?_) (fun hi2 s5 y5 k5=>?_)
     ·rw [mustW,if_pos (show isW b (t2 :: r2)=true from hi2)] at hQ
      conv=>whnf
      refine k1.ne_of k5 (.inl (by omega)) ⟨rfl,w,g,all,m2+1,_,k5,.inl (by omega),fun s3 y3 j4=>⟨rfl,o,g',y3.get (by omega) (y5.get (by omega) e4),hQ _ _ _ _ (((((aO.of xx).trans y1).bg fr (by omega)).trans y5).trans y3) j4 hr2 ?_⟩⟩
      have l1':=y1.len
      exact bC.mono (fun i hi=>by omega) (fun i hi a ha=>y3.get (by omega) (y5.get (by omega) (aN ha (by omega) _))) hex
     ·rw [mustW,if_neg (show ¬isW b (t2 :: r2)=true by rw [show isW b (t2 :: r2)=fB b t2 from rfl,hi2];decide)] at hQ
      conv=>whnf
      obtain⟨w2,g2,all2,NZ,fo,fg,j1,j2,j3⟩:=k5
      exact k1.ne_of j1 (.inr (by simp)) ⟨rfl,w2,g2,all2,NZ,_,j1,.inr (by simp),fun s3 y3 j4=>⟨rfl,o,g',y3.get (by omega) (y5.get (by omega) e4),hQ _ _ _ (((((aO.of xx).trans y1).bg fr (by omega)).trans y5).trans y3) ⟨w2,g2,all2,NZ,fo,fg,j4,j2,y3.get j2 j3⟩⟩⟩
  ·rw [if_pos ⟨show isW a (t :: r)=true from hi,h64⟩] at hQ
   exact bad 3 t.l s1 y1 k1 hQ
  ·have hiw:¬isW a (t :: r)=true:=by rw [show isW a (t :: r)=fB a t from rfl,hi];decide
   rw [if_neg (fun e=>hiw e.1),mustW,if_neg hiw] at hQ
   exact bad 4 t.l s1 y1 k1 hQ
 ·obtain⟨rfl,o,g',q1,q2⟩:=q
  conv=>whnf
  refine ak (aj (T:=aV) rfl rfl (ah (q1)) rfl) ?_
  conv=>whnf
  refine ak (aF (T:=aV) ([.p o g' 0]) rfl (q1) rfl rfl (Nat.le_of_ble_eq_true rfl) rfl) ?_
  conv=>whnf
  rw [rJ q1]
  refine ak (aj (T:=aV) rfl rfl (ah (q1)) rfl) ?_
  conv=>whnf
  exact Fin.ref rfl q2
end
end Go.Abs.YtlkfbfhkcaldlaaGreatDoor
namespace Go.Abs.YtlkfbfhkcaldlaaGreatDoor
open Go.Proofs
set_option maxRecDepth 4000
theorem EF (a b:List UInt8)(t:Tok):yX [a,b] t=(fB a t || fB b t):=by
 unfold yX fB
 rw [show [a,b].contains t.s=(t.s == a || t.s == b) by show List.elem t.s [a,b]=_;simp only [List.elem];cases t.s == a <;> cases t.s == b <;> rfl]
 cases (t.k == 4 || t.k == 3) <;> simp
section
variable {p w g:Nat} {all:List Tok} {n:Nat}
theorem Rh {d c l b1 bx xo:Nat} {σ:St} {s:List UInt8} {ln:Nat} (h:PB p σ d c l)(hb1:σ[b1]? =some ⟨0,false,.cells 85 [.p p 0 0]⟩)(hbx:σ[bx]? =some ⟨0,false,.cells 44 [.p xo 0 0]⟩)(hx:σ[xo]? =some ⟨0,false,.cells 48 [.i .i64 3,.i .u32 0,.s [],.s s,.p0,.p0,.sl0,.i .i64 ln]⟩)(n1:b1≠p∧bx≠p∧xo≠p) {Q:AV→St→Prop}
 (q:∀σ',PB p σ' d c l→bG p xo σ σ'→Q (.tu []) σ'):ay X 154 [.p b1 0 0,.p bx 0 0] σ Q:=by
 refine ay.body (F:=Qo) aC (lit:=false) rfl rfl (Nat.le_of_ble_eq_true rfl) ?_
 conv=>whnf
 refine ak (aj (T:=aV) rfl rfl (ah (hbx)) rfl) ?_
 conv=>whnf
 refine ak (aj (T:=aW) rfl rfl (ah (hb1)) rfl) ?_
 conv=>whnf
 refine NU h fun o σ1 x1 h1=>?_
 have hx1:=x1.get n1.2.2 hx
 conv=>whnf
 refine⟨?_,?_⟩
 ·conv=>whnf
  refine ak (aj (T:=aV) rfl rfl (ah (x1.get n1.2.1 hbx)) rfl) ?_
  rfl
 ·conv=>whnf
  refine ak (aF (T:=aV) ([.i .i64 3,.i .u32 0,.s [],.s s,.p0,.p o 0 0,.sl0,.i .i64 ln]) rfl (hx1) rfl rfl (Nat.le_of_ble_eq_true rfl) rfl) ?_
  conv=>whnf
  have h2:=h1.bF hx1 (by decide) (by decide) (by decide) ⟨0,false,.cells 48 [.i .i64 3,.i .u32 0,.s [],.s s,.p0,.p o 0 0,.sl0,.i .i64 ln]⟩
  exact rH hx (at_set hx1 _) (by simp) (q _ h2 ((bG.of x1).trans (bG.bF _ _ _ _)))
theorem un_p (ih:WP p w g all n)(d:Nat)(σ:St)(m:Nat)(Q:AV→St→Prop)(h:PW p w g all σ m d .p0)(hd:d≤64)(he:EndOk (all.drop m))(hn:10*(all.drop m).length+8≤n+1)(hQ:oQ p w g all σ d Q (pUn (n+1) d (all.drop m))):ay X 141 [.p p 0 0] σ Q:=by
 obtain⟨t,r,hts⟩:=he.ne
 obtain⟨ht,hr⟩:=bJ hts
 have hpl:=bn h.obj
 unfold pUn at hQ
 rw [hts] at hQ
 simp only at hQ
 refine ay.body (F:=Ql) aC (lit:=false) rfl rfl (Nat.le_of_ble_eq_true rfl) ?_
 conv=>whnf
 have b1:(au 85 (AV.p p 0 0).cells σ)[σ.length]? =some ⟨0,false,.cells 85 [.p p 0 0]⟩:=aH _ _ _
 have x1:Ext σ (au 85 (AV.p p 0 0).cells σ):=(Ext.refl σ).new _ _
 have l1:(au 85 (AV.p p 0 0).cells σ).length=σ.length+1:=aI _ _ _
 generalize au 85 (AV.p p 0 0).cells σ=σ1 at b1 x1 l1 ⊢
 have h1:=h.ext x1
 refine ak (aj (T:=aW) rfl rfl (ah (b1)) rfl) ?_
 conv=>whnf
 refine ay.to (h_ h1 ht) ?_
 conv=>whnf
 refine kU t fun σ2 x2 ht2 l2=>?_
 have h2:=h1.ext x2
 have b2:=x2.get b1
 conv=>whnf
 refine ak (aj (T:=aW) rfl rfl (ah (b2)) rfl) ?_
 conv=>whnf
 have b3:(au 9 [.s [33],.s [45]] σ2)[σ2.length]? =some ⟨0,false,.cells 9 [.s [33],.s [45]]⟩:=aH _ _ _
 have x3:Ext σ2 (au 9 [.s [33],.s [45]] σ2):=(Ext.refl σ2).new _ _
 have l3:(au 9 [.s [33],.s [45]] σ2).length=σ2.length+1:=aI _ _ _
 generalize au 9 [.s [33],.s [45]] σ2=σ3 at b3 x3 l3 ⊢
 have h3:=h2.ext x3
 have c3:=x3.get b2
 have ht3:=x3.get ht2
 refine ay.to (vC [[33],[45]] h3 ht σ2.length 0 (ah b3) (Nat.le_of_ble_eq_true rfl)) ?_
 conv=>whnf
 rw [EF]
 have xx:aO p σ σ3:=aO.of ((x1.trans x2).trans x3)
 cases hi:(fB [33] t || fB [45] t) with
 | false=>
   rw [Bool.or_eq_false_iff] at hi
   rw [if_neg (by rw [show isW [33] (t :: r)=fB [33] t from rfl,show isW [45] (t :: r)=fB [45] t from rfl,hi.1,hi.2];simp),←hts] at hQ
   conv=>whnf
   refine ak (aj (T:=aW) rfl rfl (ah (c3)) rfl) ?_
   conv=>whnf
   refine ih.post d σ3 m _ h3 hd he (by omega) (hQ.to xx fun o g' s q=>?_)
   conv=>whnf
   exact Fin.ref rfl q
 | true=>
   rw [Bool.or_eq_true] at hi
   have hk:fB t.s t=true:=by
    rcases hi with hi | hi <;> (simp only [fB,Bool.and_eq_true,beq_self_eq_true,and_true] at hi ⊢;exact hi.1)
   rw [if_pos (show isW [33] (t :: r)=true∨isW [45] (t :: r)=true from hi)] at hQ
   conv=>whnf
   refine ak (aj (T:=dP) rfl rfl (ah (ht3)) rfl) ?_
   conv=>whnf
   refine ak (aj (T:=dJ) rfl rfl (ah (ht3)) rfl) ?_
   conv=>whnf
   have b4:(au 48 (AV.ag [.i .i64 3,.i .u32 0,.s [],.s t.s,.p0,.p0,.sl0,.i .i64 t.l]).cells σ3)[σ3.length]? =some ⟨0,false,.cells 48 [.i .i64 3,.i .u32 0,.s [],.s t.s,.p0,.p0,.sl0,.i .i64 t.l]⟩:=aH _ _ _
   have x4:Ext σ3 (au 48 (AV.ag [.i .i64 3,.i .u32 0,.s [],.s t.s,.p0,.p0,.sl0,.i .i64 t.l]).cells σ3):=(Ext.refl σ3).new _ _
   have l4:(au 48 (AV.ag [.i .i64 3,.i .u32 0,.s [],.s t.s,.p0,.p0,.sl0,.i .i64 t.l]).cells σ3).length=σ3.length+1:=aI _ _ _
   generalize au 48 (AV.ag [.i .i64 3,.i .u32 0,.s [],.s t.s,.p0,.p0,.sl0,.i .i64 t.l]).cells σ3=bW at b4 x4 l4 ⊢
   refine ak (aF (T:=aV) ([.p σ3.length 0 0]) rfl (aH _ _ _) rfl rfl (Nat.le_of_ble_eq_true rfl) rfl) ?_
   have x5:Ext bW ((au 44 aV.zero.cells bW).set bW.length ⟨0,false,.cells 44 [.p σ3.length 0 0]⟩):=((Ext.refl bW).new _ _).set (Nat.le_refl _) _
   have b5:((au 44 aV.zero.cells bW).set bW.length ⟨0,false,.cells 44 [.p σ3.length 0 0]⟩)[bW.length]? =_:=at_set (aH _ _ _) _
   have l5:((au 44 aV.zero.cells bW).set bW.length ⟨0,false,.cells 44 [.p σ3.length 0 0]⟩).length=bW.length+1:=by rw [List.length_set,aI]
   generalize (au 44 aV.zero.cells bW).set bW.length ⟨0,false,.cells 44 [.p σ3.length 0 0]⟩=dL at b5 x5 l5 ⊢
   conv=>whnf
   have x35:Ext σ3 dL:=x4.trans x5
   have h5:=h3.ext x35
   have d1:=x35.get c3
   have dt:=x35.get ht3
   have dx:=x5.get b4
   have pF:aO p σ dL:=xx.trans (aO.of x35)
   refine ak (aj (T:=aW) rfl rfl (ah (d1)) rfl) ?_
   conv=>whnf
   refine ak (aj (T:=dP) rfl rfl (ah (dt)) rfl) ?_
   conv=>whnf
   refine ay.mono (Q:=fun v s=>v= .tu []∧s[bW.length]? =some ⟨0,false,.cells 44 [.p σ3.length 0 0]⟩∧Q (.p σ3.length 0 0) s) ?_ fun v s q=>?_
   ·have bad:∀(c l:Nat) (s1:St),aO p dL s1→PB p s1 (d+1) c l→oQ p w g all σ d Q (.bad c l)→ay X 154 [.p σ.length 0 0,.p bW.length 0 0] s1 (QI p m d (fun v s=>v= .tu []∧s[bW.length]? =some ⟨0,false,.cells 44 [.p σ3.length 0 0]⟩∧Q (.p σ3.length 0 0) s)):=by
        intro c l s1 y1 k1 hq
        refine Rh k1 (y1.get (by omega) d1) (y1.get (by omega) b5) (y1.get (by omega) dx) ⟨by omega,by omega,by omega⟩ fun s2 k2 fr=>?_
        obtain⟨w2,g2,all2,m2,fo,fg,j1,j2,j3⟩:=k2
        exact⟨rfl,w2,g2,all2,m2,_,j1,.inr (by simp),fun s3 y3 j4=>⟨rfl,y3.get (by omega) (fr.get (by omega) (by omega) (y1.get (by omega) b5)),hq _ _ _ (((pF.trans y1).bg fr (by omega)).trans y3) ⟨w2,g2,all2,m2,fo,fg,j4,j2,y3.get j2 j3⟩⟩⟩
    refine JK t.s h5 ht hd (fun hi=>(aU he hts hi).1) (fun hi h64 s1 y1 k1=>?_) (fun hi h64 s1 y1 k1=>?_) (fun hi s1 y1 k1=>by rw [hk] at hi;cases hi)
    ·obtain⟨hm1,he1,hle⟩:=aU he hts hi
     rw [if_neg (by omega)] at hQ
     have hg:=(allE n).un (d+1) (all.drop (m+1)) he1 (by omega)
     have e1:=y1.get (by omega) d1
     have e5:=y1.get (by omega) b5
     have ex:=y1.get (by omega) dx
     refine ay.body (F:=Qo) aC (lit:=false) rfl rfl (Nat.le_of_ble_eq_true rfl) ?_
     conv=>whnf
     refine ak (aj (T:=aV) rfl rfl (ah (e5)) rfl) ?_
     conv=>whnf
     refine ak (aj (T:=aW) rfl rfl (ah (e1)) rfl) ?_
     conv=>whnf
     refine ih.un (d+1) s1 (m+1) _ k1 (by omega) he1 (by omega) ?_
     rw [hr] at hg ⊢
     generalize pUn n (d+1) r=r1 at hg hQ
     cases r1 with
     | out=>exact hg.elim
     | bad c l=>
       intro o g' s2 y2 k2
       have fx:=y2.get (by omega) ex
       conv=>whnf
       refine⟨?_,?_⟩
       ·conv=>whnf
        refine ak (aj (T:=aV) rfl rfl (ah (y2.get (by omega) e5)) rfl) ?_
        rfl
       ·conv=>whnf
        refine ak (aF (T:=aV) ([.i .i64 3,.i .u32 0,.s [],.s t.s,.p0,.p o g' 0,.sl0,.i .i64 t.l]) rfl (fx) rfl rfl (Nat.le_of_ble_eq_true rfl) rfl) ?_
        conv=>whnf
        have k3:=k2.bF fx (by decide) (by decide) (by decide) ⟨0,false,.cells 48 [.i .i64 3,.i .u32 0,.s [],.s t.s,.p0,.p o g' 0,.sl0,.i .i64 t.l]⟩
        have fr:bG p σ3.length s1 _:=(bG.of y2).trans (bG.bF p σ3.length s2 ⟨0,false,.cells 48 [.i .i64 3,.i .u32 0,.s [],.s t.s,.p0,.p o g' 0,.sl0,.i .i64 t.l]⟩)
        obtain⟨w2,g2,all2,m2,fo,fg,j1,j2,j3⟩:=k3
        exact rH ex (at_set fx _) (by simp) ⟨rfl,w2,g2,all2,m2,_,j1,.inr (by simp),fun s3 y3 j4=>⟨rfl,y3.get (by omega) (fr.get (by omega) (by omega) e5),hQ _ _ _ (((pF.trans y1).bg fr (by omega)).trans y3) ⟨w2,g2,all2,m2,fo,fg,j4,j2,y3.get j2 j3⟩⟩⟩
     | ok y ts1=>
       intro o g' s2 m2 y2 k2 hm2 EG
       have fx:=y2.get (by omega) ex
       have hlt:m+1<m2:=by
        have:=hg.2.2
        rw [←hm2,←hr,List.length_drop,List.length_drop] at this
        omega
       have hQ:oQ p w g all σ d Q (.ok (.ex 3 0 [] t.s .nil y .nil t.l) ts1):=hQ
       conv=>whnf
       refine⟨?_,?_⟩
       ·conv=>whnf
        refine ak (aj (T:=aV) rfl rfl (ah (y2.get (by omega) e5)) rfl) ?_
        rfl
       ·conv=>whnf
        refine ak (aF (T:=aV) ([.i .i64 3,.i .u32 0,.s [],.s t.s,.p0,.p o g' 0,.sl0,.i .i64 t.l]) rfl (fx) rfl rfl (Nat.le_of_ble_eq_true rfl) rfl) ?_
        conv=>whnf
        have k3:=k2.bF fx (by decide) (by decide) ⟨0,false,.cells 48 [.i .i64 3,.i .u32 0,.s [],.s t.s,.p0,.p o g' 0,.sl0,.i .i64 t.l]⟩
        have fr:bG p σ3.length s1 _:=(bG.of y2).trans (bG.bF p σ3.length s2 ⟨0,false,.cells 48 [.i .i64 3,.i .u32 0,.s [],.s t.s,.p0,.p o g' 0,.sl0,.i .i64 t.l]⟩)
        have ly1:=y1.len
        refine rH ex (at_set fx _) (by simp) ⟨rfl,w,g,all,m2,_,k3,.inl (by omega),fun s3 y3 j4=>⟨rfl,y3.get (by omega) (fr.get (by omega) (by omega) e5),hQ _ _ _ _ (((pF.trans y1).bg fr (by omega)).trans y3) j4 hm2 ?_⟩⟩
        refine⟨σ3.length,0,.p0,.p o g' 0,.sl0,xx.len,rfl,y3.get (by omega) (at_set fx _),rfl,?_,rfl⟩
        exact bC.mono (fun i hi=>by omega) (fun i hi a ha=>y3.get (by omega) (aN ha (by omega) _)) EG
    ·rw [if_pos h64] at hQ
     exact bad 3 t.l s1 y1 k1 hQ
   ·obtain⟨rfl,q1,q2⟩:=q
    conv=>whnf
    refine ak (aj (T:=aV) rfl rfl (ah (q1)) rfl) ?_
    conv=>whnf
    exact Fin.ref rfl q2
def yB (all:List Tok):Prop:=∀z∈all,z.k=2→z.s≠[]
theorem N7 (hno:yw all)(hne:yB all)(ih:WP p w g all n)(d:Nat)(σ:St)(m:Nat)(Q:AV→St→Prop)(h:PW p w g all σ m d .p0)(hd:d≤64)(he:EndOk (all.drop m))(hn:10*(all.drop m).length+6≤n+1)(hQ:oQ p w g all σ d Q (pCell (n+1) d (all.drop m))):ay X 145 [.p p 0 0] σ Q:=by
 obtain⟨t,r,hts⟩:=he.ne
 obtain⟨ht,hr⟩:=bJ hts
 have hpl:=bn h.obj
 unfold pCell at hQ
 rw [hts] at hQ
 simp only at hQ
 refine ay.body (F:=Qn) aC (lit:=false) rfl rfl (Nat.le_of_ble_eq_true rfl) ?_
 conv=>whnf
 refine ay.to (h_ h ht) ?_
 conv=>whnf
 refine kU t fun σ1 x1 ht1 l1=>?_
 have h1:=h.ext x1
 conv=>whnf
 have b2:(au 9 [.s [40]] σ1)[σ1.length]? =some ⟨0,false,.cells 9 [.s [40]]⟩:=aH _ _ _
 have x2:Ext σ1 (au 9 [.s [40]] σ1):=(Ext.refl σ1).new _ _
 have l2:(au 9 [.s [40]] σ1).length=σ1.length+1:=aI _ _ _
 generalize au 9 [.s [40]] σ1=σ2 at b2 x2 l2 ⊢
 have h2:=h1.ext x2
 have ht2:=x2.get ht1
 have xx:aO p σ σ2:=aO.of (x1.trans x2)
 refine ay.to (vC [[40]] h2 ht σ1.length 0 (ah b2) (Nat.le_of_ble_eq_true rfl)) ?_
 conv=>whnf
 rw [gZ]
 cases hi1:fB [40] t with
 | true=>
   conv=>whnf
   rw [if_pos (show isW [40] (t :: r)=true from hi1),←hts] at hQ
   refine ih.with_ d [40] [41] σ2 m _ h2 hd he (by omega) (hQ.to xx fun o g' s q=>?_)
   conv=>whnf
   exact Fin.ref rfl q
 | false=>
   rw [if_neg (by rw [show isW [40] (t :: r)=fB [40] t from rfl,hi1];decide)] at hQ
   conv=>whnf
   refine ak (aj (T:=dJ) rfl rfl (ah (ht2)) rfl) ?_
   conv=>whnf
   by_cases hk:t.k=2
   ·rw [decide_eq_true (by omega)]
    conv=>whnf
    rw [if_pos hk] at hQ
    obtain⟨n1,n2,n3⟩:=hno t (List.mem_of_getElem? ht) hk
    have he1:EndOk (all.drop (m+1)):=by rw [hr];rw [hts] at he;exact he.tail (by rw [hk];decide)
    conv=>whnf
    refine ay.to (jk h2) ?_
    conv=>whnf
    refine f_ h2 (nR he1) fun σ3 x3 h3=>?_
    conv=>whnf
    refine ak (aj (T:=dP) rfl rfl (ah (x3.get (by omega) ht2)) rfl) ?_
    conv=>whnf
    refine ay.to (aac t.s n1 (hne t (List.mem_of_getElem? ht) hk) n2 n3 σ3) ?_
    conv=>whnf
    refine⟨((numP 0 t.s:Nat):Int),wrap_u32 (by omega) (by omega),?_⟩
    conv=>whnf
    refine ak (aj (T:=dJ) rfl rfl (ah (x3.get (by omega) ht2)) rfl) ?_
    conv=>whnf
    refine Fin.ref rfl (hQ _ _ _ _ ((xx.trans x3).new _ _) (h3.new _ _) hr ?_)
    exact⟨_,0,.p0,.p0,.sl0,by have:=xx.len;have:=x3.len;omega,rfl,aH _ _ _,rfl,rfl,rfl⟩
   ·rw [decide_eq_false (by omega)]
    conv=>whnf
    rw [if_neg hk] at hQ
    conv=>whnf
    refine ak (aj (T:=dJ) rfl rfl (ah (ht2)) rfl) ?_
    conv=>whnf
    refine BU h2 ht (fun hk1=>nR (by rw [hr];rw [hts] at he;exact he.tail (by rw [hk1];decide))) (fun hk1 σ3 x3 h3=>?_) (fun hk1 σ3 x3 h3=>?_)
    ·simp only [nameW,if_pos hk1] at hQ
     conv=>whnf
     refine⟨?_,?_⟩
     ·conv=>whnf
      refine ak (aj (T:=dJ) rfl rfl (ah (x3.get (by omega) ht2)) rfl) ?_
      rfl
     ·conv=>whnf
      refine Fin.ref rfl (hQ _ _ _ _ ((xx.trans x3).new _ _) (h3.new _ _) hr ?_)
      exact⟨_,0,.p0,.p0,.sl0,by have:=xx.len;have:=x3.len;omega,rfl,aH _ _ _,rfl,rfl,rfl⟩
    ·simp only [nameW,if_neg hk1] at hQ
     conv=>whnf
     refine⟨?_,?_⟩
     ·conv=>whnf
      refine ak (aj (T:=dJ) rfl rfl (ah (x3.get (by omega) ht2)) rfl) ?_
      rfl
     ·conv=>whnf
      exact Fin.ref rfl (hQ _ _ _ ((xx.trans x3).new _ _) (h3.new _ _))
end
end Go.Abs.YtlkfbfhkcaldlaaGreatDoor
namespace Go.Abs.YtlkfbfhkcaldlaaGreatDoor
open Go.Proofs
set_option maxRecDepth 4000
theorem B_ {p B D:Nat} {xu σ2:St} {A:AV} {acc:List Tr} (ha:lH B xu A acc)(x2:aO p xu σ2)(hp:p<B)(hB:B≤xu.length)(hD:D≤σ2.length)(hD0:xu.length≤D)(hl:acc.length≤90000)(oy gy:Nat) {Q:AV→St→Prop}
 (q:∀o3 g3 k σ3,(∀i,i<B→σ3[i]? =σ2[i]?)→σ2.length≤σ3.length→(∀(i:Nat) (a:AO),σ2[i]? =some a→(∀(g:Nat) (ro:Bool) (cs:List AV),a≠⟨g,ro,.cells 44 cs⟩)→σ3[i]? =some a)→(∀y,bC (fun i=>D≤i) σ2 (.p oy gy 0) y→lH B σ3 (.sl o3 g3 0 k 1) (acc ++ [y]))→Q (.sl o3 g3 0 k 1) σ3) :
 xM D7.get false 46 A (.sl σ2.length 0 0 1 1) (au 44 [.p oy gy 0] σ2) Q:=by
 obtain⟨cs,hraw,hea⟩:=ha
 have hcl:=hea.len
 have hco:=hea.one
 have lx:=x2.len
 have EH:Aq B (au 44 [.p oy gy 0] σ2) A cs:=by
  rcases hraw with h | ⟨o,g,q1,q2,q3,q4⟩
  ·exact .inl h
  ·exact .inr ⟨o,g,q1,q2,at_new (x2.get (by omega) q3) _ _,q4⟩
 have hlt:∀o g n z,A= .sl o g 0 n z→o<xu.length:=by
  intro o g n z e
  rcases hraw with ⟨_,h⟩ | ⟨o',g',q1,q2,q3,q4⟩
  ·rw [h] at e;cases e
  ·rw [q2] at e;cases e;exact bn q3
 refine Q8 (B:=B) (cs:=cs) EH hco (by omega) (aH _ _ _) (by rw [aI];omega) fun v' σ3 hr3 hl3 ho3 hb3 aae=>?_
 rw [aI] at hl3
 obtain⟨o3,g3,p1,rfl,p3,p4⟩:=hr3.resolve_left (by simp)
 refine q _ _ _ σ3 (fun i hi=>by rw [hb3 i hi,dB (by omega)]) (by omega) (fun i a hi ht=>?_) (fun y EG=>?_)
 ·rw [(ho3 i (by rw [aI];have:=bn hi;omega) ?_).1]
  ·exact at_new hi _ _
  ·intro o g n z e
   rcases hraw with ⟨_,h⟩ | ⟨o',g',q1,q2,q3,q4⟩
   ·rw [h] at e;cases e
   ·rw [q2] at e
    cases e
    intro e
    subst e
    have:=(x2.get (by omega) q3).symm.trans hi
    exact ht _ _ _ (Option.some.inj this).symm
 refine⟨_,hr3,dR.snoc (dR.mono (fun i hi=>⟨hi.1.1,(ho3 i (by rw [aI];omega) hi.1.2).2⟩) (fun i hi a ha=>by rw [(ho3 i (by rw [aI];omega) hi.1.2).1,dB (by omega),x2.old i hi.2 (by omega)];exact ha) hea.below) ⟨_,_,rfl⟩ ?_⟩
 have hap:∀i,D≤i→apart A i:=fun i hi o g n z e=>by have:=hlt o g n z e;omega
 exact bC.mono (fun i hi=>⟨by omega,(ho3 i (by rw [aI];omega) (hap i hi.1)).2⟩) (fun i hi a ha=>by rw [(ho3 i (by rw [aI];omega) (hap i hi.1)).1];exact at_new ha _ _) EG.below
structure cu (p x B:Nat)(σ σ':St):Prop where
 len:σ.length≤σ'.length
 old:∀i,i<B→i≠p→i≠x→σ'[i]? =σ[i]?
theorem cu.refl (p x B:Nat)(σ:St):cu p x B σ σ:=⟨Nat.le_refl _,fun _ _ _ _=>rfl⟩
theorem cu.trans {p x B:Nat} {a b c:St} (h:cu p x B a b)(k:cu p x B b c):cu p x B a c:=⟨Nat.le_trans h.len k.len,fun i hi hp hx=>by rw [k.old i hi hp hx,h.old i hi hp hx]⟩
theorem cu.of {p x B:Nat} {a b:St} (h:aO p a b)(hB:B≤a.length):cu p x B a b:=⟨h.len,fun i hi hp _=>h.old i (by omega) hp⟩
theorem cu.get {p x B o:Nat} {σ σ':St} {a:AO} (h:cu p x B σ σ')(hb:o<B)(hp:o≠p)(hx:o≠x)(ho:σ[o]? =some a):σ'[o]? =some a:=by rw [h.old o hb hp hx];exact ho
theorem lH.keep {B:Nat} {σ σ':St} {v:AV} {xs:List Tr} (h:lH B σ v xs)(k:∀(i:Nat) (a:AO),B≤i→σ[i]? =some a→σ'[i]? =some a):lH B σ' v xs:=by
 obtain⟨cs,h1,h2⟩:=h
 refine⟨cs,?_,h2.mono (fun i hi=>hi) (fun i hi a ha=>k i a hi.1 ha)⟩
 rcases h1 with h | ⟨o,g,q1,q2,q3,q4⟩
 ·exact .inl h
 ·exact .inr ⟨o,g,q1,q2,k o _ q1 q3,q4⟩
theorem PW.EI {p w g m d:Nat} {all:List Tok} {σ σ':St} {f:AV} (h:PW p w g all σ m d f)(k:∀(i:Nat) (a:AO),σ[i]? =some a→(∀(g:Nat) (ro:Bool) (cs:List AV),a≠⟨g,ro,.cells 44 cs⟩)→σ'[i]? =some a):PW p w g all σ' m d f:=
 ⟨k _ _ h.obj (fun _ _ _ e=>by cases e),k _ _ h.tok (fun _ _ _ e=>by cases e),h.ne,h.len,h.at_,h.dp⟩
theorem PB.EI {p d c l:Nat} {σ σ':St} (h:PB p σ d c l)(k:∀(i:Nat) (a:AO),σ[i]? =some a→(∀(g:Nat) (ro:Bool) (cs:List AV),a≠⟨g,ro,.cells 44 cs⟩)→σ'[i]? =some a):PB p σ' d c l:=by
 obtain⟨w,g,all,m,fo,fg,h1,h2,h3⟩:=h
 exact⟨w,g,all,m,fo,fg,h1.EI k,h2,k _ _ h3 (fun _ _ _ e=>by cases e)⟩
def gB (xg:Nat)(nm:List UInt8)(ln:Nat)(A:AV):AO:=⟨xg,false,.cells 48 [.i .i64 4,.i .u32 0,.s nm,.s [],.p0,.p0,A,.i .i64 ln]⟩
section
variable {p w g:Nat} {all:List Tok} {n:Nat}
def P1 (p w g:Nat)(all:List Tok)(B xo:Nat)(xg:Nat)(nm:List UInt8)(ln:Nat)(σ:St)(d:Nat)(acc:List Tr)(Q:AV→St→Prop):Re Tr→Prop
 | .ok y ts=>∀A' σ' m',cu p xo B σ σ'→PW p w g all σ' m' d .p0→all.drop m'= ts→σ'[xo]? =some (gB xg nm ln A')→lH B σ' A' (acc ++ [y])→Q (.tu []) σ'
 | .bad c l=>∀A' σ',cu p xo B σ σ'→PB p σ' d c l→σ'[xo]? =some (gB xg nm ln A')→CS A'→Q (.tu []) σ'
 | .out=>True
theorem Ri (ih:WP p w g all n)(d B xo bx b1:Nat)(xg:Nat)(nm:List UInt8)(ln:Nat)(acc:List Tr)(A:AV)(σ:St)(m:Nat)(Q:AV→St→Prop)(h:PW p w g all σ m d .p0)(hd:d≤64)(hlt:p<B∧w<B∧xo<B∧bx<B∧b1<B)(hne:xo≠p∧bx≠p∧b1≠p∧bx≠xo∧b1≠xo)(hB:B≤σ.length)
 (hbx:σ[bx]? =some ⟨0,false,.cells 44 [.p xo xg 0]⟩) (hb1:σ[b1]? =some ⟨0,false,.cells 85 [.p p 0 0]⟩) (hx:σ[xo]? =some (gB xg nm ln A)) (ha:lH B σ A acc) (he:EndOk (all.drop m)) (hn:10*(all.drop m).length+9≤n) (hs:acc.length≤40001)
 (hQ:P1 p w g all B xo xg nm ln σ d acc Q (pExpr n d 1 (all.drop m))):ay X 156 [.p bx 0 0,.p b1 0 0] σ Q:=by
 have hg:=(allE n).expr d 1 (all.drop m) he (by omega)
 have hsl:CS A:=by obtain⟨cs,hr,_⟩:=ha;exact hr.sl
 rcases hsl with rfl | ⟨oo,gg,kk,rfl⟩
 all_goals
  refine ay.body (F:=Qq) aC (lit:=false) rfl rfl (Nat.le_of_ble_eq_true rfl) ?_
  conv=>whnf
  refine ak (aj (T:=aV) rfl rfl (ah (hbx)) rfl) ?_
  conv=>whnf
  refine ak (aj (T:=aV) rfl rfl (ah (hbx)) rfl) ?_
  conv=>whnf
  refine ak (aj (T:=nJ) rfl rfl (ah (hx)) rfl) ?_
  conv=>whnf
  refine ak (aj (T:=aW) rfl rfl (ah (hb1)) rfl) ?_
  conv=>whnf
  refine ih.expr d 1 σ m _ h hd (by omega) he hn ?_
  generalize pExpr n d 1 (all.drop m)=r1 at hg hQ
  cases r1 with
  | out=>exact hg.elim
  | bad c l=>
    intro oy gy σ2 x2 k2
    have vP:=x2.get hne.2.1 hbx
    have cx:=x2.get hne.1 hx
    have lx:=x2.len
    conv=>whnf
    refine⟨?_,?_⟩
    ·conv=>whnf
     refine ak (aj (T:=aV) rfl rfl (ah (vP)) rfl) ?_
     rfl
    conv=>whnf
    refine⟨?_,?_⟩
    ·conv=>whnf
     refine ak (aj (T:=aV) rfl rfl (ah (vP)) rfl) ?_
     rfl
    conv=>whnf
    refine⟨?_,?_⟩
    ·conv=>whnf
     refine ak (aj (T:=nJ) rfl rfl (ah (cx)) rfl) ?_
     rfl
    conv=>whnf
    refine⟨?_,?_⟩
    ·conv=>whnf
     refine ak (aj (T:=aV) rfl rfl (ah (at_new vP _ _)) rfl) ?_
     rfl
    conv=>whnf
    refine⟨?_,?_⟩
    ·conv=>whnf
     refine ak (aj (T:=aV) rfl rfl (ah (at_new vP _ _)) rfl) ?_
     rfl
    conv=>whnf
    refine⟨?_,?_⟩
    ·conv=>whnf
     refine ak (aj (T:=nJ) rfl rfl (ah (at_new cx _ _)) rfl) ?_
     rfl
    conv=>whnf
    refine B_ (D:=σ2.length) ha x2 hlt.1 hB (Nat.le_refl _) lx (by omega) oy gy fun o3 g3 jF σ3 e3 l3 kT kA=>?_
    have dbx:σ3[bx]? =_:=(e3 bx hlt.2.2.2.1).trans vP
    have dx:σ3[xo]? =_:=(e3 xo hlt.2.2.1).trans cx
    have k3:=k2.EI kT
    conv=>whnf
    refine⟨?_,?_⟩
    ·conv=>whnf
     refine ak (aj (T:=aV) rfl rfl (ah (dbx)) rfl) ?_
     rfl
    conv=>whnf
    refine ak (aF (T:=nJ) ([.i .i64 4,.i .u32 0,.s nm,.s [],.p0,.p0,.sl o3 g3 0 jF 1,.i .i64 ln]) rfl (dx) rfl rfl (Nat.le_of_ble_eq_true rfl) rfl) ?_
    conv=>whnf
    have k4:=k3.bF dx (by decide) (by decide) (by decide) ⟨xg,false,.cells 48 [.i .i64 4,.i .u32 0,.s nm,.s [],.p0,.p0,.sl o3 g3 0 jF 1,.i .i64 ln]⟩
    have CU:cu p xo B σ (σ3.set xo (gB xg nm ln (.sl o3 g3 0 jF 1))):=⟨by rw [List.length_set];omega,fun i hi kH hix=>by rw [List.getElem?_set_ne (fun e=>hix e.symm),e3 i hi,x2.old i (by omega) kH]⟩
    have hsl':CS (.sl o3 g3 0 jF 1):=.inr ⟨_,_,_,rfl⟩
    have q:=hQ _ _ CU k4 (at_set dx _) hsl'
    obtain⟨w2,g2,all2,m2,fo,fg,j1,j2,j3⟩:=k4
    exact h.ne_of j1 (.inr (by simp)) q
  | ok y ts1=>
    intro oy gy σ2 m2 x2 k2 hm2 EG
    have hlt2:m<m2:=by
        have:=hg.2.2
        rw [←hm2,List.length_drop,List.length_drop] at this
        omega
    have vP:=x2.get hne.2.1 hbx
    have cx:=x2.get hne.1 hx
    have lx:=x2.len
    conv=>whnf
    refine⟨?_,?_⟩
    ·conv=>whnf
     refine ak (aj (T:=aV) rfl rfl (ah (vP)) rfl) ?_
     rfl
    conv=>whnf
    refine⟨?_,?_⟩
    ·conv=>whnf
     refine ak (aj (T:=aV) rfl rfl (ah (vP)) rfl) ?_
     rfl
    conv=>whnf
    refine⟨?_,?_⟩
    ·conv=>whnf
     refine ak (aj (T:=nJ) rfl rfl (ah (cx)) rfl) ?_
     rfl
    conv=>whnf
    refine⟨?_,?_⟩
    ·conv=>whnf
     refine ak (aj (T:=aV) rfl rfl (ah (at_new vP _ _)) rfl) ?_
     rfl
    conv=>whnf
    refine⟨?_,?_⟩
    ·conv=>whnf
     refine ak (aj (T:=aV) rfl rfl (ah (at_new vP _ _)) rfl) ?_
     rfl
    conv=>whnf
    refine⟨?_,?_⟩
    ·conv=>whnf
     refine ak (aj (T:=nJ) rfl rfl (ah (at_new cx _ _)) rfl) ?_
     rfl
    conv=>whnf
    refine B_ (D:=σ.length) ha x2 hlt.1 hB lx (Nat.le_refl _) (by omega) oy gy fun o3 g3 jF σ3 e3 l3 kT kA=>?_
    have dbx:σ3[bx]? =_:=(e3 bx hlt.2.2.2.1).trans vP
    have dx:σ3[xo]? =_:=(e3 xo hlt.2.2.1).trans cx
    have k3:=k2.EI kT
    conv=>whnf
    refine⟨?_,?_⟩
    ·conv=>whnf
     refine ak (aj (T:=aV) rfl rfl (ah (dbx)) rfl) ?_
     rfl
    conv=>whnf
    refine ak (aF (T:=nJ) ([.i .i64 4,.i .u32 0,.s nm,.s [],.p0,.p0,.sl o3 g3 0 jF 1,.i .i64 ln]) rfl (dx) rfl rfl (Nat.le_of_ble_eq_true rfl) rfl) ?_
    conv=>whnf
    have k4:=k3.bF dx (by decide) (by decide) ⟨xg,false,.cells 48 [.i .i64 4,.i .u32 0,.s nm,.s [],.p0,.p0,.sl o3 g3 0 jF 1,.i .i64 ln]⟩
    have CU:cu p xo B σ (σ3.set xo (gB xg nm ln (.sl o3 g3 0 jF 1))):=⟨by rw [List.length_set];omega,fun i hi kH hix=>by rw [List.getElem?_set_ne (fun e=>hix e.symm),e3 i hi,x2.old i (by omega) kH]⟩
    exact h.ne_of k4 (.inl hlt2) (hQ _ _ _ CU k4 hm2 (at_set dx _) ((kA y EG).keep fun i a hi ha=>aN ha (by omega) _))
theorem Rj (d c l B xo bx b1:Nat)(xg:Nat)(nm:List UInt8)(ln:Nat)(acc:List Tr)(A:AV)(σ:St)(Q:AV→St→Prop)(h:PB p σ d c l)(hlt:p<B∧xo<B∧bx<B∧b1<B)(hne:xo≠p∧bx≠p∧b1≠p∧bx≠xo∧b1≠xo)(hB:B≤σ.length)
 (hbx:σ[bx]? =some ⟨0,false,.cells 44 [.p xo xg 0]⟩) (hb1:σ[b1]? =some ⟨0,false,.cells 85 [.p p 0 0]⟩) (hx:σ[xo]? =some (gB xg nm ln A)) (ha:lH B σ A acc) (hs:acc.length≤40001)
 (hQ:∀A' σ',cu p xo B σ σ'→PB p σ' d c l→σ'[xo]? =some (gB xg nm ln A')→CS A'→Q (.tu []) σ'):ay X 156 [.p bx 0 0,.p b1 0 0] σ Q:=by
 have hsl:CS A:=by obtain⟨cs,hr,_⟩:=ha;exact hr.sl
 have hQ0:=hQ A σ (.refl _ _ _ _) h hx hsl
 rcases hsl with rfl | ⟨oo,gg,kk,rfl⟩
 all_goals
  refine ay.body (F:=Qq) aC (lit:=false) rfl rfl (Nat.le_of_ble_eq_true rfl) ?_
  conv=>whnf
  refine ak (aj (T:=aV) rfl rfl (ah (hbx)) rfl) ?_
  conv=>whnf
  refine ak (aj (T:=aV) rfl rfl (ah (hbx)) rfl) ?_
  conv=>whnf
  refine ak (aj (T:=nJ) rfl rfl (ah (hx)) rfl) ?_
  conv=>whnf
  refine ak (aj (T:=aW) rfl rfl (ah (hb1)) rfl) ?_
  conv=>whnf
  refine NV 1 h fun oy σ2 x2 k2=>?_
  have vP:=x2.get hne.2.1 hbx
  have cx:=x2.get hne.1 hx
  have lx:=x2.len
  conv=>whnf
  refine⟨?_,?_⟩
  ·conv=>whnf
   refine ak (aj (T:=aV) rfl rfl (ah (vP)) rfl) ?_
   rfl
  conv=>whnf
  refine⟨?_,?_⟩
  ·conv=>whnf
   refine ak (aj (T:=aV) rfl rfl (ah (vP)) rfl) ?_
   rfl
  conv=>whnf
  refine⟨?_,?_⟩
  ·conv=>whnf
   refine ak (aj (T:=nJ) rfl rfl (ah (cx)) rfl) ?_
   rfl
  conv=>whnf
  refine⟨?_,?_⟩
  ·conv=>whnf
   refine ak (aj (T:=aV) rfl rfl (ah (at_new vP _ _)) rfl) ?_
   rfl
  conv=>whnf
  refine⟨?_,?_⟩
  ·conv=>whnf
   refine ak (aj (T:=aV) rfl rfl (ah (at_new vP _ _)) rfl) ?_
   rfl
  conv=>whnf
  refine⟨?_,?_⟩
  ·conv=>whnf
   refine ak (aj (T:=nJ) rfl rfl (ah (at_new cx _ _)) rfl) ?_
   rfl
  conv=>whnf
  refine B_ (D:=σ2.length) ha x2 hlt.1 hB (Nat.le_refl _) lx (by omega) oy 0 fun o3 g3 jF σ3 e3 l3 kT kA=>?_
  have dbx:σ3[bx]? =_:=(e3 bx hlt.2.2.1).trans vP
  have dx:σ3[xo]? =_:=(e3 xo hlt.2.1).trans cx
  have k3:=k2.EI kT
  conv=>whnf
  refine⟨?_,?_⟩
  ·conv=>whnf
   refine ak (aj (T:=aV) rfl rfl (ah (dbx)) rfl) ?_
   rfl
  conv=>whnf
  refine ak (aF (T:=nJ) ([.i .i64 4,.i .u32 0,.s nm,.s [],.p0,.p0,.sl o3 g3 0 jF 1,.i .i64 ln]) rfl (dx) rfl rfl (Nat.le_of_ble_eq_true rfl) rfl) ?_
  conv=>whnf
  have k4:=k3.bF dx (by decide) (by decide) (by decide) ⟨xg,false,.cells 48 [.i .i64 4,.i .u32 0,.s nm,.s [],.p0,.p0,.sl o3 g3 0 jF 1,.i .i64 ln]⟩
  have CU:cu p xo B σ (σ3.set xo (gB xg nm ln (.sl o3 g3 0 jF 1))):=⟨by rw [List.length_set];omega,fun i hi kH hix=>by rw [List.getElem?_set_ne (fun e=>hix e.symm),e3 i hi,x2.old i (by omega) kH]⟩
  exact iY (hQ _ _ CU k4 (at_set dx _) (.inr ⟨_,_,_,rfl⟩)) fun _=>hQ0
def PAp (p w g:Nat)(all:List Tok)(B xo b4:Nat)(xg:Nat)(nm:List UInt8)(ln:Nat)(σ:St)(d:Nat)(acc:List Tr)(Q:Out→Env→St→Prop):Re Trs→Prop
 | .ok xs ts=>∀A' σ' m' e',get e' 0= .p b4 0 0→cu p xo B σ σ'→PW p w g all σ' m' d .p0→all.drop m'= ts→σ'[xo]? =some (gB xg nm ln A')→lH B σ' A' (acc ++ uQ xs)→Q (.exit 0) e' σ'
 | .bad c l=>∀A' σ' e',get e' 0= .p b4 0 0→cu p xo B σ σ'→PB p σ' d c l→σ'[xo]? =some (gB xg nm ln A')→CS A'→Q (.exit 0) e' σ'
 | .out=>True
theorem j_ {d c l b4:Nat} {bb:Bool} {σ:St} {Q:Out→Env→St→Prop} (h:PB p σ d c l)(hb4:σ[b4]? =some ⟨0,false,.cells 85 [.p p 0 0]⟩)(b5:Nat)
 (q:∀e',get e' 0= .p b4 0 0→Q (.exit 0) e' σ):aS X [0,1,2] uM [(0,.p b4 0 0),(1,.p b5 0 0),(2,.b bb)] σ Q:=by
 cases bb
 all_goals
  refine aS.round aC (lit:=false) ?_
  conv=>whnf
  refine ak (aj (T:=aW) rfl rfl (ah (hb4)) rfl) ?_
  conv=>whnf
  refine ay.to (nU h) ?_
  conv=>whnf
  exact q _ rfl
def nX (p w g:Nat)(all:List Tok)(n:Nat):Prop:=∀(d B xo bx b1 b4 b5:Nat) (xg:Nat) (nm:List UInt8) (ln:Nat),d≤64→(p<B∧w<B∧xo<B∧bx<B∧b1<B)→(b4<B∧b5<B)→(xo≠p∧bx≠p∧b1≠p∧bx≠xo∧b1≠xo)→(b4≠p∧b5≠p∧b4≠xo∧b5≠xo)→
 ∀ (acc:List Tr) (A:AV) (σ:St) (m:Nat) (Q:Out→Env→St→Prop),PW p w g all σ m d .p0→B≤σ.length→σ[bx]? =some ⟨0,false,.cells 44 [.p xo xg 0]⟩→σ[b1]? =some ⟨0,false,.cells 85 [.p p 0 0]⟩→σ[b4]? =some ⟨0,false,.cells 85 [.p p 0 0]⟩→σ[b5]? =some ⟨0,false,.cells 1 [.fn (.func 156) [] [.p bx 0 0,.p b1 0 0]]⟩→σ[xo]? =some (gB xg nm ln A)→lH B σ A acc→
   EndOk (all.drop m)→10*(all.drop m).length+10≤n→acc.length+(all.drop m).length≤40001→PAp p w g all B xo b4 xg nm ln σ d acc Q (pArgs n d acc.isEmpty (all.drop m))→aS X [0,1,2] uM [(0,.p b4 0 0),(1,.p b5 0 0),(2,.b acc.isEmpty)] σ Q
theorem UW (ih:WP p w g all n)(OY:nX p w g all n):nX p w g all (n+1):=by
 intro d B xo bx b1 b4 b5 xg nm ln hd hlt hlt4 hne ku acc A σ m Q h hB hbx hb1 hb4 hb5 hx ha he hn hs hQ
 obtain⟨t,r,hts⟩:=he.ne
 obtain⟨ht,hr⟩:=bJ hts
 unfold pArgs at hQ
 rw [hts] at hQ
 have key:∀(σ1:St) (m1:Nat) (Q2:AV→St→Prop),cu p xo B σ σ1→PW p w g all σ1 m1 d .p0→m≤m1→EndOk (all.drop m1)→σ1[xo]? =some (gB xg nm ln A)→lH B σ1 A acc→(PAp p w g all B xo b4 xg nm ln σ d acc Q ((pExpr n d 1 (all.drop m1)).bind fun x ts=>(pArgs n d false ts).bind fun xs ts=>.ok (.cons x xs) ts))→
  (∀s,aS X [0,1,2] uM [(0,.p b4 0 0),(1,.p b5 0 0),(2,.b false)] s Q→Q2 (.tu []) s)→ay X 156 [.p bx 0 0,.p b1 0 0] σ1 Q2:=by
  intro σ1 m1 Q2 x1 h1 hm1 he1 hx1 ha1 hq hk
  have hlen:(all.drop m1).length≤(all.drop m).length:=by rw [List.length_drop,List.length_drop];omega
  have hg:=(allE n).expr d 1 (all.drop m1) he1 (by omega)
  have lx1:=x1.len
  refine Ri ih d B xo bx b1 xg nm ln acc A σ1 m1 Q2 h1 hd hlt hne (by omega) (x1.get hlt.2.2.2.1 hne.2.1 hne.2.2.2.1 hbx) (x1.get hlt.2.2.2.2 hne.2.2.1 hne.2.2.2.2 hb1) hx1 ha1 he1 (by omega) (by omega) ?_
  generalize pExpr n d 1 (all.drop m1)=r1 at hg hq
  cases r1 with
  | out=>exact hg.elim
  | bad c l=>
    intro A' σ2 x2 k2 hx2 hsl
    have x12:=x1.trans x2
    refine hk _ (j_ k2 (x12.get hlt4.1 ku.1 ku.2.2.1 hb4) b5 fun e' e0=>hq A' σ2 e' e0 x12 k2 hx2 hsl)
  | ok y ts1=>
    intro A' σ2 m2 x2 k2 hm2 hx2 ha2
    have x12:=x1.trans x2
    have lx2:=x2.len
    have hq:PAp p w g all B xo b4 xg nm ln σ d acc Q ((pArgs n d false ts1).bind fun xs ts=>.ok (.cons y xs) ts):=hq
    rw [←hm2] at hq hg
    have hlt2:=hg.2.2
    have hi:=OY d B xo bx b1 b4 b5 xg nm ln hd hlt hlt4 hne ku (acc ++ [y]) A' σ2 m2 Q k2 (by omega) (x12.get hlt.2.2.2.1 hne.2.1 hne.2.2.2.1 hbx) (x12.get hlt.2.2.2.2 hne.2.2.1 hne.2.2.2.2 hb1) (x12.get hlt4.1 ku.1 ku.2.2.1 hb4) (x12.get hlt4.2 ku.2.1 ku.2.2.2 hb5) hx2 ha2 hg.2.1 (by omega) (by rw [List.length_append];simp only [List.length_cons,List.length_nil];omega)
    rw [show (acc ++ [y]).isEmpty=false by cases acc <;> rfl] at hi
    refine hk _ (hi ?_)
    generalize pArgs n d false (all.drop m2)=r2 at hq
    cases r2 with
    | out=>trivial
    | bad c l=>exact fun A4 bW e' e0 x4=>hq A4 bW e' e0 (x12.trans x4)
    | ok xs ts4=>exact fun A4 bW m4 e' e0 x4 h4 hm4 hx4 N8=>hq A4 bW m4 e' e0 (x12.trans x4) h4 hm4 hx4 (by rw [List.append_assoc] at N8;exact N8)
 have tail:∀(b:Bool),acc.isEmpty=b→PAp p w g all B xo b4 xg nm ln σ d acc Q (if isW [41] (t :: r)=true then .ok .nil (t :: r) else(if b=true then Re.ok () (t :: r) else mustW [44] (t :: r)).bind fun _ ts=>(pExpr n d 1 ts).bind fun x ts=>(pArgs n d false ts).bind fun xs ts=>.ok (.cons x xs) ts)→aS X [0,1,2] uM [(0,.p b4 0 0),(1,.p b5 0 0),(2,.b b)] σ Q:=by
  intro b hb hQ
  cases b with
  | true=>
    refine aS.round aC (lit:=false) ?_
    conv=>whnf
    refine ak (aj (T:=aW) rfl rfl (ah (hb4)) rfl) ?_
    conv=>whnf
    refine ay.to (jk h) ?_
    conv=>whnf
    refine ak (aj (T:=aW) rfl rfl (ah (hb4)) rfl) ?_
    conv=>whnf
    have b7:(au 9 [.s [41]] σ)[σ.length]? =some ⟨0,false,.cells 9 [.s [41]]⟩:=aH _ _ _
    have x7:Ext σ (au 9 [.s [41]] σ):=(Ext.refl σ).new _ _
    have l7:(au 9 [.s [41]] σ).length=σ.length+1:=aI _ _ _
    generalize au 9 [.s [41]] σ=qx at b7 x7 l7 ⊢
    have h1:=h.ext x7
    have c4:=x7.get hb4
    have c5:=x7.get hb5
    have y1:cu p xo B σ qx:=.of (aO.of x7) hB
    refine ay.to (vC [[41]] h1 ht σ.length 0 (ah b7) (Nat.le_of_ble_eq_true rfl)) ?_
    conv=>whnf
    rw [gZ]
    cases hi:fB [41] t with
    | true=>
      rw [if_pos (show isW [41] (t :: r)=true from hi)] at hQ
      conv=>whnf
      exact hQ A qx m _ rfl y1 h1 hts (x7.get hx) (by rw [show acc ++ uQ .nil=acc from List.append_nil acc];exact ha.keep fun i a _ ha=>x7.get ha)
    | false=>
      rw [if_neg (by rw [show isW [41] (t :: r)=fB [41] t from rfl,hi];decide)] at hQ
      rw [if_pos rfl] at hQ
      conv=>whnf
      refine ak (aj (T:=UA) rfl rfl (ah (c5)) rfl) ?_
      conv=>whnf
      refine key qx m _ y1 h1 (Nat.le_refl _) he (x7.get hx) (ha.keep fun i a _ ha=>x7.get ha) (by rw [hts];exact hQ) fun s q=>?_
      conv=>whnf
      exact q
  | false=>
    refine aS.round aC (lit:=false) ?_
    conv=>whnf
    refine ak (aj (T:=aW) rfl rfl (ah (hb4)) rfl) ?_
    conv=>whnf
    refine ay.to (jk h) ?_
    conv=>whnf
    refine ak (aj (T:=aW) rfl rfl (ah (hb4)) rfl) ?_
    conv=>whnf
    have b7:(au 9 [.s [41]] σ)[σ.length]? =some ⟨0,false,.cells 9 [.s [41]]⟩:=aH _ _ _
    have x7:Ext σ (au 9 [.s [41]] σ):=(Ext.refl σ).new _ _
    have l7:(au 9 [.s [41]] σ).length=σ.length+1:=aI _ _ _
    generalize au 9 [.s [41]] σ=qx at b7 x7 l7 ⊢
    have h1:=h.ext x7
    have c4:=x7.get hb4
    have c5:=x7.get hb5
    have y1:cu p xo B σ qx:=.of (aO.of x7) hB
    refine ay.to (vC [[41]] h1 ht σ.length 0 (ah b7) (Nat.le_of_ble_eq_true rfl)) ?_
    conv=>whnf
    rw [gZ]
    cases hi:fB [41] t with
    | true=>
      rw [if_pos (show isW [41] (t :: r)=true from hi)] at hQ
      conv=>whnf
      exact hQ A qx m _ rfl y1 h1 hts (x7.get hx) (by rw [show acc ++ uQ .nil=acc from List.append_nil acc];exact ha.keep fun i a _ ha=>x7.get ha)
    | false=>
      rw [if_neg (by rw [show isW [41] (t :: r)=fB [41] t from rfl,hi];decide)] at hQ
      rw [if_neg (by decide)] at hQ
      conv=>whnf
      refine ak (aj (T:=aW) rfl rfl (ah (c4)) rfl) ?_
      conv=>whnf
      refine ig _ h1 ht (fun hi2=>(aU he hts hi2).1) (fun hi2 σ2 x2 h2=>?_) (fun hi2 σ2 x2 h2=>?_)
      ·rw [mustW,if_pos (show isW [44] (t :: r)=true from hi2)] at hQ
       obtain⟨hm1,he1,hle⟩:=aU he hts hi2
       have y2:cu p xo B σ σ2:=y1.trans (.of x2 (by omega))
       conv=>whnf
       refine ak (aj (T:=UA) rfl rfl (ah (x2.get ku.2.1 c5)) rfl) ?_
       conv=>whnf
       refine key σ2 (m+1) _ y2 h2 (by omega) he1 (x2.get hne.1 (x7.get hx)) (ha.keep fun i a hi ha=>x2.get (by omega) (x7.get ha)) (by rw [hr];exact hQ) fun s q=>?_
       conv=>whnf
       exact q
      ·rw [mustW,if_neg (by rw [show isW [44] (t :: r)=fB [44] t from rfl,hi2];decide)] at hQ
       have y2:cu p xo B σ σ2:=y1.trans (.of x2 (by omega))
       conv=>whnf
       refine ak (aj (T:=UA) rfl rfl (ah (x2.get ku.2.1 c5)) rfl) ?_
       conv=>whnf
       have lx2:=x2.len
       refine Rj d 4 t.l B xo bx b1 xg nm ln acc A σ2 _ h2 ⟨hlt.1,hlt.2.2.1,hlt.2.2.2.1,hlt.2.2.2.2⟩ hne (by omega) (y2.get hlt.2.2.2.1 hne.2.1 hne.2.2.2.1 hbx) (y2.get hlt.2.2.2.2 hne.2.2.1 hne.2.2.2.2 hb1) (x2.get hne.1 (x7.get hx)) (ha.keep fun i a hi ha=>x2.get (by omega) (x7.get ha)) (by omega) fun A' σ3 x3 h3 hx3 hsl=>?_
       conv=>whnf
       exact j_ h3 ((y2.trans x3).get hlt4.1 ku.1 ku.2.2.1 hb4) b5 fun e' e0=>hQ A' σ3 e' e0 (y2.trans x3) h3 hx3 hsl
 exact tail _ rfl hQ
end
end Go.Abs.YtlkfbfhkcaldlaaGreatDoor
namespace Go.Abs.YtlkfbfhkcaldlaaGreatDoor
open Go.Proofs
set_option maxRecDepth 4000
theorem AA {a b:List UInt8} {t:Tok} (h:fB a t=true)(hab:a≠b):fB b t=false:=by
 unfold fB at h ⊢
 simp only [Bool.and_eq_true,beq_iff_eq] at h
 rw [h.2,show (a == b)=false by simpa using hab,Bool.and_false]
theorem isT_k {a:List UInt8} {t:Tok} (h:fB a t=true):t.k=4∨t.k=3:=by
 unfold fB at h
 simp only [Bool.and_eq_true,Bool.or_eq_true,beq_iff_eq] at h
 exact h.1
section
variable {p w g:Nat} {all:List Tok} {n:Nat}
def P2 (p w g:Nat)(all:List Tok)(xo:Nat)(xg:Nat)(nm:List UInt8)(ln:Nat)(σ:St)(d:Nat)(Q:AV→St→Prop):Re Trs→Prop
 | .ok xs ts=>∀A' σ' m',bG p xo σ σ'→PW p w g all σ' m' d .p0→all.drop m'= ts→σ'[xo]? =some (gB xg nm ln A')→gK (fun i=>σ.length≤i) σ' A' xs→Q (.tu []) σ'
 | .bad c l=>∀A' σ',bG p xo σ σ'→PB p σ' d c l→σ'[xo]? =some (gB xg nm ln A')→Q (.tu []) σ'
 | .out=>True
theorem JM (OY:nX p w g all n)(d xo bx b1:Nat)(xg:Nat)(nm:List UInt8)(ln:Nat)(σ:St)(m:Nat)(Q:AV→St→Prop)(t:Tok)(r:List Tok)(h:PW p w g all σ m d .p0)(hd:d≤64)(he:EndOk (all.drop m))(hts:all.drop m=t :: r)(V5:fB [40] t=true)(hn:10*r.length+10≤n)
 (hbx:σ[bx]? =some ⟨0,false,.cells 44 [.p xo xg 0]⟩) (hb1:σ[b1]? =some ⟨0,false,.cells 85 [.p p 0 0]⟩) (hx:σ[xo]? =some (gB xg nm ln .sl0)) (hne:xo≠p∧bx≠p∧b1≠p∧bx≠xo∧b1≠xo)
 (hQ:P2 p w g all xo xg nm ln σ d Q ((openW [40] d (t :: r)).bind fun _ ts=>(pArgs n (d+1) true ts).bind fun a ts=>(mustW [41] ts).bind fun _ ts=>.ok a ts)) :
 ay X 57 [.p p 0 0,.fn (.func 156) [] [.p bx 0 0,.p b1 0 0]] σ Q:=by
 obtain⟨ht,hr⟩:=bJ hts
 have hpl:=bn h.obj
 have hwl:=bn h.tok
 have hxl:=bn hx
 have hbl:=bn hbx
 have h1l:=bn hb1
 have hal:=h.len
 have hm:=h.at_
 unfold openW at hQ
 refine ay.body (F:=WG) aC (lit:=false) rfl rfl (Nat.le_of_ble_eq_true rfl) ?_
 conv=>whnf
 have b4:(au 85 (AV.p p 0 0).cells σ)[σ.length]? =some ⟨0,false,.cells 85 [.p p 0 0]⟩:=aH _ _ _
 have x4:Ext σ (au 85 (AV.p p 0 0).cells σ):=(Ext.refl σ).new _ _
 have l4:(au 85 (AV.p p 0 0).cells σ).length=σ.length+1:=aI _ _ _
 generalize au 85 (AV.p p 0 0).cells σ=bW at b4 x4 l4 ⊢
 have b5:(au 1 (AV.fn (.func 156) [] [.p bx 0 0,.p b1 0 0]).cells bW)[bW.length]? =some ⟨0,false,.cells 1 [.fn (.func 156) [] [.p bx 0 0,.p b1 0 0]]⟩:=aH _ _ _
 have x5:Ext bW (au 1 (AV.fn (.func 156) [] [.p bx 0 0,.p b1 0 0]).cells bW):=(Ext.refl bW).new _ _
 have l5:(au 1 (AV.fn (.func 156) [] [.p bx 0 0,.p b1 0 0]).cells bW).length=bW.length+1:=aI _ _ _
 generalize au 1 (AV.fn (.func 156) [] [.p bx 0 0,.p b1 0 0]).cells bW=dL at b5 x5 l5 ⊢
 have xx:=x4.trans x5
 have h5:=h.ext xx
 have c4:=x5.get b4
 refine ak (aj (T:=aW) rfl rfl (ah (c4)) rfl) ?_
 conv=>whnf
 refine ay.mono (Q:=fun v s=>v= .tu []∧Fin σ (.tu []) s Q) ?_ fun v s q=>?_
 ·have bad:∀(c l:Nat) (s1:St),aO p dL s1→PB p s1 (d+1) c l→P2 p w g all xo xg nm ln σ d Q (.bad c l)→ay X 91 [.p σ.length 0 0,.p bW.length 0 0] s1 (QI p m d (fun v s=>v= .tu []∧Fin σ (.tu []) s Q)):=by
   intro c l s1 y1 k1 hq
   have e4:=y1.get (by omega) c4
   refine ay.body (F:=Ua) aC (lit:=false) rfl rfl (Nat.le_of_ble_eq_true rfl) ?_
   conv=>whnf
   refine j_ k1 e4 bW.length fun e' e0=>?_
   conv=>whnf
   rw [show cZ.ev e' (.t 0)=get e' 0 from rfl,e0]
   conv=>whnf
   refine ak (aj (T:=aW) rfl rfl (ah (e4)) rfl) ?_
   conv=>whnf
   refine ay.to (iq [41] k1) ?_
   conv=>whnf
   have k1':=k1
   obtain⟨w2,g2,all2,m2,fo,fg,j1,j2,j3⟩:=k1'
   refine Fin.flat rfl List.take_length ⟨rfl,w2,g2,all2,m2,_,j1,.inr (by simp),fun s3 y3 j4=>⟨rfl,?_⟩⟩
   have hx3:aO p σ s3:=((aO.of xx).trans y1).trans y3
   exact h.ne_of j4 (.inr (by simp)) (hq _ _ (bG.of hx3) ⟨w2,g2,all2,m2,fo,fg,j4,j2,y3.get j2 j3⟩ (hx3.get hne.1 hx))
  refine JK [40] h5 ht hd (fun hi=>(aU he hts hi).1) (fun hi h64 s1 y1 k1=>?_) (fun hi h64 s1 y1 k1=>?_) (fun hi s1 y1 k1=>by rw [V5] at hi;cases hi)
  ·rw [if_neg (by omega),mustW,if_pos (show isW [40] (t :: r)=true from hi)] at hQ
   have hQ:P2 p w g all xo xg nm ln σ d Q ((pArgs n (d+1) true r).bind fun a ts=>(mustW [41] ts).bind fun _ ts=>.ok a ts):=hQ
   obtain⟨hm1,he1,hle⟩:=aU he hts hi
   have hg:=(allE n).args (d+1) true (all.drop (m+1)) he1 (by rw [hr];omega)
   have hx1:aO p σ s1:=(aO.of xx).trans y1
   have e4:=y1.get (by omega) c4
   have e5:=y1.get (by omega) b5
   have ly:=y1.len
   have hall:(all.drop (m+1)).length≤40001:=by rw [List.length_drop];omega
   refine ay.body (F:=Ua) aC (lit:=false) rfl rfl (Nat.le_of_ble_eq_true rfl) ?_
   conv=>whnf
   refine OY (d+1) s1.length xo bx b1 σ.length bW.length xg nm ln (by omega) ⟨by omega,by omega,by omega,by omega,by omega⟩ ⟨by omega,by omega⟩ hne ⟨by omega,by omega,by omega,by omega⟩ [] .sl0 s1 (m+1) _ k1 (Nat.le_refl _) (hx1.get hne.2.1 hbx) (hx1.get hne.2.2.1 hb1) e4 e5 (hx1.get hne.1 hx) ⟨[],.inl ⟨rfl,rfl⟩,trivial⟩ he1 (by rw [hr];omega) (by simp only [List.length_nil];omega) ?_
   rw [hr] at hg ⊢
   show PAp p w g all s1.length xo σ.length xg nm ln s1 (d+1) [] _ (pArgs n (d+1) true r)
   generalize pArgs n (d+1) true r=r1 at hg hQ
   cases r1 with
   | out=>exact hg.elim
   | bad c l=>
     intro A' s2 e' e0 y2 k2 hx2 hsl
     have f4:=y2.get (by omega) (by omega) (by omega) e4
     conv=>whnf
     rw [show cZ.ev e' (.t 0)=get e' 0 from rfl,e0]
     conv=>whnf
     refine ak (aj (T:=aW) rfl rfl (ah (f4)) rfl) ?_
     conv=>whnf
     refine ay.to (iq [41] k2) ?_
     conv=>whnf
     have k2':=k2
     obtain⟨w2,g2,all2,m2,fo,fg,j1,j2,j3⟩:=k2'
     refine k1.ne_of j1 (.inr (by simp)) ⟨rfl,w2,g2,all2,m2,_,j1,.inr (by simp),fun s3 y3 j4=>⟨rfl,?_⟩⟩
     have ly2:=y2.len
     refine h.ne_of j4 (.inr (by simp)) (hQ _ _ ⟨by have:=y3.len;have:=hx1.len;omega,fun i hi kH hix=>by rw [y3.old i (by have:=hx1.len;omega) kH,y2.old i (by have:=hx1.len;omega) kH hix,hx1.old i hi kH]⟩ ⟨w2,g2,all2,m2,fo,fg,j4,j2,y3.get j2 j3⟩ (y3.get hne.1 hx2))
   | ok xs ts1=>
     intro A' s2 m2 e' e0 y2 k2 hm2 hx2 ha2
     have he2:EndOk (all.drop m2):=by rw [hm2];exact hg.2.1
     obtain⟨t2,r2,gu⟩:=he2.ne
     obtain⟨ht2,hr2⟩:=bJ gu
     have hQ:P2 p w g all xo xg nm ln σ d Q ((mustW [41] ts1).bind fun _ ts=>.ok xs ts):=hQ
     rw [←hm2,gu] at hQ
     have f4:=y2.get (by omega) (by omega) (by omega) e4
     have ly2:=y2.len
     have hmm:m+1≤m2:=by
      have:=hg.2.2
      rw [←hm2,←hr,List.length_drop,List.length_drop] at this
      omega
     have harg:=ha2.arg
     rw [show ([]:List Tr) ++ uQ xs=uQ xs from rfl,Tf] at harg
     have fr:∀s3,aO p s2 s3→bG p xo σ s3:=fun s3 y3=>⟨by have:=y3.len;have:=hx1.len;omega,fun i hi kH hix=>by rw [y3.old i (by have:=hx1.len;omega) kH,y2.old i (by have:=hx1.len;omega) kH hix,hx1.old i hi kH]⟩
     conv=>whnf
     rw [show cZ.ev e' (.t 0)=get e' 0 from rfl,e0]
     conv=>whnf
     refine ak (aj (T:=aW) rfl rfl (ah (f4)) rfl) ?_
     conv=>whnf
     refine ig [41] k2 ht2 (fun hi=>(aU he2 gu hi).1) (fun hi2 s5 y5 k5=>?_) (fun hi2 s5 y5 k5=>?_)
     ·rw [mustW,if_pos (show isW [41] (t2 :: r2)=true from hi2)] at hQ
      conv=>whnf
      refine k1.ne_of k5 (.inl (by omega)) ⟨rfl,w,g,all,m2+1,_,k5,.inl (by omega),fun s3 y3 j4=>⟨rfl,?_⟩⟩
      have JO:=y5.trans y3
      refine h.ne_of j4 (.inl (by omega)) (hQ _ _ _ (fr s3 JO) j4 hr2 (JO.get hne.1 hx2) ?_)
      exact gK.mono (fun i hi=>by have:=hx1.len;omega) (fun i hi a ha=>JO.get (by omega) ha) harg
     ·rw [mustW,if_neg (show ¬isW [41] (t2 :: r2)=true by rw [show isW [41] (t2 :: r2)=fB [41] t2 from rfl,hi2];decide)] at hQ
      conv=>whnf
      have Gs:=k5
      obtain⟨w2,g2,all2,NZ,fo,fg,j1,j2,j3⟩:=Gs
      refine k1.ne_of j1 (.inr (by simp)) ⟨rfl,w2,g2,all2,NZ,_,j1,.inr (by simp),fun s3 y3 j4=>⟨rfl,?_⟩⟩
      have JO:=y5.trans y3
      exact h.ne_of j4 (.inr (by simp)) (hQ _ _ (fr s3 JO) ⟨w2,g2,all2,NZ,fo,fg,j4,j2,y3.get j2 j3⟩ (JO.get hne.1 hx2))
  ·rw [if_pos ⟨show isW [40] (t :: r)=true from hi,h64⟩] at hQ
   exact bad 3 t.l s1 y1 k1 hQ
 ·obtain⟨rfl,q⟩:=q
  conv=>whnf
  exact q
theorem Rk (hno:yw all)(hnn:yB all)(ih:WP p w g all n)(OY:nX p w g all n)(d:Nat)(σ:St)(m:Nat)(Q:AV→St→Prop)(h:PW p w g all σ m d .p0)(hd:d≤64)(he:EndOk (all.drop m))(hn:10*(all.drop m).length+6≤n+1)(hQ:oQ p w g all σ d Q (pFirst (n+1) d (all.drop m))):ay X 143 [.p p 0 0] σ Q:=by
 obtain⟨t,r,hts⟩:=he.ne
 obtain⟨ht,hr⟩:=bJ hts
 have hpl:=bn h.obj
 have hlr:(all.drop m).length=r.length+1:=by rw [hts];rfl
 unfold pFirst at hQ
 rw [hts] at hQ
 simp only at hQ
 refine ay.body (F:=Qm) aC (lit:=false) rfl rfl (Nat.le_of_ble_eq_true rfl) ?_
 conv=>whnf
 have b1:(au 85 (AV.p p 0 0).cells σ)[σ.length]? =some ⟨0,false,.cells 85 [.p p 0 0]⟩:=aH _ _ _
 have x1:Ext σ (au 85 (AV.p p 0 0).cells σ):=(Ext.refl σ).new _ _
 have l1:(au 85 (AV.p p 0 0).cells σ).length=σ.length+1:=aI _ _ _
 generalize au 85 (AV.p p 0 0).cells σ=σ1 at b1 x1 l1 ⊢
 have h1:=h.ext x1
 refine ak (aj (T:=aW) rfl rfl (ah (b1)) rfl) ?_
 conv=>whnf
 refine ay.to (h_ h1 ht) ?_
 conv=>whnf
 refine kU t fun σ2 x2 ht2 l2=>?_
 have h2:=h1.ext x2
 have b2:=x2.get b1
 have xx:aO p σ σ2:=aO.of (x1.trans x2)
 conv=>whnf
 refine ak (aj (T:=aW) rfl rfl (ah (b2)) rfl) ?_
 conv=>whnf
 refine jZ [110,101,119] h2 ht (fun hi=>(aU he hts hi).1) (fun hi s y k=>?_) (fun hi=>?_)
 ·rw [if_neg (by rw [show isW [40] (t :: r)=fB [40] t from rfl,AA hi (by decide)];decide),if_pos (show isW wNew (t :: r)=true from hi),←hr] at hQ
  obtain⟨hm1,he1,hle⟩:=aU he hts hi
  have hg:=(allE n).with_ d [40] [41] (all.drop (m+1)) he1 (by omega)
  conv=>whnf
  refine ak (aj (T:=aW) rfl rfl (ah (y.get (by omega) b2)) rfl) ?_
  conv=>whnf
  refine ak (aj (T:=dJ) rfl rfl (ah (y.get (by omega) ht2)) rfl) ?_
  conv=>whnf
  refine ih.with_ d [40] [41] s (m+1) _ k hd he1 (by omega) ?_
  generalize pWith n d [40] [41] (all.drop (m+1))=r1 at hg hQ
  cases r1 with
  | out=>exact hg.elim
  | bad c l=>
    intro o g' s2 y2 k2
    conv=>whnf
    refine⟨?_,?_⟩
    ·conv=>whnf
     refine ak (aj (T:=dJ) rfl rfl (ah (y2.get (by omega) (y.get (by omega) ht2))) rfl) ?_
     rfl
    conv=>whnf
    exact Fin.ref rfl (hQ _ _ _ (((xx.trans y).trans y2).new _ _) (k2.new _ _))
  | ok z ts1=>
    intro o g' s2 m2 y2 k2 hm2 EJ
    have hQ:oQ p w g all σ d Q (.ok (.ex 7 0 [] [] z .nil .nil t.l) ts1):=hQ
    conv=>whnf
    refine⟨?_,?_⟩
    ·conv=>whnf
     refine ak (aj (T:=dJ) rfl rfl (ah (y2.get (by omega) (y.get (by omega) ht2))) rfl) ?_
     rfl
    conv=>whnf
    have ly:=((xx.trans y).trans y2).len
    have ly1:=(xx.trans y).len
    refine Fin.ref rfl (hQ _ _ _ _ (((xx.trans y).trans y2).new _ _) (k2.new _ _) hm2 ⟨_,0,.p o g' 0,.p0,.sl0,ly,rfl,aH _ _ _,?_,rfl,rfl⟩)
    exact bC.mono (fun i hi=>by omega) (fun i hi a ha=>at_new ha _ _) EJ
 ·conv=>whnf
  refine ak (aj (T:=aW) rfl rfl (ah (b2)) rfl) ?_
  conv=>whnf
  refine jZ [105,110] h2 ht (fun hi=>(aU he hts hi).1) (fun hi2 s y k=>?_) (fun hi2=>?_)
  ·rw [if_neg (by rw [show isW [40] (t :: r)=fB [40] t from rfl,AA hi2 (by decide)];decide),if_neg (by rw [show isW wNew (t :: r)=fB [110,101,119] t from rfl,hi];decide),if_pos (show isW wIn (t :: r)=true from hi2),←hr] at hQ
   obtain⟨hm1,he1,hle⟩:=aU he hts hi2
   obtain⟨t2,r2,gu⟩:=he1.ne
   obtain⟨UY,hr2⟩:=bJ gu
   unfold openW at hQ
   rw [gu] at hQ
   have c2:=y.get (by omega) b2
   conv=>whnf
   refine ak (aj (T:=aW) rfl rfl (ah (c2)) rfl) ?_
   conv=>whnf
   refine ay.mono (Q:=fun v s'=>v= .tu []∧aO p s s'∧Q (.p s'.length 0 0) (au 48 [.i .i64 8,.i .u32 0,.s [],.s [],.p0,.p0,.sl0,.i .i64 t.l] s')) ?_ fun v s' q=>?_
   ·have bad:∀(c l:Nat) (s1:St),aO p s s1→PB p s1 (d+1) c l→oQ p w g all σ d Q (.bad c l)→ay X 155 [.p σ.length 0 0] s1 (QI p (m+1) d (fun v s'=>v= .tu []∧aO p s s'∧Q (.p s'.length 0 0) (au 48 [.i .i64 8,.i .u32 0,.s [],.s [],.p0,.p0,.sl0,.i .i64 t.l] s'))):=by
     intro c l s1 y1 k1 hq
     refine ay.body (F:=Qp) aC (lit:=false) rfl rfl (Nat.le_of_ble_eq_true rfl) ?_
     conv=>whnf
     refine ak (aj (T:=aW) rfl rfl (ah (y1.get (by omega) c2)) rfl) ?_
     conv=>whnf
     refine ay.to (iq [41] k1) ?_
     conv=>whnf
     obtain⟨w2,g2,all2,m2,fo,fg,j1,j2,j3⟩:=k1
     exact Fin.flat rfl List.take_length ⟨rfl,w2,g2,all2,m2,_,j1,.inr (by simp),fun s3 y3 j4=>⟨rfl,y1.trans y3,hq _ _ _ ((((xx.trans y).trans y1).trans y3).new _ _) ⟨w2,g2,all2,m2,fo,fg,j4.new _ _,j2,at_new (y3.get j2 j3) _ _⟩⟩⟩
    refine JK [40] k UY hd (fun hi=>(aU he1 gu hi).1) (fun hi h64 s1 y1 k1=>?_) (fun hi h64 s1 y1 k1=>?_) (fun hi s1 y1 k1=>?_)
    ·rw [if_neg (by omega),mustW,if_pos (show isW [40] (t2 :: r2)=true from hi)] at hQ
     have hQ:oQ p w g all σ d Q ((mustW [41] r2).bind fun _ ts=>.ok (.ex 8 0 [] [] .nil .nil .nil t.l) ts):=hQ
     obtain⟨hm3,he3,hle3⟩:=aU he1 gu hi
     obtain⟨t3,r3,yY⟩:=he3.ne
     obtain⟨ht3,hr3⟩:=bJ yY
     rw [←hr2,yY] at hQ
     refine ay.body (F:=Qp) aC (lit:=false) rfl rfl (Nat.le_of_ble_eq_true rfl) ?_
     conv=>whnf
     refine ak (aj (T:=aW) rfl rfl (ah (y1.get (by omega) c2)) rfl) ?_
     conv=>whnf
     refine ig [41] k1 ht3 (fun hi=>(aU he3 yY hi).1) (fun hi3 s5 y5 k5=>?_) (fun hi3 s5 y5 k5=>?_)
     ·rw [mustW,if_pos (show isW [41] (t3 :: r3)=true from hi3)] at hQ
      conv=>whnf
      refine k1.ne_of k5 (.inl (by omega)) ⟨rfl,w,g,all,m+1+1+1,_,k5,.inl (by omega),fun s3 y3 j4=>⟨rfl,(y1.trans y5).trans y3,?_⟩⟩
      have yy:=((xx.trans y).trans ((y1.trans y5).trans y3))
      exact hQ _ _ _ _ (yy.new _ _) (j4.new _ _) hr3 ⟨_,0,.p0,.p0,.sl0,yy.len,rfl,aH _ _ _,rfl,rfl,rfl⟩
     ·rw [mustW,if_neg (show ¬isW [41] (t3 :: r3)=true by rw [show isW [41] (t3 :: r3)=fB [41] t3 from rfl,hi3];decide)] at hQ
      conv=>whnf
      obtain⟨w2,g2,all2,m2,fo,fg,j1,j2,j3⟩:=k5
      exact k1.ne_of j1 (.inr (by simp)) ⟨rfl,w2,g2,all2,m2,_,j1,.inr (by simp),fun s3 y3 j4=>⟨rfl,(y1.trans y5).trans y3,hQ _ _ _ (((xx.trans y).trans ((y1.trans y5).trans y3)).new _ _) ⟨w2,g2,all2,m2,fo,fg,j4.new _ _,j2,at_new (y3.get j2 j3) _ _⟩⟩⟩
    ·rw [if_pos ⟨show isW [40] (t2 :: r2)=true from hi,h64⟩] at hQ
     exact bad 3 t2.l s1 y1 k1 hQ
    ·have hiw:¬isW [40] (t2 :: r2)=true:=by rw [show isW [40] (t2 :: r2)=fB [40] t2 from rfl,hi];decide
     rw [if_neg (fun e=>hiw e.1),mustW,if_neg hiw] at hQ
     exact bad 4 t2.l s1 y1 k1 hQ
   ·obtain⟨rfl,q1,q2⟩:=q
    conv=>whnf
    refine ak (aj (T:=dJ) rfl rfl (ah (q1.get (by omega) (y.get (by omega) ht2))) rfl) ?_
    conv=>whnf
    exact Fin.ref rfl q2
  ·conv=>whnf
   refine ak (aj (T:=aW) rfl rfl (ah (b2)) rfl) ?_
   conv=>whnf
   have UZ:isW [40] (t :: r)=fB [40] t:=rfl
   have hnew:¬isW wNew (t :: r)=true:=by rw [show isW wNew (t :: r)=fB [110,101,119] t from rfl,hi];decide
   have hin:¬isW wIn (t :: r)=true:=by rw [show isW wIn (t :: r)=fB [105,110] t from rfl,hi2];decide
   refine N7 hno hnn ih d σ2 m _ h2 hd he (by omega) ?_
   unfold pCell
   rw [hts]
   simp only
   cases V5:fB [40] t with
   | true=>
     rw [if_pos (UZ.trans V5)] at hQ
     rw [if_pos (UZ.trans V5)]
     have hk1:t.k≠1:=by rcases isT_k V5 with h | h <;> omega
     generalize pWith n d [40] [41] (t :: r)=r1 at hQ
     cases r1 with
     | out=>trivial
     | bad c l=>
       intro o g' s y k
       have ct:=y.get (by omega) ht2
       have ls:=y.len
       conv=>whnf
       refine ak (aF (T:=aV) ([.p o g' 0]) rfl (aH _ _ _) rfl rfl (Nat.le_of_ble_eq_true rfl) rfl) ?_
       have x5:Ext s ((au 44 aV.zero.cells s).set s.length ⟨0,false,.cells 44 [.p o g' 0]⟩):=((Ext.refl s).new _ _).set (Nat.le_refl _) _
       have b5:((au 44 aV.zero.cells s).set s.length ⟨0,false,.cells 44 [.p o g' 0]⟩)[s.length]? =_:=at_set (aH _ _ _) _
       have l5:((au 44 aV.zero.cells s).set s.length ⟨0,false,.cells 44 [.p o g' 0]⟩).length=s.length+1:=by rw [List.length_set,aI]
       generalize (au 44 aV.zero.cells s).set s.length ⟨0,false,.cells 44 [.p o g' 0]⟩=dL at b5 x5 l5 ⊢
       conv=>whnf
       refine ak (aj (T:=dJ) rfl rfl (ah (x5.get ct)) rfl) ?_
       conv=>whnf
       rw [decide_eq_false (by omega)]
       conv=>whnf
       conv=>whnf
       refine ak (aj (T:=aV) rfl rfl (ah (b5)) rfl) ?_
       conv=>whnf
       exact Fin.ref rfl (hQ _ _ _ ((xx.trans y).trans (aO.of x5)) (k.ext x5))
     | ok z ts1=>
       intro o g' s m' y k hm' EJ
       have ct:=y.get (by omega) ht2
       have lxx:=xx.len
       conv=>whnf
       refine ak (aF (T:=aV) ([.p o g' 0]) rfl (aH _ _ _) rfl rfl (Nat.le_of_ble_eq_true rfl) rfl) ?_
       have x5:Ext s ((au 44 aV.zero.cells s).set s.length ⟨0,false,.cells 44 [.p o g' 0]⟩):=((Ext.refl s).new _ _).set (Nat.le_refl _) _
       have b5:((au 44 aV.zero.cells s).set s.length ⟨0,false,.cells 44 [.p o g' 0]⟩)[s.length]? =_:=at_set (aH _ _ _) _
       have l5:((au 44 aV.zero.cells s).set s.length ⟨0,false,.cells 44 [.p o g' 0]⟩).length=s.length+1:=by rw [List.length_set,aI]
       generalize (au 44 aV.zero.cells s).set s.length ⟨0,false,.cells 44 [.p o g' 0]⟩=dL at b5 x5 l5 ⊢
       conv=>whnf
       refine ak (aj (T:=dJ) rfl rfl (ah (x5.get ct)) rfl) ?_
       conv=>whnf
       rw [decide_eq_false (by omega)]
       conv=>whnf
       conv=>whnf
       refine ak (aj (T:=aV) rfl rfl (ah (b5)) rfl) ?_
       conv=>whnf
       exact Fin.ref rfl (hQ _ _ _ _ ((xx.trans y).trans (aO.of x5)) (k.ext x5) hm' (bC.mono (fun i hi=>by omega) (fun i hi a ha=>x5.get ha) EJ))
   | false=>
     have hn40:¬isW [40] (t :: r)=true:=by rw [UZ,V5];decide
     rw [if_neg hn40,if_neg hnew,if_neg hin] at hQ
     rw [if_neg hn40]
     by_cases hk:t.k=2
     ·rw [if_pos hk] at hQ
      rw [if_pos hk]
      intro o g' s m' y k hm' EJ
      have ct:=y.get (by omega) ht2
      have lxx:=xx.len
      conv=>whnf
      refine ak (aF (T:=aV) ([.p o g' 0]) rfl (aH _ _ _) rfl rfl (Nat.le_of_ble_eq_true rfl) rfl) ?_
      have x5:Ext s ((au 44 aV.zero.cells s).set s.length ⟨0,false,.cells 44 [.p o g' 0]⟩):=((Ext.refl s).new _ _).set (Nat.le_refl _) _
      have b5:((au 44 aV.zero.cells s).set s.length ⟨0,false,.cells 44 [.p o g' 0]⟩)[s.length]? =_:=at_set (aH _ _ _) _
      have l5:((au 44 aV.zero.cells s).set s.length ⟨0,false,.cells 44 [.p o g' 0]⟩).length=s.length+1:=by rw [List.length_set,aI]
      generalize (au 44 aV.zero.cells s).set s.length ⟨0,false,.cells 44 [.p o g' 0]⟩=dL at b5 x5 l5 ⊢
      conv=>whnf
      refine ak (aj (T:=dJ) rfl rfl (ah (x5.get ct)) rfl) ?_
      conv=>whnf
      rw [decide_eq_false (by omega)]
      conv=>whnf
      conv=>whnf
      refine ak (aj (T:=aV) rfl rfl (ah (b5)) rfl) ?_
      conv=>whnf
      exact Fin.ref rfl (hQ _ _ _ _ ((xx.trans y).trans (aO.of x5)) (k.ext x5) hm' (bC.mono (fun i hi=>by omega) (fun i hi a ha=>x5.get ha) EJ))
     ·rw [if_neg hk] at hQ
      rw [if_neg hk]
      by_cases hk1:t.k=1
      ·simp only [nameW,if_pos hk1] at hQ ⊢
       intro o g' s m' y k hm' EJ
       have he1:EndOk (all.drop m'):=by rw [hm'];rw [hts] at he;exact he.tail (by rw [hk1];decide)
       obtain⟨t2,r2,gu⟩:=he1.ne
       obtain⟨UY,hr2⟩:=bJ gu
       have hQ:oQ p w g all σ d Q (if isW [40] r=true then(openW [40] d r).bind fun _ ts=>(pArgs n (d+1) true ts).bind fun a ts=>(mustW [41] ts).bind fun _ ts=>.ok (.ex 4 0 t.s [] .nil .nil a t.l) ts else .ok (nameT t.s t.l) r):=hQ
       have hrr:r=t2 :: r2:=by rw [←gu,hm']
       rw [hrr] at hQ
       have U0:=EJ
       obtain⟨xo,xg,L,R,A,hso,hv,hob,hL,hR,hA⟩:=EJ
       cases hv
       have hL:L= .p0:=hL
       have hR:R= .p0:=hR
       have hA:A= .sl0:=hA
       subst hL hR hA
       have ct:=y.get (by omega) ht2
       have cb:=y.get (by omega) b2
       have lxx:=xx.len
       have lh:=bn hob
       conv=>whnf
       refine ak (aF (T:=aV) ([.p o g' 0]) rfl (aH _ _ _) rfl rfl (Nat.le_of_ble_eq_true rfl) rfl) ?_
       have x5:Ext s ((au 44 aV.zero.cells s).set s.length ⟨0,false,.cells 44 [.p o g' 0]⟩):=((Ext.refl s).new _ _).set (Nat.le_refl _) _
       have b5:((au 44 aV.zero.cells s).set s.length ⟨0,false,.cells 44 [.p o g' 0]⟩)[s.length]? =_:=at_set (aH _ _ _) _
       have l5:((au 44 aV.zero.cells s).set s.length ⟨0,false,.cells 44 [.p o g' 0]⟩).length=s.length+1:=by rw [List.length_set,aI]
       generalize (au 44 aV.zero.cells s).set s.length ⟨0,false,.cells 44 [.p o g' 0]⟩=dL at b5 x5 l5 ⊢
       conv=>whnf
       have k5:=k.ext x5
       have cob:=x5.get hob
       refine ak (aj (T:=dJ) rfl rfl (ah (x5.get ct)) rfl) ?_
       conv=>whnf
       rw [decide_eq_true (by omega)]
       conv=>whnf
       conv=>whnf
       refine ak (aj (T:=aV) rfl rfl (ah (b5)) rfl) ?_
       conv=>whnf
       refine ak (aj (T:=dJ) rfl rfl (ah (cob)) rfl) ?_
       conv=>whnf
       refine ak (aj (T:=aW) rfl rfl (ah (x5.get cb)) rfl) ?_
       conv=>whnf
       have b6:(au 9 [.s [40]] dL)[dL.length]? =some ⟨0,false,.cells 9 [.s [40]]⟩:=aH _ _ _
       have x6:Ext dL (au 9 [.s [40]] dL):=(Ext.refl dL).new _ _
       have l6:(au 9 [.s [40]] dL).length=dL.length+1:=aI _ _ _
       generalize au 9 [.s [40]] dL=jY at b6 x6 l6 ⊢
       have k6:=k5.ext x6
       refine ay.to (vC [[40]] k6 UY dL.length 0 (ah b6) (Nat.le_of_ble_eq_true rfl)) ?_
       conv=>whnf
       rw [gZ]
       cases h42:fB [40] t2 with
       | false=>
         rw [if_neg (by rw [show isW [40] (t2 :: r2)=fB [40] t2 from rfl,h42];decide)] at hQ
         conv=>whnf
         refine ak (aj (T:=aV) rfl rfl (ah (x6.get b5)) rfl) ?_
         conv=>whnf
         exact Fin.ref rfl (hQ _ _ _ _ ((xx.trans y).trans (aO.of (x5.trans x6))) k6 gu (bC.mono (fun i hi=>by omega) (fun i hi a ha=>x6.get (x5.get ha)) U0))
       | true=>
         rw [if_pos (show isW [40] (t2 :: r2)=true from h42)] at hQ
         have hlen:(all.drop m').length=r2.length+1:=by rw [gu];rfl
         have hlen2:r.length=r2.length+1:=by rw [hrr];rfl
         have d5:=x6.get b5
         have dob:=x6.get cob
         have db:=x6.get (x5.get cb)
         have l6:=x6.len
         conv=>whnf
         refine ak (aj (T:=aV) rfl rfl (ah (d5)) rfl) ?_
         conv=>whnf
         refine ak (aF (T:=dJ) ([.i .i64 4,.i .u32 0,.s t.s,.s [],.p0,.p0,.sl0,.i .i64 t.l]) rfl (dob) rfl rfl (Nat.le_of_ble_eq_true rfl) rfl) ?_
         conv=>whnf
         have hne5:o≠s.length:=by omega
         have hob1:o≠p:=by omega
         have fr:bG p o jY (jY.set o (gB g' t.s t.l .sl0)):=bG.bF _ _ _ _
         have k7:PW p w g all (jY.set o (gB g' t.s t.l .sl0)) m' d .p0:=k6.bF dob (by decide) (by decide) _
         have e5:(jY.set o (gB g' t.s t.l .sl0))[s.length]? =_:=aN d5 hne5 _
         have eb:(jY.set o (gB g' t.s t.l .sl0))[σ.length]? =_:=aN db (by omega) _
         have eo:(jY.set o (gB g' t.s t.l .sl0))[o]? =some (gB g' t.s t.l .sl0):=at_set dob _
         have x67:aO p σ (jY.set o (gB g' t.s t.l .sl0)):=((xx.trans y).trans (aO.of (x5.trans x6))).bg fr (by omega)
         show _
         refine ak (aj (T:=aW) rfl rfl (ah (eb)) rfl) ?_
         conv=>whnf
         refine JM OY d o s.length σ.length g' t.s t.l (jY.set o (gB g' t.s t.l .sl0)) m' _ t2 r2 k7 hd he1 gu h42 (by omega) e5 eb eo ⟨by omega,by omega,by omega,by omega,by omega⟩ ?_
         generalize hR:((openW [40] d (t2 :: r2)).bind fun _ ts=>(pArgs n (d+1) true ts).bind fun a ts=>(mustW [41] ts).bind fun _ ts=>(Re.ok a ts:Re Trs))=R
         have hQ':oQ p w g all σ d Q (R.bind fun a ts=>.ok (.ex 4 0 t.s [] .nil .nil a t.l) ts):=by
               rw [←hR]
               revert hQ
               generalize openW [40] d (t2 :: r2)=r5
               cases r5 with
               | out=>exact id
               | bad c l=>exact id
               | ok _ ts5=>
                 show oQ p w g all σ d Q ((pArgs n (d+1) true ts5).bind _)→oQ p w g all σ d Q (((pArgs n (d+1) true ts5).bind _).bind _)
                 generalize pArgs n (d+1) true ts5=r6
                 cases r6 with
                 | out=>exact id
                 | bad c l=>exact id
                 | ok a ts6=>
                   show oQ p w g all σ d Q ((mustW [41] ts6).bind _)→oQ p w g all σ d Q (((mustW [41] ts6).bind _).bind _)
                   generalize mustW [41] ts6=r7
                   cases r7 <;> exact id
         clear hQ hR
         have l7:=x67.len
         cases R with
         | out=>trivial
         | bad c l=>
           intro A' s' fr' k' ho'
           conv=>whnf
           refine ak (aj (T:=aV) rfl rfl (ah (fr'.get (by omega) (fun e=>hne5 e.symm) e5)) rfl) ?_
           conv=>whnf
           exact Fin.ref rfl (hQ' _ _ _ (x67.bg fr' (by omega)) k')
         | ok a ts1=>
           intro A' s' m2 fr' k' hm2 ho' ha
           conv=>whnf
           refine ak (aj (T:=aV) rfl rfl (ah (fr'.get (by omega) (fun e=>hne5 e.symm) e5)) rfl) ?_
           conv=>whnf
           refine Fin.ref rfl (hQ' _ _ _ _ (x67.bg fr' (by omega)) k' hm2 ⟨o,g',.p0,.p0,A',by omega,rfl,ho',rfl,rfl,gK.mono (fun i hi=>by omega) (fun i hi a ha=>ha) ha⟩)
      ·simp only [nameW,if_neg hk1] at hQ ⊢
       intro o g' s y k
       have ct:=y.get (by omega) ht2
       have ls:=y.len
       conv=>whnf
       refine ak (aF (T:=aV) ([.p o g' 0]) rfl (aH _ _ _) rfl rfl (Nat.le_of_ble_eq_true rfl) rfl) ?_
       have x5:Ext s ((au 44 aV.zero.cells s).set s.length ⟨0,false,.cells 44 [.p o g' 0]⟩):=((Ext.refl s).new _ _).set (Nat.le_refl _) _
       have b5:((au 44 aV.zero.cells s).set s.length ⟨0,false,.cells 44 [.p o g' 0]⟩)[s.length]? =_:=at_set (aH _ _ _) _
       have l5:((au 44 aV.zero.cells s).set s.length ⟨0,false,.cells 44 [.p o g' 0]⟩).length=s.length+1:=by rw [List.length_set,aI]
       generalize (au 44 aV.zero.cells s).set s.length ⟨0,false,.cells 44 [.p o g' 0]⟩=dL at b5 x5 l5 ⊢
       conv=>whnf
       refine ak (aj (T:=dJ) rfl rfl (ah (x5.get ct)) rfl) ?_
       conv=>whnf
       rw [decide_eq_false (by omega)]
       conv=>whnf
       conv=>whnf
       refine ak (aj (T:=aV) rfl rfl (ah (b5)) rfl) ?_
       conv=>whnf
       exact Fin.ref rfl (hQ _ _ _ ((xx.trans y).trans (aO.of x5)) (k.ext x5))
end
end Go.Abs.YtlkfbfhkcaldlaaGreatDoor
namespace Go.Abs.YtlkfbfhkcaldlaaGreatDoor
open Go.Proofs
set_option maxRecDepth 4000
section
variable {p w g:Nat} {all:List Tok} {n:Nat}
theorem NW.ext {k j B d:Nat} {σ σ1:St} {Q:Out→Env→St→Prop} {r:Re Tr} (hQ:NW k j p w g all B σ d Q r)(x:aO p σ σ1):NW k j p w g all B σ1 d Q r:=by
 cases r with
 | out=>trivial
 | bad c l=>exact fun o g' σ2 e' q1 q2 x2 h2=>hQ o g' σ2 e' q1 q2 (x.trans x2) h2
 | ok y ts=>exact fun o g' σ2 m2 e' q1 q2 x2 h2=>hQ o g' σ2 m2 e' q1 q2 (x.trans x2) h2
theorem oQ.UN {k d:Nat} {σ σ1:St} {Q:AV→St→Prop} {Q':Out→Env→St→Prop} {r:Re Tr} (hQ:oQ p w g all σ d Q r)(x1:aO p σ σ1)(q:∀o g' s e',get e' k= .p o g' 0→get e' 1000000= .u→Q (.p o g' 0) s→Q' (.exit 0) e' s):NW k k p w g all σ.length σ1 d Q' r:=by
 cases r with
 | out=>trivial
 | bad c l=>exact fun o g' σ2 e' q1 q2 x2 h2=>q o g' σ2 e' q1 q2 (hQ o g' σ2 (x1.trans x2) h2)
 | ok y ts=>exact fun o g' σ2 m2 e' q1 q2 x2 h2 hm hex=>q o g' σ2 e' q1 q2 (hQ o g' σ2 m2 (x1.trans x2) h2 hm hex)
theorem bC.tX {B:Nat} {σ σ':St} {v:AV} {t:Tr} (h:bC (fun i=>B≤i) σ v t)(x:aO p σ σ')(hp:p<B):bC (fun i=>B≤i) σ' v t:=bC.mono (fun i hi=>hi) (fun i hi a ha=>x.get (by omega) ha) h
theorem qp {d c l o g':Nat} {σ:St} {Q:Out→Env→St→Prop} (h:PB p σ d c l)(q:∀σ' e',get e' 3= .p o g' 0→get e' 1000000= .u→aO p σ σ'→PB p σ' d c l→Q (.exit 0) e' σ'):aS X [0,3] Bz [(0,.p p 0 0),(3,.p o g' 0)] σ Q:=by
 refine aS.round aC (lit:=false) ?_
 conv=>whnf
 have b1:(au 9 [.s [91],.s [58]] σ)[σ.length]? =some ⟨0,false,.cells 9 [.s [91],.s [58]]⟩:=aH _ _ _
 have x1:Ext σ (au 9 [.s [91],.s [58]] σ):=(Ext.refl σ).new _ _
 have l1:(au 9 [.s [91],.s [58]] σ).length=σ.length+1:=aI _ _ _
 generalize au 9 [.s [91],.s [58]] σ=σ1 at b1 x1 l1 ⊢
 refine ay.to (Ey (h.ext x1) σ.length 0 2) ?_
 conv=>whnf
 exact q _ _ rfl rfl (aO.of x1) (h.ext x1)
theorem Rl (ih:WP p w g all n)(d B:Nat)(x:Tr)(σ:St)(m o g':Nat)(Q:Out→Env→St→Prop)(h:PW p w g all σ m d .p0)(hd:d≤64)(hp:p<B)(hB:B≤σ.length)(hnx:nnT x)(hex:bC (fun i=>B≤i) σ (.p o g' 0) x)(he:EndOk (all.drop m))(hn:10*(all.drop m).length+9≤n+1)
 (hQ:NW 3 3 p w g all B σ d Q (pPostL (n+1) d x (all.drop m))):aS X [0,3] Bz [(0,.p p 0 0),(3,.p o g' 0)] σ Q:=by
 obtain⟨t,r,hts⟩:=he.ne
 obtain⟨ht,hr⟩:=bJ hts
 have hpl:=bn h.obj
 have hlr:(all.drop m).length=r.length+1:=by rw [hts];rfl
 unfold pPostL at hQ
 rw [hts] at hQ
 simp only at hQ
 refine aS.round aC (lit:=false) ?_
 conv=>whnf
 have b1:(au 9 [.s [91],.s [58]] σ)[σ.length]? =some ⟨0,false,.cells 9 [.s [91],.s [58]]⟩:=aH _ _ _
 have x1:Ext σ (au 9 [.s [91],.s [58]] σ):=(Ext.refl σ).new _ _
 have l1:(au 9 [.s [91],.s [58]] σ).length=σ.length+1:=aI _ _ _
 generalize au 9 [.s [91],.s [58]] σ=σ1 at b1 x1 l1 ⊢
 have h1:=h.ext x1
 refine ay.to (vC [[91],[58]] h1 ht σ.length 0 (ah b1) (Nat.le_of_ble_eq_true rfl)) ?_
 conv=>whnf
 rw [EF]
 cases hi:(fB [91] t || fB [58] t) with
 | false=>
   rw [Bool.or_eq_false_iff] at hi
   rw [if_neg (by rw [show isW [91] (t :: r)=fB [91] t from rfl,hi.1];decide),if_neg (by rw [show isW [58] (t :: r)=fB [58] t from rfl,hi.2];decide)] at hQ
   conv=>whnf
   exact hQ o g' σ1 m _ rfl rfl (aO.of x1) h1 hts (hex.tX (aO.of x1) hp)
 | true=>
   conv=>whnf
   refine ay.to (h_ h1 ht) ?_
   conv=>whnf
   refine kU t fun σ2 x2 ht2 l2=>?_
   have h2:=h1.ext x2
   have xx:aO p σ σ2:=aO.of (x1.trans x2)
   have hex2:=hex.tX xx hp
   have lxx:=xx.len
   conv=>whnf
   refine ak (aj (T:=dP) rfl rfl (ah (ht2)) rfl) ?_
   conv=>whnf
   cases V6:fB [91] t with
   | true=>
     have hs:t.s=[91]:=by unfold fB at V6;simp only [Bool.and_eq_true,beq_iff_eq] at V6;exact V6.2
     rw [if_pos (show isW [91] (t :: r)=true from V6),←hts] at hQ
     rw [show (t.s == [91])=true by rw [hs];rfl]
     have hg:=(allE n).with_ d [91] [93] (all.drop m) he (by omega)
     conv=>whnf
     refine ak (aj (T:=dJ) rfl rfl (ah (ht2)) rfl) ?_
     conv=>whnf
     refine ih.with_ d [91] [93] σ2 m _ h2 hd he (by omega) ?_
     generalize pWith n d [91] [93] (all.drop m)=r1 at hg hQ
     cases r1 with
     | out=>exact hg.elim
     | bad c l=>
       intro o2 g2 s2 y2 k2
       conv=>whnf
       refine⟨?_,?_⟩
       ·conv=>whnf
        refine ak (aj (T:=dJ) rfl rfl (ah (y2.get (by omega) ht2)) rfl) ?_
        rfl
       conv=>whnf
       exact qp (k2.new _ _) fun s3 e' q1 q2 y3 k3=>hQ _ _ _ e' q1 q2 (((xx.trans y2).new _ _).trans y3) k3
     | ok y ts1=>
       intro o2 g2 s2 m2 y2 k2 hm2 EG
       have hQ:NW 3 3 p w g all B σ d Q (pPostL n d (.ex 5 0 [] [] x y .nil t.l) ts1):=hQ
       rw [←hm2] at hQ hg
       have lg:=hg.2.2
       have l22:=y2.len
       conv=>whnf
       refine⟨?_,?_⟩
       ·conv=>whnf
        refine ak (aj (T:=dJ) rfl rfl (ah (y2.get (by omega) ht2)) rfl) ?_
        rfl
       conv=>whnf
       refine ih.postL d B (.ex 5 0 [] [] x y .nil t.l) _ m2 _ _ Q (k2.new _ _) hd hp (by rw [aI];omega) trivial ?_ hg.2.1 (by omega) (hQ.ext ((xx.trans y2).new _ _))
       refine⟨_,0,.p o g' 0,.p o2 g2 0,.sl0,by omega,rfl,aH _ _ _,?_,?_,rfl⟩
       ·exact(hex2.tX y2 hp).tX ((aO.refl p s2).new _ _) hp
       ·exact bC.mono (fun i hi=>by omega) (fun i hi a ha=>at_new ha _ _) EG
   | false=>
     rw [V6,Bool.false_or] at hi
     have hs:t.s=[58]:=by unfold fB at hi;simp only [Bool.and_eq_true,beq_iff_eq] at hi;exact hi.2
     rw [if_neg (by rw [show isW [91] (t :: r)=fB [91] t from rfl,V6];decide),if_pos (show isW [58] (t :: r)=true from hi),←hr] at hQ
     rw [show (t.s == [91])=false by rw [hs];rfl]
     obtain⟨hm1,he1,hle⟩:=aU he hts hi
     have hg:=(allE n).cell d (all.drop (m+1)) he1 (by omega)
     conv=>whnf
     refine f_ h2 hm1 fun σ3 x3 h3=>?_
     have ht3:=x3.get (by omega) ht2
     have U1:=xx.trans x3
     have lx3:=x3.len
     conv=>whnf
     refine ak (aj (T:=dJ) rfl rfl (ah (ht3)) rfl) ?_
     conv=>whnf
     refine ih.cell d σ3 (m+1) _ h3 hd he1 (by omega) ?_
     generalize pCell n d (all.drop (m+1))=r1 at hg hQ
     cases r1 with
     | out=>exact hg.elim
     | bad c l=>
       intro o2 g2 s2 y2 k2
       conv=>whnf
       refine⟨?_,?_⟩
       ·conv=>whnf
        refine ak (aj (T:=dJ) rfl rfl (ah (y2.get (by omega) ht3)) rfl) ?_
        rfl
       conv=>whnf
       exact qp (k2.new _ _) fun s3 e' q1 q2 y3 k3=>hQ _ _ _ e' q1 q2 (((U1.trans y2).new _ _).trans y3) k3
     | ok y ts1=>
       intro o2 g2 s2 m2 y2 k2 hm2 EG
       have hQ:NW 3 3 p w g all B σ d Q (pPostL n d (.ex 6 0 [] [] x y .nil t.l) ts1):=hQ
       rw [←hm2] at hQ hg
       have lg:=hg.2.2
       have l22:=y2.len
       conv=>whnf
       refine⟨?_,?_⟩
       ·conv=>whnf
        refine ak (aj (T:=dJ) rfl rfl (ah (y2.get (by omega) ht3)) rfl) ?_
        rfl
       conv=>whnf
       refine ih.postL d B (.ex 6 0 [] [] x y .nil t.l) _ m2 _ _ Q (k2.new _ _) hd hp (by rw [aI];omega) trivial ?_ hg.2.1 (by omega) (hQ.ext ((U1.trans y2).new _ _))
       refine⟨_,0,.p o g' 0,.p o2 g2 0,.sl0,by omega,rfl,aH _ _ _,?_,?_,rfl⟩
       ·exact((hex2.tX x3 hp).tX y2 hp).tX ((aO.refl p s2).new _ _) hp
       ·exact bC.mono (fun i hi=>by omega) (fun i hi a ha=>at_new ha _ _) EG
theorem U2 (ih:WP p w g all n)(d:Nat)(σ:St)(m:Nat)(Q:AV→St→Prop)(h:PW p w g all σ m d .p0)(hd:d≤64)(he:EndOk (all.drop m))(hn:10*(all.drop m).length+7≤n+1)(hQ:oQ p w g all σ d Q (pPost (n+1) d (all.drop m))):ay X 124 [.p p 0 0] σ Q:=by
 have hpl:=bn h.obj
 unfold pPost at hQ
 have hg:=(allE n).first d (all.drop m) he (by omega)
 refine ay.body (F:=Qj) aC (lit:=false) rfl rfl (Nat.le_of_ble_eq_true rfl) ?_
 conv=>whnf
 refine ih.first d σ m _ h hd he (by omega) ?_
 generalize pFirst n d (all.drop m)=r1 at hg hQ
 cases r1 with
 | out=>exact hg.elim
 | bad c l=>
   intro o g' s y k
   conv=>whnf
   refine qp k fun s3 e' q1 q2 y3 k3=>?_
   conv=>whnf
   rw [show cZ.ev e' (.t 3)=get e' 3 from rfl,q1]
   conv=>whnf
   exact Fin.ref rfl (hQ _ _ _ (y.trans y3) k3)
 | ok x ts1=>
   intro o g' s m2 y k hm2 hex
   have hQ:oQ p w g all σ d Q (pPostL n d x ts1):=hQ
   rw [←hm2] at hQ hg
   have lg:=hg.2.2
   conv=>whnf
   refine ih.postL d σ.length x s m2 o g' _ k hd hpl y.len hg.1 hex hg.2.1 (by omega) (hQ.UN y fun o g' s e' q1 q2 q=>?_)
   conv=>whnf
   rw [show cZ.ev e' (.t 3)=get e' 3 from rfl,q1]
   conv=>whnf
   exact Fin.ref rfl q
theorem AB {d c l o g' k:Nat} {σ:St} {Q:Out→Env→St→Prop} (h:PB p σ d c l)(q:∀e',get e' 5= .p o g' 0→get e' 1000000= .u→Q (.exit 0) e' σ):aS X [0,1,5] Bv [(0,.p p 0 0),(1,.i .i64 k),(5,.p o g' 0)] σ Q:=by
 refine aS.round aC (lit:=false) ?_
 conv=>whnf
 refine ay.to (nU h) ?_
 conv=>whnf
 exact q _ rfl rfl
theorem U3 (ih:WP p w g all n)(d c B:Nat)(x:Tr)(σ:St)(m o g':Nat)(Q:Out→Env→St→Prop)(h:PW p w g all σ m d .p0)(hd:d≤64)(hc8:c≤8)(hp:p<B)(hB:B≤σ.length)(hnx:nnT x)(hex:bC (fun i=>B≤i) σ (.p o g' 0) x)(he:EndOk (all.drop m))(hn:10*(all.drop m).length+9≤n+1)
 (hQ:NW 5 5 p w g all B σ d Q (pLoop (n+1) d c x (all.drop m))):aS X [0,1,5] Bv [(0,.p p 0 0),(1,.i .i64 c),(5,.p o g' 0)] σ Q:=by
 obtain⟨t,r,hts⟩:=he.ne
 obtain⟨ht,hr⟩:=bJ hts
 have hpl:=bn h.obj
 have hb6:=Am t.s
 have hlr:(all.drop m).length=r.length+1:=by rw [hts];rfl
 unfold pLoop at hQ
 rw [hts] at hQ
 simp only at hQ
 refine aS.round aC (lit:=false) ?_
 conv=>whnf
 refine ay.to (jk h) ?_
 conv=>whnf
 refine ay.to (h_ h ht) ?_
 conv=>whnf
 refine kU t fun σ1 x1 ht1 l1=>?_
 have h1:=h.ext x1
 have xx:aO p σ σ1:=aO.of x1
 conv=>whnf
 refine ak (aj (T:=dP) rfl rfl (ah (ht1)) rfl) ?_
 conv=>whnf
 refine ay.to (IE t.s σ1) ?_
 conv=>whnf
 refine ak (aj (T:=dJ) rfl rfl (ah (ht1)) rfl) ?_
 conv=>whnf
 by_cases hk:t.k=3
 ·rw [decide_eq_true (by omega)]
  conv=>whnf
  conv=>whnf
  by_cases hz:bindsP t.s=0
  ·rw [decide_eq_true (by omega)]
   conv=>whnf
   rw [if_neg (fun e=>e.2.1 hz)] at hQ
   conv=>whnf
   exact hQ o g' σ1 m _ rfl rfl xx h1 hts (hex.tX xx hp)
  ·rw [decide_eq_false (by omega)]
   conv=>whnf
   conv=>whnf
   by_cases hb:bindsP t.s<c
   ·rw [decide_eq_true (by omega)]
    conv=>whnf
    rw [if_neg (fun e=>e.2.2 hb)] at hQ
    conv=>whnf
    exact hQ o g' σ1 m _ rfl rfl xx h1 hts (hex.tX xx hp)
   ·rw [decide_eq_false (by omega)]
    conv=>whnf
    rw [if_pos ⟨hk,hz,hb⟩,←hr] at hQ
    have he1:EndOk (all.drop (m+1)):=by rw [hr];rw [hts] at he;exact he.tail (by rw [hk];decide)
    have hle:(all.drop (m+1)).length=r.length:=by rw [hr]
    have hg:=(allE n).expr d (bindsP t.s+1) (all.drop (m+1)) he1 (by omega)
    conv=>whnf
    refine f_ h1 (nR he1) fun σ3 x3 h3=>?_
    have ht3:=x3.get (by omega) ht1
    have U1:=xx.trans x3
    have lx3:=U1.len
    conv=>whnf
    refine ak (aj (T:=dP) rfl rfl (ah (ht3)) rfl) ?_
    conv=>whnf
    refine⟨((bindsP t.s+1:Nat):Int),by rw [wrap_i64 (by omega) (by omega)];omega,?_⟩
    conv=>whnf
    refine ak (aj (T:=dJ) rfl rfl (ah (ht3)) rfl) ?_
    conv=>whnf
    refine ih.expr d (bindsP t.s+1) σ3 (m+1) _ h3 hd (by omega) he1 (by omega) ?_
    generalize pExpr n d (bindsP t.s+1) (all.drop (m+1))=r1 at hg hQ
    cases r1 with
    | out=>exact hg.elim
    | bad c l=>
      intro o2 g2 s2 y2 k2
      conv=>whnf
      refine⟨?_,?_⟩
      ·conv=>whnf
       refine ak (aj (T:=dP) rfl rfl (ah (y2.get (by omega) ht3)) rfl) ?_
       rfl
      conv=>whnf
      refine⟨?_,?_⟩
      ·conv=>whnf
       refine ak (aj (T:=dJ) rfl rfl (ah (y2.get (by omega) ht3)) rfl) ?_
       rfl
      conv=>whnf
      exact AB (k2.new _ _) fun e' q1 q2=>hQ _ _ _ e' q1 q2 ((U1.trans y2).new _ _) (k2.new _ _)
    | ok y ts1=>
      intro o2 g2 s2 m2 y2 k2 hm2 EG
      have hQ:NW 5 5 p w g all B σ d Q (pLoop n d c (.ex 3 0 [] t.s x y .nil t.l) ts1):=hQ
      rw [←hm2] at hQ hg
      have lg:=hg.2.2
      have l22:=y2.len
      conv=>whnf
      refine⟨?_,?_⟩
      ·conv=>whnf
       refine ak (aj (T:=dP) rfl rfl (ah (y2.get (by omega) ht3)) rfl) ?_
       rfl
      conv=>whnf
      refine⟨?_,?_⟩
      ·conv=>whnf
       refine ak (aj (T:=dJ) rfl rfl (ah (y2.get (by omega) ht3)) rfl) ?_
       rfl
      conv=>whnf
      refine ih.loop d c B (.ex 3 0 [] t.s x y .nil t.l) _ m2 _ _ Q (k2.new _ _) hd hc8 hp (by rw [aI];omega) trivial ?_ hg.2.1 (by omega) (hQ.ext ((U1.trans y2).new _ _))
      refine⟨_,0,.p o g' 0,.p o2 g2 0,.sl0,by omega,rfl,aH _ _ _,?_,?_,rfl⟩
      ·exact((hex.tX U1 hp).tX y2 hp).tX ((aO.refl p s2).new _ _) hp
      ·exact bC.mono (fun i hi=>by omega) (fun i hi a ha=>at_new ha _ _) EG
 ·rw [decide_eq_false (by omega)]
  conv=>whnf
  rw [if_neg (fun e=>hk e.1)] at hQ
  conv=>whnf
  exact hQ o g' σ1 m _ rfl rfl xx h1 hts (hex.tX xx hp)
theorem U4 (ih:WP p w g all n)(d c:Nat)(σ:St)(m:Nat)(Q:AV→St→Prop)(h:PW p w g all σ m d .p0)(hd:d≤64)(hc8:c≤8)(he:EndOk (all.drop m))(hn:10*(all.drop m).length+9≤n+1)(hQ:oQ p w g all σ d Q (pExpr (n+1) d c (all.drop m))):ay X 122 [.p p 0 0,.i .i64 c] σ Q:=by
 have hpl:=bn h.obj
 unfold pExpr at hQ
 have hg:=(allE n).un d (all.drop m) he (by omega)
 refine ay.body (F:=Qi) aC (lit:=false) rfl rfl (Nat.le_of_ble_eq_true rfl) ?_
 conv=>whnf
 refine ih.un d σ m _ h hd he (by omega) ?_
 generalize pUn n d (all.drop m)=r1 at hg hQ
 cases r1 with
 | out=>exact hg.elim
 | bad c l=>
   intro o g' s y k
   conv=>whnf
   refine AB k fun e' q1 q2=>?_
   conv=>whnf
   rw [q2]
   conv=>whnf
   rw [q1]
   conv=>whnf
   exact Fin.ref rfl (hQ _ _ _ y k)
 | ok x ts1=>
   intro o g' s m2 y k hm2 hex
   have hQ:oQ p w g all σ d Q (pLoop n d c x ts1):=hQ
   rw [←hm2] at hQ hg
   have lg:=hg.2.2
   conv=>whnf
   refine ih.loop d c σ.length x s m2 o g' _ k hd hc8 hpl y.len hg.1 hex hg.2.1 (by omega) (hQ.UN y fun o g' s e' q1 q2 q=>?_)
   conv=>whnf
   rw [q2]
   conv=>whnf
   rw [q1]
   conv=>whnf
   exact Fin.ref rfl q
theorem allP (hno:yw all)(hnn:yB all):∀n,WP p w g all n∧nX p w g all n
 | 0=>⟨⟨fun _ _ _ _ _ _ _ _ _ h=>absurd h (by omega),fun _ _ _ _ _ _ _ h=>absurd h (by omega),fun _ _ _ _ _ _ _ h=>absurd h (by omega),fun _ _ _ _ _ _ _ _ _ h=>absurd h (by omega),fun _ _ _ _ _ _ _ h=>absurd h (by omega),fun _ _ _ _ _ _ _ h=>absurd h (by omega),fun _ _ _ _ _ _ _ _ _ _ _ _ _ _ _ h=>absurd h (by omega),fun _ _ _ _ _ _ _ _ _ _ _ _ _ _ _ _ _ h=>absurd h (by omega)⟩,by intro d B xo bx b1 b4 b5 xg nm ln _ _ _ _ _ acc A σ m Q _ _ _ _ _ _ _ _ _ h;omega⟩
 | n+1=>by
   obtain⟨ih,OY⟩:=allP hno hnn n
   exact⟨⟨fun d c σ m Q h hd hc he hn hQ=>U4 ih d c σ m Q h hd hc he hn hQ,fun d σ m Q h hd he hn hQ=>un_p ih d σ m Q h hd he hn hQ,fun d σ m Q h hd he hn hQ=>U2 ih d σ m Q h hd he hn hQ,fun d a b σ m Q h hd he hn hQ=>NY ih d a b σ m Q h hd he hn hQ,fun d σ m Q h hd he hn hQ=>N7 hno hnn ih d σ m Q h hd he hn hQ,fun d σ m Q h hd he hn hQ=>Rk hno hnn ih OY d σ m Q h hd he hn hQ,fun d B x σ m o g' Q h hd hp hB hx he' he hn hQ=>Rl ih d B x σ m o g' Q h hd hp hB hx he' he hn hQ,fun d c B x σ m o g' Q h hd hc hp hB hx he' he hn hQ=>U3 ih d c B x σ m o g' Q h hd hc hp hB hx he' he hn hQ⟩,UW ih OY⟩
end
end Go.Abs.YtlkfbfhkcaldlaaGreatDoor
namespace Go.Abs.YtlkfbfhkcaldlaaGreatDoor
open Go.Proofs
set_option maxRecDepth 4000
mutual
def fM (S:Nat→Prop)(σ:St)(v:AV):Sm→Prop
 | .st k name ptr l r th el line=>∃(o g:Nat) (L R T E:AV),S o∧v= .p o g 0∧σ[o]? =some ⟨g,false,.cells 95 [.i .i64 k,.s name,.b ptr,L,R,T,E,.i .i64 line]⟩∧bC S σ L l∧bC S σ R r∧dn S σ T th∧dn S σ E el
def dn (S:Nat→Prop)(σ:St)(v:AV):Sms→Prop
 | .nil=>v= .sl0
 | .cons s r=>∃(o g:Nat) (cs:List AV),S o∧v= .sl o g 0 cs.length 1∧σ[o]? =some ⟨g,false,.cells 96 cs⟩∧∃a tl,cs=a :: tl∧fM S σ a s∧EK S σ tl r
def EK (S:Nat→Prop)(σ:St)(cs:List AV):Sms→Prop
 | .nil=>cs=[]
 | .cons s r=>∃a tl,cs=a :: tl∧fM S σ a s∧EK S σ tl r
end
mutual
theorem fM.mono {S S':Nat→Prop} {σ σ':St} (h1:∀o,S o→S' o)(h2:∀o,S o→∀a,σ[o]? =some a→σ'[o]? =some a):∀{t:Sm} {v:AV},fM S σ v t→fM S' σ' v t
 | .st k name ptr l r th el line,v,h=>by
   obtain⟨o,g,L,R,T,E,hs,hv,ho,hl,hr,ht,he⟩:=h
   exact⟨o,g,L,R,T,E,h1 o hs,hv,h2 o hs _ ho,bC.mono h1 h2 hl,bC.mono h1 h2 hr,dn.mono h1 h2 ht,dn.mono h1 h2 he⟩
theorem dn.mono {S S':Nat→Prop} {σ σ':St} (h1:∀o,S o→S' o)(h2:∀o,S o→∀a,σ[o]? =some a→σ'[o]? =some a):∀{t:Sms} {v:AV},dn S σ v t→dn S' σ' v t
 | .nil,v,h=>h
 | .cons t r,v,h=>by
   obtain⟨o,g,cs,hs,hv,ho,a,tl,hc,hx,hl⟩:=h
   exact⟨o,g,cs,h1 o hs,hv,h2 o hs _ ho,a,tl,hc,fM.mono h1 h2 hx,EK.mono h1 h2 hl⟩
theorem EK.mono {S S':Nat→Prop} {σ σ':St} (h1:∀o,S o→S' o)(h2:∀o,S o→∀a,σ[o]? =some a→σ'[o]? =some a):∀{t:Sms} {cs:List AV},EK S σ cs t→EK S' σ' cs t
 | .nil,cs,h=>h
 | .cons t r,cs,h=>by
   obtain⟨a,tl,hc,h3,h4⟩:=h
   exact⟨a,tl,hc,fM.mono h1 h2 h3,EK.mono h1 h2 h4⟩
end
mutual
theorem fM.below {S:Nat→Prop} {σ:St} :∀{t:Sm} {v:AV},fM S σ v t→fM (fun o=>S o∧o<σ.length) σ v t
 | .st k name ptr l r th el line,v,h=>by
   obtain⟨o,g,L,R,T,E,hs,hv,ho,hl,hr,ht,he⟩:=h
   exact⟨o,g,L,R,T,E,⟨hs,bn ho⟩,hv,ho,bC.below hl,bC.below hr,dn.below ht,dn.below he⟩
theorem dn.below {S:Nat→Prop} {σ:St} :∀{t:Sms} {v:AV},dn S σ v t→dn (fun o=>S o∧o<σ.length) σ v t
 | .nil,v,h=>h
 | .cons t r,v,h=>by
   obtain⟨o,g,cs,hs,hv,ho,a,tl,hc,hx,hl⟩:=h
   exact⟨o,g,cs,⟨hs,bn ho⟩,hv,ho,a,tl,hc,fM.below hx,EK.below hl⟩
theorem EK.below {S:Nat→Prop} {σ:St} :∀{t:Sms} {cs:List AV},EK S σ cs t→EK (fun o=>S o∧o<σ.length) σ cs t
 | .nil,cs,h=>h
 | .cons t r,cs,h=>by
   obtain⟨a,tl,hc,h3,h4⟩:=h
   exact⟨a,tl,hc,fM.below h3,EK.below h4⟩
end
def JQ (B:Nat)(σ:St)(v:AV)(cs:List AV):Prop:=(cs=[]∧v= .sl0)∨∃o g,B≤o∧v= .sl o g 0 cs.length 1∧σ[o]? =some ⟨g,false,.cells 96 cs⟩∧cs≠[]
theorem N9 {B:Nat} {σ:St} {v:AV} {cs:List AV} (h:JQ B σ v cs) {oy gy:Nat} (hcs:cs.all AV.one=true)(hl:cs.length≤100000) {C:Nat} (hC:σ[C]? =some ⟨0,false,.cells 96 [.p oy gy 0]⟩)(hB:B≤σ.length) {Q:AV→St→Prop}
 (q:∀v' σ',JQ B σ' v' (cs ++ [.p oy gy 0])→σ.length≤σ'.length→(∀i,i<σ.length→apart v i→σ'[i]? =σ[i]?∧apart v' i)→(∀i,i<B→σ'[i]? =σ[i]?)→(∀i,σ'.length≤i→apart v' i)→Q v' σ') :
 xM D7.get false 67 v (.sl C 0 0 1 1) σ Q:=by
 constructor
 refine ak (v:=cO) rfl ?_
 refine ak (v:=bZ) rfl ?_
 refine ak (iC hC (Nat.le_of_ble_eq_true rfl)) ?_
 rcases h with ⟨rfl,rfl⟩ | ⟨o,g,h1,rfl,h3,_⟩
 ·refine⟨Nat.le_of_ble_eq_true rfl,?_⟩
  refine q _ _ (.inr ⟨σ.length,0,hB,rfl,?_,by simp⟩) (by rw [aI];omega) (fun i hi _=>⟨dB hi,fun o g n z e=>by cases e;omega⟩) (fun i hi=>dB (by omega)) (fun i hi o g n z e=>by cases e;rw [aI] at hi;omega)
  rw [aH];rfl
 ·refine ak (jV h3) ?_
  refine⟨rfl,by simp,?_,by rw [List.drop_zero,List.take_of_length_le (by omega)];exact hcs,?_⟩
  ·show (cs.length+1)*8≤_;omega
  refine q _ _ (.inr ⟨o,g+1,h1,by simp,?_,by simp⟩) (by rw [List.length_set];exact Nat.le_refl _) (fun i hi ha=>⟨by rw [List.getElem?_set_ne (fun e=>ha o g _ _ rfl e.symm)],fun o' g' n z e=>by cases e;exact ha o g _ _ rfl⟩) (fun i hi=>by rw [List.getElem?_set_ne (by omega)]) (fun i hi o' g' n z e=>by cases e;rw [List.length_set] at hi;have:=bn h3;omega)
  rw [at_set h3]
  simp [List.take_of_length_le]
  rfl
def fO (S:Nat→Prop)(σ:St):List AV→List Sm→Prop
 | [],[]=>True
 | a :: cs,x :: xs=>(∃o g,a= .p o g 0)∧fM S σ a x∧fO S σ cs xs
 | _,_=>False
theorem fO.mono {S S':Nat→Prop} {σ σ':St} (h1:∀o,S o→S' o)(h2:∀o,S o→∀a,σ[o]? =some a→σ'[o]? =some a):∀{cs:List AV} {xs:List Sm},fO S σ cs xs→fO S' σ' cs xs
 | [],[],_=>trivial
 | a :: cs,x :: xs,h=>⟨h.1,fM.mono h1 h2 h.2.1,fO.mono h1 h2 h.2.2⟩
theorem fO.snoc {S:Nat→Prop} {σ:St} :∀{cs:List AV} {xs:List Sm} {a:AV} {x:Sm},fO S σ cs xs→(∃o g,a= .p o g 0)→fM S σ a x→fO S σ (cs ++ [a]) (xs ++ [x])
 | [],[],a,x,_,ha,hx=>⟨ha,hx,trivial⟩
 | b :: cs,y :: xs,a,x,h,ha,hx=>⟨h.1,h.2.1,fO.snoc h.2.2 ha hx⟩
theorem fO.len {S:Nat→Prop} {σ:St} :∀{cs:List AV} {xs:List Sm},fO S σ cs xs→cs.length=xs.length
 | [],[],_=>rfl
 | a :: cs,x :: xs,h=>by have:=fO.len h.2.2;simp [this]
theorem fO.one {S:Nat→Prop} {σ:St} :∀{cs:List AV} {xs:List Sm},fO S σ cs xs→cs.all AV.one=true
 | [],[],_=>rfl
 | a :: cs,x :: xs,h=>by
   obtain⟨o,g,rfl⟩:=h.1
   rw [List.all_cons,fO.one h.2.2];rfl
def EL:List Sm→Sms
 | []=>.nil
 | x :: xs=>.cons x (EL xs)
def yC:Sms→List Sm
 | .nil=>[]
 | .cons x xs=>x :: yC xs
theorem N_:∀xs:Sms,EL (yC xs)=xs
 | .nil=>rfl
 | .cons x xs=>by show Sms.cons x (EL (yC xs))=_;rw [N_ xs]
theorem fO.smL {S:Nat→Prop} {σ:St} :∀{cs:List AV} {xs:List Sm},fO S σ cs xs→EK S σ cs (EL xs)
 | [],[],_=>rfl
 | a :: cs,x :: xs,h=>⟨a,cs,rfl,h.2.1,fO.smL h.2.2⟩
def yZ (B:Nat)(σ:St)(v:AV)(xs:List Sm):Prop:=∃cs,JQ B σ v cs∧fO (fun i=>B≤i∧apart v i) σ cs xs
theorem yZ.arg {B:Nat} {σ:St} {v:AV} {xs:List Sm} (h:yZ B σ v xs):dn (fun i=>B≤i) σ v (EL xs):=by
 obtain⟨cs,h1,h2'⟩:=h
 have h2:fO (fun i=>B≤i) σ cs xs:=h2'.mono (fun i hi=>hi.1) (fun i hi a ha=>ha)
 rcases h1 with ⟨rfl,rfl⟩ | ⟨o,g,q1,rfl,q3,q4⟩
 ·cases xs with
  | nil=>rfl
  | cons _ _=>exact h2.elim
 ·cases cs with
  | nil=>
    cases xs with
    | nil=>exact(q4 rfl).elim
    | cons _ _=>exact h2.elim
  | cons a cs=>
    cases xs with
    | nil=>exact h2.elim
    | cons x xs=>exact⟨o,g,a :: cs,q1,rfl,q3,a,cs,rfl,h2.2.1,h2.2.2.smL⟩
theorem JQ.sl {B:Nat} {σ:St} {v:AV} {cs:List AV} (h:JQ B σ v cs):CS v:=by
 rcases h with ⟨_,rfl⟩ | ⟨o,g,_,rfl,_⟩
 ·exact .inl rfl
 ·exact .inr ⟨_,_,_,rfl⟩
theorem fO.below {S:Nat→Prop} {σ:St} :∀{cs:List AV} {xs:List Sm},fO S σ cs xs→fO (fun o=>S o∧o<σ.length) σ cs xs
 | [],[],_=>trivial
 | a :: cs,x :: xs,h=>⟨h.1,h.2.1.below,h.2.2.below⟩
theorem EM {p B D:Nat} {xu σ2:St} {A:AV} {acc:List Sm} (ha:yZ B xu A acc)(x2:aO p xu σ2)(hp:p<B)(hB:B≤xu.length)(hD:D≤σ2.length)(hD0:xu.length≤D)(hl:acc.length≤90000)(oy gy:Nat) {Q:AV→St→Prop}
 (q:∀o3 g3 k σ3,(∀i,i<B→σ3[i]? =σ2[i]?)→σ2.length≤σ3.length→(∀(i:Nat) (a:AO),σ2[i]? =some a→(∀(g:Nat) (ro:Bool) (cs:List AV),a≠⟨g,ro,.cells 96 cs⟩)→σ3[i]? =some a)→(∀y,fM (fun i=>D≤i) σ2 (.p oy gy 0) y→yZ B σ3 (.sl o3 g3 0 k 1) (acc ++ [y]))→Q (.sl o3 g3 0 k 1) σ3) :
 xM D7.get false 67 A (.sl σ2.length 0 0 1 1) (au 96 [.p oy gy 0] σ2) Q:=by
 obtain⟨cs,hraw,hea⟩:=ha
 have hcl:=hea.len
 have hco:=hea.one
 have lx:=x2.len
 have EH:JQ B (au 96 [.p oy gy 0] σ2) A cs:=by
  rcases hraw with h | ⟨o,g,q1,q2,q3,q4⟩
  ·exact .inl h
  ·exact .inr ⟨o,g,q1,q2,at_new (x2.get (by omega) q3) _ _,q4⟩
 have hlt:∀o g n z,A= .sl o g 0 n z→o<xu.length:=by
  intro o g n z e
  rcases hraw with ⟨_,h⟩ | ⟨o',g',q1,q2,q3,q4⟩
  ·rw [h] at e;cases e
  ·rw [q2] at e;cases e;exact bn q3
 refine N9 (B:=B) (cs:=cs) EH hco (by omega) (aH _ _ _) (by rw [aI];omega) fun v' σ3 hr3 hl3 ho3 hb3 aae=>?_
 rw [aI] at hl3
 obtain⟨o3,g3,p1,rfl,p3,p4⟩:=hr3.resolve_left (by simp)
 refine q _ _ _ σ3 (fun i hi=>by rw [hb3 i hi,dB (by omega)]) (by omega) (fun i a hi ht=>?_) (fun y EG=>?_)
 ·rw [(ho3 i (by rw [aI];have:=bn hi;omega) ?_).1]
  ·exact at_new hi _ _
  ·intro o g n z e
   rcases hraw with ⟨_,h⟩ | ⟨o',g',q1,q2,q3,q4⟩
   ·rw [h] at e;cases e
   ·rw [q2] at e
    cases e
    intro e
    subst e
    have:=(x2.get (by omega) q3).symm.trans hi
    exact ht _ _ _ (Option.some.inj this).symm
 refine⟨_,hr3,fO.snoc (fO.mono (fun i hi=>⟨hi.1.1,(ho3 i (by rw [aI];omega) hi.1.2).2⟩) (fun i hi a ha=>by rw [(ho3 i (by rw [aI];omega) hi.1.2).1,dB (by omega),x2.old i hi.2 (by omega)];exact ha) hea.below) ⟨_,_,rfl⟩ ?_⟩
 have hap:∀i,D≤i→apart A i:=fun i hi o g n z e=>by have:=hlt o g n z e;omega
 exact fM.mono (fun i hi=>⟨by omega,(ho3 i (by rw [aI];omega) (hap i hi.1)).2⟩) (fun i hi a ha=>by rw [(ho3 i (by rw [aI];omega) (hap i hi.1)).1];exact at_new ha _ _) EG.below
theorem yZ.keep {B:Nat} {σ σ':St} {v:AV} {xs:List Sm} (h:yZ B σ v xs)(k:∀(i:Nat) (a:AO),B≤i→σ[i]? =some a→σ'[i]? =some a):yZ B σ' v xs:=by
 obtain⟨cs,h1,h2⟩:=h
 refine⟨cs,?_,h2.mono (fun i hi=>hi) (fun i hi a ha=>k i a hi.1 ha)⟩
 rcases h1 with h | ⟨o,g,q1,q2,q3,q4⟩
 ·exact .inl h
 ·exact .inr ⟨o,g,q1,q2,k o _ q1 q3,q4⟩
theorem PW.Cb {p w g m d:Nat} {all:List Tok} {σ σ':St} {f:AV} (h:PW p w g all σ m d f)(k:∀(i:Nat) (a:AO),σ[i]? =some a→(∀(g:Nat) (ro:Bool) (cs:List AV),a≠⟨g,ro,.cells 96 cs⟩)→σ'[i]? =some a):PW p w g all σ' m d f:=
 ⟨k _ _ h.obj (fun _ _ _ e=>by cases e),k _ _ h.tok (fun _ _ _ e=>by cases e),h.ne,h.len,h.at_,h.dp⟩
theorem PB.Cb {p d c l:Nat} {σ σ':St} (h:PB p σ d c l)(k:∀(i:Nat) (a:AO),σ[i]? =some a→(∀(g:Nat) (ro:Bool) (cs:List AV),a≠⟨g,ro,.cells 96 cs⟩)→σ'[i]? =some a):PB p σ' d c l:=by
 obtain⟨w,g,all,m,fo,fg,h1,h2,h3⟩:=h
 exact⟨w,g,all,m,fo,fg,h1.Cb k,h2,k _ _ h3 (fun _ _ _ e=>by cases e)⟩
end Go.Abs.YtlkfbfhkcaldlaaGreatDoor
