/- Texts of this claim, joined: FnA, FnB, FnC, FnD, FnE, FnF, FnG, FnH. -/
import Derived.Test.YtjcicgkencfbgaaGreatDoorM19
set_option linter.unusedVariables false
set_option linter.unusedSimpArgs false
namespace Go.bG.YtjcicgkencfbgaaGreatDoor
open Go.Proofs
set_option maxRecDepth 4000
theorem Ee (c:Int)(σ:St):ay X 80 [.i .u8 c] σ fun v s=>v= .b (isDigit c)∧s=σ:=by
 refine ay.body (F:=F80) aF (lit:=false) rfl rfl (Nat.le_of_ble_eq_true rfl) ?_
 repeat' ((conv=>whnf);split)
 all_goals (conv=>whnf)
 all_goals exact Fin.flat rfl (List.take_length) ⟨by grind [isDigit],rfl⟩
theorem uQ (c:Int)(σ:St):ay X 79 [.i .u8 c] σ fun v s=>v= .b (bQ c)∧s=σ:=by
 refine ay.body (F:=F79) aF (lit:=false) rfl rfl (Nat.le_of_ble_eq_true rfl) ?_
 repeat' ((conv=>whnf);split)
 all_goals (conv=>whnf)
 all_goals exact Fin.flat rfl (List.take_length) ⟨by grind [bQ],rfl⟩
theorem Gv (t s:List UInt8)(n:Nat)(j:Int)(hj:j=n)(σ:St)(h1:n≤t.length)(h2:t.length≤100000)(h3:s.length≤10) :
 ay X 78 [.s t,.i .i64 j,.s s] σ fun v s'=>v= .b (s.isPrefixOf (t.drop n))∧s'= σ:=by
 subst hj
 have hw:IntKind.i64.wrap ((n:Int)+s.length)=n+s.length:=wrap_i64 (by omega) (by omega)
 refine ay.body (F:=F78) aF (lit:=false) rfl rfl (Nat.le_of_ble_eq_true rfl) ?_
 conv=>whnf
 refine⟨_,hw,?_⟩
 conv=>whnf
 split
 ·rename_i h
  have h:=of_decide_eq_true h
  have e1:s.isPrefixOf (t.drop n)=((t.drop n).take (n+s.length - n) == s):=by
   rw [Bool.eq_iff_iff,List.isPrefixOf_iff_prefix,List.prefix_iff_eq_take,beq_iff_eq,show n+s.length - n=s.length by omega]
   exact eq_comm
  rw [e1]
  conv=>whnf
  refine⟨_,hw,?_⟩
  conv=>whnf
  refine⟨n,n+s.length,rfl,by omega,by omega,by omega,?_⟩
  conv=>whnf
  split <;> (conv=>whnf)
  ·rename_i h4;exact Fin.flat rfl List.take_length ⟨by rw [h4],rfl⟩
  ·rename_i h4;exact Fin.flat rfl List.take_length ⟨by rw [h4],rfl⟩
 ·rename_i h
  have h:=of_decide_eq_false h
  have e1:s.isPrefixOf (t.drop n)=false:=by
   rw [Bool.eq_false_iff]
   intro hp
   have:=(List.isPrefixOf_iff_prefix.1 hp).length_le
   simp at this
   omega
  conv=>whnf
  exact Fin.flat rfl List.take_length ⟨by rw [e1],rfl⟩
def dR (u:List UInt8):Nat:=match u with
 | []=>0
 | c :: _=>if dD c.toNat then 1 else if [47,47].isPrefixOf u then run (· != 10) u else 0
theorem drop_cons {t:List UInt8} {n:Nat} {c:UInt8} (h:t[n]? =some c):t.drop n=c :: t.drop (n+1):=by
 obtain⟨hn,rfl⟩:=List.getElem?_eq_some_iff.1 h
 rw [←List.getElem_cons_drop hn]
theorem Nv (t:List UInt8)(n:Nat)(ht:t.length≤100000)(σ:St)(Q:Out→Env→St→Prop):∀(k m:Nat),n+m+k=t.length→
 (∀e',get e' 6= .i .i64 ((m+run (· != 10) (t.drop (n+m)):Nat):Int)→Q (.exit 0) e' σ)→
 aS X [0,1,6] Y4 [(0,.s t),(1,.i .i64 n),(6,.i .i64 m)] σ Q:=by
 intro k
 induction k with
 | zero=>
   intro m hm hq
   have hw:IntKind.i64.wrap ((n:Int)+m)=n+m:=wrap_i64 (by omega) (by omega)
   refine aS.round aF (lit:=false) ?_
   conv=>whnf
   refine⟨_,hw,?_⟩
   rw [show ((n:Int)+m)=t.length by omega]
   conv=>whnf
   rw [decide_eq_false (by omega)]
   conv=>whnf
   refine hq _ ?_
   rw [List.drop_of_length_le (by omega)]
   rfl
 | succ k ih=>
   intro m hm hq
   have hw:IntKind.i64.wrap ((n:Int)+m)=n+m:=wrap_i64 (by omega) (by omega)
   have hw1:IntKind.i64.wrap ((m:Int)+1)=(m+1:Nat):=by rw [wrap_i64 (by omega) (by omega)];omega
   obtain⟨c,hc⟩:∃c,t[n+m]? =some c:=⟨_,List.getElem?_eq_getElem (by omega)⟩
   have hd:=drop_cons hc
   refine aS.round aF (lit:=false) ?_
   conv=>whnf
   refine⟨_,hw,?_⟩
   conv=>whnf
   rw [decide_eq_true (by omega)]
   conv=>whnf
   refine⟨_,hw,?_⟩
   conv=>whnf
   refine⟨n+m,c,by omega,hc,?_⟩
   conv=>whnf
   split
   ·rename_i h
    conv=>whnf
    refine⟨_,hw1,?_⟩
    conv=>whnf
    refine ih (m+1) (by omega) fun e' he=>hq e' ?_
    rw [he,hd]
    have h':((c.toNat:Int) != 10)=true:=by simpa using h
    simp only [run,h',if_true,show n+(m+1)=n+m+1 by omega]
    congr 1;omega
   ·rename_i h
    conv=>whnf
    refine hq _ ?_
    rw [hd]
    have h':((c.toNat:Int) != 10)=false:=by simpa using h
    simp only [run,h']
    rfl
theorem UG (t:List UInt8)(n:Nat)(j:Int)(hj:j=n)(ht:t.length≤100000)(hn:n<t.length)(σ:St) :
 ay X 39 [.s t,.i .i64 j] σ fun v s=>v= .i .i64 (dR (t.drop n))∧s=σ:=by
 subst hj
 obtain⟨c,hc⟩:∃c,t[n]? =some c:=⟨_,List.getElem?_eq_getElem hn⟩
 have hd:=drop_cons hc
 refine ay.body (F:=F39) aF (lit:=false) rfl rfl (Nat.le_of_ble_eq_true rfl) ?_
 conv=>whnf
 refine⟨n,c,rfl,hc,?_⟩
 by_cases hb:dD c.toNat=true
 ·have e1:dR (t.drop n)=1:=by rw [hd];simp [dR,hb]
  rw [e1]
  repeat' ((conv=>whnf);split)
  all_goals (conv=>whnf)
  all_goals first
   | exact Fin.flat rfl List.take_length ⟨rfl,rfl⟩
   | (exfalso;simp_all [dD];done)
 ·have e1:dR (t.drop n)=if [47,47].isPrefixOf (t.drop n) then run (· != 10) (t.drop n) else 0:=by rw [hd];simp [dR,hb]
  repeat' ((conv=>whnf);split)
  all_goals (conv=>whnf)
  all_goals first
   | (exfalso;simp_all [dD];done)
   | skip
  refine ay.to (Gv t [47,47] n n rfl σ (by omega) ht (by simp)) ?_
  conv=>whnf
  cases h: [47,47].isPrefixOf (t.drop n) with
  | true=>
    conv=>whnf
    refine Nv t n ht σ _ (t.length - n) 0 (by omega) fun e' he=>?_
    conv=>whnf
    rw [show dK.ev e' (.t 6)=_ from he]
    conv=>whnf
    exact Fin.flat rfl List.take_length ⟨by rw [e1,h];simp,rfl⟩
  | false=>
    conv=>whnf
    exact Fin.flat rfl List.take_length ⟨by rw [e1,h];simp,rfl⟩
def jQ:Nat→List UInt8→Bool
 | _,[]=>true
 | v,c :: r=>if 4294967296≤10*v+(c.toNat - 48) then false else jQ (10*v+(c.toNat - 48)) r
theorem KF (t:List UInt8)(hd:∀c∈t,isDigit c.toNat=true)(ht:t.length≤100000)(σ:St)(Q:Out→Env→St→Prop):∀(k m v:Nat),m+k=t.length→v<4294967296→
 (jQ v (t.drop m)=true→∀e',Q (.exit 0) e' σ)→(jQ v (t.drop m)=false→∀e',get e' 2= .b false→Q .ret e' σ)→
 aS X [0,3,4] Zb [(0,.s t),(3,.i .u64 v),(4,.i .i64 m)] σ Q:=by
 intro k
 induction k with
 | zero=>
   intro m v hm hv h1 h2
   refine aS.round aF (lit:=false) ?_
   conv=>whnf
   rw [decide_eq_false (by omega)]
   conv=>whnf
   exact h1 (by rw [List.drop_of_length_le (by omega)];rfl) _
 | succ k ih=>
   intro m v hm hv h1 h2
   obtain⟨c,hc⟩:∃c,t[m]? =some c:=⟨_,List.getElem?_eq_getElem (by omega)⟩
   have hdr:=drop_cons hc
   have hdig:=hd c (List.mem_of_getElem? hc)
   simp only [isDigit,Bool.and_eq_true,decide_eq_true_eq] at hdig
   have hw1:IntKind.i64.wrap ((m:Int)+1)=(m+1:Nat):=by rw [wrap_i64 (by omega) (by omega)];omega
   refine aS.round aF (lit:=false) ?_
   conv=>whnf
   rw [decide_eq_true (by omega)]
   conv=>whnf
   refine⟨10*v,wrap_u64 (by omega) (by omega),?_⟩
   conv=>whnf
   refine⟨m,c,rfl,hc,?_⟩
   conv=>whnf
   refine⟨_,wrap_u8 (n:=c.toNat - 48) (by omega) (by omega),?_⟩
   conv=>whnf
   refine⟨_,wrap_u64 (n:=(c.toNat:Int) - 48) (by omega) (by omega),?_⟩
   conv=>whnf
   refine⟨((10*v+(c.toNat - 48):Nat):Int),by rw [wrap_u64 (by omega) (by omega)];omega,?_⟩
   conv=>whnf
   by_cases hb:4294967296≤10*v+(c.toNat - 48)
   ·rw [decide_eq_true (by omega)]
    conv=>whnf
    exact h2 (by rw [hdr];simp [jQ,hb]) _ rfl
   ·rw [decide_eq_false (by omega)]
    conv=>whnf
    refine⟨_,hw1,?_⟩
    conv=>whnf
    have e1:jQ v (t.drop m)=jQ (10*v+(c.toNat - 48)) (t.drop (m+1)):=by rw [hdr];simp [jQ,hb]
    exact ih (m+1) _ (by omega) (by omega) (by rw [←e1];exact h1) (by rw [←e1];exact h2)
theorem uS (t:List UInt8)(hd:∀c∈t,isDigit c.toNat=true)(ht:t.length≤100000)(σ:St):ay X 82 [.s t] σ fun v s=>v= .b (jQ 0 t)∧s=σ:=by
 refine ay.body (F:=F82) aF (lit:=false) rfl rfl (Nat.le_of_ble_eq_true rfl) ?_
 conv=>whnf
 refine KF t hd ht σ _ t.length 0 0 (by omega) (by omega) (fun h e'=>?_) (fun h e' he=>?_)
 ·conv=>whnf
  rw [List.drop_zero] at h
  exact Fin.flat rfl List.take_length ⟨by rw [h],rfl⟩
 ·conv=>whnf
  rw [he]
  conv=>whnf
  rw [List.drop_zero] at h
  exact Fin.flat rfl List.take_length ⟨by rw [h],rfl⟩
end Go.bG.YtjcicgkencfbgaaGreatDoor
namespace Go.bG.YtjcicgkencfbgaaGreatDoor
open Go.Proofs
set_option maxRecDepth 4000
theorem UH (s:List UInt8)(o g:Nat)(l:List (List UInt8))(σ:St)(ho:dJ σ o g=some (l.map .s))(hl:l.length≤100)(Q:Out→Env→St→Prop):∀(k m:Nat),m+k=l.length→
 ((l.drop m).contains s=false→∀e',Q (.exit 0) e' σ)→((l.drop m).contains s=true→∀e',get e' 2= .b true→Q .ret e' σ)→
 aS X [0,3,4] Za [(0,.s s),(3,.sl o g 0 l.length 1),(4,.i .i64 m)] σ Q:=by
 intro k
 induction k with
 | zero=>
   intro m hm h1 h2
   refine aS.round aF (lit:=false) ?_
   conv=>whnf
   rw [decide_eq_false (by omega)]
   conv=>whnf
   exact h1 (by rw [List.drop_of_length_le (by omega)];rfl) _
 | succ k ih=>
   intro m hm h1 h2
   obtain⟨c,hc⟩:∃c,l[m]? =some c:=⟨_,List.getElem?_eq_getElem (by omega)⟩
   have hdr:l.drop m=c :: l.drop (m+1):=by
    obtain⟨hn,rfl⟩:=List.getElem?_eq_some_iff.1 hc
    rw [←List.getElem_cons_drop hn]
   have hw1:IntKind.i64.wrap ((m:Int)+1)=(m+1:Nat):=by rw [wrap_i64 (by omega) (by omega)];omega
   refine aS.round aF (lit:=false) ?_
   conv=>whnf
   rw [decide_eq_true (by omega)]
   conv=>whnf
   refine⟨m,rfl,by omega,?_⟩
   conv=>whnf
   refine ak (v:=.s c) (aj (T:=eG) rfl rfl ho (by simp [hc])) ?_
   conv=>whnf
   cases h:c == s with
   | true=>
     conv=>whnf
     exact h2 (by rw [hdr];simp_all) _ rfl
   | false=>
     conv=>whnf
     refine⟨_,hw1,?_⟩
     conv=>whnf
     have e1:(l.drop m).contains s=(l.drop (m+1)).contains s:=by
        rw [hdr,List.contains_cons]
        have:(s == c)=false:=by rw [beq_eq_false_iff_ne] at h ⊢;exact fun e=>h e.symm
        rw [this];simp
     exact ih (m+1) (by omega) (by rw [←e1];exact h1) (by rw [←e1];exact h2)
theorem UJ (σ:St)(Q:AV→St→Prop)(h:Q (.sl σ.length 0 0 12 1) (au 9 (keys.map .s) σ)):ay X 113 [] σ Q:=by
 refine ay.body (F:=ZU) aF (lit:=false) rfl rfl (Nat.le_of_ble_eq_true rfl) ?_
 conv=>whnf
 exact Fin.ref rfl h
theorem aak (s:List UInt8)(σ:St):ay X 81 [.s s] σ fun v s'=>v= .b (keys.contains s)∧s'= σ:=by
 refine ay.body (F:=F81) aF (lit:=false) rfl rfl (Nat.le_of_ble_eq_true rfl) ?_
 conv=>whnf
 refine UJ σ _ ?_
 conv=>whnf
 refine UH s _ _ keys _ (jm _ _ σ) (by decide) _ 12 0 rfl (fun h e'=>?_) (fun h e' he=>?_)
 ·conv=>whnf
  exact Fin.flat rfl (by rw [nU _ _ _ _ (Nat.le_refl _),List.take_length]) ⟨by rw [List.drop_zero] at h;rw [h],rfl⟩
 ·conv=>whnf
  rw [he]
  conv=>whnf
  exact Fin.flat rfl (by rw [nU _ _ _ _ (Nat.le_refl _),List.take_length]) ⟨by rw [List.drop_zero] at h;rw [h],rfl⟩
def signs:List (List UInt8):=lM ++ [[40],[41],[123],[125],[91],[93],[44],[59],[58],[61],[60],[62],[43],[45],[124],[94],[38],[42],[47],[37],[33]]
theorem UK (σ:St)(Q:AV→St→Prop)(h:Q (.sl σ.length 0 0 29 1) (au 9 (signs.map .s) σ)):ay X 83 [] σ Q:=by
 refine ay.body (F:=F83) aF (lit:=false) rfl rfl (Nat.le_of_ble_eq_true rfl) ?_
 conv=>whnf
 exact Fin.ref rfl h
theorem Qm (t:List UInt8)(n:Nat)(ht:t.length≤100000)(hn:n≤t.length)(r o g:Nat)(l:List (List UInt8))(σ:St)(ho:dJ σ o g=some (l.map .s))(hl:l.length≤100)(hw:∀w∈l,w.length≤10)
 (hr:∃e,σ[r]? =some ⟨0,false,.cells e [.i .i64 0,.s [],.i .i64 0]⟩) (Q:Out→Env→St→Prop):∀(k m:Nat),m+k=l.length→
 ((l.drop m).find? (·.isPrefixOf (t.drop n))=none→∀e',get e' 4= .p r 0 0→Q (.exit 4) e' σ)→
 (∀w,(l.drop m).find? (·.isPrefixOf (t.drop n))=some w→∀e' e,σ[r]? =some ⟨0,false,.cells e [.i .i64 0,.s [],.i .i64 0]⟩→get e' 4= .p r 0 0→get e' 5= .i .i64 0→Q .ret e' (σ.set r ⟨0,false,.cells e [.i .i64 3,.s w,.i .i64 0]⟩))→
 aS X [0,1,4,10,11] Y7 [(0,.s t),(1,.i .i64 n),(4,.p r 0 0),(10,.sl o g 0 l.length 1),(11,.i .i64 m)] σ Q:=by
 intro k
 induction k with
 | zero=>
   intro m hm h1 h2
   refine aS.round aF (lit:=false) ?_
   conv=>whnf
   rw [decide_eq_false (by omega)]
   conv=>whnf
   exact h1 (by rw [show l.drop m=[] from List.drop_of_length_le (by omega)];rfl) _ rfl
 | succ k ih=>
   intro m hm h1 h2
   obtain⟨c,hc⟩:∃c,l[m]? =some c:=⟨_,List.getElem?_eq_getElem (by omega)⟩
   have hdr:l.drop m=c :: l.drop (m+1):=by
    obtain⟨hn,rfl⟩:=List.getElem?_eq_some_iff.1 hc
    rw [←List.getElem_cons_drop hn]
   have hw1:IntKind.i64.wrap ((m:Int)+1)=(m+1:Nat):=by rw [wrap_i64 (by omega) (by omega)];omega
   refine aS.round aF (lit:=false) ?_
   conv=>whnf
   rw [decide_eq_true (by omega)]
   conv=>whnf
   refine⟨m,rfl,by omega,?_⟩
   conv=>whnf
   refine ak (v:=.s c) (aj (T:=eG) rfl rfl ho (by simp [hc])) ?_
   conv=>whnf
   refine ay.to (Gv t c n n rfl σ hn ht (hw c (List.mem_of_getElem? hc))) ?_
   conv=>whnf
   cases h:c.isPrefixOf (t.drop n) with
   | true=>
     conv=>whnf
     refine⟨m,rfl,by omega,?_⟩
     conv=>whnf
     refine ak (v:=.s c) (aj (T:=eG) rfl rfl ho (by simp [hc])) ?_
     conv=>whnf
     obtain⟨e,he⟩:=hr
     refine ak (dV (T:=fE) rfl he rfl rfl (by decide)) ?_
     conv=>whnf
     exact h2 c (by rw [hdr];simp [h]) _ e he rfl rfl
   | false=>
     conv=>whnf
     refine⟨_,hw1,?_⟩
     conv=>whnf
     have e1:(l.drop m).find? (·.isPrefixOf (t.drop n))=(l.drop (m+1)).find? (·.isPrefixOf (t.drop n)):=by
        rw [hdr,List.find?_cons];simp [h]
     exact ih (m+1) (by omega) (by rw [←e1];exact h1) (by rw [←e1];exact h2)
theorem aal (t:List UInt8)(n:Nat)(ht:t.length≤100000)(r:Nat)(σ:St)(Q:Out→Env→St→Prop):∀(k m:Nat),n+m+k=t.length→
 (∀e',get e' 0= .s t→get e' 1= .i .i64 n→get e' 4= .p r 0 0→get e' 7= .i .i64 ((m+run isWord (t.drop (n+m)):Nat):Int)→get e' 1000000= .u→Q (.exit 0) e' σ)→
 aS X [0,1,4,7] Y5 [(0,.s t),(1,.i .i64 n),(4,.p r 0 0),(7,.i .i64 m)] σ Q:=by
 intro k
 induction k with
 | zero=>
   intro m hm hq
   have hw:IntKind.i64.wrap ((n:Int)+m)=n+m:=wrap_i64 (by omega) (by omega)
   refine aS.round aF (lit:=false) ?_
   conv=>whnf
   refine⟨_,hw,?_⟩
   conv=>whnf
   rw [decide_eq_false (by omega)]
   conv=>whnf
   refine hq _ rfl rfl rfl ?_ rfl
   rw [List.drop_of_length_le (by omega)]
   rfl
 | succ k ih=>
   intro m hm hq
   have hw:IntKind.i64.wrap ((n:Int)+m)=n+m:=wrap_i64 (by omega) (by omega)
   have hw1:IntKind.i64.wrap ((m:Int)+1)=(m+1:Nat):=by rw [wrap_i64 (by omega) (by omega)];omega
   obtain⟨c,hc⟩:∃c,t[n+m]? =some c:=⟨_,List.getElem?_eq_getElem (by omega)⟩
   have hd:=drop_cons hc
   refine aS.round aF (lit:=false) ?_
   conv=>whnf
   refine⟨_,hw,?_⟩
   conv=>whnf
   rw [decide_eq_true (by omega)]
   conv=>whnf
   refine⟨_,hw,?_⟩
   conv=>whnf
   refine⟨n+m,c,by omega,hc,?_⟩
   conv=>whnf
   refine ay.to (uQ c.toNat σ) ?_
   conv=>whnf
   cases hl:bQ c.toNat with
   | true=>
     conv=>whnf
     refine⟨_,hw1,?_⟩
     conv=>whnf
     refine ih (m+1) (by omega) ?_
     have e1:run isWord (t.drop (n+m))=run isWord (t.drop (n+(m+1)))+1:=by rw [hd];simp [run,isWord,hl];rfl
     rw [show m+1+run isWord (t.drop (n+(m+1)))=m+run isWord (t.drop (n+m)) by omega]
     exact hq
   | false=>
     conv=>whnf
     refine⟨_,hw,?_⟩
     conv=>whnf
     refine⟨n+m,c,by omega,hc,?_⟩
     conv=>whnf
     refine ay.to (Ee c.toNat σ) ?_
     conv=>whnf
     cases hg:isDigit c.toNat with
     | true=>
       conv=>whnf
       refine⟨_,hw1,?_⟩
       conv=>whnf
       refine ih (m+1) (by omega) ?_
       have e1:run isWord (t.drop (n+m))=run isWord (t.drop (n+(m+1)))+1:=by rw [hd];simp [run,isWord,hl,hg];rfl
       rw [show m+1+run isWord (t.drop (n+(m+1)))=m+run isWord (t.drop (n+m)) by omega]
       exact hq
     | false=>
       conv=>whnf
       refine hq _ rfl rfl rfl ?_ rfl
       have e1:run isWord (t.drop (n+m))=0:=by rw [hd];simp [run,isWord,hl,hg]
       rw [e1];rfl
theorem aam (t:List UInt8)(n:Nat)(b:Int)(ht:t.length≤100000)(r:Nat)(σ:St)(Q:Out→Env→St→Prop):∀(k m:Nat),n+m+k=t.length→
 (∀e',get e' 0= .s t→get e' 1= .i .i64 n→get e' 4= .p r 0 0→get e' 6= .i .u8 b→get e' 7= .i .i64 ((m+run isDigit (t.drop (n+m)):Nat):Int)→get e' 1000000= .u→Q (.exit 2) e' σ)→
 aS X [0,1,4,6,7] Y6 [(0,.s t),(1,.i .i64 n),(4,.p r 0 0),(6,.i .u8 b),(7,.i .i64 m)] σ Q:=by
 intro k
 induction k with
 | zero=>
   intro m hm hq
   have hw:IntKind.i64.wrap ((n:Int)+m)=n+m:=wrap_i64 (by omega) (by omega)
   refine aS.round aF (lit:=false) ?_
   conv=>whnf
   refine⟨_,hw,?_⟩
   conv=>whnf
   rw [decide_eq_false (by omega)]
   conv=>whnf
   refine hq _ rfl rfl rfl rfl ?_ rfl
   rw [List.drop_of_length_le (by omega)]
   rfl
 | succ k ih=>
   intro m hm hq
   have hw:IntKind.i64.wrap ((n:Int)+m)=n+m:=wrap_i64 (by omega) (by omega)
   have hw1:IntKind.i64.wrap ((m:Int)+1)=(m+1:Nat):=by rw [wrap_i64 (by omega) (by omega)];omega
   obtain⟨c,hc⟩:∃c,t[n+m]? =some c:=⟨_,List.getElem?_eq_getElem (by omega)⟩
   have hd:=drop_cons hc
   refine aS.round aF (lit:=false) ?_
   conv=>whnf
   refine⟨_,hw,?_⟩
   conv=>whnf
   rw [decide_eq_true (by omega)]
   conv=>whnf
   refine⟨_,hw,?_⟩
   conv=>whnf
   refine⟨n+m,c,by omega,hc,?_⟩
   conv=>whnf
   refine ay.to (Ee c.toNat σ) ?_
   conv=>whnf
   cases hg:isDigit c.toNat with
   | true=>
     conv=>whnf
     refine⟨_,hw1,?_⟩
     conv=>whnf
     refine ih (m+1) (by omega) ?_
     have e1:run isDigit (t.drop (n+m))=run isDigit (t.drop (n+(m+1)))+1:=by rw [hd];simp [run,hg];rfl
     rw [show m+1+run isDigit (t.drop (n+(m+1)))=m+run isDigit (t.drop (n+m)) by omega]
     exact hq
   | false=>
     conv=>whnf
     refine hq _ rfl rfl rfl rfl ?_ rfl
     have e1:run isDigit (t.drop (n+m))=0:=by rw [hd];simp [run,hg]
     rw [e1];rfl
end Go.bG.YtjcicgkencfbgaaGreatDoor
namespace Go.bG.YtjcicgkencfbgaaGreatDoor
open Go.Proofs
set_option maxRecDepth 4000
theorem qh:∀(l:List UInt8) (c:UInt8),(0≤Lib.indexByte l c)↔c∈l
 | [],c=>by simp [Lib.indexByte]
 | b :: l,c=>by
   have ih:=qh l c
   have hg:=Lib.indexByte_ge l c
   unfold Lib.indexByte
   by_cases h:b=c
   ·simp [h]
   ·have h':(b == c)=false:=by simpa using h
    rw [h']
    simp only [Bool.false_eq_true,if_false,List.mem_cons]
    have hne:¬c=b:=fun e=>h e.symm
    simp only [hne,false_or]
    by_cases h2:Lib.indexByte l c= -1
    ·simp only [h2,beq_self_eq_true,if_true]
     rw [←ih,h2]
    ·have h3:(Lib.indexByte l c == -1)=false:=by simpa using h2
     rw [h3]
     simp only [Bool.false_eq_true,if_false]
     rw [←ih]
     omega
theorem Qn (c:UInt8):(IntKind.u8.wrap (c.toNat:Int)).toNat.toUInt8=c:=by
 rw [wrap_u8 (by omega) (by have:=c.toNat_lt;omega)]
 simp
theorem Qo (c:UInt8):rD c.toNat=ones.contains c:=by
 unfold rD
 rw [Qn,Bool.eq_iff_iff]
 simp only [Bool.and_eq_true,decide_eq_true_eq,qh,List.contains_iff_mem]
 refine⟨fun h=>h.1,fun h=>⟨h,?_⟩⟩
 have:∀d∈ones,(d.toNat:Int)<128:=by decide
 exact this c h
theorem Gx (c:UInt8)(r:List UInt8):∀l:List UInt8,(l.map fun x=>[x]).find? (·.isPrefixOf (c :: r))=if l.contains c then some [c] else none
 | []=>rfl
 | x :: l=>by
   simp only [List.map_cons,List.find?_cons,List.isPrefixOf,List.contains_cons]
   by_cases h:x=c
   ·subst h;simp
   ·have h1:(x == c)=false:=by simpa using h
    have h2:(c == x)=false:=by simpa using fun e=>h e.symm
    simp only [h1,h2,Bool.false_and,Bool.false_or]
    exact Gx c r l
theorem Qp (c d:UInt8)(r:List UInt8)(l:List (List UInt8))(hl:∀w∈l,w.length=2):l.find? (·.isPrefixOf (c :: d :: r))=if l.contains [c,d] then some [c,d] else none:=by
 induction l with
 | nil=>rfl
 | cons w l ih=>
   have ih:=ih fun w hw=>hl w (List.mem_cons_of_mem _ hw)
   have h2:=hl w (List.mem_cons_self ..)
   match w,h2 with
   | [a,b],_=>
     rw [List.find?_cons,List.contains_cons,ih]
     by_cases h:a=c∧b=d
     ·obtain⟨rfl,rfl⟩:=h;simp [List.isPrefixOf]
     ·have h1:([a,b].isPrefixOf (c :: d :: r))=false:=by
        simp only [List.isPrefixOf,Bool.and_true,Bool.and_eq_false_iff,beq_eq_false_iff_ne]
        by_cases h3:a=c
        ·exact .inr fun h4=>h ⟨h3,h4⟩
        ·exact .inl h3
      have h2:([c,d] == [a,b])=false:=by
        rw [beq_eq_false_iff_ne];intro e;cases e;exact h ⟨rfl,rfl⟩
      rw [h1,h2,Bool.false_or]
theorem Qq (c:UInt8)(r:List UInt8)(hb:dR (c :: r)=0)(h1:bQ c.toNat=false)(h2:isDigit c.toNat=false) :
 step (c :: r)=match signs.find? (·.isPrefixOf (c :: r)) with | some w=>.tok 3 w.length | none=>.err 9:=by
 have hbl:dD c.toNat=false:=by
  cases h:dD c.toNat with
  | false=>rfl
  | true=>simp [dR,h] at hb
 have hr: [47,47].isPrefixOf (c :: r)=false:=by
  cases h: [47,47].isPrefixOf (c :: r) with
  | false=>rfl
  | true=>
    have hc:c=47:=by simp [List.isPrefixOf] at h;exact h.1.symm
    subst hc
    simp only [dR,hbl,h,Bool.false_eq_true,if_false,if_true] at hb
    have:=lY (p:=(· != 10)) r (c:=47) (by decide)
    omega
 have hs:signs.find? (·.isPrefixOf (c :: r))=(lM.find? (·.isPrefixOf (c :: r))).or (if ones.contains c then some [c] else none):=by
  rw [←Gx c r ones]
  exact List.find?_append
 unfold step
 rw [hr,hs]
 simp only [hbl,h1,h2,Bool.false_eq_true,if_false,Qo]
 cases r with
 | nil=>
   have e1:lM.find? (·.isPrefixOf [c])=none:=by simp [lM,List.isPrefixOf]
   have e2:lM.contains ([c].take 2)=false:=by
    have:∀w∈lM,w.length=2:=by decide
    cases h:lM.contains ([c].take 2) with
    | false=>rfl
    | true=>have:=this _ (List.contains_iff_mem.1 h);simp at this
   rw [e1,e2]
   by_cases h:ones.contains c=true
   ·rw [h];rfl
   ·have h:ones.contains c=false:=by simpa using h
    rw [h];rfl
 | cons d r=>
   rw [Qp c d r lM (by decide)]
   have e0:(c :: d :: r).take 2=[c,d]:=rfl
   rw [e0]
   by_cases h:lM.contains [c,d]=true
   ·have hc:ones.contains c=true:=by
        have:∀w∈lM,∀a∈w.head?,ones.contains a=true:=by decide
        exact this _ (List.contains_iff_mem.1 h) c rfl
    rw [if_pos hc,if_pos h,if_pos h];rfl
   ·rw [if_neg h,if_neg h]
    by_cases h:ones.contains c=true
    ·rw [if_pos h,if_pos h];rfl
    ·rw [if_neg h,if_neg h];rfl
theorem Ef:∀(l:List UInt8) (v:Nat),(∀c∈l,isDigit c.toNat=true)→v<4294967296→(match Lib.parseUintM 4294967295 v l with | .ok _=>false | _=>true)= !jQ v l
 | [],v,_,_=>by simp [Lib.parseUintM,jQ]
 | c :: r,v,hd,hv=>by
   have h1:=hd c (List.mem_cons_self ..)
   simp only [isDigit,Bool.and_eq_true,decide_eq_true_eq] at h1
   unfold Lib.parseUintM jQ
   rw [if_pos (by omega),if_neg (by omega)]
   by_cases h:4294967296≤10*v+(c.toNat - 48)
   ·rw [if_pos (by omega),if_pos h];rfl
   ·rw [if_neg (by omega),if_neg h,show v*10+(c.toNat - 48)=10*v+(c.toNat - 48) by omega]
    exact Ef r _ (fun c hc=>hd c (List.mem_cons_of_mem _ hc)) (by omega)
theorem Eh {l:List UInt8} (hd:∀c∈l,isDigit c.toNat=true)(hn:l≠[]):tooBig l= !jQ 0 l:=by
 unfold tooBig Lib.parseUintB
 rw [if_neg hn]
 exact Ef l 0 hd (by omega)
theorem yK (p:Int→Bool):∀(l:List UInt8),∀c∈l.take (run p l),p c.toNat=true
 | [],c,h=>by simp at h
 | b :: l,c,h=>by
   unfold run at h
   split at h
   ·rename_i hb
    simp only [List.take_succ_cons,List.mem_cons] at h
    rcases h with rfl | h
    ·exact hb
    ·exact yK p l c h
   ·simp at h
def gI (k:Int)(s:List UInt8)(l:Int):List AV:=[.i .i64 k,.s s,.i .i64 l]
def Zn (u:List UInt8):Stp→AV
 | .tok k m=>.tu [.ag (gI k (u.take m) 0),.i .i64 0]
 | .err e=>.tu [.ag (gI 0 [] 0),.i .i64 e]
 | .skip _ _=>.u
theorem O5 (p:Int→Bool)(t:List UInt8)(n m:Nat)(c:UInt8)(h:t[n+m]? =some c):decide (0<run p (t.drop (n+m)))=p c.toNat:=by
 rw [drop_cons h]
 cases hp:p c.toNat with
 | true=>simp [run,hp]
 | false=>simp [run,hp]
theorem Yg (t:List UInt8)(n:Nat)(j:Int)(hj:j=n)(ht:t.length≤100000)(hn:n<t.length)(hb:dR (t.drop n)=0)(σ:St) :
 ay X 40 [.s t,.i .i64 j] σ fun v s=>v=Zn (t.drop n) (step (t.drop n))∧s=σ:=by
 subst hj
 obtain⟨c,hc⟩:∃c,t[n]? =some c:=⟨_,List.getElem?_eq_getElem hn⟩
 have hd:=drop_cons hc
 have hfl:∀(e:Nat) (cs cs':List AV),((au e cs σ).set σ.length ⟨0,false,.cells e cs'⟩).take σ.length=σ:=by
  intro e cs cs';rw [List.take_set_of_le (Nat.le_refl _),nU _ _ _ _ (Nat.le_refl _),List.take_length]
 have hbl:dD c.toNat=false:=by
  cases h:dD c.toNat with
  | false=>rfl
  | true=>rw [hd] at hb;simp [dR,h] at hb
 have hr: [47,47].isPrefixOf (t.drop n)=false:=by
  cases h: [47,47].isPrefixOf (t.drop n) with
  | false=>rfl
  | true=>
    rw [hd] at h hb
    have hc:c=47:=by simp [List.isPrefixOf] at h;exact h.1.symm
    subst hc
    simp only [dR,hbl,h,Bool.false_eq_true,if_false,if_true] at hb
    have:=lY (p:=(· != 10)) (t.drop (n+1)) (c:=47) (by decide)
    omega
 refine ay.body (F:=F40) aF (lit:=false) rfl rfl (Nat.le_of_ble_eq_true rfl) ?_
 conv=>whnf
 refine⟨n,c,rfl,hc,?_⟩
 conv=>whnf
 refine ay.to (uQ c.toNat _) ?_
 conv=>whnf
 cases hl:bQ c.toNat with
 | true=>
   have hrl:=nX isWord (t.drop n)
   simp only [List.length_drop] at hrl
   have hstep:step (t.drop n)=if 32<run isWord (t.drop n) then .err 9 else if keys.contains ((t.drop n).take (run isWord (t.drop n))) then .tok 4 (run isWord (t.drop n)) else .tok 1 (run isWord (t.drop n)):=by
    unfold step
    rw [hr,hd]
    simp only [hbl,hl,Bool.false_eq_true,if_false,if_true]
   conv=>whnf
   refine aal t n ht _ _ _ (t.length - n) 0 (by omega) fun e' h0 h1 h4 h7 h9=>?_
   rw [Nat.add_zero,Nat.zero_add] at h7
   conv=>whnf
   rw [h9];conv=>whnf
   rw [h0];conv=>whnf
   rw [h1];conv=>whnf
   rw [h4];conv=>whnf
   rw [h7];conv=>whnf
   refine⟨_,wrap_i64 (n:=(n:Int)+run isWord (t.drop n)) (by omega) (by omega),?_⟩
   conv=>whnf
   refine⟨n,n+run isWord (t.drop n),rfl,by omega,by omega,by omega,?_⟩
   have e0:n+run isWord (t.drop n) - n=run isWord (t.drop n):=by omega
   rw [e0]
   conv=>whnf
   by_cases h32:32<run isWord (t.drop n)
   ·rw [decide_eq_true (by omega)]
    conv=>whnf
    refine ak (dV (T:=fE) rfl (aG _ _ _) rfl rfl (by decide)) ?_
    conv=>whnf
    refine ak (bV (T:=fE) rfl rfl (ah (h_ _ (by rw [aH];omega))) (Nat.le_of_ble_eq_true rfl)) ?_
    conv=>whnf
    refine Fin.flat rfl (hfl _ _ _) ⟨?_,rfl⟩
    rw [hstep,if_pos h32];rfl
   ·rw [decide_eq_false (by omega)]
    conv=>whnf
    refine ay.to (aak _ _) ?_
    conv=>whnf
    cases hk:keys.contains ((t.drop n).take (run isWord (t.drop n))) with
    | true=>
      conv=>whnf
      refine ak (dV (T:=fE) rfl (aG _ _ _) rfl rfl (by decide)) ?_
      conv=>whnf
      refine ak (bV (T:=fE) rfl rfl (ah (h_ _ (by rw [aH];omega))) (Nat.le_of_ble_eq_true rfl)) ?_
      conv=>whnf
      refine Fin.flat rfl (hfl _ _ _) ⟨?_,rfl⟩
      rw [hstep,if_neg h32,if_pos hk];rfl
    | false=>
      conv=>whnf
      refine ak (dV (T:=fE) rfl (aG _ _ _) rfl rfl (by decide)) ?_
      conv=>whnf
      refine ak (bV (T:=fE) rfl rfl (ah (h_ _ (by rw [aH];omega))) (Nat.le_of_ble_eq_true rfl)) ?_
      conv=>whnf
      refine Fin.flat rfl (hfl _ _ _) ⟨?_,rfl⟩
      rw [hstep,if_neg h32,if_neg (by rw [hk];exact Bool.false_ne_true)];rfl
 | false=>
   conv=>whnf
   refine ay.to (Ee c.toNat _) ?_
   conv=>whnf
   cases hg:isDigit c.toNat with
   | true=>
     have hrl:=nX isDigit (t.drop n)
     simp only [List.length_drop] at hrl
     have hstep:step (t.drop n)=if(c.toNat=48∧1<run isDigit (t.drop n))∨0<run bQ ((t.drop n).drop (run isDigit (t.drop n))) then .err 9
        else if tooBig ((t.drop n).take (run isDigit (t.drop n))) then .err 3 else .tok 2 (run isDigit (t.drop n)):=by
        unfold step
        rw [hr,hd]
        simp only [hbl,hl,hg,Bool.false_eq_true,if_false,if_true]
     have hpos:0<run isDigit (t.drop n):=by rw [hd];exact lY _ hg
     have hall:=yK isDigit (t.drop n)
     have hbig:=Eh hall (by rw [hd];intro e;have:=congrArg List.length e;simp [List.length_take] at this;rw [←hd] at this;omega)
     conv=>whnf
     refine aam t n _ ht _ _ _ (t.length - n) 0 (by omega) fun e' h0 h1 h4 h6 h7 h9=>?_
     rw [Nat.add_zero,Nat.zero_add] at h7
     generalize hm:run isDigit (t.drop n)=m at *
     conv=>whnf
     rw [h0];conv=>whnf
     rw [h1];conv=>whnf
     rw [h4];conv=>whnf
     rw [h6];conv=>whnf
     rw [h7];conv=>whnf
     refine⟨_,wrap_i64 (n:=(n:Int)+m) (by omega) (by omega),?_⟩
     conv=>whnf
     refine⟨n,n+m,rfl,by omega,by omega,by omega,?_⟩
     have e0:n+m - n=m:=by omega
     rw [e0]
     have hbad:(c.toNat=48∧1<m)∨0<run bQ ((t.drop n).drop m)→step (t.drop n)= .err 9:=fun h=>by rw [hstep,if_pos h]
     have hgood:¬((c.toNat=48∧1<m)∨0<run bQ ((t.drop n).drop m))→step (t.drop n)=if jQ 0 ((t.drop n).take m) then .tok 2 m else .err 3:=fun h=>by
        rw [hstep,if_neg h,hbig]
        cases jQ 0 ((t.drop n).take m) <;> rfl
     conv=>whnf
     by_cases hA:1<m
     ·rw [decide_eq_true (show (1:Int)<m by omega)]
      conv=>whnf
      by_cases hB:c.toNat=48
      ·rw [decide_eq_true (show (c.toNat:Int)=48 by omega)]
       conv=>whnf
       refine ak (dV (T:=fE) rfl (aG _ _ _) rfl rfl (by decide)) ?_
       conv=>whnf
       refine ak (bV (T:=fE) rfl rfl (ah (h_ _ (by rw [aH];omega))) (Nat.le_of_ble_eq_true rfl)) ?_
       conv=>whnf
       refine Fin.flat rfl (hfl _ _ _) ⟨?_,rfl⟩
       rw [hbad (.inl ⟨hB,hA⟩)];rfl
      ·rw [decide_eq_false (show ¬(c.toNat:Int)=48 by omega)]
       have NAB:¬(c.toNat=48∧1<m):=fun h=>hB h.1
       conv=>whnf
       refine⟨_,wrap_i64 (n:=(n:Int)+m) (by omega) (by omega),?_⟩
       conv=>whnf
       by_cases hlen:n+m<t.length
       ·rw [decide_eq_true (by omega)]
        obtain⟨d,hdd⟩:∃d,t[n+m]? =some d:=⟨_,List.getElem?_eq_getElem hlen⟩
        have hrun:=O5 bQ t n m d hdd
        rw [←List.drop_drop] at hrun
        conv=>whnf
        refine⟨_,wrap_i64 (n:=(n:Int)+m) (by omega) (by omega),?_⟩
        conv=>whnf
        refine⟨n+m,d,by omega,hdd,?_⟩
        conv=>whnf
        refine ay.to (uQ d.toNat _) ?_
        conv=>whnf
        cases hlet:bQ d.toNat with
        | true=>
          rw [hlet] at hrun
          conv=>whnf
          refine ak (dV (T:=fE) rfl (aG _ _ _) rfl rfl (by decide)) ?_
          conv=>whnf
          refine ak (bV (T:=fE) rfl rfl (ah (h_ _ (by rw [aH];omega))) (Nat.le_of_ble_eq_true rfl)) ?_
          conv=>whnf
          refine Fin.flat rfl (hfl _ _ _) ⟨?_,rfl⟩
          rw [hbad (.inr (of_decide_eq_true hrun))];rfl
        | false=>
          rw [hlet] at hrun
          have hrun:=of_decide_eq_false hrun
          have HG:=not_or.2 ⟨NAB,hrun⟩
          conv=>whnf
          refine ay.to (uS _ hall (by simp [List.length_take];omega) _) ?_
          conv=>whnf
          cases hk:jQ 0 ((t.drop n).take m) with
          | true=>
            conv=>whnf
            refine ak (dV (T:=fE) rfl (aG _ _ _) rfl rfl (by decide)) ?_
            conv=>whnf
            refine ak (bV (T:=fE) rfl rfl (ah (h_ _ (by rw [aH];omega))) (Nat.le_of_ble_eq_true rfl)) ?_
            conv=>whnf
            refine Fin.flat rfl (hfl _ _ _) ⟨?_,rfl⟩
            rw [hgood HG,if_pos hk];rfl
          | false=>
            conv=>whnf
            refine ak (dV (T:=fE) rfl (aG _ _ _) rfl rfl (by decide)) ?_
            conv=>whnf
            refine ak (bV (T:=fE) rfl rfl (ah (h_ _ (by rw [aH];omega))) (Nat.le_of_ble_eq_true rfl)) ?_
            conv=>whnf
            refine Fin.flat rfl (hfl _ _ _) ⟨?_,rfl⟩
            rw [hgood HG,if_neg (by rw [hk];exact Bool.false_ne_true)];rfl
       ·rw [decide_eq_false (by omega)]
        have hrun:¬0<run bQ ((t.drop n).drop m):=by rw [List.drop_of_length_le (by simp;omega)];simp [run]
        have HG:=not_or.2 ⟨NAB,hrun⟩
        conv=>whnf
        refine ay.to (uS _ hall (by simp [List.length_take];omega) _) ?_
        conv=>whnf
        cases hk:jQ 0 ((t.drop n).take m) with
        | true=>
          conv=>whnf
          refine ak (dV (T:=fE) rfl (aG _ _ _) rfl rfl (by decide)) ?_
          conv=>whnf
          refine ak (bV (T:=fE) rfl rfl (ah (h_ _ (by rw [aH];omega))) (Nat.le_of_ble_eq_true rfl)) ?_
          conv=>whnf
          refine Fin.flat rfl (hfl _ _ _) ⟨?_,rfl⟩
          rw [hgood HG,if_pos hk];rfl
        | false=>
          conv=>whnf
          refine ak (dV (T:=fE) rfl (aG _ _ _) rfl rfl (by decide)) ?_
          conv=>whnf
          refine ak (bV (T:=fE) rfl rfl (ah (h_ _ (by rw [aH];omega))) (Nat.le_of_ble_eq_true rfl)) ?_
          conv=>whnf
          refine Fin.flat rfl (hfl _ _ _) ⟨?_,rfl⟩
          rw [hgood HG,if_neg (by rw [hk];exact Bool.false_ne_true)];rfl
     ·rw [decide_eq_false (show ¬(1:Int)<m by omega)]
      have NAB:¬(c.toNat=48∧1<m):=fun h=>hA h.2
      conv=>whnf
      refine⟨_,wrap_i64 (n:=(n:Int)+m) (by omega) (by omega),?_⟩
      conv=>whnf
      by_cases hlen:n+m<t.length
      ·rw [decide_eq_true (by omega)]
       obtain⟨d,hdd⟩:∃d,t[n+m]? =some d:=⟨_,List.getElem?_eq_getElem hlen⟩
       have hrun:=O5 bQ t n m d hdd
       rw [←List.drop_drop] at hrun
       conv=>whnf
       refine⟨_,wrap_i64 (n:=(n:Int)+m) (by omega) (by omega),?_⟩
       conv=>whnf
       refine⟨n+m,d,by omega,hdd,?_⟩
       conv=>whnf
       refine ay.to (uQ d.toNat _) ?_
       conv=>whnf
       cases hlet:bQ d.toNat with
       | true=>
         rw [hlet] at hrun
         conv=>whnf
         refine ak (dV (T:=fE) rfl (aG _ _ _) rfl rfl (by decide)) ?_
         conv=>whnf
         refine ak (bV (T:=fE) rfl rfl (ah (h_ _ (by rw [aH];omega))) (Nat.le_of_ble_eq_true rfl)) ?_
         conv=>whnf
         refine Fin.flat rfl (hfl _ _ _) ⟨?_,rfl⟩
         rw [hbad (.inr (of_decide_eq_true hrun))];rfl
       | false=>
         rw [hlet] at hrun
         have hrun:=of_decide_eq_false hrun
         have HG:=not_or.2 ⟨NAB,hrun⟩
         conv=>whnf
         refine ay.to (uS _ hall (by simp [List.length_take];omega) _) ?_
         conv=>whnf
         cases hk:jQ 0 ((t.drop n).take m) with
         | true=>
           conv=>whnf
           refine ak (dV (T:=fE) rfl (aG _ _ _) rfl rfl (by decide)) ?_
           conv=>whnf
           refine ak (bV (T:=fE) rfl rfl (ah (h_ _ (by rw [aH];omega))) (Nat.le_of_ble_eq_true rfl)) ?_
           conv=>whnf
           refine Fin.flat rfl (hfl _ _ _) ⟨?_,rfl⟩
           rw [hgood HG,if_pos hk];rfl
         | false=>
           conv=>whnf
           refine ak (dV (T:=fE) rfl (aG _ _ _) rfl rfl (by decide)) ?_
           conv=>whnf
           refine ak (bV (T:=fE) rfl rfl (ah (h_ _ (by rw [aH];omega))) (Nat.le_of_ble_eq_true rfl)) ?_
           conv=>whnf
           refine Fin.flat rfl (hfl _ _ _) ⟨?_,rfl⟩
           rw [hgood HG,if_neg (by rw [hk];exact Bool.false_ne_true)];rfl
      ·rw [decide_eq_false (by omega)]
       have hrun:¬0<run bQ ((t.drop n).drop m):=by rw [List.drop_of_length_le (by simp;omega)];simp [run]
       have HG:=not_or.2 ⟨NAB,hrun⟩
       conv=>whnf
       refine ay.to (uS _ hall (by simp [List.length_take];omega) _) ?_
       conv=>whnf
       cases hk:jQ 0 ((t.drop n).take m) with
       | true=>
         conv=>whnf
         refine ak (dV (T:=fE) rfl (aG _ _ _) rfl rfl (by decide)) ?_
         conv=>whnf
         refine ak (bV (T:=fE) rfl rfl (ah (h_ _ (by rw [aH];omega))) (Nat.le_of_ble_eq_true rfl)) ?_
         conv=>whnf
         refine Fin.flat rfl (hfl _ _ _) ⟨?_,rfl⟩
         rw [hgood HG,if_pos hk];rfl
       | false=>
         conv=>whnf
         refine ak (dV (T:=fE) rfl (aG _ _ _) rfl rfl (by decide)) ?_
         conv=>whnf
         refine ak (bV (T:=fE) rfl rfl (ah (h_ _ (by rw [aH];omega))) (Nat.le_of_ble_eq_true rfl)) ?_
         conv=>whnf
         refine Fin.flat rfl (hfl _ _ _) ⟨?_,rfl⟩
         rw [hgood HG,if_neg (by rw [hk];exact Bool.false_ne_true)];rfl
   | false=>
     have hss:step (t.drop n)=match signs.find? (·.isPrefixOf (t.drop n)) with | some w=>.tok 3 w.length | none=>.err 9:=by
        rw [hd] at hb ⊢;exact Qq c _ hb hl hg
     conv=>whnf
     refine UK _ _ ?_
     conv=>whnf
     refine Qm t n ht (by omega) σ.length _ _ signs _ (jm _ _ _) (by decide) (by decide) ⟨_,by rw [dn (by rw [aH];omega)];exact aG _ _ _⟩ _ 29 0 rfl (fun h e' h4=>?_) (fun w h e' e he h4 h5=>?_)
     ·conv=>whnf
      rw [h4]
      conv=>whnf
      refine ak (dV (T:=fE) rfl (by rw [dn (by rw [aH];omega)];exact aG _ _ _) rfl rfl (by decide)) ?_
      conv=>whnf
      refine ak (bV (T:=fE) rfl rfl (ah (h_ _ (by rw [aH,aH];omega))) (Nat.le_of_ble_eq_true rfl)) ?_
      conv=>whnf
      refine Fin.flat rfl ?_ ⟨?_,rfl⟩
      ·rw [List.take_set_of_le (Nat.le_refl _),nU _ _ _ _ (by rw [aH];omega),nU _ _ _ _ (Nat.le_refl _),List.take_length]
      ·rw [List.drop_zero] at h
       rw [hss,h];rfl
     ·conv=>whnf
      rw [h4]
      conv=>whnf
      refine ak (bV (T:=fE) rfl rfl (ah (h_ _ (by rw [aH,aH];omega))) (Nat.le_of_ble_eq_true rfl)) ?_
      conv=>whnf
      rw [h5]
      conv=>whnf
      refine Fin.flat rfl ?_ ⟨?_,rfl⟩
      ·rw [List.take_set_of_le (Nat.le_refl _),nU _ _ _ _ (by rw [aH];omega),nU _ _ _ _ (Nat.le_refl _),List.take_length]
      ·rw [List.drop_zero] at h
       rw [hss,h]
       have hw:=List.find?_some h
       have hw:=List.isPrefixOf_iff_prefix.1 hw
       rw [List.prefix_iff_eq_take] at hw
       simp only [Zn]
       rw [←hw];rfl
end Go.bG.YtjcicgkencfbgaaGreatDoor
namespace Go.bG.YtjcicgkencfbgaaGreatDoor
open Go.Proofs
set_option maxRecDepth 4000
def dX (l:List Tok):List AV:=l.flatMap fun t=>gI t.k t.s t.l
theorem lQ:∀l:List Tok,(dX l).length=l.length*3
 | []=>rfl
 | t :: l=>by have:=lQ l;simp only [dX,List.flatMap_cons,List.length_append,List.length_cons] at this ⊢;rw [this];simp [gI];omega
theorem Ah:∀l:List Tok,(dX l).all AV.one=true
 | []=>rfl
 | t :: l=>by have:=Ah l;simp only [dX,List.flatMap_cons,List.all_append] at this ⊢;rw [this];simp [gI,AV.one]
theorem Nw (l:List Tok)(t:Tok):dX (l ++ [t])=dX l ++ gI t.k t.s t.l:=by simp [dX,List.flatMap_append]
theorem Gy (l:List Tok):((dX l).drop 0).take (l.length*3)=dX l:=by rw [List.drop_zero,List.take_of_length_le (by rw [lQ];omega)]
def kU (A:Nat)(σ:St)(out:AV)(acc:List Tok):Prop:=(acc=[]∧out= .sl0)∨∃o g,A≤o∧out= .sl o g 0 acc.length 3∧σ[o]? =some ⟨g,false,.cells 38 (dX acc)⟩
theorem kU.new {A:Nat} {σ:St} {out:AV} {acc:List Tok} (h:kU A σ out acc)(e:Nat)(cs:List AV):kU A (au e cs σ) out acc:=by
 rcases h with h | ⟨o,g,h1,h2,h3⟩
 ·exact .inl h
 ·exact .inr ⟨o,g,h1,h2,at_new h3 e cs⟩
theorem kU.lt {A:Nat} {σ:St} {out:AV} {acc:List Tok} (h:kU A σ out acc) {i:Nat} (a:AO)(hi:i<A):kU A (σ.set i a) out acc:=by
 rcases h with h | ⟨o,g,h1,h2,h3⟩
 ·exact .inl h
 ·exact .inr ⟨o,g,h1,h2,aK h3 (by omega) a⟩
theorem kU.ge {A:Nat} {σ σ':St} {out:AV} {acc:List Tok} (h:kU A σ out acc)(he:Ext σ σ'):kU A σ' out acc:=by
 rcases h with h | ⟨o,g,h1,h2,h3⟩
 ·exact .inl h
 ·exact .inr ⟨o,g,h1,h2,he.get h3⟩
theorem kU.cases {A:Nat} {σ:St} {v:AV} {acc:List Tok} (h:kU A σ v acc):v= .sl0∨∃o g,v= .sl o g 0 acc.length 3:=by
 rcases h with ⟨_,rfl⟩ | ⟨o,g,_,rfl,_⟩
 ·exact .inl rfl
 ·exact .inr ⟨o,g,rfl⟩
theorem Cc {A:Nat} {σ:St} {out:AV} {acc:List Tok} (h:kU A σ out acc)(tk:Tok)(hl:acc.length≤100000) {C:Nat} (hC:σ[C]? =some ⟨0,false,.cells 38 (gI tk.k tk.s tk.l)⟩)(hA:A≤σ.length) {Q:AV→St→Prop}
 (q:∀out' σ',kU A σ' out' (acc ++ [tk])→(∀i,i<A→σ'[i]? =σ[i]?)→A≤σ'.length→(∀i,i<σ.length→(∀o g n z,out= .sl o g 0 n z→i≠o)→σ'[i]? =σ[i]?)→Q out' σ') :
 DX L_.get false 32 out (.sl C 0 0 1 3) σ Q:=by
 constructor
 refine ak (v:=oQ) rfl ?_
 refine ak (v:=fE) rfl ?_
 refine ak (kG hC (Nat.le_of_ble_eq_true rfl)) ?_
 rcases h with ⟨rfl,rfl⟩ | ⟨o,g,h1,rfl,h3⟩
 ·refine⟨Nat.le_of_ble_eq_true rfl,?_⟩
  refine q _ _ (.inr ⟨σ.length,0,hA,rfl,?_⟩) (fun i hi=>dn (by omega)) (by rw [aH];omega) (fun i hi _=>dn hi)
  rw [aG];rfl
 ·refine ak (qc h3) ?_
  refine⟨rfl,by rw [lQ];omega,?_,by rw [Gy];exact Ah acc,?_⟩
  ·show (acc.length+1)*32≤_;omega
  refine q _ _ (.inr ⟨o,g+1,h1,by simp,?_⟩) (fun i hi=>by rw [List.getElem?_set_ne (by omega)]) (by rw [List.length_set];exact hA) (fun i hi hne=>by rw [List.getElem?_set_ne (fun e=>hne o g _ _ rfl e.symm)])
  rw [at_set h3,Gy,Nw];rfl
theorem Ny (c:UInt8)(r:List UInt8)(h:0<dR (c :: r)):step (c :: r)= .skip (dR (c :: r)) (if c.toNat=10 then 1 else 0):=by
 unfold dR at h ⊢
 unfold step
 simp only at h ⊢
 split at h
 ·rename_i hb
  have hr: [47,47].isPrefixOf (c :: r)=false:=by
   cases hp: [47,47].isPrefixOf (c :: r) with
   | false=>rfl
   | true=>
     have hc:c=47:=by simp [List.isPrefixOf] at hp;exact hp.1.symm
     subst hc;simp [dD] at hb
  rw [hr];simp [hb]
 ·rename_i hb
  split at h
  ·rename_i hp
   have hc:c=47:=by simp [List.isPrefixOf] at hp;exact hp.1.symm
   rw [hp];subst hc;simp [dD]
  ·omega
theorem Qr (c:UInt8)(r:List UInt8)(h:dR (c :: r)=0):∀n nl,step (c :: r)≠.skip n nl:=by
 intro n nl
 have hbl:dD c.toNat=false:=by
  cases hb:dD c.toNat with
  | false=>rfl
  | true=>simp [dR,hb] at h
 have hr: [47,47].isPrefixOf (c :: r)=false:=by
  cases hp: [47,47].isPrefixOf (c :: r) with
  | false=>rfl
  | true=>
    have hc:c=47:=by simp [List.isPrefixOf] at hp;exact hp.1.symm
    subst hc
    simp only [dR,hbl,hp,Bool.false_eq_true,if_false,if_true] at h
    have:=lY (p:=(· != 10)) r (c:=47) (by decide)
    omega
 unfold step
 rw [hr]
 simp only [hbl,Bool.false_eq_true,if_false]
 repeat' split
 all_goals (intro e;cases e)
theorem Qs (t:List UInt8)(ht:t.length≤32768)(σ:St)(Q:Out→Env→St→Prop):∀(k n l:Nat) (acc:List Tok) (out:AV) (σ1:St),n≤t.length→t.length≤n+k→l≤n→acc.length≤n→Ext σ σ1→σ1[σ.length]? =some ⟨0,false,.cells 44 [.i .i64 0,.i .i64 0]⟩→kU (σ.length+1) σ1 out acc→
 (∀acc' l' e' σ' out',iE k (t.drop n) l acc= .done acc' l'→acc'.length≤t.length→Ext σ σ'→σ'[σ.length]? =some ⟨0,false,.cells 44 [.i .i64 0,.i .i64 0]⟩→kU (σ.length+1) σ' out' acc'→get e' 3= .p σ.length 0 0→get e' 4=out'→get e' 5= .i .i64 l'→Q (.exit 0) e' σ')→
 (∀e l' e' σ',iE k (t.drop n) l acc= .bad e l'→Ext σ σ'→σ'[σ.length]? =some ⟨0,false,.cells 44 [.i .i64 e,.i .i64 l']⟩→get e' 3= .p σ.length 0 0→get e' 2= .sl0→Q .ret e' σ')→
 aS X [0,3,4,5,6] Y0 [(0,.s t),(3,.p σ.length 0 0),(4,out),(5,.i .i64 l),(6,.i .i64 n)] σ1 Q:=by
 intro k
 induction k with
 | zero=>
   intro n l acc out σ1 hn hk hl hacc hx hf ho h1 h2
   have hd:t.drop n=[]:=List.drop_of_length_le (by omega)
   rcases ho.cases with rfl | ⟨o1,g1,rfl⟩
   all_goals
    refine aS.round aF (lit:=false) ?_
    conv=>whnf
    rw [decide_eq_false (by omega)]
    conv=>whnf
    exact h1 acc l _ σ1 _ (by rw [hd];rfl) (by omega) hx hf ho rfl rfl rfl
 | succ k ih=>
   intro n l acc out σ1 hn hk hl hacc hx hf ho h1 h2
   by_cases hlt:n<t.length
   ·obtain⟨c,hc⟩:∃c,t[n]? =some c:=⟨_,List.getElem?_eq_getElem hlt⟩
    have hd:=drop_cons hc
    have hfit:=jc c (t.drop (n+1))
    have hlen:=congrArg List.length hd
    simp only [List.length_drop,List.length_cons] at hlen
    have hG:iE (k+1) (t.drop n) l acc=match step (t.drop n) with
     | .skip k' nl=>iE k (t.drop (n+k')) (l+nl) acc
     | .tok kd m=>iE k (t.drop (n+m)) l (acc ++ [⟨kd,(t.drop n).take m,l⟩])
     | .err e=>.bad e l:=by
        rw [hd]
        simp only [iE]
        rw [←hd]
        cases step (t.drop n) <;> simp [List.drop_drop]
    rw [hG] at h1 h2
    rcases ho.cases with rfl | ⟨o1,g1,rfl⟩
    all_goals
        refine aS.round aF (lit:=false) ?_
        conv=>whnf
        rw [decide_eq_true (by omega)]
        conv=>whnf
        refine ay.to (UG t n n rfl (by omega) hlt σ1) ?_
        conv=>whnf
        by_cases hb:0<dR (t.drop n)
        ·have hs:=Ny c (t.drop (n+1)) (by rw [←hd];exact hb)
         rw [←hd] at hs hfit
         rw [hs] at h1 h2 hfit
         simp only [Stp.fits] at hfit h1 h2
         rw [decide_eq_true (by omega)]
         conv=>whnf
         refine⟨n,c,rfl,hc,?_⟩
         conv=>whnf
         have hlb:=hfit.2.1
         rw [List.length_drop] at hlb
         by_cases h10:c.toNat=10
         ·rw [decide_eq_true (show (c.toNat:Int)=10 by omega)]
          conv=>whnf
          refine⟨((l+1:Nat):Int),wrap_i64 (by omega) (by omega),?_⟩
          conv=>whnf
          refine⟨((n+dR (t.drop n):Nat):Int),wrap_i64 (by omega) (by omega),?_⟩
          conv=>whnf
          rw [if_pos h10] at h1 h2
          exact ih (n+dR (t.drop n)) (l+1) acc _ σ1 (by omega) (by omega) (by omega) (by omega) hx hf ho h1 h2
         ·rw [decide_eq_false (show ¬(c.toNat:Int)=10 by omega)]
          conv=>whnf
          refine⟨((n+dR (t.drop n):Nat):Int),wrap_i64 (by omega) (by omega),?_⟩
          conv=>whnf
          rw [if_neg h10] at h1 h2
          exact ih (n+dR (t.drop n)) l acc _ σ1 (by omega) (by omega) (by omega) (by omega) hx hf ho h1 h2
        ·have hb0:dR (t.drop n)=0:=by omega
         have hns:=Qr c (t.drop (n+1)) (by rw [←hd];exact hb0)
         rw [←hd] at hns hfit
         rw [decide_eq_false (by omega)]
         conv=>whnf
         refine ay.to (Yg t n n rfl (by omega) hlt hb0 σ1) ?_
         cases hs:step (t.drop n) with
         | skip a b=>exact(hns a b hs).elim
         | err e=>
           rw [hs] at h1 h2 hfit
           simp only [Stp.fits] at hfit
           conv=>whnf
           refine ak (dV (T:=fE) rfl (aG _ _ _) rfl rfl (by decide)) ?_
           conv=>whnf
           rw [decide_eq_false (by omega)]
           conv=>whnf
           refine ak (dV (T:=tC) rfl (aK (at_new hf _ _) (by have:=aX hf;omega) _) rfl rfl (by decide)) ?_
           conv=>whnf
           refine h2 e l _ _ rfl (((hx.new _ _).set (by have:=hx.len;omega) _).set (Nat.le_refl _) _) (at_set (aK (at_new hf _ _) (by have:=aX hf;omega) _) _) rfl rfl
         | tok kd m=>
           rw [hs] at h1 h2 hfit
           simp only [Stp.fits] at hfit
           have hlb:=hfit.2.1
           rw [List.length_drop] at hlb
           have hfl:=aX hf
           conv=>whnf
           refine ak (aC (T:=fE) (gI kd ((t.drop n).take m) 0) rfl (aG _ _ _) rfl rfl (by decide) rfl) ?_
           conv=>whnf
           have hB1:=at_set (aG 38 fE.zero.cells σ1) ⟨0,false,.cells 38 (gI kd ((t.drop n).take m) 0)⟩
           have hx1:=((Ext.refl σ1).new 38 fE.zero.cells).set (Nat.le_refl _) ⟨0,false,.cells 38 (gI kd ((t.drop n).take m) 0)⟩
           refine ak (aC (T:=dA) (gI kd ((t.drop n).take m) l) rfl hB1 rfl rfl (Nat.le_of_ble_eq_true rfl) rfl) ?_
           conv=>whnf
           have hB2:=at_set hB1 ⟨0,false,.cells 38 (gI kd ((t.drop n).take m) l)⟩
           have hx2:=hx1.set (Nat.le_refl _) ⟨0,false,.cells 38 (gI kd ((t.drop n).take m) l)⟩
           refine ak (bV (T:=fE) rfl rfl (ah hB2) (Nat.le_of_ble_eq_true rfl)) ?_
           conv=>whnf
           refine Cc (A:=σ.length+1) (tk:=⟨kd,(t.drop n).take m,l⟩) ((ho.ge hx2).new _ _) (by omega) (aG _ _ _) (by rw [aH];have:=hx2.len;omega) fun KG kZ Qu hk5 hl5 hn5=>?_
           have hx5:Ext σ kZ:=⟨by omega,fun i hi=>by rw [hk5 i (by omega)];exact((hx.trans hx2).new _ _).old i hi⟩
           have hf5:kZ[σ.length]? =some ⟨0,false,.cells 44 [.i .i64 0,.i .i64 0]⟩:=by rw [hk5 _ (by omega)];exact at_new (hx2.get hf) _ _
           have hB5:kZ[σ1.length]? =some ⟨0,false,.cells 38 (gI kd ((t.drop n).take m) l)⟩:=by
            rw [hn5 _ (by rw [aH];exact Nat.lt_succ_of_lt (aX hB2)) (fun o g n z e h=>?_)]
            ·exact at_new hB2 _ _
            ·rcases ho with ⟨_,e1⟩ | ⟨o',g',_,e1,e2⟩
             ·cases e1.symm.trans e
             ·cases e1.symm.trans e;have:=aX e2;omega
           rcases Qu.cases with rfl | ⟨o2,g2,rfl⟩
           all_goals
            conv=>whnf
            refine ak (v:=.s ((t.drop n).take m)) (aj (T:=eG) rfl rfl (ah hB5) rfl) ?_
            conv=>whnf
            refine⟨((n+m:Nat):Int),by rw [wrap_i64 (by simp only [List.length_take,List.length_drop];omega) (by simp only [List.length_take,List.length_drop];omega)];simp only [List.length_take,List.length_drop];omega,?_⟩
            conv=>whnf
            exact ih (n+m) l _ _ kZ (by omega) (by omega) (by omega) (by simp;omega) hx5 hf5 Qu h1 h2
   ·have hd:t.drop n=[]:=List.drop_of_length_le (by omega)
    rcases ho.cases with rfl | ⟨o1,g1,rfl⟩
    all_goals
        refine aS.round aF (lit:=false) ?_
        conv=>whnf
        rw [decide_eq_false (by omega)]
        conv=>whnf
        exact h1 acc l _ σ1 _ (by rw [hd];rfl) (by omega) hx hf ho rfl rfl rfl
theorem Yh (t:List UInt8)(σ:St)(Q:AV→St→Prop)
 (h1:∀l out σ',mG t= .toks l→l.length≤40000→Ext σ σ'→kU (σ.length+1) σ' out l→Q (.tu [out,.ag [.i .i64 0,.i .i64 0]]) σ')
 (h2:∀e l,mG t= .bad e l→Q (.tu [.sl0,.ag [.i .i64 e,.i .i64 l]]) σ):ay X 14 [.s t] σ Q:=by
 refine ay.body (F:=F14) aF (lit:=false) rfl rfl (Nat.le_of_ble_eq_true rfl) ?_
 conv=>whnf
 by_cases hl:32768<t.length
 ·rw [decide_eq_true (by omega)]
  conv=>whnf
  refine ak (aC (T:=tC) [.i .i64 3,.i .i64 0] rfl (aG _ _ _) rfl rfl (by decide) rfl) ?_
  conv=>whnf
  refine ak (bV (T:=tC) rfl rfl (ah (at_set (aG _ _ _) _)) (Nat.le_of_ble_eq_true rfl)) ?_
  conv=>whnf
  exact Fin.flat rfl (((Ext.refl σ).new _ _).set (Nat.le_refl _) _).take (h2 3 0 (by simp [mG,hl]))
 ·rw [decide_eq_false (by omega)]
  have hS:mG t=(iE t.length (t.drop 0) 0 []).fin:=by rw [List.drop_zero];simp [mG,hl]
  rw [hS] at h1 h2
  conv=>whnf
  refine Qs t (by omega) σ _ t.length 0 0 [] .sl0 _ (by omega) (by omega) (by omega) (by simp) ((Ext.refl σ).new _ _) (aG _ _ _) (.inl ⟨rfl,rfl⟩) (fun acc' l' e' σ' out' h hacc hx hf ho h3 h4 h5=>?_) (fun e l' e' σ' h hx hf h3 h2'=>?_)
  ·rw [h] at h1
   subst h4
   rcases ho.cases with h4 | ⟨o2,g2,h4⟩
   all_goals
        rw [h4] at ho
        conv=>whnf
        rw [h3];conv=>whnf
        rw [h4];conv=>whnf
        rw [h5];conv=>whnf
        refine Cc (A:=σ.length+1) (tk:=⟨5,[],l'⟩) (ho.new _ _) (by omega) (aG _ _ _) (by rw [aH];have:=aX hf;omega) fun KG kZ Qu hk5 hl5 _=>?_
        have hf5:kZ[σ.length]? =some ⟨0,false,.cells 44 [.i .i64 0,.i .i64 0]⟩:=by rw [hk5 _ (by omega)];exact at_new hf _ _
        have hx5:Ext σ kZ:=⟨by omega,fun i hi=>by rw [hk5 i (by omega)];exact(hx.new _ _).old i hi⟩
        have q1:=h1 _ KG (kZ.set σ.length ⟨0,false,.cells 44 [.i .i64 0,.i .i64 0]⟩) rfl (by simp;omega) (hx5.set (Nat.le_refl _) _) (Qu.lt _ (by omega))
        rcases Qu.cases with rfl | ⟨o3,g3,rfl⟩
        all_goals
         conv=>whnf
         refine ak (aC (T:=tC) [.i .i64 0,.i .i64 0] rfl hf5 rfl rfl (by decide) rfl) ?_
         conv=>whnf
         refine ak (bV (T:=tC) rfl rfl (ah (at_set hf5 _)) (Nat.le_of_ble_eq_true rfl)) ?_
         conv=>whnf
         first
            | exact Fin.ref rfl q1
            | (exfalso;rcases Qu with ⟨h6,_⟩ | ⟨o,g,_,h6,_⟩
               ·simp at h6
               ·cases h6)
  ·rw [h] at h2
   conv=>whnf
   rw [h2']
   conv=>whnf
   rw [h3]
   conv=>whnf
   refine ak (bV (T:=tC) rfl rfl (ah hf) (Nat.le_of_ble_eq_true rfl)) ?_
   conv=>whnf
   exact Fin.flat rfl hx.take (h2 e l' rfl)
end Go.bG.YtjcicgkencfbgaaGreatDoor
namespace Go.bG.YtjcicgkencfbgaaGreatDoor
open Go.Proofs
set_option maxRecDepth 4000
end Go.bG.YtjcicgkencfbgaaGreatDoor
namespace Go.bG.YtjcicgkencfbgaaGreatDoor
open Go.Proofs
set_option maxRecDepth 4000
end Go.bG.YtjcicgkencfbgaaGreatDoor
namespace Go.bG.YtjcicgkencfbgaaGreatDoor
open Go.Proofs
set_option maxRecDepth 4000
theorem jo {σ σ':St} (h:Ext σ σ')(hg:σ.take G0.length=G0):σ'.take G0.length=G0:=by
 have hl:G0.length≤σ.length:=by have:=congrArg List.length hg;rw [List.length_take] at this;omega
 apply List.ext_getElem?
 intro i
 rw [List.getElem?_take]
 split
 ·rename_i hi;rw [h.old i (by omega)];exact yG hg hi
 ·rename_i hi;exact(List.getElem?_eq_none (by omega)).symm
structure LS (σ σ1:St)(s:List UInt8)(l:Nat)(acc:List Tok):Prop where
 x:Ext σ σ1
 b:σ1[σ.length]? =some ⟨0,false,.cells 9 [.s s]⟩
 o:∃out,σ1[σ.length+1]? =some ⟨0,false,.cells 32 [out]⟩∧kU (σ.length+3) σ1 out acc
 n:σ1[σ.length+2]? =some ⟨0,false,.cells 3 [.i .i64 l]⟩
section
variable {σ σ1:St} {s:List UInt8} {l:Nat} {acc:List Tok}
theorem LS.new (h:LS σ σ1 s l acc)(e:Nat)(cs:List AV):LS σ (au e cs σ1) s l acc:=by
 obtain⟨out,h1,h2⟩:=h.o
 exact⟨h.x.new _ _,at_new h.b _ _,⟨out,at_new h1 _ _,h2.new _ _⟩,at_new h.n _ _⟩
theorem LS.one (h:LS σ σ1 s l acc)(e:Nat)(cs:List AV):LS σ (jK e cs σ1) s l acc:=by
 obtain⟨out,h1,h2⟩:=h.o
 exact⟨h.x.one _ _,uO h.b _ _,⟨out,uO h1 _ _,h2.ge ((Ext.refl _).one _ _)⟩,uO h.n _ _⟩
theorem LS.text (h:LS σ σ1 s l acc)(s':List UInt8):LS σ (σ1.set σ.length ⟨0,false,.cells 9 [.s s']⟩) s' l acc:=by
 obtain⟨out,h1,h2⟩:=h.o
 exact⟨h.x.set (Nat.le_refl _) _,at_set h.b _,⟨out,aK h1 (by omega) _,h2.lt _ (by omega)⟩,aK h.n (by omega) _⟩
theorem LS.line (h:LS σ σ1 s l acc)(l':Nat):LS σ (σ1.set (σ.length+2) ⟨0,false,.cells 3 [.i .i64 l']⟩) s l' acc:=by
 obtain⟨out,h1,h2⟩:=h.o
 exact⟨h.x.set (by omega) _,aK h.b (by omega) _,⟨out,aK h1 (by omega) _,h2.lt _ (by omega)⟩,at_set h.n _⟩
end
end Go.bG.YtjcicgkencfbgaaGreatDoor
namespace Go.bG.YtjcicgkencfbgaaGreatDoor
open Go.Proofs
set_option maxRecDepth 4000
end Go.bG.YtjcicgkencfbgaaGreatDoor
