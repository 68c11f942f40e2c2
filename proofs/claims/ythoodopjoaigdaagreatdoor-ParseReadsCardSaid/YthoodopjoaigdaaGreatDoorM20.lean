/- Texts of this claim, joined: FnA, FnB, FnC, FnD, FnE, FnF, FnG, FnH. -/
import Derived.Test.YthoodopjoaigdaaGreatDoorM19
set_option linter.unusedVariables false
set_option linter.unusedSimpArgs false
namespace Go.bP.YthoodopjoaigdaaGreatDoor
open Go.Proofs
set_option maxRecDepth 4000
theorem BU (c:Int)(σ:St):ay X 75 [.i .u8 c] σ fun v s=>v= .b (isDigit c)∧s=σ:=by
 refine ay.body (F:=F75) aH (lit:=false) rfl rfl (Nat.le_of_ble_eq_true rfl) ?_
 repeat' ((conv=>whnf);split)
 all_goals (conv=>whnf)
 all_goals exact Fin.flat rfl (List.take_length) ⟨by grind [isDigit],rfl⟩
theorem su (c:Int)(σ:St):ay X 74 [.i .u8 c] σ fun v s=>v= .b (bT c)∧s=σ:=by
 refine ay.body (F:=F74) aH (lit:=false) rfl rfl (Nat.le_of_ble_eq_true rfl) ?_
 repeat' ((conv=>whnf);split)
 all_goals (conv=>whnf)
 all_goals exact Fin.flat rfl (List.take_length) ⟨by grind [bT],rfl⟩
theorem Ej (t s:List UInt8)(n:Nat)(j:Int)(hj:j=n)(σ:St)(h1:n≤t.length)(h2:t.length≤100000)(h3:s.length≤10) :
 ay X 73 [.s t,.i .i64 j,.s s] σ fun v s'=>v= .b (s.isPrefixOf (t.drop n))∧s'= σ:=by
 subst hj
 have hw:IntKind.i64.wrap ((n:Int)+s.length)=n+s.length:=wrap_i64 (by omega) (by omega)
 refine ay.body (F:=F73) aH (lit:=false) rfl rfl (Nat.le_of_ble_eq_true rfl) ?_
 conv=>whnf
 refine⟨_,hw,?_⟩
 conv=>whnf
 split
 ·rename_i h
  have h:=of_decide_eq_true h
  have e1:s.isPrefixOf (t.drop n)=((t.drop n).take (n+s.length - n) == s):=by
   rw [Bool.eq_iff_iff,List.isPrefixOf_iff_prefix,List.prefix_iff_eq_take,beq_iff_eq,show n+s.length - n=s.length by omega]
   exact eq_comm
  rw [e1]
  conv=>whnf
  refine⟨_,hw,?_⟩
  conv=>whnf
  refine⟨n,n+s.length,rfl,by omega,by omega,by omega,?_⟩
  conv=>whnf
  split <;> (conv=>whnf)
  ·rename_i h4;exact Fin.flat rfl List.take_length ⟨by rw [h4],rfl⟩
  ·rename_i h4;exact Fin.flat rfl List.take_length ⟨by rw [h4],rfl⟩
 ·rename_i h
  have h:=of_decide_eq_false h
  have e1:s.isPrefixOf (t.drop n)=false:=by
   rw [Bool.eq_false_iff]
   intro hp
   have:=(List.isPrefixOf_iff_prefix.1 hp).length_le
   simp at this
   omega
  conv=>whnf
  exact Fin.flat rfl List.take_length ⟨by rw [e1],rfl⟩
def dM (u:List UInt8):Nat:=match u with
 | []=>0
 | c :: _=>if dP c.toNat then 1 else if [47,47].isPrefixOf u then run (· != 10) u else 0
theorem drop_cons {t:List UInt8} {n:Nat} {c:UInt8} (h:t[n]? =some c):t.drop n=c :: t.drop (n+1):=by
 obtain⟨hn,rfl⟩:=List.getElem?_eq_some_iff.1 h
 rw [←List.getElem_cons_drop hn]
theorem JY (t:List UInt8)(n:Nat)(ht:t.length≤100000)(σ:St)(Q:Out→Env→St→Prop):∀(k m:Nat),n+m+k=t.length→
 (∀e',get e' 6= .i .i64 ((m+run (· != 10) (t.drop (n+m)):Nat):Int)→Q (.exit 0) e' σ)→
 aW X [0,1,6] VY [(0,.s t),(1,.i .i64 n),(6,.i .i64 m)] σ Q:=by
 intro k
 induction k with
 | zero=>
   intro m hm hq
   have hw:IntKind.i64.wrap ((n:Int)+m)=n+m:=wrap_i64 (by omega) (by omega)
   refine aW.round aH (lit:=false) ?_
   conv=>whnf
   refine⟨_,hw,?_⟩
   rw [show ((n:Int)+m)=t.length by omega]
   conv=>whnf
   rw [decide_eq_false (by omega)]
   conv=>whnf
   refine hq _ ?_
   rw [List.drop_of_length_le (by omega)]
   rfl
 | succ k ih=>
   intro m hm hq
   have hw:IntKind.i64.wrap ((n:Int)+m)=n+m:=wrap_i64 (by omega) (by omega)
   have hw1:IntKind.i64.wrap ((m:Int)+1)=(m+1:Nat):=by rw [wrap_i64 (by omega) (by omega)];omega
   obtain⟨c,hc⟩:∃c,t[n+m]? =some c:=⟨_,List.getElem?_eq_getElem (by omega)⟩
   have hd:=drop_cons hc
   refine aW.round aH (lit:=false) ?_
   conv=>whnf
   refine⟨_,hw,?_⟩
   conv=>whnf
   rw [decide_eq_true (by omega)]
   conv=>whnf
   refine⟨_,hw,?_⟩
   conv=>whnf
   refine⟨n+m,c,by omega,hc,?_⟩
   conv=>whnf
   split
   ·rename_i h
    conv=>whnf
    refine⟨_,hw1,?_⟩
    conv=>whnf
    refine ih (m+1) (by omega) fun e' he=>hq e' ?_
    rw [he,hd]
    have h':((c.toNat:Int) != 10)=true:=by simpa using h
    simp only [run,h',if_true,show n+(m+1)=n+m+1 by omega]
    congr 1;omega
   ·rename_i h
    conv=>whnf
    refine hq _ ?_
    rw [hd]
    have h':((c.toNat:Int) != 10)=false:=by simpa using h
    simp only [run,h']
    rfl
theorem QT (t:List UInt8)(n:Nat)(j:Int)(hj:j=n)(ht:t.length≤100000)(hn:n<t.length)(σ:St) :
 ay X 37 [.s t,.i .i64 j] σ fun v s=>v= .i .i64 (dM (t.drop n))∧s=σ:=by
 subst hj
 obtain⟨c,hc⟩:∃c,t[n]? =some c:=⟨_,List.getElem?_eq_getElem hn⟩
 have hd:=drop_cons hc
 refine ay.body (F:=F37) aH (lit:=false) rfl rfl (Nat.le_of_ble_eq_true rfl) ?_
 conv=>whnf
 refine⟨n,c,rfl,hc,?_⟩
 by_cases hb:dP c.toNat=true
 ·have e1:dM (t.drop n)=1:=by rw [hd];simp [dM,hb]
  rw [e1]
  repeat' ((conv=>whnf);split)
  all_goals (conv=>whnf)
  all_goals first
   | exact Fin.flat rfl List.take_length ⟨rfl,rfl⟩
   | (exfalso;simp_all [dP];done)
 ·have e1:dM (t.drop n)=if [47,47].isPrefixOf (t.drop n) then run (· != 10) (t.drop n) else 0:=by rw [hd];simp [dM,hb]
  repeat' ((conv=>whnf);split)
  all_goals (conv=>whnf)
  all_goals first
   | (exfalso;simp_all [dP];done)
   | skip
  refine ay.to (Ej t [47,47] n n rfl σ (by omega) ht (by simp)) ?_
  conv=>whnf
  cases h: [47,47].isPrefixOf (t.drop n) with
  | true=>
    conv=>whnf
    refine JY t n ht σ _ (t.length - n) 0 (by omega) fun e' he=>?_
    conv=>whnf
    rw [show dI.ev e' (.t 6)=_ from he]
    conv=>whnf
    exact Fin.flat rfl List.take_length ⟨by rw [e1,h];simp,rfl⟩
  | false=>
    conv=>whnf
    exact Fin.flat rfl List.take_length ⟨by rw [e1,h];simp,rfl⟩
def jr:Nat→List UInt8→Bool
 | _,[]=>true
 | v,c :: r=>if 4294967296≤10*v+(c.toNat - 48) then false else jr (10*v+(c.toNat - 48)) r
theorem IG (t:List UInt8)(hd:∀c∈t,isDigit c.toNat=true)(ht:t.length≤100000)(σ:St)(Q:Out→Env→St→Prop):∀(k m v:Nat),m+k=t.length→v<4294967296→
 (jr v (t.drop m)=true→∀e',Q (.exit 0) e' σ)→(jr v (t.drop m)=false→∀e',get e' 2= .b false→Q .ret e' σ)→
 aW X [0,3,4] V8 [(0,.s t),(3,.i .u64 v),(4,.i .i64 m)] σ Q:=by
 intro k
 induction k with
 | zero=>
   intro m v hm hv h1 h2
   refine aW.round aH (lit:=false) ?_
   conv=>whnf
   rw [decide_eq_false (by omega)]
   conv=>whnf
   exact h1 (by rw [List.drop_of_length_le (by omega)];rfl) _
 | succ k ih=>
   intro m v hm hv h1 h2
   obtain⟨c,hc⟩:∃c,t[m]? =some c:=⟨_,List.getElem?_eq_getElem (by omega)⟩
   have hdr:=drop_cons hc
   have hdig:=hd c (List.mem_of_getElem? hc)
   simp only [isDigit,Bool.and_eq_true,decide_eq_true_eq] at hdig
   have hw1:IntKind.i64.wrap ((m:Int)+1)=(m+1:Nat):=by rw [wrap_i64 (by omega) (by omega)];omega
   refine aW.round aH (lit:=false) ?_
   conv=>whnf
   rw [decide_eq_true (by omega)]
   conv=>whnf
   refine⟨10*v,wrap_u64 (by omega) (by omega),?_⟩
   conv=>whnf
   refine⟨m,c,rfl,hc,?_⟩
   conv=>whnf
   refine⟨_,wrap_u8 (n:=c.toNat - 48) (by omega) (by omega),?_⟩
   conv=>whnf
   refine⟨_,wrap_u64 (n:=(c.toNat:Int) - 48) (by omega) (by omega),?_⟩
   conv=>whnf
   refine⟨((10*v+(c.toNat - 48):Nat):Int),by rw [wrap_u64 (by omega) (by omega)];omega,?_⟩
   conv=>whnf
   by_cases hb:4294967296≤10*v+(c.toNat - 48)
   ·rw [decide_eq_true (by omega)]
    conv=>whnf
    exact h2 (by rw [hdr];simp [jr,hb]) _ rfl
   ·rw [decide_eq_false (by omega)]
    conv=>whnf
    refine⟨_,hw1,?_⟩
    conv=>whnf
    have e1:jr v (t.drop m)=jr (10*v+(c.toNat - 48)) (t.drop (m+1)):=by rw [hdr];simp [jr,hb]
    exact ih (m+1) _ (by omega) (by omega) (by rw [←e1];exact h1) (by rw [←e1];exact h2)
theorem sF (t:List UInt8)(hd:∀c∈t,isDigit c.toNat=true)(ht:t.length≤100000)(σ:St):ay X 77 [.s t] σ fun v s=>v= .b (jr 0 t)∧s=σ:=by
 refine ay.body (F:=F77) aH (lit:=false) rfl rfl (Nat.le_of_ble_eq_true rfl) ?_
 conv=>whnf
 refine IG t hd ht σ _ t.length 0 0 (by omega) (by omega) (fun h e'=>?_) (fun h e' he=>?_)
 ·conv=>whnf
  rw [List.drop_zero] at h
  exact Fin.flat rfl List.take_length ⟨by rw [h],rfl⟩
 ·conv=>whnf
  rw [he]
  conv=>whnf
  rw [List.drop_zero] at h
  exact Fin.flat rfl List.take_length ⟨by rw [h],rfl⟩
end Go.bP.YthoodopjoaigdaaGreatDoor
namespace Go.bP.YthoodopjoaigdaaGreatDoor
open Go.Proofs
set_option maxRecDepth 4000
theorem QU (s:List UInt8)(o g:Nat)(l:List (List UInt8))(σ:St)(ho:dG σ o g=some (l.map .s))(hl:l.length≤100)(Q:Out→Env→St→Prop):∀(k m:Nat),m+k=l.length→
 ((l.drop m).contains s=false→∀e',Q (.exit 0) e' σ)→((l.drop m).contains s=true→∀e',get e' 2= .b true→Q .ret e' σ)→
 aW X [0,3,4] V7 [(0,.s s),(3,.sl o g 0 l.length 1),(4,.i .i64 m)] σ Q:=by
 intro k
 induction k with
 | zero=>
   intro m hm h1 h2
   refine aW.round aH (lit:=false) ?_
   conv=>whnf
   rw [decide_eq_false (by omega)]
   conv=>whnf
   exact h1 (by rw [List.drop_of_length_le (by omega)];rfl) _
 | succ k ih=>
   intro m hm h1 h2
   obtain⟨c,hc⟩:∃c,l[m]? =some c:=⟨_,List.getElem?_eq_getElem (by omega)⟩
   have hdr:l.drop m=c :: l.drop (m+1):=by
    obtain⟨hn,rfl⟩:=List.getElem?_eq_some_iff.1 hc
    rw [←List.getElem_cons_drop hn]
   have hw1:IntKind.i64.wrap ((m:Int)+1)=(m+1:Nat):=by rw [wrap_i64 (by omega) (by omega)];omega
   refine aW.round aH (lit:=false) ?_
   conv=>whnf
   rw [decide_eq_true (by omega)]
   conv=>whnf
   refine⟨m,rfl,by omega,?_⟩
   conv=>whnf
   refine ak (v:=.s c) (aj (T:=fA) rfl rfl ho (by simp [hc])) ?_
   conv=>whnf
   cases h:c == s with
   | true=>
     conv=>whnf
     exact h2 (by rw [hdr];simp_all) _ rfl
   | false=>
     conv=>whnf
     refine⟨_,hw1,?_⟩
     conv=>whnf
     have e1:(l.drop m).contains s=(l.drop (m+1)).contains s:=by
        rw [hdr,List.contains_cons]
        have:(s == c)=false:=by rw [beq_eq_false_iff_ne] at h ⊢;exact fun e=>h e.symm
        rw [this];simp
     exact ih (m+1) (by omega) (by rw [←e1];exact h1) (by rw [←e1];exact h2)
theorem QV (σ:St)(Q:AV→St→Prop)(h:Q (.sl σ.length 0 0 12 1) (au 9 (keys.map .s) σ)):ay X 106 [] σ Q:=by
 refine ay.body (F:=Xm) aH (lit:=false) rfl rfl (Nat.le_of_ble_eq_true rfl) ?_
 conv=>whnf
 exact Fin.ref rfl h
theorem Yf (s:List UInt8)(σ:St):ay X 76 [.s s] σ fun v s'=>v= .b (keys.contains s)∧s'= σ:=by
 refine ay.body (F:=F76) aH (lit:=false) rfl rfl (Nat.le_of_ble_eq_true rfl) ?_
 conv=>whnf
 refine QV σ _ ?_
 conv=>whnf
 refine QU s _ _ keys _ (iR _ _ σ) (by decide) _ 12 0 rfl (fun h e'=>?_) (fun h e' he=>?_)
 ·conv=>whnf
  exact Fin.flat rfl (by rw [mW _ _ _ _ (Nat.le_refl _),List.take_length]) ⟨by rw [List.drop_zero] at h;rw [h],rfl⟩
 ·conv=>whnf
  rw [he]
  conv=>whnf
  exact Fin.flat rfl (by rw [mW _ _ _ _ (Nat.le_refl _),List.take_length]) ⟨by rw [List.drop_zero] at h;rw [h],rfl⟩
def signs:List (List UInt8):=lJ ++ [[40],[41],[123],[125],[91],[93],[44],[59],[58],[61],[60],[62],[43],[45],[124],[94],[38],[42],[47],[37],[33]]
theorem QW (σ:St)(Q:AV→St→Prop)(h:Q (.sl σ.length 0 0 29 1) (au 9 (signs.map .s) σ)):ay X 78 [] σ Q:=by
 refine ay.body (F:=F78) aH (lit:=false) rfl rfl (Nat.le_of_ble_eq_true rfl) ?_
 conv=>whnf
 exact Fin.ref rfl h
theorem ND (t:List UInt8)(n:Nat)(ht:t.length≤100000)(hn:n≤t.length)(r o g:Nat)(l:List (List UInt8))(σ:St)(ho:dG σ o g=some (l.map .s))(hl:l.length≤100)(hw:∀w∈l,w.length≤10)
 (hr:∃e,σ[r]? =some ⟨0,false,.cells e [.i .i64 0,.s [],.i .i64 0]⟩) (Q:Out→Env→St→Prop):∀(k m:Nat),m+k=l.length→
 ((l.drop m).find? (·.isPrefixOf (t.drop n))=none→∀e',get e' 4= .p r 0 0→Q (.exit 4) e' σ)→
 (∀w,(l.drop m).find? (·.isPrefixOf (t.drop n))=some w→∀e' e,σ[r]? =some ⟨0,false,.cells e [.i .i64 0,.s [],.i .i64 0]⟩→get e' 4= .p r 0 0→get e' 5= .i .i64 0→Q .ret e' (σ.set r ⟨0,false,.cells e [.i .i64 3,.s w,.i .i64 0]⟩))→
 aW X [0,1,4,10,11] V4 [(0,.s t),(1,.i .i64 n),(4,.p r 0 0),(10,.sl o g 0 l.length 1),(11,.i .i64 m)] σ Q:=by
 intro k
 induction k with
 | zero=>
   intro m hm h1 h2
   refine aW.round aH (lit:=false) ?_
   conv=>whnf
   rw [decide_eq_false (by omega)]
   conv=>whnf
   exact h1 (by rw [show l.drop m=[] from List.drop_of_length_le (by omega)];rfl) _ rfl
 | succ k ih=>
   intro m hm h1 h2
   obtain⟨c,hc⟩:∃c,l[m]? =some c:=⟨_,List.getElem?_eq_getElem (by omega)⟩
   have hdr:l.drop m=c :: l.drop (m+1):=by
    obtain⟨hn,rfl⟩:=List.getElem?_eq_some_iff.1 hc
    rw [←List.getElem_cons_drop hn]
   have hw1:IntKind.i64.wrap ((m:Int)+1)=(m+1:Nat):=by rw [wrap_i64 (by omega) (by omega)];omega
   refine aW.round aH (lit:=false) ?_
   conv=>whnf
   rw [decide_eq_true (by omega)]
   conv=>whnf
   refine⟨m,rfl,by omega,?_⟩
   conv=>whnf
   refine ak (v:=.s c) (aj (T:=fA) rfl rfl ho (by simp [hc])) ?_
   conv=>whnf
   refine ay.to (Ej t c n n rfl σ hn ht (hw c (List.mem_of_getElem? hc))) ?_
   conv=>whnf
   cases h:c.isPrefixOf (t.drop n) with
   | true=>
     conv=>whnf
     refine⟨m,rfl,by omega,?_⟩
     conv=>whnf
     refine ak (v:=.s c) (aj (T:=fA) rfl rfl ho (by simp [hc])) ?_
     conv=>whnf
     obtain⟨e,he⟩:=hr
     refine ak (dO (T:=fB) rfl he rfl rfl (by decide)) ?_
     conv=>whnf
     exact h2 c (by rw [hdr];simp [h]) _ e he rfl rfl
   | false=>
     conv=>whnf
     refine⟨_,hw1,?_⟩
     conv=>whnf
     have e1:(l.drop m).find? (·.isPrefixOf (t.drop n))=(l.drop (m+1)).find? (·.isPrefixOf (t.drop n)):=by
        rw [hdr,List.find?_cons];simp [h]
     exact ih (m+1) (by omega) (by rw [←e1];exact h1) (by rw [←e1];exact h2)
theorem Yg (t:List UInt8)(n:Nat)(ht:t.length≤100000)(r:Nat)(σ:St)(Q:Out→Env→St→Prop):∀(k m:Nat),n+m+k=t.length→
 (∀e',get e' 0= .s t→get e' 1= .i .i64 n→get e' 4= .p r 0 0→get e' 7= .i .i64 ((m+run isWord (t.drop (n+m)):Nat):Int)→get e' 1000000= .u→Q (.exit 0) e' σ)→
 aW X [0,1,4,7] VZ [(0,.s t),(1,.i .i64 n),(4,.p r 0 0),(7,.i .i64 m)] σ Q:=by
 intro k
 induction k with
 | zero=>
   intro m hm hq
   have hw:IntKind.i64.wrap ((n:Int)+m)=n+m:=wrap_i64 (by omega) (by omega)
   refine aW.round aH (lit:=false) ?_
   conv=>whnf
   refine⟨_,hw,?_⟩
   conv=>whnf
   rw [decide_eq_false (by omega)]
   conv=>whnf
   refine hq _ rfl rfl rfl ?_ rfl
   rw [List.drop_of_length_le (by omega)]
   rfl
 | succ k ih=>
   intro m hm hq
   have hw:IntKind.i64.wrap ((n:Int)+m)=n+m:=wrap_i64 (by omega) (by omega)
   have hw1:IntKind.i64.wrap ((m:Int)+1)=(m+1:Nat):=by rw [wrap_i64 (by omega) (by omega)];omega
   obtain⟨c,hc⟩:∃c,t[n+m]? =some c:=⟨_,List.getElem?_eq_getElem (by omega)⟩
   have hd:=drop_cons hc
   refine aW.round aH (lit:=false) ?_
   conv=>whnf
   refine⟨_,hw,?_⟩
   conv=>whnf
   rw [decide_eq_true (by omega)]
   conv=>whnf
   refine⟨_,hw,?_⟩
   conv=>whnf
   refine⟨n+m,c,by omega,hc,?_⟩
   conv=>whnf
   refine ay.to (su c.toNat σ) ?_
   conv=>whnf
   cases hl:bT c.toNat with
   | true=>
     conv=>whnf
     refine⟨_,hw1,?_⟩
     conv=>whnf
     refine ih (m+1) (by omega) ?_
     have e1:run isWord (t.drop (n+m))=run isWord (t.drop (n+(m+1)))+1:=by rw [hd];simp [run,isWord,hl];rfl
     rw [show m+1+run isWord (t.drop (n+(m+1)))=m+run isWord (t.drop (n+m)) by omega]
     exact hq
   | false=>
     conv=>whnf
     refine⟨_,hw,?_⟩
     conv=>whnf
     refine⟨n+m,c,by omega,hc,?_⟩
     conv=>whnf
     refine ay.to (BU c.toNat σ) ?_
     conv=>whnf
     cases hg:isDigit c.toNat with
     | true=>
       conv=>whnf
       refine⟨_,hw1,?_⟩
       conv=>whnf
       refine ih (m+1) (by omega) ?_
       have e1:run isWord (t.drop (n+m))=run isWord (t.drop (n+(m+1)))+1:=by rw [hd];simp [run,isWord,hl,hg];rfl
       rw [show m+1+run isWord (t.drop (n+(m+1)))=m+run isWord (t.drop (n+m)) by omega]
       exact hq
     | false=>
       conv=>whnf
       refine hq _ rfl rfl rfl ?_ rfl
       have e1:run isWord (t.drop (n+m))=0:=by rw [hd];simp [run,isWord,hl,hg]
       rw [e1];rfl
theorem Yh (t:List UInt8)(n:Nat)(b:Int)(ht:t.length≤100000)(r:Nat)(σ:St)(Q:Out→Env→St→Prop):∀(k m:Nat),n+m+k=t.length→
 (∀e',get e' 0= .s t→get e' 1= .i .i64 n→get e' 4= .p r 0 0→get e' 6= .i .u8 b→get e' 7= .i .i64 ((m+run isDigit (t.drop (n+m)):Nat):Int)→get e' 1000000= .u→Q (.exit 2) e' σ)→
 aW X [0,1,4,6,7] V3 [(0,.s t),(1,.i .i64 n),(4,.p r 0 0),(6,.i .u8 b),(7,.i .i64 m)] σ Q:=by
 intro k
 induction k with
 | zero=>
   intro m hm hq
   have hw:IntKind.i64.wrap ((n:Int)+m)=n+m:=wrap_i64 (by omega) (by omega)
   refine aW.round aH (lit:=false) ?_
   conv=>whnf
   refine⟨_,hw,?_⟩
   conv=>whnf
   rw [decide_eq_false (by omega)]
   conv=>whnf
   refine hq _ rfl rfl rfl rfl ?_ rfl
   rw [List.drop_of_length_le (by omega)]
   rfl
 | succ k ih=>
   intro m hm hq
   have hw:IntKind.i64.wrap ((n:Int)+m)=n+m:=wrap_i64 (by omega) (by omega)
   have hw1:IntKind.i64.wrap ((m:Int)+1)=(m+1:Nat):=by rw [wrap_i64 (by omega) (by omega)];omega
   obtain⟨c,hc⟩:∃c,t[n+m]? =some c:=⟨_,List.getElem?_eq_getElem (by omega)⟩
   have hd:=drop_cons hc
   refine aW.round aH (lit:=false) ?_
   conv=>whnf
   refine⟨_,hw,?_⟩
   conv=>whnf
   rw [decide_eq_true (by omega)]
   conv=>whnf
   refine⟨_,hw,?_⟩
   conv=>whnf
   refine⟨n+m,c,by omega,hc,?_⟩
   conv=>whnf
   refine ay.to (BU c.toNat σ) ?_
   conv=>whnf
   cases hg:isDigit c.toNat with
   | true=>
     conv=>whnf
     refine⟨_,hw1,?_⟩
     conv=>whnf
     refine ih (m+1) (by omega) ?_
     have e1:run isDigit (t.drop (n+m))=run isDigit (t.drop (n+(m+1)))+1:=by rw [hd];simp [run,hg];rfl
     rw [show m+1+run isDigit (t.drop (n+(m+1)))=m+run isDigit (t.drop (n+m)) by omega]
     exact hq
   | false=>
     conv=>whnf
     refine hq _ rfl rfl rfl rfl ?_ rfl
     have e1:run isDigit (t.drop (n+m))=0:=by rw [hd];simp [run,hg]
     rw [e1];rfl
end Go.bP.YthoodopjoaigdaaGreatDoor
namespace Go.bP.YthoodopjoaigdaaGreatDoor
open Go.Proofs
set_option maxRecDepth 4000
theorem oJ:∀(l:List UInt8) (c:UInt8),(0≤Lib.indexByte l c)↔c∈l
 | [],c=>by simp [Lib.indexByte]
 | b :: l,c=>by
   have ih:=oJ l c
   have hg:=Lib.indexByte_ge l c
   unfold Lib.indexByte
   by_cases h:b=c
   ·simp [h]
   ·have h':(b == c)=false:=by simpa using h
    rw [h']
    simp only [Bool.false_eq_true,if_false,List.mem_cons]
    have hne:¬c=b:=fun e=>h e.symm
    simp only [hne,false_or]
    by_cases h2:Lib.indexByte l c= -1
    ·simp only [h2,beq_self_eq_true,if_true]
     rw [←ih,h2]
    ·have h3:(Lib.indexByte l c == -1)=false:=by simpa using h2
     rw [h3]
     simp only [Bool.false_eq_true,if_false]
     rw [←ih]
     omega
theorem NG (c:UInt8):(IntKind.u8.wrap (c.toNat:Int)).toNat.toUInt8=c:=by
 rw [wrap_u8 (by omega) (by have:=c.toNat_lt;omega)]
 simp
theorem NH (c:UInt8):pY c.toNat=ones.contains c:=by
 unfold pY
 rw [NG,Bool.eq_iff_iff]
 simp only [Bool.and_eq_true,decide_eq_true_eq,oJ,List.contains_iff_mem]
 refine⟨fun h=>h.1,fun h=>⟨h,?_⟩⟩
 have:∀d∈ones,(d.toNat:Int)<128:=by decide
 exact this c h
theorem Em (c:UInt8)(r:List UInt8):∀l:List UInt8,(l.map fun x=>[x]).find? (·.isPrefixOf (c :: r))=if l.contains c then some [c] else none
 | []=>rfl
 | x :: l=>by
   simp only [List.map_cons,List.find?_cons,List.isPrefixOf,List.contains_cons]
   by_cases h:x=c
   ·subst h;simp
   ·have h1:(x == c)=false:=by simpa using h
    have h2:(c == x)=false:=by simpa using fun e=>h e.symm
    simp only [h1,h2,Bool.false_and,Bool.false_or]
    exact Em c r l
theorem NI (c d:UInt8)(r:List UInt8)(l:List (List UInt8))(hl:∀w∈l,w.length=2):l.find? (·.isPrefixOf (c :: d :: r))=if l.contains [c,d] then some [c,d] else none:=by
 induction l with
 | nil=>rfl
 | cons w l ih=>
   have ih:=ih fun w hw=>hl w (List.mem_cons_of_mem _ hw)
   have h2:=hl w (List.mem_cons_self ..)
   match w,h2 with
   | [a,b],_=>
     rw [List.find?_cons,List.contains_cons,ih]
     by_cases h:a=c∧b=d
     ·obtain⟨rfl,rfl⟩:=h;simp [List.isPrefixOf]
     ·have h1:([a,b].isPrefixOf (c :: d :: r))=false:=by
        simp only [List.isPrefixOf,Bool.and_true,Bool.and_eq_false_iff,beq_eq_false_iff_ne]
        by_cases h3:a=c
        ·exact .inr fun h4=>h ⟨h3,h4⟩
        ·exact .inl h3
      have h2:([c,d] == [a,b])=false:=by
        rw [beq_eq_false_iff_ne];intro e;cases e;exact h ⟨rfl,rfl⟩
      rw [h1,h2,Bool.false_or]
theorem NJ (c:UInt8)(r:List UInt8)(hb:dM (c :: r)=0)(h1:bT c.toNat=false)(h2:isDigit c.toNat=false) :
 step (c :: r)=match signs.find? (·.isPrefixOf (c :: r)) with | some w=>.tok 3 w.length | none=>.err 9:=by
 have hbl:dP c.toNat=false:=by
  cases h:dP c.toNat with
  | false=>rfl
  | true=>simp [dM,h] at hb
 have hr: [47,47].isPrefixOf (c :: r)=false:=by
  cases h: [47,47].isPrefixOf (c :: r) with
  | false=>rfl
  | true=>
    have hc:c=47:=by simp [List.isPrefixOf] at h;exact h.1.symm
    subst hc
    simp only [dM,hbl,h,Bool.false_eq_true,if_false,if_true] at hb
    have:=kU (p:=(· != 10)) r (c:=47) (by decide)
    omega
 have hs:signs.find? (·.isPrefixOf (c :: r))=(lJ.find? (·.isPrefixOf (c :: r))).or (if ones.contains c then some [c] else none):=by
  rw [←Em c r ones]
  exact List.find?_append
 unfold step
 rw [hr,hs]
 simp only [hbl,h1,h2,Bool.false_eq_true,if_false,NH]
 cases r with
 | nil=>
   have e1:lJ.find? (·.isPrefixOf [c])=none:=by simp [lJ,List.isPrefixOf]
   have e2:lJ.contains ([c].take 2)=false:=by
    have:∀w∈lJ,w.length=2:=by decide
    cases h:lJ.contains ([c].take 2) with
    | false=>rfl
    | true=>have:=this _ (List.contains_iff_mem.1 h);simp at this
   rw [e1,e2]
   by_cases h:ones.contains c=true
   ·rw [h];rfl
   ·have h:ones.contains c=false:=by simpa using h
    rw [h];rfl
 | cons d r=>
   rw [NI c d r lJ (by decide)]
   have e0:(c :: d :: r).take 2=[c,d]:=rfl
   rw [e0]
   by_cases h:lJ.contains [c,d]=true
   ·have hc:ones.contains c=true:=by
        have:∀w∈lJ,∀a∈w.head?,ones.contains a=true:=by decide
        exact this _ (List.contains_iff_mem.1 h) c rfl
    rw [if_pos hc,if_pos h,if_pos h];rfl
   ·rw [if_neg h,if_neg h]
    by_cases h:ones.contains c=true
    ·rw [if_pos h,if_pos h];rfl
    ·rw [if_neg h,if_neg h];rfl
theorem BX:∀(l:List UInt8) (v:Nat),(∀c∈l,isDigit c.toNat=true)→v<4294967296→(match Lib.parseUintM 4294967295 v l with | .ok _=>false | _=>true)= !jr v l
 | [],v,_,_=>by simp [Lib.parseUintM,jr]
 | c :: r,v,hd,hv=>by
   have h1:=hd c (List.mem_cons_self ..)
   simp only [isDigit,Bool.and_eq_true,decide_eq_true_eq] at h1
   unfold Lib.parseUintM jr
   rw [if_pos (by omega),if_neg (by omega)]
   by_cases h:4294967296≤10*v+(c.toNat - 48)
   ·rw [if_pos (by omega),if_pos h];rfl
   ·rw [if_neg (by omega),if_neg h,show v*10+(c.toNat - 48)=10*v+(c.toNat - 48) by omega]
    exact BX r _ (fun c hc=>hd c (List.mem_cons_of_mem _ hc)) (by omega)
theorem BZ {l:List UInt8} (hd:∀c∈l,isDigit c.toNat=true)(hn:l≠[]):tooBig l= !jr 0 l:=by
 unfold tooBig Lib.parseUintB
 rw [if_neg hn]
 exact BX l 0 hd (by omega)
theorem wG (p:Int→Bool):∀(l:List UInt8),∀c∈l.take (run p l),p c.toNat=true
 | [],c,h=>by simp at h
 | b :: l,c,h=>by
   unfold run at h
   split at h
   ·rename_i hb
    simp only [List.take_succ_cons,List.mem_cons] at h
    rcases h with rfl | h
    ·exact hb
    ·exact wG p l c h
   ·simp at h
def fZ (k:Int)(s:List UInt8)(l:Int):List AV:=[.i .i64 k,.s s,.i .i64 l]
def Wv (u:List UInt8):Stp→AV
 | .tok k m=>.tu [.ag (fZ k (u.take m) 0),.i .i64 0]
 | .err e=>.tu [.ag (fZ 0 [] 0),.i .i64 e]
 | .skip _ _=>.u
theorem LK (p:Int→Bool)(t:List UInt8)(n m:Nat)(c:UInt8)(h:t[n+m]? =some c):decide (0<run p (t.drop (n+m)))=p c.toNat:=by
 rw [drop_cons h]
 cases hp:p c.toNat with
 | true=>simp [run,hp]
 | false=>simp [run,hp]
theorem U5 (t:List UInt8)(n:Nat)(j:Int)(hj:j=n)(ht:t.length≤100000)(hn:n<t.length)(hb:dM (t.drop n)=0)(σ:St) :
 ay X 38 [.s t,.i .i64 j] σ fun v s=>v=Wv (t.drop n) (step (t.drop n))∧s=σ:=by
 subst hj
 obtain⟨c,hc⟩:∃c,t[n]? =some c:=⟨_,List.getElem?_eq_getElem hn⟩
 have hd:=drop_cons hc
 have hfl:∀(e:Nat) (cs cs':List AV),((au e cs σ).set σ.length ⟨0,false,.cells e cs'⟩).take σ.length=σ:=by
  intro e cs cs';rw [List.take_set_of_le (Nat.le_refl _),mW _ _ _ _ (Nat.le_refl _),List.take_length]
 have hbl:dP c.toNat=false:=by
  cases h:dP c.toNat with
  | false=>rfl
  | true=>rw [hd] at hb;simp [dM,h] at hb
 have hr: [47,47].isPrefixOf (t.drop n)=false:=by
  cases h: [47,47].isPrefixOf (t.drop n) with
  | false=>rfl
  | true=>
    rw [hd] at h hb
    have hc:c=47:=by simp [List.isPrefixOf] at h;exact h.1.symm
    subst hc
    simp only [dM,hbl,h,Bool.false_eq_true,if_false,if_true] at hb
    have:=kU (p:=(· != 10)) (t.drop (n+1)) (c:=47) (by decide)
    omega
 refine ay.body (F:=F38) aH (lit:=false) rfl rfl (Nat.le_of_ble_eq_true rfl) ?_
 conv=>whnf
 refine⟨n,c,rfl,hc,?_⟩
 conv=>whnf
 refine ay.to (su c.toNat _) ?_
 conv=>whnf
 cases hl:bT c.toNat with
 | true=>
   have hrl:=mY isWord (t.drop n)
   simp only [List.length_drop] at hrl
   have hstep:step (t.drop n)=if 32<run isWord (t.drop n) then .err 9 else if keys.contains ((t.drop n).take (run isWord (t.drop n))) then .tok 4 (run isWord (t.drop n)) else .tok 1 (run isWord (t.drop n)):=by
    unfold step
    rw [hr,hd]
    simp only [hbl,hl,Bool.false_eq_true,if_false,if_true]
   conv=>whnf
   refine Yg t n ht _ _ _ (t.length - n) 0 (by omega) fun e' h0 h1 h4 h7 h9=>?_
   rw [Nat.add_zero,Nat.zero_add] at h7
   conv=>whnf
   rw [h9];conv=>whnf
   rw [h0];conv=>whnf
   rw [h1];conv=>whnf
   rw [h4];conv=>whnf
   rw [h7];conv=>whnf
   refine⟨_,wrap_i64 (n:=(n:Int)+run isWord (t.drop n)) (by omega) (by omega),?_⟩
   conv=>whnf
   refine⟨n,n+run isWord (t.drop n),rfl,by omega,by omega,by omega,?_⟩
   have e0:n+run isWord (t.drop n) - n=run isWord (t.drop n):=by omega
   rw [e0]
   conv=>whnf
   by_cases h32:32<run isWord (t.drop n)
   ·rw [decide_eq_true (by omega)]
    conv=>whnf
    refine ak (dO (T:=fB) rfl (aF _ _ _) rfl rfl (by decide)) ?_
    conv=>whnf
    refine ak (bQ (T:=fB) rfl rfl (ah (gV _ (by rw [aG];omega))) (Nat.le_of_ble_eq_true rfl)) ?_
    conv=>whnf
    refine Fin.flat rfl (hfl _ _ _) ⟨?_,rfl⟩
    rw [hstep,if_pos h32];rfl
   ·rw [decide_eq_false (by omega)]
    conv=>whnf
    refine ay.to (Yf _ _) ?_
    conv=>whnf
    cases hk:keys.contains ((t.drop n).take (run isWord (t.drop n))) with
    | true=>
      conv=>whnf
      refine ak (dO (T:=fB) rfl (aF _ _ _) rfl rfl (by decide)) ?_
      conv=>whnf
      refine ak (bQ (T:=fB) rfl rfl (ah (gV _ (by rw [aG];omega))) (Nat.le_of_ble_eq_true rfl)) ?_
      conv=>whnf
      refine Fin.flat rfl (hfl _ _ _) ⟨?_,rfl⟩
      rw [hstep,if_neg h32,if_pos hk];rfl
    | false=>
      conv=>whnf
      refine ak (dO (T:=fB) rfl (aF _ _ _) rfl rfl (by decide)) ?_
      conv=>whnf
      refine ak (bQ (T:=fB) rfl rfl (ah (gV _ (by rw [aG];omega))) (Nat.le_of_ble_eq_true rfl)) ?_
      conv=>whnf
      refine Fin.flat rfl (hfl _ _ _) ⟨?_,rfl⟩
      rw [hstep,if_neg h32,if_neg (by rw [hk];exact Bool.false_ne_true)];rfl
 | false=>
   conv=>whnf
   refine ay.to (BU c.toNat _) ?_
   conv=>whnf
   cases hg:isDigit c.toNat with
   | true=>
     have hrl:=mY isDigit (t.drop n)
     simp only [List.length_drop] at hrl
     have hstep:step (t.drop n)=if(c.toNat=48∧1<run isDigit (t.drop n))∨0<run bT ((t.drop n).drop (run isDigit (t.drop n))) then .err 9
        else if tooBig ((t.drop n).take (run isDigit (t.drop n))) then .err 3 else .tok 2 (run isDigit (t.drop n)):=by
        unfold step
        rw [hr,hd]
        simp only [hbl,hl,hg,Bool.false_eq_true,if_false,if_true]
     have hpos:0<run isDigit (t.drop n):=by rw [hd];exact kU _ hg
     have hall:=wG isDigit (t.drop n)
     have hbig:=BZ hall (by rw [hd];intro e;have:=congrArg List.length e;simp [List.length_take] at this;rw [←hd] at this;omega)
     conv=>whnf
     refine Yh t n _ ht _ _ _ (t.length - n) 0 (by omega) fun e' h0 h1 h4 h6 h7 h9=>?_
     rw [Nat.add_zero,Nat.zero_add] at h7
     generalize hm:run isDigit (t.drop n)=m at *
     conv=>whnf
     rw [h0];conv=>whnf
     rw [h1];conv=>whnf
     rw [h4];conv=>whnf
     rw [h6];conv=>whnf
     rw [h7];conv=>whnf
     refine⟨_,wrap_i64 (n:=(n:Int)+m) (by omega) (by omega),?_⟩
     conv=>whnf
     refine⟨n,n+m,rfl,by omega,by omega,by omega,?_⟩
     have e0:n+m - n=m:=by omega
     rw [e0]
     have hbad:(c.toNat=48∧1<m)∨0<run bT ((t.drop n).drop m)→step (t.drop n)= .err 9:=fun h=>by rw [hstep,if_pos h]
     have hgood:¬((c.toNat=48∧1<m)∨0<run bT ((t.drop n).drop m))→step (t.drop n)=if jr 0 ((t.drop n).take m) then .tok 2 m else .err 3:=fun h=>by
        rw [hstep,if_neg h,hbig]
        cases jr 0 ((t.drop n).take m) <;> rfl
     conv=>whnf
     by_cases hA:1<m
     ·rw [decide_eq_true (show (1:Int)<m by omega)]
      conv=>whnf
      by_cases hB:c.toNat=48
      ·rw [decide_eq_true (show (c.toNat:Int)=48 by omega)]
       conv=>whnf
       refine ak (dO (T:=fB) rfl (aF _ _ _) rfl rfl (by decide)) ?_
       conv=>whnf
       refine ak (bQ (T:=fB) rfl rfl (ah (gV _ (by rw [aG];omega))) (Nat.le_of_ble_eq_true rfl)) ?_
       conv=>whnf
       refine Fin.flat rfl (hfl _ _ _) ⟨?_,rfl⟩
       rw [hbad (.inl ⟨hB,hA⟩)];rfl
      ·rw [decide_eq_false (show ¬(c.toNat:Int)=48 by omega)]
       have NAB:¬(c.toNat=48∧1<m):=fun h=>hB h.1
       conv=>whnf
       refine⟨_,wrap_i64 (n:=(n:Int)+m) (by omega) (by omega),?_⟩
       conv=>whnf
       by_cases hlen:n+m<t.length
       ·rw [decide_eq_true (by omega)]
        obtain⟨d,hdd⟩:∃d,t[n+m]? =some d:=⟨_,List.getElem?_eq_getElem hlen⟩
        have hrun:=LK bT t n m d hdd
        rw [←List.drop_drop] at hrun
        conv=>whnf
        refine⟨_,wrap_i64 (n:=(n:Int)+m) (by omega) (by omega),?_⟩
        conv=>whnf
        refine⟨n+m,d,by omega,hdd,?_⟩
        conv=>whnf
        refine ay.to (su d.toNat _) ?_
        conv=>whnf
        cases hlet:bT d.toNat with
        | true=>
          rw [hlet] at hrun
          conv=>whnf
          refine ak (dO (T:=fB) rfl (aF _ _ _) rfl rfl (by decide)) ?_
          conv=>whnf
          refine ak (bQ (T:=fB) rfl rfl (ah (gV _ (by rw [aG];omega))) (Nat.le_of_ble_eq_true rfl)) ?_
          conv=>whnf
          refine Fin.flat rfl (hfl _ _ _) ⟨?_,rfl⟩
          rw [hbad (.inr (of_decide_eq_true hrun))];rfl
        | false=>
          rw [hlet] at hrun
          have hrun:=of_decide_eq_false hrun
          have HG:=not_or.2 ⟨NAB,hrun⟩
          conv=>whnf
          refine ay.to (sF _ hall (by simp [List.length_take];omega) _) ?_
          conv=>whnf
          cases hk:jr 0 ((t.drop n).take m) with
          | true=>
            conv=>whnf
            refine ak (dO (T:=fB) rfl (aF _ _ _) rfl rfl (by decide)) ?_
            conv=>whnf
            refine ak (bQ (T:=fB) rfl rfl (ah (gV _ (by rw [aG];omega))) (Nat.le_of_ble_eq_true rfl)) ?_
            conv=>whnf
            refine Fin.flat rfl (hfl _ _ _) ⟨?_,rfl⟩
            rw [hgood HG,if_pos hk];rfl
          | false=>
            conv=>whnf
            refine ak (dO (T:=fB) rfl (aF _ _ _) rfl rfl (by decide)) ?_
            conv=>whnf
            refine ak (bQ (T:=fB) rfl rfl (ah (gV _ (by rw [aG];omega))) (Nat.le_of_ble_eq_true rfl)) ?_
            conv=>whnf
            refine Fin.flat rfl (hfl _ _ _) ⟨?_,rfl⟩
            rw [hgood HG,if_neg (by rw [hk];exact Bool.false_ne_true)];rfl
       ·rw [decide_eq_false (by omega)]
        have hrun:¬0<run bT ((t.drop n).drop m):=by rw [List.drop_of_length_le (by simp;omega)];simp [run]
        have HG:=not_or.2 ⟨NAB,hrun⟩
        conv=>whnf
        refine ay.to (sF _ hall (by simp [List.length_take];omega) _) ?_
        conv=>whnf
        cases hk:jr 0 ((t.drop n).take m) with
        | true=>
          conv=>whnf
          refine ak (dO (T:=fB) rfl (aF _ _ _) rfl rfl (by decide)) ?_
          conv=>whnf
          refine ak (bQ (T:=fB) rfl rfl (ah (gV _ (by rw [aG];omega))) (Nat.le_of_ble_eq_true rfl)) ?_
          conv=>whnf
          refine Fin.flat rfl (hfl _ _ _) ⟨?_,rfl⟩
          rw [hgood HG,if_pos hk];rfl
        | false=>
          conv=>whnf
          refine ak (dO (T:=fB) rfl (aF _ _ _) rfl rfl (by decide)) ?_
          conv=>whnf
          refine ak (bQ (T:=fB) rfl rfl (ah (gV _ (by rw [aG];omega))) (Nat.le_of_ble_eq_true rfl)) ?_
          conv=>whnf
          refine Fin.flat rfl (hfl _ _ _) ⟨?_,rfl⟩
          rw [hgood HG,if_neg (by rw [hk];exact Bool.false_ne_true)];rfl
     ·rw [decide_eq_false (show ¬(1:Int)<m by omega)]
      have NAB:¬(c.toNat=48∧1<m):=fun h=>hA h.2
      conv=>whnf
      refine⟨_,wrap_i64 (n:=(n:Int)+m) (by omega) (by omega),?_⟩
      conv=>whnf
      by_cases hlen:n+m<t.length
      ·rw [decide_eq_true (by omega)]
       obtain⟨d,hdd⟩:∃d,t[n+m]? =some d:=⟨_,List.getElem?_eq_getElem hlen⟩
       have hrun:=LK bT t n m d hdd
       rw [←List.drop_drop] at hrun
       conv=>whnf
       refine⟨_,wrap_i64 (n:=(n:Int)+m) (by omega) (by omega),?_⟩
       conv=>whnf
       refine⟨n+m,d,by omega,hdd,?_⟩
       conv=>whnf
       refine ay.to (su d.toNat _) ?_
       conv=>whnf
       cases hlet:bT d.toNat with
       | true=>
         rw [hlet] at hrun
         conv=>whnf
         refine ak (dO (T:=fB) rfl (aF _ _ _) rfl rfl (by decide)) ?_
         conv=>whnf
         refine ak (bQ (T:=fB) rfl rfl (ah (gV _ (by rw [aG];omega))) (Nat.le_of_ble_eq_true rfl)) ?_
         conv=>whnf
         refine Fin.flat rfl (hfl _ _ _) ⟨?_,rfl⟩
         rw [hbad (.inr (of_decide_eq_true hrun))];rfl
       | false=>
         rw [hlet] at hrun
         have hrun:=of_decide_eq_false hrun
         have HG:=not_or.2 ⟨NAB,hrun⟩
         conv=>whnf
         refine ay.to (sF _ hall (by simp [List.length_take];omega) _) ?_
         conv=>whnf
         cases hk:jr 0 ((t.drop n).take m) with
         | true=>
           conv=>whnf
           refine ak (dO (T:=fB) rfl (aF _ _ _) rfl rfl (by decide)) ?_
           conv=>whnf
           refine ak (bQ (T:=fB) rfl rfl (ah (gV _ (by rw [aG];omega))) (Nat.le_of_ble_eq_true rfl)) ?_
           conv=>whnf
           refine Fin.flat rfl (hfl _ _ _) ⟨?_,rfl⟩
           rw [hgood HG,if_pos hk];rfl
         | false=>
           conv=>whnf
           refine ak (dO (T:=fB) rfl (aF _ _ _) rfl rfl (by decide)) ?_
           conv=>whnf
           refine ak (bQ (T:=fB) rfl rfl (ah (gV _ (by rw [aG];omega))) (Nat.le_of_ble_eq_true rfl)) ?_
           conv=>whnf
           refine Fin.flat rfl (hfl _ _ _) ⟨?_,rfl⟩
           rw [hgood HG,if_neg (by rw [hk];exact Bool.false_ne_true)];rfl
      ·rw [decide_eq_false (by omega)]
       have hrun:¬0<run bT ((t.drop n).drop m):=by rw [List.drop_of_length_le (by simp;omega)];simp [run]
       have HG:=not_or.2 ⟨NAB,hrun⟩
       conv=>whnf
       refine ay.to (sF _ hall (by simp [List.length_take];omega) _) ?_
       conv=>whnf
       cases hk:jr 0 ((t.drop n).take m) with
       | true=>
         conv=>whnf
         refine ak (dO (T:=fB) rfl (aF _ _ _) rfl rfl (by decide)) ?_
         conv=>whnf
         refine ak (bQ (T:=fB) rfl rfl (ah (gV _ (by rw [aG];omega))) (Nat.le_of_ble_eq_true rfl)) ?_
         conv=>whnf
         refine Fin.flat rfl (hfl _ _ _) ⟨?_,rfl⟩
         rw [hgood HG,if_pos hk];rfl
       | false=>
         conv=>whnf
         refine ak (dO (T:=fB) rfl (aF _ _ _) rfl rfl (by decide)) ?_
         conv=>whnf
         refine ak (bQ (T:=fB) rfl rfl (ah (gV _ (by rw [aG];omega))) (Nat.le_of_ble_eq_true rfl)) ?_
         conv=>whnf
         refine Fin.flat rfl (hfl _ _ _) ⟨?_,rfl⟩
         rw [hgood HG,if_neg (by rw [hk];exact Bool.false_ne_true)];rfl
   | false=>
     have hss:step (t.drop n)=match signs.find? (·.isPrefixOf (t.drop n)) with | some w=>.tok 3 w.length | none=>.err 9:=by
        rw [hd] at hb ⊢;exact NJ c _ hb hl hg
     conv=>whnf
     refine QW _ _ ?_
     conv=>whnf
     refine ND t n ht (by omega) σ.length _ _ signs _ (iR _ _ _) (by decide) (by decide) ⟨_,by rw [dh (by rw [aG];omega)];exact aF _ _ _⟩ _ 29 0 rfl (fun h e' h4=>?_) (fun w h e' e he h4 h5=>?_)
     ·conv=>whnf
      rw [h4]
      conv=>whnf
      refine ak (dO (T:=fB) rfl (by rw [dh (by rw [aG];omega)];exact aF _ _ _) rfl rfl (by decide)) ?_
      conv=>whnf
      refine ak (bQ (T:=fB) rfl rfl (ah (gV _ (by rw [aG,aG];omega))) (Nat.le_of_ble_eq_true rfl)) ?_
      conv=>whnf
      refine Fin.flat rfl ?_ ⟨?_,rfl⟩
      ·rw [List.take_set_of_le (Nat.le_refl _),mW _ _ _ _ (by rw [aG];omega),mW _ _ _ _ (Nat.le_refl _),List.take_length]
      ·rw [List.drop_zero] at h
       rw [hss,h];rfl
     ·conv=>whnf
      rw [h4]
      conv=>whnf
      refine ak (bQ (T:=fB) rfl rfl (ah (gV _ (by rw [aG,aG];omega))) (Nat.le_of_ble_eq_true rfl)) ?_
      conv=>whnf
      rw [h5]
      conv=>whnf
      refine Fin.flat rfl ?_ ⟨?_,rfl⟩
      ·rw [List.take_set_of_le (Nat.le_refl _),mW _ _ _ _ (by rw [aG];omega),mW _ _ _ _ (Nat.le_refl _),List.take_length]
      ·rw [List.drop_zero] at h
       rw [hss,h]
       have hw:=List.find?_some h
       have hw:=List.isPrefixOf_iff_prefix.1 hw
       rw [List.prefix_iff_eq_take] at hw
       simp only [Wv]
       rw [←hw];rfl
end Go.bP.YthoodopjoaigdaaGreatDoor
namespace Go.bP.YthoodopjoaigdaaGreatDoor
open Go.Proofs
set_option maxRecDepth 4000
def dY (l:List Tok):List AV:=l.flatMap fun t=>fZ t.k t.s t.l
theorem kL:∀l:List Tok,(dY l).length=l.length*3
 | []=>rfl
 | t :: l=>by have:=kL l;simp only [dY,List.flatMap_cons,List.length_append,List.length_cons] at this ⊢;rw [this];simp [fZ];omega
theorem xW:∀l:List Tok,(dY l).all AV.one=true
 | []=>rfl
 | t :: l=>by have:=xW l;simp only [dY,List.flatMap_cons,List.all_append] at this ⊢;rw [this];simp [fZ,AV.one]
theorem JZ (l:List Tok)(t:Tok):dY (l ++ [t])=dY l ++ fZ t.k t.s t.l:=by simp [dY,List.flatMap_append]
theorem En (l:List Tok):((dY l).drop 0).take (l.length*3)=dY l:=by rw [List.drop_zero,List.take_of_length_le (by rw [kL];omega)]
def jS (A:Nat)(σ:St)(out:AV)(acc:List Tok):Prop:=(acc=[]∧out= .sl0)∨∃o g,A≤o∧out= .sl o g 0 acc.length 3∧σ[o]? =some ⟨g,false,.cells 47 (dY acc)⟩
theorem jS.new {A:Nat} {σ:St} {out:AV} {acc:List Tok} (h:jS A σ out acc)(e:Nat)(cs:List AV):jS A (au e cs σ) out acc:=by
 rcases h with h | ⟨o,g,h1,h2,h3⟩
 ·exact .inl h
 ·exact .inr ⟨o,g,h1,h2,at_new h3 e cs⟩
theorem jS.lt {A:Nat} {σ:St} {out:AV} {acc:List Tok} (h:jS A σ out acc) {i:Nat} (a:AO)(hi:i<A):jS A (σ.set i a) out acc:=by
 rcases h with h | ⟨o,g,h1,h2,h3⟩
 ·exact .inl h
 ·exact .inr ⟨o,g,h1,h2,aK h3 (by omega) a⟩
theorem jS.ge {A:Nat} {σ σ':St} {out:AV} {acc:List Tok} (h:jS A σ out acc)(he:Ext σ σ'):jS A σ' out acc:=by
 rcases h with h | ⟨o,g,h1,h2,h3⟩
 ·exact .inl h
 ·exact .inr ⟨o,g,h1,h2,he.get h3⟩
theorem jS.cases {A:Nat} {σ:St} {v:AV} {acc:List Tok} (h:jS A σ v acc):v= .sl0∨∃o g,v= .sl o g 0 acc.length 3:=by
 rcases h with ⟨_,rfl⟩ | ⟨o,g,_,rfl,_⟩
 ·exact .inl rfl
 ·exact .inr ⟨o,g,rfl⟩
theorem zU {A:Nat} {σ:St} {out:AV} {acc:List Tok} (h:jS A σ out acc)(tk:Tok)(hl:acc.length≤100000) {C:Nat} (hC:σ[C]? =some ⟨0,false,.cells 47 (fZ tk.k tk.s tk.l)⟩)(hA:A≤σ.length) {Q:AV→St→Prop}
 (q:∀out' σ',jS A σ' out' (acc ++ [tk])→(∀i,i<A→σ'[i]? =σ[i]?)→A≤σ'.length→(∀i,i<σ.length→(∀o g n z,out= .sl o g 0 n z→i≠o)→σ'[i]? =σ[i]?)→Q out' σ') :
 BH Ie.get false 36 out (.sl C 0 0 1 3) σ Q:=by
 constructor
 refine ak (v:=nM) rfl ?_
 refine ak (v:=fB) rfl ?_
 refine ak (jH hC (Nat.le_of_ble_eq_true rfl)) ?_
 rcases h with ⟨rfl,rfl⟩ | ⟨o,g,h1,rfl,h3⟩
 ·refine⟨Nat.le_of_ble_eq_true rfl,?_⟩
  refine q _ _ (.inr ⟨σ.length,0,hA,rfl,?_⟩) (fun i hi=>dh (by omega)) (by rw [aG];omega) (fun i hi _=>dh hi)
  rw [aF];rfl
 ·refine ak (oI h3) ?_
  refine⟨rfl,by rw [kL];omega,?_,by rw [En];exact xW acc,?_⟩
  ·show (acc.length+1)*32≤_;omega
  refine q _ _ (.inr ⟨o,g+1,h1,by simp,?_⟩) (fun i hi=>by rw [List.getElem?_set_ne (by omega)]) (by rw [List.length_set];exact hA) (fun i hi hne=>by rw [List.getElem?_set_ne (fun e=>hne o g _ _ rfl e.symm)])
  rw [at_set h3,En,JZ];rfl
theorem J3 (c:UInt8)(r:List UInt8)(h:0<dM (c :: r)):step (c :: r)= .skip (dM (c :: r)) (if c.toNat=10 then 1 else 0):=by
 unfold dM at h ⊢
 unfold step
 simp only at h ⊢
 split at h
 ·rename_i hb
  have hr: [47,47].isPrefixOf (c :: r)=false:=by
   cases hp: [47,47].isPrefixOf (c :: r) with
   | false=>rfl
   | true=>
     have hc:c=47:=by simp [List.isPrefixOf] at hp;exact hp.1.symm
     subst hc;simp [dP] at hb
  rw [hr];simp [hb]
 ·rename_i hb
  split at h
  ·rename_i hp
   have hc:c=47:=by simp [List.isPrefixOf] at hp;exact hp.1.symm
   rw [hp];subst hc;simp [dP]
  ·omega
theorem NK (c:UInt8)(r:List UInt8)(h:dM (c :: r)=0):∀n nl,step (c :: r)≠.skip n nl:=by
 intro n nl
 have hbl:dP c.toNat=false:=by
  cases hb:dP c.toNat with
  | false=>rfl
  | true=>simp [dM,hb] at h
 have hr: [47,47].isPrefixOf (c :: r)=false:=by
  cases hp: [47,47].isPrefixOf (c :: r) with
  | false=>rfl
  | true=>
    have hc:c=47:=by simp [List.isPrefixOf] at hp;exact hp.1.symm
    subst hc
    simp only [dM,hbl,hp,Bool.false_eq_true,if_false,if_true] at h
    have:=kU (p:=(· != 10)) r (c:=47) (by decide)
    omega
 unfold step
 rw [hr]
 simp only [hbl,Bool.false_eq_true,if_false]
 repeat' split
 all_goals (intro e;cases e)
theorem NM (t:List UInt8)(ht:t.length≤32768)(σ:St)(Q:Out→Env→St→Prop):∀(k n l:Nat) (acc:List Tok) (out:AV) (σ1:St),n≤t.length→t.length≤n+k→l≤n→acc.length≤n→Ext σ σ1→σ1[σ.length]? =some ⟨0,false,.cells 51 [.i .i64 0,.i .i64 0]⟩→jS (σ.length+1) σ1 out acc→
 (∀acc' l' e' σ' out',kJ k (t.drop n) l acc= .done acc' l'→acc'.length≤t.length→Ext σ σ'→σ'[σ.length]? =some ⟨0,false,.cells 51 [.i .i64 0,.i .i64 0]⟩→jS (σ.length+1) σ' out' acc'→get e' 3= .p σ.length 0 0→get e' 4=out'→get e' 5= .i .i64 l'→Q (.exit 0) e' σ')→
 (∀e l' e' σ',kJ k (t.drop n) l acc= .bad e l'→Ext σ σ'→σ'[σ.length]? =some ⟨0,false,.cells 51 [.i .i64 e,.i .i64 l']⟩→get e' 3= .p σ.length 0 0→get e' 2= .sl0→Q .ret e' σ')→
 aW X [0,3,4,5,6] VT [(0,.s t),(3,.p σ.length 0 0),(4,out),(5,.i .i64 l),(6,.i .i64 n)] σ1 Q:=by
 intro k
 induction k with
 | zero=>
   intro n l acc out σ1 hn hk hl hacc hx hf ho h1 h2
   have hd:t.drop n=[]:=List.drop_of_length_le (by omega)
   rcases ho.cases with rfl | ⟨o1,g1,rfl⟩
   all_goals
    refine aW.round aH (lit:=false) ?_
    conv=>whnf
    rw [decide_eq_false (by omega)]
    conv=>whnf
    exact h1 acc l _ σ1 _ (by rw [hd];rfl) (by omega) hx hf ho rfl rfl rfl
 | succ k ih=>
   intro n l acc out σ1 hn hk hl hacc hx hf ho h1 h2
   by_cases hlt:n<t.length
   ·obtain⟨c,hc⟩:∃c,t[n]? =some c:=⟨_,List.getElem?_eq_getElem hlt⟩
    have hd:=drop_cons hc
    have hfit:=r_ c (t.drop (n+1))
    have hlen:=congrArg List.length hd
    simp only [List.length_drop,List.length_cons] at hlen
    have hG:kJ (k+1) (t.drop n) l acc=match step (t.drop n) with
     | .skip k' nl=>kJ k (t.drop (n+k')) (l+nl) acc
     | .tok kd m=>kJ k (t.drop (n+m)) l (acc ++ [⟨kd,(t.drop n).take m,l⟩])
     | .err e=>.bad e l:=by
        rw [hd]
        simp only [kJ]
        rw [←hd]
        cases step (t.drop n) <;> simp [List.drop_drop]
    rw [hG] at h1 h2
    rcases ho.cases with rfl | ⟨o1,g1,rfl⟩
    all_goals
        refine aW.round aH (lit:=false) ?_
        conv=>whnf
        rw [decide_eq_true (by omega)]
        conv=>whnf
        refine ay.to (QT t n n rfl (by omega) hlt σ1) ?_
        conv=>whnf
        by_cases hb:0<dM (t.drop n)
        ·have hs:=J3 c (t.drop (n+1)) (by rw [←hd];exact hb)
         rw [←hd] at hs hfit
         rw [hs] at h1 h2 hfit
         simp only [Stp.fits] at hfit h1 h2
         rw [decide_eq_true (by omega)]
         conv=>whnf
         refine⟨n,c,rfl,hc,?_⟩
         conv=>whnf
         have hlb:=hfit.2.1
         rw [List.length_drop] at hlb
         by_cases h10:c.toNat=10
         ·rw [decide_eq_true (show (c.toNat:Int)=10 by omega)]
          conv=>whnf
          refine⟨((l+1:Nat):Int),wrap_i64 (by omega) (by omega),?_⟩
          conv=>whnf
          refine⟨((n+dM (t.drop n):Nat):Int),wrap_i64 (by omega) (by omega),?_⟩
          conv=>whnf
          rw [if_pos h10] at h1 h2
          exact ih (n+dM (t.drop n)) (l+1) acc _ σ1 (by omega) (by omega) (by omega) (by omega) hx hf ho h1 h2
         ·rw [decide_eq_false (show ¬(c.toNat:Int)=10 by omega)]
          conv=>whnf
          refine⟨((n+dM (t.drop n):Nat):Int),wrap_i64 (by omega) (by omega),?_⟩
          conv=>whnf
          rw [if_neg h10] at h1 h2
          exact ih (n+dM (t.drop n)) l acc _ σ1 (by omega) (by omega) (by omega) (by omega) hx hf ho h1 h2
        ·have hb0:dM (t.drop n)=0:=by omega
         have hns:=NK c (t.drop (n+1)) (by rw [←hd];exact hb0)
         rw [←hd] at hns hfit
         rw [decide_eq_false (by omega)]
         conv=>whnf
         refine ay.to (U5 t n n rfl (by omega) hlt hb0 σ1) ?_
         cases hs:step (t.drop n) with
         | skip a b=>exact(hns a b hs).elim
         | err e=>
           rw [hs] at h1 h2 hfit
           simp only [Stp.fits] at hfit
           conv=>whnf
           refine ak (dO (T:=fB) rfl (aF _ _ _) rfl rfl (by decide)) ?_
           conv=>whnf
           rw [decide_eq_false (by omega)]
           conv=>whnf
           refine ak (dO (T:=qM) rfl (aK (at_new hf _ _) (by have:=aX hf;omega) _) rfl rfl (by decide)) ?_
           conv=>whnf
           refine h2 e l _ _ rfl (((hx.new _ _).set (by have:=hx.len;omega) _).set (Nat.le_refl _) _) (at_set (aK (at_new hf _ _) (by have:=aX hf;omega) _) _) rfl rfl
         | tok kd m=>
           rw [hs] at h1 h2 hfit
           simp only [Stp.fits] at hfit
           have hlb:=hfit.2.1
           rw [List.length_drop] at hlb
           have hfl:=aX hf
           conv=>whnf
           refine ak (aC (T:=fB) (fZ kd ((t.drop n).take m) 0) rfl (aF _ _ _) rfl rfl (by decide) rfl) ?_
           conv=>whnf
           have hB1:=at_set (aF 47 fB.zero.cells σ1) ⟨0,false,.cells 47 (fZ kd ((t.drop n).take m) 0)⟩
           have hx1:=((Ext.refl σ1).new 47 fB.zero.cells).set (Nat.le_refl _) ⟨0,false,.cells 47 (fZ kd ((t.drop n).take m) 0)⟩
           refine ak (aC (T:=cu) (fZ kd ((t.drop n).take m) l) rfl hB1 rfl rfl (Nat.le_of_ble_eq_true rfl) rfl) ?_
           conv=>whnf
           have hB2:=at_set hB1 ⟨0,false,.cells 47 (fZ kd ((t.drop n).take m) l)⟩
           have hx2:=hx1.set (Nat.le_refl _) ⟨0,false,.cells 47 (fZ kd ((t.drop n).take m) l)⟩
           refine ak (bQ (T:=fB) rfl rfl (ah hB2) (Nat.le_of_ble_eq_true rfl)) ?_
           conv=>whnf
           refine zU (A:=σ.length+1) (tk:=⟨kd,(t.drop n).take m,l⟩) ((ho.ge hx2).new _ _) (by omega) (aF _ _ _) (by rw [aG];have:=hx2.len;omega) fun II jY NP hk5 hl5 hn5=>?_
           have hx5:Ext σ jY:=⟨by omega,fun i hi=>by rw [hk5 i (by omega)];exact((hx.trans hx2).new _ _).old i hi⟩
           have hf5:jY[σ.length]? =some ⟨0,false,.cells 51 [.i .i64 0,.i .i64 0]⟩:=by rw [hk5 _ (by omega)];exact at_new (hx2.get hf) _ _
           have hB5:jY[σ1.length]? =some ⟨0,false,.cells 47 (fZ kd ((t.drop n).take m) l)⟩:=by
            rw [hn5 _ (by rw [aG];exact Nat.lt_succ_of_lt (aX hB2)) (fun o g n z e h=>?_)]
            ·exact at_new hB2 _ _
            ·rcases ho with ⟨_,e1⟩ | ⟨o',g',_,e1,e2⟩
             ·cases e1.symm.trans e
             ·cases e1.symm.trans e;have:=aX e2;omega
           rcases NP.cases with rfl | ⟨o2,g2,rfl⟩
           all_goals
            conv=>whnf
            refine ak (v:=.s ((t.drop n).take m)) (aj (T:=fA) rfl rfl (ah hB5) rfl) ?_
            conv=>whnf
            refine⟨((n+m:Nat):Int),by rw [wrap_i64 (by simp only [List.length_take,List.length_drop];omega) (by simp only [List.length_take,List.length_drop];omega)];simp only [List.length_take,List.length_drop];omega,?_⟩
            conv=>whnf
            exact ih (n+m) l _ _ jY (by omega) (by omega) (by omega) (by simp;omega) hx5 hf5 NP h1 h2
   ·have hd:t.drop n=[]:=List.drop_of_length_le (by omega)
    rcases ho.cases with rfl | ⟨o1,g1,rfl⟩
    all_goals
        refine aW.round aH (lit:=false) ?_
        conv=>whnf
        rw [decide_eq_false (by omega)]
        conv=>whnf
        exact h1 acc l _ σ1 _ (by rw [hd];rfl) (by omega) hx hf ho rfl rfl rfl
theorem U6 (t:List UInt8)(σ:St)(Q:AV→St→Prop)
 (h1:∀l out σ',qO t= .toks l→l.length≤40000→Ext σ σ'→jS (σ.length+1) σ' out l→Q (.tu [out,.ag [.i .i64 0,.i .i64 0]]) σ')
 (h2:∀e l,qO t= .bad e l→Q (.tu [.sl0,.ag [.i .i64 e,.i .i64 l]]) σ):ay X 13 [.s t] σ Q:=by
 refine ay.body (F:=F13) aH (lit:=false) rfl rfl (Nat.le_of_ble_eq_true rfl) ?_
 conv=>whnf
 by_cases hl:32768<t.length
 ·rw [decide_eq_true (by omega)]
  conv=>whnf
  refine ak (aC (T:=qM) [.i .i64 3,.i .i64 0] rfl (aF _ _ _) rfl rfl (by decide) rfl) ?_
  conv=>whnf
  refine ak (bQ (T:=qM) rfl rfl (ah (at_set (aF _ _ _) _)) (Nat.le_of_ble_eq_true rfl)) ?_
  conv=>whnf
  exact Fin.flat rfl (((Ext.refl σ).new _ _).set (Nat.le_refl _) _).take (h2 3 0 (by simp [qO,hl]))
 ·rw [decide_eq_false (by omega)]
  have hS:qO t=(kJ t.length (t.drop 0) 0 []).fin:=by rw [List.drop_zero];simp [qO,hl]
  rw [hS] at h1 h2
  conv=>whnf
  refine NM t (by omega) σ _ t.length 0 0 [] .sl0 _ (by omega) (by omega) (by omega) (by simp) ((Ext.refl σ).new _ _) (aF _ _ _) (.inl ⟨rfl,rfl⟩) (fun acc' l' e' σ' out' h hacc hx hf ho h3 h4 h5=>?_) (fun e l' e' σ' h hx hf h3 h2'=>?_)
  ·rw [h] at h1
   subst h4
   rcases ho.cases with h4 | ⟨o2,g2,h4⟩
   all_goals
        rw [h4] at ho
        conv=>whnf
        rw [h3];conv=>whnf
        rw [h4];conv=>whnf
        rw [h5];conv=>whnf
        refine zU (A:=σ.length+1) (tk:=⟨5,[],l'⟩) (ho.new _ _) (by omega) (aF _ _ _) (by rw [aG];have:=aX hf;omega) fun II jY NP hk5 hl5 _=>?_
        have hf5:jY[σ.length]? =some ⟨0,false,.cells 51 [.i .i64 0,.i .i64 0]⟩:=by rw [hk5 _ (by omega)];exact at_new hf _ _
        have hx5:Ext σ jY:=⟨by omega,fun i hi=>by rw [hk5 i (by omega)];exact(hx.new _ _).old i hi⟩
        have q1:=h1 _ II (jY.set σ.length ⟨0,false,.cells 51 [.i .i64 0,.i .i64 0]⟩) rfl (by simp;omega) (hx5.set (Nat.le_refl _) _) (NP.lt _ (by omega))
        rcases NP.cases with rfl | ⟨o3,g3,rfl⟩
        all_goals
         conv=>whnf
         refine ak (aC (T:=qM) [.i .i64 0,.i .i64 0] rfl hf5 rfl rfl (by decide) rfl) ?_
         conv=>whnf
         refine ak (bQ (T:=qM) rfl rfl (ah (at_set hf5 _)) (Nat.le_of_ble_eq_true rfl)) ?_
         conv=>whnf
         first
            | exact Fin.ref rfl q1
            | (exfalso;rcases NP with ⟨h6,_⟩ | ⟨o,g,_,h6,_⟩
               ·simp at h6
               ·cases h6)
  ·rw [h] at h2
   conv=>whnf
   rw [h2']
   conv=>whnf
   rw [h3]
   conv=>whnf
   refine ak (bQ (T:=qM) rfl rfl (ah hf) (Nat.le_of_ble_eq_true rfl)) ?_
   conv=>whnf
   exact Fin.flat rfl hx.take (h2 e l' rfl)
end Go.bP.YthoodopjoaigdaaGreatDoor
namespace Go.bP.YthoodopjoaigdaaGreatDoor
open Go.Proofs
set_option maxRecDepth 4000
theorem NQ (x:List UInt8)(o g:Nat)(l:List (List UInt8))(σ:St)(ho:dG σ o g=some (l.map (AV.s)))(hl:l.length≤100)(Q:Out→Env→St→Prop):∀(k m:Nat),m+k=l.length→
 ((l.drop m).contains x=false→∀e',Q (.exit 0) e' σ)→((l.drop m).contains x=true→∀e' r,get e' 4= .i .i64 r→0≤r→Q .ret e' σ)→
 aW X [0,1,7,8] V6 [(0,.sl o g 0 l.length 1),(1,AV.s x),(7,.i .i64 l.length),(8,.i .i64 m)] σ Q:=by
 intro k
 induction k with
 | zero=>
   intro m hm h1 h2
   refine aW.round aH (lit:=false) ?_
   conv=>whnf
   rw [decide_eq_false (by omega)]
   conv=>whnf
   exact h1 (by rw [show l.drop m=[] from List.drop_of_length_le (by omega)];rfl) _
 | succ k ih=>
   intro m hm h1 h2
   obtain⟨c,hc⟩:∃c,l[m]? =some c:=⟨_,List.getElem?_eq_getElem (by omega)⟩
   have hdr:l.drop m=c :: l.drop (m+1):=by
    obtain⟨hn,rfl⟩:=List.getElem?_eq_some_iff.1 hc
    rw [←List.getElem_cons_drop hn]
   have hw1:IntKind.i64.wrap ((m:Int)+1)=(m+1:Nat):=by rw [wrap_i64 (by omega) (by omega)];omega
   refine aW.round aH (lit:=false) ?_
   conv=>whnf
   rw [decide_eq_true (by omega)]
   conv=>whnf
   refine⟨m,rfl,by omega,?_⟩
   conv=>whnf
   refine ak (v:=AV.s c) (aj (T:=fA) rfl rfl ho (by simp [hc])) ?_
   conv=>whnf
   cases h:(x == c) with
   | true=>
     conv=>whnf
     exact h2 (by rw [hdr,List.contains_cons];simp_all) _ m rfl (by omega)
   | false=>
     conv=>whnf
     refine⟨_,hw1,?_⟩
     conv=>whnf
     have e1:(l.drop m).contains x=(l.drop (m+1)).contains x:=by
        rw [hdr,List.contains_cons]
        have:(x == c)=false:=by simpa using h
        rw [this];simp
     exact ih (m+1) (by omega) (by rw [←e1];exact h1) (by rw [←e1];exact h2)
theorem U7 (x:List UInt8)(o g:Nat)(l:List (List UInt8))(σ:St)(ho:dG σ o g=some (l.map (AV.s)))(hl:l.length≤100) :
 ay X 62 [.sl o g 0 l.length 1,AV.s x] σ fun v s=>∃r,v= .i .i64 r∧s=σ∧decide (0≤r)=l.contains x:=by
 refine ay.body (F:=F62) aH (lit:=false) rfl rfl (Nat.le_of_ble_eq_true rfl) ?_
 conv=>whnf
 refine NQ x o g l σ ho hl _ l.length 0 (by omega) (fun h e'=>?_) (fun h e' r he hr=>?_)
 ·conv=>whnf
  rw [List.drop_zero] at h
  exact Fin.flat rfl List.take_length ⟨-1,rfl,rfl,by rw [h];rfl⟩
 ·conv=>whnf
  rw [he]
  conv=>whnf
  rw [List.drop_zero] at h
  exact Fin.flat rfl List.take_length ⟨r,rfl,rfl,by rw [h];exact decide_eq_true hr⟩
theorem zW (x:List UInt8)(o g:Nat)(l:List (List UInt8))(σ:St)(ho:dG σ o g=some (l.map (AV.s)))(hl:l.length≤100) :
 ay X 27 [.sl o g 0 l.length 1,AV.s x] σ fun v s=>v= .b (l.contains x)∧s=σ:=by
 refine ay.body (F:=F27) aH (lit:=false) rfl rfl (Nat.le_of_ble_eq_true rfl) ?_
 conv=>whnf
 refine(U7 x o g l σ ho hl).mono ?_
 rintro v s ⟨r,rfl,rfl,hr⟩
 conv=>whnf
 rw [hr]
 cases h:l.contains x with
 | true=>conv=>whnf
         exact Fin.flat rfl List.take_length ⟨rfl,rfl⟩
 | false=>conv=>whnf
          exact Fin.flat rfl List.take_length ⟨rfl,rfl⟩
theorem J4 (x:Int)(o g:Nat)(l:List (Int))(σ:St)(ho:dG σ o g=some (l.map (AV.i .i64)))(hl:l.length≤100)(Q:Out→Env→St→Prop):∀(k m:Nat),m+k=l.length→
 ((l.drop m).contains x=false→∀e',Q (.exit 0) e' σ)→((l.drop m).contains x=true→∀e' r,get e' 4= .i .i64 r→0≤r→Q .ret e' σ)→
 aW X [0,1,7,8] V_ [(0,.sl o g 0 l.length 1),(1,AV.i .i64 x),(7,.i .i64 l.length),(8,.i .i64 m)] σ Q:=by
 intro k
 induction k with
 | zero=>
   intro m hm h1 h2
   refine aW.round aH (lit:=false) ?_
   conv=>whnf
   rw [decide_eq_false (by omega)]
   conv=>whnf
   exact h1 (by rw [show l.drop m=[] from List.drop_of_length_le (by omega)];rfl) _
 | succ k ih=>
   intro m hm h1 h2
   obtain⟨c,hc⟩:∃c,l[m]? =some c:=⟨_,List.getElem?_eq_getElem (by omega)⟩
   have hdr:l.drop m=c :: l.drop (m+1):=by
    obtain⟨hn,rfl⟩:=List.getElem?_eq_some_iff.1 hc
    rw [←List.getElem_cons_drop hn]
   have hw1:IntKind.i64.wrap ((m:Int)+1)=(m+1:Nat):=by rw [wrap_i64 (by omega) (by omega)];omega
   refine aW.round aH (lit:=false) ?_
   conv=>whnf
   rw [decide_eq_true (by omega)]
   conv=>whnf
   refine⟨m,rfl,by omega,?_⟩
   conv=>whnf
   refine ak (v:=AV.i .i64 c) (aj (T:=yT73) rfl rfl ho (by simp [hc])) ?_
   conv=>whnf
   cases h:(decide (x=c)) with
   | true=>
     conv=>whnf
     exact h2 (by rw [hdr,List.contains_cons];simp_all) _ m rfl (by omega)
   | false=>
     conv=>whnf
     refine⟨_,hw1,?_⟩
     conv=>whnf
     have e1:(l.drop m).contains x=(l.drop (m+1)).contains x:=by
        rw [hdr,List.contains_cons]
        have:(x == c)=false:=by simpa using h
        rw [this];simp
     exact ih (m+1) (by omega) (by rw [←e1];exact h1) (by rw [←e1];exact h2)
theorem QX (x:Int)(o g:Nat)(l:List (Int))(σ:St)(ho:dG σ o g=some (l.map (AV.i .i64)))(hl:l.length≤100) :
 ay X 93 [.sl o g 0 l.length 1,AV.i .i64 x] σ fun v s=>∃r,v= .i .i64 r∧s=σ∧decide (0≤r)=l.contains x:=by
 refine ay.body (F:=F93) aH (lit:=false) rfl rfl (Nat.le_of_ble_eq_true rfl) ?_
 conv=>whnf
 refine J4 x o g l σ ho hl _ l.length 0 (by omega) (fun h e'=>?_) (fun h e' r he hr=>?_)
 ·conv=>whnf
  rw [List.drop_zero] at h
  exact Fin.flat rfl List.take_length ⟨-1,rfl,rfl,by rw [h];rfl⟩
 ·conv=>whnf
  rw [he]
  conv=>whnf
  rw [List.drop_zero] at h
  exact Fin.flat rfl List.take_length ⟨r,rfl,rfl,by rw [h];exact decide_eq_true hr⟩
theorem IJ (x:Int)(o g:Nat)(l:List (Int))(σ:St)(ho:dG σ o g=some (l.map (AV.i .i64)))(hl:l.length≤100) :
 ay X 61 [.sl o g 0 l.length 1,AV.i .i64 x] σ fun v s=>v= .b (l.contains x)∧s=σ:=by
 refine ay.body (F:=F61) aH (lit:=false) rfl rfl (Nat.le_of_ble_eq_true rfl) ?_
 conv=>whnf
 refine(QX x o g l σ ho hl).mono ?_
 rintro v s ⟨r,rfl,rfl,hr⟩
 conv=>whnf
 rw [hr]
 cases h:l.contains x with
 | true=>conv=>whnf
         exact Fin.flat rfl List.take_length ⟨rfl,rfl⟩
 | false=>conv=>whnf
          exact Fin.flat rfl List.take_length ⟨rfl,rfl⟩
theorem wH (l:List UInt8)(c:Int)(σ:St)(Q:AV→St→Prop)(q:Q (.i .i64 (Lib.indexByte l c.toNat.toUInt8)) σ):ay X 24 [.s l,.i .u8 c] σ Q:=by
 refine ay.of ?_
 rw [jq (g:=pF) rfl]
 exact⟨_,rfl,q⟩
theorem J5 (s w:List UInt8)(σ:St):ay X 59 [.s s,.s w] σ fun v s'=>v= .b (w.isPrefixOf s)∧s'= σ:=by
 refine ay.body (F:=F59) aH (lit:=false) rfl rfl (Nat.le_of_ble_eq_true rfl) ?_
 conv=>whnf
 by_cases h:w.length≤s.length
 ·have e1:w.isPrefixOf s=(s.take w.length == w):=by
   rw [Bool.eq_iff_iff,List.isPrefixOf_iff_prefix,List.prefix_iff_eq_take,beq_iff_eq]
   exact eq_comm
  rw [decide_eq_true (by omega)]
  conv=>whnf
  refine⟨w.length,rfl,h,?_⟩
  conv=>whnf
  rw [e1]
  cases h:s.take w.length == w with
  | true=>
    conv=>whnf
    exact Fin.flat rfl List.take_length ⟨rfl,rfl⟩
  | false=>
    conv=>whnf
    exact Fin.flat rfl List.take_length ⟨rfl,rfl⟩
 ·have e1:w.isPrefixOf s=false:=by
   rw [Bool.eq_false_iff]
   intro hp
   exact h (List.isPrefixOf_iff_prefix.1 hp).length_le
  rw [decide_eq_false (by omega)]
  conv=>whnf
  exact Fin.flat rfl List.take_length ⟨by rw [e1],rfl⟩
theorem NR (s w:List UInt8)(σ:St):ay X 23 [.s s,.s w] σ fun v s'=>v= .b (w.isPrefixOf s)∧s'= σ:=by
 refine ay.body (F:=F23) aH (lit:=false) rfl rfl (Nat.le_of_ble_eq_true rfl) ?_
 conv=>whnf
 refine ay.to (J5 s w σ) ?_
 conv=>whnf
 cases w.isPrefixOf s with
 | true=>
   conv=>whnf
   exact Fin.flat rfl List.take_length ⟨rfl,rfl⟩
 | false=>
   conv=>whnf
   exact Fin.flat rfl List.take_length ⟨rfl,rfl⟩
set_option maxHeartbeats 4000000 in
theorem QY (c:Int)(h:0≤c∧c≤1114111)(σ:St):ay X 25 [.i .i32 c] σ fun v s=>v= .i .i64 (kindOf c)∧s=σ:=by
 refine ay.body (F:=F25) aH (lit:=false) rfl rfl (Nat.le_of_ble_eq_true rfl) ?_
 cases hb:dP c with
 | true=>
   have e1:kindOf c=1:=by unfold kindOf;rw [hb];rfl
   rw [e1]
   repeat' ((conv=>whnf);split)
   all_goals (conv=>whnf)
   all_goals first
    | exact Fin.flat rfl List.take_length ⟨rfl,rfl⟩
    | (exfalso;simp_all [dP];done)
 | false=>
   have b0:=hb
   simp only [dP,Bool.or_eq_false_iff,beq_eq_false_iff_ne] at b0
   obtain⟨⟨⟨b1,b2⟩,b3⟩,b4⟩:=b0
   conv=>whnf
   rw [decide_eq_false b1]
   conv=>whnf
   rw [decide_eq_false b2]
   conv=>whnf
   rw [decide_eq_false b3]
   conv=>whnf
   rw [decide_eq_false b4]
   have e1:kindOf c=if bT c then 2 else if isDigit c then 3 else if pY c then 4 else 0:=by unfold kindOf;rw [hb];rfl
   generalize kindOf c=kd at e1 ⊢
   repeat' ((conv=>whnf);split)
   all_goals (conv=>whnf)
   all_goals first
    | exact Fin.flat rfl List.take_length ⟨by congr 1;rw [e1];grind [bT,isDigit],rfl⟩
    | skip
   all_goals
    refine⟨_,rfl,?_⟩
    conv=>whnf
    refine wH _ _ _ _ ?_
    repeat' ((conv=>whnf);split)
   all_goals (conv=>whnf)
   all_goals exact Fin.flat rfl List.take_length ⟨by congr 1;rw [e1];grind [bT,isDigit,pY,ones],rfl⟩
end Go.bP.YthoodopjoaigdaaGreatDoor
namespace Go.bP.YthoodopjoaigdaaGreatDoor
open Go.Proofs
set_option maxRecDepth 4000
theorem QZ (t:List UInt8)(k:Nat):(⟨t.toArray⟩:ByteArray).get! k=t.getD k default:=by
 show (t.toArray)[k]! =_
 simp only [List.getD,getElem!_def,List.getElem?_toArray]
 cases t[k]? <;> rfl
theorem IK (t:List UInt8)(k:Nat)(c:UInt8)(h:t[k]? =some c) :
 (c.toNat<128→Utf8.decode ⟨t.toArray⟩ k=(c.toNat,1))∧(128≤c.toNat→128≤(Utf8.decode ⟨t.toArray⟩ k).1∧(Utf8.decode ⟨t.toArray⟩ k).1≤1114111):=by
 have h0:((⟨t.toArray⟩:ByteArray).get! (k+0)).toNat=c.toNat:=by rw [QZ,Nat.add_zero];simp [List.getD,h]
 constructor
 ·intro hc
  unfold Utf8.decode
  simp only [h0]
  rw [if_pos (show c.toNat<0x80 from hc)]
 ·intro hc
  unfold Utf8.decode
  simp only [h0]
  rw [if_neg (show ¬c.toNat<0x80 by omega)]
  have e1:∀x,x<256→(c.toNat%32)*64+x%64≤2047:=by intro x _;omega
  split
  ·split
   ·exact⟨by assumption,by show _≤1114111;omega⟩
   ·exact⟨by decide,by decide⟩
  ·split
   ·split
    ·rename_i h5
     rw [Bool.and_eq_true,decide_eq_true_eq] at h5
     exact⟨Nat.le_trans (by decide) h5.1,by show _≤1114111;omega⟩
    ·exact⟨by decide,by decide⟩
   ·split
    ·split
     ·rename_i h5
      rw [Bool.and_eq_true,decide_eq_true_eq] at h5
      refine⟨Nat.le_trans (by decide) h5.1,?_⟩
      have:=h5.2
      simp only [Utf8.valid,Bool.or_eq_true,Bool.and_eq_true,decide_eq_true_eq] at this
      show _≤1114111
      omega
     ·exact⟨by decide,by decide⟩
    ·exact⟨by decide,by decide⟩
theorem IL (c:Int)(h:128≤c):kindOf c=0:=by
 have h1:dP c=false:=by simp [dP];omega
 have h2:bT c=false:=by simp [bT];omega
 have h3:isDigit c=false:=by simp [isDigit];omega
 have h4:pY c=false:=by simp only [pY,Bool.and_eq_false_iff];exact .inr (decide_eq_false (by omega))
 simp [kindOf,h1,h2,h3,h4]
theorem Eo {σ:St} {o:Nat} {s:List UInt8} {p:Nat} (h:σ[o]? =some ⟨0,false,.iter s p⟩):iterAt σ o 0=some (s,p):=by simp [iterAt,h]
theorem NS (t:List UInt8)(ht:t.length≤100000)(ks:List Int)(hks:ks.length≤100)(h0:ks.contains 0=false)(o g:Nat)(σ:St)(ho:dG σ o g=some (ks.map (.i .i64)))(Q:Out→Env→St→Prop):∀(k m:Nat) (σ1:St),m+k=t.length→Ext σ σ1→σ1[σ.length]? =some ⟨0,false,.iter t m⟩→
 (run (fun c=>ks.contains (kindOf c)) (t.drop m)=k→∀e' σ',Ext σ σ'→get e' 0= .s t→Q (.exit 0) e' σ')→
 (run (fun c=>ks.contains (kindOf c)) (t.drop m)<k→∀e' σ',Ext σ σ'→get e' 4= .i .i64 ((m+run (fun c=>ks.contains (kindOf c)) (t.drop m):Nat):Int)→Q .ret e' σ')→
 aW X [0,1,8] VX [(0,.s t),(1,.sl o g 0 ks.length 1),(8,.p σ.length 0 0)] σ1 Q:=by
 intro k
 induction k with
 | zero=>
   intro m σ1 hm hx hi h1 h2
   refine aW.round aH (lit:=false) ?_
   conv=>whnf
   refine ak (Eo hi) ?_
   conv=>whnf
   rw [decide_eq_false (by show ¬m<t.length;omega)]
   conv=>whnf
   exact h1 (by rw [List.drop_of_length_le (by omega)];rfl) _ _ hx rfl
 | succ k ih=>
   intro m σ1 hm hx hi h1 h2
   obtain⟨c,hc⟩:∃c,t[m]? =some c:=⟨_,List.getElem?_eq_getElem (by omega)⟩
   have hd:=drop_cons hc
   obtain⟨hlow,hhigh⟩:=IK t m c hc
   refine aW.round aH (lit:=false) ?_
   conv=>whnf
   refine ak (Eo hi) ?_
   conv=>whnf
   rw [decide_eq_true (by show m<t.length;omega)]
   conv=>whnf
   have hx2:∀a,Ext σ (σ1.set σ.length a):=fun a=>hx.set (Nat.le_refl _) a
   have hcs:∀a,dG (σ1.set σ.length a) o g=some (ks.map (.i .i64)):=by
    intro a
    have hol:o<σ.length:=by
        unfold dG at ho
        rcases Nat.lt_or_ge o σ.length with h | h
        ·exact h
        ·rw [List.getElem?_eq_none h] at ho;cases ho
    unfold dG at ho ⊢
    rw [(hx2 a).old o hol];exact ho
   by_cases hlt:c.toNat<128
   ·rw [show Utf8.decode ⟨t.toArray⟩ m=(c.toNat,1) from hlow hlt]
    conv=>whnf
    refine ay.to (QY c.toNat (by omega) _) ?_
    conv=>whnf
    refine ay.to (IJ (kindOf c.toNat) o g ks _ (hcs _) hks) ?_
    conv=>whnf
    cases hk:ks.contains (kindOf c.toNat) with
    | true=>
      have e1:run (fun c=>ks.contains (kindOf c)) (t.drop m)=run (fun c=>ks.contains (kindOf c)) (t.drop (m+1))+1:=by
       rw [hd];simp only [run,hk,if_true]
      conv=>whnf
      refine ih (m+1) _ (by omega) (hx2 _) (at_set hi _) (fun h=>h1 (by omega)) (fun h e' σ' hx' h'=>h2 (by omega) e' σ' hx' ?_)
      rw [h',e1,show m+1+run (fun c=>ks.contains (kindOf c)) (t.drop (m+1))=m+(run (fun c=>ks.contains (kindOf c)) (t.drop (m+1))+1) by omega]
    | false=>
      have e1:run (fun c=>ks.contains (kindOf c)) (t.drop m)=0:=by
       rw [hd];simp only [run,hk];rfl
      conv=>whnf
      exact h2 (by omega) _ _ (hx2 _) (by rw [e1];rfl)
   ·have hh:=hhigh (by omega)
    generalize Utf8.decode ⟨t.toArray⟩ m=dd at hh ⊢
    obtain⟨r,d⟩:=dd
    have hk0:kindOf (c.toNat:Int)=0:=IL _ (by omega)
    have e1:run (fun c=>ks.contains (kindOf c)) (t.drop m)=0:=by
        rw [hd];simp only [run,hk0,h0];rfl
    conv=>whnf
    refine ay.to (QY (r:Nat) ⟨by omega,by have:=hh.2;simp only at this;omega⟩ _) ?_
    rw [IL (r:Nat) (by have:=hh.1;simp only at this;omega)]
    conv=>whnf
    refine ay.to (IJ 0 o g ks _ (hcs _) hks) ?_
    rw [h0]
    conv=>whnf
    exact h2 (by omega) _ _ (hx2 _) (by rw [e1];rfl)
theorem FN (t:List UInt8)(ht:t.length≤100000)(ks:List Int)(hks:ks.length≤100)(h0:ks.contains 0=false)(o g:Nat)(σ:St)(ho:dG σ o g=some (ks.map (.i .i64))) :
 ay X 26 [.s t,.sl o g 0 ks.length 1] σ fun v s=>v= .i .i64 (run (fun c=>ks.contains (kindOf c)) t)∧s=σ:=by
 have hrl:=mY (fun c=>ks.contains (kindOf c)) t
 refine ay.body (F:=F26) aH (lit:=false) rfl rfl (Nat.le_of_ble_eq_true rfl) ?_
 conv=>whnf
 refine NS t ht ks hks h0 o g σ ho _ t.length 0 _ (by omega) ⟨by simp,fun i hi=>by rw [List.getElem?_append_left hi]⟩ (by simp) (fun h e' σ' hx h'=>?_) (fun h e' σ' hx h'=>?_)
 ·conv=>whnf
  rw [h']
  conv=>whnf
  rw [List.drop_zero] at h
  exact Fin.flat rfl hx.take ⟨by rw [h],rfl⟩
 ·conv=>whnf
  rw [h']
  conv=>whnf
  rw [List.drop_zero,Nat.zero_add]
  exact Fin.flat rfl hx.take ⟨rfl,rfl⟩
theorem Yi (s:List UInt8)(σ:St)(ht:σ.take G0.length=G0):ay X 30 [.s s] σ fun v s'=>v= .b (lJ.contains (s.take 2))∧s'= σ:=by
 refine ay.body (F:=F30) aH (lit:=false) rfl rfl (Nat.le_of_ble_eq_true rfl) ?_
 conv=>whnf
 by_cases h:2≤s.length
 ·rw [decide_eq_true (by omega)]
  conv=>whnf
  refine⟨2,rfl,h,?_⟩
  conv=>whnf
  refine BR σ _ ht ?_
  conv=>whnf
  refine⟨⟨2,rfl,h,rfl⟩,?_⟩
  conv=>whnf
  refine ay.to (zW (s.take 2) _ _ lJ _ (ah (pJ _ _ _)) (by decide)) ?_
  cases hc:lJ.contains (s.take 2) with
  | true=>
    conv=>whnf
    exact Fin.flat rfl ((Ext.refl σ).one _ _).take ⟨rfl,rfl⟩
  | false=>
    conv=>whnf
    exact Fin.flat rfl ((Ext.refl σ).one _ _).take ⟨rfl,rfl⟩
 ·have e1:lJ.contains (s.take 2)=false:=by
   have:∀w∈lJ,w.length=2:=by decide
   cases hc:lJ.contains (s.take 2) with
   | false=>rfl
   | true=>have:=this _ (List.contains_iff_mem.1 hc);simp at this;omega
  rw [e1,decide_eq_false (by omega)]
  conv=>whnf
  refine⟨rfl,?_⟩
  conv=>whnf
  exact Fin.flat rfl List.take_length ⟨rfl,rfl⟩
theorem Q5 (σ:St)(Q:AV→St→Prop)(ht:σ.take G0.length=G0)(q:Q (.sl σ.length 1 0 12 1) (ji 9 (keys.map .s) σ)):ay X 28 [] σ Q:=by
 refine ay.body (F:=F28) aH (lit:=false) rfl rfl (Nat.le_of_ble_eq_true rfl) ?_
 conv=>whnf
 refine BQ σ _ ht ?_
 conv=>whnf
 exact Fin.ref rfl q
end Go.bP.YthoodopjoaigdaaGreatDoor
namespace Go.bP.YthoodopjoaigdaaGreatDoor
open Go.Proofs
set_option maxRecDepth 4000
theorem kZ {σ σ':St} (h:Ext σ σ')(hg:σ.take G0.length=G0):σ'.take G0.length=G0:=by
 have hl:G0.length≤σ.length:=by have:=congrArg List.length hg;rw [List.length_take] at this;omega
 apply List.ext_getElem?
 intro i
 rw [List.getElem?_take]
 split
 ·rename_i hi;rw [h.old i (by omega)];exact rW hg hi
 ·rename_i hi;exact(List.getElem?_eq_none (by omega)).symm
theorem Dp (s:List UInt8):Lib.indexByte s 10=if run (· != 10) s<s.length then(run (· != 10) s:Int) else -1:=by
 induction s with
 | nil=>rfl
 | cons c s ih=>
   unfold Lib.indexByte
   by_cases h:c=10
   ·subst h
    simp [run]
   ·have h1:(c == 10)=false:=by simpa using h
    have h2:((c.toNat:Int) != 10)=true:=by
        have:c.toNat≠10:=fun e=>h (UInt8.toNat_inj.1 e)
        simp;omega
    rw [h1]
    simp only [Bool.false_eq_true,if_false,run,h2,if_true,List.length_cons,Nat.add_lt_add_iff_right]
    rw [ih]
    by_cases hr:run (· != 10) s<s.length
    ·simp only [hr,if_true]
     have:((run (· != 10) s:Int) == -1)=false:=by simp <;> omega
     rw [this];simp
    ·simp only [hr,if_false];simp
structure LS (σ σ1:St)(s:List UInt8)(l:Nat)(acc:List Tok):Prop where
 x:Ext σ σ1
 b:σ1[σ.length]? =some ⟨0,false,.cells 9 [.s s]⟩
 o:∃out,σ1[σ.length+1]? =some ⟨0,false,.cells 36 [out]⟩∧jS (σ.length+3) σ1 out acc
 n:σ1[σ.length+2]? =some ⟨0,false,.cells 3 [.i .i64 l]⟩
section
variable {σ σ1:St} {s:List UInt8} {l:Nat} {acc:List Tok}
theorem LS.new (h:LS σ σ1 s l acc)(e:Nat)(cs:List AV):LS σ (au e cs σ1) s l acc:=by
 obtain⟨out,h1,h2⟩:=h.o
 exact⟨h.x.new _ _,at_new h.b _ _,⟨out,at_new h1 _ _,h2.new _ _⟩,at_new h.n _ _⟩
theorem LS.one (h:LS σ σ1 s l acc)(e:Nat)(cs:List AV):LS σ (ji e cs σ1) s l acc:=by
 obtain⟨out,h1,h2⟩:=h.o
 exact⟨h.x.one _ _,rY h.b _ _,⟨out,rY h1 _ _,h2.ge ((Ext.refl _).one _ _)⟩,rY h.n _ _⟩
theorem LS.text (h:LS σ σ1 s l acc)(s':List UInt8):LS σ (σ1.set σ.length ⟨0,false,.cells 9 [.s s']⟩) s' l acc:=by
 obtain⟨out,h1,h2⟩:=h.o
 exact⟨h.x.set (Nat.le_refl _) _,at_set h.b _,⟨out,aK h1 (by omega) _,h2.lt _ (by omega)⟩,aK h.n (by omega) _⟩
theorem LS.line (h:LS σ σ1 s l acc)(l':Nat):LS σ (σ1.set (σ.length+2) ⟨0,false,.cells 3 [.i .i64 l']⟩) s l' acc:=by
 obtain⟨out,h1,h2⟩:=h.o
 exact⟨h.x.set (by omega) _,aK h.b (by omega) _,⟨out,aK h1 (by omega) _,h2.lt _ (by omega)⟩,at_set h.n _⟩
end
theorem xX {σ σ1:St} {s:List UInt8} {l:Nat} {acc:List Tok} (h:LS σ σ1 s l acc)(hacc:acc.length≤100000)(kd n:Nat)(hn:0<n)(hs:n≤s.length) {Q:AV→St→Prop}
 (q:∀σ',LS σ σ' (s.drop n) l (acc ++ [⟨kd,s.take n,l⟩])→Q (.tu []) σ'):ay X 22 [.i .i64 kd,.i .i64 n,.p (σ.length+1) 0 0,.p σ.length 0 0,.p (σ.length+2) 0 0] σ1 Q:=by
 obtain⟨out,h1,h2⟩:=h.o
 refine ay.body (F:=F22) aH (lit:=false) rfl rfl (Nat.le_of_ble_eq_true rfl) ?_
 rcases h2.cases with rfl | ⟨o1,g1,rfl⟩
 all_goals
  conv=>whnf
  refine ak (aj (T:=nM) rfl rfl (ah h1) rfl) ?_
  conv=>whnf
  refine ak (aj (T:=fA) rfl rfl (ah h.b) rfl) ?_
  conv=>whnf
  refine⟨n,rfl,hs,?_⟩
  conv=>whnf
  refine ak (aj (T:=cu) rfl rfl (ah h.n) rfl) ?_
  conv=>whnf
  refine⟨ak (aj (T:=nM) rfl rfl (ah (at_new h1 _ _)) rfl) rfl,?_⟩
  conv=>whnf
  refine zU (A:=σ.length+3) (tk:=⟨kd,s.take n,l⟩) (h2.new _ _) hacc (aF _ _ _) (by rw [aG];have:=aX h.n;omega) fun II jY NP hk5 hl5 _=>?_
  have hb5:jY[σ.length]? =some ⟨0,false,.cells 9 [.s s]⟩:=by rw [hk5 _ (by omega)];exact at_new h.b _ _
  obtain⟨w5,ho5'⟩:∃w5,jY[σ.length+1]? =some ⟨0,false,.cells 36 [w5]⟩:=⟨_,by rw [hk5 _ (by omega)];exact at_new h1 _ _⟩
  have hn5:jY[σ.length+2]? =some ⟨0,false,.cells 3 [.i .i64 l]⟩:=by rw [hk5 _ (by omega)];exact at_new h.n _ _
  have hx5:Ext σ jY:=⟨by omega,fun i hi=>by rw [hk5 i (by omega)];exact(h.x.new _ _).old i hi⟩
  have fin:∀lV,lV=(jY.set (σ.length+1) ⟨0,false,.cells 36 [II]⟩).set σ.length ⟨0,false,.cells 9 [.s (s.drop n)]⟩→Fin σ1 (.tu []) lV Q:=by
   intro lV e6
   subst e6
   refine Fin.ne (fun e=>?_) (q _ ⟨(hx5.set (by omega) _).set (Nat.le_refl _) _,at_set (aK hb5 (by omega) _) _,⟨II,aK (at_set ho5' _) (by omega) _,(NP.lt _ (by omega)).lt _ (by omega)⟩,aK (aK hn5 (by omega) _) (by omega) _⟩)
   have e1:=congrArg (fun l=>l[σ.length]?) e
   have hlt:=aX h.b
   simp only [List.getElem?_take] at e1
   rw [if_pos hlt,h.b,at_set (aK hb5 (by omega) _)] at e1
   have e2:s.drop n=s:=by simpa using e1
   have e3:=congrArg List.length e2
   rw [List.length_drop] at e3;omega
  rcases NP.cases with rfl | ⟨o3,g3,rfl⟩
  all_goals
   conv=>whnf
   refine ak (aC (T:=nM) [_] rfl ho5' rfl rfl (Nat.le_of_ble_eq_true rfl) rfl) ?_
   conv=>whnf
   refine ak (aj (T:=fA) rfl rfl (ah (aK hb5 (by omega) _)) rfl) ?_
   conv=>whnf
   refine⟨n,rfl,hs,?_⟩
   conv=>whnf
   refine ak (aC (T:=fA) [.s (s.drop n)] rfl (aK hb5 (by omega) _) rfl rfl (Nat.le_of_ble_eq_true rfl) rfl) ?_
   conv=>whnf
   exact fin _ rfl
theorem U8:(fun c:Int=>[2,3].contains (kindOf c))=isWord:=by
 funext c
 unfold kindOf isWord
 by_cases hb:dP c=true
 ·have h1:bT c=false:=by simp [dP] at hb;simp [bT];omega
  have h2:isDigit c=false:=by simp [dP] at hb;simp [isDigit];omega
  simp [hb,h1,h2]
 ·cases h1:bT c <;> cases h2:isDigit c <;> cases h3:pY c <;> simp [hb]
theorem Q7:(fun c:Int=>[3].contains (kindOf c))=isDigit:=by
 funext c
 unfold kindOf
 by_cases hb:dP c=true
 ·have h2:isDigit c=false:=by simp [dP] at hb;simp [isDigit];omega
  simp [hb,h2]
 ·cases h1:bT c <;> cases h2:isDigit c <;> cases h3:pY c <;> simp [hb]
  all_goals (exfalso;simp [bT] at h1;simp [isDigit] at h2;omega)
theorem NT:(fun c:Int=>[2].contains (kindOf c))=bT:=by
 funext c
 unfold kindOf
 by_cases hb:dP c=true
 ·have h2:bT c=false:=by simp [dP] at hb;simp [bT];omega
  simp [hb,h2]
 ·cases h1:bT c <;> cases h2:isDigit c <;> cases h3:pY c <;> simp [hb]
theorem Q8 (t:List UInt8)(ht:t.length≤100000)(σ:St):ay X 26 [.s t,.sl σ.length 0 0 2 1] (au 73 [.i .i64 2,.i .i64 3] σ) fun v s=>v= .i .i64 (run isWord t)∧s=au 73 [.i .i64 2,.i .i64 3] σ:=by
 have:=FN t ht [2,3] (by decide) (by decide) σ.length 0 _ (iR 73 [.i .i64 2,.i .i64 3] σ)
 rw [U8] at this;exact this
theorem NU (t:List UInt8)(ht:t.length≤100000)(σ:St):ay X 26 [.s t,.sl σ.length 0 0 1 1] (au 73 [.i .i64 3] σ) fun v s=>v= .i .i64 (run isDigit t)∧s=au 73 [.i .i64 3] σ:=by
 have:=FN t ht [3] (by decide) (by decide) σ.length 0 _ (iR 73 [.i .i64 3] σ)
 rw [Q7] at this;exact this
theorem B_ (t:List UInt8)(ht:t.length≤100000)(σ:St):ay X 26 [.s t,.sl σ.length 0 0 1 1] (au 73 [.i .i64 2] σ) fun v s=>v= .i .i64 (run bT t)∧s=au 73 [.i .i64 2] σ:=by
 have:=FN t ht [2] (by decide) (by decide) σ.length 0 _ (iR 73 [.i .i64 2] σ)
 rw [NT] at this;exact this
def Q9:Lib.NumEnd Nat→Bool
 | .ok _=>false
 | .range=>false
 | _=>true
theorem Ep:∀(l:List UInt8) (M v:Nat),(∀c∈l,isDigit c.toNat=true)→Q9 (Lib.parseUintM M v l)=false
 | [],M,v,_=>by simp [Lib.parseUintM,Q9]
 | c :: r,M,v,hd=>by
   have h1:=hd c (List.mem_cons_self ..)
   simp only [isDigit,Bool.and_eq_true,decide_eq_true_eq] at h1
   unfold Lib.parseUintM
   rw [if_pos (by omega)]
   split
   ·rfl
   ·split
    ·rfl
    ·exact Ep r M _ fun c hc=>hd c (List.mem_cons_of_mem _ hc)
theorem IQ (l:List UInt8)(hd:∀c∈l,isDigit c.toNat=true)(hn:l≠[])(hl:l.length≤100000)(σ:St)(hg:σ.take G0.length=G0)(Q:AV→St→Prop)
 (h1:tooBig l=false→∀u:Nat,Q (.tu [.i .u64 u,.fM]) σ) (h2:tooBig l=true→Q (.tu [.i .u64 4294967295,.ic 165 .u]) σ) :
 ay X 29 [.s l,.i .i64 10,.i .i64 32] σ Q:=by
 refine ay.of ?_
 rw [jq (g:=jA) rfl]
 have hp:Q9 (Lib.parseUintB 32 l)=false:=by unfold Lib.parseUintB;rw [if_neg hn];exact Ep l _ _ hd
 have h5:σ[5]? =G0[5]? :=rW hg (by decide)
 unfold jA
 simp only
 rw [if_pos (by omega)]
 unfold tooBig at h1 h2
 generalize Lib.parseUintB 32 l=r at hp h1 h2
 cases r
 ·exact⟨_,rfl,h1 rfl _⟩
 ·cases hp
 ·simp only
  rw [h5]
  exact⟨_,rfl,h2 rfl⟩
set_option maxHeartbeats 4000000 in
theorem NV (σ:St)(hg:σ.take G0.length=G0)(Q:Out→Env→St→Prop):∀(k:Nat) (s:List UInt8) (l:Nat) (acc:List Tok) (σ1:St),s.length≤k→l+k≤32768→acc.length+k≤32768→LS σ σ1 s l acc→
 (∀acc' l' e' σ' s',kJ k s l acc= .done acc' l'→acc'.length≤32768→LS σ σ' s' l' acc'→get e' 4= .p (σ.length+1) 0 0→get e' 5= .p (σ.length+2) 0 0→get e' 7= .i .i64 0→get e' 1000000= .u→Q (.exit 0) e' σ')→
 (∀e l' e' σ' s' acc',kJ k s l acc= .bad e l'→(e=3∨e=9)→LS σ σ' s' l' acc'→get e' 4= .p (σ.length+1) 0 0→get e' 5= .p (σ.length+2) 0 0→get e' 7= .i .i64 e→get e' 1000000= .u→Q (.exit 0) e' σ')→
 aW X [1,4,5,6,7] Uh [(1,.p σ.length 0 0),(4,.p (σ.length+1) 0 0),(5,.p (σ.length+2) 0 0),(6,.fn (.func 22) [] [.p (σ.length+1) 0 0,.p σ.length 0 0,.p (σ.length+2) 0 0]),(7,.i .i64 0)] σ1 Q:=by
 intro k
 induction k with
 | zero=>
   intro s l acc σ1 hk hl hacc h h1 h2
   obtain rfl:s=[]:=List.length_eq_zero_iff.1 (by omega)
   refine aW.round aH (lit:=false) ?_
   conv=>whnf
   refine ak (aj (T:=fA) rfl rfl (ah h.b) rfl) ?_
   conv=>whnf
   exact h1 acc l _ σ1 [] rfl (by omega) h rfl rfl rfl rfl
 | succ k ih=>
   intro s l acc σ1 hk hl hacc h h1 h2
   cases s with
   | nil=>
     refine aW.round aH (lit:=false) ?_
     conv=>whnf
     refine ak (aj (T:=fA) rfl rfl (ah h.b) rfl) ?_
     conv=>whnf
     exact h1 acc l _ σ1 [] rfl (by omega) h rfl rfl rfl rfl
   | cons c r=>
     generalize hs:c :: r=s at *
     have hlen:s.length=r.length+1:=by rw [←hs];rfl
     have h0:s[0]? =some c:=by rw [←hs];rfl
     have hfit:=r_ c r
     rw [hs] at hfit
     have hG:kJ (k+1) s l acc=match step s with
      | .skip k' nl=>kJ k (s.drop k') (l+nl) acc
      | .tok kd m=>kJ k (s.drop m) l (acc ++ [⟨kd,s.take m,l⟩])
      | .err e=>.bad e l:=by
        rw [←hs];rfl
     rw [hG] at h1 h2
     have hgl:=kZ h.x hg
     refine aW.round aH (lit:=false) ?_
     conv=>whnf
     refine ak (aj (T:=fA) rfl rfl (ah h.b) rfl) ?_
     conv=>whnf
     rw [decide_eq_true (by omega)]
     conv=>whnf
     refine ak (aj (T:=fA) rfl rfl (ah h.b) rfl) ?_
     conv=>whnf
     refine ay.to (NR s [47,47] σ1) ?_
     cases hp: [47,47].isPrefixOf s with
     | true=>
       have hst:step s= .skip (run (· != 10) s) 0:=by unfold step;rw [hp];rfl
       rw [hst] at h1 h2 hfit
       simp only [Stp.fits,Nat.add_zero] at hfit h1 h2
       have goal:∀σ2,σ2=σ1.set σ.length ⟨0,false,.cells 9 [.s (s.drop (run (· != 10) s))]⟩→aW X [1,4,5,6,7] Uh [(1,.p σ.length 0 0),(4,.p (σ.length+1) 0 0),(5,.p (σ.length+2) 0 0),(6,.fn (.func 22) [] [.p (σ.length+1) 0 0,.p σ.length 0 0,.p (σ.length+2) 0 0]),(7,.i .i64 0)] σ2 Q:=by
        intro σ2 e
        subst e
        exact ih _ l acc _ (by rw [List.length_drop];omega) (by omega) (by omega) (h.text _) h1 h2
       conv=>whnf
       refine ak (aj (T:=fA) rfl rfl (ah h.b) rfl) ?_
       conv=>whnf
       refine wH _ _ _ _ ?_
       rw [show ((10:Int).toNat.toUInt8)=10 from rfl,Dp]
       by_cases hr:run (· != 10) s<s.length
       ·rw [if_pos hr]
        conv=>whnf
        refine ak (aj (T:=fA) rfl rfl (ah h.b) rfl) ?_
        conv=>whnf
        refine⟨run (· != 10) s,rfl,by omega,?_⟩
        conv=>whnf
        refine ak (aC (T:=fA) [.s (s.drop (run (· != 10) s))] rfl h.b rfl rfl (Nat.le_of_ble_eq_true rfl) rfl) ?_
        conv=>whnf
        exact goal _ rfl
       ·rw [if_neg hr]
        have hre:s.length=run (· != 10) s:=by omega
        conv=>whnf
        refine ak (aj (T:=fA) rfl rfl (ah h.b) rfl) ?_
        conv=>whnf
        refine ak (aj (T:=fA) rfl rfl (ah h.b) rfl) ?_
        conv=>whnf
        refine⟨run (· != 10) s,by rw [hre],by omega,?_⟩
        conv=>whnf
        refine ak (aC (T:=fA) [.s (s.drop (run (· != 10) s))] rfl h.b rfl rfl (Nat.le_of_ble_eq_true rfl) rfl) ?_
        conv=>whnf
        exact goal _ rfl
     | false=>
       conv=>whnf
       refine ak (aj (T:=fA) rfl rfl (ah h.b) rfl) ?_
       conv=>whnf
       refine⟨0,c,rfl,h0,?_⟩
       conv=>whnf
       refine⟨_,wrap_i32 (by omega) (by have:=c.toNat_lt;omega),?_⟩
       conv=>whnf
       refine ay.to (QY c.toNat (by have:=c.toNat_lt;omega) σ1) ?_
       cases hb:dP c.toNat with
       | true=>
         have hst:step s= .skip 1 (if c.toNat=10 then 1 else 0):=by
            unfold step;rw [hp,←hs];simp only [hb,Bool.false_eq_true,if_false,if_true]
         rw [hst] at h1 h2
         simp only at h1 h2
         rw [show kindOf c.toNat=1 by unfold kindOf;rw [hb];rfl]
         conv=>whnf
         refine ak (aj (T:=fA) rfl rfl (ah h.b) rfl) ?_
         conv=>whnf
         refine⟨0,c,rfl,h0,?_⟩
         conv=>whnf
         by_cases h10:c.toNat=10
         ·rw [decide_eq_true (show (c.toNat:Int)=10 by omega)]
          rw [if_pos h10] at h1 h2
          conv=>whnf
          refine ak (aj (T:=cu) rfl rfl (ah h.n) rfl) ?_
          conv=>whnf
          refine⟨((l+1:Nat):Int),wrap_i64 (by omega) (by omega),?_⟩
          conv=>whnf
          refine ak (aC (T:=cu) [.i .i64 ((l+1:Nat):Int)] rfl h.n rfl rfl (Nat.le_of_ble_eq_true rfl) rfl) ?_
          conv=>whnf
          refine ak (aj (T:=fA) rfl rfl (ah (h.line (l+1)).b) rfl) ?_
          conv=>whnf
          refine⟨1,rfl,by omega,?_⟩
          conv=>whnf
          refine ak (aC (T:=fA) [.s (s.drop 1)] rfl (h.line (l+1)).b rfl rfl (Nat.le_of_ble_eq_true rfl) rfl) ?_
          conv=>whnf
          exact ih _ (l+1) acc _ (by rw [List.length_drop];omega) (by omega) (by omega) ((h.line (l+1)).text _) h1 h2
         ·rw [decide_eq_false (show ¬(c.toNat:Int)=10 by omega)]
          rw [if_neg h10] at h1 h2
          conv=>whnf
          refine ak (aj (T:=fA) rfl rfl (ah h.b) rfl) ?_
          conv=>whnf
          refine⟨1,rfl,by omega,?_⟩
          conv=>whnf
          refine ak (aC (T:=fA) [.s (s.drop 1)] rfl h.b rfl rfl (Nat.le_of_ble_eq_true rfl) rfl) ?_
          conv=>whnf
          exact ih _ l acc _ (by rw [List.length_drop];omega) (by omega) (by omega) (h.text _) h1 h2
       | false=>
         cases hl1:bT c.toNat with
         | true=>
           have hst:step s=if 32<run isWord s then .err 9 else if keys.contains (s.take (run isWord s)) then .tok 4 (run isWord s) else .tok 1 (run isWord s):=by
            unfold step;rw [hp,←hs];simp only [hb,hl1,Bool.false_eq_true,if_false,if_true]
           have hrl:=mY isWord s
           have Zg:0<run isWord s:=by rw [←hs];exact kU _ (by simp [isWord,hl1])
           rw [show kindOf c.toNat=2 by unfold kindOf;rw [hb,hl1];rfl]
           conv=>whnf
           refine ak (aj (T:=fA) rfl rfl (ah h.b) rfl) ?_
           conv=>whnf
           refine ay.to (Q8 s (by omega) σ1) ?_
           conv=>whnf
           have h':=h.new 73 [.i .i64 2,.i .i64 3]
           have hg':=kZ h'.x hg
           by_cases h32:32<run isWord s
           ·rw [decide_eq_true (by omega)]
            conv=>whnf
            rw [hst,if_pos h32] at h2
            exact h2 9 l _ _ s acc rfl (.inr rfl) h' rfl rfl rfl rfl
           ·rw [decide_eq_false (by omega)]
            conv=>whnf
            refine ak (aj (T:=fA) rfl rfl (ah h'.b) rfl) ?_
            conv=>whnf
            refine⟨run isWord s,rfl,hrl,?_⟩
            conv=>whnf
            refine Q5 _ _ hg' ?_
            conv=>whnf
            have h'':=h'.one 9 (keys.map .s)
            refine⟨ak (aj (T:=fA) rfl rfl (ah h''.b) rfl) rfl,⟨run isWord s,rfl,hrl,rfl⟩,?_⟩
            conv=>whnf
            refine ay.to (zW _ _ _ keys _ (ah (pJ _ _ _)) (by decide)) ?_
            cases hk:keys.contains (s.take (run isWord s)) with
            | true=>
              rw [hst,if_neg h32,if_pos hk] at h1 h2
              conv=>whnf
              refine xX h'' (by omega) 4 (run isWord s) Zg hrl fun σ3 h3=>?_
              conv=>whnf
              exact ih _ l _ σ3 (by rw [List.length_drop];omega) (by omega) (by simp;omega) h3 h1 h2
            | false=>
              rw [hst,if_neg h32,if_neg (by rw [hk];exact Bool.false_ne_true)] at h1 h2
              conv=>whnf
              refine xX h'' (by omega) 1 (run isWord s) Zg hrl fun σ3 h3=>?_
              conv=>whnf
              exact ih _ l _ σ3 (by rw [List.length_drop];omega) (by omega) (by simp;omega) h3 h1 h2
         | false=>
           cases hg1:isDigit c.toNat with
           | true=>
             have hst:step s=if(c.toNat=48∧1<run isDigit s)∨0<run bT (s.drop (run isDigit s)) then .err 9
                else if tooBig (s.take (run isDigit s)) then .err 3 else .tok 2 (run isDigit s):=by
              unfold step;rw [hp,←hs];simp only [hb,hl1,hg1,Bool.false_eq_true,if_false,if_true]
             have hrl:=mY isDigit s
             have Zg:0<run isDigit s:=by rw [←hs];exact kU _ hg1
             have hne:s.take (run isDigit s)≠[]:=fun e=>by have:=congrArg List.length e;rw [List.length_take,List.length_nil] at this;omega
             rw [show kindOf c.toNat=3 by unfold kindOf;rw [hb,hl1,hg1];rfl]
             conv=>whnf
             refine ak (aj (T:=fA) rfl rfl (ah h.b) rfl) ?_
             conv=>whnf
             refine ay.to (NU s (by omega) σ1) ?_
             conv=>whnf
             have h':=h.new 73 [.i .i64 3]
             refine ak (aj (T:=fA) rfl rfl (ah h'.b) rfl) ?_
             conv=>whnf
             refine⟨0,c,rfl,h0,?_⟩
             conv=>whnf
             by_cases hA:c.toNat=48
             ·rw [decide_eq_true (show (c.toNat:Int)=48 by omega)]
              conv=>whnf
              by_cases hB:1<run isDigit s
              ·rw [decide_eq_true (by omega)]
               conv=>whnf
               rw [hst,if_pos (.inl ⟨hA,hB⟩)] at h2
               exact h2 9 l _ _ s acc rfl (.inr rfl) h' rfl rfl rfl rfl
              ·rw [decide_eq_false (by omega)]
               conv=>whnf
               refine ak (aj (T:=fA) rfl rfl (ah h'.b) rfl) ?_
               conv=>whnf
               refine⟨run isDigit s,rfl,hrl,?_⟩
               conv=>whnf
               refine ay.to (B_ _ (by rw [List.length_drop];omega) _) ?_
               conv=>whnf
               have h'':=h'.new 73 [.i .i64 2]
               by_cases hC:0<run bT (s.drop (run isDigit s))
               ·rw [decide_eq_true (by omega)]
                conv=>whnf
                rw [hst,if_pos (.inr hC)] at h2
                exact h2 9 l _ _ s acc rfl (.inr rfl) h'' rfl rfl rfl rfl
               ·rw [decide_eq_false (by omega)]
                rw [hst,if_neg (not_or.2 ⟨fun h=>hB h.2,hC⟩)] at h1 h2
                conv=>whnf
                refine ak (aj (T:=fA) rfl rfl (ah h''.b) rfl) ?_
                conv=>whnf
                refine⟨run isDigit s,rfl,hrl,?_⟩
                conv=>whnf
                refine IQ _ (wG isDigit s) hne (by rw [List.length_take];omega) _ (kZ (LS.x h'') hg) _ (fun hbig u=>?_) (fun hbig=>?_)
                ·conv=>whnf
                 rw [if_neg (by rw [hbig];exact Bool.false_ne_true)] at h1 h2
                 refine xX h'' (by omega) 2 (run isDigit s) Zg hrl fun σ3 h3=>?_
                 conv=>whnf
                 exact ih _ l _ σ3 (by rw [List.length_drop];omega) (by omega) (by simp;omega) h3 h1 h2
                ·conv=>whnf
                 rw [if_pos hbig] at h1 h2
                 exact h2 3 l _ _ s acc rfl (.inl rfl) h'' rfl rfl rfl rfl
             ·rw [decide_eq_false (show ¬(c.toNat:Int)=48 by omega)]
              conv=>whnf
              refine ak (aj (T:=fA) rfl rfl (ah h'.b) rfl) ?_
              conv=>whnf
              refine⟨run isDigit s,rfl,hrl,?_⟩
              conv=>whnf
              refine ay.to (B_ _ (by rw [List.length_drop];omega) _) ?_
              conv=>whnf
              have h'':=h'.new 73 [.i .i64 2]
              by_cases hC:0<run bT (s.drop (run isDigit s))
              ·rw [decide_eq_true (by omega)]
               conv=>whnf
               rw [hst,if_pos (.inr hC)] at h2
               exact h2 9 l _ _ s acc rfl (.inr rfl) h'' rfl rfl rfl rfl
              ·rw [decide_eq_false (by omega)]
               rw [hst,if_neg (not_or.2 ⟨fun h=>hA h.1,hC⟩)] at h1 h2
               conv=>whnf
               refine ak (aj (T:=fA) rfl rfl (ah h''.b) rfl) ?_
               conv=>whnf
               refine⟨run isDigit s,rfl,hrl,?_⟩
               conv=>whnf
               refine IQ _ (wG isDigit s) hne (by rw [List.length_take];omega) _ (kZ (LS.x h'') hg) _ (fun hbig u=>?_) (fun hbig=>?_)
               ·conv=>whnf
                rw [if_neg (by rw [hbig];exact Bool.false_ne_true)] at h1 h2
                refine xX h'' (by omega) 2 (run isDigit s) Zg hrl fun σ3 h3=>?_
                conv=>whnf
                exact ih _ l _ σ3 (by rw [List.length_drop];omega) (by omega) (by simp;omega) h3 h1 h2
               ·conv=>whnf
                rw [if_pos hbig] at h1 h2
                exact h2 3 l _ _ s acc rfl (.inl rfl) h'' rfl rfl rfl rfl
           | false=>
             cases ho1:pY c.toNat with
             | true=>
               have hst:step s=if lJ.contains (s.take 2) then .tok 3 2 else .tok 3 1:=by
                unfold step;rw [hp,←hs];simp only [hb,hl1,hg1,ho1,Bool.false_eq_true,if_false,if_true]
               rw [show kindOf c.toNat=4 by unfold kindOf;rw [hb,hl1,hg1,ho1];rfl]
               conv=>whnf
               refine ak (aj (T:=fA) rfl rfl (ah h.b) rfl) ?_
               conv=>whnf
               refine ay.to (Yi s σ1 hgl) ?_
               cases hk:lJ.contains (s.take 2) with
               | true=>
                 rw [hst,if_pos hk] at h1 h2 hfit
                 simp only [Stp.fits] at hfit
                 conv=>whnf
                 refine xX h (by omega) 3 2 (by omega) hfit.2.1 fun σ3 h3=>?_
                 conv=>whnf
                 exact ih _ l _ σ3 (by rw [List.length_drop];omega) (by omega) (by simp;omega) h3 h1 h2
               | false=>
                 rw [hst,if_neg (by rw [hk];exact Bool.false_ne_true)] at h1 h2
                 conv=>whnf
                 refine xX h (by omega) 3 1 (by omega) (by omega) fun σ3 h3=>?_
                 conv=>whnf
                 exact ih _ l _ σ3 (by rw [List.length_drop];omega) (by omega) (by simp;omega) h3 h1 h2
             | false=>
               have hst:step s= .err 9:=by
                unfold step;rw [hp,←hs];simp only [hb,hl1,hg1,ho1,Bool.false_eq_true,if_false]
               rw [show kindOf c.toNat=0 by unfold kindOf;rw [hb,hl1,hg1,ho1];rfl]
               conv=>whnf
               rw [hst] at h2
               exact h2 9 l _ _ s acc rfl (.inr rfl) h rfl rfl rfl rfl
end Go.bP.YthoodopjoaigdaaGreatDoor
namespace Go.bP.YthoodopjoaigdaaGreatDoor
open Go.Proofs
set_option maxRecDepth 4000
theorem U9 (t:List UInt8)(σ:St)(hg:σ.take G0.length=G0)(Q:AV→St→Prop)
 (h1:∀l out σ',qO t= .toks l→l.length≤40000→Ext σ σ'→jS σ.length σ' out l→Q (.tu [out,.fM]) σ')
 (h2:∀e l o σ',qO t= .bad e l→Ext σ σ'→σ.length≤o→σ'[o]? =some ⟨0,false,.cells 29 [.i .i64 e,.i .i64 l]⟩→Q (.tu [.sl0,.ic 40 (.p o 0 0)]) σ') :
 ay X 9 [.s t] σ Q:=by
 refine ay.body (F:=F9) aH (lit:=false) rfl rfl (Nat.le_of_ble_eq_true rfl) ?_
 conv=>whnf
 refine ak (aj (T:=fA) rfl rfl (ah (aF _ _ _)) rfl) ?_
 conv=>whnf
 by_cases hl:32768<t.length
 ·rw [decide_eq_true (by omega)]
  conv=>whnf
  refine Fin.ref rfl (h2 3 0 _ _ (by simp [qO,hl]) (((Ext.refl σ).new _ _).new _ _) ?_ ?_)
  ·rw [aG];omega
  ·exact aF _ _ _
 ·rw [decide_eq_false (by omega)]
  have hS:qO t=(kJ t.length t 0 []).fin:=by simp [qO,hl]
  rw [hS] at h1 h2
  conv=>whnf
  refine ak (aC (T:=cu) [.i .i64 0] rfl (aF _ _ _) rfl rfl (Nat.le_of_ble_eq_true rfl) rfl) ?_
  conv=>whnf
  have e1:(au 9 [.s t] σ).length=σ.length+1:=aG _ _ _
  have e2:(au 36 [.sl0] (au 9 [.s t] σ)).length=σ.length+2:=by rw [aG,e1]
  have hls:LS σ ((au 3 [.i .i64 0] (au 36 [.sl0] (au 9 [.s t] σ))).set (σ.length+2) ⟨0,false,.cells 3 [.i .i64 (0:Nat)]⟩) t 0 []:=by
   refine LS.line (l:=0) ⟨(((Ext.refl σ).new _ _).new _ _).new _ _,at_new (at_new (aF _ _ _) _ _) _ _,⟨.sl0,?_,.inl ⟨rfl,rfl⟩⟩,?_⟩ 0
   ·refine at_new ?_ _ _
    have:=aF 36 [.sl0] (au 9 [.s t] σ)
    rw [e1] at this;exact this
   ·have:=aF 3 [.i .i64 0] (au 36 [.sl0] (au 9 [.s t] σ))
    rw [e2] at this;exact this
  show aW X [1,4,5,6,7] Uh [(1,.p σ.length 0 0),(4,.p (au 9 [.s t] σ).length 0 0),(5,.p (au 36 [.sl0] (au 9 [.s t] σ)).length 0 0),(6,.fn (.func 22) [] [.p (au 9 [.s t] σ).length 0 0,.p σ.length 0 0,.p (au 36 [.sl0] (au 9 [.s t] σ)).length 0 0]),(7,.i .i64 0)]
   ((au 3 [.i .i64 0] (au 36 [.sl0] (au 9 [.s t] σ))).set (au 36 [.sl0] (au 9 [.s t] σ)).length ⟨0,false,.cells 3 [.i .i64 (0:Nat)]⟩) _
  rw [e1,e2]
  refine NV σ hg _ t.length t 0 [] _ (Nat.le_refl _) (by omega) (by simp;omega) hls (fun acc' l' e' σ' s' hG hacc h h4 h5 h7 hu=>?_) (fun e l' e' σ' s' acc' hG he h h4 h5 h7 hu=>?_)
  ·rw [hG] at h1
   obtain⟨out,ho1,ho2⟩:=h.o
   conv=>whnf
   rw [hu]
   conv=>whnf
   rw [h4]
   conv=>whnf
   rw [h5]
   conv=>whnf
   rw [h7]
   rcases ho2.cases with rfl | ⟨o1,g1,rfl⟩
   all_goals
        conv=>whnf
        refine ak (aj (T:=nM) rfl rfl (ah ho1) rfl) ?_
        conv=>whnf
        refine ak (aj (T:=cu) rfl rfl (ah h.n) rfl) ?_
        conv=>whnf
        refine zU (A:=σ.length+3) (tk:=⟨5,[],l'⟩) (ho2.new _ _) (by omega) (aF _ _ _) (by rw [aG];have:=aX h.n;omega) fun II jY NP hk5 hl5 _=>?_
        have hx5:Ext σ jY:=⟨by omega,fun i hi=>by rw [hk5 i (by omega)];exact(h.x.new _ _).old i hi⟩
        have hoo:jS σ.length jY II (acc' ++ [⟨5,[],l'⟩]):=by
         rcases NP with h | ⟨o,g,q1,q2⟩
         ·exact .inl h
         ·exact .inr ⟨o,g,by omega,q2⟩
        have q1:=h1 _ II jY rfl (by simp;omega) hx5 hoo
        rcases NP.cases with rfl | ⟨o3,g3,rfl⟩
        all_goals
         conv=>whnf
         first
            | exact Fin.ref rfl q1
            | (exfalso;rcases NP with ⟨h6,_⟩ | ⟨o,g,_,h6,_⟩
               ·simp at h6
               ·cases h6)
  ·rw [hG] at h2
   conv=>whnf
   rw [hu]
   conv=>whnf
   rw [h4]
   conv=>whnf
   rw [h5]
   conv=>whnf
   rw [h7]
   conv=>whnf
   rw [decide_eq_false (show ¬(e:Int)=0 by omega)]
   conv=>whnf
   refine ak (aj (T:=cu) rfl rfl (ah h.n) rfl) ?_
   conv=>whnf
   exact Fin.ref rfl (h2 e l' _ _ rfl (h.x.new _ _) h.x.len (aF _ _ _))
end Go.bP.YthoodopjoaigdaaGreatDoor
