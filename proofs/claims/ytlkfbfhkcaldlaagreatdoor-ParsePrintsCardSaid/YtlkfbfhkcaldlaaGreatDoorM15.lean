/- Texts of this claim, joined: FnA, FnB, FnC, FnD, FnE, FnF, FnG, FnH. -/
import Derived.Test.YtlkfbfhkcaldlaaGreatDoorM14
set_option linter.unusedVariables false
set_option linter.unusedSimpArgs false
namespace Go.Abs.YtlkfbfhkcaldlaaGreatDoor
open Go.Proofs
set_option maxRecDepth 4000
theorem digit_to (c:Int)(Z:St):au X 70 [.i .u8 c] Z fun v s=>v= .b (isDigit c)/\s=Z:=by
 refine au.body (F:=F70) ay (lit:=false) rfl rfl (aU rfl) ?_
 repeat' ((conv=>whnf);split)
 all_goals (conv=>whnf)
 all_goals exact Fin.flat rfl (iq) ⟨by grind [isDigit],rfl⟩
theorem letter_to (c:Int)(Z:St):au X 69 [.i .u8 c] Z fun v s=>v= .b (bQ c)/\s=Z:=by
 refine au.body (F:=F69) ay (lit:=false) rfl rfl (aU rfl) ?_
 repeat' ((conv=>whnf);split)
 all_goals (conv=>whnf)
 all_goals exact Fin.flat rfl (iq) ⟨by grind [bQ],rfl⟩
theorem begins_to (t s:List UInt8)(n:Nat)(j:Int)(hj:j=n)(Z:St)(h1:n<=t.length)(h2:t.length<=100000)(h3:s.length<=10) :
 au X 68 [.s t,.i .i64 j,.s s] Z fun v s'=>v= .b (s.isPrefixOf (t.drop n))/\s'= Z:=by
 subst hj
 have hw:IntKind.i64.wrap ((n:Int)+s.length)=n+s.length:=wrap_i64 (by omega) (by omega)
 refine au.body (F:=F68) ay (lit:=false) rfl rfl (aU rfl) ?_
 conv=>whnf
 refine⟨_,hw,?_⟩
 conv=>whnf
 split
 ·rename_i h
  have h:=of_decide_eq_true h
  have e1:s.isPrefixOf (t.drop n)=((t.drop n).take (n+s.length - n) == s):=by
   rw [Bool.eq_iff_iff,List.isPrefixOf_iff_prefix,List.prefix_iff_eq_take,beq_iff_eq,show n+s.length - n=s.length by omega]
   exact eq_comm
  rw [e1]
  conv=>whnf
  refine⟨_,hw,?_⟩
  conv=>whnf
  refine⟨n,n+s.length,rfl,by omega,by omega,by omega,?_⟩
  conv=>whnf
  split <;> (conv=>whnf)
  ·rename_i h4;exact Fin.flat rfl iq ⟨by rw [h4],rfl⟩
  ·rename_i h4;exact Fin.flat rfl iq ⟨by rw [h4],rfl⟩
 ·rename_i h
  have h:=of_decide_eq_false h
  have e1:s.isPrefixOf (t.drop n)=false:=by
   rw [Bool.eq_false_iff]
   intro hp
   have:=(List.isPrefixOf_iff_prefix.1 hp).length_le
   simp at this
   omega
  conv=>whnf
  exact Fin.flat rfl iq ⟨by rw [e1],rfl⟩
def Af (u:List UInt8):Nat:=match u with
 | []=>0
 | c :: _=>if dN c.toNat then 1 else if [47,47].isPrefixOf u then run (· != 10) u else 0
theorem drop_cons {t:List UInt8} {n:Nat} {c:UInt8} (h:t[n]? =some c):t.drop n=c :: t.drop (n+1):=by
 obtain⟨hn,rfl⟩:=List.getElem?_eq_some_iff.1 h
 rw [<-List.getElem_cons_drop hn]
theorem blank_loop (t:List UInt8)(n:Nat)(ht:t.length<=100000)(Z:St)(Q:Out->Env->St->Prop):∀(k m:Nat),n+m+k=t.length->
 (∀e',get e' 6= .i .i64 ((m+run (· != 10) (t.drop (n+m)):Nat):Int)->Q (.exit 0) e' Z)->
 aV X [0,1,6] c33L0 [(0,.s t),(1,.i .i64 n),(6,.i .i64 m)] Z Q:=by
 intro k
 induction k with
 | zero=>
   intro m hm hq
   have hw:IntKind.i64.wrap ((n:Int)+m)=n+m:=wrap_i64 (by omega) (by omega)
   refine aV.round ay (lit:=false) ?_
   conv=>whnf
   refine⟨_,hw,?_⟩
   rw [show ((n:Int)+m)=t.length by omega]
   conv=>whnf
   rw [decide_eq_false (by omega)]
   conv=>whnf
   refine hq _ ?_
   rw [List.drop_of_length_le (by omega)]
   rfl
 | succ k ih=>
   intro m hm hq
   have hw:IntKind.i64.wrap ((n:Int)+m)=n+m:=wrap_i64 (by omega) (by omega)
   have hw1:IntKind.i64.wrap ((m:Int)+1)=(m+1:Nat):=by rw [wrap_i64 (by omega) (by omega)];omega
   obtain⟨c,hc⟩:∃c,t[n+m]? =some c:=⟨_,sN (by omega)⟩
   have hd:=drop_cons hc
   refine aV.round ay (lit:=false) ?_
   conv=>whnf
   refine⟨_,hw,?_⟩
   conv=>whnf
   rw [decide_eq_true (by omega)]
   conv=>whnf
   refine⟨_,hw,?_⟩
   conv=>whnf
   refine⟨n+m,c,by omega,hc,?_⟩
   conv=>whnf
   split
   ·rename_i h
    conv=>whnf
    refine⟨_,hw1,?_⟩
    conv=>whnf
    refine ih (m+1) (by omega) fun e' he=>hq e' ?_
    rw [he,hd]
    have h':((c.toNat:Int) != 10)=true:=by simpa using h
    simp only [run,h',if_true,show n+(m+1)=n+m+1 by omega]
    congr 1;omega
   ·rename_i h
    conv=>whnf
    refine hq _ ?_
    rw [hd]
    have h':((c.toNat:Int) != 10)=false:=by simpa using h
    simp only [run,h']
    rfl
theorem blank_to (t:List UInt8)(n:Nat)(j:Int)(hj:j=n)(ht:t.length<=100000)(hn:n<t.length)(Z:St) :
 au X 33 [.s t,.i .i64 j] Z fun v s=>v= .i .i64 (Af (t.drop n))/\s=Z:=by
 subst hj
 obtain⟨c,hc⟩:∃c,t[n]? =some c:=⟨_,sN hn⟩
 have hd:=drop_cons hc
 refine au.body (F:=F33) ay (lit:=false) rfl rfl (aU rfl) ?_
 conv=>whnf
 refine⟨n,c,rfl,hc,?_⟩
 by_cases hb:dN c.toNat=true
 ·have e1:Af (t.drop n)=1:=by rw [hd];simp [Af,hb]
  rw [e1]
  repeat' ((conv=>whnf);split)
  all_goals (conv=>whnf)
  all_goals first
   | exact Fin.flat rfl iq ⟨rfl,rfl⟩
   | (exfalso;simp_all [dN];done)
 ·have e1:Af (t.drop n)=if [47,47].isPrefixOf (t.drop n) then run (· != 10) (t.drop n) else 0:=by rw [hd];simp [Af,hb]
  repeat' ((conv=>whnf);split)
  all_goals (conv=>whnf)
  all_goals first
   | (exfalso;simp_all [dN];done)
   | skip
  refine au.to (begins_to t [47,47] n n rfl Z (by omega) ht (by simp)) ?_
  conv=>whnf
  cases h: [47,47].isPrefixOf (t.drop n) with
  | true=>
    conv=>whnf
    refine blank_loop t n ht Z _ (t.length - n) 0 (by omega) fun e' he=>?_
    conv=>whnf
    rw [show Opd.ev e' (.t 6)=_ from he]
    conv=>whnf
    exact Fin.flat rfl iq ⟨by rw [e1,h];simp,rfl⟩
  | false=>
    conv=>whnf
    exact Fin.flat rfl iq ⟨by rw [e1,h];simp,rfl⟩
def BH:Nat->List UInt8->Bool
 | _,[]=>true
 | v,c :: r=>if 4294967296<=10*v+(c.toNat - 48) then false else BH (10*v+(c.toNat - 48)) r
theorem number_loop (t:List UInt8)(hd:∀c∈t,isDigit c.toNat=true)(ht:t.length<=100000)(Z:St)(Q:Out->Env->St->Prop):∀(k m v:Nat),m+k=t.length->v<4294967296->
 (BH v (t.drop m)=true->∀e',Q (.exit 0) e' Z)->(BH v (t.drop m)=false->∀e',get e' 2= .b false->Q .ret e' Z)->
 aV X [0,3,4] c72L0 [(0,.s t),(3,.i .u64 v),(4,.i .i64 m)] Z Q:=by
 intro k
 induction k with
 | zero=>
   intro m v hm hv h1 h2
   refine aV.round ay (lit:=false) ?_
   conv=>whnf
   rw [decide_eq_false (by omega)]
   conv=>whnf
   exact h1 (by rw [List.drop_of_length_le (by omega)];rfl) _
 | succ k ih=>
   intro m v hm hv h1 h2
   obtain⟨c,hc⟩:∃c,t[m]? =some c:=⟨_,sN (by omega)⟩
   have hdr:=drop_cons hc
   have hdig:=hd c (List.mem_of_getElem? hc)
   simp only [isDigit,fJ,decide_eq_true_eq] at hdig
   have hw1:IntKind.i64.wrap ((m:Int)+1)=(m+1:Nat):=by rw [wrap_i64 (by omega) (by omega)];omega
   refine aV.round ay (lit:=false) ?_
   conv=>whnf
   rw [decide_eq_true (by omega)]
   conv=>whnf
   refine⟨10*v,wrap_u64 (by omega) (by omega),?_⟩
   conv=>whnf
   refine⟨m,c,rfl,hc,?_⟩
   conv=>whnf
   refine⟨_,wrap_u8 (n:=c.toNat - 48) (by omega) (by omega),?_⟩
   conv=>whnf
   refine⟨_,wrap_u64 (n:=(c.toNat:Int) - 48) (by omega) (by omega),?_⟩
   conv=>whnf
   refine⟨((10*v+(c.toNat - 48):Nat):Int),by rw [wrap_u64 (by omega) (by omega)];omega,?_⟩
   conv=>whnf
   by_cases hb:4294967296<=10*v+(c.toNat - 48)
   ·rw [decide_eq_true (by omega)]
    conv=>whnf
    exact h2 (by rw [hdr];simp [BH,hb]) _ rfl
   ·rw [decide_eq_false (by omega)]
    conv=>whnf
    refine⟨_,hw1,?_⟩
    conv=>whnf
    have e1:BH v (t.drop m)=BH (10*v+(c.toNat - 48)) (t.drop (m+1)):=by rw [hdr];simp [BH,hb]
    exact ih (m+1) _ (by omega) (by omega) (by rw [<-e1];exact h1) (by rw [<-e1];exact h2)
theorem number_to (t:List UInt8)(hd:∀c∈t,isDigit c.toNat=true)(ht:t.length<=100000)(Z:St):au X 72 [.s t] Z fun v s=>v= .b (BH 0 t)/\s=Z:=by
 refine au.body (F:=F72) ay (lit:=false) rfl rfl (aU rfl) ?_
 conv=>whnf
 refine number_loop t hd ht Z _ t.length 0 0 (by omega) (by omega) (fun h e'=>?_) (fun h e' he=>?_)
 ·conv=>whnf
  rw [List.drop_zero] at h
  exact Fin.flat rfl iq ⟨by rw [h],rfl⟩
 ·conv=>whnf
  rw [he]
  conv=>whnf
  rw [List.drop_zero] at h
  exact Fin.flat rfl iq ⟨by rw [h],rfl⟩
end Go.Abs.YtlkfbfhkcaldlaaGreatDoor
namespace Go.Abs.YtlkfbfhkcaldlaaGreatDoor
open Go.Proofs
set_option maxRecDepth 4000
theorem key_loop (s:List UInt8)(o g:Nat)(l:List (List UInt8))(Z:St)(ho:cellsAt Z o g=some (l.map .s))(hl:l.length<=100)(Q:Out->Env->St->Prop):∀(k m:Nat),m+k=l.length->
 ((l.drop m).contains s=false->∀e',Q (.exit 0) e' Z)->((l.drop m).contains s=true->∀e',get e' 2= .b true->Q .ret e' Z)->
 aV X [0,3,4] c71L0 [(0,.s s),(3,.sl o g 0 l.length 1),(4,.i .i64 m)] Z Q:=by
 intro k
 induction k with
 | zero=>
   intro m hm h1 h2
   refine aV.round ay (lit:=false) ?_
   conv=>whnf
   rw [decide_eq_false (by omega)]
   conv=>whnf
   exact h1 (by rw [List.drop_of_length_le (by omega)];rfl) _
 | succ k ih=>
   intro m hm h1 h2
   obtain⟨c,hc⟩:∃c,l[m]? =some c:=⟨_,sN (by omega)⟩
   have hdr:l.drop m=c :: l.drop (m+1):=by
    obtain⟨hn,rfl⟩:=List.getElem?_eq_some_iff.1 hc
    rw [<-List.getElem_cons_drop hn]
   have hw1:IntKind.i64.wrap ((m:Int)+1)=(m+1:Nat):=by rw [wrap_i64 (by omega) (by omega)];omega
   refine aV.round ay (lit:=false) ?_
   conv=>whnf
   rw [decide_eq_true (by omega)]
   conv=>whnf
   refine⟨m,rfl,by omega,?_⟩
   conv=>whnf
   refine ak (v:=.s c) (aj (T:=fB) rfl rfl ho (by simp [hc])) ?_
   conv=>whnf
   cases h:c == s with
   | true=>
     conv=>whnf
     exact h2 (by rw [hdr];simp_all) _ rfl
   | false=>
     conv=>whnf
     refine⟨_,hw1,?_⟩
     conv=>whnf
     have e1:(l.drop m).contains s=(l.drop (m+1)).contains s:=by
        rw [hdr,List.contains_cons]
        have:(s == c)=false:=by rw [beq_eq_false_iff_ne] at h ⊢;exact fun e=>h e.symm
        rw [this];simp
     exact ih (m+1) (by omega) (by rw [<-e1];exact h1) (by rw [<-e1];exact h2)
theorem rkeys_to (Z:St)(Q:AV->St->Prop)(h:Q (.sl Z.length 0 0 12 1) (newCells 9 (keys.map .s) Z)):au X 99 [] Z Q:=by
 refine au.body (F:=F99) ay (lit:=false) rfl rfl (aU rfl) ?_
 conv=>whnf
 exact Fin.ref rfl h
theorem key_to (s:List UInt8)(Z:St):au X 71 [.s s] Z fun v s'=>v= .b (keys.contains s)/\s'= Z:=by
 refine au.body (F:=F71) ay (lit:=false) rfl rfl (aU rfl) ?_
 conv=>whnf
 refine rkeys_to Z _ ?_
 conv=>whnf
 refine key_loop s _ _ keys _ (mO _ _ Z) (by decide) _ 12 0 rfl (fun h e'=>?_) (fun h e' he=>?_)
 ·conv=>whnf
  exact Fin.flat rfl (by rw [aax _ _ _ _ (Nat.le_refl _),iq]) ⟨by rw [List.drop_zero] at h;rw [h],rfl⟩
 ·conv=>whnf
  rw [he]
  conv=>whnf
  exact Fin.flat rfl (by rw [aax _ _ _ _ (Nat.le_refl _),iq]) ⟨by rw [List.drop_zero] at h;rw [h],rfl⟩
def signs:List (List UInt8):=kV ++ [[40],[41],[123],[125],[91],[93],[44],[59],[58],[61],[60],[62],[43],[45],[124],[94],[38],[42],[47],[37],[33]]
theorem signs_to (Z:St)(Q:AV->St->Prop)(h:Q (.sl Z.length 0 0 29 1) (newCells 9 (signs.map .s) Z)):au X 73 [] Z Q:=by
 refine au.body (F:=F73) ay (lit:=false) rfl rfl (aU rfl) ?_
 conv=>whnf
 exact Fin.ref rfl h
theorem sign_loop (t:List UInt8)(n:Nat)(ht:t.length<=100000)(hn:n<=t.length)(r o g:Nat)(l:List (List UInt8))(Z:St)(ho:cellsAt Z o g=some (l.map .s))(hl:l.length<=100)(hw:∀w∈l,w.length<=10)
 (hr:∃e,Z[r]? =some ⟨0,false,.cells e [.i .i64 0,.s [],.i .i64 0]⟩) (Q:Out->Env->St->Prop):∀(k m:Nat),m+k=l.length->
 ((l.drop m).find? (·.isPrefixOf (t.drop n))=none->∀e',get e' 4= .p r 0 0->Q (.exit 4) e' Z)->
 (∀w,(l.drop m).find? (·.isPrefixOf (t.drop n))=some w->∀e' e,Z[r]? =some ⟨0,false,.cells e [.i .i64 0,.s [],.i .i64 0]⟩->get e' 4= .p r 0 0->get e' 5= .i .i64 0->Q .ret e' (Z.set r ⟨0,false,.cells e [.i .i64 3,.s w,.i .i64 0]⟩))->
 aV X [0,1,4,10,11] c34L2 [(0,.s t),(1,.i .i64 n),(4,.p r 0 0),(10,.sl o g 0 l.length 1),(11,.i .i64 m)] Z Q:=by
 intro k
 induction k with
 | zero=>
   intro m hm h1 h2
   refine aV.round ay (lit:=false) ?_
   conv=>whnf
   rw [decide_eq_false (by omega)]
   conv=>whnf
   exact h1 (by rw [show l.drop m=[] from List.drop_of_length_le (by omega)];rfl) _ rfl
 | succ k ih=>
   intro m hm h1 h2
   obtain⟨c,hc⟩:∃c,l[m]? =some c:=⟨_,sN (by omega)⟩
   have hdr:l.drop m=c :: l.drop (m+1):=by
    obtain⟨hn,rfl⟩:=List.getElem?_eq_some_iff.1 hc
    rw [<-List.getElem_cons_drop hn]
   have hw1:IntKind.i64.wrap ((m:Int)+1)=(m+1:Nat):=by rw [wrap_i64 (by omega) (by omega)];omega
   refine aV.round ay (lit:=false) ?_
   conv=>whnf
   rw [decide_eq_true (by omega)]
   conv=>whnf
   refine⟨m,rfl,by omega,?_⟩
   conv=>whnf
   refine ak (v:=.s c) (aj (T:=fB) rfl rfl ho (by simp [hc])) ?_
   conv=>whnf
   refine au.to (begins_to t c n n rfl Z hn ht (hw c (List.mem_of_getElem? hc))) ?_
   conv=>whnf
   cases h:c.isPrefixOf (t.drop n) with
   | true=>
     conv=>whnf
     refine⟨m,rfl,by omega,?_⟩
     conv=>whnf
     refine ak (v:=.s c) (aj (T:=fB) rfl rfl ho (by simp [hc])) ?_
     conv=>whnf
     obtain⟨e,he⟩:=hr
     refine ak (Q9 (T:=BR) rfl he rfl rfl (by decide)) ?_
     conv=>whnf
     exact h2 c (by rw [hdr];simp [h]) _ e he rfl rfl
   | false=>
     conv=>whnf
     refine⟨_,hw1,?_⟩
     conv=>whnf
     have e1:(l.drop m).find? (·.isPrefixOf (t.drop n))=(l.drop (m+1)).find? (·.isPrefixOf (t.drop n)):=by
        rw [hdr,List.find?_cons];simp [h]
     exact ih (m+1) (by omega) (by rw [<-e1];exact h1) (by rw [<-e1];exact h2)
theorem wordL0 (t:List UInt8)(n:Nat)(ht:t.length<=100000)(r:Nat)(Z:St)(Q:Out->Env->St->Prop):∀(k m:Nat),n+m+k=t.length->
 (∀e',get e' 0= .s t->get e' 1= .i .i64 n->get e' 4= .p r 0 0->get e' 7= .i .i64 ((m+run isWord (t.drop (n+m)):Nat):Int)->get e' 1000000= .u->Q (.exit 0) e' Z)->
 aV X [0,1,4,7] c34L0 [(0,.s t),(1,.i .i64 n),(4,.p r 0 0),(7,.i .i64 m)] Z Q:=by
 intro k
 induction k with
 | zero=>
   intro m hm hq
   have hw:IntKind.i64.wrap ((n:Int)+m)=n+m:=wrap_i64 (by omega) (by omega)
   refine aV.round ay (lit:=false) ?_
   conv=>whnf
   refine⟨_,hw,?_⟩
   conv=>whnf
   rw [decide_eq_false (by omega)]
   conv=>whnf
   refine hq _ rfl rfl rfl ?_ rfl
   rw [List.drop_of_length_le (by omega)]
   rfl
 | succ k ih=>
   intro m hm hq
   have hw:IntKind.i64.wrap ((n:Int)+m)=n+m:=wrap_i64 (by omega) (by omega)
   have hw1:IntKind.i64.wrap ((m:Int)+1)=(m+1:Nat):=by rw [wrap_i64 (by omega) (by omega)];omega
   obtain⟨c,hc⟩:∃c,t[n+m]? =some c:=⟨_,sN (by omega)⟩
   have hd:=drop_cons hc
   refine aV.round ay (lit:=false) ?_
   conv=>whnf
   refine⟨_,hw,?_⟩
   conv=>whnf
   rw [decide_eq_true (by omega)]
   conv=>whnf
   refine⟨_,hw,?_⟩
   conv=>whnf
   refine⟨n+m,c,by omega,hc,?_⟩
   conv=>whnf
   refine au.to (letter_to c.toNat Z) ?_
   conv=>whnf
   cases hl:bQ c.toNat with
   | true=>
     conv=>whnf
     refine⟨_,hw1,?_⟩
     conv=>whnf
     refine ih (m+1) (by omega) ?_
     have e1:run isWord (t.drop (n+m))=run isWord (t.drop (n+(m+1)))+1:=by rw [hd];simp [run,isWord,hl];rfl
     rw [show m+1+run isWord (t.drop (n+(m+1)))=m+run isWord (t.drop (n+m)) by omega]
     exact hq
   | false=>
     conv=>whnf
     refine⟨_,hw,?_⟩
     conv=>whnf
     refine⟨n+m,c,by omega,hc,?_⟩
     conv=>whnf
     refine au.to (digit_to c.toNat Z) ?_
     conv=>whnf
     cases hg:isDigit c.toNat with
     | true=>
       conv=>whnf
       refine⟨_,hw1,?_⟩
       conv=>whnf
       refine ih (m+1) (by omega) ?_
       have e1:run isWord (t.drop (n+m))=run isWord (t.drop (n+(m+1)))+1:=by rw [hd];simp [run,isWord,hl,hg];rfl
       rw [show m+1+run isWord (t.drop (n+(m+1)))=m+run isWord (t.drop (n+m)) by omega]
       exact hq
     | false=>
       conv=>whnf
       refine hq _ rfl rfl rfl ?_ rfl
       have e1:run isWord (t.drop (n+m))=0:=by rw [hd];simp [run,isWord,hl,hg]
       rw [e1];rfl
theorem wordL1 (t:List UInt8)(n:Nat)(b:Int)(ht:t.length<=100000)(r:Nat)(Z:St)(Q:Out->Env->St->Prop):∀(k m:Nat),n+m+k=t.length->
 (∀e',get e' 0= .s t->get e' 1= .i .i64 n->get e' 4= .p r 0 0->get e' 6= .i .u8 b->get e' 7= .i .i64 ((m+run isDigit (t.drop (n+m)):Nat):Int)->get e' 1000000= .u->Q (.exit 2) e' Z)->
 aV X [0,1,4,6,7] c34L1 [(0,.s t),(1,.i .i64 n),(4,.p r 0 0),(6,.i .u8 b),(7,.i .i64 m)] Z Q:=by
 intro k
 induction k with
 | zero=>
   intro m hm hq
   have hw:IntKind.i64.wrap ((n:Int)+m)=n+m:=wrap_i64 (by omega) (by omega)
   refine aV.round ay (lit:=false) ?_
   conv=>whnf
   refine⟨_,hw,?_⟩
   conv=>whnf
   rw [decide_eq_false (by omega)]
   conv=>whnf
   refine hq _ rfl rfl rfl rfl ?_ rfl
   rw [List.drop_of_length_le (by omega)]
   rfl
 | succ k ih=>
   intro m hm hq
   have hw:IntKind.i64.wrap ((n:Int)+m)=n+m:=wrap_i64 (by omega) (by omega)
   have hw1:IntKind.i64.wrap ((m:Int)+1)=(m+1:Nat):=by rw [wrap_i64 (by omega) (by omega)];omega
   obtain⟨c,hc⟩:∃c,t[n+m]? =some c:=⟨_,sN (by omega)⟩
   have hd:=drop_cons hc
   refine aV.round ay (lit:=false) ?_
   conv=>whnf
   refine⟨_,hw,?_⟩
   conv=>whnf
   rw [decide_eq_true (by omega)]
   conv=>whnf
   refine⟨_,hw,?_⟩
   conv=>whnf
   refine⟨n+m,c,by omega,hc,?_⟩
   conv=>whnf
   refine au.to (digit_to c.toNat Z) ?_
   conv=>whnf
   cases hg:isDigit c.toNat with
   | true=>
     conv=>whnf
     refine⟨_,hw1,?_⟩
     conv=>whnf
     refine ih (m+1) (by omega) ?_
     have e1:run isDigit (t.drop (n+m))=run isDigit (t.drop (n+(m+1)))+1:=by rw [hd];simp [run,hg];rfl
     rw [show m+1+run isDigit (t.drop (n+(m+1)))=m+run isDigit (t.drop (n+m)) by omega]
     exact hq
   | false=>
     conv=>whnf
     refine hq _ rfl rfl rfl rfl ?_ rfl
     have e1:run isDigit (t.drop (n+m))=0:=by rw [hd];simp [run,hg]
     rw [e1];rfl
end Go.Abs.YtlkfbfhkcaldlaaGreatDoor
namespace Go.Abs.YtlkfbfhkcaldlaaGreatDoor
open Go.Proofs
set_option maxRecDepth 4000
theorem indexByte_nonneg:∀(l:List UInt8) (c:UInt8),(0<=Lib.indexByte l c)↔c∈l
 | [],c=>by simp [Lib.indexByte]
 | b :: l,c=>by
   have ih:=indexByte_nonneg l c
   have hg:=Lib.indexByte_ge l c
   unfold Lib.indexByte
   by_cases h:b=c
   ·simp [h]
   ·have h':(b == c)=false:=by simpa using h
    rw [h']
    simp only [nR,if_false,List.mem_cons]
    have hne:¬c=b:=fun e=>h e.symm
    simp only [hne,false_or]
    by_cases h2:Lib.indexByte l c= -1
    ·simp only [h2,beq_self_eq_true,if_true]
     rw [<-ih,h2]
    ·have h3:(Lib.indexByte l c == -1)=false:=by simpa using h2
     rw [h3]
     simp only [nR,if_false]
     rw [<-ih]
     omega
theorem wrap_byte (c:UInt8):(IntKind.u8.wrap (c.toNat:Int)).toNat.toUInt8=c:=by
 rw [wrap_u8 (by omega) (by have:=c.toNat_lt;omega)]
 simp
theorem isOne_mem (c:UInt8):pU c.toNat=ones.contains c:=by
 unfold pU
 rw [wrap_byte,Bool.eq_iff_iff]
 simp only [fJ,decide_eq_true_eq,indexByte_nonneg,List.contains_iff_mem]
 refine⟨fun h=>h.1,fun h=>⟨h,?_⟩⟩
 have:∀d∈ones,(d.toNat:Int)<128:=by decide
 exact this c h
theorem find_ones (c:UInt8)(r:List UInt8):∀l:List UInt8,(l.map fun x=>[x]).find? (·.isPrefixOf (c :: r))=if l.contains c then some [c] else none
 | []=>rfl
 | x :: l=>by
   simp only [List.map_cons,List.find?_cons,List.isPrefixOf,List.contains_cons]
   by_cases h:x=c
   ·subst h;simp
   ·have h1:(x == c)=false:=by simpa using h
    have h2:(c == x)=false:=by simpa using fun e=>h e.symm
    simp only [h1,h2,Bool.false_and,Bool.false_or]
    exact find_ones c r l
theorem find_twos (c d:UInt8)(r:List UInt8)(l:List (List UInt8))(hl:∀w∈l,w.length=2):l.find? (·.isPrefixOf (c :: d :: r))=if l.contains [c,d] then some [c,d] else none:=by
 induction l with
 | nil=>rfl
 | cons w l ih=>
   have ih:=ih fun w hw=>hl w (List.mem_cons_of_mem _ hw)
   have h2:=hl w (List.mem_cons_self ..)
   match w,h2 with
   | [a,b],_=>
     rw [List.find?_cons,List.contains_cons,ih]
     by_cases h:a=c/\b=d
     ·obtain⟨rfl,rfl⟩:=h;simp [List.isPrefixOf]
     ·have h1:([a,b].isPrefixOf (c :: d :: r))=false:=by
        simp only [List.isPrefixOf,Bool.and_true,Bool.and_eq_false_iff,beq_eq_false_iff_ne]
        by_cases h3:a=c
        ·exact .inr fun h4=>h ⟨h3,h4⟩
        ·exact .inl h3
      have h2:([c,d] == [a,b])=false:=by
        rw [beq_eq_false_iff_ne];intro e;cases e;exact h ⟨rfl,rfl⟩
      rw [h1,h2,Bool.false_or]
theorem step_sign (c:UInt8)(r:List UInt8)(hb:Af (c :: r)=0)(h1:bQ c.toNat=false)(h2:isDigit c.toNat=false) :
 step (c :: r)=match signs.find? (·.isPrefixOf (c :: r)) with | some w=>.tok 3 w.length | none=>.err 9:=by
 have hbl:dN c.toNat=false:=by
  cases h:dN c.toNat with
  | false=>rfl
  | true=>simp [Af,h] at hb
 have hr: [47,47].isPrefixOf (c :: r)=false:=by
  cases h: [47,47].isPrefixOf (c :: r) with
  | false=>rfl
  | true=>
    have hc:c=47:=by simp [List.isPrefixOf] at h;exact h.1.symm
    subst hc
    simp only [Af,hbl,h,nR,if_false,if_true] at hb
    have:=vG (p:=(· != 10)) r (c:=47) (by decide)
    omega
 have hs:signs.find? (·.isPrefixOf (c :: r))=(kV.find? (·.isPrefixOf (c :: r))).or (if ones.contains c then some [c] else none):=by
  rw [<-find_ones c r ones]
  exact List.find?_append
 unfold step
 rw [hr,hs]
 simp only [hbl,h1,h2,nR,if_false,isOne_mem]
 cases r with
 | nil=>
   have e1:kV.find? (·.isPrefixOf [c])=none:=by simp [kV,List.isPrefixOf]
   have e2:kV.contains ([c].take 2)=false:=by
    have:∀w∈kV,w.length=2:=by decide
    cases h:kV.contains ([c].take 2) with
    | false=>rfl
    | true=>have:=this _ (List.contains_iff_mem.1 h);simp at this
   rw [e1,e2]
   by_cases h:ones.contains c=true
   ·rw [h];rfl
   ·have h:ones.contains c=false:=by simpa using h
    rw [h];rfl
 | cons d r=>
   rw [find_twos c d r kV (by decide)]
   have e0:(c :: d :: r).take 2=[c,d]:=rfl
   rw [e0]
   by_cases h:kV.contains [c,d]=true
   ·have hc:ones.contains c=true:=by
        have:∀w∈kV,∀a∈w.head?,ones.contains a=true:=by decide
        exact this _ (List.contains_iff_mem.1 h) c rfl
    rw [if_pos hc,if_pos h,if_pos h];rfl
   ·rw [if_neg h,if_neg h]
    by_cases h:ones.contains c=true
    ·rw [if_pos h,if_pos h];rfl
    ·rw [if_neg h,if_neg h];rfl
theorem Ep:∀(l:List UInt8) (v:Nat),(∀c∈l,isDigit c.toNat=true)->v<4294967296->(match Lib.parseUintM 4294967295 v l with | .ok _=>false | _=>true)= !BH v l
 | [],v,_,_=>by simp [Lib.parseUintM,BH]
 | c :: r,v,hd,hv=>by
   have h1:=hd c (List.mem_cons_self ..)
   simp only [isDigit,fJ,decide_eq_true_eq] at h1
   unfold Lib.parseUintM BH
   rw [if_pos (by omega),if_neg (by omega)]
   by_cases h:4294967296<=10*v+(c.toNat - 48)
   ·rw [if_pos (by omega),if_pos h];rfl
   ·rw [if_neg (by omega),if_neg h,show v*10+(c.toNat - 48)=10*v+(c.toNat - 48) by omega]
    exact Ep r _ (fun c hc=>hd c (List.mem_cons_of_mem _ hc)) (by omega)
theorem Oa {l:List UInt8} (hd:∀c∈l,isDigit c.toNat=true)(hn:l≠[]):tooBig l= !BH 0 l:=by
 unfold tooBig Lib.parseUintB
 rw [if_neg hn]
 exact Ep l 0 hd (by omega)
theorem CJ (p:Int->Bool):∀(l:List UInt8),∀c∈l.take (run p l),p c.toNat=true
 | [],c,h=>by simp at h
 | b :: l,c,h=>by
   unfold run at h
   split at h
   ·rename_i hb
    simp only [List.take_succ_cons,List.mem_cons] at h
    rcases h with rfl | h
    ·exact hb
    ·exact CJ p l c h
   ·simp at h
def uw (k:Int)(s:List UInt8)(l:Int):List AV:=[.i .i64 k,.s s,.i .i64 l]
def wordV (u:List UInt8):Stp->AV
 | .tok k m=>.tu [.ag (uw k (u.take m) 0),.i .i64 0]
 | .err e=>.tu [.ag (uw 0 [] 0),.i .i64 e]
 | .skip _ _=>.u
theorem get_run (p:Int->Bool)(t:List UInt8)(n m:Nat)(c:UInt8)(h:t[n+m]? =some c):decide (0<run p (t.drop (n+m)))=p c.toNat:=by
 rw [drop_cons h]
 cases hp:p c.toNat with
 | true=>simp [run,hp]
 | false=>simp [run,hp]
theorem word_to (t:List UInt8)(n:Nat)(j:Int)(hj:j=n)(ht:t.length<=100000)(hn:n<t.length)(hb:Af (t.drop n)=0)(Z:St) :
 au X 34 [.s t,.i .i64 j] Z fun v s=>v=wordV (t.drop n) (step (t.drop n))/\s=Z:=by
 subst hj
 obtain⟨c,hc⟩:∃c,t[n]? =some c:=⟨_,sN hn⟩
 have hd:=drop_cons hc
 have hfl:∀(e:Nat) (cs cs':List AV),((newCells e cs Z).set Z.length ⟨0,false,.cells e cs'⟩).take Z.length=Z:=by
  intro e cs cs';rw [List.take_set_of_le (Nat.le_refl _),aax _ _ _ _ (Nat.le_refl _),iq]
 have hbl:dN c.toNat=false:=by
  cases h:dN c.toNat with
  | false=>rfl
  | true=>rw [hd] at hb;simp [Af,h] at hb
 have hr: [47,47].isPrefixOf (t.drop n)=false:=by
  cases h: [47,47].isPrefixOf (t.drop n) with
  | false=>rfl
  | true=>
    rw [hd] at h hb
    have hc:c=47:=by simp [List.isPrefixOf] at h;exact h.1.symm
    subst hc
    simp only [Af,hbl,h,nR,if_false,if_true] at hb
    have:=vG (p:=(· != 10)) (t.drop (n+1)) (c:=47) (by decide)
    omega
 refine au.body (F:=F34) ay (lit:=false) rfl rfl (aU rfl) ?_
 conv=>whnf
 refine⟨n,c,rfl,hc,?_⟩
 conv=>whnf
 refine au.to (letter_to c.toNat _) ?_
 conv=>whnf
 cases hl:bQ c.toNat with
 | true=>
   have hrl:=rM isWord (t.drop n)
   simp only [pF] at hrl
   have hstep:step (t.drop n)=if 32<run isWord (t.drop n) then .err 9 else if keys.contains ((t.drop n).take (run isWord (t.drop n))) then .tok 4 (run isWord (t.drop n)) else .tok 1 (run isWord (t.drop n)):=by
    unfold step
    rw [hr,hd]
    simp only [hbl,hl,nR,if_false,if_true]
   conv=>whnf
   refine wordL0 t n ht _ _ _ (t.length - n) 0 (by omega) fun e' h0 h1 h4 h7 h9=>?_
   rw [Nat.add_zero,Nat.zero_add] at h7
   conv=>whnf
   rw [h9];conv=>whnf
   rw [h0];conv=>whnf
   rw [h1];conv=>whnf
   rw [h4];conv=>whnf
   rw [h7];conv=>whnf
   refine⟨_,wrap_i64 (n:=(n:Int)+run isWord (t.drop n)) (by omega) (by omega),?_⟩
   conv=>whnf
   refine⟨n,n+run isWord (t.drop n),rfl,by omega,by omega,by omega,?_⟩
   have e0:n+run isWord (t.drop n) - n=run isWord (t.drop n):=by omega
   rw [e0]
   conv=>whnf
   by_cases h32:32<run isWord (t.drop n)
   ·rw [decide_eq_true (by omega)]
    conv=>whnf
    refine ak (Q9 (T:=BR) rfl (aG _ _ _) rfl rfl (by decide)) ?_
    conv=>whnf
    refine ak (gU (T:=BR) rfl rfl (ah (YQ _ (by rw [aH];omega))) (aU rfl)) ?_
    conv=>whnf
    refine Fin.flat rfl (hfl _ _ _) ⟨?_,rfl⟩
    rw [hstep,if_pos h32];rfl
   ·rw [decide_eq_false (by omega)]
    conv=>whnf
    refine au.to (key_to _ _) ?_
    conv=>whnf
    cases hk:keys.contains ((t.drop n).take (run isWord (t.drop n))) with
    | true=>
      conv=>whnf
      refine ak (Q9 (T:=BR) rfl (aG _ _ _) rfl rfl (by decide)) ?_
      conv=>whnf
      refine ak (gU (T:=BR) rfl rfl (ah (YQ _ (by rw [aH];omega))) (aU rfl)) ?_
      conv=>whnf
      refine Fin.flat rfl (hfl _ _ _) ⟨?_,rfl⟩
      rw [hstep,if_neg h32,if_pos hk];rfl
    | false=>
      conv=>whnf
      refine ak (Q9 (T:=BR) rfl (aG _ _ _) rfl rfl (by decide)) ?_
      conv=>whnf
      refine ak (gU (T:=BR) rfl rfl (ah (YQ _ (by rw [aH];omega))) (aU rfl)) ?_
      conv=>whnf
      refine Fin.flat rfl (hfl _ _ _) ⟨?_,rfl⟩
      rw [hstep,if_neg h32,if_neg (by rw [hk];exact Bool.false_ne_true)];rfl
 | false=>
   conv=>whnf
   refine au.to (digit_to c.toNat _) ?_
   conv=>whnf
   cases hg:isDigit c.toNat with
   | true=>
     have hrl:=rM isDigit (t.drop n)
     simp only [pF] at hrl
     have hstep:step (t.drop n)=if(c.toNat=48/\1<run isDigit (t.drop n))\/0<run bQ ((t.drop n).drop (run isDigit (t.drop n))) then .err 9
        else if tooBig ((t.drop n).take (run isDigit (t.drop n))) then .err 3 else .tok 2 (run isDigit (t.drop n)):=by
        unfold step
        rw [hr,hd]
        simp only [hbl,hl,hg,nR,if_false,if_true]
     have hpos:0<run isDigit (t.drop n):=by rw [hd];exact vG _ hg
     have hall:=CJ isDigit (t.drop n)
     have hbig:=Oa hall (by rw [hd];intro e;have:=congrArg List.length e;simp [List.length_take] at this;rw [<-hd] at this;omega)
     conv=>whnf
     refine wordL1 t n _ ht _ _ _ (t.length - n) 0 (by omega) fun e' h0 h1 h4 h6 h7 h9=>?_
     rw [Nat.add_zero,Nat.zero_add] at h7
     generalize hm:run isDigit (t.drop n)=m at *
     conv=>whnf
     rw [h0];conv=>whnf
     rw [h1];conv=>whnf
     rw [h4];conv=>whnf
     rw [h6];conv=>whnf
     rw [h7];conv=>whnf
     refine⟨_,wrap_i64 (n:=(n:Int)+m) (by omega) (by omega),?_⟩
     conv=>whnf
     refine⟨n,n+m,rfl,by omega,by omega,by omega,?_⟩
     have e0:n+m - n=m:=by omega
     rw [e0]
     have hbad:(c.toNat=48/\1<m)\/0<run bQ ((t.drop n).drop m)->step (t.drop n)= .err 9:=fun h=>by rw [hstep,if_pos h]
     have hgood:¬((c.toNat=48/\1<m)\/0<run bQ ((t.drop n).drop m))->step (t.drop n)=if BH 0 ((t.drop n).take m) then .tok 2 m else .err 3:=fun h=>by
        rw [hstep,if_neg h,hbig]
        cases BH 0 ((t.drop n).take m) <;> rfl
     conv=>whnf
     by_cases hA:1<m
     ·rw [decide_eq_true (show (1:Int)<m by omega)]
      conv=>whnf
      by_cases hB:c.toNat=48
      ·rw [decide_eq_true (show (c.toNat:Int)=48 by omega)]
       conv=>whnf
       refine ak (Q9 (T:=BR) rfl (aG _ _ _) rfl rfl (by decide)) ?_
       conv=>whnf
       refine ak (gU (T:=BR) rfl rfl (ah (YQ _ (by rw [aH];omega))) (aU rfl)) ?_
       conv=>whnf
       refine Fin.flat rfl (hfl _ _ _) ⟨?_,rfl⟩
       rw [hbad (.inl ⟨hB,hA⟩)];rfl
      ·rw [decide_eq_false (show ¬(c.toNat:Int)=48 by omega)]
       have NAB:¬(c.toNat=48/\1<m):=fun h=>hB h.1
       conv=>whnf
       refine⟨_,wrap_i64 (n:=(n:Int)+m) (by omega) (by omega),?_⟩
       conv=>whnf
       by_cases hlen:n+m<t.length
       ·rw [decide_eq_true (by omega)]
        obtain⟨d,hdd⟩:∃d,t[n+m]? =some d:=⟨_,sN hlen⟩
        have hrun:=get_run bQ t n m d hdd
        rw [<-List.drop_drop] at hrun
        conv=>whnf
        refine⟨_,wrap_i64 (n:=(n:Int)+m) (by omega) (by omega),?_⟩
        conv=>whnf
        refine⟨n+m,d,by omega,hdd,?_⟩
        conv=>whnf
        refine au.to (letter_to d.toNat _) ?_
        conv=>whnf
        cases hlet:bQ d.toNat with
        | true=>
          rw [hlet] at hrun
          conv=>whnf
          refine ak (Q9 (T:=BR) rfl (aG _ _ _) rfl rfl (by decide)) ?_
          conv=>whnf
          refine ak (gU (T:=BR) rfl rfl (ah (YQ _ (by rw [aH];omega))) (aU rfl)) ?_
          conv=>whnf
          refine Fin.flat rfl (hfl _ _ _) ⟨?_,rfl⟩
          rw [hbad (.inr (of_decide_eq_true hrun))];rfl
        | false=>
          rw [hlet] at hrun
          have hrun:=of_decide_eq_false hrun
          have HG:=not_or.2 ⟨NAB,hrun⟩
          conv=>whnf
          refine au.to (number_to _ hall (by simp [List.length_take];omega) _) ?_
          conv=>whnf
          cases hk:BH 0 ((t.drop n).take m) with
          | true=>
            conv=>whnf
            refine ak (Q9 (T:=BR) rfl (aG _ _ _) rfl rfl (by decide)) ?_
            conv=>whnf
            refine ak (gU (T:=BR) rfl rfl (ah (YQ _ (by rw [aH];omega))) (aU rfl)) ?_
            conv=>whnf
            refine Fin.flat rfl (hfl _ _ _) ⟨?_,rfl⟩
            rw [hgood HG,if_pos hk];rfl
          | false=>
            conv=>whnf
            refine ak (Q9 (T:=BR) rfl (aG _ _ _) rfl rfl (by decide)) ?_
            conv=>whnf
            refine ak (gU (T:=BR) rfl rfl (ah (YQ _ (by rw [aH];omega))) (aU rfl)) ?_
            conv=>whnf
            refine Fin.flat rfl (hfl _ _ _) ⟨?_,rfl⟩
            rw [hgood HG,if_neg (by rw [hk];exact Bool.false_ne_true)];rfl
       ·rw [decide_eq_false (by omega)]
        have hrun:¬0<run bQ ((t.drop n).drop m):=by rw [List.drop_of_length_le (by simp;omega)];simp [run]
        have HG:=not_or.2 ⟨NAB,hrun⟩
        conv=>whnf
        refine au.to (number_to _ hall (by simp [List.length_take];omega) _) ?_
        conv=>whnf
        cases hk:BH 0 ((t.drop n).take m) with
        | true=>
          conv=>whnf
          refine ak (Q9 (T:=BR) rfl (aG _ _ _) rfl rfl (by decide)) ?_
          conv=>whnf
          refine ak (gU (T:=BR) rfl rfl (ah (YQ _ (by rw [aH];omega))) (aU rfl)) ?_
          conv=>whnf
          refine Fin.flat rfl (hfl _ _ _) ⟨?_,rfl⟩
          rw [hgood HG,if_pos hk];rfl
        | false=>
          conv=>whnf
          refine ak (Q9 (T:=BR) rfl (aG _ _ _) rfl rfl (by decide)) ?_
          conv=>whnf
          refine ak (gU (T:=BR) rfl rfl (ah (YQ _ (by rw [aH];omega))) (aU rfl)) ?_
          conv=>whnf
          refine Fin.flat rfl (hfl _ _ _) ⟨?_,rfl⟩
          rw [hgood HG,if_neg (by rw [hk];exact Bool.false_ne_true)];rfl
     ·rw [decide_eq_false (show ¬(1:Int)<m by omega)]
      have NAB:¬(c.toNat=48/\1<m):=fun h=>hA h.2
      conv=>whnf
      refine⟨_,wrap_i64 (n:=(n:Int)+m) (by omega) (by omega),?_⟩
      conv=>whnf
      by_cases hlen:n+m<t.length
      ·rw [decide_eq_true (by omega)]
       obtain⟨d,hdd⟩:∃d,t[n+m]? =some d:=⟨_,sN hlen⟩
       have hrun:=get_run bQ t n m d hdd
       rw [<-List.drop_drop] at hrun
       conv=>whnf
       refine⟨_,wrap_i64 (n:=(n:Int)+m) (by omega) (by omega),?_⟩
       conv=>whnf
       refine⟨n+m,d,by omega,hdd,?_⟩
       conv=>whnf
       refine au.to (letter_to d.toNat _) ?_
       conv=>whnf
       cases hlet:bQ d.toNat with
       | true=>
         rw [hlet] at hrun
         conv=>whnf
         refine ak (Q9 (T:=BR) rfl (aG _ _ _) rfl rfl (by decide)) ?_
         conv=>whnf
         refine ak (gU (T:=BR) rfl rfl (ah (YQ _ (by rw [aH];omega))) (aU rfl)) ?_
         conv=>whnf
         refine Fin.flat rfl (hfl _ _ _) ⟨?_,rfl⟩
         rw [hbad (.inr (of_decide_eq_true hrun))];rfl
       | false=>
         rw [hlet] at hrun
         have hrun:=of_decide_eq_false hrun
         have HG:=not_or.2 ⟨NAB,hrun⟩
         conv=>whnf
         refine au.to (number_to _ hall (by simp [List.length_take];omega) _) ?_
         conv=>whnf
         cases hk:BH 0 ((t.drop n).take m) with
         | true=>
           conv=>whnf
           refine ak (Q9 (T:=BR) rfl (aG _ _ _) rfl rfl (by decide)) ?_
           conv=>whnf
           refine ak (gU (T:=BR) rfl rfl (ah (YQ _ (by rw [aH];omega))) (aU rfl)) ?_
           conv=>whnf
           refine Fin.flat rfl (hfl _ _ _) ⟨?_,rfl⟩
           rw [hgood HG,if_pos hk];rfl
         | false=>
           conv=>whnf
           refine ak (Q9 (T:=BR) rfl (aG _ _ _) rfl rfl (by decide)) ?_
           conv=>whnf
           refine ak (gU (T:=BR) rfl rfl (ah (YQ _ (by rw [aH];omega))) (aU rfl)) ?_
           conv=>whnf
           refine Fin.flat rfl (hfl _ _ _) ⟨?_,rfl⟩
           rw [hgood HG,if_neg (by rw [hk];exact Bool.false_ne_true)];rfl
      ·rw [decide_eq_false (by omega)]
       have hrun:¬0<run bQ ((t.drop n).drop m):=by rw [List.drop_of_length_le (by simp;omega)];simp [run]
       have HG:=not_or.2 ⟨NAB,hrun⟩
       conv=>whnf
       refine au.to (number_to _ hall (by simp [List.length_take];omega) _) ?_
       conv=>whnf
       cases hk:BH 0 ((t.drop n).take m) with
       | true=>
         conv=>whnf
         refine ak (Q9 (T:=BR) rfl (aG _ _ _) rfl rfl (by decide)) ?_
         conv=>whnf
         refine ak (gU (T:=BR) rfl rfl (ah (YQ _ (by rw [aH];omega))) (aU rfl)) ?_
         conv=>whnf
         refine Fin.flat rfl (hfl _ _ _) ⟨?_,rfl⟩
         rw [hgood HG,if_pos hk];rfl
       | false=>
         conv=>whnf
         refine ak (Q9 (T:=BR) rfl (aG _ _ _) rfl rfl (by decide)) ?_
         conv=>whnf
         refine ak (gU (T:=BR) rfl rfl (ah (YQ _ (by rw [aH];omega))) (aU rfl)) ?_
         conv=>whnf
         refine Fin.flat rfl (hfl _ _ _) ⟨?_,rfl⟩
         rw [hgood HG,if_neg (by rw [hk];exact Bool.false_ne_true)];rfl
   | false=>
     have hss:step (t.drop n)=match signs.find? (·.isPrefixOf (t.drop n)) with | some w=>.tok 3 w.length | none=>.err 9:=by
        rw [hd] at hb ⊢;exact step_sign c _ hb hl hg
     conv=>whnf
     refine signs_to _ _ ?_
     conv=>whnf
     refine sign_loop t n ht (by omega) Z.length _ _ signs _ (mO _ _ _) (by decide) (by decide) ⟨_,by rw [eu (by rw [aH];omega)];exact aG _ _ _⟩ _ 29 0 rfl (fun h e' h4=>?_) (fun w h e' e he h4 h5=>?_)
     ·conv=>whnf
      rw [h4]
      conv=>whnf
      refine ak (Q9 (T:=BR) rfl (by rw [eu (by rw [aH];omega)];exact aG _ _ _) rfl rfl (by decide)) ?_
      conv=>whnf
      refine ak (gU (T:=BR) rfl rfl (ah (YQ _ (by rw [aH,aH];omega))) (aU rfl)) ?_
      conv=>whnf
      refine Fin.flat rfl ?_ ⟨?_,rfl⟩
      ·rw [List.take_set_of_le (Nat.le_refl _),aax _ _ _ _ (by rw [aH];omega),aax _ _ _ _ (Nat.le_refl _),iq]
      ·rw [List.drop_zero] at h
       rw [hss,h];rfl
     ·conv=>whnf
      rw [h4]
      conv=>whnf
      refine ak (gU (T:=BR) rfl rfl (ah (YQ _ (by rw [aH,aH];omega))) (aU rfl)) ?_
      conv=>whnf
      rw [h5]
      conv=>whnf
      refine Fin.flat rfl ?_ ⟨?_,rfl⟩
      ·rw [List.take_set_of_le (Nat.le_refl _),aax _ _ _ _ (by rw [aH];omega),aax _ _ _ _ (Nat.le_refl _),iq]
      ·rw [List.drop_zero] at h
       rw [hss,h]
       have hw:=List.find?_some h
       have hw:=List.isPrefixOf_iff_prefix.1 hw
       rw [List.prefix_iff_eq_take] at hw
       simp only [wordV]
       rw [<-hw];rfl
end Go.Abs.YtlkfbfhkcaldlaaGreatDoor
namespace Go.Abs.YtlkfbfhkcaldlaaGreatDoor
open Go.Proofs
set_option maxRecDepth 4000
def eY (l:List Tok):List AV:=l.flatMap fun t=>uw t.k t.s t.l
theorem nP:∀l:List Tok,(eY l).length=l.length*3
 | []=>rfl
 | t :: l=>by have:=nP l;simp only [eY,List.flatMap_cons,bM,bg] at this ⊢;rw [this];simp [uw];omega
theorem Aj:∀l:List Tok,(eY l).all AV.one=true
 | []=>rfl
 | t :: l=>by have:=Aj l;simp only [eY,List.flatMap_cons,List.all_append] at this ⊢;rw [this];simp [uw,AV.one]
theorem Ob (l:List Tok)(t:Tok):eY (l ++ [t])=eY l ++ uw t.k t.s t.l:=by simp [eY,List.flatMap_append]
theorem G6 (l:List Tok):((eY l).drop 0).take (l.length*3)=eY l:=by rw [List.drop_zero,List.take_of_length_le (by rw [nP];omega)]
def nD (A:Nat)(Z:St)(out:AV)(acc:List Tok):Prop:=(acc=[]/\out= .sl0)\/∃o g,A<=o/\out= .sl o g 0 acc.length 3/\Z[o]? =some ⟨g,false,.cells 62 (eY acc)⟩
theorem nD.new {A:Nat} {Z:St} {out:AV} {acc:List Tok} (h:nD A Z out acc)(e:Nat)(cs:List AV):nD A (newCells e cs Z) out acc:=by
 rcases h with h | ⟨o,g,h1,h2,h3⟩
 ·exact .inl h
 ·exact .inr ⟨o,g,h1,h2,at_new h3 e cs⟩
theorem nD.lt {A:Nat} {Z:St} {out:AV} {acc:List Tok} (h:nD A Z out acc) {i:Nat} (a:AO)(hi:i<A):nD A (Z.set i a) out acc:=by
 rcases h with h | ⟨o,g,h1,h2,h3⟩
 ·exact .inl h
 ·exact .inr ⟨o,g,h1,h2,aK h3 (by omega) a⟩
theorem nD.ge {A:Nat} {Z Z':St} {out:AV} {acc:List Tok} (h:nD A Z out acc)(he:Ext Z Z'):nD A Z' out acc:=by
 rcases h with h | ⟨o,g,h1,h2,h3⟩
 ·exact .inl h
 ·exact .inr ⟨o,g,h1,h2,he.get h3⟩
theorem nD.cases {A:Nat} {Z:St} {v:AV} {acc:List Tok} (h:nD A Z v acc):v= .sl0\/∃o g,v= .sl o g 0 acc.length 3:=by
 rcases h with ⟨_,rfl⟩ | ⟨o,g,_,rfl,_⟩
 ·exact .inl rfl
 ·exact .inr ⟨o,g,rfl⟩
theorem Qb {A:Nat} {Z:St} {out:AV} {acc:List Tok} (h:nD A Z out acc)(tk:Tok)(hl:acc.length<=100000) {C:Nat} (hC:Z[C]? =some ⟨0,false,.cells 62 (uw tk.k tk.s tk.l)⟩)(hA:A<=Z.length) {Q:AV->St->Prop}
 (q:∀out' Z',nD A Z' out' (acc ++ [tk])->(∀i,i<A->Z'[i]? =Z[i]?)->A<=Z'.length->(∀i,i<Z.length->(∀o g n z,out= .sl o g 0 n z->i≠o)->Z'[i]? =Z[i]?)->Q out' Z') :
 D8 KL.get false 51 out (.sl C 0 0 1 3) Z Q:=by
 constructor
 refine ak (v:=qC) rfl ?_
 refine ak (v:=BR) rfl ?_
 refine ak (kG hC (aU rfl)) ?_
 rcases h with ⟨rfl,rfl⟩ | ⟨o,g,h1,rfl,h3⟩
 ·refine⟨aU rfl,?_⟩
  refine q _ _ (.inr ⟨Z.length,0,hA,rfl,?_⟩) (fun i hi=>eu (by omega)) (by rw [aH];omega) (fun i hi _=>eu hi)
  rw [aG];rfl
 ·refine ak (oC h3) ?_
  refine⟨rfl,by rw [nP];omega,?_,by rw [G6];exact Aj acc,?_⟩
  ·show (acc.length+1)*32<=_;omega
  refine q _ _ (.inr ⟨o,g+1,h1,by simp,?_⟩) (fun i hi=>by rw [rZ (by omega)]) (by rw [gK];exact hA) (fun i hi hne=>by rw [rZ (fun e=>hne o g _ _ rfl e.symm)])
  rw [at_set h3,G6,Ob];rfl
theorem step_blank (c:UInt8)(r:List UInt8)(h:0<Af (c :: r)):step (c :: r)= .skip (Af (c :: r)) (if c.toNat=10 then 1 else 0):=by
 unfold Af at h ⊢
 unfold step
 simp only at h ⊢
 split at h
 ·rename_i hb
  have hr: [47,47].isPrefixOf (c :: r)=false:=by
   cases hp: [47,47].isPrefixOf (c :: r) with
   | false=>rfl
   | true=>
     have hc:c=47:=by simp [List.isPrefixOf] at hp;exact hp.1.symm
     subst hc;simp [dN] at hb
  rw [hr];simp [hb]
 ·rename_i hb
  split at h
  ·rename_i hp
   have hc:c=47:=by simp [List.isPrefixOf] at hp;exact hp.1.symm
   rw [hp];subst hc;simp [dN]
  ·omega
theorem step_word (c:UInt8)(r:List UInt8)(h:Af (c :: r)=0):∀n nl,step (c :: r)≠.skip n nl:=by
 intro n nl
 have hbl:dN c.toNat=false:=by
  cases hb:dN c.toNat with
  | false=>rfl
  | true=>simp [Af,hb] at h
 have hr: [47,47].isPrefixOf (c :: r)=false:=by
  cases hp: [47,47].isPrefixOf (c :: r) with
  | false=>rfl
  | true=>
    have hc:c=47:=by simp [List.isPrefixOf] at hp;exact hp.1.symm
    subst hc
    simp only [Af,hbl,hp,nR,if_false,if_true] at h
    have:=vG (p:=(· != 10)) r (c:=47) (by decide)
    omega
 unfold step
 rw [hr]
 simp only [hbl,nR,if_false]
 repeat' split
 all_goals (intro e;cases e)
theorem rtok_loop (t:List UInt8)(ht:t.length<=32768)(Z:St)(Q:Out->Env->St->Prop):∀(k n l:Nat) (acc:List Tok) (out:AV) (Z1:St),n<=t.length->t.length<=n+k->l<=n->acc.length<=n->Ext Z Z1->Z1[Z.length]? =some ⟨0,false,.cells 52 [.i .i64 0,.i .i64 0]⟩->nD (Z.length+1) Z1 out acc->
 (∀acc' l' e' Z' out',mP k (t.drop n) l acc= .done acc' l'->acc'.length<=t.length->Ext Z Z'->Z'[Z.length]? =some ⟨0,false,.cells 52 [.i .i64 0,.i .i64 0]⟩->nD (Z.length+1) Z' out' acc'->get e' 3= .p Z.length 0 0->get e' 4=out'->get e' 5= .i .i64 l'->Q (.exit 0) e' Z')->
 (∀e l' e' Z',mP k (t.drop n) l acc= .bad e l'->Ext Z Z'->Z'[Z.length]? =some ⟨0,false,.cells 52 [.i .i64 e,.i .i64 l']⟩->get e' 3= .p Z.length 0 0->get e' 2= .sl0->Q .ret e' Z')->
 aV X [0,3,4,5,6] c16L0 [(0,.s t),(3,.p Z.length 0 0),(4,out),(5,.i .i64 l),(6,.i .i64 n)] Z1 Q:=by
 intro k
 induction k with
 | zero=>
   intro n l acc out Z1 hn hk hl hacc hx hf ho h1 h2
   have hd:t.drop n=[]:=List.drop_of_length_le (by omega)
   rcases ho.cases with rfl | ⟨o1,g1,rfl⟩
   all_goals
    refine aV.round ay (lit:=false) ?_
    conv=>whnf
    rw [decide_eq_false (by omega)]
    conv=>whnf
    exact h1 acc l _ Z1 _ (by rw [hd];rfl) (by omega) hx hf ho rfl rfl rfl
 | succ k ih=>
   intro n l acc out Z1 hn hk hl hacc hx hf ho h1 h2
   by_cases hlt:n<t.length
   ·obtain⟨c,hc⟩:∃c,t[n]? =some c:=⟨_,sN hlt⟩
    have hd:=drop_cons hc
    have hfit:=jh c (t.drop (n+1))
    have hlen:=congrArg List.length hd
    simp only [pF,bg] at hlen
    have hG:mP (k+1) (t.drop n) l acc=match step (t.drop n) with
     | .skip k' nl=>mP k (t.drop (n+k')) (l+nl) acc
     | .tok kd m=>mP k (t.drop (n+m)) l (acc ++ [⟨kd,(t.drop n).take m,l⟩])
     | .err e=>.bad e l:=by
        rw [hd]
        simp only [mP]
        rw [<-hd]
        cases step (t.drop n) <;> simp [List.drop_drop]
    rw [hG] at h1 h2
    rcases ho.cases with rfl | ⟨o1,g1,rfl⟩
    all_goals
        refine aV.round ay (lit:=false) ?_
        conv=>whnf
        rw [decide_eq_true (by omega)]
        conv=>whnf
        refine au.to (blank_to t n n rfl (by omega) hlt Z1) ?_
        conv=>whnf
        by_cases hb:0<Af (t.drop n)
        ·have hs:=step_blank c (t.drop (n+1)) (by rw [<-hd];exact hb)
         rw [<-hd] at hs hfit
         rw [hs] at h1 h2 hfit
         simp only [Stp.fits] at hfit h1 h2
         rw [decide_eq_true (by omega)]
         conv=>whnf
         refine⟨n,c,rfl,hc,?_⟩
         conv=>whnf
         have hlb:=hfit.2.1
         rw [pF] at hlb
         by_cases h10:c.toNat=10
         ·rw [decide_eq_true (show (c.toNat:Int)=10 by omega)]
          conv=>whnf
          refine⟨((l+1:Nat):Int),wrap_i64 (by omega) (by omega),?_⟩
          conv=>whnf
          refine⟨((n+Af (t.drop n):Nat):Int),wrap_i64 (by omega) (by omega),?_⟩
          conv=>whnf
          rw [if_pos h10] at h1 h2
          exact ih (n+Af (t.drop n)) (l+1) acc _ Z1 (by omega) (by omega) (by omega) (by omega) hx hf ho h1 h2
         ·rw [decide_eq_false (show ¬(c.toNat:Int)=10 by omega)]
          conv=>whnf
          refine⟨((n+Af (t.drop n):Nat):Int),wrap_i64 (by omega) (by omega),?_⟩
          conv=>whnf
          rw [if_neg h10] at h1 h2
          exact ih (n+Af (t.drop n)) l acc _ Z1 (by omega) (by omega) (by omega) (by omega) hx hf ho h1 h2
        ·have hb0:Af (t.drop n)=0:=by omega
         have hns:=step_word c (t.drop (n+1)) (by rw [<-hd];exact hb0)
         rw [<-hd] at hns hfit
         rw [decide_eq_false (by omega)]
         conv=>whnf
         refine au.to (word_to t n n rfl (by omega) hlt hb0 Z1) ?_
         cases hs:step (t.drop n) with
         | skip a b=>exact(hns a b hs).elim
         | err e=>
           rw [hs] at h1 h2 hfit
           simp only [Stp.fits] at hfit
           conv=>whnf
           refine ak (Q9 (T:=BR) rfl (aG _ _ _) rfl rfl (by decide)) ?_
           conv=>whnf
           rw [decide_eq_false (by omega)]
           conv=>whnf
           refine ak (Q9 (T:=yT52) rfl (aK (at_new hf _ _) (by have:=bK hf;omega) _) rfl rfl (by decide)) ?_
           conv=>whnf
           refine h2 e l _ _ rfl (((hx.new _ _).set (by have:=hx.len;omega) _).set (Nat.le_refl _) _) (at_set (aK (at_new hf _ _) (by have:=bK hf;omega) _) _) rfl rfl
         | tok kd m=>
           rw [hs] at h1 h2 hfit
           simp only [Stp.fits] at hfit
           have hlb:=hfit.2.1
           rw [pF] at hlb
           have hfl:=bK hf
           conv=>whnf
           refine ak (aC (T:=BR) (uw kd ((t.drop n).take m) 0) rfl (aG _ _ _) rfl rfl (by decide) rfl) ?_
           conv=>whnf
           have hB1:=at_set (aG 62 BR.zero.cells Z1) ⟨0,false,.cells 62 (uw kd ((t.drop n).take m) 0)⟩
           have hx1:=((Ext.refl Z1).new 62 BR.zero.cells).set (Nat.le_refl _) ⟨0,false,.cells 62 (uw kd ((t.drop n).take m) 0)⟩
           refine ak (aC (T:=fF) (uw kd ((t.drop n).take m) l) rfl hB1 rfl rfl (aU rfl) rfl) ?_
           conv=>whnf
           have hB2:=at_set hB1 ⟨0,false,.cells 62 (uw kd ((t.drop n).take m) l)⟩
           have hx2:=hx1.set (Nat.le_refl _) ⟨0,false,.cells 62 (uw kd ((t.drop n).take m) l)⟩
           refine ak (gU (T:=BR) rfl rfl (ah hB2) (aU rfl)) ?_
           conv=>whnf
           refine Qb (A:=Z.length+1) (tk:=⟨kd,(t.drop n).take m,l⟩) ((ho.ge hx2).new _ _) (by omega) (aG _ _ _) (by rw [aH];have:=hx2.len;omega) fun Vk Z5 ho5 hk5 hl5 hn5=>?_
           have hx5:Ext Z Z5:=⟨by omega,fun i hi=>by rw [hk5 i (by omega)];exact((hx.trans hx2).new _ _).old i hi⟩
           have hf5:Z5[Z.length]? =some ⟨0,false,.cells 52 [.i .i64 0,.i .i64 0]⟩:=by rw [hk5 _ (by omega)];exact at_new (hx2.get hf) _ _
           have hB5:Z5[Z1.length]? =some ⟨0,false,.cells 62 (uw kd ((t.drop n).take m) l)⟩:=by
            rw [hn5 _ (by rw [aH];exact Nat.lt_succ_of_lt (bK hB2)) (fun o g n z e h=>?_)]
            ·exact at_new hB2 _ _
            ·rcases ho with ⟨_,e1⟩ | ⟨o',g',_,e1,e2⟩
             ·cases e1.symm.trans e
             ·cases e1.symm.trans e;have:=bK e2;omega
           rcases ho5.cases with rfl | ⟨o2,g2,rfl⟩
           all_goals
            conv=>whnf
            refine ak (v:=.s ((t.drop n).take m)) (aj (T:=fB) rfl rfl (ah hB5) rfl) ?_
            conv=>whnf
            refine⟨((n+m:Nat):Int),by rw [wrap_i64 (by simp only [List.length_take,pF];omega) (by simp only [List.length_take,pF];omega)];simp only [List.length_take,pF];omega,?_⟩
            conv=>whnf
            exact ih (n+m) l _ _ Z5 (by omega) (by omega) (by omega) (by simp;omega) hx5 hf5 ho5 h1 h2
   ·have hd:t.drop n=[]:=List.drop_of_length_le (by omega)
    rcases ho.cases with rfl | ⟨o1,g1,rfl⟩
    all_goals
        refine aV.round ay (lit:=false) ?_
        conv=>whnf
        rw [decide_eq_false (by omega)]
        conv=>whnf
        exact h1 acc l _ Z1 _ (by rw [hd];rfl) (by omega) hx hf ho rfl rfl rfl
theorem rtok_to (t:List UInt8)(Z:St)(Q:AV->St->Prop)
 (h1:∀l out Z',uj t= .toks l->l.length<=40000->Ext Z Z'->nD (Z.length+1) Z' out l->Q (.tu [out,.ag [.i .i64 0,.i .i64 0]]) Z')
 (h2:∀e l,uj t= .bad e l->Q (.tu [.sl0,.ag [.i .i64 e,.i .i64 l]]) Z):au X 16 [.s t] Z Q:=by
 refine au.body (F:=F16) ay (lit:=false) rfl rfl (aU rfl) ?_
 conv=>whnf
 by_cases hl:32768<t.length
 ·rw [decide_eq_true (by omega)]
  conv=>whnf
  refine ak (aC (T:=yT52) [.i .i64 3,.i .i64 0] rfl (aG _ _ _) rfl rfl (by decide) rfl) ?_
  conv=>whnf
  refine ak (gU (T:=yT52) rfl rfl (ah (at_set (aG _ _ _) _)) (aU rfl)) ?_
  conv=>whnf
  exact Fin.flat rfl (((Ext.refl Z).new _ _).set (Nat.le_refl _) _).take (h2 3 0 (by simp [uj,hl]))
 ·rw [decide_eq_false (by omega)]
  have hS:uj t=(mP t.length (t.drop 0) 0 []).fin:=by rw [List.drop_zero];simp [uj,hl]
  rw [hS] at h1 h2
  conv=>whnf
  refine rtok_loop t (by omega) Z _ t.length 0 0 [] .sl0 _ (by omega) (by omega) (by omega) (by simp) ((Ext.refl Z).new _ _) (aG _ _ _) (.inl ⟨rfl,rfl⟩) (fun acc' l' e' Z' out' h hacc hx hf ho h3 h4 h5=>?_) (fun e l' e' Z' h hx hf h3 h2'=>?_)
  ·rw [h] at h1
   subst h4
   rcases ho.cases with h4 | ⟨o2,g2,h4⟩
   all_goals
        rw [h4] at ho
        conv=>whnf
        rw [h3];conv=>whnf
        rw [h4];conv=>whnf
        rw [h5];conv=>whnf
        refine Qb (A:=Z.length+1) (tk:=⟨5,[],l'⟩) (ho.new _ _) (by omega) (aG _ _ _) (by rw [aH];have:=bK hf;omega) fun Vk Z5 ho5 hk5 hl5 _=>?_
        have hf5:Z5[Z.length]? =some ⟨0,false,.cells 52 [.i .i64 0,.i .i64 0]⟩:=by rw [hk5 _ (by omega)];exact at_new hf _ _
        have hx5:Ext Z Z5:=⟨by omega,fun i hi=>by rw [hk5 i (by omega)];exact(hx.new _ _).old i hi⟩
        have q1:=h1 _ Vk (Z5.set Z.length ⟨0,false,.cells 52 [.i .i64 0,.i .i64 0]⟩) rfl (by simp;omega) (hx5.set (Nat.le_refl _) _) (ho5.lt _ (by omega))
        rcases ho5.cases with rfl | ⟨o3,g3,rfl⟩
        all_goals
         conv=>whnf
         refine ak (aC (T:=yT52) [.i .i64 0,.i .i64 0] rfl hf5 rfl rfl (by decide) rfl) ?_
         conv=>whnf
         refine ak (gU (T:=yT52) rfl rfl (ah (at_set hf5 _)) (aU rfl)) ?_
         conv=>whnf
         first
          | exact Fin.ref rfl q1
          | (exfalso;rcases ho5 with ⟨h6,_⟩ | ⟨o,g,_,h6,_⟩
             ·simp at h6
             ·cases h6)
  ·rw [h] at h2
   conv=>whnf
   rw [h2']
   conv=>whnf
   rw [h3]
   conv=>whnf
   refine ak (gU (T:=yT52) rfl rfl (ah hf) (aU rfl)) ?_
   conv=>whnf
   exact Fin.flat rfl hx.take (h2 e l' rfl)
end Go.Abs.YtlkfbfhkcaldlaaGreatDoor
namespace Go.Abs.YtlkfbfhkcaldlaaGreatDoor
open Go.Proofs
set_option maxRecDepth 4000
theorem Rq (x:List UInt8)(o g:Nat)(l:List (List UInt8))(Z:St)(ho:cellsAt Z o g=some (l.map (AV.s)))(hl:l.length<=100)(Q:Out->Env->St->Prop):∀(k m:Nat),m+k=l.length->
 ((l.drop m).contains x=false->∀e',Q (.exit 0) e' Z)->((l.drop m).contains x=true->∀e' r,get e' 4= .i .i64 r->0<=r->Q .ret e' Z)->
 aV X [0,1,7,8] aal [(0,.sl o g 0 l.length 1),(1,AV.s x),(7,.i .i64 l.length),(8,.i .i64 m)] Z Q:=by
 intro k
 induction k with
 | zero=>
   intro m hm h1 h2
   refine aV.round ay (lit:=false) ?_
   conv=>whnf
   rw [decide_eq_false (by omega)]
   conv=>whnf
   exact h1 (by rw [show l.drop m=[] from List.drop_of_length_le (by omega)];rfl) _
 | succ k ih=>
   intro m hm h1 h2
   obtain⟨c,hc⟩:∃c,l[m]? =some c:=⟨_,sN (by omega)⟩
   have hdr:l.drop m=c :: l.drop (m+1):=by
    obtain⟨hn,rfl⟩:=List.getElem?_eq_some_iff.1 hc
    rw [<-List.getElem_cons_drop hn]
   have hw1:IntKind.i64.wrap ((m:Int)+1)=(m+1:Nat):=by rw [wrap_i64 (by omega) (by omega)];omega
   refine aV.round ay (lit:=false) ?_
   conv=>whnf
   rw [decide_eq_true (by omega)]
   conv=>whnf
   refine⟨m,rfl,by omega,?_⟩
   conv=>whnf
   refine ak (v:=AV.s c) (aj (T:=fB) rfl rfl ho (by simp [hc])) ?_
   conv=>whnf
   cases h:(x == c) with
   | true=>
     conv=>whnf
     exact h2 (by rw [hdr,List.contains_cons];simp_all) _ m rfl (by omega)
   | false=>
     conv=>whnf
     refine⟨_,hw1,?_⟩
     conv=>whnf
     have e1:(l.drop m).contains x=(l.drop (m+1)).contains x:=by
        rw [hdr,List.contains_cons]
        have:(x == c)=false:=by simpa using h
        rw [this];simp
     exact ih (m+1) (by omega) (by rw [<-e1];exact h1) (by rw [<-e1];exact h2)
theorem YZ (x:List UInt8)(o g:Nat)(l:List (List UInt8))(Z:St)(ho:cellsAt Z o g=some (l.map (AV.s)))(hl:l.length<=100) :
 au X 84 [.sl o g 0 l.length 1,AV.s x] Z fun v s=>∃r,v= .i .i64 r/\s=Z/\decide (0<=r)=l.contains x:=by
 refine au.body (F:=F84) ay (lit:=false) rfl rfl (aU rfl) ?_
 conv=>whnf
 refine Rq x o g l Z ho hl _ l.length 0 (by omega) (fun h e'=>?_) (fun h e' r he hr=>?_)
 ·conv=>whnf
  rw [List.drop_zero] at h
  exact Fin.flat rfl iq ⟨-1,rfl,rfl,by rw [h];rfl⟩
 ·conv=>whnf
  rw [he]
  conv=>whnf
  rw [List.drop_zero] at h
  exact Fin.flat rfl iq ⟨r,rfl,rfl,by rw [h];exact decide_eq_true hr⟩
theorem CO (x:List UInt8)(o g:Nat)(l:List (List UInt8))(Z:St)(ho:cellsAt Z o g=some (l.map (AV.s)))(hl:l.length<=100) :
 au X 51 [.sl o g 0 l.length 1,AV.s x] Z fun v s=>v= .b (l.contains x)/\s=Z:=by
 refine au.body (F:=F51) ay (lit:=false) rfl rfl (aU rfl) ?_
 conv=>whnf
 refine(YZ x o g l Z ho hl).mono ?_
 rintro v s ⟨r,rfl,rfl,hr⟩
 conv=>whnf
 rw [hr]
 cases h:l.contains x with
 | true=>conv=>whnf
         exact Fin.flat rfl iq ⟨rfl,rfl⟩
 | false=>conv=>whnf
          exact Fin.flat rfl iq ⟨rfl,rfl⟩
theorem Oc (x:Int)(o g:Nat)(l:List (Int))(Z:St)(ho:cellsAt Z o g=some (l.map (AV.i .i64)))(hl:l.length<=100)(Q:Out->Env->St->Prop):∀(k m:Nat),m+k=l.length->
 ((l.drop m).contains x=false->∀e',Q (.exit 0) e' Z)->((l.drop m).contains x=true->∀e' r,get e' 4= .i .i64 r->0<=r->Q .ret e' Z)->
 aV X [0,1,7,8] Ub [(0,.sl o g 0 l.length 1),(1,AV.i .i64 x),(7,.i .i64 l.length),(8,.i .i64 m)] Z Q:=by
 intro k
 induction k with
 | zero=>
   intro m hm h1 h2
   refine aV.round ay (lit:=false) ?_
   conv=>whnf
   rw [decide_eq_false (by omega)]
   conv=>whnf
   exact h1 (by rw [show l.drop m=[] from List.drop_of_length_le (by omega)];rfl) _
 | succ k ih=>
   intro m hm h1 h2
   obtain⟨c,hc⟩:∃c,l[m]? =some c:=⟨_,sN (by omega)⟩
   have hdr:l.drop m=c :: l.drop (m+1):=by
    obtain⟨hn,rfl⟩:=List.getElem?_eq_some_iff.1 hc
    rw [<-List.getElem_cons_drop hn]
   have hw1:IntKind.i64.wrap ((m:Int)+1)=(m+1:Nat):=by rw [wrap_i64 (by omega) (by omega)];omega
   refine aV.round ay (lit:=false) ?_
   conv=>whnf
   rw [decide_eq_true (by omega)]
   conv=>whnf
   refine⟨m,rfl,by omega,?_⟩
   conv=>whnf
   refine ak (v:=AV.i .i64 c) (aj (T:=yT112) rfl rfl ho (by simp [hc])) ?_
   conv=>whnf
   cases h:(decide (x=c)) with
   | true=>
     conv=>whnf
     exact h2 (by rw [hdr,List.contains_cons];simp_all) _ m rfl (by omega)
   | false=>
     conv=>whnf
     refine⟨_,hw1,?_⟩
     conv=>whnf
     have e1:(l.drop m).contains x=(l.drop (m+1)).contains x:=by
        rw [hdr,List.contains_cons]
        have:(x == c)=false:=by simpa using h
        rw [this];simp
     exact ih (m+1) (by omega) (by rw [<-e1];exact h1) (by rw [<-e1];exact h2)
theorem Vf (x:Int)(o g:Nat)(l:List (Int))(Z:St)(ho:cellsAt Z o g=some (l.map (AV.i .i64)))(hl:l.length<=100) :
 au X 112 [.sl o g 0 l.length 1,AV.i .i64 x] Z fun v s=>∃r,v= .i .i64 r/\s=Z/\decide (0<=r)=l.contains x:=by
 refine au.body (F:=F112) ay (lit:=false) rfl rfl (aU rfl) ?_
 conv=>whnf
 refine Oc x o g l Z ho hl _ l.length 0 (by omega) (fun h e'=>?_) (fun h e' r he hr=>?_)
 ·conv=>whnf
  rw [List.drop_zero] at h
  exact Fin.flat rfl iq ⟨-1,rfl,rfl,by rw [h];rfl⟩
 ·conv=>whnf
  rw [he]
  conv=>whnf
  rw [List.drop_zero] at h
  exact Fin.flat rfl iq ⟨r,rfl,rfl,by rw [h];exact decide_eq_true hr⟩
theorem Ll (x:Int)(o g:Nat)(l:List (Int))(Z:St)(ho:cellsAt Z o g=some (l.map (AV.i .i64)))(hl:l.length<=100) :
 au X 83 [.sl o g 0 l.length 1,AV.i .i64 x] Z fun v s=>v= .b (l.contains x)/\s=Z:=by
 refine au.body (F:=F83) ay (lit:=false) rfl rfl (aU rfl) ?_
 conv=>whnf
 refine(Vf x o g l Z ho hl).mono ?_
 rintro v s ⟨r,rfl,rfl,hr⟩
 conv=>whnf
 rw [hr]
 cases h:l.contains x with
 | true=>conv=>whnf
         exact Fin.flat rfl iq ⟨rfl,rfl⟩
 | false=>conv=>whnf
          exact Fin.flat rfl iq ⟨rfl,rfl⟩
theorem yS (l:List UInt8)(c:Int)(Z:St)(Q:AV->St->Prop)(q:Q (.i .i64 (Lib.indexByte l c.toNat.toUInt8)) Z):au X 48 [.s l,.i .u8 c] Z Q:=by
 refine au.of ?_
 rw [kR (g:=rC) rfl]
 exact⟨_,rfl,q⟩
theorem Oe (s w:List UInt8)(Z:St):au X 81 [.s s,.s w] Z fun v s'=>v= .b (w.isPrefixOf s)/\s'= Z:=by
 refine au.body (F:=F81) ay (lit:=false) rfl rfl (aU rfl) ?_
 conv=>whnf
 by_cases h:w.length<=s.length
 ·have e1:w.isPrefixOf s=(s.take w.length == w):=by
   rw [Bool.eq_iff_iff,List.isPrefixOf_iff_prefix,List.prefix_iff_eq_take,beq_iff_eq]
   exact eq_comm
  rw [decide_eq_true (by omega)]
  conv=>whnf
  refine⟨w.length,rfl,h,?_⟩
  conv=>whnf
  rw [e1]
  cases h:s.take w.length == w with
  | true=>
    conv=>whnf
    exact Fin.flat rfl iq ⟨rfl,rfl⟩
  | false=>
    conv=>whnf
    exact Fin.flat rfl iq ⟨rfl,rfl⟩
 ·have e1:w.isPrefixOf s=false:=by
   rw [Bool.eq_false_iff]
   intro hp
   exact h (List.isPrefixOf_iff_prefix.1 hp).length_le
  rw [decide_eq_false (by omega)]
  conv=>whnf
  exact Fin.flat rfl iq ⟨by rw [e1],rfl⟩
theorem Rt (s w:List UInt8)(Z:St):au X 47 [.s s,.s w] Z fun v s'=>v= .b (w.isPrefixOf s)/\s'= Z:=by
 refine au.body (F:=F47) ay (lit:=false) rfl rfl (aU rfl) ?_
 conv=>whnf
 refine au.to (Oe s w Z) ?_
 conv=>whnf
 cases w.isPrefixOf s with
 | true=>
   conv=>whnf
   exact Fin.flat rfl iq ⟨rfl,rfl⟩
 | false=>
   conv=>whnf
   exact Fin.flat rfl iq ⟨rfl,rfl⟩
set_option maxHeartbeats 4000000 in
theorem Vg (c:Int)(h:0<=c/\c<=1114111)(Z:St):au X 49 [.i .i32 c] Z fun v s=>v= .i .i64 (kindOf c)/\s=Z:=by
 refine au.body (F:=F49) ay (lit:=false) rfl rfl (aU rfl) ?_
 cases hb:dN c with
 | true=>
   have e1:kindOf c=1:=by unfold kindOf;rw [hb];rfl
   rw [e1]
   repeat' ((conv=>whnf);split)
   all_goals (conv=>whnf)
   all_goals first
    | exact Fin.flat rfl iq ⟨rfl,rfl⟩
    | (exfalso;simp_all [dN];done)
 | false=>
   have b0:=hb
   simp only [dN,Bool.or_eq_false_iff,beq_eq_false_iff_ne] at b0
   obtain⟨⟨⟨b1,b2⟩,b3⟩,b4⟩:=b0
   conv=>whnf
   rw [decide_eq_false b1]
   conv=>whnf
   rw [decide_eq_false b2]
   conv=>whnf
   rw [decide_eq_false b3]
   conv=>whnf
   rw [decide_eq_false b4]
   have e1:kindOf c=if bQ c then 2 else if isDigit c then 3 else if pU c then 4 else 0:=by unfold kindOf;rw [hb];rfl
   generalize kindOf c=kd at e1 ⊢
   repeat' ((conv=>whnf);split)
   all_goals (conv=>whnf)
   all_goals first
    | exact Fin.flat rfl iq ⟨by congr 1;rw [e1];grind [bQ,isDigit],rfl⟩
    | skip
   all_goals
    refine⟨_,rfl,?_⟩
    conv=>whnf
    refine yS _ _ _ _ ?_
    repeat' ((conv=>whnf);split)
   all_goals (conv=>whnf)
   all_goals exact Fin.flat rfl iq ⟨by congr 1;rw [e1];grind [bQ,isDigit,pU,ones],rfl⟩
end Go.Abs.YtlkfbfhkcaldlaaGreatDoor
namespace Go.Abs.YtlkfbfhkcaldlaaGreatDoor
open Go.Proofs
set_option maxRecDepth 4000
theorem Vh (t:List UInt8)(k:Nat):(⟨t.toArray⟩:ByteArray).get! k=t.getD k default:=by
 show (t.toArray)[k]! =_
 simp only [List.getD,getElem!_def,List.getElem?_toArray]
 cases t[k]? <;> rfl
theorem Lm (t:List UInt8)(k:Nat)(c:UInt8)(h:t[k]? =some c) :
 (c.toNat<128->Utf8.decode ⟨t.toArray⟩ k=(c.toNat,1))/\(128<=c.toNat->128<=(Utf8.decode ⟨t.toArray⟩ k).1/\(Utf8.decode ⟨t.toArray⟩ k).1<=1114111):=by
 have h0:((⟨t.toArray⟩:ByteArray).get! (k+0)).toNat=c.toNat:=by rw [Vh,Nat.add_zero];simp [List.getD,h]
 constructor
 ·intro hc
  unfold Utf8.decode
  simp only [h0]
  rw [if_pos (show c.toNat<0x80 from hc)]
 ·intro hc
  unfold Utf8.decode
  simp only [h0]
  rw [if_neg (show ¬c.toNat<0x80 by omega)]
  have e1:∀x,x<256->(c.toNat%32)*64+x%64<=2047:=by intro x _;omega
  split
  ·split
   ·exact⟨by assumption,by show _<=1114111;omega⟩
   ·exact⟨by decide,by decide⟩
  ·split
   ·split
    ·rename_i h5
     rw [fJ,decide_eq_true_eq] at h5
     exact⟨Nat.le_trans (by decide) h5.1,by show _<=1114111;omega⟩
    ·exact⟨by decide,by decide⟩
   ·split
    ·split
     ·rename_i h5
      rw [fJ,decide_eq_true_eq] at h5
      refine⟨Nat.le_trans (by decide) h5.1,?_⟩
      have:=h5.2
      simp only [Utf8.valid,Bool.or_eq_true,fJ,decide_eq_true_eq] at this
      show _<=1114111
      omega
     ·exact⟨by decide,by decide⟩
    ·exact⟨by decide,by decide⟩
theorem Lp (c:Int)(h:128<=c):kindOf c=0:=by
 have h1:dN c=false:=by simp [dN];omega
 have h2:bQ c=false:=by simp [bQ];omega
 have h3:isDigit c=false:=by simp [isDigit];omega
 have h4:pU c=false:=by simp only [pU,Bool.and_eq_false_iff];exact .inr (decide_eq_false (by omega))
 simp [kindOf,h1,h2,h3,h4]
theorem G7 {Z:St} {o:Nat} {s:List UInt8} {p:Nat} (h:Z[o]? =some ⟨0,false,.iter s p⟩):iterAt Z o 0=some (s,p):=by simp [iterAt,h]
theorem Ru (t:List UInt8)(ht:t.length<=100000)(ks:List Int)(hks:ks.length<=100)(h0:ks.contains 0=false)(o g:Nat)(Z:St)(ho:cellsAt Z o g=some (ks.map (.i .i64)))(Q:Out->Env->St->Prop):∀(k m:Nat) (Z1:St),m+k=t.length->Ext Z Z1->Z1[Z.length]? =some ⟨0,false,.iter t m⟩->
 (run (fun c=>ks.contains (kindOf c)) (t.drop m)=k->∀e' Z',Ext Z Z'->get e' 0= .s t->Q (.exit 0) e' Z')->
 (run (fun c=>ks.contains (kindOf c)) (t.drop m)<k->∀e' Z',Ext Z Z'->get e' 4= .i .i64 ((m+run (fun c=>ks.contains (kindOf c)) (t.drop m):Nat):Int)->Q .ret e' Z')->
 aV X [0,1,8] aai [(0,.s t),(1,.sl o g 0 ks.length 1),(8,.p Z.length 0 0)] Z1 Q:=by
 intro k
 induction k with
 | zero=>
   intro m Z1 hm hx hi h1 h2
   refine aV.round ay (lit:=false) ?_
   conv=>whnf
   refine ak (G7 hi) ?_
   conv=>whnf
   rw [decide_eq_false (by show ¬m<t.length;omega)]
   conv=>whnf
   exact h1 (by rw [List.drop_of_length_le (by omega)];rfl) _ _ hx rfl
 | succ k ih=>
   intro m Z1 hm hx hi h1 h2
   obtain⟨c,hc⟩:∃c,t[m]? =some c:=⟨_,sN (by omega)⟩
   have hd:=drop_cons hc
   obtain⟨hlow,hhigh⟩:=Lm t m c hc
   refine aV.round ay (lit:=false) ?_
   conv=>whnf
   refine ak (G7 hi) ?_
   conv=>whnf
   rw [decide_eq_true (by show m<t.length;omega)]
   conv=>whnf
   have hx2:∀a,Ext Z (Z1.set Z.length a):=fun a=>hx.set (Nat.le_refl _) a
   have hcs:∀a,cellsAt (Z1.set Z.length a) o g=some (ks.map (.i .i64)):=by
    intro a
    have hol:o<Z.length:=by
        unfold cellsAt at ho
        rcases Nat.lt_or_ge o Z.length with h | h
        ·exact h
        ·rw [List.getElem?_eq_none h] at ho;cases ho
    unfold cellsAt at ho ⊢
    rw [(hx2 a).old o hol];exact ho
   by_cases hlt:c.toNat<128
   ·rw [show Utf8.decode ⟨t.toArray⟩ m=(c.toNat,1) from hlow hlt]
    conv=>whnf
    refine au.to (Vg c.toNat (by omega) _) ?_
    conv=>whnf
    refine au.to (Ll (kindOf c.toNat) o g ks _ (hcs _) hks) ?_
    conv=>whnf
    cases hk:ks.contains (kindOf c.toNat) with
    | true=>
      have e1:run (fun c=>ks.contains (kindOf c)) (t.drop m)=run (fun c=>ks.contains (kindOf c)) (t.drop (m+1))+1:=by
       rw [hd];simp only [run,hk,if_true]
      conv=>whnf
      refine ih (m+1) _ (by omega) (hx2 _) (at_set hi _) (fun h=>h1 (by omega)) (fun h e' Z' hx' h'=>h2 (by omega) e' Z' hx' ?_)
      rw [h',e1,show m+1+run (fun c=>ks.contains (kindOf c)) (t.drop (m+1))=m+(run (fun c=>ks.contains (kindOf c)) (t.drop (m+1))+1) by omega]
    | false=>
      have e1:run (fun c=>ks.contains (kindOf c)) (t.drop m)=0:=by
       rw [hd];simp only [run,hk];rfl
      conv=>whnf
      exact h2 (by omega) _ _ (hx2 _) (by rw [e1];rfl)
   ·have hh:=hhigh (by omega)
    generalize Utf8.decode ⟨t.toArray⟩ m=dd at hh ⊢
    obtain⟨r,d⟩:=dd
    have hk0:kindOf (c.toNat:Int)=0:=Lp _ (by omega)
    have e1:run (fun c=>ks.contains (kindOf c)) (t.drop m)=0:=by
        rw [hd];simp only [run,hk0,h0];rfl
    conv=>whnf
    refine au.to (Vg (r:Nat) ⟨by omega,by have:=hh.2;simp only at this;omega⟩ _) ?_
    rw [Lp (r:Nat) (by have:=hh.1;simp only at this;omega)]
    conv=>whnf
    refine au.to (Ll 0 o g ks _ (hcs _) hks) ?_
    rw [h0]
    conv=>whnf
    exact h2 (by omega) _ _ (hx2 _) (by rw [e1];rfl)
theorem I5 (t:List UInt8)(ht:t.length<=100000)(ks:List Int)(hks:ks.length<=100)(h0:ks.contains 0=false)(o g:Nat)(Z:St)(ho:cellsAt Z o g=some (ks.map (.i .i64))) :
 au X 50 [.s t,.sl o g 0 ks.length 1] Z fun v s=>v= .i .i64 (run (fun c=>ks.contains (kindOf c)) t)/\s=Z:=by
 have hrl:=rM (fun c=>ks.contains (kindOf c)) t
 refine au.body (F:=F50) ay (lit:=false) rfl rfl (aU rfl) ?_
 conv=>whnf
 refine Ru t ht ks hks h0 o g Z ho _ t.length 0 _ (by omega) ⟨by simp,fun i hi=>by rw [List.getElem?_append_left hi]⟩ (by simp) (fun h e' Z' hx h'=>?_) (fun h e' Z' hx h'=>?_)
 ·conv=>whnf
  rw [h']
  conv=>whnf
  rw [List.drop_zero] at h
  exact Fin.flat rfl hx.take ⟨by rw [h],rfl⟩
 ·conv=>whnf
  rw [h']
  conv=>whnf
  rw [List.drop_zero,Nat.zero_add]
  exact Fin.flat rfl hx.take ⟨rfl,rfl⟩
theorem two_to (s:List UInt8)(Z:St)(ht:Z.take G0.length=G0):au X 54 [.s s] Z fun v s'=>v= .b (kV.contains (s.take 2))/\s'= Z:=by
 refine au.body (F:=F54) ay (lit:=false) rfl rfl (aU rfl) ?_
 conv=>whnf
 by_cases h:2<=s.length
 ·rw [decide_eq_true (by omega)]
  conv=>whnf
  refine⟨2,rfl,h,?_⟩
  conv=>whnf
  refine Eo Z _ ht ?_
  conv=>whnf
  refine⟨⟨2,rfl,h,rfl⟩,?_⟩
  conv=>whnf
  refine au.to (CO (s.take 2) _ _ kV _ (ah (rJ _ _ _)) (by decide)) ?_
  cases hc:kV.contains (s.take 2) with
  | true=>
    conv=>whnf
    exact Fin.flat rfl ((Ext.refl Z).one _ _).take ⟨rfl,rfl⟩
  | false=>
    conv=>whnf
    exact Fin.flat rfl ((Ext.refl Z).one _ _).take ⟨rfl,rfl⟩
 ·have e1:kV.contains (s.take 2)=false:=by
   have:∀w∈kV,w.length=2:=by decide
   cases hc:kV.contains (s.take 2) with
   | false=>rfl
   | true=>have:=this _ (List.contains_iff_mem.1 hc);simp at this;omega
  rw [e1,decide_eq_false (by omega)]
  conv=>whnf
  refine⟨rfl,?_⟩
  conv=>whnf
  exact Fin.flat rfl iq ⟨rfl,rfl⟩
theorem Vj (Z:St)(Q:AV->St->Prop)(ht:Z.take G0.length=G0)(q:Q (.sl Z.length 1 0 12 1) (jP 9 (keys.map .s) Z)):au X 52 [] Z Q:=by
 refine au.body (F:=F52) ay (lit:=false) rfl rfl (aU rfl) ?_
 conv=>whnf
 refine En Z _ ht ?_
 conv=>whnf
 exact Fin.ref rfl q
end Go.Abs.YtlkfbfhkcaldlaaGreatDoor
namespace Go.Abs.YtlkfbfhkcaldlaaGreatDoor
open Go.Proofs
set_option maxRecDepth 4000
theorem iJ {Z Z':St} (h:Ext Z Z')(hg:Z.take G0.length=G0):Z'.take G0.length=G0:=by
 have hl:G0.length<=Z.length:=by have:=congrArg List.length hg;rw [List.length_take] at this;omega
 apply List.ext_getElem?
 intro i
 rw [List.getElem?_take]
 split
 ·rename_i hi;rw [h.old i (by omega)];exact vC hg hi
 ·rename_i hi;exact(List.getElem?_eq_none (by omega)).symm
theorem FI (s:List UInt8):Lib.indexByte s 10=if run (· != 10) s<s.length then(run (· != 10) s:Int) else -1:=by
 induction s with
 | nil=>rfl
 | cons c s ih=>
   unfold Lib.indexByte
   by_cases h:c=10
   ·subst h
    simp [run]
   ·have h1:(c == 10)=false:=by simpa using h
    have h2:((c.toNat:Int) != 10)=true:=by
        have:c.toNat≠10:=fun e=>h (UInt8.toNat_inj.1 e)
        simp;omega
    rw [h1]
    simp only [nR,if_false,run,h2,if_true,bg,Nat.add_lt_add_iff_right]
    rw [ih]
    by_cases hr:run (· != 10) s<s.length
    ·simp only [hr,if_true]
     have:((run (· != 10) s:Int) == -1)=false:=by simp <;> omega
     rw [this];simp
    ·simp only [hr,if_false];simp
structure LS (Z Z1:St)(s:List UInt8)(l:Nat)(acc:List Tok):Prop where
 x:Ext Z Z1
 b:Z1[Z.length]? =some ⟨0,false,.cells 9 [.s s]⟩
 o:∃out,Z1[Z.length+1]? =some ⟨0,false,.cells 51 [out]⟩/\nD (Z.length+3) Z1 out acc
 n:Z1[Z.length+2]? =some ⟨0,false,.cells 3 [.i .i64 l]⟩
section
variable {Z Z1:St} {s:List UInt8} {l:Nat} {acc:List Tok}
theorem LS.new (h:LS Z Z1 s l acc)(e:Nat)(cs:List AV):LS Z (newCells e cs Z1) s l acc:=by
 obtain⟨out,h1,h2⟩:=h.o
 exact⟨h.x.new _ _,at_new h.b _ _,⟨out,at_new h1 _ _,h2.new _ _⟩,at_new h.n _ _⟩
theorem LS.one (h:LS Z Z1 s l acc)(e:Nat)(cs:List AV):LS Z (jP e cs Z1) s l acc:=by
 obtain⟨out,h1,h2⟩:=h.o
 exact⟨h.x.one _ _,vF h.b _ _,⟨out,vF h1 _ _,h2.ge ((Ext.refl _).one _ _)⟩,vF h.n _ _⟩
theorem LS.text (h:LS Z Z1 s l acc)(s':List UInt8):LS Z (Z1.set Z.length ⟨0,false,.cells 9 [.s s']⟩) s' l acc:=by
 obtain⟨out,h1,h2⟩:=h.o
 exact⟨h.x.set (Nat.le_refl _) _,at_set h.b _,⟨out,aK h1 (by omega) _,h2.lt _ (by omega)⟩,aK h.n (by omega) _⟩
theorem LS.line (h:LS Z Z1 s l acc)(l':Nat):LS Z (Z1.set (Z.length+2) ⟨0,false,.cells 3 [.i .i64 l']⟩) s l' acc:=by
 obtain⟨out,h1,h2⟩:=h.o
 exact⟨h.x.set (by omega) _,aK h.b (by omega) _,⟨out,aK h1 (by omega) _,h2.lt _ (by omega)⟩,at_set h.n _⟩
end
theorem Ak {Z Z1:St} {s:List UInt8} {l:Nat} {acc:List Tok} (h:LS Z Z1 s l acc)(hacc:acc.length<=100000)(kd n:Nat)(hn:0<n)(hs:n<=s.length) {Q:AV->St->Prop}
 (q:∀Z',LS Z Z' (s.drop n) l (acc ++ [⟨kd,s.take n,l⟩])->Q (.tu []) Z'):au X 46 [.i .i64 kd,.i .i64 n,.p (Z.length+1) 0 0,.p Z.length 0 0,.p (Z.length+2) 0 0] Z1 Q:=by
 obtain⟨out,h1,h2⟩:=h.o
 refine au.body (F:=F46) ay (lit:=false) rfl rfl (aU rfl) ?_
 rcases h2.cases with rfl | ⟨o1,g1,rfl⟩
 all_goals
  conv=>whnf
  refine ak (aj (T:=qC) rfl rfl (ah h1) rfl) ?_
  conv=>whnf
  refine ak (aj (T:=fB) rfl rfl (ah h.b) rfl) ?_
  conv=>whnf
  refine⟨n,rfl,hs,?_⟩
  conv=>whnf
  refine ak (aj (T:=fF) rfl rfl (ah h.n) rfl) ?_
  conv=>whnf
  refine⟨ak (aj (T:=qC) rfl rfl (ah (at_new h1 _ _)) rfl) rfl,?_⟩
  conv=>whnf
  refine Qb (A:=Z.length+3) (tk:=⟨kd,s.take n,l⟩) (h2.new _ _) hacc (aG _ _ _) (by rw [aH];have:=bK h.n;omega) fun Vk Z5 ho5 hk5 hl5 _=>?_
  have hb5:Z5[Z.length]? =some ⟨0,false,.cells 9 [.s s]⟩:=by rw [hk5 _ (by omega)];exact at_new h.b _ _
  obtain⟨w5,ho5'⟩:∃w5,Z5[Z.length+1]? =some ⟨0,false,.cells 51 [w5]⟩:=⟨_,by rw [hk5 _ (by omega)];exact at_new h1 _ _⟩
  have hn5:Z5[Z.length+2]? =some ⟨0,false,.cells 3 [.i .i64 l]⟩:=by rw [hk5 _ (by omega)];exact at_new h.n _ _
  have hx5:Ext Z Z5:=⟨by omega,fun i hi=>by rw [hk5 i (by omega)];exact(h.x.new _ _).old i hi⟩
  have fin:∀Z6,Z6=(Z5.set (Z.length+1) ⟨0,false,.cells 51 [Vk]⟩).set Z.length ⟨0,false,.cells 9 [.s (s.drop n)]⟩->Fin Z1 (.tu []) Z6 Q:=by
   intro Z6 e6
   subst e6
   refine Fin.ne (fun e=>?_) (q _ ⟨(hx5.set (by omega) _).set (Nat.le_refl _) _,at_set (aK hb5 (by omega) _) _,⟨Vk,aK (at_set ho5' _) (by omega) _,(ho5.lt _ (by omega)).lt _ (by omega)⟩,aK (aK hn5 (by omega) _) (by omega) _⟩)
   have e1:=congrArg (fun l=>l[Z.length]?) e
   have hlt:=bK h.b
   simp only [List.getElem?_take] at e1
   rw [if_pos hlt,h.b,at_set (aK hb5 (by omega) _)] at e1
   have e2:s.drop n=s:=by simpa using e1
   have e3:=congrArg List.length e2
   rw [pF] at e3;omega
  rcases ho5.cases with rfl | ⟨o3,g3,rfl⟩
  all_goals
   conv=>whnf
   refine ak (aC (T:=qC) [_] rfl ho5' rfl rfl (aU rfl) rfl) ?_
   conv=>whnf
   refine ak (aj (T:=fB) rfl rfl (ah (aK hb5 (by omega) _)) rfl) ?_
   conv=>whnf
   refine⟨n,rfl,hs,?_⟩
   conv=>whnf
   refine ak (aC (T:=fB) [.s (s.drop n)] rfl (aK hb5 (by omega) _) rfl rfl (aU rfl) rfl) ?_
   conv=>whnf
   exact fin _ rfl
theorem runWord:(fun c:Int=>[2,3].contains (kindOf c))=isWord:=by
 funext c
 unfold kindOf isWord
 by_cases hb:dN c=true
 ·have h1:bQ c=false:=by simp [dN] at hb;simp [bQ];omega
  have h2:isDigit c=false:=by simp [dN] at hb;simp [isDigit];omega
  simp [hb,h1,h2]
 ·cases h1:bQ c <;> cases h2:isDigit c <;> cases h3:pU c <;> simp [hb]
theorem Vl:(fun c:Int=>[3].contains (kindOf c))=isDigit:=by
 funext c
 unfold kindOf
 by_cases hb:dN c=true
 ·have h2:isDigit c=false:=by simp [dN] at hb;simp [isDigit];omega
  simp [hb,h2]
 ·cases h1:bQ c <;> cases h2:isDigit c <;> cases h3:pU c <;> simp [hb]
  all_goals (exfalso;simp [bQ] at h1;simp [isDigit] at h2;omega)
theorem Rw:(fun c:Int=>[2].contains (kindOf c))=bQ:=by
 funext c
 unfold kindOf
 by_cases hb:dN c=true
 ·have h2:bQ c=false:=by simp [dN] at hb;simp [bQ];omega
  simp [hb,h2]
 ·cases h1:bQ c <;> cases h2:isDigit c <;> cases h3:pU c <;> simp [hb]
theorem Vm (t:List UInt8)(ht:t.length<=100000)(Z:St):au X 50 [.s t,.sl Z.length 0 0 2 1] (newCells 112 [.i .i64 2,.i .i64 3] Z) fun v s=>v= .i .i64 (run isWord t)/\s=newCells 112 [.i .i64 2,.i .i64 3] Z:=by
 have:=I5 t ht [2,3] (by decide) (by decide) Z.length 0 _ (mO 112 [.i .i64 2,.i .i64 3] Z)
 rw [runWord] at this;exact this
theorem longDigit (t:List UInt8)(ht:t.length<=100000)(Z:St):au X 50 [.s t,.sl Z.length 0 0 1 1] (newCells 112 [.i .i64 3] Z) fun v s=>v= .i .i64 (run isDigit t)/\s=newCells 112 [.i .i64 3] Z:=by
 have:=I5 t ht [3] (by decide) (by decide) Z.length 0 _ (mO 112 [.i .i64 3] Z)
 rw [Vl] at this;exact this
theorem Es (t:List UInt8)(ht:t.length<=100000)(Z:St):au X 50 [.s t,.sl Z.length 0 0 1 1] (newCells 112 [.i .i64 2] Z) fun v s=>v= .i .i64 (run bQ t)/\s=newCells 112 [.i .i64 2] Z:=by
 have:=I5 t ht [2] (by decide) (by decide) Z.length 0 _ (mO 112 [.i .i64 2] Z)
 rw [Rw] at this;exact this
def Vo:Lib.NumEnd Nat->Bool
 | .ok _=>false
 | .range=>false
 | _=>true
theorem G8:∀(l:List UInt8) (M v:Nat),(∀c∈l,isDigit c.toNat=true)->Vo (Lib.parseUintM M v l)=false
 | [],M,v,_=>by simp [Lib.parseUintM,Vo]
 | c :: r,M,v,hd=>by
   have h1:=hd c (List.mem_cons_self ..)
   simp only [isDigit,fJ,decide_eq_true_eq] at h1
   unfold Lib.parseUintM
   rw [if_pos (by omega)]
   split
   ·rfl
   ·split
    ·rfl
    ·exact G8 r M _ fun c hc=>hd c (List.mem_cons_of_mem _ hc)
theorem Lr (l:List UInt8)(hd:∀c∈l,isDigit c.toNat=true)(hn:l≠[])(hl:l.length<=100000)(Z:St)(hg:Z.take G0.length=G0)(Q:AV->St->Prop)
 (h1:tooBig l=false->∀u:Nat,Q (.tu [.i .u64 u,.ic0]) Z) (h2:tooBig l=true->Q (.tu [.i .u64 4294967295,.ic 158 .u]) Z) :
 au X 53 [.s l,.i .i64 10,.i .i64 32] Z Q:=by
 refine au.of ?_
 rw [kR (g:=jX) rfl]
 have hp:Vo (Lib.parseUintB 32 l)=false:=by unfold Lib.parseUintB;rw [if_neg hn];exact G8 l _ _ hd
 have h5:Z[4]? =G0[4]? :=vC hg (by decide)
 unfold jX
 simp only
 rw [if_pos (by omega)]
 unfold tooBig at h1 h2
 generalize Lib.parseUintB 32 l=r at hp h1 h2
 cases r
 ·exact⟨_,rfl,h1 rfl _⟩
 ·cases hp
 ·simp only
  rw [h5]
  exact⟨_,rfl,h2 rfl⟩
set_option maxHeartbeats 4000000 in
theorem RD (Z:St)(hg:Z.take G0.length=G0)(Q:Out->Env->St->Prop):∀(k:Nat) (s:List UInt8) (l:Nat) (acc:List Tok) (Z1:St),s.length<=k->l+k<=32768->acc.length+k<=32768->LS Z Z1 s l acc->
 (∀acc' l' e' Z' s',mP k s l acc= .done acc' l'->acc'.length<=32768->LS Z Z' s' l' acc'->get e' 4= .p (Z.length+1) 0 0->get e' 5= .p (Z.length+2) 0 0->get e' 7= .i .i64 0->get e' 1000000= .u->Q (.exit 0) e' Z')->
 (∀e l' e' Z' s' acc',mP k s l acc= .bad e l'->(e=3\/e=9)->LS Z Z' s' l' acc'->get e' 4= .p (Z.length+1) 0 0->get e' 5= .p (Z.length+2) 0 0->get e' 7= .i .i64 e->get e' 1000000= .u->Q (.exit 0) e' Z')->
 aV X [1,4,5,6,7] PV [(1,.p Z.length 0 0),(4,.p (Z.length+1) 0 0),(5,.p (Z.length+2) 0 0),(6,.fn (.func 46) [] [.p (Z.length+1) 0 0,.p Z.length 0 0,.p (Z.length+2) 0 0]),(7,.i .i64 0)] Z1 Q:=by
 intro k
 induction k with
 | zero=>
   intro s l acc Z1 hk hl hacc h h1 h2
   obtain rfl:s=[]:=List.length_eq_zero_iff.1 (by omega)
   refine aV.round ay (lit:=false) ?_
   conv=>whnf
   refine ak (aj (T:=fB) rfl rfl (ah h.b) rfl) ?_
   conv=>whnf
   exact h1 acc l _ Z1 [] rfl (by omega) h rfl rfl rfl rfl
 | succ k ih=>
   intro s l acc Z1 hk hl hacc h h1 h2
   cases s with
   | nil=>
     refine aV.round ay (lit:=false) ?_
     conv=>whnf
     refine ak (aj (T:=fB) rfl rfl (ah h.b) rfl) ?_
     conv=>whnf
     exact h1 acc l _ Z1 [] rfl (by omega) h rfl rfl rfl rfl
   | cons c r=>
     generalize hs:c :: r=s at *
     have hlen:s.length=r.length+1:=by rw [<-hs];rfl
     have h0:s[0]? =some c:=by rw [<-hs];rfl
     have hfit:=jh c r
     rw [hs] at hfit
     have hG:mP (k+1) s l acc=match step s with
      | .skip k' nl=>mP k (s.drop k') (l+nl) acc
      | .tok kd m=>mP k (s.drop m) l (acc ++ [⟨kd,s.take m,l⟩])
      | .err e=>.bad e l:=by
        rw [<-hs];rfl
     rw [hG] at h1 h2
     have hgl:=iJ h.x hg
     refine aV.round ay (lit:=false) ?_
     conv=>whnf
     refine ak (aj (T:=fB) rfl rfl (ah h.b) rfl) ?_
     conv=>whnf
     rw [decide_eq_true (by omega)]
     conv=>whnf
     refine ak (aj (T:=fB) rfl rfl (ah h.b) rfl) ?_
     conv=>whnf
     refine au.to (Rt s [47,47] Z1) ?_
     cases hp: [47,47].isPrefixOf s with
     | true=>
       have hst:step s= .skip (run (· != 10) s) 0:=by unfold step;rw [hp];rfl
       rw [hst] at h1 h2 hfit
       simp only [Stp.fits,Nat.add_zero] at hfit h1 h2
       have goal:∀Z2,Z2=Z1.set Z.length ⟨0,false,.cells 9 [.s (s.drop (run (· != 10) s))]⟩->aV X [1,4,5,6,7] PV [(1,.p Z.length 0 0),(4,.p (Z.length+1) 0 0),(5,.p (Z.length+2) 0 0),(6,.fn (.func 46) [] [.p (Z.length+1) 0 0,.p Z.length 0 0,.p (Z.length+2) 0 0]),(7,.i .i64 0)] Z2 Q:=by
        intro Z2 e
        subst e
        exact ih _ l acc _ (by rw [pF];omega) (by omega) (by omega) (h.text _) h1 h2
       conv=>whnf
       refine ak (aj (T:=fB) rfl rfl (ah h.b) rfl) ?_
       conv=>whnf
       refine yS _ _ _ _ ?_
       rw [show ((10:Int).toNat.toUInt8)=10 from rfl,FI]
       by_cases hr:run (· != 10) s<s.length
       ·rw [if_pos hr]
        conv=>whnf
        refine ak (aj (T:=fB) rfl rfl (ah h.b) rfl) ?_
        conv=>whnf
        refine⟨run (· != 10) s,rfl,by omega,?_⟩
        conv=>whnf
        refine ak (aC (T:=fB) [.s (s.drop (run (· != 10) s))] rfl h.b rfl rfl (aU rfl) rfl) ?_
        conv=>whnf
        exact goal _ rfl
       ·rw [if_neg hr]
        have hre:s.length=run (· != 10) s:=by omega
        conv=>whnf
        refine ak (aj (T:=fB) rfl rfl (ah h.b) rfl) ?_
        conv=>whnf
        refine ak (aj (T:=fB) rfl rfl (ah h.b) rfl) ?_
        conv=>whnf
        refine⟨run (· != 10) s,by rw [hre],by omega,?_⟩
        conv=>whnf
        refine ak (aC (T:=fB) [.s (s.drop (run (· != 10) s))] rfl h.b rfl rfl (aU rfl) rfl) ?_
        conv=>whnf
        exact goal _ rfl
     | false=>
       conv=>whnf
       refine ak (aj (T:=fB) rfl rfl (ah h.b) rfl) ?_
       conv=>whnf
       refine⟨0,c,rfl,h0,?_⟩
       conv=>whnf
       refine⟨_,wrap_i32 (by omega) (by have:=c.toNat_lt;omega),?_⟩
       conv=>whnf
       refine au.to (Vg c.toNat (by have:=c.toNat_lt;omega) Z1) ?_
       cases hb:dN c.toNat with
       | true=>
         have hst:step s= .skip 1 (if c.toNat=10 then 1 else 0):=by
            unfold step;rw [hp,<-hs];simp only [hb,nR,if_false,if_true]
         rw [hst] at h1 h2
         simp only at h1 h2
         rw [show kindOf c.toNat=1 by unfold kindOf;rw [hb];rfl]
         conv=>whnf
         refine ak (aj (T:=fB) rfl rfl (ah h.b) rfl) ?_
         conv=>whnf
         refine⟨0,c,rfl,h0,?_⟩
         conv=>whnf
         by_cases h10:c.toNat=10
         ·rw [decide_eq_true (show (c.toNat:Int)=10 by omega)]
          rw [if_pos h10] at h1 h2
          conv=>whnf
          refine ak (aj (T:=fF) rfl rfl (ah h.n) rfl) ?_
          conv=>whnf
          refine⟨((l+1:Nat):Int),wrap_i64 (by omega) (by omega),?_⟩
          conv=>whnf
          refine ak (aC (T:=fF) [.i .i64 ((l+1:Nat):Int)] rfl h.n rfl rfl (aU rfl) rfl) ?_
          conv=>whnf
          refine ak (aj (T:=fB) rfl rfl (ah (h.line (l+1)).b) rfl) ?_
          conv=>whnf
          refine⟨1,rfl,by omega,?_⟩
          conv=>whnf
          refine ak (aC (T:=fB) [.s (s.drop 1)] rfl (h.line (l+1)).b rfl rfl (aU rfl) rfl) ?_
          conv=>whnf
          exact ih _ (l+1) acc _ (by rw [pF];omega) (by omega) (by omega) ((h.line (l+1)).text _) h1 h2
         ·rw [decide_eq_false (show ¬(c.toNat:Int)=10 by omega)]
          rw [if_neg h10] at h1 h2
          conv=>whnf
          refine ak (aj (T:=fB) rfl rfl (ah h.b) rfl) ?_
          conv=>whnf
          refine⟨1,rfl,by omega,?_⟩
          conv=>whnf
          refine ak (aC (T:=fB) [.s (s.drop 1)] rfl h.b rfl rfl (aU rfl) rfl) ?_
          conv=>whnf
          exact ih _ l acc _ (by rw [pF];omega) (by omega) (by omega) (h.text _) h1 h2
       | false=>
         cases hl1:bQ c.toNat with
         | true=>
           have hst:step s=if 32<run isWord s then .err 9 else if keys.contains (s.take (run isWord s)) then .tok 4 (run isWord s) else .tok 1 (run isWord s):=by
            unfold step;rw [hp,<-hs];simp only [hb,hl1,nR,if_false,if_true]
           have hrl:=rM isWord s
           have hrp:0<run isWord s:=by rw [<-hs];exact vG _ (by simp [isWord,hl1])
           rw [show kindOf c.toNat=2 by unfold kindOf;rw [hb,hl1];rfl]
           conv=>whnf
           refine ak (aj (T:=fB) rfl rfl (ah h.b) rfl) ?_
           conv=>whnf
           refine au.to (Vm s (by omega) Z1) ?_
           conv=>whnf
           have h':=h.new 112 [.i .i64 2,.i .i64 3]
           have hg':=iJ h'.x hg
           by_cases h32:32<run isWord s
           ·rw [decide_eq_true (by omega)]
            conv=>whnf
            rw [hst,if_pos h32] at h2
            exact h2 9 l _ _ s acc rfl (.inr rfl) h' rfl rfl rfl rfl
           ·rw [decide_eq_false (by omega)]
            conv=>whnf
            refine ak (aj (T:=fB) rfl rfl (ah h'.b) rfl) ?_
            conv=>whnf
            refine⟨run isWord s,rfl,hrl,?_⟩
            conv=>whnf
            refine Vj _ _ hg' ?_
            conv=>whnf
            have h'':=h'.one 9 (keys.map .s)
            refine⟨ak (aj (T:=fB) rfl rfl (ah h''.b) rfl) rfl,⟨run isWord s,rfl,hrl,rfl⟩,?_⟩
            conv=>whnf
            refine au.to (CO _ _ _ keys _ (ah (rJ _ _ _)) (by decide)) ?_
            cases hk:keys.contains (s.take (run isWord s)) with
            | true=>
              rw [hst,if_neg h32,if_pos hk] at h1 h2
              conv=>whnf
              refine Ak h'' (by omega) 4 (run isWord s) hrp hrl fun Z3 h3=>?_
              conv=>whnf
              exact ih _ l _ Z3 (by rw [pF];omega) (by omega) (by simp;omega) h3 h1 h2
            | false=>
              rw [hst,if_neg h32,if_neg (by rw [hk];exact Bool.false_ne_true)] at h1 h2
              conv=>whnf
              refine Ak h'' (by omega) 1 (run isWord s) hrp hrl fun Z3 h3=>?_
              conv=>whnf
              exact ih _ l _ Z3 (by rw [pF];omega) (by omega) (by simp;omega) h3 h1 h2
         | false=>
           cases hg1:isDigit c.toNat with
           | true=>
             have hst:step s=if(c.toNat=48/\1<run isDigit s)\/0<run bQ (s.drop (run isDigit s)) then .err 9
                else if tooBig (s.take (run isDigit s)) then .err 3 else .tok 2 (run isDigit s):=by
              unfold step;rw [hp,<-hs];simp only [hb,hl1,hg1,nR,if_false,if_true]
             have hrl:=rM isDigit s
             have hrp:0<run isDigit s:=by rw [<-hs];exact vG _ hg1
             have hne:s.take (run isDigit s)≠[]:=fun e=>by have:=congrArg List.length e;rw [List.length_take,bZ] at this;omega
             rw [show kindOf c.toNat=3 by unfold kindOf;rw [hb,hl1,hg1];rfl]
             conv=>whnf
             refine ak (aj (T:=fB) rfl rfl (ah h.b) rfl) ?_
             conv=>whnf
             refine au.to (longDigit s (by omega) Z1) ?_
             conv=>whnf
             have h':=h.new 112 [.i .i64 3]
             refine ak (aj (T:=fB) rfl rfl (ah h'.b) rfl) ?_
             conv=>whnf
             refine⟨0,c,rfl,h0,?_⟩
             conv=>whnf
             by_cases hA:c.toNat=48
             ·rw [decide_eq_true (show (c.toNat:Int)=48 by omega)]
              conv=>whnf
              by_cases hB:1<run isDigit s
              ·rw [decide_eq_true (by omega)]
               conv=>whnf
               rw [hst,if_pos (.inl ⟨hA,hB⟩)] at h2
               exact h2 9 l _ _ s acc rfl (.inr rfl) h' rfl rfl rfl rfl
              ·rw [decide_eq_false (by omega)]
               conv=>whnf
               refine ak (aj (T:=fB) rfl rfl (ah h'.b) rfl) ?_
               conv=>whnf
               refine⟨run isDigit s,rfl,hrl,?_⟩
               conv=>whnf
               refine au.to (Es _ (by rw [pF];omega) _) ?_
               conv=>whnf
               have h'':=h'.new 112 [.i .i64 2]
               by_cases hC:0<run bQ (s.drop (run isDigit s))
               ·rw [decide_eq_true (by omega)]
                conv=>whnf
                rw [hst,if_pos (.inr hC)] at h2
                exact h2 9 l _ _ s acc rfl (.inr rfl) h'' rfl rfl rfl rfl
               ·rw [decide_eq_false (by omega)]
                rw [hst,if_neg (not_or.2 ⟨fun h=>hB h.2,hC⟩)] at h1 h2
                conv=>whnf
                refine ak (aj (T:=fB) rfl rfl (ah h''.b) rfl) ?_
                conv=>whnf
                refine⟨run isDigit s,rfl,hrl,?_⟩
                conv=>whnf
                refine Lr _ (CJ isDigit s) hne (by rw [List.length_take];omega) _ (iJ (LS.x h'') hg) _ (fun hbig u=>?_) (fun hbig=>?_)
                ·conv=>whnf
                 rw [if_neg (by rw [hbig];exact Bool.false_ne_true)] at h1 h2
                 refine Ak h'' (by omega) 2 (run isDigit s) hrp hrl fun Z3 h3=>?_
                 conv=>whnf
                 exact ih _ l _ Z3 (by rw [pF];omega) (by omega) (by simp;omega) h3 h1 h2
                ·conv=>whnf
                 rw [if_pos hbig] at h1 h2
                 exact h2 3 l _ _ s acc rfl (.inl rfl) h'' rfl rfl rfl rfl
             ·rw [decide_eq_false (show ¬(c.toNat:Int)=48 by omega)]
              conv=>whnf
              refine ak (aj (T:=fB) rfl rfl (ah h'.b) rfl) ?_
              conv=>whnf
              refine⟨run isDigit s,rfl,hrl,?_⟩
              conv=>whnf
              refine au.to (Es _ (by rw [pF];omega) _) ?_
              conv=>whnf
              have h'':=h'.new 112 [.i .i64 2]
              by_cases hC:0<run bQ (s.drop (run isDigit s))
              ·rw [decide_eq_true (by omega)]
               conv=>whnf
               rw [hst,if_pos (.inr hC)] at h2
               exact h2 9 l _ _ s acc rfl (.inr rfl) h'' rfl rfl rfl rfl
              ·rw [decide_eq_false (by omega)]
               rw [hst,if_neg (not_or.2 ⟨fun h=>hA h.1,hC⟩)] at h1 h2
               conv=>whnf
               refine ak (aj (T:=fB) rfl rfl (ah h''.b) rfl) ?_
               conv=>whnf
               refine⟨run isDigit s,rfl,hrl,?_⟩
               conv=>whnf
               refine Lr _ (CJ isDigit s) hne (by rw [List.length_take];omega) _ (iJ (LS.x h'') hg) _ (fun hbig u=>?_) (fun hbig=>?_)
               ·conv=>whnf
                rw [if_neg (by rw [hbig];exact Bool.false_ne_true)] at h1 h2
                refine Ak h'' (by omega) 2 (run isDigit s) hrp hrl fun Z3 h3=>?_
                conv=>whnf
                exact ih _ l _ Z3 (by rw [pF];omega) (by omega) (by simp;omega) h3 h1 h2
               ·conv=>whnf
                rw [if_pos hbig] at h1 h2
                exact h2 3 l _ _ s acc rfl (.inl rfl) h'' rfl rfl rfl rfl
           | false=>
             cases ho1:pU c.toNat with
             | true=>
               have hst:step s=if kV.contains (s.take 2) then .tok 3 2 else .tok 3 1:=by
                unfold step;rw [hp,<-hs];simp only [hb,hl1,hg1,ho1,nR,if_false,if_true]
               rw [show kindOf c.toNat=4 by unfold kindOf;rw [hb,hl1,hg1,ho1];rfl]
               conv=>whnf
               refine ak (aj (T:=fB) rfl rfl (ah h.b) rfl) ?_
               conv=>whnf
               refine au.to (two_to s Z1 hgl) ?_
               cases hk:kV.contains (s.take 2) with
               | true=>
                 rw [hst,if_pos hk] at h1 h2 hfit
                 simp only [Stp.fits] at hfit
                 conv=>whnf
                 refine Ak h (by omega) 3 2 (by omega) hfit.2.1 fun Z3 h3=>?_
                 conv=>whnf
                 exact ih _ l _ Z3 (by rw [pF];omega) (by omega) (by simp;omega) h3 h1 h2
               | false=>
                 rw [hst,if_neg (by rw [hk];exact Bool.false_ne_true)] at h1 h2
                 conv=>whnf
                 refine Ak h (by omega) 3 1 (by omega) (by omega) fun Z3 h3=>?_
                 conv=>whnf
                 exact ih _ l _ Z3 (by rw [pF];omega) (by omega) (by simp;omega) h3 h1 h2
             | false=>
               have hst:step s= .err 9:=by
                unfold step;rw [hp,<-hs];simp only [hb,hl1,hg1,ho1,nR,if_false]
               rw [show kindOf c.toNat=0 by unfold kindOf;rw [hb,hl1,hg1,ho1];rfl]
               conv=>whnf
               rw [hst] at h2
               exact h2 9 l _ _ s acc rfl (.inr rfl) h rfl rfl rfl rfl
end Go.Abs.YtlkfbfhkcaldlaaGreatDoor
namespace Go.Abs.YtlkfbfhkcaldlaaGreatDoor
open Go.Proofs
set_option maxRecDepth 4000
theorem ltok_to (t:List UInt8)(Z:St)(hg:Z.take G0.length=G0)(Q:AV->St->Prop)
 (h1:∀l out Z',uj t= .toks l->l.length<=40000->Ext Z Z'->nD Z.length Z' out l->Q (.tu [out,.ic0]) Z')
 (h2:∀e l o Z',uj t= .bad e l->Ext Z Z'->Z.length<=o->Z'[o]? =some ⟨0,false,.cells 25 [.i .i64 e,.i .i64 l]⟩->Q (.tu [.sl0,.ic 86 (.p o 0 0)]) Z') :
 au X 23 [.s t] Z Q:=by
 refine au.body (F:=F23) ay (lit:=false) rfl rfl (aU rfl) ?_
 conv=>whnf
 refine ak (aj (T:=fB) rfl rfl (ah (aG _ _ _)) rfl) ?_
 conv=>whnf
 by_cases hl:32768<t.length
 ·rw [decide_eq_true (by omega)]
  conv=>whnf
  refine Fin.ref rfl (h2 3 0 _ _ (by simp [uj,hl]) (((Ext.refl Z).new _ _).new _ _) ?_ ?_)
  ·rw [aH];omega
  ·exact aG _ _ _
 ·rw [decide_eq_false (by omega)]
  have hS:uj t=(mP t.length t 0 []).fin:=by simp [uj,hl]
  rw [hS] at h1 h2
  conv=>whnf
  refine ak (aC (T:=fF) [.i .i64 0] rfl (aG _ _ _) rfl rfl (aU rfl) rfl) ?_
  conv=>whnf
  have e1:(newCells 9 [.s t] Z).length=Z.length+1:=aH _ _ _
  have e2:(newCells 51 [.sl0] (newCells 9 [.s t] Z)).length=Z.length+2:=by rw [aH,e1]
  have hls:LS Z ((newCells 3 [.i .i64 0] (newCells 51 [.sl0] (newCells 9 [.s t] Z))).set (Z.length+2) ⟨0,false,.cells 3 [.i .i64 (0:Nat)]⟩) t 0 []:=by
   refine LS.line (l:=0) ⟨(((Ext.refl Z).new _ _).new _ _).new _ _,at_new (at_new (aG _ _ _) _ _) _ _,⟨.sl0,?_,.inl ⟨rfl,rfl⟩⟩,?_⟩ 0
   ·refine at_new ?_ _ _
    have:=aG 51 [.sl0] (newCells 9 [.s t] Z)
    rw [e1] at this;exact this
   ·have:=aG 3 [.i .i64 0] (newCells 51 [.sl0] (newCells 9 [.s t] Z))
    rw [e2] at this;exact this
  show aV X [1,4,5,6,7] PV [(1,.p Z.length 0 0),(4,.p (newCells 9 [.s t] Z).length 0 0),(5,.p (newCells 51 [.sl0] (newCells 9 [.s t] Z)).length 0 0),(6,.fn (.func 46) [] [.p (newCells 9 [.s t] Z).length 0 0,.p Z.length 0 0,.p (newCells 51 [.sl0] (newCells 9 [.s t] Z)).length 0 0]),(7,.i .i64 0)]
   ((newCells 3 [.i .i64 0] (newCells 51 [.sl0] (newCells 9 [.s t] Z))).set (newCells 51 [.sl0] (newCells 9 [.s t] Z)).length ⟨0,false,.cells 3 [.i .i64 (0:Nat)]⟩) _
  rw [e1,e2]
  refine RD Z hg _ t.length t 0 [] _ (Nat.le_refl _) (by omega) (by simp;omega) hls (fun acc' l' e' Z' s' hG hacc h h4 h5 h7 hu=>?_) (fun e l' e' Z' s' acc' hG he h h4 h5 h7 hu=>?_)
  ·rw [hG] at h1
   obtain⟨out,ho1,ho2⟩:=h.o
   conv=>whnf
   rw [hu]
   conv=>whnf
   rw [h4]
   conv=>whnf
   rw [h5]
   conv=>whnf
   rw [h7]
   rcases ho2.cases with rfl | ⟨o1,g1,rfl⟩
   all_goals
        conv=>whnf
        refine ak (aj (T:=qC) rfl rfl (ah ho1) rfl) ?_
        conv=>whnf
        refine ak (aj (T:=fF) rfl rfl (ah h.n) rfl) ?_
        conv=>whnf
        refine Qb (A:=Z.length+3) (tk:=⟨5,[],l'⟩) (ho2.new _ _) (by omega) (aG _ _ _) (by rw [aH];have:=bK h.n;omega) fun Vk Z5 ho5 hk5 hl5 _=>?_
        have hx5:Ext Z Z5:=⟨by omega,fun i hi=>by rw [hk5 i (by omega)];exact(h.x.new _ _).old i hi⟩
        have hoo:nD Z.length Z5 Vk (acc' ++ [⟨5,[],l'⟩]):=by
         rcases ho5 with h | ⟨o,g,q1,q2⟩
         ·exact .inl h
         ·exact .inr ⟨o,g,by omega,q2⟩
        have q1:=h1 _ Vk Z5 rfl (by simp;omega) hx5 hoo
        rcases ho5.cases with rfl | ⟨o3,g3,rfl⟩
        all_goals
         conv=>whnf
         first
          | exact Fin.ref rfl q1
          | (exfalso;rcases ho5 with ⟨h6,_⟩ | ⟨o,g,_,h6,_⟩
             ·simp at h6
             ·cases h6)
  ·rw [hG] at h2
   conv=>whnf
   rw [hu]
   conv=>whnf
   rw [h4]
   conv=>whnf
   rw [h5]
   conv=>whnf
   rw [h7]
   conv=>whnf
   rw [decide_eq_false (show ¬(e:Int)=0 by omega)]
   conv=>whnf
   refine ak (aj (T:=fF) rfl rfl (ah h.n) rfl) ?_
   conv=>whnf
   exact Fin.ref rfl (h2 e l' _ _ rfl (h.x.new _ _) h.x.len (aG _ _ _))
end Go.Abs.YtlkfbfhkcaldlaaGreatDoor
