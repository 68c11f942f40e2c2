/- Texts of this claim, joined: FnA, FnB, FnC, FnD, FnE, FnF, FnG, FnH. -/
import Derived.Test.YtlkfbfhkcaldlaaGreatDoorM20
set_option linter.unusedVariables false
set_option linter.unusedSimpArgs false
namespace Go.Abs.YtlkfbfhkcaldlaaGreatDoor
open Go.Proofs
set_option maxRecDepth 4000
theorem drop_cons {t:List UInt8} {n:Nat} {c:UInt8} (h:t[n]? =some c):t.drop n=c :: t.drop (n+1):=by
 obtain⟨hn,rfl⟩:=List.getElem?_eq_some_iff.1 h
 rw [←List.getElem_cons_drop hn]
def BH:Nat→List UInt8→Bool
 | _,[]=>true
 | v,c :: r=>if 4294967296≤10*v+(c.toNat - 48) then false else BH (10*v+(c.toNat - 48)) r
end Go.Abs.YtlkfbfhkcaldlaaGreatDoor
namespace Go.Abs.YtlkfbfhkcaldlaaGreatDoor
open Go.Proofs
set_option maxRecDepth 4000
def signs:List (List UInt8):=kV ++ [[40],[41],[123],[125],[91],[93],[44],[59],[58],[61],[60],[62],[43],[45],[124],[94],[38],[42],[47],[37],[33]]
end Go.Abs.YtlkfbfhkcaldlaaGreatDoor
namespace Go.Abs.YtlkfbfhkcaldlaaGreatDoor
open Go.Proofs
set_option maxRecDepth 4000
theorem Ep:∀(l:List UInt8) (v:Nat),(∀c∈l,isDigit c.toNat=true)→v<4294967296→(match Lib.parseUintM 4294967295 v l with | .ok _=>false | _=>true)= !BH v l
 | [],v,_,_=>by simp [Lib.parseUintM,BH]
 | c :: r,v,hd,hv=>by
   have h1:=hd c (List.mem_cons_self ..)
   simp only [isDigit,fJ,decide_eq_true_eq] at h1
   unfold Lib.parseUintM BH
   rw [if_pos (by omega),if_neg (by omega)]
   by_cases h:4294967296≤10*v+(c.toNat - 48)
   ·rw [if_pos (by omega),if_pos h];rfl
   ·rw [if_neg (by omega),if_neg h,show v*10+(c.toNat - 48)=10*v+(c.toNat - 48) by omega]
    exact Ep r _ (fun c hc=>hd c (List.mem_cons_of_mem _ hc)) (by omega)
theorem Oa {l:List UInt8} (hd:∀c∈l,isDigit c.toNat=true)(hn:l≠[]):tooBig l= !BH 0 l:=by
 unfold tooBig Lib.parseUintB
 rw [if_neg hn]
 exact Ep l 0 hd (by omega)
theorem CJ (p:Int→Bool):∀(l:List UInt8),∀c∈l.take (run p l),p c.toNat=true
 | [],c,h=>by simp at h
 | b :: l,c,h=>by
   unfold run at h
   split at h
   ·rename_i hb
    simp only [List.take_succ_cons,List.mem_cons] at h
    rcases h with rfl | h
    ·exact hb
    ·exact CJ p l c h
   ·simp at h
def uw (k:Int)(s:List UInt8)(l:Int):List AV:=[.i .i64 k,.s s,.i .i64 l]
end Go.Abs.YtlkfbfhkcaldlaaGreatDoor
namespace Go.Abs.YtlkfbfhkcaldlaaGreatDoor
open Go.Proofs
set_option maxRecDepth 4000
def eY (l:List Tok):List AV:=l.flatMap fun t=>uw t.k t.s t.l
theorem nP:∀l:List Tok,(eY l).length=l.length*3
 | []=>rfl
 | t :: l=>by have:=nP l;simp only [eY,List.flatMap_cons,bM,bg] at this ⊢;rw [this];simp [uw];omega
theorem Aj:∀l:List Tok,(eY l).all AV.one=true
 | []=>rfl
 | t :: l=>by have:=Aj l;simp only [eY,List.flatMap_cons,List.all_append] at this ⊢;rw [this];simp [uw,AV.one]
theorem Ob (l:List Tok)(t:Tok):eY (l ++ [t])=eY l ++ uw t.k t.s t.l:=by simp [eY,List.flatMap_append]
theorem G6 (l:List Tok):((eY l).drop 0).take (l.length*3)=eY l:=by rw [List.drop_zero,List.take_of_length_le (by rw [nP];omega)]
def nD (A:Nat)(σ:St)(out:AV)(acc:List Tok):Prop:=(acc=[]∧out= .sl0)∨∃o g,A≤o∧out= .sl o g 0 acc.length 3∧σ[o]? =some ⟨g,false,.cells 62 (eY acc)⟩
theorem nD.new {A:Nat} {σ:St} {out:AV} {acc:List Tok} (h:nD A σ out acc)(e:Nat)(cs:List AV):nD A (newCells e cs σ) out acc:=by
 rcases h with h | ⟨o,g,h1,h2,h3⟩
 ·exact .inl h
 ·exact .inr ⟨o,g,h1,h2,at_new h3 e cs⟩
theorem nD.lt {A:Nat} {σ:St} {out:AV} {acc:List Tok} (h:nD A σ out acc) {i:Nat} (a:AO)(hi:i<A):nD A (σ.set i a) out acc:=by
 rcases h with h | ⟨o,g,h1,h2,h3⟩
 ·exact .inl h
 ·exact .inr ⟨o,g,h1,h2,aK h3 (by omega) a⟩
theorem nD.ge {A:Nat} {σ σ':St} {out:AV} {acc:List Tok} (h:nD A σ out acc)(he:Ext σ σ'):nD A σ' out acc:=by
 rcases h with h | ⟨o,g,h1,h2,h3⟩
 ·exact .inl h
 ·exact .inr ⟨o,g,h1,h2,he.get h3⟩
theorem nD.cases {A:Nat} {σ:St} {v:AV} {acc:List Tok} (h:nD A σ v acc):v= .sl0∨∃o g,v= .sl o g 0 acc.length 3:=by
 rcases h with ⟨_,rfl⟩ | ⟨o,g,_,rfl,_⟩
 ·exact .inl rfl
 ·exact .inr ⟨o,g,rfl⟩
theorem Qb {A:Nat} {σ:St} {out:AV} {acc:List Tok} (h:nD A σ out acc)(tk:Tok)(hl:acc.length≤100000) {C:Nat} (hC:σ[C]? =some ⟨0,false,.cells 62 (uw tk.k tk.s tk.l)⟩)(hA:A≤σ.length) {Q:AV→St→Prop}
 (q:∀out' σ',nD A σ' out' (acc ++ [tk])→(∀i,i<A→σ'[i]? =σ[i]?)→A≤σ'.length→(∀i,i<σ.length→(∀o g n z,out= .sl o g 0 n z→i≠o)→σ'[i]? =σ[i]?)→Q out' σ') :
 D8 KL.get false 51 out (.sl C 0 0 1 3) σ Q:=by
 constructor
 refine ak (v:=qC) rfl ?_
 refine ak (v:=BR) rfl ?_
 refine ak (kG hC (aU rfl)) ?_
 rcases h with ⟨rfl,rfl⟩ | ⟨o,g,h1,rfl,h3⟩
 ·refine⟨aU rfl,?_⟩
  refine q _ _ (.inr ⟨σ.length,0,hA,rfl,?_⟩) (fun i hi=>eu (by omega)) (by rw [aH];omega) (fun i hi _=>eu hi)
  rw [aG];rfl
 ·refine ak (oC h3) ?_
  refine⟨rfl,by rw [nP];omega,?_,by rw [G6];exact Aj acc,?_⟩
  ·show (acc.length+1)*32≤_;omega
  refine q _ _ (.inr ⟨o,g+1,h1,by simp,?_⟩) (fun i hi=>by rw [rZ (by omega)]) (by rw [gK];exact hA) (fun i hi hne=>by rw [rZ (fun e=>hne o g _ _ rfl e.symm)])
  rw [at_set h3,G6,Ob];rfl
end Go.Abs.YtlkfbfhkcaldlaaGreatDoor
namespace Go.Abs.YtlkfbfhkcaldlaaGreatDoor
open Go.Proofs
set_option maxRecDepth 4000
theorem Rq (x:List UInt8)(o g:Nat)(l:List (List UInt8))(σ:St)(ho:cellsAt σ o g=some (l.map (AV.s)))(hl:l.length≤100)(Q:Out→Env→St→Prop):∀(k m:Nat),m+k=l.length→
 ((l.drop m).contains x=false→∀e',Q (.exit 0) e' σ)→((l.drop m).contains x=true→∀e' r,get e' 4= .i .i64 r→0≤r→Q .ret e' σ)→
 aV X [0,1,7,8] aal [(0,.sl o g 0 l.length 1),(1,AV.s x),(7,.i .i64 l.length),(8,.i .i64 m)] σ Q:=by
 intro k
 induction k with
 | zero=>
   intro m hm h1 h2
   refine aV.round ay (lit:=false) ?_
   conv=>whnf
   rw [decide_eq_false (by omega)]
   conv=>whnf
   exact h1 (by rw [show l.drop m=[] from List.drop_of_length_le (by omega)];rfl) _
 | succ k ih=>
   intro m hm h1 h2
   obtain⟨c,hc⟩:∃c,l[m]? =some c:=⟨_,sN (by omega)⟩
   have hdr:l.drop m=c :: l.drop (m+1):=by
    obtain⟨hn,rfl⟩:=List.getElem?_eq_some_iff.1 hc
    rw [←List.getElem_cons_drop hn]
   have hw1:IntKind.i64.wrap ((m:Int)+1)=(m+1:Nat):=by rw [wrap_i64 (by omega) (by omega)];omega
   refine aV.round ay (lit:=false) ?_
   conv=>whnf
   rw [decide_eq_true (by omega)]
   conv=>whnf
   refine⟨m,rfl,by omega,?_⟩
   conv=>whnf
   refine ak (v:=AV.s c) (aj (T:=fB) rfl rfl ho (by simp [hc])) ?_
   conv=>whnf
   cases h:(x == c) with
   | true=>
     conv=>whnf
     exact h2 (by rw [hdr,List.contains_cons];simp_all) _ m rfl (by omega)
   | false=>
     conv=>whnf
     refine⟨_,hw1,?_⟩
     conv=>whnf
     have e1:(l.drop m).contains x=(l.drop (m+1)).contains x:=by
        rw [hdr,List.contains_cons]
        have:(x == c)=false:=by simpa using h
        rw [this];simp
     exact ih (m+1) (by omega) (by rw [←e1];exact h1) (by rw [←e1];exact h2)
theorem YZ (x:List UInt8)(o g:Nat)(l:List (List UInt8))(σ:St)(ho:cellsAt σ o g=some (l.map (AV.s)))(hl:l.length≤100) :
 au X 84 [.sl o g 0 l.length 1,AV.s x] σ fun v s=>∃r,v= .i .i64 r∧s=σ∧decide (0≤r)=l.contains x:=by
 refine au.body (F:=F84) ay (lit:=false) rfl rfl (aU rfl) ?_
 conv=>whnf
 refine Rq x o g l σ ho hl _ l.length 0 (by omega) (fun h e'=>?_) (fun h e' r he hr=>?_)
 ·conv=>whnf
  rw [List.drop_zero] at h
  exact Fin.flat rfl iq ⟨-1,rfl,rfl,by rw [h];rfl⟩
 ·conv=>whnf
  rw [he]
  conv=>whnf
  rw [List.drop_zero] at h
  exact Fin.flat rfl iq ⟨r,rfl,rfl,by rw [h];exact decide_eq_true hr⟩
theorem CO (x:List UInt8)(o g:Nat)(l:List (List UInt8))(σ:St)(ho:cellsAt σ o g=some (l.map (AV.s)))(hl:l.length≤100) :
 au X 51 [.sl o g 0 l.length 1,AV.s x] σ fun v s=>v= .b (l.contains x)∧s=σ:=by
 refine au.body (F:=F51) ay (lit:=false) rfl rfl (aU rfl) ?_
 conv=>whnf
 refine(YZ x o g l σ ho hl).mono ?_
 rintro v s ⟨r,rfl,rfl,hr⟩
 conv=>whnf
 rw [hr]
 cases h:l.contains x with
 | true=>conv=>whnf
         exact Fin.flat rfl iq ⟨rfl,rfl⟩
 | false=>conv=>whnf
          exact Fin.flat rfl iq ⟨rfl,rfl⟩
theorem Oc (x:Int)(o g:Nat)(l:List (Int))(σ:St)(ho:cellsAt σ o g=some (l.map (AV.i .i64)))(hl:l.length≤100)(Q:Out→Env→St→Prop):∀(k m:Nat),m+k=l.length→
 ((l.drop m).contains x=false→∀e',Q (.exit 0) e' σ)→((l.drop m).contains x=true→∀e' r,get e' 4= .i .i64 r→0≤r→Q .ret e' σ)→
 aV X [0,1,7,8] Ub [(0,.sl o g 0 l.length 1),(1,AV.i .i64 x),(7,.i .i64 l.length),(8,.i .i64 m)] σ Q:=by
 intro k
 induction k with
 | zero=>
   intro m hm h1 h2
   refine aV.round ay (lit:=false) ?_
   conv=>whnf
   rw [decide_eq_false (by omega)]
   conv=>whnf
   exact h1 (by rw [show l.drop m=[] from List.drop_of_length_le (by omega)];rfl) _
 | succ k ih=>
   intro m hm h1 h2
   obtain⟨c,hc⟩:∃c,l[m]? =some c:=⟨_,sN (by omega)⟩
   have hdr:l.drop m=c :: l.drop (m+1):=by
    obtain⟨hn,rfl⟩:=List.getElem?_eq_some_iff.1 hc
    rw [←List.getElem_cons_drop hn]
   have hw1:IntKind.i64.wrap ((m:Int)+1)=(m+1:Nat):=by rw [wrap_i64 (by omega) (by omega)];omega
   refine aV.round ay (lit:=false) ?_
   conv=>whnf
   rw [decide_eq_true (by omega)]
   conv=>whnf
   refine⟨m,rfl,by omega,?_⟩
   conv=>whnf
   refine ak (v:=AV.i .i64 c) (aj (T:=yT112) rfl rfl ho (by simp [hc])) ?_
   conv=>whnf
   cases h:(decide (x=c)) with
   | true=>
     conv=>whnf
     exact h2 (by rw [hdr,List.contains_cons];simp_all) _ m rfl (by omega)
   | false=>
     conv=>whnf
     refine⟨_,hw1,?_⟩
     conv=>whnf
     have e1:(l.drop m).contains x=(l.drop (m+1)).contains x:=by
        rw [hdr,List.contains_cons]
        have:(x == c)=false:=by simpa using h
        rw [this];simp
     exact ih (m+1) (by omega) (by rw [←e1];exact h1) (by rw [←e1];exact h2)
theorem Vf (x:Int)(o g:Nat)(l:List (Int))(σ:St)(ho:cellsAt σ o g=some (l.map (AV.i .i64)))(hl:l.length≤100) :
 au X 112 [.sl o g 0 l.length 1,AV.i .i64 x] σ fun v s=>∃r,v= .i .i64 r∧s=σ∧decide (0≤r)=l.contains x:=by
 refine au.body (F:=F112) ay (lit:=false) rfl rfl (aU rfl) ?_
 conv=>whnf
 refine Oc x o g l σ ho hl _ l.length 0 (by omega) (fun h e'=>?_) (fun h e' r he hr=>?_)
 ·conv=>whnf
  rw [List.drop_zero] at h
  exact Fin.flat rfl iq ⟨-1,rfl,rfl,by rw [h];rfl⟩
 ·conv=>whnf
  rw [he]
  conv=>whnf
  rw [List.drop_zero] at h
  exact Fin.flat rfl iq ⟨r,rfl,rfl,by rw [h];exact decide_eq_true hr⟩
theorem Ll (x:Int)(o g:Nat)(l:List (Int))(σ:St)(ho:cellsAt σ o g=some (l.map (AV.i .i64)))(hl:l.length≤100) :
 au X 83 [.sl o g 0 l.length 1,AV.i .i64 x] σ fun v s=>v= .b (l.contains x)∧s=σ:=by
 refine au.body (F:=F83) ay (lit:=false) rfl rfl (aU rfl) ?_
 conv=>whnf
 refine(Vf x o g l σ ho hl).mono ?_
 rintro v s ⟨r,rfl,rfl,hr⟩
 conv=>whnf
 rw [hr]
 cases h:l.contains x with
 | true=>conv=>whnf
         exact Fin.flat rfl iq ⟨rfl,rfl⟩
 | false=>conv=>whnf
          exact Fin.flat rfl iq ⟨rfl,rfl⟩
theorem yS (l:List UInt8)(c:Int)(σ:St)(Q:AV→St→Prop)(q:Q (.i .i64 (Lib.indexByte l c.toNat.toUInt8)) σ):au X 48 [.s l,.i .u8 c] σ Q:=by
 refine au.of ?_
 rw [kR (g:=rC) rfl]
 exact⟨_,rfl,q⟩
theorem Oe (s w:List UInt8)(σ:St):au X 81 [.s s,.s w] σ fun v s'=>v= .b (w.isPrefixOf s)∧s'= σ:=by
 refine au.body (F:=F81) ay (lit:=false) rfl rfl (aU rfl) ?_
 conv=>whnf
 by_cases h:w.length≤s.length
 ·have e1:w.isPrefixOf s=(s.take w.length == w):=by
   rw [Bool.eq_iff_iff,List.isPrefixOf_iff_prefix,List.prefix_iff_eq_take,beq_iff_eq]
   exact eq_comm
  rw [decide_eq_true (by omega)]
  conv=>whnf
  refine⟨w.length,rfl,h,?_⟩
  conv=>whnf
  rw [e1]
  cases h:s.take w.length == w with
  | true=>
    conv=>whnf
    exact Fin.flat rfl iq ⟨rfl,rfl⟩
  | false=>
    conv=>whnf
    exact Fin.flat rfl iq ⟨rfl,rfl⟩
 ·have e1:w.isPrefixOf s=false:=by
   rw [Bool.eq_false_iff]
   intro hp
   exact h (List.isPrefixOf_iff_prefix.1 hp).length_le
  rw [decide_eq_false (by omega)]
  conv=>whnf
  exact Fin.flat rfl iq ⟨by rw [e1],rfl⟩
theorem Rt (s w:List UInt8)(σ:St):au X 47 [.s s,.s w] σ fun v s'=>v= .b (w.isPrefixOf s)∧s'= σ:=by
 refine au.body (F:=F47) ay (lit:=false) rfl rfl (aU rfl) ?_
 conv=>whnf
 refine au.to (Oe s w σ) ?_
 conv=>whnf
 cases w.isPrefixOf s with
 | true=>
   conv=>whnf
   exact Fin.flat rfl iq ⟨rfl,rfl⟩
 | false=>
   conv=>whnf
   exact Fin.flat rfl iq ⟨rfl,rfl⟩
set_option maxHeartbeats 4000000 in
theorem Vg (c:Int)(h:0≤c∧c≤1114111)(σ:St):au X 49 [.i .i32 c] σ fun v s=>v= .i .i64 (kindOf c)∧s=σ:=by
 refine au.body (F:=F49) ay (lit:=false) rfl rfl (aU rfl) ?_
 cases hb:dN c with
 | true=>
   have e1:kindOf c=1:=by unfold kindOf;rw [hb];rfl
   rw [e1]
   repeat' ((conv=>whnf);split)
   all_goals (conv=>whnf)
   all_goals first
    | exact Fin.flat rfl iq ⟨rfl,rfl⟩
    | (exfalso;simp_all [dN];done)
 | false=>
   have b0:=hb
   simp only [dN,Bool.or_eq_false_iff,beq_eq_false_iff_ne] at b0
   obtain⟨⟨⟨b1,b2⟩,b3⟩,b4⟩:=b0
   conv=>whnf
   rw [decide_eq_false b1]
   conv=>whnf
   rw [decide_eq_false b2]
   conv=>whnf
   rw [decide_eq_false b3]
   conv=>whnf
   rw [decide_eq_false b4]
   have e1:kindOf c=if bQ c then 2 else if isDigit c then 3 else if pU c then 4 else 0:=by unfold kindOf;rw [hb];rfl
   generalize kindOf c=kd at e1 ⊢
   repeat' ((conv=>whnf);split)
   all_goals (conv=>whnf)
   all_goals first
    | exact Fin.flat rfl iq ⟨by congr 1;rw [e1];grind [bQ,isDigit],rfl⟩
    | skip
   all_goals
    refine⟨_,rfl,?_⟩
    conv=>whnf
    refine yS _ _ _ _ ?_
    repeat' ((conv=>whnf);split)
   all_goals (conv=>whnf)
   all_goals exact Fin.flat rfl iq ⟨by congr 1;rw [e1];grind [bQ,isDigit,pU,ones],rfl⟩
end Go.Abs.YtlkfbfhkcaldlaaGreatDoor
namespace Go.Abs.YtlkfbfhkcaldlaaGreatDoor
open Go.Proofs
set_option maxRecDepth 4000
theorem Vh (t:List UInt8)(k:Nat):(⟨t.toArray⟩:ByteArray).get! k=t.getD k default:=by
 show (t.toArray)[k]! =_
 simp only [List.getD,getElem!_def,List.getElem?_toArray]
 cases t[k]? <;> rfl
theorem Lm (t:List UInt8)(k:Nat)(c:UInt8)(h:t[k]? =some c) :
 (c.toNat<128→Utf8.decode ⟨t.toArray⟩ k=(c.toNat,1))∧(128≤c.toNat→128≤(Utf8.decode ⟨t.toArray⟩ k).1∧(Utf8.decode ⟨t.toArray⟩ k).1≤1114111):=by
 have h0:((⟨t.toArray⟩:ByteArray).get! (k+0)).toNat=c.toNat:=by rw [Vh,Nat.add_zero];simp [List.getD,h]
 constructor
 ·intro hc
  unfold Utf8.decode
  simp only [h0]
  rw [if_pos (show c.toNat<0x80 from hc)]
 ·intro hc
  unfold Utf8.decode
  simp only [h0]
  rw [if_neg (show ¬c.toNat<0x80 by omega)]
  have e1:∀x,x<256→(c.toNat%32)*64+x%64≤2047:=by intro x _;omega
  split
  ·split
   ·exact⟨by assumption,by show _≤1114111;omega⟩
   ·exact⟨by decide,by decide⟩
  ·split
   ·split
    ·rename_i h5
     rw [fJ,decide_eq_true_eq] at h5
     exact⟨Nat.le_trans (by decide) h5.1,by show _≤1114111;omega⟩
    ·exact⟨by decide,by decide⟩
   ·split
    ·split
     ·rename_i h5
      rw [fJ,decide_eq_true_eq] at h5
      refine⟨Nat.le_trans (by decide) h5.1,?_⟩
      have:=h5.2
      simp only [Utf8.valid,Bool.or_eq_true,fJ,decide_eq_true_eq] at this
      show _≤1114111
      omega
     ·exact⟨by decide,by decide⟩
    ·exact⟨by decide,by decide⟩
theorem Lp (c:Int)(h:128≤c):kindOf c=0:=by
 have h1:dN c=false:=by simp [dN];omega
 have h2:bQ c=false:=by simp [bQ];omega
 have h3:isDigit c=false:=by simp [isDigit];omega
 have h4:pU c=false:=by simp only [pU,Bool.and_eq_false_iff];exact .inr (decide_eq_false (by omega))
 simp [kindOf,h1,h2,h3,h4]
theorem G7 {σ:St} {o:Nat} {s:List UInt8} {p:Nat} (h:σ[o]? =some ⟨0,false,.iter s p⟩):iterAt σ o 0=some (s,p):=by simp [iterAt,h]
theorem Ru (t:List UInt8)(ht:t.length≤100000)(ks:List Int)(hks:ks.length≤100)(h0:ks.contains 0=false)(o g:Nat)(σ:St)(ho:cellsAt σ o g=some (ks.map (.i .i64)))(Q:Out→Env→St→Prop):∀(k m:Nat) (σ1:St),m+k=t.length→Ext σ σ1→σ1[σ.length]? =some ⟨0,false,.iter t m⟩→
 (run (fun c=>ks.contains (kindOf c)) (t.drop m)=k→∀e' σ',Ext σ σ'→get e' 0= .s t→Q (.exit 0) e' σ')→
 (run (fun c=>ks.contains (kindOf c)) (t.drop m)<k→∀e' σ',Ext σ σ'→get e' 4= .i .i64 ((m+run (fun c=>ks.contains (kindOf c)) (t.drop m):Nat):Int)→Q .ret e' σ')→
 aV X [0,1,8] aai [(0,.s t),(1,.sl o g 0 ks.length 1),(8,.p σ.length 0 0)] σ1 Q:=by
 intro k
 induction k with
 | zero=>
   intro m σ1 hm hx hi h1 h2
   refine aV.round ay (lit:=false) ?_
   conv=>whnf
   refine ak (G7 hi) ?_
   conv=>whnf
   rw [decide_eq_false (by show ¬m<t.length;omega)]
   conv=>whnf
   exact h1 (by rw [List.drop_of_length_le (by omega)];rfl) _ _ hx rfl
 | succ k ih=>
   intro m σ1 hm hx hi h1 h2
   obtain⟨c,hc⟩:∃c,t[m]? =some c:=⟨_,sN (by omega)⟩
   have hd:=drop_cons hc
   obtain⟨hlow,hhigh⟩:=Lm t m c hc
   refine aV.round ay (lit:=false) ?_
   conv=>whnf
   refine ak (G7 hi) ?_
   conv=>whnf
   rw [decide_eq_true (by show m<t.length;omega)]
   conv=>whnf
   have hx2:∀a,Ext σ (σ1.set σ.length a):=fun a=>hx.set (Nat.le_refl _) a
   have hcs:∀a,cellsAt (σ1.set σ.length a) o g=some (ks.map (.i .i64)):=by
    intro a
    have hol:o<σ.length:=by
        unfold cellsAt at ho
        rcases Nat.lt_or_ge o σ.length with h | h
        ·exact h
        ·rw [List.getElem?_eq_none h] at ho;cases ho
    unfold cellsAt at ho ⊢
    rw [(hx2 a).old o hol];exact ho
   by_cases hlt:c.toNat<128
   ·rw [show Utf8.decode ⟨t.toArray⟩ m=(c.toNat,1) from hlow hlt]
    conv=>whnf
    refine au.to (Vg c.toNat (by omega) _) ?_
    conv=>whnf
    refine au.to (Ll (kindOf c.toNat) o g ks _ (hcs _) hks) ?_
    conv=>whnf
    cases hk:ks.contains (kindOf c.toNat) with
    | true=>
      have e1:run (fun c=>ks.contains (kindOf c)) (t.drop m)=run (fun c=>ks.contains (kindOf c)) (t.drop (m+1))+1:=by
       rw [hd];simp only [run,hk,if_true]
      conv=>whnf
      refine ih (m+1) _ (by omega) (hx2 _) (at_set hi _) (fun h=>h1 (by omega)) (fun h e' σ' hx' h'=>h2 (by omega) e' σ' hx' ?_)
      rw [h',e1,show m+1+run (fun c=>ks.contains (kindOf c)) (t.drop (m+1))=m+(run (fun c=>ks.contains (kindOf c)) (t.drop (m+1))+1) by omega]
    | false=>
      have e1:run (fun c=>ks.contains (kindOf c)) (t.drop m)=0:=by
       rw [hd];simp only [run,hk];rfl
      conv=>whnf
      exact h2 (by omega) _ _ (hx2 _) (by rw [e1];rfl)
   ·have hh:=hhigh (by omega)
    generalize Utf8.decode ⟨t.toArray⟩ m=dd at hh ⊢
    obtain⟨r,d⟩:=dd
    have hk0:kindOf (c.toNat:Int)=0:=Lp _ (by omega)
    have e1:run (fun c=>ks.contains (kindOf c)) (t.drop m)=0:=by
        rw [hd];simp only [run,hk0,h0];rfl
    conv=>whnf
    refine au.to (Vg (r:Nat) ⟨by omega,by have:=hh.2;simp only at this;omega⟩ _) ?_
    rw [Lp (r:Nat) (by have:=hh.1;simp only at this;omega)]
    conv=>whnf
    refine au.to (Ll 0 o g ks _ (hcs _) hks) ?_
    rw [h0]
    conv=>whnf
    exact h2 (by omega) _ _ (hx2 _) (by rw [e1];rfl)
theorem I5 (t:List UInt8)(ht:t.length≤100000)(ks:List Int)(hks:ks.length≤100)(h0:ks.contains 0=false)(o g:Nat)(σ:St)(ho:cellsAt σ o g=some (ks.map (.i .i64))) :
 au X 50 [.s t,.sl o g 0 ks.length 1] σ fun v s=>v= .i .i64 (run (fun c=>ks.contains (kindOf c)) t)∧s=σ:=by
 have hrl:=rM (fun c=>ks.contains (kindOf c)) t
 refine au.body (F:=F50) ay (lit:=false) rfl rfl (aU rfl) ?_
 conv=>whnf
 refine Ru t ht ks hks h0 o g σ ho _ t.length 0 _ (by omega) ⟨by simp,fun i hi=>by rw [List.getElem?_append_left hi]⟩ (by simp) (fun h e' σ' hx h'=>?_) (fun h e' σ' hx h'=>?_)
 ·conv=>whnf
  rw [h']
  conv=>whnf
  rw [List.drop_zero] at h
  exact Fin.flat rfl hx.take ⟨by rw [h],rfl⟩
 ·conv=>whnf
  rw [h']
  conv=>whnf
  rw [List.drop_zero,Nat.zero_add]
  exact Fin.flat rfl hx.take ⟨rfl,rfl⟩
theorem two_to (s:List UInt8)(σ:St)(ht:σ.take G0.length=G0):au X 54 [.s s] σ fun v s'=>v= .b (kV.contains (s.take 2))∧s'= σ:=by
 refine au.body (F:=F54) ay (lit:=false) rfl rfl (aU rfl) ?_
 conv=>whnf
 by_cases h:2≤s.length
 ·rw [decide_eq_true (by omega)]
  conv=>whnf
  refine⟨2,rfl,h,?_⟩
  conv=>whnf
  refine Eo σ _ ht ?_
  conv=>whnf
  refine⟨⟨2,rfl,h,rfl⟩,?_⟩
  conv=>whnf
  refine au.to (CO (s.take 2) _ _ kV _ (ah (rJ _ _ _)) (by decide)) ?_
  cases hc:kV.contains (s.take 2) with
  | true=>
    conv=>whnf
    exact Fin.flat rfl ((Ext.refl σ).one _ _).take ⟨rfl,rfl⟩
  | false=>
    conv=>whnf
    exact Fin.flat rfl ((Ext.refl σ).one _ _).take ⟨rfl,rfl⟩
 ·have e1:kV.contains (s.take 2)=false:=by
   have:∀w∈kV,w.length=2:=by decide
   cases hc:kV.contains (s.take 2) with
   | false=>rfl
   | true=>have:=this _ (List.contains_iff_mem.1 hc);simp at this;omega
  rw [e1,decide_eq_false (by omega)]
  conv=>whnf
  refine⟨rfl,?_⟩
  conv=>whnf
  exact Fin.flat rfl iq ⟨rfl,rfl⟩
theorem Vj (σ:St)(Q:AV→St→Prop)(ht:σ.take G0.length=G0)(q:Q (.sl σ.length 1 0 12 1) (jP 9 (keys.map .s) σ)):au X 52 [] σ Q:=by
 refine au.body (F:=F52) ay (lit:=false) rfl rfl (aU rfl) ?_
 conv=>whnf
 refine En σ _ ht ?_
 conv=>whnf
 exact Fin.ref rfl q
end Go.Abs.YtlkfbfhkcaldlaaGreatDoor
namespace Go.Abs.YtlkfbfhkcaldlaaGreatDoor
open Go.Proofs
set_option maxRecDepth 4000
theorem iJ {σ σ':St} (h:Ext σ σ')(hg:σ.take G0.length=G0):σ'.take G0.length=G0:=by
 have hl:G0.length≤σ.length:=by have:=congrArg List.length hg;rw [List.length_take] at this;omega
 apply List.ext_getElem?
 intro i
 rw [List.getElem?_take]
 split
 ·rename_i hi;rw [h.old i (by omega)];exact vC hg hi
 ·rename_i hi;exact(List.getElem?_eq_none (by omega)).symm
theorem FI (s:List UInt8):Lib.indexByte s 10=if run (· != 10) s<s.length then(run (· != 10) s:Int) else -1:=by
 induction s with
 | nil=>rfl
 | cons c s ih=>
   unfold Lib.indexByte
   by_cases h:c=10
   ·subst h
    simp [run]
   ·have h1:(c == 10)=false:=by simpa using h
    have h2:((c.toNat:Int) != 10)=true:=by
        have:c.toNat≠10:=fun e=>h (UInt8.toNat_inj.1 e)
        simp;omega
    rw [h1]
    simp only [nR,if_false,run,h2,if_true,bg,Nat.add_lt_add_iff_right]
    rw [ih]
    by_cases hr:run (· != 10) s<s.length
    ·simp only [hr,if_true]
     have:((run (· != 10) s:Int) == -1)=false:=by simp <;> omega
     rw [this];simp
    ·simp only [hr,if_false];simp
structure LS (σ σ1:St)(s:List UInt8)(l:Nat)(acc:List Tok):Prop where
 x:Ext σ σ1
 b:σ1[σ.length]? =some ⟨0,false,.cells 9 [.s s]⟩
 o:∃out,σ1[σ.length+1]? =some ⟨0,false,.cells 51 [out]⟩∧nD (σ.length+3) σ1 out acc
 n:σ1[σ.length+2]? =some ⟨0,false,.cells 3 [.i .i64 l]⟩
section
variable {σ σ1:St} {s:List UInt8} {l:Nat} {acc:List Tok}
theorem LS.new (h:LS σ σ1 s l acc)(e:Nat)(cs:List AV):LS σ (newCells e cs σ1) s l acc:=by
 obtain⟨out,h1,h2⟩:=h.o
 exact⟨h.x.new _ _,at_new h.b _ _,⟨out,at_new h1 _ _,h2.new _ _⟩,at_new h.n _ _⟩
theorem LS.one (h:LS σ σ1 s l acc)(e:Nat)(cs:List AV):LS σ (jP e cs σ1) s l acc:=by
 obtain⟨out,h1,h2⟩:=h.o
 exact⟨h.x.one _ _,vF h.b _ _,⟨out,vF h1 _ _,h2.ge ((Ext.refl _).one _ _)⟩,vF h.n _ _⟩
theorem LS.text (h:LS σ σ1 s l acc)(s':List UInt8):LS σ (σ1.set σ.length ⟨0,false,.cells 9 [.s s']⟩) s' l acc:=by
 obtain⟨out,h1,h2⟩:=h.o
 exact⟨h.x.set (Nat.le_refl _) _,at_set h.b _,⟨out,aK h1 (by omega) _,h2.lt _ (by omega)⟩,aK h.n (by omega) _⟩
theorem LS.line (h:LS σ σ1 s l acc)(l':Nat):LS σ (σ1.set (σ.length+2) ⟨0,false,.cells 3 [.i .i64 l']⟩) s l' acc:=by
 obtain⟨out,h1,h2⟩:=h.o
 exact⟨h.x.set (by omega) _,aK h.b (by omega) _,⟨out,aK h1 (by omega) _,h2.lt _ (by omega)⟩,at_set h.n _⟩
end
theorem Ak {σ σ1:St} {s:List UInt8} {l:Nat} {acc:List Tok} (h:LS σ σ1 s l acc)(hacc:acc.length≤100000)(kd n:Nat)(hn:0<n)(hs:n≤s.length) {Q:AV→St→Prop}
 (q:∀σ',LS σ σ' (s.drop n) l (acc ++ [⟨kd,s.take n,l⟩])→Q (.tu []) σ'):au X 46 [.i .i64 kd,.i .i64 n,.p (σ.length+1) 0 0,.p σ.length 0 0,.p (σ.length+2) 0 0] σ1 Q:=by
 obtain⟨out,h1,h2⟩:=h.o
 refine au.body (F:=F46) ay (lit:=false) rfl rfl (aU rfl) ?_
 rcases h2.cases with rfl | ⟨o1,g1,rfl⟩
 all_goals
  conv=>whnf
  refine ak (aj (T:=qC) rfl rfl (ah h1) rfl) ?_
  conv=>whnf
  refine ak (aj (T:=fB) rfl rfl (ah h.b) rfl) ?_
  conv=>whnf
  refine⟨n,rfl,hs,?_⟩
  conv=>whnf
  refine ak (aj (T:=fF) rfl rfl (ah h.n) rfl) ?_
  conv=>whnf
  refine⟨ak (aj (T:=qC) rfl rfl (ah (at_new h1 _ _)) rfl) rfl,?_⟩
  conv=>whnf
  refine Qb (A:=σ.length+3) (tk:=⟨kd,s.take n,l⟩) (h2.new _ _) hacc (aG _ _ _) (by rw [aH];have:=bK h.n;omega) fun Vk fC ho5 hk5 hl5 _=>?_
  have hb5:fC[σ.length]? =some ⟨0,false,.cells 9 [.s s]⟩:=by rw [hk5 _ (by omega)];exact at_new h.b _ _
  obtain⟨w5,ho5'⟩:∃w5,fC[σ.length+1]? =some ⟨0,false,.cells 51 [w5]⟩:=⟨_,by rw [hk5 _ (by omega)];exact at_new h1 _ _⟩
  have hn5:fC[σ.length+2]? =some ⟨0,false,.cells 3 [.i .i64 l]⟩:=by rw [hk5 _ (by omega)];exact at_new h.n _ _
  have hx5:Ext σ fC:=⟨by omega,fun i hi=>by rw [hk5 i (by omega)];exact(h.x.new _ _).old i hi⟩
  have fin:∀oG,oG=(fC.set (σ.length+1) ⟨0,false,.cells 51 [Vk]⟩).set σ.length ⟨0,false,.cells 9 [.s (s.drop n)]⟩→Fin σ1 (.tu []) oG Q:=by
   intro oG e6
   subst e6
   refine Fin.ne (fun e=>?_) (q _ ⟨(hx5.set (by omega) _).set (Nat.le_refl _) _,at_set (aK hb5 (by omega) _) _,⟨Vk,aK (at_set ho5' _) (by omega) _,(ho5.lt _ (by omega)).lt _ (by omega)⟩,aK (aK hn5 (by omega) _) (by omega) _⟩)
   have e1:=congrArg (fun l=>l[σ.length]?) e
   have hlt:=bK h.b
   simp only [List.getElem?_take] at e1
   rw [if_pos hlt,h.b,at_set (aK hb5 (by omega) _)] at e1
   have e2:s.drop n=s:=by simpa using e1
   have e3:=congrArg List.length e2
   rw [pF] at e3;omega
  rcases ho5.cases with rfl | ⟨o3,g3,rfl⟩
  all_goals
   conv=>whnf
   refine ak (aC (T:=qC) [_] rfl ho5' rfl rfl (aU rfl) rfl) ?_
   conv=>whnf
   refine ak (aj (T:=fB) rfl rfl (ah (aK hb5 (by omega) _)) rfl) ?_
   conv=>whnf
   refine⟨n,rfl,hs,?_⟩
   conv=>whnf
   refine ak (aC (T:=fB) [.s (s.drop n)] rfl (aK hb5 (by omega) _) rfl rfl (aU rfl) rfl) ?_
   conv=>whnf
   exact fin _ rfl
theorem Y0:(fun c:Int=>[2,3].contains (kindOf c))=isWord:=by
 funext c
 unfold kindOf isWord
 by_cases hb:dN c=true
 ·have h1:bQ c=false:=by simp [dN] at hb;simp [bQ];omega
  have h2:isDigit c=false:=by simp [dN] at hb;simp [isDigit];omega
  simp [hb,h1,h2]
 ·cases h1:bQ c <;> cases h2:isDigit c <;> cases h3:pU c <;> simp [hb]
theorem Vl:(fun c:Int=>[3].contains (kindOf c))=isDigit:=by
 funext c
 unfold kindOf
 by_cases hb:dN c=true
 ·have h2:isDigit c=false:=by simp [dN] at hb;simp [isDigit];omega
  simp [hb,h2]
 ·cases h1:bQ c <;> cases h2:isDigit c <;> cases h3:pU c <;> simp [hb]
  all_goals (exfalso;simp [bQ] at h1;simp [isDigit] at h2;omega)
theorem Rw:(fun c:Int=>[2].contains (kindOf c))=bQ:=by
 funext c
 unfold kindOf
 by_cases hb:dN c=true
 ·have h2:bQ c=false:=by simp [dN] at hb;simp [bQ];omega
  simp [hb,h2]
 ·cases h1:bQ c <;> cases h2:isDigit c <;> cases h3:pU c <;> simp [hb]
theorem Vm (t:List UInt8)(ht:t.length≤100000)(σ:St):au X 50 [.s t,.sl σ.length 0 0 2 1] (newCells 112 [.i .i64 2,.i .i64 3] σ) fun v s=>v= .i .i64 (run isWord t)∧s=newCells 112 [.i .i64 2,.i .i64 3] σ:=by
 have:=I5 t ht [2,3] (by decide) (by decide) σ.length 0 _ (mO 112 [.i .i64 2,.i .i64 3] σ)
 rw [Y0] at this;exact this
theorem Rx (t:List UInt8)(ht:t.length≤100000)(σ:St):au X 50 [.s t,.sl σ.length 0 0 1 1] (newCells 112 [.i .i64 3] σ) fun v s=>v= .i .i64 (run isDigit t)∧s=newCells 112 [.i .i64 3] σ:=by
 have:=I5 t ht [3] (by decide) (by decide) σ.length 0 _ (mO 112 [.i .i64 3] σ)
 rw [Vl] at this;exact this
theorem Es (t:List UInt8)(ht:t.length≤100000)(σ:St):au X 50 [.s t,.sl σ.length 0 0 1 1] (newCells 112 [.i .i64 2] σ) fun v s=>v= .i .i64 (run bQ t)∧s=newCells 112 [.i .i64 2] σ:=by
 have:=I5 t ht [2] (by decide) (by decide) σ.length 0 _ (mO 112 [.i .i64 2] σ)
 rw [Rw] at this;exact this
def Vo:Lib.NumEnd Nat→Bool
 | .ok _=>false
 | .range=>false
 | _=>true
theorem G8:∀(l:List UInt8) (M v:Nat),(∀c∈l,isDigit c.toNat=true)→Vo (Lib.parseUintM M v l)=false
 | [],M,v,_=>by simp [Lib.parseUintM,Vo]
 | c :: r,M,v,hd=>by
   have h1:=hd c (List.mem_cons_self ..)
   simp only [isDigit,fJ,decide_eq_true_eq] at h1
   unfold Lib.parseUintM
   rw [if_pos (by omega)]
   split
   ·rfl
   ·split
    ·rfl
    ·exact G8 r M _ fun c hc=>hd c (List.mem_cons_of_mem _ hc)
theorem Lr (l:List UInt8)(hd:∀c∈l,isDigit c.toNat=true)(hn:l≠[])(hl:l.length≤100000)(σ:St)(hg:σ.take G0.length=G0)(Q:AV→St→Prop)
 (h1:tooBig l=false→∀u:Nat,Q (.tu [.i .u64 u,.ic0]) σ) (h2:tooBig l=true→Q (.tu [.i .u64 4294967295,.ic 158 .u]) σ) :
 au X 53 [.s l,.i .i64 10,.i .i64 32] σ Q:=by
 refine au.of ?_
 rw [kR (g:=jX) rfl]
 have hp:Vo (Lib.parseUintB 32 l)=false:=by unfold Lib.parseUintB;rw [if_neg hn];exact G8 l _ _ hd
 have h5:σ[4]? =G0[4]? :=vC hg (by decide)
 unfold jX
 simp only
 rw [if_pos (by omega)]
 unfold tooBig at h1 h2
 generalize Lib.parseUintB 32 l=r at hp h1 h2
 cases r
 ·exact⟨_,rfl,h1 rfl _⟩
 ·cases hp
 ·simp only
  rw [h5]
  exact⟨_,rfl,h2 rfl⟩
set_option maxHeartbeats 4000000 in
theorem RD (σ:St)(hg:σ.take G0.length=G0)(Q:Out→Env→St→Prop):∀(k:Nat) (s:List UInt8) (l:Nat) (acc:List Tok) (σ1:St),s.length≤k→l+k≤32768→acc.length+k≤32768→LS σ σ1 s l acc→
 (∀acc' l' e' σ' s',mP k s l acc= .done acc' l'→acc'.length≤32768→LS σ σ' s' l' acc'→get e' 4= .p (σ.length+1) 0 0→get e' 5= .p (σ.length+2) 0 0→get e' 7= .i .i64 0→get e' 1000000= .u→Q (.exit 0) e' σ')→
 (∀e l' e' σ' s' acc',mP k s l acc= .bad e l'→(e=3∨e=9)→LS σ σ' s' l' acc'→get e' 4= .p (σ.length+1) 0 0→get e' 5= .p (σ.length+2) 0 0→get e' 7= .i .i64 e→get e' 1000000= .u→Q (.exit 0) e' σ')→
 aV X [1,4,5,6,7] PV [(1,.p σ.length 0 0),(4,.p (σ.length+1) 0 0),(5,.p (σ.length+2) 0 0),(6,.fn (.func 46) [] [.p (σ.length+1) 0 0,.p σ.length 0 0,.p (σ.length+2) 0 0]),(7,.i .i64 0)] σ1 Q:=by
 intro k
 induction k with
 | zero=>
   intro s l acc σ1 hk hl hacc h h1 h2
   obtain rfl:s=[]:=List.length_eq_zero_iff.1 (by omega)
   refine aV.round ay (lit:=false) ?_
   conv=>whnf
   refine ak (aj (T:=fB) rfl rfl (ah h.b) rfl) ?_
   conv=>whnf
   exact h1 acc l _ σ1 [] rfl (by omega) h rfl rfl rfl rfl
 | succ k ih=>
   intro s l acc σ1 hk hl hacc h h1 h2
   cases s with
   | nil=>
     refine aV.round ay (lit:=false) ?_
     conv=>whnf
     refine ak (aj (T:=fB) rfl rfl (ah h.b) rfl) ?_
     conv=>whnf
     exact h1 acc l _ σ1 [] rfl (by omega) h rfl rfl rfl rfl
   | cons c r=>
     generalize hs:c :: r=s at *
     have hlen:s.length=r.length+1:=by rw [←hs];rfl
     have h0:s[0]? =some c:=by rw [←hs];rfl
     have hfit:=jh c r
     rw [hs] at hfit
     have hG:mP (k+1) s l acc=match step s with
      | .skip k' nl=>mP k (s.drop k') (l+nl) acc
      | .tok kd m=>mP k (s.drop m) l (acc ++ [⟨kd,s.take m,l⟩])
      | .err e=>.bad e l:=by
        rw [←hs];rfl
     rw [hG] at h1 h2
     have hgl:=iJ h.x hg
     refine aV.round ay (lit:=false) ?_
     conv=>whnf
     refine ak (aj (T:=fB) rfl rfl (ah h.b) rfl) ?_
     conv=>whnf
     rw [decide_eq_true (by omega)]
     conv=>whnf
     refine ak (aj (T:=fB) rfl rfl (ah h.b) rfl) ?_
     conv=>whnf
     refine au.to (Rt s [47,47] σ1) ?_
     cases hp: [47,47].isPrefixOf s with
     | true=>
       have hst:step s= .skip (run (· != 10) s) 0:=by unfold step;rw [hp];rfl
       rw [hst] at h1 h2 hfit
       simp only [Stp.fits,Nat.add_zero] at hfit h1 h2
       have goal:∀σ2,σ2=σ1.set σ.length ⟨0,false,.cells 9 [.s (s.drop (run (· != 10) s))]⟩→aV X [1,4,5,6,7] PV [(1,.p σ.length 0 0),(4,.p (σ.length+1) 0 0),(5,.p (σ.length+2) 0 0),(6,.fn (.func 46) [] [.p (σ.length+1) 0 0,.p σ.length 0 0,.p (σ.length+2) 0 0]),(7,.i .i64 0)] σ2 Q:=by
        intro σ2 e
        subst e
        exact ih _ l acc _ (by rw [pF];omega) (by omega) (by omega) (h.text _) h1 h2
       conv=>whnf
       refine ak (aj (T:=fB) rfl rfl (ah h.b) rfl) ?_
       conv=>whnf
       refine yS _ _ _ _ ?_
       rw [show ((10:Int).toNat.toUInt8)=10 from rfl,FI]
       by_cases hr:run (· != 10) s<s.length
       ·rw [if_pos hr]
        conv=>whnf
        refine ak (aj (T:=fB) rfl rfl (ah h.b) rfl) ?_
        conv=>whnf
        refine⟨run (· != 10) s,rfl,by omega,?_⟩
        conv=>whnf
        refine ak (aC (T:=fB) [.s (s.drop (run (· != 10) s))] rfl h.b rfl rfl (aU rfl) rfl) ?_
        conv=>whnf
        exact goal _ rfl
       ·rw [if_neg hr]
        have hre:s.length=run (· != 10) s:=by omega
        conv=>whnf
        refine ak (aj (T:=fB) rfl rfl (ah h.b) rfl) ?_
        conv=>whnf
        refine ak (aj (T:=fB) rfl rfl (ah h.b) rfl) ?_
        conv=>whnf
        refine⟨run (· != 10) s,by rw [hre],by omega,?_⟩
        conv=>whnf
        refine ak (aC (T:=fB) [.s (s.drop (run (· != 10) s))] rfl h.b rfl rfl (aU rfl) rfl) ?_
        conv=>whnf
        exact goal _ rfl
     | false=>
       conv=>whnf
       refine ak (aj (T:=fB) rfl rfl (ah h.b) rfl) ?_
       conv=>whnf
       refine⟨0,c,rfl,h0,?_⟩
       conv=>whnf
       refine⟨_,wrap_i32 (by omega) (by have:=c.toNat_lt;omega),?_⟩
       conv=>whnf
       refine au.to (Vg c.toNat (by have:=c.toNat_lt;omega) σ1) ?_
       cases hb:dN c.toNat with
       | true=>
         have hst:step s= .skip 1 (if c.toNat=10 then 1 else 0):=by
            unfold step;rw [hp,←hs];simp only [hb,nR,if_false,if_true]
         rw [hst] at h1 h2
         simp only at h1 h2
         rw [show kindOf c.toNat=1 by unfold kindOf;rw [hb];rfl]
         conv=>whnf
         refine ak (aj (T:=fB) rfl rfl (ah h.b) rfl) ?_
         conv=>whnf
         refine⟨0,c,rfl,h0,?_⟩
         conv=>whnf
         by_cases h10:c.toNat=10
         ·rw [decide_eq_true (show (c.toNat:Int)=10 by omega)]
          rw [if_pos h10] at h1 h2
          conv=>whnf
          refine ak (aj (T:=fF) rfl rfl (ah h.n) rfl) ?_
          conv=>whnf
          refine⟨((l+1:Nat):Int),wrap_i64 (by omega) (by omega),?_⟩
          conv=>whnf
          refine ak (aC (T:=fF) [.i .i64 ((l+1:Nat):Int)] rfl h.n rfl rfl (aU rfl) rfl) ?_
          conv=>whnf
          refine ak (aj (T:=fB) rfl rfl (ah (h.line (l+1)).b) rfl) ?_
          conv=>whnf
          refine⟨1,rfl,by omega,?_⟩
          conv=>whnf
          refine ak (aC (T:=fB) [.s (s.drop 1)] rfl (h.line (l+1)).b rfl rfl (aU rfl) rfl) ?_
          conv=>whnf
          exact ih _ (l+1) acc _ (by rw [pF];omega) (by omega) (by omega) ((h.line (l+1)).text _) h1 h2
         ·rw [decide_eq_false (show ¬(c.toNat:Int)=10 by omega)]
          rw [if_neg h10] at h1 h2
          conv=>whnf
          refine ak (aj (T:=fB) rfl rfl (ah h.b) rfl) ?_
          conv=>whnf
          refine⟨1,rfl,by omega,?_⟩
          conv=>whnf
          refine ak (aC (T:=fB) [.s (s.drop 1)] rfl h.b rfl rfl (aU rfl) rfl) ?_
          conv=>whnf
          exact ih _ l acc _ (by rw [pF];omega) (by omega) (by omega) (h.text _) h1 h2
       | false=>
         cases hl1:bQ c.toNat with
         | true=>
           have hst:step s=if 32<run isWord s then .err 9 else if keys.contains (s.take (run isWord s)) then .tok 4 (run isWord s) else .tok 1 (run isWord s):=by
            unfold step;rw [hp,←hs];simp only [hb,hl1,nR,if_false,if_true]
           have hrl:=rM isWord s
           have hrp:0<run isWord s:=by rw [←hs];exact vG _ (by simp [isWord,hl1])
           rw [show kindOf c.toNat=2 by unfold kindOf;rw [hb,hl1];rfl]
           conv=>whnf
           refine ak (aj (T:=fB) rfl rfl (ah h.b) rfl) ?_
           conv=>whnf
           refine au.to (Vm s (by omega) σ1) ?_
           conv=>whnf
           have h':=h.new 112 [.i .i64 2,.i .i64 3]
           have hg':=iJ h'.x hg
           by_cases h32:32<run isWord s
           ·rw [decide_eq_true (by omega)]
            conv=>whnf
            rw [hst,if_pos h32] at h2
            exact h2 9 l _ _ s acc rfl (.inr rfl) h' rfl rfl rfl rfl
           ·rw [decide_eq_false (by omega)]
            conv=>whnf
            refine ak (aj (T:=fB) rfl rfl (ah h'.b) rfl) ?_
            conv=>whnf
            refine⟨run isWord s,rfl,hrl,?_⟩
            conv=>whnf
            refine Vj _ _ hg' ?_
            conv=>whnf
            have h'':=h'.one 9 (keys.map .s)
            refine⟨ak (aj (T:=fB) rfl rfl (ah h''.b) rfl) rfl,⟨run isWord s,rfl,hrl,rfl⟩,?_⟩
            conv=>whnf
            refine au.to (CO _ _ _ keys _ (ah (rJ _ _ _)) (by decide)) ?_
            cases hk:keys.contains (s.take (run isWord s)) with
            | true=>
              rw [hst,if_neg h32,if_pos hk] at h1 h2
              conv=>whnf
              refine Ak h'' (by omega) 4 (run isWord s) hrp hrl fun σ3 h3=>?_
              conv=>whnf
              exact ih _ l _ σ3 (by rw [pF];omega) (by omega) (by simp;omega) h3 h1 h2
            | false=>
              rw [hst,if_neg h32,if_neg (by rw [hk];exact Bool.false_ne_true)] at h1 h2
              conv=>whnf
              refine Ak h'' (by omega) 1 (run isWord s) hrp hrl fun σ3 h3=>?_
              conv=>whnf
              exact ih _ l _ σ3 (by rw [pF];omega) (by omega) (by simp;omega) h3 h1 h2
         | false=>
           cases hg1:isDigit c.toNat with
           | true=>
             have hst:step s=if(c.toNat=48∧1<run isDigit s)∨0<run bQ (s.drop (run isDigit s)) then .err 9
                else if tooBig (s.take (run isDigit s)) then .err 3 else .tok 2 (run isDigit s):=by
              unfold step;rw [hp,←hs];simp only [hb,hl1,hg1,nR,if_false,if_true]
             have hrl:=rM isDigit s
             have hrp:0<run isDigit s:=by rw [←hs];exact vG _ hg1
             have hne:s.take (run isDigit s)≠[]:=fun e=>by have:=congrArg List.length e;rw [List.length_take,bZ] at this;omega
             rw [show kindOf c.toNat=3 by unfold kindOf;rw [hb,hl1,hg1];rfl]
             conv=>whnf
             refine ak (aj (T:=fB) rfl rfl (ah h.b) rfl) ?_
             conv=>whnf
             refine au.to (Rx s (by omega) σ1) ?_
             conv=>whnf
             have h':=h.new 112 [.i .i64 3]
             refine ak (aj (T:=fB) rfl rfl (ah h'.b) rfl) ?_
             conv=>whnf
             refine⟨0,c,rfl,h0,?_⟩
             conv=>whnf
             by_cases hA:c.toNat=48
             ·rw [decide_eq_true (show (c.toNat:Int)=48 by omega)]
              conv=>whnf
              by_cases hB:1<run isDigit s
              ·rw [decide_eq_true (by omega)]
               conv=>whnf
               rw [hst,if_pos (.inl ⟨hA,hB⟩)] at h2
               exact h2 9 l _ _ s acc rfl (.inr rfl) h' rfl rfl rfl rfl
              ·rw [decide_eq_false (by omega)]
               conv=>whnf
               refine ak (aj (T:=fB) rfl rfl (ah h'.b) rfl) ?_
               conv=>whnf
               refine⟨run isDigit s,rfl,hrl,?_⟩
               conv=>whnf
               refine au.to (Es _ (by rw [pF];omega) _) ?_
               conv=>whnf
               have h'':=h'.new 112 [.i .i64 2]
               by_cases hC:0<run bQ (s.drop (run isDigit s))
               ·rw [decide_eq_true (by omega)]
                conv=>whnf
                rw [hst,if_pos (.inr hC)] at h2
                exact h2 9 l _ _ s acc rfl (.inr rfl) h'' rfl rfl rfl rfl
               ·rw [decide_eq_false (by omega)]
                rw [hst,if_neg (not_or.2 ⟨fun h=>hB h.2,hC⟩)] at h1 h2
                conv=>whnf
                refine ak (aj (T:=fB) rfl rfl (ah h''.b) rfl) ?_
                conv=>whnf
                refine⟨run isDigit s,rfl,hrl,?_⟩
                conv=>whnf
                refine Lr _ (CJ isDigit s) hne (by rw [List.length_take];omega) _ (iJ (LS.x h'') hg) _ (fun hbig u=>?_) (fun hbig=>?_)
                ·conv=>whnf
                 rw [if_neg (by rw [hbig];exact Bool.false_ne_true)] at h1 h2
                 refine Ak h'' (by omega) 2 (run isDigit s) hrp hrl fun σ3 h3=>?_
                 conv=>whnf
                 exact ih _ l _ σ3 (by rw [pF];omega) (by omega) (by simp;omega) h3 h1 h2
                ·conv=>whnf
                 rw [if_pos hbig] at h1 h2
                 exact h2 3 l _ _ s acc rfl (.inl rfl) h'' rfl rfl rfl rfl
             ·rw [decide_eq_false (show ¬(c.toNat:Int)=48 by omega)]
              conv=>whnf
              refine ak (aj (T:=fB) rfl rfl (ah h'.b) rfl) ?_
              conv=>whnf
              refine⟨run isDigit s,rfl,hrl,?_⟩
              conv=>whnf
              refine au.to (Es _ (by rw [pF];omega) _) ?_
              conv=>whnf
              have h'':=h'.new 112 [.i .i64 2]
              by_cases hC:0<run bQ (s.drop (run isDigit s))
              ·rw [decide_eq_true (by omega)]
               conv=>whnf
               rw [hst,if_pos (.inr hC)] at h2
               exact h2 9 l _ _ s acc rfl (.inr rfl) h'' rfl rfl rfl rfl
              ·rw [decide_eq_false (by omega)]
               rw [hst,if_neg (not_or.2 ⟨fun h=>hA h.1,hC⟩)] at h1 h2
               conv=>whnf
               refine ak (aj (T:=fB) rfl rfl (ah h''.b) rfl) ?_
               conv=>whnf
               refine⟨run isDigit s,rfl,hrl,?_⟩
               conv=>whnf
               refine Lr _ (CJ isDigit s) hne (by rw [List.length_take];omega) _ (iJ (LS.x h'') hg) _ (fun hbig u=>?_) (fun hbig=>?_)
               ·conv=>whnf
                rw [if_neg (by rw [hbig];exact Bool.false_ne_true)] at h1 h2
                refine Ak h'' (by omega) 2 (run isDigit s) hrp hrl fun σ3 h3=>?_
                conv=>whnf
                exact ih _ l _ σ3 (by rw [pF];omega) (by omega) (by simp;omega) h3 h1 h2
               ·conv=>whnf
                rw [if_pos hbig] at h1 h2
                exact h2 3 l _ _ s acc rfl (.inl rfl) h'' rfl rfl rfl rfl
           | false=>
             cases ho1:pU c.toNat with
             | true=>
               have hst:step s=if kV.contains (s.take 2) then .tok 3 2 else .tok 3 1:=by
                unfold step;rw [hp,←hs];simp only [hb,hl1,hg1,ho1,nR,if_false,if_true]
               rw [show kindOf c.toNat=4 by unfold kindOf;rw [hb,hl1,hg1,ho1];rfl]
               conv=>whnf
               refine ak (aj (T:=fB) rfl rfl (ah h.b) rfl) ?_
               conv=>whnf
               refine au.to (two_to s σ1 hgl) ?_
               cases hk:kV.contains (s.take 2) with
               | true=>
                 rw [hst,if_pos hk] at h1 h2 hfit
                 simp only [Stp.fits] at hfit
                 conv=>whnf
                 refine Ak h (by omega) 3 2 (by omega) hfit.2.1 fun σ3 h3=>?_
                 conv=>whnf
                 exact ih _ l _ σ3 (by rw [pF];omega) (by omega) (by simp;omega) h3 h1 h2
               | false=>
                 rw [hst,if_neg (by rw [hk];exact Bool.false_ne_true)] at h1 h2
                 conv=>whnf
                 refine Ak h (by omega) 3 1 (by omega) (by omega) fun σ3 h3=>?_
                 conv=>whnf
                 exact ih _ l _ σ3 (by rw [pF];omega) (by omega) (by simp;omega) h3 h1 h2
             | false=>
               have hst:step s= .err 9:=by
                unfold step;rw [hp,←hs];simp only [hb,hl1,hg1,ho1,nR,if_false]
               rw [show kindOf c.toNat=0 by unfold kindOf;rw [hb,hl1,hg1,ho1];rfl]
               conv=>whnf
               rw [hst] at h2
               exact h2 9 l _ _ s acc rfl (.inr rfl) h rfl rfl rfl rfl
end Go.Abs.YtlkfbfhkcaldlaaGreatDoor
namespace Go.Abs.YtlkfbfhkcaldlaaGreatDoor
open Go.Proofs
set_option maxRecDepth 4000
theorem Y1 (t:List UInt8)(σ:St)(hg:σ.take G0.length=G0)(Q:AV→St→Prop)
 (h1:∀l out σ',uj t= .toks l→l.length≤40000→Ext σ σ'→nD σ.length σ' out l→Q (.tu [out,.ic0]) σ')
 (h2:∀e l o σ',uj t= .bad e l→Ext σ σ'→σ.length≤o→σ'[o]? =some ⟨0,false,.cells 25 [.i .i64 e,.i .i64 l]⟩→Q (.tu [.sl0,.ic 86 (.p o 0 0)]) σ') :
 au X 23 [.s t] σ Q:=by
 refine au.body (F:=F23) ay (lit:=false) rfl rfl (aU rfl) ?_
 conv=>whnf
 refine ak (aj (T:=fB) rfl rfl (ah (aG _ _ _)) rfl) ?_
 conv=>whnf
 by_cases hl:32768<t.length
 ·rw [decide_eq_true (by omega)]
  conv=>whnf
  refine Fin.ref rfl (h2 3 0 _ _ (by simp [uj,hl]) (((Ext.refl σ).new _ _).new _ _) ?_ ?_)
  ·rw [aH];omega
  ·exact aG _ _ _
 ·rw [decide_eq_false (by omega)]
  have hS:uj t=(mP t.length t 0 []).fin:=by simp [uj,hl]
  rw [hS] at h1 h2
  conv=>whnf
  refine ak (aC (T:=fF) [.i .i64 0] rfl (aG _ _ _) rfl rfl (aU rfl) rfl) ?_
  conv=>whnf
  have e1:(newCells 9 [.s t] σ).length=σ.length+1:=aH _ _ _
  have e2:(newCells 51 [.sl0] (newCells 9 [.s t] σ)).length=σ.length+2:=by rw [aH,e1]
  have hls:LS σ ((newCells 3 [.i .i64 0] (newCells 51 [.sl0] (newCells 9 [.s t] σ))).set (σ.length+2) ⟨0,false,.cells 3 [.i .i64 (0:Nat)]⟩) t 0 []:=by
   refine LS.line (l:=0) ⟨(((Ext.refl σ).new _ _).new _ _).new _ _,at_new (at_new (aG _ _ _) _ _) _ _,⟨.sl0,?_,.inl ⟨rfl,rfl⟩⟩,?_⟩ 0
   ·refine at_new ?_ _ _
    have:=aG 51 [.sl0] (newCells 9 [.s t] σ)
    rw [e1] at this;exact this
   ·have:=aG 3 [.i .i64 0] (newCells 51 [.sl0] (newCells 9 [.s t] σ))
    rw [e2] at this;exact this
  show aV X [1,4,5,6,7] PV [(1,.p σ.length 0 0),(4,.p (newCells 9 [.s t] σ).length 0 0),(5,.p (newCells 51 [.sl0] (newCells 9 [.s t] σ)).length 0 0),(6,.fn (.func 46) [] [.p (newCells 9 [.s t] σ).length 0 0,.p σ.length 0 0,.p (newCells 51 [.sl0] (newCells 9 [.s t] σ)).length 0 0]),(7,.i .i64 0)]
   ((newCells 3 [.i .i64 0] (newCells 51 [.sl0] (newCells 9 [.s t] σ))).set (newCells 51 [.sl0] (newCells 9 [.s t] σ)).length ⟨0,false,.cells 3 [.i .i64 (0:Nat)]⟩) _
  rw [e1,e2]
  refine RD σ hg _ t.length t 0 [] _ (Nat.le_refl _) (by omega) (by simp;omega) hls (fun acc' l' e' σ' s' hG hacc h h4 h5 h7 hu=>?_) (fun e l' e' σ' s' acc' hG he h h4 h5 h7 hu=>?_)
  ·rw [hG] at h1
   obtain⟨out,ho1,ho2⟩:=h.o
   conv=>whnf
   rw [hu]
   conv=>whnf
   rw [h4]
   conv=>whnf
   rw [h5]
   conv=>whnf
   rw [h7]
   rcases ho2.cases with rfl | ⟨o1,g1,rfl⟩
   all_goals
        conv=>whnf
        refine ak (aj (T:=qC) rfl rfl (ah ho1) rfl) ?_
        conv=>whnf
        refine ak (aj (T:=fF) rfl rfl (ah h.n) rfl) ?_
        conv=>whnf
        refine Qb (A:=σ.length+3) (tk:=⟨5,[],l'⟩) (ho2.new _ _) (by omega) (aG _ _ _) (by rw [aH];have:=bK h.n;omega) fun Vk fC ho5 hk5 hl5 _=>?_
        have hx5:Ext σ fC:=⟨by omega,fun i hi=>by rw [hk5 i (by omega)];exact(h.x.new _ _).old i hi⟩
        have hoo:nD σ.length fC Vk (acc' ++ [⟨5,[],l'⟩]):=by
         rcases ho5 with h | ⟨o,g,q1,q2⟩
         ·exact .inl h
         ·exact .inr ⟨o,g,by omega,q2⟩
        have q1:=h1 _ Vk fC rfl (by simp;omega) hx5 hoo
        rcases ho5.cases with rfl | ⟨o3,g3,rfl⟩
        all_goals
         conv=>whnf
         first
            | exact Fin.ref rfl q1
            | (exfalso;rcases ho5 with ⟨h6,_⟩ | ⟨o,g,_,h6,_⟩
               ·simp at h6
               ·cases h6)
  ·rw [hG] at h2
   conv=>whnf
   rw [hu]
   conv=>whnf
   rw [h4]
   conv=>whnf
   rw [h5]
   conv=>whnf
   rw [h7]
   conv=>whnf
   rw [decide_eq_false (show ¬(e:Int)=0 by omega)]
   conv=>whnf
   refine ak (aj (T:=fF) rfl rfl (ah h.n) rfl) ?_
   conv=>whnf
   exact Fin.ref rfl (h2 e l' _ _ rfl (h.x.new _ _) h.x.len (aG _ _ _))
end Go.Abs.YtlkfbfhkcaldlaaGreatDoor
