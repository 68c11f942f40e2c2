/- Texts of this claim, joined: Po, Pp, Tk, Pq, Pr. -/
import Derived.Test.YtjcicgkencfbgaaGreatDoorM23
import Derived.Test.YtjcicgkencfbgaaGreatDoorM20
set_option linter.unusedVariables false
set_option linter.unusedSimpArgs false
namespace Go.bG.YtjcicgkencfbgaaGreatDoor
open Go.Proofs
set_option maxRecDepth 4000
section
variable {p w g:Nat} {all:List Tok} {n:Nat}
theorem EF (n:Nat)(f:Bool)(ts:List Tok):bY (n+1) f ts=if aY [41] ts=true then .ok [] ts else(if f=true then Re.ok () ts else aP [44] ts).bind fun _ ts=>(zh ts).bind fun q ts=>(bY n false ts).bind fun l ts=>.ok (q :: l) ts:=by
 rw [bY]
 simp only [←YD]
end
end Go.bG.YtjcicgkencfbgaaGreatDoor
namespace Go.bG.YtjcicgkencfbgaaGreatDoor
open Go.Proofs
set_option maxRecDepth 4000
def rH (S:Nat→Prop)(σ:St)(v:AV)(l:List (List UInt8×Bool)):Prop:=(l=[]∧v= .sl0)∨∃o g,S o∧v= .sl o g 0 l.length 2∧σ[o]? =some ⟨g,false,.cells 97 (nD l)⟩
def qp (S:Nat→Prop)(σ:St)(v:AV)(f:Fm):Prop:=∃o A Bd,S o∧v= .p o 0 0∧σ[o]? =some (gJ f.name A f.ptr Bd f.line)∧rH S σ A f.params∧dN S σ Bd f.body
theorem rH.mono {S S':Nat→Prop} {σ σ':St} (h1:∀o,S o→S' o)(h2:∀o,S o→∀a,σ[o]? =some a→σ'[o]? =some a) {l:List (List UInt8×Bool)} {v:AV} (h:rH S σ v l):rH S' σ' v l:=by
 rcases h with h | ⟨o,g,a,b,c⟩
 ·exact .inl h
 ·exact .inr ⟨o,g,h1 _ a,b,h2 _ a _ c⟩
theorem qp.mono {S S':Nat→Prop} {σ σ':St} (h1:∀o,S o→S' o)(h2:∀o,S o→∀a,σ[o]? =some a→σ'[o]? =some a) {f:Fm} {v:AV} (h:qp S σ v f):qp S' σ' v f:=by
 obtain⟨o,A,Bd,a,b,c,d,e⟩:=h
 exact⟨o,A,Bd,h1 _ a,b,h2 _ a _ c,d.mono h1 h2,e.mono h1 h2⟩
theorem qp.below {S:Nat→Prop} {σ:St} {f:Fm} {v:AV} (h:qp S σ v f):qp (fun o=>S o∧o<σ.length) σ v f:=by
 obtain⟨o,A,Bd,a,b,c,d,e⟩:=h
 refine⟨o,A,Bd,⟨a,aX c⟩,b,c,?_,e.below⟩
 rcases d with d | ⟨o,g,a,b,c⟩
 ·exact .inl d
 ·exact .inr ⟨o,g,⟨a,aX c⟩,b,c⟩
section
variable {p w g:Nat} {all:List Tok} {n:Nat}
def O9 (n ln:Nat)(nm:List UInt8)(ps:List (List UInt8×Bool))(bJ:List Tok):Re Fm:=(dI n 0 (if aY fB bJ=true then bJ.tail else bJ)).bind fun b fU=>.ok ⟨nm,ps,aY fB bJ,b,ln⟩ fU
end
end Go.bG.YtjcicgkencfbgaaGreatDoor
namespace Go.bG.YtjcicgkencfbgaaGreatDoor
open Go.Proofs
def O_ (z:Tok):Prop:=(z.k=2→((∀c∈z.s,48≤c.toNat∧c.toNat≤57)∧qP 0 z.s<4294967296∧z.s.length≤100000)∧z.s≠[])∧(z.k=4→z.s∈keys)∧(z.k=3→z.s∉keys)
theorem Pg:∀(l:List UInt8) (v:Nat),jQ v l=true→v<4294967296→qP v l<4294967296
 | [],v,_,hv=>hv
 | c :: l,v,h,_=>by
   unfold jQ at h
   split at h
   ·cases h
   ·exact Pg l _ h (by omega)
theorem step_ok (c:UInt8)(t:List UInt8)(k n l:Nat)(hl:(c :: t).length≤32768)(h:step (c :: t)= .tok k n):O_ ⟨k,(c :: t).take n,l⟩:=by
 unfold step at h
 split at h
 ·cases h
 ·simp only at h
  split at h
  ·cases h
  ·split at h
   ·split at h
    ·cases h
    ·split at h
     ·rename_i hk
      cases h
      exact⟨fun e=>by simp at e,fun _=>List.contains_iff_mem.1 hk,fun e=>by simp at e⟩
     ·cases h
      exact⟨fun e=>by simp at e,fun e=>by simp at e,fun e=>by simp at e⟩
   ·rename_i hlet
    split at h
    ·rename_i hd
     split at h
     ·cases h
     ·split at h
      ·cases h
      ·rename_i hbig
       cases h
       have hall:=yK isDigit (c :: t)
       have hne:(c :: t).take (run isDigit (c :: t))≠[]:=by
                have hp:0<run isDigit (c :: t):=lY _ hd
                obtain⟨k,hk⟩:∃k,run isDigit (c :: t)=k+1:=⟨_,(Nat.sub_add_cancel hp).symm⟩
                rw [hk,List.take_succ_cons];simp
       have hok:jQ 0 ((c :: t).take (run isDigit (c :: t)))=true:=by
                rw [Eh hall hne] at hbig
                simpa using hbig
       refine⟨fun _=>⟨⟨fun x hx=>?_,Pg _ 0 hok (by decide),?_⟩,hne⟩,fun e=>by simp at e,fun e=>by simp at e⟩
       ·have:=hall x hx
        simp only [isDigit,Bool.and_eq_true,decide_eq_true_eq] at this
        omega
       ·have hr:=nX isDigit (c :: t)
        show ((c :: t).take (run isDigit (c :: t))).length≤100000
        rw [List.length_take];omega
    ·split at h
     ·have hk:∀n,(c :: t).take (n+1)∉keys:=by
       intro n hm
       have hh:∀w∈keys,∀a∈w.head?,bQ a.toNat=true:=by decide
       have:=hh _ hm c (by rw [List.take_succ_cons];rfl)
       exact hlet this
      split at h
      ·cases h
       exact⟨fun e=>by simp at e,fun e=>by simp at e,fun _=>hk 1⟩
      ·cases h
       exact⟨fun e=>by simp at e,fun e=>by simp at e,fun _=>hk 0⟩
     ·cases h
theorem I4:∀(n:Nat) (s:List UInt8) (l:Nat) (acc l':List Tok) (n':Nat),s.length≤32768→(∀z∈acc,O_ z)→iE n s l acc= .done l' n'→∀z∈l',O_ z
 | _,[],l,acc,l',n',_,ha,h=>by
   unfold iE at h;cases h;exact ha
 | 0,c :: t,l,acc,l',n',_,ha,h=>by
   unfold iE at h;cases h;exact ha
 | n+1,c :: t,l,acc,l',n',hs,ha,h=>by
   unfold iE at h
   have hf:=jc c t
   cases hst:step (c :: t) with
   | skip k nl=>
     rw [hst] at h
     exact I4 n _ _ acc l' n' (by rw [List.length_drop];omega) ha h
   | tok k m=>
     rw [hst] at h
     refine I4 n _ _ _ l' n' (by rw [List.length_drop];omega) (fun z hz=>?_) h
     rcases List.mem_append.1 hz with hz | hz
     ·exact ha z hz
     ·rw [List.mem_singleton.1 hz]
      exact step_ok c t k m l hs hst
   | err e=>rw [hst] at h;cases h
theorem Lp (z:Tok)(hz:z.k=5):∀l:List Tok,aU (l ++ [z])
 | []=>by
   show aU [z]
   unfold aU
   rw [if_pos rfl];exact hz
 | x :: l=>by
   show aU (x :: (l ++ [z]))
   unfold aU
   rw [if_neg (by simp)]
   exact Lp z hz l
theorem I5 {t:List UInt8} {l:List Tok} (h:mG t= .toks l):aU l∧oC l∧Ew l∧Lh l:=by
 unfold mG at h
 split at h
 ·cases h
 ·cases hG:iE t.length t 0 [] with
  | bad e l=>rw [hG] at h;cases h
  | done l0 n=>
    rw [hG] at h
    cases h
    have h0:=I4 t.length t 0 [] l0 n (by omega) (fun z hz=>by cases hz) hG
    have h1:∀z∈l0 ++ [⟨5,[],n⟩],O_ z:=by
        intro z hz
        rcases List.mem_append.1 hz with hz | hz
        ·exact h0 z hz
        ·rw [List.mem_singleton.1 hz]
         exact⟨fun e=>by simp at e,fun e=>by simp at e,fun e=>by simp at e⟩
    exact⟨Lp _ rfl _,fun z hz hk=>((h1 z hz).1 hk).1,fun z hz hk=>((h1 z hz).1 hk).2,fun z hz=>(h1 z hz).2⟩
end Go.bG.YtjcicgkencfbgaaGreatDoor
namespace Go.bG.YtjcicgkencfbgaaGreatDoor
open Go.Proofs
set_option maxRecDepth 4000
def QT (B:Nat)(σ:St)(v:AV)(cs:List AV):Prop:=(cs=[]∧v= .sl0)∨∃o g,B≤o∧v= .sl o g 0 cs.length 1∧σ[o]? =some ⟨g,false,.cells 54 cs⟩∧cs≠[]
theorem Vq {B:Nat} {σ:St} {v:AV} {cs:List AV} (h:QT B σ v cs) {oy gy:Nat} (hcs:cs.all AV.one=true)(hl:cs.length≤100000) {C:Nat} (hC:σ[C]? =some ⟨0,false,.cells 54 [.p oy gy 0]⟩)(hB:B≤σ.length) {Q:AV→St→Prop}
 (q:∀v' σ',QT B σ' v' (cs ++ [.p oy gy 0])→σ.length≤σ'.length→(∀i,i<σ.length→apart v i→σ'[i]? =σ[i]?∧apart v' i)→(∀i,i<B→σ'[i]? =σ[i]?)→(∀i,σ'.length≤i→apart v' i)→Q v' σ') :
 DX L_.get false 50 v (.sl C 0 0 1 1) σ Q:=by
 constructor
 refine ak (v:=iM) rfl ?_
 refine ak (v:=eu) rfl ?_
 refine ak (kG hC (Nat.le_of_ble_eq_true rfl)) ?_
 rcases h with ⟨rfl,rfl⟩ | ⟨o,g,h1,rfl,h3,_⟩
 ·refine⟨Nat.le_of_ble_eq_true rfl,?_⟩
  refine q _ _ (.inr ⟨σ.length,0,hB,rfl,?_,by simp⟩) (by rw [aH];omega) (fun i hi _=>⟨dn hi,fun o g n z e=>by cases e;omega⟩) (fun i hi=>dn (by omega)) (fun i hi o g n z e=>by cases e;rw [aH] at hi;omega)
  rw [aG];rfl
 ·refine ak (qc h3) ?_
  refine⟨rfl,by simp,?_,by rw [List.drop_zero,List.take_of_length_le (by omega)];exact hcs,?_⟩
  ·show (cs.length+1)*8≤_;omega
  refine q _ _ (.inr ⟨o,g+1,h1,by simp,?_,by simp⟩) (by rw [List.length_set];exact Nat.le_refl _) (fun i hi ha=>⟨by rw [List.getElem?_set_ne (fun e=>ha o g _ _ rfl e.symm)],fun o' g' n z e=>by cases e;exact ha o g _ _ rfl⟩) (fun i hi=>by rw [List.getElem?_set_ne (by omega)]) (fun i hi o' g' n z e=>by cases e;rw [List.length_set] at hi;have:=aX h3;omega)
  rw [at_set h3]
  simp [List.take_of_length_le]
  rfl
def gY (S:Nat→Prop)(σ:St):List AV→List Fm→Prop
 | [],[]=>True
 | a :: cs,x :: xs=>(∃o g,a= .p o g 0)∧qp S σ a x∧gY S σ cs xs
 | _,_=>False
theorem gY.mono {S S':Nat→Prop} {σ σ':St} (h1:∀o,S o→S' o)(h2:∀o,S o→∀a,σ[o]? =some a→σ'[o]? =some a):∀{cs:List AV} {xs:List Fm},gY S σ cs xs→gY S' σ' cs xs
 | [],[],_=>trivial
 | a :: cs,x :: xs,h=>⟨h.1,h.2.1.mono h1 h2,gY.mono h1 h2 h.2.2⟩
theorem gY.snoc {S:Nat→Prop} {σ:St} :∀{cs:List AV} {xs:List Fm} {a:AV} {x:Fm},gY S σ cs xs→(∃o g,a= .p o g 0)→qp S σ a x→gY S σ (cs ++ [a]) (xs ++ [x])
 | [],[],a,x,_,ha,hx=>⟨ha,hx,trivial⟩
 | b :: cs,y :: xs,a,x,h,ha,hx=>⟨h.1,h.2.1,gY.snoc h.2.2 ha hx⟩
theorem gY.len {S:Nat→Prop} {σ:St} :∀{cs:List AV} {xs:List Fm},gY S σ cs xs→cs.length=xs.length
 | [],[],_=>rfl
 | a :: cs,x :: xs,h=>by have:=gY.len h.2.2;simp [this]
theorem gY.one {S:Nat→Prop} {σ:St} :∀{cs:List AV} {xs:List Fm},gY S σ cs xs→cs.all AV.one=true
 | [],[],_=>rfl
 | a :: cs,x :: xs,h=>by
   obtain⟨o,g,rfl⟩:=h.1
   rw [List.all_cons,gY.one h.2.2];rfl
def AP (B:Nat)(σ:St)(v:AV)(xs:List Fm):Prop:=∃cs,QT B σ v cs∧gY (fun i=>B≤i∧apart v i) σ cs xs
theorem QT.sl {B:Nat} {σ:St} {v:AV} {cs:List AV} (h:QT B σ v cs):yT v:=by
 rcases h with ⟨_,rfl⟩ | ⟨o,g,_,rfl,_⟩
 ·exact .inl rfl
 ·exact .inr ⟨_,_,_,rfl⟩
theorem gY.below {S:Nat→Prop} {σ:St} :∀{cs:List AV} {xs:List Fm},gY S σ cs xs→gY (fun o=>S o∧o<σ.length) σ cs xs
 | [],[],_=>trivial
 | a :: cs,x :: xs,h=>⟨h.1,h.2.1.below,h.2.2.below⟩
theorem zk {p B D:Nat} {xG σ2:St} {A:AV} {acc:List Fm} (ha:AP B xG A acc)(x2:aI p xG σ2)(hp:p<B)(hB:B≤xG.length)(hD:D≤σ2.length)(hD0:xG.length≤D)(hl:acc.length≤90000)(oy gy:Nat) {Q:AV→St→Prop}
 (q:∀o3 g3 k σ3,(∀i,i<B→σ3[i]? =σ2[i]?)→σ2.length≤σ3.length→(∀(i:Nat) (a:AO),σ2[i]? =some a→(∀(g:Nat) (ro:Bool) (cs:List AV),a≠⟨g,ro,.cells 54 cs⟩)→σ3[i]? =some a)→(∀y,qp (fun i=>D≤i) σ2 (.p oy gy 0) y→AP B σ3 (.sl o3 g3 0 k 1) (acc ++ [y]))→Q (.sl o3 g3 0 k 1) σ3) :
 DX L_.get false 50 A (.sl σ2.length 0 0 1 1) (au 54 [.p oy gy 0] σ2) Q:=by
 obtain⟨cs,hraw,hea⟩:=ha
 have hcl:=hea.len
 have hco:=hea.one
 have lx:=x2.len
 have La:QT B (au 54 [.p oy gy 0] σ2) A cs:=by
  rcases hraw with h | ⟨o,g,q1,q2,q3,q4⟩
  ·exact .inl h
  ·exact .inr ⟨o,g,q1,q2,at_new (x2.get (by omega) q3) _ _,q4⟩
 have hlt:∀o g n z,A= .sl o g 0 n z→o<xG.length:=by
  intro o g n z e
  rcases hraw with ⟨_,h⟩ | ⟨o',g',q1,q2,q3,q4⟩
  ·rw [h] at e;cases e
  ·rw [q2] at e;cases e;exact aX q3
 refine Vq (B:=B) (cs:=cs) La hco (by omega) (aG _ _ _) (by rw [aH];omega) fun v' σ3 hr3 hl3 ho3 hb3 U3=>?_
 rw [aH] at hl3
 obtain⟨o3,g3,p1,rfl,p3,p4⟩:=hr3.resolve_left (by simp)
 refine q _ _ _ σ3 (fun i hi=>by rw [hb3 i hi,dn (by omega)]) (by omega) (fun i a hi ht=>?_) (fun y tY=>?_)
 ·rw [(ho3 i (by rw [aH];have:=aX hi;omega) ?_).1]
  ·exact at_new hi _ _
  ·intro o g n z e
   rcases hraw with ⟨_,h⟩ | ⟨o',g',q1,q2,q3,q4⟩
   ·rw [h] at e;cases e
   ·rw [q2] at e
    cases e
    intro e
    subst e
    have:=(x2.get (by omega) q3).symm.trans hi
    exact ht _ _ _ (Option.some.inj this).symm
 refine⟨_,hr3,gY.snoc (gY.mono (fun i hi=>⟨hi.1.1,(ho3 i (by rw [aH];omega) hi.1.2).2⟩) (fun i hi a ha=>by rw [(ho3 i (by rw [aH];omega) hi.1.2).1,dn (by omega),x2.old i hi.2 (by omega)];exact ha) hea.below) ⟨_,_,rfl⟩ ?_⟩
 have hap:∀i,D≤i→apart A i:=fun i hi o g n z e=>by have:=hlt o g n z e;omega
 exact qp.mono (fun i hi=>⟨by omega,(ho3 i (by rw [aH];omega) (hap i hi.1)).2⟩) (fun i hi a ha=>by rw [(ho3 i (by rw [aH];omega) (hap i hi.1)).1];exact at_new ha _ _) tY.below
theorem AP.keep {B:Nat} {σ σ':St} {v:AV} {xs:List Fm} (h:AP B σ v xs)(k:∀(i:Nat) (a:AO),B≤i→σ[i]? =some a→σ'[i]? =some a):AP B σ' v xs:=by
 obtain⟨cs,h1,h2⟩:=h
 refine⟨cs,?_,h2.mono (fun i hi=>hi) (fun i hi a ha=>k i a hi.1 ha)⟩
 rcases h1 with h | ⟨o,g,q1,q2,q3,q4⟩
 ·exact .inl h
 ·exact .inr ⟨o,g,q1,q2,k o _ q1 q3,q4⟩
section
variable {p w g:Nat} {all:List Tok}
end
end Go.bG.YtjcicgkencfbgaaGreatDoor
namespace Go.bG.YtjcicgkencfbgaaGreatDoor
open Go.Proofs
set_option maxRecDepth 4000
def jB (t:List UInt8):Re (List Fm):=match mG t with
 | .bad e l=>.bad e l
 | .toks ts=>gB (10*ts.length+11) ts
def kD (S:Nat→Prop)(σ:St)(v:AV)(fs:List Fm):Prop:=∃o A,S o∧v= .p o 0 0∧σ[o]? =some ⟨0,false,.cells 52 [A]⟩∧((fs=[]∧A= .sl0)∨∃o2 g2 cs,S o2∧A= .sl o2 g2 0 cs.length 1∧σ[o2]? =some ⟨g2,false,.cells 54 cs⟩∧gY S σ cs fs∧cs≠[])
theorem AP.prog {B:Nat} {σ:St} {A:AV} {fs:List Fm} (h:AP B σ A fs) {o:Nat} (ho:B≤o)(hq:σ[o]? =some ⟨0,false,.cells 52 [A]⟩):kD (fun i=>B≤i) σ (.p o 0 0) fs:=by
 obtain⟨cs,h1,h2⟩:=h
 refine⟨o,A,ho,rfl,hq,?_⟩
 have h3:gY (fun i=>B≤i) σ cs fs:=h2.mono (fun i hi=>hi.1) (fun i _ a ha=>ha)
 rcases h1 with ⟨rfl,rfl⟩ | ⟨o2,g2,q1,q2,q3,q4⟩
 ·refine .inl ⟨?_,rfl⟩
  cases fs with
  | nil=>rfl
  | cons _ _=>exact h3.elim
 ·exact .inr ⟨o2,g2,cs,q1,q2,q3,h3,q4⟩
theorem gY.at_ {S S':Nat→Prop} {σ σ':St} {cs:List AV} {xs:List Fm} (h1:∀o,S o→S' o)(h2:∀o,S o→∀a,σ[o]? =some a→σ'[o]? =some a)(h:gY S σ cs xs):gY S' σ' cs xs:=h.mono h1 h2
theorem kD.mono {S S':Nat→Prop} {σ σ':St} (h1:∀o,S o→S' o)(h2:∀o,S o→∀a,σ[o]? =some a→σ'[o]? =some a) {fs:List Fm} {v:AV} (h:kD S σ v fs):kD S' σ' v fs:=by
 obtain⟨o,A,a,b,c,d⟩:=h
 refine⟨o,A,h1 _ a,b,h2 _ a _ c,?_⟩
 rcases d with d | ⟨o2,g2,cs,e,f,g,i,j⟩
 ·exact .inl d
 ·exact .inr ⟨o2,g2,cs,h1 _ e,f,h2 _ e _ g,i.mono h1 h2,j⟩
end Go.bG.YtjcicgkencfbgaaGreatDoor
