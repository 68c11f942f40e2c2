/- Texts of this claim, joined: Ta. -/
import Derived.Test.YtnbdedokjfpckaaGreatDoorM18
import Derived.Test.YtnbdedokjfpckaaGreatDoorM07
set_option linter.unusedVariables false
set_option linter.unusedSimpArgs false
namespace Go.cO
mutual
def AV.g0:AV→Bool
 | .p _ g _=>Nat.beq g 0
 | .sl _ g _ _ _=>Nat.beq g 0
 | .mp _ g=>Nat.beq g 0
 | .fn _ a c=>AV.Vg a && AV.Vg c
 | .ic _ v=>v.g0
 | .cd _ v=>v.g0
 | .ag a=>AV.Vg a
 | .tu a=>AV.Vg a
 | _=>true
def AV.Vg:List AV→Bool
 | []=>true
 | a :: l=>a.g0 && AV.Vg l
end
def muZ (μ:Mu):Mu:=fun o g=>match g with
 | 0=>μ o 0
 | _=>none
mutual
theorem aJ.g0 {μ:Mu} {w:World} :∀(a:AV) (v:Value),a.g0=true→aJ μ w a v→aJ (muZ μ) w a v:=by
 intro a v hf h
 match a with
 | .u=>trivial
 | .b _ | .i _ _ | .s _ | .p0 | .sl0 | .fn0 | .gK | .qX=>simpa [aJ] using h
 | .p o g off=>
   obtain rfl:g=0:=Nat.eq_of_beq_eq_true hf
   exact h
 | .sl o g off n z=>
   obtain rfl:g=0:=Nat.eq_of_beq_eq_true hf
   exact h
 | .mp o g=>
   obtain rfl:g=0:=Nat.eq_of_beq_eq_true hf
   exact h
 | .fn f xs ys=>
   simp only [AV.g0,Bool.and_eq_true] at hf
   obtain⟨a,c,h1,h2,h3⟩:=h
   exact⟨a,c,h1,aQ.g0 _ _ hf.1 h2,aQ.g0 _ _ hf.2 h3⟩
 | .ic t x=>obtain⟨y,h1,h2⟩:=h;exact⟨y,h1,aJ.g0 _ _ (by simpa [AV.g0] using hf) h2⟩
 | .ag xs=>obtain⟨y,h1,h2⟩:=h;exact⟨y,h1,aQ.g0 _ _ (by simpa [AV.g0] using hf) h2⟩
 | .tu xs=>obtain⟨y,h1,h2⟩:=h;exact⟨y,h1,aQ.g0 _ _ (by simpa [AV.g0] using hf) h2⟩
 | .cd c x=>
   cases c with
   | true=>simp only [aJ,if_true] at h ⊢;exact aJ.g0 _ _ (by simpa [AV.g0] using hf) h
   | false=>simpa [aJ] using h
theorem aQ.g0 {μ:Mu} {w:World} :∀(l:List AV) (v:List Value),AV.Vg l=true→aQ μ w l v→aQ (muZ μ) w l v:=by
 intro l v hf h
 match l with
 | []=>simpa [aQ] using h
 | x :: xs=>
   simp only [AV.Vg,Bool.and_eq_true] at hf
   obtain⟨y,ys,h1,h2,h3⟩:=h
   exact⟨y,ys,h1,aJ.g0 _ _ hf.1 h2,aQ.g0 _ _ hf.2 h3⟩
end
theorem J_:∀{l:List AV} {c:AV},AV.Vg l=true→c∈l→c.g0=true
 | a :: l,c,h,hc=>by
   simp only [AV.Vg,Bool.and_eq_true] at h
   rcases List.mem_cons.1 hc with rfl | hc
   ·exact h.1
   ·exact J_ h.2 hc
section
variable {G:Nat} {μ xG:Mu} {σ1 G0 T:St} {w w1:World}
theorem Step.kill (hok:pX G G0=true)(h00:∀(o:Nat) a,G0[o]? =some a→a.g=0)(hs:fH G μ G0 w)(h:Step G μ G0 w xG σ1 w1)(hl:G+T.length=σ1.length)
 (hb:∀(i:Nat) a,T[i]? =some a→a.k.live=true→σ1[G+i]? =some a∧a.g=0∧∃e cs,a.k= .cells e cs∧AV.Vg cs=true) (hd:∀(i:Nat) a,T[i]? =some a→0≤a.g):Step G μ G0 w (muZ xG) (G0 ++ T) w1:=by
 have hlen:G0.length=G:=zu hok
 have hro:∀(o:Nat) a,G0[o]? =some a→a.ro=false→a.k.live=true→False:=fun o a ho hr hl=>by rw [(lg hok ho hl).1] at hr;cases hr
 have hbl:=h.below hro
 have hg:=Step.of_below hs hbl
 have at_:∀(o:Nat) a,(G0 ++ T)[o]? =some a→(o<G∧G0[o]? =some a)∨∃i,o=G+i∧T[i]? =some a:=by
  intro o a ho
  by_cases hlt:o<G
  ·rw [List.getElem?_append_left (by omega)] at ho;exact .inl ⟨hlt,ho⟩
  ·rw [List.getElem?_append_right (by omega),hlen] at ho;exact .inr ⟨o - G,by omega,ho⟩
 have hle:μ.le (muZ xG):=by
  intro o g x hx
  obtain⟨a,h1,h2⟩:=hs.dom o g x hx
  obtain rfl:g=0:=by have:=h00 o a h1;omega
  exact h.ext _ _ _ hx
 have hgl:∀(o:Nat),o<G→xG o 0=some (o,0):=h.nI.rC
 refine⟨⟨fun o a ho hlv=>?_,fun o o' a a' b δ uV h1 h2 h3 h4 h5 h6 h7=>?_,fun o g x hx=>?_,fun o g b δ hx=>?_,fun g hg=>hgl g hg,fun o b δ hx=>h.nI.low o b δ hx,fun g e cs hg1 ho=>?_⟩,
  hle,h.sK,h.os,h.tape,h.output,h.size,h.frame,fun o a b δ h1 h2 h3 h4 h5=>?_⟩
 ·rcases at_ o a ho with ⟨hlt,q⟩ | ⟨i,rfl,q⟩
  ·obtain⟨b,δ,h1,h2⟩:=hg.nI.obj o a q hlv
   exact⟨b,δ,hle _ _ _ h1,pF.mono hle (ji.refl _) rfl h2⟩
  ·obtain⟨h1,h2,e,cs,h3,h4⟩:=hb i a q hlv
   obtain⟨b,δ,h5,h6⟩:=h.nI.obj _ a h1 hlv
   refine⟨b,δ,by rw [h2] at h5 ⊢;exact h5,?_⟩
   unfold pF at h6 ⊢
   rw [h3] at h6 ⊢
   obtain⟨dF,fr,q1,q2,q3,q4⟩:=h6
   refine⟨dF,fr,q1,q2,fun j c hj=>?_,q4⟩
   obtain⟨v,r1,r2⟩:=q3 j c hj
   exact⟨v,r1,aJ.g0 _ _ (J_ h4 (List.mem_of_getElem? hj)) r2⟩
 ·rcases at_ o a h1 with ⟨hlt,q⟩ | ⟨i,rfl,q⟩
  ·exact(hro o a q h3 h4).elim
  ·obtain⟨r1,r2,_⟩:=hb i a q h4
   rw [r2] at h6
   have h6':xG (G+i) a.g=some (b,δ):=by rw [r2];exact h6
   rcases at_ o' a' h2 with ⟨hlt,q'⟩ | ⟨i',rfl,q'⟩
   ·rw [h00 o' a' q'] at h7
    have h7':xG o' 0=some (b,uV):=h7
    rw [hgl o' hlt] at h7'
    cases h7'
    obtain⟨o2,a2,δ2,s1,s2,s3,_⟩:=h.Nj (G+i) a o' δ r1 h3 h4 h6' (hs.blk o' 0 o' 0 (hs.rC o' hlt))
    exact(hro o2 a2 s1 s2 s3).elim
   ·obtain⟨r1',r2',_⟩:=hb i' a' q' h5
    rw [r2'] at h7
    exact h.nI.inj _ _ a a' b δ uV r1 r1' h3 h4 h5 h6' (by rw [r2'];exact h7)
 ·cases g with
  | succ n=>cases hx
  | zero=>
    obtain⟨a,h1,_⟩:=h.nI.dom o 0 x hx
    have hlt:o<(G0 ++ T).length:=by rw [List.length_append,hlen,hl];exact(List.getElem?_eq_some_iff.1 h1).1
    exact⟨_,List.getElem?_eq_getElem hlt,Nat.zero_le _⟩
 ·cases g with
  | succ n=>cases hx
  | zero=>exact h.nI.blk o 0 b δ hx
 ·rcases at_ g _ ho with ⟨hlt,q⟩ | ⟨i,rfl,q⟩
  ·exact hg.nI.full g e cs hg1 q
  ·omega
 ·rcases at_ o a h1 with ⟨hlt,q⟩ | ⟨i,rfl,q⟩
  ·exact(hro o a q h2 h3).elim
  ·obtain⟨r1,r2,_⟩:=hb i a q h3
   rw [r2] at h4
   exact h.Nj _ a b δ r1 h2 h3 (by rw [r2];exact h4) h5
end
end Go.cO
namespace Go.cO.YtnbdedokjfpckaaGreatDoor
open Go.Proofs
structure RunT where
 f:Nat
 args:List FV
 v:AV
noncomputable def RunT.run (r:RunT):Bool:=gTop TT 1000 r.f r.args G0 fun x=>AV.eqv x.av r.v
structure RunT.Good (r:RunT):Prop where
 run:r.run=true
 flat:r.v.flat=true
 args:AV.vY (r.args.map FV.av)=true
noncomputable def Gv (l:List RunT)(f:Nat):List AV→St→Option (AV×St):=fun args σ=>if oW (σ.take 10) G0=true then(l.find? fun r=>Nat.beq r.f f && AV.eqvs (r.args.map FV.av) args).map fun r=>(r.v,σ) else none
theorem D7 {l:List RunT} (hl:∀r∈l,r.Good) {f:Nat} {args:List AV} {σ σ':St} {r:AV} (h:Gv l f args σ=some (r,σ')) {μ:Mu} {w:World} {aW:Array Value} (hs:fH 10 μ σ w)(hr:aQ μ w args aW.toList) :
 Does Tryz.prog f aW w (After 10 μ σ w r σ'):=by
 unfold Gv at h
 split at h
 ·rename_i ht
  rw [Option.map_eq_some_iff] at h
  obtain⟨x,h1,h2⟩:=h
  cases h2
  have hp:=List.find?_some h1
  rw [Bool.and_eq_true] at hp
  have hx:=hl x (List.mem_of_find?_eq_some h1)
  have ha:=AV.kQ _ _ hp.2
  have hf:=Nat.eq_of_beq_eq_true hp.1
  subst hf
  rw [←ha] at hr
  have ht':σ.take G0.length=G0:=lu _ _ ht
  refine(MJ y9 TT_ok hx.run (hs.cut Pn ht') (aQ.flat _ _ hx.args hr)).mono fun e w' hq=>?_
  obtain⟨r,σ2,q1,u,xG,rfl,hu,hst⟩:=hq
  have e1:r.av=x.v:=AV.kG _ _ q1
  rw [e1] at hu
  have hb:=hst.below fun o a ho hr hl=>by rw [(lg Pn ho hl).1] at hr;cases hr
  exact⟨u,μ,rfl,aJ.flat _ _ hx.flat hu,Step.of_below hs hb⟩
 ·cases h
noncomputable def cellsB (m:Nat)(d:List FV)(t:Tr FV):List AV→Nat→Bool:=fun l=>List.rec (motive:=fun _=>Nat→Bool) (fun _=>true) (fun a _ ih i=>bC (AV.eqv (o9 m d t i).av a) (ih (Nat.succ i)) false) l
noncomputable def UE (s:GS)(o e:Nat)(l:List AV):Bool:=xk (s.t.get o) (nat_lit 0) fun ro e' n m d t=>bC ro false (bC (Nat.beq e' e) (bC (Nat.beq n l.length) (cellsB m d t l (nat_lit 0)) false) false)
theorem CQ {n m:Nat} {d:List FV} {t:Tr FV} {cs:List AV} (hc:dB n m d t cs):∀(l:List AV) (i:Nat),i+l.length≤n→cellsB m d t l i=true→cs.drop i=l ++ cs.drop (i+l.length)
 | [],i,_,_=>rfl
 | a :: l,i,hn,h=>by
   obtain⟨h1,h2⟩:=aF h
   simp only [List.length_cons] at hn
   have h3:=hc.at_ i (by omega)
   rw [AV.kG _ _ h1] at h3
   have h4:=CQ hc l (i+1) (by omega) h2
   have hlt:i<cs.length:=(List.getElem?_eq_some_iff.1 h3).1
   rw [List.drop_eq_getElem_cons hlt,h4,(List.getElem?_eq_some_iff.1 h3).2,List.length_cons,show i+1+l.length=i+(l.length+1) by omega];rfl
theorem Gw {s:GS} {σ:St} (h:s.Is σ) {o e:Nat} {l:List AV} (hk:UE s o e l=true):σ[o]? =some ⟨0,false,.cells e l⟩:=by
 obtain⟨ro,e',n,m,d,t,cs,h1,h2,h3⟩:=jJ h hk
 cases ro with
 | true=>cases h3
 | false=>
   rw [iU] at h3
   obtain⟨h4,h5⟩:=aF h3
   obtain⟨h6,h7⟩:=aF h5
   have h4:=Nat.eq_of_beq_eq_true h4
   have h6:=Nat.eq_of_beq_eq_true h6
   have h8:=CQ h2 l 0 (by omega) h7
   have hlen:=h2.len
   rw [List.drop_zero,List.drop_of_length_le (by omega),List.append_nil] at h8
   rw [h1,h4,h8]
end Go.cO.YtnbdedokjfpckaaGreatDoor
