/- Texts of this claim, joined: Abs26, Cx, Abs28. -/
import Derived.Test.YtnbdedokjfpckaaGreatDoorM08
import Derived.Test.YtnbdedokjfpckaaGreatDoorM07
import Derived.Handed
import Derived.LaidLaws
set_option linter.unusedVariables false
set_option linter.unusedSimpArgs false
namespace Go.cO
mutual
def AV.under (n:Nat):AV→Bool
 | .p o _ _=>Nat.blt o n
 | .sl o _ _ _ _=>Nat.blt o n
 | .mp o _=>Nat.blt o n
 | .fn _ a c=>AV.lQ n a && AV.lQ n c
 | .ic _ v=>v.under n
 | .cd _ v=>v.under n
 | .ag a=>AV.lQ n a
 | .tu a=>AV.lQ n a
 | _=>true
def AV.lQ (n:Nat):List AV→Bool
 | []=>true
 | a :: l=>a.under n && AV.lQ n l
end
mutual
theorem aJ.under {μ μ':Mu} {w:World} {n:Nat} (hm:∀o g,o<n→μ' o g=μ o g):∀(a:AV) (v:Value),a.under n=true→aJ μ w a v→aJ μ' w a v:=by
 intro a v hf h
 match a with
 | .u=>trivial
 | .b _ | .i _ _ | .s _ | .p0 | .sl0 | .fn0 | .gK | .qX=>simpa [aJ] using h
 | .p o g off=>
   obtain⟨b,δ,h1,h2⟩:=h
   exact⟨b,δ,by rw [hm o g (jF (by simpa [AV.under] using hf))];exact h1,h2⟩
 | .sl o g off n z=>
   obtain⟨b,δ,off',c,e,m,h1,h2⟩:=h
   exact⟨b,δ,off',c,e,m,by rw [hm o g (jF (by simpa [AV.under] using hf))];exact h1,h2⟩
 | .mp o g=>
   obtain⟨b,h1,h2⟩:=h
   exact⟨b,by rw [hm o g (jF (by simpa [AV.under] using hf))];exact h1,h2⟩
 | .fn f xs ys=>
   simp only [AV.under,Bool.and_eq_true] at hf
   obtain⟨a,c,h1,h2,h3⟩:=h
   exact⟨a,c,h1,aQ.under hm _ _ hf.1 h2,aQ.under hm _ _ hf.2 h3⟩
 | .ic t x=>obtain⟨y,h1,h2⟩:=h;exact⟨y,h1,aJ.under hm _ _ (by simpa [AV.under] using hf) h2⟩
 | .ag xs=>obtain⟨y,h1,h2⟩:=h;exact⟨y,h1,aQ.under hm _ _ (by simpa [AV.under] using hf) h2⟩
 | .tu xs=>obtain⟨y,h1,h2⟩:=h;exact⟨y,h1,aQ.under hm _ _ (by simpa [AV.under] using hf) h2⟩
 | .cd c x=>
   cases c with
   | true=>simp only [aJ,if_true] at h ⊢;exact aJ.under hm _ _ (by simpa [AV.under] using hf) h
   | false=>simpa [aJ] using h
theorem aQ.under {μ μ':Mu} {w:World} {n:Nat} (hm:∀o g,o<n→μ' o g=μ o g):∀(l:List AV) (v:List Value),AV.lQ n l=true→aQ μ w l v→aQ μ' w l v:=by
 intro l v hf h
 match l with
 | []=>simpa [aQ] using h
 | x :: xs=>
   simp only [AV.lQ,Bool.and_eq_true] at hf
   obtain⟨y,ys,h1,h2,h3⟩:=h
   exact⟨y,ys,h1,aJ.under hm _ _ hf.1 h2,aQ.under hm _ _ hf.2 h3⟩
end
theorem zq {n:Nat} :∀{l:List AV} {c:AV},AV.lQ n l=true→c∈l→c.under n=true
 | a :: l,c,h,hc=>by
   simp only [AV.lQ,Bool.and_eq_true] at h
   rcases List.mem_cons.1 hc with rfl | hc
   ·exact h.1
   ·exact zq h.2 hc
def pX (G:Nat)(σ:St):Bool:=Nat.beq σ.length G && σ.all fun a=>match a.k with
 | .cells _ cs=>a.ro && AV.lQ G cs
 | .dead=>true
 | _=>false
def BR (G:Nat)(μ:Mu):Mu:=fun o g=>if o<G then μ o g else none
section
variable {G:Nat} {G0 σ:St} {μ:Mu} {w:World}
theorem Dw (ht:σ.take G0.length=G0) {o:Nat} (ho:o<G0.length):σ[o]? =G0[o]? :=by
 have h:=congrArg (fun l=>l[o]?) ht
 simpa [List.getElem?_take,ho] using h
theorem zu (h:pX G G0=true):G0.length=G:=by
 simp only [pX,Bool.and_eq_true] at h;exact Nat.eq_of_beq_eq_true h.1
theorem lg (h:pX G G0=true) {o:Nat} {a:AO} (ho:G0[o]? =some a)(hl:a.k.live=true):a.ro=true∧∃e cs,a.k= .cells e cs∧AV.lQ G cs=true:=by
 simp only [pX,Bool.and_eq_true,List.all_eq_true] at h
 have:=h.2 a (List.mem_of_getElem? ho)
 obtain⟨g,ro,k⟩:=a
 cases k with
 | cells e cs=>simp only [Bool.and_eq_true] at this;exact⟨this.1,e,cs,rfl,this.2⟩
 | dead=>cases hl
 | iter _ _=>cases this
 | maps _=>cases this
 | sD _ _=>cases this
theorem fH.cut (hs:fH G μ σ w)(hG:pX G G0=true)(ht:σ.take G0.length=G0):fH G (BR G μ) G0 w:=by
 have hlen:=zu hG
 have hmu:∀o g,o<G→BR G μ o g=μ o g:=fun o g h=>by unfold BR;rw [if_pos h]
 have hlt:∀{o:Nat} {a:AO},G0[o]? =some a→o<G:=fun h=>by
  have:=(List.getElem?_eq_some_iff.1 h).1;omega
 refine⟨fun o a ho hl=>?_,fun o o' a a' b δ uV ho ho' hr hl hl' h1 h2=>?_,fun o g x hx=>?_,fun o g b δ hb=>?_,fun g hg=>?_,fun o b δ hb=>?_,fun g e cs hg ho=>hs.full g e cs hg (by rw [Dw ht (by omega)];exact ho)⟩
 ·obtain⟨hr,e,cs,hk,hb⟩:=lg hG ho hl
  have ho':σ[o]? =some a:=by rw [Dw ht (by have:=hlt ho;omega)];exact ho
  obtain⟨b,δ,h1,h2⟩:=hs.obj o a ho' hl
  refine⟨b,δ,by rw [hmu _ _ (hlt ho)];exact h1,?_⟩
  unfold pF at h2 ⊢
  rw [hk] at h2 ⊢
  obtain⟨dF,fr,q1,q2,q3,q4⟩:=h2
  refine⟨dF,fr,q1,q2,fun j c hj=>?_,q4⟩
  obtain⟨v,r1,r2⟩:=q3 j c hj
  exact⟨v,r1,aJ.under hmu c v (zq hb (List.mem_of_getElem? hj)) r2⟩
 ·rw [(lg hG ho hl).1] at hr;cases hr
 ·unfold BR at hx
  split at hx
  ·rename_i h
   obtain⟨a,h1,h2⟩:=hs.dom o g x hx
   exact⟨a,by rw [←Dw ht (by omega)];exact h1,h2⟩
  ·cases hx
 ·unfold BR at hb
  split at hb
  ·exact hs.blk o g b δ hb
  ·cases hb
 ·rw [hmu _ _ hg];exact hs.rC g hg
 ·unfold BR at hb
  split at hb
  ·exact hs.low _ _ _ hb
  ·cases hb
end
theorem LW {τ:gU} {t o g off e:Nat} {T:AT} {σ:St} {cs:List AV} {y:AV} (hT:τ t=some T)(ho:σ[o]? =some ⟨g,false,.cells e cs⟩)(hl:y.cells.length=T.size)(h1:y.cells.all AV.one=true)(hc:off+T.size≤cs.length) :
 f_ (τ t) (.p o g off) y σ=some (σ.set o ⟨g,false,.cells e (setCells cs off y.cells)⟩):=by
 rw [hT]
 simp only [f_,ho]
 rw [if_pos ⟨trivial,trivial,hl,h1,hc⟩]
theorem qI {τ:gU} {t o g off e:Nat} {T:AT} {σ:St} {cs:List AV} {y:AV} (cs':List AV)(hT:τ t=some T)(ho:σ[o]? =some ⟨g,false,.cells e cs⟩)(hl:y.cells.length=T.size)(h1:y.cells.all AV.one=true)(hc:off+T.size≤cs.length)(hs:setCells cs off y.cells=cs') :
 f_ (τ t) (.p o g off) y σ=some (σ.set o ⟨g,false,.cells e cs'⟩):=by
 rw [←hs];exact LW hT ho hl h1 hc
theorem bW {σ:St} {o g e:Nat} {ro:Bool} {cs:List AV} (ho:σ[o]? =some ⟨g,ro,.cells e cs⟩):fC σ o g=some cs:=by simp [fC,ho]
theorem xP (e:Nat)(cs:List AV)(σ:St):(bg e cs σ)[σ.length]? =some ⟨0,false,.cells e cs⟩:=by simp [bg]
theorem JE {e:Nat} {cs:List AV} {σ:St} {o:Nat} (h:o<σ.length):(bg e cs σ)[o]? =σ[o]? :=by rw [bg,List.getElem?_append_left h]
theorem WH {σ:St} {o:Nat} (a:AO)(h:o<σ.length):(σ.set o a)[o]? =some a:=by simp [h]
theorem JF (e:Nat)(cs:List AV)(σ:St):(bg e cs σ).length=σ.length+1:=by simp [bg]
structure Ext (σ σ':St):Prop where
 len:σ.length≤σ'.length
 old:∀i,i<σ.length→σ'[i]? =σ[i]?
theorem Ext.refl (σ:St):Ext σ σ:=⟨Nat.le_refl _,fun _ _=>rfl⟩
theorem Ext.trans {a b c:St} (h:Ext a b)(k:Ext b c):Ext a c:=⟨Nat.le_trans h.len k.len,fun i hi=>by rw [k.old i (Nat.lt_of_lt_of_le hi h.len),h.old i hi]⟩
theorem Ext.new {σ σ':St} (h:Ext σ σ')(e:Nat)(cs:List AV):Ext σ (bg e cs σ'):=⟨by rw [JF];have:=h.len;omega,fun i hi=>by rw [JE (by have:=h.len;omega),h.old i hi]⟩
theorem Ext.set {σ σ':St} (h:Ext σ σ') {o:Nat} (ho:σ.length≤o)(a:AO):Ext σ (σ'.set o a):=⟨by rw [List.length_set];exact h.len,fun i hi=>by rw [List.getElem?_set_ne (by omega),h.old i hi]⟩
theorem Ext.take {σ σ':St} (h:Ext σ σ'):σ'.take σ.length=σ:=by
 apply List.ext_getElem?
 intro i
 rw [List.getElem?_take]
 split
 ·rename_i hi;exact h.old i hi
 ·rename_i hi;exact(List.getElem?_eq_none (by omega)).symm
theorem Ext.get {σ σ':St} (h:Ext σ σ') {o:Nat} {a:AO} (ho:σ[o]? =some a):σ'[o]? =some a:=by rw [h.old o (List.getElem?_eq_some_iff.1 ho).1];exact ho
theorem lt_at {σ:St} {o:Nat} {a:AO} (h:σ[o]? =some a):o<σ.length:=(List.getElem?_eq_some_iff.1 h).1
theorem at_set {σ:St} {o:Nat} {a:AO} (h:σ[o]? =some a)(b:AO):(σ.set o b)[o]? =some b:=WH b (lt_at h)
theorem fO {α:Type} {o:Option α} {v:α} {Q:α→Prop} (h:o=some v)(q:Q v):om o Q:=by rw [h];exact q
theorem dP {τ:gU} {t o g off:Nat} {T:AT} {σ:St} {cs:List AV} {v:AV} (hT:τ t=some T)(ha:T.d.agg=false)(ho:fC σ o g=some cs)(hc:cs[off]? =some v):fG (τ t) (.p o g off) σ=some v:=by
 rw [hT]
 simp only [fG,ho,Option.bind_some,partOf,ha]
 exact hc
theorem uw {τ:gU} {t o g off:Nat} {T:AT} {σ:St} {cs:List AV} (hT:τ t=some T)(ha:T.d.agg=true)(ho:fC σ o g=some cs)(hc:off+T.size≤cs.length):fG (τ t) (.p o g off) σ=some (.ag ((cs.drop off).take T.size)):=by
 rw [hT]
 simp only [fG,ho,Option.bind_some,partOf,ha,if_true,hc]
end Go.cO
namespace Go.cO.YtnbdedokjfpckaaGreatDoor
open Go.Proofs
def pY:List (List UInt8×List UInt8):=[([],[]),([108,105],[97,105]),([108,117,105],[97,106]),([97,100,100],[97,98,99]),([115,117,98],[97,98,99]),([109,117,108],[97,98,99]),([100,105,118],[97,98,99]),([114,101,109],[97,98,99]),([97,110,100],[97,98,99]),([111,114],[97,98,99]),([120,111,114],[97,98,99]),([115,104,108],[97,98,99]),([115,104,114],[97,98,99]),([108,116],[97,98,99]),([108,116,117],[97,98,99]),([101,113],[97,98,99]),([97,100,100,105],[97,98,105]),([108,98],[97,98,105]),([108,104],[97,98,105]),([108,119],[97,98,105]),([115,98],[97,98,105]),([115,104],[97,98,105]),([115,119],[97,98,105]),([108,99],[97,98,105]),([115,99],[97,98,105]),([98,101,113],[97,98,105]),([98,110,101],[97,98,105]),([98,108,116],[97,98,105]),([98,103,101],[97,98,105]),([106,97,108],[97,106]),([106,97,108,114],[97,98]),([109,111,118,101],[97,98]),([105,110,99],[97,98,99]),([105,110,99,105],[97,98,105]),([97,100,100,114],[97,98,99]),([115,101,116],[97,98,99]),([101,120,97,99,116],[97,98,99]),([97,110,100,115],[97,98,99]),([115,101,97,108],[97,98,99]),([111,112,101,110],[97,98,99]),([98,117,105,108,100],[97,98,99]),([99,108,101,97,114],[97,98]),([103,97,100,100,114],[97,98]),([103,98,97,115,101],[97,98]),([103,108,101,110],[97,98]),([103,112,101,114,109],[97,98]),([103,116,121,112,101],[97,98]),([103,116,97,103],[97,98]),([105,115,105,110,116],[97,98]),([112,99],[97,106]),([99,97,108,108],[97,98]),([114,101,116],[]),([101,99,97,108,108],[105]),([116,114,97,112],[])]
def rowC:List AV:=pY.flatMap fun r=>[.s r.1,.s r.2]
def Pm:List AV:=Lib.pow10Tab.map (AV.i .u64)
def dead:AO:=⟨0,true,.dead⟩
def G0:St:=[⟨0,true,.cells 225 rowC⟩,dead,dead,dead,⟨0,true,.cells 66 [.ic 294 .u]⟩,dead,⟨0,true,.cells 290 Pm⟩,dead,dead,dead]
theorem Pn:pX 10 G0=true:=by decide +kernel
end Go.cO.YtnbdedokjfpckaaGreatDoor
namespace Go.cO
open Go.RowKit Go.ChangeShapes
theorem zx {H:Type} {enc:TypeId×Value→H} {a:Assume} {C:Checked} {os:Os} {f:FuncId} {fn:Func} {s:ChangeSpec} {conds:List PathCond} {apart fresh handsOn again:Bool} {X:World→Array Value→Prop}
 (hX:∀(w w':World) (args:Array Value),w.heap=w'.heap→X w args→X w' args)
 (own:ownKnob C.prog.godebug=none) (started:os.Started) (noInit:C.prog.inits.idxOf? f=none) (hfn:C.prog.funcs[f]? =some fn)
 (witness:∃(w:World) (tape:Tape) (i:Input),w.os=os∧(w.forCall tape i).Shaped C.prog∧i.vars=[]∧Input.okWide C.prog (w.forCall tape i) .any w.heap.size f i∧
  ((s.pre enc C.prog fn conds apart (w.forCall tape i).memory i.args∧X (w.forCall tape i).memory i.args)∧sizedMet enc C.prog fn (OpenSpec.ofChange s) apart (w.forCall tape i).memory i.args)∧a.holds C.prog (lone (Frame.enter C.prog f i.args .normal) [] (w.forCall tape i)))
 (contract:∀(W:World) (base:Nat) (args:Array Value) (ds gs:List (DataW H)) (before:List MemPlace),W.ShapedOpen C.prog→
  (∀(j:Nat) t v,fn.params[j]? =some t→args[j]? =some v→Value.okWide C.prog W .any base t v)→
  DataW.Whole enc C.prog fn.params.toList s.vars apart W args.toList ds gs before→X W args→
  Calls C.prog f args W fun e W'=>∃v,e= .returned v∧s.post enc C.prog fn apart fresh handsOn again W args v W') :
 ReturnsInHanded a C os f .any (fun w args=>(s.pre enc C.prog fn conds apart w args∧X w args)∧sizedMet enc C.prog fn (OpenSpec.ofChange s) apart w args) (s.post enc C.prog fn apart fresh handsOn again):=by
 refine returnsInHanded_of_calls own started noInit witness ?_
 intro w tape i _ hsh _ hok hpre _
 obtain⟨_,_,_,fn',hfn',_,_,_,_,hval⟩:=hok
 have e:fn'= fn:=Option.some.inj (hfn'.symm.trans hfn)
 subst e
 obtain⟨⟨⟨ds,gs,before,hw,_⟩,hx⟩,_⟩:=hpre
 have hw':=DataW.Whole.of_heap (w':=w.forCall tape i) (by rfl) hw
 refine(contract (w.forCall tape i) w.heap.size i.args ds gs before hsh hval hw' (hX _ _ _ (by rfl) hx)).mono fun e W' ⟨v,he,hp⟩=>?_
 subst he
 exact ChangeSpec.post_blind hp
theorem oN {P:Program} {w:World} :∀{l:List (String×DataW Unit)} {ps:List MemPlace},DataW.LaidVars P w l ps→∀n d,(n,d)∈l→∃g t cs fuel p,P.globalNamed n=some g∧(P.globals[g]?).map (·.type)=some t∧w.var? P n=some cs∧DataW.trod (fun _=>()) P w 0 (fun _=>true) false fuel t cs.toList=some (d,p)
 | [],_,_,_,_,hm=>by cases hm
 | (n',d') :: r,ps,h,n,d,hm=>by
   obtain⟨g,t,cs,fuel,p,q,h1,h2,h3,h4,h5,_⟩:=h
   rcases List.mem_cons.1 hm with e | e
   ·cases e
    exact⟨g,t,cs,fuel,p,h1,h2,h3,h4⟩
   ·exact oN h5 n d e
theorem zy {P:Program} {w:World} {n:String} {g:Nat} {cs:Array Value} (hg:P.globalNamed n=some g)(h:w.var? P n=some cs):∃t fr,w.heap[g]? =some (.cells cs t fr):=by
 simp only [World.var?,hg,Option.bind_some] at h
 split at h
 ·rename_i cs' t fr hh;cases h;exact⟨t,fr,hh⟩
 ·cases h
theorem Ii {P:Program} {w:World} (h:w.ShapedOpen P) {k:Nat} (h1:P.globals.size≤k)(h2:k<(begin P (fun _ _=>0) default).world.heap.size):k<w.heap.size:=by
 obtain⟨o,o0,h3,_⟩:=h.2 k h1 h2
 exact(Array.getElem?_eq_some_iff.1 h3).1
theorem Fh {G:Nat} {μ:Mu} {σ σ':St} {w w':World} {r:AV} {e:Ending} (hG:pX G σ=true)(h:After G μ σ w r σ' e w'):∃v μ',e= .returned v∧aJ μ' w' r v∧Below w.heap.size w w':=by
 obtain⟨v,μ',h1,h2,h3⟩:=h
 exact⟨v,μ',h1,h2,h3.below fun o a ho hr hl=>by rw [(lg hG ho hl).1] at hr;cases hr⟩
def mu0 (G:Nat):Mu:=fun o g=>if o<G∧g=0 then some (o,0) else none
end Go.cO
