/- Texts of this claim, joined: Abs26, Cx, Abs28. -/
import Derived.Test.YthggaoedidfpcaaGreatDoorM08
import Derived.Test.YthggaoedidfpcaaGreatDoorM07
import Derived.Handed
import Derived.LaidLaws
set_option linter.unusedVariables false
set_option linter.unusedSimpArgs false
namespace Go.dX
mutual
def AV.under (n:Nat):AV→Bool
 | .p o _ _=>Nat.blt o n
 | .sl o _ _ _ _=>Nat.blt o n
 | .mp o _=>Nat.blt o n
 | .fn _ a c=>AV.nX n a && AV.nX n c
 | .ic _ v=>v.under n
 | .cd _ v=>v.under n
 | .ag a=>AV.nX n a
 | .tu a=>AV.nX n a
 | _=>true
def AV.nX (n:Nat):List AV→Bool
 | []=>true
 | a :: l=>a.under n && AV.nX n l
end
mutual
theorem aV.under {μ μ':Mu} {w:World} {n:Nat} (hm:∀o g,o<n→μ' o g=μ o g):∀(a:AV) (v:Value),a.under n=true→aV μ w a v→aV μ' w a v:=by
 intro a v hf h
 match a with
 | .u=>trivial
 | .b _ | .i _ _ | .s _ | .p0 | .sl0 | .fn0 | .fK | .kK=>simpa [aV] using h
 | .p o g off=>
   obtain⟨b,δ,h1,h2⟩:=h
   exact⟨b,δ,by rw [hm o g (lJ (by simpa [AV.under] using hf))];exact h1,h2⟩
 | .sl o g off n z=>
   obtain⟨b,δ,off',c,e,m,h1,h2⟩:=h
   exact⟨b,δ,off',c,e,m,by rw [hm o g (lJ (by simpa [AV.under] using hf))];exact h1,h2⟩
 | .mp o g=>
   obtain⟨b,h1,h2⟩:=h
   exact⟨b,by rw [hm o g (lJ (by simpa [AV.under] using hf))];exact h1,h2⟩
 | .fn f xs ys=>
   simp only [AV.under,Bool.and_eq_true] at hf
   obtain⟨a,c,h1,h2,h3⟩:=h
   exact⟨a,c,h1,aY.under hm _ _ hf.1 h2,aY.under hm _ _ hf.2 h3⟩
 | .ic t x=>obtain⟨y,h1,h2⟩:=h;exact⟨y,h1,aV.under hm _ _ (by simpa [AV.under] using hf) h2⟩
 | .ag xs=>obtain⟨y,h1,h2⟩:=h;exact⟨y,h1,aY.under hm _ _ (by simpa [AV.under] using hf) h2⟩
 | .tu xs=>obtain⟨y,h1,h2⟩:=h;exact⟨y,h1,aY.under hm _ _ (by simpa [AV.under] using hf) h2⟩
 | .cd c x=>
   cases c with
   | true=>simp only [aV,if_true] at h ⊢;exact aV.under hm _ _ (by simpa [AV.under] using hf) h
   | false=>simpa [aV] using h
theorem aY.under {μ μ':Mu} {w:World} {n:Nat} (hm:∀o g,o<n→μ' o g=μ o g):∀(l:List AV) (v:List Value),AV.nX n l=true→aY μ w l v→aY μ' w l v:=by
 intro l v hf h
 match l with
 | []=>simpa [aY] using h
 | x :: xs=>
   simp only [AV.nX,Bool.and_eq_true] at hf
   obtain⟨y,ys,h1,h2,h3⟩:=h
   exact⟨y,ys,h1,aV.under hm _ _ hf.1 h2,aY.under hm _ _ hf.2 h3⟩
end
theorem CJ {n:Nat} :∀{l:List AV} {c:AV},AV.nX n l=true→c∈l→c.under n=true
 | a :: l,c,h,hc=>by
   simp only [AV.nX,Bool.and_eq_true] at h
   rcases List.mem_cons.1 hc with rfl | hc
   ·exact h.1
   ·exact CJ h.2 hc
def vP (G:Nat)(σ:St):Bool:=Nat.beq σ.length G && σ.all fun a=>match a.k with
 | .cells _ cs=>a.ro && AV.nX G cs
 | .dead=>true
 | _=>false
def EW (G:Nat)(μ:Mu):Mu:=fun o g=>if o<G then μ o g else none
section
variable {G:Nat} {G0 σ:St} {μ:Mu} {w:World}
theorem GX (ht:σ.take G0.length=G0) {o:Nat} (ho:o<G0.length):σ[o]? =G0[o]? :=by
 have h:=congrArg (fun l=>l[o]?) ht
 simpa [List.getElem?_take,ho] using h
theorem LY (h:vP G G0=true):G0.length=G:=by
 simp only [vP,Bool.and_eq_true] at h;exact Nat.eq_of_beq_eq_true h.1
theorem uI (h:vP G G0=true) {o:Nat} {a:AO} (ho:G0[o]? =some a)(hl:a.k.live=true):a.ro=true∧∃e cs,a.k= .cells e cs∧AV.nX G cs=true:=by
 simp only [vP,Bool.and_eq_true,List.all_eq_true] at h
 have:=h.2 a (List.mem_of_getElem? ho)
 obtain⟨g,ro,k⟩:=a
 cases k with
 | cells e cs=>simp only [Bool.and_eq_true] at this;exact⟨this.1,e,cs,rfl,this.2⟩
 | dead=>cases hl
 | iter _ _=>cases this
 | maps _=>cases this
 | wo _ _=>cases this
theorem gQ.cut (hs:gQ G μ σ w)(hG:vP G G0=true)(ht:σ.take G0.length=G0):gQ G (EW G μ) G0 w:=by
 have hlen:=LY hG
 have hmu:∀o g,o<G→EW G μ o g=μ o g:=fun o g h=>by unfold EW;rw [if_pos h]
 have hlt:∀{o:Nat} {a:AO},G0[o]? =some a→o<G:=fun h=>by
  have:=(List.getElem?_eq_some_iff.1 h).1;omega
 refine⟨fun o a ho hl=>?_,fun o o' a a' b δ yZ ho ho' hr hl hl' h1 h2=>?_,fun o g x hx=>?_,fun o g b δ hb=>?_,fun g hg=>?_,fun o b δ hb=>?_,fun g e cs hg ho=>hs.full g e cs hg (by rw [GX ht (by omega)];exact ho)⟩
 ·obtain⟨hr,e,cs,hk,hb⟩:=uI hG ho hl
  have ho':σ[o]? =some a:=by rw [GX ht (by have:=hlt ho;omega)];exact ho
  obtain⟨b,δ,h1,h2⟩:=hs.obj o a ho' hl
  refine⟨b,δ,by rw [hmu _ _ (hlt ho)];exact h1,?_⟩
  unfold rV at h2 ⊢
  rw [hk] at h2 ⊢
  obtain⟨dZ,fr,q1,q2,q3,q4⟩:=h2
  refine⟨dZ,fr,q1,q2,fun j c hj=>?_,q4⟩
  obtain⟨v,r1,r2⟩:=q3 j c hj
  exact⟨v,r1,aV.under hmu c v (CJ hb (List.mem_of_getElem? hj)) r2⟩
 ·rw [(uI hG ho hl).1] at hr;cases hr
 ·unfold EW at hx
  split at hx
  ·rename_i h
   obtain⟨a,h1,h2⟩:=hs.dom o g x hx
   exact⟨a,by rw [←GX ht (by omega)];exact h1,h2⟩
  ·cases hx
 ·unfold EW at hb
  split at hb
  ·exact hs.blk o g b δ hb
  ·cases hb
 ·rw [hmu _ _ hg];exact hs.qI g hg
 ·unfold EW at hb
  split at hb
  ·exact hs.low _ _ _ hb
  ·cases hb
end
structure Law (X:Ctx)(G0:St) where
 f:Nat
 g:List AV→Option AV
 ok:∀args v,g args=some v→AV.AU args=true∧v.flat=true∧nV X f args G0 fun a s=>a=v∧s=G0
def UQ {X:Ctx} {G0:St} (f:Nat):List (Law X G0)→Option (Law X G0)
 | []=>none
 | l :: ls=>if l.f=f then some l else UQ f ls
@[reducible] def Ctx.knows (X:Ctx) (G0:St) (l:List (Law X G0)):Ctx:=⟨X.P,X.fns,fun f=>match UQ f l with
  | some a=>some fun args σ=>if uY (σ.take G0.length) G0 then(a.g args).map (·,σ) else none
  | none=>X.lg f,X.meth,X.dk⟩
theorem nV.law {X:Ctx} {G0:St} {l:List (Law X G0)} {f:Nat} {args:List AV} {σ:St} {Q:AV→St→Prop} (a:Law X G0)(ha:UQ f l=some a) {v:AV} (hv:a.g args=some v)(ht:σ.take G0.length=G0)(q:Q v σ):nV (X.knows G0 l) f args σ Q:=by
 constructor
 rw [Rf (g:=fun args σ=>if uY (σ.take G0.length) G0 then(a.g args).map (·,σ) else none) (by simp only [Ctx.knows,ha])]
 exact⟨(v,σ),by simp [ht,hv],q⟩
theorem get_old {e:Nat} {cs:List AV} {σ:St} {o:Nat} (h:o<σ.length):(dD e cs σ)[o]? =σ[o]? :=by rw [dD,List.getElem?_append_left h]
theorem len_new (e:Nat)(cs:List AV)(σ:St):(dD e cs σ).length=σ.length+1:=by simp [dD]
structure Ext (σ σ':St):Prop where
 len:σ.length≤σ'.length
 old:∀i,i<σ.length→σ'[i]? =σ[i]?
theorem Ext.refl (σ:St):Ext σ σ:=⟨Nat.le_refl _,fun _ _=>rfl⟩
theorem Ext.trans {a b c:St} (h:Ext a b)(k:Ext b c):Ext a c:=⟨Nat.le_trans h.len k.len,fun i hi=>by rw [k.old i (Nat.lt_of_lt_of_le hi h.len),h.old i hi]⟩
theorem Ext.new {σ σ':St} (h:Ext σ σ')(e:Nat)(cs:List AV):Ext σ (dD e cs σ'):=⟨by rw [len_new];have:=h.len;omega,fun i hi=>by rw [get_old (by have:=h.len;omega),h.old i hi]⟩
theorem Ext.set {σ σ':St} (h:Ext σ σ') {o:Nat} (ho:σ.length≤o)(a:AO):Ext σ (σ'.set o a):=⟨by rw [List.length_set];exact h.len,fun i hi=>by rw [List.getElem?_set_ne (by omega),h.old i hi]⟩
theorem Ext.take {σ σ':St} (h:Ext σ σ'):σ'.take σ.length=σ:=by
 apply List.ext_getElem?
 intro i
 rw [List.getElem?_take]
 split
 ·rename_i hi;exact h.old i hi
 ·rename_i hi;exact(List.getElem?_eq_none (by omega)).symm
theorem Ext.get {σ σ':St} (h:Ext σ σ') {o:Nat} {a:AO} (ho:σ[o]? =some a):σ'[o]? =some a:=by rw [h.old o (List.getElem?_eq_some_iff.1 ho).1];exact ho
end Go.dX
namespace Go.dX.YthggaoedidfpcaaGreatDoor
open Go.Proofs
def NU:List AV:=[.i .u8 0,.i .u8 0,.i .u8 0,.i .u8 0,.i .u8 0,.i .u8 0,.i .u8 0,.i .u8 0,.i .u8 0,.i .u8 1,.i .u8 1,.i .u8 1,.i .u8 1,.i .u8 1,.i .u8 0,.i .u8 0,.i .u8 0,.i .u8 0,.i .u8 0,.i .u8 0,.i .u8 0,.i .u8 0,.i .u8 0,.i .u8 0,.i .u8 0,.i .u8 0,.i .u8 0,.i .u8 0,.i .u8 0,.i .u8 0,.i .u8 0,.i .u8 0,.i .u8 1,.i .u8 0,.i .u8 0,.i .u8 0,.i .u8 0,.i .u8 0,.i .u8 0,.i .u8 0,.i .u8 0,.i .u8 0,.i .u8 0,.i .u8 0,.i .u8 0,.i .u8 0,.i .u8 0,.i .u8 0,.i .u8 0,.i .u8 0,.i .u8 0,.i .u8 0,.i .u8 0,.i .u8 0,.i .u8 0,.i .u8 0,.i .u8 0,.i .u8 0,.i .u8 0,.i .u8 0,.i .u8 0,.i .u8 0,.i .u8 0,.i .u8 0,.i .u8 0,.i .u8 0,.i .u8 0,.i .u8 0,.i .u8 0,.i .u8 0,.i .u8 0,.i .u8 0,.i .u8 0,.i .u8 0,.i .u8 0,.i .u8 0,.i .u8 0,.i .u8 0,.i .u8 0,.i .u8 0,.i .u8 0,.i .u8 0,.i .u8 0,.i .u8 0,.i .u8 0,.i .u8 0,.i .u8 0,.i .u8 0,.i .u8 0,.i .u8 0,.i .u8 0,.i .u8 0,.i .u8 0,.i .u8 0,.i .u8 0,.i .u8 0,.i .u8 0,.i .u8 0,.i .u8 0,.i .u8 0,.i .u8 0,.i .u8 0,.i .u8 0,.i .u8 0,.i .u8 0,.i .u8 0,.i .u8 0,.i .u8 0,.i .u8 0,.i .u8 0,.i .u8 0,.i .u8 0,.i .u8 0,.i .u8 0,.i .u8 0,.i .u8 0,.i .u8 0,.i .u8 0,.i .u8 0,.i .u8 0,.i .u8 0,.i .u8 0,.i .u8 0,.i .u8 0,.i .u8 0,.i .u8 0,.i .u8 0,.i .u8 0,.i .u8 0,.i .u8 0,.i .u8 0,.i .u8 0,.i .u8 0,.i .u8 0,.i .u8 0,.i .u8 0,.i .u8 0,.i .u8 0,.i .u8 0,.i .u8 0,.i .u8 0,.i .u8 0,.i .u8 0,.i .u8 0,.i .u8 0,.i .u8 0,.i .u8 0,.i .u8 0,.i .u8 0,.i .u8 0,.i .u8 0,.i .u8 0,.i .u8 0,.i .u8 0,.i .u8 0,.i .u8 0,.i .u8 0,.i .u8 0,.i .u8 0,.i .u8 0,.i .u8 0,.i .u8 0,.i .u8 0,.i .u8 0,.i .u8 0,.i .u8 0,.i .u8 0,.i .u8 0,.i .u8 0,.i .u8 0,.i .u8 0,.i .u8 0,.i .u8 0,.i .u8 0,.i .u8 0,.i .u8 0,.i .u8 0,.i .u8 0,.i .u8 0,.i .u8 0,.i .u8 0,.i .u8 0,.i .u8 0,.i .u8 0,.i .u8 0,.i .u8 0,.i .u8 0,.i .u8 0,.i .u8 0,.i .u8 0,.i .u8 0,.i .u8 0,.i .u8 0,.i .u8 0,.i .u8 0,.i .u8 0,.i .u8 0,.i .u8 0,.i .u8 0,.i .u8 0,.i .u8 0,.i .u8 0,.i .u8 0,.i .u8 0,.i .u8 0,.i .u8 0,.i .u8 0,.i .u8 0,.i .u8 0,.i .u8 0,.i .u8 0,.i .u8 0,.i .u8 0,.i .u8 0,.i .u8 0,.i .u8 0,.i .u8 0,.i .u8 0,.i .u8 0,.i .u8 0,.i .u8 0,.i .u8 0,.i .u8 0,.i .u8 0,.i .u8 0,.i .u8 0,.i .u8 0,.i .u8 0,.i .u8 0,.i .u8 0,.i .u8 0,.i .u8 0,.i .u8 0,.i .u8 0,.i .u8 0,.i .u8 0,.i .u8 0,.i .u8 0,.i .u8 0,.i .u8 0,.i .u8 0,.i .u8 0,.i .u8 0,.i .u8 0,.i .u8 0,.i .u8 0,.i .u8 0,.i .u8 0,.i .u8 0,.i .u8 0,.i .u8 0,.i .u8 0,.i .u8 0,.i .u8 0,.i .u8 0,.i .u8 0]
def tq:List (List UInt8×List UInt8):=[([],[]),([108,105],[97,105]),([108,117,105],[97,106]),([97,100,100],[97,98,99]),([115,117,98],[97,98,99]),([109,117,108],[97,98,99]),([100,105,118],[97,98,99]),([114,101,109],[97,98,99]),([97,110,100],[97,98,99]),([111,114],[97,98,99]),([120,111,114],[97,98,99]),([115,104,108],[97,98,99]),([115,104,114],[97,98,99]),([108,116],[97,98,99]),([108,116,117],[97,98,99]),([101,113],[97,98,99]),([97,100,100,105],[97,98,105]),([108,98],[97,98,105]),([108,104],[97,98,105]),([108,119],[97,98,105]),([115,98],[97,98,105]),([115,104],[97,98,105]),([115,119],[97,98,105]),([108,99],[97,98,105]),([115,99],[97,98,105]),([98,101,113],[97,98,105]),([98,110,101],[97,98,105]),([98,108,116],[97,98,105]),([98,103,101],[97,98,105]),([106,97,108],[97,106]),([106,97,108,114],[97,98]),([109,111,118,101],[97,98]),([105,110,99],[97,98,99]),([105,110,99,105],[97,98,105]),([97,100,100,114],[97,98,99]),([115,101,116],[97,98,99]),([101,120,97,99,116],[97,98,99]),([97,110,100,115],[97,98,99]),([115,101,97,108],[97,98,99]),([111,112,101,110],[97,98,99]),([98,117,105,108,100],[97,98,99]),([99,108,101,97,114],[97,98]),([103,97,100,100,114],[97,98]),([103,98,97,115,101],[97,98]),([103,108,101,110],[97,98]),([103,112,101,114,109],[97,98]),([103,116,121,112,101],[97,98]),([103,116,97,103],[97,98]),([105,115,105,110,116],[97,98]),([112,99],[97,106]),([99,97,108,108],[97,98]),([114,101,116],[]),([101,99,97,108,108],[105]),([116,114,97,112],[])]
def rowC:List AV:=tq.flatMap fun r=>[.s r.1,.s r.2]
def UR:List AV:=Lib.pow10Tab.map (AV.i .u64)
def dead:AO:=⟨0,true,.dead⟩
def G0:St:=[⟨0,true,.cells 73 [.ic 117 (.ag [.p 11 0 24])]⟩,⟨0,true,.cells 247 NU⟩,dead,dead,⟨0,true,.cells 24 [.ic 296 .u]⟩,⟨0,true,.cells 24 [.ic 296 .u]⟩,⟨0,true,.cells 284 rowC⟩,⟨0,true,.cells 312 UR⟩,dead,dead,dead,dead]
theorem okG0:vP 12 G0=true:=by decide +kernel
end Go.dX.YthggaoedidfpcaaGreatDoor
namespace Go.dX
open Go.RowKit Go.ChangeShapes
theorem CO {H:Type} {enc:TypeId×Value→H} {a:Assume} {C:Checked} {os:Os} {f:FuncId} {fn:Func} {s:ChangeSpec} {conds:List PathCond} {apart fresh handsOn again:Bool} {X:World→Array Value→Prop}
 (hX:∀(w w':World) (args:Array Value),w.heap=w'.heap→X w args→X w' args)
 (own:ownKnob C.prog.godebug=none) (started:os.Started) (noInit:C.prog.inits.idxOf? f=none) (hfn:C.prog.funcs[f]? =some fn)
 (witness:∃(w:World) (tape:Tape) (i:Input),w.os=os∧(w.forCall tape i).Shaped C.prog∧i.vars=[]∧Input.okWide C.prog (w.forCall tape i) .any w.heap.size f i∧
  ((s.pre enc C.prog fn conds apart (w.forCall tape i).memory i.args∧X (w.forCall tape i).memory i.args)∧sizedMet enc C.prog fn (OpenSpec.ofChange s) apart (w.forCall tape i).memory i.args)∧a.holds C.prog (lone (Frame.enter C.prog f i.args .normal) [] (w.forCall tape i)))
 (contract:∀(W:World) (base:Nat) (args:Array Value) (ds gs:List (DataW H)) (before:List MemPlace),W.ShapedOpen C.prog→
  (∀(j:Nat) t v,fn.params[j]? =some t→args[j]? =some v→Value.okWide C.prog W .any base t v)→
  DataW.Whole enc C.prog fn.params.toList s.vars apart W args.toList ds gs before→X W args→
  Calls C.prog f args W fun e W'=>∃v,e= .returned v∧s.post enc C.prog fn apart fresh handsOn again W args v W') :
 ReturnsInHanded a C os f .any (fun w args=>(s.pre enc C.prog fn conds apart w args∧X w args)∧sizedMet enc C.prog fn (OpenSpec.ofChange s) apart w args) (s.post enc C.prog fn apart fresh handsOn again):=by
 refine returnsInHanded_of_calls own started noInit witness ?_
 intro w tape i _ hsh _ hok hpre _
 obtain⟨_,_,_,fn',hfn',_,_,_,_,hval⟩:=hok
 have e:fn'= fn:=Option.some.inj (hfn'.symm.trans hfn)
 subst e
 obtain⟨⟨⟨ds,gs,before,hw,_⟩,hx⟩,_⟩:=hpre
 have hw':=DataW.Whole.of_heap (w':=w.forCall tape i) (by rfl) hw
 refine(contract (w.forCall tape i) w.heap.size i.args ds gs before hsh hval hw' (hX _ _ _ (by rfl) hx)).mono fun e W' ⟨v,he,hp⟩=>?_
 subst he
 exact ChangeSpec.post_blind hp
theorem lK {P:Program} {w:World} :∀{l:List (String×DataW Unit)} {ps:List MemPlace},DataW.LaidVars P w l ps→∀n d,(n,d)∈l→∃g t cs fuel p,P.globalNamed n=some g∧(P.globals[g]?).map (·.type)=some t∧w.var? P n=some cs∧DataW.trod (fun _=>()) P w 0 (fun _=>true) false fuel t cs.toList=some (d,p)
 | [],_,_,_,_,hm=>by cases hm
 | (n',d') :: r,ps,h,n,d,hm=>by
   obtain⟨g,t,cs,fuel,p,q,h1,h2,h3,h4,h5,_⟩:=h
   rcases List.mem_cons.1 hm with e | e
   ·cases e
    exact⟨g,t,cs,fuel,p,h1,h2,h3,h4⟩
   ·exact lK h5 n d e
theorem qx {P:Program} {w:World} {n:String} {g:Nat} {cs:Array Value} (hg:P.globalNamed n=some g)(h:w.var? P n=some cs):∃t fr,w.heap[g]? =some (.cells cs t fr):=by
 simp only [World.var?,hg,Option.bind_some] at h
 split at h
 ·rename_i cs' t fr hh;cases h;exact⟨t,fr,hh⟩
 ·cases h
theorem LZ {P:Program} {w:World} (h:w.ShapedOpen P) {k:Nat} (h1:P.globals.size≤k)(h2:k<(begin P (fun _ _=>0) default).world.heap.size):k<w.heap.size:=by
 obtain⟨o,o0,h3,_⟩:=h.2 k h1 h2
 exact(Array.getElem?_eq_some_iff.1 h3).1
theorem Jv {G:Nat} {μ:Mu} {σ σ':St} {w w':World} {r:AV} {e:Ending} (hG:vP G σ=true)(h:After G μ σ w r σ' e w'):∃v μ',e= .returned v∧aV μ' w' r v∧Below w.heap.size w w':=by
 obtain⟨v,μ',h1,h2,h3⟩:=h
 exact⟨v,μ',h1,h2,h3.below fun o a ho hr hl=>by rw [(uI hG ho hl).1] at hr;cases hr⟩
def mu0 (G:Nat):Mu:=fun o g=>if o<G∧g=0 then some (o,0) else none
end Go.dX
