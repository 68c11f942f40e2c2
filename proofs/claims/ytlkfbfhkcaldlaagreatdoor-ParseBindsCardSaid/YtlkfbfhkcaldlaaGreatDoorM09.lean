/- Texts of this claim, joined: Abs26, Abs38. -/
import Derived.Test.YtlkfbfhkcaldlaaGreatDoorM08
import Derived.Test.YtlkfbfhkcaldlaaGreatDoorM05
set_option linter.unusedVariables false
set_option linter.unusedSimpArgs false
namespace Go.Abs
mutual
def AV.under (n:Nat):AV→Bool
 | .p o _ _=>Nat.blt o n
 | .sl o _ _ _ _=>Nat.blt o n
 | .mp o _=>Nat.blt o n
 | .fn _ a c=>AV.ou n a && AV.ou n c
 | .ic _ v=>v.under n
 | .cd _ v=>v.under n
 | .ag a=>AV.ou n a
 | .tu a=>AV.ou n a
 | _=>true
def AV.ou (n:Nat):List AV→Bool
 | []=>true
 | a :: l=>a.under n && AV.ou n l
end
mutual
theorem aI.under {μ μ':Mu} {w:World} {n:Nat} (hm:∀o g,o<n→μ' o g=μ o g):∀(a:AV) (v:Value),a.under n=true→aI μ w a v→aI μ' w a v:=by
 intro a v hf h
 match a with
 | .u=>trivial
 | .b _ | .i _ _ | .s _ | .p0 | .sl0 | .fn0 | .ic0 | .mp0=>simpa [aI] using h
 | .p o g off=>
   obtain⟨b,δ,h1,h2⟩:=h
   exact⟨b,δ,by rw [hm o g (lQ (by simpa [AV.under] using hf))];exact h1,h2⟩
 | .sl o g off n z=>
   obtain⟨b,δ,off',c,e,m,h1,h2⟩:=h
   exact⟨b,δ,off',c,e,m,by rw [hm o g (lQ (by simpa [AV.under] using hf))];exact h1,h2⟩
 | .mp o g=>
   obtain⟨b,h1,h2⟩:=h
   exact⟨b,by rw [hm o g (lQ (by simpa [AV.under] using hf))];exact h1,h2⟩
 | .fn f xs ys=>
   simp only [AV.under,fJ] at hf
   obtain⟨a,c,h1,h2,h3⟩:=h
   exact⟨a,c,h1,aJ.under hm _ _ hf.1 h2,aJ.under hm _ _ hf.2 h3⟩
 | .ic t x=>obtain⟨y,h1,h2⟩:=h;exact⟨y,h1,aI.under hm _ _ (by simpa [AV.under] using hf) h2⟩
 | .ag xs=>obtain⟨y,h1,h2⟩:=h;exact⟨y,h1,aJ.under hm _ _ (by simpa [AV.under] using hf) h2⟩
 | .tu xs=>obtain⟨y,h1,h2⟩:=h;exact⟨y,h1,aJ.under hm _ _ (by simpa [AV.under] using hf) h2⟩
 | .cd c x=>
   cases c with
   | true=>simp only [aI,if_true] at h ⊢;exact aI.under hm _ _ (by simpa [AV.under] using hf) h
   | false=>simpa [aI] using h
theorem aJ.under {μ μ':Mu} {w:World} {n:Nat} (hm:∀o g,o<n→μ' o g=μ o g):∀(l:List AV) (v:List Value),AV.ou n l=true→aJ μ w l v→aJ μ' w l v:=by
 intro l v hf h
 match l with
 | []=>simpa [aJ] using h
 | x :: xs=>
   simp only [AV.ou,fJ] at hf
   obtain⟨y,ys,h1,h2,h3⟩:=h
   exact⟨y,ys,h1,aI.under hm _ _ hf.1 h2,aJ.under hm _ _ hf.2 h3⟩
end
theorem D_ {n:Nat} :∀{l:List AV} {c:AV},AV.ou n l=true→c∈l→c.under n=true
 | a :: l,c,h,hc=>by
   simp only [AV.ou,fJ] at h
   rcases List.mem_cons.1 hc with rfl | hc
   ·exact h.1
   ·exact D_ h.2 hc
def lS (G:Nat)(σ:St):Bool:=Nat.beq σ.length G && σ.all fun a=>match a.k with
 | .cells _ cs=>a.ro && AV.ou G cs
 | .dead=>true
 | _=>false
def BD (G:Nat)(μ:Mu):Mu:=fun o g=>if o<G then μ o g else none
section
variable {G:Nat} {G0 σ:St} {μ:Mu} {w:World}
theorem vC (ht:σ.take G0.length=G0) {o:Nat} (ho:o<G0.length):σ[o]? =G0[o]? :=by
 have h:=congrArg (fun l=>l[o]?) ht
 simpa [List.getElem?_take,ho] using h
theorem xI (h:lS G G0=true):G0.length=G:=by
 simp only [lS,fJ] at h;exact wJ h.1
theorem kF (h:lS G G0=true) {o:Nat} {a:AO} (ho:G0[o]? =some a)(hl:a.k.live=true):a.ro=true∧∃e cs,a.k= .cells e cs∧AV.ou G cs=true:=by
 simp only [lS,fJ,List.all_eq_true] at h
 have:=h.2 a (List.mem_of_getElem? ho)
 obtain⟨g,ro,k⟩:=a
 cases k with
 | cells e cs=>simp only [fJ] at this;exact⟨this.1,e,cs,rfl,this.2⟩
 | dead=>cases hl
 | iter _ _=>cases this
 | maps _=>cases this
 | froz _ _=>cases this
theorem g_.cut (hs:g_ G μ σ w)(hG:lS G G0=true)(ht:σ.take G0.length=G0):g_ G (BD G μ) G0 w:=by
 have hlen:=xI hG
 have hmu:∀o g,o<G→BD G μ o g=μ o g:=fun o g h=>by unfold BD;rw [if_pos h]
 have hlt:∀{o:Nat} {a:AO},G0[o]? =some a→o<G:=fun h=>by
  have:=(List.getElem?_eq_some_iff.1 h).1;omega
 refine⟨fun o a ho hl=>?_,fun o o' a a' b δ wL ho ho' hr hl hl' h1 h2=>?_,fun o g x hx=>?_,fun o g b δ hb=>?_,fun g hg=>?_,fun o b δ hb=>?_,fun g e cs hg ho=>hs.full g e cs hg (by rw [vC ht (by omega)];exact ho)⟩
 ·obtain⟨hr,e,cs,hk,hb⟩:=kF hG ho hl
  have ho':σ[o]? =some a:=by rw [vC ht (by have:=hlt ho;omega)];exact ho
  obtain⟨b,δ,h1,h2⟩:=hs.obj o a ho' hl
  refine⟨b,δ,by rw [hmu _ _ (hlt ho)];exact h1,?_⟩
  unfold wz at h2 ⊢
  rw [hk] at h2 ⊢
  obtain⟨dB,fr,q1,q2,q3,q4⟩:=h2
  refine⟨dB,fr,q1,q2,fun j c hj=>?_,q4⟩
  obtain⟨v,r1,r2⟩:=q3 j c hj
  exact⟨v,r1,aI.under hmu c v (D_ hb (List.mem_of_getElem? hj)) r2⟩
 ·rw [(kF hG ho hl).1] at hr;cases hr
 ·unfold BD at hx
  split at hx
  ·rename_i h
   obtain⟨a,h1,h2⟩:=hs.dom o g x hx
   exact⟨a,by rw [←vC ht (by omega)];exact h1,h2⟩
  ·cases hx
 ·unfold BD at hb
  split at hb
  ·exact hs.blk o g b δ hb
  ·cases hb
 ·rw [hmu _ _ hg];exact hs.xk g hg
 ·unfold BD at hb
  split at hb
  ·exact hs.low _ _ _ hb
  ·cases hb
end
structure Law (X:Ctx)(G0:St) where
 f:Nat
 g:List AV→Option AV
 ok:∀args v,g args=some v→AV.mF args=true∧v.flat=true∧au X f args G0 fun a s=>a=v∧s=G0
def UL {X:Ctx} {G0:St} (f:Nat):List (Law X G0)→Option (Law X G0)
 | []=>none
 | l :: ls=>if l.f=f then some l else UL f ls
@[reducible] def Ctx.knows (X:Ctx) (G0:St) (l:List (Law X G0)):Ctx:=⟨X.P,X.fns,fun f=>match UL f l with
  | some a=>some fun args σ=>if nU (σ.take G0.length) G0 then(a.g args).map (·,σ) else none
  | none=>X.fM f,X.meth,X.dk⟩
theorem au.law {X:Ctx} {G0:St} {l:List (Law X G0)} {f:Nat} {args:List AV} {σ:St} {Q:AV→St→Prop} (a:Law X G0)(ha:UL f l=some a) {v:AV} (hv:a.g args=some v)(ht:σ.take G0.length=G0)(q:Q v σ):au (X.knows G0 l) f args σ Q:=by
 constructor
 rw [kR (g:=fun args σ=>if nU (σ.take G0.length) G0 then(a.g args).map (·,σ) else none) (by simp only [Ctx.knows,ha])]
 exact⟨(v,σ),by simp [ht,hv],q⟩
theorem Q9 {τ:pR} {t o g off e:Nat} {T:AT} {σ:St} {cs:List AV} {y:AV} (hT:τ t=some T)(ho:σ[o]? =some ⟨g,false,.cells e cs⟩)(hl:y.cells.length=T.size)(h1:y.cells.all AV.one=true)(hc:off+T.size≤cs.length) :
 aStore (τ t) (.p o g off) y σ=some (σ.set o ⟨g,false,.cells e (setCells cs off y.cells)⟩):=by
 rw [hT]
 simp only [aStore,ho]
 rw [if_pos ⟨trivial,trivial,hl,h1,hc⟩]
theorem aC {τ:pR} {t o g off e:Nat} {T:AT} {σ:St} {cs:List AV} {y:AV} (cs':List AV)(hT:τ t=some T)(ho:σ[o]? =some ⟨g,false,.cells e cs⟩)(hl:y.cells.length=T.size)(h1:y.cells.all AV.one=true)(hc:off+T.size≤cs.length)(hs:setCells cs off y.cells=cs') :
 aStore (τ t) (.p o g off) y σ=some (σ.set o ⟨g,false,.cells e cs'⟩):=by
 rw [←hs];exact Q9 hT ho hl h1 hc
theorem ah {σ:St} {o g e:Nat} {ro:Bool} {cs:List AV} (ho:σ[o]? =some ⟨g,ro,.cells e cs⟩):cellsAt σ o g=some cs:=by simp [cellsAt,ho]
theorem aG (e:Nat)(cs:List AV)(σ:St):(newCells e cs σ)[σ.length]? =some ⟨0,false,.cells e cs⟩:=by simp [newCells]
theorem eu {e:Nat} {cs:List AV} {σ:St} {o:Nat} (h:o<σ.length):(newCells e cs σ)[o]? =σ[o]? :=by rw [newCells,List.getElem?_append_left h]
theorem YQ {σ:St} {o:Nat} (a:AO)(h:o<σ.length):(σ.set o a)[o]? =some a:=by simp [h]
theorem aH (e:Nat)(cs:List AV)(σ:St):(newCells e cs σ).length=σ.length+1:=by simp [newCells]
theorem mO (e:Nat)(cs:List AV)(σ:St):cellsAt (newCells e cs σ) σ.length 0=some cs:=by simp [cellsAt,newCells]
structure Ext (σ σ':St):Prop where
 len:σ.length≤σ'.length
 old:∀i,i<σ.length→σ'[i]? =σ[i]?
theorem Ext.refl (σ:St):Ext σ σ:=⟨Nat.le_refl _,fun _ _=>rfl⟩
theorem Ext.trans {a b c:St} (h:Ext a b)(k:Ext b c):Ext a c:=⟨Nat.le_trans h.len k.len,fun i hi=>by rw [k.old i (Nat.lt_of_lt_of_le hi h.len),h.old i hi]⟩
theorem Ext.new {σ σ':St} (h:Ext σ σ')(e:Nat)(cs:List AV):Ext σ (newCells e cs σ'):=⟨by rw [aH];have:=h.len;omega,fun i hi=>by rw [eu (by have:=h.len;omega),h.old i hi]⟩
theorem Ext.set {σ σ':St} (h:Ext σ σ') {o:Nat} (ho:σ.length≤o)(a:AO):Ext σ (σ'.set o a):=⟨by rw [gK];exact h.len,fun i hi=>by rw [rZ (by omega),h.old i hi]⟩
theorem Ext.take {σ σ':St} (h:Ext σ σ'):σ'.take σ.length=σ:=by
 apply List.ext_getElem?
 intro i
 rw [List.getElem?_take]
 split
 ·rename_i hi;exact h.old i hi
 ·rename_i hi;exact(List.getElem?_eq_none (by omega)).symm
theorem Ext.get {σ σ':St} (h:Ext σ σ') {o:Nat} {a:AO} (ho:σ[o]? =some a):σ'[o]? =some a:=by rw [h.old o (List.getElem?_eq_some_iff.1 ho).1];exact ho
theorem bK {σ:St} {o:Nat} {a:AO} (h:σ[o]? =some a):o<σ.length:=(List.getElem?_eq_some_iff.1 h).1
theorem at_new {σ:St} {o:Nat} {a:AO} (h:σ[o]? =some a)(e:Nat)(cs:List AV):(newCells e cs σ)[o]? =some a:=by rw [eu (bK h)];exact h
theorem aK {σ:St} {o o':Nat} {a:AO} (h:σ[o]? =some a)(hn:o'≠o)(b:AO):(σ.set o' b)[o]? =some a:=by rw [rZ hn];exact h
theorem at_set {σ:St} {o:Nat} {a:AO} (h:σ[o]? =some a)(b:AO):(σ.set o b)[o]? =some b:=YQ b (bK h)
theorem oC {σ:St} {o g e:Nat} {cs:List AV} (h:σ[o]? =some ⟨g,false,.cells e cs⟩):KO σ o g e=some cs:=by simp [KO,h]
theorem kG {σ:St} {o g off n z e:Nat} {ro:Bool} {cs:List AV} (h:σ[o]? =some ⟨g,ro,.cells e cs⟩)(hl:off+n*z≤cs.length):srcCells z (.sl o g off n z) σ=some (n,(cs.drop off).take (n*z)):=by
 simp [srcCells,cellsAt,h,hl]
theorem ak {α:Type} {o:Option α} {v:α} {Q:α→Prop} (h:o=some v)(q:Q v):om o Q:=by rw [h];exact q
theorem aj {τ:pR} {t o g off:Nat} {T:AT} {σ:St} {cs:List AV} {v:AV} (hT:τ t=some T)(ha:T.d.agg=false)(ho:cellsAt σ o g=some cs)(hc:cs[off]? =some v):aLoad (τ t) (.p o g off) σ=some v:=by
 rw [hT]
 simp only [aLoad,ho,Option.bind_some,partOf,ha]
 exact hc
theorem gU {τ:pR} {t o g off:Nat} {T:AT} {σ:St} {cs:List AV} (hT:τ t=some T)(ha:T.d.agg=true)(ho:cellsAt σ o g=some cs)(hc:off+T.size≤cs.length):aLoad (τ t) (.p o g off) σ=some (.ag ((cs.drop off).take T.size)):=by
 rw [hT]
 simp only [aLoad,ho,Option.bind_some,partOf,ha,if_true,hc]
end Go.Abs
namespace Go.Abs
@[reducible] def Ctx.add (X:Ctx) (f0:Nat) (g:List AV→St→Option (AV×St)):Ctx:=⟨X.P,X.fns,fun f=>match Nat.beq f f0 with | true=>some g | false=>X.fM f,X.meth,X.dk⟩
theorem Ctx.nO {X:Ctx} {G:Nat} (hX:X.Sound G)(f0:Nat)(g0:List AV→St→Option (AV×St))(hg0:∀(args:List AV) (σ:St) (r:AV) (σ':St),g0 args σ=some (r,σ')→∀(μ:Mu) (w:World) (aO:Array Value),g_ G μ σ w→aJ μ w args aO.toList→Does X.P f0 aO w (After G μ σ w r σ'))(hdk:∀f,X.dk f=true→Nat.beq f f0=false:=by first | exact fun _ h=>absurd h Bool.false_ne_true | exact fun f h=>by obtain rfl:=wJ h;rfl):(X.add f0 g0).Sound G where
 draws:=hX.draws
 SS:=fun f h=>⟨by show (match Nat.beq f f0 with | true=>some g0 | false=>X.fM f)=none;rw [hdk f h];exact(hX.SS f h).1,(hX.SS f h).2⟩
 fns:=fun f F hp hf=>hX.fns f F (by
  have hp':(match Nat.beq f f0 with | true=>some g0 | false=>X.fM f)=none:=hp
  split at hp'
  ·cases hp'
  ·exact hp') hf
 ok:={
  meth:=hX.ok.meth
  fM:=by
    intro f g hf args σ r σ' hg μ w aO hs hr
    have hf':(match Nat.beq f f0 with | true=>some g0 | false=>X.fM f)=some g:=hf
    split at hf'
    ·rename_i he
     obtain rfl:=wJ he
     cases hf'
     exact hg0 args σ r σ' hg μ w aO hs hr
    ·exact hX.ok.fM f g hf' args σ r σ' hg μ w aO hs hr }
end Go.Abs
