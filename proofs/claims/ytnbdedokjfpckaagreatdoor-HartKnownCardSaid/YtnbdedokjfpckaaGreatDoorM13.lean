/- Texts of this claim, joined: Abs46, Abs47, Abs48, Abs49, Abs50, Abs51, Abs52. -/
import Derived.Test.YtnbdedokjfpckaaGreatDoorM12
import Derived.Test.YtnbdedokjfpckaaGreatDoorM08
import Derived.Laws.RangeString
set_option linter.unusedVariables false
set_option linter.unusedSimpArgs false
namespace Go.dD
noncomputable def b2n (x:Bool):Nat:=Bool.rec (motive:=fun _=>Nat) (nat_lit 0) (nat_lit 1) x
noncomputable def ofFn (f:Fn)(a c:List FV):FV:=match f with
 | .func k=>.c (nat_lit 3) k [.c (nat_lit 0) (nat_lit 0) a,.c (nat_lit 0) (nat_lit 0) c]
 | _=>.n (nat_lit 0) (nat_lit 0)
noncomputable def Ci (f:Fn):Bool:=match f with
 | .func _=>true
 | _=>false
noncomputable def vT:AV→FV:=AV.rec (motive_1:=fun _=>FV) (motive_2:=fun _=>List FV) (.n (nat_lit 0) (nat_lit 0)) (fun x=>.n (nat_lit 1) (b2n x)) (fun k n=>.n (tg k) (n%2^k.bits).toNat) (fun x=>.s x.length (pk x)) (.n (nat_lit 2) (nat_lit 0)) .p (.n (nat_lit 3) (nat_lit 0)) .sl (fun f _ _ a c=>ofFn f a c) (.n (nat_lit 4) (nat_lit 0)) (fun t _ v=>.c (nat_lit 2) t [v]) (.n (nat_lit 5) (nat_lit 0)) (fun _ l=>.c (nat_lit 0) (nat_lit 0) l) (fun _ l=>.c (nat_lit 1) (nat_lit 0) l) (.n (nat_lit 6) (nat_lit 0)) (fun o _=>.c (nat_lit 5) o []) (fun c _ v=>.c (nat_lit 4) (b2n c) [v]) [] (fun _ _ a l=>a :: l)
noncomputable def dY:List AV→List FV:=AV.rec_1 (motive_1:=fun _=>FV) (motive_2:=fun _=>List FV) (.n (nat_lit 0) (nat_lit 0)) (fun x=>.n (nat_lit 1) (b2n x)) (fun k n=>.n (tg k) (n%2^k.bits).toNat) (fun x=>.s x.length (pk x)) (.n (nat_lit 2) (nat_lit 0)) .p (.n (nat_lit 3) (nat_lit 0)) .sl (fun f _ _ a c=>ofFn f a c) (.n (nat_lit 4) (nat_lit 0)) (fun t _ v=>.c (nat_lit 2) t [v]) (.n (nat_lit 5) (nat_lit 0)) (fun _ l=>.c (nat_lit 0) (nat_lit 0) l) (fun _ l=>.c (nat_lit 1) (nat_lit 0) l) (.n (nat_lit 6) (nat_lit 0)) (fun o _=>.c (nat_lit 5) o []) (fun c _ v=>.c (nat_lit 4) (b2n c) [v]) [] (fun _ _ a l=>a :: l)
noncomputable def Ko:AV→Bool:=AV.rec (motive_1:=fun _=>Bool) (motive_2:=fun _=>Bool) true (fun _=>true) (fun k n=>decide (k.wrap n=n)) (fun _=>true) true (fun _ _ _=>true) true (fun _ _ _ _ _=>true) (fun f _ _ a c=>bC (Ci f) (bC a c false) false) true (fun _ _ v=>v) true (fun _ l=>l) (fun _ l=>l) true (fun _ g=>Nat.beq g (nat_lit 0)) (fun _ _ v=>v) true (fun _ _ a l=>bC a l false)
noncomputable def qg:List AV→Bool:=AV.rec_1 (motive_1:=fun _=>Bool) (motive_2:=fun _=>Bool) true (fun _=>true) (fun k n=>decide (k.wrap n=n)) (fun _=>true) true (fun _ _ _=>true) true (fun _ _ _ _ _=>true) (fun f _ _ a c=>bC (Ci f) (bC a c false) false) true (fun _ _ v=>v) true (fun _ l=>l) (fun _ l=>l) true (fun _ g=>Nat.beq g (nat_lit 0)) (fun _ _ v=>v) true (fun _ _ a l=>bC a l false)
mutual
theorem jW:∀v:AV,Ko v=true→(vT v).av=v:=by
 intro v h
 match v with
 | .u | .p0 | .sl0 | .fn0 | .gq | .qP | .p _ _ _ | .sl _ _ _ _ _=>rfl
 | .b x=>cases x <;> rfl
 | .i k n=>
   have h':decide (k.wrap n=n)=true:=h
   have h':=of_decide_eq_true h'
   show jR (tg k) _=_
   rw [jl,wrap_eq,h']
 | .s x=>show AV.s (eF x.length (pk x))=_;rw [II]
 | .fn f a c=>
   have h':bC (Ci f) (bC (qg a) (qg c) false) false=true:=h
   obtain⟨h1,h'⟩:=aF h'
   obtain⟨h2,h3⟩:=aF h'
   unfold Ci at h1
   split at h1
   ·rename_i k
    show FV.av (.c 3 k [.c 0 0 (dY a),.c 0 0 (dY c)])=_
    rw [FV.BP,FV.uD]
    simp only [List.map_cons,List.map_nil,oJ]
    rw [fQ a h2,fQ c h3];rfl
   ·cases h1
 | .ic t x=>show FV.av (.c 2 t [vT x])=_;rw [Ed,jW x h]
 | .ag l=>show FV.av (.c 0 0 (dY l))=_;rw [oJ,fQ l h]
 | .tu l=>show FV.av (.c 1 0 (dY l))=_;rw [vF,fQ l h]
 | .mp o g=>
   have h':Nat.beq g 0=true:=h
   rw [Nat.eq_of_beq_eq_true h'];rfl
 | .cd c x=>
   have e:=jW x h
   show FV.av (.c 4 (b2n c) [vT x])=_
   cases c
   ·show AV.cd false (vT x).av=_;rw [e]
   ·show AV.cd true (vT x).av=_;rw [e]
theorem fQ:∀l:List AV,qg l=true→(dY l).map FV.av=l:=by
 intro l h
 match l with
 | []=>rfl
 | a :: l=>
   have h':bC (Ko a) (qg l) false=true:=h
   obtain⟨h1,h2⟩:=aF h'
   show (vT a).av :: (dY l).map FV.av=_
   rw [jW a h1,fQ l h2]
end
abbrev dU:=List (Nat×FV)
noncomputable def jf:dU→Nat→FV:=List.rec (motive:=fun _=>Nat→FV) (fun _=>.n (nat_lit 0) (nat_lit 0)) (fun p _ ih n=>bC (Nat.beq p.1 n) p.2 (ih n))
noncomputable def fV (e:dU):Env:=e.map fun p=>(p.1,p.2.av)
theorem gY:∀(e:dU) (n:Nat),(jf e n).av=get (fV e) n
 | [],_=>rfl
 | (d,v) :: e,n=>by
   show (bC (Nat.beq d n) v (jf e n)).av=if d=n then v.av else get (fV e) n
   cases hb:Nat.beq d n with
   | true=>rw [if_pos (Nat.eq_of_beq_eq_true hb)]
   | false=>rw [if_neg (Nat.ne_of_beq_eq_false hb)];exact gY e n
noncomputable def EW (e:dU):bG→FV:=bG.rec (motive:=fun _=>FV) (fun n=>jf e n) (fun v=>vT v)
noncomputable def OJ (e:dU):bG→FV:=bG.rec (motive:=fun _=>FV) (fun n=>ay (jf e n)) (fun v=>vT v)
noncomputable def notCd:AV→Bool
 | .cd _ _=>false
 | _=>true
noncomputable def qJ:bG→Bool:=bG.rec (motive:=fun _=>Bool) (fun _=>true) (fun v=>bC (Ko v) (notCd v) false)
theorem oN {e:dU} {o:bG} (h:qJ o=true):(EW e o).av=o.ev (fV e):=by
 cases o with
 | t n=>exact gY e n
 | c v=>exact jW v (aF h).1
theorem Gz {e:dU} {o:bG} (h:qJ o=true):(OJ e o).av=(o.ev (fV e)).val:=by
 cases o with
 | t n=>show (ay (jf e n)).av=_;rw [wK,gY];rfl
 | c v=>
   have h1:=jW v (aF h).1
   have h2:=(aF h).2
   show (vT v).av=v.val
   rw [h1]
   cases v <;> first | rfl | cases h2
noncomputable abbrev oO (e:dU) (B:Bool):List bG→Bool:=List.rec (motive:=fun _=>Bool) B (fun o _ ih=>bG.rec (motive:=fun _=>Bool) (fun n=>bC (au (jf e n)) ih false) (fun _=>ih) o)
theorem tq {e:dU} {B:Bool} :∀(l:List bG) (_:l.all qJ=true) (_:oO e B l=true),l.all (fun o=>(o.ev (fV e)).cnd)=true∧B=true
 | [],_,h=>⟨rfl,h⟩
 | .t n :: l,ho,h=>by
   simp only [List.all_cons,Bool.and_eq_true] at ho
   have h':bC (au (jf e n)) (oO e B l) false=true:=h
   obtain⟨h1,h2⟩:=aF h'
   obtain⟨h3,h4⟩:=tq l ho.2 h2
   rw [wL,gY] at h1
   refine⟨?_,h4⟩
   simp only [List.all_cons,h3,Bool.and_true]
   exact h1
 | .c v :: l,ho,h=>by
   simp only [List.all_cons,Bool.and_eq_true] at ho
   obtain⟨h3,h4⟩:=tq l ho.2 h
   refine⟨?_,h4⟩
   simp only [List.all_cons,h3,Bool.and_true]
   have h2:=(aF ho.1).2
   show v.cnd=true
   cases v <;> first | rfl | cases h2
theorem nO {X:Ctx} {run:Run} {ρ ρ':bG→AV} {op:dA} (h:∀o∈op.bM,ρ o=ρ' o)(σ:St):cO X run ρ op σ=cO X run ρ' op σ:=by
 have hl:∀(l:List bG),(∀o∈l,ρ o=ρ' o)→l.map ρ=l.map ρ':=fun l hh=>List.map_congr_left hh
 have ho:∀(l:Option bG),(∀o∈l.toList,ρ o=ρ' o)→l.map ρ=l.map ρ':=fun l hh=>by
  cases l with
  | none=>rfl
  | some x=>simp only [Option.map_some];rw [hh x (by simp)]
 have hp:∀(l:List (Nat×bG)),(∀o∈l.map (·.2),ρ o=ρ' o)→l.map (fun q=>(q.1,ρ q.2))=l.map (fun q=>(q.1,ρ' q.2)):=fun l hh=>List.map_congr_left fun q hq=>by rw [hh q.2 (List.mem_map_of_mem hq)]
 cases op <;> simp only [dA.bM,List.mem_cons,List.mem_nil_iff,or_false,forall_eq,forall_eq_or_imp,List.mem_append] at h <;> simp only [cO,dL]
 case mv=>rw [h]
 case pick=>rw [h.1,h.2.1,h.2.2]
 case box=>rw [h]
 case build=>rw [hp _ h]
 case zG=>rw [hp _ h]
 case load=>rw [h]
 case store=>rw [h.1,h.2]
 case gZ=>rw [h]
 case bin=>rw [h.1,h.2]
 case un=>rw [h]
 case conv=>rw [h]
 case Tm=>rw [h]
 case vX=>rw [hl _ (fun o ho=>h o (.inl ho)),hl _ (fun o ho=>h o (.inr ho))]
 case G9=>rw [h.1,h.2]
 case slc=>rw [h.1,ho _ (fun o q=>h.2 o (.inl q)),ho _ (fun o q=>h.2 o (.inr q))]
 case kW=>rw [h]
 case vI=>rw [h]
 case g_=>rw [h.1,h.2]
 case idx=>rw [h.1,h.2]
 case rng=>rw [h]
 case Jc=>rw [h]
 case Tn=>rw [h]
 case ext=>rw [h]
 case call=>rw [h.1,hl _ h.2]
 case inv=>rw [h.1,hl _ h.2]
 case len=>rw [h]
 case app=>rw [h.1,h.2]
 case copy=>rw [h.1,h.2]
 case mn=>rw [hl _ h]
 case S9=>rw [ho _ h]
 case EY=>rw [h.1,h.2]
 case KN=>rw [h.1,h.2.1,h.2.2]
 case del=>rw [h.1,h.2]
 case YE=>rw [h]
 case sl3=>rw [h.1,h.2.1,h.2.2.1,ho _ h.2.2.2]
 case vY=>rw [h]
end Go.dD
namespace Go.dD
noncomputable def md:IntKind→Nat
 | .i8=>256 | .i16=>65536 | .i32=>4294967296 | .i64=>18446744073709551616
 | .u8=>256 | .u16=>65536 | .u32=>4294967296 | .u64=>18446744073709551616
theorem AB (k:IntKind):md k=2^k.bits:=by cases k <;> rfl
noncomputable def nthO:List FV→Nat→KF→Bool:=List.rec (motive:=fun _=>Nat→KF→Bool) (fun _ _=>false) (fun a _ ih k=>Nat.rec (motive:=fun _=>KF→Bool) (fun K=>K a) (fun k _ K=>ih k K) k)
theorem Cj:∀(l:List FV) (k:Nat) {K:KF} (_:nthO l k K=true),∃v,l[k]? =some v∧K v=true
 | [],_,_,h=>by cases h
 | a :: l,0,K,h=>⟨a,rfl,h⟩
 | a :: l,k+1,K,h=>Cj l k h
noncomputable def aZ (i:Nat)(x:FV)(K:KF):Bool:=match x with
 | .c 1 _ l=>nthO l i K
 | _=>false
noncomputable def aH (off:Nat)(x:FV)(K:KF):Bool:=match x with
 | .p o g b=>K (.p o g (Nat.add b off))
 | _=>false
noncomputable def mP (off:Nat)(x:FV)(K:KF):Bool:=match x with
 | .c 0 _ l=>nthO l off K
 | _=>false
noncomputable def AL (off z:Nat)(x:FV)(K:KF):Bool:=match x with
 | .c 0 _ l=>bC (Nat.ble (Nat.add off z) l.length) (Y0 (IX z (Et off l)) fun l=>K (.c (nat_lit 0) (nat_lit 0) l)) false
 | _=>false
noncomputable def iF (n z:Nat)(x i:FV)(K:KF):Bool:=match x with
 | .p o g b=>pO i fun j=>bC (Nat.ble (Nat.succ j) n) (K (.p o g (Nat.add b (Nat.mul j z)))) false
 | _=>false
noncomputable def eY (z:Nat)(x i:FV)(K:KF):Bool:=match x with
 | .sl o g b n z'=>bC (Nat.beq z' z) (pO i fun j=>bC (Nat.ble (Nat.succ j) n) (K (.p o g (Nat.add b (Nat.mul j z)))) false) false
 | _=>false
noncomputable def fK (x:FV)(K:KF):Bool:=match x with
 | .n t v=>bC (Nat.beq t (nat_lit 1)) (Nat.rec (motive:=fun _=>KF→Bool) (fun K=>K (.n (nat_lit 1) (nat_lit 1))) (fun _ _ K=>K (.n (nat_lit 1) (nat_lit 0))) v K) false
 | _=>false
noncomputable def aY (x:FV)(K:KF):Bool:=match x with
 | .p o g off=>K (.p o g off)
 | .c 2 t [v]=>K (.c 2 t [v])
 | .c 3 k l=>K (.c 3 k l)
 | _=>false
noncomputable def OL (t:Nat)(x:FV)(K:Bool→Bool):Bool:=match x with
 | .n t' _=>bC (Nat.beq t' t) (K true) false
 | .p _ _ _=>bC (Nat.beq t (nat_lit 2)) (K false) false
 | .sl _ _ _ _ _=>bC (Nat.beq t (nat_lit 3)) (K false) false
 | .c 3 _ _=>bC (Nat.beq t (nat_lit 4)) (K false) false
 | .c 2 _ _=>bC (Nat.beq t (nat_lit 5)) (K false) false
 | .c 5 _ _=>bC (Nat.beq t (nat_lit 6)) (K false) false
 | _=>false
noncomputable def vG:AD→Nat
 | .ptr _=>2
 | .slice _=>3
 | .fn=>4
 | .vZ _=>5
 | .map _ _=>6
 | _=>0
noncomputable def isNil:AV→Nat
 | .p0=>2
 | .sl0=>3
 | .fn0=>4
 | .gq=>5
 | .qP=>6
 | _=>99
noncomputable def nX (t:Nat)(x:FV)(K:KF):Bool:=OL t x fun b=>kB b K
noncomputable def Vl (t:Nat)(x:FV)(K:KF):Bool:=OL t x fun b=>kN b K
noncomputable def Y8 (t M t1 a:Nat)(K:KF):Bool:=match Y1 t1 with
 | some k1=>bC (Nat.beq (Nat.mod t1 (nat_lit 2)) (nat_lit 1)) (bC (Nat.ble (Nat.div t1 (nat_lit 4)) (Nat.mod a (md k1))) (tK (Nat.mod (Nat.sub (Nat.add (Nat.mod a (md k1)) (Nat.mul M (nat_lit 18446744073709551616))) (md k1)) M) t K) false) false
 | none=>false
noncomputable def eG (t M:Nat)(x:FV)(K:KF):Bool:=match x with
 | .n t1 a=>bC (J9 t1 a) (tK (Nat.mod a M) t K) (Y8 t M t1 a K)
 | _=>false
noncomputable def mQ (t M b:Nat)(x y:FV)(K:KF):Bool:=match x with
 | .n t1 a=>bC (Nat.beq t1 t) (pO y fun n=>tK (Nat.mod (Nat.shiftLeft a (bC (Nat.ble n b) n b)) M) t K) false
 | _=>false
noncomputable def nP (t M b:Nat)(x y:FV)(K:KF):Bool:=match x with
 | .n t1 a=>bC (Nat.beq t1 t) (bC (J9 t a) (pO y fun n=>tK (Nat.shiftRight a (bC (Nat.ble n b) n b)) t K) false) false
 | _=>false
noncomputable def yN (t M:Nat)(x y:FV)(K:KF):Bool:=match x,y with
 | .n t1 a,.n t2 b=>bC (Nat.beq t1 t) (bC (Nat.beq t2 t) (bC (J9 t a) (bC (J9 t b) (bC (Nat.ble (nat_lit 1) b) (tK (Nat.div a b) t K) false) false) false) false) false
 | _,_=>false
noncomputable def Kq (t M:Nat)(x y:FV)(K:KF):Bool:=match x,y with
 | .n t1 a,.n t2 b=>bC (Nat.beq t1 t) (bC (Nat.beq t2 t) (bC (J9 t a) (bC (J9 t b) (bC (Nat.ble (nat_lit 1) b) (tK (Nat.mod a b) t K) false) false) false) false) false
 | _,_=>false
theorem Vm {i:Nat} {x:FV} {K:KF} (h:aZ i x K=true):∃vs,x.av= .tu vs∧∃v:FV,vs[i]? =some v.av∧K v=true:=by
 unfold aZ at h
 split at h
 ·obtain⟨v,h1,h2⟩:=Cj _ _ h
  refine⟨_,vF _ _,v,?_,h2⟩
  rw [List.getElem?_map,h1];rfl
 ·cases h
theorem Vo {x:FV} {K:KF} (h:fK x K=true):∃b,x.av= .b b∧∃v:FV,v.av= .b (!b)∧K v=true:=by
 unfold fK at h
 split at h
 ·rename_i t v
  obtain⟨h1,h⟩:=aF h
  have h1:t=1:=Nat.eq_of_beq_eq_true h1
  subst h1
  refine⟨_,yD v,?_⟩
  cases v with
  | zero=>exact⟨_,rfl,h⟩
  | succ v=>exact⟨_,rfl,h⟩
 ·cases h
theorem Vp {t:Nat} {x:FV} {K:Bool→Bool} (h:OL t x K=true):∃b,K b=true∧((b=true∧∃z,x= .n t z)∨(b=false∧((t=2∧∃o g off,x.av= .p o g off)∨(t=3∧∃o g off n z,x.av= .sl o g off n z)∨(t=4∧∃f a c,x.av= .fn f a c)∨(t=5∧∃t' v,x.av= .ic t' v)∨(t=6∧∃o g,x.av= .mp o g)))):=by
 unfold OL at h
 split at h <;> first | cases h | (obtain⟨h1,h⟩:=aF h)
 ·exact⟨true,h,.inl ⟨rfl,_,by rw [Nat.eq_of_beq_eq_true h1]⟩⟩
 ·exact⟨false,h,.inr ⟨rfl,.inl ⟨Nat.eq_of_beq_eq_true h1,_,_,_,rfl⟩⟩⟩
 ·exact⟨false,h,.inr ⟨rfl,.inr (.inl ⟨Nat.eq_of_beq_eq_true h1,_,_,_,_,_,rfl⟩)⟩⟩
 ·exact⟨false,h,.inr ⟨rfl,.inr (.inr (.inl ⟨Nat.eq_of_beq_eq_true h1,_,_,_,rfl⟩))⟩⟩
 ·exact⟨false,h,.inr ⟨rfl,.inr (.inr (.inr (.inl ⟨Nat.eq_of_beq_eq_true h1,_,_,rfl⟩)))⟩⟩
 ·exact⟨false,h,.inr ⟨rfl,.inr (.inr (.inr (.inr ⟨Nat.eq_of_beq_eq_true h1,_,_,rfl⟩)))⟩⟩
theorem nil_eq {P:Program} {t:Nat} {T:AT} (hT:aA P t=some T) {x:FV} {K:Bool→Bool} (h:OL (vG T.d) x K=true) {v:AV} (hv:isNil v=vG T.d):∃b,K b=true∧gy P .eql t x.av v true=some (.b b)∧gy P .neq t x.av v true=some (.b !b):=by
 obtain⟨b,h1,h2⟩:=Vp h
 refine⟨b,h1,?_⟩
 clear h
 have fin:∀(w:AV),pR P 20 t w v=some b→(∀op,op= .eql∨op= .neq→gy P op t w v true=if op= .eql then(pR P 20 t w v).map .b else(pR P 20 t w v).map fun r=>.b !r)→gy P .eql t w v true=some (.b b)∧gy P .neq t w v true=some (.b !b):=by
  intro w e1 e2
  refine⟨?_,?_⟩
  ·rw [e2 .eql (.inl rfl),if_pos rfl,e1];rfl
  ·rw [e2 .neq (.inr rfl),if_neg (by decide),e1];rfl
 obtain⟨d,sz,bt,ze,cm,hd,gd⟩:=T
 simp only at h2 hv
 rcases h2 with ⟨rfl,z,rfl⟩ | ⟨rfl,h2⟩
 ·cases d <;> simp only [vG] at hv <;> cases v <;> simp only [isNil] at hv <;> (try omega)
  all_goals
   refine fin _ ?_ ?_
   ·unfold pR;rw [hT];rfl
   ·rintro op (rfl | rfl) <;> rfl
 ·rcases h2 with ⟨e,o,g,off,hx⟩ | ⟨e,o,g,off,n,z,hx⟩ | ⟨e,f,a,c,hx⟩ | ⟨e,t',w,hx⟩ | ⟨e,o,g,hx⟩
  all_goals
   rw [hx]
   cases d <;> simp only [vG] at e hv <;> (try omega)
   cases v <;> simp only [isNil] at hv <;> (try omega)
   refine fin _ ?_ ?_
   ·unfold pR;rw [hT]
   ·rintro op (rfl | rfl) <;> rfl
end Go.dD
namespace Go.dD
theorem Cm {k:IntKind} {a:Nat} (h:J9 (tg k) a=true):a<(if k.signed then 2^(k.bits - 1) else 2^k.bits):=by
 have key:∀(b:Nat),Nat.ble a b=true→a<b+1:=fun b hb=>Nat.lt_succ_of_le (Nat.le_of_ble_eq_true hb)
 cases k
 ·exact key 127 h
 ·exact key 32767 h
 ·exact key 2147483647 h
 ·exact key 9223372036854775807 h
 ·exact key 255 h
 ·exact key 65535 h
 ·exact key 4294967295 h
 ·exact key 18446744073709551615 h
theorem oP {k:IntKind} {a:Nat} (h:J9 (tg k) a=true):k.wrap a=a:=wrap_small k (Cm h)
theorem fU (k:IntKind)(a:Nat):FV.av (.n (tg k) a)= .i k (k.wrap a):=jl k a
theorem AP (k:IntKind)(a:Nat):FV.av (.n (tg k) (Nat.mod a (md k)))= .i k (k.wrap a):=by
 rw [fU]
 congr 1
 show k.wrap ((a%md k:Nat):Int)=_
 rw [AB,jM]
theorem GH (k:IntKind)(a:Nat):(BitVec.ofInt k.bits (k.wrap a)).toNat=a%md k:=by
 rw [BitVec.toNat_ofInt]
 have h:=gU k a
 rw [kM,h,←kM,←Int.natCast_emod,Int.toNat_natCast,AB]
section
variable {k:IntKind} {x y:FV} {K:KF}
theorem add_ok (h:dB x (tg k) (md k) y K=true):∃a b,x.av= .i k a∧y.av= .i k b∧∃v:FV,iH .add k a b=some v.av∧K v=true:=by
 obtain⟨a,b,e1,e2,h2⟩:=U1 h
 clear h
 have h:=h2
 clear h2
 subst e1 e2
 rw [jm] at h
 refine⟨_,_,fU k a,fU k b,_,?_,h⟩
 rw [AP]
 simp only [iH,wrap_add]
 congr 3
theorem sub_ok (h:je x (tg k) (md k) y K=true):∃a b,x.av= .i k a∧y.av= .i k b∧∃v:FV,iH .sub k a b=some v.av∧K v=true:=by
 obtain⟨a,b,e1,e2,h2⟩:=U2 h
 clear h
 have h:=h2
 clear h2
 subst e1 e2
 rw [jm] at h
 refine⟨_,_,fU k a,fU k b,_,?_,h⟩
 rw [AP]
 simp only [iH,Oe]
 congr 2
 apply iU
 have hM:b%md k<md k:=Nat.mod_lt _ (by cases k <;> decide)
 have e2:((md k:Nat):Int)=2^k.bits:=by rw [AB,kM]
 have e1:((Nat.sub (Nat.add a (md k)) (Nat.mod b (md k)):Nat):Int)=(a:Int) - ((b%md k:Nat):Int)+2^k.bits:=by
  show ((a+md k - b%md k:Nat):Int)=_
  rw [←e2];omega
 rw [e1,Int.natCast_emod,e2,Int.add_emod_right,Int.sub_emod,Int.sub_emod (a:Int) ((b:Int)%2^k.bits),Int.emod_emod_of_dvd _ (Int.dvd_refl _)]
theorem mul_ok (h:vO x (tg k) (md k) y K=true):∃a b,x.av= .i k a∧y.av= .i k b∧∃v:FV,iH .mul k a b=some v.av∧K v=true:=by
 obtain⟨a,b,e1,e2,h2⟩:=U3 h
 clear h
 have h:=h2
 clear h2
 subst e1 e2
 rw [jm] at h
 refine⟨_,_,fU k a,fU k b,_,?_,h⟩
 rw [AP]
 simp only [iH,wrap_mul]
 congr 3
theorem and_ok (h:kX x (tg k) (md k) y K=true):∃a b,x.av= .i k a∧y.av= .i k b∧∃v:FV,iH .and k a b=some v.av∧K v=true:=by
 obtain⟨a,b,e1,e2,h2⟩:=U4 h
 clear h
 have h:=h2
 clear h2
 subst e1 e2
 rw [jm] at h
 refine⟨_,_,fU k a,fU k b,_,?_,h⟩
 rw [fU]
 simp only [iH,qV,BitVec.toNat_and,GH];rfl
theorem or_ok (h:dOr x (tg k) (md k) y K=true):∃a b,x.av= .i k a∧y.av= .i k b∧∃v:FV,iH .or k a b=some v.av∧K v=true:=by
 obtain⟨a,b,e1,e2,h2⟩:=dOr_ok h
 clear h
 have h:=h2
 clear h2
 subst e1 e2
 rw [jm] at h
 refine⟨_,_,fU k a,fU k b,_,?_,h⟩
 rw [fU]
 simp only [iH,qV,BitVec.toNat_or,GH];rfl
theorem xor_ok (h:dXor x (tg k) (md k) y K=true):∃a b,x.av= .i k a∧y.av= .i k b∧∃v:FV,iH .xor k a b=some v.av∧K v=true:=by
 obtain⟨a,b,e1,e2,h2⟩:=U5 h
 clear h
 have h:=h2
 clear h2
 subst e1 e2
 rw [jm] at h
 refine⟨_,_,fU k a,fU k b,_,?_,h⟩
 rw [fU]
 simp only [iH,qV,BitVec.toNat_xor,GH];rfl
theorem wP (a b:Nat):Nat.ble a b=true↔a≤b:=⟨Nat.le_of_ble_eq_true,Nat.ble_eq_true_of_le⟩
theorem lss_ok (h:fF x (tg k) (md k) y K=true):∃a b,x.av= .i k a∧y.av= .i k b∧∃v:FV,iH .lss k a b=some v.av∧K v=true:=by
 obtain⟨a,b,e1,e2,h2⟩:=U6 h
 clear h
 have h:=h2
 clear h2
 subst e1 e2
 obtain⟨v,h1,h2⟩:=yF h
 refine⟨_,_,fU k a,fU k b,v,?_,h2⟩
 rw [h1]
 simp only [iH,EZ,Option.some.injEq,AV.b.injEq]
 rw [Bool.eq_iff_iff,decide_eq_true_iff,IK,wP];exact Iff.rfl
theorem leq_ok (h:qI x (tg k) (md k) y K=true):∃a b,x.av= .i k a∧y.av= .i k b∧∃v:FV,iH .leq k a b=some v.av∧K v=true:=by
 obtain⟨a,b,e1,e2,h2⟩:=U7 h
 clear h
 have h:=h2
 clear h2
 subst e1 e2
 obtain⟨v,h1,h2⟩:=yF h
 refine⟨_,_,fU k a,fU k b,v,?_,h2⟩
 rw [h1]
 simp only [iH,EZ,Option.some.injEq,AV.b.injEq]
 rw [Bool.eq_iff_iff,decide_eq_true_iff,IL,wP]
theorem gtr_ok (h:kP x (tg k) (md k) y K=true):∃a b,x.av= .i k a∧y.av= .i k b∧∃v:FV,iH .gtr k a b=some v.av∧K v=true:=by
 obtain⟨a,b,e1,e2,h2⟩:=U8 h
 clear h
 have h:=h2
 clear h2
 subst e1 e2
 obtain⟨v,h1,h2⟩:=yF h
 refine⟨_,_,fU k a,fU k b,v,?_,h2⟩
 rw [h1]
 simp only [iH,EZ,Option.some.injEq,AV.b.injEq]
 rw [Bool.eq_iff_iff,decide_eq_true_iff,gt_iff_lt,IK,wP];exact Iff.rfl
theorem geq_ok (h:kQ x (tg k) (md k) y K=true):∃a b,x.av= .i k a∧y.av= .i k b∧∃v:FV,iH .geq k a b=some v.av∧K v=true:=by
 obtain⟨a,b,e1,e2,h2⟩:=U9 h
 clear h
 have h:=h2
 clear h2
 subst e1 e2
 obtain⟨v,h1,h2⟩:=yF h
 refine⟨_,_,fU k a,fU k b,v,?_,h2⟩
 rw [h1]
 simp only [iH,EZ,Option.some.injEq,AV.b.injEq]
 rw [Bool.eq_iff_iff,decide_eq_true_iff,ge_iff_le,IL,wP]
theorem yO (a b:Nat):Nat.beq (Nat.mod a (md k)) (Nat.mod b (md k))=(k.wrap a == k.wrap b):=by
 rw [Bool.eq_iff_iff,beq_iff_eq,Ee,←AB]
 exact⟨Nat.eq_of_beq_eq_true,fun e=>by rw [show Nat.mod a (md k)=a%md k from rfl,e];exact Nat.beq_refl _⟩
theorem eqi_ok (h:bQ x (tg k) (md k) y K=true):∃a b,x.av= .i k a∧y.av= .i k b∧∃v:FV,iH .eql k a b=some v.av∧K v=true:=by
 obtain⟨a,b,e1,e2,h2⟩:=U_ h
 clear h
 have h:=h2
 clear h2
 subst e1 e2
 obtain⟨v,h1,h2⟩:=yF h
 exact⟨_,_,fU k a,fU k b,v,by rw [h1,yO];rfl,h2⟩
theorem nei_ok (h:jr x (tg k) (md k) y K=true):∃a b,x.av= .i k a∧y.av= .i k b∧∃v:FV,iH .neq k a b=some v.av∧K v=true:=by
 obtain⟨a,b,e1,e2,h2⟩:=Va h
 clear h
 have h:=h2
 clear h2
 subst e1 e2
 obtain⟨v,h1,h2⟩:=Oh h
 exact⟨_,_,fU k a,fU k b,v,by rw [h1,yO];rfl,h2⟩
theorem quo_ok (h:yN (tg k) (md k) x y K=true):∃a b,x.av= .i k a∧y.av= .i k b∧∃v:FV,iH .quo k a b=some v.av∧K v=true:=by
 unfold yN at h
 split at h
 ·rename_i t1 a t2 b
  obtain⟨h1,h⟩:=aF h
  obtain⟨h2,h⟩:=aF h
  obtain⟨h3,h⟩:=aF h
  obtain⟨h4,h⟩:=aF h
  obtain⟨h5,h⟩:=aF h
  rw [jm] at h
  rw [Nat.eq_of_beq_eq_true h1,Nat.eq_of_beq_eq_true h2]
  have h5:1≤b:=Nat.le_of_ble_eq_true h5
  refine⟨_,_,fU k a,fU k b,_,?_,h⟩
  rw [oP h3,oP h4,fU]
  simp only [iH]
  rw [if_neg (by omega),show Nat.div a b=a / b from rfl,Int.ofNat_tdiv]
 ·cases h
theorem rem_ok (h:Kq (tg k) (md k) x y K=true):∃a b,x.av= .i k a∧y.av= .i k b∧∃v:FV,iH .rem k a b=some v.av∧K v=true:=by
 unfold Kq at h
 split at h
 ·rename_i t1 a t2 b
  obtain⟨h1,h⟩:=aF h
  obtain⟨h2,h⟩:=aF h
  obtain⟨h3,h⟩:=aF h
  obtain⟨h4,h⟩:=aF h
  obtain⟨h5,h⟩:=aF h
  rw [jm] at h
  rw [Nat.eq_of_beq_eq_true h1,Nat.eq_of_beq_eq_true h2]
  have h5:1≤b:=Nat.le_of_ble_eq_true h5
  have hl:=Cm h3
  have hle:a%b≤a:=Nat.mod_le a b
  refine⟨_,_,fU k a,fU k b,_,?_,h⟩
  rw [oP h3,oP h4,fU,show Nat.mod a b=a%b from rfl,wrap_small k (by omega)]
  simp only [iH]
  rw [if_neg (by omega),←Int.ofNat_tmod]
 ·cases h
theorem minB (n b:Nat):bC (Nat.ble n b) n b=min n b:=by
 cases hb:Nat.ble n b with
 | true=>rw [jd];have:=Nat.le_of_ble_eq_true hb;omega
 | false=>
   rw [iP]
   have:¬n≤b:=fun h=>by rw [Nat.ble_eq_true_of_le h] at hb;cases hb
   omega
theorem shl_ok (h:mQ (tg k) (md k) k.bits x y K=true):∃a q b,x.av= .i k a∧y.av= .i q b∧∃v:FV,mX .shl k a b=some v.av∧K v=true:=by
 unfold mQ at h
 split at h
 ·rename_i t1 a
  obtain⟨h1,h⟩:=aF h
  obtain⟨q,n,h2,h⟩:=gX h
  rw [jm] at h
  rw [Nat.eq_of_beq_eq_true h1]
  refine⟨_,q,_,fU k a,h2,_,?_,h⟩
  rw [AP,minB]
  simp only [mX]
  rw [if_neg (by omega),Int.toNat_natCast]
  have e:((Nat.shiftLeft a (min n k.bits):Nat):Int)=(a:Int)*2^min n k.bits:=by
   show ((a <<< min n k.bits:Nat):Int)=_
   rw [Nat.shiftLeft_eq];push_cast;rfl
  rw [e]
  congr 2
  exact iU k (by rw [Int.mul_emod,gU,←Int.mul_emod])
 ·cases h
theorem shr_ok (h:nP (tg k) (md k) k.bits x y K=true):∃a q b,x.av= .i k a∧y.av= .i q b∧∃v:FV,mX .shr k a b=some v.av∧K v=true:=by
 unfold nP at h
 split at h
 ·rename_i t1 a
  obtain⟨h1,h⟩:=aF h
  obtain⟨h3,h⟩:=aF h
  obtain⟨q,n,h2,h⟩:=gX h
  rw [jm] at h
  rw [Nat.eq_of_beq_eq_true h1]
  refine⟨_,q,_,fU k a,h2,_,?_,h⟩
  have hl:=Cm h3
  have e:Nat.shiftRight a (min n k.bits)=a / 2^min n k.bits:=Nat.shiftRight_eq_div_pow a _
  have hle:a / 2^min n k.bits≤a:=Nat.div_le_self _ _
  rw [oP h3,fU,minB,e,wrap_small k (by omega)]
  simp only [mX]
  rw [if_neg (by omega),Int.toNat_natCast]
  congr 2
  have e3:((2^min n k.bits:Nat):Int)=2^min n k.bits:=by rw [Int.natCast_pow];rfl
  rw [←e3,Int.fdiv_eq_ediv_of_nonneg _ (Int.natCast_nonneg _),Int.natCast_ediv]
 ·cases h
theorem OM (h:eG (tg k) (md k) x K=true):∃q n,x.av= .i q n∧∃v:FV,v.av= .i k (k.wrap n)∧K v=true:=by
 unfold eG at h
 split at h
 ·rename_i t1 a
  cases h0:J9 t1 a with
  | true=>
    rw [h0,jd,jm] at h
    obtain⟨q,hq⟩:=Gx h0
    exact⟨q,a,hq,_,AP k a,h⟩
  | false=>
    rw [h0,iP] at h
    unfold Y8 at h
    split at h
    ·rename_i k1 hk1
     obtain⟨h1,hh1⟩:=aF h
     obtain⟨h2,hh2⟩:=aF hh1
     clear h hh1
     have h:=hh2
     clear hh2
     rw [jm] at h
     have ht:=yB hk1
     subst ht
     refine⟨k1,_,fU k1 a,_,?_,h⟩
     have h1:tg k1%2=1:=Nat.eq_of_beq_eq_true h1
     have h2:tg k1 / 4≤a%md k1:=Nat.le_of_ble_eq_true h2
     have hs:k1.signed=true:=by cases k1 <;> first | rfl | (exfalso;revert h1;decide)
     have hM1:a%md k1<md k1:=Nat.mod_lt _ (by cases k1 <;> decide)
     have hle:md k1≤md k*18446744073709551616:=by cases k <;> cases k1 <;> decide
     have hw:k1.wrap a=((a%md k1:Nat):Int) - (md k1:Nat):=by
      rw [IJ] at h2
      have e2:((md k1:Nat):Int)=2^k1.bits:=by rw [AB,kM]
      have e3:(a:Int)%2^k1.bits=((a%md k1:Nat):Int):=by rw [Int.natCast_emod,e2]
      unfold IntKind.wrap
      simp only
      rw [e3,hs,Bool.true_and,if_pos (by
         rw [decide_eq_true_eq]
         have:((2^(k1.bits - 1):Nat):Int)=2^(k1.bits - 1):=by cases k1 <;> rfl
         rw [←this];exact_mod_cast h2),e2]
     rw [AP,hw]
     congr 1
     apply iU
     have e1:((Nat.sub (Nat.add (Nat.mod a (md k1)) (Nat.mul (md k) 18446744073709551616)) (md k1):Nat):Int)=(((a%md k1:Nat):Int) - (md k1:Nat))+(2^k.bits)*18446744073709551616:=by
      have e2:((md k:Nat):Int)=2^k.bits:=by rw [AB,kM]
      show ((a%md k1+md k*18446744073709551616 - md k1:Nat):Int)=_
      rw [←e2];omega
     rw [show ((Nat.sub (Nat.add (Nat.mod a (md k1)) (Nat.mul (md k) (nat_lit 18446744073709551616))) (md k1):Nat):Int)=_ from e1,Int.add_mul_emod_self_left]
    ·cases h
 ·cases h
end
end Go.dD
namespace Go.dD
noncomputable def pkK:List FV→(Nat→Bool)→Bool:=List.rec (motive:=fun _=>(Nat→Bool)→Bool) (fun K=>K (nat_lit 0)) (fun a _ ih K=>FV.rec (motive_1:=fun _=>Bool) (motive_2:=fun _=>PUnit) (fun t x=>bC (Nat.beq t (nat_lit 512)) (ih fun v=>fN (Nat.add (Nat.mod x (nat_lit 256)) (Nat.mul (nat_lit 256) v)) K) false) (fun _ _ _=>false) (fun _ _ _ _ _=>false) (fun _ _=>false) (fun _ _ _ _=>false) ⟨⟩ (fun _ _ _ _=>⟨⟩) a)
noncomputable def IZ (m:Nat)(d:List FV)(t:Tr FV):Bool:=match t,d with
 | .lf,[.n 512 0]=>Nat.beq m (nat_lit 1)
 | _,_=>false
noncomputable def GI (x:FV)(s:GS)(K:KF):Bool:=match x with
 | .n t _=>bC (Nat.beq t (nat_lit 3)) (K (.s (nat_lit 0) (nat_lit 0))) false
 | .sl o g off n z=>bC (Nat.beq z (nat_lit 1)) (yL (s.t.get o) g fun _ _ n' m d t=>bC (Nat.ble (Nat.add off n) n') (bC (IZ m d t) (K (.s n (nat_lit 0))) (B_ m d t n off fun l=>pkK l fun v=>K (.s n v))) false) false
 | _=>false
theorem OO:∀(l:List FV) {K:Nat→Bool} (_:pkK l K=true),∃v,bytesOf (l.map FV.av)=some (eF l.length v)∧K v=true
 | [],K,hk=>⟨0,rfl,hk⟩
 | a :: l,K,hk=>by
   cases a with
   | n t x=>
     have hk':bC (Nat.beq t 512) (pkK l fun v=>fN (Nat.add (Nat.mod x 256) (Nat.mul 256 v)) K) false=true:=hk
     obtain⟨h1,h2⟩:=aF hk'
     have h1:=Nat.eq_of_beq_eq_true h1
     subst h1
     obtain⟨v,h3,h4⟩:=OO l h2
     rw [jv] at h4
     refine⟨_,?_,h4⟩
     have hx:x%256<256:=Nat.mod_lt _ (by omega)
     have e1:FV.av (.n 512 x)= .i .u8 (x%256:Nat):=by
       rw [FV.yC,show (512:Nat)=tg .u8 from rfl,jl,←jM .u8 x,show x%2^IntKind.u8.bits=x%256 from rfl,wrap_small .u8 (by simp only [IntKind.signed,IntKind.bits,if_false,Bool.false_eq_true];omega)]
     rw [List.map_cons,e1]
     simp only [bytesOf,h3,Option.map_some,List.length_cons,dQ]
     have e2:Nat.add (Nat.mod x 256) (Nat.mul 256 v)=x%256+256*v:=rfl
     rw [e2,show (x%256+256*v)%256=x%256 by omega,show (x%256+256*v) / 256=v by omega,Int.toNat_natCast]
   | _=>cases hk
theorem OQ {n' m:Nat} {d:List FV} {t:Tr FV} {cs:List AV} (hz:IZ m d t=true)(hc:dn n' m d t cs)(off n:Nat)(hl:off+n≤n'):bytesOf ((cs.drop off).take n)=some (eF n 0):=by
 unfold IZ at hz
 split at hz
 ·have hm:m=1:=Nat.eq_of_beq_eq_true hz
  have hcell:∀i,i<n'→cs[i]? =some (.i .u8 0):=fun i hi=>by
   rw [hc.at_ i hi,hm]
   have:oL 1 [.n 512 0] .lf i= .n 512 0:=by
        show BU [.n 512 0] (i%1)=_
        rw [Nat.mod_one];rfl
   rw [this];rfl
  have key:∀(k:Nat) (l:List AV),l.length=k→(∀i,i<k→l[i]? =some (.i .u8 0))→bytesOf l=some (eF k 0):=by
   intro k
   induction k with
   | zero=>intro l hl _;rw [List.eq_nil_of_length_eq_zero hl];rfl
   | succ k ih=>
     intro l hl hi
     cases l with
     | nil=>simp at hl
     | cons a l=>
       have h0:a= .i .u8 0:=Option.some.inj (hi 0 (by omega))
       subst h0
       have h1:=ih l (by simpa using hl) (fun i hlt=>by have:=hi (i+1) (by omega);simpa using this)
       simp only [bytesOf,h1,Option.map_some,dQ];rfl
  refine key n _ (by have:=hc.len;simp;omega) fun i hi=>?_
  rw [List.getElem?_take,if_pos hi,List.getElem?_drop]
  exact hcell _ (by omega)
 ·cases hz
theorem AQ {P:Program} {s:GS} {σ:St} {K:KF} {a b e:Nat} {x:FV} {s1 b1 s2 b2 s3 b3:Nat} {z1 z2 z3:AV} {c1 h1 g1 c2 h2 g2 c3 h3 g3:Bool} (hA:aA P a=some ⟨.slice e,s1,b1,z1,c1,h1,g1⟩)(hB:aA P b=some ⟨.str,s2,b2,z2,c2,h2,g2⟩)(he:aA P e=some ⟨.int .u8,s3,b3,z3,c3,h3,g3⟩)
 (h:s.Is σ) (hk2:GI x s K=true):∃v:FV,iJ P a b x.av σ=some (v.av,σ)∧K v=true:=by
 unfold GI at hk2
 split at hk2
 ·rename_i t x'
  obtain⟨h2,hk3⟩:=aF hk2
  have h2:t=3:=Nat.eq_of_beq_eq_true h2
  refine⟨_,?_,hk3⟩
  simp only [iJ,hA,hB]
  rw [h2,show FV.av (.n 3 x')= .sl0 from rfl]
  simp only [he];rfl
 ·rename_i o g off n z
  obtain⟨h2,hk3⟩:=aF hk2
  have h2:z=1:=Nat.eq_of_beq_eq_true h2
  obtain⟨ro,e',n',m,d,t,cs,w1,w2,w3⟩:=jJ h hk3
  obtain⟨h4,h5⟩:=aF w3
  have h4:off+n≤n':=Nat.le_of_ble_eq_true h4
  cases hz0:IZ m d t with
  | true=>
    rw [hz0,jd] at h5
    have hby:=OQ hz0 w2 off n h4
    refine⟨_,?_,h5⟩
    simp only [iJ,hA,hB,FV.qc,he]
    rw [if_pos h2,iD w1]
    simp only [Option.bind_some]
    rw [if_pos (by rw [w2.len];exact h4),hby];rfl
  | false=>
  rw [hz0,iP] at h5
  obtain⟨l,r1,r2,r3⟩:=pG w2 n off h4 h5
  obtain⟨v,v1,v2⟩:=OO l r1
  have hll:l.length=n:=by
   have e1:=congrArg List.length r2
   have:=w2.len
   simp only [List.length_map,List.length_take,List.length_drop] at e1
   omega
  refine⟨_,?_,v2⟩
  simp only [iJ,hA,hB,FV.qc,he]
  rw [if_pos h2,iD w1]
  simp only [Option.bind_some]
  rw [if_pos (by rw [w2.len];exact h4),←r2,v1,hll];rfl
 ·cases hk2
section
variable (P:Program)(τ:gK)
noncomputable def dP (o:Option AV)(K:KF):Bool:=match o with
 | some v=>bC (Ko v) (K (vT v)) false
 | none=>false
noncomputable def mV (op:dA)(ρ:bG→FV)(K:KF):Bool:=match op with
 | .bin op t x y=>dP (gy P op t (ρ x).av (ρ y).av (x.isC || y.isC)) K
 | .un op x=>dP (Tq op (ρ x).av) K
 | .idx t x i=>dP (Bd P t (ρ x).av (ρ i).av) K
 | .build t ps=>dP (jy P t ((ps.map fun q=>(q.1,ρ q.2)).map fun q=>(q.1,q.2.av))) K
 | .len t x=>dP (y8 P t (ρ x).av) K
 | .Tn x _ t ok=>dP (Fg P (ρ x).av t ok) K
 | .mn mx xs=>dP (KO mx ((xs.map ρ).map FV.av)) K
 | .sl3 t x lo h m=>dP (Je P t (ρ x).av ((lo.map ρ).map FV.av) (ρ h).av (ρ m).av) K
 | _=>false
noncomputable def OT (k:IntKind)(op:BinOp)(t:Nat)(x y:bG)(ρ:bG→FV)(K:KF):Bool:=match op with
 | .add=>dB (ρ x) (tg k) (md k) (ρ y) K
 | .sub=>je (ρ x) (tg k) (md k) (ρ y) K
 | .mul=>vO (ρ x) (tg k) (md k) (ρ y) K
 | .and=>kX (ρ x) (tg k) (md k) (ρ y) K
 | .or=>dOr (ρ x) (tg k) (md k) (ρ y) K
 | .xor=>dXor (ρ x) (tg k) (md k) (ρ y) K
 | .lss=>fF (ρ x) (tg k) (md k) (ρ y) K
 | .leq=>qI (ρ x) (tg k) (md k) (ρ y) K
 | .gtr=>kP (ρ x) (tg k) (md k) (ρ y) K
 | .geq=>kQ (ρ x) (tg k) (md k) (ρ y) K
 | .eql=>bQ (ρ x) (tg k) (md k) (ρ y) K
 | .neq=>jr (ρ x) (tg k) (md k) (ρ y) K
 | .quo=>yN (tg k) (md k) (ρ x) (ρ y) K
 | .rem=>Kq (tg k) (md k) (ρ x) (ρ y) K
 | .shl=>mQ (tg k) (md k) k.bits (ρ x) (ρ y) K
 | .shr=>nP (tg k) (md k) k.bits (ρ x) (ρ y) K
 | op=>mV P (.bin op t x y) ρ K
noncomputable def OU (op:BinOp)(t:Nat)(x y:bG)(ρ:bG→FV)(K:KF):Bool:=match op with
 | .add=>IU (ρ x) (ρ y) K
 | .eql=>vP (ρ x) (ρ y) K
 | .neq=>J_ (ρ x) (ρ y) K
 | op=>mV P (.bin op t x y) ρ K
noncomputable def Y9 (d:AD)(op:BinOp)(t:Nat)(x:bG)(v:AV)(ρ:bG→FV)(K:KF):Bool:=match op with
 | .eql=>nX (vG d) (ρ x) K
 | .neq=>Vl (vG d) (ρ x) K
 | op=>mV P (.bin op t x (.c v)) ρ K
noncomputable def gBin (op:BinOp)(t:Nat)(x y:bG)(ρ:bG→FV)(K:KF):Bool:=match τ t with
 | some T=>(match T.d with
   | .int k=>OT P k op t x y ρ K
   | .str=>OU P op t x y ρ K
   | d=>match y with
     | .c v=>bC (Nat.beq (isNil v) (vG d)) (Y9 P d op t x v ρ K) (mV P (.bin op t x y) ρ K)
     | .t _=>mV P (.bin op t x y) ρ K)
 | none=>false
noncomputable def gUn (op:UnOp)(x:bG)(ρ:bG→FV)(K:KF):Bool:=match op with
 | .not=>fK (ρ x) K
 | op=>mV P (.un op x) ρ K
noncomputable def gLen (t:Nat)(x:bG)(ρ:bG→FV)(K:KF):Bool:=match τ t with
 | some T=>(match T.d with
   | .str=>f_ (ρ x) K
   | .slice _=>fC (ρ x) K
   | _=>mV P (.len t x) ρ K)
 | none=>false
noncomputable def gFad (t:Nat)(x:bG)(f:Nat)(ρ:bG→FV)(K:KF):Bool:=match τ t with
 | some T=>(match T.d with
   | .st fs=>(match fs[f]? with
     | some r=>bC (Nat.ble (nat_lit 1) (sH τ r.2.1)) (aH r.1 (ρ x) K) false
     | none=>false)
   | _=>false)
 | none=>false
noncomputable def gFld (t:Nat)(x:bG)(f:Nat)(ρ:bG→FV)(K:KF):Bool:=match τ t with
 | some T=>(match T.d with
   | .st fs=>(match fs[f]? with
     | some r=>(match τ r.2.1 with
       | some F=>bC F.d.agg (AL r.1 F.size (ρ x) K) (mP r.1 (ρ x) K)
       | none=>false)
     | none=>false)
   | _=>false)
 | none=>false
noncomputable def gIad (t:Nat)(x i:bG)(ρ:bG→FV)(K:KF):Bool:=match τ t with
 | some T=>(match T.d with
   | .slice e=>bC (Nat.ble (nat_lit 1) (sH τ e)) (eY (sH τ e) (ρ x) (ρ i) K) false
   | .arr n e=>bC (Nat.ble (nat_lit 1) (sH τ e)) (iF n (sH τ e) (ρ x) (ρ i) K) false
   | _=>false)
 | none=>false
noncomputable def gIdx (t:Nat)(x i:bG)(ρ:bG→FV)(K:KF):Bool:=match τ t with
 | some T=>(match T.d with
   | .str=>sQ (ρ x) (ρ i) K
   | _=>mV P (.idx t x i) ρ K)
 | none=>false
noncomputable def OV (n:Nat)(lo hi:Option FV)(K:Nat→Nat→Bool):Bool:=match lo,hi with
 | none,none=>K (nat_lit 0) n
 | some i,none=>pO i fun a=>bC (Nat.ble a n) (K a n) false
 | none,some j=>pO j fun b=>bC (Nat.ble b n) (K (nat_lit 0) b) false
 | some i,some j=>pO i fun a=>pO j fun b=>bC (Nat.ble a b) (bC (Nat.ble b n) (K a b) false) false
noncomputable def AU (z:Nat)(x:FV)(lo hi:Option FV)(K:KF):Bool:=match x with
 | .sl o g off n z'=>bC (Nat.beq z' z) (OV n lo hi fun a b=>fN (Nat.add off (Nat.mul a z)) fun off=>fN (Nat.sub b a) fun n=>K (.sl o g off n z)) false
 | .n t _=>bC (Nat.beq t (nat_lit 3)) (OV (nat_lit 0) lo hi fun _ _=>K (.n (nat_lit 3) (nat_lit 0))) false
 | _=>false
noncomputable def yP (n z:Nat)(x:FV)(lo hi:Option FV)(s:GS)(K:KF):Bool:=match x with
 | .p o g off=>yL (s.t.get o) g fun _ _ n' _ _ _=>bC (Nat.ble (Nat.add off (Nat.mul n z)) n') (OV n lo hi fun a b=>fN (Nat.add off (Nat.mul a z)) fun off=>fN (Nat.sub b a) fun n=>K (.sl o g off n z)) false
 | _=>false
noncomputable def gSlc (t:Nat)(x:bG)(lo hi:Option bG)(ρ:bG→FV)(s:GS)(K:KF):Bool:=match τ t with
 | some T=>(match T.d with
   | .str=>jo (ρ x) (lo.map ρ) (hi.map ρ) K
   | .slice e=>bC (Nat.ble (nat_lit 1) (sH τ e)) (AU (sH τ e) (ρ x) (lo.map ρ) (hi.map ρ) K) false
   | .arr n e=>bC (Nat.ble (nat_lit 1) (sH τ e)) (yP n (sH τ e) (ρ x) (lo.map ρ) (hi.map ρ) s K) false
   | _=>false)
 | none=>false
noncomputable def OW (t:Nat)(x:bG)(ρ:bG→FV)(s:GS)(K:KF):Bool:=match τ t with
 | some T=>bC T.d.agg (aB T.size (ρ x) s K) (ak (ρ x) s K)
 | none=>false
noncomputable def gMki (t:Nat)(x:bG)(ρ:bG→FV)(K:KF):Bool:=match τ t with
 | some ⟨.vZ _,_,_,_,_,_,_⟩=>false
 | some _=>K (.c (nat_lit 2) t [ρ x])
 | none=>false
noncomputable def Vq (v:FV):List FV→Nat→List FV:=List.rec (motive:=fun _=>Nat→List FV) (fun _=>[]) (fun a l ih k=>Nat.rec (motive:=fun _=>List FV) (v :: l) (fun k _=>a :: ih k) k)
noncomputable def OX (place:Nat→Option (Nat×Nat))(K:List FV→List FV→Bool):List (Nat×FV)→List FV→List FV→Bool:=List.rec (motive:=fun _=>List FV→List FV→Bool) (fun cs os=>K cs os) (fun p _ ih cs os=>match place p.1 with
 | some (off,size)=>bC (Nat.beq size (nat_lit 1)) (bC (Nat.ble (Nat.succ off) cs.length) (ih (Vq p.2 cs off) (p.2 :: os)) false) false
 | none=>false)
noncomputable def Y_ (place:Nat→Option (Nat×Nat)):List (Nat×bG)→Bool:=List.rec (motive:=fun _=>Bool) true (fun p _ ih=>match place p.1 with
 | some (_,size)=>bC (Nat.beq size (nat_lit 1)) ih false
 | none=>false)
noncomputable def cZ (os:List FV)(B:Bool):Bool:=bC (iG os) B false
noncomputable def GK (t:Nat)(ps:List (Nat×bG))(ρ:bG→FV)(K:KF):Bool:=match τ t with
 | some T=>(match T.d with
   | .st fs=>bC (bC (allT τ fs) (bC (qg T.zero.cells) (Y_ (fun i=>(fs[i]?).bind fun f=>(τ f.2.1).map fun F=>(f.1,F.size)) ps) false) false)
    (OX (fun i=>(fs[i]?).bind fun f=>(τ f.2.1).map fun F=>(f.1,F.size)) (fun cs os=>cZ os (K (.c (nat_lit 0) (nat_lit 0) cs))) (ps.map fun q=>(q.1,ρ q.2)) (dY T.zero.cells) [])
    (mV P (.build t ps) ρ K)
   | _=>mV P (.build t ps) ρ K)
 | none=>false
noncomputable def gMkf (f:Fn)(a c:List bG)(ρ:bG→FV)(K:KF):Bool:=match f with
 | .func k=>K (.c (nat_lit 3) k [.c (nat_lit 0) (nat_lit 0) (a.map ρ),.c (nat_lit 0) (nat_lit 0) (c.map ρ)])
 | _=>false
noncomputable def gCvp (b:Bool)(t1 t2:Nat)(x:bG)(ρ:bG→FV)(s:GS)(K:KF):Bool:=match τ t1,τ t2 with
 | some A,some B=>(match A.d,B.d,b with
   | _,.int k,true=>eG (tg k) (md k) (ρ x) K
   | .slice e,.str,false=>bC (D9 τ e) (GI (ρ x) s K) false
   | _,_,_=>false)
 | _,_=>false
noncomputable def Ew (op:dA)(ρ:bG→FV)(s:GS)(K:KF):Bool:=match op with
 | .mv x=>K (ρ x)
 | .pick c a b=>aT (ρ c) (ρ a) (ρ b) K
 | .load t x=>OW τ t x ρ s K
 | .bin op t x y=>gBin P τ op t x y ρ K
 | .un op x=>gUn P op x ρ K
 | .len t x=>gLen P τ t x ρ K
 | .kW t x f=>gFad τ t x f ρ K
 | .vI t x f=>gFld τ t x f ρ K
 | .g_ t x i=>gIad τ t x i ρ K
 | .idx t x i=>gIdx P τ t x i ρ K
 | .ext x i=>aZ i (ρ x) K
 | .gZ x=>aY (ρ x) K
 | .Tm t x=>gMki τ t x ρ K
 | .vX f a c=>gMkf f a c ρ K
 | .slc t x l h=>gSlc τ t x l h ρ s K
 | .build t ps=>GK P τ t ps ρ K
 | .vY b t1 t2 x=>gCvp τ b t1 t2 x ρ s K
 | op=>mV P op ρ K
end
section
variable {P:Program} {τ:gK} (bJ:τ.Ok P) {ρ:bG→FV} {K:KF} {s:GS} {σ:St}
def iZ (P:Program)(ρ:bG→FV)(op:dA)(σ:St)(K:KF):Prop:=∃v:FV,dL P (fun o=>(ρ o).av) op σ=some (v.av,σ)∧K v=true
theorem mW {o:Option AV} {K:KF} (hk:dP o K=true):∃v:FV,o=some v.av∧K v=true:=by
 unfold dP at hk
 split at hk
 ·rename_i v
  obtain⟨h3,h4⟩:=aF hk
  exact⟨_,by rw [jW v h3],h4⟩
 ·cases hk
theorem iq {op:dA} (hk:mV P op ρ K=true):iZ P ρ op σ K:=by
 have hm:∀l:Option bG,(l.map ρ).map FV.av=l.map (fun o=>(ρ o).av):=fun l=>by cases l <;> rfl
 unfold mV at hk
 split at hk
 all_goals first | cases hk | (obtain⟨v,h1,h2⟩:=mW hk;refine⟨v,?_,h2⟩;simp only [dL])
 ·rw [h1];rfl
 ·rw [h1];rfl
 ·rw [h1];rfl
 ·rw [List.map_map] at h1
  rw [show (fun q:Nat×bG=>(q.1,(ρ q.2).av))=(fun q:Nat×FV=>(q.1,q.2.av)) ∘ (fun q=>(q.1,ρ q.2)) from rfl,h1];rfl
 ·rw [h1];rfl
 ·rw [h1];rfl
 ·rw [List.map_map] at h1
  rw [show (fun o=>(ρ o).av)=FV.av ∘ ρ from rfl,h1];rfl
 ·rw [hm] at h1;rw [h1];rfl
theorem fM {op:BinOp} {t:Nat} {x y:bG} (h:∃v:FV,gy P op t (ρ x).av (ρ y).av (x.isC || y.isC)=some v.av∧K v=true):iZ P ρ (.bin op t x y) σ K:=by
 obtain⟨v,h1,h2⟩:=h
 exact⟨v,by simp only [dL];rw [h1];rfl,h2⟩
theorem fG {op:BinOp} {t:Nat} {k:IntKind} {x y:AV} {c:Bool} {a b:Int} {r:Option AV} (h1:x= .i k a)(h2:y= .i k b)(h3:iH op k a b=r)(ho:op≠.shl∧op≠.shr):gy P op t x y c=r:=by
 subst h1 h2 h3
 cases op <;> first | (simp only [gy,if_true];done) | (exfalso;exact ho.1 rfl) | (exfalso;exact ho.2 rfl)
theorem OY {k:IntKind} {op:BinOp} {t:Nat} {x y:bG} (hk:OT P k op t x y ρ K=true):iZ P ρ (.bin op t x y) σ K:=by
 unfold OT at hk
 split at hk
 case h_17=>exact iq hk
 case h_15=>
  obtain⟨a,q,b,h1,h2,v,h3,h4⟩:=shl_ok hk
  exact fM ⟨v,by rw [h1,h2];simp only [gy];exact h3,h4⟩
 case h_16=>
  obtain⟨a,q,b,h1,h2,v,h3,h4⟩:=shr_ok hk
  exact fM ⟨v,by rw [h1,h2];simp only [gy];exact h3,h4⟩
 case h_1=>obtain⟨a,b,h1,h2,v,h3,h4⟩:=add_ok hk;exact fM ⟨v,fG h1 h2 h3 (by decide),h4⟩
 case h_2=>obtain⟨a,b,h1,h2,v,h3,h4⟩:=sub_ok hk;exact fM ⟨v,fG h1 h2 h3 (by decide),h4⟩
 case h_3=>obtain⟨a,b,h1,h2,v,h3,h4⟩:=mul_ok hk;exact fM ⟨v,fG h1 h2 h3 (by decide),h4⟩
 case h_4=>obtain⟨a,b,h1,h2,v,h3,h4⟩:=and_ok hk;exact fM ⟨v,fG h1 h2 h3 (by decide),h4⟩
 case h_5=>obtain⟨a,b,h1,h2,v,h3,h4⟩:=or_ok hk;exact fM ⟨v,fG h1 h2 h3 (by decide),h4⟩
 case h_6=>obtain⟨a,b,h1,h2,v,h3,h4⟩:=xor_ok hk;exact fM ⟨v,fG h1 h2 h3 (by decide),h4⟩
 case h_7=>obtain⟨a,b,h1,h2,v,h3,h4⟩:=lss_ok hk;exact fM ⟨v,fG h1 h2 h3 (by decide),h4⟩
 case h_8=>obtain⟨a,b,h1,h2,v,h3,h4⟩:=leq_ok hk;exact fM ⟨v,fG h1 h2 h3 (by decide),h4⟩
 case h_9=>obtain⟨a,b,h1,h2,v,h3,h4⟩:=gtr_ok hk;exact fM ⟨v,fG h1 h2 h3 (by decide),h4⟩
 case h_10=>obtain⟨a,b,h1,h2,v,h3,h4⟩:=geq_ok hk;exact fM ⟨v,fG h1 h2 h3 (by decide),h4⟩
 case h_11=>obtain⟨a,b,h1,h2,v,h3,h4⟩:=eqi_ok hk;exact fM ⟨v,fG h1 h2 h3 (by decide),h4⟩
 case h_12=>obtain⟨a,b,h1,h2,v,h3,h4⟩:=nei_ok hk;exact fM ⟨v,fG h1 h2 h3 (by decide),h4⟩
 case h_13=>obtain⟨a,b,h1,h2,v,h3,h4⟩:=quo_ok hk;exact fM ⟨v,fG h1 h2 h3 (by decide),h4⟩
 case h_14=>obtain⟨a,b,h1,h2,v,h3,h4⟩:=rem_ok hk;exact fM ⟨v,fG h1 h2 h3 (by decide),h4⟩
theorem yQ {op:BinOp} {t:Nat} {x y:AV} {c:Bool} {a b:List UInt8} {r:Option AV} (h1:x= .s a)(h2:y= .s b)(h3:y7 op a b=r):gy P op t x y c=r:=by
 subst h1 h2 h3
 unfold gy
 cases op <;> rfl
theorem OZ {op:BinOp} {t:Nat} {x y:bG} (hk:OU P op t x y ρ K=true):iZ P ρ (.bin op t x y) σ K:=by
 unfold OU at hk
 split at hk
 ·obtain⟨a,b,h1,h2,v,h3,h4⟩:=OA hk
  exact fM ⟨v,yQ h1 h2 h3,h4⟩
 ·obtain⟨a,b,h1,h2,v,h3,h4⟩:=Vb hk
  exact fM ⟨v,yQ h1 h2 (by rw [h3];rfl),h4⟩
 ·obtain⟨a,b,h1,h2,v,h3,h4⟩:=Vd hk
  exact fM ⟨v,yQ h1 h2 (by rw [h3];rfl),h4⟩
 ·exact iq hk
include bJ
theorem Vr {op:BinOp} {t:Nat} {x y:bG} (hy:∀v,y= .c v→(ρ y).av=v)(hk:gBin P τ op t x y ρ K=true):iZ P ρ (.bin op t x y) σ K:=by
 unfold gBin at hk
 split at hk
 ·rename_i T hT
  split at hk
  ·exact OY hk
  ·exact OZ hk
  ·split at hk
   ·rename_i v
    cases hb:Nat.beq (isNil v) (vG T.d) with
    | false=>rw [hb,iP] at hk;exact iq hk
    | true=>
      rw [hb,jd] at hk
      have hv:=Nat.eq_of_beq_eq_true hb
      unfold Y9 at hk
      split at hk
      ·obtain⟨b,h1,h2,h3⟩:=nil_eq (bJ _ _ hT) (K:=fun b=>kB b K) hk hv
       obtain⟨r,h4,h5⟩:=yF h1
       refine fM ⟨r,?_,h5⟩
       rw [hy v rfl,show (x.isC || (bG.c v).isC)=true by simp [bG.isC],h2,h4]
      ·obtain⟨b,h1,h2,h3⟩:=nil_eq (bJ _ _ hT) (K:=fun b=>kN b K) hk hv
       obtain⟨r,h4,h5⟩:=Oh h1
       refine fM ⟨r,?_,h5⟩
       rw [hy v rfl,show (x.isC || (bG.c v).isC)=true by simp [bG.isC],h3,h4]
      ·exact iq hk
   ·exact iq hk
 ·cases hk
omit bJ in
theorem gUn_ok {op:UnOp} {x:bG} (hk:gUn P op x ρ K=true):iZ P ρ (.un op x) σ K:=by
 unfold gUn at hk
 split at hk
 ·obtain⟨b,h1,v,h2,h3⟩:=Vo hk
  exact⟨v,by simp only [dL,h1,Tq,h2];rfl,h3⟩
 ·exact iq hk
theorem Vs {t:Nat} {x:bG} (hk:gLen P τ t x ρ K=true):iZ P ρ (.len t x) σ K:=by
 unfold gLen at hk
 split at hk
 ·rename_i T hT
  obtain⟨d,s1,b1,z1,c1,hd1,g1⟩:=T
  simp only at hk
  split at hk
  ·obtain⟨a,h1,v,h2,h3⟩:=OB hk
   exact⟨v,by simp only [dL,h1,y8,bJ _ _ hT,h2];rfl,h3⟩
  ·rcases OC hk with ⟨o,g,off,n,z,h1,v,h2,h3⟩ | ⟨h1,v,h2,h3⟩
   ·exact⟨v,by simp only [dL,h1,y8,bJ _ _ hT,h2];rfl,h3⟩
   ·exact⟨v,by simp only [dL,h1,y8,bJ _ _ hT,h2];rfl,h3⟩
  ·exact iq hk
 ·cases hk
theorem Vt {t:Nat} {x:bG} {f:Nat} (hk:gFad τ t x f ρ K=true):iZ P ρ (.kW t x f) σ K:=by
 unfold gFad at hk
 split at hk
 ·rename_i T hT
  obtain⟨d,s1,b1,z1,c1,hd1,g1⟩:=T
  simp only at hk
  split at hk
  ·rename_i fs
   split at hk
   ·rename_i r hr
    obtain⟨h1,hk2⟩:=aF hk
    have h1:0<sH τ r.2.1:=Nat.le_of_ble_eq_true h1
    unfold aH at hk2
    split at hk2
    ·rename_i o g b hx
     refine⟨_,?_,hk2⟩
     simp only [dL,hx,FV.vN,Jf,bJ _ _ hT,hr,Option.bind_some]
     rw [if_pos (by rw [jQ bJ h1];exact h1)];rfl
    ·cases hk2
   ·cases hk
  ·cases hk
 ·cases hk
theorem Vu {t:Nat} {x:bG} {f:Nat} (hk:gFld τ t x f ρ K=true):iZ P ρ (.vI t x f) σ K:=by
 unfold gFld at hk
 split at hk
 ·rename_i T hT
  obtain⟨d,s1,b1,z1,c1,hd1,g1⟩:=T
  simp only at hk
  split at hk
  ·rename_i fs
   split at hk
   ·rename_i r hr
    split at hk
    ·rename_i F hF
     cases ha:F.d.agg with
     | true=>
       rw [ha,jd] at hk
       unfold AL at hk
       split at hk
       ·rename_i a l hx
        obtain⟨h1,hk2⟩:=aF hk
        rw [uy,yJ,sV] at hk2
        refine⟨_,?_,hk2⟩
        have h1:r.1+F.size≤l.length:=Nat.le_of_ble_eq_true h1
        simp only [dL,hx,oJ,E_,bJ _ _ hT,hr,Option.bind_some,bJ _ _ hF,partOf,ha,if_true,List.length_map]
        rw [if_pos h1,List.map_take,List.map_drop];rfl
       ·cases hk
     | false=>
       rw [ha,iP] at hk
       unfold mP at hk
       split at hk
       ·rename_i a l hx
        obtain⟨v,h1,h2⟩:=Cj _ _ hk
        refine⟨v,?_,h2⟩
        simp only [dL,hx,oJ,E_,bJ _ _ hT,hr,Option.bind_some,bJ _ _ hF,partOf,ha,Bool.false_eq_true,if_false,List.getElem?_map,h1,Option.map_some]
       ·cases hk
    ·cases hk
   ·cases hk
  ·cases hk
 ·cases hk
theorem Vw {t:Nat} {x i:bG} (hk:gIad τ t x i ρ K=true):iZ P ρ (.g_ t x i) σ K:=by
 unfold gIad at hk
 split at hk
 ·rename_i T hT
  obtain⟨d,s1,b1,z1,c1,hd1,g1⟩:=T
  simp only at hk
  split at hk
  ·rename_i e
   obtain⟨h1,hk2⟩:=aF hk
   have h1:0<sH τ e:=Nat.le_of_ble_eq_true h1
   have hz:=jQ bJ h1
   unfold eY at hk2
   split at hk2
   ·rename_i o g b n z' hx
    obtain⟨h2,hk3⟩:=aF hk2
    obtain⟨q,j,h3,hk4⟩:=gX hk3
    obtain⟨h4,hk5⟩:=aF hk4
    have h2:=Nat.eq_of_beq_eq_true h2
    have h4:j<n:=Nat.le_of_ble_eq_true h4
    refine⟨_,?_,hk5⟩
    simp only [dL,hx,FV.qc,h3,Fa,bJ _ _ hT]
    rw [if_pos ⟨by rw [hz,h2],by omega,by omega,by omega⟩,h2]
    simp [FV.vN]
   ·cases hk2
  ·rename_i n e
   obtain⟨h1,hk2⟩:=aF hk
   have h1:0<sH τ e:=Nat.le_of_ble_eq_true h1
   have hz:=jQ bJ h1
   unfold iF at hk2
   split at hk2
   ·rename_i o g b hx
    obtain⟨q,j,h3,hk4⟩:=gX hk2
    obtain⟨h4,hk5⟩:=aF hk4
    have h4:j<n:=Nat.le_of_ble_eq_true h4
    refine⟨_,?_,hk5⟩
    simp only [dL,hx,FV.vN,h3,Fa,bJ _ _ hT]
    rw [if_pos ⟨by rw [hz];exact h1,by omega,by omega⟩,hz]
    simp
   ·cases hk2
  ·cases hk
 ·cases hk
theorem Vx {t:Nat} {x i:bG} (hk:gIdx P τ t x i ρ K=true):iZ P ρ (.idx t x i) σ K:=by
 unfold gIdx at hk
 split at hk
 ·rename_i T hT
  obtain⟨d,s1,b1,z1,c1,hd1,g1⟩:=T
  simp only at hk
  split at hk
  ·obtain⟨a,q,j,h1,h2,b,h3,v,h4,h5⟩:=OD hk
   refine⟨v,?_,h5⟩
   simp only [dL,h1,h2,Bd,bJ _ _ hT]
   rw [if_pos (by omega),Int.toNat_natCast,h3,h4];rfl
  ·exact iq hk
 ·cases hk
omit bJ in
theorem CB {n:Nat} {lo hi:Option FV} {K:Nat→Nat→Bool} (hk:OV n lo hi K=true):∃a b,dN n n (lo.map FV.av) (hi.map FV.av)=some (a,b)∧a≤b∧b≤n∧K a b=true:=by
 unfold OV at hk
 split at hk
 ·exact⟨0,n,by simp [dN,E5,E8],Nat.zero_le _,Nat.le_refl _,hk⟩
 ·obtain⟨q,a,h1,hk2⟩:=gX hk
  obtain⟨h2,hk3⟩:=aF hk2
  have h2:a≤n:=Nat.le_of_ble_eq_true h2
  refine⟨a,n,?_,h2,Nat.le_refl _,hk3⟩
  simp only [Option.map_some,Option.map_none,h1,dN,E5,E8,Option.bind_some]
  rw [if_pos (by omega)];simp
 ·obtain⟨q,b,h1,hk2⟩:=gX hk
  obtain⟨h2,hk3⟩:=aF hk2
  have h2:b≤n:=Nat.le_of_ble_eq_true h2
  refine⟨0,b,?_,Nat.zero_le _,h2,hk3⟩
  simp only [Option.map_some,Option.map_none,h1,dN,E5]
  rw [if_pos (by omega)];simp [E8]
 ·obtain⟨q,a,h1,hk2⟩:=gX hk
  obtain⟨q',b,h1',hk3⟩:=gX hk2
  obtain⟨h2,hk4⟩:=aF hk3
  obtain⟨h3,hk5⟩:=aF hk4
  have h2:a≤b:=Nat.le_of_ble_eq_true h2
  have h3:b≤n:=Nat.le_of_ble_eq_true h3
  refine⟨a,b,?_,h2,h3,hk5⟩
  simp only [Option.map_some,h1,h1',dN,E5]
  rw [if_pos (by omega)]
  simp only [Option.bind_some,E8]
  rw [if_pos (by omega)];simp
theorem Vy (h:s.Is σ) {t:Nat} {x:bG} {lo hi:Option bG} (hk:gSlc τ t x lo hi ρ s K=true):iZ P ρ (.slc t x lo hi) σ K:=by
 have hm:∀l:Option bG,(l.map ρ).map FV.av=l.map (fun o=>(ρ o).av):=fun l=>by cases l <;> rfl
 unfold gSlc at hk
 split at hk
 ·rename_i T hT
  obtain⟨d,s1,b1,z1,c1,hd1,g1⟩:=T
  simp only at hk
  split at hk
  ·obtain⟨a,h1,r,h2,h3⟩:=OE hk
   rw [hm,hm] at h2
   refine⟨r,?_,h3⟩
   simp only [dL,h1,vK,bJ _ _ hT]
   rw [h2];rfl
  ·rename_i e
   obtain⟨h1,hk2⟩:=aF hk
   have h1:0<sH τ e:=Nat.le_of_ble_eq_true h1
   have hz:=jQ bJ h1
   unfold AU at hk2
   split at hk2
   ·rename_i o g off n z' hx
    obtain⟨h2,hk3⟩:=aF hk2
    have h2:=Nat.eq_of_beq_eq_true h2
    obtain⟨a,b,h3,_,_,hk4⟩:=CB hk3
    rw [jv,jv] at hk4
    rw [hm,hm] at h3
    refine⟨_,?_,hk4⟩
    simp only [dL,hx,FV.qc,vK,bJ _ _ hT]
    rw [if_pos ⟨by rw [hz,h2],by omega⟩,h3,h2];rfl
   ·rename_i t' x' hx
    obtain⟨h2,hk3⟩:=aF hk2
    have h2:t'= 3:=Nat.eq_of_beq_eq_true h2
    obtain⟨a,b,h3,_,_,hk4⟩:=CB hk3
    rw [hm,hm] at h3
    refine⟨_,?_,hk4⟩
    simp only [dL,hx,vK,bJ _ _ hT]
    rw [h2,show FV.av (.n 3 x')= .sl0 from rfl]
    simp only
    rw [if_pos (by rw [hz];exact h1),h3];rfl
   ·cases hk2
  ·rename_i n e
   obtain⟨h1,hk2⟩:=aF hk
   have h1:0<sH τ e:=Nat.le_of_ble_eq_true h1
   have hz:=jQ bJ h1
   unfold yP at hk2
   split at hk2
   ·rename_i o g off hx
    obtain⟨ro,e',n',m,d,t',cs,q1,q2,q3⟩:=jJ h hk2
    obtain⟨h2,hk3⟩:=aF q3
    have h2:off+n*sH τ e≤n':=Nat.le_of_ble_eq_true h2
    obtain⟨a,b,h3,_,_,hk4⟩:=CB hk3
    rw [jv,jv] at hk4
    rw [hm,hm] at h3
    refine⟨_,?_,hk4⟩
    simp only [dL,hx,FV.vN,vK,bJ _ _ hT]
    rw [hz,if_pos h1,iD q1]
    simp only [Option.bind_some]
    rw [if_pos (by rw [q2.len];exact h2),h3];rfl
   ·cases hk2
  ·cases hk
 ·cases hk
theorem O0 (h:s.Is σ) {t:Nat} {x:bG} (hk:OW τ t x ρ s K=true):iZ P ρ (.load t x) σ K:=by
 unfold OW at hk
 split at hk
 ·rename_i T hT
  cases ha:T.d.agg with
  | true=>
    rw [ha,jd] at hk
    obtain⟨v,h1,h2⟩:=AA h ha hk
    exact⟨v,by simp only [dL,bJ _ _ hT,h1];rfl,h2⟩
  | false=>
    rw [ha,iP] at hk
    obtain⟨v,h1,h2⟩:=jY h ha hk
    exact⟨v,by simp only [dL,bJ _ _ hT,h1];rfl,h2⟩
 ·cases hk
omit bJ in
theorem I4 (v:FV):∀(l:List FV) (k:Nat),(Vq v l k).map FV.av=(l.map FV.av).set k v.av
 | [],k=>rfl
 | a :: l,0=>rfl
 | a :: l,k+1=>by
   show (a :: Vq v l k).map FV.av=_
   rw [List.map_cons,I4 v l k,List.map_cons,List.set_cons_succ]
omit bJ in
theorem Ey {place:Nat→Option (Nat×Nat)} {K:List FV→List FV→Bool} :∀(ps:List (Nat×FV)) (cs os:List FV) (_:OX place K ps cs os=true),∃cs' os',K cs' os'= true∧(iG os'= true→iG os=true∧iV place (cs.map FV.av) (ps.map fun q=>(q.1,q.2.av))=some (cs'.map FV.av))
 | [],cs,os,hk=>⟨cs,os,hk,fun ho=>⟨ho,rfl⟩⟩
 | (i,v) :: ps,cs,os,hk=>by
   have hk':(match place i with
     | some (off,size)=>bC (Nat.beq size 1) (bC (Nat.ble (off+1) cs.length) (OX place K ps (Vq v cs off) (v :: os)) false) false
     | none=>false)=true:=hk
   split at hk'
   ·rename_i off size hp
    obtain⟨h1,hk2⟩:=aF hk'
    obtain⟨h2,hk3⟩:=aF hk2
    have h1:=Nat.eq_of_beq_eq_true h1
    have h2:off+1≤cs.length:=Nat.le_of_ble_eq_true h2
    obtain⟨cs',os',q1,q2⟩:=Ey ps _ _ hk3
    refine⟨cs',os',q1,fun ho=>?_⟩
    obtain⟨r1,r2⟩:=q2 ho
    obtain⟨w1,w2⟩:=jF r1
    refine⟨w2,?_⟩
    simp only [List.map_cons,iV,hp]
    obtain⟨v1,v2⟩:=lG w1
    rw [v2,if_pos ⟨h1.symm,by rw [List.length_map];omega,by simp [v1]⟩]
    rw [I4] at r2
    exact r2
   ·cases hk'
theorem Kr {t:Nat} {ps:List (Nat×bG)} (hk:GK P τ t ps ρ K=true):iZ P ρ (.build t ps) σ K:=by
 unfold GK at hk
 split at hk
 ·rename_i T hT
  obtain⟨d,s1,b1,z1,c1,hd1,g1⟩:=T
  simp only at hk
  split at hk
  ·rename_i fs
   cases hc:bC (allT τ fs) (bC (qg z1.cells) (Y_ (fun i=>(fs[i]?).bind fun f=>(τ f.2.1).map fun F=>(f.1,F.size)) ps) false) false with
   | false=>rw [hc,iP] at hk;exact iq hk
   | true=>
     rw [hc,jd] at hk
     obtain⟨h1,h2⟩:=aF hc
     obtain⟨h2,_⟩:=aF h2
     obtain⟨cs',os',q1,q2⟩:=Ey _ _ _ hk
     obtain⟨q3,q4⟩:=aF q1
     obtain⟨_,q5⟩:=q2 q3
     refine⟨_,?_,q4⟩
     rw [fQ _ h2,List.map_map] at q5
     simp only [dL,jy,bJ _ _ hT]
     rw [if_pos (BL bJ fs h1)]
     have q6:=yh (q:=fun i=>(fs[i]?).bind fun f=>(aA P f.2.1).map fun F=>(f.1,F.size)) (fun i r hi=>by
      rw [Option.bind_eq_some_iff] at hi ⊢
      obtain⟨f,hf,hi⟩:=hi
      rw [Option.map_eq_some_iff] at hi
      obtain⟨F,hF,rfl⟩:=hi
      exact⟨f,hf,by rw [bJ _ _ hF];rfl⟩) _ _ _ q5
     have e1:(ps.map fun q=>(q.1,(ρ q.2).av))=ps.map ((fun q:Nat×FV=>(q.1,q.2.av)) ∘ fun q=>(q.1,ρ q.2)):=rfl
     rw [e1,q6]
     rw [oJ];rfl
  ·exact iq hk
 ·cases hk
theorem Vz (h:s.Is σ) {b:Bool} {t1 t2:Nat} {x:bG} (hk:gCvp τ b t1 t2 x ρ s K=true):iZ P ρ (.vY b t1 t2 x) σ K:=by
 unfold gCvp at hk
 split at hk
 ·rename_i A B hA hB
  obtain⟨d1,s1,b1,z1,c1,hd1,g1⟩:=A
  obtain⟨d2,s2,b2,z2,c2,hd2,g2⟩:=B
  simp only at hk
  split at hk
  ·obtain⟨q,n,h1,v,h2,h3⟩:=OM hk
   refine⟨v,?_,h3⟩
   simp only [dL,Bc,bJ _ _ hB,iJ,bJ _ _ hA,h1,h2];rfl
  ·obtain⟨h1,hk2⟩:=aF hk
   obtain⟨_,_,_,_,_,_,he⟩:=pz bJ h1
   obtain⟨v,h2,h3⟩:=AQ (bJ _ _ hA) (bJ _ _ hB) he h hk2
   refine⟨v,?_,h3⟩
   simp only [dL,Bc,bJ _ _ hB,h2];rfl
  ·cases hk
 ·cases hk
theorem yR (h:s.Is σ) {op:dA} (hc:∀v,bG.c v∈op.bM→(ρ (.c v)).av=v)(hk:Ew P τ op ρ s K=true):iZ P ρ op σ K:=by
 unfold Ew at hk
 split at hk
 ·exact⟨_,rfl,hk⟩
 ·obtain⟨v,h1,h2⟩:=En hk
  exact⟨v,by simp only [dL,h1];rfl,h2⟩
 ·exact O0 bJ h hk
 ·rename_i op t x y
  exact Vr bJ (fun v hv=>by rw [hv];exact hc v (by rw [hv];simp [dA.bM])) hk
 ·exact gUn_ok hk
 ·exact Vs bJ hk
 ·exact Vt bJ hk
 ·exact Vu bJ hk
 ·exact Vw bJ hk
 ·exact Vx bJ hk
 ·rename_i x i
  obtain⟨vs,h1,v,h2,h3⟩:=Vm hk
  exact⟨v,by simp only [dL,h1,h2];rfl,h3⟩
 ·rename_i x
  unfold aY at hk
  split at hk
  ·rename_i hx;exact⟨_,by simp only [dL,hx,FV.vN,Fh];rfl,hk⟩
  ·rename_i hx;exact⟨_,by simp only [dL,hx,Ed,Fh];rfl,hk⟩
  ·rename_i hx;exact⟨_,by simp only [dL,hx];rfl,hk⟩
  ·cases hk
 ·rename_i t x
  unfold gMki at hk
  split at hk
  ·cases hk
  ·rename_i T hn hT
   refine⟨_,?_,hk⟩
   simp only [dL,bJ _ _ hT]
   rw [Ed]
  ·cases hk
 ·unfold gMkf at hk
  split at hk
  ·refine⟨_,?_,hk⟩
   simp only [dL]
   rw [FV.BP,FV.uD]
   simp only [List.map_cons,List.map_nil,oJ,List.map_map];rfl
  ·cases hk
 ·exact Vy bJ h hk
 ·exact Kr bJ hk
 ·exact Vz bJ h hk
 ·exact iq hk
end
end Go.dD
namespace Go.dD
abbrev Rn:=Nat→List FV→GS→KS→Bool
section
variable (X:Ctx)(τ:gK)(run:Rn)
noncomputable def bg (t:Nat)(s:GS)(K:KS):Bool:=match τ t with
 | some T=>bC (qg T.zero.cells) (newL t (dY T.zero.cells) s fun o s'=>K (.p o (nat_lit 0) (nat_lit 0)) s') false
 | none=>false
noncomputable def uJ (x:FV)(K:List FV→Bool):Bool:=match x with
 | .c 0 _ l=>K l
 | x=>K [x]
noncomputable def fA (t:Nat)(x:FV)(s:GS)(K:KS):Bool:=uJ x fun l=>newL t l s fun o s'=>K (.p o (nat_lit 0) (nat_lit 0)) s'
noncomputable def GL (t:Nat)(x y:bG)(ρ:bG→FV)(s:GS)(K:KS):Bool:=match τ t with
 | some T=>bC T.d.agg (aI T.size (ρ x) (ρ y) s fun s'=>K (.c (nat_lit 1) (nat_lit 0) []) s') (bC (Nat.beq T.size (nat_lit 1)) (aW (ρ x) (ρ y) s fun s'=>K (.c (nat_lit 1) (nat_lit 0) []) s') false)
 | none=>false
noncomputable def dOfS (e:Nat)(x:FV)(s:GS)(K:KS):Bool:=match x with
 | .s n v=>Cc n v fun l=>newT e l s fun o s'=>K (.sl o (nat_lit 0) (nat_lit 0) n (nat_lit 1)) s'
 | _=>false
noncomputable def isSt:FV→Bool:=FV.rec (motive_1:=fun _=>Bool) (motive_2:=fun _=>PUnit) (fun _ _=>false) (fun _ _ _=>false) (fun _ _ _ _ _=>false) (fun _ _=>true) (fun _ _ _ _=>false) ⟨⟩ (fun _ _ _ _=>⟨⟩)
noncomputable def O1 (a b:Nat)(x:bG)(ρ:bG→FV)(s:GS)(K:KS):Bool:=match τ a,τ b with
 | some A,some B=>(match A.d,B.d with
   | _,.int k=>eG (tg k) (md k) (ρ x) fun v=>K v s
   | .str,.str=>bC (isSt (ρ x)) (K (ρ x) s) false
   | .str,.slice e=>bC (D9 τ e) (dOfS e (ρ x) s K) false
   | .slice e,.str=>bC (D9 τ e) (GI (ρ x) s fun v=>K v s) false
   | _,_=>false)
 | _,_=>false
noncomputable def GN (e z b:Nat)(d:List FV)(l c:FV)(s:GS)(K:KS):Bool:=pO l fun l=>pO c fun c=>bC (Nat.ble l c) (bC (bC (Nat.ble c (nat_lit 9223372036854775807)) (Nat.ble (Nat.mul b c) (nat_lit 140737488355328)) false) (fN (Nat.mul c z) fun n=>OH e n z d s fun o s'=>K (.sl o (nat_lit 0) (nat_lit 0) l z) s') false) false
noncomputable def gMks (t:Nat)(l c:bG)(ρ:bG→FV)(s:GS)(K:KS):Bool:=match τ t with
 | some T=>(match T.d with
   | .slice e=>(match τ e with
     | some E=>bC (bC (Nat.ble (nat_lit 1) E.size) (bC (Nat.beq E.zero.cells.length E.size) (bC (qg E.zero.cells) (iG (dY E.zero.cells)) false) false) false)
       (GN e E.size E.bytes (dY E.zero.cells) (ρ l) (ρ c) s K) false
     | none=>false)
   | _=>false)
 | none=>false
noncomputable def O3 (z:Nat):List (Nat×FV)→List FV→(List FV→Bool)→Bool:=List.rec (motive:=fun _=>List FV→(List FV→Bool)→Bool) (fun cs K=>K cs) (fun p _ ih cs K=>uJ p.2 fun ys=>bC (Nat.beq ys.length z) (bC (Nat.ble (Nat.add (Nat.mul p.1 z) z) cs.length) (bC (iG ys) (Y0 (yK (IX (Nat.mul p.1 z) cs) (yK ys (Et (Nat.add (Nat.mul p.1 z) z) cs))) fun cs=>ih cs K) false) false) false)
noncomputable def vU (e z n:Nat)(zs:List FV)(ps:List (Nat×FV))(s:GS)(K:KS):Bool:=O3 z ps zs fun cs=>newT e cs s fun o s'=>K (.sl o (nat_lit 0) (nat_lit 0) n z) s'
noncomputable def gBsl (t n:Nat)(ps:List (Nat×bG))(ρ:bG→FV)(s:GS)(K:KS):Bool:=match τ t with
 | some T=>(match T.d with
   | .slice e=>(match τ e with
     | some E=>bC (bC (Nat.ble (nat_lit 1) E.size) (bC (Nat.beq E.zero.cells.length E.size) (bC (qg (h_ E.zero.cells n)) (Nat.ble (Nat.mul n E.size) (nat_lit 16777216)) false) false) false)
       (vU e E.size n (dY (h_ E.zero.cells n)) (ps.map fun q=>(q.1,ρ q.2)) s K) false
     | none=>false)
   | _=>false)
 | none=>false
noncomputable def gApp (t:Nat)(x y:bG)(ρ:bG→FV)(s:GS)(K:KS):Bool:=match τ t with
 | some T=>(match T.d with
   | .slice e=>(match τ e with
     | some E=>bC (bC (Nat.ble (nat_lit 1) E.size) (bC (Nat.beq E.zero.cells.length E.size) (Nat.ble (nat_lit 1) E.bytes) false) false) (Ce e E.size E.bytes (ρ x) (ρ y) s K) false
     | none=>false)
   | _=>false)
 | none=>false
noncomputable def gCopy (t:Nat)(x y:bG)(ρ:bG→FV)(s:GS)(K:KS):Bool:=match τ t with
 | some T=>(match T.d with
   | .slice e=>(match τ e with
     | some E=>Eu E.size (ρ x) (ρ y) s K
     | none=>false)
   | _=>false)
 | none=>false
noncomputable def GR (x:FV)(s:GS)(K:KS):Bool:=match x with
 | .p o g 0=>Option.rec (motive:=fun _=>Bool) false (fun f=>GO.rec (motive:=fun _=>Bool) (fun _ _ _ _ _ _ _=>false) (fun g' n v pos=>bC (Nat.beq g g') (bC (Nat.ble (Nat.succ pos) n) (bC (Nat.ble n (nat_lit 9223372036854775807)) (fN (Nat.mod (Nat.shiftRight v (Nat.mul (nat_lit 8) pos)) (nat_lit 256)) fun b=>bC (Nat.ble b (nat_lit 127)) (fN (Nat.succ pos) fun pos'=>s.put o (.iter g' n v pos') fun s'=>K (.c (nat_lit 1) (nat_lit 0) [.n (nat_lit 1) (nat_lit 1),.n (nat_lit 36893488147419103233) pos,.n (nat_lit 8589934593) b]) s') false) false) (K (.c (nat_lit 1) (nat_lit 0) [.n (nat_lit 1) (nat_lit 0)]) s)) false) (fun _ _=>false) false (fun _ _ _ _=>false) f) (s.t.get o)
 | _=>false
noncomputable def Kt (x:FV)(s:GS)(K:KS):Bool:=match x with
 | .s n v=>s.new (.iter (nat_lit 0) n v (nat_lit 0)) fun o s'=>K (.p o (nat_lit 0) (nat_lit 0)) s'
 | _=>false
noncomputable def gRng (t:Nat)(x:bG)(ρ:bG→FV)(s:GS)(K:KS):Bool:=match τ t with
 | some T=>(match T.d with
   | .str=>Kt (ρ x) s K
   | _=>false)
 | none=>false
noncomputable def Ez (d:AD)(x y:FV):Option Bool:=match d,x,y with
 | .str,.s n v,.s m w=>some (Ox n v m w)
 | .int k,.n t a,.n t' b=>bC (Nat.beq t (tg k)) (bC (Nat.beq t' (tg k)) (some (Nat.beq (Nat.mod a (md k)) (Nat.mod b (md k)))) none) none
 | _,_,_=>none
noncomputable def CG (d:AD)(x:FV):Bool:=match d,x with
 | .str,.s _ _=>true
 | .int k,.n t _=>Nat.beq t (tg k)
 | _,_=>false
noncomputable def EC (d:AD)(k:FV)(A:Nat→FV×FV→Bool)(B:Bool):List (FV×FV)→Nat→Bool:=List.rec (motive:=fun _=>Nat→Bool) (fun _=>B) (fun e _ ih i=>Option.rec (motive:=fun _=>Bool) false (fun b=>bC b (A i e) (ih (Nat.succ i))) (Ez d k e.1))
noncomputable def VA (x:FV)(s:GS)(K:List (FV×FV)→Bool):Bool:=match x with
 | .n t _=>bC (Nat.beq t (nat_lit 6)) (K []) false
 | .c 5 o _=>Option.rec (motive:=fun _=>Bool) false (fun f=>GO.rec (motive:=fun _=>Bool) (fun _ _ _ _ _ _ _=>false) (fun _ _ _ _=>false) (fun g es=>bC (Nat.beq g (nat_lit 0)) (K es) false) false (fun _ _ _ _=>false) f) (s.t.get o)
 | _=>false
noncomputable def VB (d:AD)(ok:Bool)(z x k:FV)(s:GS)(K:KF):Bool:=bC (CG d k) (VA x s fun es=>EC d k (fun _ e=>bC ok (K (.c (nat_lit 1) (nat_lit 0) [e.2,.n (nat_lit 1) (nat_lit 1)])) (K e.2)) (bC ok (K (.c (nat_lit 1) (nat_lit 0) [z,.n (nat_lit 1) (nat_lit 0)])) (K z)) es (nat_lit 0)) false
noncomputable def O4 (t:Nat)(x k:bG)(ok:Bool)(ρ:bG→FV)(s:GS)(K:KF):Bool:=match τ t with
 | some T=>(match T.d with
   | .map kt et=>(match τ kt,τ et with
     | some KT,some E=>bC (Ko E.zero) (VB KT.d ok (vT E.zero) (ρ x) (ρ k) s K) false
     | _,_=>false)
   | _=>false)
 | none=>false
noncomputable def dMup (d:AD)(m k v:FV)(s:GS)(K:KS):Bool:=match m with
 | .c 5 o l=>bC (CG d k) (VA (.c 5 o l) s fun es=>EC d k (fun i _=>Y0 (es.set i (k,v)) fun es'=>s.put o (.maps (nat_lit 0) es') fun s'=>K (.c (nat_lit 1) (nat_lit 0) []) s') (Y0 (es ++ [(k,v)]) fun es'=>s.put o (.maps (nat_lit 0) es') fun s'=>K (.c (nat_lit 1) (nat_lit 0) []) s') es (nat_lit 0)) false
 | _=>false
noncomputable def gMup (t:Nat)(m k v:bG)(ρ:bG→FV)(s:GS)(K:KS):Bool:=match τ t with
 | some T=>(match T.d with
   | .map kt _=>(match τ kt with
     | some KT=>dMup KT.d (ρ m) (ρ k) (ρ v) s K
     | none=>false)
   | _=>false)
 | none=>false
noncomputable def gMkm (r:Option bG)(s:GS)(K:KS):Bool:=match r with
 | none=>s.new (.maps (nat_lit 0) []) fun o s'=>K (.c (nat_lit 5) o []) s'
 | some _=>false
noncomputable def cu (f:FV)(args:List FV)(s:GS)(K:KS):Bool:=match f with
 | .c 3 k [.c 0 _ a,.c 0 _ c]=>Y0 (a ++ args ++ c) fun l=>run k l s K
 | _=>false
noncomputable def GU (f:bG)(args:List bG)(ρ:bG→FV)(s:GS)(K:KS):Bool:=match f with
 | .c (.fn (.func k) [] [])=>run k (args.map ρ) s K
 | f=>cu run (ρ f) (args.map ρ) s K
noncomputable def gInv (x:FV)(m:String)(args:List FV)(s:GS)(K:KS):Bool:=match x with
 | .c 2 t [v]=>(match X.meth t m v.av with
   | some k=>bC (Ko k.2) (run k.1 (vT k.2 :: args) s K) false
   | none=>false)
 | _=>false
noncomputable def ED (op:dA)(ρ:bG→FV)(s:GS)(K:KS):Bool:=match op with
 | .alloc t=>bg τ t s K
 | .box t x=>fA t (ρ x) s K
 | .zG t n ps=>gBsl τ t n ps ρ s K
 | .store t x y=>GL τ t x y ρ s K
 | .conv a b x=>O1 τ a b x ρ s K
 | .G9 t l c=>gMks τ t l c ρ s K
 | .rng t x=>gRng τ t x ρ s K
 | .Jc x=>GR (ρ x) s K
 | .app t _ x y=>gApp τ t x y ρ s K
 | .copy t x y=>gCopy τ t x y ρ s K
 | .call f args=>GU run f args ρ s K
 | .inv x m args=>gInv X run (ρ x) m (args.map ρ) s K
 | .S9 _ r=>gMkm r s K
 | .KN t m k v=>gMup τ t m k v ρ s K
 | .EY t x k ok=>O4 τ t x k ok ρ s fun v=>K v s
 | op=>Ew X.P τ op ρ s fun v=>K v s
end
def Rn.Ok (X:Ctx)(run:Rn):Prop:=∀(f:Nat) (args:List FV) (s:GS) (σ:St) (K:KS),s.Is σ→run f args s K=true→∃n,Tj (bFn X n f (args.map FV.av) σ) K
def jO (X:Ctx)(ρ:bG→FV)(op:dA)(σ:St)(K:KS):Prop:=∃n,Tj (cO X (bFn X n) (fun o=>(ρ o).av) op σ) K
section
variable {X:Ctx} {τ:gK} (bJ:τ.Ok X.P) {run:Rn} (hr:run.Ok X) {ρ:bG→FV} {K:KS} {s:GS} {σ:St} (h:s.Is σ)
include h
theorem AX {op:dA} (ho:∀n:Nat,cO X (bFn X n) (fun o=>(ρ o).av) op σ=dL X.P (fun o=>(ρ o).av) op σ)(hp:iZ X.P ρ op σ fun v=>K v s):jO X ρ op σ K:=by
 obtain⟨v,h1,h2⟩:=hp
 exact⟨0,v,σ,s,by rw [ho,h1],h,h2⟩
include bJ
theorem Ku {t:Nat} (hk:bg τ t s K=true):jO X ρ (.alloc t) σ K:=by
 unfold bg at hk
 split at hk
 ·rename_i T hT
  obtain⟨h1,h2⟩:=aF hk
  obtain⟨s',q1,q2⟩:=sZ h h2
  rw [fQ _ h1] at q2
  exact⟨0,_,_,s',by simp only [cO,dL,bJ _ _ hT];rfl,q2,q1⟩
 ·cases hk
omit bJ in
theorem VD {t:Nat} {x:bG} (hk:fA t (ρ x) s K=true):jO X ρ (.box t x) σ K:=by
 unfold fA uJ at hk
 split at hk
 ·rename_i a l hx
  obtain⟨s',q1,q2⟩:=sZ h hk
  refine⟨0,_,_,s',?_,q2,q1⟩
  simp only [cO,dL,hx,oJ];rfl
 ·have hone:sU (ρ x)=true:=by
   obtain⟨h1,_⟩:=aF hk
   exact(jF h1).1
  obtain⟨h1,h2⟩:=lG hone
  obtain⟨s',q1,q2⟩:=sZ h hk
  refine⟨0,_,_,s',?_,q2,q1⟩
  simp only [cO,dL]
  have e: [ρ x].map FV.av=(ρ x).av.cells:=by rw [h2];rfl
  rw [e]
  split
  ·rename_i e2;rw [e2] at h1;cases h1
  ·rename_i e2;rw [e2] at h1;cases h1
  ·rename_i e2;rw [e2] at h1;cases h1
  ·rfl
theorem Kv {t:Nat} {x y:bG} (hk:GL τ t x y ρ s K=true):jO X ρ (.store t x y) σ K:=by
 unfold GL at hk
 split at hk
 ·rename_i T hT
  cases ha:T.d.agg with
  | true=>
    rw [ha,jd] at hk
    obtain⟨σ',s',h1,h2,h3⟩:=Gy h hk
    exact⟨0,_,σ',s',by simp only [cO,dL,bJ _ _ hT,h1];rfl,h2,h3⟩
  | false=>
    rw [ha,iP] at hk
    obtain⟨h0,hk2⟩:=aF hk
    obtain⟨σ',s',h1,h2,h3⟩:=yM h (Nat.eq_of_beq_eq_true h0) hk2
    exact⟨0,_,σ',s',by simp only [cO,dL,bJ _ _ hT,h1];rfl,h2,h3⟩
 ·cases hk
theorem O5 {a b:Nat} {x:bG} (hk:O1 τ a b x ρ s K=true):jO X ρ (.conv a b x) σ K:=by
 unfold O1 at hk
 split at hk
 ·rename_i A B hA hB
  obtain⟨d1,s1,b1,z1,c1,hd1,g1⟩:=A
  obtain⟨d2,s2,b2,z2,c2,hd2,g2⟩:=B
  simp only at hk
  split at hk
  ·obtain⟨q,n,h1,v,h2,h3⟩:=OM hk
   refine⟨0,v,σ,s,?_,h,h3⟩
   simp only [cO,dL,iJ,bJ _ _ hA,bJ _ _ hB,h1,h2]
  ·obtain⟨h1,hk2⟩:=aF hk
   cases hx:ρ x with
   | s n v=>
     rw [hx] at hk2
     exact⟨0,_,σ,s,by simp only [cO,dL,iJ,bJ _ _ hA,bJ _ _ hB,hx,FV.sN],h,hk2⟩
   | _=>rw [hx] at h1;cases h1
  ·rename_i e
   obtain⟨h1,hk2⟩:=aF hk
   obtain⟨_,_,_,_,_,_,he⟩:=pz bJ h1
   unfold dOfS at hk2
   split at hk2
   ·rename_i n v hx
    obtain⟨l,q1,q2,q3,q4⟩:=uI n v hk2
    obtain⟨s',r1,r2⟩:=Cb h q1
    refine⟨0,_,_,s',?_,r2,r1⟩
    simp only [cO,dL,iJ,bJ _ _ hA,bJ _ _ hB,hx,FV.sN,he,d_,FV.qc]
    rw [q2];rfl
   ·cases hk2
  ·rename_i e
   obtain⟨h1,hk2⟩:=aF hk
   obtain⟨_,_,_,_,_,_,he⟩:=pz bJ h1
   obtain⟨v,h2,h3⟩:=AQ (bJ _ _ hA) (bJ _ _ hB) he h hk2
   exact⟨0,v,σ,s,h2,h,h3⟩
  ·cases hk
 ·cases hk
theorem VE {t:Nat} {l c:bG} (hk:gMks τ t l c ρ s K=true):jO X ρ (.G9 t l c) σ K:=by
 unfold gMks at hk
 split at hk
 ·rename_i T hT
  obtain⟨d1,s1,b1,z1,c1,hd1,g1⟩:=T
  simp only at hk
  split at hk
  ·rename_i e
   split at hk
   ·rename_i E hE
    obtain⟨h1,hk2⟩:=aF hk
    obtain⟨h2,h1⟩:=aF h1
    obtain⟨h3,h1⟩:=aF h1
    obtain⟨h4,h5⟩:=aF h1
    unfold GN at hk2
    obtain⟨k1,l',q1,hk3⟩:=gX hk2
    obtain⟨k2,c',q2,hk4⟩:=gX hk3
    obtain⟨q3,hk5⟩:=aF hk4
    obtain⟨q4,hk6⟩:=aF hk5
    rw [jv] at hk6
    have h2:1≤E.size:=Nat.le_of_ble_eq_true h2
    have h3:=Nat.eq_of_beq_eq_true h3
    have q3:l'≤c':=Nat.le_of_ble_eq_true q3
    obtain⟨hc9,q4⟩:=aF q4
    have hc9:c'≤9223372036854775807:=Nat.le_of_ble_eq_true hc9
    have q4:E.bytes*c'≤140737488355328:=Nat.le_of_ble_eq_true q4
    have hlen:(dY E.zero.cells).length=E.size:=by
     have:=congrArg List.length (fQ _ h4)
     rw [List.length_map] at this;omega
    have hrep:=dn.rep h5 c'
    rw [hlen,fQ _ h4] at hrep
    obtain⟨s',r1,r2⟩:=wM h hrep hk6
    refine⟨0,_,_,s',?_,r2,r1⟩
    simp only [cO,dL,Jg,bJ _ _ hT,bJ _ _ hE,q1,q2]
    rw [if_pos ⟨by omega,h3,by omega,by omega,by omega,by omega⟩]
    simp [FV.qc]
   ·cases hk
  ·cases hk
 ·cases hk
omit h bJ in
omit h bJ in
theorem Kw {x:FV} {K:List FV→Bool} (hk:uJ x K=true):∃l,K l=true∧(iG l=true→x.av.cells=l.map FV.av):=by
 unfold uJ at hk
 split at hk
 ·refine⟨_,hk,fun _=>?_⟩
  rw [oJ];rfl
 ·exact⟨_,hk,fun ho=>(lG (jF ho).1).2⟩
omit h bJ in
theorem EF {z:Nat} :∀(ps:List (Nat×FV)) (cs:List FV) {K:List FV→Bool} (_:O3 z ps cs K=true),∃cs',K cs'= true∧iV (fun i=>some (i*z,z)) (cs.map FV.av) (ps.map fun q=>(q.1,q.2.av))=some (cs'.map FV.av)
 | [],cs,K,hk=>⟨cs,hk,rfl⟩
 | (i,v) :: ps,cs,K,hk=>by
   have hk':(uJ v fun ys=>bC (Nat.beq ys.length z) (bC (Nat.ble (i*z+z) cs.length) (bC (iG ys) (Y0 (yK (IX (i*z) cs) (yK ys (Et (i*z+z) cs))) fun cs=>O3 z ps cs K) false) false) false)=true:=hk
   obtain⟨ys,h1,h2⟩:=Kw hk'
   obtain⟨h3,h1⟩:=aF h1
   obtain⟨h4,h1⟩:=aF h1
   obtain⟨h5,h1⟩:=aF h1
   rw [uy,nN,nN,yJ,sV] at h1
   have h3:=Nat.eq_of_beq_eq_true h3
   have h4:i*z+z≤cs.length:=Nat.le_of_ble_eq_true h4
   obtain⟨cs',q1,q2⟩:=EF ps _ h1
   refine⟨cs',q1,?_⟩
   simp only [List.map_cons,iV]
   rw [h2 h5,if_pos ⟨by rw [List.length_map];exact h3,by rw [List.length_map];exact h4,oM ys h5⟩]
   rw [setCells_eq _ _ _ (by rw [List.length_map,List.length_map,h3];exact h4),List.length_map,h3]
   simp only [List.map_append,List.map_take,List.map_drop] at q2
   exact q2
theorem VF {t n:Nat} {ps:List (Nat×bG)} (hk:gBsl τ t n ps ρ s K=true):jO X ρ (.zG t n ps) σ K:=by
 unfold gBsl at hk
 split at hk
 ·rename_i T hT
  obtain⟨d1,s1,b1,z1,c1,hd1,g1⟩:=T
  simp only at hk
  split at hk
  ·rename_i e
   split at hk
   ·rename_i E hE
    obtain⟨h1,hk2⟩:=aF hk
    obtain⟨h2,h1⟩:=aF h1
    obtain⟨h3,h1⟩:=aF h1
    obtain⟨h4,h5⟩:=aF h1
    unfold vU at hk2
    obtain⟨cs',q1,q2⟩:=EF _ _ hk2
    obtain⟨s',r1,r2⟩:=Cb h q1
    rw [fQ _ h4,List.map_map] at q2
    refine⟨0,_,_,s',?_,r2,r1⟩
    simp only [cO,dL,Jd,bJ _ _ hT,bJ _ _ hE]
    rw [if_pos ⟨Nat.le_of_ble_eq_true h2,Nat.eq_of_beq_eq_true h3,Nat.le_of_ble_eq_true h5⟩]
    have e1:(ps.map fun q=>(q.1,(ρ q.2).av))=ps.map ((fun q:Nat×FV=>(q.1,q.2.av)) ∘ fun q=>(q.1,ρ q.2)):=rfl
    rw [e1,q2];rfl
   ·cases hk
  ·cases hk
 ·cases hk
theorem VG {t:Nat} {b:Bool} {x y:bG} (hk:gApp τ t x y ρ s K=true):jO X ρ (.app t b x y) σ K:=by
 unfold gApp at hk
 split at hk
 ·rename_i T hT
  obtain⟨d1,s1,b1,z1,c1,hd1,g1⟩:=T
  simp only at hk
  split at hk
  ·rename_i e
   split at hk
   ·rename_i E hE
    obtain⟨h1,hk2⟩:=aF hk
    obtain⟨h2,h1⟩:=aF h1
    obtain⟨h3,h4⟩:=aF h1
    exact⟨0,Vk h (bJ _ _ hT) (bJ _ _ hE) (Nat.le_of_ble_eq_true h2) (Nat.eq_of_beq_eq_true h3) (Nat.le_of_ble_eq_true h4) hk2⟩
   ·cases hk
  ·cases hk
 ·cases hk
theorem O6 {t:Nat} {x y:bG} (hk:gCopy τ t x y ρ s K=true):jO X ρ (.copy t x y) σ K:=by
 unfold gCopy at hk
 split at hk
 ·rename_i T hT
  obtain⟨d1,s1,b1,z1,c1,hd1,g1⟩:=T
  simp only at hk
  split at hk
  ·rename_i e
   split at hk
   ·rename_i E hE
    exact⟨0,OI h (bJ _ _ hT) (bJ _ _ hE) hk⟩
   ·cases hk
  ·cases hk
 ·cases hk
theorem VH {t:Nat} {x:bG} (hk:gRng τ t x ρ s K=true):jO X ρ (.rng t x) σ K:=by
 unfold gRng at hk
 split at hk
 ·rename_i T hT
  obtain⟨d1,s1,b1,z1,c1,hd1,g1⟩:=T
  simp only at hk
  split at hk
  ·unfold Kt at hk
   split at hk <;> first | cases hk | skip
   rename_i n v hx
   obtain⟨s',q1,q2⟩:=GS.qH h (f:=.iter 0 n v 0) (a:=⟨0,false,.iter (eF n v) 0⟩) rfl hk
   exact⟨0,_,_,s',by simp only [cO,dL,Jh,bJ _ _ hT,hx,FV.sN];rfl,q2,q1⟩
  ·cases hk
 ·cases hk
omit bJ in
theorem VI {x:bG} (hk:GR (ρ x) s K=true):jO X ρ (.Jc x) σ K:=by
 unfold GR at hk
 split at hk
 ·rename_i o g hx
  cases ho:s.t.get o with
  | none=>rw [ho] at hk;cases hk
  | some f=>
    rw [ho] at hk
    cases f with
    | iter g' n v pos=>
      obtain⟨h1,hk2⟩:=aF hk
      have h1:=Nat.eq_of_beq_eq_true h1
      obtain⟨a,h2,rfl⟩:=h.2 _ _ ho
      have hx':(ρ x).av= .p o g 0:=by rw [hx];rfl
      cases hp:Nat.ble (Nat.succ pos) n with
      | true=>
        rw [hp,jd] at hk2
        obtain⟨h3,hk3⟩:=aF hk2
        rw [jv] at hk3
        obtain⟨h4,hk4⟩:=aF hk3
        rw [jv] at hk4
        have hp:pos<n:=Nat.le_of_ble_eq_true hp
        have h3:n≤9223372036854775807:=Nat.le_of_ble_eq_true h3
        have hb:Nat.mod (Nat.shiftRight v (Nat.mul 8 pos)) 256=v / 256^pos%256:=by rw [Gv];rfl
        rw [show Nat.mod (Nat.shiftRight v (Nat.mul (nat_lit 8) pos)) (nat_lit 256)=v / 256^pos%256 from hb] at h4 hk4
        have h4:v / 256^pos%256≤127:=Nat.le_of_ble_eq_true h4
        obtain⟨s',r1,r2⟩:=GS.kL h (sW h2) (f:=.iter g' n v (pos+1)) (a:=⟨g',false,.iter (eF n v) (pos+1)⟩) rfl hk4
        have hdec:Utf8.decode ⟨(eF n v).toArray⟩ pos=(v / 256^pos%256,1):=by
            have hg:=yE pos n v hp
            have hsz:pos<(ByteArray.mk (eF n v).toArray).size:=by
             show pos<(eF n v).toArray.size
             simp [d_,hp]
            have hgt:(ByteArray.mk (eF n v).toArray)[pos]'hsz=UInt8.ofNat (v / 256^pos%256):=by
             have e1:(ByteArray.mk (eF n v).toArray)[pos]'hsz=(eF n v)[pos]'(by rw [d_];exact hp):=by
              show (eF n v).toArray[pos]'_=_
              simp
             rw [e1]
             rw [List.getElem?_eq_getElem (by rw [d_];exact hp)] at hg
             exact Option.some.inj hg
            have e2:(UInt8.ofNat (v / 256^pos%256)).toNat=v / 256^pos%256:=by
             rw [UInt8.toNat_ofNat']
             exact Nat.mod_eq_of_lt (by omega)
            have:=Go.decode_ascii ⟨(eF n v).toArray⟩ pos hsz (by rw [hgt,e2];omega)
            rw [this,hgt,e2]
        refine⟨0,_,_,s',?_,r2,r1⟩
        simp only [cO,dL,hx',Fe,h2]
        rw [if_pos ⟨h1,trivial⟩,if_pos (by rw [d_];exact hp),hdec]
        rw [vF]
        simp only [List.map_cons,List.map_nil]
        rw [fP (by omega),show FV.av (.n 8589934593 (v / 256^pos%256))= .i .i32 ((v / 256^pos%256:Nat):Int) by
            rw [FV.yC,show (8589934593:Nat)=tg .i32 from rfl,jl,wrap_small .i32 (by simp only [IntKind.signed,IntKind.bits,if_true];omega)]]
        rfl
      | false=>
        rw [hp,iP] at hk2
        have hp:¬pos<n:=fun hl=>by
            have:=Nat.ble_eq_true_of_le hl
            rw [this] at hp;cases hp
        refine⟨0,_,σ,s,?_,h,hk2⟩
        simp only [cO,dL,hx',Fe,h2]
        rw [if_pos ⟨h1,trivial⟩,if_neg (by rw [d_];exact hp)];rfl
    | _=>cases hk
 ·cases hk
end
end Go.dD
namespace Go.dD
section
variable {P:Program} {kt:Nat} {KT:AT} (hK:aA P kt=some KT)
include hK
theorem O7 {x y:FV} {b:Bool} (h:Ez KT.d x y=some b):pR P 20 kt x.av y.av=some b∧(b=true→x.av=y.av):=by
 unfold Ez at h
 split at h
 ·rename_i n v m w hd
  cases h
  rw [BQ]
  refine⟨by unfold pR;rw [hK];simp only [hd,FV.sN],fun e=>?_⟩
  rw [FV.sN,FV.sN,eq_of_beq e]
 ·rename_i k t a t' b' hd
  obtain⟨h1,h2⟩:=IQ h
  obtain⟨h3,h4⟩:=IQ h2
  cases h4
  rw [Nat.eq_of_beq_eq_true h1,Nat.eq_of_beq_eq_true h3,yO,fU,fU]
  refine⟨by unfold pR;rw [hK];simp only [hd,if_true],fun e=>?_⟩
  rw [eq_of_beq e]
 ·cases h
theorem AY {x:FV} (h:CG KT.d x=true):nZ P kt x.av=true∧wo x.av=true:=by
 unfold CG at h
 split at h
 ·rename_i n v hd
  exact⟨by simp only [nZ,hK,hd,FV.sN,jA,Bool.true_or],rfl⟩
 ·rename_i k t a hd
  rw [Nat.eq_of_beq_eq_true h,fU]
  exact⟨by simp only [nZ,hK,hd,jA,Bool.true_or],rfl⟩
 ·cases h
theorem yS {k:FV} {A:Nat→FV×FV→Bool} {B:Bool} :∀(es:List (FV×FV)) (i:Nat) (_:EC KT.d k A B es i=true),
 (∃j e,lq P kt k.av (vS es) i=some (some (i+j,(e.1.av,e.2.av)))∧es[j]? =some e∧A (i+j) e=true∧k.av=e.1.av)∨(lq P kt k.av (vS es) i=some none∧B=true)
 | [],i,h=>.inr ⟨rfl,h⟩
 | e :: es,i,h=>by
   have h':Option.rec (motive:=fun _=>Bool) false (fun b=>bC b (A i e) (EC KT.d k A B es (i+1))) (Ez KT.d k e.1)=true:=h
   cases hq:Ez KT.d k e.1 with
   | none=>rw [hq] at h';cases h'
   | some b=>
     rw [hq] at h'
     obtain⟨q1,q2⟩:=O7 hK hq
     cases b with
     | true=>
       have h':A i e=true:=h'
       exact .inl ⟨0,e,by simp only [vS,List.map_cons,lq,q1,Nat.add_zero],rfl,h',q2 rfl⟩
     | false=>
       have h':EC KT.d k A B es (i+1)=true:=h'
       rcases yS es (i+1) h' with ⟨j,e',r1,r2,r3,r4⟩ | ⟨r1,r2⟩
       ·refine .inl ⟨j+1,e',?_,by simpa using r2,?_,r4⟩
        ·rw [show i+(j+1)=i+1+j by omega]
         simp only [vS,List.map_cons,lq,q1]
         exact r1
        ·rw [show i+(j+1)=i+1+j by omega];exact r3
       ·refine .inr ⟨?_,r2⟩
        simp only [vS,List.map_cons,lq,q1]
        exact r1
end
section
variable {X:Ctx} {τ:gK} (bJ:τ.Ok X.P) {run:Rn} (hr:run.Ok X) {ρ:bG→FV} {K:KS} {s:GS} {σ:St} (h:s.Is σ)
include h
theorem I5 {x:FV} {K:List (FV×FV)→Bool} (hk:VA x s K=true):∃es,mZ σ x.av=some (vS es)∧K es=true∧(∀o l,x= .c 5 o l→σ[o]? =some ⟨0,false,.maps (vS es)⟩):=by
 unfold VA at hk
 split at hk
 ·rename_i t x
  obtain⟨h1,h2⟩:=aF hk
  have h1:t=6:=Nat.eq_of_beq_eq_true h1
  subst h1
  exact⟨[],rfl,h2,fun o l e=>by cases e⟩
 ·rename_i o l
  cases ho:s.t.get o with
  | none=>rw [ho] at hk;cases hk
  | some f=>
    rw [ho] at hk
    cases f with
    | maps g es=>
      obtain⟨h1,h2⟩:=aF hk
      have h1:g=0:=Nat.eq_of_beq_eq_true h1
      subst h1
      obtain⟨a,q1,rfl⟩:=h.2 _ _ ho
      refine⟨es,?_,h2,fun o' l' e=>by cases e;exact q1⟩
      rw [show FV.av (.c 5 o l)= .mp o 0 from rfl]
      simp only [mZ,q1,if_true]
    | _=>cases hk
 ·cases hk
include bJ
theorem CJ {t:Nat} {x k:bG} {ok:Bool} {K:KF} (hk:O4 τ t x k ok ρ s K=true):iZ X.P ρ (.EY t x k ok) σ K:=by
 unfold O4 at hk
 split at hk
 ·rename_i T hT
  obtain⟨d1,s1,b1,z1,c1,hd1,g1⟩:=T
  simp only at hk
  split at hk
  ·rename_i kt et
   split at hk
   ·rename_i KT E Js hE
    obtain⟨h1,hk1⟩:=aF hk
    unfold VB at hk1
    obtain⟨h2,hk2⟩:=aF hk1
    obtain⟨es,q1,hk3,_⟩:=I5 h hk2
    obtain⟨r1,_⟩:=AY (bJ _ _ Js) h2
    rcases yS (bJ _ _ Js) es 0 hk3 with ⟨j,e,w1,w2,w3,w4⟩ | ⟨w1,w2⟩
    ·cases ok with
     | true=>
       refine⟨_,?_,w3⟩
       simp only [dL,wV,bJ _ _ hT,q1,bJ _ _ hE]
       rw [if_pos r1,w1,vF];rfl
     | false=>
       refine⟨_,?_,w3⟩
       simp only [dL,wV,bJ _ _ hT,q1,bJ _ _ hE]
       rw [if_pos r1,w1];rfl
    ·cases ok with
     | true=>
       refine⟨_,?_,w2⟩
       simp only [dL,wV,bJ _ _ hT,q1,bJ _ _ hE]
       rw [if_pos r1,w1,vF]
       simp only [List.map_cons,jW _ h1];rfl
     | false=>
       refine⟨_,?_,w2⟩
       simp only [dL,wV,bJ _ _ hT,q1,bJ _ _ hE]
       rw [if_pos r1,w1,jW _ h1];rfl
   ·cases hk
  ·cases hk
 ·cases hk
theorem VJ {t:Nat} {m k v:bG} (hk:gMup τ t m k v ρ s K=true):jO X ρ (.KN t m k v) σ K:=by
 unfold gMup at hk
 split at hk
 ·rename_i T hT
  obtain⟨d1,s1,b1,z1,c1,hd1,g1⟩:=T
  simp only at hk
  split at hk
  ·rename_i kt et
   split at hk
   ·rename_i KT Js
    unfold dMup at hk
    split at hk
    ·rename_i o l hm
     obtain⟨h2,hk2⟩:=aF hk
     obtain⟨es,q1,hk3,q2⟩:=I5 h hk2
     have q2:=q2 o l rfl
     obtain⟨r1,r2⟩:=AY (bJ _ _ Js) h2
     have hmv:(ρ m).av= .mp o 0:=by rw [hm];rfl
     rcases yS (bJ _ _ Js) es 0 hk3 with ⟨j,e,w1,w2,w3,w4⟩ | ⟨w1,w2⟩
     ·rw [Nat.zero_add] at w1 w3
      rw [uy] at w3
      obtain⟨s',v1,v2⟩:=GS.kL h (sW q2) (f:=.maps 0 (es.set j (ρ k,ρ v))) (a:=⟨0,false,.maps ((vS es).set j ((ρ k).av,(ρ v).av))⟩) (by simp only [GO.Is,vS,List.map_set]) w3
      refine⟨0,_,_,s',?_,v2,v1⟩
      simp only [cO,dL,Jl,bJ _ _ hT,hmv,q2]
      rw [if_pos ⟨trivial,r1⟩,w1]
      simp only
      rw [if_pos ⟨by rw [w4];exact AV.lU _,r2⟩];rfl
     ·rw [uy] at w2
      obtain⟨s',v1,v2⟩:=GS.kL h (sW q2) (f:=.maps 0 (es ++ [(ρ k,ρ v)])) (a:=⟨0,false,.maps (vS es ++ [((ρ k).av,(ρ v).av)])⟩) (by simp only [GO.Is,vS,List.map_append,List.map_cons,List.map_nil]) w2
      refine⟨0,_,_,s',?_,v2,v1⟩
      simp only [cO,dL,Jl,bJ _ _ hT,hmv,q2]
      rw [if_pos ⟨trivial,r1⟩,w1];rfl
    ·cases hk
   ·cases hk
  ·cases hk
 ·cases hk
include hr
omit bJ in
theorem Ky {f:bG} {args:List bG} (hf:∀v,f= .c v→(ρ f).av=v)(hk:GU run f args ρ s K=true):jO X ρ (.call f args) σ K:=by
 unfold GU at hk
 have hmm:(args.map ρ).map FV.av=args.map fun o=>(ρ o).av:=by rw [List.map_map];rfl
 split at hk
 ·rename_i k
  obtain⟨n,hn⟩:=hr _ _ _ _ _ h hk
  refine⟨n,?_⟩
  simp only [cO]
  rw [hf _ rfl]
  simp only [List.nil_append,List.append_nil]
  rw [←hmm];exact hn
 ·unfold cu at hk
  split at hk
  ·rename_i k a1 a a2 c hx
   rw [uy] at hk
   obtain⟨n,hn⟩:=hr _ _ _ _ _ h hk
   refine⟨n,?_⟩
   have e:(ρ f).av= .fn (.func k) (a.map FV.av) (c.map FV.av):=by
        rw [hx,FV.BP,FV.uD]
        simp only [List.map_cons,List.map_nil,oJ];rfl
   simp only [cO,e]
   rw [←hmm,←List.map_append,←List.map_append];exact hn
  ·cases hk
omit bJ in
theorem VK {x:bG} {m:String} {args:List bG} (hk:gInv X run (ρ x) m (args.map ρ) s K=true):jO X ρ (.inv x m args) σ K:=by
 unfold gInv at hk
 have hmm:(args.map ρ).map FV.av=args.map fun o=>(ρ o).av:=by rw [List.map_map];rfl
 split at hk
 ·rename_i t v hx
  split at hk
  ·rename_i k hm
   obtain⟨h1,h2⟩:=aF hk
   obtain⟨n,hn⟩:=hr _ _ _ _ _ h h2
   refine⟨n,?_⟩
   simp only [cO,hx,Ed,hm]
   rw [List.map_cons,jW _ h1,hmm] at hn
   exact hn
  ·cases hk
 ·cases hk
theorem EG {op:dA} (hc:∀v,bG.c v∈op.bM→(ρ (.c v)).av=v)(hk:ED X τ run op ρ s K=true):jO X ρ op σ K:=by
 unfold ED at hk
 split at hk
 ·exact Ku bJ h hk
 ·exact VD h hk
 ·exact VF bJ h hk
 ·exact Kv bJ h hk
 ·exact O5 bJ h hk
 ·exact VE bJ h hk
 ·exact VH bJ h hk
 ·exact VI h hk
 ·exact VG bJ h hk
 ·exact O6 bJ h hk
 ·rename_i f args
  exact Ky hr h (fun v hv=>by rw [hv];exact hc v (by rw [hv];simp [dA.bM])) hk
 ·exact VK hr h hk
 ·rename_i t r
  unfold gMkm at hk
  split at hk
  ·obtain⟨s',q1,q2⟩:=GS.qH h (f:=.maps 0 []) (a:=⟨0,false,.maps []⟩) rfl hk
   exact⟨0,_,_,s',rfl,q2,q1⟩
  ·cases hk
 ·exact VJ bJ h hk
 ·exact AX h (fun n=>rfl) (CJ bJ h hk)
 ·refine AX h (fun n=>?_) (yR bJ h hc hk)
  cases op <;> first | rfl | (exfalso;rename_i q _ _ _ _;exact q _ _ rfl) | (exfalso;simp_all;done)
end
end Go.dD
namespace Go.dD
section
variable (X:Ctx)(τ:gK)(run:Rn)
noncomputable def aS (x:FV)(w:Bool)(G:KF→Bool)(K:KF):Bool:=Ot x w (G fun v=>K (.c (nat_lit 4) (nat_lit 1) [v])) (K (.c (nat_lit 4) (nat_lit 0) [.n (nat_lit 0) (nat_lit 0)]))
noncomputable def lT (x:FV)(w:Bool)(G:KS→Bool)(s:GS)(K:KS):Bool:=Ot x w (G K) (K (.c (nat_lit 1) (nat_lit 0) []) s)
noncomputable def uK (e:dU)(op:dA)(s:GS)(K:KF):Bool:=match op with
 | .pick q a b=>bC (au (EW e q)) (aT (ay (EW e q)) (EW e a) (EW e b) K) false
 | .EY t x k ok=>oO e (O4 τ t x k ok (OJ e) s K) [x,k]
 | op=>oO e (Ew X.P τ op (OJ e) s K) op.bM
noncomputable def O8 (a:AI)(e:dU)(s:GS)(K:KS):Bool:=bC (a.op.bM.all qJ) (match a.gd with
 | none=>ED X τ run a.op (EW e) s K
 | some (n,w)=>bC a.op.pure (aS (jf e n) w (uK X τ e a.op s) fun v=>K v s) (lT (jf e n) w (fun K=>oO e (ED X τ run a.op (OJ e) s K) a.op.bM) s K)) false
noncomputable def O9:List AI→dU→GS→(dU→GS→Bool)→Bool:=List.rec (motive:=fun _=>dU→GS→(dU→GS→Bool)→Bool) (fun e s K=>K e s) (fun a _ ih e s K=>O8 X τ run a e s (Option.rec (motive:=fun _=>KS) (fun _ s=>ih e s K) (fun d v s=>ih ((d,v) :: e) s K) a.d))
noncomputable def eu (a b:FV):Bool:=AV.eqv a.av b.av
noncomputable def GV (op:dA)(e:dU)(s:GS)(K:KF):Bool:=match op with
 | .EY t x k ok=>O4 τ t x k ok (EW e) s K
 | op=>Ew X.P τ op (EW e) s K
noncomputable def gAgP (op:dA)(g:Option (Nat×Bool))(e:dU)(s:GS)(K:KF):Bool:=match g with
 | none=>GV X τ op e s K
 | some (n,w)=>aS (jf e n) w (uK X τ e op s) K
noncomputable def gAg1 (a:AI)(e:dU)(s:GS)(B:Bool):Bool:=match a.d with
 | some d=>bC (bC (a.op.bM.all qJ) a.op.pure false) (gAgP X τ a.op a.gd e s fun v=>bC (eu v (jf e d)) B false) false
 | none=>false
noncomputable def VL (e:dU)(s:GS)(B:Bool):List AI→Bool:=List.rec (motive:=fun _=>Bool) B (fun a _ ih=>gAg1 X τ a e s ih)
noncomputable def O_:List (AI×List AI)→dU→GS→(dU→GS→Bool)→Bool:=List.rec (motive:=fun _=>dU→GS→(dU→GS→Bool)→Bool) (fun e s K=>K e s) (fun a _ ih e s K=>O8 X τ run a.1 e s fun v s=>VL X τ e s (Option.rec (motive:=fun _=>Bool) (ih e s K) (fun d=>ih ((d,v) :: e) s K) a.1.d) a.2)
end
section
variable {X:Ctx} {τ:gK} (bJ:τ.Ok X.P) {run:Rn} (hr:run.Ok X) {s:GS} {σ:St} (h:s.Is σ)
theorem Za {e:dU} {op:dA} (ho:op.bM.all qJ=true):∀v,bG.c v∈op.bM→(EW e (.c v)).av=v:=fun v hv=>by
 rw [List.all_eq_true] at ho
 exact oN (ho _ hv)
theorem Zb {e:dU} {op:dA} (ho:op.bM.all qJ=true):∀v,bG.c v∈op.bM→(OJ e (.c v)).av=v:=fun v hv=>by
 rw [List.all_eq_true] at ho
 have h1:=ho _ hv
 rw [Gz h1]
 have h2:=(aF h1).2
 show v.val=v
 cases v <;> first | rfl | cases h2
theorem Pg {e:dU} {op:dA} {K:KS} (ho:op.bM.all qJ=true)(hk:jO X (EW e) op σ K):∃n,Tj (cO X (bFn X n) (bG.ev (fV e)) op σ) K:=by
 obtain⟨n,hn⟩:=hk
 rw [List.all_eq_true] at ho
 exact⟨n,by rw [←nO (fun o hm=>oN (ho o hm))];exact hn⟩
theorem Ph {e:dU} {op:dA} {K:KS} (ho:op.bM.all qJ=true)(hk:jO X (OJ e) op σ K):∃n,Tj (cO X (bFn X n) (fun o=>(o.ev (fV e)).val) op σ) K:=by
 obtain⟨n,hn⟩:=hk
 rw [List.all_eq_true] at ho
 refine⟨n,?_⟩
 rw [←nO (ρ:=fun o=>(OJ e o).av) (ρ':=fun o=>(o.ev (fV e)).val) (fun o hm=>Gz (ho o hm))]
 exact hn
include bJ h
theorem AZ {e:dU} {op:dA} {K:KF} (hp:op.pure=true)(ho:op.bM.all qJ=true)(hk:uK X τ e op s (fun v=>K (.c 4 1 [v]))=true):∃v:FV,gB X.P (fV e) op σ=some v.av∧K v=true:=by
 have main:∀(op:dA),op.pure=true→(∀q a b,op≠.pick q a b)→op.bM.all qJ=true→oO e true op.bM=true→iZ X.P (OJ e) op σ (fun v=>K (.c 4 1 [v]))→∃v:FV,gB X.P (fV e) op σ=some v.av∧K v=true:=by
  intro op hp hn ho hc hq
  obtain⟨v,h1,h2⟩:=hq
  have ho':=ho
  rw [List.all_eq_true] at ho'
  have e1:=nO (X:=X) (run:=fun _ _ _=>none) (ρ:=fun o=>(OJ e o).av) (ρ':=fun o=>(o.ev (fV e)).val) (fun o hm=>Gz (ho' o hm)) σ
  have e2:dL X.P (fun o=>(OJ e o).av) op σ=dL X.P (fun o=>(o.ev (fV e)).val) op σ:=by
   cases op <;> first | exact e1 | cases hp
  rw [e2] at h1
  refine⟨_,?_,h2⟩
  have h3:=(tq _ ho hc).1
  unfold gB
  split
  ·exact(hn _ _ _ rfl).elim
  ·rw [h1]
   simp only [dV,lW]
   rw [if_pos h3,Ob]
 have cut:∀(B:Bool) (l:List bG),l.all qJ=true→oO e B l=true→oO e true l=true∧B=true:=by
  intro B l
  induction l with
  | nil=>intro _ hB;exact⟨rfl,hB⟩
  | cons o l ih=>
    intro hl hB
    simp only [List.all_cons,Bool.and_eq_true] at hl
    cases o with
    | t n=>
      have hB':bC (au (jf e n)) (oO e B l) false=true:=hB
      obtain⟨q1,q2⟩:=aF hB'
      obtain⟨q3,q4⟩:=ih hl.2 q2
      refine⟨?_,q4⟩
      show bC (au (jf e n)) (oO e true l) false=true
      rw [q1,q3]
    | c v=>exact ih hl.2 hB
 unfold uK at hk
 split at hk
 ·rename_i q a b
  simp only [dA.bM,List.all_cons,List.all_nil,Bool.and_true,Bool.and_eq_true] at ho
  have hk':Ov (EW e q) (EW e a) (EW e b) K=true:=hk
  obtain⟨v,h1,h2⟩:=J8 hk'
  rw [oN ho.1,oN ho.2.1,oN ho.2.2] at h1
  exact⟨v,h1,h2⟩
 ·rename_i t x k ok
  obtain⟨h1,h2⟩:=cut _ _ ho hk
  exact main _ hp (fun _ _ _ e=>by cases e) ho h1 (CJ bJ h h2)
 ·rename_i hn1 hn2
  obtain⟨h1,h2⟩:=cut _ _ ho hk
  exact main _ hp hn1 ho h1 (yR bJ h (Zb ho) h2)
include hr
theorem EH {a:AI} {e:dU} {K:KS} (hk:O8 X τ run a e s K=true):∃n,Tj (b_ X (bFn X n) (fV e) a σ) K:=by
 obtain⟨d,g,op⟩:=a
 obtain⟨ho,hk⟩:=aF hk
 have ho:op.bM.all qJ=true:=ho
 cases g with
 | none=>exact Pg ho (EG bJ hr h (Za ho) hk)
 | some g=>
   obtain⟨n,w⟩:=g
   have hk:bC op.pure (aS (jf e n) w (uK X τ e op s) fun v=>K v s) (lT (jf e n) w (fun K=>oO e (ED X τ run op (OJ e) s K) op.bM) s K)=true:=hk
   cases hp:op.pure with
   | true=>
     rw [hp,jd] at hk
     rcases yH hk with ⟨h1,h2⟩ | ⟨h1,h2⟩
     ·rw [gY,←jE] at h1
      obtain⟨v,q1,q2⟩:=AZ bJ h (K:=fun v=>K v s) hp ho h2
      exact⟨0,v,σ,s,by unfold b_;simp only [h1];rw [if_pos hp];unfold iI;rw [if_pos rfl,q1];rfl,h,q2⟩
     ·rw [gY,←jE] at h1
      exact⟨0,_,σ,s,by unfold b_;simp only [h1];rw [if_pos hp];rfl,h,h2⟩
   | false=>
     rw [hp,iP] at hk
     rcases yH hk with ⟨h1,h2⟩ | ⟨h1,h2⟩
     ·rw [gY,←jE] at h1
      obtain⟨q1,q2⟩:=tq _ ho h2
      obtain⟨m,hm⟩:=Ph ho (EG bJ hr h (Zb ho) q2)
      exact⟨m,by unfold b_;simp only [h1];rw [if_neg (by simp [hp]),if_pos trivial,if_pos q1];exact hm⟩
     ·rw [gY,←jE] at h1
      exact⟨0,_,σ,s,by unfold b_;simp only [h1];rw [if_neg (by simp [hp]),if_neg (by simp)];rfl,h,h2⟩
def ToE (o:Option (Env×St))(K:dU→GS→Bool):Prop:=∃e' σ' s',o=some (fV e',σ')∧GS.Is s' σ'∧K e' s'= true
end
section
variable {X:Ctx} {τ:gK} (bJ:τ.Ok X.P) {run:Rn} (hr:run.Ok X)
include bJ hr
theorem I7:∀{ops:List AI} {e:dU} {s:GS} {σ:St} {K:dU→GS→Bool},s.Is σ→O9 X τ run ops e s K=true→∃n,ToE (jU X (bFn X n) ops (fV e) σ) K
 | [],e,s,σ,K,h,hk=>⟨0,e,σ,s,rfl,h,hk⟩
 | a :: ops,e,s,σ,K,h,hk=>by
   obtain⟨n,v,σ1,s1,h1,h2,h3⟩:=EH bJ hr h (K:=Option.rec (motive:=fun _=>KS) (fun _ s=>O9 X τ run ops e s K) (fun d v s=>O9 X τ run ops ((d,v) :: e) s K) a.d) hk
   have h4:∃e1:dU,fV e1=put a.d v.av (fV e)∧O9 X τ run ops e1 s1 K=true:=by
     cases hd:a.d with
     | none=>rw [hd] at h3;exact⟨e,rfl,h3⟩
     | some d=>rw [hd] at h3;exact⟨(d,v) :: e,rfl,h3⟩
   obtain⟨e1,h5,h6⟩:=h4
   obtain⟨m,e',σ',s',q1,q2,q3⟩:=I7 h2 h6
   refine⟨max n m,e',σ',s',?_,q2,q3⟩
   simp only [jU]
   rw [l7 (qF X (Nat.le_max_left n m)) h1]
   simp only
   rw [←h5]
   exact rP (qF X (Nat.le_max_right n m)) q1
omit hr in
theorem Pj {e:dU} {s:GS} {σ:St} (h:s.Is σ) {B:Bool} :∀(l:List AI) (_:VL X τ e s B l=true),l.all (lJ X (fV e) σ)=true∧B=true
 | [],hk=>⟨rfl,hk⟩
 | ⟨d,g,op⟩ :: l,hk=>by
   cases d with
   | none=>cases hk
   | some d=>
     have hk0:bC (bC (op.bM.all qJ) op.pure false) (gAgP X τ op g e s fun v=>bC (eu v (jf e d)) (VL X τ e s B l) false) false=true:=hk
     clear hk
     have hk:=hk0
     clear hk0
     obtain⟨ho,hk⟩:=aF hk
     obtain⟨ho,hp⟩:=aF ho
     have fin:∀v:FV,b_ X (fun _ _ _=>none) (fV e) ⟨some d,g,op⟩ σ=some (v.av,σ)→bC (eu v (jf e d)) (VL X τ e s B l) false=true→(AI.mk (some d) g op :: l).all (lJ X (fV e) σ)=true∧B=true:=by
      intro v h1 h2
      obtain⟨h3,h4⟩:=aF h2
      obtain⟨h5,h6⟩:=Pj h l h4
      refine⟨?_,h6⟩
      simp only [List.all_cons,h5,Bool.and_true]
      unfold lJ
      simp only [h1]
      unfold eu at h3
      rw [gY] at h3
      exact h3
     have pcall:∀(ρ:bG→AV),cO X (fun _ _ _=>none) ρ op σ=dL X.P ρ op σ:=by
      intro ρ
      cases op <;> first | rfl | cases hp
     cases g with
     | none=>
       have hq:iZ X.P (EW e) op σ fun v=>bC (eu v (jf e d)) (VL X τ e s B l) false:=by
        have hk1:GV X τ op e s (fun v=>bC (eu v (jf e d)) (VL X τ e s B l) false)=true:=hk
        clear hk
        have hk:=hk1
        unfold GV at hk
        split at hk
        ·exact CJ bJ h hk
        ·exact yR bJ h (Za ho) hk
       obtain⟨v,h1,h2⟩:=hq
       refine fin v ?_ h2
       rw [List.all_eq_true] at ho
       unfold b_
       simp only
       rw [←nO (ρ:=fun o=>(EW e o).av) (fun o hm=>oN (ho o hm)),pcall]
       exact h1
     | some g=>
       obtain⟨n,w⟩:=g
       have hk:aS (jf e n) w (uK X τ e op s) (fun v=>bC (eu v (jf e d)) (VL X τ e s B l) false)=true:=hk
       rcases yH hk with ⟨h1,h2⟩ | ⟨h1,h2⟩
       ·rw [gY,←jE] at h1
        obtain⟨v,q1,q2⟩:=AZ bJ h (K:=fun v=>bC (eu v (jf e d)) (VL X τ e s B l) false) hp ho h2
        exact fin v (by unfold b_;simp only [h1];rw [if_pos hp];unfold iI;rw [if_pos rfl,q1];rfl) q2
       ·rw [gY,←jE] at h1
        exact fin _ (by unfold b_;simp only [h1];rw [if_pos hp];rfl) h2
theorem I8:∀{ops:List (AI×List AI)} {e:dU} {s:GS} {σ:St} {K:dU→GS→Bool},s.Is σ→O_ X τ run ops e s K=true→∃n,ToE (qm X (bFn X n) ops (fV e) σ) K
 | [],e,s,σ,K,h,hk=>⟨0,e,σ,s,rfl,h,hk⟩
 | (a,ag) :: ops,e,s,σ,K,h,hk=>by
   obtain⟨n,v,σ1,s1,h1,h2,h3⟩:=EH bJ hr h (K:=fun v s=>VL X τ e s (Option.rec (motive:=fun _=>Bool) (O_ X τ run ops e s K) (fun d=>O_ X τ run ops ((d,v) :: e) s K) a.d) ag) hk
   obtain⟨h7,h3⟩:=Pj bJ h2 _ h3
   have h4:∃e1:dU,fV e1=put a.d v.av (fV e)∧O_ X τ run ops e1 s1 K=true:=by
     cases hd:a.d with
     | none=>rw [hd] at h3;exact⟨e,rfl,h3⟩
     | some d=>rw [hd] at h3;exact⟨(d,v) :: e,rfl,h3⟩
   obtain⟨e1,h5,h6⟩:=h4
   obtain⟨m,e',σ',s',q1,q2,q3⟩:=I8 h2 h6
   refine⟨max n m,e',σ',s',?_,q2,q3⟩
   simp only [qm]
   rw [l7 (qF X (Nat.le_max_left n m)) h1]
   simp only
   rw [if_pos h7,←h5]
   exact rQ (qF X (Nat.le_max_right n m)) q1
end
end Go.dD
