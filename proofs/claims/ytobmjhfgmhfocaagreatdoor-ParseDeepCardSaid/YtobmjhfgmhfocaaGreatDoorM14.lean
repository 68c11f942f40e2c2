/- Texts of this claim, joined: Abs46, Abs47, Abs48, Abs49, Abs50, Abs51, Abs52. -/
import Derived.Test.YtobmjhfgmhfocaaGreatDoorM13
import Derived.Test.YtobmjhfgmhfocaaGreatDoorM09
import Derived.Laws.RangeString
set_option linter.unusedVariables false
set_option linter.unusedSimpArgs false
namespace Go.bK
noncomputable def b2n (x:Bool):Nat:=Bool.rec (motive:=fun _=>Nat) (nat_lit 0) (nat_lit 1) x
noncomputable def ofFn (f:Fn)(a c:List FV):FV:=match f with
 | .func k=>.c (nat_lit 3) k [.c (nat_lit 0) (nat_lit 0) a,.c (nat_lit 0) (nat_lit 0) c]
 | _=>.n (nat_lit 0) (nat_lit 0)
noncomputable def Iu (f:Fn):Bool:=match f with
 | .func _=>true
 | _=>false
noncomputable def AY:AV→FV:=AV.rec (motive_1:=fun _=>FV) (motive_2:=fun _=>List FV) (.n (nat_lit 0) (nat_lit 0)) (fun x=>.n (nat_lit 1) (b2n x)) (fun k n=>.n (tg k) (n%2^k.bits).toNat) (fun x=>.s x.length (pk x)) (.n (nat_lit 2) (nat_lit 0)) .p (.n (nat_lit 3) (nat_lit 0)) .sl (fun f _ _ a c=>ofFn f a c) (.n (nat_lit 4) (nat_lit 0)) (fun t _ v=>.c (nat_lit 2) t [v]) (.n (nat_lit 5) (nat_lit 0)) (fun _ l=>.c (nat_lit 0) (nat_lit 0) l) (fun _ l=>.c (nat_lit 1) (nat_lit 0) l) (.n (nat_lit 6) (nat_lit 0)) (fun o _=>.c (nat_lit 5) o []) (fun c _ v=>.c (nat_lit 4) (b2n c) [v]) [] (fun _ _ a l=>a :: l)
noncomputable def jV:List AV→List FV:=AV.rec_1 (motive_1:=fun _=>FV) (motive_2:=fun _=>List FV) (.n (nat_lit 0) (nat_lit 0)) (fun x=>.n (nat_lit 1) (b2n x)) (fun k n=>.n (tg k) (n%2^k.bits).toNat) (fun x=>.s x.length (pk x)) (.n (nat_lit 2) (nat_lit 0)) .p (.n (nat_lit 3) (nat_lit 0)) .sl (fun f _ _ a c=>ofFn f a c) (.n (nat_lit 4) (nat_lit 0)) (fun t _ v=>.c (nat_lit 2) t [v]) (.n (nat_lit 5) (nat_lit 0)) (fun _ l=>.c (nat_lit 0) (nat_lit 0) l) (fun _ l=>.c (nat_lit 1) (nat_lit 0) l) (.n (nat_lit 6) (nat_lit 0)) (fun o _=>.c (nat_lit 5) o []) (fun c _ v=>.c (nat_lit 4) (b2n c) [v]) [] (fun _ _ a l=>a :: l)
noncomputable def QL:AV→Bool:=AV.rec (motive_1:=fun _=>Bool) (motive_2:=fun _=>Bool) true (fun _=>true) (fun k n=>decide (k.wrap n=n)) (fun _=>true) true (fun _ _ _=>true) true (fun _ _ _ _ _=>true) (fun f _ _ a c=>bC (Iu f) (bC a c false) false) true (fun _ _ v=>v) true (fun _ l=>l) (fun _ l=>l) true (fun _ g=>Nat.beq g (nat_lit 0)) (fun _ _ v=>v) true (fun _ _ a l=>bC a l false)
noncomputable def uT:List AV→Bool:=AV.rec_1 (motive_1:=fun _=>Bool) (motive_2:=fun _=>Bool) true (fun _=>true) (fun k n=>decide (k.wrap n=n)) (fun _=>true) true (fun _ _ _=>true) true (fun _ _ _ _ _=>true) (fun f _ _ a c=>bC (Iu f) (bC a c false) false) true (fun _ _ v=>v) true (fun _ l=>l) (fun _ l=>l) true (fun _ g=>Nat.beq g (nat_lit 0)) (fun _ _ v=>v) true (fun _ _ a l=>bC a l false)
mutual
theorem mW:∀v:AV,QL v=true→(AY v).av=v:=by
 intro v h
 match v with
 | .u | .p0 | .sl0 | .fn0 | .eG | .wB | .p _ _ _ | .sl _ _ _ _ _=>rfl
 | .b x=>cases x <;> rfl
 | .i k n=>
   have h':decide (k.wrap n=n)=true:=h
   have h':=of_decide_eq_true h'
   show mF (tg k) _=_
   rw [iD,wrap_eq,h']
 | .s x=>show AV.s (fE x.length (pk x))=_;rw [O5]
 | .fn f a c=>
   have h':bC (Iu f) (bC (uT a) (uT c) false) false=true:=h
   obtain⟨h1,h'⟩:=aH h'
   obtain⟨h2,h3⟩:=aH h'
   unfold Iu at h1
   split at h1
   ·rename_i k
    show FV.av (.c 3 k [.c 0 0 (jV a),.c 0 0 (jV c)])=_
    rw [FV.Ic,FV.zi]
    simp only [List.map_cons,List.map_nil,rQ]
    rw [gU a h2,gU c h3];rfl
   ·cases h1
 | .ic t x=>show FV.av (.c 2 t [AY x])=_;rw [J3,mW x h]
 | .ag l=>show FV.av (.c 0 0 (jV l))=_;rw [rQ,gU l h]
 | .tu l=>show FV.av (.c 1 0 (jV l))=_;rw [DJ,gU l h]
 | .mp o g=>
   have h':Nat.beq g 0=true:=h
   rw [Nat.eq_of_beq_eq_true h'];rfl
 | .cd c x=>
   have e:=mW x h
   show FV.av (.c 4 (b2n c) [AY x])=_
   cases c
   ·show AV.cd false (AY x).av=_;rw [e]
   ·show AV.cd true (AY x).av=_;rw [e]
theorem gU:∀l:List AV,uT l=true→(jV l).map FV.av=l:=by
 intro l h
 match l with
 | []=>rfl
 | a :: l=>
   have h':bC (QL a) (uT l) false=true:=h
   obtain⟨h1,h2⟩:=aH h'
   show (AY a).av :: (jV l).map FV.av=_
   rw [mW a h1,gU l h2]
end
abbrev eP:=List (Nat×FV)
noncomputable def jW:eP→Nat→FV:=List.rec (motive:=fun _=>Nat→FV) (fun _=>.n (nat_lit 0) (nat_lit 0)) (fun p _ ih n=>bC (Nat.beq p.1 n) p.2 (ih n))
noncomputable def g_ (e:eP):Env:=e.map fun p=>(p.1,p.2.av)
theorem iO:∀(e:eP) (n:Nat),(jW e n).av=get (g_ e) n
 | [],_=>rfl
 | (d,v) :: e,n=>by
   show (bC (Nat.beq d n) v (jW e n)).av=if d=n then v.av else get (g_ e) n
   cases hb:Nat.beq d n with
   | true=>rw [if_pos (Nat.eq_of_beq_eq_true hb)]
   | false=>rw [if_neg (Nat.ne_of_beq_eq_false hb)];exact iO e n
noncomputable def LU (e:eP):bH→FV:=bH.rec (motive:=fun _=>FV) (fun n=>jW e n) (fun v=>AY v)
noncomputable def Vr (e:eP):bH→FV:=bH.rec (motive:=fun _=>FV) (fun n=>Nv (jW e n)) (fun v=>AY v)
noncomputable def notCd:AV→Bool
 | .cd _ _=>false
 | _=>true
noncomputable def vX:bH→Bool:=bH.rec (motive:=fun _=>Bool) (fun _=>true) (fun v=>bC (QL v) (notCd v) false)
theorem rW {e:eP} {o:bH} (h:vX o=true):(LU e o).av=o.ev (g_ e):=by
 cases o with
 | t n=>exact iO e n
 | c v=>exact mW v (aH h).1
theorem NG {e:eP} {o:bH} (h:vX o=true):(Vr e o).av=(o.ev (g_ e)).val:=by
 cases o with
 | t n=>show (Nv (jW e n)).av=_;rw [BA,iO];rfl
 | c v=>
   have h1:=mW v (aH h).1
   have h2:=(aH h).2
   show (AY v).av=v.val
   rw [h1]
   cases v <;> first | rfl | cases h2
noncomputable abbrev rX (e:eP) (B:Bool):List bH→Bool:=List.rec (motive:=fun _=>Bool) B (fun o _ ih=>bH.rec (motive:=fun _=>Bool) (fun n=>bC (Ie (jW e n)) ih false) (fun _=>ih) o)
theorem xY {e:eP} {B:Bool} :∀(l:List bH) (_:l.all vX=true) (_:rX e B l=true),l.all (fun o=>(o.ev (g_ e)).cnd)=true∧B=true
 | [],_,h=>⟨rfl,h⟩
 | .t n :: l,ho,h=>by
   simp only [List.all_cons,Bool.and_eq_true] at ho
   have h':bC (Ie (jW e n)) (rX e B l) false=true:=h
   obtain⟨h1,h2⟩:=aH h'
   obtain⟨h3,h4⟩:=xY l ho.2 h2
   rw [BD,iO] at h1
   refine⟨?_,h4⟩
   simp only [List.all_cons,h3,Bool.and_true]
   exact h1
 | .c v :: l,ho,h=>by
   simp only [List.all_cons,Bool.and_eq_true] at ho
   obtain⟨h3,h4⟩:=xY l ho.2 h
   refine⟨?_,h4⟩
   simp only [List.all_cons,h3,Bool.and_true]
   have h2:=(aH ho.1).2
   show v.cnd=true
   cases v <;> first | rfl | cases h2
theorem qB {X:Ctx} {run:Run} {ρ ρ':bH→AV} {op:dH} (h:∀o∈op.bP,ρ o=ρ' o)(σ:St):dn X run ρ op σ=dn X run ρ' op σ:=by
 have hl:∀(l:List bH),(∀o∈l,ρ o=ρ' o)→l.map ρ=l.map ρ':=fun l hh=>List.map_congr_left hh
 have ho:∀(l:Option bH),(∀o∈l.toList,ρ o=ρ' o)→l.map ρ=l.map ρ':=fun l hh=>by
  cases l with
  | none=>rfl
  | some x=>simp only [Option.map_some];rw [hh x (by simp)]
 have hp:∀(l:List (Nat×bH)),(∀o∈l.map (·.2),ρ o=ρ' o)→l.map (fun q=>(q.1,ρ q.2))=l.map (fun q=>(q.1,ρ' q.2)):=fun l hh=>List.map_congr_left fun q hq=>by rw [hh q.2 (List.mem_map_of_mem hq)]
 cases op <;> simp only [dH.bP,List.mem_cons,List.mem_nil_iff,or_false,forall_eq,forall_eq_or_imp,List.mem_append] at h <;> simp only [dn,dX]
 case mv=>rw [h]
 case pick=>rw [h.1,h.2.1,h.2.2]
 case box=>rw [h]
 case build=>rw [hp _ h]
 case iT=>rw [hp _ h]
 case load=>rw [h]
 case store=>rw [h.1,h.2]
 case bF=>rw [h]
 case bin=>rw [h.1,h.2]
 case un=>rw [h]
 case conv=>rw [h]
 case LX=>rw [h]
 case GY=>rw [hl _ (fun o ho=>h o (.inl ho)),hl _ (fun o ho=>h o (.inr ho))]
 case RU=>rw [h.1,h.2]
 case slc=>rw [h.1,ho _ (fun o q=>h.2 o (.inl q)),ho _ (fun o q=>h.2 o (.inr q))]
 case fG=>rw [h]
 case P5=>rw [h]
 case kK=>rw [h.1,h.2]
 case idx=>rw [h.1,h.2]
 case rng=>rw [h]
 case Sj=>rw [h]
 case RV=>rw [h]
 case ext=>rw [h]
 case call=>rw [h.1,hl _ h.2]
 case inv=>rw [h.1,hl _ h.2]
 case len=>rw [h]
 case app=>rw [h.1,h.2]
 case copy=>rw [h.1,h.2]
 case mn=>rw [hl _ h]
 case Xg=>rw [ho _ h]
 case Oq=>rw [h.1,h.2]
 case wG=>rw [h.1,h.2.1,h.2.2]
 case del=>rw [h.1,h.2]
 case Z7=>rw [h]
 case sl3=>rw [h.1,h.2.1,h.2.2.1,ho _ h.2.2.2]
end Go.bK
namespace Go.bK
noncomputable def md:IntKind→Nat
 | .i8=>256 | .i16=>65536 | .i32=>4294967296 | .i64=>18446744073709551616
 | .u8=>256 | .u16=>65536 | .u32=>4294967296 | .u64=>18446744073709551616
theorem Gl (k:IntKind):md k=2^k.bits:=by cases k <;> rfl
noncomputable def nthO:List FV→Nat→KF→Bool:=List.rec (motive:=fun _=>Nat→KF→Bool) (fun _ _=>false) (fun a _ ih k=>Nat.rec (motive:=fun _=>KF→Bool) (fun K=>K a) (fun k _ K=>ih k K) k)
theorem Iw:∀(l:List FV) (k:Nat) {K:KF} (_:nthO l k K=true),∃v,l[k]? =some v∧K v=true
 | [],_,_,h=>by cases h
 | a :: l,0,K,h=>⟨a,rfl,h⟩
 | a :: l,k+1,K,h=>Iw l k h
noncomputable def dExt (i:Nat)(x:FV)(K:KF):Bool:=match x with
 | .c 1 _ l=>nthO l i K
 | _=>false
noncomputable def dFad (off:Nat)(x:FV)(K:KF):Bool:=match x with
 | .p o g b=>K (.p o g (Nat.add b off))
 | _=>false
noncomputable def dFld1 (off:Nat)(x:FV)(K:KF):Bool:=match x with
 | .c 0 _ l=>nthO l off K
 | _=>false
noncomputable def dFldA (off z:Nat)(x:FV)(K:KF):Bool:=match x with
 | .c 0 _ l=>bC (Nat.ble (Nat.add off z) l.length) (fSp ((l.drop off).take z) fun l=>K (.c (nat_lit 0) (nat_lit 0) l)) false
 | _=>false
noncomputable def dIad (n z:Nat)(x i:FV)(K:KF):Bool:=match x with
 | .p o g b=>uH i fun j=>bC (Nat.ble (Nat.succ j) n) (K (.p o g (Nat.add b (Nat.mul j z)))) false
 | _=>false
noncomputable def dIadS (z:Nat)(x i:FV)(K:KF):Bool:=match x with
 | .sl o g b n z'=>bC (Nat.beq z' z) (uH i fun j=>bC (Nat.ble (Nat.succ j) n) (K (.p o g (Nat.add b (Nat.mul j z)))) false) false
 | _=>false
noncomputable def dNot (x:FV)(K:KF):Bool:=match x with
 | .n t v=>bC (Nat.beq t (nat_lit 1)) (Nat.rec (motive:=fun _=>KF→Bool) (fun K=>K (.n (nat_lit 1) (nat_lit 1))) (fun _ _ K=>K (.n (nat_lit 1) (nat_lit 0))) v K) false
 | _=>false
noncomputable def Vs (x:FV)(K:KF):Bool:=match x with
 | .p o g off=>K (.p o g off)
 | .c 2 t [v]=>K (.c 2 t [v])
 | .c 3 k l=>K (.c 3 k l)
 | _=>false
noncomputable def Vt (t:Nat)(x:FV)(K:Bool→Bool):Bool:=match x with
 | .n t' _=>bC (Nat.beq t' t) (K true) false
 | .p _ _ _=>bC (Nat.beq t (nat_lit 2)) (K false) false
 | .sl _ _ _ _ _=>bC (Nat.beq t (nat_lit 3)) (K false) false
 | .c 3 _ _=>bC (Nat.beq t (nat_lit 4)) (K false) false
 | .c 2 _ _=>bC (Nat.beq t (nat_lit 5)) (K false) false
 | .c 5 _ _=>bC (Nat.beq t (nat_lit 6)) (K false) false
 | _=>false
noncomputable def Am:AD→Nat
 | .ptr _=>2
 | .slice _=>3
 | .fn=>4
 | .qP _=>5
 | .map _ _=>6
 | _=>0
noncomputable def isNil:AV→Nat
 | .p0=>2
 | .sl0=>3
 | .fn0=>4
 | .eG=>5
 | .wB=>6
 | _=>99
noncomputable def dNil (t:Nat)(x:FV)(K:KF):Bool:=Vt t x fun b=>kB b K
noncomputable def dNnl (t:Nat)(x:FV)(K:KF):Bool:=Vt t x fun b=>kN b K
noncomputable def dCvtN (t M t1 a:Nat)(K:KF):Bool:=match kOf t1 with
 | some k1=>bC (Nat.beq (Nat.mod t1 (nat_lit 2)) (nat_lit 1)) (bC (Nat.ble (Nat.div t1 (nat_lit 4)) (Nat.mod a (md k1))) (yF (Nat.mod (Nat.sub (Nat.add (Nat.mod a (md k1)) (Nat.mul M (nat_lit 18446744073709551616))) (md k1)) M) t K) false) false
 | none=>false
noncomputable def dCvt (t M:Nat)(x:FV)(K:KF):Bool:=match x with
 | .n t1 a=>bC (LQ t1 a) (yF (Nat.mod a M) t K) (dCvtN t M t1 a K)
 | _=>false
noncomputable def dShl (t M b:Nat)(x y:FV)(K:KF):Bool:=match x with
 | .n t1 a=>bC (Nat.beq t1 t) (uH y fun n=>yF (Nat.mod (Nat.shiftLeft a (bC (Nat.ble n b) n b)) M) t K) false
 | _=>false
noncomputable def dShr (t M b:Nat)(x y:FV)(K:KF):Bool:=match x with
 | .n t1 a=>bC (Nat.beq t1 t) (bC (LQ t a) (uH y fun n=>yF (Nat.shiftRight a (bC (Nat.ble n b) n b)) t K) false) false
 | _=>false
noncomputable def dQuo (t M:Nat)(x y:FV)(K:KF):Bool:=match x,y with
 | .n t1 a,.n t2 b=>bC (Nat.beq t1 t) (bC (Nat.beq t2 t) (bC (LQ t a) (bC (LQ t b) (bC (Nat.ble (nat_lit 1) b) (yF (Nat.div a b) t K) false) false) false) false) false
 | _,_=>false
noncomputable def dRem (t M:Nat)(x y:FV)(K:KF):Bool:=match x,y with
 | .n t1 a,.n t2 b=>bC (Nat.beq t1 t) (bC (Nat.beq t2 t) (bC (LQ t a) (bC (LQ t b) (bC (Nat.ble (nat_lit 1) b) (yF (Nat.mod a b) t K) false) false) false) false) false
 | _,_=>false
theorem Y5 {i:Nat} {x:FV} {K:KF} (h:dExt i x K=true):∃vs,x.av= .tu vs∧∃v:FV,vs[i]? =some v.av∧K v=true:=by
 unfold dExt at h
 split at h
 ·obtain⟨v,h1,h2⟩:=Iw _ _ h
  refine⟨_,DJ _ _,v,?_,h2⟩
  rw [List.getElem?_map,h1];rfl
 ·cases h
theorem Y6 {x:FV} {K:KF} (h:dNot x K=true):∃b,x.av= .b b∧∃v:FV,v.av= .b (!b)∧K v=true:=by
 unfold dNot at h
 split at h
 ·rename_i t v
  obtain⟨h1,h⟩:=aH h
  have h1:t=1:=Nat.eq_of_beq_eq_true h1
  subst h1
  refine⟨_,DF v,?_⟩
  cases v with
  | zero=>exact⟨_,rfl,h⟩
  | succ v=>exact⟨_,rfl,h⟩
 ·cases h
theorem Y7 {t:Nat} {x:FV} {K:Bool→Bool} (h:Vt t x K=true):∃b,K b=true∧((b=true∧∃z,x= .n t z)∨(b=false∧((t=2∧∃o g off,x.av= .p o g off)∨(t=3∧∃o g off n z,x.av= .sl o g off n z)∨(t=4∧∃f a c,x.av= .fn f a c)∨(t=5∧∃t' v,x.av= .ic t' v)∨(t=6∧∃o g,x.av= .mp o g)))):=by
 unfold Vt at h
 split at h <;> first | cases h | (obtain⟨h1,h⟩:=aH h)
 ·exact⟨true,h,.inl ⟨rfl,_,by rw [Nat.eq_of_beq_eq_true h1]⟩⟩
 ·exact⟨false,h,.inr ⟨rfl,.inl ⟨Nat.eq_of_beq_eq_true h1,_,_,_,rfl⟩⟩⟩
 ·exact⟨false,h,.inr ⟨rfl,.inr (.inl ⟨Nat.eq_of_beq_eq_true h1,_,_,_,_,_,rfl⟩)⟩⟩
 ·exact⟨false,h,.inr ⟨rfl,.inr (.inr (.inl ⟨Nat.eq_of_beq_eq_true h1,_,_,_,rfl⟩))⟩⟩
 ·exact⟨false,h,.inr ⟨rfl,.inr (.inr (.inr (.inl ⟨Nat.eq_of_beq_eq_true h1,_,_,rfl⟩)))⟩⟩
 ·exact⟨false,h,.inr ⟨rfl,.inr (.inr (.inr (.inr ⟨Nat.eq_of_beq_eq_true h1,_,_,rfl⟩)))⟩⟩
theorem nil_eq {P:Program} {t:Nat} {T:AT} (hT:aF P t=some T) {x:FV} {K:Bool→Bool} (h:Vt (Am T.d) x K=true) {v:AV} (hv:isNil v=Am T.d):∃b,K b=true∧jr P .eql t x.av v true=some (.b b)∧jr P .neq t x.av v true=some (.b !b):=by
 obtain⟨b,h1,h2⟩:=Y7 h
 refine⟨b,h1,?_⟩
 clear h
 have fin:∀(w:AV),tJ P 20 t w v=some b→(∀op,op= .eql∨op= .neq→jr P op t w v true=if op= .eql then(tJ P 20 t w v).map .b else(tJ P 20 t w v).map fun r=>.b !r)→jr P .eql t w v true=some (.b b)∧jr P .neq t w v true=some (.b !b):=by
  intro w e1 e2
  refine⟨?_,?_⟩
  ·rw [e2 .eql (.inl rfl),if_pos rfl,e1];rfl
  ·rw [e2 .neq (.inr rfl),if_neg (by decide),e1];rfl
 obtain⟨d,sz,bt,ze,cm,hd,gd⟩:=T
 simp only at h2 hv
 rcases h2 with ⟨rfl,z,rfl⟩ | ⟨rfl,h2⟩
 ·cases d <;> simp only [Am] at hv <;> cases v <;> simp only [isNil] at hv <;> (try omega)
  all_goals
   refine fin _ ?_ ?_
   ·unfold tJ;rw [hT];rfl
   ·rintro op (rfl | rfl) <;> rfl
 ·rcases h2 with ⟨e,o,g,off,hx⟩ | ⟨e,o,g,off,n,z,hx⟩ | ⟨e,f,a,c,hx⟩ | ⟨e,t',w,hx⟩ | ⟨e,o,g,hx⟩
  all_goals
   rw [hx]
   cases d <;> simp only [Am] at e hv <;> (try omega)
   cases v <;> simp only [isNil] at hv <;> (try omega)
   refine fin _ ?_ ?_
   ·unfold tJ;rw [hT]
   ·rintro op (rfl | rfl) <;> rfl
end Go.bK
namespace Go.bK
theorem Iy {k:IntKind} {a:Nat} (h:LQ (tg k) a=true):a<(if k.signed then 2^(k.bits - 1) else 2^k.bits):=by
 have key:∀(b:Nat),Nat.ble a b=true→a<b+1:=fun b hb=>Nat.lt_succ_of_le (Nat.le_of_ble_eq_true hb)
 cases k
 ·exact key 127 h
 ·exact key 32767 h
 ·exact key 2147483647 h
 ·exact key 9223372036854775807 h
 ·exact key 255 h
 ·exact key 65535 h
 ·exact key 4294967295 h
 ·exact key 18446744073709551615 h
theorem rY {k:IntKind} {a:Nat} (h:LQ (tg k) a=true):k.wrap a=a:=wrap_small k (Iy h)
theorem gV (k:IntKind)(a:Nat):FV.av (.n (tg k) a)= .i k (k.wrap a):=iD k a
theorem Gm (k:IntKind)(a:Nat):FV.av (.n (tg k) (Nat.mod a (md k)))= .i k (k.wrap a):=by
 rw [gV]
 congr 1
 show k.wrap ((a%md k:Nat):Int)=_
 rw [Gl,jT]
theorem NH (k:IntKind)(a:Nat):(BitVec.ofInt k.bits (k.wrap a)).toNat=a%md k:=by
 rw [BitVec.toNat_ofInt]
 have h:=iI k a
 rw [nM,h,←nM,←Int.natCast_emod,Int.toNat_natCast,Gl]
section
variable {k:IntKind} {x y:FV} {K:KF}
theorem add_ok (h:dAdd x (tg k) (md k) y K=true):∃a b,x.av= .i k a∧y.av= .i k b∧∃v:FV,jm .add k a b=some v.av∧K v=true:=by
 obtain⟨a,b,e1,e2,h2⟩:=YN h
 clear h
 have h:=h2
 clear h2
 subst e1 e2
 rw [kG] at h
 refine⟨_,_,gV k a,gV k b,_,?_,h⟩
 rw [Gm]
 simp only [jm,wrap_add]
 congr 3
theorem sub_ok (h:dSub x (tg k) (md k) y K=true):∃a b,x.av= .i k a∧y.av= .i k b∧∃v:FV,jm .sub k a b=some v.av∧K v=true:=by
 obtain⟨a,b,e1,e2,h2⟩:=YO h
 clear h
 have h:=h2
 clear h2
 subst e1 e2
 rw [kG] at h
 refine⟨_,_,gV k a,gV k b,_,?_,h⟩
 rw [Gm]
 simp only [jm,UY]
 congr 2
 apply jH
 have hM:b%md k<md k:=Nat.mod_lt _ (by cases k <;> decide)
 have e2:((md k:Nat):Int)=2^k.bits:=by rw [Gl,nM]
 have e1:((Nat.sub (Nat.add a (md k)) (Nat.mod b (md k)):Nat):Int)=(a:Int) - ((b%md k:Nat):Int)+2^k.bits:=by
  show ((a+md k - b%md k:Nat):Int)=_
  rw [←e2];omega
 rw [e1,Int.natCast_emod,e2,Int.add_emod_right,Int.sub_emod,Int.sub_emod (a:Int) ((b:Int)%2^k.bits),Int.emod_emod_of_dvd _ (Int.dvd_refl _)]
theorem mul_ok (h:dMul x (tg k) (md k) y K=true):∃a b,x.av= .i k a∧y.av= .i k b∧∃v:FV,jm .mul k a b=some v.av∧K v=true:=by
 obtain⟨a,b,e1,e2,h2⟩:=YP h
 clear h
 have h:=h2
 clear h2
 subst e1 e2
 rw [kG] at h
 refine⟨_,_,gV k a,gV k b,_,?_,h⟩
 rw [Gm]
 simp only [jm,wrap_mul]
 congr 3
theorem and_ok (h:dAnd x (tg k) (md k) y K=true):∃a b,x.av= .i k a∧y.av= .i k b∧∃v:FV,jm .and k a b=some v.av∧K v=true:=by
 obtain⟨a,b,e1,e2,h2⟩:=YQ h
 clear h
 have h:=h2
 clear h2
 subst e1 e2
 rw [kG] at h
 refine⟨_,_,gV k a,gV k b,_,?_,h⟩
 rw [gV]
 simp only [jm,wI,BitVec.toNat_and,NH];rfl
theorem or_ok (h:dOr x (tg k) (md k) y K=true):∃a b,x.av= .i k a∧y.av= .i k b∧∃v:FV,jm .or k a b=some v.av∧K v=true:=by
 obtain⟨a,b,e1,e2,h2⟩:=dOr_ok h
 clear h
 have h:=h2
 clear h2
 subst e1 e2
 rw [kG] at h
 refine⟨_,_,gV k a,gV k b,_,?_,h⟩
 rw [gV]
 simp only [jm,wI,BitVec.toNat_or,NH];rfl
theorem xor_ok (h:dXor x (tg k) (md k) y K=true):∃a b,x.av= .i k a∧y.av= .i k b∧∃v:FV,jm .xor k a b=some v.av∧K v=true:=by
 obtain⟨a,b,e1,e2,h2⟩:=YR h
 clear h
 have h:=h2
 clear h2
 subst e1 e2
 rw [kG] at h
 refine⟨_,_,gV k a,gV k b,_,?_,h⟩
 rw [gV]
 simp only [jm,wI,BitVec.toNat_xor,NH];rfl
theorem BG (a b:Nat):Nat.ble a b=true↔a≤b:=⟨Nat.le_of_ble_eq_true,Nat.ble_eq_true_of_le⟩
theorem lss_ok (h:dLss x (tg k) (md k) y K=true):∃a b,x.av= .i k a∧y.av= .i k b∧∃v:FV,jm .lss k a b=some v.av∧K v=true:=by
 obtain⟨a,b,e1,e2,h2⟩:=YS h
 clear h
 have h:=h2
 clear h2
 subst e1 e2
 obtain⟨v,h1,h2⟩:=DL h
 refine⟨_,_,gV k a,gV k b,v,?_,h2⟩
 rw [h1]
 simp only [jm,LY,Option.some.injEq,AV.b.injEq]
 rw [Bool.eq_iff_iff,decide_eq_true_iff,O7,BG];exact Iff.rfl
theorem leq_ok (h:dLeq x (tg k) (md k) y K=true):∃a b,x.av= .i k a∧y.av= .i k b∧∃v:FV,jm .leq k a b=some v.av∧K v=true:=by
 obtain⟨a,b,e1,e2,h2⟩:=YT h
 clear h
 have h:=h2
 clear h2
 subst e1 e2
 obtain⟨v,h1,h2⟩:=DL h
 refine⟨_,_,gV k a,gV k b,v,?_,h2⟩
 rw [h1]
 simp only [jm,LY,Option.some.injEq,AV.b.injEq]
 rw [Bool.eq_iff_iff,decide_eq_true_iff,O8,BG]
theorem gtr_ok (h:dGtr x (tg k) (md k) y K=true):∃a b,x.av= .i k a∧y.av= .i k b∧∃v:FV,jm .gtr k a b=some v.av∧K v=true:=by
 obtain⟨a,b,e1,e2,h2⟩:=YU h
 clear h
 have h:=h2
 clear h2
 subst e1 e2
 obtain⟨v,h1,h2⟩:=DL h
 refine⟨_,_,gV k a,gV k b,v,?_,h2⟩
 rw [h1]
 simp only [jm,LY,Option.some.injEq,AV.b.injEq]
 rw [Bool.eq_iff_iff,decide_eq_true_iff,gt_iff_lt,O7,BG];exact Iff.rfl
theorem geq_ok (h:dGeq x (tg k) (md k) y K=true):∃a b,x.av= .i k a∧y.av= .i k b∧∃v:FV,jm .geq k a b=some v.av∧K v=true:=by
 obtain⟨a,b,e1,e2,h2⟩:=YV h
 clear h
 have h:=h2
 clear h2
 subst e1 e2
 obtain⟨v,h1,h2⟩:=DL h
 refine⟨_,_,gV k a,gV k b,v,?_,h2⟩
 rw [h1]
 simp only [jm,LY,Option.some.injEq,AV.b.injEq]
 rw [Bool.eq_iff_iff,decide_eq_true_iff,ge_iff_le,O8,BG]
theorem DU (a b:Nat):Nat.beq (Nat.mod a (md k)) (Nat.mod b (md k))=(k.wrap a == k.wrap b):=by
 rw [Bool.eq_iff_iff,beq_iff_eq,J4,←Gl]
 exact⟨Nat.eq_of_beq_eq_true,fun e=>by rw [show Nat.mod a (md k)=a%md k from rfl,e];exact Nat.beq_refl _⟩
theorem eqi_ok (h:dEqI x (tg k) (md k) y K=true):∃a b,x.av= .i k a∧y.av= .i k b∧∃v:FV,jm .eql k a b=some v.av∧K v=true:=by
 obtain⟨a,b,e1,e2,h2⟩:=YW h
 clear h
 have h:=h2
 clear h2
 subst e1 e2
 obtain⟨v,h1,h2⟩:=DL h
 exact⟨_,_,gV k a,gV k b,v,by rw [h1,DU];rfl,h2⟩
theorem nei_ok (h:dNeI x (tg k) (md k) y K=true):∃a b,x.av= .i k a∧y.av= .i k b∧∃v:FV,jm .neq k a b=some v.av∧K v=true:=by
 obtain⟨a,b,e1,e2,h2⟩:=YX h
 clear h
 have h:=h2
 clear h2
 subst e1 e2
 obtain⟨v,h1,h2⟩:=U0 h
 exact⟨_,_,gV k a,gV k b,v,by rw [h1,DU];rfl,h2⟩
theorem quo_ok (h:dQuo (tg k) (md k) x y K=true):∃a b,x.av= .i k a∧y.av= .i k b∧∃v:FV,jm .quo k a b=some v.av∧K v=true:=by
 unfold dQuo at h
 split at h
 ·rename_i t1 a t2 b
  obtain⟨h1,h⟩:=aH h
  obtain⟨h2,h⟩:=aH h
  obtain⟨h3,h⟩:=aH h
  obtain⟨h4,h⟩:=aH h
  obtain⟨h5,h⟩:=aH h
  rw [kG] at h
  rw [Nat.eq_of_beq_eq_true h1,Nat.eq_of_beq_eq_true h2]
  have h5:1≤b:=Nat.le_of_ble_eq_true h5
  refine⟨_,_,gV k a,gV k b,_,?_,h⟩
  rw [rY h3,rY h4,gV]
  simp only [jm]
  rw [if_neg (by omega),show Nat.div a b=a / b from rfl,Int.ofNat_tdiv]
 ·cases h
theorem rem_ok (h:dRem (tg k) (md k) x y K=true):∃a b,x.av= .i k a∧y.av= .i k b∧∃v:FV,jm .rem k a b=some v.av∧K v=true:=by
 unfold dRem at h
 split at h
 ·rename_i t1 a t2 b
  obtain⟨h1,h⟩:=aH h
  obtain⟨h2,h⟩:=aH h
  obtain⟨h3,h⟩:=aH h
  obtain⟨h4,h⟩:=aH h
  obtain⟨h5,h⟩:=aH h
  rw [kG] at h
  rw [Nat.eq_of_beq_eq_true h1,Nat.eq_of_beq_eq_true h2]
  have h5:1≤b:=Nat.le_of_ble_eq_true h5
  have hl:=Iy h3
  have hle:a%b≤a:=Nat.mod_le a b
  refine⟨_,_,gV k a,gV k b,_,?_,h⟩
  rw [rY h3,rY h4,gV,show Nat.mod a b=a%b from rfl,wrap_small k (by omega)]
  simp only [jm]
  rw [if_neg (by omega),←Int.ofNat_tmod]
 ·cases h
theorem minB (n b:Nat):bC (Nat.ble n b) n b=min n b:=by
 cases hb:Nat.ble n b with
 | true=>rw [lD];have:=Nat.le_of_ble_eq_true hb;omega
 | false=>
   rw [kF]
   have:¬n≤b:=fun h=>by rw [Nat.ble_eq_true_of_le h] at hb;cases hb
   omega
theorem shl_ok (h:dShl (tg k) (md k) k.bits x y K=true):∃a q b,x.av= .i k a∧y.av= .i q b∧∃v:FV,pX .shl k a b=some v.av∧K v=true:=by
 unfold dShl at h
 split at h
 ·rename_i t1 a
  obtain⟨h1,h⟩:=aH h
  obtain⟨q,n,h2,h⟩:=iM h
  rw [kG] at h
  rw [Nat.eq_of_beq_eq_true h1]
  refine⟨_,q,_,gV k a,h2,_,?_,h⟩
  rw [Gm,minB]
  simp only [pX]
  rw [if_neg (by omega),Int.toNat_natCast]
  have e:((Nat.shiftLeft a (min n k.bits):Nat):Int)=(a:Int)*2^min n k.bits:=by
   show ((a <<< min n k.bits:Nat):Int)=_
   rw [Nat.shiftLeft_eq];push_cast;rfl
  rw [e]
  congr 2
  exact jH k (by rw [Int.mul_emod,iI,←Int.mul_emod])
 ·cases h
theorem shr_ok (h:dShr (tg k) (md k) k.bits x y K=true):∃a q b,x.av= .i k a∧y.av= .i q b∧∃v:FV,pX .shr k a b=some v.av∧K v=true:=by
 unfold dShr at h
 split at h
 ·rename_i t1 a
  obtain⟨h1,h⟩:=aH h
  obtain⟨h3,h⟩:=aH h
  obtain⟨q,n,h2,h⟩:=iM h
  rw [kG] at h
  rw [Nat.eq_of_beq_eq_true h1]
  refine⟨_,q,_,gV k a,h2,_,?_,h⟩
  have hl:=Iy h3
  have e:Nat.shiftRight a (min n k.bits)=a / 2^min n k.bits:=Nat.shiftRight_eq_div_pow a _
  have hle:a / 2^min n k.bits≤a:=Nat.div_le_self _ _
  rw [rY h3,gV,minB,e,wrap_small k (by omega)]
  simp only [pX]
  rw [if_neg (by omega),Int.toNat_natCast]
  congr 2
  have e3:((2^min n k.bits:Nat):Int)=2^min n k.bits:=by rw [Int.natCast_pow];rfl
  rw [←e3,Int.fdiv_eq_ediv_of_nonneg _ (Int.natCast_nonneg _),Int.natCast_ediv]
 ·cases h
theorem cvt_ok (h:dCvt (tg k) (md k) x K=true):∃q n,x.av= .i q n∧∃v:FV,v.av= .i k (k.wrap n)∧K v=true:=by
 unfold dCvt at h
 split at h
 ·rename_i t1 a
  cases h0:LQ t1 a with
  | true=>
    rw [h0,lD,kG] at h
    obtain⟨q,hq⟩:=Nw h0
    exact⟨q,a,hq,_,Gm k a,h⟩
  | false=>
    rw [h0,kF] at h
    unfold dCvtN at h
    split at h
    ·rename_i k1 hk1
     obtain⟨h1,hh1⟩:=aH h
     obtain⟨h2,hh2⟩:=aH hh1
     clear h hh1
     have h:=hh2
     clear hh2
     rw [kG] at h
     have ht:=Dz hk1
     subst ht
     refine⟨k1,_,gV k1 a,_,?_,h⟩
     have h1:tg k1%2=1:=Nat.eq_of_beq_eq_true h1
     have h2:tg k1 / 4≤a%md k1:=Nat.le_of_ble_eq_true h2
     have hs:k1.signed=true:=by cases k1 <;> first | rfl | (exfalso;revert h1;decide)
     have hM1:a%md k1<md k1:=Nat.mod_lt _ (by cases k1 <;> decide)
     have hle:md k1≤md k*18446744073709551616:=by cases k <;> cases k1 <;> decide
     have hw:k1.wrap a=((a%md k1:Nat):Int) - (md k1:Nat):=by
      rw [O6] at h2
      have e2:((md k1:Nat):Int)=2^k1.bits:=by rw [Gl,nM]
      have e3:(a:Int)%2^k1.bits=((a%md k1:Nat):Int):=by rw [Int.natCast_emod,e2]
      unfold IntKind.wrap
      simp only
      rw [e3,hs,Bool.true_and,if_pos (by
         rw [decide_eq_true_eq]
         have:((2^(k1.bits - 1):Nat):Int)=2^(k1.bits - 1):=by cases k1 <;> rfl
         rw [←this];exact_mod_cast h2),e2]
     rw [Gm,hw]
     congr 1
     apply jH
     have e1:((Nat.sub (Nat.add (Nat.mod a (md k1)) (Nat.mul (md k) 18446744073709551616)) (md k1):Nat):Int)=(((a%md k1:Nat):Int) - (md k1:Nat))+(2^k.bits)*18446744073709551616:=by
      have e2:((md k:Nat):Int)=2^k.bits:=by rw [Gl,nM]
      show ((a%md k1+md k*18446744073709551616 - md k1:Nat):Int)=_
      rw [←e2];omega
     rw [show ((Nat.sub (Nat.add (Nat.mod a (md k1)) (Nat.mul (md k) (nat_lit 18446744073709551616))) (md k1):Nat):Int)=_ from e1,Int.add_mul_emod_self_left]
    ·cases h
 ·cases h
end
end Go.bK
namespace Go.bK
section
variable (P:Program)(τ:jR)
noncomputable def oC (o:Option AV)(K:KF):Bool:=match o with
 | some v=>bC (QL v) (K (AY v)) false
 | none=>false
noncomputable def pJ (op:dH)(ρ:bH→FV)(K:KF):Bool:=match op with
 | .bin op t x y=>oC (jr P op t (ρ x).av (ρ y).av (x.isC || y.isC)) K
 | .un op x=>oC (aUn op (ρ x).av) K
 | .idx t x i=>oC (L_ P t (ρ x).av (ρ i).av) K
 | .build t ps=>oC (vk P t ((ps.map fun q=>(q.1,ρ q.2)).map fun q=>(q.1,q.2.av))) K
 | .len t x=>oC (Ew P t (ρ x).av) K
 | .RV x _ t ok=>oC (Me P (ρ x).av t ok) K
 | .mn mx xs=>oC (aMn mx ((xs.map ρ).map FV.av)) K
 | .sl3 t x lo h m=>oC (Sr P t (ρ x).av ((lo.map ρ).map FV.av) (ρ h).av (ρ m).av) K
 | _=>false
noncomputable def Vu (k:IntKind)(op:BinOp)(t:Nat)(x y:bH)(ρ:bH→FV)(K:KF):Bool:=match op with
 | .add=>dAdd (ρ x) (tg k) (md k) (ρ y) K
 | .sub=>dSub (ρ x) (tg k) (md k) (ρ y) K
 | .mul=>dMul (ρ x) (tg k) (md k) (ρ y) K
 | .and=>dAnd (ρ x) (tg k) (md k) (ρ y) K
 | .or=>dOr (ρ x) (tg k) (md k) (ρ y) K
 | .xor=>dXor (ρ x) (tg k) (md k) (ρ y) K
 | .lss=>dLss (ρ x) (tg k) (md k) (ρ y) K
 | .leq=>dLeq (ρ x) (tg k) (md k) (ρ y) K
 | .gtr=>dGtr (ρ x) (tg k) (md k) (ρ y) K
 | .geq=>dGeq (ρ x) (tg k) (md k) (ρ y) K
 | .eql=>dEqI (ρ x) (tg k) (md k) (ρ y) K
 | .neq=>dNeI (ρ x) (tg k) (md k) (ρ y) K
 | .quo=>dQuo (tg k) (md k) (ρ x) (ρ y) K
 | .rem=>dRem (tg k) (md k) (ρ x) (ρ y) K
 | .shl=>dShl (tg k) (md k) k.bits (ρ x) (ρ y) K
 | .shr=>dShr (tg k) (md k) k.bits (ρ x) (ρ y) K
 | op=>pJ P (.bin op t x y) ρ K
noncomputable def Vw (op:BinOp)(t:Nat)(x y:bH)(ρ:bH→FV)(K:KF):Bool:=match op with
 | .add=>Vd (ρ x) (ρ y) K
 | .eql=>dEqS (ρ x) (ρ y) K
 | .neq=>dNeS (ρ x) (ρ y) K
 | op=>pJ P (.bin op t x y) ρ K
noncomputable def gBinN (d:AD)(op:BinOp)(t:Nat)(x:bH)(v:AV)(ρ:bH→FV)(K:KF):Bool:=match op with
 | .eql=>dNil (Am d) (ρ x) K
 | .neq=>dNnl (Am d) (ρ x) K
 | op=>pJ P (.bin op t x (.c v)) ρ K
noncomputable def gBin (op:BinOp)(t:Nat)(x y:bH)(ρ:bH→FV)(K:KF):Bool:=match τ t with
 | some T=>(match T.d with
   | .int k=>Vu P k op t x y ρ K
   | .str=>Vw P op t x y ρ K
   | d=>match y with
     | .c v=>bC (Nat.beq (isNil v) (Am d)) (gBinN P d op t x v ρ K) (pJ P (.bin op t x y) ρ K)
     | .t _=>pJ P (.bin op t x y) ρ K)
 | none=>false
noncomputable def gUn (op:UnOp)(x:bH)(ρ:bH→FV)(K:KF):Bool:=match op with
 | .not=>dNot (ρ x) K
 | op=>pJ P (.un op x) ρ K
noncomputable def gLen (t:Nat)(x:bH)(ρ:bH→FV)(K:KF):Bool:=match τ t with
 | some T=>(match T.d with
   | .str=>Vf (ρ x) K
   | .slice _=>Vh (ρ x) K
   | _=>pJ P (.len t x) ρ K)
 | none=>false
noncomputable def gFad (t:Nat)(x:bH)(f:Nat)(ρ:bH→FV)(K:KF):Bool:=match τ t with
 | some T=>(match T.d with
   | .st fs=>(match fs[f]? with
     | some r=>bC (Nat.ble (nat_lit 1) (xG τ r.2.1)) (dFad r.1 (ρ x) K) false
     | none=>false)
   | _=>false)
 | none=>false
noncomputable def gFld (t:Nat)(x:bH)(f:Nat)(ρ:bH→FV)(K:KF):Bool:=match τ t with
 | some T=>(match T.d with
   | .st fs=>(match fs[f]? with
     | some r=>(match τ r.2.1 with
       | some F=>bC F.d.agg (dFldA r.1 F.size (ρ x) K) (dFld1 r.1 (ρ x) K)
       | none=>false)
     | none=>false)
   | _=>false)
 | none=>false
noncomputable def gIad (t:Nat)(x i:bH)(ρ:bH→FV)(K:KF):Bool:=match τ t with
 | some T=>(match T.d with
   | .slice e=>bC (Nat.ble (nat_lit 1) (xG τ e)) (dIadS (xG τ e) (ρ x) (ρ i) K) false
   | .arr n e=>bC (Nat.ble (nat_lit 1) (xG τ e)) (dIad n (xG τ e) (ρ x) (ρ i) K) false
   | _=>false)
 | none=>false
noncomputable def gIdx (t:Nat)(x i:bH)(ρ:bH→FV)(K:KF):Bool:=match τ t with
 | some T=>(match T.d with
   | .str=>Vk (ρ x) (ρ i) K
   | _=>pJ P (.idx t x i) ρ K)
 | none=>false
noncomputable def Vx (n:Nat)(lo hi:Option FV)(K:Nat→Nat→Bool):Bool:=match lo,hi with
 | none,none=>K (nat_lit 0) n
 | some i,none=>uH i fun a=>bC (Nat.ble a n) (K a n) false
 | none,some j=>uH j fun b=>bC (Nat.ble b n) (K (nat_lit 0) b) false
 | some i,some j=>uH i fun a=>uH j fun b=>bC (Nat.ble a b) (bC (Nat.ble b n) (K a b) false) false
noncomputable def dSlcL (z:Nat)(x:FV)(lo hi:Option FV)(K:KF):Bool:=match x with
 | .sl o g off n z'=>bC (Nat.beq z' z) (Vx n lo hi fun a b=>fN (Nat.add off (Nat.mul a z)) fun off=>fN (Nat.sub b a) fun n=>K (.sl o g off n z)) false
 | .n t _=>bC (Nat.beq t (nat_lit 3)) (Vx (nat_lit 0) lo hi fun _ _=>K (.n (nat_lit 3) (nat_lit 0))) false
 | _=>false
noncomputable def dSlcR (n z:Nat)(x:FV)(lo hi:Option FV)(s:GS)(K:KF):Bool:=match x with
 | .p o g off=>zu (s.t.get o) g fun _ _ n' _ _ _=>bC (Nat.ble (Nat.add off (Nat.mul n z)) n') (Vx n lo hi fun a b=>fN (Nat.add off (Nat.mul a z)) fun off=>fN (Nat.sub b a) fun n=>K (.sl o g off n z)) false
 | _=>false
noncomputable def gSlc (t:Nat)(x:bH)(lo hi:Option bH)(ρ:bH→FV)(s:GS)(K:KF):Bool:=match τ t with
 | some T=>(match T.d with
   | .str=>Vm (ρ x) (lo.map ρ) (hi.map ρ) K
   | .slice e=>bC (Nat.ble (nat_lit 1) (xG τ e)) (dSlcL (xG τ e) (ρ x) (lo.map ρ) (hi.map ρ) K) false
   | .arr n e=>bC (Nat.ble (nat_lit 1) (xG τ e)) (dSlcR n (xG τ e) (ρ x) (lo.map ρ) (hi.map ρ) s K) false
   | _=>false)
 | none=>false
noncomputable def Vy (t:Nat)(x:bH)(ρ:bH→FV)(s:GS)(K:KF):Bool:=match τ t with
 | some T=>bC T.d.agg (DT T.size (ρ x) s K) (Ik (ρ x) s K)
 | none=>false
noncomputable def gMki (t:Nat)(x:bH)(ρ:bH→FV)(K:KF):Bool:=match τ t with
 | some ⟨.qP _,_,_,_,_,_,_⟩=>false
 | some _=>K (.c (nat_lit 2) t [ρ x])
 | none=>false
noncomputable def Y8 (v:FV):List FV→Nat→List FV:=List.rec (motive:=fun _=>Nat→List FV) (fun _=>[]) (fun a l ih k=>Nat.rec (motive:=fun _=>List FV) (v :: l) (fun k _=>a :: ih k) k)
noncomputable def Vz (place:Nat→Option (Nat×Nat))(K:List FV→List FV→Bool):List (Nat×FV)→List FV→List FV→Bool:=List.rec (motive:=fun _=>List FV→List FV→Bool) (fun cs os=>K cs os) (fun p _ ih cs os=>match place p.1 with
 | some (off,size)=>bC (Nat.beq size (nat_lit 1)) (bC (Nat.ble (Nat.succ off) cs.length) (ih (Y8 p.2 cs off) (p.2 :: os)) false) false
 | none=>false)
noncomputable def ones1 (place:Nat→Option (Nat×Nat)):List (Nat×bH)→Bool:=List.rec (motive:=fun _=>Bool) true (fun p _ ih=>match place p.1 with
 | some (_,size)=>bC (Nat.beq size (nat_lit 1)) ih false
 | none=>false)
noncomputable def dOnes (os:List FV)(B:Bool):Bool:=bC (jU os) B false
noncomputable def NI (t:Nat)(ps:List (Nat×bH))(ρ:bH→FV)(K:KF):Bool:=match τ t with
 | some T=>(match T.d with
   | .st fs=>bC (bC (allT τ fs) (bC (uT T.zero.cells) (ones1 (fun i=>(fs[i]?).bind fun f=>(τ f.2.1).map fun F=>(f.1,F.size)) ps) false) false)
    (Vz (fun i=>(fs[i]?).bind fun f=>(τ f.2.1).map fun F=>(f.1,F.size)) (fun cs os=>dOnes os (K (.c (nat_lit 0) (nat_lit 0) cs))) (ps.map fun q=>(q.1,ρ q.2)) (jV T.zero.cells) [])
    (pJ P (.build t ps) ρ K)
   | _=>pJ P (.build t ps) ρ K)
 | none=>false
noncomputable def gMkf (f:Fn)(a c:List bH)(ρ:bH→FV)(K:KF):Bool:=match f with
 | .func k=>K (.c (nat_lit 3) k [.c (nat_lit 0) (nat_lit 0) (a.map ρ),.c (nat_lit 0) (nat_lit 0) (c.map ρ)])
 | _=>false
noncomputable def Kq (op:dH)(ρ:bH→FV)(s:GS)(K:KF):Bool:=match op with
 | .mv x=>K (ρ x)
 | .pick c a b=>O_ (ρ c) (ρ a) (ρ b) K
 | .load t x=>Vy τ t x ρ s K
 | .bin op t x y=>gBin P τ op t x y ρ K
 | .un op x=>gUn P op x ρ K
 | .len t x=>gLen P τ t x ρ K
 | .fG t x f=>gFad τ t x f ρ K
 | .P5 t x f=>gFld τ t x f ρ K
 | .kK t x i=>gIad τ t x i ρ K
 | .idx t x i=>gIdx P τ t x i ρ K
 | .ext x i=>dExt i (ρ x) K
 | .bF x=>Vs (ρ x) K
 | .LX t x=>gMki τ t x ρ K
 | .GY f a c=>gMkf f a c ρ K
 | .slc t x l h=>gSlc τ t x l h ρ s K
 | .build t ps=>NI P τ t ps ρ K
 | op=>pJ P op ρ K
end
section
variable {P:Program} {τ:jR} (bJ:τ.Ok P) {ρ:bH→FV} {K:KF} {s:GS} {σ:St}
def kH (P:Program)(ρ:bH→FV)(op:dH)(σ:St)(K:KF):Prop:=∃v:FV,dX P (fun o=>(ρ o).av) op σ=some (v.av,σ)∧K v=true
theorem rZ {o:Option AV} {K:KF} (hk:oC o K=true):∃v:FV,o=some v.av∧K v=true:=by
 unfold oC at hk
 split at hk
 ·rename_i v
  obtain⟨h3,h4⟩:=aH hk
  exact⟨_,by rw [mW v h3],h4⟩
 ·cases hk
theorem iW {op:dH} (hk:pJ P op ρ K=true):kH P ρ op σ K:=by
 have hm:∀l:Option bH,(l.map ρ).map FV.av=l.map (fun o=>(ρ o).av):=fun l=>by cases l <;> rfl
 unfold pJ at hk
 split at hk
 all_goals first | cases hk | (obtain⟨v,h1,h2⟩:=rZ hk;refine⟨v,?_,h2⟩;simp only [dX])
 ·rw [h1];rfl
 ·rw [h1];rfl
 ·rw [h1];rfl
 ·rw [List.map_map] at h1
  rw [show (fun q:Nat×bH=>(q.1,(ρ q.2).av))=(fun q:Nat×FV=>(q.1,q.2.av)) ∘ (fun q=>(q.1,ρ q.2)) from rfl,h1];rfl
 ·rw [h1];rfl
 ·rw [h1];rfl
 ·rw [List.map_map] at h1
  rw [show (fun o=>(ρ o).av)=FV.av ∘ ρ from rfl,h1];rfl
 ·rw [hm] at h1;rw [h1];rfl
theorem gu {op:BinOp} {t:Nat} {x y:bH} (h:∃v:FV,jr P op t (ρ x).av (ρ y).av (x.isC || y.isC)=some v.av∧K v=true):kH P ρ (.bin op t x y) σ K:=by
 obtain⟨v,h1,h2⟩:=h
 exact⟨v,by simp only [dX];rw [h1];rfl,h2⟩
theorem fV {op:BinOp} {t:Nat} {k:IntKind} {x y:AV} {c:Bool} {a b:Int} {r:Option AV} (h1:x= .i k a)(h2:y= .i k b)(h3:jm op k a b=r)(ho:op≠.shl∧op≠.shr):jr P op t x y c=r:=by
 subst h1 h2 h3
 cases op <;> first | (simp only [jr,if_true];done) | (exfalso;exact ho.1 rfl) | (exfalso;exact ho.2 rfl)
theorem VA {k:IntKind} {op:BinOp} {t:Nat} {x y:bH} (hk:Vu P k op t x y ρ K=true):kH P ρ (.bin op t x y) σ K:=by
 unfold Vu at hk
 split at hk
 case h_17=>exact iW hk
 case h_15=>
  obtain⟨a,q,b,h1,h2,v,h3,h4⟩:=shl_ok hk
  exact gu ⟨v,by rw [h1,h2];simp only [jr];exact h3,h4⟩
 case h_16=>
  obtain⟨a,q,b,h1,h2,v,h3,h4⟩:=shr_ok hk
  exact gu ⟨v,by rw [h1,h2];simp only [jr];exact h3,h4⟩
 case h_1=>obtain⟨a,b,h1,h2,v,h3,h4⟩:=add_ok hk;exact gu ⟨v,fV h1 h2 h3 (by decide),h4⟩
 case h_2=>obtain⟨a,b,h1,h2,v,h3,h4⟩:=sub_ok hk;exact gu ⟨v,fV h1 h2 h3 (by decide),h4⟩
 case h_3=>obtain⟨a,b,h1,h2,v,h3,h4⟩:=mul_ok hk;exact gu ⟨v,fV h1 h2 h3 (by decide),h4⟩
 case h_4=>obtain⟨a,b,h1,h2,v,h3,h4⟩:=and_ok hk;exact gu ⟨v,fV h1 h2 h3 (by decide),h4⟩
 case h_5=>obtain⟨a,b,h1,h2,v,h3,h4⟩:=or_ok hk;exact gu ⟨v,fV h1 h2 h3 (by decide),h4⟩
 case h_6=>obtain⟨a,b,h1,h2,v,h3,h4⟩:=xor_ok hk;exact gu ⟨v,fV h1 h2 h3 (by decide),h4⟩
 case h_7=>obtain⟨a,b,h1,h2,v,h3,h4⟩:=lss_ok hk;exact gu ⟨v,fV h1 h2 h3 (by decide),h4⟩
 case h_8=>obtain⟨a,b,h1,h2,v,h3,h4⟩:=leq_ok hk;exact gu ⟨v,fV h1 h2 h3 (by decide),h4⟩
 case h_9=>obtain⟨a,b,h1,h2,v,h3,h4⟩:=gtr_ok hk;exact gu ⟨v,fV h1 h2 h3 (by decide),h4⟩
 case h_10=>obtain⟨a,b,h1,h2,v,h3,h4⟩:=geq_ok hk;exact gu ⟨v,fV h1 h2 h3 (by decide),h4⟩
 case h_11=>obtain⟨a,b,h1,h2,v,h3,h4⟩:=eqi_ok hk;exact gu ⟨v,fV h1 h2 h3 (by decide),h4⟩
 case h_12=>obtain⟨a,b,h1,h2,v,h3,h4⟩:=nei_ok hk;exact gu ⟨v,fV h1 h2 h3 (by decide),h4⟩
 case h_13=>obtain⟨a,b,h1,h2,v,h3,h4⟩:=quo_ok hk;exact gu ⟨v,fV h1 h2 h3 (by decide),h4⟩
 case h_14=>obtain⟨a,b,h1,h2,v,h3,h4⟩:=rem_ok hk;exact gu ⟨v,fV h1 h2 h3 (by decide),h4⟩
theorem DV {op:BinOp} {t:Nat} {x y:AV} {c:Bool} {a b:List UInt8} {r:Option AV} (h1:x= .s a)(h2:y= .s b)(h3:kL op a b=r):jr P op t x y c=r:=by
 subst h1 h2 h3
 unfold jr
 cases op <;> rfl
theorem VB {op:BinOp} {t:Nat} {x y:bH} (hk:Vw P op t x y ρ K=true):kH P ρ (.bin op t x y) σ K:=by
 unfold Vw at hk
 split at hk
 ·obtain⟨a,b,h1,h2,v,h3,h4⟩:=Ve hk
  exact gu ⟨v,DV h1 h2 h3,h4⟩
 ·obtain⟨a,b,h1,h2,v,h3,h4⟩:=YZ hk
  exact gu ⟨v,DV h1 h2 (by rw [h3];rfl),h4⟩
 ·obtain⟨a,b,h1,h2,v,h3,h4⟩:=Y0 hk
  exact gu ⟨v,DV h1 h2 (by rw [h3];rfl),h4⟩
 ·exact iW hk
include bJ
theorem Y9 {op:BinOp} {t:Nat} {x y:bH} (hy:∀v,y= .c v→(ρ y).av=v)(hk:gBin P τ op t x y ρ K=true):kH P ρ (.bin op t x y) σ K:=by
 unfold gBin at hk
 split at hk
 ·rename_i T hT
  split at hk
  ·exact VA hk
  ·exact VB hk
  ·split at hk
   ·rename_i v
    cases hb:Nat.beq (isNil v) (Am T.d) with
    | false=>rw [hb,kF] at hk;exact iW hk
    | true=>
      rw [hb,lD] at hk
      have hv:=Nat.eq_of_beq_eq_true hb
      unfold gBinN at hk
      split at hk
      ·obtain⟨b,h1,h2,h3⟩:=nil_eq (bJ _ _ hT) (K:=fun b=>kB b K) hk hv
       obtain⟨r,h4,h5⟩:=DL h1
       refine gu ⟨r,?_,h5⟩
       rw [hy v rfl,show (x.isC || (bH.c v).isC)=true by simp [bH.isC],h2,h4]
      ·obtain⟨b,h1,h2,h3⟩:=nil_eq (bJ _ _ hT) (K:=fun b=>kN b K) hk hv
       obtain⟨r,h4,h5⟩:=U0 h1
       refine gu ⟨r,?_,h5⟩
       rw [hy v rfl,show (x.isC || (bH.c v).isC)=true by simp [bH.isC],h3,h4]
      ·exact iW hk
   ·exact iW hk
 ·cases hk
omit bJ in
theorem gUn_ok {op:UnOp} {x:bH} (hk:gUn P op x ρ K=true):kH P ρ (.un op x) σ K:=by
 unfold gUn at hk
 split at hk
 ·obtain⟨b,h1,v,h2,h3⟩:=Y6 hk
  exact⟨v,by simp only [dX,h1,aUn,h2];rfl,h3⟩
 ·exact iW hk
theorem Y_ {t:Nat} {x:bH} (hk:gLen P τ t x ρ K=true):kH P ρ (.len t x) σ K:=by
 unfold gLen at hk
 split at hk
 ·rename_i T hT
  obtain⟨d,s1,b1,z1,c1,hd1,g1⟩:=T
  simp only at hk
  split at hk
  ·obtain⟨a,h1,v,h2,h3⟩:=Vg hk
   exact⟨v,by simp only [dX,h1,Ew,bJ _ _ hT,h2];rfl,h3⟩
  ·rcases Vj hk with ⟨o,g,off,n,z,h1,v,h2,h3⟩ | ⟨h1,v,h2,h3⟩
   ·exact⟨v,by simp only [dX,h1,Ew,bJ _ _ hT,h2];rfl,h3⟩
   ·exact⟨v,by simp only [dX,h1,Ew,bJ _ _ hT,h2];rfl,h3⟩
  ·exact iW hk
 ·cases hk
theorem Za {t:Nat} {x:bH} {f:Nat} (hk:gFad τ t x f ρ K=true):kH P ρ (.fG t x f) σ K:=by
 unfold gFad at hk
 split at hk
 ·rename_i T hT
  obtain⟨d,s1,b1,z1,c1,hd1,g1⟩:=T
  simp only at hk
  split at hk
  ·rename_i fs
   split at hk
   ·rename_i r hr
    obtain⟨h1,hk2⟩:=aH hk
    have h1:0<xG τ r.2.1:=Nat.le_of_ble_eq_true h1
    unfold dFad at hk2
    split at hk2
    ·rename_i o g b hx
     refine⟨_,?_,hk2⟩
     simp only [dX,hx,FV.DC,P7,bJ _ _ hT,hr,Option.bind_some]
     rw [if_pos (by rw [mg bJ h1];exact h1)];rfl
    ·cases hk2
   ·cases hk
  ·cases hk
 ·cases hk
theorem Zb {t:Nat} {x:bH} {f:Nat} (hk:gFld τ t x f ρ K=true):kH P ρ (.P5 t x f) σ K:=by
 unfold gFld at hk
 split at hk
 ·rename_i T hT
  obtain⟨d,s1,b1,z1,c1,hd1,g1⟩:=T
  simp only at hk
  split at hk
  ·rename_i fs
   split at hk
   ·rename_i r hr
    split at hk
    ·rename_i F hF
     cases ha:F.d.agg with
     | true=>
       rw [ha,lD] at hk
       unfold dFldA at hk
       split at hk
       ·rename_i a l hx
        obtain⟨h1,hk2⟩:=aH hk
        rw [Dy] at hk2
        refine⟨_,?_,hk2⟩
        have h1:r.1+F.size≤l.length:=Nat.le_of_ble_eq_true h1
        simp only [dX,hx,rQ,L8,bJ _ _ hT,hr,Option.bind_some,bJ _ _ hF,partOf,ha,if_true,List.length_map]
        rw [if_pos h1,List.map_take,List.map_drop];rfl
       ·cases hk
     | false=>
       rw [ha,kF] at hk
       unfold dFld1 at hk
       split at hk
       ·rename_i a l hx
        obtain⟨v,h1,h2⟩:=Iw _ _ hk
        refine⟨v,?_,h2⟩
        simp only [dX,hx,rQ,L8,bJ _ _ hT,hr,Option.bind_some,bJ _ _ hF,partOf,ha,Bool.false_eq_true,if_false,List.getElem?_map,h1,Option.map_some]
       ·cases hk
    ·cases hk
   ·cases hk
  ·cases hk
 ·cases hk
theorem Zc {t:Nat} {x i:bH} (hk:gIad τ t x i ρ K=true):kH P ρ (.kK t x i) σ K:=by
 unfold gIad at hk
 split at hk
 ·rename_i T hT
  obtain⟨d,s1,b1,z1,c1,hd1,g1⟩:=T
  simp only at hk
  split at hk
  ·rename_i e
   obtain⟨h1,hk2⟩:=aH hk
   have h1:0<xG τ e:=Nat.le_of_ble_eq_true h1
   have hz:=mg bJ h1
   unfold dIadS at hk2
   split at hk2
   ·rename_i o g b n z' hx
    obtain⟨h2,hk3⟩:=aH hk2
    obtain⟨q,j,h3,hk4⟩:=iM hk3
    obtain⟨h4,hk5⟩:=aH hk4
    have h2:=Nat.eq_of_beq_eq_true h2
    have h4:j<n:=Nat.le_of_ble_eq_true h4
    refine⟨_,?_,hk5⟩
    simp only [dX,hx,FV.xQ,h3,L9,bJ _ _ hT]
    rw [if_pos ⟨by rw [hz,h2],by omega,by omega,by omega⟩,h2]
    simp [FV.DC]
   ·cases hk2
  ·rename_i n e
   obtain⟨h1,hk2⟩:=aH hk
   have h1:0<xG τ e:=Nat.le_of_ble_eq_true h1
   have hz:=mg bJ h1
   unfold dIad at hk2
   split at hk2
   ·rename_i o g b hx
    obtain⟨q,j,h3,hk4⟩:=iM hk2
    obtain⟨h4,hk5⟩:=aH hk4
    have h4:j<n:=Nat.le_of_ble_eq_true h4
    refine⟨_,?_,hk5⟩
    simp only [dX,hx,FV.DC,h3,L9,bJ _ _ hT]
    rw [if_pos ⟨by rw [hz];exact h1,by omega,by omega⟩,hz]
    simp
   ·cases hk2
  ·cases hk
 ·cases hk
theorem Zd {t:Nat} {x i:bH} (hk:gIdx P τ t x i ρ K=true):kH P ρ (.idx t x i) σ K:=by
 unfold gIdx at hk
 split at hk
 ·rename_i T hT
  obtain⟨d,s1,b1,z1,c1,hd1,g1⟩:=T
  simp only at hk
  split at hk
  ·obtain⟨a,q,j,h1,h2,b,h3,v,h4,h5⟩:=Vl hk
   refine⟨v,?_,h5⟩
   simp only [dX,h1,h2,L_,bJ _ _ hT]
   rw [if_pos (by omega),Int.toNat_natCast,h3,h4];rfl
  ·exact iW hk
 ·cases hk
omit bJ in
theorem Iz {n:Nat} {lo hi:Option FV} {K:Nat→Nat→Bool} (hk:Vx n lo hi K=true):∃a b,dZ n n (lo.map FV.av) (hi.map FV.av)=some (a,b)∧a≤b∧b≤n∧K a b=true:=by
 unfold Vx at hk
 split at hk
 ·exact⟨0,n,by simp [dZ,LZ,L6],Nat.zero_le _,Nat.le_refl _,hk⟩
 ·obtain⟨q,a,h1,hk2⟩:=iM hk
  obtain⟨h2,hk3⟩:=aH hk2
  have h2:a≤n:=Nat.le_of_ble_eq_true h2
  refine⟨a,n,?_,h2,Nat.le_refl _,hk3⟩
  simp only [Option.map_some,Option.map_none,h1,dZ,LZ,L6,Option.bind_some]
  rw [if_pos (by omega)];simp
 ·obtain⟨q,b,h1,hk2⟩:=iM hk
  obtain⟨h2,hk3⟩:=aH hk2
  have h2:b≤n:=Nat.le_of_ble_eq_true h2
  refine⟨0,b,?_,Nat.zero_le _,h2,hk3⟩
  simp only [Option.map_some,Option.map_none,h1,dZ,LZ]
  rw [if_pos (by omega)];simp [L6]
 ·obtain⟨q,a,h1,hk2⟩:=iM hk
  obtain⟨q',b,h1',hk3⟩:=iM hk2
  obtain⟨h2,hk4⟩:=aH hk3
  obtain⟨h3,hk5⟩:=aH hk4
  have h2:a≤b:=Nat.le_of_ble_eq_true h2
  have h3:b≤n:=Nat.le_of_ble_eq_true h3
  refine⟨a,b,?_,h2,h3,hk5⟩
  simp only [Option.map_some,h1,h1',dZ,LZ]
  rw [if_pos (by omega)]
  simp only [Option.bind_some,L6]
  rw [if_pos (by omega)];simp
theorem Ze (h:s.Is σ) {t:Nat} {x:bH} {lo hi:Option bH} (hk:gSlc τ t x lo hi ρ s K=true):kH P ρ (.slc t x lo hi) σ K:=by
 have hm:∀l:Option bH,(l.map ρ).map FV.av=l.map (fun o=>(ρ o).av):=fun l=>by cases l <;> rfl
 unfold gSlc at hk
 split at hk
 ·rename_i T hT
  obtain⟨d,s1,b1,z1,c1,hd1,g1⟩:=T
  simp only at hk
  split at hk
  ·obtain⟨a,h1,r,h2,h3⟩:=Vo hk
   rw [hm,hm] at h2
   refine⟨r,?_,h3⟩
   simp only [dX,h1,GZ,bJ _ _ hT]
   rw [h2];rfl
  ·rename_i e
   obtain⟨h1,hk2⟩:=aH hk
   have h1:0<xG τ e:=Nat.le_of_ble_eq_true h1
   have hz:=mg bJ h1
   unfold dSlcL at hk2
   split at hk2
   ·rename_i o g off n z' hx
    obtain⟨h2,hk3⟩:=aH hk2
    have h2:=Nat.eq_of_beq_eq_true h2
    obtain⟨a,b,h3,_,_,hk4⟩:=Iz hk3
    rw [kE,kE] at hk4
    rw [hm,hm] at h3
    refine⟨_,?_,hk4⟩
    simp only [dX,hx,FV.xQ,GZ,bJ _ _ hT]
    rw [if_pos ⟨by rw [hz,h2],by omega⟩,h3,h2];rfl
   ·rename_i t' x' hx
    obtain⟨h2,hk3⟩:=aH hk2
    have h2:t'= 3:=Nat.eq_of_beq_eq_true h2
    obtain⟨a,b,h3,_,_,hk4⟩:=Iz hk3
    rw [hm,hm] at h3
    refine⟨_,?_,hk4⟩
    simp only [dX,hx,GZ,bJ _ _ hT]
    rw [h2,show FV.av (.n 3 x')= .sl0 from rfl]
    simp only
    rw [if_pos (by rw [hz];exact h1),h3];rfl
   ·cases hk2
  ·rename_i n e
   obtain⟨h1,hk2⟩:=aH hk
   have h1:0<xG τ e:=Nat.le_of_ble_eq_true h1
   have hz:=mg bJ h1
   unfold dSlcR at hk2
   split at hk2
   ·rename_i o g off hx
    obtain⟨ro,e',n',m,d,t',cs,q1,q2,q3⟩:=jE h hk2
    obtain⟨h2,hk3⟩:=aH q3
    have h2:off+n*xG τ e≤n':=Nat.le_of_ble_eq_true h2
    obtain⟨a,b,h3,_,_,hk4⟩:=Iz hk3
    rw [kE,kE] at hk4
    rw [hm,hm] at h3
    refine⟨_,?_,hk4⟩
    simp only [dX,hx,FV.DC,GZ,bJ _ _ hT]
    rw [hz,if_pos h1,jl q1]
    simp only [Option.bind_some]
    rw [if_pos (by rw [q2.len];exact h2),h3];rfl
   ·cases hk2
  ·cases hk
 ·cases hk
theorem VD (h:s.Is σ) {t:Nat} {x:bH} (hk:Vy τ t x ρ s K=true):kH P ρ (.load t x) σ K:=by
 unfold Vy at hk
 split at hk
 ·rename_i T hT
  cases ha:T.d.agg with
  | true=>
    rw [ha,lD] at hk
    obtain⟨v,h1,h2⟩:=Gj h ha hk
    exact⟨v,by simp only [dX,bJ _ _ hT,h1];rfl,h2⟩
  | false=>
    rw [ha,kF] at hk
    obtain⟨v,h1,h2⟩:=Gi h ha hk
    exact⟨v,by simp only [dX,bJ _ _ hT,h1];rfl,h2⟩
 ·cases hk
omit bJ in
theorem Pm (v:FV):∀(l:List FV) (k:Nat),(Y8 v l k).map FV.av=(l.map FV.av).set k v.av
 | [],k=>rfl
 | a :: l,0=>rfl
 | a :: l,k+1=>by
   show (a :: Y8 v l k).map FV.av=_
   rw [List.map_cons,Pm v l k,List.map_cons,List.set_cons_succ]
omit bJ in
theorem Kr {place:Nat→Option (Nat×Nat)} {K:List FV→List FV→Bool} :∀(ps:List (Nat×FV)) (cs os:List FV) (_:Vz place K ps cs os=true),∃cs' os',K cs' os'= true∧(jU os'= true→jU os=true∧jO place (cs.map FV.av) (ps.map fun q=>(q.1,q.2.av))=some (cs'.map FV.av))
 | [],cs,os,hk=>⟨cs,os,hk,fun ho=>⟨ho,rfl⟩⟩
 | (i,v) :: ps,cs,os,hk=>by
   have hk':(match place i with
     | some (off,size)=>bC (Nat.beq size 1) (bC (Nat.ble (off+1) cs.length) (Vz place K ps (Y8 v cs off) (v :: os)) false) false
     | none=>false)=true:=hk
   split at hk'
   ·rename_i off size hp
    obtain⟨h1,hk2⟩:=aH hk'
    obtain⟨h2,hk3⟩:=aH hk2
    have h1:=Nat.eq_of_beq_eq_true h1
    have h2:off+1≤cs.length:=Nat.le_of_ble_eq_true h2
    obtain⟨cs',os',q1,q2⟩:=Kr ps _ _ hk3
    refine⟨cs',os',q1,fun ho=>?_⟩
    obtain⟨r1,r2⟩:=q2 ho
    obtain⟨w1,w2⟩:=lG r1
    refine⟨w2,?_⟩
    simp only [List.map_cons,jO,hp]
    obtain⟨v1,v2⟩:=ou w1
    rw [v2,if_pos ⟨h1.symm,by rw [List.length_map];omega,by simp [v1]⟩]
    rw [Pm] at r2
    exact r2
   ·cases hk'
theorem QM {t:Nat} {ps:List (Nat×bH)} (hk:NI P τ t ps ρ K=true):kH P ρ (.build t ps) σ K:=by
 unfold NI at hk
 split at hk
 ·rename_i T hT
  obtain⟨d,s1,b1,z1,c1,hd1,g1⟩:=T
  simp only at hk
  split at hk
  ·rename_i fs
   cases hc:bC (allT τ fs) (bC (uT z1.cells) (ones1 (fun i=>(fs[i]?).bind fun f=>(τ f.2.1).map fun F=>(f.1,F.size)) ps) false) false with
   | false=>rw [hc,kF] at hk;exact iW hk
   | true=>
     rw [hc,lD] at hk
     obtain⟨h1,h2⟩:=aH hc
     obtain⟨h2,_⟩:=aH h2
     obtain⟨cs',os',q1,q2⟩:=Kr _ _ _ hk
     obtain⟨q3,q4⟩:=aH q1
     obtain⟨_,q5⟩:=q2 q3
     refine⟨_,?_,q4⟩
     rw [gU _ h2,List.map_map] at q5
     simp only [dX,vk,bJ _ _ hT]
     rw [if_pos (H8 bJ fs h1)]
     have q6:=Dk (q:=fun i=>(fs[i]?).bind fun f=>(aF P f.2.1).map fun F=>(f.1,F.size)) (fun i r hi=>by
      rw [Option.bind_eq_some_iff] at hi ⊢
      obtain⟨f,hf,hi⟩:=hi
      rw [Option.map_eq_some_iff] at hi
      obtain⟨F,hF,rfl⟩:=hi
      exact⟨f,hf,by rw [bJ _ _ hF];rfl⟩) _ _ _ q5
     have e1:(ps.map fun q=>(q.1,(ρ q.2).av))=ps.map ((fun q:Nat×FV=>(q.1,q.2.av)) ∘ fun q=>(q.1,ρ q.2)):=rfl
     rw [e1,q6]
     rw [rQ];rfl
  ·exact iW hk
 ·cases hk
theorem DW (h:s.Is σ) {op:dH} (hc:∀v,bH.c v∈op.bP→(ρ (.c v)).av=v)(hk:Kq P τ op ρ s K=true):kH P ρ op σ K:=by
 unfold Kq at hk
 split at hk
 ·exact⟨_,rfl,hk⟩
 ·obtain⟨v,h1,h2⟩:=J_ hk
  exact⟨v,by simp only [dX,h1];rfl,h2⟩
 ·exact VD bJ h hk
 ·rename_i op t x y
  exact Y9 bJ (fun v hv=>by rw [hv];exact hc v (by rw [hv];simp [dH.bP])) hk
 ·exact gUn_ok hk
 ·exact Y_ bJ hk
 ·exact Za bJ hk
 ·exact Zb bJ hk
 ·exact Zc bJ hk
 ·exact Zd bJ hk
 ·rename_i x i
  obtain⟨vs,h1,v,h2,h3⟩:=Y5 hk
  exact⟨v,by simp only [dX,h1,h2];rfl,h3⟩
 ·rename_i x
  unfold Vs at hk
  split at hk
  ·rename_i hx;exact⟨_,by simp only [dX,hx,FV.DC,MB];rfl,hk⟩
  ·rename_i hx;exact⟨_,by simp only [dX,hx,J3,MB];rfl,hk⟩
  ·rename_i hx;exact⟨_,by simp only [dX,hx];rfl,hk⟩
  ·cases hk
 ·rename_i t x
  unfold gMki at hk
  split at hk
  ·cases hk
  ·rename_i T hn hT
   refine⟨_,?_,hk⟩
   simp only [dX,bJ _ _ hT]
   rw [J3]
  ·cases hk
 ·unfold gMkf at hk
  split at hk
  ·refine⟨_,?_,hk⟩
   simp only [dX]
   rw [FV.Ic,FV.zi]
   simp only [List.map_cons,List.map_nil,rQ,List.map_map];rfl
  ·cases hk
 ·exact Ze bJ h hk
 ·exact QM bJ hk
 ·exact iW hk
end
end Go.bK
namespace Go.bK
abbrev Rn:=Nat→List FV→GS→KS→Bool
section
variable (X:Ctx)(τ:jR)(run:Rn)
noncomputable def NJ (t:Nat)(s:GS)(K:KS):Bool:=match τ t with
 | some T=>bC (uT T.zero.cells) (newL t (jV T.zero.cells) s fun o s'=>K (.p o (nat_lit 0) (nat_lit 0)) s') false
 | none=>false
noncomputable def zA (x:FV)(K:List FV→Bool):Bool:=match x with
 | .c 0 _ l=>K l
 | x=>K [x]
noncomputable def dBox (t:Nat)(x:FV)(s:GS)(K:KS):Bool:=zA x fun l=>newL t l s fun o s'=>K (.p o (nat_lit 0) (nat_lit 0)) s'
noncomputable def NK (t:Nat)(x y:bH)(ρ:bH→FV)(s:GS)(K:KS):Bool:=match τ t with
 | some T=>bC T.d.agg (Io T.size (ρ x) (ρ y) s fun s'=>K (.c (nat_lit 1) (nat_lit 0) []) s') (bC (Nat.beq T.size (nat_lit 1)) (Il (ρ x) (ρ y) s fun s'=>K (.c (nat_lit 1) (nat_lit 0) []) s') false)
 | none=>false
noncomputable def pkK:List FV→(Nat→Bool)→Bool:=List.rec (motive:=fun _=>(Nat→Bool)→Bool) (fun K=>K (nat_lit 0)) (fun a _ ih K=>FV.rec (motive_1:=fun _=>Bool) (motive_2:=fun _=>PUnit) (fun t x=>bC (Nat.beq t (nat_lit 512)) (ih fun v=>fN (Nat.add (Nat.mod x (nat_lit 256)) (Nat.mul (nat_lit 256) v)) K) false) (fun _ _ _=>false) (fun _ _ _ _ _=>false) (fun _ _=>false) (fun _ _ _ _=>false) ⟨⟩ (fun _ _ _ _=>⟨⟩) a)
noncomputable def Pn (m:Nat)(d:List FV)(t:Tr FV):Bool:=match t,d with
 | .lf,[.n 512 0]=>Nat.beq m (nat_lit 1)
 | _,_=>false
noncomputable def dToS (x:FV)(s:GS)(K:KF):Bool:=match x with
 | .n t _=>bC (Nat.beq t (nat_lit 3)) (K (.s (nat_lit 0) (nat_lit 0))) false
 | .sl o g off n z=>bC (Nat.beq z (nat_lit 1)) (zu (s.t.get o) g fun _ _ n' m d t=>bC (Nat.ble (Nat.add off n) n') (bC (Pn m d t) (K (.s n (nat_lit 0))) (Nz m d t n off fun l=>pkK l fun v=>K (.s n v))) false) false
 | _=>false
noncomputable def dOfS (e:Nat)(x:FV)(s:GS)(K:KS):Bool:=match x with
 | .s n v=>Ir n v fun l=>newT e l s fun o s'=>K (.sl o (nat_lit 0) (nat_lit 0) n (nat_lit 1)) s'
 | _=>false
noncomputable def isSt:FV→Bool:=FV.rec (motive_1:=fun _=>Bool) (motive_2:=fun _=>PUnit) (fun _ _=>false) (fun _ _ _=>false) (fun _ _ _ _ _=>false) (fun _ _=>true) (fun _ _ _ _=>false) ⟨⟩ (fun _ _ _ _=>⟨⟩)
noncomputable def VE (a b:Nat)(x:bH)(ρ:bH→FV)(s:GS)(K:KS):Bool:=match τ a,τ b with
 | some A,some B=>(match A.d,B.d with
   | _,.int k=>dCvt (tg k) (md k) (ρ x) fun v=>K v s
   | .str,.str=>bC (isSt (ρ x)) (K (ρ x) s) false
   | .str,.slice e=>bC (Nh τ e) (dOfS e (ρ x) s K) false
   | .slice e,.str=>bC (Nh τ e) (dToS (ρ x) s fun v=>K v s) false
   | _,_=>false)
 | _,_=>false
noncomputable def dMks (e z b:Nat)(d:List FV)(l c:FV)(s:GS)(K:KS):Bool:=uH l fun l=>uH c fun c=>bC (Nat.ble l c) (bC (bC (Nat.ble c (nat_lit 9223372036854775807)) (Nat.ble (Nat.mul b c) (nat_lit 140737488355328)) false) (fN (Nat.mul c z) fun n=>newD e n z d s fun o s'=>K (.sl o (nat_lit 0) (nat_lit 0) l z) s') false) false
noncomputable def gMks (t:Nat)(l c:bH)(ρ:bH→FV)(s:GS)(K:KS):Bool:=match τ t with
 | some T=>(match T.d with
   | .slice e=>(match τ e with
     | some E=>bC (bC (Nat.ble (nat_lit 1) E.size) (bC (Nat.beq E.zero.cells.length E.size) (bC (uT E.zero.cells) (jU (jV E.zero.cells)) false) false) false)
       (dMks e E.size E.bytes (jV E.zero.cells) (ρ l) (ρ c) s K) false
     | none=>false)
   | _=>false)
 | none=>false
noncomputable def VF (z:Nat):List (Nat×FV)→List FV→(List FV→Bool)→Bool:=List.rec (motive:=fun _=>List FV→(List FV→Bool)→Bool) (fun cs K=>K cs) (fun p _ ih cs K=>zA p.2 fun ys=>bC (Nat.beq ys.length z) (bC (Nat.ble (Nat.add (Nat.mul p.1 z) z) cs.length) (bC (jU ys) (fSp (cs.take (Nat.mul p.1 z) ++ (ys ++ cs.drop (Nat.add (Nat.mul p.1 z) z))) fun cs=>ih cs K) false) false) false)
noncomputable def dBsl (e z n:Nat)(zs:List FV)(ps:List (Nat×FV))(s:GS)(K:KS):Bool:=VF z ps zs fun cs=>newT e cs s fun o s'=>K (.sl o (nat_lit 0) (nat_lit 0) n z) s'
noncomputable def gBsl (t n:Nat)(ps:List (Nat×bH))(ρ:bH→FV)(s:GS)(K:KS):Bool:=match τ t with
 | some T=>(match T.d with
   | .slice e=>(match τ e with
     | some E=>bC (bC (Nat.ble (nat_lit 1) E.size) (bC (Nat.beq E.zero.cells.length E.size) (bC (uT (nV E.zero.cells n)) (Nat.ble (Nat.mul n E.size) (nat_lit 16777216)) false) false) false)
       (dBsl e E.size n (jV (nV E.zero.cells n)) (ps.map fun q=>(q.1,ρ q.2)) s K) false
     | none=>false)
   | _=>false)
 | none=>false
noncomputable def gApp (t:Nat)(x y:bH)(ρ:bH→FV)(s:GS)(K:KS):Bool:=match τ t with
 | some T=>(match T.d with
   | .slice e=>(match τ e with
     | some E=>bC (bC (Nat.ble (nat_lit 1) E.size) (bC (Nat.beq E.zero.cells.length E.size) (Nat.ble (nat_lit 1) E.bytes) false) false) (dApp e E.size E.bytes (ρ x) (ρ y) s K) false
     | none=>false)
   | _=>false)
 | none=>false
noncomputable def gCopy (t:Nat)(x y:bH)(ρ:bH→FV)(s:GS)(K:KS):Bool:=match τ t with
 | some T=>(match T.d with
   | .slice e=>(match τ e with
     | some E=>Vp E.size (ρ x) (ρ y) s K
     | none=>false)
   | _=>false)
 | none=>false
noncomputable def dNxt (x:FV)(s:GS)(K:KS):Bool:=match x with
 | .p o g 0=>Option.rec (motive:=fun _=>Bool) false (fun f=>GO.rec (motive:=fun _=>Bool) (fun _ _ _ _ _ _ _=>false) (fun g' n v pos=>bC (Nat.beq g g') (bC (Nat.ble (Nat.succ pos) n) (bC (Nat.ble n (nat_lit 9223372036854775807)) (fN (Nat.mod (Nat.shiftRight v (Nat.mul (nat_lit 8) pos)) (nat_lit 256)) fun b=>bC (Nat.ble b (nat_lit 127)) (fN (Nat.succ pos) fun pos'=>s.put o (.iter g' n v pos') fun s'=>K (.c (nat_lit 1) (nat_lit 0) [.n (nat_lit 1) (nat_lit 1),.n (nat_lit 36893488147419103233) pos,.n (nat_lit 8589934593) b]) s') false) false) (K (.c (nat_lit 1) (nat_lit 0) [.n (nat_lit 1) (nat_lit 0)]) s)) false) (fun _ _=>false) false (fun _ _ _ _=>false) f) (s.t.get o)
 | _=>false
noncomputable def dRng (x:FV)(s:GS)(K:KS):Bool:=match x with
 | .s n v=>s.new (.iter (nat_lit 0) n v (nat_lit 0)) fun o s'=>K (.p o (nat_lit 0) (nat_lit 0)) s'
 | _=>false
noncomputable def gRng (t:Nat)(x:bH)(ρ:bH→FV)(s:GS)(K:KS):Bool:=match τ t with
 | some T=>(match T.d with
   | .str=>dRng (ρ x) s K
   | _=>false)
 | none=>false
noncomputable def Kt (d:AD)(x y:FV):Option Bool:=match d,x,y with
 | .str,.s n v,.s m w=>some (U_ n v m w)
 | .int k,.n t a,.n t' b=>bC (Nat.beq t (tg k)) (bC (Nat.beq t' (tg k)) (some (Nat.beq (Nat.mod a (md k)) (Nat.mod b (md k)))) none) none
 | _,_,_=>none
noncomputable def IB (d:AD)(x:FV):Bool:=match d,x with
 | .str,.s _ _=>true
 | .int k,.n t _=>Nat.beq t (tg k)
 | _,_=>false
noncomputable def Ku (d:AD)(k:FV)(A:Nat→FV×FV→Bool)(B:Bool):List (FV×FV)→Nat→Bool:=List.rec (motive:=fun _=>Nat→Bool) (fun _=>B) (fun e _ ih i=>Option.rec (motive:=fun _=>Bool) false (fun b=>bC b (A i e) (ih (Nat.succ i))) (Kt d k e.1))
noncomputable def Zf (x:FV)(s:GS)(K:List (FV×FV)→Bool):Bool:=match x with
 | .n t _=>bC (Nat.beq t (nat_lit 6)) (K []) false
 | .c 5 o _=>Option.rec (motive:=fun _=>Bool) false (fun f=>GO.rec (motive:=fun _=>Bool) (fun _ _ _ _ _ _ _=>false) (fun _ _ _ _=>false) (fun g es=>bC (Nat.beq g (nat_lit 0)) (K es) false) false (fun _ _ _ _=>false) f) (s.t.get o)
 | _=>false
noncomputable def dLku (d:AD)(ok:Bool)(z x k:FV)(s:GS)(K:KF):Bool:=bC (IB d k) (Zf x s fun es=>Ku d k (fun _ e=>bC ok (K (.c (nat_lit 1) (nat_lit 0) [e.2,.n (nat_lit 1) (nat_lit 1)])) (K e.2)) (bC ok (K (.c (nat_lit 1) (nat_lit 0) [z,.n (nat_lit 1) (nat_lit 0)])) (K z)) es (nat_lit 0)) false
noncomputable def VG (t:Nat)(x k:bH)(ok:Bool)(ρ:bH→FV)(s:GS)(K:KF):Bool:=match τ t with
 | some T=>(match T.d with
   | .map kt et=>(match τ kt,τ et with
     | some KT,some E=>bC (QL E.zero) (dLku KT.d ok (AY E.zero) (ρ x) (ρ k) s K) false
     | _,_=>false)
   | _=>false)
 | none=>false
noncomputable def dMup (d:AD)(m k v:FV)(s:GS)(K:KS):Bool:=match m with
 | .c 5 o l=>bC (IB d k) (Zf (.c 5 o l) s fun es=>Ku d k (fun i _=>fSp (es.set i (k,v)) fun es'=>s.put o (.maps (nat_lit 0) es') fun s'=>K (.c (nat_lit 1) (nat_lit 0) []) s') (fSp (es ++ [(k,v)]) fun es'=>s.put o (.maps (nat_lit 0) es') fun s'=>K (.c (nat_lit 1) (nat_lit 0) []) s') es (nat_lit 0)) false
 | _=>false
noncomputable def gMup (t:Nat)(m k v:bH)(ρ:bH→FV)(s:GS)(K:KS):Bool:=match τ t with
 | some T=>(match T.d with
   | .map kt _=>(match τ kt with
     | some KT=>dMup KT.d (ρ m) (ρ k) (ρ v) s K
     | none=>false)
   | _=>false)
 | none=>false
noncomputable def gMkm (r:Option bH)(s:GS)(K:KS):Bool:=match r with
 | none=>s.new (.maps (nat_lit 0) []) fun o s'=>K (.c (nat_lit 5) o []) s'
 | some _=>false
noncomputable def VH (f:FV)(args:List FV)(s:GS)(K:KS):Bool:=match f with
 | .c 3 k [.c 0 _ a,.c 0 _ c]=>fSp (a ++ args ++ c) fun l=>run k l s K
 | _=>false
noncomputable def NM (f:bH)(args:List bH)(ρ:bH→FV)(s:GS)(K:KS):Bool:=match f with
 | .c (.fn (.func k) [] [])=>run k (args.map ρ) s K
 | f=>VH run (ρ f) (args.map ρ) s K
noncomputable def gInv (x:FV)(m:String)(args:List FV)(s:GS)(K:KS):Bool:=match x with
 | .c 2 t [v]=>(match X.meth t m v.av with
   | some k=>bC (QL k.2) (run k.1 (AY k.2 :: args) s K) false
   | none=>false)
 | _=>false
noncomputable def Kv (op:dH)(ρ:bH→FV)(s:GS)(K:KS):Bool:=match op with
 | .alloc t=>NJ τ t s K
 | .box t x=>dBox t (ρ x) s K
 | .iT t n ps=>gBsl τ t n ps ρ s K
 | .store t x y=>NK τ t x y ρ s K
 | .conv a b x=>VE τ a b x ρ s K
 | .RU t l c=>gMks τ t l c ρ s K
 | .rng t x=>gRng τ t x ρ s K
 | .Sj x=>dNxt (ρ x) s K
 | .app t _ x y=>gApp τ t x y ρ s K
 | .copy t x y=>gCopy τ t x y ρ s K
 | .call f args=>NM run f args ρ s K
 | .inv x m args=>gInv X run (ρ x) m (args.map ρ) s K
 | .Xg _ r=>gMkm r s K
 | .wG t m k v=>gMup τ t m k v ρ s K
 | .Oq t x k ok=>VG τ t x k ok ρ s fun v=>K v s
 | op=>Kq X.P τ op ρ s fun v=>K v s
end
def Rn.Ok (X:Ctx)(run:Rn):Prop:=∀(f:Nat) (args:List FV) (s:GS) (σ:St) (K:KS),s.Is σ→run f args s K=true→∃n,Xj (bFn X n f (args.map FV.av) σ) K
def lU (X:Ctx)(ρ:bH→FV)(op:dH)(σ:St)(K:KS):Prop:=∃n,Xj (dn X (bFn X n) (fun o=>(ρ o).av) op σ) K
section
variable {X:Ctx} {τ:jR} (bJ:τ.Ok X.P) {run:Rn} (hr:run.Ok X) {ρ:bH→FV} {K:KS} {s:GS} {σ:St} (h:s.Is σ)
include h
theorem Gn {op:dH} (ho:∀n:Nat,dn X (bFn X n) (fun o=>(ρ o).av) op σ=dX X.P (fun o=>(ρ o).av) op σ)(hp:kH X.P ρ op σ fun v=>K v s):lU X ρ op σ K:=by
 obtain⟨v,h1,h2⟩:=hp
 exact⟨0,v,σ,s,by rw [ho,h1],h,h2⟩
include bJ
theorem QN {t:Nat} (hk:NJ τ t s K=true):lU X ρ (.alloc t) σ K:=by
 unfold NJ at hk
 split at hk
 ·rename_i T hT
  obtain⟨h1,h2⟩:=aH hk
  obtain⟨s',q1,q2⟩:=Ip h h2
  rw [gU _ h1] at q2
  exact⟨0,_,_,s',by simp only [dn,dX,bJ _ _ hT];rfl,q2,q1⟩
 ·cases hk
omit bJ in
theorem Zg {t:Nat} {x:bH} (hk:dBox t (ρ x) s K=true):lU X ρ (.box t x) σ K:=by
 unfold dBox zA at hk
 split at hk
 ·rename_i a l hx
  obtain⟨s',q1,q2⟩:=Ip h hk
  refine⟨0,_,_,s',?_,q2,q1⟩
  simp only [dn,dX,hx,rQ];rfl
 ·have hone:xW (ρ x)=true:=by
   obtain⟨h1,_⟩:=aH hk
   exact(lG h1).1
  obtain⟨h1,h2⟩:=ou hone
  obtain⟨s',q1,q2⟩:=Ip h hk
  refine⟨0,_,_,s',?_,q2,q1⟩
  simp only [dn,dX]
  have e: [ρ x].map FV.av=(ρ x).av.cells:=by rw [h2];rfl
  rw [e]
  split
  ·rename_i e2;rw [e2] at h1;cases h1
  ·rename_i e2;rw [e2] at h1;cases h1
  ·rename_i e2;rw [e2] at h1;cases h1
  ·rfl
theorem QO {t:Nat} {x y:bH} (hk:NK τ t x y ρ s K=true):lU X ρ (.store t x y) σ K:=by
 unfold NK at hk
 split at hk
 ·rename_i T hT
  cases ha:T.d.agg with
  | true=>
    rw [ha,lD] at hk
    obtain⟨σ',s',h1,h2,h3⟩:=ND h hk
    exact⟨0,_,σ',s',by simp only [dn,dX,bJ _ _ hT,h1];rfl,h2,h3⟩
  | false=>
    rw [ha,kF] at hk
    obtain⟨h0,hk2⟩:=aH hk
    obtain⟨σ',s',h1,h2,h3⟩:=NC h (Nat.eq_of_beq_eq_true h0) hk2
    exact⟨0,_,σ',s',by simp only [dn,dX,bJ _ _ hT,h1];rfl,h2,h3⟩
 ·cases hk
omit bJ h in
theorem VI:∀(l:List FV) {K:Nat→Bool} (_:pkK l K=true),∃v,bytesOf (l.map FV.av)=some (fE l.length v)∧K v=true
 | [],K,hk=>⟨0,rfl,hk⟩
 | a :: l,K,hk=>by
   cases a with
   | n t x=>
     have hk':bC (Nat.beq t 512) (pkK l fun v=>fN (Nat.add (Nat.mod x 256) (Nat.mul 256 v)) K) false=true:=hk
     obtain⟨h1,h2⟩:=aH hk'
     have h1:=Nat.eq_of_beq_eq_true h1
     subst h1
     obtain⟨v,h3,h4⟩:=VI l h2
     rw [kE] at h4
     refine⟨_,?_,h4⟩
     have hx:x%256<256:=Nat.mod_lt _ (by omega)
     have e1:FV.av (.n 512 x)= .i .u8 (x%256:Nat):=by
       rw [FV.xP,show (512:Nat)=tg .u8 from rfl,iD,←jT .u8 x,show x%2^IntKind.u8.bits=x%256 from rfl,wrap_small .u8 (by simp only [IntKind.signed,IntKind.bits,if_false,Bool.false_eq_true];omega)]
     rw [List.map_cons,e1]
     simp only [bytesOf,h3,Option.map_some,List.length_cons,dN]
     have e2:Nat.add (Nat.mod x 256) (Nat.mul 256 v)=x%256+256*v:=rfl
     rw [e2,show (x%256+256*v)%256=x%256 by omega,show (x%256+256*v) / 256=v by omega,Int.toNat_natCast]
   | _=>cases hk
omit bJ h in
theorem VJ {n' m:Nat} {d:List FV} {t:Tr FV} {cs:List AV} (hz:Pn m d t=true)(hc:dQ n' m d t cs)(off n:Nat)(hl:off+n≤n'):bytesOf ((cs.drop off).take n)=some (fE n 0):=by
 unfold Pn at hz
 split at hz
 ·have hm:m=1:=Nat.eq_of_beq_eq_true hz
  have hcell:∀i,i<n'→cs[i]? =some (.i .u8 0):=fun i hi=>by
   rw [hc.at_ i hi,hm]
   have:uI 1 [.n 512 0] .lf i= .n 512 0:=by
        show Ny [.n 512 0] (i%1)=_
        rw [Nat.mod_one];rfl
   rw [this];rfl
  have key:∀(k:Nat) (l:List AV),l.length=k→(∀i,i<k→l[i]? =some (.i .u8 0))→bytesOf l=some (fE k 0):=by
   intro k
   induction k with
   | zero=>intro l hl _;rw [List.eq_nil_of_length_eq_zero hl];rfl
   | succ k ih=>
     intro l hl hi
     cases l with
     | nil=>simp at hl
     | cons a l=>
       have h0:a= .i .u8 0:=Option.some.inj (hi 0 (by omega))
       subst h0
       have h1:=ih l (by simpa using hl) (fun i hlt=>by have:=hi (i+1) (by omega);simpa using this)
       simp only [bytesOf,h1,Option.map_some,dN];rfl
  refine key n _ (by have:=hc.len;simp;omega) fun i hi=>?_
  rw [List.getElem?_take,if_pos hi,List.getElem?_drop]
  exact hcell _ (by omega)
 ·cases hz
theorem VK {a b:Nat} {x:bH} (hk:VE τ a b x ρ s K=true):lU X ρ (.conv a b x) σ K:=by
 unfold VE at hk
 split at hk
 ·rename_i A B hA hB
  obtain⟨d1,s1,b1,z1,c1,hd1,g1⟩:=A
  obtain⟨d2,s2,b2,z2,c2,hd2,g2⟩:=B
  simp only at hk
  split at hk
  ·obtain⟨q,n,h1,v,h2,h3⟩:=cvt_ok hk
   refine⟨0,v,σ,s,?_,h,h3⟩
   simp only [dn,dX,qQ,bJ _ _ hA,bJ _ _ hB,h1,h2]
  ·obtain⟨h1,hk2⟩:=aH hk
   cases hx:ρ x with
   | s n v=>
     rw [hx] at hk2
     exact⟨0,_,σ,s,by simp only [dn,dX,qQ,bJ _ _ hA,bJ _ _ hB,hx,FV.xR],h,hk2⟩
   | _=>rw [hx] at h1;cases h1
  ·rename_i e
   obtain⟨h1,hk2⟩:=aH hk
   obtain⟨_,_,_,_,_,_,he⟩:=xI bJ h1
   unfold dOfS at hk2
   split at hk2
   ·rename_i n v hx
    obtain⟨l,q1,q2,q3,q4⟩:=zx n v hk2
    obtain⟨s',r1,r2⟩:=Iq h q1
    refine⟨0,_,_,s',?_,r2,r1⟩
    simp only [dn,dX,qQ,bJ _ _ hA,bJ _ _ hB,hx,FV.xR,he,eH,FV.xQ]
    rw [q2];rfl
   ·cases hk2
  ·rename_i e
   obtain⟨h1,hk2⟩:=aH hk
   obtain⟨_,_,_,_,_,_,he⟩:=xI bJ h1
   unfold dToS at hk2
   split at hk2
   ·rename_i t x' hx
    obtain⟨h2,hk3⟩:=aH hk2
    have h2:t=3:=Nat.eq_of_beq_eq_true h2
    refine⟨0,_,σ,s,?_,h,hk3⟩
    simp only [dn,dX,qQ,bJ _ _ hA,bJ _ _ hB,hx]
    rw [h2,show FV.av (.n 3 x')= .sl0 from rfl]
    simp only [he];rfl
   ·rename_i o g off n z hx
    obtain⟨h2,hk3⟩:=aH hk2
    have h2:z=1:=Nat.eq_of_beq_eq_true h2
    obtain⟨ro,e',n',m,d,t,cs,w1,w2,w3⟩:=jE h hk3
    obtain⟨h4,h5⟩:=aH w3
    have h4:off+n≤n':=Nat.le_of_ble_eq_true h4
    cases hz0:Pn m d t with
    | true=>
      rw [hz0,lD] at h5
      have hby:=VJ hz0 w2 off n h4
      refine⟨0,_,σ,s,?_,h,h5⟩
      simp only [dn,dX,qQ,bJ _ _ hA,bJ _ _ hB,hx,FV.xQ,he]
      rw [if_pos h2,jl w1]
      simp only [Option.bind_some]
      rw [if_pos (by rw [w2.len];exact h4),hby];rfl
    | false=>
    rw [hz0,kF] at h5
    obtain⟨l,r1,r2,r3⟩:=uh w2 n off h4 h5
    obtain⟨v,v1,v2⟩:=VI l r1
    have hll:l.length=n:=by
     have e1:=congrArg List.length r2
     have:=w2.len
     simp only [List.length_map,List.length_take,List.length_drop] at e1
     omega
    refine⟨0,_,σ,s,?_,h,v2⟩
    simp only [dn,dX,qQ,bJ _ _ hA,bJ _ _ hB,hx,FV.xQ,he]
    rw [if_pos h2,jl w1]
    simp only [Option.bind_some]
    rw [if_pos (by rw [w2.len];exact h4),←r2,v1,hll];rfl
   ·cases hk2
  ·cases hk
 ·cases hk
theorem Zh {t:Nat} {l c:bH} (hk:gMks τ t l c ρ s K=true):lU X ρ (.RU t l c) σ K:=by
 unfold gMks at hk
 split at hk
 ·rename_i T hT
  obtain⟨d1,s1,b1,z1,c1,hd1,g1⟩:=T
  simp only at hk
  split at hk
  ·rename_i e
   split at hk
   ·rename_i E hE
    obtain⟨h1,hk2⟩:=aH hk
    obtain⟨h2,h1⟩:=aH h1
    obtain⟨h3,h1⟩:=aH h1
    obtain⟨h4,h5⟩:=aH h1
    unfold dMks at hk2
    obtain⟨k1,l',q1,hk3⟩:=iM hk2
    obtain⟨k2,c',q2,hk4⟩:=iM hk3
    obtain⟨q3,hk5⟩:=aH hk4
    obtain⟨q4,hk6⟩:=aH hk5
    rw [kE] at hk6
    have h2:1≤E.size:=Nat.le_of_ble_eq_true h2
    have h3:=Nat.eq_of_beq_eq_true h3
    have q3:l'≤c':=Nat.le_of_ble_eq_true q3
    obtain⟨hc9,q4⟩:=aH q4
    have hc9:c'≤9223372036854775807:=Nat.le_of_ble_eq_true hc9
    have q4:E.bytes*c'≤140737488355328:=Nat.le_of_ble_eq_true q4
    have hlen:(jV E.zero.cells).length=E.size:=by
     have:=congrArg List.length (gU _ h4)
     rw [List.length_map] at this;omega
    have hrep:=dQ.rep h5 c'
    rw [hlen,gU _ h4] at hrep
    obtain⟨s',r1,r2⟩:=Ph h hrep hk6
    refine⟨0,_,_,s',?_,r2,r1⟩
    simp only [dn,dX,P8,bJ _ _ hT,bJ _ _ hE,q1,q2]
    rw [if_pos ⟨by omega,h3,by omega,by omega,by omega,by omega⟩]
    simp [FV.xQ]
   ·cases hk
  ·cases hk
 ·cases hk
omit h bJ in
theorem setCells_eq:∀(ys cs:List AV) (off:Nat),off+ys.length≤cs.length→setCells cs off ys=cs.take off ++ (ys ++ cs.drop (off+ys.length))
 | [],cs,off,_=>by simp [setCells]
 | y :: ys,cs,off,hl=>by
   simp only [List.length_cons] at hl
   have hlt:off<cs.length:=by omega
   simp only [setCells]
   rw [setCells_eq ys (cs.set off y) (off+1) (by simp;omega)]
   rw [List.take_add_one,List.take_set_of_le (Nat.le_refl off),List.getElem?_set_self hlt,List.drop_set_of_lt (by omega)]
   simp [List.append_assoc,Nat.add_assoc,Nat.add_comm 1]
omit h bJ in
theorem QS {x:FV} {K:List FV→Bool} (hk:zA x K=true):∃l,K l=true∧(jU l=true→x.av.cells=l.map FV.av):=by
 unfold zA at hk
 split at hk
 ·refine⟨_,hk,fun _=>?_⟩
  rw [rQ];rfl
 ·exact⟨_,hk,fun ho=>(ou (lG ho).1).2⟩
omit h bJ in
theorem Kw {z:Nat} :∀(ps:List (Nat×FV)) (cs:List FV) {K:List FV→Bool} (_:VF z ps cs K=true),∃cs',K cs'= true∧jO (fun i=>some (i*z,z)) (cs.map FV.av) (ps.map fun q=>(q.1,q.2.av))=some (cs'.map FV.av)
 | [],cs,K,hk=>⟨cs,hk,rfl⟩
 | (i,v) :: ps,cs,K,hk=>by
   have hk':(zA v fun ys=>bC (Nat.beq ys.length z) (bC (Nat.ble (i*z+z) cs.length) (bC (jU ys) (fSp (cs.take (i*z) ++ (ys ++ cs.drop (i*z+z))) fun cs=>VF z ps cs K) false) false) false)=true:=hk
   obtain⟨ys,h1,h2⟩:=QS hk'
   obtain⟨h3,h1⟩:=aH h1
   obtain⟨h4,h1⟩:=aH h1
   obtain⟨h5,h1⟩:=aH h1
   rw [Dy] at h1
   have h3:=Nat.eq_of_beq_eq_true h3
   have h4:i*z+z≤cs.length:=Nat.le_of_ble_eq_true h4
   obtain⟨cs',q1,q2⟩:=Kw ps _ h1
   refine⟨cs',q1,?_⟩
   simp only [List.map_cons,jO]
   rw [h2 h5,if_pos ⟨by rw [List.length_map];exact h3,by rw [List.length_map];exact h4,xX ys h5⟩]
   rw [setCells_eq _ _ _ (by rw [List.length_map,List.length_map,h3];exact h4),List.length_map,h3]
   simp only [List.map_append,List.map_take,List.map_drop] at q2
   exact q2
theorem Zi {t n:Nat} {ps:List (Nat×bH)} (hk:gBsl τ t n ps ρ s K=true):lU X ρ (.iT t n ps) σ K:=by
 unfold gBsl at hk
 split at hk
 ·rename_i T hT
  obtain⟨d1,s1,b1,z1,c1,hd1,g1⟩:=T
  simp only at hk
  split at hk
  ·rename_i e
   split at hk
   ·rename_i E hE
    obtain⟨h1,hk2⟩:=aH hk
    obtain⟨h2,h1⟩:=aH h1
    obtain⟨h3,h1⟩:=aH h1
    obtain⟨h4,h5⟩:=aH h1
    unfold dBsl at hk2
    obtain⟨cs',q1,q2⟩:=Kw _ _ hk2
    obtain⟨s',r1,r2⟩:=Iq h q1
    rw [gU _ h4,List.map_map] at q2
    refine⟨0,_,_,s',?_,r2,r1⟩
    simp only [dn,dX,P6,bJ _ _ hT,bJ _ _ hE]
    rw [if_pos ⟨Nat.le_of_ble_eq_true h2,Nat.eq_of_beq_eq_true h3,Nat.le_of_ble_eq_true h5⟩]
    have e1:(ps.map fun q=>(q.1,(ρ q.2).av))=ps.map ((fun q:Nat×FV=>(q.1,q.2.av)) ∘ fun q=>(q.1,ρ q.2)):=rfl
    rw [e1,q2];rfl
   ·cases hk
  ·cases hk
 ·cases hk
theorem Zj {t:Nat} {b:Bool} {x y:bH} (hk:gApp τ t x y ρ s K=true):lU X ρ (.app t b x y) σ K:=by
 unfold gApp at hk
 split at hk
 ·rename_i T hT
  obtain⟨d1,s1,b1,z1,c1,hd1,g1⟩:=T
  simp only at hk
  split at hk
  ·rename_i e
   split at hk
   ·rename_i E hE
    obtain⟨h1,hk2⟩:=aH hk
    obtain⟨h2,h1⟩:=aH h1
    obtain⟨h3,h4⟩:=aH h1
    exact⟨0,Y4 h (bJ _ _ hT) (bJ _ _ hE) (Nat.le_of_ble_eq_true h2) (Nat.eq_of_beq_eq_true h3) (Nat.le_of_ble_eq_true h4) hk2⟩
   ·cases hk
  ·cases hk
 ·cases hk
theorem VL {t:Nat} {x y:bH} (hk:gCopy τ t x y ρ s K=true):lU X ρ (.copy t x y) σ K:=by
 unfold gCopy at hk
 split at hk
 ·rename_i T hT
  obtain⟨d1,s1,b1,z1,c1,hd1,g1⟩:=T
  simp only at hk
  split at hk
  ·rename_i e
   split at hk
   ·rename_i E hE
    exact⟨0,Vq h (bJ _ _ hT) (bJ _ _ hE) hk⟩
   ·cases hk
  ·cases hk
 ·cases hk
theorem Zk {t:Nat} {x:bH} (hk:gRng τ t x ρ s K=true):lU X ρ (.rng t x) σ K:=by
 unfold gRng at hk
 split at hk
 ·rename_i T hT
  obtain⟨d1,s1,b1,z1,c1,hd1,g1⟩:=T
  simp only at hk
  split at hk
  ·unfold dRng at hk
   split at hk <;> first | cases hk | skip
   rename_i n v hx
   obtain⟨s',q1,q2⟩:=GS.vW h (f:=.iter 0 n v 0) (a:=⟨0,false,.iter (fE n v) 0⟩) rfl hk
   exact⟨0,_,_,s',by simp only [dn,dX,P9,bJ _ _ hT,hx,FV.xR];rfl,q2,q1⟩
  ·cases hk
 ·cases hk
omit bJ in
theorem Zl {x:bH} (hk:dNxt (ρ x) s K=true):lU X ρ (.Sj x) σ K:=by
 unfold dNxt at hk
 split at hk
 ·rename_i o g hx
  cases ho:s.t.get o with
  | none=>rw [ho] at hk;cases hk
  | some f=>
    rw [ho] at hk
    cases f with
    | iter g' n v pos=>
      obtain⟨h1,hk2⟩:=aH hk
      have h1:=Nat.eq_of_beq_eq_true h1
      obtain⟨a,h2,rfl⟩:=h.2 _ _ ho
      have hx':(ρ x).av= .p o g 0:=by rw [hx];rfl
      cases hp:Nat.ble (Nat.succ pos) n with
      | true=>
        rw [hp,lD] at hk2
        obtain⟨h3,hk3⟩:=aH hk2
        rw [kE] at hk3
        obtain⟨h4,hk4⟩:=aH hk3
        rw [kE] at hk4
        have hp:pos<n:=Nat.le_of_ble_eq_true hp
        have h3:n≤9223372036854775807:=Nat.le_of_ble_eq_true h3
        have hb:Nat.mod (Nat.shiftRight v (Nat.mul 8 pos)) 256=v / 256^pos%256:=by rw [Ns];rfl
        rw [show Nat.mod (Nat.shiftRight v (Nat.mul (nat_lit 8) pos)) (nat_lit 256)=v / 256^pos%256 from hb] at h4 hk4
        have h4:v / 256^pos%256≤127:=Nat.le_of_ble_eq_true h4
        obtain⟨s',r1,r2⟩:=GS.mD h (uS h2) (f:=.iter g' n v (pos+1)) (a:=⟨g',false,.iter (fE n v) (pos+1)⟩) rfl hk4
        have hdec:Utf8.decode ⟨(fE n v).toArray⟩ pos=(v / 256^pos%256,1):=by
            have hg:=DK pos n v hp
            have hsz:pos<(ByteArray.mk (fE n v).toArray).size:=by
             show pos<(fE n v).toArray.size
             simp [eH,hp]
            have hgt:(ByteArray.mk (fE n v).toArray)[pos]'hsz=UInt8.ofNat (v / 256^pos%256):=by
             have e1:(ByteArray.mk (fE n v).toArray)[pos]'hsz=(fE n v)[pos]'(by rw [eH];exact hp):=by
              show (fE n v).toArray[pos]'_=_
              simp
             rw [e1]
             rw [List.getElem?_eq_getElem (by rw [eH];exact hp)] at hg
             exact Option.some.inj hg
            have e2:(UInt8.ofNat (v / 256^pos%256)).toNat=v / 256^pos%256:=by
             rw [UInt8.toNat_ofNat']
             exact Nat.mod_eq_of_lt (by omega)
            have:=Go.decode_ascii ⟨(fE n v).toArray⟩ pos hsz (by rw [hgt,e2];omega)
            rw [this,hgt,e2]
        refine⟨0,_,_,s',?_,r2,r1⟩
        simp only [dn,dX,hx',Md,h2]
        rw [if_pos ⟨h1,trivial⟩,if_pos (by rw [eH];exact hp),hdec]
        rw [DJ]
        simp only [List.map_cons,List.map_nil]
        rw [jk (by omega),show FV.av (.n 8589934593 (v / 256^pos%256))= .i .i32 ((v / 256^pos%256:Nat):Int) by
            rw [FV.xP,show (8589934593:Nat)=tg .i32 from rfl,iD,wrap_small .i32 (by simp only [IntKind.signed,IntKind.bits,if_true];omega)]]
        rfl
      | false=>
        rw [hp,kF] at hk2
        have hp:¬pos<n:=fun hl=>by
            have:=Nat.ble_eq_true_of_le hl
            rw [this] at hp;cases hp
        refine⟨0,_,σ,s,?_,h,hk2⟩
        simp only [dn,dX,hx',Md,h2]
        rw [if_pos ⟨h1,trivial⟩,if_neg (by rw [eH];exact hp)];rfl
    | _=>cases hk
 ·cases hk
end
end Go.bK
namespace Go.bK
section
variable {P:Program} {kt:Nat} {KT:AT} (hK:aF P kt=some KT)
include hK
theorem VN {x y:FV} {b:Bool} (h:Kt KT.d x y=some b):tJ P 20 kt x.av y.av=some b∧(b=true→x.av=y.av):=by
 unfold Kt at h
 split at h
 ·rename_i n v m w hd
  cases h
  rw [Ig]
  refine⟨by unfold tJ;rw [hK];simp only [hd,FV.xR],fun e=>?_⟩
  rw [FV.xR,FV.xR,eq_of_beq e]
 ·rename_i k t a t' b' hd
  obtain⟨h1,h2⟩:=O9 h
  obtain⟨h3,h4⟩:=O9 h2
  cases h4
  rw [Nat.eq_of_beq_eq_true h1,Nat.eq_of_beq_eq_true h3,DU,gV,gV]
  refine⟨by unfold tJ;rw [hK];simp only [hd,if_true],fun e=>?_⟩
  rw [eq_of_beq e]
 ·cases h
theorem Gp {x:FV} (h:IB KT.d x=true):oU P kt x.av=true∧Bf x.av=true:=by
 unfold IB at h
 split at h
 ·rename_i n v hd
  exact⟨by simp only [oU,hK,hd,FV.xR,jP,Bool.true_or],rfl⟩
 ·rename_i k t a hd
  rw [Nat.eq_of_beq_eq_true h,gV]
  exact⟨by simp only [oU,hK,hd,jP,Bool.true_or],rfl⟩
 ·cases h
theorem DX {k:FV} {A:Nat→FV×FV→Bool} {B:Bool} :∀(es:List (FV×FV)) (i:Nat) (_:Ku KT.d k A B es i=true),
 (∃j e,jY P kt k.av (AX es) i=some (some (i+j,(e.1.av,e.2.av)))∧es[j]? =some e∧A (i+j) e=true∧k.av=e.1.av)∨(jY P kt k.av (AX es) i=some none∧B=true)
 | [],i,h=>.inr ⟨rfl,h⟩
 | e :: es,i,h=>by
   have h':Option.rec (motive:=fun _=>Bool) false (fun b=>bC b (A i e) (Ku KT.d k A B es (i+1))) (Kt KT.d k e.1)=true:=h
   cases hq:Kt KT.d k e.1 with
   | none=>rw [hq] at h';cases h'
   | some b=>
     rw [hq] at h'
     obtain⟨q1,q2⟩:=VN hK hq
     cases b with
     | true=>
       have h':A i e=true:=h'
       exact .inl ⟨0,e,by simp only [AX,List.map_cons,jY,q1,Nat.add_zero],rfl,h',q2 rfl⟩
     | false=>
       have h':Ku KT.d k A B es (i+1)=true:=h'
       rcases DX es (i+1) h' with ⟨j,e',r1,r2,r3,r4⟩ | ⟨r1,r2⟩
       ·refine .inl ⟨j+1,e',?_,by simpa using r2,?_,r4⟩
        ·rw [show i+(j+1)=i+1+j by omega]
         simp only [AX,List.map_cons,jY,q1]
         exact r1
        ·rw [show i+(j+1)=i+1+j by omega];exact r3
       ·refine .inr ⟨?_,r2⟩
        simp only [AX,List.map_cons,jY,q1]
        exact r1
end
section
variable {X:Ctx} {τ:jR} (bJ:τ.Ok X.P) {run:Rn} (hr:run.Ok X) {ρ:bH→FV} {K:KS} {s:GS} {σ:St} (h:s.Is σ)
include h
theorem Po {x:FV} {K:List (FV×FV)→Bool} (hk:Zf x s K=true):∃es,vw σ x.av=some (AX es)∧K es=true∧(∀o l,x= .c 5 o l→σ[o]? =some ⟨0,false,.maps (AX es)⟩):=by
 unfold Zf at hk
 split at hk
 ·rename_i t x
  obtain⟨h1,h2⟩:=aH hk
  have h1:t=6:=Nat.eq_of_beq_eq_true h1
  subst h1
  exact⟨[],rfl,h2,fun o l e=>by cases e⟩
 ·rename_i o l
  cases ho:s.t.get o with
  | none=>rw [ho] at hk;cases hk
  | some f=>
    rw [ho] at hk
    cases f with
    | maps g es=>
      obtain⟨h1,h2⟩:=aH hk
      have h1:g=0:=Nat.eq_of_beq_eq_true h1
      subst h1
      obtain⟨a,q1,rfl⟩:=h.2 _ _ ho
      refine⟨es,?_,h2,fun o' l' e=>by cases e;exact q1⟩
      rw [show FV.av (.c 5 o l)= .mp o 0 from rfl]
      simp only [vw,q1,if_true]
    | _=>cases hk
 ·cases hk
include bJ
theorem IC {t:Nat} {x k:bH} {ok:Bool} {K:KF} (hk:VG τ t x k ok ρ s K=true):kH X.P ρ (.Oq t x k ok) σ K:=by
 unfold VG at hk
 split at hk
 ·rename_i T hT
  obtain⟨d1,s1,b1,z1,c1,hd1,g1⟩:=T
  simp only at hk
  split at hk
  ·rename_i kt et
   split at hk
   ·rename_i KT E Qg hE
    obtain⟨h1,hk1⟩:=aH hk
    unfold dLku at hk1
    obtain⟨h2,hk2⟩:=aH hk1
    obtain⟨es,q1,hk3,_⟩:=Po h hk2
    obtain⟨r1,_⟩:=Gp (bJ _ _ Qg) h2
    rcases DX (bJ _ _ Qg) es 0 hk3 with ⟨j,e,w1,w2,w3,w4⟩ | ⟨w1,w2⟩
    ·cases ok with
     | true=>
       refine⟨_,?_,w3⟩
       simp only [dX,BP,bJ _ _ hT,q1,bJ _ _ hE]
       rw [if_pos r1,w1,DJ];rfl
     | false=>
       refine⟨_,?_,w3⟩
       simp only [dX,BP,bJ _ _ hT,q1,bJ _ _ hE]
       rw [if_pos r1,w1];rfl
    ·cases ok with
     | true=>
       refine⟨_,?_,w2⟩
       simp only [dX,BP,bJ _ _ hT,q1,bJ _ _ hE]
       rw [if_pos r1,w1,DJ]
       simp only [List.map_cons,mW _ h1];rfl
     | false=>
       refine⟨_,?_,w2⟩
       simp only [dX,BP,bJ _ _ hT,q1,bJ _ _ hE]
       rw [if_pos r1,w1,mW _ h1];rfl
   ·cases hk
  ·cases hk
 ·cases hk
theorem Zm {t:Nat} {m k v:bH} (hk:gMup τ t m k v ρ s K=true):lU X ρ (.wG t m k v) σ K:=by
 unfold gMup at hk
 split at hk
 ·rename_i T hT
  obtain⟨d1,s1,b1,z1,c1,hd1,g1⟩:=T
  simp only at hk
  split at hk
  ·rename_i kt et
   split at hk
   ·rename_i KT Qg
    unfold dMup at hk
    split at hk
    ·rename_i o l hm
     obtain⟨h2,hk2⟩:=aH hk
     obtain⟨es,q1,hk3,q2⟩:=Po h hk2
     have q2:=q2 o l rfl
     obtain⟨r1,r2⟩:=Gp (bJ _ _ Qg) h2
     have hmv:(ρ m).av= .mp o 0:=by rw [hm];rfl
     rcases DX (bJ _ _ Qg) es 0 hk3 with ⟨j,e,w1,w2,w3,w4⟩ | ⟨w1,w2⟩
     ·rw [Nat.zero_add] at w1 w3
      rw [Dy] at w3
      obtain⟨s',v1,v2⟩:=GS.mD h (uS q2) (f:=.maps 0 (es.set j (ρ k,ρ v))) (a:=⟨0,false,.maps ((AX es).set j ((ρ k).av,(ρ v).av))⟩) (by simp only [GO.Is,AX,List.map_set]) w3
      refine⟨0,_,_,s',?_,v2,v1⟩
      simp only [dn,dX,Ey,bJ _ _ hT,hmv,q2]
      rw [if_pos ⟨trivial,r1⟩,w1]
      simp only
      rw [if_pos ⟨by rw [w4];exact AV.oP _,r2⟩];rfl
     ·rw [Dy] at w2
      obtain⟨s',v1,v2⟩:=GS.mD h (uS q2) (f:=.maps 0 (es ++ [(ρ k,ρ v)])) (a:=⟨0,false,.maps (AX es ++ [((ρ k).av,(ρ v).av)])⟩) (by simp only [GO.Is,AX,List.map_append,List.map_cons,List.map_nil]) w2
      refine⟨0,_,_,s',?_,v2,v1⟩
      simp only [dn,dX,Ey,bJ _ _ hT,hmv,q2]
      rw [if_pos ⟨trivial,r1⟩,w1];rfl
    ·cases hk
   ·cases hk
  ·cases hk
 ·cases hk
include hr
omit bJ in
theorem QT {f:bH} {args:List bH} (hf:∀v,f= .c v→(ρ f).av=v)(hk:NM run f args ρ s K=true):lU X ρ (.call f args) σ K:=by
 unfold NM at hk
 have hmm:(args.map ρ).map FV.av=args.map fun o=>(ρ o).av:=by rw [List.map_map];rfl
 split at hk
 ·rename_i k
  obtain⟨n,hn⟩:=hr _ _ _ _ _ h hk
  refine⟨n,?_⟩
  simp only [dn]
  rw [hf _ rfl]
  simp only [List.nil_append,List.append_nil]
  rw [←hmm];exact hn
 ·unfold VH at hk
  split at hk
  ·rename_i k a1 a a2 c hx
   rw [Dy] at hk
   obtain⟨n,hn⟩:=hr _ _ _ _ _ h hk
   refine⟨n,?_⟩
   have e:(ρ f).av= .fn (.func k) (a.map FV.av) (c.map FV.av):=by
        rw [hx,FV.Ic,FV.zi]
        simp only [List.map_cons,List.map_nil,rQ];rfl
   simp only [dn,e]
   rw [←hmm,←List.map_append,←List.map_append];exact hn
  ·cases hk
omit bJ in
theorem Zn {x:bH} {m:String} {args:List bH} (hk:gInv X run (ρ x) m (args.map ρ) s K=true):lU X ρ (.inv x m args) σ K:=by
 unfold gInv at hk
 have hmm:(args.map ρ).map FV.av=args.map fun o=>(ρ o).av:=by rw [List.map_map];rfl
 split at hk
 ·rename_i t v hx
  split at hk
  ·rename_i k hm
   obtain⟨h1,h2⟩:=aH hk
   obtain⟨n,hn⟩:=hr _ _ _ _ _ h h2
   refine⟨n,?_⟩
   simp only [dn,hx,J3,hm]
   rw [List.map_cons,mW _ h1,hmm] at hn
   exact hn
  ·cases hk
 ·cases hk
theorem Ky {op:dH} (hc:∀v,bH.c v∈op.bP→(ρ (.c v)).av=v)(hk:Kv X τ run op ρ s K=true):lU X ρ op σ K:=by
 unfold Kv at hk
 split at hk
 ·exact QN bJ h hk
 ·exact Zg h hk
 ·exact Zi bJ h hk
 ·exact QO bJ h hk
 ·exact VK bJ h hk
 ·exact Zh bJ h hk
 ·exact Zk bJ h hk
 ·exact Zl h hk
 ·exact Zj bJ h hk
 ·exact VL bJ h hk
 ·rename_i f args
  exact QT hr h (fun v hv=>by rw [hv];exact hc v (by rw [hv];simp [dH.bP])) hk
 ·exact Zn hr h hk
 ·rename_i t r
  unfold gMkm at hk
  split at hk
  ·obtain⟨s',q1,q2⟩:=GS.vW h (f:=.maps 0 []) (a:=⟨0,false,.maps []⟩) rfl hk
   exact⟨0,_,_,s',rfl,q2,q1⟩
  ·cases hk
 ·exact Zm bJ h hk
 ·exact Gn h (fun n=>rfl) (IC bJ h hk)
 ·refine Gn h (fun n=>?_) (DW bJ h hc hk)
  cases op <;> first | rfl | (exfalso;rename_i q _ _ _ _;exact q _ _ rfl) | (exfalso;simp_all;done)
end
end Go.bK
namespace Go.bK
section
variable (X:Ctx)(τ:jR)(run:Rn)
noncomputable def dGP (x:FV)(w:Bool)(G:KF→Bool)(K:KF):Bool:=U7 x w (G fun v=>K (.c (nat_lit 4) (nat_lit 1) [v])) (K (.c (nat_lit 4) (nat_lit 0) [.n (nat_lit 0) (nat_lit 0)]))
noncomputable def dGE (x:FV)(w:Bool)(G:KS→Bool)(s:GS)(K:KS):Bool:=U7 x w (G K) (K (.c (nat_lit 1) (nat_lit 0) []) s)
noncomputable def zG (e:eP)(op:dH)(s:GS)(K:KF):Bool:=match op with
 | .pick q a b=>bC (Ie (LU e q)) (O_ (Nv (LU e q)) (LU e a) (LU e b) K) false
 | .Oq t x k ok=>rX e (VG τ t x k ok (Vr e) s K) [x,k]
 | op=>rX e (Kq X.P τ op (Vr e) s K) op.bP
noncomputable def VO (a:AI)(e:eP)(s:GS)(K:KS):Bool:=bC (a.op.bP.all vX) (match a.gd with
 | none=>Kv X τ run a.op (LU e) s K
 | some (n,w)=>bC a.op.pure (dGP (jW e n) w (zG X τ e a.op s) fun v=>K v s) (dGE (jW e n) w (fun K=>rX e (Kv X τ run a.op (Vr e) s K) a.op.bP) s K)) false
noncomputable def VP:List AI→eP→GS→(eP→GS→Bool)→Bool:=List.rec (motive:=fun _=>eP→GS→(eP→GS→Bool)→Bool) (fun e s K=>K e s) (fun a _ ih e s K=>VO X τ run a e s (Option.rec (motive:=fun _=>KS) (fun _ s=>ih e s K) (fun d v s=>ih ((d,v) :: e) s K) a.d))
noncomputable def Ap (a b:FV):Bool:=AV.eqv a.av b.av
noncomputable def NP (op:dH)(e:eP)(s:GS)(K:KF):Bool:=match op with
 | .Oq t x k ok=>VG τ t x k ok (LU e) s K
 | op=>Kq X.P τ op (LU e) s K
noncomputable def gAgP (op:dH)(g:Option (Nat×Bool))(e:eP)(s:GS)(K:KF):Bool:=match g with
 | none=>NP X τ op e s K
 | some (n,w)=>dGP (jW e n) w (zG X τ e op s) K
noncomputable def gAg1 (a:AI)(e:eP)(s:GS)(B:Bool):Bool:=match a.d with
 | some d=>bC (bC (a.op.bP.all vX) a.op.pure false) (gAgP X τ a.op a.gd e s fun v=>bC (Ap v (jW e d)) B false) false
 | none=>false
noncomputable def Zo (e:eP)(s:GS)(B:Bool):List AI→Bool:=List.rec (motive:=fun _=>Bool) B (fun a _ ih=>gAg1 X τ a e s ih)
noncomputable def VQ:List (AI×List AI)→eP→GS→(eP→GS→Bool)→Bool:=List.rec (motive:=fun _=>eP→GS→(eP→GS→Bool)→Bool) (fun e s K=>K e s) (fun a _ ih e s K=>VO X τ run a.1 e s fun v s=>Zo X τ e s (Option.rec (motive:=fun _=>Bool) (ih e s K) (fun d=>ih ((d,v) :: e) s K) a.1.d) a.2)
end
section
variable {X:Ctx} {τ:jR} (bJ:τ.Ok X.P) {run:Rn} (hr:run.Ok X) {s:GS} {σ:St} (h:s.Is σ)
theorem fev_c {e:eP} {op:dH} (ho:op.bP.all vX=true):∀v,bH.c v∈op.bP→(LU e (.c v)).av=v:=fun v hv=>by
 rw [List.all_eq_true] at ho
 exact rW (ho _ hv)
theorem vev_c {e:eP} {op:dH} (ho:op.bP.all vX=true):∀v,bH.c v∈op.bP→(Vr e (.c v)).av=v:=fun v hv=>by
 rw [List.all_eq_true] at ho
 have h1:=ho _ hv
 rw [NG h1]
 have h2:=(aH h1).2
 show v.val=v
 cases v <;> first | rfl | cases h2
theorem VR {e:eP} {op:dH} {K:KS} (ho:op.bP.all vX=true)(hk:lU X (LU e) op σ K):∃n,Xj (dn X (bFn X n) (bH.ev (g_ e)) op σ) K:=by
 obtain⟨n,hn⟩:=hk
 rw [List.all_eq_true] at ho
 exact⟨n,by rw [←qB (fun o hm=>rW (ho o hm))];exact hn⟩
theorem VT {e:eP} {op:dH} {K:KS} (ho:op.bP.all vX=true)(hk:lU X (Vr e) op σ K):∃n,Xj (dn X (bFn X n) (fun o=>(o.ev (g_ e)).val) op σ) K:=by
 obtain⟨n,hn⟩:=hk
 rw [List.all_eq_true] at ho
 refine⟨n,?_⟩
 rw [←qB (ρ:=fun o=>(Vr e o).av) (ρ':=fun o=>(o.ev (g_ e)).val) (fun o hm=>NG (ho o hm))]
 exact hn
include bJ h
theorem Gq {e:eP} {op:dH} {K:KF} (hp:op.pure=true)(ho:op.bP.all vX=true)(hk:zG X τ e op s (fun v=>K (.c 4 1 [v]))=true):∃v:FV,jD X.P (g_ e) op σ=some v.av∧K v=true:=by
 have main:∀(op:dH),op.pure=true→(∀q a b,op≠.pick q a b)→op.bP.all vX=true→rX e true op.bP=true→kH X.P (Vr e) op σ (fun v=>K (.c 4 1 [v]))→∃v:FV,jD X.P (g_ e) op σ=some v.av∧K v=true:=by
  intro op hp hn ho hc hq
  obtain⟨v,h1,h2⟩:=hq
  have ho':=ho
  rw [List.all_eq_true] at ho'
  have e1:=qB (X:=X) (run:=fun _ _ _=>none) (ρ:=fun o=>(Vr e o).av) (ρ':=fun o=>(o.ev (g_ e)).val) (fun o hm=>NG (ho' o hm)) σ
  have e2:dX X.P (fun o=>(Vr e o).av) op σ=dX X.P (fun o=>(o.ev (g_ e)).val) op σ:=by
   cases op <;> first | exact e1 | cases hp
  rw [e2] at h1
  refine⟨_,?_,h2⟩
  have h3:=(xY _ ho hc).1
  unfold jD
  split
  ·exact(hn _ _ _ rfl).elim
  ·rw [h1]
   simp only [fA,qG]
   rw [if_pos h3,UU]
 have cut:∀(B:Bool) (l:List bH),l.all vX=true→rX e B l=true→rX e true l=true∧B=true:=by
  intro B l
  induction l with
  | nil=>intro _ hB;exact⟨rfl,hB⟩
  | cons o l ih=>
    intro hl hB
    simp only [List.all_cons,Bool.and_eq_true] at hl
    cases o with
    | t n=>
      have hB':bC (Ie (jW e n)) (rX e B l) false=true:=hB
      obtain⟨q1,q2⟩:=aH hB'
      obtain⟨q3,q4⟩:=ih hl.2 q2
      refine⟨?_,q4⟩
      show bC (Ie (jW e n)) (rX e true l) false=true
      rw [q1,q3]
    | c v=>exact ih hl.2 hB
 unfold zG at hk
 split at hk
 ·rename_i q a b
  simp only [dH.bP,List.all_cons,List.all_nil,Bool.and_true,Bool.and_eq_true] at ho
  have hk':U9 (LU e q) (LU e a) (LU e b) K=true:=hk
  obtain⟨v,h1,h2⟩:=QK hk'
  rw [rW ho.1,rW ho.2.1,rW ho.2.2] at h1
  exact⟨v,h1,h2⟩
 ·rename_i t x k ok
  obtain⟨h1,h2⟩:=cut _ _ ho hk
  exact main _ hp (fun _ _ _ e=>by cases e) ho h1 (IC bJ h h2)
 ·rename_i hn1 hn2
  obtain⟨h1,h2⟩:=cut _ _ ho hk
  exact main _ hp hn1 ho h1 (DW bJ h (vev_c ho) h2)
include hr
theorem Kz {a:AI} {e:eP} {K:KS} (hk:VO X τ run a e s K=true):∃n,Xj (dL X (bFn X n) (g_ e) a σ) K:=by
 obtain⟨d,g,op⟩:=a
 obtain⟨ho,hk⟩:=aH hk
 have ho:op.bP.all vX=true:=ho
 cases g with
 | none=>exact VR ho (Ky bJ hr h (fev_c ho) hk)
 | some g=>
   obtain⟨n,w⟩:=g
   have hk:bC op.pure (dGP (jW e n) w (zG X τ e op s) fun v=>K v s) (dGE (jW e n) w (fun K=>rX e (Kv X τ run op (Vr e) s K) op.bP) s K)=true:=hk
   cases hp:op.pure with
   | true=>
     rw [hp,lD] at hk
     rcases DR hk with ⟨h1,h2⟩ | ⟨h1,h2⟩
     ·rw [iO,←lF] at h1
      obtain⟨v,q1,q2⟩:=Gq bJ h (K:=fun v=>K v s) hp ho h2
      exact⟨0,v,σ,s,by unfold dL;simp only [h1];rw [if_pos hp];unfold jo;rw [if_pos rfl,q1];rfl,h,q2⟩
     ·rw [iO,←lF] at h1
      exact⟨0,_,σ,s,by unfold dL;simp only [h1];rw [if_pos hp];rfl,h,h2⟩
   | false=>
     rw [hp,kF] at hk
     rcases DR hk with ⟨h1,h2⟩ | ⟨h1,h2⟩
     ·rw [iO,←lF] at h1
      obtain⟨q1,q2⟩:=xY _ ho h2
      obtain⟨m,hm⟩:=VT ho (Ky bJ hr h (vev_c ho) q2)
      exact⟨m,by unfold dL;simp only [h1];rw [if_neg (by simp [hp]),if_pos trivial,if_pos q1];exact hm⟩
     ·rw [iO,←lF] at h1
      exact⟨0,_,σ,s,by unfold dL;simp only [h1];rw [if_neg (by simp [hp]),if_neg (by simp)];rfl,h,h2⟩
def ToE (o:Option (Env×St))(K:eP→GS→Bool):Prop:=∃e' σ' s',o=some (g_ e',σ')∧GS.Is s' σ'∧K e' s'= true
end
section
variable {X:Ctx} {τ:jR} (bJ:τ.Ok X.P) {run:Rn} (hr:run.Ok X)
include bJ hr
theorem Pq:∀{ops:List AI} {e:eP} {s:GS} {σ:St} {K:eP→GS→Bool},s.Is σ→VP X τ run ops e s K=true→∃n,ToE (qM X (bFn X n) ops (g_ e) σ) K
 | [],e,s,σ,K,h,hk=>⟨0,e,σ,s,rfl,h,hk⟩
 | a :: ops,e,s,σ,K,h,hk=>by
   obtain⟨n,v,σ1,s1,h1,h2,h3⟩:=Kz bJ hr h (K:=Option.rec (motive:=fun _=>KS) (fun _ s=>VP X τ run ops e s K) (fun d v s=>VP X τ run ops ((d,v) :: e) s K) a.d) hk
   have h4:∃e1:eP,g_ e1=put a.d v.av (g_ e)∧VP X τ run ops e1 s1 K=true:=by
     cases hd:a.d with
     | none=>rw [hd] at h3;exact⟨e,rfl,h3⟩
     | some d=>rw [hd] at h3;exact⟨(d,v) :: e,rfl,h3⟩
   obtain⟨e1,h5,h6⟩:=h4
   obtain⟨m,e',σ',s',q1,q2,q3⟩:=Pq h2 h6
   refine⟨max n m,e',σ',s',?_,q2,q3⟩
   simp only [qM]
   rw [o9 (vT X (Nat.le_max_left n m)) h1]
   simp only
   rw [←h5]
   exact wY (vT X (Nat.le_max_right n m)) q1
omit hr in
theorem VU {e:eP} {s:GS} {σ:St} (h:s.Is σ) {B:Bool} :∀(l:List AI) (_:Zo X τ e s B l=true),l.all (oJ X (g_ e) σ)=true∧B=true
 | [],hk=>⟨rfl,hk⟩
 | ⟨d,g,op⟩ :: l,hk=>by
   cases d with
   | none=>cases hk
   | some d=>
     have hk0:bC (bC (op.bP.all vX) op.pure false) (gAgP X τ op g e s fun v=>bC (Ap v (jW e d)) (Zo X τ e s B l) false) false=true:=hk
     clear hk
     have hk:=hk0
     clear hk0
     obtain⟨ho,hk⟩:=aH hk
     obtain⟨ho,hp⟩:=aH ho
     have fin:∀v:FV,dL X (fun _ _ _=>none) (g_ e) ⟨some d,g,op⟩ σ=some (v.av,σ)→bC (Ap v (jW e d)) (Zo X τ e s B l) false=true→(AI.mk (some d) g op :: l).all (oJ X (g_ e) σ)=true∧B=true:=by
      intro v h1 h2
      obtain⟨h3,h4⟩:=aH h2
      obtain⟨h5,h6⟩:=VU h l h4
      refine⟨?_,h6⟩
      simp only [List.all_cons,h5,Bool.and_true]
      unfold oJ
      simp only [h1]
      unfold Ap at h3
      rw [iO] at h3
      exact h3
     have pcall:∀(ρ:bH→AV),dn X (fun _ _ _=>none) ρ op σ=dX X.P ρ op σ:=by
      intro ρ
      cases op <;> first | rfl | cases hp
     cases g with
     | none=>
       have hq:kH X.P (LU e) op σ fun v=>bC (Ap v (jW e d)) (Zo X τ e s B l) false:=by
        have hk1:NP X τ op e s (fun v=>bC (Ap v (jW e d)) (Zo X τ e s B l) false)=true:=hk
        clear hk
        have hk:=hk1
        unfold NP at hk
        split at hk
        ·exact IC bJ h hk
        ·exact DW bJ h (fev_c ho) hk
       obtain⟨v,h1,h2⟩:=hq
       refine fin v ?_ h2
       rw [List.all_eq_true] at ho
       unfold dL
       simp only
       rw [←qB (ρ:=fun o=>(LU e o).av) (fun o hm=>rW (ho o hm)),pcall]
       exact h1
     | some g=>
       obtain⟨n,w⟩:=g
       have hk:dGP (jW e n) w (zG X τ e op s) (fun v=>bC (Ap v (jW e d)) (Zo X τ e s B l) false)=true:=hk
       rcases DR hk with ⟨h1,h2⟩ | ⟨h1,h2⟩
       ·rw [iO,←lF] at h1
        obtain⟨v,q1,q2⟩:=Gq bJ h (K:=fun v=>bC (Ap v (jW e d)) (Zo X τ e s B l) false) hp ho h2
        exact fin v (by unfold dL;simp only [h1];rw [if_pos hp];unfold jo;rw [if_pos rfl,q1];rfl) q2
       ·rw [iO,←lF] at h1
        exact fin _ (by unfold dL;simp only [h1];rw [if_pos hp];rfl) h2
theorem Pv:∀{ops:List (AI×List AI)} {e:eP} {s:GS} {σ:St} {K:eP→GS→Bool},s.Is σ→VQ X τ run ops e s K=true→∃n,ToE (vF X (bFn X n) ops (g_ e) σ) K
 | [],e,s,σ,K,h,hk=>⟨0,e,σ,s,rfl,h,hk⟩
 | (a,ag) :: ops,e,s,σ,K,h,hk=>by
   obtain⟨n,v,σ1,s1,h1,h2,h3⟩:=Kz bJ hr h (K:=fun v s=>Zo X τ e s (Option.rec (motive:=fun _=>Bool) (VQ X τ run ops e s K) (fun d=>VQ X τ run ops ((d,v) :: e) s K) a.d) ag) hk
   obtain⟨h7,h3⟩:=VU bJ h2 _ h3
   have h4:∃e1:eP,g_ e1=put a.d v.av (g_ e)∧VQ X τ run ops e1 s1 K=true:=by
     cases hd:a.d with
     | none=>rw [hd] at h3;exact⟨e,rfl,h3⟩
     | some d=>rw [hd] at h3;exact⟨(d,v) :: e,rfl,h3⟩
   obtain⟨e1,h5,h6⟩:=h4
   obtain⟨m,e',σ',s',q1,q2,q3⟩:=Pv h2 h6
   refine⟨max n m,e',σ',s',?_,q2,q3⟩
   simp only [vF]
   rw [o9 (vT X (Nat.le_max_left n m)) h1]
   simp only
   rw [if_pos h7,←h5]
   exact wZ (vT X (Nat.le_max_right n m)) q1
end
end Go.bK
