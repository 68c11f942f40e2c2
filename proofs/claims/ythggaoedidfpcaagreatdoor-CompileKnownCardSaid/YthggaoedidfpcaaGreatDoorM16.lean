/- Texts of this claim, joined: Abs46, Abs47, Abs48, Abs49, Abs50, Abs51, Abs52, Abs56. -/
import Derived.Test.YthggaoedidfpcaaGreatDoorM15
import Derived.Test.YthggaoedidfpcaaGreatDoorM08
import Derived.Laws.RangeString
set_option linter.unusedVariables false
set_option linter.unusedSimpArgs false
namespace Go.dX
noncomputable def b2n (x:Bool):Nat:=Bool.rec (motive:=fun _=>Nat) (nat_lit 0) (nat_lit 1) x
noncomputable def ofFn (f:Fn)(a c:List FV):FV:=match f with
 | .func k=>.c (nat_lit 3) k [.c (nat_lit 0) (nat_lit 0) a,.c (nat_lit 0) (nat_lit 0) c]
 | _=>.n (nat_lit 0) (nat_lit 0)
noncomputable def Hl (f:Fn):Bool:=match f with
 | .func _=>true
 | _=>false
noncomputable def vU:AV→FV:=AV.rec (motive_1:=fun _=>FV) (motive_2:=fun _=>List FV) (.n (nat_lit 0) (nat_lit 0)) (fun x=>.n (nat_lit 1) (b2n x)) (fun k n=>.n (tg k) (n%2^k.bits).toNat) (fun x=>.s x.length (pk x)) (.n (nat_lit 2) (nat_lit 0)) .p (.n (nat_lit 3) (nat_lit 0)) .sl (fun f _ _ a c=>ofFn f a c) (.n (nat_lit 4) (nat_lit 0)) (fun t _ v=>.c (nat_lit 2) t [v]) (.n (nat_lit 5) (nat_lit 0)) (fun _ l=>.c (nat_lit 0) (nat_lit 0) l) (fun _ l=>.c (nat_lit 1) (nat_lit 0) l) (.n (nat_lit 6) (nat_lit 0)) (fun o _=>.c (nat_lit 5) o []) (fun c _ v=>.c (nat_lit 4) (b2n c) [v]) [] (fun _ _ a l=>a :: l)
noncomputable def bV:List AV→List FV:=AV.rec_1 (motive_1:=fun _=>FV) (motive_2:=fun _=>List FV) (.n (nat_lit 0) (nat_lit 0)) (fun x=>.n (nat_lit 1) (b2n x)) (fun k n=>.n (tg k) (n%2^k.bits).toNat) (fun x=>.s x.length (pk x)) (.n (nat_lit 2) (nat_lit 0)) .p (.n (nat_lit 3) (nat_lit 0)) .sl (fun f _ _ a c=>ofFn f a c) (.n (nat_lit 4) (nat_lit 0)) (fun t _ v=>.c (nat_lit 2) t [v]) (.n (nat_lit 5) (nat_lit 0)) (fun _ l=>.c (nat_lit 0) (nat_lit 0) l) (fun _ l=>.c (nat_lit 1) (nat_lit 0) l) (.n (nat_lit 6) (nat_lit 0)) (fun o _=>.c (nat_lit 5) o []) (fun c _ v=>.c (nat_lit 4) (b2n c) [v]) [] (fun _ _ a l=>a :: l)
noncomputable def Ho:AV→Bool:=AV.rec (motive_1:=fun _=>Bool) (motive_2:=fun _=>Bool) true (fun _=>true) (fun k n=>decide (k.wrap n=n)) (fun _=>true) true (fun _ _ _=>true) true (fun _ _ _ _ _=>true) (fun f _ _ a c=>bC (Hl f) (bC a c false) false) true (fun _ _ v=>v) true (fun _ l=>l) (fun _ l=>l) true (fun _ g=>Nat.beq g (nat_lit 0)) (fun _ _ v=>v) true (fun _ _ a l=>bC a l false)
noncomputable def vw:List AV→Bool:=AV.rec_1 (motive_1:=fun _=>Bool) (motive_2:=fun _=>Bool) true (fun _=>true) (fun k n=>decide (k.wrap n=n)) (fun _=>true) true (fun _ _ _=>true) true (fun _ _ _ _ _=>true) (fun f _ _ a c=>bC (Hl f) (bC a c false) false) true (fun _ _ v=>v) true (fun _ l=>l) (fun _ l=>l) true (fun _ g=>Nat.beq g (nat_lit 0)) (fun _ _ v=>v) true (fun _ _ a l=>bC a l false)
mutual
theorem kW:∀v:AV,Ho v=true→(vU v).av=v:=by
 intro v h
 match v with
 | .u | .p0 | .sl0 | .fn0 | .fK | .kK | .p _ _ _ | .sl _ _ _ _ _=>rfl
 | .b x=>cases x <;> rfl
 | .i k n=>
   have h':decide (k.wrap n=n)=true:=h
   have h':=of_decide_eq_true h'
   show mM (tg k) _=_
   rw [jL,wrap_eq,h']
 | .s x=>show AV.s (g_ x.length (pk x))=_;rw [N7]
 | .fn f a c=>
   have h':bC (Hl f) (bC (vw a) (vw c) false) false=true:=h
   obtain⟨h1,h'⟩:=aT h'
   obtain⟨h2,h3⟩:=aT h'
   unfold Hl at h1
   split at h1
   ·rename_i k
    show FV.av (.c 3 k [.c 0 0 (bV a),.c 0 0 (bV c)])=_
    rw [FV.CU,FV.tH]
    simp only [List.map_cons,List.map_nil,oP]
    rw [iU a h2,iU c h3];rfl
   ·cases h1
 | .ic t x=>show FV.av (.c 2 t [vU x])=_;rw [xA,kW x h]
 | .ag l=>show FV.av (.c 0 0 (bV l))=_;rw [oP,iU l h]
 | .tu l=>show FV.av (.c 1 0 (bV l))=_;rw [CW,iU l h]
 | .mp o g=>
   have h':Nat.beq g 0=true:=h
   rw [Nat.eq_of_beq_eq_true h'];rfl
 | .cd c x=>
   have e:=kW x h
   show FV.av (.c 4 (b2n c) [vU x])=_
   cases c
   ·show AV.cd false (vU x).av=_;rw [e]
   ·show AV.cd true (vU x).av=_;rw [e]
theorem iU:∀l:List AV,vw l=true→(bV l).map FV.av=l:=by
 intro l h
 match l with
 | []=>rfl
 | a :: l=>
   have h':bC (Ho a) (vw l) false=true:=h
   obtain⟨h1,h2⟩:=aT h'
   show (vU a).av :: (bV l).map FV.av=_
   rw [kW a h1,iU l h2]
end
abbrev dP:=List (Nat×FV)
noncomputable def jF:dP→Nat→FV:=List.rec (motive:=fun _=>Nat→FV) (fun _=>.n (nat_lit 0) (nat_lit 0)) (fun p _ ih n=>bC (Nat.beq p.1 n) p.2 (ih n))
noncomputable def dV (e:dP):Env:=e.map fun p=>(p.1,p.2.av)
theorem fV:∀(e:dP) (n:Nat),(jF e n).av=get (dV e) n
 | [],_=>rfl
 | (d,v) :: e,n=>by
   show (bC (Nat.beq d n) v (jF e n)).av=if d=n then v.av else get (dV e) n
   cases hb:Nat.beq d n with
   | true=>rw [if_pos (Nat.eq_of_beq_eq_true hb)]
   | false=>rw [if_neg (Nat.ne_of_beq_eq_false hb)];exact fV e n
noncomputable def Ia (e:dP):bT→FV:=bT.rec (motive:=fun _=>FV) (fun n=>jF e n) (fun v=>vU v)
noncomputable def Qm (e:dP):bT→FV:=bT.rec (motive:=fun _=>FV) (fun n=>aC (jF e n)) (fun v=>vU v)
noncomputable def notCd:AV→Bool
 | .cd _ _=>false
 | _=>true
noncomputable def tX:bT→Bool:=bT.rec (motive:=fun _=>Bool) (fun _=>true) (fun v=>bC (Ho v) (notCd v) false)
theorem og {e:dP} {o:bT} (h:tX o=true):(Ia e o).av=o.ev (dV e):=by
 cases o with
 | t n=>exact fV e n
 | c v=>exact kW v (aT h).1
theorem Hq {e:dP} {o:bT} (h:tX o=true):(Qm e o).av=(o.ev (dV e)).val:=by
 cases o with
 | t n=>show (aC (jF e n)).av=_;rw [Au,fV];rfl
 | c v=>
   have h1:=kW v (aT h).1
   have h2:=(aT h).2
   show (vU v).av=v.val
   rw [h1]
   cases v <;> first | rfl | cases h2
noncomputable abbrev qA (e:dP) (B:Bool):List bT→Bool:=List.rec (motive:=fun _=>Bool) B (fun o _ ih=>bT.rec (motive:=fun _=>Bool) (fun n=>bC (ay (jF e n)) ih false) (fun _=>ih) o)
theorem tY {e:dP} {B:Bool} :∀(l:List bT) (_:l.all tX=true) (_:qA e B l=true),l.all (fun o=>(o.ev (dV e)).cnd)=true∧B=true
 | [],_,h=>⟨rfl,h⟩
 | .t n :: l,ho,h=>by
   simp only [List.all_cons,Bool.and_eq_true] at ho
   have h':bC (ay (jF e n)) (qA e B l) false=true:=h
   obtain⟨h1,h2⟩:=aT h'
   obtain⟨h3,h4⟩:=tY l ho.2 h2
   rw [Aw,fV] at h1
   refine⟨?_,h4⟩
   simp only [List.all_cons,h3,Bool.and_true]
   exact h1
 | .c v :: l,ho,h=>by
   simp only [List.all_cons,Bool.and_eq_true] at ho
   obtain⟨h3,h4⟩:=tY l ho.2 h
   refine⟨?_,h4⟩
   simp only [List.all_cons,h3,Bool.and_true]
   have h2:=(aT ho.1).2
   show v.cnd=true
   cases v <;> first | rfl | cases h2
theorem oh {X:Ctx} {run:Run} {ρ ρ':bT→AV} {op:dM} (h:∀o∈op.bK,ρ o=ρ' o)(σ:St):dO X run ρ op σ=dO X run ρ' op σ:=by
 have hl:∀(l:List bT),(∀o∈l,ρ o=ρ' o)→l.map ρ=l.map ρ':=fun l hh=>List.map_congr_left hh
 have ho:∀(l:Option bT),(∀o∈l.toList,ρ o=ρ' o)→l.map ρ=l.map ρ':=fun l hh=>by
  cases l with
  | none=>rfl
  | some x=>simp only [Option.map_some];rw [hh x (by simp)]
 have hp:∀(l:List (Nat×bT)),(∀o∈l.map (·.2),ρ o=ρ' o)→l.map (fun q=>(q.1,ρ q.2))=l.map (fun q=>(q.1,ρ' q.2)):=fun l hh=>List.map_congr_left fun q hq=>by rw [hh q.2 (List.mem_map_of_mem hq)]
 cases op <;> simp only [dM.bK,List.mem_cons,List.mem_nil_iff,or_false,forall_eq,forall_eq_or_imp,List.mem_append] at h <;> simp only [dO,eY]
 case mv=>rw [h]
 case pick=>rw [h.1,h.2.1,h.2.2]
 case box=>rw [h]
 case build=>rw [hp _ h]
 case jo=>rw [hp _ h]
 case load=>rw [h]
 case store=>rw [h.1,h.2]
 case fF=>rw [h]
 case bin=>rw [h.1,h.2]
 case un=>rw [h]
 case conv=>rw [h]
 case qG=>rw [h]
 case rQ=>rw [hl _ (fun o ho=>h o (.inl ho)),hl _ (fun o ho=>h o (.inr ho))]
 case Kt=>rw [h.1,h.2]
 case slc=>rw [h.1,ho _ (fun o q=>h.2 o (.inl q)),ho _ (fun o q=>h.2 o (.inr q))]
 case mF=>rw [h]
 case J9=>rw [h]
 case iF=>rw [h.1,h.2]
 case idx=>rw [h.1,h.2]
 case rng=>rw [h]
 case MR=>rw [h]
 case J_=>rw [h]
 case ext=>rw [h]
 case call=>rw [h.1,hl _ h.2]
 case inv=>rw [h.1,hl _ h.2]
 case len=>rw [h]
 case app=>rw [h.1,h.2]
 case copy=>rw [h.1,h.2]
 case mn=>rw [hl _ h]
 case Ei=>rw [ho _ h]
 case uN=>rw [h.1,h.2]
 case mW=>rw [h.1,h.2.1,h.2.2]
 case del=>rw [h.1,h.2]
 case Ku=>rw [h]
 case sl3=>rw [h.1,h.2.1,h.2.2.1,ho _ h.2.2.2]
 case wu=>rw [h]
end Go.dX
namespace Go.dX
noncomputable def md:IntKind→Nat
 | .i8=>256 | .i16=>65536 | .i32=>4294967296 | .i64=>18446744073709551616
 | .u8=>256 | .u16=>65536 | .u32=>4294967296 | .u64=>18446744073709551616
theorem Fa (k:IntKind):md k=2^k.bits:=by cases k <;> rfl
noncomputable def nthO:List FV→Nat→KF→Bool:=List.rec (motive:=fun _=>Nat→KF→Bool) (fun _ _=>false) (fun a _ ih k=>Nat.rec (motive:=fun _=>KF→Bool) (fun K=>K a) (fun k _ K=>ih k K) k)
theorem Hr:∀(l:List FV) (k:Nat) {K:KF} (_:nthO l k K=true),∃v,l[k]? =some v∧K v=true
 | [],_,_,h=>by cases h
 | a :: l,0,K,h=>⟨a,rfl,h⟩
 | a :: l,k+1,K,h=>Hr l k h
noncomputable def b_ (i:Nat)(x:FV)(K:KF):Bool:=match x with
 | .c 1 _ l=>nthO l i K
 | _=>false
noncomputable def aG (off:Nat)(x:FV)(K:KF):Bool:=match x with
 | .p o g b=>K (.p o g (Nat.add b off))
 | _=>false
noncomputable def Di (off:Nat)(x:FV)(K:KF):Bool:=match x with
 | .c 0 _ l=>nthO l off K
 | _=>false
noncomputable def dFldA (off z:Nat)(x:FV)(K:KF):Bool:=match x with
 | .c 0 _ l=>bC (Nat.ble (Nat.add off z) l.length) (fSp (Oe z (JH off l)) fun l=>K (.c (nat_lit 0) (nat_lit 0) l)) false
 | _=>false
noncomputable def rJ (n z:Nat)(x i:FV)(K:KF):Bool:=match x with
 | .p o g b=>uS i fun j=>bC (Nat.ble (Nat.succ j) n) (K (.p o g (Nat.add b (Nat.mul j z)))) false
 | _=>false
noncomputable def dI (z:Nat)(x i:FV)(K:KF):Bool:=match x with
 | .sl o g b n z'=>bC (Nat.beq z' z) (uS i fun j=>bC (Nat.ble (Nat.succ j) n) (K (.p o g (Nat.add b (Nat.mul j z)))) false) false
 | _=>false
noncomputable def iV (x:FV)(K:KF):Bool:=match x with
 | .n t v=>bC (Nat.beq t (nat_lit 1)) (Nat.rec (motive:=fun _=>KF→Bool) (fun K=>K (.n (nat_lit 1) (nat_lit 1))) (fun _ _ K=>K (.n (nat_lit 1) (nat_lit 0))) v K) false
 | _=>false
noncomputable def au (x:FV)(K:KF):Bool:=match x with
 | .p o g off=>K (.p o g off)
 | .c 2 t [v]=>K (.c 2 t [v])
 | .c 3 k l=>K (.c 3 k l)
 | _=>false
noncomputable def Vu (t:Nat)(x:FV)(K:Bool→Bool):Bool:=match x with
 | .n t' _=>bC (Nat.beq t' t) (K true) false
 | .p _ _ _=>bC (Nat.beq t (nat_lit 2)) (K false) false
 | .sl _ _ _ _ _=>bC (Nat.beq t (nat_lit 3)) (K false) false
 | .c 3 _ _=>bC (Nat.beq t (nat_lit 4)) (K false) false
 | .c 2 _ _=>bC (Nat.beq t (nat_lit 5)) (K false) false
 | .c 5 _ _=>bC (Nat.beq t (nat_lit 6)) (K false) false
 | _=>false
noncomputable def zI:AD→Nat
 | .ptr _=>2
 | .slice _=>3
 | .fn=>4
 | .rO _=>5
 | .map _ _=>6
 | _=>0
noncomputable def isNil:AV→Nat
 | .p0=>2
 | .sl0=>3
 | .fn0=>4
 | .fK=>5
 | .kK=>6
 | _=>99
noncomputable def uT (t:Nat)(x:FV)(K:KF):Bool:=Vu t x fun b=>kB b K
noncomputable def qW (t:Nat)(x:FV)(K:KF):Bool:=Vu t x fun b=>kN b K
noncomputable def dCvtN (t M t1 a:Nat)(K:KF):Bool:=match kOf t1 with
 | some k1=>bC (Nat.beq (Nat.mod t1 (nat_lit 2)) (nat_lit 1)) (bC (Nat.ble (Nat.div t1 (nat_lit 4)) (Nat.mod a (md k1))) (xQ (Nat.mod (Nat.sub (Nat.add (Nat.mod a (md k1)) (Nat.mul M (nat_lit 18446744073709551616))) (md k1)) M) t K) false) false
 | none=>false
noncomputable def dH (t M:Nat)(x:FV)(K:KF):Bool:=match x with
 | .n t1 a=>bC (Ql t1 a) (xQ (Nat.mod a M) t K) (dCvtN t M t1 a K)
 | _=>false
noncomputable def tZ (t M b:Nat)(x y:FV)(K:KF):Bool:=match x with
 | .n t1 a=>bC (Nat.beq t1 t) (uS y fun n=>xQ (Nat.mod (Nat.shiftLeft a (bC (Nat.ble n b) n b)) M) t K) false
 | _=>false
noncomputable def qX (t M b:Nat)(x y:FV)(K:KF):Bool:=match x with
 | .n t1 a=>bC (Nat.beq t1 t) (bC (Ql t a) (uS y fun n=>xQ (Nat.shiftRight a (bC (Nat.ble n b) n b)) t K) false) false
 | _=>false
noncomputable def xI (t M:Nat)(x y:FV)(K:KF):Bool:=match x,y with
 | .n t1 a,.n t2 b=>bC (Nat.beq t1 t) (bC (Nat.beq t2 t) (bC (Ql t a) (bC (Ql t b) (bC (Nat.ble (nat_lit 1) b) (xQ (Nat.div a b) t K) false) false) false) false) false
 | _,_=>false
noncomputable def uU (t M:Nat)(x y:FV)(K:KF):Bool:=match x,y with
 | .n t1 a,.n t2 b=>bC (Nat.beq t1 t) (bC (Nat.beq t2 t) (bC (Ql t a) (bC (Ql t b) (bC (Nat.ble (nat_lit 1) b) (xQ (Nat.mod a b) t K) false) false) false) false) false
 | _,_=>false
theorem dExt_ok {i:Nat} {x:FV} {K:KF} (h:b_ i x K=true):∃vs,x.av= .tu vs∧∃v:FV,vs[i]? =some v.av∧K v=true:=by
 unfold b_ at h
 split at h
 ·obtain⟨v,h1,h2⟩:=Hr _ _ h
  refine⟨_,CW _ _,v,?_,h2⟩
  rw [List.getElem?_map,h1];rfl
 ·cases h
theorem dNot_ok {x:FV} {K:KF} (h:iV x K=true):∃b,x.av= .b b∧∃v:FV,v.av= .b (!b)∧K v=true:=by
 unfold iV at h
 split at h
 ·rename_i t v
  obtain⟨h1,h⟩:=aT h
  have h1:t=1:=Nat.eq_of_beq_eq_true h1
  subst h1
  refine⟨_,CV v,?_⟩
  cases v with
  | zero=>exact⟨_,rfl,h⟩
  | succ v=>exact⟨_,rfl,h⟩
 ·cases h
theorem nilT_ok {t:Nat} {x:FV} {K:Bool→Bool} (h:Vu t x K=true):∃b,K b=true∧((b=true∧∃z,x= .n t z)∨(b=false∧((t=2∧∃o g off,x.av= .p o g off)∨(t=3∧∃o g off n z,x.av= .sl o g off n z)∨(t=4∧∃f a c,x.av= .fn f a c)∨(t=5∧∃t' v,x.av= .ic t' v)∨(t=6∧∃o g,x.av= .mp o g)))):=by
 unfold Vu at h
 split at h <;> first | cases h | (obtain⟨h1,h⟩:=aT h)
 ·exact⟨true,h,.inl ⟨rfl,_,by rw [Nat.eq_of_beq_eq_true h1]⟩⟩
 ·exact⟨false,h,.inr ⟨rfl,.inl ⟨Nat.eq_of_beq_eq_true h1,_,_,_,rfl⟩⟩⟩
 ·exact⟨false,h,.inr ⟨rfl,.inr (.inl ⟨Nat.eq_of_beq_eq_true h1,_,_,_,_,_,rfl⟩)⟩⟩
 ·exact⟨false,h,.inr ⟨rfl,.inr (.inr (.inl ⟨Nat.eq_of_beq_eq_true h1,_,_,_,rfl⟩))⟩⟩
 ·exact⟨false,h,.inr ⟨rfl,.inr (.inr (.inr (.inl ⟨Nat.eq_of_beq_eq_true h1,_,_,rfl⟩)))⟩⟩
 ·exact⟨false,h,.inr ⟨rfl,.inr (.inr (.inr (.inr ⟨Nat.eq_of_beq_eq_true h1,_,_,rfl⟩)))⟩⟩
theorem nil_eq {P:Program} {t:Nat} {T:AT} (hT:aH P t=some T) {x:FV} {K:Bool→Bool} (h:Vu (zI T.d) x K=true) {v:AV} (hv:isNil v=zI T.d):∃b,K b=true∧gU P .eql t x.av v true=some (.b b)∧gU P .neq t x.av v true=some (.b !b):=by
 obtain⟨b,h1,h2⟩:=nilT_ok h
 refine⟨b,h1,?_⟩
 clear h
 have fin:∀(w:AV),uX P 20 t w v=some b→(∀op,op= .eql∨op= .neq→gU P op t w v true=if op= .eql then(uX P 20 t w v).map .b else(uX P 20 t w v).map fun r=>.b !r)→gU P .eql t w v true=some (.b b)∧gU P .neq t w v true=some (.b !b):=by
  intro w e1 e2
  refine⟨?_,?_⟩
  ·rw [e2 .eql (.inl rfl),if_pos rfl,e1];rfl
  ·rw [e2 .neq (.inr rfl),if_neg (by decide),e1];rfl
 obtain⟨d,sz,bt,ze,cm,hd,gd⟩:=T
 simp only at h2 hv
 rcases h2 with ⟨rfl,z,rfl⟩ | ⟨rfl,h2⟩
 ·cases d <;> simp only [zI] at hv <;> cases v <;> simp only [isNil] at hv <;> (try omega)
  all_goals
   refine fin _ ?_ ?_
   ·unfold uX;rw [hT];rfl
   ·rintro op (rfl | rfl) <;> rfl
 ·rcases h2 with ⟨e,o,g,off,hx⟩ | ⟨e,o,g,off,n,z,hx⟩ | ⟨e,f,a,c,hx⟩ | ⟨e,t',w,hx⟩ | ⟨e,o,g,hx⟩
  all_goals
   rw [hx]
   cases d <;> simp only [zI] at e hv <;> (try omega)
   cases v <;> simp only [isNil] at hv <;> (try omega)
   refine fin _ ?_ ?_
   ·unfold uX;rw [hT]
   ·rintro op (rfl | rfl) <;> rfl
end Go.dX
namespace Go.dX
theorem Ht {k:IntKind} {a:Nat} (h:Ql (tg k) a=true):a<(if k.signed then 2^(k.bits - 1) else 2^k.bits):=by
 have key:∀(b:Nat),Nat.ble a b=true→a<b+1:=fun b hb=>Nat.lt_succ_of_le (Nat.le_of_ble_eq_true hb)
 cases k
 ·exact key 127 h
 ·exact key 32767 h
 ·exact key 2147483647 h
 ·exact key 9223372036854775807 h
 ·exact key 255 h
 ·exact key 65535 h
 ·exact key 4294967295 h
 ·exact key 18446744073709551615 h
theorem t_ {k:IntKind} {a:Nat} (h:Ql (tg k) a=true):k.wrap a=a:=wrap_small k (Ht h)
theorem iW (k:IntKind)(a:Nat):FV.av (.n (tg k) a)= .i k (k.wrap a):=jL k a
theorem Fb (k:IntKind)(a:Nat):FV.av (.n (tg k) (Nat.mod a (md k)))= .i k (k.wrap a):=by
 rw [iW]
 congr 1
 show k.wrap ((a%md k:Nat):Int)=_
 rw [Fa,l7]
theorem MB (k:IntKind)(a:Nat):(BitVec.ofInt k.bits (k.wrap a)).toNat=a%md k:=by
 rw [BitVec.toNat_ofInt]
 have h:=jA k a
 rw [n_,h,←n_,←Int.natCast_emod,Int.toNat_natCast,Fa]
section
variable {k:IntKind} {x y:FV} {K:KF}
theorem add_ok (h:cu x (tg k) (md k) y K=true):∃a b,x.av= .i k a∧y.av= .i k b∧∃v:FV,jS .add k a b=some v.av∧K v=true:=by
 obtain⟨a,b,e1,e2,h2⟩:=dAdd_ok h
 clear h
 have h:=h2
 clear h2
 subst e1 e2
 rw [kU] at h
 refine⟨_,_,iW k a,iW k b,_,?_,h⟩
 rw [Fb]
 simp only [jS,wrap_add]
 congr 3
theorem sub_ok (h:fH x (tg k) (md k) y K=true):∃a b,x.av= .i k a∧y.av= .i k b∧∃v:FV,jS .sub k a b=some v.av∧K v=true:=by
 obtain⟨a,b,e1,e2,h2⟩:=dSub_ok h
 clear h
 have h:=h2
 clear h2
 subst e1 e2
 rw [kU] at h
 refine⟨_,_,iW k a,iW k b,_,?_,h⟩
 rw [Fb]
 simp only [jS,U4]
 congr 2
 apply kD
 have hM:b%md k<md k:=Nat.mod_lt _ (by cases k <;> decide)
 have e2:((md k:Nat):Int)=2^k.bits:=by rw [Fa,n_]
 have e1:((Nat.sub (Nat.add a (md k)) (Nat.mod b (md k)):Nat):Int)=(a:Int) - ((b%md k:Nat):Int)+2^k.bits:=by
  show ((a+md k - b%md k:Nat):Int)=_
  rw [←e2];omega
 rw [e1,Int.natCast_emod,e2,Int.add_emod_right,Int.sub_emod,Int.sub_emod (a:Int) ((b:Int)%2^k.bits),Int.emod_emod_of_dvd _ (Int.dvd_refl _)]
theorem mul_ok (h:jU x (tg k) (md k) y K=true):∃a b,x.av= .i k a∧y.av= .i k b∧∃v:FV,jS .mul k a b=some v.av∧K v=true:=by
 obtain⟨a,b,e1,e2,h2⟩:=dMul_ok h
 clear h
 have h:=h2
 clear h2
 subst e1 e2
 rw [kU] at h
 refine⟨_,_,iW k a,iW k b,_,?_,h⟩
 rw [Fb]
 simp only [jS,wrap_mul]
 congr 3
theorem and_ok (h:zX x (tg k) (md k) y K=true):∃a b,x.av= .i k a∧y.av= .i k b∧∃v:FV,jS .and k a b=some v.av∧K v=true:=by
 obtain⟨a,b,e1,e2,h2⟩:=dAnd_ok h
 clear h
 have h:=h2
 clear h2
 subst e1 e2
 rw [kU] at h
 refine⟨_,_,iW k a,iW k b,_,?_,h⟩
 rw [iW]
 simp only [jS,wE,BitVec.toNat_and,MB];rfl
theorem or_ok (h:dOr x (tg k) (md k) y K=true):∃a b,x.av= .i k a∧y.av= .i k b∧∃v:FV,jS .or k a b=some v.av∧K v=true:=by
 obtain⟨a,b,e1,e2,h2⟩:=dOr_ok h
 clear h
 have h:=h2
 clear h2
 subst e1 e2
 rw [kU] at h
 refine⟨_,_,iW k a,iW k b,_,?_,h⟩
 rw [iW]
 simp only [jS,wE,BitVec.toNat_or,MB];rfl
theorem xor_ok (h:dXor x (tg k) (md k) y K=true):∃a b,x.av= .i k a∧y.av= .i k b∧∃v:FV,jS .xor k a b=some v.av∧K v=true:=by
 obtain⟨a,b,e1,e2,h2⟩:=dXor_ok h
 clear h
 have h:=h2
 clear h2
 subst e1 e2
 rw [kU] at h
 refine⟨_,_,iW k a,iW k b,_,?_,h⟩
 rw [iW]
 simp only [jS,wE,BitVec.toNat_xor,MB];rfl
theorem Az (a b:Nat):Nat.ble a b=true↔a≤b:=⟨Nat.le_of_ble_eq_true,Nat.ble_eq_true_of_le⟩
theorem lss_ok (h:dU x (tg k) (md k) y K=true):∃a b,x.av= .i k a∧y.av= .i k b∧∃v:FV,jS .lss k a b=some v.av∧K v=true:=by
 obtain⟨a,b,e1,e2,h2⟩:=dLss_ok h
 clear h
 have h:=h2
 clear h2
 subst e1 e2
 obtain⟨v,h1,h2⟩:=CY h
 refine⟨_,_,iW k a,iW k b,v,?_,h2⟩
 rw [h1]
 simp only [jS,Kw,Option.some.injEq,AV.b.injEq]
 rw [Bool.eq_iff_iff,decide_eq_true_iff,N9,Az];exact Iff.rfl
theorem leq_ok (h:jd x (tg k) (md k) y K=true):∃a b,x.av= .i k a∧y.av= .i k b∧∃v:FV,jS .leq k a b=some v.av∧K v=true:=by
 obtain⟨a,b,e1,e2,h2⟩:=dLeq_ok h
 clear h
 have h:=h2
 clear h2
 subst e1 e2
 obtain⟨v,h1,h2⟩:=CY h
 refine⟨_,_,iW k a,iW k b,v,?_,h2⟩
 rw [h1]
 simp only [jS,Kw,Option.some.injEq,AV.b.injEq]
 rw [Bool.eq_iff_iff,decide_eq_true_iff,N_,Az]
theorem gtr_ok (h:je x (tg k) (md k) y K=true):∃a b,x.av= .i k a∧y.av= .i k b∧∃v:FV,jS .gtr k a b=some v.av∧K v=true:=by
 obtain⟨a,b,e1,e2,h2⟩:=dGtr_ok h
 clear h
 have h:=h2
 clear h2
 subst e1 e2
 obtain⟨v,h1,h2⟩:=CY h
 refine⟨_,_,iW k a,iW k b,v,?_,h2⟩
 rw [h1]
 simp only [jS,Kw,Option.some.injEq,AV.b.injEq]
 rw [Bool.eq_iff_iff,decide_eq_true_iff,gt_iff_lt,N9,Az];exact Iff.rfl
theorem geq_ok (h:iC x (tg k) (md k) y K=true):∃a b,x.av= .i k a∧y.av= .i k b∧∃v:FV,jS .geq k a b=some v.av∧K v=true:=by
 obtain⟨a,b,e1,e2,h2⟩:=dGeq_ok h
 clear h
 have h:=h2
 clear h2
 subst e1 e2
 obtain⟨v,h1,h2⟩:=CY h
 refine⟨_,_,iW k a,iW k b,v,?_,h2⟩
 rw [h1]
 simp only [jS,Kw,Option.some.injEq,AV.b.injEq]
 rw [Bool.eq_iff_iff,decide_eq_true_iff,ge_iff_le,N_,Az]
theorem Dj (a b:Nat):Nat.beq (Nat.mod a (md k)) (Nat.mod b (md k))=(k.wrap a == k.wrap b):=by
 rw [Bool.eq_iff_iff,beq_iff_eq,Jy,←Fa]
 exact⟨Nat.eq_of_beq_eq_true,fun e=>by rw [show Nat.mod a (md k)=a%md k from rfl,e];exact Nat.beq_refl _⟩
theorem eqi_ok (h:bP x (tg k) (md k) y K=true):∃a b,x.av= .i k a∧y.av= .i k b∧∃v:FV,jS .eql k a b=some v.av∧K v=true:=by
 obtain⟨a,b,e1,e2,h2⟩:=dEqI_ok h
 clear h
 have h:=h2
 clear h2
 subst e1 e2
 obtain⟨v,h1,h2⟩:=CY h
 exact⟨_,_,iW k a,iW k b,v,by rw [h1,Dj];rfl,h2⟩
theorem nei_ok (h:l9 x (tg k) (md k) y K=true):∃a b,x.av= .i k a∧y.av= .i k b∧∃v:FV,jS .neq k a b=some v.av∧K v=true:=by
 obtain⟨a,b,e1,e2,h2⟩:=dNeI_ok h
 clear h
 have h:=h2
 clear h2
 subst e1 e2
 obtain⟨v,h1,h2⟩:=U6 h
 exact⟨_,_,iW k a,iW k b,v,by rw [h1,Dj];rfl,h2⟩
theorem quo_ok (h:xI (tg k) (md k) x y K=true):∃a b,x.av= .i k a∧y.av= .i k b∧∃v:FV,jS .quo k a b=some v.av∧K v=true:=by
 unfold xI at h
 split at h
 ·rename_i t1 a t2 b
  obtain⟨h1,h⟩:=aT h
  obtain⟨h2,h⟩:=aT h
  obtain⟨h3,h⟩:=aT h
  obtain⟨h4,h⟩:=aT h
  obtain⟨h5,h⟩:=aT h
  rw [kU] at h
  rw [Nat.eq_of_beq_eq_true h1,Nat.eq_of_beq_eq_true h2]
  have h5:1≤b:=Nat.le_of_ble_eq_true h5
  refine⟨_,_,iW k a,iW k b,_,?_,h⟩
  rw [t_ h3,t_ h4,iW]
  simp only [jS]
  rw [if_neg (by omega),show Nat.div a b=a / b from rfl,Int.ofNat_tdiv]
 ·cases h
theorem rem_ok (h:uU (tg k) (md k) x y K=true):∃a b,x.av= .i k a∧y.av= .i k b∧∃v:FV,jS .rem k a b=some v.av∧K v=true:=by
 unfold uU at h
 split at h
 ·rename_i t1 a t2 b
  obtain⟨h1,h⟩:=aT h
  obtain⟨h2,h⟩:=aT h
  obtain⟨h3,h⟩:=aT h
  obtain⟨h4,h⟩:=aT h
  obtain⟨h5,h⟩:=aT h
  rw [kU] at h
  rw [Nat.eq_of_beq_eq_true h1,Nat.eq_of_beq_eq_true h2]
  have h5:1≤b:=Nat.le_of_ble_eq_true h5
  have hl:=Ht h3
  have hle:a%b≤a:=Nat.mod_le a b
  refine⟨_,_,iW k a,iW k b,_,?_,h⟩
  rw [t_ h3,t_ h4,iW,show Nat.mod a b=a%b from rfl,wrap_small k (by omega)]
  simp only [jS]
  rw [if_neg (by omega),←Int.ofNat_tmod]
 ·cases h
theorem minB (n b:Nat):bC (Nat.ble n b) n b=min n b:=by
 cases hb:Nat.ble n b with
 | true=>rw [jE];have:=Nat.le_of_ble_eq_true hb;omega
 | false=>
   rw [jv]
   have:¬n≤b:=fun h=>by rw [Nat.ble_eq_true_of_le h] at hb;cases hb
   omega
theorem shl_ok (h:tZ (tg k) (md k) k.bits x y K=true):∃a q b,x.av= .i k a∧y.av= .i q b∧∃v:FV,qH .shl k a b=some v.av∧K v=true:=by
 unfold tZ at h
 split at h
 ·rename_i t1 a
  obtain⟨h1,h⟩:=aT h
  obtain⟨q,n,h2,h⟩:=jD h
  rw [kU] at h
  rw [Nat.eq_of_beq_eq_true h1]
  refine⟨_,q,_,iW k a,h2,_,?_,h⟩
  rw [Fb,minB]
  simp only [qH]
  rw [if_neg (by omega),Int.toNat_natCast]
  have e:((Nat.shiftLeft a (min n k.bits):Nat):Int)=(a:Int)*2^min n k.bits:=by
   show ((a <<< min n k.bits:Nat):Int)=_
   rw [Nat.shiftLeft_eq];push_cast;rfl
  rw [e]
  congr 2
  exact kD k (by rw [Int.mul_emod,jA,←Int.mul_emod])
 ·cases h
theorem shr_ok (h:qX (tg k) (md k) k.bits x y K=true):∃a q b,x.av= .i k a∧y.av= .i q b∧∃v:FV,qH .shr k a b=some v.av∧K v=true:=by
 unfold qX at h
 split at h
 ·rename_i t1 a
  obtain⟨h1,h⟩:=aT h
  obtain⟨h3,h⟩:=aT h
  obtain⟨q,n,h2,h⟩:=jD h
  rw [kU] at h
  rw [Nat.eq_of_beq_eq_true h1]
  refine⟨_,q,_,iW k a,h2,_,?_,h⟩
  have hl:=Ht h3
  have e:Nat.shiftRight a (min n k.bits)=a / 2^min n k.bits:=Nat.shiftRight_eq_div_pow a _
  have hle:a / 2^min n k.bits≤a:=Nat.div_le_self _ _
  rw [t_ h3,iW,minB,e,wrap_small k (by omega)]
  simp only [qH]
  rw [if_neg (by omega),Int.toNat_natCast]
  congr 2
  have e3:((2^min n k.bits:Nat):Int)=2^min n k.bits:=by rw [Int.natCast_pow];rfl
  rw [←e3,Int.fdiv_eq_ediv_of_nonneg _ (Int.natCast_nonneg _),Int.natCast_ediv]
 ·cases h
theorem Vw (h:dH (tg k) (md k) x K=true):∃q n,x.av= .i q n∧∃v:FV,v.av= .i k (k.wrap n)∧K v=true:=by
 unfold dH at h
 split at h
 ·rename_i t1 a
  cases h0:Ql t1 a with
  | true=>
    rw [h0,jE,kU] at h
    obtain⟨q,hq⟩:=Md h0
    exact⟨q,a,hq,_,Fb k a,h⟩
  | false=>
    rw [h0,jv] at h
    unfold dCvtN at h
    split at h
    ·rename_i k1 hk1
     obtain⟨h1,hh1⟩:=aT h
     obtain⟨h2,hh2⟩:=aT hh1
     clear h hh1
     have h:=hh2
     clear hh2
     rw [kU] at h
     have ht:=CQ hk1
     subst ht
     refine⟨k1,_,iW k1 a,_,?_,h⟩
     have h1:tg k1%2=1:=Nat.eq_of_beq_eq_true h1
     have h2:tg k1 / 4≤a%md k1:=Nat.le_of_ble_eq_true h2
     have hs:k1.signed=true:=by cases k1 <;> first | rfl | (exfalso;revert h1;decide)
     have hM1:a%md k1<md k1:=Nat.mod_lt _ (by cases k1 <;> decide)
     have hle:md k1≤md k*18446744073709551616:=by cases k <;> cases k1 <;> decide
     have hw:k1.wrap a=((a%md k1:Nat):Int) - (md k1:Nat):=by
      rw [N8] at h2
      have e2:((md k1:Nat):Int)=2^k1.bits:=by rw [Fa,n_]
      have e3:(a:Int)%2^k1.bits=((a%md k1:Nat):Int):=by rw [Int.natCast_emod,e2]
      unfold IntKind.wrap
      simp only
      rw [e3,hs,Bool.true_and,if_pos (by
         rw [decide_eq_true_eq]
         have:((2^(k1.bits - 1):Nat):Int)=2^(k1.bits - 1):=by cases k1 <;> rfl
         rw [←this];exact_mod_cast h2),e2]
     rw [Fb,hw]
     congr 1
     apply kD
     have e1:((Nat.sub (Nat.add (Nat.mod a (md k1)) (Nat.mul (md k) 18446744073709551616)) (md k1):Nat):Int)=(((a%md k1:Nat):Int) - (md k1:Nat))+(2^k.bits)*18446744073709551616:=by
      have e2:((md k:Nat):Int)=2^k.bits:=by rw [Fa,n_]
      show ((a%md k1+md k*18446744073709551616 - md k1:Nat):Int)=_
      rw [←e2];omega
     rw [show ((Nat.sub (Nat.add (Nat.mod a (md k1)) (Nat.mul (md k) (nat_lit 18446744073709551616))) (md k1):Nat):Int)=_ from e1,Int.add_mul_emod_self_left]
    ·cases h
 ·cases h
end
end Go.dX
namespace Go.dX
noncomputable def pkK:List FV→(Nat→Bool)→Bool:=List.rec (motive:=fun _=>(Nat→Bool)→Bool) (fun K=>K (nat_lit 0)) (fun a _ ih K=>FV.rec (motive_1:=fun _=>Bool) (motive_2:=fun _=>PUnit) (fun t x=>bC (Nat.beq t (nat_lit 512)) (ih fun v=>fN (Nat.add (Nat.mod x (nat_lit 256)) (Nat.mul (nat_lit 256) v)) K) false) (fun _ _ _=>false) (fun _ _ _ _ _=>false) (fun _ _=>false) (fun _ _ _ _=>false) ⟨⟩ (fun _ _ _ _=>⟨⟩) a)
noncomputable def Oj (m:Nat)(d:List FV)(t:Tr FV):Bool:=match t,d with
 | .lf,[.n 512 0]=>Nat.beq m (nat_lit 1)
 | _,_=>false
noncomputable def Dk (x:FV)(s:GS)(K:KF):Bool:=match x with
 | .n t _=>bC (Nat.beq t (nat_lit 3)) (K (.s (nat_lit 0) (nat_lit 0))) false
 | .sl o g off n z=>bC (Nat.beq z (nat_lit 1)) (Df (s.t.get o) g fun _ _ n' m d t=>bC (Nat.ble (Nat.add off n) n') (bC (Oj m d t) (K (.s n (nat_lit 0))) (G_ m d t n off fun l=>pkK l fun v=>K (.s n v))) false) false
 | _=>false
theorem Vx:∀(l:List FV) {K:Nat→Bool} (_:pkK l K=true),∃v,bytesOf (l.map FV.av)=some (g_ l.length v)∧K v=true
 | [],K,hk=>⟨0,rfl,hk⟩
 | a :: l,K,hk=>by
   cases a with
   | n t x=>
     have hk':bC (Nat.beq t 512) (pkK l fun v=>fN (Nat.add (Nat.mod x 256) (Nat.mul 256 v)) K) false=true:=hk
     obtain⟨h1,h2⟩:=aT hk'
     have h1:=Nat.eq_of_beq_eq_true h1
     subst h1
     obtain⟨v,h3,h4⟩:=Vx l h2
     rw [kT] at h4
     refine⟨_,?_,h4⟩
     have hx:x%256<256:=Nat.mod_lt _ (by omega)
     have e1:FV.av (.n 512 x)= .i .u8 (x%256:Nat):=by
       rw [FV.xu,show (512:Nat)=tg .u8 from rfl,jL,←l7 .u8 x,show x%2^IntKind.u8.bits=x%256 from rfl,wrap_small .u8 (by simp only [IntKind.signed,IntKind.bits,if_false,Bool.false_eq_true];omega)]
     rw [List.map_cons,e1]
     simp only [bytesOf,h3,Option.map_some,List.length_cons,fJ]
     have e2:Nat.add (Nat.mod x 256) (Nat.mul 256 v)=x%256+256*v:=rfl
     rw [e2,show (x%256+256*v)%256=x%256 by omega,show (x%256+256*v) / 256=v by omega,Int.toNat_natCast]
   | _=>cases hk
theorem Vy {n' m:Nat} {d:List FV} {t:Tr FV} {cs:List AV} (hz:Oj m d t=true)(hc:eH n' m d t cs)(off n:Nat)(hl:off+n≤n'):bytesOf ((cs.drop off).take n)=some (g_ n 0):=by
 unfold Oj at hz
 split at hz
 ·have hm:m=1:=Nat.eq_of_beq_eq_true hz
  have hcell:∀i,i<n'→cs[i]? =some (.i .u8 0):=fun i hi=>by
   rw [hc.at_ i hi,hm]
   have:tN 1 [.n 512 0] .lf i= .n 512 0:=by
        show G7 [.n 512 0] (i%1)=_
        rw [Nat.mod_one];rfl
   rw [this];rfl
  have key:∀(k:Nat) (l:List AV),l.length=k→(∀i,i<k→l[i]? =some (.i .u8 0))→bytesOf l=some (g_ k 0):=by
   intro k
   induction k with
   | zero=>intro l hl _;rw [List.eq_nil_of_length_eq_zero hl];rfl
   | succ k ih=>
     intro l hl hi
     cases l with
     | nil=>simp at hl
     | cons a l=>
       have h0:a= .i .u8 0:=Option.some.inj (hi 0 (by omega))
       subst h0
       have h1:=ih l (by simpa using hl) (fun i hlt=>by have:=hi (i+1) (by omega);simpa using this)
       simp only [bytesOf,h1,Option.map_some,fJ];rfl
  refine key n _ (by have:=hc.len;simp;omega) fun i hi=>?_
  rw [List.getElem?_take,if_pos hi,List.getElem?_drop]
  exact hcell _ (by omega)
 ·cases hz
theorem Fe {P:Program} {s:GS} {σ:St} {K:KF} {a b e:Nat} {x:FV} {s1 b1 s2 b2 s3 b3:Nat} {z1 z2 z3:AV} {c1 h1 g1 c2 h2 g2 c3 h3 g3:Bool} (hA:aH P a=some ⟨.slice e,s1,b1,z1,c1,h1,g1⟩)(hB:aH P b=some ⟨.str,s2,b2,z2,c2,h2,g2⟩)(he:aH P e=some ⟨.int .u8,s3,b3,z3,c3,h3,g3⟩)
 (h:s.Is σ) (hk2:Dk x s K=true):∃v:FV,jV P a b x.av σ=some (v.av,σ)∧K v=true:=by
 unfold Dk at hk2
 split at hk2
 ·rename_i t x'
  obtain⟨h2,hk3⟩:=aT hk2
  have h2:t=3:=Nat.eq_of_beq_eq_true h2
  refine⟨_,?_,hk3⟩
  simp only [jV,hA,hB]
  rw [h2,show FV.av (.n 3 x')= .sl0 from rfl]
  simp only [he];rfl
 ·rename_i o g off n z
  obtain⟨h2,hk3⟩:=aT hk2
  have h2:z=1:=Nat.eq_of_beq_eq_true h2
  obtain⟨ro,e',n',m,d,t,cs,w1,w2,w3⟩:=lX h hk3
  obtain⟨h4,h5⟩:=aT w3
  have h4:off+n≤n':=Nat.le_of_ble_eq_true h4
  cases hz0:Oj m d t with
  | true=>
    rw [hz0,jE] at h5
    have hby:=Vy hz0 w2 off n h4
    refine⟨_,?_,h5⟩
    simp only [jV,hA,hB,FV.xw,he]
    rw [if_pos h2,jP w1]
    simp only [Option.bind_some]
    rw [if_pos (by rw [w2.len];exact h4),hby];rfl
  | false=>
  rw [hz0,jv] at h5
  obtain⟨l,r1,r2,r3⟩:=uJ w2 n off h4 h5
  obtain⟨v,v1,v2⟩:=Vx l r1
  have hll:l.length=n:=by
   have e1:=congrArg List.length r2
   have:=w2.len
   simp only [List.length_map,List.length_take,List.length_drop] at e1
   omega
  refine⟨_,?_,v2⟩
  simp only [jV,hA,hB,FV.xw,he]
  rw [if_pos h2,jP w1]
  simp only [Option.bind_some]
  rw [if_pos (by rw [w2.len];exact h4),←r2,v1,hll];rfl
 ·cases hk2
section
variable (P:Program)(τ:jc)
noncomputable def eu (o:Option AV)(K:KF):Bool:=match o with
 | some v=>bC (Ho v) (K (vU v)) false
 | none=>false
noncomputable def qB (op:dM)(ρ:bT→FV)(K:KF):Bool:=match op with
 | .bin op t x y=>eu (gU P op t (ρ x).av (ρ y).av (x.isC || y.isC)) K
 | .un op x=>eu (OB op (ρ x).av) K
 | .idx t x i=>eu (KE P t (ρ x).av (ρ i).av) K
 | .build t ps=>eu (kL P t ((ps.map fun q=>(q.1,ρ q.2)).map fun q=>(q.1,q.2.av))) K
 | .len t x=>eu (DV P t (ρ x).av) K
 | .J_ x _ t ok=>eu (xW P (ρ x).av t ok) K
 | .mn mx xs=>eu (aMn mx ((xs.map ρ).map FV.av)) K
 | .sl3 t x lo h m=>eu (KA P t (ρ x).av ((lo.map ρ).map FV.av) (ρ h).av (ρ m).av) K
 | _=>false
noncomputable def Vz (k:IntKind)(op:BinOp)(t:Nat)(x y:bT)(ρ:bT→FV)(K:KF):Bool:=match op with
 | .add=>cu (ρ x) (tg k) (md k) (ρ y) K
 | .sub=>fH (ρ x) (tg k) (md k) (ρ y) K
 | .mul=>jU (ρ x) (tg k) (md k) (ρ y) K
 | .and=>zX (ρ x) (tg k) (md k) (ρ y) K
 | .or=>dOr (ρ x) (tg k) (md k) (ρ y) K
 | .xor=>dXor (ρ x) (tg k) (md k) (ρ y) K
 | .lss=>dU (ρ x) (tg k) (md k) (ρ y) K
 | .leq=>jd (ρ x) (tg k) (md k) (ρ y) K
 | .gtr=>je (ρ x) (tg k) (md k) (ρ y) K
 | .geq=>iC (ρ x) (tg k) (md k) (ρ y) K
 | .eql=>bP (ρ x) (tg k) (md k) (ρ y) K
 | .neq=>l9 (ρ x) (tg k) (md k) (ρ y) K
 | .quo=>xI (tg k) (md k) (ρ x) (ρ y) K
 | .rem=>uU (tg k) (md k) (ρ x) (ρ y) K
 | .shl=>tZ (tg k) (md k) k.bits (ρ x) (ρ y) K
 | .shr=>qX (tg k) (md k) k.bits (ρ x) (ρ y) K
 | op=>qB P (.bin op t x y) ρ K
noncomputable def VA (op:BinOp)(t:Nat)(x y:bT)(ρ:bT→FV)(K:KF):Bool:=match op with
 | .add=>EY (ρ x) (ρ y) K
 | .eql=>kV (ρ x) (ρ y) K
 | .neq=>Vj (ρ x) (ρ y) K
 | op=>qB P (.bin op t x y) ρ K
noncomputable def gBinN (d:AD)(op:BinOp)(t:Nat)(x:bT)(v:AV)(ρ:bT→FV)(K:KF):Bool:=match op with
 | .eql=>uT (zI d) (ρ x) K
 | .neq=>qW (zI d) (ρ x) K
 | op=>qB P (.bin op t x (.c v)) ρ K
noncomputable def gBin (op:BinOp)(t:Nat)(x y:bT)(ρ:bT→FV)(K:KF):Bool:=match τ t with
 | some T=>(match T.d with
   | .int k=>Vz P k op t x y ρ K
   | .str=>VA P op t x y ρ K
   | d=>match y with
     | .c v=>bC (Nat.beq (isNil v) (zI d)) (gBinN P d op t x v ρ K) (qB P (.bin op t x y) ρ K)
     | .t _=>qB P (.bin op t x y) ρ K)
 | none=>false
noncomputable def gUn (op:UnOp)(x:bT)(ρ:bT→FV)(K:KF):Bool:=match op with
 | .not=>iV (ρ x) K
 | op=>qB P (.un op x) ρ K
noncomputable def gLen (t:Nat)(x:bT)(ρ:bT→FV)(K:KF):Bool:=match τ t with
 | some T=>(match T.d with
   | .str=>fE (ρ x) K
   | .slice _=>dh (ρ x) K
   | _=>qB P (.len t x) ρ K)
 | none=>false
noncomputable def gFad (t:Nat)(x:bT)(f:Nat)(ρ:bT→FV)(K:KF):Bool:=match τ t with
 | some T=>(match T.d with
   | .st fs=>(match fs[f]? with
     | some r=>bC (Nat.ble (nat_lit 1) (xk τ r.2.1)) (aG r.1 (ρ x) K) false
     | none=>false)
   | _=>false)
 | none=>false
noncomputable def gFld (t:Nat)(x:bT)(f:Nat)(ρ:bT→FV)(K:KF):Bool:=match τ t with
 | some T=>(match T.d with
   | .st fs=>(match fs[f]? with
     | some r=>(match τ r.2.1 with
       | some F=>bC F.d.agg (dFldA r.1 F.size (ρ x) K) (Di r.1 (ρ x) K)
       | none=>false)
     | none=>false)
   | _=>false)
 | none=>false
noncomputable def gIad (t:Nat)(x i:bT)(ρ:bT→FV)(K:KF):Bool:=match τ t with
 | some T=>(match T.d with
   | .slice e=>bC (Nat.ble (nat_lit 1) (xk τ e)) (dI (xk τ e) (ρ x) (ρ i) K) false
   | .arr n e=>bC (Nat.ble (nat_lit 1) (xk τ e)) (rJ n (xk τ e) (ρ x) (ρ i) K) false
   | _=>false)
 | none=>false
noncomputable def gIdx (t:Nat)(x i:bT)(ρ:bT→FV)(K:KF):Bool:=match τ t with
 | some T=>(match T.d with
   | .str=>dQ (ρ x) (ρ i) K
   | _=>qB P (.idx t x i) ρ K)
 | none=>false
noncomputable def VB (n:Nat)(lo hi:Option FV)(K:Nat→Nat→Bool):Bool:=match lo,hi with
 | none,none=>K (nat_lit 0) n
 | some i,none=>uS i fun a=>bC (Nat.ble a n) (K a n) false
 | none,some j=>uS j fun b=>bC (Nat.ble b n) (K (nat_lit 0) b) false
 | some i,some j=>uS i fun a=>uS j fun b=>bC (Nat.ble a b) (bC (Nat.ble b n) (K a b) false) false
noncomputable def JI (z:Nat)(x:FV)(lo hi:Option FV)(K:KF):Bool:=match x with
 | .sl o g off n z'=>bC (Nat.beq z' z) (VB n lo hi fun a b=>fN (Nat.add off (Nat.mul a z)) fun off=>fN (Nat.sub b a) fun n=>K (.sl o g off n z)) false
 | .n t _=>bC (Nat.beq t (nat_lit 3)) (VB (nat_lit 0) lo hi fun _ _=>K (.n (nat_lit 3) (nat_lit 0))) false
 | _=>false
noncomputable def xJ (n z:Nat)(x:FV)(lo hi:Option FV)(s:GS)(K:KF):Bool:=match x with
 | .p o g off=>Df (s.t.get o) g fun _ _ n' _ _ _=>bC (Nat.ble (Nat.add off (Nat.mul n z)) n') (VB n lo hi fun a b=>fN (Nat.add off (Nat.mul a z)) fun off=>fN (Nat.sub b a) fun n=>K (.sl o g off n z)) false
 | _=>false
noncomputable def gSlc (t:Nat)(x:bT)(lo hi:Option bT)(ρ:bT→FV)(s:GS)(K:KF):Bool:=match τ t with
 | some T=>(match T.d with
   | .str=>iq (ρ x) (lo.map ρ) (hi.map ρ) K
   | .slice e=>bC (Nat.ble (nat_lit 1) (xk τ e)) (JI (xk τ e) (ρ x) (lo.map ρ) (hi.map ρ) K) false
   | .arr n e=>bC (Nat.ble (nat_lit 1) (xk τ e)) (xJ n (xk τ e) (ρ x) (lo.map ρ) (hi.map ρ) s K) false
   | _=>false)
 | none=>false
noncomputable def VD (t:Nat)(x:bT)(ρ:bT→FV)(s:GS)(K:KF):Bool:=match τ t with
 | some T=>bC T.d.agg (cO T.size (ρ x) s K) (ah (ρ x) s K)
 | none=>false
noncomputable def gMki (t:Nat)(x:bT)(ρ:bT→FV)(K:KF):Bool:=match τ t with
 | some ⟨.rO _,_,_,_,_,_,_⟩=>false
 | some _=>K (.c (nat_lit 2) t [ρ x])
 | none=>false
noncomputable def setF (v:FV):List FV→Nat→List FV:=List.rec (motive:=fun _=>Nat→List FV) (fun _=>[]) (fun a l ih k=>Nat.rec (motive:=fun _=>List FV) (v :: l) (fun k _=>a :: ih k) k)
noncomputable def VE (place:Nat→Option (Nat×Nat))(K:List FV→List FV→Bool):List (Nat×FV)→List FV→List FV→Bool:=List.rec (motive:=fun _=>List FV→List FV→Bool) (fun cs os=>K cs os) (fun p _ ih cs os=>match place p.1 with
 | some (off,size)=>bC (Nat.beq size (nat_lit 1)) (bC (Nat.ble (Nat.succ off) cs.length) (ih (setF p.2 cs off) (p.2 :: os)) false) false
 | none=>false)
noncomputable def ones1 (place:Nat→Option (Nat×Nat)):List (Nat×bT)→Bool:=List.rec (motive:=fun _=>Bool) true (fun p _ ih=>match place p.1 with
 | some (_,size)=>bC (Nat.beq size (nat_lit 1)) ih false
 | none=>false)
noncomputable def bD (os:List FV)(B:Bool):Bool:=bC (jQ os) B false
noncomputable def MC (t:Nat)(ps:List (Nat×bT))(ρ:bT→FV)(K:KF):Bool:=match τ t with
 | some T=>(match T.d with
   | .st fs=>bC (bC (allT τ fs) (bC (vw T.zero.cells) (ones1 (fun i=>(fs[i]?).bind fun f=>(τ f.2.1).map fun F=>(f.1,F.size)) ps) false) false)
    (VE (fun i=>(fs[i]?).bind fun f=>(τ f.2.1).map fun F=>(f.1,F.size)) (fun cs os=>bD os (K (.c (nat_lit 0) (nat_lit 0) cs))) (ps.map fun q=>(q.1,ρ q.2)) (bV T.zero.cells) [])
    (qB P (.build t ps) ρ K)
   | _=>qB P (.build t ps) ρ K)
 | none=>false
noncomputable def gMkf (f:Fn)(a c:List bT)(ρ:bT→FV)(K:KF):Bool:=match f with
 | .func k=>K (.c (nat_lit 3) k [.c (nat_lit 0) (nat_lit 0) (a.map ρ),.c (nat_lit 0) (nat_lit 0) (c.map ρ)])
 | _=>false
noncomputable def gCvp (b:Bool)(t1 t2:Nat)(x:bT)(ρ:bT→FV)(s:GS)(K:KF):Bool:=match τ t1,τ t2 with
 | some A,some B=>(match A.d,B.d,b with
   | _,.int k,true=>dH (tg k) (md k) (ρ x) K
   | .slice e,.str,false=>bC (Jr τ e) (Dk (ρ x) s K) false
   | _,_,_=>false)
 | _,_=>false
noncomputable def xK (op:dM)(ρ:bT→FV)(s:GS)(K:KF):Bool:=match op with
 | .mv x=>K (ρ x)
 | .pick c a b=>aZ (ρ c) (ρ a) (ρ b) K
 | .load t x=>VD τ t x ρ s K
 | .bin op t x y=>gBin P τ op t x y ρ K
 | .un op x=>gUn P op x ρ K
 | .len t x=>gLen P τ t x ρ K
 | .mF t x f=>gFad τ t x f ρ K
 | .J9 t x f=>gFld τ t x f ρ K
 | .iF t x i=>gIad τ t x i ρ K
 | .idx t x i=>gIdx P τ t x i ρ K
 | .ext x i=>b_ i (ρ x) K
 | .fF x=>au (ρ x) K
 | .qG t x=>gMki τ t x ρ K
 | .rQ f a c=>gMkf f a c ρ K
 | .slc t x l h=>gSlc τ t x l h ρ s K
 | .build t ps=>MC P τ t ps ρ K
 | .wu b t1 t2 x=>gCvp τ b t1 t2 x ρ s K
 | op=>qB P op ρ K
end
section
variable {P:Program} {τ:jc} (bU:τ.Ok P) {ρ:bT→FV} {K:KF} {s:GS} {σ:St}
def jX (P:Program)(ρ:bT→FV)(op:dM)(σ:St)(K:KF):Prop:=∃v:FV,eY P (fun o=>(ρ o).av) op σ=some (v.av,σ)∧K v=true
theorem Dl {o:Option AV} {K:KF} (hk:eu o K=true):∃v:FV,o=some v.av∧K v=true:=by
 unfold eu at hk
 split at hk
 ·rename_i v
  obtain⟨h3,h4⟩:=aT hk
  exact⟨_,by rw [kW v h3],h4⟩
 ·cases hk
theorem jM {op:dM} (hk:qB P op ρ K=true):jX P ρ op σ K:=by
 have hm:∀l:Option bT,(l.map ρ).map FV.av=l.map (fun o=>(ρ o).av):=fun l=>by cases l <;> rfl
 unfold qB at hk
 split at hk
 all_goals first | cases hk | (obtain⟨v,h1,h2⟩:=Dl hk;refine⟨v,?_,h2⟩;simp only [eY])
 ·rw [h1];rfl
 ·rw [h1];rfl
 ·rw [h1];rfl
 ·rw [List.map_map] at h1
  rw [show (fun q:Nat×bT=>(q.1,(ρ q.2).av))=(fun q:Nat×FV=>(q.1,q.2.av)) ∘ (fun q=>(q.1,ρ q.2)) from rfl,h1];rfl
 ·rw [h1];rfl
 ·rw [h1];rfl
 ·rw [List.map_map] at h1
  rw [show (fun o=>(ρ o).av)=FV.av ∘ ρ from rfl,h1];rfl
 ·rw [hm] at h1;rw [h1];rfl
theorem iK {op:BinOp} {t:Nat} {x y:bT} (h:∃v:FV,gU P op t (ρ x).av (ρ y).av (x.isC || y.isC)=some v.av∧K v=true):jX P ρ (.bin op t x y) σ K:=by
 obtain⟨v,h1,h2⟩:=h
 exact⟨v,by simp only [eY];rw [h1];rfl,h2⟩
theorem iH {op:BinOp} {t:Nat} {k:IntKind} {x y:AV} {c:Bool} {a b:Int} {r:Option AV} (h1:x= .i k a)(h2:y= .i k b)(h3:jS op k a b=r)(ho:op≠.shl∧op≠.shr):gU P op t x y c=r:=by
 subst h1 h2 h3
 cases op <;> first | (simp only [gU,if_true];done) | (exfalso;exact ho.1 rfl) | (exfalso;exact ho.2 rfl)
theorem VF {k:IntKind} {op:BinOp} {t:Nat} {x y:bT} (hk:Vz P k op t x y ρ K=true):jX P ρ (.bin op t x y) σ K:=by
 unfold Vz at hk
 split at hk
 case h_17=>exact jM hk
 case h_15=>
  obtain⟨a,q,b,h1,h2,v,h3,h4⟩:=shl_ok hk
  exact iK ⟨v,by rw [h1,h2];simp only [gU];exact h3,h4⟩
 case h_16=>
  obtain⟨a,q,b,h1,h2,v,h3,h4⟩:=shr_ok hk
  exact iK ⟨v,by rw [h1,h2];simp only [gU];exact h3,h4⟩
 case h_1=>obtain⟨a,b,h1,h2,v,h3,h4⟩:=add_ok hk;exact iK ⟨v,iH h1 h2 h3 (by decide),h4⟩
 case h_2=>obtain⟨a,b,h1,h2,v,h3,h4⟩:=sub_ok hk;exact iK ⟨v,iH h1 h2 h3 (by decide),h4⟩
 case h_3=>obtain⟨a,b,h1,h2,v,h3,h4⟩:=mul_ok hk;exact iK ⟨v,iH h1 h2 h3 (by decide),h4⟩
 case h_4=>obtain⟨a,b,h1,h2,v,h3,h4⟩:=and_ok hk;exact iK ⟨v,iH h1 h2 h3 (by decide),h4⟩
 case h_5=>obtain⟨a,b,h1,h2,v,h3,h4⟩:=or_ok hk;exact iK ⟨v,iH h1 h2 h3 (by decide),h4⟩
 case h_6=>obtain⟨a,b,h1,h2,v,h3,h4⟩:=xor_ok hk;exact iK ⟨v,iH h1 h2 h3 (by decide),h4⟩
 case h_7=>obtain⟨a,b,h1,h2,v,h3,h4⟩:=lss_ok hk;exact iK ⟨v,iH h1 h2 h3 (by decide),h4⟩
 case h_8=>obtain⟨a,b,h1,h2,v,h3,h4⟩:=leq_ok hk;exact iK ⟨v,iH h1 h2 h3 (by decide),h4⟩
 case h_9=>obtain⟨a,b,h1,h2,v,h3,h4⟩:=gtr_ok hk;exact iK ⟨v,iH h1 h2 h3 (by decide),h4⟩
 case h_10=>obtain⟨a,b,h1,h2,v,h3,h4⟩:=geq_ok hk;exact iK ⟨v,iH h1 h2 h3 (by decide),h4⟩
 case h_11=>obtain⟨a,b,h1,h2,v,h3,h4⟩:=eqi_ok hk;exact iK ⟨v,iH h1 h2 h3 (by decide),h4⟩
 case h_12=>obtain⟨a,b,h1,h2,v,h3,h4⟩:=nei_ok hk;exact iK ⟨v,iH h1 h2 h3 (by decide),h4⟩
 case h_13=>obtain⟨a,b,h1,h2,v,h3,h4⟩:=quo_ok hk;exact iK ⟨v,iH h1 h2 h3 (by decide),h4⟩
 case h_14=>obtain⟨a,b,h1,h2,v,h3,h4⟩:=rem_ok hk;exact iK ⟨v,iH h1 h2 h3 (by decide),h4⟩
theorem Dn {op:BinOp} {t:Nat} {x y:AV} {c:Bool} {a b:List UInt8} {r:Option AV} (h1:x= .s a)(h2:y= .s b)(h3:DU op a b=r):gU P op t x y c=r:=by
 subst h1 h2 h3
 unfold gU
 cases op <;> rfl
theorem VG {op:BinOp} {t:Nat} {x y:bT} (hk:VA P op t x y ρ K=true):jX P ρ (.bin op t x y) σ K:=by
 unfold VA at hk
 split at hk
 ·obtain⟨a,b,h1,h2,v,h3,h4⟩:=Vm hk
  exact iK ⟨v,Dn h1 h2 h3,h4⟩
 ·obtain⟨a,b,h1,h2,v,h3,h4⟩:=dEqS_ok hk
  exact iK ⟨v,Dn h1 h2 (by rw [h3];rfl),h4⟩
 ·obtain⟨a,b,h1,h2,v,h3,h4⟩:=dNeS_ok hk
  exact iK ⟨v,Dn h1 h2 (by rw [h3];rfl),h4⟩
 ·exact jM hk
include bU
theorem gBin_ok {op:BinOp} {t:Nat} {x y:bT} (hy:∀v,y= .c v→(ρ y).av=v)(hk:gBin P τ op t x y ρ K=true):jX P ρ (.bin op t x y) σ K:=by
 unfold gBin at hk
 split at hk
 ·rename_i T hT
  split at hk
  ·exact VF hk
  ·exact VG hk
  ·split at hk
   ·rename_i v
    cases hb:Nat.beq (isNil v) (zI T.d) with
    | false=>rw [hb,jv] at hk;exact jM hk
    | true=>
      rw [hb,jE] at hk
      have hv:=Nat.eq_of_beq_eq_true hb
      unfold gBinN at hk
      split at hk
      ·obtain⟨b,h1,h2,h3⟩:=nil_eq (bU _ _ hT) (K:=fun b=>kB b K) hk hv
       obtain⟨r,h4,h5⟩:=CY h1
       refine iK ⟨r,?_,h5⟩
       rw [hy v rfl,show (x.isC || (bT.c v).isC)=true by simp [bT.isC],h2,h4]
      ·obtain⟨b,h1,h2,h3⟩:=nil_eq (bU _ _ hT) (K:=fun b=>kN b K) hk hv
       obtain⟨r,h4,h5⟩:=U6 h1
       refine iK ⟨r,?_,h5⟩
       rw [hy v rfl,show (x.isC || (bT.c v).isC)=true by simp [bT.isC],h3,h4]
      ·exact jM hk
   ·exact jM hk
 ·cases hk
omit bU in
theorem gUn_ok {op:UnOp} {x:bT} (hk:gUn P op x ρ K=true):jX P ρ (.un op x) σ K:=by
 unfold gUn at hk
 split at hk
 ·obtain⟨b,h1,v,h2,h3⟩:=dNot_ok hk
  exact⟨v,by simp only [eY,h1,OB,h2];rfl,h3⟩
 ·exact jM hk
theorem gLen_ok {t:Nat} {x:bT} (hk:gLen P τ t x ρ K=true):jX P ρ (.len t x) σ K:=by
 unfold gLen at hk
 split at hk
 ·rename_i T hT
  obtain⟨d,s1,b1,z1,c1,hd1,g1⟩:=T
  simp only at hk
  split at hk
  ·obtain⟨a,h1,v,h2,h3⟩:=Vo hk
   exact⟨v,by simp only [eY,h1,DV,bU _ _ hT,h2];rfl,h3⟩
  ·rcases Vp hk with ⟨o,g,off,n,z,h1,v,h2,h3⟩ | ⟨h1,v,h2,h3⟩
   ·exact⟨v,by simp only [eY,h1,DV,bU _ _ hT,h2];rfl,h3⟩
   ·exact⟨v,by simp only [eY,h1,DV,bU _ _ hT,h2];rfl,h3⟩
  ·exact jM hk
 ·cases hk
theorem gFad_ok {t:Nat} {x:bT} {f:Nat} (hk:gFad τ t x f ρ K=true):jX P ρ (.mF t x f) σ K:=by
 unfold gFad at hk
 split at hk
 ·rename_i T hT
  obtain⟨d,s1,b1,z1,c1,hd1,g1⟩:=T
  simp only at hk
  split at hk
  ·rename_i fs
   split at hk
   ·rename_i r hr
    obtain⟨h1,hk2⟩:=aT hk
    have h1:0<xk τ r.2.1:=Nat.le_of_ble_eq_true h1
    unfold aG at hk2
    split at hk2
    ·rename_i o g b hx
     refine⟨_,?_,hk2⟩
     simp only [eY,hx,FV.CS,OC,bU _ _ hT,hr,Option.bind_some]
     rw [if_pos (by rw [mG bU h1];exact h1)];rfl
    ·cases hk2
   ·cases hk
  ·cases hk
 ·cases hk
theorem gFld_ok {t:Nat} {x:bT} {f:Nat} (hk:gFld τ t x f ρ K=true):jX P ρ (.J9 t x f) σ K:=by
 unfold gFld at hk
 split at hk
 ·rename_i T hT
  obtain⟨d,s1,b1,z1,c1,hd1,g1⟩:=T
  simp only at hk
  split at hk
  ·rename_i fs
   split at hk
   ·rename_i r hr
    split at hk
    ·rename_i F hF
     cases ha:F.d.agg with
     | true=>
       rw [ha,jE] at hk
       unfold dFldA at hk
       split at hk
       ·rename_i a l hx
        obtain⟨h1,hk2⟩:=aT hk
        rw [vS,C_,xG] at hk2
        refine⟨_,?_,hk2⟩
        have h1:r.1+F.size≤l.length:=Nat.le_of_ble_eq_true h1
        simp only [eY,hx,oP,KC,bU _ _ hT,hr,Option.bind_some,bU _ _ hF,partOf,ha,if_true,List.length_map]
        rw [if_pos h1,List.map_take,List.map_drop];rfl
       ·cases hk
     | false=>
       rw [ha,jv] at hk
       unfold Di at hk
       split at hk
       ·rename_i a l hx
        obtain⟨v,h1,h2⟩:=Hr _ _ hk
        refine⟨v,?_,h2⟩
        simp only [eY,hx,oP,KC,bU _ _ hT,hr,Option.bind_some,bU _ _ hF,partOf,ha,Bool.false_eq_true,if_false,List.getElem?_map,h1,Option.map_some]
       ·cases hk
    ·cases hk
   ·cases hk
  ·cases hk
 ·cases hk
theorem gIad_ok {t:Nat} {x i:bT} (hk:gIad τ t x i ρ K=true):jX P ρ (.iF t x i) σ K:=by
 unfold gIad at hk
 split at hk
 ·rename_i T hT
  obtain⟨d,s1,b1,z1,c1,hd1,g1⟩:=T
  simp only at hk
  split at hk
  ·rename_i e
   obtain⟨h1,hk2⟩:=aT hk
   have h1:0<xk τ e:=Nat.le_of_ble_eq_true h1
   have hz:=mG bU h1
   unfold dI at hk2
   split at hk2
   ·rename_i o g b n z' hx
    obtain⟨h2,hk3⟩:=aT hk2
    obtain⟨q,j,h3,hk4⟩:=jD hk3
    obtain⟨h4,hk5⟩:=aT hk4
    have h2:=Nat.eq_of_beq_eq_true h2
    have h4:j<n:=Nat.le_of_ble_eq_true h4
    refine⟨_,?_,hk5⟩
    simp only [eY,hx,FV.xw,h3,KD,bU _ _ hT]
    rw [if_pos ⟨by rw [hz,h2],by omega,by omega,by omega⟩,h2]
    simp [FV.CS]
   ·cases hk2
  ·rename_i n e
   obtain⟨h1,hk2⟩:=aT hk
   have h1:0<xk τ e:=Nat.le_of_ble_eq_true h1
   have hz:=mG bU h1
   unfold rJ at hk2
   split at hk2
   ·rename_i o g b hx
    obtain⟨q,j,h3,hk4⟩:=jD hk2
    obtain⟨h4,hk5⟩:=aT hk4
    have h4:j<n:=Nat.le_of_ble_eq_true h4
    refine⟨_,?_,hk5⟩
    simp only [eY,hx,FV.CS,h3,KD,bU _ _ hT]
    rw [if_pos ⟨by rw [hz];exact h1,by omega,by omega⟩,hz]
    simp
   ·cases hk2
  ·cases hk
 ·cases hk
theorem gIdx_ok {t:Nat} {x i:bT} (hk:gIdx P τ t x i ρ K=true):jX P ρ (.idx t x i) σ K:=by
 unfold gIdx at hk
 split at hk
 ·rename_i T hT
  obtain⟨d,s1,b1,z1,c1,hd1,g1⟩:=T
  simp only at hk
  split at hk
  ·obtain⟨a,q,j,h1,h2,b,h3,v,h4,h5⟩:=Vq hk
   refine⟨v,?_,h5⟩
   simp only [eY,h1,h2,KE,bU _ _ hT]
   rw [if_pos (by omega),Int.toNat_natCast,h3,h4];rfl
  ·exact jM hk
 ·cases hk
omit bU in
theorem Hu {n:Nat} {lo hi:Option FV} {K:Nat→Nat→Bool} (hk:VB n lo hi K=true):∃a b,fG n n (lo.map FV.av) (hi.map FV.av)=some (a,b)∧a≤b∧b≤n∧K a b=true:=by
 unfold VB at hk
 split at hk
 ·exact⟨0,n,by simp [fG,Ky,Kz],Nat.zero_le _,Nat.le_refl _,hk⟩
 ·obtain⟨q,a,h1,hk2⟩:=jD hk
  obtain⟨h2,hk3⟩:=aT hk2
  have h2:a≤n:=Nat.le_of_ble_eq_true h2
  refine⟨a,n,?_,h2,Nat.le_refl _,hk3⟩
  simp only [Option.map_some,Option.map_none,h1,fG,Ky,Kz,Option.bind_some]
  rw [if_pos (by omega)];simp
 ·obtain⟨q,b,h1,hk2⟩:=jD hk
  obtain⟨h2,hk3⟩:=aT hk2
  have h2:b≤n:=Nat.le_of_ble_eq_true h2
  refine⟨0,b,?_,Nat.zero_le _,h2,hk3⟩
  simp only [Option.map_some,Option.map_none,h1,fG,Ky]
  rw [if_pos (by omega)];simp [Kz]
 ·obtain⟨q,a,h1,hk2⟩:=jD hk
  obtain⟨q',b,h1',hk3⟩:=jD hk2
  obtain⟨h2,hk4⟩:=aT hk3
  obtain⟨h3,hk5⟩:=aT hk4
  have h2:a≤b:=Nat.le_of_ble_eq_true h2
  have h3:b≤n:=Nat.le_of_ble_eq_true h3
  refine⟨a,b,?_,h2,h3,hk5⟩
  simp only [Option.map_some,h1,h1',fG,Ky]
  rw [if_pos (by omega)]
  simp only [Option.bind_some,Kz]
  rw [if_pos (by omega)];simp
theorem gSlc_ok (h:s.Is σ) {t:Nat} {x:bT} {lo hi:Option bT} (hk:gSlc τ t x lo hi ρ s K=true):jX P ρ (.slc t x lo hi) σ K:=by
 have hm:∀l:Option bT,(l.map ρ).map FV.av=l.map (fun o=>(ρ o).av):=fun l=>by cases l <;> rfl
 unfold gSlc at hk
 split at hk
 ·rename_i T hT
  obtain⟨d,s1,b1,z1,c1,hd1,g1⟩:=T
  simp only at hk
  split at hk
  ·obtain⟨a,h1,r,h2,h3⟩:=Vr hk
   rw [hm,hm] at h2
   refine⟨r,?_,h3⟩
   simp only [eY,h1,zO,bU _ _ hT]
   rw [h2];rfl
  ·rename_i e
   obtain⟨h1,hk2⟩:=aT hk
   have h1:0<xk τ e:=Nat.le_of_ble_eq_true h1
   have hz:=mG bU h1
   unfold JI at hk2
   split at hk2
   ·rename_i o g off n z' hx
    obtain⟨h2,hk3⟩:=aT hk2
    have h2:=Nat.eq_of_beq_eq_true h2
    obtain⟨a,b,h3,_,_,hk4⟩:=Hu hk3
    rw [kT,kT] at hk4
    rw [hm,hm] at h3
    refine⟨_,?_,hk4⟩
    simp only [eY,hx,FV.xw,zO,bU _ _ hT]
    rw [if_pos ⟨by rw [hz,h2],by omega⟩,h3,h2];rfl
   ·rename_i t' x' hx
    obtain⟨h2,hk3⟩:=aT hk2
    have h2:t'= 3:=Nat.eq_of_beq_eq_true h2
    obtain⟨a,b,h3,_,_,hk4⟩:=Hu hk3
    rw [hm,hm] at h3
    refine⟨_,?_,hk4⟩
    simp only [eY,hx,zO,bU _ _ hT]
    rw [h2,show FV.av (.n 3 x')= .sl0 from rfl]
    simp only
    rw [if_pos (by rw [hz];exact h1),h3];rfl
   ·cases hk2
  ·rename_i n e
   obtain⟨h1,hk2⟩:=aT hk
   have h1:0<xk τ e:=Nat.le_of_ble_eq_true h1
   have hz:=mG bU h1
   unfold xJ at hk2
   split at hk2
   ·rename_i o g off hx
    obtain⟨ro,e',n',m,d,t',cs,q1,q2,q3⟩:=lX h hk2
    obtain⟨h2,hk3⟩:=aT q3
    have h2:off+n*xk τ e≤n':=Nat.le_of_ble_eq_true h2
    obtain⟨a,b,h3,_,_,hk4⟩:=Hu hk3
    rw [kT,kT] at hk4
    rw [hm,hm] at h3
    refine⟨_,?_,hk4⟩
    simp only [eY,hx,FV.CS,zO,bU _ _ hT]
    rw [hz,if_pos h1,jP q1]
    simp only [Option.bind_some]
    rw [if_pos (by rw [q2.len];exact h2),h3];rfl
   ·cases hk2
  ·cases hk
 ·cases hk
theorem VH (h:s.Is σ) {t:Nat} {x:bT} (hk:VD τ t x ρ s K=true):jX P ρ (.load t x) σ K:=by
 unfold VD at hk
 split at hk
 ·rename_i T hT
  cases ha:T.d.agg with
  | true=>
    rw [ha,jE] at hk
    obtain⟨v,h1,h2⟩:=E_ h ha hk
    exact⟨v,by simp only [eY,bU _ _ hT,h1];rfl,h2⟩
  | false=>
    rw [ha,jv] at hk
    obtain⟨v,h1,h2⟩:=E8 h ha hk
    exact⟨v,by simp only [eY,bU _ _ hT,h1];rfl,h2⟩
 ·cases hk
omit bU in
theorem Ol (v:FV):∀(l:List FV) (k:Nat),(setF v l k).map FV.av=(l.map FV.av).set k v.av
 | [],k=>rfl
 | a :: l,0=>rfl
 | a :: l,k+1=>by
   show (a :: setF v l k).map FV.av=_
   rw [List.map_cons,Ol v l k,List.map_cons,List.set_cons_succ]
omit bU in
theorem JJ {place:Nat→Option (Nat×Nat)} {K:List FV→List FV→Bool} :∀(ps:List (Nat×FV)) (cs os:List FV) (_:VE place K ps cs os=true),∃cs' os',K cs' os'= true∧(jQ os'= true→jQ os=true∧kE place (cs.map FV.av) (ps.map fun q=>(q.1,q.2.av))=some (cs'.map FV.av))
 | [],cs,os,hk=>⟨cs,os,hk,fun ho=>⟨ho,rfl⟩⟩
 | (i,v) :: ps,cs,os,hk=>by
   have hk':(match place i with
     | some (off,size)=>bC (Nat.beq size 1) (bC (Nat.ble (off+1) cs.length) (VE place K ps (setF v cs off) (v :: os)) false) false
     | none=>false)=true:=hk
   split at hk'
   ·rename_i off size hp
    obtain⟨h1,hk2⟩:=aT hk'
    obtain⟨h2,hk3⟩:=aT hk2
    have h1:=Nat.eq_of_beq_eq_true h1
    have h2:off+1≤cs.length:=Nat.le_of_ble_eq_true h2
    obtain⟨cs',os',q1,q2⟩:=JJ ps _ _ hk3
    refine⟨cs',os',q1,fun ho=>?_⟩
    obtain⟨r1,r2⟩:=q2 ho
    obtain⟨w1,w2⟩:=lQ r1
    refine⟨w2,?_⟩
    simp only [List.map_cons,kE,hp]
    obtain⟨v1,v2⟩:=oQ w1
    rw [v2,if_pos ⟨h1.symm,by rw [List.length_map];omega,by simp [v1]⟩]
    rw [Ol] at r2
    exact r2
   ·cases hk'
theorem Qn {t:Nat} {ps:List (Nat×bT)} (hk:MC P τ t ps ρ K=true):jX P ρ (.build t ps) σ K:=by
 unfold MC at hk
 split at hk
 ·rename_i T hT
  obtain⟨d,s1,b1,z1,c1,hd1,g1⟩:=T
  simp only at hk
  split at hk
  ·rename_i fs
   cases hc:bC (allT τ fs) (bC (vw z1.cells) (ones1 (fun i=>(fs[i]?).bind fun f=>(τ f.2.1).map fun F=>(f.1,F.size)) ps) false) false with
   | false=>rw [hc,jv] at hk;exact jM hk
   | true=>
     rw [hc,jE] at hk
     obtain⟨h1,h2⟩:=aT hc
     obtain⟨h2,_⟩:=aT h2
     obtain⟨cs',os',q1,q2⟩:=JJ _ _ _ hk
     obtain⟨q3,q4⟩:=aT q1
     obtain⟨_,q5⟩:=q2 q3
     refine⟨_,?_,q4⟩
     rw [iU _ h2,List.map_map] at q5
     simp only [eY,kL,bU _ _ hT]
     rw [if_pos (GU bU fs h1)]
     have q6:=CB (q:=fun i=>(fs[i]?).bind fun f=>(aH P f.2.1).map fun F=>(f.1,F.size)) (fun i r hi=>by
      rw [Option.bind_eq_some_iff] at hi ⊢
      obtain⟨f,hf,hi⟩:=hi
      rw [Option.map_eq_some_iff] at hi
      obtain⟨F,hF,rfl⟩:=hi
      exact⟨f,hf,by rw [bU _ _ hF];rfl⟩) _ _ _ q5
     have e1:(ps.map fun q=>(q.1,(ρ q.2).av))=ps.map ((fun q:Nat×FV=>(q.1,q.2.av)) ∘ fun q=>(q.1,ρ q.2)):=rfl
     rw [e1,q6]
     rw [oP];rfl
  ·exact jM hk
 ·cases hk
theorem gCvp_ok (h:s.Is σ) {b:Bool} {t1 t2:Nat} {x:bT} (hk:gCvp τ b t1 t2 x ρ s K=true):jX P ρ (.wu b t1 t2 x) σ K:=by
 unfold gCvp at hk
 split at hk
 ·rename_i A B hA hB
  obtain⟨d1,s1,b1,z1,c1,hd1,g1⟩:=A
  obtain⟨d2,s2,b2,z2,c2,hd2,g2⟩:=B
  simp only at hk
  split at hk
  ·obtain⟨q,n,h1,v,h2,h3⟩:=Vw hk
   refine⟨v,?_,h3⟩
   simp only [eY,FH,bU _ _ hB,jV,bU _ _ hA,h1,h2];rfl
  ·obtain⟨h1,hk2⟩:=aT hk
   obtain⟨_,_,_,_,_,_,he⟩:=uH bU h1
   obtain⟨v,h2,h3⟩:=Fe (bU _ _ hA) (bU _ _ hB) he h hk2
   refine⟨v,?_,h3⟩
   simp only [eY,FH,bU _ _ hB,h2];rfl
  ·cases hk
 ·cases hk
theorem xM (h:s.Is σ) {op:dM} (hc:∀v,bT.c v∈op.bK→(ρ (.c v)).av=v)(hk:xK P τ op ρ s K=true):jX P ρ op σ K:=by
 unfold xK at hk
 split at hk
 ·exact⟨_,rfl,hk⟩
 ·obtain⟨v,h1,h2⟩:=JE hk
  exact⟨v,by simp only [eY,h1];rfl,h2⟩
 ·exact VH bU h hk
 ·rename_i op t x y
  exact gBin_ok bU (fun v hv=>by rw [hv];exact hc v (by rw [hv];simp [dM.bK])) hk
 ·exact gUn_ok hk
 ·exact gLen_ok bU hk
 ·exact gFad_ok bU hk
 ·exact gFld_ok bU hk
 ·exact gIad_ok bU hk
 ·exact gIdx_ok bU hk
 ·rename_i x i
  obtain⟨vs,h1,v,h2,h3⟩:=dExt_ok hk
  exact⟨v,by simp only [eY,h1,h2];rfl,h3⟩
 ·rename_i x
  unfold au at hk
  split at hk
  ·rename_i hx;exact⟨_,by simp only [eY,hx,FV.CS,KI];rfl,hk⟩
  ·rename_i hx;exact⟨_,by simp only [eY,hx,xA,KI];rfl,hk⟩
  ·rename_i hx;exact⟨_,by simp only [eY,hx];rfl,hk⟩
  ·cases hk
 ·rename_i t x
  unfold gMki at hk
  split at hk
  ·cases hk
  ·rename_i T hn hT
   refine⟨_,?_,hk⟩
   simp only [eY,bU _ _ hT]
   rw [xA]
  ·cases hk
 ·unfold gMkf at hk
  split at hk
  ·refine⟨_,?_,hk⟩
   simp only [eY]
   rw [FV.CU,FV.tH]
   simp only [List.map_cons,List.map_nil,oP,List.map_map];rfl
  ·cases hk
 ·exact gSlc_ok bU h hk
 ·exact Qn bU hk
 ·exact gCvp_ok bU h hk
 ·exact jM hk
end
end Go.dX
namespace Go.dX
abbrev Rn:=Nat→List FV→GS→KS→Bool
section
variable (X:Ctx)(τ:jc)(run:Rn)
noncomputable def bQ (t:Nat)(s:GS)(K:KS):Bool:=match τ t with
 | some T=>bC (vw T.zero.cells) (newL t (bV T.zero.cells) s fun o s'=>K (.p o (nat_lit 0) (nat_lit 0)) s') false
 | none=>false
noncomputable def yS (x:FV)(K:List FV→Bool):Bool:=match x with
 | .c 0 _ l=>K l
 | x=>K [x]
noncomputable def fP (t:Nat)(x:FV)(s:GS)(K:KS):Bool:=yS x fun l=>newL t l s fun o s'=>K (.p o (nat_lit 0) (nat_lit 0)) s'
noncomputable def MF (t:Nat)(x y:bT)(ρ:bT→FV)(s:GS)(K:KS):Bool:=match τ t with
 | some T=>bC T.d.agg (bJ T.size (ρ x) (ρ y) s fun s'=>K (.c (nat_lit 1) (nat_lit 0) []) s') (bC (Nat.beq T.size (nat_lit 1)) (aS (ρ x) (ρ y) s fun s'=>K (.c (nat_lit 1) (nat_lit 0) []) s') false)
 | none=>false
noncomputable def dOfS (e:Nat)(x:FV)(s:GS)(K:KS):Bool:=match x with
 | .s n v=>Hg n v fun l=>newT e l s fun o s'=>K (.sl o (nat_lit 0) (nat_lit 0) n (nat_lit 1)) s'
 | _=>false
noncomputable def isSt:FV→Bool:=FV.rec (motive_1:=fun _=>Bool) (motive_2:=fun _=>PUnit) (fun _ _=>false) (fun _ _ _=>false) (fun _ _ _ _ _=>false) (fun _ _=>true) (fun _ _ _ _=>false) ⟨⟩ (fun _ _ _ _=>⟨⟩)
noncomputable def VI (a b:Nat)(x:bT)(ρ:bT→FV)(s:GS)(K:KS):Bool:=match τ a,τ b with
 | some A,some B=>(match A.d,B.d with
   | _,.int k=>dH (tg k) (md k) (ρ x) fun v=>K v s
   | .str,.str=>bC (isSt (ρ x)) (K (ρ x) s) false
   | .str,.slice e=>bC (Jr τ e) (dOfS e (ρ x) s K) false
   | .slice e,.str=>bC (Jr τ e) (Dk (ρ x) s fun v=>K v s) false
   | _,_=>false)
 | _,_=>false
noncomputable def JK (e z b:Nat)(d:List FV)(l c:FV)(s:GS)(K:KS):Bool:=uS l fun l=>uS c fun c=>bC (Nat.ble l c) (bC (bC (Nat.ble c (nat_lit 9223372036854775807)) (Nat.ble (Nat.mul b c) (nat_lit 140737488355328)) false) (fN (Nat.mul c z) fun n=>newD e n z d s fun o s'=>K (.sl o (nat_lit 0) (nat_lit 0) l z) s') false) false
noncomputable def gMks (t:Nat)(l c:bT)(ρ:bT→FV)(s:GS)(K:KS):Bool:=match τ t with
 | some T=>(match T.d with
   | .slice e=>(match τ e with
     | some E=>bC (bC (Nat.ble (nat_lit 1) E.size) (bC (Nat.beq E.zero.cells.length E.size) (bC (vw E.zero.cells) (jQ (bV E.zero.cells)) false) false) false)
       (JK e E.size E.bytes (bV E.zero.cells) (ρ l) (ρ c) s K) false
     | none=>false)
   | _=>false)
 | none=>false
noncomputable def VJ (z:Nat):List (Nat×FV)→List FV→(List FV→Bool)→Bool:=List.rec (motive:=fun _=>List FV→(List FV→Bool)→Bool) (fun cs K=>K cs) (fun p _ ih cs K=>yS p.2 fun ys=>bC (Nat.beq ys.length z) (bC (Nat.ble (Nat.add (Nat.mul p.1 z) z) cs.length) (bC (jQ ys) (fSp (Dc (Oe (Nat.mul p.1 z) cs) (Dc ys (JH (Nat.add (Nat.mul p.1 z) z) cs))) fun cs=>ih cs K) false) false) false)
noncomputable def eX (e z n:Nat)(zs:List FV)(ps:List (Nat×FV))(s:GS)(K:KS):Bool:=VJ z ps zs fun cs=>newT e cs s fun o s'=>K (.sl o (nat_lit 0) (nat_lit 0) n z) s'
noncomputable def gBsl (t n:Nat)(ps:List (Nat×bT))(ρ:bT→FV)(s:GS)(K:KS):Bool:=match τ t with
 | some T=>(match T.d with
   | .slice e=>(match τ e with
     | some E=>bC (bC (Nat.ble (nat_lit 1) E.size) (bC (Nat.beq E.zero.cells.length E.size) (bC (vw (dN E.zero.cells n)) (Nat.ble (Nat.mul n E.size) (nat_lit 16777216)) false) false) false)
       (eX e E.size n (bV (dN E.zero.cells n)) (ps.map fun q=>(q.1,ρ q.2)) s K) false
     | none=>false)
   | _=>false)
 | none=>false
noncomputable def gApp (t:Nat)(x y:bT)(ρ:bT→FV)(s:GS)(K:KS):Bool:=match τ t with
 | some T=>(match T.d with
   | .slice e=>(match τ e with
     | some E=>bC (bC (Nat.ble (nat_lit 1) E.size) (bC (Nat.beq E.zero.cells.length E.size) (Nat.ble (nat_lit 1) E.bytes) false) false) (mO e E.size E.bytes (ρ x) (ρ y) s K) false
     | none=>false)
   | _=>false)
 | none=>false
noncomputable def gCopy (t:Nat)(x y:bT)(ρ:bT→FV)(s:GS)(K:KS):Bool:=match τ t with
 | some T=>(match T.d with
   | .slice e=>(match τ e with
     | some E=>Oi E.size (ρ x) (ρ y) s K
     | none=>false)
   | _=>false)
 | none=>false
noncomputable def JL (x:FV)(s:GS)(K:KS):Bool:=match x with
 | .p o g 0=>Option.rec (motive:=fun _=>Bool) false (fun f=>GO.rec (motive:=fun _=>Bool) (fun _ _ _ _ _ _ _=>false) (fun g' n v pos=>bC (Nat.beq g g') (bC (Nat.ble (Nat.succ pos) n) (bC (Nat.ble n (nat_lit 9223372036854775807)) (fN (Nat.mod (Nat.shiftRight v (Nat.mul (nat_lit 8) pos)) (nat_lit 256)) fun b=>bC (Nat.ble b (nat_lit 127)) (fN (Nat.succ pos) fun pos'=>s.put o (.iter g' n v pos') fun s'=>K (.c (nat_lit 1) (nat_lit 0) [.n (nat_lit 1) (nat_lit 1),.n (nat_lit 36893488147419103233) pos,.n (nat_lit 8589934593) b]) s') false) false) (K (.c (nat_lit 1) (nat_lit 0) [.n (nat_lit 1) (nat_lit 0)]) s)) false) (fun _ _=>false) false (fun _ _ _ _=>false) f) (s.t.get o)
 | _=>false
noncomputable def MG (x:FV)(s:GS)(K:KS):Bool:=match x with
 | .s n v=>s.new (.iter (nat_lit 0) n v (nat_lit 0)) fun o s'=>K (.p o (nat_lit 0) (nat_lit 0)) s'
 | _=>false
noncomputable def gRng (t:Nat)(x:bT)(ρ:bT→FV)(s:GS)(K:KS):Bool:=match τ t with
 | some T=>(match T.d with
   | .str=>MG (ρ x) s K
   | _=>false)
 | none=>false
noncomputable def JM (d:AD)(x y:FV):Option Bool:=match d,x,y with
 | .str,.s n v,.s m w=>some (Vh n v m w)
 | .int k,.n t a,.n t' b=>bC (Nat.beq t (tg k)) (bC (Nat.beq t' (tg k)) (some (Nat.beq (Nat.mod a (md k)) (Nat.mod b (md k)))) none) none
 | _,_,_=>none
noncomputable def Hw (d:AD)(x:FV):Bool:=match d,x with
 | .str,.s _ _=>true
 | .int k,.n t _=>Nat.beq t (tg k)
 | _,_=>false
noncomputable def JO (d:AD)(k:FV)(A:Nat→FV×FV→Bool)(B:Bool):List (FV×FV)→Nat→Bool:=List.rec (motive:=fun _=>Nat→Bool) (fun _=>B) (fun e _ ih i=>Option.rec (motive:=fun _=>Bool) false (fun b=>bC b (A i e) (ih (Nat.succ i))) (JM d k e.1))
noncomputable def isI (x:FV):Bool:=match x with
 | .n t _=>Nat.beq t (nat_lit 36893488147419103233)
 | _=>false
noncomputable def VK (x:FV)(s:GS)(K:List (FV×FV)→Bool):Bool:=match x with
 | .n t _=>bC (Nat.beq t (nat_lit 6)) (K []) false
 | .c 5 o _=>Option.rec (motive:=fun _=>Bool) false (fun f=>GO.rec (motive:=fun _=>Bool) (fun _ _ _ _ _ _ _=>false) (fun _ _ _ _=>false) (fun g es=>bC (Nat.beq g (nat_lit 0)) (K es) false) false (fun _ _ _ _=>false) f) (s.t.get o)
 | _=>false
noncomputable def oD (d:AD)(ok:Bool)(z x k:FV)(s:GS)(K:KF):Bool:=bC (Hw d k) (VK x s fun es=>JO d k (fun _ e=>bC ok (K (.c (nat_lit 1) (nat_lit 0) [e.2,.n (nat_lit 1) (nat_lit 1)])) (K e.2)) (bC ok (K (.c (nat_lit 1) (nat_lit 0) [z,.n (nat_lit 1) (nat_lit 0)])) (K z)) es (nat_lit 0)) false
noncomputable def VL (t:Nat)(x k:bT)(ok:Bool)(ρ:bT→FV)(s:GS)(K:KF):Bool:=match τ t with
 | some T=>(match T.d with
   | .map kt et=>(match τ kt,τ et with
     | some KT,some E=>bC (Ho E.zero) (oD KT.d ok (vU E.zero) (ρ x) (ρ k) s K) false
     | _,_=>false)
   | _=>false)
 | none=>false
noncomputable def jf (d:AD)(m k v:FV)(s:GS)(K:KS):Bool:=match m with
 | .c 5 o l=>bC (Hw d k) (VK (.c 5 o l) s fun es=>JO d k (fun i _=>fSp (es.set i (k,v)) fun es'=>s.put o (.maps (nat_lit 0) es') fun s'=>K (.c (nat_lit 1) (nat_lit 0) []) s') (fSp (es ++ [(k,v)]) fun es'=>s.put o (.maps (nat_lit 0) es') fun s'=>K (.c (nat_lit 1) (nat_lit 0) []) s') es (nat_lit 0)) false
 | _=>false
noncomputable def gMup (t:Nat)(m k v:bT)(ρ:bT→FV)(s:GS)(K:KS):Bool:=match τ t with
 | some T=>(match T.d with
   | .map kt _=>(match τ kt with
     | some KT=>jf KT.d (ρ m) (ρ k) (ρ v) s K
     | none=>false)
   | _=>false)
 | none=>false
noncomputable def VN (x:FV)(s:GS)(K:KF):Bool:=VK x s fun es=>bC (Nat.ble es.length (nat_lit 9223372036854775807)) (fN es.length fun n=>K (.n (nat_lit 36893488147419103233) n)) false
noncomputable def gMln (t:Nat)(x:bT)(ρ:bT→FV)(s:GS)(K:KF):Bool:=match τ t with
 | some T=>(match T.d with
   | .map _ _=>VN (ρ x) s K
   | _=>false)
 | none=>false
noncomputable def dMkm (x:FV)(s:GS)(K:KS):Bool:=bC (isI x) (s.new (.maps (nat_lit 0) []) fun o s'=>K (.c (nat_lit 5) o []) s') false
noncomputable def Ef (t:Nat)(r:Option bT)(ρ:bT→FV)(s:GS)(K:KS):Bool:=match r with
 | none=>s.new (.maps (nat_lit 0) []) fun o s'=>K (.c (nat_lit 5) o []) s'
 | some x=>(match τ t with
   | some T=>(match T.d with
     | .map _ _=>dMkm (ρ x) s K
     | _=>false)
   | none=>false)
noncomputable def bW (f:FV)(args:List FV)(s:GS)(K:KS):Bool:=match f with
 | .c 3 k [.c 0 _ a,.c 0 _ c]=>fSp (a ++ args ++ c) fun l=>run k l s K
 | _=>false
noncomputable def yT (f:bT)(args:List bT)(ρ:bT→FV)(s:GS)(K:KS):Bool:=match f with
 | .c (.fn (.func k) [] [])=>run k (args.map ρ) s K
 | f=>bW run (ρ f) (args.map ρ) s K
noncomputable def vV (x:FV)(m:String)(args:List FV)(s:GS)(K:KS):Bool:=match x with
 | .c 2 t [v]=>(match X.meth t m v.av with
   | some k=>bC (Ho k.2) (run k.1 (vU k.2 :: args) s K) false
   | none=>false)
 | _=>false
noncomputable def Fg (op:dM)(ρ:bT→FV)(s:GS)(K:KS):Bool:=match op with
 | .alloc t=>bQ τ t s K
 | .box t x=>fP t (ρ x) s K
 | .jo t n ps=>gBsl τ t n ps ρ s K
 | .store t x y=>MF τ t x y ρ s K
 | .conv a b x=>VI τ a b x ρ s K
 | .Kt t l c=>gMks τ t l c ρ s K
 | .rng t x=>gRng τ t x ρ s K
 | .MR x=>JL (ρ x) s K
 | .app t _ x y=>gApp τ t x y ρ s K
 | .copy t x y=>gCopy τ t x y ρ s K
 | .call f args=>yT run f args ρ s K
 | .inv x m args=>vV X run (ρ x) m (args.map ρ) s K
 | .Ei t r=>Ef τ t r ρ s K
 | .Ku t x=>gMln τ t x ρ s fun v=>K v s
 | .mW t m k v=>gMup τ t m k v ρ s K
 | .uN t x k ok=>VL τ t x k ok ρ s fun v=>K v s
 | op=>xK X.P τ op ρ s fun v=>K v s
end
def Rn.Ok (X:Ctx)(run:Rn):Prop:=∀(f:Nat) (args:List FV) (s:GS) (σ:St) (K:KS),s.Is σ→run f args s K=true→∃n,QH (bFn X n f (args.map FV.av) σ) K
def mg (X:Ctx)(ρ:bT→FV)(op:dM)(σ:St)(K:KS):Prop:=∃n,QH (dO X (bFn X n) (fun o=>(ρ o).av) op σ) K
section
variable {X:Ctx} {τ:jc} (bU:τ.Ok X.P) {run:Rn} (hr:run.Ok X) {ρ:bT→FV} {K:KS} {s:GS} {σ:St} (h:s.Is σ)
include h
theorem yU {op:dM} (ho:∀n:Nat,dO X (bFn X n) (fun o=>(ρ o).av) op σ=eY X.P (fun o=>(ρ o).av) op σ)(hp:jX X.P ρ op σ fun v=>K v s):mg X ρ op σ K:=by
 obtain⟨v,h1,h2⟩:=hp
 exact⟨0,v,σ,s,by rw [ho,h1],h,h2⟩
include bU
theorem Qo {t:Nat} (hk:bQ τ t s K=true):mg X ρ (.alloc t) σ K:=by
 unfold bQ at hk
 split at hk
 ·rename_i T hT
  obtain⟨h1,h2⟩:=aT hk
  obtain⟨s',q1,q2⟩:=He h h2
  rw [iU _ h1] at q2
  exact⟨0,_,_,s',by simp only [dO,eY,bU _ _ hT];rfl,q2,q1⟩
 ·cases hk
omit bU in
theorem dBox_ok {t:Nat} {x:bT} (hk:fP t (ρ x) s K=true):mg X ρ (.box t x) σ K:=by
 unfold fP yS at hk
 split at hk
 ·rename_i a l hx
  obtain⟨s',q1,q2⟩:=He h hk
  refine⟨0,_,_,s',?_,q2,q1⟩
  simp only [dO,eY,hx,oP];rfl
 ·have hone:xE (ρ x)=true:=by
   obtain⟨h1,_⟩:=aT hk
   exact(lQ h1).1
  obtain⟨h1,h2⟩:=oQ hone
  obtain⟨s',q1,q2⟩:=He h hk
  refine⟨0,_,_,s',?_,q2,q1⟩
  simp only [dO,eY]
  have e: [ρ x].map FV.av=(ρ x).av.cells:=by rw [h2];rfl
  rw [e]
  split
  ·rename_i e2;rw [e2] at h1;cases h1
  ·rename_i e2;rw [e2] at h1;cases h1
  ·rename_i e2;rw [e2] at h1;cases h1
  ·rfl
theorem Qp {t:Nat} {x y:bT} (hk:MF τ t x y ρ s K=true):mg X ρ (.store t x y) σ K:=by
 unfold MF at hk
 split at hk
 ·rename_i T hT
  cases ha:T.d.agg with
  | true=>
    rw [ha,jE] at hk
    obtain⟨σ',s',h1,h2,h3⟩:=Me h hk
    exact⟨0,_,σ',s',by simp only [dO,eY,bU _ _ hT,h1];rfl,h2,h3⟩
  | false=>
    rw [ha,jv] at hk
    obtain⟨h0,hk2⟩:=aT hk
    obtain⟨σ',s',h1,h2,h3⟩:=Dh h (Nat.eq_of_beq_eq_true h0) hk2
    exact⟨0,_,σ',s',by simp only [dO,eY,bU _ _ hT,h1];rfl,h2,h3⟩
 ·cases hk
theorem VO {a b:Nat} {x:bT} (hk:VI τ a b x ρ s K=true):mg X ρ (.conv a b x) σ K:=by
 unfold VI at hk
 split at hk
 ·rename_i A B hA hB
  obtain⟨d1,s1,b1,z1,c1,hd1,g1⟩:=A
  obtain⟨d2,s2,b2,z2,c2,hd2,g2⟩:=B
  simp only at hk
  split at hk
  ·obtain⟨q,n,h1,v,h2,h3⟩:=Vw hk
   refine⟨0,v,σ,s,?_,h,h3⟩
   simp only [dO,eY,jV,bU _ _ hA,bU _ _ hB,h1,h2]
  ·obtain⟨h1,hk2⟩:=aT hk
   cases hx:ρ x with
   | s n v=>
     rw [hx] at hk2
     exact⟨0,_,σ,s,by simp only [dO,eY,jV,bU _ _ hA,bU _ _ hB,hx,FV.yM],h,hk2⟩
   | _=>rw [hx] at h1;cases h1
  ·rename_i e
   obtain⟨h1,hk2⟩:=aT hk
   obtain⟨_,_,_,_,_,_,he⟩:=uH bU h1
   unfold dOfS at hk2
   split at hk2
   ·rename_i n v hx
    obtain⟨l,q1,q2,q3,q4⟩:=yR n v hk2
    obtain⟨s',r1,r2⟩:=Hf h q1
    refine⟨0,_,_,s',?_,r2,r1⟩
    simp only [dO,eY,jV,bU _ _ hA,bU _ _ hB,hx,FV.yM,he,gK,FV.xw]
    rw [q2];rfl
   ·cases hk2
  ·rename_i e
   obtain⟨h1,hk2⟩:=aT hk
   obtain⟨_,_,_,_,_,_,he⟩:=uH bU h1
   obtain⟨v,h2,h3⟩:=Fe (bU _ _ hA) (bU _ _ hB) he h hk2
   exact⟨0,v,σ,s,h2,h,h3⟩
  ·cases hk
 ·cases hk
theorem gMks_ok {t:Nat} {l c:bT} (hk:gMks τ t l c ρ s K=true):mg X ρ (.Kt t l c) σ K:=by
 unfold gMks at hk
 split at hk
 ·rename_i T hT
  obtain⟨d1,s1,b1,z1,c1,hd1,g1⟩:=T
  simp only at hk
  split at hk
  ·rename_i e
   split at hk
   ·rename_i E hE
    obtain⟨h1,hk2⟩:=aT hk
    obtain⟨h2,h1⟩:=aT h1
    obtain⟨h3,h1⟩:=aT h1
    obtain⟨h4,h5⟩:=aT h1
    unfold JK at hk2
    obtain⟨k1,l',q1,hk3⟩:=jD hk2
    obtain⟨k2,c',q2,hk4⟩:=jD hk3
    obtain⟨q3,hk5⟩:=aT hk4
    obtain⟨q4,hk6⟩:=aT hk5
    rw [kT] at hk6
    have h2:1≤E.size:=Nat.le_of_ble_eq_true h2
    have h3:=Nat.eq_of_beq_eq_true h3
    have q3:l'≤c':=Nat.le_of_ble_eq_true q3
    obtain⟨hc9,q4⟩:=aT q4
    have hc9:c'≤9223372036854775807:=Nat.le_of_ble_eq_true hc9
    have q4:E.bytes*c'≤140737488355328:=Nat.le_of_ble_eq_true q4
    have hlen:(bV E.zero.cells).length=E.size:=by
     have:=congrArg List.length (iU _ h4)
     rw [List.length_map] at this;omega
    have hrep:=eH.rep h5 c'
    rw [hlen,iU _ h4] at hrep
    obtain⟨s',r1,r2⟩:=Og h hrep hk6
    refine⟨0,_,_,s',?_,r2,r1⟩
    simp only [dO,eY,OD,bU _ _ hT,bU _ _ hE,q1,q2]
    rw [if_pos ⟨by omega,h3,by omega,by omega,by omega,by omega⟩]
    simp [FV.xw]
   ·cases hk
  ·cases hk
 ·cases hk
omit h bU in
omit h bU in
theorem Qq {x:FV} {K:List FV→Bool} (hk:yS x K=true):∃l,K l=true∧(jQ l=true→x.av.cells=l.map FV.av):=by
 unfold yS at hk
 split at hk
 ·refine⟨_,hk,fun _=>?_⟩
  rw [oP];rfl
 ·exact⟨_,hk,fun ho=>(oQ (lQ ho).1).2⟩
omit h bU in
theorem JQ {z:Nat} :∀(ps:List (Nat×FV)) (cs:List FV) {K:List FV→Bool} (_:VJ z ps cs K=true),∃cs',K cs'= true∧kE (fun i=>some (i*z,z)) (cs.map FV.av) (ps.map fun q=>(q.1,q.2.av))=some (cs'.map FV.av)
 | [],cs,K,hk=>⟨cs,hk,rfl⟩
 | (i,v) :: ps,cs,K,hk=>by
   have hk':(yS v fun ys=>bC (Nat.beq ys.length z) (bC (Nat.ble (i*z+z) cs.length) (bC (jQ ys) (fSp (Dc (Oe (i*z) cs) (Dc ys (JH (i*z+z) cs))) fun cs=>VJ z ps cs K) false) false) false)=true:=hk
   obtain⟨ys,h1,h2⟩:=Qq hk'
   obtain⟨h3,h1⟩:=aT h1
   obtain⟨h4,h1⟩:=aT h1
   obtain⟨h5,h1⟩:=aT h1
   rw [vS,qV,qV,C_,xG] at h1
   have h3:=Nat.eq_of_beq_eq_true h3
   have h4:i*z+z≤cs.length:=Nat.le_of_ble_eq_true h4
   obtain⟨cs',q1,q2⟩:=JQ ps _ h1
   refine⟨cs',q1,?_⟩
   simp only [List.map_cons,kE]
   rw [h2 h5,if_pos ⟨by rw [List.length_map];exact h3,by rw [List.length_map];exact h4,tV ys h5⟩]
   rw [setCells_eq _ _ _ (by rw [List.length_map,List.length_map,h3];exact h4),List.length_map,h3]
   simp only [List.map_append,List.map_take,List.map_drop] at q2
   exact q2
theorem gBsl_ok {t n:Nat} {ps:List (Nat×bT)} (hk:gBsl τ t n ps ρ s K=true):mg X ρ (.jo t n ps) σ K:=by
 unfold gBsl at hk
 split at hk
 ·rename_i T hT
  obtain⟨d1,s1,b1,z1,c1,hd1,g1⟩:=T
  simp only at hk
  split at hk
  ·rename_i e
   split at hk
   ·rename_i E hE
    obtain⟨h1,hk2⟩:=aT hk
    obtain⟨h2,h1⟩:=aT h1
    obtain⟨h3,h1⟩:=aT h1
    obtain⟨h4,h5⟩:=aT h1
    unfold eX at hk2
    obtain⟨cs',q1,q2⟩:=JQ _ _ hk2
    obtain⟨s',r1,r2⟩:=Hf h q1
    rw [iU _ h4,List.map_map] at q2
    refine⟨0,_,_,s',?_,r2,r1⟩
    simp only [dO,eY,OA,bU _ _ hT,bU _ _ hE]
    rw [if_pos ⟨Nat.le_of_ble_eq_true h2,Nat.eq_of_beq_eq_true h3,Nat.le_of_ble_eq_true h5⟩]
    have e1:(ps.map fun q=>(q.1,(ρ q.2).av))=ps.map ((fun q:Nat×FV=>(q.1,q.2.av)) ∘ fun q=>(q.1,ρ q.2)):=rfl
    rw [e1,q2];rfl
   ·cases hk
  ·cases hk
 ·cases hk
theorem gApp_ok {t:Nat} {b:Bool} {x y:bT} (hk:gApp τ t x y ρ s K=true):mg X ρ (.app t b x y) σ K:=by
 unfold gApp at hk
 split at hk
 ·rename_i T hT
  obtain⟨d1,s1,b1,z1,c1,hd1,g1⟩:=T
  simp only at hk
  split at hk
  ·rename_i e
   split at hk
   ·rename_i E hE
    obtain⟨h1,hk2⟩:=aT hk
    obtain⟨h2,h1⟩:=aT h1
    obtain⟨h3,h4⟩:=aT h1
    exact⟨0,dApp_ok h (bU _ _ hT) (bU _ _ hE) (Nat.le_of_ble_eq_true h2) (Nat.eq_of_beq_eq_true h3) (Nat.le_of_ble_eq_true h4) hk2⟩
   ·cases hk
  ·cases hk
 ·cases hk
theorem VP {t:Nat} {x y:bT} (hk:gCopy τ t x y ρ s K=true):mg X ρ (.copy t x y) σ K:=by
 unfold gCopy at hk
 split at hk
 ·rename_i T hT
  obtain⟨d1,s1,b1,z1,c1,hd1,g1⟩:=T
  simp only at hk
  split at hk
  ·rename_i e
   split at hk
   ·rename_i E hE
    exact⟨0,Vt h (bU _ _ hT) (bU _ _ hE) hk⟩
   ·cases hk
  ·cases hk
 ·cases hk
theorem gRng_ok {t:Nat} {x:bT} (hk:gRng τ t x ρ s K=true):mg X ρ (.rng t x) σ K:=by
 unfold gRng at hk
 split at hk
 ·rename_i T hT
  obtain⟨d1,s1,b1,z1,c1,hd1,g1⟩:=T
  simp only at hk
  split at hk
  ·unfold MG at hk
   split at hk <;> first | cases hk | skip
   rename_i n v hx
   obtain⟨s',q1,q2⟩:=GS.tC h (f:=.iter 0 n v 0) (a:=⟨0,false,.iter (g_ n v) 0⟩) rfl hk
   exact⟨0,_,_,s',by simp only [dO,eY,OE,bU _ _ hT,hx,FV.yM];rfl,q2,q1⟩
  ·cases hk
 ·cases hk
omit bU in
theorem dNxt_ok {x:bT} (hk:JL (ρ x) s K=true):mg X ρ (.MR x) σ K:=by
 unfold JL at hk
 split at hk
 ·rename_i o g hx
  cases ho:s.t.get o with
  | none=>rw [ho] at hk;cases hk
  | some f=>
    rw [ho] at hk
    cases f with
    | iter g' n v pos=>
      obtain⟨h1,hk2⟩:=aT hk
      have h1:=Nat.eq_of_beq_eq_true h1
      obtain⟨a,h2,rfl⟩:=h.2 _ _ ho
      have hx':(ρ x).av= .p o g 0:=by rw [hx];rfl
      cases hp:Nat.ble (Nat.succ pos) n with
      | true=>
        rw [hp,jE] at hk2
        obtain⟨h3,hk3⟩:=aT hk2
        rw [kT] at hk3
        obtain⟨h4,hk4⟩:=aT hk3
        rw [kT] at hk4
        have hp:pos<n:=Nat.le_of_ble_eq_true hp
        have h3:n≤9223372036854775807:=Nat.le_of_ble_eq_true h3
        have hb:Nat.mod (Nat.shiftRight v (Nat.mul 8 pos)) 256=v / 256^pos%256:=by rw [L_];rfl
        rw [show Nat.mod (Nat.shiftRight v (Nat.mul (nat_lit 8) pos)) (nat_lit 256)=v / 256^pos%256 from hb] at h4 hk4
        have h4:v / 256^pos%256≤127:=Nat.le_of_ble_eq_true h4
        obtain⟨s',r1,r2⟩:=GS.nZ h (xH h2) (f:=.iter g' n v (pos+1)) (a:=⟨g',false,.iter (g_ n v) (pos+1)⟩) rfl hk4
        have hdec:Utf8.decode ⟨(g_ n v).toArray⟩ pos=(v / 256^pos%256,1):=by
         have hg:=CX pos n v hp
         have hsz:pos<(ByteArray.mk (g_ n v).toArray).size:=by
           show pos<(g_ n v).toArray.size
           simp [gK,hp]
         have hgt:(ByteArray.mk (g_ n v).toArray)[pos]'hsz=UInt8.ofNat (v / 256^pos%256):=by
           have e1:(ByteArray.mk (g_ n v).toArray)[pos]'hsz=(g_ n v)[pos]'(by rw [gK];exact hp):=by
             show (g_ n v).toArray[pos]'_=_
             simp
           rw [e1]
           rw [List.getElem?_eq_getElem (by rw [gK];exact hp)] at hg
           exact Option.some.inj hg
         have e2:(UInt8.ofNat (v / 256^pos%256)).toNat=v / 256^pos%256:=by
           rw [UInt8.toNat_ofNat']
           exact Nat.mod_eq_of_lt (by omega)
         have:=Go.decode_ascii ⟨(g_ n v).toArray⟩ pos hsz (by rw [hgt,e2];omega)
         rw [this,hgt,e2]
        refine⟨0,_,_,s',?_,r2,r1⟩
        simp only [dO,eY,hx',KH,h2]
        rw [if_pos ⟨h1,trivial⟩,if_pos (by rw [gK];exact hp),hdec]
        rw [CW]
        simp only [List.map_cons,List.map_nil]
        rw [kJ (by omega),show FV.av (.n 8589934593 (v / 256^pos%256))= .i .i32 ((v / 256^pos%256:Nat):Int) by
         rw [FV.xu,show (8589934593:Nat)=tg .i32 from rfl,jL,wrap_small .i32 (by simp only [IntKind.signed,IntKind.bits,if_true];omega)]]
        rfl
      | false=>
        rw [hp,jv] at hk2
        have hp:¬pos<n:=fun hl=>by
         have:=Nat.ble_eq_true_of_le hl
         rw [this] at hp;cases hp
        refine⟨0,_,σ,s,?_,h,hk2⟩
        simp only [dO,eY,hx',KH,h2]
        rw [if_pos ⟨h1,trivial⟩,if_neg (by rw [gK];exact hp)];rfl
    | _=>cases hk
 ·cases hk
end
end Go.dX
namespace Go.dX
section
variable {P:Program} {kt:Nat} {KT:AT} (hK:aH P kt=some KT)
include hK
theorem VQ {x y:FV} {b:Bool} (h:JM KT.d x y=some b):uX P 20 kt x.av y.av=some b∧(b=true→x.av=y.av):=by
 unfold JM at h
 split at h
 ·rename_i n v m w hd
  cases h
  rw [G5]
  refine⟨by unfold uX;rw [hK];simp only [hd,FV.yM],fun e=>?_⟩
  rw [FV.yM,FV.yM,eq_of_beq e]
 ·rename_i k t a t' b' hd
  obtain⟨h1,h2⟩:=Oa h
  obtain⟨h3,h4⟩:=Oa h2
  cases h4
  rw [Nat.eq_of_beq_eq_true h1,Nat.eq_of_beq_eq_true h3,Dj,iW,iW]
  refine⟨by unfold uX;rw [hK];simp only [hd,if_true],fun e=>?_⟩
  rw [eq_of_beq e]
 ·cases h
theorem Fh {x:FV} (h:Hw KT.d x=true):rU P kt x.av=true∧z_ x.av=true:=by
 unfold Hw at h
 split at h
 ·rename_i n v hd
  exact⟨by simp only [rU,hK,hd,FV.yM,kZ,Bool.true_or],rfl⟩
 ·rename_i k t a hd
  rw [Nat.eq_of_beq_eq_true h,iW]
  exact⟨by simp only [rU,hK,hd,kZ,Bool.true_or],rfl⟩
 ·cases h
theorem Dp {k:FV} {A:Nat→FV×FV→Bool} {B:Bool} :∀(es:List (FV×FV)) (i:Nat) (_:JO KT.d k A B es i=true),
 (∃j e,oI P kt k.av (yQ es) i=some (some (i+j,(e.1.av,e.2.av)))∧es[j]? =some e∧A (i+j) e=true∧k.av=e.1.av)∨(oI P kt k.av (yQ es) i=some none∧B=true)
 | [],i,h=>.inr ⟨rfl,h⟩
 | e :: es,i,h=>by
   have h':Option.rec (motive:=fun _=>Bool) false (fun b=>bC b (A i e) (JO KT.d k A B es (i+1))) (JM KT.d k e.1)=true:=h
   cases hq:JM KT.d k e.1 with
   | none=>rw [hq] at h';cases h'
   | some b=>
     rw [hq] at h'
     obtain⟨q1,q2⟩:=VQ hK hq
     cases b with
     | true=>
       have h':A i e=true:=h'
       exact .inl ⟨0,e,by simp only [yQ,List.map_cons,oI,q1,Nat.add_zero],rfl,h',q2 rfl⟩
     | false=>
       have h':JO KT.d k A B es (i+1)=true:=h'
       rcases Dp es (i+1) h' with ⟨j,e',r1,r2,r3,r4⟩ | ⟨r1,r2⟩
       ·refine .inl ⟨j+1,e',?_,by simpa using r2,?_,r4⟩
        ·rw [show i+(j+1)=i+1+j by omega]
         simp only [yQ,List.map_cons,oI,q1]
         exact r1
        ·rw [show i+(j+1)=i+1+j by omega];exact r3
       ·refine .inr ⟨?_,r2⟩
        simp only [yQ,List.map_cons,oI,q1]
        exact r1
end
section
variable {X:Ctx} {τ:jc} (bU:τ.Ok X.P) {run:Rn} (hr:run.Ok X) {ρ:bT→FV} {K:KS} {s:GS} {σ:St} (h:s.Is σ)
include h
omit bU h in
theorem isI_ok {x:FV} (h:isI x=true):∃n,x.av= .i .i64 n:=by
 unfold isI at h
 split at h
 ·rename_i t y
  have h1:t=36893488147419103233:=Nat.eq_of_beq_eq_true h
  subst h1
  exact⟨_,by rw [FV.xu,show (36893488147419103233:Nat)=tg .i64 from rfl,jL]⟩
 ·cases h
theorem Hy {x:FV} {K:List (FV×FV)→Bool} (hk:VK x s K=true):∃es,oZ σ x.av=some (yQ es)∧K es=true∧(∀o l,x= .c 5 o l→σ[o]? =some ⟨0,false,.maps (yQ es)⟩):=by
 unfold VK at hk
 split at hk
 ·rename_i t x
  obtain⟨h1,h2⟩:=aT hk
  have h1:t=6:=Nat.eq_of_beq_eq_true h1
  subst h1
  exact⟨[],rfl,h2,fun o l e=>by cases e⟩
 ·rename_i o l
  cases ho:s.t.get o with
  | none=>rw [ho] at hk;cases hk
  | some f=>
    rw [ho] at hk
    cases f with
    | maps g es=>
      obtain⟨h1,h2⟩:=aT hk
      have h1:g=0:=Nat.eq_of_beq_eq_true h1
      subst h1
      obtain⟨a,q1,rfl⟩:=h.2 _ _ ho
      refine⟨es,?_,h2,fun o' l' e=>by cases e;exact q1⟩
      rw [show FV.av (.c 5 o l)= .mp o 0 from rfl]
      simp only [oZ,q1,if_true]
    | _=>cases hk
 ·cases hk
include bU
theorem Om {t:Nat} {x:bT} {K:KF} (hk:gMln τ t x ρ s K=true):jX X.P ρ (.Ku t x) σ K:=by
 unfold gMln at hk
 split at hk
 ·rename_i T hT
  obtain⟨d1,s1,b1,z1,c1,hd1,g1⟩:=T
  simp only at hk
  split at hk
  ·unfold VN at hk
   obtain⟨es,q1,hk2,_⟩:=Hy h hk
   obtain⟨h1,h2⟩:=aT hk2
   rw [kT] at h2
   refine⟨_,?_,h2⟩
   simp only [eY,FI,bU _ _ hT,q1,Option.map_some]
   rw [kJ (Nat.le_of_ble_eq_true h1)]
   simp only [yQ,List.length_map]
  ·cases hk
 ·cases hk
theorem Hz {t:Nat} {x k:bT} {ok:Bool} {K:KF} (hk:VL τ t x k ok ρ s K=true):jX X.P ρ (.uN t x k ok) σ K:=by
 unfold VL at hk
 split at hk
 ·rename_i T hT
  obtain⟨d1,s1,b1,z1,c1,hd1,g1⟩:=T
  simp only at hk
  split at hk
  ·rename_i kt et
   split at hk
   ·rename_i KT E OV hE
    obtain⟨h1,hk1⟩:=aT hk
    unfold oD at hk1
    obtain⟨h2,hk2⟩:=aT hk1
    obtain⟨es,q1,hk3,_⟩:=Hy h hk2
    obtain⟨r1,_⟩:=Fh (bU _ _ OV) h2
    rcases Dp (bU _ _ OV) es 0 hk3 with ⟨j,e,w1,w2,w3,w4⟩ | ⟨w1,w2⟩
    ·cases ok with
     | true=>
       refine⟨_,?_,w3⟩
       simp only [eY,AP,bU _ _ hT,q1,bU _ _ hE]
       rw [if_pos r1,w1,CW];rfl
     | false=>
       refine⟨_,?_,w3⟩
       simp only [eY,AP,bU _ _ hT,q1,bU _ _ hE]
       rw [if_pos r1,w1];rfl
    ·cases ok with
     | true=>
       refine⟨_,?_,w2⟩
       simp only [eY,AP,bU _ _ hT,q1,bU _ _ hE]
       rw [if_pos r1,w1,CW]
       simp only [List.map_cons,kW _ h1];rfl
     | false=>
       refine⟨_,?_,w2⟩
       simp only [eY,AP,bU _ _ hT,q1,bU _ _ hE]
       rw [if_pos r1,w1,kW _ h1];rfl
   ·cases hk
  ·cases hk
 ·cases hk
theorem gMup_ok {t:Nat} {m k v:bT} (hk:gMup τ t m k v ρ s K=true):mg X ρ (.mW t m k v) σ K:=by
 unfold gMup at hk
 split at hk
 ·rename_i T hT
  obtain⟨d1,s1,b1,z1,c1,hd1,g1⟩:=T
  simp only at hk
  split at hk
  ·rename_i kt et
   split at hk
   ·rename_i KT OV
    unfold jf at hk
    split at hk
    ·rename_i o l hm
     obtain⟨h2,hk2⟩:=aT hk
     obtain⟨es,q1,hk3,q2⟩:=Hy h hk2
     have q2:=q2 o l rfl
     obtain⟨r1,r2⟩:=Fh (bU _ _ OV) h2
     have hmv:(ρ m).av= .mp o 0:=by rw [hm];rfl
     rcases Dp (bU _ _ OV) es 0 hk3 with ⟨j,e,w1,w2,w3,w4⟩ | ⟨w1,w2⟩
     ·rw [Nat.zero_add] at w1 w3
      rw [vS] at w3
      obtain⟨s',v1,v2⟩:=GS.nZ h (xH q2) (f:=.maps 0 (es.set j (ρ k,ρ v))) (a:=⟨0,false,.maps ((yQ es).set j ((ρ k).av,(ρ v).av))⟩) (by simp only [GO.Is,yQ,List.map_set]) w3
      refine⟨0,_,_,s',?_,v2,v1⟩
      simp only [dO,eY,OJ,bU _ _ hT,hmv,q2]
      rw [if_pos ⟨trivial,r1⟩,w1]
      simp only
      rw [if_pos ⟨by rw [w4];exact AV.pU _,r2⟩];rfl
     ·rw [vS] at w2
      obtain⟨s',v1,v2⟩:=GS.nZ h (xH q2) (f:=.maps 0 (es ++ [(ρ k,ρ v)])) (a:=⟨0,false,.maps (yQ es ++ [((ρ k).av,(ρ v).av)])⟩) (by simp only [GO.Is,yQ,List.map_append,List.map_cons,List.map_nil]) w2
      refine⟨0,_,_,s',?_,v2,v1⟩
      simp only [dO,eY,OJ,bU _ _ hT,hmv,q2]
      rw [if_pos ⟨trivial,r1⟩,w1];rfl
    ·cases hk
   ·cases hk
  ·cases hk
 ·cases hk
include hr
omit bU in
theorem Qr {f:bT} {args:List bT} (hf:∀v,f= .c v→(ρ f).av=v)(hk:yT run f args ρ s K=true):mg X ρ (.call f args) σ K:=by
 unfold yT at hk
 have hmm:(args.map ρ).map FV.av=args.map fun o=>(ρ o).av:=by rw [List.map_map];rfl
 split at hk
 ·rename_i k
  obtain⟨n,hn⟩:=hr _ _ _ _ _ h hk
  refine⟨n,?_⟩
  simp only [dO]
  rw [hf _ rfl]
  simp only [List.nil_append,List.append_nil]
  rw [←hmm];exact hn
 ·unfold bW at hk
  split at hk
  ·rename_i k a1 a a2 c hx
   rw [vS] at hk
   obtain⟨n,hn⟩:=hr _ _ _ _ _ h hk
   refine⟨n,?_⟩
   have e:(ρ f).av= .fn (.func k) (a.map FV.av) (c.map FV.av):=by
        rw [hx,FV.CU,FV.tH]
        simp only [List.map_cons,List.map_nil,oP];rfl
   simp only [dO,e]
   rw [←hmm,←List.map_append,←List.map_append];exact hn
  ·cases hk
omit bU in
theorem gInv_ok {x:bT} {m:String} {args:List bT} (hk:vV X run (ρ x) m (args.map ρ) s K=true):mg X ρ (.inv x m args) σ K:=by
 unfold vV at hk
 have hmm:(args.map ρ).map FV.av=args.map fun o=>(ρ o).av:=by rw [List.map_map];rfl
 split at hk
 ·rename_i t v hx
  split at hk
  ·rename_i k hm
   obtain⟨h1,h2⟩:=aT hk
   obtain⟨n,hn⟩:=hr _ _ _ _ _ h h2
   refine⟨n,?_⟩
   simp only [dO,hx,xA,hm]
   rw [List.map_cons,kW _ h1,hmm] at hn
   exact hn
  ·cases hk
 ·cases hk
theorem Dq {op:dM} (hc:∀v,bT.c v∈op.bK→(ρ (.c v)).av=v)(hk:Fg X τ run op ρ s K=true):mg X ρ op σ K:=by
 unfold Fg at hk
 split at hk
 ·exact Qo bU h hk
 ·exact dBox_ok h hk
 ·exact gBsl_ok bU h hk
 ·exact Qp bU h hk
 ·exact VO bU h hk
 ·exact gMks_ok bU h hk
 ·exact gRng_ok bU h hk
 ·exact dNxt_ok h hk
 ·exact gApp_ok bU h hk
 ·exact VP bU h hk
 ·rename_i f args
  exact Qr hr h (fun v hv=>by rw [hv];exact hc v (by rw [hv];simp [dM.bK])) hk
 ·exact gInv_ok hr h hk
 ·rename_i t r
  unfold Ef at hk
  split at hk
  ·obtain⟨s',q1,q2⟩:=GS.tC h (f:=.maps 0 []) (a:=⟨0,false,.maps []⟩) rfl hk
   exact⟨0,_,_,s',rfl,q2,q1⟩
  ·rename_i x
   split at hk
   ·rename_i T hT
    obtain⟨d1,z1,b1,v1,c1,hd1,g1⟩:=T
    simp only at hk
    split at hk
    ·obtain⟨h1,h2⟩:=aT hk
     obtain⟨s',q1,q2⟩:=GS.tC h (f:=.maps 0 []) (a:=⟨0,false,.maps []⟩) rfl h2
     obtain⟨n,hn⟩:=isI_ok h1
     refine⟨0,_,_,s',?_,q2,q1⟩
     simp only [dO,eY,Option.map_some,QK,hn,bU _ _ hT]
     rfl
    ·cases hk
   ·cases hk
 ·exact yU h (fun n=>rfl) (Om bU h hk)
 ·exact gMup_ok bU h hk
 ·exact yU h (fun n=>rfl) (Hz bU h hk)
 ·refine yU h (fun n=>?_) (xM bU h hc hk)
  cases op <;> first | rfl | (exfalso;rename_i q _ _ _ _;exact q _ _ rfl) | (exfalso;simp_all;done)
end
end Go.dX
namespace Go.dX
section
variable (X:Ctx)(τ:jc)(run:Rn)
noncomputable def aX (x:FV)(w:Bool)(G:KF→Bool)(K:KF):Bool:=Ve x w (G fun v=>K (.c (nat_lit 4) (nat_lit 1) [v])) (K (.c (nat_lit 4) (nat_lit 0) [.n (nat_lit 0) (nat_lit 0)]))
noncomputable def oU (x:FV)(w:Bool)(G:KS→Bool)(s:GS)(K:KS):Bool:=Ve x w (G K) (K (.c (nat_lit 1) (nat_lit 0) []) s)
noncomputable def uf (e:dP)(op:dM)(s:GS)(K:KF):Bool:=match op with
 | .pick q a b=>bC (ay (Ia e q)) (aZ (aC (Ia e q)) (Ia e a) (Ia e b) K) false
 | .uN t x k ok=>qA e (VL τ t x k ok (Qm e) s K) [x,k]
 | op=>qA e (xK X.P τ op (Qm e) s K) op.bK
noncomputable def VR (a:AI)(e:dP)(s:GS)(K:KS):Bool:=bC (a.op.bK.all tX) (match a.gd with
 | none=>Fg X τ run a.op (Ia e) s K
 | some (n,w)=>bC a.op.pure (aX (jF e n) w (uf X τ e a.op s) fun v=>K v s) (oU (jF e n) w (fun K=>qA e (Fg X τ run a.op (Qm e) s K) a.op.bK) s K)) false
noncomputable def Qs:List AI→dP→GS→(dP→GS→Bool)→Bool:=List.rec (motive:=fun _=>dP→GS→(dP→GS→Bool)→Bool) (fun e s K=>K e s) (fun a _ ih e s K=>VR X τ run a e s (Option.rec (motive:=fun _=>KS) (fun _ s=>ih e s K) (fun d v s=>ih ((d,v) :: e) s K) a.d))
noncomputable def bM (a b:FV):Bool:=AV.eqv a.av b.av
noncomputable def MH (op:dM)(e:dP)(s:GS)(K:KF):Bool:=match op with
 | .uN t x k ok=>VL τ t x k ok (Ia e) s K
 | .Ku t x=>gMln τ t x (Ia e) s K
 | op=>xK X.P τ op (Ia e) s K
noncomputable def gAgP (op:dM)(g:Option (Nat×Bool))(e:dP)(s:GS)(K:KF):Bool:=match g with
 | none=>MH X τ op e s K
 | some (n,w)=>aX (jF e n) w (uf X τ e op s) K
noncomputable def gAg1 (a:AI)(e:dP)(s:GS)(B:Bool):Bool:=match a.d with
 | some d=>bC (bC (a.op.bK.all tX) a.op.pure false) (gAgP X τ a.op a.gd e s fun v=>bC (bM v (jF e d)) B false) false
 | none=>false
noncomputable def VT (e:dP)(s:GS)(B:Bool):List AI→Bool:=List.rec (motive:=fun _=>Bool) B (fun a _ ih=>gAg1 X τ a e s ih)
noncomputable def VU:List (AI×List AI)→dP→GS→(dP→GS→Bool)→Bool:=List.rec (motive:=fun _=>dP→GS→(dP→GS→Bool)→Bool) (fun e s K=>K e s) (fun a _ ih e s K=>VR X τ run a.1 e s fun v s=>VT X τ e s (Option.rec (motive:=fun _=>Bool) (ih e s K) (fun d=>ih ((d,v) :: e) s K) a.1.d) a.2)
end
section
variable {X:Ctx} {τ:jc} (bU:τ.Ok X.P) {run:Rn} (hr:run.Ok X) {s:GS} {σ:St} (h:s.Is σ)
theorem VW {e:dP} {op:dM} (ho:op.bK.all tX=true):∀v,bT.c v∈op.bK→(Ia e (.c v)).av=v:=fun v hv=>by
 rw [List.all_eq_true] at ho
 exact og (ho _ hv)
theorem VX {e:dP} {op:dM} (ho:op.bK.all tX=true):∀v,bT.c v∈op.bK→(Qm e (.c v)).av=v:=fun v hv=>by
 rw [List.all_eq_true] at ho
 have h1:=ho _ hv
 rw [Hq h1]
 have h2:=(aT h1).2
 show v.val=v
 cases v <;> first | rfl | cases h2
theorem VY {e:dP} {op:dM} {K:KS} (ho:op.bK.all tX=true)(hk:mg X (Ia e) op σ K):∃n,QH (dO X (bFn X n) (bT.ev (dV e)) op σ) K:=by
 obtain⟨n,hn⟩:=hk
 rw [List.all_eq_true] at ho
 exact⟨n,by rw [←oh (fun o hm=>og (ho o hm))];exact hn⟩
theorem VZ {e:dP} {op:dM} {K:KS} (ho:op.bK.all tX=true)(hk:mg X (Qm e) op σ K):∃n,QH (dO X (bFn X n) (fun o=>(o.ev (dV e)).val) op σ) K:=by
 obtain⟨n,hn⟩:=hk
 rw [List.all_eq_true] at ho
 refine⟨n,?_⟩
 rw [←oh (ρ:=fun o=>(Qm e o).av) (ρ':=fun o=>(o.ev (dV e)).val) (fun o hm=>Hq (ho o hm))]
 exact hn
include bU h
theorem yV {e:dP} {op:dM} {K:KF} (hp:op.pure=true)(ho:op.bK.all tX=true)(hk:uf X τ e op s (fun v=>K (.c 4 1 [v]))=true):∃v:FV,ji X.P (dV e) op σ=some v.av∧K v=true:=by
 have main:∀(op:dM),op.pure=true→(∀q a b,op≠.pick q a b)→op.bK.all tX=true→qA e true op.bK=true→jX X.P (Qm e) op σ (fun v=>K (.c 4 1 [v]))→∃v:FV,ji X.P (dV e) op σ=some v.av∧K v=true:=by
  intro op hp hn ho hc hq
  obtain⟨v,h1,h2⟩:=hq
  have ho':=ho
  rw [List.all_eq_true] at ho'
  have e1:=oh (X:=X) (run:=fun _ _ _=>none) (ρ:=fun o=>(Qm e o).av) (ρ':=fun o=>(o.ev (dV e)).val) (fun o hm=>Hq (ho' o hm)) σ
  have e2:eY X.P (fun o=>(Qm e o).av) op σ=eY X.P (fun o=>(o.ev (dV e)).val) op σ:=by
   cases op <;> first | exact e1 | cases hp
  rw [e2] at h1
  refine⟨_,?_,h2⟩
  have h3:=(tY _ ho hc).1
  unfold ji
  split
  ·exact(hn _ _ _ rfl).elim
  ·rw [h1]
   simp only [fQ,pW]
   rw [if_pos h3,U2]
 have cut:∀(B:Bool) (l:List bT),l.all tX=true→qA e B l=true→qA e true l=true∧B=true:=by
  intro B l
  induction l with
  | nil=>intro _ hB;exact⟨rfl,hB⟩
  | cons o l ih=>
    intro hl hB
    simp only [List.all_cons,Bool.and_eq_true] at hl
    cases o with
    | t n=>
      have hB':bC (ay (jF e n)) (qA e B l) false=true:=hB
      obtain⟨q1,q2⟩:=aT hB'
      obtain⟨q3,q4⟩:=ih hl.2 q2
      refine⟨?_,q4⟩
      show bC (ay (jF e n)) (qA e true l) false=true
      rw [q1,q3]
    | c v=>exact ih hl.2 hB
 unfold uf at hk
 split at hk
 ·rename_i q a b
  simp only [dM.bK,List.all_cons,List.all_nil,Bool.and_true,Bool.and_eq_true] at ho
  have hk':Vg (Ia e q) (Ia e a) (Ia e b) K=true:=hk
  obtain⟨v,h1,h2⟩:=Qk hk'
  rw [og ho.1,og ho.2.1,og ho.2.2] at h1
  exact⟨v,h1,h2⟩
 ·rename_i t x k ok
  obtain⟨h1,h2⟩:=cut _ _ ho hk
  exact main _ hp (fun _ _ _ e=>by cases e) ho h1 (Hz bU h h2)
 ·rename_i hn1 hn2
  obtain⟨h1,h2⟩:=cut _ _ ho hk
  exact main _ hp hn1 ho h1 (xM bU h (VX ho) h2)
include hr
theorem JR {a:AI} {e:dP} {K:KS} (hk:VR X τ run a e s K=true):∃n,QH (dK X (bFn X n) (dV e) a σ) K:=by
 obtain⟨d,g,op⟩:=a
 obtain⟨ho,hk⟩:=aT hk
 have ho:op.bK.all tX=true:=ho
 cases g with
 | none=>exact VY ho (Dq bU hr h (VW ho) hk)
 | some g=>
   obtain⟨n,w⟩:=g
   have hk:bC op.pure (aX (jF e n) w (uf X τ e op s) fun v=>K v s) (oU (jF e n) w (fun K=>qA e (Fg X τ run op (Qm e) s K) op.bK) s K)=true:=hk
   cases hp:op.pure with
   | true=>
     rw [hp,jE] at hk
     rcases tK hk with ⟨h1,h2⟩ | ⟨h1,h2⟩
     ·rw [fV,←iJ] at h1
      obtain⟨v,q1,q2⟩:=yV bU h (K:=fun v=>K v s) hp ho h2
      exact⟨0,v,σ,s,by unfold dK;simp only [h1];rw [if_pos hp];unfold jC;rw [if_pos rfl,q1];rfl,h,q2⟩
     ·rw [fV,←iJ] at h1
      exact⟨0,_,σ,s,by unfold dK;simp only [h1];rw [if_pos hp];rfl,h,h2⟩
   | false=>
     rw [hp,jv] at hk
     rcases tK hk with ⟨h1,h2⟩ | ⟨h1,h2⟩
     ·rw [fV,←iJ] at h1
      obtain⟨q1,q2⟩:=tY _ ho h2
      obtain⟨m,hm⟩:=VZ ho (Dq bU hr h (VX ho) q2)
      exact⟨m,by unfold dK;simp only [h1];rw [if_neg (by simp [hp]),if_pos trivial,if_pos q1];exact hm⟩
     ·rw [fV,←iJ] at h1
      exact⟨0,_,σ,s,by unfold dK;simp only [h1];rw [if_neg (by simp [hp]),if_neg (by simp)];rfl,h,h2⟩
def ToE (o:Option (Env×St))(K:dP→GS→Bool):Prop:=∃e' σ' s',o=some (dV e',σ')∧GS.Is s' σ'∧K e' s'= true
end
section
variable {X:Ctx} {τ:jc} (bU:τ.Ok X.P) {run:Rn} (hr:run.Ok X)
include bU hr
theorem AA:∀{ops:List AI} {e:dP} {s:GS} {σ:St} {K:dP→GS→Bool},s.Is σ→Qs X τ run ops e s K=true→∃n,ToE (jG X (bFn X n) ops (dV e) σ) K
 | [],e,s,σ,K,h,hk=>⟨0,e,σ,s,rfl,h,hk⟩
 | a :: ops,e,s,σ,K,h,hk=>by
   obtain⟨n,v,σ1,s1,h1,h2,h3⟩:=JR bU hr h (K:=Option.rec (motive:=fun _=>KS) (fun _ s=>Qs X τ run ops e s K) (fun d v s=>Qs X τ run ops ((d,v) :: e) s K) a.d) hk
   have h4:∃e1:dP,dV e1=put a.d v.av (dV e)∧Qs X τ run ops e1 s1 K=true:=by
     cases hd:a.d with
     | none=>rw [hd] at h3;exact⟨e,rfl,h3⟩
     | some d=>rw [hd] at h3;exact⟨(d,v) :: e,rfl,h3⟩
   obtain⟨e1,h5,h6⟩:=h4
   obtain⟨m,e',σ',s',q1,q2,q3⟩:=AA h2 h6
   refine⟨max n m,e',σ',s',?_,q2,q3⟩
   simp only [jG]
   rw [qh (yK X (Nat.le_max_left n m)) h1]
   simp only
   rw [←h5]
   exact uy (yK X (Nat.le_max_right n m)) q1
omit hr in
theorem MI {e:dP} {s:GS} {σ:St} (h:s.Is σ) {B:Bool} :∀(l:List AI) (_:VT X τ e s B l=true),l.all (lq X (dV e) σ)=true∧B=true
 | [],hk=>⟨rfl,hk⟩
 | ⟨d,g,op⟩ :: l,hk=>by
   cases d with
   | none=>cases hk
   | some d=>
     have hk0:bC (bC (op.bK.all tX) op.pure false) (gAgP X τ op g e s fun v=>bC (bM v (jF e d)) (VT X τ e s B l) false) false=true:=hk
     clear hk
     have hk:=hk0
     clear hk0
     obtain⟨ho,hk⟩:=aT hk
     obtain⟨ho,hp⟩:=aT ho
     have fin:∀v:FV,dK X (fun _ _ _=>none) (dV e) ⟨some d,g,op⟩ σ=some (v.av,σ)→bC (bM v (jF e d)) (VT X τ e s B l) false=true→(AI.mk (some d) g op :: l).all (lq X (dV e) σ)=true∧B=true:=by
      intro v h1 h2
      obtain⟨h3,h4⟩:=aT h2
      obtain⟨h5,h6⟩:=MI h l h4
      refine⟨?_,h6⟩
      simp only [List.all_cons,h5,Bool.and_true]
      unfold lq
      simp only [h1]
      unfold bM at h3
      rw [fV] at h3
      exact h3
     have pcall:∀(ρ:bT→AV),dO X (fun _ _ _=>none) ρ op σ=eY X.P ρ op σ:=by
      intro ρ
      cases op <;> first | rfl | cases hp
     cases g with
     | none=>
       have hq:jX X.P (Ia e) op σ fun v=>bC (bM v (jF e d)) (VT X τ e s B l) false:=by
        have hk1:MH X τ op e s (fun v=>bC (bM v (jF e d)) (VT X τ e s B l) false)=true:=hk
        clear hk
        have hk:=hk1
        unfold MH at hk
        split at hk
        ·exact Hz bU h hk
        ·exact Om bU h hk
        ·exact xM bU h (VW ho) hk
       obtain⟨v,h1,h2⟩:=hq
       refine fin v ?_ h2
       rw [List.all_eq_true] at ho
       unfold dK
       simp only
       rw [←oh (ρ:=fun o=>(Ia e o).av) (fun o hm=>og (ho o hm)),pcall]
       exact h1
     | some g=>
       obtain⟨n,w⟩:=g
       have hk:aX (jF e n) w (uf X τ e op s) (fun v=>bC (bM v (jF e d)) (VT X τ e s B l) false)=true:=hk
       rcases tK hk with ⟨h1,h2⟩ | ⟨h1,h2⟩
       ·rw [fV,←iJ] at h1
        obtain⟨v,q1,q2⟩:=yV bU h (K:=fun v=>bC (bM v (jF e d)) (VT X τ e s B l) false) hp ho h2
        exact fin v (by unfold dK;simp only [h1];rw [if_pos hp];unfold jC;rw [if_pos rfl,q1];rfl) q2
       ·rw [fV,←iJ] at h1
        exact fin _ (by unfold dK;simp only [h1];rw [if_pos hp];rfl) h2
theorem HY:∀{ops:List (AI×List AI)} {e:dP} {s:GS} {σ:St} {K:dP→GS→Bool},s.Is σ→VU X τ run ops e s K=true→∃n,ToE (o7 X (bFn X n) ops (dV e) σ) K
 | [],e,s,σ,K,h,hk=>⟨0,e,σ,s,rfl,h,hk⟩
 | (a,ag) :: ops,e,s,σ,K,h,hk=>by
   obtain⟨n,v,σ1,s1,h1,h2,h3⟩:=JR bU hr h (K:=fun v s=>VT X τ e s (Option.rec (motive:=fun _=>Bool) (VU X τ run ops e s K) (fun d=>VU X τ run ops ((d,v) :: e) s K) a.d) ag) hk
   obtain⟨h7,h3⟩:=MI bU h2 _ h3
   have h4:∃e1:dP,dV e1=put a.d v.av (dV e)∧VU X τ run ops e1 s1 K=true:=by
     cases hd:a.d with
     | none=>rw [hd] at h3;exact⟨e,rfl,h3⟩
     | some d=>rw [hd] at h3;exact⟨(d,v) :: e,rfl,h3⟩
   obtain⟨e1,h5,h6⟩:=h4
   obtain⟨m,e',σ',s',q1,q2,q3⟩:=HY h2 h6
   refine⟨max n m,e',σ',s',?_,q2,q3⟩
   simp only [o7]
   rw [qh (yK X (Nat.le_max_left n m)) h1]
   simp only
   rw [if_pos h7,←h5]
   exact wS (yK X (Nat.le_max_right n m)) q1
end
end Go.dX
namespace Go.dX
abbrev aP:=Nat→List FV→GS→KS→KS→Bool
noncomputable def nK:KS:=fun _ _=>false
noncomputable abbrev nR (run:aP):Rn:=fun f args s K=>run f args s K nK
noncomputable abbrev pR (run:aP) (Z:KS):Rn:=fun f args s K=>run f args s K Z
def Qu (o:Option (Bool×AV×St))(K Z:KS):Prop:=∃b v σ' s',o=some (b,FV.av v,σ')∧GS.Is s' σ'∧(bif b then Z v s' else K v s')=true
def aP.Ok (X:Ctx)(run:aP):Prop:=∀(f:Nat) (args:List FV) (s:GS) (σ:St) (K Z:KS),s.Is σ→run f args s K Z=true→∃n,Qu (mJ X n f (args.map FV.av) σ) K Z
theorem aP.Ok.n {X:Ctx} {run:aP} (h:run.Ok X):(nR run).Ok X:=fun f args s σ K hs hk=>by
 obtain⟨n,b,v,σ',s',h1,h2,h3⟩:=h f args s σ K nK hs hk
 cases b with
 | false=>exact⟨n,v,σ',s',iG.2 h1,h2,h3⟩
 | true=>cases h3
noncomputable def dPnc (x:FV)(s:GS)(Z:KS):Bool:=match x with
 | .c 2 t [v]=>Z (.c 2 t [v]) s
 | _=>false
section
variable (X:Ctx)(τ:jc)(run:aP)
noncomputable def gDiv (op:BinOp)(t:Nat)(x y:bT)(ρ:bT→FV)(s:GS)(K Z:KS):Bool:=match op with
 | .quo=>bC (oJ .quo (ρ x).av (ρ y).av) (bC (Ho (.ic X.P.rt.errorString (.s divText))) (Z (vU (.ic X.P.rt.errorString (.s divText))) s) false) (xK X.P τ (.bin .quo t x y) ρ s fun v=>K v s)
 | .rem=>bC (oJ .rem (ρ x).av (ρ y).av) (bC (Ho (.ic X.P.rt.errorString (.s divText))) (Z (vU (.ic X.P.rt.errorString (.s divText))) s) false) (xK X.P τ (.bin .rem t x y) ρ s fun v=>K v s)
 | op=>xK X.P τ (.bin op t x y) ρ s fun v=>K v s
noncomputable def Dt (op:dM)(ρ:bT→FV)(s:GS)(K Z:KS):Bool:=match op with
 | .call f args=>yT (pR run Z) f args ρ s K
 | .inv x m args=>vV X (pR run Z) (ρ x) m (args.map ρ) s K
 | .gu x=>dPnc (ρ x) s Z
 | .bin op t x y=>gDiv X τ op t x y ρ s K Z
 | op=>Fg X τ (nR run) op ρ s K
noncomputable def MJ (a:AI)(e:dP)(s:GS)(K Z:KS):Bool:=bC (a.op.bK.all tX) (match a.gd with
 | none=>Dt X τ run a.op (Ia e) s K Z
 | some (n,w)=>bC a.op.pure (aX (jF e n) w (uf X τ e a.op s) fun v=>K v s) (oU (jF e n) w (fun K=>qA e (Dt X τ run a.op (Qm e) s K Z) a.op.bK) s K)) false
noncomputable def JU:List AI→dP→GS→(dP→GS→Bool)→(dP→KS)→Bool:=List.rec (motive:=fun _=>dP→GS→(dP→GS→Bool)→(dP→KS)→Bool) (fun e s K _=>K e s) (fun a _ ih e s K Z=>MJ X τ run a e s (Option.rec (motive:=fun _=>KS) (fun _ s=>ih e s K Z) (fun d v s=>ih ((d,v) :: e) s K Z) a.d) (Z e))
noncomputable def JV:List (AI×List AI)→dP→GS→(dP→GS→Bool)→KS→Bool:=List.rec (motive:=fun _=>dP→GS→(dP→GS→Bool)→KS→Bool) (fun e s K _=>K e s) (fun a _ ih e s K Z=>MJ X τ run a.1 e s (fun v s=>VT X τ e s (Option.rec (motive:=fun _=>Bool) (ih e s K Z) (fun d=>ih ((d,v) :: e) s K Z) a.1.d) a.2) (fun v s=>bC a.1.op.pure false (Z v s)))
noncomputable def Du (l:List (AI×List AI))(e:dP):dP:=(l.filterMap fun x=>x.1.d).map (fun d=>(d,.n (nat_lit 0) (nat_lit 0))) ++ e
end
def Dv (X:Ctx)(ρ:bT→FV)(op:dM)(σ:St)(K Z:KS):Prop:=∃n,Qu (eF X (mJ X n) (fun o=>(ρ o).av) op σ) K Z
section
variable {X:Ctx} {τ:jc} (bU:τ.Ok X.P) {run:aP} (hr:run.Ok X) {ρ:bT→FV} {K Z:KS} {s:GS} {σ:St} (h:s.Is σ)
theorem QH.p {o:Option (AV×St)} {K Z:KS} (h:QH o K):Qu (o.map fun r=>(false,r)) K Z:=by
 obtain⟨v,σ',s',h1,h2,h3⟩:=h
 exact⟨false,v,σ',s',by rw [h1];rfl,h2,h3⟩
include hr h
theorem MK {f:bT} {args:List bT} (hf:∀v,f= .c v→(ρ f).av=v)(hk:yT (pR run Z) f args ρ s K=true):Dv X ρ (.call f args) σ K Z:=by
 unfold yT at hk
 have hmm:(args.map ρ).map FV.av=args.map fun o=>(ρ o).av:=by rw [List.map_map];rfl
 split at hk
 ·rename_i k
  obtain⟨n,hn⟩:=hr _ _ _ _ _ _ h hk
  refine⟨n,?_⟩
  simp only [eF]
  rw [hf _ rfl]
  simp only [List.nil_append,List.append_nil]
  rw [←hmm];exact hn
 ·unfold bW at hk
  split at hk
  ·rename_i k a1 a a2 c hx
   rw [vS] at hk
   obtain⟨n,hn⟩:=hr _ _ _ _ _ _ h hk
   refine⟨n,?_⟩
   have e:(ρ f).av= .fn (.func k) (a.map FV.av) (c.map FV.av):=by
        rw [hx,FV.CU,FV.tH]
        simp only [List.map_cons,List.map_nil,oP];rfl
   simp only [eF,e]
   rw [←hmm,←List.map_append,←List.map_append];exact hn
  ·cases hk
theorem V3 {x:bT} {m:String} {args:List bT} (hk:vV X (pR run Z) (ρ x) m (args.map ρ) s K=true):Dv X ρ (.inv x m args) σ K Z:=by
 unfold vV at hk
 have hmm:(args.map ρ).map FV.av=args.map fun o=>(ρ o).av:=by rw [List.map_map];rfl
 split at hk
 ·rename_i t v hx
  split at hk
  ·rename_i k hm
   obtain⟨h1,h2⟩:=aT hk
   obtain⟨n,hn⟩:=hr _ _ _ _ _ _ h h2
   refine⟨n,?_⟩
   simp only [eF,hx,xA,hm]
   rw [List.map_cons,kW _ h1,hmm] at hn
   exact hn
  ·cases hk
 ·cases hk
include bU
theorem Fj {op:dM} (hc:∀v,bT.c v∈op.bK→(ρ (.c v)).av=v)(hk:Dt X τ run op ρ s K Z=true):Dv X ρ op σ K Z:=by
 unfold Dt at hk
 split at hk
 ·rename_i f args
  exact MK hr h (fun v hv=>by rw [hv];exact hc v (by rw [hv];simp [dM.bK])) hk
 ·exact V3 hr h hk
 ·rename_i x
  unfold dPnc at hk
  split at hk
  ·rename_i t v hx
   refine⟨0,true,.c 2 t [v],σ,s,?_,h,hk⟩
   simp only [eF,hx,xA]
  ·cases hk
 ·rename_i op t x y
  have plain:oJ op (ρ x).av (ρ y).av=false→xK X.P τ (.bin op t x y) ρ s (fun v=>K v s)=true→Dv X ρ (.bin op t x y) σ K Z:=by
   intro hz hk
   obtain⟨v,h1,h2⟩:=xM bU h hc hk
   refine⟨0,false,v,σ,s,?_,h,h2⟩
   simp only [eF]
   rw [hz,if_neg (by simp),h1];rfl
  have zero:oJ op (ρ x).av (ρ y).av=true→bC (Ho (.ic X.P.rt.errorString (.s divText))) (Z (vU (.ic X.P.rt.errorString (.s divText))) s) false=true→Dv X ρ (.bin op t x y) σ K Z:=by
   intro hz hk
   obtain⟨h1,h2⟩:=aT hk
   refine⟨0,true,_,σ,s,?_,h,h2⟩
   simp only [eF]
   rw [hz,if_pos rfl,kW _ h1]
  unfold gDiv at hk
  split at hk
  ·cases hz:oJ .quo (ρ x).av (ρ y).av with
   | true=>rw [hz,jE] at hk;exact zero hz hk
   | false=>rw [hz,jv] at hk;exact plain hz hk
  ·cases hz:oJ .rem (ρ x).av (ρ y).av with
   | true=>rw [hz,jE] at hk;exact zero hz hk
   | false=>rw [hz,jv] at hk;exact plain hz hk
  ·rename_i n1 n2
   refine plain ?_ hk
   cases op <;> first | rfl | exact absurd rfl n1 | exact absurd rfl n2
 ·obtain⟨n,hn⟩:=Dq bU hr.n h hc hk
  refine⟨n,?_⟩
  have hp:=hn.p (Z:=Z)
  rename_i q1 q2 q3 q4
  have e1:eF X (mJ X n) (fun o=>(ρ o).av) op σ=(dO X (bFn X n) (fun o=>(ρ o).av) op σ).map fun r=>(false,r):=by
   cases op <;> first | rfl | exact absurd rfl (q1 _ _) | exact absurd rfl (q2 _ _ _) | exact absurd rfl (q3 _) | exact absurd rfl (q4 _ _ _ _)
  rw [e1];exact hp
end
section
variable {X:Ctx} {τ:jc} (bU:τ.Ok X.P) {run:aP} (hr:run.Ok X)
theorem zJ {X:Ctx} {run:gW} {op:dM} {ρ ρ':bT→AV} (h:∀o∈op.bK,ρ o=ρ' o)(σ:St):eF X run ρ op σ=eF X run ρ' op σ:=by
 have hs:=oh (X:=X) (run:=fun _ _ _=>none) h σ
 have hmap:∀l:List bT,(∀o∈l,o∈op.bK)→l.map ρ=l.map ρ':=fun l hl=>List.map_congr_left fun o ho=>h o (hl o ho)
 cases op
 case call f args=>simp only [eF];rw [h f (by simp [dM.bK]),hmap args (fun o ho=>by simp [dM.bK,ho])]
 case inv x m args=>simp only [eF];rw [h x (by simp [dM.bK]),hmap args (fun o ho=>by simp [dM.bK,ho])]
 case gu x=>simp only [eF];rw [h x (by simp [dM.bK])]
 case bin op t x y=>
  simp only [eF]
  have hs':eY X.P ρ (.bin op t x y) σ=eY X.P ρ' (.bin op t x y) σ:=hs
  rw [h x (by simp [dM.bK]),h y (by simp [dM.bK]),hs']
 all_goals exact congrArg (fun o=>Option.map (fun r=>(false,r)) o) hs
include bU hr
theorem Fp {a:AI} {e:dP} {s:GS} {σ:St} (h:s.Is σ) {K Z:KS} (hk:MJ X τ run a e s K Z=true):∃n,Qu (iy X (mJ X n) (dV e) a σ) K Z:=by
 obtain⟨d,g,op⟩:=a
 obtain⟨ho,hk⟩:=aT hk
 have ho:op.bK.all tX=true:=ho
 have ho':=ho
 rw [List.all_eq_true] at ho'
 cases g with
 | none=>
   obtain⟨n,hn⟩:=Fj bU hr h (VW ho) hk
   refine⟨n,?_⟩
   show Qu (eF X (mJ X n) (bT.ev (dV e)) op σ) K Z
   rw [←zJ (fun o hm=>og (ho' o hm))];exact hn
 | some g=>
   obtain⟨n,w⟩:=g
   have hk:bC op.pure (aX (jF e n) w (uf X τ e op s) fun v=>K v s) (oU (jF e n) w (fun K=>qA e (Dt X τ run op (Qm e) s K Z) op.bK) s K)=true:=hk
   cases hp:op.pure with
   | true=>
     rw [hp,jE] at hk
     rcases tK hk with ⟨h1,h2⟩ | ⟨h1,h2⟩
     ·rw [fV,←iJ] at h1
      obtain⟨v,q1,q2⟩:=yV bU h (K:=fun v=>K v s) hp ho h2
      exact⟨0,false,v,σ,s,by unfold iy;simp only [h1];rw [if_pos hp];unfold jC;rw [if_pos rfl,q1];rfl,h,q2⟩
     ·rw [fV,←iJ] at h1
      exact⟨0,false,_,σ,s,by unfold iy;simp only [h1];rw [if_pos hp];rfl,h,h2⟩
   | false=>
     rw [hp,jv] at hk
     rcases tK hk with ⟨h1,h2⟩ | ⟨h1,h2⟩
     ·rw [fV,←iJ] at h1
      obtain⟨q1,q2⟩:=tY _ ho h2
      obtain⟨m,hm⟩:=Fj bU hr h (VX ho) q2
      refine⟨m,?_⟩
      unfold iy
      simp only [h1]
      rw [if_neg (by simp [hp]),if_pos trivial,if_pos q1,←zJ (fun o hm=>Hq (ho' o hm))]
      exact hm
     ·rw [fV,←iJ] at h1
      exact⟨0,false,_,σ,s,by unfold iy;simp only [h1];rw [if_neg (by simp [hp]),if_neg (by simp)];rfl,h,h2⟩
theorem Dw:∀{ops:List AI} {e:dP} {s:GS} {σ:St} {K:dP→GS→Bool} {Z:dP→KS},s.Is σ→JU X τ run ops e s K Z=true→
 ∃ n,(∃e' σ' s',nD X (mJ X n) ops (dV e) σ=some (.normal,dV e',σ')∧GS.Is s' σ'∧K e' s'= true)∨(∃e' v σ' s',nD X (mJ X n) ops (dV e) σ=some (.gu (FV.av v),dV e',σ')∧GS.Is s' σ'∧Z e' v s'= true)
 | [],e,s,σ,K,Z,h,hk=>⟨0,.inl ⟨e,σ,s,rfl,h,hk⟩⟩
 | a :: ops,e,s,σ,K,Z,h,hk=>by
   obtain⟨n,b,v,σ1,s1,h1,h2,h3⟩:=Fp bU hr h (K:=Option.rec (motive:=fun _=>KS) (fun _ s=>JU X τ run ops e s K Z) (fun d v s=>JU X τ run ops ((d,v) :: e) s K Z) a.d) (Z:=Z e) hk
   cases b with
   | true=>
     refine⟨n,.inr ⟨e,v,σ1,s1,?_,h2,h3⟩⟩
     simp only [nD,h1]
   | false=>
     have h4:∃e1:dP,dV e1=put a.d v.av (dV e)∧JU X τ run ops e1 s1 K Z=true:=by
        cases hd:a.d with
        | none=>rw [hd] at h3;exact⟨e,rfl,h3⟩
        | some d=>rw [hd] at h3;exact⟨(d,v) :: e,rfl,h3⟩
     obtain⟨e1,h5,h6⟩:=h4
     obtain⟨m,hm⟩:=Dw h2 h6
     have lift:∀x,nD X (mJ X m) ops (dV e1) σ1=some x→nD X (mJ X (max n m)) (a :: ops) (dV e) σ=some x:=by
        intro x hx
        simp only [nD]
        rw [uz (pG X (Nat.le_max_left n m)) h1]
        simp only
        rw [←h5]
        exact su (pG X (Nat.le_max_right n m)) hx
     rcases hm with ⟨e',σ',s',q1,q2,q3⟩ | ⟨e',v',σ',s',q1,q2,q3⟩
     ·exact⟨max n m,.inl ⟨e',σ',s',lift _ q1,q2,q3⟩⟩
     ·exact⟨max n m,.inr ⟨e',v',σ',s',lift _ q1,q2,q3⟩⟩
theorem Dx {W:Env} :∀{ops:List (AI×List AI)} {e:dP} {s:GS} {σ:St} {K:dP→GS→Bool} {Z:KS},s.Is σ→JV X τ run ops e s K Z=true→
 ∃ n,(∃e' σ' s',mQ X (mJ X n) W ops (dV e) σ=some (.normal,dV e',σ')∧GS.Is s' σ'∧K e' s'= true)∨(∃v σ' s',mQ X (mJ X n) W ops (dV e) σ=some (.gu (FV.av v),W,σ')∧GS.Is s' σ'∧Z v s'= true)
 | [],e,s,σ,K,Z,h,hk=>⟨0,.inl ⟨e,σ,s,rfl,h,hk⟩⟩
 | (a,ag) :: ops,e,s,σ,K,Z,h,hk=>by
   obtain⟨n,b,v,σ1,s1,h1,h2,h3⟩:=Fp bU hr h (K:=fun v s=>VT X τ e s (Option.rec (motive:=fun _=>Bool) (JV X τ run ops e s K Z) (fun d=>JV X τ run ops ((d,v) :: e) s K Z) a.d) ag) (Z:=fun v s=>bC a.op.pure false (Z v s)) hk
   cases b with
   | true=>
     have h3:bC a.op.pure false (Z v s1)=true:=h3
     cases hp:a.op.pure with
     | true=>rw [hp,jE] at h3;cases h3
     | false=>
       rw [hp,jv] at h3
       refine⟨n,.inr ⟨v,σ1,s1,?_,h2,h3⟩⟩
       simp only [mQ,h1,hp];rfl
   | false=>
     obtain⟨h7,h3⟩:=MI bU h2 _ h3
     have h4:∃e1:dP,dV e1=put a.d v.av (dV e)∧JV X τ run ops e1 s1 K Z=true:=by
      cases hd:a.d with
      | none=>rw [hd] at h3;exact⟨e,rfl,h3⟩
      | some d=>rw [hd] at h3;exact⟨(d,v) :: e,rfl,h3⟩
     obtain⟨e1,h5,h6⟩:=h4
     obtain⟨m,hm⟩:=Dx h2 h6
     have lift:∀x,mQ X (mJ X m) W ops (dV e1) σ1=some x→mQ X (mJ X (max n m)) W ((a,ag) :: ops) (dV e) σ=some x:=by
      intro x hx
      simp only [mQ]
      rw [uz (pG X (Nat.le_max_left n m)) h1]
      simp only
      rw [if_pos h7,←h5]
      exact sD (pG X (Nat.le_max_right n m)) hx
     rcases hm with ⟨e',σ',s',q1,q2,q3⟩ | ⟨v',σ',s',q1,q2,q3⟩
     ·exact⟨max n m,.inl ⟨e',σ',s',lift _ q1,q2,q3⟩⟩
     ·exact⟨max n m,.inr ⟨v',σ',s',lift _ q1,q2,q3⟩⟩
omit bU hr in
theorem Oo (ops:List (AI×List AI))(e:dP):dV (Du ops e)=rC ops (dV e):=by
 unfold Du rC
 induction (ops.filterMap fun x=>x.1.d) with
 | nil=>rfl
 | cons d l ih=>
   show (d,FV.av (.n 0 0)) :: dV (_ ++ e)=_
   rw [ih];rfl
end
end Go.dX
