/- Texts of this claim, joined: Abs46, Abs47, Abs48, Abs49, Abs50, Abs51, Abs52. -/
import Derived.Test.YtnbdedokjfpckaaGreatDoorM12
import Derived.Test.YtnbdedokjfpckaaGreatDoorM08
import Derived.Laws.RangeString
set_option linter.unusedVariables false
set_option linter.unusedSimpArgs false
namespace Go.cO
noncomputable def b2n (x:Bool):Nat:=Bool.rec (motive:=fun _=>Nat) (nat_lit 0) (nat_lit 1) x
noncomputable def ofFn (f:Fn)(a c:List FV):FV:=match f with
 | .func k=>.c (nat_lit 3) k [.c (nat_lit 0) (nat_lit 0) a,.c (nat_lit 0) (nat_lit 0) c]
 | _=>.n (nat_lit 0) (nat_lit 0)
noncomputable def DV (f:Fn):Bool:=match f with
 | .func _=>true
 | _=>false
noncomputable def xq:AV→FV:=AV.rec (motive_1:=fun _=>FV) (motive_2:=fun _=>List FV) (.n (nat_lit 0) (nat_lit 0)) (fun x=>.n (nat_lit 1) (b2n x)) (fun k n=>.n (tg k) (n%2^k.bits).toNat) (fun x=>.s x.length (pk x)) (.n (nat_lit 2) (nat_lit 0)) .p (.n (nat_lit 3) (nat_lit 0)) .sl (fun f _ _ a c=>ofFn f a c) (.n (nat_lit 4) (nat_lit 0)) (fun t _ v=>.c (nat_lit 2) t [v]) (.n (nat_lit 5) (nat_lit 0)) (fun _ l=>.c (nat_lit 0) (nat_lit 0) l) (fun _ l=>.c (nat_lit 1) (nat_lit 0) l) (.n (nat_lit 6) (nat_lit 0)) (fun o _=>.c (nat_lit 5) o []) (fun c _ v=>.c (nat_lit 4) (b2n c) [v]) [] (fun _ _ a l=>a :: l)
noncomputable def eG:List AV→List FV:=AV.rec_1 (motive_1:=fun _=>FV) (motive_2:=fun _=>List FV) (.n (nat_lit 0) (nat_lit 0)) (fun x=>.n (nat_lit 1) (b2n x)) (fun k n=>.n (tg k) (n%2^k.bits).toNat) (fun x=>.s x.length (pk x)) (.n (nat_lit 2) (nat_lit 0)) .p (.n (nat_lit 3) (nat_lit 0)) .sl (fun f _ _ a c=>ofFn f a c) (.n (nat_lit 4) (nat_lit 0)) (fun t _ v=>.c (nat_lit 2) t [v]) (.n (nat_lit 5) (nat_lit 0)) (fun _ l=>.c (nat_lit 0) (nat_lit 0) l) (fun _ l=>.c (nat_lit 1) (nat_lit 0) l) (.n (nat_lit 6) (nat_lit 0)) (fun o _=>.c (nat_lit 5) o []) (fun c _ v=>.c (nat_lit 4) (b2n c) [v]) [] (fun _ _ a l=>a :: l)
noncomputable def Mc:AV→Bool:=AV.rec (motive_1:=fun _=>Bool) (motive_2:=fun _=>Bool) true (fun _=>true) (fun k n=>decide (k.wrap n=n)) (fun _=>true) true (fun _ _ _=>true) true (fun _ _ _ _ _=>true) (fun f _ _ a c=>bC (DV f) (bC a c false) false) true (fun _ _ v=>v) true (fun _ l=>l) (fun _ l=>l) true (fun _ g=>Nat.beq g (nat_lit 0)) (fun _ _ v=>v) true (fun _ _ a l=>bC a l false)
noncomputable def qW:List AV→Bool:=AV.rec_1 (motive_1:=fun _=>Bool) (motive_2:=fun _=>Bool) true (fun _=>true) (fun k n=>decide (k.wrap n=n)) (fun _=>true) true (fun _ _ _=>true) true (fun _ _ _ _ _=>true) (fun f _ _ a c=>bC (DV f) (bC a c false) false) true (fun _ _ v=>v) true (fun _ l=>l) (fun _ l=>l) true (fun _ g=>Nat.beq g (nat_lit 0)) (fun _ _ v=>v) true (fun _ _ a l=>bC a l false)
mutual
theorem kT:∀v:AV,Mc v=true→(xq v).av=v:=by
 intro v h
 match v with
 | .u | .p0 | .sl0 | .fn0 | .gK | .qX | .p _ _ _ | .sl _ _ _ _ _=>rfl
 | .b x=>cases x <;> rfl
 | .i k n=>
   have h':decide (k.wrap n=n)=true:=h
   have h':=of_decide_eq_true h'
   show kK (tg k) _=_
   rw [jG,wrap_eq,h']
 | .s x=>show AV.s (fD x.length (pk x))=_;rw [JK]
 | .fn f a c=>
   have h':bC (DV f) (bC (qW a) (qW c) false) false=true:=h
   obtain⟨h1,h'⟩:=aF h'
   obtain⟨h2,h3⟩:=aF h'
   unfold DV at h1
   split at h1
   ·rename_i k
    show FV.av (.c 3 k [.c 0 0 (eG a),.c 0 0 (eG c)])=_
    rw [FV.Dy,FV.vM]
    simp only [List.map_cons,List.map_nil,qc]
    rw [gG a h2,gG c h3];rfl
   ·cases h1
 | .ic t x=>show FV.av (.c 2 t [xq x])=_;rw [Fp,kT x h]
 | .ag l=>show FV.av (.c 0 0 (eG l))=_;rw [qc,gG l h]
 | .tu l=>show FV.av (.c 1 0 (eG l))=_;rw [wR,gG l h]
 | .mp o g=>
   have h':Nat.beq g 0=true:=h
   rw [Nat.eq_of_beq_eq_true h'];rfl
 | .cd c x=>
   have e:=kT x h
   show FV.av (.c 4 (b2n c) [xq x])=_
   cases c
   ·show AV.cd false (xq x).av=_;rw [e]
   ·show AV.cd true (xq x).av=_;rw [e]
theorem gG:∀l:List AV,qW l=true→(eG l).map FV.av=l:=by
 intro l h
 match l with
 | []=>rfl
 | a :: l=>
   have h':bC (Mc a) (qW l) false=true:=h
   obtain⟨h1,h2⟩:=aF h'
   show (xq a).av :: (eG l).map FV.av=_
   rw [kT a h1,gG l h2]
end
abbrev dZ:=List (Nat×FV)
noncomputable def jy:dZ→Nat→FV:=List.rec (motive:=fun _=>Nat→FV) (fun _=>.n (nat_lit 0) (nat_lit 0)) (fun p _ ih n=>bC (Nat.beq p.1 n) p.2 (ih n))
noncomputable def gV (e:dZ):Env:=e.map fun p=>(p.1,p.2.av)
theorem iC:∀(e:dZ) (n:Nat),(jy e n).av=get (gV e) n
 | [],_=>rfl
 | (d,v) :: e,n=>by
   show (bC (Nat.beq d n) v (jy e n)).av=if d=n then v.av else get (gV e) n
   cases hb:Nat.beq d n with
   | true=>rw [if_pos (Nat.eq_of_beq_eq_true hb)]
   | false=>rw [if_neg (Nat.ne_of_beq_eq_false hb)];exact iC e n
noncomputable def GN (e:dZ):bH→FV:=bH.rec (motive:=fun _=>FV) (fun n=>jy e n) (fun v=>xq v)
noncomputable def Qc (e:dZ):bH→FV:=bH.rec (motive:=fun _=>FV) (fun n=>ay (jy e n)) (fun v=>xq v)
noncomputable def notCd:AV→Bool
 | .cd _ _=>false
 | _=>true
noncomputable def rV:bH→Bool:=bH.rec (motive:=fun _=>Bool) (fun _=>true) (fun v=>bC (Mc v) (notCd v) false)
theorem ql {e:dZ} {o:bH} (h:rV o=true):(GN e o).av=o.ev (gV e):=by
 cases o with
 | t n=>exact iC e n
 | c v=>exact kT v (aF h).1
theorem Iy {e:dZ} {o:bH} (h:rV o=true):(Qc e o).av=(o.ev (gV e)).val:=by
 cases o with
 | t n=>show (ay (jy e n)).av=_;rw [xU,iC];rfl
 | c v=>
   have h1:=kT v (aF h).1
   have h2:=(aF h).2
   show (xq v).av=v.val
   rw [h1]
   cases v <;> first | rfl | cases h2
noncomputable abbrev qm (e:dZ) (B:Bool):List bH→Bool:=List.rec (motive:=fun _=>Bool) B (fun o _ ih=>bH.rec (motive:=fun _=>Bool) (fun n=>bC (au (jy e n)) ih false) (fun _=>ih) o)
theorem uM {e:dZ} {B:Bool} :∀(l:List bH) (_:l.all rV=true) (_:qm e B l=true),l.all (fun o=>(o.ev (gV e)).cnd)=true∧B=true
 | [],_,h=>⟨rfl,h⟩
 | .t n :: l,ho,h=>by
   simp only [List.all_cons,Bool.and_eq_true] at ho
   have h':bC (au (jy e n)) (qm e B l) false=true:=h
   obtain⟨h1,h2⟩:=aF h'
   obtain⟨h3,h4⟩:=uM l ho.2 h2
   rw [xW,iC] at h1
   refine⟨?_,h4⟩
   simp only [List.all_cons,h3,Bool.and_true]
   exact h1
 | .c v :: l,ho,h=>by
   simp only [List.all_cons,Bool.and_eq_true] at ho
   obtain⟨h3,h4⟩:=uM l ho.2 h
   refine⟨?_,h4⟩
   simp only [List.all_cons,h3,Bool.and_true]
   have h2:=(aF ho.1).2
   show v.cnd=true
   cases v <;> first | rfl | cases h2
theorem oQ {X:Ctx} {run:Run} {ρ ρ':bH→AV} {op:dG} (h:∀o∈op.bQ,ρ o=ρ' o)(σ:St):dD X run ρ op σ=dD X run ρ' op σ:=by
 have hl:∀(l:List bH),(∀o∈l,ρ o=ρ' o)→l.map ρ=l.map ρ':=fun l hh=>List.map_congr_left hh
 have ho:∀(l:Option bH),(∀o∈l.toList,ρ o=ρ' o)→l.map ρ=l.map ρ':=fun l hh=>by
  cases l with
  | none=>rfl
  | some x=>simp only [Option.map_some];rw [hh x (by simp)]
 have hp:∀(l:List (Nat×bH)),(∀o∈l.map (·.2),ρ o=ρ' o)→l.map (fun q=>(q.1,ρ q.2))=l.map (fun q=>(q.1,ρ' q.2)):=fun l hh=>List.map_congr_left fun q hq=>by rw [hh q.2 (List.mem_map_of_mem hq)]
 cases op <;> simp only [dG.bQ,List.mem_cons,List.mem_nil_iff,or_false,forall_eq,forall_eq_or_imp,List.mem_append] at h <;> simp only [dD,dO]
 case mv=>rw [h]
 case pick=>rw [h.1,h.2.1,h.2.2]
 case box=>rw [h]
 case build=>rw [hp _ h]
 case A8=>rw [hp _ h]
 case load=>rw [h]
 case store=>rw [h.1,h.2]
 case iF=>rw [h]
 case bin=>rw [h.1,h.2]
 case un=>rw [h]
 case conv=>rw [h]
 case Vj=>rw [h]
 case xA=>rw [hl _ (fun o ho=>h o (.inl ho)),hl _ (fun o ho=>h o (.inr ho))]
 case I5=>rw [h.1,h.2]
 case slc=>rw [h.1,ho _ (fun o q=>h.2 o (.inl q)),ho _ (fun o q=>h.2 o (.inr q))]
 case kW=>rw [h]
 case wV=>rw [h]
 case iD=>rw [h.1,h.2]
 case idx=>rw [h.1,h.2]
 case rng=>rw [h]
 case Kr=>rw [h]
 case Vk=>rw [h]
 case ext=>rw [h]
 case call=>rw [h.1,hl _ h.2]
 case inv=>rw [h.1,hl _ h.2]
 case len=>rw [h]
 case app=>rw [h.1,h.2]
 case copy=>rw [h.1,h.2]
 case mn=>rw [hl _ h]
 case U0=>rw [ho _ h]
 case GU=>rw [h.1,h.2]
 case MR=>rw [h.1,h.2.1,h.2.2]
 case del=>rw [h.1,h.2]
 case mln=>rw [h]
 case sl3=>rw [h.1,h.2.1,h.2.2.1,ho _ h.2.2.2]
 case xB=>rw [h]
end Go.cO
namespace Go.cO
noncomputable def md:IntKind→Nat
 | .i8=>256 | .i16=>65536 | .i32=>4294967296 | .i64=>18446744073709551616
 | .u8=>256 | .u16=>65536 | .u32=>4294967296 | .u64=>18446744073709551616
theorem Cc (k:IntKind):md k=2^k.bits:=by cases k <;> rfl
noncomputable def nthO:List FV→Nat→KF→Bool:=List.rec (motive:=fun _=>Nat→KF→Bool) (fun _ _=>false) (fun a _ ih k=>Nat.rec (motive:=fun _=>KF→Bool) (fun K=>K a) (fun k _ K=>ih k K) k)
theorem DW:∀(l:List FV) (k:Nat) {K:KF} (_:nthO l k K=true),∃v,l[k]? =some v∧K v=true
 | [],_,_,h=>by cases h
 | a :: l,0,K,h=>⟨a,rfl,h⟩
 | a :: l,k+1,K,h=>DW l k h
noncomputable def aY (i:Nat)(x:FV)(K:KF):Bool:=match x with
 | .c 1 _ l=>nthO l i K
 | _=>false
noncomputable def aI (off:Nat)(x:FV)(K:KF):Bool:=match x with
 | .p o g b=>K (.p o g (Nat.add b off))
 | _=>false
noncomputable def nY (off:Nat)(x:FV)(K:KF):Bool:=match x with
 | .c 0 _ l=>nthO l off K
 | _=>false
noncomputable def Ce (off z:Nat)(x:FV)(K:KF):Bool:=match x with
 | .c 0 _ l=>bC (Nat.ble (Nat.add off z) l.length) (fSp (JW z (FN off l)) fun l=>K (.c (nat_lit 0) (nat_lit 0) l)) false
 | _=>false
noncomputable def iI (n z:Nat)(x i:FV)(K:KF):Bool:=match x with
 | .p o g b=>qN i fun j=>bC (Nat.ble (Nat.succ j) n) (K (.p o g (Nat.add b (Nat.mul j z)))) false
 | _=>false
noncomputable def fK (z:Nat)(x i:FV)(K:KF):Bool:=match x with
 | .sl o g b n z'=>bC (Nat.beq z' z) (qN i fun j=>bC (Nat.ble (Nat.succ j) n) (K (.p o g (Nat.add b (Nat.mul j z)))) false) false
 | _=>false
noncomputable def fV (x:FV)(K:KF):Bool:=match x with
 | .n t v=>bC (Nat.beq t (nat_lit 1)) (Nat.rec (motive:=fun _=>KF→Bool) (fun K=>K (.n (nat_lit 1) (nat_lit 1))) (fun _ _ K=>K (.n (nat_lit 1) (nat_lit 0))) v K) false
 | _=>false
noncomputable def aZ (x:FV)(K:KF):Bool:=match x with
 | .p o g off=>K (.p o g off)
 | .c 2 t [v]=>K (.c 2 t [v])
 | .c 3 k l=>K (.c 3 k l)
 | _=>false
noncomputable def Qd (t:Nat)(x:FV)(K:Bool→Bool):Bool:=match x with
 | .n t' _=>bC (Nat.beq t' t) (K true) false
 | .p _ _ _=>bC (Nat.beq t (nat_lit 2)) (K false) false
 | .sl _ _ _ _ _=>bC (Nat.beq t (nat_lit 3)) (K false) false
 | .c 3 _ _=>bC (Nat.beq t (nat_lit 4)) (K false) false
 | .c 2 _ _=>bC (Nat.beq t (nat_lit 5)) (K false) false
 | .c 5 _ _=>bC (Nat.beq t (nat_lit 6)) (K false) false
 | _=>false
noncomputable def wS:AD→Nat
 | .ptr _=>2
 | .slice _=>3
 | .fn=>4
 | .xC _=>5
 | .map _ _=>6
 | _=>0
noncomputable def isNil:AV→Nat
 | .p0=>2
 | .sl0=>3
 | .fn0=>4
 | .gK=>5
 | .qX=>6
 | _=>99
noncomputable def oU (t:Nat)(x:FV)(K:KF):Bool:=Qd t x fun b=>kB b K
noncomputable def Xf (t:Nat)(x:FV)(K:KF):Bool:=Qd t x fun b=>kN b K
noncomputable def dCvtN (t M t1 a:Nat)(K:KF):Bool:=match kOf t1 with
 | some k1=>bC (Nat.beq (Nat.mod t1 (nat_lit 2)) (nat_lit 1)) (bC (Nat.ble (Nat.div t1 (nat_lit 4)) (Nat.mod a (md k1))) (uT (Nat.mod (Nat.sub (Nat.add (Nat.mod a (md k1)) (Nat.mul M (nat_lit 18446744073709551616))) (md k1)) M) t K) false) false
 | none=>false
noncomputable def eH (t M:Nat)(x:FV)(K:KF):Bool:=match x with
 | .n t1 a=>bC (L9 t1 a) (uT (Nat.mod a M) t K) (dCvtN t M t1 a K)
 | _=>false
noncomputable def nZ (t M b:Nat)(x y:FV)(K:KF):Bool:=match x with
 | .n t1 a=>bC (Nat.beq t1 t) (qN y fun n=>uT (Nat.mod (Nat.shiftLeft a (bC (Nat.ble n b) n b)) M) t K) false
 | _=>false
noncomputable def nC (t M b:Nat)(x y:FV)(K:KF):Bool:=match x with
 | .n t1 a=>bC (Nat.beq t1 t) (bC (L9 t a) (qN y fun n=>uT (Nat.shiftRight a (bC (Nat.ble n b) n b)) t K) false) false
 | _=>false
noncomputable def zW (t M:Nat)(x y:FV)(K:KF):Bool:=match x,y with
 | .n t1 a,.n t2 b=>bC (Nat.beq t1 t) (bC (Nat.beq t2 t) (bC (L9 t a) (bC (L9 t b) (bC (Nat.ble (nat_lit 1) b) (uT (Nat.div a b) t K) false) false) false) false) false
 | _,_=>false
noncomputable def FQ (t M:Nat)(x y:FV)(K:KF):Bool:=match x,y with
 | .n t1 a,.n t2 b=>bC (Nat.beq t1 t) (bC (Nat.beq t2 t) (bC (L9 t a) (bC (L9 t b) (bC (Nat.ble (nat_lit 1) b) (uT (Nat.mod a b) t K) false) false) false) false) false
 | _,_=>false
theorem Xg {i:Nat} {x:FV} {K:KF} (h:aY i x K=true):∃vs,x.av= .tu vs∧∃v:FV,vs[i]? =some v.av∧K v=true:=by
 unfold aY at h
 split at h
 ·obtain⟨v,h1,h2⟩:=DW _ _ h
  refine⟨_,wR _ _,v,?_,h2⟩
  rw [List.getElem?_map,h1];rfl
 ·cases h
theorem Xh {x:FV} {K:KF} (h:fV x K=true):∃b,x.av= .b b∧∃v:FV,v.av= .b (!b)∧K v=true:=by
 unfold fV at h
 split at h
 ·rename_i t v
  obtain⟨h1,h⟩:=aF h
  have h1:t=1:=Nat.eq_of_beq_eq_true h1
  subst h1
  refine⟨_,Dz v,?_⟩
  cases v with
  | zero=>exact⟨_,rfl,h⟩
  | succ v=>exact⟨_,rfl,h⟩
 ·cases h
theorem Xi {t:Nat} {x:FV} {K:Bool→Bool} (h:Qd t x K=true):∃b,K b=true∧((b=true∧∃z,x= .n t z)∨(b=false∧((t=2∧∃o g off,x.av= .p o g off)∨(t=3∧∃o g off n z,x.av= .sl o g off n z)∨(t=4∧∃f a c,x.av= .fn f a c)∨(t=5∧∃t' v,x.av= .ic t' v)∨(t=6∧∃o g,x.av= .mp o g)))):=by
 unfold Qd at h
 split at h <;> first | cases h | (obtain⟨h1,h⟩:=aF h)
 ·exact⟨true,h,.inl ⟨rfl,_,by rw [Nat.eq_of_beq_eq_true h1]⟩⟩
 ·exact⟨false,h,.inr ⟨rfl,.inl ⟨Nat.eq_of_beq_eq_true h1,_,_,_,rfl⟩⟩⟩
 ·exact⟨false,h,.inr ⟨rfl,.inr (.inl ⟨Nat.eq_of_beq_eq_true h1,_,_,_,_,_,rfl⟩)⟩⟩
 ·exact⟨false,h,.inr ⟨rfl,.inr (.inr (.inl ⟨Nat.eq_of_beq_eq_true h1,_,_,_,rfl⟩))⟩⟩
 ·exact⟨false,h,.inr ⟨rfl,.inr (.inr (.inr (.inl ⟨Nat.eq_of_beq_eq_true h1,_,_,rfl⟩)))⟩⟩
 ·exact⟨false,h,.inr ⟨rfl,.inr (.inr (.inr (.inr ⟨Nat.eq_of_beq_eq_true h1,_,_,rfl⟩)))⟩⟩
theorem nil_eq {P:Program} {t:Nat} {T:AT} (hT:aA P t=some T) {x:FV} {K:Bool→Bool} (h:Qd (wS T.d) x K=true) {v:AV} (hv:isNil v=wS T.d):∃b,K b=true∧gQ P .eql t x.av v true=some (.b b)∧gQ P .neq t x.av v true=some (.b !b):=by
 obtain⟨b,h1,h2⟩:=Xi h
 refine⟨b,h1,?_⟩
 clear h
 have fin:∀(w:AV),qP P 20 t w v=some b→(∀op,op= .eql∨op= .neq→gQ P op t w v true=if op= .eql then(qP P 20 t w v).map .b else(qP P 20 t w v).map fun r=>.b !r)→gQ P .eql t w v true=some (.b b)∧gQ P .neq t w v true=some (.b !b):=by
  intro w e1 e2
  refine⟨?_,?_⟩
  ·rw [e2 .eql (.inl rfl),if_pos rfl,e1];rfl
  ·rw [e2 .neq (.inr rfl),if_neg (by decide),e1];rfl
 obtain⟨d,sz,bt,ze,cm,hd,gd⟩:=T
 simp only at h2 hv
 rcases h2 with ⟨rfl,z,rfl⟩ | ⟨rfl,h2⟩
 ·cases d <;> simp only [wS] at hv <;> cases v <;> simp only [isNil] at hv <;> (try omega)
  all_goals
   refine fin _ ?_ ?_
   ·unfold qP;rw [hT];rfl
   ·rintro op (rfl | rfl) <;> rfl
 ·rcases h2 with ⟨e,o,g,off,hx⟩ | ⟨e,o,g,off,n,z,hx⟩ | ⟨e,f,a,c,hx⟩ | ⟨e,t',w,hx⟩ | ⟨e,o,g,hx⟩
  all_goals
   rw [hx]
   cases d <;> simp only [wS] at e hv <;> (try omega)
   cases v <;> simp only [isNil] at hv <;> (try omega)
   refine fin _ ?_ ?_
   ·unfold qP;rw [hT]
   ·rintro op (rfl | rfl) <;> rfl
end Go.cO
namespace Go.cO
theorem DX {k:IntKind} {a:Nat} (h:L9 (tg k) a=true):a<(if k.signed then 2^(k.bits - 1) else 2^k.bits):=by
 have key:∀(b:Nat),Nat.ble a b=true→a<b+1:=fun b hb=>Nat.lt_succ_of_le (Nat.le_of_ble_eq_true hb)
 cases k
 ·exact key 127 h
 ·exact key 32767 h
 ·exact key 2147483647 h
 ·exact key 9223372036854775807 h
 ·exact key 255 h
 ·exact key 65535 h
 ·exact key 4294967295 h
 ·exact key 18446744073709551615 h
theorem qo {k:IntKind} {a:Nat} (h:L9 (tg k) a=true):k.wrap a=a:=wrap_small k (DX h)
theorem gI (k:IntKind)(a:Nat):FV.av (.n (tg k) a)= .i k (k.wrap a):=jG k a
theorem Ci (k:IntKind)(a:Nat):FV.av (.n (tg k) (Nat.mod a (md k)))= .i k (k.wrap a):=by
 rw [gI]
 congr 1
 show k.wrap ((a%md k:Nat):Int)=_
 rw [Cc,kC]
theorem Iz (k:IntKind)(a:Nat):(BitVec.ofInt k.bits (k.wrap a)).toNat=a%md k:=by
 rw [BitVec.toNat_ofInt]
 have h:=iw k a
 rw [lU,h,←lU,←Int.natCast_emod,Int.toNat_natCast,Cc]
section
variable {k:IntKind} {x y:FV} {K:KF}
theorem add_ok (h:dh x (tg k) (md k) y K=true):∃a b,x.av= .i k a∧y.av= .i k b∧∃v:FV,iR .add k a b=some v.av∧K v=true:=by
 obtain⟨a,b,e1,e2,h2⟩:=WM h
 clear h
 have h:=h2
 clear h2
 subst e1 e2
 rw [jH] at h
 refine⟨_,_,gI k a,gI k b,_,?_,h⟩
 rw [Ci]
 simp only [iR,wrap_add]
 congr 3
theorem sub_ok (h:jv x (tg k) (md k) y K=true):∃a b,x.av= .i k a∧y.av= .i k b∧∃v:FV,iR .sub k a b=some v.av∧K v=true:=by
 obtain⟨a,b,e1,e2,h2⟩:=WO h
 clear h
 have h:=h2
 clear h2
 subst e1 e2
 rw [jH] at h
 refine⟨_,_,gI k a,gI k b,_,?_,h⟩
 rw [Ci]
 simp only [iR,PD]
 congr 2
 apply jk
 have hM:b%md k<md k:=Nat.mod_lt _ (by cases k <;> decide)
 have e2:((md k:Nat):Int)=2^k.bits:=by rw [Cc,lU]
 have e1:((Nat.sub (Nat.add a (md k)) (Nat.mod b (md k)):Nat):Int)=(a:Int) - ((b%md k:Nat):Int)+2^k.bits:=by
  show ((a+md k - b%md k:Nat):Int)=_
  rw [←e2];omega
 rw [e1,Int.natCast_emod,e2,Int.add_emod_right,Int.sub_emod,Int.sub_emod (a:Int) ((b:Int)%2^k.bits),Int.emod_emod_of_dvd _ (Int.dvd_refl _)]
theorem mul_ok (h:uD x (tg k) (md k) y K=true):∃a b,x.av= .i k a∧y.av= .i k b∧∃v:FV,iR .mul k a b=some v.av∧K v=true:=by
 obtain⟨a,b,e1,e2,h2⟩:=WQ h
 clear h
 have h:=h2
 clear h2
 subst e1 e2
 rw [jH] at h
 refine⟨_,_,gI k a,gI k b,_,?_,h⟩
 rw [Ci]
 simp only [iR,wrap_mul]
 congr 3
theorem and_ok (h:kL x (tg k) (md k) y K=true):∃a b,x.av= .i k a∧y.av= .i k b∧∃v:FV,iR .and k a b=some v.av∧K v=true:=by
 obtain⟨a,b,e1,e2,h2⟩:=WR h
 clear h
 have h:=h2
 clear h2
 subst e1 e2
 rw [jH] at h
 refine⟨_,_,gI k a,gI k b,_,?_,h⟩
 rw [gI]
 simp only [iR,sH,BitVec.toNat_and,Iz];rfl
theorem or_ok (h:dOr x (tg k) (md k) y K=true):∃a b,x.av= .i k a∧y.av= .i k b∧∃v:FV,iR .or k a b=some v.av∧K v=true:=by
 obtain⟨a,b,e1,e2,h2⟩:=dOr_ok h
 clear h
 have h:=h2
 clear h2
 subst e1 e2
 rw [jH] at h
 refine⟨_,_,gI k a,gI k b,_,?_,h⟩
 rw [gI]
 simp only [iR,sH,BitVec.toNat_or,Iz];rfl
theorem xor_ok (h:dXor x (tg k) (md k) y K=true):∃a b,x.av= .i k a∧y.av= .i k b∧∃v:FV,iR .xor k a b=some v.av∧K v=true:=by
 obtain⟨a,b,e1,e2,h2⟩:=WS h
 clear h
 have h:=h2
 clear h2
 subst e1 e2
 rw [jH] at h
 refine⟨_,_,gI k a,gI k b,_,?_,h⟩
 rw [gI]
 simp only [iR,sH,BitVec.toNat_xor,Iz];rfl
theorem xY (a b:Nat):Nat.ble a b=true↔a≤b:=⟨Nat.le_of_ble_eq_true,Nat.ble_eq_true_of_le⟩
theorem lss_ok (h:fF x (tg k) (md k) y K=true):∃a b,x.av= .i k a∧y.av= .i k b∧∃v:FV,iR .lss k a b=some v.av∧K v=true:=by
 obtain⟨a,b,e1,e2,h2⟩:=WT h
 clear h
 have h:=h2
 clear h2
 subst e1 e2
 obtain⟨v,h1,h2⟩:=zJ h
 refine⟨_,_,gI k a,gI k b,v,?_,h2⟩
 rw [h1]
 simp only [iR,GV,Option.some.injEq,AV.b.injEq]
 rw [Bool.eq_iff_iff,decide_eq_true_iff,JM,xY];exact Iff.rfl
theorem leq_ok (h:rU x (tg k) (md k) y K=true):∃a b,x.av= .i k a∧y.av= .i k b∧∃v:FV,iR .leq k a b=some v.av∧K v=true:=by
 obtain⟨a,b,e1,e2,h2⟩:=WU h
 clear h
 have h:=h2
 clear h2
 subst e1 e2
 obtain⟨v,h1,h2⟩:=zJ h
 refine⟨_,_,gI k a,gI k b,v,?_,h2⟩
 rw [h1]
 simp only [iR,GV,Option.some.injEq,AV.b.injEq]
 rw [Bool.eq_iff_iff,decide_eq_true_iff,JO,xY]
theorem gtr_ok (h:lV x (tg k) (md k) y K=true):∃a b,x.av= .i k a∧y.av= .i k b∧∃v:FV,iR .gtr k a b=some v.av∧K v=true:=by
 obtain⟨a,b,e1,e2,h2⟩:=WV h
 clear h
 have h:=h2
 clear h2
 subst e1 e2
 obtain⟨v,h1,h2⟩:=zJ h
 refine⟨_,_,gI k a,gI k b,v,?_,h2⟩
 rw [h1]
 simp only [iR,GV,Option.some.injEq,AV.b.injEq]
 rw [Bool.eq_iff_iff,decide_eq_true_iff,gt_iff_lt,JM,xY];exact Iff.rfl
theorem geq_ok (h:lW x (tg k) (md k) y K=true):∃a b,x.av= .i k a∧y.av= .i k b∧∃v:FV,iR .geq k a b=some v.av∧K v=true:=by
 obtain⟨a,b,e1,e2,h2⟩:=WW h
 clear h
 have h:=h2
 clear h2
 subst e1 e2
 obtain⟨v,h1,h2⟩:=zJ h
 refine⟨_,_,gI k a,gI k b,v,?_,h2⟩
 rw [h1]
 simp only [iR,GV,Option.some.injEq,AV.b.injEq]
 rw [Bool.eq_iff_iff,decide_eq_true_iff,ge_iff_le,JO,xY]
theorem zX (a b:Nat):Nat.beq (Nat.mod a (md k)) (Nat.mod b (md k))=(k.wrap a == k.wrap b):=by
 rw [Bool.eq_iff_iff,beq_iff_eq,Fq,←Cc]
 exact⟨Nat.eq_of_beq_eq_true,fun e=>by rw [show Nat.mod a (md k)=a%md k from rfl,e];exact Nat.beq_refl _⟩
theorem eqi_ok (h:bT x (tg k) (md k) y K=true):∃a b,x.av= .i k a∧y.av= .i k b∧∃v:FV,iR .eql k a b=some v.av∧K v=true:=by
 obtain⟨a,b,e1,e2,h2⟩:=WX h
 clear h
 have h:=h2
 clear h2
 subst e1 e2
 obtain⟨v,h1,h2⟩:=zJ h
 exact⟨_,_,gI k a,gI k b,v,by rw [h1,zX];rfl,h2⟩
theorem nei_ok (h:jL x (tg k) (md k) y K=true):∃a b,x.av= .i k a∧y.av= .i k b∧∃v:FV,iR .neq k a b=some v.av∧K v=true:=by
 obtain⟨a,b,e1,e2,h2⟩:=WY h
 clear h
 have h:=h2
 clear h2
 subst e1 e2
 obtain⟨v,h1,h2⟩:=PG h
 exact⟨_,_,gI k a,gI k b,v,by rw [h1,zX];rfl,h2⟩
theorem quo_ok (h:zW (tg k) (md k) x y K=true):∃a b,x.av= .i k a∧y.av= .i k b∧∃v:FV,iR .quo k a b=some v.av∧K v=true:=by
 unfold zW at h
 split at h
 ·rename_i t1 a t2 b
  obtain⟨h1,h⟩:=aF h
  obtain⟨h2,h⟩:=aF h
  obtain⟨h3,h⟩:=aF h
  obtain⟨h4,h⟩:=aF h
  obtain⟨h5,h⟩:=aF h
  rw [jH] at h
  rw [Nat.eq_of_beq_eq_true h1,Nat.eq_of_beq_eq_true h2]
  have h5:1≤b:=Nat.le_of_ble_eq_true h5
  refine⟨_,_,gI k a,gI k b,_,?_,h⟩
  rw [qo h3,qo h4,gI]
  simp only [iR]
  rw [if_neg (by omega),show Nat.div a b=a / b from rfl,Int.ofNat_tdiv]
 ·cases h
theorem rem_ok (h:FQ (tg k) (md k) x y K=true):∃a b,x.av= .i k a∧y.av= .i k b∧∃v:FV,iR .rem k a b=some v.av∧K v=true:=by
 unfold FQ at h
 split at h
 ·rename_i t1 a t2 b
  obtain⟨h1,h⟩:=aF h
  obtain⟨h2,h⟩:=aF h
  obtain⟨h3,h⟩:=aF h
  obtain⟨h4,h⟩:=aF h
  obtain⟨h5,h⟩:=aF h
  rw [jH] at h
  rw [Nat.eq_of_beq_eq_true h1,Nat.eq_of_beq_eq_true h2]
  have h5:1≤b:=Nat.le_of_ble_eq_true h5
  have hl:=DX h3
  have hle:a%b≤a:=Nat.mod_le a b
  refine⟨_,_,gI k a,gI k b,_,?_,h⟩
  rw [qo h3,qo h4,gI,show Nat.mod a b=a%b from rfl,wrap_small k (by omega)]
  simp only [iR]
  rw [if_neg (by omega),←Int.ofNat_tmod]
 ·cases h
theorem minB (n b:Nat):bC (Nat.ble n b) n b=min n b:=by
 cases hb:Nat.ble n b with
 | true=>rw [jr];have:=Nat.le_of_ble_eq_true hb;omega
 | false=>
   rw [iU]
   have:¬n≤b:=fun h=>by rw [Nat.ble_eq_true_of_le h] at hb;cases hb
   omega
theorem shl_ok (h:nZ (tg k) (md k) k.bits x y K=true):∃a q b,x.av= .i k a∧y.av= .i q b∧∃v:FV,oq .shl k a b=some v.av∧K v=true:=by
 unfold nZ at h
 split at h
 ·rename_i t1 a
  obtain⟨h1,h⟩:=aF h
  obtain⟨q,n,h2,h⟩:=iy h
  rw [jH] at h
  rw [Nat.eq_of_beq_eq_true h1]
  refine⟨_,q,_,gI k a,h2,_,?_,h⟩
  rw [Ci,minB]
  simp only [oq]
  rw [if_neg (by omega),Int.toNat_natCast]
  have e:((Nat.shiftLeft a (min n k.bits):Nat):Int)=(a:Int)*2^min n k.bits:=by
   show ((a <<< min n k.bits:Nat):Int)=_
   rw [Nat.shiftLeft_eq];push_cast;rfl
  rw [e]
  congr 2
  exact jk k (by rw [Int.mul_emod,iw,←Int.mul_emod])
 ·cases h
theorem shr_ok (h:nC (tg k) (md k) k.bits x y K=true):∃a q b,x.av= .i k a∧y.av= .i q b∧∃v:FV,oq .shr k a b=some v.av∧K v=true:=by
 unfold nC at h
 split at h
 ·rename_i t1 a
  obtain⟨h1,h⟩:=aF h
  obtain⟨h3,h⟩:=aF h
  obtain⟨q,n,h2,h⟩:=iy h
  rw [jH] at h
  rw [Nat.eq_of_beq_eq_true h1]
  refine⟨_,q,_,gI k a,h2,_,?_,h⟩
  have hl:=DX h3
  have e:Nat.shiftRight a (min n k.bits)=a / 2^min n k.bits:=Nat.shiftRight_eq_div_pow a _
  have hle:a / 2^min n k.bits≤a:=Nat.div_le_self _ _
  rw [qo h3,gI,minB,e,wrap_small k (by omega)]
  simp only [oq]
  rw [if_neg (by omega),Int.toNat_natCast]
  congr 2
  have e3:((2^min n k.bits:Nat):Int)=2^min n k.bits:=by rw [Int.natCast_pow];rfl
  rw [←e3,Int.fdiv_eq_ediv_of_nonneg _ (Int.natCast_nonneg _),Int.natCast_ediv]
 ·cases h
theorem Qe (h:eH (tg k) (md k) x K=true):∃q n,x.av= .i q n∧∃v:FV,v.av= .i k (k.wrap n)∧K v=true:=by
 unfold eH at h
 split at h
 ·rename_i t1 a
  cases h0:L9 t1 a with
  | true=>
    rw [h0,jr,jH] at h
    obtain⟨q,hq⟩:=Iu h0
    exact⟨q,a,hq,_,Ci k a,h⟩
  | false=>
    rw [h0,iU] at h
    unfold dCvtN at h
    split at h
    ·rename_i k1 hk1
     obtain⟨h1,hh1⟩:=aF h
     obtain⟨h2,hh2⟩:=aF hh1
     clear h hh1
     have h:=hh2
     clear hh2
     rw [jH] at h
     have ht:=zH hk1
     subst ht
     refine⟨k1,_,gI k1 a,_,?_,h⟩
     have h1:tg k1%2=1:=Nat.eq_of_beq_eq_true h1
     have h2:tg k1 / 4≤a%md k1:=Nat.le_of_ble_eq_true h2
     have hs:k1.signed=true:=by cases k1 <;> first | rfl | (exfalso;revert h1;decide)
     have hM1:a%md k1<md k1:=Nat.mod_lt _ (by cases k1 <;> decide)
     have hle:md k1≤md k*18446744073709551616:=by cases k <;> cases k1 <;> decide
     have hw:k1.wrap a=((a%md k1:Nat):Int) - (md k1:Nat):=by
      rw [JL] at h2
      have e2:((md k1:Nat):Int)=2^k1.bits:=by rw [Cc,lU]
      have e3:(a:Int)%2^k1.bits=((a%md k1:Nat):Int):=by rw [Int.natCast_emod,e2]
      unfold IntKind.wrap
      simp only
      rw [e3,hs,Bool.true_and,if_pos (by
         rw [decide_eq_true_eq]
         have:((2^(k1.bits - 1):Nat):Int)=2^(k1.bits - 1):=by cases k1 <;> rfl
         rw [←this];exact_mod_cast h2),e2]
     rw [Ci,hw]
     congr 1
     apply jk
     have e1:((Nat.sub (Nat.add (Nat.mod a (md k1)) (Nat.mul (md k) 18446744073709551616)) (md k1):Nat):Int)=(((a%md k1:Nat):Int) - (md k1:Nat))+(2^k.bits)*18446744073709551616:=by
      have e2:((md k:Nat):Int)=2^k.bits:=by rw [Cc,lU]
      show ((a%md k1+md k*18446744073709551616 - md k1:Nat):Int)=_
      rw [←e2];omega
     rw [show ((Nat.sub (Nat.add (Nat.mod a (md k1)) (Nat.mul (md k) (nat_lit 18446744073709551616))) (md k1):Nat):Int)=_ from e1,Int.add_mul_emod_self_left]
    ·cases h
 ·cases h
end
end Go.cO
namespace Go.cO
noncomputable def pkK:List FV→(Nat→Bool)→Bool:=List.rec (motive:=fun _=>(Nat→Bool)→Bool) (fun K=>K (nat_lit 0)) (fun a _ ih K=>FV.rec (motive_1:=fun _=>Bool) (motive_2:=fun _=>PUnit) (fun t x=>bC (Nat.beq t (nat_lit 512)) (ih fun v=>fN (Nat.add (Nat.mod x (nat_lit 256)) (Nat.mul (nat_lit 256) v)) K) false) (fun _ _ _=>false) (fun _ _ _ _ _=>false) (fun _ _=>false) (fun _ _ _ _=>false) ⟨⟩ (fun _ _ _ _=>⟨⟩) a)
noncomputable def JY (m:Nat)(d:List FV)(t:Tr FV):Bool:=match t,d with
 | .lf,[.n 512 0]=>Nat.beq m (nat_lit 1)
 | _,_=>false
noncomputable def IB (x:FV)(s:GS)(K:KF):Bool:=match x with
 | .n t _=>bC (Nat.beq t (nat_lit 3)) (K (.s (nat_lit 0) (nat_lit 0))) false
 | .sl o g off n z=>bC (Nat.beq z (nat_lit 1)) (xk (s.t.get o) g fun _ _ n' m d t=>bC (Nat.ble (Nat.add off n) n') (bC (JY m d t) (K (.s n (nat_lit 0))) (DN m d t n off fun l=>pkK l fun v=>K (.s n v))) false) false
 | _=>false
theorem Qg:∀(l:List FV) {K:Nat→Bool} (_:pkK l K=true),∃v,bytesOf (l.map FV.av)=some (fD l.length v)∧K v=true
 | [],K,hk=>⟨0,rfl,hk⟩
 | a :: l,K,hk=>by
   cases a with
   | n t x=>
     have hk':bC (Nat.beq t 512) (pkK l fun v=>fN (Nat.add (Nat.mod x 256) (Nat.mul 256 v)) K) false=true:=hk
     obtain⟨h1,h2⟩:=aF hk'
     have h1:=Nat.eq_of_beq_eq_true h1
     subst h1
     obtain⟨v,h3,h4⟩:=Qg l h2
     rw [jM] at h4
     refine⟨_,?_,h4⟩
     have hx:x%256<256:=Nat.mod_lt _ (by omega)
     have e1:FV.av (.n 512 x)= .i .u8 (x%256:Nat):=by
       rw [FV.AQ,show (512:Nat)=tg .u8 from rfl,jG,←kC .u8 x,show x%2^IntKind.u8.bits=x%256 from rfl,wrap_small .u8 (by simp only [IntKind.signed,IntKind.bits,if_false,Bool.false_eq_true];omega)]
     rw [List.map_cons,e1]
     simp only [bytesOf,h3,Option.map_some,List.length_cons,dX]
     have e2:Nat.add (Nat.mod x 256) (Nat.mul 256 v)=x%256+256*v:=rfl
     rw [e2,show (x%256+256*v)%256=x%256 by omega,show (x%256+256*v) / 256=v by omega,Int.toNat_natCast]
   | _=>cases hk
theorem Qh {n' m:Nat} {d:List FV} {t:Tr FV} {cs:List AV} (hz:JY m d t=true)(hc:dB n' m d t cs)(off n:Nat)(hl:off+n≤n'):bytesOf ((cs.drop off).take n)=some (fD n 0):=by
 unfold JY at hz
 split at hz
 ·have hm:m=1:=Nat.eq_of_beq_eq_true hz
  have hcell:∀i,i<n'→cs[i]? =some (.i .u8 0):=fun i hi=>by
   rw [hc.at_ i hi,hm]
   have:o9 1 [.n 512 0] .lf i= .n 512 0:=by
        show DJ [.n 512 0] (i%1)=_
        rw [Nat.mod_one];rfl
   rw [this];rfl
  have key:∀(k:Nat) (l:List AV),l.length=k→(∀i,i<k→l[i]? =some (.i .u8 0))→bytesOf l=some (fD k 0):=by
   intro k
   induction k with
   | zero=>intro l hl _;rw [List.eq_nil_of_length_eq_zero hl];rfl
   | succ k ih=>
     intro l hl hi
     cases l with
     | nil=>simp at hl
     | cons a l=>
       have h0:a= .i .u8 0:=Option.some.inj (hi 0 (by omega))
       subst h0
       have h1:=ih l (by simpa using hl) (fun i hlt=>by have:=hi (i+1) (by omega);simpa using this)
       simp only [bytesOf,h1,Option.map_some,dX];rfl
  refine key n _ (by have:=hc.len;simp;omega) fun i hi=>?_
  rw [List.getElem?_take,if_pos hi,List.getElem?_drop]
  exact hcell _ (by omega)
 ·cases hz
theorem Cj {P:Program} {s:GS} {σ:St} {K:KF} {a b e:Nat} {x:FV} {s1 b1 s2 b2 s3 b3:Nat} {z1 z2 z3:AV} {c1 h1 g1 c2 h2 g2 c3 h3 g3:Bool} (hA:aA P a=some ⟨.slice e,s1,b1,z1,c1,h1,g1⟩)(hB:aA P b=some ⟨.str,s2,b2,z2,c2,h2,g2⟩)(he:aA P e=some ⟨.int .u8,s3,b3,z3,c3,h3,g3⟩)
 (h:s.Is σ) (hk2:IB x s K=true):∃v:FV,iW P a b x.av σ=some (v.av,σ)∧K v=true:=by
 unfold IB at hk2
 split at hk2
 ·rename_i t x'
  obtain⟨h2,hk3⟩:=aF hk2
  have h2:t=3:=Nat.eq_of_beq_eq_true h2
  refine⟨_,?_,hk3⟩
  simp only [iW,hA,hB]
  rw [h2,show FV.av (.n 3 x')= .sl0 from rfl]
  simp only [he];rfl
 ·rename_i o g off n z
  obtain⟨h2,hk3⟩:=aF hk2
  have h2:z=1:=Nat.eq_of_beq_eq_true h2
  obtain⟨ro,e',n',m,d,t,cs,w1,w2,w3⟩:=jJ h hk3
  obtain⟨h4,h5⟩:=aF w3
  have h4:off+n≤n':=Nat.le_of_ble_eq_true h4
  cases hz0:JY m d t with
  | true=>
    rw [hz0,jr] at h5
    have hby:=Qh hz0 w2 off n h4
    refine⟨_,?_,h5⟩
    simp only [iW,hA,hB,FV.qV,he]
    rw [if_pos h2,iO w1]
    simp only [Option.bind_some]
    rw [if_pos (by rw [w2.len];exact h4),hby];rfl
  | false=>
  rw [hz0,iU] at h5
  obtain⟨l,r1,r2,r3⟩:=qJ w2 n off h4 h5
  obtain⟨v,v1,v2⟩:=Qg l r1
  have hll:l.length=n:=by
   have e1:=congrArg List.length r2
   have:=w2.len
   simp only [List.length_map,List.length_take,List.length_drop] at e1
   omega
  refine⟨_,?_,v2⟩
  simp only [iW,hA,hB,FV.qV,he]
  rw [if_pos h2,iO w1]
  simp only [Option.bind_some]
  rw [if_pos (by rw [w2.len];exact h4),←r2,v1,hll];rfl
 ·cases hk2
section
variable (P:Program)(τ:gU)
noncomputable def dQ (o:Option AV)(K:KF):Bool:=match o with
 | some v=>bC (Mc v) (K (xq v)) false
 | none=>false
noncomputable def n_ (op:dG)(ρ:bH→FV)(K:KF):Bool:=match op with
 | .bin op t x y=>dQ (gQ P op t (ρ x).av (ρ y).av (x.isC || y.isC)) K
 | .un op x=>dQ (Vl op (ρ x).av) K
 | .idx t x i=>dQ (CU P t (ρ x).av (ρ i).av) K
 | .build t ps=>dQ (jP P t ((ps.map fun q=>(q.1,ρ q.2)).map fun q=>(q.1,q.2.av))) K
 | .len t x=>dQ (Ar P t (ρ x).av) K
 | .Vk x _ t ok=>dQ (G8 P (ρ x).av t ok) K
 | .mn mx xs=>dQ (MS mx ((xs.map ρ).map FV.av)) K
 | .sl3 t x lo h m=>dQ (Ku P t (ρ x).av ((lo.map ρ).map FV.av) (ρ h).av (ρ m).av) K
 | _=>false
noncomputable def Qi (k:IntKind)(op:BinOp)(t:Nat)(x y:bH)(ρ:bH→FV)(K:KF):Bool:=match op with
 | .add=>dh (ρ x) (tg k) (md k) (ρ y) K
 | .sub=>jv (ρ x) (tg k) (md k) (ρ y) K
 | .mul=>uD (ρ x) (tg k) (md k) (ρ y) K
 | .and=>kL (ρ x) (tg k) (md k) (ρ y) K
 | .or=>dOr (ρ x) (tg k) (md k) (ρ y) K
 | .xor=>dXor (ρ x) (tg k) (md k) (ρ y) K
 | .lss=>fF (ρ x) (tg k) (md k) (ρ y) K
 | .leq=>rU (ρ x) (tg k) (md k) (ρ y) K
 | .gtr=>lV (ρ x) (tg k) (md k) (ρ y) K
 | .geq=>lW (ρ x) (tg k) (md k) (ρ y) K
 | .eql=>bT (ρ x) (tg k) (md k) (ρ y) K
 | .neq=>jL (ρ x) (tg k) (md k) (ρ y) K
 | .quo=>zW (tg k) (md k) (ρ x) (ρ y) K
 | .rem=>FQ (tg k) (md k) (ρ x) (ρ y) K
 | .shl=>nZ (tg k) (md k) k.bits (ρ x) (ρ y) K
 | .shr=>nC (tg k) (md k) k.bits (ρ x) (ρ y) K
 | op=>n_ P (.bin op t x y) ρ K
noncomputable def Qj (op:BinOp)(t:Nat)(x y:bH)(ρ:bH→FV)(K:KF):Bool:=match op with
 | .add=>JR (ρ x) (ρ y) K
 | .eql=>w_ (ρ x) (ρ y) K
 | .neq=>L_ (ρ x) (ρ y) K
 | op=>n_ P (.bin op t x y) ρ K
noncomputable def gBinN (d:AD)(op:BinOp)(t:Nat)(x:bH)(v:AV)(ρ:bH→FV)(K:KF):Bool:=match op with
 | .eql=>oU (wS d) (ρ x) K
 | .neq=>Xf (wS d) (ρ x) K
 | op=>n_ P (.bin op t x (.c v)) ρ K
noncomputable def gBin (op:BinOp)(t:Nat)(x y:bH)(ρ:bH→FV)(K:KF):Bool:=match τ t with
 | some T=>(match T.d with
   | .int k=>Qi P k op t x y ρ K
   | .str=>Qj P op t x y ρ K
   | d=>match y with
     | .c v=>bC (Nat.beq (isNil v) (wS d)) (gBinN P d op t x v ρ K) (n_ P (.bin op t x y) ρ K)
     | .t _=>n_ P (.bin op t x y) ρ K)
 | none=>false
noncomputable def gUn (op:UnOp)(x:bH)(ρ:bH→FV)(K:KF):Bool:=match op with
 | .not=>fV (ρ x) K
 | op=>n_ P (.un op x) ρ K
noncomputable def gLen (t:Nat)(x:bH)(ρ:bH→FV)(K:KF):Bool:=match τ t with
 | some T=>(match T.d with
   | .str=>gY (ρ x) K
   | .slice _=>fP (ρ x) K
   | _=>n_ P (.len t x) ρ K)
 | none=>false
noncomputable def gFad (t:Nat)(x:bH)(f:Nat)(ρ:bH→FV)(K:KF):Bool:=match τ t with
 | some T=>(match T.d with
   | .st fs=>(match fs[f]? with
     | some r=>bC (Nat.ble (nat_lit 1) (um τ r.2.1)) (aI r.1 (ρ x) K) false
     | none=>false)
   | _=>false)
 | none=>false
noncomputable def gFld (t:Nat)(x:bH)(f:Nat)(ρ:bH→FV)(K:KF):Bool:=match τ t with
 | some T=>(match T.d with
   | .st fs=>(match fs[f]? with
     | some r=>(match τ r.2.1 with
       | some F=>bC F.d.agg (Ce r.1 F.size (ρ x) K) (nY r.1 (ρ x) K)
       | none=>false)
     | none=>false)
   | _=>false)
 | none=>false
noncomputable def gIad (t:Nat)(x i:bH)(ρ:bH→FV)(K:KF):Bool:=match τ t with
 | some T=>(match T.d with
   | .slice e=>bC (Nat.ble (nat_lit 1) (um τ e)) (fK (um τ e) (ρ x) (ρ i) K) false
   | .arr n e=>bC (Nat.ble (nat_lit 1) (um τ e)) (iI n (um τ e) (ρ x) (ρ i) K) false
   | _=>false)
 | none=>false
noncomputable def gIdx (t:Nat)(x i:bH)(ρ:bH→FV)(K:KF):Bool:=match τ t with
 | some T=>(match T.d with
   | .str=>uF (ρ x) (ρ i) K
   | _=>n_ P (.idx t x i) ρ K)
 | none=>false
noncomputable def Qk (n:Nat)(lo hi:Option FV)(K:Nat→Nat→Bool):Bool:=match lo,hi with
 | none,none=>K (nat_lit 0) n
 | some i,none=>qN i fun a=>bC (Nat.ble a n) (K a n) false
 | none,some j=>qN j fun b=>bC (Nat.ble b n) (K (nat_lit 0) b) false
 | some i,some j=>qN i fun a=>qN j fun b=>bC (Nat.ble a b) (bC (Nat.ble b n) (K a b) false) false
noncomputable def Cm (z:Nat)(x:FV)(lo hi:Option FV)(K:KF):Bool:=match x with
 | .sl o g off n z'=>bC (Nat.beq z' z) (Qk n lo hi fun a b=>fN (Nat.add off (Nat.mul a z)) fun off=>fN (Nat.sub b a) fun n=>K (.sl o g off n z)) false
 | .n t _=>bC (Nat.beq t (nat_lit 3)) (Qk (nat_lit 0) lo hi fun _ _=>K (.n (nat_lit 3) (nat_lit 0))) false
 | _=>false
noncomputable def zY (n z:Nat)(x:FV)(lo hi:Option FV)(s:GS)(K:KF):Bool:=match x with
 | .p o g off=>xk (s.t.get o) g fun _ _ n' _ _ _=>bC (Nat.ble (Nat.add off (Nat.mul n z)) n') (Qk n lo hi fun a b=>fN (Nat.add off (Nat.mul a z)) fun off=>fN (Nat.sub b a) fun n=>K (.sl o g off n z)) false
 | _=>false
noncomputable def gSlc (t:Nat)(x:bH)(lo hi:Option bH)(ρ:bH→FV)(s:GS)(K:KF):Bool:=match τ t with
 | some T=>(match T.d with
   | .str=>jI (ρ x) (lo.map ρ) (hi.map ρ) K
   | .slice e=>bC (Nat.ble (nat_lit 1) (um τ e)) (Cm (um τ e) (ρ x) (lo.map ρ) (hi.map ρ) K) false
   | .arr n e=>bC (Nat.ble (nat_lit 1) (um τ e)) (zY n (um τ e) (ρ x) (lo.map ρ) (hi.map ρ) s K) false
   | _=>false)
 | none=>false
noncomputable def Ql (t:Nat)(x:bH)(ρ:bH→FV)(s:GS)(K:KF):Bool:=match τ t with
 | some T=>bC T.d.agg (aB T.size (ρ x) s K) (ak (ρ x) s K)
 | none=>false
noncomputable def gMki (t:Nat)(x:bH)(ρ:bH→FV)(K:KF):Bool:=match τ t with
 | some ⟨.xC _,_,_,_,_,_,_⟩=>false
 | some _=>K (.c (nat_lit 2) t [ρ x])
 | none=>false
noncomputable def Xj (v:FV):List FV→Nat→List FV:=List.rec (motive:=fun _=>Nat→List FV) (fun _=>[]) (fun a l ih k=>Nat.rec (motive:=fun _=>List FV) (v :: l) (fun k _=>a :: ih k) k)
noncomputable def Qm (place:Nat→Option (Nat×Nat))(K:List FV→List FV→Bool):List (Nat×FV)→List FV→List FV→Bool:=List.rec (motive:=fun _=>List FV→List FV→Bool) (fun cs os=>K cs os) (fun p _ ih cs os=>match place p.1 with
 | some (off,size)=>bC (Nat.beq size (nat_lit 1)) (bC (Nat.ble (Nat.succ off) cs.length) (ih (Xj p.2 cs off) (p.2 :: os)) false) false
 | none=>false)
noncomputable def ones1 (place:Nat→Option (Nat×Nat)):List (Nat×bH)→Bool:=List.rec (motive:=fun _=>Bool) true (fun p _ ih=>match place p.1 with
 | some (_,size)=>bC (Nat.beq size (nat_lit 1)) ih false
 | none=>false)
noncomputable def dn (os:List FV)(B:Bool):Bool:=bC (iQ os) B false
noncomputable def IC (t:Nat)(ps:List (Nat×bH))(ρ:bH→FV)(K:KF):Bool:=match τ t with
 | some T=>(match T.d with
   | .st fs=>bC (bC (allT τ fs) (bC (qW T.zero.cells) (ones1 (fun i=>(fs[i]?).bind fun f=>(τ f.2.1).map fun F=>(f.1,F.size)) ps) false) false)
    (Qm (fun i=>(fs[i]?).bind fun f=>(τ f.2.1).map fun F=>(f.1,F.size)) (fun cs os=>dn os (K (.c (nat_lit 0) (nat_lit 0) cs))) (ps.map fun q=>(q.1,ρ q.2)) (eG T.zero.cells) [])
    (n_ P (.build t ps) ρ K)
   | _=>n_ P (.build t ps) ρ K)
 | none=>false
noncomputable def gMkf (f:Fn)(a c:List bH)(ρ:bH→FV)(K:KF):Bool:=match f with
 | .func k=>K (.c (nat_lit 3) k [.c (nat_lit 0) (nat_lit 0) (a.map ρ),.c (nat_lit 0) (nat_lit 0) (c.map ρ)])
 | _=>false
noncomputable def gCvp (b:Bool)(t1 t2:Nat)(x:bH)(ρ:bH→FV)(s:GS)(K:KF):Bool:=match τ t1,τ t2 with
 | some A,some B=>(match A.d,B.d,b with
   | _,.int k,true=>eH (tg k) (md k) (ρ x) K
   | .slice e,.str,false=>bC (Fb τ e) (IB (ρ x) s K) false
   | _,_,_=>false)
 | _,_=>false
noncomputable def FT (op:dG)(ρ:bH→FV)(s:GS)(K:KF):Bool:=match op with
 | .mv x=>K (ρ x)
 | .pick c a b=>aT (ρ c) (ρ a) (ρ b) K
 | .load t x=>Ql τ t x ρ s K
 | .bin op t x y=>gBin P τ op t x y ρ K
 | .un op x=>gUn P op x ρ K
 | .len t x=>gLen P τ t x ρ K
 | .kW t x f=>gFad τ t x f ρ K
 | .wV t x f=>gFld τ t x f ρ K
 | .iD t x i=>gIad τ t x i ρ K
 | .idx t x i=>gIdx P τ t x i ρ K
 | .ext x i=>aY i (ρ x) K
 | .iF x=>aZ (ρ x) K
 | .Vj t x=>gMki τ t x ρ K
 | .xA f a c=>gMkf f a c ρ K
 | .slc t x l h=>gSlc τ t x l h ρ s K
 | .build t ps=>IC P τ t ps ρ K
 | .xB b t1 t2 x=>gCvp τ b t1 t2 x ρ s K
 | op=>n_ P op ρ K
end
section
variable {P:Program} {τ:gU} (bM:τ.Ok P) {ρ:bH→FV} {K:KF} {s:GS} {σ:St}
def jq (P:Program)(ρ:bH→FV)(op:dG)(σ:St)(K:KF):Prop:=∃v:FV,dO P (fun o=>(ρ o).av) op σ=some (v.av,σ)∧K v=true
theorem og {o:Option AV} {K:KF} (hk:dQ o K=true):∃v:FV,o=some v.av∧K v=true:=by
 unfold dQ at hk
 split at hk
 ·rename_i v
  obtain⟨h3,h4⟩:=aF hk
  exact⟨_,by rw [kT v h3],h4⟩
 ·cases hk
theorem iJ {op:dG} (hk:n_ P op ρ K=true):jq P ρ op σ K:=by
 have hm:∀l:Option bH,(l.map ρ).map FV.av=l.map (fun o=>(ρ o).av):=fun l=>by cases l <;> rfl
 unfold n_ at hk
 split at hk
 all_goals first | cases hk | (obtain⟨v,h1,h2⟩:=og hk;refine⟨v,?_,h2⟩;simp only [dO])
 ·rw [h1];rfl
 ·rw [h1];rfl
 ·rw [h1];rfl
 ·rw [List.map_map] at h1
  rw [show (fun q:Nat×bH=>(q.1,(ρ q.2).av))=(fun q:Nat×FV=>(q.1,q.2.av)) ∘ (fun q=>(q.1,ρ q.2)) from rfl,h1];rfl
 ·rw [h1];rfl
 ·rw [h1];rfl
 ·rw [List.map_map] at h1
  rw [show (fun o=>(ρ o).av)=FV.av ∘ ρ from rfl,h1];rfl
 ·rw [hm] at h1;rw [h1];rfl
theorem gu {op:BinOp} {t:Nat} {x y:bH} (h:∃v:FV,gQ P op t (ρ x).av (ρ y).av (x.isC || y.isC)=some v.av∧K v=true):jq P ρ (.bin op t x y) σ K:=by
 obtain⟨v,h1,h2⟩:=h
 exact⟨v,by simp only [dO];rw [h1];rfl,h2⟩
theorem fZ {op:BinOp} {t:Nat} {k:IntKind} {x y:AV} {c:Bool} {a b:Int} {r:Option AV} (h1:x= .i k a)(h2:y= .i k b)(h3:iR op k a b=r)(ho:op≠.shl∧op≠.shr):gQ P op t x y c=r:=by
 subst h1 h2 h3
 cases op <;> first | (simp only [gQ,if_true];done) | (exfalso;exact ho.1 rfl) | (exfalso;exact ho.2 rfl)
theorem Qn {k:IntKind} {op:BinOp} {t:Nat} {x y:bH} (hk:Qi P k op t x y ρ K=true):jq P ρ (.bin op t x y) σ K:=by
 unfold Qi at hk
 split at hk
 case h_17=>exact iJ hk
 case h_15=>
  obtain⟨a,q,b,h1,h2,v,h3,h4⟩:=shl_ok hk
  exact gu ⟨v,by rw [h1,h2];simp only [gQ];exact h3,h4⟩
 case h_16=>
  obtain⟨a,q,b,h1,h2,v,h3,h4⟩:=shr_ok hk
  exact gu ⟨v,by rw [h1,h2];simp only [gQ];exact h3,h4⟩
 case h_1=>obtain⟨a,b,h1,h2,v,h3,h4⟩:=add_ok hk;exact gu ⟨v,fZ h1 h2 h3 (by decide),h4⟩
 case h_2=>obtain⟨a,b,h1,h2,v,h3,h4⟩:=sub_ok hk;exact gu ⟨v,fZ h1 h2 h3 (by decide),h4⟩
 case h_3=>obtain⟨a,b,h1,h2,v,h3,h4⟩:=mul_ok hk;exact gu ⟨v,fZ h1 h2 h3 (by decide),h4⟩
 case h_4=>obtain⟨a,b,h1,h2,v,h3,h4⟩:=and_ok hk;exact gu ⟨v,fZ h1 h2 h3 (by decide),h4⟩
 case h_5=>obtain⟨a,b,h1,h2,v,h3,h4⟩:=or_ok hk;exact gu ⟨v,fZ h1 h2 h3 (by decide),h4⟩
 case h_6=>obtain⟨a,b,h1,h2,v,h3,h4⟩:=xor_ok hk;exact gu ⟨v,fZ h1 h2 h3 (by decide),h4⟩
 case h_7=>obtain⟨a,b,h1,h2,v,h3,h4⟩:=lss_ok hk;exact gu ⟨v,fZ h1 h2 h3 (by decide),h4⟩
 case h_8=>obtain⟨a,b,h1,h2,v,h3,h4⟩:=leq_ok hk;exact gu ⟨v,fZ h1 h2 h3 (by decide),h4⟩
 case h_9=>obtain⟨a,b,h1,h2,v,h3,h4⟩:=gtr_ok hk;exact gu ⟨v,fZ h1 h2 h3 (by decide),h4⟩
 case h_10=>obtain⟨a,b,h1,h2,v,h3,h4⟩:=geq_ok hk;exact gu ⟨v,fZ h1 h2 h3 (by decide),h4⟩
 case h_11=>obtain⟨a,b,h1,h2,v,h3,h4⟩:=eqi_ok hk;exact gu ⟨v,fZ h1 h2 h3 (by decide),h4⟩
 case h_12=>obtain⟨a,b,h1,h2,v,h3,h4⟩:=nei_ok hk;exact gu ⟨v,fZ h1 h2 h3 (by decide),h4⟩
 case h_13=>obtain⟨a,b,h1,h2,v,h3,h4⟩:=quo_ok hk;exact gu ⟨v,fZ h1 h2 h3 (by decide),h4⟩
 case h_14=>obtain⟨a,b,h1,h2,v,h3,h4⟩:=rem_ok hk;exact gu ⟨v,fZ h1 h2 h3 (by decide),h4⟩
theorem zZ {op:BinOp} {t:Nat} {x y:AV} {c:Bool} {a b:List UInt8} {r:Option AV} (h1:x= .s a)(h2:y= .s b)(h3:Aq op a b=r):gQ P op t x y c=r:=by
 subst h1 h2 h3
 unfold gQ
 cases op <;> rfl
theorem Qo {op:BinOp} {t:Nat} {x y:bH} (hk:Qj P op t x y ρ K=true):jq P ρ (.bin op t x y) σ K:=by
 unfold Qj at hk
 split at hk
 ·obtain⟨a,b,h1,h2,v,h3,h4⟩:=P5 hk
  exact gu ⟨v,zZ h1 h2 h3,h4⟩
 ·obtain⟨a,b,h1,h2,v,h3,h4⟩:=WZ hk
  exact gu ⟨v,zZ h1 h2 (by rw [h3];rfl),h4⟩
 ·obtain⟨a,b,h1,h2,v,h3,h4⟩:=W9 hk
  exact gu ⟨v,zZ h1 h2 (by rw [h3];rfl),h4⟩
 ·exact iJ hk
include bM
theorem Xk {op:BinOp} {t:Nat} {x y:bH} (hy:∀v,y= .c v→(ρ y).av=v)(hk:gBin P τ op t x y ρ K=true):jq P ρ (.bin op t x y) σ K:=by
 unfold gBin at hk
 split at hk
 ·rename_i T hT
  split at hk
  ·exact Qn hk
  ·exact Qo hk
  ·split at hk
   ·rename_i v
    cases hb:Nat.beq (isNil v) (wS T.d) with
    | false=>rw [hb,iU] at hk;exact iJ hk
    | true=>
      rw [hb,jr] at hk
      have hv:=Nat.eq_of_beq_eq_true hb
      unfold gBinN at hk
      split at hk
      ·obtain⟨b,h1,h2,h3⟩:=nil_eq (bM _ _ hT) (K:=fun b=>kB b K) hk hv
       obtain⟨r,h4,h5⟩:=zJ h1
       refine gu ⟨r,?_,h5⟩
       rw [hy v rfl,show (x.isC || (bH.c v).isC)=true by simp [bH.isC],h2,h4]
      ·obtain⟨b,h1,h2,h3⟩:=nil_eq (bM _ _ hT) (K:=fun b=>kN b K) hk hv
       obtain⟨r,h4,h5⟩:=PG h1
       refine gu ⟨r,?_,h5⟩
       rw [hy v rfl,show (x.isC || (bH.c v).isC)=true by simp [bH.isC],h3,h4]
      ·exact iJ hk
   ·exact iJ hk
 ·cases hk
omit bM in
theorem gUn_ok {op:UnOp} {x:bH} (hk:gUn P op x ρ K=true):jq P ρ (.un op x) σ K:=by
 unfold gUn at hk
 split at hk
 ·obtain⟨b,h1,v,h2,h3⟩:=Xh hk
  exact⟨v,by simp only [dO,h1,Vl,h2];rfl,h3⟩
 ·exact iJ hk
theorem Xl {t:Nat} {x:bH} (hk:gLen P τ t x ρ K=true):jq P ρ (.len t x) σ K:=by
 unfold gLen at hk
 split at hk
 ·rename_i T hT
  obtain⟨d,s1,b1,z1,c1,hd1,g1⟩:=T
  simp only at hk
  split at hk
  ·obtain⟨a,h1,v,h2,h3⟩:=P6 hk
   exact⟨v,by simp only [dO,h1,Ar,bM _ _ hT,h2];rfl,h3⟩
  ·rcases P7 hk with ⟨o,g,off,n,z,h1,v,h2,h3⟩ | ⟨h1,v,h2,h3⟩
   ·exact⟨v,by simp only [dO,h1,Ar,bM _ _ hT,h2];rfl,h3⟩
   ·exact⟨v,by simp only [dO,h1,Ar,bM _ _ hT,h2];rfl,h3⟩
  ·exact iJ hk
 ·cases hk
theorem Xm {t:Nat} {x:bH} {f:Nat} (hk:gFad τ t x f ρ K=true):jq P ρ (.kW t x f) σ K:=by
 unfold gFad at hk
 split at hk
 ·rename_i T hT
  obtain⟨d,s1,b1,z1,c1,hd1,g1⟩:=T
  simp only at hk
  split at hk
  ·rename_i fs
   split at hk
   ·rename_i r hr
    obtain⟨h1,hk2⟩:=aF hk
    have h1:0<um τ r.2.1:=Nat.le_of_ble_eq_true h1
    unfold aI at hk2
    split at hk2
    ·rename_i o g b hx
     refine⟨_,?_,hk2⟩
     simp only [dO,hx,FV.wZ,Kv,bM _ _ hT,hr,Option.bind_some]
     rw [if_pos (by rw [kJ bM h1];exact h1)];rfl
    ·cases hk2
   ·cases hk
  ·cases hk
 ·cases hk
theorem Xn {t:Nat} {x:bH} {f:Nat} (hk:gFld τ t x f ρ K=true):jq P ρ (.wV t x f) σ K:=by
 unfold gFld at hk
 split at hk
 ·rename_i T hT
  obtain⟨d,s1,b1,z1,c1,hd1,g1⟩:=T
  simp only at hk
  split at hk
  ·rename_i fs
   split at hk
   ·rename_i r hr
    split at hk
    ·rename_i F hF
     cases ha:F.d.agg with
     | true=>
       rw [ha,jr] at hk
       unfold Ce at hk
       split at hk
       ·rename_i a l hx
        obtain⟨h1,hk2⟩:=aF hk
        rw [vJ,zQ,uI] at hk2
        refine⟨_,?_,hk2⟩
        have h1:r.1+F.size≤l.length:=Nat.le_of_ble_eq_true h1
        simp only [dO,hx,qc,GZ,bM _ _ hT,hr,Option.bind_some,bM _ _ hF,partOf,ha,if_true,List.length_map]
        rw [if_pos h1,List.map_take,List.map_drop];rfl
       ·cases hk
     | false=>
       rw [ha,iU] at hk
       unfold nY at hk
       split at hk
       ·rename_i a l hx
        obtain⟨v,h1,h2⟩:=DW _ _ hk
        refine⟨v,?_,h2⟩
        simp only [dO,hx,qc,GZ,bM _ _ hT,hr,Option.bind_some,bM _ _ hF,partOf,ha,Bool.false_eq_true,if_false,List.getElem?_map,h1,Option.map_some]
       ·cases hk
    ·cases hk
   ·cases hk
  ·cases hk
 ·cases hk
theorem Xo {t:Nat} {x i:bH} (hk:gIad τ t x i ρ K=true):jq P ρ (.iD t x i) σ K:=by
 unfold gIad at hk
 split at hk
 ·rename_i T hT
  obtain⟨d,s1,b1,z1,c1,hd1,g1⟩:=T
  simp only at hk
  split at hk
  ·rename_i e
   obtain⟨h1,hk2⟩:=aF hk
   have h1:0<um τ e:=Nat.le_of_ble_eq_true h1
   have hz:=kJ bM h1
   unfold fK at hk2
   split at hk2
   ·rename_i o g b n z' hx
    obtain⟨h2,hk3⟩:=aF hk2
    obtain⟨q,j,h3,hk4⟩:=iy hk3
    obtain⟨h4,hk5⟩:=aF hk4
    have h2:=Nat.eq_of_beq_eq_true h2
    have h4:j<n:=Nat.le_of_ble_eq_true h4
    refine⟨_,?_,hk5⟩
    simp only [dO,hx,FV.qV,h3,G5,bM _ _ hT]
    rw [if_pos ⟨by rw [hz,h2],by omega,by omega,by omega⟩,h2]
    simp [FV.wZ]
   ·cases hk2
  ·rename_i n e
   obtain⟨h1,hk2⟩:=aF hk
   have h1:0<um τ e:=Nat.le_of_ble_eq_true h1
   have hz:=kJ bM h1
   unfold iI at hk2
   split at hk2
   ·rename_i o g b hx
    obtain⟨q,j,h3,hk4⟩:=iy hk2
    obtain⟨h4,hk5⟩:=aF hk4
    have h4:j<n:=Nat.le_of_ble_eq_true h4
    refine⟨_,?_,hk5⟩
    simp only [dO,hx,FV.wZ,h3,G5,bM _ _ hT]
    rw [if_pos ⟨by rw [hz];exact h1,by omega,by omega⟩,hz]
    simp
   ·cases hk2
  ·cases hk
 ·cases hk
theorem Xp {t:Nat} {x i:bH} (hk:gIdx P τ t x i ρ K=true):jq P ρ (.idx t x i) σ K:=by
 unfold gIdx at hk
 split at hk
 ·rename_i T hT
  obtain⟨d,s1,b1,z1,c1,hd1,g1⟩:=T
  simp only at hk
  split at hk
  ·obtain⟨a,q,j,h1,h2,b,h3,v,h4,h5⟩:=P8 hk
   refine⟨v,?_,h5⟩
   simp only [dO,h1,h2,CU,bM _ _ hT]
   rw [if_pos (by omega),Int.toNat_natCast,h3,h4];rfl
  ·exact iJ hk
 ·cases hk
omit bM in
theorem DY {n:Nat} {lo hi:Option FV} {K:Nat→Nat→Bool} (hk:Qk n lo hi K=true):∃a b,dV n n (lo.map FV.av) (hi.map FV.av)=some (a,b)∧a≤b∧b≤n∧K a b=true:=by
 unfold Qk at hk
 split at hk
 ·exact⟨0,n,by simp [dV,GX,GY],Nat.zero_le _,Nat.le_refl _,hk⟩
 ·obtain⟨q,a,h1,hk2⟩:=iy hk
  obtain⟨h2,hk3⟩:=aF hk2
  have h2:a≤n:=Nat.le_of_ble_eq_true h2
  refine⟨a,n,?_,h2,Nat.le_refl _,hk3⟩
  simp only [Option.map_some,Option.map_none,h1,dV,GX,GY,Option.bind_some]
  rw [if_pos (by omega)];simp
 ·obtain⟨q,b,h1,hk2⟩:=iy hk
  obtain⟨h2,hk3⟩:=aF hk2
  have h2:b≤n:=Nat.le_of_ble_eq_true h2
  refine⟨0,b,?_,Nat.zero_le _,h2,hk3⟩
  simp only [Option.map_some,Option.map_none,h1,dV,GX]
  rw [if_pos (by omega)];simp [GY]
 ·obtain⟨q,a,h1,hk2⟩:=iy hk
  obtain⟨q',b,h1',hk3⟩:=iy hk2
  obtain⟨h2,hk4⟩:=aF hk3
  obtain⟨h3,hk5⟩:=aF hk4
  have h2:a≤b:=Nat.le_of_ble_eq_true h2
  have h3:b≤n:=Nat.le_of_ble_eq_true h3
  refine⟨a,b,?_,h2,h3,hk5⟩
  simp only [Option.map_some,h1,h1',dV,GX]
  rw [if_pos (by omega)]
  simp only [Option.bind_some,GY]
  rw [if_pos (by omega)];simp
theorem Xq (h:s.Is σ) {t:Nat} {x:bH} {lo hi:Option bH} (hk:gSlc τ t x lo hi ρ s K=true):jq P ρ (.slc t x lo hi) σ K:=by
 have hm:∀l:Option bH,(l.map ρ).map FV.av=l.map (fun o=>(ρ o).av):=fun l=>by cases l <;> rfl
 unfold gSlc at hk
 split at hk
 ·rename_i T hT
  obtain⟨d,s1,b1,z1,c1,hd1,g1⟩:=T
  simp only at hk
  split at hk
  ·obtain⟨a,h1,r,h2,h3⟩:=P9 hk
   rw [hm,hm] at h2
   refine⟨r,?_,h3⟩
   simp only [dO,h1,wX,bM _ _ hT]
   rw [h2];rfl
  ·rename_i e
   obtain⟨h1,hk2⟩:=aF hk
   have h1:0<um τ e:=Nat.le_of_ble_eq_true h1
   have hz:=kJ bM h1
   unfold Cm at hk2
   split at hk2
   ·rename_i o g off n z' hx
    obtain⟨h2,hk3⟩:=aF hk2
    have h2:=Nat.eq_of_beq_eq_true h2
    obtain⟨a,b,h3,_,_,hk4⟩:=DY hk3
    rw [jM,jM] at hk4
    rw [hm,hm] at h3
    refine⟨_,?_,hk4⟩
    simp only [dO,hx,FV.qV,wX,bM _ _ hT]
    rw [if_pos ⟨by rw [hz,h2],by omega⟩,h3,h2];rfl
   ·rename_i t' x' hx
    obtain⟨h2,hk3⟩:=aF hk2
    have h2:t'= 3:=Nat.eq_of_beq_eq_true h2
    obtain⟨a,b,h3,_,_,hk4⟩:=DY hk3
    rw [hm,hm] at h3
    refine⟨_,?_,hk4⟩
    simp only [dO,hx,wX,bM _ _ hT]
    rw [h2,show FV.av (.n 3 x')= .sl0 from rfl]
    simp only
    rw [if_pos (by rw [hz];exact h1),h3];rfl
   ·cases hk2
  ·rename_i n e
   obtain⟨h1,hk2⟩:=aF hk
   have h1:0<um τ e:=Nat.le_of_ble_eq_true h1
   have hz:=kJ bM h1
   unfold zY at hk2
   split at hk2
   ·rename_i o g off hx
    obtain⟨ro,e',n',m,d,t',cs,q1,q2,q3⟩:=jJ h hk2
    obtain⟨h2,hk3⟩:=aF q3
    have h2:off+n*um τ e≤n':=Nat.le_of_ble_eq_true h2
    obtain⟨a,b,h3,_,_,hk4⟩:=DY hk3
    rw [jM,jM] at hk4
    rw [hm,hm] at h3
    refine⟨_,?_,hk4⟩
    simp only [dO,hx,FV.wZ,wX,bM _ _ hT]
    rw [hz,if_pos h1,iO q1]
    simp only [Option.bind_some]
    rw [if_pos (by rw [q2.len];exact h2),h3];rfl
   ·cases hk2
  ·cases hk
 ·cases hk
theorem Qp (h:s.Is σ) {t:Nat} {x:bH} (hk:Ql τ t x ρ s K=true):jq P ρ (.load t x) σ K:=by
 unfold Ql at hk
 split at hk
 ·rename_i T hT
  cases ha:T.d.agg with
  | true=>
    rw [ha,jr] at hk
    obtain⟨v,h1,h2⟩:=Cb h ha hk
    exact⟨v,by simp only [dO,bM _ _ hT,h1];rfl,h2⟩
  | false=>
    rw [ha,iU] at hk
    obtain⟨v,h1,h2⟩:=lq h ha hk
    exact⟨v,by simp only [dO,bM _ _ hT,h1];rfl,h2⟩
 ·cases hk
omit bM in
theorem JZ (v:FV):∀(l:List FV) (k:Nat),(Xj v l k).map FV.av=(l.map FV.av).set k v.av
 | [],k=>rfl
 | a :: l,0=>rfl
 | a :: l,k+1=>by
   show (a :: Xj v l k).map FV.av=_
   rw [List.map_cons,JZ v l k,List.map_cons,List.set_cons_succ]
omit bM in
theorem FU {place:Nat→Option (Nat×Nat)} {K:List FV→List FV→Bool} :∀(ps:List (Nat×FV)) (cs os:List FV) (_:Qm place K ps cs os=true),∃cs' os',K cs' os'= true∧(iQ os'= true→iQ os=true∧iV place (cs.map FV.av) (ps.map fun q=>(q.1,q.2.av))=some (cs'.map FV.av))
 | [],cs,os,hk=>⟨cs,os,hk,fun ho=>⟨ho,rfl⟩⟩
 | (i,v) :: ps,cs,os,hk=>by
   have hk':(match place i with
     | some (off,size)=>bC (Nat.beq size 1) (bC (Nat.ble (off+1) cs.length) (Qm place K ps (Xj v cs off) (v :: os)) false) false
     | none=>false)=true:=hk
   split at hk'
   ·rename_i off size hp
    obtain⟨h1,hk2⟩:=aF hk'
    obtain⟨h2,hk3⟩:=aF hk2
    have h1:=Nat.eq_of_beq_eq_true h1
    have h2:off+1≤cs.length:=Nat.le_of_ble_eq_true h2
    obtain⟨cs',os',q1,q2⟩:=FU ps _ _ hk3
    refine⟨cs',os',q1,fun ho=>?_⟩
    obtain⟨r1,r2⟩:=q2 ho
    obtain⟨w1,w2⟩:=jV r1
    refine⟨w2,?_⟩
    simp only [List.map_cons,iV,hp]
    obtain⟨v1,v2⟩:=mV w1
    rw [v2,if_pos ⟨h1.symm,by rw [List.length_map];omega,by simp [v1]⟩]
    rw [JZ] at r2
    exact r2
   ·cases hk'
theorem Md {t:Nat} {ps:List (Nat×bH)} (hk:IC P τ t ps ρ K=true):jq P ρ (.build t ps) σ K:=by
 unfold IC at hk
 split at hk
 ·rename_i T hT
  obtain⟨d,s1,b1,z1,c1,hd1,g1⟩:=T
  simp only at hk
  split at hk
  ·rename_i fs
   cases hc:bC (allT τ fs) (bC (qW z1.cells) (ones1 (fun i=>(fs[i]?).bind fun f=>(τ f.2.1).map fun F=>(f.1,F.size)) ps) false) false with
   | false=>rw [hc,iU] at hk;exact iJ hk
   | true=>
     rw [hc,jr] at hk
     obtain⟨h1,h2⟩:=aF hc
     obtain⟨h2,_⟩:=aF h2
     obtain⟨cs',os',q1,q2⟩:=FU _ _ _ hk
     obtain⟨q3,q4⟩:=aF q1
     obtain⟨_,q5⟩:=q2 q3
     refine⟨_,?_,q4⟩
     rw [gG _ h2,List.map_map] at q5
     simp only [dO,jP,bM _ _ hT]
     rw [if_pos (Dv bM fs h1)]
     have q6:=zk (q:=fun i=>(fs[i]?).bind fun f=>(aA P f.2.1).map fun F=>(f.1,F.size)) (fun i r hi=>by
      rw [Option.bind_eq_some_iff] at hi ⊢
      obtain⟨f,hf,hi⟩:=hi
      rw [Option.map_eq_some_iff] at hi
      obtain⟨F,hF,rfl⟩:=hi
      exact⟨f,hf,by rw [bM _ _ hF];rfl⟩) _ _ _ q5
     have e1:(ps.map fun q=>(q.1,(ρ q.2).av))=ps.map ((fun q:Nat×FV=>(q.1,q.2.av)) ∘ fun q=>(q.1,ρ q.2)):=rfl
     rw [e1,q6]
     rw [qc];rfl
  ·exact iJ hk
 ·cases hk
theorem Xr (h:s.Is σ) {b:Bool} {t1 t2:Nat} {x:bH} (hk:gCvp τ b t1 t2 x ρ s K=true):jq P ρ (.xB b t1 t2 x) σ K:=by
 unfold gCvp at hk
 split at hk
 ·rename_i A B hA hB
  obtain⟨d1,s1,b1,z1,c1,hd1,g1⟩:=A
  obtain⟨d2,s2,b2,z2,c2,hd2,g2⟩:=B
  simp only at hk
  split at hk
  ·obtain⟨q,n,h1,v,h2,h3⟩:=Qe hk
   refine⟨v,?_,h3⟩
   simp only [dO,CS,bM _ _ hB,iW,bM _ _ hA,h1,h2];rfl
  ·obtain⟨h1,hk2⟩:=aF hk
   obtain⟨_,_,_,_,_,_,he⟩:=qH bM h1
   obtain⟨v,h2,h3⟩:=Cj (bM _ _ hA) (bM _ _ hB) he h hk2
   refine⟨v,?_,h3⟩
   simp only [dO,CS,bM _ _ hB,h2];rfl
  ·cases hk
 ·cases hk
theorem z_ (h:s.Is σ) {op:dG} (hc:∀v,bH.c v∈op.bQ→(ρ (.c v)).av=v)(hk:FT P τ op ρ s K=true):jq P ρ op σ K:=by
 unfold FT at hk
 split at hk
 ·exact⟨_,rfl,hk⟩
 ·obtain⟨v,h1,h2⟩:=FH hk
  exact⟨v,by simp only [dO,h1];rfl,h2⟩
 ·exact Qp bM h hk
 ·rename_i op t x y
  exact Xk bM (fun v hv=>by rw [hv];exact hc v (by rw [hv];simp [dG.bQ])) hk
 ·exact gUn_ok hk
 ·exact Xl bM hk
 ·exact Xm bM hk
 ·exact Xn bM hk
 ·exact Xo bM hk
 ·exact Xp bM hk
 ·rename_i x i
  obtain⟨vs,h1,v,h2,h3⟩:=Xg hk
  exact⟨v,by simp only [dO,h1,h2];rfl,h3⟩
 ·rename_i x
  unfold aZ at hk
  split at hk
  ·rename_i hx;exact⟨_,by simp only [dO,hx,FV.wZ,G9];rfl,hk⟩
  ·rename_i hx;exact⟨_,by simp only [dO,hx,Fp,G9];rfl,hk⟩
  ·rename_i hx;exact⟨_,by simp only [dO,hx];rfl,hk⟩
  ·cases hk
 ·rename_i t x
  unfold gMki at hk
  split at hk
  ·cases hk
  ·rename_i T hn hT
   refine⟨_,?_,hk⟩
   simp only [dO,bM _ _ hT]
   rw [Fp]
  ·cases hk
 ·unfold gMkf at hk
  split at hk
  ·refine⟨_,?_,hk⟩
   simp only [dO]
   rw [FV.Dy,FV.vM]
   simp only [List.map_cons,List.map_nil,qc,List.map_map];rfl
  ·cases hk
 ·exact Xq bM h hk
 ·exact Md bM hk
 ·exact Xr bM h hk
 ·exact iJ hk
end
end Go.cO
namespace Go.cO
abbrev Rn:=Nat→List FV→GS→KS→Bool
section
variable (X:Ctx)(τ:gU)(run:Rn)
noncomputable def bn (t:Nat)(s:GS)(K:KS):Bool:=match τ t with
 | some T=>bC (qW T.zero.cells) (newL t (eG T.zero.cells) s fun o s'=>K (.p o (nat_lit 0) (nat_lit 0)) s') false
 | none=>false
noncomputable def vT (x:FV)(K:List FV→Bool):Bool:=match x with
 | .c 0 _ l=>K l
 | x=>K [x]
noncomputable def fM (t:Nat)(x:FV)(s:GS)(K:KS):Bool:=vT x fun l=>newL t l s fun o s'=>K (.p o (nat_lit 0) (nat_lit 0)) s'
noncomputable def IE (t:Nat)(x y:bH)(ρ:bH→FV)(s:GS)(K:KS):Bool:=match τ t with
 | some T=>bC T.d.agg (aO T.size (ρ x) (ρ y) s fun s'=>K (.c (nat_lit 1) (nat_lit 0) []) s') (bC (Nat.beq T.size (nat_lit 1)) (aX (ρ x) (ρ y) s fun s'=>K (.c (nat_lit 1) (nat_lit 0) []) s') false)
 | none=>false
noncomputable def dOfS (e:Nat)(x:FV)(s:GS)(K:KS):Bool:=match x with
 | .s n v=>DT n v fun l=>newT e l s fun o s'=>K (.sl o (nat_lit 0) (nat_lit 0) n (nat_lit 1)) s'
 | _=>false
noncomputable def isSt:FV→Bool:=FV.rec (motive_1:=fun _=>Bool) (motive_2:=fun _=>PUnit) (fun _ _=>false) (fun _ _ _=>false) (fun _ _ _ _ _=>false) (fun _ _=>true) (fun _ _ _ _=>false) ⟨⟩ (fun _ _ _ _=>⟨⟩)
noncomputable def Qq (a b:Nat)(x:bH)(ρ:bH→FV)(s:GS)(K:KS):Bool:=match τ a,τ b with
 | some A,some B=>(match A.d,B.d with
   | _,.int k=>eH (tg k) (md k) (ρ x) fun v=>K v s
   | .str,.str=>bC (isSt (ρ x)) (K (ρ x) s) false
   | .str,.slice e=>bC (Fb τ e) (dOfS e (ρ x) s K) false
   | .slice e,.str=>bC (Fb τ e) (IB (ρ x) s fun v=>K v s) false
   | _,_=>false)
 | _,_=>false
noncomputable def IG (e z b:Nat)(d:List FV)(l c:FV)(s:GS)(K:KS):Bool:=qN l fun l=>qN c fun c=>bC (Nat.ble l c) (bC (bC (Nat.ble c (nat_lit 9223372036854775807)) (Nat.ble (Nat.mul b c) (nat_lit 140737488355328)) false) (fN (Nat.mul c z) fun n=>Qa e n z d s fun o s'=>K (.sl o (nat_lit 0) (nat_lit 0) l z) s') false) false
noncomputable def gMks (t:Nat)(l c:bH)(ρ:bH→FV)(s:GS)(K:KS):Bool:=match τ t with
 | some T=>(match T.d with
   | .slice e=>(match τ e with
     | some E=>bC (bC (Nat.ble (nat_lit 1) E.size) (bC (Nat.beq E.zero.cells.length E.size) (bC (qW E.zero.cells) (iQ (eG E.zero.cells)) false) false) false)
       (IG e E.size E.bytes (eG E.zero.cells) (ρ l) (ρ c) s K) false
     | none=>false)
   | _=>false)
 | none=>false
noncomputable def Qr (z:Nat):List (Nat×FV)→List FV→(List FV→Bool)→Bool:=List.rec (motive:=fun _=>List FV→(List FV→Bool)→Bool) (fun cs K=>K cs) (fun p _ ih cs K=>vT p.2 fun ys=>bC (Nat.beq ys.length z) (bC (Nat.ble (Nat.add (Nat.mul p.1 z) z) cs.length) (bC (iQ ys) (fSp (zT (JW (Nat.mul p.1 z) cs) (zT ys (FN (Nat.add (Nat.mul p.1 z) z) cs))) fun cs=>ih cs K) false) false) false)
noncomputable def xu (e z n:Nat)(zs:List FV)(ps:List (Nat×FV))(s:GS)(K:KS):Bool:=Qr z ps zs fun cs=>newT e cs s fun o s'=>K (.sl o (nat_lit 0) (nat_lit 0) n z) s'
noncomputable def gBsl (t n:Nat)(ps:List (Nat×bH))(ρ:bH→FV)(s:GS)(K:KS):Bool:=match τ t with
 | some T=>(match T.d with
   | .slice e=>(match τ e with
     | some E=>bC (bC (Nat.ble (nat_lit 1) E.size) (bC (Nat.beq E.zero.cells.length E.size) (bC (qW (iG E.zero.cells n)) (Nat.ble (Nat.mul n E.size) (nat_lit 16777216)) false) false) false)
       (xu e E.size n (eG (iG E.zero.cells n)) (ps.map fun q=>(q.1,ρ q.2)) s K) false
     | none=>false)
   | _=>false)
 | none=>false
noncomputable def gApp (t:Nat)(x y:bH)(ρ:bH→FV)(s:GS)(K:KS):Bool:=match τ t with
 | some T=>(match T.d with
   | .slice e=>(match τ e with
     | some E=>bC (bC (Nat.ble (nat_lit 1) E.size) (bC (Nat.beq E.zero.cells.length E.size) (Nat.ble (nat_lit 1) E.bytes) false) false) (DU e E.size E.bytes (ρ x) (ρ y) s K) false
     | none=>false)
   | _=>false)
 | none=>false
noncomputable def gCopy (t:Nat)(x y:bH)(ρ:bH→FV)(s:GS)(K:KS):Bool:=match τ t with
 | some T=>(match T.d with
   | .slice e=>(match τ e with
     | some E=>FP E.size (ρ x) (ρ y) s K
     | none=>false)
   | _=>false)
 | none=>false
noncomputable def II (x:FV)(s:GS)(K:KS):Bool:=match x with
 | .p o g 0=>Option.rec (motive:=fun _=>Bool) false (fun f=>GO.rec (motive:=fun _=>Bool) (fun _ _ _ _ _ _ _=>false) (fun g' n v pos=>bC (Nat.beq g g') (bC (Nat.ble (Nat.succ pos) n) (bC (Nat.ble n (nat_lit 9223372036854775807)) (fN (Nat.mod (Nat.shiftRight v (Nat.mul (nat_lit 8) pos)) (nat_lit 256)) fun b=>bC (Nat.ble b (nat_lit 127)) (fN (Nat.succ pos) fun pos'=>s.put o (.iter g' n v pos') fun s'=>K (.c (nat_lit 1) (nat_lit 0) [.n (nat_lit 1) (nat_lit 1),.n (nat_lit 36893488147419103233) pos,.n (nat_lit 8589934593) b]) s') false) false) (K (.c (nat_lit 1) (nat_lit 0) [.n (nat_lit 1) (nat_lit 0)]) s)) false) (fun _ _=>false) false (fun _ _ _ _=>false) f) (s.t.get o)
 | _=>false
noncomputable def Me (x:FV)(s:GS)(K:KS):Bool:=match x with
 | .s n v=>s.new (.iter (nat_lit 0) n v (nat_lit 0)) fun o s'=>K (.p o (nat_lit 0) (nat_lit 0)) s'
 | _=>false
noncomputable def gRng (t:Nat)(x:bH)(ρ:bH→FV)(s:GS)(K:KS):Bool:=match τ t with
 | some T=>(match T.d with
   | .str=>Me (ρ x) s K
   | _=>false)
 | none=>false
noncomputable def FW (d:AD)(x y:FV):Option Bool:=match d,x,y with
 | .str,.s n v,.s m w=>some (PX n v m w)
 | .int k,.n t a,.n t' b=>bC (Nat.beq t (tg k)) (bC (Nat.beq t' (tg k)) (some (Nat.beq (Nat.mod a (md k)) (Nat.mod b (md k)))) none) none
 | _,_,_=>none
noncomputable def DZ (d:AD)(x:FV):Bool:=match d,x with
 | .str,.s _ _=>true
 | .int k,.n t _=>Nat.beq t (tg k)
 | _,_=>false
noncomputable def FX (d:AD)(k:FV)(A:Nat→FV×FV→Bool)(B:Bool):List (FV×FV)→Nat→Bool:=List.rec (motive:=fun _=>Nat→Bool) (fun _=>B) (fun e _ ih i=>Option.rec (motive:=fun _=>Bool) false (fun b=>bC b (A i e) (ih (Nat.succ i))) (FW d k e.1))
noncomputable def Xt (x:FV)(s:GS)(K:List (FV×FV)→Bool):Bool:=match x with
 | .n t _=>bC (Nat.beq t (nat_lit 6)) (K []) false
 | .c 5 o _=>Option.rec (motive:=fun _=>Bool) false (fun f=>GO.rec (motive:=fun _=>Bool) (fun _ _ _ _ _ _ _=>false) (fun _ _ _ _=>false) (fun g es=>bC (Nat.beq g (nat_lit 0)) (K es) false) false (fun _ _ _ _=>false) f) (s.t.get o)
 | _=>false
noncomputable def Xu (d:AD)(ok:Bool)(z x k:FV)(s:GS)(K:KF):Bool:=bC (DZ d k) (Xt x s fun es=>FX d k (fun _ e=>bC ok (K (.c (nat_lit 1) (nat_lit 0) [e.2,.n (nat_lit 1) (nat_lit 1)])) (K e.2)) (bC ok (K (.c (nat_lit 1) (nat_lit 0) [z,.n (nat_lit 1) (nat_lit 0)])) (K z)) es (nat_lit 0)) false
noncomputable def Qs (t:Nat)(x k:bH)(ok:Bool)(ρ:bH→FV)(s:GS)(K:KF):Bool:=match τ t with
 | some T=>(match T.d with
   | .map kt et=>(match τ kt,τ et with
     | some KT,some E=>bC (Mc E.zero) (Xu KT.d ok (xq E.zero) (ρ x) (ρ k) s K) false
     | _,_=>false)
   | _=>false)
 | none=>false
noncomputable def dMup (d:AD)(m k v:FV)(s:GS)(K:KS):Bool:=match m with
 | .c 5 o l=>bC (DZ d k) (Xt (.c 5 o l) s fun es=>FX d k (fun i _=>fSp (es.set i (k,v)) fun es'=>s.put o (.maps (nat_lit 0) es') fun s'=>K (.c (nat_lit 1) (nat_lit 0) []) s') (fSp (es ++ [(k,v)]) fun es'=>s.put o (.maps (nat_lit 0) es') fun s'=>K (.c (nat_lit 1) (nat_lit 0) []) s') es (nat_lit 0)) false
 | _=>false
noncomputable def gMup (t:Nat)(m k v:bH)(ρ:bH→FV)(s:GS)(K:KS):Bool:=match τ t with
 | some T=>(match T.d with
   | .map kt _=>(match τ kt with
     | some KT=>dMup KT.d (ρ m) (ρ k) (ρ v) s K
     | none=>false)
   | _=>false)
 | none=>false
noncomputable def gMkm (r:Option bH)(s:GS)(K:KS):Bool:=match r with
 | none=>s.new (.maps (nat_lit 0) []) fun o s'=>K (.c (nat_lit 5) o []) s'
 | some _=>false
noncomputable def dA (f:FV)(args:List FV)(s:GS)(K:KS):Bool:=match f with
 | .c 3 k [.c 0 _ a,.c 0 _ c]=>fSp (a ++ args ++ c) fun l=>run k l s K
 | _=>false
noncomputable def IJ (f:bH)(args:List bH)(ρ:bH→FV)(s:GS)(K:KS):Bool:=match f with
 | .c (.fn (.func k) [] [])=>run k (args.map ρ) s K
 | f=>dA run (ρ f) (args.map ρ) s K
noncomputable def gInv (x:FV)(m:String)(args:List FV)(s:GS)(K:KS):Bool:=match x with
 | .c 2 t [v]=>(match X.meth t m v.av with
   | some k=>bC (Mc k.2) (run k.1 (xq k.2 :: args) s K) false
   | none=>false)
 | _=>false
noncomputable def FY (op:dG)(ρ:bH→FV)(s:GS)(K:KS):Bool:=match op with
 | .alloc t=>bn τ t s K
 | .box t x=>fM t (ρ x) s K
 | .A8 t n ps=>gBsl τ t n ps ρ s K
 | .store t x y=>IE τ t x y ρ s K
 | .conv a b x=>Qq τ a b x ρ s K
 | .I5 t l c=>gMks τ t l c ρ s K
 | .rng t x=>gRng τ t x ρ s K
 | .Kr x=>II (ρ x) s K
 | .app t _ x y=>gApp τ t x y ρ s K
 | .copy t x y=>gCopy τ t x y ρ s K
 | .call f args=>IJ run f args ρ s K
 | .inv x m args=>gInv X run (ρ x) m (args.map ρ) s K
 | .U0 _ r=>gMkm r s K
 | .MR t m k v=>gMup τ t m k v ρ s K
 | .GU t x k ok=>Qs τ t x k ok ρ s fun v=>K v s
 | op=>FT X.P τ op ρ s fun v=>K v s
end
def Rn.Ok (X:Ctx)(run:Rn):Prop:=∀(f:Nat) (args:List FV) (s:GS) (σ:St) (K:KS),s.Is σ→run f args s K=true→∃n,Vf (bFn X n f (args.map FV.av) σ) K
def kD (X:Ctx)(ρ:bH→FV)(op:dG)(σ:St)(K:KS):Prop:=∃n,Vf (dD X (bFn X n) (fun o=>(ρ o).av) op σ) K
section
variable {X:Ctx} {τ:gU} (bM:τ.Ok X.P) {run:Rn} (hr:run.Ok X) {ρ:bH→FV} {K:KS} {s:GS} {σ:St} (h:s.Is σ)
include h
theorem CB {op:dG} (ho:∀n:Nat,dD X (bFn X n) (fun o=>(ρ o).av) op σ=dO X.P (fun o=>(ρ o).av) op σ)(hp:jq X.P ρ op σ fun v=>K v s):kD X ρ op σ K:=by
 obtain⟨v,h1,h2⟩:=hp
 exact⟨0,v,σ,s,by rw [ho,h1],h,h2⟩
include bM
theorem MB {t:Nat} (hk:bn τ t s K=true):kD X ρ (.alloc t) σ K:=by
 unfold bn at hk
 split at hk
 ·rename_i T hT
  obtain⟨h1,h2⟩:=aF hk
  obtain⟨s',q1,q2⟩:=uK h h2
  rw [gG _ h1] at q2
  exact⟨0,_,_,s',by simp only [dD,dO,bM _ _ hT];rfl,q2,q1⟩
 ·cases hk
omit bM in
theorem Xv {t:Nat} {x:bH} (hk:fM t (ρ x) s K=true):kD X ρ (.box t x) σ K:=by
 unfold fM vT at hk
 split at hk
 ·rename_i a l hx
  obtain⟨s',q1,q2⟩:=uK h hk
  refine⟨0,_,_,s',?_,q2,q1⟩
  simp only [dD,dO,hx,qc];rfl
 ·have hone:uH (ρ x)=true:=by
   obtain⟨h1,_⟩:=aF hk
   exact(jV h1).1
  obtain⟨h1,h2⟩:=mV hone
  obtain⟨s',q1,q2⟩:=uK h hk
  refine⟨0,_,_,s',?_,q2,q1⟩
  simp only [dD,dO]
  have e: [ρ x].map FV.av=(ρ x).av.cells:=by rw [h2];rfl
  rw [e]
  split
  ·rename_i e2;rw [e2] at h1;cases h1
  ·rename_i e2;rw [e2] at h1;cases h1
  ·rename_i e2;rw [e2] at h1;cases h1
  ·rfl
theorem MC {t:Nat} {x y:bH} (hk:IE τ t x y ρ s K=true):kD X ρ (.store t x y) σ K:=by
 unfold IE at hk
 split at hk
 ·rename_i T hT
  cases ha:T.d.agg with
  | true=>
    rw [ha,jr] at hk
    obtain⟨σ',s',h1,h2,h3⟩:=Iw h hk
    exact⟨0,_,σ',s',by simp only [dD,dO,bM _ _ hT,h1];rfl,h2,h3⟩
  | false=>
    rw [ha,iU] at hk
    obtain⟨h0,hk2⟩:=aF hk
    obtain⟨σ',s',h1,h2,h3⟩:=zU h (Nat.eq_of_beq_eq_true h0) hk2
    exact⟨0,_,σ',s',by simp only [dD,dO,bM _ _ hT,h1];rfl,h2,h3⟩
 ·cases hk
theorem Qu {a b:Nat} {x:bH} (hk:Qq τ a b x ρ s K=true):kD X ρ (.conv a b x) σ K:=by
 unfold Qq at hk
 split at hk
 ·rename_i A B hA hB
  obtain⟨d1,s1,b1,z1,c1,hd1,g1⟩:=A
  obtain⟨d2,s2,b2,z2,c2,hd2,g2⟩:=B
  simp only at hk
  split at hk
  ·obtain⟨q,n,h1,v,h2,h3⟩:=Qe hk
   refine⟨0,v,σ,s,?_,h,h3⟩
   simp only [dD,dO,iW,bM _ _ hA,bM _ _ hB,h1,h2]
  ·obtain⟨h1,hk2⟩:=aF hk
   cases hx:ρ x with
   | s n v=>
     rw [hx] at hk2
     exact⟨0,_,σ,s,by simp only [dD,dO,iW,bM _ _ hA,bM _ _ hB,hx,FV.uy],h,hk2⟩
   | _=>rw [hx] at h1;cases h1
  ·rename_i e
   obtain⟨h1,hk2⟩:=aF hk
   obtain⟨_,_,_,_,_,_,he⟩:=qH bM h1
   unfold dOfS at hk2
   split at hk2
   ·rename_i n v hx
    obtain⟨l,q1,q2,q3,q4⟩:=vS n v hk2
    obtain⟨s',r1,r2⟩:=DR h q1
    refine⟨0,_,_,s',?_,r2,r1⟩
    simp only [dD,dO,iW,bM _ _ hA,bM _ _ hB,hx,FV.uy,he,eY,FV.qV]
    rw [q2];rfl
   ·cases hk2
  ·rename_i e
   obtain⟨h1,hk2⟩:=aF hk
   obtain⟨_,_,_,_,_,_,he⟩:=qH bM h1
   obtain⟨v,h2,h3⟩:=Cj (bM _ _ hA) (bM _ _ hB) he h hk2
   exact⟨0,v,σ,s,h2,h,h3⟩
  ·cases hk
 ·cases hk
theorem Xw {t:Nat} {l c:bH} (hk:gMks τ t l c ρ s K=true):kD X ρ (.I5 t l c) σ K:=by
 unfold gMks at hk
 split at hk
 ·rename_i T hT
  obtain⟨d1,s1,b1,z1,c1,hd1,g1⟩:=T
  simp only at hk
  split at hk
  ·rename_i e
   split at hk
   ·rename_i E hE
    obtain⟨h1,hk2⟩:=aF hk
    obtain⟨h2,h1⟩:=aF h1
    obtain⟨h3,h1⟩:=aF h1
    obtain⟨h4,h5⟩:=aF h1
    unfold IG at hk2
    obtain⟨k1,l',q1,hk3⟩:=iy hk2
    obtain⟨k2,c',q2,hk4⟩:=iy hk3
    obtain⟨q3,hk5⟩:=aF hk4
    obtain⟨q4,hk6⟩:=aF hk5
    rw [jM] at hk6
    have h2:1≤E.size:=Nat.le_of_ble_eq_true h2
    have h3:=Nat.eq_of_beq_eq_true h3
    have q3:l'≤c':=Nat.le_of_ble_eq_true q3
    obtain⟨hc9,q4⟩:=aF q4
    have hc9:c'≤9223372036854775807:=Nat.le_of_ble_eq_true hc9
    have q4:E.bytes*c'≤140737488355328:=Nat.le_of_ble_eq_true q4
    have hlen:(eG E.zero.cells).length=E.size:=by
     have:=congrArg List.length (gG _ h4)
     rw [List.length_map] at this;omega
    have hrep:=dB.rep h5 c'
    rw [hlen,gG _ h4] at hrep
    obtain⟨s',r1,r2⟩:=xX h hrep hk6
    refine⟨0,_,_,s',?_,r2,r1⟩
    simp only [dD,dO,Kw,bM _ _ hT,bM _ _ hE,q1,q2]
    rw [if_pos ⟨by omega,h3,by omega,by omega,by omega,by omega⟩]
    simp [FV.qV]
   ·cases hk
  ·cases hk
 ·cases hk
omit h bM in
omit h bM in
theorem MF {x:FV} {K:List FV→Bool} (hk:vT x K=true):∃l,K l=true∧(iQ l=true→x.av.cells=l.map FV.av):=by
 unfold vT at hk
 split at hk
 ·refine⟨_,hk,fun _=>?_⟩
  rw [qc];rfl
 ·exact⟨_,hk,fun ho=>(mV (jV ho).1).2⟩
omit h bM in
theorem FZ {z:Nat} :∀(ps:List (Nat×FV)) (cs:List FV) {K:List FV→Bool} (_:Qr z ps cs K=true),∃cs',K cs'= true∧iV (fun i=>some (i*z,z)) (cs.map FV.av) (ps.map fun q=>(q.1,q.2.av))=some (cs'.map FV.av)
 | [],cs,K,hk=>⟨cs,hk,rfl⟩
 | (i,v) :: ps,cs,K,hk=>by
   have hk':(vT v fun ys=>bC (Nat.beq ys.length z) (bC (Nat.ble (i*z+z) cs.length) (bC (iQ ys) (fSp (zT (JW (i*z) cs) (zT ys (FN (i*z+z) cs))) fun cs=>Qr z ps cs K) false) false) false)=true:=hk
   obtain⟨ys,h1,h2⟩:=MF hk'
   obtain⟨h3,h1⟩:=aF h1
   obtain⟨h4,h1⟩:=aF h1
   obtain⟨h5,h1⟩:=aF h1
   rw [vJ,oP,oP,zQ,uI] at h1
   have h3:=Nat.eq_of_beq_eq_true h3
   have h4:i*z+z≤cs.length:=Nat.le_of_ble_eq_true h4
   obtain⟨cs',q1,q2⟩:=FZ ps _ h1
   refine⟨cs',q1,?_⟩
   simp only [List.map_cons,iV]
   rw [h2 h5,if_pos ⟨by rw [List.length_map];exact h3,by rw [List.length_map];exact h4,qj ys h5⟩]
   rw [setCells_eq _ _ _ (by rw [List.length_map,List.length_map,h3];exact h4),List.length_map,h3]
   simp only [List.map_append,List.map_take,List.map_drop] at q2
   exact q2
theorem Xx {t n:Nat} {ps:List (Nat×bH)} (hk:gBsl τ t n ps ρ s K=true):kD X ρ (.A8 t n ps) σ K:=by
 unfold gBsl at hk
 split at hk
 ·rename_i T hT
  obtain⟨d1,s1,b1,z1,c1,hd1,g1⟩:=T
  simp only at hk
  split at hk
  ·rename_i e
   split at hk
   ·rename_i E hE
    obtain⟨h1,hk2⟩:=aF hk
    obtain⟨h2,h1⟩:=aF h1
    obtain⟨h3,h1⟩:=aF h1
    obtain⟨h4,h5⟩:=aF h1
    unfold xu at hk2
    obtain⟨cs',q1,q2⟩:=FZ _ _ hk2
    obtain⟨s',r1,r2⟩:=DR h q1
    rw [gG _ h4,List.map_map] at q2
    refine⟨0,_,_,s',?_,r2,r1⟩
    simp only [dD,dO,Kt,bM _ _ hT,bM _ _ hE]
    rw [if_pos ⟨Nat.le_of_ble_eq_true h2,Nat.eq_of_beq_eq_true h3,Nat.le_of_ble_eq_true h5⟩]
    have e1:(ps.map fun q=>(q.1,(ρ q.2).av))=ps.map ((fun q:Nat×FV=>(q.1,q.2.av)) ∘ fun q=>(q.1,ρ q.2)):=rfl
    rw [e1,q2];rfl
   ·cases hk
  ·cases hk
 ·cases hk
theorem Xy {t:Nat} {b:Bool} {x y:bH} (hk:gApp τ t x y ρ s K=true):kD X ρ (.app t b x y) σ K:=by
 unfold gApp at hk
 split at hk
 ·rename_i T hT
  obtain⟨d1,s1,b1,z1,c1,hd1,g1⟩:=T
  simp only at hk
  split at hk
  ·rename_i e
   split at hk
   ·rename_i E hE
    obtain⟨h1,hk2⟩:=aF hk
    obtain⟨h2,h1⟩:=aF h1
    obtain⟨h3,h4⟩:=aF h1
    exact⟨0,Xe h (bM _ _ hT) (bM _ _ hE) (Nat.le_of_ble_eq_true h2) (Nat.eq_of_beq_eq_true h3) (Nat.le_of_ble_eq_true h4) hk2⟩
   ·cases hk
  ·cases hk
 ·cases hk
theorem Qv {t:Nat} {x y:bH} (hk:gCopy τ t x y ρ s K=true):kD X ρ (.copy t x y) σ K:=by
 unfold gCopy at hk
 split at hk
 ·rename_i T hT
  obtain⟨d1,s1,b1,z1,c1,hd1,g1⟩:=T
  simp only at hk
  split at hk
  ·rename_i e
   split at hk
   ·rename_i E hE
    exact⟨0,Qb h (bM _ _ hT) (bM _ _ hE) hk⟩
   ·cases hk
  ·cases hk
 ·cases hk
theorem Xz {t:Nat} {x:bH} (hk:gRng τ t x ρ s K=true):kD X ρ (.rng t x) σ K:=by
 unfold gRng at hk
 split at hk
 ·rename_i T hT
  obtain⟨d1,s1,b1,z1,c1,hd1,g1⟩:=T
  simp only at hk
  split at hk
  ·unfold Me at hk
   split at hk <;> first | cases hk | skip
   rename_i n v hx
   obtain⟨s',q1,q2⟩:=GS.rQ h (f:=.iter 0 n v 0) (a:=⟨0,false,.iter (fD n v) 0⟩) rfl hk
   exact⟨0,_,_,s',by simp only [dD,dO,Ky,bM _ _ hT,hx,FV.uy];rfl,q2,q1⟩
  ·cases hk
 ·cases hk
omit bM in
theorem XA {x:bH} (hk:II (ρ x) s K=true):kD X ρ (.Kr x) σ K:=by
 unfold II at hk
 split at hk
 ·rename_i o g hx
  cases ho:s.t.get o with
  | none=>rw [ho] at hk;cases hk
  | some f=>
    rw [ho] at hk
    cases f with
    | iter g' n v pos=>
      obtain⟨h1,hk2⟩:=aF hk
      have h1:=Nat.eq_of_beq_eq_true h1
      obtain⟨a,h2,rfl⟩:=h.2 _ _ ho
      have hx':(ρ x).av= .p o g 0:=by rw [hx];rfl
      cases hp:Nat.ble (Nat.succ pos) n with
      | true=>
        rw [hp,jr] at hk2
        obtain⟨h3,hk3⟩:=aF hk2
        rw [jM] at hk3
        obtain⟨h4,hk4⟩:=aF hk3
        rw [jM] at hk4
        have hp:pos<n:=Nat.le_of_ble_eq_true hp
        have h3:n≤9223372036854775807:=Nat.le_of_ble_eq_true h3
        have hb:Nat.mod (Nat.shiftRight v (Nat.mul 8 pos)) 256=v / 256^pos%256:=by rw [Iq];rfl
        rw [show Nat.mod (Nat.shiftRight v (Nat.mul (nat_lit 8) pos)) (nat_lit 256)=v / 256^pos%256 from hb] at h4 hk4
        have h4:v / 256^pos%256≤127:=Nat.le_of_ble_eq_true h4
        obtain⟨s',r1,r2⟩:=GS.lT h (uJ h2) (f:=.iter g' n v (pos+1)) (a:=⟨g',false,.iter (fD n v) (pos+1)⟩) rfl hk4
        have hdec:Utf8.decode ⟨(fD n v).toArray⟩ pos=(v / 256^pos%256,1):=by
            have hg:=zI pos n v hp
            have hsz:pos<(ByteArray.mk (fD n v).toArray).size:=by
             show pos<(fD n v).toArray.size
             simp [eY,hp]
            have hgt:(ByteArray.mk (fD n v).toArray)[pos]'hsz=UInt8.ofNat (v / 256^pos%256):=by
             have e1:(ByteArray.mk (fD n v).toArray)[pos]'hsz=(fD n v)[pos]'(by rw [eY];exact hp):=by
              show (fD n v).toArray[pos]'_=_
              simp
             rw [e1]
             rw [List.getElem?_eq_getElem (by rw [eY];exact hp)] at hg
             exact Option.some.inj hg
            have e2:(UInt8.ofNat (v / 256^pos%256)).toNat=v / 256^pos%256:=by
             rw [UInt8.toNat_ofNat']
             exact Nat.mod_eq_of_lt (by omega)
            have:=Go.decode_ascii ⟨(fD n v).toArray⟩ pos hsz (by rw [hgt,e2];omega)
            rw [this,hgt,e2]
        refine⟨0,_,_,s',?_,r2,r1⟩
        simp only [dD,dO,hx',G7,h2]
        rw [if_pos ⟨h1,trivial⟩,if_pos (by rw [eY];exact hp),hdec]
        rw [wR]
        simp only [List.map_cons,List.map_nil]
        rw [gB (by omega),show FV.av (.n 8589934593 (v / 256^pos%256))= .i .i32 ((v / 256^pos%256:Nat):Int) by
            rw [FV.AQ,show (8589934593:Nat)=tg .i32 from rfl,jG,wrap_small .i32 (by simp only [IntKind.signed,IntKind.bits,if_true];omega)]]
        rfl
      | false=>
        rw [hp,iU] at hk2
        have hp:¬pos<n:=fun hl=>by
            have:=Nat.ble_eq_true_of_le hl
            rw [this] at hp;cases hp
        refine⟨0,_,σ,s,?_,h,hk2⟩
        simp only [dD,dO,hx',G7,h2]
        rw [if_pos ⟨h1,trivial⟩,if_neg (by rw [eY];exact hp)];rfl
    | _=>cases hk
 ·cases hk
end
end Go.cO
namespace Go.cO
section
variable {P:Program} {kt:Nat} {KT:AT} (hK:aA P kt=some KT)
include hK
theorem Qw {x y:FV} {b:Bool} (h:FW KT.d x y=some b):qP P 20 kt x.av y.av=some b∧(b=true→x.av=y.av):=by
 unfold FW at h
 split at h
 ·rename_i n v m w hd
  cases h
  rw [DC]
  refine⟨by unfold qP;rw [hK];simp only [hd,FV.uy],fun e=>?_⟩
  rw [FV.uy,FV.uy,eq_of_beq e]
 ·rename_i k t a t' b' hd
  obtain⟨h1,h2⟩:=JQ h
  obtain⟨h3,h4⟩:=JQ h2
  cases h4
  rw [Nat.eq_of_beq_eq_true h1,Nat.eq_of_beq_eq_true h3,zX,gI,gI]
  refine⟨by unfold qP;rw [hK];simp only [hd,if_true],fun e=>?_⟩
  rw [eq_of_beq e]
 ·cases h
theorem CG {x:FV} (h:DZ KT.d x=true):pq P kt x.av=true∧xE x.av=true:=by
 unfold DZ at h
 split at h
 ·rename_i n v hd
  exact⟨by simp only [pq,hK,hd,FV.uy,jQ,Bool.true_or],rfl⟩
 ·rename_i k t a hd
  rw [Nat.eq_of_beq_eq_true h,gI]
  exact⟨by simp only [pq,hK,hd,jQ,Bool.true_or],rfl⟩
 ·cases h
theorem Aa {k:FV} {A:Nat→FV×FV→Bool} {B:Bool} :∀(es:List (FV×FV)) (i:Nat) (_:FX KT.d k A B es i=true),
 (∃j e,mF P kt k.av (xg es) i=some (some (i+j,(e.1.av,e.2.av)))∧es[j]? =some e∧A (i+j) e=true∧k.av=e.1.av)∨(mF P kt k.av (xg es) i=some none∧B=true)
 | [],i,h=>.inr ⟨rfl,h⟩
 | e :: es,i,h=>by
   have h':Option.rec (motive:=fun _=>Bool) false (fun b=>bC b (A i e) (FX KT.d k A B es (i+1))) (FW KT.d k e.1)=true:=h
   cases hq:FW KT.d k e.1 with
   | none=>rw [hq] at h';cases h'
   | some b=>
     rw [hq] at h'
     obtain⟨q1,q2⟩:=Qw hK hq
     cases b with
     | true=>
       have h':A i e=true:=h'
       exact .inl ⟨0,e,by simp only [xg,List.map_cons,mF,q1,Nat.add_zero],rfl,h',q2 rfl⟩
     | false=>
       have h':FX KT.d k A B es (i+1)=true:=h'
       rcases Aa es (i+1) h' with ⟨j,e',r1,r2,r3,r4⟩ | ⟨r1,r2⟩
       ·refine .inl ⟨j+1,e',?_,by simpa using r2,?_,r4⟩
        ·rw [show i+(j+1)=i+1+j by omega]
         simp only [xg,List.map_cons,mF,q1]
         exact r1
        ·rw [show i+(j+1)=i+1+j by omega];exact r3
       ·refine .inr ⟨?_,r2⟩
        simp only [xg,List.map_cons,mF,q1]
        exact r1
end
section
variable {X:Ctx} {τ:gU} (bM:τ.Ok X.P) {run:Rn} (hr:run.Ok X) {ρ:bH→FV} {K:KS} {s:GS} {σ:St} (h:s.Is σ)
include h
theorem J3 {x:FV} {K:List (FV×FV)→Bool} (hk:Xt x s K=true):∃es,ou σ x.av=some (xg es)∧K es=true∧(∀o l,x= .c 5 o l→σ[o]? =some ⟨0,false,.maps (xg es)⟩):=by
 unfold Xt at hk
 split at hk
 ·rename_i t x
  obtain⟨h1,h2⟩:=aF hk
  have h1:t=6:=Nat.eq_of_beq_eq_true h1
  subst h1
  exact⟨[],rfl,h2,fun o l e=>by cases e⟩
 ·rename_i o l
  cases ho:s.t.get o with
  | none=>rw [ho] at hk;cases hk
  | some f=>
    rw [ho] at hk
    cases f with
    | maps g es=>
      obtain⟨h1,h2⟩:=aF hk
      have h1:g=0:=Nat.eq_of_beq_eq_true h1
      subst h1
      obtain⟨a,q1,rfl⟩:=h.2 _ _ ho
      refine⟨es,?_,h2,fun o' l' e=>by cases e;exact q1⟩
      rw [show FV.av (.c 5 o l)= .mp o 0 from rfl]
      simp only [ou,q1,if_true]
    | _=>cases hk
 ·cases hk
include bM
theorem D5 {t:Nat} {x k:bH} {ok:Bool} {K:KF} (hk:Qs τ t x k ok ρ s K=true):jq X.P ρ (.GU t x k ok) σ K:=by
 unfold Qs at hk
 split at hk
 ·rename_i T hT
  obtain⟨d1,s1,b1,z1,c1,hd1,g1⟩:=T
  simp only at hk
  split at hk
  ·rename_i kt et
   split at hk
   ·rename_i KT E KL hE
    obtain⟨h1,hk1⟩:=aF hk
    unfold Xu at hk1
    obtain⟨h2,hk2⟩:=aF hk1
    obtain⟨es,q1,hk3,_⟩:=J3 h hk2
    obtain⟨r1,_⟩:=CG (bM _ _ KL) h2
    rcases Aa (bM _ _ KL) es 0 hk3 with ⟨j,e,w1,w2,w3,w4⟩ | ⟨w1,w2⟩
    ·cases ok with
     | true=>
       refine⟨_,?_,w3⟩
       simp only [dO,yw,bM _ _ hT,q1,bM _ _ hE]
       rw [if_pos r1,w1,wR];rfl
     | false=>
       refine⟨_,?_,w3⟩
       simp only [dO,yw,bM _ _ hT,q1,bM _ _ hE]
       rw [if_pos r1,w1];rfl
    ·cases ok with
     | true=>
       refine⟨_,?_,w2⟩
       simp only [dO,yw,bM _ _ hT,q1,bM _ _ hE]
       rw [if_pos r1,w1,wR]
       simp only [List.map_cons,kT _ h1];rfl
     | false=>
       refine⟨_,?_,w2⟩
       simp only [dO,yw,bM _ _ hT,q1,bM _ _ hE]
       rw [if_pos r1,w1,kT _ h1];rfl
   ·cases hk
  ·cases hk
 ·cases hk
theorem XC {t:Nat} {m k v:bH} (hk:gMup τ t m k v ρ s K=true):kD X ρ (.MR t m k v) σ K:=by
 unfold gMup at hk
 split at hk
 ·rename_i T hT
  obtain⟨d1,s1,b1,z1,c1,hd1,g1⟩:=T
  simp only at hk
  split at hk
  ·rename_i kt et
   split at hk
   ·rename_i KT KL
    unfold dMup at hk
    split at hk
    ·rename_i o l hm
     obtain⟨h2,hk2⟩:=aF hk
     obtain⟨es,q1,hk3,q2⟩:=J3 h hk2
     have q2:=q2 o l rfl
     obtain⟨r1,r2⟩:=CG (bM _ _ KL) h2
     have hmv:(ρ m).av= .mp o 0:=by rw [hm];rfl
     rcases Aa (bM _ _ KL) es 0 hk3 with ⟨j,e,w1,w2,w3,w4⟩ | ⟨w1,w2⟩
     ·rw [Nat.zero_add] at w1 w3
      rw [vJ] at w3
      obtain⟨s',v1,v2⟩:=GS.lT h (uJ q2) (f:=.maps 0 (es.set j (ρ k,ρ v))) (a:=⟨0,false,.maps ((xg es).set j ((ρ k).av,(ρ v).av))⟩) (by simp only [GO.Is,xg,List.map_set]) w3
      refine⟨0,_,_,s',?_,v2,v1⟩
      simp only [dD,dO,KD,bM _ _ hT,hmv,q2]
      rw [if_pos ⟨trivial,r1⟩,w1]
      simp only
      rw [if_pos ⟨by rw [w4];exact AV.nD _,r2⟩];rfl
     ·rw [vJ] at w2
      obtain⟨s',v1,v2⟩:=GS.lT h (uJ q2) (f:=.maps 0 (es ++ [(ρ k,ρ v)])) (a:=⟨0,false,.maps (xg es ++ [((ρ k).av,(ρ v).av)])⟩) (by simp only [GO.Is,xg,List.map_append,List.map_cons,List.map_nil]) w2
      refine⟨0,_,_,s',?_,v2,v1⟩
      simp only [dD,dO,KD,bM _ _ hT,hmv,q2]
      rw [if_pos ⟨trivial,r1⟩,w1];rfl
    ·cases hk
   ·cases hk
  ·cases hk
 ·cases hk
include hr
omit bM in
theorem MG {f:bH} {args:List bH} (hf:∀v,f= .c v→(ρ f).av=v)(hk:IJ run f args ρ s K=true):kD X ρ (.call f args) σ K:=by
 unfold IJ at hk
 have hmm:(args.map ρ).map FV.av=args.map fun o=>(ρ o).av:=by rw [List.map_map];rfl
 split at hk
 ·rename_i k
  obtain⟨n,hn⟩:=hr _ _ _ _ _ h hk
  refine⟨n,?_⟩
  simp only [dD]
  rw [hf _ rfl]
  simp only [List.nil_append,List.append_nil]
  rw [←hmm];exact hn
 ·unfold dA at hk
  split at hk
  ·rename_i k a1 a a2 c hx
   rw [vJ] at hk
   obtain⟨n,hn⟩:=hr _ _ _ _ _ h hk
   refine⟨n,?_⟩
   have e:(ρ f).av= .fn (.func k) (a.map FV.av) (c.map FV.av):=by
        rw [hx,FV.Dy,FV.vM]
        simp only [List.map_cons,List.map_nil,qc];rfl
   simp only [dD,e]
   rw [←hmm,←List.map_append,←List.map_append];exact hn
  ·cases hk
omit bM in
theorem XD {x:bH} {m:String} {args:List bH} (hk:gInv X run (ρ x) m (args.map ρ) s K=true):kD X ρ (.inv x m args) σ K:=by
 unfold gInv at hk
 have hmm:(args.map ρ).map FV.av=args.map fun o=>(ρ o).av:=by rw [List.map_map];rfl
 split at hk
 ·rename_i t v hx
  split at hk
  ·rename_i k hm
   obtain⟨h1,h2⟩:=aF hk
   obtain⟨n,hn⟩:=hr _ _ _ _ _ h h2
   refine⟨n,?_⟩
   simp only [dD,hx,Fp,hm]
   rw [List.map_cons,kT _ h1,hmm] at hn
   exact hn
  ·cases hk
 ·cases hk
theorem Gf {op:dG} (hc:∀v,bH.c v∈op.bQ→(ρ (.c v)).av=v)(hk:FY X τ run op ρ s K=true):kD X ρ op σ K:=by
 unfold FY at hk
 split at hk
 ·exact MB bM h hk
 ·exact Xv h hk
 ·exact Xx bM h hk
 ·exact MC bM h hk
 ·exact Qu bM h hk
 ·exact Xw bM h hk
 ·exact Xz bM h hk
 ·exact XA h hk
 ·exact Xy bM h hk
 ·exact Qv bM h hk
 ·rename_i f args
  exact MG hr h (fun v hv=>by rw [hv];exact hc v (by rw [hv];simp [dG.bQ])) hk
 ·exact XD hr h hk
 ·rename_i t r
  unfold gMkm at hk
  split at hk
  ·obtain⟨s',q1,q2⟩:=GS.rQ h (f:=.maps 0 []) (a:=⟨0,false,.maps []⟩) rfl hk
   exact⟨0,_,_,s',rfl,q2,q1⟩
  ·cases hk
 ·exact XC bM h hk
 ·exact CB h (fun n=>rfl) (D5 bM h hk)
 ·refine CB h (fun n=>?_) (z_ bM h hc hk)
  cases op <;> first | rfl | (exfalso;rename_i q _ _ _ _;exact q _ _ rfl) | (exfalso;simp_all;done)
end
end Go.cO
namespace Go.cO
section
variable (X:Ctx)(τ:gU)(run:Rn)
noncomputable def aS (x:FV)(w:Bool)(G:KF→Bool)(K:KF):Bool:=PU x w (G fun v=>K (.c (nat_lit 4) (nat_lit 1) [v])) (K (.c (nat_lit 4) (nat_lit 0) [.n (nat_lit 0) (nat_lit 0)]))
noncomputable def mW (x:FV)(w:Bool)(G:KS→Bool)(s:GS)(K:KS):Bool:=PU x w (G K) (K (.c (nat_lit 1) (nat_lit 0) []) s)
noncomputable def vU (e:dZ)(op:dG)(s:GS)(K:KF):Bool:=match op with
 | .pick q a b=>bC (au (GN e q)) (aT (ay (GN e q)) (GN e a) (GN e b) K) false
 | .GU t x k ok=>qm e (Qs τ t x k ok (Qc e) s K) [x,k]
 | op=>qm e (FT X.P τ op (Qc e) s K) op.bQ
noncomputable def Qx (a:AI)(e:dZ)(s:GS)(K:KS):Bool:=bC (a.op.bQ.all rV) (match a.gd with
 | none=>FY X τ run a.op (GN e) s K
 | some (n,w)=>bC a.op.pure (aS (jy e n) w (vU X τ e a.op s) fun v=>K v s) (mW (jy e n) w (fun K=>qm e (FY X τ run a.op (Qc e) s K) a.op.bQ) s K)) false
noncomputable def Qy:List AI→dZ→GS→(dZ→GS→Bool)→Bool:=List.rec (motive:=fun _=>dZ→GS→(dZ→GS→Bool)→Bool) (fun e s K=>K e s) (fun a _ ih e s K=>Qx X τ run a e s (Option.rec (motive:=fun _=>KS) (fun _ s=>ih e s K) (fun d v s=>ih ((d,v) :: e) s K) a.d))
noncomputable def fA (a b:FV):Bool:=AV.eqv a.av b.av
noncomputable def IK (op:dG)(e:dZ)(s:GS)(K:KF):Bool:=match op with
 | .GU t x k ok=>Qs τ t x k ok (GN e) s K
 | op=>FT X.P τ op (GN e) s K
noncomputable def gAgP (op:dG)(g:Option (Nat×Bool))(e:dZ)(s:GS)(K:KF):Bool:=match g with
 | none=>IK X τ op e s K
 | some (n,w)=>aS (jy e n) w (vU X τ e op s) K
noncomputable def gAg1 (a:AI)(e:dZ)(s:GS)(B:Bool):Bool:=match a.d with
 | some d=>bC (bC (a.op.bQ.all rV) a.op.pure false) (gAgP X τ a.op a.gd e s fun v=>bC (fA v (jy e d)) B false) false
 | none=>false
noncomputable def XE (e:dZ)(s:GS)(B:Bool):List AI→Bool:=List.rec (motive:=fun _=>Bool) B (fun a _ ih=>gAg1 X τ a e s ih)
noncomputable def Qz:List (AI×List AI)→dZ→GS→(dZ→GS→Bool)→Bool:=List.rec (motive:=fun _=>dZ→GS→(dZ→GS→Bool)→Bool) (fun e s K=>K e s) (fun a _ ih e s K=>Qx X τ run a.1 e s fun v s=>XE X τ e s (Option.rec (motive:=fun _=>Bool) (ih e s K) (fun d=>ih ((d,v) :: e) s K) a.1.d) a.2)
end
section
variable {X:Ctx} {τ:gU} (bM:τ.Ok X.P) {run:Rn} (hr:run.Ok X) {s:GS} {σ:St} (h:s.Is σ)
theorem fev_c {e:dZ} {op:dG} (ho:op.bQ.all rV=true):∀v,bH.c v∈op.bQ→(GN e (.c v)).av=v:=fun v hv=>by
 rw [List.all_eq_true] at ho
 exact ql (ho _ hv)
theorem vev_c {e:dZ} {op:dG} (ho:op.bQ.all rV=true):∀v,bH.c v∈op.bQ→(Qc e (.c v)).av=v:=fun v hv=>by
 rw [List.all_eq_true] at ho
 have h1:=ho _ hv
 rw [Iy h1]
 have h2:=(aF h1).2
 show v.val=v
 cases v <;> first | rfl | cases h2
theorem QA {e:dZ} {op:dG} {K:KS} (ho:op.bQ.all rV=true)(hk:kD X (GN e) op σ K):∃n,Vf (dD X (bFn X n) (bH.ev (gV e)) op σ) K:=by
 obtain⟨n,hn⟩:=hk
 rw [List.all_eq_true] at ho
 exact⟨n,by rw [←oQ (fun o hm=>ql (ho o hm))];exact hn⟩
theorem QB {e:dZ} {op:dG} {K:KS} (ho:op.bQ.all rV=true)(hk:kD X (Qc e) op σ K):∃n,Vf (dD X (bFn X n) (fun o=>(o.ev (gV e)).val) op σ) K:=by
 obtain⟨n,hn⟩:=hk
 rw [List.all_eq_true] at ho
 refine⟨n,?_⟩
 rw [←oQ (ρ:=fun o=>(Qc e o).av) (ρ':=fun o=>(o.ev (gV e)).val) (fun o hm=>Iy (ho o hm))]
 exact hn
include bM h
theorem CJ {e:dZ} {op:dG} {K:KF} (hp:op.pure=true)(ho:op.bQ.all rV=true)(hk:vU X τ e op s (fun v=>K (.c 4 1 [v]))=true):∃v:FV,gZ X.P (gV e) op σ=some v.av∧K v=true:=by
 have main:∀(op:dG),op.pure=true→(∀q a b,op≠.pick q a b)→op.bQ.all rV=true→qm e true op.bQ=true→jq X.P (Qc e) op σ (fun v=>K (.c 4 1 [v]))→∃v:FV,gZ X.P (gV e) op σ=some v.av∧K v=true:=by
  intro op hp hn ho hc hq
  obtain⟨v,h1,h2⟩:=hq
  have ho':=ho
  rw [List.all_eq_true] at ho'
  have e1:=oQ (X:=X) (run:=fun _ _ _=>none) (ρ:=fun o=>(Qc e o).av) (ρ':=fun o=>(o.ev (gV e)).val) (fun o hm=>Iy (ho' o hm)) σ
  have e2:dO X.P (fun o=>(Qc e o).av) op σ=dO X.P (fun o=>(o.ev (gV e)).val) op σ:=by
   cases op <;> first | exact e1 | cases hp
  rw [e2] at h1
  refine⟨_,?_,h2⟩
  have h3:=(uM _ ho hc).1
  unfold gZ
  split
  ·exact(hn _ _ _ rfl).elim
  ·rw [h1]
   simp only [eu,nH]
   rw [if_pos h3,Py]
 have cut:∀(B:Bool) (l:List bH),l.all rV=true→qm e B l=true→qm e true l=true∧B=true:=by
  intro B l
  induction l with
  | nil=>intro _ hB;exact⟨rfl,hB⟩
  | cons o l ih=>
    intro hl hB
    simp only [List.all_cons,Bool.and_eq_true] at hl
    cases o with
    | t n=>
      have hB':bC (au (jy e n)) (qm e B l) false=true:=hB
      obtain⟨q1,q2⟩:=aF hB'
      obtain⟨q3,q4⟩:=ih hl.2 q2
      refine⟨?_,q4⟩
      show bC (au (jy e n)) (qm e true l) false=true
      rw [q1,q3]
    | c v=>exact ih hl.2 hB
 unfold vU at hk
 split at hk
 ·rename_i q a b
  simp only [dG.bQ,List.all_cons,List.all_nil,Bool.and_true,Bool.and_eq_true] at ho
  have hk':PW (GN e q) (GN e a) (GN e b) K=true:=hk
  obtain⟨v,h1,h2⟩:=L8 hk'
  rw [ql ho.1,ql ho.2.1,ql ho.2.2] at h1
  exact⟨v,h1,h2⟩
 ·rename_i t x k ok
  obtain⟨h1,h2⟩:=cut _ _ ho hk
  exact main _ hp (fun _ _ _ e=>by cases e) ho h1 (D5 bM h h2)
 ·rename_i hn1 hn2
  obtain⟨h1,h2⟩:=cut _ _ ho hk
  exact main _ hp hn1 ho h1 (z_ bM h (vev_c ho) h2)
include hr
theorem Gg {a:AI} {e:dZ} {K:KS} (hk:Qx X τ run a e s K=true):∃n,Vf (cZ X (bFn X n) (gV e) a σ) K:=by
 obtain⟨d,g,op⟩:=a
 obtain⟨ho,hk⟩:=aF hk
 have ho:op.bQ.all rV=true:=ho
 cases g with
 | none=>exact QA ho (Gf bM hr h (fev_c ho) hk)
 | some g=>
   obtain⟨n,w⟩:=g
   have hk:bC op.pure (aS (jy e n) w (vU X τ e op s) fun v=>K v s) (mW (jy e n) w (fun K=>qm e (FY X τ run op (Qc e) s K) op.bQ) s K)=true:=hk
   cases hp:op.pure with
   | true=>
     rw [hp,jr] at hk
     rcases zM hk with ⟨h1,h2⟩ | ⟨h1,h2⟩
     ·rw [iC,←jU] at h1
      obtain⟨v,q1,q2⟩:=CJ bM h (K:=fun v=>K v s) hp ho h2
      exact⟨0,v,σ,s,by unfold cZ;simp only [h1];rw [if_pos hp];unfold iT;rw [if_pos rfl,q1];rfl,h,q2⟩
     ·rw [iC,←jU] at h1
      exact⟨0,_,σ,s,by unfold cZ;simp only [h1];rw [if_pos hp];rfl,h,h2⟩
   | false=>
     rw [hp,iU] at hk
     rcases zM hk with ⟨h1,h2⟩ | ⟨h1,h2⟩
     ·rw [iC,←jU] at h1
      obtain⟨q1,q2⟩:=uM _ ho h2
      obtain⟨m,hm⟩:=QB ho (Gf bM hr h (vev_c ho) q2)
      exact⟨m,by unfold cZ;simp only [h1];rw [if_neg (by simp [hp]),if_pos trivial,if_pos q1];exact hm⟩
     ·rw [iC,←jU] at h1
      exact⟨0,_,σ,s,by unfold cZ;simp only [h1];rw [if_neg (by simp [hp]),if_neg (by simp)];rfl,h,h2⟩
def ToE (o:Option (Env×St))(K:dZ→GS→Bool):Prop:=∃e' σ' s',o=some (gV e',σ')∧GS.Is s' σ'∧K e' s'= true
end
section
variable {X:Ctx} {τ:gU} (bM:τ.Ok X.P) {run:Rn} (hr:run.Ok X)
include bM hr
theorem J4:∀{ops:List AI} {e:dZ} {s:GS} {σ:St} {K:dZ→GS→Bool},s.Is σ→Qy X τ run ops e s K=true→∃n,ToE (kR X (bFn X n) ops (gV e) σ) K
 | [],e,s,σ,K,h,hk=>⟨0,e,σ,s,rfl,h,hk⟩
 | a :: ops,e,s,σ,K,h,hk=>by
   obtain⟨n,v,σ1,s1,h1,h2,h3⟩:=Gg bM hr h (K:=Option.rec (motive:=fun _=>KS) (fun _ s=>Qy X τ run ops e s K) (fun d v s=>Qy X τ run ops ((d,v) :: e) s K) a.d) hk
   have h4:∃e1:dZ,gV e1=put a.d v.av (gV e)∧Qy X τ run ops e1 s1 K=true:=by
     cases hd:a.d with
     | none=>rw [hd] at h3;exact⟨e,rfl,h3⟩
     | some d=>rw [hd] at h3;exact⟨(d,v) :: e,rfl,h3⟩
   obtain⟨e1,h5,h6⟩:=h4
   obtain⟨m,e',σ',s',q1,q2,q3⟩:=J4 h2 h6
   refine⟨max n m,e',σ',s',?_,q2,q3⟩
   simp only [kR]
   rw [nM (rO X (Nat.le_max_left n m)) h1]
   simp only
   rw [←h5]
   exact tJ (rO X (Nat.le_max_right n m)) q1
omit hr in
theorem QC {e:dZ} {s:GS} {σ:St} (h:s.Is σ) {B:Bool} :∀(l:List AI) (_:XE X τ e s B l=true),l.all (mY X (gV e) σ)=true∧B=true
 | [],hk=>⟨rfl,hk⟩
 | ⟨d,g,op⟩ :: l,hk=>by
   cases d with
   | none=>cases hk
   | some d=>
     have hk0:bC (bC (op.bQ.all rV) op.pure false) (gAgP X τ op g e s fun v=>bC (fA v (jy e d)) (XE X τ e s B l) false) false=true:=hk
     clear hk
     have hk:=hk0
     clear hk0
     obtain⟨ho,hk⟩:=aF hk
     obtain⟨ho,hp⟩:=aF ho
     have fin:∀v:FV,cZ X (fun _ _ _=>none) (gV e) ⟨some d,g,op⟩ σ=some (v.av,σ)→bC (fA v (jy e d)) (XE X τ e s B l) false=true→(AI.mk (some d) g op :: l).all (mY X (gV e) σ)=true∧B=true:=by
      intro v h1 h2
      obtain⟨h3,h4⟩:=aF h2
      obtain⟨h5,h6⟩:=QC h l h4
      refine⟨?_,h6⟩
      simp only [List.all_cons,h5,Bool.and_true]
      unfold mY
      simp only [h1]
      unfold fA at h3
      rw [iC] at h3
      exact h3
     have pcall:∀(ρ:bH→AV),dD X (fun _ _ _=>none) ρ op σ=dO X.P ρ op σ:=by
      intro ρ
      cases op <;> first | rfl | cases hp
     cases g with
     | none=>
       have hq:jq X.P (GN e) op σ fun v=>bC (fA v (jy e d)) (XE X τ e s B l) false:=by
        have hk1:IK X τ op e s (fun v=>bC (fA v (jy e d)) (XE X τ e s B l) false)=true:=hk
        clear hk
        have hk:=hk1
        unfold IK at hk
        split at hk
        ·exact D5 bM h hk
        ·exact z_ bM h (fev_c ho) hk
       obtain⟨v,h1,h2⟩:=hq
       refine fin v ?_ h2
       rw [List.all_eq_true] at ho
       unfold cZ
       simp only
       rw [←oQ (ρ:=fun o=>(GN e o).av) (fun o hm=>ql (ho o hm)),pcall]
       exact h1
     | some g=>
       obtain⟨n,w⟩:=g
       have hk:aS (jy e n) w (vU X τ e op s) (fun v=>bC (fA v (jy e d)) (XE X τ e s B l) false)=true:=hk
       rcases zM hk with ⟨h1,h2⟩ | ⟨h1,h2⟩
       ·rw [iC,←jU] at h1
        obtain⟨v,q1,q2⟩:=CJ bM h (K:=fun v=>bC (fA v (jy e d)) (XE X τ e s B l) false) hp ho h2
        exact fin v (by unfold cZ;simp only [h1];rw [if_pos hp];unfold iT;rw [if_pos rfl,q1];rfl) q2
       ·rw [iC,←jU] at h1
        exact fin _ (by unfold cZ;simp only [h1];rw [if_pos hp];rfl) h2
theorem J5:∀{ops:List (AI×List AI)} {e:dZ} {s:GS} {σ:St} {K:dZ→GS→Bool},s.Is σ→Qz X τ run ops e s K=true→∃n,ToE (qZ X (bFn X n) ops (gV e) σ) K
 | [],e,s,σ,K,h,hk=>⟨0,e,σ,s,rfl,h,hk⟩
 | (a,ag) :: ops,e,s,σ,K,h,hk=>by
   obtain⟨n,v,σ1,s1,h1,h2,h3⟩:=Gg bM hr h (K:=fun v s=>XE X τ e s (Option.rec (motive:=fun _=>Bool) (Qz X τ run ops e s K) (fun d=>Qz X τ run ops ((d,v) :: e) s K) a.d) ag) hk
   obtain⟨h7,h3⟩:=QC bM h2 _ h3
   have h4:∃e1:dZ,gV e1=put a.d v.av (gV e)∧Qz X τ run ops e1 s1 K=true:=by
     cases hd:a.d with
     | none=>rw [hd] at h3;exact⟨e,rfl,h3⟩
     | some d=>rw [hd] at h3;exact⟨(d,v) :: e,rfl,h3⟩
   obtain⟨e1,h5,h6⟩:=h4
   obtain⟨m,e',σ',s',q1,q2,q3⟩:=J5 h2 h6
   refine⟨max n m,e',σ',s',?_,q2,q3⟩
   simp only [qZ]
   rw [nM (rO X (Nat.le_max_left n m)) h1]
   simp only
   rw [if_pos h7,←h5]
   exact tK (rO X (Nat.le_max_right n m)) q1
end
end Go.cO
