/- Texts of this claim, joined: Td, Dp, Dq, Dr, Dw, Dz. -/
import Derived.Test.YtobmjhfgmhfocaaGreatDoorM17
import Derived.Test.YtobmjhfgmhfocaaGreatDoorM18
import Derived.Test.YtobmjhfgmhfocaaGreatDoorM21
set_option linter.unusedVariables false
set_option linter.unusedSimpArgs false
namespace Go.bK.YtobmjhfgmhfocaaGreatDoor
open Go.Proofs
set_option maxRecDepth 4000
theorem has_is:hasAll Tryz.prog 101 192=some false:=by kernel_rfl
theorem Oh:hasAll Tryz.prog 101 187=some true:=by kernel_rfl
theorem as_to {σ:St} (hg:σ.take G0.length=G0)(o g off o2:Nat)(h2:σ[o2]? =some ⟨0,false,.cells 101 [.p0]⟩)(Q:AV→St→Prop)(q:Q (.b true) (σ.set o2 ⟨0,false,.cells 101 [.p o g off]⟩)) :
 ay X 51 [.ic 101 (.p o g off),.ic 119 (.p o2 0 0)] σ Q:=by
 refine ay.of ?_
 rw [jA (g:=pAs) rfl]
 have h5:σ[0]? =G0[0]? :=t_ hg (by decide)
 have hs:gJ (aF Tryz.prog 101) (.p o2 0 0) (.p o g off) σ=some (σ.set o2 ⟨0,false,.cells 101 [.p o g off]⟩):=by
  have:=aG (τ:=fK.get) (t:=101) (T:=Ai) (y:=.p o g off) (off:=0) [.p o g off] rfl h2 rfl rfl (Nat.le_of_ble_eq_true rfl) rfl
  exact FY (X:=X) aC this
 unfold pAs
 simp only
 rw [h5]
 exact⟨_,by show (gJ (aF Tryz.prog 101) (.p o2 0 0) (.p o g off) σ).map (fun x=>(AV.b true,x))=_;rw [hs];rfl,q⟩
theorem RH (v:AV)(σ:St)(Q:AV→St→Prop)(q:Q (.ic 180 (.ag [.p 10 0 23])) σ):ay X 91 [.ic 23 v] σ Q:=by
 refine ay.of ?_
 rw [jA (g:=Bq) rfl]
 exact⟨_,rfl,q⟩
theorem E8 (σ:St)(Q:AV→St→Prop)(q:Q (.b true) σ):ay X 221 [.ag [.p 10 0 23]] σ Q:=by
 refine ay.of ?_
 rw [jA (g:=oq) rfl]
 exact⟨_,rfl,q⟩
theorem RI {σ:St} {o g:Nat} {ro:Bool} {e l:Int} (h:σ[o]? =some ⟨g,ro,.cells 25 [.i .i64 e,.i .i64 l]⟩):ay X 212 [.p o g 0] σ fun v s=>v= .ic 23 (.i .i64 e)∧s=σ:=by
 refine ay.body (F:=F212) aC (lit:=false) rfl rfl (Nat.le_of_ble_eq_true rfl) ?_
 conv=>whnf
 refine ak (aj (T:=Ur) rfl rfl (ah h) rfl) ?_
 conv=>whnf
 exact Fin.flat rfl List.take_length ⟨rfl,rfl⟩
set_option maxHeartbeats 4000000 in
theorem eis_to {σ:St} {o g:Nat} {ro:Bool} {e l:Int} (h:σ[o]? =some ⟨g,ro,.cells 25 [.i .i64 e,.i .i64 l]⟩):ay X 92 [.ic 101 (.p o g 0),.ic 23 (.i .i64 e),.b true] σ fun v s=>v= .b true∧s=σ:=by
 refine ay.body (F:=F92) aC (lit:=false) rfl rfl (Nat.le_of_ble_eq_true rfl) ?_
 conv=>whnf
 refine b_.round aC (lit:=false) ?_
 conv=>whnf
 refine UD.of has_is ?_
 conv=>whnf
 refine UD.of Oh ?_
 conv=>whnf
 refine ay.to (RI h) ?_
 conv=>whnf
 refine b_.round aC (lit:=false) ?_
 conv=>whnf
 split
 ·conv=>whnf
  exact Fin.flat rfl List.take_length ⟨rfl,rfl⟩
 ·rename_i h;exfalso;simp at h
theorem Is_to {σ:St} {o g:Nat} {ro:Bool} {e l:Int} (h:σ[o]? =some ⟨g,ro,.cells 25 [.i .i64 e,.i .i64 l]⟩):ay X 52 [.ic 101 (.p o g 0),.ic 23 (.i .i64 e)] σ fun v s=>v= .b true∧s=σ:=by
 refine ay.body (F:=F52) aC (lit:=false) rfl rfl (Nat.le_of_ble_eq_true rfl) ?_
 conv=>whnf
 refine RH _ _ _ ?_
 conv=>whnf
 refine E8 _ _ ?_
 conv=>whnf
 refine ay.to (eis_to h) ?_
 conv=>whnf
 exact Fin.flat rfl List.take_length ⟨rfl,rfl⟩
theorem ZX (c l:Int)(σ:St):ay X 23 [.eG,.ag [.i .i64 c,.i .i64 l],.b false] σ fun v s=>v= .b true∧s=σ:=by
 refine ay.body (F:=F23) aC (lit:=false) rfl rfl (Nat.le_of_ble_eq_true rfl) ?_
 conv=>whnf
 conv=>whnf
 exact Fin.flat rfl ((Ext.refl σ).new _ _).take ⟨rfl,rfl⟩
theorem ZY {σ:St} (hg:σ.take G0.length=G0) {o g:Nat} {ro:Bool} {e l:Int} (h:σ[o]? =some ⟨g,ro,.cells 25 [.i .i64 e,.i .i64 l]⟩):ay X 23 [.ic 101 (.p o g 0),.ag [.i .i64 e,.i .i64 l],.b true] σ fun v s=>v= .b true∧s=σ:=by
 refine ay.body (F:=F23) aC (lit:=false) rfl rfl (Nat.le_of_ble_eq_true rfl) ?_
 conv=>whnf
 have hx:=((Ext.refl σ).new 25 [.i .i64 e,.i .i64 l]).new 101 [.p0]
 have hx2:Ext σ _:=hx.set (o:=σ.length+1) (by omega) ⟨0,false,.cells 101 [.p o g 0]⟩
 have e1:(au 25 [.i .i64 e,.i .i64 l] σ).length=σ.length+1:=aO _ _ _
 have hb:=aP (at_new (aI 25 [.i .i64 e,.i .i64 l] σ) 101 [.p0]) (o':=σ.length+1) (by omega) ⟨0,false,.cells 101 [.p o g 0]⟩
 have hp:=at_set (aI 101 [.p0] (au 25 [.i .i64 e,.i .i64 l] σ)) ⟨0,false,.cells 101 [.p o g 0]⟩
 rw [←e1] at hx2 hb
 have hf:=hx2.get h
 refine as_to (pK hx hg) _ _ _ _ (aI _ _ _) _ ?_
 refine ak (aj (T:=Ai) rfl rfl (ah (hp)) rfl) ?_
 conv=>whnf
 refine ak (aj (T:=Ur) rfl rfl (ah (hf)) rfl) ?_
 conv=>whnf
 refine ak (aj (T:=Ur) rfl rfl (ah (hb)) rfl) ?_
 conv=>whnf
 rw [decide_eq_true (rfl)]
 conv=>whnf
 refine ak (aj (T:=Ai) rfl rfl (ah (hp)) rfl) ?_
 conv=>whnf
 refine ak (aj (T:=gZ) rfl rfl (ah (hf)) rfl) ?_
 conv=>whnf
 refine ak (aj (T:=gZ) rfl rfl (ah (hb)) rfl) ?_
 conv=>whnf
 rw [decide_eq_true (rfl)]
 conv=>whnf
 refine ak (aj (T:=Ur) rfl rfl (ah (hb)) rfl) ?_
 conv=>whnf
 refine ay.to (Is_to hf) ?_
 conv=>whnf
 exact Fin.flat rfl hx2.take ⟨rfl,rfl⟩
end Go.bK.YtobmjhfgmhfocaaGreatDoor
namespace Go.bK.YtobmjhfgmhfocaaGreatDoor
def Z4:Nat→List Tok
 | 0=>[⟨3,[40],0⟩]
 | 1=>[⟨3,[33],0⟩]
 | 2=>[⟨1,[112],0⟩,⟨3,[91],0⟩]
 | 3=>[⟨1,[102],0⟩,⟨3,[40],0⟩,⟨2,[49],0⟩,⟨3,[44],0⟩]
 | 4=>[⟨4,[110,101,119],0⟩,⟨3,[40],0⟩]
 | _=>[⟨1,[112],0⟩,⟨3,[58],0⟩,⟨3,[40],0⟩]
def shT:Nat→List Tok
 | 1=>[]
 | 2=>[⟨3,[93],0⟩]
 | _=>[⟨3,[41],0⟩]
def mQ:List Nat→List Tok
 | []=>[⟨2,[55],0⟩]
 | k :: ks=>Z4 k ++ mQ ks ++ shT k
def Stop:List Tok→Prop
 | t :: _=>t.k=3∧(t.s=[41]∨t.s=[93]∨t.s=[59]∨t.s=[44])
 | []=>False
theorem Stop.loop {ts:List Tok} (h:Stop ts)(n d:Nat)(x:Tr):qK (n+1) d 1 x ts= .ok x ts:=by
 match ts,h with
 | ⟨k,s,l⟩ :: r,⟨h1,h2⟩=>
   have:jI s=0:=by rcases h2 with h2 | h2 | h2 | h2 <;> (have h2:s=_:=h2;rw [h2];decide)
   unfold qK
   rw [if_neg (fun e=>e.2.1 this)]
theorem Stop.nP {ts:List Tok} (h:Stop ts)(n d:Nat)(x:Tr):gX (n+1) d x ts= .ok x ts:=by
 match ts,h with
 | ⟨k,s,l⟩ :: r,⟨h1,h2⟩=>
   have h1:k=3:=h1
   have h2:s=[41]∨s=[93]∨s=[59]∨s=[44]:=h2
   unfold gX
   subst h1
   rcases h2 with rfl | rfl | rfl | rfl <;> rfl
def Rd {α:Type} (b:Bool)(r:Re α)(rest:List Tok):Prop:=match b with
 | true=>∃x,r= .ok x rest
 | false=>r= .bad 3 0
theorem Rd.bind {α β:Type} {b:Bool} {r:Re α} {r2 rest:List Tok} {f:α→List Tok→Re β} (h:Rd b r r2)(hf:∀x,∃y,f x r2= .ok y rest):Rd b (r.bind f) rest:=by
 cases b with
 | true=>
   obtain⟨x,e⟩:=h
   obtain⟨y,e2⟩:=hf x
   exact⟨y,by rw [e];exact e2⟩
 | false=>
   have e:r= .bad 3 0:=h
   show _=_
   rw [e];rfl
theorem Rd.expr {b:Bool} {n d:Nat} {ts rest:List Tok} (h:Rd b (yG (n+1) d ts) rest)(hs:Stop rest):Rd b (fJ (n+2) d 1 ts) rest:=by
 unfold fJ
 cases b with
 | true=>
   obtain⟨x,e⟩:=h
   exact⟨x,by rw [e];exact hs.loop _ _ _⟩
 | false=>
   have e:yG (n+1) d ts= .bad 3 0:=h
   show (yG (n+1) d ts).bind _=_
   rw [e];rfl
theorem dp (ks:List Nat):∀(n d:Nat) (rest:List Tok),Stop rest→d≤64→10*ks.length+6≤n→Rd (decide (d+ks.length≤64)) (yG n d (mQ ks ++ rest)) rest:=by
 induction ks with
 | nil=>
   intro n d rest hs hd hn
   obtain⟨m,rfl⟩:∃m,n=m+4:=⟨n - 4,by omega⟩
   rw [decide_eq_true (by simp only [List.length_nil];omega)]
   refine⟨Rj ⟨2,[55],0⟩,?_⟩
   show yG (m+4) d (⟨2,[55],0⟩ :: rest)=_
   unfold yG
   rw [if_neg (by rintro (h | h) <;> exact absurd h (by simp [bV]))]
   unfold kP jJ
   show (gX (m+2) d (Rj ⟨2,[55],0⟩) rest)=_
   exact hs.nP _ _ _
 | cons k ks ih=>
   intro n d rest hs hd hn
   simp only [List.length_cons] at hn ⊢
   obtain⟨m,rfl⟩:∃m,n=m+10:=⟨n - 10,by omega⟩
   have e0:mQ (k :: ks) ++ rest=Z4 k ++ (mQ ks ++ (shT k ++ rest)):=by
    show Z4 k ++ mQ ks ++ shT k ++ rest=_
    simp only [List.append_assoc]
   rw [e0]
   have wth:∀(a b:List UInt8) (z y:Tok) (r2:List Tok) (j:Nat),j+10=m+10∨j+9=m+10∨j+8=m+10→z.l=0→bV a (z :: (mQ ks ++ y :: r2))=true→bV b (y :: r2)=true→Stop (y :: r2)→Rd (decide (d+(ks.length+1)≤64)) (nO (j+5) d a b (z :: (mQ ks ++ y :: r2))) r2:=by
    intro a b z y r2 j hj hz ha hb hst
    unfold nO jc
    by_cases h64:64≤d
    ·rw [if_pos ⟨ha,h64⟩,decide_eq_false (by omega)]
     show Re.bad 3 z.l=_
     rw [hz]
    ·rw [if_neg (fun e=>h64 e.2),bn,if_pos ha]
     have h1:=(ih (j+3) (d+1) (y :: r2) hst (by omega) (by omega)).expr hst
     rw [show d+1+ks.length=d+(ks.length+1) by omega] at h1
     exact Rd.bind (r:=fJ (j+4) (d+1) 1 (mQ ks ++ y :: r2)) h1 fun x=>⟨x,by show ((bn b (y :: r2)).bind fun _ ts=>Re.ok x ts)=_;rw [bn,if_pos hb];rfl⟩
   have hst:∀(y:List UInt8) (r:List Tok),y=[41]∨y=[93]→Stop (⟨3,y,0⟩ :: r):=fun y r h=>⟨rfl,by rcases h with h | h <;> simp [h]⟩
   match k with
   | 0=>
     show Rd _ (yG (m+10) d (⟨3,[40],0⟩ :: (mQ ks ++ ⟨3,[41],0⟩ :: rest))) rest
     have h1:=wth [40] [41] ⟨3,[40],0⟩ ⟨3,[41],0⟩ rest (m+2) (by omega) rfl rfl rfl (hst _ _ (.inl rfl))
     unfold yG
     rw [if_neg (by rintro (h | h) <;> exact absurd h (by simp [bV]))]
     unfold kP jJ
     exact h1.bind fun x=>⟨x,hs.nP _ _ _⟩
   | 1=>
     show Rd _ (yG (m+10) d (⟨3,[33],0⟩ :: (mQ ks ++ rest))) rest
     unfold yG
     rw [if_pos (.inl rfl)]
     by_cases h64:64≤d
     ·rw [if_pos h64,decide_eq_false (by omega)];rfl
     ·rw [if_neg h64]
      have h1:=ih (m+9) (d+1) rest hs (by omega) (by omega)
      rw [show d+1+ks.length=d+(ks.length+1) by omega] at h1
      exact h1.bind fun x=>⟨_,rfl⟩
   | 2=>
     show Rd _ (yG (m+10) d (⟨1,[112],0⟩ :: ⟨3,[91],0⟩ :: (mQ ks ++ ⟨3,[93],0⟩ :: rest))) rest
     have h1:=wth [91] [93] ⟨3,[91],0⟩ ⟨3,[93],0⟩ rest (m+2) (by omega) rfl rfl rfl (hst _ _ (.inr rfl))
     unfold yG
     rw [if_neg (by rintro (h | h) <;> exact absurd h (by simp [bV]))]
     unfold kP jJ
     show Rd _ (gX (m+8) d (KW [112] 0) (⟨3,[91],0⟩ :: (mQ ks ++ ⟨3,[93],0⟩ :: rest))) rest
     unfold gX
     rw [if_pos (show bV [91] (⟨3,[91],0⟩ :: (mQ ks ++ ⟨3,[93],0⟩ :: rest))=true from rfl)]
     exact h1.bind fun x=>⟨_,hs.nP _ _ _⟩
   | 3=>
     show Rd _ (yG (m+10) d (⟨1,[102],0⟩ :: ⟨3,[40],0⟩ :: ⟨2,[49],0⟩ :: ⟨3,[44],0⟩ :: (mQ ks ++ ⟨3,[41],0⟩ :: rest))) rest
     unfold yG
     rw [if_neg (by rintro (h | h) <;> exact absurd h (by simp [bV]))]
     unfold kP jJ
     show Rd _ (((jc [40] d (⟨3,[40],0⟩ :: ⟨2,[49],0⟩ :: ⟨3,[44],0⟩ :: (mQ ks ++ ⟨3,[41],0⟩ :: rest))).bind fun _ ts=>(gB (m+7) (d+1) true ts).bind fun a ts=>(bn [41] ts).bind fun _ ts=>Re.ok (Tr.ex 4 0 [102] [] .nil .nil a 0) ts).bind fun x ts=>gX (m+8) d x ts) rest
     unfold jc
     by_cases h64:64≤d
     ·rw [if_pos ⟨rfl,h64⟩,decide_eq_false (by omega)];rfl
     ·rw [if_neg (fun e=>h64 e.2)]
      have h1:=(ih (m+4) (d+1) (⟨3,[41],0⟩ :: rest) (hst _ _ (.inl rfl)) (by omega) (by omega)).expr (hst _ _ (.inl rfl))
      rw [show d+1+ks.length=d+(ks.length+1) by omega] at h1
      have hone:fJ (m+6) (d+1) 1 (⟨2,[49],0⟩ :: ⟨3,[44],0⟩ :: (mQ ks ++ ⟨3,[41],0⟩ :: rest))= .ok (Rj ⟨2,[49],0⟩) (⟨3,[44],0⟩ :: (mQ ks ++ ⟨3,[41],0⟩ :: rest)):=by
       have hst4:Stop (⟨3,[44],0⟩ :: (mQ ks ++ ⟨3,[41],0⟩ :: rest)):=⟨rfl,.inr (.inr (.inr rfl))⟩
       unfold fJ yG
       rw [if_neg (by rintro (h | h) <;> exact absurd h (by simp [bV]))]
       unfold kP jJ
       show ((gX (m+3) (d+1) (Rj ⟨2,[49],0⟩) (⟨3,[44],0⟩ :: (mQ ks ++ ⟨3,[41],0⟩ :: rest))).bind fun x ts=>qK (m+5) (d+1) 1 x ts)=_
       rw [hst4.nP]
       exact hst4.loop _ _ _
      have hargs:Rd (decide (d+(ks.length+1)≤64)) (gB (m+7) (d+1) true (⟨2,[49],0⟩ :: ⟨3,[44],0⟩ :: (mQ ks ++ ⟨3,[41],0⟩ :: rest))) (⟨3,[41],0⟩ :: rest):=by
       unfold gB
       show Rd _ ((fJ (m+6) (d+1) 1 (⟨2,[49],0⟩ :: ⟨3,[44],0⟩ :: (mQ ks ++ ⟨3,[41],0⟩ :: rest))).bind fun x ts=>(gB (m+6) (d+1) false ts).bind fun xs ts=>Re.ok (Gy.cons x xs) ts) _
       rw [hone]
       refine Rd.bind (r:=gB (m+6) (d+1) false (⟨3,[44],0⟩ :: (mQ ks ++ ⟨3,[41],0⟩ :: rest))) (r2:=⟨3,[41],0⟩ :: rest) ?_ fun x=>⟨_,rfl⟩
       unfold gB
       show Rd _ ((fJ (m+5) (d+1) 1 (mQ ks ++ ⟨3,[41],0⟩ :: rest)).bind fun x ts=>(gB (m+5) (d+1) false ts).bind fun xs ts=>Re.ok (Gy.cons x xs) ts) _
       exact h1.bind fun x=>⟨Gy.cons x Gy.nil,by unfold gB;rfl⟩
      refine Rd.bind (r:=(gB (m+7) (d+1) true (⟨2,[49],0⟩ :: ⟨3,[44],0⟩ :: (mQ ks ++ ⟨3,[41],0⟩ :: rest))).bind fun a ts=>(bn [41] ts).bind fun _ ts=>Re.ok (Tr.ex 4 0 [102] [] .nil .nil a 0) ts) (r2:=rest) (hargs.bind fun a=>⟨_,rfl⟩) fun x=>⟨_,hs.nP _ _ _⟩
   | 4=>
     show Rd _ (yG (m+10) d (⟨4,[110,101,119],0⟩ :: ⟨3,[40],0⟩ :: (mQ ks ++ ⟨3,[41],0⟩ :: rest))) rest
     have h1:=wth [40] [41] ⟨3,[40],0⟩ ⟨3,[41],0⟩ rest (m+2) (by omega) rfl rfl rfl (hst _ _ (.inl rfl))
     unfold yG
     rw [if_neg (by rintro (h | h) <;> exact absurd h (by simp [bV]))]
     unfold kP jJ
     exact Rd.bind (r:=(nO (m+7) d [40] [41] (⟨3,[40],0⟩ :: (mQ ks ++ ⟨3,[41],0⟩ :: rest))).bind fun x ts=>Re.ok (Tr.ex 7 0 [] [] x .nil .nil 0) ts) (r2:=rest) (h1.bind fun x=>⟨_,rfl⟩) fun x=>⟨_,hs.nP _ _ _⟩
   | k+5=>
     show Rd _ (yG (m+10) d (⟨1,[112],0⟩ :: ⟨3,[58],0⟩ :: ⟨3,[40],0⟩ :: (mQ ks ++ ⟨3,[41],0⟩ :: rest))) rest
     have h1:=wth [40] [41] ⟨3,[40],0⟩ ⟨3,[41],0⟩ rest (m+1) (by omega) rfl rfl rfl (hst _ _ (.inl rfl))
     unfold yG
     rw [if_neg (by rintro (h | h) <;> exact absurd h (by simp [bV]))]
     unfold kP jJ
     show Rd _ (gX (m+8) d (KW [112] 0) (⟨3,[58],0⟩ :: ⟨3,[40],0⟩ :: (mQ ks ++ ⟨3,[41],0⟩ :: rest))) rest
     unfold gX yj
     exact h1.bind fun x=>⟨_,hs.nP _ _ _⟩
end Go.bK.YtobmjhfgmhfocaaGreatDoor
namespace Go.bK.YtobmjhfgmhfocaaGreatDoor
set_option maxRecDepth 4000
def LG:Nat→List UInt8
 | 0=>[40]
 | 1=>[33]
 | 2=>[112,91]
 | 3=>[102,40,49,44]
 | 4=>[110,101,119,40]
 | _=>[112,58,40]
def shS:Nat→List UInt8
 | 1=>[]
 | 2=>[93]
 | _=>[41]
def GU:List Nat→List UInt8
 | []=>[55]
 | k :: ks=>LG k ++ GU ks ++ shS k
def qL (ks:List Nat):List UInt8:=ks.flatMap LG
def toS:List Nat→List UInt8
 | []=>[]
 | k :: ks=>toS ks ++ shS k
theorem Oi:∀ks:List Nat,GU ks=qL ks ++ [55] ++ toS ks
 | []=>rfl
 | k :: ks=>by
   show LG k ++ GU ks ++ shS k=_
   rw [Oi ks]
   simp [qL,toS,List.append_assoc]
theorem Oj (ks:List Nat)(k:Nat):qL (ks ++ [k])=qL ks ++ LG k:=by simp [qL]
theorem LH (k:Nat):∀ks:List Nat,toS (ks ++ [k])=shS k ++ toS ks
 | []=>by simp [toS]
 | x :: ks=>by show toS (ks ++ [k]) ++ shS x=_;rw [LH k ks];simp [toS,List.append_assoc]
theorem GV (n:Nat)(c:UInt8)(t:List UInt8)(l:Nat)(acc:List Tok):mG (n+1) (c :: t) l acc=match step (c :: t) with
 | .skip k nl=>mG n ((c :: t).drop k) (l+nl) acc
 | .tok k m=>mG n ((c :: t).drop m) l (acc ++ [⟨k,(c :: t).take m,l⟩])
 | .err e=>.bad e l:=rfl
theorem WX (n l:Nat)(acc:List Tok):mG n [] l acc= .done acc l:=by cases n <;> rfl
def dD (s x:List UInt8)(ts:List Tok):Prop:=∀(n:Nat) (acc:List Tok),(s ++ x).length≤n→∃n',x.length≤n'∧mG n (s ++ x) 0 acc=mG n' x 0 (acc ++ ts)
theorem dD.tok {u x:List UInt8} {k:Nat} (hu:u≠[])(h:step (u ++ x)= .tok k u.length):dD u x [⟨k,u,0⟩]:=by
 intro n acc hn
 cases u with
 | nil=>exact(hu rfl).elim
 | cons c u=>
   simp only [List.cons_append,List.length_cons,List.length_append] at hn
   obtain⟨m,rfl⟩:∃m,n=m+1:=⟨n - 1,by omega⟩
   refine⟨m,by omega,?_⟩
   show mG (m+1) (c :: (u ++ x)) 0 acc=_
   have h:step (c :: (u ++ x))= .tok k (c :: u).length:=h
   rw [GV,h]
   have e1:(c :: (u ++ x)).drop (c :: u).length=x:=by rw [←List.cons_append,List.drop_left]
   have e2:(c :: (u ++ x)).take (c :: u).length=c :: u:=by rw [←List.cons_append,List.take_left]
   simp only [e1,e2]
theorem dD.blank (x:List UInt8):dD [32] x []:=by
 intro n acc hn
 simp only [List.cons_append,List.nil_append,List.length_cons] at hn
 obtain⟨m,rfl⟩:∃m,n=m+1:=⟨n - 1,by omega⟩
 refine⟨m,by omega,?_⟩
 have h:step (32 :: x)= .skip 1 0:=rfl
 show mG (m+1) (32 :: x) 0 acc=_
 rw [GV,h,List.append_nil]
 rfl
theorem dD.app {s s' x:List UInt8} {ts ts':List Tok} (h:dD s (s' ++ x) ts)(h':dD s' x ts'):dD (s ++ s') x (ts ++ ts'):=by
 intro n acc hn
 rw [List.append_assoc] at hn ⊢
 obtain⟨n1,h1,e1⟩:=h n acc hn
 obtain⟨n2,h2,e2⟩:=h' n1 (acc ++ ts) h1
 exact⟨n2,h2,by rw [e1,e2,List.append_assoc]⟩
theorem two_no (c:UInt8)(x:List UInt8)(h:∀w∈mX,w.head?≠some c):mX.contains ((c :: x).take 2)=false:=by
 cases hc:mX.contains ((c :: x).take 2) with
 | false=>rfl
 | true=>
   have:=h _ (List.contains_iff_mem.1 hc)
   exact(this (by rw [List.take_succ_cons];rfl)).elim
theorem LJ (c:UInt8)(x:List UInt8)(h0:c≠47)(h1:fZ c.toNat=false)(h2:dB c.toNat=false)(h3:isDigit c.toNat=false)(h4:qJ c.toNat=true)(h5:mX.contains ((c :: x).take 2)=false):step (c :: x)= .tok 3 1:=by
 unfold step
 have hp: [47,47].isPrefixOf (c :: x)=false:=by
  simp only [List.isPrefixOf,Bool.and_eq_false_iff]
  left;exact beq_eq_false_iff_ne.2 (fun e=>h0 e.symm)
 rw [hp]
 simp only [h1,h2,h3,h4,h5,Bool.false_eq_true,if_false,if_true]
theorem fC (c:UInt8)(x:List UInt8)(h:c∈[40,41,91,93,44,58,59,123,125]):dD [c] x [⟨3,[c],0⟩]:=by
 refine .tok (by simp) ?_
 show step (c :: x)= .tok 3 1
 have key:∀c∈([40,41,91,93,44,58,59,123,125]:List UInt8),c≠47∧fZ c.toNat=false∧dB c.toNat=false∧isDigit c.toNat=false∧qJ c.toNat=true∧∀w∈mX,w.head?≠some c:=by decide
 obtain⟨h0,h1,h2,h3,h4,h5⟩:=key c h
 exact LJ c x h0 h1 h2 h3 h4 (two_no c x h5)
def StopS (x:List UInt8):Prop:=∃c r,x=c :: r∧(c=41∨c=93∨c=59)
theorem WY:∀(ks:List Nat) (x:List UInt8),∃c r,GU ks ++ x=c :: r∧c≠61
 | [],x=>⟨55,x,rfl,by decide⟩
 | 0 :: ks,x=>⟨40,_,rfl,by decide⟩
 | 1 :: ks,x=>⟨33,_,rfl,by decide⟩
 | 2 :: ks,x=>⟨112,_,rfl,by decide⟩
 | 3 :: ks,x=>⟨102,_,rfl,by decide⟩
 | 4 :: ks,x=>⟨110,_,rfl,by decide⟩
 | (k+5) :: ks,x=>⟨112,_,rfl,by decide⟩
theorem wz:∀(ks:List Nat) (x:List UInt8),StopS x→dD (GU ks) x (mQ ks)
 | [],x,⟨c,r,hx,hc⟩=>by
   subst hx
   show dD [55] (c :: r) [⟨2,[55],0⟩]
   refine .tok (by simp) ?_
   rcases hc with rfl | rfl | rfl <;> rfl
 | 0 :: ks,x,hx=>(dD.app (s:=LG 0 ++ GU ks) ((fC 40 _ (by decide)).app (wz ks _ ⟨41,x,rfl,.inl rfl⟩)) (fC 41 x (by decide)))
 | 1 :: ks,x,hx=>by
   have h1:=wz ks x hx
   have h2:dD [33] (GU ks ++ x) [⟨3,[33],0⟩]:=by
     refine .tok (by simp) ?_
     obtain⟨c,r,e,hc⟩:=WY ks x
     rw [e]
     refine LJ 33 _ (by decide) (by decide) (by decide) (by decide) (by decide) ?_
     show mX.contains [33,c]=false
     cases hh:mX.contains [33,c] with
     | false=>rfl
     | true=>
       have:=List.contains_iff_mem.1 hh
       simp [mX] at this
       exact(hc this).elim
   have h3:=h2.app h1
   show dD (LG 1 ++ GU ks ++ []) x (Z4 1 ++ mQ ks ++ [])
   rw [List.append_nil,List.append_nil]
   exact h3
 | 2 :: ks,x,hx=>by
   have h1:=wz ks (93 :: x) ⟨93,x,rfl,.inr (.inl rfl)⟩
   have h2:dD [112] ([91] ++ (GU ks ++ 93 :: x)) [⟨1,[112],0⟩]:=.tok (by simp) rfl
   exact dD.app (s:=LG 2 ++ GU ks) (dD.app (s:=LG 2) (h2.app (fC 91 _ (by decide))) h1) (fC 93 x (by decide))
 | 3 :: ks,x,hx=>by
   have h1:=wz ks (41 :: x) ⟨41,x,rfl,.inl rfl⟩
   have h2:dD [102] ([40] ++ ([49] ++ ([44] ++ (GU ks ++ 41 :: x)))) [⟨1,[102],0⟩]:=.tok (by simp) rfl
   have h3:dD [49] ([44] ++ (GU ks ++ 41 :: x)) [⟨2,[49],0⟩]:=.tok (by simp) rfl
   exact dD.app (s:=LG 3 ++ GU ks) (dD.app (s:=LG 3) (ts:=Z4 3) (dD.app (s:=[102]) (s':=[40,49,44]) h2 (dD.app (s:=[40]) (s':=[49,44]) (fC 40 _ (by decide)) (dD.app (s:=[49]) (s':=[44]) h3 (fC 44 _ (by decide))))) h1) (fC 41 x (by decide))
 | 4 :: ks,x,hx=>by
   have h1:=wz ks (41 :: x) ⟨41,x,rfl,.inl rfl⟩
   have h2:dD [110,101,119] ([40] ++ (GU ks ++ 41 :: x)) [⟨4,[110,101,119],0⟩]:=.tok (by simp) rfl
   exact dD.app (s:=LG 4 ++ GU ks) (dD.app (s:=LG 4) (h2.app (fC 40 _ (by decide))) h1) (fC 41 x (by decide))
 | (k+5) :: ks,x,hx=>by
   have h1:=wz ks (41 :: x) ⟨41,x,rfl,.inl rfl⟩
   have h2:dD [112] ([58] ++ ([40] ++ (GU ks ++ 41 :: x))) [⟨1,[112],0⟩]:=.tok (by simp) rfl
   exact dD.app (s:=LG (k+5) ++ GU ks) (dD.app (s:=LG (k+5)) (ts:=Z4 (k+5)) (dD.app (s:=[112]) (s':=[58,40]) h2 (dD.app (s:=[58]) (s':=[40]) (fC 58 _ (by decide)) (fC 40 _ (by decide)))) h1) (fC 41 x (by decide))
def RJ:List Tok:=[⟨4,uV,0⟩,⟨1,[102],0⟩,⟨3,[40],0⟩,⟨3,[41],0⟩,⟨3,[123],0⟩,⟨4,gI,0⟩]
def tH (ks:List Nat):List UInt8:=[102,117,110,99,32,102,40,41,32,123,32,114,101,116,117,114,110,32] ++ (GU ks ++ [59,32,125])
def yD (ks:List Nat):List Tok:=RJ ++ (mQ ks ++ [⟨3,[59],0⟩,⟨3,[125],0⟩,⟨5,[],0⟩])
theorem WZ (ks:List Nat)(hl:(tH ks).length≤32768):EN (tH ks)= .toks (yD ks):=by
 have h1:dD (GU ks ++ [59,32,125]) [] (mQ ks ++ [⟨3,[59],0⟩,⟨3,[125],0⟩]):=
  (wz ks ([59,32,125] ++ []) ⟨59,[32,125],rfl,.inr (.inr rfl)⟩).app (dD.app (s:=[59]) (s':=[32,125]) (fC 59 _ (by decide)) (dD.app (s:=[32]) (s':=[125]) (dD.blank _) (fC 125 [] (by decide))))
 have h2:dD [102,117,110,99,32,102,40,41,32,123,32,114,101,116,117,114,110,32] ((GU ks ++ [59,32,125]) ++ []) RJ:=
  dD.app (s:=uV) (ts:=[⟨4,uV,0⟩]) (s':=[32,102,40,41,32,123,32,114,101,116,117,114,110,32]) (.tok (by decide) rfl)
    (dD.app (s:=[32]) (dD.blank _) (dD.app (s:=[102]) (ts:=[⟨1,[102],0⟩]) (.tok (by decide) rfl) (dD.app (s:=[40]) (fC 40 _ (by decide)) (dD.app (s:=[41]) (fC 41 _ (by decide)) (dD.app (s:=[32]) (dD.blank _) (dD.app (s:=[123]) (fC 123 _ (by decide)) (dD.app (s:=[32]) (dD.blank _) (dD.app (s:=gI) (ts:=[⟨4,gI,0⟩]) (s':=[32]) (.tok (by decide) rfl) (dD.blank _)))))))))
 obtain⟨n',_,e⟩:=(h2.app h1) (tH ks).length [] (by rw [List.append_nil];exact Nat.le_refl _)
 unfold EN
 rw [if_neg (by omega)]
 have e':mG (tH ks).length (tH ks) 0 []=mG n' [] 0 (RJ ++ (mQ ks ++ [⟨3,[59],0⟩,⟨3,[125],0⟩])):=by
  rw [List.append_nil,List.nil_append] at e;exact e
 rw [e',show mG n' [] 0 (RJ ++ (mQ ks ++ [⟨3,[59],0⟩,⟨3,[125],0⟩]))= .done (RJ ++ (mQ ks ++ [⟨3,[59],0⟩,⟨3,[125],0⟩])) 0 from WX _ _ _]
 simp [Zy.fin,yD,List.append_assoc]
end Go.bK.YtobmjhfgmhfocaaGreatDoor
namespace Go.bK.YtobmjhfgmhfocaaGreatDoor
theorem PY:∀ks:List Nat,ks.length<(mQ ks).length
 | []=>Nat.zero_lt_one
 | k :: ks=>by
   have:=PY ks
   have h1:1≤(Z4 k).length:=by
     match k with
     | 0 | 1 | 2 | 3 | 4 | k+5=>simp [Z4]
   show ks.length+1<(Z4 k ++ mQ ks ++ shT k).length
   rw [List.length_append,List.length_append];omega
theorem W9 (s:List UInt8)(hs:s=[59]):∀(ks:List Nat) (x:List Tok),bV s (mQ ks ++ x)=false:=by
 subst hs
 intro ks x
 match ks with
 | []=>rfl
 | 0 :: ks=>rfl
 | 1 :: ks=>rfl
 | 2 :: ks=>rfl
 | 3 :: ks=>rfl
 | 4 :: ks=>rfl
 | (k+5) :: ks=>rfl
theorem RN (ks:List Nat)(n:Nat)(hn:10*ks.length+20≤n):let r:=jf n 1 (⟨4,gI,0⟩ :: (mQ ks ++ [⟨3,[59],0⟩,⟨3,[125],0⟩,⟨5,[],0⟩]))
 (ks.length≤63→∃l,r= .ok l [⟨3,[125],0⟩,⟨5,[],0⟩])∧(63<ks.length→r= .bad 3 0):=by
 intro r
 obtain⟨m,rfl⟩:∃m,n=m+10:=⟨n - 10,by omega⟩
 have hst:Stop [⟨3,[59],0⟩,⟨3,[125],0⟩,⟨5,[],0⟩]:=⟨rfl,.inr (.inr (.inl rfl))⟩
 have h1:=(dp ks (m+6) 1 [⟨3,[59],0⟩,⟨3,[125],0⟩,⟨5,[],0⟩] hst (by omega) (by omega)).expr hst
 have hw:∀(s:List UInt8),(gI == s)=false→¬bV s (⟨4,gI,0⟩ :: (mQ ks ++ [⟨3,[59],0⟩,⟨3,[125],0⟩,⟨5,[],0⟩]))=true:=fun s h=>by
  show ¬(gI == s)=true
  rw [h];decide
 have e1:uX (m+9) 1 (⟨4,gI,0⟩ :: (mQ ks ++ [⟨3,[59],0⟩,⟨3,[125],0⟩,⟨5,[],0⟩]))=(dJ (m+8) 1 (mQ ks ++ [⟨3,[59],0⟩,⟨3,[125],0⟩,⟨5,[],0⟩])).bind fun x ts=>.ok (.st 9 [] false .nil x .nil .nil 0) ts:=by
  unfold uX
  rw [if_neg (hw wVar rfl),if_neg (hw wIf rfl),if_neg (hw Wp rfl),if_neg (hw wOut rfl),if_neg (hw wFree rfl),if_neg (hw Wq rfl),if_pos (show bV gI (⟨4,gI,0⟩ :: (mQ ks ++ [⟨3,[59],0⟩,⟨3,[125],0⟩,⟨5,[],0⟩]))=true from rfl),if_neg (by rw [W9 _ rfl];decide)]
 have e2:r=(uX (m+9) 1 (⟨4,gI,0⟩ :: (mQ ks ++ [⟨3,[59],0⟩,⟨3,[125],0⟩,⟨5,[],0⟩]))).bind fun x ts=>(jf (m+9) 1 ts).bind fun l ts=>.ok (.cons x l) ts:=by
  show jf (m+10) 1 _=_
  rw [jf]
  rw [if_neg (hw [125] rfl)]
 have e3:∀ts,dJ (m+8) 1 ts=(fJ (m+7) 1 1 ts).bind fun x ts=>(bn [59] ts).bind fun _ ts=>.ok x ts:=fun ts=>by rw [dJ]
 have h1:Rd (decide (1+ks.length≤64)) (fJ (m+7) 1 1 (mQ ks ++ [⟨3,[59],0⟩,⟨3,[125],0⟩,⟨5,[],0⟩])) [⟨3,[59],0⟩,⟨3,[125],0⟩,⟨5,[],0⟩]:=h1
 rw [e2,e1,e3]
 constructor
 ·intro h
  rw [decide_eq_true (by omega)] at h1
  obtain⟨x,e⟩:=h1
  rw [e]
  refine⟨.cons (.st 9 [] false .nil x .nil .nil 0) .nil,?_⟩
  show ((jf (m+9) 1 [⟨3,[125],0⟩,⟨5,[],0⟩]).bind fun l ts=>Re.ok (IK.cons (.st 9 [] false .nil x .nil .nil 0) l) ts)=_
  rw [jf,if_pos (by decide)]
  rfl
 ·intro h
  rw [decide_eq_false (by omega)] at h1
  have e:fJ (m+7) 1 1 (mQ ks ++ [⟨3,[59],0⟩,⟨3,[125],0⟩,⟨5,[],0⟩])= .bad 3 0:=h1
  rw [e];rfl
theorem Ol (ks:List Nat)(n:Nat)(hn:10*ks.length+30≤n):(ks.length≤63→∃fs ts,iK n (yD ks)= .ok fs ts)∧(63<ks.length→iK n (yD ks)= .bad 3 0):=by
 obtain⟨m,rfl⟩:∃m,n=m+3:=⟨n - 3,by omega⟩
 have h1:=RN ks (m+1) (by omega)
 simp only at h1
 have e1:iK (m+3) (yD ks)=(Au (m+2) (yD ks)).bind fun f ts=>(iK (m+2) ts).bind fun l ts=>.ok (f :: l) ts:=by
  show iK (m+3) (⟨4,uV,0⟩ :: _)=_
  rw [iK,if_neg (by decide)]
  rfl
 have e2:Au (m+2) (yD ks)=(fB (m+2) 0 (⟨3,[123],0⟩ :: ⟨4,gI,0⟩ :: (mQ ks ++ [⟨3,[59],0⟩,⟨3,[125],0⟩,⟨5,[],0⟩]))).bind fun b dK=>.ok ⟨[102],[],false,b,0⟩ dK:=by
  unfold Au
  show ((eu (m+2) true (⟨3,[41],0⟩ :: ⟨3,[123],0⟩ :: ⟨4,gI,0⟩ :: (mQ ks ++ [⟨3,[59],0⟩,⟨3,[125],0⟩,⟨5,[],0⟩]))).bind fun ps dK=>(bn [41] dK).bind fun _ dK=>(fB (m+2) 0 (if bV je dK=true then dK.tail else dK)).bind fun b kQ=>Re.ok (⟨[102],ps,bV je dK,b,0⟩:Fm) kQ)=_
  rw [eu,if_pos (by rfl)]
  rfl
 have e3:fB (m+2) 0 (⟨3,[123],0⟩ :: ⟨4,gI,0⟩ :: (mQ ks ++ [⟨3,[59],0⟩,⟨3,[125],0⟩,⟨5,[],0⟩]))=(jf (m+1) 1 (⟨4,gI,0⟩ :: (mQ ks ++ [⟨3,[59],0⟩,⟨3,[125],0⟩,⟨5,[],0⟩]))).bind fun l ts=>(bn [125] ts).bind fun _ ts=>.ok l ts:=by
  rw [fB]
  rfl
 rw [e1,e2,e3]
 refine⟨fun h=>?_,fun h=>?_⟩
 ·obtain⟨l,e⟩:=h1.1 h
  rw [e]
  refine⟨[⟨[102],[],false,l,0⟩],[⟨5,[],0⟩],?_⟩
  show ((iK (m+2) [⟨5,[],0⟩]).bind fun l' ts=>Re.ok ((⟨[102],[],false,l,0⟩:Fm) :: l') ts)=_
  rw [iK,if_pos rfl]
  rfl
 ·rw [h1.2 h];rfl
end Go.bK.YtobmjhfgmhfocaaGreatDoor
namespace Go.bK.YtobmjhfgmhfocaaGreatDoor
open Go.Proofs
set_option maxRecDepth 4000
def byV (b:UInt8):AV:=.i .u8 b.toNat
def W_ (σ:St)(v:AV)(bs:List UInt8):Prop:=(bs=[]∧v= .sl0)∨∃o g ro e,v= .sl o g 0 bs.length 1∧σ[o]? =some ⟨g,ro,.cells e (bs.map byV)⟩
def kd (bs:List UInt8)(i:Nat):Nat:=match bs[i]? with
 | some b=>b.toNat%6
 | none=>0
def I8 (bs:List UInt8)(n:Nat):List Nat:=(List.range n).map (kd bs)
theorem Xa (bs:List UInt8)(n:Nat):I8 bs (n+1)=I8 bs n ++ [kd bs n]:=by simp [I8,List.range_succ]
theorem PZ (bs:List UInt8)(n:Nat):(I8 bs n).length=n:=by simp [I8]
theorem uF:∀ks:List Nat,(qL ks).length≤4*ks.length
 | []=>Nat.le_refl _
 | k :: ks=>by
   have:=uF ks
   have h1:(LG k).length≤4:=by
     match k with
     | 0 | 1 | 2 | 3 | 4 | k+5=>simp [LG]
   have e:qL (k :: ks)=LG k ++ qL ks:=rfl
   rw [e,List.length_append,List.length_cons];omega
theorem BO:∀ks:List Nat,(toS ks).length≤ks.length
 | []=>Nat.le_refl _
 | k :: ks=>by
   have:=BO ks
   have h1:(shS k).length≤1:=by
     match k with
     | 0 | 1 | 2 | 3 | 4 | k+5=>simp [shS]
   have e:toS (k :: ks)=toS ks ++ shS k:=rfl
   rw [e,List.length_append,List.length_cons];omega
set_option maxHeartbeats 8000000 in
theorem RP (bs:List UInt8)(hbs:bs.length≤9223372036854775807)(D:Nat)(hD:D≤99)(σ:St)(vb:AV)(hb:W_ σ vb bs)(Q:Out→Env→St→Prop)
 (q:∀e',get e' 5= .i .i64 D→get e' 6= .s (qL (I8 bs D))→get e' 7= .s (toS (I8 bs D))→get e' 1000000= .u→Q (.exit 0) e' σ):∀(k i:Nat),i+k=D→
 b_ X [1,5,6,7,8] c9L0 [(1,vb),(5,.i .i64 D),(6,.s (qL (I8 bs i))),(7,.s (toS (I8 bs i))),(8,.i .i64 i)] σ Q:=by
 intro k
 induction k with
 | zero=>
   intro i hi
   obtain rfl:i=D:=by omega
   rcases hb with ⟨rfl,rfl⟩ | ⟨o,g,ro,e,rfl,ho⟩
   all_goals
    refine b_.round aC (lit:=false) ?_
    conv=>whnf
    rw [decide_eq_false (by omega)]
    conv=>whnf
    conv=>whnf
    exact q _ rfl rfl rfl rfl
 | succ k ih=>
   intro i hi
   have h1:=uF (I8 bs i)
   have h2:=BO (I8 bs i)
   rw [PZ] at h1 h2
   have hih:=ih (i+1) (by omega)
   rw [Xa,Oj,LH] at hih
   generalize qL (I8 bs i)=fr at h1 hih ⊢
   generalize toS (I8 bs i)=tt at h2 hih ⊢
   rcases hb with ⟨rfl,rfl⟩ | ⟨o,g,ro,e,rfl,ho⟩
   ·refine b_.round aC (lit:=false) ?_
    conv=>whnf
    rw [decide_eq_true (by omega)]
    conv=>whnf
    conv=>whnf
    refine⟨by decide,?_⟩
    conv=>whnf
    refine⟨by show fr.length+1≤_;omega,?_⟩
    conv=>whnf
    refine⟨by show 1+tt.length≤_;omega,?_⟩
    conv=>whnf
    refine⟨((i+1:Nat):Int),wrap_i64 (by omega) (by omega),?_⟩
    conv=>whnf
    exact hih
   ·by_cases hin:i<bs.length
    ·obtain⟨b,hbi⟩:∃b,bs[i]? =some b:=⟨_,List.getElem?_eq_getElem hin⟩
     have hcell:(bs.map byV)[0+i*1]? =some (byV b):=by rw [Nat.zero_add,Nat.mul_one,List.getElem?_map,hbi];rfl
     have hkd:kd bs i=b.toNat%6:=by unfold kd;rw [hbi]
     rw [hkd] at hih
     refine b_.round aC (lit:=false) ?_
     conv=>whnf
     rw [decide_eq_true (by omega)]
     conv=>whnf
     conv=>whnf
     rw [decide_eq_true (by omega)]
     conv=>whnf
     refine⟨i,rfl,hin,?_⟩
     conv=>whnf
     refine ak (aj (T:=yT5) rfl rfl (ah ho) hcell) ?_
     conv=>whnf
     refine⟨by decide,?_⟩
     conv=>whnf
     rw [show ((b.toNat:Nat):Int).tmod 6=((b.toNat%6:Nat):Int) from rfl]
     have hr:b.toNat%6<6:=Nat.mod_lt _ (by decide)
     generalize b.toNat%6=r at hr hih ⊢
     have hr:r=0∨r=1∨r=2∨r=3∨r=4∨r=5:=by omega
     rcases hr with rfl | rfl | rfl | rfl | rfl | rfl
     ·conv=>whnf
      refine⟨by show fr.length+1≤_;omega,?_⟩
      conv=>whnf
      refine⟨by show 1+tt.length≤_;omega,?_⟩
      conv=>whnf
      refine⟨((i+1:Nat):Int),wrap_i64 (by omega) (by omega),?_⟩
      conv=>whnf
      exact hih
     ·conv=>whnf
      refine⟨by show fr.length+1≤_;omega,?_⟩
      conv=>whnf
      refine⟨((i+1:Nat):Int),wrap_i64 (by omega) (by omega),?_⟩
      conv=>whnf
      exact hih
     ·conv=>whnf
      refine⟨by show fr.length+2≤_;omega,?_⟩
      conv=>whnf
      refine⟨by show 1+tt.length≤_;omega,?_⟩
      conv=>whnf
      refine⟨((i+1:Nat):Int),wrap_i64 (by omega) (by omega),?_⟩
      conv=>whnf
      exact hih
     ·conv=>whnf
      refine⟨by show fr.length+4≤_;omega,?_⟩
      conv=>whnf
      refine⟨by show 1+tt.length≤_;omega,?_⟩
      conv=>whnf
      refine⟨((i+1:Nat):Int),wrap_i64 (by omega) (by omega),?_⟩
      conv=>whnf
      exact hih
     ·conv=>whnf
      refine⟨by show fr.length+4≤_;omega,?_⟩
      conv=>whnf
      refine⟨by show 1+tt.length≤_;omega,?_⟩
      conv=>whnf
      refine⟨((i+1:Nat):Int),wrap_i64 (by omega) (by omega),?_⟩
      conv=>whnf
      exact hih
     ·conv=>whnf
      refine⟨by show fr.length+3≤_;omega,?_⟩
      conv=>whnf
      refine⟨by show 1+tt.length≤_;omega,?_⟩
      conv=>whnf
      refine⟨((i+1:Nat):Int),wrap_i64 (by omega) (by omega),?_⟩
      conv=>whnf
      exact hih
    ·have hkd:kd bs i=0:=by unfold kd;rw [List.getElem?_eq_none (by omega)]
     rw [hkd] at hih
     refine b_.round aC (lit:=false) ?_
     conv=>whnf
     rw [decide_eq_true (by omega)]
     conv=>whnf
     conv=>whnf
     rw [decide_eq_false (by omega)]
     conv=>whnf
     refine⟨by decide,?_⟩
     conv=>whnf
     refine⟨by show fr.length+1≤_;omega,?_⟩
     conv=>whnf
     refine⟨by show 1+tt.length≤_;omega,?_⟩
     conv=>whnf
     refine⟨((i+1:Nat):Int),wrap_i64 (by omega) (by omega),?_⟩
     conv=>whnf
     exact hih
end Go.bK.YtobmjhfgmhfocaaGreatDoor
namespace Go.bK.YtobmjhfgmhfocaaGreatDoor
open Go.Proofs
set_option maxRecDepth 4000
theorem RQ (ks:List Nat):(tH ks).length≤5*ks.length+22:=by
 have h1:=uF ks
 have h2:=BO ks
 unfold tH
 rw [Oi]
 simp only [List.length_append,List.length_cons,List.length_nil]
 omega
theorem Xb (ks:List Nat)(h:ks.length≤99):(ks.length≤63→∃fs ts,Es (tH ks)= .ok fs ts)∧(63<ks.length→Es (tH ks)= .bad 3 0):=by
 unfold Es
 rw [WZ ks (by have:=RQ ks;omega)]
 have hl:=PY ks
 exact Ol ks _ (by
  show 10*ks.length+30≤10*(yD ks).length+11
  unfold yD RJ
  simp only [List.length_append,List.length_cons,List.length_nil]
  omega)
theorem RS (ks:List Nat): [102,117,110,99,32,102,40,41,32,123,32,114,101,116,117,114,110,32] ++ qL ks ++ [55] ++ toS ks ++ [59,32,125]=tH ks:=by
 unfold tH
 rw [Oi]
 simp only [List.append_assoc]
theorem Z5 (n:Nat)(hn:n≤255)(bs:List UInt8)(hbs:bs.length≤9223372036854775807)(σ:St)(hg:σ.take G0.length=G0)(vb:AV)(hb:W_ σ vb bs):ay X 9 [.i .u8 n,vb] σ fun v s=>v= .b true∧s=σ:=by
 have hD:n%100≤99:=by omega
 have hloop:=RP bs hbs (n%100) hD σ vb hb
 have hk:=PZ bs (n%100)
 have hout:=Xb (I8 bs (n%100)) (by omega)
 have htext:=RS (I8 bs (n%100))
 have hl1:=uF (I8 bs (n%100))
 have hl2:=BO (I8 bs (n%100))
 rw [hk] at hl1 hl2 hout
 have hv:vb= .sl0∨∃o g n,vb= .sl o g 0 n 1:=by
  rcases hb with ⟨_,rfl⟩ | ⟨o,g,ro,e,rfl,_⟩
  ·exact .inl rfl
  ·exact .inr ⟨_,_,_,rfl⟩
 refine ay.body (F:=F9) aC (lit:=false) rfl rfl (Nat.le_of_ble_eq_true rfl) ?_
 conv=>whnf
 refine V7 σ hg ?_
 rcases hv with rfl | ⟨ov,gv,nv,rfl⟩
 all_goals
  conv=>whnf
  refine⟨by decide,?_⟩
  rw [show ((n:Nat):Int).tmod 100=((n%100:Nat):Int) from rfl]
  conv=>whnf
  refine⟨((n%100:Nat):Int),wrap_i64 (by omega) (by omega),?_⟩
  conv=>whnf
  refine hloop _ (fun e' h5 h6 h7 hu=>?_) (n%100) 0 (by omega)
  generalize I8 bs (n%100)=ks at h6 h7 hl1 hl2 hk hout htext
  conv=>whnf
  rw [h5]
  conv=>whnf
  rw [h6]
  conv=>whnf
  rw [h7]
  conv=>whnf
  refine⟨by simp only [List.length_append,List.length_cons,List.length_nil];omega,?_⟩
  conv=>whnf
  refine⟨by simp only [List.length_append,List.length_cons,List.length_nil];omega,?_⟩
  conv=>whnf
  refine⟨by simp only [List.length_append,List.length_cons,List.length_nil];omega,?_⟩
  conv=>whnf
  refine⟨by simp only [List.length_append,List.length_cons,List.length_nil];omega,?_⟩
  conv=>whnf
  rw [htext]
  refine ZW _ σ hg _ ?_
  by_cases h63:63<n%100
  ·rw [hout.2 h63]
   intro o g σ' hx ho
   conv=>whnf
   rw [decide_eq_true (by omega)]
   conv=>whnf
   conv=>whnf
   refine ay.to (ZY (pK hx hg) ho) ?_
   conv=>whnf
   exact Fin.flat rfl hx.take ⟨rfl,rfl⟩
  ·obtain⟨fs,ts,e⟩:=hout.1 (by omega)
   rw [e]
   intro o σ' hx ho
   conv=>whnf
   rw [decide_eq_false (by omega)]
   conv=>whnf
   conv=>whnf
   refine ay.to (ZX _ _ _) ?_
   conv=>whnf
   exact Fin.flat rfl hx.take ⟨rfl,rfl⟩
end Go.bK.YtobmjhfgmhfocaaGreatDoor
