/- Texts of this claim, joined: Lx, Fg, Wk, Cy. -/
import Derived.Lib.Bytealg
import Derived.Lib.ParseIntB
import GoSem.Core.Value
import Derived.Test.YtobmjhfgmhfocaaGreatDoorM10
import Derived.Test.YtobmjhfgmhfocaaGreatDoorM14
import Derived.Test.YtobmjhfgmhfocaaGreatDoorM15
set_option linter.unusedVariables false
set_option linter.unusedSimpArgs false
namespace Go.bK.YtobmjhfgmhfocaaGreatDoor
def dB (c:Int):Bool:=(decide (97≤c) && decide (c≤122)) || (decide (65≤c) && decide (c≤90)) || c == 95
def isDigit (c:Int):Bool:=decide (48≤c) && decide (c≤57)
def fZ (c:Int):Bool:=c == 32 || c == 9 || c == 13 || c == 10
def isWord (c:Int):Bool:=dB c || isDigit c
def ones:List UInt8:=[40,41,123,125,91,93,44,59,58,61,60,62,43,45,124,94,38,42,47,37,33]
def qJ (c:Int):Bool:=decide (0≤Lib.indexByte ones (IntKind.u8.wrap c).toNat.toUInt8) && decide (c<128)
def kindOf (c:Int):Int:=if fZ c then 1 else if dB c then 2 else if isDigit c then 3 else if qJ c then 4 else 0
def run (p:Int→Bool):List UInt8→Nat
 | []=>0
 | c :: t=>if p c.toNat then run p t+1 else 0
theorem qF (p:Int→Bool):∀t,run p t≤t.length
 | []=>Nat.le_refl _
 | c :: t=>by
   simp only [run,List.length_cons]
   split
   ·have:=qF p t;omega
   ·omega
theorem uq {p:Int→Bool} {c:UInt8} (t:List UInt8)(h:p c.toNat=true):0<run p (c :: t):=by simp [run,h]
def keys:List (List UInt8):=[[102,117,110,99],[118,97,114],[112,116,114],[105,102],[101,108,115,101],[119,104,105,108,101],[111,117,116],[102,114,101,101],[100,114,97,105,110],[114,101,116,117,114,110],[110,101,119],[105,110]]
def mX:List (List UInt8):=[[124,124],[38,38],[61,61],[33,61],[60,61],[62,61],[60,60],[62,62]]
def tooBig (l:List UInt8):Bool:=match Lib.parseUintB 32 l with | .ok _=>false | _=>true
inductive Stp where
 | skip (n nl:Nat)
 | tok (k n:Nat)
 | err (e:Nat)
 deriving DecidableEq,Repr
def step (s:List UInt8):Stp:=
 if [47,47].isPrefixOf s then .skip (run (· != 10) s) 0
 else match s with
 | []=>.err 0
 | c :: _=>
   if fZ c.toNat then .skip 1 (if c.toNat=10 then 1 else 0)
   else if dB c.toNat then
     if 32<run isWord s then .err 9 else if keys.contains (s.take (run isWord s)) then .tok 4 (run isWord s) else .tok 1 (run isWord s)
   else if isDigit c.toNat then
     if(c.toNat=48∧1<run isDigit s)∨0<run dB (s.drop (run isDigit s)) then .err 9
     else if tooBig (s.take (run isDigit s)) then .err 3 else .tok 2 (run isDigit s)
   else if qJ c.toNat then(if mX.contains (s.take 2) then .tok 3 2 else .tok 3 1)
   else .err 9
structure Tok where
 k:Nat
 s:List UInt8
 l:Nat
 deriving DecidableEq,Repr
inductive Res where
 | toks (l:List Tok)
 | bad (e l:Nat)
 deriving DecidableEq,Repr
inductive Zy where
 | done (l:List Tok) (n:Nat)
 | bad (e l:Nat)
 deriving DecidableEq,Repr
def mG:Nat→List UInt8→Nat→List Tok→Zy
 | _,[],l,acc=>.done acc l
 | 0,_ :: _,l,acc=>.done acc l
 | n+1,c :: t,l,acc=>match step (c :: t) with
   | .skip k nl=>mG n ((c :: t).drop k) (l+nl) acc
   | .tok k m=>mG n ((c :: t).drop m) l (acc ++ [⟨k,(c :: t).take m,l⟩])
   | .err e=>.bad e l
def Zy.fin:Zy→Res
 | .done l n=>.toks (l ++ [⟨5,[],n⟩])
 | .bad e l=>.bad e l
def EN (t:List UInt8):Res:=if 32768<t.length then .bad 3 0 else(mG t.length t 0 []).fin
def Stp.fits (s:List UInt8):Stp→Prop
 | .skip n nl=>0<n∧n≤s.length∧nl≤1
 | .tok k n=>0<n∧n≤s.length∧1≤k∧k≤4
 | .err e=>e=9∨e=3
theorem Gu (c:UInt8)(t:List UInt8):(step (c :: t)).fits (c :: t):=by
 unfold step
 split
 ·rename_i h
  simp only [List.isPrefixOf,Bool.and_eq_true,beq_iff_eq] at h
  obtain⟨rfl,_⟩:=h
  exact⟨uq _ (by decide),qF _ _,Nat.zero_le _⟩
 ·simp only
  split
  ·exact⟨Nat.one_pos,by simp,by split <;> omega⟩
  ·split
   ·rename_i hl
    have hp:0<run isWord (c :: t):=uq _ (by simp [isWord,hl])
    split
    ·exact .inl rfl
    ·split
     ·exact⟨hp,qF _ _,by omega,by omega⟩
     ·exact⟨hp,qF _ _,by omega,by omega⟩
   ·split
    ·rename_i hd
     have hp:0<run isDigit (c :: t):=uq _ hd
     split
     ·exact .inl rfl
     ·split
      ·exact .inr rfl
      ·exact⟨hp,qF _ _,by omega,by omega⟩
    ·split
     ·split
      ·rename_i h2
       refine⟨by omega,?_,by omega,by omega⟩
       cases t with
       | nil=>
         exfalso
         simp only [List.take,mX,List.contains_eq_mem,List.mem_cons,List.not_mem_nil,decide_eq_true_eq,List.cons.injEq] at h2
         simp at h2
       | cons d t=>simp
      ·exact⟨by omega,by simp,by omega,by omega⟩
     ·exact .inl rfl
end Go.bK.YtobmjhfgmhfocaaGreatDoor
namespace Go.bK.YtobmjhfgmhfocaaGreatDoor
open Go.Proofs
theorem uo {X:Ctx} {f:Nat} {p:List AV→St→Option (AV×St)} (hp:X.gG f=some p) {args:List FV} {σ:St} {K:KS} (h:Xj (p (args.map FV.av) σ) K):∃n,Xj (bFn X n f (args.map FV.av) σ) K:=by
 refine⟨1,?_⟩
 simp only [bFn,hp]
 exact h
noncomputable def sF:FE:=fun _ args s K=>match args with
 | [.s n v,.n t c]=>bC (Nat.beq t (nat_lit 512)) (oC (some (.i .i64 (Lib.indexByte (fE n v) (Nat.mod c (nat_lit 256)).toUInt8))) fun r=>K r s) false
 | _=>false
theorem DY:sF.Ok X0 42:=by
 intro run hr args s σ K h hk
 refine uo (p:=lq) (by kernel_rfl) ?_
 unfold sF at hk
 split at hk
 ·rename_i n v t c
  obtain⟨h1,h2⟩:=aH hk
  have h1:t=512:=Nat.eq_of_beq_eq_true h1
  subst h1
  obtain⟨r,h3,h4⟩:=rZ h2
  refine⟨r,σ,s,?_,h,h4⟩
  have e1:FV.av (.n 512 c)= .i .u8 (c%256:Nat):=by
   have hx:c%256<256:=Nat.mod_lt _ (by omega)
   rw [FV.xP,show (512:Nat)=tg .u8 from rfl,iD,←jT .u8 c,show c%2^IntKind.u8.bits=c%256 from rfl,wrap_small .u8 (by simp only [IntKind.signed,IntKind.bits,if_false,Bool.false_eq_true];omega)]
  simp only [List.map_cons,List.map_nil,e1,FV.xR,lq,Int.toNat_natCast]
  rw [←show AV.i .i64 (Lib.indexByte (fE n v) (c%256).toUInt8)=r.av from Option.some.inj h3]
 ·cases hk
noncomputable def cellG (s:GS)(g:Nat)(K:KF):Bool:=zu (s.t.get g) (nat_lit 0) fun _ _ n m d t=>bC (Nat.ble (nat_lit 1) n) (Ak m d t (nat_lit 0) K) false
theorem V5 {s:GS} {σ:St} (h:s.Is σ) {g:Nat} {K:KF} (hk:cellG s g K=true):∃ro e v rest,σ[g]? =some ⟨0,ro,.cells e (FV.av v :: rest)⟩∧K v=true:=by
 obtain⟨ro,e,n,m,d,t,cs,h1,h2,h3⟩:=jE h hk
 obtain⟨h4,h5⟩:=aH h3
 rw [rV] at h5
 have h4:1≤n:=Nat.le_of_ble_eq_true h4
 have h6:=h2.at_ 0 (by omega)
 cases cs with
 | nil=>simp at h6
 | cons c rest=>
   have h6:c=_:=Option.some.inj h6
   exact⟨ro,e,_,rest,by rw [←h6];exact h1,h5⟩
noncomputable def isIc:FV→Bool:=FV.rec (motive_1:=fun _=>Bool) (motive_2:=fun _=>PUnit) (fun _ _=>false) (fun _ _ _=>false) (fun _ _ _ _ _=>false) (fun _ _=>false) (fun t _ _ _=>Nat.beq t (nat_lit 2)) ⟨⟩ (fun _ _ _ _=>⟨⟩)
theorem Zw {v:FV} (h:isIc v=true):∃t x,v.av= .ic t x:=by
 cases v with
 | c t a l=>have h:t=2:=Nat.eq_of_beq_eq_true h;subst h;exact⟨_,_,rfl⟩
 | _=>cases h
noncomputable def sG:FE:=fun _ args s K=>match args with
 | [.s n v,.n 36893488147419103233 10,.n 36893488147419103233 32]=>bC (Nat.ble n (nat_lit 281474976710656)) (match Lib.parseUintB 32 (fE n v) with
   | .ok u=>oC (some (.tu [.i .u64 u,.eG])) fun r=>K r s
   | .range=>cellG s 5 fun e=>bC (isIc e) (K (.c 1 0 [.n 36893488147419103232 4294967295,.c 2 176 [.n 0 0]]) s) false
   | _=>false) false
 | _=>false
theorem DZ:sG.Ok X0 47:=by
 intro run hr args s σ K h hk
 refine uo (p:=iq) (by kernel_rfl) ?_
 unfold sG at hk
 split at hk
 ·rename_i n v
  obtain⟨h1,h2⟩:=aH hk
  have h1:n≤281474976710656:=Nat.le_of_ble_eq_true h1
  have e10:FV.av (.n 36893488147419103233 10)= .i .i64 10:=jk (n:=10) (by omega)
  have e32:FV.av (.n 36893488147419103233 32)= .i .i64 32:=jk (n:=32) (by omega)
  simp only [List.map_cons,List.map_nil,e10,e32,FV.xR,iq]
  rw [eH,if_pos h1]
  split at h2
  ·rename_i u hu
   simp only [hu]
   obtain⟨r,h3,h4⟩:=rZ h2
   exact⟨r,σ,s,by rw [Option.some.inj h3],h,h4⟩
  ·rename_i hu
   simp only [hu]
   obtain⟨ro,e,c,rest,q1,q2⟩:=V5 h h2
   obtain⟨q3,q4⟩:=aH q2
   obtain⟨t,x,q5⟩:=Zw q3
   rw [q5] at q1
   refine⟨_,σ,s,?_,h,q4⟩
   rw [q1,DJ]
   simp only [List.map_cons,List.map_nil,J3]
   rw [FV.xP,show (36893488147419103232:Nat)=tg .u64 from rfl,iD,wrap_small .u64 (by simp only [IntKind.signed,IntKind.bits,if_false,Bool.false_eq_true];omega)];rfl
  ·cases h2
 ·cases hk
theorem QY:∀k,k<100→Lib.decDigits k=if k<10 then [UInt8.ofNat (48+k)] else [UInt8.ofNat (48+k / 10),UInt8.ofNat (48+k%10)]:=by
 intro k hk
 rw [Lib.decDigits]
 split
 ·rfl
 ·rw [Lib.decDigits,dif_pos (by omega)];rfl
noncomputable def qE:FE:=fun _ args s K=>match args with
 | [.n 36893488147419103232 n,.n 36893488147419103233 10]=>bC (Nat.blt n (nat_lit 100)) (oC (some (.s (if n<10 then [UInt8.ofNat (48+n)] else [UInt8.ofNat (48+n / 10),UInt8.ofNat (48+n%10)]))) fun r=>K r s) false
 | _=>false
theorem AZ:qE.Ok X0 174:=by
 intro run hr args s σ K h hk
 refine uo (p:=lS) (by kernel_rfl) ?_
 unfold qE at hk
 split at hk
 ·rename_i n
  obtain⟨h1,h2⟩:=aH hk
  have h1:n<100:=Nat.le_of_ble_eq_true h1
  obtain⟨r,h3,h4⟩:=rZ h2
  refine⟨r,σ,s,?_,h,h4⟩
  have e10:FV.av (.n 36893488147419103233 10)= .i .i64 10:=jk (n:=10) (by omega)
  have en:FV.av (.n 36893488147419103232 n)= .i .u64 n:=by
   rw [FV.xP,show (36893488147419103232:Nat)=tg .u64 from rfl,iD,wrap_small .u64 (by simp only [IntKind.signed,IntKind.bits,if_false,Bool.false_eq_true];omega)]
  simp only [List.map_cons,List.map_nil,e10,en,lS]
  rw [if_pos ⟨by omega,by omega,.inl (by omega)⟩,Int.toNat_natCast,QY n h1]
  rw [←show AV.s _=r.av from Option.some.inj h3]
 ·cases hk
noncomputable def D5:FE:=fun _ args s K=>match args with
 | [.s n v,.n 36893488147419103233 k]=>bC (Nat.blt k (nat_lit 1000)) (bC (Nat.blt n (nat_lit 1000)) (oC (some (.s (Lib.repeatL (fE n v) k))) fun r=>K r s) false) false
 | _=>false
theorem KG:D5.Ok X0 138:=by
 intro run hr args s σ K h hk
 refine uo (p:=xC) (by kernel_rfl) ?_
 unfold D5 at hk
 split at hk
 ·rename_i n v k
  obtain⟨h1,h2⟩:=aH hk
  obtain⟨h0,h2⟩:=aH h2
  have h1:k<1000:=Nat.le_of_ble_eq_true h1
  have h0:n<1000:=Nat.le_of_ble_eq_true h0
  obtain⟨r,h3,h4⟩:=rZ h2
  refine⟨r,σ,s,?_,h,h4⟩
  have ek:FV.av (.n 36893488147419103233 k)= .i .i64 k:=jk (n:=k) (by omega)
  simp only [List.map_cons,List.map_nil,ek,FV.xR,xC]
  rw [if_pos ⟨by omega,by omega,by
   rw [eH,Int.toNat_natCast]
   exact Nat.le_trans (Nat.mul_le_mul (Nat.le_of_lt h0) (Nat.le_of_lt h1)) (by decide)⟩,Int.toNat_natCast]
  rw [←show AV.s _=r.av from Option.some.inj h3]
 ·cases hk
theorem len4 {cs:List AV} {m:Nat} {d:List FV} {t:Tr FV} (h:dQ 4 m d t cs):∃a b c e,cs=[a,b,c,e]:=by
 have hl:=h.len
 match cs,hl with
 | [a,b,c,e],_=>exact⟨a,b,c,e,rfl⟩
noncomputable def sH:FE:=fun _ args s K=>match args with
 | [.p o 0 0]=>zu (s.t.get o) (nat_lit 0) fun ro e n m d t=>bC ro false (bC (Nat.beq e 92) (bC (Nat.beq n (nat_lit 4)) (Ak m d t (nat_lit 0) fun v=>match v with
   | .n 2 _=>t.set (nat_lit 0) (.p o 0 0) fun t'=>s.put o (.cells 0 false e n m d t') fun s'=>K (.c 1 0 []) s'
   | .p o2 0 0=>bC (Nat.beq o2 o) (K (.c 1 0 []) s) false
   | _=>false) false) false)
 | _=>false
theorem D6:sH.Ok X0 137:=by
 intro run hr args s σ K h hk
 refine uo (p:=pCC) (by kernel_rfl) ?_
 unfold sH at hk
 split at hk
 ·rename_i o
  obtain⟨ro,e,n,m,d,t,cs,h1,h2,h3⟩:=jE h hk
  cases ro with
  | true=>cases h3
  | false=>
    obtain⟨h4,h5⟩:=aH (show bC _ _ false=true from h3)
    obtain⟨h6,h7⟩:=aH h5
    have h4:=Nat.eq_of_beq_eq_true h4
    have h6:=Nat.eq_of_beq_eq_true h6
    subst h4;subst h6
    rw [rV] at h7
    have hat:=h2.at_ 0 (Nat.le_of_ble_eq_true rfl)
    obtain⟨c0,c1,c2,c3,rfl⟩:=len4 h2
    have hat:c0=_:=Option.some.inj hat
    simp only [List.map_cons,List.map_nil,FV.DC,pCC,h1]
    split at h7
    ·rename_i x hv
     rw [hv] at hat
     have hat:c0= .p0:=hat
     subst hat
     obtain⟨t',q1,q2⟩:=Ij h2 (i:=0) (v:=.p o 0 0) (Nat.le_of_ble_eq_true rfl) rfl h7
     obtain⟨s',r1,r2⟩:=GS.mD h (uS h1) (f:=.cells 0 false 92 4 m d t') (a:=⟨0,false,.cells 92 [.p o 0 0,c1,c2,c3]⟩) ⟨_,rfl,q2⟩ q1
     exact⟨.c 1 0 [],_,s',rfl,r2,r1⟩
    ·rename_i o2 hv
     rw [hv] at hat
     have hat:c0= .p o2 0 0:=hat
     subst hat
     obtain⟨q1,q2⟩:=aH h7
     exact⟨.c 1 0 [],σ,s,by simp only [if_pos (Nat.eq_of_beq_eq_true q1)];rfl,h,q2⟩
    ·cases h7
 ·cases hk
theorem D7:∀(l:List FV) {K:Nat→Bool} (_:pkK l K=true),∃v,bytesOf (l.map FV.av)=some (fE l.length v)∧l.map FV.av=xM (fE l.length v)∧K v=true
 | [],K,hk=>⟨0,rfl,rfl,hk⟩
 | a :: l,K,hk=>by
   cases a with
   | n t x=>
     have hk':bC (Nat.beq t 512) (pkK l fun v=>fN (Nat.add (Nat.mod x 256) (Nat.mul 256 v)) K) false=true:=hk
     obtain⟨h1,h2⟩:=aH hk'
     have h1:=Nat.eq_of_beq_eq_true h1
     subst h1
     obtain⟨v,h3,h3b,h4⟩:=D7 l h2
     rw [kE] at h4
     have hx:x%256<256:=Nat.mod_lt _ (by omega)
     have e1:FV.av (.n 512 x)= .i .u8 (x%256:Nat):=by
       rw [FV.xP,show (512:Nat)=tg .u8 from rfl,iD,←jT .u8 x,show x%2^IntKind.u8.bits=x%256 from rfl,wrap_small .u8 (by simp only [IntKind.signed,IntKind.bits,if_false,Bool.false_eq_true];omega)]
     have e2:Nat.add (Nat.mod x 256) (Nat.mul 256 v)=x%256+256*v:=rfl
     refine⟨_,?_,?_,h4⟩
     ·rw [List.map_cons,e1]
      simp only [bytesOf,h3,Option.map_some,List.length_cons,dN]
      rw [e2,show (x%256+256*v)%256=x%256 by omega,show (x%256+256*v) / 256=v by omega,Int.toNat_natCast]
     ·rw [List.map_cons,e1,List.length_cons,dN,e2,show (x%256+256*v)%256=x%256 by omega,show (x%256+256*v) / 256=v by omega,h3b]
      show _=AV.i .u8 ((UInt8.ofNat (x%256)).toNat:Nat) :: xM _
      rw [show (UInt8.ofNat (x%256)).toNat=x%256 from by rw [UInt8.toNat_ofNat'];exact Nat.mod_eq_of_lt hx]
   | _=>cases hk
theorem D8:∀l:List UInt8,AV.eqvs (xM l) (xM l)=true
 | []=>rfl
 | x :: l=>by
   show (AV.eqv (.i .u8 x.toNat) (.i .u8 x.toNat) && AV.eqvs (xM l) (xM l))=true
   rw [D8 l,Bool.and_true]
   simp [AV.eqv]
noncomputable def D9:FE:=fun _ args s K=>match args with
 | [.p o 0 0]=>zu (s.t.get o) (nat_lit 0) fun ro e n m d t=>bC ro false (bC (Nat.beq e 92) (bC (Nat.beq n (nat_lit 4)) (Ak m d t (nat_lit 1) fun v=>match v with
   | .n 3 _=>K (.s 0 0) s
   | .sl o2 g2 0 n' 1=>Option.rec (motive:=fun _=>Bool) false (fun f=>GO.rec (motive:=fun _=>Bool)
       (fun g3 ro2 e2 n2 m2 d2 t2=>bC (Nat.beq g3 g2) (bC ro2 false (bC (Nat.beq e2 5) (bC (Nat.ble n' n2) (bC (Nat.ble (nat_lit 1) n') (bC (Nat.ble n' (nat_lit 4294967296)) (Nz m2 d2 t2 n' (nat_lit 0) fun l=>pkK l fun w=>s.put o2 (.oI g2 5 l.length w) fun s'=>K (.s l.length w) s') false) false) false) false)) false)
       (fun _ _ _ _=>false) (fun _ _=>false) false
       (fun g3 e2 n2 v2=>bC (Nat.beq g3 g2) (bC (Nat.beq e2 5) (bC (Nat.beq n2 n') (bC (Nat.ble (nat_lit 1) n') (bC (Nat.ble n' (nat_lit 4294967296)) (K (.s n2 v2) s) false) false) false) false) false) f) (s.t.get o2)
   | _=>false) false) false)
 | _=>false
theorem KH:D9.Ok X0 31:=by
 intro run hr args s σ K h hk
 refine uo (p:=UH) (by kernel_rfl) ?_
 unfold D9 at hk
 split at hk
 ·rename_i o
  obtain⟨ro,e,n,m,d,t,cs,h1,h2,h3⟩:=jE h hk
  cases ro with
  | true=>cases h3
  | false=>
    obtain⟨h4,h5⟩:=aH (show bC _ _ false=true from h3)
    obtain⟨h6,h7⟩:=aH h5
    have h4:=Nat.eq_of_beq_eq_true h4
    have h6:=Nat.eq_of_beq_eq_true h6
    subst h4;subst h6
    rw [rV] at h7
    have hat:=h2.at_ 1 (Nat.le_of_ble_eq_true rfl)
    obtain⟨c0,c1,c2,c3,rfl⟩:=len4 h2
    have hat:c1=_:=Option.some.inj hat
    simp only [List.map_cons,List.map_nil,FV.DC,UH,h1]
    split at h7
    ·rename_i x hv
     rw [hv] at hat
     have hat:c1= .sl0:=hat
     subst hat
     exact⟨.s 0 0,σ,s,rfl,h,h7⟩
    ·rename_i o2 g2 n' hv
     rw [hv] at hat
     have hat:c1= .sl o2 g2 0 n' 1:=hat
     subst hat
     cases hg:s.t.get o2 with
     | none=>rw [hg] at h7;cases h7
     | some f=>
       rw [hg] at h7
       cases f with
       | cells g3 ro2 e2 n2 m2 d2 t2=>
         obtain⟨k0,k3⟩:=aH h7
         have k0:=Nat.eq_of_beq_eq_true k0
         subst k0
         obtain⟨cs2,k1,k2⟩:=GS.cells_at h hg
         cases ro2 with
         | true=>cases k3
         | false=>
           obtain⟨k4,k5⟩:=aH (show bC _ _ false=true from k3)
           obtain⟨k6,k7⟩:=aH k5
           obtain⟨k8,k9⟩:=aH k7
           obtain⟨k10,k11⟩:=aH k9
           have k4:=Nat.eq_of_beq_eq_true k4
           subst k4
           have k6:n'≤n2:=Nat.le_of_ble_eq_true k6
           have k8:1≤n':=Nat.le_of_ble_eq_true k8
           have k10:n'≤4294967296:=Nat.le_of_ble_eq_true k10
           obtain⟨l,p1,p2,p3⟩:=uh k2 n' 0 (by omega) k11
           obtain⟨w,b1,b2,b3⟩:=D7 l p1
           obtain⟨s',r1,r2⟩:=GS.mD h (uS k1) (f:=.oI g3 5 l.length w) (a:=⟨g3,false,.oI 5 (fE l.length w)⟩) rfl b3
           have p2:l.map FV.av=cs2.take n':=p2
           refine⟨.s l.length w,_,s',?_,r2,r1⟩
           simp only [k1]
           rw [if_pos ⟨trivial,by rw [k2.len];exact k6,by omega,k10⟩,←p2,b1]
           simp only
           rw [b2,D8,if_pos rfl];rfl
       | oI g3 e2 n2 v2=>
         obtain⟨k0,k3⟩:=aH h7
         obtain⟨k4,k5⟩:=aH k3
         obtain⟨k6,k7⟩:=aH k5
         obtain⟨k8,k9⟩:=aH k7
         obtain⟨k10,k11⟩:=aH k9
         have k0:=Nat.eq_of_beq_eq_true k0
         have k4:=Nat.eq_of_beq_eq_true k4
         have k6:=Nat.eq_of_beq_eq_true k6
         have k8:1≤n':=Nat.le_of_ble_eq_true k8
         have k10:n'≤4294967296:=Nat.le_of_ble_eq_true k10
         subst k0;subst k4;subst k6
         obtain⟨a,q1,rfl⟩:=h.2 _ _ hg
         refine⟨.s n2 v2,σ,s,?_,h,k11⟩
         simp only [q1]
         rw [if_pos ⟨trivial,eH _ _,by omega,k10⟩];rfl
       | _=>cases h7
    ·cases h7
 ·cases hk
end Go.bK.YtobmjhfgmhfocaaGreatDoor
namespace Go.bK.YtobmjhfgmhfocaaGreatDoor
open Go.Proofs
set_option maxRecDepth 100000
noncomputable def TW:TF:=(.node 85 (.node 45 (.node 33 (.node 21 (.node 15 (.node 14 (.leaf 12 (bG X0 fK.get F12 1000000000)) (.leaf 14 (bG X0 fK.get F14 1000000000))) (.node 17 (.leaf 15 (bG X0 fK.get F15 1000000000)) (.node 18 (.leaf 17 (bG X0 fK.get F17 1000000000)) (.leaf 18 (bG X0 fK.get F18 1000000000))))) (.node 30 (.node 22 (.leaf 21 (bG X0 fK.get F21 1000000000)) (.node 29 (.leaf 22 (bG X0 fK.get F22 1000000000)) (.leaf 29 (bG X0 fK.get F29 1000000000)))) (.node 31 (.leaf 30 (bG X0 fK.get F30 1000000000)) (.node 32 (.leaf 31 D9) (.leaf 32 (bG X0 fK.get F32 1000000000)))))) (.node 39 (.node 35 (.node 34 (.leaf 33 (bG X0 fK.get F33 1000000000)) (.leaf 34 (bG X0 fK.get F34 1000000000))) (.node 37 (.leaf 35 (bG X0 fK.get F35 1000000000)) (.node 38 (.leaf 37 (bG X0 fK.get F37 1000000000)) (.leaf 38 (bG X0 fK.get F38 1000000000))))) (.node 42 (.node 40 (.leaf 39 (bG X0 fK.get F39 1000000000)) (.node 41 (.leaf 40 (bG X0 fK.get F40 1000000000)) (.leaf 41 (bG X0 fK.get F41 1000000000)))) (.node 43 (.leaf 42 sF) (.node 44 (.leaf 43 (bG X0 fK.get F43 1000000000)) (.leaf 44 (bG X0 fK.get F44 1000000000))))))) (.node 69 (.node 50 (.node 47 (.node 46 (.leaf 45 (bG X0 fK.get F45 1000000000)) (.leaf 46 (bG X0 fK.get F46 1000000000))) (.node 48 (.leaf 47 sG) (.node 49 (.leaf 48 (bG X0 fK.get F48 1000000000)) (.leaf 49 (bG X0 fK.get F49 1000000000))))) (.node 66 (.node 64 (.leaf 50 (bG X0 fK.get F50 1000000000)) (.node 65 (.leaf 64 (bG X0 fK.get F64 1000000000)) (.leaf 65 (bG X0 fK.get F65 1000000000)))) (.node 67 (.leaf 66 (bG X0 fK.get F66 1000000000)) (.node 68 (.leaf 67 (bG X0 fK.get F67 1000000000)) (.leaf 68 (bG X0 fK.get F68 1000000000)))))) (.node 76 (.node 73 (.node 70 (.leaf 69 (bG X0 fK.get F69 1000000000)) (.node 72 (.leaf 70 (bG X0 fK.get F70 1000000000)) (.leaf 72 (bG X0 fK.get F72 1000000000)))) (.node 74 (.leaf 73 (bG X0 fK.get F73 1000000000)) (.node 75 (.leaf 74 (bG X0 fK.get F74 1000000000)) (.leaf 75 (bG X0 fK.get F75 1000000000))))) (.node 80 (.node 77 (.leaf 76 (bG X0 fK.get F76 1000000000)) (.node 78 (.leaf 77 (bG X0 fK.get F77 1000000000)) (.leaf 78 (bG X0 fK.get F78 1000000000)))) (.node 81 (.leaf 80 (bG X0 fK.get F80 1000000000)) (.node 82 (.leaf 81 (bG X0 fK.get F81 1000000000)) (.leaf 82 (bG X0 fK.get F82 1000000000)))))))) (.node 141 (.node 113 (.node 106 (.node 103 (.node 86 (.leaf 85 (bG X0 fK.get F85 1000000000)) (.leaf 86 (bG X0 fK.get F86 1000000000))) (.node 104 (.leaf 103 (bG X0 fK.get F103 1000000000)) (.node 105 (.leaf 104 (bG X0 fK.get F104 1000000000)) (.leaf 105 (bG X0 fK.get F105 1000000000))))) (.node 110 (.node 107 (.leaf 106 (bG X0 fK.get F106 1000000000)) (.node 108 (.leaf 107 (bG X0 fK.get F107 1000000000)) (.leaf 108 (bG X0 fK.get F108 1000000000)))) (.node 111 (.leaf 110 (bG X0 fK.get Tt 1000000000)) (.node 112 (.leaf 111 (bG X0 fK.get Ye 1000000000)) (.leaf 112 (bG X0 fK.get Tv 1000000000)))))) (.node 120 (.node 116 (.node 114 (.leaf 113 (bG X0 fK.get JD 1000000000)) (.node 115 (.leaf 114 (bG X0 fK.get Tz 1000000000)) (.leaf 115 (bG X0 fK.get Qm 1000000000)))) (.node 118 (.leaf 116 (bG X0 fK.get Yf 1000000000)) (.node 119 (.leaf 118 (bG X0 fK.get Yg 1000000000)) (.leaf 119 (bG X0 fK.get F119 1000000000))))) (.node 138 (.node 127 (.leaf 120 (bG X0 fK.get F120 1000000000)) (.node 137 (.leaf 127 (bG X0 fK.get F127 1000000000)) (.leaf 137 sH))) (.node 139 (.leaf 138 D5) (.node 140 (.leaf 139 (bG X0 fK.get F139 1000000000)) (.leaf 140 (bG X0 fK.get F140 1000000000))))))) (.node 162 (.node 146 (.node 143 (.node 142 (.leaf 141 (bG X0 fK.get F141 1000000000)) (.leaf 142 (bG X0 fK.get F142 1000000000))) (.node 144 (.leaf 143 (bG X0 fK.get F143 1000000000)) (.node 145 (.leaf 144 (bG X0 fK.get F144 1000000000)) (.leaf 145 (bG X0 fK.get Yh 1000000000))))) (.node 149 (.node 147 (.leaf 146 (bG X0 fK.get TD 1000000000)) (.node 148 (.leaf 147 (bG X0 fK.get Yi 1000000000)) (.leaf 148 (bG X0 fK.get TG 1000000000)))) (.node 160 (.leaf 149 (bG X0 fK.get F149 1000000000)) (.node 161 (.leaf 160 (bG X0 fK.get F160 1000000000)) (.leaf 161 (bG X0 fK.get F161 1000000000)))))) (.node 168 (.node 165 (.node 163 (.leaf 162 (bG X0 fK.get TJ 1000000000)) (.node 164 (.leaf 163 (bG X0 fK.get Yj 1000000000)) (.leaf 164 (bG X0 fK.get TL 1000000000)))) (.node 166 (.leaf 165 (bG X0 fK.get Yk 1000000000)) (.node 167 (.leaf 166 (bG X0 fK.get TM 1000000000)) (.leaf 167 (bG X0 fK.get F167 1000000000))))) (.node 176 (.node 174 (.leaf 168 (bG X0 fK.get F168 1000000000)) (.node 175 (.leaf 174 qE) (.leaf 175 (bG X0 fK.get TN 1000000000)))) (.node 177 (.leaf 176 (bG X0 fK.get TP 1000000000)) (.node 178 (.leaf 177 (bG X0 fK.get TQ 1000000000)) (.leaf 178 (bG X0 fK.get TR 1000000000)))))))))
theorem TW_ok:TW.Ok X0:=⟨⟨⟨⟨⟨⟨(aN aC (by kernel_rfl) (by kernel_rfl) _),(aN aC (by kernel_rfl) (by kernel_rfl) _)⟩,⟨(aN aC (by kernel_rfl) (by kernel_rfl) _),⟨(aN aC (by kernel_rfl) (by kernel_rfl) _),(aN aC (by kernel_rfl) (by kernel_rfl) _)⟩⟩⟩,⟨⟨(aN aC (by kernel_rfl) (by kernel_rfl) _),⟨(aN aC (by kernel_rfl) (by kernel_rfl) _),(aN aC (by kernel_rfl) (by kernel_rfl) _)⟩⟩,⟨(aN aC (by kernel_rfl) (by kernel_rfl) _),⟨KH,(aN aC (by kernel_rfl) (by kernel_rfl) _)⟩⟩⟩⟩,⟨⟨⟨(aN aC (by kernel_rfl) (by kernel_rfl) _),(aN aC (by kernel_rfl) (by kernel_rfl) _)⟩,⟨(aN aC (by kernel_rfl) (by kernel_rfl) _),⟨(aN aC (by kernel_rfl) (by kernel_rfl) _),(aN aC (by kernel_rfl) (by kernel_rfl) _)⟩⟩⟩,⟨⟨(aN aC (by kernel_rfl) (by kernel_rfl) _),⟨(aN aC (by kernel_rfl) (by kernel_rfl) _),(aN aC (by kernel_rfl) (by kernel_rfl) _)⟩⟩,⟨DY,⟨(aN aC (by kernel_rfl) (by kernel_rfl) _),(aN aC (by kernel_rfl) (by kernel_rfl) _)⟩⟩⟩⟩⟩,⟨⟨⟨⟨(aN aC (by kernel_rfl) (by kernel_rfl) _),(aN aC (by kernel_rfl) (by kernel_rfl) _)⟩,⟨DZ,⟨(aN aC (by kernel_rfl) (by kernel_rfl) _),(aN aC (by kernel_rfl) (by kernel_rfl) _)⟩⟩⟩,⟨⟨(aN aC (by kernel_rfl) (by kernel_rfl) _),⟨(aN aC (by kernel_rfl) (by kernel_rfl) _),(aN aC (by kernel_rfl) (by kernel_rfl) _)⟩⟩,⟨(aN aC (by kernel_rfl) (by kernel_rfl) _),⟨(aN aC (by kernel_rfl) (by kernel_rfl) _),(aN aC (by kernel_rfl) (by kernel_rfl) _)⟩⟩⟩⟩,⟨⟨⟨(aN aC (by kernel_rfl) (by kernel_rfl) _),⟨(aN aC (by kernel_rfl) (by kernel_rfl) _),(aN aC (by kernel_rfl) (by kernel_rfl) _)⟩⟩,⟨(aN aC (by kernel_rfl) (by kernel_rfl) _),⟨(aN aC (by kernel_rfl) (by kernel_rfl) _),(aN aC (by kernel_rfl) (by kernel_rfl) _)⟩⟩⟩,⟨⟨(aN aC (by kernel_rfl) (by kernel_rfl) _),⟨(aN aC (by kernel_rfl) (by kernel_rfl) _),(aN aC (by kernel_rfl) (by kernel_rfl) _)⟩⟩,⟨(aN aC (by kernel_rfl) (by kernel_rfl) _),⟨(aN aC (by kernel_rfl) (by kernel_rfl) _),(aN aC (by kernel_rfl) (by kernel_rfl) _)⟩⟩⟩⟩⟩⟩,⟨⟨⟨⟨⟨(aN aC (by kernel_rfl) (by kernel_rfl) _),(aN aC (by kernel_rfl) (by kernel_rfl) _)⟩,⟨(aN aC (by kernel_rfl) (by kernel_rfl) _),⟨(aN aC (by kernel_rfl) (by kernel_rfl) _),(aN aC (by kernel_rfl) (by kernel_rfl) _)⟩⟩⟩,⟨⟨(aN aC (by kernel_rfl) (by kernel_rfl) _),⟨(aN aC (by kernel_rfl) (by kernel_rfl) _),(aN aC (by kernel_rfl) (by kernel_rfl) _)⟩⟩,⟨(aN aC (by kernel_rfl) (by kernel_rfl) _),⟨(aN aC (by kernel_rfl) (by kernel_rfl) _),(aN aC (by kernel_rfl) (by kernel_rfl) _)⟩⟩⟩⟩,⟨⟨⟨(aN aC (by kernel_rfl) (by kernel_rfl) _),⟨(aN aC (by kernel_rfl) (by kernel_rfl) _),(aN aC (by kernel_rfl) (by kernel_rfl) _)⟩⟩,⟨(aN aC (by kernel_rfl) (by kernel_rfl) _),⟨(aN aC (by kernel_rfl) (by kernel_rfl) _),(aN aC (by kernel_rfl) (by kernel_rfl) _)⟩⟩⟩,⟨⟨(aN aC (by kernel_rfl) (by kernel_rfl) _),⟨(aN aC (by kernel_rfl) (by kernel_rfl) _),D6⟩⟩,⟨KG,⟨(aN aC (by kernel_rfl) (by kernel_rfl) _),(aN aC (by kernel_rfl) (by kernel_rfl) _)⟩⟩⟩⟩⟩,⟨⟨⟨⟨(aN aC (by kernel_rfl) (by kernel_rfl) _),(aN aC (by kernel_rfl) (by kernel_rfl) _)⟩,⟨(aN aC (by kernel_rfl) (by kernel_rfl) _),⟨(aN aC (by kernel_rfl) (by kernel_rfl) _),(aN aC (by kernel_rfl) (by kernel_rfl) _)⟩⟩⟩,⟨⟨(aN aC (by kernel_rfl) (by kernel_rfl) _),⟨(aN aC (by kernel_rfl) (by kernel_rfl) _),(aN aC (by kernel_rfl) (by kernel_rfl) _)⟩⟩,⟨(aN aC (by kernel_rfl) (by kernel_rfl) _),⟨(aN aC (by kernel_rfl) (by kernel_rfl) _),(aN aC (by kernel_rfl) (by kernel_rfl) _)⟩⟩⟩⟩,⟨⟨⟨(aN aC (by kernel_rfl) (by kernel_rfl) _),⟨(aN aC (by kernel_rfl) (by kernel_rfl) _),(aN aC (by kernel_rfl) (by kernel_rfl) _)⟩⟩,⟨(aN aC (by kernel_rfl) (by kernel_rfl) _),⟨(aN aC (by kernel_rfl) (by kernel_rfl) _),(aN aC (by kernel_rfl) (by kernel_rfl) _)⟩⟩⟩,⟨⟨(aN aC (by kernel_rfl) (by kernel_rfl) _),⟨AZ,(aN aC (by kernel_rfl) (by kernel_rfl) _)⟩⟩,⟨(aN aC (by kernel_rfl) (by kernel_rfl) _),⟨(aN aC (by kernel_rfl) (by kernel_rfl) _),(aN aC (by kernel_rfl) (by kernel_rfl) _)⟩⟩⟩⟩⟩⟩⟩
set_option maxRecDepth 10000000 in
theorem QZ:gTop TW 1000 12 [] G0 isTrue=true:=by kernel_rfl
end Go.bK.YtobmjhfgmhfocaaGreatDoor
namespace Go.bK.YtobmjhfgmhfocaaGreatDoor
open Go.Proofs
def IE (n:Nat)(cs:List AV)(r:Option (AV×St)):Bool:=match r with
 | some (.sl o g off m z,s)=>Nat.beq off 0 && Nat.beq m n && Nat.beq z 1 && (match s[o]? with
   | some ⟨g',ro,.cells e cs'⟩=>Nat.beq g g' && !ro && Nat.beq e 9 && AV.eqvs cs' cs
   | _=>false)
 | _=>false
theorem Gt {X:Ctx} {k f:Nat} {args:List AV} {σ:St} {n:Nat} {cs:List AV} (h:IE n cs (aFn X k f args σ)=true):ay X f args σ fun a s=>∃o g,a= .sl o g 0 n 1∧s[o]? =some ⟨g,false,.cells 9 cs⟩:=by
 unfold IE at h
 split at h
 ·rename_i o g off m z s hr
  simp only [Bool.and_eq_true] at h
  obtain⟨⟨⟨h1,h2⟩,h3⟩,h4⟩:=h
  split at h4
  ·rename_i g' ro e cs' ho
   simp only [Bool.and_eq_true,Bool.not_eq_true'] at h4
   obtain⟨⟨⟨q1,q2⟩,q3⟩,q4⟩:=h4
   refine⟨⟨k,_,hr,o,g,?_,?_⟩⟩
   ·rw [Nat.eq_of_beq_eq_true h1,Nat.eq_of_beq_eq_true h2,Nat.eq_of_beq_eq_true h3]
   ·simp only;rw [ho,Nat.eq_of_beq_eq_true q1,q2,Nat.eq_of_beq_eq_true q3,AV.jX _ _ q4]
  ·cases h4
 ·cases h
def KI:H_ X0 11 G0 where
 f:=12
 v:=.b true
 flat:=rfl
 does:=fun μ w hs=>(QW JV TW_ok QZ hs (aV:=#[]) rfl).mono fun e w' ha=>by
    obtain⟨r,σ',hr,haf⟩:=ha
    exact⟨r.av,σ',QX hr,haf⟩
@[reducible] noncomputable def XW:Ctx:=X0.ran KI
theorem V6:XW.Sound 11:=Ctx.QF JV okG0 _
def sJ:List UInt8:=[102,117,110,99,32,118,97,114,32,112,116,114,32,105,102,32,101,108,115,101,32,119,104,105,108,101,32,111,117,116,32,102,114,101,101,32,100,114,97,105,110,32,114,101,116,117,114,110,32,110,101,119,32,105,110]
def sK:List UInt8:=[124,124,32,38,38,32,61,61,32,33,61,32,60,61,32,62,61,32,60,60,32,62,62]
theorem KJ:IE 12 (keys.map .s) (aFn XW 1000 82 [.s sJ] G0)=true:=by kernel_rfl
theorem KL:IE 8 (mX.map .s) (aFn XW 1000 82 [.s sK] G0)=true:=by kernel_rfl
theorem Pz (n z e:Nat)(cs:List AV):Gg.Good ⟨fun o g=>.sl o g 0 n z,e,cs⟩:=by
 intro Bg yK w o g N v h hv
 obtain⟨b,δ,off',c,e',m,h1,h2⟩:=hv
 exact⟨b,δ,off',c,e',m,by rw [h];exact h1,h2⟩
def xZ:List AV→Option MR
 | [.s t]=>if t=sJ then some (.new ⟨fun o g=>.sl o g 0 12 1,9,keys.map .s⟩) else if t=sK then some (.new ⟨fun o g=>.sl o g 0 8 1,9,mX.map .s⟩) else none
 | _=>none
def lI:JW XW G0 where
 f:=82
 g:=xZ
 okF:=by
    intro args v h
    unfold xZ at h
    split at h
    ·split at h
     ·cases h
     ·split at h <;> cases h
    ·cases h
 LQ:=by
    intro args R h
    unfold xZ at h
    split at h
    ·split at h
     ·rename_i ht;subst ht;cases h
      exact⟨rfl,rfl,Pz _ _ _ _,Gt KJ⟩
     ·split at h
      ·rename_i ht;subst ht;cases h
       exact⟨rfl,rfl,Pz _ _ _ _,Gt KL⟩
      ·cases h
    ·cases h
@[reducible] noncomputable def X:Ctx:=XW.makes G0 lI
theorem Zx:X.Sound 11:=Ctx.JX V6 okG0 _
theorem IG:lI.g [.s sJ]=some (.new ⟨fun o g=>.sl o g 0 12 1,9,keys.map .s⟩):=by
 unfold lI
 simp only [xZ,if_true]
theorem II:lI.g [.s sK]=some (.new ⟨fun o g=>.sl o g 0 8 1,9,mX.map .s⟩):=by
 have h:sK≠sJ:=by decide
 unfold lI
 simp only [xZ,if_neg h,if_true]
theorem D_ (σ:St)(Q:AV→St→Prop)(ht:σ.take G0.length=G0)(q:Q (.sl σ.length 1 0 12 1) (jq 9 (keys.map .s) σ)):ay X 82 [.s sJ] σ Q:=
 ay.madeN lI rfl (R:=⟨fun o g=>.sl o g 0 12 1,9,keys.map .s⟩) IG ht q
theorem Ea (σ:St)(Q:AV→St→Prop)(ht:σ.take G0.length=G0)(q:Q (.sl σ.length 1 0 8 1) (jq 9 (mX.map .s) σ)):ay X 82 [.s sK] σ Q:=
 ay.madeN lI rfl (R:=⟨fun o g=>.sl o g 0 8 1,9,mX.map .s⟩) II ht q
theorem V7 (σ:St)(ht:σ.take G0.length=G0) {Q:AV→St→Prop} (q:Q (.b true) σ):ay X 12 [] σ Q:=by
 constructor
 rw [jA (g:=KI.run) (by rfl)]
 refine⟨(.b true,σ),?_,q⟩
 unfold H_.run
 simp only
 rw [if_pos (by rw [ht];exact pY _)]
 rfl
end Go.bK.YtobmjhfgmhfocaaGreatDoor
