/- Texts of this claim, joined: Tr, Code. -/
import Derived.Test.YtlkfbfhkcaldlaaGreatDoorM01
import Derived.Test.YtlkfbfhkcaldlaaGreatDoorProg
set_option linter.unusedVariables false
set_option linter.unusedSimpArgs false
namespace Go.Abs
def trV:Nat->Value->AV
 | n+1,.agg cs=>.ag (cs.toList.map (trV n))
 | _,.bool x=>.b x
 | _,.int k n=>.i k n
 | _,.string s=>.s s.data.toList
 | _,.pointer _=>.p0
 | _,.slice _ _ _=>.sl0
 | _,.map _=>.mp0
 | _,.nilIface=>.ic0
 | _,.nilFunc=>.fn0
 | _,_=>.u
def trO:Operand->Opd
 | .tmp t=>.t t
 | .const v=>.c (trV 9 v)
 | .global g=>.c (.p g 0 0)
 | .func f=>.c (.fn (.func f) [] [])
def trOs (a:Array Operand):List Opd:=a.toList.map trO
def trPs (a:Array (Nat×Operand)):List (Nat×Opd):=a.toList.map fun q=>(q.1,trO q.2)
def trB (t s:Nat):Builtin->List Opd->AOp
 | .len,[x]=>.len t x
 | .delete,[x,y]=>.del t x y
 | .append,[x,y]=>.app t (!(t == s)) x y
 | .copy,[x,y]=>.copy t x y
 | .min,l=>.mn false l
 | .max,l=>.mn true l
 | _,_=>.alloc 0
def trK (t s:Nat)(l:List Opd):Callee->AOp
 | .value f=>.call (trO f) l
 | .invoke r m=>.inv (trO r) m l
 | .builtin b=>trB t s b l
def trP:Op->AOp
 | .move x | .assign x=>.mv (trO x)
 | .pick a b c=>.pick (trO a) (trO b) (trO c)
 | .alloc t=>.alloc t
 | .box t x=>.box t (trO x)
 | .build t p=>.build t (trPs p)
 | .buildSlice t n p=>.bsl t n (trPs p)
 | .load t x=>.load t (trO x)
 | .store t x y=>.store t (trO x) (trO y)
 | .nilCheck x=>.nilck (trO x)
 | .binOp o t x y _=>.bin o t (trO x) (trO y)
 | .unOp o _ x=>.un o (trO x)
 | .convert s d x=>.conv s d (trO x)
 | .makeInterface t x=>.mki t (trO x)
 | .makeFunc f a c=>.mkf f (trOs a) (trOs c)
 | .makeSlice t l c=>.mks t (trO l) (trO c)
 | .slice t x l (some h) (some m)=>.sl3 t (trO x) (l.map trO) (trO h) (trO m)
 | .slice t x l h _=>.slc t (trO x) (l.map trO) (h.map trO)
 | .fieldAddr t x f=>.fad t (trO x) f
 | .field t x f=>.fld t (trO x) f
 | .indexAddr t x i=>.iad t (trO x) (trO i)
 | .index t x i=>.idx t (trO x) (trO i)
 | .range t x=>.rng t (trO x)
 | .next x _=>.nxt (trO x)
 | .typeAssert x a b ok=>.tas (trO x) a b ok
 | .extract x i=>.ext (trO x) i
 | .call c=>trK (c.argTypes.toList.headD 0) (c.argTypes.toList.tail.headD 0) (trOs c.args) c.callee
 | .makeMap t r=>.mkm t (r.map trO)
 | .lookup t x k ok=>.lku t (trO x) (trO k) ok
 | .mapUpdate t m k v | .insert t m k v=>.mup t (trO m) (trO k) (trO v)
 | .panic x=>.pnc (trO x)
 | _=>.alloc 0
def trG (ops:List Oper):Option (Nat×Bool)->Option (Nat×Bool)
 | some (i,b)=>match ops[i]? with
   | some ⟨some d,_,_,_,_,_⟩=>some (d,b)
   | _=>none
 | none=>none
def trA (ops:List Oper)(o:Oper):AI:=⟨o.dst,trG ops o.guard,trP o.op⟩
def trE:List Edge->Nat->Nat
 | [],s=>s
 | ⟨_,.textOnly _⟩ :: l,s=>trE l s
 | ⟨_,.gcOnly _⟩ :: l,s=>trE l s
 | ⟨j,_⟩ :: l,s=>trE l (s ||| 1 <<< j)
def inS (s n:Nat):Bool:=(s >>> n)%2 == 1
def ancW (a u:Nat):Bool->Nat
 | true=>u ||| a
 | false=>u
def ancU:List Nat->Nat->Nat->Nat->Nat
 | [],_,_,u=>u
 | a :: r,i,s,u=>ancU r (i+1) s (ancW a u (inS s i))
def ancV (acc:List Nat)(s:Nat):Nat:=ancU acc 0 s s
def ancs:List Oper->List Nat->List Nat
 | [],acc=>acc
 | o :: l,acc=>ancs l (acc ++ [ancV acc (trE o.after.toList 0)])
structure TW where
 i:Nat
 s:Nat
 an:Nat
 a:AI
def twL (ops:List Oper):List Oper->List Nat->Nat->List TW
 | o :: l,an :: r,i=>⟨i,trE o.after.toList 0,an,trA ops o⟩ :: twL ops l r (i+1)
 | _,_,_=>[]
def AOp.eff:AOp->Bool
 | .pnc _=>false
 | o=>!o.pure
def AOp.rdr:AOp->Bool
 | .load _ _ | .slc _ _ _ _ | .lku _ _ _ _ | .mln _ _=>true
 | _=>false
def twF (done:Nat)(e:Bool):List TW->Option TW
 | []=>none
 | t :: l=>match (t.s ||| done == done) && (e || !t.a.op.eff) with
   | true=>some t
   | false=>twF done e l
def twD (i:Nat):List TW->List TW
 | []=>[]
 | t :: l=>match t.i == i with
   | true=>l
   | false=>t :: twD i l
def agL (an:Nat):List (Nat×AI)->List AI
 | []=>[]
 | (j,a) :: l=>match inS an j with
   | true=>agL an l
   | false=>a :: agL an l
def twO (done:Nat)(r:List TW):Option TW->Option TW
 | none=>twF done true r
 | some t=>some t
def drA (an:Nat)(dl:List (Nat×AI)):Bool->List AI
 | true=>agL an dl
 | false=>[]
def drI (i:Nat)(a:AI)(dl:List (Nat×AI)):Bool->List (Nat×AI)
 | true=>dl ++ [(i,a)]
 | false=>dl
def drL:Nat->Nat->List (Nat×AI)->List TW->List (AI×List AI)
 | 0,_,_,_=>[]
 | n+1,done,dl,r=>
   match twO done r (twF done false r) with
   | none=>[]
   | some ⟨i,_,an,a⟩=>(a,drA an dl a.op.eff) :: drL n (done ||| 1 <<< i) (drI i a dl a.op.rdr) (twD i r)
inductive TT where
 | skip
 | reg (lv n:Nat) (l:List AI)
 | drw (lv n:Nat) (l:List (AI×List AI))
 | seq (a b:TT) (lv:Nat)
 | cond (x:Opd) (a b:TT)
 | blk (id:Nat) (c:TT)
 | loop (lv:Nat) (c:TT)
 | exit (id:Nat)
 | ret
def trR (ops:List Oper):Bool->TT
 | false=>.reg 0 ops.length (ops.map (trA ops))
 | true=>.drw 0 ops.length (drL ops.length 0 [] (twL ops ops (ancs ops []) 0))
def trC:Code->TT
 | .region _ ops d=>trR ops.toList d
 | .seq a b=>.seq (trC a) (trC b) 0
 | .cond x a b=>.cond (trO x) (trC a) (trC b)
 | .scope c=>trC c
 | .block id c=>.blk id (trC c)
 | .loop c=>.loop 0 (trC c)
 | .exit id=>.exit id
 | .ret=>.ret
 | _=>.skip
def rdL:List Opd->Nat->Nat
 | [],s=>s
 | .t n :: l,s=>rdL l (s ||| 1 <<< n)
 | _ :: l,s=>rdL l s
def lvD1 (s:Nat):Option Nat->Nat
 | some d=>(s ||| 1 <<< d) ^^^ (1 <<< d)
 | none=>s
def lvG (s:Nat):Option (Nat×Bool)->Nat
 | some (g,_)=>s ||| 1 <<< g
 | none=>s
def lvI:AI->Nat->Nat
 | ⟨d,g,o⟩,s=>rdL o.bW (lvG (lvD1 s d) g)
def lvL:List AI->Nat->Nat
 | [],s=>s
 | a :: l,s=>lvI a (lvL l s)
def lvD:List (AI×List AI)->Nat->Nat
 | [],s=>s
 | a :: l,s=>lvI a.1 (lvD l s)
def exL (id:Nat):List (Nat×Nat)->Nat
 | []=>0
 | (i,s) :: l=>match i == id with
   | true=>s
   | false=>exL id l
def fixK (k:Nat->Nat)(s t:Nat):Nat:=match t == s with
 | true=>s
 | false=>k t
def fixL (f:Nat->Nat):Nat->Nat->Nat
 | 0,s=>s
 | n+1,s=>fixK (fixL f n) s (f s ||| s)
def lvT (ret:Nat):TT->Nat->List (Nat×Nat)->Nat
 | .skip,s,_=>s
 | .reg _ _ l,s,_=>lvL l s
 | .drw _ _ l,s,_=>lvD l s
 | .seq a b _,s,x=>lvT ret a (lvT ret b s x) x
 | .cond c a b,s,x=>rdL [c] (lvT ret a s x ||| lvT ret b s x)
 | .blk id c,s,x=>lvT ret c s ((id,s) :: x)
 | .exit id,_,x=>exL id x
 | .ret,_,_=>ret
 | .loop _ c,_,x=>fixL (fun L=>lvT ret c L x) 30 0
def anR (n:Nat)(l:List AI)(v:Nat):TT×Nat:=(.reg v n l,v)
def anD (n:Nat)(l:List (AI×List AI))(v:Nat):TT×Nat:=(.drw v n l,v)
def anS (k:Nat->TT×Nat):TT×Nat->TT×Nat
 | (b,v)=>match k v with
   | (a,w)=>(.seq a b v,w)
def anC (c:Opd):TT×Nat->TT×Nat->TT×Nat
 | (a,v),(b,w)=>(.cond c a b,rdL [c] (v ||| w))
def anB (id:Nat):TT×Nat->TT×Nat
 | (a,v)=>(.blk id a,v)
def anP (v:Nat):TT×Nat->TT×Nat
 | (a,_)=>(.loop v a,v)
def anL (k:Nat->TT×Nat)(v:Nat):TT×Nat:=anP v (k v)
def anT (ret:Nat):TT->Nat->List (Nat×Nat)->TT×Nat
 | .skip,s,_=>(.skip,s)
 | .reg _ n l,s,_=>anR n l (lvL l s)
 | .drw _ n l,s,_=>anD n l (lvD l s)
 | .seq a b _,s,x=>anS (fun v=>anT ret a v x) (anT ret b s x)
 | .cond c a b,s,x=>anC c (anT ret a s x) (anT ret b s x)
 | .blk id c,s,x=>anB id (anT ret c s ((id,s) :: x))
 | .exit id,_,x=>(.exit id,exL id x)
 | .ret,_,_=>(.ret,ret)
 | .loop _ c,_,x=>anL (fun v=>anT ret c v x) (fixL (fun L=>lvT ret c L x) 30 0)
def TT.nops:TT->Nat
 | .reg _ n _ | .drw _ n _=>n
 | .seq a b _=>a.nops+b.nops
 | .cond _ a b=>1+a.nops+b.nops
 | .blk _ c=>c.nops
 | _=>1
def TT.triv:TT->Bool
 | .skip | .ret | .exit _ | .loop _ _=>true
 | .reg _ n _=>Nat.ble n 2
 | .seq a b _=>a.triv && b.triv && Nat.ble (a.nops+b.nops) 4
 | _=>false
def bitL:Nat->Nat->Nat->List Nat
 | 0,_,_=>[]
 | n+1,i,s=>match s == 0 with
   | true=>[]
   | false=>match s%2 == 1 with
     | true=>i :: bitL n (i+1) (s / 2)
     | false=>bitL n (i+1) (s / 2)
def bits (s:Nat):List Nat:=bitL 1000 0 s
def rmW (id:Nat):List (Nat×Nat)->List (Nat×Nat)
 | []=>[]
 | (i,m) :: l=>match i == id with
   | true=>rmW id l
   | false=>(i,m) :: rmW id l
def addW:List (Nat×Nat)->List (Nat×Nat)->List (Nat×Nat)
 | [],y=>y
 | (i,n) :: l,y=>(i,n+exL i y) :: addW l (rmW i y)
structure MK where
 c:AC
 n:Nat
 x:List (Nat×Nat)
 run:Nat
 ls:List AC
def bd:List AC->Nat->AC
 | a :: _,0=>a
 | _ :: l,n+1=>bd l n
 | [],_=>.skip
def mkR (v n r:Nat)(l:List AI)(s:List AC):Bool->MK
 | true=>⟨.cut (bits v) (.reg l),1,[],r+n,s⟩
 | false=>⟨.reg l,1,[],r+n,s⟩
def mkS0 (a:AC)(x:List (Nat×Nat))(r:Nat):MK->MK
 | ⟨b,_,_,_,s⟩=>⟨.seq a b,0,x,r,s⟩
def mkS1 (v:Nat)(a:AC)(x:List (Nat×Nat)):MK->MK
 | ⟨b,n,y,r,s⟩=>⟨.seq a (.cut (1000000 :: bits v) b),n,addW x y,r,s⟩
def scW (n:Nat):List (Nat×Nat)->List (Nat×Nat)
 | []=>[]
 | (i,m) :: l=>(i,m*n) :: scW n l
def mkS2 (m:Nat)(a:AC)(x:List (Nat×Nat)):MK->MK
 | ⟨b,n,y,r,s⟩=>⟨.seq a b,n*m,addW x (scW m y),r,s⟩
def mkS (v nb:Nat)(tb:Bool)(k:Nat->List AC->MK):MK->MK
 | ⟨a,n,x,r,s⟩=>match n with
   | 0=>mkS0 a x r (k 0 s)
   | m+1=>match (!(m == 0) && !tb) || (Nat.blt 40 (r+nb) && Nat.blt 24 r) with
     | true=>mkS1 v a x (k 0 s)
     | false=>mkS2 (m+1) a x (k r s)
def mkC1 (c:Opd)(a:AC)(n:Nat)(x:List (Nat×Nat))(r:Nat):MK->MK
 | ⟨b,m,y,q,s⟩=>⟨.cond c a b,n+m,addW x y,max r q,s⟩
def mkC (c:Opd)(k:List AC->MK):MK->MK
 | ⟨a,n,x,r,s⟩=>mkC1 c a n x r (k s)
def mkB (id:Nat):MK->MK
 | ⟨a,n,x,r,s⟩=>⟨.blk id a,n+exL id x,rmW id x,r,s⟩
def mkL (nm:List AC)(v:Nat):MK->MK
 | ⟨a,_,x,r,s⟩=>⟨.loop (bits v) (bd nm s.length),0,x,r,s ++ [a]⟩
def mkT (nm:List AC):TT->Nat->List AC->MK
 | .skip,r,s=>⟨.skip,1,[],r,s⟩
 | .reg v n l,r,s=>mkR v n r l s (Nat.ble 3 n)
 | .drw v n l,r,s=>⟨.cut (bits v) (.drw l),1,[],r+n,s⟩
 | .seq a b v,r,s=>mkS v b.nops b.triv (fun r s=>mkT nm b r s) (mkT nm a r s)
 | .cond c a b,r,s=>mkC c (fun s=>mkT nm b (r+1) s) (mkT nm a (r+1) s)
 | .blk id c,r,s=>mkB id (mkT nm c r s)
 | .exit id,r,s=>⟨.exit id,0,[(id,1)],r,s⟩
 | .ret,r,s=>⟨.ret,0,[],r,s⟩
 | .loop v c,_,s=>mkL nm v (mkT nm c 0 s)
def trRs:List ResultVar->List AR
 | []=>[]
 | .tmp n :: l=>.t n :: trRs l
 | .cell a t :: l=>.cell a t :: trRs l
def trRm:List ResultVar->Nat->Nat
 | [],s=>s
 | .tmp n :: l,s=>trRm l (s ||| 1 <<< n)
 | .cell a _ :: l,s=>trRm l (s ||| 1 <<< a)
def trD (nt:Nat)(rs:List AR):MK->AF×List AC
 | ⟨c,_,_,_,s⟩=>(⟨nt,rs,c⟩,s)
def trM (nm:List AC):TT×Nat->MK
 | (t,_)=>mkT nm t 0 []
def trN (ret:Nat)(t:TT):TT×Nat:=anT ret t ret []
def trF (nm:List AC)(f:Func):AF×List AC:=
 match f.body with
 | none=>(⟨0,[],.skip⟩,[])
 | some c=>trD f.ntmps (trRs f.results.toList) (trM nm (trN (trRm f.results.toList 0) (trC c)))
def zf (f:Func)(nm:List AC)(h: {r:AF×List AC // trF nm f=r} :=by
 refine⟨?_,?_⟩
 rotate_left
 conv=>lhs;cbv):AF×List AC:=h.1
end Go.Abs
namespace Go.Abs.YtlkfbfhkcaldlaaGreatDoor
@[reducible] def zo (d:Nat) (o:AOp):AI:=⟨some d,none,o⟩
@[reducible] def bD (d g:Nat) (o:AOp):AI:=⟨some d,some (g,true),o⟩
@[reducible] def fO (d g:Nat) (o:AOp):AI:=⟨some d,some (g,false),o⟩
@[reducible] def zn (o:AOp):AI:=⟨none,none,o⟩
@[reducible] def zV (d a:Nat):AI:=⟨some d,none,.mv (.t a)⟩
@[reducible] def iy (d g a:Nat):AI:=⟨some d,some (g,true),.mv (.t a)⟩
@[reducible] def o9 (d g a:Nat):AI:=⟨some d,some (g,false),.mv (.t a)⟩
@[reducible] def zL (d t a:Nat):AI:=⟨some d,none,.load t (.t a)⟩
@[reducible] def zN (d a:Nat):AI:=⟨some d,none,.nilck (.t a)⟩
@[reducible] def zF (d t a k:Nat):AI:=⟨some d,none,.fad t (.t a) k⟩
@[reducible] def zE (d a k:Nat):AI:=⟨some d,none,.ext (.t a) k⟩
@[reducible] def zS (t a b:Nat):AI:=⟨none,none,.store t (.t a) (.t b)⟩
@[reducible] def zC (d f:Nat) (l:List Opd):AI:=⟨some d,none,.call (.c (.fn (.func f) [] [])) l⟩
@[reducible] def zB (d:Nat) (o:BinOp) (t a b:Nat):AI:=⟨some d,none,.bin o t (.t a) (.t b)⟩
@[reducible] def zD (d:Nat) (o:BinOp) (t a:Nat) (b:Int):AI:=⟨some d,none,.bin o t (.t a) (.c (.i .i64 b))⟩
set_option maxRecDepth 10000
set_option maxHeartbeats 4000000
def F2:AF:=(zf Go.Proofs.Tryz.f2 []).1
def F3:AF:=(zf Go.Proofs.Tryz.f3 []).1
def F4:AF:=(zf Go.Proofs.Tryz.f4 []).1
def F5:AF:=(zf Go.Proofs.Tryz.f5 []).1
def n6 (a0:AC):=zf Go.Proofs.Tryz.f6 [a0]
def c6L0:AC:=bd (n6 .skip).2 0
def F6:AF:=(n6 c6L0).1
def F7:AF:=(zf Go.Proofs.Tryz.f7 []).1
def n8 (a0 a1:AC):=zf Go.Proofs.Tryz.f8 [a0,a1]
def c8L0:AC:=bd (n8 .skip .skip).2 0
def c8L1:AC:=bd (n8 c8L0 .skip).2 1
def F8:AF:=(n8 c8L0 c8L1).1
def n9 (a0:AC):=zf Go.Proofs.Tryz.f9 [a0]
def c9L0:AC:=bd (n9 .skip).2 0
def F9:AF:=(n9 c9L0).1
def n10 (a0:AC):=zf Go.Proofs.Tryz.f10 [a0]
def c10L0:AC:=bd (n10 .skip).2 0
def F10:AF:=(n10 c10L0).1
def F11:AF:=(zf Go.Proofs.Tryz.f11 []).1
def F12:AF:=(zf Go.Proofs.Tryz.f12 []).1
def F14:AF:=(zf Go.Proofs.Tryz.f14 []).1
def F15:AF:=(zf Go.Proofs.Tryz.f15 []).1
def n16 (a0:AC):=zf Go.Proofs.Tryz.f16 [a0]
def c16L0:AC:=bd (n16 .skip).2 0
def F16:AF:=(n16 c16L0).1
def F17:AF:=(zf Go.Proofs.Tryz.f17 []).1
def n18 (a0:AC):=zf Go.Proofs.Tryz.f18 [a0]
def c18L0:AC:=bd (n18 .skip).2 0
def F18:AF:=(n18 c18L0).1
def n19 (a0:AC):=zf Go.Proofs.Tryz.f19 [a0]
def c19L0:AC:=bd (n19 .skip).2 0
def F19:AF:=(n19 c19L0).1
def n20 (a0:AC):=zf Go.Proofs.Tryz.f20 [a0]
def TY:AC:=bd (n20 .skip).2 0
def F20:AF:=(n20 TY).1
def F21:AF:=(zf Go.Proofs.Tryz.f21 []).1
def n23 (a0:AC):=zf Go.Proofs.Tryz.f23 [a0]
def PV:AC:=bd (n23 .skip).2 0
def F23:AF:=(n23 PV).1
def F24:AF:=(zf Go.Proofs.Tryz.f24 []).1
def F25:AF:=(zf Go.Proofs.Tryz.f25 []).1
def F26:AF:=(zf Go.Proofs.Tryz.f26 []).1
def F27:AF:=(zf Go.Proofs.Tryz.f27 []).1
def F28:AF:=(zf Go.Proofs.Tryz.f28 []).1
def n29 (a0:AC):=zf Go.Proofs.Tryz.f29 [a0]
def aaf:AC:=bd (n29 .skip).2 0
def Yi:AF:=(n29 aaf).1
def F30:AF:=(zf Go.Proofs.Tryz.f30 []).1
def F31:AF:=(zf Go.Proofs.Tryz.f31 []).1
def F32:AF:=(zf Go.Proofs.Tryz.f32 []).1
def n33 (a0:AC):=zf Go.Proofs.Tryz.f33 [a0]
def c33L0:AC:=bd (n33 .skip).2 0
def F33:AF:=(n33 c33L0).1
def n34 (a0 a1 a2:AC):=zf Go.Proofs.Tryz.f34 [a0,a1,a2]
def c34L0:AC:=bd (n34 .skip .skip .skip).2 0
def c34L1:AC:=bd (n34 c34L0 .skip .skip).2 1
def c34L2:AC:=bd (n34 c34L0 c34L1 .skip).2 2
def F34:AF:=(n34 c34L0 c34L1 c34L2).1
def F35:AF:=(zf Go.Proofs.Tryz.f35 []).1
def F36:AF:=(zf Go.Proofs.Tryz.f36 []).1
def F37:AF:=(zf Go.Proofs.Tryz.f37 []).1
def F38:AF:=(zf Go.Proofs.Tryz.f38 []).1
def F39:AF:=(zf Go.Proofs.Tryz.f39 []).1
def F40:AF:=(zf Go.Proofs.Tryz.f40 []).1
def n41 (a0:AC):=zf Go.Proofs.Tryz.f41 [a0]
def c41L0:AC:=bd (n41 .skip).2 0
def F41:AF:=(n41 c41L0).1
def n42 (a0:AC):=zf Go.Proofs.Tryz.f42 [a0]
def c42L0:AC:=bd (n42 .skip).2 0
def F42:AF:=(n42 c42L0).1
def F43:AF:=(zf Go.Proofs.Tryz.f43 []).1
def n44 (a0:AC):=zf Go.Proofs.Tryz.f44 [a0]
def aag:AC:=bd (n44 .skip).2 0
def F44:AF:=(n44 aag).1
def n45 (a0:AC):=zf Go.Proofs.Tryz.f45 [a0]
def aah:AC:=bd (n45 .skip).2 0
def F45:AF:=(n45 aah).1
def F46:AF:=(zf Go.Proofs.Tryz.f46 []).1
def F47:AF:=(zf Go.Proofs.Tryz.f47 []).1
def F49:AF:=(zf Go.Proofs.Tryz.f49 []).1
def n50 (a0:AC):=zf Go.Proofs.Tryz.f50 [a0]
def aai:AC:=bd (n50 .skip).2 0
def F50:AF:=(n50 aai).1
def F51:AF:=(zf Go.Proofs.Tryz.f51 []).1
def F52:AF:=(zf Go.Proofs.Tryz.f52 []).1
def F54:AF:=(zf Go.Proofs.Tryz.f54 []).1
def F55:AF:=(zf Go.Proofs.Tryz.f55 []).1
def F56:AF:=(zf Go.Proofs.Tryz.f56 []).1
def F57:AF:=(zf Go.Proofs.Tryz.f57 []).1
def F58:AF:=(zf Go.Proofs.Tryz.f58 []).1
def F59:AF:=(zf Go.Proofs.Tryz.f59 []).1
def F60:AF:=(zf Go.Proofs.Tryz.f60 []).1
def F61:AF:=(zf Go.Proofs.Tryz.f61 []).1
def F62:AF:=(zf Go.Proofs.Tryz.f62 []).1
def n63 (a0:AC):=zf Go.Proofs.Tryz.f63 [a0]
def aaj:AC:=bd (n63 .skip).2 0
def Yj:AF:=(n63 aaj).1
def n64 (a0:AC):=zf Go.Proofs.Tryz.f64 [a0]
def aak:AC:=bd (n64 .skip).2 0
def Yk:AF:=(n64 aak).1
def F65:AF:=(zf Go.Proofs.Tryz.f65 []).1
def F66:AF:=(zf Go.Proofs.Tryz.f66 []).1
def F67:AF:=(zf Go.Proofs.Tryz.f67 []).1
def F68:AF:=(zf Go.Proofs.Tryz.f68 []).1
def F69:AF:=(zf Go.Proofs.Tryz.f69 []).1
def F70:AF:=(zf Go.Proofs.Tryz.f70 []).1
def n71 (a0:AC):=zf Go.Proofs.Tryz.f71 [a0]
def c71L0:AC:=bd (n71 .skip).2 0
def F71:AF:=(n71 c71L0).1
def n72 (a0:AC):=zf Go.Proofs.Tryz.f72 [a0]
def c72L0:AC:=bd (n72 .skip).2 0
def F72:AF:=(n72 c72L0).1
def F73:AF:=(zf Go.Proofs.Tryz.f73 []).1
def F74:AF:=(zf Go.Proofs.Tryz.f74 []).1
def F75:AF:=(zf Go.Proofs.Tryz.f75 []).1
def n76 (a0:AC):=zf Go.Proofs.Tryz.f76 [a0]
def c76L0:AC:=bd (n76 .skip).2 0
def F76:AF:=(n76 c76L0).1
def F77:AF:=(zf Go.Proofs.Tryz.f77 []).1
def F78:AF:=(zf Go.Proofs.Tryz.f78 []).1
def F79:AF:=(zf Go.Proofs.Tryz.f79 []).1
def Nj:AF:=(zf Go.Proofs.Tryz.f80 []).1
def F81:AF:=(zf Go.Proofs.Tryz.f81 []).1
def F83:AF:=(zf Go.Proofs.Tryz.f83 []).1
def n84 (a0:AC):=zf Go.Proofs.Tryz.f84 [a0]
def aal:AC:=bd (n84 .skip).2 0
def F84:AF:=(n84 aal).1
def n85 (a0 a1 a2 a3:AC):=zf Go.Proofs.Tryz.f85 [a0,a1,a2,a3]
def c85L0:AC:=bd (n85 .skip .skip .skip .skip).2 0
def c85L1:AC:=bd (n85 c85L0 .skip .skip .skip).2 1
def c85L2:AC:=bd (n85 c85L0 c85L1 .skip .skip).2 2
def c85L3:AC:=bd (n85 c85L0 c85L1 c85L2 .skip).2 3
def F85:AF:=(n85 c85L0 c85L1 c85L2 c85L3).1
def F89:AF:=(zf Go.Proofs.Tryz.f89 []).1
def F90:AF:=(zf Go.Proofs.Tryz.f90 []).1
def n91 (a0:AC):=zf Go.Proofs.Tryz.f91 [a0]
def Bz:AC:=bd (n91 .skip).2 0
def F91:AF:=(n91 Bz).1
def F92:AF:=(zf Go.Proofs.Tryz.f92 []).1
def n93 (a0:AC):=zf Go.Proofs.Tryz.f93 [a0]
def T_:AC:=bd (n93 .skip).2 0
def F93:AF:=(n93 T_).1
def F94:AF:=(zf Go.Proofs.Tryz.f94 []).1
def F95:AF:=(zf Go.Proofs.Tryz.f95 []).1
def F96:AF:=(zf Go.Proofs.Tryz.f96 []).1
def F97:AF:=(zf Go.Proofs.Tryz.f97 []).1
def F98:AF:=(zf Go.Proofs.Tryz.f98 []).1
def F99:AF:=(zf Go.Proofs.Tryz.f99 []).1
def n100 (a0:AC):=zf Go.Proofs.Tryz.f100 [a0]
def c100L0:AC:=bd (n100 .skip).2 0
def F100:AF:=(n100 c100L0).1
def F101:AF:=(zf Go.Proofs.Tryz.f101 []).1
def F102:AF:=(zf Go.Proofs.Tryz.f102 []).1
def n103 (a0:AC):=zf Go.Proofs.Tryz.f103 [a0]
def c103L0:AC:=bd (n103 .skip).2 0
def F103:AF:=(n103 c103L0).1
def F105:AF:=(zf Go.Proofs.Tryz.f105 []).1
def F108:AF:=(zf Go.Proofs.Tryz.f108 []).1
def n109 (a0:AC):=zf Go.Proofs.Tryz.f109 [a0]
def NJ:AC:=bd (n109 .skip).2 0
def BQ:AF:=(n109 NJ).1
def Ua:AF:=(zf Go.Proofs.Tryz.f110 []).1
def n112 (a0:AC):=zf Go.Proofs.Tryz.f112 [a0]
def Ub:AC:=bd (n112 .skip).2 0
def F112:AF:=(n112 Ub).1
def F121:AF:=(zf Go.Proofs.Tryz.f121 []).1
def n122 (a0:AC):=zf Go.Proofs.Tryz.f122 [a0]
def Iy:AC:=bd (n122 .skip).2 0
def Yl:AF:=(n122 Iy).1
def F123:AF:=(zf Go.Proofs.Tryz.f123 []).1
def n124 (a0:AC):=zf Go.Proofs.Tryz.f124 [a0]
def Iz:AC:=bd (n124 .skip).2 0
def Ym:AF:=(n124 Iz).1
def QU:AF:=(zf Go.Proofs.Tryz.f125 []).1
def F126:AF:=(zf Go.Proofs.Tryz.f126 []).1
def n127 (a0:AC):=zf Go.Proofs.Tryz.f127 [a0]
def Uc:AC:=bd (n127 .skip).2 0
def IB:AF:=(n127 Uc).1
def F128:AF:=(zf Go.Proofs.Tryz.f128 []).1
def n129 (a0:AC):=zf Go.Proofs.Tryz.f129 [a0]
def c129L0:AC:=bd (n129 .skip).2 0
def F129:AF:=(n129 c129L0).1
def F130:AF:=(zf Go.Proofs.Tryz.f130 []).1
def F131:AF:=(zf Go.Proofs.Tryz.f131 []).1
def F135:AF:=(zf Go.Proofs.Tryz.f135 []).1
def Ud:AC:=(.seq (.seq (.reg [zo 6 (.mv (.c (.i .i64 7)))])
 (.seq (.seq (.cut [0,1,2,6,23,24] (.reg [zV 7 1,zN 8 7,zF 9 48 8 4,zL 10 44 9,zo 11 (.bin .neq 44 (.t 10) (.c (.p0)))]))
 (.cond (.t 11)
 (.cut [0,1,2,23,24] (.reg [zV 12 1,zN 13 12,zF 14 48 13 3,zL 15 9 14,zC 16 142 [.t 15],zV 6 16]))
 .skip))
 (.cut [1000000,0,1,2,6,23,24] (.seq (.seq (.cut [0,1,2,6,23,24] (.reg [zV 17 6,zV 18 2,zB 19 .lss 3 17 18]))
 (.cond (.t 19)
 (.seq (.cut [0,1,6,19] (.reg [zV 20 0,zo 21 (.bsl 116 1 [(0,.c (.s [40]))]),zC 22 44 [.t 20,.t 21]]))
 (.reg [zV 23 0,zo 24 (.bsl 116 1 [(0,.c (.s [41]))])]))
 .skip))
 (.cut [1000000,0,1,6,19,23,24] (.seq (.seq (.cut [0,1,6,19,23,24] (.reg [zV 25 1,zN 26 25,zF 27 48 26 4,zL 28 44 27,zo 29 (.bin .neq 44 (.t 28) (.c (.p0)))]))
 (.cond (.t 29)
 (.seq (.cut [0,1,6,19,23,24] (.reg [zV 30 0,zV 31 1,zN 32 31,zF 33 48 32 4,zL 34 44 33,zV 35 6,zC 36 109 [.t 30,.t 34,.t 35]]))
 (.seq (.cut [0,1,6,19,23,24] (.reg [zV 37 0,zV 38 1,zN 39 38,zF 40 48 39 3,zL 41 9 40,zo 42 (.bsl 116 3 [(0,.c (.s [32])),(1,.t 41),(2,.c (.s [32]))]),zC 43 44 [.t 37,.t 42]]))
 (.cut [0,1,6,19,23,24] (.reg [zV 44 6,zD 45 .add 3 44 1,zV 6 45]))))
 (.cut [0,1,6,19,23,24] (.reg [zV 46 0,zV 47 1,zN 48 47,zF 49 48 48 3,zL 50 9 49,zo 51 (.bsl 116 1 [(0,.t 50)]),zC 52 44 [.t 46,.t 51]]))))
 (.cut [1000000,0,1,6,19,23,24] (.cut [0,1,6,19,23,24] (.reg [zV 53 0,zV 54 1,zN 55 54,zF 56 48 55 5,zL 57 44 56,zV 58 6,zC 59 109 [.t 53,.t 57,.t 58]])))))))))
 (.cond (.t 19)
 (.reg [zn (.call (.c (.fn (.func 44) [] [])) [.t 23,.t 24])])
 .skip))
def Yn:AF:=⟨60,[],Ud⟩
def Yo:AF:=(zf Go.Proofs.Tryz.f141 []).1
def F142:AF:=(zf Go.Proofs.Tryz.f142 []).1
def Yp:AF:=(zf Go.Proofs.Tryz.f143 []).1
def F144:AF:=(zf Go.Proofs.Tryz.f144 []).1
def Yq:AF:=(zf Go.Proofs.Tryz.f145 []).1
def n146 (a0:AC):=zf Go.Proofs.Tryz.f146 [a0]
def c146L0:AC:=bd (n146 .skip).2 0
def F146:AF:=(n146 c146L0).1
def Yr:AF:=(zf Go.Proofs.Tryz.f154 []).1
def Yt:AF:=(zf Go.Proofs.Tryz.f155 []).1
def Yu:AF:=(zf Go.Proofs.Tryz.f156 []).1
def Yv:AF:=(zf Go.Proofs.Tryz.f157 []).1
def fns:Nat->Option AF
 | 2=>some F2
 | 3=>some F3
 | 4=>some F4
 | 5=>some F5
 | 6=>some F6
 | 7=>some F7
 | 8=>some F8
 | 9=>some F9
 | 10=>some F10
 | 11=>some F11
 | 12=>some F12
 | 14=>some F14
 | 15=>some F15
 | 16=>some F16
 | 17=>some F17
 | 18=>some F18
 | 19=>some F19
 | 20=>some F20
 | 21=>some F21
 | 23=>some F23
 | 24=>some F24
 | 25=>some F25
 | 26=>some F26
 | 27=>some F27
 | 28=>some F28
 | 29=>some Yi
 | 30=>some F30
 | 31=>some F31
 | 32=>some F32
 | 33=>some F33
 | 34=>some F34
 | 35=>some F35
 | 36=>some F36
 | 37=>some F37
 | 38=>some F38
 | 39=>some F39
 | 40=>some F40
 | 41=>some F41
 | 42=>some F42
 | 43=>some F43
 | 44=>some F44
 | 45=>some F45
 | 46=>some F46
 | 47=>some F47
 | 49=>some F49
 | 50=>some F50
 | 51=>some F51
 | 52=>some F52
 | 54=>some F54
 | 55=>some F55
 | 56=>some F56
 | 57=>some F57
 | 58=>some F58
 | 59=>some F59
 | 60=>some F60
 | 61=>some F61
 | 62=>some F62
 | 63=>some Yj
 | 64=>some Yk
 | 65=>some F65
 | 66=>some F66
 | 67=>some F67
 | 68=>some F68
 | 69=>some F69
 | 70=>some F70
 | 71=>some F71
 | 72=>some F72
 | 73=>some F73
 | 74=>some F74
 | 75=>some F75
 | 76=>some F76
 | 77=>some F77
 | 78=>some F78
 | 79=>some F79
 | 80=>some Nj
 | 81=>some F81
 | 83=>some F83
 | 84=>some F84
 | 85=>some F85
 | 89=>some F89
 | 90=>some F90
 | 91=>some F91
 | 92=>some F92
 | 93=>some F93
 | 94=>some F94
 | 95=>some F95
 | 96=>some F96
 | 97=>some F97
 | 98=>some F98
 | 99=>some F99
 | 100=>some F100
 | 101=>some F101
 | 102=>some F102
 | 103=>some F103
 | 105=>some F105
 | 108=>some F108
 | 109=>some BQ
 | 110=>some Ua
 | 112=>some F112
 | 121=>some F121
 | 122=>some Yl
 | 123=>some F123
 | 124=>some Ym
 | 125=>some QU
 | 126=>some F126
 | 127=>some IB
 | 128=>some F128
 | 129=>some F129
 | 130=>some F130
 | 131=>some F131
 | 135=>some F135
 | 136=>some Yn
 | 141=>some Yo
 | 142=>some F142
 | 143=>some Yp
 | 144=>some F144
 | 145=>some Yq
 | 146=>some F146
 | 154=>some Yr
 | 155=>some Yt
 | 156=>some Yu
 | 157=>some Yv
 | _=>none
end Go.Abs.YtlkfbfhkcaldlaaGreatDoor
