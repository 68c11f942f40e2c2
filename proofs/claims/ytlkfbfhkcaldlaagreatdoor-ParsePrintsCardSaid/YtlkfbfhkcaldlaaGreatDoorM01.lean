/- Texts of this claim, joined: Abs1, Abs2, Abs4, Abs5, Abs6, Abs7, Abs8, Abs9, Abs10, Abs11, Abs33, Abs12. -/
import Derived.Calls
import Derived.Orders
import Derived.Stop.Asserts
import Derived.Walk
import Derived.Laws.IdiomCopy
import Derived.Laws.Cells
import Derived.ChangeKeysEq
import Derived.Laws.Tables
import Derived.Laws.MakeOwn
import Derived.Laws.Append
import Derived.Laws.AppendOwn
import Derived.Laws.IdiomStrings
import Derived.Laws.BytesString
set_option linter.unusedVariables false
set_option linter.unusedSimpArgs false
namespace Go.Abs
theorem bM {α:Type _} {xs ys:List α} :(xs ++ ys).length=xs.length+ys.length:=List.length_append
theorem bg {α:Type _} {a:α} {xs:List α} :(a :: xs).length=xs.length+1:=List.length_cons
theorem bZ {α:Type _} :([]:List α).length=0:=List.length_nil
theorem fJ (a b:Bool):((a && b)=true)=(a=true/\b=true):=Bool.and_eq_true a b
theorem iU {α β:Type _} {x:Option α} {f:α->β} {b:β} :x.map f=some b↔∃a,x=some a/\f a=b:=Option.map_eq_some_iff
theorem iC {α:Type _} (xs ys zs:List α):xs ++ ys ++ zs=xs ++ (ys ++ zs):=List.append_assoc xs ys zs
theorem iq {α:Type _} {l:List α} :l.take l.length=l:=List.take_length
theorem gK {α:Type _} {xs:List α} {i:Nat} {a:α} :(xs.set i a).length=xs.length:=List.length_set
theorem sN {α:Type _} {l:List α} {i:Nat} (h:i<l.length):l[i]? =some l[i]:=List.getElem?_eq_getElem h
theorem nR:(false=true)=False:=Bool.false_eq_true
theorem rZ {α:Type _} {l:List α} {i j:Nat} (h:i≠j) {a:α} :(l.set i a)[j]? =l[j]? :=List.getElem?_set_ne h
theorem oW {α:Type _} (a b:α):(some a=some b)=(a=b):=Option.some.injEq a b
theorem pF {α:Type _} {i:Nat} {l:List α} :(l.drop i).length=l.length - i:=List.length_drop
theorem pG {α:Type _} {a:α} {xs ys:List α} :a :: xs ++ ys=a :: (xs ++ ys):=List.cons_append
theorem wJ {n m:Nat} (h:Nat.beq n m=true):n=m:=Nat.eq_of_beq_eq_true h
theorem aU {n m:Nat} (h:Nat.ble n m=true):n<=m:=Nat.le_of_ble_eq_true h
inductive AV where
 | u
 | b (x:Bool)
 | i (k:IntKind) (n:Int)
 | s (x:List UInt8)
 | p0
 | p (o g off:Nat)
 | sl0
 | sl (o g off n z:Nat)
 | fn (f:Fn) (first cap:List AV)
 | fn0
 | ic (t:Nat) (v:AV)
 | ic0
 | ag (cs:List AV)
 | tu (vs:List AV)
 | mp0
 | mp (o g:Nat)
 | cd (c:Bool) (v:AV)
 deriving Inhabited
inductive AK where
 | cells (e:Nat) (cs:List AV)
 | iter (s:List UInt8) (pos:Nat)
 | maps (es:List (AV×AV))
 | dead
 | froz (e:Nat) (l:List UInt8)
 deriving Inhabited
structure AO where
 g:Nat
 ro:Bool
 k:AK
 deriving Inhabited
abbrev St:=List AO
abbrev Env:=List (Nat×AV)
def get:Env->Nat->AV
 | [],_=>.u
 | (d,v) :: r,n=>if d=n then v else get r n
inductive Opd where
 | t (n:Nat)
 | c (v:AV)
 deriving Inhabited
def Opd.ev (e:Env):Opd->AV
 | .t n=>get e n
 | .c v=>v
inductive AOp where
 | mv (x:Opd)
 | pick (c a b:Opd)
 | alloc (t:Nat)
 | box (t:Nat) (x:Opd)
 | build (t:Nat) (ps:List (Nat×Opd))
 | bsl (t len:Nat) (ps:List (Nat×Opd))
 | load (t:Nat) (x:Opd)
 | store (t:Nat) (x y:Opd)
 | nilck (x:Opd)
 | bin (op:BinOp) (t:Nat) (x y:Opd)
 | un (op:UnOp) (x:Opd)
 | conv (s d:Nat) (x:Opd)
 | mki (t:Nat) (x:Opd)
 | mkf (f:Fn) (first cap:List Opd)
 | mks (t:Nat) (l c:Opd)
 | slc (t:Nat) (x:Opd) (lo hi:Option Opd)
 | fad (t:Nat) (x:Opd) (f:Nat)
 | fld (t:Nat) (x:Opd) (f:Nat)
 | iad (t:Nat) (x i:Opd)
 | idx (t:Nat) (x i:Opd)
 | rng (t:Nat) (x:Opd)
 | nxt (x:Opd)
 | tas (x:Opd) (xt at_:Nat) (ok:Bool)
 | ext (x:Opd) (i:Nat)
 | call (f:Opd) (args:List Opd)
 | inv (x:Opd) (m:String) (args:List Opd)
 | len (t:Nat) (x:Opd)
 | app (t:Nat) (str:Bool) (x y:Opd)
 | copy (t:Nat) (x y:Opd)
 | mn (mx:Bool) (xs:List Opd)
 | pnc (x:Opd)
 | mkm (t:Nat) (r:Option Opd)
 | lku (t:Nat) (x k:Opd) (ok:Bool)
 | mup (t:Nat) (m k v:Opd)
 | del (t:Nat) (m k:Opd)
 | mln (t:Nat) (x:Opd)
 | sl3 (t:Nat) (x:Opd) (lo:Option Opd) (hi mx:Opd)
 deriving Inhabited
structure AI where
 d:Option Nat
 gd:Option (Nat×Bool)
 op:AOp
 deriving Inhabited
inductive AC where
 | skip
 | reg (ops:List AI)
 | drw (ops:List (AI×List AI))
 | seq (a b:AC)
 | cond (x:Opd) (a b:AC)
 | blk (id:Nat) (c:AC)
 | loop (live:List Nat) (c:AC)
 | cut (live:List Nat) (c:AC)
 | exit (id:Nat)
 | ret
 deriving Inhabited
inductive AR where
 | t (n:Nat)
 | cell (a t:Nat)
 deriving Inhabited
structure AF where
 nt:Nat
 res:List AR
 code:AC
 deriving Inhabited
inductive AD where
 | bool
 | int (k:IntKind)
 | str
 | ptr (e:Nat)
 | slice (e:Nat)
 | arr (n e:Nat)
 | st (fs:List (Nat×Nat×Bool))
 | ifc (ms:List (String×Nat))
 | map (k e:Nat)
 | fn
 | other
 deriving Inhabited
structure AT where
 d:AD
 size:Nat
 bytes:Nat
 zero:AV
 cmp:Bool
 held:Bool
 guarded:Bool
 deriving Inhabited
def AD.agg:AD->Bool
 | .st _ | .arr _ _=>true
 | _=>false
def adOf:TypeDesc->AD
 | .bool=>.bool
 | .int k=>.int k
 | .string=>.str
 | .pointer e=>.ptr e
 | .slice e=>.slice e
 | .array n e=>.arr n e
 | .struct fs=>.st (fs.toList.map fun f=>(f.offset,f.type,f.name == "_"))
 | .interface ms=>.ifc ms.toList
 | .map k e=>.map k e
 | .func _ _ _=>.fn
 | _=>.other
def avOf1:Value->AV
 | .bool x=>.b x
 | .int k n=>.i k n
 | .string x=>.s x.data.toList
 | .pointer none=>.p0
 | .slice none 0 0=>.sl0
 | .nilFunc=>.fn0
 | .nilIface=>.ic0
 | .map none=>.mp0
 | _=>.u
def avOf:Value->AV
 | .agg cs=>.ag (cs.toList.map avOf1)
 | v=>avOf1 v
def tyOf (P:Program)(t:Nat):Option AT:=
 match P.info? t,P.underlying t with
 | some i,some d=>match i.zero with
   | some z=>some ⟨adOf d,i.size,i.bytes,avOf z,i.comparable,P.stoodInHeld t,P.eqGuardType P.depth t⟩
   | none=>none
 | _,_=>none
def AV.one:AV->Bool
 | .u | .ag _ | .tu _ | .cd _ _=>false
 | _=>true
def AV.cells:AV->List AV
 | .ag cs=>cs
 | v=>[v]
def setCells (cs:List AV)(off:Nat):List AV->List AV
 | []=>cs
 | y :: ys=>setCells (cs.set off y) (off+1) ys
def newCells (e:Nat)(cs:List AV)(Z:St):St:=Z ++ [⟨0,false,.cells e cs⟩]
def cellsAt (Z:St)(o g:Nat):Option (List AV):=
 match Z[o]? with
 | some ⟨g',_,.cells _ cs⟩=>if g=g' then some cs else none
 | _=>none
def partOf (T:AT)(cs:List AV)(off:Nat):Option AV:=
 if T.d.agg then(if off+T.size<=cs.length then some (.ag ((cs.drop off).take T.size)) else none)
 else cs[off]?
def aLoad (T:Option AT)(x:AV)(Z:St):Option AV:=
 match T,x with
 | some T,.p o g off=>(cellsAt Z o g).bind fun cs=>partOf T cs off
 | _,_=>none
def aStore (T:Option AT)(x y:AV)(Z:St):Option St:=
 match T,x with
 | some T,.p o g off=>
   match Z[o]? with
   | some ⟨g',ro,.cells e cs⟩=>
     if g=g'/\ro=false/\y.cells.length=T.size/\y.cells.all AV.one=true/\off+T.size<=cs.length then
      some (Z.set o ⟨g',false,.cells e (setCells cs off y.cells)⟩) else none
   | _=>none
 | _,_=>none
def fillA (place:Nat->Option (Nat×Nat))(cells:List AV):List (Nat×AV)->Option (List AV)
 | []=>some cells
 | (i,v) :: rest=>
   match place i with
   | none=>none
   | some (off,size)=>if v.cells.length=size/\off+size<=cells.length/\v.cells.all AV.one=true then fillA place (setCells cells off v.cells) rest else none
def aBuild (P:Program)(t:Nat)(ps:List (Nat×AV)):Option AV:=
 match tyOf P t with
 | some T=>match T.d with
   | .st fs=>if fs.all (fun f=>(tyOf P f.2.1).isSome) then(fillA (fun i=>(fs[i]?).bind fun f=>(tyOf P f.2.1).map fun F=>(f.1,F.size)) T.zero.cells ps).map .ag else none
   | .arr _ e=>match tyOf P e with
     | some E=>(fillA (fun i=>some (i*E.size,E.size)) T.zero.cells ps).map .ag
     | none=>none
   | _=>none
 | none=>none
def repl (z:List AV):Nat->List AV
 | 0=>[]
 | n+1=>z ++ repl z n
def aBsl (P:Program)(t len:Nat)(ps:List (Nat×AV))(Z:St):Option (AV×St):=
 match tyOf P t with
 | some ⟨.slice e,_,_,_,_,_,_⟩=>match tyOf P e with
   | some E=>if 0<E.size/\E.zero.cells.length=E.size/\len*E.size<=16777216 then
    (fillA (fun i=>some (i*E.size,E.size)) (repl E.zero.cells len) ps).map fun cs=>(.sl Z.length 0 0 len E.size,newCells e cs Z)
     else none
   | none=>none
 | _=>none
def ltBytes:List UInt8->List UInt8->Bool:=Op.bytesLess
def aCmp (op:BinOp)(x y:Int):Option AV:=
 match op with
 | .eql=>some (.b (x == y))
 | .neq=>some (.b (x != y))
 | .lss=>some (.b (decide (x<y)))
 | .leq=>some (.b (decide (x<=y)))
 | .gtr=>some (.b (decide (x>y)))
 | .geq=>some (.b (decide (x≥y)))
 | _=>none
def aBits (op:BinOp)(k:IntKind)(x y:Int):Option AV:=
 match op with
 | .and=>some (.i k (k.wrap (BitVec.ofInt k.bits x &&& BitVec.ofInt k.bits y).toNat))
 | .or=>some (.i k (k.wrap (BitVec.ofInt k.bits x ||| BitVec.ofInt k.bits y).toNat))
 | .xor=>some (.i k (k.wrap (BitVec.ofInt k.bits x ^^^ BitVec.ofInt k.bits y).toNat))
 | .andNot=>some (.i k (k.wrap (BitVec.ofInt k.bits x &&& ~~~(BitVec.ofInt k.bits y)).toNat))
 | _=>none
def aInt (op:BinOp)(k:IntKind)(x y:Int):Option AV:=
 match op with
 | .add=>some (.i k (k.wrap (x+y)))
 | .sub=>some (.i k (k.wrap (x - y)))
 | .mul=>some (.i k (k.wrap (x*y)))
 | .quo=>if y=0 then none else some (.i k (k.wrap (x.tdiv y)))
 | .rem=>if y=0 then none else some (.i k (x.tmod y))
 | .and | .or | .xor | .andNot=>aBits op k x y
 | .shl | .shr=>none
 | _=>aCmp op x y
def aShift (op:BinOp)(k:IntKind)(x y:Int):Option AV:=
 if y<0 then none else
 match op with
 | .shl=>some (.i k (k.wrap (x*2^(min y.toNat k.bits))))
 | .shr=>some (.i k (x.fdiv (2^(min y.toNat k.bits))))
 | _=>none
def aStr (op:BinOp)(x y:List UInt8):Option AV:=
 match op with
 | .add=>if x.length+y.length<=9223372036854775807 then some (.s (x ++ y)) else none
 | .eql=>some (.b (x == y))
 | .neq=>some (.b (x != y))
 | .lss=>some (.b (ltBytes x y))
 | .leq=>some (.b (ltBytes x y || x == y))
 | .gtr=>some (.b !(ltBytes x y || x == y))
 | .geq=>some (.b !(ltBytes x y))
 | _=>none
def aEqFs (P:Program)(eq:Nat->AV->AV->Option Bool):List (Nat×Nat×Bool)->List AV->List AV->Option Bool
 | [],_,_=>some true
 | f :: fs,xs,ys=>
   if f.2.2 then aEqFs P eq fs xs ys else
   match tyOf P f.2.1 with
   | none=>none
   | some F=>
     match partOf F xs f.1,partOf F ys f.1 with
     | some x,some y=>match eq f.2.1 x y with
       | some true=>aEqFs P eq fs xs ys
       | r=>r
     | _,_=>none
def aEq (P:Program):Nat->Nat->AV->AV->Option Bool
 | 0,_,_,_=>none
 | d+1,t,x,y=>
   match tyOf P t with
   | none=>none
   | some T=>
   match T.d,x,y with
   | .bool,.b p,.b q=>some (p == q)
   | .int _,.i k p,.i k' q=>if k=k' then some (p == q) else none
   | .str,.s p,.s q=>some (p == q)
   | .ptr _,.p0,.p0=>some true
   | .ptr _,.p0,.p _ _ _ | .ptr _,.p _ _ _,.p0=>some false
   | .ptr e,.p o g off,.p o' g' off'=>if o=o'/\g=g'/\0<P.cellsOf e then some (off == off') else none
   | .slice _,.sl0,.sl0=>some true
   | .slice _,.sl0,.sl _ _ _ _ _ | .slice _,.sl _ _ _ _ _,.sl0=>some false
   | .fn,.fn0,.fn0=>some true
   | .fn,.fn0,.fn _ _ _ | .fn,.fn _ _ _,.fn0=>some false
   | .map _ _,.mp0,.mp0=>some true
   | .map _ _,.mp0,.mp _ _ | .map _ _,.mp _ _,.mp0=>some false
   | .ifc _,.ic0,.ic0=>some true
   | .ifc _,.ic0,.ic _ _ | .ifc _,.ic _ _,.ic0=>some false
   | .ifc _,.ic t p,.ic t' q=>if t=t' then(if(tyOf P t).any (·.cmp) then aEq P d t p q else none) else some false
   | .st fs,.ag xs,.ag ys=>if T.held then none else aEqFs P (aEq P d) fs xs ys
   | _,_,_=>none
def Opd.isC:Opd->Bool
 | .c _=>true
 | _=>false
def aBin (P:Program)(op:BinOp)(t:Nat)(x y:AV)(c:Bool):Option AV:=
 match op,x,y with
 | .shl,.i k a,.i _ b | .shr,.i k a,.i _ b=>aShift op k a b
 | _,.i k a,.i k' b=>if k=k' then aInt op k a b else none
 | _,.s a,.s b=>aStr op a b
 | .eql,.ic0,.ic0=>if c then(aEq P 20 t .ic0 .ic0).map .b else none
 | .neq,.ic0,.ic0=>if c then(aEq P 20 t .ic0 .ic0).map fun r=>.b !r else none
 | .eql,.ag _,.ag _=>if(tyOf P t).any (·.guarded) then none else(aEq P 20 t x y).map .b
 | .neq,.ag _,.ag _=>if(tyOf P t).any (·.guarded) then none else(aEq P 20 t x y).map fun r=>.b !r
 | .eql,_,_=>(aEq P 20 t x y).map .b
 | .neq,_,_=>(aEq P 20 t x y).map fun r=>.b !r
 | _,_,_=>none
def aUn (op:UnOp)(x:AV):Option AV:=
 match op,x with
 | .neg,.i k n=>some (.i k (k.wrap (0 - n)))
 | .xor,.i k n=>aBits .xor k (if k.signed then -1 else k.max) n
 | .not,.b p=>some (.b !p)
 | _,_=>none
def bytesOf:List AV->Option (List UInt8)
 | []=>some []
 | .i .u8 n :: r=>(bytesOf r).map (UInt8.ofNat n.toNat :: ·)
 | _=>none
def aConv (P:Program)(s d:Nat)(x:AV)(Z:St):Option (AV×St):=
 match tyOf P s,tyOf P d with
 | some S,some D=>
   match S.d,D.d,x with
   | _,.int k,.i _ n=>some (.i k (k.wrap n),Z)
   | _,.str,.i _ n=>some (.s (Utf8.encode n).data.toList,Z)
   | .str,.str,.s x=>some (.s x,Z)
   | .str,.slice e,.s x=>match tyOf P e with
     | some ⟨.int .u8,_,_,_,_,_,_⟩=>some (.sl Z.length 0 0 x.length 1,newCells e (x.map fun b=>.i .u8 b.toNat) Z)
     | _=>none
   | .slice e,.str,.sl0=>match tyOf P e with
     | some ⟨.int .u8,_,_,_,_,_,_⟩=>some (.s [],Z)
     | _=>none
   | .slice e,.str,.sl o g off n z=>match tyOf P e with
     | some ⟨.int .u8,_,_,_,_,_,_⟩=>if z=1 then(cellsAt Z o g).bind fun cs=>if off+n<=cs.length then(bytesOf ((cs.drop off).take n)).map fun b=>(.s b,Z) else none else none
     | _=>none
   | _,_,_=>none
 | _,_=>none
def aHi (n m:Nat):Option AV->Option Nat
 | none=>some n
 | some (.i _ h)=>if 0<=h/\h<=m then some h.toNat else none
 | _=>none
def aLo (lo:Option AV)(h:Nat):Option (Nat×Nat):=
 match lo with
 | none=>some (0,h)
 | some (.i _ l)=>if 0<=l/\l<=h then some (l.toNat,h) else none
 | _=>none
def aBounds (n m:Nat)(lo hi:Option AV):Option (Nat×Nat):=(aHi n m hi).bind (aLo lo)
def aSlc (P:Program)(t:Nat)(x:AV)(lo hi:Option AV)(Z:St):Option AV:=
 match tyOf P t with
 | none=>none
 | some T=>
   match T.d,x with
   | .str,.s x=>(aBounds x.length x.length lo hi).map fun r=>.s ((x.drop r.1).take (r.2 - r.1))
   | .slice e,.sl0=>if 0<P.cellsOf e then(aBounds 0 0 lo hi).map fun _=>.sl0 else none
   | .slice e,.sl o g off n z=>if P.cellsOf e=z/\0<z then(aBounds n n lo hi).map fun r=>.sl o g (off+r.1*z) (r.2 - r.1) z else none
   | .arr n e,.p o g off=>
     if 0<P.cellsOf e then
      (cellsAt Z o g).bind fun cs=>if off+n*P.cellsOf e<=cs.length then
          (aBounds n n lo hi).map fun r=>.sl o g (off+r.1*P.cellsOf e) (r.2 - r.1) (P.cellsOf e) else none
     else none
   | _,_=>none
def lowOf:Option AV->Option Int
 | none=>some 0
 | some (.i _ l)=>some l
 | _=>none
def aSl3 (P:Program)(t:Nat)(x:AV)(lo:Option AV)(hi mx:AV):Option AV:=match tyOf P t,x,hi,mx,lowOf lo with
 | some ⟨.slice e,_,_,_,_,_,_⟩,.sl o g off n z,.i _ h,.i _ m,some l=>if P.cellsOf e=z/\0<z/\0<=l/\l<=h/\h<=m/\m<=n then some (.sl o g (off+l.toNat*z) (h.toNat - l.toNat) z) else none
 | _,_,_,_,_=>none
def aFad (P:Program)(t:Nat)(x:AV)(f:Nat):Option AV:=
 match tyOf P t,x with
 | some ⟨.st fs,_,_,_,_,_,_⟩,.p o g off=>(fs[f]?).bind fun r=>if 0<P.cellsOf r.2.1 then some (.p o g (off+r.1)) else none
 | _,_=>none
def aFld (P:Program)(t:Nat)(x:AV)(f:Nat):Option AV:=
 match tyOf P t,x with
 | some ⟨.st fs,_,_,_,_,_,_⟩,.ag cs=>(fs[f]?).bind fun r=>(tyOf P r.2.1).bind fun F=>partOf F cs r.1
 | _,_=>none
def aIad (P:Program)(t:Nat)(x i:AV):Option AV:=
 match tyOf P t,x,i with
 | some ⟨.arr n e,_,_,_,_,_,_⟩,.p o g off,.i _ j=>if 0<P.cellsOf e/\0<=j/\j<n then some (.p o g (off+j.toNat*P.cellsOf e)) else none
 | some ⟨.slice e,_,_,_,_,_,_⟩,.sl o g off n z,.i _ j=>if P.cellsOf e=z/\0<z/\0<=j/\j<n then some (.p o g (off+j.toNat*z)) else none
 | _,_,_=>none
def aIdx (P:Program)(t:Nat)(x i:AV):Option AV:=
 match tyOf P t,x,i with
 | some ⟨.arr n e,_,_,_,_,_,_⟩,.ag cs,.i _ j=>if 0<=j/\j<n then(tyOf P e).bind fun E=>partOf E cs (j.toNat*E.size) else none
 | some ⟨.str,_,_,_,_,_,_⟩,.s x,.i _ j=>if 0<=j then(x[j.toNat]?).map fun b=>.i .u8 b.toNat else none
 | _,_,_=>none
def aLen (P:Program)(t:Nat)(x:AV):Option AV:=
 match tyOf P t,x with
 | some ⟨.str,_,_,_,_,_,_⟩,.s x=>some (.i .i64 x.length)
 | some ⟨.arr n _,_,_,_,_,_,_⟩,_=>some (.i .i64 n)
 | some ⟨.slice _,_,_,_,_,_,_⟩,.sl0=>some (.i .i64 0)
 | some ⟨.slice _,_,_,_,_,_,_⟩,.sl _ _ _ n _=>some (.i .i64 n)
 | _,_=>none
def srcCells (z:Nat)(x:AV)(Z:St):Option (Nat×List AV):=
 match x with
 | .sl0=>some (0,[])
 | .sl o g off n z'=>if z'= z then(cellsAt Z o g).bind fun cs=>if off+n*z<=cs.length then some (n,(cs.drop off).take (n*z)) else none else none
 | .s b=>if z=1 then some (b.length,b.map fun c=>.i .u8 c.toNat) else none
 | _=>none
def aApp (P:Program)(t:Nat)(x y:AV)(Z:St):Option (AV×St):=
 match tyOf P t with
 | some ⟨.slice e,_,_,_,_,_,_⟩=>match tyOf P e with
   | some E=>
     if 0<E.size/\E.zero.cells.length=E.size/\0<E.bytes then
      (srcCells E.size y Z).bind fun src=>
         if src.1=0 then(match x with | .sl0=>some (.sl0,Z) | .sl o g off n z=>some (.sl o g off n z,Z) | _=>none) else
         if src.2.all AV.one=true then
           match x with
           | .sl0=>if src.1*E.bytes<=140737488355328 then some (.sl Z.length 0 0 src.1 E.size,newCells e src.2 Z) else none
           | .sl o g off n z=>
             match Z[o]? with
             | some ⟨g',false,.cells e' cs⟩=>
               if g=g'/\z=E.size/\e'= e/\off+n*z<=cs.length/\(n+src.1)*E.bytes<=140737488355328/\((cs.drop off).take (n*z)).all AV.one=true then
                 some (.sl o (g+1) 0 (n+src.1) z,Z.set o ⟨g+1,false,.cells e (((cs.drop off).take (n*z)) ++ src.2)⟩)
               else none
             | _=>none
           | _=>none
         else none
     else none
   | none=>none
 | _=>none
def aMks (P:Program)(t:Nat)(l c:AV)(Z:St):Option (AV×St):=
 match tyOf P t,l,c with
 | some ⟨.slice e,_,_,_,_,_,_⟩,.i _ l,.i _ c=>match tyOf P e with
   | some E=>
     if 0<E.size/\E.zero.cells.length=E.size/\0<=l/\l<=c/\c<=9223372036854775807/\E.bytes*c<=140737488355328 then
      some (.sl Z.length 0 0 l.toNat E.size,newCells e (repl E.zero.cells c.toNat) Z)
     else none
   | none=>none
 | _,_,_=>none
def aRng (P:Program)(t:Nat)(x:AV)(Z:St):Option (AV×St):=
 match tyOf P t,x with
 | some ⟨.str,_,_,_,_,_,_⟩,.s x=>some (.p Z.length 0 0,Z ++ [⟨0,false,.iter x 0⟩])
 | _,_=>none
def aNxt (x:AV)(Z:St):Option (AV×St):=
 match x with
 | .p o g 0=>match Z[o]? with
   | some ⟨g',ro,.iter s pos⟩=>
     if g=g'/\ro=false then
      if pos<s.length then
          some (.tu [.b true,.i .i64 pos,.i .i32 (Utf8.decode ⟨s.toArray⟩ pos).1],Z.set o ⟨g',false,.iter s (pos+(Utf8.decode ⟨s.toArray⟩ pos).2)⟩)
      else some (.tu [.b false],Z)
     else none
   | _=>none
 | _=>none
def aCopy (P:Program)(t:Nat)(x y:AV)(Z:St):Option (AV×St):=
 match tyOf P t,x with
 | some ⟨.slice e,_,_,_,_,_,_⟩,.sl o g off n z=>match tyOf P e with
   | some E=>if z=E.size then
    (srcCells z y Z).bind fun src=>
         match Z[o]? with
         | some ⟨g',false,.cells e' cs⟩=>
           if g=g'/\off+n*z<=cs.length/\src.2.all AV.one=true then
            some (.i .i64 (min src.1 n),Z.set o ⟨g',false,.cells e' (setCells cs off (src.2.take (min src.1 n*z)))⟩)
           else none
         | _=>none
     else none
   | none=>none
 | _,_=>none
def hasAll (P:Program)(t I:Nat):Option Bool:=match P.underlying I,P.info? t with
 | some (.interface want),some i=>some (lacking want i.methods).isEmpty
 | _,_=>none
def aTas (P:Program)(x:AV)(t:Nat)(ok:Bool):Option AV:=
 match tyOf P t with
 | some T=>match T.d,x with
   | .ifc _,.ic t' v=>match hasAll P t' t with
     | some true=>some (if ok then .tu [.ic t' v,.b true] else .ic t' v)
     | some false=>if ok then some (.tu [T.zero,.b false]) else none
     | none=>none
   | .ifc _,.ic0=>if ok then some (.tu [T.zero,.b false]) else none
   | .ifc _,_=>none
   | _,.ic0=>if ok then some (.tu [T.zero,.b false]) else none
   | _,.ic t' v=>if t'= t then some (if ok then .tu [v,.b true] else v) else if ok then some (.tu [T.zero,.b false]) else none
   | _,_=>none
 | none=>none
def aMn (mx:Bool):List AV->Option AV
 | [.i k a,.i k' b]=>if k=k' then some (.i k (if mx then max a b else min a b)) else none
 | _=>none
def aNil:AV->Option AV
 | .p o g off=>some (.p o g off)
 | .fn (.func f) a c=>some (.fn (.func f) a c)
 | .ic t v=>some (.ic t v)
 | _=>none
end Go.Abs
namespace Go.Abs
mutual
def AV.eqv:AV->AV->Bool
 | .u,.u=>true
 | .b x,.b y=>x == y
 | .i k1 n1,.i k2 n2=>k1 == k2 && n1 == n2
 | .s x,.s y=>x == y
 | .p0,.p0=>true
 | .p x1 x2 x3,.p y1 y2 y3=>x1 == y1 && x2 == y2 && x3 == y3
 | .sl0,.sl0=>true
 | .sl x1 x2 x3 x4 x5,.sl y1 y2 y3 y4 y5=>x1 == y1 && x2 == y2 && x3 == y3 && x4 == y4 && x5 == y5
 | .fn f1 x1 x2,.fn f2 y1 y2=>f1 == f2 && AV.eqvs x1 y1 && AV.eqvs x2 y2
 | .fn0,.fn0=>true
 | .ic t1 v1,.ic t2 v2=>t1 == t2 && AV.eqv v1 v2
 | .ic0,.ic0=>true
 | .ag x1,.ag y1=>AV.eqvs x1 y1
 | .tu x1,.tu y1=>AV.eqvs x1 y1
 | .mp0,.mp0=>true
 | .mp x1 x2,.mp y1 y2=>x1 == y1 && x2 == y2
 | .cd c1 v1,.cd c2 v2=>c1 == c2 && AV.eqv v1 v2
 | _,_=>false
def AV.eqvs:List AV->List AV->Bool
 | [],[]=>true
 | x :: xs,y :: ys=>AV.eqv x y && AV.eqvs xs ys
 | _,_=>false
end
mutual
theorem AV.qU:∀x y,AV.eqv x y=true->x=y:=by
 intro x y h
 match x with
 | .u | .b _ | .i _ _ | .s _ | .p0 | .p _ _ _ | .sl0 | .sl _ _ _ _ _ | .fn0 | .ic0 | .mp0 | .mp _ _=>cases y <;> simp_all [AV.eqv]
 | .fn f1 x1 x2=>
   cases y <;> simp only [AV.eqv,fJ,beq_iff_eq,nR] at h
   rw [h.1.1,AV.kN _ _ h.1.2,AV.kN _ _ h.2]
 | .ic t1 v1=>
   cases y <;> simp only [AV.eqv,fJ,beq_iff_eq,nR] at h
   rw [h.1,AV.qU _ _ h.2]
 | .cd t1 v1=>
   cases y <;> simp only [AV.eqv,fJ,beq_iff_eq,nR] at h
   rw [h.1,AV.qU _ _ h.2]
 | .ag x1=>
   cases y <;> simp only [AV.eqv,nR] at h
   rw [AV.kN _ _ h]
 | .tu x1=>
   cases y <;> simp only [AV.eqv,nR] at h
   rw [AV.kN _ _ h]
theorem AV.kN:∀x y,AV.eqvs x y=true->x=y:=by
 intro x y h
 match x with
 | []=>cases y <;> simp_all [AV.eqvs]
 | z :: zs=>
   cases y <;> simp only [AV.eqvs,fJ,nR] at h
   rw [AV.qU _ _ h.1,AV.kN _ _ h.2]
end
mutual
@[simp] theorem AV.sO:∀a,AV.eqv a a=true:=by
  intro x
  match x with
  | .u | .b _ | .i _ _ | .s _ | .p0 | .p _ _ _ | .sl0 | .sl _ _ _ _ _ | .fn0 | .ic0 | .mp0 | .mp _ _=>simp [AV.eqv]
  | .fn f x1 x2=>simp [AV.eqv,AV.nM x1,AV.nM x2]
  | .ic t v=>simp [AV.eqv,AV.sO v]
  | .cd t v=>simp [AV.eqv,AV.sO v]
  | .ag x1=>simp [AV.eqv,AV.nM x1]
  | .tu x1=>simp [AV.eqv,AV.nM x1]
@[simp] theorem AV.nM:∀l,AV.eqvs l l=true:=by
  intro x
  match x with
  | []=>rfl
  | z :: zs=>simp [AV.eqvs,AV.sO z,AV.nM zs]
end
def AK.eqv:AK->AK->Bool
 | .cells e cs,.cells e' cs'=>e == e' && AV.eqvs cs cs'
 | .iter s p,.iter s' p'=>s == s' && p == p'
 | .maps a,.maps b=>AV.eqvs (a.map (·.1)) (b.map (·.1)) && AV.eqvs (a.map (·.2)) (b.map (·.2))
 | .dead,.dead=>true
 | .froz e l,.froz e' l'=>e == e' && l == l'
 | _,_=>false
theorem O6:∀a b:List (AV×AV),a.map (·.1)=b.map (·.1)->a.map (·.2)=b.map (·.2)->a=b
 | [],[],_,_=>rfl
 | [],_ :: _,h,_=>by simp at h
 | _ :: _,[],h,_=>by simp at h
 | (x,y) :: a,(x',y') :: b,h,k=>by
   simp only [List.map_cons,List.cons.injEq] at h k
   rw [O6 a b h.2 k.2,h.1,k.1]
theorem AK.qU (a b:AK)(h:AK.eqv a b=true):a=b:=by
 cases a <;> cases b <;> simp only [AK.eqv,fJ,beq_iff_eq] at h
 all_goals first
  | exact h.elim
  | rfl
  | (rw [h.1,AV.kN _ _ h.2])
  | (rw [h.1,h.2])
  | (rw [O6 _ _ (AV.kN _ _ h.1) (AV.kN _ _ h.2)])
  | simp at h
@[simp] theorem AK.sO (a:AK):AK.eqv a a=true:=by cases a <;> simp [AK.eqv]
def AO.eqv (a b:AO):Bool:=a.g == b.g && a.ro == b.ro && AK.eqv a.k b.k
def nU:St->St->Bool
 | [],[]=>true
 | a :: ar,b :: bs=>AO.eqv a b && nU ar bs
 | _,_=>false
theorem mD:∀a b,nU a b=true->a=b
 | [],[],_=>rfl
 | [],_ :: _,h=>by simp [nU] at h
 | _ :: _,[],h=>by simp [nU] at h
 | ⟨g,r,k⟩ :: ar,⟨g',r',k'⟩ :: bs,h=>by
   simp only [nU,AO.eqv,fJ,beq_iff_eq] at h
   rw [mD ar bs h.2,h.1.1.1,h.1.1.2,AK.qU k k' h.1.2]
@[simp] theorem nV:∀a,nU a a=true
  | []=>rfl
  | a :: ar=>by simp [nU,AO.eqv,nV ar]
def nN:AD->AV->Bool
 | .bool,.b _ | .int _,.i _ _ | .str,.s _=>true
 | _,_=>false
def pI (P:Program)(cs:List AV):List (Nat×Nat×Bool)->Bool
 | []=>true
 | f :: fs=>(f.2.2 || (match tyOf P f.2.1 with
   | some F=>(match partOf F cs f.1 with
     | some x=>nN F.d x
     | none=>false)
   | none=>false)) && pI P cs fs
def wK (P:Program)(t:Nat)(k:AV):Bool:=match tyOf P t with
 | some T=>nN T.d k || (match T.d,k with
   | .st fs,.ag cs=>pI P cs fs
   | _,_=>false)
 | none=>false
def plainKey:AV->Bool
 | .b _ | .i _ _ | .s _=>true
 | _=>false
def Ig:AV->Bool
 | .ag cs=>cs.all plainKey
 | v=>plainKey v
def pJ (P:Program)(t:Nat)(k:AV):List (AV×AV)->Nat->Option (Option (Nat×(AV×AV)))
 | [],_=>some none
 | e :: es,i=>match aEq P 20 t k e.1 with
   | some true=>some (some (i,e))
   | some false=>pJ P t k es (i+1)
   | none=>none
def Dc (Z:St)(x:AV):Option (List (AV×AV)):=match x with
 | .mp0=>some []
 | .mp o g=>match Z[o]? with
   | some ⟨g',_,.maps es⟩=>if g=g' then some es else none
   | _=>none
 | _=>none
def Nr (P:Program)(t:Nat)(x k:AV)(ok:Bool)(Z:St):Option AV:=match tyOf P t with
 | some ⟨.map kt et,_,_,_,_,_,_⟩=>match Dc Z x,tyOf P et with
   | some es,some E=>if wK P kt k=true then(pJ P kt k es 0).map fun r=>match r with
        | some (_,e)=>if ok then .tu [e.2,.b true] else e.2
        | none=>if ok then .tu [E.zero,.b false] else E.zero
     else none
   | _,_=>none
 | _=>none
def JL (P:Program)(t:Nat)(m k v:AV)(Z:St):Option St:=match tyOf P t,m with
 | some ⟨.map kt _,_,_,_,_,_,_⟩,.mp o g=>match Z[o]? with
   | some ⟨g',false,.maps es⟩=>if g=g'/\wK P kt k=true then
        match pJ P kt k es 0 with
        | some (some (i,e))=>if AV.eqv k e.1=true/\Ig k=true then some (Z.set o ⟨g',false,.maps (es.set i (k,v))⟩) else none
        | some none=>some (Z.set o ⟨g',false,.maps (es ++ [(k,v)])⟩)
        | none=>none
     else none
   | _=>none
 | _,_=>none
def Xq (P:Program)(t:Nat)(m k:AV)(Z:St):Option St:=match tyOf P t,m with
 | some ⟨.map kt _,_,_,_,_,_,_⟩,.mp0=>if wK P kt k=true then some Z else none
 | some ⟨.map kt _,_,_,_,_,_,_⟩,.mp o g=>match Z[o]? with
   | some ⟨g',false,.maps es⟩=>if g=g'/\wK P kt k=true then
        match pJ P kt k es 0 with
        | some (some (i,_))=>some (Z.set o ⟨g',false,.maps (es.eraseIdx i)⟩)
        | some none=>some (Z.set o ⟨g',false,.maps es⟩)
        | none=>none
     else none
   | _=>none
 | _,_=>none
def Xr (P:Program)(t:Nat)(r:Option AV)(Z:St):Option (AV×St):=match r with
 | none=>some (.mp Z.length 0,Z ++ [⟨0,false,.maps []⟩])
 | some (.i _ _)=>match tyOf P t with
   | some ⟨.map _ _,_,_,_,_,_,_⟩=>some (.mp Z.length 0,Z ++ [⟨0,false,.maps []⟩])
   | _=>none
 | _=>none
def Xt (P:Program)(t:Nat)(x:AV)(Z:St):Option AV:=match tyOf P t with
 | some ⟨.map _ _,_,_,_,_,_,_⟩=>(Dc Z x).map fun es=>.i .i64 es.length
 | _=>none
def AV.val:AV->AV
 | .cd _ v=>v
 | v=>v
def AV.cnd:AV->Bool
 | .cd c _=>c
 | _=>true
def AOp.bW:AOp->List Opd
 | .mv x | .box _ x | .load _ x | .nilck x | .un _ x | .conv _ _ x | .mki _ x | .fad _ x _ | .fld _ x _ | .rng _ x | .nxt x | .tas x _ _ _ | .ext x _ | .len _ x | .pnc x=>[x]
 | .pick c a b=>[c,a,b]
 | .alloc _=>[]
 | .build _ ps | .bsl _ _ ps=>ps.map (·.2)
 | .store _ x y | .bin _ _ x y | .mks _ x y | .iad _ x y | .idx _ x y | .app _ _ x y | .copy _ x y=>[x,y]
 | .mkf _ a c=>a ++ c
 | .slc _ x l h=>x :: (l.toList ++ h.toList)
 | .call f a=>f :: a
 | .inv x _ a=>x :: a
 | .mn _ xs=>xs
 | .mkm _ r=>r.toList
 | .lku _ x k _=>[x,k]
 | .mup _ m k v=>[m,k,v]
 | .del _ m k=>[m,k]
 | .mln _ x=>[x]
 | .sl3 _ x l h m=>x :: h :: m :: l.toList
@[reducible] def AOp.pure:AOp->Bool
  | .mv _ | .pick _ _ _ | .build _ _ | .load _ _ | .nilck _ | .bin _ _ _ _ | .un _ _ | .mki _ _ | .mkf _ _ _ | .slc _ _ _ _ | .fad _ _ _ | .fld _ _ _ | .iad _ _ _ | .idx _ _ _ | .tas _ _ _ _ | .ext _ _ | .len _ _ | .mn _ _ | .lku _ _ _ _ | .mln _ _ | .sl3 _ _ _ _ _=>true
  | _=>false
def oZ (a b:Bool):Bool:=!a || b
@[simp] theorem impB_self (a:Bool):oZ a a=true:=by cases a <;> rfl
@[simp] theorem impB_true (a:Bool):oZ a true=true:=by cases a <;> rfl
@[simp] theorem iO (a:Bool):oZ true a=a:=by cases a <;> rfl
@[simp] theorem lW (a:Bool):oZ false a=true:=by cases a <;> rfl
@[simp] theorem Xg (a b:Bool):oZ (a && b) a=true:=by cases a <;> cases b <;> rfl
@[simp] theorem Td (a b:Bool):oZ (a && b) b=true:=by cases a <;> cases b <;> rfl
@[simp] theorem Xu (a b:Bool):oZ a (a || b)=true:=by cases a <;> cases b <;> rfl
@[simp] theorem Xh (a b:Bool):oZ b (a || b)=true:=by cases a <;> cases b <;> rfl
def Df (x p q:Bool):Bool:=if x then p else q
@[simp] theorem bsel_tt (x q:Bool):Df x true q=(x || q):=by cases x <;> simp [Df]
@[simp] theorem bsel_ff (x p:Bool):Df x p false=(x && p):=by cases x <;> simp [Df]
def merge (x:Bool)(a b:AV):AV:=
 match a,b with
 | .b p,.b q=>.b (Df x p q)
 | p,q=>if x then p else q
def JM (c a b:AV):Option AV:=
 match c with
 | .b x=>if oZ x a.cnd && oZ (!x) b.cnd then some (merge x a.val b.val) else none
 | _=>none
def Dh (w:Bool)(c a b:AV):Option AV:=
 match c.val with
 | .b x=>if oZ w c.cnd && oZ (w && x) a.cnd && oZ (w && !x) b.cnd then some (.cd w (merge x a.val b.val)) else none
 | _=>none
def jO (P:Program)(ρ:Opd->AV)(op:AOp)(Z:St):Option (AV×St):=
 match op with
 | .mv x=>some (ρ x,Z)
 | .pick c a b=>(JM (ρ c) (ρ a) (ρ b)).map (·,Z)
 | .alloc t=>(tyOf P t).map fun T=>(.p Z.length 0 0,newCells t T.zero.cells Z)
 | .box t x=>match ρ x with
   | .u | .tu _ | .cd _ _=>none
   | v=>some (.p Z.length 0 0,newCells t v.cells Z)
 | .build t ps=>(aBuild P t (ps.map fun q=>(q.1,ρ q.2))).map (·,Z)
 | .bsl t n ps=>aBsl P t n (ps.map fun q=>(q.1,ρ q.2)) Z
 | .load t x=>(aLoad (tyOf P t) (ρ x) Z).map (·,Z)
 | .store t x y=>(aStore (tyOf P t) (ρ x) (ρ y) Z).map (.tu [],·)
 | .nilck x=>(aNil (ρ x)).map (·,Z)
 | .bin op t x y=>(aBin P op t (ρ x) (ρ y) (x.isC || y.isC)).map (·,Z)
 | .un op x=>(aUn op (ρ x)).map (·,Z)
 | .conv s d x=>aConv P s d (ρ x) Z
 | .mki t x=>match tyOf P t with
   | some ⟨.ifc _,_,_,_,_,_,_⟩=>none
   | some _=>some (.ic t (ρ x),Z)
   | none=>none
 | .mkf f a c=>some (.fn f (a.map ρ) (c.map ρ),Z)
 | .mks t l c=>aMks P t (ρ l) (ρ c) Z
 | .slc t x l h=>(aSlc P t (ρ x) (l.map ρ) (h.map ρ) Z).map (·,Z)
 | .fad t x f=>(aFad P t (ρ x) f).map (·,Z)
 | .fld t x f=>(aFld P t (ρ x) f).map (·,Z)
 | .iad t x i=>(aIad P t (ρ x) (ρ i)).map (·,Z)
 | .idx t x i=>(aIdx P t (ρ x) (ρ i)).map (·,Z)
 | .rng t x=>aRng P t (ρ x) Z
 | .nxt x=>aNxt (ρ x) Z
 | .tas x _ t ok=>(aTas P (ρ x) t ok).map (·,Z)
 | .ext x i=>match ρ x with
   | .tu vs=>(vs[i]?).map (·,Z)
   | _=>none
 | .len t x=>(aLen P t (ρ x)).map (·,Z)
 | .app t _ x y=>aApp P t (ρ x) (ρ y) Z
 | .copy t x y=>aCopy P t (ρ x) (ρ y) Z
 | .mn mx xs=>(aMn mx (xs.map ρ)).map (·,Z)
 | .mkm t r=>Xr P t (r.map ρ) Z
 | .lku t x k ok=>(Nr P t (ρ x) (ρ k) ok Z).map (·,Z)
 | .mup t m k v=>(JL P t (ρ m) (ρ k) (ρ v) Z).map (.tu [],·)
 | .del t m k=>(Xq P t (ρ m) (ρ k) Z).map (.tu [],·)
 | .mln t x=>(Xt P t (ρ x) Z).map (·,Z)
 | .sl3 t x l h m=>(aSl3 P t (ρ x) (l.map ρ) (ρ h) (ρ m)).map (·,Z)
 | .call _ _ | .inv _ _ _ | .pnc _=>none
structure Ctx where
 P:Program
 fns:Nat->Option AF
 fM:Nat->Option (List AV->St->Option (AV×St))
 meth:Nat->String->AV->Option (Nat×AV)
 dk:Nat->Bool
abbrev Run:=Nat->List AV->St->Option (AV×St)
def iH (X:Ctx)(run:Run)(ρ:Opd->AV)(op:AOp)(Z:St):Option (AV×St):=
 match op with
 | .call f args=>match ρ f with
   | .fn (.func k) first cap=>run k (first ++ args.map ρ ++ cap) Z
   | _=>none
 | .inv x m args=>match ρ x with
   | .ic t v=>match X.meth t m v with
     | some k=>run k.1 (k.2 :: args.map ρ) Z
     | none=>none
   | _=>none
 | op=>jO X.P ρ op Z
def put (d:Option Nat)(v:AV)(e:Env):Env:=
 match d with
 | some d=>(d,v) :: e
 | none=>e
def fK (e:Env):Option (Nat×Bool)->Option Bool
 | none=>some true
 | some (n,w)=>match get e n with
   | .b x=>some (x == w)
   | .cd c (.b x)=>some (c && (x == w))
   | .cd false _=>some false
   | .tu []=>some false
   | _=>none
def sQ (c ok:Bool)(o:Option (AV×St)):Option AV:=
 match o with
 | some r=>if ok then some (.cd c r.1) else none
 | none=>if c then none else some (.cd false .u)
def nH (P:Program)(e:Env)(op:AOp)(Z:St):Option AV:=
 match op with
 | .pick q a b=>Dh true (q.ev e) (a.ev e) (b.ev e)
 | op=>sQ true (op.bW.all (fun o=>oZ true (o.ev e).cnd)) (jO P (fun o=>(o.ev e).val) op Z)
def kP (P:Program)(c:Bool)(e:Env)(op:AOp)(Z:St):Option AV:=if c then nH P e op Z else some (.cd false .u)
def fU (X:Ctx)(run:Run)(e:Env)(a:AI)(Z:St):Option (AV×St):=
 match a.gd with
 | none=>iH X run (Opd.ev e) a.op Z
 | some g=>match fK e (some g) with
   | none=>none
   | some c=>
     if a.op.pure then
        (kP X.P c e a.op Z).map (·,Z)
     else if c then(if a.op.bW.all (fun o=>(o.ev e).cnd) then iH X run (fun o=>(o.ev e).val) a.op Z else none)
     else some (.tu [],Z)
def wo (X:Ctx)(run:Run):List AI->Env->St->Option (Env×St)
 | [],e,Z=>some (e,Z)
 | a :: r,e,Z=>match fU X run e a Z with
   | some (v,Z')=>wo X run r (put a.d v e) Z'
   | none=>none
def w_ (X:Ctx)(e:Env)(Z:St)(a:AI):Bool:=
 match a.d,fU X (fun _ _ _=>none) e a Z with
 | some d,some (v,_)=>AV.eqv v (get e d)
 | _,_=>false
def zO (X:Ctx)(run:Run):List (AI×List AI)->Env->St->Option (Env×St)
 | [],e,Z=>some (e,Z)
 | (a,again) :: r,e,Z=>match fU X run e a Z with
   | some (v,Z')=>if again.all (w_ X e Z') then zO X run r (put a.d v e) Z' else none
   | none=>none
inductive Out where
 | normal
 | exit (id:Nat)
 | ret
 deriving Inhabited
def clear (live:List Nat)(e:Env):Env:=live.map fun d=>(d,get e d)
def pK (live:List Nat)(body:Env->St->Option (Out×Env×St)):Nat->Env->St->Option (Out×Env×St)
 | 0,_,_=>none
 | n+1,e,Z=>match body (clear live e) Z with
   | some (.normal,e',Z')=>pK live body n e' Z'
   | r=>r
def bH (X:Ctx)(run:Run)(n:Nat):AC->Env->St->Option (Out×Env×St)
 | .skip,e,Z=>some (.normal,e,Z)
 | .reg ops,e,Z=>(wo X run ops e Z).map fun r=>(.normal,r.1,r.2)
 | .drw ops,e,Z=>(zO X run ops e Z).map fun r=>(.normal,r.1,r.2)
 | .seq a b,e,Z=>match bH X run n a e Z with
   | some (.normal,e',Z')=>bH X run n b e' Z'
   | r=>r
 | .cond x a b,e,Z=>match x.ev e with
   | .b true=>bH X run n a e Z
   | .b false=>bH X run n b e Z
   | _=>none
 | .blk id c,e,Z=>match bH X run n c e Z with
   | some (.exit j,e',Z')=>some (if j=id then .normal else .exit j,e',Z')
   | r=>r
 | .loop live c,e,Z=>pK live (bH X run n c) n e Z
 | .cut live c,e,Z=>bH X run n c (clear live e) Z
 | .exit id,e,Z=>some (.exit id,e,Z)
 | .ret,e,Z=>some (.ret,e,Z)
def Di (P:Program)(e:Env)(Z:St):AR->Option AV
 | .t n=>match get e n with
   | .cd _ _=>none
   | v=>some v
 | .cell a t=>aLoad (tyOf P t) (get e a) Z
def sU (P:Program)(e:Env)(Z:St):List AR->Option (List AV)
 | []=>some []
 | r :: rs=>match Di P e Z r,sU P e Z rs with
   | some v,some vs=>some (v :: vs)
   | _,_=>none
def wu (P:Program)(rs:List AR)(e:Env)(Z:St):Option AV:=
 match sU P e Z rs with
 | some [v]=>some v
 | some vs=>some (.tu vs)
 | none=>none
mutual
def AV.flat:AV->Bool
 | .p _ _ _ | .sl _ _ _ _ _ | .mp _ _ | .fn _ _ _=>false
 | .ic _ v=>v.flat
 | .cd _ v=>v.flat
 | .ag a=>AV.mF a
 | .tu a=>AV.mF a
 | _=>true
def AV.mF:List AV->Bool
 | []=>true
 | a :: ar=>a.flat && AV.mF ar
end
def norm (Z:St)(v:AV)(Z':St):AV×St:=
 if v.flat && nU (Z'.take Z.length) Z then(v,Z) else(v,Z')
def iD:Nat->List AV->Env
 | _,[]=>[]
 | n,a :: ar=>(n,a) :: iD (n+1) ar
def aFn (X:Ctx):Nat->Run
 | 0,_,_,_=>none
 | n+1,f,args,Z=>
   match X.fM f with
   | some g=>g args Z
   | none=>match X.fns f with
     | some F=>
       if args.length<=F.nt then
        match bH X (aFn X n) n F.code (iD 0 args) Z with
        | some (.normal,e,Z') | some (.ret,e,Z')=>(wu X.P F.res e Z').map fun v=>norm Z v Z'
        | _=>none
       else none
     | none=>none
end Go.Abs
namespace Go.Abs
abbrev Mu:=Nat->Nat->Option (Nat×Nat)
mutual
def aI (Y:Mu)(w:World):AV->Value->Prop
 | .u,_=>True
 | .b x,v=>v= .bool x
 | .i k n,v=>v= .int k n
 | .s x,v=>v= .string ⟨x.toArray⟩
 | .p0,v=>v= .pointer none
 | .p o g off,v=>∃b δ,Y o g=some (b,δ)/\v= .pointer (some ⟨b,δ+off,none⟩)
 | .sl0,v=>v= .slice none 0 0
 | .sl o g off n z,v=>∃b δ off' c e m,Y o g=some (b,δ)/\v= .slice (some ⟨b,off',none⟩) n c/\n<=c/\(off'= δ+off\/(n=0/\c=0))/\w.shape? b=some (e,m)/\off'+ c*z<=m
 | .fn f xs ys,v=>∃a c,v= .func f a c/\aJ Y w xs a.toList/\aJ Y w ys c.toList
 | .fn0,v=>v= .nilFunc
 | .ic t x,v=>∃y,v= .iface t y/\aI Y w x y
 | .ic0,v=>v= .nilIface
 | .ag xs,v=>∃a,v= .agg a/\aJ Y w xs a.toList
 | .tu xs,v=>∃a,v= .tuple a/\aJ Y w xs a.toList
 | .mp0,v=>v= .map none
 | .mp o g,v=>∃b,Y o g=some (b,0)/\v= .map (some b)
 | .cd c x,v=>if c then aI Y w x v else v=undef
def aJ (Y:Mu)(w:World):List AV->List Value->Prop
 | [],l=>l=[]
 | x :: xs,l=>∃v vs,l=v :: vs/\aI Y w x v/\aJ Y w xs vs
end
def kK (w w':World):Prop:=∀b e m,w.shape? b=some (e,m)->w'.shape? b=some (e,m)
def Mu.le (Y Y':Mu):Prop:=∀o g x,Y o g=some x->Y' o g=some x
theorem Mu.le_refl (Y:Mu):Y.le Y:=fun _ _ _ h=>h
theorem kK.refl (w:World):kK w w:=fun _ _ _ h=>h
theorem kK.trans {a b c:World} (h:kK a b)(k:kK b c):kK a c:=fun b e m q=>k b e m (h b e m q)
mutual
theorem aI.mono {Y Y':Mu} {w w':World} (hm:Y.le Y')(hw:kK w w'):∀(a:AV) (v:Value),aI Y w a v->aI Y' w' a v:=by
 intro a v h
 match a with
 | .u=>trivial
 | .b _ | .i _ _ | .s _ | .p0 | .sl0 | .fn0 | .ic0 | .mp0=>simpa [aI] using h
 | .p o g off=>obtain⟨b,δ,h1,h2⟩:=h;exact⟨b,δ,hm _ _ _ h1,h2⟩
 | .sl o g off n z=>obtain⟨b,δ,off',c,e,m,h1,h2,h3,h4,h5,h6⟩:=h;exact⟨b,δ,off',c,e,m,hm _ _ _ h1,h2,h3,h4,hw _ _ _ h5,h6⟩
 | .fn f xs ys=>obtain⟨a,c,h1,h2,h3⟩:=h;exact⟨a,c,h1,aJ.mono hm hw _ _ h2,aJ.mono hm hw _ _ h3⟩
 | .ic t x=>obtain⟨y,h1,h2⟩:=h;exact⟨y,h1,aI.mono hm hw _ _ h2⟩
 | .ag xs=>obtain⟨a,h1,h2⟩:=h;exact⟨a,h1,aJ.mono hm hw _ _ h2⟩
 | .tu xs=>obtain⟨a,h1,h2⟩:=h;exact⟨a,h1,aJ.mono hm hw _ _ h2⟩
 | .mp o g=>obtain⟨b,h1,h2⟩:=h;exact⟨b,hm _ _ _ h1,h2⟩
 | .cd c x=>
   cases c with
   | true=>simp only [aI,if_true] at h ⊢;exact aI.mono hm hw _ _ h
   | false=>simpa [aI] using h
theorem aJ.mono {Y Y':Mu} {w w':World} (hm:Y.le Y')(hw:kK w w'):∀(a:List AV) (v:List Value),aJ Y w a v->aJ Y' w' a v:=by
 intro a v h
 match a with
 | []=>simpa [aJ] using h
 | x :: xs=>obtain⟨y,ys,h1,h2,h3⟩:=h;exact⟨y,ys,h1,aI.mono hm hw _ _ h2,aJ.mono hm hw _ _ h3⟩
end
mutual
theorem aI.back {Y Y':Mu} {w w':World} (hm:Y.le Y'):∀(a:AV) (v0 v:Value),aI Y w a v0->aI Y' w' a v->aI Y w' a v:=by
 intro a v0 v h0 h
 match a with
 | .u=>trivial
 | .b _ | .i _ _ | .s _ | .p0 | .sl0 | .fn0 | .ic0 | .mp0=>simpa [aI] using h
 | .p o g off=>
   obtain⟨b,δ,h1,h2⟩:=h;obtain⟨b0,δ0,k1,_⟩:=h0
   have:=(hm _ _ _ k1).symm.trans h1
   exact⟨b,δ,by rw [k1,this],h2⟩
 | .sl o g off n z=>
   obtain⟨b,δ,off',c,e,m,h1,h2,h3,h4,h5,h6⟩:=h;obtain⟨b0,δ0,_,_,_,_,k1,_⟩:=h0
   have:=(hm _ _ _ k1).symm.trans h1
   exact⟨b,δ,off',c,e,m,by rw [k1,this],h2,h3,h4,h5,h6⟩
 | .fn f xs ys=>
   obtain⟨a,c,h1,h2,h3⟩:=h;obtain⟨a0,c0,_,k2,k3⟩:=h0
   exact⟨a,c,h1,aJ.back hm _ _ _ k2 h2,aJ.back hm _ _ _ k3 h3⟩
 | .ic t x=>obtain⟨y,h1,h2⟩:=h;obtain⟨y0,_,k2⟩:=h0;exact⟨y,h1,aI.back hm _ _ _ k2 h2⟩
 | .ag xs=>obtain⟨a,h1,h2⟩:=h;obtain⟨a0,_,k2⟩:=h0;exact⟨a,h1,aJ.back hm _ _ _ k2 h2⟩
 | .tu xs=>obtain⟨a,h1,h2⟩:=h;obtain⟨a0,_,k2⟩:=h0;exact⟨a,h1,aJ.back hm _ _ _ k2 h2⟩
 | .mp o g=>
   obtain⟨b,h1,h2⟩:=h;obtain⟨b0,k1,_⟩:=h0
   have:=(hm _ _ _ k1).symm.trans h1
   exact⟨b,by rw [k1,this],h2⟩
 | .cd c x=>
   cases c with
   | true=>simp only [aI,if_true] at h h0 ⊢;exact aI.back hm _ _ _ h0 h
   | false=>simpa [aI] using h
theorem aJ.back {Y Y':Mu} {w w':World} (hm:Y.le Y'):∀(a:List AV) (v0 v:List Value),aJ Y w a v0->aJ Y' w' a v->aJ Y w' a v:=by
 intro a v0 v h0 h
 match a with
 | []=>simpa [aJ] using h
 | x :: xs=>obtain⟨y,ys,h1,h2,h3⟩:=h;obtain⟨y0,ys0,_,k2,k3⟩:=h0;exact⟨y,ys,h1,aI.back hm _ _ _ k2 h2,aJ.back hm _ _ _ k3 h3⟩
end
mutual
theorem aI.flat {Y Y':Mu} {w w':World} :∀(a:AV) (v:Value),a.flat=true->aI Y w a v->aI Y' w' a v:=by
 intro a v hf h
 match a with
 | .u=>trivial
 | .b _ | .i _ _ | .s _ | .p0 | .sl0 | .fn0 | .ic0 | .mp0=>simpa [aI] using h
 | .p _ _ _ | .sl _ _ _ _ _ | .mp _ _ | .fn _ _ _=>simp [AV.flat] at hf
 | .ic t x=>obtain⟨y,h1,h2⟩:=h;exact⟨y,h1,aI.flat _ _ (by simpa [AV.flat] using hf) h2⟩
 | .ag xs=>obtain⟨a,h1,h2⟩:=h;exact⟨a,h1,aJ.flat _ _ (by simpa [AV.flat] using hf) h2⟩
 | .tu xs=>obtain⟨a,h1,h2⟩:=h;exact⟨a,h1,aJ.flat _ _ (by simpa [AV.flat] using hf) h2⟩
 | .cd c x=>
   cases c with
   | true=>simp only [aI,if_true] at h ⊢;exact aI.flat _ _ (by simpa [AV.flat] using hf) h
   | false=>simpa [aI] using h
theorem aJ.flat {Y Y':Mu} {w w':World} :∀(a:List AV) (v:List Value),AV.mF a=true->aJ Y w a v->aJ Y' w' a v:=by
 intro a v hf h
 match a with
 | []=>simpa [aJ] using h
 | x :: xs=>
   simp only [AV.mF,fJ] at hf
   obtain⟨y,ys,h1,h2,h3⟩:=h;exact⟨y,ys,h1,aI.flat _ _ hf.1 h2,aJ.flat _ _ hf.2 h3⟩
end
theorem aJ.length {Y:Mu} {w:World} :∀{a:List AV} {v:List Value},aJ Y w a v->v.length=a.length
 | [],v,h=>by simp only [aJ] at h;subst h;rfl
 | x :: xs,v,h=>by obtain⟨y,ys,rfl,_,h3⟩:=h;simp [aJ.length h3]
theorem aJ.get {Y:Mu} {w:World} :∀{a:List AV} {v:List Value},aJ Y w a v->∀(j:Nat) x,a[j]? =some x->∃y,v[j]? =some y/\aI Y w x y
 | [],v,h,j,x,hx=>by simp at hx
 | x :: xs,v,h,j,z,hz=>by
   obtain⟨y,ys,rfl,h2,h3⟩:=h
   cases j with
   | zero=>simp at hz;subst hz;exact⟨y,rfl,h2⟩
   | succ j=>simpa using aJ.get h3 j z (by simpa using hz)
theorem aJ.Dj {Y:Mu} {w:World} :∀{a:List AV} {v:List Value},v.length=a.length->(∀(j:Nat) x,a[j]? =some x->∃y,v[j]? =some y/\aI Y w x y)->aJ Y w a v
 | [],v,hl,h=>by simp only [aJ];exact List.eq_nil_of_length_eq_zero (by simpa using hl)
 | x :: xs,[],hl,h=>by simp at hl
 | x :: xs,y :: ys,hl,h=>by
   obtain⟨y',h1,h2⟩:=h 0 x rfl
   simp at h1;subst h1
   exact⟨y,ys,rfl,h2,aJ.Dj (by simpa using hl) (fun j z hz=>by simpa using h (j+1) z (by simpa using hz))⟩
theorem aJ.append {Y:Mu} {w:World} {a b:List AV} {u v:List Value} (h:aJ Y w a u)(k:aJ Y w b v):aJ Y w (a ++ b) (u ++ v):=by
 induction a generalizing u with
 | nil=>simp only [aJ] at h;subst h;simpa using k
 | cons x xs ih=>obtain⟨y,ys,rfl,h2,h3⟩:=h;exact⟨y,ys ++ v,rfl,h2,ih h3⟩
theorem aJ.take {Y:Mu} {w:World} {a:List AV} {u:List Value} (h:aJ Y w a u)(n:Nat):aJ Y w (a.take n) (u.take n):=by
 induction n generalizing a u with
 | zero=>simp [aJ]
 | succ n ih=>
   cases a with
   | nil=>simp only [aJ] at h;subst h;simp [aJ]
   | cons x xs=>obtain⟨y,ys,rfl,h2,h3⟩:=h;exact⟨y,ys.take n,rfl,h2,ih h3⟩
theorem aJ.drop {Y:Mu} {w:World} {a:List AV} {u:List Value} (h:aJ Y w a u)(n:Nat):aJ Y w (a.drop n) (u.drop n):=by
 induction n generalizing a u with
 | zero=>simpa using h
 | succ n ih=>
   cases a with
   | nil=>simp only [aJ] at h;subst h;simp [aJ]
   | cons x xs=>obtain⟨y,ys,rfl,h2,h3⟩:=h;simpa using ih h3
def AK.live:AK->Bool
 | .dead=>false
 | _=>true
def iE (Y:Mu)(w:World)(es:List (AV×AV))(l:List MapEntry):Prop:=l.length=es.length/\∀(i:Nat) (e:AV×AV) (m:MapEntry),es[i]? =some e->l[i]? =some m->aI Y w e.1 m.key/\aI Y w e.2 m.val
theorem iE.mono {Y Y':Mu} {w w':World} (hm:Y.le Y')(hw:kK w w')(es:List (AV×AV))(l:List MapEntry)(h:iE Y w es l):iE Y' w' es l:=
 ⟨h.1,fun i e m h1 h2=>⟨aI.mono hm hw _ _ (h.2 i e m h1 h2).1,aI.mono hm hw _ _ (h.2 i e m h1 h2).2⟩⟩
theorem iE.back {Y Y':Mu} {w w':World} (hm:Y.le Y')(es:List (AV×AV))(l0 l:List MapEntry)(h0:iE Y w es l0)(h:iE Y' w' es l):iE Y w' es l:=
 ⟨h.1,fun i e m h1 h2=>by
   have hl:i<l0.length:=by rw [h0.1];exact(List.getElem?_eq_some_iff.1 h1).1
   have q:=h0.2 i e _ h1 (sN hl)
   exact⟨aI.back hm _ _ _ q.1 (h.2 i e m h1 h2).1,aI.back hm _ _ _ q.2 (h.2 i e m h1 h2).2⟩⟩
def wz (Y:Mu)(w:World)(b δ:Nat)(a:AO):Prop:=
 match a.k with
 | .cells e cs=>∃dB fr,w.heap[b]? =some (.cells dB e fr)/\δ+cs.length<=dB.size/\(∀j c,cs[j]? =some c->∃v,dB[δ+j]? =some v/\aI Y w c v)/\
  (a.ro=false->∀j,j<dB.size->¬(fr.1<=j/\j<fr.2))
 | .iter s pos=>δ=0/\w.heap[b]? =some (.stringIter ⟨s.toArray⟩ pos)
 | .maps es=>δ=0/\∃ents clock,w.heap[b]? =some (.map ents clock)/\iE Y w es ents.toList
 | .dead=>True
 | .froz e l=>∃dB fr,w.heap[b]? =some (.cells dB e fr)/\δ+l.length<=dB.size/\∀(j:Nat) x,l[j]? =some x->dB[δ+j]? =some (Value.int .u8 x.toNat)
structure g_ (G:Nat)(Y:Mu)(Z:St)(w:World):Prop where
 obj:∀(o:Nat) a,Z[o]? =some a->a.k.live=true->∃b δ,Y o a.g=some (b,δ)/\wz Y w b δ a
 inj:∀(o o':Nat) a a' b δ wL,Z[o]? =some a->Z[o']? =some a'->a.ro=false->a.k.live=true->a'.k.live=true->Y o a.g=some (b,δ)->Y o' a'.g=some (b,wL)->o=o'
 dom:∀o g x,Y o g=some x->∃a,Z[o]? =some a/\g<=a.g
 blk:∀o g b δ,Y o g=some (b,δ)->b<w.heap.size
 xk:∀g,g<G->Y g 0=some (g,0)
 low:∀o b δ,Y o 0=some (b,δ)->δ=0
 full:∀(g:Nat) e cs,g<G->Z[g]? =some ⟨0,true,.cells e cs⟩->w.shape? g=some (e,cs.length)
structure Step (G:Nat)(Y:Mu)(Z:St)(w:World)(Y':Mu)(Z':St)(w':World):Prop where
 wB:g_ G Y' Z' w'
 ext:Y.le Y'
 xq:kK w w'
 os:w'.os=w.os
 tape:w'.tape=w.tape
 output:w'.output=w.output
 size:w.heap.size<=w'.heap.size
 frame:∀b,b<w.heap.size->(∀(o:Nat) a δ,Z[o]? =some a->a.ro=false->a.k.live=true->Y o a.g≠some (b,δ))->w'.heap[b]? =w.heap[b]?
 Tf:∀(o:Nat) a b δ,Z'[o]? =some a->a.ro=false->a.k.live=true->Y' o a.g=some (b,δ)->b<w.heap.size->
  ∃ o2 a2 BO,Z[o2]? =some a2/\a2.ro=false/\a2.k.live=true/\Y o2 a2.g=some (b,BO)
theorem Step.refl {G:Nat} {Y:Mu} {Z:St} {w:World} (h:g_ G Y Z w):Step G Y Z w Y Z w:=
 ⟨h,fun _ _ _ h=>h,kK.refl w,rfl,rfl,rfl,Nat.le_refl _,fun _ _ _=>rfl,fun o a b δ h1 h2 h3 h4 _=>⟨o,a,δ,h1,h2,h3,h4⟩⟩
theorem Step.trans {G:Nat} {Y Y1 Y2:Mu} {Z Z1 Z2:St} {w w1 w2:World} (h:Step G Y Z w Y1 Z1 w1)(k:Step G Y1 Z1 w1 Y2 Z2 w2):Step G Y Z w Y2 Z2 w2:=
 ⟨k.wB,fun o g x q=>k.ext _ _ _ (h.ext _ _ _ q),h.xq.trans k.xq,k.os.trans h.os,k.tape.trans h.tape,k.output.trans h.output,Nat.le_trans h.size k.size,
   fun b hb hn=>(k.frame b (Nat.lt_of_lt_of_le hb h.size) (fun o a δ h1 h2 h3 h4=>by
    obtain⟨o2,a2,BO,q1,q2,q3,q4⟩:=h.Tf o a b δ h1 h2 h3 h4 hb
    exact hn o2 a2 BO q1 q2 q3 q4)).trans (h.frame b hb hn),
   fun o a b δ h1 h2 h3 h4 hb=>by
    obtain⟨o2,a2,BO,q1,q2,q3,q4⟩:=k.Tf o a b δ h1 h2 h3 h4 (Nat.lt_of_lt_of_le hb h.size)
    exact h.Tf o2 a2 b BO q1 q2 q3 q4 hb⟩
theorem Step.drew {G:Nat} {Y:Mu} {Z:St} {w:World} (h:g_ G Y Z w):Step G Y Z w Y Z { w with drawn:=w.drawn+1 } :=by
 have hv:∀a v,aI Y w a v->aI Y { w with drawn:=w.drawn+1 } a v:=fun a v hv=>aI.mono (Mu.le_refl Y) (show kK w { w with drawn:=w.drawn+1 } from fun _ _ _ q=>q) a v hv
 refine⟨⟨fun o a ho hl=>?_,h.inj,h.dom,h.blk,h.xk,h.low,h.full⟩,fun _ _ _ h=>h,fun _ _ _ q=>q,rfl,rfl,rfl,Nat.le_refl _,fun _ _ _=>rfl,fun o a b δ h1 h2 h3 h4 _=>⟨o,a,δ,h1,h2,h3,h4⟩⟩
 obtain⟨b,δ,h1,h2⟩:=h.obj o a ho hl
 refine⟨b,δ,h1,?_⟩
 unfold wz at h2 ⊢
 split <;> rename_i hk <;> rw [hk] at h2
 ·obtain⟨dB,fr,q1,q2,q3,q4⟩:=h2
  exact⟨dB,fr,q1,q2,fun j c hj=>let ⟨v,p1,p2⟩:=q3 j c hj;⟨v,p1,hv _ _ p2⟩,q4⟩
 ·exact h2
 ·obtain⟨q0,ents,clock,q1,q2⟩:=h2
  exact⟨q0,ents,clock,q1,iE.mono (Mu.le_refl Y) (show kK w { w with drawn:=w.drawn+1 } from fun _ _ _ q=>q) _ _ q2⟩
 ·trivial
 ·exact h2
theorem Step.norm {G:Nat} {Y Y':Mu} {Z Z':St} {w w':World} (h0:g_ G Y Z w)(h:Step G Y Z w Y' Z' w')(hp:Z'.take Z.length=Z):Step G Y Z w Y Z w':=by
 have hget:∀(o:Nat) a,Z[o]? =some a->Z'[o]? =some a:=by
  intro o a ho
  have hlt:o<Z.length:=by
   rcases Nat.lt_or_ge o Z.length with h | h
   ·exact h
   ·rw [List.getElem?_eq_none h] at ho;cases ho
  rw [<-hp,List.getElem?_take,if_pos hlt] at ho
  exact ho
 refine⟨⟨fun o a ho hl=>?_,h0.inj,h0.dom,fun o g b δ q=>Nat.lt_of_lt_of_le (h0.blk o g b δ q) h.size,h0.xk,h0.low,fun g e cs hg ho=>h.xq _ _ _ (h0.full g e cs hg ho)⟩,fun _ _ _ h=>h,h.xq,h.os,h.tape,h.output,h.size,h.frame,fun o a b δ h1 h2 h3 h4 _=>⟨o,a,δ,h1,h2,h3,h4⟩⟩
 obtain⟨b0,δ0,k1,k2⟩:=h0.obj o a ho hl
 obtain⟨b,δ,h1,h2⟩:=h.wB.obj o a (hget o a ho) hl
 have he:some (b,δ)=some (b0,δ0):=h1.symm.trans (h.ext _ _ _ k1)
 cases he
 refine⟨b0,δ0,k1,?_⟩
 unfold wz at h2 k2 ⊢
 split <;> rename_i hk <;> rw [hk] at h2 k2
 ·obtain⟨dB,fr,q1,q2,q3,q4⟩:=h2
  obtain⟨ccs0,fr0,p1,p2,p3,p4⟩:=k2
  refine⟨dB,fr,q1,q2,fun j c hj=>?_,q4⟩
  obtain⟨v,r1,r2⟩:=q3 j c hj
  obtain⟨v0,_,r0⟩:=p3 j c hj
  exact⟨v,r1,aI.back h.ext _ _ _ r0 r2⟩
 ·exact h2
 ·obtain⟨q0,ents,clock,q1,q2⟩:=h2
  obtain⟨_,ents0,clock0,_,p2⟩:=k2
  exact⟨q0,ents,clock,q1,iE.back h.ext _ _ _ p2 q2⟩
 ·trivial
 ·exact h2
theorem wz.mono {Y Y':Mu} {w w':World} {b δ:Nat} {a:AO} (hm:Y.le Y')(hw:kK w w')(hb:w'.heap[b]? =w.heap[b]?)(h:wz Y w b δ a):wz Y' w' b δ a:=by
 unfold wz at h ⊢
 split <;> rename_i hk <;> rw [hk] at h
 ·obtain⟨dB,fr,q1,q2,q3,q4⟩:=h
  exact⟨dB,fr,hb.trans q1,q2,fun j c hj=>let ⟨v,p1,p2⟩:=q3 j c hj;⟨v,p1,aI.mono hm hw _ _ p2⟩,q4⟩
 ·exact⟨h.1,hb.trans h.2⟩
 ·obtain⟨q0,ents,clock,q1,q2⟩:=h
  exact⟨q0,ents,clock,hb.trans q1,iE.mono hm hw _ _ q2⟩
 ·trivial
 ·obtain⟨dB,fr,q1,q2⟩:=h
  exact⟨dB,fr,hb.trans q1,q2⟩
def Mu.upd (Y:Mu)(o g:Nat)(x:Nat×Nat):Mu:=fun o' g'=>if o'= o/\g'= g then some x else Y o' g'
theorem Mu.dG (Y:Mu)(o g:Nat)(x:Nat×Nat):Y.upd o g x o g=some x:=by simp [Mu.upd]
theorem Mu.xu {Y:Mu} {o g:Nat} {x:Nat×Nat} (h:Y o g=none):Y.le (Y.upd o g x):=by
 intro o' g' y hy
 by_cases he:o'= o/\g'= g
 ·rw [he.1,he.2,h] at hy;cases hy
 ·simp [Mu.upd,he,hy]
theorem Mu.upd_ne {Y:Mu} {o g o' g':Nat} {x:Nat×Nat} (h:¬(o'= o/\g'= g)):Y.upd o g x o' g'= Y o' g':=by simp [Mu.upd,h]
theorem eP {α:Type} {l:List α} {o:Nat} {a:α} (h:l[o]? =some a):o<l.length:=by
 rcases Nat.lt_or_ge o l.length with h' | h'
 ·exact h'
 ·rw [List.getElem?_eq_none h'] at h;cases h
theorem lt_of_heap {w:World} {b:Nat} {o:Obj} (h:w.heap[b]? =some o):b<w.heap.size:=by
 rcases Nat.lt_or_ge b w.heap.size with h' | h'
 ·exact h'
 ·rw [Array.getElem?_eq_none h'] at h;cases h
theorem kK.push (w:World)(x:Obj):kK w { w with heap:=w.heap.push x } :=by
 intro b e m h
 have hlt:b<w.heap.size:=by
  unfold World.shape? at h
  split at h
  ·rename_i q;exact lt_of_heap q
  ·cases h
 unfold World.shape? at h ⊢
 rw [Array.getElem?_push,if_neg (by omega)]
 exact h
theorem Step.alloc {G:Nat} {Y:Mu} {Z:St} {w:World} (h:g_ G Y Z w)(a:AO)(x:Obj)(hg:a.g=0)
 (hx:∀Y' w',Y.le Y'->kK w w'->w'.heap[w.heap.size]? =some x->wz Y' w' w.heap.size 0 a) :
 Step G Y Z w (Y.upd Z.length 0 (w.heap.size,0)) (Z ++ [a]) { w with heap:=w.heap.push x } :=by
 have hnone:Y Z.length 0=none:=by
  cases hq:Y Z.length 0 with
  | none=>rfl
  | some y=>obtain⟨a,ha,_⟩:=h.dom _ _ _ hq;simp at ha
 have hle:=Mu.xu (x:=(w.heap.size,0)) hnone
 have hw:=kK.push w x
 have hold:∀b,b<w.heap.size->({ w with heap:=w.heap.push x } :World).heap[b]? =w.heap[b]? :=fun b hb=>by
  show (w.heap.push x)[b]? =_
  rw [Array.getElem?_push,if_neg (by omega)]
 have hnew:({ w with heap:=w.heap.push x } :World).heap[w.heap.size]? =some x:=by
  show (w.heap.push x)[w.heap.size]? =_
  simp
 have hcase:∀(o:Nat) a',(Z ++ [a])[o]? =some a'->(Z[o]? =some a'/\o≠Z.length)\/(o=Z.length/\a'= a):=by
  intro o a' ho
  rcases Nat.lt_or_ge o Z.length with hl | hl
  ·rw [List.getElem?_append_left hl] at ho;exact .inl ⟨ho,by omega⟩
  ·rw [List.getElem?_append_right hl] at ho
   have:o - Z.length=0:=by
        rcases Nat.eq_zero_or_pos (o - Z.length) with h | h
        ·exact h
        ·rw [List.getElem?_eq_none (by simp;omega)] at ho;cases ho
   rw [this] at ho
   simp at ho
   exact .inr ⟨by omega,ho.symm⟩
 refine⟨⟨?_,?_,?_,?_,?_,?_,?_⟩,hle,hw,rfl,rfl,rfl,by simp,fun b hb _=>hold b hb,?_⟩
 ·intro o a' ho hl
  rcases hcase o a' ho with ⟨ho',hne⟩ | ⟨rfl,rfl⟩
  ·obtain⟨b,δ,h1,h2⟩:=h.obj o a' ho' hl
   exact⟨b,δ,hle _ _ _ h1,wz.mono hle hw (hold b (h.blk _ _ _ _ h1)) h2⟩
  ·exact⟨w.heap.size,0,by rw [hg];exact Mu.dG _ _ _ _,hx _ _ hle hw hnew⟩
 ·intro o o' a1 a2 b δ wL ho ho' hro hl1 hl2 hb hb'
  rcases hcase o a1 ho with ⟨ho1,hne⟩ | ⟨rfl,rfl⟩ <;> rcases hcase o' a2 ho' with ⟨ho2,hne'⟩ | ⟨rfl,rfl⟩
  ·rw [Mu.upd_ne (by simp [hne])] at hb
   rw [Mu.upd_ne (by simp [hne'])] at hb'
   exact h.inj o o' a1 a2 b δ wL ho1 ho2 hro hl1 hl2 hb hb'
  ·rw [Mu.upd_ne (by simp [hne])] at hb
   rw [hg,Mu.dG] at hb'
   cases hb'
   have:=h.blk _ _ _ _ hb
   omega
  ·rw [Mu.upd_ne (by simp [hne'])] at hb'
   rw [hg,Mu.dG] at hb
   cases hb
   have:=h.blk _ _ _ _ hb'
   omega
  ·rfl
 ·intro o g y hy
  by_cases he:o=Z.length/\g=0
  ·exact⟨a,by rw [he.1];simp,by rw [he.2];exact Nat.zero_le _⟩
  ·rw [Mu.upd_ne he] at hy
   obtain⟨a',ha,hle⟩:=h.dom _ _ _ hy
   exact⟨a',by rw [List.getElem?_append_left (eP ha)];exact ha,hle⟩
 ·intro o g b δ hy
  show b<(w.heap.push x).size
  by_cases he:o=Z.length/\g=0
  ·rw [he.1,he.2,Mu.dG] at hy;cases hy;simp
  ·rw [Mu.upd_ne he] at hy;have:=h.blk _ _ _ _ hy;simp;omega
 ·intro g hg'
  exact hle _ _ _ (h.xk g hg')
 ·intro o b δ hy
  by_cases he:o=Z.length/\0=0
  ·rw [he.1,Mu.dG] at hy;cases hy;rfl
  ·rw [Mu.upd_ne he] at hy;exact h.low _ _ _ hy
 ·intro g e cs hg' ho
  rcases hcase g _ ho with ⟨ho',_⟩ | ⟨rfl,_⟩
  ·exact hw _ _ _ (h.full g e cs hg' ho')
  ·have:=h.xk _ hg'
   rw [hnone] at this;cases this
 ·intro o a' b δ ho hro hl hb hlt
  rcases hcase o a' ho with ⟨ho1,hne⟩ | ⟨rfl,rfl⟩
  ·rw [Mu.upd_ne (by simp [hne])] at hb
   exact⟨o,a',δ,ho1,hro,hl,hb⟩
  ·rw [hg,Mu.dG] at hb;cases hb;omega
theorem yg {Z:St} {o o':Nat} {a a':AO} (h:(Z.set o a)[o']? =some a'):(o'= o/\a'= a)\/(o'≠o/\Z[o']? =some a'):=by
 by_cases he:o'= o
 ·subst he
  rw [List.getElem?_set_self'] at h
  cases hq:Z[o']? with
  | none=>rw [hq] at h;cases h
  | some x=>rw [hq] at h;simp at h;exact .inl ⟨rfl,h.symm⟩
 ·rw [rZ (fun h=>he h.symm)] at h;exact .inr ⟨he,h⟩
theorem Step.write {G:Nat} {Y Y':Mu} {Z:St} {w w':World} (h:g_ G Y Z w) {o:Nat} {a a':AO} (ho:Z[o]? =some a)(hro:a.ro=false)(hl:a.k.live=true)
 (hro':a'.ro=false) (b δ b' wL:Nat) (hb:Y o a.g=some (b,δ)) (hg:a.g<=a'.g)
 (hle:Y.le Y') (hb':Y' o a'.g=some (b',wL)) (hdom:∀o1 g1 x,Y' o1 g1=some x->Y o1 g1=some x\/(o1=o/\g1=a'.g/\x=(b',wL)))
 (hw:kK w w') (hos:w'.os=w.os) (htape:w'.tape=w.tape) (hout:w'.output=w.output) (hsize:w.heap.size<=w'.heap.size)
 (hblk:b'< w'.heap.size) (hb2:b'= b\/w.heap.size<=b')
 (hsame:∀k,k<w.heap.size->k≠b->w'.heap[k]? =w.heap[k]?)
 (hx:wz Y' w' b' wL a'):Step G Y Z w Y' (Z.set o a') w':=by
 have hne:∀(o1:Nat) a1 b1 Ns,o1≠o->Z[o1]? =some a1->a1.k.live=true->Y o1 a1.g=some (b1,Ns)->b1≠b:=by
  intro o1 a1 b1 Ns hn h1 hl1 hb1 he
  subst he
  exact hn (h.inj o o1 a a1 b1 δ Ns ho h1 hro hl hl1 hb hb1).symm
 refine⟨⟨?_,?_,?_,?_,?_,?_,?_⟩,hle,hw,hos,htape,hout,hsize,?_,?_⟩
 ·intro o1 a1 h1 hl1
  rcases yg h1 with ⟨rfl,rfl⟩ | ⟨hn,h1'⟩
  ·exact⟨b',wL,hb',hx⟩
  ·obtain⟨b1,Ns,q1,q2⟩:=h.obj o1 a1 h1' hl1
   exact⟨b1,Ns,hle _ _ _ q1,wz.mono hle hw (hsame b1 (h.blk _ _ _ _ q1) (hne o1 a1 b1 Ns hn h1' hl1 q1)) q2⟩
 ·intro o1 o2 a1 a2 b1 Ns BO h1 h2 hr1 hl1 hl2 q1 q2
  rcases yg h1 with ⟨rfl,rfl⟩ | ⟨hn1,h1'⟩ <;> rcases yg h2 with ⟨rfl,rfl⟩ | ⟨hn2,h2'⟩
  ·rfl
  ·obtain⟨b3,δ3,p1,_⟩:=h.obj o2 a2 h2' hl2
   rw [hle _ _ _ p1] at q2;cases q2
   rw [hb'] at q1;cases q1
   rcases hb2 with rfl | hge
   ·exact absurd rfl (hne o2 a2 _ _ hn2 h2' hl2 p1)
   ·have:=h.blk _ _ _ _ p1;omega
  ·obtain⟨b3,δ3,p1,_⟩:=h.obj o1 a1 h1' hl1
   rw [hle _ _ _ p1] at q1;cases q1
   rw [hb'] at q2;cases q2
   rcases hb2 with rfl | hge
   ·exact absurd rfl (hne o1 a1 _ _ hn1 h1' hl1 p1)
   ·have:=h.blk _ _ _ _ p1;omega
  ·obtain⟨b3,δ3,p1,_⟩:=h.obj o1 a1 h1' hl1
   obtain⟨b4,δ4,p2,_⟩:=h.obj o2 a2 h2' hl2
   rw [hle _ _ _ p1] at q1;cases q1
   rw [hle _ _ _ p2] at q2;cases q2
   exact h.inj o1 o2 a1 a2 b1 Ns BO h1' h2' hr1 hl1 hl2 p1 p2
 ·intro o1 g1 x q
  rcases hdom o1 g1 x q with q' | ⟨rfl,rfl,rfl⟩
  ·obtain⟨a1,h1,h2⟩:=h.dom _ _ _ q'
   by_cases he:o1=o
   ·subst he
    rw [ho] at h1;cases h1
    exact⟨a',by rw [List.getElem?_set_self (eP ho)],by omega⟩
   ·exact⟨a1,by rw [rZ (fun h=>he h.symm)];exact h1,h2⟩
  ·exact⟨a',by rw [List.getElem?_set_self (eP ho)],Nat.le_refl _⟩
 ·intro o1 g1 b1 Ns q
  rcases hdom o1 g1 _ q with q' | ⟨rfl,rfl,hx⟩
  ·exact Nat.lt_of_lt_of_le (h.blk _ _ _ _ q') hsize
  ·cases hx;exact hblk
 ·intro g hg'
  exact hle _ _ _ (h.xk g hg')
 ·intro o1 b1 Ns q
  rcases hdom o1 0 _ q with q' | ⟨rfl,hg0,hx⟩
  ·exact h.low _ _ _ q'
  ·cases hx
   have h0:a.g=0:=by omega
   rw [h0] at hb
   have q2:=hle _ _ _ hb
   rw [q] at q2
   cases q2
   exact h.low _ _ _ hb
 ·intro g e cs hg' ho'
  rcases yg ho' with ⟨rfl,rfl⟩ | ⟨_,h1⟩
  ·cases hro'
  ·exact hw _ _ _ (h.full g e cs hg' h1)
 ·intro k hk hn
  exact hsame k hk (fun he=>hn o a δ ho hro hl (by rw [he];exact hb))
 ·intro o1 a1 b1 Ns h1 hr1 hl1 q1 hlt
  rcases yg h1 with ⟨rfl,rfl⟩ | ⟨hn,h1'⟩
  ·rw [hb'] at q1;cases q1
   rcases hb2 with rfl | hge
   ·exact⟨o1,a,δ,ho,hro,hl,hb⟩
   ·omega
  ·obtain⟨b3,δ3,p1,_⟩:=h.obj o1 a1 h1' hl1
   rw [hle _ _ _ p1] at q1;cases q1
   exact⟨o1,a1,Ns,h1',hr1,hl1,p1⟩
end Go.Abs
namespace Go.Abs
theorem Addr.kQ (b o n:Nat):(⟨b,o,none⟩:Addr).add n=⟨b,o+n,none⟩:=by unfold Addr.add;split <;> simp_all
theorem Result.jC {α β:Type} (a:α)(w:World)(f:α->World->Result β):(Result.ok a w).andThen f=f a w:=rfl
section
variable {P:Program} {Y:Mu} {w:World}
theorem Gg (v:Value):aI Y w (avOf1 v) v:=by
 unfold avOf1
 split <;> simp [aI]
theorem yh (v:Value):aI Y w (avOf v) v:=by
 unfold avOf
 split
 ·rename_i cs
  refine⟨cs,rfl,?_⟩
  have:∀l:List Value,aJ Y w (l.map avOf1) l:=by
   intro l
   induction l with
   | nil=>simp [aJ]
   | cons x xs ih=>exact⟨x,xs,rfl,Gg x,ih⟩
  exact this cs.toList
 ·exact Gg _
theorem AV.Ba {a:AV} {v:Value} (h:aI Y w a v)(ha:a.one=true):v.oneCell'= true/\v.cells= #[v]:=by
 cases a <;> simp only [AV.one,nR] at ha <;> simp only [aI] at h
 all_goals first
  | (subst h;exact⟨rfl,rfl⟩)
  | (obtain⟨_,_,_,rfl⟩:=h;exact⟨rfl,rfl⟩)
  | (obtain⟨_,_,_,_,_,_,_,rfl,_⟩:=h;exact⟨rfl,rfl⟩)
  | (obtain⟨_,_,rfl,_⟩:=h;exact⟨rfl,rfl⟩)
  | (obtain⟨_,rfl,_⟩:=h;exact⟨rfl,rfl⟩)
  | (obtain⟨_,_,rfl⟩:=h;exact⟨rfl,rfl⟩)
theorem aI.cells {a:AV} {v:Value} (h:aI Y w a v)(ha:a.one=true\/∃cs,a= .ag cs):aJ Y w a.cells v.cells.toList:=by
 rcases ha with ha | ⟨cs,rfl⟩
 ·obtain⟨_,h2⟩:=AV.Ba h ha
  have hc:a.cells=[a]:=by cases a <;> first | rfl | simp [AV.one] at ha
  rw [hc,h2]
  exact⟨v,[],rfl,h,rfl⟩
 ·obtain⟨a,rfl,h2⟩:=h
  exact h2
theorem AV.cells_one {a:AV} (h:a.cells.all AV.one=true):a.one=true\/∃cs,a= .ag cs:=by
 cases a <;> first | exact .inr ⟨_,rfl⟩ | (left;simpa [AV.cells] using h)
theorem aJ.ones {xs:List AV} {vs:List Value} (h:aJ Y w xs vs)(ho:xs.all AV.one=true):∀v∈vs,v.oneCell'= true:=by
 induction xs generalizing vs with
 | nil=>simp only [aJ] at h;subst h;simp
 | cons x xs ih=>
   obtain⟨y,ys,rfl,h2,h3⟩:=h
   simp only [List.all_cons,fJ] at ho
   intro v hv
   rcases List.mem_cons.1 hv with rfl | hv
   ·exact(AV.Ba h2 ho.1).1
   ·exact ih h3 ho.2 v hv
theorem eU {t:Nat} {T:AT} (h:tyOf P t=some T):∃i d z,P.info? t=some i/\P.underlying t=some d/\i.zero=some z/\adOf d=T.d/\i.size=T.size/\i.bytes=T.bytes/\avOf z=T.zero/\i.comparable=T.cmp/\P.stoodInHeld t=T.held/\P.eqGuardType P.depth t=T.guarded:=by
 unfold tyOf at h
 split at h
 ·rename_i i d h1 h2
  split at h
  ·rename_i z h3
   cases h
   exact⟨i,d,z,h1,h2,h3,rfl,rfl,rfl,rfl,rfl,rfl,rfl⟩
  ·cases h
 ·cases h
theorem aP {t:Nat} {d:TypeDesc} (h:P.underlying t=some d):(underlying t).run P w= .ok d w:=by simp [underlying,h]
theorem jS {t:Nat} {i:TypeInfo} (h:P.info? t=some i):(typeInfo t).run P w= .ok i w:=by simp [typeInfo,h]
theorem mG {t:Nat} {T:AT} (h:tyOf P t=some T):(sizeOf t).run P w= .ok T.size w:=by
 obtain⟨i,d,z,h1,_,_,_,h2,_⟩:=eU h
 simp [sizeOf,jS h1,h2]
theorem Ci {t:Nat} {T:AT} (h:tyOf P t=some T):(isAgg t).run P w= .ok T.d.agg w:=by
 obtain⟨i,d,z,h1,h2,_,h3,_⟩:=eU h
 rw [<-h3]
 cases d <;> simp [isAgg,aP h2,adOf,AD.agg]
theorem Dk {t:Nat} {T:AT} (h:tyOf P t=some T):∃z,(zeroValue t).run P w= .ok z w/\avOf z=T.zero:=by
 obtain⟨i,d,z,h1,h2,h3,_,_,_,h4,_⟩:=eU h
 exact⟨z,by simp [zeroValue,jS h1,h3],h4⟩
theorem sZ {t:Nat} {T:AT} (h:tyOf P t=some T) {cs:List AV} {dB:Array Value} (hr:aJ Y w cs dB.toList) {off:Nat} {a:AV} (hp:partOf T cs off=some a) :
 ∃ v,(part t dB off).run P w= .ok v w/\aI Y w a v:=by
 unfold partOf at hp
 split at hp
 ·rename_i hagg
  split at hp
  ·cases hp
   refine⟨.agg (dB.extract off (off+T.size)),by simp [part,Ci h,mG h,hagg],_,rfl,?_⟩
   have:=(hr.drop off).take T.size
   simpa [List.take_drop,Nat.add_comm] using this
  ·cases hp
 ·rename_i hagg
  obtain⟨y,h1,h2⟩:=hr.get off a hp
  refine⟨y,?_,h2⟩
  have:dB[off]? =some y:=by simpa using h1
  simp [part,Ci h,hagg,this]
end
theorem cell_of_heap {w:World} {b j:Nat} {dB:Array Value} {e:Nat} {fr:Nat×Nat} (h:w.heap[b]? =some (.cells dB e fr)):w.cell? ⟨b,j,none⟩=dB[j]? :=by
 simp [World.cell?,h]
theorem tq {Z:St} {o g:Nat} {cs:List AV} (h:cellsAt Z o g=some cs):∃ro e,Z[o]? =some ⟨g,ro,.cells e cs⟩:=by
 unfold cellsAt at h
 split at h
 ·rename_i g' ro e cs' ho
  split at h
  ·rename_i hg;subst hg;cases h;exact⟨ro,e,ho⟩
  ·cases h
 ·cases h
section
variable {P:Program} {G:Nat} {Y:Mu} {Z:St} {w:World}
theorem g_.cells (hs:g_ G Y Z w) {o g b δ:Nat} {ro:Bool} {e:Nat} {cs:List AV} (ho:Z[o]? =some ⟨g,ro,.cells e cs⟩)(hb:Y o g=some (b,δ)) :
 ∃ dB fr,w.heap[b]? =some (.cells dB e fr)/\δ+cs.length<=dB.size/\(∀(j:Nat) c,cs[j]? =some c->∃v,dB[δ+j]? =some v/\aI Y w c v)/\
   (ro=false->∀j,j<dB.size->¬(fr.1<=j/\j<fr.2)):=by
 obtain⟨b',wL,h1,h2⟩:=hs.obj o _ ho rfl
 rw [hb] at h1;cases h1
 exact h2
theorem Gh {cs:List AV} {dB:Array Value} {δ:Nat} (hl:δ+cs.length<=dB.size)(h:∀(j:Nat) c,cs[j]? =some c->∃v,dB[δ+j]? =some v/\aI Y w c v)(off n:Nat)(hn:off+n<=cs.length) :
 aJ Y w ((cs.drop off).take n) ((dB.toList.drop (δ+off)).take n):=by
 refine aJ.Dj (by simp;omega) (fun j c hj=>?_)
 rw [List.getElem?_take] at hj ⊢
 split at hj
 ·rename_i hlt
  rw [List.getElem?_drop] at hj
  obtain⟨v,h1,h2⟩:=h (off+j) c hj
  refine⟨v,?_,h2⟩
  simp [hlt,<-h1,Nat.add_assoc]
 ·cases hj
theorem Bc {t:Nat} {T:AT} (ht:tyOf P t=some T)(hs:g_ G Y Z w) {o g off b δ:Nat} {cs:List AV} {a:AV} (hc:cellsAt Z o g=some cs)(hp:partOf T cs off=some a)(hb:Y o g=some (b,δ)) :
 ∃ v,(loadVar t ⟨b,δ+off,none⟩).run P w= .ok v w/\aI Y w a v:=by
 obtain⟨ro,e,ho⟩:=tq hc
 obtain⟨dB,fr,h1,h2,h3,h4⟩:=hs.cells ho hb
 unfold partOf at hp
 split at hp
 ·rename_i hagg
  split at hp
  ·rename_i hle
   cases hp
   have hsub:=Gh h2 h3 off T.size hle
   have hlen:((dB.toList.drop (δ+off)).take T.size).length=T.size:=by simp;omega
   have hl:=run_loadCells_list (P:=P) w ⟨b,δ+off,none⟩ ((dB.toList.drop (δ+off)).take T.size) (fun j v hj=>by
        rw [Addr.kQ,cell_of_heap h1]
        rw [List.getElem?_take] at hj
        split at hj
        ·rw [List.getElem?_drop] at hj;simpa using hj
        ·cases hj)
   rw [hlen] at hl
   exact⟨.agg (List.take T.size (List.drop (δ+off) dB.toList)).toArray,by simp [loadVar,Ci ht,hagg,mG ht,hl],_,rfl,by simpa using hsub⟩
  ·cases hp
 ·rename_i hagg
  obtain⟨v,q1,q2⟩:=h3 off a hp
  refine⟨v,?_,q2⟩
  have:w.cell? ⟨b,δ+off,none⟩=some v:=by rw [cell_of_heap h1];exact q1
  simp [loadVar,Ci ht,hagg,this]
def f_ (dB:Array Value)(off:Nat):List Value->Array Value
 | []=>dB
 | v :: vs=>f_ (dB.setIfInBounds off v) (off+1) vs
theorem iP (dB:Array Value)(off:Nat)(vs:List Value):(f_ dB off vs).size=dB.size:=by
 induction vs generalizing dB off with
 | nil=>rfl
 | cons v vs ih=>rw [f_,ih];simp
theorem m_ (cs:List AV)(off:Nat)(ys:List AV):(setCells cs off ys).length=cs.length:=by
 induction ys generalizing cs off with
 | nil=>rfl
 | cons v vs ih=>rw [setCells,ih];simp
theorem qh {b e:Nat} {fr:Nat×Nat} :∀(vs:List Value) (off:Nat) (w:World) (dB:Array Value),w.heap[b]? =some (.cells dB e fr)->
 w.setCells b off vs= { w with heap:=w.heap.setIfInBounds b (.cells (f_ dB off vs) e fr) }
 | [],off,w,dB,h=>by
   simp only [World.setCells,f_]
   have:w.heap.setIfInBounds b (.cells dB e fr)=w.heap:=by
     apply Array.ext_getElem?
     intro i
     rw [Array.getElem?_setIfInBounds]
     split
     ·rename_i he;subst he;rw [if_pos (lt_of_heap h),h]
     ·rfl
   rw [this]
 | v :: vs,off,w,dB,h=>by
   have hs:w.setCell ⟨b,off,none⟩ v= { w with heap:=w.heap.setIfInBounds b (.cells (dB.setIfInBounds off v) e fr) } :=by
     unfold World.setCell
     congr 1
     apply Array.ext_getElem?
     intro i
     rw [Array.getElem?_setIfInBounds,Array.getElem?_modify]
     split
     ·rename_i he;subst he;rw [h];simp [lt_of_heap h]
     ·rfl
   rw [World.setCells,hs,qh (e:=e) (fr:=fr) vs (off+1) _ (dB.setIfInBounds off v) (by show (w.heap.setIfInBounds b _)[b]? =_;rw [Array.getElem?_setIfInBounds];simp [lt_of_heap h])]
   simp [f_]
theorem yj {ys:List AV} {vs:List Value} (hr:aJ Y w ys vs):∀{cs:List AV} {dB:Array Value} {δ off:Nat},δ+cs.length<=dB.size->(∀(j:Nat) c,cs[j]? =some c->∃v,dB[δ+j]? =some v/\aI Y w c v)->
 (∀(j:Nat) c,(setCells cs off ys)[j]? =some c->∃v,(f_ dB (δ+off) vs)[δ+j]? =some v/\aI Y w c v):=by
 induction ys generalizing vs with
 | nil=>
   intro cs dB δ off hl h
   simp only [aJ] at hr;subst hr
   exact h
 | cons y ys ih=>
   obtain⟨v,vs',rfl,hv,hvs⟩:=hr
   intro cs dB δ off hl h
   simp only [setCells,f_]
   rw [Nat.add_assoc]
   refine ih hvs (by simpa using hl) (fun j c hj=>?_)
   rw [Array.getElem?_setIfInBounds]
   by_cases he:j=off
   ·subst he
    have hlt:j<cs.length:=by
        rcases Nat.lt_or_ge j cs.length with h' | h'
        ·exact h'
        ·rw [List.getElem?_eq_none (by simpa using h')] at hj;cases hj
    rw [List.getElem?_set_self hlt] at hj
    cases hj
    exact⟨v,by rw [if_pos rfl,if_pos (by omega)],hv⟩
   ·rw [rZ (fun h=>he h.symm)] at hj
    obtain⟨u,q1,q2⟩:=h j c hj
    exact⟨u,by rw [if_neg (by omega)];exact q1,q2⟩
theorem Step.store (hs:g_ G Y Z w) {o g off b δ e:Nat} {cs ys:List AV} {vs:List Value} (ho:Z[o]? =some ⟨g,false,.cells e cs⟩)(hb:Y o g=some (b,δ))(hr:aJ Y w ys vs)(h1:∀v∈vs,v.oneCell'= true)(hle:off+ys.length<=cs.length) :
 ∃ w',(storeCells ⟨b,δ+off,none⟩ vs).run P w= .ok () w'/\Step G Y Z w Y (Z.set o ⟨g,false,.cells e (setCells cs off ys)⟩) w':=by
 obtain⟨dB,fr,q1,q2,q3,q4⟩:=hs.cells ho hb
 have hlen:=hr.length
 have hrun:=run_storeCells_cells (P:=P) b (δ+off) vs 0 w (fun j hj=>by
  rw [cell_of_heap q1,Option.isSome_iff_exists];exact⟨dB[δ+off+0+j]'(by omega),by simp⟩)
  (fun j hj=>by
   have:=q4 rfl (δ+off+0+j) (by omega)
   simp only [World.frozen?,q1]
   simpa using this) h1
 rw [Nat.add_zero,qh vs _ w dB q1] at hrun
 refine⟨_,hrun,?_⟩
 have hlt:=lt_of_heap q1
 have hw:kK w { w with heap:=w.heap.setIfInBounds b (.cells (f_ dB (δ+off) vs) e fr) } :=by
  intro b' e' m h
  unfold World.shape? at h ⊢
  show (match (w.heap.setIfInBounds b _)[b']? with | some (.cells c elem _)=>some (elem,c.size) | _=>none)=_
  rw [Array.getElem?_setIfInBounds]
  by_cases he:b=b'
  ·subst he
   rw [q1] at h
   simpa [hlt,iP] using h
  ·rw [if_neg he];exact h
 refine Step.write hs ho rfl rfl rfl b δ b δ hb (Nat.le_refl _) (Mu.le_refl Y) hb (fun _ _ _ h=>.inl h) hw rfl rfl rfl (by simp) (by simpa using hlt) (.inl rfl)
  (fun k _ hk=>by show (w.heap.setIfInBounds b _)[k]? =_;rw [Array.getElem?_setIfInBounds,if_neg (fun h=>hk h.symm)]) ?_
 refine⟨f_ dB (δ+off) vs,fr,?_,?_,?_,?_⟩
 ·show (w.heap.setIfInBounds b _)[b]? =_
  rw [Array.getElem?_setIfInBounds,if_pos rfl,if_pos hlt]
 ·rw [iP,m_];exact q2
 ·intro j c hj
  obtain⟨v,p1,p2⟩:=yj hr (off:=off) q2 q3 j c hj
  exact⟨v,p1,aI.mono (Mu.le_refl Y) hw _ _ p2⟩
 ·intro _ j hj
  rw [iP] at hj
  exact q4 rfl j hj
theorem Step.row (hs:g_ G Y Z w)(e:Nat)(cs:List AV)(dB:Array Value)(hr:aJ Y w cs dB.toList) :
 Step G Y Z w (Y.upd Z.length 0 (w.heap.size,0)) (newCells e cs Z) { w with heap:=w.heap.push (.cells dB e) } :=by
 refine Step.alloc hs ⟨0,false,.cells e cs⟩ (.cells dB e) rfl (fun Y' w' hm hw hh=>⟨dB,(0,0),hh,?_,?_,?_⟩)
 ·have:=hr.length;simp at this;omega
 ·intro j c hj
  obtain⟨v,q1,q2⟩:=hr.get j c hj
  exact⟨v,by simpa using q1,aI.mono hm hw _ _ q2⟩
 ·intro _ j _ h;omega
end
end Go.Abs
namespace Go.Abs
section
variable {P:Program} {G:Nat} {Y:Mu} {Z:St} {w:World}
theorem JO (x y:List UInt8):((⟨x.toArray⟩:ByteArray).toList == (⟨y.toArray⟩:ByteArray).toList)=(x == y):=by
 have h:∀l:List UInt8,(⟨l.toArray⟩:ByteArray).toList=l:=fun l=>by rw [ByteArray.toList_eq]
 rw [h,h]
theorem toList_mk (l:List UInt8):(⟨l.toArray⟩:ByteArray).toList=l:=by rw [ByteArray.toList_eq]
theorem JQ {op:BinOp} {k:IntKind} {x y:Int} {a:AV} (h:aBits op k x y=some a):∃v,(Op.intBits op k x y).run P w= .ok v w/\aI Y w a v:=by
 unfold aBits at h
 split at h <;> first | (cases h;done) | (cases h;exact⟨_,by simp [Op.intBits],rfl⟩)
theorem Xv {op:BinOp} {t:Nat} {k k':IntKind} {x y:Int} {c:Bool} {a:AV} (h:aBin P op t (.i k x) (.i k' y) c=some a) :
 ∃ v,(binOp op t (.int k x) (.int k' y)).run P w= .ok v w/\aI Y w a v:=by
 cases op
 case shl | shr=>
  simp only [aBin,aShift] at h
  split at h
  ·cases h
  ·cases h
   rename_i hy
   exact⟨_,by simp [binOp,Op.shift,hy],rfl⟩
 all_goals
  simp only [aBin] at h
  split at h
  ·rename_i hk;subst hk
   simp only [aInt,aCmp] at h
   first
        | (obtain⟨v,h1,h2⟩:=JQ (P:=P) (Y:=Y) (w:=w) h;exact⟨v,by simpa [binOp] using h1,h2⟩)
        | (cases h;exact⟨_,by simp [binOp,Op.intArith,Op.intCmp],rfl⟩)
        | (split at h
           ·cases h
           ·cases h;rename_i hy;exact⟨_,by simp [binOp,Op.intDiv,hy],rfl⟩)
  ·cases h
theorem Xw {op:BinOp} {t:Nat} {x y:List UInt8} {c:Bool} {a:AV} (h:aBin P op t (.s x) (.s y) c=some a) :
 ∃ v,(binOp op t (.string ⟨x.toArray⟩) (.string ⟨y.toArray⟩)).run P w= .ok v w/\aI Y w a v:=by
 have hb:=JO x y
 have hx:=toList_mk x
 have hy:=toList_mk y
 cases op <;> simp only [aBin,aStr,ltBytes] at h
 case add=>
  split at h
  ·cases h
   rename_i hl
   refine⟨.string (⟨x.toArray⟩ ++ ⟨y.toArray⟩),?_,?_⟩
   ·have hs:((((⟨x.toArray⟩:ByteArray).size+(⟨y.toArray⟩:ByteArray).size:Nat):Int)>IntKind.i64.max)=False:=by
     have h1:(⟨x.toArray⟩:ByteArray).size=x.length:=by simp [ByteArray.size]
     have h2:(⟨y.toArray⟩:ByteArray).size=y.length:=by simp [ByteArray.size]
     have h3:IntKind.i64.max=9223372036854775807:=by decide
     rw [h1,h2,h3,eq_iff_iff,iff_false]
     omega
    simp only [binOp,Op.stringOp,hs,if_false]
    rfl
   ·show Value.string _=Value.string _
    congr 1
  ·cases h
 all_goals (cases h;try exact⟨_,by simp only [binOp,Op.stringOp,hx,hy];rfl,rfl⟩)
theorem Dl {a b:Addr} (h:a.block=b.block):(sameAddr a b).run P w= .ok (a == b) w:=by
 simp [sameAddr,h]
theorem Fq (b o o2:Nat):(sameAddr ⟨b,o,none⟩ ⟨b,o2,none⟩).run P w= .ok (o == o2) w:=by
 rw [Dl (by rfl)]
 congr 1
 rw [Bool.eq_iff_iff]
 simp
theorem Nu (xs ys:List AV)(cxs cys:Array Value)(hx:aJ Y w xs cxs.toList)(hy:aJ Y w ys cys.toList)(d:Nat)(eq:Nat->AV->AV->Option Bool)
 (heq:∀t x y u v r,eq t x y=some r->aI Y w x u->aI Y w y v->(Op.equalIn d t u v).run P w= .ok r w) :
 ∀ (fs:List Field) (r:Bool),aEqFs P eq (fs.map fun f=>(f.offset,f.type,f.name == "_")) xs ys=some r->(Op.eqFields d cxs cys fs).run P w= .ok r w
 | [],r,h=>by
   simp only [List.map_nil,aEqFs,oW] at h
   subst h
   simp [Op.eqFields]
 | f :: fs,r,h=>by
   simp only [List.map_cons,aEqFs] at h
   by_cases hn:f.name= "_"
   ·simp only [hn,beq_self_eq_true,if_true] at h
    have ih:=Nu xs ys cxs cys hx hy d eq heq fs r h
    simp [Op.eqFields,hn,ih]
   ·have hb:(f.name == "_")=false:=by simpa using hn
    simp only [hb,nR,if_false] at h
    split at h
    ·cases h
    ·rename_i F hF
     split at h
     ·rename_i x y h1 h2
      obtain⟨u,hu,ru⟩:=sZ hF hx h1
      obtain⟨v,hv,rv⟩:=sZ hF hy h2
      cases he:eq f.type x y with
      | none=>rw [he] at h;simp at h
      | some q=>
        have hq:=heq _ _ _ _ _ _ he ru rv
        rw [he] at h
        cases q with
        | true=>
          have ih:=Nu xs ys cxs cys hx hy d eq heq fs r (by simpa using h)
          simp [Op.eqFields,hn,hu,hv,hq,ih]
        | false=>
          simp at h;subst h
          simp [Op.eqFields,hn,hu,hv,hq]
     ·cases h
theorem zQ {e:Nat} (h:0<P.cellsOf e):∃j,P.info? e=some j/\j.size≠0:=by
 unfold Program.cellsOf at h
 cases hi:P.info? e with
 | none=>simp [hi] at h
 | some j=>exact⟨j,rfl,by simp [hi] at h;omega⟩
theorem bytes_beq (x y:List UInt8):((⟨x.toArray⟩:ByteArray) == ⟨y.toArray⟩)=(x == y):=by
 rw [beq_toListBytes];exact JO x y
set_option maxHeartbeats 4000000 in
theorem zT:∀(d n t:Nat) (x y:AV) (u v:Value) (r:Bool),d<=n->aEq P d t x y=some r->aI Y w x u->aI Y w y v->(Op.equalIn n t u v).run P w= .ok r w
 | 0,_,_,_,_,_,_,_,_,h,_,_=>by simp [aEq] at h
 | d+1,0,_,_,_,_,_,_,hn,_,_,_=>by omega
 | d+1,n+1,t,x,y,u,v,r,hn,h,hx,hy=>by
   simp only [aEq] at h
   split at h
   ·cases h
   ·rename_i T hT
    obtain⟨i,D,z,h1,h2,h3,h4,h5,h6,h7,h8,h9,h10⟩:=eU hT
    split at h
    all_goals rename_i hd
    all_goals try rw [hd] at h4
    all_goals first | (cases h;done) | skip
    all_goals cases D <;> simp only [adOf,reduceCtorEq] at h4
    all_goals simp only [aI] at hx hy
    all_goals try subst hx
    all_goals try subst hy
    case h_1=>cases h;simp [Op.equalIn,aP h2]
    case h_2=>
     split at h
     ·rename_i hk;subst hk;cases h;simp [Op.equalIn,aP h2]
     ·cases h
    case h_3=>
     cases h
     simp [Op.equalIn,aP h2,bytes_beq]
    case h_4=>cases h;simp [Op.equalIn,aP h2]
    case h_5=>obtain⟨b,δ,_,rfl⟩:=hy;cases h;simp [Op.equalIn,aP h2]
    case h_6=>obtain⟨b,δ,_,rfl⟩:=hx;cases h;simp [Op.equalIn,aP h2]
    case h_7=>
     split at h
     ·rename_i hc
      obtain⟨rfl,rfl,hz⟩:=hc
      obtain⟨b,δ,q1,rfl⟩:=hx
      obtain⟨b',wL,q2,rfl⟩:=hy
      rw [q1] at q2;cases q2
      cases h4
      cases h
      obtain⟨j,hi,hj⟩:=zQ hz
      simp only [Op.equalIn,Sem.run_bind,aP h2,Result.andThen_ok,sizeOf,jS hi,Sem.run_pure]
      rw [if_pos hj]
      rw [Fq]
      congr 1
      rw [Bool.eq_iff_iff]
      simp
     ·cases h
    case h_8=>cases h;simp [Op.equalIn,aP h2]
    case h_9=>obtain⟨b,δ,off',c,e,m,_,rfl,_⟩:=hy;cases h;simp [Op.equalIn,aP h2]
    case h_10=>obtain⟨b,δ,off',c,e,m,_,rfl,_⟩:=hx;cases h;simp [Op.equalIn,aP h2]
    case h_11=>cases h;simp [Op.equalIn,aP h2]
    case h_12=>obtain⟨a,c,rfl,_⟩:=hy;cases h;simp [Op.equalIn,aP h2]
    case h_13=>obtain⟨a,c,rfl,_⟩:=hx;cases h;simp [Op.equalIn,aP h2]
    case h_14=>cases h;simp [Op.equalIn,aP h2]
    case h_15=>obtain⟨b,_,rfl⟩:=hy;cases h;simp [Op.equalIn,aP h2]
    case h_16=>obtain⟨b,_,rfl⟩:=hx;cases h;simp [Op.equalIn,aP h2]
    case h_17=>cases h;simp [Op.equalIn,aP h2]
    case h_18=>obtain⟨y,rfl,_⟩:=hy;cases h;simp [Op.equalIn,aP h2]
    case h_19=>obtain⟨y,rfl,_⟩:=hx;cases h;simp [Op.equalIn,aP h2]
    case h_20=>
     obtain⟨a,rfl,ra⟩:=hx
     obtain⟨b,rfl,rb⟩:=hy
     split at h
     ·rename_i ht;subst ht
      split at h
      ·rename_i hc
       rw [Option.any_eq_true] at hc
       obtain⟨T',hT',hcmp⟩:=hc
       obtain⟨i',D',z',k1,k2,k3,k4,k5,k6,k7,k8,k9,k10⟩:=eU hT'
       have ih:=zT d n _ _ _ a b r (by omega) h ra rb
       simp [Op.equalIn,aP h2,jS k1,k8,hcmp,ih]
      ·cases h
     ·rename_i ht
      cases h
      simp [Op.equalIn,aP h2,ht]
    case h_21=>
     obtain⟨a,rfl,ra⟩:=hx
     obtain⟨b,rfl,rb⟩:=hy
     split at h
     ·cases h
     ·rename_i hh
      cases h4
      have hfs:P.underlying t=some (.struct (P.fieldsOf t)):=by unfold Program.fieldsOf;rw [h2]
      rw [run_equalIn_struct w n t a b hfs (by rw [h9];simpa using hh)]
      refine Nu _ _ a b ra rb n (aEq P d) (fun t x y u v r hq hu hv=>zT d n t x y u v r (by omega) hq hu hv) _ r ?_
      have:P.fieldsOf t= ‹Array Field› :=by unfold Program.fieldsOf;rw [h2]
      rw [this]
      exact h
end
end Go.Abs
namespace Go.Abs
section
variable {P:Program} {G:Nat} {Y:Mu} {Z:St} {w:World}
def Gives (P:Program)(Y:Mu)(w:World)(s:Sem Value)(a:AV):Prop:=∃v,s.run P w= .ok v w/\aI Y w a v
def qy (u v:Value):Bool:=match u,v with | .nilIface,.nilIface=>false | .agg _,.agg _=>false | .int _ _,.int _ _=>false | .float _ _,.float _ _=>false | .complex _ _ _,.complex _ _ _=>false | .string _,.string _=>false | _,_=>true
theorem tC {op:BinOp} {t:Nat} {xo yo:Operand} {u v:Value} (h:(match u,v with | .nilIface,.nilIface=>false | .agg _,.agg _=>false | _,_=>true)=true):(eqGuard op t xo yo u v).run P w= .ok () w:=by
 cases op <;> first | rfl | (cases u <;> cases v <;> first | rfl | simp at h)
theorem JR {op:BinOp} {t:Nat} {xo yo:Operand} {u v:Value} (h:qy u v=true):(eqGuard op t xo yo u v).run P w= .ok () w:=
 tC (by cases u <;> cases v <;> first | rfl | exact h)
theorem QF {t:Nat} {u v:Value} {r:Bool} (h:(Op.equalIn 10000 t u v).run P w= .ok r w)(hk:qy u v=true) :
 (binOp .eql t u v).run P w= .ok (.bool r) w/\(binOp .neq t u v).run P w= .ok (.bool (!r)) w:=by
 have h1:binOp .eql t u v=(do pure (.bool (<-Op.equal t u v))):=by cases u <;> cases v <;> first | rfl | (simp [qy] at hk;done)
 have h2:binOp .neq t u v=(do pure (.bool (!(<-Op.equal t u v)))):=by cases u <;> cases v <;> first | rfl | (simp [qy] at hk;done)
 rw [h1,h2]
 simp [Op.equal,Op.maxDepth,h]
theorem Ti {d t:Nat} {x y:AV} {u v:Value} {r:Bool} (h:aEq P (d+1) t x y=some r)(hx:aI Y w x u)(hy:aI Y w y v)
 (h1:¬∃k p k' q,x= .i k p/\y= .i k' q) (h2:¬∃p q,x= .s p/\y= .s q) (h3:¬(x= .ic0/\y= .ic0)) (h4:¬∃cs ds,x= .ag cs/\y= .ag ds):qy u v=true:=by
 simp only [aEq] at h
 split at h
 ·cases h
 ·split at h
  all_goals first | (cases h;done) | skip
  all_goals simp only [aI] at hx hy
  all_goals first
   | (exact absurd ⟨_,_,_,_,rfl,rfl⟩ h1)
   | (exact absurd ⟨_,_,rfl,rfl⟩ h2)
   | (exact absurd ⟨rfl,rfl⟩ h3)
   | (exact absurd ⟨_,_,rfl,rfl⟩ h4)
   | skip
  all_goals try subst hx
  all_goals try subst hy
  all_goals try (obtain⟨_,_,_,rfl⟩:=hx)
  all_goals try (obtain⟨_,_,_,rfl⟩:=hy)
  all_goals try (obtain⟨_,_,_,_,_,_,_,rfl,_⟩:=hx)
  all_goals try (obtain⟨_,_,_,_,_,_,_,rfl,_⟩:=hy)
  all_goals try (obtain⟨_,_,rfl,_⟩:=hx)
  all_goals try (obtain⟨_,_,rfl,_⟩:=hy)
  all_goals try (obtain⟨_,rfl,_⟩:=hx)
  all_goals try (obtain⟨_,rfl,_⟩:=hy)
  all_goals try (obtain⟨_,_,rfl⟩:=hx)
  all_goals try (obtain⟨_,_,rfl⟩:=hy)
  all_goals rfl
set_option maxHeartbeats 1000000 in
theorem Xx {op:BinOp} {t:Nat} {x y a:AV} {c:Bool} {u v:Value} {xo yo:Operand} (h:aBin P op t x y c=some a)(hx:aI Y w x u)(hy:aI Y w y v)
 (hc:c=true->x= .ic0->y= .ic0->((xo matches .const _) || (yo matches .const _))=true) :
 Gives P Y w (do eqGuard op t xo yo u v;binOp op t u v) a:=by
 by_cases hi:∃k p k' q,x= .i k p/\y= .i k' q
 ·obtain⟨k,p,k',q,rfl,rfl⟩:=hi
  simp only [aI] at hx hy;subst hx;subst hy
  obtain⟨r,h1,h2⟩:=Xv (Y:=Y) (w:=w) h
  exact⟨r,by simp [tC,h1],h2⟩
 by_cases hs:∃p q,x= .s p/\y= .s q
 ·obtain⟨p,q,rfl,rfl⟩:=hs
  simp only [aI] at hx hy;subst hx;subst hy
  obtain⟨r,h1,h2⟩:=Xw (Y:=Y) (w:=w) h
  exact⟨r,by simp [tC,h1],h2⟩
 have key:(op= .eql\/op= .neq)/\((x= .ic0/\y= .ic0->c=true))/\(∀cs ds,x= .ag cs->y= .ag ds->((tyOf P t).any (·.guarded))=false)/\∃r,aEq P 20 t x y=some r/\a= .b (if op= .eql then r else !r):=by
  unfold aBin at h
  split at h
  ·exact absurd ⟨_,_,_,_,rfl,rfl⟩ hi
  ·exact absurd ⟨_,_,_,_,rfl,rfl⟩ hi
  ·exact absurd ⟨_,_,_,_,rfl,rfl⟩ hi
  ·exact absurd ⟨_,_,rfl,rfl⟩ hs
  ·split at h
   ·rw [iU] at h
    obtain⟨r,k1,rfl⟩:=h
    exact⟨.inl rfl,fun _=>‹_›,fun _ _ h _=>(by cases h),r,k1,rfl⟩
   ·cases h
  ·split at h
   ·rw [iU] at h
    obtain⟨r,k1,rfl⟩:=h
    exact⟨.inr rfl,fun _=>‹_›,fun _ _ h _=>(by cases h),r,k1,rfl⟩
   ·cases h
  ·split at h
   ·cases h
   ·rename_i hg
    rw [iU] at h
    obtain⟨r,h1,rfl⟩:=h
    exact⟨.inl rfl,fun hh=>(by cases hh.1),fun _ _ _ _=>(by simpa using hg),r,h1,rfl⟩
  ·split at h
   ·cases h
   ·rename_i hg
    rw [iU] at h
    obtain⟨r,h1,rfl⟩:=h
    exact⟨.inr rfl,fun hh=>(by cases hh.1),fun _ _ _ _=>(by simpa using hg),r,h1,rfl⟩
  ·rw [iU] at h
   obtain⟨r,k1,rfl⟩:=h
   refine⟨.inl rfl,fun hh=>?_,fun cs ds hx hy=>?_,r,k1,rfl⟩ <;> simp_all
  ·rw [iU] at h
   obtain⟨r,k1,rfl⟩:=h
   refine⟨.inr rfl,fun hh=>?_,fun cs ds hx hy=>?_,r,k1,rfl⟩ <;> simp_all
  ·cases h
 clear h
 obtain⟨hop,hk,hg,r,hr,rfl⟩:=key
 have heq:=zT (P:=P) (w:=w) (Y:=Y) 20 10000 t x y u v r (by decide) hr hx hy
 have hgd:(eqGuard op t xo yo u v).run P w= .ok () w/\(binOp .eql t u v).run P w= .ok (.bool r) w/\(binOp .neq t u v).run P w= .ok (.bool (!r)) w:=by
  by_cases h3:x= .ic0/\y= .ic0
  ·obtain⟨rfl,rfl⟩:=h3
   simp only [aI] at hx hy;subst hx;subst hy
   have hcst:=hc (hk ⟨rfl,rfl⟩) rfl rfl
   refine⟨?_,by simp [binOp,Op.equal,Op.maxDepth,heq],by simp [binOp,Op.equal,Op.maxDepth,heq]⟩
   rcases hop with rfl | rfl <;> (cases xo <;> cases yo <;> first | rfl | (simp at hcst;done))
  ·by_cases h4:∃cs ds,x= .ag cs/\y= .ag ds
   ·obtain⟨cs,ds,rfl,rfl⟩:=h4
    obtain⟨a,rfl,_⟩:=hx
    obtain⟨b,rfl,_⟩:=hy
    have hg':=hg cs ds rfl rfl
    have hT:∃T,tyOf P t=some T:=by
     simp only [aEq] at hr
     split at hr
     ·cases hr
     ·exact⟨_,‹_›⟩
    obtain⟨T,hT⟩:=hT
    rw [hT] at hg'
    obtain⟨i,D,z,k1,k2,k3,k4,k5,k6,k7,k8,k9,k10⟩:=eU hT
    refine⟨run_eqGuard_agg w op t xo yo a b (by rw [k10];simpa using hg'),?_,?_⟩
    ·rw [run_eql_struct w t a b,heq];rfl
    ·rw [run_neq_struct w t a b,heq];rfl
   ·have hp:=Ti (P:=P) (d:=19) hr hx hy hi hs h3 h4
    exact⟨JR hp,QF heq hp⟩
 obtain⟨g1,g2,g3⟩:=hgd
 rcases hop with rfl | rfl
 ·exact⟨.bool r,by simp [g1,g2],rfl⟩
 ·exact⟨.bool (!r),by simp [g1,g3],rfl⟩
end
end Go.Abs
namespace Go.Abs
section
variable {P:Program} {G:Nat} {Y:Mu} {Z:St} {w:World}
theorem un_rel {op:UnOp} {x a:AV} {u:Value} (h:aUn op x=some a)(hx:aI Y w x u):Gives P Y w (Op.unary op u) a:=by
 unfold aUn at h
 split at h
 ·cases h;simp only [aI] at hx;subst hx;exact⟨_,by simp [Op.unary,Op.intArith],rfl⟩
 ·simp only [aI] at hx;subst hx
  obtain⟨v,h1,h2⟩:=JQ (P:=P) (Y:=Y) (w:=w) h
  exact⟨v,by simpa [Op.unary] using h1,h2⟩
 ·cases h;simp only [aI] at hx;subst hx;exact⟨_,by simp [Op.unary],rfl⟩
 ·cases h
theorem gJ {t e:Nat} {T:AT} (h:tyOf P t=some T)(hd:T.d= .slice e):P.underlying t=some (.slice e):=by
 obtain⟨i,d,z,h1,h2,h3,h4,_⟩:=eU h
 rw [hd] at h4
 cases d <;> simp only [adOf,reduceCtorEq,AD.slice.injEq] at h4
 rw [h2,h4]
theorem lY {t:Nat} {T:AT} (h:tyOf P t=some T)(hd:T.d= .str):P.underlying t=some .string:=by
 obtain⟨i,d,z,h1,h2,h3,h4,_⟩:=eU h
 rw [hd] at h4
 cases d <;> simp only [adOf,reduceCtorEq] at h4
 rw [h2]
theorem Cj {t:Nat} {k:IntKind} {T:AT} (h:tyOf P t=some T)(hd:T.d= .int k):P.underlying t=some (.int k):=by
 obtain⟨i,d,z,h1,h2,h3,h4,_⟩:=eU h
 rw [hd] at h4
 cases d <;> simp only [adOf,reduceCtorEq,AD.int.injEq] at h4
 rw [h2,h4]
theorem yu {t n e:Nat} {T:AT} (h:tyOf P t=some T)(hd:T.d= .arr n e):P.underlying t=some (.array n e):=by
 obtain⟨i,d,z,h1,h2,h3,h4,_⟩:=eU h
 rw [hd] at h4
 cases d <;> simp only [adOf,reduceCtorEq,AD.arr.injEq] at h4
 rw [h2,h4.1,h4.2]
theorem Ii {t:Nat} {fs:List (Nat×Nat×Bool)} {T:AT} (h:tyOf P t=some T)(hd:T.d= .st fs):∃Fs:Array Field,P.underlying t=some (.struct Fs)/\fs=Fs.toList.map fun f=>(f.offset,f.type,f.name == "_"):=by
 obtain⟨i,d,z,h1,h2,h3,h4,_⟩:=eU h
 rw [hd] at h4
 cases d <;> simp only [adOf,reduceCtorEq,AD.st.injEq] at h4
 exact⟨_,h2,h4.symm⟩
theorem Xy {t ty:Nat} {x a:AV} {u:Value} (h:aLen P t x=some a)(hx:aI Y w x u):Gives P Y w (Builtin.len_ #[t] ty #[u]) a:=by
 unfold aLen at h
 split at h
 ·cases h;simp only [aI] at hx;subst hx
  exact⟨.int .i64 _,by simp [Builtin.len_,aP (lY ‹_› rfl),goInt];rfl,by simp [aI,ByteArray.size]⟩
 ·cases h;exact⟨_,by simp [Builtin.len_,aP (yu ‹_› rfl),goInt],rfl⟩
 ·cases h;simp only [aI] at hx;subst hx
  exact⟨_,by simp [Builtin.len_,aP (gJ ‹_› rfl),goInt],rfl⟩
 ·cases h;obtain⟨b,δ,off',c,e,m,_,rfl,_⟩:=hx
  exact⟨_,by simp [Builtin.len_,aP (gJ ‹_› rfl),goInt],rfl⟩
 ·cases h
theorem size_mk (l:List UInt8):(⟨l.toArray⟩:ByteArray).size=l.length:=by simp [ByteArray.size]
theorem Xz {t:Nat} {x i a:AV} {u v:Value} (h:aIdx P t x i=some a)(hx:aI Y w x u)(hi:aI Y w i v):Gives P Y w (Instr.index t u v) a:=by
 unfold aIdx at h
 split at h
 ·rename_i n e _ _ _ _ _ _ cs k j hT
  simp only [aI] at hi;subst hi
  obtain⟨cs,rfl,hr⟩:=hx
  split at h
  ·rename_i hj
   rw [Option.bind_eq_some_iff] at h
   obtain⟨E,hE,hp⟩:=h
   obtain⟨r,q1,q2⟩:=sZ hE hr hp
   exact⟨r,by simp [Instr.index,asIntOf,aP (yu hT rfl),hj,mG hE,q1],q2⟩
  ·cases h
 ·rename_i x k j hT
  simp only [aI] at hx hi;subst hx;subst hi
  split at h
  ·rename_i hj
   rw [iU] at h
   obtain⟨b,hb,rfl⟩:=h
   refine⟨.int .u8 b.toNat,?_,rfl⟩
   have:(⟨x.toArray⟩:ByteArray)[j.toNat]? =some b:=by
        have hlt:j.toNat<x.length:=eP hb
        have hlt':j.toNat<(⟨x.toArray⟩:ByteArray).size:=by rw [size_mk];exact hlt
        rw [getElem?_pos (⟨x.toArray⟩:ByteArray) j.toNat hlt']
        rw [sN hlt] at hb
        cases hb
        rfl
   simp [Instr.index,asIntOf,aP (lY hT rfl),hj,this]
  ·cases h
 ·cases h
theorem XA {t:Nat} {x a:AV} {u:Value} {f:Nat} (h:aFad P t x f=some a)(hx:aI Y w x u):Gives P Y w (Instr.fieldAt t u f) a:=by
 unfold aFad at h
 split at h
 ·rename_i hT
  obtain⟨Fs,h2,h4⟩:=Ii hT rfl
  rw [Option.bind_eq_some_iff] at h
  obtain⟨r,hr,h⟩:=h
  rw [h4,List.getElem?_map,iU] at hr
  obtain⟨F,hF,rfl⟩:=hr
  split at h
  ·rename_i hz
   cases h
   obtain⟨b,δ,hb,rfl⟩:=hx
   obtain⟨j,hi,hj⟩:=zQ hz
   refine⟨_,?_,b,δ,hb,rfl⟩
   have hF':Fs[f]? =some F:=by simpa using hF
   simp [Instr.fieldAt,aP h2,hF',Instr.sureAddr,fieldPlace,sizeOf,jS hi,hj,Addr.kQ,Nat.add_assoc]
  ·cases h
 ·cases h
theorem XC {t:Nat} {x a:AV} {u:Value} {f:Nat} (h:aFld P t x f=some a)(hx:aI Y w x u):Gives P Y w (Instr.field t u f) a:=by
 unfold aFld at h
 split at h
 ·rename_i hT
  obtain⟨Fs,h2,h4⟩:=Ii hT rfl
  rw [Option.bind_eq_some_iff] at h
  obtain⟨r,hr,h⟩:=h
  rw [h4,List.getElem?_map,iU] at hr
  obtain⟨F,hF,rfl⟩:=hr
  rw [Option.bind_eq_some_iff] at h
  obtain⟨T',hT',hp⟩:=h
  obtain⟨cs,rfl,hr⟩:=hx
  obtain⟨v,q1,q2⟩:=sZ hT' hr hp
  have hF':Fs[f]? =some F:=by simpa using hF
  exact⟨v,by simp [Instr.field,aP h2,hF',asAgg,q1],q2⟩
 ·cases h
theorem jH {e z:Nat} (h:P.cellsOf e=z)(hz:0<z):(sizeOf e).run P w= .ok z w:=by
 obtain⟨j,hi,hj⟩:=zQ (P:=P) (e:=e) (by omega)
 have:j.size=z:=by rw [<-h];simp [Program.cellsOf,hi]
 simp [sizeOf,jS hi,this]
theorem XD {t:Nat} {x i a:AV} {u v:Value} (h:aIad P t x i=some a)(hx:aI Y w x u)(hi:aI Y w i v):Gives P Y w (Instr.indexAt t u v) a:=by
 unfold aIad at h
 split at h
 ·rename_i n e _ _ _ _ _ _ o g off k j hT
  simp only [aI] at hi;subst hi
  obtain⟨b,δ,hb,rfl⟩:=hx
  split at h
  ·rename_i hj
   cases h
   obtain⟨hz,hj⟩:=hj
   have hs:=jH (w:=w) (P:=P) (e:=e) rfl hz
   refine⟨_,?_,b,δ,hb,rfl⟩
   simp [Instr.indexAt,asIntOf,aP (yu hT rfl),Instr.sureAddr,hj,hs,Addr.kQ,Nat.add_assoc]
  ·cases h
 ·rename_i e _ _ _ _ _ _ o g off n z k j hT
  simp only [aI] at hi;subst hi
  obtain⟨b,δ,off',c,e',m,hb,rfl,hn,ho,_⟩:=hx
  split at h
  ·rename_i hj
   cases h
   obtain⟨hz,hz0,hj1,hj2⟩:=hj
   have hs:=jH (w:=w) (P:=P) (e:=e) hz hz0
   have ho':off'= δ+off:=by
        rcases ho with ho | ⟨h0,_⟩
        ·exact ho
        ·omega
   subst ho'
   refine⟨_,?_,b,δ,hb,rfl⟩
   have hu:=gJ hT rfl
   simp [Instr.indexAt,asIntOf,aP hu,hj1,hj2,hs,Addr.kQ,Nat.add_assoc]
  ·cases h
 ·cases h
def O7:Value->Bool
 | .pointer none | .nilIface | .nilFunc=>false
 | .func (.method _) _ _=>false
 | _=>true
theorem XE {x a:AV} {u:Value} (h:aNil x=some a)(hx:aI Y w x u):aI Y w a u/\O7 u=true:=by
 unfold aNil at h
 split at h
 ·cases h;refine⟨hx,?_⟩;obtain⟨b,δ,_,rfl⟩:=hx;rfl
 ·cases h;refine⟨hx,?_⟩;obtain⟨a,c,rfl,_⟩:=hx;rfl
 ·cases h;refine⟨hx,?_⟩;obtain⟨y,rfl,_⟩:=hx;rfl
 ·cases h
def qj (Y:Mu)(w:World):Option AV->Option Value->Prop
 | none,none=>True
 | some a,some v=>aI Y w a v
 | _,_=>False
theorem qW {isS:Bool} {n m:Nat} {lo hi:Option AV} {clo chi:Option Value} {l h:Nat} {C:Nat} (hb:aBounds n m lo hi=some (l,h))(hC:m<=C)
 (hlo:qj Y w lo clo) (hhi:qj Y w hi chi) :
 (Instr.sliceBounds isS n C clo chi none).run P w= .ok (l,h,C) w/\l<=h/\(h<=m\/h=n):=by
 unfold aBounds at hb
 rw [Option.bind_eq_some_iff] at hb
 obtain⟨h',hh',hb⟩:=hb
 have hH:(∃v,chi=some v/\∀code,(Instr.sliceBound v C code).run P w= .ok h' w/\h'<=m)\/(chi=none/\h'= n):=by
  cases hi with
  | none=>
    cases chi with
    | none=>simp [aHi] at hh';exact .inr ⟨rfl,hh'.symm⟩
    | some v=>exact hhi.elim
  | some a=>
    cases chi with
    | none=>exact hhi.elim
    | some v=>
      refine .inl ⟨v,rfl,fun code=>?_⟩
      cases a <;> simp only [aHi,reduceCtorEq] at hh'
      rename_i k j
      simp only [qj,aI] at hhi;subst hhi
      split at hh'
      ·rename_i hj
       cases hh'
       have hj':0<=j/\j<=(C:Int):=by omega
       exact⟨by simp [Instr.sliceBound,asIntOf,hj'],by omega⟩
      ·cases hh'
 have hL:((∃v,clo=some v/\∀code,(Instr.sliceBound v h' code).run P w= .ok l w)\/(clo=none/\l=0))/\l<=h'/\h=h':=by
  cases lo with
  | none=>
    cases clo with
    | none=>simp [aLo] at hb;exact⟨.inr ⟨rfl,hb.1.symm⟩,by omega,hb.2.symm⟩
    | some v=>exact hlo.elim
  | some a=>
    cases clo with
    | none=>exact hlo.elim
    | some v=>
      cases a <;> simp only [aLo,reduceCtorEq] at hb
      rename_i k j
      simp only [qj,aI] at hlo;subst hlo
      split at hb
      ·rename_i hj
       simp only [oW,Prod.mk.injEq] at hb
       obtain⟨rfl,rfl⟩:=hb
       exact⟨.inl ⟨_,rfl,fun code=>by simp [Instr.sliceBound,asIntOf,hj]⟩,by omega,rfl⟩
      ·cases hb
 obtain⟨hL1,hL2,rfl⟩:=hL
 refine⟨?_,hL2,?_⟩
 ·unfold Instr.sliceBounds
  rcases hH with ⟨v,rfl,hv⟩ | ⟨rfl,rfl⟩
  ·have hv':=fun c=>(hv c).1
   rcases hL1 with ⟨u,rfl,hu⟩ | ⟨rfl,rfl⟩
   ·simp [hv',hu]
   ·simp [hv']
  ·rcases hL1 with ⟨u,rfl,hu⟩ | ⟨rfl,rfl⟩
   ·simp [hu]
   ·simp
 ·rcases hH with ⟨v,rfl,hv⟩ | ⟨rfl,rfl⟩
  ·exact .inl (hv .sliceB).2
  ·exact .inr rfl
theorem Bf (x:List UInt8)(l h:Nat):(⟨x.toArray⟩:ByteArray).extract l h=⟨((x.drop l).take (h - l)).toArray⟩:=by
 apply ByteArray.ext
 simp
theorem XF {t:Nat} {x a hi mx:AV} {lo:Option AV} {u ch cm:Value} {clo:Option Value} (hs:g_ G Y Z w)(h:aSl3 P t x lo hi mx=some a)(hx:aI Y w x u)(hlo:qj Y w lo clo)(hhi:aI Y w hi ch)(hmx:aI Y w mx cm) :
 Gives P Y w (Instr.sliceAt t u clo (some ch) (some cm)) a:=by
 unfold aSl3 at h
 split at h
 ·rename_i e _ _ _ _ _ _ o g off n z kh hh km mm ll hT hl
  split at h
  ·rename_i hc
   obtain⟨hz1,hz0,hc1,hc2,hc3,hc4⟩:=hc
   cases h
   have hu:=gJ hT rfl
   obtain⟨b,δ,off',c,e',m,hb0,rfl,hn,ho,hsh,hm⟩:=hx
   simp only [aI] at hhi hmx
   subst hhi;subst hmx
   have hsz:=jH (w:=w) (P:=P) (e:=e) hz1 hz0
   obtain⟨l,rfl⟩:=Int.eq_ofNat_of_zero_le hc1
   obtain⟨h,rfl⟩:=Int.eq_ofNat_of_zero_le (a:=hh) (by omega)
   obtain⟨m',rfl⟩:=Int.eq_ofNat_of_zero_le (a:=mm) (by omega)
   have hmc:m'<=c:=by omega
   have hlm:l<=m':=by omega
   have hlow:∀code,(match clo with
    | some v=>Instr.sliceBound v h code
    | none=>pure 0:Sem Nat).run P w= .ok l w:=by
        intro code
        cases lo with
        | none=>
          cases clo with
          | none=>
            simp only [lowOf,oW] at hl
            have:l=0:=by omega
            subst this
            simp
          | some v=>exact hlo.elim
        | some y=>
          cases clo with
          | none=>exact hlo.elim
          | some v=>
            cases y <;> simp only [lowOf,oW,reduceCtorEq] at hl
            simp only [qj,aI] at hlo
            subst hlo
            subst hl
            have:(l:Int)<=(h:Int):=hc2
            simp [Instr.sliceBound,asIntOf,this]
   have hb:(Instr.sliceBounds true n c clo (some (.int kh (h:Int))) (some (.int km (m':Int)))).run P w= .ok (l,h,m') w:=by
        unfold Instr.sliceBounds
        have h1:∀code,(Instr.sliceBound (.int km (m':Int)) c code).run P w= .ok m' w:=fun code=>by
         have:(m':Int)<=(c:Int):=by omega
         simp [Instr.sliceBound,asIntOf,this]
        have h2:∀code,(Instr.sliceBound (.int kh (h:Int)) m' code).run P w= .ok h w:=fun code=>by
         have:(h:Int)<=(m':Int):=hc3
         simp [Instr.sliceBound,asIntOf,this]
        cases clo with
        | none=>
          have h3:=hlow .slice3C
          simp only [Sem.run_pure,Result.ok.injEq,and_true] at h3
          simp [h1,h2,<-h3]
        | some v=>
          have h3:∀code,(Instr.sliceBound v h code).run P w= .ok l w:=hlow
          simp [h1,h2,h3]
   refine⟨.slice (some ⟨b,(if m'= l then off' else off'+ l*z),none⟩) (h - l) (m' - l),?_,b,δ,_,m' - l,e',m,hb0,rfl,by omega,?_,hsh,?_⟩
   ·simp only [Instr.sliceAt,Sem.run_bind,aP hu,Result.andThen_ok,Instr.slice,hb,hsz,Sem.run_pure,Option.map_some,Addr.kQ]
    by_cases hcl:m'= l <;> simp [hcl]
   ·by_cases hcl:m'= l
    ·right;simp only [Int.toNat_natCast] at *;omega
    ·rw [if_neg hcl]
     rcases ho with ho | ho
     ·left;rw [ho];show δ+off+l*z=δ+(off+(Int.ofNat l).toNat*z);simp;omega
     ·omega
   ·by_cases hcl:m'= l
    ·rw [if_pos hcl,hcl,Nat.sub_self,Nat.zero_mul]
     have:0<=c*z:=Nat.zero_le _
     omega
    ·rw [if_neg hcl]
     have h1:l*z+(m' - l)*z=m'* z:=by rw [<-Nat.add_mul];congr 1;omega
     have h2:m'* z<=c*z:=Nat.mul_le_mul_right _ hmc
     omega
  ·cases h
 ·cases h
theorem XG {t:Nat} {x a:AV} {lo hi:Option AV} {u:Value} {clo chi:Option Value} (hs:g_ G Y Z w)(h:aSlc P t x lo hi Z=some a)(hx:aI Y w x u)(hlo:qj Y w lo clo)(hhi:qj Y w hi chi) :
 Gives P Y w (Instr.sliceAt t u clo chi none) a:=by
 unfold aSlc at h
 split at h
 ·cases h
 ·rename_i T hT
  split at h
  ·rename_i x hd
   have hu:=lY hT hd
   simp only [aI] at hx;subst hx
   rw [iU] at h
   obtain⟨⟨l,h'⟩,hb,rfl⟩:=h
   obtain⟨h1,h2,h3⟩:=qW (P:=P) (isS:=false) (C:=x.length) hb (Nat.le_refl _) hlo hhi
   have hsz:=size_mk x
   exact⟨.string ⟨((x.drop l).take (h' - l)).toArray⟩,by simp only [Instr.sliceAt,Sem.run_bind,aP hu,Result.andThen_ok,Instr.slice,hsz,Option.isSome_none,nR,if_false,Sem.run_pure,h1,Bf],rfl⟩
  ·rename_i e hd
   have hu:=gJ hT hd
   simp only [aI] at hx;subst hx
   split at h
   ·rename_i hz
    rw [iU] at h
    obtain⟨⟨l,h'⟩,hb,rfl⟩:=h
    obtain⟨h1,h2,h3⟩:=qW (P:=P) (isS:=true) (C:=0) hb (Nat.le_refl _) hlo hhi
    have h0:h'= 0:=by omega
    have l0:l=0:=by omega
    subst h0;subst l0
    have hsz:=jH (w:=w) (P:=P) (e:=e) rfl hz
    exact⟨_,by simp only [Instr.sliceAt,Sem.run_bind,aP hu,Result.andThen_ok,Instr.slice,h1,hsz,Sem.run_pure];rfl,rfl⟩
   ·cases h
  ·rename_i e o g off n z hd
   have hu:=gJ hT hd
   obtain⟨b,δ,off',c,e',m,hb0,rfl,hn,ho,hsh,hm⟩:=hx
   split at h
   ·rename_i hz
    rw [iU] at h
    obtain⟨⟨l,h'⟩,hb,rfl⟩:=h
    obtain⟨h1,h2,h3⟩:=qW (P:=P) (isS:=true) (C:=c) hb hn hlo hhi
    have hsz:=jH (w:=w) (P:=P) (e:=e) hz.1 hz.2
    have hh:h'<=n:=by omega
    refine⟨.slice (some ⟨b,(if c=l then off' else off'+ l*z),none⟩) (h' - l) (c - l),?_,b,δ,_,c - l,e',m,hb0,rfl,by omega,?_,hsh,?_⟩
    ·simp only [Instr.sliceAt,Sem.run_bind,aP hu,Result.andThen_ok,Instr.slice,h1,hsz,Sem.run_pure,Option.map_some,Addr.kQ]
     by_cases hc:c=l <;> simp [hc]
    ·by_cases hc:c=l
     ·right;omega
     ·rw [if_neg hc]
      rcases ho with ho | ho
      ·left;rw [ho];show δ+off+l*z=δ+(off+l*z);omega
      ·omega
    ·by_cases hc:c=l
     ·rw [if_pos hc,hc,Nat.sub_self,Nat.zero_mul]
      have:0<=c*z:=Nat.zero_le _
      omega
     ·rw [if_neg hc]
      have:l*z+(c - l)*z=c*z:=by rw [<-Nat.add_mul];congr 1;omega
      omega
   ·cases h
  ·rename_i n e o g off hd
   have hu:=yu hT hd
   obtain⟨b,δ,hb0,rfl⟩:=hx
   split at h
   ·rename_i hz
    rw [Option.bind_eq_some_iff] at h
    obtain⟨cs,hcs,h⟩:=h
    split at h
    ·rename_i hle
     rw [iU] at h
     obtain⟨⟨l,h'⟩,hb,rfl⟩:=h
     obtain⟨h1,h2,h3⟩:=qW (P:=P) (isS:=false) (C:=n) hb (Nat.le_refl _) hlo hhi
     have hsz:=jH (w:=w) (P:=P) (e:=e) rfl hz
     obtain⟨ro,e',hobj⟩:=tq hcs
     obtain⟨dB,fr,q1,q2,_⟩:=hs.cells hobj hb0
     have hh:h'<=n:=by omega
     generalize P.cellsOf e=z at *
     refine⟨.slice (some ⟨b,(if n=l then δ+off else δ+off+l*z),none⟩) (h' - l) (n - l),?_,b,δ,_,n - l,e',dB.size,hb0,rfl,by omega,?_,by simp [World.shape?,q1],?_⟩
     ·simp only [Instr.sliceAt,Sem.run_bind,aP hu,Result.andThen_ok,Instr.sureAddr,h1,hsz,Sem.run_pure,Addr.kQ]
      by_cases hc:n=l <;> simp [hc]
     ·by_cases hc:n=l
      ·right;omega
      ·rw [if_neg hc];left;show δ+off+l*z=δ+(off+l*z);omega
     ·by_cases hc:n=l
      ·rw [if_pos hc,hc,Nat.sub_self,Nat.zero_mul]
       have:0<=n*z:=Nat.zero_le _
       omega
      ·rw [if_neg hc]
       have:l*z+(n - l)*z=n*z:=by rw [<-Nat.add_mul];congr 1;omega
       omega
    ·cases h
   ·cases h
  ·cases h
theorem XH {x a:AV} {u:Value} {xt t:Nat} {ok:Bool} (h:aTas P x t ok=some a)(hx:aI Y w x u):Gives P Y w (Instr.typeAssert u xt t ok) a:=by
 unfold aTas at h
 split at h
 ·rename_i T hT
  obtain⟨i,d,z,h1,h2,h3,h4,_⟩:=eU hT
  obtain⟨zv,hz,hzv⟩:=Dk (w:=w) hT
  have Tj:aI Y w T.zero zv:=by rw [<-hzv];exact yh zv
  split at h
  ·rename_i m0 t' v hT0
   obtain⟨y,rfl,hy⟩:=hx
   have hI:∃want,P.underlying t=some (.interface want)/\∀j,hasAll P t' t=some j->∃i',P.info? t'= some i'/\(lacking want i'.methods).isEmpty=j:=by
        cases d <;> first | (rw [hT0] at h4;cases h4;done) | skip
        rename_i want
        refine⟨want,h2,fun j hj=>?_⟩
        unfold hasAll at hj
        rw [h2] at hj
        split at hj
        ·rename_i w1 i1 e1 e2
         cases e1
         exact⟨i1,e2,Option.some.inj hj⟩
        ·cases hj
   obtain⟨want,hw1,hw2⟩:=hI
   split at h
   ·rename_i hh
    obtain⟨i',q1,q2⟩:=hw2 _ hh
    cases h
    cases ok with
    | true=>exact⟨_,run_typeAssert_has hw1 q1 (List.isEmpty_iff.1 q2),_,rfl,.iface t' y,_,rfl,⟨y,rfl,hy⟩,.bool true,[],rfl,rfl,rfl⟩
    | false=>
      refine⟨.iface t' y,?_,y,rfl,hy⟩
      simp [Instr.typeAssert,run_underlying hw1,typeInfo,q1,missingMethod_none (List.isEmpty_iff.1 q2)]
   ·rename_i hh
    obtain⟨i',q1,q2⟩:=hw2 _ hh
    split at h
    ·rename_i hok
     cases h
     subst hok
     have hne:lacking want i'.methods≠[]:=fun e=>by rw [e] at q2;cases q2
     have hzz:z=zv:=by
            have he:(zeroValue t).run P w= .ok z w:=by simp [zeroValue,jS h1,h3]
            rw [he] at hz;cases hz;rfl
     subst hzz
     exact⟨_,run_typeAssert_lacks hw1 q1 h1 h3 hne,_,rfl,_,_,rfl,Tj,.bool false,[],rfl,rfl,rfl⟩
    ·cases h
   ·cases h
  ·rename_i m0 hT0
   simp only [aI] at hx;subst hx
   split at h
   ·rename_i hok
    cases h
    refine⟨.tuple #[zv,.bool false],?_,_,rfl,?_⟩
    ·unfold Instr.typeAssert
     cases d <;> first | (rw [hT0] at h4;cases h4;done) | simp [aP h2,hok,hz]
    ·exact⟨zv,_,rfl,Tj,.bool false,[],rfl,rfl,rfl⟩
   ·cases h
  ·cases h
  ·rename_i hni
   simp only [aI] at hx;subst hx
   split at h
   ·rename_i hok
    cases h
    refine⟨.tuple #[zv,.bool false],?_,_,rfl,?_⟩
    ·unfold Instr.typeAssert
     cases d <;> first | (exact absurd h4.symm (by intro h;exact hni _ h)) | simp [aP h2,hok,hz]
    ·exact⟨zv,_,rfl,Tj,.bool false,[],rfl,rfl,rfl⟩
   ·cases h
  ·rename_i t' v hni
   obtain⟨y,rfl,hy⟩:=hx
   split at h
   ·rename_i htt
    subst htt
    cases h
    cases ok with
    | true=>
      refine⟨.tuple #[y,.bool true],?_,_,rfl,y,_,rfl,hy,.bool true,[],rfl,rfl,rfl⟩
      unfold Instr.typeAssert
      cases d <;> first | (exact absurd h4.symm (by intro h;exact hni _ h)) | simp [aP h2]
    | false=>
      refine⟨y,?_,hy⟩
      unfold Instr.typeAssert
      cases d <;> first | (exact absurd h4.symm (by intro h;exact hni _ h)) | simp [aP h2]
   ·rename_i htt
    split at h
    ·rename_i hok
     cases h
     refine⟨.tuple #[zv,.bool false],?_,_,rfl,zv,_,rfl,Tj,.bool false,[],rfl,rfl,rfl⟩
     unfold Instr.typeAssert
     cases d <;> first | (exact absurd h4.symm (by intro h;exact hni _ h)) | simp [aP h2,hok,hz,htt]
    ·cases h
  ·cases h
 ·cases h
end
end Go.Abs
namespace Go.Abs
section
variable {P:Program} {G:Nat} {Y:Mu} {Z:St} {w:World}
def xw (P:Program)(G:Nat)(Y:Mu)(Z:St)(w:World)(s:Sem Value)(a:AV)(Z':St):Prop:=
 ∃ v w' Y',s.run P w= .ok v w'/\aI Y' w' a v/\Step G Y Z w Y' Z' w'
theorem Gives.acts {s:Sem Value} {a:AV} (hs:g_ G Y Z w)(h:Gives P Y w s a):xw P G Y Z w s a Z:=by
 obtain⟨v,h1,h2⟩:=h
 exact⟨v,w,Y,h1,h2,Step.refl hs⟩
theorem Nv {z:Value} {T:AT} (hz:avOf z=T.zero)(hl:T.zero.cells.length=z.cells.size):aJ Y w T.zero.cells z.cells.toList:=by
 have h:=yh (Y:=Y) (w:=w) z
 rw [hz] at h
 cases hT:T.zero with
 | ag cs=>rw [hT] at h;obtain⟨a,rfl,h2⟩:=h;exact h2
 | _=>
   rw [hT] at h hl
   simp only [AV.cells,bg,bZ] at hl ⊢
   have hag:∀cs,z≠.agg cs:=by
    intro cs he;subst he
    simp [avOf,hT] at hz
   have hc:z.cells= #[z]:=by cases z <;> first | rfl | exact absurd rfl (hag _)
   rw [hc]
   exact⟨z,[],rfl,h,rfl⟩
theorem Dn (z:Value):(avOf z).cells.length=z.cells.size:=by
 cases z with
 | agg cs=>simp [avOf,AV.cells,Value.cells]
 | _=>simp only [avOf,avOf1];(try split) <;> rfl
theorem yw {z:Value} {T:AT} (hz:avOf z=T.zero):aJ Y w T.zero.cells z.cells.toList:=Nv hz (by rw [<-hz];exact Dn z)
theorem QG {t:Nat} {T:AT} (hs:g_ G Y Z w)(hT:tyOf P t=some T):xw P G Y Z w (Instr.alloc t true (.tuple #[])) (.p Z.length 0 0) (newCells t T.zero.cells Z):=by
 obtain⟨z,h1,h2⟩:=Dk (w:=w) hT
 refine⟨.pointer (some ⟨w.heap.size,0,none⟩),_,_,?_,⟨w.heap.size,0,Mu.dG _ _ _ _,rfl⟩,Step.row hs t _ z.cells (yw h2)⟩
 simp [Instr.alloc,h1,newVar,newRow]
theorem XI {t:Nat} {a:AV} {v:Value} (hs:g_ G Y Z w)(ha:aI Y w a v)(hc:a.one=true\/∃cs,a= .ag cs):xw P G Y Z w (Instr.box t v) (.p Z.length 0 0) (newCells t a.cells Z):=by
 refine⟨.pointer (some ⟨w.heap.size,0,none⟩),_,_,?_,⟨w.heap.size,0,Mu.dG _ _ _ _,rfl⟩,Step.row hs t _ v.cells (ha.cells hc)⟩
 simp [Instr.box,newVar,newRow]
theorem Tm {t:Nat} {x a:AV} {u:Value} (hs:g_ G Y Z w)(h:aLoad (tyOf P t) x Z=some a)(hx:aI Y w x u):Gives P Y w (Instr.loadAt t u) a:=by
 unfold aLoad at h
 split at h
 ·rename_i T o g off hT
  rw [Option.bind_eq_some_iff] at h
  obtain⟨cs,hc,hp⟩:=h
  obtain⟨b,δ,hb,rfl⟩:=hx
  obtain⟨v,h1,h2⟩:=Bc hT hs hc hp hb
  exact⟨v,by simp [Instr.loadAt,Instr.sureAddr,h1],h2⟩
 ·cases h
theorem QH {t:Nat} {x y:AV} {u v:Value} {Z':St} (hs:g_ G Y Z w)(h:aStore (tyOf P t) x y Z=some Z')(hx:aI Y w x u)(hy:aI Y w y v) :
 ∃ w',(Instr.storeAt t u v).run P w= .ok () w'/\Step G Y Z w Y Z' w':=by
 unfold aStore at h
 split at h
 ·rename_i T o g off hT
  split at h
  ·rename_i g' ro e cs ho
   split at h
   ·rename_i hc
    obtain⟨rfl,rfl,hl,hone,hle⟩:=hc
    cases h
    obtain⟨b,δ,hb,rfl⟩:=hx
    have hr:=hy.cells (AV.cells_one hone)
    obtain⟨w',h1,h2⟩:=Step.store (P:=P) hs ho hb hr (hr.ones hone) (off:=off) (by omega)
    refine⟨w',?_,h2⟩
    have hsz:v.cells.size=T.size:=by rw [<-hl];have:=hr.length;simpa using this
    simp [Instr.storeAt,Instr.sureAddr,storeVar,mG hT,hsz,h1]
   ·cases h
  ·cases h
 ·cases h
theorem Fv (vs:List Value)(off:Nat):∀(k:Nat) (cells:Array Value),(vs.zipIdx k).foldl (fun cs (x:Value×Nat)=>cs.setIfInBounds (off+x.2) x.1) cells=f_ cells (off+k) vs:=by
 induction vs with
 | nil=>intro k cells;rfl
 | cons v vs ih=>
   intro k cells
   simp only [List.zipIdx_cons,List.foldl_cons,f_]
   rw [ih (k+1)]
   rfl
theorem QJ {cs:List AV} {dB:Array Value} (h:aJ Y w cs dB.toList):0+cs.length<=dB.size/\∀(j:Nat) c,cs[j]? =some c->∃v,dB[0+j]? =some v/\aI Y w c v:=by
 refine⟨?_,fun j c hj=>?_⟩
 ·have:=h.length;simp at this;omega
 ·obtain⟨v,h1,h2⟩:=h.get j c hj
  exact⟨v,by simpa using h1,h2⟩
theorem Fz {cs ys:List AV} {dB:Array Value} {vs:List Value} {off:Nat} (h:aJ Y w cs dB.toList)(hr:aJ Y w ys vs):aJ Y w (setCells cs off ys) (f_ dB off vs).toList:=by
 obtain⟨h1,h2⟩:=QJ h
 refine aJ.Dj (by have:=h.length;simp [iP,m_] at this ⊢;omega) (fun j c hj=>?_)
 obtain⟨v,q1,q2⟩:=yj hr (off:=off) h1 h2 j c hj
 exact⟨v,by simpa using q1,q2⟩
def qA (Y:Mu)(w:World):List (Nat×AV)->List (Nat×Value)->Prop
 | [],l=>l=[]
 | p :: ps,l=>∃q qs,l=q :: qs/\q.1=p.1/\aI Y w p.2 q.2/\qA Y w ps qs
theorem yx {pa:Nat->Option (Nat×Nat)} {pc:Nat->Option (Nat×Nat)} (hp:∀i x,pa i=some x->pc i=some x):∀(ps:List (Nat×AV)) (qs:List (Nat×Value)) (cs cs':List AV) (dB:Array Value),
 qA Y w ps qs->aJ Y w cs dB.toList->fillA pa cs ps=some cs'->∃FB,Instr.fill pc dB qs=some FB/\aJ Y w cs' FB.toList
 | [],qs,cs,cs',dB,hq,hr,h=>by
   simp only [qA] at hq;subst hq
   simp only [fillA,oW] at h;subst h
   exact⟨dB,rfl,hr⟩
 | (i,v) :: ps,qs,cs,cs',dB,hq,hr,h=>by
   obtain⟨⟨j,u⟩,qs',rfl,hij,hv,hq'⟩:=hq
   simp only at hij hv;subst hij
   simp only [fillA] at h
   split at h
   ·cases h
   ·rename_i off size hpl
    split at h
    ·rename_i hc
     obtain⟨hl,hle,hone⟩:=hc
     have XJ:=hv.cells (AV.cells_one hone)
     have hsz:u.cells.size=size:=by have:=XJ.length;simp at this;omega
     have hcl:dB.size=cs.length:=by have:=hr.length;simpa using this
     obtain⟨FB,h1,h2⟩:=yx hp ps qs' _ cs' (f_ dB off u.cells.toList) hq' (Fz (off:=off) hr XJ) h
     refine⟨FB,?_,h2⟩
     simp only [Instr.fill,hp _ _ hpl]
     have hno:¬((decide (u.cells.size≠size) || decide (off+u.cells.size>dB.size))=true):=by simp;omega
     rw [if_neg hno]
     rw [<-Array.foldl_toList,Array.toList_zipIdx,Fv]
     exact h1
    ·cases h
theorem tH (zs:List AV)(n:Nat):(repl zs n).length=n*zs.length:=by
 induction n with
 | zero=>simp [repl]
 | succ n ih=>simp [repl,ih,Nat.add_mul];omega
theorem JU (zs:List AV):∀(n j:Nat),j<n*zs.length->(repl zs n)[j]? =zs[j%zs.length]?
 | 0,j,h=>by omega
 | n+1,j,h=>by
   rw [Nat.add_mul] at h
   simp only [repl]
   rcases Nat.lt_or_ge j zs.length with hl | hl
   ·rw [List.getElem?_append_left hl,Nat.mod_eq_of_lt hl]
   ·rw [List.getElem?_append_right hl,JU zs n (j - zs.length) (by omega)]
    congr 1
    rw [<-Nat.mod_eq_sub_mod hl]
theorem JV {zs:List AV} {z:Array Value} (h:aJ Y w zs z.toList)(n:Nat):aJ Y w (repl zs n) (madeCells z (n*zs.length)).toList:=by
 have hl:z.size=zs.length:=by have:=h.length;simpa using this
 refine aJ.Dj (by simp [madeCells,tH]) (fun j c hj=>?_)
 have hlt:j<n*zs.length:=by have:=eP hj;rwa [tH] at this
 rw [JU zs n j hlt] at hj
 obtain⟨v,h1,h2⟩:=h.get _ c hj
 refine⟨v,?_,h2⟩
 have h1':z[j%zs.length]? =some v:=by simpa using h1
 simp [madeCells,hlt,hl,getElem!_def,h1']
theorem Bg:∀(fs:List Field),(fs.all fun f=>(tyOf P f.type).isSome)=true->∃places,fs.mapM (fun f=>(P.info? f.type).map fun i=>(f.offset,i.size))=some places/\
 ∀ (i:Nat) f F,fs[i]? =some f->tyOf P f.type=some F->places[i]? =some (f.offset,F.size)
 | [],_=>⟨[],by simp,fun i f F h=>by simp at h⟩
 | f :: fs,h=>by
   simp only [List.all_cons,fJ] at h
   obtain⟨places,h1,h2⟩:=Bg fs h.2
   obtain⟨F,hF⟩:=Option.isSome_iff_exists.1 h.1
   obtain⟨i,d,z,k1,_,_,_,k5,_⟩:=eU hF
   refine⟨(f.offset,i.size) :: places,by simp [List.mapM_cons,k1,h1],fun j g T hj hT=>?_⟩
   cases j with
   | zero=>
     simp at hj;subst hj
     rw [hF] at hT;cases hT
     simp [k5]
   | succ j=>simpa using h2 j g T (by simpa using hj) hT
theorem QK {t:Nat} {ps:List (Nat×AV)} {qs:Array (Nat×Value)} {a:AV} (h:aBuild P t ps=some a)(hq:qA Y w ps qs.toList):Gives P Y w (Instr.build t qs) a:=by
 unfold aBuild at h
 split at h
 ·rename_i T hT
  obtain⟨i,d,z,h1,h2,h3,h4,h5,h6,h7,_⟩:=eU hT
  have hz:aJ Y w T.zero.cells z.cells.toList:=yw h7
  split at h
  ·rename_i fs hd
   obtain⟨Fs,hu,hfs⟩:=Ii hT hd
   split at h
   ·rename_i hall
    rw [iU] at h
    obtain⟨cs,hcs,rfl⟩:=h
    rw [hfs,List.all_map] at hall
    obtain⟨places,hp1,hp2⟩:=Bg (P:=P) Fs.toList hall
    obtain⟨dB,hf,hr⟩:=yx (pc:=fun x=>places.toArray[x]?) (fun i x hx=>by
     rw [hfs,Option.bind_eq_some_iff] at hx
     obtain⟨r,hr,hx⟩:=hx
     rw [List.getElem?_map,iU] at hr
     obtain⟨F,hF,rfl⟩:=hr
     rw [iU] at hx
     obtain⟨T',hT',rfl⟩:=hx
     simpa using hp2 i F T' hF hT') ps qs.toList T.zero.cells cs z.cells hq hz hcs
    exact⟨.agg dB,run_build w t qs dB (by simp only [Program.built,h1,hu,h3,hp1];exact hf),dB,rfl,hr⟩
   ·cases h
  ·rename_i n e hd
   have hu:=yu hT hd
   split at h
   ·rename_i E hE
    rw [iU] at h
    obtain⟨cs,hcs,rfl⟩:=h
    obtain⟨ie,de,ze,k1,_,_,_,k5,_⟩:=eU hE
    obtain⟨dB,hf,hr⟩:=yx (pc:=fun i=>some (i*ie.size,ie.size)) (fun i x hx=>by rw [k5];exact hx) ps qs.toList T.zero.cells cs z.cells hq hz hcs
    exact⟨.agg dB,run_build w t qs dB (by simp only [Program.built,h1,hu,h3,k1];exact hf),dB,rfl,hr⟩
   ·cases h
  ·cases h
 ·cases h
theorem XL {t n:Nat} {ps:List (Nat×AV)} {qs:Array (Nat×Value)} {a:AV} {Z':St} (hs:g_ G Y Z w)(h:aBsl P t n ps Z=some (a,Z'))(hq:qA Y w ps qs.toList):xw P G Y Z w (Instr.buildSlice t n qs) a Z':=by
 unfold aBsl at h
 split at h
 ·rename_i e _ _ _ _ _ _ hT
  have hu:=gJ hT rfl
  split at h
  ·rename_i E hE
   split at h
   ·rename_i hc
    obtain⟨hz,hl,hle⟩:=hc
    rw [iU] at h
    obtain⟨cs,hcs,h⟩:=h
    simp only [Prod.mk.injEq] at h
    obtain⟨rfl,rfl⟩:=h
    obtain⟨i,d,z,h1,h2,h3,h4,h5,h6,h7,_⟩:=eU hE
    have Tj:aJ Y w E.zero.cells z.cells.toList:=yw h7
    have JW:=JV Tj n
    rw [hl] at JW
    obtain⟨dB,hf,hr⟩:=yx (pc:=fun i=>some (i*E.size,E.size)) (fun i x hx=>hx) ps qs.toList _ cs _ hq JW hcs
    have hcl:dB.size=n*E.size:=by
     have h1:=hr.length
     have h2:∀(ps:List (Nat×AV)) (c c':List AV),fillA (fun i=>some (i*E.size,E.size)) c ps=some c'->c'.length=c.length:=by
            intro ps
            induction ps with
            | nil=>intro c c' hc;simp only [fillA,oW] at hc;rw [hc]
            | cons p ps ih=>
              intro c c' hc
              obtain⟨i,v⟩:=p
              simp only [fillA] at hc
              split at hc
              ·rw [ih _ _ hc,m_]
              ·cases hc
     have h3:=h2 _ _ _ hcs
     rw [tH,hl] at h3
     simp at h1;omega
    refine⟨.slice (some ⟨w.heap.size,0,none⟩) n n,_,_,?_,⟨w.heap.size,0,0,n,e,dB.size,Mu.dG _ _ _ _,rfl,Nat.le_refl _,.inl rfl,?_,by omega⟩,Step.row hs e cs dB hr⟩
    ·have hne:¬n*E.size>16777216:=by omega
     by_cases hn:n*E.size=0
     ·have hf':Instr.fill (fun i=>some (i*E.size,E.size)) #[] qs.toList=some dB:=by
              rw [hn] at hf;simpa [madeCells,Array.range_zero'] using hf
      simp [Instr.buildSlice,aP hu,mG hE,hn,hf',newRow,Array.range_zero']
     ·have hzv:(zeroValue e).run P w= .ok z w:=by simp [zeroValue,jS h1,h3]
      have hf':Instr.fill (fun i=>some (i*E.size,E.size)) ((Array.range (n*E.size)).map (z.cells[· %z.cells.size]!)) qs.toList=some dB:=hf
      simp [Instr.buildSlice,aP hu,mG hE,hn,hne,hzv,hf',newRow]
    ·show World.shape? { w with heap:=w.heap.push (.cells dB e) } w.heap.size=_
     simp [World.shape?]
   ·cases h
  ·cases h
 ·cases h
theorem XM {t:Nat} {l c a:AV} {u v:Value} {Z':St} (hs:g_ G Y Z w)(h:aMks P t l c Z=some (a,Z'))(hl:aI Y w l u)(hc:aI Y w c v):xw P G Y Z w (Instr.makeSlice t u v) a Z':=by
 unfold aMks at h
 split at h
 ·rename_i e _ _ _ _ _ _ kl l kc c hT
  have hu:=gJ hT rfl
  simp only [aI] at hl hc;subst hl;subst hc
  split at h
  ·rename_i E hE
   split at h
   ·rename_i hcond
    obtain⟨hz,hzl,h0,hlc,h63,hb⟩:=hcond
    cases h
    obtain⟨i,d,z,h1,h2,h3,h4,h5,h6,h7,_⟩:=eU hE
    have Tj:aJ Y w E.zero.cells z.cells.toList:=yw h7
    have JW:=JV Tj c.toNat
    rw [hzl] at JW
    have hrun:=run_make (P:=P) w t e i z hu h1 h3 kl kc l c h0 hlc (by rw [h6];omega) h63
    rw [h5] at hrun
    refine⟨_,_,_,hrun,⟨w.heap.size,0,0,c.toNat,e,(madeCells z.cells (c.toNat*E.size)).size,Mu.dG _ _ _ _,rfl,by omega,.inl rfl,?_,?_⟩,Step.row hs e _ _ JW⟩
    ·show World.shape? { w with heap:=w.heap.push _ } w.heap.size=_
     simp [World.shape?]
    ·rw [size_madeCells];omega
   ·cases h
  ·cases h
 ·cases h
theorem XO {t:Nat} {x a:AV} {u:Value} {Z':St} (hs:g_ G Y Z w)(h:aRng P t x Z=some (a,Z'))(hx:aI Y w x u):xw P G Y Z w (Instr.range t u) a Z':=by
 unfold aRng at h
 split at h
 ·rename_i x hT
  simp only [aI] at hx;subst hx
  cases h
  refine⟨.pointer (some ⟨w.heap.size,0,none⟩),_,_,?_,⟨w.heap.size,0,Mu.dG _ _ _ _,rfl⟩,Step.alloc hs ⟨0,false,.iter x 0⟩ (.stringIter ⟨x.toArray⟩ 0) rfl (fun _ _ _ _ hh=>⟨rfl,hh⟩)⟩
  simp [Instr.range,aP (lY hT rfl)]
 ·cases h
theorem XP {x a:AV} {u:Value} {ty:Nat} {Z':St} (hs:g_ G Y Z w)(h:aNxt x Z=some (a,Z'))(hx:aI Y w x u):xw P G Y Z w (Instr.next u true ty) a Z':=by
 unfold aNxt at h
 split at h
 ·rename_i o g
  split at h
  ·rename_i g' ro s pos ho
   split at h
   ·rename_i hc
    obtain⟨rfl,rfl⟩:=hc
    obtain⟨b,δ,hb,rfl⟩:=hx
    obtain⟨b',wL,hb',hor⟩:=hs.obj o _ ho rfl
    have he:=hb'.symm.trans hb
    cases he
    obtain⟨rfl,hh⟩:δ=0/\w.heap[b]? =some (.stringIter ⟨s.toArray⟩ pos):=hor
    have hlt:=lt_of_heap hh
    have hsz:=size_mk s
    split at h
    ·rename_i hp
     cases h
     have hw:kK w { w with heap:=w.heap.setIfInBounds b (.stringIter ⟨s.toArray⟩ (pos+(Utf8.decode ⟨s.toArray⟩ pos).2)) } :=by
            intro b' e' m h
            unfold World.shape? at h ⊢
            show (match (w.heap.setIfInBounds b _)[b']? with | some (.cells c elem _)=>some (elem,c.size) | _=>none)=_
            rw [Array.getElem?_setIfInBounds]
            by_cases he:b=b'
            ·subst he;rw [hh] at h;cases h
            ·rw [if_neg he];exact h
     refine⟨.tuple #[.bool true,goInt pos,.int .i32 (Utf8.decode ⟨s.toArray⟩ pos).1],{ w with heap:=w.heap.setIfInBounds b (.stringIter ⟨s.toArray⟩ (pos+(Utf8.decode ⟨s.toArray⟩ pos).2)) },Y,?_,⟨_,rfl,_,_,rfl,rfl,_,_,rfl,rfl,_,_,rfl,rfl,rfl⟩,?_⟩
     ·simp [Instr.next,getObj,setObj,Sem.run,hh,hsz,hp]
     ·refine Step.write hs ho rfl rfl rfl b 0 b 0 hb (Nat.le_refl _) (Mu.le_refl Y) hb (fun _ _ _ h=>.inl h) hw rfl rfl rfl (by simp) (by simpa using hlt) (.inl rfl)
              (fun k _ hk=>by show (w.heap.setIfInBounds b _)[k]? =_;rw [Array.getElem?_setIfInBounds,if_neg (fun h=>hk h.symm)]) ⟨rfl,?_⟩
      show (w.heap.setIfInBounds b _)[b]? =_
      rw [Array.getElem?_setIfInBounds,if_pos rfl,if_pos hlt]
    ·rename_i hp
     cases h
     exact⟨.tuple #[.bool false],w,Y,by simp [Instr.next,getObj,Sem.run,hh,hsz,hp],⟨_,rfl,_,_,rfl,rfl,rfl⟩,Step.refl hs⟩
   ·cases h
  ·cases h
 ·cases h
end
end Go.Abs
namespace Go.Abs
section
variable {P:Program} {G:Nat} {Y:Mu} {Z:St} {w:World}
theorem Bh (dB:Array Value):∀(vs:List Value) (off:Nat) (dB:Array Value) (i:Nat),off+vs.length<=dB.size->(f_ dB off vs)[i]? =if off<=i/\i<off+vs.length then vs[i - off]? else dB[i]?
 | [],off,dB,i,_=>by simp [f_];omega
 | v :: vs,off,dB,i,h=>by
   simp only [bg] at h
   rw [f_,Bh dB vs (off+1) _ i (by simpa using by omega)]
   by_cases h1:off+1<=i/\i<off+1+vs.length
   ·rw [if_pos h1,if_pos (by simp only [bg];omega)]
    rw [show i - off=(i - (off+1))+1 by omega]
    simp
   ·rw [if_neg h1]
    by_cases h2:i=off
    ·subst h2
     rw [if_pos (by simp only [bg];omega),Array.getElem?_setIfInBounds,if_pos rfl,if_pos (by omega)]
     simp
    ·rw [if_neg (by simp only [bg];omega),Array.getElem?_setIfInBounds,if_neg (fun h=>h2 h.symm)]
theorem src_rel {z:Nat} {x:AV} {u:Value} {n:Nat} {cs:List AV} (hs:g_ G Y Z w)(h:srcCells z x Z=some (n,cs))(hx:aI Y w x u) :
 (Builtin.lenOf u).run P w= .ok n w/\cs.length=n*z/\∀k,k<=n->∃vs:List Value,(Builtin.firstCells z k u).run P w= .ok vs.toArray w/\vs.length=k*z/\aJ Y w (cs.take (k*z)) vs:=by
 unfold srcCells at h
 split at h
 ·simp only [oW,Prod.mk.injEq] at h
  obtain⟨rfl,rfl⟩:=h
  simp only [aI] at hx;subst hx
  refine⟨by simp [Builtin.lenOf],by simp,fun k hk=>⟨[],by simp [Builtin.firstCells],?_,by simp [aJ]⟩⟩
  have:k=0:=by omega
  subst this;simp
 ·rename_i o g off m z'
  split at h
  ·rename_i hz
   subst hz
   rw [Option.bind_eq_some_iff] at h
   obtain⟨ds,hd,h⟩:=h
   split at h
   ·rename_i hle
    simp only [oW,Prod.mk.injEq] at h
    obtain⟨rfl,rfl⟩:=h
    obtain⟨b,δ,off',c,e',m',hb,rfl,hn,ho,hsh,hm⟩:=hx
    obtain⟨ro,e,hobj⟩:=tq hd
    obtain⟨dB,fr,q1,q2,q3,q4⟩:=hs.cells hobj hb
    refine⟨by simp [Builtin.lenOf],by simp;omega,fun k hk=>?_⟩
    have hkz:k*z'<=m*z':=Nat.mul_le_mul_right _ hk
    by_cases hk0:k*z'= 0
    ·refine⟨[],?_,by simp [hk0],by simp [hk0,aJ]⟩
     simp [Builtin.firstCells,hk0,loadCells,loadCellsFrom]
    ·have ho':off'= δ+off:=by
      rcases ho with ho | ⟨h0,_⟩
      ·exact ho
      ·subst h0;simp at hkz;omega
     subst ho'
     have hsub:=Gh (Y:=Y) (w:=w) q2 q3 off (k*z') (by omega)
     have hlen:((dB.toList.drop (δ+off)).take (k*z')).length=k*z':=by simp;omega
     refine⟨(dB.toList.drop (δ+off)).take (k*z'),?_,hlen,?_⟩
     ·refine run_firstCells_some w z' k ⟨b,δ+off,none⟩ m c _ hlen (fun j v hj=>?_)
      rw [Addr.kQ,cell_of_heap q1]
      rw [List.getElem?_take] at hj
      split at hj
      ·rw [List.getElem?_drop] at hj;simpa using hj
      ·cases hj
     ·rw [List.take_take,Nat.min_eq_left hkz];exact hsub
   ·cases h
  ·cases h
 ·rename_i s
  split at h
  ·rename_i hz
   subst hz
   simp only [oW,Prod.mk.injEq] at h
   obtain⟨rfl,rfl⟩:=h
   simp only [aI] at hx;subst hx
   refine⟨by simp [Builtin.lenOf,size_mk],by simp,fun k hk=>⟨(s.take k).map fun b=>.int .u8 b.toNat,?_,by simp;omega,?_⟩⟩
   ·simp only [Builtin.firstCells,Sem.run_pure]
    congr 1
    apply Array.ext'
    simp [Bf]
   ·rw [Nat.mul_one,<-List.map_take]
    have:∀l:List UInt8,aJ Y w (l.map fun c=>AV.i .u8 c.toNat) (l.map fun b=>Value.int .u8 b.toNat):=by
     intro l
     induction l with
     | nil=>simp [aJ]
     | cons x xs ih=>exact⟨_,_,rfl,rfl,ih⟩
    exact this _
  ·cases h
 ·cases h
theorem run_append_grow {t t2 ty e:Nat} {E:AT} {d2:TypeDesc} (hu:P.underlying t=some (.slice e))(hE:tyOf P e=some E)(ht2:P.underlying t2=some d2)(hd2:(∃q,d2= .slice q)\/d2= .string)
 {base:Option Addr} {n c m:Nat} {v:Value} {old new:List Value} (hlen:(Builtin.lenOf v).run P w= .ok m w) (hgrow:c<n+m) (h63:n+m<=9223372036854775807) (hb:(n+m)*E.bytes<=140737488355328)
 (hold:(Builtin.firstCells E.size n (.slice base n c)).run P w.drew= .ok old.toArray w.drew)
 (hnew:(Builtin.firstCells E.size m v).run P w.drew= .ok new.toArray w.drew) :
 ∃ c' rest,n+m<=c'/\(rest:Array Value).size=(c' - (n+m))*E.zero.cells.length/\
   (Builtin.append_ #[t,t2] ty #[.slice base n c,v]).run P w= .ok (.slice (some ⟨w.heap.size,0,none⟩) (n+m) c') (w.drew.alloc (.cells (old.toArray ++ (new.toArray ++ rest)) e)):=by
 obtain⟨i,d,z,k1,k2,k3,k4,k5,k6,k7,_⟩:=eU hE
 have hfit:=growslice_fits (bytes:=i.bytes) hgrow (by rw [k6];exact hb)
 have hnfit:¬(281474976710656<Builtin.nextslicecap (n+m) c*i.bytes):=by omega
 have hn63:¬((9223372036854775807:Int)<((n:Int)+(m:Int))):=by omega
 have hng:¬n+m<=c:=by omega
 have hzl:z.cells.size=E.zero.cells.length:=by rw [<-k7];exact(Dn z).symm
 refine⟨grownCap w (n+m) c e,Builtin.zeroCells z.cells (grownCap w (n+m) c e - (n+m)),grownCap_ge w _ _ _,by rw [size_zeroCells,hzl],?_⟩
 rcases hd2 with ⟨q,rfl⟩ | rfl <;> simp [Builtin.append_,aP hu,sizeOf,jS k1,aP ht2,hlen,hng,hn63,hnfit,Question.forced,zeroValue,k3,k5,hold,hnew,newRow,grownCap]
theorem run_append_room {t t2 ty e:Nat} {E:AT} {d2:TypeDesc} (hu:P.underlying t=some (.slice e))(hE:tyOf P e=some E)(ht2:P.underlying t2=some d2)(hd2:(∃q,d2= .slice q)\/d2= .string)
 {b off n c m:Nat} {v:Value} {new:List Value} {w':World} (hlen:(Builtin.lenOf v).run P w= .ok m w) (hroom:n+m<=c)
 (hnew:(Builtin.firstCells E.size m v).run P w= .ok new.toArray w) (hst:(storeCells ⟨b,off+n*E.size,none⟩ new).run P w= .ok () w') :
 (Builtin.append_ #[t,t2] ty #[.slice (some ⟨b,off,none⟩) n c,v]).run P w= .ok (.slice (some ⟨b,off,none⟩) (n+m) c) w':=by
 obtain⟨i,d,z,k1,k2,k3,k4,k5,k6,k7,_⟩:=eU hE
 rcases hd2 with ⟨q,rfl⟩ | rfl <;> simp [Builtin.append_,aP hu,sizeOf,jS k1,aP ht2,hlen,hroom,k5,hnew,Addr.kQ,hst]
theorem Gi (w:World)(c:Array Value)(e:Nat):World.shape? (w.alloc (.cells c e)) w.heap.size=some (e,c.size):=by
 show (match (w.heap.push _)[w.heap.size]? with | some (.cells c elem _)=>some (elem,c.size) | _=>none)=_
 simp
theorem QL {olds src:List AV} {old new:List Value} {rest:Array Value} (h:aJ Y w olds old)(k:aJ Y w src new) :
 (old.toArray ++ (new.toArray ++ rest)).size=old.length+(new.length+rest.size)/\∀(j:Nat) c,(olds ++ src)[j]? =some c->∃v,(old.toArray ++ (new.toArray ++ rest))[0+j]? =some v/\aI Y w c v:=by
 refine⟨by simp,fun j c hj=>?_⟩
 obtain⟨v,q1,q2⟩:=(h.append k).get j c hj
 refine⟨v,?_,q2⟩
 have hlt:=eP q1
 rw [Nat.zero_add,<-Array.getElem?_toList]
 simp only [Array.toList_append]
 rw [<-iC,List.getElem?_append_left hlt]
 exact q1
theorem JX {t t2 ty e n m:Nat} {E:AT} {d2:TypeDesc} {base:Option Addr} {c:Nat} {v:Value} {olds src:List AV} {old new:List Value} (hs:g_ G Y Z w)
 (hu:P.underlying t=some (.slice e)) (hE:tyOf P e=some E) (ht2:P.underlying t2=some d2) (hd2:(∃q,d2= .slice q)\/d2= .string) (hzl:E.zero.cells.length=E.size)
 (hlen:(Builtin.lenOf v).run P w= .ok m w) (hgrow:c<n+m) (h63:n+m<=9223372036854775807) (hb:(n+m)*E.bytes<=140737488355328)
 (hold:(Builtin.firstCells E.size n (.slice base n c)).run P w.drew= .ok old.toArray w.drew) (hol:old.length=n*E.size) (hor:aJ Y w.drew olds old)
 (hnew:(Builtin.firstCells E.size m v).run P w.drew= .ok new.toArray w.drew) (hnl:new.length=m*E.size) (hnr:aJ Y w.drew src new) :
 ∃ c' dB,(Builtin.append_ #[t,t2] ty #[.slice base n c,v]).run P w= .ok (.slice (some ⟨w.heap.size,0,none⟩) (n+m) c') (w.drew.alloc (.cells dB e))/\n+m<=c'/\dB.size=c'* E.size/\
   (olds ++ src).length<=dB.size/\∀(j:Nat) x,(olds ++ src)[j]? =some x->∃r,dB[0+j]? =some r/\aI Y w.drew x r:=by
 obtain⟨c',rest,hc',hrs,hrun⟩:=run_append_grow (P:=P) (ty:=ty) hu hE ht2 hd2 hlen hgrow h63 hb hold hnew
 obtain⟨h1,h2⟩:=QL (rest:=rest) hor hnr
 have hsz:(old.toArray ++ (new.toArray ++ rest)).size=c'* E.size:=by
  rw [h1,hol,hnl,hrs,hzl,<-Nat.add_assoc,<-Nat.add_mul,<-Nat.add_mul]
  congr 1
  omega
 refine⟨c',_,hrun,hc',hsz,?_,h2⟩
 have:=hor.length
 have:=hnr.length
 rw [h1,bM]
 omega
theorem XQ {t t2 ty:Nat} {x y a:AV} {u v:Value} {Z':St} (hs:g_ G Y Z w)(h:aApp P t x y Z=some (a,Z'))(hx:aI Y w x u)(hy:aI Y w y v)
 (h2:t2=t\/P.underlying t2=some .string):xw P G Y Z w (Builtin.append_ #[t,t2] ty #[u,v]) a Z':=by
 unfold aApp at h
 split at h
 ·rename_i e _ _ _ _ _ _ hT
  have hu:=gJ hT rfl
  split at h
  ·rename_i E hE
   split at h
   ·rename_i hEz
    obtain⟨hz0,hzl,hby⟩:=hEz
    rw [Option.bind_eq_some_iff] at h
    obtain⟨⟨m,src⟩,hsrc,h⟩:=h
    obtain⟨hlen,hsl,hfirst⟩:=src_rel (P:=P) hs hsrc hy
    obtain⟨t2d,ht2,hd2⟩:∃d2,P.underlying t2=some d2/\((∃q,d2= .slice q)\/d2= .string):=by
     rcases h2 with rfl | h2
     ·exact⟨_,hu,.inl ⟨e,rfl⟩⟩
     ·exact⟨_,h2,.inr rfl⟩
    have wM:=Step.drew hs
    have hs1:g_ G Y Z w.drew:=wM.wB
    have hy1:aI Y w.drew y v:=aI.mono wM.ext wM.xq _ _ hy
    have hx1:aI Y w.drew x u:=aI.mono wM.ext wM.xq _ _ hx
    obtain⟨_,_,XR⟩:=src_rel (P:=P) hs1 hsrc hy1
    simp only at h
    split at h
    ·rename_i hm
     subst hm
     obtain⟨vs,hvs,hvl,_⟩:=hfirst 0 (Nat.le_refl _)
     have hvs0:vs=[]:=List.eq_nil_of_length_eq_zero (by simpa using hvl)
     subst hvs0
     have hnil:∀ad:Addr,(storeCells ad ([]:List Value)).run P w= .ok () w:=fun _=>rfl
     split at h
     ·cases h
      simp only [aI] at hx;subst hx
      refine⟨.slice none 0 0,w,Y,?_,rfl,Step.refl hs⟩
      rcases hd2 with ⟨q,rfl⟩ | rfl <;> simp [Builtin.append_,aP hu,mG hE,aP ht2,hlen,hvs]
     ·cases h
      have hx':=hx
      obtain⟨b,δ,off',c,e',mm,hb,rfl,hn,ho,hsh,hmm⟩:=hx'
      exact⟨_,w,Y,run_append_room (P:=P) (m:=0) hu hE ht2 hd2 hlen (by omega) hvs (hnil _),hx,Step.refl hs⟩
     ·cases h
    ·rename_i hm
     split at h
     ·rename_i O8
      obtain⟨new,hnew,hnl,hnr⟩:=hfirst m (Nat.le_refl _)
      obtain⟨new1,hnew1,hnl1,hnr1⟩:=XR m (Nat.le_refl _)
      rw [<-hsl,iq] at hnr hnr1
      split at h
      ·simp only [aI] at hx;subst hx
       split at h
       ·rename_i hb
        cases h
        have h63:0+m<=9223372036854775807:=by
         have:m*1<=m*E.bytes:=Nat.mul_le_mul_left _ hby
         omega
        obtain⟨c',dB,hrun,hc',hsz,hle,hget⟩:=JX (P:=P) (ty:=ty) (base:=none) (n:=0) (c:=0) (old:=[]) (olds:=[]) hs hu hE ht2 hd2 hzl hlen (by omega) h63 (by simpa using hb) (by simp [Builtin.firstCells]) (by simp) (by simp [aJ]) hnew1 hnl1 hnr1
        have hrow:=Step.alloc hs1 ⟨0,false,.cells e src⟩ (.cells dB e) rfl (fun Y' w' hm' hw' hh=>⟨dB,(0,0),hh,by simpa using hle,fun j x hj=>by
                   obtain⟨r,q1,q2⟩:=hget j x hj
                   exact⟨r,q1,aI.mono hm' hw' _ _ q2⟩,fun _ j _ h=>by omega⟩)
        rw [Nat.zero_add] at hrun hc'
        refine⟨_,_,_,hrun,⟨w.heap.size,0,0,c',e,dB.size,Mu.dG _ _ _ _,rfl,hc',.inl rfl,?_,by rw [hsz];omega⟩,wM.trans hrow⟩
        exact Gi w.drew dB e
       ·cases h
      ·rename_i o g off n z'
       split at h
       ·rename_i g' e' cs ho
        split at h
        ·rename_i hc
         obtain⟨rfl,rfl,rfl,hle,hb,hones2⟩:=hc
         cases h
         obtain⟨b,δ,off',c,e0,mm,hb0,rfl,hn,hoff,hsh,hmm⟩:=hx
         obtain⟨dB,fr,q1,q2,q3,q4⟩:=hs.cells ho hb0
         have h63:n+m<=9223372036854775807:=by
                   have:(n+m)*1<=(n+m)*E.bytes:=Nat.mul_le_mul_left _ hby
                   omega
         have hfresh:Y o (g+1)=none:=by
                   cases hq:Y o (g+1) with
                   | none=>rfl
                   | some y=>
                     obtain⟨a,ha,hg⟩:=hs.dom _ _ _ hq
                     rw [ho] at ha;cases ha
                     have hg':g+1<=g:=hg
                     omega
         have Tn:srcCells E.size (.sl o g off n E.size) Z=some (n,(cs.drop off).take (n*E.size)):=by
                   simp [srcCells,cellsAt,ho,hle]
         have hlx:((cs.drop off).take (n*E.size)).length=n*E.size:=by simp;omega
         by_cases hgrow:c<n+m
         ·obtain⟨_,_,hfx⟩:=src_rel (P:=P) hs1 Tn hx1
          obtain⟨old,hold,hol,hor⟩:=hfx n (Nat.le_refl _)
          rw [List.take_take,Nat.min_self] at hor
          obtain⟨c',FB,hrun,hc',hsz,hle',hget⟩:=JX (P:=P) (ty:=ty) hs hu hE ht2 hd2 hzl hlen hgrow h63 hb hold hol hor hnew1 hnl1 hnr1
          have hwp:kK w.drew (w.drew.alloc (.cells FB e')):=kK.push w.drew _
          have hwr:=Step.write (Y':=Y.upd o (g+1) (w.heap.size,0)) (w':=w.drew.alloc (.cells FB e')) (a':=⟨g+1,false,.cells e' ((cs.drop off).take (n*E.size) ++ src)⟩) hs1 ho rfl rfl rfl b δ w.heap.size 0 hb0 (Nat.le_succ g)
                    (Mu.xu hfresh) (Mu.dG _ _ _ _) (fun o1 g1 x hx=>by
                     by_cases he:o1=o/\g1=g+1
                     ·right;rw [he.1,he.2,Mu.dG] at hx;cases hx;exact⟨he.1,he.2,rfl⟩
                     ·left;rw [Mu.upd_ne he] at hx;exact hx)
                    hwp rfl rfl rfl (by show w.heap.size<=(w.heap.push _).size;simp) (by show w.heap.size<(w.heap.push _).size;simp) (.inr (Nat.le_refl _))
                    (fun k hk _=>by show (w.heap.push _)[k]? =w.heap[k]?;have hk':k<w.heap.size:=hk;rw [Array.getElem?_push,if_neg (by omega)])
                    ⟨FB,(0,0),by show (w.heap.push _)[w.heap.size]? =_;simp,by simpa using hle',fun j x hj=>by
                     obtain⟨r,p1,p2⟩:=hget j x hj
                     exact⟨r,p1,aI.mono (Mu.xu hfresh) hwp _ _ p2⟩,fun _ j _ h=>by omega⟩
          refine⟨_,_,_,hrun,⟨w.heap.size,0,0,c',e',FB.size,Mu.dG _ _ _ _,rfl,hc',.inl rfl,?_,by rw [hsz];omega⟩,wM.trans hwr⟩
          exact Gi w.drew FB e'
         ·have hoff':off'= δ+off:=by
                    rcases hoff with h | ⟨h,h'⟩
                    ·exact h
                    ·omega
          subst hoff'
          have hshm:e0=e'/\mm=dB.size:=by
                    simp only [World.shape?,q1,oW,Prod.mk.injEq] at hsh
                    exact⟨hsh.1.symm,hsh.2.symm⟩
          obtain⟨rfl,rfl⟩:=hshm
          have hroom:(n+m)*E.size<=c*E.size:=Nat.mul_le_mul_right _ (by omega)
          have hsum:(n+m)*E.size=n*E.size+m*E.size:=Nat.add_mul _ _ _
          have Nw:=hnr.ones O8
          have hst:=run_storeCells_cells (P:=P) b (δ+off+n*E.size) new 0 w (fun j hj=>by
           rw [cell_of_heap q1,Option.isSome_iff_exists];exact⟨dB[δ+off+n*E.size+0+j]'(by omega),by simp⟩)
                    (fun j hj=>by
                     have:=q4 rfl (δ+off+n*E.size+0+j) (by omega)
                     simp only [World.frozen?,q1]
                     simpa using this) Nw
          rw [Nat.add_zero,qh new _ w dB q1] at hst
          have hrun:=run_append_room (P:=P) (ty:=ty) (b:=b) (off:=δ+off) (c:=c) hu hE ht2 hd2 hlen (by omega) hnew hst
          have hlt:=lt_of_heap q1
          have hw:kK w { w with heap:=w.heap.setIfInBounds b (.cells (f_ dB (δ+off+n*E.size) new) e0 fr) } :=by
                    intro b' e' m h
                    unfold World.shape? at h ⊢
                    show (match (w.heap.setIfInBounds b _)[b']? with | some (.cells c elem _)=>some (elem,c.size) | _=>none)=_
                    rw [Array.getElem?_setIfInBounds]
                    by_cases he:b=b'
                    ·subst he
                     rw [q1] at h
                     simpa [hlt,iP] using h
                    ·rw [if_neg he];exact h
          have hwr:=Step.write (Y':=Y.upd o (g+1) (b,δ+off)) (w':={ w with heap:=w.heap.setIfInBounds b (.cells (f_ dB (δ+off+n*E.size) new) e0 fr) }) (a':=⟨g+1,false,.cells e0 ((cs.drop off).take (n*E.size) ++ src)⟩) hs ho rfl rfl rfl b δ b (δ+off) hb0 (Nat.le_succ g)
                    (Mu.xu hfresh) (Mu.dG _ _ _ _) (fun o1 g1 x hx=>by
                     by_cases he:o1=o/\g1=g+1
                     ·right;rw [he.1,he.2,Mu.dG] at hx;cases hx;exact⟨he.1,he.2,rfl⟩
                     ·left;rw [Mu.upd_ne he] at hx;exact hx)
                    hw rfl rfl rfl (by simp) (by simpa using hlt) (.inl rfl)
                    (fun k _ hk=>by show (w.heap.setIfInBounds b _)[k]? =_;rw [Array.getElem?_setIfInBounds,if_neg (fun h=>hk h.symm)])
                    ⟨f_ dB (δ+off+n*E.size) new,fr,by
                     show (w.heap.setIfInBounds b _)[b]? =_
                     rw [Array.getElem?_setIfInBounds,if_pos rfl,if_pos hlt],by
                     rw [iP,bM,hlx,hsl];omega,fun j x hj=>by
                     rw [Bh dB new _ _ _ (by omega)]
                     rcases Nat.lt_or_ge j (n*E.size) with hj1 | hj1
                     ·rw [List.getElem?_append_left (by rw [hlx];exact hj1),List.getElem?_take,if_pos hj1,List.getElem?_drop] at hj
                      obtain⟨r,p1,p2⟩:=q3 _ x hj
                      refine⟨r,?_,aI.mono (Mu.xu hfresh) hw _ _ p2⟩
                      rw [if_neg (by omega),<-p1,Nat.add_assoc]
                     ·rw [List.getElem?_append_right (by rw [hlx];exact hj1),hlx] at hj
                      obtain⟨r,p1,p2⟩:=hnr.get _ x hj
                      have hlt2:=eP p1
                      refine⟨r,?_,aI.mono (Mu.xu hfresh) hw _ _ p2⟩
                      rw [if_pos (by omega),<-p1]
                      congr 1
                      omega,fun _ j hj=>by
                     rw [iP] at hj
                     exact q4 rfl j hj⟩
          exact⟨_,_,_,hrun,⟨b,δ+off,δ+off,c,e0,dB.size,Mu.dG _ _ _ _,rfl,by omega,.inl rfl,hw _ _ _ (by simp [World.shape?,q1]),hmm⟩,hwr⟩
        ·cases h
       ·cases h
      ·cases h
     ·cases h
   ·cases h
  ·cases h
 ·cases h
end
end Go.Abs
namespace Go.Abs
section
variable {P:Program} {G:Nat} {Y:Mu} {Z:St} {w:World}
theorem Tq {t t2 ty:Nat} {x y a:AV} {u v:Value} {Z':St} (hs:g_ G Y Z w)(h:aCopy P t x y Z=some (a,Z'))(hx:aI Y w x u)(hy:aI Y w y v):xw P G Y Z w (Builtin.copy_ #[t,t2] ty #[u,v]) a Z':=by
 unfold aCopy at h
 split at h
 ·rename_i e _ _ _ _ _ _ o g off n z hT
  have hu:=gJ hT rfl
  split at h
  ·rename_i E hE
   split at h
   ·rename_i hz
    subst hz
    rw [Option.bind_eq_some_iff] at h
    obtain⟨⟨m,src⟩,hsrc,h⟩:=h
    obtain⟨hlen,hsl,hfirst⟩:=src_rel (P:=P) hs hsrc hy
    simp only at h
    split at h
    ·rename_i g' e' cs ho
     split at h
     ·rename_i hc
      obtain⟨rfl,hle,O8⟩:=hc
      cases h
      obtain⟨b,δ,off',c,e0,mm,hb0,rfl,hn,hoff,hsh,hmm⟩:=hx
      obtain⟨vs,hvs,hvl,XJ⟩:=hfirst (min m n) (Nat.min_le_left _ _)
      have hk:min m n*E.size<=n*E.size:=Nat.mul_le_mul_right _ (Nat.min_le_right _ _)
      have hk2:min m n*E.size<=m*E.size:=Nat.mul_le_mul_right _ (Nat.min_le_left _ _)
      have Nw:(src.take (min m n*E.size)).all AV.one=true:=by
              rw [List.all_eq_true] at O8 ⊢
              exact fun q hq=>O8 q (List.mem_of_mem_take hq)
      have hone1:=XJ.ones Nw
      obtain⟨w',h1,h2⟩:=Step.store (P:=P) hs ho hb0 XJ hone1 (off:=off) (by simp;omega)
      have hst:(storeCells ⟨b,off',none⟩ vs).run P w= .ok () w':=by
              rcases hoff with rfl | ⟨h0,_⟩
              ·exact h1
              ·subst h0
               have:vs=[]:=List.eq_nil_of_length_eq_zero (by simpa using hvl)
               subst this
               exact h1
      refine⟨goInt (min m n),w',Y,?_,by simp [aI,goInt],h2⟩
      have hmin:Nat.min m n=min m n:=rfl
      simp [Builtin.copy_,aP hu,hlen,mG hE,hmin,hvs,hst]
      exact congrArg goInt (by omega)
     ·cases h
    ·cases h
   ·cases h
  ·cases h
 ·cases h
theorem Dp:∀{cs:List AV} {vs:List Value} {bs:List UInt8},bytesOf cs=some bs->aJ Y w cs vs->∃ns:List Int,vs=ns.map (Value.int .u8)/\bs=ns.map fun n=>UInt8.ofNat n.toNat
 | [],vs,bs,h,hr=>by
   simp only [aJ] at hr;subst hr
   simp only [bytesOf,oW] at h;subst h
   exact⟨[],rfl,rfl⟩
 | c :: cs,vs,bs,h,hr=>by
   obtain⟨v,vs',rfl,hv,hvs⟩:=hr
   cases c <;> (try (simp only [bytesOf,reduceCtorEq] at h;done))
   rename_i k n
   cases k <;> (try (simp only [bytesOf,reduceCtorEq] at h;done))
   simp only [bytesOf] at h
   rw [iU] at h
   obtain⟨bs',hb,rfl⟩:=h
   obtain⟨ns,rfl,rfl⟩:=Dp hb hvs
   simp only [aI] at hv;subst hv
   exact⟨n :: ns,rfl,rfl⟩
theorem foldl_push (ns:List Int):∀r:ByteArray,ns.foldl (fun r n=>r.push (UInt8.ofNat n.toNat)) r=⟨r.data ++ (ns.map fun n=>UInt8.ofNat n.toNat).toArray⟩:=by
 induction ns with
 | nil=>intro r;simp
 | cons n ns ih=>
   intro r
   rw [List.foldl_cons,ih]
   apply ByteArray.ext
   simp [ByteArray.push]
theorem Tt {s d:Nat} {x a:AV} {u:Value} {Z':St} (hs:g_ G Y Z w)(h:aConv P s d x Z=some (a,Z'))(hx:aI Y w x u):xw P G Y Z w (convert s d u) a Z':=by
 unfold aConv at h
 split at h
 ·rename_i S D hS hD
  obtain⟨iS,dS,zS,s1,s2,s3,s4,_⟩:=eU hS
  split at h
  ·rename_i k k' n hd
   cases h
   simp only [aI] at hx;subst hx
   have Tv:=Cj hD hd
   refine Gives.acts hs ⟨.int k (k.wrap n),?_,rfl⟩
   cases dS <;> simp [convert,aP s2,aP Tv,Conv.intToInt]
  ·rename_i k n hd
   cases h
   simp only [aI] at hx;subst hx
   have Tv:=lY hD hd
   refine Gives.acts hs ⟨.string (Utf8.encode n),?_,by simp [aI]⟩
   cases dS <;> simp [convert,aP s2,aP Tv,Conv.intToString]
  ·rename_i x hs' hd
   cases h
   simp only [aI] at hx;subst hx
   have hsu:=lY hS hs'
   have Tv:=lY hD hd
   exact Gives.acts hs ⟨_,by simp [convert,aP hsu,aP Tv],rfl⟩
  ·rename_i e x hs' hd
   simp only [aI] at hx;subst hx
   have hsu:=lY hS hs'
   have Tv:=gJ hD hd
   split at h
   ·rename_i hE
    cases h
    have heu:=Cj hE rfl
    have wM:=Step.drew hs
    have hrun:=run_bytes_of_string (P:=P) w s d e ⟨x.toArray⟩ hsu Tv heu
    have hsz:=size_mk x
    rw [hsz] at hrun
    have hge:=grownCap_ge w x.length 0 e
    have hbsz:(bytesRow ⟨x.toArray⟩ (grownCap w x.length 0 e)).size=grownCap w x.length 0 e:=by
     simp [bytesRow,hsz];omega
    have hrow:=Step.alloc wM.wB ⟨0,false,.cells e (x.map fun b=>.i .u8 b.toNat)⟩ (.cells (bytesRow ⟨x.toArray⟩ (grownCap w x.length 0 e)) e ((bytesRow ⟨x.toArray⟩ (grownCap w x.length 0 e)).size,(bytesRow ⟨x.toArray⟩ (grownCap w x.length 0 e)).size+1)) rfl
     (fun Y' w' hm' hw' hh=>⟨_,_,hh,by rw [hbsz];simpa using hge,fun j c hj=>by
            rw [List.getElem?_map,iU] at hj
            obtain⟨b,hb,rfl⟩:=hj
            have hlt:=eP hb
            refine⟨.int .u8 b.toNat,?_,rfl⟩
            rw [sN hlt] at hb;cases hb
            simp [bytesRow,Array.getElem?_append,hlt],fun _ j hj h=>by simp only at h;omega⟩)
    refine⟨_,_,_,hrun,⟨w.heap.size,0,0,grownCap w x.length 0 e,e,grownCap w x.length 0 e,Mu.dG _ _ _ _,rfl,hge,.inl rfl,?_,by omega⟩,wM.trans hrow⟩
    show (match (w.heap.push _)[w.heap.size]? with | some (.cells c elem _)=>some (elem,c.size) | _=>none)=_
    simp [hbsz]
   ·cases h
  ·rename_i e hs' hd
   simp only [aI] at hx;subst hx
   have hsu:=gJ hS hs'
   have Tv:=lY hD hd
   split at h
   ·rename_i hE
    cases h
    have heu:=Cj hE rfl
    refine Gives.acts hs ⟨.string .empty,?_,rfl⟩
    rw [run_convert_bytes_string w s d e none 0 0 hsu heu Tv]
    rfl
   ·cases h
  ·rename_i e o g off n z hs' hd
   have hsu:=gJ hS hs'
   have Tv:=lY hD hd
   split at h
   ·rename_i hE
    have heu:=Cj hE rfl
    split at h
    ·rename_i hz
     subst hz
     rw [Option.bind_eq_some_iff] at h
     obtain⟨cs,hcs,h⟩:=h
     split at h
     ·rename_i hle
      rw [iU] at h
      obtain⟨bs,hbs,h⟩:=h
      cases h
      have Tn:srcCells 1 (.sl o g off n 1) Z=some (n,(cs.drop off).take n):=by
              simp [srcCells,hcs,hle]
      obtain⟨_,hl1,hf⟩:=src_rel (P:=P) hs Tn hx
      obtain⟨vs,hvs,hvl,XJ⟩:=hf n (Nat.le_refl _)
      obtain⟨b,δ,off',c,e0,mm,hb0,rfl,hn,hoff,hsh,hmm⟩:=hx
      rw [Nat.mul_one] at XJ
      rw [List.take_take,Nat.min_self] at XJ
      obtain⟨ns,rfl,rfl⟩:=Dp hbs XJ
      refine Gives.acts hs ⟨_,?_,rfl⟩
      rw [run_convert_bytes_string w s d e _ n c hsu heu Tv]
      have hload:(loadCells ⟨b,off',none⟩ n).run P w= .ok (ns.map (Value.int .u8)).toArray w:=by simpa [Builtin.firstCells] using hvs
      rw [run_bytesToString w _ n c ns hload,foldl_push]
      simp
     ·cases h
    ·cases h
   ·cases h
  ·cases h
 ·cases h
theorem Tz {mx:Bool} {xs:List AV} {us:List Value} {a:AV} {ts:Array Nat} {ty:Nat} (h:aMn mx xs=some a)(hx:aJ Y w xs us):Gives P Y w (if mx then Builtin.max_ ts ty us.toArray else Builtin.min_ ts ty us.toArray) a:=by
 unfold aMn at h
 split at h
 ·rename_i k p k' q
  split at h
  ·rename_i hk
   subst hk
   cases h
   obtain⟨u,us',rfl,hu,hx'⟩:=hx
   obtain⟨v,us'',rfl,hv,hx''⟩:=hx'
   simp only [aJ] at hx'';subst hx''
   simp only [aI] at hu hv;subst hu;subst hv
   cases mx
   ·refine⟨.int k (min p q),?_,rfl⟩
    simp [Builtin.min_,Builtin.min2]
    omega
   ·refine⟨.int k (max p q),?_,rfl⟩
    simp [Builtin.max_,Builtin.max2]
    omega
  ·cases h
 ·cases h
end
end Go.Abs
namespace Go.Abs
section
variable {P:Program} {G:Nat} {Y:Mu} {Z:St} {w:World}
theorem nI {t k e:Nat} {T:AT} (h:tyOf P t=some T)(hd:T.d= .map k e):P.underlying t=some (.map k e):=by
 obtain⟨i,d,z,h1,h2,h3,h4,_⟩:=eU h
 rw [hd] at h4
 cases d <;> simp only [adOf] at h4 <;> first | (cases h4;done) | skip
 cases h4;exact h2
theorem Ny {t:Nat} {T:AT} (h:tyOf P t=some T) {k:AV} (hk:nN T.d k=true):(P.underlying t=some .bool/\∃x,k= .b x)\/(∃j,P.underlying t=some (.int j)/\∃i n,k= .i i n)\/(P.underlying t=some .string/\∃s,k= .s s):=by
 obtain⟨i,d,z,h1,h2,h3,h4,_⟩:=eU h
 rw [<-h4] at hk
 cases d <;> simp only [adOf] at hk <;> cases k <;> simp only [nN,nR] at hk
 ·exact .inl ⟨h2,_,rfl⟩
 ·exact .inr (.inl ⟨_,h2,_,_,rfl⟩)
 ·exact .inr (.inr ⟨h2,_,rfl⟩)
theorem yC {t:Nat} {T:AT} (h:tyOf P t=some T) {k:AV} (hk:nN T.d k=true) {u:Value} (hu:aI Y w k u)(e:Bool)(n:Nat):(Instr.checkKey e (n+1) t u).run P w= .ok () w:=by
 rcases Ny h hk with ⟨hd,x,rfl⟩ | ⟨j,hd,i,m,rfl⟩ | ⟨hd,s,rfl⟩
 all_goals
  simp only [aI] at hu
  subst hu
  simp [Instr.checkKey,aP hd]
theorem Bj (e:Bool)(n:Nat) {cs:List AV} {a:Array Value} (hr:aJ Y w cs a.toList):∀(fs:List Field),pI P cs (fs.map fun f=>(f.offset,f.type,f.name == "_"))=true->
 (forIn fs PUnit.unit fun f _=>do
  if f.name≠"_" then Instr.checkKey e (n+1) f.type (<-part f.type a f.offset)
  pure (ForInStep.yield PUnit.unit):Sem PUnit).run P w= .ok PUnit.unit w
 | [],_=>by simp
 | f :: fs,h=>by
   simp only [List.map_cons,pI,fJ,Bool.or_eq_true,beq_iff_eq] at h
   have ih:=Bj e n hr fs h.2
   by_cases hf:f.name= "_"
   ·simp only [List.forIn_cons,hf,ne_eq,not_true,if_false]
    simpa using ih
   ·have h1:=h.1.resolve_left hf
    split at h1
    ·rename_i F hF
     split at h1
     ·rename_i x hx
      obtain⟨u,q1,q2⟩:=sZ hF hr hx
      have q3:=yC hF h1 q2 e n
      simp only [List.forIn_cons,ne_eq,hf,not_false_iff,if_true]
      simp [q1,q3]
      simpa using ih
     ·cases h1
    ·cases h1
theorem uX {t:Nat} {k:AV} (hk:wK P t k=true) {u:Value} (hu:aI Y w k u)(e:Bool):(Instr.checkKey e 10000 t u).run P w= .ok () w:=by
 unfold wK at hk
 split at hk
 ·rename_i T hT
  simp only [Bool.or_eq_true] at hk
  rcases hk with hk | hk
  ·exact yC hT hk hu e 9999
  ·split at hk
   ·rename_i fs cs hd
    obtain⟨Fs,hF,hfs⟩:=Ii hT hd
    obtain⟨a,rfl,ha⟩:=hu
    rw [hfs] at hk
    have:=Bj (P:=P) e 9998 ha Fs.toList hk
    unfold Instr.checkKey
    simp only [Sem.run_bind,aP hF,Result.jC]
    rw [<-Array.forIn_toList]
    simp at this ⊢
    rw [this];rfl
   ·cases hk
 ·cases hk
theorem TA {t:Nat} {x y:AV} {u v:Value} {dd:TypeDesc} {b b':Bool} (h:aEq P 20 t x y=some b)(hx:aI Y w x u)(hy:aI Y w y v)(hu:P.underlying t=some dd)(hn:Instr.sameNow dd u v=some b'):b'= b:=by
 have h1:(Op.equalIn (9999+1) t u v).run P w= .ok b w:=zT 20 10000 t x y u v b (by omega) h hx hy
 unfold Op.equalIn at h1
 simp only [Sem.run_bind,aP hu,Result.jC] at h1
 unfold Instr.sameNow at hn
 split at hn
 ·split at hn
  ·rename_i hk
   cases hn
   simp only [hk,if_true,Sem.run_pure,Result.ok.injEq,and_true] at h1
   exact h1
  ·cases hn
 ·cases hn
  simp only [Sem.run_pure,Result.ok.injEq,and_true] at h1
  exact h1
 ·cases hn
  simp only [Sem.run_pure,Result.ok.injEq,and_true] at h1
  exact h1
 ·cases hn
def Ij (Y:Mu)(w:World)(es:List (AV×AV))(l:List MapEntry)(i:Nat):Option (Nat×(AV×AV))->Option (Nat×Value)->Prop
 | none,r=>r=none
 | some (j,e),r=>∃n m,j=i+n/\es[n]? =some e/\l[n]? =some m/\r=some (j,m.val)/\aI Y w e.1 m.key/\aI Y w e.2 m.val
theorem iE.cons {e:AV×AV} {es:List (AV×AV)} {l:List MapEntry} (h:iE Y w (e :: es) l):∃m ms,l=m :: ms/\aI Y w e.1 m.key/\aI Y w e.2 m.val/\iE Y w es ms:=by
 cases l with
 | nil=>have:=h.1;simp at this
 | cons m ms=>
   have q:=h.2 0 e m rfl rfl
   exact⟨m,ms,rfl,q.1,q.2,by simpa using h.1,fun i e' m' h1 h2=>h.2 (i+1) e' m' (by simpa using h1) (by simpa using h2)⟩
theorem Ij.cons {e:AV×AV} {es:List (AV×AV)} {m:MapEntry} {ms:List MapEntry} {i:Nat} {r:Option (Nat×(AV×AV))} {r':Option (Nat×Value)} (h:Ij Y w es ms (i+1) r r'):Ij Y w (e :: es) (m :: ms) i r r':=by
 cases r with
 | none=>exact h
 | some r=>
   obtain⟨j,e'⟩:=r
   obtain⟨n,m',h1,h2,h3,h4⟩:=h
   exact⟨n+1,m',by omega,by simpa using h2,by simpa using h3,h4⟩
theorem JY {t:Nat} {k:AV} {u:Value} (hu:aI Y w k u):∀(es:List (AV×AV)) (l:List MapEntry) (i:Nat) (r:Option (Nat×(AV×AV))),iE Y w es l->pJ P t k es i=some r->∃r',(Instr.findAsking t u l i).run P w= .ok r' w/\Ij Y w es l i r r'
 | [],l,i,r,hr,h=>by
   cases h
   have:l=[]:=List.eq_nil_of_length_eq_zero hr.1
   subst this
   exact⟨none,by simp [Instr.findAsking],rfl⟩
 | e :: es,l,i,r,hr,h=>by
   obtain⟨m,ms,rfl,h1,h2,h3⟩:=hr.cons
   simp only [pJ] at h
   split at h
   ·rename_i he
    cases h
    have q:=zT 20 10000 t k e.1 u m.key true (by omega) he hu h1
    refine⟨some (i,m.val),?_,0,m,rfl,rfl,rfl,rfl,h1,h2⟩
    simp [Instr.findAsking,Op.equal,Op.maxDepth,q]
   ·rename_i he
    have q:=zT 20 10000 t k e.1 u m.key false (by omega) he hu h1
    obtain⟨r',k1,k2⟩:=JY hu es ms (i+1) r h3 h
    refine⟨r',?_,k2.cons⟩
    simp [Instr.findAsking,Op.equal,Op.maxDepth,q,k1]
   ·cases h
theorem JZ {t:Nat} {k:AV} {u:Value} {dd:TypeDesc} (hd:P.underlying t=some dd)(hu:aI Y w k u):∀(es:List (AV×AV)) (l:List MapEntry) (i:Nat) (r:Option (Nat×(AV×AV))) (r':Option (Nat×Value)),iE Y w es l->pJ P t k es i=some r->Instr.findNow dd u l i=some r'->Ij Y w es l i r r'
 | [],l,i,r,r',hr,h,hn=>by
   cases h
   have:l=[]:=List.eq_nil_of_length_eq_zero hr.1
   subst this
   simp only [Instr.findNow,oW] at hn
   exact hn.symm
 | e :: es,l,i,r,r',hr,h,hn=>by
   obtain⟨m,ms,rfl,h1,h2,h3⟩:=hr.cons
   simp only [pJ] at h
   simp only [Instr.findNow] at hn
   split at h
   ·rename_i he
    cases h
    split at hn
    ·cases hn
     exact⟨0,m,rfl,rfl,rfl,rfl,h1,h2⟩
    ·rename_i hs;have:=TA he hu h1 hd hs;cases this
    ·cases hn
   ·rename_i he
    split at hn
    ·rename_i hs;have:=TA he hu h1 hd hs;cases this
    ·exact(JZ hd hu es ms (i+1) r r' h3 h hn).cons
    ·cases hn
   ·cases h
theorem tJ {t:Nat} {T:AT} (hT:tyOf P t=some T) {k:AV} {u:Value} (hu:aI Y w k u) {es:List (AV×AV)} {l:List MapEntry} {r:Option (Nat×(AV×AV))} (hr:iE Y w es l)(h:pJ P t k es 0=some r):∃r',(Instr.findKey t u l).run P w= .ok r' w/\Ij Y w es l 0 r r':=by
 obtain⟨i,d,z,h1,h2,_⟩:=eU hT
 unfold Instr.findKey
 simp only [Sem.run_bind,aP h2,Result.jC]
 cases hn:Instr.findNow d u l 0 with
 | some r'=>exact⟨r',by simp,JZ h2 hu es l 0 r r' hr h hn⟩
 | none=>exact JY hu es l 0 r hr h
theorem Dq {t:Nat} {k:AV} (h:wK P t k=true):∃T,tyOf P t=some T:=by
 unfold wK at h
 split at h
 ·exact⟨_,by assumption⟩
 ·cases h
theorem J3 (hs:g_ G Y Z w) {x:AV} {u:Value} {es:List (AV×AV)} (hx:aI Y w x u)(h:Dc Z x=some es):(u= .map none/\es=[])\/∃b ents clock,u= .map (some b)/\w.heap[b]? =some (.map ents clock)/\iE Y w es ents.toList:=by
 unfold Dc at h
 split at h
 ·cases h;exact .inl ⟨hx,rfl⟩
 ·rename_i o g
  split at h
  ·rename_i g' ro es' ho
   split at h
   ·rename_i hg
    subst hg
    cases h
    obtain⟨b,hb,rfl⟩:=hx
    obtain⟨b',wL,h1,h2⟩:=hs.obj o _ ho rfl
    have:=h1.symm.trans hb
    cases this
    obtain⟨_,ents,clock,h3,h4⟩:=h2
    exact .inr ⟨b,ents,clock,rfl,h3,h4⟩
   ·cases h
  ·cases h
 ·cases h
theorem uY {b:Nat} {es:Array MapEntry} {c:Nat} (h:w.heap[b]? =some (.map es c)):(getObj b).run P w= .ok (.map es c) w:=by simp [getObj,Sem.run,h]
theorem run_set {b:Nat} {es:Array MapEntry} {c:Nat} {o':Obj} (h:w.heap[b]? =some (.map es c)):(setObj b o').run P w= .ok () { w with heap:=w.heap.setIfInBounds b o' } :=by simp [setObj,Sem.run,h]
theorem XT {t kt et:Nat} {u v:Value} {ok:Bool} (hT:P.underlying t=some (.map kt et)) {ents:Array MapEntry} (hu:(u= .map none/\ents= #[])\/∃b c,u= .map (some b)/\w.heap[b]? =some (.map ents c))
 (hc:(Instr.checkKey ents.isEmpty 10000 kt v).run P w= .ok () w) {r':Option (Nat×Value)} (hf:(Instr.findKey kt v ents.toList).run P w= .ok r' w) {z:Value} (hz:(zeroValue et).run P w= .ok z w) :
 (Instr.lookup t u v ok).run P w= .ok (match r' with
  | some (_,x)=>if ok then .tuple #[x,.bool true] else x
  | none=>if ok then .tuple #[z,.bool false] else z) w:=by
 unfold Instr.lookup
 rcases hu with ⟨rfl,rfl⟩ | ⟨b,c,rfl,hb⟩
 ·simp only [Sem.run_bind,aP hT,Result.jC,Sem.run_pure,hc,hf]
  cases r' with
  | none=>simp [hz]
  | some r'=>simp
 ·simp only [Sem.run_bind,aP hT,Result.jC,Sem.run_pure,uY hb,hc,hf]
  cases r' with
  | none=>simp [hz]
  | some r'=>simp
theorem XU {t:Nat} {x k a:AV} {ok:Bool} {u v:Value} (hs:g_ G Y Z w)(h:Nr P t x k ok Z=some a)(hx:aI Y w x u)(hk:aI Y w k v):Gives P Y w (Instr.lookup t u v ok) a:=by
 unfold Nr at h
 split at h
 ·rename_i kt et _ _ _ _ _ _ hT
  split at h
  ·rename_i es E hes hE
   split at h
   ·rename_i hko
    rw [iU] at h
    obtain⟨r,hr,h⟩:=h
    obtain⟨KT,hKT⟩:=Dq hko
    obtain⟨z,hz1,hz2⟩:=Dk (w:=w) hE
    have Tj:aI Y w E.zero z:=by rw [<-hz2];exact yh z
    have main:∀(ents:Array MapEntry),iE Y w es ents.toList->((u= .map none/\ents= #[])\/∃b c,u= .map (some b)/\w.heap[b]? =some (.map ents c))->Gives P Y w (Instr.lookup t u v ok) a:=by
     intro ents he hu
     obtain⟨r',q1,q2⟩:=tJ hKT hk he hr
     refine⟨_,XT (nI hT rfl) hu (uX hko hk ents.isEmpty) q1 hz1,?_⟩
     cases r with
     | none=>
       simp only [Ij] at q2
       subst q2
       subst h
       cases ok with
       | true=>exact⟨_,rfl,z,_,rfl,Tj,_,_,rfl,rfl,rfl⟩
       | false=>exact Tj
     | some re=>
       obtain⟨j,e⟩:=re
       obtain⟨n,m,_,_,_,rfl,_,hv⟩:=q2
       subst h
       cases ok with
       | true=>exact⟨_,rfl,m.val,_,rfl,hv,_,_,rfl,rfl,rfl⟩
       | false=>exact hv
    rcases J3 hs hx hes with ⟨rfl,rfl⟩ | ⟨b,ents,clock,rfl,hb,he⟩
    ·exact main #[] ⟨rfl,fun i e m h1 _=>by simp at h1⟩ (.inl ⟨rfl,rfl⟩)
    ·exact main ents he (.inr ⟨b,clock,rfl,hb⟩)
   ·cases h
  ·cases h
 ·cases h
theorem XY {t ty:Nat} {x a:AV} {u:Value} (hs:g_ G Y Z w)(h:Xt P t x Z=some a)(hx:aI Y w x u):Gives P Y w (Builtin.len_ #[t] ty #[u]) a:=by
 unfold Xt at h
 split at h
 ·rename_i kt et _ _ _ _ _ _ hT
  rw [iU] at h
  obtain⟨es,hes,rfl⟩:=h
  rcases J3 hs hx hes with ⟨rfl,rfl⟩ | ⟨b,ents,clock,rfl,hb,he⟩
  ·exact⟨_,by simp [Builtin.len_,aP (nI hT rfl)];rfl,rfl⟩
  ·refine⟨goInt ents.size,by simp [Builtin.len_,aP (nI hT rfl),uY hb],?_⟩
   have:=he.1
   simp only [aI,goInt,Value.int.injEq,true_and]
   simp at this
   omega
 ·cases h
theorem XZ {t:Nat} {r:Option AV} {u:Option Value} {a:AV} {Z':St} (hs:g_ G Y Z w)(h:Xr P t r Z=some (a,Z'))(hr:qj Y w r u):xw P G Y Z w (Instr.makeMap t u) a Z':=by
 have main:∀(s:Sem Value),s.run P w=(do pure (.map (some (<-newObj (.map #[] 0)))):Sem Value).run P w->a= .mp Z.length 0->Z'= Z ++ [⟨0,false,.maps []⟩]->xw P G Y Z w s a Z':=by
  rintro s he rfl rfl
  refine⟨.map (some w.heap.size),_,_,?_,⟨w.heap.size,Mu.dG _ _ _ _,rfl⟩,Step.alloc hs ⟨0,false,.maps []⟩ (.map #[] 0) rfl (fun _ _ _ _ hh=>⟨rfl,#[],0,hh,rfl,fun i e m h1 _=>by simp at h1⟩)⟩
  rw [he]
  simp [newObj,Sem.run]
 unfold Xr at h
 split at h
 ·cases h
  cases u with
  | none=>exact main _ (by simp [Instr.makeMap]) rfl rfl
  | some _=>exact hr.elim
 ·rename_i k n
  split at h
  ·rename_i hT
   cases h
   cases u with
   | none=>exact hr.elim
   | some v=>
     have hv:v= .int k n:=hr
     subst hv
     exact main _ (by simp [Instr.makeMap,aP (nI hT rfl),asInt,asIntOf]) rfl rfl
  ·cases h
 ·cases h
theorem Step.ents (hs:g_ G Y Z w) {o g b δ:Nat} {es es':List (AV×AV)} {ents Bl:Array MapEntry} {clock clock':Nat} (ho:Z[o]? =some ⟨g,false,.maps es⟩)(hb:Y o g=some (b,δ))(hh:w.heap[b]? =some (.map ents clock))(hδ:δ=0)(he:iE Y w es' Bl.toList) :
 Step G Y Z w Y (Z.set o ⟨g,false,.maps es'⟩) { w with heap:=w.heap.setIfInBounds b (.map Bl clock') } :=by
 subst hδ
 have hlt:=lt_of_heap hh
 have hw:kK w { w with heap:=w.heap.setIfInBounds b (.map Bl clock') } :=by
  intro b' e' m h
  unfold World.shape? at h ⊢
  show (match (w.heap.setIfInBounds b _)[b']? with | some (.cells c elem _)=>some (elem,c.size) | _=>none)=_
  rw [Array.getElem?_setIfInBounds]
  by_cases he:b=b'
  ·subst he;rw [hh] at h;cases h
  ·rw [if_neg he];exact h
 refine Step.write hs ho rfl rfl rfl b 0 b 0 hb (Nat.le_refl _) (Mu.le_refl Y) hb (fun _ _ _ h=>.inl h) hw rfl rfl rfl (by simp) (by simpa using hlt) (.inl rfl)
  (fun k _ hk=>by show (w.heap.setIfInBounds b _)[k]? =_;rw [Array.getElem?_setIfInBounds,if_neg (fun h=>hk h.symm)]) ⟨rfl,Bl,clock',?_,iE.mono (Mu.le_refl Y) hw _ _ he⟩
 show (w.heap.setIfInBounds b _)[b]? =_
 rw [Array.getElem?_setIfInBounds,if_pos rfl,if_pos hlt]
theorem Dt {k:AV} {u v:Value} (hk:plainKey k=true)(hu:aI Y w k u)(hv:aI Y w k v)(n:Nat):u=v/\Instr.sameBits n u v=true:=by
 cases k <;> simp only [plainKey,nR] at hk <;> simp only [aI] at hu hv <;> subst hu <;> subst hv <;> exact⟨rfl,by first | (simp [Instr.sameBits];done) | (simp [Instr.sameBits,bytes_beq];done) | (simp [Instr.sameBits];exact beq_self_eq_true _)⟩
theorem Bo (n:Nat):∀{cs:List AV} {us vs:List Value},cs.all plainKey=true->aJ Y w cs us->aJ Y w cs vs->us.length=vs.length/\(us.zip vs).all (fun p=>Instr.sameBits n p.1 p.2)=true
 | [],us,vs,_,hu,hv=>by simp only [aJ] at hu hv;subst hu;subst hv;simp
 | c :: cs,us,vs,hk,hu,hv=>by
   simp only [List.all_cons,fJ] at hk
   obtain⟨u,us,rfl,h1,h2⟩:=hu
   obtain⟨v,vs,rfl,h3,h4⟩:=hv
   have q:=Bo n hk.2 h2 h4
   have p:=Dt hk.1 h1 h3 n
   simp [q.1,p.2]
   simpa using q.2
theorem QM {k:AV} {u v:Value} (hk:Ig k=true)(hu:aI Y w k u)(hv:aI Y w k v):Instr.sameBits 10000 u v=true:=by
 unfold Ig at hk
 split at hk
 ·obtain⟨a,rfl,ha⟩:=hu
  obtain⟨b,rfl,hb⟩:=hv
  have q:=Bo 9999 hk ha hb
  have e:Instr.sameBits 10000 (.agg a) (.agg b)=(a.size == b.size && (a.toList.zip b.toList).all fun(x,y)=>Instr.sameBits 9999 x y):=by simp [Instr.sameBits]
  rw [e,fJ]
  exact⟨by simpa using q.1,q.2⟩
 ·exact(Dt hk hu hv 10000).2
theorem O9 {t:Nat} {m k x:AV} {u v y:Value} {Z':St} (hs:g_ G Y Z w)(h:JL P t m k x Z=some Z')(hm:aI Y w m u)(hk:aI Y w k v)(hx:aI Y w x y):∃w',(Instr.mapUpdate t u v y).run P w= .ok () w'/\Step G Y Z w Y Z' w':=by
 unfold JL at h
 split at h
 ·rename_i kt et _ _ _ _ _ _ o g hT
  split at h
  ·rename_i g' es ho
   split at h
   ·rename_i hc
    obtain⟨rfl,hko⟩:=hc
    obtain⟨KT,hKT⟩:=Dq hko
    obtain⟨b,hb,rfl⟩:=hm
    obtain⟨b',wL,h1,h2⟩:=hs.obj o _ ho rfl
    have:=h1.symm.trans hb
    cases this
    obtain⟨_,ents,clock,h3,h4⟩:=h2
    have hc:=uX hko hk false
    split at h
    ·rename_i i e hf
     split at h
     ·rename_i TB
      obtain⟨hkk,TB⟩:=TB
      cases h
      obtain⟨r',q1,q2⟩:=tJ hKT hk h4 hf
      obtain⟨n,me,hj,hes,hme,rfl,hke,_⟩:=q2
      obtain rfl:i=n:=by omega
      have hke':aI Y w k me.key:=by rw [AV.qU _ _ hkk];exact hke
      have hme':ents[i]? =some me:=by simpa using hme
      refine⟨_,?_,Step.ents (Bl:=ents.modify i fun e=>{ e with key:=v,val:=y }) (clock':=clock) hs ho hb h3 rfl ?_⟩
      ·unfold Instr.mapUpdate
       simp only [Sem.run_bind,aP (nI hT rfl),uY h3,hc,q1,Result.jC,hme',Option.map_some,Option.getD_some,Instr.keyThatStays,QM TB hke' hk,if_true,Sem.run_pure,run_set h3]
      ·refine⟨by simpa using h4.1,fun j e' m' h5 h6=>?_⟩
       have hlen:i<es.length:=(List.getElem?_eq_some_iff.1 hes).1
       rw [List.getElem?_set] at h5
       rw [Array.toList_modify,List.getElem?_modify] at h6
       by_cases hij:i=j
       ·subst hij
        rw [if_pos rfl,if_pos hlen] at h5
        cases h5
        rw [hme] at h6
        simp at h6
        subst h6
        exact⟨hk,hx⟩
       ·rw [if_neg hij] at h5
        simp [hij] at h6
        exact h4.2 j e' m' h5 (by simpa using h6)
     ·cases h
    ·rename_i hf
     cases h
     obtain⟨r',q1,q2⟩:=tJ hKT hk h4 hf
     simp only [Ij] at q2
     subst q2
     refine⟨_,?_,Step.ents (Bl:=ents.push { key:=v,val:=y,born:=clock }) (clock':=clock+1) hs ho hb h3 rfl ?_⟩
     ·unfold Instr.mapUpdate
      simp only [Sem.run_bind,aP (nI hT rfl),uY h3,hc,q1,Result.jC,run_set h3]
     ·have hl:=h4.1
      refine⟨by simp at hl ⊢;omega,fun j e' m' h5 h6=>?_⟩
      rw [Array.toList_push] at h6
      by_cases hj:j<es.length
      ·rw [List.getElem?_append_left hj] at h5
       rw [List.getElem?_append_left (by omega)] at h6
       exact h4.2 j e' m' h5 h6
      ·rw [List.getElem?_append_right (by omega)] at h5
       rw [List.getElem?_append_right (by omega)] at h6
       rw [hl] at h6
       have hj0:j - es.length=0:=by
              rcases Nat.eq_zero_or_pos (j - es.length) with h0 | h0
              ·exact h0
              ·rw [List.getElem?_eq_none (by simp;omega)] at h5;cases h5
       rw [hj0] at h5 h6
       cases h5
       cases h6
       exact⟨hk,hx⟩
    ·cases h
   ·cases h
  ·cases h
 ·cases h
theorem X3 {t ty:Nat} {ts:List Nat} {m k:AV} {u v:Value} {Z':St} (hs:g_ G Y Z w)(h:Xq P t m k Z=some Z')(hm:aI Y w m u)(hk:aI Y w k v):∃w',(Builtin.delete_ (t :: ts).toArray ty #[u,v]).run P w= .ok (.tuple #[]) w'/\Step G Y Z w Y Z' w':=by
 unfold Xq at h
 split at h
 ·rename_i kt et _ _ _ _ _ _ hT
  split at h
  ·rename_i hko
   cases h
   have hc:=uX hko hk true
   simp only [aI] at hm
   subst hm
   exact⟨w,by simp [Builtin.delete_,aP (nI hT rfl),hc],Step.refl hs⟩
  ·cases h
 ·rename_i kt et _ _ _ _ _ _ o g hT
  split at h
  ·rename_i g' es ho
   split at h
   ·rename_i hc
    obtain⟨rfl,hko⟩:=hc
    obtain⟨KT,hKT⟩:=Dq hko
    obtain⟨b,hb,rfl⟩:=hm
    obtain⟨b',wL,h1,h2⟩:=hs.obj o _ ho rfl
    have:=h1.symm.trans hb
    cases this
    obtain⟨_,ents,clock,h3,h4⟩:=h2
    have hc:=uX hko hk ents.isEmpty
    split at h
    ·rename_i i e hf
     cases h
     obtain⟨r',q1,q2⟩:=tJ hKT hk h4 hf
     obtain⟨n,me,hj,hes,hme,rfl,hke,_⟩:=q2
     obtain rfl:i=n:=by omega
     have hlen:i<ents.toList.length:=(List.getElem?_eq_some_iff.1 hme).1
     refine⟨_,?_,Step.ents (Bl:=ents.eraseIdxIfInBounds i) (clock':=clock) hs ho hb h3 rfl ?_⟩
     ·simp [Builtin.delete_,aP (nI hT rfl),uY h3,hc,q1,run_set h3]
     ·have he:(ents.eraseIdxIfInBounds i).toList=ents.toList.eraseIdx i:=by
              unfold Array.eraseIdxIfInBounds
              rw [dif_pos (by simpa using hlen),Array.toList_eraseIdx]
      rw [he]
      have hl:=h4.1
      refine⟨by rw [List.length_eraseIdx,List.length_eraseIdx,hl],fun j e' m' h5 h6=>?_⟩
      rw [List.getElem?_eraseIdx] at h5 h6
      split at h5
      ·rename_i hji;rw [if_pos hji] at h6;exact h4.2 j e' m' h5 h6
      ·rename_i hji;rw [if_neg hji] at h6;exact h4.2 (j+1) e' m' h5 h6
    ·rename_i hf
     cases h
     obtain⟨r',q1,q2⟩:=tJ hKT hk h4 hf
     simp only [Ij] at q2
     subst q2
     refine⟨_,?_,Step.ents (Bl:=ents) (clock':=clock) hs ho hb h3 rfl h4⟩
     simp [Builtin.delete_,aP (nI hT rfl),uY h3,hc,q1,run_set h3]
    ·cases h
   ·cases h
  ·cases h
 ·cases h
end
end Go.Abs
namespace Go.Abs
def dh (G:Nat):Operand->Opd->Bool
 | .tmp n,.t m=>n == m
 | .const v,.c a=>AV.eqv (avOf v) a
 | .global g,.c (.p o 0 0)=>g == o && decide (g<G)
 | .func f,.c (.fn (.func k) [] [])=>f == k
 | _,_=>false
def nX (G:Nat):List Operand->List Opd->Bool
 | [],[]=>true
 | x :: xs,y :: ys=>dh G x y && nX G xs ys
 | _,_=>false
def qX (G:Nat):List (Nat×Operand)->List (Nat×Opd)->Bool
 | [],[]=>true
 | x :: xs,y :: ys=>x.1 == y.1 && dh G x.2 y.2 && qX G xs ys
 | _,_=>false
def Gj (G:Nat):Option Operand->Option Opd->Bool
 | none,none=>true
 | some x,some y=>dh G x y
 | _,_=>false
def lI (P:Program)(G:Nat)(b:Builtin)(args:List Operand)(ts:List Nat)(a:AOp):Bool:=
 match b,args,ts,a with
 | .len,[x],[t],.len t' y=>t == t' && dh G x y
 | .len,[x],[t],.mln t' y=>t == t' && dh G x y
 | .delete,[m,k],t :: _,.del t' m' k'=>t == t' && dh G m m' && dh G k k'
 | .append,[x,y],[t,t2],.app t' _ x' y'=>t == t' && (t2 == t || (match P.underlying t2 with | some .string=>true | _=>false)) && dh G x x' && dh G y y'
 | .copy,[x,y],[t,_],.copy t' x' y'=>t == t' && dh G x x' && dh G y y'
 | .min,xs,_,.mn false ys=>nX G xs ys
 | .max,xs,_,.mn true ys=>nX G xs ys
 | _,_,_,_=>false
def tN (P:Program)(G:Nat)(c:Call)(a:AOp):Bool:=
 match c.callee,a with
 | .value f,.call f' args=>dh G f f' && nX G c.args.toList args
 | .invoke r n,.inv r' n' args=>dh G r r' && n == n' && nX G c.args.toList args
 | .builtin b,a=>lI P G b c.args.toList c.argTypes.toList a
 | _,_=>false
def sH (P:Program)(G:Nat)(o:Op)(a:AOp):Bool:=
 match o,a with
 | .move x,.mv y=>dh G x y
 | .assign x,.mv y=>dh G x y
 | .pick c x y,.pick c' x' y'=>dh G c c' && dh G x x' && dh G y y'
 | .alloc t,.alloc t'=>t == t'
 | .box t x,.box t' x'=>t == t' && dh G x x'
 | .build t ps,.build t' qs=>t == t' && qX G ps.toList qs
 | .buildSlice t n ps,.bsl t' n' qs=>t == t' && n == n' && qX G ps.toList qs
 | .load t x,.load t' x'=>t == t' && dh G x x'
 | .store t x y,.store t' x' y'=>t == t' && dh G x x' && dh G y y'
 | .nilCheck x,.nilck x'=>dh G x x'
 | .binOp op t x y _,.bin op' t' x' y'=>op == op' && t == t' && dh G x x' && dh G y y'
 | .unOp op _ x,.un op' x'=>op == op' && dh G x x'
 | .convert s d x,.conv s' d' x'=>s == s' && d == d' && dh G x x'
 | .makeInterface t x,.mki t' x'=>t == t' && dh G x x'
 | .makeFunc f a c,.mkf f' a' c'=>f == f' && nX G a.toList a' && nX G c.toList c'
 | .makeSlice t l c,.mks t' l' c'=>t == t' && dh G l l' && dh G c c'
 | .slice t x lo hi none,.slc t' x' lo' hi'=>t == t' && dh G x x' && Gj G lo lo' && Gj G hi hi'
 | .slice t x lo (some hi) (some mx),.sl3 t' x' lo' hi' mx'=>t == t' && dh G x x' && Gj G lo lo' && dh G hi hi' && dh G mx mx'
 | .fieldAddr t x f,.fad t' x' f'=>t == t' && f == f' && dh G x x'
 | .field t x f,.fld t' x' f'=>t == t' && f == f' && dh G x x'
 | .indexAddr t x i,.iad t' x' i'=>t == t' && dh G x x' && dh G i i'
 | .index t x i,.idx t' x' i'=>t == t' && dh G x x' && dh G i i'
 | .range t x,.rng t' x'=>t == t' && dh G x x'
 | .next x true,.nxt x'=>dh G x x'
 | .typeAssert x xt t ok,.tas x' xt' t' ok'=>xt == xt' && t == t' && ok == ok' && dh G x x'
 | .extract x i,.ext x' i'=>i == i' && dh G x x'
 | .call c,a=>tN P G c a
 | .panic _,.pnc _=>true
 | .makeMap t r,.mkm t' r'=>t == t' && Gj G r r'
 | .lookup t x k ok,.lku t' x' k' ok'=>t == t' && ok == ok' && dh G x x' && dh G k k'
 | .mapUpdate t m k v,.mup t' m' k' v'=>t == t' && dh G m m' && dh G k k' && dh G v v'
 | .insert t m k v,.mup t' m' k' v'=>t == t' && dh G m m' && dh G k k' && dh G v v'
 | _,_=>false
section
variable {P:Program} {G:Nat} {Y:Mu} {Z:St} {w:World}
def qY (G:Nat)(Y:Mu)(w:World)(l:List Opd)(zJ:Opd->AV)(ny:Operand->Value):Prop:=∀x y,dh G x y=true->y∈l->aI Y w (zJ y) (ny x)
theorem nY {l:List Opd} {zJ:Opd->AV} {ny:Operand->Value} (h:qY G Y w l zJ ny):∀{xs:List Operand} {ys:List Opd},nX G xs ys=true->(∀y∈ys,y∈l)->aJ Y w (ys.map zJ) (xs.map ny)
 | [],[],_,_=>rfl
 | [],_ :: _,h,_=>by simp [nX] at h
 | _ :: _,[],h,_=>by simp [nX] at h
 | x :: xs,y :: ys,hk,hl=>by
   simp only [nX,fJ] at hk
   exact⟨ny x,xs.map ny,rfl,h x y hk.1 (hl y (by simp)),nY h hk.2 (fun z hz=>hl z (by simp [hz]))⟩
theorem zU {l:List Opd} {zJ:Opd->AV} {ny:Operand->Value} (h:qY G Y w l zJ ny):∀{xs:List (Nat×Operand)} {ys:List (Nat×Opd)},qX G xs ys=true->(∀y∈ys,y.2∈l)->qA Y w (ys.map fun q=>(q.1,zJ q.2)) (xs.map fun q=>(q.1,ny q.2))
 | [],[],_,_=>rfl
 | [],_ :: _,h,_=>by simp [qX] at h
 | _ :: _,[],h,_=>by simp [qX] at h
 | x :: xs,y :: ys,hk,hl=>by
   simp only [qX,fJ,beq_iff_eq] at hk
   exact⟨(x.1,ny x.2),xs.map fun q=>(q.1,ny q.2),rfl,hk.1.1,h x.2 y.2 hk.1.2 (hl y (by simp)),zU h hk.2 (fun z hz=>hl z (by simp [hz]))⟩
theorem yD {l:List Opd} {zJ:Opd->AV} {ny:Operand->Value} (h:qY G Y w l zJ ny) {x:Option Operand} {y:Option Opd} (hk:Gj G x y=true)(hl:∀z,y=some z->z∈l):qj Y w (y.map zJ) (x.map ny):=by
 cases x <;> cases y <;> simp only [Gj,nR] at hk
 ·trivial
 ·exact h _ _ hk (hl _ rfl)
def yE (zJ:Opd->AV):Prop:=∀v,zJ (.c v)= .ic0->v.val= .ic0
def J4 (P:Program)(G:Nat)(Y:Mu)(Z:St)(w:World)(s:Sem Next)(a:AV)(Z':St):Prop:=
 ∃ n w' Y' v,s.run P w= .ok n w'/\(n= .value v\/(n= .skip/\v=undef))/\aI Y' w' a v/\Step G Y Z w Y' Z' w'
theorem xw.to {s:Sem Value} {a:AV} {Z':St} (h:xw P G Y Z w s a Z'):J4 P G Y Z w (do pure (.value (<-s))) a Z':=by
 obtain⟨v,w',Y',h1,h2,h3⟩:=h
 exact⟨.value v,w',Y',v,by simp [h1],.inl rfl,h2,h3⟩
theorem Gives.to {s:Sem Value} {a:AV} (hs:g_ G Y Z w)(h:Gives P Y w s a):J4 P G Y Z w (do pure (.value (<-s))) a Z:=(h.acts hs).to
theorem Gl {x:Bool} {a b:AV} {u v:Value} (ha:x=true->aI Y w a u)(hb:x=false->aI Y w b v):aI Y w (merge x a b) (if x then u else v):=by
 unfold merge
 cases x with
 | true=>
   have h:=ha rfl
   split <;> simp_all [Df]
 | false=>
   have h:=hb rfl
   split <;> simp_all [Df]
theorem uZ {a:AV} {u:Value} (h:aI Y w a u)(hc:a.cnd=true):aI Y w a.val u:=by
 cases a <;> try exact h
 rename_i c v
 simp only [AV.cnd] at hc;subst hc
 simpa [aI,AV.val] using h
theorem TD {c a b r:AV} {u x y:Value} (h:JM c a b=some r)(hc:aI Y w c u)(ha:aI Y w a x)(hb:aI Y w b y):∃t,u= .bool t/\aI Y w r (if t then x else y):=by
 unfold JM at h
 split at h
 ·rename_i t
  split at h
  ·rename_i hi
   cases h
   simp only [aI] at hc;subst hc
   simp only [oZ,fJ] at hi
   refine⟨t,rfl,Gl (fun ht=>uZ ha (by simpa [ht] using hi.1)) (fun ht=>uZ hb (by simpa [ht] using hi.2))⟩
  ·cases h
 ·cases h
theorem Gm {x:Operand} {v:AV} (h:dh G x (.c v)=true)(hv:v.val= .ic0):∃u,x= .const u:=by
 cases x with
 | const u=>exact⟨u,rfl⟩
 | tmp n=>simp [dh] at h
 | global g=>
   cases v <;> simp only [dh,nR] at h
   simp [AV.val] at hv
 | func f=>
   cases v <;> simp only [dh,nR] at h
   simp [AV.val] at hv
theorem J5 {b:Builtin} {args:Array Operand} {ts:Array Nat} {ty:Nat} {consts:Array Bool} {a:AOp} {zJ:Opd->AV} {ny:Operand->Value} {r:AV} {Z':St} (hs:g_ G Y Z w)(hok:lI P G b args.toList ts.toList a=true)
 (hρ:qY G Y w a.bW zJ ny) (h:jO P zJ a Z=some (r,Z')):J4 P G Y Z w (builtin b ts ty consts (args.map ny)) r Z':=by
 unfold lI at hok
 split at hok
 ·rename_i x t t' y ha ht
  obtain⟨rfl⟩:args= #[x]:=Array.ext' ha
  obtain⟨rfl⟩:ts= #[t]:=Array.ext' ht
  simp only [fJ,beq_iff_eq] at hok
  obtain⟨rfl,hx⟩:=hok
  simp only [jO] at h
  rw [iU] at h
  obtain⟨q,hq,h⟩:=h;cases h
  have e:(#[x]:Array Operand).map ny= #[ny x]:=by simp
  rw [e]
  exact Gives.to hs (Xy hq (hρ _ _ hx (by simp [AOp.bW])))
 ·rename_i x t t' y ha ht
  obtain⟨rfl⟩:args= #[x]:=Array.ext' ha
  obtain⟨rfl⟩:ts= #[t]:=Array.ext' ht
  simp only [fJ,beq_iff_eq] at hok
  obtain⟨rfl,hx⟩:=hok
  simp only [jO] at h
  rw [iU] at h
  obtain⟨q,hq,h⟩:=h;cases h
  have e:(#[x]:Array Operand).map ny= #[ny x]:=by simp
  rw [e]
  exact Gives.to hs (XY hs hq (hρ _ _ hx (by simp [AOp.bW])))
 ·rename_i m k t tr t' m' k' ha ht
  obtain⟨rfl⟩:args= #[m,k]:=Array.ext' ha
  simp only [fJ,beq_iff_eq] at hok
  obtain⟨⟨rfl,hm⟩,hk⟩:=hok
  simp only [jO] at h
  rw [iU] at h
  obtain⟨q,hq,h⟩:=h;cases h
  have e:(#[m,k]:Array Operand).map ny= #[ny m,ny k]:=by simp
  rw [e]
  obtain⟨w',h1,h2⟩:=X3 (ty:=ty) (ts:=tr) hs hq (hρ _ _ hm (by simp [AOp.bW])) (hρ _ _ hk (by simp [AOp.bW]))
  have et:ts=(t :: tr).toArray:=by apply Array.ext';rw [ht]
  rw [et]
  exact(show xw P G Y Z w (Builtin.delete_ (t :: tr).toArray ty #[ny m,ny k]) (.tu []) _ from⟨_,w',Y,h1,⟨#[],rfl,rfl⟩,h2⟩).to
 ·rename_i x y t t2 t' st x' y' ha ht
  obtain⟨rfl⟩:args= #[x,y]:=Array.ext' ha
  obtain⟨rfl⟩:ts= #[t,t2]:=Array.ext' ht
  simp only [fJ,Bool.or_eq_true,beq_iff_eq] at hok
  obtain⟨⟨⟨rfl,ht2⟩,hx⟩,hy⟩:=hok
  simp only [jO] at h
  have e:(#[x,y]:Array Operand).map ny= #[ny x,ny y]:=by simp
  rw [e]
  refine(XQ hs h (hρ _ _ hx (by simp [AOp.bW])) (hρ _ _ hy (by simp [AOp.bW])) ?_).to
  rcases ht2 with rfl | ht2
  ·exact .inl rfl
  ·right
   split at ht2
   ·assumption
   ·cases ht2
 ·rename_i x y t t2 t' x' y' ha ht
  obtain⟨rfl⟩:args= #[x,y]:=Array.ext' ha
  obtain⟨rfl⟩:ts= #[t,t2]:=Array.ext' ht
  simp only [fJ,beq_iff_eq] at hok
  obtain⟨⟨rfl,hx⟩,hy⟩:=hok
  simp only [jO] at h
  have e:(#[x,y]:Array Operand).map ny= #[ny x,ny y]:=by simp
  rw [e]
  exact(Tq hs h (hρ _ _ hx (by simp [AOp.bW])) (hρ _ _ hy (by simp [AOp.bW]))).to
 ·rename_i xs ys ha
  simp only [jO] at h
  rw [iU] at h
  obtain⟨q,hq,h⟩:=h;cases h
  have hr:=nY hρ hok (fun y hy=>by simp [AOp.bW,hy])
  have hm:=Tz (P:=P) (ts:=ts) (ty:=ty) hq hr
  have he:(args.toList.map ny).toArray=args.map ny:=by apply Array.ext';simp
  rw [he] at hm
  exact Gives.to hs hm
 ·rename_i xs ys ha
  simp only [jO] at h
  rw [iU] at h
  obtain⟨q,hq,h⟩:=h;cases h
  have hr:=nY hρ hok (fun y hy=>by simp [AOp.bW,hy])
  have hm:=Tz (P:=P) (ts:=ts) (ty:=ty) hq hr
  have he:(args.toList.map ny).toArray=args.map ny:=by apply Array.ext';simp
  rw [he] at hm
  exact Gives.to hs hm
 ·cases hok
theorem Nz {c:Call} {ty:Nat} {a:AOp} {zJ:Opd->AV} {ny:Operand->Value} {r:AV} {Z':St} (hs:g_ G Y Z w)(hok:tN P G c a=true)(hna:(match a with | .call _ _ | .inv _ _ _=>false | _=>true)=true)
 (hρ:qY G Y w a.bW zJ ny) (h:jO P zJ a Z=some (r,Z')):J4 P G Y Z w (do let d <-resolve ny c ty;invoke d.target d.args) r Z':=by
 cases hb:c.callee with
 | value f=>simp only [tN,hb] at hok;cases a <;> simp at hok hna
 | invoke x m=>simp only [tN,hb] at hok;cases a <;> simp at hok hna
 | builtin b=>
   have hok':lI P G b c.args.toList c.argTypes.toList a=true:=by
    simp only [tN,hb] at hok;exact hok
   have hm:=J5 (ty:=ty) (consts:=c.args.map fun | .const _=>true | _=>false) hs hok' hρ h
   have he:(do let d <-resolve ny c ty;invoke d.target d.args:Sem Next).run P w=(builtin b c.argTypes ty (c.args.map fun | .const _=>true | _=>false) (c.args.map ny)).run P w:=by
    simp only [resolve,hb,invoke,Sem.run_bind,Sem.run_pure,Result.andThen_ok]
    rfl
   obtain⟨n,w',Y',v,h1,h2,h3,h4⟩:=hm
   exact⟨n,w',Y',v,he.trans h1,h2,h3,h4⟩
set_option maxHeartbeats 4000000 in
theorem TF {o:Oper} {a:AOp} {zJ:Opd->AV} {ny:Operand->Value} {r:AV} {Z':St} (hs:g_ G Y Z w)(hok:sH P G o.op a=true)(hρ:qY G Y w a.bW zJ ny)(hn:yE zJ)(h:jO P zJ a Z=some (r,Z')) :
 J4 P G Y Z w (execOp ny o) r Z':=by
 obtain⟨dst,op,ty,pos,after,guard⟩:=o
 simp only at hok
 unfold execOp
 cases op <;> cases a <;> simp only [sH,nR] at hok
 all_goals try simp only [fJ,beq_iff_eq] at hok
 all_goals simp only [jO] at h
 all_goals try (cases h;done)
 all_goals simp only []
 case move.mv x y=>cases h;exact⟨_,w,Y,_,rfl,.inl rfl,hρ _ _ hok (by simp [AOp.bW]),Step.refl hs⟩
 case assign.mv x y=>cases h;exact⟨_,w,Y,_,rfl,.inl rfl,hρ _ _ hok (by simp [AOp.bW]),Step.refl hs⟩
 case pick.pick c x y c' x' y'=>
  rw [iU] at h
  obtain⟨q,hq,h⟩:=h;cases h
  obtain⟨t,ht,hr⟩:=TD hq (hρ _ _ hok.1.1 (by simp [AOp.bW])) (hρ _ _ hok.1.2 (by simp [AOp.bW])) (hρ _ _ hok.2 (by simp [AOp.bW]))
  exact⟨_,w,Y,_,by simp [ht,asBool],.inl rfl,hr,Step.refl hs⟩
 case alloc.alloc t t'=>
  subst hok
  rw [iU] at h
  obtain⟨T,hT,h⟩:=h;cases h
  exact(QG hs hT).to
 case box.box t x t' x'=>
  obtain⟨rfl,hx⟩:=hok
  have hr:=hρ _ _ hx (by simp [AOp.bW])
  split at h
  ·cases h
  ·cases h
  ·cases h
  ·rename_i h1 h2 h3
   cases h
   refine(XI hs hr ?_).to
   generalize zJ x'= z at *
   cases z <;> first | exact .inr ⟨_,rfl⟩ | exact .inl rfl | exact absurd rfl h1 | exact absurd rfl (h2 _) | exact absurd rfl (h3 _ _)
 case build.build t ps t' qs=>
  obtain⟨rfl,hq⟩:=hok
  rw [iU] at h
  obtain⟨q,hq',h⟩:=h;cases h
  refine Gives.to hs (QK hq' ?_)
  rw [Array.toList_map]
  exact zU hρ hq (fun y hy=>by simp only [AOp.bW,List.mem_map];exact⟨y,hy,rfl⟩)
 case buildSlice.bsl t n ps t' n' qs=>
  obtain⟨⟨rfl,rfl⟩,hq⟩:=hok
  refine(XL hs h ?_).to
  rw [Array.toList_map]
  exact zU hρ hq (fun y hy=>by simp only [AOp.bW,List.mem_map];exact⟨y,hy,rfl⟩)
 case load.load t x t' x'=>
  obtain⟨rfl,hx⟩:=hok
  rw [iU] at h
  obtain⟨q,hq,h⟩:=h;cases h
  exact Gives.to hs (Tm hs hq (hρ _ _ hx (by simp [AOp.bW])))
 case store.store t x y t' x' y'=>
  obtain⟨⟨rfl,hx⟩,hy⟩:=hok
  rw [iU] at h
  obtain⟨q,hq,h⟩:=h;cases h
  obtain⟨w',h1,h2⟩:=QH hs hq (hρ _ _ hx (by simp [AOp.bW])) (hρ _ _ hy (by simp [AOp.bW]))
  exact⟨.skip,w',Y,undef,by simp [h1],.inr ⟨rfl,rfl⟩,⟨#[],rfl,rfl⟩,h2⟩
 case nilCheck.nilck x x'=>
  rw [iU] at h
  obtain⟨q,hq,h⟩:=h;cases h
  obtain⟨h1,h3⟩:=XE hq (hρ _ _ hok (by simp [AOp.bW]))
  refine⟨.value (ny x),w,Y,ny x,?_,.inl rfl,h1,Step.refl hs⟩
  revert h3
  generalize ny x=z
  intro h3
  cases z with
  | pointer p=>cases p <;> first | rfl | simp [O7] at h3
  | func f a c=>cases f <;> first | rfl | simp [O7] at h3
  | _=>first | rfl | simp [O7] at h3
 case binOp.bin op t x y yt op' t' x' y'=>
  obtain⟨⟨⟨rfl,rfl⟩,hx⟩,hy⟩:=hok
  rw [iU] at h
  obtain⟨q,hq,h⟩:=h;cases h
  refine Gives.to hs (Xx hq (hρ _ _ hx (by simp [AOp.bW])) (hρ _ _ hy (by simp [AOp.bW])) (fun hc hx0 hy0=>?_))
  simp only [Bool.or_eq_true] at hc
  rcases hc with hc | hc
  ·cases x' with
   | t n=>simp [Opd.isC] at hc
   | c v=>obtain⟨u,rfl⟩:=Gm hx (hn v hx0);rfl
  ·cases y' with
   | t n=>simp [Opd.isC] at hc
   | c v=>obtain⟨u,rfl⟩:=Gm hy (hn v hy0);simp
 case unOp.un op t x op' x'=>
  obtain⟨rfl,hx⟩:=hok
  rw [iU] at h
  obtain⟨q,hq,h⟩:=h;cases h
  exact Gives.to hs (un_rel hq (hρ _ _ hx (by simp [AOp.bW])))
 case convert.conv s d x s' d' x'=>
  obtain⟨⟨rfl,rfl⟩,hx⟩:=hok
  exact(Tt hs h (hρ _ _ hx (by simp [AOp.bW]))).to
 case makeInterface.mki t x t' x'=>
  obtain⟨rfl,hx⟩:=hok
  have hr:=hρ _ _ hx (by simp [AOp.bW])
  split at h
  ·cases h
  ·rename_i T hni hT
   cases h
   obtain⟨i,d,z,h1,h2,h3,h4,_⟩:=eU hT
   refine Gives.to hs ⟨.iface t (ny x),?_,_,rfl,hr⟩
   unfold Instr.makeInterface
   cases d
   case interface ms=>
        exfalso
        simp only [adOf] at h4
        obtain⟨d',_,_,_,_,_,_⟩:=T
        simp only at h4;subst h4
        exact hni _ _ _ _ _ _ _ rfl
   all_goals simp [aP h2]
  ·cases h
 case makeFunc.mkf f a c f' a' c'=>
  obtain⟨⟨rfl,ha⟩,hc⟩:=hok
  cases h
  refine Gives.to hs ⟨.func f (a.map ny) (c.map ny),rfl,_,_,rfl,?_,?_⟩
  ·rw [Array.toList_map];exact nY hρ ha (fun y hy=>by simp [AOp.bW,hy])
  ·rw [Array.toList_map];exact nY hρ hc (fun y hy=>by simp [AOp.bW,hy])
 case makeSlice.mks t l c t' l' c'=>
  obtain⟨⟨rfl,hl⟩,hc⟩:=hok
  exact(XM hs h (hρ _ _ hl (by simp [AOp.bW])) (hρ _ _ hc (by simp [AOp.bW]))).to
 case slice.slc t x lo hi mx t' x' lo' hi'=>
  cases mx with
  | some m=>simp [sH] at hok
  | none=>
    simp only [sH,fJ,beq_iff_eq] at hok
    obtain⟨⟨⟨rfl,hx⟩,hlo⟩,hhi⟩:=hok
    rw [iU] at h
    obtain⟨q,hq,h⟩:=h;cases h
    exact Gives.to hs (XG hs hq (hρ _ _ hx (by simp [AOp.bW])) (yD hρ hlo (fun z hz=>by simp [AOp.bW,hz])) (yD hρ hhi (fun z hz=>by simp [AOp.bW,hz])))
 case slice.sl3 t x lo hi mx t' x' lo' hi' mx'=>
  cases hi with
  | none=>simp [sH] at hok
  | some hi=>
    cases mx with
    | none=>simp [sH] at hok
    | some mx=>
      simp only [sH,fJ,beq_iff_eq] at hok
      obtain⟨⟨⟨⟨rfl,hx⟩,hlo⟩,hhi⟩,hmx⟩:=hok
      rw [iU] at h
      obtain⟨q,hq,h⟩:=h;cases h
      exact Gives.to hs (XF hs hq (hρ _ _ hx (by simp [AOp.bW])) (yD hρ hlo (fun z hz=>by simp [AOp.bW,hz])) (hρ _ _ hhi (by simp [AOp.bW])) (hρ _ _ hmx (by simp [AOp.bW])))
 case fieldAddr.fad t x f t' x' f'=>
  obtain⟨⟨rfl,rfl⟩,hx⟩:=hok
  rw [iU] at h
  obtain⟨q,hq,h⟩:=h;cases h
  exact Gives.to hs (XA hq (hρ _ _ hx (by simp [AOp.bW])))
 case field.fld t x f t' x' f'=>
  obtain⟨⟨rfl,rfl⟩,hx⟩:=hok
  rw [iU] at h
  obtain⟨q,hq,h⟩:=h;cases h
  exact Gives.to hs (XC hq (hρ _ _ hx (by simp [AOp.bW])))
 case indexAddr.iad t x i t' x' i'=>
  obtain⟨⟨rfl,hx⟩,hi⟩:=hok
  rw [iU] at h
  obtain⟨q,hq,h⟩:=h;cases h
  exact Gives.to hs (XD hq (hρ _ _ hx (by simp [AOp.bW])) (hρ _ _ hi (by simp [AOp.bW])))
 case index.idx t x i t' x' i'=>
  obtain⟨⟨rfl,hx⟩,hi⟩:=hok
  rw [iU] at h
  obtain⟨q,hq,h⟩:=h;cases h
  exact Gives.to hs (Xz hq (hρ _ _ hx (by simp [AOp.bW])) (hρ _ _ hi (by simp [AOp.bW])))
 case range.rng t x t' x'=>
  obtain⟨rfl,hx⟩:=hok
  exact(XO hs h (hρ _ _ hx (by simp [AOp.bW]))).to
 case next.nxt x b x'=>
  cases b with
  | false=>simp [sH] at hok
  | true=>
    simp only [sH] at hok
    exact(XP hs h (hρ _ _ hok (by simp [AOp.bW]))).to
 case typeAssert.tas x xt t ok x' xt' t' ok'=>
  obtain⟨⟨⟨rfl,rfl⟩,rfl⟩,hx⟩:=hok
  rw [iU] at h
  obtain⟨q,hq,h⟩:=h;cases h
  exact Gives.to hs (XH hq (hρ _ _ hx (by simp [AOp.bW])))
 case extract.ext x i x' i'=>
  obtain⟨rfl,hx⟩:=hok
  have hr:=hρ _ _ hx (by simp [AOp.bW])
  split at h
  ·rename_i vs hvs
   rw [iU] at h
   obtain⟨q,hq,h⟩:=h;cases h
   rw [hvs] at hr
   obtain⟨arr,harr,hrs⟩:=hr
   obtain⟨u,hu,hur⟩:=hrs.get _ _ hq
   refine Gives.to hs ⟨u,?_,hur⟩
   have hu':arr[i]? =some u:=by simpa using hu
   simp [Instr.extract,harr,hu']
  ·cases h
 case makeMap.mkm t r t' r'=>
  obtain⟨rfl,hr⟩:=hok
  exact(XZ hs h (yD hρ hr (fun z hz=>by simp [AOp.bW,hz]))).to
 case lookup.lku t x k ok t' x' k' ok'=>
  obtain⟨⟨⟨rfl,rfl⟩,hx⟩,hk⟩:=hok
  rw [iU] at h
  obtain⟨q,hq,h⟩:=h;cases h
  exact Gives.to hs (XU hs hq (hρ _ _ hx (by simp [AOp.bW])) (hρ _ _ hk (by simp [AOp.bW])))
 case mapUpdate.mup t m k v t' m' k' v'=>
  obtain⟨⟨⟨rfl,hm⟩,hk⟩,hv⟩:=hok
  rw [iU] at h
  obtain⟨q,hq,h⟩:=h;cases h
  obtain⟨w',h1,h2⟩:=O9 hs hq (hρ _ _ hm (by simp [AOp.bW])) (hρ _ _ hk (by simp [AOp.bW])) (hρ _ _ hv (by simp [AOp.bW]))
  exact⟨.skip,w',Y,undef,by simp [h1],.inr ⟨rfl,rfl⟩,⟨#[],rfl,rfl⟩,h2⟩
 case insert.mup t m k v t' m' k' v'=>
  obtain⟨⟨⟨rfl,hm⟩,hk⟩,hv⟩:=hok
  rw [iU] at h
  obtain⟨q,hq,h⟩:=h;cases h
  obtain⟨w',h1,h2⟩:=O9 hs hq (hρ _ _ hm (by simp [AOp.bW])) (hρ _ _ hk (by simp [AOp.bW])) (hρ _ _ hv (by simp [AOp.bW]))
  exact⟨.skip,w',Y,undef,by simp [h1],.inr ⟨rfl,rfl⟩,⟨#[],rfl,rfl⟩,h2⟩
 all_goals exact Nz hs hok rfl hρ (by simpa only [jO] using h)
end
end Go.Abs
