/- The layer Abs, part 1: abstract values, stores, programs, and a deterministic evaluator over them. Nothing here speaks of the model's worlds. -/
import Derived.Calls
import Derived.Orders
import Derived.Stop.Asserts
namespace Go.Abs

/-- Abstract values. 'u': nothing is known. A pointer or slice names an object, its generation, a place. -/
inductive AV where
  | u
  | b (x : Bool)
  | i (k : IntKind) (n : Int)
  | s (x : List UInt8)
  | p0
  | p (o g off : Nat)
  | sl0
  | sl (o g off n z : Nat)
  | fn (f : Fn) (first cap : List AV)
  | fn0
  | ic (t : Nat) (v : AV)
  | ic0
  | ag (cs : List AV)
  | tu (vs : List AV)
  | mp0
  | mp (o g : Nat)
  | cd (c : Bool) (v : AV)
  deriving Inhabited

inductive AK where
  | cells (e : Nat) (cs : List AV)
  | iter (s : List UInt8) (pos : Nat)
  | maps (es : List (AV × AV))
  | dead
  deriving Inhabited

/-- An object: its generation, whether it may not be written, what it holds. -/
structure AO where
  g : Nat
  ro : Bool
  k : AK
  deriving Inhabited

abbrev St := List AO
abbrev Env := List (Nat × AV)

def get : Env → Nat → AV
  | [], _ => .u
  | (d, v) :: r, n => if d = n then v else get r n

inductive Opd where
  | t (n : Nat)
  | c (v : AV)
  deriving Inhabited

def Opd.ev (e : Env) : Opd → AV
  | .t n => get e n
  | .c v => v

inductive AOp where
  | mv (x : Opd)
  | pick (c a b : Opd)
  | alloc (t : Nat)
  | box (t : Nat) (x : Opd)
  | build (t : Nat) (ps : List (Nat × Opd))
  | bsl (t len : Nat) (ps : List (Nat × Opd))
  | load (t : Nat) (x : Opd)
  | store (t : Nat) (x y : Opd)
  | nilck (x : Opd)
  | bin (op : BinOp) (t : Nat) (x y : Opd)
  | un (op : UnOp) (x : Opd)
  | conv (s d : Nat) (x : Opd)
  | mki (t : Nat) (x : Opd)
  | mkf (f : Fn) (first cap : List Opd)
  | mks (t : Nat) (l c : Opd)
  | slc (t : Nat) (x : Opd) (lo hi : Option Opd)
  | fad (t : Nat) (x : Opd) (f : Nat)
  | fld (t : Nat) (x : Opd) (f : Nat)
  | iad (t : Nat) (x i : Opd)
  | idx (t : Nat) (x i : Opd)
  | rng (t : Nat) (x : Opd)
  | nxt (x : Opd)
  | tas (x : Opd) (xt at_ : Nat) (ok : Bool)
  | ext (x : Opd) (i : Nat)
  | call (f : Opd) (args : List Opd)
  | inv (x : Opd) (m : String) (args : List Opd)
  | len (t : Nat) (x : Opd)
  | app (t : Nat) (str : Bool) (x y : Opd)
  | copy (t : Nat) (x y : Opd)
  | mn (mx : Bool) (xs : List Opd)
  | pnc (x : Opd)
  | mkm (t : Nat) (r : Option Opd)
  | lku (t : Nat) (x k : Opd) (ok : Bool)
  | mup (t : Nat) (m k v : Opd)
  | del (t : Nat) (m k : Opd)
  | mln (t : Nat) (x : Opd)
  | sl3 (t : Nat) (x : Opd) (lo : Option Opd) (hi mx : Opd)
  deriving Inhabited

/-- One operation: where its value goes, whether it is wanted, what it is. -/
structure AI where
  d : Option Nat
  gd : Option (Nat × Bool)
  op : AOp
  deriving Inhabited

inductive AC where
  | skip
  | reg (ops : List AI)
  | drw (ops : List (AI × List AI))
  | seq (a b : AC)
  | cond (x : Opd) (a b : AC)
  | blk (id : Nat) (c : AC)
  | loop (live : List Nat) (c : AC)
  | cut (live : List Nat) (c : AC)
  | exit (id : Nat)
  | ret
  deriving Inhabited

inductive AR where
  | t (n : Nat)
  | cell (a t : Nat)
  deriving Inhabited

structure AF where
  nt : Nat
  res : List AR
  code : AC
  deriving Inhabited

/-! ### Types -/

inductive AD where
  | bool
  | int (k : IntKind)
  | str
  | ptr (e : Nat)
  | slice (e : Nat)
  | arr (n e : Nat)
  | st (fs : List (Nat × Nat × Bool))
  | ifc (ms : List (String × Nat))
  | map (k e : Nat)
  | fn
  | other
  deriving Inhabited

/-- A type: what it is, its cells, its bytes, its zero value, whether it is one of several cells. -/
structure AT where
  d : AD
  size : Nat
  bytes : Nat
  zero : AV
  cmp : Bool
  held : Bool
  guarded : Bool
  deriving Inhabited

def AD.agg : AD → Bool
  | .st _ | .arr _ _ => true
  | _ => false

def adOf : TypeDesc → AD
  | .bool => .bool
  | .int k => .int k
  | .string => .str
  | .pointer e => .ptr e
  | .slice e => .slice e
  | .array n e => .arr n e
  | .struct fs => .st (fs.toList.map fun f => (f.offset, f.type, f.name == "_"))
  | .interface ms => .ifc ms.toList
  | .map k e => .map k e
  | .func _ _ _ => .fn
  | _ => .other

def avOf1 : Value → AV
  | .bool x => .b x
  | .int k n => .i k n
  | .string x => .s x.data.toList
  | .pointer none => .p0
  | .slice none 0 0 => .sl0
  | .nilFunc => .fn0
  | .nilIface => .ic0
  | .map none => .mp0
  | _ => .u
def avOf : Value → AV
  | .agg cs => .ag (cs.toList.map avOf1)
  | v => avOf1 v

def tyOf (P : Program) (t : Nat) : Option AT :=
  match P.info? t, P.underlying t with
  | some i, some d => match i.zero with
    | some z => some ⟨adOf d, i.size, i.bytes, avOf z, i.comparable, P.stoodInHeld t, P.eqGuardType P.depth t⟩
    | none => none
  | _, _ => none

/-! ### What an operation does -/

def AV.one : AV → Bool
  | .u | .ag _ | .tu _ | .cd _ _ => false
  | _ => true

def AV.cells : AV → List AV
  | .ag cs => cs
  | v => [v]

def setCells (cs : List AV) (off : Nat) : List AV → List AV
  | [] => cs
  | y :: ys => setCells (cs.set off y) (off + 1) ys

def newCells (e : Nat) (cs : List AV) (σ : St) : St := σ ++ [⟨0, false, .cells e cs⟩]

/-- The cells of an object, if a reference of that generation may read it. -/
def cellsAt (σ : St) (o g : Nat) : Option (List AV) :=
  match σ[o]? with
  | some ⟨g', _, .cells _ cs⟩ => if g = g' then some cs else none
  | _ => none

def partOf (T : AT) (cs : List AV) (off : Nat) : Option AV :=
  if T.d.agg then (if off + T.size ≤ cs.length then some (.ag ((cs.drop off).take T.size)) else none)
  else cs[off]?

def aLoad (T : Option AT) (x : AV) (σ : St) : Option AV :=
  match T, x with
  | some T, .p o g off => (cellsAt σ o g).bind fun cs => partOf T cs off
  | _, _ => none

def aStore (T : Option AT) (x y : AV) (σ : St) : Option St :=
  match T, x with
  | some T, .p o g off =>
    match σ[o]? with
    | some ⟨g', ro, .cells e cs⟩ =>
      if g = g' ∧ ro = false ∧ y.cells.length = T.size ∧ y.cells.all AV.one = true ∧ off + T.size ≤ cs.length then
        some (σ.set o ⟨g', false, .cells e (setCells cs off y.cells)⟩) else none
    | _ => none
  | _, _ => none

def fillA (place : Nat → Option (Nat × Nat)) (cells : List AV) : List (Nat × AV) → Option (List AV)
  | [] => some cells
  | (i, v) :: rest =>
    match place i with
    | none => none
    | some (off, size) => if v.cells.length = size ∧ off + size ≤ cells.length ∧ v.cells.all AV.one = true then fillA place (setCells cells off v.cells) rest else none

def aBuild (P : Program) (t : Nat) (ps : List (Nat × AV)) : Option AV :=
  match tyOf P t with
  | some T => match T.d with
    | .st fs => if fs.all (fun f => (tyOf P f.2.1).isSome) then (fillA (fun i => (fs[i]?).bind fun f => (tyOf P f.2.1).map fun F => (f.1, F.size)) T.zero.cells ps).map .ag else none
    | .arr _ e => match tyOf P e with
      | some E => (fillA (fun i => some (i * E.size, E.size)) T.zero.cells ps).map .ag
      | none => none
    | _ => none
  | none => none

def AV.isU : AV → Bool
  | .u => true
  | _ => false

def repl (z : List AV) : Nat → List AV
  | 0 => []
  | n + 1 => z ++ repl z n

def aBsl (P : Program) (t len : Nat) (ps : List (Nat × AV)) (σ : St) : Option (AV × St) :=
  match tyOf P t with
  | some ⟨.slice e, _, _, _, _, _, _⟩ => match tyOf P e with
    | some E => if 0 < E.size ∧ E.zero.cells.length = E.size ∧ len * E.size ≤ 16777216 then
        (fillA (fun i => some (i * E.size, E.size)) (repl E.zero.cells len) ps).map fun cs => (.sl σ.length 0 0 len E.size, newCells e cs σ)
      else none
    | none => none
  | _ => none

def ltBytes : List UInt8 → List UInt8 → Bool := Op.bytesLess

def aCmp (op : BinOp) (x y : Int) : Option AV :=
  match op with
  | .eql => some (.b (x == y))
  | .neq => some (.b (x != y))
  | .lss => some (.b (decide (x < y)))
  | .leq => some (.b (decide (x ≤ y)))
  | .gtr => some (.b (decide (x > y)))
  | .geq => some (.b (decide (x ≥ y)))
  | _ => none

def aBits (op : BinOp) (k : IntKind) (x y : Int) : Option AV :=
  match op with
  | .and => some (.i k (k.wrap (BitVec.ofInt k.bits x &&& BitVec.ofInt k.bits y).toNat))
  | .or => some (.i k (k.wrap (BitVec.ofInt k.bits x ||| BitVec.ofInt k.bits y).toNat))
  | .xor => some (.i k (k.wrap (BitVec.ofInt k.bits x ^^^ BitVec.ofInt k.bits y).toNat))
  | .andNot => some (.i k (k.wrap (BitVec.ofInt k.bits x &&& ~~~(BitVec.ofInt k.bits y)).toNat))
  | _ => none

def aInt (op : BinOp) (k : IntKind) (x y : Int) : Option AV :=
  match op with
  | .add => some (.i k (k.wrap (x + y)))
  | .sub => some (.i k (k.wrap (x - y)))
  | .mul => some (.i k (k.wrap (x * y)))
  | .quo => if y = 0 then none else some (.i k (k.wrap (x.tdiv y)))
  | .rem => if y = 0 then none else some (.i k (x.tmod y))
  | .and | .or | .xor | .andNot => aBits op k x y
  | .shl | .shr => none
  | _ => aCmp op x y

def aShift (op : BinOp) (k : IntKind) (x y : Int) : Option AV :=
  if y < 0 then none else
  match op with
  | .shl => some (.i k (k.wrap (x * 2 ^ (min y.toNat k.bits))))
  | .shr => some (.i k (x.fdiv (2 ^ (min y.toNat k.bits))))
  | _ => none

def aStr (op : BinOp) (x y : List UInt8) : Option AV :=
  match op with
  | .add => if x.length + y.length ≤ 9223372036854775807 then some (.s (x ++ y)) else none
  | .eql => some (.b (x == y))
  | .neq => some (.b (x != y))
  | .lss => some (.b (ltBytes x y))
  | .leq => some (.b (ltBytes x y || x == y))
  | .gtr => some (.b !(ltBytes x y || x == y))
  | .geq => some (.b !(ltBytes x y))
  | _ => none

def aEqFs (P : Program) (eq : Nat → AV → AV → Option Bool) : List (Nat × Nat × Bool) → List AV → List AV → Option Bool
  | [], _, _ => some true
  | f :: fs, xs, ys =>
    if f.2.2 then aEqFs P eq fs xs ys else
    match tyOf P f.2.1 with
    | none => none
    | some F =>
      match partOf F xs f.1, partOf F ys f.1 with
      | some x, some y => match eq f.2.1 x y with
        | some true => aEqFs P eq fs xs ys
        | r => r
      | _, _ => none

/-- Equality of two values of a type: of numbers, bools, strings; of a pointer, slice, function, error and nil; of structs of such fields; of two errors of numbers. -/
def aEq (P : Program) : Nat → Nat → AV → AV → Option Bool
  | 0, _, _, _ => none
  | d + 1, t, x, y =>
    match tyOf P t with
    | none => none
    | some T =>
    match T.d, x, y with
    | .bool, .b p, .b q => some (p == q)
    | .int _, .i k p, .i k' q => if k = k' then some (p == q) else none
    | .str, .s p, .s q => some (p == q)
    | .ptr _, .p0, .p0 => some true
    | .ptr _, .p0, .p _ _ _ | .ptr _, .p _ _ _, .p0 => some false
    | .ptr e, .p o g off, .p o' g' off' => if o = o' ∧ g = g' ∧ 0 < P.cellsOf e then some (off == off') else none
    | .slice _, .sl0, .sl0 => some true
    | .slice _, .sl0, .sl _ _ _ _ _ | .slice _, .sl _ _ _ _ _, .sl0 => some false
    | .fn, .fn0, .fn0 => some true
    | .fn, .fn0, .fn _ _ _ | .fn, .fn _ _ _, .fn0 => some false
    | .map _ _, .mp0, .mp0 => some true
    | .map _ _, .mp0, .mp _ _ | .map _ _, .mp _ _, .mp0 => some false
    | .ifc _, .ic0, .ic0 => some true
    | .ifc _, .ic0, .ic _ _ | .ifc _, .ic _ _, .ic0 => some false
    | .ifc _, .ic t p, .ic t' q => if t = t' then (if (tyOf P t).any (·.cmp) then aEq P d t p q else none) else some false
    | .st fs, .ag xs, .ag ys => if T.held then none else aEqFs P (aEq P d) fs xs ys
    | _, _, _ => none

def Opd.isC : Opd → Bool
  | .c _ => true
  | _ => false

def aBin (P : Program) (op : BinOp) (t : Nat) (x y : AV) (c : Bool) : Option AV :=
  match op, x, y with
  | .shl, .i k a, .i _ b | .shr, .i k a, .i _ b => aShift op k a b
  | _, .i k a, .i k' b => if k = k' then aInt op k a b else none
  | _, .s a, .s b => aStr op a b
  | .eql, .ic0, .ic0 => if c then (aEq P 20 t .ic0 .ic0).map .b else none
  | .neq, .ic0, .ic0 => if c then (aEq P 20 t .ic0 .ic0).map fun r => .b !r else none
  | .eql, .ag _, .ag _ => if (tyOf P t).any (·.guarded) then none else (aEq P 20 t x y).map .b
  | .neq, .ag _, .ag _ => if (tyOf P t).any (·.guarded) then none else (aEq P 20 t x y).map fun r => .b !r
  | .eql, _, _ => (aEq P 20 t x y).map .b
  | .neq, _, _ => (aEq P 20 t x y).map fun r => .b !r
  | _, _, _ => none

def aUn (op : UnOp) (x : AV) : Option AV :=
  match op, x with
  | .neg, .i k n => some (.i k (k.wrap (0 - n)))
  | .xor, .i k n => aBits .xor k (if k.signed then -1 else k.max) n
  | .not, .b p => some (.b !p)
  | _, _ => none

def bytesOf : List AV → Option (List UInt8)
  | [] => some []
  | .i .u8 n :: r => (bytesOf r).map (UInt8.ofNat n.toNat :: ·)
  | _ => none

def aConv (P : Program) (s d : Nat) (x : AV) (σ : St) : Option (AV × St) :=
  match tyOf P s, tyOf P d with
  | some S, some D =>
    match S.d, D.d, x with
    | _, .int k, .i _ n => some (.i k (k.wrap n), σ)
    | _, .str, .i _ n => some (.s (Utf8.encode n).data.toList, σ)
    | .str, .str, .s x => some (.s x, σ)
    | .str, .slice e, .s x => match tyOf P e with
      | some ⟨.int .u8, _, _, _, _, _, _⟩ => some (.sl σ.length 0 0 x.length 1, newCells e (x.map fun b => .i .u8 b.toNat) σ)
      | _ => none
    | .slice e, .str, .sl0 => match tyOf P e with
      | some ⟨.int .u8, _, _, _, _, _, _⟩ => some (.s [], σ)
      | _ => none
    | .slice e, .str, .sl o g off n z => match tyOf P e with
      | some ⟨.int .u8, _, _, _, _, _, _⟩ => if z = 1 then (cellsAt σ o g).bind fun cs => if off + n ≤ cs.length then (bytesOf ((cs.drop off).take n)).map fun b => (.s b, σ) else none else none
      | _ => none
    | _, _, _ => none
  | _, _ => none

def aHi (n m : Nat) : Option AV → Option Nat
  | none => some n
  | some (.i _ h) => if 0 ≤ h ∧ h ≤ m then some h.toNat else none
  | _ => none
def aLo (lo : Option AV) (h : Nat) : Option (Nat × Nat) :=
  match lo with
  | none => some (0, h)
  | some (.i _ l) => if 0 ≤ l ∧ l ≤ h then some (l.toNat, h) else none
  | _ => none
/-- The bounds of a slice expression over so many, a new one at most 'm'. -/
def aBounds (n m : Nat) (lo hi : Option AV) : Option (Nat × Nat) := (aHi n m hi).bind (aLo lo)

def aSlc (P : Program) (t : Nat) (x : AV) (lo hi : Option AV) (σ : St) : Option AV :=
  match tyOf P t with
  | none => none
  | some T =>
    match T.d, x with
    | .str, .s x => (aBounds x.length x.length lo hi).map fun r => .s ((x.drop r.1).take (r.2 - r.1))
    | .slice e, .sl0 => if 0 < P.cellsOf e then (aBounds 0 0 lo hi).map fun _ => .sl0 else none
    | .slice e, .sl o g off n z => if P.cellsOf e = z ∧ 0 < z then (aBounds n n lo hi).map fun r => .sl o g (off + r.1 * z) (r.2 - r.1) z else none
    | .arr n e, .p o g off =>
      if 0 < P.cellsOf e then
        (cellsAt σ o g).bind fun cs => if off + n * P.cellsOf e ≤ cs.length then
          (aBounds n n lo hi).map fun r => .sl o g (off + r.1 * P.cellsOf e) (r.2 - r.1) (P.cellsOf e) else none
      else none
    | _, _ => none

/-- The low bound of a slice expression. -/
def lowOf : Option AV → Option Int
  | none => some 0
  | some (.i _ l) => some l
  | _ => none
/-- A slice expression with three bounds, of a slice. -/
def aSl3 (P : Program) (t : Nat) (x : AV) (lo : Option AV) (hi mx : AV) : Option AV := match tyOf P t, x, hi, mx, lowOf lo with
  | some ⟨.slice e, _, _, _, _, _, _⟩, .sl o g off n z, .i _ h, .i _ m, some l => if P.cellsOf e = z ∧ 0 < z ∧ 0 ≤ l ∧ l ≤ h ∧ h ≤ m ∧ m ≤ n then some (.sl o g (off + l.toNat * z) (h.toNat - l.toNat) z) else none
  | _, _, _, _, _ => none

def aFad (P : Program) (t : Nat) (x : AV) (f : Nat) : Option AV :=
  match tyOf P t, x with
  | some ⟨.st fs, _, _, _, _, _, _⟩, .p o g off => (fs[f]?).bind fun r => if 0 < P.cellsOf r.2.1 then some (.p o g (off + r.1)) else none
  | _, _ => none

def aFld (P : Program) (t : Nat) (x : AV) (f : Nat) : Option AV :=
  match tyOf P t, x with
  | some ⟨.st fs, _, _, _, _, _, _⟩, .ag cs => (fs[f]?).bind fun r => (tyOf P r.2.1).bind fun F => partOf F cs r.1
  | _, _ => none

def aIad (P : Program) (t : Nat) (x i : AV) : Option AV :=
  match tyOf P t, x, i with
  | some ⟨.arr n e, _, _, _, _, _, _⟩, .p o g off, .i _ j => if 0 < P.cellsOf e ∧ 0 ≤ j ∧ j < n then some (.p o g (off + j.toNat * P.cellsOf e)) else none
  | some ⟨.slice e, _, _, _, _, _, _⟩, .sl o g off n z, .i _ j => if P.cellsOf e = z ∧ 0 < z ∧ 0 ≤ j ∧ j < n then some (.p o g (off + j.toNat * z)) else none
  | _, _, _ => none

def aIdx (P : Program) (t : Nat) (x i : AV) : Option AV :=
  match tyOf P t, x, i with
  | some ⟨.arr n e, _, _, _, _, _, _⟩, .ag cs, .i _ j => if 0 ≤ j ∧ j < n then (tyOf P e).bind fun E => partOf E cs (j.toNat * E.size) else none
  | some ⟨.str, _, _, _, _, _, _⟩, .s x, .i _ j => if 0 ≤ j then (x[j.toNat]?).map fun b => .i .u8 b.toNat else none
  | _, _, _ => none

def aLen (P : Program) (t : Nat) (x : AV) : Option AV :=
  match tyOf P t, x with
  | some ⟨.str, _, _, _, _, _, _⟩, .s x => some (.i .i64 x.length)
  | some ⟨.arr n _, _, _, _, _, _, _⟩, _ => some (.i .i64 n)
  | some ⟨.slice _, _, _, _, _, _, _⟩, .sl0 => some (.i .i64 0)
  | some ⟨.slice _, _, _, _, _, _, _⟩, .sl _ _ _ n _ => some (.i .i64 n)
  | _, _ => none

/-- What is appended or copied from: a slice's first cells, or a string's bytes. -/
def srcCells (z : Nat) (x : AV) (σ : St) : Option (Nat × List AV) :=
  match x with
  | .sl0 => some (0, [])
  | .sl o g off n z' => if z' = z then (cellsAt σ o g).bind fun cs => if off + n * z ≤ cs.length then some (n, (cs.drop off).take (n * z)) else none else none
  | .s b => if z = 1 then some (b.length, b.map fun c => .i .u8 c.toNat) else none
  | _ => none

/-- append: behind it the slice that was appended to is no more, but for its first cells' copy. The object stays, one generation further on. -/
def aApp (P : Program) (t : Nat) (x y : AV) (σ : St) : Option (AV × St) :=
  match tyOf P t with
  | some ⟨.slice e, _, _, _, _, _, _⟩ => match tyOf P e with
    | some E =>
      if 0 < E.size ∧ E.zero.cells.length = E.size ∧ 0 < E.bytes then
        (srcCells E.size y σ).bind fun src =>
          if src.1 = 0 then (match x with | .sl0 => some (.sl0, σ) | .sl o g off n z => some (.sl o g off n z, σ) | _ => none) else
          if src.2.all AV.one = true then
            match x with
            | .sl0 => if src.1 * E.bytes ≤ 140737488355328 then some (.sl σ.length 0 0 src.1 E.size, newCells e src.2 σ) else none
            | .sl o g off n z =>
              match σ[o]? with
              | some ⟨g', false, .cells e' cs⟩ =>
                if g = g' ∧ z = E.size ∧ e' = e ∧ off + n * z ≤ cs.length ∧ (n + src.1) * E.bytes ≤ 140737488355328 ∧ ((cs.drop off).take (n * z)).all AV.one = true then
                  some (.sl o (g + 1) 0 (n + src.1) z, σ.set o ⟨g + 1, false, .cells e (((cs.drop off).take (n * z)) ++ src.2)⟩)
                else none
              | _ => none
            | _ => none
          else none
      else none
    | none => none
  | _ => none

def aMks (P : Program) (t : Nat) (l c : AV) (σ : St) : Option (AV × St) :=
  match tyOf P t, l, c with
  | some ⟨.slice e, _, _, _, _, _, _⟩, .i _ l, .i _ c => match tyOf P e with
    | some E =>
      if 0 < E.size ∧ E.zero.cells.length = E.size ∧ 0 ≤ l ∧ l ≤ c ∧ c ≤ 9223372036854775807 ∧ E.bytes * c ≤ 140737488355328 then
        some (.sl σ.length 0 0 l.toNat E.size, newCells e (repl E.zero.cells c.toNat) σ)
      else none
    | none => none
  | _, _, _ => none

def aRng (P : Program) (t : Nat) (x : AV) (σ : St) : Option (AV × St) :=
  match tyOf P t, x with
  | some ⟨.str, _, _, _, _, _, _⟩, .s x => some (.p σ.length 0 0, σ ++ [⟨0, false, .iter x 0⟩])
  | _, _ => none

def aNxt (x : AV) (σ : St) : Option (AV × St) :=
  match x with
  | .p o g 0 => match σ[o]? with
    | some ⟨g', ro, .iter s pos⟩ =>
      if g = g' ∧ ro = false then
        if pos < s.length then
          some (.tu [.b true, .i .i64 pos, .i .i32 (Utf8.decode ⟨s.toArray⟩ pos).1], σ.set o ⟨g', false, .iter s (pos + (Utf8.decode ⟨s.toArray⟩ pos).2)⟩)
        else some (.tu [.b false], σ)
      else none
    | _ => none
  | _ => none

def aCopy (P : Program) (t : Nat) (x y : AV) (σ : St) : Option (AV × St) :=
  match tyOf P t, x with
  | some ⟨.slice e, _, _, _, _, _, _⟩, .sl o g off n z => match tyOf P e with
    | some E => if z = E.size then
        (srcCells z y σ).bind fun src =>
          match σ[o]? with
          | some ⟨g', false, .cells e' cs⟩ =>
            if g = g' ∧ off + n * z ≤ cs.length ∧ src.2.all AV.one = true then
              some (.i .i64 (min src.1 n), σ.set o ⟨g', false, .cells e' (setCells cs off (src.2.take (min src.1 n * z)))⟩)
            else none
          | _ => none
      else none
    | none => none
  | _, _ => none

/-- Has a type all the methods of an interface type? -/
def hasAll (P : Program) (t I : Nat) : Option Bool := match P.underlying I, P.info? t with
  | some (.interface want), some i => some (lacking want i.methods).isEmpty
  | _, _ => none

def aTas (P : Program) (x : AV) (t : Nat) (ok : Bool) : Option AV :=
  match tyOf P t with
  | some T => match T.d, x with
    | .ifc _, .ic t' v => match hasAll P t' t with
      | some true => some (if ok then .tu [.ic t' v, .b true] else .ic t' v)
      | some false => if ok then some (.tu [T.zero, .b false]) else none
      | none => none
    | .ifc _, .ic0 => if ok then some (.tu [T.zero, .b false]) else none
    | .ifc _, _ => none
    | _, .ic0 => if ok then some (.tu [T.zero, .b false]) else none
    | _, .ic t' v => if t' = t then some (if ok then .tu [v, .b true] else v) else if ok then some (.tu [T.zero, .b false]) else none
    | _, _ => none
  | none => none

def aMn (mx : Bool) : List AV → Option AV
  | [.i k a, .i k' b] => if k = k' then some (.i k (if mx then max a b else min a b)) else none
  | _ => none

def aNil : AV → Option AV
  | .p o g off => some (.p o g off)
  | .fn (.func f) a c => some (.fn (.func f) a c)
  | .ic t v => some (.ic t v)
  | _ => none
end Go.Abs
