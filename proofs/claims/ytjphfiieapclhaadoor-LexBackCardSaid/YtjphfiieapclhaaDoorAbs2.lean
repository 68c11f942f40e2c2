/- The layer Abs, part 2: the evaluator of operations, code, functions; and what it comes to, as rules to rewrite by. -/
import Derived.Test.YtjphfiieapclhaaDoorAbs1
namespace Go.Abs

mutual
def AV.eqv : AV → AV → Bool
  | .u, .u => true
  | .b x, .b y => x == y
  | .i k1 n1, .i k2 n2 => k1 == k2 && n1 == n2
  | .s x, .s y => x == y
  | .p0, .p0 => true
  | .p x1 x2 x3, .p y1 y2 y3 => x1 == y1 && x2 == y2 && x3 == y3
  | .sl0, .sl0 => true
  | .sl x1 x2 x3 x4 x5, .sl y1 y2 y3 y4 y5 => x1 == y1 && x2 == y2 && x3 == y3 && x4 == y4 && x5 == y5
  | .fn f1 x1 x2, .fn f2 y1 y2 => f1 == f2 && AV.eqvs x1 y1 && AV.eqvs x2 y2
  | .fn0, .fn0 => true
  | .ic t1 v1, .ic t2 v2 => t1 == t2 && AV.eqv v1 v2
  | .ic0, .ic0 => true
  | .ag x1, .ag y1 => AV.eqvs x1 y1
  | .tu x1, .tu y1 => AV.eqvs x1 y1
  | .mp0, .mp0 => true
  | .mp x1 x2, .mp y1 y2 => x1 == y1 && x2 == y2
  | .cd c1 v1, .cd c2 v2 => c1 == c2 && AV.eqv v1 v2
  | _, _ => false
def AV.eqvs : List AV → List AV → Bool
  | [], [] => true
  | x :: xs, y :: ys => AV.eqv x y && AV.eqvs xs ys
  | _, _ => false
end

mutual
theorem AV.eqv_eq : ∀ x y, AV.eqv x y = true → x = y := by
  intro x y h
  match x with
  | .u | .b _ | .i _ _ | .s _ | .p0 | .p _ _ _ | .sl0 | .sl _ _ _ _ _ | .fn0 | .ic0 | .mp0 | .mp _ _ => cases y <;> simp_all [AV.eqv]
  | .fn f1 x1 x2 =>
    cases y <;> simp only [AV.eqv, Bool.and_eq_true, beq_iff_eq, Bool.false_eq_true] at h
    rw [h.1.1, AV.eqvs_eq _ _ h.1.2, AV.eqvs_eq _ _ h.2]
  | .ic t1 v1 =>
    cases y <;> simp only [AV.eqv, Bool.and_eq_true, beq_iff_eq, Bool.false_eq_true] at h
    rw [h.1, AV.eqv_eq _ _ h.2]
  | .cd t1 v1 =>
    cases y <;> simp only [AV.eqv, Bool.and_eq_true, beq_iff_eq, Bool.false_eq_true] at h
    rw [h.1, AV.eqv_eq _ _ h.2]
  | .ag x1 =>
    cases y <;> simp only [AV.eqv, Bool.false_eq_true] at h
    rw [AV.eqvs_eq _ _ h]
  | .tu x1 =>
    cases y <;> simp only [AV.eqv, Bool.false_eq_true] at h
    rw [AV.eqvs_eq _ _ h]
theorem AV.eqvs_eq : ∀ x y, AV.eqvs x y = true → x = y := by
  intro x y h
  match x with
  | [] => cases y <;> simp_all [AV.eqvs]
  | z :: zs =>
    cases y <;> simp only [AV.eqvs, Bool.and_eq_true, Bool.false_eq_true] at h
    rw [AV.eqv_eq _ _ h.1, AV.eqvs_eq _ _ h.2]
end

mutual
@[simp] theorem AV.eqv_refl : ∀ a, AV.eqv a a = true := by
  intro x
  match x with
  | .u | .b _ | .i _ _ | .s _ | .p0 | .p _ _ _ | .sl0 | .sl _ _ _ _ _ | .fn0 | .ic0 | .mp0 | .mp _ _ => simp [AV.eqv]
  | .fn f x1 x2 => simp [AV.eqv, AV.eqvs_refl x1, AV.eqvs_refl x2]
  | .ic t v => simp [AV.eqv, AV.eqv_refl v]
  | .cd t v => simp [AV.eqv, AV.eqv_refl v]
  | .ag x1 => simp [AV.eqv, AV.eqvs_refl x1]
  | .tu x1 => simp [AV.eqv, AV.eqvs_refl x1]
@[simp] theorem AV.eqvs_refl : ∀ l, AV.eqvs l l = true := by
  intro x
  match x with
  | [] => rfl
  | z :: zs => simp [AV.eqvs, AV.eqv_refl z, AV.eqvs_refl zs]
end

def AK.eqv : AK → AK → Bool
  | .cells e cs, .cells e' cs' => e == e' && AV.eqvs cs cs'
  | .iter s p, .iter s' p' => s == s' && p == p'
  | .maps a, .maps b => AV.eqvs (a.map (·.1)) (b.map (·.1)) && AV.eqvs (a.map (·.2)) (b.map (·.2))
  | .dead, .dead => true
  | _, _ => false
theorem maps_eq : ∀ a b : List (AV × AV), a.map (·.1) = b.map (·.1) → a.map (·.2) = b.map (·.2) → a = b
  | [], [], _, _ => rfl
  | [], _ :: _, h, _ => by simp at h
  | _ :: _, [], h, _ => by simp at h
  | (x, y) :: a, (x', y') :: b, h, k => by
    simp only [List.map_cons, List.cons.injEq] at h k
    rw [maps_eq a b h.2 k.2, h.1, k.1]
theorem AK.eqv_eq (a b : AK) (h : AK.eqv a b = true) : a = b := by
  cases a <;> cases b <;> simp only [AK.eqv, Bool.and_eq_true, beq_iff_eq] at h
  all_goals first
    | exact h.elim
    | rfl
    | (rw [h.1, AV.eqvs_eq _ _ h.2])
    | (rw [h.1, h.2])
    | (rw [maps_eq _ _ (AV.eqvs_eq _ _ h.1) (AV.eqvs_eq _ _ h.2)])
    | simp at h
@[simp] theorem AK.eqv_refl (a : AK) : AK.eqv a a = true := by cases a <;> simp [AK.eqv]
def AO.eqv (a b : AO) : Bool := a.g == b.g && a.ro == b.ro && AK.eqv a.k b.k
def stEqv : St → St → Bool
  | [], [] => true
  | a :: as, b :: bs => AO.eqv a b && stEqv as bs
  | _, _ => false
theorem stEqv_eq : ∀ a b, stEqv a b = true → a = b
  | [], [], _ => rfl
  | [], _ :: _, h => by simp [stEqv] at h
  | _ :: _, [], h => by simp [stEqv] at h
  | ⟨g, r, k⟩ :: as, ⟨g', r', k'⟩ :: bs, h => by
    simp only [stEqv, AO.eqv, Bool.and_eq_true, beq_iff_eq] at h
    rw [stEqv_eq as bs h.2, h.1.1.1, h.1.1.2, AK.eqv_eq k k' h.1.2]
@[simp] theorem stEqv_refl : ∀ a, stEqv a a = true
  | [] => rfl
  | a :: as => by simp [stEqv, AO.eqv, stEqv_refl as]

/-! ### Maps -/
def simpleKey : AD → AV → Bool
  | .bool, .b _ | .int _, .i _ _ | .str, .s _ => true
  | _, _ => false
def simpleParts (P : Program) (cs : List AV) : List (Nat × Nat × Bool) → Bool
  | [] => true
  | f :: fs => (f.2.2 || (match tyOf P f.2.1 with
    | some F => (match partOf F cs f.1 with
      | some x => simpleKey F.d x
      | none => false)
    | none => false)) && simpleParts P cs fs
/-- A key of numbers, bools and texts: what Go can hash, whatever it is. -/
def keyOk (P : Program) (t : Nat) (k : AV) : Bool := match tyOf P t with
  | some T => simpleKey T.d k || (match T.d, k with
    | .st fs, .ag cs => simpleParts P cs fs
    | _, _ => false)
  | none => false
def plainKey : AV → Bool
  | .b _ | .i _ _ | .s _ => true
  | _ => false
/-- Two such keys that are the same are so to the bit. -/
def bitsKey : AV → Bool
  | .ag cs => cs.all plainKey
  | v => plainKey v
def findA (P : Program) (t : Nat) (k : AV) : List (AV × AV) → Nat → Option (Option (Nat × (AV × AV)))
  | [], _ => some none
  | e :: es, i => match aEq P 20 t k e.1 with
    | some true => some (some (i, e))
    | some false => findA P t k es (i + 1)
    | none => none
def entsAt (σ : St) (x : AV) : Option (List (AV × AV)) := match x with
  | .mp0 => some []
  | .mp o g => match σ[o]? with
    | some ⟨g', _, .maps es⟩ => if g = g' then some es else none
    | _ => none
  | _ => none
def aLku (P : Program) (t : Nat) (x k : AV) (ok : Bool) (σ : St) : Option AV := match tyOf P t with
  | some ⟨.map kt et, _, _, _, _, _, _⟩ => match entsAt σ x, tyOf P et with
    | some es, some E => if keyOk P kt k = true then (findA P kt k es 0).map fun r => match r with
        | some (_, e) => if ok then .tu [e.2, .b true] else e.2
        | none => if ok then .tu [E.zero, .b false] else E.zero
      else none
    | _, _ => none
  | _ => none
def aMup (P : Program) (t : Nat) (m k v : AV) (σ : St) : Option St := match tyOf P t, m with
  | some ⟨.map kt _, _, _, _, _, _, _⟩, .mp o g => match σ[o]? with
    | some ⟨g', false, .maps es⟩ => if g = g' ∧ keyOk P kt k = true then
        match findA P kt k es 0 with
        | some (some (i, e)) => if AV.eqv k e.1 = true ∧ bitsKey k = true then some (σ.set o ⟨g', false, .maps (es.set i (k, v))⟩) else none
        | some none => some (σ.set o ⟨g', false, .maps (es ++ [(k, v)])⟩)
        | none => none
      else none
    | _ => none
  | _, _ => none
def aDel (P : Program) (t : Nat) (m k : AV) (σ : St) : Option St := match tyOf P t, m with
  | some ⟨.map kt _, _, _, _, _, _, _⟩, .mp0 => if keyOk P kt k = true then some σ else none
  | some ⟨.map kt _, _, _, _, _, _, _⟩, .mp o g => match σ[o]? with
    | some ⟨g', false, .maps es⟩ => if g = g' ∧ keyOk P kt k = true then
        match findA P kt k es 0 with
        | some (some (i, _)) => some (σ.set o ⟨g', false, .maps (es.eraseIdx i)⟩)
        | some none => some (σ.set o ⟨g', false, .maps es⟩)
        | none => none
      else none
    | _ => none
  | _, _ => none
def aMkm (P : Program) (t : Nat) (r : Option AV) (σ : St) : Option (AV × St) := match r with
  | none => some (.mp σ.length 0, σ ++ [⟨0, false, .maps []⟩])
  | some (.i _ _) => match tyOf P t with
    | some ⟨.map _ _, _, _, _, _, _, _⟩ => some (.mp σ.length 0, σ ++ [⟨0, false, .maps []⟩])
    | _ => none
  | _ => none
def aMln (P : Program) (t : Nat) (x : AV) (σ : St) : Option AV := match tyOf P t with
  | some ⟨.map _ _, _, _, _, _, _, _⟩ => (entsAt σ x).map fun es => .i .i64 es.length
  | _ => none

/-! ### Conditional values: of an operation that is wanted under a condition -/
def AV.val : AV → AV
  | .cd _ v => v
  | v => v
def AV.cnd : AV → Bool
  | .cd c _ => c
  | _ => true

def AOp.opds : AOp → List Opd
  | .mv x | .box _ x | .load _ x | .nilck x | .un _ x | .conv _ _ x | .mki _ x | .fad _ x _ | .fld _ x _ | .rng _ x | .nxt x | .tas x _ _ _ | .ext x _ | .len _ x | .pnc x => [x]
  | .pick c a b => [c, a, b]
  | .alloc _ => []
  | .build _ ps | .bsl _ _ ps => ps.map (·.2)
  | .store _ x y | .bin _ _ x y | .mks _ x y | .iad _ x y | .idx _ x y | .app _ _ x y | .copy _ x y => [x, y]
  | .mkf _ a c => a ++ c
  | .slc _ x l h => x :: (l.toList ++ h.toList)
  | .call f a => f :: a
  | .inv x _ a => x :: a
  | .mn _ xs => xs
  | .mkm _ r => r.toList
  | .lku _ x k _ => [x, k]
  | .mup _ m k v => [m, k, v]
  | .del _ m k => [m, k]
  | .mln _ x => [x]
  | .sl3 _ x l h m => x :: h :: m :: l.toList

/-- Does it leave the store as it is, whatever it is given? -/
@[reducible] def AOp.pure : AOp → Bool
  | .mv _ | .pick _ _ _ | .build _ _ | .load _ _ | .nilck _ | .bin _ _ _ _ | .un _ _ | .mki _ _ | .mkf _ _ _ | .slc _ _ _ _ | .fad _ _ _ | .fld _ _ _ | .iad _ _ _ | .idx _ _ _ | .tas _ _ _ _ | .ext _ _ | .len _ _ | .mn _ _ | .lku _ _ _ _ | .mln _ _ | .sl3 _ _ _ _ _ => true
  | _ => false

/-- If a then b. -/
def impB (a b : Bool) : Bool := !a || b
@[simp] theorem impB_self (a : Bool) : impB a a = true := by cases a <;> rfl
@[simp] theorem impB_true (a : Bool) : impB a true = true := by cases a <;> rfl
@[simp] theorem impB_of_true (a : Bool) : impB true a = a := by cases a <;> rfl
@[simp] theorem impB_of_false (a : Bool) : impB false a = true := by cases a <;> rfl
@[simp] theorem impB_and_left (a b : Bool) : impB (a && b) a = true := by cases a <;> cases b <;> rfl
@[simp] theorem impB_and_right (a b : Bool) : impB (a && b) b = true := by cases a <;> cases b <;> rfl
@[simp] theorem impB_or_left (a b : Bool) : impB a (a || b) = true := by cases a <;> cases b <;> rfl
@[simp] theorem impB_or_right (a b : Bool) : impB b (a || b) = true := by cases a <;> cases b <;> rfl

def bsel (x p q : Bool) : Bool := if x then p else q
@[simp] theorem bsel_tt (x q : Bool) : bsel x true q = (x || q) := by cases x <;> simp [bsel]
@[simp] theorem bsel_ff (x p : Bool) : bsel x p false = (x && p) := by cases x <;> simp [bsel]
theorem bsel_eq (x p q : Bool) : bsel x p q = ((x && p) || (!x && q)) := by cases x <;> simp [bsel]
def merge (x : Bool) (a b : AV) : AV :=
  match a, b with
  | .b p, .b q => .b (bsel x p q)
  | p, q => if x then p else q

def aPick (c a b : AV) : Option AV :=
  match c with
  | .b x => if impB x a.cnd && impB (!x) b.cnd then some (merge x a.val b.val) else none
  | _ => none

/-- A choice that is wanted if w. -/
def aPickG (w : Bool) (c a b : AV) : Option AV :=
  match c.val with
  | .b x => if impB w c.cnd && impB (w && x) a.cnd && impB (w && !x) b.cnd then some (.cd w (merge x a.val b.val)) else none
  | _ => none

/-- An operation on values, but for calls. -/
def aOp (P : Program) (ρ : Opd → AV) (op : AOp) (σ : St) : Option (AV × St) :=
  match op with
  | .mv x => some (ρ x, σ)
  | .pick c a b => (aPick (ρ c) (ρ a) (ρ b)).map (·, σ)
  | .alloc t => (tyOf P t).map fun T => (.p σ.length 0 0, newCells t T.zero.cells σ)
  | .box t x => match ρ x with
    | .u | .tu _ | .cd _ _ => none
    | v => some (.p σ.length 0 0, newCells t v.cells σ)
  | .build t ps => (aBuild P t (ps.map fun q => (q.1, ρ q.2))).map (·, σ)
  | .bsl t n ps => aBsl P t n (ps.map fun q => (q.1, ρ q.2)) σ
  | .load t x => (aLoad (tyOf P t) (ρ x) σ).map (·, σ)
  | .store t x y => (aStore (tyOf P t) (ρ x) (ρ y) σ).map (.tu [], ·)
  | .nilck x => (aNil (ρ x)).map (·, σ)
  | .bin op t x y => (aBin P op t (ρ x) (ρ y) (x.isC || y.isC)).map (·, σ)
  | .un op x => (aUn op (ρ x)).map (·, σ)
  | .conv s d x => aConv P s d (ρ x) σ
  | .mki t x => match tyOf P t with
    | some ⟨.ifc _, _, _, _, _, _, _⟩ => none
    | some _ => some (.ic t (ρ x), σ)
    | none => none
  | .mkf f a c => some (.fn f (a.map ρ) (c.map ρ), σ)
  | .mks t l c => aMks P t (ρ l) (ρ c) σ
  | .slc t x l h => (aSlc P t (ρ x) (l.map ρ) (h.map ρ) σ).map (·, σ)
  | .fad t x f => (aFad P t (ρ x) f).map (·, σ)
  | .fld t x f => (aFld P t (ρ x) f).map (·, σ)
  | .iad t x i => (aIad P t (ρ x) (ρ i)).map (·, σ)
  | .idx t x i => (aIdx P t (ρ x) (ρ i)).map (·, σ)
  | .rng t x => aRng P t (ρ x) σ
  | .nxt x => aNxt (ρ x) σ
  | .tas x _ t ok => (aTas P (ρ x) t ok).map (·, σ)
  | .ext x i => match ρ x with
    | .tu vs => (vs[i]?).map (·, σ)
    | _ => none
  | .len t x => (aLen P t (ρ x)).map (·, σ)
  | .app t _ x y => aApp P t (ρ x) (ρ y) σ
  | .copy t x y => aCopy P t (ρ x) (ρ y) σ
  | .mn mx xs => (aMn mx (xs.map ρ)).map (·, σ)
  | .mkm t r => aMkm P t (r.map ρ) σ
  | .lku t x k ok => (aLku P t (ρ x) (ρ k) ok σ).map (·, σ)
  | .mup t m k v => (aMup P t (ρ m) (ρ k) (ρ v) σ).map (.tu [], ·)
  | .del t m k => (aDel P t (ρ m) (ρ k) σ).map (.tu [], ·)
  | .mln t x => (aMln P t (ρ x) σ).map (·, σ)
  | .sl3 t x l h m => (aSl3 P t (ρ x) (l.map ρ) (ρ h) (ρ m)).map (·, σ)
  | .call _ _ | .inv _ _ _ | .pnc _ => none

/-! ### Programs -/

/-- A program as the evaluator takes it: its functions; functions that are known by a contract; the methods of types. -/
structure Ctx where
  P : Program
  fns : Nat → Option AF
  prim : Nat → Option (List AV → St → Option (AV × St))
  meth : Nat → String → AV → Option (Nat × AV)

abbrev Run := Nat → List AV → St → Option (AV × St)

def aCall (X : Ctx) (run : Run) (ρ : Opd → AV) (op : AOp) (σ : St) : Option (AV × St) :=
  match op with
  | .call f args => match ρ f with
    | .fn (.func k) first cap => run k (first ++ args.map ρ ++ cap) σ
    | _ => none
  | .inv x m args => match ρ x with
    | .ic t v => match X.meth t m v with
      | some k => run k.1 (k.2 :: args.map ρ) σ
      | none => none
    | _ => none
  | op => aOp X.P ρ op σ

def put (d : Option Nat) (v : AV) (e : Env) : Env :=
  match d with
  | some d => (d, v) :: e
  | none => e

/-- Is an operation wanted? -/
def wantedA (e : Env) : Option (Nat × Bool) → Option Bool
  | none => some true
  | some (n, w) => match get e n with
    | .b x => some (x == w)
    | .cd c (.b x) => some (c && (x == w))
    | .cd false _ => some false
    | .tu [] => some false
    | _ => none

/-- The value of an operation that is wanted if c. -/
def aLift (c ok : Bool) (o : Option (AV × St)) : Option AV :=
  match o with
  | some r => if ok then some (.cd c r.1) else none
  | none => if c then none else some (.cd false .u)

def aGuardT (P : Program) (e : Env) (op : AOp) (σ : St) : Option AV :=
  match op with
  | .pick q a b => aPickG true (q.ev e) (a.ev e) (b.ev e)
  | op => aLift true (op.opds.all (fun o => impB true (o.ev e).cnd)) (aOp P (fun o => (o.ev e).val) op σ)
def aGuard (P : Program) (c : Bool) (e : Env) (op : AOp) (σ : St) : Option AV := if c then aGuardT P e op σ else some (.cd false .u)

def aStep (X : Ctx) (run : Run) (e : Env) (a : AI) (σ : St) : Option (AV × St) :=
  match a.gd with
  | none => aCall X run (Opd.ev e) a.op σ
  | some g => match wantedA e (some g) with
    | none => none
    | some c =>
      if a.op.pure then
        (aGuard X.P c e a.op σ).map (·, σ)
      else if c then (if a.op.opds.all (fun o => (o.ev e).cnd) then aCall X run (fun o => (o.ev e).val) a.op σ else none)
      else some (.tu [], σ)

def aOps (X : Ctx) (run : Run) : List AI → Env → St → Option (Env × St)
  | [], e, σ => some (e, σ)
  | a :: r, e, σ => match aStep X run e a σ with
    | some (v, σ') => aOps X run r (put a.d v e) σ'
    | none => none

/-- Does what was read before read the same now? -/
def aAgain (X : Ctx) (e : Env) (σ : St) (a : AI) : Bool :=
  match a.d, aStep X (fun _ _ _ => none) e a σ with
  | some d, some (v, _) => AV.eqv v (get e d)
  | _, _ => false

def aDrw (X : Ctx) (run : Run) : List (AI × List AI) → Env → St → Option (Env × St)
  | [], e, σ => some (e, σ)
  | (a, again) :: r, e, σ => match aStep X run e a σ with
    | some (v, σ') => if again.all (aAgain X e σ') then aDrw X run r (put a.d v e) σ' else none
    | none => none

inductive Out where
  | normal
  | exit (id : Nat)
  | ret
  deriving Inhabited

def clear (live : List Nat) (e : Env) : Env := live.map fun d => (d, get e d)

def aLoop (live : List Nat) (body : Env → St → Option (Out × Env × St)) : Nat → Env → St → Option (Out × Env × St)
  | 0, _, _ => none
  | n + 1, e, σ => match body (clear live e) σ with
    | some (.normal, e', σ') => aLoop live body n e' σ'
    | r => r

def aCode (X : Ctx) (run : Run) (n : Nat) : AC → Env → St → Option (Out × Env × St)
  | .skip, e, σ => some (.normal, e, σ)
  | .reg ops, e, σ => (aOps X run ops e σ).map fun r => (.normal, r.1, r.2)
  | .drw ops, e, σ => (aDrw X run ops e σ).map fun r => (.normal, r.1, r.2)
  | .seq a b, e, σ => match aCode X run n a e σ with
    | some (.normal, e', σ') => aCode X run n b e' σ'
    | r => r
  | .cond x a b, e, σ => match x.ev e with
    | .b true => aCode X run n a e σ
    | .b false => aCode X run n b e σ
    | _ => none
  | .blk id c, e, σ => match aCode X run n c e σ with
    | some (.exit j, e', σ') => some (if j = id then .normal else .exit j, e', σ')
    | r => r
  | .loop live c, e, σ => aLoop live (aCode X run n c) n e σ
  | .cut live c, e, σ => aCode X run n c (clear live e) σ
  | .exit id, e, σ => some (.exit id, e, σ)
  | .ret, e, σ => some (.ret, e, σ)

def aRes1 (P : Program) (e : Env) (σ : St) : AR → Option AV
  | .t n => match get e n with
    | .cd _ _ => none
    | v => some v
  | .cell a t => aLoad (tyOf P t) (get e a) σ

def aResL (P : Program) (e : Env) (σ : St) : List AR → Option (List AV)
  | [] => some []
  | r :: rs => match aRes1 P e σ r, aResL P e σ rs with
    | some v, some vs => some (v :: vs)
    | _, _ => none

def aRes (P : Program) (rs : List AR) (e : Env) (σ : St) : Option AV :=
  match aResL P e σ rs with
  | some [v] => some v
  | some vs => some (.tu vs)
  | none => none

mutual
/-- Nothing in it refers to an object. -/
def AV.flat : AV → Bool
  | .p _ _ _ | .sl _ _ _ _ _ | .mp _ _ | .fn _ _ _ => false
  | .ic _ v => v.flat
  | .cd _ v => v.flat
  | .ag a => AV.flats a
  | .tu a => AV.flats a
  | _ => true
def AV.flats : List AV → Bool
  | [] => true
  | a :: as => a.flat && AV.flats as
end

/-- What a call leaves: where nothing old was written and the result refers to nothing, the store is the old one. -/
def norm (σ : St) (v : AV) (σ' : St) : AV × St :=
  if v.flat && stEqv (σ'.take σ.length) σ then (v, σ) else (v, σ')

def argEnv : Nat → List AV → Env
  | _, [] => []
  | n, a :: as => (n, a) :: argEnv (n + 1) as

def aFn (X : Ctx) : Nat → Run
  | 0, _, _, _ => none
  | n + 1, f, args, σ =>
    match X.prim f with
    | some g => g args σ
    | none => match X.fns f with
      | some F =>
        if args.length ≤ F.nt then
          match aCode X (aFn X n) n F.code (argEnv 0 args) σ with
          | some (.normal, e, σ') | some (.ret, e, σ') => (aRes X.P F.res e σ').map fun v => norm σ v σ'
          | _ => none
        else none
      | none => none
end Go.Abs
