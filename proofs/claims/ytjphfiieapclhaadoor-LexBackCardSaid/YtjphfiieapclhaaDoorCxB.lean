/- The package-level variables, as far as they matter; a context that knows strings.Fields at this program's two texts. -/
import Derived.Test.YtjphfiieapclhaaDoorCtx
import Derived.Test.YtjphfiieapclhaaDoorTb
import Derived.Test.YtjphfiieapclhaaDoorLx
import Derived.Test.YtjphfiieapclhaaDoorAbs27
namespace Go.Abs.YtjphfiieapclhaaDoor
open Go.Proofs

def asciiSp : List AV := [.i .u8 0, .i .u8 0, .i .u8 0, .i .u8 0, .i .u8 0, .i .u8 0, .i .u8 0, .i .u8 0, .i .u8 0, .i .u8 1, .i .u8 1, .i .u8 1, .i .u8 1, .i .u8 1, .i .u8 0, .i .u8 0, .i .u8 0, .i .u8 0, .i .u8 0, .i .u8 0, .i .u8 0, .i .u8 0, .i .u8 0, .i .u8 0, .i .u8 0, .i .u8 0, .i .u8 0, .i .u8 0, .i .u8 0, .i .u8 0, .i .u8 0, .i .u8 0, .i .u8 1, .i .u8 0, .i .u8 0, .i .u8 0, .i .u8 0, .i .u8 0, .i .u8 0, .i .u8 0, .i .u8 0, .i .u8 0, .i .u8 0, .i .u8 0, .i .u8 0, .i .u8 0, .i .u8 0, .i .u8 0, .i .u8 0, .i .u8 0, .i .u8 0, .i .u8 0, .i .u8 0, .i .u8 0, .i .u8 0, .i .u8 0, .i .u8 0, .i .u8 0, .i .u8 0, .i .u8 0, .i .u8 0, .i .u8 0, .i .u8 0, .i .u8 0, .i .u8 0, .i .u8 0, .i .u8 0, .i .u8 0, .i .u8 0, .i .u8 0, .i .u8 0, .i .u8 0, .i .u8 0, .i .u8 0, .i .u8 0, .i .u8 0, .i .u8 0, .i .u8 0, .i .u8 0, .i .u8 0, .i .u8 0, .i .u8 0, .i .u8 0, .i .u8 0, .i .u8 0, .i .u8 0, .i .u8 0, .i .u8 0, .i .u8 0, .i .u8 0, .i .u8 0, .i .u8 0, .i .u8 0, .i .u8 0, .i .u8 0, .i .u8 0, .i .u8 0, .i .u8 0, .i .u8 0, .i .u8 0, .i .u8 0, .i .u8 0, .i .u8 0, .i .u8 0, .i .u8 0, .i .u8 0, .i .u8 0, .i .u8 0, .i .u8 0, .i .u8 0, .i .u8 0, .i .u8 0, .i .u8 0, .i .u8 0, .i .u8 0, .i .u8 0, .i .u8 0, .i .u8 0, .i .u8 0, .i .u8 0, .i .u8 0, .i .u8 0, .i .u8 0, .i .u8 0, .i .u8 0, .i .u8 0, .i .u8 0, .i .u8 0, .i .u8 0, .i .u8 0, .i .u8 0, .i .u8 0, .i .u8 0, .i .u8 0, .i .u8 0, .i .u8 0, .i .u8 0, .i .u8 0, .i .u8 0, .i .u8 0, .i .u8 0, .i .u8 0, .i .u8 0, .i .u8 0, .i .u8 0, .i .u8 0, .i .u8 0, .i .u8 0, .i .u8 0, .i .u8 0, .i .u8 0, .i .u8 0, .i .u8 0, .i .u8 0, .i .u8 0, .i .u8 0, .i .u8 0, .i .u8 0, .i .u8 0, .i .u8 0, .i .u8 0, .i .u8 0, .i .u8 0, .i .u8 0, .i .u8 0, .i .u8 0, .i .u8 0, .i .u8 0, .i .u8 0, .i .u8 0, .i .u8 0, .i .u8 0, .i .u8 0, .i .u8 0, .i .u8 0, .i .u8 0, .i .u8 0, .i .u8 0, .i .u8 0, .i .u8 0, .i .u8 0, .i .u8 0, .i .u8 0, .i .u8 0, .i .u8 0, .i .u8 0, .i .u8 0, .i .u8 0, .i .u8 0, .i .u8 0, .i .u8 0, .i .u8 0, .i .u8 0, .i .u8 0, .i .u8 0, .i .u8 0, .i .u8 0, .i .u8 0, .i .u8 0, .i .u8 0, .i .u8 0, .i .u8 0, .i .u8 0, .i .u8 0, .i .u8 0, .i .u8 0, .i .u8 0, .i .u8 0, .i .u8 0, .i .u8 0, .i .u8 0, .i .u8 0, .i .u8 0, .i .u8 0, .i .u8 0, .i .u8 0, .i .u8 0, .i .u8 0, .i .u8 0, .i .u8 0, .i .u8 0, .i .u8 0, .i .u8 0, .i .u8 0, .i .u8 0, .i .u8 0, .i .u8 0, .i .u8 0, .i .u8 0, .i .u8 0, .i .u8 0, .i .u8 0, .i .u8 0, .i .u8 0, .i .u8 0, .i .u8 0, .i .u8 0, .i .u8 0, .i .u8 0, .i .u8 0, .i .u8 0, .i .u8 0, .i .u8 0, .i .u8 0, .i .u8 0, .i .u8 0, .i .u8 0, .i .u8 0, .i .u8 0, .i .u8 0, .i .u8 0, .i .u8 0, .i .u8 0, .i .u8 0, .i .u8 0, .i .u8 0]
def dead : AO := ⟨0, true, .dead⟩
/-- The package-level variables, as far as they matter. -/
def G0 : St := [dead, ⟨0, true, .cells 76 asciiSp⟩, dead, dead, dead, ⟨0, true, .cells 26 [.ic 134 .u]⟩, dead, dead, dead, dead, dead]
theorem okG0 : okGlob 11 G0 = true := by decide +kernel
/-- Does a call come to a new list of strings? -/
def isStrs (n : Nat) (cs : List AV) (r : Option (AV × St)) : Bool := match r with
  | some (.sl o g off m z, s) => Nat.beq off 0 && Nat.beq m n && Nat.beq z 1 && (match s[o]? with
    | some ⟨g', ro, .cells e cs'⟩ => Nat.beq g g' && !ro && Nat.beq e 9 && AV.eqvs cs' cs
    | _ => false)
  | _ => false
theorem isStrs_ok {X : Ctx} {k f : Nat} {args : List AV} {σ : St} {n : Nat} {cs : List AV} (h : isStrs n cs (aFn X k f args σ) = true) : CallF X f args σ fun a s => ∃ o g, a = .sl o g 0 n 1 ∧ s[o]? = some ⟨g, false, .cells 9 cs⟩ := by
  unfold isStrs at h
  split at h
  · rename_i o g off m z s hr
    simp only [Bool.and_eq_true] at h
    obtain ⟨⟨⟨h1, h2⟩, h3⟩, h4⟩ := h
    split at h4
    · rename_i g' ro e cs' ho
      simp only [Bool.and_eq_true, Bool.not_eq_true'] at h4
      obtain ⟨⟨⟨q1, q2⟩, q3⟩, q4⟩ := h4
      refine ⟨⟨k, _, hr, o, g, ?_, ?_⟩⟩
      · rw [Nat.eq_of_beq_eq_true h1, Nat.eq_of_beq_eq_true h2, Nat.eq_of_beq_eq_true h3]
      · simp only; rw [ho, Nat.eq_of_beq_eq_true q1, q2, Nat.eq_of_beq_eq_true q3, AV.eqvs_eq _ _ q4]
    · cases h4
  · cases h
def keysText : List UInt8 := [102, 117, 110, 99, 32, 118, 97, 114, 32, 112, 116, 114, 32, 105, 102, 32, 101, 108, 115, 101, 32, 119, 104, 105, 108, 101, 32, 111, 117, 116, 32, 102, 114, 101, 101, 32, 100, 114, 97, 105, 110, 32, 114, 101, 116, 117, 114, 110, 32, 110, 101, 119, 32, 105, 110]
def twosText : List UInt8 := [124, 124, 32, 38, 38, 32, 61, 61, 32, 33, 61, 32, 60, 61, 32, 62, 61, 32, 60, 60, 32, 62, 62]
theorem fields_keys : isStrs 12 (keys.map .s) (aFn XB 1000 16 [.s keysText] G0) = true := by kernel_rfl
theorem fields_twos : isStrs 8 (twos.map .s) (aFn XB 1000 16 [.s twosText] G0) = true := by kernel_rfl
def fieldsLaw : LawF XB G0 where
  f := 16
  g := fun args => match args with
    | [.s t] => if t = keysText then some ⟨fun o g => .sl o g 0 12 1, 9, keys.map .s⟩ else if t = twosText then some ⟨fun o g => .sl o g 0 8 1, 9, twos.map .s⟩ else none
    | _ => none
  ok := by
    intro args R h
    split at h
    · split at h
      · rename_i ht; subst ht; cases h
        exact ⟨rfl, rfl, good_sl _ _ _ _, isStrs_ok fields_keys⟩
      · split at h
        · rename_i ht; subst ht; cases h
          exact ⟨rfl, rfl, good_sl _ _ _ _, isStrs_ok fields_twos⟩
        · cases h
    · cases h
@[reducible] noncomputable def X : Ctx := XB.makes G0 [fieldsLaw]
theorem X_sound : X.Sound 11 := Ctx.makes_sound XB_sound okG0 _
theorem fields_keys_to (σ : St) (Q : AV → St → Prop) (ht : σ.take G0.length = G0) (q : Q (.sl σ.length 0 0 12 1) (newCells 9 (keys.map .s) σ)) : CallF X 16 [.s keysText] σ Q :=
  CallF.made fieldsLaw rfl (R := ⟨fun o g => .sl o g 0 12 1, 9, keys.map .s⟩) (by simp [fieldsLaw]) ht q
theorem fieldsLaw_twos : fieldsLaw.g [.s twosText] = some ⟨fun o g => .sl o g 0 8 1, 9, twos.map .s⟩ := by
  have h : twosText ≠ keysText := by decide
  simp [fieldsLaw, h]
theorem fields_twos_to (σ : St) (Q : AV → St → Prop) (ht : σ.take G0.length = G0) (q : Q (.sl σ.length 0 0 8 1) (newCells 9 (twos.map .s) σ)) : CallF X 16 [.s twosText] σ Q :=
  CallF.made fieldsLaw rfl fieldsLaw_twos ht q
end Go.Abs.YtjphfiieapclhaaDoor
