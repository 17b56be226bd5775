/-
  What the functions of the package bits (and of its reference) answer, as plain functions on integers. Nothing of the program stands here.
-/
import Derived.Test.YtjlaadadbpffdaaGreatDoorBase
set_option linter.unusedSimpArgs false
set_option linter.unusedVariables false
namespace Go.Plumb

/-- The class of a word: 1 zero, 2 subnormal, 3 normal, 4 infinity, 5 NaN. -/
def classI (x : Int) : Int :=
  if x / 4503599627370496 % 2048 = 2047 then (if x % 4503599627370496 = 0 then 4 else 5)
  else if x / 4503599627370496 % 2048 = 0 then (if x % 4503599627370496 = 0 then 1 else 2) else 3

def nanW : Int := 9221120237041090560
def infW : Int := 9218868437227405312
def signW : Int := 9223372036854775808

def oneI (x : Int) : Int := if classI x = 5 then nanW else x
def negI (x : Int) : Int := if classI x = 5 then nanW else (x + 9223372036854775808) % 18446744073709551616
/-- Parts: of a word that is not finite all is nought, with the error 2. -/
def pNeg (x : Int) : Bool := decide (classI x ≤ 3) && (x / 9223372036854775808 == 1)
def pMan (x : Int) : Int := if classI x = 3 then 4503599627370496 + x % 4503599627370496 else if classI x ≤ 2 then x % 4503599627370496 else 0
def pExp (x : Int) : Int := if classI x = 3 then x / 4503599627370496 % 2048 - 1075 else if classI x = 2 then -1074 else 0
def pErr (x : Int) : Int := if classI x ≤ 3 then 0 else 2

def joinI (neg : Bool) (man exp : Int) : Int :=
  (if exp > 971 then infW else if man ≥ 4503599627370496 then man - 4503599627370496 + (exp + 1075) * 4503599627370496 else man) + (if neg then signW else 0)

def turnI (x n : Int) : Int := if x / 9223372036854775808 = 1 then -n else n
/-- A word's place in the order. -/
def placeI (x : Int) : Int := turnI x (x % 9223372036854775808)
/-- The word at a place. -/
def atI (p : Int) : Int := if p < 0 then 9223372036854775808 + -p else p

/-- Rounded: the rest at the word's top, what is kept. -/
def rndI (r m2 : Int) (more : Bool) : Int := if r > 9223372036854775808 then m2 + 1 else if r = 9223372036854775808 ∧ (more = true ∨ m2 % 2 ≠ 0) then m2 + 1 else m2
def tailI (neg : Bool) (r m2 e : Int) (more : Bool) : Int := if rndI r m2 more = 9007199254740992 then joinI neg 4503599627370496 (e + 1) else joinI neg (rndI r m2 more) e
def compE (x y : Int) : Int := if classI x = 5 ∨ classI y = 5 then 2 else 0
def compI (x y : Int) : Int := if classI x = 5 ∨ classI y = 5 then 0 else if placeI x < placeI y then -1 else if placeI x > placeI y then 1 else 0

def stepsI (x y : Int) : Int := if classI x = 5 ∨ classI y = 5 then 0 else if placeI x < placeI y then placeI y - placeI x else placeI x - placeI y
def nextI (x by' : Int) : Int := if classI x = 5 then 0 else if placeI x = by' * 9218868437227405312 then x else atI (placeI x + by')
def nextE (x : Int) : Int := if classI x = 5 then 2 else 0

theorem placeI_lo {x : Int} (_h0 : 0 ≤ x) (_h1 : x < 18446744073709551616) : -9223372036854775808 < placeI x ∧ placeI x < 9223372036854775808 := by
  unfold placeI turnI; split <;> omega

theorem nan_iff (x : Int) : classI x = 5 ↔ 9218868437227405312 < x % 9223372036854775808 := by
  unfold classI
  split
  · split
    · omega
    · omega
  · split
    · split <;> omega
    · omega

theorem placeI_fin {x : Int} (h0 : 0 ≤ x) (h1 : x < 18446744073709551616) (hn : ¬ classI x = 5) : -9218868437227405312 ≤ placeI x ∧ placeI x ≤ 9218868437227405312 := by
  rw [nan_iff] at hn; unfold placeI turnI; split <;> omega

theorem classI_cases (x : Int) : classI x = 1 ∨ classI x = 2 ∨ classI x = 3 ∨ classI x = 4 ∨ classI x = 5 := by
  unfold classI
  repeat' split
  all_goals simp

theorem ne_self_iff (b : Nat) (hb : b < 18446744073709551616) : (FloatKind.f64.format.order b b != some Ordering.eq) = true ↔ classI b = 5 := by
  rw [nan_iff]
  have e : FloatKind.f64.format.order b b = (FloatKind.f64.format.read b).order (FloatKind.f64.format.read b) := rfl
  rw [e, order_self, read_double b]
  by_cases h : 9218868437227405312 < b % 9223372036854775808
  · simp only [h, decide_true, if_true]
    simp; omega
  · simp only [h, decide_false]
    simp; omega

end Go.Plumb
