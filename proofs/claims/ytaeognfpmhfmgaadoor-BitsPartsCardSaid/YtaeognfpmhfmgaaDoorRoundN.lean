/-
  Rounding, in plain words: 'keptN n d' is n / 2^d rounded to a whole number, ties to even; 'roundN neg n e' the word nearest to n 2^e. It is the model's own 'Ieee.double.nearest'.
-/
import Derived.Test.YtaeognfpmhfmgaaDoorBitsSpec
set_option linter.unusedSimpArgs false
set_option linter.unusedVariables false
namespace Go.Plumb

/-- n / 2^k to the nearest whole number, ties to even. -/
def rne (n k : Nat) : Nat := n / 2 ^ k + (if 2 ^ k < 2 * (n % 2 ^ k) ∨ (2 ^ k = 2 * (n % 2 ^ k) ∧ n / 2 ^ k % 2 = 1) then 1 else 0)
def keptN (n : Nat) (d : Int) : Nat := if d ≤ 0 then n * 2 ^ (-d).toNat else rne n d.toNat
def wordN (neg : Bool) (r : Nat) : Nat := if neg then 9223372036854775808 + r else r
/-- How many places fall away of n 2^e. -/
def dropN (n : Nat) (e : Int) : Int := max ((lenN n : Int) - 53) (-1074 - e)
def roundN (neg : Bool) (n : Nat) (e : Int) : Nat :=
  if n = 0 then wordN neg 0 else wordN neg (min ((e + dropN n e + 1074).toNat * 4503599627370496 + keptN n (dropN n e)) 9218868437227405312)

theorem rne_zero (n : Nat) : rne n 0 = n := by simp [rne]; omega

theorem rne_scale (n k j : Nat) : rne (n * 2 ^ j) (k + j) = rne n k := by
  have hj : 0 < 2 ^ j := Nat.two_pow_pos j
  unfold rne
  rw [Nat.pow_add, Nat.mul_div_mul_right _ _ hj, Nat.mul_mod_mul_right]
  have e : 2 * (n % 2 ^ k * 2 ^ j) = (2 * (n % 2 ^ k)) * 2 ^ j := by rw [Nat.mul_assoc]
  rw [e]
  simp only [Nat.mul_lt_mul_right hj, Nat.mul_left_inj (Nat.pos_iff_ne_zero.1 hj)]

theorem keptN_scale (n : Nat) (d : Int) (j : Nat) : keptN (n * 2 ^ j) (d + j) = keptN n d := by
  unfold keptN
  by_cases h : d + j ≤ 0
  · rw [if_pos h, if_pos (by omega), Nat.mul_assoc, ← Nat.pow_add]
    congr 2; omega
  · rw [if_neg h]
    by_cases h' : d ≤ 0
    · rw [if_pos h']
      obtain ⟨i, hi⟩ : ∃ i : Nat, j = i + (d + j).toNat := ⟨(-d).toNat, by omega⟩
      generalize hk : (d + (j : Int)).toNat = k at hi
      have : (-d).toNat = i := by omega
      rw [this, hi, Nat.pow_add, ← Nat.mul_assoc]
      have := rne_scale (n * 2 ^ i) 0 k
      rw [Nat.zero_add, rne_zero] at this
      exact this
    · rw [if_neg h']
      have : (d + (j : Int)).toNat = d.toNat + j := by omega
      rw [this, rne_scale]

theorem lenN_scale (n j : Nat) (h : n ≠ 0) : lenN (n * 2 ^ j) = lenN n + j := by
  have hj : 0 < 2 ^ j := Nat.two_pow_pos j
  have h1 := lenN_ge n h
  have h2 := lt_lenN n
  have h3 : 0 < lenN n := by unfold lenN; rw [if_neg h]; omega
  have e : lenN n + j = (lenN n - 1 + j) + 1 := by omega
  rw [e]
  apply lenN_eq
  · rw [Nat.pow_add]; exact Nat.mul_le_mul_right _ h1
  · have : lenN n - 1 + j + 1 = lenN n + j := by omega
    rw [this, Nat.pow_add]; exact (Nat.mul_lt_mul_right hj).2 h2

theorem roundN_scale (neg : Bool) (n : Nat) (e : Int) (j : Nat) : roundN neg (n * 2 ^ j) (e - j) = roundN neg n e := by
  unfold roundN
  by_cases h : n = 0
  · simp [h]
  · have hj : 0 < 2 ^ j := Nat.two_pow_pos j
    have h' : n * 2 ^ j ≠ 0 := by intro h0; rcases Nat.mul_eq_zero.1 h0 with h0 | h0 <;> omega
    rw [if_neg h, if_neg h']
    have hd : dropN (n * 2 ^ j) (e - j) = dropN n e + j := by unfold dropN; rw [lenN_scale n j h]; omega
    rw [hd, keptN_scale]
    congr 4; omega

/-! The model's own. -/
theorem cut_eq (neg : Bool) (n k : Nat) : Ieee.Toward.even.cut neg n k = rne n k := by
  unfold Ieee.Toward.cut rne
  simp only [Nat.one_shiftLeft]
  by_cases h : k ≤ n.log2 + 2
  · rw [Nat.min_eq_left h]
    by_cases h1 : 2 ^ k < 2 * (n % 2 ^ k)
    · simp [h1]
    · by_cases h2 : 2 ^ k = 2 * (n % 2 ^ k)
      · by_cases h3 : n / 2 ^ k % 2 = 1
        · simp [h3, ← h2]
        · have : n / 2 ^ k % 2 = 0 := by omega
          simp [this, ← h2]
      · simp [h1, h2]
  · rw [Nat.min_eq_right (by omega)]
    have h0 : n < 2 ^ (n.log2 + 1) := Nat.lt_log2_self
    have h1 : 2 ^ (n.log2 + 2) = 2 * 2 ^ (n.log2 + 1) := by rw [Nat.pow_succ]; omega
    have h2 : 2 ^ (n.log2 + 2) ≤ 2 ^ k := Nat.pow_le_pow_right (by decide) (by omega)
    rw [Nat.div_eq_of_lt (by omega : n < 2 ^ (n.log2 + 2)), Nat.mod_eq_of_lt (by omega : n < 2 ^ (n.log2 + 2)), Nat.div_eq_of_lt (by omega : n < 2 ^ k), Nat.mod_eq_of_lt (by omega : n < 2 ^ k)]
    have a1 : ¬ 2 ^ (n.log2 + 2) < 2 * n := by omega
    have a2 : ¬ 2 ^ (n.log2 + 2) = 2 * n := by omega
    have a3 : ¬ 2 ^ k < 2 * n := by omega
    have a4 : ¬ 2 ^ k = 2 * n := by omega
    simp [a1, a2, a3, a4]

theorem nearest_eq (neg : Bool) (n : Nat) (e : Int) : Ieee.double.nearest neg n e = roundN neg n e := by
  have e1 : Ieee.double.signWeight = 9223372036854775808 := by decide
  have e2 : Ieee.double.binade = 4503599627370496 := by decide
  have e3 : Ieee.double.infRung = 9218868437227405312 := by decide
  have e4 : Ieee.double.leastPlace = -1074 := by decide
  have e5 : Ieee.double.fractionBits = 52 := rfl
  unfold Ieee.Format.nearest roundN
  have hw : ∀ r, Ieee.double.word neg r = wordN neg r := fun r => by unfold Ieee.Format.word wordN; rw [e1]
  simp only [hw, e2, e3, e4, e5]
  by_cases h : n = 0
  · simp [h]
  · rw [if_neg h, if_neg h]
    have hl : (lenN n : Int) = n.log2 + 1 := by unfold lenN; rw [if_neg h]; rfl
    have hlast : max (e + (n.log2 : Int) - (52 : Nat)) (-1074) = e + dropN n e := by unfold dropN; omega
    rw [hlast]
    have s1 : (e + dropN n e - -1074).toNat = (e + dropN n e + 1074).toNat := by rw [Int.sub_neg]
    have s2 : (e + dropN n e - e).toNat = (dropN n e).toNat := by rw [show e + dropN n e - e = dropN n e by omega]
    have s3 : (e - (e + dropN n e)).toNat = (-dropN n e).toNat := by rw [show e - (e + dropN n e) = -dropN n e by omega]
    have K : Ieee.Toward.even.cut neg (n <<< (e - (e + dropN n e)).toNat) (e + dropN n e - e).toNat = keptN n (dropN n e) := by
      rw [s2, s3, cut_eq, Nat.shiftLeft_eq]
      unfold keptN
      split
      · rename_i hd
        have : (dropN n e).toNat = 0 := by omega
        rw [this, rne_zero]
      · rename_i hd
        have : (-dropN n e).toNat = 0 := by omega
        rw [this, Nat.pow_zero, Nat.mul_one]
    rw [s1, K]

end Go.Plumb
