/-
  RoundN, RoundL, BitsF: as one text.
-/
import Derived.Test.YtjlaadadbpffdaaGreatDoorBitsSpec
import Derived.Test.YtjlaadadbpffdaaGreatDoorBitsE
set_option linter.unusedSimpArgs false
set_option linter.unusedVariables false
namespace Go.Plumb

/-- n / 2^k to the nearest whole number, ties to even. -/
def rne (n k : Nat) : Nat := n / 2 ^ k + (if 2 ^ k < 2 * (n % 2 ^ k) ∨ (2 ^ k = 2 * (n % 2 ^ k) ∧ n / 2 ^ k % 2 = 1) then 1 else 0)
def keptN (n : Nat) (d : Int) : Nat := if d ≤ 0 then n * 2 ^ (-d).toNat else rne n d.toNat
def wordN (neg : Bool) (r : Nat) : Nat := if neg then 9223372036854775808 + r else r
/-- How many places fall away of n 2^e. -/
def dropN (n : Nat) (e : Int) : Int := max ((lenN n : Int) - 53) (-1074 - e)
def roundN (neg : Bool) (n : Nat) (e : Int) : Nat :=
  if n = 0 then wordN neg 0 else wordN neg (min ((e + dropN n e + 1074).toNat * 4503599627370496 + keptN n (dropN n e)) 9218868437227405312)

theorem rne_zero (n : Nat) : rne n 0 = n := by simp [rne]; omega

theorem rne_scale (n k j : Nat) : rne (n * 2 ^ j) (k + j) = rne n k := by
  have hj : 0 < 2 ^ j := Nat.two_pow_pos j
  unfold rne
  rw [Nat.pow_add, Nat.mul_div_mul_right _ _ hj, Nat.mul_mod_mul_right]
  have e : 2 * (n % 2 ^ k * 2 ^ j) = (2 * (n % 2 ^ k)) * 2 ^ j := by rw [Nat.mul_assoc]
  rw [e]
  simp only [Nat.mul_lt_mul_right hj, Nat.mul_left_inj (Nat.pos_iff_ne_zero.1 hj)]

theorem keptN_scale (n : Nat) (d : Int) (j : Nat) : keptN (n * 2 ^ j) (d + j) = keptN n d := by
  unfold keptN
  by_cases h : d + j ≤ 0
  · rw [if_pos h, if_pos (by omega), Nat.mul_assoc, ← Nat.pow_add]
    congr 2; omega
  · rw [if_neg h]
    by_cases h' : d ≤ 0
    · rw [if_pos h']
      obtain ⟨i, hi⟩ : ∃ i : Nat, j = i + (d + j).toNat := ⟨(-d).toNat, by omega⟩
      generalize hk : (d + (j : Int)).toNat = k at hi
      have : (-d).toNat = i := by omega
      rw [this, hi, Nat.pow_add, ← Nat.mul_assoc]
      have := rne_scale (n * 2 ^ i) 0 k
      rw [Nat.zero_add, rne_zero] at this
      exact this
    · rw [if_neg h']
      have : (d + (j : Int)).toNat = d.toNat + j := by omega
      rw [this, rne_scale]

theorem lenN_scale (n j : Nat) (h : n ≠ 0) : lenN (n * 2 ^ j) = lenN n + j := by
  have hj : 0 < 2 ^ j := Nat.two_pow_pos j
  have h1 := lenN_ge n h
  have h2 := lt_lenN n
  have h3 : 0 < lenN n := by unfold lenN; rw [if_neg h]; omega
  have e : lenN n + j = (lenN n - 1 + j) + 1 := by omega
  rw [e]
  apply lenN_eq
  · rw [Nat.pow_add]; exact Nat.mul_le_mul_right _ h1
  · have : lenN n - 1 + j + 1 = lenN n + j := by omega
    rw [this, Nat.pow_add]; exact (Nat.mul_lt_mul_right hj).2 h2

theorem roundN_scale (neg : Bool) (n : Nat) (e : Int) (j : Nat) : roundN neg (n * 2 ^ j) (e - j) = roundN neg n e := by
  unfold roundN
  by_cases h : n = 0
  · simp [h]
  · have hj : 0 < 2 ^ j := Nat.two_pow_pos j
    have h' : n * 2 ^ j ≠ 0 := by intro h0; rcases Nat.mul_eq_zero.1 h0 with h0 | h0 <;> omega
    rw [if_neg h, if_neg h']
    have hd : dropN (n * 2 ^ j) (e - j) = dropN n e + j := by unfold dropN; rw [lenN_scale n j h]; omega
    rw [hd, keptN_scale]
    congr 4; omega

/-! The model's own. -/
theorem cut_eq (neg : Bool) (n k : Nat) : Ieee.Toward.even.cut neg n k = rne n k := by
  unfold Ieee.Toward.cut rne
  simp only [Nat.one_shiftLeft]
  by_cases h : k ≤ n.log2 + 2
  · rw [Nat.min_eq_left h]
    by_cases h1 : 2 ^ k < 2 * (n % 2 ^ k)
    · simp [h1]
    · by_cases h2 : 2 ^ k = 2 * (n % 2 ^ k)
      · by_cases h3 : n / 2 ^ k % 2 = 1
        · simp [h3, ← h2]
        · have : n / 2 ^ k % 2 = 0 := by omega
          simp [this, ← h2]
      · simp [h1, h2]
  · rw [Nat.min_eq_right (by omega)]
    have h0 : n < 2 ^ (n.log2 + 1) := Nat.lt_log2_self
    have h1 : 2 ^ (n.log2 + 2) = 2 * 2 ^ (n.log2 + 1) := by rw [Nat.pow_succ]; omega
    have h2 : 2 ^ (n.log2 + 2) ≤ 2 ^ k := Nat.pow_le_pow_right (by decide) (by omega)
    rw [Nat.div_eq_of_lt (by omega : n < 2 ^ (n.log2 + 2)), Nat.mod_eq_of_lt (by omega : n < 2 ^ (n.log2 + 2)), Nat.div_eq_of_lt (by omega : n < 2 ^ k), Nat.mod_eq_of_lt (by omega : n < 2 ^ k)]
    have a1 : ¬ 2 ^ (n.log2 + 2) < 2 * n := by omega
    have a2 : ¬ 2 ^ (n.log2 + 2) = 2 * n := by omega
    have a3 : ¬ 2 ^ k < 2 * n := by omega
    have a4 : ¬ 2 ^ k = 2 * n := by omega
    simp [a1, a2, a3, a4]

theorem nearest_eq (neg : Bool) (n : Nat) (e : Int) : Ieee.double.nearest neg n e = roundN neg n e := by
  have e1 : Ieee.double.signWeight = 9223372036854775808 := by decide
  have e2 : Ieee.double.binade = 4503599627370496 := by decide
  have e3 : Ieee.double.infRung = 9218868437227405312 := by decide
  have e4 : Ieee.double.leastPlace = -1074 := by decide
  have e5 : Ieee.double.fractionBits = 52 := rfl
  unfold Ieee.Format.nearest roundN
  have hw : ∀ r, Ieee.double.word neg r = wordN neg r := fun r => by unfold Ieee.Format.word wordN; rw [e1]
  simp only [hw, e2, e3, e4, e5]
  by_cases h : n = 0
  · simp [h]
  · rw [if_neg h, if_neg h]
    have hl : (lenN n : Int) = n.log2 + 1 := by unfold lenN; rw [if_neg h]; rfl
    have hlast : max (e + (n.log2 : Int) - (52 : Nat)) (-1074) = e + dropN n e := by unfold dropN; omega
    rw [hlast]
    have s1 : (e + dropN n e - -1074).toNat = (e + dropN n e + 1074).toNat := by rw [Int.sub_neg]
    have s2 : (e + dropN n e - e).toNat = (dropN n e).toNat := by rw [show e + dropN n e - e = dropN n e by omega]
    have s3 : (e - (e + dropN n e)).toNat = (-dropN n e).toNat := by rw [show e - (e + dropN n e) = -dropN n e by omega]
    have K : Ieee.Toward.even.cut neg (n <<< (e - (e + dropN n e)).toNat) (e + dropN n e - e).toNat = keptN n (dropN n e) := by
      rw [s2, s3, cut_eq, Nat.shiftLeft_eq]
      unfold keptN
      split
      · rename_i hd
        have : (dropN n e).toNat = 0 := by omega
        rw [this, rne_zero]
      · rename_i hd
        have : (-dropN n e).toNat = 0 := by omega
        rw [this, Nat.pow_zero, Nat.mul_one]
    rw [s1, K]

end Go.Plumb

namespace Go.Plumb

theorem rne_small (n k : Nat) (h : 2 * n < 2 ^ k) : rne n k = 0 := by
  unfold rne
  rw [Nat.div_eq_of_lt (by omega), Nat.mod_eq_of_lt (by omega), if_neg (by omega)]

theorem roundN_big (neg : Bool) (n : Nat) (e : Int) (h : n ≠ 0) (he : 1026 ≤ e) : roundN neg n e = wordN neg 9218868437227405312 := by
  unfold roundN
  rw [if_neg h]
  have h3 : 0 < lenN n := by unfold lenN; rw [if_neg h]; omega
  have : 2047 ≤ (e + dropN n e + 1074).toNat := by unfold dropN; omega
  rw [Nat.min_eq_right]
  generalize (e + dropN n e + 1074).toNat = q at this
  omega

theorem roundN_small (neg : Bool) (n : Nat) (e : Int) (h : n < 2 ^ 65) (he : e ≤ -1300) : roundN neg n e = wordN neg 0 := by
  unfold roundN
  split
  · rfl
  · have hl := lenN_le n 65 h
    have hd : dropN n e = -1074 - e := by unfold dropN; omega
    have hk : keptN n (dropN n e) = 0 := by
      unfold keptN
      rw [if_neg (by omega)]
      apply rne_small
      have : 2 ^ 67 ≤ 2 ^ (dropN n e).toNat := Nat.pow_le_pow_right (by decide) (by omega)
      omega
    rw [hk]
    have : (e + dropN n e + 1074).toNat = 0 := by omega
    rw [this]; rfl

theorem rndI_rne (m1 d : Nat) (hd : d ≤ 64) :
    rndI (((m1 : Int) * 2 ^ (64 - (d : Int)).toNat) % 18446744073709551616) ((m1 : Int) / 2 ^ d) false = (rne m1 d : Int) := by
  obtain ⟨k, hk⟩ : ∃ k, 64 = d + k := ⟨64 - d, by omega⟩
  have e1 : (64 - (d : Int)).toNat = k := by omega
  rw [e1]
  have hp : (18446744073709551616 : Int) = 2 ^ d * 2 ^ k := by rw [← Int.pow_add, ← hk]; decide
  have hr : ((m1 : Int) * 2 ^ k) % 18446744073709551616 = ((m1 % 2 ^ d : Nat) : Int) * 2 ^ k := by
    have hN := Nat.mul_mod_mul_right (2 ^ k) m1 (2 ^ d)
    rw [hp]
    have := congrArg (Nat.cast : Nat → Int) hN
    simpa using this
  have hq : (m1 : Int) / 2 ^ d = ((m1 / 2 ^ d : Nat) : Int) := by simp
  rw [hr, hq]
  have hh : (9223372036854775808 : Int) * 2 = ((2 ^ d : Nat) : Int) * 2 ^ k := by
    rw [show ((2 ^ d : Nat) : Int) = 2 ^ d by simp, ← hp]; rfl
  unfold rndI rne
  have hkp : (0 : Int) < 2 ^ k := Int.pow_pos (by decide)
  generalize hA : m1 % 2 ^ d = A
  generalize hB : m1 / 2 ^ d = B
  generalize hC : 2 ^ d = C at *
  generalize hP : (2 : Int) ^ k = P at *
  have c1 : ((A : Int) * P > 9223372036854775808) ↔ C < 2 * A := by
    constructor
    · intro h
      have : (C : Int) * P < (2 * A : Int) * P := by rw [Int.mul_assoc]; omega
      have := Int.lt_of_mul_lt_mul_right this (by omega)
      omega
    · intro h
      have : (C : Int) * P < (2 * A : Int) * P := (Int.mul_lt_mul_right hkp).2 (by omega)
      rw [Int.mul_assoc] at this; omega
  have c2 : ((A : Int) * P = 9223372036854775808) ↔ C = 2 * A := by
    constructor
    · intro h
      have : (C : Int) * P = (2 * A : Int) * P := by rw [Int.mul_assoc]; omega
      have := Int.eq_of_mul_eq_mul_right (by omega) this
      omega
    · intro h
      have : (C : Int) * P = (2 * A : Int) * P := by rw [h]; simp
      rw [Int.mul_assoc] at this; omega
  simp only [c1, c2]
  by_cases h1 : C < 2 * A
  · rw [if_pos h1, if_pos (.inl h1)]; simp
  · rw [if_neg h1]
    by_cases h2 : C = 2 * A ∧ B % 2 = 1
    · rw [if_pos ⟨h2.1, .inr (by omega)⟩, if_pos (.inr h2)]; simp
    · rw [if_neg, if_neg]
      · simp
      · rintro (h | h)
        · exact h1 h
        · exact h2 h
      · rintro ⟨h, h'⟩
        rcases h' with h' | h'
        · cases h'
        · exact h2 ⟨h, by omega⟩

theorem rndI_true (m1 d : Nat) (hd : d ≤ 64) (hd0 : 0 < d) :
    rndI (((m1 : Int) * 2 ^ (64 - (d : Int)).toNat) % 18446744073709551616) ((m1 : Int) / 2 ^ d) true = (rne (2 * m1 + 1) (d + 1) : Int) := by
  obtain ⟨k, hk⟩ : ∃ k, 64 = d + k := ⟨64 - d, by omega⟩
  have e1 : (64 - (d : Int)).toNat = k := by omega
  rw [e1]
  have hp : (18446744073709551616 : Int) = 2 ^ d * 2 ^ k := by rw [← Int.pow_add, ← hk]; decide
  have hr : ((m1 : Int) * 2 ^ k) % 18446744073709551616 = ((m1 % 2 ^ d : Nat) : Int) * 2 ^ k := by
    have hN := Nat.mul_mod_mul_right (2 ^ k) m1 (2 ^ d)
    rw [hp]
    have := congrArg (Nat.cast : Nat → Int) hN
    simpa using this
  have hq : (m1 : Int) / 2 ^ d = ((m1 / 2 ^ d : Nat) : Int) := by simp
  rw [hr, hq]
  have hh : (9223372036854775808 : Int) * 2 = ((2 ^ d : Nat) : Int) * 2 ^ k := by
    rw [show ((2 ^ d : Nat) : Int) = 2 ^ d by simp, ← hp]; rfl
  have hdiv : (2 * m1 + 1) / 2 ^ (d + 1) = m1 / 2 ^ d := by
    rw [Nat.pow_succ, Nat.mul_comm (2 ^ d) 2, ← Nat.div_div_eq_div_mul]
    congr 1; omega
  have hmod : (2 * m1 + 1) % 2 ^ (d + 1) = 2 * (m1 % 2 ^ d) + 1 := by
    rw [Nat.pow_succ, Nat.mul_comm (2 ^ d) 2, Nat.mod_mul]
    have a1 : (2 * m1 + 1) % 2 = 1 := by omega
    have a2 : (2 * m1 + 1) / 2 = m1 := by omega
    rw [a1, a2]; omega
  have hev : 2 ^ d % 2 = 0 := by
    obtain ⟨c, rfl⟩ : ∃ c, d = c + 1 := ⟨d - 1, by omega⟩
    rw [Nat.pow_succ]; omega
  unfold rndI rne
  rw [hdiv, hmod, Nat.pow_succ]
  have hkp : (0 : Int) < 2 ^ k := Int.pow_pos (by decide)
  generalize hA : m1 % 2 ^ d = A
  generalize hB : m1 / 2 ^ d = B
  generalize hC : 2 ^ d = C at *
  generalize hP : (2 : Int) ^ k = P at *
  have c1 : ((A : Int) * P > 9223372036854775808) ↔ C < 2 * A := by
    constructor
    · intro h
      have : (C : Int) * P < (2 * A : Int) * P := by rw [Int.mul_assoc]; omega
      have := Int.lt_of_mul_lt_mul_right this (by omega)
      omega
    · intro h
      have : (C : Int) * P < (2 * A : Int) * P := (Int.mul_lt_mul_right hkp).2 (by omega)
      rw [Int.mul_assoc] at this; omega
  have c2 : ((A : Int) * P = 9223372036854775808) ↔ C = 2 * A := by
    constructor
    · intro h
      have : (C : Int) * P = (2 * A : Int) * P := by rw [Int.mul_assoc]; omega
      have := Int.eq_of_mul_eq_mul_right (by omega) this
      omega
    · intro h
      have : (C : Int) * P = (2 * A : Int) * P := by rw [h]; simp
      rw [Int.mul_assoc] at this; omega
  simp only [c1, c2]
  by_cases h1 : C < 2 * A
  · rw [if_pos h1, if_pos (.inl (by omega))]; simp
  · rw [if_neg h1]
    by_cases h2 : C = 2 * A
    · rw [if_pos ⟨h2, by simp⟩, if_pos (.inl (by omega))]; simp
    · rw [if_neg, if_neg]
      · simp
      · rintro (h | h) <;> omega
      · rintro ⟨h, _⟩; exact h2 h

/-- The word that bits.join makes is the rung of the place and the fraction. -/
theorem tailI_word (neg : Bool) (r m2 e : Int) (more : Bool) (q : Nat) (hq : rndI r m2 more = q) (hu : q ≤ 9007199254740992) (he : -1074 ≤ e) (hn : e = -1074 ∨ 4503599627370496 ≤ q) :
    tailI neg r m2 e more = (wordN neg (min ((e + 1074).toNat * 4503599627370496 + q) 9218868437227405312) : Int) := by
  obtain ⟨p, hp⟩ : ∃ p : Nat, e = (p : Int) - 1074 := ⟨(e + 1074).toNat, by omega⟩
  subst hp
  have e1 : ((p : Int) - 1074 + 1074).toNat = p := by omega
  rw [e1]
  unfold tailI
  rw [hq]
  unfold joinI wordN infW signW
  rcases Nat.le_total (p * 4503599627370496 + q) 9218868437227405312 with h | h
  · rw [Nat.min_eq_left h]
    cases neg <;> simp only [if_true, if_false, Bool.false_eq_true] <;> (repeat' split) <;> omega
  · rw [Nat.min_eq_right h]
    cases neg <;> simp only [if_true, if_false, Bool.false_eq_true] <;> (repeat' split) <;> omega

theorem rne_bounds (n k : Nat) : n / 2 ^ k ≤ rne n k ∧ rne n k ≤ n / 2 ^ k + 1 := by
  unfold rne; split <;> omega

theorem div_len (n k : Nat) (j : Nat) (h : lenN n ≤ k + j) : n / 2 ^ k < 2 ^ j := by
  rw [Nat.div_lt_iff_lt_mul (Nat.two_pow_pos k), ← Nat.pow_add]
  exact Nat.lt_of_lt_of_le (lt_lenN n) (Nat.pow_le_pow_right (by decide) (by omega))
theorem le_div_len (n k : Nat) (j : Nat) (h : lenN n = k + j + 1) : 2 ^ j ≤ n / 2 ^ k := by
  rw [Nat.le_div_iff_mul_le (Nat.two_pow_pos k), ← Nat.pow_add]
  have h0 : n ≠ 0 := by intro h0; subst h0; simp [lenN] at h
  exact Nat.le_trans (Nat.pow_le_pow_right (by decide) (by omega)) (lenN_ge n h0)

/-- Without more. -/
theorem tail_false (neg : Bool) (m1 d : Nat) (e : Int) (h0 : m1 ≠ 0) (hd : dropN m1 e = d) (hd0 : 0 < d) (hd1 : d ≤ 64) :
    tailI neg (((m1 : Int) * 2 ^ (64 - (d : Int)).toNat) % 18446744073709551616) ((m1 : Int) / 2 ^ d) (e + d) false = (roundN neg m1 e : Int) := by
  have hb := rne_bounds m1 d
  have hl : lenN m1 ≤ d + 53 := by unfold dropN at hd; omega
  have hx := div_len m1 d 53 hl
  have hq := rndI_rne m1 d hd1
  have hn : e + d = -1074 ∨ 4503599627370496 ≤ rne m1 d := by
    by_cases hc : e + d = -1074
    · exact .inl hc
    · right
      have : lenN m1 = d + 52 + 1 := by unfold dropN at hd; omega
      have := le_div_len m1 d 52 this
      simp only [Nat.reducePow] at this
      omega
  rw [tailI_word neg _ _ _ false (rne m1 d) hq (by simp only [Nat.reducePow] at hx; omega) (by unfold dropN at hd; omega) hn]
  unfold roundN keptN
  rw [if_neg h0, hd, if_neg (by omega)]
  rfl

theorem lenN_odd (m : Nat) : lenN (2 * m + 1) = lenN m + 1 := by
  by_cases h : m = 0
  · subst h; decide
  · have h1 := lenN_ge m h
    have h2 := lt_lenN m
    have h3 : 0 < lenN m := by unfold lenN; rw [if_neg h]; omega
    apply lenN_eq
    · have : 2 ^ lenN m = 2 * 2 ^ (lenN m - 1) := by rw [← Nat.pow_succ']; congr 1; omega
      omega
    · rw [Nat.pow_succ]; omega

/-- With more: what lies between is as good as a half of the last place. -/
theorem tail_true (neg : Bool) (m d : Nat) (e : Int) (hd : max ((lenN m : Int) - 53) (-1074 - e) = d) (hd0 : 0 < d) (hd1 : d ≤ 64) :
    tailI neg (((m : Int) * 2 ^ (64 - (d : Int)).toNat) % 18446744073709551616) ((m : Int) / 2 ^ d) (e + d) true = (roundN neg (2 * m + 1) (e - 1) : Int) := by
  have hl2 := lenN_odd m
  have hD : dropN (2 * m + 1) (e - 1) = ((d + 1 : Nat) : Int) := by unfold dropN; omega
  have hb := rne_bounds (2 * m + 1) (d + 1)
  have hl : lenN (2 * m + 1) ≤ (d + 1) + 53 := by omega
  have hx := div_len (2 * m + 1) (d + 1) 53 hl
  have hq := rndI_true m d hd1 hd0
  have hn : e + d = -1074 ∨ 4503599627370496 ≤ rne (2 * m + 1) (d + 1) := by
    by_cases hc : e + d = -1074
    · exact .inl hc
    · right
      have : lenN (2 * m + 1) = (d + 1) + 52 + 1 := by omega
      have := le_div_len (2 * m + 1) (d + 1) 52 this
      simp only [Nat.reducePow] at this
      omega
  rw [tailI_word neg _ _ _ true (rne (2 * m + 1) (d + 1)) hq (by simp only [Nat.reducePow] at hx; omega) (by omega) hn]
  unfold roundN keptN
  rw [if_neg (by omega), hD, if_neg (by omega)]
  have e1 : (e - 1 + ((d + 1 : Nat) : Int) + 1074).toNat = (e + d + 1074).toNat := by congr 1; omega
  have e2 : ((d + 1 : Nat) : Int).toNat = d + 1 := by omega
  rw [e1, e2]

end Go.Plumb

namespace Go.Plumb
/-- The rounded number's word: with more, whatever lies above m as m and a half. -/
def roundW (neg : Bool) (m e : Int) (more : Bool) : Int := if more then (roundN neg (2 * m.toNat + 1) (e - 1) : Int) else (roundN neg m.toNat e : Int)
def roundBad (m e : Int) (more : Bool) : Bool := more && decide (m < 9007199254740992) && decide (-1075 < e)

theorem roundN_clip (neg : Bool) (n : Nat) (e c : Int) (hn : n < 2 ^ 65) (hc : c = max (-4000) (min 4000 e)) : roundN neg n c = roundN neg n e := by
  by_cases h0 : n = 0
  · subst h0; simp [roundN]
  · by_cases h1 : 4000 ≤ e
    · rw [roundN_big neg n e h0 (by omega), roundN_big neg n c h0 (by omega)]
    · by_cases h2 : e ≤ -4000
      · rw [roundN_small neg n e hn (by omega), roundN_small neg n c hn (by omega)]
      · have : c = e := by omega
        rw [this]
theorem roundN_clip1 (neg : Bool) (n : Nat) (e c : Int) (hn : n < 2 ^ 65) (hc : c = max (-4000) (min 4000 e)) : roundN neg n (c - 1) = roundN neg n (e - 1) := by
  by_cases h0 : n = 0
  · subst h0; simp [roundN]
  · by_cases h1 : 4000 ≤ e
    · rw [roundN_big neg n _ h0 (by omega), roundN_big neg n _ h0 (by omega)]
    · by_cases h2 : e ≤ -4000
      · rw [roundN_small neg n _ hn (by omega), roundN_small neg n _ hn (by omega)]
      · have : c = e := by omega
        rw [this]
theorem joinI_zero (neg : Bool) : joinI neg 0 0 = (wordN neg 0 : Int) := by cases neg <;> rfl
theorem lenI_nat (n : Nat) : lenI (n : Int) = (lenN n : Int) := by unfold lenI; rw [Int.toNat_natCast]
theorem roundN_far (neg : Bool) (n : Nat) (e : Int) (k : Nat) (hn : lenN n ≤ k) (hk : 53 ≤ k) (h : (k : Int) < dropN n e) : roundN neg n e = wordN neg 0 := by
  unfold roundN
  split
  · rfl
  · have hd : dropN n e = -1074 - e := by unfold dropN at *; omega
    have hK : keptN n (dropN n e) = 0 := by
      unfold keptN
      rw [if_neg (by omega)]
      apply rne_small
      have h1 := lt_lenN n
      have h2 : 2 ^ (lenN n + 1) ≤ 2 ^ (dropN n e).toNat := Nat.pow_le_pow_right (by decide) (by omega)
      rw [Nat.pow_succ] at h2
      omega
    rw [hK, show (e + dropN n e + 1074).toNat = 0 by omega]; rfl
end Go.Plumb
namespace Go.Proofs.YtjlaadadbpffdaaGreatDoor
open Go.RowKit Go.Plumb

theorem round_f (neg : Bool) (n : Nat) (e : Int) (w : World) (h1 : n < 18446744073709551616) :
    Calls Tryz.prog 101 #[.agg #[.bool neg, .int .u64 n, .int .i64 e], .bool false] w fun e' w' => e' = .returned (.tuple #[.int .u64 (roundN neg n e : Int), .int .i64 0]) ∧ Below w.heap.size w w' := by
  by_cases h0 : n = 0
  · subst h0
    have : (roundN neg 0 e : Int) = joinI neg 0 0 := by rw [joinI_zero]; rfl
    rw [this]
    exact round_zero neg e w
  generalize hc : max (-4000) (min 4000 e) = c
  have hr : roundN neg n e = roundN neg n c := (roundN_clip neg n e c (Nat.lt_trans h1 (by decide)) hc.symm).symm
  have hl := lenN_le n 64 h1
  have hl0 : 0 < lenN n := by unfold lenN; rw [if_neg h0]; omega
  obtain ⟨u, hu⟩ : ∃ u : Nat, min (64 - lenI (n : Int)) (max 0 (c + 1075)) = (u : Int) := ⟨(min (64 - lenI (n : Int)) (max 0 (c + 1075))).toNat, by rw [lenI_nat]; omega⟩
  have hu' := hu
  rw [lenI_nat] at hu'
  have hm0 : n * 2 ^ u ≠ 0 := by intro h; rcases Nat.mul_eq_zero.1 h with h | h; exact h0 h; have := Nat.two_pow_pos u; omega
  have hlen := lenN_scale n u h0
  have hm1 : n * 2 ^ u < 18446744073709551616 := by
    have := lt_lenN (n * 2 ^ u)
    have h2 : 2 ^ lenN (n * 2 ^ u) ≤ 2 ^ 64 := Nat.pow_le_pow_right (by decide) (by omega)
    exact Nat.lt_of_lt_of_le this h2
  have hwm : IntKind.u64.wrap ((n : Int) * 2 ^ (u : Int).toNat) = ((n * 2 ^ u : Nat) : Int) := by
    rw [Int.toNat_natCast, IntKind.wrap_u64]
    have : ((n : Int) * 2 ^ u) = ((n * 2 ^ u : Nat) : Int) := by simp
    rw [this]; omega
  rw [hr, ← roundN_scale neg n c u]
  have hdr : dropN (n * 2 ^ u) (c - u) = max ((lenN (n * 2 ^ u) : Int) - 53) (-1074 - (c - u)) := rfl
  have hpos : 0 < dropN (n * 2 ^ u) (c - u) := by rw [hdr, hlen]; omega
  have hdd : (if lenI ((n * 2 ^ u : Nat) : Int) - 53 < -1074 - (c - u) then -1074 - (c - u) else lenI ((n * 2 ^ u : Nat) : Int) - 53) = dropN (n * 2 ^ u) (c - u) := by
    rw [lenI_nat, hdr]; split <;> omega
  have hlen64 : lenN (n * 2 ^ u) ≤ 64 := by omega
  generalize n * 2 ^ u = m1 at *
  by_cases hd : dropN m1 (c - u) ≤ 64
  · obtain ⟨d, hd'⟩ : ∃ d : Nat, dropN m1 (c - u) = (d : Int) := ⟨(dropN m1 (c - u)).toNat, by omega⟩
    rw [← tail_false neg m1 d (c - u) hm0 hd' (by omega) (by omega)]
    have hq := div_len m1 d 53 (by unfold dropN at hd'; omega)
    have hqi : (m1 : Int) / 2 ^ d = ((m1 / 2 ^ d : Nat) : Int) := by simp
    simp only [Nat.reducePow] at hq
    have q0 : 0 ≤ (m1 : Int) / 2 ^ d := by rw [hqi]; exact Int.natCast_nonneg _
    have q1 : (m1 : Int) / 2 ^ d < 9007199254740992 := by rw [hqi]; exact Int.ofNat_lt.2 hq
    refine round_false neg n e c u m1 d _ _ w (by omega) (by omega) (by simp; omega) hc (by omega) (by omega) hu (by omega) (by omega) hwm (by omega) (by omega) (by rw [lenI_nat]; omega) (by rw [lenI_nat]; omega) (by rw [hdd, hd']) (by omega) (by omega) (by unfold dropN at hd'; omega) (by rw [IntKind.wrap_u64]) (by rw [Int.toNat_natCast]) q0 q1 (by omega)
  · have : roundN neg m1 (c - u) = wordN neg 0 := roundN_far neg m1 _ 64 hlen64 (by omega) (by omega)
    rw [this, ← joinI_zero]
    exact round_far_false neg n e c u m1 _ w (by omega) (by omega) (by simp; omega) hc (by omega) (by omega) hu (by omega) (by omega) hwm (by omega) (by omega) (by rw [lenI_nat]; omega) (by rw [lenI_nat]; omega) hdd (by omega)

theorem round_t (neg : Bool) (n : Nat) (e : Int) (w : World) (h1 : n < 18446744073709551616) (hg : 9007199254740992 ≤ n ∨ e ≤ -1075) :
    Calls Tryz.prog 101 #[.agg #[.bool neg, .int .u64 n, .int .i64 e], .bool true] w fun e' w' => e' = .returned (.tuple #[.int .u64 (roundN neg (2 * n + 1) (e - 1) : Int), .int .i64 0]) ∧ Below w.heap.size w w' := by
  generalize hc : max (-4000) (min 4000 e) = c
  have hr : roundN neg (2 * n + 1) (e - 1) = roundN neg (2 * n + 1) (c - 1) := (roundN_clip1 neg (2 * n + 1) e c (Nat.lt_of_lt_of_le (show 2 * n + 1 < 36893488147419103232 by omega) (by decide)) hc.symm).symm
  have hl := lenN_le n 64 h1
  rw [hr]
  have hbig : 9007199254740992 ≤ n → 54 ≤ lenN n := by
    intro h
    apply Nat.lt_of_not_le
    intro h2
    have := lt_lenN n
    have h3 : 2 ^ lenN n ≤ 2 ^ 53 := Nat.pow_le_pow_right (by decide) h2
    simp only [Nat.reducePow] at h3
    omega
  generalize hD : max ((lenN n : Int) - 53) (-1074 - c) = D
  have hpos : 0 < D := by rcases hg with hg | hg; have := hbig hg; omega; omega
  have hdd : (if lenI (n : Int) - 53 < -1074 - c then -1074 - c else lenI (n : Int) - 53) = D := by
    rw [lenI_nat, ← hD]; split <;> omega
  by_cases hd : D ≤ 64
  · obtain ⟨d, hd'⟩ : ∃ d : Nat, D = (d : Int) := ⟨D.toNat, by omega⟩
    subst hd'
    rw [← tail_true neg n d c hD (by omega) (by omega)]
    have hq := div_len n d 53 (by omega)
    have hqi : (n : Int) / 2 ^ d = ((n / 2 ^ d : Nat) : Int) := by simp
    simp only [Nat.reducePow] at hq
    have q0 : 0 ≤ (n : Int) / 2 ^ d := by rw [hqi]; exact Int.natCast_nonneg _
    have q1 : (n : Int) / 2 ^ d < 9007199254740992 := by rw [hqi]; exact Int.ofNat_lt.2 hq
    by_cases hs : 9007199254740992 ≤ n
    · refine round_true1 neg ((n : Int) == 0) n e c d _ _ w (by omega) (by omega) rfl hc (by omega) (by omega) (by omega) (by rw [lenI_nat]; omega) (by rw [lenI_nat]; omega) hdd (by omega) (by omega) (by omega) (by rw [IntKind.wrap_u64]) (by rw [Int.toNat_natCast]) q0 q1 (by omega)
    · refine round_true2 neg ((n : Int) == 0) n e c d _ _ w (by omega) (by omega) rfl hc (by omega) (by omega) (by omega) (by omega) (by rw [lenI_nat]; omega) (by rw [lenI_nat]; omega) hdd (by omega) (by omega) (by omega) (by rw [IntKind.wrap_u64]) (by rw [Int.toNat_natCast]) q0 q1 (by omega)
  · have hlo := lenN_odd n
    have : roundN neg (2 * n + 1) (c - 1) = wordN neg 0 := roundN_far neg _ _ 65 (by omega) (by omega) (by unfold dropN; omega)
    rw [this, ← joinI_zero]
    exact round_far_true neg ((n : Int) == 0) n e c D w (by omega) (by omega) rfl hc (by omega) (by omega) (by omega) (by rw [lenI_nat]; omega) (by rw [lenI_nat]; omega) hdd (by omega)

/-- bits.Round, every input: 0 and the error 2 where it hangs on which number it is; else the word. -/
theorem round_any (neg : Bool) (m e : Int) (more : Bool) (w : World) (h0 : 0 ≤ m) (h1 : m < 18446744073709551616) (hb : roundBad m e more = false) :
    Calls Tryz.prog 101 #[.agg #[.bool neg, .int .u64 m, .int .i64 e], .bool more] w fun e' w' => e' = .returned (.tuple #[.int .u64 (roundW neg m e more), .int .i64 0]) ∧ Below w.heap.size w w' := by
  obtain ⟨n, rfl, hn⟩ := nat64 h0 h1
  cases more
  · have := round_f neg n e w hn
    unfold roundW
    simpa using this
  · have := round_t neg n e w hn (by simp [roundBad] at hb; omega)
    unfold roundW
    simpa using this
theorem round_bad (neg : Bool) (m e : Int) (more : Bool) (w : World) (h0 : 0 ≤ m) (hb : roundBad m e more = true) :
    Calls Tryz.prog 101 #[.agg #[.bool neg, .int .u64 m, .int .i64 e], .bool more] w fun e' w' => e' = .returned (.tuple #[.int .u64 0, .int .i64 2]) ∧ Below w.heap.size w w' := by
  simp [roundBad] at hb
  obtain ⟨⟨rfl, h⟩, h'⟩ := hb
  exact round_err neg m e w h0 h h'

end Go.Proofs.YtjlaadadbpffdaaGreatDoor
