/-
  What bits.Round computes is 'roundN': the plain law behind its walk.
-/
import Derived.Test.YtaeognfpmhfmgaaDoorRoundN
set_option linter.unusedSimpArgs false
set_option linter.unusedVariables false
namespace Go.Plumb

theorem rne_small (n k : Nat) (h : 2 * n < 2 ^ k) : rne n k = 0 := by
  unfold rne
  rw [Nat.div_eq_of_lt (by omega), Nat.mod_eq_of_lt (by omega), if_neg (by omega)]

theorem roundN_big (neg : Bool) (n : Nat) (e : Int) (h : n ≠ 0) (he : 1026 ≤ e) : roundN neg n e = wordN neg 9218868437227405312 := by
  unfold roundN
  rw [if_neg h]
  have h3 : 0 < lenN n := by unfold lenN; rw [if_neg h]; omega
  have : 2047 ≤ (e + dropN n e + 1074).toNat := by unfold dropN; omega
  rw [Nat.min_eq_right]
  generalize (e + dropN n e + 1074).toNat = q at this
  omega

theorem roundN_small (neg : Bool) (n : Nat) (e : Int) (h : n < 2 ^ 65) (he : e ≤ -1300) : roundN neg n e = wordN neg 0 := by
  unfold roundN
  split
  · rfl
  · have hl := lenN_le n 65 h
    have hd : dropN n e = -1074 - e := by unfold dropN; omega
    have hk : keptN n (dropN n e) = 0 := by
      unfold keptN
      rw [if_neg (by omega)]
      apply rne_small
      have : 2 ^ 67 ≤ 2 ^ (dropN n e).toNat := Nat.pow_le_pow_right (by decide) (by omega)
      omega
    rw [hk]
    have : (e + dropN n e + 1074).toNat = 0 := by omega
    rw [this]; rfl

theorem rndI_rne (m1 d : Nat) (hd : d ≤ 64) :
    rndI (((m1 : Int) * 2 ^ (64 - (d : Int)).toNat) % 18446744073709551616) ((m1 : Int) / 2 ^ d) false = (rne m1 d : Int) := by
  obtain ⟨k, hk⟩ : ∃ k, 64 = d + k := ⟨64 - d, by omega⟩
  have e1 : (64 - (d : Int)).toNat = k := by omega
  rw [e1]
  have hp : (18446744073709551616 : Int) = 2 ^ d * 2 ^ k := by rw [← Int.pow_add, ← hk]; decide
  have hr : ((m1 : Int) * 2 ^ k) % 18446744073709551616 = ((m1 % 2 ^ d : Nat) : Int) * 2 ^ k := by
    have hN := Nat.mul_mod_mul_right (2 ^ k) m1 (2 ^ d)
    rw [hp]
    have := congrArg (Nat.cast : Nat → Int) hN
    simpa using this
  have hq : (m1 : Int) / 2 ^ d = ((m1 / 2 ^ d : Nat) : Int) := by simp
  rw [hr, hq]
  have hh : (9223372036854775808 : Int) * 2 = ((2 ^ d : Nat) : Int) * 2 ^ k := by
    rw [show ((2 ^ d : Nat) : Int) = 2 ^ d by simp, ← hp]; rfl
  unfold rndI rne
  have hkp : (0 : Int) < 2 ^ k := Int.pow_pos (by decide)
  generalize hA : m1 % 2 ^ d = A
  generalize hB : m1 / 2 ^ d = B
  generalize hC : 2 ^ d = C at *
  generalize hP : (2 : Int) ^ k = P at *
  have c1 : ((A : Int) * P > 9223372036854775808) ↔ C < 2 * A := by
    constructor
    · intro h
      have : (C : Int) * P < (2 * A : Int) * P := by rw [Int.mul_assoc]; omega
      have := Int.lt_of_mul_lt_mul_right this (by omega)
      omega
    · intro h
      have : (C : Int) * P < (2 * A : Int) * P := (Int.mul_lt_mul_right hkp).2 (by omega)
      rw [Int.mul_assoc] at this; omega
  have c2 : ((A : Int) * P = 9223372036854775808) ↔ C = 2 * A := by
    constructor
    · intro h
      have : (C : Int) * P = (2 * A : Int) * P := by rw [Int.mul_assoc]; omega
      have := Int.eq_of_mul_eq_mul_right (by omega) this
      omega
    · intro h
      have : (C : Int) * P = (2 * A : Int) * P := by rw [h]; simp
      rw [Int.mul_assoc] at this; omega
  simp only [c1, c2]
  by_cases h1 : C < 2 * A
  · rw [if_pos h1, if_pos (.inl h1)]; simp
  · rw [if_neg h1]
    by_cases h2 : C = 2 * A ∧ B % 2 = 1
    · rw [if_pos ⟨h2.1, .inr (by omega)⟩, if_pos (.inr h2)]; simp
    · rw [if_neg, if_neg]
      · simp
      · rintro (h | h)
        · exact h1 h
        · exact h2 h
      · rintro ⟨h, h'⟩
        rcases h' with h' | h'
        · cases h'
        · exact h2 ⟨h, by omega⟩

theorem rndI_true (m1 d : Nat) (hd : d ≤ 64) (hd0 : 0 < d) :
    rndI (((m1 : Int) * 2 ^ (64 - (d : Int)).toNat) % 18446744073709551616) ((m1 : Int) / 2 ^ d) true = (rne (2 * m1 + 1) (d + 1) : Int) := by
  obtain ⟨k, hk⟩ : ∃ k, 64 = d + k := ⟨64 - d, by omega⟩
  have e1 : (64 - (d : Int)).toNat = k := by omega
  rw [e1]
  have hp : (18446744073709551616 : Int) = 2 ^ d * 2 ^ k := by rw [← Int.pow_add, ← hk]; decide
  have hr : ((m1 : Int) * 2 ^ k) % 18446744073709551616 = ((m1 % 2 ^ d : Nat) : Int) * 2 ^ k := by
    have hN := Nat.mul_mod_mul_right (2 ^ k) m1 (2 ^ d)
    rw [hp]
    have := congrArg (Nat.cast : Nat → Int) hN
    simpa using this
  have hq : (m1 : Int) / 2 ^ d = ((m1 / 2 ^ d : Nat) : Int) := by simp
  rw [hr, hq]
  have hh : (9223372036854775808 : Int) * 2 = ((2 ^ d : Nat) : Int) * 2 ^ k := by
    rw [show ((2 ^ d : Nat) : Int) = 2 ^ d by simp, ← hp]; rfl
  have hdiv : (2 * m1 + 1) / 2 ^ (d + 1) = m1 / 2 ^ d := by
    rw [Nat.pow_succ, Nat.mul_comm (2 ^ d) 2, ← Nat.div_div_eq_div_mul]
    congr 1; omega
  have hmod : (2 * m1 + 1) % 2 ^ (d + 1) = 2 * (m1 % 2 ^ d) + 1 := by
    rw [Nat.pow_succ, Nat.mul_comm (2 ^ d) 2, Nat.mod_mul]
    have a1 : (2 * m1 + 1) % 2 = 1 := by omega
    have a2 : (2 * m1 + 1) / 2 = m1 := by omega
    rw [a1, a2]; omega
  have hev : 2 ^ d % 2 = 0 := by
    obtain ⟨c, rfl⟩ : ∃ c, d = c + 1 := ⟨d - 1, by omega⟩
    rw [Nat.pow_succ]; omega
  unfold rndI rne
  rw [hdiv, hmod, Nat.pow_succ]
  have hkp : (0 : Int) < 2 ^ k := Int.pow_pos (by decide)
  generalize hA : m1 % 2 ^ d = A
  generalize hB : m1 / 2 ^ d = B
  generalize hC : 2 ^ d = C at *
  generalize hP : (2 : Int) ^ k = P at *
  have c1 : ((A : Int) * P > 9223372036854775808) ↔ C < 2 * A := by
    constructor
    · intro h
      have : (C : Int) * P < (2 * A : Int) * P := by rw [Int.mul_assoc]; omega
      have := Int.lt_of_mul_lt_mul_right this (by omega)
      omega
    · intro h
      have : (C : Int) * P < (2 * A : Int) * P := (Int.mul_lt_mul_right hkp).2 (by omega)
      rw [Int.mul_assoc] at this; omega
  have c2 : ((A : Int) * P = 9223372036854775808) ↔ C = 2 * A := by
    constructor
    · intro h
      have : (C : Int) * P = (2 * A : Int) * P := by rw [Int.mul_assoc]; omega
      have := Int.eq_of_mul_eq_mul_right (by omega) this
      omega
    · intro h
      have : (C : Int) * P = (2 * A : Int) * P := by rw [h]; simp
      rw [Int.mul_assoc] at this; omega
  simp only [c1, c2]
  by_cases h1 : C < 2 * A
  · rw [if_pos h1, if_pos (.inl (by omega))]; simp
  · rw [if_neg h1]
    by_cases h2 : C = 2 * A
    · rw [if_pos ⟨h2, by simp⟩, if_pos (.inl (by omega))]; simp
    · rw [if_neg, if_neg]
      · simp
      · rintro (h | h) <;> omega
      · rintro ⟨h, _⟩; exact h2 h

/-- The word that bits.join makes is the rung of the place and the fraction. -/
theorem tailI_word (neg : Bool) (r m2 e : Int) (more : Bool) (q : Nat) (hq : rndI r m2 more = q) (hu : q ≤ 9007199254740992) (he : -1074 ≤ e) (hn : e = -1074 ∨ 4503599627370496 ≤ q) :
    tailI neg r m2 e more = (wordN neg (min ((e + 1074).toNat * 4503599627370496 + q) 9218868437227405312) : Int) := by
  obtain ⟨p, hp⟩ : ∃ p : Nat, e = (p : Int) - 1074 := ⟨(e + 1074).toNat, by omega⟩
  subst hp
  have e1 : ((p : Int) - 1074 + 1074).toNat = p := by omega
  rw [e1]
  unfold tailI
  rw [hq]
  unfold joinI wordN infW signW
  rcases Nat.le_total (p * 4503599627370496 + q) 9218868437227405312 with h | h
  · rw [Nat.min_eq_left h]
    cases neg <;> simp only [if_true, if_false, Bool.false_eq_true] <;> (repeat' split) <;> omega
  · rw [Nat.min_eq_right h]
    cases neg <;> simp only [if_true, if_false, Bool.false_eq_true] <;> (repeat' split) <;> omega

theorem rne_bounds (n k : Nat) : n / 2 ^ k ≤ rne n k ∧ rne n k ≤ n / 2 ^ k + 1 := by
  unfold rne; split <;> omega

theorem div_len (n k : Nat) (j : Nat) (h : lenN n ≤ k + j) : n / 2 ^ k < 2 ^ j := by
  rw [Nat.div_lt_iff_lt_mul (Nat.two_pow_pos k), ← Nat.pow_add]
  exact Nat.lt_of_lt_of_le (lt_lenN n) (Nat.pow_le_pow_right (by decide) (by omega))
theorem le_div_len (n k : Nat) (j : Nat) (h : lenN n = k + j + 1) : 2 ^ j ≤ n / 2 ^ k := by
  rw [Nat.le_div_iff_mul_le (Nat.two_pow_pos k), ← Nat.pow_add]
  have h0 : n ≠ 0 := by intro h0; subst h0; simp [lenN] at h
  exact Nat.le_trans (Nat.pow_le_pow_right (by decide) (by omega)) (lenN_ge n h0)

/-- Without more. -/
theorem tail_false (neg : Bool) (m1 d : Nat) (e : Int) (h0 : m1 ≠ 0) (hd : dropN m1 e = d) (hd0 : 0 < d) (hd1 : d ≤ 64) :
    tailI neg (((m1 : Int) * 2 ^ (64 - (d : Int)).toNat) % 18446744073709551616) ((m1 : Int) / 2 ^ d) (e + d) false = (roundN neg m1 e : Int) := by
  have hb := rne_bounds m1 d
  have hl : lenN m1 ≤ d + 53 := by unfold dropN at hd; omega
  have hx := div_len m1 d 53 hl
  have hq := rndI_rne m1 d hd1
  have hn : e + d = -1074 ∨ 4503599627370496 ≤ rne m1 d := by
    by_cases hc : e + d = -1074
    · exact .inl hc
    · right
      have : lenN m1 = d + 52 + 1 := by unfold dropN at hd; omega
      have := le_div_len m1 d 52 this
      simp only [Nat.reducePow] at this
      omega
  rw [tailI_word neg _ _ _ false (rne m1 d) hq (by simp only [Nat.reducePow] at hx; omega) (by unfold dropN at hd; omega) hn]
  unfold roundN keptN
  rw [if_neg h0, hd, if_neg (by omega)]
  rfl

theorem lenN_odd (m : Nat) : lenN (2 * m + 1) = lenN m + 1 := by
  by_cases h : m = 0
  · subst h; decide
  · have h1 := lenN_ge m h
    have h2 := lt_lenN m
    have h3 : 0 < lenN m := by unfold lenN; rw [if_neg h]; omega
    apply lenN_eq
    · have : 2 ^ lenN m = 2 * 2 ^ (lenN m - 1) := by rw [← Nat.pow_succ']; congr 1; omega
      omega
    · rw [Nat.pow_succ]; omega

/-- With more: what lies between is as good as a half of the last place. -/
theorem tail_true (neg : Bool) (m d : Nat) (e : Int) (hd : max ((lenN m : Int) - 53) (-1074 - e) = d) (hd0 : 0 < d) (hd1 : d ≤ 64) :
    tailI neg (((m : Int) * 2 ^ (64 - (d : Int)).toNat) % 18446744073709551616) ((m : Int) / 2 ^ d) (e + d) true = (roundN neg (2 * m + 1) (e - 1) : Int) := by
  have hl2 := lenN_odd m
  have hD : dropN (2 * m + 1) (e - 1) = ((d + 1 : Nat) : Int) := by unfold dropN; omega
  have hb := rne_bounds (2 * m + 1) (d + 1)
  have hl : lenN (2 * m + 1) ≤ (d + 1) + 53 := by omega
  have hx := div_len (2 * m + 1) (d + 1) 53 hl
  have hq := rndI_true m d hd1 hd0
  have hn : e + d = -1074 ∨ 4503599627370496 ≤ rne (2 * m + 1) (d + 1) := by
    by_cases hc : e + d = -1074
    · exact .inl hc
    · right
      have : lenN (2 * m + 1) = (d + 1) + 52 + 1 := by omega
      have := le_div_len (2 * m + 1) (d + 1) 52 this
      simp only [Nat.reducePow] at this
      omega
  rw [tailI_word neg _ _ _ true (rne (2 * m + 1) (d + 1)) hq (by simp only [Nat.reducePow] at hx; omega) (by omega) hn]
  unfold roundN keptN
  rw [if_neg (by omega), hD, if_neg (by omega)]
  have e1 : (e - 1 + ((d + 1 : Nat) : Int) + 1074).toNat = (e + d + 1074).toNat := by congr 1; omega
  have e2 : ((d + 1 : Nat) : Int).toNat = d + 1 := by omega
  rw [e1, e2]

end Go.Plumb
