/-
  A finite word is rounded to itself; the machine's comparison of a rounded number; exponents of sums and products of words.
-/
import Derived.Test.YtjlaadadbpffdaaGreatDoorDyN
import Derived.Test.YtjlaadadbpffdaaGreatDoorBitsT
set_option linter.unusedSimpArgs false
set_option linter.unusedVariables false
namespace Go.Plumb
theorem roundN_exact (neg : Bool) (n : Nat) (e : Int) (h : n ≠ 0) (hd : dropN n e = 0) : roundN neg n e = wordN neg (min ((e + 1074).toNat * 4503599627370496 + n) 9218868437227405312) := by
  unfold roundN
  rw [if_neg h, hd]
  unfold keptN
  simp
/-- A finite word's parts are rounded to the word. -/
theorem parts_round (x : Int) (h0 : 0 ≤ x) (h1 : x < 18446744073709551616) (hc : classI x ≤ 3) : roundW (pNeg x) (pMan x) (pExp x) false = x := by
  have hneg : pNeg x = decide (9223372036854775808 ≤ x) := by
    unfold pNeg
    simp only [hc, decide_true, Bool.true_and]
    rw [Bool.eq_iff_iff]; simp; omega
  have hcs : classI x = 1 ∨ classI x = 2 ∨ classI x = 3 := by have := classI_cases x; omega
  unfold roundW
  simp only [Bool.false_eq_true, if_false]
  rcases hcs with hk | hk | hk
  · have hm : pMan x = 0 := by
      unfold pMan; rw [if_neg (by omega), if_pos (by omega)]
      unfold classI at hk; (repeat' split at hk) <;> omega
    have hf : x / 4503599627370496 % 2048 = 0 ∧ x % 4503599627370496 = 0 := by
      unfold classI at hk; (repeat' split at hk) <;> omega
    rw [hm]
    show (wordN (pNeg x) 0 : Int) = x
    rw [wordN_sign, hneg]
    by_cases hs : 9223372036854775808 ≤ x
    · simp only [hs, decide_true, if_true]; omega
    · simp only [hs, decide_false, Bool.false_eq_true, if_false]; omega
  · have hm : pMan x = x % 4503599627370496 := by unfold pMan; rw [if_neg (by omega), if_pos (by omega)]
    have he : pExp x = -1074 := by unfold pExp; rw [if_neg (by omega), if_pos hk]
    have hf : x / 4503599627370496 % 2048 = 0 ∧ ¬ x % 4503599627370496 = 0 := by
      unfold classI at hk; (repeat' split at hk) <;> omega
    rw [hm, he]
    have hl := lenN_le (x % 4503599627370496).toNat 52 (by simp only [Nat.reducePow]; omega)
    rw [roundN_exact _ _ _ (by omega) (by unfold dropN; omega), wordN_sign, hneg]
    have e0 : ((-1074 : Int) + 1074).toNat = 0 := rfl
    rw [e0]
    by_cases hs : 9223372036854775808 ≤ x
    · simp only [hs, decide_true, if_true]; omega
    · simp only [hs, decide_false, Bool.false_eq_true, if_false]; omega
  · have hm : pMan x = 4503599627370496 + x % 4503599627370496 := by unfold pMan; rw [if_pos hk]
    have he : pExp x = x / 4503599627370496 % 2048 - 1075 := by unfold pExp; rw [if_pos hk]
    have hf : ¬ x / 4503599627370496 % 2048 = 0 ∧ ¬ x / 4503599627370496 % 2048 = 2047 := by
      unfold classI at hk; (repeat' split at hk) <;> omega
    rw [hm, he]
    have hl : lenN (4503599627370496 + x % 4503599627370496).toNat = 53 := lenN_eq (k := 52) (by simp only [Nat.reducePow]; omega) (by simp only [Nat.reduceAdd, Nat.reducePow]; omega)
    rw [roundN_exact _ _ _ (by omega) (by unfold dropN; omega), wordN_sign, hneg]
    by_cases hs : 9223372036854775808 ≤ x
    · simp only [hs, decide_true, if_true]; omega
    · simp only [hs, decide_false, Bool.false_eq_true, if_false]; omega
theorem rnd_word (x : Nat) (h : classI (x : Int) ≤ 3) (hx : x < 18446744073709551616) : rndD (dyW x) = x := by
  have h1 := parts_round (x : Int) (by omega) (by omega) h
  unfold roundW at h1
  rw [if_neg (by simp)] at h1
  exact Int.ofNat.inj h1
theorem order_refl (a : Nat) (h : ¬ 9218868437227405312 < a % 9223372036854775808) : FloatKind.f64.format.order a a = some .eq := by
  show (FloatKind.f64.format.read a).order (FloatKind.f64.format.read a) = _
  rw [order_self, read_double, decide_eq_false h]
  rfl
theorem order_zero (s : Bool) : FloatKind.f64.format.order 0 (wordN s 0) = some .eq := by cases s <;> decide
theorem rnd_no_nan (d : Dy) : ¬ 9218868437227405312 < rndD d % 9223372036854775808 := by
  unfold rndD roundN wordN
  split
  · split <;> omega
  · have : min ((d.e + dropN d.m d.e + 1074).toNat * 4503599627370496 + keptN d.m (dropN d.m d.e)) 9218868437227405312 ≤ 9218868437227405312 := Nat.min_le_right _ _
    revert this
    generalize min ((d.e + dropN d.m d.e + 1074).toNat * 4503599627370496 + keptN d.m (dropN d.m d.e)) 9218868437227405312 = z
    intro hz
    split <;> omega
/-- A word's float, out of its number. -/
theorem of_word (x : Nat) (h : classI (x : Int) ≤ 3) (hx : x < 18446744073709551616) : FloatKind.f64.format.order (rndD (nrm (dyW x))) x = some .eq := by
  by_cases h0 : (dyW x).m = 0
  · rw [nrm_zero h0]
    have e1 : rndD zeroD = 0 := by rw [rndD_zero _ rfl]; rfl
    rw [e1, ← zero_word x h h0 hx]
    exact order_zero _
  · rw [rndD_nrm _ h0, rnd_word x h hx]
    have := rnd_no_nan (dyW x)
    rw [rnd_word x h hx] at this
    exact order_refl x this
/-- What is less than 2^K of the places of 2^-P has a normal place below K - P. -/
theorem nrm_hi {P : Int} {d : Dy} {K : Nat} (hd : -P ≤ d.e) (hv : (valP P d).natAbs < 2 ^ K) (hP : 0 ≤ P) (hK : P ≤ K) : -P ≤ (nrm d).e ∧ (nrm d).e ≤ K - P := by
  refine ⟨nrm_ge hd hP, ?_⟩
  by_cases h0 : d.m = 0
  · rw [nrm_zero h0]; show (0 : Int) ≤ _; omega
  · have h1 := valP_nrm (P := P) hd
    have h2 : (nrm d).m ≠ 0 := fun h => h0 ((nrm_m_zero d).1 h)
    have h3 := nrm_ge hd hP
    rw [← h1] at hv
    unfold valP at hv
    have e : (sg (nrm d).s * (((nrm d).m * 2 ^ ((nrm d).e + P).toNat : Nat) : Int)).natAbs = (nrm d).m * 2 ^ ((nrm d).e + P).toNat := by rw [sg_mul]; split <;> omega
    rw [e] at hv
    have h4 : 1 * 2 ^ ((nrm d).e + P).toNat ≤ (nrm d).m * 2 ^ ((nrm d).e + P).toNat := Nat.mul_le_mul_right _ (by omega)
    have h5 : ((nrm d).e + P).toNat < K := by
      apply Nat.lt_of_not_le
      intro h
      have := Nat.pow_le_pow_right (show 0 < 2 by decide) h
      omega
    omega
/-- The size of a number at a place. -/
theorem val_abs {P : Int} {d : Dy} : (valP P d).natAbs = d.m * 2 ^ (d.e + P).toNat := by
  unfold valP; rw [sg_mul]; split <;> omega
theorem val_lt {P : Int} {d : Dy} {b E K : Nat} (hm : d.m < 2 ^ b) (he : (d.e + P).toNat ≤ E) (hK : K = b + E) : (valP P d).natAbs < 2 ^ K := by
  rw [val_abs, hK, Nat.pow_add]
  have h1 : 2 ^ (d.e + P).toNat ≤ 2 ^ E := Nat.pow_le_pow_right (by decide) he
  exact Nat.mul_lt_mul_of_lt_of_le hm h1 (Nat.two_pow_pos _)
theorem word_val (x K : Nat) (hK : K = 2100) : (valP 1074 (dyW x)).natAbs < 2 ^ K := val_lt (b := 53) (E := 2047) (by have := dyW_m_lt x; simpa using this) (by have := dyW_e x; omega) hK
end Go.Plumb
