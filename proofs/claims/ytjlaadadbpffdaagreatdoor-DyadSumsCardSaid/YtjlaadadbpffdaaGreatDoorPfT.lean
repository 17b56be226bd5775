/-
  PartsR, DyFit: as one text.
-/
import Derived.Test.YtjlaadadbpffdaaGreatDoorDyN
import Derived.Test.YtjlaadadbpffdaaGreatDoorRbT
set_option linter.unusedSimpArgs false
set_option linter.unusedVariables false
namespace Go.Plumb
theorem roundN_exact (neg : Bool) (n : Nat) (e : Int) (h : n ≠ 0) (hd : dropN n e = 0) : roundN neg n e = wordN neg (min ((e + 1074).toNat * 4503599627370496 + n) 9218868437227405312) := by
  unfold roundN
  rw [if_neg h, hd]
  unfold keptN
  simp
/-- A finite word's parts are rounded to the word. -/
theorem parts_round (x : Int) (h0 : 0 ≤ x) (h1 : x < 18446744073709551616) (hc : classI x ≤ 3) : roundW (pNeg x) (pMan x) (pExp x) false = x := by
  have hneg : pNeg x = decide (9223372036854775808 ≤ x) := by
    unfold pNeg
    simp only [hc, decide_true, Bool.true_and]
    rw [Bool.eq_iff_iff]; simp; omega
  have hcs : classI x = 1 ∨ classI x = 2 ∨ classI x = 3 := by have := classI_cases x; omega
  unfold roundW
  simp only [Bool.false_eq_true, if_false]
  rcases hcs with hk | hk | hk
  · have hm : pMan x = 0 := by
      unfold pMan; rw [if_neg (by omega), if_pos (by omega)]
      unfold classI at hk; (repeat' split at hk) <;> omega
    have hf : x / 4503599627370496 % 2048 = 0 ∧ x % 4503599627370496 = 0 := by
      unfold classI at hk; (repeat' split at hk) <;> omega
    rw [hm]
    show (wordN (pNeg x) 0 : Int) = x
    rw [wordN_sign, hneg]
    by_cases hs : 9223372036854775808 ≤ x
    · simp only [hs, decide_true, if_true]; omega
    · simp only [hs, decide_false, Bool.false_eq_true, if_false]; omega
  · have hm : pMan x = x % 4503599627370496 := by unfold pMan; rw [if_neg (by omega), if_pos (by omega)]
    have he : pExp x = -1074 := by unfold pExp; rw [if_neg (by omega), if_pos hk]
    have hf : x / 4503599627370496 % 2048 = 0 ∧ ¬ x % 4503599627370496 = 0 := by
      unfold classI at hk; (repeat' split at hk) <;> omega
    rw [hm, he]
    have hl := lenN_le (x % 4503599627370496).toNat 52 (by simp only [Nat.reducePow]; omega)
    rw [roundN_exact _ _ _ (by omega) (by unfold dropN; omega), wordN_sign, hneg]
    have e0 : ((-1074 : Int) + 1074).toNat = 0 := rfl
    rw [e0]
    by_cases hs : 9223372036854775808 ≤ x
    · simp only [hs, decide_true, if_true]; omega
    · simp only [hs, decide_false, Bool.false_eq_true, if_false]; omega
  · have hm : pMan x = 4503599627370496 + x % 4503599627370496 := by unfold pMan; rw [if_pos hk]
    have he : pExp x = x / 4503599627370496 % 2048 - 1075 := by unfold pExp; rw [if_pos hk]
    have hf : ¬ x / 4503599627370496 % 2048 = 0 ∧ ¬ x / 4503599627370496 % 2048 = 2047 := by
      unfold classI at hk; (repeat' split at hk) <;> omega
    rw [hm, he]
    have hl : lenN (4503599627370496 + x % 4503599627370496).toNat = 53 := lenN_eq (k := 52) (by simp only [Nat.reducePow]; omega) (by simp only [Nat.reduceAdd, Nat.reducePow]; omega)
    rw [roundN_exact _ _ _ (by omega) (by unfold dropN; omega), wordN_sign, hneg]
    by_cases hs : 9223372036854775808 ≤ x
    · simp only [hs, decide_true, if_true]; omega
    · simp only [hs, decide_false, Bool.false_eq_true, if_false]; omega
theorem rnd_word (x : Nat) (h : classI (x : Int) ≤ 3) (hx : x < 18446744073709551616) : rndD (dyW x) = x := by
  have h1 := parts_round (x : Int) (by omega) (by omega) h
  unfold roundW at h1
  rw [if_neg (by simp)] at h1
  exact Int.ofNat.inj h1
theorem order_refl (a : Nat) (h : ¬ 9218868437227405312 < a % 9223372036854775808) : FloatKind.f64.format.order a a = some .eq := by
  show (FloatKind.f64.format.read a).order (FloatKind.f64.format.read a) = _
  rw [order_self, read_double, decide_eq_false h]
  rfl
theorem order_zero (s : Bool) : FloatKind.f64.format.order 0 (wordN s 0) = some .eq := by cases s <;> decide
theorem rnd_no_nan (d : Dy) : ¬ 9218868437227405312 < rndD d % 9223372036854775808 := by
  unfold rndD roundN wordN
  split
  · split <;> omega
  · have : min ((d.e + dropN d.m d.e + 1074).toNat * 4503599627370496 + keptN d.m (dropN d.m d.e)) 9218868437227405312 ≤ 9218868437227405312 := Nat.min_le_right _ _
    revert this
    generalize min ((d.e + dropN d.m d.e + 1074).toNat * 4503599627370496 + keptN d.m (dropN d.m d.e)) 9218868437227405312 = z
    intro hz
    split <;> omega
/-- A word's float, out of its number. -/
theorem of_word (x : Nat) (h : classI (x : Int) ≤ 3) (hx : x < 18446744073709551616) : FloatKind.f64.format.order (rndD (nrm (dyW x))) x = some .eq := by
  by_cases h0 : (dyW x).m = 0
  · rw [nrm_zero h0]
    have e1 : rndD zeroD = 0 := by rw [rndD_zero _ rfl]; rfl
    rw [e1, ← zero_word x h h0 hx]
    exact order_zero _
  · rw [rndD_nrm _ h0, rnd_word x h hx]
    have := rnd_no_nan (dyW x)
    rw [rnd_word x h hx] at this
    exact order_refl x this
/-- What is less than 2^K of the places of 2^-P has a normal place below K - P. -/
theorem nrm_hi {P : Int} {d : Dy} {K : Nat} (hd : -P ≤ d.e) (hv : (valP P d).natAbs < 2 ^ K) (hP : 0 ≤ P) (hK : P ≤ K) : -P ≤ (nrm d).e ∧ (nrm d).e ≤ K - P := by
  refine ⟨nrm_ge hd hP, ?_⟩
  by_cases h0 : d.m = 0
  · rw [nrm_zero h0]; show (0 : Int) ≤ _; omega
  · have h1 := valP_nrm (P := P) hd
    have h2 : (nrm d).m ≠ 0 := fun h => h0 ((nrm_m_zero d).1 h)
    have h3 := nrm_ge hd hP
    rw [← h1] at hv
    unfold valP at hv
    have e : (sg (nrm d).s * (((nrm d).m * 2 ^ ((nrm d).e + P).toNat : Nat) : Int)).natAbs = (nrm d).m * 2 ^ ((nrm d).e + P).toNat := by rw [sg_mul]; split <;> omega
    rw [e] at hv
    have h4 : 1 * 2 ^ ((nrm d).e + P).toNat ≤ (nrm d).m * 2 ^ ((nrm d).e + P).toNat := Nat.mul_le_mul_right _ (by omega)
    have h5 : ((nrm d).e + P).toNat < K := by
      apply Nat.lt_of_not_le
      intro h
      have := Nat.pow_le_pow_right (show 0 < 2 by decide) h
      omega
    omega
/-- The size of a number at a place. -/
theorem val_abs {P : Int} {d : Dy} : (valP P d).natAbs = d.m * 2 ^ (d.e + P).toNat := by
  unfold valP; rw [sg_mul]; split <;> omega
theorem val_lt {P : Int} {d : Dy} {b E K : Nat} (hm : d.m < 2 ^ b) (he : (d.e + P).toNat ≤ E) (hK : K = b + E) : (valP P d).natAbs < 2 ^ K := by
  rw [val_abs, hK, Nat.pow_add]
  have h1 : 2 ^ (d.e + P).toNat ≤ 2 ^ E := Nat.pow_le_pow_right (by decide) he
  exact Nat.mul_lt_mul_of_lt_of_le hm h1 (Nat.two_pow_pos _)
theorem word_val (x K : Nat) (hK : K = 2100) : (valP 1074 (dyW x)).natAbs < 2 ^ K := val_lt (b := 53) (E := 2047) (by have := dyW_m_lt x; simpa using this) (by have := dyW_e x; omega) hK
end Go.Plumb

namespace Go.Plumb

def Fit (P : Int) (K : Nat) (d : Dy) : Prop := -P ≤ d.e ∧ (valP P d).natAbs < 2 ^ K
theorem Fit.more {P : Int} {K L : Nat} {d : Dy} (h : Fit P K d) (hL : K ≤ L) : Fit P L d := ⟨h.1, Nat.lt_of_lt_of_le h.2 (Nat.pow_le_pow_right (by decide) hL)⟩
theorem Fit.nrm {P : Int} {K : Nat} {d : Dy} (h : Fit P K d) (hP : 0 ≤ P) : Fit P K (nrm d) := ⟨nrm_ge h.1 hP, by rw [valP_nrm h.1]; exact h.2⟩
theorem Fit.add {P : Int} {K : Nat} {x y : Dy} (hx : Fit P K x) (hy : Fit P K y) : Fit P (K + 1) (addD x y) := by
  refine ⟨by rw [addD_e]; exact lowE_ge hx.1 hy.1, ?_⟩
  rw [valP_add hx.1 hy.1, Nat.pow_succ]
  have h1 := hx.2
  have h2 := hy.2
  generalize valP P x = a at *
  generalize valP P y = b at *
  generalize 2 ^ K = p at *
  omega
theorem Fit.neg {P : Int} {K : Nat} {x : Dy} (hx : Fit P K x) : Fit P K (negD x) := by
  refine ⟨hx.1, ?_⟩
  rw [valP_neg, Int.natAbs_neg]; exact hx.2
theorem Fit.mul {P Q : Int} {K L : Nat} {x y : Dy} (hx : Fit P K x) (hy : Fit Q L y) : Fit (P + Q) (K + L) (mulD x y) := by
  refine ⟨?_, ?_⟩
  · have := hx.1; have := hy.1
    show -(P + Q) ≤ x.e + y.e
    omega
  · rw [valP_mul hx.1 hy.1, Int.natAbs_mul, Nat.pow_add]
    exact Nat.mul_lt_mul'' hx.2 hy.2
theorem Fit.low {P Q : Int} {K L : Nat} {x : Dy} (hx : Fit P K x) (hQ : P ≤ Q) (hL : L = K + (Q - P).toNat) : Fit Q L x := by
  refine ⟨by have := hx.1; omega, ?_⟩
  rw [valP_low hx.1 hQ, Int.natAbs_mul, hL, Nat.pow_add, Int.natAbs_natCast]
  exact Nat.mul_lt_mul_of_pos_right hx.2 (Nat.two_pow_pos _)
theorem Fit.e {P : Int} {K : Nat} {d : Dy} (h : Fit P K d) (hP : 0 ≤ P) (hK : P ≤ K) : -P ≤ (Plumb.nrm d).e ∧ (Plumb.nrm d).e ≤ K - P := nrm_hi h.1 h.2 hP hK
theorem Fit.len {P : Int} {K : Nat} {d : Dy} (h : Fit P K d) : (limbs d.m).length ≤ K / 64 + 1 := by
  apply length_limbs_le
  have h1 := h.2
  rw [val_abs] at h1
  have h2 : d.m * 1 ≤ d.m * 2 ^ (d.e + P).toNat := Nat.mul_le_mul_left _ (Nat.two_pow_pos _)
  have h3 : 2 ^ K ≤ 18446744073709551616 ^ (K / 64 + 1) := by rw [powB64]; exact Nat.pow_le_pow_right (by decide) (by omega)
  omega
theorem near_of_e {x y : Dy} (h : x.e - y.e ≤ 12000 ∧ y.e - x.e ≤ 12000) : ¬ farD x y ∧ nearD x y := by
  refine ⟨?_, .inr (.inr h)⟩
  rintro ⟨_, _, h3⟩
  omega
theorem sumO_ok {P : Int} {K : Nat} {x y : Dy} (hx : Fit P K x) (hy : Fit P K y) (mx : mayE x.e) (my : mayE y.e) (hP : 0 ≤ P) (hK : P ≤ K) (hK2 : K ≤ 11000) :
    addO x y = (nrm (addD x y), 0) ∧ (farD (nrm x) (nrm y) ∨ nearD (nrm x) (nrm y)) ∧ mayE (nrm (addD x y)).e := by
  have h1 := hx.e hP hK
  have h2 := hy.e hP hK
  obtain ⟨hf, hn⟩ := near_of_e (x := nrm x) (y := nrm y) (by omega)
  have h3 := (hx.add hy).e hP (by omega)
  have hm : mayE (nrm (addD x y)).e := by unfold mayE; omega
  refine ⟨?_, .inr hn, hm⟩
  unfold addO
  rw [if_pos ⟨mx, my⟩, if_neg hf]
  exact doneO_is (nrm_addD x y) hm
theorem mulO_ok {P Q : Int} {K L : Nat} {x y : Dy} (hx : Fit P K x) (hy : Fit Q L y) (mx : mayE x.e) (my : mayE y.e) (hP : 0 ≤ P) (hQ : 0 ≤ Q) (hK : P ≤ K) (hL : Q ≤ L) (hK2 : K ≤ 20000) (hL2 : L ≤ 20000) :
    mulO x y = (nrm (mulD x y), 0) ∧ mayE (nrm (mulD x y)).e := by
  have h3 := (hx.mul hy).e (by omega) (by omega)
  have hm : mayE (nrm (mulD x y)).e := by unfold mayE; omega
  refine ⟨?_, hm⟩
  unfold mulO
  rw [if_pos ⟨mx, my⟩]
  exact doneO_is (nrm_mulD x y) hm

/-! ### The machine -/
theorem word_fit (x K : Nat) (hK : K = 2100) : Fit 1074 K (dyW x) := ⟨(dyW_e x).1, word_val x K hK⟩
theorem negI_class (x : Nat) (hx : x < 18446744073709551616) (h : classI (x : Int) ≤ 3) : classI (((negI (x : Int)).toNat : Nat) : Int) = classI (x : Int) ∧ (negI (x : Int)).toNat < 18446744073709551616 ∧ dyW ((negI (x : Int)).toNat) = negD (dyW x) := by
  have hn : (negI (x : Int)).toNat = (x + 9223372036854775808) % 18446744073709551616 := by unfold negI; rw [if_neg (by omega)]; omega
  have hn' : (((negI (x : Int)).toNat : Nat) : Int) = ((x : Int) + 9223372036854775808) % 18446744073709551616 := by rw [hn]; omega
  have hc : classI (((negI (x : Int)).toNat : Nat) : Int) = classI (x : Int) := by
    rw [hn']
    unfold classI
    have e1 : ((x : Int) + 9223372036854775808) % 18446744073709551616 / 4503599627370496 % 2048 = (x : Int) / 4503599627370496 % 2048 := by omega
    have e2 : ((x : Int) + 9223372036854775808) % 18446744073709551616 % 4503599627370496 = (x : Int) % 4503599627370496 := by omega
    rw [e1, e2]
  have hlt : (negI (x : Int)).toNat < 18446744073709551616 := by rw [hn]; exact Nat.mod_lt _ (by decide)
  refine ⟨hc, hlt, Dy.ext' ?_ ?_ ?_⟩
  · rw [dyW_s _ (by rw [hc]; exact h) hlt]
    show negW _ = !(dyW x).s
    rw [dyW_s x h hx, hn]
    unfold negW
    rw [Bool.eq_iff_iff]; simp; omega
  · show (pMan _).toNat = (pMan _).toNat
    unfold pMan
    rw [hc, hn']
    have e2 : ((x : Int) + 9223372036854775808) % 18446744073709551616 % 4503599627370496 = (x : Int) % 4503599627370496 := by omega
    rw [e2]
  · show pExp _ = pExp _
    unfold pExp
    rw [hc, hn']
    have e1 : ((x : Int) + 9223372036854775808) % 18446744073709551616 / 4503599627370496 % 2048 = (x : Int) / 4503599627370496 % 2048 := by omega
    rw [e1]
theorem sum_order (x y : Nat) (hx : classI (x : Int) ≤ 3) (hy : classI (y : Int) ≤ 3) (h1 : x < 18446744073709551616) (h2 : y < 18446744073709551616) :
    ∃ z, Ieee.double.add x y = some z ∧ FloatKind.f64.format.order (rndD (nrm (addD (nrm (dyW x)) (nrm (dyW y))))) z = some .eq := by
  refine ⟨_, add_fin x y hx hy h1 h2, ?_⟩
  by_cases h : (dyW x).m = 0 ∧ (dyW y).m = 0
  · rw [if_pos h, nrm_zero h.1, nrm_zero h.2]
    have e : rndD (nrm (addD zeroD zeroD)) = 0 := by
      have : addD zeroD zeroD = zeroD := rfl
      rw [this, nrm_zero (d := zeroD) rfl, rndD_zero _ rfl]; rfl
    rw [e]
    exact order_zero _
  · rw [if_neg h]
    exact order_refl _ (rnd_no_nan _)
theorem mul_order (x y : Nat) (hx : classI (x : Int) ≤ 3) (hy : classI (y : Int) ≤ 3) (h1 : x < 18446744073709551616) (h2 : y < 18446744073709551616) :
    ∃ z, Ieee.double.mul x y = some z ∧ FloatKind.f64.format.order (rndD (nrm (mulD (nrm (dyW x)) (nrm (dyW y))))) z = some .eq := by
  refine ⟨_, mul_fin x y hx hy h1 h2, ?_⟩
  by_cases h : (dyW x).m = 0 ∨ (dyW y).m = 0
  · rw [if_pos h]
    have e0 : (mulD (nrm (dyW x)) (nrm (dyW y))).m = 0 := by
      show (nrm (dyW x)).m * (nrm (dyW y)).m = 0
      rcases h with h | h
      · rw [(nrm_m_zero _).2 h, Nat.zero_mul]
      · rw [(nrm_m_zero _).2 h, Nat.mul_zero]
    have e : rndD (nrm (mulD (nrm (dyW x)) (nrm (dyW y)))) = 0 := by rw [nrm_zero e0, rndD_zero _ rfl]; rfl
    rw [e]
    exact order_zero _
  · rw [if_neg h]
    exact order_refl _ (rnd_no_nan _)
theorem sub_order (x y : Nat) (hx : classI (x : Int) ≤ 3) (hy : classI (y : Int) ≤ 3) (h1 : x < 18446744073709551616) (h2 : y < 18446744073709551616) :
    ∃ z, Ieee.double.sub x y = some z ∧ FloatKind.f64.format.order (rndD (nrm (addD (nrm (dyW x)) (negD (nrm (dyW y)))))) z = some .eq := by
  obtain ⟨c1, c2, c3⟩ := negI_class y h2 hy
  obtain ⟨z, hz, ho⟩ := sum_order x _ hx (by rw [c1]; exact hy) h1 c2
  refine ⟨z, by rw [sub_add x y (by omega) h2]; exact hz, ?_⟩
  rw [c3] at ho
  have e : nrm (addD (nrm (dyW x)) (nrm (negD (dyW y)))) = nrm (addD (nrm (dyW x)) (negD (nrm (dyW y)))) := by
    have hx' := (dyW_e x).1
    have hy' := (dyW_e y).1
    have a1 := nrm_ge (P := 1074) hx' (by omega)
    have a2 := nrm_ge (P := 1074) (d := negD (dyW y)) hy' (by omega)
    have a3 := nrm_ge (P := 1074) hy' (by omega)
    refine nrm_eq (P := 1074) (by rw [addD_e]; exact lowE_ge a1 a2) (by rw [addD_e]; exact lowE_ge a1 a3) ?_
    rw [valP_add a1 a2, valP_add a1 (by exact a3), valP_neg, valP_nrm (d := negD (dyW y)) hy', valP_neg, valP_nrm hy']
  rw [e] at ho
  exact ho
end Go.Plumb
