/-
  Numbers within places: 'Fit P K d': d times 2^P is whole and below 2^K; sums and products stay within; the program's answers there. The machine's sums, differences and products of two finite words.
-/
import Derived.Test.YtjlaadadbpffdaaGreatDoorPartsR
set_option linter.unusedSimpArgs false
set_option linter.unusedVariables false
namespace Go.Plumb

def Fit (P : Int) (K : Nat) (d : Dy) : Prop := -P ≤ d.e ∧ (valP P d).natAbs < 2 ^ K
theorem Fit.more {P : Int} {K L : Nat} {d : Dy} (h : Fit P K d) (hL : K ≤ L) : Fit P L d := ⟨h.1, Nat.lt_of_lt_of_le h.2 (Nat.pow_le_pow_right (by decide) hL)⟩
theorem Fit.nrm {P : Int} {K : Nat} {d : Dy} (h : Fit P K d) (hP : 0 ≤ P) : Fit P K (nrm d) := ⟨nrm_ge h.1 hP, by rw [valP_nrm h.1]; exact h.2⟩
theorem Fit.add {P : Int} {K : Nat} {x y : Dy} (hx : Fit P K x) (hy : Fit P K y) : Fit P (K + 1) (addD x y) := by
  refine ⟨by rw [addD_e]; exact lowE_ge hx.1 hy.1, ?_⟩
  rw [valP_add hx.1 hy.1, Nat.pow_succ]
  have h1 := hx.2
  have h2 := hy.2
  generalize valP P x = a at *
  generalize valP P y = b at *
  generalize 2 ^ K = p at *
  omega
theorem Fit.neg {P : Int} {K : Nat} {x : Dy} (hx : Fit P K x) : Fit P K (negD x) := by
  refine ⟨hx.1, ?_⟩
  rw [valP_neg, Int.natAbs_neg]; exact hx.2
theorem Fit.mul {P Q : Int} {K L : Nat} {x y : Dy} (hx : Fit P K x) (hy : Fit Q L y) : Fit (P + Q) (K + L) (mulD x y) := by
  refine ⟨?_, ?_⟩
  · have := hx.1; have := hy.1
    show -(P + Q) ≤ x.e + y.e
    omega
  · rw [valP_mul hx.1 hy.1, Int.natAbs_mul, Nat.pow_add]
    exact Nat.mul_lt_mul'' hx.2 hy.2
theorem Fit.low {P Q : Int} {K L : Nat} {x : Dy} (hx : Fit P K x) (hQ : P ≤ Q) (hL : L = K + (Q - P).toNat) : Fit Q L x := by
  refine ⟨by have := hx.1; omega, ?_⟩
  rw [valP_low hx.1 hQ, Int.natAbs_mul, hL, Nat.pow_add, Int.natAbs_natCast]
  exact Nat.mul_lt_mul_of_pos_right hx.2 (Nat.two_pow_pos _)
theorem Fit.e {P : Int} {K : Nat} {d : Dy} (h : Fit P K d) (hP : 0 ≤ P) (hK : P ≤ K) : -P ≤ (Plumb.nrm d).e ∧ (Plumb.nrm d).e ≤ K - P := nrm_hi h.1 h.2 hP hK
theorem Fit.len {P : Int} {K : Nat} {d : Dy} (h : Fit P K d) : (limbs d.m).length ≤ K / 64 + 1 := by
  apply length_limbs_le
  have h1 := h.2
  rw [val_abs] at h1
  have h2 : d.m * 1 ≤ d.m * 2 ^ (d.e + P).toNat := Nat.mul_le_mul_left _ (Nat.two_pow_pos _)
  have h3 : 2 ^ K ≤ 18446744073709551616 ^ (K / 64 + 1) := by rw [powB64]; exact Nat.pow_le_pow_right (by decide) (by omega)
  omega
theorem near_of_e {x y : Dy} (h : x.e - y.e ≤ 12000 ∧ y.e - x.e ≤ 12000) : ¬ farD x y ∧ nearD x y := by
  refine ⟨?_, .inr (.inr h)⟩
  rintro ⟨_, _, h3⟩
  omega
theorem sumO_ok {P : Int} {K : Nat} {x y : Dy} (hx : Fit P K x) (hy : Fit P K y) (mx : mayE x.e) (my : mayE y.e) (hP : 0 ≤ P) (hK : P ≤ K) (hK2 : K ≤ 11000) :
    addO x y = (nrm (addD x y), 0) ∧ (farD (nrm x) (nrm y) ∨ nearD (nrm x) (nrm y)) ∧ mayE (nrm (addD x y)).e := by
  have h1 := hx.e hP hK
  have h2 := hy.e hP hK
  obtain ⟨hf, hn⟩ := near_of_e (x := nrm x) (y := nrm y) (by omega)
  have h3 := (hx.add hy).e hP (by omega)
  have hm : mayE (nrm (addD x y)).e := by unfold mayE; omega
  refine ⟨?_, .inr hn, hm⟩
  unfold addO
  rw [if_pos ⟨mx, my⟩, if_neg hf]
  exact doneO_is (nrm_addD x y) hm
theorem mulO_ok {P Q : Int} {K L : Nat} {x y : Dy} (hx : Fit P K x) (hy : Fit Q L y) (mx : mayE x.e) (my : mayE y.e) (hP : 0 ≤ P) (hQ : 0 ≤ Q) (hK : P ≤ K) (hL : Q ≤ L) (hK2 : K ≤ 20000) (hL2 : L ≤ 20000) :
    mulO x y = (nrm (mulD x y), 0) ∧ mayE (nrm (mulD x y)).e := by
  have h3 := (hx.mul hy).e (by omega) (by omega)
  have hm : mayE (nrm (mulD x y)).e := by unfold mayE; omega
  refine ⟨?_, hm⟩
  unfold mulO
  rw [if_pos ⟨mx, my⟩]
  exact doneO_is (nrm_mulD x y) hm

/-! ### The machine -/
theorem word_fit (x K : Nat) (hK : K = 2100) : Fit 1074 K (dyW x) := ⟨(dyW_e x).1, word_val x K hK⟩
theorem negI_class (x : Nat) (hx : x < 18446744073709551616) (h : classI (x : Int) ≤ 3) : classI (((negI (x : Int)).toNat : Nat) : Int) = classI (x : Int) ∧ (negI (x : Int)).toNat < 18446744073709551616 ∧ dyW ((negI (x : Int)).toNat) = negD (dyW x) := by
  have hn : (negI (x : Int)).toNat = (x + 9223372036854775808) % 18446744073709551616 := by unfold negI; rw [if_neg (by omega)]; omega
  have hn' : (((negI (x : Int)).toNat : Nat) : Int) = ((x : Int) + 9223372036854775808) % 18446744073709551616 := by rw [hn]; omega
  have hc : classI (((negI (x : Int)).toNat : Nat) : Int) = classI (x : Int) := by
    rw [hn']
    unfold classI
    have e1 : ((x : Int) + 9223372036854775808) % 18446744073709551616 / 4503599627370496 % 2048 = (x : Int) / 4503599627370496 % 2048 := by omega
    have e2 : ((x : Int) + 9223372036854775808) % 18446744073709551616 % 4503599627370496 = (x : Int) % 4503599627370496 := by omega
    rw [e1, e2]
  have hlt : (negI (x : Int)).toNat < 18446744073709551616 := by rw [hn]; exact Nat.mod_lt _ (by decide)
  refine ⟨hc, hlt, Dy.ext' ?_ ?_ ?_⟩
  · rw [dyW_s _ (by rw [hc]; exact h) hlt]
    show negW _ = !(dyW x).s
    rw [dyW_s x h hx, hn]
    unfold negW
    rw [Bool.eq_iff_iff]; simp; omega
  · show (pMan _).toNat = (pMan _).toNat
    unfold pMan
    rw [hc, hn']
    have e2 : ((x : Int) + 9223372036854775808) % 18446744073709551616 % 4503599627370496 = (x : Int) % 4503599627370496 := by omega
    rw [e2]
  · show pExp _ = pExp _
    unfold pExp
    rw [hc, hn']
    have e1 : ((x : Int) + 9223372036854775808) % 18446744073709551616 / 4503599627370496 % 2048 = (x : Int) / 4503599627370496 % 2048 := by omega
    rw [e1]
theorem sum_order (x y : Nat) (hx : classI (x : Int) ≤ 3) (hy : classI (y : Int) ≤ 3) (h1 : x < 18446744073709551616) (h2 : y < 18446744073709551616) :
    ∃ z, Ieee.double.add x y = some z ∧ FloatKind.f64.format.order (rndD (nrm (addD (nrm (dyW x)) (nrm (dyW y))))) z = some .eq := by
  refine ⟨_, add_fin x y hx hy h1 h2, ?_⟩
  by_cases h : (dyW x).m = 0 ∧ (dyW y).m = 0
  · rw [if_pos h, nrm_zero h.1, nrm_zero h.2]
    have e : rndD (nrm (addD zeroD zeroD)) = 0 := by
      have : addD zeroD zeroD = zeroD := rfl
      rw [this, nrm_zero (d := zeroD) rfl, rndD_zero _ rfl]; rfl
    rw [e]
    exact order_zero _
  · rw [if_neg h]
    exact order_refl _ (rnd_no_nan _)
theorem mul_order (x y : Nat) (hx : classI (x : Int) ≤ 3) (hy : classI (y : Int) ≤ 3) (h1 : x < 18446744073709551616) (h2 : y < 18446744073709551616) :
    ∃ z, Ieee.double.mul x y = some z ∧ FloatKind.f64.format.order (rndD (nrm (mulD (nrm (dyW x)) (nrm (dyW y))))) z = some .eq := by
  refine ⟨_, mul_fin x y hx hy h1 h2, ?_⟩
  by_cases h : (dyW x).m = 0 ∨ (dyW y).m = 0
  · rw [if_pos h]
    have e0 : (mulD (nrm (dyW x)) (nrm (dyW y))).m = 0 := by
      show (nrm (dyW x)).m * (nrm (dyW y)).m = 0
      rcases h with h | h
      · rw [(nrm_m_zero _).2 h, Nat.zero_mul]
      · rw [(nrm_m_zero _).2 h, Nat.mul_zero]
    have e : rndD (nrm (mulD (nrm (dyW x)) (nrm (dyW y)))) = 0 := by rw [nrm_zero e0, rndD_zero _ rfl]; rfl
    rw [e]
    exact order_zero _
  · rw [if_neg h]
    exact order_refl _ (rnd_no_nan _)
theorem sub_order (x y : Nat) (hx : classI (x : Int) ≤ 3) (hy : classI (y : Int) ≤ 3) (h1 : x < 18446744073709551616) (h2 : y < 18446744073709551616) :
    ∃ z, Ieee.double.sub x y = some z ∧ FloatKind.f64.format.order (rndD (nrm (addD (nrm (dyW x)) (negD (nrm (dyW y)))))) z = some .eq := by
  obtain ⟨c1, c2, c3⟩ := negI_class y h2 hy
  obtain ⟨z, hz, ho⟩ := sum_order x _ hx (by rw [c1]; exact hy) h1 c2
  refine ⟨z, by rw [sub_add x y (by omega) h2]; exact hz, ?_⟩
  rw [c3] at ho
  have e : nrm (addD (nrm (dyW x)) (nrm (negD (dyW y)))) = nrm (addD (nrm (dyW x)) (negD (nrm (dyW y)))) := by
    have hx' := (dyW_e x).1
    have hy' := (dyW_e y).1
    have a1 := nrm_ge (P := 1074) hx' (by omega)
    have a2 := nrm_ge (P := 1074) (d := negD (dyW y)) hy' (by omega)
    have a3 := nrm_ge (P := 1074) hy' (by omega)
    refine nrm_eq (P := 1074) (by rw [addD_e]; exact lowE_ge a1 a2) (by rw [addD_e]; exact lowE_ge a1 a3) ?_
    rw [valP_add a1 a2, valP_add a1 (by exact a3), valP_neg, valP_nrm (d := negD (dyW y)) hy', valP_neg, valP_nrm hy']
  rw [e] at ho
  exact ho
end Go.Plumb
