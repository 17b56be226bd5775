/-
  The machine's products, quotients and roots of words as rounding of exact dyads.
-/
import Derived.Test.YtjlaadadbpffdaaGreatDoorMach
import Derived.Test.YtjlaadadbpffdaaGreatDoorNnL
set_option linter.unusedSimpArgs false
set_option linter.unusedVariables false
namespace Go.Plumb

theorem rndD_m0 {d : Dy} (h : d.m = 0) : rndD d = wordN d.s 0 := rndD_zero d h
theorem mul_number (s t : Bool) (m n : Nat) (i j : Int) : (Ieee.Datum.number s m i).product (.number t n j) = some (.number (s ^^ t) (m * n) (i + j)) := rfl
theorem mul_fin (x y : Nat) (hx : classI x ≤ 3) (hy : classI y ≤ 3) (h1 : x < 18446744073709551616) (h2 : y < 18446744073709551616) :
    Ieee.double.mul x y = some (if (dyW x).m = 0 ∨ (dyW y).m = 0 then wordN (negW x ^^ negW y) 0 else rndD (nrm (mulD (nrm (dyW x)) (nrm (dyW y))))) := by
  obtain ⟨e, _, _, hr, he⟩ := read_fin x hx h1
  obtain ⟨f, _, _, hs, hf⟩ := read_fin y hy h2
  unfold Ieee.Format.mul
  rw [hr, hs, mul_number]
  show some (Ieee.double.write _) = _
  rw [write_number, ← dyW_s x hx h1, ← dyW_s y hy h2]
  congr 1
  by_cases h0 : (dyW x).m = 0 ∨ (dyW y).m = 0
  · rw [if_pos h0, rndD_zero]
    rcases h0 with h | h
    · show _ * _ = 0
      rw [h, Nat.zero_mul]
    · show _ * _ = 0
      rw [h, Nat.mul_zero]
  · rw [if_neg h0]
    have a1 : (dyW x).m ≠ 0 := fun h => h0 (.inl h)
    have a2 : (dyW y).m ≠ 0 := fun h => h0 (.inr h)
    have a3 : (dyW x).m * (dyW y).m ≠ 0 := Nat.mul_ne_zero a1 a2
    rw [nrm_mulD, rndD_nrm _ (by exact a3), he a1, hf a2]
    rfl
theorem mul_nan (x y : Nat) (h : classI x = 5 ∨ classI y = 5 ∨ (classI x = 4 ∧ classI y ≤ 3 ∧ (dyW y).m = 0) ∨ (classI y = 4 ∧ classI x ≤ 3 ∧ (dyW x).m = 0)) (h1 : x < 18446744073709551616) (h2 : y < 18446744073709551616) : Ieee.double.mul x y = none := by
  unfold Ieee.Format.mul
  rcases h with h | h | ⟨h, h', hn⟩ | ⟨h, h', hn⟩
  · obtain ⟨s, t, hr⟩ := read_nan x h h1
    rw [hr]; rfl
  · obtain ⟨s, t, hr⟩ := read_nan y h h2
    rw [hr]
    cases Ieee.double.read x <;> rfl
  · obtain ⟨f, _, _, hs, hf⟩ := read_fin y h' h2
    rw [read_inf x h h1, hs, hn]; rfl
  · obtain ⟨f, _, _, hs, hf⟩ := read_fin x h' h1
    rw [read_inf y h h2, hs, hn]; rfl
theorem mul_inf (x y : Nat) (h : (classI x = 4 ∧ classI y = 4) ∨ (classI x = 4 ∧ classI y ≤ 3 ∧ (dyW y).m ≠ 0) ∨ (classI y = 4 ∧ classI x ≤ 3 ∧ (dyW x).m ≠ 0)) (h1 : x < 18446744073709551616) (h2 : y < 18446744073709551616) : Ieee.double.mul x y = some (wordN (negW x ^^ negW y) 9218868437227405312) := by
  unfold Ieee.Format.mul
  rcases h with ⟨h, h'⟩ | ⟨h, h', hn⟩ | ⟨h, h', hn⟩
  · rw [read_inf x h h1, read_inf y h' h2]
    show some (Ieee.double.write (.infinity _)) = _
    rw [word_inf]
  · obtain ⟨f, _, _, hs, hf⟩ := read_fin y h' h2
    rw [read_inf x h h1, hs, ← dyW_s y h' h2]
    show ((if (dyW y).m = 0 then none else some _).map _) = _
    rw [if_neg hn]
    show some (Ieee.double.write (.infinity _)) = _
    rw [word_inf]
  · obtain ⟨f, _, _, hs, hf⟩ := read_fin x h' h1
    rw [read_inf y h h2, hs, ← dyW_s x h' h1]
    show ((if (dyW x).m = 0 then none else some _).map _) = _
    rw [if_neg hn]
    show some (Ieee.double.write (.infinity _)) = _
    rw [word_inf, Bool.xor_comm]

/-! ### Quotients -/
/-- m / n to k places behind the point and one more, which tells whether something is left; rounded. -/
def quoR (neg : Bool) (m n : Nat) (e : Int) (k : Nat) : Nat := roundN neg (2 * (m * 2 ^ k / n) + (decide (m * 2 ^ k % n ≠ 0)).toNat) (e - k - 1)
theorem quo_exact (A n D : Nat) (hn : 0 < n) (hD : 0 < D) : (decide (A * D % n ≠ 0) || decide (A * D / n % D ≠ 0)) = decide (A % n ≠ 0) := by
  by_cases h : A % n = 0
  · obtain ⟨c, rfl⟩ := Nat.dvd_of_mod_eq_zero h
    have e1 : n * c * D / n = c * D := by rw [Nat.mul_assoc, Nat.mul_div_cancel_left _ hn]
    have e2 : n * c * D % n = 0 := by rw [Nat.mul_assoc]; exact Nat.mul_mod_right _ _
    rw [e1, e2, Nat.mul_mod_left, Nat.mul_mod_right]
    rfl
  · have : ¬ (A * D % n = 0 ∧ A * D / n % D = 0) := by
      rintro ⟨h1, h2⟩
      obtain ⟨q, hq⟩ := Nat.dvd_of_mod_eq_zero h1
      rw [hq, Nat.mul_div_cancel_left _ hn] at h2
      obtain ⟨c, rfl⟩ := Nat.dvd_of_mod_eq_zero h2
      apply h
      have : A = n * c := by
        apply Nat.eq_of_mul_eq_mul_right hD
        rw [hq, Nat.mul_assoc, Nat.mul_comm c]
      rw [this]; exact Nat.mul_mod_right _ _
    have h3 : decide (A % n ≠ 0) = true := by simp [h]
    rw [h3]
    simp only [Bool.or_eq_true, decide_eq_true_eq]
    omega
theorem quoR_more (neg : Bool) (m n : Nat) (e : Int) (k d : Nat) (hn : 0 < n) (h : 9007199254740992 ≤ m * 2 ^ k / n) : quoR neg m n e (k + d) = quoR neg m n e k := by
  unfold quoR
  have hD := Nat.two_pow_pos d
  have e1 : m * 2 ^ (k + d) = m * 2 ^ k * 2 ^ d := by rw [Nat.pow_add, Nat.mul_assoc]
  have e2 : m * 2 ^ k * 2 ^ d / n / 2 ^ d = m * 2 ^ k / n := by rw [Nat.div_div_eq_div_mul, Nat.mul_comm n, ← Nat.div_div_eq_div_mul, Nat.mul_div_cancel _ hD]
  rw [e1]
  have := roundN_more neg (m * 2 ^ k * 2 ^ d / n) d (e - ((k + d : Nat) : Int)) (decide (m * 2 ^ k * 2 ^ d % n ≠ 0)) (by rw [e2]; exact h)
  rw [this, e2, quo_exact _ _ _ hn hD]
  congr 1; omega
theorem quoR_same (neg : Bool) (m n : Nat) (e : Int) (k k' : Nat) (hn : 0 < n) (h : 9007199254740992 ≤ m * 2 ^ k / n) (h' : 9007199254740992 ≤ m * 2 ^ k' / n) : quoR neg m n e k = quoR neg m n e k' := by
  rcases Nat.le_total k k' with hk | hk
  · obtain ⟨d, rfl⟩ := Nat.exists_eq_add_of_le hk
    exact (quoR_more neg m n e k d hn h).symm
  · obtain ⟨d, rfl⟩ := Nat.exists_eq_add_of_le hk
    exact quoR_more neg m n e k' d hn h'
/-- Powers of 2 taken out above and below. -/
theorem quoR_shift (neg : Bool) (m n a b : Nat) (e : Int) (k k' : Nat) (hn : 0 < n) (hk : a + k = b + k') : quoR neg (m * 2 ^ a) (n * 2 ^ b) e k = quoR neg m n (e + a - b) k' := by
  unfold quoR
  have hb := Nat.two_pow_pos b
  have e1 : m * 2 ^ a * 2 ^ k = m * 2 ^ k' * 2 ^ b := by rw [Nat.mul_assoc, Nat.mul_assoc, ← Nat.pow_add, ← Nat.pow_add, hk, Nat.add_comm b]
  rw [e1, Nat.mul_div_mul_right _ _ hb, Nat.mul_mod_mul_right]
  have e2 : decide (m * 2 ^ k' % n * 2 ^ b ≠ 0) = decide (m * 2 ^ k' % n ≠ 0) := by
    rw [Bool.eq_iff_iff]
    simp only [decide_eq_true_eq, ne_eq, Nat.mul_eq_zero, not_or]
    constructor
    · exact fun h => h.1
    · exact fun h => ⟨h, by omega⟩
  rw [e2]
  congr 1; omega
theorem quo_big (m n k : Nat) (hm : m ≠ 0) (hn : n ≠ 0) (h : lenN n + 54 ≤ lenN m + k) : 9007199254740992 ≤ m * 2 ^ k / n := by
  rw [Nat.le_div_iff_mul_le (by omega)]
  have h1 := lenN_ge m hm
  have h2 := lt_lenN n
  have h3 : 0 < lenN m := by unfold lenN; rw [if_neg hm]; omega
  have h4 : 2 ^ (lenN m - 1) * 2 ^ k ≤ m * 2 ^ k := Nat.mul_le_mul_right _ h1
  rw [← Nat.pow_add] at h4
  have h5 : 2 ^ (53 + lenN n) ≤ 2 ^ (lenN m - 1 + k) := Nat.pow_le_pow_right (by decide) (by omega)
  rw [Nat.pow_add] at h5
  have h6 : 9007199254740992 * n ≤ 2 ^ 53 * 2 ^ lenN n := Nat.mul_le_mul (by decide) (by omega)
  omega
/-- The quotient of two numbers, rounded. -/
noncomputable def quoD (x y : Dy) : Nat := quoR (x.s != y.s) x.m y.m (x.e - y.e) ((lenN y.m - lenN x.m) + 66)
theorem quoD_at (x y : Dy) (k : Nat) (hx : x.m ≠ 0) (hy : y.m ≠ 0) (h : lenN y.m + 54 ≤ lenN x.m + k) : quoR (x.s != y.s) x.m y.m (x.e - y.e) k = quoD x y :=
  quoR_same _ _ _ _ _ _ (by omega) (quo_big _ _ _ hx hy h) (quo_big _ _ _ hx hy (by omega))
theorem lenN_odd_shift (m : Nat) (h : m ≠ 0) : lenN m = lenN (oddN m) + zerosN m := by
  have := lenN_scale (oddN m) (zerosN m) (oddN_ne h)
  rw [oddN_mul] at this
  exact this
theorem quoD_nrm (x y : Dy) (hx : x.m ≠ 0) (hy : y.m ≠ 0) : quoD (nrm x) (nrm y) = quoD x y := by
  have lx := lenN_odd_shift x.m hx
  have ly := lenN_odd_shift y.m hy
  have hx' := oddN_ne hx
  have hy' := oddN_ne hy
  obtain ⟨k, hk⟩ : ∃ k, k = lenN y.m + lenN x.m + zerosN y.m + zerosN x.m + 54 := ⟨_, rfl⟩
  rw [← quoD_at x y k hx hy (by omega), nrm_pos hx, nrm_pos hy]
  rw [← quoD_at _ _ (zerosN x.m + k - zerosN y.m) (by exact hx') (by exact hy') (by show lenN (oddN y.m) + 54 ≤ lenN (oddN x.m) + _; omega)]
  have := quoR_shift (x.s != y.s) (oddN x.m) (oddN y.m) (zerosN x.m) (zerosN y.m) (x.e - y.e) k (zerosN x.m + k - zerosN y.m) (by omega) (by omega)
  rw [oddN_mul, oddN_mul] at this
  rw [this]
  show quoR _ _ _ (x.e + (zerosN x.m : Int) - (y.e + (zerosN y.m : Int))) _ = _
  congr 1; omega
theorem log2_len (n : Nat) (h : n ≠ 0) : n.log2 + 1 = lenN n := by unfold lenN; rw [if_neg h]
theorem quo_number (s t : Bool) (m n : Nat) (i j : Int) (hm : m ≠ 0) (hn : n ≠ 0) (hl : lenN m ≤ 54 + lenN n) :
    ∃ d, (Ieee.Datum.number s m i).quotient 54 (.number t n j) = some d ∧ Ieee.double.write d = quoD ⟨s, m, i⟩ ⟨t, n, j⟩ := by
  refine ⟨.number (s ^^ t) (2 * (m <<< (54 + n.log2 - m.log2) / n) + (m <<< (54 + n.log2 - m.log2) % n != 0).toNat) (i - j - (54 + n.log2 - m.log2 : Nat) - 1), ?_, ?_⟩
  · show (if n = 0 then _ else _) = _
    rw [if_neg hn]
  · have lm := log2_len m hm
    have ln := log2_len n hn
    obtain ⟨k, hk⟩ : ∃ k, 54 + n.log2 - m.log2 = k := ⟨_, rfl⟩
    rw [hk, write_number, Nat.shiftLeft_eq]
    have := quoD_at ⟨s, m, i⟩ ⟨t, n, j⟩ k hm hn (by show lenN n + 54 ≤ lenN m + k; omega)
    rw [← this]
    unfold quoR rndD
    have hb : (m * 2 ^ k % n != 0) = decide (m * 2 ^ k % n ≠ 0) := by rw [Bool.eq_iff_iff]; simp
    rw [hb]
theorem div_fin (x y : Nat) (hx : classI x ≤ 3) (hy : classI y ≤ 3) (h1 : x < 18446744073709551616) (h2 : y < 18446744073709551616) (mx : (dyW x).m ≠ 0) (my : (dyW y).m ≠ 0) :
    Ieee.double.div x y = some (quoD (nrm (dyW x)) (nrm (dyW y))) := by
  obtain ⟨e, _, _, hr, he⟩ := read_fin x hx h1
  obtain ⟨f, _, _, hs, hf⟩ := read_fin y hy h2
  unfold Ieee.Format.div
  rw [hr, hs, quoD_nrm _ _ mx my]
  have hl : lenN (dyW x).m ≤ 53 := lenN_le _ 53 (by have := dyW_m_lt x; simpa using this)
  obtain ⟨d, hd, hw⟩ := quo_number (dyW x).s (dyW y).s (dyW x).m (dyW y).m e f mx my (by omega)
  have e5 : Ieee.double.fractionBits + 2 = 54 := rfl
  rw [e5, hd]
  show some (Ieee.double.write d) = _
  rw [hw, he mx, hf my]
theorem div_nan (x y : Nat) (h : classI x = 5 ∨ classI y = 5 ∨ (classI x = 4 ∧ classI y = 4) ∨ (classI x ≤ 3 ∧ classI y ≤ 3 ∧ (dyW x).m = 0 ∧ (dyW y).m = 0)) (h1 : x < 18446744073709551616) (h2 : y < 18446744073709551616) : Ieee.double.div x y = none := by
  unfold Ieee.Format.div
  rcases h with h | h | ⟨h, h'⟩ | ⟨h, h', hn, hn'⟩
  · obtain ⟨s, t, hr⟩ := read_nan x h h1
    rw [hr]; rfl
  · obtain ⟨s, t, hr⟩ := read_nan y h h2
    rw [hr]
    cases Ieee.double.read x <;> rfl
  · rw [read_inf x h h1, read_inf y h' h2]; rfl
  · obtain ⟨e, _, _, hr, he⟩ := read_fin x h h1
    obtain ⟨f, _, _, hs, hf⟩ := read_fin y h' h2
    rw [hr, hs, hn, hn']; rfl
theorem div_inf (x y : Nat) (h : (classI x = 4 ∧ classI y ≤ 3) ∨ (classI x ≤ 3 ∧ classI y ≤ 3 ∧ (dyW x).m ≠ 0 ∧ (dyW y).m = 0)) (h1 : x < 18446744073709551616) (h2 : y < 18446744073709551616) : Ieee.double.div x y = some (wordN (negW x ^^ negW y) 9218868437227405312) := by
  unfold Ieee.Format.div
  rcases h with ⟨h, h'⟩ | ⟨h, h', hn, hn'⟩
  · obtain ⟨f, _, _, hs, hf⟩ := read_fin y h' h2
    rw [read_inf x h h1, hs, ← dyW_s y h' h2]
    show some (Ieee.double.write (.infinity _)) = _
    rw [word_inf]
  · obtain ⟨e, _, _, hr, he⟩ := read_fin x h h1
    obtain ⟨f, _, _, hs, hf⟩ := read_fin y h' h2
    rw [hr, hs, hn', ← dyW_s x h h1, ← dyW_s y h' h2]
    show ((if (dyW x).m = 0 then none else some (Ieee.Datum.infinity ((dyW x).s ^^ (dyW y).s))).map _) = _
    rw [if_neg hn]
    show some (Ieee.double.write (.infinity _)) = _
    rw [word_inf]
theorem div_zero (x y : Nat) (h : (classI y = 4 ∧ classI x ≤ 3) ∨ (classI x ≤ 3 ∧ classI y ≤ 3 ∧ (dyW x).m = 0 ∧ (dyW y).m ≠ 0)) (h1 : x < 18446744073709551616) (h2 : y < 18446744073709551616) : Ieee.double.div x y = some (wordN (negW x ^^ negW y) 0) := by
  unfold Ieee.Format.div
  rcases h with ⟨h, h'⟩ | ⟨h, h', hn, hn'⟩
  · obtain ⟨f, _, _, hs, hf⟩ := read_fin x h' h1
    rw [read_inf y h h2, hs, ← dyW_s x h' h1]
    show some (Ieee.double.write (.number _ 0 0)) = _
    rw [write_number, rndD_zero _ rfl]
  · obtain ⟨e, _, _, hr, he⟩ := read_fin x h h1
    obtain ⟨f, _, _, hs, hf⟩ := read_fin y h' h2
    rw [hr, hs, hn, ← dyW_s x h h1, ← dyW_s y h' h2]
    obtain ⟨k, hk⟩ : ∃ k, Ieee.double.fractionBits + 2 + (dyW y).m.log2 - (0 : Nat).log2 = k := ⟨_, rfl⟩
    show ((if (dyW y).m = 0 then _ else some (Ieee.Datum.number ((dyW x).s ^^ (dyW y).s) (2 * (0 <<< (Ieee.double.fractionBits + 2 + (dyW y).m.log2 - (0 : Nat).log2) / (dyW y).m) + (0 <<< (Ieee.double.fractionBits + 2 + (dyW y).m.log2 - (0 : Nat).log2) % (dyW y).m != 0).toNat) _)).map _) = _
    rw [if_neg hn', hk, Nat.zero_shiftLeft, Nat.zero_div, Nat.zero_mod]
    show some (Ieee.double.write (.number _ 0 _)) = _
    rw [write_number, rndD_zero _ rfl]

/-! ### Roots -/
def rootR (m : Nat) (e : Int) (k : Nat) : Nat := roundN false (2 * isqN (m * 2 ^ k) + (decide (isqN (m * 2 ^ k) * isqN (m * 2 ^ k) ≠ m * 2 ^ k)).toNat) ((e - k) / 2 - 1)
theorem isq_div (A D : Nat) (hD : 0 < D) : isqN (A * (D * D)) / D = isqN A := by
  have h1 := isqN_spec A
  have h2 := isqN_spec (A * (D * D))
  generalize isqN A = a at *
  generalize isqN (A * (D * D)) = q at *
  have l1 : a * D ≤ q := by
    apply Nat.le_of_not_lt
    intro h
    have : (q + 1) * (q + 1) ≤ (a * D) * (a * D) := Nat.mul_le_mul h h
    have e : (a * D) * (a * D) = a * a * (D * D) := by rw [Nat.mul_assoc, Nat.mul_left_comm D, ← Nat.mul_assoc]
    have : a * a * (D * D) ≤ A * (D * D) := Nat.mul_le_mul_right _ h1.1
    omega
  have l2 : q < (a + 1) * D := by
    apply Nat.lt_of_not_le
    intro h
    have h3 : ((a + 1) * D) * ((a + 1) * D) ≤ q * q := Nat.mul_le_mul h h
    have e : ((a + 1) * D) * ((a + 1) * D) = (a + 1) * (a + 1) * (D * D) := by rw [Nat.mul_assoc, Nat.mul_left_comm D, ← Nat.mul_assoc]
    have h4 : (A + 1) * (D * D) ≤ (a + 1) * (a + 1) * (D * D) := Nat.mul_le_mul_right _ h1.2
    have h5 : 0 < D * D := Nat.mul_pos hD hD
    rw [Nat.add_mul] at h4
    omega
  exact Nat.div_eq_of_lt_le l1 l2
theorem isq_exact (A D : Nat) (hD : 0 < D) : (decide (isqN (A * (D * D)) * isqN (A * (D * D)) ≠ A * (D * D)) || decide (isqN (A * (D * D)) % D ≠ 0)) = decide (isqN A * isqN A ≠ A) := by
  have hd := isq_div A D hD
  by_cases h : isqN A * isqN A = A
  · have hq : isqN (A * (D * D)) = isqN A * D := by
      apply isqN_unique
      · have e : (isqN A * D) * (isqN A * D) = isqN A * isqN A * (D * D) := by rw [Nat.mul_assoc, Nat.mul_left_comm D, ← Nat.mul_assoc]
        rw [e, h]; exact Nat.le_refl _
      · have e : (isqN A * D) * (isqN A * D) = isqN A * isqN A * (D * D) := by rw [Nat.mul_assoc, Nat.mul_left_comm D, ← Nat.mul_assoc]
        have : (isqN A * D) * (isqN A * D) < (isqN A * D + 1) * (isqN A * D + 1) := Nat.mul_self_lt_mul_self (Nat.lt_succ_self _)
        rw [e, h] at this; exact this
    have e : (isqN A * D) * (isqN A * D) = A * (D * D) := by rw [Nat.mul_assoc, Nat.mul_left_comm D, ← Nat.mul_assoc, h]
    rw [hq, e, Nat.mul_mod_left]
    simp [h]
  · have h3 : decide (isqN A * isqN A ≠ A) = true := by simp [h]
    rw [h3]
    simp only [Bool.or_eq_true, decide_eq_true_eq]
    by_cases hm : isqN (A * (D * D)) % D = 0
    · left
      intro he
      apply h
      have hq : isqN (A * (D * D)) = isqN A * D := by rw [← hd]; exact (Nat.div_mul_cancel (Nat.dvd_of_mod_eq_zero hm)).symm
      rw [hq] at he
      have e : (isqN A * D) * (isqN A * D) = isqN A * isqN A * (D * D) := by rw [Nat.mul_assoc, Nat.mul_left_comm D, ← Nat.mul_assoc]
      rw [e] at he
      exact Nat.eq_of_mul_eq_mul_right (Nat.mul_pos hD hD) he
    · exact .inr hm
theorem rootR_more (m : Nat) (e : Int) (k d : Nat) (h : 9007199254740992 ≤ isqN (m * 2 ^ k)) : rootR m e (k + 2 * d) = rootR m e k := by
  unfold rootR
  have hD := Nat.two_pow_pos d
  have e1 : m * 2 ^ (k + 2 * d) = m * 2 ^ k * (2 ^ d * 2 ^ d) := by rw [Nat.pow_add, ← Nat.mul_assoc, Nat.two_mul, Nat.pow_add]
  rw [e1]
  have hd := isq_div (m * 2 ^ k) (2 ^ d) hD
  have := roundN_more false (isqN (m * 2 ^ k * (2 ^ d * 2 ^ d))) d ((e - ((k + 2 * d : Nat) : Int)) / 2) (decide (isqN (m * 2 ^ k * (2 ^ d * 2 ^ d)) * isqN (m * 2 ^ k * (2 ^ d * 2 ^ d)) ≠ m * 2 ^ k * (2 ^ d * 2 ^ d))) (by rw [hd]; exact h)
  rw [this, hd, isq_exact _ _ hD]
  congr 1; omega
theorem rootR_same (m : Nat) (e : Int) (k k' : Nat) (hp : k % 2 = k' % 2) (h : 9007199254740992 ≤ isqN (m * 2 ^ k)) (h' : 9007199254740992 ≤ isqN (m * 2 ^ k')) : rootR m e k = rootR m e k' := by
  rcases Nat.le_total k k' with hk | hk
  · obtain ⟨d, rfl⟩ : ∃ d, k' = k + 2 * d := ⟨(k' - k) / 2, by omega⟩
    exact (rootR_more m e k d h).symm
  · obtain ⟨d, rfl⟩ : ∃ d, k = k' + 2 * d := ⟨(k - k') / 2, by omega⟩
    exact rootR_more m e k' d h'
theorem isq_big (n : Nat) (h : 107 ≤ lenN n) : 9007199254740992 ≤ isqN n := by
  apply Nat.le_of_not_lt
  intro hlt
  have h0 : n ≠ 0 := by intro h0; subst h0; simp [lenN] at h
  have h1 := (isqN_spec n).2
  have h2 : (isqN n + 1) * (isqN n + 1) ≤ 9007199254740992 * 9007199254740992 := Nat.mul_le_mul hlt hlt
  have h3 := lenN_ge n h0
  have h4 : 2 ^ 106 ≤ 2 ^ (lenN n - 1) := Nat.pow_le_pow_right (by decide) (by omega)
  simp only [Nat.reducePow, Nat.reduceMul] at h2 h4
  omega
/-- How far a root's number is shifted: the place behind is even. -/
noncomputable def rootD (x : Dy) : Nat := rootR x.m x.e (130 + (x.e % 2).toNat)
theorem rootD_at (x : Dy) (k : Nat) (hx : x.m ≠ 0) (hk : 107 ≤ lenN x.m + k) (hp : (x.e - k) % 2 = 0) : rootR x.m x.e k = rootD x := by
  have h3 : 0 < lenN x.m := by unfold lenN; rw [if_neg hx]; omega
  unfold rootD
  refine rootR_same _ _ _ _ (by omega) (isq_big _ ?_) (isq_big _ ?_)
  · rw [lenN_scale _ _ hx]; omega
  · rw [lenN_scale _ _ hx]; omega
theorem rootD_nrm (x : Dy) (hx : x.m ≠ 0) : rootD (nrm x) = rootD x := by
  have hx' := oddN_ne hx
  have h3 : 0 < lenN (oddN x.m) := by unfold lenN; rw [if_neg hx']; omega
  obtain ⟨k, hk⟩ : ∃ k, k = 130 + (x.e % 2).toNat := ⟨_, rfl⟩
  rw [← rootD_at (nrm x) (zerosN x.m + k) (by rw [nrm_m]; exact hx') (by rw [nrm_m]; omega) (by rw [nrm_e hx]; omega)]
  have : rootD x = rootR x.m x.e k := by unfold rootD; rw [hk]
  rw [this, nrm_m, nrm_e hx]
  unfold rootR
  have e1 : oddN x.m * 2 ^ (zerosN x.m + k) = x.m * 2 ^ k := by rw [Nat.pow_add, ← Nat.mul_assoc, oddN_mul]
  rw [e1]
  congr 2; omega
theorem rootFrom_spec (n : Nat) : ∀ (t r : Nat), r * r ≤ n → n < (r + 2 ^ t) * (r + 2 ^ t) → Ieee.Datum.rootFrom n t r = isqN n
  | 0, r, h1, h2 => by
    unfold Ieee.Datum.rootFrom
    exact (isqN_unique n r h1 (by simpa using h2)).symm
  | t + 1, r, h1, h2 => by
    unfold Ieee.Datum.rootFrom
    have e : 1 <<< t = 2 ^ t := by rw [Nat.shiftLeft_eq, Nat.one_mul]
    simp only [e]
    have e2 : r + 2 ^ (t + 1) = r + 2 ^ t + 2 ^ t := by rw [Nat.pow_succ]; omega
    split
    · rename_i h
      exact rootFrom_spec n t _ h (by rw [← e2]; exact h2)
    · rename_i h
      exact rootFrom_spec n t _ h1 (by omega)
theorem root_number (m : Nat) (i : Int) (hm : m ≠ 0) (hl : lenN m ≤ 53) : ∃ d, (Ieee.Datum.number false m i).root 54 = some d ∧ Ieee.double.write d = rootD ⟨false, m, i⟩ := by
  have lm := log2_len m hm
  obtain ⟨k0, hk0⟩ : ∃ k0, 2 * 54 - m.log2 = k0 := ⟨_, rfl⟩
  obtain ⟨k, hk⟩ : ∃ k, k0 + ((i - k0) % 2).toNat = k := ⟨_, rfl⟩
  obtain ⟨N, hN⟩ : ∃ N, m <<< k = N := ⟨_, rfl⟩
  have hr : Ieee.Datum.rootFrom N (N.log2 / 2 + 1) 0 = isqN N := by
    apply rootFrom_spec
    · exact Nat.zero_le _
    · rw [Nat.zero_add, ← Nat.pow_add]
      have : N < 2 ^ (N.log2 + 1) := Nat.lt_log2_self
      have h2 : 2 ^ (N.log2 + 1) ≤ 2 ^ (N.log2 / 2 + 1 + (N.log2 / 2 + 1)) := Nat.pow_le_pow_right (by decide) (by omega)
      omega
  refine ⟨.number false (2 * isqN N + (isqN N * isqN N != N).toNat) ((i - k) / 2 - 1), ?_, ?_⟩
  · unfold Ieee.Datum.root
    simp only [hm, if_false, hk0, hk, hN, hr, Bool.false_eq_true]
  · rw [write_number, ← rootD_at ⟨false, m, i⟩ k hm (by show 107 ≤ lenN m + k; omega) (by show (i - k) % 2 = 0; omega)]
    unfold rootR rndD
    rw [Nat.shiftLeft_eq] at hN
    have hb : (isqN N * isqN N != N) = decide (isqN N * isqN N ≠ N) := by rw [Bool.eq_iff_iff]; simp
    show roundN false (2 * isqN N + (isqN N * isqN N != N).toNat) ((i - k) / 2 - 1) = _
    rw [hb, ← hN]
theorem sqrt_fin (x : Nat) (hx : classI x ≤ 3) (h1 : x < 18446744073709551616) (mx : (dyW x).m ≠ 0) (hs : negW x = false) : Ieee.double.sqrt x = some (rootD (nrm (dyW x))) := by
  obtain ⟨e, _, _, hr, he⟩ := read_fin x hx h1
  unfold Ieee.Format.sqrt
  have hl : lenN (dyW x).m ≤ 53 := lenN_le _ 53 (by have := dyW_m_lt x; simpa using this)
  have e5 : Ieee.double.fractionBits + 2 = 54 := rfl
  rw [hr, e5, rootD_nrm _ mx, dyW_s x hx h1, hs]
  obtain ⟨d, hd, hw⟩ := root_number (dyW x).m e mx hl
  rw [hd]
  show some (Ieee.double.write d) = _
  rw [hw, he mx]
  rfl
theorem zero_word (x : Nat) (h : classI x ≤ 3) (hm : (dyW x).m = 0) (hx : x < 18446744073709551616) : wordN (negW x) 0 = x := by
  have h2 : (pMan (x : Int)).toNat = 0 := hm
  unfold pMan at h2
  unfold classI at h h2
  unfold wordN negW
  by_cases c : x / 9223372036854775808 = 1 <;> simp [c] <;> (repeat' split at h) <;> (repeat' split at h2) <;> omega
theorem sqrt_zero (x : Nat) (hx : classI x ≤ 3) (h1 : x < 18446744073709551616) (mx : (dyW x).m = 0) : Ieee.double.sqrt x = some x := by
  obtain ⟨e, _, _, hr, he⟩ := read_fin x hx h1
  unfold Ieee.Format.sqrt
  rw [hr, mx]
  show some (Ieee.double.write (.number _ 0 e)) = _
  rw [write_number, rndD_zero _ rfl]
  show some (wordN (dyW x).s 0) = _
  rw [dyW_s x hx h1, zero_word x hx mx h1]
theorem sqrt_neg (x : Nat) (hx : classI x ≤ 3) (h1 : x < 18446744073709551616) (mx : (dyW x).m ≠ 0) (hs : negW x = true) : Ieee.double.sqrt x = none := by
  obtain ⟨e, _, _, hr, he⟩ := read_fin x hx h1
  unfold Ieee.Format.sqrt
  rw [hr, dyW_s x hx h1, hs]
  show ((if (dyW x).m = 0 then _ else none).map _) = _
  rw [if_neg mx]; rfl
theorem sqrt_nan (x : Nat) (h : classI x = 5 ∨ (classI x = 4 ∧ negW x = true)) (h1 : x < 18446744073709551616) : Ieee.double.sqrt x = none := by
  unfold Ieee.Format.sqrt
  rcases h with h | ⟨h, hs⟩
  · obtain ⟨s, t, hr⟩ := read_nan x h h1
    rw [hr]; rfl
  · rw [read_inf x h h1, hs]; rfl
theorem sqrt_inf (x : Nat) (h : classI x = 4) (hs : negW x = false) (h1 : x < 18446744073709551616) : Ieee.double.sqrt x = some x := by
  unfold Ieee.Format.sqrt
  have := inf_word x h h1
  rw [read_inf x h h1, hs]
  rw [hs] at this
  show some (Ieee.double.write (.infinity false)) = _
  rw [word_inf, this]
end Go.Plumb
