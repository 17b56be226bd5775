/-
  nat.Bits, Zeros, Bit.
-/
import Derived.Test.YtjfjkabmpiebpaaDoorNatK
import Derived.Test.YtjfjkabmpiebpaaDoorZeros
set_option linter.unusedSimpArgs false
set_option linter.unusedVariables false
namespace Go.Plumb
open Go.RowKit
theorem lenN_unique {n k : Nat} (h1 : n < 2 ^ k) (h2 : k = 0 ∨ 2 ^ (k - 1) ≤ n) : lenN n = k := by
  rcases h2 with rfl | h2
  · have : n = 0 := by simp at h1; omega
    subst this; rfl
  · by_cases h0 : k = 0
    · subst h0
      have : n = 0 := by simp at h1; omega
      subst this; rfl
    · obtain ⟨j, rfl⟩ : ∃ j, k = j + 1 := ⟨k - 1, by omega⟩
      exact lenN_eq h2 h1
/-- How many bits a number of limbs has. -/
theorem lenN_limbs (A : Nat) (h : A ≠ 0) : lenN A = 64 * ((limbs A).length - 1) + lenN ((limbs A).getD ((limbs A).length - 1) 0) := by
  obtain ⟨l, hl⟩ : ∃ l, limbs A = l := ⟨_, rfl⟩
  have hlim := limbs_limbs A
  have hlast := limbs_last A h
  have hv := valL_limbs A
  rw [hl] at hlim hlast hv ⊢
  have hp : 0 < l.length := List.length_pos_iff.2 fun e => h ((limbs_nil_iff A).1 (by rw [hl, e]))
  obtain ⟨n, hn⟩ : ∃ n, l.length = n + 1 := ⟨l.length - 1, by omega⟩
  rw [hn, Nat.add_sub_cancel] at hlast ⊢
  obtain ⟨t, ht⟩ : ∃ t, l.getD n 0 = t := ⟨_, rfl⟩
  rw [ht] at hlast ⊢
  have e := valL_take_succ l n (by omega)
  rw [show n + 1 = l.length by omega, List.take_length, ht, hv] at e
  have h1 := valL_lt (hlim.take n)
  rw [List.length_take, Nat.min_eq_left (by omega)] at h1
  have hB : (18446744073709551616 : Nat) ^ n = 2 ^ (64 * n) := by rw [Nat.pow_mul]
  rw [hB] at e h1
  have hlt := lt_lenN t
  have hge := lenN_ge t hlast
  have hpos : lenN t ≠ 0 := by
    intro e0; rw [e0] at hlt; simp at hlt; exact hlast hlt
  refine lenN_unique ?_ (.inr ?_)
  · rw [Nat.pow_add, e]
    have := Nat.mul_le_mul_left (2 ^ (64 * n)) (show t + 1 ≤ 2 ^ lenN t from hlt)
    rw [Nat.mul_add, Nat.mul_one] at this
    omega
  · rw [show 64 * n + lenN t - 1 = 64 * n + (lenN t - 1) by omega, Nat.pow_add, e]
    have := Nat.mul_le_mul_left (2 ^ (64 * n)) hge
    omega
theorem exists_zeros (A : Nat) (h : A ≠ 0) : ∃ k, A % 2 ^ k = 0 ∧ A / 2 ^ k % 2 = 1 := by
  induction A using Nat.strongRecOn with
  | ind A ih =>
    by_cases h1 : A % 2 = 1
    · exact ⟨0, by simp [Nat.mod_one], by simpa using h1⟩
    · obtain ⟨k, hk1, hk2⟩ := ih (A / 2) (by omega) (by omega)
      refine ⟨k + 1, ?_, ?_⟩
      · rw [Nat.pow_succ, Nat.mul_comm, Nat.mod_mul, hk1]; omega
      · rw [Nat.pow_succ, Nat.mul_comm, ← Nat.div_div_eq_div_mul]; exact hk2
open Classical in
/-- How often 2 divides a number; 0, if it is nought. -/
noncomputable def zerosN (A : Nat) : Nat := if h : A = 0 then 0 else Classical.choose (exists_zeros A h)
theorem zerosN_spec (A : Nat) (h : A ≠ 0) : A % 2 ^ zerosN A = 0 ∧ A / 2 ^ zerosN A % 2 = 1 := by
  unfold zerosN
  rw [dif_neg h]
  exact Classical.choose_spec (exists_zeros A h)
theorem zerosN_zero : zerosN 0 = 0 := by unfold zerosN; rw [dif_pos rfl]
theorem zeros_unique (A j k : Nat) (h1 : A % 2 ^ j = 0) (h2 : A / 2 ^ j % 2 = 1) (h3 : A % 2 ^ k = 0) (h4 : A / 2 ^ k % 2 = 1) : j = k := by
  have key : ∀ a b, A % 2 ^ b = 0 → A / 2 ^ a % 2 = 1 → ¬ a < b := by
    intro a b hb ha hlt
    obtain ⟨c, rfl⟩ : ∃ c, b = a + (c + 1) := ⟨b - a - 1, by omega⟩
    obtain ⟨q, hq⟩ := Nat.dvd_of_mod_eq_zero hb
    rw [hq, Nat.pow_add, Nat.mul_assoc, Nat.mul_div_cancel_left _ (Nat.two_pow_pos a), Nat.pow_succ, Nat.mul_comm (2 ^ c) 2, Nat.mul_assoc, Nat.mul_mod_right] at ha
    omega
  have a := key j k h3 h2
  have b := key k j h1 h4
  omega
theorem zerosN_eq (A k : Nat) (h3 : A % 2 ^ k = 0) (h4 : A / 2 ^ k % 2 = 1) : zerosN A = k := by
  have h : A ≠ 0 := by rintro rfl; simp at h4
  obtain ⟨a, b⟩ := zerosN_spec A h
  exact zeros_unique A _ _ a b h3 h4
/-- The number of noughts at the lower end, limb by limb. -/
theorem zerosN_limbs (l : List Nat) (n z : Nat) (hl : Limbs l) (hn : n < l.length) (hz : ∀ j, j < n → l.getD j 0 = 0) (h1 : l.getD n 0 % 2 ^ z = 0) (h2 : l.getD n 0 / 2 ^ z % 2 = 1) : zerosN (valL l) = 64 * n + z := by
  obtain ⟨x, hx⟩ : ∃ x, l.getD n 0 = x := ⟨_, rfl⟩
  rw [hx] at h1 h2
  have hxl := hl.get n
  rw [hx] at hxl
  have hz64 : z < 64 := by
    apply Nat.lt_of_not_le
    intro hle
    have hp := Nat.pow_le_pow_right (show 0 < 2 by decide) hle
    rw [Nat.div_eq_of_lt (by have e : (2:Nat) ^ 64 = 18446744073709551616 := by decide
                             omega)] at h2
    omega
  have hv : valL l = 18446744073709551616 ^ n * (x + 18446744073709551616 * valL (l.drop (n + 1))) := by
    have e := valL_split l n (by omega)
    have h0 : valL (l.take n) = 0 := by
      clear e h1 h2 hx hxl
      induction n with
      | zero => simp [valL]
      | succ n ih => rw [valL_take_any, ih (by omega) (fun j hj => hz j (by omega)), hz n (by omega)]; simp
    rw [h0, Nat.zero_add, valL_drop l n hn, hx] at e
    exact e
  have hB : (18446744073709551616 : Nat) ^ n = 2 ^ (64 * n) := by rw [Nat.pow_mul]
  have hs := pow_split z hz64
  have e2 : x + 18446744073709551616 * valL (l.drop (n + 1)) = 2 ^ z * (x / 2 ^ z + 2 ^ (64 - z) * valL (l.drop (n + 1))) := by
    rw [Nat.mul_add, ← Nat.mul_assoc, hs]
    have := Nat.div_add_mod x (2 ^ z)
    omega
  have e3 : valL l = 2 ^ (64 * n + z) * (x / 2 ^ z + 2 ^ (64 - z) * valL (l.drop (n + 1))) := by
    rw [hv, hB, e2, Nat.pow_add, Nat.mul_assoc]
  refine zerosN_eq _ _ ?_ ?_
  · rw [e3, Nat.mul_mod_right]
  · rw [e3, Nat.mul_div_cancel_left _ (Nat.two_pow_pos _)]
    obtain ⟨m, hm⟩ : ∃ m, 64 - z = m + 1 := ⟨63 - z, by omega⟩
    rw [hm, Nat.pow_succ, Nat.mul_comm (2 ^ m) 2, Nat.mul_assoc]
    omega
/-- A bit of a number of limbs. -/
theorem testBit_valL (l : List Nat) (hl : Limbs l) (i : Nat) : (valL l).testBit i = (l.getD (i / 64) 0).testBit (i % 64) := by
  have hr : i % 64 < 64 := Nat.mod_lt _ (by decide)
  by_cases h : i / 64 < l.length
  · have e := valL_split l (i / 64) (by omega)
    rw [valL_drop l _ h] at e
    have h1 := valL_lt (hl.take (i / 64))
    rw [List.length_take, Nat.min_eq_left (by omega)] at h1
    have hB : (18446744073709551616 : Nat) ^ (i / 64) = 2 ^ (64 * (i / 64)) := by rw [Nat.pow_mul]
    rw [hB] at e h1
    have hq : valL l / 2 ^ i % 2 = l.getD (i / 64) 0 / 2 ^ (i % 64) % 2 := by
      have hi : (2 : Nat) ^ i = 2 ^ (64 * (i / 64)) * 2 ^ (i % 64) := by rw [← Nat.pow_add, Nat.div_add_mod]
      rw [hi, ← Nat.div_div_eq_div_mul, e, Nat.add_comm, Nat.mul_add_div (Nat.two_pow_pos _), Nat.div_eq_of_lt h1, Nat.add_zero, shr_low _ _ _ hr]
      obtain ⟨m, hm⟩ : ∃ m, 64 - i % 64 = m + 1 := ⟨63 - i % 64, by omega⟩
      rw [hm, Nat.pow_succ, ← Nat.mul_assoc]
      omega
    rw [Nat.testBit_eq_decide_div_mod_eq, Nat.testBit_eq_decide_div_mod_eq, hq]
  · have h0 : l.getD (i / 64) 0 = 0 := by simp [List.getD, List.getElem?_eq_none (Nat.le_of_not_lt h)]
    rw [h0, Nat.zero_testBit]
    apply Nat.testBit_lt_two_pow
    have h1 := valL_lt hl
    have h2 := Nat.pow_le_pow_right (show 0 < 18446744073709551616 by decide) (show l.length ≤ i / 64 by omega)
    have hB : (18446744073709551616 : Nat) ^ (i / 64) = 2 ^ (64 * (i / 64)) := by rw [Nat.pow_mul]
    have h3 := Nat.pow_le_pow_right (show 0 < 2 by decide) (show 64 * (i / 64) ≤ i by omega)
    rw [hB] at h2
    omega
def bitB (A : Nat) (i : Int) : Bool := decide (0 ≤ i) && A.testBit i.toNat
end Go.Plumb
namespace Go.Proofs.YtjfjkabmpiebpaaDoor
open Go.RowKit Go.Plumb

theorem ret2_int {k : IntKind} {a b : Int} {x : Value} (h : a = b) : Ending.returned (.tuple #[.int k a, x]) = .returned (.tuple #[.int k b, x]) := by rw [h]
theorem Bits_nil (a : Option Addr) (c : Nat) (l : List Nat) (w : World) (hA : Arr w a c l) (h0 : valL l = 0) :
    Calls Tryd.prog 39 #[.slice a l.length c] w fun e w' => e = .returned (.tuple #[.int .i64 0, .int .i64 0]) ∧ Below w.heap.size w w' := by
  have hO := open1_in a c l w hA (by rw [h0, limbs_zero]; simp)
  rw [h0, limbs_zero, List.length_nil] at hO
  obtain ⟨w2, hw2⟩ : ∃ w2, ((w.alloc (.cells #[.slice a 0 c] 22)).alloc (.cells #[.pointer (some ⟨w.heap.size, 0, none⟩)] 62)) = w2 := ⟨_, rfl⟩
  have hB2 : Below w.heap.size w w2 := by rw [← hw2]; (repeat' (first | exact Below.refl _ _ | assumption | (refine below_alloc ?_ _) | (refine Below.setCell ?_ ?_ _) | (refine Below.drew ?_) | (refine below_drewN ?_ _))) <;> (first | (simp; done) | (simp; omega) | omega)
  have c1 : w2.cell? ⟨w.heap.size, 0, none⟩ = some (.slice a 0 c) := by rw [← hw2]; simp [go_sem]
  rw [hw2] at hO
  have HB2 := Lib.hid hB2
  clear hw2 hA hB2 h0
  go_enter Tryd.func39, Tryd.ntmps39
  go_wp2_with fail
  refine hO.mono ?_
  rintro e w' ⟨rfl, rfl⟩
  go_wp2_with fail
  go_ret2
  exact ⟨rfl, HB2.out⟩
set_option maxHeartbeats 1000000 in
theorem Bits_pos (a : Option Addr) (c : Nat) (l : List Nat) (w : World) (hA : Arr w a c l) (hl : (limbs (valL l)).length ≤ 4096) (h0 : valL l ≠ 0) :
    Calls Tryd.prog 39 #[.slice a l.length c] w fun e w' => e = .returned (.tuple #[.int .i64 (lenN (valL l) : Int), .int .i64 0]) ∧ Below w.heap.size w w' := by
  have hO := open1_in a c l w hA hl
  obtain ⟨w2, hw2⟩ : ∃ w2, ((w.alloc (.cells #[.slice a (limbs (valL l)).length c] 22)).alloc (.cells #[.pointer (some ⟨w.heap.size, 0, none⟩)] 62)) = w2 := ⟨_, rfl⟩
  have hB2 : Below w.heap.size w w2 := by rw [← hw2]; (repeat' (first | exact Below.refl _ _ | assumption | (refine below_alloc ?_ _) | (refine Below.setCell ?_ ?_ _) | (refine Below.drew ?_) | (refine below_drewN ?_ _))) <;> (first | (simp; done) | (simp; omega) | omega)
  rw [hw2] at hO
  have hAn := hA.norm.below hB2
  have hL := lenN_limbs _ h0
  obtain ⟨L, hLL⟩ : ∃ L, lenN (valL l) = L := ⟨_, rfl⟩
  rw [hLL] at hL ⊢
  obtain ⟨la, hla⟩ : ∃ la, limbs (valL l) = la := ⟨_, rfl⟩
  have hp : 0 < la.length := List.length_pos_iff.2 fun e => h0 ((limbs_nil_iff _).1 (by rw [hla, e]))
  rw [hla] at hl hAn hL
  obtain ⟨n, hn⟩ : ∃ n, la.length = n := ⟨_, rfl⟩
  have c1 : w2.cell? ⟨w.heap.size, 0, none⟩ = some (.slice a n c) := by rw [← hw2, hla, hn]; simp [go_sem]
  obtain ⟨b, off, rfl, hf⟩ := hAn.at (List.length_pos_iff.1 hp)
  have hc := hf (n - 1) (by omega)
  rw [hn] at hl hp hL
  obtain ⟨t, ht⟩ : ∃ t, la.getD (n - 1) 0 = t := ⟨_, rfl⟩
  have htl : t < 18446744073709551616 := by rw [← ht]; exact hAn.2.2.1.get _
  rw [ht] at hc hL
  have hlz := fun w' => lz64_any (t : Int) w' (by omega) (by omega)
  have elen : lenI (t : Int) = (lenN t : Int) := by unfold lenI; simp
  rw [elen] at hlz
  obtain ⟨q, hq⟩ : ∃ q, lenN t = q := ⟨_, rfl⟩
  have hq64 : q ≤ 64 := by rw [← hq]; exact lenN_le t 64 (by simpa using htl)
  rw [hq] at hlz hL
  have HL := Lib.hid hL
  have HB2 := Lib.hid hB2
  have z1 : (0 : Int) ≤ (n : Int) - 1 := by omega
  have z2 : (n : Int) - 1 < (n : Int) := by omega
  have z3 : ((n : Int) - 1).toNat = n - 1 := by omega
  have z4 : ((n : Int) == 0) = false := by simp; omega
  clear hw2 hA hB2 h0 hAn hf hLL hla hn ht elen hq hL
  go_enter Tryd.func39, Tryd.ntmps39
  go_wp2_with fail
  refine hO.mono ?_
  rintro e w' ⟨rfl, rfl⟩
  clear hO
  go_wp2_with fail
  go_quiet ((go_at_call 69; exact quiet_eq (hlz _)))
  go_wp2_with fail
  go_ret2
  have := HL.out
  exact ⟨ret2_int (k := .i64) (show 64 * (n : Int) - (64 - (q : Int)) = (L : Int) by omega), below_drewN HB2.out _⟩
/-- nat.Bits at every number that may be. -/
theorem Bits_any (a : Option Addr) (c : Nat) (l : List Nat) (w : World) (hA : Arr w a c l) (hl : (limbs (valL l)).length ≤ 4096) :
    Calls Tryd.prog 39 #[.slice a l.length c] w fun e w' => e = .returned (.tuple #[.int .i64 (lenN (valL l) : Int), .int .i64 0]) ∧ Below w.heap.size w w' := by
  by_cases h0 : valL l = 0
  · have := Bits_nil a c l w hA h0
    rw [h0]
    exact this
  · exact Bits_pos a c l w hA hl h0

theorem Zeros_nil (a : Option Addr) (c : Nat) (l : List Nat) (w : World) (hA : Arr w a c l) (h0 : valL l = 0) :
    Calls Tryd.prog 40 #[.slice a l.length c] w fun e w' => e = .returned (.tuple #[.int .i64 0, .int .i64 0]) ∧ Below w.heap.size w w' := by
  have hO := open1_in a c l w hA (by rw [h0, limbs_zero]; simp)
  rw [h0, limbs_zero, List.length_nil] at hO
  obtain ⟨w2, hw2⟩ : ∃ w2, ((w.alloc (.cells #[.slice a 0 c] 22)).alloc (.cells #[.pointer (some ⟨w.heap.size, 0, none⟩)] 62)) = w2 := ⟨_, rfl⟩
  have hB2 : Below w.heap.size w w2 := by rw [← hw2]; (repeat' (first | exact Below.refl _ _ | assumption | (refine below_alloc ?_ _) | (refine Below.setCell ?_ ?_ _) | (refine Below.drew ?_) | (refine below_drewN ?_ _))) <;> (first | (simp; done) | (simp; omega) | omega)
  have c1 : w2.cell? ⟨w.heap.size, 0, none⟩ = some (.slice a 0 c) := by rw [← hw2]; simp [go_sem]
  rw [hw2] at hO
  have HB2 := Lib.hid hB2
  clear hw2 hA hB2 h0
  go_enter Tryd.func40, Tryd.ntmps40
  go_wp2_with fail
  refine hO.mono ?_
  rintro e w' ⟨rfl, rfl⟩
  go_wp2_with fail
  go_ret2
  exact ⟨rfl, HB2.out⟩
theorem first_limb (l : List Nat) (h : valL l ≠ 0) : ∃ m, m < l.length ∧ (∀ j, j < m → l.getD j 0 = 0) ∧ l.getD m 0 ≠ 0 := by
  induction l with
  | nil => exact absurd rfl h
  | cons x l ih =>
    by_cases hx : x = 0
    · obtain ⟨m, h1, h2, h3⟩ := ih (by intro e; apply h; simp [valL, hx, e])
      refine ⟨m + 1, by simp; omega, fun j hj => ?_, by simpa using h3⟩
      cases j with
      | zero => simpa using hx
      | succ j => simpa using h2 j (by omega)
    · exact ⟨0, by simp, fun j hj => by omega, by simpa using hx⟩
theorem ctz_spec (x : Nat) (hx : x < 18446744073709551616) (h0 : x ≠ 0) : x % 2 ^ Lib.ctz 64 x = 0 ∧ x / 2 ^ Lib.ctz 64 x % 2 = 1 := by
  obtain ⟨m, hm, hk⟩ := Lib.ctzFrom_spec 64 x (by omega) (by simpa using hx)
  have e : Lib.ctz 64 x = Lib.ctzFrom 64 x := by simp [Lib.ctz, h0]
  rw [e]
  generalize Lib.ctzFrom 64 x = k at *
  subst hm
  rw [Nat.mul_mod_right, Nat.mul_div_cancel_left _ (Nat.two_pow_pos k)]
  omega
set_option maxHeartbeats 2000000 in
theorem Zeros_pos (a : Option Addr) (c : Nat) (l : List Nat) (w : World) (hA : Arr w a c l) (hl : (limbs (valL l)).length ≤ 4096) (h0 : valL l ≠ 0) (hT : Tab w) :
    Calls Tryd.prog 40 #[.slice a l.length c] w fun e w' => e = .returned (.tuple #[.int .i64 (zerosN (valL l) : Int), .int .i64 0]) ∧ Below w.heap.size w w' := by
  have hO := open1_in a c l w hA hl
  obtain ⟨w2, hw2⟩ : ∃ w2, ((w.alloc (.cells #[.slice a (limbs (valL l)).length c] 22)).alloc (.cells #[.pointer (some ⟨w.heap.size, 0, none⟩)] 62)) = w2 := ⟨_, rfl⟩
  have hB2 : Below w.heap.size w w2 := by rw [← hw2]; (repeat' (first | exact Below.refl _ _ | assumption | (refine below_alloc ?_ _) | (refine Below.setCell ?_ ?_ _) | (refine Below.drew ?_) | (refine below_drewN ?_ _))) <;> (first | (simp; done) | (simp; omega) | omega)
  rw [hw2] at hO
  have hAn := hA.norm.below hB2
  obtain ⟨la, hla⟩ : ∃ la, limbs (valL l) = la := ⟨_, rfl⟩
  have hv : valL l = valL la := by rw [← hla, valL_limbs]
  have hp : 0 < la.length := List.length_pos_iff.2 fun e => h0 ((limbs_nil_iff _).1 (by rw [hla, e]))
  rw [hla] at hl hAn
  rw [hv] at h0 ⊢
  obtain ⟨m, hm, hm1, hm2⟩ := first_limb la h0
  obtain ⟨t, ht⟩ : ∃ t, la.getD m 0 = t := ⟨_, rfl⟩
  have htl : t < 18446744073709551616 := by rw [← ht]; exact hAn.2.2.1.get _
  rw [ht] at hm2
  obtain ⟨z1, z2⟩ := ctz_spec t htl hm2
  have hL := zerosN_limbs la m (Lib.ctz 64 t) hAn.2.2.1 hm hm1 (by rw [ht]; exact z1) (by rw [ht]; exact z2)
  obtain ⟨q, hq⟩ : ∃ q, Lib.ctz 64 t = q := ⟨_, rfl⟩
  have htz : ∀ w', Tab w' → Calls Tryd.prog 70 #[.int .u64 (t : Int)] w' fun e w'' => e = .returned (.int .i64 (q : Int)) ∧ w' = w'' := fun w' h => by
    have := tz64_any (t : Int) w' (by omega) (by omega) h
    rw [Int.toNat_natCast, hq] at this
    exact this
  rw [hq] at hL
  have hq64 : q < 64 := by
    apply Nat.lt_of_not_le
    intro hle
    have hpw := Nat.pow_le_pow_right (show 0 < 2 by decide) hle
    rw [hq, Nat.div_eq_of_lt (by have e : (2:Nat) ^ 64 = 18446744073709551616 := by decide
                                 omega)] at z2
    omega
  obtain ⟨n, hn⟩ : ∃ n, la.length = n := ⟨_, rfl⟩
  have c1 : w2.cell? ⟨w.heap.size, 0, none⟩ = some (.slice a n c) := by rw [← hw2, hla, hn]; simp [go_sem]
  obtain ⟨b, off, rfl, hf⟩ := hAn.at (List.length_pos_iff.1 hp)
  have HF := Lib.hid hf
  have HM := Lib.hid hm1
  have Ht := Lib.hid ht
  rw [hn] at hl hp hm
  have HL := Lib.hid hL
  have HB2 := Lib.hid hB2
  have HT2 := Lib.hid (hT.below hB2)
  have Hn := Lib.hid hn
  have z4 : ((n : Int) == 0) = false := by simp; omega
  clear hw2 hA hB2 h0 hAn hf hla hn ht hq hL hT hv z1 z2 hm1
  go_enter Tryd.func40, Tryd.ntmps40
  go_wp2_with fail
  refine hO.mono ?_
  rintro e w' ⟨rfl, rfl⟩
  clear hO
  go_wp2_with fail
  go_loopw [5] (fun v wr => ∃ j : Nat, j ≤ m ∧ v = .int .i64 (j : Int) ∧ Hid (Below w2.heap.size w2 wr)) (fun v _ => m - (intOf v).toNat)
  case atStart => exact ⟨0, Nat.zero_le _, rfl, Lib.hid (Below.refl _ _)⟩
  case round =>
    obtain ⟨j, hj, rfl, hBr⟩ := hrel
    have c1' := (hBr.out.cell (p := ⟨w.heap.size, 0, none⟩) (cell_lt c1)).trans c1
    have hc := (hBr.out.cell (p := ⟨b, off + j, none⟩) (cell_lt (HF.out j (by have := Hn.out; omega)))).trans (HF.out j (by have := Hn.out; omega))
    have z5 : (0 : Int) ≤ (j : Int) := by omega
    have z6 : (j : Int) < (n : Int) := by omega
    by_cases hlt : j < m
    · rw [HM.out j hlt] at hc
      go_wp2_with fail
      go_roundw
      case rel => exact ⟨j + 1, by omega, by go_num, hBr⟩
      case measure => simp [intOf]; omega
    · obtain rfl : m = j := by omega
      rw [Ht.out] at hc
      have z7 : ((t : Int) == 0) = false := by simp; omega
      have hT3 := HT2.out.below hBr.out
      have HT3 := Lib.hid hT3
      clear hT3
      go_wp2_with fail
      refine (htz wr HT3.out).mono ?_
      rintro e w' ⟨rfl, rfl⟩
      go_wp2_with fail
      go_ret2
      have := HL.out
      exact ⟨ret2_int (k := .i64) (show 64 * (m : Int) + (q : Int) = (zerosN (valL la) : Int) by omega), below_step HB2.out hBr.out⟩
/-- nat.Zeros at every number that may be. -/
theorem Zeros_any (a : Option Addr) (c : Nat) (l : List Nat) (w : World) (hA : Arr w a c l) (hl : (limbs (valL l)).length ≤ 4096) (hT : Tab w) :
    Calls Tryd.prog 40 #[.slice a l.length c] w fun e w' => e = .returned (.tuple #[.int .i64 (zerosN (valL l) : Int), .int .i64 0]) ∧ Below w.heap.size w w' := by
  by_cases h0 : valL l = 0
  · have := Zeros_nil a c l w hA h0
    rw [h0, zerosN_zero]
    exact this
  · exact Zeros_pos a c l w hA hl h0 hT

theorem ret_bool {a b : Bool} (h : a = b) : Ending.returned (.bool a) = .returned (.bool b) := by rw [h]
theorem bit_and (x k : Nat) (hx : x < 18446744073709551616) : (bits .and .u64 ((x : Int) / 2 ^ k) 1 == 1) = x.testBit k := by
  have e : (x : Int) / 2 ^ k = ((x / 2 ^ k : Nat) : Int) := by simp
  have h : x / 2 ^ k ≤ x := Nat.div_le_self _ _
  rw [e, Nat.testBit_eq_decide_div_mod_eq]
  generalize x / 2 ^ k = y at *
  rw [and_1 (by omega) (by omega)]
  by_cases h1 : y % 2 = 1
  · rw [h1]; simp; omega
  · simp [h1]; omega
theorem Bit_neg (a : Option Addr) (n c : Nat) (i : Int) (w : World) (hi : i < 0) :
    Calls Tryd.prog 43 #[.slice a n c, .int .i64 i] w fun e w' => e = .returned (.bool false) ∧ w = w' := by
  have h1 : decide ((0 : Int) ≤ i) = false := by simp; omega
  go_enter Tryd.func43, Tryd.ntmps43
  go_wp2_with fail
  go_ret
  exact ⟨rfl, rfl⟩
theorem Bit_far (a : Option Addr) (n c i : Nat) (w : World) (hi : n ≤ i / 64) (hi2 : i ≤ 9223372036854775807) :
    Calls Tryd.prog 43 #[.slice a n c, .int .i64 (i : Int)] w fun e w' => e = .returned (.bool false) ∧ w = w' := by
  have h1 : decide ((0 : Int) ≤ (i : Int)) = true := by simp
  have h2 : decide ((i : Int) / 64 < (n : Int)) = false := by simp; omega
  go_enter Tryd.func43, Tryd.ntmps43
  go_wp2_with fail
  go_ret
  exact ⟨rfl, rfl⟩
theorem Bit_near (b off n c i x : Nat) (w : World) (hi : i / 64 < n) (hi2 : i ≤ 9223372036854775807) (hc : w.cell? ⟨b, off + i / 64, none⟩ = some (.int .u64 (x : Int))) (hx : x < 18446744073709551616) :
    Calls Tryd.prog 43 #[.slice (some ⟨b, off, none⟩) n c, .int .i64 (i : Int)] w fun e w' => e = .returned (.bool (x.testBit (i % 64))) ∧ w = w' := by
  have h1 : decide ((0 : Int) ≤ (i : Int)) = true := by simp
  have h2 : decide ((i : Int) / 64 < (n : Int)) = true := by simp; omega
  have h3 : (0 : Int) ≤ (i : Int) % 64 := by omega
  have h4 : (i : Int) % 64 < 64 := by omega
  go_enter Tryd.func43, Tryd.ntmps43
  go_wp2_with fail
  go_ret
  exact ⟨ret_bool (bit_and x (i % 64) hx), rfl⟩
/-- nat.Bit at every list of limbs, at every place. -/
theorem Bit_any (a : Option Addr) (c : Nat) (i : Int) (l : List Nat) (w : World) (hA : Arr w a c l) (hi : i ≤ 9223372036854775807) :
    Calls Tryd.prog 43 #[.slice a l.length c, .int .i64 i] w fun e w' => e = .returned (.bool (bitB (valL l) i)) ∧ w = w' := by
  by_cases h0 : i < 0
  · have e : bitB (valL l) i = false := by unfold bitB; simp; omega
    rw [e]
    exact Bit_neg a _ c i w h0
  · obtain ⟨k, rfl⟩ := Int.eq_ofNat_of_zero_le (Int.not_lt.1 h0)
    have e : bitB (valL l) (k : Int) = (l.getD (k / 64) 0).testBit (k % 64) := by unfold bitB; rw [Int.toNat_natCast, testBit_valL l hA.2.2.1]; simp
    rw [e]
    by_cases h1 : k / 64 < l.length
    · obtain ⟨b, off, rfl, hc⟩ := hA.2.2.2 _ h1
      exact Bit_near b off _ c k _ w h1 (by omega) hc (hA.2.2.1.get _)
    · have e0 : l.getD (k / 64) 0 = 0 := by simp [List.getD, List.getElem?_eq_none (Nat.le_of_not_lt h1)]
      rw [e0, Nat.zero_testBit]
      exact Bit_far a _ c k w (by omega) (by omega)
end Go.Proofs.YtjfjkabmpiebpaaDoor
